/-
  A slice of one's own that need not begin where its block does: a queue.
  Further steps: values that are arrays, shifts and joins of numbers, structs of numbers compared; conditions put together.
  Contracts: the reader of types' texts: comes, take.
  Contracts: the reader of types' texts: digits.
  What is read of bytes, byte by byte: readers as data; how far they go. No program in sight.
  Contracts: the reader of types' texts: kind, ref.
  Contracts: the reader of types' texts: ref.
  Contracts: the reader of types' texts: kind.
  Contracts: types.Read.
  Contracts: the document's reader of types' texts: next, word, number.
  Contracts: the document's reader of types' texts: number.
  Contracts: the document's reader of types' texts: reference, kind.
  Contracts: the document's reader of types' texts: Read.
  Contracts: equal (of what is alike), spoil.
  Contracts: a type's nodes as one's own cells; own, Own.
  Contracts: walk that turns regions; Number, Anew.
  Contracts: Anew of types.
  Contracts: laid, Number, Anew of the document's answer.
  Structs as data; what stands in what: the plain laws.
  Contracts: words, endless, first of package types.
  Contracts: Structs, May, Words, Drops of package types.
  Contracts: the document's answer: plain, endless, words, Structs, May, Words, Drops, Copies.
  Contracts: the document's answer: endless, Structs, May, Words, Drops.
  Contracts: fits; a struct's fields in new memory, of both sides.
  A law's end: the answer is true, the input reads as it did.
  Whatever an argument reads as, it is a datum: one theorem for all types of numbers, texts, structs and slices.
  Lists in memory, of whatever things: what a slice tells, read and grown.
  Data that are of a type, taken apart; what slices of data tell.
  Programs as graphs, as data; what a memory tells of them.
  Which programs may be: the plain law.
  Which programs may be: what is walked may be, plain facts.
  Regions of a graph: the plain law.
  Regions of a type turned, erased: step by step.
  Contracts: zero, the type of a place of a graph.
  Contracts: the type of an operand of a graph.
  Contracts: which fields a point may have.
-/
import Derived.Test.YtngfnikkdhbajaaQVa
import Derived.Test.YtngfnikkdhbajaaQVb
import Derived.ArgAppend
import Derived.ChangeSame
import Derived.ChangeStays
import Derived.ReadAgain
import Derived.ProofKit
import Derived.OpenShut
import Derived.Deep.DeepHandedRow
import Derived.Lib.LaidTab
import Derived.Lib.SmallJoins
import Derived.ChangeArms
import Derived.DataReads

section
namespace Go.Sh
open Go.RowKit
theorem g_TT {A B : Prop} (a : A) : gIf (.bool true) true A B := a
theorem g_FF {A B : Prop} (a : A) : gIf (.bool false) false A B := a
theorem g_TF {A B : Prop} (b : B) : gIf (.bool true) false A B := b
theorem g_FT {A B : Prop} (b : B) : gIf (.bool false) true A B := b
section
variable {w : World} {A : (List Value → World → Prop) → Prop} {Z : Value → World → Prop} {b c : Bool}
theorem j_borR (R : World → Prop) (h0 : b = true → R w) (hA : b = false → ∀ K : List Value → World → Prop, (∀ w', R w' → K [.bool c] w') → A K) (hZ : ∀ w', R w' → Z (.bool (b || c)) w') :
    sJoin (fun K => gIf (.bool b) false (A K) (K [undef] w)) fun s _ w' => oPick (.bool b) (.bool true) (s.getD 0 undef) fun t => Z t w' := by
  intro K hK
  cases b with
  | true => exact hK _ _ fun _ => ⟨true, rfl, by simpa using hZ w (h0 rfl)⟩
  | false => exact hA rfl K fun w' e => hK _ _ fun _ => ⟨false, rfl, by simpa using hZ w' e⟩
end
theorem g_UU {want : Bool} {A B : Prop} (b : B) : gIf undef want A B := b
section
variable {P : Program} {w : World} {t e : TypeId} {size n m : Nat} {v : Value} {xs news : List Value}
theorem Que.of_row {base : Nat} (h : w.ownsRow base e size v n xs) : Que w e size v n xs := by
  refine ⟨h.1, ?_⟩
  rcases own_blk h with ⟨rfl, rfl, rfl⟩ | ⟨g, cap, c, rfl, hb, B, h1, h2, h3, h4⟩
  · exact .inl ⟨rfl, rfl⟩
  · exact .inr ⟨g, 0, cap, c, rfl, B, h1, h2, by omega, by rw [List.drop_zero]; exact h4⟩
theorem Que.shape (h : Que w e size v n xs) : ∃ p cap, v = .slice p n cap ∧ (p = none → cap = 0) ∧ n ≤ cap ∧ xs.length = n * size ∧ Sl w p xs := by
  obtain ⟨hl, ⟨rfl, rfl⟩ | ⟨g, off, cap, c, rfl, B, h1, h2, h3, h4⟩⟩ := h
  · have hx : xs = [] := by simpa using hl
    subst hx
    exact ⟨none, 0, rfl, fun _ => rfl, Nat.le_refl _, hl, Sl.nil _ _⟩
  · refine ⟨_, cap, rfl, by simp, h1, hl, fun i v hv => ⟨g, off, rfl, ?_⟩⟩
    rw [B.cell]
    rw [← h4, List.getElem?_take] at hv
    split at hv
    · rwa [List.getElem?_drop] at hv
    · cases hv
theorem w_appendQ {K : Value → World → Prop} {ty : TypeId} {bytes : Nat} {a : Addr} {c : Nat}
    (hT : apT P t = some (e, size, bytes)) (hown : Que w e size v n xs) (hs : Sl w (some a) news) (hl : news.length = m * size) (h1 : ∀ u ∈ news, u.oneCell' = true)
    (hb : (n + m) * bytes ≤ 140737488355328)
    (h : ∀ v' w', Que w' e size v' (n + m) (xs ++ news) → ExtBut (fun k => v.ownBlock = some k) w w' → (v'.ownBlock = v.ownBlock ∨ v'.ownBlock = some w.heap.size) → K v' w') :
    opW P w (Builtin.append_ #[t, t] ty #[v, .slice (some a) m c]) K := by
  rcases hown with ⟨hxl, ⟨rfl, rfl⟩ | ⟨g, off, cap, cur, rfl, B, h2, h3, h4, h5⟩⟩
  · have hx : xs = [] := by simpa using hxl
    subst hx
    exact w_append hT (World.ownsRow_nil w 0 e size) hs hl (by simp) h1 hb (Nat.zero_le _) fun v' w' h6 h7 h8 _ => h v' w' (.of_row h6) h7 h8
  unfold apT at hT
  cases hu : P.underlying t with
  | none => rw [hu] at hT; cases hT
  | some d =>
    rw [hu] at hT
    cases d <;> first | (cases hT; done) | skip
    rename_i e'
    simp only [Option.bind_eq_some_iff] at hT
    obtain ⟨i, hi, hT⟩ := hT
    cases hz : i.zero with
    | none => rw [hz] at hT; cases hT
    | some z =>
      rw [hz] at hT
      simp only at hT
      split at hT
      · rename_i hc
        obtain ⟨hzs, hsz, hbp⟩ := hc
        simp only [Option.some.injEq, Prod.mk.injEq] at hT
        obtain ⟨rfl, rfl, rfl⟩ := hT
        have hnews : ∀ j u, news[j]? = some u → w.cell? (a.add j) = some u := fun j u hj => by obtain ⟨b, off, hp, hc⟩ := hs j u hj; cases hp; rw [addr_add]; exact hc
        have hlen : (xs ++ news).length = (n + m) * i.size := by rw [List.length_append, hxl, hl, Nat.add_mul]
        by_cases hroom : n + m ≤ cap
        · have hmul : (n + m) * i.size ≤ cap * i.size := Nat.mul_le_mul_right _ hroom
          have hfit : off + n * i.size + news.length ≤ cur.length := by rw [hl]; rw [Nat.add_mul] at hmul; omega
          have hf := run_firstCells_some (P := P) w i.size m a m c news hl hnews
          have hst := run_storeCells_at P g (off + n * i.size) e' news 0 cur.toArray w B (by simpa using hfit) h1
          simp only [Nat.add_zero] at hst
          obtain ⟨f1, f2, f3⟩ := setRow_facts B (cur.take (off + n * i.size) ++ news ++ cur.drop (off + n * i.size + news.length))
          refine ⟨_, _, by simp [Builtin.append_, run_underlying hu, sizeOf, typeInfo, hi, Builtin.lenOf, hroom, hf, Addr.add_lit, hst], h _ _ ⟨hlen, .inr ⟨g, off, cap, _, rfl, f3, hroom, h3, ?_, ?_⟩⟩ (f1.mono fun k _ hk => by cases hk; rfl) (.inl rfl)⟩
          · simp only [List.length_append, List.length_take, List.length_drop]; omega
          · rw [← hlen, List.append_assoc, List.drop_append_of_le_length (by rw [List.length_take]; omega), List.drop_take, show off + n * i.size - off = n * i.size by omega, h5, ← List.append_assoc, List.take_left']
            rfl
        · have h63 : n + m ≤ maxLen := by
            have : (n + m) * 1 ≤ (n + m) * i.bytes := Nat.mul_le_mul_left _ hbp
            simp only [maxLen]; omega
          obtain ⟨v', w', hr, ho, hg⟩ := run_append_arg_grows (P := P) w t ty e' i z i.size i.bytes hu hi hz rfl rfl hzs hsz ⟨g, off, none⟩ n cap xs hxl (fun j u hj => by
            rw [addr_add, B.cell]
            rw [← h5, List.getElem?_take] at hj
            split at hj
            · rwa [List.getElem?_drop] at hj
            · cases hj) a m c news hl hnews (by omega) h63 hb
          refine ⟨v', w', hr, h v' w' (.of_row ho) ⟨hg.os, hg.tape, hg.output, hg.size, fun k hk _ => hg.block k hk (by simp)⟩ ?_⟩
          -- a new row lies in the block that was just made
          have hr2 := run_append_grow (P := P) w t ty e' i z hu hi hz ⟨g, off, none⟩ n cap xs hxl (fun j u hj => by
            rw [addr_add, B.cell]
            rw [← h5, List.getElem?_take] at hj
            split at hj
            · rwa [List.getElem?_drop] at hj
            · cases hj) a m c news hl hnews (by omega) (by simp only [maxLen] at h63; omega) (growslice_fits (by omega) hb)
          rw [hr] at hr2
          injection hr2 with e1 e2
          rw [e1]; exact .inr rfl
      · cases hT
/-- without its first ones -/
theorem Que.drop {g off cap i : Nat} (h : Que w e size (.slice (some ⟨g, off, none⟩) n cap) n xs) (hi : i ≤ n) :
    Que w e size (.slice (if cap = i then some ⟨g, off, none⟩ else (some (⟨g, off, none⟩ : Addr)).map (·.add (i * size))) (n - i) (cap - i)) (n - i) (xs.drop (i * size)) := by
  obtain ⟨hl, ⟨h0, _⟩ | ⟨g', off', cap', c, hv, B, h1, h2, h3, h4⟩⟩ := h
  · cases h0
  cases hv
  refine ⟨by rw [List.length_drop, hl, Nat.sub_mul], .inr ?_⟩
  by_cases hc : cap = i
  · rw [if_pos hc]
    have : n - i = 0 := by omega
    refine ⟨g, off, cap - i, c, rfl, B, by omega, by omega, ?_, ?_⟩
    · have : (cap - i) * size = 0 := by rw [show cap - i = 0 by omega, Nat.zero_mul]
      omega
    · rw [this, Nat.zero_mul, List.take_zero, eq_comm, List.drop_eq_nil_iff, hl]
      exact Nat.mul_le_mul_right _ (by omega)
  · rw [if_neg hc]
    refine ⟨g, off + i * size, cap - i, c, by simp only [Option.map_some, addr_add], B, by omega, by omega, ?_, ?_⟩
    · have : i * size ≤ cap * size := Nat.mul_le_mul_right _ (by omega)
      rw [Nat.sub_mul]; omega
    · rw [← h4, List.drop_take, List.drop_drop, Nat.sub_mul]
end
/-! ### Functions with what they hold -/
theorem v_f10 {P : Program} {w : World} {f : FuncId} {K : Value → World → Prop} {x0 : Value} (he : enters P f = true) (h : oCall P f #[x0] w K) : oCallV P (.func (.func f) #[] #[]) #[x0] w K := v_func he h
theorem v_f11 {P : Program} {w : World} {f : FuncId} {K : Value → World → Prop} {x0 c0 : Value} (he : enters P f = true) (h : oCall P f #[x0, c0] w K) : oCallV P (.func (.func f) #[] #[c0]) #[x0] w K := v_func he h
theorem v_f12 {P : Program} {w : World} {f : FuncId} {K : Value → World → Prop} {x0 c0 c1 : Value} (he : enters P f = true) (h : oCall P f #[x0, c0, c1] w K) : oCallV P (.func (.func f) #[] #[c0, c1]) #[x0] w K := v_func he h
theorem v_f20 {P : Program} {w : World} {f : FuncId} {K : Value → World → Prop} {x0 x1 : Value} (he : enters P f = true) (h : oCall P f #[x0, x1] w K) : oCallV P (.func (.func f) #[] #[]) #[x0, x1] w K := v_func he h
theorem v_f21 {P : Program} {w : World} {f : FuncId} {K : Value → World → Prop} {x0 x1 c0 : Value} (he : enters P f = true) (h : oCall P f #[x0, x1, c0] w K) : oCallV P (.func (.func f) #[] #[c0]) #[x0, x1] w K := v_func he h
class QueAt (v : Value) (L : List Asr) (e : outParam TypeId) (sz n : outParam Nat) (xs : outParam (List Value)) (f : outParam (Asr → List Asr)) : Prop where
  h : ∃ p q, L = p ++ .que v e sz n xs :: q ∧ ∀ y, f y = p ++ y :: q
instance {v : Value} {e : TypeId} {sz n : Nat} {xs : List Value} {L : List Asr} : QueAt v (.que v e sz n xs :: L) e sz n xs fun y => y :: L := ⟨[], L, rfl, fun _ => rfl⟩
instance (priority := low) {v : Value} {e : TypeId} {sz n : Nat} {xs : List Value} {x : Asr} {L : List Asr} {f : Asr → List Asr} [h : QueAt v L e sz n xs f] : QueAt v (x :: L) e sz n xs fun y => x :: f y := ⟨by
  obtain ⟨p, q, h1, h2⟩ := h.h
  exact ⟨x :: p, q, by rw [h1]; rfl, fun c' => by rw [h2]; rfl⟩⟩
section
variable {P : Program} {X : Nat → Prop} {w0 w : World} {r : Gh} {L : List Asr} {t e : TypeId} {sz n m : Nat} {v : Value} {xs news : List Value} {g : Asr → List Asr}
theorem StX.que (S : StX X w0 r w L) (v : Value) [h : QueAt v L e sz n xs g] : Que w e sz v n xs := by
  obtain ⟨pp, qq, h2, h3⟩ := h.h
  exact S.has (.que v e sz n xs) (by rw [h2]; simp)
theorem StX.queS (S : StX X w0 r w L) (v : Value) [h : QueAt v L e sz n xs g] : ∃ p cap, v = .slice p n cap ∧ (p = none → cap = 0) ∧ n ≤ cap ∧ xs.length = n * sz ∧ Sl w p xs :=
  (S.que v (h := h)).shape
theorem StX.toQue (S : StX X w0 r w L) (v : Value) [h : RowAt v L e sz n xs g] : StX X w0 r w (g (.que v e sz n xs)) := by
  obtain ⟨pp, qq, h2, h3⟩ := h.h
  have hr := S.has (.row v e sz n xs) (by rw [h2]; simp)
  rw [h3]
  rw [h2] at S
  exact S.turn (x := .row v e sz n xs) (y := .que v e sz n xs) (ExtBut.refl _ _) (Que.of_row hr) fun k hk => .inl hk
theorem StX.apQ (S : StX X w0 r w L) {ty : TypeId} {by' cap : Nat} {a : Addr} [h : QueAt v L e sz n xs g] [z : ApT P t e sz by'] {K : Value → World → Prop}
    (hs : Sl w (some a) news) (k : ∀ v' w', StX X w0 r w' (g (.que v' e sz (n + m) (xs ++ news))) → K v' w')
    (hb : (n + m) * by' ≤ 140737488355328) (hl : news.length = m * sz := by simp) (h1 : ∀ u ∈ news, u.oneCell' = true := by simp [Value.oneCell']) : opW P w (Builtin.append_ #[t, t] ty #[v, .slice (some a) m cap]) K := by
  obtain ⟨pp, qq, h2, h3⟩ := h.h
  have hr := S.has (.que v e sz n xs) (by rw [h2]; simp)
  refine w_appendQ z.h hr hs hl h1 hb fun v' w' h4 h5 h6 => k v' w' ?_
  rw [h3]
  rw [h2] at S
  refine S.turn (x := .que v e sz n xs) (y := .que v' e sz (n + m) (xs ++ news)) h5 h4 fun j hj => ?_
  rw [Asr.dom] at hj
  rcases h6 with h6 | h6
  · rw [h6] at hj; exact .inl hj
  · rw [h6] at hj; cases hj; exact .inr (Nat.le_refl _)
/-- v[i:] -/
theorem StX.loQ (S : StX X w0 r w L) {e' : TypeId} {kd : IntKind} {i : Int} [h : QueAt v L e sz n xs g] [z : SlT P t e' sz] {K : Value → Prop}
    (h0 : 0 ≤ i) (hi : i ≤ n) (hn : 0 < n) (k : ∀ v', StX X w0 r w (g (.que v' e sz (n - i.toNat) (xs.drop (i.toNat * sz)))) → K v') : opP P (Instr.sliceAt t v (some (.int kd i)) none none) K := by
  obtain ⟨pp, qq, h2, h3⟩ := h.h
  have hr := S.has (.que v e sz n xs) (by rw [h2]; simp)
  have hr0 := hr
  rcases hr.2 with ⟨rfl, h4⟩ | ⟨gb, off, cap, c, rfl, _⟩
  · omega
  refine p_sliceLo z.h h0 hi (k _ ?_)
  rw [h3]
  rw [h2] at S
  refine S.turn (x := .que (.slice (some ⟨gb, off, none⟩) n cap) e sz n xs) (y := .que _ e sz _ _) (ExtBut.refl _ _) (Que.drop hr0 (by omega)) fun j hj => .inl ?_
  simp only [Asr.dom] at hj ⊢
  split at hj
  · exact hj
  · simp only [Option.map_some, addr_add] at hj; exact hj
end
/-- a cell of one's own, wherever it stands, comes to stay -/
class Pull (b : Nat) (L : List Asr) (c : outParam (List Value)) (T : outParam TypeId) (M : outParam (List Asr)) : Prop where
  h : L.Perm (.cell b c T :: M)
instance {b : Nat} {c : List Value} {T : TypeId} {L : List Asr} : Pull b (.cell b c T :: L) c T L := ⟨.refl _⟩
instance (priority := low) {b : Nat} {c : List Value} {T : TypeId} {x : Asr} {L M : List Asr} [h : Pull b L c T M] : Pull b (x :: L) c T (x :: M) := ⟨(h.h.cons x).trans (.swap _ _ _)⟩
theorem StX.permO {X : Nat → Prop} {w0 w : World} {r : Gh} {L M : List Asr} (S : StX X w0 r w L) (h : M.Perm L) : StX X w0 r w M :=
  ⟨S.x, S.holds, fun x hx => S.has x (h.subset hx), fun x hx => S.mine x (h.subset hx), h.symm.pairwise S.apart fun hab k hb ha => hab k ha hb⟩
theorem StX.frzAt {X : Nat → Prop} {w0 w : World} {r : Gh} {L M : List Asr} (S : StX X w0 r w L) (b : Nat) {c : List Value} {T : TypeId} [h : Pull b L c T M] : StX X w0 (r.or (one b c T)) w M :=
  (S.permO h.h.symm).frz
/-- .. is no more looked at -/
theorem StX.drop {X : Nat → Prop} {w0 w : World} {r : Gh} {L M : List Asr} (S : StX X w0 r w L) (b : Nat) {c : List Value} {T : TypeId} [h : Pull b L c T M] : StX X w0 r w M :=
  (S.permO h.h.symm).tl
end Go.Sh
end

section
namespace Go.Sh
open Go.RowKit
set_option linter.unusedSimpArgs false
set_option linter.unusedVariables false
theorem j_bandH {w : World} {A : (List Value → World → Prop) → Prop} {Z : Value → World → Prop} {b c : Bool} (hA : b = true → ∀ K : List Value → World → Prop, K [.bool c] w → A K) (hZ : Z (.bool (b && c)) w) :
    sJoin (fun K => gIf (.bool b) true (A K) (K [undef] w)) fun s _ w' => oPick (.bool b) (s.getD 0 undef) (.bool false) fun t => Z t w' := by
  intro K hK
  cases b with
  | true => exact hA rfl K (hK _ _ fun _ => ⟨true, rfl, by simpa using hZ⟩)
  | false => exact hK _ _ fun _ => ⟨false, rfl, by simpa using hZ⟩
theorem j_borH {w : World} {A : (List Value → World → Prop) → Prop} {Z : Value → World → Prop} {b c : Bool} (hA : b = false → ∀ K : List Value → World → Prop, K [.bool c] w → A K) (hZ : Z (.bool (b || c)) w) :
    sJoin (fun K => gIf (.bool b) false (A K) (K [undef] w)) fun s _ w' => oPick (.bool b) (.bool true) (s.getD 0 undef) fun t => Z t w' := by
  intro K hK
  cases b with
  | true => exact hK _ _ fun _ => ⟨true, rfl, by simpa using hZ⟩
  | false => exact hA rfl K (hK _ _ fun _ => ⟨false, rfl, by simpa using hZ⟩)
section
variable {P : Program} {w : World} {t : TypeId} {c : Bool} {K : Value → Prop}
/-! ### Structs of numbers, compared -/
end
end Go.Sh
namespace Go.Sh
section
variable {P : Program} {w : World} {f : FuncId} {K : Value → World → Prop} {Kp : List PanicEntry → World → Prop}
end
end Go.Sh
end

section
namespace Go.Proofs

open Go.Sh

set_option maxRecDepth 100000

section

variable {X : Nat → Prop} {w0 w : World} {r : Gh} {L : List Asr} {rb : Nat} {s p : List UInt8} {a : Nat} {K : Value → World → Prop} {Kp : List PanicEntry → World → Prop}

end

end Go.Proofs
end

section
namespace Go.Proofs

open Go.Sh

set_option maxRecDepth 100000

section

variable {X : Nat → Prop} {w0 w : World} {r : Gh} {L : List Asr} {rb : Nat} {s : List UInt8} {a : Nat} {K : Value → World → Prop} {Kp : List PanicEntry → World → Prop}

end

end Go.Proofs
end

section
namespace Go.Proofs
open Go.Sh
set_option linter.unusedVariables false
set_option linter.unusedSimpArgs false
namespace Gr
variable {α β : Type}
end Gr
end Go.Proofs
end

section
namespace Go.Proofs

open Go.Sh

set_option maxRecDepth 100000


/-- a type's nodes, one below the other, each in a block of its own -/
inductive ChnG : Gh → Value → TyD → Prop
  | nil {sn : Gh} {v : Value} {k re st : Int} {m : Bool} : ChnG sn v (.mk k m re st [])
  | one {sn : Gh} {b : Nat} {c : List Value} {k re st : Int} {m : Bool} {u : TyD} (no : ∀ o, ¬ sn b o) (hc : c.length = 5) (ht : TyG sn (.agg c.toArray) u) (h : ChnG sn (.agg c.toArray) u) :
    ChnG (sn.or (one b c 25)) (.agg #[.int .u8 k, .bool m, .int .i64 re, .int .i64 st, .slice (some ⟨b, 0, none⟩) 1 1]) (.mk k m re st [u])
theorem ty_one {r : Gh} {v : Value} {u : TyD} {b : Nat} {k re st : Int} {m : Bool} (h : TyG r v u) :
    TyG (r.or (one b v.cells.toList 25)) (.agg #[.int .u8 k, .bool m, .int .i64 re, .int .i64 st, .slice (some ⟨b, 0, none⟩) 1 1]) (.mk k m re st [u]) := by
  obtain ⟨c, rfl, hc, hr⟩ := h.rep
  refine ⟨_, 1, rfl, by simp, Nat.le_refl _, ?_⟩
  refine ⟨⟨c, hc, fun j x hj => ⟨b, 0, rfl, fun w hw => ?_⟩, hr.up⟩, trivial⟩
  have B := one_blk (b := b) (c := (Value.agg c.toArray).cells.toList) (T := 25) w (hw.le (h := inferInstance))
  show w.cell? ⟨b, 0 + 0 * 5 + j, none⟩ = some x
  rw [show 0 + 0 * 5 + j = j by omega, B.cell]
  exact hj
theorem ty_leaf {r : Gh} {k re st : Int} {m : Bool} : TyG r (.agg #[.int .u8 k, .bool m, .int .i64 re, .int .i64 st, .slice none 0 0]) (.mk k m re st []) :=
  ⟨none, 0, rfl, fun _ => rfl, Nat.le_refl _, trivial⟩
section

variable {X : Nat → Prop} {w0 w : World} {r : Gh} {L : List Asr} {rb : Nat} {s p : List UInt8} {a : Nat} {K : Value → World → Prop} {Kp : List PanicEntry → World → Prop}

end

end Go.Proofs
end

section
namespace Go.Proofs

open Go.Sh

set_option maxRecDepth 100000

set_option linter.unusedSimpArgs false

section

variable {X : Nat → Prop} {w0 w : World} {r : Gh} {L : List Asr} {rb : Nat} {s p : List UInt8} {a : Nat} {K : Value → World → Prop} {Kp : List PanicEntry → World → Prop}

end

end Go.Proofs
end

section
namespace Go.Proofs

open Go.Sh

set_option maxRecDepth 100000

set_option linter.unusedSimpArgs false

end Go.Proofs
end

section
namespace Go.Proofs

open Go.Sh

set_option maxRecDepth 100000

set_option linter.unusedSimpArgs false

def zeroD : TyD := .mk 0 false 0 0 []
end Go.Proofs
end

section
namespace Go.Proofs

open Go.Sh

set_option maxRecDepth 100000

set_option linter.unusedSimpArgs false

section

variable {X : Nat → Prop} {w0 w : World} {r : Gh} {L : List Asr} {rb : Nat} {s p : List UInt8} {a : Nat} {st : Bool} {K : Value → World → Prop}

end

end Go.Proofs
end

section
namespace Go.Proofs

open Go.Sh

set_option maxRecDepth 100000

set_option linter.unusedSimpArgs false

section

variable {X : Nat → Prop} {w0 w : World} {r : Gh} {L : List Asr} {rb : Nat} {s p : List UInt8} {a : Nat} {st : Bool} {K : Value → World → Prop}

end

end Go.Proofs
end

section
namespace Go.Proofs

open Go.Sh

set_option maxRecDepth 100000

set_option linter.unusedSimpArgs false

/-- the walk's own cells, in another order -/
theorem _root_.Go.Sh.StX.perm {X : Nat → Prop} {w0 w : World} {r : Gh} {L M : List Asr} (S : StX X w0 r w L) (hp : L.Perm M) : StX X w0 r w M :=
  ⟨S.x, S.holds, fun z hz => S.has z (hp.mem_iff.2 hz), fun z hz => S.mine z (hp.mem_iff.2 hz), (List.Perm.pairwise_iff (fun h k h1 h2 => h k h2 h1) hp).1 S.apart⟩
section

variable {X : Nat → Prop} {w0 w : World} {r : Gh} {L : List Asr} {rb : Nat} {s p : List UInt8} {a : Nat} {K : Value → World → Prop}

end

end Go.Proofs
end

section
namespace Go.Proofs

open Go.Sh

set_option maxRecDepth 100000

set_option linter.unusedSimpArgs false

set_option linter.unusedVariables false

end Go.Proofs
end

section
namespace Go.Proofs

open Go.Sh

set_option maxRecDepth 100000

set_option linter.unusedSimpArgs false

set_option linter.unusedVariables false


end Go.Proofs
end

section
namespace Go.Proofs

open Go.Sh

set_option maxRecDepth 100000

set_option linter.unusedSimpArgs false

set_option linter.unusedVariables false

/-- a type whose nodes below the topmost one are one's own cells -/
inductive ChnL : List Value → TyD → List Asr → Prop
  | nil {k re st : Int} {m : Bool} : ChnL [.int .u8 k, .bool m, .int .i64 re, .int .i64 st, .slice none 0 0] (.mk k m re st []) []
  | one {b : Nat} {c : List Value} {k re st : Int} {m : Bool} {u : TyD} {L : List Asr} (h : ChnL c u L) :
    ChnL [.int .u8 k, .bool m, .int .i64 re, .int .i64 st, .slice (some ⟨b, 0, none⟩) 1 1] (.mk k m re st [u]) (.cell b c 25 :: L)
theorem ChnL.len {c : List Value} {t : TyD} {L : List Asr} (h : ChnL c t L) : c.length = 5 := by cases h <;> rfl
theorem ChnL.ones {c : List Value} {t : TyD} {L : List Asr} (h : ChnL c t L) : ∀ u ∈ c, u.oneCell' = true := by
  cases h <;> simp [Value.oneCell']
/-- they are told as data that stays -/
theorem ChnL.frz {X : Nat → Prop} {w0 w : World} {c : List Value} {t : TyD} {N : List Asr} (h : ChnL c t N) : ∀ {r : Gh} {L : List Asr}, StX X w0 r w (N ++ L) →
    ∃ sn, StX X w0 (r.or sn) w L ∧ TyG sn (.agg c.toArray) t ∧ ChnG sn (.agg c.toArray) t ∧ (∀ b o, sn b o → w0.heap.size ≤ b ∨ X b) := by
  induction h with
  | nil =>
    intro r L S
    exact ⟨nothing, S.to _, ty_leaf, .nil, fun _ _ h => h.elim⟩
  | @one b c k re st m u N hu ih =>
    intro r L S
    have S : StX X w0 r w (N ++ (.cell b c 25 :: L)) := S.perm List.perm_middle.symm
    obtain ⟨sn, S, ht, hg, hf⟩ := ih S
    have hm := S.mine (.cell b c 25) (by simp) b rfl
    have S := S.frz
    refine ⟨sn.or (Go.Sh.one b c 25), S.to _, ty_one ht, .one (fun o ho => hm.2 o (.inr ho)) hu.len ht hg, fun b' o ho => ?_⟩
    rcases ho with ho | ⟨rfl, _⟩
    · exact hf b' o ho
    · exact hm.1
section

variable {X : Nat → Prop} {w0 w : World} {r : Gh} {L : List Asr}

theorem c_types_own {s : Int} : ∀ (n : Nat) {t : TyD} {w : World} {r : Gh} {L : List Asr} {v : Value} {K : Value → World → Prop}, n ≤ 1000 → lookB s n t = true → StX X w0 r w L → TyG r v t →
    (∀ c N w', ChnL c t N → StX X w0 r w' (N ++ L) → K (.agg c.toArray) w') → oCall Try.prog Try.n_types_own #[v] w K := by
  intro n
  induction n with
  | zero => intro t w r L v K _ h; cases h
  | succ n ih =>
    intro t w r L v K hn hl S hv h
    refine Try.ok_types_own ?_
    unfold Try.F_types_own
    obtain ⟨p, cap, rfl, _, _, hof⟩ := hv
    refine S.box fun b1 w1 S => ?_
    have S : StX X w0 r w1 (.cell b1 [.int .u8 t.k, .bool t.m, .int .i64 t.re, .int .i64 t.st, .slice p t.of.length cap] 25 :: L) := S
    refine S.al fun b2 w2 S => ?_
    refine j_intro (fun _ w' => ∃ q m N, ChnL [.int .u8 t.k, .bool t.m, .int .i64 t.re, .int .i64 t.st, .slice q m m] t N ∧ StX X w0 r w' (N ++ (.cell b2 [.int .u8 0, .bool false, .int .i64 0, .int .i64 0, .slice none 0 0] 25 :: .cell b1 [.int .u8 t.k, .bool t.m, .int .i64 t.re, .int .i64 t.st, .slice q m m] 25 :: L))) (fun K2 hK2 => ?_) ?_
    · have he : t = .mk t.k t.m t.re t.st t.of := by cases t; rfl
      (repeat (first | refine s_p ?_ | refine s_c (by omega) ?_ | refine S.ld ?_ | refine S.ldB ?_ | refine S.ce ?_ | refine S.ceB ?_ | refine s_q ?_ | refine s_qc (by omega) ?_ | refine n_some ?_ | rw [List.getD_cons_zero] | rw [List.getD_cons_succ]))
      rcases look_cases hl with ⟨ho, _⟩ | ⟨u, ho, hu, _⟩
      · refine c_f (by rw [ho]; rfl) ?_
        (repeat (first | refine s_p ?_ | refine s_c (by omega) ?_ | refine S.ld ?_ | refine S.ldB ?_ | refine S.ce ?_ | refine S.ceB ?_ | refine s_q ?_ | refine s_qc (by omega) ?_ | refine n_some ?_ | rw [List.getD_cons_zero] | rw [List.getD_cons_succ]))
        refine S.st fun w3 S => ?_
        refine hK2 [] _ ⟨none, 0, [], ?_, S⟩
        have : ChnL [.int .u8 t.k, .bool t.m, .int .i64 t.re, .int .i64 t.st, .slice none 0 0] (.mk t.k t.m t.re t.st []) [] := .nil
        rw [ho] at he
        rw [← he] at this
        exact this
      · have hlen : t.of.length = 1 := by rw [ho]; rfl
        obtain ⟨ba, oa, rfl, c, hc, hcell, ht⟩ := NdG.of hof (i := 0) (by omega)
        have ht : TyG r (.agg c.toArray) u := by simpa [ho] using ht
        refine c_t (by rw [hlen]; rfl) ?_
        (repeat (first | refine s_p ?_ | refine s_c (by omega) ?_ | refine S.ld ?_ | refine S.ldB ?_ | refine S.ce ?_ | refine S.ceB ?_ | refine s_q ?_ | refine s_qc (by omega) ?_ | refine n_some ?_ | rw [List.getD_cons_zero] | rw [List.getD_cons_succ]))
        refine s_ldN (n := 5) hc (fun j v hj => by simpa using S.at (hcell j v hj)) ?_
        refine ih (by omega) hu S ht fun c' N w3 hch S => ?_
        refine S.lit (e := 25) (cs := c') (by
          cases hch <;> kernel_rfl) fun b9 w4 S => ?_
        have S : StX X w0 r w4 (.cell b1 [.int .u8 t.k, .bool t.m, .int .i64 t.re, .int .i64 t.st, .slice (some ⟨ba, oa, none⟩) t.of.length cap] 25 :: (.cell b9 c' 25 :: N ++ (.cell b2 [.int .u8 0, .bool false, .int .i64 0, .int .i64 0, .slice none 0 0] 25 :: L))) := S.perm (by
          refine (List.Perm.cons _ ?_).trans (.swap _ _ _)
          refine (List.perm_append_comm_assoc N [_] _).trans ?_
          refine (List.Perm.append_left [_] ((List.perm_append_comm_assoc N [_] _))).trans ?_
          refine (List.Perm.swap _ _ _).trans ?_
          refine List.Perm.cons _ ?_
          exact (List.perm_append_comm_assoc [_] N L))
        (repeat (first | refine s_p ?_ | refine s_c (by omega) ?_ | refine S.ld ?_ | refine S.ldB ?_ | refine S.ce ?_ | refine S.ceB ?_ | refine s_q ?_ | refine s_qc (by omega) ?_ | refine n_some ?_ | rw [List.getD_cons_zero] | rw [List.getD_cons_succ]))
        refine S.st fun w5 S => ?_
        have hch' : ChnL [.int .u8 t.k, .bool t.m, .int .i64 t.re, .int .i64 t.st, .slice (some ⟨b9, 0, none⟩) 1 1] (.mk t.k t.m t.re t.st [u]) (.cell b9 c' 25 :: N) := .one hch
        rw [ho] at he
        rw [← he] at hch'
        refine hK2 [] _ ⟨_, _, _, hch', S.perm ?_⟩
        have := List.perm_middle (a := Asr.cell b1 [.int .u8 t.k, .bool t.m, .int .i64 t.re, .int .i64 t.st, .slice (some ⟨b9, 0, none⟩) 1 1] 25) (l₁ := .cell b9 c' 25 :: N ++ [.cell b2 [.int .u8 0, .bool false, .int .i64 0, .int .i64 0, .slice none 0 0] 25]) (l₂ := L)
        simpa using this.symm
    rintro _ w6 ⟨q, m, N, hch, S⟩ d6
    have S : StX X w0 r w6 (.cell b2 [.int .u8 0, .bool false, .int .i64 0, .int .i64 0, .slice none 0 0] 25 :: .cell b1 [.int .u8 t.k, .bool t.m, .int .i64 t.re, .int .i64 t.st, .slice q m m] 25 :: (N ++ L)) := S.perm (by
      refine (List.perm_append_comm_assoc N [_] _).trans ?_
      exact List.Perm.cons _ (List.perm_append_comm_assoc N [_] _))
    (repeat (first | refine s_p ?_ | refine s_c (by omega) ?_ | refine S.ld ?_ | refine S.ldB ?_ | refine S.ce ?_ | refine S.ceB ?_ | refine s_q ?_ | refine s_qc (by omega) ?_ | refine n_some ?_ | rw [List.getD_cons_zero] | rw [List.getD_cons_succ]))
    refine S.stB fun w7 S => ?_
    (repeat (first | refine s_p ?_ | refine s_c (by omega) ?_ | refine S.ld ?_ | refine S.ldB ?_ | refine S.ce ?_ | refine S.ceB ?_ | refine s_q ?_ | refine s_qc (by omega) ?_ | refine n_some ?_ | rw [List.getD_cons_zero] | rw [List.getD_cons_succ]))
    exact h _ N _ hch S.tl.tl
theorem c_types_Own {t : TyD} {w : World} {r : Gh} {v : Value} {K : Value → World → Prop} (hr : Holds r w) (hv : TyG r v t)
    (h : ∀ v' sn w', Ext w w' → New w sn w' → TyG sn v' (if isB t then t else zeroD) → ChnG sn v' (if isB t then t else zeroD) → K (.tuple #[v', .int .i64 (if isB t then 0 else 2)]) w') : oCall Try.prog Try.n_types_Own #[v] w K := by
  refine Try.ok_types_Own ?_
  unfold Try.F_types_Own
  have hv0 := hv
  obtain ⟨p, cap, rfl, _⟩ := hv
  have S := St.start hr
  refine S.box fun b1 w1 S => ?_
  refine S.al fun b2 w2 S => ?_
  (repeat (first | refine s_p ?_ | refine s_c (by omega) ?_ | refine S.ld ?_ | refine S.ldB ?_ | refine S.ce ?_ | refine S.ceB ?_ | refine s_q ?_ | refine s_qc (by omega) ?_ | refine n_some ?_ | rw [List.getD_cons_zero] | rw [List.getD_cons_succ]))
  refine c_types_may S.holds hv0 fun w3 e3 => ?_
  have S := S.go e3
  (repeat (first | refine s_p ?_ | refine s_c (by omega) ?_ | refine S.ld ?_ | refine S.ldB ?_ | refine S.ce ?_ | refine S.ceB ?_ | refine s_q ?_ | refine s_qc (by omega) ?_ | refine n_some ?_ | rw [List.getD_cons_zero] | rw [List.getD_cons_succ]))
  refine c_b (fun hn => ?_) (fun hn => ?_)
  · have hn : isB t = false := by simpa using hn
    rw [hn] at h
    refine p_build (cs := #[.int .u8 0, .bool false, .int .i64 0, .int .i64 0, .slice none 0 0]) (by kernel_rfl) ?_
    refine S.stB fun w4 S => ?_
    (repeat (first | refine s_p ?_ | refine s_c (by omega) ?_ | refine S.ld ?_ | refine S.ldB ?_ | refine S.ce ?_ | refine S.ceB ?_ | refine s_q ?_ | refine s_qc (by omega) ?_ | refine n_some ?_ | rw [List.getD_cons_zero] | rw [List.getD_cons_succ]))
    exact h _ nothing _ S.ext New.nothing ty_leaf .nil
  · have hn : isB t = true := by simpa using hn
    rw [hn] at h
    (repeat (first | refine s_p ?_ | refine s_c (by omega) ?_ | refine S.ld ?_ | refine S.ldB ?_ | refine S.ce ?_ | refine S.ceB ?_ | refine s_q ?_ | refine s_qc (by omega) ?_ | refine n_some ?_ | rw [List.getD_cons_zero] | rw [List.getD_cons_succ]))
    refine c_types_own 48 (by decide) hn S hv0 fun c N w4 hch S => ?_
    obtain ⟨sn, S, ht, hg, hf⟩ := hch.frz S
    have hl := hch.len
    have hone := hch.ones
    refine S.stB (cs := c.toArray) (fun w5 S => ?_) rfl (by simpa using hl) (by simpa using hone)
    refine S.ceB ?_ hl
    exact h _ sn _ S.ext ⟨S.holds.le (h := inferInstance), fun b o hb => (hf b o hb).elim id fun h => h.elim⟩ ht hg
end

end Go.Proofs
end

section
namespace Go.Proofs

open Go.Sh

set_option maxRecDepth 100000

set_option linter.unusedSimpArgs false

set_option linter.unusedVariables false

mutual

/-- a type with regions, in order -/
def TyD.lay : List Int → TyD → TyD
  | l, .mk k m re st of => .mk k m (if k = 4 then l.headD 0 else re) st (TyD.lays (if k = 4 then l.tail else l) of)
def TyD.lays : List Int → List TyD → List TyD
  | _, [] => []
  | l, t :: r => TyD.lay l t :: TyD.lays l r
end

theorem chn_cases {c : List Value} {t : TyD} {N : List Asr} (h : ChnL c t N) :
    (t.of = [] ∧ N = [] ∧ c = [.int .u8 t.k, .bool t.m, .int .i64 t.re, .int .i64 t.st, .slice none 0 0]) ∨
    ∃ b cu u N', t.of = [u] ∧ N = .cell b cu 25 :: N' ∧ c = [.int .u8 t.k, .bool t.m, .int .i64 t.re, .int .i64 t.st, .slice (some ⟨b, 0, none⟩) 1 1] ∧ ChnL cu u N' := by
  cases h with
  | nil => exact .inl ⟨rfl, rfl, rfl⟩
  | one h => exact .inr ⟨_, _, _, _, rfl, rfl, rfl, h⟩
theorem lay_nil {t : TyD} {l : List Int} (h : t.of = []) : t.lay l = .mk t.k t.m (if t.k = 4 then l.headD 0 else t.re) t.st [] := by
  cases t with | mk k m re st of => cases h; rfl
theorem lay_one {t u : TyD} {l : List Int} (h : t.of = [u]) : t.lay l = .mk t.k t.m (if t.k = 4 then l.headD 0 else t.re) t.st [u.lay (if t.k = 4 then l.tail else l)] := by
  cases t with | mk k m re st of => cases h; rfl
theorem regs_nil {t : TyD} (h : t.of = []) : t.regs = if t.k = 4 then [t.re] else [] := by
  rw [TyD.regs_eq, h]; simp [TyD.chains, TyD.regsL]
theorem regs_one {t u : TyD} (h : t.of = [u]) : t.regs = (if t.k = 4 then [t.re] else []) ++ u.regs := by
  rw [TyD.regs_eq, h]; rfl
theorem perm_in {α : Type} (a b : α) (C D M : List α) : (a :: (C ++ ((b :: D) ++ M))).Perm (b :: (C ++ (D ++ (a :: M)))) := by
  have h1 : (C ++ ((b :: D) ++ M)).Perm (b :: (C ++ (D ++ M))) := List.perm_middle
  have h2 : (a :: (C ++ (D ++ M))).Perm (C ++ (D ++ (a :: M))) := by
    rw [← List.append_assoc, ← List.append_assoc]; exact List.perm_middle.symm
  exact ((h1.cons a).trans (.swap _ _ _)).trans (h2.cons b)
theorem c_types_walk {s : Int} {fv : Value} {l : List Int} {Lc : Nat → List Asr} {X : Nat → Prop} {w0 : World} {r : Gh}
    (hf : ∀ (i : Nat) (hi : i < l.length) {b : Nat} {k re st : Int} {m : Bool} {v : Value} {M : List Asr} {w : World} {K : Value → World → Prop}, StX X w0 r w (.cell b [.int .u8 k, .bool m, .int .i64 re, .int .i64 st, v] 25 :: (Lc i ++ M)) →
      (∀ w', StX X w0 r w' (.cell b [.int .u8 k, .bool m, .int .i64 l[i], .int .i64 st, v] 25 :: (Lc (i + 1) ++ M)) → K (.tuple #[]) w') → oCallV Try.prog fv #[.pointer (some ⟨b, 0, none⟩)] w K) :
    ∀ (n : Nat) {t : TyD} {c : List Value} {N : List Asr} {b i : Nat} {M : List Asr} {w : World} {K : Value → World → Prop}, lookB s n t = true → ChnL c t N → i + t.regs.length ≤ l.length →
      StX X w0 r w (.cell b c 25 :: (Lc i ++ (N ++ M))) →
      (∀ c' N' w', ChnL c' (t.lay (l.drop i)) N' → StX X w0 r w' (.cell b c' 25 :: (Lc (i + t.regs.length) ++ (N' ++ M))) → K (.tuple #[]) w') →
      oCall Try.prog Try.n_types_walk #[.pointer (some ⟨b, 0, none⟩), fv] w K := by
  intro n
  induction n with
  | zero => intro t c N b i M w K h; cases h
  | succ n ih =>
    intro t c N b i M w K hl hch hi S h
    refine Try.ok_types_walk ?_
    unfold Try.F_types_walk
    obtain ⟨q, len, hce⟩ : ∃ q len, c = [.int .u8 t.k, .bool t.m, .int .i64 t.re, .int .i64 t.st, .slice q len len] := by
      rcases chn_cases hch with ⟨_, _, hc⟩ | ⟨_, _, _, _, _, _, hc, _⟩
      · exact ⟨_, _, hc⟩
      · exact ⟨_, _, hc⟩
    subst hce
    have hhead : ∀ j, i = j → j < l.length → (l.drop i).headD 0 = l.getD j 0 := by
      intro j hj hlt
      subst hj
      rw [List.drop_eq_getElem_cons hlt, List.headD_cons, List.getD_eq_getElem?_getD, List.getElem?_eq_getElem hlt]; rfl
    refine j_intro (fun _ w' => StX X w0 r w' (.cell b [.int .u8 t.k, .bool t.m, .int .i64 (if t.k = 4 then (l.drop i).headD 0 else t.re), .int .i64 t.st, .slice q len len] 25 :: (Lc (if t.k = 4 then i + 1 else i) ++ (N ++ M)))) (fun K2 hK2 => ?_) ?_
    · (repeat (first | refine s_p ?_ | refine s_c (by omega) ?_ | refine S.ld ?_ | refine S.ldB ?_ | refine S.ce ?_ | refine S.ceB ?_ | refine s_q ?_ | refine s_qc (by omega) ?_ | refine n_some ?_ | rw [List.getD_cons_zero] | rw [List.getD_cons_succ]))
      refine c_if (fun h4 => ?_) (fun h4 => ?_)
      · have h4 : t.k = 4 := by omega
        have hlt : i < l.length := by
          have : 0 < t.regs.length := by
            rw [TyD.regs_eq, if_pos h4]; simp
          omega
        refine hf i hlt S fun w1 S => ?_
        refine hK2 [] _ ?_
        rw [if_pos h4, if_pos h4, hhead i rfl hlt, List.getD_eq_getElem?_getD, List.getElem?_eq_getElem hlt]
        exact S
      · have h4 : ¬ t.k = 4 := by omega
        refine hK2 [] _ ?_
        rw [if_neg h4, if_neg h4]
        exact S
    clear S
    rintro _ w1 S d1
    (repeat (first | refine s_p ?_ | refine s_c (by omega) ?_ | refine S.ld ?_ | refine S.ldB ?_ | refine S.ce ?_ | refine S.ceB ?_ | refine s_q ?_ | refine s_qc (by omega) ?_ | refine n_some ?_ | rw [List.getD_cons_zero] | rw [List.getD_cons_succ]))
    rcases chn_cases hch with ⟨ho, rfl, hc⟩ | ⟨b', cu, u, N', ho, rfl, hc, hu⟩
    · injection hc with _ hc; injection hc with _ hc; injection hc with _ hc; injection hc with _ hc; injection hc with hc _
      cases hc
      (repeat (first | refine s_p ?_ | refine s_c (by omega) ?_ | refine S.ld ?_ | refine S.ldB ?_ | refine S.ce ?_ | refine S.ceB ?_ | refine s_q ?_ | refine s_qc (by omega) ?_ | refine n_some ?_ | rw [List.getD_cons_zero] | rw [List.getD_cons_succ]))
      have e1 : i + t.regs.length = if t.k = 4 then i + 1 else i := by
        rw [regs_nil ho]; split <;> rfl
      refine h _ [] w1 ?_ (by rw [e1]; exact S)
      rw [lay_nil ho]
      exact .nil
    · injection hc with _ hc; injection hc with _ hc; injection hc with _ hc; injection hc with _ hc; injection hc with hc _
      cases hc
      (repeat (first | refine s_p ?_ | refine s_c (by omega) ?_ | refine S.ld ?_ | refine S.ldB ?_ | refine S.ce ?_ | refine S.ceB ?_ | refine s_q ?_ | refine s_qc (by omega) ?_ | refine n_some ?_ | rw [List.getD_cons_zero] | rw [List.getD_cons_succ]))
      have hlu : lookB s n u = true := by
        rcases look_cases hl with ⟨hx, _⟩ | ⟨y, hy, hly, _⟩
        · rw [ho] at hx; cases hx
        · rw [ho] at hy; cases hy; exact hly
      have hreg := congrArg List.length (regs_one ho)
      rw [List.length_append] at hreg
      have hk4 : (if t.k = 4 then [t.re] else ([] : List Int)).length = if t.k = 4 then 1 else 0 := by split <;> rfl
      rw [hk4] at hreg
      have e1 : i + t.regs.length = (if t.k = 4 then i + 1 else i) + u.regs.length := by
        rw [hreg]; split <;> omega
      have e2 : l.drop (if t.k = 4 then i + 1 else i) = if t.k = 4 then (l.drop i).tail else l.drop i := by
        split
        · rw [List.tail_drop]
        · rfl
      have S' : StX X w0 r w1 (.cell b' cu 25 :: (Lc (if t.k = 4 then i + 1 else i) ++ (N' ++ (.cell b [.int .u8 t.k, .bool t.m, .int .i64 (if t.k = 4 then (l.drop i).headD 0 else t.re), .int .i64 t.st, .slice (some ⟨b', 0, none⟩) 1 1] 25 :: M)))) := S.perm (perm_in _ _ _ _ _)
      refine c_t (by simp) ?_
      (repeat (first | refine s_p ?_ | refine s_c (by omega) ?_ | refine S.ld ?_ | refine S.ldB ?_ | refine S.ce ?_ | refine S.ceB ?_ | refine s_q ?_ | refine s_qc (by omega) ?_ | refine n_some ?_ | rw [List.getD_cons_zero] | rw [List.getD_cons_succ]))
      refine ih (i := if t.k = 4 then i + 1 else i) hlu hu (by omega) S' fun c' N'' w2 hch' S => ?_
      rw [e2] at hch'
      have hone := ChnL.one (b := b') (k := t.k) (re := if t.k = 4 then (l.drop i).headD 0 else t.re) (st := t.st) (m := t.m) hch'
      rw [← lay_one ho] at hone
      refine h _ _ w2 hone ?_
      rw [e1]
      exact S.perm (perm_in _ _ _ _ _).symm
theorem regs_le48 {t : TyD} (h : isB t = true) : t.regs.length ≤ 48 := by
  have h1 := chain_len 48 (look_ht h)
  rw [TyD.regs, TyD.regsL, List.length_map]
  exact Nat.le_trans (List.length_filter_le _ _) h1
end Go.Proofs
end

section
namespace Go.Proofs

open Go.Sh

set_option maxRecDepth 100000

set_option linter.unusedSimpArgs false

set_option linter.unusedVariables false

def anewB (t : TyD) (l : List Int) : Bool := (isB t && decide (t.regs.length = l.length)) && !(l.any fun x => decide (x < -1))
def anewT (t : TyD) (l : List Int) : TyD × Int := if anewB t l then (t.lay l, 0) else (zeroD, 2)
theorem hf_less (x : Int) (w : World) (K : Value → World → Prop) (hk : K (.bool (decide (x < -1))) w) : oCallV Try.prog (.func (.func Try.n_types_Anew_1) #[] #[]) #[.int .i64 x] w K := by
  refine v_func (by kernel_rfl) ?_
  refine Try.ok_types_Anew_1 (t0 := .int .i64 x) ?_
  unfold Try.F_types_Anew_1
  (first | refine s_p ?_ | refine s_c (by omega) ?_)
  exact hk
theorem ints_at {w : World} {p : Option Addr} {l : List Int} (h : Sl w p (ints l)) {i : Nat} (hi : i < l.length) : ∃ b off, p = some ⟨b, off, none⟩ ∧ w.cell? ⟨b, off + i, none⟩ = some (.int .i64 l[i]) := by
  obtain ⟨b, off, hp, hc⟩ := h.at (i := i) (by rw [ints_len]; exact hi)
  refine ⟨b, off, hp, ?_⟩
  rw [hc]; simp [ints]
theorem c_types_Anew {t : TyD} {l : List Int} {p : Option Addr} {cap : Nat} {w : World} {r : Gh} {v : Value} {K : Value → World → Prop} (hr : Holds r w) (hv : TyG r v t) (hl : Ob r fun w => Sl w p (ints l)) (hb : l.length ≤ 1000)
    (h : ∀ v' sn w', Ext w w' → New w sn w' → TyG sn v' (anewT t l).1 → ChnG sn v' (anewT t l).1 → K (.tuple #[v', .int .i64 (anewT t l).2]) w') : oCall Try.prog Try.n_types_Anew #[v, .slice p l.length cap] w K := by
  refine Try.ok_types_Anew ?_
  unfold Try.F_types_Anew
  have hv0 := hv
  obtain ⟨p1, cap1, rfl, _⟩ := hv
  have S := St.start hr
  refine S.box fun b2 w1 S => ?_
  refine S.box fun b3 w2 S => ?_
  refine S.al fun b4 w3 S => ?_
  have S := S.go (Ext.drew _)
  (repeat (first | refine s_p ?_ | refine s_c (by omega) ?_ | refine S.ld ?_ | refine S.ldB ?_ | refine S.ce ?_ | refine S.ceB ?_ | refine s_q ?_ | refine s_qc (by omega) ?_ | refine n_some ?_ | rw [List.getD_cons_zero] | rw [List.getD_cons_succ]))
  refine c_types_may S.holds hv0 fun w4 e4 => ?_
  have S := S.go e4
  (repeat (first | refine s_p ?_ | refine s_c (by omega) ?_ | refine S.ld ?_ | refine S.ldB ?_ | refine S.ce ?_ | refine S.ceB ?_ | refine s_q ?_ | refine s_qc (by omega) ?_ | refine n_some ?_ | rw [List.getD_cons_zero] | rw [List.getD_cons_succ]))
  refine j_borE (c := decide (t.regs.length ≠ l.length)) (fun hB K2 hK2 => ?_) fun w9 e9 => ?_
  · have hB : isB t = true := by simpa using hB
    (repeat (first | refine s_p ?_ | refine s_c (by omega) ?_ | refine S.ld ?_ | refine S.ldB ?_ | refine S.ce ?_ | refine S.ceB ?_ | refine s_q ?_ | refine s_qc (by omega) ?_ | refine n_some ?_ | rw [List.getD_cons_zero] | rw [List.getD_cons_succ]))
    refine c_types_Regions S.holds hv0 fun v5 w5 e5 o5 => ⟨e5, ?_⟩
    obtain ⟨p5, cap5, rfl, _⟩ := own_shape o5
    (repeat (first | refine s_p ?_ | refine s_c (by omega) ?_ | refine S.ld ?_ | refine S.ldB ?_ | refine S.ce ?_ | refine S.ceB ?_ | refine s_q ?_ | refine s_qc (by omega) ?_ | refine n_some ?_ | rw [List.getD_cons_zero] | rw [List.getD_cons_succ]))
    have := hK2 _ e5
    rw [regsT, if_pos hB]
    have e1 : decide (((t.regs.length : Nat) : Int) ≠ ((l.length : Nat) : Int)) = decide (t.regs.length ≠ l.length) := decide_eq_decide.2 (by omega)
    rw [e1]; exact this
  have S := S.go e9
  refine j_borH (c := l.any fun x => decide (x < -1)) (fun _ K2 hK2 => ?_) ?_
  · (repeat (first | refine s_p ?_ | refine s_c (by omega) ?_ | refine S.ld ?_ | refine S.ldB ?_ | refine S.ce ?_ | refine S.ceB ?_ | refine s_q ?_ | refine s_qc (by omega) ?_ | refine n_some ?_ | rw [List.getD_cons_zero] | rw [List.getD_cons_succ]))
    refine c_ContainsFunc_int (f := fun x => decide (x < -1)) hf_less (S.at hl) (by omega) ?_
    exact hK2
  have hnb : ((!isB t || decide (t.regs.length ≠ l.length)) || l.any fun x => decide (x < -1)) = !anewB t l := by
    rw [anewB]
    cases isB t <;> cases l.any (fun x => decide (x < -1)) <;> simp
  rw [hnb]
  refine c_b (fun hn => ?_) (fun hn => ?_)
  · have hn : anewB t l = false := by simpa using hn
    have hT : anewT t l = (zeroD, 2) := by rw [anewT, hn]; rfl
    rw [hT] at h
    refine p_build (cs := #[.int .u8 0, .bool false, .int .i64 0, .int .i64 0, .slice none 0 0]) (by kernel_rfl) ?_
    refine S.stB fun w5 S => ?_
    (repeat (first | refine s_p ?_ | refine s_c (by omega) ?_ | refine S.ld ?_ | refine S.ldB ?_ | refine S.ce ?_ | refine S.ceB ?_ | refine s_q ?_ | refine s_qc (by omega) ?_ | refine n_some ?_ | rw [List.getD_cons_zero] | rw [List.getD_cons_succ]))
    exact h _ nothing _ S.ext New.nothing ty_leaf .nil
  · have hn : anewB t l = true := by simpa using hn
    have hT : anewT t l = (t.lay l, 0) := by rw [anewT, if_pos hn]
    rw [hT] at h
    rw [anewB, Bool.and_eq_true, Bool.and_eq_true, decide_eq_true_eq] at hn
    obtain ⟨⟨hB, hlen⟩, _⟩ := hn
    (repeat (first | refine s_p ?_ | refine s_c (by omega) ?_ | refine S.ld ?_ | refine S.ldB ?_ | refine S.ce ?_ | refine S.ceB ?_ | refine s_q ?_ | refine s_qc (by omega) ?_ | refine n_some ?_ | rw [List.getD_cons_zero] | rw [List.getD_cons_succ]))
    refine c_types_own 48 (by decide) hB S hv0 fun c N w5 hch S => ?_
    have S : StX noX w r w5 (.cell b2 [.int .u8 t.k, .bool t.m, .int .i64 t.re, .int .i64 t.st, .slice p1 t.of.length cap1] 25 :: ([.cell b3 [.slice p l.length cap] 26] ++ (N ++ [.cell b4 [.int .u8 0, .bool false, .int .i64 0, .int .i64 0, .slice none 0 0] 25]))) := S.perm (by
      refine (List.Perm.append_left N (List.Perm.swap _ _ _ |>.trans (List.Perm.cons _ (List.Perm.swap _ _ _)))).trans ?_
      refine (List.Perm.append_left N (List.Perm.swap _ _ _)).trans ?_
      refine List.perm_middle.trans (List.Perm.cons _ ?_)
      refine List.perm_middle.trans ?_
      exact List.Perm.refl _)
    have hcl := hch.len
    have hone := hch.ones
    refine S.stB (b := b2) (cs := c.toArray) (fun w6 S => ?_) rfl (by simpa using hcl) (by simpa using hone)
    refine S.al fun b6 w7 S => ?_
    refine S.st (b := b6) fun w8 S => ?_
    (first | refine s_p ?_ | refine s_c (by omega) ?_)
    have S : StX noX w r w8 (.cell b2 c 25 :: ([.cell b6 [.int .i64 ((0 : Nat) : Int)] 3, .cell b3 [.slice p l.length cap] 26] ++ (N ++ [.cell b4 [.int .u8 0, .bool false, .int .i64 0, .int .i64 0, .slice none 0 0] 25]))) := S.perm (List.Perm.swap _ _ _)
    refine c_types_walk (s := 32) (l := l) (Lc := fun i => [.cell b6 [.int .i64 (i : Nat)] 3, .cell b3 [.slice p l.length cap] 26]) ?_ 48 (i := 0) hB hch (by omega) (M := [.cell b4 [.int .u8 0, .bool false, .int .i64 0, .int .i64 0, .slice none 0 0] 25]) S fun c' N' w9 hch' S => ?_
    · intro i hi b k re st m v M w K S h
      refine v_func (by kernel_rfl) ?_
      refine Try.ok_types_Anew_2 (t0 := .pointer (some ⟨b, 0, none⟩)) (t1 := .pointer (some ⟨b3, 0, none⟩)) (t2 := .pointer (some ⟨b6, 0, none⟩)) ?_
      unfold Try.F_types_Anew_2
      have S : StX noX _ r _ (.cell b [.int .u8 k, .bool m, .int .i64 re, .int .i64 st, v] 25 :: .cell b6 [.int .i64 (i : Nat)] 3 :: .cell b3 [.slice p l.length cap] 26 :: M) := S
      obtain ⟨bp, op, rfl, hcell⟩ := ints_at (S.at hl) hi
      (repeat (first | refine s_p ?_ | refine s_c (by omega) ?_ | refine S.ld ?_ | refine S.ldB ?_ | refine S.ce ?_ | refine S.ceB ?_ | refine s_q ?_ | refine s_qc (by omega) ?_ | refine n_some ?_ | rw [List.getD_cons_zero] | rw [List.getD_cons_succ]))
      refine s_ld1 (by simpa using hcell) ?_
      (repeat (first | refine s_p ?_ | refine s_c (by omega) ?_ | refine S.ld ?_ | refine S.ldB ?_ | refine S.ce ?_ | refine S.ceB ?_ | refine s_q ?_ | refine s_qc (by omega) ?_ | refine n_some ?_ | rw [List.getD_cons_zero] | rw [List.getD_cons_succ]))
      refine S.st fun w1 S => ?_
      (repeat (first | refine s_p ?_ | refine s_c (by omega) ?_ | refine S.ld ?_ | refine S.ldB ?_ | refine S.ce ?_ | refine S.ceB ?_ | refine s_q ?_ | refine s_qc (by omega) ?_ | refine n_some ?_ | rw [List.getD_cons_zero] | rw [List.getD_cons_succ]))
      refine S.st (b := b6) fun w2 S => ?_
      refine h _ ?_
      rw [show ((i : Nat) : Int) + 1 = ((i + 1 : Nat) : Int) by omega] at S
      exact S
    rw [List.drop_zero] at hch'
    have S : StX noX w r w9 (.cell b2 c' 25 :: .cell b4 [.int .u8 0, .bool false, .int .i64 0, .int .i64 0, .slice none 0 0] 25 :: N') := (S.less (fun _ _ h => h) (.cons_cons _ (List.sublist_append_right _ _))).perm (by
      refine List.Perm.cons _ ?_
      show (N' ++ [_]).Perm ([_] ++ N')
      exact List.perm_append_comm)
    have hl' := hch'.len
    have hone' := hch'.ones
    refine S.ldB (b := b2) ?_ hl'
    refine S.stB (b := b4) (cs := c'.toArray) (fun w8 S => ?_) rfl (by simpa using hl') (by simpa using hone')
    refine S.ceB (b := b4) ?_ hl'
    have S : StX noX w r w8 (N' ++ []) := by rw [List.append_nil]; exact S.tl.tl
    obtain ⟨sn, S, ht, hg, hf⟩ := hch'.frz S
    exact h _ sn _ S.ext ⟨S.holds.le (h := inferInstance), fun b o hb => (hf b o hb).elim id fun h => h.elim⟩ ht hg
end Go.Proofs
end

section
namespace Go.Proofs

open Go.Sh

set_option maxRecDepth 100000

set_option linter.unusedSimpArgs false

set_option linter.unusedVariables false

end Go.Proofs
end

section
namespace Go.Proofs

open Go.Sh

set_option maxRecDepth 100000

set_option linter.unusedSimpArgs false

set_option linter.unusedVariables false

structure StD where
  name : ByteArray
  fs : List (ByteArray × TyD)
def fdat (f : ByteArray × TyD) : Dat := .agg [.str f.1, f.2.dat]
def StD.dat (s : StD) : Dat := .agg [.str s.name, .sl 6 (s.fs.map fdat)]
def FlG (r : Gh) (p : Option Addr) (fs : List (ByteArray × TyD)) : Prop := RepS r 6 p 0 (fs.map fdat)
def StG (r : Gh) (p : Option Addr) (ss : List StD) : Prop := RepS r 2 p 0 (ss.map StD.dat)
theorem StG.up {r s : Gh} {p : Option Addr} {ss : List StD} (h : StG r p ss) [l : Le r s] : StG s p ss := RepS.up' l h
theorem fl_at {r : Gh} {p : Option Addr} {fs : List (ByteArray × TyD)} (h : FlG r p fs) {k : Nat} (hk : k < fs.length) : ∃ b off c, p = some ⟨b, off, none⟩ ∧ c.length = 5 ∧
    (∀ j v, (Value.string fs[k].1 :: c)[j]? = some v → Ob r fun w => w.cell? ⟨b, off + k * 6 + j, none⟩ = some v) ∧ TyG r (.agg c.toArray) fs[k].2 := by
  obtain ⟨c, h1, h2, h3⟩ := RepS.get h (i := k) (d := fdat fs[k]) (by rw [List.getElem?_map, List.getElem?_eq_getElem hk]; rfl)
  obtain ⟨a1, b1, rfl, e1, a2, b2, rfl, e2, e3⟩ := h3
  obtain rfl : a1 = _ := e1
  obtain rfl : b2 = [] := e3
  rw [List.append_nil] at h1 h2
  obtain ⟨b, off, rfl, _⟩ := h2 0 _ rfl
  refine ⟨b, off, a2, rfl, by simpa using h1, fun j v hj => ?_, TyG.of_rep e2⟩
  obtain ⟨b', off', hp, ho⟩ := h2 j v hj
  cases hp
  rwa [Nat.zero_add] at ho
theorem st_at {r : Gh} {p : Option Addr} {ss : List StD} (h : StG r p ss) {i : Nat} (hi : i < ss.length) : ∃ b off q cap, p = some ⟨b, off, none⟩ ∧
    (Ob r fun w => w.cell? ⟨b, off + i * 2 + 1, none⟩ = some (.slice q ss[i].fs.length cap)) ∧ (q = none → cap = 0) ∧ ss[i].fs.length ≤ cap ∧ FlG r q ss[i].fs := by
  obtain ⟨c, h1, h2, h3⟩ := RepS.get h (i := i) (d := StD.dat ss[i]) (by rw [List.getElem?_map, List.getElem?_eq_getElem hi]; rfl)
  obtain ⟨a1, b1, rfl, e1, a2, b2, rfl, e2, e3⟩ := h3
  obtain rfl : a1 = _ := e1
  obtain rfl : b2 = [] := e3
  obtain ⟨q, cap, rfl, hq, hc, hf⟩ := e2
  rw [List.length_map] at hc h2
  obtain ⟨b, off, rfl, _⟩ := h2 0 _ rfl
  obtain ⟨b', off', hp, ho⟩ := h2 1 (.slice q ss[i].fs.length cap) (by rfl)
  cases hp
  rw [Nat.zero_add] at ho
  exact ⟨b, off, q, cap, rfl, ho, hq, hc, hf⟩
/-! ### What stands in what -/

/-- the types of a struct's fields -/
def tysAt (ss : List StD) (k : Int) : List TyD := match ss[k.toNat]? with | some s => s.fs.map (·.2) | none => []
/-- a struct j stands in a field of k -/
def Kid (ss : List StD) (k j : Int) : Prop := ∃ t ∈ tysAt ss k, t.k = 5 ∧ t.st = j
inductive Rch (ss : List StD) : Int → Int → Prop
  | one {k j : Int} : Kid ss k j → Rch ss k j
  | more {k j i : Int} : Rch ss k j → Kid ss j i → Rch ss k i
theorem Rch.trans {ss : List StD} {a b c : Int} (h : Rch ss a b) (k : Rch ss b c) : Rch ss a c := by
  induction k with
  | one e => exact .more h e
  | more _ e ih => exact .more ih e
/-- each field's type may be among the structs -/
def Good (ss : List StD) : Prop := ∀ k, ∀ t ∈ tysAt ss k, lookB ss.length 48 t = true
theorem look_st {n : Int} {m : Nat} {t : TyD} (h : lookB n (m + 1) t = true) (hk : t.k = 5) : 0 ≤ t.st ∧ t.st < n ∧ t.of = [] := by
  rw [lookB_succ] at h
  rw [if_neg (by omega), if_pos hk] at h
  simp only [Bool.and_eq_true, decide_eq_true_eq] at h
  exact ⟨h.1.2, h.2, List.eq_nil_of_length_eq_zero h.1.1.2⟩
theorem kid_in {ss : List StD} (hg : Good ss) {k j : Int} (h : Kid ss k j) : 0 ≤ j ∧ j < ss.length := by
  obtain ⟨t, ht, h5, rfl⟩ := h
  have := look_st (hg k t ht) h5
  exact ⟨this.1, this.2.1⟩
theorem rch_in {ss : List StD} (hg : Good ss) {k j : Int} (h : Rch ss k j) : 0 ≤ j ∧ j < ss.length := by
  cases h with
  | one h => exact kid_in hg h
  | more _ h => exact kid_in hg h
open Classical in
/-- how many structs are reached -/
noncomputable def rkS (ss : List StD) (k : Int) : Nat := (List.range ss.length).countP fun j : Nat => decide (Rch ss k (j : Int))
noncomputable def rkT (ss : List StD) (t : TyD) : Nat := if t.k = 5 then rkS ss t.st + 1 else 0
open Classical in
theorem rk_le (ss : List StD) (t : TyD) : rkT ss t ≤ ss.length + 1 := by
  unfold rkT rkS
  split
  · have := List.countP_le_length (p := fun j : Nat => decide (Rch ss t.st (j : Int))) (l := List.range ss.length)
    rw [List.length_range] at this
    omega
  · omega
theorem countP_lt {p q : Nat → Bool} : ∀ {l : List Nat}, (∀ x ∈ l, p x = true → q x = true) → (∃ x ∈ l, p x = false ∧ q x = true) → l.countP p < l.countP q
  | [], _, h => by obtain ⟨x, hx, _⟩ := h; cases hx
  | a :: l, h1, h2 => by
    rw [List.countP_cons, List.countP_cons]
    have hle : l.countP p ≤ l.countP q := List.countP_mono_left fun x hx => h1 x (List.mem_cons_of_mem _ hx)
    have ha := h1 a List.mem_cons_self
    by_cases hex : ∃ x ∈ l, p x = false ∧ q x = true
    · have := countP_lt (fun x hx => h1 x (List.mem_cons_of_mem _ hx)) hex
      cases hp : p a <;> cases hq : q a <;> simp_all <;> omega
    · obtain ⟨x, hx, hx1, hx2⟩ := h2
      rcases List.mem_cons.1 hx with rfl | hx
      · rw [hx1, hx2]; simp; omega
      · exact absurd ⟨x, hx, hx1, hx2⟩ hex
open Classical in
theorem rk_lt {ss : List StD} (hg : Good ss) (hac : ∀ k, ¬ Rch ss k k) {t u : TyD} (h5 : t.k = 5) (hu : u ∈ tysAt ss t.st) : rkT ss u < rkT ss t := by
  unfold rkT
  rw [if_pos h5]
  split
  · rename_i hu5
    have hk : Kid ss t.st u.st := ⟨u, hu, hu5, rfl⟩
    have hin := kid_in hg hk
    have := countP_lt (p := fun j : Nat => decide (Rch ss u.st (j : Int))) (q := fun j : Nat => decide (Rch ss t.st (j : Int))) (l := List.range ss.length)
      (fun x _ hx => decide_eq_true (Rch.trans (.one hk) (of_decide_eq_true hx)))
      ⟨u.st.toNat, List.mem_range.2 (by omega), decide_eq_false (by rw [Int.toNat_of_nonneg hin.1]; exact hac _), decide_eq_true (by rw [Int.toNat_of_nonneg hin.1]; exact .one hk)⟩
    unfold rkS
    omega
  · omega
/-! ### Words, drops -/

def wsum : List Nat → Nat
  | [] => 0
  | x :: l => x + wsum l
theorem wsum_append : ∀ (a b : List Nat), wsum (a ++ b) = wsum a + wsum b
  | [], b => by simp [wsum]
  | x :: a, b => by simp only [List.cons_append, wsum, wsum_append a b]; omega
def wF (ss : List StD) : Nat → TyD → Nat
  | 0, _ => 1
  | m + 1, t => if t.k = 5 then wsum ((tysAt ss t.st).map (wF ss m)) else 1
def dF (ss : List StD) : Nat → TyD → Bool
  | 0, t => decide (t.k = 3)
  | m + 1, t => if t.k = 5 then (tysAt ss t.st).any (dF ss m) else decide (t.k = 3)
/-- the first number of which something is so -/
def fstB (n : Nat) (p : Nat → Bool) : Nat := ((List.range n).find? p).getD n
theorem fstB_none {n : Nat} {p : Nat → Bool} (h : ∀ j, j < n → p j = false) : fstB n p = n := by
  rw [fstB, List.find?_eq_none.2 (by intro x hx; rw [h x (List.mem_range.1 hx)]; decide)]; rfl
theorem fstB_some {n i : Nat} {p : Nat → Bool} (hi : i < n) (hp : p i = true) (h : ∀ j, j < i → p j = false) : fstB n p = i := by
  have : (List.range n).find? p = some i := by
    rw [List.find?_range_eq_some]
    exact ⟨hp, List.mem_range.2 hi, fun j hj => by rw [h j hj]; rfl⟩
  rw [fstB, this]; rfl
theorem fstB_lt {n : Nat} {p : Nat → Bool} (h : ¬ fstB n p < n) : ∀ j, j < n → p j = false := by
  intro j hj
  by_cases hp : ∀ j, j < n → p j = false
  · exact hp j hj
  · exfalso
    apply h
    unfold fstB
    cases hf : (List.range n).find? p with
    | none =>
      exfalso; apply hp
      intro j hj
      have := List.find?_eq_none.1 hf j (List.mem_range.2 hj)
      simpa using this
    | some x => exact List.mem_range.1 (List.mem_of_find?_eq_some hf)
def bad1 (ss : List StD) (k : Nat) : Bool :=
  (decide ((tysAt ss k).length < 1) || decide (8 < (tysAt ss k).length)) || (tysAt ss k).any fun t => !lookB ss.length 48 t || decide (0 < t.regs.length)
open Classical in
noncomputable def bad2 (ss : List StD) (k : Nat) : Bool := decide (Rch ss k k)
def bad3 (ss : List StD) (k : Nat) : Bool := decide (16 < wF ss 40 (.mk 5 false 0 k []))
/-- what Structs tells -/
noncomputable def structsT (ss : List StD) : Int × Int :=
  if 32 < ss.length then (32, 2)
  else if fstB ss.length (bad1 ss) < ss.length then (fstB ss.length (bad1 ss), 2)
  else if fstB ss.length (bad2 ss) < ss.length then (fstB ss.length (bad2 ss), 2)
  else if fstB ss.length (bad3 ss) < ss.length then (fstB ss.length (bad3 ss), 2)
  else (0, 0)
theorem tysAt_eq {ss : List StD} {i : Nat} (hi : i < ss.length) : tysAt ss i = ss[i].fs.map (·.2) := by
  rw [tysAt, Int.toNat_natCast, List.getElem?_eq_getElem hi]
theorem tysAt_len {ss : List StD} {i : Nat} (hi : i < ss.length) : (tysAt ss i).length = ss[i].fs.length := by
  rw [tysAt_eq hi, List.length_map]
theorem tysAt_out {ss : List StD} {k : Int} (h : ¬ k.toNat < ss.length) : tysAt ss k = [] := by
  rw [tysAt, List.getElem?_eq_none (by omega)]
theorem good_of {ss : List StD} (h : ∀ k, k < ss.length → bad1 ss k = false) : Good ss := by
  intro k t ht
  by_cases hk : k.toNat < ss.length
  · have := h k.toNat hk
    have e : tysAt ss (k.toNat : Int) = tysAt ss k := by rw [tysAt, tysAt, Int.toNat_natCast]
    rw [bad1, e, Bool.or_eq_false_iff] at this
    have := List.any_eq_false.1 this.2 t ht
    simp only [Bool.or_eq_true, Bool.not_eq_true', not_or] at this
    simpa using this.1
  · rw [tysAt_out hk] at ht; cases ht
theorem acyc_of {ss : List StD} (hg : Good ss) (h : ∀ k, k < ss.length → bad2 ss k = false) : ∀ k, ¬ Rch ss k k := by
  intro k hk
  have hin := rch_in hg hk
  have := h k.toNat (by omega)
  rw [bad2, decide_eq_false_iff_not, Int.toNat_of_nonneg hin.1] at this
  exact this hk
/-- all is well with the structs -/
theorem structs_ok {ss : List StD} (h : (structsT ss).2 = 0) : ss.length ≤ 32 ∧ (∀ k, k < ss.length → bad1 ss k = false) ∧ Good ss ∧ (∀ k, ¬ Rch ss k k) ∧ (∀ k, k < ss.length → bad3 ss k = false) ∧ structsT ss = (0, 0) := by
  unfold structsT at h ⊢
  split at h
  · cases h
  split at h
  · cases h
  split at h
  · cases h
  split at h
  · cases h
  rename_i h1 h2 h3 h4
  have g := good_of (fstB_lt h2)
  refine ⟨by omega, fstB_lt h2, g, acyc_of g (fstB_lt h3), fstB_lt h4, ?_⟩
  rw [if_neg h1, if_neg h2, if_neg h3, if_neg h4]
end Go.Proofs
end

section
namespace Go.Proofs

open Go.Sh

set_option maxRecDepth 100000

set_option linter.unusedSimpArgs false

set_option linter.unusedVariables false

theorem wsum_take {α : Type} (f : α → Nat) {l : List α} {i : Nat} (hi : i < l.length) : wsum ((l.take (i + 1)).map f) = wsum ((l.take i).map f) + f l[i] := by
  rw [List.take_succ_eq_append_getElem hi, List.map_append, wsum_append]; simp [wsum]
theorem wsum_le {α : Type} (f : α → Nat) (l : List α) (i : Nat) : wsum ((l.take i).map f) ≤ wsum (l.map f) := by
  have := congrArg (fun l => wsum (l.map f)) (List.take_append_drop i l)
  simp only [List.map_append, wsum_append] at this
  rw [← this]
  exact Nat.le_add_right _ _
theorem fld_ones {r : Gh} {c : List Value} {s : ByteArray} {t : TyD} (h : TyG r (.agg c.toArray) t) : ∀ u ∈ (Value.string s :: c).toArray.toList, u.oneCell' = true := by
  intro u hu
  rcases List.mem_cons.1 (by simpa using hu) with rfl | hu
  · rfl
  · exact ty_ones h u (by simpa using hu)
/-- a field's type, loaded out of a field of one's own -/
theorem _root_.Go.Sh.StX.fty {X : Nat → Prop} {w0 w : World} {r : Gh} {L : List Asr} {f : List Value → List Asr} {T : TypeId} {b : Nat} {s : ByteArray} {c : List Value} (S : StX X w0 r w L) [h : At b L (.string s :: c) T f] (hc : c.length = 5) {K : Value → Prop} (k : K (.agg c.toArray)) :
    opQ Try.prog w (Instr.loadAt 25 (.pointer (some ⟨b, 0 + 1, none⟩))) K :=
  S.ldN (h := h) (n := 5) (vs := c) k (by rw [List.drop_succ_cons, List.drop_zero, List.take_of_length_le (by omega)]) hc
theorem c_types_words {ss : List StD} {p : Option Addr} {cap : Nat} (hg : Good ss) (hac : ∀ k, ¬ Rch ss k k) : ∀ (m : Nat) {t : TyD} {w : World} {r : Gh} {v : Value} {K : Value → World → Prop}, m ≤ 100 → rkT ss t ≤ m → lookB ss.length 48 t = true → ss.length ≤ 32 → (∀ k, (tysAt ss k).length ≤ 8) →
    Holds r w → StG r p ss → TyG r v t → (∀ w', Ext w w' → K (.int .i64 (min (wF ss m t) 17 : Nat)) w') → oCall Try.prog Try.n_types_words #[.slice p ss.length cap, v] w K := by
  intro m
  induction m with
  | zero =>
    intro t w r v K _ hrk hl h32 h8 hr hs hv h
    have h5 : ¬ t.k = 5 := fun h => by unfold rkT at hrk; rw [if_pos h] at hrk; omega
    refine Try.ok_types_words ?_
    unfold Try.F_types_words
    obtain ⟨p1, cap1, rfl, _⟩ := hv
    have S := St.start hr
    refine S.box fun b3 w1 S => ?_
    (repeat (first | refine s_p ?_ | refine s_c (by omega) ?_ | refine S.ld ?_ | refine S.ldB ?_ | refine S.ce ?_ | refine S.ceB ?_ | refine s_q ?_ | refine s_qc (by omega) ?_ | refine n_some ?_ | rw [List.getD_cons_zero] | rw [List.getD_cons_succ]))
    refine c_if (fun _ => h _ S.ext) (fun hn => absurd (by omega) h5)
  | succ m ih =>
    intro t w r v K hm hrk hl h32 h8 hr hs hv h
    refine Try.ok_types_words ?_
    unfold Try.F_types_words
    obtain ⟨p1, cap1, rfl, _⟩ := hv
    have S := St.start hr
    refine S.box fun b3 w1 S => ?_
    (repeat (first | refine s_p ?_ | refine s_c (by omega) ?_ | refine S.ld ?_ | refine S.ldB ?_ | refine S.ce ?_ | refine S.ceB ?_ | refine s_q ?_ | refine s_qc (by omega) ?_ | refine n_some ?_ | rw [List.getD_cons_zero] | rw [List.getD_cons_succ]))
    refine c_if (fun hn => ?_) (fun h5 => ?_)
    · rw [wF, if_neg (by omega)] at h
      exact h _ S.ext
    have h5 : t.k = 5 := by omega
    obtain ⟨hst0, hst1, _⟩ := look_st hl h5
    have hlt : t.st.toNat < ss.length := by omega
    obtain ⟨b, off, q, capq, rfl, hcell, _, _, hf⟩ := st_at hs hlt
    (repeat (first | refine s_p ?_ | refine s_c (by omega) ?_ | refine S.ld ?_ | refine S.ldB ?_ | refine S.ce ?_ | refine S.ceB ?_ | refine s_q ?_ | refine s_qc (by omega) ?_ | refine n_some ?_ | rw [List.getD_cons_zero] | rw [List.getD_cons_succ]))
    refine s_ld1 (S.at hcell) ?_
    have htl : tysAt ss t.st = ss[t.st.toNat].fs.map (·.2) := by
      rw [← tysAt_eq hlt]; simp only [tysAt, Int.toNat_natCast]
    have hlen : (tysAt ss t.st).length = ss[t.st.toNat].fs.length := by rw [htl, List.length_map]
    have h88 := h8 t.st
    (repeat (first | refine s_p ?_ | refine s_c (by omega) ?_ | refine S.ld ?_ | refine S.ldB ?_ | refine S.ce ?_ | refine S.ceB ?_ | refine s_q ?_ | refine s_qc (by omega) ?_ | refine n_some ?_ | rw [List.getD_cons_zero] | rw [List.getD_cons_succ]))
    refine l_intro (ι := Nat) (fun i => [.int .i64 (wsum (((tysAt ss t.st).take i).map (wF ss m)) : Nat), .int .i64 i]) (fun i w' => i ≤ (tysAt ss t.st).length ∧ wsum (((tysAt ss t.st).take i).map (wF ss m)) ≤ 16 ∧ St w r w' _)
      (fun i => (tysAt ss t.st).length - i) 0 rfl ⟨Nat.zero_le _, by simp [wsum], S⟩ ?_
    clear S
    rintro i d w2 ⟨hi, hsum, S⟩ K6 hK6
    rw [List.getD_cons_zero, List.getD_cons_succ, List.getD_cons_zero]
    (repeat (first | refine s_p ?_ | refine s_c (by omega) ?_ | refine S.ld ?_ | refine S.ldB ?_ | refine S.ce ?_ | refine S.ceB ?_ | refine s_q ?_ | refine s_qc (by omega) ?_ | refine n_some ?_ | rw [List.getD_cons_zero] | rw [List.getD_cons_succ]))
    refine c_b (fun hlt2 => ?_) (fun hge => ?_)
    · have hlt2 : i < ss[t.st.toNat].fs.length := by simpa using hlt2
      have hlt3 : i < (tysAt ss t.st).length := by omega
      obtain ⟨b2, off2, c, rfl, hcl, hcc, hty⟩ := fl_at hf hlt2
      (repeat (first | refine s_p ?_ | refine s_c (by omega) ?_ | refine S.ld ?_ | refine S.ldB ?_ | refine S.ce ?_ | refine S.ceB ?_ | refine s_q ?_ | refine s_qc (by omega) ?_ | refine n_some ?_ | rw [List.getD_cons_zero] | rw [List.getD_cons_succ]))
      refine s_ldN (n := 6) (c := .string ss[t.st.toNat].fs[i].1 :: c) (by simp [hcl]) (fun j v hj => by rw [Int.toNat_natCast]; exact S.at (hcc j v hj)) ?_
      refine S.al fun b7 w3 S => ?_
      refine S.stB (cs := (Value.string ss[t.st.toNat].fs[i].1 :: c).toArray) (fun w4 S => ?_) rfl (by simp [hcl]) (fld_ones hty)
      (first | refine s_p ?_ | refine s_c (by omega) ?_)
      refine S.fty hcl ?_
      have hel : (tysAt ss t.st)[i] = ss[t.st.toNat].fs[i].2 := by simp only [htl, List.getElem_map]
      have hmem : ss[t.st.toNat].fs[i].2 ∈ tysAt ss t.st := by rw [← hel]; exact List.getElem_mem hlt3
      have hrk2 := rk_lt hg hac h5 hmem
      refine ih (by omega) (by omega) (hg _ _ hmem) h32 h8 S.holds hs hty fun w5 e5 => ?_
      have S := (S.go e5).tl
      have hst := wsum_take (wF ss m) hlt3
      rw [hel] at hst
      (first | refine s_p ?_ | refine s_c (by omega) ?_)
      (first | refine s_p ?_ | refine s_c (by omega) ?_)
      have htot : wsum (((tysAt ss t.st).take (i + 1)).map (wF ss m)) ≤ wF ss (m + 1) t := by
        rw [wF, if_pos h5]; exact wsum_le _ _ _
      refine c_b (fun hbig => ?_) (fun hsm => ?_)
      · have hbig : 16 < wsum (((tysAt ss t.st).take i).map (wF ss m)) + min (wF ss m ss[t.st.toNat].fs[i].2) 17 := by
          have := of_decide_eq_true hbig; omega
        have e : min (wF ss (m + 1) t) 17 = 17 := by omega
        rw [e] at h
        exact h _ S.ext
      · have hsm : ¬ 16 < wsum (((tysAt ss t.st).take i).map (wF ss m)) + min (wF ss m ss[t.st.toNat].fs[i].2) 17 := by
          have := of_decide_eq_false hsm; omega
        (first | refine s_p ?_ | refine s_c (by omega) ?_)
        have e : (wsum (((tysAt ss t.st).take i).map (wF ss m)) : Int) + ((min (wF ss m ss[t.st.toNat].fs[i].2) 17 : Nat) : Int) = (wsum (((tysAt ss t.st).take (i + 1)).map (wF ss m)) : Nat) := by omega
        rw [e, show ((i : Int) + 1) = ((i + 1 : Nat) : Int) by omega]
        exact hK6 (i + 1) _ ⟨hlt3, by omega, S⟩ (by omega)
    · have hie : i = (tysAt ss t.st).length := by
        have : ¬ i < ss[t.st.toNat].fs.length := by simpa using hge
        omega
      rw [hie, List.take_length] at hsum ⊢
      have e : min (wF ss (m + 1) t) 17 = wsum ((tysAt ss t.st).map (wF ss m)) := by
        rw [wF, if_pos h5]; omega
      rw [e] at h
      exact h _ S.ext
/-! ### Who stands in himself -/

def mt (met : List Bool) (j : Int) : Bool := met.getD j.toNat false
def cf : List Bool → Nat
  | [] => 0
  | b :: l => (if b then 0 else 1) + cf l
theorem cf_set : ∀ {l : List Bool} {i : Nat}, l[i]? = some false → cf (l.set i true) + 1 = cf l
  | [], i, h => by simp at h
  | b :: l, 0, h => by
    simp only [List.getElem?_cons_zero, Option.some.injEq] at h
    subst h
    simp [cf]; omega
  | b :: l, i + 1, h => by
    have := cf_set (l := l) (i := i) (by simpa using h)
    simp only [List.set_cons_succ, cf]; omega
theorem mt_set {met : List Bool} {i j : Int} (hi : 0 ≤ i) (hj : 0 ≤ j) (hlt : i.toNat < met.length) : mt (met.set i.toNat true) j = (decide (j = i) || mt met j) := by
  unfold mt
  rw [List.getD_eq_getElem?_getD, List.getD_eq_getElem?_getD, List.getElem?_set]
  by_cases h : i.toNat = j.toNat
  · have : j = i := by omega
    subst this
    simp [hlt]
  · have : ¬ j = i := fun e => h (by rw [e])
    rw [if_neg h]; simp [this]
/-- how far the search has come; x: whose fields are being looked at, so far -/
structure QI (ss : List StD) (k : Int) (N : Nat) (W : List Int) (met : List Bool) (x : Option (Int × Nat)) : Prop where
  len : met.length = N
  dom : ss.length ≤ N
  rng : ∀ y ∈ W, 0 ≤ y ∧ y < ss.length
  s1 : ∀ j, 0 ≤ j → mt met j = true → Rch ss k j
  s2 : ∀ y ∈ W, y = k ∨ mt met y = true
  s3 : ∀ y, 0 ≤ y → (y = k ∨ mt met y = true) → y ∉ W → (∀ q, x = some q → y ≠ q.1) → ∀ j, Kid ss y j → mt met j = true
  s4 : ∀ q, x = some q → (q.1 = k ∨ Rch ss k q.1) ∧ ∀ t ∈ (tysAt ss q.1).take q.2, t.k = 5 → mt met t.st = true
theorem QI.start {ss : List StD} {k : Int} {N : Nat} (hd : ss.length ≤ N) (h0 : 0 ≤ k) (h1 : k < ss.length) : QI ss k N [k] (List.replicate N false) none := by
  have hm : ∀ j, mt (List.replicate N false) j = false := fun j => by
    unfold mt; rw [List.getD_eq_getElem?_getD, List.getElem?_replicate]; split <;> rfl
  refine ⟨List.length_replicate, hd, by simp; omega, fun j _ h => ?_, by simp, fun y _ h hn => ?_, fun q h => by cases h⟩
  · rw [hm] at h; cases h
  · rcases h with rfl | h
    · simp at hn
    · rw [hm] at h; cases h
theorem QI.pop {ss : List StD} {k x : Int} {N : Nat} {W : List Int} {met : List Bool} (h : QI ss k N (x :: W) met none) : QI ss k N W met (some (x, 0)) := by
  have hx := h.rng x List.mem_cons_self
  refine ⟨h.len, h.dom, fun y hy => h.rng y (List.mem_cons_of_mem _ hy), h.s1, fun y hy => h.s2 y (List.mem_cons_of_mem _ hy), fun y hy hk hn hx j hj => ?_, fun q hq => ?_⟩
  · refine h.s3 y hy hk ?_ (fun q hq => by cases hq) j hj
    intro hm
    rcases List.mem_cons.1 hm with rfl | hm
    · exact hx _ rfl rfl
    · exact hn hm
  · cases hq
    refine ⟨(h.s2 x List.mem_cons_self).imp id (h.s1 x hx.1), by simp⟩
theorem QI.skip {ss : List StD} {k x : Int} {N i : Nat} {W : List Int} {met : List Bool} (h : QI ss k N W met (some (x, i))) (hi : i < (tysAt ss x).length) (hs : (tysAt ss x)[i].k = 5 → mt met (tysAt ss x)[i].st = true) : QI ss k N W met (some (x, i + 1)) := by
  refine ⟨h.len, h.dom, h.rng, h.s1, h.s2, fun y hy hk hn hx j hj => h.s3 y hy hk hn (fun q hq => by cases hq; exact hx (x, i + 1) rfl) j hj, fun q hq => ?_⟩
  cases hq
  have := h.s4 _ rfl
  refine ⟨this.1, fun t ht h5 => ?_⟩
  simp only at ht
  rw [List.take_succ_eq_append_getElem hi, List.mem_append, List.mem_singleton] at ht
  rcases ht with ht | rfl
  · exact this.2 t ht h5
  · exact hs h5
theorem QI.push {ss : List StD} {k x : Int} {N i : Nat} {W : List Int} {met : List Bool} (hg : Good ss) (h : QI ss k N W met (some (x, i))) (hi : i < (tysAt ss x).length) (h5 : (tysAt ss x)[i].k = 5) :
    QI ss k N (W ++ [(tysAt ss x)[i].st]) (met.set (tysAt ss x)[i].st.toNat true) (some (x, i + 1)) := by
  have hk : Kid ss x (tysAt ss x)[i].st := ⟨_, List.getElem_mem hi, h5, rfl⟩
  have hin := kid_in hg hk
  have hd := h.dom
  have hlen := h.len
  have hms : ∀ j, 0 ≤ j → mt (met.set (tysAt ss x)[i].st.toNat true) j = (decide (j = (tysAt ss x)[i].st) || mt met j) := fun j hj => mt_set hin.1 hj (by omega)
  refine ⟨by rw [List.length_set]; exact h.len, h.dom, fun y hy => ?_, fun j hj hm => ?_, fun y hy => ?_, fun y hy hyk hn hx j hj => ?_, fun q hq => ?_⟩
  · rcases List.mem_append.1 hy with hy | hy
    · exact h.rng y hy
    · rw [List.mem_singleton.1 hy]; exact hin
  · rw [hms j hj, Bool.or_eq_true, decide_eq_true_eq] at hm
    rcases hm with rfl | hm
    · rcases (h.s4 _ rfl).1 with hx | hx
      · have hx : x = k := hx
        rw [← hx]; exact .one hk
      · exact .more hx hk
    · exact h.s1 j hj hm
  · rcases List.mem_append.1 hy with hy | hy
    · refine (h.s2 y hy).imp id fun hm => ?_
      rw [hms y (h.rng y hy).1, hm, Bool.or_true]
    · rw [List.mem_singleton.1 hy, hms _ hin.1]; simp
  · have hj0 := (kid_in hg hj).1
    rw [hms j hj0]
    rw [hms y hy, Bool.or_eq_true, decide_eq_true_eq] at hyk
    have hnw : y ∉ W := fun hm => hn (List.mem_append_left _ hm)
    have hne : y ≠ (tysAt ss x)[i].st := fun e => hn (by rw [e]; exact List.mem_append_right _ List.mem_cons_self)
    rw [h.s3 y hy (hyk.imp id fun hh => hh.resolve_left hne) hnw (fun q hq => by cases hq; exact hx (x, i + 1) rfl) j hj, Bool.or_true]
  · cases hq
    have := h.s4 _ rfl
    refine ⟨this.1, fun t ht h5' => ?_⟩
    simp only at ht
    rw [List.take_succ_eq_append_getElem hi, List.mem_append, List.mem_singleton] at ht
    rcases ht with ht | rfl
    · have ht0 := (kid_in hg (k := x) ⟨t, List.mem_of_mem_take ht, h5', rfl⟩).1
      rw [hms _ ht0, this.2 t ht h5', Bool.or_true]
    · rw [hms _ hin.1]; simp
theorem QI.done {ss : List StD} {k x : Int} {N i : Nat} {W : List Int} {met : List Bool} (h : QI ss k N W met (some (x, i))) (hi : (tysAt ss x).length ≤ i) : QI ss k N W met none := by
  refine ⟨h.len, h.dom, h.rng, h.s1, h.s2, fun y hy hk hn _ j hj => ?_, fun q hq => by cases hq⟩
  by_cases hyx : y = x
  · subst hyx
    obtain ⟨t, ht, h5, rfl⟩ := hj
    have := (h.s4 _ rfl).2 t (by simp only; rw [List.take_of_length_le hi]; exact ht) h5
    exact this
  · exact h.s3 y hy hk hn (fun q hq => by cases hq; exact hyx) j hj
theorem QI.all {ss : List StD} {k : Int} {N : Nat} {met : List Bool} (hg : Good ss) (h0 : 0 ≤ k) (h : QI ss k N [] met none) {j : Int} (hr : Rch ss k j) : mt met j = true := by
  induction hr with
  | one e => exact h.s3 k h0 (.inl rfl) (by simp) (fun q hq => by cases hq) _ e
  | more hr e ih => exact h.s3 _ (rch_in hg hr).1 (.inr ih) (by simp) (fun q hq => by cases hq) _ e
open Classical in
theorem bad2_eq {ss : List StD} {k : Nat} {b : Bool} (h1 : b = true → Rch ss k k) (h2 : Rch ss k k → b = true) : b = bad2 ss k := by
  rw [bad2]
  by_cases hr : Rch ss k k
  · rw [decide_eq_true hr]; exact h2 hr
  · rw [decide_eq_false hr]
    cases b
    · rfl
    · exact absurd (h1 rfl) hr
def bools (l : List Bool) : List Value := l.map .bool
theorem bools_len (l : List Bool) : (bools l).length = l.length := List.length_map ..
theorem bools_at {l : List Bool} {j : Int} (h : j.toNat < l.length) : (bools l)[j.toNat]? = some (.bool (mt l j)) := by
  unfold bools mt
  rw [List.getElem?_map, List.getD_eq_getElem?_getD, List.getElem?_eq_getElem h]; rfl
theorem c_types_endless {ss : List StD} {p : Option Addr} {cap k : Nat} (hg : Good ss) (h32 : ss.length ≤ 32) (hk : k < ss.length) (h8 : ∀ k, (tysAt ss k).length ≤ 8) {w : World} {r : Gh} {K : Value → World → Prop} (hr : Holds r w) (hs : StG r p ss)
    (h : ∀ w', Ext w w' → K (.bool (bad2 ss k)) w') : oCall Try.prog Try.n_types_endless #[.slice p ss.length cap, .int .i64 k] w K := by
  refine Try.ok_types_endless ?_
  unfold Try.F_types_endless
  have S := St.start hr
  refine S.al fun b5 w1 S => ?_
  refine S.lit (e := 3) (cs := [.int .i64 k]) (by kernel_rfl) fun b11 w2 S => ?_
  have S := S.toRow 1 1 rfl (by decide)
  have S := S.toQue (.slice (some ⟨b11, 0, none⟩) 1 1)
  have S : StX noX w r w2 [.que (.slice (some ⟨b11, 0, none⟩) 1 1) 3 1 [(k : Int)].length (ints [(k : Int)]), .cell b5 (bools (List.replicate 32 false)) 151] := S
  refine l_intro (ι := List Int × List Bool × Value) (fun i => [i.2.2]) (fun i w' => QI ss k 32 i.1 i.2.1 none ∧ 2 * cf i.2.1 + i.1.length ≤ 65 ∧ StX noX w r w' [.que i.2.2 3 1 i.1.length (ints i.1), .cell b5 (bools i.2.1) 151])
    (fun i => 2 * cf i.2.1 + i.1.length) ([(k : Int)], List.replicate 32 false, _) rfl ⟨QI.start h32 (by omega) (by omega), (show 2 * cf (List.replicate 32 false) + 1 ≤ 65 by decide), S⟩ ?_
  clear S
  rintro ⟨W, met, vq⟩ d w3 ⟨hq, h65, S⟩ K3 hK3
  simp only at hq h65 S ⊢
  rw [List.getD_cons_zero]
  obtain ⟨pq, capq, rfl, hp0, hcq, _, hsl⟩ := S.queS vq
  (first | refine s_p ?_ | refine s_c (by omega) ?_)
  (first | refine s_p ?_ | refine s_c (by omega) ?_)
  refine c_b (fun hpos => ?_) (fun hz => ?_)
  · have hpos : 0 < W.length := by simpa using hpos
    cases W with
    | nil => simp at hpos
    | cons x W =>
      obtain ⟨bq, oq, rfl, hcell⟩ := ints_at hsl hpos
      have hx := hq.rng x List.mem_cons_self
      (first | refine s_p ?_ | refine s_c (by omega) ?_)
      refine s_ld1 (by simpa using hcell) ?_
      refine S.loQ (by omega) (by omega) hpos fun v' S => ?_
      have S : StX noX w r w3 [.que v' 3 1 W.length (ints W), .cell b5 (bools met) 151] := S
      have hxn : x.toNat < ss.length := by omega
      obtain ⟨bs', os', q, capf, rfl, hcs, _, _, hf⟩ := st_at hs hxn
      (first | refine s_p ?_ | refine s_c (by omega) ?_)
      (first | refine s_p ?_ | refine s_c (by omega) ?_)
      refine s_ld1 (S.at hcs) ?_
      (first | refine s_p ?_ | refine s_c (by omega) ?_)
      have htl : tysAt ss x = ss[x.toNat].fs.map (·.2) := by
        rw [← tysAt_eq hxn]; simp only [tysAt, Int.toNat_natCast]
      have hlen : (tysAt ss x).length = ss[x.toNat].fs.length := by rw [htl, List.length_map]
      have h88 := h8 x
      refine l_intro (ι := Nat × List Int × List Bool × Value) (fun i => [i.2.2.2, .int .i64 i.1]) (fun i w' => i.1 ≤ (tysAt ss x).length ∧ QI ss k 32 i.2.1 i.2.2.1 (some (x, i.1)) ∧ 2 * cf i.2.2.1 + i.2.1.length ≤ 2 * cf met + W.length ∧
        StX noX w r w' [.que i.2.2.2 3 1 i.2.1.length (ints i.2.1), .cell b5 (bools i.2.2.1) 151]) (fun i => (tysAt ss x).length - i.1) (0, W, met, v') rfl ⟨Nat.zero_le _, hq.pop, Nat.le_refl _, S⟩ ?_
      clear S
      rintro ⟨i, W', met', vq'⟩ d w4 ⟨hi, hq', hme, S⟩ K7 hK7
      simp only at hi hq' hme S ⊢
      rw [List.getD_cons_zero, List.getD_cons_succ, List.getD_cons_zero]
      (first | refine s_p ?_ | refine s_c (by omega) ?_)
      refine c_b (fun hlt2 => ?_) (fun hge => ?_)
      · have hlt2 : i < ss[x.toNat].fs.length := by simpa using hlt2
        have hlt3 : i < (tysAt ss x).length := by omega
        have hel : (tysAt ss x)[i] = ss[x.toNat].fs[i].2 := by simp only [htl, List.getElem_map]
        refine j_intro (fun s w' => ∃ W2 met2 v2, s = [v2] ∧ QI ss k 32 W2 met2 (some (x, i + 1)) ∧ 2 * cf met2 + W2.length ≤ 2 * cf met' + W'.length ∧ StX noX w r w' [.que v2 3 1 W2.length (ints W2), .cell b5 (bools met2) 151]) (fun K11 hK11 => ?_) ?_
        · obtain ⟨b2, off2, c, rfl, hcl, hcc, hty⟩ := fl_at hf hlt2
          (first | refine s_p ?_ | refine s_c (by omega) ?_)
          refine s_ldN (n := 6) (c := .string ss[x.toNat].fs[i].1 :: c) (by simp [hcl]) (fun j v hj => by rw [Int.toNat_natCast]; exact S.at (hcc j v hj)) ?_
          refine S.al fun b9 w5 S => ?_
          refine S.stB (cs := (Value.string ss[x.toNat].fs[i].1 :: c).toArray) (fun w6 S => ?_) rfl (by simp [hcl]) (fld_ones hty)
          obtain ⟨pt, capt, rfl, _⟩ := cells_of hty
          have S : StX noX w r w6 [.cell b9 [.string ss[x.toNat].fs[i].1, .int .u8 ss[x.toNat].fs[i].2.k, .bool ss[x.toNat].fs[i].2.m, .int .i64 ss[x.toNat].fs[i].2.re, .int .i64 ss[x.toNat].fs[i].2.st, .slice pt ss[x.toNat].fs[i].2.of.length capt] 122, .que vq' 3 1 W'.length (ints W'), .cell b5 (bools met') 151] := S
          (repeat (first | refine s_p ?_ | refine s_c (by omega) ?_ | refine S.ld ?_ | refine S.ldB ?_ | refine S.ce ?_ | refine S.ceB ?_ | refine s_q ?_ | refine s_qc (by omega) ?_ | refine n_some ?_ | rw [List.getD_cons_zero] | rw [List.getD_cons_succ]))
          rw [← hel]
          by_cases h5 : (tysAt ss x)[i].k = 5
          · have hkid : Kid ss x (tysAt ss x)[i].st := ⟨_, List.getElem_mem hlt3, h5, rfl⟩
            have hin := kid_in hg hkid
            have hml := hq'.len
            refine j_borH (c := mt met' (tysAt ss x)[i].st) (fun _ K2 hK2 => ?_) ?_
            · (repeat (first | refine s_p ?_ | refine s_c (by omega) ?_ | refine S.ld ?_ | refine S.ldB ?_ | refine S.ce ?_ | refine S.ceB ?_ | refine s_q ?_ | refine s_qc (by omega) ?_ | refine n_some ?_ | rw [List.getD_cons_zero] | rw [List.getD_cons_succ]))
              rw [← hel]
              (first | refine s_p ?_ | refine s_c (by omega) ?_)
              refine S.ld (b := b5) ?_ (by rw [Nat.zero_add, Nat.mul_one]; exact bools_at (by omega))
              exact hK2
            rw [show decide ((tysAt ss x)[i].k ≠ 5) = false by simp [h5], Bool.false_or]
            refine c_b (fun hm => ?_) (fun hm => ?_)
            · exact hK11 _ _ ⟨W', met', vq', rfl, hq'.skip hlt3 fun _ => hm, Nat.le_refl _, S.tl⟩
            · (repeat (first | refine s_p ?_ | refine s_c (by omega) ?_ | refine S.ld ?_ | refine S.ldB ?_ | refine S.ce ?_ | refine S.ceB ?_ | refine s_q ?_ | refine s_qc (by omega) ?_ | refine n_some ?_ | rw [List.getD_cons_zero] | rw [List.getD_cons_succ]))
              rw [← hel]
              (first | refine s_p ?_ | refine s_c (by omega) ?_)
              refine S.st (b := b5) (fun w7 S => ?_) (by rw [bools_len]; omega)
              (repeat (first | refine s_p ?_ | refine s_c (by omega) ?_ | refine S.ld ?_ | refine S.ldB ?_ | refine S.ce ?_ | refine S.ceB ?_ | refine s_q ?_ | refine s_qc (by omega) ?_ | refine n_some ?_ | rw [List.getD_cons_zero] | rw [List.getD_cons_succ]))
              rw [← hel]
              refine S.lit (e := 3) (cs := [.int .i64 (tysAt ss x)[i].st]) (by kernel_rfl) fun b49 w8 S => ?_
              simp only [List.length_cons] at h65
              refine S.apQ (m := 1) (Sl.blk (S.blk b49)) (fun v50 w9 S => ?_) (by omega)
              have hset : mt met' (tysAt ss x)[i].st = false := hm
              have hcf := cf_set (l := met') (i := (tysAt ss x)[i].st.toNat) (by
                unfold mt at hset
                rw [List.getD_eq_getElem?_getD, List.getElem?_eq_getElem (by omega)] at hset
                rw [List.getElem?_eq_getElem (by omega)]
                simpa using hset)
              refine hK11 _ _ ⟨W' ++ [(tysAt ss x)[i].st], met'.set (tysAt ss x)[i].st.toNat true, v50, rfl, hq'.push hg hlt3 h5, by rw [List.length_append, List.length_singleton]; omega, ?_⟩
              have e1 : (bools met').set (0 + (tysAt ss x)[i].st.toNat * 1) (.bool true) = bools (met'.set (tysAt ss x)[i].st.toNat true) := by
                rw [Nat.zero_add, Nat.mul_one, bools, bools, List.map_set]
              rw [e1] at S
              rw [List.length_append, ints_append]
              exact S.tl.tl
          · refine j_borH (c := true) (fun hn => absurd hn (by simp [h5])) ?_
            rw [Bool.or_true]
            refine c_t rfl ?_
            exact hK11 _ _ ⟨W', met', vq', rfl, hq'.skip hlt3 fun e => absurd e h5, Nat.le_refl _, S.tl⟩
        · rintro _ w5 ⟨W2, met2, v2, rfl, hq2, hme2, S⟩ d5
          rw [List.getD_cons_zero]
          (first | refine s_p ?_ | refine s_c (by omega) ?_)
          rw [show ((i : Int) + 1) = ((i + 1 : Nat) : Int) by omega]
          exact hK7 (i + 1, W2, met2, v2) _ ⟨hlt3, hq2, by simp only; omega, S⟩ (by simp only; omega)
      · have hge : (tysAt ss x).length ≤ i := by
          have : ¬ i < ss[x.toNat].fs.length := by simpa using hge
          omega
        exact hK3 (W', met', vq') _ ⟨hq'.done hge, by simp only [List.length_cons] at h65 ⊢; omega, S⟩ (by simp only [List.length_cons]; omega)
  · have hz : W = [] := List.eq_nil_of_length_eq_zero (by
      have : ¬ 0 < W.length := by simpa using hz
      omega)
    subst hz
    have hml := hq.len
    (first | refine s_p ?_ | refine s_c (by omega) ?_)
    refine S.ld (b := b5) ?_ (by rw [Nat.zero_add, Nat.mul_one]; exact bools_at (by omega))
    have e : mt met (k : Int) = bad2 ss k := bad2_eq (hq.s1 _ (by omega)) (hq.all hg (by omega))
    rw [e]
    exact h _ S.ext
end Go.Proofs
end

section
namespace Go.Proofs

open Go.Sh

set_option maxRecDepth 100000

set_option linter.unusedSimpArgs false

set_option linter.unusedVariables false

theorem c_types_first {X : Nat → Prop} {w0 : World} {r : Gh} {L : List Asr} {n : Nat} {q : Nat → Bool} {fv : Value} (hn : n ≤ 1000)
    (hf : ∀ (i : Nat), i < n → ∀ {w : World} {K : Value → World → Prop}, StX X w0 r w L → (∀ w', StX X w0 r w' L → K (.bool (q i)) w') → oCallV Try.prog fv #[.int .i64 i] w K) {w : World} {K : Value → World → Prop} (S : StX X w0 r w L)
    (h : ∀ w', StX X w0 r w' L → K (.int .i64 (fstB n q)) w') : oCall Try.prog Try.n_types_first #[.int .i64 n, fv] w K := by
  refine Try.ok_types_first ?_
  unfold Try.F_types_first
  refine l_intro (ι := Nat) (fun i => [.int .i64 i]) (fun i w' => i ≤ n ∧ (∀ j, j < i → q j = false) ∧ StX X w0 r w' L) (fun i => n - i) 0 rfl ⟨Nat.zero_le _, fun j hj => by omega, S⟩ ?_
  clear S
  rintro i d w1 ⟨hi, hq, S⟩ K6 hK6
  rw [List.getD_cons_zero]
  (first | refine s_p ?_ | refine s_c (by omega) ?_)
  refine c_b (fun hlt => ?_) (fun hge => ?_)
  · have hlt : i < n := by simpa using hlt
    refine hf i hlt S fun w2 S => ?_
    refine c_b (fun hy => ?_) (fun hno => ?_)
    · have := h _ S
      rwa [fstB_some hlt hy hq] at this
    · (first | refine s_p ?_ | refine s_c (by omega) ?_)
      rw [show ((i : Int) + 1) = ((i + 1 : Nat) : Int) by omega]
      refine hK6 (i + 1) _ ⟨hlt, fun j hj => ?_, S⟩ (by omega)
      by_cases hji : j = i
      · rw [hji]; exact hno
      · exact hq j (by omega)
  · have hge : i = n := by
      have : ¬ i < n := by simpa using hge
      omega
    have := h _ S
    rwa [fstB_none (fun j hj => hq j (by omega))] at this
theorem c_ContainsFunc_fld {X : Nat → Prop} {w0 : World} {r s : Gh} {L : List Asr} {p : Option Addr} {cap : Nat} {fs : List (ByteArray × TyD)} {g : TyD → Bool} {fv : Value} (hfl : FlG s p fs) [Le s r] (hb : fs.length ≤ 1000000000)
    (hf : ∀ f ∈ fs, ∀ {c : List Value} {w : World} {K : Value → World → Prop}, c.length = 5 → TyG s (.agg c.toArray) f.2 → StX X w0 r w L → (∀ w', StX X w0 r w' L → K (.bool (g f.2)) w') → oCallV Try.prog fv #[.agg (.string f.1 :: c).toArray] w K)
    {w : World} {K : Value → World → Prop} (S : StX X w0 r w L) (h : ∀ w', StX X w0 r w' L → K (.bool ((fs.map (·.2)).any g)) w') : oCall Try.prog Try.n_slices_ContainsFunc_api_Field_api_Field #[.slice p fs.length cap, fv] w K := by
  refine Try.ok_slices_ContainsFunc_api_Field_api_Field ?_
  unfold Try.F_slices_ContainsFunc_api_Field_api_Field
  refine Try.ok_slices_IndexFunc_api_Field_api_Field ?_
  unfold Try.F_slices_IndexFunc_api_Field_api_Field
  (first | refine s_p ?_ | refine s_c (by omega) ?_)
  refine l_intro (ι := Nat) (fun i => [.int .i64 i]) (fun i w' => i ≤ fs.length ∧ ((fs.take i).map (·.2)).any g = false ∧ StX X w0 r w' L) (fun i => fs.length - i) 0 rfl ⟨Nat.zero_le _, by simp, S⟩ ?_
  clear S
  rintro i d w1 ⟨hi, hq, S⟩ K6 hK6
  rw [List.getD_cons_zero]
  (first | refine s_p ?_ | refine s_c (by omega) ?_)
  refine c_b (fun hlt => ?_) (fun hge => ?_)
  · have hlt : i < fs.length := by simpa using hlt
    obtain ⟨b2, off2, c, rfl, hcl, hcc, hty⟩ := fl_at hfl hlt
    (first | refine s_p ?_ | refine s_c (by omega) ?_)
    refine s_ldN (n := 6) (c := .string fs[i].1 :: c) (by simp [hcl]) (fun j v hj => by rw [Int.toNat_natCast]; exact S.at (hcc j v hj)) ?_
    refine hf fs[i] (List.getElem_mem hlt) hcl hty S fun w2 S => ?_
    refine c_b (fun hy => ?_) (fun hno => ?_)
    · (first | refine s_p ?_ | refine s_c (by omega) ?_)
      have := h _ S
      have e : (fs.map (·.2)).any g = true := List.any_eq_true.2 ⟨fs[i].2, List.mem_map.2 ⟨_, List.getElem_mem hlt, rfl⟩, hy⟩
      rw [e] at this
      rw [show decide ((i : Int) ≥ 0) = true by simp]
      exact this
    · (first | refine s_p ?_ | refine s_c (by omega) ?_)
      rw [show ((i : Int) + 1) = ((i + 1 : Nat) : Int) by omega]
      refine hK6 (i + 1) _ ⟨hlt, ?_, S⟩ (by omega)
      rw [List.take_succ_eq_append_getElem hlt, List.map_append, List.any_append, hq]
      simp [hno]
  · have hge : i = fs.length := by
      have : ¬ i < fs.length := by simpa using hge
      omega
    rw [hge, List.take_length] at hq
    (first | refine s_p ?_ | refine s_c (by omega) ?_)
    have := h _ S
    rw [hq] at this
    exact this
theorem len8_of {ss : List StD} (h : ∀ k, k < ss.length → bad1 ss k = false) (k : Int) : (tysAt ss k).length ≤ 8 := by
  by_cases hk : k.toNat < ss.length
  · have := h k.toNat hk
    have e : tysAt ss (k.toNat : Int) = tysAt ss k := by rw [tysAt, tysAt, Int.toNat_natCast]
    rw [bad1, e, Bool.or_eq_false_iff, Bool.or_eq_false_iff] at this
    simp only [decide_eq_false_iff_not] at this
    omega
  · rw [tysAt_out hk]; simp
section

variable {X : Nat → Prop} {w0 w : World} {r : Gh} {L : List Asr} {ss : List StD} {p : Option Addr} {cap b1 b4 : Nat} {f1 f4 : List Value → List Asr} {K : Value → World → Prop}

theorem c_types_Structs_1 {k : Nat} (hk : k < ss.length) (hs : StG r p ss) (S : StX X w0 r w L) [At b1 L [.slice p ss.length cap] 40 f1] [At b4 L [.int .i64 (ss.length : Nat)] 3 f4] (h : ∀ w', StX X w0 r w' L → K (.bool (bad1 ss k)) w') :
    oCallV Try.prog (.func (.func Try.n_types_Structs_1) #[] #[.pointer (some ⟨b1, 0, none⟩), .pointer (some ⟨b4, 0, none⟩)]) #[.int .i64 k] w K := by
  refine v_func (by kernel_rfl) ?_
  refine Try.ok_types_Structs_1 (t0 := .int .i64 k) (t1 := .pointer (some ⟨b1, 0, none⟩)) (t2 := .pointer (some ⟨b4, 0, none⟩)) ?_
  unfold Try.F_types_Structs_1
  (first | refine S.ld ?_ | refine S.ldB ?_ | refine S.ce ?_ | refine S.ceB ?_)
  obtain ⟨b, off, q, capq, rfl, hcell, hq0, hqc, hf⟩ := st_at hs hk
  (first | refine s_p ?_ | refine s_c (by omega) ?_)
  (first | refine s_p ?_ | refine s_c (by omega) ?_)
  refine s_ld1 (by rw [Int.toNat_natCast]; exact S.at hcell) ?_
  (first | refine s_p ?_ | refine s_c (by omega) ?_)
  (first | refine s_p ?_ | refine s_c (by omega) ?_)
  have hlen := tysAt_len hk
  refine j_borH (c := decide (8 < (tysAt ss k).length)) (fun _ K2 hK2 => ?_) ?_
  · (first | refine s_p ?_ | refine s_c (by omega) ?_)
    (first | refine s_p ?_ | refine s_c (by omega) ?_)
    rw [show decide ((8 : Int) < (ss[k].fs.length : Int)) = decide (8 < (tysAt ss k).length) from decide_eq_decide.2 (by omega)]
    exact hK2
  refine j_borR (fun w' => StX X w0 r w' L) (c := (tysAt ss k).any fun t => !lookB ss.length 48 t || decide (0 < t.regs.length)) (fun _ => S) (fun hsm2 K2 hK2 => ?_) fun w9 S => ?_
  · have hsm2 : ss[k].fs.length ≤ 8 := by
      simp only [Bool.or_eq_false_iff, decide_eq_false_iff_not] at hsm2; omega
    (first | refine s_p ?_ | refine s_c (by omega) ?_)
    refine c_ContainsFunc_fld (g := fun t => !lookB ss.length 48 t || decide (0 < t.regs.length)) hf (by omega) (fun f hfm {c} {w7} {K} hcl hty S hK => ?_) S fun w8 S => ?_
    · refine v_f11 (by kernel_rfl) ?_
      refine Try.ok_types_Structs_1_1 ?_
      unfold Try.F_types_Structs_1_1
      refine S.box fun b2 w8 S => ?_
      have S : StX X w0 r w8 (.cell b2 (.string f.1 :: c) 122 :: L) := S
      (first | refine s_p ?_ | refine s_c (by omega) ?_)
      refine S.fty hcl ?_
      refine S.ld (b := b4) ?_ rfl
      refine c_types_look 48 (by decide) S.holds hty fun w9 e9 => ?_
      have S := S.go e9
      (first | refine s_p ?_ | refine s_c (by omega) ?_)
      refine j_borE (c := decide (0 < f.2.regs.length)) (fun hl K2 hK2 => ?_) fun w10 e10 => ?_
      · have hl : lookB ss.length 48 f.2 = true := by simpa using hl
        (first | refine s_p ?_ | refine s_c (by omega) ?_)
        refine S.fty hcl ?_
        refine c_types_regions S.holds hty (by have := look_ht hl; omega) fun v11 w11 e11 o11 => ?_
        obtain ⟨p11, cap11, rfl, _⟩ := own_shape o11
        (first | refine s_p ?_ | refine s_c (by omega) ?_)
        (first | refine s_p ?_ | refine s_c (by omega) ?_)
        rw [show decide ((f.2.regs.length : Int) > 0) = decide (0 < f.2.regs.length) from decide_eq_decide.2 (by omega)]
        exact hK2 _ e11
      exact hK _ (S.go e10).tl
    · rw [← tysAt_eq hk]
      exact hK2 _ S
  · have := h _ S
    rw [bad1] at this
    rw [show decide ((ss[k].fs.length : Int) < 1) = decide ((tysAt ss k).length < 1) from decide_eq_decide.2 (by omega)]
    exact this
theorem c_types_Structs_2 {k : Nat} (hk : k < ss.length) (h32 : ss.length ≤ 32) (h1 : ¬ fstB ss.length (bad1 ss) < ss.length) (hs : StG r p ss) (S : StX X w0 r w L) [At b1 L [.slice p ss.length cap] 40 f1] (h : ∀ w', StX X w0 r w' L → K (.bool (bad2 ss k)) w') :
    oCallV Try.prog (.func (.func Try.n_types_Structs_2) #[] #[.pointer (some ⟨b1, 0, none⟩)]) #[.int .i64 k] w K := by
  refine v_func (by kernel_rfl) ?_
  refine Try.ok_types_Structs_2 (t0 := .int .i64 k) (t1 := .pointer (some ⟨b1, 0, none⟩)) ?_
  unfold Try.F_types_Structs_2
  (first | refine S.ld ?_ | refine S.ldB ?_ | refine S.ce ?_ | refine S.ceB ?_)
  exact c_types_endless (good_of (fstB_lt h1)) h32 hk (fun k => len8_of (fstB_lt h1) k) S.holds hs fun w9 e9 => h _ (S.go e9)
theorem c_types_Structs_3 {k : Nat} (hk : k < ss.length) (h32 : ss.length ≤ 32) (h1 : ¬ fstB ss.length (bad1 ss) < ss.length) (h2 : ¬ fstB ss.length (bad2 ss) < ss.length) (hs : StG r p ss) (S : StX X w0 r w L) [At b1 L [.slice p ss.length cap] 40 f1] (h : ∀ w', StX X w0 r w' L → K (.bool (bad3 ss k)) w') :
    oCallV Try.prog (.func (.func Try.n_types_Structs_3) #[] #[.pointer (some ⟨b1, 0, none⟩)]) #[.int .i64 k] w K := by
  refine v_func (by kernel_rfl) ?_
  refine Try.ok_types_Structs_3 (t0 := .int .i64 k) (t1 := .pointer (some ⟨b1, 0, none⟩)) ?_
  unfold Try.F_types_Structs_3
  (first | refine S.ld ?_ | refine S.ldB ?_ | refine S.ce ?_ | refine S.ceB ?_)
  refine p_build (cs := #[.int .u8 5, .bool false, .int .i64 0, .int .i64 k, .slice none 0 0]) (by kernel_rfl) ?_
  have hg := good_of (fstB_lt h1)
  refine c_types_words hg (acyc_of hg (fstB_lt h2)) 40 (t := .mk 5 false 0 k []) (by decide) (by have := rk_le ss (.mk 5 false 0 k []); omega) ?_ (by omega) (fun k => len8_of (fstB_lt h1) k) S.holds hs (ty_leaf (r := r)) fun w9 e9 => ?_
  · rw [lookB_succ]
    simp [TyD.k, TyD.m, TyD.re, TyD.of, TyD.st]
    omega
  · (first | refine s_p ?_ | refine s_c (by omega) ?_)
    have := h _ (S.go e9)
    rw [bad3] at this
    rw [show decide ((((min (wF ss 40 (.mk 5 false 0 k [])) 17 : Nat) : Int)) > 16) = decide (16 < wF ss 40 (.mk 5 false 0 k [])) from decide_eq_decide.2 (by omega)]
    exact this
end

theorem c_types_Structs {ss : List StD} {p : Option Addr} {cap : Nat} {w : World} {r : Gh} {K : Value → World → Prop} (hr : Holds r w) (hs : StG r p ss)
    (h : ∀ w', Ext w w' → K (.tuple #[.int .i64 (structsT ss).1, .int .i64 (structsT ss).2]) w') : oCall Try.prog Try.n_types_Structs #[.slice p ss.length cap] w K := by
  refine Try.ok_types_Structs ?_
  unfold Try.F_types_Structs
  have S := St.start hr
  refine S.box fun b1 w1 S => ?_
  (first | refine S.ld ?_ | refine S.ldB ?_ | refine S.ce ?_ | refine S.ceB ?_)
  (first | refine s_p ?_ | refine s_c (by omega) ?_)
  refine S.al fun b4 w2 S => ?_
  refine S.st fun w3 S => ?_
  (first | refine S.ld ?_ | refine S.ldB ?_ | refine S.ce ?_ | refine S.ceB ?_)
  (first | refine s_p ?_ | refine s_c (by omega) ?_)
  refine c_b (fun hbig => ?_) (fun hsm => ?_)
  · have hbig : 32 < ss.length := by have := of_decide_eq_true hbig; omega
    rw [structsT, if_pos hbig] at h
    exact h _ S.ext
  have hsm : ¬ 32 < ss.length := by have := of_decide_eq_false hsm; omega
  rw [structsT, if_neg hsm] at h
  (first | refine s_p ?_ | refine s_c (by omega) ?_)
  (first | refine s_p ?_ | refine s_c (by omega) ?_)
  (first | refine s_p ?_ | refine s_c (by omega) ?_)
  refine S.lit (e := 78) (cs := [.func (.func Try.n_types_Structs_1) #[] #[.pointer (some ⟨b1, 0, none⟩), .pointer (some ⟨b4, 0, none⟩)], .func (.func Try.n_types_Structs_2) #[] #[.pointer (some ⟨b1, 0, none⟩)], .func (.func Try.n_types_Structs_3) #[] #[.pointer (some ⟨b1, 0, none⟩)]]) (by kernel_rfl) fun b16 w4 S => ?_
  (first | refine s_p ?_ | refine s_c (by omega) ?_)
  have S : StX noX w r w4 [.cell b16 [.func (.func Try.n_types_Structs_1) #[] #[.pointer (some ⟨b1, 0, none⟩), .pointer (some ⟨b4, 0, none⟩)], .func (.func Try.n_types_Structs_2) #[] #[.pointer (some ⟨b1, 0, none⟩)], .func (.func Try.n_types_Structs_3) #[] #[.pointer (some ⟨b1, 0, none⟩)]] 78,
    .cell b4 [.int .i64 (ss.length : Nat)] 3, .cell b1 [.slice p ss.length cap] 40] := S
  refine l_intro (ι := Nat) (fun i => [.int .i64 i]) (fun i w' => i ≤ 3 ∧ (0 < i → ¬ fstB ss.length (bad1 ss) < ss.length) ∧ (1 < i → ¬ fstB ss.length (bad2 ss) < ss.length) ∧ (2 < i → ¬ fstB ss.length (bad3 ss) < ss.length) ∧ StX noX w r w' _) (fun i => 3 - i) 0 rfl
    ⟨by decide, fun h => by omega, fun h => by omega, fun h => by omega, S⟩ ?_
  clear S
  rintro i d w5 ⟨hi, h1, h2, h3, S⟩ K6 hK6
  rw [List.getD_cons_zero]
  (first | refine s_p ?_ | refine s_c (by omega) ?_)
  match i, hi, h1, h2, h3 with
  | 0, _, _, _, _ =>
    refine c_t (by decide) ?_
    (first | refine s_p ?_ | refine s_c (by omega) ?_)
    refine S.ld (b := b16) ?_ rfl
    refine S.ld (b := b4) ?_ rfl
    refine c_types_first (q := bad1 ss) (by omega) (fun i hi {w} {K} S k => c_types_Structs_1 hi hs S k) S fun w9 S => ?_
    refine S.ld (b := b4) ?_ rfl
    (first | refine s_p ?_ | refine s_c (by omega) ?_)
    refine c_b (fun hl => ?_) (fun hl => ?_)
    · rw [if_pos (by have := of_decide_eq_true hl; omega)] at h
      exact h _ S.ext
    · (first | refine s_p ?_ | refine s_c (by omega) ?_)
      exact hK6 1 _ ⟨by decide, fun _ => by have := of_decide_eq_false hl; omega, fun h => by omega, fun h => by omega, S⟩ (by decide)
  | 1, _, h1, _, _ =>
    have h1 := h1 (by decide)
    rw [if_neg h1] at h
    refine c_t (by decide) ?_
    (first | refine s_p ?_ | refine s_c (by omega) ?_)
    refine S.ld (b := b16) ?_ rfl
    refine S.ld (b := b4) ?_ rfl
    refine c_types_first (q := bad2 ss) (by omega) (fun i hi {w} {K} S k => c_types_Structs_2 hi (by omega) h1 hs S k) S fun w9 S => ?_
    refine S.ld (b := b4) ?_ rfl
    (first | refine s_p ?_ | refine s_c (by omega) ?_)
    refine c_b (fun hl => ?_) (fun hl => ?_)
    · rw [if_pos (by have := of_decide_eq_true hl; omega)] at h
      exact h _ S.ext
    · (first | refine s_p ?_ | refine s_c (by omega) ?_)
      exact hK6 2 _ ⟨by decide, fun _ => h1, fun _ => by have := of_decide_eq_false hl; omega, fun h => by omega, S⟩ (by decide)
  | 2, _, h1, h2, _ =>
    have h1 := h1 (by decide)
    have h2 := h2 (by decide)
    rw [if_neg h1, if_neg h2] at h
    refine c_t (by decide) ?_
    (first | refine s_p ?_ | refine s_c (by omega) ?_)
    refine S.ld (b := b16) ?_ rfl
    refine S.ld (b := b4) ?_ rfl
    refine c_types_first (q := bad3 ss) (by omega) (fun i hi {w} {K} S k => c_types_Structs_3 hi (by omega) h1 h2 hs S k) S fun w9 S => ?_
    refine S.ld (b := b4) ?_ rfl
    (first | refine s_p ?_ | refine s_c (by omega) ?_)
    refine c_b (fun hl => ?_) (fun hl => ?_)
    · rw [if_pos (by have := of_decide_eq_true hl; omega)] at h
      exact h _ S.ext
    · (first | refine s_p ?_ | refine s_c (by omega) ?_)
      exact hK6 3 _ ⟨by decide, fun _ => h1, fun _ => h2, fun _ => by have := of_decide_eq_false hl; omega, S⟩ (by decide)
  | 3, _, h1, h2, h3 =>
    have h1 := h1 (by decide)
    have h2 := h2 (by decide)
    have h3 := h3 (by decide)
    rw [if_neg h1, if_neg h2, if_neg h3] at h
    refine c_f (by decide) ?_
    exact h _ S.ext
/-- may a type be among the structs? -/
noncomputable def mayB (ss : List StD) (t : TyD) : Bool := decide ((structsT ss).2 = 0) && lookB ss.length 48 t
theorem may_ok {ss : List StD} {t : TyD} (h : mayB ss t = true) : (structsT ss).2 = 0 ∧ lookB ss.length 48 t = true := by
  simpa [mayB] using h
theorem c_types_May {ss : List StD} {t : TyD} {p : Option Addr} {cap : Nat} {w : World} {r : Gh} {v : Value} {K : Value → World → Prop} (hr : Holds r w) (hs : StG r p ss) (hv : TyG r v t)
    (h : ∀ w', Ext w w' → K (.bool (mayB ss t)) w') : oCall Try.prog Try.n_types_May #[.slice p ss.length cap, v] w K := by
  refine Try.ok_types_May ?_
  unfold Try.F_types_May
  have hv0 := hv
  obtain ⟨p1, cap1, rfl, _⟩ := hv
  have S := St.start hr
  refine S.box fun b3 w1 S => ?_
  refine c_types_Structs S.holds hs fun w2 e2 => ?_
  have S := S.go e2
  (first | refine s_p ?_ | refine s_c (by omega) ?_)
  (first | refine s_p ?_ | refine s_c (by omega) ?_)
  (first | refine s_p ?_ | refine s_c (by omega) ?_)
  refine j_bandE (c := lookB ss.length 48 t) (fun _ K2 hK2 => ?_) fun w3 e3 => h _ (S.go e3).ext
  (first | refine S.ld ?_ | refine S.ldB ?_ | refine S.ce ?_ | refine S.ceB ?_)
  (first | refine s_p ?_ | refine s_c (by omega) ?_)
  exact c_types_look 48 (by decide) S.holds hv0 fun w3 e3 => hK2 _ e3
theorem c_types_drops {ss : List StD} {p : Option Addr} {cap : Nat} (hg : Good ss) (hac : ∀ k, ¬ Rch ss k k) : ∀ (m : Nat) {t : TyD} {w : World} {r : Gh} {v : Value} {K : Value → World → Prop}, m ≤ 100 → rkT ss t ≤ m → lookB ss.length 48 t = true → ss.length ≤ 32 → (∀ k, (tysAt ss k).length ≤ 8) →
    Holds r w → StG r p ss → TyG r v t → (∀ w', Ext w w' → K (.bool (dF ss m t)) w') → oCall Try.prog Try.n_types_drops #[.slice p ss.length cap, v] w K := by
  intro m
  induction m with
  | zero =>
    intro t w r v K _ hrk hl h32 h8 hr hs hv h
    have h5 : ¬ t.k = 5 := fun h => by unfold rkT at hrk; rw [if_pos h] at hrk; omega
    refine Try.ok_types_drops ?_
    unfold Try.F_types_drops
    obtain ⟨p1, cap1, rfl, _⟩ := hv
    have S := St.start hr
    refine S.box fun b2 w1 S => ?_
    refine S.box fun b3 w2 S => ?_
    (repeat (first | refine s_p ?_ | refine s_c (by omega) ?_ | refine S.ld ?_ | refine S.ldB ?_ | refine S.ce ?_ | refine S.ceB ?_ | refine s_q ?_ | refine s_qc (by omega) ?_ | refine n_some ?_ | rw [List.getD_cons_zero] | rw [List.getD_cons_succ]))
    refine c_b (fun h3 => ?_) (fun h3 => ?_)
    · have := h _ S.ext
      rwa [dF, h3] at this
    · (repeat (first | refine s_p ?_ | refine s_c (by omega) ?_ | refine S.ld ?_ | refine S.ldB ?_ | refine S.ce ?_ | refine S.ceB ?_ | refine s_q ?_ | refine s_qc (by omega) ?_ | refine n_some ?_ | rw [List.getD_cons_zero] | rw [List.getD_cons_succ]))
      refine c_b (fun h5' => absurd (of_decide_eq_true h5') h5) (fun _ => ?_)
      have := h _ S.ext
      rwa [dF, h3] at this
  | succ m ih =>
    intro t w r v K hm hrk hl h32 h8 hr hs hv h
    refine Try.ok_types_drops ?_
    unfold Try.F_types_drops
    obtain ⟨p1, cap1, rfl, _⟩ := hv
    have S := St.start hr
    refine S.box fun b2 w1 S => ?_
    refine S.box fun b3 w2 S => ?_
    (repeat (first | refine s_p ?_ | refine s_c (by omega) ?_ | refine S.ld ?_ | refine S.ldB ?_ | refine S.ce ?_ | refine S.ceB ?_ | refine s_q ?_ | refine s_qc (by omega) ?_ | refine n_some ?_ | rw [List.getD_cons_zero] | rw [List.getD_cons_succ]))
    refine c_b (fun h3 => ?_) (fun h3 => ?_)
    · have := h _ S.ext
      have h3' := of_decide_eq_true h3
      rwa [dF, if_neg (by omega), h3] at this
    (repeat (first | refine s_p ?_ | refine s_c (by omega) ?_ | refine S.ld ?_ | refine S.ldB ?_ | refine S.ce ?_ | refine S.ceB ?_ | refine s_q ?_ | refine s_qc (by omega) ?_ | refine n_some ?_ | rw [List.getD_cons_zero] | rw [List.getD_cons_succ]))
    refine c_b (fun h5 => ?_) (fun h5 => ?_)
    · have h5 : t.k = 5 := of_decide_eq_true h5
      obtain ⟨hst0, hst1, _⟩ := look_st hl h5
      have hlt : t.st.toNat < ss.length := by omega
      obtain ⟨b, off, q, capq, rfl, hcell, _, _, hf⟩ := st_at hs hlt
      (repeat (first | refine s_p ?_ | refine s_c (by omega) ?_ | refine S.ld ?_ | refine S.ldB ?_ | refine S.ce ?_ | refine S.ceB ?_ | refine s_q ?_ | refine s_qc (by omega) ?_ | refine n_some ?_ | rw [List.getD_cons_zero] | rw [List.getD_cons_succ]))
      refine s_ld1 (S.at hcell) ?_
      have htl : tysAt ss t.st = ss[t.st.toNat].fs.map (·.2) := by
        rw [← tysAt_eq hlt]; simp only [tysAt, Int.toNat_natCast]
      have hlen : (tysAt ss t.st).length = ss[t.st.toNat].fs.length := by rw [htl, List.length_map]
      have h88 := h8 t.st
      (first | refine s_p ?_ | refine s_c (by omega) ?_)
      refine c_ContainsFunc_fld (g := dF ss m) hf (by omega) (fun f hfm {c} {w7} {K} hcl hty S hK => ?_) S fun w8 S => ?_
      · refine v_f11 (by kernel_rfl) ?_
        refine Try.ok_types_drops_1 ?_
        unfold Try.F_types_drops_1
        refine S.box fun b4 w8 S => ?_
        have S : StX noX w r w8 (.cell b4 (.string f.1 :: c) 122 :: _) := S
        refine S.ld (b := b2) ?_ rfl
        (first | refine s_p ?_ | refine s_c (by omega) ?_)
        refine S.fty hcl ?_
        have hmem : f.2 ∈ tysAt ss t.st := by rw [htl]; exact List.mem_map.2 ⟨f, hfm, rfl⟩
        have hrk2 := rk_lt hg hac h5 hmem
        exact ih (by omega) (by omega) (hg _ _ hmem) h32 h8 S.holds hs hty fun w5 e5 => hK _ (S.go e5).tl
      · rw [dF, if_pos h5, htl] at h
        exact h _ S.ext
    · have := h _ S.ext
      rwa [dF, if_neg (of_decide_eq_false h5), h3] at this
noncomputable def dropsT (ss : List StD) (t : TyD) : Bool × Int := if mayB ss t then (dF ss 40 t, 0) else (false, 2)
theorem c_types_Drops {ss : List StD} {t : TyD} {p : Option Addr} {cap : Nat} {w : World} {r : Gh} {v : Value} {K : Value → World → Prop} (hr : Holds r w) (hs : StG r p ss) (hv : TyG r v t)
    (h : ∀ w', Ext w w' → K (.tuple #[.bool (dropsT ss t).1, .int .i64 (dropsT ss t).2]) w') : oCall Try.prog Try.n_types_Drops #[.slice p ss.length cap, v] w K := by
  refine Try.ok_types_Drops ?_
  unfold Try.F_types_Drops
  have hv0 := hv
  obtain ⟨p1, cap1, rfl, _⟩ := hv
  have S := St.start hr
  refine S.box fun b3 w1 S => ?_
  (first | refine S.ld ?_ | refine S.ldB ?_ | refine S.ce ?_ | refine S.ceB ?_)
  refine c_types_May S.holds hs hv0 fun w2 e2 => ?_
  have S := S.go e2
  (first | refine s_p ?_ | refine s_c (by omega) ?_)
  refine c_b (fun hn => ?_) (fun hn => ?_)
  · have hn : mayB ss t = false := by simpa using hn
    rw [dropsT, hn] at h
    exact h _ S.ext
  have hn : mayB ss t = true := by simpa using hn
  rw [dropsT, if_pos hn] at h
  obtain ⟨hok, hl⟩ := may_ok hn
  obtain ⟨h32, hb1, hg, hac, _, _⟩ := structs_ok hok
  (first | refine S.ld ?_ | refine S.ldB ?_ | refine S.ce ?_ | refine S.ceB ?_)
  refine c_types_drops hg hac 40 (by decide) (by have := rk_le ss t; omega) hl h32 (len8_of hb1) S.holds hs hv0 fun w3 e3 => h _ (S.go e3).ext
end Go.Proofs
end

section
namespace Go.Proofs

open Go.Sh

set_option maxRecDepth 100000

set_option linter.unusedSimpArgs false

set_option linter.unusedVariables false

end Go.Proofs
end

section
namespace Go.Proofs

open Go.Sh

set_option maxRecDepth 100000

set_option linter.unusedSimpArgs false

set_option linter.unusedVariables false

end Go.Proofs
end

section
namespace Go.Proofs

open Go.Sh

set_option maxRecDepth 100000

set_option linter.unusedSimpArgs false

set_option linter.unusedVariables false

/-! ### Lists of types -/

/-- the union of some of a family -/
def un (gs : Nat → Gh) (i n : Nat) : Gh := fun b o => ∃ j, i ≤ j ∧ j < n ∧ gs j b o
/-- a slice of types; those inside each have memory of their own -/
structure FdsG (top : Gh) (gs : Nat → Gh) (q : Option Addr) (ts : List TyD) : Prop where
  at' : ∀ (i : Nat) (hi : i < ts.length), ∃ (b off : Nat) (c : List Value), q = some ⟨b, off, none⟩ ∧ c.length = 5 ∧ (∀ j v, c[j]? = some v → Ob top fun w => w.cell? ⟨b, off + i * 5 + j, none⟩ = some v) ∧ TyG (gs i) (.agg c.toArray) ts[i] ∧ ChnG (gs i) (.agg c.toArray) ts[i]
  dis : ∀ i j, i ≠ j → i < ts.length → j < ts.length → Dis (gs i) (gs j)
  dtop : ∀ i, i < ts.length → Dis (gs i) top
/-- a slice of types -/
def TysG (s : Gh) (q : Option Addr) (ts : List TyD) : Prop :=
  ∀ (i : Nat) (hi : i < ts.length), ∃ (b off : Nat) (c : List Value), q = some ⟨b, off, none⟩ ∧ c.length = 5 ∧ (∀ j v, c[j]? = some v → Ob s fun w => w.cell? ⟨b, off + i * 5 + j, none⟩ = some v) ∧ TyG s (.agg c.toArray) ts[i]
theorem ChnL.frz2 {X : Nat → Prop} {w0 w : World} {c : List Value} {t : TyD} {N : List Asr} (h : ChnL c t N) : ∀ {r : Gh} {L : List Asr}, StX X w0 r w (N ++ L) →
    ∃ sn, StX X w0 (r.or sn) w L ∧ TyG sn (.agg c.toArray) t ∧ ChnG sn (.agg c.toArray) t ∧ (∀ b o, sn b o → w0.heap.size ≤ b ∨ X b) ∧ Dis sn r := by
  induction h with
  | nil =>
    intro r L S
    exact ⟨nothing, S.to _, ty_leaf, .nil, fun _ _ h => h.elim, fun _ _ _ h => h.elim⟩
  | @one b c k re st m u N hu ih =>
    intro r L S
    have S : StX X w0 r w (N ++ (.cell b c 25 :: L)) := S.perm List.perm_middle.symm
    have hm0 := S.mine (.cell b c 25) (by simp) b rfl
    obtain ⟨sn, S, ht, hg, hf, hd⟩ := ih S
    have hm := S.mine (.cell b c 25) (by simp) b rfl
    have S := S.frz
    refine ⟨sn.or (Go.Sh.one b c 25), S.to _, ty_one ht, .one (fun o ho => hm.2 o (.inr ho)) hu.len ht hg, fun b' o ho => ?_, fun b' o o' ho hr => ?_⟩
    · rcases ho with ho | ⟨rfl, _⟩
      · exact hf b' o ho
      · exact hm.1
    · rcases ho with ho | ⟨rfl, _⟩
      · exact hd b' o o' ho hr
      · exact hm0.2 o' hr
theorem chn_lit {c : List Value} {t : TyD} {N : List Asr} (h : ChnL c t N) : bslT Try.prog 23 1 #[(0, .agg c.toArray)] = some (25, c) := by
  cases h <;> kernel_rfl
/-- what Fields tells -/
noncomputable def fieldsT (ss : List StD) (t : TyD) : List TyD × Int := if mayB ss t && decide (t.k = 5) then (tysAt ss t.st, 0) else ([], 2)
theorem c_types_Fields {ss : List StD} {t : TyD} {p : Option Addr} {cap : Nat} {w : World} {r : Gh} {v : Value} {K : Value → World → Prop} (hr : Holds r w) (hs : StG r p ss) (hv : TyG r v t)
    (h : ∀ q cp top gs w', Ext w w' → New w (top.or (un gs 0 (fieldsT ss t).1.length)) w' → FdsG top gs q (fieldsT ss t).1 → (fieldsT ss t).1.length ≤ cp → K (.tuple #[.slice q (fieldsT ss t).1.length cp, .int .i64 (fieldsT ss t).2]) w') : oCall Try.prog Try.n_types_Fields #[.slice p ss.length cap, v] w K := by
  refine Try.ok_types_Fields ?_
  unfold Try.F_types_Fields
  have hv0 := hv
  obtain ⟨p1, cap1, rfl, _⟩ := hv
  have S := St.start hr
  refine S.box fun b3 w1 S => ?_
  (first | refine S.ld ?_ | refine S.ldB ?_ | refine S.ce ?_ | refine S.ceB ?_)
  refine c_types_May S.holds hs hv0 fun w2 e2 => ?_
  have S := S.go e2
  (first | refine s_p ?_ | refine s_c (by omega) ?_)
  refine j_borH (c := decide (t.k ≠ 5)) (fun _ K2 hK2 => ?_) ?_
  · (repeat (first | refine s_p ?_ | refine s_c (by omega) ?_ | refine S.ld ?_ | refine S.ldB ?_ | refine S.ce ?_ | refine S.ceB ?_ | refine s_q ?_ | refine s_qc (by omega) ?_ | refine n_some ?_ | rw [List.getD_cons_zero] | rw [List.getD_cons_succ]))
    exact hK2
  refine c_b (fun hn => ?_) (fun hn => ?_)
  · have hn : (mayB ss t && decide (t.k = 5)) = false := by
      cases hm : mayB ss t
      · rfl
      · rw [hm] at hn; simpa using hn
    rw [fieldsT, hn] at h
    exact h none 0 nothing (fun _ => nothing) _ S.ext ⟨fun b o ho => by rcases ho with ho | ⟨_, _, _, ho⟩ <;> exact ho.elim, fun b o ho => by rcases ho with ho | ⟨_, _, _, ho⟩ <;> exact ho.elim⟩
      ⟨fun i hi => by simp at hi, fun i j _ hi => by simp at hi, fun i hi => by simp at hi⟩ (Nat.le_refl _)
  have hn : mayB ss t = true ∧ t.k = 5 := by
    cases hm : mayB ss t
    · rw [hm] at hn; simp at hn
    · rw [hm] at hn; exact ⟨rfl, by simpa using hn⟩
  obtain ⟨hm, h5⟩ := hn
  rw [fieldsT, hm, decide_eq_true h5] at h
  simp only [Bool.and_true, if_true] at h
  obtain ⟨hok, hl⟩ := may_ok hm
  obtain ⟨h32, hb1, hg, hac, _, _⟩ := structs_ok hok
  obtain ⟨hst0, hst1, _⟩ := look_st hl h5
  have hlt : t.st.toNat < ss.length := by omega
  obtain ⟨b, off, q, capq, rfl, hcell, _, _, hf⟩ := st_at hs hlt
  have htl : tysAt ss t.st = ss[t.st.toNat].fs.map (·.2) := by
    rw [← tysAt_eq hlt]; simp only [tysAt, Int.toNat_natCast]
  have hlen : (tysAt ss t.st).length = ss[t.st.toNat].fs.length := by rw [htl, List.length_map]
  have h88 := len8_of hb1 t.st
  (repeat (first | refine s_p ?_ | refine s_c (by omega) ?_ | refine S.ld ?_ | refine S.ldB ?_ | refine S.ce ?_ | refine S.ceB ?_ | refine s_q ?_ | refine s_qc (by omega) ?_ | refine n_some ?_ | rw [List.getD_cons_zero] | rw [List.getD_cons_succ]))
  refine s_ld1 (S.at hcell) ?_
  (first | refine s_p ?_ | refine s_c (by omega) ?_)
  have S := S.tl
  have S := S.ownNil 25 5
  have S := S.to (r.or (un (fun _ => nothing) 0 0)) (l := ⟨fun b o ho => by rcases ho with ho | ⟨_, _, h2, _⟩; exact ho; omega⟩)
  refine l_intro (ι := Nat × Value × List Value × (Nat → Gh)) (fun i => [i.2.1, .int .i64 i.1]) (fun i w' => i.1 ≤ (tysAt ss t.st).length ∧ i.2.2.1.length = i.1 * 5 ∧
      (∀ j (hj : j < (tysAt ss t.st).length), j < i.1 → ((i.2.2.1.drop (j * 5)).take 5).length = 5 ∧ TyG (i.2.2.2 j) (.agg ((i.2.2.1.drop (j * 5)).take 5).toArray) (tysAt ss t.st)[j] ∧ ChnG (i.2.2.2 j) (.agg ((i.2.2.1.drop (j * 5)).take 5).toArray) (tysAt ss t.st)[j]) ∧
      (∀ j, j < i.1 → ∀ b o, i.2.2.2 j b o → w.heap.size ≤ b) ∧ (∀ j k, j ≠ k → j < i.1 → k < i.1 → Dis (i.2.2.2 j) (i.2.2.2 k)) ∧ StX noX w (r.or (un i.2.2.2 0 i.1)) w' [.row i.2.1 25 5 i.1 i.2.2.1])
    (fun i => (tysAt ss t.st).length - i.1) (0, .slice none 0 0, [], fun _ => nothing) rfl ⟨Nat.zero_le _, rfl, fun j _ hj => by omega, fun j hj => by omega, fun j k _ hj => by omega, S⟩ ?_
  clear S
  rintro ⟨i, v, xs, gs⟩ d w3 ⟨hi, hxl, hel, hfr, hdis, S⟩ K7 hK7
  simp only at hi hxl hel hfr hdis S ⊢
  rw [List.getD_cons_zero, List.getD_cons_succ, List.getD_cons_zero]
  (first | refine s_p ?_ | refine s_c (by omega) ?_)
  refine c_b (fun hlt2 => ?_) (fun hge => ?_)
  · have hlt2 : i < ss[t.st.toNat].fs.length := by simpa using hlt2
    have hlt3 : i < (tysAt ss t.st).length := by omega
    have hel2 : (tysAt ss t.st)[i] = ss[t.st.toNat].fs[i].2 := by simp only [htl, List.getElem_map]
    have hmem : ss[t.st.toNat].fs[i].2 ∈ tysAt ss t.st := by rw [← hel2]; exact List.getElem_mem hlt3
    obtain ⟨b2, off2, c, rfl, hcl, hcc, hty⟩ := fl_at hf hlt2
    (first | refine s_p ?_ | refine s_c (by omega) ?_)
    refine s_ldN (n := 6) (c := .string ss[t.st.toNat].fs[i].1 :: c) (by simp [hcl]) (fun j v hj => by rw [Int.toNat_natCast]; exact S.at (hcc j v hj)) ?_
    refine S.al fun b8 w4 S => ?_
    refine S.stB (b := b8) (cs := (Value.string ss[t.st.toNat].fs[i].1 :: c).toArray) (fun w5 S => ?_) rfl (by simp [hcl]) (fld_ones hty)
    (first | refine s_p ?_ | refine s_c (by omega) ?_)
    refine S.fty hcl ?_
    refine c_types_own (s := ss.length) 48 (by decide) (hg _ _ hmem) S.tl hty.up fun c' N w6 hch S => ?_
    have hcl' := hch.len
    have hone' := hch.ones
    obtain ⟨sn, S, ht, hcg, hfn, hdn⟩ := hch.frz2 S
    refine S.lit (e := 25) (cs := c') (chn_lit hch) fun b33 w7 S => ?_
    refine S.ap (m' := 1) (Sl.blk (S.blk b33)) (fun v34 w8 S => ?_) (by omega) (by omega) (by simp) hone'
    have S := S.tl
    (first | refine s_p ?_ | refine s_c (by omega) ?_)
    rw [show ((i : Int) + 1) = ((i + 1 : Nat) : Int) by omega]
    refine hK7 (i + 1, v34, xs ++ c', fun j => if j = i then sn else gs j) _ ⟨hlt3, by simp only [List.length_append]; omega, fun j hj hji => ?_, fun j hj b o ho => ?_, fun j k hjk hj hk => ?_, ?_⟩ (by simp only; omega)
    · by_cases hji' : j = i
      · subst hji'
        simp only [if_true]
        have e : ((xs ++ c').drop (j * 5)).take 5 = c' := by
          rw [← hxl, List.drop_left', List.take_of_length_le (by omega)]; rfl
        rw [e, hel2]
        exact ⟨hcl', ht, hcg⟩
      · simp only [if_neg hji']
        have e : ((xs ++ c').drop (j * 5)).take 5 = (xs.drop (j * 5)).take 5 := by
          rw [List.drop_append_of_le_length (by omega), List.take_append_of_le_length (by rw [List.length_drop]; omega)]
        rw [e]
        exact hel j hj (by omega)
    · simp only at ho
      split at ho
      · exact (hfn b o ho).elim id fun h => h.elim
      · exact hfr j (by omega) b o ho
    · simp only
      by_cases h1 : j = i
      · rw [if_pos h1, if_neg (by omega)]
        exact fun b o o' ho ho' => hdn b o o' ho (.inr ⟨k, Nat.zero_le _, by omega, ho'⟩)
      · rw [if_neg h1]
        by_cases h2 : k = i
        · rw [if_pos h2]
          exact fun b o o' ho ho' => hdn b o' o ho' (.inr ⟨j, Nat.zero_le _, by omega, ho⟩)
        · rw [if_neg h2]
          exact hdis j k hjk (by omega) (by omega)
    · simp only
      exact S.to _ (l := ⟨fun b o ho => by
        rcases ho with ho | ⟨j, _, hj, ho⟩
        · exact .inl (.inl ho)
        · split at ho
          · exact .inr ho
          · exact .inl (.inr ⟨j, Nat.zero_le _, by omega, ho⟩)⟩)
  · have hge : i = (tysAt ss t.st).length := by
      have : ¬ i < ss[t.st.toNat].fs.length := by simpa using hge
      omega
    subst hge
    have hpos : (tysAt ss t.st).length ≠ 0 := by
      have := hb1 t.st.toNat hlt
      have e : tysAt ss (t.st.toNat : Int) = tysAt ss t.st := by rw [tysAt, tysAt, Int.toNat_natCast]
      rw [bad1, e, Bool.or_eq_false_iff, Bool.or_eq_false_iff] at this
      simp only [decide_eq_false_iff_not] at this
      omega
    obtain ⟨b9, cap9, c9, rfl, hc9, hcl9, htk9, S⟩ := S.rowCell v hpos
    have hm9 := S.mine (.cell b9 c9 25) (by simp) b9 rfl
    have S := S.frz
    refine h _ _ (one b9 c9 25) gs _ S.ext ⟨S.holds.le (h := ⟨fun b o ho => by
      rcases ho with ho | ho
      · exact .inr ho
      · exact .inl (.inr ho)⟩), fun b o ho => ?_⟩ ⟨fun j hj => ?_, fun j k hjk hj hk => hdis j k hjk hj hk, fun j hj b o o' ho ho' => ?_⟩ hc9
    · rcases ho with ⟨rfl, _⟩ | ⟨j, _, hj, ho⟩
      · exact hm9.1.resolve_right id
      · exact hfr j hj b o ho
    · obtain ⟨h1, h2, h3⟩ := hel j hj hj
      refine ⟨b9, 0, _, rfl, h1, fun k v hk w' hw => ?_, h2, h3⟩
      have B := one_blk (b := b9) (c := c9) (T := 25) w' hw
      show w'.cell? _ = some v
      rw [Nat.zero_add, B.cell]
      have hk5 : k < 5 := by have := (List.getElem?_eq_some_iff.1 hk).1; omega
      rw [List.getElem?_take, if_pos hk5, List.getElem?_drop, ← htk9, List.getElem?_take] at hk
      split at hk
      · exact hk
      · cases hk
    · obtain ⟨rfl, _⟩ := ho'
      exact hm9.2 o (.inr ⟨j, Nat.zero_le _, hj, ho⟩)
end Go.Proofs
end

section
namespace Go.Sh
open Go.ChangeShapes Go.WideShapes Go.ChangeAt Go.RowKit
section
variable {H : Type} {enc : TypeId × Value → H} {P : Program}
theorem same_ext {W W' : World} (e : Ext W W') {p : MemPlace} (hp : p.block < W.heap.size) : W.sameAt W' p := Below.same e hp
theorem trodAll_ext {W W' : World} (e : Ext W W') (K : Kids P (· < P.types.size)) (hz : ∀ t e, t < P.types.size → P.underlying t = some (.slice e) → 0 < P.cellsOf e) {sp : Nat → Bool} :
    ∀ {ts : List TypeId} {vs : List Value} {ds : List (DataW H)} {ps : List MemPlace}, (∀ t ∈ ts, t < P.types.size) → DataW.TrodAll enc P W 0 (fun _ => true) true ts vs ds ps → (∀ p ∈ ps, p.block < W.heap.size) → (∀ p ∈ ps, sp p.block = true) →
      DataW.TrodAll enc P W' 0 sp true ts vs ds ps
  | [], [], [], _, _, h, _, _ => h
  | _ :: _, _ :: _, _ :: _, _, hT, ⟨p, q, ⟨n, h1⟩, h2, he⟩, hl, hs =>
    ⟨p, q, ⟨n, DataW.trod_stays K (fun {t e} => hz t e) (fun h => by cases h) (hT _ (List.mem_cons.2 (Or.inl rfl))) h1 (fun x hx => same_ext e (hl x (by rw [he]; exact List.mem_append_left _ hx))) (fun x hx => hs x (by rw [he]; exact List.mem_append_left _ hx))⟩,
      trodAll_ext e K hz (fun t ht => hT t (List.mem_cons.2 (Or.inr ht))) h2 (fun x hx => hl x (by rw [he]; exact List.mem_append_right _ hx)) (fun x hx => hs x (by rw [he]; exact List.mem_append_right _ hx)), he⟩
/-- WHAT THE LAWS' ROWS ASK: true; the input reads as it did. -/
theorem post_told {f : Func} {s : ChangeSpec} {W W' : World} {args : Array Value} {ds gs : List (DataW H)} {before : List MemPlace} {tb : TypeId} {fr ho : Bool}
    (hl : laidOutB P = true) (hm : mapsRowed P = true) (hz : ((List.range P.types.size).all fun t => match P.underlying t with | some (.slice e) => decide (0 < P.cellsOf e) | _ => true) = true)
    (hts : ∀ t ∈ f.params.toList, t < P.types.size) (hv : s.vars = []) (hrt : f.resultTypes = #[tb]) (htb : P.underlying tb = some .bool)
    (hW : DataW.Whole enc P f.params.toList s.vars false W args.toList ds gs before) (hs : s.fn H (ds ++ gs) = { results := [.lit (.bool true)], args := ds }) (e : Ext W W') :
    s.post enc P f false fr ho false W args (.bool true) W' := by
  have hW' := hW
  obtain ⟨p, q, hA, hV, rfl, hfz, hnd⟩ := hW
  rw [hv] at hV
  obtain ⟨rfl, rfl⟩ := trodVars_none hV
  have hlt := hW'.lt
  refine ⟨ds, [], p ++ [], [], p, [], hW', ?_, ?_, ?_, Below.frame e _, fun h => by cases h⟩
  · rw [hs, hrt]
    exact trodAll_mk1 (shut_bool htb _)
  · rw [hs]
    exact trodAll_ext e (kids_rows hl hm) (slices_full_of P hz) hts hA (fun x hx => hlt x (by simpa using hx)) (fun x hx => by simpa using hlt x (by simpa using hx))
  · rw [hv, hs]; rfl
end
end Go.Sh
end

section
namespace Go.Sh
open Go.RowKit

mutual
/-- is it a datum of the type? -/
def Dat.ok (P : Program) : Dat → TypeId → Prop
  | .int k n, t => P.underlying t = some (.int k) ∧ (Lit.int k n).wf = true
  | .bool _, t => P.underlying t = some .bool
  | .str s, t => P.underlying t = some .string ∧ s.size ≤ maxLen
  | .agg ds, t => ∃ fs, P.underlying t = some (.struct fs) ∧ Dat.okF P ds (fs.toList.map (·.type))
  | .sl sz es, t => ∃ e, P.underlying t = some (.slice e) ∧ sz = P.cellsOf e ∧ es.length ≤ maxLen ∧ Dat.okS P es e
def Dat.okF (P : Program) : List Dat → List TypeId → Prop
  | [], ts => ts = []
  | d :: ds, ts => ∃ t r, ts = t :: r ∧ Dat.ok P d t ∧ Dat.okF P ds r
def Dat.okS (P : Program) : List Dat → TypeId → Prop
  | [], _ => True
  | d :: ds, t => Dat.ok P d t ∧ Dat.okS P ds t
end
theorem okS_of {P : Program} {t : TypeId} : ∀ {es : List Dat}, (∀ (i : Nat) (d : Dat), es[i]? = some d → d.ok P t) → Dat.okS P es t
  | [], _ => trivial
  | d :: es, h => ⟨h 0 d rfl, okS_of fun i d hi => h (i + 1) d (by simpa using hi)⟩
theorem okS_mem {P : Program} {t : TypeId} : ∀ {es : List Dat}, Dat.okS P es t → ∀ d ∈ es, d.ok P t
  | [], _, d, hd => by cases hd
  | e :: es, h, d, hd => by
    rcases List.mem_cons.1 hd with rfl | hd
    · exact h.1
    · exact okS_mem h.2 d hd
def layT (P : Program) (total : Nat) : Nat → List Field → Bool
  | off, [] => off == total
  | off, f :: fs => f.offset == off && layT P total (off + P.cellsOf f.type) fs
/-- types of numbers, texts, structs and slices, each of whose parts is among them -/
def plainS (P : Program) (ts : List TypeId) : Bool :=
  ts.all fun t => match P.underlying t with
    | some (.int _) => true
    | some .bool => true
    | some .string => true
    | some (.struct fs) => layT P (P.cellsOf t) 0 fs.toList && fs.toList.all (fun f => ts.contains f.type)
    | some (.slice e) => decide (0 < P.cellsOf e) && ts.contains e
    | _ => false
theorem choose_list {Q : Nat → Dat → Prop} : ∀ n : Nat, (∀ i, i < n → ∃ d, Q i d) → ∃ es : List Dat, es.length = n ∧ ∀ i d, es[i]? = some d → Q i d
  | 0, _ => ⟨[], rfl, fun i d h => by cases h⟩
  | n + 1, h => by
    obtain ⟨es, h1, h2⟩ := choose_list n fun i hi => h i (by omega)
    obtain ⟨d, hd⟩ := h n (by omega)
    refine ⟨es ++ [d], by simp [h1], fun i x hx => ?_⟩
    rcases Nat.lt_or_ge i es.length with hi | hi
    · rw [List.getElem?_append_left hi] at hx; exact h2 i x hx
    · rw [List.getElem?_append_right hi] at hx
      have hl := (List.getElem?_eq_some_iff.1 hx).1
      have : i = n := by simp at hl; omega
      subst this
      rw [h1, Nat.sub_self] at hx
      cases hx; exact hd
section
variable {H : Type} {enc : TypeId × Value → H} {P : Program} {W : World}
theorem rep_fields {cs : List Value} {total : Nat} (hcs : cs.length = total) : ∀ (fl : List Field) (off : Nat), layT P total off fl = true →
    (∀ f ∈ fl, ∃ d, Rep (all W) d ((cs.drop f.offset).take (P.cellsOf f.type)) ∧ d.ok P f.type) → ∃ ds, RepA (all W) ds (cs.drop off) ∧ Dat.okF P ds (fl.map (·.type))
  | [], off, hl, _ => ⟨[], by
    have : off = total := by simpa [layT] using hl
    rw [RepA, List.drop_eq_nil_iff]; omega, rfl⟩
  | f :: fl, off, hl, h => by
    simp only [layT, Bool.and_eq_true, beq_iff_eq] at hl
    obtain ⟨d, h1, h2⟩ := h f List.mem_cons_self
    obtain ⟨ds, h3, h4⟩ := rep_fields hcs fl _ hl.2 fun g hg => h g (List.mem_cons_of_mem _ hg)
    refine ⟨d :: ds, ⟨_, _, ?_, h1, h3⟩, _, _, rfl, h2, h4⟩
    rw [hl.1, ← List.drop_drop, List.take_append_drop]
theorem rep_of_trod {ts : List TypeId} (hp : plainS P ts = true) {sp : Nat → Bool} : ∀ (fuel : Nat) (t : TypeId) (cs : List Value) (x : DataW H × List MemPlace), t ∈ ts →
    DataW.trod enc P W 0 sp true fuel t cs = some x → ∃ d, Rep (all W) d cs ∧ d.ok P t
  | 0, _, _, _, _, h => by simp [DataW.trod] at h
  | fuel + 1, t, cs, x, ht, h => by
    have hpt := List.all_eq_true.1 hp t ht
    cases hu : P.underlying t with
    | none => rw [hu] at hpt; cases hpt
    | some k =>
      rw [hu] at hpt
      cases k with
      | int k => obtain ⟨n, rfl, _, hw⟩ := DataW.trod_int hu h; exact ⟨.int k n, rfl, hu, hw⟩
      | bool => obtain ⟨b, rfl, _⟩ := DataW.trod_bool hu h; exact ⟨.bool b, rfl, hu⟩
      | string => obtain ⟨s, rfl, _, hs⟩ := DataW.trod_string hu h; exact ⟨.str s, rfl, hu, hs⟩
      | struct fs =>
        simp only [Bool.and_eq_true] at hpt
        obtain ⟨xs, n, hn, _, hl, hxl, hx⟩ := DataW.trod_struct hu h
        obtain rfl : fuel = n := by omega
        obtain ⟨ds, h1, h2⟩ := rep_fields (P := P) (W := W) hl fs.toList 0 hpt.1 (fun f hf => by
          obtain ⟨i, hi, rfl⟩ := List.getElem_of_mem hf
          have hi' : i < fs.size := by simpa using hi
          have h1 := hx i fs[i] (Array.getElem?_eq_getElem hi')
          rw [List.getElem?_eq_getElem (by omega)] at h1
          have hmem : fs[i].type ∈ ts := by
            have := List.all_eq_true.1 hpt.2 _ hf
            simpa using this
          exact rep_of_trod hp fuel _ _ _ hmem h1)
        rw [List.drop_zero] at h1
        exact ⟨.agg ds, h1, fs, hu, h2⟩
      | slice e =>
        simp only [Bool.and_eq_true, decide_eq_true_eq] at hpt
        have he : e ∈ ts := by simpa using hpt.2
        rcases DataW.trod_slice hu h with ⟨rfl, _⟩ | ⟨a, len, cap, elems, rest, n, hn, rfl, _, _, hlc, hcm, hel, hget, _, _⟩
        · exact ⟨.sl (P.cellsOf e) [], ⟨none, 0, rfl, fun _ => rfl, Nat.le_refl _, trivial⟩, e, hu, rfl, Nat.zero_le _, trivial⟩
        obtain rfl : fuel = n := by omega
        have hspot : 0 < len → a.spot = none := fun h0 => by
          have h1 := hget 0 h0
          rw [List.getElem?_eq_getElem (by omega)] at h1
          obtain ⟨c, hc, _⟩ := Option.bind_eq_some_iff.1 h1
          obtain ⟨_, hcl, hcc⟩ := World.cells?_some hc
          have hcell := (hcc 0 hpt.1).trans (List.getElem?_eq_getElem (by omega))
          have := World.cell?_spot hcell
          simpa [Addr.add] using this
        obtain ⟨es, h1, h2⟩ := choose_list (Q := fun i d => d.ok P e ∧ ∃ c, c.length = P.cellsOf e ∧ CellsAt (all W) (some a) (i * P.cellsOf e) c ∧ Rep (all W) d c) len (fun i hi => by
          have h1 := hget i hi
          rw [List.getElem?_eq_getElem (by omega)] at h1
          obtain ⟨c, hc, ht⟩ := Option.bind_eq_some_iff.1 h1
          obtain ⟨_, hcl, hcc⟩ := World.cells?_some hc
          obtain ⟨d, hd, hok⟩ := rep_of_trod hp fuel e c _ he ht
          refine ⟨d, hok, c, hcl, fun j v hj => ?_, hd⟩
          have hjl := (List.getElem?_eq_some_iff.1 hj).1
          have hcell : W.cell? ((a.add (i * P.cellsOf e)).add j) = some v := (hcc j (by omega)).trans hj
          obtain ⟨b, off, sp⟩ := a
          have hsp : sp = none := hspot (by omega)
          subst hsp
          rw [addr_add', addr_add'] at hcell
          exact ⟨b, off, rfl, cell_all hcell⟩)
        refine ⟨.sl (P.cellsOf e) es, ⟨some a, cap, by rw [h1], by simp, by omega, RepS.of fun i d hi => ?_⟩, e, hu, rfl, by omega, okS_of fun i d hi => (h2 i d hi).1⟩
        rw [Nat.zero_add]; exact (h2 i d hi).2
      | _ => cases hpt
end
end Go.Sh
end

section
namespace Go.Sh
open Go.RowKit
set_option linter.unusedVariables false
/-- a slice whose things, each of so many cells, tell these -/
def SlG {α : Type} (sz : Nat) (r : Gh) (R : List Value → α → Prop) (v : Value) (l : List α) : Prop :=
  ∃ p cap, v = .slice p l.length cap ∧ (p = none → cap = 0) ∧ l.length ≤ cap ∧ ∀ (i : Nat) (h : i < l.length), ∃ c, c.length = sz ∧ CellsAt r p (i * sz) c ∧ R c l[i]
/-- cells one thing behind the other -/
def RowOf {α : Type} (sz : Nat) (R : List Value → α → Prop) (xs : List Value) (l : List α) : Prop :=
  xs.length = l.length * sz ∧ ∀ (i : Nat) (h : i < l.length), R ((xs.drop (i * sz)).take sz) l[i]
section
variable {α : Type} {sz : Nat} {r s : Gh} {R Q : List Value → α → Prop} {v : Value} {l : List α}
theorem SlG.up' (h : SlG sz r R v l) (le : Le r s) (hR : ∀ c x, R c x → Q c x) : SlG sz s Q v l := by
  obtain ⟨p, cap, h1, h2, h3, h4⟩ := h
  refine ⟨p, cap, h1, h2, h3, fun i hi => ?_⟩
  obtain ⟨c, h5, h6, h7⟩ := h4 i hi
  exact ⟨c, h5, h6.up le, hR _ _ h7⟩
theorem SlG.mono (h : SlG sz r R v l) (hR : ∀ c x, R c x → Q c x) : SlG sz r Q v l := h.up' inferInstance hR
theorem SlG.cells (h : SlG sz r R v l) [le : Le r s] : SlG sz s R v l := h.up' le fun _ _ h => h
theorem SlG.nil : SlG sz r R (.slice none 0 0) ([] : List α) := ⟨none, 0, rfl, fun _ => rfl, Nat.le_refl _, fun i hi => absurd hi (Nat.not_lt_zero _)⟩
theorem SlG.shape (h : SlG sz r R v l) : ∃ p cap, v = .slice p l.length cap ∧ (p = none → cap = 0) ∧ l.length ≤ cap := by
  obtain ⟨p, cap, h1, h2, h3, _⟩ := h; exact ⟨p, cap, h1, h2, h3⟩
/-- a thing of it -/
theorem SlG.get (hz : 0 < sz) {p : Option Addr} {n cap : Nat} (h : SlG sz r R (.slice p n cap) l) {i : Nat} (hi : i < l.length) :
    ∃ b off c, p = some ⟨b, off, none⟩ ∧ c.length = sz ∧ R c l[i] ∧ ∀ j v, c[j]? = some v → Ob r fun w => w.cell? ⟨b, off + i * sz + j, none⟩ = some v := by
  obtain ⟨p', cap', h1, h2, h3, h4⟩ := h
  cases h1
  obtain ⟨c, h5, h6, h7⟩ := h4 i hi
  obtain ⟨b, off, hp, _⟩ := h6 0 c[0] (List.getElem?_eq_getElem (by omega))
  subst hp
  refine ⟨b, off, c, rfl, h5, h7, fun j v hj => ?_⟩
  obtain ⟨b', off', hp, ho⟩ := h6 j v hj
  cases hp; exact ho
theorem RowOf.nil : RowOf sz R [] ([] : List α) := ⟨by simp, fun i hi => absurd hi (Nat.not_lt_zero _)⟩
theorem RowOf.mono {xs : List Value} (h : RowOf sz R xs l) (hR : ∀ c x, R c x → Q c x) : RowOf sz Q xs l := ⟨h.1, fun i hi => hR _ _ (h.2 i hi)⟩
theorem RowOf.snoc {xs c : List Value} {x : α} (h : RowOf sz R xs l) (hc : c.length = sz) (hx : R c x) : RowOf sz R (xs ++ c) (l ++ [x]) := by
  obtain ⟨h1, h2⟩ := h
  refine ⟨by rw [List.length_append, List.length_append, h1, hc, List.length_singleton, Nat.add_mul, Nat.one_mul], fun i hi => ?_⟩
  rw [List.length_append, List.length_singleton] at hi
  rcases Nat.lt_or_ge i l.length with h | h
  · have hm : i * sz + sz ≤ xs.length := by rw [h1, ← Nat.succ_mul]; exact Nat.mul_le_mul_right _ h
    rw [List.getElem_append_left h, List.drop_append_of_le_length (by omega), List.take_append_of_le_length (by rw [List.length_drop]; omega)]
    exact h2 i h
  · obtain rfl : i = l.length := by omega
    rw [List.getElem_append_right (Nat.le_refl _), ← h1, List.drop_left', List.take_of_length_le (by omega)]
    · simpa using hx
    · rfl
theorem RowOf.sl {xs : List Value} (h : RowOf sz R xs l) {p : Option Addr} {cap : Nat} (hp : p = none → cap = 0) (hc : l.length ≤ cap) (ho : Ob r fun w => Sl w p xs) (hz : 0 < sz) (hk : ∃ w, Holds r w) : SlG sz r R (.slice p l.length cap) l := by
  refine ⟨p, cap, rfl, hp, hc, fun i hi => ⟨(xs.drop (i * sz)).take sz, ?_, ?_, h.2 i hi⟩⟩
  · have : i * sz + sz ≤ xs.length := by rw [h.1, ← Nat.succ_mul]; exact Nat.mul_le_mul_right _ hi
    rw [List.length_take, List.length_drop]; omega
  · intro j v hj
    rw [List.getElem?_take] at hj
    split at hj
    · rw [List.getElem?_drop] at hj
      obtain ⟨w, hw⟩ := hk
      obtain ⟨b, off, rfl, _⟩ := ho w hw _ _ hj
      refine ⟨b, off, rfl, fun w' hw' => ?_⟩
      obtain ⟨b', off', hp', hc'⟩ := ho w' hw' _ _ hj
      cases hp'
      rw [← Nat.add_assoc] at hc'; exact hc'
    · cases hj
end
section
variable {P : Program} {X : Nat → Prop} {w0 w : World} {r : Gh} {L : List Asr} {α : Type} {sz n : Nat} {R : List Value → α → Prop} {v : Value} {l : List α} {e : TypeId} {xs : List Value}
/-- the row at the head of a walk's own, done: it stays from here on -/
theorem StX.doneRow (S : StX X w0 r w (.row v e sz n xs :: L)) (h : RowOf sz R xs l) (hz : 0 < sz) (hn : n = l.length) :
    ∃ s, StX X w0 (r.or s) w L ∧ SlG sz s R v l ∧ (∀ b o, s b o → ∃ c, o = .cells c e (0, 0)) ∧ (∀ b o, s b o → w0.heap.size ≤ b ∨ X b) := by
  subst hn
  have hm := S.mine _ (List.mem_cons_self ..)
  have hr : w.ownsRow 0 e sz v l.length xs := S.has _ (List.mem_cons_self ..)
  rcases own_blk hr with ⟨rfl, h1, h2⟩ | ⟨g, cap, c, rfl, hg, B, h1, _, h3, h4⟩
  · have hl : l = [] := List.eq_nil_of_length_eq_zero h1
    subst hl
    exact ⟨nothing, S.tl.new (Ext.refl _) New.nothing, SlG.nil, fun b o h => h.elim, fun b o h => h.elim⟩
  · have S' := S.turn (p := []) (x := .row _ e sz l.length xs) (y := .cell g c e) (ExtBut.refl _ _) B fun k hk => .inl (by cases hk; rfl)
    refine ⟨one g c e, S'.frz, ?_, fun b o h => ⟨_, h.2⟩, fun b o h => (hm b (by rw [h.1]; rfl)).1⟩
    refine h.sl (by simp) h1 (fun w k => ?_) hz ⟨w, one_holds B⟩
    rw [← h4]; exact (Sl.blk (one_blk w k)).take _
/-- a literal that stays -/
theorem StX.litSl {b : Nat} (S : StX X w0 r w (.cell b xs e :: L)) (h : RowOf sz R xs l) (hz : 0 < sz) : StX X w0 (r.or (one b xs e)) w L ∧ SlG sz (one b xs e) R (.slice (some ⟨b, 0, none⟩) l.length l.length) l :=
  ⟨S.frz, h.sl (by simp) (Nat.le_refl _) (fun w k => Sl.blk (one_blk w k)) hz ⟨w, one_holds (S.has _ (List.mem_cons_self ..))⟩⟩
theorem StX.reGh {s t : Gh} (S : StX X w0 ((r.or s).or t) w L) : StX X w0 (r.or (s.or t)) w L :=
  S.less (fun b o h => h.elim (fun h => .inl (.inl h)) fun h => h.elim (fun h => .inl (.inr h)) .inr) (List.Sublist.refl _)
theorem Above.or' {s t : Gh} (h : Above w0 s) (k : Above w0 t) : Above w0 (s.or t) := fun b o x => x.elim (h b o) (k b o)
theorem Above.no : Above w0 nothing := fun b o h => h.elim
/-- what the walk holds and has made is new -/
theorem StX.newOf {q : Gh} (S : StX X w0 r w L) (h : Above w0 q) [Le q r] : New w0 q w := ⟨S.holds.le (h := inferInstance), h⟩
end
/-! ### A loop of few rounds, round by round -/
/-! ### Joined conditions, whatever the second one tells -/
section
variable {w : World} {A : (List Value → World → Prop) → Prop} {Z : Value → World → Prop} {b : Bool}
end
end Go.Sh
end

section
namespace Go.Sh
open Go.RowKit
set_option linter.unusedSimpArgs false
set_option linter.unusedVariables false
section
variable {P : Program}
theorem dat_int {d : Dat} {t : TypeId} {k : IntKind} (u : P.underlying t = some (.int k)) (h : d.ok P t) : ∃ n, d = .int k n ∧ (Lit.int k n).wf = true := by
  cases d <;> simp only [Dat.ok, u] at h <;> try simp at h
  obtain ⟨rfl, h⟩ := h
  exact ⟨_, rfl, h⟩
theorem dat_bool {d : Dat} {t : TypeId} (u : P.underlying t = some .bool) (h : d.ok P t) : ∃ b, d = .bool b := by
  cases d <;> simp only [Dat.ok, u] at h <;> try simp at h
  exact ⟨_, rfl⟩
theorem dat_str {d : Dat} {t : TypeId} (u : P.underlying t = some .string) (h : d.ok P t) : ∃ s, d = .str s ∧ s.size ≤ maxLen := by
  cases d <;> simp only [Dat.ok, u] at h <;> try simp at h
  exact ⟨_, rfl, h⟩
theorem dat_sl {d : Dat} {t e : TypeId} (u : P.underlying t = some (.slice e)) (h : d.ok P t) : ∃ es, d = .sl (P.cellsOf e) es ∧ es.length ≤ maxLen ∧ ∀ x ∈ es, x.ok P e := by
  cases d <;> simp only [Dat.ok, u] at h <;> try simp at h
  obtain ⟨rfl, h1, h2⟩ := h
  exact ⟨_, rfl, h1, okS_mem h2⟩
theorem dat_agg {d : Dat} {t : TypeId} {ts : List TypeId} (u : ∃ fs, P.underlying t = some (.struct fs) ∧ fs.toList.map (·.type) = ts) (h : d.ok P t) : ∃ ds, d = .agg ds ∧ Dat.okF P ds ts := by
  obtain ⟨fs, u, rfl⟩ := u
  cases d <;> simp only [Dat.ok, u] at h <;> try simp at h
  exact ⟨_, rfl, by simpa using h⟩
theorem okF_cons {ds : List Dat} {t : TypeId} {ts : List TypeId} (h : Dat.okF P ds (t :: ts)) : ∃ d r, ds = d :: r ∧ d.ok P t ∧ Dat.okF P r ts := by
  cases ds with
  | nil => cases h
  | cons d r => obtain ⟨t', r', h1, h2, h3⟩ := h; cases h1; exact ⟨d, r, rfl, h2, h3⟩
theorem okF_nil {ds : List Dat} (h : Dat.okF P ds []) : ds = [] := by
  cases ds with
  | nil => rfl
  | cons d r => obtain ⟨t', r', h1, _⟩ := h; cases h1
noncomputable def structB (P : Program) (t : TypeId) (ts : List TypeId) : Bool := match P.underlying t with | some (.struct fs) => decide (fs.toList.map (·.type) = ts) | _ => false
theorem struct_of {t : TypeId} {ts : List TypeId} (h : structB P t ts = true) : ∃ fs, P.underlying t = some (.struct fs) ∧ fs.toList.map (·.type) = ts := by
  unfold structB at h
  split at h
  · rename_i fs hu; exact ⟨fs, hu, of_decide_eq_true h⟩
  · cases h
end
theorem wf_i64 {n : Int} (h : (Lit.int .i64 n).wf = true) : -9223372036854775808 ≤ n ∧ n ≤ 9223372036854775807 := by
  simp only [Lit.wf, Bool.and_eq_true, decide_eq_true_eq] at h
  exact ⟨h.1, h.2⟩
theorem list_map {α : Type} {f : α → Dat} {G : α → Prop} : ∀ es : List Dat, (∀ d ∈ es, ∃ t, d = f t ∧ G t) → ∃ l : List α, es = l.map f ∧ ∀ t ∈ l, G t
  | [], _ => ⟨[], rfl, fun t h => by cases h⟩
  | d :: es, h => by
    obtain ⟨t, rfl, ht⟩ := h d List.mem_cons_self
    obtain ⟨l, rfl, hq⟩ := list_map es fun x hx => h x (List.mem_cons_of_mem _ hx)
    refine ⟨t :: l, rfl, fun x hx => ?_⟩
    rcases List.mem_cons.1 hx with rfl | hx
    · exact ht
    · exact hq x hx
end Go.Sh
end

section
namespace Go.Proofs

open Go.Sh

set_option maxRecDepth 100000

set_option linter.unusedSimpArgs false

set_option linter.unusedVariables false

structure PlD where
  l : Int
  ps : List Int
structure OpD where
  k : Int
  n : Int
  pl : PlD
structure PtD where
  op : Int
  to : PlD
  a : OpD
  b : OpD
  args : List OpD
  sign : ByteArray
  fr : PlD
  mu : Bool
  fn : Int
  st : Int
  nx : Int
  el : Int
  tx : Int
structure GrD where
  name : ByteArray
  lv : Int
  outs : List (Int × Int)
  pn : Int
  tys : List TyD
  nms : List ByteArray
  pts : List PtD
structure UnD where
  ss : List StD
  fs : List GrD
  mn : Int
/-! ### What a memory tells -/

def IntC (c : List Value) (x : Int) : Prop := c = [.int .i64 x]
def in64 (x : Int) : Prop := -9223372036854775808 ≤ x ∧ x < 9223372036854775808
/-- a step -/
def StpC (c : List Value) (x : Int) : Prop := c = [.int .i64 x] ∧ in64 x
/-- a list no longer than a slice may be -/
structure SlB {α : Type} (sz : Nat) (r : Gh) (R : List Value → α → Prop) (v : Value) (l : List α) : Prop where
  sl : SlG sz r R v l
  few : l.length ≤ maxLen
theorem SlB.cells {α : Type} {sz : Nat} {r s : Gh} {R : List Value → α → Prop} {v : Value} {l : List α} (h : SlB sz r R v l) [le : Le r s] : SlB sz s R v l := ⟨h.sl.cells, h.few⟩
theorem SlB.up' {α : Type} {sz : Nat} {r s : Gh} {R Q : List Value → α → Prop} {v : Value} {l : List α} (h : SlB sz r R v l) (le : Le r s) (hR : ∀ c x, R c x → Q c x) : SlB sz s Q v l := ⟨h.sl.up' le hR, h.few⟩
/-- .. read of data -/
theorem slB_of_rep {α : Type} {D : α → Dat} {r : Gh} {R : List Value → α → Prop} {sz : Nat} {cs : List Value} {l : List α} (hR : ∀ c x, x ∈ l → Rep r (D x) c → R c x) (h : Rep r (.sl sz (l.map D)) cs) (hl : l.length ≤ maxLen) : ∃ v, cs = [v] ∧ SlB sz r R v l := by
  obtain ⟨p, cap, rfl, h1, h2, h3⟩ := h
  rw [List.length_map] at h2 ⊢
  refine ⟨_, rfl, ⟨p, cap, rfl, h1, h2, fun i hi => ?_⟩, hl⟩
  obtain ⟨c, h4, h5, h6⟩ := h3.get (i := i) (d := D l[i]) (by rw [List.getElem?_map, List.getElem?_eq_getElem hi]; rfl)
  rw [Nat.zero_add] at h5
  exact ⟨c, h4, h5, hR _ _ (List.getElem_mem hi) h6⟩
def PlD.ok (p : PlD) : Prop := p.ps.length ≤ maxLen ∧ ∀ k ∈ p.ps, in64 k
def OpD.ok (o : OpD) : Prop := o.pl.ok
def PtD.ok (p : PtD) : Prop := p.to.ok ∧ p.a.ok ∧ p.b.ok ∧ (p.args.length ≤ maxLen ∧ ∀ o ∈ p.args, o.ok) ∧ p.fr.ok
def GrD.ok (g : GrD) : Prop := g.outs.length ≤ maxLen ∧ g.tys.length ≤ maxLen ∧ g.nms.length ≤ maxLen ∧ g.pts.length ≤ maxLen ∧ ∀ p ∈ g.pts, p.ok
def UnD.ok (u : UnD) : Prop := u.ss.length ≤ maxLen ∧ u.fs.length ≤ maxLen ∧ ∀ g ∈ u.fs, g.ok
def StrC (c : List Value) (x : ByteArray) : Prop := c = [.string x]
def TwoC (c : List Value) (x : Int × Int) : Prop := c = [.int .i64 x.1, .int .i64 x.2]
def TyC (r : Gh) (c : List Value) (t : TyD) : Prop := TyG r (.agg c.toArray) t
def PlG (r : Gh) (c : List Value) (p : PlD) : Prop := ∃ v, c = [.int .i64 p.l, v] ∧ SlB 1 r StpC v p.ps
def OpG (r : Gh) (c : List Value) (o : OpD) : Prop := ∃ v, c = [.int .u8 o.k, .int .i64 o.n, .int .i64 o.pl.l, v] ∧ SlB 1 r StpC v o.pl.ps
def PtG (r : Gh) (c : List Value) (p : PtD) : Prop := ∃ vt va vb vl vf,
  c = [.int .u8 p.op, .int .i64 p.to.l, vt, .int .u8 p.a.k, .int .i64 p.a.n, .int .i64 p.a.pl.l, va, .int .u8 p.b.k, .int .i64 p.b.n, .int .i64 p.b.pl.l, vb, vl, .string p.sign, .int .i64 p.fr.l, vf, .bool p.mu, .int .i64 p.fn, .int .i64 p.st, .int .i64 p.nx, .int .i64 p.el, .int .i64 p.tx] ∧
  SlB 1 r StpC vt p.to.ps ∧ SlB 1 r StpC va p.a.pl.ps ∧ SlB 1 r StpC vb p.b.pl.ps ∧ SlB 4 r (OpG r) vl p.args ∧ SlB 1 r StpC vf p.fr.ps
def GrG (r : Gh) (c : List Value) (g : GrD) : Prop := ∃ vo vt vn vp, c = [.string g.name, .int .i64 g.lv, vo, .int .i64 g.pn, vt, vn, vp] ∧
  SlB 2 r TwoC vo g.outs ∧ SlB 5 r (TyC r) vt g.tys ∧ SlB 1 r StrC vn g.nms ∧ SlB 21 r (PtG r) vp g.pts
def UnG (r : Gh) (v : Value) (u : UnD) : Prop := ∃ p cap vf, v = .agg #[.slice p u.ss.length cap, vf, .int .i64 u.mn] ∧ (p = none → cap = 0) ∧ u.ss.length ≤ cap ∧ StG r p u.ss ∧ u.ss.length ≤ maxLen ∧ SlB 7 r (GrG r) vf u.fs
theorem PlG.up {r s : Gh} {c : List Value} {p : PlD} (h : PlG r c p) [l : Le r s] : PlG s c p := by
  obtain ⟨v, h1, h2⟩ := h; exact ⟨v, h1, h2.cells⟩
theorem OpG.up {r s : Gh} {c : List Value} {p : OpD} (h : OpG r c p) [l : Le r s] : OpG s c p := by
  obtain ⟨v, h1, h2⟩ := h; exact ⟨v, h1, h2.cells⟩
theorem PtG.up {r s : Gh} {c : List Value} {p : PtD} (h : PtG r c p) [l : Le r s] : PtG s c p := by
  obtain ⟨vt, va, vb, vl, vf, h0, h1, h2, h3, h4, h5⟩ := h
  exact ⟨vt, va, vb, vl, vf, h0, h1.cells, h2.cells, h3.cells, h4.up' l fun _ _ h => h.up, h5.cells⟩
theorem GrG.up {r s : Gh} {c : List Value} {g : GrD} (h : GrG r c g) [l : Le r s] : GrG s c g := by
  obtain ⟨vo, vt, vn, vp, h0, h1, h2, h3, h4⟩ := h
  exact ⟨vo, vt, vn, vp, h0, h1.cells, h2.up' l fun _ _ h => TyG.up h, h3.cells, h4.up' l fun _ _ h => h.up⟩
theorem UnG.up {r s : Gh} {v : Value} {u : UnD} (h : UnG r v u) [l : Le r s] : UnG s v u := by
  obtain ⟨p, cap, vf, h0, h1, h2, h3, h5, h4⟩ := h
  exact ⟨p, cap, vf, h0, h1, h2, h3.up, h5, h4.up' l fun _ _ h => h.up⟩
/-! ### As data of any kind -/

def PlD.dat (p : PlD) : Dat := .agg [.int .i64 p.l, .sl 1 (p.ps.map (Dat.int .i64))]
def OpD.dat (o : OpD) : Dat := .agg [.int .u8 o.k, .int .i64 o.n, o.pl.dat]
def PtD.dat (p : PtD) : Dat := .agg [.int .u8 p.op, p.to.dat, p.a.dat, p.b.dat, .sl 4 (p.args.map OpD.dat), .str p.sign, p.fr.dat, .bool p.mu, .int .i64 p.fn, .int .i64 p.st, .int .i64 p.nx, .int .i64 p.el, .int .i64 p.tx]
def twoD (x : Int × Int) : Dat := .agg [.int .i64 x.1, .int .i64 x.2]
def GrD.dat (g : GrD) : Dat := .agg [.str g.name, .int .i64 g.lv, .sl 2 (g.outs.map twoD), .int .i64 g.pn, .sl 5 (g.tys.map TyD.dat), .sl 1 (g.nms.map Dat.str), .sl 21 (g.pts.map PtD.dat)]
def UnD.dat (u : UnD) : Dat := .agg [.sl 2 (u.ss.map StD.dat), .sl 7 (u.fs.map GrD.dat), .int .i64 u.mn]
theorem pl_of_rep {r : Gh} {c : List Value} {p : PlD} (h : Rep r p.dat c) (k : p.ok) : PlG r c p := by
  obtain ⟨a1, b1, rfl, e1, a2, b2, rfl, e2, e3⟩ := h
  obtain rfl : a1 = _ := e1
  obtain rfl : b2 = [] := e3
  obtain ⟨v, rfl, hv⟩ := slB_of_rep (D := Dat.int .i64) (R := StpC) (fun c x hx h => ⟨h, k.2 x hx⟩) e2 k.1
  exact ⟨v, rfl, hv⟩
theorem op_of_rep {r : Gh} {c : List Value} {o : OpD} (h : Rep r o.dat c) (k : o.ok) : OpG r c o := by
  obtain ⟨a1, b1, rfl, e1, a2, b2, rfl, e2, a3, b3, rfl, e3, e4⟩ := h
  obtain rfl : a1 = _ := e1
  obtain rfl : a2 = _ := e2
  obtain rfl : b3 = [] := e4
  obtain ⟨v, rfl, hv⟩ := pl_of_rep e3 k
  exact ⟨v, rfl, hv⟩
theorem pt_of_rep {r : Gh} {c : List Value} {p : PtD} (h : Rep r p.dat c) (k : p.ok) : PtG r c p := by
  obtain ⟨a1, b1, rfl, e1, a2, b2, rfl, e2, a3, b3, rfl, e3, a4, b4, rfl, e4, a5, b5, rfl, e5, a6, b6, rfl, e6, a7, b7, rfl, e7, a8, b8, rfl, e8, a9, b9, rfl, e9, a10, b10, rfl, e10, a11, b11, rfl, e11, a12, b12, rfl, e12, a13, b13, rfl, e13, e14⟩ := h
  obtain rfl : a1 = _ := e1
  obtain rfl : a6 = _ := e6
  obtain rfl : a8 = _ := e8
  obtain rfl : a9 = _ := e9
  obtain rfl : a10 = _ := e10
  obtain rfl : a11 = _ := e11
  obtain rfl : a12 = _ := e12
  obtain rfl : a13 = _ := e13
  obtain rfl : b13 = [] := e14
  obtain ⟨v2, rfl, h2⟩ := pl_of_rep e2 k.1
  obtain ⟨v3, rfl, h3⟩ := op_of_rep e3 k.2.1
  obtain ⟨v4, rfl, h4⟩ := op_of_rep e4 k.2.2.1
  obtain ⟨v5, rfl, h5⟩ := slB_of_rep (R := OpG r) (fun c x hx h => op_of_rep h (k.2.2.2.1.2 x hx)) e5 k.2.2.2.1.1
  obtain ⟨v7, rfl, h7⟩ := pl_of_rep e7 k.2.2.2.2
  exact ⟨v2, v3, v4, v5, v7, rfl, h2, h3, h4, h5, h7⟩
theorem two_of_rep {r : Gh} {c : List Value} {x : Int × Int} (h : Rep r (twoD x) c) : TwoC c x := by
  obtain ⟨a1, b1, rfl, e1, a2, b2, rfl, e2, e3⟩ := h
  obtain rfl : a1 = _ := e1
  obtain rfl : a2 = _ := e2
  obtain rfl : b2 = [] := e3
  rfl
theorem gr_of_rep {r : Gh} {c : List Value} {g : GrD} (h : Rep r g.dat c) (k : g.ok) : GrG r c g := by
  obtain ⟨a1, b1, rfl, e1, a2, b2, rfl, e2, a3, b3, rfl, e3, a4, b4, rfl, e4, a5, b5, rfl, e5, a6, b6, rfl, e6, a7, b7, rfl, e7, e8⟩ := h
  obtain rfl : a1 = _ := e1
  obtain rfl : a2 = _ := e2
  obtain rfl : a4 = _ := e4
  obtain rfl : b7 = [] := e8
  obtain ⟨v3, rfl, h3⟩ := slB_of_rep (R := TwoC) (fun c x _ h => two_of_rep h) e3 k.1
  obtain ⟨v5, rfl, h5⟩ := slB_of_rep (R := TyC r) (fun c x _ h => TyG.of_rep h) e5 k.2.1
  obtain ⟨v6, rfl, h6⟩ := slB_of_rep (D := Dat.str) (R := StrC) (fun c x _ h => h) e6 k.2.2.1
  obtain ⟨v7, rfl, h7⟩ := slB_of_rep (R := PtG r) (fun c x hx h => pt_of_rep h (k.2.2.2.2 x hx)) e7 k.2.2.2.1
  exact ⟨v3, v5, v6, v7, rfl, h3, h5, h6, h7⟩
theorem un_of_rep {r : Gh} {c : List Value} {u : UnD} (h : Rep r u.dat c) (k : u.ok) : UnG r (.agg c.toArray) u := by
  obtain ⟨a1, b1, rfl, e1, a2, b2, rfl, e2, a3, b3, rfl, e3, e4⟩ := h
  obtain rfl : a3 = _ := e3
  obtain rfl : b3 = [] := e4
  obtain ⟨q, cap, rfl, h1, h2, h3⟩ := e1
  obtain ⟨vf, rfl, hf⟩ := slB_of_rep (R := GrG r) (fun c x hx h => gr_of_rep h (k.2.2 x hx)) e2 k.2.1
  rw [List.length_map] at h2 ⊢
  exact ⟨q, cap, vf, rfl, h1, h2, h3, k.1, hf⟩
end Go.Proofs
end

section
namespace Go.Proofs

open Go.Sh

set_option linter.unusedVariables false

/-- a step: the type to which it goes, the widest way so far -/
def stepG (ss : List StD) (s : TyD × Int) (k : Int) : Option (TyD × Int) :=
  if k = -1 ∧ s.1.k = 3 then s.1.of.head?.map fun u => (u, max s.2 1)
  else if k = -1 ∧ s.1.k = 4 then s.1.of.head?.map fun u => (u, max s.2 (if s.1.m then 2 else 3))
  else if 0 ≤ k ∧ s.1.k = 5 then (tysAt ss s.1.st)[k.toNat]?.map fun u => (u, s.2)
  else none
def goG (ss : List StD) : List Int → TyD × Int → Option (TyD × Int)
  | [], s => some s
  | k :: l, s => (stepG ss s k).bind (goG ss l)
/-- a place's type, the widest way, whether it may be -/
def spotG (ss : List StD) (tys : List TyD) (p : PlD) : TyD × Int × Bool :=
  match (if p.l < 0 then none else tys[p.l.toNat]?).bind fun t => goG ss p.ps (t, 0) with
  | some s => (s.1, s.2, decide (p.ps.length ≤ 8))
  | none => (zeroD, 0, false)
def intD : TyD := ⟨1, false, 0, 0, []⟩
def boolD : TyD := ⟨2, false, 0, 0, []⟩
def zeroP (p : PlD) : Bool := decide (p.l = 0) && decide (p.ps.length = 0)
def noneO (o : OpD) : Bool := (decide (o.k = 0) && decide (o.n = 0)) && zeroP o.pl
def operG (ss : List StD) (tys : List TyD) (o : OpD) : TyD × Bool :=
  if o.k = 1 then (intD, zeroP o.pl)
  else if o.k = 2 then (boolD, zeroP o.pl && (decide (o.n = 0) || decide (o.n = 1)))
  else if o.k = 3 then ((spotG ss tys o.pl).1, ((spotG ss tys o.pl).2.2 && decide (o.n = 0)) && copiesB (spotG ss tys o.pl).1)
  else if o.k = 4 then ((spotG ss tys o.pl).1, (((spotG ss tys o.pl).2.2 && decide (o.n = 0)) && !copiesB (spotG ss tys o.pl).1) && decide ((spotG ss tys o.pl).2.1 < 2))
  else (zeroD, false)
/-- what a point may have -/
structure HasD where
  to : Bool := false
  a : Bool := false
  b : Bool := false
  args : Bool := false
  sign : Bool := false
  fr : Bool := false
  mu : Bool := false
  fn : Bool := false
  st : Bool := false
  el : Bool := false
def restL (p : PtD) (h : HasD) : List Bool :=
  [h.to || zeroP p.to, h.a || noneO p.a, h.b || noneO p.b, h.args || decide (p.args.length = 0), h.sign || (p.sign.toList == []), h.fr || zeroP p.fr, h.mu || !p.mu, h.fn || decide (p.fn = 0), h.st || decide (p.st = 0), h.el || decide (p.el = 0)]
def restG (p : PtD) (h : HasD) : Bool := (restL p h).all id
def argsG (ss : List StD) (tys : List TyD) : List OpD → List TyD → Bool
  | [], [] => true
  | o :: l, t :: r => ((operG ss tys o).2 && alikeT fAll (operG ss tys o).1 t) && argsG ss tys l r
  | _, _ => false
def insG (g : GrD) (q : Int) : Bool := decide (0 ≤ q) && decide (q < g.pts.length)
def isK (t : TyD) (k : Int) : Bool := decide (t.k = k)
def signI (s : ByteArray) (l : List (List UInt8)) : Bool := l.any fun x => s.toList == x
noncomputable def ptG (u : UnD) (g : GrD) (p : PtD) : Bool :=
  let to := spotG u.ss g.tys p.to
  let fr := spotG u.ss g.tys p.fr
  let laid := to.2.2 && decide (to.2.1 < 3)
  let a := operG u.ss g.tys p.a
  let b := operG u.ss g.tys p.b
  let ints := isK a.1 1 && isK b.1 1
  if p.op = 1 then ((restG p { to := true, a := true } && laid) && a.2) && alikeT fAll a.1 to.1
  else if p.op = 2 then
    (restG p { to := true, a := true, b := true, sign := true } && (laid && (a.2 && b.2))) &&
      (if signI p.sign [[43], [45], [42], [47], [37]] then isK to.1 1 && ints
       else if signI p.sign [[60], [60, 61], [62], [62, 61]] then isK to.1 2 && ints
       else if signI p.sign [[61, 61], [33, 61]] then isK to.1 2 && (ints || (isK a.1 2 && isK b.1 2)) else false)
  else if p.op = 3 then
    ((restG p { to := true, a := true, sign := true } && laid) && a.2) &&
      (if signI p.sign [[45]] then isK to.1 1 && isK a.1 1 else if signI p.sign [[33]] then isK to.1 2 && isK a.1 2 else false)
  else if p.op = 4 then
    ((((restG p { to := true, fr := true, mu := true } && laid) && fr.2.2) && isK to.1 4) && decide (to.1.m = p.mu)) && (alikeT fAll (to.1.of.headD zeroD) fr.1 && !(p.mu && decide (fr.2.1 = 3)))
  else if p.op = 5 then (((restG p { to := true, a := true } && laid) && a.2) && isK to.1 3) && alikeT fAll (to.1.of.headD zeroD) a.1
  else if p.op = 6 then
    (((restG p { to := true, args := true, st := true } && laid) && isK to.1 5) && decide (to.1.st = p.st)) && argsG u.ss g.tys p.args (fieldsT u.ss to.1).1
  else if p.op = 7 then
    ((restG p { to := true, args := true, fn := true } && laid) && (decide (0 ≤ p.fn) && decide (p.fn < u.fs.length))) &&
      (match u.fs[p.fn.toNat]? with
       | some f => alikeT fAll to.1 (f.tys.headD zeroD) && argsG u.ss g.tys p.args ((f.tys.drop 1).take f.pn.toNat)
       | none => false)
  else if p.op = 8 then (restG p { to := true } && laid) && isK to.1 1
  else if p.op = 9 then (restG p { a := true } && a.2) && isK a.1 1
  else if p.op = 10 then ((restG p { fr := true } && fr.2.2) && (dropsT u.ss fr.1).1) && decide (fr.2.1 < 2)
  else if p.op = 11 then ((restG p { fr := true } && fr.2.2) && decide (0 < p.fr.l)) && decide (p.fr.ps.length = 0)
  else if p.op = 12 then ((restG p { a := true, el := true } && a.2) && isK a.1 2) && insG g p.el
  else if p.op = 13 ∨ p.op = 14 then restG p {}
  else false
noncomputable def pointG (u : UnD) (g : GrD) (p : PtD) : Bool :=
  !((decide (p.tx < 0) || (!decide (p.op = 14) && !insG g p.nx)) || (decide (p.op = 14) && !decide (p.nx = 0))) && ptG u g p
/-! ### A head -/

/-- in a row of regions y stands ahead of x -/
def pairB (x y : Int) : List Int → Bool
  | [] => false
  | a :: l => (decide (a = y) && l.contains x) || pairB x y l
def mustG (tys : List TyD) (x y : Int) : Bool := tys.any fun t => pairB x y (regsT t)
def saysG (outs : List (Int × Int)) (x y : Int) : Bool := outs.contains (x, y)
def inOut (lv : Int) (o : Int × Int) : Bool := !((decide (min o.1 o.2 < 0) || decide (lv ≤ max o.1 o.2)) || decide (o.1 = o.2))
def ltOut (o w : Int × Int) : Bool := decide (o.1 < w.1) || (decide (o.1 = w.1) && decide (o.2 < w.2))
def riseG : List (Int × Int) → Bool
  | a :: b :: l => ltOut a b && riseG (b :: l)
  | _ => true
def closG (n : Nat) (must says : Int → Int → Bool) : Bool :=
  (List.range n).all fun a : Nat => (List.range n).all fun b : Nat =>
    ((List.range n).all fun c : Nat => !((says a b && says b c) && (!decide (a = c) && !says a c))) && !(!decide (a = b) && (must a b && !says a b))
def outsG (g : GrD) : Bool :=
  (g.outs.all (inOut g.lv) && riseG g.outs) && closG g.lv.toNat (mustG (g.tys.take (g.pn.toNat + 1))) (saysG g.outs)
noncomputable def tyG (u : UnD) (g : GrD) (i : Nat) (t : TyD) : Bool :=
  mayB u.ss t && (regsT t).all fun r => !(decide (r < (if (i : Int) ≤ g.pn then 0 else -1)) || decide (g.lv ≤ r))
noncomputable def tysG (u : UnD) (g : GrD) : Nat → List TyD → Bool
  | _, [] => true
  | i, t :: l => tyG u g i t && tysG u g (i + 1) l
def loansG (l : List PtD) : Nat := l.countP fun p => decide (p.op = 4)
noncomputable def headG (u : UnD) (fn : Nat) (g : GrD) : Bool :=
  ((((((decide (0 ≤ g.lv) && decide (g.lv ≤ 8)) && (decide (0 ≤ g.pn) && decide (g.pn ≤ 8))) && (decide (g.pn < g.tys.length) && decide (g.tys.length ≤ 512))) && decide (g.nms.length = g.tys.length)) &&
    tysG u g 0 g.tys) && ((decide (1 ≤ g.pts.length) && decide (g.pts.length ≤ 1024)) && outsG g)) &&
    (decide (loansG g.pts ≤ 256) && (!decide ((fn : Int) = u.mn) || ((decide (g.lv = 0) && decide (g.pn = 0)) && isK (g.tys.headD zeroD) 1)))
/-! ### A unit -/

noncomputable def headsG (u : UnD) : Nat → List GrD → Option Nat
  | _, [] => none
  | i, g :: l => if headG u i g then headsG u (i + 1) l else some i
noncomputable def badPt (u : UnD) (g : GrD) : Nat → List PtD → Option Nat
  | _, [] => none
  | q, p :: l => if pointG u g p then badPt u g (q + 1) l else some q
noncomputable def badG (u : UnD) : Nat → List GrD → Option (Nat × Nat)
  | _, [] => none
  | i, g :: l => match badPt u g 0 g.pts with | some q => some (i, q) | none => badG u (i + 1) l
noncomputable def checkG (u : UnD) : Int × Int × Int :=
  if !decide ((structsT u.ss).2 = 0) || (decide (u.fs.length < 1) || decide (32 < u.fs.length)) || (decide (u.mn < 0) || decide ((u.fs.length : Int) ≤ u.mn)) then (-1, -1, 100)
  else match headsG u 0 u.fs with
    | some i => (i, -1, 100)
    | none => match badG u 0 u.fs with
      | some (i, q) => (i, q, 100)
      | none => (0, 0, 0)
noncomputable def mayU (u : UnD) : Bool := decide ((checkG u).2.2 = 0)
end Go.Proofs
end

section
namespace Go.Proofs

open Go.Sh

set_option linter.unusedVariables false

theorem look_mono : ∀ {n : Nat} {s s' : Int} {m : Nat} {t : TyD}, lookB s n t = true → n ≤ m → s ≤ s' → lookB s' m t = true := by
  intro n
  induction n with
  | zero => intro s s' m t h; cases h
  | succ n ih =>
    intro s s' m t h hm hs
    obtain ⟨m, rfl⟩ : ∃ k, m = k + 1 := ⟨m - 1, by omega⟩
    have inn : inB s n t = true → inB s' m t = true := by
      intro hi
      cases t with
      | mk k mm re st of =>
        cases of with
        | nil => cases hi
        | cons u l => exact ih (t := u) hi (by omega) hs
    rw [lookB_succ] at h ⊢
    split
    · rename_i h1; rw [if_pos h1] at h; exact h
    · rename_i h1; rw [if_neg h1] at h
      split
      · rename_i h2; rw [if_pos h2] at h
        simp only [Bool.and_eq_true, decide_eq_true_eq] at h ⊢
        exact ⟨h.1, by omega⟩
      · rename_i h2; rw [if_neg h2] at h
        split
        · rename_i h3; rw [if_pos h3] at h
          simp only [Bool.and_eq_true, decide_eq_true_eq] at h ⊢
          exact ⟨h.1, h.2.1, inn h.2.2⟩
        · rename_i h3; rw [if_neg h3] at h
          split
          · rename_i h4; rw [if_pos h4] at h
            simp only [Bool.and_eq_true, decide_eq_true_eq] at h ⊢
            exact ⟨h.1, h.2.1, inn h.2.2⟩
          · rename_i h4; rw [if_neg h4] at h; cases h
/-- a type that may be among the structs, somewhere within one that may -/
def Fine (ss : List StD) (t : TyD) : Prop := lookB ss.length 48 t = true
theorem Fine.is {ss : List StD} {t : TyD} (h : Fine ss t) (hs : ss.length ≤ 32) : isB t = true := look_mono h (Nat.le_refl _) (by omega)
theorem Fine.cases {ss : List StD} {t : TyD} (h : Fine ss t) : (t.of = [] ∧ (t.k = 1 ∨ t.k = 2 ∨ t.k = 5)) ∨ ∃ u, t.of = [u] ∧ Fine ss u ∧ (t.k = 3 ∨ t.k = 4) := by
  rcases look_cases h with h | ⟨u, h1, h2, h3⟩
  · exact .inl h
  · exact .inr ⟨u, h1, look_mono h2 (by omega) (Int.le_refl _), h3⟩
theorem Fine.st {ss : List StD} {t : TyD} (h : Fine ss t) (hk : t.k = 5) : 0 ≤ t.st ∧ t.st < ss.length := by
  have := look_st h hk
  exact ⟨this.1, this.2.1⟩
theorem step_fine {ss : List StD} (hg : Good ss) {s : TyD × Int} {k : Int} {s' : TyD × Int} (h : Fine ss s.1) (e : stepG ss s k = some s') : Fine ss s'.1 := by
  have inside : ∀ {f : TyD → TyD × Int}, (∀ u, (f u).1 = u) → s.1.of.head?.map f = some s' → Fine ss s'.1 := by
    intro f hf e
    rcases h.cases with ⟨h1, _⟩ | ⟨u, h1, h2, _⟩
    · rw [h1] at e; cases e
    · rw [h1] at e
      obtain rfl := Option.some.inj e
      rw [hf]; exact h2
  unfold stepG at e
  split at e
  · exact inside (fun _ => rfl) e
  split at e
  · exact inside (fun _ => rfl) e
  split at e
  · rename_i h3
    cases hu : (tysAt ss s.1.st)[k.toNat]? with
    | none => rw [hu] at e; cases e
    | some u =>
      rw [hu] at e
      obtain rfl := Option.some.inj e
      exact hg _ u (List.mem_of_getElem? hu)
  · cases e
theorem go_fine {ss : List StD} (hg : Good ss) : ∀ {l : List Int} {s s' : TyD × Int}, Fine ss s.1 → goG ss l s = some s' → Fine ss s'.1
  | [], s, s', h, e => by obtain rfl := Option.some.inj e; exact h
  | k :: l, s, s', h, e => by
    rw [goG] at e
    cases hs : stepG ss s k with
    | none => rw [hs] at e; cases e
    | some s2 => rw [hs] at e; exact go_fine hg (step_fine hg h hs) e
/-- what a graph's head promises of its locals -/
structure FineU (ss : List StD) (tys : List TyD) : Prop where
  few : ss.length ≤ 32
  good : Good ss
  acy : ∀ k, ¬ Rch ss k k
  all : ∀ t ∈ tys, Fine ss t
theorem spot_fine {ss : List StD} {tys : List TyD} (h : FineU ss tys) {p : PlD} (ho : (spotG ss tys p).2.2 = true) : Fine ss (spotG ss tys p).1 := by
  unfold spotG at ho ⊢
  cases hb : (if p.l < 0 then none else tys[p.l.toNat]?).bind fun t => goG ss p.ps (t, 0) with
  | none => rw [hb] at ho; cases ho
  | some s =>
    show Fine ss s.1
    split at hb
    · cases hb
    · cases ht : tys[p.l.toNat]? with
      | none => rw [ht] at hb; cases hb
      | some t =>
        rw [ht] at hb
        exact go_fine h.good (h.all t (List.mem_of_getElem? ht)) hb
end Go.Proofs
end

section
namespace Go.Proofs

open Go.Sh

set_option linter.unusedVariables false

mutual

/-- each region turned -/
def TyD.mapR (f : Int → Int) : TyD → TyD
  | .mk k m re st of => .mk k m (if k = 4 then f re else re) st (TyD.mapsR f of)
def TyD.mapsR (f : Int → Int) : List TyD → List TyD
  | [] => []
  | t :: l => TyD.mapR f t :: TyD.mapsR f l
end

theorem mapR_nil {f : Int → Int} {t : TyD} (h : t.of = []) : t.mapR f = .mk t.k t.m (if t.k = 4 then f t.re else t.re) t.st [] := by
  cases t with | mk k m re st of => cases h; rfl
theorem mapR_one {f : Int → Int} {t u : TyD} (h : t.of = [u]) : t.mapR f = .mk t.k t.m (if t.k = 4 then f t.re else t.re) t.st [u.mapR f] := by
  cases t with | mk k m re st of => cases h; rfl
def inR (n : Nat) (x : Int) : Bool := decide (0 ≤ x) && decide (x < n)
def atL (l : List Int) (x : Int) : Int := l.getD x.toNat 0
/-- what Turn tells -/
def turnB (t : TyD) (l : List Int) : Bool := isB t && t.regs.all (inR l.length)
def turnT (t : TyD) (l : List Int) : TyD × Int := if turnB t l then (t.mapR (atL l), 0) else (zeroD, 2)
def fBare (_ : Int) : Int := -1
def eraseT (t : TyD) : TyD × Int := if isB t then (t.mapR fBare, 0) else (zeroD, 2)
/-! ### Regions numbered -/

/-- regions that have no number get some, from c on -/
def numK : List Int → Int → List Int
  | [], _ => []
  | k :: l, c => if k < 0 then c :: numK l (c + 1) else k :: numK l c
def numC : List Int → Int
  | [] => 0
  | k :: l => (if k < 0 then 1 else 0) + numC l
theorem numK_len : ∀ (l : List Int) (c : Int), (numK l c).length = l.length
  | [], _ => rfl
  | k :: l, c => by
    rw [numK]; split <;> simp [numK_len l]
theorem numC_le : ∀ l : List Int, 0 ≤ numC l ∧ numC l ≤ l.length
  | [] => by simp [numC]
  | k :: l => by
    have := numC_le l
    rw [numC, List.length_cons]
    split <;> omega
def locK : List TyD → Int → List TyD
  | [], _ => []
  | t :: l, c => t.lay (numK (regsT t) c) :: locK l (c + numC (regsT t))
def locC : List TyD → Int
  | [] => 0
  | t :: l => numC (regsT t) + locC l
theorem locK_len : ∀ (l : List TyD) (c : Int), (locK l c).length = l.length
  | [], _ => rfl
  | t :: l, c => by rw [locK, List.length_cons, locK_len l, List.length_cons]
def lvOf (u : UnD) (fn : Int) : Int := match u.fs[fn.toNat]? with | some g => g.lv | none => 0
def ptN (u : UnD) (p : PtD) : Int := if p.op = 4 then 1 else if p.op = 7 then lvOf u p.fn else 0
def atK (u : UnD) : List PtD → Int → List Int
  | [], _ => []
  | p :: l, c => (if ptN u p = 0 then -1 else c) :: atK u l (c + ptN u p)
def atC (u : UnD) : List PtD → Int
  | [] => 0
  | p :: l => ptN u p + atC u l
theorem atK_len (u : UnD) : ∀ (l : List PtD) (c : Int), (atK u l c).length = l.length
  | [], _ => rfl
  | p :: l, c => by rw [atK, List.length_cons, atK_len u l, List.length_cons]
structure RgD where
  lv : Int
  pt : Int
  ct : Int
  tys : List TyD
  at' : List Int
def zeroRg : RgD := ⟨0, 0, 0, [], []⟩
def allD (u : UnD) (g : GrD) : RgD := ⟨g.lv, g.pts.length, g.lv + locC g.tys + atC u g.pts, locK g.tys g.lv, atK u g.pts (g.lv + locC g.tys)⟩
/-- there is a function of that number in a unit that may be, and a point -/
noncomputable def isU (u : UnD) (fn q : Int) : Bool := (decide (0 ≤ fn) && decide (fn < u.fs.length)) && (mayU u && decide (q < ((u.fs[fn.toNat]?.map fun g => (g.pts.length : Int)).getD 0)))
noncomputable def allT (u : UnD) (fn q : Int) : RgD × Int :=
  if isU u fn q then (match u.fs[fn.toNat]? with | some g => (allD u g, 0) | none => (zeroRg, 2)) else (zeroRg, 2)
def fewT (x : RgD × Int) : RgD × Int := if x.2 = 0 then (if 512 < x.1.ct then (zeroRg, 5) else x) else (zeroRg, x.2)
def RgG (r : Gh) (v : Value) (d : RgD) : Prop := ∃ vl va, v = .agg #[.int .i64 d.lv, .int .i64 d.pt, .int .i64 d.ct, vl, va] ∧ SlG 5 r (TyC r) vl d.tys ∧ SlG 1 r IntC va d.at'
theorem RgG.up {r s : Gh} {v : Value} {d : RgD} (h : RgG r v d) [l : Le r s] : RgG s v d := by
  obtain ⟨vl, va, h0, h1, h2⟩ := h
  exact ⟨vl, va, h0, h1.up' l fun _ _ h => TyG.up h, h2.cells⟩
theorem RgG.zero {r : Gh} : RgG r (.agg #[.int .i64 0, .int .i64 0, .int .i64 0, .slice none 0 0, .slice none 0 0]) zeroRg := ⟨_, _, rfl, SlG.nil, SlG.nil⟩
/-! ### A place among regions -/

/-! ### What has been met -/

end Go.Proofs
end

section
namespace Go.Proofs

open Go.Sh

set_option linter.unusedVariables false

theorem isB_in {t u : TyD} (h : isB t = true) (ho : t.of = [u]) : isB u = true := by
  rcases look_cases (n := 47) h with ⟨h1, _⟩ | ⟨x, h1, h2, _⟩
  · rw [h1] at ho; cases ho
  · rw [h1] at ho; cases ho; exact look_mono h2 (by omega) (Int.le_refl _)
theorem isB_cases {t : TyD} (h : isB t = true) : t.of = [] ∨ ∃ u, t.of = [u] ∧ isB u = true := by
  rcases look_cases (n := 47) h with ⟨h1, _⟩ | ⟨u, h1, _⟩
  · exact .inl h1
  · exact .inr ⟨u, h1, isB_in h h1⟩
theorem turn_no {t : TyD} {l : List Int} (h : isB t = false) : turnT t l = (zeroD, 2) := by rw [turnT, turnB, h]; rfl
theorem map_in {f : Int → Int} {t u : TyD} (ho : t.of = [u]) : t.mapR f = .mk t.k t.m (if t.k = 4 then f t.re else t.re) t.st [u.mapR f] := mapR_one ho
theorem regs_ref {t : TyD} (hk : t.k = 4) : t.re ∈ t.regs := by
  rw [TyD.regs_eq, if_pos hk]; exact List.mem_append_left _ (List.mem_singleton.2 rfl)
theorem regs_sub {t u : TyD} (ho : t.of = [u]) {x : Int} (h : x ∈ u.regs) : x ∈ t.regs := by
  rw [regs_one ho]; exact List.mem_append_right _ h
end Go.Proofs
end

section
namespace Go.Proofs

open Go.Sh

set_option maxRecDepth 100000

set_option linter.unusedSimpArgs false

set_option linter.unusedVariables false

instance {P : Program} {t e ty : TypeId} {a b : Int} : PStep P (Builtin.max_ #[t, e] ty #[.int .i64 a, .int .i64 b]) (.int .i64 (max a b)) := ⟨fun w => Lib.run_max_ints w _ _ _ _ _ _⟩
instance (priority := low) {P : Program} {t : TypeId} {c : Bool} {x : ByteArray} {m : List UInt8} : PStep P (bsem .eql t c (.string x) (.string (bs m))) (.bool (x.toList == m)) := .of fun _ k =>
  p_of (fun w => by rw [run_bsem trivial, binOp_string_eql, bs_toList m]; rfl) k
theorem w_q1 {P : Program} {w : World} {s : Sem Value} {K : Value → World → Prop} (h : opQ P w s fun v => K v w) : opW P w s K := w_q (by
  obtain ⟨v, h1, h2⟩ := h
  exact ⟨v, h1, h2⟩)
theorem SlB.lt {α : Type} {sz : Nat} {r : Gh} {R : List Value → α → Prop} {v : Value} {l : List α} (h : SlB sz r R v l) : l.length ≤ 9223372036854775807 := h.few
theorem nat_eq_zero {a : Nat} : decide ((a : Int) = 0) = decide (a = 0) := decide_eq_decide.2 (by omega)
theorem c_graph_zero {p : PlD} {c : List Value} {w : World} {r : Gh} {K : Value → World → Prop} (hr : Holds r w) (hp : PlG r c p) (h : ∀ w', Ext w w' → K (.bool (zeroP p)) w') :
    oCall Try.prog Try.n_graph_zero #[.agg c.toArray] w K := by
  obtain ⟨v, rfl, hl⟩ := hp
  obtain ⟨q, cap, rfl, _, _⟩ := hl.sl.shape
  refine Try.ok_graph_zero ?_
  unfold Try.F_graph_zero
  have S := St.start hr
  refine S.box fun b1 w1 S => ?_
  (repeat (first | refine s_p ?_ | refine s_c (by omega) ?_ | refine S.ld ?_ | refine S.ldB ?_ | refine S.ce ?_ | refine S.ceB ?_ | refine s_q ?_ | refine s_qc (by omega) ?_ | refine n_some ?_ | rw [List.getD_cons_zero] | rw [List.getD_cons_succ]))
  refine j_bandH (c := decide (p.ps.length = 0)) (fun _ K2 hK2 => ?_) ?_
  · (repeat (first | refine s_p ?_ | refine s_c (by omega) ?_ | refine S.ld ?_ | refine S.ldB ?_ | refine S.ce ?_ | refine S.ceB ?_ | refine s_q ?_ | refine s_qc (by omega) ?_ | refine n_some ?_ | rw [List.getD_cons_zero] | rw [List.getD_cons_succ]))
    rw [nat_eq_zero]
    exact hK2
  exact h _ S.ext
/-- what an asker holds -/
def AskG (r : Gh) (v : Value) (u : UnD) (g : GrD) : Prop := ∃ p cap vf vo vt vn vp, v = .agg #[.slice p u.ss.length cap, vf, .int .i64 u.mn, .string g.name, .int .i64 g.lv, vo, .int .i64 g.pn, vt, vn, vp] ∧
  UnG r (.agg #[.slice p u.ss.length cap, vf, .int .i64 u.mn]) u ∧ GrG r [.string g.name, .int .i64 g.lv, vo, .int .i64 g.pn, vt, vn, vp] g
theorem AskG.up {r s : Gh} {v : Value} {u : UnD} {g : GrD} (h : AskG r v u g) [l : Le r s] : AskG s v u g := by
  obtain ⟨p, cap, vf, vo, vt, vn, vp, h0, h1, h2⟩ := h
  exact ⟨p, cap, vf, vo, vt, vn, vp, h0, h1.up, h2.up⟩
abbrev tyL (t : TyD) (q : Option Addr) (cap : Nat) : List Value := [.int .u8 t.k, .bool t.m, .int .i64 t.re, .int .i64 t.st, .slice q t.of.length cap]
abbrev tyV (t : TyD) (q : Option Addr) (cap : Nat) : Value := .agg #[.int .u8 t.k, .bool t.m, .int .i64 t.re, .int .i64 t.st, .slice q t.of.length cap]
abbrev spL (t : TyD) (q : Option Addr) (cap : Nat) (m : Int) (ok : Bool) : List Value := [.int .u8 t.k, .bool t.m, .int .i64 t.re, .int .i64 t.st, .slice q t.of.length cap, .int .i64 m, .bool ok]
abbrev spV (t : TyD) (q : Option Addr) (cap : Nat) (m : Int) (ok : Bool) : Value := .agg #[.int .u8 t.k, .bool t.m, .int .i64 t.re, .int .i64 t.st, .slice q t.of.length cap, .int .i64 m, .bool ok]
theorem ty_form {r : Gh} {c : List Value} {t : TyD} (h : TyG r (.agg c.toArray) t) : ∃ q cap, c = tyL t q cap ∧ TyG r (tyV t q cap) t := by
  obtain ⟨p, cap, h1, _⟩ := cells_of h
  subst h1
  exact ⟨p, cap, rfl, h⟩
/-- what a type has inside -/
theorem ty_in {r : Gh} {s uu : TyD} {q : Option Addr} {cap : Nat} (h : TyG r (tyV s q cap) s) (hof : s.of = [uu]) : ∃ b off q2 cap2, q = some ⟨b, off, none⟩ ∧ TyG r (tyV uu q2 cap2) uu ∧ ∀ j v, (tyL uu q2 cap2)[j]? = some v → Ob r fun w => w.cell? ⟨b, off + j, none⟩ = some v := by
  obtain ⟨_, _, hE, _, _, hreps⟩ := h
  cases hE
  obtain ⟨b, off, rfl, c, h1, h2, h3⟩ := NdG.of hreps (i := 0) (by rw [hof]; exact Nat.one_pos)
  have h3 : TyG r (.agg c.toArray) uu := by simpa [hof] using h3
  obtain ⟨q2, cap2, rfl, ht⟩ := ty_form h3
  exact ⟨b, off, q2, cap2, rfl, ht, by simpa using h2⟩
theorem goG_append (ss : List StD) : ∀ (l : List Int) (k : Int) (s : TyD × Int), goG ss (l ++ [k]) s = (goG ss l s).bind fun s' => stepG ss s' k
  | [], k, s => by
    show (stepG ss s k).bind (goG ss []) = stepG ss s k
    cases stepG ss s k <;> rfl
  | x :: l, k, s => by
    rw [List.cons_append, goG, goG]
    cases h : stepG ss s x with
    | none => rfl
    | some s' => exact goG_append ss l k s'
theorem goG_none {ss : List StD} : ∀ {l m : List Int} {s : TyD × Int}, goG ss l s = none → goG ss (l ++ m) s = none
  | [], m, s, h => by cases h
  | x :: l, m, s, h => by
    rw [List.cons_append, goG]
    rw [goG] at h
    cases hs : stepG ss s x with
    | none => rfl
    | some s' => rw [hs] at h; exact goG_none (l := l) (m := m) h
theorem spot_none {ss : List StD} {tys : List TyD} {p : PlD} {t : TyD} {i : Nat} (h0 : 0 ≤ p.l) (ht : tys[p.l.toNat]? = some t) (h : goG ss (p.ps.take i) (t, 0) = none) : spotG ss tys p = (zeroD, 0, false) := by
  have := goG_none (m := p.ps.drop i) h
  rw [List.take_append_drop] at this
  unfold spotG
  rw [if_neg (by omega), ht]
  show (match goG ss p.ps (t, 0) with | some s => (s.1, s.2, decide (p.ps.length ≤ 8)) | none => (zeroD, 0, false)) = _
  rw [this]
theorem spot_some {ss : List StD} {tys : List TyD} {p : PlD} {t : TyD} {s : TyD × Int} (h0 : 0 ≤ p.l) (ht : tys[p.l.toNat]? = some t) (h : goG ss p.ps (t, 0) = some s) : spotG ss tys p = (s.1, s.2, decide (p.ps.length ≤ 8)) := by
  unfold spotG
  rw [if_neg (by omega), ht]
  show (match goG ss p.ps (t, 0) with | some s => (s.1, s.2, decide (p.ps.length ≤ 8)) | none => (zeroD, 0, false)) = _
  rw [h]
theorem spot_out {ss : List StD} {tys : List TyD} {p : PlD} (h : p.l < 0 ∨ (tys.length : Int) ≤ p.l) : spotG ss tys p = (zeroD, 0, false) := by
  unfold spotG
  by_cases h0 : p.l < 0
  · rw [if_pos h0]; rfl
  · rw [if_neg h0, List.getElem?_eq_none (by omega)]; rfl
set_option maxHeartbeats 1000000 in
theorem c_graph_asker_spot {u : UnD} {g : GrD} {p : PlD} {c : List Value} {v : Value} {w : World} {r : Gh} {K : Value → World → Prop} {t : TyD} {m : Int} {ok : Bool} (hr : Holds r w) (hx : AskG r v u g) (hf : FineU u.ss g.tys) (hp : PlG r c p) (hsp : spotG u.ss g.tys p = (t, m, ok))
    (h : ∀ q cap w', Ext w w' → TyG r (tyV t q cap) t → K (spV t q cap m ok) w') : oCall Try.prog Try.n_graph_asker_spot #[v, .agg c.toArray] w K := by
  obtain ⟨p0, cap0, vf, vo, vt, vn, vp, rfl, hu, hg⟩ := hx
  obtain ⟨_, _, _, _, hE, _, htys, _, _⟩ := hg
  cases hE
  obtain ⟨_, _, _, hE, _, _, hst, _, _⟩ := hu
  cases hE
  obtain ⟨qt, capt, rfl, _, _⟩ := htys.sl.shape
  obtain ⟨v, rfl, hl⟩ := hp
  obtain ⟨qs, caps, rfl, _, _⟩ := hl.sl.shape
  have hbl := hl.lt
  refine Try.ok_graph_asker_spot ?_
  unfold Try.F_graph_asker_spot
  have S := St.start hr
  refine S.box fun b2 w1 S => ?_
  refine S.box fun b3 w2 S => ?_
  refine S.al fun b4 w3 S => ?_
  (repeat (first | refine s_p ?_ | refine s_c (by omega) ?_ | refine S.ld ?_ | refine S.ldB ?_ | refine S.ce ?_ | refine S.ceB ?_ | refine s_q ?_ | refine s_qc (by omega) ?_ | refine n_some ?_ | rw [List.getD_cons_zero] | rw [List.getD_cons_succ]))
  refine j_borH (c := decide ((g.tys.length : Int) ≤ p.l)) (fun _ K2 hK2 => ?_) ?_
  · (repeat (first | refine s_p ?_ | refine s_c (by omega) ?_ | refine S.ld ?_ | refine S.ldB ?_ | refine S.ce ?_ | refine S.ceB ?_ | refine s_q ?_ | refine s_qc (by omega) ?_ | refine n_some ?_ | rw [List.getD_cons_zero] | rw [List.getD_cons_succ]))
    exact hK2
  refine c_b (fun ho => ?_) (fun hi => ?_)
  · have hz := spot_out (ss := u.ss) (tys := g.tys) (p := p) (by simpa using ho)
    rw [hz] at hsp; cases hsp
    refine p_build (cs := #[.int .u8 0, .bool false, .int .i64 0, .int .i64 0, .slice none 0 0, .int .i64 0, .bool false]) (by kernel_rfl) ?_
    refine S.stB (b := b4) fun w5 S => ?_
    (repeat (first | refine s_p ?_ | refine s_c (by omega) ?_ | refine S.ld ?_ | refine S.ldB ?_ | refine S.ce ?_ | refine S.ceB ?_ | refine s_q ?_ | refine s_qc (by omega) ?_ | refine n_some ?_ | rw [List.getD_cons_zero] | rw [List.getD_cons_succ]))
    exact h none 0 _ S.ext ty_leaf
  have hlo : 0 ≤ p.l ∧ p.l < g.tys.length := by
    simp only [Bool.or_eq_false_iff, decide_eq_false_iff_not] at hi; omega
  clear hi
  have hlt0 : p.l.toNat < g.tys.length := by omega
  obtain ⟨bt, ot, ct, rfl, hct, htc, hcell⟩ := htys.sl.get (by decide) hlt0
  obtain ⟨t0, hti⟩ : ∃ t0, g.tys[p.l.toNat] = t0 := ⟨_, rfl⟩
  rw [hti] at htc
  have hq : g.tys[p.l.toNat]? = some t0 := by rw [List.getElem?_eq_getElem hlt0, hti]
  have hfi : Fine u.ss t0 := hf.all _ (List.mem_of_getElem? hq)
  obtain ⟨q0, cap1, rfl, ht0⟩ := ty_form htc
  have S := S.go (Ext.drew _)
  (repeat (first | refine s_p ?_ | refine s_c (by omega) ?_ | refine S.ld ?_ | refine S.ldB ?_ | refine S.ce ?_ | refine S.ceB ?_ | refine s_q ?_ | refine s_qc (by omega) ?_ | refine n_some ?_ | rw [List.getD_cons_zero] | rw [List.getD_cons_succ]))
  refine s_ldN (n := 5) hct (fun j v hj => S.at (hcell j v hj)) ?_
  (repeat (first | refine s_p ?_ | refine s_c (by omega) ?_ | refine S.ld ?_ | refine S.ldB ?_ | refine S.ce ?_ | refine S.ceB ?_ | refine s_q ?_ | refine s_qc (by omega) ?_ | refine n_some ?_ | rw [List.getD_cons_zero] | rw [List.getD_cons_succ]))
  refine S.alU fun b5 w10 S => ?_
  refine S.stB (b := b5) fun w11 S => ?_
  (repeat (first | refine s_p ?_ | refine s_c (by omega) ?_ | refine S.ld ?_ | refine S.ldB ?_ | refine S.ce ?_ | refine S.ceB ?_ | refine s_q ?_ | refine s_qc (by omega) ?_ | refine n_some ?_ | rw [List.getD_cons_zero] | rw [List.getD_cons_succ]))
  have hok : decide (p.ps.length ≤ 8) = decide ((p.ps.length : Int) ≤ 8) := decide_eq_decide.2 (by omega)
  refine l_intro (ι := Nat × TyD × Int × Option Addr × Nat) (fun i => [.int .i64 (i.1 : Nat)]) (fun i w' => i.1 ≤ p.ps.length ∧ goG u.ss (p.ps.take i.1) (t0, 0) = some (i.2.1, i.2.2.1) ∧ TyG r (tyV i.2.1 i.2.2.2.1 i.2.2.2.2) i.2.1 ∧
    StX noX w r w' [.cell b5 (spL i.2.1 i.2.2.2.1 i.2.2.2.2 i.2.2.1 (decide ((p.ps.length : Int) ≤ 8))) 99, .cell b4 [.int .u8 0, .bool false, .int .i64 0, .int .i64 0, .slice none 0 0, .int .i64 0, .bool false] 99, .cell b3 [.int .i64 p.l, .slice qs p.ps.length caps] 58,
      .cell b2 [.slice p0 u.ss.length cap0, vf, .int .i64 u.mn, .string g.name, .int .i64 g.lv, vo, .int .i64 g.pn, .slice (some ⟨bt, ot, none⟩) g.tys.length capt, vn, vp] 101]) (fun i => p.ps.length - i.1) (0, t0, 0, q0, cap1) rfl ⟨Nat.zero_le _, rfl, ht0, S⟩ ?_
  clear S
  rintro ⟨i, s, m', q, cap⟩ d w15 ⟨hi, hgo, hs, S⟩ K6 hK6
  simp only at hi hgo hs S ⊢
  rw [List.getD_cons_zero]
  (repeat (first | refine s_p ?_ | refine s_c (by omega) ?_ | refine S.ld ?_ | refine S.ldB ?_ | refine S.ce ?_ | refine S.ceB ?_ | refine s_q ?_ | refine s_qc (by omega) ?_ | refine n_some ?_ | rw [List.getD_cons_zero] | rw [List.getD_cons_succ]))
  refine c_b (fun hlt => ?_) (fun hge => ?_)
  rotate_left
  · have hie : i = p.ps.length := by
      have := of_decide_eq_false hge; omega
    rw [hie, List.take_length] at hgo
    rw [spot_some hlo.1 hq hgo, hok] at hsp
    cases hsp
    (repeat (first | refine s_p ?_ | refine s_c (by omega) ?_ | refine S.ld ?_ | refine S.ldB ?_ | refine S.ce ?_ | refine S.ceB ?_ | refine s_q ?_ | refine s_qc (by omega) ?_ | refine n_some ?_ | rw [List.getD_cons_zero] | rw [List.getD_cons_succ]))
    refine S.stB (b := b4) fun w16 S => ?_
    (repeat (first | refine s_p ?_ | refine s_c (by omega) ?_ | refine S.ld ?_ | refine S.ldB ?_ | refine S.ce ?_ | refine S.ceB ?_ | refine s_q ?_ | refine s_qc (by omega) ?_ | refine n_some ?_ | rw [List.getD_cons_zero] | rw [List.getD_cons_succ]))
    exact h _ _ _ S.ext hs
  have hlt : i < p.ps.length := by simpa using hlt
  have hsf : Fine u.ss s := go_fine hf.good hfi hgo
  obtain ⟨k, hke⟩ : ∃ k, p.ps[i] = k := ⟨_, rfl⟩
  obtain ⟨bs, os, cs, rfl, hcs, hck, hcl⟩ := hl.sl.get (by decide) hlt
  rw [hke] at hck
  obtain ⟨rfl, hin⟩ := hck
  have hstep : goG u.ss (p.ps.take (i + 1)) (t0, 0) = stepG u.ss (s, m') k := by
    rw [List.take_succ_eq_append_getElem hlt, goG_append, hgo, hke]; rfl
  refine j_intro (fun _ w' => ∃ s' m2 q' cap', stepG u.ss (s, m') k = some (s', m2) ∧ TyG r (tyV s' q' cap') s' ∧
    StX noX w r w' [.cell b5 (spL s' q' cap' m2 (decide ((p.ps.length : Int) ≤ 8))) 99, .cell b4 [.int .u8 0, .bool false, .int .i64 0, .int .i64 0, .slice none 0 0, .int .i64 0, .bool false] 99, .cell b3 [.int .i64 p.l, .slice (some ⟨bs, os, none⟩) p.ps.length caps] 58,
      .cell b2 [.slice p0 u.ss.length cap0, vf, .int .i64 u.mn, .string g.name, .int .i64 g.lv, vo, .int .i64 g.pn, .slice (some ⟨bt, ot, none⟩) g.tys.length capt, vn, vp] 101]) (fun K16 hK16 => ?_) ?_
  rotate_left
  · rintro _ w19 ⟨s', m2, q', cap', h1, h2, S⟩ d2
    (repeat (first | refine s_p ?_ | refine s_c (by omega) ?_ | refine S.ld ?_ | refine S.ldB ?_ | refine S.ce ?_ | refine S.ceB ?_ | refine s_q ?_ | refine s_qc (by omega) ?_ | refine n_some ?_ | rw [List.getD_cons_zero] | rw [List.getD_cons_succ]))
    rw [show ((i : Int) + 1) = ((i + 1 : Nat) : Int) by omega]
    exact hK6 (i + 1, s', m2, q', cap') _ ⟨hlt, hstep.trans h1, h2, S⟩ (by show p.ps.length - (i + 1) < p.ps.length - i; omega)
  (repeat (first | refine s_p ?_ | refine s_c (by omega) ?_ | refine S.ld ?_ | refine S.ldB ?_ | refine S.ce ?_ | refine S.ceB ?_ | refine s_q ?_ | refine s_qc (by omega) ?_ | refine n_some ?_ | rw [List.getD_cons_zero] | rw [List.getD_cons_succ]))
  refine s_ld1 (v := .int .i64 k) (by simpa using S.at (hcl 0 _ rfl)) ?_
  (first | refine s_p ?_ | refine s_c (by omega) ?_)
  refine S.ldN (b := b5) ?_
  refine S.al fun b8 w20 S => ?_
  refine S.stB (b := b8) fun w21 S => ?_
  (repeat (first | refine s_p ?_ | refine s_c (by omega) ?_ | refine S.ld ?_ | refine S.ldB ?_ | refine S.ce ?_ | refine S.ceB ?_ | refine s_q ?_ | refine s_qc (by omega) ?_ | refine n_some ?_ | rw [List.getD_cons_zero] | rw [List.getD_cons_succ]))
  refine j_bandH (c := decide (s.k = 3)) (fun _ K2 hK2 => ?_) ?_
  · (repeat (first | refine s_p ?_ | refine s_c (by omega) ?_ | refine S.ld ?_ | refine S.ldB ?_ | refine S.ce ?_ | refine S.ceB ?_ | refine s_q ?_ | refine s_qc (by omega) ?_ | refine n_some ?_ | rw [List.getD_cons_zero] | rw [List.getD_cons_succ]))
    exact hK2
  have down : (s.k = 3 ∨ s.k = 4) → ∃ uu, s.of = [uu] := by
    intro hk
    rcases hsf.cases with ⟨_, h1⟩ | ⟨uu, h1, _⟩
    · omega
    · exact ⟨uu, h1⟩
  refine c_b (fun hB => ?_) (fun hB => ?_)
  · obtain ⟨hk1, hk3⟩ : k = -1 ∧ s.k = 3 := by simpa using hB
    obtain ⟨uu, hof⟩ := down (.inl hk3)
    obtain ⟨bo, oo, q2, cap2, rfl, ht2, hcc⟩ := ty_in hs hof
    have hl1 : s.of.length = 1 := by rw [hof]; rfl
    (repeat (first | refine s_p ?_ | refine s_c (by omega) ?_ | refine S.ld ?_ | refine S.ldB ?_ | refine S.ce ?_ | refine S.ceB ?_ | refine s_q ?_ | refine s_qc (by omega) ?_ | refine n_some ?_ | rw [List.getD_cons_zero] | rw [List.getD_cons_succ]))
    refine S.st (b := b5) fun w26 S => ?_
    (repeat (first | refine s_p ?_ | refine s_c (by omega) ?_ | refine S.ld ?_ | refine S.ldB ?_ | refine S.ce ?_ | refine S.ceB ?_ | refine s_q ?_ | refine s_qc (by omega) ?_ | refine n_some ?_ | rw [List.getD_cons_zero] | rw [List.getD_cons_succ]))
    refine s_ldN (n := 5) (c := tyL uu q2 cap2) rfl (fun j v hj => by simpa using S.at (hcc j v hj)) ?_
    (repeat (first | refine s_p ?_ | refine s_c (by omega) ?_ | refine S.ld ?_ | refine S.ldB ?_ | refine S.ce ?_ | refine S.ceB ?_ | refine s_q ?_ | refine s_qc (by omega) ?_ | refine n_some ?_ | rw [List.getD_cons_zero] | rw [List.getD_cons_succ]))
    refine S.stN (b := b5) fun w27 S => ?_
    refine hK16 [] _ ⟨uu, max m' 1, q2, cap2, ?_, ht2, S.drop b8⟩
    rw [stepG, if_pos ⟨hk1, hk3⟩, hof]; rfl
  have hB : ¬ (k = -1 ∧ s.k = 3) := by simpa using hB
  (repeat (first | refine s_p ?_ | refine s_c (by omega) ?_ | refine S.ld ?_ | refine S.ldB ?_ | refine S.ce ?_ | refine S.ceB ?_ | refine s_q ?_ | refine s_qc (by omega) ?_ | refine n_some ?_ | rw [List.getD_cons_zero] | rw [List.getD_cons_succ]))
  refine j_bandH (c := decide (s.k = 4)) (fun _ K2 hK2 => ?_) ?_
  · (repeat (first | refine s_p ?_ | refine s_c (by omega) ?_ | refine S.ld ?_ | refine S.ldB ?_ | refine S.ce ?_ | refine S.ceB ?_ | refine s_q ?_ | refine s_qc (by omega) ?_ | refine n_some ?_ | rw [List.getD_cons_zero] | rw [List.getD_cons_succ]))
    exact hK2
  refine c_b (fun hR => ?_) (fun hR => ?_)
  · obtain ⟨hk1, hk3⟩ : k = -1 ∧ s.k = 4 := by simpa using hR
    obtain ⟨uu, hof⟩ := down (.inr hk3)
    obtain ⟨bo, oo, q2, cap2, rfl, ht2, hcc⟩ := ty_in hs hof
    have hl1 : s.of.length = 1 := by rw [hof]; rfl
    refine j_intro (fun s' w' => s' = [.int .i64 (if s.m then 2 else 3)] ∧ w' = w21) (fun K7 hK7 => ?_) ?_
    · (repeat (first | refine s_p ?_ | refine s_c (by omega) ?_ | refine S.ld ?_ | refine S.ldB ?_ | refine S.ce ?_ | refine S.ceB ?_ | refine s_q ?_ | refine s_qc (by omega) ?_ | refine n_some ?_ | rw [List.getD_cons_zero] | rw [List.getD_cons_succ]))
      refine c_b (fun hm => hK7 _ _ ⟨by rw [hm]; rfl, rfl⟩) (fun hm => hK7 _ _ ⟨by rw [hm]; rfl, rfl⟩)
    rintro _ _ ⟨rfl, rfl⟩ d3
    (repeat (first | refine s_p ?_ | refine s_c (by omega) ?_ | refine S.ld ?_ | refine S.ldB ?_ | refine S.ce ?_ | refine S.ceB ?_ | refine s_q ?_ | refine s_qc (by omega) ?_ | refine n_some ?_ | rw [List.getD_cons_zero] | rw [List.getD_cons_succ]))
    refine S.st (b := b5) fun w26 S => ?_
    (repeat (first | refine s_p ?_ | refine s_c (by omega) ?_ | refine S.ld ?_ | refine S.ldB ?_ | refine S.ce ?_ | refine S.ceB ?_ | refine s_q ?_ | refine s_qc (by omega) ?_ | refine n_some ?_ | rw [List.getD_cons_zero] | rw [List.getD_cons_succ]))
    refine s_ldN (n := 5) (c := tyL uu q2 cap2) rfl (fun j v hj => by simpa using S.at (hcc j v hj)) ?_
    (repeat (first | refine s_p ?_ | refine s_c (by omega) ?_ | refine S.ld ?_ | refine S.ldB ?_ | refine S.ce ?_ | refine S.ceB ?_ | refine s_q ?_ | refine s_qc (by omega) ?_ | refine n_some ?_ | rw [List.getD_cons_zero] | rw [List.getD_cons_succ]))
    refine S.stN (b := b5) fun w27 S => ?_
    refine hK16 [] _ ⟨uu, max m' (if s.m then 2 else 3), q2, cap2, ?_, ht2, S.drop b8⟩
    rw [stepG, if_neg (by omega), if_pos ⟨hk1, hk3⟩, hof]; rfl
  have hR : ¬ (k = -1 ∧ s.k = 4) := by simpa using hR
  (repeat (first | refine s_p ?_ | refine s_c (by omega) ?_ | refine S.ld ?_ | refine S.ldB ?_ | refine S.ce ?_ | refine S.ceB ?_ | refine s_q ?_ | refine s_qc (by omega) ?_ | refine n_some ?_ | rw [List.getD_cons_zero] | rw [List.getD_cons_succ]))
  refine j_bandH (c := decide (s.k = 5)) (fun _ K2 hK2 => ?_) ?_
  · (repeat (first | refine s_p ?_ | refine s_c (by omega) ?_ | refine S.ld ?_ | refine S.ldB ?_ | refine S.ce ?_ | refine S.ceB ?_ | refine s_q ?_ | refine s_qc (by omega) ?_ | refine n_some ?_ | rw [List.getD_cons_zero] | rw [List.getD_cons_succ]))
    exact hK2
  refine j_bandH (c := decide (k < (tysAt u.ss s.st).length)) (fun h5 K2 hK2 => ?_) ?_
  · obtain ⟨hk0, hk5⟩ : 0 ≤ k ∧ s.k = 5 := by simpa using h5
    obtain ⟨hst0, hst1⟩ := hsf.st hk5
    have hslt : s.st.toNat < u.ss.length := by omega
    obtain ⟨b, off, q9, capq, rfl, hcell9, _, _, hfl⟩ := st_at hst hslt
    have hlen : (tysAt u.ss s.st).length = u.ss[s.st.toNat].fs.length := by
      rw [← tysAt_len hslt]; simp only [tysAt, Int.toNat_natCast]
    (repeat (first | refine s_p ?_ | refine s_c (by omega) ?_ | refine S.ld ?_ | refine S.ldB ?_ | refine S.ce ?_ | refine S.ceB ?_ | refine s_q ?_ | refine s_qc (by omega) ?_ | refine n_some ?_ | rw [List.getD_cons_zero] | rw [List.getD_cons_succ]))
    refine s_ld1 (S.at hcell9) ?_
    (repeat (first | refine s_p ?_ | refine s_c (by omega) ?_ | refine S.ld ?_ | refine S.ldB ?_ | refine S.ce ?_ | refine S.ceB ?_ | refine s_q ?_ | refine s_qc (by omega) ?_ | refine n_some ?_ | rw [List.getD_cons_zero] | rw [List.getD_cons_succ]))
    rw [← hlen]
    exact hK2
  refine c_b (fun hS => ?_) (fun hS => ?_)
  · obtain ⟨⟨hk0, hk5⟩, hkl⟩ : (0 ≤ k ∧ s.k = 5) ∧ k < (tysAt u.ss s.st).length := by simpa using hS
    obtain ⟨hst0, hst1⟩ := hsf.st hk5
    have hslt : s.st.toNat < u.ss.length := by omega
    obtain ⟨b, off, q9, capq, rfl, hcell9, _, _, hfl⟩ := st_at hst hslt
    have htl : tysAt u.ss s.st = u.ss[s.st.toNat].fs.map (·.2) := by
      rw [← tysAt_eq hslt]; simp only [tysAt, Int.toNat_natCast]
    have hkf : k.toNat < u.ss[s.st.toNat].fs.length := by
      rw [htl, List.length_map] at hkl; omega
    obtain ⟨b9, off9, c9, rfl, hc9, hcell8, ht9⟩ := fl_at hfl hkf
    obtain ⟨q2, cap2, rfl, ht2⟩ := ty_form ht9
    (repeat (first | refine s_p ?_ | refine s_c (by omega) ?_ | refine S.ld ?_ | refine S.ldB ?_ | refine S.ce ?_ | refine S.ceB ?_ | refine s_q ?_ | refine s_qc (by omega) ?_ | refine n_some ?_ | rw [List.getD_cons_zero] | rw [List.getD_cons_succ]))
    refine s_ld1 (S.at hcell9) ?_
    (repeat (first | refine s_p ?_ | refine s_c (by omega) ?_ | refine S.ld ?_ | refine S.ldB ?_ | refine S.ce ?_ | refine S.ceB ?_ | refine s_q ?_ | refine s_qc (by omega) ?_ | refine n_some ?_ | rw [List.getD_cons_zero] | rw [List.getD_cons_succ]))
    refine s_ldN (n := 5) (c := tyL _ q2 cap2) rfl (fun j v hj => by have := S.at (hcell8 (j + 1) v hj); rwa [show off9 + k.toNat * 6 + (j + 1) = off9 + k.toNat * 6 + 1 + j by omega] at this) ?_
    (repeat (first | refine s_p ?_ | refine s_c (by omega) ?_ | refine S.ld ?_ | refine S.ldB ?_ | refine S.ce ?_ | refine S.ceB ?_ | refine s_q ?_ | refine s_qc (by omega) ?_ | refine n_some ?_ | rw [List.getD_cons_zero] | rw [List.getD_cons_succ]))
    refine S.stN (b := b5) fun w27 S => ?_
    refine hK16 [] _ ⟨_, m', q2, cap2, ?_, ht2, S.drop b8⟩
    rw [stepG, if_neg (by omega), if_neg (by omega), if_pos ⟨hk0, hk5⟩, htl, List.getElem?_map, List.getElem?_eq_getElem hkf]; rfl
  have hz : spotG u.ss g.tys p = (zeroD, 0, false) := by
    refine spot_none hlo.1 hq (i := i + 1) (hstep.trans ?_)
    rw [stepG, if_neg hB, if_neg hR]
    split
    · rename_i h5
      rw [List.getElem?_eq_none]; · rfl
      have : ¬ k < (tysAt u.ss s.st).length := by
        intro hh
        have : ((decide (0 ≤ k) && decide (s.k = 5)) && decide (k < ((tysAt u.ss s.st).length : Int))) = true := by simp [h5, hh]
        rw [this] at hS; cases hS
      have h50 : 0 ≤ k := h5.1
      show (tysAt u.ss s.st).length ≤ k.toNat
      omega
    · rfl
  rw [hz] at hsp; cases hsp
  (repeat (first | refine s_p ?_ | refine s_c (by omega) ?_ | refine S.ld ?_ | refine S.ldB ?_ | refine S.ce ?_ | refine S.ceB ?_ | refine s_q ?_ | refine s_qc (by omega) ?_ | refine n_some ?_ | rw [List.getD_cons_zero] | rw [List.getD_cons_succ]))
  refine S.stB (b := b4) fun w16 S => ?_
  (repeat (first | refine s_p ?_ | refine s_c (by omega) ?_ | refine S.ld ?_ | refine S.ldB ?_ | refine S.ce ?_ | refine S.ceB ?_ | refine s_q ?_ | refine s_qc (by omega) ?_ | refine n_some ?_ | rw [List.getD_cons_zero] | rw [List.getD_cons_succ]))
  exact h none 0 _ S.ext ty_leaf
end Go.Proofs
end

section
namespace Go.Proofs

open Go.Sh

set_option maxRecDepth 100000

set_option linter.unusedSimpArgs false

set_option linter.unusedVariables false

theorem ty_any {r : Gh} {k : Int} {m : Bool} {re st : Int} : TyG r (tyV (.mk k m re st []) none 0) (.mk k m re st []) := ty_leaf
set_option maxHeartbeats 1000000 in
theorem c_graph_asker_operand {u : UnD} {g : GrD} {o : OpD} {c : List Value} {v : Value} {w : World} {r : Gh} {K : Value → World → Prop} {t : TyD} {ok : Bool} (hr : Holds r w) (hx : AskG r v u g) (hf : FineU u.ss g.tys) (ho : OpG r c o) (hop : operG u.ss g.tys o = (t, ok))
    (h : ∀ q cap w', Ext w w' → TyG r (tyV t q cap) t → K (.tuple #[tyV t q cap, .bool ok]) w') : oCall Try.prog Try.n_graph_asker_operand #[v, .agg c.toArray] w K := by
  obtain ⟨p0, cap0, vf, vo, vt, vn, vp, rfl, hu, hg⟩ := id hx
  obtain ⟨vq, rfl, hl⟩ := ho
  obtain ⟨qs, caps, rfl, _, _⟩ := hl.sl.shape
  have hpl : PlG r [.int .i64 o.pl.l, .slice qs o.pl.ps.length caps] o.pl := ⟨_, rfl, hl⟩
  refine Try.ok_graph_asker_operand ?_
  unfold Try.F_graph_asker_operand
  have S := St.start hr
  refine S.box fun b2 w1 S => ?_
  refine S.box fun b3 w2 S => ?_
  refine S.al fun b4 w3 S => ?_
  (repeat (first | refine s_p ?_ | refine s_c (by omega) ?_ | refine S.ld ?_ | refine S.ldB ?_ | refine S.ce ?_ | refine S.ceB ?_ | refine s_q ?_ | refine s_qc (by omega) ?_ | refine n_some ?_ | rw [List.getD_cons_zero] | rw [List.getD_cons_succ]))
  unfold operG at hop
  refine c_if (fun h1 => ?_) (fun h1 => ?_)
  · rw [if_pos h1] at hop; cases hop
    (repeat (first | refine s_p ?_ | refine s_c (by omega) ?_ | refine S.ld ?_ | refine S.ldB ?_ | refine S.ce ?_ | refine S.ceB ?_ | refine s_q ?_ | refine s_qc (by omega) ?_ | refine n_some ?_ | rw [List.getD_cons_zero] | rw [List.getD_cons_succ]))
    refine S.ldN (b := b3) ?_
    refine c_graph_zero S.holds hpl fun w4 e4 => ?_
    have S := S.go e4
    refine S.stB (b := b4) fun w5 S => ?_
    (repeat (first | refine s_p ?_ | refine s_c (by omega) ?_ | refine S.ld ?_ | refine S.ldB ?_ | refine S.ce ?_ | refine S.ceB ?_ | refine s_q ?_ | refine s_qc (by omega) ?_ | refine n_some ?_ | rw [List.getD_cons_zero] | rw [List.getD_cons_succ]))
    exact h none 0 _ S.ext ty_any
  rw [if_neg h1] at hop
  (repeat (first | refine s_p ?_ | refine s_c (by omega) ?_ | refine S.ld ?_ | refine S.ldB ?_ | refine S.ce ?_ | refine S.ceB ?_ | refine s_q ?_ | refine s_qc (by omega) ?_ | refine n_some ?_ | rw [List.getD_cons_zero] | rw [List.getD_cons_succ]))
  refine c_if (fun h2 => ?_) (fun h2 => ?_)
  · rw [if_pos h2] at hop; cases hop
    have S := S.go (Ext.drew _)
    (repeat (first | refine s_p ?_ | refine s_c (by omega) ?_ | refine S.ld ?_ | refine S.ldB ?_ | refine S.ce ?_ | refine S.ceB ?_ | refine s_q ?_ | refine s_qc (by omega) ?_ | refine n_some ?_ | rw [List.getD_cons_zero] | rw [List.getD_cons_succ]))
    refine S.ldN (b := b3) ?_
    refine c_graph_zero S.holds hpl fun w44 e4 => ?_
    have S := S.go e4
    have fin : ∀ {w9 : World}, StX noX w r w9 [.cell b4 (tyL boolD none 0) 25, .cell b3 [.int .u8 o.k, .int .i64 o.n, .int .i64 o.pl.l, .slice qs o.pl.ps.length caps] 61, .cell b2 (Value.agg #[.slice p0 u.ss.length cap0, vf, .int .i64 u.mn, .string g.name, .int .i64 g.lv, vo, .int .i64 g.pn, vt, vn, vp]).cells.toList 101] → ∀ x, x = (zeroP o.pl && (decide (o.n = 0) || decide (o.n = 1))) →
        K (.tuple #[tyV boolD none 0, .bool x]) w9 := by
      intro w9 S x hx
      subst hx
      exact h none 0 _ S.ext ty_any
    have st : ∀ {w8 : World} {K : World → Prop}, StX noX w r w8 [.cell b4 [.int .u8 0, .bool false, .int .i64 0, .int .i64 0, .slice none 0 0] 25, .cell b3 [.int .u8 o.k, .int .i64 o.n, .int .i64 o.pl.l, .slice qs o.pl.ps.length caps] 61, .cell b2 (Value.agg #[.slice p0 u.ss.length cap0, vf, .int .i64 u.mn, .string g.name, .int .i64 g.lv, vo, .int .i64 g.pn, vt, vn, vp]).cells.toList 101] →
        (∀ w9, StX noX w r w9 [.cell b4 (tyL boolD none 0) 25, .cell b3 [.int .u8 o.k, .int .i64 o.n, .int .i64 o.pl.l, .slice qs o.pl.ps.length caps] 61, .cell b2 (Value.agg #[.slice p0 u.ss.length cap0, vf, .int .i64 u.mn, .string g.name, .int .i64 g.lv, vo, .int .i64 g.pn, vt, vn, vp]).cells.toList 101] → K w9) →
        opU Try.prog w8 (Instr.storeAt 25 (.pointer (some ⟨b4, 0, none⟩)) (.agg #[.int .u8 2, .bool false, .int .i64 0, .int .i64 0, .slice none 0 0])) K := by
      intro w8 K S hK
      exact S.stB (b := b4) fun w9 S => hK w9 S
    cases hz : zeroP o.pl with
    | false =>
      (intro K9 hK9; (repeat (first | (first | refine s_p ?_ | refine s_c (by omega) ?_ | refine S.ld ?_ | refine S.ldB ?_ | refine S.ce ?_ | refine S.ceB ?_ | refine s_q ?_ | refine s_qc (by omega) ?_ | refine n_some ?_ | rw [List.getD_cons_zero] | rw [List.getD_cons_succ]) | refine g_TT ?_ | refine g_FF ?_ | refine g_TF ?_ | refine g_FT ?_ | refine g_UU ?_ | refine k_pickT ?_ | refine k_pickF ?_)); refine hK9 _ _ fun _ => ?_; clear hK9 K9)
      (intro K9 hK9; (repeat (first | (first | refine s_p ?_ | refine s_c (by omega) ?_ | refine S.ld ?_ | refine S.ldB ?_ | refine S.ce ?_ | refine S.ceB ?_ | refine s_q ?_ | refine s_qc (by omega) ?_ | refine n_some ?_ | rw [List.getD_cons_zero] | rw [List.getD_cons_succ]) | refine g_TT ?_ | refine g_FF ?_ | refine g_TF ?_ | refine g_FT ?_ | refine g_UU ?_ | refine k_pickT ?_ | refine k_pickF ?_)); refine hK9 _ _ fun _ => ?_; clear hK9 K9)
      refine ⟨?_, ?_⟩
      · (intro K9 hK9; (repeat (first | (first | refine s_p ?_ | refine s_c (by omega) ?_ | refine S.ld ?_ | refine S.ldB ?_ | refine S.ce ?_ | refine S.ceB ?_ | refine s_q ?_ | refine s_qc (by omega) ?_ | refine n_some ?_ | rw [List.getD_cons_zero] | rw [List.getD_cons_succ]) | refine g_TT ?_ | refine g_FF ?_ | refine g_TF ?_ | refine g_FT ?_ | refine g_UU ?_ | refine k_pickT ?_ | refine k_pickF ?_)); refine hK9 _ _ fun _ => ?_; clear hK9 K9)
        (intro K9 hK9; (repeat (first | (first | refine s_p ?_ | refine s_c (by omega) ?_ | refine S.ld ?_ | refine S.ldB ?_ | refine S.ce ?_ | refine S.ceB ?_ | refine s_q ?_ | refine s_qc (by omega) ?_ | refine n_some ?_ | rw [List.getD_cons_zero] | rw [List.getD_cons_succ]) | refine g_TT ?_ | refine g_FF ?_ | refine g_TF ?_ | refine g_FT ?_ | refine g_UU ?_ | refine k_pickT ?_ | refine k_pickF ?_)); refine hK9 _ _ fun _ => ?_; clear hK9 K9)
        (repeat (first | (first | refine s_p ?_ | refine s_c (by omega) ?_ | refine S.ld ?_ | refine S.ldB ?_ | refine S.ce ?_ | refine S.ceB ?_ | refine s_q ?_ | refine s_qc (by omega) ?_ | refine n_some ?_ | rw [List.getD_cons_zero] | rw [List.getD_cons_succ]) | refine g_TT ?_ | refine g_FF ?_ | refine g_TF ?_ | refine g_FT ?_ | refine g_UU ?_ | refine k_pickT ?_ | refine k_pickF ?_))
        refine st S fun w9 S => ?_
        (repeat (first | refine s_p ?_ | refine s_c (by omega) ?_ | refine S.ld ?_ | refine S.ldB ?_ | refine S.ce ?_ | refine S.ceB ?_ | refine s_q ?_ | refine s_qc (by omega) ?_ | refine n_some ?_ | rw [List.getD_cons_zero] | rw [List.getD_cons_succ]))
        exact fin S _ (by rw [hz] <;> rfl)
      · refine st S fun w9 S => ?_
        (intro K9 hK9; (repeat (first | (first | refine s_p ?_ | refine s_c (by omega) ?_ | refine S.ld ?_ | refine S.ldB ?_ | refine S.ce ?_ | refine S.ceB ?_ | refine s_q ?_ | refine s_qc (by omega) ?_ | refine n_some ?_ | rw [List.getD_cons_zero] | rw [List.getD_cons_succ]) | refine g_TT ?_ | refine g_FF ?_ | refine g_TF ?_ | refine g_FT ?_ | refine g_UU ?_ | refine k_pickT ?_ | refine k_pickF ?_)); refine hK9 _ _ fun _ => ?_; clear hK9 K9)
        (intro K9 hK9; (repeat (first | (first | refine s_p ?_ | refine s_c (by omega) ?_ | refine S.ld ?_ | refine S.ldB ?_ | refine S.ce ?_ | refine S.ceB ?_ | refine s_q ?_ | refine s_qc (by omega) ?_ | refine n_some ?_ | rw [List.getD_cons_zero] | rw [List.getD_cons_succ]) | refine g_TT ?_ | refine g_FF ?_ | refine g_TF ?_ | refine g_FT ?_ | refine g_UU ?_ | refine k_pickT ?_ | refine k_pickF ?_)); refine hK9 _ _ fun _ => ?_; clear hK9 K9)
        (repeat (first | (first | refine s_p ?_ | refine s_c (by omega) ?_ | refine S.ld ?_ | refine S.ldB ?_ | refine S.ce ?_ | refine S.ceB ?_ | refine s_q ?_ | refine s_qc (by omega) ?_ | refine n_some ?_ | rw [List.getD_cons_zero] | rw [List.getD_cons_succ]) | refine g_TT ?_ | refine g_FF ?_ | refine g_TF ?_ | refine g_FT ?_ | refine g_UU ?_ | refine k_pickT ?_ | refine k_pickF ?_))
        exact fin S _ (by rw [hz] <;> rfl)
    | true =>
      by_cases hn0 : o.n = 0
      · refine j_intro (fun s w' => s = [.bool true] ∧ w' = w44) (fun K9 hK9 => ?_) ?_
        · (repeat (first | (first | refine s_p ?_ | refine s_c (by omega) ?_ | refine S.ld ?_ | refine S.ldB ?_ | refine S.ce ?_ | refine S.ceB ?_ | refine s_q ?_ | refine s_qc (by omega) ?_ | refine n_some ?_ | rw [List.getD_cons_zero] | rw [List.getD_cons_succ]) | refine g_TT ?_ | refine g_FF ?_ | refine g_TF ?_ | refine g_FT ?_ | refine g_UU ?_ | refine k_pickT ?_ | refine k_pickF ?_))
          rw [decide_eq_true hn0]
          exact hK9 _ _ ⟨rfl, rfl⟩
        rintro _ w44 ⟨rfl, rfl⟩ d1
        (intro K9 hK9; (repeat (first | (first | refine s_p ?_ | refine s_c (by omega) ?_ | refine S.ld ?_ | refine S.ldB ?_ | refine S.ce ?_ | refine S.ceB ?_ | refine s_q ?_ | refine s_qc (by omega) ?_ | refine n_some ?_ | rw [List.getD_cons_zero] | rw [List.getD_cons_succ]) | refine g_TT ?_ | refine g_FF ?_ | refine g_TF ?_ | refine g_FT ?_ | refine g_UU ?_ | refine k_pickT ?_ | refine k_pickF ?_)); refine hK9 _ _ fun _ => ?_; clear hK9 K9)
        refine ⟨?_, ?_⟩
        · (intro K9 hK9; (repeat (first | (first | refine s_p ?_ | refine s_c (by omega) ?_ | refine S.ld ?_ | refine S.ldB ?_ | refine S.ce ?_ | refine S.ceB ?_ | refine s_q ?_ | refine s_qc (by omega) ?_ | refine n_some ?_ | rw [List.getD_cons_zero] | rw [List.getD_cons_succ]) | refine g_TT ?_ | refine g_FF ?_ | refine g_TF ?_ | refine g_FT ?_ | refine g_UU ?_ | refine k_pickT ?_ | refine k_pickF ?_)); refine hK9 _ _ fun _ => ?_; clear hK9 K9)
          (intro K9 hK9; (repeat (first | (first | refine s_p ?_ | refine s_c (by omega) ?_ | refine S.ld ?_ | refine S.ldB ?_ | refine S.ce ?_ | refine S.ceB ?_ | refine s_q ?_ | refine s_qc (by omega) ?_ | refine n_some ?_ | rw [List.getD_cons_zero] | rw [List.getD_cons_succ]) | refine g_TT ?_ | refine g_FF ?_ | refine g_TF ?_ | refine g_FT ?_ | refine g_UU ?_ | refine k_pickT ?_ | refine k_pickF ?_)); refine hK9 _ _ fun _ => ?_; clear hK9 K9)
          (repeat (first | (first | refine s_p ?_ | refine s_c (by omega) ?_ | refine S.ld ?_ | refine S.ldB ?_ | refine S.ce ?_ | refine S.ceB ?_ | refine s_q ?_ | refine s_qc (by omega) ?_ | refine n_some ?_ | rw [List.getD_cons_zero] | rw [List.getD_cons_succ]) | refine g_TT ?_ | refine g_FF ?_ | refine g_TF ?_ | refine g_FT ?_ | refine g_UU ?_ | refine k_pickT ?_ | refine k_pickF ?_))
          refine st S fun w9 S => ?_
          (repeat (first | refine s_p ?_ | refine s_c (by omega) ?_ | refine S.ld ?_ | refine S.ldB ?_ | refine S.ce ?_ | refine S.ceB ?_ | refine s_q ?_ | refine s_qc (by omega) ?_ | refine n_some ?_ | rw [List.getD_cons_zero] | rw [List.getD_cons_succ]))
          exact fin S _ (by rw [hz, hn0] <;> rfl)
        · refine st S fun w9 S => ?_
          (intro K9 hK9; (repeat (first | (first | refine s_p ?_ | refine s_c (by omega) ?_ | refine S.ld ?_ | refine S.ldB ?_ | refine S.ce ?_ | refine S.ceB ?_ | refine s_q ?_ | refine s_qc (by omega) ?_ | refine n_some ?_ | rw [List.getD_cons_zero] | rw [List.getD_cons_succ]) | refine g_TT ?_ | refine g_FF ?_ | refine g_TF ?_ | refine g_FT ?_ | refine g_UU ?_ | refine k_pickT ?_ | refine k_pickF ?_)); refine hK9 _ _ fun _ => ?_; clear hK9 K9)
          (intro K9 hK9; (repeat (first | (first | refine s_p ?_ | refine s_c (by omega) ?_ | refine S.ld ?_ | refine S.ldB ?_ | refine S.ce ?_ | refine S.ceB ?_ | refine s_q ?_ | refine s_qc (by omega) ?_ | refine n_some ?_ | rw [List.getD_cons_zero] | rw [List.getD_cons_succ]) | refine g_TT ?_ | refine g_FF ?_ | refine g_TF ?_ | refine g_FT ?_ | refine g_UU ?_ | refine k_pickT ?_ | refine k_pickF ?_)); refine hK9 _ _ fun _ => ?_; clear hK9 K9)
          (repeat (first | (first | refine s_p ?_ | refine s_c (by omega) ?_ | refine S.ld ?_ | refine S.ldB ?_ | refine S.ce ?_ | refine S.ceB ?_ | refine s_q ?_ | refine s_qc (by omega) ?_ | refine n_some ?_ | rw [List.getD_cons_zero] | rw [List.getD_cons_succ]) | refine g_TT ?_ | refine g_FF ?_ | refine g_TF ?_ | refine g_FT ?_ | refine g_UU ?_ | refine k_pickT ?_ | refine k_pickF ?_))
          exact fin S _ (by rw [hz, hn0] <;> rfl)
      · refine j_intro (fun s w' => s = [.bool false] ∧ w' = w44) (fun K9 hK9 => ?_) ?_
        · (repeat (first | (first | refine s_p ?_ | refine s_c (by omega) ?_ | refine S.ld ?_ | refine S.ldB ?_ | refine S.ce ?_ | refine S.ceB ?_ | refine s_q ?_ | refine s_qc (by omega) ?_ | refine n_some ?_ | rw [List.getD_cons_zero] | rw [List.getD_cons_succ]) | refine g_TT ?_ | refine g_FF ?_ | refine g_TF ?_ | refine g_FT ?_ | refine g_UU ?_ | refine k_pickT ?_ | refine k_pickF ?_))
          rw [decide_eq_false hn0]
          exact hK9 _ _ ⟨rfl, rfl⟩
        rintro _ w44 ⟨rfl, rfl⟩ d1
        (intro K9 hK9; (repeat (first | (first | refine s_p ?_ | refine s_c (by omega) ?_ | refine S.ld ?_ | refine S.ldB ?_ | refine S.ce ?_ | refine S.ceB ?_ | refine s_q ?_ | refine s_qc (by omega) ?_ | refine n_some ?_ | rw [List.getD_cons_zero] | rw [List.getD_cons_succ]) | refine g_TT ?_ | refine g_FF ?_ | refine g_TF ?_ | refine g_FT ?_ | refine g_UU ?_ | refine k_pickT ?_ | refine k_pickF ?_)); refine hK9 _ _ fun _ => ?_; clear hK9 K9)
        refine ⟨?_, ?_⟩
        · refine j_intro (fun s w' => s = [.bool (decide (o.n = 1))] ∧ w' = w44) (fun K9 hK9 => ?_) ?_
          · (repeat (first | (first | refine s_p ?_ | refine s_c (by omega) ?_ | refine S.ld ?_ | refine S.ldB ?_ | refine S.ce ?_ | refine S.ceB ?_ | refine s_q ?_ | refine s_qc (by omega) ?_ | refine n_some ?_ | rw [List.getD_cons_zero] | rw [List.getD_cons_succ]) | refine g_TT ?_ | refine g_FF ?_ | refine g_TF ?_ | refine g_FT ?_ | refine g_UU ?_ | refine k_pickT ?_ | refine k_pickF ?_))
            refine w_q1 ?_
            (repeat (first | (first | refine s_p ?_ | refine s_c (by omega) ?_ | refine S.ld ?_ | refine S.ldB ?_ | refine S.ce ?_ | refine S.ceB ?_ | refine s_q ?_ | refine s_qc (by omega) ?_ | refine n_some ?_ | rw [List.getD_cons_zero] | rw [List.getD_cons_succ]) | refine g_TT ?_ | refine g_FF ?_ | refine g_TF ?_ | refine g_FT ?_ | refine g_UU ?_ | refine k_pickT ?_ | refine k_pickF ?_))
            exact hK9 _ _ ⟨rfl, rfl⟩
          rintro _ w44 ⟨rfl, rfl⟩ d1
          (intro K9 hK9; (repeat (first | (first | refine s_p ?_ | refine s_c (by omega) ?_ | refine S.ld ?_ | refine S.ldB ?_ | refine S.ce ?_ | refine S.ceB ?_ | refine s_q ?_ | refine s_qc (by omega) ?_ | refine n_some ?_ | rw [List.getD_cons_zero] | rw [List.getD_cons_succ]) | refine g_TT ?_ | refine g_FF ?_ | refine g_TF ?_ | refine g_FT ?_ | refine g_UU ?_ | refine k_pickT ?_ | refine k_pickF ?_)); refine hK9 _ _ fun _ => ?_; clear hK9 K9)
          (repeat (first | (first | refine s_p ?_ | refine s_c (by omega) ?_ | refine S.ld ?_ | refine S.ldB ?_ | refine S.ce ?_ | refine S.ceB ?_ | refine s_q ?_ | refine s_qc (by omega) ?_ | refine n_some ?_ | rw [List.getD_cons_zero] | rw [List.getD_cons_succ]) | refine g_TT ?_ | refine g_FF ?_ | refine g_TF ?_ | refine g_FT ?_ | refine g_UU ?_ | refine k_pickT ?_ | refine k_pickF ?_))
          refine st S fun w9 S => ?_
          (repeat (first | refine s_p ?_ | refine s_c (by omega) ?_ | refine S.ld ?_ | refine S.ldB ?_ | refine S.ce ?_ | refine S.ceB ?_ | refine s_q ?_ | refine s_qc (by omega) ?_ | refine n_some ?_ | rw [List.getD_cons_zero] | rw [List.getD_cons_succ]))
          exact fin S _ (by rw [hz, decide_eq_false hn0]; first | rfl | simp)
        · refine st S fun w9 S => ?_
          refine j_intro (fun s w' => s = [.bool (decide (o.n = 1))] ∧ w' = w9) (fun K9 hK9 => ?_) ?_
          · (repeat (first | (first | refine s_p ?_ | refine s_c (by omega) ?_ | refine S.ld ?_ | refine S.ldB ?_ | refine S.ce ?_ | refine S.ceB ?_ | refine s_q ?_ | refine s_qc (by omega) ?_ | refine n_some ?_ | rw [List.getD_cons_zero] | rw [List.getD_cons_succ]) | refine g_TT ?_ | refine g_FF ?_ | refine g_TF ?_ | refine g_FT ?_ | refine g_UU ?_ | refine k_pickT ?_ | refine k_pickF ?_))
            refine w_q1 ?_
            (repeat (first | (first | refine s_p ?_ | refine s_c (by omega) ?_ | refine S.ld ?_ | refine S.ldB ?_ | refine S.ce ?_ | refine S.ceB ?_ | refine s_q ?_ | refine s_qc (by omega) ?_ | refine n_some ?_ | rw [List.getD_cons_zero] | rw [List.getD_cons_succ]) | refine g_TT ?_ | refine g_FF ?_ | refine g_TF ?_ | refine g_FT ?_ | refine g_UU ?_ | refine k_pickT ?_ | refine k_pickF ?_))
            exact hK9 _ _ ⟨rfl, rfl⟩
          rintro _ w44 ⟨rfl, rfl⟩ d1
          (intro K9 hK9; (repeat (first | (first | refine s_p ?_ | refine s_c (by omega) ?_ | refine S.ld ?_ | refine S.ldB ?_ | refine S.ce ?_ | refine S.ceB ?_ | refine s_q ?_ | refine s_qc (by omega) ?_ | refine n_some ?_ | rw [List.getD_cons_zero] | rw [List.getD_cons_succ]) | refine g_TT ?_ | refine g_FF ?_ | refine g_TF ?_ | refine g_FT ?_ | refine g_UU ?_ | refine k_pickT ?_ | refine k_pickF ?_)); refine hK9 _ _ fun _ => ?_; clear hK9 K9)
          (repeat (first | (first | refine s_p ?_ | refine s_c (by omega) ?_ | refine S.ld ?_ | refine S.ldB ?_ | refine S.ce ?_ | refine S.ceB ?_ | refine s_q ?_ | refine s_qc (by omega) ?_ | refine n_some ?_ | rw [List.getD_cons_zero] | rw [List.getD_cons_succ]) | refine g_TT ?_ | refine g_FF ?_ | refine g_TF ?_ | refine g_FT ?_ | refine g_UU ?_ | refine k_pickT ?_ | refine k_pickF ?_))
          exact fin S _ (by rw [hz, decide_eq_false hn0]; first | rfl | simp)
  rw [if_neg h2] at hop
  obtain ⟨sty, sm, sok, hsp⟩ : ∃ sty sm sok, spotG u.ss g.tys o.pl = (sty, sm, sok) := ⟨_, _, _, rfl⟩
  simp only [hsp] at hop
  (repeat (first | refine s_p ?_ | refine s_c (by omega) ?_ | refine S.ld ?_ | refine S.ldB ?_ | refine S.ce ?_ | refine S.ceB ?_ | refine s_q ?_ | refine s_qc (by omega) ?_ | refine n_some ?_ | rw [List.getD_cons_zero] | rw [List.getD_cons_succ]))
  refine S.ldN (b := b3) ?_
  refine c_graph_asker_spot S.holds hx hf hpl hsp fun q cap w5 e5 ht => ?_
  have S := S.go e5
  refine S.al fun b6 w6 S => ?_
  refine S.stB (b := b6) fun w7 S => ?_
  (repeat (first | refine s_p ?_ | refine s_c (by omega) ?_ | refine S.ld ?_ | refine S.ldB ?_ | refine S.ce ?_ | refine S.ceB ?_ | refine s_q ?_ | refine s_qc (by omega) ?_ | refine n_some ?_ | rw [List.getD_cons_zero] | rw [List.getD_cons_succ]))
  refine j_bandH (c := decide (o.n = 0)) (fun _ K2 hK2 => ?_) ?_
  · (repeat (first | refine s_p ?_ | refine s_c (by omega) ?_ | refine S.ld ?_ | refine S.ldB ?_ | refine S.ce ?_ | refine S.ceB ?_ | refine s_q ?_ | refine s_qc (by omega) ?_ | refine n_some ?_ | rw [List.getD_cons_zero] | rw [List.getD_cons_succ]))
    exact hK2
  (repeat (first | refine s_p ?_ | refine s_c (by omega) ?_ | refine S.ld ?_ | refine S.ldB ?_ | refine S.ce ?_ | refine S.ceB ?_ | refine s_q ?_ | refine s_qc (by omega) ?_ | refine n_some ?_ | rw [List.getD_cons_zero] | rw [List.getD_cons_succ]))
  refine c_if (fun h3 => ?_) (fun h3 => ?_)
  · rw [if_pos h3] at hop; cases hop
    have S := S.go (Ext.drew _)
    (first | refine s_p ?_ | refine s_c (by omega) ?_)
    refine S.ldN (b := b6) ?_
    refine j_bandE (c := copiesB t) (fun _ K2 hK2 => ?_) fun w9 e9 => ?_
    · (first | refine s_p ?_ | refine s_c (by omega) ?_)
      refine S.ldN (b := b6) ?_
      exact c_types_Copies S.holds ht fun w9 e9 => ⟨e9, hK2 _ e9⟩
    have S := S.go e9
    refine S.stB (b := b4) fun w10 S => ?_
    (repeat (first | refine s_p ?_ | refine s_c (by omega) ?_ | refine S.ld ?_ | refine S.ldB ?_ | refine S.ce ?_ | refine S.ceB ?_ | refine s_q ?_ | refine s_qc (by omega) ?_ | refine n_some ?_ | rw [List.getD_cons_zero] | rw [List.getD_cons_succ]))
    exact h _ _ _ S.ext ht
  rw [if_neg h3] at hop
  (repeat (first | refine s_p ?_ | refine s_c (by omega) ?_ | refine S.ld ?_ | refine S.ldB ?_ | refine S.ce ?_ | refine S.ceB ?_ | refine s_q ?_ | refine s_qc (by omega) ?_ | refine n_some ?_ | rw [List.getD_cons_zero] | rw [List.getD_cons_succ]))
  refine c_if (fun h4 => ?_) (fun h4 => ?_)
  · rw [if_pos h4] at hop; cases hop
    have S := S.go (Ext.drew _)
    (first | refine s_p ?_ | refine s_c (by omega) ?_)
    refine S.ldN (b := b6) ?_
    refine j_bandE (c := !copiesB t) (fun _ K2 hK2 => ?_) fun w9 e9 => ?_
    · (first | refine s_p ?_ | refine s_c (by omega) ?_)
      refine S.ldN (b := b6) ?_
      refine c_types_Copies S.holds ht fun w9 e9 => ⟨e9, ?_⟩
      (first | refine s_p ?_ | refine s_c (by omega) ?_)
      exact hK2 _ e9
    have S := S.go e9
    cases hb : ((sok && decide (o.n = 0)) && !copiesB t) with
    | false =>
      (intro K9 hK9; (repeat (first | (first | refine s_p ?_ | refine s_c (by omega) ?_ | refine S.ld ?_ | refine S.ldB ?_ | refine S.ce ?_ | refine S.ceB ?_ | refine s_q ?_ | refine s_qc (by omega) ?_ | refine n_some ?_ | rw [List.getD_cons_zero] | rw [List.getD_cons_succ]) | refine g_TT ?_ | refine g_FF ?_ | refine g_TF ?_ | refine g_FT ?_ | refine g_UU ?_ | refine k_pickT ?_ | refine k_pickF ?_)); refine hK9 _ _ fun _ => ?_; clear hK9 K9)
      refine ⟨?_, ?_⟩
      · (intro K9 hK9; (repeat (first | (first | refine s_p ?_ | refine s_c (by omega) ?_ | refine S.ld ?_ | refine S.ldB ?_ | refine S.ce ?_ | refine S.ceB ?_ | refine s_q ?_ | refine s_qc (by omega) ?_ | refine n_some ?_ | rw [List.getD_cons_zero] | rw [List.getD_cons_succ]) | refine g_TT ?_ | refine g_FF ?_ | refine g_TF ?_ | refine g_FT ?_ | refine g_UU ?_ | refine k_pickT ?_ | refine k_pickF ?_)); refine hK9 _ _ fun _ => ?_; clear hK9 K9)
        (repeat (first | (first | refine s_p ?_ | refine s_c (by omega) ?_ | refine S.ld ?_ | refine S.ldB ?_ | refine S.ce ?_ | refine S.ceB ?_ | refine s_q ?_ | refine s_qc (by omega) ?_ | refine n_some ?_ | rw [List.getD_cons_zero] | rw [List.getD_cons_succ]) | refine g_TT ?_ | refine g_FF ?_ | refine g_TF ?_ | refine g_FT ?_ | refine g_UU ?_ | refine k_pickT ?_ | refine k_pickF ?_))
        refine S.stB (b := b4) fun w10 S => ?_
        (repeat (first | refine s_p ?_ | refine s_c (by omega) ?_ | refine S.ld ?_ | refine S.ldB ?_ | refine S.ce ?_ | refine S.ceB ?_ | refine s_q ?_ | refine s_qc (by omega) ?_ | refine n_some ?_ | rw [List.getD_cons_zero] | rw [List.getD_cons_succ]))
        have := h _ _ _ S.ext ht
        rwa [hb] at this
      · refine S.stB (b := b4) fun w10 S => ?_
        (intro K9 hK9; (repeat (first | (first | refine s_p ?_ | refine s_c (by omega) ?_ | refine S.ld ?_ | refine S.ldB ?_ | refine S.ce ?_ | refine S.ceB ?_ | refine s_q ?_ | refine s_qc (by omega) ?_ | refine n_some ?_ | rw [List.getD_cons_zero] | rw [List.getD_cons_succ]) | refine g_TT ?_ | refine g_FF ?_ | refine g_TF ?_ | refine g_FT ?_ | refine g_UU ?_ | refine k_pickT ?_ | refine k_pickF ?_)); refine hK9 _ _ fun _ => ?_; clear hK9 K9)
        (repeat (first | (first | refine s_p ?_ | refine s_c (by omega) ?_ | refine S.ld ?_ | refine S.ldB ?_ | refine S.ce ?_ | refine S.ceB ?_ | refine s_q ?_ | refine s_qc (by omega) ?_ | refine n_some ?_ | rw [List.getD_cons_zero] | rw [List.getD_cons_succ]) | refine g_TT ?_ | refine g_FF ?_ | refine g_TF ?_ | refine g_FT ?_ | refine g_UU ?_ | refine k_pickT ?_ | refine k_pickF ?_))
        have := h _ _ _ S.ext ht
        rwa [hb] at this
    | true =>
      (intro K9 hK9; (repeat (first | (first | refine s_p ?_ | refine s_c (by omega) ?_ | refine S.ld ?_ | refine S.ldB ?_ | refine S.ce ?_ | refine S.ceB ?_ | refine s_q ?_ | refine s_qc (by omega) ?_ | refine n_some ?_ | rw [List.getD_cons_zero] | rw [List.getD_cons_succ]) | refine g_TT ?_ | refine g_FF ?_ | refine g_TF ?_ | refine g_FT ?_ | refine g_UU ?_ | refine k_pickT ?_ | refine k_pickF ?_)); refine hK9 _ _ fun _ => ?_; clear hK9 K9)
      refine ⟨?_, ?_⟩
      · refine j_intro (fun s w' => s = [.bool (decide (sm < 2))] ∧ w' = w9) (fun K9 hK9 => ?_) ?_
        · (repeat (first | (first | refine s_p ?_ | refine s_c (by omega) ?_ | refine S.ld ?_ | refine S.ldB ?_ | refine S.ce ?_ | refine S.ceB ?_ | refine s_q ?_ | refine s_qc (by omega) ?_ | refine n_some ?_ | rw [List.getD_cons_zero] | rw [List.getD_cons_succ]) | refine g_TT ?_ | refine g_FF ?_ | refine g_TF ?_ | refine g_FT ?_ | refine g_UU ?_ | refine k_pickT ?_ | refine k_pickF ?_))
          refine w_qE ?_
          (repeat (first | (first | refine s_p ?_ | refine s_c (by omega) ?_ | refine S.ld ?_ | refine S.ldB ?_ | refine S.ce ?_ | refine S.ceB ?_ | refine s_q ?_ | refine s_qc (by omega) ?_ | refine n_some ?_ | rw [List.getD_cons_zero] | rw [List.getD_cons_succ]) | refine g_TT ?_ | refine g_FF ?_ | refine g_TF ?_ | refine g_FT ?_ | refine g_UU ?_ | refine k_pickT ?_ | refine k_pickF ?_))
          exact hK9 _ _ ⟨rfl, rfl⟩
        rintro _ _ ⟨rfl, rfl⟩ d1
        (repeat (first | (first | refine s_p ?_ | refine s_c (by omega) ?_ | refine S.ld ?_ | refine S.ldB ?_ | refine S.ce ?_ | refine S.ceB ?_ | refine s_q ?_ | refine s_qc (by omega) ?_ | refine n_some ?_ | rw [List.getD_cons_zero] | rw [List.getD_cons_succ]) | refine g_TT ?_ | refine g_FF ?_ | refine g_TF ?_ | refine g_FT ?_ | refine g_UU ?_ | refine k_pickT ?_ | refine k_pickF ?_))
        refine S.stB (b := b4) fun w10 S => ?_
        (repeat (first | refine s_p ?_ | refine s_c (by omega) ?_ | refine S.ld ?_ | refine S.ldB ?_ | refine S.ce ?_ | refine S.ceB ?_ | refine s_q ?_ | refine s_qc (by omega) ?_ | refine n_some ?_ | rw [List.getD_cons_zero] | rw [List.getD_cons_succ]))
        have := h _ _ _ S.ext ht
        rwa [hb] at this
      · refine S.stB (b := b4) fun w10 S => ?_
        refine j_intro (fun s w' => s = [.bool (decide (sm < 2))] ∧ w' = w10) (fun K9 hK9 => ?_) ?_
        · (repeat (first | (first | refine s_p ?_ | refine s_c (by omega) ?_ | refine S.ld ?_ | refine S.ldB ?_ | refine S.ce ?_ | refine S.ceB ?_ | refine s_q ?_ | refine s_qc (by omega) ?_ | refine n_some ?_ | rw [List.getD_cons_zero] | rw [List.getD_cons_succ]) | refine g_TT ?_ | refine g_FF ?_ | refine g_TF ?_ | refine g_FT ?_ | refine g_UU ?_ | refine k_pickT ?_ | refine k_pickF ?_))
          refine w_qE ?_
          (repeat (first | (first | refine s_p ?_ | refine s_c (by omega) ?_ | refine S.ld ?_ | refine S.ldB ?_ | refine S.ce ?_ | refine S.ceB ?_ | refine s_q ?_ | refine s_qc (by omega) ?_ | refine n_some ?_ | rw [List.getD_cons_zero] | rw [List.getD_cons_succ]) | refine g_TT ?_ | refine g_FF ?_ | refine g_TF ?_ | refine g_FT ?_ | refine g_UU ?_ | refine k_pickT ?_ | refine k_pickF ?_))
          exact hK9 _ _ ⟨rfl, rfl⟩
        rintro _ _ ⟨rfl, rfl⟩ d1
        (repeat (first | (first | refine s_p ?_ | refine s_c (by omega) ?_ | refine S.ld ?_ | refine S.ldB ?_ | refine S.ce ?_ | refine S.ceB ?_ | refine s_q ?_ | refine s_qc (by omega) ?_ | refine n_some ?_ | rw [List.getD_cons_zero] | rw [List.getD_cons_succ]) | refine g_TT ?_ | refine g_FF ?_ | refine g_TF ?_ | refine g_FT ?_ | refine g_UU ?_ | refine k_pickT ?_ | refine k_pickF ?_))
        have := h _ _ _ S.ext ht
        rwa [hb] at this
  rw [if_neg h4] at hop; cases hop
  (repeat (first | refine s_p ?_ | refine s_c (by omega) ?_ | refine S.ld ?_ | refine S.ldB ?_ | refine S.ce ?_ | refine S.ceB ?_ | refine s_q ?_ | refine s_qc (by omega) ?_ | refine n_some ?_ | rw [List.getD_cons_zero] | rw [List.getD_cons_succ]))
  refine S.stB (b := b4) fun w10 S => ?_
  (repeat (first | refine s_p ?_ | refine s_c (by omega) ?_ | refine S.ld ?_ | refine S.ldB ?_ | refine S.ce ?_ | refine S.ceB ?_ | refine s_q ?_ | refine s_qc (by omega) ?_ | refine n_some ?_ | rw [List.getD_cons_zero] | rw [List.getD_cons_succ]))
  exact h none 0 _ S.ext ty_any
end Go.Proofs
end

section
namespace Go.Proofs

open Go.Sh

set_option maxRecDepth 100000

set_option linter.unusedSimpArgs false

set_option linter.unusedVariables false

theorem c_Contains_bool {x : Bool} {w : World} {p : Option Addr} {l : List Bool} {cap : Nat} {K : Value → World → Prop} (hl : Sl w p (l.map Value.bool)) (hb : l.length ≤ 1000000000) (h : K (.bool (l.contains x)) w) :
    oCall Try.prog Try.n_slices_Contains_bool_bool #[.slice p l.length cap, .bool x] w K := by
  refine Try.ok_slices_Contains_bool_bool ?_
  unfold Try.F_slices_Contains_bool_bool
  refine Try.ok_slices_Index_bool_bool ?_
  unfold Try.F_slices_Index_bool_bool
  (first | refine s_p ?_ | refine s_c (by omega) ?_)
  refine l_intro (ι := Nat) (fun i => [.int .i64 (i : Nat)]) (fun i w' => w' = w ∧ i ≤ l.length ∧ (l.take i).contains x = false) (fun i => l.length - i) 0 rfl ⟨rfl, Nat.zero_le _, by simp⟩ ?_
  rintro i d w' ⟨rfl, hi, hn⟩ K6 hK6
  simp only [List.getD_cons_zero]
  (first | refine s_p ?_ | refine s_c (by omega) ?_)
  refine c_if (fun hlt => ?_) (fun hge => ?_)
  · have hlt : i < l.length := by omega
    obtain ⟨b, off, rfl, hc⟩ := hl.at (i := i) (by rw [List.length_map]; exact hlt)
    (first | refine s_p ?_ | refine s_c (by omega) ?_)
    have hv : (l.map Value.bool)[i]'(by rw [List.length_map]; exact hlt) = .bool l[i] := by simp
    rw [hv] at hc
    refine s_ld1 (by simpa using hc) ?_
    (first | refine s_p ?_ | refine s_c (by omega) ?_)
    have ht : (l.take (i + 1)).contains x = ((l.take i).contains x || (x == l[i])) := by
      rw [List.take_succ_eq_append_getElem hlt]; simp only [List.contains_eq_any_beq, List.any_append, List.any_cons, List.any_nil, Bool.or_false]
    refine c_b (fun hy => ?_) (fun hno => ?_)
    · (first | refine s_p ?_ | refine s_c (by omega) ?_)
      rw [show decide ((i : Int) ≥ 0) = true by simp]
      have : l.contains x = true := List.contains_iff_mem.2 (by rw [eq_of_beq hy]; exact List.getElem_mem hlt)
      rwa [this] at h
    · (first | refine s_p ?_ | refine s_c (by omega) ?_)
      refine hK6 (i + 1) _ ⟨rfl, hlt, ?_⟩ (by omega)
      rw [ht, hn, hno]; rfl
  · have : i = l.length := by omega
    subst this
    rw [List.take_length] at hn
    (first | refine s_p ?_ | refine s_c (by omega) ?_)
    rwa [hn] at h
theorem c_graph_rest_1 {o : OpD} {c : List Value} {w : World} {r : Gh} {K : Value → World → Prop} (hr : Holds r w) (ho : OpG r c o) (h : ∀ w', Ext w w' → K (.bool (noneO o)) w') :
    oCallV Try.prog (.func (.func Try.n_graph_rest_1) #[] #[]) #[.agg c.toArray] w K := by
  obtain ⟨vq, rfl, hl⟩ := ho
  obtain ⟨qs, caps, rfl, _, _⟩ := hl.sl.shape
  have hpl : PlG r [.int .i64 o.pl.l, .slice qs o.pl.ps.length caps] o.pl := ⟨_, rfl, hl⟩
  refine v_f10 (by kernel_rfl) ?_
  refine Try.ok_graph_rest_1 ?_
  unfold Try.F_graph_rest_1
  have S := St.start hr
  refine S.box fun b1 w1 S => ?_
  (repeat (first | refine s_p ?_ | refine s_c (by omega) ?_ | refine S.ld ?_ | refine S.ldB ?_ | refine S.ce ?_ | refine S.ceB ?_ | refine s_q ?_ | refine s_qc (by omega) ?_ | refine n_some ?_ | rw [List.getD_cons_zero] | rw [List.getD_cons_succ]))
  refine j_bandH (c := decide (o.n = 0)) (fun _ K2 hK2 => ?_) ?_
  · (repeat (first | refine s_p ?_ | refine s_c (by omega) ?_ | refine S.ld ?_ | refine S.ldB ?_ | refine S.ce ?_ | refine S.ceB ?_ | refine s_q ?_ | refine s_qc (by omega) ?_ | refine n_some ?_ | rw [List.getD_cons_zero] | rw [List.getD_cons_succ]))
    exact hK2
  refine j_bandE (c := zeroP o.pl) (fun _ K2 hK2 => ?_) fun w3 e3 => h _ (S.go e3).ext
  (first | refine s_p ?_ | refine s_c (by omega) ?_)
  refine S.ldN (b := b1) ?_
  exact c_graph_zero S.holds hpl fun w3 e3 => hK2 _ e3
abbrev hasV (h : HasD) : Value := .agg #[.bool h.to, .bool h.a, .bool h.b, .bool h.args, .bool h.sign, .bool h.fr, .bool h.mu, .bool h.fn, .bool h.st, .bool h.el]
theorem not_contains (l : List Bool) : (!l.contains false) = l.all id := by
  induction l with
  | nil => rfl
  | cons x l ih =>
    rw [List.contains_cons, List.all_cons, ← ih]
    cases x <;> simp
set_option maxHeartbeats 1000000 in
theorem c_graph_rest {p : PtD} {f : HasD} {c : List Value} {w : World} {r : Gh} {K : Value → World → Prop} (hr : Holds r w) (hp : PtG r c p) (h : ∀ w', Ext w w' → K (.bool (restG p f)) w') :
    oCall Try.prog Try.n_graph_rest #[.agg c.toArray, hasV f] w K := by
  obtain ⟨vt, va, vb, vl, vf, rfl, h1, h2, h3, h4, h5⟩ := hp
  obtain ⟨qt, capt, rfl, _, _⟩ := h1.sl.shape
  obtain ⟨qa, capa, rfl, _, _⟩ := h2.sl.shape
  obtain ⟨qb, capb, rfl, _, _⟩ := h3.sl.shape
  obtain ⟨ql, capl, rfl, _, _⟩ := h4.sl.shape
  obtain ⟨qf, capf, rfl, _, _⟩ := h5.sl.shape
  refine Try.ok_graph_rest ?_
  unfold Try.F_graph_rest
  have S := St.start hr
  refine S.box fun b2 w1 S => ?_
  refine S.box fun b3 w2 S => ?_
  have S := S.go (Ext.drew _)
  (repeat (first | refine s_p ?_ | refine s_c (by omega) ?_ | refine S.ld ?_ | refine S.ldB ?_ | refine S.ce ?_ | refine S.ceB ?_ | refine s_q ?_ | refine s_qc (by omega) ?_ | refine n_some ?_ | rw [List.getD_cons_zero] | rw [List.getD_cons_succ]))
  refine j_borE (c := zeroP p.to) (fun _ K2 hK2 => ?_) fun w4 e4 => ?_
  · (first | refine s_p ?_ | refine s_c (by omega) ?_)
    refine S.ldN (b := b2) ?_
    exact c_graph_zero S.holds ⟨_, rfl, h1⟩ fun w3 e3 => ⟨e3, hK2 _ e3⟩
  have S := S.go e4
  refine j_borE (c := noneO p.a) (fun _ K2 hK2 => ?_) fun w5 e5 => ?_
  · (first | refine s_p ?_ | refine s_c (by omega) ?_)
    refine S.ldN (b := b2) ?_
    exact c_graph_rest_1 S.holds ⟨_, rfl, h2⟩ fun w3 e3 => ⟨e3, hK2 _ e3⟩
  have S := S.go e5
  refine j_borE (c := noneO p.b) (fun _ K2 hK2 => ?_) fun w5 e5 => ?_
  · (first | refine s_p ?_ | refine s_c (by omega) ?_)
    refine S.ldN (b := b2) ?_
    exact c_graph_rest_1 S.holds ⟨_, rfl, h3⟩ fun w3 e3 => ⟨e3, hK2 _ e3⟩
  have S := S.go e5
  refine j_borH (c := decide (p.args.length = 0)) (fun _ K2 hK2 => ?_) ?_
  · (repeat (first | refine s_p ?_ | refine s_c (by omega) ?_ | refine S.ld ?_ | refine S.ldB ?_ | refine S.ce ?_ | refine S.ceB ?_ | refine s_q ?_ | refine s_qc (by omega) ?_ | refine n_some ?_ | rw [List.getD_cons_zero] | rw [List.getD_cons_succ]))
    rw [nat_eq_zero]
    exact hK2
  refine j_borH (c := p.sign.toList == []) (fun _ K2 hK2 => ?_) ?_
  · (repeat (first | refine s_p ?_ | refine s_c (by omega) ?_ | refine S.ld ?_ | refine S.ldB ?_ | refine S.ce ?_ | refine S.ceB ?_ | refine s_q ?_ | refine s_qc (by omega) ?_ | refine n_some ?_ | rw [List.getD_cons_zero] | rw [List.getD_cons_succ]))
    exact hK2
  refine j_borE (c := zeroP p.fr) (fun _ K2 hK2 => ?_) fun w4 e4 => ?_
  · (first | refine s_p ?_ | refine s_c (by omega) ?_)
    refine S.ldN (b := b2) ?_
    exact c_graph_zero S.holds ⟨_, rfl, h5⟩ fun w3 e3 => ⟨e3, hK2 _ e3⟩
  have S := S.go e4
  refine j_borH (c := !p.mu) (fun _ K2 hK2 => ?_) ?_
  · (repeat (first | refine s_p ?_ | refine s_c (by omega) ?_ | refine S.ld ?_ | refine S.ldB ?_ | refine S.ce ?_ | refine S.ceB ?_ | refine s_q ?_ | refine s_qc (by omega) ?_ | refine n_some ?_ | rw [List.getD_cons_zero] | rw [List.getD_cons_succ]))
    exact hK2
  refine j_borH (c := decide (p.fn = 0)) (fun _ K2 hK2 => ?_) ?_
  · (repeat (first | refine s_p ?_ | refine s_c (by omega) ?_ | refine S.ld ?_ | refine S.ldB ?_ | refine S.ce ?_ | refine S.ceB ?_ | refine s_q ?_ | refine s_qc (by omega) ?_ | refine n_some ?_ | rw [List.getD_cons_zero] | rw [List.getD_cons_succ]))
    exact hK2
  refine j_borH (c := decide (p.st = 0)) (fun _ K2 hK2 => ?_) ?_
  · (repeat (first | refine s_p ?_ | refine s_c (by omega) ?_ | refine S.ld ?_ | refine S.ldB ?_ | refine S.ce ?_ | refine S.ceB ?_ | refine s_q ?_ | refine s_qc (by omega) ?_ | refine n_some ?_ | rw [List.getD_cons_zero] | rw [List.getD_cons_succ]))
    exact hK2
  refine j_borH (c := decide (p.el = 0)) (fun _ K2 hK2 => ?_) ?_
  · (repeat (first | refine s_p ?_ | refine s_c (by omega) ?_ | refine S.ld ?_ | refine S.ldB ?_ | refine S.ce ?_ | refine S.ceB ?_ | refine s_q ?_ | refine s_qc (by omega) ?_ | refine n_some ?_ | rw [List.getD_cons_zero] | rw [List.getD_cons_succ]))
    exact hK2
  refine S.lit (e := 4) (cs := (restL p f).map Value.bool) (by kernel_rfl) fun b80 w80 S => ?_
  refine c_Contains_bool (l := restL p f) (x := false) (Sl.blk (S.blk b80)) (by simp [restL]) ?_
  (first | refine s_p ?_ | refine s_c (by omega) ?_)
  rw [not_contains]
  exact h _ S.ext
end Go.Proofs
end
