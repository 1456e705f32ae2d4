/-
  The shallow reading is sound: ranges over functions, code, functions.
-/
import Derived.Test.YtajllnahceaipaaDoorSh5
namespace Go.Sh
open Go.RowKit

section
variable {D0 : List Deferred} {P : Program} {n0 : Nat}

/-- the blocks that the book-keeping of this frame leans on -/
def Rel (ro : Option Nat) (ds : List Deferred) (k : Nat) : Prop := (∃ d ∈ ds, d.target = .collected k) ∨ ro = some k
theorem MK.keep {ro : Option Nat} {ds : List Deferred} {W W2 : World} (h : MK D0 true ro n0 ds W) (hs : W.heap.size ≤ W2.heap.size)
    (hk : ∀ k, Rel ro ds k → k < W.heap.size → W2.heap[k]? = W.heap[k]?) : MK D0 true ro n0 ds W2 := by
  cases ro with
  | some l => obtain ⟨h1, r, h2⟩ := h; exact ⟨h1, r, by rw [hk l (.inr rfl) (Array.getElem?_eq_some_iff.1 h2).1]; exact h2⟩
  | none =>
    obtain ⟨h0, hd, rs, rfl, h2, h3⟩ := h
    exact ⟨Nat.le_trans h0 hs, hd, rs, rfl, h2, fun r hr => ⟨(h3 r hr).1, by
      rw [hk r (.inl ⟨_, List.mem_append_left _ (List.mem_map.2 ⟨r, hr, rfl⟩), rfl⟩) (Array.getElem?_eq_some_iff.1 (h3 r hr).2).1]; exact (h3 r hr).2⟩⟩

def codeOf : Exit → Option Code
  | .ret => some .ret
  | .exit id => some (.exit id)
  | .goto l => some (.goto l)
  | _ => none

theorem range_book {ro : Option Nat} {ds : List Deferred} {w : World} (fn : FuncId) (e : Env) (ps : Array Tmp) (assign body : Code) (hmk : MK D0 true ro n0 ds w) :
    ∃ (l : Nat) (mark : List Deferred) (W1 : World) (D : Nat), (Instr.enterLoop fn e.toArray ps assign body ro).run P w = .ok (l, mark) W1 ∧ Ext w W1 ∧ w.heap.size ≤ l ∧
      W1.heap[l]? = some (.loop { state := .ready, pending := none, fn, tmps := e.toArray, params := ps, assign, body, defers := D }) ∧ MK D0 true ro n0 (mark ++ ds) W1 ∧
      ∀ k, Rel ro (mark ++ ds) k → k ≠ l ∧ (w.heap.size ≤ k ∨ ∃ o, w.heap[k]? = some o ∧ Obj.isBook o = true) := by
  cases ro with
  | none =>
    obtain ⟨hn, hD, rs, hds, hnd, hrs⟩ := hmk
    have hext : Ext w ((w.alloc (.deferred (some []))).alloc (.loop { state := .ready, pending := none, fn, tmps := e.toArray, params := ps, assign, body, defers := w.heap.size })) :=
      ((Below.refl _ w).alloc (Nat.le_refl _) _).alloc (by simp) _
    refine ⟨_, _, _, w.heap.size, run_enterLoop_outer fn e.toArray ps assign body, hext, by omega, ?_, ?_, ?_⟩
    · have := World.alloc_heap_new (w.alloc (.deferred (some []))) (.loop { state := .ready, pending := none, fn, tmps := e.toArray, params := ps, assign, body, defers := w.heap.size })
      rwa [World.size_alloc] at this
    · refine ⟨Nat.le_trans hn hext.size, hD, w.heap.size :: rs, by rw [hds]; rfl, List.nodup_cons.2 ⟨fun h => ?_, hnd⟩, fun r hr => ?_⟩
      · have := (Array.getElem?_eq_some_iff.1 (hrs _ h).2).1; omega
      · rcases List.mem_cons.1 hr with rfl | hr
        · exact ⟨hn, (Below.heap_alloc _ _ _ (by simp)).trans (World.alloc_heap_new w _)⟩
        · exact ⟨(hrs r hr).1, by rw [hext.block r (Array.getElem?_eq_some_iff.1 (hrs r hr).2).1]; exact (hrs r hr).2⟩
    · rintro k (⟨d, hd, hk⟩ | hk)
      · rcases List.mem_append.1 hd with hd | hd
        · rw [List.mem_singleton] at hd; subst hd
          simp only [Target.collected.injEq] at hk; subst hk
          exact ⟨by omega, .inl (Nat.le_refl _)⟩
        · rw [hds] at hd
          rcases List.mem_append.1 hd with hd | hd
          rotate_left
          · exact absurd hk (hD d hd k)
          obtain ⟨r, hr, rfl⟩ := List.mem_map.1 hd
          simp only [Target.collected.injEq] at hk; subst hk
          have := (Array.getElem?_eq_some_iff.1 (hrs r hr).2).1
          exact ⟨by omega, .inr ⟨_, (hrs r hr).2, rfl⟩⟩
      · cases hk
  | some l0 =>
    obtain ⟨rfl, r, hr⟩ := hmk
    have hl0 := (Array.getElem?_eq_some_iff.1 hr).1
    have hext := ext_alloc w (.loop { state := .ready, pending := none, fn, tmps := e.toArray, params := ps, assign, body, defers := r.defers })
    refine ⟨_, _, _, r.defers, run_enterLoop_inner hr fn e.toArray ps assign body, hext, Nat.le_refl _, World.alloc_heap_new w _, ?_, ?_⟩
    · exact ⟨rfl, r, by rw [hext.block l0 hl0]; exact hr⟩
    · rintro k (⟨d, hd, hk⟩ | hk)
      · cases hd
      · cases hk; exact ⟨by omega, .inr ⟨_, hr, rfl⟩⟩

theorem range_sound {ro : Option Nat} {Kp : List PanicEntry → World → Prop} {g : Operand} {ps : Array Tmp} {assign body : Code} {e : Env} {ds : List Deferred} {w : World} {Q : Exit → Env → World → Prop}
    {rA : Env → World → (Exit → Env → World → Prop) → Prop} {rB : Env → World → (Exit → Env → World → Prop) → Prop} {ids : List Nat}
    (hA : ∀ (l : Nat) (e1 : Env) (w1 : World) (Q1 : Exit → Env → World → Prop), MK D0 true (some l) n0 [] w1 → rA e1 w1 Q1 → assign.wpIn (FW (some l)) 0 P (Post D0 true (some l) n0 (fun _ _ => False) (wr assign) e1 Q1) (act e1 []) w1)
    (hB : ∀ (l : Nat) (e1 : Env) (w1 : World) (Q1 : Exit → Env → World → Prop), MK D0 true (some l) n0 [] w1 → rB e1 w1 Q1 → body.wpIn (FW (some l)) 0 P (Post D0 true (some l) n0 (fun _ _ => False) (wr body) e1 Q1) (act e1 []) w1)
    (hmk : MK D0 true ro n0 ds w)
    (h : oRange P ps.size (ev e g) w
      (fun x w1 S KR => rA (setP ps.toList x 0 e) w1 fun
        | .normal, e2, w2 => Ext w1 w2 ∧ ∀ w3, Nl w.heap.size w2 w3 → rB e2 w3 fun y _ w4 => ExtBut S w3 w4 ∧ KR y w4
        | _, _, _ => False)
      (fun w' => Q .normal e w') (fun w' => Q .ret e w') (ids.map fun id => (id, fun w' => Q (.exit id) e w'))) :
    (Code.rangeFunc g ps assign body).wpIn (FW ro) 0 P (Post D0 true ro n0 Kp [] e Q) (act e ds) w := by
  obtain ⟨xs, S, J, Jx, hS, hit, hlen, hJ, hJx, hJ0, hround, hKn, hKr, hKx, hKg⟩ := h
  obtain ⟨gf, cap, hg, hent, hit⟩ := hit
  refine wpIn_rangeFunc ?_
  intro fn _
  obtain ⟨l, mark, W1, D, hrun, hext, hl, hl1, hmk1, hrel⟩ := range_book (P := P) fn e ps assign body hmk
  obtain ⟨rec, hrec⟩ : ∃ rec : LoopState → Option Code → Loop, rec = fun st pe => { state := st, pending := pe, fn, tmps := e.toArray, params := ps, assign, body, defers := D } := ⟨_, rfl⟩
  have hl1' : W1.heap[l]? = some (.loop (rec .ready none)) := by rw [hrec]; exact hl1
  have hlW1 : l < W1.heap.size := (Array.getElem?_eq_some_iff.1 hl1).1
  have hrS : ∀ k, Rel ro (mark ++ ds) k → ¬ S k := fun k hk hs => by
    obtain ⟨o, ho, hb⟩ := hS k hs
    have := (Array.getElem?_eq_some_iff.1 ho).1
    rcases (hrel k hk).2 with h | ⟨o', ho', hb'⟩
    · omega
    · rw [ho] at ho'; cases ho'; rw [hb] at hb'; cases hb'
  have hlS : ¬ S l := fun hs => by
    obtain ⟨o, ho, _⟩ := hS l hs
    have := (Array.getElem?_eq_some_iff.1 ho).1
    omega
  have hgv : (act e ds).eval g = .func (.func gf) #[] cap := by rw [act_eval, hg]
  refine ⟨l, mark, W1, { target := .fn (.func gf) cap, args := #[.func (.yield l) #[] #[]] }, W1, gf, #[.func (.yield l) #[] #[]] ++ cap, W1, hrun, ?_, fun _ _ => trivial, ?_, fun h => (by cases h), ?_⟩
  · simp only [resolve, hgv]
    simp [go_sem]
  · simp only [invoke]; rw [run_callFunc hent]
  · refine (callsIn_wide (n := 0)).2 ((hit l W1
      (fun k W => J k W ∧ W.heap[l]? = some (.loop (rec .ready none)) ∧ MK D0 true ro n0 (mark ++ ds) W)
      (fun W => ∃ x c, Jx x W ∧ codeOf x = some c ∧ W.heap[l]? = some (.loop (rec .done (some c))) ∧ MK D0 true ro n0 (mark ++ ds) W)
      hext hl hlW1 ?_ ?_ ?_ ⟨hJ 0 _ _ hJ0 (.of_ext hext), hl1', hmk1⟩).mono ?_)
    · rintro k A B ⟨h1, h2, h3⟩ hx
      exact ⟨hJ k _ _ h1 (.of_ext hx), by rw [hx.block l (Array.getElem?_eq_some_iff.1 h2).1]; exact h2, h3.keep hx.size fun k _ hk => hx.block k hk⟩
    · rintro A B ⟨x, c, h1, hc, h2, h3⟩ hx
      exact ⟨x, c, hJx x _ _ h1 (.of_ext hx), hc, by rw [hx.block l (Array.getElem?_eq_some_iff.1 h2).1]; exact h2, h3.keep hx.size fun k _ hk => hx.block k hk⟩
    · rintro k x W hx ⟨hj, hlW, hmW⟩
      have hxl : x.length = ps.toList.length := by rw [hlen x (List.mem_of_getElem? hx)]; simp
      have hy := run_yield (P := P) (args := x.toArray) hlW (by rw [hrec]; simpa using hxl)
      have hr := hround k x W hx hj
      refine ⟨_, _, _, _, hy, ?_⟩
      rw [hrec]
      have htm : ((ps.zip x.toArray).foldl (fun tmps (t, a) => tmps.setIfInBounds t a) e.toArray) = (setP ps.toList x 0 e).toArray := by
        have := setP_fold ps.toList x [] e hxl
        simp only [List.nil_append, List.length_nil] at this
        rw [← this]
        have hz : ps.zip x.toArray = (ps.toList.zip x).toArray := by
          conv => lhs; rw [show ps = ps.toList.toArray by simp]
          rw [List.zip_toArray]
        rw [hz, List.foldl_toArray]
      simp only [htm]
      have hF : (FW none).fn fn := trivial
      refine roundIn_of_wpIn (F := FW none) hF (wpIn_mono (hA l _ W _ ⟨rfl, _, hlW⟩ hr) ?_)
      intro y a w2 hp
      cases y with
      | normal =>
        obtain ⟨e2, ds2, rfl, _, ⟨rfl, r2, hr2⟩, hx2, hbody⟩ := hp
        have hlw2 : w2.heap[l]? = some (.loop (rec .ready none)) := by rw [hx2.block l (Array.getElem?_eq_some_iff.1 hlW).1]; exact hlW
        refine ⟨_, run_beginRound hlw2 (by rw [hrec]), ?_⟩
        have hl2 : l < w2.heap.size := (Array.getElem?_eq_some_iff.1 hlw2).1
        obtain ⟨w3, hw3⟩ : ∃ w3, w2.putObj l (.loop { rec .ready none with state := .busy }) = w3 := ⟨_, rfl⟩
        rw [hw3]
        have hlw3 : w3.heap[l]? = some (.loop { rec .ready none with state := .busy }) := by rw [← hw3]; exact World.putObj_heap_same hl2
        have hnl : Nl w.heap.size w2 w3 := by rw [← hw3]; exact .putObj _ hl hlw2 rfl
        have hoth : ∀ k, k ≠ l → w3.heap[k]? = w2.heap[k]? := fun k hk => by rw [← hw3]; exact World.putObj_heap_other hk
        have hsz3 : w3.heap.size = w2.heap.size := by rw [← hw3]; simp
        refine wpIn_mono (hB l e2 w3 _ ⟨rfl, _, hlw3⟩ (hbody w3 hnl)) ?_
        intro z a4 w4 hz
        have fin : ∀ (jump : Option Code), ExtBut S w3 w4 →
            ∃ w5, (Instr.endRound l jump).run P w4 = .ok (.bool jump.isNone) w5 ∧ w5.heap[l]? = some (.loop (rec (if jump.isNone then .ready else .done) jump)) ∧ Nl w.heap.size w4 w5 ∧
              MK D0 true ro n0 (mark ++ ds) w5 ∧ ExtBut (fun b => S b ∨ b = l) W w5 := by
          intro jump hx4
          have hlw4 : w4.heap[l]? = some (.loop { rec .ready none with state := .busy }) := by rw [hx4.block l (by rw [hsz3]; exact hl2) hlS]; exact hlw3
          have hl4 : l < w4.heap.size := (Array.getElem?_eq_some_iff.1 hlw4).1
          have he := run_endRound (P := P) jump hlw4
          refine ⟨_, he, ?_, .putObj _ hl hlw4 rfl, ?_, ?_⟩
          · rw [hrec]; exact World.putObj_heap_same hl4
          · refine hmW.keep (by simp; have := hx4.size; have := hx2.size; omega) fun k hk hlt => ?_
            have h1 := hx2.size
            rw [World.putObj_heap_other (hrel k hk).1, hx4.block k (by omega) (hrS k hk), hoth k (hrel k hk).1, hx2.block k hlt]
          · refine ⟨?_, ?_, ?_, by simp; have := hx4.size; have := hx2.size; omega, fun k hk hn => ?_⟩
            · exact hx4.os.trans (hnl.os.trans hx2.os)
            · exact hx4.tape.trans (hnl.tape.trans hx2.tape)
            · exact hx4.output.trans (hnl.output.trans hx2.output)
            · simp only [not_or] at hn
              have h1 := hx2.size
              rw [World.putObj_heap_other hn.2, hx4.block k (by omega) hn.1, hoth k hn.2, hx2.block k hk]
        cases z with
        | normal =>
          obtain ⟨e4, ds4, rfl, _, _, hx4, hj4⟩ := hz
          obtain ⟨w5, hr5, hl5, hn5, hm5, hx5⟩ := fin none hx4
          exact ⟨_, w5, hr5, true, rfl, hx5, hJ _ _ _ hj4 hn5, (by rw [hrec] at hl5; exact hl5), hm5⟩
        | ret =>
          obtain ⟨e4, ds4, rfl, _, _, hx4, hj4⟩ := hz
          obtain ⟨w5, hr5, hl5, hn5, hm5, hx5⟩ := fin (some .ret) hx4
          exact ⟨_, w5, hr5, false, rfl, hx5, .ret, _, hJx _ _ _ hj4 hn5, rfl, (by rw [hrec] at hl5; exact hl5), hm5⟩
        | exit id =>
          obtain ⟨e4, ds4, rfl, _, _, hx4, hj4⟩ := hz
          obtain ⟨w5, hr5, hl5, hn5, hm5, hx5⟩ := fin (some (.exit id)) hx4
          exact ⟨_, w5, hr5, false, rfl, hx5, .exit id, _, hJx _ _ _ hj4 hn5, rfl, (by rw [hrec] at hl5; exact hl5), hm5⟩
        | goto t =>
          obtain ⟨e4, ds4, rfl, _, _, hx4, hj4⟩ := hz
          obtain ⟨w5, hr5, hl5, hn5, hm5, hx5⟩ := fin (some (.goto t)) hx4
          exact ⟨_, w5, hr5, false, rfl, hx5, .goto t, _, hJx _ _ _ hj4 hn5, rfl, (by rw [hrec] at hl5; exact hl5), hm5⟩
        | panic ch => exact hz.2.elim
        | outgrown => exact hz.elim
      | panic ch => exact hp.2.elim
      | outgrown => exact hp.elim
      | ret => obtain ⟨_, _, _, _, _, h⟩ := hp; exact h.elim
      | exit id => obtain ⟨_, _, _, _, _, h⟩ := hp; exact h.elim
      | goto t => obtain ⟨_, _, _, _, _, h⟩ := hp; exact h.elim
    · rintro y W2 ⟨⟨v, rfl⟩, (⟨hj, hlW, hmW⟩ | ⟨x, c, hj, hc, hlW, hmW⟩)⟩
      · have he := run_endLoop (P := P) hlW (by rw [hrec]; simp)
        refine ⟨none, W2.putObj l (.loop { rec .ready none with state := .exhausted }), by rw [hrec] at he ⊢; exact he, e, mark ++ ds, rfl, .refl _ _, ?_, hKn _ (hJ _ _ _ hj (.putObj _ hl hlW rfl))⟩
        exact hmW.keep (by simp) fun k hk _ => World.putObj_heap_other (hrel k hk).1
      · have he := run_endLoop (P := P) hlW (by rw [hrec]; simp)
        have hmW' := hmW.keep (n0 := n0) (W2 := W2.putObj l (.loop { rec .done (some c) with state := .exhausted })) (by simp) fun k hk _ => World.putObj_heap_other (hrel k hk).1
        have hj' := hJx _ _ _ hj (.putObj (.loop { rec .done (some c) with state := .exhausted }) hl hlW rfl)
        refine ⟨some c, W2.putObj l (.loop { rec .done (some c) with state := .exhausted }), by rw [hrec] at he ⊢; exact he, ?_⟩
        cases x with
        | ret => simp only [codeOf, Option.some.injEq] at hc; subst hc; exact wpIn_ret ⟨e, mark ++ ds, rfl, .refl _ _, hmW', hKr _ hj'⟩
        | exit id =>
          simp only [codeOf, Option.some.injEq] at hc; subst hc
          obtain ⟨K, hK, hk⟩ := hKx id _ hj'
          obtain ⟨id', _, hid⟩ := List.mem_map.1 hK
          simp only [Prod.mk.injEq] at hid
          obtain ⟨rfl, rfl⟩ := hid
          exact wpIn_exit ⟨e, mark ++ ds, rfl, .refl _ _, hmW', hk⟩
        | goto t => exact absurd hj' (hKg t _)
        | normal => cases hc
        | panic ch => cases hc
        | outgrown => cases hc

theorem wr_cond {a b : Code} {t : Nat} : (t ∈ wr a → t ∈ wr a ++ wr b) ∧ (t ∈ wr b → t ∈ wr a ++ wr b) := ⟨fun h => List.mem_append_left _ h, fun h => List.mem_append_right _ h⟩

/-- **THE SHALLOW READING IS SOUND.** -/
theorem sw_sound (hm : P.follows .mixedOrders = true) : ∀ (c : Code) (A : Ann) (cf : Cf) (ro : Option Nat) (Kp : List PanicEntry → World → Prop) (e : Env) (ds : List Deferred) (w : World) (Q : Exit → Env → World → Prop),
    chk cf P ro.isSome A c = true → MK D0 cf.marks ro n0 ds w → sw cf P Kp A c e w Q → c.wpIn (FW ro) 0 P (Post D0 cf.marks ro n0 Kp (wr c) e Q) (act e ds) w := by
  intro c
  induction c with
  | skip => intro A cf ro Kp e ds w Q _ hmk h; refine wpIn_skip ⟨e, ds, rfl, .refl _ _, hmk, ?_⟩; cases A <;> exact h
  | label l => intro A cf ro Kp e ds w Q _ hmk h; refine wpIn_label ⟨e, ds, rfl, .refl _ _, hmk, ?_⟩; cases A <;> exact h
  | exit id => intro A cf ro Kp e ds w Q _ hmk h; refine wpIn_exit ⟨e, ds, rfl, .refl _ _, hmk, ?_⟩; cases A <;> exact h
  | ret => intro A cf ro Kp e ds w Q _ hmk h; refine wpIn_ret ⟨e, ds, rfl, .refl _ _, hmk, ?_⟩; cases A <;> exact h
  | goto l => intro A cf ro Kp e ds w Q hc; cases A <;> cases hc
  | refuse y => intro A cf ro Kp e ds w Q hc; cases A <;> cases hc
  | scope a => intro A cf ro Kp e ds w Q hc; cases A <;> cases hc
  | region id ops draw =>
    intro A cf ro Kp e ds w Q hc hmk h
    cases A <;> first | cases hc | skip
    rename_i its
    exact region_sound hm hc hmk h
  | seq a b iha ihb =>
    intro A cf ro Kp e ds w Q hc hmk h
    cases A <;> first | cases hc | skip
    · rename_i A B
      simp only [chk, Bool.and_eq_true] at hc
      refine wpIn_seq (wpIn_mono (iha A cf ro Kp e ds w _ hc.1 hmk h) ?_)
      intro x a1 w1 hx
      cases x with
      | normal =>
        obtain ⟨e1, ds1, rfl, h1, h2, h3⟩ := hx
        exact wpIn_mono (ihb B cf ro Kp e1 ds1 w1 Q hc.2 h2 h3) fun x a w h => h.mono (h1.mono fun t => wr_cond.1) (fun t => wr_cond.2) fun _ _ _ h => h
      | panic ch => obtain ⟨⟨e1, ds1, h0, h1, h2⟩, h3⟩ := hx; exact ⟨⟨e1, ds1, h0, h1.mono fun t => wr_cond.1, h2⟩, h3⟩
      | outgrown => exact hx
      | _ => obtain ⟨e1, ds1, h0, h1, h2, h3⟩ := hx; exact ⟨e1, ds1, h0, h1.mono fun t => wr_cond.1, h2, h3⟩
    · rename_i live A B
      simp only [chk, Bool.and_eq_true] at hc
      have h := h (fun s w1 => ∀ e1 ds1, s = live.map (fun t => e1.getD t undef) → Ag (wr a) e e1 → MK D0 cf.marks ro n0 ds1 w1 → b.wpIn (FW ro) 0 P (Post D0 cf.marks ro n0 Kp (wr a ++ wr b) e Q) (act e1 ds1) w1)
        (fun s w1 hY => fun e1 ds1 hs ha hm1 => by
          subst hs
          have := hY e1
          simp only [mix_eq ha] at this
          exact wpIn_mono (ihb B cf ro Kp e1 ds1 w1 Q hc.2 hm1 this) fun x a w h => h.mono (ha.mono fun t => wr_cond.1) (fun t => wr_cond.2) fun _ _ _ h => h)
      refine wpIn_seq (wpIn_mono (iha A cf ro Kp e ds w _ hc.1 hmk h) ?_)
      intro x a1 w1 hx
      cases x with
      | normal => obtain ⟨e1, ds1, rfl, h1, h2, h3⟩ := hx; exact h3 e1 ds1 rfl h1 h2
      | panic ch => obtain ⟨⟨e1, ds1, h0, h1, h2⟩, h3⟩ := hx; exact ⟨⟨e1, ds1, h0, h1.mono fun t => wr_cond.1, h2⟩, h3⟩
      | outgrown => exact hx
      | _ => obtain ⟨e1, ds1, h0, h1, h2, h3⟩ := hx; exact ⟨e1, ds1, h0, h1.mono fun t => wr_cond.1, h2, h3⟩
  | cond c a b iha ihb =>
    intro A cf ro Kp e ds w Q hc hmk h
    cases A <;> first | cases hc | skip
    rename_i A B
    simp only [chk, Bool.and_eq_true] at hc
    rcases oCond_spec h with ⟨hb, h⟩ | ⟨hb, h⟩
    · exact wpIn_cond_true (by rw [act_eval]; exact hb) (wpIn_mono (iha A cf ro Kp e ds w Q hc.1 hmk h) fun x a w h => h.mono (.refl _ _) (fun t => wr_cond.1) fun _ _ _ h => h)
    · exact wpIn_cond_false (by rw [act_eval]; exact hb) (wpIn_mono (ihb B cf ro Kp e ds w Q hc.2 hmk h) fun x a w h => h.mono (.refl _ _) (fun t => wr_cond.2) fun _ _ _ h => h)
  | block id a iha =>
    intro A cf ro Kp e ds w Q hc hmk h
    cases A <;> first | cases hc | skip
    rename_i A
    refine wpIn_block (wpIn_mono (iha A cf ro Kp e ds w _ hc hmk h) ?_)
    intro x a1 w1 hx
    cases x with
    | exit id' =>
      obtain ⟨e1, ds1, h0, h1, h2, h3⟩ := hx
      simp only [Exit.inBlock]
      cases hb : Nat.beq id' id with
      | true => rw [if_pos (Nat.eq_of_beq_eq_true hb)]; simp only [hb] at h3; exact ⟨e1, ds1, h0, h1, h2, h3⟩
      | false => rw [if_neg (Nat.ne_of_beq_eq_false hb)]; simp only [hb] at h3; exact ⟨e1, ds1, h0, h1, h2, h3⟩
    | panic ch => exact hx
    | outgrown => exact hx
    | _ => exact hx
  | loop a iha =>
    intro A cf ro Kp e ds w Q hc hmk h
    cases A <;> first | cases hc | skip
    rename_i live A
    obtain ⟨ι, f, I, μ, i₀, hi0, hI0, hround⟩ := h
    have hcl : ∃ C : Act → Option ι, ∀ a, (∃ i, ∃ e1 ds1, a = act e1 ds1 ∧ live.map (fun t => e1.getD t undef) = f i) → True := ⟨fun _ => none, fun _ _ => trivial⟩
    clear hcl
    intro b k cs hro hb hr
    have key : ∀ j i e1 ds1 w1, μ i = j → live.map (fun t => e1.getD t undef) = f i → Ag (wr a) e e1 → MK D0 cf.marks ro n0 ds1 w1 → I i w1 →
        ∃ x a' w', Post D0 cf.marks ro n0 Kp (wr a) e Q x a' w' ∧ ArrivesIn (Machine.fenced P (FW ro)) P (lone (b.atR (act e1 ds1) (.code a :: .inLoop a :: k)) cs w1) b k cs x a' w' := by
      intro j
      induction j using Nat.strongRecOn with
      | _ j ih =>
        intro i e1 ds1 w1 hj hl hag hm1 hI
        have hbody := hround i e1 w1 hI
        rw [← hl] at hbody
        simp only [mix_eq hag] at hbody
        obtain ⟨x, a1, w2, hq, harr⟩ := iha A cf ro Kp e1 ds1 w1 _ hc hm1 hbody b (.inLoop a :: k) cs hro hb hr
        have pass : ∀ x, x ≠ .normal → x ≠ .outgrown → ArrivesIn (Machine.fenced P (FW ro)) P (lone (b.atR (act e1 ds1) (.code a :: .inLoop a :: k)) cs w1) b (.inLoop a :: k) cs x a1 w2 →
            ArrivesIn (Machine.fenced P (FW ro)) P (lone (b.atR (act e1 ds1) (.code a :: .inLoop a :: k)) cs w1) b k cs x a1 w2 :=
          fun x hx _ h => .pass (x := .inLoop a) rfl (fun _ _ => .inl hx) h
        cases x with
        | normal =>
          obtain ⟨e2, ds2, rfl, hag2, hm2, i', hl2, hI2, hlt⟩ := hq
          obtain ⟨x, a', w', hq', harr'⟩ := ih (μ i') (hj ▸ hlt) i' e2 ds2 w2 rfl hl2 (hag.trans hag2) hm2 hI2
          exact ⟨x, a', w', hq', .of_steps (StepsIn.trans harr (.one (fenced_calm hb hr rfl) stepR_inLoop)) harr'⟩
        | panic ch => obtain ⟨⟨e2, ds2, h0, h1, h2⟩, h3⟩ := hq; exact ⟨.panic ch, a1, w2, ⟨⟨e2, ds2, h0, hag.trans h1, h2⟩, h3⟩, pass _ (by simp) (by simp) harr⟩
        | outgrown => exact hq.elim
        | exit id => obtain ⟨e2, ds2, h0, h1, h2, h3⟩ := hq; exact ⟨.exit id, a1, w2, ⟨e2, ds2, h0, hag.trans h1, h2, h3⟩, pass _ (by simp) (by simp) harr⟩
        | goto l => obtain ⟨e2, ds2, h0, h1, h2, h3⟩ := hq; exact ⟨.goto l, a1, w2, ⟨e2, ds2, h0, hag.trans h1, h2, h3⟩, pass _ (by simp) (by simp) harr⟩
        | ret => obtain ⟨e2, ds2, h0, h1, h2, h3⟩ := hq; exact ⟨.ret, a1, w2, ⟨e2, ds2, h0, hag.trans h1, h2, h3⟩, pass _ (by simp) (by simp) harr⟩
    obtain ⟨x, a', w', hq, harr⟩ := key _ i₀ e ds w rfl hi0 (.refl _ _) hmk hI0
    exact ⟨x, a', w', hq, .of_steps (.one (fenced_calm hb hr rfl) stepR_loop) harr⟩
  | rangeFunc g ps assign body iha ihb =>
    intro A cf ro Kp e ds w Q hc hmk h
    cases A <;> first | cases hc | skip
    rename_i ids A B
    simp only [chk, Bool.and_eq_true] at hc
    obtain ⟨⟨hmarks, hcA⟩, hcB⟩ := hc
    have hmk' : MK D0 true ro n0 ds w := by rw [hmarks] at hmk; exact hmk
    rw [hmarks]
    have hc' : ({ cf with pan := false } : Cf).marks = true := hmarks
    refine range_sound (rA := fun e1 w1 Q1 => sw { cf with pan := false } P (fun _ _ => False) A assign e1 w1 Q1) (rB := fun e1 w1 Q1 => sw { cf with pan := false } P (fun _ _ => False) B body e1 w1 Q1) (ids := ids) ?_ ?_ hmk' h
    · intro l e1 w1 Q1 hm1 h1
      have := iha A { cf with pan := false } (some l) (fun _ _ => False) e1 [] w1 Q1 hcA (by rw [hc']; exact hm1) h1
      rw [hc'] at this; exact this
    · intro l e1 w1 Q1 hm1 h1
      have := ihb B { cf with pan := false } (some l) (fun _ _ => False) e1 [] w1 Q1 hcB (by rw [hc']; exact hm1) h1
      rw [hc'] at this; exact this

/-! ### A function's contract -/
def resF (tm : Array Value) : ResultVar → Sem Value
  | .tmp t => pure (tm.getD t undef)
  | .cell a t => do loadVar t (← asAddr (tm.getD a undef))
theorem resQ_run {w : World} {e : Env} : ∀ (rs : List ResultVar) (K : List Value → Prop), resQ P w e rs K →
    ∃ vs, (rs.mapM (resF e.toArray)).run P w = .ok vs w ∧ K vs
  | [], K, h => ⟨[], rfl, h⟩
  | .tmp t :: r, K, h => by
    obtain ⟨vs, h1, h2⟩ := resQ_run r _ h
    refine ⟨_, ?_, h2⟩
    have h0 : (resF e.toArray (.tmp t)).run P w = .ok (e.getD t undef) w := by simp [resF, pure]
    simp only [List.mapM_cons, Sem.run_bind, h0, Result.andThen, h1]
    rfl
  | .cell a t :: r, K, h => by
    obtain ⟨v, hv, h⟩ := h
    obtain ⟨vs, h1, h2⟩ := resQ_run r _ h
    refine ⟨_, ?_, h2⟩
    have hv' := hv w (Ext.refl w)
    have h0 : (resF e.toArray (.cell a t)).run P w = .ok v w := by
      have : e.toArray.getD a undef = e.getD a undef := by simp
      simp only [resF, this]; exact hv'
    simp only [List.mapM_cons, Sem.run_bind, h0, Result.andThen, h1]
    rfl
theorem results_of {f : Func} {w : World} {e : Env} {K : List Value → Prop} (h : resQ P w e f.results.toList K) : ∃ vs, (results f e.toArray).run P w = .ok (tup vs) w ∧ K vs := by
  obtain ⟨vs, h1, h2⟩ := resQ_run _ _ h
  refine ⟨vs, ?_, h2⟩
  have hr : results f e.toArray = (do let vs ← f.results.mapM (resF e.toArray); pure (if h : vs.size = 1 then vs[0] else .tuple vs)) := rfl
  rw [hr, Array.mapM_eq_mapM_toList]
  simp only [Sem.run_bind, map_eq_pure_bind, h1, Result.andThen]
  match vs with
  | [] => rfl
  | [v] => rfl
  | a :: b :: r => rfl

theorem Shuts.refl (n : Nat) (w : World) : Shuts n w w := ⟨rfl, rfl, rfl, rfl, fun _ _ => rfl⟩
theorem Shuts.trans {n : Nat} {a b c : World} (h : Shuts n a b) (k : Shuts n b c) : Shuts n a c :=
  ⟨k.os.trans h.os, k.tape.trans h.tape, k.output.trans h.output, k.size.trans h.size, fun i hi => by
    have h1 := h.block i hi
    rw [k.block i (hi.imp id fun hd ds => by rw [h1]; exact hd ds), h1]⟩
theorem Shuts.put {n r : Nat} {w : World} {ds : Option (List Deferred)} (hr : n ≤ r) (h : w.heap[r]? = some (.deferred ds)) : Shuts n w (w.putObj r (.deferred none)) :=
  ⟨rfl, rfl, rfl, by simp, fun k hk => by
    refine World.putObj_heap_other fun e => ?_
    subst e
    rcases hk with hk | hk
    · omega
    · exact hk _ h⟩
theorem leaves_marks {fn : Func} {tmps : Array Value} {R : Ending → World → Prop} {n : Nat} {u : FrameMode} (hu : u ≠ .run) : ∀ (rs : List Nat) (w : World), rs.Nodup → (∀ r ∈ rs, n ≤ r ∧ w.heap[r]? = some (.deferred (some []))) →
    (∀ w', Shuts n w w' → LeavesIn (FW none) 0 P fn tmps R [] u w') → LeavesInM (FW none) 0 P fn tmps R (rs.map fun r => { target := .collected r, args := #[] }) u w
  | [], w, _, _, h => h w (.refl _ _)
  | r :: rs, w, hn, hr, h => by
    obtain ⟨h1, h2⟩ := hr r List.mem_cons_self
    rw [List.nodup_cons] at hn
    refine ⟨hu, .inl ⟨r, _, rfl, run_takeDeferred h2, leaves_marks hu rs _ hn.2 (fun r' hr' => ⟨(hr r' (List.mem_cons_of_mem _ hr')).1, ?_⟩) fun w' hw' => h w' ((Shuts.put h1 h2).trans hw')⟩⟩
    rw [World.putObj_heap_other fun e => hn.1 (by rw [← e]; exact hr')]
    exact (hr r' (List.mem_cons_of_mem _ hr')).2

def kpTop (m : Bool) (n : Nat) (Kp : List PanicEntry → World → Prop) : List PanicEntry → World → Prop :=
  match m with
  | false => Kp
  | true => fun c w => ∀ w', Shuts n w w' → Kp c w'

theorem callsP_of_sw {cf : Cf} {f : FuncId} {fn : Func} {A : Ann} {args : Array Value} {w : World} {K : Value → World → Prop} {Kp Kp0 : List PanicEntry → World → Prop}
    (hkp : ∀ c w', Kp0 c w' → kpTop cf.marks w.heap.size Kp c w') (hm : P.follows .mixedOrders = true) (hf : P.funcs[f]? = some fn) (hb : fn.body.isSome = true) (hc : chk cf P false A (bodyOf fn) = true)
    (h : sw cf P Kp0 A (bodyOf fn) (args.toList ++ List.replicate (fn.ntmps - args.size) undef) w (topQ cf.marks P fn w K)) : oCallP P f args w K Kp := by
  obtain ⟨c, hbc⟩ := Option.isSome_iff_exists.1 hb
  have hbody : bodyOf fn = c := by simp [bodyOf, hbc]
  rw [hbody] at hc h
  refine (callsIn_wide (n := 0)).1 (callsIn_of_wp_marks (F := FW none) hf hbc trivial ?_)
  have hact : ({ tmps := args ++ Array.replicate (fn.ntmps - args.size) undef, defers := [] } : Act) = act (args.toList ++ List.replicate (fn.ntmps - args.size) undef) [] := by
    simp only [act, Act.mk.injEq, and_true]
    apply Array.ext'
    simp
  rw [hact]
  have hmk : MK [] cf.marks none w.heap.size [] w := by
    cases hmm : cf.marks with
    | false => rfl
    | true => exact ⟨Nat.le_refl _, (fun d hd => by cases hd), [], rfl, List.nodup_nil, (fun r hr => by cases hr)⟩
  refine wpIn_mono (sw_sound (n0 := w.heap.size) hm c A cf none _ _ [] w _ hc hmk h) ?_
  have leave : ∀ (a : Act) (w' : World), (∃ e ds, a = act e ds ∧ Ag (wr c) (args.toList ++ List.replicate (fn.ntmps - args.size) undef) e ∧ MK [] cf.marks none w.heap.size ds w' ∧ finQ cf.marks P fn w.heap.size e w' K) →
      LeavesInM (FW none) 0 P fn a.tmps (fun
        | .returned v, w' => K v w'
        | .panicked c, w' => Kp c w'
        | .outgrown, _ => False) a.defers .returning w' := by
    rintro a w' ⟨e, ds, rfl, _, hmk, hq⟩
    cases hmm : cf.marks with
    | false =>
      rw [hmm] at hmk hq
      have hds : ds = [] := hmk
      subst hds
      obtain ⟨vs, h1, h2⟩ := results_of hq
      exact ⟨_, h1, h2⟩
    | true =>
      rw [hmm] at hmk hq
      obtain ⟨_, _, rs, hds, hnd, hrs⟩ := hmk
      rw [List.append_nil] at hds
      subst hds
      refine leaves_marks (by simp) rs w' hnd hrs fun w'' hw => ?_
      obtain ⟨vs, h1, h2⟩ := results_of (hq w'' hw)
      exact ⟨_, h1, h2⟩
  intro x a w' hx
  cases x with
  | normal => exact leave a w' hx
  | ret => exact leave a w' hx
  | panic ch =>
    obtain ⟨⟨e, ds, rfl, _, hmk⟩, hk⟩ := hx
    have hk := hkp _ _ hk
    show LeavesInM _ _ _ _ _ _ _ _ _
    cases hmm : cf.marks with
    | false =>
      rw [hmm] at hmk hk
      have hds : ds = [] := hmk
      subst hds; exact hk
    | true =>
      rw [hmm] at hmk hk
      obtain ⟨_, _, rs, hds, hnd, hrs⟩ := hmk
      rw [List.append_nil] at hds
      subst hds
      exact leaves_marks (by simp) rs w' hnd hrs fun w'' hw => hk w'' hw
  | outgrown => exact hx.elim
  | exit id => obtain ⟨_, _, _, _, _, h⟩ := hx; exact h.elim
  | goto l => obtain ⟨_, _, _, _, _, h⟩ := hx; exact h.elim

theorem calls_of_sw {cf : Cf} {f : FuncId} {fn : Func} {A : Ann} {args : Array Value} {w : World} {K : Value → World → Prop}
    (hm : P.follows .mixedOrders = true) (hf : P.funcs[f]? = some fn) (hb : fn.body.isSome = true) (hc : chk cf P false A (bodyOf fn) = true)
    (h : sw cf P (fun _ _ => False) A (bodyOf fn) (args.toList ++ List.replicate (fn.ntmps - args.size) undef) w (topQ cf.marks P fn w K)) : oCall P f args w K := by
  have hp := callsP_of_sw (Kp := fun _ _ => False) (fun _ _ h => h.elim) hm hf hb hc h
  refine hp.mono fun x w' hx => ?_
  cases x with
  | returned v => exact ⟨v, rfl, hx⟩
  | panicked c => exact hx.elim
  | outgrown => exact hx.elim
end
end Go.Sh
