/-
  Steps of the shallow reading: stores, slices, appends, pieces of values, ways that part and meet.
-/
import Derived.Test.YtajllnahceaipaaDoorSh8
import Derived.Maps.AppendAt
namespace Go.Sh
open Go.RowKit

section
variable {P : Program} {w : World} {t : TypeId}

theorem setRow_facts {b : Nat} {c : List Value} {T : TypeId} (B : Blk w b c T) (c' : List Value) :
    ExtBut (· = b) w (w.setRow b c'.toArray) ∧ (w.setRow b c'.toArray).heap.size = w.heap.size ∧ Blk (w.setRow b c'.toArray) b c' T :=
  ⟨⟨rfl, rfl, rfl, by simp [World.setRow], fun k _ hk => setRow_other w b k _ hk⟩, by simp [World.setRow], setRow_heap w b _ _ T (0, 0) B⟩

theorem w_store {K : World → Prop} {v : Value} {b off : Nat} {c : List Value} {T : TypeId} (hs : szT P t = some v.cells.size) (B : Blk w b c T) (hfit : off + v.cells.size ≤ c.length)
    (h1 : ∀ u ∈ v.cells.toList, u.oneCell' = true)
    (h : ∀ w', ExtBut (· = b) w w' → w'.heap.size = w.heap.size → Blk w' b (c.take off ++ v.cells.toList ++ c.drop (off + v.cells.size)) T → K w') :
    opU P w (Instr.storeAt t (.pointer (some ⟨b, off, none⟩)) v) K := by
  obtain ⟨h2, h3, h4⟩ := setRow_facts B (c.take off ++ v.cells.toList ++ c.drop (off + v.cells.size))
  refine ⟨_, ?_, h _ h2 h3 h4⟩
  have hst := run_storeCells_at P b off T v.cells.toList 0 c.toArray w B (by simpa using hfit) h1
  simp only [Nat.add_zero, Array.length_toList] at hst
  simp [Instr.storeAt, Instr.sureAddr, storeVar, Sem.run_bind, Sem.run, pure, Result.andThen, run_sizeOf' hs, hst]
/-- the whole of a block is written -/
theorem w_storeB {K : World → Prop} {v : Value} {b : Nat} {c : List Value} {T : TypeId} (hs : szT P t = some v.cells.size) (B : Blk w b c T) (hfit : v.cells.size = c.length)
    (h1 : ∀ u ∈ v.cells.toList, u.oneCell' = true)
    (h : ∀ w', ExtBut (· = b) w w' → w'.heap.size = w.heap.size → Blk w' b v.cells.toList T → K w') :
    opU P w (Instr.storeAt t (.pointer (some ⟨b, 0, none⟩)) v) K :=
  w_store hs B (by omega) h1 fun w' h2 h3 h4 => h w' h2 h3 (by simpa [hfit] using h4)
/-- one cell of a block is written -/
theorem w_store1 {K : World → Prop} {v : Value} {b off : Nat} {c : List Value} {T : TypeId} (hs : szT P t = some 1) (B : Blk w b c T) (hfit : off < c.length) (h1 : v.oneCell' = true)
    (h : ∀ w', ExtBut (· = b) w w' → w'.heap.size = w.heap.size → Blk w' b (c.set off v) T → K w') :
    opU P w (Instr.storeAt t (.pointer (some ⟨b, off, none⟩)) v) K := by
  have hv : v.cells = #[v] := by cases v <;> first | rfl | cases h1
  refine w_store (by rw [hv]; exact hs) B (by rw [hv]; exact hfit) (by rw [hv]; simpa using h1) fun w' h2 h3 h4 => h w' h2 h3 ?_
  rw [hv] at h4
  have : c.take off ++ [v] ++ c.drop (off + 1) = c.set off v := by
    rw [List.set_eq_take_append_cons_drop, if_pos hfit]; simp
  simpa [this] using h4

/-! ### Lengths, pieces -/
section
variable {K : Value → Prop}
theorem p_lenS {ty e : TypeId} {n : Nat} {p : Option Addr} {len cap : Nat} (h : slT P t = some (e, n)) (k : K (.int .i64 len)) : opP P (Builtin.len_ #[t] ty #[.slice p len cap]) K := by
  refine p_of (fun w => ?_) k
  unfold slT at h
  cases hu : P.underlying t with
  | none => rw [hu] at h; cases h
  | some d =>
    rw [hu] at h
    cases d <;> first | cases h | skip
    simp [Builtin.len_, Sem.run_bind, run_underlying' hu, Result.andThen, Sem.run, pure, goInt]
theorem p_capS {ty e : TypeId} {n : Nat} {p : Option Addr} {len cap : Nat} (h : slT P t = some (e, n)) (k : K (.int .i64 cap)) : opP P (Builtin.cap_ #[t] ty #[.slice p len cap]) K := by
  refine p_of (fun w => ?_) k
  unfold slT at h
  cases hu : P.underlying t with
  | none => rw [hu] at h; cases h
  | some d =>
    rw [hu] at h
    cases d <;> first | cases h | skip
    simp [Builtin.cap_, Sem.run_bind, run_underlying' hu, Result.andThen, Sem.run, pure, goInt]
def strT (P : Program) (t : TypeId) : Bool := match P.underlying t with | some .string => true | _ => false
theorem strT_spec (h : strT P t = true) : P.underlying t = some .string := by
  unfold strT at h
  cases hu : P.underlying t with
  | none => rw [hu] at h; cases h
  | some d => rw [hu] at h; cases d <;> first | rfl | cases h
theorem p_lenStr {ty : TypeId} {s : ByteArray} (h : strT P t = true) (k : K (.int .i64 s.size)) : opP P (Builtin.len_ #[t] ty #[.string s]) K :=
  p_of (fun w => by simp [Builtin.len_, Sem.run_bind, run_underlying' (strT_spec h), Result.andThen, Sem.run, pure, goInt]) k
theorem p_byte {s : ByteArray} {kd : IntKind} {i : Int} (h : strT P t = true) (h0 : 0 ≤ i) (h1 : i.toNat < s.size) (k : K (.int .u8 (s[i.toNat].toNat : Int))) : opP P (Instr.index t (.string s) (.int kd i)) K :=
  p_of (fun w => by simp [Instr.index, asIntOf, Sem.run_bind, run_underlying' (strT_spec h), Result.andThen, Sem.run, pure, h0, h1]) k
/-- s[:h] -/
theorem p_sliceHi {e : TypeId} {n : Nat} {p : Option Addr} {len cap : Nat} {kd : IntKind} {i : Int} (h : slT P t = some (e, n)) (h0 : 0 ≤ i) (h1 : i ≤ cap)
    (k : K (.slice p i.toNat cap)) : opP P (Instr.sliceAt t (.slice p len cap) none (some (.int kd i)) none) K := by
  refine p_of (fun w => ?_) k
  unfold slT at h
  cases hu : P.underlying t with
  | none => rw [hu] at h; cases h
  | some d =>
    rw [hu] at h
    cases d <;> first | cases h | skip
    rename_i e'
    simp only [Option.map_eq_some_iff, Prod.mk.injEq] at h
    obtain ⟨m, hs, rfl, rfl⟩ := h
    cases p with
    | none => simp [Instr.sliceAt, Instr.slice, Instr.sliceBounds, Instr.sliceBound, asIntOf, Sem.run_bind, run_underlying' hu, Result.andThen, Sem.run, pure, h0, h1, run_sizeOf' hs]
    | some a => simp [Instr.sliceAt, Instr.slice, Instr.sliceBounds, Instr.sliceBound, asIntOf, Sem.run_bind, run_underlying' hu, Result.andThen, Sem.run, pure, h0, h1, run_sizeOf' hs, Addr.add]
/-- s[l:] -/
theorem p_sliceLo {e : TypeId} {n : Nat} {p : Option Addr} {len cap : Nat} {kd : IntKind} {i : Int} (h : slT P t = some (e, n)) (h0 : 0 ≤ i) (h1 : i ≤ len)
    (k : K (.slice (if cap = i.toNat then p else p.map (·.add (i.toNat * n))) (len - i.toNat) (cap - i.toNat))) : opP P (Instr.sliceAt t (.slice p len cap) (some (.int kd i)) none none) K := by
  refine p_of (fun w => ?_) k
  unfold slT at h
  cases hu : P.underlying t with
  | none => rw [hu] at h; cases h
  | some d =>
    rw [hu] at h
    cases d <;> first | cases h | skip
    rename_i e'
    simp only [Option.map_eq_some_iff, Prod.mk.injEq] at h
    obtain ⟨m, hs, rfl, rfl⟩ := h
    simp [Instr.sliceAt, Instr.slice, Instr.sliceBounds, Instr.sliceBound, asIntOf, Sem.run_bind, run_underlying' hu, Result.andThen, Sem.run, pure, h0, h1, run_sizeOf' hs]
theorem p_strHi {s : ByteArray} {kd : IntKind} {i : Int} (h : strT P t = true) (h0 : 0 ≤ i) (h1 : i ≤ s.size) (k : K (.string (s.extract 0 i.toNat))) : opP P (Instr.sliceAt t (.string s) none (some (.int kd i)) none) K :=
  p_of (fun w => by simp [Instr.sliceAt, Instr.slice, Instr.sliceBounds, Instr.sliceBound, asIntOf, Sem.run_bind, run_underlying' (strT_spec h), Result.andThen, Sem.run, pure, h0, h1]) k
theorem p_strLo {s : ByteArray} {kd : IntKind} {i : Int} (h : strT P t = true) (h0 : 0 ≤ i) (h1 : i ≤ s.size) (k : K (.string (s.extract i.toNat s.size))) : opP P (Instr.sliceAt t (.string s) (some (.int kd i)) none none) K :=
  p_of (fun w => by simp [Instr.sliceAt, Instr.slice, Instr.sliceBounds, Instr.sliceBound, asIntOf, Sem.run_bind, run_underlying' (strT_spec h), Result.andThen, Sem.run, pure, h0, h1]) k

theorem p_ext {vs : Array Value} {i : Nat} {v : Value} (h : vs[i]? = some v) (k : K v) : opP P (Instr.extract (.tuple vs) i) K :=
  p_of (fun w => by simp [Instr.extract, h, pure]) k
theorem p_func {fn : Fn} {f c : Array Value} (k : K (.func fn f c)) : opP P (Instr.makeFunc fn f c) K := p_of (fun _ => rfl) k
def bldT (P : Program) (t : TypeId) (parts : Array (Nat × Value)) : Option (Array Value) :=
  match P.underlying t, zrT P t with
  | some (.struct fields), some z => (fields.mapM fun f => (szT P f.type).map fun n => (f.offset, n)).bind fun places => Instr.fill (places[·]?) z.toArray parts.toList
  | some (.array _ e), some z => (szT P e).bind fun n => Instr.fill (fun i => some (i * n, n)) z.toArray parts.toList
  | _, _ => none
theorem run_places {fields : List Field} : ∀ {ps : List (Nat × Nat)}, (fields.mapM fun f => (szT P f.type).map fun n => (f.offset, n)) = some ps →
    (fields.mapM (m := Sem) fun f => do pure (f.offset, ← sizeOf f.type)).run P w = .ok ps w := by
  induction fields with
  | nil => intro ps h; simp only [List.mapM_nil] at h; cases h; rfl
  | cons f fs ih =>
    intro ps h
    simp only [List.mapM_cons, Option.bind_eq_bind, Option.bind_eq_some_iff, Option.map_eq_some_iff] at h
    obtain ⟨x, ⟨n, hn, rfl⟩, y, hy, h⟩ := h
    cases h
    simp only [List.mapM_cons, Sem.run_bind, run_sizeOf' hn, Result.andThen, Sem.run_pure, ih hy]
theorem p_build {parts : Array (Nat × Value)} {cs : Array Value} (h : bldT P t parts = some cs) (k : K (.agg cs)) : opP P (Instr.build t parts) K := by
  refine p_of (fun w => ?_) k
  unfold bldT at h
  cases hu : P.underlying t with
  | none => rw [hu] at h; cases h
  | some d =>
    rw [hu] at h
    cases hz : zrT P t with
    | none => rw [hz] at h; cases d <;> cases h
    | some z =>
      rw [hz] at h
      obtain ⟨zv, hzv, hzr⟩ := run_zero hz
      cases d <;> first | (cases h; done) | skip
      · rename_i e
        simp only [Option.bind_eq_some_iff] at h
        obtain ⟨n, hn, h⟩ := h
        have hzc : z.toArray = zv.cells := by rw [← hzv]
        rw [hzc] at h
        simp [Instr.build, Sem.run_bind, hzr, Result.andThen, run_underlying' hu, run_sizeOf' hn, h, pure]
      · rename_i fields
        simp only [Option.bind_eq_some_iff] at h
        obtain ⟨ps, hps, h⟩ := h
        have hzc : z.toArray = zv.cells := by rw [← hzv]
        rw [hzc] at h
        have hl : (fields.toList.mapM fun f => (szT P f.type).map fun n => (f.offset, n)) = some ps.toList := by
          rw [← Array.toList_mapM, hps]; rfl
        have hr := run_places (w := w) hl
        have hr' : (fields.mapM (m := Sem) fun f => do pure (f.offset, ← sizeOf f.type)).run P w = .ok ps w := by
          rw [Array.mapM_eq_mapM_toList, map_eq_pure_bind, Sem.run_bind, hr]
          simp [Result.andThen]
        simp only [Instr.build, Sem.run_bind, hzr, Result.andThen, run_underlying' hu, hr', h, Sem.run_pure]
end

/-! ### Appends, makes -/
def apT (P : Program) (t : TypeId) : Option (TypeId × Nat × Nat) :=
  match P.underlying t with
  | some (.slice e) => (P.info? e).bind fun i => match i.zero with | some z => if z.cells.size = i.size ∧ 0 < i.size ∧ 0 < i.bytes then some (e, i.size, i.bytes) else none | none => none
  | _ => none
theorem w_append {K : Value → World → Prop} {base : Nat} {ty e : TypeId} {size bytes : Nat} {v : Value} {n : Nat} {xs : List Value} {p : Option Addr} {m c : Nat} {news : List Value}
    (hT : apT P t = some (e, size, bytes)) (hown : w.ownsRow base e size v n xs) (hs : Sl w p news) (hl : news.length = m * size) (hp : p = none → c = 0) (h1 : ∀ u ∈ news, u.oneCell' = true)
    (hb : (n + m) * bytes ≤ 140737488355328) (hbase : base ≤ w.heap.size)
    (h : ∀ v' w', w'.ownsRow base e size v' (n + m) (xs ++ news) → ExtBut (fun k => v.ownBlock = some k) w w' → (v'.ownBlock = v.ownBlock ∨ v'.ownBlock = some w.heap.size) →
      (v' = .slice none 0 0 ↔ v = .slice none 0 0 ∧ m = 0) → K v' w') :
    opW P w (Builtin.append_ #[t, t] ty #[v, .slice p m c]) K := by
  unfold apT at hT
  cases hu : P.underlying t with
  | none => rw [hu] at hT; cases hT
  | some d =>
    rw [hu] at hT
    cases d <;> first | (cases hT; done) | skip
    rename_i e'
    simp only [Option.bind_eq_some_iff] at hT
    obtain ⟨i, hi, hT⟩ := hT
    cases hz : i.zero with
    | none => rw [hz] at hT; cases hT
    | some z =>
      rw [hz] at hT
      simp only at hT
      split at hT
      · rename_i hc
        obtain ⟨hzs, hsz, hbp⟩ := hc
        simp only [Option.some.injEq, Prod.mk.injEq] at hT
        obtain ⟨rfl, rfl, rfl⟩ := hT
        cases p with
        | none =>
          have hn : news = [] := by
            cases news with
            | nil => rfl
            | cons a l => obtain ⟨b, off, hp, _⟩ := hs 0 a rfl; cases hp
          subst hn
          have hm : m = 0 := by
            rcases Nat.eq_zero_or_pos m with h | h
            · exact h
            · have := Nat.mul_pos h hsz; simp at hl; omega
          subst hm
          rw [hp rfl]
          exact ⟨v, w, run_append_owned_none w base t ty e' i i.size hu hi v n xs hown, h v w (by simpa using hown) (.refl _ _) (.inl rfl) (by simp)⟩
        | some a =>
          have h63 : n + m ≤ maxLen := by
            have : (n + m) * 1 ≤ (n + m) * i.bytes := Nat.mul_le_mul_left _ hbp
            simp only [maxLen]; omega
          obtain ⟨v', w', hr, ho, hg, hnil, hblk⟩ := run_append_own_at (P := P) w base t ty e' i z i.size i.bytes hu hi hz rfl rfl hzs hsz v n xs hown a m c news hl
            (fun j u hj => by obtain ⟨b, off, hp, hc⟩ := hs j u hj; cases hp; rw [addr_add]; exact hc) h1 h63 hb hbase
          exact ⟨v', w', hr, h v' w' ho ⟨hg.os, hg.tape, hg.output, hg.size, fun k hk hn => hg.block k hk fun he => hn he.symm⟩ hblk hnil⟩
      · cases hT
theorem own_blk {base : Nat} {e : TypeId} {size : Nat} {v : Value} {n : Nat} {xs : List Value} (h : w.ownsRow base e size v n xs) :
    (v = .slice none 0 0 ∧ n = 0 ∧ xs = []) ∨ ∃ g cap c, v = .slice (some ⟨g, 0, none⟩) n cap ∧ base ≤ g ∧ Blk w g c e ∧ n ≤ cap ∧ cap ≤ maxLen ∧ c.length = cap * size ∧ c.take (n * size) = xs := by
  rcases h with ⟨hl, ⟨rfl, rfl⟩ | ⟨g, cap, cur, rfl, hb, hg, hn, hm, hc, ht⟩⟩
  · exact .inl ⟨rfl, rfl, by simpa using hl⟩
  · exact .inr ⟨g, cap, cur.toList, rfl, hb, by simpa [Blk] using hg, hn, hm, by simpa using hc, ht⟩
theorem own_of_blk {base : Nat} {e : TypeId} {size : Nat} {n g cap : Nat} {c : List Value} (hb : base ≤ g) (B : Blk w g c e) (hn : n ≤ cap) (hm : cap ≤ maxLen) (hc : c.length = cap * size) :
    w.ownsRow base e size (.slice (some ⟨g, 0, none⟩) n cap) n (c.take (n * size)) :=
  ⟨by rw [List.length_take, hc]; exact Nat.min_eq_left (Nat.mul_le_mul_right _ hn), .inr ⟨g, cap, c.toArray, rfl, hb, B, hn, hm, by simpa using hc, by simp⟩⟩

theorem madeCells1 (z : Value) (n : Nat) (hz : z.cells.size = 1) : (madeCells z.cells n).toList = List.replicate n (z.cells[0]!) := by
  apply List.ext_getElem
  · simp [madeCells]
  · intro i h1 h2
    simp [madeCells, hz, Nat.mod_one]
theorem w_make {K : Value → World → Prop} {e : TypeId} {bytes : Nat} {kl : IntKind} {n : Int} {z : Value} (hT : apT P t = some (e, 1, bytes)) (hz : zrT P e = some [z]) (h0 : 0 ≤ n) (hb : (bytes : Int) * n ≤ 281474976710656)
    (h : ∀ b w', b = w.heap.size → Ext w w' → w'.heap.size = w.heap.size + 1 → Blk w' b (List.replicate n.toNat z) e → K (.slice (some ⟨b, 0, none⟩) n.toNat n.toNat) w') :
    opW P w (Instr.makeSlice t (.int kl n) (.int kl n)) K := by
  unfold apT at hT
  cases hu : P.underlying t with
  | none => rw [hu] at hT; cases hT
  | some d =>
    rw [hu] at hT
    cases d <;> first | (cases hT; done) | skip
    rename_i e'
    simp only [Option.bind_eq_some_iff] at hT
    obtain ⟨i, hi, hT⟩ := hT
    cases hzz : i.zero with
    | none => rw [hzz] at hT; cases hT
    | some zv =>
      rw [hzz] at hT
      simp only at hT
      split at hT
      · rename_i hc
        obtain ⟨hzs, hsz, hbp⟩ := hc
        simp only [Option.some.injEq, Prod.mk.injEq] at hT
        obtain ⟨rfl, h1, rfl⟩ := hT
        have hzl : zv.cells.toList = [z] := by
          unfold zrT at hz
          rw [hi] at hz
          simpa [hzz] using hz
        have hr := run_make (P := P) w t e' i zv hu hi hzz kl kl n n h0 (Int.le_refl _) hb (by
          have : (1 : Int) * n ≤ (i.bytes : Int) * n := Int.mul_le_mul_of_nonneg_right (by omega) h0
          omega)
        have hm : madeCells zv.cells (n.toNat * i.size) = (List.replicate n.toNat z).toArray := by
          apply Array.ext'
          rw [h1, Nat.mul_one, madeCells1 zv _ (by rw [hzs, h1])]
          have : zv.cells[0]! = z := by
            have : zv.cells = #[z] := by apply Array.ext'; simpa using hzl
            rw [this]; rfl
          rw [this]
        rw [hm] at hr
        obtain ⟨h2, h3, h4⟩ := alloc_facts w (List.replicate n.toNat z) e'
        exact ⟨_, _, hr, h _ _ rfl h2 h3 h4⟩
      · cases hT
/-- a literal of a slice -/
def bslT (P : Program) (t : TypeId) (len : Nat) (parts : Array (Nat × Value)) : Option (TypeId × List Value) :=
  match P.underlying t with
  | some (.slice e) => (szT P e).bind fun n => if len * n > 2 ^ 24 then none else
    (if len * n = 0 then some #[] else (zrT P e).map (·.toArray)).bind fun zero =>
      (Instr.fill (fun i => some (i * n, n)) ((Array.range (len * n)).map (zero[· % zero.size]!)) parts.toList).map fun cs => (e, cs.toList)
  | _ => none
theorem w_lit {K : Value → World → Prop} {e : TypeId} {len : Nat} {parts : Array (Nat × Value)} {cs : List Value} (hT : bslT P t len parts = some (e, cs))
    (h : ∀ b w', b = w.heap.size → Ext w w' → w'.heap.size = w.heap.size + 1 → Blk w' b cs e → K (.slice (some ⟨b, 0, none⟩) len len) w') :
    opW P w (Instr.buildSlice t len parts) K := by
  unfold bslT at hT
  cases hu : P.underlying t with
  | none => rw [hu] at hT; cases hT
  | some d =>
    rw [hu] at hT
    cases d <;> first | (cases hT; done) | skip
    rename_i e'
    simp only [Option.bind_eq_some_iff] at hT
    obtain ⟨n, hn, hT⟩ := hT
    split at hT
    · cases hT
    rename_i hbig
    simp only [Option.bind_eq_some_iff, Option.map_eq_some_iff, Prod.mk.injEq] at hT
    obtain ⟨zero, hzero, cs', hfill, rfl, rfl⟩ := hT
    obtain ⟨h2, h3, h4⟩ := alloc_facts w cs'.toList e'
    refine ⟨_, _, ?_, h _ _ rfl h2 h3 h4⟩
    have hnew : ∀ cs : Array Value, (do pure (Value.slice (some (← newRow e' cs)) len len) : Sem Value).run P w = .ok (.slice (some ⟨w.heap.size, 0, none⟩) len len) (w.alloc (.cells cs e')) := fun cs => by
      simp only [Sem.run_bind, newRow, newObj, Sem.run, pure, Result.andThen]; rfl
    have hcs : cs'.toList.toArray = cs' := by simp
    rw [hcs]
    by_cases h0 : len * n = 0
    · rw [if_pos h0] at hzero
      cases hzero
      have : (Instr.buildSlice t len parts).run P w = (do pure (Value.slice (some (← newRow e' cs')) len len) : Sem Value).run P w := by
        simp only [Instr.buildSlice, Sem.run_bind, run_underlying' hu, Result.andThen, run_sizeOf' hn, hbig, if_false]
        rw [if_pos h0]
        simp only [Sem.run_bind, Sem.run_pure, Result.andThen]
        rw [hfill]
        rfl
      rw [this]; exact hnew cs'
    · rw [if_neg h0] at hzero
      simp only [Option.map_eq_some_iff] at hzero
      obtain ⟨zl, hzl, rfl⟩ := hzero
      obtain ⟨zv, hzv, hzr⟩ := run_zero hzl
      have hzc : zl.toArray = zv.cells := by rw [← hzv]
      rw [hzc] at hfill
      have : (Instr.buildSlice t len parts).run P w = (do pure (Value.slice (some (← newRow e' cs')) len len) : Sem Value).run P w := by
        simp only [Instr.buildSlice, Sem.run_bind, run_underlying' hu, Result.andThen, run_sizeOf' hn, hbig, if_false]
        rw [if_neg h0]
        simp only [Sem.run_bind, Sem.run_pure, Result.andThen, hzr]
        rw [hfill]
        rfl
      rw [this]; exact hnew cs'
end

/-! ### Ways that part, and meet -/
theorem k_pick {b : Bool} {x y : Value} {K : Value → Prop} (k : K (if b then x else y)) : oPick (.bool b) x y K := ⟨b, rfl, k⟩
theorem k_pickT {x y : Value} {K : Value → Prop} (k : K x) : oPick (.bool true) x y K := ⟨true, rfl, k⟩
theorem k_pickF {x y : Value} {K : Value → Prop} (k : K y) : oPick (.bool false) x y K := ⟨false, rfl, k⟩
theorem c_if {p : Prop} [Decidable p] {A B : Prop} (a : p → A) (b : ¬ p → B) : oCond (.bool (decide p)) A B := by
  by_cases h : p
  · simp only [h, decide_true, oCond]; exact a h
  · simp only [h, decide_false, oCond]; exact b h
theorem c_b {c : Bool} {A B : Prop} (a : c = true → A) (b : c = false → B) : oCond (.bool c) A B := by
  cases c
  · exact b rfl
  · exact a rfl
theorem c_T {A B : Prop} (a : A) : oCond (.bool true) A B := a
theorem c_F {A B : Prop} (b : B) : oCond (.bool false) A B := b
theorem g_b {c want : Bool} {A B : Prop} (a : c = want → A) (b : c ≠ want → B) : gIf (.bool c) want A B := by
  unfold gIf; simp only
  split
  · exact a ‹_›
  · exact b ‹_›
/-- one value is handed on where the ways meet -/
def sJoin1 (A : (List Value → World → Prop) → Prop) (Z : Value → World → Prop) : Prop := ∀ K : List Value → World → Prop, (∀ v w, Z v w → K [v] w) → A K
theorem sJoin1_of {A : (List Value → World → Prop) → Prop} {Z : Value → World → Prop} (h : sJoin1 A Z) : sJoin A fun s _ w' => Z (s.getD 0 undef) w' :=
  fun K hK => h K fun v w hz => hK [v] w fun _ => hz
section
variable {w : World} {A : (List Value → World → Prop) → Prop} {Z : Value → World → Prop}
theorem j_or {p : Prop} [Decidable p] (h1 : p → Z (.bool true) w) (h2 : ¬ p → sJoin1 A Z) :
    sJoin (fun K => gIf (.bool (decide p)) false (A K) (K [undef] w)) fun s _ w' => oPick (.bool (decide p)) (.bool true) (s.getD 0 undef) fun t => Z t w' := by
  intro K hK
  by_cases h : p
  · simp only [h, decide_true] at hK ⊢
    exact hK [undef] w fun _ => k_pickT (h1 h)
  · simp only [h, decide_false] at hK ⊢
    exact h2 h K fun v w hz => hK [v] w fun _ => k_pickF hz
theorem j_and {p : Prop} [Decidable p] (h1 : ¬ p → Z (.bool false) w) (h2 : p → sJoin1 A Z) :
    sJoin (fun K => gIf (.bool (decide p)) true (A K) (K [undef] w)) fun s _ w' => oPick (.bool (decide p)) (s.getD 0 undef) (.bool false) fun t => Z t w' := by
  intro K hK
  by_cases h : p
  · simp only [h, decide_true] at hK ⊢
    exact h2 h K fun v w hz => hK [v] w fun _ => k_pickT hz
  · simp only [h, decide_false] at hK ⊢
    exact hK [undef] w fun _ => k_pickF (h1 h)
theorem j_orB {c : Bool} (h1 : c = true → Z (.bool true) w) (h2 : c = false → sJoin1 A Z) :
    sJoin (fun K => gIf (.bool c) false (A K) (K [undef] w)) fun s _ w' => oPick (.bool c) (.bool true) (s.getD 0 undef) fun t => Z t w' := by
  intro K hK
  cases c with
  | true => exact hK [undef] w fun _ => k_pickT (h1 rfl)
  | false => exact h2 rfl K fun v w hz => hK [v] w fun _ => k_pickF hz
theorem j_andB {c : Bool} (h1 : c = false → Z (.bool false) w) (h2 : c = true → sJoin1 A Z) :
    sJoin (fun K => gIf (.bool c) true (A K) (K [undef] w)) fun s _ w' => oPick (.bool c) (s.getD 0 undef) (.bool false) fun t => Z t w' := by
  intro K hK
  cases c with
  | true => exact h2 rfl K fun v w hz => hK [v] w fun _ => k_pickT hz
  | false => exact hK [undef] w fun _ => k_pickF (h1 rfl)
end
/-- a loop: states by number -/
theorem l_intro {ι : Type} (f : ι → List Value) (I : ι → World → Prop) (μ : ι → Nat) (i₀ : ι) {init : List Value} {w : World} {body : List Value → List Value → World → (List Value → World → Prop) → Prop}
    (h0 : init = f i₀) (hI : I i₀ w) (hr : ∀ i d w', I i w' → ∀ K : List Value → World → Prop, (∀ i' w'', I i' w'' → μ i' < μ i → K (f i') w'') → body (f i) d w' K) : sLoop init w body :=
  ⟨ι, f, I, μ, i₀, h0, hI, fun i d w' hi => hr i d w' hi _ fun i' _ h1 h2 => ⟨i', rfl, h1, h2⟩⟩
theorem j_intro {X : (List Value → World → Prop) → Prop} {Y : List Value → List Value → World → Prop} (R : List Value → World → Prop) (hX : ∀ K : List Value → World → Prop, (∀ s w, R s w → K s w) → X K)
    (hY : ∀ s w, R s w → ∀ d, Y s d w) : sJoin X Y := fun K hK => hX K fun s w h => hK s w (hY s w h)
end Go.Sh
