/-
  Contracts: the reader of types' texts: kind, ref.
-/
import Derived.Test.YtajllnahceaipaaDoorTm
namespace Go.Proofs
open Go.Sh
set_option maxRecDepth 100000

/-- how far it went, and what came of it, if it did not get stuck -/
abbrev Rd' (α : Type) := Nat × Option α
def bd {α β : Type} : Rd' α → (α → Nat → Rd' β) → Rd' β
  | (a, some x), k => k x a
  | (a, none), _ => (a, none)
def tkR (s p : List UInt8) (a : Nat) : Rd' Unit := ((takeR s p a).1, if (takeR s p a).2 then some () else none)
def cmB (s : List UInt8) (a : Nat) (p : List UInt8) : Bool := prefB (s.drop a) p
def rgR (s : List UInt8) (a : Nat) : Rd' Int :=
  if cmB s a [39] then bd (tkR s [39] a) fun _ a => bd (digT s 9223372036854775807 a) fun n a => bd (tkR s [32] a) fun _ a => (a, some n) else (a, some (-1))
def mtR (s : List UInt8) (a : Nat) : Rd' Bool :=
  if cmB s a [109] then bd (tkR s [109, 117, 116, 32] a) fun _ a => (a, some true) else (a, some false)
def brR (s : List UInt8) (left : Nat) (re : Int) (m : Bool) (a : Nat) : Rd' Unit :=
  if (decide (re < 0) && !m) && cmB s a [38] then (a, none)
  else if ((decide (re < 0) && !m) && cmB s a [32]) && decide (2 < left) then bd (tkR s [32] a) fun _ a => if !cmB s a [38] then (a, none) else (a, some ())
  else (a, some ())
def refS (s : List UInt8) (rec : Nat → Rd' TyD) (left a : Nat) : Rd' TyD :=
  bd (tkR s [38] a) fun _ a => bd (rgR s a) fun re a => bd (mtR s a) fun m a => bd (brR s left re m a) fun _ a => bd (rec a) fun u a => (a, some (.mk 4 m re 0 [u]))
def kindS (s : List UInt8) (rec : Nat → Rd' TyD) (left a : Nat) : Rd' TyD :=
  if cmB s a [105] then bd (tkR s [105, 54, 52] a) fun _ a => (a, some (.mk 1 false 0 0 []))
  else if cmB s a [98] then bd (tkR s [98, 111, 111, 108] a) fun _ a => (a, some (.mk 2 false 0 0 []))
  else if cmB s a [35] then bd (tkR s [35] a) fun _ a => bd (digT s 31 a) fun n a => (a, some (.mk 5 false 0 n []))
  else if cmB s a [66] && decide (1 < left) then bd (tkR s [66, 111, 120, 60] a) fun _ a => bd (rec a) fun u a => bd (tkR s [62] a) fun _ a => (a, some (.mk 3 false 0 0 [u]))
  else if cmB s a [38] && decide (1 < left) then refS s rec left a
  else (a, none)
def kindR (s : List UInt8) : Nat → Nat → Rd' TyD
  | 0, a => kindS s (fun a => (a, none)) 0 a
  | n + 1, a => kindS s (kindR s n) (n + 1) a

theorem ty_one {r : Gh} {v : Value} {u : TyD} {b : Nat} {k re st : Int} {m : Bool} (h : TyG r v u) :
    TyG (r.or (one b v.cells.toList 25)) (.agg #[.int .u8 k, .bool m, .int .i64 re, .int .i64 st, .slice (some ⟨b, 0, none⟩) 1 1]) (.mk k m re st [u]) := by
  obtain ⟨c, rfl, hc, hr⟩ := h.rep
  refine ⟨_, 1, rfl, by simp, Nat.le_refl _, ?_⟩
  refine ⟨⟨c, hc, fun j x hj => ⟨b, 0, rfl, fun w hw => ?_⟩, hr.up⟩, trivial⟩
  have B := one_blk (b := b) (c := (Value.agg c.toArray).cells.toList) (T := 25) w (hw.le (h := inferInstance))
  show w.cell? ⟨b, 0 + 0 * 5 + j, none⟩ = some x
  rw [show 0 + 0 * 5 + j = j by omega, B.cell]
  exact hj
theorem ty_leaf {r : Gh} {k re st : Int} {m : Bool} : TyG r (.agg #[.int .u8 k, .bool m, .int .i64 re, .int .i64 st, .slice none 0 0]) (.mk k m re st []) :=
  ⟨none, 0, rfl, fun _ => rfl, Nat.le_refl _, trivial⟩
section
variable {X : Nat → Prop} {w0 w : World} {r : Gh} {L : List Asr} {rb : Nat} {s p : List UInt8} {a : Nat} {K : Value → World → Prop} {Kp : List PanicEntry → World → Prop}
/-- take, as a step of a reader that may get stuck; Z: what is behind it -/
theorem c_tk (S : StX X w0 r w (rdC rb s a :: L)) (ha : a ≤ s.length) (hs : s.length ≤ 1000000000) (hp : p.length ≤ 1000000)
    (h : ∀ a' w', a' ≤ s.length → StX X w0 r w' (rdC rb s a' :: L) → tkR s p a = (a', some ()) → K (.tuple #[]) w')
    (hk : ∀ a' w', StX X w0 r w' (rdC rb s a' :: L) → tkR s p a = (a', none) → Kp stuckV w') :
    oCallP Tryd.prog Tryd.n_types_reader_take #[rdP rb, .string (bs p)] w K Kp := by
  refine c_take S ha hs hp fun w' S => ?_
  split
  · rename_i he
    exact h _ w' (takeR_le p a ha) S (by rw [tkR, he]; rfl)
  · rename_i he
    exact hk _ w' S (by rw [tkR, if_neg he])
theorem digT_le {most : Int} (ha : a ≤ s.length) (hm : 9 ≤ most) : (digT s most a).1 ≤ s.length ∧ ∀ n, (digT s most a).2 = some n → 0 ≤ n ∧ n ≤ most := by
  have hle := digR_le (s := s) (most := most) (fr := a) (s.length + 1 - a) a 0 ha (Int.le_refl _) (by omega) hm
  rw [digT]
  split
  · exact ⟨ha, fun n h => by cases h⟩
  · exact ⟨hle.2.1, fun n h => by cases h; exact hle.2.2⟩
theorem c_dg {most : Int} (S : StX X w0 r w (rdC rb s a :: L)) (ha : a ≤ s.length) (hs : s.length ≤ 1000000000) (hm : 9 ≤ most) (hm2 : most < 9223372036854775808)
    (h : ∀ a' n w', a' ≤ s.length → 0 ≤ n → n ≤ most → StX X w0 r w' (rdC rb s a' :: L) → digT s most a = (a', some n) → K (.int .i64 n) w')
    (hk : ∀ a' w', StX X w0 r w' (rdC rb s a' :: L) → digT s most a = (a', none) → Kp stuckV w') :
    oCallP Tryd.prog Tryd.n_types_reader_digits #[rdP rb, .int .i64 most] w K Kp := by
  refine c_digits S ha hs hm hm2 fun w' S => ?_
  have hle := digT_le (s := s) (a := a) ha hm
  cases he : digT s most a with
  | mk a' o =>
    rw [he] at S hle
    cases o with
    | some n => exact h a' n w' hle.1 (hle.2 n rfl).1 (hle.2 n rfl).2 S he
    | none => exact hk a' w' S he
end
end Go.Proofs
