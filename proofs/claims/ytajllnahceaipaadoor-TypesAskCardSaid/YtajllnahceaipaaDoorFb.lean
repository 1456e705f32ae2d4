/-
  Shallow readings of functions. Made by a program (wip/gen/gen.py) out of the translation; the kernel checks each equality.
-/
import Derived.Test.YtajllnahceaipaaDoorTy
namespace Go.Proofs
open Go.Sh
set_option maxRecDepth 100000
/- 89: (*loanword/types.reader).comes -/
def Tryd.A_types_reader_comes : Ann := .s (.r (.op 0 .p (.nil))) (.s (.r (.op 0 .p (.op 1 .p (.op 2 .p (.op 3 .q (.op 4 .p (.op 5 .p (.op 6 .p (.op 7 .q (.op 8 .p (.op 9 .p (.op 10 .l (.op 11 .p (.nil)))))))))))))) (.n))
def Tryd.F_types_reader_comes (t0 : Value) (t1 : Value) (w : World) (K : Value → World → Prop) : Prop :=
 oNil t0 fun t6 =>
 opP Tryd.prog (Instr.fieldAt 88 t6 0) fun t7 =>
 opQ Tryd.prog w.drew (Instr.loadAt 9 t7) fun t8 =>
 oNil t0 fun t10 =>
 opP Tryd.prog (Instr.fieldAt 88 t10 1) fun t11 =>
 opQ Tryd.prog w.drew (Instr.loadAt 3 t11) fun t12 =>
 opP Tryd.prog (Instr.sliceAt 9 t8 (some t12) none none) fun t13 =>
 oCall Tryd.prog Tryd.n_strings_HasPrefix #[t13, t1] w.drew fun t15 w1 =>
 K t15 w1
theorem Tryd.E_types_reader_comes (t0 t1 : Value) (w : World) (K : Value → World → Prop) : sw ⟨false, false⟩ Tryd.prog (fun _ _ => False) Tryd.A_types_reader_comes (bodyOf Tryd.f89) [t0, t1, undef, undef, undef, undef, undef, undef, undef, undef, undef, undef, undef, undef, undef, undef] w (topQ false Tryd.prog Tryd.f89 w K) = Tryd.F_types_reader_comes t0 t1 w K := by kernel_rfl
theorem Tryd.C_types_reader_comes : chk ⟨false, false⟩ Tryd.prog false Tryd.A_types_reader_comes (bodyOf Tryd.f89) = true := by kernel_rfl
theorem Tryd.ok_types_reader_comes {t0 t1 : Value} {w : World} {K : Value → World → Prop} (h : Tryd.F_types_reader_comes t0 t1 w K) : oCall Tryd.prog Tryd.n_types_reader_comes #[t0, t1] w K :=
  calls_of_sw (cf := ⟨false, false⟩) Tryd.mixed Tryd.func89 rfl Tryd.C_types_reader_comes ((Tryd.E_types_reader_comes t0 t1 w K).mpr h)

/- 90: (*loanword/types.reader).take -/
def Tryd.A_types_reader_take : Ann := .s (.r (.op 0 .p (.op 1 .p (.op 2 .p (.nil))))) (.b (.lp [7] (.s (.r (.op 0 .p (.nil))) (.s (.c (.n) (.n)) (.s (.b (.s (.r (.op 0 .p (.op 1 .p (.nil)))) (.j [] (.s (.r (.op 0 .p (.op 1 .p (.op 2 .p (.op 3 .q (.op 4 .p (.op 5 .p (.op 6 .p (.op 7 .q (.op 8 .p (.op 9 .p (.op 10 .p (.grp 20 false [(11, .p), (12, .p), (13, .p), (14, .q), (15, .p), (16, .p), (17, .p), (18, .q), (19, .p), (20, .p), (21, .p), (22, .p), (23, .p)] [33] (.op 24 .p (.nil))))))))))))))) (.c (.r (.op 0 .p (.op 1 .p (.op 2 .l (.nil))))) (.n))) (.r (.op 0 .p (.op 1 .p (.op 2 .p (.op 3 .q (.op 4 .p (.op 5 .p (.op 6 .p (.op 7 .l (.nil))))))))))))) (.r (.op 0 .p (.op 1 .p (.nil)))))))))
def Tryd.F_types_reader_take (t0 : Value) (t1 : Value) (w : World) (K : Value → World → Prop) (Kp : List PanicEntry → World → Prop) : Prop :=
 opP Tryd.prog (Builtin.len_ #[9] 3 #[t1]) fun t6 =>
 sLoop [(Value.int .i64 0)] w (fun s2 _d3 w4 K1 =>
 opP Tryd.prog (bsem .lss 3 false (s2.getD 0 undef) t6) fun t8 =>
 oCond t8 (sJoin (fun K5 =>
 oNil t0 fun t11 =>
 opP Tryd.prog (Instr.fieldAt 88 t11 1) fun t12 =>
 opQ Tryd.prog w4.drew (Instr.loadAt 3 t12) fun t13 =>
 oNil t0 fun t15 =>
 opP Tryd.prog (Instr.fieldAt 88 t15 0) fun t16 =>
 opQ Tryd.prog w4.drew (Instr.loadAt 9 t16) fun t17 =>
 opP Tryd.prog (Builtin.len_ #[9] 3 #[t17]) fun t18 =>
 opP Tryd.prog (bsem .eql 3 false t13 t18) fun t19 =>
 sJoin (fun K9 => gIf t19 false (oNil t0 fun t22 =>
 opP Tryd.prog (Instr.fieldAt 88 t22 0) fun t23 =>
 opQ Tryd.prog w4.drew (Instr.loadAt 9 t23) fun t24 =>
 oNil t0 fun t26 =>
 opP Tryd.prog (Instr.fieldAt 88 t26 1) fun t27 =>
 opQ Tryd.prog w4.drew (Instr.loadAt 3 t27) fun t28 =>
 opP Tryd.prog (Instr.index 9 t24 t28) fun t29 =>
 opP Tryd.prog (Instr.index 9 t1 (s2.getD 0 undef)) fun t32 =>
 opP Tryd.prog (bsem .neq 5 false t29 t32) fun t33 =>
 K9 [t33] w4.drew) (K9 [undef] w4.drew)) (fun s10 _d11 w12 =>
 oPick t19 (Value.bool true) (s10.getD 0 undef) fun t34 =>
 oCond t34 (opP Tryd.prog (Instr.build 90 #[]) fun t35 =>
 opP Tryd.prog (Instr.makeInterface 90 t35) fun t36 =>
 ∃ v w13, (Instr.panic t36).run Tryd.prog w12 = .halt (.panic v) w13 ∧ (false = true → NC w12 w13) ∧ Kp [{ v, recovered := false }] w13) (K5 [] w12))) (fun _s6 _d7 w8 =>
 oNil t0 fun t38 =>
 opP Tryd.prog (Instr.fieldAt 88 t38 1) fun t39 =>
 opQ Tryd.prog w8 (Instr.loadAt 3 t39) fun t40 =>
 opP Tryd.prog (bsem .add 3 true t40 (Value.int .i64 1)) fun t41 =>
 oNil t0 fun t42 =>
 opP Tryd.prog (Instr.fieldAt 88 t42 1) fun t43 =>
 opU Tryd.prog w8 (Instr.storeAt 3 t43 t41) fun w14 =>
 opP Tryd.prog (bsem .add 3 true (s2.getD 0 undef) (Value.int .i64 1)) fun t44 =>
 K1 [t44] w14)) (K (.tuple #[]) w4))
theorem Tryd.E_types_reader_take (t0 t1 : Value) (w : World) (K : Value → World → Prop) (Kp : List PanicEntry → World → Prop) : sw ⟨false, true⟩ Tryd.prog Kp Tryd.A_types_reader_take (bodyOf Tryd.f90) [t0, t1, undef, undef, undef, undef, undef, undef, undef, undef, undef, undef, undef, undef, undef, undef, undef, undef, undef, undef, undef, undef, undef, undef, undef, undef, undef, undef, undef, undef, undef, undef, undef, undef, undef, undef, undef, undef, undef, undef, undef, undef, undef, undef, undef] w (topQ false Tryd.prog Tryd.f90 w K) = Tryd.F_types_reader_take t0 t1 w K Kp := by kernel_rfl
theorem Tryd.C_types_reader_take : chk ⟨false, true⟩ Tryd.prog false Tryd.A_types_reader_take (bodyOf Tryd.f90) = true := by kernel_rfl
theorem Tryd.ok_types_reader_take {t0 t1 : Value} {w : World} {K : Value → World → Prop} {Kp : List PanicEntry → World → Prop} (h : Tryd.F_types_reader_take t0 t1 w K Kp) : oCallP Tryd.prog Tryd.n_types_reader_take #[t0, t1] w K Kp :=
  callsP_of_sw (cf := ⟨false, true⟩) (Kp0 := Kp) (fun _ _ h => h) Tryd.mixed Tryd.func90 rfl Tryd.C_types_reader_take ((Tryd.E_types_reader_take t0 t1 w K Kp).mpr h)

/- 91: (*loanword/types.reader).digits -/
def Tryd.A_types_reader_digits : Ann := .s (.r (.op 0 .p (.nil))) (.s (.r (.op 0 .p (.op 1 .p (.op 2 .p (.op 3 .q (.op 4 .p (.op 5 .p (.nil)))))))) (.j [6] (.b (.lp [6] (.s (.s (.r (.op 0 .p (.op 1 .p (.op 2 .p (.op 3 .q (.op 4 .p (.op 5 .p (.op 6 .p (.op 7 .q (.op 8 .p (.op 9 .p (.op 10 .p (.grp 22 true [(11, .p), (12, .p), (13, .p), (14, .q), (15, .p), (16, .p), (17, .p), (18, .q), (19, .p), (20, .p)] [32] (.op 21 .p (.op 22 .p (.grp 34 true [(23, .p), (24, .p), (25, .p), (26, .q), (27, .p), (28, .p), (29, .p), (30, .q), (31, .p), (32, .p)] [44] (.op 33 .p (.nil)))))))))))))))))) (.c (.n) (.n))) (.b (.s (.r (.op 0 .p (.op 1 .p (.op 2 .p (.op 3 .q (.op 4 .p (.op 5 .p (.op 6 .p (.op 7 .q (.op 8 .p (.op 9 .p (.op 10 .p (.op 11 .p (.nil)))))))))))))) (.s (.s (.r (.op 0 .p (.op 1 .p (.op 2 .p (.op 3 .q (.op 4 .p (.op 5 .p (.op 6 .p (.grp 63 true [(7, .p), (8, .p), (9, .p), (10, .q), (11, .p), (12, .p), (13, .p)] [70] (.op 14 .p (.op 15 .p (.grp 72 false [(16, .p), (17, .p), (18, .p), (19, .p), (20, .p), (21, .p)] [78] (.op 22 .p (.nil)))))))))))))) (.c (.n) (.n))) (.s (.r (.op 0 .p (.op 1 .p (.op 2 .p (.op 3 .p (.op 4 .p (.nil))))))) (.r (.op 0 .p (.op 1 .p (.op 2 .p (.op 3 .q (.op 4 .p (.op 5 .p (.op 6 .p (.op 7 .l (.nil))))))))))))))))) (.j [] (.s (.r (.op 0 .p (.op 1 .p (.op 2 .p (.op 3 .q (.op 4 .p (.op 5 .p (.nil)))))))) (.c (.r (.op 0 .p (.op 1 .p (.op 2 .l (.nil))))) (.n))) (.s (.r (.op 0 .p (.op 1 .p (.nil)))) (.n)))))
def Tryd.F_types_reader_digits (t0 : Value) (t1 : Value) (w : World) (K : Value → World → Prop) (Kp : List PanicEntry → World → Prop) : Prop :=
 oNil t0 fun t9 =>
 opP Tryd.prog (Instr.fieldAt 88 t9 1) fun t10 =>
 opQ Tryd.prog w (Instr.loadAt 3 t10) fun t11 =>
 sJoin (fun K1 =>
 sLoop [(Value.int .i64 0)] w (fun s6 _d7 w8 K5 =>
 oNil t0 fun t13 =>
 opP Tryd.prog (Instr.fieldAt 88 t13 1) fun t14 =>
 opQ Tryd.prog w8.drew (Instr.loadAt 3 t14) fun t15 =>
 oNil t0 fun t17 =>
 opP Tryd.prog (Instr.fieldAt 88 t17 0) fun t18 =>
 opQ Tryd.prog w8.drew (Instr.loadAt 9 t18) fun t19 =>
 opP Tryd.prog (Builtin.len_ #[9] 3 #[t19]) fun t20 =>
 opP Tryd.prog (bsem .lss 3 false t15 t20) fun t21 =>
 sJoin (fun K9 => gIf t21 true (oNil t0 fun t24 =>
 opP Tryd.prog (Instr.fieldAt 88 t24 0) fun t25 =>
 opQ Tryd.prog w8.drew (Instr.loadAt 9 t25) fun t26 =>
 oNil t0 fun t28 =>
 opP Tryd.prog (Instr.fieldAt 88 t28 1) fun t29 =>
 opQ Tryd.prog w8.drew (Instr.loadAt 3 t29) fun t30 =>
 opP Tryd.prog (Instr.index 9 t26 t30) fun t31 =>
 opP Tryd.prog (bsem .geq 5 true t31 (Value.int .u8 48)) fun t32 =>
 K9 [t32] w8.drew) (K9 [undef] w8.drew)) (fun s10 _d11 w12 =>
 oPick t21 (s10.getD 0 undef) (Value.bool false) fun t33 =>
 sJoin (fun K13 => gIf t33 true (oNil t0 fun t36 =>
 opP Tryd.prog (Instr.fieldAt 88 t36 0) fun t37 =>
 opQ Tryd.prog w12 (Instr.loadAt 9 t37) fun t38 =>
 oNil t0 fun t40 =>
 opP Tryd.prog (Instr.fieldAt 88 t40 1) fun t41 =>
 opQ Tryd.prog w12 (Instr.loadAt 3 t41) fun t42 =>
 opP Tryd.prog (Instr.index 9 t38 t42) fun t43 =>
 opP Tryd.prog (bsem .leq 5 true t43 (Value.int .u8 57)) fun t44 =>
 K13 [t44] w12) (K13 [undef] w12)) (fun s14 _d15 w16 =>
 oPick t33 (s14.getD 0 undef) (Value.bool false) fun t45 =>
 oCond t45 (oNil t0 fun t47 =>
 opP Tryd.prog (Instr.fieldAt 88 t47 0) fun t48 =>
 opQ Tryd.prog w16.drew (Instr.loadAt 9 t48) fun t49 =>
 oNil t0 fun t51 =>
 opP Tryd.prog (Instr.fieldAt 88 t51 1) fun t52 =>
 opQ Tryd.prog w16.drew (Instr.loadAt 3 t52) fun t53 =>
 opP Tryd.prog (Instr.index 9 t49 t53) fun t54 =>
 opP Tryd.prog (bsem .sub 5 true t54 (Value.int .u8 48)) fun t55 =>
 opP Tryd.prog (convert 5 3 t55) fun t56 =>
 oNil t0 fun t58 =>
 opP Tryd.prog (Instr.fieldAt 88 t58 1) fun t59 =>
 opQ Tryd.prog w16.drew (Instr.loadAt 3 t59) fun t60 =>
 opP Tryd.prog (bsem .gtr 3 false t60 t11) fun t62 =>
 sJoin (fun K17 => gIf t62 true (oNil t0 fun t65 =>
 opP Tryd.prog (Instr.fieldAt 88 t65 0) fun t66 =>
 opQ Tryd.prog w16.drew (Instr.loadAt 9 t66) fun t67 =>
 opP Tryd.prog (Instr.index 9 t67 t11) fun t69 =>
 opP Tryd.prog (bsem .eql 5 true t69 (Value.int .u8 48)) fun t70 =>
 K17 [t70] w16.drew) (K17 [undef] w16.drew)) (fun s18 _d19 w20 =>
 oPick t62 (s18.getD 0 undef) (Value.bool false) fun t71 =>
 sJoin (fun K21 => gIf t71 false (opP Tryd.prog (bsem .sub 3 false t1 t56) fun t76 =>
 opP Tryd.prog (bsem .quo 3 true t76 (Value.int .i64 10)) fun t77 =>
 opP Tryd.prog (bsem .gtr 3 false (s6.getD 0 undef) t77) fun t78 =>
 K21 [t78] w20) (K21 [undef] w20)) (fun s22 _d23 w24 =>
 oPick t71 (Value.bool true) (s22.getD 0 undef) fun t79 =>
 oCond t79 (K1 [(s6.getD 0 undef)] w24) (opP Tryd.prog (bsem .mul 3 true (Value.int .i64 10) (s6.getD 0 undef)) fun t81 =>
 opP Tryd.prog (bsem .add 3 false t81 t56) fun t83 =>
 oNil t0 fun t85 =>
 opP Tryd.prog (Instr.fieldAt 88 t85 1) fun t86 =>
 opQ Tryd.prog w24 (Instr.loadAt 3 t86) fun t87 =>
 opP Tryd.prog (bsem .add 3 true t87 (Value.int .i64 1)) fun t88 =>
 oNil t0 fun t89 =>
 opP Tryd.prog (Instr.fieldAt 88 t89 1) fun t90 =>
 opU Tryd.prog w24 (Instr.storeAt 3 t90 t88) fun w25 =>
 K5 [t83] w25)))) (K1 [(s6.getD 0 undef)] w16))))) (fun s2 _d3 w4 =>
 sJoin (fun K26 =>
 oNil t0 fun t92 =>
 opP Tryd.prog (Instr.fieldAt 88 t92 1) fun t93 =>
 opQ Tryd.prog w4 (Instr.loadAt 3 t93) fun t94 =>
 opP Tryd.prog (bsem .eql 3 false t94 t11) fun t96 =>
 oCond t96 (opP Tryd.prog (Instr.build 90 #[]) fun t97 =>
 opP Tryd.prog (Instr.makeInterface 90 t97) fun t98 =>
 ∃ v w30, (Instr.panic t98).run Tryd.prog w4 = .halt (.panic v) w30 ∧ (false = true → NC w4 w30) ∧ Kp [{ v, recovered := false }] w30) (K26 [] w4)) (fun _s27 _d28 w29 =>
 K (s2.getD 0 undef) w29))
theorem Tryd.E_types_reader_digits (t0 t1 : Value) (w : World) (K : Value → World → Prop) (Kp : List PanicEntry → World → Prop) : sw ⟨false, true⟩ Tryd.prog Kp Tryd.A_types_reader_digits (bodyOf Tryd.f91) [t0, t1, undef, undef, undef, undef, undef, undef, undef, undef, undef, undef, undef, undef, undef, undef, undef, undef, undef, undef, undef, undef, undef, undef, undef, undef, undef, undef, undef, undef, undef, undef, undef, undef, undef, undef, undef, undef, undef, undef, undef, undef, undef, undef, undef, undef, undef, undef, undef, undef, undef, undef, undef, undef, undef, undef, undef, undef, undef, undef, undef, undef, undef, undef, undef, undef, undef, undef, undef, undef, undef, undef, undef, undef, undef, undef, undef, undef, undef, undef, undef, undef, undef, undef, undef, undef, undef, undef, undef, undef, undef, undef, undef, undef, undef, undef, undef, undef, undef, undef] w (topQ false Tryd.prog Tryd.f91 w K) = Tryd.F_types_reader_digits t0 t1 w K Kp := by kernel_rfl
theorem Tryd.C_types_reader_digits : chk ⟨false, true⟩ Tryd.prog false Tryd.A_types_reader_digits (bodyOf Tryd.f91) = true := by kernel_rfl
theorem Tryd.ok_types_reader_digits {t0 t1 : Value} {w : World} {K : Value → World → Prop} {Kp : List PanicEntry → World → Prop} (h : Tryd.F_types_reader_digits t0 t1 w K Kp) : oCallP Tryd.prog Tryd.n_types_reader_digits #[t0, t1] w K Kp :=
  callsP_of_sw (cf := ⟨false, true⟩) (Kp0 := Kp) (fun _ _ h => h) Tryd.mixed Tryd.func91 rfl Tryd.C_types_reader_digits ((Tryd.E_types_reader_digits t0 t1 w K Kp).mpr h)

/- 58: (*loanword/types.reader).kind -/
def Tryd.A_types_reader_kind : Ann := .s (.r (.op 0 .l (.nil))) (.s (.s (.r (.op 0 .p (.op 1 .p (.op 2 .p (.nil))))) (.b (.s (.r (.op 0 .p (.op 1 .l (.op 2 .p (.nil))))) (.c (.s (.r (.op 0 .p (.op 1 .l (.nil)))) (.s (.r (.op 0 .p (.op 1 .l (.nil)))) (.n))) (.s (.r (.op 0 .p (.op 1 .l (.op 2 .p (.nil))))) (.c (.s (.r (.op 0 .p (.op 1 .l (.nil)))) (.s (.r (.op 0 .p (.op 1 .l (.nil)))) (.n))) (.s (.r (.op 0 .p (.op 1 .l (.op 2 .p (.nil))))) (.c (.s (.r (.op 0 .p (.op 1 .l (.nil)))) (.s (.r (.op 0 .p (.op 1 .l (.op 2 .p (.op 3 .l (.nil)))))) (.n))) (.s (.r (.op 0 .p (.op 1 .l (.op 2 .p (.grp 32 true [(3, .p)] [33] (.op 4 .p (.op 5 .p (.nil)))))))) (.c (.s (.r (.op 0 .p (.op 1 .l (.nil)))) (.s (.r (.op 0 .p (.op 1 .p (.op 2 .p (.op 3 .l (.op 4 .l (.op 5 .l (.nil)))))))) (.s (.r (.op 0 .p (.op 1 .l (.nil)))) (.s (.r (.op 0 .q (.op 1 .l (.op 2 .p (.op 3 .l (.nil)))))) (.n))))) (.s (.r (.op 0 .p (.op 1 .l (.op 2 .p (.grp 49 true [(3, .p)] [50] (.op 4 .p (.op 5 .p (.nil)))))))) (.c (.s (.r (.op 0 .p (.op 1 .p (.op 2 .l (.op 3 .l (.nil)))))) (.n)) (.n))))))))))))) (.r (.op 0 .p (.op 1 .p (.op 2 .l (.nil))))))
def Tryd.F_types_reader_kind (t0 : Value) (t1 : Value) (w : World) (K : Value → World → Prop) (Kp : List PanicEntry → World → Prop) : Prop :=
 opW Tryd.prog w (Instr.alloc 25 true (.tuple #[])) fun t4 w1 =>
 opP Tryd.prog (bsem .gtr 3 true t1 (Value.int .i64 1)) fun t8 =>
 oCallP Tryd.prog Tryd.n_types_reader_comes #[t0, (Value.string { data := #[105] })] w1 (fun t11 w2 =>
 oCond t11 (oCallP Tryd.prog Tryd.n_types_reader_take #[t0, (Value.string { data := #[105, 54, 52] })] w2 (fun _t13 w3 =>
 opP Tryd.prog (Instr.build 25 #[(0, (Value.int .u8 1))]) fun t14 =>
 opU Tryd.prog w3 (Instr.storeAt 25 t4 t14) fun w4 =>
 opQ Tryd.prog w4 (cellSem 25 t4) fun r5 =>
 K r5 w4) (fun c w3 => (false = true → NC w2 w3) ∧ Kp c w3)) (oCallP Tryd.prog Tryd.n_types_reader_comes #[t0, (Value.string { data := #[98] })] w2 (fun t17 w6 =>
 oCond t17 (oCallP Tryd.prog Tryd.n_types_reader_take #[t0, (Value.string { data := #[98, 111, 111, 108] })] w6 (fun _t19 w7 =>
 opP Tryd.prog (Instr.build 25 #[(0, (Value.int .u8 2))]) fun t20 =>
 opU Tryd.prog w7 (Instr.storeAt 25 t4 t20) fun w8 =>
 opQ Tryd.prog w8 (cellSem 25 t4) fun r9 =>
 K r9 w8) (fun c w7 => (false = true → NC w6 w7) ∧ Kp c w7)) (oCallP Tryd.prog Tryd.n_types_reader_comes #[t0, (Value.string { data := #[35] })] w6 (fun t23 w10 =>
 oCond t23 (oCallP Tryd.prog Tryd.n_types_reader_take #[t0, (Value.string { data := #[35] })] w10 (fun _t25 w11 =>
 oCallP Tryd.prog Tryd.n_types_reader_digits #[t0, (Value.int .i64 31)] w11 (fun t27 w12 =>
 opP Tryd.prog (Instr.build 25 #[(0, (Value.int .u8 5)), (3, t27)]) fun t28 =>
 opU Tryd.prog w12 (Instr.storeAt 25 t4 t28) fun w13 =>
 opQ Tryd.prog w13 (cellSem 25 t4) fun r14 =>
 K r14 w13) (fun c w12 => (false = true → NC w11 w12) ∧ Kp c w12)) (fun c w11 => (false = true → NC w10 w11) ∧ Kp c w11)) (oCallP Tryd.prog Tryd.n_types_reader_comes #[t0, (Value.string { data := #[66] })] w10 (fun t31 w15 =>
 sJoin (fun K16 => gIf t31 true (K16 [t8] w15) (K16 [undef] w15)) (fun s17 _d18 w19 =>
 oPick t31 (s17.getD 0 undef) (Value.bool false) fun t34 =>
 oCond t34 (oCallP Tryd.prog Tryd.n_types_reader_take #[t0, (Value.string { data := #[66, 111, 120, 60] })] w19 (fun _t36 w20 =>
 opP Tryd.prog (bsem .sub 3 true t1 (Value.int .i64 1)) fun t39 =>
 oCallP Tryd.prog Tryd.n_types_reader_kind #[t0, t39] w20 (fun t40 w21 =>
 opW Tryd.prog w21 (Instr.alloc 25 true (.tuple #[])) fun t6 w22 =>
 opU Tryd.prog w22 (Instr.storeAt 25 t6 t40) fun w23 =>
 oCallP Tryd.prog Tryd.n_types_reader_take #[t0, (Value.string { data := #[62] })] w23 (fun _t42 w24 =>
 opQ Tryd.prog w24 (Instr.loadAt 25 t6) fun t43 =>
 opW Tryd.prog w24 (Instr.buildSlice 23 1 #[(0, t43)]) fun t44 w25 =>
 opP Tryd.prog (Instr.build 25 #[(0, (Value.int .u8 3)), (4, t44)]) fun t45 =>
 opU Tryd.prog w25 (Instr.storeAt 25 t4 t45) fun w26 =>
 opQ Tryd.prog w26 (cellSem 25 t4) fun r27 =>
 K r27 w26) (fun c w24 => (false = true → NC w23 w24) ∧ Kp c w24)) (fun c w21 => (false = true → NC w20 w21) ∧ Kp c w21)) (fun c w20 => (false = true → NC w19 w20) ∧ Kp c w20)) (oCallP Tryd.prog Tryd.n_types_reader_comes #[t0, (Value.string { data := #[38] })] w19 (fun t48 w28 =>
 sJoin (fun K29 => gIf t48 true (K29 [t8] w28) (K29 [undef] w28)) (fun s30 _d31 w32 =>
 oPick t48 (s30.getD 0 undef) (Value.bool false) fun t51 =>
 oCond t51 (oCallP Tryd.prog Tryd.n_types_reader_ref #[t0, t1] w32 (fun t54 w33 =>
 opU Tryd.prog w33 (Instr.storeAt 25 t4 t54) fun w34 =>
 opQ Tryd.prog w34 (cellSem 25 t4) fun r35 =>
 K r35 w34) (fun c w33 => (false = true → NC w32 w33) ∧ Kp c w33)) (opP Tryd.prog (Instr.build 90 #[]) fun t55 =>
 opP Tryd.prog (Instr.makeInterface 90 t55) fun t56 =>
 ∃ v w36, (Instr.panic t56).run Tryd.prog w32 = .halt (.panic v) w36 ∧ (false = true → NC w32 w36) ∧ Kp [{ v, recovered := false }] w36))) (fun c w28 => (false = true → NC w19 w28) ∧ Kp c w28)))) (fun c w15 => (false = true → NC w10 w15) ∧ Kp c w15))) (fun c w10 => (false = true → NC w6 w10) ∧ Kp c w10))) (fun c w6 => (false = true → NC w2 w6) ∧ Kp c w6))) (fun c w2 => (false = true → NC w1 w2) ∧ Kp c w2)
theorem Tryd.E_types_reader_kind (t0 t1 : Value) (w : World) (K : Value → World → Prop) (Kp : List PanicEntry → World → Prop) : sw ⟨false, true⟩ Tryd.prog Kp Tryd.A_types_reader_kind (bodyOf Tryd.f58) [t0, t1, undef, undef, undef, undef, undef, undef, undef, undef, undef, undef, undef, undef, undef, undef, undef, undef, undef, undef, undef, undef, undef, undef, undef, undef, undef, undef, undef, undef, undef, undef, undef, undef, undef, undef, undef, undef, undef, undef, undef, undef, undef, undef, undef, undef, undef, undef, undef, undef, undef, undef, undef, undef, undef, undef, undef] w (topQ false Tryd.prog Tryd.f58 w K) = Tryd.F_types_reader_kind t0 t1 w K Kp := by kernel_rfl
theorem Tryd.C_types_reader_kind : chk ⟨false, true⟩ Tryd.prog false Tryd.A_types_reader_kind (bodyOf Tryd.f58) = true := by kernel_rfl
theorem Tryd.ok_types_reader_kind {t0 t1 : Value} {w : World} {K : Value → World → Prop} {Kp : List PanicEntry → World → Prop} (h : Tryd.F_types_reader_kind t0 t1 w K Kp) : oCallP Tryd.prog Tryd.n_types_reader_kind #[t0, t1] w K Kp :=
  callsP_of_sw (cf := ⟨false, true⟩) (Kp0 := Kp) (fun _ _ h => h) Tryd.mixed Tryd.func58 rfl Tryd.C_types_reader_kind ((Tryd.E_types_reader_kind t0 t1 w K Kp).mpr h)

/- 92: (*loanword/types.reader).ref -/
def Tryd.A_types_reader_ref : Ann := .s (.r (.op 0 .l (.nil))) (.s (.r (.op 0 .p (.op 1 .l (.nil)))) (.s (.r (.op 0 .p (.op 1 .l (.op 2 .l (.nil))))) (.j [] (.s (.r (.op 0 .p (.op 1 .l (.nil)))) (.c (.s (.r (.op 0 .p (.op 1 .l (.nil)))) (.s (.r (.op 0 .p (.op 1 .l (.op 2 .p (.op 3 .l (.nil)))))) (.r (.op 0 .p (.op 1 .l (.nil)))))) (.n))) (.j [] (.s (.r (.op 0 .p (.op 1 .l (.nil)))) (.c (.s (.r (.op 0 .p (.op 1 .l (.nil)))) (.r (.op 0 .p (.op 1 .l (.nil))))) (.n))) (.j [] (.s (.r (.op 0 .p (.op 1 .q (.op 2 .p (.op 3 .p (.grp 27 true [(4, .p), (5, .q), (6, .p)] [30] (.op 7 .p (.op 8 .p (.nil))))))))) (.s (.r (.op 0 .p (.op 1 .p (.grp 33 true [(2, .p), (3, .l)] [35] (.op 4 .p (.nil)))))) (.c (.r (.op 0 .p (.op 1 .p (.op 2 .l (.nil))))) (.s (.r (.op 0 .p (.op 1 .p (.grp 40 true [(2, .p), (3, .l)] [42] (.op 4 .p (.op 5 .p (.grp 44 true [(6, .p), (7, .p)] [46] (.op 8 .p (.nil))))))))) (.c (.s (.r (.op 0 .p (.op 1 .l (.nil)))) (.s (.r (.op 0 .p (.op 1 .l (.op 2 .p (.nil))))) (.c (.r (.op 0 .p (.op 1 .p (.op 2 .l (.nil))))) (.n)))) (.n)))))) (.s (.r (.op 0 .p (.op 1 .p (.op 2 .p (.op 3 .l (.op 4 .l (.op 5 .p (.op 6 .l (.nil))))))))) (.s (.r (.op 0 .q (.op 1 .l (.nil)))) (.n))))))))
def Tryd.F_types_reader_ref (t0 : Value) (t1 : Value) (w : World) (K : Value → World → Prop) (Kp : List PanicEntry → World → Prop) : Prop :=
 opW Tryd.prog w (Instr.alloc 25 true (.tuple #[])) fun t4 w1 =>
 oCallP Tryd.prog Tryd.n_types_reader_take #[t0, (Value.string { data := #[38] })] w1 (fun _t8 w2 =>
 opP Tryd.prog (Instr.build 25 #[(0, (Value.int .u8 4)), (2, (Value.int .i64 (-1)))]) fun t9 =>
 opW Tryd.prog w2 (Instr.alloc 25 true (.tuple #[])) fun t5 w3 =>
 opU Tryd.prog w3 (Instr.storeAt 25 t5 t9) fun w4 =>
 sJoin (fun K5 =>
 oCallP Tryd.prog Tryd.n_types_reader_comes #[t0, (Value.string { data := #[39] })] w4 (fun t11 w9 =>
 oCond t11 (oCallP Tryd.prog Tryd.n_types_reader_take #[t0, (Value.string { data := #[39] })] w9 (fun _t13 w10 =>
 oCallP Tryd.prog Tryd.n_types_reader_digits #[t0, (Value.int .i64 9223372036854775807)] w10 (fun t15 w11 =>
 opP Tryd.prog (Instr.fieldAt 25 t5 2) fun t16 =>
 opU Tryd.prog w11 (Instr.storeAt 3 t16 t15) fun w12 =>
 oCallP Tryd.prog Tryd.n_types_reader_take #[t0, (Value.string { data := #[32] })] w12 (fun _t18 w13 =>
 K5 [] w13) (fun c w13 => (false = true → NC w12 w13) ∧ Kp c w13)) (fun c w11 => (false = true → NC w10 w11) ∧ Kp c w11)) (fun c w10 => (false = true → NC w9 w10) ∧ Kp c w10)) (K5 [] w9)) (fun c w9 => (false = true → NC w4 w9) ∧ Kp c w9)) (fun _s6 _d7 w8 =>
 sJoin (fun K14 =>
 oCallP Tryd.prog Tryd.n_types_reader_comes #[t0, (Value.string { data := #[109] })] w8 (fun t20 w18 =>
 oCond t20 (oCallP Tryd.prog Tryd.n_types_reader_take #[t0, (Value.string { data := #[109, 117, 116, 32] })] w18 (fun _t22 w19 =>
 opP Tryd.prog (Instr.fieldAt 25 t5 1) fun t23 =>
 opU Tryd.prog w19 (Instr.storeAt 4 t23 (Value.bool true)) fun w20 =>
 K14 [] w20) (fun c w19 => (false = true → NC w18 w19) ∧ Kp c w19)) (K14 [] w18)) (fun c w18 => (false = true → NC w8 w18) ∧ Kp c w18)) (fun _s15 _d16 w17 =>
 sJoin (fun K21 =>
 opP Tryd.prog (Instr.fieldAt 25 t5 2) fun t24 =>
 opQ Tryd.prog w17 (Instr.loadAt 3 t24) fun t25 =>
 opP Tryd.prog (bsem .lss 3 true t25 (Value.int .i64 0)) fun t26 =>
 sJoin (fun K25 => gIf t26 true (opP Tryd.prog (Instr.fieldAt 25 t5 1) fun t28 =>
 opQ Tryd.prog w17 (Instr.loadAt 4 t28) fun t29 =>
 opP Tryd.prog (Op.unary .not t29) fun t30 =>
 K25 [t30] w17) (K25 [undef] w17)) (fun s26 _d27 w28 =>
 oPick t26 (s26.getD 0 undef) (Value.bool false) fun t31 =>
 sJoin (fun K29 => gIf t31 true (oCallP Tryd.prog Tryd.n_types_reader_comes #[t0, (Value.string { data := #[38] })] w28 (fun t35 w33 =>
 K29 [t35] w33) (fun c w33 => (false = true → NC w28 w33) ∧ Kp c w33)) (K29 [undef] w28)) (fun s30 _d31 w32 =>
 oPick t31 (s30.getD 0 undef) (Value.bool false) fun t36 =>
 oCond t36 (opP Tryd.prog (Instr.build 90 #[]) fun t37 =>
 opP Tryd.prog (Instr.makeInterface 90 t37) fun t38 =>
 ∃ v w34, (Instr.panic t38).run Tryd.prog w32 = .halt (.panic v) w34 ∧ (false = true → NC w32 w34) ∧ Kp [{ v, recovered := false }] w34) (sJoin (fun K35 => gIf t31 true (oCallP Tryd.prog Tryd.n_types_reader_comes #[t0, (Value.string { data := #[32] })] w32 (fun t42 w39 =>
 K35 [t42] w39) (fun c w39 => (false = true → NC w32 w39) ∧ Kp c w39)) (K35 [undef] w32)) (fun s36 _d37 w38 =>
 oPick t31 (s36.getD 0 undef) (Value.bool false) fun t43 =>
 sJoin (fun K40 => gIf t43 true (opP Tryd.prog (bsem .gtr 3 true t1 (Value.int .i64 2)) fun t46 =>
 K40 [t46] w38) (K40 [undef] w38)) (fun s41 _d42 w43 =>
 oPick t43 (s41.getD 0 undef) (Value.bool false) fun t47 =>
 oCond t47 (oCallP Tryd.prog Tryd.n_types_reader_take #[t0, (Value.string { data := #[32] })] w43 (fun _t49 w44 =>
 oCallP Tryd.prog Tryd.n_types_reader_comes #[t0, (Value.string { data := #[38] })] w44 (fun t51 w45 =>
 opP Tryd.prog (Op.unary .not t51) fun t52 =>
 oCond t52 (opP Tryd.prog (Instr.build 90 #[]) fun t53 =>
 opP Tryd.prog (Instr.makeInterface 90 t53) fun t54 =>
 ∃ v w46, (Instr.panic t54).run Tryd.prog w45 = .halt (.panic v) w46 ∧ (false = true → NC w45 w46) ∧ Kp [{ v, recovered := false }] w46) (K21 [] w45)) (fun c w45 => (false = true → NC w44 w45) ∧ Kp c w45)) (fun c w44 => (false = true → NC w43 w44) ∧ Kp c w44)) (K21 [] w43))))))) (fun _s22 _d23 w24 =>
 opP Tryd.prog (bsem .sub 3 true t1 (Value.int .i64 1)) fun t57 =>
 oCallP Tryd.prog Tryd.n_types_reader_kind #[t0, t57] w24 (fun t58 w47 =>
 opW Tryd.prog w47 (Instr.buildSlice 23 1 #[(0, t58)]) fun t59 w48 =>
 opP Tryd.prog (Instr.fieldAt 25 t5 4) fun t60 =>
 opU Tryd.prog w48 (Instr.storeAt 23 t60 t59) fun w49 =>
 opQ Tryd.prog w49 (Instr.loadAt 25 t5) fun t61 =>
 opU Tryd.prog w49 (Instr.storeAt 25 t4 t61) fun w50 =>
 opQ Tryd.prog w50 (cellSem 25 t4) fun r51 =>
 K r51 w50) (fun c w47 => (false = true → NC w24 w47) ∧ Kp c w47))))) (fun c w2 => (false = true → NC w1 w2) ∧ Kp c w2)
theorem Tryd.E_types_reader_ref (t0 t1 : Value) (w : World) (K : Value → World → Prop) (Kp : List PanicEntry → World → Prop) : sw ⟨false, true⟩ Tryd.prog Kp Tryd.A_types_reader_ref (bodyOf Tryd.f92) [t0, t1, undef, undef, undef, undef, undef, undef, undef, undef, undef, undef, undef, undef, undef, undef, undef, undef, undef, undef, undef, undef, undef, undef, undef, undef, undef, undef, undef, undef, undef, undef, undef, undef, undef, undef, undef, undef, undef, undef, undef, undef, undef, undef, undef, undef, undef, undef, undef, undef, undef, undef, undef, undef, undef, undef, undef, undef, undef, undef, undef, undef] w (topQ false Tryd.prog Tryd.f92 w K) = Tryd.F_types_reader_ref t0 t1 w K Kp := by kernel_rfl
theorem Tryd.C_types_reader_ref : chk ⟨false, true⟩ Tryd.prog false Tryd.A_types_reader_ref (bodyOf Tryd.f92) = true := by kernel_rfl
theorem Tryd.ok_types_reader_ref {t0 t1 : Value} {w : World} {K : Value → World → Prop} {Kp : List PanicEntry → World → Prop} (h : Tryd.F_types_reader_ref t0 t1 w K Kp) : oCallP Tryd.prog Tryd.n_types_reader_ref #[t0, t1] w K Kp :=
  callsP_of_sw (cf := ⟨false, true⟩) (Kp0 := Kp) (fun _ _ h => h) Tryd.mixed Tryd.func92 rfl Tryd.C_types_reader_ref ((Tryd.E_types_reader_ref t0 t1 w K Kp).mpr h)

/- 16: loanword/types.Read -/
def Tryd.A_types_Read : DAnn := .s (.r (.op 0 .l (.op 1 .l (.op 2 .l (.nil))))) (.s (.r (.op 0 .p (.op 1 .p (.op 2 .l (.op 3 .l (.op 4 .l (.nil))))))) (.d (.s (.r (.op 0 .q (.op 1 .l (.op 2 .l (.nil))))) (.j [] (.s (.r (.op 0 .q (.op 1 .p (.op 2 .p (.op 3 .q (.op 4 .p (.op 5 .p (.op 6 .p (.nil))))))))) (.c (.r (.op 0 .p (.op 1 .p (.op 2 .l (.nil))))) (.n))) (.s (.r (.op 0 .q (.op 1 .l (.op 2 .l (.op 3 .l (.nil)))))) (.n))))))
def Tryd.B_types_Read (t0 : Value) (t2 : Value) (t3 : Value) (t4 : Value) (t5 : Value) (w : World) (Kd : FrameMode → World → Prop) : Prop :=
 opQ Tryd.prog w (Instr.loadAt 86 t5) fun t10 =>
 oCallP Tryd.prog Tryd.n_types_reader_kind #[t10, (Value.int .i64 48)] w (fun t11 w7 =>
 opU Tryd.prog w7 (Instr.storeAt 25 t2 t11) fun w8 =>
 sJoin (fun K9 =>
 opQ Tryd.prog w8 (Instr.loadAt 86 t5) fun t12 =>
 oNil t12 fun t13 =>
 opP Tryd.prog (Instr.fieldAt 88 t13 1) fun t14 =>
 opQ Tryd.prog w8 (Instr.loadAt 3 t14) fun t15 =>
 opP Tryd.prog (Builtin.len_ #[9] 3 #[t0]) fun t17 =>
 opP Tryd.prog (bsem .lss 3 false t15 t17) fun t18 =>
 oCond t18 (opP Tryd.prog (Instr.build 90 #[]) fun t19 =>
 opP Tryd.prog (Instr.makeInterface 90 t19) fun t20 =>
 ∃ v w13, (Instr.panic t20).run Tryd.prog w8 = .halt (.panic v) w13 ∧ (false = true → NC w8 w13) ∧ Kd (.panicking [{ v, recovered := false }]) w13) (K9 [] w8)) (fun _s10 _d11 w12 =>
 opQ Tryd.prog w12 (Instr.loadAt 25 t2) fun t21 =>
 opU Tryd.prog w12 (Instr.storeAt 25 t2 t21) fun w14 =>
 opU Tryd.prog w14 (Instr.storeAt 3 t3 (Value.int .i64 0)) fun w15 =>
 opU Tryd.prog w15 (Instr.storeAt 29 t4 (Value.int .i64 0)) fun w16 =>
 Kd .returning w16)) (fun c w7 => (false = true → NC w w7) ∧ Kd (.panicking c) w7)
def Tryd.F_types_Read (t0 : Value) (w : World) (K : Value → World → Prop) (Kp : List PanicEntry → World → Prop) : Prop :=
 opW Tryd.prog w (Instr.alloc 25 true (.tuple #[])) fun t2 w1 =>
 opW Tryd.prog w1 (Instr.alloc 3 true (.tuple #[])) fun t3 w2 =>
 opW Tryd.prog w2 (Instr.alloc 29 true (.tuple #[])) fun t4 w3 =>
 opP Tryd.prog (Instr.build 88 #[(0, t0)]) fun t7 =>
 opW Tryd.prog w3 (Instr.box 88 t7) fun t8 w4 =>
 opW Tryd.prog w4 (Instr.alloc 86 true (.tuple #[])) fun t5 w5 =>
 opU Tryd.prog w5 (Instr.storeAt 86 t5 t8) fun w6 =>
 Tryd.B_types_Read t0 t2 t3 t4 t5 w6 fun u w => oDef Tryd.prog Tryd.n_types_Read_1 #[t5, t2, t3, t4] u w (fun u w => eEnd (fun w => opQ Tryd.prog w (cellSem 25 t2) fun r17 => opQ Tryd.prog w (cellSem 3 t3) fun r18 => opQ Tryd.prog w (cellSem 29 t4) fun r19 => K (.tuple #[r17, r18, r19]) w) Kp (settle u) w) (fun c u w => eEnd (fun w => opQ Tryd.prog w (cellSem 25 t2) fun r17 => opQ Tryd.prog w (cellSem 3 t3) fun r18 => opQ Tryd.prog w (cellSem 29 t4) fun r19 => K (.tuple #[r17, r18, r19]) w) Kp (raised u c) w)
theorem Tryd.E_types_Read (t0 : Value) (w : World) (K : Value → World → Prop) (Kp : List PanicEntry → World → Prop) : swD Tryd.prog Tryd.f16 K Kp Tryd.A_types_Read (bodyOf Tryd.f16) [t0, undef, undef, undef, undef, undef, undef, undef, undef, undef, undef, undef, undef, undef, undef, undef, undef, undef, undef, undef, undef, undef] w = Tryd.F_types_Read t0 w K Kp := by kernel_rfl
theorem Tryd.C_types_Read : chkD Tryd.prog Tryd.f16 Tryd.A_types_Read (bodyOf Tryd.f16) = true := by kernel_rfl
theorem Tryd.ok_types_Read {t0 : Value} {w : World} {K : Value → World → Prop} (h : Tryd.F_types_Read t0 w K fun _ _ => False) : oCall Tryd.prog Tryd.n_types_Read #[t0] w K :=
  calls_of_swD Tryd.mixed Tryd.func16 rfl Tryd.C_types_Read ((Tryd.E_types_Read t0 w K _).mpr h)
theorem Tryd.okP_types_Read {t0 : Value} {w : World} {K : Value → World → Prop} {Kp : List PanicEntry → World → Prop} (h : Tryd.F_types_Read t0 w K Kp) : oCallP Tryd.prog Tryd.n_types_Read #[t0] w K Kp :=
  callsP_of_swD Tryd.mixed Tryd.func16 rfl Tryd.C_types_Read ((Tryd.E_types_Read t0 w K Kp).mpr h)

/- 57: loanword/types.Read$1 -/
def Tryd.A_types_Read_1 : Ann := .b (.s (.r (.op 0 .q (.nil))) (.c (.r (.op 0 .p (.nil))) (.s (.r (.op 0 .p (.op 1 .p (.op 2 .p (.nil))))) (.c (.s (.r (.op 0 .l (.op 1 .l (.nil)))) (.r (.op 0 .p (.op 1 .q (.op 2 .p (.op 3 .p (.op 4 .q (.op 5 .l (.op 6 .l (.op 7 .l (.nil))))))))))) (.s (.r (.op 0 .p (.nil))) (.r (.op 0 .p (.op 1 .l (.nil)))))))))
def Tryd.F_types_Read_1 (t0 : Value) (t1 : Value) (t2 : Value) (t3 : Value) (tr : Value) (w : World) (R : World → Prop) (Kp : List PanicEntry → World → Prop) : Prop :=
 opQ Tryd.prog w (bsem .eql 20 true tr Value.nilIface) fun t9 =>
 oCond t9 (R w) (opP Tryd.prog (Instr.typeAssert tr 20 90 true) fun t10 =>
 opP Tryd.prog (Instr.extract t10 1) fun t11 =>
 opP Tryd.prog (Instr.extract t10 0) fun t12 =>
 oCond t11 (opW Tryd.prog w (Instr.alloc 90 true (.tuple #[])) fun t5 w1 =>
 opU Tryd.prog w1 (Instr.storeAt 90 t5 t12) fun w2 =>
 opP Tryd.prog (Instr.build 25 #[]) fun t13 =>
 opQ Tryd.prog w2 (Instr.loadAt 86 t0) fun t14 =>
 oNil t14 fun t15 =>
 opP Tryd.prog (Instr.fieldAt 88 t15 1) fun t16 =>
 opQ Tryd.prog w2 (Instr.loadAt 3 t16) fun t17 =>
 opU Tryd.prog w2 (Instr.storeAt 25 t1 t13) fun w3 =>
 opU Tryd.prog w3 (Instr.storeAt 3 t2 t17) fun w4 =>
 opU Tryd.prog w4 (Instr.storeAt 29 t3 (Value.int .i64 60)) fun w5 =>
 R w5) (∃ v w6, (Instr.panic tr).run Tryd.prog w = .halt (.panic v) w6 ∧ (false = true → NC w w6) ∧ Kp [{ v, recovered := false }] w6))
theorem Tryd.E_types_Read_1 (t0 t1 t2 t3 : Value) (tr : Value) (w : World) (R : World → Prop) (Kp : List PanicEntry → World → Prop) : sw ⟨false, true⟩ Tryd.prog Kp Tryd.A_types_Read_1 (codeTail (bodyOf Tryd.f57)) (st [t0, t1, t2, t3, undef, undef, undef, undef, undef, undef, undef, undef, undef, undef, undef, undef, undef, undef] (some 7) tr) w (fun
  | .normal, _, w' => R w'
  | .ret, _, w' => R w'
  | _, _, _ => False) = Tryd.F_types_Read_1 t0 t1 t2 t3 tr w R Kp := by kernel_rfl
theorem Tryd.C_types_Read_1 : chk ⟨false, true⟩ Tryd.prog false Tryd.A_types_Read_1 (codeTail (bodyOf Tryd.f57)) = true := by kernel_rfl
theorem Tryd.ok_types_Read_1 {t0 t1 t2 t3 : Value} {u : FrameMode} {w : World} {R : FrameMode → World → Prop} {Rp : List PanicEntry → FrameMode → World → Prop} (h : Tryd.F_types_Read_1 t0 t1 t2 t3 (recov u).1 w (R (recov u).2) fun c w' => Rp c (recov u).2 w') : oDef Tryd.prog Tryd.n_types_Read_1 #[t0, t1, t2, t3] u w R Rp :=
  oDef_of (pan := true) Tryd.mixed Tryd.func57 rfl (by kernel_rfl) rfl Tryd.C_types_Read_1 ((Tryd.E_types_Read_1 t0 t1 t2 t3 _ w _ _).mpr h)

end Go.Proofs
