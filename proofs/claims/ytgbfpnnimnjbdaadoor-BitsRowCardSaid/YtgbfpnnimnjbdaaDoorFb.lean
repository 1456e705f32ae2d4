/-
  Shallow readings of functions. Made by a program (wip/gen/gen.py) out of the translation; the kernel checks each equality.
-/
import Derived.Test.YtgbfpnnimnjbdaaDoorTy
namespace Go.Proofs
open Go.Sh
set_option maxRecDepth 100000
/- 12: loanword/loanwordref01.May -/
def Tryd.A_ref01_May : Ann := .s (.r (.op 0 .l (.op 1 .p (.nil)))) (.s (.s (.r (.op 0 .p (.op 1 .q (.op 2 .p (.op 3 .p (.grp 7 false [(4, .p), (5, .q), (6, .p)] [10] (.op 7 .p (.op 8 .p (.grp 12 false [(9, .p), (10, .q), (11, .p), (12, .p), (13, .q), (14, .p), (15, .p), (16, .p)] [20] (.op 17 .p (.nil))))))))))) (.c (.s (.r (.op 0 .p (.nil))) (.n)) (.n))) (.s (.s (.r (.op 0 .p (.op 1 .q (.op 2 .p (.nil))))) (.b (.lp [3] (.s (.s (.r (.op 0 .p (.op 1 .p (.op 2 .q (.op 3 .p (.op 4 .p (.op 5 .p (.nil)))))))) (.c (.n) (.n))) (.s (.b (.s (.r (.op 0 .p (.op 1 .q (.op 2 .p (.op 3 .p (.op 4 .p (.op 5 .q (.op 6 .p (.op 7 .p (.op 8 .p (.op 9 .p (.op 10 .p (.nil))))))))))))) (.c (.s (.r (.op 0 .p (.nil))) (.n)) (.n)))) (.r (.op 0 .p (.op 1 .p (.op 2 .p (.nil)))))))))) (.s (.r (.op 0 .p (.nil))) (.n))))
def Tryd.F_ref01_May (t0 : Value) (w : World) (K : Value → World → Prop) : Prop :=
 opW Tryd.prog w (Instr.box 24 t0) fun t1 w1 =>
 opP Tryd.prog (Instr.fieldAt 24 t1 0) fun t4 =>
 opQ Tryd.prog w1 (Instr.loadAt 3 t4) fun t5 =>
 opP Tryd.prog (bsem .lss 3 true t5 (Value.int .i64 0)) fun t6 =>
 sJoin (fun K2 => gIf t6 false (opP Tryd.prog (Instr.fieldAt 24 t1 0) fun t8 =>
 opQ Tryd.prog w1 (Instr.loadAt 3 t8) fun t9 =>
 opP Tryd.prog (bsem .gtr 3 true t9 (Value.int .i64 1032)) fun t10 =>
 K2 [t10] w1) (K2 [undef] w1)) (fun s3 _d4 w5 =>
 oPick t6 (Value.bool true) (s3.getD 0 undef) fun t11 =>
 sJoin (fun K6 => gIf t11 false (opP Tryd.prog (Instr.fieldAt 24 t1 1) fun t13 =>
 opQ Tryd.prog w5 (Instr.loadAt 22 t13) fun t14 =>
 opP Tryd.prog (Builtin.len_ #[22] 3 #[t14]) fun t15 =>
 opP Tryd.prog (Instr.fieldAt 24 t1 0) fun t16 =>
 opQ Tryd.prog w5 (Instr.loadAt 3 t16) fun t17 =>
 opP Tryd.prog (bsem .add 3 true t17 (Value.int .i64 63)) fun t18 =>
 opP Tryd.prog (bsem .quo 3 true t18 (Value.int .i64 64)) fun t19 =>
 opP Tryd.prog (bsem .neq 3 false t15 t19) fun t20 =>
 K6 [t20] w5) (K6 [undef] w5)) (fun s7 _d8 w9 =>
 oPick t11 (Value.bool true) (s7.getD 0 undef) fun t21 =>
 oCond t21 (K (Value.bool false) w9) (opP Tryd.prog (Instr.fieldAt 24 t1 0) fun t22 =>
 opQ Tryd.prog w9 (Instr.loadAt 3 t22) fun t23 =>
 sLoop [t23] w9 (fun s11 _d12 w13 K10 =>
 opP Tryd.prog (Instr.fieldAt 24 t1 1) fun t25 =>
 opQ Tryd.prog w13 (Instr.loadAt 22 t25) fun t26 =>
 opP Tryd.prog (Builtin.len_ #[22] 3 #[t26]) fun t27 =>
 opP Tryd.prog (bsem .mul 3 true (Value.int .i64 64) t27) fun t28 =>
 opP Tryd.prog (bsem .lss 3 false (s11.getD 0 undef) t28) fun t29 =>
 oCond t29 (opP Tryd.prog (Instr.fieldAt 24 t1 1) fun t32 =>
 opQ Tryd.prog w13 (Instr.loadAt 22 t32) fun t33 =>
 opP Tryd.prog (bsem .quo 3 true (s11.getD 0 undef) (Value.int .i64 64)) fun t35 =>
 opP Tryd.prog (Instr.indexAt 22 t33 t35) fun t36 =>
 opQ Tryd.prog w13 (Instr.loadAt 64 t36) fun t37 =>
 opP Tryd.prog (bsem .rem 3 true (s11.getD 0 undef) (Value.int .i64 64)) fun t39 =>
 opP Tryd.prog (bsem .shr 64 false t37 t39) fun t40 =>
 opP Tryd.prog (bsem .and 64 true t40 (Value.int .u64 1)) fun t41 =>
 opP Tryd.prog (bsem .eql 64 true t41 (Value.int .u64 1)) fun t42 =>
 oCond t42 (K (Value.bool false) w13) (opP Tryd.prog (bsem .add 3 true (s11.getD 0 undef) (Value.int .i64 1)) fun t31 =>
 K10 [t31] w13)) (K (Value.bool true) w13)))))
theorem Tryd.E_ref01_May (t0 : Value) (w : World) (K : Value → World → Prop) : sw ⟨false, false⟩ Tryd.prog (fun _ _ => False) Tryd.A_ref01_May (bodyOf Tryd.f12) [t0, undef, undef, undef, undef, undef, undef, undef, undef, undef, undef, undef, undef, undef, undef, undef, undef, undef, undef, undef, undef, undef, undef, undef, undef, undef, undef, undef, undef, undef, undef, undef, undef, undef, undef, undef, undef, undef, undef, undef, undef, undef, undef] w (topQ false Tryd.prog Tryd.f12 w K) = Tryd.F_ref01_May t0 w K := by kernel_rfl
theorem Tryd.C_ref01_May : chk ⟨false, false⟩ Tryd.prog false Tryd.A_ref01_May (bodyOf Tryd.f12) = true := by kernel_rfl
theorem Tryd.ok_ref01_May {t0 : Value} {w : World} {K : Value → World → Prop} (h : Tryd.F_ref01_May t0 w K) : oCall Tryd.prog Tryd.n_ref01_May #[t0] w K :=
  calls_of_sw (cf := ⟨false, false⟩) Tryd.mixed Tryd.func12 rfl Tryd.C_ref01_May ((Tryd.E_ref01_May t0 w K).mpr h)

/- 13: loanword/loanwordref01.Bytes -/
def Tryd.A_ref01_Bytes : Ann := .s (.r (.op 0 .l (.op 1 .p (.nil)))) (.s (.r (.op 0 .p (.op 1 .q (.op 2 .p (.op 3 .p (.op 4 .l (.op 5 .p (.nil)))))))) (.s (.s (.r (.op 0 .p (.nil))) (.b (.lp [4] (.s (.s (.r (.op 0 .p (.op 1 .p (.op 2 .q (.op 3 .p (.nil)))))) (.c (.n) (.n))) (.j [] (.b (.s (.r (.op 0 .q (.op 1 .p (.op 2 .l (.nil))))) (.c (.r (.op 0 .p (.op 1 .p (.op 2 .p (.op 3 .p (.op 4 .p (.op 5 .p (.op 6 .p (.op 7 .q (.op 8 .p (.op 9 .p (.op 10 .p (.op 11 .p (.op 12 .p (.op 13 .l (.nil)))))))))))))))) (.n)))) (.r (.op 0 .p (.op 1 .p (.op 2 .p (.nil)))))))))) (.s (.r (.op 0 .p (.op 1 .q (.op 2 .p (.nil))))) (.n))))
def Tryd.F_ref01_Bytes (t0 : Value) (w : World) (K : Value → World → Prop) : Prop :=
 opW Tryd.prog w (Instr.box 24 t0) fun t1 w1 =>
 opP Tryd.prog (Instr.fieldAt 24 t1 0) fun t5 =>
 opQ Tryd.prog w1 (Instr.loadAt 3 t5) fun t6 =>
 opP Tryd.prog (bsem .add 3 true t6 (Value.int .i64 7)) fun t7 =>
 opP Tryd.prog (bsem .quo 3 true t7 (Value.int .i64 8)) fun t8 =>
 opW Tryd.prog w1 (Instr.makeSlice 65 t8 t8) fun t9 w2 =>
 sLoop [(Value.int .i64 0)] w2 (fun s4 _d5 w6 K3 =>
 opP Tryd.prog (Instr.fieldAt 24 t1 0) fun t11 =>
 opQ Tryd.prog w6 (Instr.loadAt 3 t11) fun t12 =>
 opP Tryd.prog (bsem .lss 3 false (s4.getD 0 undef) t12) fun t13 =>
 oCond t13 (sJoin (fun K7 =>
 opQ Tryd.prog w6 (Instr.loadAt 24 t1) fun t16 =>
 oCall Tryd.prog Tryd.n_ref01_Is #[t16, (s4.getD 0 undef)] w6 fun t18 w11 =>
 oCond t18 (opP Tryd.prog (bsem .quo 3 true (s4.getD 0 undef) (Value.int .i64 8)) fun t21 =>
 opP Tryd.prog (bsem .quo 3 true (s4.getD 0 undef) (Value.int .i64 8)) fun t24 =>
 opP Tryd.prog (Instr.indexAt 65 t9 t24) fun t25 =>
 opQ Tryd.prog w11.drew (Instr.loadAt 5 t25) fun t26 =>
 opP Tryd.prog (bsem .rem 3 true (s4.getD 0 undef) (Value.int .i64 8)) fun t28 =>
 opP Tryd.prog (bsem .shr 5 true (Value.int .u8 128) t28) fun t29 =>
 opP Tryd.prog (bsem .or 5 false t26 t29) fun t30 =>
 opP Tryd.prog (Instr.indexAt 65 t9 t21) fun t31 =>
 opU Tryd.prog w11.drew (Instr.storeAt 5 t31 t30) fun w12 =>
 K7 [] w12) (K7 [] w11)) (fun _s8 _d9 w10 =>
 opP Tryd.prog (bsem .add 3 true (s4.getD 0 undef) (Value.int .i64 1)) fun t15 =>
 K3 [t15] w10)) (opQ Tryd.prog w6 (convert 65 9 t9) fun t33 =>
 K t33 w6))
theorem Tryd.E_ref01_Bytes (t0 : Value) (w : World) (K : Value → World → Prop) : sw ⟨false, false⟩ Tryd.prog (fun _ _ => False) Tryd.A_ref01_Bytes (bodyOf Tryd.f13) [t0, undef, undef, undef, undef, undef, undef, undef, undef, undef, undef, undef, undef, undef, undef, undef, undef, undef, undef, undef, undef, undef, undef, undef, undef, undef, undef, undef, undef, undef, undef, undef, undef, undef] w (topQ false Tryd.prog Tryd.f13 w K) = Tryd.F_ref01_Bytes t0 w K := by kernel_rfl
theorem Tryd.C_ref01_Bytes : chk ⟨false, false⟩ Tryd.prog false Tryd.A_ref01_Bytes (bodyOf Tryd.f13) = true := by kernel_rfl
theorem Tryd.ok_ref01_Bytes {t0 : Value} {w : World} {K : Value → World → Prop} (h : Tryd.F_ref01_Bytes t0 w K) : oCall Tryd.prog Tryd.n_ref01_Bytes #[t0] w K :=
  calls_of_sw (cf := ⟨false, false⟩) Tryd.mixed Tryd.func13 rfl Tryd.C_ref01_Bytes ((Tryd.E_ref01_Bytes t0 w K).mpr h)

/- 15: loanword/loanwordref01.Read -/
def Tryd.A_ref01_Read : Ann := .s (.r (.op 0 .l (.op 1 .p (.op 2 .p (.nil))))) (.s (.s (.r (.op 0 .p (.op 1 .p (.op 2 .p (.grp 14 false [(3, .p), (4, .p)] [16] (.op 5 .p (.nil))))))) (.c (.s (.r (.op 0 .p (.op 1 .l (.op 2 .p (.op 3 .p (.nil)))))) (.n)) (.n))) (.s (.r (.op 0 .p (.op 1 .p (.op 2 .p (.op 3 .p (.nil)))))) (.s (.s (.r (.op 0 .p (.nil))) (.b (.lp [8] (.s (.s (.r (.op 0 .p (.op 1 .p (.op 2 .p (.nil))))) (.c (.n) (.n))) (.s (.b (.s (.s (.r (.op 0 .p (.op 1 .p (.op 2 .p (.op 3 .p (.nil)))))) (.c (.s (.r (.op 0 .p (.op 1 .p (.op 2 .l (.op 3 .p (.op 4 .p (.nil))))))) (.n)) (.n))) (.s (.r (.op 0 .p (.op 1 .p (.op 2 .p (.nil))))) (.b (.lp [9] (.s (.s (.r (.op 0 .p (.op 1 .p (.op 2 .p (.op 3 .p (.op 4 .p (.nil))))))) (.c (.n) (.n))) (.s (.b (.s (.r (.op 0 .p (.op 1 .p (.op 2 .p (.op 3 .p (.grp 45 true [(4, .p), (5, .p), (6, .p), (7, .p), (8, .p), (9, .p), (10, .p), (11, .p)] [53] (.op 12 .p (.nil)))))))) (.c (.s (.r (.op 0 .p (.op 1 .p (.op 2 .l (.op 3 .p (.op 4 .p (.nil))))))) (.n)) (.n)))) (.r (.op 0 .p (.op 1 .p (.op 2 .p (.nil)))))))))))) (.r (.op 0 .p (.op 1 .p (.op 2 .p (.nil)))))))))) (.s (.s (.r (.op 0 .p (.op 1 .p (.op 2 .p (.op 3 .p (.nil)))))) (.c (.s (.r (.op 0 .p (.op 1 .p (.op 2 .l (.op 3 .p (.op 4 .p (.nil))))))) (.n)) (.n))) (.s (.r (.op 0 .p (.op 1 .l (.op 2 .l (.op 3 .l (.nil)))))) (.s (.s (.r (.op 0 .p (.nil))) (.b (.lp [11] (.s (.s (.r (.op 0 .p (.op 1 .p (.op 2 .p (.nil))))) (.c (.n) (.n))) (.j [] (.b (.s (.r (.op 0 .p (.op 1 .p (.op 2 .p (.op 3 .p (.op 4 .p (.op 5 .p (.op 6 .p (.op 7 .p (.op 8 .p (.nil))))))))))) (.c (.r (.op 0 .p (.op 1 .q (.op 2 .p (.op 3 .p (.op 4 .p (.op 5 .q (.op 6 .p (.op 7 .p (.op 8 .p (.op 9 .q (.op 10 .p (.op 11 .p (.op 12 .p (.op 13 .p (.op 14 .p (.op 15 .l (.nil)))))))))))))))))) (.n)))) (.r (.op 0 .p (.op 1 .p (.op 2 .p (.nil)))))))))) (.s (.r (.op 0 .q (.op 1 .l (.op 2 .p (.op 3 .p (.nil)))))) (.n))))))))
def Tryd.F_ref01_Read (t0 : Value) (t1 : Value) (w : World) (K : Value → World → Prop) : Prop :=
 opW Tryd.prog w (Instr.alloc 24 true (.tuple #[])) fun t4 w1 =>
 opP Tryd.prog (bsem .lss 3 true t0 (Value.int .i64 0)) fun t13 =>
 sJoin (fun K2 => gIf t13 false (opP Tryd.prog (bsem .gtr 3 true t0 (Value.int .i64 1032)) fun t16 =>
 K2 [t16] w1) (K2 [undef] w1)) (fun s3 _d4 w5 =>
 oPick t13 (Value.bool true) (s3.getD 0 undef) fun t17 =>
 oCond t17 (opP Tryd.prog (Instr.build 24 #[]) fun t18 =>
 opU Tryd.prog w5 (Instr.storeAt 24 t4 t18) fun w6 =>
 opQ Tryd.prog w6 (cellSem 24 t4) fun r7 =>
 K (.tuple #[r7, (Value.int .i64 0), (Value.int .i64 2)]) w6) (opP Tryd.prog (bsem .add 3 true t0 (Value.int .i64 7)) fun t20 =>
 opP Tryd.prog (bsem .quo 3 true t20 (Value.int .i64 8)) fun t21 =>
 sLoop [(Value.int .i64 0)] w5 (fun s9 _d10 w11 K8 =>
 opP Tryd.prog (bsem .lss 3 false (s9.getD 0 undef) t21) fun t24 =>
 oCond t24 (opP Tryd.prog (Builtin.len_ #[9] 3 #[t1]) fun t29 =>
 opP Tryd.prog (bsem .geq 3 false (s9.getD 0 undef) t29) fun t30 =>
 oCond t30 (opP Tryd.prog (Instr.build 24 #[]) fun t31 =>
 opU Tryd.prog w11 (Instr.storeAt 24 t4 t31) fun w12 =>
 opQ Tryd.prog w12 (cellSem 24 t4) fun r13 =>
 K (.tuple #[r13, (s9.getD 0 undef), (Value.int .i64 10)]) w12) (opP Tryd.prog (bsem .mul 3 true (Value.int .i64 8) (s9.getD 0 undef)) fun t34 =>
 sLoop [t34] w11 (fun s15 _d16 w17 K14 =>
 opP Tryd.prog (bsem .mul 3 true (Value.int .i64 8) (s9.getD 0 undef)) fun t37 =>
 opP Tryd.prog (bsem .add 3 true t37 (Value.int .i64 8)) fun t38 =>
 opP Tryd.prog (bsem .lss 3 false (s15.getD 0 undef) t38) fun t39 =>
 oCond t39 (opP Tryd.prog (bsem .geq 3 false (s15.getD 0 undef) t0) fun t44 =>
 sJoin (fun K18 => gIf t44 true (opP Tryd.prog (Instr.index 9 t1 (s9.getD 0 undef)) fun t48 =>
 opP Tryd.prog (bsem .rem 3 true (s15.getD 0 undef) (Value.int .i64 8)) fun t50 =>
 opP Tryd.prog (bsem .shr 5 true (Value.int .u8 128) t50) fun t51 =>
 opP Tryd.prog (bsem .and 5 false t48 t51) fun t52 =>
 opP Tryd.prog (bsem .neq 5 true t52 (Value.int .u8 0)) fun t53 =>
 K18 [t53] w17.drew) (K18 [undef] w17.drew)) (fun s19 _d20 w21 =>
 oPick t44 (s19.getD 0 undef) (Value.bool false) fun t54 =>
 oCond t54 (opP Tryd.prog (Instr.build 24 #[]) fun t55 =>
 opU Tryd.prog w21 (Instr.storeAt 24 t4 t55) fun w22 =>
 opQ Tryd.prog w22 (cellSem 24 t4) fun r23 =>
 K (.tuple #[r23, (s9.getD 0 undef), (Value.int .i64 10)]) w22) (opP Tryd.prog (bsem .add 3 true (s15.getD 0 undef) (Value.int .i64 1)) fun t41 =>
 K14 [t41] w21))) (opP Tryd.prog (bsem .add 3 true (s9.getD 0 undef) (Value.int .i64 1)) fun t26 =>
 K8 [t26] w17)))) (opP Tryd.prog (Builtin.len_ #[9] 3 #[t1]) fun t58 =>
 opP Tryd.prog (bsem .gtr 3 false t58 t21) fun t60 =>
 oCond t60 (opP Tryd.prog (Instr.build 24 #[]) fun t61 =>
 opU Tryd.prog w11 (Instr.storeAt 24 t4 t61) fun w24 =>
 opQ Tryd.prog w24 (cellSem 24 t4) fun r25 =>
 K (.tuple #[r25, t21, (Value.int .i64 10)]) w24) (oCall Tryd.prog Tryd.n_ref01_None #[t0] w11 fun t64 w26 =>
 opW Tryd.prog w26 (Instr.alloc 24 true (.tuple #[])) fun t10 w27 =>
 opU Tryd.prog w27 (Instr.storeAt 24 t10 t64) fun w28 =>
 sLoop [(Value.int .i64 0)] w28 (fun s30 _d31 w32 K29 =>
 opP Tryd.prog (bsem .lss 3 false (s30.getD 0 undef) t0) fun t67 =>
 oCond t67 (sJoin (fun K33 =>
 opP Tryd.prog (bsem .quo 3 true (s30.getD 0 undef) (Value.int .i64 8)) fun t72 =>
 opP Tryd.prog (Instr.index 9 t1 t72) fun t73 =>
 opP Tryd.prog (bsem .rem 3 true (s30.getD 0 undef) (Value.int .i64 8)) fun t75 =>
 opP Tryd.prog (bsem .shr 5 true (Value.int .u8 128) t75) fun t76 =>
 opP Tryd.prog (bsem .and 5 false t73 t76) fun t77 =>
 opP Tryd.prog (bsem .neq 5 true t77 (Value.int .u8 0)) fun t78 =>
 oCond t78 (opP Tryd.prog (Instr.fieldAt 24 t10 1) fun t79 =>
 opQ Tryd.prog w32.drew.drew (Instr.loadAt 22 t79) fun t80 =>
 opP Tryd.prog (bsem .quo 3 true (s30.getD 0 undef) (Value.int .i64 64)) fun t82 =>
 opP Tryd.prog (Instr.fieldAt 24 t10 1) fun t83 =>
 opQ Tryd.prog w32.drew.drew (Instr.loadAt 22 t83) fun t84 =>
 opP Tryd.prog (bsem .quo 3 true (s30.getD 0 undef) (Value.int .i64 64)) fun t86 =>
 opP Tryd.prog (Instr.indexAt 22 t84 t86) fun t87 =>
 opQ Tryd.prog w32.drew.drew (Instr.loadAt 64 t87) fun t88 =>
 opP Tryd.prog (bsem .rem 3 true (s30.getD 0 undef) (Value.int .i64 64)) fun t90 =>
 opP Tryd.prog (bsem .shl 64 true (Value.int .u64 1) t90) fun t91 =>
 opP Tryd.prog (bsem .or 64 false t88 t91) fun t92 =>
 opP Tryd.prog (Instr.indexAt 22 t80 t82) fun t93 =>
 opU Tryd.prog w32.drew.drew (Instr.storeAt 64 t93 t92) fun w37 =>
 K33 [] w37) (K33 [] w32.drew)) (fun _s34 _d35 w36 =>
 opP Tryd.prog (bsem .add 3 true (s30.getD 0 undef) (Value.int .i64 1)) fun t69 =>
 K29 [t69] w36)) (opQ Tryd.prog w32 (Instr.loadAt 24 t10) fun t94 =>
 opU Tryd.prog w32 (Instr.storeAt 24 t4 t94) fun w38 =>
 opQ Tryd.prog w38 (cellSem 24 t4) fun r39 =>
 K (.tuple #[r39, (Value.int .i64 0), (Value.int .i64 0)]) w38)))))))
theorem Tryd.E_ref01_Read (t0 t1 : Value) (w : World) (K : Value → World → Prop) : sw ⟨false, false⟩ Tryd.prog (fun _ _ => False) Tryd.A_ref01_Read (bodyOf Tryd.f15) [t0, t1, undef, undef, undef, undef, undef, undef, undef, undef, undef, undef, undef, undef, undef, undef, undef, undef, undef, undef, undef, undef, undef, undef, undef, undef, undef, undef, undef, undef, undef, undef, undef, undef, undef, undef, undef, undef, undef, undef, undef, undef, undef, undef, undef, undef, undef, undef, undef, undef, undef, undef, undef, undef, undef, undef, undef, undef, undef, undef, undef, undef, undef, undef, undef, undef, undef, undef, undef, undef, undef, undef, undef, undef, undef, undef, undef, undef, undef, undef, undef, undef, undef, undef, undef, undef, undef, undef, undef, undef, undef, undef, undef, undef, undef] w (topQ false Tryd.prog Tryd.f15 w K) = Tryd.F_ref01_Read t0 t1 w K := by kernel_rfl
theorem Tryd.C_ref01_Read : chk ⟨false, false⟩ Tryd.prog false Tryd.A_ref01_Read (bodyOf Tryd.f15) = true := by kernel_rfl
theorem Tryd.ok_ref01_Read {t0 t1 : Value} {w : World} {K : Value → World → Prop} (h : Tryd.F_ref01_Read t0 t1 w K) : oCall Tryd.prog Tryd.n_ref01_Read #[t0, t1] w K :=
  calls_of_sw (cf := ⟨false, false⟩) Tryd.mixed Tryd.func15 rfl Tryd.C_ref01_Read ((Tryd.E_ref01_Read t0 t1 w K).mpr h)

/- 20: loanword/loanwordref01.New -/
def Tryd.A_ref01_New : Ann := .s (.r (.op 0 .l (.op 1 .p (.nil)))) (.s (.s (.r (.op 0 .p (.op 1 .p (.op 2 .p (.grp 6 false [(3, .p), (4, .p)] [8] (.op 5 .p (.nil))))))) (.c (.s (.r (.op 0 .p (.op 1 .l (.op 2 .p (.nil))))) (.n)) (.n))) (.s (.r (.op 0 .p (.op 1 .l (.op 2 .l (.op 3 .p (.nil)))))) (.n)))
def Tryd.F_ref01_New (t0 : Value) (w : World) (K : Value → World → Prop) : Prop :=
 opW Tryd.prog w (Instr.alloc 24 true (.tuple #[])) fun t2 w1 =>
 opP Tryd.prog (bsem .lss 3 true t0 (Value.int .i64 0)) fun t5 =>
 sJoin (fun K2 => gIf t5 false (opP Tryd.prog (bsem .gtr 3 true t0 (Value.int .i64 1032)) fun t8 =>
 K2 [t8] w1) (K2 [undef] w1)) (fun s3 _d4 w5 =>
 oPick t5 (Value.bool true) (s3.getD 0 undef) fun t9 =>
 oCond t9 (opP Tryd.prog (Instr.build 24 #[]) fun t10 =>
 opU Tryd.prog w5 (Instr.storeAt 24 t2 t10) fun w6 =>
 opQ Tryd.prog w6 (cellSem 24 t2) fun r7 =>
 K (.tuple #[r7, (Value.int .i64 2)]) w6) (oCall Tryd.prog Tryd.n_ref01_None #[t0] w5 fun t12 w8 =>
 opU Tryd.prog w8 (Instr.storeAt 24 t2 t12) fun w9 =>
 opQ Tryd.prog w9 (cellSem 24 t2) fun r10 =>
 K (.tuple #[r10, (Value.int .i64 0)]) w9))
theorem Tryd.E_ref01_New (t0 : Value) (w : World) (K : Value → World → Prop) : sw ⟨false, false⟩ Tryd.prog (fun _ _ => False) Tryd.A_ref01_New (bodyOf Tryd.f20) [t0, undef, undef, undef, undef, undef, undef, undef, undef, undef, undef, undef, undef] w (topQ false Tryd.prog Tryd.f20 w K) = Tryd.F_ref01_New t0 w K := by kernel_rfl
theorem Tryd.C_ref01_New : chk ⟨false, false⟩ Tryd.prog false Tryd.A_ref01_New (bodyOf Tryd.f20) = true := by kernel_rfl
theorem Tryd.ok_ref01_New {t0 : Value} {w : World} {K : Value → World → Prop} (h : Tryd.F_ref01_New t0 w K) : oCall Tryd.prog Tryd.n_ref01_New #[t0] w K :=
  calls_of_sw (cf := ⟨false, false⟩) Tryd.mixed Tryd.func20 rfl Tryd.C_ref01_New ((Tryd.E_ref01_New t0 w K).mpr h)

/- 23: loanword/loanwordref01.Get -/
def Tryd.A_ref01_Get : Ann := .s (.r (.op 0 .l (.op 1 .p (.nil)))) (.s (.r (.op 0 .q (.op 1 .l (.op 2 .p (.grp 7 true [(3, .p), (4, .p)] [9] (.op 5 .p (.op 6 .p (.grp 11 true [(7, .p), (8, .p), (9, .q), (10, .p)] [15] (.op 11 .p (.op 12 .p (.grp 17 true [(13, .q), (14, .p), (15, .l)] [20] (.op 16 .p (.op 17 .p (.nil)))))))))))))) (.n))
def Tryd.F_ref01_Get (t0 : Value) (t1 : Value) (w : World) (K : Value → World → Prop) : Prop :=
 opW Tryd.prog w (Instr.box 24 t0) fun t2 w1 =>
 opQ Tryd.prog w1 (Instr.loadAt 24 t2) fun t5 =>
 oCall Tryd.prog Tryd.n_ref01_May #[t5] w1 fun t6 w2 =>
 sJoin (fun K3 => gIf t6 true (opP Tryd.prog (bsem .geq 3 true t1 (Value.int .i64 0)) fun t9 =>
 K3 [t9] w2) (K3 [undef] w2)) (fun s4 _d5 w6 =>
 oPick t6 (s4.getD 0 undef) (Value.bool false) fun t10 =>
 sJoin (fun K7 => gIf t10 true (opP Tryd.prog (Instr.fieldAt 24 t2 0) fun t13 =>
 opQ Tryd.prog w6 (Instr.loadAt 3 t13) fun t14 =>
 opP Tryd.prog (bsem .lss 3 false t1 t14) fun t15 =>
 K7 [t15] w6) (K7 [undef] w6)) (fun s8 _d9 w10 =>
 oPick t10 (s8.getD 0 undef) (Value.bool false) fun t16 =>
 sJoin (fun K11 => gIf t16 true (opQ Tryd.prog w10 (Instr.loadAt 24 t2) fun t18 =>
 oCall Tryd.prog Tryd.n_ref01_Is #[t18, t1] w10 fun t20 w15 =>
 K11 [t20] w15) (K11 [undef] w10)) (fun s12 _d13 w14 =>
 oPick t16 (s12.getD 0 undef) (Value.bool false) fun t21 =>
 K t21 w14)))
theorem Tryd.E_ref01_Get (t0 t1 : Value) (w : World) (K : Value → World → Prop) : sw ⟨false, false⟩ Tryd.prog (fun _ _ => False) Tryd.A_ref01_Get (bodyOf Tryd.f23) [t0, t1, undef, undef, undef, undef, undef, undef, undef, undef, undef, undef, undef, undef, undef, undef, undef, undef, undef, undef, undef, undef] w (topQ false Tryd.prog Tryd.f23 w K) = Tryd.F_ref01_Get t0 t1 w K := by kernel_rfl
theorem Tryd.C_ref01_Get : chk ⟨false, false⟩ Tryd.prog false Tryd.A_ref01_Get (bodyOf Tryd.f23) = true := by kernel_rfl
theorem Tryd.ok_ref01_Get {t0 t1 : Value} {w : World} {K : Value → World → Prop} (h : Tryd.F_ref01_Get t0 t1 w K) : oCall Tryd.prog Tryd.n_ref01_Get #[t0, t1] w K :=
  calls_of_sw (cf := ⟨false, false⟩) Tryd.mixed Tryd.func23 rfl Tryd.C_ref01_Get ((Tryd.E_ref01_Get t0 t1 w K).mpr h)

/- 24: loanword/loanwordref01.List -/
def Tryd.A_ref01_List : Ann := .s (.r (.op 0 .l (.op 1 .p (.nil)))) (.s (.r (.op 0 .p (.nil))) (.s (.s (.r (.op 0 .p (.nil))) (.b (.lp [3, 4] (.s (.s (.r (.op 0 .p (.op 1 .p (.op 2 .q (.op 3 .p (.nil)))))) (.c (.n) (.n))) (.j [3] (.b (.s (.r (.op 0 .q (.op 1 .p (.op 2 .l (.nil))))) (.c (.r (.op 0 .p (.op 1 .p (.op 2 .l (.op 3 .l (.op 4 .p (.nil))))))) (.n)))) (.r (.op 0 .p (.op 1 .p (.op 2 .p (.nil)))))))))) (.s (.r (.op 0 .p (.op 1 .p (.nil)))) (.n))))
def Tryd.F_ref01_List (t0 : Value) (w : World) (K : Value → World → Prop) : Prop :=
 opW Tryd.prog w (Instr.box 24 t0) fun t1 w1 =>
 sLoop [(Value.slice Option.none 0 0), (Value.int .i64 0)] w1 (fun s3 _d4 w5 K2 =>
 opP Tryd.prog (Instr.fieldAt 24 t1 0) fun t6 =>
 opQ Tryd.prog w5 (Instr.loadAt 3 t6) fun t7 =>
 opP Tryd.prog (bsem .lss 3 false (s3.getD 1 undef) t7) fun t8 =>
 oCond t8 (sJoin (fun K6 =>
 opQ Tryd.prog w5 (Instr.loadAt 24 t1) fun t11 =>
 oCall Tryd.prog Tryd.n_ref01_Is #[t11, (s3.getD 1 undef)] w5 fun t13 w10 =>
 oCond t13 (opW Tryd.prog w10 (Instr.buildSlice 45 1 #[(0, (s3.getD 1 undef))]) fun t16 w11 =>
 opW Tryd.prog w11 (Builtin.append_ #[45, 45] 45 #[(s3.getD 0 undef), t16]) fun t17 w12 =>
 K6 [t17] w12) (K6 [(s3.getD 0 undef)] w10)) (fun s7 _d8 w9 =>
 opP Tryd.prog (bsem .add 3 true (s3.getD 1 undef) (Value.int .i64 1)) fun t10 =>
 K2 [(s7.getD 0 undef), t10] w9)) (K (s3.getD 0 undef) w5))
theorem Tryd.E_ref01_List (t0 : Value) (w : World) (K : Value → World → Prop) : sw ⟨false, false⟩ Tryd.prog (fun _ _ => False) Tryd.A_ref01_List (bodyOf Tryd.f24) [t0, undef, undef, undef, undef, undef, undef, undef, undef, undef, undef, undef, undef, undef, undef, undef, undef, undef, undef] w (topQ false Tryd.prog Tryd.f24 w K) = Tryd.F_ref01_List t0 w K := by kernel_rfl
theorem Tryd.C_ref01_List : chk ⟨false, false⟩ Tryd.prog false Tryd.A_ref01_List (bodyOf Tryd.f24) = true := by kernel_rfl
theorem Tryd.ok_ref01_List {t0 : Value} {w : World} {K : Value → World → Prop} (h : Tryd.F_ref01_List t0 w K) : oCall Tryd.prog Tryd.n_ref01_List #[t0] w K :=
  calls_of_sw (cf := ⟨false, false⟩) Tryd.mixed Tryd.func24 rfl Tryd.C_ref01_List ((Tryd.E_ref01_List t0 w K).mpr h)

/- 28: loanword/loanwordref01.Turn -/
def Tryd.A_ref01_Turn : Ann := .s (.r (.op 0 .l (.op 1 .l (.op 2 .p (.nil))))) (.s (.s (.r (.op 0 .q (.op 1 .l (.op 2 .p (.nil))))) (.c (.s (.r (.op 0 .p (.op 1 .l (.op 2 .p (.nil))))) (.n)) (.n))) (.s (.r (.op 0 .q (.op 1 .l (.op 2 .l (.op 3 .l (.nil)))))) (.s (.s (.r (.op 0 .p (.nil))) (.b (.lp [9] (.s (.s (.r (.op 0 .p (.op 1 .p (.op 2 .p (.op 3 .p (.nil)))))) (.c (.n) (.n))) (.j [] (.b (.s (.s (.r (.op 0 .p (.op 1 .p (.op 2 .p (.op 3 .q (.op 4 .p (.op 5 .p (.grp 27 false [(6, .p), (7, .p), (8, .p), (9, .q), (10, .p), (11, .q), (12, .p)] [34] (.op 13 .p (.nil)))))))))) (.c (.s (.r (.op 0 .p (.op 1 .l (.op 2 .p (.nil))))) (.n)) (.n))) (.s (.r (.op 0 .p (.op 1 .q (.op 2 .p (.op 3 .p (.op 4 .p (.op 5 .q (.op 6 .p (.op 7 .p (.op 8 .q (.op 9 .p (.op 10 .p (.op 11 .p (.op 12 .q (.op 13 .p (.op 14 .p (.op 15 .q (.op 16 .p (.op 17 .p (.op 18 .p (.op 19 .q (.op 20 .p (.op 21 .p (.op 22 .p (.op 23 .p (.op 24 .l (.nil))))))))))))))))))))))))))) (.s (.r (.op 0 .p (.op 1 .p (.nil)))) (.c (.r (.op 0 .p (.op 1 .q (.op 2 .p (.op 3 .p (.op 4 .p (.op 5 .q (.op 6 .p (.op 7 .p (.op 8 .q (.op 9 .p (.op 10 .p (.op 11 .p (.op 12 .q (.op 13 .p (.op 14 .p (.op 15 .q (.op 16 .p (.op 17 .p (.op 18 .p (.op 19 .q (.op 20 .p (.op 21 .p (.op 22 .p (.op 23 .p (.op 24 .l (.nil))))))))))))))))))))))))))) (.n)))))) (.r (.op 0 .p (.op 1 .p (.op 2 .p (.nil)))))))))) (.s (.r (.op 0 .q (.op 1 .l (.op 2 .p (.nil))))) (.n)))))
def Tryd.F_ref01_Turn (t0 : Value) (t1 : Value) (t2 : Value) (w : World) (K : Value → World → Prop) : Prop :=
 opW Tryd.prog w (Instr.box 24 t0) fun t3 w1 =>
 opW Tryd.prog w1 (Instr.alloc 24 true (.tuple #[])) fun t6 w2 =>
 opQ Tryd.prog w2 (Instr.loadAt 24 t3) fun t10 =>
 oCall Tryd.prog Tryd.n_ref01_May #[t10] w2 fun t11 w3 =>
 opP Tryd.prog (Op.unary .not t11) fun t12 =>
 oCond t12 (opP Tryd.prog (Instr.build 24 #[]) fun t13 =>
 opU Tryd.prog w3 (Instr.storeAt 24 t6 t13) fun w4 =>
 opQ Tryd.prog w4 (cellSem 24 t6) fun r5 =>
 K (.tuple #[r5, (Value.int .i64 2)]) w4) (opQ Tryd.prog w3 (Instr.loadAt 24 t3) fun t14 =>
 oCall Tryd.prog Tryd.n_ref01_Own #[t14] w3 fun t15 w6 =>
 opW Tryd.prog w6 (Instr.alloc 24 true (.tuple #[])) fun t8 w7 =>
 opU Tryd.prog w7 (Instr.storeAt 24 t8 t15) fun w8 =>
 sLoop [(Value.int .i64 0)] w8 (fun s10 _d11 w12 K9 =>
 opP Tryd.prog (Builtin.len_ #[45] 3 #[t1]) fun t18 =>
 opP Tryd.prog (bsem .lss 3 false (s10.getD 0 undef) t18) fun t19 =>
 oCond t19 (sJoin (fun K13 =>
 opP Tryd.prog (Instr.indexAt 45 t1 (s10.getD 0 undef)) fun t24 =>
 opQ Tryd.prog w12.drew (Instr.loadAt 3 t24) fun t25 =>
 opP Tryd.prog (bsem .lss 3 true t25 (Value.int .i64 0)) fun t26 =>
 sJoin (fun K17 => gIf t26 false (opP Tryd.prog (Instr.indexAt 45 t1 (s10.getD 0 undef)) fun t30 =>
 opQ Tryd.prog w12.drew (Instr.loadAt 3 t30) fun t31 =>
 opP Tryd.prog (Instr.fieldAt 24 t3 0) fun t32 =>
 opQ Tryd.prog w12.drew (Instr.loadAt 3 t32) fun t33 =>
 opP Tryd.prog (bsem .geq 3 false t31 t33) fun t34 =>
 K17 [t34] w12.drew) (K17 [undef] w12.drew)) (fun s18 _d19 w20 =>
 oPick t26 (Value.bool true) (s18.getD 0 undef) fun t35 =>
 oCond t35 (opP Tryd.prog (Instr.build 24 #[]) fun t36 =>
 opU Tryd.prog w20 (Instr.storeAt 24 t6 t36) fun w21 =>
 opQ Tryd.prog w21 (cellSem 24 t6) fun r22 =>
 K (.tuple #[r22, (Value.int .i64 2)]) w21) (opP Tryd.prog (Instr.fieldAt 24 t8 1) fun t37 =>
 opQ Tryd.prog w20.drew (Instr.loadAt 22 t37) fun t38 =>
 opP Tryd.prog (Instr.indexAt 45 t1 (s10.getD 0 undef)) fun t41 =>
 opQ Tryd.prog w20.drew (Instr.loadAt 3 t41) fun t42 =>
 opP Tryd.prog (bsem .quo 3 true t42 (Value.int .i64 64)) fun t43 =>
 opP Tryd.prog (Instr.fieldAt 24 t8 1) fun t44 =>
 opQ Tryd.prog w20.drew (Instr.loadAt 22 t44) fun t45 =>
 opP Tryd.prog (Instr.indexAt 45 t1 (s10.getD 0 undef)) fun t48 =>
 opQ Tryd.prog w20.drew (Instr.loadAt 3 t48) fun t49 =>
 opP Tryd.prog (bsem .quo 3 true t49 (Value.int .i64 64)) fun t50 =>
 opP Tryd.prog (Instr.indexAt 22 t45 t50) fun t51 =>
 opQ Tryd.prog w20.drew (Instr.loadAt 64 t51) fun t52 =>
 opP Tryd.prog (Instr.indexAt 45 t1 (s10.getD 0 undef)) fun t55 =>
 opQ Tryd.prog w20.drew (Instr.loadAt 3 t55) fun t56 =>
 opP Tryd.prog (bsem .rem 3 true t56 (Value.int .i64 64)) fun t57 =>
 opP Tryd.prog (bsem .shl 64 true (Value.int .u64 1) t57) fun t58 =>
 opP Tryd.prog (bsem .or 64 false t52 t58) fun t59 =>
 opP Tryd.prog (Instr.indexAt 22 t38 t43) fun t60 =>
 opU Tryd.prog w20.drew (Instr.storeAt 64 t60 t59) fun w23 =>
 opP Tryd.prog (Op.unary .not t2) fun t62 =>
 oCond t62 (opP Tryd.prog (Instr.fieldAt 24 t8 1) fun t63 =>
 opQ Tryd.prog w23.drew (Instr.loadAt 22 t63) fun t64 =>
 opP Tryd.prog (Instr.indexAt 45 t1 (s10.getD 0 undef)) fun t67 =>
 opQ Tryd.prog w23.drew (Instr.loadAt 3 t67) fun t68 =>
 opP Tryd.prog (bsem .quo 3 true t68 (Value.int .i64 64)) fun t69 =>
 opP Tryd.prog (Instr.fieldAt 24 t8 1) fun t70 =>
 opQ Tryd.prog w23.drew (Instr.loadAt 22 t70) fun t71 =>
 opP Tryd.prog (Instr.indexAt 45 t1 (s10.getD 0 undef)) fun t74 =>
 opQ Tryd.prog w23.drew (Instr.loadAt 3 t74) fun t75 =>
 opP Tryd.prog (bsem .quo 3 true t75 (Value.int .i64 64)) fun t76 =>
 opP Tryd.prog (Instr.indexAt 22 t71 t76) fun t77 =>
 opQ Tryd.prog w23.drew (Instr.loadAt 64 t77) fun t78 =>
 opP Tryd.prog (Instr.indexAt 45 t1 (s10.getD 0 undef)) fun t81 =>
 opQ Tryd.prog w23.drew (Instr.loadAt 3 t81) fun t82 =>
 opP Tryd.prog (bsem .rem 3 true t82 (Value.int .i64 64)) fun t83 =>
 opP Tryd.prog (bsem .shl 64 true (Value.int .u64 1) t83) fun t84 =>
 opP Tryd.prog (bsem .xor 64 false t78 t84) fun t85 =>
 opP Tryd.prog (Instr.indexAt 22 t64 t69) fun t86 =>
 opU Tryd.prog w23.drew (Instr.storeAt 64 t86 t85) fun w24 =>
 K13 [] w24) (K13 [] w23)))) (fun _s14 _d15 w16 =>
 opP Tryd.prog (bsem .add 3 true (s10.getD 0 undef) (Value.int .i64 1)) fun t21 =>
 K9 [t21] w16)) (opQ Tryd.prog w12 (Instr.loadAt 24 t8) fun t87 =>
 opU Tryd.prog w12 (Instr.storeAt 24 t6 t87) fun w25 =>
 opQ Tryd.prog w25 (cellSem 24 t6) fun r26 =>
 K (.tuple #[r26, (Value.int .i64 0)]) w25)))
theorem Tryd.E_ref01_Turn (t0 t1 t2 : Value) (w : World) (K : Value → World → Prop) : sw ⟨false, false⟩ Tryd.prog (fun _ _ => False) Tryd.A_ref01_Turn (bodyOf Tryd.f28) [t0, t1, t2, undef, undef, undef, undef, undef, undef, undef, undef, undef, undef, undef, undef, undef, undef, undef, undef, undef, undef, undef, undef, undef, undef, undef, undef, undef, undef, undef, undef, undef, undef, undef, undef, undef, undef, undef, undef, undef, undef, undef, undef, undef, undef, undef, undef, undef, undef, undef, undef, undef, undef, undef, undef, undef, undef, undef, undef, undef, undef, undef, undef, undef, undef, undef, undef, undef, undef, undef, undef, undef, undef, undef, undef, undef, undef, undef, undef, undef, undef, undef, undef, undef, undef, undef, undef, undef] w (topQ false Tryd.prog Tryd.f28 w K) = Tryd.F_ref01_Turn t0 t1 t2 w K := by kernel_rfl
theorem Tryd.C_ref01_Turn : chk ⟨false, false⟩ Tryd.prog false Tryd.A_ref01_Turn (bodyOf Tryd.f28) = true := by kernel_rfl
theorem Tryd.ok_ref01_Turn {t0 t1 t2 : Value} {w : World} {K : Value → World → Prop} (h : Tryd.F_ref01_Turn t0 t1 t2 w K) : oCall Tryd.prog Tryd.n_ref01_Turn #[t0, t1, t2] w K :=
  calls_of_sw (cf := ⟨false, false⟩) Tryd.mixed Tryd.func28 rfl Tryd.C_ref01_Turn ((Tryd.E_ref01_Turn t0 t1 t2 w K).mpr h)

/- 34: loanword/loanwordref01.Join -/
def Tryd.A_ref01_Join : Ann := .s (.r (.op 0 .l (.op 1 .l (.op 2 .l (.op 3 .p (.nil)))))) (.s (.s (.r (.op 0 .q (.op 1 .q (.op 2 .l (.op 3 .p (.nil)))))) (.c (.s (.r (.op 0 .p (.op 1 .l (.op 2 .p (.nil))))) (.n)) (.n))) (.s (.r (.op 0 .p (.op 1 .q (.op 2 .l (.op 3 .l (.op 4 .l (.nil))))))) (.s (.s (.r (.op 0 .p (.nil))) (.b (.lp [9] (.s (.s (.r (.op 0 .p (.op 1 .p (.op 2 .q (.op 3 .p (.nil)))))) (.c (.n) (.n))) (.j [] (.b (.s (.r (.op 0 .q (.op 1 .p (.op 3 .q (.op 4 .p (.op 2 .u (.op 5 .l (.op 6 .p (.op 7 .p (.nil)))))))))) (.s (.r (.op 0 .p (.op 1 .p (.op 2 .p (.grp 34 true [(3, .p), (4, .p)] [36] (.grp 36 false [(5, .p)] [37] (.grp 34 true [(6, .p)] [38] (.op 7 .p (.op 8 .p (.grp 40 false [(9, .p), (10, .p), (11, .p)] [43] (.grp 43 true [(12, .p)] [44] (.grp 40 false [(13, .p), (14, .p)] [46] (.grp 46 true [(15, .p)] [47] (.grp 40 false [(16, .p)] [48] (.op 17 .p (.op 18 .p (.grp 50 false [(19, .p), (20, .p), (21, .p)] [53] (.grp 53 true [(22, .p)] [54] (.grp 50 false [(23, .p), (24, .p)] [56] (.grp 56 true [(25, .p), (26, .p)] [58] (.grp 50 false [(27, .p)] [59] (.op 28 .p (.nil))))))))))))))))))))))) (.c (.r (.op 0 .p (.op 1 .q (.op 2 .p (.op 3 .p (.op 4 .p (.op 5 .q (.op 6 .p (.op 7 .p (.op 8 .p (.op 9 .q (.op 10 .p (.op 11 .p (.op 12 .p (.op 13 .p (.op 14 .p (.op 15 .l (.nil)))))))))))))))))) (.n))))) (.r (.op 0 .p (.op 1 .p (.op 2 .p (.nil)))))))))) (.s (.r (.op 0 .q (.op 1 .l (.op 2 .p (.nil))))) (.n)))))
def Tryd.F_ref01_Join (t0 : Value) (t1 : Value) (t2 : Value) (w : World) (K : Value → World → Prop) : Prop :=
 opW Tryd.prog w (Instr.box 24 t0) fun t3 w1 =>
 opW Tryd.prog w1 (Instr.box 24 t1) fun t4 w2 =>
 opW Tryd.prog w2 (Instr.alloc 24 true (.tuple #[])) fun t6 w3 =>
 opQ Tryd.prog w3 (Instr.loadAt 24 t3) fun t12 =>
 opQ Tryd.prog w3 (Instr.loadAt 24 t4) fun t13 =>
 oCall Tryd.prog Tryd.n_ref01_Both #[t12, t13] w3 fun t14 w4 =>
 opP Tryd.prog (Op.unary .not t14) fun t15 =>
 oCond t15 (opP Tryd.prog (Instr.build 24 #[]) fun t16 =>
 opU Tryd.prog w4 (Instr.storeAt 24 t6 t16) fun w5 =>
 opQ Tryd.prog w5 (cellSem 24 t6) fun r6 =>
 K (.tuple #[r6, (Value.int .i64 2)]) w5) (opP Tryd.prog (Instr.fieldAt 24 t3 0) fun t17 =>
 opQ Tryd.prog w4 (Instr.loadAt 3 t17) fun t18 =>
 oCall Tryd.prog Tryd.n_ref01_None #[t18] w4 fun t19 w7 =>
 opW Tryd.prog w7 (Instr.alloc 24 true (.tuple #[])) fun t8 w8 =>
 opU Tryd.prog w8 (Instr.storeAt 24 t8 t19) fun w9 =>
 sLoop [(Value.int .i64 0)] w9 (fun s11 _d12 w13 K10 =>
 opP Tryd.prog (Instr.fieldAt 24 t3 0) fun t21 =>
 opQ Tryd.prog w13 (Instr.loadAt 3 t21) fun t22 =>
 opP Tryd.prog (bsem .lss 3 false (s11.getD 0 undef) t22) fun t23 =>
 oCond t23 (sJoin (fun K14 =>
 opQ Tryd.prog w13.drew (Instr.loadAt 24 t3) fun t26 =>
 opQ Tryd.prog w13.drew (Instr.loadAt 24 t4) fun t29 =>
 oCall Tryd.prog Tryd.n_ref01_Is #[t26, (s11.getD 0 undef)] w13.drew fun t28 w18 =>
 Ext w13.drew w18 ∧
 oCall Tryd.prog Tryd.n_ref01_Is #[t29, (s11.getD 0 undef)] w18 fun t31 w19 =>
 opP Tryd.prog (bsem .eql 3 true t2 (Value.int .i64 0)) fun t33 =>
 sJoin (fun K20 => gIf t33 true (K20 [t28] w19) (K20 [undef] w19)) (fun s21 _d22 w23 =>
 sJoin (fun K24 => gIf (s21.getD 0 undef) false (K24 [t31] w23) (K24 [undef] w23)) (fun s25 _d26 w27 =>
 sJoin (fun K28 => gIf t33 true (oPick (s21.getD 0 undef) (Value.bool true) (s25.getD 0 undef) fun t38 =>
 K28 [t38] w27) (K28 [undef] w27)) (fun s29 _d30 w31 =>
 oPick t33 (s29.getD 0 undef) (Value.bool false) fun t39 =>
 sJoin (fun K32 => gIf t39 false (opP Tryd.prog (bsem .eql 3 true t2 (Value.int .i64 1)) fun t42 =>
 K32 [t42] w31) (K32 [undef] w31)) (fun s33 _d34 w35 =>
 sJoin (fun K36 => gIf (s33.getD 0 undef) true (K36 [t28] w35) (K36 [undef] w35)) (fun s37 _d38 w39 =>
 sJoin (fun K40 => gIf t39 false (oPick (s33.getD 0 undef) (s37.getD 0 undef) (Value.bool false) fun t45 =>
 K40 [t45] w39) (K40 [undef] w39)) (fun s41 _d42 w43 =>
 sJoin (fun K44 => gIf (s41.getD 0 undef) true (K44 [t31] w43) (K44 [undef] w43)) (fun s45 _d46 w47 =>
 sJoin (fun K48 => gIf t39 false (oPick (s41.getD 0 undef) (s45.getD 0 undef) (Value.bool false) fun t48 =>
 K48 [t48] w47) (K48 [undef] w47)) (fun s49 _d50 w51 =>
 oPick t39 (Value.bool true) (s49.getD 0 undef) fun t49 =>
 sJoin (fun K52 => gIf t49 false (opP Tryd.prog (bsem .eql 3 true t2 (Value.int .i64 2)) fun t52 =>
 K52 [t52] w51) (K52 [undef] w51)) (fun s53 _d54 w55 =>
 sJoin (fun K56 => gIf (s53.getD 0 undef) true (K56 [t28] w55) (K56 [undef] w55)) (fun s57 _d58 w59 =>
 sJoin (fun K60 => gIf t49 false (oPick (s53.getD 0 undef) (s57.getD 0 undef) (Value.bool false) fun t55 =>
 K60 [t55] w59) (K60 [undef] w59)) (fun s61 _d62 w63 =>
 sJoin (fun K64 => gIf (s61.getD 0 undef) true (opP Tryd.prog (Op.unary .not t31) fun t58 =>
 K64 [t58] w63) (K64 [undef] w63)) (fun s65 _d66 w67 =>
 sJoin (fun K68 => gIf t49 false (oPick (s61.getD 0 undef) (s65.getD 0 undef) (Value.bool false) fun t59 =>
 K68 [t59] w67) (K68 [undef] w67)) (fun s69 _d70 w71 =>
 oPick t49 (Value.bool true) (s69.getD 0 undef) fun t60 =>
 oCond t60 (opP Tryd.prog (Instr.fieldAt 24 t8 1) fun t61 =>
 opQ Tryd.prog w71.drew (Instr.loadAt 22 t61) fun t62 =>
 opP Tryd.prog (bsem .quo 3 true (s11.getD 0 undef) (Value.int .i64 64)) fun t64 =>
 opP Tryd.prog (Instr.fieldAt 24 t8 1) fun t65 =>
 opQ Tryd.prog w71.drew (Instr.loadAt 22 t65) fun t66 =>
 opP Tryd.prog (bsem .quo 3 true (s11.getD 0 undef) (Value.int .i64 64)) fun t68 =>
 opP Tryd.prog (Instr.indexAt 22 t66 t68) fun t69 =>
 opQ Tryd.prog w71.drew (Instr.loadAt 64 t69) fun t70 =>
 opP Tryd.prog (bsem .rem 3 true (s11.getD 0 undef) (Value.int .i64 64)) fun t72 =>
 opP Tryd.prog (bsem .shl 64 true (Value.int .u64 1) t72) fun t73 =>
 opP Tryd.prog (bsem .or 64 false t70 t73) fun t74 =>
 opP Tryd.prog (Instr.indexAt 22 t62 t64) fun t75 =>
 opU Tryd.prog w71.drew (Instr.storeAt 64 t75 t74) fun w72 =>
 K14 [] w72) (K14 [] w71))))))))))))))) (fun _s15 _d16 w17 =>
 opP Tryd.prog (bsem .add 3 true (s11.getD 0 undef) (Value.int .i64 1)) fun t25 =>
 K10 [t25] w17)) (opQ Tryd.prog w13 (Instr.loadAt 24 t8) fun t76 =>
 opU Tryd.prog w13 (Instr.storeAt 24 t6 t76) fun w73 =>
 opQ Tryd.prog w73 (cellSem 24 t6) fun r74 =>
 K (.tuple #[r74, (Value.int .i64 0)]) w73)))
theorem Tryd.E_ref01_Join (t0 t1 t2 : Value) (w : World) (K : Value → World → Prop) : sw ⟨false, false⟩ Tryd.prog (fun _ _ => False) Tryd.A_ref01_Join (bodyOf Tryd.f34) [t0, t1, t2, undef, undef, undef, undef, undef, undef, undef, undef, undef, undef, undef, undef, undef, undef, undef, undef, undef, undef, undef, undef, undef, undef, undef, undef, undef, undef, undef, undef, undef, undef, undef, undef, undef, undef, undef, undef, undef, undef, undef, undef, undef, undef, undef, undef, undef, undef, undef, undef, undef, undef, undef, undef, undef, undef, undef, undef, undef, undef, undef, undef, undef, undef, undef, undef, undef, undef, undef, undef, undef, undef, undef, undef, undef, undef] w (topQ false Tryd.prog Tryd.f34 w K) = Tryd.F_ref01_Join t0 t1 t2 w K := by kernel_rfl
theorem Tryd.C_ref01_Join : chk ⟨false, false⟩ Tryd.prog false Tryd.A_ref01_Join (bodyOf Tryd.f34) = true := by kernel_rfl
theorem Tryd.ok_ref01_Join {t0 t1 t2 : Value} {w : World} {K : Value → World → Prop} (h : Tryd.F_ref01_Join t0 t1 t2 w K) : oCall Tryd.prog Tryd.n_ref01_Join #[t0, t1, t2] w K :=
  calls_of_sw (cf := ⟨false, false⟩) Tryd.mixed Tryd.func34 rfl Tryd.C_ref01_Join ((Tryd.E_ref01_Join t0 t1 t2 w K).mpr h)

/- 37: loanword/loanwordref01.Both -/
def Tryd.A_ref01_Both : Ann := .s (.r (.op 0 .l (.op 1 .l (.op 2 .p (.nil))))) (.s (.r (.op 0 .q (.op 1 .l (.op 2 .p (.grp 7 true [(3, .q), (4, .l)] [9] (.op 5 .p (.op 6 .p (.grp 11 true [(7, .p), (8, .q), (9, .p), (10, .q), (11, .p)] [16] (.op 12 .p (.op 13 .p (.nil))))))))))) (.n))
def Tryd.F_ref01_Both (t0 : Value) (t1 : Value) (w : World) (K : Value → World → Prop) : Prop :=
 opW Tryd.prog w (Instr.box 24 t0) fun t2 w1 =>
 opW Tryd.prog w1 (Instr.box 24 t1) fun t3 w2 =>
 opQ Tryd.prog w2 (Instr.loadAt 24 t2) fun t5 =>
 oCall Tryd.prog Tryd.n_ref01_May #[t5] w2 fun t6 w3 =>
 sJoin (fun K4 => gIf t6 true (opQ Tryd.prog w3 (Instr.loadAt 24 t3) fun t8 =>
 oCall Tryd.prog Tryd.n_ref01_May #[t8] w3 fun t9 w8 =>
 K4 [t9] w8) (K4 [undef] w3)) (fun s5 _d6 w7 =>
 oPick t6 (s5.getD 0 undef) (Value.bool false) fun t10 =>
 sJoin (fun K9 => gIf t10 true (opP Tryd.prog (Instr.fieldAt 24 t2 0) fun t12 =>
 opQ Tryd.prog w7 (Instr.loadAt 3 t12) fun t13 =>
 opP Tryd.prog (Instr.fieldAt 24 t3 0) fun t14 =>
 opQ Tryd.prog w7 (Instr.loadAt 3 t14) fun t15 =>
 opP Tryd.prog (bsem .eql 3 false t13 t15) fun t16 =>
 K9 [t16] w7) (K9 [undef] w7)) (fun s10 _d11 w12 =>
 oPick t10 (s10.getD 0 undef) (Value.bool false) fun t17 =>
 K t17 w12))
theorem Tryd.E_ref01_Both (t0 t1 : Value) (w : World) (K : Value → World → Prop) : sw ⟨false, false⟩ Tryd.prog (fun _ _ => False) Tryd.A_ref01_Both (bodyOf Tryd.f37) [t0, t1, undef, undef, undef, undef, undef, undef, undef, undef, undef, undef, undef, undef, undef, undef, undef, undef] w (topQ false Tryd.prog Tryd.f37 w K) = Tryd.F_ref01_Both t0 t1 w K := by kernel_rfl
theorem Tryd.C_ref01_Both : chk ⟨false, false⟩ Tryd.prog false Tryd.A_ref01_Both (bodyOf Tryd.f37) = true := by kernel_rfl
theorem Tryd.ok_ref01_Both {t0 t1 : Value} {w : World} {K : Value → World → Prop} (h : Tryd.F_ref01_Both t0 t1 w K) : oCall Tryd.prog Tryd.n_ref01_Both #[t0, t1] w K :=
  calls_of_sw (cf := ⟨false, false⟩) Tryd.mixed Tryd.func37 rfl Tryd.C_ref01_Both ((Tryd.E_ref01_Both t0 t1 w K).mpr h)

/- 38: loanword/loanwordref01.First -/
def Tryd.A_ref01_First : Ann := .s (.r (.op 0 .l (.op 1 .l (.op 2 .p (.op 3 .p (.nil)))))) (.s (.s (.r (.op 0 .p (.nil))) (.b (.lp [6] (.s (.s (.r (.op 0 .p (.op 1 .p (.op 2 .q (.op 3 .p (.nil)))))) (.c (.n) (.n))) (.s (.b (.s (.r (.op 0 .q (.op 1 .p (.op 2 .l (.op 3 .p (.grp 16 true [(4, .q), (5, .p), (6, .l), (7, .p)] [20] (.op 8 .p (.nil)))))))) (.c (.s (.r (.op 0 .p (.op 1 .p (.op 2 .p (.nil))))) (.n)) (.n)))) (.r (.op 0 .p (.op 1 .p (.op 2 .p (.nil)))))))))) (.s (.r (.op 0 .p (.op 1 .p (.nil)))) (.n)))
def Tryd.F_ref01_First (t0 : Value) (t1 : Value) (w : World) (K : Value → World → Prop) : Prop :=
 opW Tryd.prog w (Instr.box 24 t0) fun t2 w1 =>
 opW Tryd.prog w1 (Instr.box 24 t1) fun t3 w2 =>
 sLoop [(Value.int .i64 0)] w2 (fun s4 _d5 w6 K3 =>
 opP Tryd.prog (Instr.fieldAt 24 t2 0) fun t8 =>
 opQ Tryd.prog w6 (Instr.loadAt 3 t8) fun t9 =>
 opP Tryd.prog (bsem .lss 3 false (s4.getD 0 undef) t9) fun t10 =>
 oCond t10 (opQ Tryd.prog w6 (Instr.loadAt 24 t3) fun t13 =>
 oCall Tryd.prog Tryd.n_ref01_Is #[t13, (s4.getD 0 undef)] w6 fun t15 w7 =>
 sJoin (fun K8 => gIf t15 true (opQ Tryd.prog w7 (Instr.loadAt 24 t2) fun t17 =>
 oCall Tryd.prog Tryd.n_ref01_Is #[t17, (s4.getD 0 undef)] w7 fun t19 w12 =>
 opP Tryd.prog (Op.unary .not t19) fun t20 =>
 K8 [t20] w12) (K8 [undef] w7)) (fun s9 _d10 w11 =>
 oPick t15 (s9.getD 0 undef) (Value.bool false) fun t21 =>
 oCond t21 (K (.tuple #[(s4.getD 0 undef), (Value.bool true)]) w11) (opP Tryd.prog (bsem .add 3 true (s4.getD 0 undef) (Value.int .i64 1)) fun t12 =>
 K3 [t12] w11))) (K (.tuple #[(Value.int .i64 0), (Value.bool false)]) w6))
theorem Tryd.E_ref01_First (t0 t1 : Value) (w : World) (K : Value → World → Prop) : sw ⟨false, false⟩ Tryd.prog (fun _ _ => False) Tryd.A_ref01_First (bodyOf Tryd.f38) [t0, t1, undef, undef, undef, undef, undef, undef, undef, undef, undef, undef, undef, undef, undef, undef, undef, undef, undef, undef, undef, undef, undef] w (topQ false Tryd.prog Tryd.f38 w K) = Tryd.F_ref01_First t0 t1 w K := by kernel_rfl
theorem Tryd.C_ref01_First : chk ⟨false, false⟩ Tryd.prog false Tryd.A_ref01_First (bodyOf Tryd.f38) = true := by kernel_rfl
theorem Tryd.ok_ref01_First {t0 t1 : Value} {w : World} {K : Value → World → Prop} (h : Tryd.F_ref01_First t0 t1 w K) : oCall Tryd.prog Tryd.n_ref01_First #[t0, t1] w K :=
  calls_of_sw (cf := ⟨false, false⟩) Tryd.mixed Tryd.func38 rfl Tryd.C_ref01_First ((Tryd.E_ref01_First t0 t1 w K).mpr h)

/- 40: loanword/loanwordref01.Is -/
def Tryd.A_ref01_Is : Ann := .s (.r (.op 0 .l (.op 1 .p (.nil)))) (.s (.r (.op 0 .p (.op 1 .q (.op 2 .p (.op 3 .p (.op 4 .p (.op 5 .q (.op 6 .p (.op 7 .p (.op 8 .p (.op 9 .p (.op 10 .p (.op 11 .p (.nil)))))))))))))) (.n))
def Tryd.F_ref01_Is (t0 : Value) (t1 : Value) (w : World) (K : Value → World → Prop) : Prop :=
 opW Tryd.prog w (Instr.box 24 t0) fun t2 w1 =>
 opP Tryd.prog (Instr.fieldAt 24 t2 1) fun t5 =>
 opQ Tryd.prog w1 (Instr.loadAt 22 t5) fun t6 =>
 opP Tryd.prog (bsem .quo 3 true t1 (Value.int .i64 64)) fun t8 =>
 opP Tryd.prog (Instr.indexAt 22 t6 t8) fun t9 =>
 opQ Tryd.prog w1 (Instr.loadAt 64 t9) fun t10 =>
 opP Tryd.prog (bsem .rem 3 true t1 (Value.int .i64 64)) fun t12 =>
 opP Tryd.prog (bsem .shr 64 false t10 t12) fun t13 =>
 opP Tryd.prog (bsem .and 64 true t13 (Value.int .u64 1)) fun t14 =>
 opP Tryd.prog (bsem .eql 64 true t14 (Value.int .u64 1)) fun t15 =>
 K t15 w1
theorem Tryd.E_ref01_Is (t0 t1 : Value) (w : World) (K : Value → World → Prop) : sw ⟨false, false⟩ Tryd.prog (fun _ _ => False) Tryd.A_ref01_Is (bodyOf Tryd.f40) [t0, t1, undef, undef, undef, undef, undef, undef, undef, undef, undef, undef, undef, undef, undef, undef] w (topQ false Tryd.prog Tryd.f40 w K) = Tryd.F_ref01_Is t0 t1 w K := by kernel_rfl
theorem Tryd.C_ref01_Is : chk ⟨false, false⟩ Tryd.prog false Tryd.A_ref01_Is (bodyOf Tryd.f40) = true := by kernel_rfl
theorem Tryd.ok_ref01_Is {t0 t1 : Value} {w : World} {K : Value → World → Prop} (h : Tryd.F_ref01_Is t0 t1 w K) : oCall Tryd.prog Tryd.n_ref01_Is #[t0, t1] w K :=
  calls_of_sw (cf := ⟨false, false⟩) Tryd.mixed Tryd.func40 rfl Tryd.C_ref01_Is ((Tryd.E_ref01_Is t0 t1 w K).mpr h)

/- 41: loanword/loanwordref01.None -/
def Tryd.A_ref01_None : Ann := .s (.r (.op 0 .l (.nil))) (.s (.r (.op 0 .p (.op 1 .p (.op 2 .p (.op 3 .p (.op 4 .l (.op 5 .p (.op 6 .l (.nil))))))))) (.n))
def Tryd.F_ref01_None (t0 : Value) (w : World) (K : Value → World → Prop) : Prop :=
 opW Tryd.prog w (Instr.alloc 24 true (.tuple #[])) fun t2 w1 =>
 opP Tryd.prog (bsem .add 3 true t0 (Value.int .i64 63)) fun t5 =>
 opP Tryd.prog (bsem .quo 3 true t5 (Value.int .i64 64)) fun t6 =>
 opW Tryd.prog w1 (Instr.makeSlice 22 t6 t6) fun t7 w2 =>
 opP Tryd.prog (Instr.build 24 #[(0, t0), (1, t7)]) fun t8 =>
 opU Tryd.prog w2 (Instr.storeAt 24 t2 t8) fun w3 =>
 opQ Tryd.prog w3 (cellSem 24 t2) fun r4 =>
 K r4 w3
theorem Tryd.E_ref01_None (t0 : Value) (w : World) (K : Value → World → Prop) : sw ⟨false, false⟩ Tryd.prog (fun _ _ => False) Tryd.A_ref01_None (bodyOf Tryd.f41) [t0, undef, undef, undef, undef, undef, undef, undef, undef] w (topQ false Tryd.prog Tryd.f41 w K) = Tryd.F_ref01_None t0 w K := by kernel_rfl
theorem Tryd.C_ref01_None : chk ⟨false, false⟩ Tryd.prog false Tryd.A_ref01_None (bodyOf Tryd.f41) = true := by kernel_rfl
theorem Tryd.ok_ref01_None {t0 : Value} {w : World} {K : Value → World → Prop} (h : Tryd.F_ref01_None t0 w K) : oCall Tryd.prog Tryd.n_ref01_None #[t0] w K :=
  calls_of_sw (cf := ⟨false, false⟩) Tryd.mixed Tryd.func41 rfl Tryd.C_ref01_None ((Tryd.E_ref01_None t0 w K).mpr h)

/- 42: loanword/loanwordref01.Same -/
def Tryd.A_ref01_Same : Ann := .s (.r (.op 0 .l (.op 1 .l (.op 2 .p (.nil))))) (.s (.s (.r (.op 0 .p (.op 1 .q (.op 2 .p (.op 3 .q (.op 4 .p (.op 5 .p (.grp 11 false [(6, .p), (7, .q), (8, .p), (9, .p), (10, .q), (11, .p), (12, .p)] [18] (.op 13 .p (.nil)))))))))) (.c (.s (.r (.op 0 .p (.nil))) (.n)) (.n))) (.s (.s (.r (.op 0 .p (.nil))) (.b (.lp [5] (.s (.s (.r (.op 0 .p (.op 1 .p (.op 2 .q (.op 3 .p (.op 4 .p (.nil))))))) (.c (.n) (.n))) (.s (.b (.s (.r (.op 0 .p (.op 1 .q (.op 2 .p (.op 3 .p (.op 4 .q (.op 5 .p (.op 6 .q (.op 7 .p (.op 8 .p (.op 9 .q (.op 10 .p (.nil))))))))))))) (.c (.s (.r (.op 0 .p (.nil))) (.n)) (.n)))) (.r (.op 0 .p (.op 1 .p (.op 2 .p (.nil)))))))))) (.s (.r (.op 0 .p (.nil))) (.n))))
def Tryd.F_ref01_Same (t0 : Value) (t1 : Value) (w : World) (K : Value → World → Prop) : Prop :=
 opW Tryd.prog w (Instr.box 24 t0) fun t2 w1 =>
 opW Tryd.prog w1 (Instr.box 24 t1) fun t3 w2 =>
 opP Tryd.prog (Instr.fieldAt 24 t2 0) fun t6 =>
 opQ Tryd.prog w2 (Instr.loadAt 3 t6) fun t7 =>
 opP Tryd.prog (Instr.fieldAt 24 t3 0) fun t8 =>
 opQ Tryd.prog w2 (Instr.loadAt 3 t8) fun t9 =>
 opP Tryd.prog (bsem .neq 3 false t7 t9) fun t10 =>
 sJoin (fun K3 => gIf t10 false (opP Tryd.prog (Instr.fieldAt 24 t2 1) fun t12 =>
 opQ Tryd.prog w2 (Instr.loadAt 22 t12) fun t13 =>
 opP Tryd.prog (Builtin.len_ #[22] 3 #[t13]) fun t14 =>
 opP Tryd.prog (Instr.fieldAt 24 t3 1) fun t15 =>
 opQ Tryd.prog w2 (Instr.loadAt 22 t15) fun t16 =>
 opP Tryd.prog (Builtin.len_ #[22] 3 #[t16]) fun t17 =>
 opP Tryd.prog (bsem .neq 3 false t14 t17) fun t18 =>
 K3 [t18] w2) (K3 [undef] w2)) (fun s4 _d5 w6 =>
 oPick t10 (Value.bool true) (s4.getD 0 undef) fun t19 =>
 oCond t19 (K (Value.bool false) w6) (sLoop [(Value.int .i64 0)] w6 (fun s8 _d9 w10 K7 =>
 opP Tryd.prog (Instr.fieldAt 24 t2 1) fun t21 =>
 opQ Tryd.prog w10 (Instr.loadAt 22 t21) fun t22 =>
 opP Tryd.prog (Builtin.len_ #[22] 3 #[t22]) fun t23 =>
 opP Tryd.prog (bsem .lss 3 false (s8.getD 0 undef) t23) fun t24 =>
 oCond t24 (opP Tryd.prog (Instr.fieldAt 24 t2 1) fun t27 =>
 opQ Tryd.prog w10.drew (Instr.loadAt 22 t27) fun t28 =>
 opP Tryd.prog (Instr.indexAt 22 t28 (s8.getD 0 undef)) fun t30 =>
 opQ Tryd.prog w10.drew (Instr.loadAt 64 t30) fun t31 =>
 opP Tryd.prog (Instr.fieldAt 24 t3 1) fun t32 =>
 opQ Tryd.prog w10.drew (Instr.loadAt 22 t32) fun t33 =>
 opP Tryd.prog (Instr.indexAt 22 t33 (s8.getD 0 undef)) fun t35 =>
 opQ Tryd.prog w10.drew (Instr.loadAt 64 t35) fun t36 =>
 opP Tryd.prog (bsem .neq 64 false t31 t36) fun t37 =>
 oCond t37 (K (Value.bool false) w10.drew) (opP Tryd.prog (bsem .add 3 true (s8.getD 0 undef) (Value.int .i64 1)) fun t26 =>
 K7 [t26] w10.drew)) (K (Value.bool true) w10))))
theorem Tryd.E_ref01_Same (t0 t1 : Value) (w : World) (K : Value → World → Prop) : sw ⟨false, false⟩ Tryd.prog (fun _ _ => False) Tryd.A_ref01_Same (bodyOf Tryd.f42) [t0, t1, undef, undef, undef, undef, undef, undef, undef, undef, undef, undef, undef, undef, undef, undef, undef, undef, undef, undef, undef, undef, undef, undef, undef, undef, undef, undef, undef, undef, undef, undef, undef, undef, undef, undef, undef, undef] w (topQ false Tryd.prog Tryd.f42 w K) = Tryd.F_ref01_Same t0 t1 w K := by kernel_rfl
theorem Tryd.C_ref01_Same : chk ⟨false, false⟩ Tryd.prog false Tryd.A_ref01_Same (bodyOf Tryd.f42) = true := by kernel_rfl
theorem Tryd.ok_ref01_Same {t0 t1 : Value} {w : World} {K : Value → World → Prop} (h : Tryd.F_ref01_Same t0 t1 w K) : oCall Tryd.prog Tryd.n_ref01_Same #[t0, t1] w K :=
  calls_of_sw (cf := ⟨false, false⟩) Tryd.mixed Tryd.func42 rfl Tryd.C_ref01_Same ((Tryd.E_ref01_Same t0 t1 w K).mpr h)

/- 49: loanword/loanwordref01.Own -/
def Tryd.A_ref01_Own : Ann := .s (.r (.op 0 .l (.op 1 .l (.nil)))) (.s (.r (.op 0 .p (.op 1 .q (.op 2 .p (.op 3 .l (.op 4 .l (.nil))))))) (.s (.r (.op 0 .p (.op 1 .q (.op 2 .p (.op 3 .q (.op 4 .l (.op 5 .p (.op 6 .l (.nil))))))))) (.s (.r (.op 0 .q (.op 1 .l (.nil)))) (.n))))
def Tryd.F_ref01_Own (t0 : Value) (w : World) (K : Value → World → Prop) : Prop :=
 opW Tryd.prog w (Instr.box 24 t0) fun t1 w1 =>
 opW Tryd.prog w1 (Instr.alloc 24 true (.tuple #[])) fun t2 w2 =>
 opP Tryd.prog (Instr.fieldAt 24 t1 0) fun t4 =>
 opQ Tryd.prog w2 (Instr.loadAt 3 t4) fun t5 =>
 opP Tryd.prog (Instr.build 24 #[(0, t5)]) fun t6 =>
 opW Tryd.prog w2 (Instr.alloc 24 true (.tuple #[])) fun t3 w3 =>
 opU Tryd.prog w3 (Instr.storeAt 24 t3 t6) fun w4 =>
 opP Tryd.prog (Instr.fieldAt 24 t3 1) fun t7 =>
 opQ Tryd.prog w4 (Instr.loadAt 22 t7) fun t8 =>
 opP Tryd.prog (Instr.fieldAt 24 t1 1) fun t9 =>
 opQ Tryd.prog w4 (Instr.loadAt 22 t9) fun t10 =>
 opW Tryd.prog w4 (Builtin.append_ #[22, 22] 22 #[t8, t10]) fun t11 w5 =>
 opP Tryd.prog (Instr.fieldAt 24 t3 1) fun t12 =>
 opU Tryd.prog w5 (Instr.storeAt 22 t12 t11) fun w6 =>
 opQ Tryd.prog w6 (Instr.loadAt 24 t3) fun t13 =>
 opU Tryd.prog w6 (Instr.storeAt 24 t2 t13) fun w7 =>
 opQ Tryd.prog w7 (cellSem 24 t2) fun r8 =>
 K r8 w7
theorem Tryd.E_ref01_Own (t0 : Value) (w : World) (K : Value → World → Prop) : sw ⟨false, false⟩ Tryd.prog (fun _ _ => False) Tryd.A_ref01_Own (bodyOf Tryd.f49) [t0, undef, undef, undef, undef, undef, undef, undef, undef, undef, undef, undef, undef, undef] w (topQ false Tryd.prog Tryd.f49 w K) = Tryd.F_ref01_Own t0 w K := by kernel_rfl
theorem Tryd.C_ref01_Own : chk ⟨false, false⟩ Tryd.prog false Tryd.A_ref01_Own (bodyOf Tryd.f49) = true := by kernel_rfl
theorem Tryd.ok_ref01_Own {t0 : Value} {w : World} {K : Value → World → Prop} (h : Tryd.F_ref01_Own t0 w K) : oCall Tryd.prog Tryd.n_ref01_Own #[t0] w K :=
  calls_of_sw (cf := ⟨false, false⟩) Tryd.mixed Tryd.func49 rfl Tryd.C_ref01_Own ((Tryd.E_ref01_Own t0 w K).mpr h)

end Go.Proofs
