/-
  Shallow readings of functions. Made by a program (wip/gen/gen.py) out of the translation; the kernel checks each equality.
-/
import Derived.Test.YtgbfpnnimnjbdaaDoorTy
namespace Go.Proofs
open Go.Sh
set_option maxRecDepth 100000
/- 3: loanword/loanwordlaw01.BitsBytes -/
def Tryd.A_law01_BitsBytes : Ann := .s (.r (.op 0 .l (.op 1 .p (.nil)))) (.s (.s (.r (.op 0 .p (.op 1 .q (.op 2 .p (.op 3 .p (.op 4 .p (.grp 22 false [(5, .p), (6, .p), (7, .p)] [25] (.op 8 .p (.nil))))))))) (.c (.s (.r (.op 0 .l (.op 1 .p (.nil)))) (.n)) (.n))) (.s (.r (.op 0 .q (.op 1 .l (.op 2 .l (.op 3 .l (.nil)))))) (.s (.r (.op 0 .q (.op 1 .l (.op 2 .p (.op 3 .p (.op 4 .p (.op 5 .p (.op 6 .p (.nil))))))))) (.j [] (.s (.r (.op 0 .q (.op 1 .l (.nil)))) (.c (.s (.r (.op 0 .p (.op 1 .p (.op 2 .p (.grp 39 false [(3, .p), (4, .q), (5, .l), (6, .p)] [43] (.op 7 .p (.nil))))))) (.c (.s (.r (.op 0 .p (.nil))) (.n)) (.n))) (.s (.r (.op 0 .p (.op 1 .p (.op 2 .p (.grp 47 false [(3, .p), (4, .p)] [49] (.op 5 .p (.nil))))))) (.c (.s (.r (.op 0 .p (.nil))) (.n)) (.n))))) (.s (.r (.op 0 .p (.op 1 .p (.op 2 .l (.op 3 .p (.op 4 .p (.op 5 .p (.op 6 .p (.op 7 .l (.op 8 .l (.op 9 .p (.op 10 .p (.nil))))))))))))) (.s (.r (.op 0 .p (.op 1 .p (.op 2 .l (.op 3 .p (.op 4 .p (.op 5 .p (.op 6 .p (.op 7 .l (.op 8 .l (.op 9 .p (.op 10 .p (.nil))))))))))))) (.s (.r (.op 0 .p (.op 1 .p (.op 2 .l (.op 3 .p (.op 4 .p (.op 5 .p (.op 6 .p (.op 7 .l (.op 8 .l (.op 9 .p (.op 10 .p (.nil))))))))))))) (.s (.r (.op 0 .p (.op 1 .p (.op 2 .p (.op 3 .p (.grp 75 true [(4, .p), (5, .p), (6, .p)] [78] (.op 7 .p (.op 8 .p (.grp 80 true [(9, .p), (10, .p), (11, .p)] [83] (.op 12 .p (.op 13 .p (.grp 85 true [(14, .p), (15, .p), (16, .p)] [88] (.op 17 .p (.op 18 .p (.grp 90 true [(19, .q), (20, .q), (21, .q), (22, .l)] [94] (.op 23 .p (.op 24 .p (.grp 96 true [(25, .q), (26, .q), (27, .l)] [99] (.op 28 .p (.op 29 .p (.grp 101 true [(30, .l)] [102] (.op 31 .p (.op 32 .p (.nil)))))))))))))))))))))))) (.n)))))))))
def Tryd.F_law01_BitsBytes (t0 : Value) (t1 : Value) (t2 : Value) (w : World) (K : Value → World → Prop) : Prop :=
 opW Tryd.prog w (Instr.box 24 t0) fun t3 w1 =>
 opP Tryd.prog (Instr.fieldAt 24 t3 1) fun t18 =>
 opQ Tryd.prog w1 (Instr.loadAt 22 t18) fun t19 =>
 opP Tryd.prog (Builtin.len_ #[22] 3 #[t19]) fun t20 =>
 opP Tryd.prog (bsem .gtr 3 true t20 (Value.int .i64 4096)) fun t21 =>
 sJoin (fun K2 => gIf t21 false (opP Tryd.prog (Builtin.len_ #[9] 3 #[t2]) fun t24 =>
 opP Tryd.prog (bsem .gtr 3 true t24 (Value.int .i64 4096)) fun t25 =>
 K2 [t25] w1) (K2 [undef] w1)) (fun s3 _d4 w5 =>
 oPick t21 (Value.bool true) (s3.getD 0 undef) fun t26 =>
 oCond t26 (oCall Tryd.prog Tryd.n_law01_awake #[] w5 fun t27 w6 =>
 K t27 w6) (opQ Tryd.prog w5 (Instr.loadAt 24 t3) fun t28 =>
 oCall Tryd.prog Tryd.n_law01_lent #[t28] w5 fun t29 w7 =>
 opW Tryd.prog w7 (Instr.alloc 24 true (.tuple #[])) fun t7 w8 =>
 opU Tryd.prog w8 (Instr.storeAt 24 t7 t29) fun w9 =>
 opQ Tryd.prog w9 (Instr.loadAt 24 t7) fun t31 =>
 oCall Tryd.prog Tryd.n_bits_Bytes #[t31] w9 fun t32 w10 =>
 opP Tryd.prog (Instr.extract t32 0) fun t33 =>
 opP Tryd.prog (Instr.extract t32 1) fun t34 =>
 sJoin (fun K11 =>
 opQ Tryd.prog w10 (Instr.loadAt 24 t3) fun t35 =>
 oCall Tryd.prog Tryd.n_ref01_May #[t35] w10 fun t36 w15 =>
 oCond t36 (opP Tryd.prog (bsem .neq 27 true t34 (Value.int .i64 0)) fun t38 =>
 sJoin (fun K16 => gIf t38 false (opQ Tryd.prog w15 (Instr.loadAt 24 t3) fun t41 =>
 oCall Tryd.prog Tryd.n_ref01_Bytes #[t41] w15 fun t42 w20 =>
 opP Tryd.prog (bsem .neq 9 false t33 t42) fun t43 =>
 K16 [t43] w20) (K16 [undef] w15)) (fun s17 _d18 w19 =>
 oPick t38 (Value.bool true) (s17.getD 0 undef) fun t44 =>
 oCond t44 (K (Value.bool false) w19) (K11 [] w19))) (opP Tryd.prog (bsem .neq 27 true t34 (Value.int .i64 2)) fun t46 =>
 sJoin (fun K21 => gIf t46 false (opP Tryd.prog (bsem .neq 9 true t33 (Value.string { data := #[] })) fun t49 =>
 K21 [t49] w15) (K21 [undef] w15)) (fun s22 _d23 w24 =>
 oPick t46 (Value.bool true) (s22.getD 0 undef) fun t50 =>
 oCond t50 (K (Value.bool false) w24) (K11 [] w24)))) (fun _s12 _d13 w14 =>
 oCall Tryd.prog Tryd.n_bits_Read #[t1, t2] w14 fun t54 w25 =>
 opP Tryd.prog (Instr.extract t54 0) fun t55 =>
 opP Tryd.prog (Instr.extract t54 1) fun t56 =>
 opP Tryd.prog (Instr.extract t54 2) fun t57 =>
 opW Tryd.prog w25 (Instr.alloc 24 true (.tuple #[])) fun t10 w26 =>
 opU Tryd.prog w26 (Instr.storeAt 24 t10 t55) fun w27 =>
 oCall Tryd.prog Tryd.n_bits_Read #[t1, t2] w27 fun t61 w28 =>
 opP Tryd.prog (Instr.extract t61 0) fun t62 =>
 opP Tryd.prog (Instr.extract t61 1) fun t63 =>
 opP Tryd.prog (Instr.extract t61 2) fun t64 =>
 opW Tryd.prog w28 (Instr.alloc 24 true (.tuple #[])) fun t12 w29 =>
 opU Tryd.prog w29 (Instr.storeAt 24 t12 t62) fun w30 =>
 oCall Tryd.prog Tryd.n_ref01_Read #[t1, t2] w30 fun t68 w31 =>
 opP Tryd.prog (Instr.extract t68 0) fun t69 =>
 opP Tryd.prog (Instr.extract t68 1) fun t70 =>
 opP Tryd.prog (Instr.extract t68 2) fun t71 =>
 opW Tryd.prog w31 (Instr.alloc 24 true (.tuple #[])) fun t15 w32 =>
 opU Tryd.prog w32 (Instr.storeAt 24 t15 t69) fun w33 =>
 opP Tryd.prog (bsem .eql 3 false t56 t70) fun t74 =>
 sJoin (fun K34 => gIf t74 true (opP Tryd.prog (bsem .eql 3 false t63 t70) fun t78 =>
 K34 [t78] w33) (K34 [undef] w33)) (fun s35 _d36 w37 =>
 oPick t74 (s35.getD 0 undef) (Value.bool false) fun t79 =>
 sJoin (fun K38 => gIf t79 true (opP Tryd.prog (bsem .eql 3 false t57 t71) fun t83 =>
 K38 [t83] w37) (K38 [undef] w37)) (fun s39 _d40 w41 =>
 oPick t79 (s39.getD 0 undef) (Value.bool false) fun t84 =>
 sJoin (fun K42 => gIf t84 true (opP Tryd.prog (bsem .eql 27 false t64 t57) fun t88 =>
 K42 [t88] w41) (K42 [undef] w41)) (fun s43 _d44 w45 =>
 oPick t84 (s43.getD 0 undef) (Value.bool false) fun t89 =>
 sJoin (fun K46 => gIf t89 true (opQ Tryd.prog w45 (Instr.loadAt 24 t10) fun t91 =>
 opQ Tryd.prog w45 (Instr.loadAt 24 t12) fun t92 =>
 opQ Tryd.prog w45 (Instr.loadAt 24 t15) fun t93 =>
 oCall Tryd.prog Tryd.n_law01_held #[t91, t92, t93] w45 fun t94 w50 =>
 K46 [t94] w50) (K46 [undef] w45)) (fun s47 _d48 w49 =>
 oPick t89 (s47.getD 0 undef) (Value.bool false) fun t95 =>
 sJoin (fun K51 => gIf t95 true (opQ Tryd.prog w49 (Instr.loadAt 24 t7) fun t97 =>
 opQ Tryd.prog w49 (Instr.loadAt 24 t3) fun t98 =>
 oCall Tryd.prog Tryd.n_law01_kept #[t97, t98] w49 fun t99 w55 =>
 K51 [t99] w55) (K51 [undef] w49)) (fun s52 _d53 w54 =>
 oPick t95 (s52.getD 0 undef) (Value.bool false) fun t100 =>
 sJoin (fun K56 => gIf t100 true (oCall Tryd.prog Tryd.n_law01_awake #[] w54 fun t102 w60 =>
 K56 [t102] w60) (K56 [undef] w54)) (fun s57 _d58 w59 =>
 oPick t100 (s57.getD 0 undef) (Value.bool false) fun t103 =>
 K t103 w59)))))))))
theorem Tryd.E_law01_BitsBytes (t0 t1 t2 : Value) (w : World) (K : Value → World → Prop) : sw ⟨false, false⟩ Tryd.prog (fun _ _ => False) Tryd.A_law01_BitsBytes (bodyOf Tryd.f3) [t0, t1, t2, undef, undef, undef, undef, undef, undef, undef, undef, undef, undef, undef, undef, undef, undef, undef, undef, undef, undef, undef, undef, undef, undef, undef, undef, undef, undef, undef, undef, undef, undef, undef, undef, undef, undef, undef, undef, undef, undef, undef, undef, undef, undef, undef, undef, undef, undef, undef, undef, undef, undef, undef, undef, undef, undef, undef, undef, undef, undef, undef, undef, undef, undef, undef, undef, undef, undef, undef, undef, undef, undef, undef, undef, undef, undef, undef, undef, undef, undef, undef, undef, undef, undef, undef, undef, undef, undef, undef, undef, undef, undef, undef, undef, undef, undef, undef, undef, undef, undef, undef, undef, undef] w (topQ false Tryd.prog Tryd.f3 w K) = Tryd.F_law01_BitsBytes t0 t1 t2 w K := by kernel_rfl
theorem Tryd.C_law01_BitsBytes : chk ⟨false, false⟩ Tryd.prog false Tryd.A_law01_BitsBytes (bodyOf Tryd.f3) = true := by kernel_rfl
theorem Tryd.ok_law01_BitsBytes {t0 t1 t2 : Value} {w : World} {K : Value → World → Prop} (h : Tryd.F_law01_BitsBytes t0 t1 t2 w K) : oCall Tryd.prog Tryd.n_law01_BitsBytes #[t0, t1, t2] w K :=
  calls_of_sw (cf := ⟨false, false⟩) Tryd.mixed Tryd.func3 rfl Tryd.C_law01_BitsBytes ((Tryd.E_law01_BitsBytes t0 t1 t2 w K).mpr h)

/- 4: loanword/loanwordlaw01.BitsRow -/
def Tryd.A_law01_BitsRow : Ann := .s (.r (.op 0 .l (.op 1 .l (.op 2 .l (.nil))))) (.s (.s (.r (.op 0 .p (.op 1 .q (.op 2 .p (.op 3 .p (.nil)))))) (.c (.s (.r (.op 0 .q (.op 1 .l (.op 2 .p (.op 3 .p (.grp 29 true [(4, .l)] [30] (.op 5 .p (.op 6 .l (.nil))))))))) (.n)) (.n))) (.s (.r (.op 0 .q (.op 1 .l (.op 2 .l (.op 3 .l (.nil)))))) (.s (.r (.op 0 .p (.op 1 .l (.op 2 .p (.op 3 .p (.op 4 .p (.op 5 .l (.op 6 .l (.op 7 .p (.nil)))))))))) (.s (.r (.op 0 .p (.op 1 .l (.op 2 .p (.op 3 .p (.op 4 .p (.op 5 .l (.op 6 .l (.op 7 .p (.nil)))))))))) (.s (.r (.op 0 .p (.op 1 .l (.op 2 .p (.op 3 .p (.op 4 .p (.op 5 .l (.op 6 .l (.op 7 .p (.nil)))))))))) (.s (.s (.r (.op 0 .p (.op 1 .p (.op 2 .p (.op 3 .p (.grp 52 false [(4, .p), (5, .p), (6, .p)] [55] (.op 7 .p (.op 8 .p (.grp 57 false [(9, .q), (10, .q), (11, .q), (12, .l), (13, .p)] [62] (.op 14 .p (.nil))))))))))) (.c (.s (.r (.op 0 .l (.nil))) (.n)) (.n))) (.s (.r (.op 0 .q (.op 1 .l (.op 2 .p (.nil))))) (.s (.r (.op 0 .q (.op 1 .l (.op 2 .p (.op 3 .p (.op 4 .p (.op 5 .l (.op 6 .p (.nil))))))))) (.s (.r (.op 0 .q (.op 1 .l (.op 2 .p (.op 3 .p (.op 4 .p (.op 5 .l (.op 6 .p (.nil))))))))) (.s (.s (.r (.op 0 .q (.op 2 .p (.op 1 .l (.op 3 .p (.op 4 .p (.grp 80 false [(5, .q), (6, .p), (8, .q), (9, .p), (7, .u), (10, .l), (11, .p)] [87] (.op 12 .p (.op 13 .p (.grp 89 false [(14, .p), (15, .p), (16, .p)] [92] (.op 17 .p (.nil)))))))))))) (.c (.s (.r (.op 0 .l (.nil))) (.n)) (.n))) (.s (.r (.op 0 .l (.nil))) (.j [] (.s (.r (.op 0 .p (.nil))) (.c (.s (.r (.op 0 .q (.op 1 .l (.op 2 .l (.nil))))) (.s (.r (.op 0 .p (.op 1 .p (.op 2 .p (.grp 99 false [(3, .q), (4, .q), (5, .q), (6, .l), (7, .p)] [104] (.op 8 .p (.nil))))))) (.c (.s (.r (.op 0 .l (.nil))) (.n)) (.n)))) (.s (.r (.op 0 .p (.op 1 .p (.op 2 .p (.grp 108 false [(3, .q), (4, .q), (5, .p), (6, .l), (7, .p)] [113] (.op 8 .p (.nil))))))) (.c (.s (.r (.op 0 .l (.nil))) (.n)) (.n))))) (.s (.r (.op 0 .q (.op 1 .l (.op 2 .p (.nil))))) (.s (.s (.r (.op 0 .p (.op 1 .q (.op 2 .p (.grp 119 false [(3, .q), (5, .q), (6, .p), (4, .u), (7, .p)] [124] (.op 8 .p (.nil))))))) (.c (.s (.r (.op 0 .l (.nil))) (.n)) (.n))) (.s (.s (.r (.op 0 .l (.op 1 .l (.nil)))) (.b (.lp [19] (.s (.s (.r (.op 0 .q (.op 1 .p (.nil)))) (.c (.n) (.n))) (.s (.b (.s (.r (.op 0 .l (.op 1 .l (.nil)))) (.j [] (.s (.r (.op 0 .p (.nil))) (.b (.rf [2] (.r (.op 0 .p (.nil))) (.b (.s (.s (.r (.op 0 .q (.op 1 .q (.op 2 .p (.op 3 .p (.op 4 .p (.grp 136 false [(5, .p), (6, .q), (7, .q), (8, .p), (9, .q), (10, .p)] [142] (.op 11 .p (.nil))))))))) (.c (.s (.r (.op 0 .l (.nil))) (.n)) (.n))) (.s (.r (.op 0 .q (.op 1 .p (.op 2 .l (.nil))))) (.s (.r (.op 0 .q (.op 1 .p (.op 2 .p (.grp 148 true [(3, .q), (4, .q), (5, .p)] [151] (.op 6 .p (.nil))))))) (.c (.n) (.n))))))))) (.s (.r (.op 0 .q (.op 1 .q (.op 2 .p (.op 3 .p (.op 4 .p (.grp 157 true [(5, .q), (6, .p), (7, .p)] [160] (.grp 160 false [(8, .q), (9, .q), (10, .p)] [163] (.grp 157 true [(11, .p)] [164] (.op 12 .p (.nil))))))))))) (.c (.s (.r (.op 0 .l (.nil))) (.n)) (.n)))))) (.s (.s (.r (.op 0 .q (.nil))) (.r (.op 0 .l (.op 1 .l (.nil))))) (.r (.op 0 .q (.op 1 .p (.op 2 .l (.nil))))))))))) (.s (.r (.op 0 .q (.op 1 .q (.op 2 .l (.op 3 .p (.grp 170 true [(4, .l)] [171] (.op 5 .p (.op 6 .l (.nil))))))))) (.n)))))))))))))))))
def Tryd.F_law01_BitsRow (t0 : Value) (t1 : Value) (t2 : Value) (t3 : Value) (w : World) (K : Value → World → Prop) : Prop :=
 opW Tryd.prog w (Instr.box 24 t0) fun t4 w1 =>
 NC w w1 ∧
 opW Tryd.prog w1 (Instr.box 3 t3) fun t7 w2 =>
 NC w1 w2 ∧
 opW Tryd.prog w2 (Instr.alloc 4 true (.tuple #[])) fun t8 w3 =>
 NC w2 w3 ∧
 opP Tryd.prog (Instr.fieldAt 24 t4 1) fun t22 =>
 opQ Tryd.prog w3 (Instr.loadAt 22 t22) fun t23 =>
 opP Tryd.prog (Builtin.len_ #[22] 3 #[t23]) fun t24 =>
 opP Tryd.prog (bsem .gtr 3 true t24 (Value.int .i64 4096)) fun t25 =>
 oCond t25 (opQ Tryd.prog w3 (Instr.loadAt 24 t4) fun t26 =>
 oCall Tryd.prog Tryd.n_bits_May #[t26] w3 fun t27 w4 =>
 NC w3 w4 ∧
 opP Tryd.prog (Op.unary .not t27) fun t28 =>
 sJoin (fun K5 => gIf t28 true (oCall Tryd.prog Tryd.n_law01_awake #[] w4 fun t30 w9 =>
 NC w4 w9 ∧
 K5 [t30] w9) (K5 [undef] w4)) (fun s6 _d7 w8 =>
 oPick t28 (s6.getD 0 undef) (Value.bool false) fun t31 =>
 opU Tryd.prog w8 (Instr.storeAt 4 t8 t31) fun w10 =>
 NC w8 w10 ∧
 ∀ w11, Shuts w.heap.size w10 w11 → opQ Tryd.prog w11 (cellSem 4 t8) fun r12 =>
 K r12 w11)) (opQ Tryd.prog w3 (Instr.loadAt 24 t4) fun t32 =>
 oCall Tryd.prog Tryd.n_law01_lent #[t32] w3 fun t33 w13 =>
 NC w3 w13 ∧
 opW Tryd.prog w13 (Instr.alloc 24 true (.tuple #[])) fun t9 w14 =>
 NC w13 w14 ∧
 opU Tryd.prog w14 (Instr.storeAt 24 t9 t33) fun w15 =>
 NC w14 w15 ∧
 oCall Tryd.prog Tryd.n_bits_New #[t1] w15 fun t36 w16 =>
 NC w15 w16 ∧
 opP Tryd.prog (Instr.extract t36 0) fun t37 =>
 opP Tryd.prog (Instr.extract t36 1) fun t38 =>
 opW Tryd.prog w16 (Instr.alloc 24 true (.tuple #[])) fun t10 w17 =>
 NC w16 w17 ∧
 opU Tryd.prog w17 (Instr.storeAt 24 t10 t37) fun w18 =>
 NC w17 w18 ∧
 oCall Tryd.prog Tryd.n_bits_New #[t1] w18 fun t41 w19 =>
 NC w18 w19 ∧
 opP Tryd.prog (Instr.extract t41 0) fun t42 =>
 opP Tryd.prog (Instr.extract t41 1) fun t43 =>
 opW Tryd.prog w19 (Instr.alloc 24 true (.tuple #[])) fun t12 w20 =>
 NC w19 w20 ∧
 opU Tryd.prog w20 (Instr.storeAt 24 t12 t42) fun w21 =>
 NC w20 w21 ∧
 oCall Tryd.prog Tryd.n_ref01_New #[t1] w21 fun t46 w22 =>
 NC w21 w22 ∧
 opP Tryd.prog (Instr.extract t46 0) fun t47 =>
 opP Tryd.prog (Instr.extract t46 1) fun t48 =>
 opW Tryd.prog w22 (Instr.alloc 24 true (.tuple #[])) fun t14 w23 =>
 NC w22 w23 ∧
 opU Tryd.prog w23 (Instr.storeAt 24 t14 t47) fun w24 =>
 NC w23 w24 ∧
 opP Tryd.prog (bsem .neq 3 false t38 t48) fun t51 =>
 sJoin (fun K25 => gIf t51 false (opP Tryd.prog (bsem .neq 27 false t43 t38) fun t55 =>
 K25 [t55] w24) (K25 [undef] w24)) (fun s26 _d27 w28 =>
 oPick t51 (Value.bool true) (s26.getD 0 undef) fun t56 =>
 sJoin (fun K29 => gIf t56 false (opQ Tryd.prog w28 (Instr.loadAt 24 t10) fun t58 =>
 opQ Tryd.prog w28 (Instr.loadAt 24 t12) fun t59 =>
 opQ Tryd.prog w28 (Instr.loadAt 24 t14) fun t60 =>
 oCall Tryd.prog Tryd.n_law01_held #[t58, t59, t60] w28 fun t61 w33 =>
 NC w28 w33 ∧
 opP Tryd.prog (Op.unary .not t61) fun t62 =>
 K29 [t62] w33) (K29 [undef] w28)) (fun s30 _d31 w32 =>
 oPick t56 (Value.bool true) (s30.getD 0 undef) fun t63 =>
 oCond t63 (opU Tryd.prog w32 (Instr.storeAt 4 t8 (Value.bool false)) fun w34 =>
 NC w32 w34 ∧
 ∀ w35, Shuts w.heap.size w34 w35 → opQ Tryd.prog w35 (cellSem 4 t8) fun r36 =>
 K r36 w35) (opQ Tryd.prog w32 (Instr.loadAt 24 t4) fun t64 =>
 oCall Tryd.prog Tryd.n_ref01_May #[t64] w32 fun t65 w37 =>
 NC w32 w37 ∧
 opQ Tryd.prog w37 (Instr.loadAt 24 t9) fun t67 =>
 oCall Tryd.prog Tryd.n_bits_Own #[t67] w37 fun t68 w38 =>
 NC w37 w38 ∧
 opP Tryd.prog (Instr.extract t68 0) fun t69 =>
 opP Tryd.prog (Instr.extract t68 1) fun t70 =>
 opU Tryd.prog w38 (Instr.storeAt 24 t10 t69) fun w39 =>
 NC w38 w39 ∧
 opQ Tryd.prog w39 (Instr.loadAt 24 t9) fun t72 =>
 oCall Tryd.prog Tryd.n_bits_Own #[t72] w39 fun t73 w40 =>
 NC w39 w40 ∧
 opP Tryd.prog (Instr.extract t73 0) fun t74 =>
 opP Tryd.prog (Instr.extract t73 1) fun t75 =>
 opU Tryd.prog w40 (Instr.storeAt 24 t12 t74) fun w41 =>
 NC w40 w41 ∧
 opQ Tryd.prog w41.drew (Instr.loadAt 24 t9) fun t76 =>
 oCall Tryd.prog Tryd.n_bits_May #[t76] w41.drew fun t77 w42 =>
 NC w41.drew w42 ∧
 opP Tryd.prog (bsem .neq 4 false t77 t65) fun t79 =>
 sJoin (fun K43 => gIf t79 false (opQ Tryd.prog w42 (Instr.loadAt 24 t9) fun t81 =>
 opQ Tryd.prog w42 (Instr.loadAt 24 t4) fun t84 =>
 oCall Tryd.prog Tryd.n_bits_Get #[t81, t2] w42 fun t83 w47 =>
 NC w42 w47 ∧
 Ext w42 w47 ∧
 oCall Tryd.prog Tryd.n_ref01_Get #[t84, t2] w47 fun t86 w48 =>
 NC w47 w48 ∧
 opP Tryd.prog (bsem .neq 4 false t83 t86) fun t87 =>
 K43 [t87] w48) (K43 [undef] w42)) (fun s44 _d45 w46 =>
 oPick t79 (Value.bool true) (s44.getD 0 undef) fun t88 =>
 sJoin (fun K49 => gIf t88 false (opP Tryd.prog (bsem .neq 27 false t75 t70) fun t92 =>
 K49 [t92] w46) (K49 [undef] w46)) (fun s50 _d51 w52 =>
 oPick t88 (Value.bool true) (s50.getD 0 undef) fun t93 =>
 oCond t93 (opU Tryd.prog w52 (Instr.storeAt 4 t8 (Value.bool false)) fun w53 =>
 NC w52 w53 ∧
 ∀ w54, Shuts w.heap.size w53 w54 → opQ Tryd.prog w54 (cellSem 4 t8) fun r55 =>
 K r55 w54) (opW Tryd.prog w52 (Instr.alloc 45 true (.tuple #[])) fun t17 w56 =>
 NC w52 w56 ∧
 sJoin (fun K57 =>
 oCond t65 (opQ Tryd.prog w56 (Instr.loadAt 24 t4) fun t95 =>
 oCall Tryd.prog Tryd.n_ref01_List #[t95] w56 fun t96 w61 =>
 NC w56 w61 ∧
 opU Tryd.prog w61 (Instr.storeAt 45 t17 t96) fun w62 =>
 NC w61 w62 ∧
 opP Tryd.prog (bsem .neq 27 true t70 (Value.int .i64 0)) fun t98 =>
 sJoin (fun K63 => gIf t98 false (opQ Tryd.prog w62 (Instr.loadAt 24 t10) fun t100 =>
 opQ Tryd.prog w62 (Instr.loadAt 24 t12) fun t101 =>
 opQ Tryd.prog w62 (Instr.loadAt 24 t4) fun t102 =>
 oCall Tryd.prog Tryd.n_law01_held #[t100, t101, t102] w62 fun t103 w67 =>
 NC w62 w67 ∧
 opP Tryd.prog (Op.unary .not t103) fun t104 =>
 K63 [t104] w67) (K63 [undef] w62)) (fun s64 _d65 w66 =>
 oPick t98 (Value.bool true) (s64.getD 0 undef) fun t105 =>
 oCond t105 (opU Tryd.prog w66 (Instr.storeAt 4 t8 (Value.bool false)) fun w68 =>
 NC w66 w68 ∧
 ∀ w69, Shuts w.heap.size w68 w69 → opQ Tryd.prog w69 (cellSem 4 t8) fun r70 =>
 K r70 w69) (K57 [] w66))) (opP Tryd.prog (bsem .neq 27 true t70 (Value.int .i64 2)) fun t107 =>
 sJoin (fun K71 => gIf t107 false (opQ Tryd.prog w56 (Instr.loadAt 24 t10) fun t109 =>
 opQ Tryd.prog w56 (Instr.loadAt 24 t12) fun t110 =>
 opP Tryd.prog (Instr.build 24 #[]) fun t111 =>
 oCall Tryd.prog Tryd.n_law01_held #[t109, t110, t111] w56 fun t112 w75 =>
 NC w56 w75 ∧
 opP Tryd.prog (Op.unary .not t112) fun t113 =>
 K71 [t113] w75) (K71 [undef] w56)) (fun s72 _d73 w74 =>
 oPick t107 (Value.bool true) (s72.getD 0 undef) fun t114 =>
 oCond t114 (opU Tryd.prog w74 (Instr.storeAt 4 t8 (Value.bool false)) fun w76 =>
 NC w74 w76 ∧
 ∀ w77, Shuts w.heap.size w76 w77 → opQ Tryd.prog w77 (cellSem 4 t8) fun r78 =>
 K r78 w77) (K57 [] w74)))) (fun _s58 _d59 w60 =>
 opQ Tryd.prog w60 (Instr.loadAt 24 t9) fun t115 =>
 oCall Tryd.prog Tryd.n_bits_Each #[t115] w60 fun t116 w79 =>
 NC w60 w79 ∧
 opQ Tryd.prog w79.drew (bsem .eql 48 true t116 Value.nilFunc) fun t118 =>
 sJoin (fun K80 => gIf t118 false (opQ Tryd.prog w79.drew (Instr.loadAt 24 t9) fun t120 =>
 opQ Tryd.prog w79.drew (Instr.loadAt 45 t17) fun t122 =>
 opP Tryd.prog (Builtin.len_ #[45] 3 #[t122]) fun t123 =>
 oCall Tryd.prog Tryd.n_bits_Count #[t120] w79.drew fun t121 w84 =>
 NC w79.drew w84 ∧
 Ext w79.drew w84 ∧
 opP Tryd.prog (bsem .neq 3 false t121 t123) fun t124 =>
 K80 [t124] w84) (K80 [undef] w79.drew)) (fun s81 _d82 w83 =>
 oPick t118 (Value.bool true) (s81.getD 0 undef) fun t125 =>
 oCond t125 (opU Tryd.prog w83 (Instr.storeAt 4 t8 (Value.bool false)) fun w85 =>
 NC w83 w85 ∧
 ∀ w86, Shuts w.heap.size w85 w86 → opQ Tryd.prog w86 (cellSem 4 t8) fun r87 =>
 K r87 w86) (opW Tryd.prog w83 (Instr.alloc 3 true (.tuple #[])) fun t19 w88 =>
 NC w83 w88 ∧
 opU Tryd.prog w88 (Instr.storeAt 3 t19 (Value.int .i64 0)) fun w89 =>
 NC w88 w89 ∧
 sLoop [t19] w89 (fun s91 _d92 w93 K90 =>
 opQ Tryd.prog w93 (Instr.loadAt 3 (s91.getD 0 undef)) fun t126 =>
 opP Tryd.prog (bsem .lss 3 true t126 (Value.int .i64 2)) fun t127 =>
 oCond t127 (opW Tryd.prog w93 (Instr.alloc 3 true (.tuple #[])) fun t20 w94 =>
 NC w93 w94 ∧
 opU Tryd.prog w94 (Instr.storeAt 3 t20 (Value.int .i64 0)) fun w95 =>
 NC w94 w95 ∧
 sJoin (fun K96 =>
 oRange Tryd.prog 1 t116 w95 (fun x100 w101 S102 KR103 =>
 (Ext w101 w101 ∧ ∀ w104, Nl w95.heap.size w101 w104 →
 opQ Tryd.prog w104 (Instr.loadAt 3 t20) fun t132 =>
 opQ Tryd.prog w104 (Instr.loadAt 45 t17) fun t133 =>
 opP Tryd.prog (Builtin.len_ #[45] 3 #[t133]) fun t134 =>
 opP Tryd.prog (bsem .geq 3 false t132 t134) fun t135 =>
 sJoin (fun K105 => gIf t135 false (opQ Tryd.prog w104 (Instr.loadAt 45 t17) fun t138 =>
 opQ Tryd.prog w104 (Instr.loadAt 3 t20) fun t139 =>
 opP Tryd.prog (Instr.indexAt 45 t138 t139) fun t140 =>
 opQ Tryd.prog w104 (Instr.loadAt 3 t140) fun t141 =>
 opP Tryd.prog (bsem .neq 3 false (x100.getD 0 undef) t141) fun t142 =>
 K105 [t142] w104) (K105 [undef] w104)) (fun s106 _d107 w108 =>
 oPick t135 (Value.bool true) (s106.getD 0 undef) fun t143 =>
 oCond t143 (opU Tryd.prog w108 (Instr.storeAt 4 t8 (Value.bool false)) fun w109 =>
 NC w108 w109 ∧
 (ExtBut S102 w104 w109 ∧ KR103 .ret w109)) (opQ Tryd.prog w108 (Instr.loadAt 3 t20) fun t144 =>
 opP Tryd.prog (bsem .add 3 true t144 (Value.int .i64 1)) fun t145 =>
 opU Tryd.prog w108 (Instr.storeAt 3 t20 t145) fun w110 =>
 NC w108 w110 ∧
 opQ Tryd.prog w110 (Instr.loadAt 3 (s91.getD 0 undef)) fun t146 =>
 opP Tryd.prog (bsem .eql 3 true t146 (Value.int .i64 0)) fun t147 =>
 sJoin (fun K111 => gIf t147 true (opQ Tryd.prog w110 (Instr.loadAt 3 t20) fun t149 =>
 opQ Tryd.prog w110 (Instr.loadAt 3 t7) fun t150 =>
 opP Tryd.prog (bsem .eql 3 false t149 t150) fun t151 =>
 K111 [t151] w110) (K111 [undef] w110)) (fun s112 _d113 w114 =>
 oPick t147 (s112.getD 0 undef) (Value.bool false) fun t152 =>
 oCond t152 ((ExtBut S102 w104 w114 ∧ KR103 (.exit 2) w114)) ((ExtBut S102 w104 w114 ∧ KR103 .normal w114))))))) (fun w115 =>
 K96 [] w115) (fun w116 =>
 ∀ w117, Shuts w.heap.size w116 w117 → opQ Tryd.prog w117 (cellSem 4 t8) fun r118 =>
 K r118 w117) [(2, fun w119 =>
 K96 [] w119)]) (fun _s97 _d98 w99 =>
 opQ Tryd.prog w99 (Instr.loadAt 3 t20) fun t153 =>
 opQ Tryd.prog w99 (Instr.loadAt 45 t17) fun t154 =>
 opP Tryd.prog (Builtin.len_ #[45] 3 #[t154]) fun t155 =>
 opP Tryd.prog (bsem .neq 3 false t153 t155) fun t156 =>
 sJoin (fun K120 => gIf t156 true (opQ Tryd.prog w99 (Instr.loadAt 3 (s91.getD 0 undef)) fun t158 =>
 opP Tryd.prog (bsem .neq 3 true t158 (Value.int .i64 0)) fun t159 =>
 K120 [t159] w99) (K120 [undef] w99)) (fun s121 _d122 w123 =>
 sJoin (fun K124 => gIf (s121.getD 0 undef) false (opQ Tryd.prog w123 (Instr.loadAt 3 t20) fun t161 =>
 opQ Tryd.prog w123 (Instr.loadAt 3 t7) fun t162 =>
 opP Tryd.prog (bsem .neq 3 false t161 t162) fun t163 =>
 K124 [t163] w123) (K124 [undef] w123)) (fun s125 _d126 w127 =>
 sJoin (fun K128 => gIf t156 true (oPick (s121.getD 0 undef) (Value.bool true) (s125.getD 0 undef) fun t164 =>
 K128 [t164] w127) (K128 [undef] w127)) (fun s129 _d130 w131 =>
 oPick t156 (s129.getD 0 undef) (Value.bool false) fun t165 =>
 oCond t165 (opU Tryd.prog w131 (Instr.storeAt 4 t8 (Value.bool false)) fun w132 =>
 NC w131 w132 ∧
 ∀ w133, Shuts w.heap.size w132 w133 → opQ Tryd.prog w133 (cellSem 4 t8) fun r134 =>
 K r134 w133) (opQ Tryd.prog w131 (Instr.loadAt 3 (s91.getD 0 undef)) fun t166 =>
 opW Tryd.prog w131 (Instr.alloc 3 true (.tuple #[])) fun t19_136 w135 =>
 NC w131 w135 ∧
 opU Tryd.prog w135 (Instr.storeAt 3 t19_136 t166) fun w137 =>
 NC w135 w137 ∧
 opQ Tryd.prog w137 (Instr.loadAt 3 t19_136) fun t128 =>
 opP Tryd.prog (bsem .add 3 true t128 (Value.int .i64 1)) fun t129 =>
 opU Tryd.prog w137 (Instr.storeAt 3 t19_136 t129) fun w138 =>
 NC w137 w138 ∧
 K90 [t19_136] w138)))))) (opQ Tryd.prog w93 (Instr.loadAt 24 t9) fun t167 =>
 opQ Tryd.prog w93 (Instr.loadAt 24 t4) fun t168 =>
 oCall Tryd.prog Tryd.n_law01_kept #[t167, t168] w93 fun t169 w139 =>
 NC w93 w139 ∧
 sJoin (fun K140 => gIf t169 true (oCall Tryd.prog Tryd.n_law01_awake #[] w139 fun t171 w144 =>
 NC w139 w144 ∧
 K140 [t171] w144) (K140 [undef] w139)) (fun s141 _d142 w143 =>
 oPick t169 (s141.getD 0 undef) (Value.bool false) fun t172 =>
 opU Tryd.prog w143 (Instr.storeAt 4 t8 t172) fun w145 =>
 NC w143 w145 ∧
 ∀ w146, Shuts w.heap.size w145 w146 → opQ Tryd.prog w146 (cellSem 4 t8) fun r147 =>
 K r147 w146)))))))))))))
theorem Tryd.E_law01_BitsRow (t0 t1 t2 t3 : Value) (w : World) (K : Value → World → Prop) : sw ⟨true, false⟩ Tryd.prog (fun _ _ => False) Tryd.A_law01_BitsRow (bodyOf Tryd.f4) [t0, t1, t2, t3, undef, undef, undef, undef, undef, undef, undef, undef, undef, undef, undef, undef, undef, undef, undef, undef, undef, undef, undef, undef, undef, undef, undef, undef, undef, undef, undef, undef, undef, undef, undef, undef, undef, undef, undef, undef, undef, undef, undef, undef, undef, undef, undef, undef, undef, undef, undef, undef, undef, undef, undef, undef, undef, undef, undef, undef, undef, undef, undef, undef, undef, undef, undef, undef, undef, undef, undef, undef, undef, undef, undef, undef, undef, undef, undef, undef, undef, undef, undef, undef, undef, undef, undef, undef, undef, undef, undef, undef, undef, undef, undef, undef, undef, undef, undef, undef, undef, undef, undef, undef, undef, undef, undef, undef, undef, undef, undef, undef, undef, undef, undef, undef, undef, undef, undef, undef, undef, undef, undef, undef, undef, undef, undef, undef, undef, undef, undef, undef, undef, undef, undef, undef, undef, undef, undef, undef, undef, undef, undef, undef, undef, undef, undef, undef, undef, undef, undef, undef, undef, undef, undef, undef, undef, undef, undef, undef, undef, undef, undef, undef, undef, undef, undef, undef, undef, undef, undef, undef, undef] w (topQ true Tryd.prog Tryd.f4 w K) = Tryd.F_law01_BitsRow t0 t1 t2 t3 w K := by kernel_rfl
theorem Tryd.C_law01_BitsRow : chk ⟨true, false⟩ Tryd.prog false Tryd.A_law01_BitsRow (bodyOf Tryd.f4) = true := by kernel_rfl
theorem Tryd.ok_law01_BitsRow {t0 t1 t2 t3 : Value} {w : World} {K : Value → World → Prop} (h : Tryd.F_law01_BitsRow t0 t1 t2 t3 w K) : oCall Tryd.prog Tryd.n_law01_BitsRow #[t0, t1, t2, t3] w K :=
  calls_of_sw (cf := ⟨true, false⟩) Tryd.mixed Tryd.func4 rfl Tryd.C_law01_BitsRow ((Tryd.E_law01_BitsRow t0 t1 t2 t3 w K).mpr h)

/- 5: loanword/loanwordlaw01.BitsTurn -/
def Tryd.A_law01_BitsTurn : Ann := .s (.r (.op 0 .l (.op 1 .p (.nil)))) (.s (.s (.r (.op 0 .p (.op 1 .q (.op 2 .p (.op 3 .p (.op 4 .p (.grp 18 false [(5, .p), (6, .p), (7, .p)] [21] (.op 8 .p (.nil))))))))) (.c (.s (.r (.op 0 .l (.op 1 .p (.nil)))) (.n)) (.n))) (.s (.r (.op 0 .q (.op 1 .l (.op 2 .l (.op 3 .l (.nil)))))) (.s (.r (.op 0 .p (.op 1 .l (.op 2 .l (.op 3 .l (.op 4 .p (.nil))))))) (.j [7, 8] (.r (.op 0 .q (.op 1 .p (.op 2 .p (.op 3 .p (.op 4 .p (.alt 5 .l (.op 6 .p (.op 7 .p (.op 8 .p (.op 9 .u (.op 10 .l (.op 11 .p (.nil))))))) (.op 9 .u (.op 5 .l (.op 6 .p (.op 7 .p (.op 8 .p (.op 10 .l (.op 11 .p (.nil))))))))))))))) (.j [9, 10] (.r (.op 0 .q (.op 1 .p (.op 2 .p (.op 3 .p (.op 4 .p (.alt 5 .l (.op 6 .p (.op 7 .p (.op 8 .p (.op 9 .u (.op 10 .l (.op 11 .p (.nil))))))) (.op 9 .u (.op 5 .l (.op 6 .p (.op 7 .p (.op 8 .p (.op 10 .l (.op 11 .p (.nil))))))))))))))) (.s (.r (.op 0 .q (.op 1 .p (.op 2 .l (.op 3 .p (.op 4 .p (.op 5 .p (.op 6 .l (.op 7 .l (.op 8 .p (.nil))))))))))) (.s (.s (.r (.op 0 .p (.op 1 .p (.op 2 .p (.op 3 .p (.grp 57 false [(4, .p), (5, .p), (6, .p)] [60] (.op 7 .p (.op 8 .p (.grp 62 false [(9, .q), (10, .q), (11, .q), (12, .l), (13, .p)] [67] (.op 14 .p (.nil))))))))))) (.c (.s (.r (.op 0 .p (.nil))) (.n)) (.n))) (.s (.r (.op 0 .q (.op 1 .p (.op 2 .p (.op 3 .p (.op 4 .p (.op 5 .l (.op 6 .p (.op 7 .p (.op 8 .p (.op 9 .l (.op 10 .p (.nil))))))))))))) (.s (.r (.op 0 .q (.op 1 .p (.op 2 .p (.op 3 .p (.op 4 .p (.op 5 .l (.op 6 .p (.op 7 .p (.op 8 .p (.op 9 .l (.op 10 .p (.nil))))))))))))) (.s (.r (.op 0 .q (.op 1 .p (.op 2 .l (.op 3 .p (.op 4 .p (.op 5 .p (.op 6 .l (.op 7 .p (.nil)))))))))) (.s (.s (.r (.op 0 .p (.op 1 .p (.op 2 .p (.op 3 .p (.grp 96 false [(4, .p), (5, .p), (6, .p)] [99] (.op 7 .p (.op 8 .p (.grp 101 false [(9, .q), (10, .q), (11, .q), (12, .l), (13, .p)] [106] (.op 14 .p (.nil))))))))))) (.c (.s (.r (.op 0 .p (.nil))) (.n)) (.n))) (.s (.s (.r (.op 0 .p (.nil))) (.b (.lp [13] (.s (.s (.r (.op 0 .p (.op 1 .p (.op 2 .p (.op 3 .p (.nil)))))) (.c (.n) (.n))) (.s (.b (.s (.r (.op 0 .p (.op 1 .p (.op 2 .p (.op 3 .q (.op 4 .p (.op 5 .p (.op 6 .p (.op 7 .q (.op 8 .p (.nil))))))))))) (.c (.s (.r (.op 0 .p (.nil))) (.n)) (.n)))) (.r (.op 0 .p (.op 1 .p (.op 2 .p (.nil)))))))))) (.s (.r (.op 0 .p (.op 1 .p (.op 2 .p (.op 3 .p (.op 4 .q (.op 5 .p (.op 6 .p (.grp 129 true [(7, .q), (8, .q), (9, .l)] [132] (.op 10 .p (.op 11 .p (.grp 134 true [(12, .l)] [135] (.op 13 .p (.op 14 .p (.nil))))))))))))))) (.n))))))))))))))
def Tryd.F_law01_BitsTurn (t0 : Value) (t1 : Value) (w : World) (K : Value → World → Prop) : Prop :=
 opW Tryd.prog w (Instr.box 24 t0) fun t2 w1 =>
 opP Tryd.prog (Instr.fieldAt 24 t2 1) fun t14 =>
 opQ Tryd.prog w1 (Instr.loadAt 22 t14) fun t15 =>
 opP Tryd.prog (Builtin.len_ #[22] 3 #[t15]) fun t16 =>
 opP Tryd.prog (bsem .gtr 3 true t16 (Value.int .i64 4096)) fun t17 =>
 sJoin (fun K2 => gIf t17 false (opP Tryd.prog (Builtin.len_ #[45] 3 #[t1]) fun t20 =>
 opP Tryd.prog (bsem .gtr 3 true t20 (Value.int .i64 4096)) fun t21 =>
 K2 [t21] w1) (K2 [undef] w1)) (fun s3 _d4 w5 =>
 oPick t17 (Value.bool true) (s3.getD 0 undef) fun t22 =>
 oCond t22 (oCall Tryd.prog Tryd.n_law01_awake #[] w5 fun t23 w6 =>
 K t23 w6) (opQ Tryd.prog w5 (Instr.loadAt 24 t2) fun t24 =>
 oCall Tryd.prog Tryd.n_law01_lent #[t24] w5 fun t25 w7 =>
 opW Tryd.prog w7 (Instr.alloc 24 true (.tuple #[])) fun t5 w8 =>
 opU Tryd.prog w8 (Instr.storeAt 24 t5 t25) fun w9 =>
 opW Tryd.prog w9 (Builtin.append_ #[45, 45] 45 #[(Value.slice Option.none 0 0), t1]) fun t27 w10 =>
 opW Tryd.prog w10 (Instr.buildSlice 45 1 #[(0, (Value.int .i64 77))]) fun t28 w11 =>
 opW Tryd.prog w11 (Builtin.append_ #[45, 45] 45 #[t27, t28]) fun t29 w12 =>
 sJoin (fun K13 =>
 opQ Tryd.prog w12.drew (Instr.loadAt 24 t5) fun t31 =>
 opP Tryd.prog (Builtin.len_ #[45] 3 #[t1]) fun t34 =>
 opP Tryd.prog (Instr.sliceAt 45 t29 none (some t34) none) fun t35 =>
 ((oCall Tryd.prog Tryd.n_bits_Set #[t31, t35] w12.drew fun t36 w17 =>
 opP Tryd.prog (Instr.extract t36 0) fun t37 =>
 opP Tryd.prog (Instr.extract t36 1) fun t38 =>
 opW Tryd.prog w17 (Instr.alloc 24 true (.tuple #[])) fun t7 w18 =>
 Ext w17 w18 ∧
 opU Tryd.prog w18 (Instr.storeAt 24 t7 t37) fun w19 =>
 K13 [t7, t38] w19) ∧
 (opW Tryd.prog w12.drew (Instr.alloc 24 true (.tuple #[])) fun t7_21 w20 =>
 Ext w12.drew w20 ∧
 oCall Tryd.prog Tryd.n_bits_Set #[t31, t35] w20 fun t36_23 w22 =>
 opP Tryd.prog (Instr.extract t36_23 0) fun t37_24 =>
 opP Tryd.prog (Instr.extract t36_23 1) fun t38_25 =>
 opU Tryd.prog w22 (Instr.storeAt 24 t7_21 t37_24) fun w26 =>
 K13 [t7_21, t38_25] w26))) (fun s14 _d15 w16 =>
 sJoin (fun K27 =>
 opQ Tryd.prog w16.drew (Instr.loadAt 24 t5) fun t40 =>
 opP Tryd.prog (Builtin.len_ #[45] 3 #[t1]) fun t43 =>
 opP Tryd.prog (Instr.sliceAt 45 t29 none (some t43) none) fun t44 =>
 ((oCall Tryd.prog Tryd.n_bits_Set #[t40, t44] w16.drew fun t45 w31 =>
 opP Tryd.prog (Instr.extract t45 0) fun t46 =>
 opP Tryd.prog (Instr.extract t45 1) fun t47 =>
 opW Tryd.prog w31 (Instr.alloc 24 true (.tuple #[])) fun t9 w32 =>
 Ext w31 w32 ∧
 opU Tryd.prog w32 (Instr.storeAt 24 t9 t46) fun w33 =>
 K27 [t9, t47] w33) ∧
 (opW Tryd.prog w16.drew (Instr.alloc 24 true (.tuple #[])) fun t9_35 w34 =>
 Ext w16.drew w34 ∧
 oCall Tryd.prog Tryd.n_bits_Set #[t40, t44] w34 fun t45_37 w36 =>
 opP Tryd.prog (Instr.extract t45_37 0) fun t46_38 =>
 opP Tryd.prog (Instr.extract t45_37 1) fun t47_39 =>
 opU Tryd.prog w36 (Instr.storeAt 24 t9_35 t46_38) fun w40 =>
 K27 [t9_35, t47_39] w40))) (fun s28 _d29 w30 =>
 opQ Tryd.prog w30 (Instr.loadAt 24 t2) fun t49 =>
 oCall Tryd.prog Tryd.n_ref01_Turn #[t49, t1, (Value.bool true)] w30 fun t51 w41 =>
 opP Tryd.prog (Instr.extract t51 0) fun t52 =>
 opP Tryd.prog (Instr.extract t51 1) fun t53 =>
 opW Tryd.prog w41 (Instr.alloc 24 true (.tuple #[])) fun t11 w42 =>
 opU Tryd.prog w42 (Instr.storeAt 24 t11 t52) fun w43 =>
 opP Tryd.prog (bsem .neq 3 false (s14.getD 1 undef) t53) fun t56 =>
 sJoin (fun K44 => gIf t56 false (opP Tryd.prog (bsem .neq 27 false (s28.getD 1 undef) (s14.getD 1 undef)) fun t60 =>
 K44 [t60] w43) (K44 [undef] w43)) (fun s45 _d46 w47 =>
 oPick t56 (Value.bool true) (s45.getD 0 undef) fun t61 =>
 sJoin (fun K48 => gIf t61 false (opQ Tryd.prog w47 (Instr.loadAt 24 (s14.getD 0 undef)) fun t63 =>
 opQ Tryd.prog w47 (Instr.loadAt 24 (s28.getD 0 undef)) fun t64 =>
 opQ Tryd.prog w47 (Instr.loadAt 24 t11) fun t65 =>
 oCall Tryd.prog Tryd.n_law01_held #[t63, t64, t65] w47 fun t66 w52 =>
 opP Tryd.prog (Op.unary .not t66) fun t67 =>
 K48 [t67] w52) (K48 [undef] w47)) (fun s49 _d50 w51 =>
 oPick t61 (Value.bool true) (s49.getD 0 undef) fun t68 =>
 oCond t68 (K (Value.bool false) w51) (opQ Tryd.prog w51.drew (Instr.loadAt 24 t5) fun t70 =>
 opP Tryd.prog (Builtin.len_ #[45] 3 #[t1]) fun t73 =>
 opP Tryd.prog (Instr.sliceAt 45 t29 none (some t73) none) fun t74 =>
 oCall Tryd.prog Tryd.n_bits_Clear #[t70, t74] w51.drew fun t75 w53 =>
 opP Tryd.prog (Instr.extract t75 0) fun t76 =>
 opP Tryd.prog (Instr.extract t75 1) fun t77 =>
 opU Tryd.prog w53 (Instr.storeAt 24 (s14.getD 0 undef) t76) fun w54 =>
 opQ Tryd.prog w54.drew (Instr.loadAt 24 t5) fun t79 =>
 opP Tryd.prog (Builtin.len_ #[45] 3 #[t1]) fun t82 =>
 opP Tryd.prog (Instr.sliceAt 45 t29 none (some t82) none) fun t83 =>
 oCall Tryd.prog Tryd.n_bits_Clear #[t79, t83] w54.drew fun t84 w55 =>
 opP Tryd.prog (Instr.extract t84 0) fun t85 =>
 opP Tryd.prog (Instr.extract t84 1) fun t86 =>
 opU Tryd.prog w55 (Instr.storeAt 24 (s28.getD 0 undef) t85) fun w56 =>
 opQ Tryd.prog w56 (Instr.loadAt 24 t2) fun t88 =>
 oCall Tryd.prog Tryd.n_ref01_Turn #[t88, t1, (Value.bool false)] w56 fun t90 w57 =>
 opP Tryd.prog (Instr.extract t90 0) fun t91 =>
 opP Tryd.prog (Instr.extract t90 1) fun t92 =>
 opU Tryd.prog w57 (Instr.storeAt 24 t11 t91) fun w58 =>
 opP Tryd.prog (bsem .neq 3 false t77 t92) fun t95 =>
 sJoin (fun K59 => gIf t95 false (opP Tryd.prog (bsem .neq 27 false t86 t77) fun t99 =>
 K59 [t99] w58) (K59 [undef] w58)) (fun s60 _d61 w62 =>
 oPick t95 (Value.bool true) (s60.getD 0 undef) fun t100 =>
 sJoin (fun K63 => gIf t100 false (opQ Tryd.prog w62 (Instr.loadAt 24 (s14.getD 0 undef)) fun t102 =>
 opQ Tryd.prog w62 (Instr.loadAt 24 (s28.getD 0 undef)) fun t103 =>
 opQ Tryd.prog w62 (Instr.loadAt 24 t11) fun t104 =>
 oCall Tryd.prog Tryd.n_law01_held #[t102, t103, t104] w62 fun t105 w67 =>
 opP Tryd.prog (Op.unary .not t105) fun t106 =>
 K63 [t106] w67) (K63 [undef] w62)) (fun s64 _d65 w66 =>
 oPick t100 (Value.bool true) (s64.getD 0 undef) fun t107 =>
 oCond t107 (K (Value.bool false) w66) (sLoop [(Value.int .i64 0)] w66 (fun s69 _d70 w71 K68 =>
 opP Tryd.prog (Builtin.len_ #[45] 3 #[t1]) fun t110 =>
 opP Tryd.prog (bsem .lss 3 false (s69.getD 0 undef) t110) fun t111 =>
 oCond t111 (opP Tryd.prog (Instr.indexAt 45 t29 (s69.getD 0 undef)) fun t116 =>
 opQ Tryd.prog w71.drew (Instr.loadAt 3 t116) fun t117 =>
 opP Tryd.prog (Instr.indexAt 45 t1 (s69.getD 0 undef)) fun t120 =>
 opQ Tryd.prog w71.drew (Instr.loadAt 3 t120) fun t121 =>
 opP Tryd.prog (bsem .neq 3 false t117 t121) fun t122 =>
 oCond t122 (K (Value.bool false) w71.drew) (opP Tryd.prog (bsem .add 3 true (s69.getD 0 undef) (Value.int .i64 1)) fun t113 =>
 K68 [t113] w71.drew)) (opP Tryd.prog (Builtin.len_ #[45] 3 #[t1]) fun t125 =>
 opP Tryd.prog (Instr.indexAt 45 t29 t125) fun t126 =>
 opQ Tryd.prog w71 (Instr.loadAt 3 t126) fun t127 =>
 opP Tryd.prog (bsem .eql 3 true t127 (Value.int .i64 77)) fun t128 =>
 sJoin (fun K72 => gIf t128 true (opQ Tryd.prog w71 (Instr.loadAt 24 t5) fun t130 =>
 opQ Tryd.prog w71 (Instr.loadAt 24 t2) fun t131 =>
 oCall Tryd.prog Tryd.n_law01_kept #[t130, t131] w71 fun t132 w76 =>
 K72 [t132] w76) (K72 [undef] w71)) (fun s73 _d74 w75 =>
 oPick t128 (s73.getD 0 undef) (Value.bool false) fun t133 =>
 sJoin (fun K77 => gIf t133 true (oCall Tryd.prog Tryd.n_law01_awake #[] w75 fun t135 w81 =>
 K77 [t135] w81) (K77 [undef] w75)) (fun s78 _d79 w80 =>
 oPick t133 (s78.getD 0 undef) (Value.bool false) fun t136 =>
 K t136 w80))))))))))))))
theorem Tryd.E_law01_BitsTurn (t0 t1 : Value) (w : World) (K : Value → World → Prop) : sw ⟨false, false⟩ Tryd.prog (fun _ _ => False) Tryd.A_law01_BitsTurn (bodyOf Tryd.f5) [t0, t1, undef, undef, undef, undef, undef, undef, undef, undef, undef, undef, undef, undef, undef, undef, undef, undef, undef, undef, undef, undef, undef, undef, undef, undef, undef, undef, undef, undef, undef, undef, undef, undef, undef, undef, undef, undef, undef, undef, undef, undef, undef, undef, undef, undef, undef, undef, undef, undef, undef, undef, undef, undef, undef, undef, undef, undef, undef, undef, undef, undef, undef, undef, undef, undef, undef, undef, undef, undef, undef, undef, undef, undef, undef, undef, undef, undef, undef, undef, undef, undef, undef, undef, undef, undef, undef, undef, undef, undef, undef, undef, undef, undef, undef, undef, undef, undef, undef, undef, undef, undef, undef, undef, undef, undef, undef, undef, undef, undef, undef, undef, undef, undef, undef, undef, undef, undef, undef, undef, undef, undef, undef, undef, undef, undef, undef, undef, undef, undef, undef, undef, undef, undef, undef, undef, undef] w (topQ false Tryd.prog Tryd.f5 w K) = Tryd.F_law01_BitsTurn t0 t1 w K := by kernel_rfl
theorem Tryd.C_law01_BitsTurn : chk ⟨false, false⟩ Tryd.prog false Tryd.A_law01_BitsTurn (bodyOf Tryd.f5) = true := by kernel_rfl
theorem Tryd.ok_law01_BitsTurn {t0 t1 : Value} {w : World} {K : Value → World → Prop} (h : Tryd.F_law01_BitsTurn t0 t1 w K) : oCall Tryd.prog Tryd.n_law01_BitsTurn #[t0, t1] w K :=
  calls_of_sw (cf := ⟨false, false⟩) Tryd.mixed Tryd.func5 rfl Tryd.C_law01_BitsTurn ((Tryd.E_law01_BitsTurn t0 t1 w K).mpr h)

/- 6: loanword/loanwordlaw01.BitsBack -/
def Tryd.A_law01_BitsBack : Ann := .s (.r (.op 0 .l (.op 1 .l (.nil)))) (.s (.s (.r (.op 0 .p (.op 1 .p (.op 2 .p (.nil))))) (.c (.s (.r (.op 0 .l (.op 1 .l (.nil)))) (.n)) (.n))) (.s (.r (.op 0 .q (.op 1 .l (.op 2 .p (.op 3 .p (.op 4 .p (.op 5 .p (.op 6 .p (.nil))))))))) (.j [] (.s (.r (.op 0 .q (.op 1 .l (.nil)))) (.c (.s (.r (.op 0 .p (.op 1 .q (.op 2 .p (.op 3 .l (.op 4 .p (.op 5 .p (.op 6 .p (.op 7 .p (.op 8 .l (.op 9 .l (.op 10 .l (.op 11 .p (.op 12 .l (.nil))))))))))))))) (.s (.s (.r (.op 0 .p (.op 1 .p (.op 2 .p (.grp 40 false [(3, .q), (4, .q), (5, .p), (6, .q), (7, .l), (8, .p)] [46] (.op 9 .p (.nil))))))) (.c (.s (.r (.op 0 .l (.nil))) (.n)) (.n))) (.s (.r (.op 0 .l (.op 1 .l (.op 2 .l (.op 3 .l (.nil)))))) (.s (.r (.op 0 .p (.op 1 .q (.op 2 .l (.op 3 .p (.op 4 .p (.op 5 .p (.op 6 .l (.op 7 .l (.op 8 .p (.nil))))))))))) (.s (.s (.r (.op 0 .q (.op 1 .l (.nil)))) (.b (.rf [] (.r (.op 0 .p (.nil))) (.b (.s (.s (.r (.op 0 .p (.op 1 .q (.op 2 .p (.op 3 .p (.grp 60 false [(4, .p), (5, .p), (6, .q), (7, .p)] [64] (.op 8 .p (.op 9 .p (.grp 66 false [(10, .q), (11, .p), (12, .l), (13, .p)] [70] (.op 14 .p (.nil))))))))))) (.c (.s (.r (.op 0 .l (.nil))) (.n)) (.n))) (.s (.r (.op 0 .p (.op 1 .l (.nil)))) (.s (.r (.op 0 .q (.op 1 .p (.op 2 .l (.nil))))) (.s (.r (.op 0 .q (.op 1 .p (.op 2 .l (.op 3 .l (.op 4 .p (.op 5 .p (.op 6 .p (.op 7 .l (.op 8 .l (.nil))))))))))) (.s (.r (.op 0 .q (.op 1 .p (.nil)))) (.c (.s (.r (.op 0 .l (.nil))) (.n)) (.n))))))))))) (.s (.r (.op 0 .q (.op 1 .q (.op 2 .u (.op 3 .p (.op 4 .p (.grp 88 false [(5, .q), (6, .q), (7, .p), (8, .l), (9, .p)] [93] (.op 10 .p (.nil))))))))) (.c (.s (.r (.op 0 .l (.nil))) (.n)) (.n)))))))) (.s (.r (.op 0 .p (.op 1 .p (.nil)))) (.c (.s (.r (.op 0 .l (.nil))) (.n)) (.n))))) (.s (.r (.op 0 .p (.op 1 .p (.op 2 .l (.op 3 .p (.op 4 .p (.op 5 .p (.op 6 .p (.op 7 .l (.op 8 .l (.op 9 .p (.op 10 .p (.nil))))))))))))) (.s (.s (.r (.op 0 .p (.op 1 .p (.nil)))) (.c (.s (.r (.op 0 .p (.op 1 .p (.op 2 .p (.grp 108 true [(3, .p), (4, .p), (5, .p), (6, .p)] [112] (.op 7 .p (.op 8 .p (.grp 114 true [(9, .l)] [115] (.op 10 .p (.op 11 .l (.nil))))))))))) (.n)) (.n))) (.s (.r (.op 0 .q (.op 1 .l (.op 2 .p (.op 3 .p (.op 4 .p (.op 5 .p (.op 6 .p (.nil))))))))) (.s (.r (.op 0 .p (.op 1 .p (.op 2 .p (.grp 124 true [(3, .p), (4, .p), (5, .p)] [127] (.op 6 .p (.op 7 .p (.grp 129 true [(8, .l)] [130] (.op 9 .p (.op 10 .l (.nil))))))))))) (.n))))))))
def Tryd.F_law01_BitsBack (t0 : Value) (t1 : Value) (t2 : Value) (w : World) (K : Value → World → Prop) : Prop :=
 opW Tryd.prog w (Instr.box 24 t0) fun t3 w1 =>
 NC w w1 ∧
 opW Tryd.prog w1 (Instr.alloc 4 true (.tuple #[])) fun t6 w2 =>
 NC w1 w2 ∧
 opP Tryd.prog (Builtin.len_ #[9] 3 #[t2]) fun t20 =>
 opP Tryd.prog (bsem .gtr 3 true t20 (Value.int .i64 4096)) fun t21 =>
 oCond t21 (oCall Tryd.prog Tryd.n_law01_awake #[] w2 fun t22 w3 =>
 NC w2 w3 ∧
 opU Tryd.prog w3 (Instr.storeAt 4 t6 t22) fun w4 =>
 NC w3 w4 ∧
 ∀ w5, Shuts w.heap.size w4 w5 → opQ Tryd.prog w5 (cellSem 4 t6) fun r6 =>
 K r6 w5) (opQ Tryd.prog w2 (Instr.loadAt 24 t3) fun t24 =>
 oCall Tryd.prog Tryd.n_bits_Bytes #[t24] w2 fun t25 w7 =>
 NC w2 w7 ∧
 opP Tryd.prog (Instr.extract t25 0) fun t26 =>
 opP Tryd.prog (Instr.extract t25 1) fun t27 =>
 sJoin (fun K8 =>
 opQ Tryd.prog w7 (Instr.loadAt 24 t3) fun t28 =>
 oCall Tryd.prog Tryd.n_bits_May #[t28] w7 fun t29 w12 =>
 NC w7 w12 ∧
 oCond t29 (opP Tryd.prog (Instr.fieldAt 24 t3 0) fun t31 =>
 opQ Tryd.prog w12 (Instr.loadAt 3 t31) fun t32 =>
 oCall Tryd.prog Tryd.n_bits_Read #[t32, t26] w12 fun t34 w13 =>
 NC w12 w13 ∧
 opP Tryd.prog (Instr.extract t34 0) fun t35 =>
 opP Tryd.prog (Instr.extract t34 1) fun t36 =>
 opP Tryd.prog (Instr.extract t34 2) fun t37 =>
 opW Tryd.prog w13 (Instr.alloc 24 true (.tuple #[])) fun t9 w14 =>
 NC w13 w14 ∧
 opW Tryd.prog w14 (Instr.alloc 27 true (.tuple #[])) fun t11 w15 =>
 NC w14 w15 ∧
 opU Tryd.prog w15 (Instr.storeAt 24 t9 t35) fun w16 =>
 NC w15 w16 ∧
 opU Tryd.prog w16 (Instr.storeAt 27 t11 t37) fun w17 =>
 NC w16 w17 ∧
 opP Tryd.prog (bsem .neq 3 true t36 (Value.int .i64 0)) fun t39 =>
 sJoin (fun K18 => gIf t39 false (opQ Tryd.prog w17 (Instr.loadAt 24 t9) fun t41 =>
 opQ Tryd.prog w17 (Instr.loadAt 24 t3) fun t42 =>
 opQ Tryd.prog w17 (Instr.loadAt 27 t11) fun t44 =>
 oCall Tryd.prog Tryd.n_law01_same #[t41, t42, t27, t44] w17 fun t45 w22 =>
 NC w17 w22 ∧
 opP Tryd.prog (Op.unary .not t45) fun t46 =>
 K18 [t46] w22) (K18 [undef] w17)) (fun s19 _d20 w21 =>
 oPick t39 (Value.bool true) (s19.getD 0 undef) fun t47 =>
 oCond t47 (opU Tryd.prog w21 (Instr.storeAt 4 t6 (Value.bool false)) fun w23 =>
 NC w21 w23 ∧
 ∀ w24, Shuts w.heap.size w23 w24 → opQ Tryd.prog w24 (cellSem 4 t6) fun r25 =>
 K r25 w24) (opW Tryd.prog w21 (Instr.alloc 3 true (.tuple #[])) fun t12 w26 =>
 NC w21 w26 ∧
 opW Tryd.prog w26 (Instr.alloc 3 true (.tuple #[])) fun t13 w27 =>
 NC w26 w27 ∧
 opU Tryd.prog w27 (Instr.storeAt 3 t12 (Value.int .i64 0)) fun w28 =>
 NC w27 w28 ∧
 opU Tryd.prog w28 (Instr.storeAt 3 t13 (Value.int .i64 (-1))) fun w29 =>
 NC w28 w29 ∧
 opP Tryd.prog (Instr.fieldAt 24 t3 0) fun t49 =>
 opQ Tryd.prog w29 (Instr.loadAt 3 t49) fun t50 =>
 oCall Tryd.prog Tryd.n_bits_New #[t50] w29 fun t51 w30 =>
 NC w29 w30 ∧
 opP Tryd.prog (Instr.extract t51 0) fun t52 =>
 opP Tryd.prog (Instr.extract t51 1) fun t53 =>
 opW Tryd.prog w30 (Instr.alloc 24 true (.tuple #[])) fun t14 w31 =>
 NC w30 w31 ∧
 opU Tryd.prog w31 (Instr.storeAt 24 t14 t52) fun w32 =>
 NC w31 w32 ∧
 opQ Tryd.prog w32 (Instr.loadAt 24 t3) fun t54 =>
 oCall Tryd.prog Tryd.n_bits_Each #[t54] w32 fun t55 w33 =>
 NC w32 w33 ∧
 oRange Tryd.prog 1 t55 w33 (fun x34 w35 S36 KR37 =>
 (Ext w35 w35 ∧ ∀ w38, Nl w33.heap.size w35 w38 →
 opQ Tryd.prog w38 (Instr.loadAt 3 t13) fun t58 =>
 opP Tryd.prog (bsem .leq 3 false (x34.getD 0 undef) t58) fun t59 =>
 sJoin (fun K39 => gIf t59 false (opP Tryd.prog (Instr.fieldAt 24 t3 0) fun t62 =>
 opQ Tryd.prog w38 (Instr.loadAt 3 t62) fun t63 =>
 opP Tryd.prog (bsem .geq 3 false (x34.getD 0 undef) t63) fun t64 =>
 K39 [t64] w38) (K39 [undef] w38)) (fun s40 _d41 w42 =>
 oPick t59 (Value.bool true) (s40.getD 0 undef) fun t65 =>
 sJoin (fun K43 => gIf t65 false (opQ Tryd.prog w42 (Instr.loadAt 24 t3) fun t67 =>
 oCall Tryd.prog Tryd.n_bits_Get #[t67, (x34.getD 0 undef)] w42 fun t69 w47 =>
 NC w42 w47 ∧
 opP Tryd.prog (Op.unary .not t69) fun t70 =>
 K43 [t70] w47) (K43 [undef] w42)) (fun s44 _d45 w46 =>
 oPick t65 (Value.bool true) (s44.getD 0 undef) fun t71 =>
 oCond t71 (opU Tryd.prog w46 (Instr.storeAt 4 t6 (Value.bool false)) fun w48 =>
 NC w46 w48 ∧
 (ExtBut S36 w38 w48 ∧ KR37 .ret w48)) (opU Tryd.prog w46 (Instr.storeAt 3 t13 (x34.getD 0 undef)) fun w49 =>
 NC w46 w49 ∧
 opQ Tryd.prog w49 (Instr.loadAt 3 t12) fun t73 =>
 opP Tryd.prog (bsem .add 3 true t73 (Value.int .i64 1)) fun t74 =>
 opU Tryd.prog w49 (Instr.storeAt 3 t12 t74) fun w50 =>
 NC w49 w50 ∧
 opQ Tryd.prog w50 (Instr.loadAt 24 t14) fun t76 =>
 opW Tryd.prog w50 (Instr.buildSlice 45 1 #[(0, (x34.getD 0 undef))]) fun t78 w51 =>
 NC w50 w51 ∧
 oCall Tryd.prog Tryd.n_bits_Set #[t76, t78] w51 fun t79 w52 =>
 NC w51 w52 ∧
 opP Tryd.prog (Instr.extract t79 0) fun t80 =>
 opP Tryd.prog (Instr.extract t79 1) fun t81 =>
 opU Tryd.prog w52 (Instr.storeAt 24 t14 t80) fun w53 =>
 NC w52 w53 ∧
 opU Tryd.prog w53 (Instr.storeAt 27 t11 t81) fun w54 =>
 NC w53 w54 ∧
 opQ Tryd.prog w54 (Instr.loadAt 27 t11) fun t82 =>
 opP Tryd.prog (bsem .neq 27 true t82 (Value.int .i64 0)) fun t83 =>
 oCond t83 (opU Tryd.prog w54 (Instr.storeAt 4 t6 (Value.bool false)) fun w55 =>
 NC w54 w55 ∧
 (ExtBut S36 w38 w55 ∧ KR37 .ret w55)) ((ExtBut S36 w38 w54 ∧ KR37 .normal w54))))))) (fun w56 =>
 opQ Tryd.prog w56.drew (Instr.loadAt 3 t12) fun t84 =>
 opQ Tryd.prog w56.drew (Instr.loadAt 24 t3) fun t85 =>
 oCall Tryd.prog Tryd.n_bits_Count #[t85] w56.drew fun t86 w57 =>
 NC w56.drew w57 ∧
 Ext w56.drew w57 ∧
 opP Tryd.prog (bsem .neq 3 false t84 t86) fun t87 =>
 sJoin (fun K58 => gIf t87 false (opQ Tryd.prog w57 (Instr.loadAt 24 t14) fun t89 =>
 opQ Tryd.prog w57 (Instr.loadAt 24 t3) fun t90 =>
 oCall Tryd.prog Tryd.n_law01_same #[t89, t90, t53, (Value.int .i64 0)] w57 fun t92 w62 =>
 NC w57 w62 ∧
 opP Tryd.prog (Op.unary .not t92) fun t93 =>
 K58 [t93] w62) (K58 [undef] w57)) (fun s59 _d60 w61 =>
 oPick t87 (Value.bool true) (s59.getD 0 undef) fun t94 =>
 oCond t94 (opU Tryd.prog w61 (Instr.storeAt 4 t6 (Value.bool false)) fun w63 =>
 NC w61 w63 ∧
 ∀ w64, Shuts w.heap.size w63 w64 → opQ Tryd.prog w64 (cellSem 4 t6) fun r65 =>
 K r65 w64) (K8 [] w61))) (fun w66 =>
 ∀ w67, Shuts w.heap.size w66 w67 → opQ Tryd.prog w67 (cellSem 4 t6) fun r68 =>
 K r68 w67) []))) (opP Tryd.prog (bsem .neq 27 true t27 (Value.int .i64 2)) fun t96 =>
 oCond t96 (opU Tryd.prog w12 (Instr.storeAt 4 t6 (Value.bool false)) fun w69 =>
 NC w12 w69 ∧
 ∀ w70, Shuts w.heap.size w69 w70 → opQ Tryd.prog w70 (cellSem 4 t6) fun r71 =>
 K r71 w70) (K8 [] w12))) (fun _s9 _d10 w11 =>
 oCall Tryd.prog Tryd.n_bits_Read #[t1, t2] w11 fun t100 w72 =>
 NC w11 w72 ∧
 opP Tryd.prog (Instr.extract t100 0) fun t101 =>
 opP Tryd.prog (Instr.extract t100 1) fun t102 =>
 opP Tryd.prog (Instr.extract t100 2) fun t103 =>
 opW Tryd.prog w72 (Instr.alloc 24 true (.tuple #[])) fun t17 w73 =>
 NC w72 w73 ∧
 opU Tryd.prog w73 (Instr.storeAt 24 t17 t101) fun w74 =>
 NC w73 w74 ∧
 opP Tryd.prog (bsem .neq 27 true t103 (Value.int .i64 0)) fun t105 =>
 oCond t105 (opP Tryd.prog (bsem .geq 3 true t102 (Value.int .i64 0)) fun t107 =>
 sJoin (fun K75 => gIf t107 true (opP Tryd.prog (Builtin.len_ #[9] 3 #[t2]) fun t111 =>
 opP Tryd.prog (bsem .leq 3 false t102 t111) fun t112 =>
 K75 [t112] w74) (K75 [undef] w74)) (fun s76 _d77 w78 =>
 oPick t107 (s76.getD 0 undef) (Value.bool false) fun t113 =>
 sJoin (fun K79 => gIf t113 true (oCall Tryd.prog Tryd.n_law01_awake #[] w78 fun t115 w83 =>
 NC w78 w83 ∧
 K79 [t115] w83) (K79 [undef] w78)) (fun s80 _d81 w82 =>
 oPick t113 (s80.getD 0 undef) (Value.bool false) fun t116 =>
 opU Tryd.prog w82 (Instr.storeAt 4 t6 t116) fun w84 =>
 NC w82 w84 ∧
 ∀ w85, Shuts w.heap.size w84 w85 → opQ Tryd.prog w85 (cellSem 4 t6) fun r86 =>
 K r86 w85))) (opQ Tryd.prog w74 (Instr.loadAt 24 t17) fun t118 =>
 oCall Tryd.prog Tryd.n_bits_Bytes #[t118] w74 fun t119 w87 =>
 NC w74 w87 ∧
 opP Tryd.prog (Instr.extract t119 0) fun t120 =>
 opP Tryd.prog (Instr.extract t119 1) fun t121 =>
 opP Tryd.prog (bsem .eql 27 true t121 (Value.int .i64 0)) fun t123 =>
 sJoin (fun K88 => gIf t123 true (opP Tryd.prog (bsem .eql 9 false t120 t2) fun t127 =>
 K88 [t127] w87) (K88 [undef] w87)) (fun s89 _d90 w91 =>
 oPick t123 (s89.getD 0 undef) (Value.bool false) fun t128 =>
 sJoin (fun K92 => gIf t128 true (oCall Tryd.prog Tryd.n_law01_awake #[] w91 fun t130 w96 =>
 NC w91 w96 ∧
 K92 [t130] w96) (K92 [undef] w91)) (fun s93 _d94 w95 =>
 oPick t128 (s93.getD 0 undef) (Value.bool false) fun t131 =>
 opU Tryd.prog w95 (Instr.storeAt 4 t6 t131) fun w97 =>
 NC w95 w97 ∧
 ∀ w98, Shuts w.heap.size w97 w98 → opQ Tryd.prog w98 (cellSem 4 t6) fun r99 =>
 K r99 w98)))))
theorem Tryd.E_law01_BitsBack (t0 t1 t2 : Value) (w : World) (K : Value → World → Prop) : sw ⟨true, false⟩ Tryd.prog (fun _ _ => False) Tryd.A_law01_BitsBack (bodyOf Tryd.f6) [t0, t1, t2, undef, undef, undef, undef, undef, undef, undef, undef, undef, undef, undef, undef, undef, undef, undef, undef, undef, undef, undef, undef, undef, undef, undef, undef, undef, undef, undef, undef, undef, undef, undef, undef, undef, undef, undef, undef, undef, undef, undef, undef, undef, undef, undef, undef, undef, undef, undef, undef, undef, undef, undef, undef, undef, undef, undef, undef, undef, undef, undef, undef, undef, undef, undef, undef, undef, undef, undef, undef, undef, undef, undef, undef, undef, undef, undef, undef, undef, undef, undef, undef, undef, undef, undef, undef, undef, undef, undef, undef, undef, undef, undef, undef, undef, undef, undef, undef, undef, undef, undef, undef, undef, undef, undef, undef, undef, undef, undef, undef, undef, undef, undef, undef, undef, undef, undef, undef, undef, undef, undef, undef, undef, undef, undef, undef, undef, undef, undef, undef, undef] w (topQ true Tryd.prog Tryd.f6 w K) = Tryd.F_law01_BitsBack t0 t1 t2 w K := by kernel_rfl
theorem Tryd.C_law01_BitsBack : chk ⟨true, false⟩ Tryd.prog false Tryd.A_law01_BitsBack (bodyOf Tryd.f6) = true := by kernel_rfl
theorem Tryd.ok_law01_BitsBack {t0 t1 t2 : Value} {w : World} {K : Value → World → Prop} (h : Tryd.F_law01_BitsBack t0 t1 t2 w K) : oCall Tryd.prog Tryd.n_law01_BitsBack #[t0, t1, t2] w K :=
  calls_of_sw (cf := ⟨true, false⟩) Tryd.mixed Tryd.func6 rfl Tryd.C_law01_BitsBack ((Tryd.E_law01_BitsBack t0 t1 t2 w K).mpr h)

/- 7: loanword/loanwordlaw01.BitsJoin -/
def Tryd.A_law01_BitsJoin : Ann := .s (.r (.op 0 .l (.op 1 .l (.op 2 .p (.nil))))) (.s (.s (.r (.op 0 .p (.op 1 .q (.op 2 .p (.op 3 .p (.op 4 .p (.grp 25 false [(5, .p), (6, .q), (7, .p), (8, .p)] [29] (.op 9 .p (.nil))))))))) (.c (.s (.r (.op 0 .l (.op 1 .p (.nil)))) (.n)) (.n))) (.j [5, 6] (.r (.op 0 .q (.op 2 .q (.alt 1 .u (.alt 3 .l (.alt 4 .u (.op 5 .u (.op 6 .l (.op 7 .l (.nil)))) (.op 5 .u (.op 4 .u (.op 6 .l (.op 7 .l (.nil)))))) (.alt 4 .u (.alt 3 .l (.op 5 .u (.op 6 .l (.op 7 .l (.nil)))) (.op 5 .u (.op 3 .l (.op 6 .l (.op 7 .l (.nil)))))) (.op 5 .u (.alt 3 .l (.op 4 .u (.op 6 .l (.op 7 .l (.nil)))) (.op 4 .u (.op 3 .l (.op 6 .l (.op 7 .l (.nil))))))))) (.alt 4 .u (.alt 1 .u (.alt 3 .l (.op 5 .u (.op 6 .l (.op 7 .l (.nil)))) (.op 5 .u (.op 3 .l (.op 6 .l (.op 7 .l (.nil)))))) (.op 5 .u (.op 1 .u (.op 3 .l (.op 6 .l (.op 7 .l (.nil))))))) (.op 5 .u (.alt 1 .u (.alt 3 .l (.op 4 .u (.op 6 .l (.op 7 .l (.nil)))) (.op 4 .u (.op 3 .l (.op 6 .l (.op 7 .l (.nil)))))) (.op 4 .u (.op 1 .u (.op 3 .l (.op 6 .l (.op 7 .l (.nil))))))))))))) (.s (.s (.r (.op 0 .p (.nil))) (.b (.lp [7] (.s (.s (.r (.op 0 .p (.op 1 .p (.nil)))) (.c (.n) (.n))) (.s (.b (.s (.r (.op 0 .l (.op 1 .l (.nil)))) (.s (.r (.op 0 .p (.op 1 .p (.nil)))) (.j [10, 11] (.s (.r (.op 0 .p (.nil))) (.b (.s (.r (.op 0 .p (.op 1 .p (.nil)))) (.c (.s (.r (.op 0 .q (.op 1 .q (.op 2 .l (.op 3 .p (.op 4 .p (.op 5 .p (.op 6 .l (.op 7 .p (.nil)))))))))) (.r (.op 0 .q (.op 1 .q (.op 2 .l (.op 3 .p (.op 4 .p (.op 5 .p (.op 6 .l (.op 7 .p (.nil))))))))))) (.s (.r (.op 0 .p (.op 1 .p (.nil)))) (.c (.s (.r (.op 0 .q (.op 1 .q (.op 2 .l (.op 3 .p (.op 4 .p (.op 5 .p (.op 6 .l (.op 7 .p (.nil)))))))))) (.r (.op 0 .q (.op 1 .q (.op 2 .l (.op 3 .p (.op 4 .p (.op 5 .p (.op 6 .l (.op 7 .p (.nil))))))))))) (.s (.r (.op 0 .q (.op 1 .q (.op 2 .l (.op 3 .p (.op 4 .p (.op 5 .p (.op 6 .l (.op 7 .p (.nil)))))))))) (.r (.op 0 .q (.op 1 .q (.op 2 .l (.op 3 .p (.op 4 .p (.op 5 .p (.op 6 .l (.op 7 .p (.nil))))))))))))))))) (.s (.r (.op 0 .q (.op 1 .q (.op 2 .p (.op 3 .l (.op 4 .p (.op 5 .p (.op 6 .p (.op 7 .l (.op 8 .l (.op 9 .p (.nil)))))))))))) (.s (.r (.op 0 .p (.op 1 .p (.op 2 .p (.op 3 .p (.grp 91 false [(4, .p), (5, .p), (6, .p)] [94] (.op 7 .p (.op 8 .p (.grp 96 false [(9, .q), (10, .q), (11, .q), (12, .l), (13, .p)] [101] (.op 14 .p (.nil))))))))))) (.c (.s (.r (.op 0 .p (.nil))) (.n)) (.n)))))))) (.r (.op 0 .p (.op 1 .p (.op 2 .p (.nil)))))))))) (.s (.r (.op 0 .q (.op 1 .q (.op 2 .l (.op 3 .p (.op 4 .p (.op 5 .p (.op 6 .p (.op 7 .p (.nil)))))))))) (.s (.r (.op 0 .q (.op 1 .q (.op 2 .l (.op 3 .p (.op 4 .p (.op 5 .p (.op 6 .p (.op 7 .p (.op 8 .p (.op 9 .p (.nil)))))))))))) (.s (.s (.r (.op 0 .q (.op 1 .q (.op 2 .l (.op 3 .p (.nil)))))) (.c (.s (.r (.op 0 .p (.op 1 .p (.op 2 .p (.grp 122 true [(3, .p), (4, .p)] [124] (.op 5 .p (.op 6 .p (.grp 126 true [(7, .p), (8, .p)] [128] (.op 9 .p (.op 10 .p (.grp 130 true [(11, .p), (12, .p)] [132] (.op 13 .p (.op 14 .p (.grp 134 true [(15, .p), (16, .p)] [136] (.op 17 .p (.op 18 .p (.grp 138 true [(19, .q), (20, .q), (21, .l)] [141] (.op 22 .p (.op 23 .p (.grp 143 true [(24, .q), (25, .q), (26, .l)] [146] (.op 27 .p (.op 28 .p (.grp 148 true [(29, .l)] [149] (.op 30 .p (.op 31 .p (.nil)))))))))))))))))))))))))) (.n)) (.n))) (.s (.r (.op 0 .q (.op 1 .q (.op 2 .l (.op 3 .p (.op 4 .p (.op 5 .p (.op 6 .p (.op 7 .p (.nil)))))))))) (.s (.r (.op 0 .p (.op 1 .p (.op 2 .p (.grp 159 true [(3, .p), (4, .p)] [161] (.op 5 .p (.op 6 .p (.grp 163 true [(7, .p), (8, .p), (9, .p), (10, .p)] [167] (.op 11 .p (.op 12 .p (.grp 169 true [(13, .p), (14, .p), (15, .p)] [172] (.op 16 .p (.op 17 .p (.grp 174 true [(18, .p), (19, .p), (20, .p)] [177] (.op 21 .p (.op 22 .p (.grp 179 true [(23, .q), (24, .q), (25, .l)] [182] (.op 26 .p (.op 27 .p (.grp 184 true [(28, .q), (29, .q), (30, .l)] [187] (.op 31 .p (.op 32 .p (.grp 189 true [(33, .l)] [190] (.op 34 .p (.op 35 .p (.nil)))))))))))))))))))))))))) (.n)))))))))
def Tryd.F_law01_BitsJoin (t0 : Value) (t1 : Value) (w : World) (K : Value → World → Prop) : Prop :=
 opW Tryd.prog w (Instr.box 24 t0) fun t2 w1 =>
 opW Tryd.prog w1 (Instr.box 24 t1) fun t3 w2 =>
 opP Tryd.prog (Instr.fieldAt 24 t2 1) fun t21 =>
 opQ Tryd.prog w2 (Instr.loadAt 22 t21) fun t22 =>
 opP Tryd.prog (Builtin.len_ #[22] 3 #[t22]) fun t23 =>
 opP Tryd.prog (bsem .gtr 3 true t23 (Value.int .i64 4096)) fun t24 =>
 sJoin (fun K3 => gIf t24 false (opP Tryd.prog (Instr.fieldAt 24 t3 1) fun t26 =>
 opQ Tryd.prog w2 (Instr.loadAt 22 t26) fun t27 =>
 opP Tryd.prog (Builtin.len_ #[22] 3 #[t27]) fun t28 =>
 opP Tryd.prog (bsem .gtr 3 true t28 (Value.int .i64 4096)) fun t29 =>
 K3 [t29] w2) (K3 [undef] w2)) (fun s4 _d5 w6 =>
 oPick t24 (Value.bool true) (s4.getD 0 undef) fun t30 =>
 oCond t30 (oCall Tryd.prog Tryd.n_law01_awake #[] w6 fun t31 w7 =>
 K t31 w7) (sJoin (fun K8 =>
 opQ Tryd.prog w6.drew (Instr.loadAt 24 t2) fun t32 =>
 opQ Tryd.prog w6.drew (Instr.loadAt 24 t3) fun t34 =>
 ((oCall Tryd.prog Tryd.n_law01_lent #[t32] w6.drew fun t33 w12 =>
 Ext w6.drew w12 ∧
 ((oCall Tryd.prog Tryd.n_law01_lent #[t34] w12 fun t35 w13 =>
 ((opW Tryd.prog w13 (Instr.alloc 24 true (.tuple #[])) fun t5 w14 =>
 Ext w13 w14 ∧
 opW Tryd.prog w14 (Instr.alloc 24 true (.tuple #[])) fun t6 w15 =>
 Ext w14 w15 ∧
 opU Tryd.prog w15 (Instr.storeAt 24 t5 t33) fun w16 =>
 opU Tryd.prog w16 (Instr.storeAt 24 t6 t35) fun w17 =>
 K8 [t5, t6] w17) ∧
 (opW Tryd.prog w13 (Instr.alloc 24 true (.tuple #[])) fun t6_19 w18 =>
 Ext w13 w18 ∧
 opW Tryd.prog w18 (Instr.alloc 24 true (.tuple #[])) fun t5_21 w20 =>
 Ext w18 w20 ∧
 opU Tryd.prog w20 (Instr.storeAt 24 t5_21 t33) fun w22 =>
 opU Tryd.prog w22 (Instr.storeAt 24 t6_19 t35) fun w23 =>
 K8 [t5_21, t6_19] w23))) ∧
 (((opW Tryd.prog w12 (Instr.alloc 24 true (.tuple #[])) fun t5_25 w24 =>
 Ext w12 w24 ∧
 ((oCall Tryd.prog Tryd.n_law01_lent #[t34] w24 fun t35_27 w26 =>
 opW Tryd.prog w26 (Instr.alloc 24 true (.tuple #[])) fun t6_29 w28 =>
 Ext w26 w28 ∧
 opU Tryd.prog w28 (Instr.storeAt 24 t5_25 t33) fun w30 =>
 opU Tryd.prog w30 (Instr.storeAt 24 t6_29 t35_27) fun w31 =>
 K8 [t5_25, t6_29] w31) ∧
 (opW Tryd.prog w24 (Instr.alloc 24 true (.tuple #[])) fun t6_33 w32 =>
 Ext w24 w32 ∧
 oCall Tryd.prog Tryd.n_law01_lent #[t34] w32 fun t35_35 w34 =>
 opU Tryd.prog w34 (Instr.storeAt 24 t5_25 t33) fun w36 =>
 opU Tryd.prog w36 (Instr.storeAt 24 t6_33 t35_35) fun w37 =>
 K8 [t5_25, t6_33] w37))) ∧
 (opW Tryd.prog w12 (Instr.alloc 24 true (.tuple #[])) fun t6_39 w38 =>
 Ext w12 w38 ∧
 ((oCall Tryd.prog Tryd.n_law01_lent #[t34] w38 fun t35_41 w40 =>
 opW Tryd.prog w40 (Instr.alloc 24 true (.tuple #[])) fun t5_43 w42 =>
 Ext w40 w42 ∧
 opU Tryd.prog w42 (Instr.storeAt 24 t5_43 t33) fun w44 =>
 opU Tryd.prog w44 (Instr.storeAt 24 t6_39 t35_41) fun w45 =>
 K8 [t5_43, t6_39] w45) ∧
 (opW Tryd.prog w38 (Instr.alloc 24 true (.tuple #[])) fun t5_47 w46 =>
 Ext w38 w46 ∧
 oCall Tryd.prog Tryd.n_law01_lent #[t34] w46 fun t35_49 w48 =>
 opU Tryd.prog w48 (Instr.storeAt 24 t5_47 t33) fun w50 =>
 opU Tryd.prog w50 (Instr.storeAt 24 t6_39 t35_49) fun w51 =>
 K8 [t5_47, t6_39] w51))))))) ∧
 (((opW Tryd.prog w6.drew (Instr.alloc 24 true (.tuple #[])) fun t5_53 w52 =>
 Ext w6.drew w52 ∧
 ((oCall Tryd.prog Tryd.n_law01_lent #[t32] w52 fun t33_55 w54 =>
 Ext w52 w54 ∧
 ((oCall Tryd.prog Tryd.n_law01_lent #[t34] w54 fun t35_57 w56 =>
 opW Tryd.prog w56 (Instr.alloc 24 true (.tuple #[])) fun t6_59 w58 =>
 Ext w56 w58 ∧
 opU Tryd.prog w58 (Instr.storeAt 24 t5_53 t33_55) fun w60 =>
 opU Tryd.prog w60 (Instr.storeAt 24 t6_59 t35_57) fun w61 =>
 K8 [t5_53, t6_59] w61) ∧
 (opW Tryd.prog w54 (Instr.alloc 24 true (.tuple #[])) fun t6_63 w62 =>
 Ext w54 w62 ∧
 oCall Tryd.prog Tryd.n_law01_lent #[t34] w62 fun t35_65 w64 =>
 opU Tryd.prog w64 (Instr.storeAt 24 t5_53 t33_55) fun w66 =>
 opU Tryd.prog w66 (Instr.storeAt 24 t6_63 t35_65) fun w67 =>
 K8 [t5_53, t6_63] w67))) ∧
 (opW Tryd.prog w52 (Instr.alloc 24 true (.tuple #[])) fun t6_69 w68 =>
 Ext w52 w68 ∧
 oCall Tryd.prog Tryd.n_law01_lent #[t32] w68 fun t33_71 w70 =>
 Ext w68 w70 ∧
 oCall Tryd.prog Tryd.n_law01_lent #[t34] w70 fun t35_73 w72 =>
 opU Tryd.prog w72 (Instr.storeAt 24 t5_53 t33_71) fun w74 =>
 opU Tryd.prog w74 (Instr.storeAt 24 t6_69 t35_73) fun w75 =>
 K8 [t5_53, t6_69] w75))) ∧
 (opW Tryd.prog w6.drew (Instr.alloc 24 true (.tuple #[])) fun t6_77 w76 =>
 Ext w6.drew w76 ∧
 ((oCall Tryd.prog Tryd.n_law01_lent #[t32] w76 fun t33_79 w78 =>
 Ext w76 w78 ∧
 ((oCall Tryd.prog Tryd.n_law01_lent #[t34] w78 fun t35_81 w80 =>
 opW Tryd.prog w80 (Instr.alloc 24 true (.tuple #[])) fun t5_83 w82 =>
 Ext w80 w82 ∧
 opU Tryd.prog w82 (Instr.storeAt 24 t5_83 t33_79) fun w84 =>
 opU Tryd.prog w84 (Instr.storeAt 24 t6_77 t35_81) fun w85 =>
 K8 [t5_83, t6_77] w85) ∧
 (opW Tryd.prog w78 (Instr.alloc 24 true (.tuple #[])) fun t5_87 w86 =>
 Ext w78 w86 ∧
 oCall Tryd.prog Tryd.n_law01_lent #[t34] w86 fun t35_89 w88 =>
 opU Tryd.prog w88 (Instr.storeAt 24 t5_87 t33_79) fun w90 =>
 opU Tryd.prog w90 (Instr.storeAt 24 t6_77 t35_89) fun w91 =>
 K8 [t5_87, t6_77] w91))) ∧
 (opW Tryd.prog w76 (Instr.alloc 24 true (.tuple #[])) fun t5_93 w92 =>
 Ext w76 w92 ∧
 oCall Tryd.prog Tryd.n_law01_lent #[t32] w92 fun t33_95 w94 =>
 Ext w92 w94 ∧
 oCall Tryd.prog Tryd.n_law01_lent #[t34] w94 fun t35_97 w96 =>
 opU Tryd.prog w96 (Instr.storeAt 24 t5_93 t33_95) fun w98 =>
 opU Tryd.prog w98 (Instr.storeAt 24 t6_77 t35_97) fun w99 =>
 K8 [t5_93, t6_77] w99))))))) (fun s9 _d10 w11 =>
 sLoop [(Value.int .i64 0)] w11 (fun s101 _d102 w103 K100 =>
 opP Tryd.prog (bsem .lss 3 true (s101.getD 0 undef) (Value.int .i64 3)) fun t37 =>
 oCond t37 (opW Tryd.prog w103 (Instr.alloc 24 true (.tuple #[])) fun t8 w104 =>
 opW Tryd.prog w104 (Instr.alloc 24 true (.tuple #[])) fun t9 w105 =>
 sJoin (fun K106 =>
 opP Tryd.prog (bsem .eql 3 true (s101.getD 0 undef) (Value.int .i64 0)) fun t54 =>
 oCond t54 (opQ Tryd.prog w105 (Instr.loadAt 24 (s9.getD 0 undef)) fun t56 =>
 opQ Tryd.prog w105 (Instr.loadAt 24 (s9.getD 1 undef)) fun t57 =>
 oCall Tryd.prog Tryd.n_bits_Or #[t56, t57] w105 fun t58 w110 =>
 opP Tryd.prog (Instr.extract t58 0) fun t59 =>
 opP Tryd.prog (Instr.extract t58 1) fun t60 =>
 opU Tryd.prog w110 (Instr.storeAt 24 t8 t59) fun w111 =>
 opQ Tryd.prog w111 (Instr.loadAt 24 (s9.getD 0 undef)) fun t62 =>
 opQ Tryd.prog w111 (Instr.loadAt 24 (s9.getD 1 undef)) fun t63 =>
 oCall Tryd.prog Tryd.n_bits_Or #[t62, t63] w111 fun t64 w112 =>
 opP Tryd.prog (Instr.extract t64 0) fun t65 =>
 opP Tryd.prog (Instr.extract t64 1) fun t66 =>
 opU Tryd.prog w112 (Instr.storeAt 24 t9 t65) fun w113 =>
 K106 [t60, t66] w113) (opP Tryd.prog (bsem .eql 3 true (s101.getD 0 undef) (Value.int .i64 1)) fun t68 =>
 oCond t68 (opQ Tryd.prog w105 (Instr.loadAt 24 (s9.getD 0 undef)) fun t70 =>
 opQ Tryd.prog w105 (Instr.loadAt 24 (s9.getD 1 undef)) fun t71 =>
 oCall Tryd.prog Tryd.n_bits_And #[t70, t71] w105 fun t72 w114 =>
 opP Tryd.prog (Instr.extract t72 0) fun t73 =>
 opP Tryd.prog (Instr.extract t72 1) fun t74 =>
 opU Tryd.prog w114 (Instr.storeAt 24 t8 t73) fun w115 =>
 opQ Tryd.prog w115 (Instr.loadAt 24 (s9.getD 0 undef)) fun t76 =>
 opQ Tryd.prog w115 (Instr.loadAt 24 (s9.getD 1 undef)) fun t77 =>
 oCall Tryd.prog Tryd.n_bits_And #[t76, t77] w115 fun t78 w116 =>
 opP Tryd.prog (Instr.extract t78 0) fun t79 =>
 opP Tryd.prog (Instr.extract t78 1) fun t80 =>
 opU Tryd.prog w116 (Instr.storeAt 24 t9 t79) fun w117 =>
 K106 [t74, t80] w117) (opQ Tryd.prog w105 (Instr.loadAt 24 (s9.getD 0 undef)) fun t42 =>
 opQ Tryd.prog w105 (Instr.loadAt 24 (s9.getD 1 undef)) fun t43 =>
 oCall Tryd.prog Tryd.n_bits_Less #[t42, t43] w105 fun t44 w118 =>
 opP Tryd.prog (Instr.extract t44 0) fun t45 =>
 opP Tryd.prog (Instr.extract t44 1) fun t46 =>
 opU Tryd.prog w118 (Instr.storeAt 24 t8 t45) fun w119 =>
 opQ Tryd.prog w119 (Instr.loadAt 24 (s9.getD 0 undef)) fun t48 =>
 opQ Tryd.prog w119 (Instr.loadAt 24 (s9.getD 1 undef)) fun t49 =>
 oCall Tryd.prog Tryd.n_bits_Less #[t48, t49] w119 fun t50 w120 =>
 opP Tryd.prog (Instr.extract t50 0) fun t51 =>
 opP Tryd.prog (Instr.extract t50 1) fun t52 =>
 opU Tryd.prog w120 (Instr.storeAt 24 t9 t51) fun w121 =>
 K106 [t46, t52] w121))) (fun s107 _d108 w109 =>
 opQ Tryd.prog w109 (Instr.loadAt 24 t2) fun t82 =>
 opQ Tryd.prog w109 (Instr.loadAt 24 t3) fun t83 =>
 oCall Tryd.prog Tryd.n_ref01_Join #[t82, t83, (s101.getD 0 undef)] w109 fun t85 w122 =>
 opP Tryd.prog (Instr.extract t85 0) fun t86 =>
 opP Tryd.prog (Instr.extract t85 1) fun t87 =>
 opW Tryd.prog w122 (Instr.alloc 24 true (.tuple #[])) fun t12 w123 =>
 opU Tryd.prog w123 (Instr.storeAt 24 t12 t86) fun w124 =>
 opP Tryd.prog (bsem .neq 3 false (s107.getD 0 undef) t87) fun t90 =>
 sJoin (fun K125 => gIf t90 false (opP Tryd.prog (bsem .neq 27 false (s107.getD 1 undef) (s107.getD 0 undef)) fun t94 =>
 K125 [t94] w124) (K125 [undef] w124)) (fun s126 _d127 w128 =>
 oPick t90 (Value.bool true) (s126.getD 0 undef) fun t95 =>
 sJoin (fun K129 => gIf t95 false (opQ Tryd.prog w128 (Instr.loadAt 24 t8) fun t97 =>
 opQ Tryd.prog w128 (Instr.loadAt 24 t9) fun t98 =>
 opQ Tryd.prog w128 (Instr.loadAt 24 t12) fun t99 =>
 oCall Tryd.prog Tryd.n_law01_held #[t97, t98, t99] w128 fun t100 w133 =>
 opP Tryd.prog (Op.unary .not t100) fun t101 =>
 K129 [t101] w133) (K129 [undef] w128)) (fun s130 _d131 w132 =>
 oPick t95 (Value.bool true) (s130.getD 0 undef) fun t102 =>
 oCond t102 (K (Value.bool false) w132) (opP Tryd.prog (bsem .add 3 true (s101.getD 0 undef) (Value.int .i64 1)) fun t39 =>
 K100 [t39] w132))))) (opQ Tryd.prog w103 (Instr.loadAt 24 (s9.getD 0 undef)) fun t104 =>
 opQ Tryd.prog w103 (Instr.loadAt 24 (s9.getD 1 undef)) fun t105 =>
 oCall Tryd.prog Tryd.n_bits_Has #[t104, t105] w103 fun t106 w134 =>
 opP Tryd.prog (Instr.extract t106 0) fun t107 =>
 opP Tryd.prog (Instr.extract t106 1) fun t108 =>
 opQ Tryd.prog w134 (Instr.loadAt 24 (s9.getD 0 undef)) fun t110 =>
 opQ Tryd.prog w134 (Instr.loadAt 24 (s9.getD 1 undef)) fun t111 =>
 oCall Tryd.prog Tryd.n_bits_First #[t110, t111] w134 fun t112 w135 =>
 opP Tryd.prog (Instr.extract t112 0) fun t113 =>
 opP Tryd.prog (Instr.extract t112 1) fun t114 =>
 opP Tryd.prog (Instr.extract t112 2) fun t115 =>
 opQ Tryd.prog w135 (Instr.loadAt 24 t2) fun t116 =>
 opQ Tryd.prog w135 (Instr.loadAt 24 t3) fun t117 =>
 oCall Tryd.prog Tryd.n_ref01_Both #[t116, t117] w135 fun t118 w136 =>
 opP Tryd.prog (Op.unary .not t118) fun t119 =>
 oCond t119 (opP Tryd.prog (Op.unary .not t107) fun t121 =>
 sJoin (fun K137 => gIf t121 true (opP Tryd.prog (bsem .eql 3 true t113 (Value.int .i64 0)) fun t124 =>
 K137 [t124] w136) (K137 [undef] w136)) (fun s138 _d139 w140 =>
 oPick t121 (s138.getD 0 undef) (Value.bool false) fun t125 =>
 sJoin (fun K141 => gIf t125 true (opP Tryd.prog (Op.unary .not t114) fun t128 =>
 K141 [t128] w140) (K141 [undef] w140)) (fun s142 _d143 w144 =>
 oPick t125 (s142.getD 0 undef) (Value.bool false) fun t129 =>
 sJoin (fun K145 => gIf t129 true (opP Tryd.prog (bsem .eql 27 true t108 (Value.int .i64 2)) fun t132 =>
 K145 [t132] w144) (K145 [undef] w144)) (fun s146 _d147 w148 =>
 oPick t129 (s146.getD 0 undef) (Value.bool false) fun t133 =>
 sJoin (fun K149 => gIf t133 true (opP Tryd.prog (bsem .eql 27 true t115 (Value.int .i64 2)) fun t136 =>
 K149 [t136] w148) (K149 [undef] w148)) (fun s150 _d151 w152 =>
 oPick t133 (s150.getD 0 undef) (Value.bool false) fun t137 =>
 sJoin (fun K153 => gIf t137 true (opQ Tryd.prog w152 (Instr.loadAt 24 (s9.getD 0 undef)) fun t139 =>
 opQ Tryd.prog w152 (Instr.loadAt 24 t2) fun t140 =>
 oCall Tryd.prog Tryd.n_law01_kept #[t139, t140] w152 fun t141 w157 =>
 K153 [t141] w157) (K153 [undef] w152)) (fun s154 _d155 w156 =>
 oPick t137 (s154.getD 0 undef) (Value.bool false) fun t142 =>
 sJoin (fun K158 => gIf t142 true (opQ Tryd.prog w156 (Instr.loadAt 24 (s9.getD 1 undef)) fun t144 =>
 opQ Tryd.prog w156 (Instr.loadAt 24 t3) fun t145 =>
 oCall Tryd.prog Tryd.n_law01_kept #[t144, t145] w156 fun t146 w162 =>
 K158 [t146] w162) (K158 [undef] w156)) (fun s159 _d160 w161 =>
 oPick t142 (s159.getD 0 undef) (Value.bool false) fun t147 =>
 sJoin (fun K163 => gIf t147 true (oCall Tryd.prog Tryd.n_law01_awake #[] w161 fun t149 w167 =>
 K163 [t149] w167) (K163 [undef] w161)) (fun s164 _d165 w166 =>
 oPick t147 (s164.getD 0 undef) (Value.bool false) fun t150 =>
 K t150 w166)))))))) (opQ Tryd.prog w136 (Instr.loadAt 24 t2) fun t152 =>
 opQ Tryd.prog w136 (Instr.loadAt 24 t3) fun t153 =>
 oCall Tryd.prog Tryd.n_ref01_First #[t152, t153] w136 fun t154 w168 =>
 opP Tryd.prog (Instr.extract t154 0) fun t155 =>
 opP Tryd.prog (Instr.extract t154 1) fun t156 =>
 opP Tryd.prog (bsem .eql 27 true t108 (Value.int .i64 0)) fun t158 =>
 sJoin (fun K169 => gIf t158 true (opP Tryd.prog (bsem .eql 27 true t115 (Value.int .i64 0)) fun t161 =>
 K169 [t161] w168) (K169 [undef] w168)) (fun s170 _d171 w172 =>
 oPick t158 (s170.getD 0 undef) (Value.bool false) fun t162 =>
 sJoin (fun K173 => gIf t162 true (opP Tryd.prog (Op.unary .not t156) fun t166 =>
 opP Tryd.prog (bsem .eql 4 false t107 t166) fun t167 =>
 K173 [t167] w172) (K173 [undef] w172)) (fun s174 _d175 w176 =>
 oPick t162 (s174.getD 0 undef) (Value.bool false) fun t168 =>
 sJoin (fun K177 => gIf t168 true (opP Tryd.prog (bsem .eql 3 false t113 t155) fun t172 =>
 K177 [t172] w176) (K177 [undef] w176)) (fun s178 _d179 w180 =>
 oPick t168 (s178.getD 0 undef) (Value.bool false) fun t173 =>
 sJoin (fun K181 => gIf t173 true (opP Tryd.prog (bsem .eql 4 false t114 t156) fun t177 =>
 K181 [t177] w180) (K181 [undef] w180)) (fun s182 _d183 w184 =>
 oPick t173 (s182.getD 0 undef) (Value.bool false) fun t178 =>
 sJoin (fun K185 => gIf t178 true (opQ Tryd.prog w184 (Instr.loadAt 24 (s9.getD 0 undef)) fun t180 =>
 opQ Tryd.prog w184 (Instr.loadAt 24 t2) fun t181 =>
 oCall Tryd.prog Tryd.n_law01_kept #[t180, t181] w184 fun t182 w189 =>
 K185 [t182] w189) (K185 [undef] w184)) (fun s186 _d187 w188 =>
 oPick t178 (s186.getD 0 undef) (Value.bool false) fun t183 =>
 sJoin (fun K190 => gIf t183 true (opQ Tryd.prog w188 (Instr.loadAt 24 (s9.getD 1 undef)) fun t185 =>
 opQ Tryd.prog w188 (Instr.loadAt 24 t3) fun t186 =>
 oCall Tryd.prog Tryd.n_law01_kept #[t185, t186] w188 fun t187 w194 =>
 K190 [t187] w194) (K190 [undef] w188)) (fun s191 _d192 w193 =>
 oPick t183 (s191.getD 0 undef) (Value.bool false) fun t188 =>
 sJoin (fun K195 => gIf t188 true (oCall Tryd.prog Tryd.n_law01_awake #[] w193 fun t190 w199 =>
 K195 [t190] w199) (K195 [undef] w193)) (fun s196 _d197 w198 =>
 oPick t188 (s196.getD 0 undef) (Value.bool false) fun t191 =>
 K t191 w198)))))))))))))
theorem Tryd.E_law01_BitsJoin (t0 t1 : Value) (w : World) (K : Value → World → Prop) : sw ⟨false, false⟩ Tryd.prog (fun _ _ => False) Tryd.A_law01_BitsJoin (bodyOf Tryd.f7) [t0, t1, undef, undef, undef, undef, undef, undef, undef, undef, undef, undef, undef, undef, undef, undef, undef, undef, undef, undef, undef, undef, undef, undef, undef, undef, undef, undef, undef, undef, undef, undef, undef, undef, undef, undef, undef, undef, undef, undef, undef, undef, undef, undef, undef, undef, undef, undef, undef, undef, undef, undef, undef, undef, undef, undef, undef, undef, undef, undef, undef, undef, undef, undef, undef, undef, undef, undef, undef, undef, undef, undef, undef, undef, undef, undef, undef, undef, undef, undef, undef, undef, undef, undef, undef, undef, undef, undef, undef, undef, undef, undef, undef, undef, undef, undef, undef, undef, undef, undef, undef, undef, undef, undef, undef, undef, undef, undef, undef, undef, undef, undef, undef, undef, undef, undef, undef, undef, undef, undef, undef, undef, undef, undef, undef, undef, undef, undef, undef, undef, undef, undef, undef, undef, undef, undef, undef, undef, undef, undef, undef, undef, undef, undef, undef, undef, undef, undef, undef, undef, undef, undef, undef, undef, undef, undef, undef, undef, undef, undef, undef, undef, undef, undef, undef, undef, undef, undef, undef, undef, undef, undef, undef, undef, undef, undef, undef, undef, undef, undef, undef, undef, undef, undef, undef, undef, undef, undef, undef, undef, undef, undef] w (topQ false Tryd.prog Tryd.f7 w K) = Tryd.F_law01_BitsJoin t0 t1 w K := by kernel_rfl
theorem Tryd.C_law01_BitsJoin : chk ⟨false, false⟩ Tryd.prog false Tryd.A_law01_BitsJoin (bodyOf Tryd.f7) = true := by kernel_rfl
theorem Tryd.ok_law01_BitsJoin {t0 t1 : Value} {w : World} {K : Value → World → Prop} (h : Tryd.F_law01_BitsJoin t0 t1 w K) : oCall Tryd.prog Tryd.n_law01_BitsJoin #[t0, t1] w K :=
  calls_of_sw (cf := ⟨false, false⟩) Tryd.mixed Tryd.func7 rfl Tryd.C_law01_BitsJoin ((Tryd.E_law01_BitsJoin t0 t1 w K).mpr h)

/- 8: loanword/loanwordlaw01.BitsLattice -/
def Tryd.A_law01_BitsLattice : Ann := .s (.r (.op 0 .l (.op 1 .l (.op 2 .l (.op 3 .p (.nil)))))) (.s (.s (.r (.op 0 .q (.op 1 .l (.op 2 .p (.op 3 .p (.grp 26 false [(4, .q), (5, .l), (6, .p)] [29] (.op 7 .p (.op 8 .p (.grp 31 false [(9, .q), (10, .l), (11, .p)] [34] (.op 12 .p (.op 13 .p (.grp 36 false [(14, .p), (15, .q), (16, .p), (17, .q), (18, .p)] [41] (.op 19 .p (.op 20 .p (.grp 43 false [(21, .p), (22, .q), (23, .p), (24, .q), (25, .p)] [48] (.op 26 .p (.nil))))))))))))))))) (.c (.s (.r (.op 0 .l (.op 1 .p (.nil)))) (.n)) (.n))) (.s (.r (.op 0 .q (.op 1 .q (.op 2 .l (.op 3 .p (.op 4 .p (.op 5 .p (.op 6 .l (.op 7 .l (.op 8 .p (.nil))))))))))) (.s (.r (.op 0 .q (.op 1 .q (.op 2 .l (.op 3 .p (.op 4 .p (.op 5 .p (.op 6 .l (.op 7 .l (.op 8 .p (.nil))))))))))) (.s (.s (.r (.op 0 .q (.op 1 .q (.op 2 .p (.op 3 .p (.op 4 .l (.op 5 .p (.nil)))))))) (.c (.s (.r (.op 0 .p (.nil))) (.n)) (.n))) (.s (.r (.op 0 .q (.op 1 .q (.op 2 .l (.op 3 .p (.op 4 .p (.op 5 .p (.op 6 .l (.op 7 .l (.op 8 .p (.nil))))))))))) (.s (.r (.op 0 .q (.op 1 .q (.op 2 .l (.op 3 .p (.op 4 .p (.op 5 .p (.op 6 .l (.op 7 .l (.op 8 .p (.nil))))))))))) (.s (.r (.op 0 .q (.op 1 .q (.op 2 .l (.op 3 .p (.op 4 .p (.op 5 .p (.op 6 .l (.op 7 .l (.op 8 .p (.nil))))))))))) (.s (.s (.r (.op 0 .p (.op 1 .p (.op 2 .p (.grp 89 false [(3, .q), (4, .q), (5, .p), (6, .p), (7, .l), (8, .p)] [95] (.op 9 .p (.nil))))))) (.c (.s (.r (.op 0 .p (.nil))) (.n)) (.n))) (.s (.r (.op 0 .q (.op 1 .q (.op 2 .l (.op 3 .p (.op 4 .p (.op 5 .p (.op 6 .l (.op 7 .l (.op 8 .p (.nil))))))))))) (.s (.r (.op 0 .q (.op 1 .q (.op 2 .l (.op 3 .p (.op 4 .p (.op 5 .p (.op 6 .l (.op 7 .l (.op 8 .p (.nil))))))))))) (.s (.s (.r (.op 0 .q (.op 1 .q (.op 2 .p (.op 3 .p (.op 4 .l (.op 5 .p (.nil)))))))) (.c (.s (.r (.op 0 .p (.nil))) (.n)) (.n))) (.s (.r (.op 0 .q (.op 1 .q (.op 2 .l (.op 3 .p (.op 4 .p (.op 5 .p (.op 6 .l (.op 7 .p (.nil)))))))))) (.s (.r (.op 0 .q (.op 1 .q (.op 2 .l (.op 3 .p (.op 4 .p (.op 5 .p (.op 6 .l (.op 7 .p (.nil)))))))))) (.s (.r (.op 0 .q (.op 1 .q (.op 2 .l (.op 3 .p (.op 4 .p (.op 5 .p (.op 6 .l (.op 7 .p (.nil)))))))))) (.s (.s (.r (.op 0 .p (.op 1 .p (.op 2 .p (.grp 135 false [(3, .q), (4, .q), (5, .p), (6, .p), (7, .l), (8, .p)] [141] (.op 9 .p (.nil))))))) (.c (.s (.r (.op 0 .p (.nil))) (.n)) (.n))) (.s (.r (.op 0 .q (.op 1 .q (.op 2 .l (.op 3 .p (.op 4 .p (.op 5 .p (.op 6 .l (.op 7 .p (.nil)))))))))) (.s (.r (.op 0 .q (.op 1 .q (.op 2 .l (.op 3 .p (.op 4 .p (.op 5 .p (.op 6 .l (.op 7 .p (.nil)))))))))) (.s (.s (.r (.op 0 .q (.op 1 .q (.op 2 .p (.op 3 .p (.op 4 .l (.op 5 .p (.op 6 .p (.grp 161 false [(7, .q), (8, .q), (9, .p), (10, .p), (11, .l), (12, .p)] [167] (.op 13 .p (.nil))))))))))) (.c (.s (.r (.op 0 .p (.nil))) (.n)) (.n))) (.s (.r (.op 0 .q (.op 1 .q (.op 2 .l (.op 3 .p (.op 4 .p (.op 5 .p (.op 6 .l (.op 7 .p (.nil)))))))))) (.s (.r (.op 0 .q (.op 1 .q (.op 2 .l (.op 3 .p (.op 4 .p (.op 5 .p (.op 6 .l (.op 7 .l (.op 8 .p (.nil))))))))))) (.s (.r (.op 0 .q (.op 1 .q (.op 2 .l (.op 3 .p (.op 4 .p (.op 5 .p (.op 6 .l (.op 7 .p (.nil)))))))))) (.s (.s (.r (.op 0 .p (.op 1 .p (.op 2 .p (.grp 189 false [(3, .q), (4, .q), (5, .p), (6, .p), (7, .l), (8, .p)] [195] (.op 9 .p (.nil))))))) (.c (.s (.r (.op 0 .p (.nil))) (.n)) (.n))) (.s (.r (.op 0 .q (.op 1 .q (.op 2 .l (.op 3 .p (.op 4 .p (.op 5 .p (.op 6 .l (.op 7 .p (.nil)))))))))) (.s (.r (.op 0 .q (.op 1 .q (.op 2 .l (.op 3 .p (.op 4 .p (.op 5 .p (.op 6 .l (.op 7 .p (.nil)))))))))) (.s (.s (.r (.op 0 .q (.op 1 .q (.op 2 .p (.op 3 .p (.op 4 .l (.op 5 .p (.op 6 .p (.grp 215 false [(7, .q), (8, .q), (9, .p), (10, .p), (11, .l), (12, .p)] [221] (.op 13 .p (.nil))))))))))) (.c (.s (.r (.op 0 .p (.nil))) (.n)) (.n))) (.s (.r (.op 0 .q (.op 1 .q (.op 2 .l (.op 3 .p (.op 4 .p (.op 5 .p (.op 6 .p (.op 7 .p (.nil)))))))))) (.s (.r (.op 0 .q (.op 1 .q (.op 2 .l (.op 3 .p (.op 4 .p (.op 5 .p (.op 6 .l (.op 7 .l (.op 8 .p (.nil))))))))))) (.s (.r (.op 0 .q (.op 1 .q (.op 2 .l (.op 3 .p (.op 4 .p (.op 5 .p (.op 6 .p (.op 7 .p (.op 8 .p (.op 9 .p (.nil)))))))))))) (.s (.r (.op 0 .q (.op 2 .q (.op 1 .u (.op 3 .l (.op 4 .p (.op 5 .p (.nil)))))))) (.s (.r (.op 0 .p (.op 1 .p (.op 2 .p (.grp 249 true [(3, .p), (4, .p)] [251] (.op 5 .p (.op 6 .p (.grp 253 true [(7, .p), (8, .p)] [255] (.op 9 .p (.op 10 .p (.grp 257 true [(11, .p), (12, .q), (13, .q), (14, .p), (15, .p), (16, .l), (17, .p)] [264] (.op 18 .p (.op 19 .p (.grp 266 true [(20, .p), (21, .q), (22, .l), (23, .p), (24, .p)] [271] (.op 25 .p (.op 26 .p (.grp 273 true [(27, .p), (28, .p), (29, .p), (30, .p)] [277] (.op 31 .p (.op 32 .p (.grp 279 true [(33, .q), (35, .q), (38, .p), (34, .u), (36, .l), (37, .p), (39, .p)] [286] (.op 40 .p (.op 41 .p (.grp 288 true [(42, .l)] [289] (.op 43 .p (.op 44 .p (.nil)))))))))))))))))))))))))) (.n)))))))))))))))))))))))))))))))
def Tryd.F_law01_BitsLattice (t0 : Value) (t1 : Value) (t2 : Value) (w : World) (K : Value → World → Prop) : Prop :=
 opW Tryd.prog w (Instr.box 24 t0) fun t3 w1 =>
 opW Tryd.prog w1 (Instr.box 24 t1) fun t4 w2 =>
 opW Tryd.prog w2 (Instr.box 24 t2) fun t5 w3 =>
 opQ Tryd.prog w3 (Instr.loadAt 24 t3) fun t23 =>
 oCall Tryd.prog Tryd.n_bits_May #[t23] w3 fun t24 w4 =>
 opP Tryd.prog (Op.unary .not t24) fun t25 =>
 sJoin (fun K5 => gIf t25 false (opQ Tryd.prog w4 (Instr.loadAt 24 t4) fun t27 =>
 oCall Tryd.prog Tryd.n_bits_May #[t27] w4 fun t28 w9 =>
 opP Tryd.prog (Op.unary .not t28) fun t29 =>
 K5 [t29] w9) (K5 [undef] w4)) (fun s6 _d7 w8 =>
 oPick t25 (Value.bool true) (s6.getD 0 undef) fun t30 =>
 sJoin (fun K10 => gIf t30 false (opQ Tryd.prog w8 (Instr.loadAt 24 t5) fun t32 =>
 oCall Tryd.prog Tryd.n_bits_May #[t32] w8 fun t33 w14 =>
 opP Tryd.prog (Op.unary .not t33) fun t34 =>
 K10 [t34] w14) (K10 [undef] w8)) (fun s11 _d12 w13 =>
 oPick t30 (Value.bool true) (s11.getD 0 undef) fun t35 =>
 sJoin (fun K15 => gIf t35 false (opP Tryd.prog (Instr.fieldAt 24 t3 0) fun t37 =>
 opQ Tryd.prog w13 (Instr.loadAt 3 t37) fun t38 =>
 opP Tryd.prog (Instr.fieldAt 24 t4 0) fun t39 =>
 opQ Tryd.prog w13 (Instr.loadAt 3 t39) fun t40 =>
 opP Tryd.prog (bsem .neq 3 false t38 t40) fun t41 =>
 K15 [t41] w13) (K15 [undef] w13)) (fun s16 _d17 w18 =>
 oPick t35 (Value.bool true) (s16.getD 0 undef) fun t42 =>
 sJoin (fun K19 => gIf t42 false (opP Tryd.prog (Instr.fieldAt 24 t3 0) fun t44 =>
 opQ Tryd.prog w18 (Instr.loadAt 3 t44) fun t45 =>
 opP Tryd.prog (Instr.fieldAt 24 t5 0) fun t46 =>
 opQ Tryd.prog w18 (Instr.loadAt 3 t46) fun t47 =>
 opP Tryd.prog (bsem .neq 3 false t45 t47) fun t48 =>
 K19 [t48] w18) (K19 [undef] w18)) (fun s20 _d21 w22 =>
 oPick t42 (Value.bool true) (s20.getD 0 undef) fun t49 =>
 oCond t49 (oCall Tryd.prog Tryd.n_law01_awake #[] w22 fun t50 w23 =>
 K t50 w23) (opQ Tryd.prog w22 (Instr.loadAt 24 t3) fun t52 =>
 opQ Tryd.prog w22 (Instr.loadAt 24 t4) fun t53 =>
 oCall Tryd.prog Tryd.n_bits_Or #[t52, t53] w22 fun t54 w24 =>
 opP Tryd.prog (Instr.extract t54 0) fun t55 =>
 opP Tryd.prog (Instr.extract t54 1) fun t56 =>
 opW Tryd.prog w24 (Instr.alloc 24 true (.tuple #[])) fun t7 w25 =>
 opU Tryd.prog w25 (Instr.storeAt 24 t7 t55) fun w26 =>
 opQ Tryd.prog w26 (Instr.loadAt 24 t4) fun t58 =>
 opQ Tryd.prog w26 (Instr.loadAt 24 t3) fun t59 =>
 oCall Tryd.prog Tryd.n_bits_Or #[t58, t59] w26 fun t60 w27 =>
 opP Tryd.prog (Instr.extract t60 0) fun t61 =>
 opP Tryd.prog (Instr.extract t60 1) fun t62 =>
 opW Tryd.prog w27 (Instr.alloc 24 true (.tuple #[])) fun t9 w28 =>
 opU Tryd.prog w28 (Instr.storeAt 24 t9 t61) fun w29 =>
 opQ Tryd.prog w29 (Instr.loadAt 24 t7) fun t63 =>
 opQ Tryd.prog w29 (Instr.loadAt 24 t9) fun t64 =>
 oCall Tryd.prog Tryd.n_law01_same #[t63, t64, t56, t62] w29 fun t67 w30 =>
 opP Tryd.prog (Op.unary .not t67) fun t68 =>
 oCond t68 (K (Value.bool false) w30) (opQ Tryd.prog w30 (Instr.loadAt 24 t7) fun t70 =>
 opQ Tryd.prog w30 (Instr.loadAt 24 t5) fun t71 =>
 oCall Tryd.prog Tryd.n_bits_Or #[t70, t71] w30 fun t72 w31 =>
 opP Tryd.prog (Instr.extract t72 0) fun t73 =>
 opP Tryd.prog (Instr.extract t72 1) fun t74 =>
 opW Tryd.prog w31 (Instr.alloc 24 true (.tuple #[])) fun t11 w32 =>
 opU Tryd.prog w32 (Instr.storeAt 24 t11 t73) fun w33 =>
 opQ Tryd.prog w33 (Instr.loadAt 24 t4) fun t76 =>
 opQ Tryd.prog w33 (Instr.loadAt 24 t5) fun t77 =>
 oCall Tryd.prog Tryd.n_bits_Or #[t76, t77] w33 fun t78 w34 =>
 opP Tryd.prog (Instr.extract t78 0) fun t79 =>
 opP Tryd.prog (Instr.extract t78 1) fun t80 =>
 opW Tryd.prog w34 (Instr.alloc 24 true (.tuple #[])) fun t12 w35 =>
 opU Tryd.prog w35 (Instr.storeAt 24 t12 t79) fun w36 =>
 opQ Tryd.prog w36 (Instr.loadAt 24 t3) fun t82 =>
 opQ Tryd.prog w36 (Instr.loadAt 24 t12) fun t83 =>
 oCall Tryd.prog Tryd.n_bits_Or #[t82, t83] w36 fun t84 w37 =>
 opP Tryd.prog (Instr.extract t84 0) fun t85 =>
 opP Tryd.prog (Instr.extract t84 1) fun t86 =>
 opW Tryd.prog w37 (Instr.alloc 24 true (.tuple #[])) fun t14 w38 =>
 opU Tryd.prog w38 (Instr.storeAt 24 t14 t85) fun w39 =>
 opP Tryd.prog (bsem .neq 27 true t80 (Value.int .i64 0)) fun t88 =>
 sJoin (fun K40 => gIf t88 false (opQ Tryd.prog w39 (Instr.loadAt 24 t11) fun t90 =>
 opQ Tryd.prog w39 (Instr.loadAt 24 t14) fun t91 =>
 oCall Tryd.prog Tryd.n_law01_same #[t90, t91, t74, t86] w39 fun t94 w44 =>
 opP Tryd.prog (Op.unary .not t94) fun t95 =>
 K40 [t95] w44) (K40 [undef] w39)) (fun s41 _d42 w43 =>
 oPick t88 (Value.bool true) (s41.getD 0 undef) fun t96 =>
 oCond t96 (K (Value.bool false) w43) (opQ Tryd.prog w43 (Instr.loadAt 24 t3) fun t98 =>
 opQ Tryd.prog w43 (Instr.loadAt 24 t4) fun t99 =>
 oCall Tryd.prog Tryd.n_bits_And #[t98, t99] w43 fun t100 w45 =>
 opP Tryd.prog (Instr.extract t100 0) fun t101 =>
 opP Tryd.prog (Instr.extract t100 1) fun t102 =>
 opW Tryd.prog w45 (Instr.alloc 24 true (.tuple #[])) fun t15 w46 =>
 opU Tryd.prog w46 (Instr.storeAt 24 t15 t101) fun w47 =>
 opQ Tryd.prog w47 (Instr.loadAt 24 t4) fun t104 =>
 opQ Tryd.prog w47 (Instr.loadAt 24 t3) fun t105 =>
 oCall Tryd.prog Tryd.n_bits_And #[t104, t105] w47 fun t106 w48 =>
 opP Tryd.prog (Instr.extract t106 0) fun t107 =>
 opP Tryd.prog (Instr.extract t106 1) fun t108 =>
 opW Tryd.prog w48 (Instr.alloc 24 true (.tuple #[])) fun t16 w49 =>
 opU Tryd.prog w49 (Instr.storeAt 24 t16 t107) fun w50 =>
 opQ Tryd.prog w50 (Instr.loadAt 24 t15) fun t109 =>
 opQ Tryd.prog w50 (Instr.loadAt 24 t16) fun t110 =>
 oCall Tryd.prog Tryd.n_law01_same #[t109, t110, t102, t108] w50 fun t113 w51 =>
 opP Tryd.prog (Op.unary .not t113) fun t114 =>
 oCond t114 (K (Value.bool false) w51) (opQ Tryd.prog w51 (Instr.loadAt 24 t15) fun t116 =>
 opQ Tryd.prog w51 (Instr.loadAt 24 t5) fun t117 =>
 oCall Tryd.prog Tryd.n_bits_And #[t116, t117] w51 fun t118 w52 =>
 opP Tryd.prog (Instr.extract t118 0) fun t119 =>
 opP Tryd.prog (Instr.extract t118 1) fun t120 =>
 opU Tryd.prog w52 (Instr.storeAt 24 t11 t119) fun w53 =>
 opQ Tryd.prog w53 (Instr.loadAt 24 t4) fun t122 =>
 opQ Tryd.prog w53 (Instr.loadAt 24 t5) fun t123 =>
 oCall Tryd.prog Tryd.n_bits_And #[t122, t123] w53 fun t124 w54 =>
 opP Tryd.prog (Instr.extract t124 0) fun t125 =>
 opP Tryd.prog (Instr.extract t124 1) fun t126 =>
 opU Tryd.prog w54 (Instr.storeAt 24 t16 t125) fun w55 =>
 opQ Tryd.prog w55 (Instr.loadAt 24 t3) fun t128 =>
 opQ Tryd.prog w55 (Instr.loadAt 24 t16) fun t129 =>
 oCall Tryd.prog Tryd.n_bits_And #[t128, t129] w55 fun t130 w56 =>
 opP Tryd.prog (Instr.extract t130 0) fun t131 =>
 opP Tryd.prog (Instr.extract t130 1) fun t132 =>
 opU Tryd.prog w56 (Instr.storeAt 24 t14 t131) fun w57 =>
 opP Tryd.prog (bsem .neq 27 true t126 (Value.int .i64 0)) fun t134 =>
 sJoin (fun K58 => gIf t134 false (opQ Tryd.prog w57 (Instr.loadAt 24 t11) fun t136 =>
 opQ Tryd.prog w57 (Instr.loadAt 24 t14) fun t137 =>
 oCall Tryd.prog Tryd.n_law01_same #[t136, t137, t120, t132] w57 fun t140 w62 =>
 opP Tryd.prog (Op.unary .not t140) fun t141 =>
 K58 [t141] w62) (K58 [undef] w57)) (fun s59 _d60 w61 =>
 oPick t134 (Value.bool true) (s59.getD 0 undef) fun t142 =>
 oCond t142 (K (Value.bool false) w61) (opQ Tryd.prog w61 (Instr.loadAt 24 t3) fun t144 =>
 opQ Tryd.prog w61 (Instr.loadAt 24 t7) fun t145 =>
 oCall Tryd.prog Tryd.n_bits_And #[t144, t145] w61 fun t146 w63 =>
 opP Tryd.prog (Instr.extract t146 0) fun t147 =>
 opP Tryd.prog (Instr.extract t146 1) fun t148 =>
 opU Tryd.prog w63 (Instr.storeAt 24 t11 t147) fun w64 =>
 opQ Tryd.prog w64 (Instr.loadAt 24 t3) fun t150 =>
 opQ Tryd.prog w64 (Instr.loadAt 24 t15) fun t151 =>
 oCall Tryd.prog Tryd.n_bits_Or #[t150, t151] w64 fun t152 w65 =>
 opP Tryd.prog (Instr.extract t152 0) fun t153 =>
 opP Tryd.prog (Instr.extract t152 1) fun t154 =>
 opU Tryd.prog w65 (Instr.storeAt 24 t14 t153) fun w66 =>
 opQ Tryd.prog w66 (Instr.loadAt 24 t11) fun t155 =>
 opQ Tryd.prog w66 (Instr.loadAt 24 t3) fun t156 =>
 oCall Tryd.prog Tryd.n_law01_same #[t155, t156, t148, t154] w66 fun t159 w67 =>
 opP Tryd.prog (Op.unary .not t159) fun t160 =>
 sJoin (fun K68 => gIf t160 false (opQ Tryd.prog w67 (Instr.loadAt 24 t14) fun t162 =>
 opQ Tryd.prog w67 (Instr.loadAt 24 t3) fun t163 =>
 oCall Tryd.prog Tryd.n_law01_same #[t162, t163, t148, t154] w67 fun t166 w72 =>
 opP Tryd.prog (Op.unary .not t166) fun t167 =>
 K68 [t167] w72) (K68 [undef] w67)) (fun s69 _d70 w71 =>
 oPick t160 (Value.bool true) (s69.getD 0 undef) fun t168 =>
 oCond t168 (K (Value.bool false) w71) (opQ Tryd.prog w71 (Instr.loadAt 24 t3) fun t170 =>
 opQ Tryd.prog w71 (Instr.loadAt 24 t12) fun t171 =>
 oCall Tryd.prog Tryd.n_bits_And #[t170, t171] w71 fun t172 w73 =>
 opP Tryd.prog (Instr.extract t172 0) fun t173 =>
 opP Tryd.prog (Instr.extract t172 1) fun t174 =>
 opU Tryd.prog w73 (Instr.storeAt 24 t11 t173) fun w74 =>
 opQ Tryd.prog w74 (Instr.loadAt 24 t3) fun t176 =>
 opQ Tryd.prog w74 (Instr.loadAt 24 t5) fun t177 =>
 oCall Tryd.prog Tryd.n_bits_And #[t176, t177] w74 fun t178 w75 =>
 opP Tryd.prog (Instr.extract t178 0) fun t179 =>
 opP Tryd.prog (Instr.extract t178 1) fun t180 =>
 opW Tryd.prog w75 (Instr.alloc 24 true (.tuple #[])) fun t17 w76 =>
 opU Tryd.prog w76 (Instr.storeAt 24 t17 t179) fun w77 =>
 opQ Tryd.prog w77 (Instr.loadAt 24 t15) fun t182 =>
 opQ Tryd.prog w77 (Instr.loadAt 24 t17) fun t183 =>
 oCall Tryd.prog Tryd.n_bits_Or #[t182, t183] w77 fun t184 w78 =>
 opP Tryd.prog (Instr.extract t184 0) fun t185 =>
 opP Tryd.prog (Instr.extract t184 1) fun t186 =>
 opU Tryd.prog w78 (Instr.storeAt 24 t14 t185) fun w79 =>
 opP Tryd.prog (bsem .neq 27 true t180 (Value.int .i64 0)) fun t188 =>
 sJoin (fun K80 => gIf t188 false (opQ Tryd.prog w79 (Instr.loadAt 24 t11) fun t190 =>
 opQ Tryd.prog w79 (Instr.loadAt 24 t14) fun t191 =>
 oCall Tryd.prog Tryd.n_law01_same #[t190, t191, t174, t186] w79 fun t194 w84 =>
 opP Tryd.prog (Op.unary .not t194) fun t195 =>
 K80 [t195] w84) (K80 [undef] w79)) (fun s81 _d82 w83 =>
 oPick t188 (Value.bool true) (s81.getD 0 undef) fun t196 =>
 oCond t196 (K (Value.bool false) w83) (opQ Tryd.prog w83 (Instr.loadAt 24 t3) fun t198 =>
 opQ Tryd.prog w83 (Instr.loadAt 24 t3) fun t199 =>
 oCall Tryd.prog Tryd.n_bits_Or #[t198, t199] w83 fun t200 w85 =>
 opP Tryd.prog (Instr.extract t200 0) fun t201 =>
 opP Tryd.prog (Instr.extract t200 1) fun t202 =>
 opU Tryd.prog w85 (Instr.storeAt 24 t11 t201) fun w86 =>
 opQ Tryd.prog w86 (Instr.loadAt 24 t3) fun t204 =>
 opQ Tryd.prog w86 (Instr.loadAt 24 t3) fun t205 =>
 oCall Tryd.prog Tryd.n_bits_And #[t204, t205] w86 fun t206 w87 =>
 opP Tryd.prog (Instr.extract t206 0) fun t207 =>
 opP Tryd.prog (Instr.extract t206 1) fun t208 =>
 opU Tryd.prog w87 (Instr.storeAt 24 t14 t207) fun w88 =>
 opQ Tryd.prog w88 (Instr.loadAt 24 t11) fun t209 =>
 opQ Tryd.prog w88 (Instr.loadAt 24 t3) fun t210 =>
 oCall Tryd.prog Tryd.n_law01_same #[t209, t210, t202, t208] w88 fun t213 w89 =>
 opP Tryd.prog (Op.unary .not t213) fun t214 =>
 sJoin (fun K90 => gIf t214 false (opQ Tryd.prog w89 (Instr.loadAt 24 t14) fun t216 =>
 opQ Tryd.prog w89 (Instr.loadAt 24 t3) fun t217 =>
 oCall Tryd.prog Tryd.n_law01_same #[t216, t217, t202, t208] w89 fun t220 w94 =>
 opP Tryd.prog (Op.unary .not t220) fun t221 =>
 K90 [t221] w94) (K90 [undef] w89)) (fun s91 _d92 w93 =>
 oPick t214 (Value.bool true) (s91.getD 0 undef) fun t222 =>
 oCond t222 (K (Value.bool false) w93) (opQ Tryd.prog w93 (Instr.loadAt 24 t3) fun t224 =>
 opQ Tryd.prog w93 (Instr.loadAt 24 t4) fun t225 =>
 oCall Tryd.prog Tryd.n_bits_Has #[t224, t225] w93 fun t226 w95 =>
 opP Tryd.prog (Instr.extract t226 0) fun t227 =>
 opP Tryd.prog (Instr.extract t226 1) fun t228 =>
 opQ Tryd.prog w95 (Instr.loadAt 24 t4) fun t230 =>
 opQ Tryd.prog w95 (Instr.loadAt 24 t3) fun t231 =>
 oCall Tryd.prog Tryd.n_bits_Less #[t230, t231] w95 fun t232 w96 =>
 opP Tryd.prog (Instr.extract t232 0) fun t233 =>
 opP Tryd.prog (Instr.extract t232 1) fun t234 =>
 opW Tryd.prog w96 (Instr.alloc 24 true (.tuple #[])) fun t19 w97 =>
 opU Tryd.prog w97 (Instr.storeAt 24 t19 t233) fun w98 =>
 opQ Tryd.prog w98 (Instr.loadAt 24 t3) fun t236 =>
 opQ Tryd.prog w98 (Instr.loadAt 24 t4) fun t237 =>
 oCall Tryd.prog Tryd.n_bits_First #[t236, t237] w98 fun t238 w99 =>
 opP Tryd.prog (Instr.extract t238 0) fun _t239 =>
 opP Tryd.prog (Instr.extract t238 1) fun t240 =>
 opP Tryd.prog (Instr.extract t238 2) fun t241 =>
 opQ Tryd.prog w99.drew (Instr.loadAt 24 t3) fun t242 =>
 opQ Tryd.prog w99.drew (Instr.loadAt 24 t4) fun t244 =>
 oCall Tryd.prog Tryd.n_bits_Count #[t242] w99.drew fun t243 w100 =>
 Ext w99.drew w100 ∧
 oCall Tryd.prog Tryd.n_bits_Count #[t244] w100 fun t245 w101 =>
 opP Tryd.prog (bsem .add 3 false t243 t245) fun t246 =>
 opP Tryd.prog (bsem .eql 27 true t228 (Value.int .i64 0)) fun t248 =>
 sJoin (fun K102 => gIf t248 true (opP Tryd.prog (bsem .eql 27 true t234 (Value.int .i64 0)) fun t251 =>
 K102 [t251] w101.drew) (K102 [undef] w101.drew)) (fun s103 _d104 w105 =>
 oPick t248 (s103.getD 0 undef) (Value.bool false) fun t252 =>
 sJoin (fun K106 => gIf t252 true (opP Tryd.prog (bsem .eql 27 true t241 (Value.int .i64 0)) fun t255 =>
 K106 [t255] w105) (K106 [undef] w105)) (fun s107 _d108 w109 =>
 oPick t252 (s107.getD 0 undef) (Value.bool false) fun t256 =>
 sJoin (fun K110 => gIf t256 true (opQ Tryd.prog w109 (Instr.loadAt 24 t7) fun t259 =>
 opQ Tryd.prog w109 (Instr.loadAt 24 t3) fun t260 =>
 oCall Tryd.prog Tryd.n_law01_same #[t259, t260, t228, t234] w109 fun t263 w114 =>
 opP Tryd.prog (bsem .eql 4 false t227 t263) fun t264 =>
 K110 [t264] w114) (K110 [undef] w109)) (fun s111 _d112 w113 =>
 oPick t256 (s111.getD 0 undef) (Value.bool false) fun t265 =>
 sJoin (fun K115 => gIf t265 true (opQ Tryd.prog w113 (Instr.loadAt 24 t19) fun t268 =>
 oCall Tryd.prog Tryd.n_bits_Count #[t268] w113 fun t269 w119 =>
 opP Tryd.prog (bsem .eql 3 true t269 (Value.int .i64 0)) fun t270 =>
 opP Tryd.prog (bsem .eql 4 false t227 t270) fun t271 =>
 K115 [t271] w119) (K115 [undef] w113)) (fun s116 _d117 w118 =>
 oPick t265 (s116.getD 0 undef) (Value.bool false) fun t272 =>
 sJoin (fun K120 => gIf t272 true (opP Tryd.prog (Op.unary .not t240) fun t276 =>
 opP Tryd.prog (bsem .eql 4 false t227 t276) fun t277 =>
 K120 [t277] w118) (K120 [undef] w118)) (fun s121 _d122 w123 =>
 oPick t272 (s121.getD 0 undef) (Value.bool false) fun t278 =>
 sJoin (fun K124 => gIf t278 true (opQ Tryd.prog w123 (Instr.loadAt 24 t7) fun t280 =>
 opQ Tryd.prog w123 (Instr.loadAt 24 t15) fun t282 =>
 oCall Tryd.prog Tryd.n_bits_Count #[t280] w123 fun t281 w128 =>
 Ext w123 w128 ∧
 oCall Tryd.prog Tryd.n_bits_Count #[t282] w128 fun t283 w129 =>
 opP Tryd.prog (bsem .add 3 false t281 t283) fun t284 =>
 opP Tryd.prog (bsem .eql 3 false t284 t246) fun t286 =>
 K124 [t286] w129) (K124 [undef] w123)) (fun s125 _d126 w127 =>
 oPick t278 (s125.getD 0 undef) (Value.bool false) fun t287 =>
 sJoin (fun K130 => gIf t287 true (oCall Tryd.prog Tryd.n_law01_awake #[] w127 fun t289 w134 =>
 K130 [t289] w134) (K130 [undef] w127)) (fun s131 _d132 w133 =>
 oPick t287 (s131.getD 0 undef) (Value.bool false) fun t290 =>
 K t290 w133))))))))))))))))))))))))
theorem Tryd.E_law01_BitsLattice (t0 t1 t2 : Value) (w : World) (K : Value → World → Prop) : sw ⟨false, false⟩ Tryd.prog (fun _ _ => False) Tryd.A_law01_BitsLattice (bodyOf Tryd.f8) [t0, t1, t2, undef, undef, undef, undef, undef, undef, undef, undef, undef, undef, undef, undef, undef, undef, undef, undef, undef, undef, undef, undef, undef, undef, undef, undef, undef, undef, undef, undef, undef, undef, undef, undef, undef, undef, undef, undef, undef, undef, undef, undef, undef, undef, undef, undef, undef, undef, undef, undef, undef, undef, undef, undef, undef, undef, undef, undef, undef, undef, undef, undef, undef, undef, undef, undef, undef, undef, undef, undef, undef, undef, undef, undef, undef, undef, undef, undef, undef, undef, undef, undef, undef, undef, undef, undef, undef, undef, undef, undef, undef, undef, undef, undef, undef, undef, undef, undef, undef, undef, undef, undef, undef, undef, undef, undef, undef, undef, undef, undef, undef, undef, undef, undef, undef, undef, undef, undef, undef, undef, undef, undef, undef, undef, undef, undef, undef, undef, undef, undef, undef, undef, undef, undef, undef, undef, undef, undef, undef, undef, undef, undef, undef, undef, undef, undef, undef, undef, undef, undef, undef, undef, undef, undef, undef, undef, undef, undef, undef, undef, undef, undef, undef, undef, undef, undef, undef, undef, undef, undef, undef, undef, undef, undef, undef, undef, undef, undef, undef, undef, undef, undef, undef, undef, undef, undef, undef, undef, undef, undef, undef, undef, undef, undef, undef, undef, undef, undef, undef, undef, undef, undef, undef, undef, undef, undef, undef, undef, undef, undef, undef, undef, undef, undef, undef, undef, undef, undef, undef, undef, undef, undef, undef, undef, undef, undef, undef, undef, undef, undef, undef, undef, undef, undef, undef, undef, undef, undef, undef, undef, undef, undef, undef, undef, undef, undef, undef, undef, undef, undef, undef, undef, undef, undef, undef, undef, undef, undef, undef, undef, undef, undef, undef, undef, undef, undef, undef, undef, undef, undef, undef, undef, undef, undef, undef, undef, undef, undef, undef, undef, undef, undef, undef, undef, undef, undef, undef, undef, undef, undef] w (topQ false Tryd.prog Tryd.f8 w K) = Tryd.F_law01_BitsLattice t0 t1 t2 w K := by kernel_rfl
theorem Tryd.C_law01_BitsLattice : chk ⟨false, false⟩ Tryd.prog false Tryd.A_law01_BitsLattice (bodyOf Tryd.f8) = true := by kernel_rfl
theorem Tryd.ok_law01_BitsLattice {t0 t1 t2 : Value} {w : World} {K : Value → World → Prop} (h : Tryd.F_law01_BitsLattice t0 t1 t2 w K) : oCall Tryd.prog Tryd.n_law01_BitsLattice #[t0, t1, t2] w K :=
  calls_of_sw (cf := ⟨false, false⟩) Tryd.mixed Tryd.func8 rfl Tryd.C_law01_BitsLattice ((Tryd.E_law01_BitsLattice t0 t1 t2 w K).mpr h)

/- 9: loanword/loanwordlaw01.awake -/
def Tryd.A_law01_awake : Ann := .s (.r (.op 0 .p (.nil))) (.s (.r (.op 0 .l (.op 1 .p (.op 2 .p (.op 3 .p (.op 4 .l (.op 5 .l (.op 6 .p (.nil))))))))) (.s (.r (.op 0 .q (.op 1 .l (.op 2 .l (.op 3 .p (.op 4 .p (.op 5 .p (.op 6 .l (.op 7 .l (.op 8 .p (.nil))))))))))) (.s (.r (.op 0 .q (.op 1 .l (.op 2 .p (.op 3 .p (.op 4 .p (.op 5 .p (.op 6 .p (.nil))))))))) (.s (.r (.op 0 .l (.op 1 .p (.op 2 .p (.op 3 .p (.op 4 .p (.op 5 .l (.op 6 .l (.op 7 .p (.op 8 .p (.nil))))))))))) (.s (.r (.op 0 .p (.op 1 .p (.op 2 .p (.grp 32 true [(3, .p), (4, .p)] [34] (.op 5 .p (.op 6 .p (.grp 36 true [(7, .p), (8, .p)] [38] (.op 9 .p (.op 10 .p (.grp 40 true [(11, .p), (12, .q), (13, .p), (14, .p)] [44] (.op 15 .p (.op 16 .p (.grp 46 true [(17, .q), (18, .l), (19, .p)] [49] (.op 20 .p (.op 21 .p (.grp 51 true [(22, .p), (23, .p)] [53] (.op 24 .p (.op 25 .p (.grp 55 true [(26, .p), (27, .p)] [57] (.op 28 .p (.op 29 .p (.grp 59 true [(30, .p), (31, .p)] [61] (.op 32 .p (.op 33 .p (.grp 63 true [(34, .q), (35, .l)] [65] (.op 36 .p (.op 37 .p (.grp 67 true [(38, .q), (39, .l), (40, .q)] [70] (.op 41 .p (.op 42 .p (.nil)))))))))))))))))))))))))))))))) (.n))))))
def Tryd.F_law01_awake (w : World) (K : Value → World → Prop) : Prop :=
 oCall Tryd.prog Tryd.n_bits_New #[(Value.int .i64 70)] w fun t11 w1 =>
 opP Tryd.prog (Instr.extract t11 0) fun t12 =>
 opP Tryd.prog (Instr.extract t11 1) fun t13 =>
 opW Tryd.prog w1 (Instr.alloc 24 true (.tuple #[])) fun t1 w2 =>
 opU Tryd.prog w2 (Instr.storeAt 24 t1 t12) fun w3 =>
 opQ Tryd.prog w3 (Instr.loadAt 24 t1) fun t15 =>
 opW Tryd.prog w3 (Instr.buildSlice 45 2 #[(0, (Value.int .i64 0)), (1, (Value.int .i64 69))]) fun t16 w4 =>
 oCall Tryd.prog Tryd.n_bits_Set #[t15, t16] w4 fun t17 w5 =>
 opP Tryd.prog (Instr.extract t17 0) fun t18 =>
 opP Tryd.prog (Instr.extract t17 1) fun t19 =>
 opW Tryd.prog w5 (Instr.alloc 24 true (.tuple #[])) fun t3 w6 =>
 opU Tryd.prog w6 (Instr.storeAt 24 t3 t18) fun w7 =>
 opQ Tryd.prog w7 (Instr.loadAt 24 t3) fun t21 =>
 oCall Tryd.prog Tryd.n_bits_Bytes #[t21] w7 fun t22 w8 =>
 opP Tryd.prog (Instr.extract t22 0) fun t23 =>
 opP Tryd.prog (Instr.extract t22 1) fun t24 =>
 oCall Tryd.prog Tryd.n_bits_Read #[(Value.int .i64 10), (Value.string { data := #[128, 65] })] w8 fun t26 w9 =>
 opP Tryd.prog (Instr.extract t26 0) fun t27 =>
 opP Tryd.prog (Instr.extract t26 1) fun t28 =>
 opP Tryd.prog (Instr.extract t26 2) fun t29 =>
 opW Tryd.prog w9 (Instr.alloc 24 true (.tuple #[])) fun t7 w10 =>
 opU Tryd.prog w10 (Instr.storeAt 24 t7 t27) fun w11 =>
 opP Tryd.prog (bsem .eql 27 true t13 (Value.int .i64 0)) fun t31 =>
 sJoin (fun K12 => gIf t31 true (opP Tryd.prog (bsem .eql 27 true t19 (Value.int .i64 0)) fun t34 =>
 K12 [t34] w11) (K12 [undef] w11)) (fun s13 _d14 w15 =>
 oPick t31 (s13.getD 0 undef) (Value.bool false) fun t35 =>
 sJoin (fun K16 => gIf t35 true (opP Tryd.prog (bsem .eql 27 true t24 (Value.int .i64 0)) fun t38 =>
 K16 [t38] w15) (K16 [undef] w15)) (fun s17 _d18 w19 =>
 oPick t35 (s17.getD 0 undef) (Value.bool false) fun t39 =>
 sJoin (fun K20 => gIf t39 true (opP Tryd.prog (Instr.fieldAt 24 t1 1) fun t41 =>
 opQ Tryd.prog w19 (Instr.loadAt 22 t41) fun t42 =>
 opP Tryd.prog (Builtin.len_ #[22] 3 #[t42]) fun t43 =>
 opP Tryd.prog (bsem .eql 3 true t43 (Value.int .i64 2)) fun t44 =>
 K20 [t44] w19) (K20 [undef] w19)) (fun s21 _d22 w23 =>
 oPick t39 (s21.getD 0 undef) (Value.bool false) fun t45 =>
 sJoin (fun K24 => gIf t45 true (opQ Tryd.prog w23 (Instr.loadAt 24 t3) fun t47 =>
 oCall Tryd.prog Tryd.n_bits_Count #[t47] w23 fun t48 w28 =>
 opP Tryd.prog (bsem .eql 3 true t48 (Value.int .i64 2)) fun t49 =>
 K24 [t49] w28) (K24 [undef] w23)) (fun s25 _d26 w27 =>
 oPick t45 (s25.getD 0 undef) (Value.bool false) fun t50 =>
 sJoin (fun K29 => gIf t50 true (opP Tryd.prog (bsem .eql 9 true t23 (Value.string { data := #[128, 0, 0, 0, 0, 0, 0, 0, 4] })) fun t53 =>
 K29 [t53] w27) (K29 [undef] w27)) (fun s30 _d31 w32 =>
 oPick t50 (s30.getD 0 undef) (Value.bool false) fun t54 =>
 sJoin (fun K33 => gIf t54 true (opP Tryd.prog (bsem .eql 3 true t28 (Value.int .i64 1)) fun t57 =>
 K33 [t57] w32) (K33 [undef] w32)) (fun s34 _d35 w36 =>
 oPick t54 (s34.getD 0 undef) (Value.bool false) fun t58 =>
 sJoin (fun K37 => gIf t58 true (opP Tryd.prog (bsem .eql 27 true t29 (Value.int .i64 10)) fun t61 =>
 K37 [t61] w36) (K37 [undef] w36)) (fun s38 _d39 w40 =>
 oPick t58 (s38.getD 0 undef) (Value.bool false) fun t62 =>
 sJoin (fun K41 => gIf t62 true (opQ Tryd.prog w40 (Instr.loadAt 24 t3) fun t64 =>
 oCall Tryd.prog Tryd.n_bits_May #[t64] w40 fun t65 w45 =>
 K41 [t65] w45) (K41 [undef] w40)) (fun s42 _d43 w44 =>
 oPick t62 (s42.getD 0 undef) (Value.bool false) fun t66 =>
 sJoin (fun K46 => gIf t66 true (opQ Tryd.prog w44 (Instr.loadAt 24 t3) fun t68 =>
 oCall Tryd.prog Tryd.n_bits_Each #[t68] w44 fun t69 w50 =>
 opQ Tryd.prog w50 (bsem .neq 48 true t69 Value.nilFunc) fun t70 =>
 K46 [t70] w50) (K46 [undef] w44)) (fun s47 _d48 w49 =>
 oPick t66 (s47.getD 0 undef) (Value.bool false) fun t71 =>
 K t71 w49)))))))))
theorem Tryd.E_law01_awake (w : World) (K : Value → World → Prop) : sw ⟨false, false⟩ Tryd.prog (fun _ _ => False) Tryd.A_law01_awake (bodyOf Tryd.f9) [undef, undef, undef, undef, undef, undef, undef, undef, undef, undef, undef, undef, undef, undef, undef, undef, undef, undef, undef, undef, undef, undef, undef, undef, undef, undef, undef, undef, undef, undef, undef, undef, undef, undef, undef, undef, undef, undef, undef, undef, undef, undef, undef, undef, undef, undef, undef, undef, undef, undef, undef, undef, undef, undef, undef, undef, undef, undef, undef, undef, undef, undef, undef, undef, undef, undef, undef, undef, undef, undef, undef, undef] w (topQ false Tryd.prog Tryd.f9 w K) = Tryd.F_law01_awake  w K := by kernel_rfl
theorem Tryd.C_law01_awake : chk ⟨false, false⟩ Tryd.prog false Tryd.A_law01_awake (bodyOf Tryd.f9) = true := by kernel_rfl
theorem Tryd.ok_law01_awake {w : World} {K : Value → World → Prop} (h : Tryd.F_law01_awake  w K) : oCall Tryd.prog Tryd.n_law01_awake #[] w K :=
  calls_of_sw (cf := ⟨false, false⟩) Tryd.mixed Tryd.func9 rfl Tryd.C_law01_awake ((Tryd.E_law01_awake  w K).mpr h)

/- 10: loanword/loanwordlaw01.lent -/
def Tryd.A_law01_lent : Ann := .s (.r (.op 0 .l (.op 1 .l (.nil)))) (.s (.r (.op 0 .p (.nil))) (.s (.r (.op 0 .p (.op 1 .p (.op 2 .q (.op 3 .l (.op 4 .p (.nil))))))) (.s (.r (.op 0 .p (.op 1 .l (.op 2 .l (.op 3 .p (.nil)))))) (.s (.r (.op 0 .p (.op 1 .q (.op 2 .p (.op 3 .p (.op 4 .q (.op 5 .p (.op 6 .p (.op 7 .p (.op 8 .l (.nil))))))))))) (.n)))))
def Tryd.F_law01_lent (t0 : Value) (w : World) (K : Value → World → Prop) : Prop :=
 opW Tryd.prog w (Instr.box 24 t0) fun t1 w1 =>
 opW Tryd.prog w1 (Instr.alloc 24 true (.tuple #[])) fun t2 w2 =>
 opP Tryd.prog (Instr.fieldAt 24 t1 1) fun t5 =>
 opQ Tryd.prog w2 (Instr.loadAt 22 t5) fun t6 =>
 opW Tryd.prog w2 (Builtin.append_ #[22, 22] 22 #[(Value.slice Option.none 0 0), t6]) fun t7 w3 =>
 opW Tryd.prog w3 (Instr.buildSlice 22 1 #[(0, (Value.int .u64 77))]) fun t9 w4 =>
 opW Tryd.prog w4 (Builtin.append_ #[22, 22] 22 #[t7, t9]) fun t10 w5 =>
 opP Tryd.prog (Instr.fieldAt 24 t1 0) fun t11 =>
 opQ Tryd.prog w5.drew (Instr.loadAt 3 t11) fun t12 =>
 opP Tryd.prog (Instr.fieldAt 24 t1 1) fun t14 =>
 opQ Tryd.prog w5.drew (Instr.loadAt 22 t14) fun t15 =>
 opP Tryd.prog (Builtin.len_ #[22] 3 #[t15]) fun t16 =>
 opP Tryd.prog (Instr.sliceAt 22 t10 none (some t16) none) fun t17 =>
 opP Tryd.prog (Instr.build 24 #[(0, t12), (1, t17)]) fun t18 =>
 opU Tryd.prog w5.drew (Instr.storeAt 24 t2 t18) fun w6 =>
 opQ Tryd.prog w6 (cellSem 24 t2) fun r7 =>
 K r7 w6
theorem Tryd.E_law01_lent (t0 : Value) (w : World) (K : Value → World → Prop) : sw ⟨false, false⟩ Tryd.prog (fun _ _ => False) Tryd.A_law01_lent (bodyOf Tryd.f10) [t0, undef, undef, undef, undef, undef, undef, undef, undef, undef, undef, undef, undef, undef, undef, undef, undef, undef, undef] w (topQ false Tryd.prog Tryd.f10 w K) = Tryd.F_law01_lent t0 w K := by kernel_rfl
theorem Tryd.C_law01_lent : chk ⟨false, false⟩ Tryd.prog false Tryd.A_law01_lent (bodyOf Tryd.f10) = true := by kernel_rfl
theorem Tryd.ok_law01_lent {t0 : Value} {w : World} {K : Value → World → Prop} (h : Tryd.F_law01_lent t0 w K) : oCall Tryd.prog Tryd.n_law01_lent #[t0] w K :=
  calls_of_sw (cf := ⟨false, false⟩) Tryd.mixed Tryd.func10 rfl Tryd.C_law01_lent ((Tryd.E_law01_lent t0 w K).mpr h)

/- 16: loanword/loanwordlaw01.held -/
def Tryd.A_law01_held : Ann := .s (.r (.op 0 .l (.op 1 .l (.op 2 .l (.op 3 .p (.nil)))))) (.s (.s (.r (.op 0 .q (.op 1 .q (.op 2 .l (.op 3 .p (.nil)))))) (.c (.s (.r (.op 0 .p (.nil))) (.n)) (.n))) (.s (.s (.r (.op 0 .p (.nil))) (.b (.lp [7] (.s (.s (.r (.op 0 .p (.op 1 .p (.op 2 .q (.op 3 .p (.op 4 .p (.nil))))))) (.c (.n) (.n))) (.s (.b (.r (.op 0 .p (.op 1 .q (.op 2 .p (.op 3 .p (.op 4 .q (.op 5 .p (.op 6 .p (.op 7 .q (.op 8 .p (.op 9 .p (.op 10 .l (.nil)))))))))))))) (.r (.op 0 .p (.op 1 .p (.op 2 .p (.nil)))))))))) (.s (.r (.op 0 .q (.op 1 .q (.op 2 .l (.op 3 .p (.nil)))))) (.n))))
def Tryd.F_law01_held (t0 : Value) (t1 : Value) (t2 : Value) (w : World) (K : Value → World → Prop) : Prop :=
 opW Tryd.prog w (Instr.box 24 t0) fun t3 w1 =>
 opW Tryd.prog w1 (Instr.box 24 t1) fun t4 w2 =>
 opW Tryd.prog w2 (Instr.box 24 t2) fun t5 w3 =>
 opQ Tryd.prog w3 (Instr.loadAt 24 t3) fun t8 =>
 opQ Tryd.prog w3 (Instr.loadAt 24 t5) fun t9 =>
 oCall Tryd.prog Tryd.n_ref01_Same #[t8, t9] w3 fun t10 w4 =>
 opP Tryd.prog (Op.unary .not t10) fun t11 =>
 oCond t11 (K (Value.bool false) w4) (sLoop [(Value.int .i64 0)] w4 (fun s6 _d7 w8 K5 =>
 opP Tryd.prog (Instr.fieldAt 24 t3 1) fun t13 =>
 opQ Tryd.prog w8 (Instr.loadAt 22 t13) fun t14 =>
 opP Tryd.prog (Builtin.len_ #[22] 3 #[t14]) fun t15 =>
 opP Tryd.prog (bsem .lss 3 false (s6.getD 0 undef) t15) fun t16 =>
 oCond t16 (opP Tryd.prog (Instr.fieldAt 24 t3 1) fun t19 =>
 opQ Tryd.prog w8.drew (Instr.loadAt 22 t19) fun t20 =>
 opP Tryd.prog (Instr.fieldAt 24 t3 1) fun t22 =>
 opQ Tryd.prog w8.drew (Instr.loadAt 22 t22) fun t23 =>
 opP Tryd.prog (Instr.indexAt 22 t23 (s6.getD 0 undef)) fun t25 =>
 opQ Tryd.prog w8.drew (Instr.loadAt 64 t25) fun t26 =>
 opP Tryd.prog (Op.unary .xor t26) fun t27 =>
 opP Tryd.prog (Instr.indexAt 22 t20 (s6.getD 0 undef)) fun t28 =>
 opU Tryd.prog w8.drew (Instr.storeAt 64 t28 t27) fun w9 =>
 opP Tryd.prog (bsem .add 3 true (s6.getD 0 undef) (Value.int .i64 1)) fun t18 =>
 K5 [t18] w9) (opQ Tryd.prog w8 (Instr.loadAt 24 t4) fun t29 =>
 opQ Tryd.prog w8 (Instr.loadAt 24 t5) fun t30 =>
 oCall Tryd.prog Tryd.n_ref01_Same #[t29, t30] w8 fun t31 w10 =>
 K t31 w10)))
theorem Tryd.E_law01_held (t0 t1 t2 : Value) (w : World) (K : Value → World → Prop) : sw ⟨false, false⟩ Tryd.prog (fun _ _ => False) Tryd.A_law01_held (bodyOf Tryd.f16) [t0, t1, t2, undef, undef, undef, undef, undef, undef, undef, undef, undef, undef, undef, undef, undef, undef, undef, undef, undef, undef, undef, undef, undef, undef, undef, undef, undef, undef, undef, undef, undef] w (topQ false Tryd.prog Tryd.f16 w K) = Tryd.F_law01_held t0 t1 t2 w K := by kernel_rfl
theorem Tryd.C_law01_held : chk ⟨false, false⟩ Tryd.prog false Tryd.A_law01_held (bodyOf Tryd.f16) = true := by kernel_rfl
theorem Tryd.ok_law01_held {t0 t1 t2 : Value} {w : World} {K : Value → World → Prop} (h : Tryd.F_law01_held t0 t1 t2 w K) : oCall Tryd.prog Tryd.n_law01_held #[t0, t1, t2] w K :=
  calls_of_sw (cf := ⟨false, false⟩) Tryd.mixed Tryd.func16 rfl Tryd.C_law01_held ((Tryd.E_law01_held t0 t1 t2 w K).mpr h)

/- 17: loanword/loanwordlaw01.kept -/
def Tryd.A_law01_kept : Ann := .s (.r (.op 0 .l (.op 1 .l (.op 2 .p (.nil))))) (.s (.r (.op 0 .q (.op 1 .q (.op 2 .l (.op 3 .p (.grp 8 true [(4, .p), (5, .q), (6, .p), (7, .q), (8, .p), (9, .p), (10, .p), (11, .p), (12, .q), (13, .p), (14, .p), (15, .q), (16, .p)] [21] (.op 17 .p (.op 18 .p (.nil))))))))) (.n))
def Tryd.F_law01_kept (t0 : Value) (t1 : Value) (w : World) (K : Value → World → Prop) : Prop :=
 opW Tryd.prog w (Instr.box 24 t0) fun t2 w1 =>
 opW Tryd.prog w1 (Instr.box 24 t1) fun t3 w2 =>
 opQ Tryd.prog w2.drew (Instr.loadAt 24 t2) fun t5 =>
 opQ Tryd.prog w2.drew (Instr.loadAt 24 t3) fun t6 =>
 oCall Tryd.prog Tryd.n_ref01_Same #[t5, t6] w2.drew fun t7 w3 =>
 sJoin (fun K4 => gIf t7 true (opP Tryd.prog (Instr.fieldAt 24 t2 1) fun t9 =>
 opQ Tryd.prog w3 (Instr.loadAt 22 t9) fun t10 =>
 opP Tryd.prog (Instr.fieldAt 24 t3 1) fun t11 =>
 opQ Tryd.prog w3 (Instr.loadAt 22 t11) fun t12 =>
 opP Tryd.prog (Builtin.len_ #[22] 3 #[t12]) fun t13 =>
 opP Tryd.prog (bsem .add 3 true t13 (Value.int .i64 1)) fun t14 =>
 opP Tryd.prog (Instr.sliceAt 22 t10 none (some t14) none) fun t15 =>
 opP Tryd.prog (Instr.fieldAt 24 t3 1) fun t16 =>
 opQ Tryd.prog w3 (Instr.loadAt 22 t16) fun t17 =>
 opP Tryd.prog (Builtin.len_ #[22] 3 #[t17]) fun t18 =>
 opP Tryd.prog (Instr.indexAt 22 t15 t18) fun t19 =>
 opQ Tryd.prog w3 (Instr.loadAt 64 t19) fun t20 =>
 opP Tryd.prog (bsem .eql 64 true t20 (Value.int .u64 77)) fun t21 =>
 K4 [t21] w3) (K4 [undef] w3)) (fun s5 _d6 w7 =>
 oPick t7 (s5.getD 0 undef) (Value.bool false) fun t22 =>
 K t22 w7)
theorem Tryd.E_law01_kept (t0 t1 : Value) (w : World) (K : Value → World → Prop) : sw ⟨false, false⟩ Tryd.prog (fun _ _ => False) Tryd.A_law01_kept (bodyOf Tryd.f17) [t0, t1, undef, undef, undef, undef, undef, undef, undef, undef, undef, undef, undef, undef, undef, undef, undef, undef, undef, undef, undef, undef, undef] w (topQ false Tryd.prog Tryd.f17 w K) = Tryd.F_law01_kept t0 t1 w K := by kernel_rfl
theorem Tryd.C_law01_kept : chk ⟨false, false⟩ Tryd.prog false Tryd.A_law01_kept (bodyOf Tryd.f17) = true := by kernel_rfl
theorem Tryd.ok_law01_kept {t0 t1 : Value} {w : World} {K : Value → World → Prop} (h : Tryd.F_law01_kept t0 t1 w K) : oCall Tryd.prog Tryd.n_law01_kept #[t0, t1] w K :=
  calls_of_sw (cf := ⟨false, false⟩) Tryd.mixed Tryd.func17 rfl Tryd.C_law01_kept ((Tryd.E_law01_kept t0 t1 w K).mpr h)

/- 30: loanword/loanwordlaw01.same -/
def Tryd.A_law01_same : Ann := .s (.r (.op 0 .l (.op 1 .l (.op 2 .p (.nil))))) (.s (.s (.r (.op 0 .p (.op 1 .p (.op 2 .p (.grp 12 false [(3, .p), (4, .p)] [14] (.op 5 .p (.op 6 .p (.grp 16 false [(7, .p), (8, .q), (9, .p), (10, .q), (11, .p)] [21] (.op 12 .p (.op 13 .p (.grp 23 false [(14, .p), (15, .q), (16, .p), (17, .p), (18, .q), (19, .p), (20, .p)] [30] (.op 21 .p (.nil))))))))))))) (.c (.s (.r (.op 0 .p (.nil))) (.n)) (.n))) (.s (.s (.r (.op 0 .p (.nil))) (.b (.lp [9] (.s (.s (.r (.op 0 .p (.op 1 .p (.op 2 .q (.op 3 .p (.op 4 .p (.nil))))))) (.c (.n) (.n))) (.s (.b (.s (.r (.op 0 .p (.op 1 .q (.op 2 .p (.op 3 .p (.op 4 .q (.op 5 .p (.op 6 .q (.op 7 .p (.op 8 .p (.op 9 .q (.op 10 .p (.nil))))))))))))) (.c (.s (.r (.op 0 .p (.nil))) (.n)) (.n)))) (.r (.op 0 .p (.op 1 .p (.op 2 .p (.nil)))))))))) (.s (.r (.op 0 .p (.nil))) (.n))))
def Tryd.F_law01_same (t0 : Value) (t1 : Value) (t2 : Value) (t3 : Value) (w : World) (K : Value → World → Prop) : Prop :=
 opW Tryd.prog w (Instr.box 24 t0) fun t4 w1 =>
 opW Tryd.prog w1 (Instr.box 24 t1) fun t5 w2 =>
 opP Tryd.prog (bsem .neq 27 true t2 (Value.int .i64 0)) fun t11 =>
 sJoin (fun K3 => gIf t11 false (opP Tryd.prog (bsem .neq 27 true t3 (Value.int .i64 0)) fun t14 =>
 K3 [t14] w2) (K3 [undef] w2)) (fun s4 _d5 w6 =>
 oPick t11 (Value.bool true) (s4.getD 0 undef) fun t15 =>
 sJoin (fun K7 => gIf t15 false (opP Tryd.prog (Instr.fieldAt 24 t4 0) fun t17 =>
 opQ Tryd.prog w6 (Instr.loadAt 3 t17) fun t18 =>
 opP Tryd.prog (Instr.fieldAt 24 t5 0) fun t19 =>
 opQ Tryd.prog w6 (Instr.loadAt 3 t19) fun t20 =>
 opP Tryd.prog (bsem .neq 3 false t18 t20) fun t21 =>
 K7 [t21] w6) (K7 [undef] w6)) (fun s8 _d9 w10 =>
 oPick t15 (Value.bool true) (s8.getD 0 undef) fun t22 =>
 sJoin (fun K11 => gIf t22 false (opP Tryd.prog (Instr.fieldAt 24 t4 1) fun t24 =>
 opQ Tryd.prog w10 (Instr.loadAt 22 t24) fun t25 =>
 opP Tryd.prog (Builtin.len_ #[22] 3 #[t25]) fun t26 =>
 opP Tryd.prog (Instr.fieldAt 24 t5 1) fun t27 =>
 opQ Tryd.prog w10 (Instr.loadAt 22 t27) fun t28 =>
 opP Tryd.prog (Builtin.len_ #[22] 3 #[t28]) fun t29 =>
 opP Tryd.prog (bsem .neq 3 false t26 t29) fun t30 =>
 K11 [t30] w10) (K11 [undef] w10)) (fun s12 _d13 w14 =>
 oPick t22 (Value.bool true) (s12.getD 0 undef) fun t31 =>
 oCond t31 (K (Value.bool false) w14) (sLoop [(Value.int .i64 0)] w14 (fun s16 _d17 w18 K15 =>
 opP Tryd.prog (Instr.fieldAt 24 t4 1) fun t33 =>
 opQ Tryd.prog w18 (Instr.loadAt 22 t33) fun t34 =>
 opP Tryd.prog (Builtin.len_ #[22] 3 #[t34]) fun t35 =>
 opP Tryd.prog (bsem .lss 3 false (s16.getD 0 undef) t35) fun t36 =>
 oCond t36 (opP Tryd.prog (Instr.fieldAt 24 t4 1) fun t39 =>
 opQ Tryd.prog w18.drew (Instr.loadAt 22 t39) fun t40 =>
 opP Tryd.prog (Instr.indexAt 22 t40 (s16.getD 0 undef)) fun t42 =>
 opQ Tryd.prog w18.drew (Instr.loadAt 64 t42) fun t43 =>
 opP Tryd.prog (Instr.fieldAt 24 t5 1) fun t44 =>
 opQ Tryd.prog w18.drew (Instr.loadAt 22 t44) fun t45 =>
 opP Tryd.prog (Instr.indexAt 22 t45 (s16.getD 0 undef)) fun t47 =>
 opQ Tryd.prog w18.drew (Instr.loadAt 64 t47) fun t48 =>
 opP Tryd.prog (bsem .neq 64 false t43 t48) fun t49 =>
 oCond t49 (K (Value.bool false) w18.drew) (opP Tryd.prog (bsem .add 3 true (s16.getD 0 undef) (Value.int .i64 1)) fun t38 =>
 K15 [t38] w18.drew)) (K (Value.bool true) w18))))))
theorem Tryd.E_law01_same (t0 t1 t2 t3 : Value) (w : World) (K : Value → World → Prop) : sw ⟨false, false⟩ Tryd.prog (fun _ _ => False) Tryd.A_law01_same (bodyOf Tryd.f30) [t0, t1, t2, t3, undef, undef, undef, undef, undef, undef, undef, undef, undef, undef, undef, undef, undef, undef, undef, undef, undef, undef, undef, undef, undef, undef, undef, undef, undef, undef, undef, undef, undef, undef, undef, undef, undef, undef, undef, undef, undef, undef, undef, undef, undef, undef, undef, undef, undef, undef] w (topQ false Tryd.prog Tryd.f30 w K) = Tryd.F_law01_same t0 t1 t2 t3 w K := by kernel_rfl
theorem Tryd.C_law01_same : chk ⟨false, false⟩ Tryd.prog false Tryd.A_law01_same (bodyOf Tryd.f30) = true := by kernel_rfl
theorem Tryd.ok_law01_same {t0 t1 t2 t3 : Value} {w : World} {K : Value → World → Prop} (h : Tryd.F_law01_same t0 t1 t2 t3 w K) : oCall Tryd.prog Tryd.n_law01_same #[t0, t1, t2, t3] w K :=
  calls_of_sw (cf := ⟨false, false⟩) Tryd.mixed Tryd.func30 rfl Tryd.C_law01_same ((Tryd.E_law01_same t0 t1 t2 t3 w K).mpr h)

end Go.Proofs
