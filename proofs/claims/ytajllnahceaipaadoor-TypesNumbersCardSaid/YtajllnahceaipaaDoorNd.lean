/-
  Shallow readings of functions. Made by a program (wip/gen/gen.py) out of the translation; the kernel checks each equality.
  Shallow readings of functions. Made by a program (wip/gen/gen.py) out of the translation; the kernel checks each equality.
-/
import Derived.Test.YtajllnahceaipaaDoorNb

section
namespace Go.Proofs
open Go.Sh
set_option maxRecDepth 100000
/- 72: loanword/loanwordref06.look -/
def Tryd.A_ref06_look : Ann := .s (.r (.op 0 .l (.op 1 .p (.nil)))) (.s (.s (.r (.op 0 .p (.op 1 .p (.nil)))) (.c (.s (.r (.op 0 .p (.nil))) (.n)) (.n))) (.s (.s (.r (.op 0 .p (.op 1 .q (.nil)))) (.b (.j [11] (.s (.r (.op 0 .p (.op 1 .p (.nil)))) (.c (.n) (.r (.op 0 .p (.op 1 .p (.nil)))))) (.c (.s (.r (.op 0 .p (.op 1 .q (.op 2 .p (.op 3 .p (.grp 17 true [(4, .p), (5, .q), (6, .p)] [20] (.op 7 .p (.op 8 .p (.grp 22 true [(9, .p), (10, .q), (11, .p)] [25] (.op 12 .p (.op 13 .p (.grp 27 true [(14, .p), (15, .q), (16, .p), (17, .p)] [31] (.op 18 .p (.op 19 .p (.nil))))))))))))))) (.n)) (.s (.r (.op 0 .p (.op 1 .p (.nil)))) (.c (.s (.r (.op 0 .p (.op 1 .q (.op 2 .p (.op 3 .p (.grp 38 true [(4, .p), (5, .q), (6, .p)] [41] (.op 7 .p (.op 8 .p (.grp 43 true [(9, .p), (10, .q), (11, .p)] [46] (.op 12 .p (.op 13 .p (.grp 48 true [(14, .p), (15, .q), (16, .p), (17, .p)] [52] (.op 18 .p (.op 19 .p (.grp 54 true [(20, .p), (21, .q), (22, .p), (23, .p)] [58] (.op 24 .p (.op 25 .p (.nil)))))))))))))))))) (.n)) (.s (.r (.op 0 .p (.op 1 .p (.nil)))) (.c (.s (.r (.op 0 .p (.op 1 .q (.op 2 .p (.op 3 .p (.grp 65 true [(4, .p), (5, .q), (6, .p)] [68] (.op 7 .p (.op 8 .p (.grp 70 true [(9, .p), (10, .q), (11, .p)] [73] (.op 12 .p (.op 13 .p (.grp 75 true [(14, .p), (15, .q), (16, .p), (17, .p)] [79] (.op 18 .p (.op 19 .p (.grp 81 true [(20, .p), (21, .q), (22, .p), (23, .q), (24, .p), (25, .p), (26, .p), (27, .l)] [89] (.op 28 .p (.op 29 .p (.nil)))))))))))))))))) (.n)) (.s (.r (.op 0 .p (.op 1 .p (.nil)))) (.c (.s (.r (.op 0 .p (.op 1 .q (.op 2 .p (.op 3 .p (.grp 96 true [(4, .p), (5, .q), (6, .p)] [99] (.op 7 .p (.op 8 .p (.grp 101 true [(9, .p), (10, .q), (11, .p), (12, .p)] [105] (.op 13 .p (.op 14 .p (.grp 107 true [(15, .p), (16, .q), (17, .p), (18, .q), (19, .p), (20, .p), (21, .p), (22, .l)] [115] (.op 23 .p (.op 24 .p (.nil))))))))))))))) (.n)) (.n))))))))))) (.s (.r (.op 0 .p (.nil))) (.n))))
def Tryd.F_ref06_look (t0 : Value) (t1 : Value) (t2 : Value) (w : World) (K : Value → World → Prop) : Prop :=
 opW Tryd.prog w (Instr.box 25 t0) fun t3 w1 =>
 opP Tryd.prog (bsem .lss 3 true t2 (Value.int .i64 1)) fun t8 =>
 oCond t8 (K (Value.bool false) w1) (opP Tryd.prog (Instr.fieldAt 25 t3 0) fun t9 =>
 opQ Tryd.prog w1 (Instr.loadAt 22 t9) fun t10 =>
 sJoin (fun K2 =>
 opP Tryd.prog (bsem .eql 22 true t10 (Value.int .u8 1)) fun t12 =>
 oCond t12 (K2 [t12] w1) (opP Tryd.prog (bsem .eql 22 true t10 (Value.int .u8 2)) fun t13 =>
 K2 [t13] w1)) (fun s3 _d4 w5 =>
 oCond (s3.getD 0 undef) (opP Tryd.prog (Instr.fieldAt 25 t3 1) fun t14 =>
 opQ Tryd.prog w5 (Instr.loadAt 4 t14) fun t15 =>
 opP Tryd.prog (Op.unary .not t15) fun t16 =>
 sJoin (fun K6 => gIf t16 true (opP Tryd.prog (Instr.fieldAt 25 t3 2) fun t18 =>
 opQ Tryd.prog w5 (Instr.loadAt 3 t18) fun t19 =>
 opP Tryd.prog (bsem .eql 3 true t19 (Value.int .i64 0)) fun t20 =>
 K6 [t20] w5) (K6 [undef] w5)) (fun s7 _d8 w9 =>
 oPick t16 (s7.getD 0 undef) (Value.bool false) fun t21 =>
 sJoin (fun K10 => gIf t21 true (opP Tryd.prog (Instr.fieldAt 25 t3 3) fun t23 =>
 opQ Tryd.prog w9 (Instr.loadAt 3 t23) fun t24 =>
 opP Tryd.prog (bsem .eql 3 true t24 (Value.int .i64 0)) fun t25 =>
 K10 [t25] w9) (K10 [undef] w9)) (fun s11 _d12 w13 =>
 oPick t21 (s11.getD 0 undef) (Value.bool false) fun t26 =>
 sJoin (fun K14 => gIf t26 true (opP Tryd.prog (Instr.fieldAt 25 t3 4) fun t28 =>
 opQ Tryd.prog w13 (Instr.loadAt 23 t28) fun t29 =>
 opP Tryd.prog (Builtin.len_ #[23] 3 #[t29]) fun t30 =>
 opP Tryd.prog (bsem .eql 3 true t30 (Value.int .i64 0)) fun t31 =>
 K14 [t31] w13) (K14 [undef] w13)) (fun s15 _d16 w17 =>
 oPick t26 (s15.getD 0 undef) (Value.bool false) fun t32 =>
 K t32 w17)))) (opP Tryd.prog (bsem .eql 22 true t10 (Value.int .u8 5)) fun t34 =>
 oCond t34 (opP Tryd.prog (Instr.fieldAt 25 t3 1) fun t35 =>
 opQ Tryd.prog w5 (Instr.loadAt 4 t35) fun t36 =>
 opP Tryd.prog (Op.unary .not t36) fun t37 =>
 sJoin (fun K18 => gIf t37 true (opP Tryd.prog (Instr.fieldAt 25 t3 2) fun t39 =>
 opQ Tryd.prog w5 (Instr.loadAt 3 t39) fun t40 =>
 opP Tryd.prog (bsem .eql 3 true t40 (Value.int .i64 0)) fun t41 =>
 K18 [t41] w5) (K18 [undef] w5)) (fun s19 _d20 w21 =>
 oPick t37 (s19.getD 0 undef) (Value.bool false) fun t42 =>
 sJoin (fun K22 => gIf t42 true (opP Tryd.prog (Instr.fieldAt 25 t3 3) fun t44 =>
 opQ Tryd.prog w21 (Instr.loadAt 3 t44) fun t45 =>
 opP Tryd.prog (bsem .geq 3 true t45 (Value.int .i64 0)) fun t46 =>
 K22 [t46] w21) (K22 [undef] w21)) (fun s23 _d24 w25 =>
 oPick t42 (s23.getD 0 undef) (Value.bool false) fun t47 =>
 sJoin (fun K26 => gIf t47 true (opP Tryd.prog (Instr.fieldAt 25 t3 3) fun t49 =>
 opQ Tryd.prog w25 (Instr.loadAt 3 t49) fun t50 =>
 opP Tryd.prog (bsem .lss 3 false t50 t1) fun t52 =>
 K26 [t52] w25) (K26 [undef] w25)) (fun s27 _d28 w29 =>
 oPick t47 (s27.getD 0 undef) (Value.bool false) fun t53 =>
 sJoin (fun K30 => gIf t53 true (opP Tryd.prog (Instr.fieldAt 25 t3 4) fun t55 =>
 opQ Tryd.prog w29 (Instr.loadAt 23 t55) fun t56 =>
 opP Tryd.prog (Builtin.len_ #[23] 3 #[t56]) fun t57 =>
 opP Tryd.prog (bsem .eql 3 true t57 (Value.int .i64 0)) fun t58 =>
 K30 [t58] w29) (K30 [undef] w29)) (fun s31 _d32 w33 =>
 oPick t53 (s31.getD 0 undef) (Value.bool false) fun t59 =>
 K t59 w33))))) (opP Tryd.prog (bsem .eql 22 true t10 (Value.int .u8 3)) fun t61 =>
 oCond t61 (opP Tryd.prog (Instr.fieldAt 25 t3 1) fun t62 =>
 opQ Tryd.prog w5 (Instr.loadAt 4 t62) fun t63 =>
 opP Tryd.prog (Op.unary .not t63) fun t64 =>
 sJoin (fun K34 => gIf t64 true (opP Tryd.prog (Instr.fieldAt 25 t3 2) fun t66 =>
 opQ Tryd.prog w5 (Instr.loadAt 3 t66) fun t67 =>
 opP Tryd.prog (bsem .eql 3 true t67 (Value.int .i64 0)) fun t68 =>
 K34 [t68] w5) (K34 [undef] w5)) (fun s35 _d36 w37 =>
 oPick t64 (s35.getD 0 undef) (Value.bool false) fun t69 =>
 sJoin (fun K38 => gIf t69 true (opP Tryd.prog (Instr.fieldAt 25 t3 3) fun t71 =>
 opQ Tryd.prog w37 (Instr.loadAt 3 t71) fun t72 =>
 opP Tryd.prog (bsem .eql 3 true t72 (Value.int .i64 0)) fun t73 =>
 K38 [t73] w37) (K38 [undef] w37)) (fun s39 _d40 w41 =>
 oPick t69 (s39.getD 0 undef) (Value.bool false) fun t74 =>
 sJoin (fun K42 => gIf t74 true (opP Tryd.prog (Instr.fieldAt 25 t3 4) fun t76 =>
 opQ Tryd.prog w41 (Instr.loadAt 23 t76) fun t77 =>
 opP Tryd.prog (Builtin.len_ #[23] 3 #[t77]) fun t78 =>
 opP Tryd.prog (bsem .eql 3 true t78 (Value.int .i64 1)) fun t79 =>
 K42 [t79] w41) (K42 [undef] w41)) (fun s43 _d44 w45 =>
 oPick t74 (s43.getD 0 undef) (Value.bool false) fun t80 =>
 sJoin (fun K46 => gIf t80 true (opP Tryd.prog (Instr.fieldAt 25 t3 4) fun t82 =>
 opQ Tryd.prog w45 (Instr.loadAt 23 t82) fun t83 =>
 opP Tryd.prog (Instr.indexAt 23 t83 (Value.int .i64 0)) fun t84 =>
 opQ Tryd.prog w45 (Instr.loadAt 25 t84) fun t85 =>
 opP Tryd.prog (bsem .sub 3 true t2 (Value.int .i64 1)) fun t88 =>
 oCall Tryd.prog Tryd.n_ref06_look #[t85, t1, t88] w45 fun t89 w50 =>
 K46 [t89] w50) (K46 [undef] w45)) (fun s47 _d48 w49 =>
 oPick t80 (s47.getD 0 undef) (Value.bool false) fun t90 =>
 K t90 w49))))) (opP Tryd.prog (bsem .eql 22 true t10 (Value.int .u8 4)) fun t92 =>
 oCond t92 (opP Tryd.prog (Instr.fieldAt 25 t3 2) fun t93 =>
 opQ Tryd.prog w5 (Instr.loadAt 3 t93) fun t94 =>
 opP Tryd.prog (bsem .geq 3 true t94 (Value.int .i64 (-1))) fun t95 =>
 sJoin (fun K51 => gIf t95 true (opP Tryd.prog (Instr.fieldAt 25 t3 3) fun t97 =>
 opQ Tryd.prog w5 (Instr.loadAt 3 t97) fun t98 =>
 opP Tryd.prog (bsem .eql 3 true t98 (Value.int .i64 0)) fun t99 =>
 K51 [t99] w5) (K51 [undef] w5)) (fun s52 _d53 w54 =>
 oPick t95 (s52.getD 0 undef) (Value.bool false) fun t100 =>
 sJoin (fun K55 => gIf t100 true (opP Tryd.prog (Instr.fieldAt 25 t3 4) fun t102 =>
 opQ Tryd.prog w54 (Instr.loadAt 23 t102) fun t103 =>
 opP Tryd.prog (Builtin.len_ #[23] 3 #[t103]) fun t104 =>
 opP Tryd.prog (bsem .eql 3 true t104 (Value.int .i64 1)) fun t105 =>
 K55 [t105] w54) (K55 [undef] w54)) (fun s56 _d57 w58 =>
 oPick t100 (s56.getD 0 undef) (Value.bool false) fun t106 =>
 sJoin (fun K59 => gIf t106 true (opP Tryd.prog (Instr.fieldAt 25 t3 4) fun t108 =>
 opQ Tryd.prog w58 (Instr.loadAt 23 t108) fun t109 =>
 opP Tryd.prog (Instr.indexAt 23 t109 (Value.int .i64 0)) fun t110 =>
 opQ Tryd.prog w58 (Instr.loadAt 25 t110) fun t111 =>
 opP Tryd.prog (bsem .sub 3 true t2 (Value.int .i64 1)) fun t114 =>
 oCall Tryd.prog Tryd.n_ref06_look #[t111, t1, t114] w58 fun t115 w63 =>
 K59 [t115] w63) (K59 [undef] w58)) (fun s60 _d61 w62 =>
 oPick t106 (s60.getD 0 undef) (Value.bool false) fun t116 =>
 K t116 w62)))) (K (Value.bool false) w5))))))
theorem Tryd.E_ref06_look (t0 t1 t2 : Value) (w : World) (K : Value → World → Prop) : sw ⟨false, false⟩ Tryd.prog (fun _ _ => False) Tryd.A_ref06_look (bodyOf Tryd.f72) [t0, t1, t2, undef, undef, undef, undef, undef, undef, undef, undef, undef, undef, undef, undef, undef, undef, undef, undef, undef, undef, undef, undef, undef, undef, undef, undef, undef, undef, undef, undef, undef, undef, undef, undef, undef, undef, undef, undef, undef, undef, undef, undef, undef, undef, undef, undef, undef, undef, undef, undef, undef, undef, undef, undef, undef, undef, undef, undef, undef, undef, undef, undef, undef, undef, undef, undef, undef, undef, undef, undef, undef, undef, undef, undef, undef, undef, undef, undef, undef, undef, undef, undef, undef, undef, undef, undef, undef, undef, undef, undef, undef, undef, undef, undef, undef, undef, undef, undef, undef, undef, undef, undef, undef, undef, undef, undef, undef, undef, undef, undef, undef, undef, undef, undef, undef, undef] w (topQ false Tryd.prog Tryd.f72 w K) = Tryd.F_ref06_look t0 t1 t2 w K := by kernel_rfl
theorem Tryd.C_ref06_look : chk ⟨false, false⟩ Tryd.prog false Tryd.A_ref06_look (bodyOf Tryd.f72) = true := by kernel_rfl
theorem Tryd.ok_ref06_look {t0 t1 t2 : Value} {w : World} {K : Value → World → Prop} (h : Tryd.F_ref06_look t0 t1 t2 w K) : oCall Tryd.prog Tryd.n_ref06_look #[t0, t1, t2] w K :=
  calls_of_sw (cf := ⟨false, false⟩) Tryd.mixed Tryd.func72 rfl Tryd.C_ref06_look ((Tryd.E_ref06_look t0 t1 t2 w K).mpr h)

/- 38: loanword/loanwordref06.Is -/
def Tryd.A_ref06_Is : Ann := .s (.r (.op 0 .l (.op 1 .p (.nil)))) (.s (.r (.op 0 .q (.op 1 .l (.op 2 .p (.nil))))) (.n))
def Tryd.F_ref06_Is (t0 : Value) (w : World) (K : Value → World → Prop) : Prop :=
 opW Tryd.prog w (Instr.box 25 t0) fun t1 w1 =>
 opQ Tryd.prog w1 (Instr.loadAt 25 t1) fun t3 =>
 oCall Tryd.prog Tryd.n_ref06_look #[t3, (Value.int .i64 32), (Value.int .i64 48)] w1 fun t4 w2 =>
 K t4 w2
theorem Tryd.E_ref06_Is (t0 : Value) (w : World) (K : Value → World → Prop) : sw ⟨false, false⟩ Tryd.prog (fun _ _ => False) Tryd.A_ref06_Is (bodyOf Tryd.f38) [t0, undef, undef, undef, undef] w (topQ false Tryd.prog Tryd.f38 w K) = Tryd.F_ref06_Is t0 w K := by kernel_rfl
theorem Tryd.C_ref06_Is : chk ⟨false, false⟩ Tryd.prog false Tryd.A_ref06_Is (bodyOf Tryd.f38) = true := by kernel_rfl
theorem Tryd.ok_ref06_Is {t0 : Value} {w : World} {K : Value → World → Prop} (h : Tryd.F_ref06_Is t0 w K) : oCall Tryd.prog Tryd.n_ref06_Is #[t0] w K :=
  calls_of_sw (cf := ⟨false, false⟩) Tryd.mixed Tryd.func38 rfl Tryd.C_ref06_Is ((Tryd.E_ref06_Is t0 w K).mpr h)

/- 73: loanword/loanwordref06.plain -/
def Tryd.A_ref06_plain : Ann := .s (.r (.op 0 .l (.op 1 .p (.nil)))) (.s (.r (.op 0 .p (.op 1 .q (.op 2 .p (.op 3 .p (.grp 6 true [(4, .p), (5, .q), (6, .p), (7, .p)] [10] (.grp 10 false [(8, .p), (9, .q), (10, .p), (11, .q), (12, .l)] [15] (.grp 6 true [(13, .p)] [16] (.op 14 .p (.op 15 .p (.nil))))))))))) (.n))
def Tryd.F_ref06_plain (t0 : Value) (w : World) (K : Value → World → Prop) : Prop :=
 opW Tryd.prog w (Instr.box 25 t0) fun t1 w1 =>
 opP Tryd.prog (Instr.fieldAt 25 t1 0) fun t3 =>
 opQ Tryd.prog w1 (Instr.loadAt 22 t3) fun t4 =>
 opP Tryd.prog (bsem .neq 22 true t4 (Value.int .u8 4)) fun t5 =>
 sJoin (fun K2 => gIf t5 true (opP Tryd.prog (Instr.fieldAt 25 t1 0) fun t7 =>
 opQ Tryd.prog w1 (Instr.loadAt 22 t7) fun t8 =>
 opP Tryd.prog (bsem .neq 22 true t8 (Value.int .u8 3)) fun t9 =>
 K2 [t9] w1) (K2 [undef] w1)) (fun s3 _d4 w5 =>
 sJoin (fun K6 => gIf (s3.getD 0 undef) false (opP Tryd.prog (Instr.fieldAt 25 t1 4) fun t11 =>
 opQ Tryd.prog w5 (Instr.loadAt 23 t11) fun t12 =>
 opP Tryd.prog (Instr.indexAt 23 t12 (Value.int .i64 0)) fun t13 =>
 opQ Tryd.prog w5 (Instr.loadAt 25 t13) fun t14 =>
 oCall Tryd.prog Tryd.n_ref06_plain #[t14] w5 fun t15 w10 =>
 K6 [t15] w10) (K6 [undef] w5)) (fun s7 _d8 w9 =>
 sJoin (fun K11 => gIf t5 true (oPick (s3.getD 0 undef) (Value.bool true) (s7.getD 0 undef) fun t16 =>
 K11 [t16] w9) (K11 [undef] w9)) (fun s12 _d13 w14 =>
 oPick t5 (s12.getD 0 undef) (Value.bool false) fun t17 =>
 K t17 w14)))
theorem Tryd.E_ref06_plain (t0 : Value) (w : World) (K : Value → World → Prop) : sw ⟨false, false⟩ Tryd.prog (fun _ _ => False) Tryd.A_ref06_plain (bodyOf Tryd.f73) [t0, undef, undef, undef, undef, undef, undef, undef, undef, undef, undef, undef, undef, undef, undef, undef, undef, undef] w (topQ false Tryd.prog Tryd.f73 w K) = Tryd.F_ref06_plain t0 w K := by kernel_rfl
theorem Tryd.C_ref06_plain : chk ⟨false, false⟩ Tryd.prog false Tryd.A_ref06_plain (bodyOf Tryd.f73) = true := by kernel_rfl
theorem Tryd.ok_ref06_plain {t0 : Value} {w : World} {K : Value → World → Prop} (h : Tryd.F_ref06_plain t0 w K) : oCall Tryd.prog Tryd.n_ref06_plain #[t0] w K :=
  calls_of_sw (cf := ⟨false, false⟩) Tryd.mixed Tryd.func73 rfl Tryd.C_ref06_plain ((Tryd.E_ref06_plain t0 w K).mpr h)

/- 74: loanword/loanwordref06.endless -/
def Tryd.A_ref06_endless : Ann := .s (.r (.op 0 .p (.nil))) (.s (.r (.op 0 .p (.nil))) (.s (.r (.op 0 .p (.op 1 .p (.op 2 .l (.op 3 .p (.nil)))))) (.s (.r (.op 0 .p (.op 1 .p (.op 2 .l (.op 3 .l (.op 4 .p (.nil))))))) (.s (.s (.r (.op 0 .p (.nil))) (.b (.lp [5, 7] (.s (.s (.r (.op 0 .p (.op 1 .p (.op 2 .p (.op 3 .p (.nil)))))) (.c (.n) (.n))) (.s (.b (.s (.r (.op 0 .p (.op 1 .p (.op 2 .p (.op 3 .p (.op 4 .q (.op 5 .p (.op 6 .p (.op 7 .q (.op 8 .p (.nil))))))))))) (.s (.r (.op 0 .p (.nil))) (.b (.lp [5, 9] (.s (.s (.r (.op 0 .p (.op 1 .p (.op 2 .p (.op 3 .p (.nil)))))) (.c (.n) (.n))) (.j [5] (.b (.s (.r (.op 0 .p (.op 1 .p (.op 2 .p (.op 3 .p (.op 4 .q (.op 5 .l (.op 6 .l (.nil))))))))) (.s (.s (.r (.op 0 .p (.op 1 .q (.op 2 .p (.nil))))) (.c (.n) (.n))) (.s (.s (.r (.op 0 .p (.op 1 .q (.op 2 .p (.op 3 .p (.nil)))))) (.c (.s (.r (.op 0 .p (.nil))) (.n)) (.n))) (.s (.r (.op 0 .p (.op 1 .p (.op 2 .q (.op 3 .p (.op 4 .q (.op 5 .p (.nil)))))))) (.c (.s (.r (.op 0 .p (.op 1 .p (.op 2 .q (.op 3 .p (.op 4 .l (.nil))))))) (.r (.op 0 .p (.op 1 .p (.op 2 .q (.op 3 .l (.op 4 .l (.op 5 .p (.nil))))))))) (.n))))))) (.r (.op 0 .p (.op 1 .p (.op 2 .p (.nil)))))))))))) (.r (.op 0 .p (.op 1 .p (.op 2 .p (.nil)))))))))) (.s (.r (.op 0 .p (.nil))) (.n))))))
def Tryd.F_ref06_endless (t0 : Value) (t1 : Value) (w : World) (K : Value → World → Prop) : Prop :=
 opP Tryd.prog (Builtin.len_ #[50] 3 #[t0]) fun t12 =>
 opW Tryd.prog w (Instr.makeSlice 126 t12 t12) fun t13 w1 =>
 opW Tryd.prog w1 (Instr.buildSlice 68 1 #[(0, t1)]) fun t16 w2 =>
 opW Tryd.prog w2 (Builtin.append_ #[68, 68] 68 #[(Value.slice Option.none 0 0), t16]) fun t17 w3 =>
 sLoop [t17, (Value.int .i64 0)] w3 (fun s5 _d6 w7 K4 =>
 opP Tryd.prog (Builtin.len_ #[68] 3 #[(s5.getD 0 undef)]) fun t20 =>
 opP Tryd.prog (bsem .lss 3 false (s5.getD 1 undef) t20) fun t21 =>
 oCond t21 (opP Tryd.prog (Instr.indexAt 68 (s5.getD 0 undef) (s5.getD 1 undef)) fun t27 =>
 opQ Tryd.prog w7 (Instr.loadAt 3 t27) fun t28 =>
 opP Tryd.prog (Instr.indexAt 50 t0 t28) fun t29 =>
 opP Tryd.prog (Instr.fieldAt 99 t29 1) fun t30 =>
 opQ Tryd.prog w7 (Instr.loadAt 97 t30) fun t31 =>
 sLoop [(s5.getD 0 undef), (Value.int .i64 0)] w7 (fun s9 _d10 w11 K8 =>
 opP Tryd.prog (Builtin.len_ #[97] 3 #[t31]) fun t34 =>
 opP Tryd.prog (bsem .lss 3 false (s9.getD 1 undef) t34) fun t35 =>
 oCond t35 (sJoin (fun K12 =>
 opP Tryd.prog (Instr.indexAt 97 t31 (s9.getD 1 undef)) fun t40 =>
 opP Tryd.prog (Instr.fieldAt 101 t40 1) fun t41 =>
 opQ Tryd.prog w11 (Instr.loadAt 25 t41) fun t42 =>
 opW Tryd.prog w11 (Instr.alloc 25 true (.tuple #[])) fun t10 w16 =>
 opU Tryd.prog w16 (Instr.storeAt 25 t10 t42) fun w17 =>
 opP Tryd.prog (Instr.fieldAt 25 t10 0) fun t43 =>
 opQ Tryd.prog w17 (Instr.loadAt 22 t43) fun t44 =>
 opP Tryd.prog (bsem .neq 22 true t44 (Value.int .u8 5)) fun t45 =>
 oCond t45 (K12 [(s9.getD 0 undef)] w17) (opP Tryd.prog (Instr.fieldAt 25 t10 3) fun t46 =>
 opQ Tryd.prog w17 (Instr.loadAt 3 t46) fun t47 =>
 opP Tryd.prog (bsem .eql 3 false t47 t1) fun t49 =>
 oCond t49 (K (Value.bool true) w17) (opP Tryd.prog (Instr.fieldAt 25 t10 3) fun t51 =>
 opQ Tryd.prog w17 (Instr.loadAt 3 t51) fun t52 =>
 opP Tryd.prog (Instr.indexAt 126 t13 t52) fun t53 =>
 opQ Tryd.prog w17 (Instr.loadAt 4 t53) fun t54 =>
 opP Tryd.prog (Op.unary .not t54) fun t55 =>
 oCond t55 (opP Tryd.prog (Instr.fieldAt 25 t10 3) fun t57 =>
 opQ Tryd.prog w17 (Instr.loadAt 3 t57) fun t58 =>
 opP Tryd.prog (Instr.indexAt 126 t13 t58) fun t59 =>
 opU Tryd.prog w17 (Instr.storeAt 4 t59 (Value.bool true)) fun w18 =>
 opP Tryd.prog (Instr.fieldAt 25 t10 3) fun t61 =>
 opQ Tryd.prog w18 (Instr.loadAt 3 t61) fun t62 =>
 opW Tryd.prog w18 (Instr.buildSlice 68 1 #[(0, t62)]) fun t63 w19 =>
 opW Tryd.prog w19 (Builtin.append_ #[68, 68] 68 #[(s9.getD 0 undef), t63]) fun t64 w20 =>
 K12 [t64] w20) (K12 [(s9.getD 0 undef)] w17)))) (fun s13 _d14 w15 =>
 opP Tryd.prog (bsem .add 3 true (s9.getD 1 undef) (Value.int .i64 1)) fun t37 =>
 K8 [(s13.getD 0 undef), t37] w15)) (opP Tryd.prog (bsem .add 3 true (s5.getD 1 undef) (Value.int .i64 1)) fun t23 =>
 K4 [(s9.getD 0 undef), t23] w11))) (K (Value.bool false) w7))
theorem Tryd.E_ref06_endless (t0 t1 : Value) (w : World) (K : Value → World → Prop) : sw ⟨false, false⟩ Tryd.prog (fun _ _ => False) Tryd.A_ref06_endless (bodyOf Tryd.f74) [t0, t1, undef, undef, undef, undef, undef, undef, undef, undef, undef, undef, undef, undef, undef, undef, undef, undef, undef, undef, undef, undef, undef, undef, undef, undef, undef, undef, undef, undef, undef, undef, undef, undef, undef, undef, undef, undef, undef, undef, undef, undef, undef, undef, undef, undef, undef, undef, undef, undef, undef, undef, undef, undef, undef, undef, undef, undef, undef, undef, undef, undef, undef, undef, undef] w (topQ false Tryd.prog Tryd.f74 w K) = Tryd.F_ref06_endless t0 t1 w K := by kernel_rfl
theorem Tryd.C_ref06_endless : chk ⟨false, false⟩ Tryd.prog false Tryd.A_ref06_endless (bodyOf Tryd.f74) = true := by kernel_rfl
theorem Tryd.ok_ref06_endless {t0 t1 : Value} {w : World} {K : Value → World → Prop} (h : Tryd.F_ref06_endless t0 t1 w K) : oCall Tryd.prog Tryd.n_ref06_endless #[t0, t1] w K :=
  calls_of_sw (cf := ⟨false, false⟩) Tryd.mixed Tryd.func74 rfl Tryd.C_ref06_endless ((Tryd.E_ref06_endless t0 t1 w K).mpr h)

/- 75: loanword/loanwordref06.words -/
def Tryd.A_ref06_words : Ann := .s (.r (.op 0 .l (.op 1 .p (.nil)))) (.s (.s (.r (.op 0 .p (.op 1 .q (.op 2 .p (.nil))))) (.c (.s (.r (.op 0 .p (.nil))) (.n)) (.n))) (.s (.r (.op 0 .p (.nil))) (.s (.r (.op 0 .p (.op 1 .p (.op 2 .q (.op 3 .p (.op 4 .p (.op 5 .q (.op 6 .p (.nil))))))))) (.s (.s (.r (.op 0 .p (.nil))) (.b (.lp [7, 9] (.s (.s (.r (.op 0 .p (.op 1 .p (.op 2 .p (.op 3 .p (.op 4 .p (.grp 23 true [(5, .p), (6, .p), (7, .p)] [26] (.op 8 .p (.nil))))))))) (.c (.n) (.n))) (.s (.b (.r (.op 0 .p (.op 1 .p (.op 2 .p (.op 3 .p (.op 4 .p (.op 5 .p (.op 6 .q (.op 7 .p (.op 8 .p (.op 9 .p (.op 10 .l (.op 11 .p (.op 12 .p (.nil)))))))))))))))) (.r (.op 0 .p (.op 1 .p (.op 2 .p (.nil)))))))))) (.s (.r (.op 0 .p (.op 1 .p (.nil)))) (.n))))))
def Tryd.F_ref06_words (t0 : Value) (t1 : Value) (t2 : Value) (w : World) (K : Value → World → Prop) : Prop :=
 opW Tryd.prog w (Instr.box 25 t1) fun t4 w1 =>
 opP Tryd.prog (Instr.fieldAt 25 t4 0) fun t10 =>
 opQ Tryd.prog w1 (Instr.loadAt 22 t10) fun t11 =>
 opP Tryd.prog (bsem .neq 22 true t11 (Value.int .u8 5)) fun t12 =>
 oCond t12 (K (Value.int .i64 1) w1) (opP Tryd.prog (Instr.fieldAt 25 t4 3) fun t14 =>
 opQ Tryd.prog w1 (Instr.loadAt 3 t14) fun t15 =>
 opP Tryd.prog (Instr.indexAt 50 t0 t15) fun t16 =>
 opP Tryd.prog (Instr.fieldAt 99 t16 1) fun t17 =>
 opQ Tryd.prog w1 (Instr.loadAt 97 t17) fun t18 =>
 sLoop [(Value.int .i64 0), (Value.int .i64 0)] w1 (fun s3 _d4 w5 K2 =>
 opP Tryd.prog (Builtin.len_ #[97] 3 #[t18]) fun t21 =>
 opP Tryd.prog (bsem .lss 3 false (s3.getD 1 undef) t21) fun t22 =>
 sJoin (fun K6 => gIf t22 true (opP Tryd.prog (bsem .leq 3 false (s3.getD 0 undef) t2) fun t26 =>
 K6 [t26] w5) (K6 [undef] w5)) (fun s7 _d8 w9 =>
 oPick t22 (s7.getD 0 undef) (Value.bool false) fun t27 =>
 oCond t27 (opP Tryd.prog (Instr.indexAt 97 t18 (s3.getD 1 undef)) fun t34 =>
 opP Tryd.prog (Instr.fieldAt 101 t34 1) fun t35 =>
 opQ Tryd.prog w9 (Instr.loadAt 25 t35) fun t36 =>
 opP Tryd.prog (bsem .sub 3 false t2 (s3.getD 0 undef)) fun t39 =>
 oCall Tryd.prog Tryd.n_ref06_words #[t0, t36, t39] w9 fun t40 w10 =>
 opP Tryd.prog (bsem .add 3 false (s3.getD 0 undef) t40) fun t41 =>
 opP Tryd.prog (bsem .add 3 true (s3.getD 1 undef) (Value.int .i64 1)) fun t29 =>
 K2 [t41, t29] w10) (K (s3.getD 0 undef) w9))))
theorem Tryd.E_ref06_words (t0 t1 t2 : Value) (w : World) (K : Value → World → Prop) : sw ⟨false, false⟩ Tryd.prog (fun _ _ => False) Tryd.A_ref06_words (bodyOf Tryd.f75) [t0, t1, t2, undef, undef, undef, undef, undef, undef, undef, undef, undef, undef, undef, undef, undef, undef, undef, undef, undef, undef, undef, undef, undef, undef, undef, undef, undef, undef, undef, undef, undef, undef, undef, undef, undef, undef, undef, undef, undef, undef, undef, undef] w (topQ false Tryd.prog Tryd.f75 w K) = Tryd.F_ref06_words t0 t1 t2 w K := by kernel_rfl
theorem Tryd.C_ref06_words : chk ⟨false, false⟩ Tryd.prog false Tryd.A_ref06_words (bodyOf Tryd.f75) = true := by kernel_rfl
theorem Tryd.ok_ref06_words {t0 t1 t2 : Value} {w : World} {K : Value → World → Prop} (h : Tryd.F_ref06_words t0 t1 t2 w K) : oCall Tryd.prog Tryd.n_ref06_words #[t0, t1, t2] w K :=
  calls_of_sw (cf := ⟨false, false⟩) Tryd.mixed Tryd.func75 rfl Tryd.C_ref06_words ((Tryd.E_ref06_words t0 t1 t2 w K).mpr h)

/- 26: loanword/loanwordref06.Structs -/
def Tryd.A_ref06_Structs : Ann := .s (.r (.op 0 .p (.op 1 .p (.nil)))) (.s (.s (.r (.op 0 .p (.op 1 .p (.op 2 .p (.nil))))) (.c (.s (.r (.op 0 .p (.op 1 .p (.nil)))) (.n)) (.n))) (.s (.s (.r (.op 0 .p (.nil))) (.b (.lp [4] (.s (.s (.r (.op 0 .p (.op 1 .p (.op 2 .p (.op 3 .p (.nil)))))) (.c (.n) (.n))) (.s (.b (.s (.r (.op 0 .p (.op 1 .p (.op 2 .p (.op 3 .p (.op 4 .q (.op 5 .p (.nil)))))))) (.s (.s (.r (.op 0 .p (.op 1 .p (.op 2 .p (.op 3 .p (.grp 26 false [(4, .p), (5, .p), (6, .p)] [29] (.op 7 .p (.nil)))))))) (.c (.s (.r (.op 0 .p (.op 1 .p (.op 2 .p (.nil))))) (.n)) (.n))) (.s (.r (.op 0 .p (.nil))) (.b (.lp [6] (.s (.s (.r (.op 0 .p (.op 1 .p (.op 2 .p (.op 3 .p (.nil)))))) (.c (.n) (.n))) (.s (.b (.s (.r (.op 0 .p (.op 1 .p (.op 2 .p (.op 3 .p (.op 4 .q (.op 5 .p (.op 6 .p (.op 7 .l (.op 8 .p (.op 9 .p (.grp 47 false [(10, .p), (11, .p), (12, .p), (13, .p), (14, .q), (15, .l), (16, .p)] [54] (.op 17 .p (.nil)))))))))))))) (.c (.s (.r (.op 0 .p (.op 1 .p (.op 2 .p (.nil))))) (.n)) (.n)))) (.r (.op 0 .p (.op 1 .p (.op 2 .p (.nil))))))))))))) (.r (.op 0 .p (.op 1 .p (.op 2 .p (.nil)))))))))) (.s (.s (.r (.op 0 .p (.nil))) (.b (.lp [7] (.s (.s (.r (.op 0 .p (.op 1 .p (.op 2 .p (.op 3 .p (.nil)))))) (.c (.n) (.n))) (.s (.b (.s (.r (.op 0 .p (.op 1 .p (.op 2 .l (.nil))))) (.c (.s (.r (.op 0 .p (.op 1 .p (.op 2 .p (.nil))))) (.n)) (.n)))) (.r (.op 0 .p (.op 1 .p (.op 2 .p (.nil)))))))))) (.s (.s (.r (.op 0 .p (.nil))) (.b (.lp [8] (.s (.s (.r (.op 0 .p (.op 1 .p (.op 2 .p (.op 3 .p (.nil)))))) (.c (.n) (.n))) (.s (.b (.s (.r (.op 0 .p (.op 1 .p (.op 2 .p (.op 3 .l (.op 4 .p (.nil))))))) (.c (.s (.r (.op 0 .p (.op 1 .p (.op 2 .p (.nil))))) (.n)) (.n)))) (.r (.op 0 .p (.op 1 .p (.op 2 .p (.nil)))))))))) (.s (.r (.op 0 .p (.op 1 .p (.nil)))) (.n))))))
def Tryd.F_ref06_Structs (t0 : Value) (w : World) (K : Value → World → Prop) : Prop :=
 opP Tryd.prog (Builtin.len_ #[50] 3 #[t0]) fun t10 =>
 opP Tryd.prog (bsem .gtr 3 true t10 (Value.int .i64 32)) fun t11 =>
 oCond t11 (K (.tuple #[(Value.int .i64 32), (Value.int .i64 2)]) w) (sLoop [(Value.int .i64 0)] w (fun s2 _d3 w4 K1 =>
 opP Tryd.prog (Builtin.len_ #[50] 3 #[t0]) fun t14 =>
 opP Tryd.prog (bsem .lss 3 false (s2.getD 0 undef) t14) fun t15 =>
 oCond t15 (opP Tryd.prog (Instr.indexAt 50 t0 (s2.getD 0 undef)) fun t20 =>
 opP Tryd.prog (Instr.fieldAt 99 t20 1) fun t21 =>
 opQ Tryd.prog w4 (Instr.loadAt 97 t21) fun t22 =>
 opP Tryd.prog (Builtin.len_ #[97] 3 #[t22]) fun t24 =>
 opP Tryd.prog (bsem .lss 3 true t24 (Value.int .i64 1)) fun t25 =>
 sJoin (fun K5 => gIf t25 false (opP Tryd.prog (Builtin.len_ #[97] 3 #[t22]) fun t28 =>
 opP Tryd.prog (bsem .gtr 3 true t28 (Value.int .i64 8)) fun t29 =>
 K5 [t29] w4) (K5 [undef] w4)) (fun s6 _d7 w8 =>
 oPick t25 (Value.bool true) (s6.getD 0 undef) fun t30 =>
 oCond t30 (K (.tuple #[(s2.getD 0 undef), (Value.int .i64 2)]) w8) (sLoop [(Value.int .i64 0)] w8 (fun s10 _d11 w12 K9 =>
 opP Tryd.prog (Builtin.len_ #[97] 3 #[t22]) fun t34 =>
 opP Tryd.prog (bsem .lss 3 false (s10.getD 0 undef) t34) fun t35 =>
 oCond t35 (opP Tryd.prog (Instr.indexAt 97 t22 (s10.getD 0 undef)) fun t40 =>
 opP Tryd.prog (Instr.fieldAt 101 t40 1) fun t41 =>
 opQ Tryd.prog w12 (Instr.loadAt 25 t41) fun t42 =>
 opP Tryd.prog (Builtin.len_ #[50] 3 #[t0]) fun t44 =>
 oCall Tryd.prog Tryd.n_ref06_look #[t42, t44, (Value.int .i64 48)] w12 fun t45 w13 =>
 opP Tryd.prog (Op.unary .not t45) fun t46 =>
 sJoin (fun K14 => gIf t46 false (opP Tryd.prog (Instr.indexAt 97 t22 (s10.getD 0 undef)) fun t50 =>
 opP Tryd.prog (Instr.fieldAt 101 t50 1) fun t51 =>
 opQ Tryd.prog w13 (Instr.loadAt 25 t51) fun t52 =>
 oCall Tryd.prog Tryd.n_ref06_plain #[t52] w13 fun t53 w18 =>
 opP Tryd.prog (Op.unary .not t53) fun t54 =>
 K14 [t54] w18) (K14 [undef] w13)) (fun s15 _d16 w17 =>
 oPick t46 (Value.bool true) (s15.getD 0 undef) fun t55 =>
 oCond t55 (K (.tuple #[(s2.getD 0 undef), (Value.int .i64 2)]) w17) (opP Tryd.prog (bsem .add 3 true (s10.getD 0 undef) (Value.int .i64 1)) fun t37 =>
 K9 [t37] w17))) (opP Tryd.prog (bsem .add 3 true (s2.getD 0 undef) (Value.int .i64 1)) fun t17 =>
 K1 [t17] w12))))) (sLoop [(Value.int .i64 0)] w4 (fun s20 _d21 w22 K19 =>
 opP Tryd.prog (Builtin.len_ #[50] 3 #[t0]) fun t59 =>
 opP Tryd.prog (bsem .lss 3 false (s20.getD 0 undef) t59) fun t60 =>
 oCond t60 (oCall Tryd.prog Tryd.n_ref06_endless #[t0, (s20.getD 0 undef)] w22 fun t65 w23 =>
 oCond t65 (K (.tuple #[(s20.getD 0 undef), (Value.int .i64 2)]) w23) (opP Tryd.prog (bsem .add 3 true (s20.getD 0 undef) (Value.int .i64 1)) fun t62 =>
 K19 [t62] w23)) (sLoop [(Value.int .i64 0)] w22 (fun s25 _d26 w27 K24 =>
 opP Tryd.prog (Builtin.len_ #[50] 3 #[t0]) fun t69 =>
 opP Tryd.prog (bsem .lss 3 false (s25.getD 0 undef) t69) fun t70 =>
 oCond t70 (opP Tryd.prog (Instr.build 25 #[(0, (Value.int .u8 5)), (3, (s25.getD 0 undef))]) fun t75 =>
 oCall Tryd.prog Tryd.n_ref06_words #[t0, t75, (Value.int .i64 16)] w27 fun t76 w28 =>
 opP Tryd.prog (bsem .gtr 3 true t76 (Value.int .i64 16)) fun t77 =>
 oCond t77 (K (.tuple #[(s25.getD 0 undef), (Value.int .i64 2)]) w28) (opP Tryd.prog (bsem .add 3 true (s25.getD 0 undef) (Value.int .i64 1)) fun t72 =>
 K24 [t72] w28)) (K (.tuple #[(Value.int .i64 0), (Value.int .i64 0)]) w27)))))))
theorem Tryd.E_ref06_Structs (t0 : Value) (w : World) (K : Value → World → Prop) : sw ⟨false, false⟩ Tryd.prog (fun _ _ => False) Tryd.A_ref06_Structs (bodyOf Tryd.f26) [t0, undef, undef, undef, undef, undef, undef, undef, undef, undef, undef, undef, undef, undef, undef, undef, undef, undef, undef, undef, undef, undef, undef, undef, undef, undef, undef, undef, undef, undef, undef, undef, undef, undef, undef, undef, undef, undef, undef, undef, undef, undef, undef, undef, undef, undef, undef, undef, undef, undef, undef, undef, undef, undef, undef, undef, undef, undef, undef, undef, undef, undef, undef, undef, undef, undef, undef, undef, undef, undef, undef, undef, undef, undef, undef, undef, undef, undef, undef] w (topQ false Tryd.prog Tryd.f26 w K) = Tryd.F_ref06_Structs t0 w K := by kernel_rfl
theorem Tryd.C_ref06_Structs : chk ⟨false, false⟩ Tryd.prog false Tryd.A_ref06_Structs (bodyOf Tryd.f26) = true := by kernel_rfl
theorem Tryd.ok_ref06_Structs {t0 : Value} {w : World} {K : Value → World → Prop} (h : Tryd.F_ref06_Structs t0 w K) : oCall Tryd.prog Tryd.n_ref06_Structs #[t0] w K :=
  calls_of_sw (cf := ⟨false, false⟩) Tryd.mixed Tryd.func26 rfl Tryd.C_ref06_Structs ((Tryd.E_ref06_Structs t0 w K).mpr h)

/- 28: loanword/loanwordref06.May -/
def Tryd.A_ref06_May : Ann := .s (.r (.op 0 .l (.op 1 .p (.nil)))) (.s (.r (.op 0 .p (.op 1 .l (.op 2 .p (.op 3 .p (.op 4 .p (.op 5 .p (.op 6 .p (.nil))))))))) (.s (.r (.op 0 .p (.op 1 .p (.op 2 .p (.grp 14 true [(3, .q), (4, .p), (5, .p), (6, .l)] [18] (.op 7 .p (.op 8 .p (.nil)))))))) (.n)))
def Tryd.F_ref06_May (t0 : Value) (t1 : Value) (w : World) (K : Value → World → Prop) : Prop :=
 opW Tryd.prog w (Instr.box 25 t1) fun t3 w1 =>
 oCall Tryd.prog Tryd.n_ref06_Structs #[t0] w1 fun t9 w2 =>
 opP Tryd.prog (Instr.extract t9 0) fun _t10 =>
 opP Tryd.prog (Instr.extract t9 1) fun t11 =>
 opP Tryd.prog (bsem .eql 3 true t11 (Value.int .i64 0)) fun t13 =>
 sJoin (fun K3 => gIf t13 true (opQ Tryd.prog w2 (Instr.loadAt 25 t3) fun t15 =>
 opP Tryd.prog (Builtin.len_ #[50] 3 #[t0]) fun t17 =>
 oCall Tryd.prog Tryd.n_ref06_look #[t15, t17, (Value.int .i64 48)] w2 fun t18 w7 =>
 K3 [t18] w7) (K3 [undef] w2)) (fun s4 _d5 w6 =>
 oPick t13 (s4.getD 0 undef) (Value.bool false) fun t19 =>
 K t19 w6)
theorem Tryd.E_ref06_May (t0 t1 : Value) (w : World) (K : Value → World → Prop) : sw ⟨false, false⟩ Tryd.prog (fun _ _ => False) Tryd.A_ref06_May (bodyOf Tryd.f28) [t0, t1, undef, undef, undef, undef, undef, undef, undef, undef, undef, undef, undef, undef, undef, undef, undef, undef, undef, undef] w (topQ false Tryd.prog Tryd.f28 w K) = Tryd.F_ref06_May t0 t1 w K := by kernel_rfl
theorem Tryd.C_ref06_May : chk ⟨false, false⟩ Tryd.prog false Tryd.A_ref06_May (bodyOf Tryd.f28) = true := by kernel_rfl
theorem Tryd.ok_ref06_May {t0 t1 : Value} {w : World} {K : Value → World → Prop} (h : Tryd.F_ref06_May t0 t1 w K) : oCall Tryd.prog Tryd.n_ref06_May #[t0, t1] w K :=
  calls_of_sw (cf := ⟨false, false⟩) Tryd.mixed Tryd.func28 rfl Tryd.C_ref06_May ((Tryd.E_ref06_May t0 t1 w K).mpr h)

/- 32: loanword/loanwordref06.Words -/
def Tryd.A_ref06_Words : Ann := .s (.r (.op 0 .l (.op 1 .p (.op 2 .p (.nil))))) (.s (.s (.r (.op 0 .p (.op 1 .q (.op 2 .l (.op 3 .p (.nil)))))) (.c (.s (.r (.op 0 .p (.op 1 .p (.nil)))) (.n)) (.n))) (.s (.r (.op 0 .p (.op 1 .q (.op 2 .l (.op 3 .p (.op 4 .p (.nil))))))) (.n)))
def Tryd.F_ref06_Words (t0 : Value) (t1 : Value) (w : World) (K : Value → World → Prop) : Prop :=
 opW Tryd.prog w (Instr.box 25 t1) fun t3 w1 =>
 opQ Tryd.prog w1 (Instr.loadAt 25 t3) fun t7 =>
 oCall Tryd.prog Tryd.n_ref06_May #[t0, t7] w1 fun t8 w2 =>
 opP Tryd.prog (Op.unary .not t8) fun t9 =>
 oCond t9 (K (.tuple #[(Value.int .i64 0), (Value.int .i64 2)]) w2) (opQ Tryd.prog w2 (Instr.loadAt 25 t3) fun t11 =>
 oCall Tryd.prog Tryd.n_ref06_words #[t0, t11, (Value.int .i64 16)] w2 fun t12 w3 =>
 K (.tuple #[t12, (Value.int .i64 0)]) w3)
theorem Tryd.E_ref06_Words (t0 t1 : Value) (w : World) (K : Value → World → Prop) : sw ⟨false, false⟩ Tryd.prog (fun _ _ => False) Tryd.A_ref06_Words (bodyOf Tryd.f32) [t0, t1, undef, undef, undef, undef, undef, undef, undef, undef, undef, undef, undef] w (topQ false Tryd.prog Tryd.f32 w K) = Tryd.F_ref06_Words t0 t1 w K := by kernel_rfl
theorem Tryd.C_ref06_Words : chk ⟨false, false⟩ Tryd.prog false Tryd.A_ref06_Words (bodyOf Tryd.f32) = true := by kernel_rfl
theorem Tryd.ok_ref06_Words {t0 t1 : Value} {w : World} {K : Value → World → Prop} (h : Tryd.F_ref06_Words t0 t1 w K) : oCall Tryd.prog Tryd.n_ref06_Words #[t0, t1] w K :=
  calls_of_sw (cf := ⟨false, false⟩) Tryd.mixed Tryd.func32 rfl Tryd.C_ref06_Words ((Tryd.E_ref06_Words t0 t1 w K).mpr h)

/- 77: loanword/loanwordref06.drops -/
def Tryd.A_ref06_drops : Ann := .s (.r (.op 0 .l (.op 1 .p (.nil)))) (.s (.s (.r (.op 0 .p (.op 1 .q (.op 2 .p (.nil))))) (.c (.s (.r (.op 0 .p (.op 1 .q (.op 2 .p (.op 3 .p (.nil)))))) (.n)) (.n))) (.s (.r (.op 0 .p (.op 1 .p (.op 2 .q (.op 3 .p (.op 4 .p (.op 5 .q (.op 6 .p (.nil))))))))) (.s (.s (.r (.op 0 .p (.nil))) (.b (.lp [6] (.s (.s (.r (.op 0 .p (.op 1 .p (.op 2 .p (.op 3 .p (.nil)))))) (.c (.n) (.n))) (.s (.b (.s (.r (.op 0 .p (.op 1 .p (.op 2 .p (.op 3 .p (.op 4 .p (.op 5 .q (.op 6 .l (.nil))))))))) (.c (.s (.r (.op 0 .p (.nil))) (.n)) (.n)))) (.r (.op 0 .p (.op 1 .p (.op 2 .p (.nil)))))))))) (.s (.r (.op 0 .p (.nil))) (.n)))))
def Tryd.F_ref06_drops (t0 : Value) (t1 : Value) (w : World) (K : Value → World → Prop) : Prop :=
 opW Tryd.prog w (Instr.box 25 t1) fun t3 w1 =>
 opP Tryd.prog (Instr.fieldAt 25 t3 0) fun t7 =>
 opQ Tryd.prog w1 (Instr.loadAt 22 t7) fun t8 =>
 opP Tryd.prog (bsem .neq 22 true t8 (Value.int .u8 5)) fun t9 =>
 oCond t9 (opP Tryd.prog (Instr.fieldAt 25 t3 0) fun t10 =>
 opQ Tryd.prog w1 (Instr.loadAt 22 t10) fun t11 =>
 opP Tryd.prog (bsem .eql 22 true t11 (Value.int .u8 3)) fun t12 =>
 K t12 w1) (opP Tryd.prog (Instr.fieldAt 25 t3 3) fun t14 =>
 opQ Tryd.prog w1 (Instr.loadAt 3 t14) fun t15 =>
 opP Tryd.prog (Instr.indexAt 50 t0 t15) fun t16 =>
 opP Tryd.prog (Instr.fieldAt 99 t16 1) fun t17 =>
 opQ Tryd.prog w1 (Instr.loadAt 97 t17) fun t18 =>
 sLoop [(Value.int .i64 0)] w1 (fun s3 _d4 w5 K2 =>
 opP Tryd.prog (Builtin.len_ #[97] 3 #[t18]) fun t21 =>
 opP Tryd.prog (bsem .lss 3 false (s3.getD 0 undef) t21) fun t22 =>
 oCond t22 (opP Tryd.prog (Instr.indexAt 97 t18 (s3.getD 0 undef)) fun t28 =>
 opP Tryd.prog (Instr.fieldAt 101 t28 1) fun t29 =>
 opQ Tryd.prog w5 (Instr.loadAt 25 t29) fun t30 =>
 oCall Tryd.prog Tryd.n_ref06_drops #[t0, t30] w5 fun t31 w6 =>
 oCond t31 (K (Value.bool true) w6) (opP Tryd.prog (bsem .add 3 true (s3.getD 0 undef) (Value.int .i64 1)) fun t24 =>
 K2 [t24] w6)) (K (Value.bool false) w5)))
theorem Tryd.E_ref06_drops (t0 t1 : Value) (w : World) (K : Value → World → Prop) : sw ⟨false, false⟩ Tryd.prog (fun _ _ => False) Tryd.A_ref06_drops (bodyOf Tryd.f77) [t0, t1, undef, undef, undef, undef, undef, undef, undef, undef, undef, undef, undef, undef, undef, undef, undef, undef, undef, undef, undef, undef, undef, undef, undef, undef, undef, undef, undef, undef, undef, undef] w (topQ false Tryd.prog Tryd.f77 w K) = Tryd.F_ref06_drops t0 t1 w K := by kernel_rfl
theorem Tryd.C_ref06_drops : chk ⟨false, false⟩ Tryd.prog false Tryd.A_ref06_drops (bodyOf Tryd.f77) = true := by kernel_rfl
theorem Tryd.ok_ref06_drops {t0 t1 : Value} {w : World} {K : Value → World → Prop} (h : Tryd.F_ref06_drops t0 t1 w K) : oCall Tryd.prog Tryd.n_ref06_drops #[t0, t1] w K :=
  calls_of_sw (cf := ⟨false, false⟩) Tryd.mixed Tryd.func77 rfl Tryd.C_ref06_drops ((Tryd.E_ref06_drops t0 t1 w K).mpr h)

/- 34: loanword/loanwordref06.Drops -/
def Tryd.A_ref06_Drops : Ann := .s (.r (.op 0 .l (.op 1 .p (.op 2 .p (.nil))))) (.s (.s (.r (.op 0 .p (.op 1 .q (.op 2 .l (.op 3 .p (.nil)))))) (.c (.s (.r (.op 0 .p (.op 1 .p (.nil)))) (.n)) (.n))) (.s (.r (.op 0 .p (.op 1 .q (.op 2 .l (.op 3 .p (.op 4 .p (.nil))))))) (.n)))
def Tryd.F_ref06_Drops (t0 : Value) (t1 : Value) (w : World) (K : Value → World → Prop) : Prop :=
 opW Tryd.prog w (Instr.box 25 t1) fun t3 w1 =>
 opQ Tryd.prog w1 (Instr.loadAt 25 t3) fun t7 =>
 oCall Tryd.prog Tryd.n_ref06_May #[t0, t7] w1 fun t8 w2 =>
 opP Tryd.prog (Op.unary .not t8) fun t9 =>
 oCond t9 (K (.tuple #[(Value.bool false), (Value.int .i64 2)]) w2) (opQ Tryd.prog w2 (Instr.loadAt 25 t3) fun t11 =>
 oCall Tryd.prog Tryd.n_ref06_drops #[t0, t11] w2 fun t12 w3 =>
 K (.tuple #[t12, (Value.int .i64 0)]) w3)
theorem Tryd.E_ref06_Drops (t0 t1 : Value) (w : World) (K : Value → World → Prop) : sw ⟨false, false⟩ Tryd.prog (fun _ _ => False) Tryd.A_ref06_Drops (bodyOf Tryd.f34) [t0, t1, undef, undef, undef, undef, undef, undef, undef, undef, undef, undef, undef] w (topQ false Tryd.prog Tryd.f34 w K) = Tryd.F_ref06_Drops t0 t1 w K := by kernel_rfl
theorem Tryd.C_ref06_Drops : chk ⟨false, false⟩ Tryd.prog false Tryd.A_ref06_Drops (bodyOf Tryd.f34) = true := by kernel_rfl
theorem Tryd.ok_ref06_Drops {t0 t1 : Value} {w : World} {K : Value → World → Prop} (h : Tryd.F_ref06_Drops t0 t1 w K) : oCall Tryd.prog Tryd.n_ref06_Drops #[t0, t1] w K :=
  calls_of_sw (cf := ⟨false, false⟩) Tryd.mixed Tryd.func34 rfl Tryd.C_ref06_Drops ((Tryd.E_ref06_Drops t0 t1 w K).mpr h)

/- 30: loanword/loanwordref06.Copies -/
def Tryd.A_ref06_Copies : Ann := .s (.r (.op 0 .l (.op 1 .p (.nil)))) (.s (.r (.op 0 .q (.op 1 .l (.op 2 .p (.grp 5 true [(3, .p), (4, .q), (5, .p), (6, .p)] [9] (.grp 9 false [(7, .p), (8, .q), (9, .p)] [12] (.grp 5 true [(10, .p), (11, .p)] [14] (.grp 14 false [(12, .p), (13, .q), (14, .p), (15, .p)] [18] (.grp 18 true [(16, .p), (17, .q), (18, .p)] [21] (.grp 14 false [(19, .p)] [22] (.grp 5 true [(20, .p)] [23] (.op 21 .p (.op 22 .p (.nil)))))))))))))) (.n))
def Tryd.F_ref06_Copies (t0 : Value) (w : World) (K : Value → World → Prop) : Prop :=
 opW Tryd.prog w (Instr.box 25 t0) fun t1 w1 =>
 opQ Tryd.prog w1 (Instr.loadAt 25 t1) fun t3 =>
 oCall Tryd.prog Tryd.n_ref06_Is #[t3] w1 fun t4 w2 =>
 sJoin (fun K3 => gIf t4 true (opP Tryd.prog (Instr.fieldAt 25 t1 0) fun t6 =>
 opQ Tryd.prog w2 (Instr.loadAt 22 t6) fun t7 =>
 opP Tryd.prog (bsem .eql 22 true t7 (Value.int .u8 1)) fun t8 =>
 K3 [t8] w2) (K3 [undef] w2)) (fun s4 _d5 w6 =>
 sJoin (fun K7 => gIf (s4.getD 0 undef) false (opP Tryd.prog (Instr.fieldAt 25 t1 0) fun t10 =>
 opQ Tryd.prog w6 (Instr.loadAt 22 t10) fun t11 =>
 opP Tryd.prog (bsem .eql 22 true t11 (Value.int .u8 2)) fun t12 =>
 K7 [t12] w6) (K7 [undef] w6)) (fun s8 _d9 w10 =>
 sJoin (fun K11 => gIf t4 true (oPick (s4.getD 0 undef) (Value.bool true) (s8.getD 0 undef) fun t13 =>
 K11 [t13] w10) (K11 [undef] w10)) (fun s12 _d13 w14 =>
 sJoin (fun K15 => gIf (s12.getD 0 undef) false (opP Tryd.prog (Instr.fieldAt 25 t1 0) fun t15 =>
 opQ Tryd.prog w14 (Instr.loadAt 22 t15) fun t16 =>
 opP Tryd.prog (bsem .eql 22 true t16 (Value.int .u8 4)) fun t17 =>
 K15 [t17] w14) (K15 [undef] w14)) (fun s16 _d17 w18 =>
 sJoin (fun K19 => gIf (s16.getD 0 undef) true (opP Tryd.prog (Instr.fieldAt 25 t1 1) fun t19 =>
 opQ Tryd.prog w18 (Instr.loadAt 4 t19) fun t20 =>
 opP Tryd.prog (Op.unary .not t20) fun t21 =>
 K19 [t21] w18) (K19 [undef] w18)) (fun s20 _d21 w22 =>
 sJoin (fun K23 => gIf (s12.getD 0 undef) false (oPick (s16.getD 0 undef) (s20.getD 0 undef) (Value.bool false) fun t22 =>
 K23 [t22] w22) (K23 [undef] w22)) (fun s24 _d25 w26 =>
 sJoin (fun K27 => gIf t4 true (oPick (s12.getD 0 undef) (Value.bool true) (s24.getD 0 undef) fun t23 =>
 K27 [t23] w26) (K27 [undef] w26)) (fun s28 _d29 w30 =>
 oPick t4 (s28.getD 0 undef) (Value.bool false) fun t24 =>
 K t24 w30)))))))
theorem Tryd.E_ref06_Copies (t0 : Value) (w : World) (K : Value → World → Prop) : sw ⟨false, false⟩ Tryd.prog (fun _ _ => False) Tryd.A_ref06_Copies (bodyOf Tryd.f30) [t0, undef, undef, undef, undef, undef, undef, undef, undef, undef, undef, undef, undef, undef, undef, undef, undef, undef, undef, undef, undef, undef, undef, undef, undef] w (topQ false Tryd.prog Tryd.f30 w K) = Tryd.F_ref06_Copies t0 w K := by kernel_rfl
theorem Tryd.C_ref06_Copies : chk ⟨false, false⟩ Tryd.prog false Tryd.A_ref06_Copies (bodyOf Tryd.f30) = true := by kernel_rfl
theorem Tryd.ok_ref06_Copies {t0 : Value} {w : World} {K : Value → World → Prop} (h : Tryd.F_ref06_Copies t0 w K) : oCall Tryd.prog Tryd.n_ref06_Copies #[t0] w K :=
  calls_of_sw (cf := ⟨false, false⟩) Tryd.mixed Tryd.func30 rfl Tryd.C_ref06_Copies ((Tryd.E_ref06_Copies t0 w K).mpr h)

/- 79: loanword/loanwordref06.Own -/
def Tryd.A_ref06_Own : Ann := .s (.r (.op 0 .l (.op 1 .l (.nil)))) (.s (.r (.op 0 .p (.op 1 .q (.op 2 .p (.nil))))) (.s (.r (.op 0 .p (.op 1 .l (.nil)))) (.s (.s (.r (.op 0 .p (.nil))) (.b (.lp [4] (.s (.s (.r (.op 0 .p (.op 1 .p (.op 2 .p (.op 3 .p (.nil)))))) (.c (.n) (.n))) (.s (.b (.r (.op 0 .p (.op 1 .q (.op 2 .p (.op 3 .p (.op 4 .p (.op 5 .q (.op 6 .u (.op 7 .u (.op 8 .l (.op 9 .p (.op 10 .l (.nil)))))))))))))) (.r (.op 0 .p (.op 1 .p (.op 2 .p (.nil)))))))))) (.s (.r (.op 0 .q (.op 1 .l (.nil)))) (.n)))))
def Tryd.F_ref06_Own (t0 : Value) (w : World) (K : Value → World → Prop) : Prop :=
 opW Tryd.prog w (Instr.box 25 t0) fun t1 w1 =>
 opW Tryd.prog w1 (Instr.alloc 25 true (.tuple #[])) fun t2 w2 =>
 opP Tryd.prog (Instr.fieldAt 25 t1 4) fun t5 =>
 opQ Tryd.prog w2 (Instr.loadAt 23 t5) fun t6 =>
 opP Tryd.prog (Instr.fieldAt 25 t1 4) fun t7 =>
 opU Tryd.prog w2 (Instr.storeAt 23 t7 (Value.slice Option.none 0 0)) fun w3 =>
 sLoop [(Value.int .i64 0)] w3 (fun s5 _d6 w7 K4 =>
 opP Tryd.prog (Builtin.len_ #[23] 3 #[t6]) fun t10 =>
 opP Tryd.prog (bsem .lss 3 false (s5.getD 0 undef) t10) fun t11 =>
 oCond t11 (opP Tryd.prog (Instr.fieldAt 25 t1 4) fun t14 =>
 opQ Tryd.prog w7.drew (Instr.loadAt 23 t14) fun t15 =>
 opP Tryd.prog (Instr.indexAt 23 t6 (s5.getD 0 undef)) fun t18 =>
 opQ Tryd.prog w7.drew (Instr.loadAt 25 t18) fun t19 =>
 oCall Tryd.prog Tryd.n_ref06_Own #[t19] w7.drew fun t20 w8 =>
 Ext w7.drew w8 ∧
 opW Tryd.prog w8 (Instr.buildSlice 23 1 #[(0, t20)]) fun t21 w9 =>
 Ext w8 w9 ∧
 opW Tryd.prog w9 (Builtin.append_ #[23, 23] 23 #[t15, t21]) fun t22 w10 =>
 opP Tryd.prog (Instr.fieldAt 25 t1 4) fun t23 =>
 opU Tryd.prog w10 (Instr.storeAt 23 t23 t22) fun w11 =>
 opP Tryd.prog (bsem .add 3 true (s5.getD 0 undef) (Value.int .i64 1)) fun t13 =>
 K4 [t13] w11) (opQ Tryd.prog w7 (Instr.loadAt 25 t1) fun t24 =>
 opU Tryd.prog w7 (Instr.storeAt 25 t2 t24) fun w12 =>
 opQ Tryd.prog w12 (cellSem 25 t2) fun r13 =>
 K r13 w12))
theorem Tryd.E_ref06_Own (t0 : Value) (w : World) (K : Value → World → Prop) : sw ⟨false, false⟩ Tryd.prog (fun _ _ => False) Tryd.A_ref06_Own (bodyOf Tryd.f79) [t0, undef, undef, undef, undef, undef, undef, undef, undef, undef, undef, undef, undef, undef, undef, undef, undef, undef, undef, undef, undef, undef, undef, undef, undef] w (topQ false Tryd.prog Tryd.f79 w K) = Tryd.F_ref06_Own t0 w K := by kernel_rfl
theorem Tryd.C_ref06_Own : chk ⟨false, false⟩ Tryd.prog false Tryd.A_ref06_Own (bodyOf Tryd.f79) = true := by kernel_rfl
theorem Tryd.ok_ref06_Own {t0 : Value} {w : World} {K : Value → World → Prop} (h : Tryd.F_ref06_Own t0 w K) : oCall Tryd.prog Tryd.n_ref06_Own #[t0] w K :=
  calls_of_sw (cf := ⟨false, false⟩) Tryd.mixed Tryd.func79 rfl Tryd.C_ref06_Own ((Tryd.E_ref06_Own t0 w K).mpr h)

/- 80: loanword/loanwordref06.alike -/
def Tryd.A_ref06_alike : Ann := .s (.r (.op 0 .l (.op 1 .l (.op 2 .p (.nil))))) (.s (.s (.r (.op 0 .p (.op 1 .q (.op 2 .p (.op 3 .q (.op 4 .p (.op 5 .p (.grp 12 false [(6, .p), (7, .q), (8, .p), (9, .q), (10, .p)] [17] (.op 11 .p (.op 12 .p (.grp 19 false [(13, .p), (14, .q), (15, .p), (16, .q), (17, .p)] [24] (.op 18 .p (.op 19 .p (.grp 26 false [(20, .p), (21, .p)] [28] (.grp 28 true [(22, .p), (23, .q), (24, .p), (25, .q), (26, .p)] [33] (.grp 26 false [(27, .p)] [34] (.op 28 .p (.nil)))))))))))))))))) (.c (.s (.r (.op 0 .p (.nil))) (.n)) (.n))) (.s (.r (.op 0 .p (.op 1 .q (.op 2 .p (.op 3 .p (.op 4 .p (.grp 40 false [(5, .p), (6, .q), (7, .p), (8, .q), (9, .p), (10, .q), (11, .p), (12, .q), (13, .p), (14, .l)] [50] (.op 15 .p (.op 16 .p (.nil)))))))))) (.n)))
def Tryd.F_ref06_alike (t0 : Value) (t1 : Value) (t2 : Value) (w : World) (K : Value → World → Prop) : Prop :=
 opW Tryd.prog w (Instr.box 25 t0) fun t3 w1 =>
 opW Tryd.prog w1 (Instr.box 25 t1) fun t4 w2 =>
 opP Tryd.prog (Instr.fieldAt 25 t3 0) fun t7 =>
 opQ Tryd.prog w2 (Instr.loadAt 22 t7) fun t8 =>
 opP Tryd.prog (Instr.fieldAt 25 t4 0) fun t9 =>
 opQ Tryd.prog w2 (Instr.loadAt 22 t9) fun t10 =>
 opP Tryd.prog (bsem .neq 22 false t8 t10) fun t11 =>
 sJoin (fun K3 => gIf t11 false (opP Tryd.prog (Instr.fieldAt 25 t3 1) fun t13 =>
 opQ Tryd.prog w2 (Instr.loadAt 4 t13) fun t14 =>
 opP Tryd.prog (Instr.fieldAt 25 t4 1) fun t15 =>
 opQ Tryd.prog w2 (Instr.loadAt 4 t15) fun t16 =>
 opP Tryd.prog (bsem .neq 4 false t14 t16) fun t17 =>
 K3 [t17] w2) (K3 [undef] w2)) (fun s4 _d5 w6 =>
 oPick t11 (Value.bool true) (s4.getD 0 undef) fun t18 =>
 sJoin (fun K7 => gIf t18 false (opP Tryd.prog (Instr.fieldAt 25 t3 3) fun t20 =>
 opQ Tryd.prog w6 (Instr.loadAt 3 t20) fun t21 =>
 opP Tryd.prog (Instr.fieldAt 25 t4 3) fun t22 =>
 opQ Tryd.prog w6 (Instr.loadAt 3 t22) fun t23 =>
 opP Tryd.prog (bsem .neq 3 false t21 t23) fun t24 =>
 K7 [t24] w6) (K7 [undef] w6)) (fun s8 _d9 w10 =>
 oPick t18 (Value.bool true) (s8.getD 0 undef) fun t25 =>
 sJoin (fun K11 => gIf t25 false (K11 [t2] w10) (K11 [undef] w10)) (fun s12 _d13 w14 =>
 sJoin (fun K15 => gIf (s12.getD 0 undef) true (opP Tryd.prog (Instr.fieldAt 25 t3 2) fun t29 =>
 opQ Tryd.prog w14 (Instr.loadAt 3 t29) fun t30 =>
 opP Tryd.prog (Instr.fieldAt 25 t4 2) fun t31 =>
 opQ Tryd.prog w14 (Instr.loadAt 3 t31) fun t32 =>
 opP Tryd.prog (bsem .neq 3 false t30 t32) fun t33 =>
 K15 [t33] w14) (K15 [undef] w14)) (fun s16 _d17 w18 =>
 sJoin (fun K19 => gIf t25 false (oPick (s12.getD 0 undef) (s16.getD 0 undef) (Value.bool false) fun t34 =>
 K19 [t34] w18) (K19 [undef] w18)) (fun s20 _d21 w22 =>
 oPick t25 (Value.bool true) (s20.getD 0 undef) fun t35 =>
 oCond t35 (K (Value.bool false) w22) (opP Tryd.prog (Instr.fieldAt 25 t3 4) fun t36 =>
 opQ Tryd.prog w22.drew (Instr.loadAt 23 t36) fun t37 =>
 opP Tryd.prog (Builtin.len_ #[23] 3 #[t37]) fun t38 =>
 opP Tryd.prog (bsem .eql 3 true t38 (Value.int .i64 0)) fun t39 =>
 sJoin (fun K23 => gIf t39 false (opP Tryd.prog (Instr.fieldAt 25 t3 4) fun t41 =>
 opQ Tryd.prog w22.drew (Instr.loadAt 23 t41) fun t42 =>
 opP Tryd.prog (Instr.indexAt 23 t42 (Value.int .i64 0)) fun t43 =>
 opQ Tryd.prog w22.drew (Instr.loadAt 25 t43) fun t44 =>
 opP Tryd.prog (Instr.fieldAt 25 t4 4) fun t45 =>
 opQ Tryd.prog w22.drew (Instr.loadAt 23 t45) fun t46 =>
 opP Tryd.prog (Instr.indexAt 23 t46 (Value.int .i64 0)) fun t47 =>
 opQ Tryd.prog w22.drew (Instr.loadAt 25 t47) fun t48 =>
 oCall Tryd.prog Tryd.n_ref06_alike #[t44, t48, t2] w22.drew fun t50 w27 =>
 K23 [t50] w27) (K23 [undef] w22.drew)) (fun s24 _d25 w26 =>
 oPick t39 (Value.bool true) (s24.getD 0 undef) fun t51 =>
 K t51 w26)))))))
theorem Tryd.E_ref06_alike (t0 t1 t2 : Value) (w : World) (K : Value → World → Prop) : sw ⟨false, false⟩ Tryd.prog (fun _ _ => False) Tryd.A_ref06_alike (bodyOf Tryd.f80) [t0, t1, t2, undef, undef, undef, undef, undef, undef, undef, undef, undef, undef, undef, undef, undef, undef, undef, undef, undef, undef, undef, undef, undef, undef, undef, undef, undef, undef, undef, undef, undef, undef, undef, undef, undef, undef, undef, undef, undef, undef, undef, undef, undef, undef, undef, undef, undef, undef, undef, undef, undef] w (topQ false Tryd.prog Tryd.f80 w K) = Tryd.F_ref06_alike t0 t1 t2 w K := by kernel_rfl
theorem Tryd.C_ref06_alike : chk ⟨false, false⟩ Tryd.prog false Tryd.A_ref06_alike (bodyOf Tryd.f80) = true := by kernel_rfl
theorem Tryd.ok_ref06_alike {t0 t1 t2 : Value} {w : World} {K : Value → World → Prop} (h : Tryd.F_ref06_alike t0 t1 t2 w K) : oCall Tryd.prog Tryd.n_ref06_alike #[t0, t1, t2] w K :=
  calls_of_sw (cf := ⟨false, false⟩) Tryd.mixed Tryd.func80 rfl Tryd.C_ref06_alike ((Tryd.E_ref06_alike t0 t1 t2 w K).mpr h)

/- 39: loanword/loanwordref06.Alike -/
def Tryd.A_ref06_Alike : Ann := .s (.r (.op 0 .l (.op 1 .l (.op 2 .p (.nil))))) (.s (.r (.op 0 .q (.op 1 .l (.op 2 .p (.grp 7 true [(3, .q), (4, .l)] [9] (.op 5 .p (.op 6 .p (.grp 11 true [(7, .q), (8, .q), (9, .l)] [14] (.op 10 .p (.op 11 .p (.nil))))))))))) (.n))
def Tryd.F_ref06_Alike (t0 : Value) (t1 : Value) (w : World) (K : Value → World → Prop) : Prop :=
 opW Tryd.prog w (Instr.box 25 t0) fun t2 w1 =>
 opW Tryd.prog w1 (Instr.box 25 t1) fun t3 w2 =>
 opQ Tryd.prog w2 (Instr.loadAt 25 t2) fun t5 =>
 oCall Tryd.prog Tryd.n_ref06_Is #[t5] w2 fun t6 w3 =>
 sJoin (fun K4 => gIf t6 true (opQ Tryd.prog w3 (Instr.loadAt 25 t3) fun t8 =>
 oCall Tryd.prog Tryd.n_ref06_Is #[t8] w3 fun t9 w8 =>
 K4 [t9] w8) (K4 [undef] w3)) (fun s5 _d6 w7 =>
 oPick t6 (s5.getD 0 undef) (Value.bool false) fun t10 =>
 sJoin (fun K9 => gIf t10 true (opQ Tryd.prog w7 (Instr.loadAt 25 t2) fun t12 =>
 opQ Tryd.prog w7 (Instr.loadAt 25 t3) fun t13 =>
 oCall Tryd.prog Tryd.n_ref06_alike #[t12, t13, (Value.bool false)] w7 fun t14 w13 =>
 K9 [t14] w13) (K9 [undef] w7)) (fun s10 _d11 w12 =>
 oPick t10 (s10.getD 0 undef) (Value.bool false) fun t15 =>
 K t15 w12))
theorem Tryd.E_ref06_Alike (t0 t1 : Value) (w : World) (K : Value → World → Prop) : sw ⟨false, false⟩ Tryd.prog (fun _ _ => False) Tryd.A_ref06_Alike (bodyOf Tryd.f39) [t0, t1, undef, undef, undef, undef, undef, undef, undef, undef, undef, undef, undef, undef, undef, undef] w (topQ false Tryd.prog Tryd.f39 w K) = Tryd.F_ref06_Alike t0 t1 w K := by kernel_rfl
theorem Tryd.C_ref06_Alike : chk ⟨false, false⟩ Tryd.prog false Tryd.A_ref06_Alike (bodyOf Tryd.f39) = true := by kernel_rfl
theorem Tryd.ok_ref06_Alike {t0 t1 : Value} {w : World} {K : Value → World → Prop} (h : Tryd.F_ref06_Alike t0 t1 w K) : oCall Tryd.prog Tryd.n_ref06_Alike #[t0, t1] w K :=
  calls_of_sw (cf := ⟨false, false⟩) Tryd.mixed Tryd.func39 rfl Tryd.C_ref06_Alike ((Tryd.E_ref06_Alike t0 t1 w K).mpr h)

/- 40: loanword/loanwordref06.Same -/
def Tryd.A_ref06_Same : Ann := .s (.r (.op 0 .l (.op 1 .l (.op 2 .p (.nil))))) (.s (.r (.op 0 .q (.op 1 .l (.op 2 .p (.grp 7 true [(3, .q), (4, .l)] [9] (.op 5 .p (.op 6 .p (.grp 11 true [(7, .q), (8, .q), (9, .l)] [14] (.op 10 .p (.op 11 .p (.nil))))))))))) (.n))
def Tryd.F_ref06_Same (t0 : Value) (t1 : Value) (w : World) (K : Value → World → Prop) : Prop :=
 opW Tryd.prog w (Instr.box 25 t0) fun t2 w1 =>
 opW Tryd.prog w1 (Instr.box 25 t1) fun t3 w2 =>
 opQ Tryd.prog w2 (Instr.loadAt 25 t2) fun t5 =>
 oCall Tryd.prog Tryd.n_ref06_Is #[t5] w2 fun t6 w3 =>
 sJoin (fun K4 => gIf t6 true (opQ Tryd.prog w3 (Instr.loadAt 25 t3) fun t8 =>
 oCall Tryd.prog Tryd.n_ref06_Is #[t8] w3 fun t9 w8 =>
 K4 [t9] w8) (K4 [undef] w3)) (fun s5 _d6 w7 =>
 oPick t6 (s5.getD 0 undef) (Value.bool false) fun t10 =>
 sJoin (fun K9 => gIf t10 true (opQ Tryd.prog w7 (Instr.loadAt 25 t2) fun t12 =>
 opQ Tryd.prog w7 (Instr.loadAt 25 t3) fun t13 =>
 oCall Tryd.prog Tryd.n_ref06_alike #[t12, t13, (Value.bool true)] w7 fun t14 w13 =>
 K9 [t14] w13) (K9 [undef] w7)) (fun s10 _d11 w12 =>
 oPick t10 (s10.getD 0 undef) (Value.bool false) fun t15 =>
 K t15 w12))
theorem Tryd.E_ref06_Same (t0 t1 : Value) (w : World) (K : Value → World → Prop) : sw ⟨false, false⟩ Tryd.prog (fun _ _ => False) Tryd.A_ref06_Same (bodyOf Tryd.f40) [t0, t1, undef, undef, undef, undef, undef, undef, undef, undef, undef, undef, undef, undef, undef, undef] w (topQ false Tryd.prog Tryd.f40 w K) = Tryd.F_ref06_Same t0 t1 w K := by kernel_rfl
theorem Tryd.C_ref06_Same : chk ⟨false, false⟩ Tryd.prog false Tryd.A_ref06_Same (bodyOf Tryd.f40) = true := by kernel_rfl
theorem Tryd.ok_ref06_Same {t0 t1 : Value} {w : World} {K : Value → World → Prop} (h : Tryd.F_ref06_Same t0 t1 w K) : oCall Tryd.prog Tryd.n_ref06_Same #[t0, t1] w K :=
  calls_of_sw (cf := ⟨false, false⟩) Tryd.mixed Tryd.func40 rfl Tryd.C_ref06_Same ((Tryd.E_ref06_Same t0 t1 w K).mpr h)

/- 42: loanword/loanwordref06.Regions -/
def Tryd.A_ref06_Regions : Ann := .s (.r (.op 0 .l (.op 1 .p (.nil)))) (.s (.s (.r (.op 0 .q (.op 1 .l (.op 2 .p (.nil))))) (.c (.s (.r (.op 0 .p (.nil))) (.n)) (.n))) (.s (.r (.op 0 .p (.nil))) (.s (.b (.lp [3] (.s (.s (.r (.op 0 .p (.op 1 .q (.op 2 .p (.op 3 .p (.grp 10 false [(4, .p), (5, .q), (6, .p)] [13] (.op 7 .p (.nil)))))))) (.c (.n) (.n))) (.b (.j [3] (.s (.r (.op 0 .p (.op 1 .q (.op 2 .p (.nil))))) (.c (.r (.op 0 .p (.op 1 .p (.op 2 .q (.op 3 .l (.op 4 .l (.op 5 .p (.nil)))))))) (.n))) (.r (.op 0 .p (.op 1 .q (.op 2 .p (.op 3 .q (.op 4 .l (.nil)))))))))))) (.s (.r (.op 0 .p (.op 1 .p (.nil)))) (.n)))))
def Tryd.F_ref06_Regions (t0 : Value) (w : World) (K : Value → World → Prop) : Prop :=
 opW Tryd.prog w (Instr.box 25 t0) fun t1 w1 =>
 opQ Tryd.prog w1 (Instr.loadAt 25 t1) fun t4 =>
 oCall Tryd.prog Tryd.n_ref06_Is #[t4] w1 fun t5 w2 =>
 opP Tryd.prog (Op.unary .not t5) fun t6 =>
 oCond t6 (K (Value.slice Option.none 0 0) w2) (sLoop [(Value.slice Option.none 0 0)] w2 (fun s4 _d5 w6 K3 =>
 opP Tryd.prog (Instr.fieldAt 25 t1 0) fun t7 =>
 opQ Tryd.prog w6 (Instr.loadAt 22 t7) fun t8 =>
 opP Tryd.prog (bsem .eql 22 true t8 (Value.int .u8 4)) fun t9 =>
 sJoin (fun K7 => gIf t9 false (opP Tryd.prog (Instr.fieldAt 25 t1 0) fun t11 =>
 opQ Tryd.prog w6 (Instr.loadAt 22 t11) fun t12 =>
 opP Tryd.prog (bsem .eql 22 true t12 (Value.int .u8 3)) fun t13 =>
 K7 [t13] w6) (K7 [undef] w6)) (fun s8 _d9 w10 =>
 oPick t9 (Value.bool true) (s8.getD 0 undef) fun t14 =>
 oCond t14 (sJoin (fun K11 =>
 opP Tryd.prog (Instr.fieldAt 25 t1 0) fun t15 =>
 opQ Tryd.prog w10 (Instr.loadAt 22 t15) fun t16 =>
 opP Tryd.prog (bsem .eql 22 true t16 (Value.int .u8 4)) fun t17 =>
 oCond t17 (opP Tryd.prog (Instr.fieldAt 25 t1 2) fun t19 =>
 opQ Tryd.prog w10 (Instr.loadAt 3 t19) fun t20 =>
 opW Tryd.prog w10 (Instr.buildSlice 68 1 #[(0, t20)]) fun t21 w15 =>
 opW Tryd.prog w15 (Builtin.append_ #[68, 68] 68 #[(s4.getD 0 undef), t21]) fun t22 w16 =>
 K11 [t22] w16) (K11 [(s4.getD 0 undef)] w10)) (fun s12 _d13 w14 =>
 opP Tryd.prog (Instr.fieldAt 25 t1 4) fun t23 =>
 opQ Tryd.prog w14 (Instr.loadAt 23 t23) fun t24 =>
 opP Tryd.prog (Instr.indexAt 23 t24 (Value.int .i64 0)) fun t25 =>
 opQ Tryd.prog w14 (Instr.loadAt 25 t25) fun t26 =>
 opU Tryd.prog w14 (Instr.storeAt 25 t1 t26) fun w17 =>
 K3 [(s12.getD 0 undef)] w17)) (K (s4.getD 0 undef) w10))))
theorem Tryd.E_ref06_Regions (t0 : Value) (w : World) (K : Value → World → Prop) : sw ⟨false, false⟩ Tryd.prog (fun _ _ => False) Tryd.A_ref06_Regions (bodyOf Tryd.f42) [t0, undef, undef, undef, undef, undef, undef, undef, undef, undef, undef, undef, undef, undef, undef, undef, undef, undef, undef, undef, undef, undef, undef, undef, undef, undef, undef, undef] w (topQ false Tryd.prog Tryd.f42 w K) = Tryd.F_ref06_Regions t0 w K := by kernel_rfl
theorem Tryd.C_ref06_Regions : chk ⟨false, false⟩ Tryd.prog false Tryd.A_ref06_Regions (bodyOf Tryd.f42) = true := by kernel_rfl
theorem Tryd.ok_ref06_Regions {t0 : Value} {w : World} {K : Value → World → Prop} (h : Tryd.F_ref06_Regions t0 w K) : oCall Tryd.prog Tryd.n_ref06_Regions #[t0] w K :=
  calls_of_sw (cf := ⟨false, false⟩) Tryd.mixed Tryd.func42 rfl Tryd.C_ref06_Regions ((Tryd.E_ref06_Regions t0 w K).mpr h)

/- 83: loanword/loanwordref06.laid -/
def Tryd.A_ref06_laid : Ann := .s (.r (.op 0 .l (.op 1 .l (.nil)))) (.j [1] (.s (.r (.op 0 .p (.op 1 .q (.op 2 .p (.nil))))) (.c (.s (.r (.op 0 .p (.op 1 .p (.op 2 .q (.op 3 .p (.op 4 .l (.nil))))))) (.r (.op 0 .p (.op 1 .p (.op 2 .p (.nil)))))) (.n))) (.j [] (.s (.r (.op 0 .p (.op 1 .q (.op 2 .p (.op 3 .p (.nil)))))) (.c (.r (.op 0 .p (.op 1 .q (.op 2 .p (.op 3 .q (.op 4 .p (.op 5 .l (.op 6 .l (.op 7 .p (.op 8 .l (.nil))))))))))) (.n))) (.s (.r (.op 0 .q (.op 1 .l (.nil)))) (.n))))
def Tryd.F_ref06_laid (t0 : Value) (t1 : Value) (w : World) (K : Value → World → Prop) : Prop :=
 opW Tryd.prog w (Instr.box 25 t0) fun t2 w1 =>
 opW Tryd.prog w1 (Instr.alloc 25 true (.tuple #[])) fun t4 w2 =>
 sJoin (fun K3 =>
 opP Tryd.prog (Instr.fieldAt 25 t2 0) fun t5 =>
 opQ Tryd.prog w2 (Instr.loadAt 22 t5) fun t6 =>
 opP Tryd.prog (bsem .eql 22 true t6 (Value.int .u8 4)) fun t7 =>
 oCond t7 (opP Tryd.prog (Instr.indexAt 68 t1 (Value.int .i64 0)) fun t9 =>
 opQ Tryd.prog w2 (Instr.loadAt 3 t9) fun t10 =>
 opP Tryd.prog (Instr.fieldAt 25 t2 2) fun t11 =>
 opU Tryd.prog w2 (Instr.storeAt 3 t11 t10) fun w7 =>
 opP Tryd.prog (Instr.sliceAt 68 t1 (some (Value.int .i64 1)) none none) fun t13 =>
 K3 [t13] w7) (K3 [t1] w2)) (fun s4 _d5 w6 =>
 sJoin (fun K8 =>
 opP Tryd.prog (Instr.fieldAt 25 t2 4) fun t14 =>
 opQ Tryd.prog w6 (Instr.loadAt 23 t14) fun t15 =>
 opP Tryd.prog (Builtin.len_ #[23] 3 #[t15]) fun t16 =>
 opP Tryd.prog (bsem .gtr 3 true t16 (Value.int .i64 0)) fun t17 =>
 oCond t17 (opP Tryd.prog (Instr.fieldAt 25 t2 4) fun t18 =>
 opQ Tryd.prog w6 (Instr.loadAt 23 t18) fun t19 =>
 opP Tryd.prog (Instr.indexAt 23 t19 (Value.int .i64 0)) fun t20 =>
 opQ Tryd.prog w6 (Instr.loadAt 25 t20) fun t21 =>
 oCall Tryd.prog Tryd.n_ref06_laid #[t21, (s4.getD 0 undef)] w6 fun t23 w12 =>
 opW Tryd.prog w12 (Instr.buildSlice 23 1 #[(0, t23)]) fun t24 w13 =>
 opP Tryd.prog (Instr.fieldAt 25 t2 4) fun t25 =>
 opU Tryd.prog w13 (Instr.storeAt 23 t25 t24) fun w14 =>
 K8 [] w14) (K8 [] w6)) (fun _s9 _d10 w11 =>
 opQ Tryd.prog w11 (Instr.loadAt 25 t2) fun t26 =>
 opU Tryd.prog w11 (Instr.storeAt 25 t4 t26) fun w15 =>
 opQ Tryd.prog w15 (cellSem 25 t4) fun r16 =>
 K r16 w15))
theorem Tryd.E_ref06_laid (t0 t1 : Value) (w : World) (K : Value → World → Prop) : sw ⟨false, false⟩ Tryd.prog (fun _ _ => False) Tryd.A_ref06_laid (bodyOf Tryd.f83) [t0, t1, undef, undef, undef, undef, undef, undef, undef, undef, undef, undef, undef, undef, undef, undef, undef, undef, undef, undef, undef, undef, undef, undef, undef, undef, undef] w (topQ false Tryd.prog Tryd.f83 w K) = Tryd.F_ref06_laid t0 t1 w K := by kernel_rfl
theorem Tryd.C_ref06_laid : chk ⟨false, false⟩ Tryd.prog false Tryd.A_ref06_laid (bodyOf Tryd.f83) = true := by kernel_rfl
theorem Tryd.ok_ref06_laid {t0 t1 : Value} {w : World} {K : Value → World → Prop} (h : Tryd.F_ref06_laid t0 t1 w K) : oCall Tryd.prog Tryd.n_ref06_laid #[t0, t1] w K :=
  calls_of_sw (cf := ⟨false, false⟩) Tryd.mixed Tryd.func83 rfl Tryd.C_ref06_laid ((Tryd.E_ref06_laid t0 t1 w K).mpr h)

/- 44: loanword/loanwordref06.Number -/
def Tryd.A_ref06_Number : Ann := .s (.r (.op 0 .l (.op 1 .l (.op 2 .p (.op 3 .p (.nil)))))) (.s (.s (.r (.op 0 .q (.op 1 .l (.op 2 .p (.op 3 .p (.grp 12 false [(4, .p), (5, .p)] [14] (.op 6 .p (.op 7 .p (.grp 16 false [(8, .p), (9, .p)] [18] (.op 10 .p (.nil))))))))))) (.c (.s (.r (.op 0 .p (.op 1 .l (.op 2 .p (.op 3 .p (.nil)))))) (.n)) (.n))) (.s (.r (.op 0 .q (.op 1 .l (.op 2 .p (.nil))))) (.s (.s (.r (.op 0 .p (.nil))) (.b (.lp [8] (.s (.s (.r (.op 0 .p (.op 1 .p (.op 2 .p (.op 3 .p (.nil)))))) (.c (.n) (.n))) (.s (.b (.r (.op 0 .p (.op 1 .p (.op 2 .p (.op 3 .p (.op 4 .p (.op 5 .p (.op 6 .l (.nil)))))))))) (.r (.op 0 .p (.op 1 .p (.op 2 .p (.nil)))))))))) (.s (.r (.op 0 .q (.op 1 .p (.op 2 .l (.op 3 .p (.op 4 .p (.op 5 .p (.op 6 .p (.op 7 .l (.op 8 .p (.op 9 .p (.nil)))))))))))) (.n)))))
def Tryd.F_ref06_Number (t0 : Value) (t1 : Value) (w : World) (K : Value → World → Prop) : Prop :=
 opW Tryd.prog w (Instr.box 25 t0) fun t2 w1 =>
 opW Tryd.prog w1 (Instr.alloc 25 true (.tuple #[])) fun t4 w2 =>
 opQ Tryd.prog w2 (Instr.loadAt 25 t2) fun t9 =>
 oCall Tryd.prog Tryd.n_ref06_Is #[t9] w2 fun t10 w3 =>
 opP Tryd.prog (Op.unary .not t10) fun t11 =>
 sJoin (fun K4 => gIf t11 false (opP Tryd.prog (bsem .lss 3 true t1 (Value.int .i64 0)) fun t14 =>
 K4 [t14] w3) (K4 [undef] w3)) (fun s5 _d6 w7 =>
 oPick t11 (Value.bool true) (s5.getD 0 undef) fun t15 =>
 sJoin (fun K8 => gIf t15 false (opP Tryd.prog (bsem .gtr 3 true t1 (Value.int .i64 512)) fun t18 =>
 K8 [t18] w7) (K8 [undef] w7)) (fun s9 _d10 w11 =>
 oPick t15 (Value.bool true) (s9.getD 0 undef) fun t19 =>
 oCond t19 (opP Tryd.prog (Instr.build 25 #[]) fun t20 =>
 opU Tryd.prog w11 (Instr.storeAt 25 t4 t20) fun w12 =>
 opQ Tryd.prog w12 (cellSem 25 t4) fun r13 =>
 K (.tuple #[r13, (Value.int .i64 0), (Value.int .i64 2)]) w12) (opQ Tryd.prog w11 (Instr.loadAt 25 t2) fun t21 =>
 oCall Tryd.prog Tryd.n_ref06_Regions #[t21] w11 fun t22 w14 =>
 sLoop [(Value.int .i64 0)] w14 (fun s16 _d17 w18 K15 =>
 opP Tryd.prog (Builtin.len_ #[68] 3 #[t22]) fun t25 =>
 opP Tryd.prog (bsem .lss 3 false (s16.getD 0 undef) t25) fun t26 =>
 oCond t26 (opP Tryd.prog (bsem .add 3 false t1 (s16.getD 0 undef)) fun t33 =>
 opP Tryd.prog (Instr.indexAt 68 t22 (s16.getD 0 undef)) fun t34 =>
 opU Tryd.prog w18 (Instr.storeAt 3 t34 t33) fun w19 =>
 opP Tryd.prog (bsem .add 3 true (s16.getD 0 undef) (Value.int .i64 1)) fun t28 =>
 K15 [t28] w19) (opQ Tryd.prog w18 (Instr.loadAt 25 t2) fun t35 =>
 oCall Tryd.prog Tryd.n_ref06_laid #[t35, t22] w18 fun t37 w20 =>
 opP Tryd.prog (Builtin.len_ #[68] 3 #[t22]) fun t40 =>
 opP Tryd.prog (bsem .add 3 false t1 t40) fun t41 =>
 opU Tryd.prog w20 (Instr.storeAt 25 t4 t37) fun w21 =>
 opQ Tryd.prog w21 (cellSem 25 t4) fun r22 =>
 K (.tuple #[r22, t41, (Value.int .i64 0)]) w21)))))
theorem Tryd.E_ref06_Number (t0 t1 : Value) (w : World) (K : Value → World → Prop) : sw ⟨false, false⟩ Tryd.prog (fun _ _ => False) Tryd.A_ref06_Number (bodyOf Tryd.f44) [t0, t1, undef, undef, undef, undef, undef, undef, undef, undef, undef, undef, undef, undef, undef, undef, undef, undef, undef, undef, undef, undef, undef, undef, undef, undef, undef, undef, undef, undef, undef, undef, undef, undef, undef, undef, undef, undef, undef, undef, undef, undef] w (topQ false Tryd.prog Tryd.f44 w K) = Tryd.F_ref06_Number t0 t1 w K := by kernel_rfl
theorem Tryd.C_ref06_Number : chk ⟨false, false⟩ Tryd.prog false Tryd.A_ref06_Number (bodyOf Tryd.f44) = true := by kernel_rfl
theorem Tryd.ok_ref06_Number {t0 t1 : Value} {w : World} {K : Value → World → Prop} (h : Tryd.F_ref06_Number t0 t1 w K) : oCall Tryd.prog Tryd.n_ref06_Number #[t0, t1] w K :=
  calls_of_sw (cf := ⟨false, false⟩) Tryd.mixed Tryd.func44 rfl Tryd.C_ref06_Number ((Tryd.E_ref06_Number t0 t1 w K).mpr h)

/- 46: loanword/loanwordref06.Anew -/
def Tryd.A_ref06_Anew : Ann := .s (.r (.op 0 .l (.op 1 .l (.op 2 .p (.nil))))) (.s (.s (.r (.op 0 .q (.op 1 .l (.op 2 .p (.op 3 .p (.grp 10 false [(4, .p), (5, .p), (6, .q), (7, .l), (8, .p), (9, .p)] [16] (.op 10 .p (.nil)))))))) (.c (.s (.r (.op 0 .p (.op 1 .l (.op 2 .p (.nil))))) (.n)) (.n))) (.s (.s (.r (.op 0 .p (.nil))) (.b (.lp [6] (.s (.s (.r (.op 0 .p (.op 1 .p (.op 2 .p (.op 3 .p (.nil)))))) (.c (.n) (.n))) (.s (.b (.s (.r (.op 0 .p (.op 1 .p (.op 2 .p (.op 3 .q (.op 4 .p (.nil))))))) (.c (.s (.r (.op 0 .p (.op 1 .l (.op 2 .p (.nil))))) (.n)) (.n)))) (.r (.op 0 .p (.op 1 .p (.op 2 .p (.nil)))))))))) (.s (.r (.op 0 .q (.op 1 .p (.op 2 .l (.op 3 .l (.op 4 .p (.nil))))))) (.n))))
def Tryd.F_ref06_Anew (t0 : Value) (t1 : Value) (w : World) (K : Value → World → Prop) : Prop :=
 opW Tryd.prog w (Instr.box 25 t0) fun t2 w1 =>
 opW Tryd.prog w1 (Instr.alloc 25 true (.tuple #[])) fun t4 w2 =>
 opQ Tryd.prog w2 (Instr.loadAt 25 t2) fun t7 =>
 oCall Tryd.prog Tryd.n_ref06_Is #[t7] w2 fun t8 w3 =>
 opP Tryd.prog (Op.unary .not t8) fun t9 =>
 sJoin (fun K4 => gIf t9 false (opP Tryd.prog (Builtin.len_ #[68] 3 #[t1]) fun t12 =>
 opQ Tryd.prog w3 (Instr.loadAt 25 t2) fun t13 =>
 oCall Tryd.prog Tryd.n_ref06_Regions #[t13] w3 fun t14 w8 =>
 opP Tryd.prog (Builtin.len_ #[68] 3 #[t14]) fun t15 =>
 opP Tryd.prog (bsem .neq 3 false t12 t15) fun t16 =>
 K4 [t16] w8) (K4 [undef] w3)) (fun s5 _d6 w7 =>
 oPick t9 (Value.bool true) (s5.getD 0 undef) fun t17 =>
 oCond t17 (opP Tryd.prog (Instr.build 25 #[]) fun t18 =>
 opU Tryd.prog w7 (Instr.storeAt 25 t4 t18) fun w9 =>
 opQ Tryd.prog w9 (cellSem 25 t4) fun r10 =>
 K (.tuple #[r10, (Value.int .i64 2)]) w9) (sLoop [(Value.int .i64 0)] w7 (fun s12 _d13 w14 K11 =>
 opP Tryd.prog (Builtin.len_ #[68] 3 #[t1]) fun t21 =>
 opP Tryd.prog (bsem .lss 3 false (s12.getD 0 undef) t21) fun t22 =>
 oCond t22 (opP Tryd.prog (Instr.indexAt 68 t1 (s12.getD 0 undef)) fun t27 =>
 opQ Tryd.prog w14 (Instr.loadAt 3 t27) fun t28 =>
 opP Tryd.prog (bsem .lss 3 true t28 (Value.int .i64 (-1))) fun t29 =>
 oCond t29 (opP Tryd.prog (Instr.build 25 #[]) fun t30 =>
 opU Tryd.prog w14 (Instr.storeAt 25 t4 t30) fun w15 =>
 opQ Tryd.prog w15 (cellSem 25 t4) fun r16 =>
 K (.tuple #[r16, (Value.int .i64 2)]) w15) (opP Tryd.prog (bsem .add 3 true (s12.getD 0 undef) (Value.int .i64 1)) fun t24 =>
 K11 [t24] w14)) (opQ Tryd.prog w14 (Instr.loadAt 25 t2) fun t31 =>
 oCall Tryd.prog Tryd.n_ref06_laid #[t31, t1] w14 fun t33 w17 =>
 opU Tryd.prog w17 (Instr.storeAt 25 t4 t33) fun w18 =>
 opQ Tryd.prog w18 (cellSem 25 t4) fun r19 =>
 K (.tuple #[r19, (Value.int .i64 0)]) w18))))
theorem Tryd.E_ref06_Anew (t0 t1 : Value) (w : World) (K : Value → World → Prop) : sw ⟨false, false⟩ Tryd.prog (fun _ _ => False) Tryd.A_ref06_Anew (bodyOf Tryd.f46) [t0, t1, undef, undef, undef, undef, undef, undef, undef, undef, undef, undef, undef, undef, undef, undef, undef, undef, undef, undef, undef, undef, undef, undef, undef, undef, undef, undef, undef, undef, undef, undef, undef, undef] w (topQ false Tryd.prog Tryd.f46 w K) = Tryd.F_ref06_Anew t0 t1 w K := by kernel_rfl
theorem Tryd.C_ref06_Anew : chk ⟨false, false⟩ Tryd.prog false Tryd.A_ref06_Anew (bodyOf Tryd.f46) = true := by kernel_rfl
theorem Tryd.ok_ref06_Anew {t0 t1 : Value} {w : World} {K : Value → World → Prop} (h : Tryd.F_ref06_Anew t0 t1 w K) : oCall Tryd.prog Tryd.n_ref06_Anew #[t0, t1] w K :=
  calls_of_sw (cf := ⟨false, false⟩) Tryd.mixed Tryd.func46 rfl Tryd.C_ref06_Anew ((Tryd.E_ref06_Anew t0 t1 w K).mpr h)

/- 53: loanword/loanwordref06.asks -/
def Tryd.A_ref06_asks : Ann := .s (.r (.op 0 .l (.op 1 .l (.op 2 .p (.nil))))) (.s (.s (.r (.op 0 .p (.op 1 .q (.op 2 .p (.op 3 .p (.nil)))))) (.c (.s (.r (.op 0 .p (.nil))) (.n)) (.n))) (.s (.s (.r (.op 0 .p (.op 1 .q (.op 2 .p (.nil))))) (.c (.s (.r (.op 0 .p (.op 1 .q (.op 2 .p (.op 3 .q (.op 4 .p (.op 5 .q (.op 6 .p (.op 7 .q (.op 8 .p (.op 9 .l (.op 10 .p (.nil))))))))))))) (.n)) (.n))) (.s (.r (.op 0 .p (.op 1 .q (.op 2 .p (.op 3 .q (.op 4 .p (.op 5 .l (.op 6 .p (.nil))))))))) (.j [7] (.s (.r (.op 0 .p (.nil))) (.c (.r (.op 0 .p (.op 1 .p (.op 2 .q (.op 3 .p (.op 4 .q (.op 5 .p (.op 6 .l (.op 7 .l (.op 8 .p (.nil))))))))))) (.n))) (.s (.r (.op 0 .p (.op 1 .p (.op 2 .q (.op 3 .p (.op 4 .q (.op 5 .p (.op 6 .q (.op 7 .p (.op 8 .q (.op 9 .p (.op 10 .p (.grp 50 false [(11, .p), (12, .q)] [52] (.op 13 .p (.op 14 .l (.op 15 .l (.op 16 .p (.nil)))))))))))))))))) (.n))))))
def Tryd.F_ref06_asks (t0 : Value) (t1 : Value) (t2 : Value) (w : World) (K : Value → World → Prop) : Prop :=
 opW Tryd.prog w (Instr.box 25 t0) fun t3 w1 =>
 opW Tryd.prog w1 (Instr.box 25 t1) fun t4 w2 =>
 opP Tryd.prog (Instr.fieldAt 25 t3 4) fun t8 =>
 opQ Tryd.prog w2 (Instr.loadAt 23 t8) fun t9 =>
 opP Tryd.prog (Builtin.len_ #[23] 3 #[t9]) fun t10 =>
 opP Tryd.prog (bsem .eql 3 true t10 (Value.int .i64 0)) fun t11 =>
 oCond t11 (K (Value.slice Option.none 0 0) w2) (opP Tryd.prog (Instr.fieldAt 25 t3 0) fun t12 =>
 opQ Tryd.prog w2 (Instr.loadAt 22 t12) fun t13 =>
 opP Tryd.prog (bsem .eql 22 true t13 (Value.int .u8 3)) fun t14 =>
 oCond t14 (opP Tryd.prog (Instr.fieldAt 25 t3 4) fun t15 =>
 opQ Tryd.prog w2.drew (Instr.loadAt 23 t15) fun t16 =>
 opP Tryd.prog (Instr.indexAt 23 t16 (Value.int .i64 0)) fun t17 =>
 opQ Tryd.prog w2.drew (Instr.loadAt 25 t17) fun t18 =>
 opP Tryd.prog (Instr.fieldAt 25 t4 4) fun t19 =>
 opQ Tryd.prog w2.drew (Instr.loadAt 23 t19) fun t20 =>
 opP Tryd.prog (Instr.indexAt 23 t20 (Value.int .i64 0)) fun t21 =>
 opQ Tryd.prog w2.drew (Instr.loadAt 25 t21) fun t22 =>
 oCall Tryd.prog Tryd.n_ref06_asks #[t18, t22, t2] w2.drew fun t24 w3 =>
 K t24 w3) (opP Tryd.prog (Instr.fieldAt 25 t3 2) fun t25 =>
 opQ Tryd.prog w2 (Instr.loadAt 3 t25) fun t26 =>
 opP Tryd.prog (Instr.fieldAt 25 t4 2) fun t27 =>
 opQ Tryd.prog w2 (Instr.loadAt 3 t27) fun t28 =>
 opP Tryd.prog (Instr.build 35 #[(0, t26), (1, t28)]) fun t29 =>
 opW Tryd.prog w2 (Instr.buildSlice 28 1 #[(0, t29)]) fun t30 w4 =>
 sJoin (fun K5 =>
 oCond t2 (opP Tryd.prog (Instr.fieldAt 25 t4 2) fun t33 =>
 opQ Tryd.prog w4 (Instr.loadAt 3 t33) fun t34 =>
 opP Tryd.prog (Instr.fieldAt 25 t3 2) fun t35 =>
 opQ Tryd.prog w4 (Instr.loadAt 3 t35) fun t36 =>
 opP Tryd.prog (Instr.build 35 #[(0, t34), (1, t36)]) fun t37 =>
 opW Tryd.prog w4 (Instr.buildSlice 28 1 #[(0, t37)]) fun t38 w9 =>
 opW Tryd.prog w9 (Builtin.append_ #[28, 28] 28 #[t30, t38]) fun t39 w10 =>
 K5 [t39] w10) (K5 [t30] w4)) (fun s6 _d7 w8 =>
 opP Tryd.prog (Instr.fieldAt 25 t3 4) fun t41 =>
 opQ Tryd.prog w8.drew (Instr.loadAt 23 t41) fun t42 =>
 opP Tryd.prog (Instr.indexAt 23 t42 (Value.int .i64 0)) fun t43 =>
 opQ Tryd.prog w8.drew (Instr.loadAt 25 t43) fun t44 =>
 opP Tryd.prog (Instr.fieldAt 25 t4 4) fun t45 =>
 opQ Tryd.prog w8.drew (Instr.loadAt 23 t45) fun t46 =>
 opP Tryd.prog (Instr.indexAt 23 t46 (Value.int .i64 0)) fun t47 =>
 opQ Tryd.prog w8.drew (Instr.loadAt 25 t47) fun t48 =>
 sJoin (fun K11 => gIf t2 false (opP Tryd.prog (Instr.fieldAt 25 t3 1) fun t51 =>
 opQ Tryd.prog w8.drew (Instr.loadAt 4 t51) fun t52 =>
 K11 [t52] w8.drew) (K11 [undef] w8.drew)) (fun s12 _d13 w14 =>
 oPick t2 (Value.bool true) (s12.getD 0 undef) fun t53 =>
 oCall Tryd.prog Tryd.n_ref06_asks #[t44, t48, t53] w14 fun t54 w15 =>
 opW Tryd.prog w15 (Builtin.append_ #[28, 28] 28 #[(s6.getD 0 undef), t54]) fun t55 w16 =>
 K t55 w16))))
theorem Tryd.E_ref06_asks (t0 t1 t2 : Value) (w : World) (K : Value → World → Prop) : sw ⟨false, false⟩ Tryd.prog (fun _ _ => False) Tryd.A_ref06_asks (bodyOf Tryd.f53) [t0, t1, t2, undef, undef, undef, undef, undef, undef, undef, undef, undef, undef, undef, undef, undef, undef, undef, undef, undef, undef, undef, undef, undef, undef, undef, undef, undef, undef, undef, undef, undef, undef, undef, undef, undef, undef, undef, undef, undef, undef, undef, undef, undef, undef, undef, undef, undef, undef, undef, undef, undef, undef, undef, undef, undef] w (topQ false Tryd.prog Tryd.f53 w K) = Tryd.F_ref06_asks t0 t1 t2 w K := by kernel_rfl
theorem Tryd.C_ref06_asks : chk ⟨false, false⟩ Tryd.prog false Tryd.A_ref06_asks (bodyOf Tryd.f53) = true := by kernel_rfl
theorem Tryd.ok_ref06_asks {t0 t1 t2 : Value} {w : World} {K : Value → World → Prop} (h : Tryd.F_ref06_asks t0 t1 t2 w K) : oCall Tryd.prog Tryd.n_ref06_asks #[t0, t1, t2] w K :=
  calls_of_sw (cf := ⟨false, false⟩) Tryd.mixed Tryd.func53 rfl Tryd.C_ref06_asks ((Tryd.E_ref06_asks t0 t1 t2 w K).mpr h)

/- 13: loanword/loanwordref06.Asks -/
def Tryd.A_ref06_Asks : Ann := .s (.r (.op 0 .l (.op 1 .l (.op 2 .p (.op 3 .p (.nil)))))) (.s (.s (.r (.op 0 .q (.op 1 .q (.op 2 .l (.op 3 .p (.nil)))))) (.c (.s (.r (.op 0 .p (.op 1 .p (.nil)))) (.n)) (.n))) (.s (.r (.op 0 .q (.op 1 .l (.op 2 .p (.nil))))) (.s (.r (.op 0 .p (.op 1 .q (.op 2 .l (.op 3 .l (.op 4 .p (.nil))))))) (.s (.s (.r (.op 0 .p (.nil))) (.b (.lp [7] (.s (.s (.r (.op 0 .p (.op 1 .p (.op 2 .p (.op 3 .p (.nil)))))) (.c (.n) (.n))) (.s (.b (.s (.r (.op 0 .p (.op 1 .p (.op 2 .p (.op 3 .q (.op 4 .p (.nil))))))) (.c (.s (.r (.op 0 .p (.op 1 .p (.nil)))) (.n)) (.n)))) (.r (.op 0 .p (.op 1 .p (.op 2 .p (.nil)))))))))) (.s (.r (.op 0 .q (.op 1 .q (.op 2 .l (.op 3 .p (.op 4 .p (.nil))))))) (.n))))))
def Tryd.F_ref06_Asks (t0 : Value) (t1 : Value) (w : World) (K : Value → World → Prop) : Prop :=
 opW Tryd.prog w (Instr.box 25 t0) fun t2 w1 =>
 opW Tryd.prog w1 (Instr.box 25 t1) fun t3 w2 =>
 opQ Tryd.prog w2 (Instr.loadAt 25 t2) fun t8 =>
 opQ Tryd.prog w2 (Instr.loadAt 25 t3) fun t9 =>
 oCall Tryd.prog Tryd.n_ref06_Alike #[t8, t9] w2 fun t10 w3 =>
 opP Tryd.prog (Op.unary .not t10) fun t11 =>
 oCond t11 (K (.tuple #[(Value.slice Option.none 0 0), (Value.int .i64 2)]) w3) (opQ Tryd.prog w3 (Instr.loadAt 25 t2) fun t12 =>
 oCall Tryd.prog Tryd.n_ref06_Regions #[t12] w3 fun t13 w4 =>
 opQ Tryd.prog w4 (Instr.loadAt 25 t3) fun t15 =>
 oCall Tryd.prog Tryd.n_ref06_Regions #[t15] w4 fun t16 w5 =>
 opW Tryd.prog w5 (Builtin.append_ #[68, 68] 68 #[t13, t16]) fun t17 w6 =>
 sLoop [(Value.int .i64 0)] w6 (fun s8 _d9 w10 K7 =>
 opP Tryd.prog (Builtin.len_ #[68] 3 #[t17]) fun t20 =>
 opP Tryd.prog (bsem .lss 3 false (s8.getD 0 undef) t20) fun t21 =>
 oCond t21 (opP Tryd.prog (Instr.indexAt 68 t17 (s8.getD 0 undef)) fun t26 =>
 opQ Tryd.prog w10 (Instr.loadAt 3 t26) fun t27 =>
 opP Tryd.prog (bsem .lss 3 true t27 (Value.int .i64 0)) fun t28 =>
 oCond t28 (K (.tuple #[(Value.slice Option.none 0 0), (Value.int .i64 2)]) w10) (opP Tryd.prog (bsem .add 3 true (s8.getD 0 undef) (Value.int .i64 1)) fun t23 =>
 K7 [t23] w10)) (opQ Tryd.prog w10 (Instr.loadAt 25 t2) fun t29 =>
 opQ Tryd.prog w10 (Instr.loadAt 25 t3) fun t30 =>
 oCall Tryd.prog Tryd.n_ref06_asks #[t29, t30, (Value.bool false)] w10 fun t31 w11 =>
 K (.tuple #[t31, (Value.int .i64 0)]) w11)))
theorem Tryd.E_ref06_Asks (t0 t1 : Value) (w : World) (K : Value → World → Prop) : sw ⟨false, false⟩ Tryd.prog (fun _ _ => False) Tryd.A_ref06_Asks (bodyOf Tryd.f13) [t0, t1, undef, undef, undef, undef, undef, undef, undef, undef, undef, undef, undef, undef, undef, undef, undef, undef, undef, undef, undef, undef, undef, undef, undef, undef, undef, undef, undef, undef, undef, undef] w (topQ false Tryd.prog Tryd.f13 w K) = Tryd.F_ref06_Asks t0 t1 w K := by kernel_rfl
theorem Tryd.C_ref06_Asks : chk ⟨false, false⟩ Tryd.prog false Tryd.A_ref06_Asks (bodyOf Tryd.f13) = true := by kernel_rfl
theorem Tryd.ok_ref06_Asks {t0 t1 : Value} {w : World} {K : Value → World → Prop} (h : Tryd.F_ref06_Asks t0 t1 w K) : oCall Tryd.prog Tryd.n_ref06_Asks #[t0, t1] w K :=
  calls_of_sw (cf := ⟨false, false⟩) Tryd.mixed Tryd.func13 rfl Tryd.C_ref06_Asks ((Tryd.E_ref06_Asks t0 t1 w K).mpr h)

/- 36: loanword/loanwordref06.Fields -/
def Tryd.A_ref06_Fields : Ann := .s (.r (.op 0 .l (.op 1 .p (.op 2 .p (.nil))))) (.s (.s (.r (.op 0 .p (.op 1 .q (.op 2 .l (.op 3 .p (.op 4 .p (.grp 13 false [(5, .p), (6, .q), (7, .p)] [16] (.op 8 .p (.nil))))))))) (.c (.s (.r (.op 0 .p (.op 1 .p (.nil)))) (.n)) (.n))) (.s (.r (.op 0 .p (.nil))) (.s (.r (.op 0 .p (.op 1 .p (.op 2 .q (.op 3 .p (.op 4 .p (.op 5 .q (.op 6 .p (.nil))))))))) (.s (.s (.r (.op 0 .p (.nil))) (.b (.lp [6, 8] (.s (.s (.r (.op 0 .p (.op 1 .p (.op 2 .p (.op 3 .p (.nil)))))) (.c (.n) (.n))) (.s (.b (.r (.op 0 .p (.op 1 .p (.op 2 .p (.op 3 .p (.op 4 .p (.op 5 .q (.op 6 .l (.op 7 .l (.op 8 .l (.op 9 .p (.nil))))))))))))) (.r (.op 0 .p (.op 1 .p (.op 2 .p (.nil)))))))))) (.s (.r (.op 0 .p (.op 1 .p (.op 2 .p (.nil))))) (.n))))))
def Tryd.F_ref06_Fields (t0 : Value) (t1 : Value) (w : World) (K : Value → World → Prop) : Prop :=
 opW Tryd.prog w (Instr.box 25 t1) fun t3 w1 =>
 opQ Tryd.prog w1 (Instr.loadAt 25 t3) fun t10 =>
 oCall Tryd.prog Tryd.n_ref06_May #[t0, t10] w1 fun t11 w2 =>
 opP Tryd.prog (Op.unary .not t11) fun t12 =>
 sJoin (fun K3 => gIf t12 false (opP Tryd.prog (Instr.fieldAt 25 t3 0) fun t14 =>
 opQ Tryd.prog w2 (Instr.loadAt 22 t14) fun t15 =>
 opP Tryd.prog (bsem .neq 22 true t15 (Value.int .u8 5)) fun t16 =>
 K3 [t16] w2) (K3 [undef] w2)) (fun s4 _d5 w6 =>
 oPick t12 (Value.bool true) (s4.getD 0 undef) fun t17 =>
 oCond t17 (K (.tuple #[(Value.slice Option.none 0 0), (Value.int .i64 2)]) w6) (opP Tryd.prog (Instr.fieldAt 25 t3 3) fun t19 =>
 opQ Tryd.prog w6 (Instr.loadAt 3 t19) fun t20 =>
 opP Tryd.prog (Instr.indexAt 50 t0 t20) fun t21 =>
 opP Tryd.prog (Instr.fieldAt 99 t21 1) fun t22 =>
 opQ Tryd.prog w6 (Instr.loadAt 97 t22) fun t23 =>
 sLoop [(Value.slice Option.none 0 0), (Value.int .i64 0)] w6 (fun s8 _d9 w10 K7 =>
 opP Tryd.prog (Builtin.len_ #[97] 3 #[t23]) fun t26 =>
 opP Tryd.prog (bsem .lss 3 false (s8.getD 1 undef) t26) fun t27 =>
 oCond t27 (opP Tryd.prog (Instr.indexAt 97 t23 (s8.getD 1 undef)) fun t33 =>
 opP Tryd.prog (Instr.fieldAt 101 t33 1) fun t34 =>
 opQ Tryd.prog w10 (Instr.loadAt 25 t34) fun t35 =>
 oCall Tryd.prog Tryd.n_ref06_Own #[t35] w10 fun t36 w11 =>
 opW Tryd.prog w11 (Instr.buildSlice 23 1 #[(0, t36)]) fun t37 w12 =>
 opW Tryd.prog w12 (Builtin.append_ #[23, 23] 23 #[(s8.getD 0 undef), t37]) fun t38 w13 =>
 opP Tryd.prog (bsem .add 3 true (s8.getD 1 undef) (Value.int .i64 1)) fun t29 =>
 K7 [t38, t29] w13) (K (.tuple #[(s8.getD 0 undef), (Value.int .i64 0)]) w10))))
theorem Tryd.E_ref06_Fields (t0 t1 : Value) (w : World) (K : Value → World → Prop) : sw ⟨false, false⟩ Tryd.prog (fun _ _ => False) Tryd.A_ref06_Fields (bodyOf Tryd.f36) [t0, t1, undef, undef, undef, undef, undef, undef, undef, undef, undef, undef, undef, undef, undef, undef, undef, undef, undef, undef, undef, undef, undef, undef, undef, undef, undef, undef, undef, undef, undef, undef, undef, undef, undef, undef, undef, undef, undef, undef] w (topQ false Tryd.prog Tryd.f36 w K) = Tryd.F_ref06_Fields t0 t1 w K := by kernel_rfl
theorem Tryd.C_ref06_Fields : chk ⟨false, false⟩ Tryd.prog false Tryd.A_ref06_Fields (bodyOf Tryd.f36) = true := by kernel_rfl
theorem Tryd.ok_ref06_Fields {t0 t1 : Value} {w : World} {K : Value → World → Prop} (h : Tryd.F_ref06_Fields t0 t1 w K) : oCall Tryd.prog Tryd.n_ref06_Fields #[t0, t1] w K :=
  calls_of_sw (cf := ⟨false, false⟩) Tryd.mixed Tryd.func36 rfl Tryd.C_ref06_Fields ((Tryd.E_ref06_Fields t0 t1 w K).mpr h)

/- 56: loanword/loanwordref06.text -/
def Tryd.A_ref06_text : Ann := .s (.r (.op 0 .l (.op 1 .p (.nil)))) (.s (.s (.r (.op 0 .p (.op 1 .q (.nil)))) (.b (.s (.r (.op 0 .p (.op 1 .p (.nil)))) (.c (.s (.r (.op 0 .p (.nil))) (.n)) (.s (.r (.op 0 .p (.op 1 .p (.nil)))) (.c (.s (.r (.op 0 .p (.nil))) (.n)) (.s (.r (.op 0 .p (.op 1 .p (.nil)))) (.c (.s (.r (.op 0 .p (.op 1 .q (.op 2 .p (.op 3 .q (.op 4 .l (.op 5 .p (.op 6 .p (.op 7 .p (.nil)))))))))) (.n)) (.s (.r (.op 0 .p (.op 1 .p (.nil)))) (.c (.s (.r (.op 0 .p (.op 1 .q (.op 2 .l (.op 3 .p (.op 4 .p (.nil))))))) (.n)) (.n))))))))))) (.s (.r (.op 0 .p (.nil))) (.j [3] (.s (.r (.op 0 .p (.op 1 .q (.op 2 .p (.nil))))) (.c (.r (.op 0 .p (.op 1 .p (.op 2 .p (.op 3 .q (.op 4 .l (.op 5 .p (.op 6 .p (.op 7 .p (.nil)))))))))) (.n))) (.j [3] (.s (.r (.op 0 .p (.op 1 .q (.nil)))) (.c (.r (.op 0 .p (.op 1 .p (.op 2 .p (.nil))))) (.n))) (.s (.r (.op 0 .p (.op 1 .q (.op 2 .p (.op 3 .q (.op 4 .l (.op 5 .p (.nil)))))))) (.j [3] (.s (.r (.op 0 .p (.op 1 .p (.op 2 .p (.grp 47 true [(3, .p), (4, .p), (5, .p)] [50] (.op 6 .p (.nil))))))) (.c (.r (.op 0 .p (.nil))) (.n))) (.s (.r (.op 0 .p (.op 1 .p (.op 2 .p (.op 3 .p (.nil)))))) (.n))))))))
def Tryd.F_ref06_text (t0 : Value) (w : World) (K : Value → World → Prop) : Prop :=
 opW Tryd.prog w (Instr.box 25 t0) fun t1 w1 =>
 opP Tryd.prog (Instr.fieldAt 25 t1 0) fun t5 =>
 opQ Tryd.prog w1 (Instr.loadAt 22 t5) fun t6 =>
 opP Tryd.prog (bsem .eql 22 true t6 (Value.int .u8 1)) fun t8 =>
 oCond t8 (K (Value.string { data := #[105, 54, 52] }) w1) (opP Tryd.prog (bsem .eql 22 true t6 (Value.int .u8 2)) fun t10 =>
 oCond t10 (K (Value.string { data := #[98, 111, 111, 108] }) w1) (opP Tryd.prog (bsem .eql 22 true t6 (Value.int .u8 3)) fun t12 =>
 oCond t12 (opP Tryd.prog (Instr.fieldAt 25 t1 4) fun t13 =>
 opQ Tryd.prog w1 (Instr.loadAt 23 t13) fun t14 =>
 opP Tryd.prog (Instr.indexAt 23 t14 (Value.int .i64 0)) fun t15 =>
 opQ Tryd.prog w1 (Instr.loadAt 25 t15) fun t16 =>
 oCall Tryd.prog Tryd.n_ref06_text #[t16] w1 fun t17 w2 =>
 opP Tryd.prog (bsem .add 9 true (Value.string { data := #[66, 111, 120, 60] }) t17) fun t18 =>
 opP Tryd.prog (bsem .add 9 true t18 (Value.string { data := #[62] })) fun t19 =>
 K t19 w2) (opP Tryd.prog (bsem .eql 22 true t6 (Value.int .u8 5)) fun t21 =>
 oCond t21 (opP Tryd.prog (Instr.fieldAt 25 t1 3) fun t22 =>
 opQ Tryd.prog w1 (Instr.loadAt 3 t22) fun t23 =>
 oCall Tryd.prog Tryd.n_strconv_Itoa #[t23] w1 fun t24 w3 =>
 opP Tryd.prog (bsem .add 9 true (Value.string { data := #[35] }) t24) fun t25 =>
 K t25 w3) (sJoin (fun K4 =>
 opP Tryd.prog (Instr.fieldAt 25 t1 2) fun t26 =>
 opQ Tryd.prog w1 (Instr.loadAt 3 t26) fun t27 =>
 opP Tryd.prog (bsem .geq 3 true t27 (Value.int .i64 0)) fun t28 =>
 oCond t28 (opP Tryd.prog (bsem .add 9 true (Value.string { data := #[38] }) (Value.string { data := #[39] })) fun t30 =>
 opP Tryd.prog (Instr.fieldAt 25 t1 2) fun t31 =>
 opQ Tryd.prog w1 (Instr.loadAt 3 t31) fun t32 =>
 oCall Tryd.prog Tryd.n_strconv_Itoa #[t32] w1 fun t33 w8 =>
 opP Tryd.prog (bsem .add 9 false t30 t33) fun t34 =>
 opP Tryd.prog (bsem .add 9 true t34 (Value.string { data := #[32] })) fun t35 =>
 K4 [t35] w8) (K4 [(Value.string { data := #[38] })] w1)) (fun s5 _d6 w7 =>
 sJoin (fun K9 =>
 opP Tryd.prog (Instr.fieldAt 25 t1 1) fun t36 =>
 opQ Tryd.prog w7 (Instr.loadAt 4 t36) fun t37 =>
 oCond t37 (opP Tryd.prog (bsem .add 9 true (s5.getD 0 undef) (Value.string { data := #[109, 117, 116, 32] })) fun t39 =>
 K9 [t39] w7) (K9 [(s5.getD 0 undef)] w7)) (fun s10 _d11 w12 =>
 opP Tryd.prog (Instr.fieldAt 25 t1 4) fun t40 =>
 opQ Tryd.prog w12 (Instr.loadAt 23 t40) fun t41 =>
 opP Tryd.prog (Instr.indexAt 23 t41 (Value.int .i64 0)) fun t42 =>
 opQ Tryd.prog w12 (Instr.loadAt 25 t42) fun t43 =>
 oCall Tryd.prog Tryd.n_ref06_text #[t43] w12 fun t44 w13 =>
 sJoin (fun K14 =>
 opP Tryd.prog (bsem .eql 9 true (s10.getD 0 undef) (Value.string { data := #[38] })) fun t46 =>
 sJoin (fun K18 => gIf t46 true (opP Tryd.prog (Instr.index 9 t44 (Value.int .i64 0)) fun t49 =>
 opP Tryd.prog (bsem .eql 5 true t49 (Value.int .u8 38)) fun t50 =>
 K18 [t50] w13) (K18 [undef] w13)) (fun s19 _d20 w21 =>
 oPick t46 (s19.getD 0 undef) (Value.bool false) fun t51 =>
 oCond t51 (K14 [(Value.string { data := #[38, 32] })] w21) (K14 [(s10.getD 0 undef)] w21))) (fun s15 _d16 w17 =>
 opP Tryd.prog (bsem .add 9 false (s15.getD 0 undef) t44) fun t54 =>
 K t54 w17)))))))
theorem Tryd.E_ref06_text (t0 : Value) (w : World) (K : Value → World → Prop) : sw ⟨false, false⟩ Tryd.prog (fun _ _ => False) Tryd.A_ref06_text (bodyOf Tryd.f56) [t0, undef, undef, undef, undef, undef, undef, undef, undef, undef, undef, undef, undef, undef, undef, undef, undef, undef, undef, undef, undef, undef, undef, undef, undef, undef, undef, undef, undef, undef, undef, undef, undef, undef, undef, undef, undef, undef, undef, undef, undef, undef, undef, undef, undef, undef, undef, undef, undef, undef, undef, undef, undef, undef, undef] w (topQ false Tryd.prog Tryd.f56 w K) = Tryd.F_ref06_text t0 w K := by kernel_rfl
theorem Tryd.C_ref06_text : chk ⟨false, false⟩ Tryd.prog false Tryd.A_ref06_text (bodyOf Tryd.f56) = true := by kernel_rfl
theorem Tryd.ok_ref06_text {t0 : Value} {w : World} {K : Value → World → Prop} (h : Tryd.F_ref06_text t0 w K) : oCall Tryd.prog Tryd.n_ref06_text #[t0] w K :=
  calls_of_sw (cf := ⟨false, false⟩) Tryd.mixed Tryd.func56 rfl Tryd.C_ref06_text ((Tryd.E_ref06_text t0 w K).mpr h)

/- 15: loanword/loanwordref06.Text -/
def Tryd.A_ref06_Text : Ann := .s (.r (.op 0 .l (.op 1 .p (.op 2 .p (.nil))))) (.s (.s (.r (.op 0 .q (.op 1 .l (.op 2 .p (.nil))))) (.c (.s (.r (.op 0 .p (.op 1 .p (.nil)))) (.n)) (.n))) (.s (.r (.op 0 .q (.op 1 .l (.op 2 .p (.op 3 .p (.nil)))))) (.n)))
def Tryd.F_ref06_Text (t0 : Value) (w : World) (K : Value → World → Prop) : Prop :=
 opW Tryd.prog w (Instr.box 25 t0) fun t1 w1 =>
 opQ Tryd.prog w1 (Instr.loadAt 25 t1) fun t4 =>
 oCall Tryd.prog Tryd.n_ref06_Is #[t4] w1 fun t5 w2 =>
 opP Tryd.prog (Op.unary .not t5) fun t6 =>
 oCond t6 (K (.tuple #[(Value.string { data := #[] }), (Value.int .i64 2)]) w2) (opQ Tryd.prog w2 (Instr.loadAt 25 t1) fun t7 =>
 oCall Tryd.prog Tryd.n_ref06_text #[t7] w2 fun t8 w3 =>
 K (.tuple #[t8, (Value.int .i64 0)]) w3)
theorem Tryd.E_ref06_Text (t0 : Value) (w : World) (K : Value → World → Prop) : sw ⟨false, false⟩ Tryd.prog (fun _ _ => False) Tryd.A_ref06_Text (bodyOf Tryd.f15) [t0, undef, undef, undef, undef, undef, undef, undef, undef] w (topQ false Tryd.prog Tryd.f15 w K) = Tryd.F_ref06_Text t0 w K := by kernel_rfl
theorem Tryd.C_ref06_Text : chk ⟨false, false⟩ Tryd.prog false Tryd.A_ref06_Text (bodyOf Tryd.f15) = true := by kernel_rfl
theorem Tryd.ok_ref06_Text {t0 : Value} {w : World} {K : Value → World → Prop} (h : Tryd.F_ref06_Text t0 w K) : oCall Tryd.prog Tryd.n_ref06_Text #[t0] w K :=
  calls_of_sw (cf := ⟨false, false⟩) Tryd.mixed Tryd.func15 rfl Tryd.C_ref06_Text ((Tryd.E_ref06_Text t0 w K).mpr h)

/- 94: (*loanword/loanwordref06.reader).word -/
def Tryd.A_ref06_reader_word : Ann := .s (.r (.op 0 .p (.nil))) (.b (.lp [4] (.s (.s (.r (.op 0 .p (.op 1 .p (.op 2 .p (.op 3 .p (.op 4 .p (.grp 9 true [(5, .p), (6, .p), (7, .p), (8, .q), (9, .p)] [14] (.op 10 .p (.nil))))))))) (.c (.n) (.n))) (.s (.b (.s (.s (.r (.op 0 .p (.op 1 .p (.op 2 .p (.op 3 .q (.op 4 .p (.op 5 .p (.op 6 .p (.op 7 .q (.op 8 .p (.op 9 .p (.op 10 .p (.grp 28 false [(11, .p), (12, .p), (13, .p), (14, .q), (15, .p), (16, .p), (17, .p), (18, .q), (19, .p), (20, .p), (21, .p), (22, .p), (23, .p)] [41] (.op 24 .p (.nil))))))))))))))) (.c (.s (.r (.op 0 .p (.op 1 .p (.op 2 .p (.op 3 .l (.nil)))))) (.n)) (.n))) (.r (.op 0 .p (.op 1 .p (.op 2 .p (.op 3 .q (.op 4 .p (.op 5 .p (.op 6 .p (.op 7 .l (.nil)))))))))))) (.r (.op 0 .p (.op 1 .p (.op 2 .p (.nil)))))))))
def Tryd.F_ref06_reader_word (t0 : Value) (t1 : Value) (w : World) (K : Value → World → Prop) : Prop :=
 sLoop [(Value.int .i64 0)] w (fun s2 _d3 w4 K1 =>
 opP Tryd.prog (Builtin.len_ #[9] 3 #[t1]) fun t7 =>
 opP Tryd.prog (bsem .lss 3 false (s2.getD 0 undef) t7) fun t8 =>
 sJoin (fun K5 => gIf t8 true (oNil t0 fun t11 =>
 opP Tryd.prog (Instr.fieldAt 94 t11 2) fun t12 =>
 opQ Tryd.prog w4 (Instr.loadAt 4 t12) fun t13 =>
 opP Tryd.prog (Op.unary .not t13) fun t14 =>
 K5 [t14] w4) (K5 [undef] w4)) (fun s6 _d7 w8 =>
 oPick t8 (s6.getD 0 undef) (Value.bool false) fun t15 =>
 oCond t15 (oNil t0 fun t19 =>
 opP Tryd.prog (Instr.fieldAt 94 t19 1) fun t20 =>
 opQ Tryd.prog w8.drew (Instr.loadAt 3 t20) fun t21 =>
 oNil t0 fun t23 =>
 opP Tryd.prog (Instr.fieldAt 94 t23 0) fun t24 =>
 opQ Tryd.prog w8.drew (Instr.loadAt 9 t24) fun t25 =>
 opP Tryd.prog (Builtin.len_ #[9] 3 #[t25]) fun t26 =>
 opP Tryd.prog (bsem .geq 3 false t21 t26) fun t27 =>
 sJoin (fun K9 => gIf t27 false (oNil t0 fun t30 =>
 opP Tryd.prog (Instr.fieldAt 94 t30 0) fun t31 =>
 opQ Tryd.prog w8.drew (Instr.loadAt 9 t31) fun t32 =>
 oNil t0 fun t34 =>
 opP Tryd.prog (Instr.fieldAt 94 t34 1) fun t35 =>
 opQ Tryd.prog w8.drew (Instr.loadAt 3 t35) fun t36 =>
 opP Tryd.prog (Instr.index 9 t32 t36) fun t37 =>
 opP Tryd.prog (Instr.index 9 t1 (s2.getD 0 undef)) fun t40 =>
 opP Tryd.prog (bsem .neq 5 false t37 t40) fun t41 =>
 K9 [t41] w8.drew) (K9 [undef] w8.drew)) (fun s10 _d11 w12 =>
 oPick t27 (Value.bool true) (s10.getD 0 undef) fun t42 =>
 oCond t42 (oNil t0 fun t44 =>
 opP Tryd.prog (Instr.fieldAt 94 t44 2) fun t45 =>
 opU Tryd.prog w12 (Instr.storeAt 4 t45 (Value.bool true)) fun w13 =>
 K (.tuple #[]) w13) (oNil t0 fun t47 =>
 opP Tryd.prog (Instr.fieldAt 94 t47 1) fun t48 =>
 opQ Tryd.prog w12 (Instr.loadAt 3 t48) fun t49 =>
 opP Tryd.prog (bsem .add 3 true t49 (Value.int .i64 1)) fun t50 =>
 oNil t0 fun t51 =>
 opP Tryd.prog (Instr.fieldAt 94 t51 1) fun t52 =>
 opU Tryd.prog w12 (Instr.storeAt 3 t52 t50) fun w14 =>
 opP Tryd.prog (bsem .add 3 true (s2.getD 0 undef) (Value.int .i64 1)) fun t17 =>
 K1 [t17] w14))) (K (.tuple #[]) w8)))
theorem Tryd.E_ref06_reader_word (t0 t1 : Value) (w : World) (K : Value → World → Prop) : sw ⟨false, false⟩ Tryd.prog (fun _ _ => False) Tryd.A_ref06_reader_word (bodyOf Tryd.f94) [t0, t1, undef, undef, undef, undef, undef, undef, undef, undef, undef, undef, undef, undef, undef, undef, undef, undef, undef, undef, undef, undef, undef, undef, undef, undef, undef, undef, undef, undef, undef, undef, undef, undef, undef, undef, undef, undef, undef, undef, undef, undef, undef, undef, undef, undef, undef, undef, undef, undef, undef, undef, undef] w (topQ false Tryd.prog Tryd.f94 w K) = Tryd.F_ref06_reader_word t0 t1 w K := by kernel_rfl
theorem Tryd.C_ref06_reader_word : chk ⟨false, false⟩ Tryd.prog false Tryd.A_ref06_reader_word (bodyOf Tryd.f94) = true := by kernel_rfl
theorem Tryd.ok_ref06_reader_word {t0 t1 : Value} {w : World} {K : Value → World → Prop} (h : Tryd.F_ref06_reader_word t0 t1 w K) : oCall Tryd.prog Tryd.n_ref06_reader_word #[t0, t1] w K :=
  calls_of_sw (cf := ⟨false, false⟩) Tryd.mixed Tryd.func94 rfl Tryd.C_ref06_reader_word ((Tryd.E_ref06_reader_word t0 t1 w K).mpr h)

/- 93: (*loanword/loanwordref06.reader).next -/
def Tryd.A_ref06_reader_next : Ann := .s (.r (.op 0 .p (.nil))) (.s (.s (.r (.op 0 .p (.op 1 .p (.op 2 .p (.op 3 .q (.op 4 .p (.grp 7 false [(5, .p), (6, .p), (7, .p), (8, .q), (9, .p), (10, .p), (11, .p), (12, .q), (13, .p), (14, .p)] [17] (.op 15 .p (.nil))))))))) (.c (.s (.r (.op 0 .p (.nil))) (.n)) (.n))) (.s (.r (.op 0 .p (.op 1 .p (.op 2 .p (.op 3 .q (.op 4 .p (.op 5 .p (.op 6 .p (.op 7 .q (.op 8 .p (.op 9 .p (.nil)))))))))))) (.n)))
def Tryd.F_ref06_reader_next (t0 : Value) (w : World) (K : Value → World → Prop) : Prop :=
 oNil t0 fun t4 =>
 opP Tryd.prog (Instr.fieldAt 94 t4 2) fun t5 =>
 opQ Tryd.prog w.drew (Instr.loadAt 4 t5) fun t6 =>
 sJoin (fun K1 => gIf t6 false (oNil t0 fun t9 =>
 opP Tryd.prog (Instr.fieldAt 94 t9 1) fun t10 =>
 opQ Tryd.prog w.drew (Instr.loadAt 3 t10) fun t11 =>
 oNil t0 fun t13 =>
 opP Tryd.prog (Instr.fieldAt 94 t13 0) fun t14 =>
 opQ Tryd.prog w.drew (Instr.loadAt 9 t14) fun t15 =>
 opP Tryd.prog (Builtin.len_ #[9] 3 #[t15]) fun t16 =>
 opP Tryd.prog (bsem .geq 3 false t11 t16) fun t17 =>
 K1 [t17] w.drew) (K1 [undef] w.drew)) (fun s2 _d3 w4 =>
 oPick t6 (Value.bool true) (s2.getD 0 undef) fun t18 =>
 oCond t18 (K (Value.int .u8 0) w4) (oNil t0 fun t20 =>
 opP Tryd.prog (Instr.fieldAt 94 t20 0) fun t21 =>
 opQ Tryd.prog w4.drew (Instr.loadAt 9 t21) fun t22 =>
 oNil t0 fun t24 =>
 opP Tryd.prog (Instr.fieldAt 94 t24 1) fun t25 =>
 opQ Tryd.prog w4.drew (Instr.loadAt 3 t25) fun t26 =>
 opP Tryd.prog (Instr.index 9 t22 t26) fun t27 =>
 K t27 w4.drew))
theorem Tryd.E_ref06_reader_next (t0 : Value) (w : World) (K : Value → World → Prop) : sw ⟨false, false⟩ Tryd.prog (fun _ _ => False) Tryd.A_ref06_reader_next (bodyOf Tryd.f93) [t0, undef, undef, undef, undef, undef, undef, undef, undef, undef, undef, undef, undef, undef, undef, undef, undef, undef, undef, undef, undef, undef, undef, undef, undef, undef, undef, undef] w (topQ false Tryd.prog Tryd.f93 w K) = Tryd.F_ref06_reader_next t0 w K := by kernel_rfl
theorem Tryd.C_ref06_reader_next : chk ⟨false, false⟩ Tryd.prog false Tryd.A_ref06_reader_next (bodyOf Tryd.f93) = true := by kernel_rfl
theorem Tryd.ok_ref06_reader_next {t0 : Value} {w : World} {K : Value → World → Prop} (h : Tryd.F_ref06_reader_next t0 w K) : oCall Tryd.prog Tryd.n_ref06_reader_next #[t0] w K :=
  calls_of_sw (cf := ⟨false, false⟩) Tryd.mixed Tryd.func93 rfl Tryd.C_ref06_reader_next ((Tryd.E_ref06_reader_next t0 w K).mpr h)

/- 95: (*loanword/loanwordref06.reader).number -/
def Tryd.A_ref06_reader_number : Ann := .s (.r (.op 0 .p (.nil))) (.s (.r (.op 0 .p (.nil))) (.s (.r (.op 0 .p (.op 1 .p (.op 2 .p (.op 3 .q (.op 4 .p (.nil))))))) (.s (.b (.lp [5] (.s (.s (.r (.op 0 .p (.op 1 .l (.op 2 .p (.op 3 .p (.grp 15 true [(4, .p), (5, .l), (6, .p)] [18] (.op 7 .p (.nil)))))))) (.c (.n) (.n))) (.b (.s (.r (.op 0 .p (.op 1 .l (.op 2 .p (.op 3 .p (.op 4 .p (.nil))))))) (.s (.s (.r (.op 0 .p (.op 1 .p (.op 2 .p (.op 3 .q (.op 4 .p (.op 5 .p (.op 6 .p (.op 7 .p (.grp 31 true [(8, .p), (9, .p), (10, .p), (11, .q), (12, .p), (13, .p), (14, .p)] [38] (.op 15 .p (.op 16 .p (.grp 40 false [(17, .p), (18, .p), (19, .p), (20, .p)] [44] (.op 21 .p (.op 22 .p (.grp 46 false [(23, .p), (24, .p), (25, .p), (26, .p), (27, .p)] [51] (.grp 51 true [(28, .p), (29, .p), (30, .p), (31, .p)] [55] (.grp 46 false [(32, .p)] [56] (.op 33 .p (.nil)))))))))))))))))))) (.c (.s (.r (.op 0 .p (.op 1 .p (.op 2 .p (.nil))))) (.n)) (.n))) (.s (.r (.op 0 .p (.op 1 .p (.op 2 .p (.op 3 .p (.op 4 .p (.nil))))))) (.r (.op 0 .p (.op 1 .p (.op 2 .p (.op 3 .q (.op 4 .p (.op 5 .p (.op 6 .p (.op 7 .l (.nil))))))))))))))))) (.j [] (.s (.r (.op 0 .p (.op 1 .p (.op 2 .p (.op 3 .q (.op 4 .p (.op 5 .p (.nil)))))))) (.c (.r (.op 0 .p (.op 1 .p (.op 2 .p (.op 3 .l (.nil)))))) (.n))) (.s (.r (.op 0 .p (.op 1 .p (.op 2 .p (.nil))))) (.n))))))
def Tryd.F_ref06_reader_number (t0 : Value) (t1 : Value) (w : World) (K : Value → World → Prop) : Prop :=
 oNil t0 fun t9 =>
 opP Tryd.prog (Instr.fieldAt 94 t9 1) fun t10 =>
 opQ Tryd.prog w (Instr.loadAt 3 t10) fun t11 =>
 sLoop [(Value.int .u64 0)] w (fun s2 _d3 w4 K1 =>
 oCall Tryd.prog Tryd.n_ref06_reader_next #[t0] w4 fun t13 w5 =>
 opP Tryd.prog (bsem .geq 5 true t13 (Value.int .u8 48)) fun t14 =>
 sJoin (fun K6 => gIf t14 true (oCall Tryd.prog Tryd.n_ref06_reader_next #[t0] w5 fun t17 w10 =>
 opP Tryd.prog (bsem .leq 5 true t17 (Value.int .u8 57)) fun t18 =>
 K6 [t18] w10) (K6 [undef] w5)) (fun s7 _d8 w9 =>
 oPick t14 (s7.getD 0 undef) (Value.bool false) fun t19 =>
 oCond t19 (oCall Tryd.prog Tryd.n_ref06_reader_next #[t0] w9 fun t21 w11 =>
 opP Tryd.prog (bsem .sub 5 true t21 (Value.int .u8 48)) fun t22 =>
 opP Tryd.prog (convert 5 123 t22) fun t23 =>
 oNil t0 fun t25 =>
 opP Tryd.prog (Instr.fieldAt 94 t25 1) fun t26 =>
 opQ Tryd.prog w11 (Instr.loadAt 3 t26) fun t27 =>
 opP Tryd.prog (bsem .add 3 true t11 (Value.int .i64 1)) fun t29 =>
 opP Tryd.prog (bsem .eql 3 false t27 t29) fun t30 =>
 sJoin (fun K12 => gIf t30 true (oNil t0 fun t33 =>
 opP Tryd.prog (Instr.fieldAt 94 t33 0) fun t34 =>
 opQ Tryd.prog w11 (Instr.loadAt 9 t34) fun t35 =>
 opP Tryd.prog (Instr.index 9 t35 t11) fun t37 =>
 opP Tryd.prog (bsem .eql 5 true t37 (Value.int .u8 48)) fun t38 =>
 K12 [t38] w11) (K12 [undef] w11)) (fun s13 _d14 w15 =>
 oPick t30 (s13.getD 0 undef) (Value.bool false) fun t39 =>
 sJoin (fun K16 => gIf t39 false (opP Tryd.prog (bsem .quo 123 true t1 (Value.int .u64 10)) fun t43 =>
 opP Tryd.prog (bsem .gtr 123 false (s2.getD 0 undef) t43) fun t44 =>
 K16 [t44] w15) (K16 [undef] w15)) (fun s17 _d18 w19 =>
 oPick t39 (Value.bool true) (s17.getD 0 undef) fun t45 =>
 sJoin (fun K20 => gIf t45 false (opP Tryd.prog (bsem .quo 123 true t1 (Value.int .u64 10)) fun t49 =>
 opP Tryd.prog (bsem .eql 123 false (s2.getD 0 undef) t49) fun t50 =>
 K20 [t50] w19) (K20 [undef] w19)) (fun s21 _d22 w23 =>
 sJoin (fun K24 => gIf (s21.getD 0 undef) true (opP Tryd.prog (bsem .rem 123 true t1 (Value.int .u64 10)) fun t54 =>
 opP Tryd.prog (bsem .gtr 123 false t23 t54) fun t55 =>
 K24 [t55] w23) (K24 [undef] w23)) (fun s25 _d26 w27 =>
 sJoin (fun K28 => gIf t45 false (oPick (s21.getD 0 undef) (s25.getD 0 undef) (Value.bool false) fun t56 =>
 K28 [t56] w27) (K28 [undef] w27)) (fun s29 _d30 w31 =>
 oPick t45 (Value.bool true) (s29.getD 0 undef) fun t57 =>
 oCond t57 (opP Tryd.prog (convert 123 3 (s2.getD 0 undef)) fun t59 =>
 K t59 w31) (opP Tryd.prog (bsem .mul 123 true (Value.int .u64 10) (s2.getD 0 undef)) fun t61 =>
 opP Tryd.prog (bsem .add 123 false t61 t23) fun t63 =>
 oNil t0 fun t65 =>
 opP Tryd.prog (Instr.fieldAt 94 t65 1) fun t66 =>
 opQ Tryd.prog w31 (Instr.loadAt 3 t66) fun t67 =>
 opP Tryd.prog (bsem .add 3 true t67 (Value.int .i64 1)) fun t68 =>
 oNil t0 fun t69 =>
 opP Tryd.prog (Instr.fieldAt 94 t69 1) fun t70 =>
 opU Tryd.prog w31 (Instr.storeAt 3 t70 t68) fun w32 =>
 K1 [t63] w32))))))) (sJoin (fun K33 =>
 oNil t0 fun t72 =>
 opP Tryd.prog (Instr.fieldAt 94 t72 1) fun t73 =>
 opQ Tryd.prog w9 (Instr.loadAt 3 t73) fun t74 =>
 opP Tryd.prog (bsem .eql 3 false t74 t11) fun t76 =>
 oCond t76 (oNil t0 fun t78 =>
 opP Tryd.prog (Instr.fieldAt 94 t78 2) fun t79 =>
 opU Tryd.prog w9 (Instr.storeAt 4 t79 (Value.bool true)) fun w37 =>
 K33 [] w37) (K33 [] w9)) (fun _s34 _d35 w36 =>
 opP Tryd.prog (convert 123 3 (s2.getD 0 undef)) fun t81 =>
 K t81 w36))))
theorem Tryd.E_ref06_reader_number (t0 t1 : Value) (w : World) (K : Value → World → Prop) : sw ⟨false, false⟩ Tryd.prog (fun _ _ => False) Tryd.A_ref06_reader_number (bodyOf Tryd.f95) [t0, t1, undef, undef, undef, undef, undef, undef, undef, undef, undef, undef, undef, undef, undef, undef, undef, undef, undef, undef, undef, undef, undef, undef, undef, undef, undef, undef, undef, undef, undef, undef, undef, undef, undef, undef, undef, undef, undef, undef, undef, undef, undef, undef, undef, undef, undef, undef, undef, undef, undef, undef, undef, undef, undef, undef, undef, undef, undef, undef, undef, undef, undef, undef, undef, undef, undef, undef, undef, undef, undef, undef, undef, undef, undef, undef, undef, undef, undef, undef, undef, undef] w (topQ false Tryd.prog Tryd.f95 w K) = Tryd.F_ref06_reader_number t0 t1 w K := by kernel_rfl
theorem Tryd.C_ref06_reader_number : chk ⟨false, false⟩ Tryd.prog false Tryd.A_ref06_reader_number (bodyOf Tryd.f95) = true := by kernel_rfl
theorem Tryd.ok_ref06_reader_number {t0 t1 : Value} {w : World} {K : Value → World → Prop} (h : Tryd.F_ref06_reader_number t0 t1 w K) : oCall Tryd.prog Tryd.n_ref06_reader_number #[t0, t1] w K :=
  calls_of_sw (cf := ⟨false, false⟩) Tryd.mixed Tryd.func95 rfl Tryd.C_ref06_reader_number ((Tryd.E_ref06_reader_number t0 t1 w K).mpr h)

/- 59: (*loanword/loanwordref06.reader).kind -/
def Tryd.A_ref06_reader_kind : Ann := .s (.r (.op 0 .l (.nil))) (.s (.s (.r (.op 0 .p (.op 1 .l (.nil)))) (.b (.s (.r (.op 0 .p (.op 1 .p (.nil)))) (.c (.s (.r (.op 0 .p (.op 1 .l (.nil)))) (.s (.r (.op 0 .p (.op 1 .l (.nil)))) (.n))) (.s (.r (.op 0 .p (.op 1 .p (.nil)))) (.c (.s (.r (.op 0 .p (.op 1 .p (.op 2 .p (.op 3 .q (.op 4 .p (.op 5 .p (.op 6 .p (.op 7 .l (.nil)))))))))) (.s (.r (.op 0 .p (.op 1 .l (.op 2 .p (.op 3 .l (.nil)))))) (.n))) (.s (.r (.op 0 .p (.op 1 .p (.nil)))) (.c (.s (.r (.op 0 .p (.op 1 .l (.nil)))) (.s (.r (.op 0 .p (.op 1 .l (.nil)))) (.n))) (.s (.r (.op 0 .p (.op 1 .p (.nil)))) (.c (.s (.s (.r (.op 0 .p (.op 1 .p (.nil)))) (.c (.s (.r (.op 0 .p (.op 1 .p (.op 2 .p (.op 3 .l (.nil)))))) (.s (.r (.op 0 .p (.op 1 .l (.nil)))) (.n))) (.n))) (.s (.r (.op 0 .p (.op 1 .l (.nil)))) (.s (.r (.op 0 .p (.op 1 .p (.op 2 .p (.op 3 .l (.op 4 .l (.op 5 .p (.op 6 .l (.op 7 .l (.nil)))))))))) (.s (.r (.op 0 .p (.op 1 .l (.nil)))) (.s (.r (.op 0 .q (.op 1 .l (.nil)))) (.n)))))) (.s (.r (.op 0 .p (.op 1 .p (.nil)))) (.c (.s (.s (.r (.op 0 .p (.op 1 .p (.nil)))) (.c (.s (.r (.op 0 .p (.op 1 .p (.op 2 .p (.op 3 .l (.nil)))))) (.s (.r (.op 0 .p (.op 1 .l (.nil)))) (.n))) (.n))) (.s (.r (.op 0 .p (.op 1 .p (.op 2 .l (.op 3 .l (.nil)))))) (.n))) (.n))))))))))))) (.s (.r (.op 0 .p (.op 1 .p (.op 2 .p (.op 3 .l (.nil)))))) (.s (.r (.op 0 .p (.op 1 .l (.nil)))) (.n))))
def Tryd.F_ref06_reader_kind (t0 : Value) (t1 : Value) (w : World) (K : Value → World → Prop) : Prop :=
 opW Tryd.prog w (Instr.alloc 25 true (.tuple #[])) fun t4 w1 =>
 oCall Tryd.prog Tryd.n_ref06_reader_next #[t0] w1 fun t7 w2 =>
 opP Tryd.prog (bsem .eql 5 true t7 (Value.int .u8 105)) fun t9 =>
 oCond t9 (oCall Tryd.prog Tryd.n_ref06_reader_word #[t0, (Value.string { data := #[105, 54, 52] })] w2 fun _t11 w3 =>
 opP Tryd.prog (Instr.build 25 #[(0, (Value.int .u8 1))]) fun t12 =>
 opU Tryd.prog w3 (Instr.storeAt 25 t4 t12) fun w4 =>
 opQ Tryd.prog w4 (cellSem 25 t4) fun r5 =>
 K r5 w4) (opP Tryd.prog (bsem .eql 5 true t7 (Value.int .u8 35)) fun t14 =>
 oCond t14 (oNil t0 fun t16 =>
 opP Tryd.prog (Instr.fieldAt 94 t16 1) fun t17 =>
 opQ Tryd.prog w2 (Instr.loadAt 3 t17) fun t18 =>
 opP Tryd.prog (bsem .add 3 true t18 (Value.int .i64 1)) fun t19 =>
 oNil t0 fun t20 =>
 opP Tryd.prog (Instr.fieldAt 94 t20 1) fun t21 =>
 opU Tryd.prog w2 (Instr.storeAt 3 t21 t19) fun w6 =>
 oCall Tryd.prog Tryd.n_ref06_reader_number #[t0, (Value.int .u64 31)] w6 fun t23 w7 =>
 opP Tryd.prog (Instr.build 25 #[(0, (Value.int .u8 5)), (3, t23)]) fun t24 =>
 opU Tryd.prog w7 (Instr.storeAt 25 t4 t24) fun w8 =>
 opQ Tryd.prog w8 (cellSem 25 t4) fun r9 =>
 K r9 w8) (opP Tryd.prog (bsem .eql 5 true t7 (Value.int .u8 98)) fun t26 =>
 oCond t26 (oCall Tryd.prog Tryd.n_ref06_reader_word #[t0, (Value.string { data := #[98, 111, 111, 108] })] w2 fun _t28 w10 =>
 opP Tryd.prog (Instr.build 25 #[(0, (Value.int .u8 2))]) fun t29 =>
 opU Tryd.prog w10 (Instr.storeAt 25 t4 t29) fun w11 =>
 opQ Tryd.prog w11 (cellSem 25 t4) fun r12 =>
 K r12 w11) (opP Tryd.prog (bsem .eql 5 true t7 (Value.int .u8 66)) fun t31 =>
 oCond t31 (opP Tryd.prog (bsem .lss 3 true t1 (Value.int .i64 2)) fun t33 =>
 oCond t33 (oNil t0 fun t35 =>
 opP Tryd.prog (Instr.fieldAt 94 t35 2) fun t36 =>
 opU Tryd.prog w2 (Instr.storeAt 4 t36 (Value.bool true)) fun w13 =>
 opP Tryd.prog (Instr.build 25 #[]) fun t37 =>
 opU Tryd.prog w13 (Instr.storeAt 25 t4 t37) fun w14 =>
 opQ Tryd.prog w14 (cellSem 25 t4) fun r15 =>
 K r15 w14) (oCall Tryd.prog Tryd.n_ref06_reader_word #[t0, (Value.string { data := #[66, 111, 120, 60] })] w2 fun _t39 w16 =>
 opP Tryd.prog (bsem .sub 3 true t1 (Value.int .i64 1)) fun t42 =>
 oCall Tryd.prog Tryd.n_ref06_reader_kind #[t0, t42] w16 fun t43 w17 =>
 opW Tryd.prog w17 (Instr.buildSlice 23 1 #[(0, t43)]) fun t44 w18 =>
 opP Tryd.prog (Instr.build 25 #[(0, (Value.int .u8 3)), (4, t44)]) fun t45 =>
 opW Tryd.prog w18 (Instr.alloc 25 true (.tuple #[])) fun t5 w19 =>
 opU Tryd.prog w19 (Instr.storeAt 25 t5 t45) fun w20 =>
 oCall Tryd.prog Tryd.n_ref06_reader_word #[t0, (Value.string { data := #[62] })] w20 fun _t47 w21 =>
 opQ Tryd.prog w21 (Instr.loadAt 25 t5) fun t48 =>
 opU Tryd.prog w21 (Instr.storeAt 25 t4 t48) fun w22 =>
 opQ Tryd.prog w22 (cellSem 25 t4) fun r23 =>
 K r23 w22)) (opP Tryd.prog (bsem .eql 5 true t7 (Value.int .u8 38)) fun t50 =>
 oCond t50 (opP Tryd.prog (bsem .lss 3 true t1 (Value.int .i64 2)) fun t52 =>
 oCond t52 (oNil t0 fun t54 =>
 opP Tryd.prog (Instr.fieldAt 94 t54 2) fun t55 =>
 opU Tryd.prog w2 (Instr.storeAt 4 t55 (Value.bool true)) fun w24 =>
 opP Tryd.prog (Instr.build 25 #[]) fun t56 =>
 opU Tryd.prog w24 (Instr.storeAt 25 t4 t56) fun w25 =>
 opQ Tryd.prog w25 (cellSem 25 t4) fun r26 =>
 K r26 w25) (oCall Tryd.prog Tryd.n_ref06_reader_reference #[t0, t1] w2 fun t59 w27 =>
 opU Tryd.prog w27 (Instr.storeAt 25 t4 t59) fun w28 =>
 opQ Tryd.prog w28 (cellSem 25 t4) fun r29 =>
 K r29 w28)) (oNil t0 fun t61 =>
 opP Tryd.prog (Instr.fieldAt 94 t61 2) fun t62 =>
 opU Tryd.prog w2 (Instr.storeAt 4 t62 (Value.bool true)) fun w30 =>
 opP Tryd.prog (Instr.build 25 #[]) fun t63 =>
 opU Tryd.prog w30 (Instr.storeAt 25 t4 t63) fun w31 =>
 opQ Tryd.prog w31 (cellSem 25 t4) fun r32 =>
 K r32 w31)))))
theorem Tryd.E_ref06_reader_kind (t0 t1 : Value) (w : World) (K : Value → World → Prop) : sw ⟨false, false⟩ Tryd.prog (fun _ _ => False) Tryd.A_ref06_reader_kind (bodyOf Tryd.f59) [t0, t1, undef, undef, undef, undef, undef, undef, undef, undef, undef, undef, undef, undef, undef, undef, undef, undef, undef, undef, undef, undef, undef, undef, undef, undef, undef, undef, undef, undef, undef, undef, undef, undef, undef, undef, undef, undef, undef, undef, undef, undef, undef, undef, undef, undef, undef, undef, undef, undef, undef, undef, undef, undef, undef, undef, undef, undef, undef, undef, undef, undef, undef, undef] w (topQ false Tryd.prog Tryd.f59 w K) = Tryd.F_ref06_reader_kind t0 t1 w K := by kernel_rfl
theorem Tryd.C_ref06_reader_kind : chk ⟨false, false⟩ Tryd.prog false Tryd.A_ref06_reader_kind (bodyOf Tryd.f59) = true := by kernel_rfl
theorem Tryd.ok_ref06_reader_kind {t0 t1 : Value} {w : World} {K : Value → World → Prop} (h : Tryd.F_ref06_reader_kind t0 t1 w K) : oCall Tryd.prog Tryd.n_ref06_reader_kind #[t0, t1] w K :=
  calls_of_sw (cf := ⟨false, false⟩) Tryd.mixed Tryd.func59 rfl Tryd.C_ref06_reader_kind ((Tryd.E_ref06_reader_kind t0 t1 w K).mpr h)

/- 96: (*loanword/loanwordref06.reader).reference -/
def Tryd.A_ref06_reader_reference : Ann := .s (.r (.op 0 .l (.nil))) (.s (.r (.op 0 .p (.op 1 .l (.op 2 .l (.nil))))) (.s (.r (.op 0 .p (.op 1 .p (.op 2 .p (.op 3 .q (.op 4 .p (.op 5 .p (.op 6 .p (.op 7 .l (.nil)))))))))) (.j [] (.s (.r (.op 0 .p (.op 1 .l (.op 2 .p (.nil))))) (.c (.s (.r (.op 0 .p (.op 1 .p (.op 2 .p (.op 3 .q (.op 4 .p (.op 5 .p (.op 6 .p (.op 7 .l (.nil)))))))))) (.s (.r (.op 0 .p (.op 1 .l (.op 2 .p (.op 3 .l (.nil)))))) (.r (.op 0 .p (.op 1 .l (.nil)))))) (.n))) (.j [] (.s (.r (.op 0 .p (.op 1 .l (.op 2 .p (.nil))))) (.c (.s (.r (.op 0 .p (.op 1 .l (.nil)))) (.r (.op 0 .p (.op 1 .l (.nil))))) (.n))) (.j [] (.s (.r (.op 0 .p (.op 1 .q (.op 2 .p (.op 3 .p (.grp 38 true [(4, .p), (5, .q), (6, .p)] [41] (.op 7 .p (.nil)))))))) (.c (.s (.s (.r (.op 0 .p (.op 1 .l (.op 2 .p (.nil))))) (.c (.s (.r (.op 0 .p (.op 1 .p (.op 2 .p (.op 3 .l (.nil)))))) (.s (.r (.op 0 .q (.op 1 .l (.nil)))) (.n))) (.n))) (.s (.r (.op 0 .p (.op 1 .l (.op 2 .p (.op 3 .p (.grp 53 true [(4, .p), (5, .p)] [55] (.op 6 .p (.nil)))))))) (.c (.s (.r (.op 0 .p (.op 1 .p (.op 2 .p (.op 3 .q (.op 4 .p (.op 5 .p (.op 6 .p (.op 7 .l (.nil)))))))))) (.s (.r (.op 0 .p (.op 1 .l (.op 2 .p (.nil))))) (.c (.s (.r (.op 0 .p (.op 1 .p (.op 2 .p (.op 3 .l (.nil)))))) (.s (.r (.op 0 .q (.op 1 .l (.nil)))) (.n))) (.n)))) (.n)))) (.n))) (.s (.r (.op 0 .p (.op 1 .p (.op 2 .p (.op 3 .l (.op 4 .l (.op 5 .p (.op 6 .l (.nil))))))))) (.s (.r (.op 0 .q (.op 1 .l (.nil)))) (.n))))))))
def Tryd.F_ref06_reader_reference (t0 : Value) (t1 : Value) (w : World) (K : Value → World → Prop) : Prop :=
 opW Tryd.prog w (Instr.alloc 25 true (.tuple #[])) fun t4 w1 =>
 opP Tryd.prog (Instr.build 25 #[(0, (Value.int .u8 4)), (2, (Value.int .i64 (-1)))]) fun t6 =>
 opW Tryd.prog w1 (Instr.alloc 25 true (.tuple #[])) fun t5 w2 =>
 opU Tryd.prog w2 (Instr.storeAt 25 t5 t6) fun w3 =>
 oNil t0 fun t8 =>
 opP Tryd.prog (Instr.fieldAt 94 t8 1) fun t9 =>
 opQ Tryd.prog w3 (Instr.loadAt 3 t9) fun t10 =>
 opP Tryd.prog (bsem .add 3 true t10 (Value.int .i64 1)) fun t11 =>
 oNil t0 fun t12 =>
 opP Tryd.prog (Instr.fieldAt 94 t12 1) fun t13 =>
 opU Tryd.prog w3 (Instr.storeAt 3 t13 t11) fun w4 =>
 sJoin (fun K5 =>
 oCall Tryd.prog Tryd.n_ref06_reader_next #[t0] w4 fun t15 w9 =>
 opP Tryd.prog (bsem .eql 5 true t15 (Value.int .u8 39)) fun t16 =>
 oCond t16 (oNil t0 fun t18 =>
 opP Tryd.prog (Instr.fieldAt 94 t18 1) fun t19 =>
 opQ Tryd.prog w9 (Instr.loadAt 3 t19) fun t20 =>
 opP Tryd.prog (bsem .add 3 true t20 (Value.int .i64 1)) fun t21 =>
 oNil t0 fun t22 =>
 opP Tryd.prog (Instr.fieldAt 94 t22 1) fun t23 =>
 opU Tryd.prog w9 (Instr.storeAt 3 t23 t21) fun w10 =>
 oCall Tryd.prog Tryd.n_ref06_reader_number #[t0, (Value.int .u64 9223372036854775807)] w10 fun t25 w11 =>
 opP Tryd.prog (Instr.fieldAt 25 t5 2) fun t26 =>
 opU Tryd.prog w11 (Instr.storeAt 3 t26 t25) fun w12 =>
 oCall Tryd.prog Tryd.n_ref06_reader_word #[t0, (Value.string { data := #[32] })] w12 fun _t28 w13 =>
 K5 [] w13) (K5 [] w9)) (fun _s6 _d7 w8 =>
 sJoin (fun K14 =>
 oCall Tryd.prog Tryd.n_ref06_reader_next #[t0] w8 fun t30 w18 =>
 opP Tryd.prog (bsem .eql 5 true t30 (Value.int .u8 109)) fun t31 =>
 oCond t31 (oCall Tryd.prog Tryd.n_ref06_reader_word #[t0, (Value.string { data := #[109, 117, 116, 32] })] w18 fun _t33 w19 =>
 opP Tryd.prog (Instr.fieldAt 25 t5 1) fun t34 =>
 opU Tryd.prog w19 (Instr.storeAt 4 t34 (Value.bool true)) fun w20 =>
 K14 [] w20) (K14 [] w18)) (fun _s15 _d16 w17 =>
 sJoin (fun K21 =>
 opP Tryd.prog (Instr.fieldAt 25 t5 2) fun t35 =>
 opQ Tryd.prog w17 (Instr.loadAt 3 t35) fun t36 =>
 opP Tryd.prog (bsem .lss 3 true t36 (Value.int .i64 0)) fun t37 =>
 sJoin (fun K25 => gIf t37 true (opP Tryd.prog (Instr.fieldAt 25 t5 1) fun t39 =>
 opQ Tryd.prog w17 (Instr.loadAt 4 t39) fun t40 =>
 opP Tryd.prog (Op.unary .not t40) fun t41 =>
 K25 [t41] w17) (K25 [undef] w17)) (fun s26 _d27 w28 =>
 oPick t37 (s26.getD 0 undef) (Value.bool false) fun t42 =>
 oCond t42 (oCall Tryd.prog Tryd.n_ref06_reader_next #[t0] w28 fun t44 w29 =>
 opP Tryd.prog (bsem .eql 5 true t44 (Value.int .u8 38)) fun t45 =>
 oCond t45 (oNil t0 fun t47 =>
 opP Tryd.prog (Instr.fieldAt 94 t47 2) fun t48 =>
 opU Tryd.prog w29 (Instr.storeAt 4 t48 (Value.bool true)) fun w30 =>
 opQ Tryd.prog w30 (Instr.loadAt 25 t5) fun t49 =>
 opU Tryd.prog w30 (Instr.storeAt 25 t4 t49) fun w31 =>
 opQ Tryd.prog w31 (cellSem 25 t4) fun r32 =>
 K r32 w31) (oCall Tryd.prog Tryd.n_ref06_reader_next #[t0] w29 fun t51 w33 =>
 opP Tryd.prog (bsem .eql 5 true t51 (Value.int .u8 32)) fun t52 =>
 sJoin (fun K34 => gIf t52 true (opP Tryd.prog (bsem .gtr 3 true t1 (Value.int .i64 2)) fun t55 =>
 K34 [t55] w33) (K34 [undef] w33)) (fun s35 _d36 w37 =>
 oPick t52 (s35.getD 0 undef) (Value.bool false) fun t56 =>
 oCond t56 (oNil t0 fun t58 =>
 opP Tryd.prog (Instr.fieldAt 94 t58 1) fun t59 =>
 opQ Tryd.prog w37 (Instr.loadAt 3 t59) fun t60 =>
 opP Tryd.prog (bsem .add 3 true t60 (Value.int .i64 1)) fun t61 =>
 oNil t0 fun t62 =>
 opP Tryd.prog (Instr.fieldAt 94 t62 1) fun t63 =>
 opU Tryd.prog w37 (Instr.storeAt 3 t63 t61) fun w38 =>
 oCall Tryd.prog Tryd.n_ref06_reader_next #[t0] w38 fun t65 w39 =>
 opP Tryd.prog (bsem .neq 5 true t65 (Value.int .u8 38)) fun t66 =>
 oCond t66 (oNil t0 fun t68 =>
 opP Tryd.prog (Instr.fieldAt 94 t68 2) fun t69 =>
 opU Tryd.prog w39 (Instr.storeAt 4 t69 (Value.bool true)) fun w40 =>
 opQ Tryd.prog w40 (Instr.loadAt 25 t5) fun t70 =>
 opU Tryd.prog w40 (Instr.storeAt 25 t4 t70) fun w41 =>
 opQ Tryd.prog w41 (cellSem 25 t4) fun r42 =>
 K r42 w41) (K21 [] w39)) (K21 [] w37)))) (K21 [] w28))) (fun _s22 _d23 w24 =>
 opP Tryd.prog (bsem .sub 3 true t1 (Value.int .i64 1)) fun t73 =>
 oCall Tryd.prog Tryd.n_ref06_reader_kind #[t0, t73] w24 fun t74 w43 =>
 opW Tryd.prog w43 (Instr.buildSlice 23 1 #[(0, t74)]) fun t75 w44 =>
 opP Tryd.prog (Instr.fieldAt 25 t5 4) fun t76 =>
 opU Tryd.prog w44 (Instr.storeAt 23 t76 t75) fun w45 =>
 opQ Tryd.prog w45 (Instr.loadAt 25 t5) fun t77 =>
 opU Tryd.prog w45 (Instr.storeAt 25 t4 t77) fun w46 =>
 opQ Tryd.prog w46 (cellSem 25 t4) fun r47 =>
 K r47 w46)))
theorem Tryd.E_ref06_reader_reference (t0 t1 : Value) (w : World) (K : Value → World → Prop) : sw ⟨false, false⟩ Tryd.prog (fun _ _ => False) Tryd.A_ref06_reader_reference (bodyOf Tryd.f96) [t0, t1, undef, undef, undef, undef, undef, undef, undef, undef, undef, undef, undef, undef, undef, undef, undef, undef, undef, undef, undef, undef, undef, undef, undef, undef, undef, undef, undef, undef, undef, undef, undef, undef, undef, undef, undef, undef, undef, undef, undef, undef, undef, undef, undef, undef, undef, undef, undef, undef, undef, undef, undef, undef, undef, undef, undef, undef, undef, undef, undef, undef, undef, undef, undef, undef, undef, undef, undef, undef, undef, undef, undef, undef, undef, undef, undef, undef] w (topQ false Tryd.prog Tryd.f96 w K) = Tryd.F_ref06_reader_reference t0 t1 w K := by kernel_rfl
theorem Tryd.C_ref06_reader_reference : chk ⟨false, false⟩ Tryd.prog false Tryd.A_ref06_reader_reference (bodyOf Tryd.f96) = true := by kernel_rfl
theorem Tryd.ok_ref06_reader_reference {t0 t1 : Value} {w : World} {K : Value → World → Prop} (h : Tryd.F_ref06_reader_reference t0 t1 w K) : oCall Tryd.prog Tryd.n_ref06_reader_reference #[t0, t1] w K :=
  calls_of_sw (cf := ⟨false, false⟩) Tryd.mixed Tryd.func96 rfl Tryd.C_ref06_reader_reference ((Tryd.E_ref06_reader_reference t0 t1 w K).mpr h)

/- 17: loanword/loanwordref06.Read -/
def Tryd.A_ref06_Read : Ann := .s (.r (.op 0 .l (.op 1 .p (.op 2 .p (.nil))))) (.s (.r (.op 0 .p (.op 1 .p (.op 2 .l (.op 3 .p (.nil)))))) (.s (.r (.op 0 .p (.op 1 .l (.op 2 .l (.op 3 .l (.nil)))))) (.s (.s (.r (.op 0 .p (.op 1 .p (.op 2 .p (.op 3 .q (.op 4 .p (.grp 16 false [(5, .p), (6, .p), (7, .p), (8, .q), (9, .p), (10, .p), (11, .p)] [23] (.op 12 .p (.nil))))))))) (.c (.s (.r (.op 0 .p (.op 1 .p (.op 2 .p (.op 3 .p (.alt 4 .l (.op 5 .l (.op 6 .p (.op 7 .p (.nil)))) (.op 5 .l (.op 4 .l (.op 6 .p (.op 7 .p (.nil))))))))))) (.n)) (.n))) (.s (.r (.op 0 .q (.op 1 .l (.op 2 .p (.op 3 .p (.nil)))))) (.n)))))
def Tryd.F_ref06_Read (t0 : Value) (w : World) (K : Value → World → Prop) : Prop :=
 opW Tryd.prog w (Instr.alloc 25 true (.tuple #[])) fun t2 w1 =>
 opP Tryd.prog (Instr.build 94 #[(0, t0)]) fun t8 =>
 opW Tryd.prog w1 (Instr.box 94 t8) fun t9 w2 =>
 oCall Tryd.prog Tryd.n_ref06_reader_kind #[t9, (Value.int .i64 48)] w2 fun t11 w3 =>
 opW Tryd.prog w3 (Instr.alloc 25 true (.tuple #[])) fun t6 w4 =>
 opU Tryd.prog w4 (Instr.storeAt 25 t6 t11) fun w5 =>
 oNil t9 fun t13 =>
 opP Tryd.prog (Instr.fieldAt 94 t13 2) fun t14 =>
 opQ Tryd.prog w5 (Instr.loadAt 4 t14) fun t15 =>
 sJoin (fun K6 => gIf t15 false (oNil t9 fun t18 =>
 opP Tryd.prog (Instr.fieldAt 94 t18 1) fun t19 =>
 opQ Tryd.prog w5 (Instr.loadAt 3 t19) fun t20 =>
 opP Tryd.prog (Builtin.len_ #[9] 3 #[t0]) fun t22 =>
 opP Tryd.prog (bsem .lss 3 false t20 t22) fun t23 =>
 K6 [t23] w5) (K6 [undef] w5)) (fun s7 _d8 w9 =>
 oPick t15 (Value.bool true) (s7.getD 0 undef) fun t24 =>
 oCond t24 (opP Tryd.prog (Instr.build 25 #[]) fun t25 =>
 oNil t9 fun t27 =>
 opP Tryd.prog (Instr.fieldAt 94 t27 1) fun t28 =>
 ((opW Tryd.prog w9.drew (Instr.loadAt 3 t28) fun t29 w10 =>
 opU Tryd.prog w10 (Instr.storeAt 25 t2 t25) fun w11 =>
 opQ Tryd.prog w11 (cellSem 25 t2) fun r12 =>
 K (.tuple #[r12, t29, (Value.int .i64 60)]) w11) ∧
 (opU Tryd.prog w9.drew (Instr.storeAt 25 t2 t25) fun w13 =>
 opW Tryd.prog w13 (Instr.loadAt 3 t28) fun t29_15 w14 =>
 opQ Tryd.prog w14 (cellSem 25 t2) fun r16 =>
 K (.tuple #[r16, t29_15, (Value.int .i64 60)]) w14))) (opQ Tryd.prog w9 (Instr.loadAt 25 t6) fun t30 =>
 opU Tryd.prog w9 (Instr.storeAt 25 t2 t30) fun w17 =>
 opQ Tryd.prog w17 (cellSem 25 t2) fun r18 =>
 K (.tuple #[r18, (Value.int .i64 0), (Value.int .i64 0)]) w17))
theorem Tryd.E_ref06_Read (t0 : Value) (w : World) (K : Value → World → Prop) : sw ⟨false, false⟩ Tryd.prog (fun _ _ => False) Tryd.A_ref06_Read (bodyOf Tryd.f17) [t0, undef, undef, undef, undef, undef, undef, undef, undef, undef, undef, undef, undef, undef, undef, undef, undef, undef, undef, undef, undef, undef, undef, undef, undef, undef, undef, undef, undef, undef, undef] w (topQ false Tryd.prog Tryd.f17 w K) = Tryd.F_ref06_Read t0 w K := by kernel_rfl
theorem Tryd.C_ref06_Read : chk ⟨false, false⟩ Tryd.prog false Tryd.A_ref06_Read (bodyOf Tryd.f17) = true := by kernel_rfl
theorem Tryd.ok_ref06_Read {t0 : Value} {w : World} {K : Value → World → Prop} (h : Tryd.F_ref06_Read t0 w K) : oCall Tryd.prog Tryd.n_ref06_Read #[t0] w K :=
  calls_of_sw (cf := ⟨false, false⟩) Tryd.mixed Tryd.func17 rfl Tryd.C_ref06_Read ((Tryd.E_ref06_Read t0 w K).mpr h)

end Go.Proofs
end

section
namespace Go.Proofs
open Go.Sh
set_option maxRecDepth 100000
/- 3: loanword/loanwordlaw06.TypesAsk -/
def Tryd.A_law06_TypesAsk : Ann := .s (.r (.op 0 .l (.op 1 .l (.op 2 .p (.nil))))) (.s (.s (.r (.op 0 .q (.op 1 .l (.op 2 .p (.op 3 .p (.grp 16 false [(4, .q), (5, .l), (6, .p)] [19] (.op 7 .p (.nil)))))))) (.c (.s (.r (.op 0 .l (.op 1 .p (.nil)))) (.n)) (.n))) (.s (.r (.op 0 .q (.op 1 .q (.op 2 .l (.op 3 .p (.op 4 .p (.op 5 .p (.op 6 .p (.op 7 .p (.nil)))))))))) (.s (.r (.op 0 .q (.op 1 .q (.op 2 .l (.op 3 .p (.op 4 .p (.op 5 .p (.op 6 .p (.op 7 .p (.nil)))))))))) (.s (.r (.op 0 .q (.op 1 .q (.op 2 .l (.op 3 .p (.op 4 .p (.op 5 .p (.op 6 .p (.op 7 .p (.nil)))))))))) (.s (.s (.r (.op 0 .p (.op 1 .p (.op 2 .p (.op 3 .p (.grp 43 false [(4, .p), (5, .p), (6, .p)] [46] (.op 7 .p (.op 8 .p (.grp 48 false [(9, .p), (10, .p), (11, .p), (12, .p), (13, .p)] [53] (.op 14 .p (.op 15 .p (.grp 55 false [(16, .p), (17, .p), (18, .p), (19, .p), (20, .p)] [60] (.op 21 .p (.nil)))))))))))))) (.c (.s (.r (.op 0 .p (.nil))) (.n)) (.n))) (.s (.s (.r (.op 0 .p (.nil))) (.b (.lp [11] (.s (.s (.r (.op 0 .p (.op 1 .p (.op 2 .p (.op 3 .p (.nil)))))) (.c (.n) (.n))) (.s (.b (.s (.s (.r (.op 0 .p (.op 1 .p (.op 2 .p (.op 3 .q (.op 4 .p (.op 5 .p (.op 6 .p (.op 7 .q (.op 8 .q (.nil))))))))))) (.c (.s (.r (.op 0 .p (.nil))) (.n)) (.n))) (.r (.op 0 .p (.op 1 .p (.op 2 .p (.op 3 .p (.op 4 .l (.nil))))))))) (.r (.op 0 .p (.op 1 .p (.op 2 .p (.nil)))))))))) (.s (.s (.r (.op 0 .p (.nil))) (.b (.lp [12] (.s (.s (.r (.op 0 .p (.op 1 .p (.op 2 .p (.op 3 .p (.nil)))))) (.c (.n) (.n))) (.s (.b (.s (.r (.op 0 .p (.op 1 .p (.op 2 .p (.op 3 .q (.op 4 .p (.op 5 .p (.op 6 .p (.op 7 .q (.op 8 .q (.nil))))))))))) (.c (.s (.r (.op 0 .p (.nil))) (.n)) (.n)))) (.r (.op 0 .p (.op 1 .p (.op 2 .p (.nil)))))))))) (.s (.r (.op 0 .l (.op 1 .p (.nil)))) (.n)))))))))
def Tryd.F_law06_TypesAsk (t0 : Value) (t1 : Value) (w : World) (K : Value → World → Prop) : Prop :=
 opW Tryd.prog w (Instr.box 25 t0) fun t2 w1 =>
 opW Tryd.prog w1 (Instr.box 25 t1) fun t3 w2 =>
 opQ Tryd.prog w2 (Instr.loadAt 25 t2) fun t13 =>
 oCall Tryd.prog Tryd.n_law06_typeFits #[t13, (Value.int .i64 60)] w2 fun t14 w3 =>
 opP Tryd.prog (Op.unary .not t14) fun t15 =>
 sJoin (fun K4 => gIf t15 false (opQ Tryd.prog w3 (Instr.loadAt 25 t3) fun t17 =>
 oCall Tryd.prog Tryd.n_law06_typeFits #[t17, (Value.int .i64 60)] w3 fun t18 w8 =>
 opP Tryd.prog (Op.unary .not t18) fun t19 =>
 K4 [t19] w8) (K4 [undef] w3)) (fun s5 _d6 w7 =>
 oPick t15 (Value.bool true) (s5.getD 0 undef) fun t20 =>
 oCond t20 (oCall Tryd.prog Tryd.n_law06_awake #[] w7 fun t21 w9 =>
 K t21 w9) (opQ Tryd.prog w7 (Instr.loadAt 25 t2) fun t23 =>
 opQ Tryd.prog w7 (Instr.loadAt 25 t3) fun t24 =>
 oCall Tryd.prog Tryd.n_types_Asks #[t23, t24] w7 fun t25 w10 =>
 opP Tryd.prog (Instr.extract t25 0) fun t26 =>
 opP Tryd.prog (Instr.extract t25 1) fun t27 =>
 opQ Tryd.prog w10 (Instr.loadAt 25 t2) fun t29 =>
 opQ Tryd.prog w10 (Instr.loadAt 25 t3) fun t30 =>
 oCall Tryd.prog Tryd.n_types_Asks #[t29, t30] w10 fun t31 w11 =>
 opP Tryd.prog (Instr.extract t31 0) fun t32 =>
 opP Tryd.prog (Instr.extract t31 1) fun t33 =>
 opQ Tryd.prog w11 (Instr.loadAt 25 t2) fun t35 =>
 opQ Tryd.prog w11 (Instr.loadAt 25 t3) fun t36 =>
 oCall Tryd.prog Tryd.n_ref06_Asks #[t35, t36] w11 fun t37 w12 =>
 opP Tryd.prog (Instr.extract t37 0) fun t38 =>
 opP Tryd.prog (Instr.extract t37 1) fun t39 =>
 opP Tryd.prog (bsem .neq 3 false t27 t39) fun t42 =>
 sJoin (fun K13 => gIf t42 false (opP Tryd.prog (bsem .neq 29 false t33 t27) fun t46 =>
 K13 [t46] w12) (K13 [undef] w12)) (fun s14 _d15 w16 =>
 oPick t42 (Value.bool true) (s14.getD 0 undef) fun t47 =>
 sJoin (fun K17 => gIf t47 false (opP Tryd.prog (Builtin.len_ #[28] 3 #[t26]) fun t50 =>
 opP Tryd.prog (Builtin.len_ #[28] 3 #[t38]) fun t52 =>
 opP Tryd.prog (bsem .neq 3 false t50 t52) fun t53 =>
 K17 [t53] w16) (K17 [undef] w16)) (fun s18 _d19 w20 =>
 oPick t47 (Value.bool true) (s18.getD 0 undef) fun t54 =>
 sJoin (fun K21 => gIf t54 false (opP Tryd.prog (Builtin.len_ #[28] 3 #[t32]) fun t57 =>
 opP Tryd.prog (Builtin.len_ #[28] 3 #[t38]) fun t59 =>
 opP Tryd.prog (bsem .neq 3 false t57 t59) fun t60 =>
 K21 [t60] w20) (K21 [undef] w20)) (fun s22 _d23 w24 =>
 oPick t54 (Value.bool true) (s22.getD 0 undef) fun t61 =>
 oCond t61 (K (Value.bool false) w24) (sLoop [(Value.int .i64 0)] w24 (fun s26 _d27 w28 K25 =>
 opP Tryd.prog (Builtin.len_ #[28] 3 #[t26]) fun t64 =>
 opP Tryd.prog (bsem .lss 3 false (s26.getD 0 undef) t64) fun t65 =>
 oCond t65 (opP Tryd.prog (Instr.indexAt 28 t26 (s26.getD 0 undef)) fun t70 =>
 opQ Tryd.prog w28.drew (Instr.loadAt 35 t70) fun t71 =>
 opP Tryd.prog (Instr.indexAt 28 t38 (s26.getD 0 undef)) fun t74 =>
 opQ Tryd.prog w28.drew (Instr.loadAt 35 t74) fun t75 =>
 opQ Tryd.prog w28.drew (bsem .neq 35 false t71 t75) fun t76 =>
 oCond t76 (K (Value.bool false) w28.drew) (opP Tryd.prog (Instr.build 35 #[(0, (Value.int .i64 (-9)))]) fun t79 =>
 opP Tryd.prog (Instr.indexAt 28 t26 (s26.getD 0 undef)) fun t80 =>
 opU Tryd.prog w28.drew (Instr.storeAt 35 t80 t79) fun w29 =>
 opP Tryd.prog (bsem .add 3 true (s26.getD 0 undef) (Value.int .i64 1)) fun t67 =>
 K25 [t67] w29)) (sLoop [(Value.int .i64 0)] w28 (fun s31 _d32 w33 K30 =>
 opP Tryd.prog (Builtin.len_ #[28] 3 #[t32]) fun t83 =>
 opP Tryd.prog (bsem .lss 3 false (s31.getD 0 undef) t83) fun t84 =>
 oCond t84 (opP Tryd.prog (Instr.indexAt 28 t32 (s31.getD 0 undef)) fun t89 =>
 opQ Tryd.prog w33.drew (Instr.loadAt 35 t89) fun t90 =>
 opP Tryd.prog (Instr.indexAt 28 t38 (s31.getD 0 undef)) fun t93 =>
 opQ Tryd.prog w33.drew (Instr.loadAt 35 t93) fun t94 =>
 opQ Tryd.prog w33.drew (bsem .neq 35 false t90 t94) fun t95 =>
 oCond t95 (K (Value.bool false) w33.drew) (opP Tryd.prog (bsem .add 3 true (s31.getD 0 undef) (Value.int .i64 1)) fun t86 =>
 K30 [t86] w33.drew)) (oCall Tryd.prog Tryd.n_law06_awake #[] w33 fun t96 w34 =>
 K t96 w34))))))))))
theorem Tryd.E_law06_TypesAsk (t0 t1 : Value) (w : World) (K : Value → World → Prop) : sw ⟨false, false⟩ Tryd.prog (fun _ _ => False) Tryd.A_law06_TypesAsk (bodyOf Tryd.f3) [t0, t1, undef, undef, undef, undef, undef, undef, undef, undef, undef, undef, undef, undef, undef, undef, undef, undef, undef, undef, undef, undef, undef, undef, undef, undef, undef, undef, undef, undef, undef, undef, undef, undef, undef, undef, undef, undef, undef, undef, undef, undef, undef, undef, undef, undef, undef, undef, undef, undef, undef, undef, undef, undef, undef, undef, undef, undef, undef, undef, undef, undef, undef, undef, undef, undef, undef, undef, undef, undef, undef, undef, undef, undef, undef, undef, undef, undef, undef, undef, undef, undef, undef, undef, undef, undef, undef, undef, undef, undef, undef, undef, undef, undef, undef, undef, undef] w (topQ false Tryd.prog Tryd.f3 w K) = Tryd.F_law06_TypesAsk t0 t1 w K := by kernel_rfl
theorem Tryd.C_law06_TypesAsk : chk ⟨false, false⟩ Tryd.prog false Tryd.A_law06_TypesAsk (bodyOf Tryd.f3) = true := by kernel_rfl
theorem Tryd.ok_law06_TypesAsk {t0 t1 : Value} {w : World} {K : Value → World → Prop} (h : Tryd.F_law06_TypesAsk t0 t1 w K) : oCall Tryd.prog Tryd.n_law06_TypesAsk #[t0, t1] w K :=
  calls_of_sw (cf := ⟨false, false⟩) Tryd.mixed Tryd.func3 rfl Tryd.C_law06_TypesAsk ((Tryd.E_law06_TypesAsk t0 t1 w K).mpr h)

/- 4: loanword/loanwordlaw06.TypesTexts -/
def Tryd.A_law06_TypesTexts : Ann := .s (.r (.op 0 .l (.op 1 .p (.nil)))) (.s (.s (.r (.op 0 .q (.op 1 .l (.op 2 .p (.op 3 .p (.grp 19 false [(4, .p), (5, .p), (6, .p)] [22] (.op 7 .p (.nil)))))))) (.c (.s (.r (.op 0 .l (.op 1 .p (.nil)))) (.n)) (.n))) (.s (.r (.op 0 .q (.op 1 .l (.op 2 .p (.op 3 .p (.op 4 .p (.op 5 .p (.op 6 .p (.nil))))))))) (.s (.r (.op 0 .q (.op 1 .l (.op 2 .p (.op 3 .p (.op 4 .p (.op 5 .p (.op 6 .p (.nil))))))))) (.s (.s (.r (.op 0 .p (.op 1 .p (.op 2 .p (.op 3 .p (.grp 38 false [(4, .p), (5, .p), (6, .p)] [41] (.op 7 .p (.nil)))))))) (.c (.s (.r (.op 0 .p (.nil))) (.n)) (.n))) (.s (.r (.op 0 .p (.op 1 .l (.op 2 .p (.op 3 .p (.op 4 .p (.op 5 .p (.op 6 .l (.op 7 .l (.op 8 .p (.op 9 .p (.nil)))))))))))) (.s (.r (.op 0 .p (.op 1 .l (.op 2 .p (.op 3 .p (.op 4 .p (.op 5 .p (.op 6 .l (.op 7 .l (.op 8 .p (.op 9 .p (.nil)))))))))))) (.s (.r (.op 0 .p (.op 1 .l (.op 2 .p (.op 3 .p (.op 4 .p (.op 5 .p (.op 6 .l (.op 7 .l (.op 8 .p (.op 9 .p (.nil)))))))))))) (.s (.s (.r (.op 0 .p (.op 1 .p (.op 2 .p (.op 3 .p (.grp 64 false [(4, .p), (5, .p), (6, .p)] [67] (.op 7 .p (.op 8 .p (.grp 69 false [(9, .q), (10, .q), (11, .l), (12, .p)] [73] (.op 13 .p (.nil))))))))))) (.c (.s (.r (.op 0 .p (.nil))) (.n)) (.n))) (.s (.r (.op 0 .q (.op 1 .l (.nil)))) (.s (.r (.op 0 .q (.op 1 .q (.op 2 .l (.op 3 .p (.grp 80 true [(4, .l)] [81] (.op 5 .p (.op 6 .p (.nil))))))))) (.n)))))))))))
def Tryd.F_law06_TypesTexts (t0 : Value) (t1 : Value) (w : World) (K : Value → World → Prop) : Prop :=
 opW Tryd.prog w (Instr.box 25 t0) fun t2 w1 =>
 opQ Tryd.prog w1 (Instr.loadAt 25 t2) fun t16 =>
 oCall Tryd.prog Tryd.n_law06_typeFits #[t16, (Value.int .i64 60)] w1 fun t17 w2 =>
 opP Tryd.prog (Op.unary .not t17) fun t18 =>
 sJoin (fun K3 => gIf t18 false (opP Tryd.prog (Builtin.len_ #[9] 3 #[t1]) fun t21 =>
 opP Tryd.prog (bsem .gtr 3 true t21 (Value.int .i64 8192)) fun t22 =>
 K3 [t22] w2) (K3 [undef] w2)) (fun s4 _d5 w6 =>
 oPick t18 (Value.bool true) (s4.getD 0 undef) fun t23 =>
 oCond t23 (oCall Tryd.prog Tryd.n_law06_awake #[] w6 fun t24 w7 =>
 K t24 w7) (opQ Tryd.prog w6 (Instr.loadAt 25 t2) fun t26 =>
 oCall Tryd.prog Tryd.n_types_Text #[t26] w6 fun t27 w8 =>
 opP Tryd.prog (Instr.extract t27 0) fun t28 =>
 opP Tryd.prog (Instr.extract t27 1) fun t29 =>
 opQ Tryd.prog w8 (Instr.loadAt 25 t2) fun t31 =>
 oCall Tryd.prog Tryd.n_ref06_Text #[t31] w8 fun t32 w9 =>
 opP Tryd.prog (Instr.extract t32 0) fun t33 =>
 opP Tryd.prog (Instr.extract t32 1) fun t34 =>
 opP Tryd.prog (bsem .neq 9 false t28 t33) fun t37 =>
 sJoin (fun K10 => gIf t37 false (opP Tryd.prog (bsem .neq 3 false t29 t34) fun t41 =>
 K10 [t41] w9) (K10 [undef] w9)) (fun s11 _d12 w13 =>
 oPick t37 (Value.bool true) (s11.getD 0 undef) fun t42 =>
 oCond t42 (K (Value.bool false) w13) (oCall Tryd.prog Tryd.n_types_Read #[t1] w13 fun t45 w14 =>
 opP Tryd.prog (Instr.extract t45 0) fun t46 =>
 opP Tryd.prog (Instr.extract t45 1) fun t47 =>
 opP Tryd.prog (Instr.extract t45 2) fun t48 =>
 opW Tryd.prog w14 (Instr.alloc 25 true (.tuple #[])) fun t9 w15 =>
 opU Tryd.prog w15 (Instr.storeAt 25 t9 t46) fun w16 =>
 oCall Tryd.prog Tryd.n_types_Read #[t1] w16 fun t51 w17 =>
 opP Tryd.prog (Instr.extract t51 0) fun t52 =>
 opP Tryd.prog (Instr.extract t51 1) fun _t53 =>
 opP Tryd.prog (Instr.extract t51 2) fun _t54 =>
 opW Tryd.prog w17 (Instr.alloc 25 true (.tuple #[])) fun t11 w18 =>
 opU Tryd.prog w18 (Instr.storeAt 25 t11 t52) fun w19 =>
 oCall Tryd.prog Tryd.n_ref06_Read #[t1] w19 fun t57 w20 =>
 opP Tryd.prog (Instr.extract t57 0) fun t58 =>
 opP Tryd.prog (Instr.extract t57 1) fun t59 =>
 opP Tryd.prog (Instr.extract t57 2) fun t60 =>
 opW Tryd.prog w20 (Instr.alloc 25 true (.tuple #[])) fun t14 w21 =>
 opU Tryd.prog w21 (Instr.storeAt 25 t14 t58) fun w22 =>
 opP Tryd.prog (bsem .neq 3 false t47 t59) fun t63 =>
 sJoin (fun K23 => gIf t63 false (opP Tryd.prog (bsem .neq 3 false t48 t60) fun t67 =>
 K23 [t67] w22) (K23 [undef] w22)) (fun s24 _d25 w26 =>
 oPick t63 (Value.bool true) (s24.getD 0 undef) fun t68 =>
 sJoin (fun K27 => gIf t68 false (opQ Tryd.prog w26 (Instr.loadAt 25 t9) fun t70 =>
 opQ Tryd.prog w26 (Instr.loadAt 25 t14) fun t71 =>
 oCall Tryd.prog Tryd.n_law06_equal #[t70, t71] w26 fun t72 w31 =>
 opP Tryd.prog (Op.unary .not t72) fun t73 =>
 K27 [t73] w31) (K27 [undef] w26)) (fun s28 _d29 w30 =>
 oPick t68 (Value.bool true) (s28.getD 0 undef) fun t74 =>
 oCond t74 (K (Value.bool false) w30) (opQ Tryd.prog w30 (Instr.loadAt 25 t9) fun t75 =>
 oCall Tryd.prog Tryd.n_law06_spoil #[t75] w30 fun _t76 w32 =>
 opQ Tryd.prog w32 (Instr.loadAt 25 t11) fun t77 =>
 opQ Tryd.prog w32 (Instr.loadAt 25 t14) fun t78 =>
 oCall Tryd.prog Tryd.n_law06_equal #[t77, t78] w32 fun t79 w33 =>
 sJoin (fun K34 => gIf t79 true (oCall Tryd.prog Tryd.n_law06_awake #[] w33 fun t81 w38 =>
 K34 [t81] w38) (K34 [undef] w33)) (fun s35 _d36 w37 =>
 oPick t79 (s35.getD 0 undef) (Value.bool false) fun t82 =>
 K t82 w37))))))))
theorem Tryd.E_law06_TypesTexts (t0 t1 : Value) (w : World) (K : Value → World → Prop) : sw ⟨false, false⟩ Tryd.prog (fun _ _ => False) Tryd.A_law06_TypesTexts (bodyOf Tryd.f4) [t0, t1, undef, undef, undef, undef, undef, undef, undef, undef, undef, undef, undef, undef, undef, undef, undef, undef, undef, undef, undef, undef, undef, undef, undef, undef, undef, undef, undef, undef, undef, undef, undef, undef, undef, undef, undef, undef, undef, undef, undef, undef, undef, undef, undef, undef, undef, undef, undef, undef, undef, undef, undef, undef, undef, undef, undef, undef, undef, undef, undef, undef, undef, undef, undef, undef, undef, undef, undef, undef, undef, undef, undef, undef, undef, undef, undef, undef, undef, undef, undef, undef, undef] w (topQ false Tryd.prog Tryd.f4 w K) = Tryd.F_law06_TypesTexts t0 t1 w K := by kernel_rfl
theorem Tryd.C_law06_TypesTexts : chk ⟨false, false⟩ Tryd.prog false Tryd.A_law06_TypesTexts (bodyOf Tryd.f4) = true := by kernel_rfl
theorem Tryd.ok_law06_TypesTexts {t0 t1 : Value} {w : World} {K : Value → World → Prop} (h : Tryd.F_law06_TypesTexts t0 t1 w K) : oCall Tryd.prog Tryd.n_law06_TypesTexts #[t0, t1] w K :=
  calls_of_sw (cf := ⟨false, false⟩) Tryd.mixed Tryd.func4 rfl Tryd.C_law06_TypesTexts ((Tryd.E_law06_TypesTexts t0 t1 w K).mpr h)

/- 5: loanword/loanwordlaw06.TypesOrder -/
def Tryd.A_law06_TypesOrder : Ann := .s (.r (.op 0 .l (.op 1 .l (.op 2 .l (.op 3 .p (.nil)))))) (.s (.s (.r (.op 0 .q (.op 1 .l (.op 2 .p (.op 3 .p (.grp 20 false [(4, .q), (5, .l), (6, .p)] [23] (.op 7 .p (.op 8 .p (.grp 25 false [(9, .q), (10, .l), (11, .p)] [28] (.op 12 .p (.nil))))))))))) (.c (.s (.r (.op 0 .l (.op 1 .p (.nil)))) (.n)) (.n))) (.s (.r (.op 0 .q (.op 1 .q (.op 2 .l (.op 3 .p (.op 4 .p (.op 5 .p (.op 6 .p (.op 7 .p (.nil)))))))))) (.j [] (.s (.r (.op 0 .p (.op 1 .p (.nil)))) (.c (.s (.r (.op 0 .p (.nil))) (.b (.lp [9] (.s (.s (.r (.op 0 .p (.op 1 .p (.op 2 .p (.op 3 .p (.nil)))))) (.c (.n) (.n))) (.s (.b (.s (.r (.op 0 .p (.op 1 .p (.op 2 .p (.op 3 .p (.op 4 .q (.op 5 .p (.op 6 .p (.op 7 .p (.op 8 .p (.op 9 .q (.op 10 .p (.nil))))))))))))) (.c (.s (.r (.op 0 .p (.nil))) (.n)) (.n)))) (.r (.op 0 .p (.op 1 .p (.op 2 .p (.nil)))))))))) (.n))) (.s (.r (.op 0 .q (.op 1 .q (.op 2 .l (.op 3 .p (.op 4 .p (.op 5 .p (.op 6 .p (.op 7 .p (.nil)))))))))) (.s (.r (.op 0 .q (.op 1 .q (.op 2 .l (.op 3 .p (.op 4 .p (.op 5 .p (.op 6 .p (.op 7 .p (.nil)))))))))) (.s (.r (.op 0 .q (.op 1 .q (.op 2 .l (.op 3 .p (.op 4 .p (.op 5 .p (.op 6 .p (.op 7 .p (.nil)))))))))) (.s (.s (.r (.op 0 .p (.op 1 .p (.op 2 .p (.grp 76 false [(3, .p), (4, .p)] [78] (.op 5 .p (.nil))))))) (.c (.s (.r (.op 0 .l (.op 1 .p (.nil)))) (.n)) (.n))) (.s (.s (.r (.op 0 .p (.op 1 .p (.op 2 .p (.grp 83 false [(3, .q), (4, .q), (5, .l), (6, .p)] [87] (.op 7 .p (.nil))))))) (.c (.s (.r (.op 0 .p (.nil))) (.n)) (.n))) (.s (.r (.op 0 .p (.op 1 .l (.op 2 .p (.op 3 .l (.op 4 .l (.op 5 .p (.nil)))))))) (.s (.s (.r (.op 0 .p (.nil))) (.b (.lp [16] (.s (.s (.r (.op 0 .p (.op 1 .p (.op 2 .p (.op 3 .p (.nil)))))) (.c (.n) (.n))) (.s (.b (.s (.r (.op 0 .p (.op 1 .p (.op 2 .p (.op 3 .p (.op 4 .q (.op 5 .p (.op 6 .p (.op 7 .p (.op 8 .p (.op 9 .q (.op 10 .p (.op 11 .p (.grp 111 true [(12, .p), (13, .p), (14, .p), (15, .p), (16, .q), (17, .l), (18, .p)] [118] (.op 19 .p (.nil)))))))))))))))) (.c (.s (.r (.op 0 .p (.nil))) (.n)) (.n)))) (.r (.op 0 .p (.op 1 .p (.op 2 .p (.nil)))))))))) (.s (.r (.op 0 .l (.op 1 .p (.nil)))) (.n))))))))))))
def Tryd.F_law06_TypesOrder (t0 : Value) (t1 : Value) (t2 : Value) (w : World) (K : Value → World → Prop) : Prop :=
 opW Tryd.prog w (Instr.box 25 t0) fun t3 w1 =>
 opW Tryd.prog w1 (Instr.box 25 t1) fun t4 w2 =>
 opW Tryd.prog w2 (Instr.box 25 t2) fun t5 w3 =>
 opQ Tryd.prog w3 (Instr.loadAt 25 t3) fun t17 =>
 oCall Tryd.prog Tryd.n_law06_typeFits #[t17, (Value.int .i64 14)] w3 fun t18 w4 =>
 opP Tryd.prog (Op.unary .not t18) fun t19 =>
 sJoin (fun K5 => gIf t19 false (opQ Tryd.prog w4 (Instr.loadAt 25 t4) fun t21 =>
 oCall Tryd.prog Tryd.n_law06_typeFits #[t21, (Value.int .i64 14)] w4 fun t22 w9 =>
 opP Tryd.prog (Op.unary .not t22) fun t23 =>
 K5 [t23] w9) (K5 [undef] w4)) (fun s6 _d7 w8 =>
 oPick t19 (Value.bool true) (s6.getD 0 undef) fun t24 =>
 sJoin (fun K10 => gIf t24 false (opQ Tryd.prog w8 (Instr.loadAt 25 t5) fun t26 =>
 oCall Tryd.prog Tryd.n_law06_typeFits #[t26, (Value.int .i64 14)] w8 fun t27 w14 =>
 opP Tryd.prog (Op.unary .not t27) fun t28 =>
 K10 [t28] w14) (K10 [undef] w8)) (fun s11 _d12 w13 =>
 oPick t24 (Value.bool true) (s11.getD 0 undef) fun t29 =>
 oCond t29 (oCall Tryd.prog Tryd.n_law06_awake #[] w13 fun t30 w15 =>
 K t30 w15) (opQ Tryd.prog w13 (Instr.loadAt 25 t3) fun t32 =>
 opQ Tryd.prog w13 (Instr.loadAt 25 t3) fun t33 =>
 oCall Tryd.prog Tryd.n_types_Asks #[t32, t33] w13 fun t34 w16 =>
 opP Tryd.prog (Instr.extract t34 0) fun t35 =>
 opP Tryd.prog (Instr.extract t34 1) fun t36 =>
 sJoin (fun K17 =>
 opP Tryd.prog (bsem .eql 29 true t36 (Value.int .i64 0)) fun t38 =>
 oCond t38 (sLoop [(Value.int .i64 0)] w16 (fun s22 _d23 w24 K21 =>
 opP Tryd.prog (Builtin.len_ #[28] 3 #[t35]) fun t41 =>
 opP Tryd.prog (bsem .lss 3 false (s22.getD 0 undef) t41) fun t42 =>
 oCond t42 (opP Tryd.prog (Instr.indexAt 28 t35 (s22.getD 0 undef)) fun t47 =>
 opP Tryd.prog (Instr.fieldAt 35 t47 0) fun t48 =>
 opQ Tryd.prog w24.drew (Instr.loadAt 3 t48) fun t49 =>
 opP Tryd.prog (Instr.indexAt 28 t35 (s22.getD 0 undef)) fun t52 =>
 opP Tryd.prog (Instr.fieldAt 35 t52 1) fun t53 =>
 opQ Tryd.prog w24.drew (Instr.loadAt 3 t53) fun t54 =>
 opP Tryd.prog (bsem .neq 3 false t49 t54) fun t55 =>
 oCond t55 (K (Value.bool false) w24.drew) (opP Tryd.prog (bsem .add 3 true (s22.getD 0 undef) (Value.int .i64 1)) fun t44 =>
 K21 [t44] w24.drew)) (K17 [] w24))) (K17 [] w16)) (fun _s18 _d19 w20 =>
 opQ Tryd.prog w20 (Instr.loadAt 25 t3) fun t57 =>
 opQ Tryd.prog w20 (Instr.loadAt 25 t4) fun t58 =>
 oCall Tryd.prog Tryd.n_types_Asks #[t57, t58] w20 fun t59 w25 =>
 opP Tryd.prog (Instr.extract t59 0) fun t60 =>
 opP Tryd.prog (Instr.extract t59 1) fun t61 =>
 opQ Tryd.prog w25 (Instr.loadAt 25 t4) fun t63 =>
 opQ Tryd.prog w25 (Instr.loadAt 25 t5) fun t64 =>
 oCall Tryd.prog Tryd.n_types_Asks #[t63, t64] w25 fun t65 w26 =>
 opP Tryd.prog (Instr.extract t65 0) fun t66 =>
 opP Tryd.prog (Instr.extract t65 1) fun t67 =>
 opQ Tryd.prog w26 (Instr.loadAt 25 t3) fun t69 =>
 opQ Tryd.prog w26 (Instr.loadAt 25 t5) fun t70 =>
 oCall Tryd.prog Tryd.n_types_Asks #[t69, t70] w26 fun t71 w27 =>
 opP Tryd.prog (Instr.extract t71 0) fun t72 =>
 opP Tryd.prog (Instr.extract t71 1) fun t73 =>
 opP Tryd.prog (bsem .neq 29 true t61 (Value.int .i64 0)) fun t75 =>
 sJoin (fun K28 => gIf t75 false (opP Tryd.prog (bsem .neq 29 true t67 (Value.int .i64 0)) fun t78 =>
 K28 [t78] w27) (K28 [undef] w27)) (fun s29 _d30 w31 =>
 oPick t75 (Value.bool true) (s29.getD 0 undef) fun t79 =>
 oCond t79 (oCall Tryd.prog Tryd.n_law06_awake #[] w31 fun t80 w32 =>
 K t80 w32) (opP Tryd.prog (bsem .neq 29 true t73 (Value.int .i64 0)) fun t82 =>
 sJoin (fun K33 => gIf t82 false (opQ Tryd.prog w31 (Instr.loadAt 25 t3) fun t84 =>
 opQ Tryd.prog w31 (Instr.loadAt 25 t5) fun t85 =>
 oCall Tryd.prog Tryd.n_types_Alike #[t84, t85] w31 fun t86 w37 =>
 opP Tryd.prog (Op.unary .not t86) fun t87 =>
 K33 [t87] w37) (K33 [undef] w31)) (fun s34 _d35 w36 =>
 oPick t82 (Value.bool true) (s34.getD 0 undef) fun t88 =>
 oCond t88 (K (Value.bool false) w36) (opW Tryd.prog w36 (Builtin.append_ #[28, 28] 28 #[(Value.slice Option.none 0 0), t60]) fun t90 w38 =>
 opW Tryd.prog w38 (Builtin.append_ #[28, 28] 28 #[t90, t66]) fun t92 w39 =>
 oCall Tryd.prog Tryd.n_law06_reach #[t92] w39 fun t93 w40 =>
 sLoop [(Value.int .i64 0)] w40 (fun s42 _d43 w44 K41 =>
 opP Tryd.prog (Builtin.len_ #[28] 3 #[t72]) fun t96 =>
 opP Tryd.prog (bsem .lss 3 false (s42.getD 0 undef) t96) fun t97 =>
 oCond t97 (opP Tryd.prog (Instr.indexAt 28 t72 (s42.getD 0 undef)) fun t102 =>
 opP Tryd.prog (Instr.fieldAt 35 t102 0) fun t103 =>
 opQ Tryd.prog w44.drew (Instr.loadAt 3 t103) fun t104 =>
 opP Tryd.prog (Instr.indexAt 28 t72 (s42.getD 0 undef)) fun t107 =>
 opP Tryd.prog (Instr.fieldAt 35 t107 1) fun t108 =>
 opQ Tryd.prog w44.drew (Instr.loadAt 3 t108) fun t109 =>
 opP Tryd.prog (bsem .neq 3 false t104 t109) fun t110 =>
 sJoin (fun K45 => gIf t110 true (opP Tryd.prog (Instr.indexAt 28 t72 (s42.getD 0 undef)) fun t115 =>
 opQ Tryd.prog w44.drew (Instr.loadAt 35 t115) fun t116 =>
 oCall Tryd.prog Tryd.n_law06_has #[t93, t116] w44.drew fun t117 w49 =>
 opP Tryd.prog (Op.unary .not t117) fun t118 =>
 K45 [t118] w49) (K45 [undef] w44.drew)) (fun s46 _d47 w48 =>
 oPick t110 (s46.getD 0 undef) (Value.bool false) fun t119 =>
 oCond t119 (K (Value.bool false) w48) (opP Tryd.prog (bsem .add 3 true (s42.getD 0 undef) (Value.int .i64 1)) fun t99 =>
 K41 [t99] w48))) (oCall Tryd.prog Tryd.n_law06_awake #[] w44 fun t120 w50 =>
 K t120 w50))))))))))
theorem Tryd.E_law06_TypesOrder (t0 t1 t2 : Value) (w : World) (K : Value → World → Prop) : sw ⟨false, false⟩ Tryd.prog (fun _ _ => False) Tryd.A_law06_TypesOrder (bodyOf Tryd.f5) [t0, t1, t2, undef, undef, undef, undef, undef, undef, undef, undef, undef, undef, undef, undef, undef, undef, undef, undef, undef, undef, undef, undef, undef, undef, undef, undef, undef, undef, undef, undef, undef, undef, undef, undef, undef, undef, undef, undef, undef, undef, undef, undef, undef, undef, undef, undef, undef, undef, undef, undef, undef, undef, undef, undef, undef, undef, undef, undef, undef, undef, undef, undef, undef, undef, undef, undef, undef, undef, undef, undef, undef, undef, undef, undef, undef, undef, undef, undef, undef, undef, undef, undef, undef, undef, undef, undef, undef, undef, undef, undef, undef, undef, undef, undef, undef, undef, undef, undef, undef, undef, undef, undef, undef, undef, undef, undef, undef, undef, undef, undef, undef, undef, undef, undef, undef, undef, undef, undef, undef, undef] w (topQ false Tryd.prog Tryd.f5 w K) = Tryd.F_law06_TypesOrder t0 t1 t2 w K := by kernel_rfl
theorem Tryd.C_law06_TypesOrder : chk ⟨false, false⟩ Tryd.prog false Tryd.A_law06_TypesOrder (bodyOf Tryd.f5) = true := by kernel_rfl
theorem Tryd.ok_law06_TypesOrder {t0 t1 t2 : Value} {w : World} {K : Value → World → Prop} (h : Tryd.F_law06_TypesOrder t0 t1 t2 w K) : oCall Tryd.prog Tryd.n_law06_TypesOrder #[t0, t1, t2] w K :=
  calls_of_sw (cf := ⟨false, false⟩) Tryd.mixed Tryd.func5 rfl Tryd.C_law06_TypesOrder ((Tryd.E_law06_TypesOrder t0 t1 t2 w K).mpr h)

/- 6: loanword/loanwordlaw06.TypesBack -/
def Tryd.A_law06_TypesBack : Ann := .s (.r (.op 0 .l (.op 1 .p (.nil)))) (.s (.s (.r (.op 0 .q (.op 1 .l (.op 2 .p (.op 3 .p (.grp 15 false [(4, .p), (5, .p), (6, .p)] [18] (.op 7 .p (.nil)))))))) (.c (.s (.r (.op 0 .l (.op 1 .p (.nil)))) (.n)) (.n))) (.s (.r (.op 0 .q (.op 1 .l (.op 2 .p (.op 3 .p (.op 4 .p (.op 5 .p (.op 6 .p (.nil))))))))) (.j [] (.s (.r (.op 0 .p (.op 1 .p (.nil)))) (.c (.s (.r (.op 0 .p (.op 1 .l (.op 2 .p (.op 3 .p (.op 4 .p (.op 5 .p (.op 6 .l (.op 7 .l (.op 8 .p (.op 9 .p (.nil)))))))))))) (.s (.r (.op 0 .p (.op 1 .p (.op 2 .p (.grp 36 false [(3, .p), (4, .p)] [38] (.op 5 .p (.op 6 .p (.grp 40 false [(7, .q), (8, .q), (9, .l), (10, .p)] [44] (.op 11 .p (.nil)))))))))) (.c (.s (.r (.op 0 .p (.nil))) (.n)) (.n)))) (.n))) (.s (.r (.op 0 .p (.op 1 .l (.op 2 .p (.op 3 .p (.op 4 .p (.op 5 .p (.op 6 .l (.op 7 .l (.op 8 .p (.op 9 .p (.nil)))))))))))) (.s (.s (.r (.op 0 .p (.op 1 .p (.nil)))) (.c (.s (.r (.op 0 .p (.op 1 .p (.op 2 .p (.grp 56 true [(3, .p), (4, .p)] [58] (.op 5 .p (.op 6 .p (.grp 60 true [(7, .p), (8, .p), (9, .p), (10, .p)] [64] (.op 11 .p (.op 12 .p (.grp 66 true [(13, .l)] [67] (.op 14 .p (.op 15 .p (.nil)))))))))))))) (.n)) (.n))) (.s (.r (.op 0 .q (.op 1 .l (.op 2 .p (.op 3 .p (.op 4 .p (.op 5 .p (.op 6 .p (.nil))))))))) (.s (.r (.op 0 .p (.op 1 .p (.op 2 .p (.grp 76 true [(3, .p), (4, .p), (5, .p)] [79] (.op 6 .p (.op 7 .p (.grp 81 true [(8, .l)] [82] (.op 9 .p (.op 10 .p (.nil))))))))))) (.n))))))))
def Tryd.F_law06_TypesBack (t0 : Value) (t1 : Value) (w : World) (K : Value → World → Prop) : Prop :=
 opW Tryd.prog w (Instr.box 25 t0) fun t2 w1 =>
 opQ Tryd.prog w1 (Instr.loadAt 25 t2) fun t12 =>
 oCall Tryd.prog Tryd.n_law06_typeFits #[t12, (Value.int .i64 60)] w1 fun t13 w2 =>
 opP Tryd.prog (Op.unary .not t13) fun t14 =>
 sJoin (fun K3 => gIf t14 false (opP Tryd.prog (Builtin.len_ #[9] 3 #[t1]) fun t17 =>
 opP Tryd.prog (bsem .gtr 3 true t17 (Value.int .i64 8192)) fun t18 =>
 K3 [t18] w2) (K3 [undef] w2)) (fun s4 _d5 w6 =>
 oPick t14 (Value.bool true) (s4.getD 0 undef) fun t19 =>
 oCond t19 (oCall Tryd.prog Tryd.n_law06_awake #[] w6 fun t20 w7 =>
 K t20 w7) (opQ Tryd.prog w6 (Instr.loadAt 25 t2) fun t22 =>
 oCall Tryd.prog Tryd.n_types_Text #[t22] w6 fun t23 w8 =>
 opP Tryd.prog (Instr.extract t23 0) fun t24 =>
 opP Tryd.prog (Instr.extract t23 1) fun t25 =>
 sJoin (fun K9 =>
 opP Tryd.prog (bsem .eql 29 true t25 (Value.int .i64 0)) fun t27 =>
 oCond t27 (oCall Tryd.prog Tryd.n_types_Read #[t24] w8 fun t30 w13 =>
 opP Tryd.prog (Instr.extract t30 0) fun t31 =>
 opP Tryd.prog (Instr.extract t30 1) fun t32 =>
 opP Tryd.prog (Instr.extract t30 2) fun t33 =>
 opW Tryd.prog w13 (Instr.alloc 25 true (.tuple #[])) fun t7 w14 =>
 opU Tryd.prog w14 (Instr.storeAt 25 t7 t31) fun w15 =>
 opP Tryd.prog (bsem .neq 29 true t33 (Value.int .i64 0)) fun t35 =>
 sJoin (fun K16 => gIf t35 false (opP Tryd.prog (bsem .neq 3 true t32 (Value.int .i64 0)) fun t38 =>
 K16 [t38] w15) (K16 [undef] w15)) (fun s17 _d18 w19 =>
 oPick t35 (Value.bool true) (s17.getD 0 undef) fun t39 =>
 sJoin (fun K20 => gIf t39 false (opQ Tryd.prog w19 (Instr.loadAt 25 t7) fun t41 =>
 opQ Tryd.prog w19 (Instr.loadAt 25 t2) fun t42 =>
 oCall Tryd.prog Tryd.n_types_Same #[t41, t42] w19 fun t43 w24 =>
 opP Tryd.prog (Op.unary .not t43) fun t44 =>
 K20 [t44] w24) (K20 [undef] w19)) (fun s21 _d22 w23 =>
 oPick t39 (Value.bool true) (s21.getD 0 undef) fun t45 =>
 oCond t45 (K (Value.bool false) w23) (K9 [] w23)))) (K9 [] w8)) (fun _s10 _d11 w12 =>
 oCall Tryd.prog Tryd.n_types_Read #[t1] w12 fun t48 w25 =>
 opP Tryd.prog (Instr.extract t48 0) fun t49 =>
 opP Tryd.prog (Instr.extract t48 1) fun t50 =>
 opP Tryd.prog (Instr.extract t48 2) fun t51 =>
 opW Tryd.prog w25 (Instr.alloc 25 true (.tuple #[])) fun t10 w26 =>
 opU Tryd.prog w26 (Instr.storeAt 25 t10 t49) fun w27 =>
 opP Tryd.prog (bsem .neq 29 true t51 (Value.int .i64 0)) fun t53 =>
 oCond t53 (opP Tryd.prog (bsem .eql 29 true t51 (Value.int .i64 60)) fun t55 =>
 sJoin (fun K28 => gIf t55 true (opP Tryd.prog (bsem .geq 3 true t50 (Value.int .i64 0)) fun t58 =>
 K28 [t58] w27) (K28 [undef] w27)) (fun s29 _d30 w31 =>
 oPick t55 (s29.getD 0 undef) (Value.bool false) fun t59 =>
 sJoin (fun K32 => gIf t59 true (opP Tryd.prog (Builtin.len_ #[9] 3 #[t1]) fun t63 =>
 opP Tryd.prog (bsem .leq 3 false t50 t63) fun t64 =>
 K32 [t64] w31) (K32 [undef] w31)) (fun s33 _d34 w35 =>
 oPick t59 (s33.getD 0 undef) (Value.bool false) fun t65 =>
 sJoin (fun K36 => gIf t65 true (oCall Tryd.prog Tryd.n_law06_awake #[] w35 fun t67 w40 =>
 K36 [t67] w40) (K36 [undef] w35)) (fun s37 _d38 w39 =>
 oPick t65 (s37.getD 0 undef) (Value.bool false) fun t68 =>
 K t68 w39)))) (opQ Tryd.prog w27 (Instr.loadAt 25 t10) fun t70 =>
 oCall Tryd.prog Tryd.n_types_Text #[t70] w27 fun t71 w41 =>
 opP Tryd.prog (Instr.extract t71 0) fun t72 =>
 opP Tryd.prog (Instr.extract t71 1) fun t73 =>
 opP Tryd.prog (bsem .eql 29 true t73 (Value.int .i64 0)) fun t75 =>
 sJoin (fun K42 => gIf t75 true (opP Tryd.prog (bsem .eql 9 false t72 t1) fun t79 =>
 K42 [t79] w41) (K42 [undef] w41)) (fun s43 _d44 w45 =>
 oPick t75 (s43.getD 0 undef) (Value.bool false) fun t80 =>
 sJoin (fun K46 => gIf t80 true (oCall Tryd.prog Tryd.n_law06_awake #[] w45 fun t82 w50 =>
 K46 [t82] w50) (K46 [undef] w45)) (fun s47 _d48 w49 =>
 oPick t80 (s47.getD 0 undef) (Value.bool false) fun t83 =>
 K t83 w49))))))
theorem Tryd.E_law06_TypesBack (t0 t1 : Value) (w : World) (K : Value → World → Prop) : sw ⟨false, false⟩ Tryd.prog (fun _ _ => False) Tryd.A_law06_TypesBack (bodyOf Tryd.f6) [t0, t1, undef, undef, undef, undef, undef, undef, undef, undef, undef, undef, undef, undef, undef, undef, undef, undef, undef, undef, undef, undef, undef, undef, undef, undef, undef, undef, undef, undef, undef, undef, undef, undef, undef, undef, undef, undef, undef, undef, undef, undef, undef, undef, undef, undef, undef, undef, undef, undef, undef, undef, undef, undef, undef, undef, undef, undef, undef, undef, undef, undef, undef, undef, undef, undef, undef, undef, undef, undef, undef, undef, undef, undef, undef, undef, undef, undef, undef, undef, undef, undef, undef, undef] w (topQ false Tryd.prog Tryd.f6 w K) = Tryd.F_law06_TypesBack t0 t1 w K := by kernel_rfl
theorem Tryd.C_law06_TypesBack : chk ⟨false, false⟩ Tryd.prog false Tryd.A_law06_TypesBack (bodyOf Tryd.f6) = true := by kernel_rfl
theorem Tryd.ok_law06_TypesBack {t0 t1 : Value} {w : World} {K : Value → World → Prop} (h : Tryd.F_law06_TypesBack t0 t1 w K) : oCall Tryd.prog Tryd.n_law06_TypesBack #[t0, t1] w K :=
  calls_of_sw (cf := ⟨false, false⟩) Tryd.mixed Tryd.func6 rfl Tryd.C_law06_TypesBack ((Tryd.E_law06_TypesBack t0 t1 w K).mpr h)

/- 7: loanword/loanwordlaw06.TypesAmong -/
def Tryd.A_law06_TypesAmong : Ann := .s (.r (.op 0 .l (.op 1 .p (.nil)))) (.s (.s (.r (.op 0 .p (.op 1 .l (.op 2 .p (.op 3 .p (.grp 21 false [(4, .q), (5, .l), (6, .p)] [24] (.op 7 .p (.nil)))))))) (.c (.s (.r (.op 0 .l (.op 1 .p (.nil)))) (.n)) (.n))) (.s (.r (.op 0 .p (.op 1 .l (.op 2 .p (.op 3 .p (.op 4 .p (.op 5 .p (.op 6 .p (.nil))))))))) (.s (.r (.op 0 .p (.op 1 .l (.op 2 .p (.op 3 .p (.op 4 .p (.op 5 .p (.op 6 .p (.nil))))))))) (.s (.s (.r (.op 0 .p (.op 1 .p (.op 2 .p (.op 3 .p (.grp 40 false [(4, .p), (5, .p), (6, .p)] [43] (.op 7 .p (.op 8 .p (.grp 45 false [(9, .p), (10, .q), (12, .p), (13, .q), (11, .u), (14, .l), (15, .p)] [52] (.op 16 .p (.op 17 .p (.grp 54 false [(18, .q), (20, .q), (19, .u), (21, .l), (22, .p)] [59] (.op 23 .p (.nil)))))))))))))) (.c (.s (.r (.op 0 .p (.nil))) (.n)) (.n))) (.s (.r (.op 0 .p (.op 1 .q (.op 2 .l (.op 3 .p (.op 4 .p (.op 5 .p (.op 6 .p (.op 7 .p (.nil)))))))))) (.s (.r (.op 0 .p (.op 1 .q (.op 2 .l (.op 3 .p (.op 4 .p (.op 5 .p (.op 6 .p (.op 7 .p (.nil)))))))))) (.s (.s (.r (.op 0 .p (.op 1 .p (.op 2 .p (.op 3 .p (.grp 76 false [(4, .p), (5, .p), (6, .p)] [79] (.op 7 .p (.nil)))))))) (.c (.s (.r (.op 0 .p (.nil))) (.n)) (.n))) (.s (.r (.op 0 .p (.op 1 .q (.op 2 .l (.op 3 .p (.op 4 .p (.op 5 .p (.op 6 .p (.op 7 .p (.nil)))))))))) (.s (.r (.op 0 .p (.op 1 .q (.op 2 .l (.op 3 .p (.op 4 .p (.op 5 .p (.op 6 .p (.op 7 .p (.nil)))))))))) (.s (.s (.r (.op 0 .p (.op 1 .p (.op 2 .p (.op 3 .p (.grp 96 false [(4, .p), (5, .p), (6, .p)] [99] (.op 7 .p (.nil)))))))) (.c (.s (.r (.op 0 .p (.nil))) (.n)) (.n))) (.s (.r (.op 0 .p (.op 1 .q (.op 2 .l (.op 3 .p (.op 4 .p (.op 5 .p (.op 6 .p (.op 7 .p (.nil)))))))))) (.s (.r (.op 0 .p (.op 1 .q (.op 2 .l (.op 3 .p (.op 4 .p (.op 5 .p (.op 6 .p (.op 7 .p (.nil)))))))))) (.s (.r (.op 0 .p (.op 1 .q (.op 2 .l (.op 3 .p (.op 4 .p (.op 5 .p (.op 6 .p (.op 7 .p (.nil)))))))))) (.s (.s (.r (.op 0 .p (.op 1 .p (.op 2 .p (.op 3 .p (.grp 122 false [(4, .p), (5, .p), (6, .p)] [125] (.op 7 .p (.op 8 .p (.grp 127 false [(9, .p), (10, .p), (11, .p), (12, .p), (13, .p)] [132] (.op 14 .p (.op 15 .p (.grp 134 false [(16, .p), (17, .p), (18, .p), (19, .p), (20, .p)] [139] (.op 21 .p (.nil)))))))))))))) (.c (.s (.r (.op 0 .p (.nil))) (.n)) (.n))) (.s (.s (.r (.op 0 .p (.nil))) (.b (.lp [17] (.s (.s (.r (.op 0 .p (.op 1 .p (.op 2 .p (.op 3 .p (.nil)))))) (.c (.n) (.n))) (.s (.b (.s (.s (.r (.op 0 .p (.op 1 .p (.op 2 .p (.op 3 .q (.op 4 .p (.op 5 .p (.op 6 .p (.op 7 .q (.op 8 .l (.op 9 .p (.nil)))))))))))) (.c (.s (.r (.op 0 .p (.nil))) (.n)) (.n))) (.s (.r (.op 0 .p (.op 1 .p (.op 2 .p (.op 3 .q (.op 4 .l (.nil))))))) (.s (.r (.op 0 .p (.op 1 .p (.op 2 .p (.op 3 .q (.op 4 .p (.op 5 .p (.op 6 .p (.op 7 .q (.op 8 .l (.op 9 .p (.nil)))))))))))) (.c (.s (.r (.op 0 .p (.nil))) (.n)) (.n)))))) (.r (.op 0 .p (.op 1 .p (.op 2 .p (.nil)))))))))) (.s (.r (.op 0 .l (.op 1 .p (.nil)))) (.n)))))))))))))))))
def Tryd.F_law06_TypesAmong (t0 : Value) (t1 : Value) (w : World) (K : Value → World → Prop) : Prop :=
 opW Tryd.prog w (Instr.box 25 t1) fun t3 w1 =>
 oCall Tryd.prog Tryd.n_law06_fits #[t0] w1 fun t19 w2 =>
 opP Tryd.prog (Op.unary .not t19) fun t20 =>
 sJoin (fun K3 => gIf t20 false (opQ Tryd.prog w2 (Instr.loadAt 25 t3) fun t22 =>
 oCall Tryd.prog Tryd.n_law06_typeFits #[t22, (Value.int .i64 60)] w2 fun t23 w7 =>
 opP Tryd.prog (Op.unary .not t23) fun t24 =>
 K3 [t24] w7) (K3 [undef] w2)) (fun s4 _d5 w6 =>
 oPick t20 (Value.bool true) (s4.getD 0 undef) fun t25 =>
 oCond t25 (oCall Tryd.prog Tryd.n_law06_awake #[] w6 fun t26 w8 =>
 K t26 w8) (oCall Tryd.prog Tryd.n_types_Structs #[t0] w6 fun t29 w9 =>
 opP Tryd.prog (Instr.extract t29 0) fun t30 =>
 opP Tryd.prog (Instr.extract t29 1) fun t31 =>
 oCall Tryd.prog Tryd.n_ref06_Structs #[t0] w9 fun t34 w10 =>
 opP Tryd.prog (Instr.extract t34 0) fun t35 =>
 opP Tryd.prog (Instr.extract t34 1) fun t36 =>
 opP Tryd.prog (bsem .neq 3 false t30 t35) fun t39 =>
 sJoin (fun K11 => gIf t39 false (opP Tryd.prog (bsem .neq 3 false t31 t36) fun t43 =>
 K11 [t43] w10.drew) (K11 [undef] w10.drew)) (fun s12 _d13 w14 =>
 oPick t39 (Value.bool true) (s12.getD 0 undef) fun t44 =>
 sJoin (fun K15 => gIf t44 false (opQ Tryd.prog w14 (Instr.loadAt 25 t3) fun t47 =>
 opQ Tryd.prog w14 (Instr.loadAt 25 t3) fun t50 =>
 oCall Tryd.prog Tryd.n_types_May #[t0, t47] w14 fun t48 w19 =>
 Ext w14 w19 ∧
 oCall Tryd.prog Tryd.n_ref06_May #[t0, t50] w19 fun t51 w20 =>
 opP Tryd.prog (bsem .neq 4 false t48 t51) fun t52 =>
 K15 [t52] w20) (K15 [undef] w14)) (fun s16 _d17 w18 =>
 oPick t44 (Value.bool true) (s16.getD 0 undef) fun t53 =>
 sJoin (fun K21 => gIf t53 false (opQ Tryd.prog w18 (Instr.loadAt 25 t3) fun t55 =>
 opQ Tryd.prog w18 (Instr.loadAt 25 t3) fun t57 =>
 oCall Tryd.prog Tryd.n_types_Copies #[t55] w18 fun t56 w25 =>
 Ext w18 w25 ∧
 oCall Tryd.prog Tryd.n_ref06_Copies #[t57] w25 fun t58 w26 =>
 opP Tryd.prog (bsem .neq 4 false t56 t58) fun t59 =>
 K21 [t59] w26) (K21 [undef] w18)) (fun s22 _d23 w24 =>
 oPick t53 (Value.bool true) (s22.getD 0 undef) fun t60 =>
 oCond t60 (K (Value.bool false) w24) (opQ Tryd.prog w24 (Instr.loadAt 25 t3) fun t63 =>
 oCall Tryd.prog Tryd.n_types_Words #[t0, t63] w24 fun t64 w27 =>
 opP Tryd.prog (Instr.extract t64 0) fun t65 =>
 opP Tryd.prog (Instr.extract t64 1) fun t66 =>
 opQ Tryd.prog w27 (Instr.loadAt 25 t3) fun t69 =>
 oCall Tryd.prog Tryd.n_ref06_Words #[t0, t69] w27 fun t70 w28 =>
 opP Tryd.prog (Instr.extract t70 0) fun t71 =>
 opP Tryd.prog (Instr.extract t70 1) fun t72 =>
 opP Tryd.prog (bsem .neq 3 false t65 t71) fun t75 =>
 sJoin (fun K29 => gIf t75 false (opP Tryd.prog (bsem .neq 3 false t66 t72) fun t79 =>
 K29 [t79] w28) (K29 [undef] w28)) (fun s30 _d31 w32 =>
 oPick t75 (Value.bool true) (s30.getD 0 undef) fun t80 =>
 oCond t80 (K (Value.bool false) w32) (opQ Tryd.prog w32 (Instr.loadAt 25 t3) fun t83 =>
 oCall Tryd.prog Tryd.n_types_Drops #[t0, t83] w32 fun t84 w33 =>
 opP Tryd.prog (Instr.extract t84 0) fun t85 =>
 opP Tryd.prog (Instr.extract t84 1) fun t86 =>
 opQ Tryd.prog w33 (Instr.loadAt 25 t3) fun t89 =>
 oCall Tryd.prog Tryd.n_ref06_Drops #[t0, t89] w33 fun t90 w34 =>
 opP Tryd.prog (Instr.extract t90 0) fun t91 =>
 opP Tryd.prog (Instr.extract t90 1) fun t92 =>
 opP Tryd.prog (bsem .neq 4 false t85 t91) fun t95 =>
 sJoin (fun K35 => gIf t95 false (opP Tryd.prog (bsem .neq 3 false t86 t92) fun t99 =>
 K35 [t99] w34) (K35 [undef] w34)) (fun s36 _d37 w38 =>
 oPick t95 (Value.bool true) (s36.getD 0 undef) fun t100 =>
 oCond t100 (K (Value.bool false) w38) (opQ Tryd.prog w38 (Instr.loadAt 25 t3) fun t103 =>
 oCall Tryd.prog Tryd.n_types_Fields #[t0, t103] w38 fun t104 w39 =>
 opP Tryd.prog (Instr.extract t104 0) fun t105 =>
 opP Tryd.prog (Instr.extract t104 1) fun t106 =>
 opQ Tryd.prog w39 (Instr.loadAt 25 t3) fun t109 =>
 oCall Tryd.prog Tryd.n_types_Fields #[t0, t109] w39 fun t110 w40 =>
 opP Tryd.prog (Instr.extract t110 0) fun t111 =>
 opP Tryd.prog (Instr.extract t110 1) fun t112 =>
 opQ Tryd.prog w40 (Instr.loadAt 25 t3) fun t115 =>
 oCall Tryd.prog Tryd.n_ref06_Fields #[t0, t115] w40 fun t116 w41 =>
 opP Tryd.prog (Instr.extract t116 0) fun t117 =>
 opP Tryd.prog (Instr.extract t116 1) fun t118 =>
 opP Tryd.prog (bsem .neq 3 false t106 t118) fun t121 =>
 sJoin (fun K42 => gIf t121 false (opP Tryd.prog (bsem .neq 29 false t112 t106) fun t125 =>
 K42 [t125] w41) (K42 [undef] w41)) (fun s43 _d44 w45 =>
 oPick t121 (Value.bool true) (s43.getD 0 undef) fun t126 =>
 sJoin (fun K46 => gIf t126 false (opP Tryd.prog (Builtin.len_ #[23] 3 #[t105]) fun t129 =>
 opP Tryd.prog (Builtin.len_ #[23] 3 #[t117]) fun t131 =>
 opP Tryd.prog (bsem .neq 3 false t129 t131) fun t132 =>
 K46 [t132] w45) (K46 [undef] w45)) (fun s47 _d48 w49 =>
 oPick t126 (Value.bool true) (s47.getD 0 undef) fun t133 =>
 sJoin (fun K50 => gIf t133 false (opP Tryd.prog (Builtin.len_ #[23] 3 #[t111]) fun t136 =>
 opP Tryd.prog (Builtin.len_ #[23] 3 #[t117]) fun t138 =>
 opP Tryd.prog (bsem .neq 3 false t136 t138) fun t139 =>
 K50 [t139] w49) (K50 [undef] w49)) (fun s51 _d52 w53 =>
 oPick t133 (Value.bool true) (s51.getD 0 undef) fun t140 =>
 oCond t140 (K (Value.bool false) w53) (sLoop [(Value.int .i64 0)] w53 (fun s55 _d56 w57 K54 =>
 opP Tryd.prog (Builtin.len_ #[23] 3 #[t105]) fun t143 =>
 opP Tryd.prog (bsem .lss 3 false (s55.getD 0 undef) t143) fun t144 =>
 oCond t144 (opP Tryd.prog (Instr.indexAt 23 t105 (s55.getD 0 undef)) fun t149 =>
 opQ Tryd.prog w57.drew (Instr.loadAt 25 t149) fun t150 =>
 opP Tryd.prog (Instr.indexAt 23 t117 (s55.getD 0 undef)) fun t153 =>
 opQ Tryd.prog w57.drew (Instr.loadAt 25 t153) fun t154 =>
 oCall Tryd.prog Tryd.n_law06_equal #[t150, t154] w57.drew fun t155 w58 =>
 opP Tryd.prog (Op.unary .not t155) fun t156 =>
 oCond t156 (K (Value.bool false) w58) (opP Tryd.prog (Instr.indexAt 23 t105 (s55.getD 0 undef)) fun t159 =>
 opQ Tryd.prog w58 (Instr.loadAt 25 t159) fun t160 =>
 oCall Tryd.prog Tryd.n_law06_spoil #[t160] w58 fun _t161 w59 =>
 opP Tryd.prog (Instr.indexAt 23 t111 (s55.getD 0 undef)) fun t164 =>
 opQ Tryd.prog w59.drew (Instr.loadAt 25 t164) fun t165 =>
 opP Tryd.prog (Instr.indexAt 23 t117 (s55.getD 0 undef)) fun t168 =>
 opQ Tryd.prog w59.drew (Instr.loadAt 25 t168) fun t169 =>
 oCall Tryd.prog Tryd.n_law06_equal #[t165, t169] w59.drew fun t170 w60 =>
 opP Tryd.prog (Op.unary .not t170) fun t171 =>
 oCond t171 (K (Value.bool false) w60) (opP Tryd.prog (bsem .add 3 true (s55.getD 0 undef) (Value.int .i64 1)) fun t146 =>
 K54 [t146] w60))) (oCall Tryd.prog Tryd.n_law06_awake #[] w57 fun t172 w61 =>
 K t172 w61))))))))))))))))
theorem Tryd.E_law06_TypesAmong (t0 t1 : Value) (w : World) (K : Value → World → Prop) : sw ⟨false, false⟩ Tryd.prog (fun _ _ => False) Tryd.A_law06_TypesAmong (bodyOf Tryd.f7) [t0, t1, undef, undef, undef, undef, undef, undef, undef, undef, undef, undef, undef, undef, undef, undef, undef, undef, undef, undef, undef, undef, undef, undef, undef, undef, undef, undef, undef, undef, undef, undef, undef, undef, undef, undef, undef, undef, undef, undef, undef, undef, undef, undef, undef, undef, undef, undef, undef, undef, undef, undef, undef, undef, undef, undef, undef, undef, undef, undef, undef, undef, undef, undef, undef, undef, undef, undef, undef, undef, undef, undef, undef, undef, undef, undef, undef, undef, undef, undef, undef, undef, undef, undef, undef, undef, undef, undef, undef, undef, undef, undef, undef, undef, undef, undef, undef, undef, undef, undef, undef, undef, undef, undef, undef, undef, undef, undef, undef, undef, undef, undef, undef, undef, undef, undef, undef, undef, undef, undef, undef, undef, undef, undef, undef, undef, undef, undef, undef, undef, undef, undef, undef, undef, undef, undef, undef, undef, undef, undef, undef, undef, undef, undef, undef, undef, undef, undef, undef, undef, undef, undef, undef, undef, undef, undef, undef, undef, undef, undef, undef, undef, undef, undef, undef, undef, undef, undef, undef, undef, undef, undef, undef] w (topQ false Tryd.prog Tryd.f7 w K) = Tryd.F_law06_TypesAmong t0 t1 w K := by kernel_rfl
theorem Tryd.C_law06_TypesAmong : chk ⟨false, false⟩ Tryd.prog false Tryd.A_law06_TypesAmong (bodyOf Tryd.f7) = true := by kernel_rfl
theorem Tryd.ok_law06_TypesAmong {t0 t1 : Value} {w : World} {K : Value → World → Prop} (h : Tryd.F_law06_TypesAmong t0 t1 w K) : oCall Tryd.prog Tryd.n_law06_TypesAmong #[t0, t1] w K :=
  calls_of_sw (cf := ⟨false, false⟩) Tryd.mixed Tryd.func7 rfl Tryd.C_law06_TypesAmong ((Tryd.E_law06_TypesAmong t0 t1 w K).mpr h)

/- 8: loanword/loanwordlaw06.TypesTurn -/
def Tryd.A_law06_TypesTurn : Ann := .s (.r (.op 0 .l (.op 1 .l (.op 2 .p (.nil))))) (.s (.s (.r (.op 0 .q (.op 1 .l (.op 2 .p (.op 3 .p (.grp 26 false [(4, .q), (5, .l), (6, .p)] [29] (.op 7 .p (.op 8 .p (.grp 31 false [(9, .p), (10, .p), (11, .p)] [34] (.op 12 .p (.nil))))))))))) (.c (.s (.r (.op 0 .l (.op 1 .p (.nil)))) (.n)) (.n))) (.s (.r (.op 0 .q (.op 1 .l (.op 2 .p (.op 3 .p (.op 4 .p (.op 5 .l (.op 6 .l (.op 7 .p (.nil)))))))))) (.s (.r (.op 0 .q (.op 1 .l (.op 2 .p (.op 3 .p (.op 4 .p (.op 5 .l (.op 6 .l (.op 7 .p (.nil)))))))))) (.s (.r (.op 0 .q (.op 1 .l (.op 2 .p (.nil))))) (.s (.s (.r (.op 0 .p (.op 1 .p (.grp 50 true [(2, .p), (3, .p), (4, .p)] [53] (.grp 53 false [(5, .p), (6, .p)] [55] (.grp 50 true [(7, .p), (8, .p)] [57] (.grp 57 false [(9, .q), (10, .q), (11, .l), (12, .p)] [61] (.grp 50 true [(13, .p)] [62] (.op 14 .p (.op 15 .p (.grp 64 false [(16, .p), (17, .p), (18, .p)] [67] (.grp 67 true [(19, .p), (20, .p), (21, .p)] [70] (.grp 70 false [(22, .q), (23, .p), (24, .l), (25, .p)] [74] (.grp 67 true [(26, .p)] [75] (.grp 64 false [(27, .p)] [76] (.op 28 .p (.nil))))))))))))))))) (.c (.s (.r (.op 0 .p (.nil))) (.n)) (.n))) (.s (.r (.op 0 .q (.op 1 .l (.nil)))) (.s (.s (.r (.op 0 .p (.op 1 .p (.grp 81 true [(2, .q), (3, .q), (4, .l), (5, .p)] [85] (.op 6 .p (.op 7 .p (.grp 87 false [(8, .q), (9, .q), (11, .q), (12, .q), (10, .u), (13, .l), (14, .p)] [94] (.op 15 .p (.op 16 .p (.grp 96 false [(17, .q), (18, .q), (20, .q), (21, .q), (19, .u), (22, .l), (23, .p)] [103] (.op 24 .p (.nil)))))))))))) (.c (.s (.r (.op 0 .p (.nil))) (.n)) (.n))) (.s (.r (.op 0 .q (.op 1 .l (.op 2 .p (.nil))))) (.s (.r (.op 0 .q (.op 1 .l (.op 2 .p (.nil))))) (.s (.s (.r (.op 0 .p (.op 1 .p (.op 2 .p (.op 3 .p (.op 4 .p (.nil))))))) (.c (.s (.r (.op 0 .p (.nil))) (.n)) (.n))) (.s (.s (.r (.op 0 .p (.nil))) (.b (.lp [16] (.s (.s (.r (.op 0 .p (.op 1 .p (.op 2 .p (.op 3 .p (.nil)))))) (.c (.n) (.n))) (.s (.b (.s (.r (.op 0 .p (.op 1 .p (.op 2 .p (.op 3 .q (.op 4 .p (.op 5 .p (.op 6 .p (.op 7 .q (.op 8 .p (.nil))))))))))) (.c (.s (.r (.op 0 .p (.nil))) (.n)) (.n)))) (.r (.op 0 .p (.op 1 .p (.op 2 .p (.nil)))))))))) (.s (.r (.op 0 .q (.op 1 .p (.op 2 .l (.op 3 .p (.op 4 .p (.op 5 .p (.op 6 .p (.op 7 .l (.op 8 .p (.op 9 .p (.nil)))))))))))) (.s (.r (.op 0 .q (.op 1 .p (.op 2 .l (.op 3 .p (.op 4 .p (.op 5 .p (.op 6 .p (.op 7 .l (.nil)))))))))) (.s (.r (.op 0 .q (.op 1 .p (.op 2 .l (.op 3 .p (.op 4 .p (.op 5 .p (.op 6 .p (.op 7 .l (.op 8 .l (.op 9 .p (.op 10 .p (.nil))))))))))))) (.s (.s (.r (.op 0 .p (.op 1 .p (.op 2 .p (.op 3 .p (.grp 153 false [(4, .p), (5, .p), (6, .p)] [156] (.op 7 .p (.op 8 .p (.grp 158 false [(9, .q), (10, .q), (11, .l), (12, .p)] [162] (.op 13 .p (.nil))))))))))) (.c (.s (.r (.op 0 .p (.nil))) (.n)) (.n))) (.s (.r (.op 0 .q (.op 1 .l (.nil)))) (.s (.s (.r (.op 0 .q (.op 1 .q (.op 2 .l (.op 3 .p (.nil)))))) (.c (.s (.r (.op 0 .p (.nil))) (.n)) (.n))) (.s (.r (.op 0 .p (.op 1 .l (.op 2 .l (.op 3 .l (.op 4 .p (.nil))))))) (.s (.r (.op 0 .q (.op 1 .p (.op 2 .p (.op 3 .p (.op 4 .p (.op 5 .l (.op 6 .p (.op 7 .p (.op 8 .p (.op 9 .l (.op 10 .p (.nil))))))))))))) (.s (.r (.op 0 .q (.op 1 .p (.op 2 .p (.op 3 .p (.op 4 .p (.op 5 .l (.op 6 .p (.op 7 .p (.op 8 .p (.op 9 .l (.nil)))))))))))) (.s (.r (.op 0 .q (.op 1 .p (.op 2 .l (.op 3 .p (.op 4 .p (.op 5 .p (.op 6 .l (.op 7 .p (.nil)))))))))) (.s (.s (.r (.op 0 .p (.op 1 .p (.op 2 .p (.op 3 .p (.grp 201 false [(4, .q), (5, .q), (6, .l), (7, .p)] [205] (.op 8 .p (.nil)))))))) (.c (.s (.r (.op 0 .p (.nil))) (.n)) (.n))) (.s (.r (.op 0 .q (.op 1 .l (.nil)))) (.s (.s (.r (.op 0 .p (.nil))) (.b (.lp [22] (.s (.s (.r (.op 0 .p (.op 1 .p (.op 2 .p (.op 3 .p (.nil)))))) (.c (.n) (.n))) (.s (.b (.s (.r (.op 0 .p (.op 1 .p (.op 2 .p (.op 3 .q (.op 4 .p (.op 5 .p (.op 6 .p (.op 7 .q (.op 8 .p (.nil))))))))))) (.c (.s (.r (.op 0 .p (.nil))) (.n)) (.n)))) (.r (.op 0 .p (.op 1 .p (.op 2 .p (.nil)))))))))) (.s (.r (.op 0 .q (.op 1 .q (.op 2 .l (.op 3 .p (.grp 227 true [(4, .p), (5, .p), (6, .p), (7, .p), (8, .q), (9, .p)] [233] (.op 10 .p (.op 11 .p (.grp 235 true [(12, .l)] [236] (.op 13 .p (.op 14 .p (.nil)))))))))))) (.n))))))))))))))))))))))))))
def Tryd.F_law06_TypesTurn (t0 : Value) (t1 : Value) (t2 : Value) (t3 : Value) (w : World) (K : Value → World → Prop) : Prop :=
 opW Tryd.prog w (Instr.box 25 t0) fun t4 w1 =>
 opW Tryd.prog w1 (Instr.box 25 t1) fun t5 w2 =>
 opQ Tryd.prog w2 (Instr.loadAt 25 t4) fun t23 =>
 oCall Tryd.prog Tryd.n_law06_typeFits #[t23, (Value.int .i64 60)] w2 fun t24 w3 =>
 opP Tryd.prog (Op.unary .not t24) fun t25 =>
 sJoin (fun K4 => gIf t25 false (opQ Tryd.prog w3 (Instr.loadAt 25 t5) fun t27 =>
 oCall Tryd.prog Tryd.n_law06_typeFits #[t27, (Value.int .i64 60)] w3 fun t28 w8 =>
 opP Tryd.prog (Op.unary .not t28) fun t29 =>
 K4 [t29] w8) (K4 [undef] w3)) (fun s5 _d6 w7 =>
 oPick t25 (Value.bool true) (s5.getD 0 undef) fun t30 =>
 sJoin (fun K9 => gIf t30 false (opP Tryd.prog (Builtin.len_ #[68] 3 #[t3]) fun t33 =>
 opP Tryd.prog (bsem .gtr 3 true t33 (Value.int .i64 100)) fun t34 =>
 K9 [t34] w7) (K9 [undef] w7)) (fun s10 _d11 w12 =>
 oPick t30 (Value.bool true) (s10.getD 0 undef) fun t35 =>
 oCond t35 (oCall Tryd.prog Tryd.n_law06_awake #[] w12 fun t36 w13 =>
 K t36 w13) (opQ Tryd.prog w12 (Instr.loadAt 25 t4) fun t38 =>
 oCall Tryd.prog Tryd.n_types_Own #[t38] w12 fun t39 w14 =>
 opP Tryd.prog (Instr.extract t39 0) fun t40 =>
 opP Tryd.prog (Instr.extract t39 1) fun t41 =>
 opW Tryd.prog w14 (Instr.alloc 25 true (.tuple #[])) fun t9 w15 =>
 opU Tryd.prog w15 (Instr.storeAt 25 t9 t40) fun w16 =>
 opQ Tryd.prog w16 (Instr.loadAt 25 t4) fun t43 =>
 oCall Tryd.prog Tryd.n_types_Own #[t43] w16 fun t44 w17 =>
 opP Tryd.prog (Instr.extract t44 0) fun t45 =>
 opP Tryd.prog (Instr.extract t44 1) fun t46 =>
 opW Tryd.prog w17 (Instr.alloc 25 true (.tuple #[])) fun t11 w18 =>
 opU Tryd.prog w18 (Instr.storeAt 25 t11 t45) fun w19 =>
 opQ Tryd.prog w19 (Instr.loadAt 25 t4) fun t47 =>
 oCall Tryd.prog Tryd.n_ref06_Is #[t47] w19 fun t48 w20 =>
 sJoin (fun K21 => gIf t48 true (opP Tryd.prog (bsem .neq 29 true t41 (Value.int .i64 0)) fun t52 =>
 K21 [t52] w20) (K21 [undef] w20)) (fun s22 _d23 w24 =>
 sJoin (fun K25 => gIf (s22.getD 0 undef) false (opP Tryd.prog (bsem .neq 29 true t46 (Value.int .i64 0)) fun t55 =>
 K25 [t55] w24) (K25 [undef] w24)) (fun s26 _d27 w28 =>
 sJoin (fun K29 => gIf t48 true (oPick (s22.getD 0 undef) (Value.bool true) (s26.getD 0 undef) fun t56 =>
 K29 [t56] w28) (K29 [undef] w28)) (fun s30 _d31 w32 =>
 sJoin (fun K33 => gIf (s30.getD 0 undef) false (opQ Tryd.prog w32 (Instr.loadAt 25 t9) fun t58 =>
 opQ Tryd.prog w32 (Instr.loadAt 25 t4) fun t59 =>
 oCall Tryd.prog Tryd.n_law06_equal #[t58, t59] w32 fun t60 w37 =>
 opP Tryd.prog (Op.unary .not t60) fun t61 =>
 K33 [t61] w37) (K33 [undef] w32)) (fun s34 _d35 w36 =>
 sJoin (fun K38 => gIf t48 true (oPick (s30.getD 0 undef) (Value.bool true) (s34.getD 0 undef) fun t62 =>
 K38 [t62] w36) (K38 [undef] w36)) (fun s39 _d40 w41 =>
 oPick t48 (s39.getD 0 undef) (Value.bool false) fun t63 =>
 sJoin (fun K42 => gIf t63 false (opP Tryd.prog (Op.unary .not t48) fun t66 =>
 K42 [t66] w41) (K42 [undef] w41)) (fun s43 _d44 w45 =>
 sJoin (fun K46 => gIf (s43.getD 0 undef) true (opP Tryd.prog (bsem .neq 29 true t41 (Value.int .i64 2)) fun t69 =>
 K46 [t69] w45) (K46 [undef] w45)) (fun s47 _d48 w49 =>
 sJoin (fun K50 => gIf (s47.getD 0 undef) false (opQ Tryd.prog w49 (Instr.loadAt 25 t9) fun t71 =>
 opP Tryd.prog (Instr.build 25 #[]) fun t72 =>
 oCall Tryd.prog Tryd.n_law06_equal #[t71, t72] w49 fun t73 w54 =>
 opP Tryd.prog (Op.unary .not t73) fun t74 =>
 K50 [t74] w54) (K50 [undef] w49)) (fun s51 _d52 w53 =>
 sJoin (fun K55 => gIf (s43.getD 0 undef) true (oPick (s47.getD 0 undef) (Value.bool true) (s51.getD 0 undef) fun t75 =>
 K55 [t75] w53) (K55 [undef] w53)) (fun s56 _d57 w58 =>
 sJoin (fun K59 => gIf t63 false (oPick (s43.getD 0 undef) (s56.getD 0 undef) (Value.bool false) fun t76 =>
 K59 [t76] w58) (K59 [undef] w58)) (fun s60 _d61 w62 =>
 oPick t63 (Value.bool true) (s60.getD 0 undef) fun t77 =>
 oCond t77 (K (Value.bool false) w62) (opQ Tryd.prog w62 (Instr.loadAt 25 t9) fun t78 =>
 oCall Tryd.prog Tryd.n_law06_spoil #[t78] w62 fun _t79 w63 =>
 sJoin (fun K64 => gIf t48 true (opQ Tryd.prog w63.drew (Instr.loadAt 25 t11) fun t82 =>
 opQ Tryd.prog w63.drew (Instr.loadAt 25 t4) fun t83 =>
 oCall Tryd.prog Tryd.n_law06_equal #[t82, t83] w63.drew fun t84 w68 =>
 opP Tryd.prog (Op.unary .not t84) fun t85 =>
 K64 [t85] w68) (K64 [undef] w63.drew)) (fun s65 _d66 w67 =>
 oPick t48 (s65.getD 0 undef) (Value.bool false) fun t86 =>
 sJoin (fun K69 => gIf t86 false (opQ Tryd.prog w67 (Instr.loadAt 25 t4) fun t88 =>
 opQ Tryd.prog w67 (Instr.loadAt 25 t5) fun t89 =>
 opQ Tryd.prog w67 (Instr.loadAt 25 t4) fun t91 =>
 opQ Tryd.prog w67 (Instr.loadAt 25 t5) fun t92 =>
 oCall Tryd.prog Tryd.n_types_Alike #[t88, t89] w67 fun t90 w73 =>
 Ext w67 w73 ∧
 oCall Tryd.prog Tryd.n_ref06_Alike #[t91, t92] w73 fun t93 w74 =>
 opP Tryd.prog (bsem .neq 4 false t90 t93) fun t94 =>
 K69 [t94] w74) (K69 [undef] w67)) (fun s70 _d71 w72 =>
 oPick t86 (Value.bool true) (s70.getD 0 undef) fun t95 =>
 sJoin (fun K75 => gIf t95 false (opQ Tryd.prog w72 (Instr.loadAt 25 t4) fun t97 =>
 opQ Tryd.prog w72 (Instr.loadAt 25 t5) fun t98 =>
 opQ Tryd.prog w72 (Instr.loadAt 25 t4) fun t100 =>
 opQ Tryd.prog w72 (Instr.loadAt 25 t5) fun t101 =>
 oCall Tryd.prog Tryd.n_types_Same #[t97, t98] w72 fun t99 w79 =>
 Ext w72 w79 ∧
 oCall Tryd.prog Tryd.n_ref06_Same #[t100, t101] w79 fun t102 w80 =>
 opP Tryd.prog (bsem .neq 4 false t99 t102) fun t103 =>
 K75 [t103] w80) (K75 [undef] w72)) (fun s76 _d77 w78 =>
 oPick t95 (Value.bool true) (s76.getD 0 undef) fun t104 =>
 oCond t104 (K (Value.bool false) w78) (opQ Tryd.prog w78 (Instr.loadAt 25 t4) fun t105 =>
 oCall Tryd.prog Tryd.n_types_Regions #[t105] w78 fun t106 w81 =>
 opQ Tryd.prog w81 (Instr.loadAt 25 t4) fun t107 =>
 oCall Tryd.prog Tryd.n_ref06_Regions #[t107] w81 fun t108 w82 =>
 opP Tryd.prog (Builtin.len_ #[68] 3 #[t106]) fun t110 =>
 opP Tryd.prog (Builtin.len_ #[68] 3 #[t108]) fun t112 =>
 opP Tryd.prog (bsem .neq 3 false t110 t112) fun t113 =>
 oCond t113 (K (Value.bool false) w82) (sLoop [(Value.int .i64 0)] w82 (fun s84 _d85 w86 K83 =>
 opP Tryd.prog (Builtin.len_ #[68] 3 #[t106]) fun t116 =>
 opP Tryd.prog (bsem .lss 3 false (s84.getD 0 undef) t116) fun t117 =>
 oCond t117 (opP Tryd.prog (Instr.indexAt 68 t106 (s84.getD 0 undef)) fun t122 =>
 opQ Tryd.prog w86.drew (Instr.loadAt 3 t122) fun t123 =>
 opP Tryd.prog (Instr.indexAt 68 t108 (s84.getD 0 undef)) fun t126 =>
 opQ Tryd.prog w86.drew (Instr.loadAt 3 t126) fun t127 =>
 opP Tryd.prog (bsem .neq 3 false t123 t127) fun t128 =>
 oCond t128 (K (Value.bool false) w86.drew) (opP Tryd.prog (bsem .add 3 true (s84.getD 0 undef) (Value.int .i64 1)) fun t119 =>
 K83 [t119] w86.drew)) (opQ Tryd.prog w86 (Instr.loadAt 25 t4) fun t130 =>
 oCall Tryd.prog Tryd.n_types_Number #[t130, t2] w86 fun t132 w87 =>
 opP Tryd.prog (Instr.extract t132 0) fun t133 =>
 opP Tryd.prog (Instr.extract t132 1) fun t134 =>
 opP Tryd.prog (Instr.extract t132 2) fun t135 =>
 opU Tryd.prog w87 (Instr.storeAt 25 t9 t133) fun w88 =>
 opQ Tryd.prog w88 (Instr.loadAt 25 t4) fun t137 =>
 oCall Tryd.prog Tryd.n_types_Number #[t137, t2] w88 fun t139 w89 =>
 opP Tryd.prog (Instr.extract t139 0) fun t140 =>
 opP Tryd.prog (Instr.extract t139 1) fun _t141 =>
 opP Tryd.prog (Instr.extract t139 2) fun _t142 =>
 opU Tryd.prog w89 (Instr.storeAt 25 t11 t140) fun w90 =>
 opQ Tryd.prog w90 (Instr.loadAt 25 t4) fun t144 =>
 oCall Tryd.prog Tryd.n_ref06_Number #[t144, t2] w90 fun t146 w91 =>
 opP Tryd.prog (Instr.extract t146 0) fun t147 =>
 opP Tryd.prog (Instr.extract t146 1) fun t148 =>
 opP Tryd.prog (Instr.extract t146 2) fun t149 =>
 opW Tryd.prog w91 (Instr.alloc 25 true (.tuple #[])) fun t18 w92 =>
 opU Tryd.prog w92 (Instr.storeAt 25 t18 t147) fun w93 =>
 opP Tryd.prog (bsem .neq 3 false t134 t148) fun t152 =>
 sJoin (fun K94 => gIf t152 false (opP Tryd.prog (bsem .neq 3 false t135 t149) fun t156 =>
 K94 [t156] w93) (K94 [undef] w93)) (fun s95 _d96 w97 =>
 oPick t152 (Value.bool true) (s95.getD 0 undef) fun t157 =>
 sJoin (fun K98 => gIf t157 false (opQ Tryd.prog w97 (Instr.loadAt 25 t9) fun t159 =>
 opQ Tryd.prog w97 (Instr.loadAt 25 t18) fun t160 =>
 oCall Tryd.prog Tryd.n_law06_equal #[t159, t160] w97 fun t161 w102 =>
 opP Tryd.prog (Op.unary .not t161) fun t162 =>
 K98 [t162] w102) (K98 [undef] w97)) (fun s99 _d100 w101 =>
 oPick t157 (Value.bool true) (s99.getD 0 undef) fun t163 =>
 oCond t163 (K (Value.bool false) w101) (opQ Tryd.prog w101 (Instr.loadAt 25 t9) fun t164 =>
 oCall Tryd.prog Tryd.n_law06_spoil #[t164] w101 fun _t165 w103 =>
 opQ Tryd.prog w103 (Instr.loadAt 25 t11) fun t166 =>
 opQ Tryd.prog w103 (Instr.loadAt 25 t18) fun t167 =>
 oCall Tryd.prog Tryd.n_law06_equal #[t166, t167] w103 fun t168 w104 =>
 opP Tryd.prog (Op.unary .not t168) fun t169 =>
 oCond t169 (K (Value.bool false) w104) (opW Tryd.prog w104 (Builtin.append_ #[68, 68] 68 #[(Value.slice Option.none 0 0), t3]) fun t171 w105 =>
 opW Tryd.prog w105 (Instr.buildSlice 68 1 #[(0, (Value.int .i64 77))]) fun t172 w106 =>
 opW Tryd.prog w106 (Builtin.append_ #[68, 68] 68 #[t171, t172]) fun t173 w107 =>
 opQ Tryd.prog w107.drew (Instr.loadAt 25 t4) fun t175 =>
 opP Tryd.prog (Builtin.len_ #[68] 3 #[t3]) fun t178 =>
 opP Tryd.prog (Instr.sliceAt 68 t173 none (some t178) none) fun t179 =>
 oCall Tryd.prog Tryd.n_types_Anew #[t175, t179] w107.drew fun t180 w108 =>
 opP Tryd.prog (Instr.extract t180 0) fun t181 =>
 opP Tryd.prog (Instr.extract t180 1) fun t182 =>
 opU Tryd.prog w108 (Instr.storeAt 25 t9 t181) fun w109 =>
 opQ Tryd.prog w109.drew (Instr.loadAt 25 t4) fun t184 =>
 opP Tryd.prog (Builtin.len_ #[68] 3 #[t3]) fun t187 =>
 opP Tryd.prog (Instr.sliceAt 68 t173 none (some t187) none) fun t188 =>
 oCall Tryd.prog Tryd.n_types_Anew #[t184, t188] w109.drew fun t189 w110 =>
 opP Tryd.prog (Instr.extract t189 0) fun t190 =>
 opP Tryd.prog (Instr.extract t189 1) fun _t191 =>
 opU Tryd.prog w110 (Instr.storeAt 25 t11 t190) fun w111 =>
 opQ Tryd.prog w111 (Instr.loadAt 25 t4) fun t193 =>
 oCall Tryd.prog Tryd.n_ref06_Anew #[t193, t3] w111 fun t195 w112 =>
 opP Tryd.prog (Instr.extract t195 0) fun t196 =>
 opP Tryd.prog (Instr.extract t195 1) fun t197 =>
 opU Tryd.prog w112 (Instr.storeAt 25 t18 t196) fun w113 =>
 opP Tryd.prog (bsem .neq 3 false t182 t197) fun t200 =>
 sJoin (fun K114 => gIf t200 false (opQ Tryd.prog w113 (Instr.loadAt 25 t9) fun t202 =>
 opQ Tryd.prog w113 (Instr.loadAt 25 t18) fun t203 =>
 oCall Tryd.prog Tryd.n_law06_equal #[t202, t203] w113 fun t204 w118 =>
 opP Tryd.prog (Op.unary .not t204) fun t205 =>
 K114 [t205] w118) (K114 [undef] w113)) (fun s115 _d116 w117 =>
 oPick t200 (Value.bool true) (s115.getD 0 undef) fun t206 =>
 oCond t206 (K (Value.bool false) w117) (opQ Tryd.prog w117 (Instr.loadAt 25 t9) fun t207 =>
 oCall Tryd.prog Tryd.n_law06_spoil #[t207] w117 fun _t208 w119 =>
 sLoop [(Value.int .i64 0)] w119 (fun s121 _d122 w123 K120 =>
 opP Tryd.prog (Builtin.len_ #[68] 3 #[t3]) fun t211 =>
 opP Tryd.prog (bsem .lss 3 false (s121.getD 0 undef) t211) fun t212 =>
 oCond t212 (opP Tryd.prog (Instr.indexAt 68 t173 (s121.getD 0 undef)) fun t217 =>
 opQ Tryd.prog w123.drew (Instr.loadAt 3 t217) fun t218 =>
 opP Tryd.prog (Instr.indexAt 68 t3 (s121.getD 0 undef)) fun t221 =>
 opQ Tryd.prog w123.drew (Instr.loadAt 3 t221) fun t222 =>
 opP Tryd.prog (bsem .neq 3 false t218 t222) fun t223 =>
 oCond t223 (K (Value.bool false) w123.drew) (opP Tryd.prog (bsem .add 3 true (s121.getD 0 undef) (Value.int .i64 1)) fun t214 =>
 K120 [t214] w123.drew)) (opQ Tryd.prog w123 (Instr.loadAt 25 t11) fun t224 =>
 opQ Tryd.prog w123 (Instr.loadAt 25 t18) fun t225 =>
 oCall Tryd.prog Tryd.n_law06_equal #[t224, t225] w123 fun t226 w124 =>
 sJoin (fun K125 => gIf t226 true (opP Tryd.prog (Builtin.len_ #[68] 3 #[t3]) fun t230 =>
 opP Tryd.prog (Instr.indexAt 68 t173 t230) fun t231 =>
 opQ Tryd.prog w124 (Instr.loadAt 3 t231) fun t232 =>
 opP Tryd.prog (bsem .eql 3 true t232 (Value.int .i64 77)) fun t233 =>
 K125 [t233] w124) (K125 [undef] w124)) (fun s126 _d127 w128 =>
 oPick t226 (s126.getD 0 undef) (Value.bool false) fun t234 =>
 sJoin (fun K129 => gIf t234 true (oCall Tryd.prog Tryd.n_law06_awake #[] w128 fun t236 w133 =>
 K129 [t236] w133) (K129 [undef] w128)) (fun s130 _d131 w132 =>
 oPick t234 (s130.getD 0 undef) (Value.bool false) fun t237 =>
 K t237 w132)))))))))))))))))))))))))))))))
theorem Tryd.E_law06_TypesTurn (t0 t1 t2 t3 : Value) (w : World) (K : Value → World → Prop) : sw ⟨false, false⟩ Tryd.prog (fun _ _ => False) Tryd.A_law06_TypesTurn (bodyOf Tryd.f8) [t0, t1, t2, t3, undef, undef, undef, undef, undef, undef, undef, undef, undef, undef, undef, undef, undef, undef, undef, undef, undef, undef, undef, undef, undef, undef, undef, undef, undef, undef, undef, undef, undef, undef, undef, undef, undef, undef, undef, undef, undef, undef, undef, undef, undef, undef, undef, undef, undef, undef, undef, undef, undef, undef, undef, undef, undef, undef, undef, undef, undef, undef, undef, undef, undef, undef, undef, undef, undef, undef, undef, undef, undef, undef, undef, undef, undef, undef, undef, undef, undef, undef, undef, undef, undef, undef, undef, undef, undef, undef, undef, undef, undef, undef, undef, undef, undef, undef, undef, undef, undef, undef, undef, undef, undef, undef, undef, undef, undef, undef, undef, undef, undef, undef, undef, undef, undef, undef, undef, undef, undef, undef, undef, undef, undef, undef, undef, undef, undef, undef, undef, undef, undef, undef, undef, undef, undef, undef, undef, undef, undef, undef, undef, undef, undef, undef, undef, undef, undef, undef, undef, undef, undef, undef, undef, undef, undef, undef, undef, undef, undef, undef, undef, undef, undef, undef, undef, undef, undef, undef, undef, undef, undef, undef, undef, undef, undef, undef, undef, undef, undef, undef, undef, undef, undef, undef, undef, undef, undef, undef, undef, undef, undef, undef, undef, undef, undef, undef, undef, undef, undef, undef, undef, undef, undef, undef, undef, undef, undef, undef, undef, undef, undef, undef, undef, undef, undef, undef, undef, undef, undef, undef, undef, undef, undef, undef, undef, undef, undef, undef, undef, undef, undef, undef, undef, undef, undef, undef] w (topQ false Tryd.prog Tryd.f8 w K) = Tryd.F_law06_TypesTurn t0 t1 t2 t3 w K := by kernel_rfl
theorem Tryd.C_law06_TypesTurn : chk ⟨false, false⟩ Tryd.prog false Tryd.A_law06_TypesTurn (bodyOf Tryd.f8) = true := by kernel_rfl
theorem Tryd.ok_law06_TypesTurn {t0 t1 t2 t3 : Value} {w : World} {K : Value → World → Prop} (h : Tryd.F_law06_TypesTurn t0 t1 t2 t3 w K) : oCall Tryd.prog Tryd.n_law06_TypesTurn #[t0, t1, t2, t3] w K :=
  calls_of_sw (cf := ⟨false, false⟩) Tryd.mixed Tryd.func8 rfl Tryd.C_law06_TypesTurn ((Tryd.E_law06_TypesTurn t0 t1 t2 t3 w K).mpr h)

/- 9: loanword/loanwordlaw06.TypesNumbers -/
def Tryd.A_law06_TypesNumbers : Ann := .s (.r (.op 0 .l (.op 1 .p (.nil)))) (.s (.s (.r (.op 0 .p (.op 1 .l (.op 2 .p (.op 3 .p (.grp 30 false [(4, .q), (5, .l), (6, .p)] [33] (.op 7 .p (.nil)))))))) (.c (.s (.r (.op 0 .l (.op 1 .p (.nil)))) (.n)) (.n))) (.s (.r (.op 0 .q (.op 1 .l (.op 2 .p (.nil))))) (.s (.r (.op 0 .q (.op 1 .p (.op 2 .l (.op 3 .p (.op 4 .p (.op 5 .p (.op 6 .l (.op 7 .l (.op 8 .p (.nil))))))))))) (.s (.r (.op 0 .q (.op 1 .l (.op 2 .p (.op 3 .p (.op 4 .p (.op 5 .l (.op 6 .l (.op 7 .p (.nil)))))))))) (.s (.s (.r (.op 0 .p (.op 1 .p (.op 2 .p (.op 3 .p (.grp 52 false [(4, .p), (5, .p), (6, .p)] [55] (.grp 55 true [(7, .q), (8, .q), (9, .l), (10, .p), (11, .p)] [60] (.grp 60 false [(12, .q), (13, .q), (14, .l), (15, .p)] [64] (.grp 55 true [(16, .p)] [65] (.grp 52 false [(17, .p)] [66] (.op 18 .p (.nil)))))))))))) (.c (.s (.r (.op 0 .p (.nil))) (.n)) (.n))) (.s (.r (.op 0 .q (.op 1 .p (.op 2 .l (.op 3 .p (.op 4 .p (.op 5 .p (.op 6 .p (.op 7 .l (.op 8 .l (.op 9 .p (.op 10 .p (.nil))))))))))))) (.j [] (.s (.r (.op 0 .p (.op 1 .p (.nil)))) (.c (.s (.r (.op 0 .q (.op 1 .p (.op 2 .l (.op 3 .p (.op 4 .p (.op 5 .p (.op 6 .p (.op 7 .l (.op 8 .l (.op 9 .p (.op 10 .p (.nil))))))))))))) (.s (.r (.op 0 .p (.op 1 .p (.op 2 .p (.grp 86 false [(3, .p), (4, .p), (5, .p)] [89] (.op 6 .p (.op 7 .p (.grp 91 false [(8, .p), (9, .p), (10, .p), (11, .p), (12, .p), (13, .p)] [97] (.op 14 .p (.op 15 .p (.grp 99 false [(16, .q), (17, .q), (18, .l), (19, .p)] [103] (.op 20 .p (.op 21 .p (.grp 105 false [(22, .q), (23, .q), (24, .l), (25, .p)] [109] (.op 26 .p (.op 27 .p (.grp 111 false [(28, .q), (29, .l), (30, .p), (31, .p), (32, .p), (33, .p)] [117] (.op 34 .p (.nil))))))))))))))))))) (.c (.s (.r (.op 0 .p (.nil))) (.n)) (.n)))) (.n))) (.s (.s (.r (.op 0 .p (.op 1 .q (.op 2 .l (.op 3 .p (.nil)))))) (.c (.s (.r (.op 0 .l (.op 1 .p (.nil)))) (.n)) (.n))) (.s (.r (.op 0 .p (.op 1 .q (.op 2 .l (.op 3 .p (.op 4 .p (.op 5 .p (.op 6 .p (.op 7 .p (.nil)))))))))) (.s (.r (.op 0 .p (.op 1 .q (.op 2 .l (.op 3 .p (.op 4 .p (.op 5 .p (.op 6 .p (.op 7 .p (.nil)))))))))) (.s (.s (.r (.op 0 .p (.op 1 .p (.op 2 .p (.grp 138 false [(3, .p), (4, .p)] [140] (.op 5 .p (.op 6 .p (.grp 142 false [(7, .p), (8, .p)] [144] (.op 9 .p (.op 10 .p (.grp 146 false [(11, .q), (12, .l), (13, .p)] [149] (.grp 149 true [(14, .p), (15, .p)] [151] (.grp 151 false [(16, .p), (17, .p)] [153] (.grp 149 true [(18, .p)] [154] (.grp 146 false [(19, .p)] [155] (.op 20 .p (.nil))))))))))))))))) (.c (.s (.r (.op 0 .p (.nil))) (.n)) (.n))) (.s (.r (.op 0 .p (.op 1 .q (.op 2 .l (.op 3 .p (.op 4 .p (.op 5 .p (.op 6 .p (.op 7 .p (.nil)))))))))) (.s (.s (.r (.op 0 .p (.op 1 .p (.nil)))) (.c (.s (.r (.op 0 .p (.op 1 .p (.op 2 .p (.grp 167 true [(3, .l)] [168] (.op 4 .p (.op 5 .p (.nil)))))))) (.n)) (.n))) (.s (.r (.op 0 .p (.op 1 .p (.nil)))) (.s (.s (.r (.op 0 .p (.nil))) (.b (.lp [20, 21, 22] (.s (.s (.r (.op 0 .p (.op 1 .p (.op 2 .p (.op 3 .p (.nil)))))) (.c (.n) (.n))) (.s (.b (.s (.r (.op 0 .p (.op 1 .p (.op 2 .p (.op 3 .p (.op 4 .q (.op 5 .l (.op 6 .p (.op 7 .p (.op 8 .p (.op 9 .p (.op 10 .p (.nil))))))))))))) (.s (.r (.op 0 .p (.op 1 .p (.op 2 .p (.op 3 .p (.op 4 .q (.op 5 .l (.op 6 .p (.op 7 .p (.op 8 .p (.op 9 .p (.op 10 .p (.nil))))))))))))) (.s (.s (.r (.op 0 .p (.op 1 .p (.op 2 .p (.grp 196 false [(3, .p), (4, .p)] [198] (.op 5 .p (.nil))))))) (.c (.s (.r (.op 0 .p (.nil))) (.n)) (.n))) (.s (.r (.op 0 .p (.op 1 .p (.op 2 .p (.op 3 .p (.nil)))))) (.r (.op 0 .p (.op 1 .p (.grp 204 false [(2, .p)] [205] (.op 3 .p (.op 4 .p (.nil)))))))))))) (.r (.op 0 .p (.op 1 .p (.op 2 .p (.nil)))))))))) (.s (.r (.op 0 .p (.op 1 .p (.op 2 .p (.op 3 .p (.grp 210 true [(4, .p), (5, .p), (6, .p)] [213] (.op 7 .p (.op 8 .p (.grp 215 true [(9, .p), (10, .p), (11, .p), (12, .p)] [219] (.op 13 .p (.op 14 .p (.grp 221 true [(15, .l)] [222] (.op 16 .p (.op 17 .p (.nil))))))))))))))) (.n)))))))))))))))))
def Tryd.F_law06_TypesNumbers (t0 : Value) (t1 : Value) (t2 : Value) (w : World) (K : Value → World → Prop) : Prop :=
 opW Tryd.prog w (Instr.box 25 t1) fun t4 w1 =>
 oCall Tryd.prog Tryd.n_law06_fits #[t0] w1 fun t28 w2 =>
 opP Tryd.prog (Op.unary .not t28) fun t29 =>
 sJoin (fun K3 => gIf t29 false (opQ Tryd.prog w2 (Instr.loadAt 25 t4) fun t31 =>
 oCall Tryd.prog Tryd.n_law06_typeFits #[t31, (Value.int .i64 60)] w2 fun t32 w7 =>
 opP Tryd.prog (Op.unary .not t32) fun t33 =>
 K3 [t33] w7) (K3 [undef] w2)) (fun s4 _d5 w6 =>
 oPick t29 (Value.bool true) (s4.getD 0 undef) fun t34 =>
 oCond t34 (oCall Tryd.prog Tryd.n_law06_awake #[] w6 fun t35 w8 =>
 K t35 w8) (opQ Tryd.prog w6 (Instr.loadAt 25 t4) fun t36 =>
 oCall Tryd.prog Tryd.n_types_Regions #[t36] w6 fun t37 w9 =>
 opQ Tryd.prog w9 (Instr.loadAt 25 t4) fun t39 =>
 oCall Tryd.prog Tryd.n_types_Anew #[t39, t37] w9 fun t41 w10 =>
 opP Tryd.prog (Instr.extract t41 0) fun t42 =>
 opP Tryd.prog (Instr.extract t41 1) fun t43 =>
 opW Tryd.prog w10 (Instr.alloc 25 true (.tuple #[])) fun t8 w11 =>
 opU Tryd.prog w11 (Instr.storeAt 25 t8 t42) fun w12 =>
 opQ Tryd.prog w12 (Instr.loadAt 25 t4) fun t45 =>
 oCall Tryd.prog Tryd.n_types_Own #[t45] w12 fun t46 w13 =>
 opP Tryd.prog (Instr.extract t46 0) fun t47 =>
 opP Tryd.prog (Instr.extract t46 1) fun t48 =>
 opW Tryd.prog w13 (Instr.alloc 25 true (.tuple #[])) fun t10 w14 =>
 opU Tryd.prog w14 (Instr.storeAt 25 t10 t47) fun w15 =>
 opP Tryd.prog (bsem .neq 29 false t43 t48) fun t51 =>
 sJoin (fun K16 => gIf t51 false (opP Tryd.prog (bsem .eql 29 true t43 (Value.int .i64 0)) fun t54 =>
 K16 [t54] w15) (K16 [undef] w15)) (fun s17 _d18 w19 =>
 sJoin (fun K20 => gIf (s17.getD 0 undef) true (opQ Tryd.prog w19 (Instr.loadAt 25 t8) fun t56 =>
 opQ Tryd.prog w19 (Instr.loadAt 25 t4) fun t57 =>
 oCall Tryd.prog Tryd.n_types_Same #[t56, t57] w19 fun t58 w24 =>
 opP Tryd.prog (Op.unary .not t58) fun t59 =>
 K20 [t59] w24) (K20 [undef] w19)) (fun s21 _d22 w23 =>
 sJoin (fun K25 => gIf (s21.getD 0 undef) false (opQ Tryd.prog w23 (Instr.loadAt 25 t10) fun t61 =>
 opQ Tryd.prog w23 (Instr.loadAt 25 t4) fun t62 =>
 oCall Tryd.prog Tryd.n_types_Same #[t61, t62] w23 fun t63 w29 =>
 opP Tryd.prog (Op.unary .not t63) fun t64 =>
 K25 [t64] w29) (K25 [undef] w23)) (fun s26 _d27 w28 =>
 sJoin (fun K30 => gIf (s17.getD 0 undef) true (oPick (s21.getD 0 undef) (Value.bool true) (s26.getD 0 undef) fun t65 =>
 K30 [t65] w28) (K30 [undef] w28)) (fun s31 _d32 w33 =>
 sJoin (fun K34 => gIf t51 false (oPick (s17.getD 0 undef) (s31.getD 0 undef) (Value.bool false) fun t66 =>
 K34 [t66] w33) (K34 [undef] w33)) (fun s35 _d36 w37 =>
 oPick t51 (Value.bool true) (s35.getD 0 undef) fun t67 =>
 oCond t67 (K (Value.bool false) w37) (opQ Tryd.prog w37 (Instr.loadAt 25 t4) fun t69 =>
 oCall Tryd.prog Tryd.n_types_Number #[t69, t2] w37 fun t71 w38 =>
 opP Tryd.prog (Instr.extract t71 0) fun t72 =>
 opP Tryd.prog (Instr.extract t71 1) fun t73 =>
 opP Tryd.prog (Instr.extract t71 2) fun t74 =>
 opW Tryd.prog w38 (Instr.alloc 25 true (.tuple #[])) fun t12 w39 =>
 opU Tryd.prog w39 (Instr.storeAt 25 t12 t72) fun w40 =>
 sJoin (fun K41 =>
 opP Tryd.prog (bsem .eql 29 true t74 (Value.int .i64 0)) fun t76 =>
 oCond t76 (opQ Tryd.prog w40 (Instr.loadAt 25 t12) fun t78 =>
 oCall Tryd.prog Tryd.n_types_Number #[t78, t2] w40 fun t80 w45 =>
 opP Tryd.prog (Instr.extract t80 0) fun t81 =>
 opP Tryd.prog (Instr.extract t80 1) fun t82 =>
 opP Tryd.prog (Instr.extract t80 2) fun t83 =>
 opW Tryd.prog w45 (Instr.alloc 25 true (.tuple #[])) fun t14 w46 =>
 opU Tryd.prog w46 (Instr.storeAt 25 t14 t81) fun w47 =>
 opP Tryd.prog (bsem .neq 29 true t83 (Value.int .i64 0)) fun t85 =>
 sJoin (fun K48 => gIf t85 false (opP Tryd.prog (bsem .neq 3 false t73 t82) fun t89 =>
 K48 [t89] w47) (K48 [undef] w47)) (fun s49 _d50 w51 =>
 oPick t85 (Value.bool true) (s49.getD 0 undef) fun t90 =>
 sJoin (fun K52 => gIf t90 false (opP Tryd.prog (Builtin.len_ #[68] 3 #[t37]) fun t95 =>
 opP Tryd.prog (bsem .add 3 false t2 t95) fun t96 =>
 opP Tryd.prog (bsem .neq 3 false t73 t96) fun t97 =>
 K52 [t97] w51) (K52 [undef] w51)) (fun s53 _d54 w55 =>
 oPick t90 (Value.bool true) (s53.getD 0 undef) fun t98 =>
 sJoin (fun K56 => gIf t98 false (opQ Tryd.prog w55 (Instr.loadAt 25 t12) fun t100 =>
 opQ Tryd.prog w55 (Instr.loadAt 25 t14) fun t101 =>
 oCall Tryd.prog Tryd.n_types_Same #[t100, t101] w55 fun t102 w60 =>
 opP Tryd.prog (Op.unary .not t102) fun t103 =>
 K56 [t103] w60) (K56 [undef] w55)) (fun s57 _d58 w59 =>
 oPick t98 (Value.bool true) (s57.getD 0 undef) fun t104 =>
 sJoin (fun K61 => gIf t104 false (opQ Tryd.prog w59 (Instr.loadAt 25 t12) fun t106 =>
 opQ Tryd.prog w59 (Instr.loadAt 25 t4) fun t107 =>
 oCall Tryd.prog Tryd.n_types_Alike #[t106, t107] w59 fun t108 w65 =>
 opP Tryd.prog (Op.unary .not t108) fun t109 =>
 K61 [t109] w65) (K61 [undef] w59)) (fun s62 _d63 w64 =>
 oPick t104 (Value.bool true) (s62.getD 0 undef) fun t110 =>
 sJoin (fun K66 => gIf t110 false (opQ Tryd.prog w64 (Instr.loadAt 25 t12) fun t112 =>
 oCall Tryd.prog Tryd.n_types_Regions #[t112] w64 fun t113 w70 =>
 opP Tryd.prog (Builtin.len_ #[68] 3 #[t113]) fun t114 =>
 opP Tryd.prog (Builtin.len_ #[68] 3 #[t37]) fun t116 =>
 opP Tryd.prog (bsem .neq 3 false t114 t116) fun t117 =>
 K66 [t117] w70) (K66 [undef] w64)) (fun s67 _d68 w69 =>
 oPick t110 (Value.bool true) (s67.getD 0 undef) fun t118 =>
 oCond t118 (K (Value.bool false) w69) (K41 [] w69))))))) (K41 [] w40)) (fun _s42 _d43 w44 =>
 opQ Tryd.prog w44 (Instr.loadAt 25 t4) fun t120 =>
 oCall Tryd.prog Tryd.n_types_May #[t0, t120] w44 fun t121 w71 =>
 opP Tryd.prog (Op.unary .not t121) fun t122 =>
 oCond t122 (oCall Tryd.prog Tryd.n_law06_awake #[] w71 fun t123 w72 =>
 K t123 w72) (opQ Tryd.prog w71 (Instr.loadAt 25 t4) fun t126 =>
 oCall Tryd.prog Tryd.n_types_Words #[t0, t126] w71 fun t127 w73 =>
 opP Tryd.prog (Instr.extract t127 0) fun t128 =>
 opP Tryd.prog (Instr.extract t127 1) fun t129 =>
 opQ Tryd.prog w73 (Instr.loadAt 25 t4) fun t132 =>
 oCall Tryd.prog Tryd.n_types_Drops #[t0, t132] w73 fun t133 w74 =>
 opP Tryd.prog (Instr.extract t133 0) fun t134 =>
 opP Tryd.prog (Instr.extract t133 1) fun t135 =>
 opP Tryd.prog (bsem .neq 29 true t129 (Value.int .i64 0)) fun t137 =>
 sJoin (fun K75 => gIf t137 false (opP Tryd.prog (bsem .neq 29 true t135 (Value.int .i64 0)) fun t140 =>
 K75 [t140] w74) (K75 [undef] w74)) (fun s76 _d77 w78 =>
 oPick t137 (Value.bool true) (s76.getD 0 undef) fun t141 =>
 sJoin (fun K79 => gIf t141 false (opP Tryd.prog (bsem .lss 3 true t128 (Value.int .i64 1)) fun t144 =>
 K79 [t144] w78) (K79 [undef] w78)) (fun s80 _d81 w82 =>
 oPick t141 (Value.bool true) (s80.getD 0 undef) fun t145 =>
 sJoin (fun K83 => gIf t145 false (opQ Tryd.prog w82 (Instr.loadAt 25 t4) fun t147 =>
 oCall Tryd.prog Tryd.n_types_Copies #[t147] w82 fun t148 w87 =>
 K83 [t148] w87) (K83 [undef] w82)) (fun s84 _d85 w86 =>
 sJoin (fun K88 => gIf (s84.getD 0 undef) true (K88 [t134] w86) (K88 [undef] w86)) (fun s89 _d90 w91 =>
 sJoin (fun K92 => gIf (s89.getD 0 undef) false (opP Tryd.prog (bsem .neq 3 true t128 (Value.int .i64 1)) fun t153 =>
 K92 [t153] w91) (K92 [undef] w91)) (fun s93 _d94 w95 =>
 sJoin (fun K96 => gIf (s84.getD 0 undef) true (oPick (s89.getD 0 undef) (Value.bool true) (s93.getD 0 undef) fun t154 =>
 K96 [t154] w95) (K96 [undef] w95)) (fun s97 _d98 w99 =>
 sJoin (fun K100 => gIf t145 false (oPick (s84.getD 0 undef) (s97.getD 0 undef) (Value.bool false) fun t155 =>
 K100 [t155] w99) (K100 [undef] w99)) (fun s101 _d102 w103 =>
 oPick t145 (Value.bool true) (s101.getD 0 undef) fun t156 =>
 oCond t156 (K (Value.bool false) w103) (opQ Tryd.prog w103 (Instr.loadAt 25 t4) fun t159 =>
 oCall Tryd.prog Tryd.n_types_Fields #[t0, t159] w103 fun t160 w104 =>
 opP Tryd.prog (Instr.extract t160 0) fun t161 =>
 opP Tryd.prog (Instr.extract t160 1) fun t162 =>
 opP Tryd.prog (bsem .neq 29 true t162 (Value.int .i64 0)) fun t164 =>
 oCond t164 (opP Tryd.prog (bsem .eql 3 true t128 (Value.int .i64 1)) fun t166 =>
 sJoin (fun K105 => gIf t166 true (oCall Tryd.prog Tryd.n_law06_awake #[] w104 fun t168 w109 =>
 K105 [t168] w109) (K105 [undef] w104)) (fun s106 _d107 w108 =>
 oPick t166 (s106.getD 0 undef) (Value.bool false) fun t169 =>
 K t169 w108)) (sLoop [(Value.int .i64 0), (Value.bool false), (Value.int .i64 0)] w104 (fun s111 _d112 w113 K110 =>
 opP Tryd.prog (Builtin.len_ #[23] 3 #[t161]) fun t172 =>
 opP Tryd.prog (bsem .lss 3 false (s111.getD 2 undef) t172) fun t173 =>
 oCond t173 (opP Tryd.prog (Instr.indexAt 23 t161 (s111.getD 2 undef)) fun t180 =>
 opQ Tryd.prog w113 (Instr.loadAt 25 t180) fun t181 =>
 oCall Tryd.prog Tryd.n_types_Words #[t0, t181] w113 fun t182 w114 =>
 opP Tryd.prog (Instr.extract t182 0) fun t183 =>
 opP Tryd.prog (Instr.extract t182 1) fun t184 =>
 opP Tryd.prog (Instr.indexAt 23 t161 (s111.getD 2 undef)) fun t189 =>
 opQ Tryd.prog w114 (Instr.loadAt 25 t189) fun t190 =>
 oCall Tryd.prog Tryd.n_types_Drops #[t0, t190] w114 fun t191 w115 =>
 opP Tryd.prog (Instr.extract t191 0) fun t192 =>
 opP Tryd.prog (Instr.extract t191 1) fun t193 =>
 opP Tryd.prog (bsem .neq 29 true t184 (Value.int .i64 0)) fun t195 =>
 sJoin (fun K116 => gIf t195 false (opP Tryd.prog (bsem .neq 29 true t193 (Value.int .i64 0)) fun t198 =>
 K116 [t198] w115) (K116 [undef] w115)) (fun s117 _d118 w119 =>
 oPick t195 (Value.bool true) (s117.getD 0 undef) fun t199 =>
 oCond t199 (K (Value.bool false) w119) (opP Tryd.prog (bsem .add 3 false (s111.getD 0 undef) t183) fun t202 =>
 sJoin (fun K120 => gIf (s111.getD 1 undef) false (K120 [t192] w119) (K120 [undef] w119)) (fun s121 _d122 w123 =>
 oPick (s111.getD 1 undef) (Value.bool true) (s121.getD 0 undef) fun t206 =>
 opP Tryd.prog (bsem .add 3 true (s111.getD 2 undef) (Value.int .i64 1)) fun t175 =>
 K110 [t202, t206, t175] w123)))) (opP Tryd.prog (bsem .eql 3 false (s111.getD 0 undef) t128) fun t209 =>
 sJoin (fun K124 => gIf t209 true (opP Tryd.prog (bsem .eql 4 false (s111.getD 1 undef) t134) fun t213 =>
 K124 [t213] w113) (K124 [undef] w113)) (fun s125 _d126 w127 =>
 oPick t209 (s125.getD 0 undef) (Value.bool false) fun t214 =>
 sJoin (fun K128 => gIf t214 true (opP Tryd.prog (Builtin.len_ #[23] 3 #[t161]) fun t218 =>
 opP Tryd.prog (bsem .geq 3 false t128 t218) fun t219 =>
 K128 [t219] w127) (K128 [undef] w127)) (fun s129 _d130 w131 =>
 oPick t214 (s129.getD 0 undef) (Value.bool false) fun t220 =>
 sJoin (fun K132 => gIf t220 true (oCall Tryd.prog Tryd.n_law06_awake #[] w131 fun t222 w136 =>
 K132 [t222] w136) (K132 [undef] w131)) (fun s133 _d134 w135 =>
 oPick t220 (s133.getD 0 undef) (Value.bool false) fun t223 =>
 K t223 w135))))))))))))))))))))))))
theorem Tryd.E_law06_TypesNumbers (t0 t1 t2 : Value) (w : World) (K : Value → World → Prop) : sw ⟨false, false⟩ Tryd.prog (fun _ _ => False) Tryd.A_law06_TypesNumbers (bodyOf Tryd.f9) [t0, t1, t2, undef, undef, undef, undef, undef, undef, undef, undef, undef, undef, undef, undef, undef, undef, undef, undef, undef, undef, undef, undef, undef, undef, undef, undef, undef, undef, undef, undef, undef, undef, undef, undef, undef, undef, undef, undef, undef, undef, undef, undef, undef, undef, undef, undef, undef, undef, undef, undef, undef, undef, undef, undef, undef, undef, undef, undef, undef, undef, undef, undef, undef, undef, undef, undef, undef, undef, undef, undef, undef, undef, undef, undef, undef, undef, undef, undef, undef, undef, undef, undef, undef, undef, undef, undef, undef, undef, undef, undef, undef, undef, undef, undef, undef, undef, undef, undef, undef, undef, undef, undef, undef, undef, undef, undef, undef, undef, undef, undef, undef, undef, undef, undef, undef, undef, undef, undef, undef, undef, undef, undef, undef, undef, undef, undef, undef, undef, undef, undef, undef, undef, undef, undef, undef, undef, undef, undef, undef, undef, undef, undef, undef, undef, undef, undef, undef, undef, undef, undef, undef, undef, undef, undef, undef, undef, undef, undef, undef, undef, undef, undef, undef, undef, undef, undef, undef, undef, undef, undef, undef, undef, undef, undef, undef, undef, undef, undef, undef, undef, undef, undef, undef, undef, undef, undef, undef, undef, undef, undef, undef, undef, undef, undef, undef, undef, undef, undef, undef, undef, undef, undef, undef, undef, undef, undef, undef, undef, undef, undef, undef, undef, undef, undef, undef, undef, undef, undef, undef, undef, undef, undef, undef] w (topQ false Tryd.prog Tryd.f9 w K) = Tryd.F_law06_TypesNumbers t0 t1 t2 w K := by kernel_rfl
theorem Tryd.C_law06_TypesNumbers : chk ⟨false, false⟩ Tryd.prog false Tryd.A_law06_TypesNumbers (bodyOf Tryd.f9) = true := by kernel_rfl
theorem Tryd.ok_law06_TypesNumbers {t0 t1 t2 : Value} {w : World} {K : Value → World → Prop} (h : Tryd.F_law06_TypesNumbers t0 t1 t2 w K) : oCall Tryd.prog Tryd.n_law06_TypesNumbers #[t0, t1, t2] w K :=
  calls_of_sw (cf := ⟨false, false⟩) Tryd.mixed Tryd.func9 rfl Tryd.C_law06_TypesNumbers ((Tryd.E_law06_TypesNumbers t0 t1 t2 w K).mpr h)

/- 10: loanword/loanwordlaw06.typeFits -/
def Tryd.A_law06_typeFits : Ann := .s (.r (.op 0 .l (.op 1 .p (.nil)))) (.s (.s (.r (.op 0 .p (.op 1 .p (.op 2 .p (.grp 8 false [(3, .p), (4, .q), (5, .p), (6, .p)] [12] (.op 7 .p (.nil))))))) (.c (.s (.r (.op 0 .p (.nil))) (.n)) (.n))) (.s (.s (.r (.op 0 .p (.nil))) (.b (.lp [5] (.s (.s (.r (.op 0 .p (.op 1 .p (.op 2 .q (.op 3 .p (.op 4 .p (.nil))))))) (.c (.n) (.n))) (.s (.b (.s (.r (.op 0 .p (.op 1 .q (.op 2 .p (.op 3 .p (.op 4 .q (.op 5 .p (.op 6 .p (.op 7 .p (.op 8 .p (.op 9 .p (.op 10 .p (.op 11 .p (.op 12 .l (.op 13 .p (.nil)))))))))))))))) (.c (.s (.r (.op 0 .p (.nil))) (.n)) (.n)))) (.r (.op 0 .p (.op 1 .p (.op 2 .p (.nil)))))))))) (.s (.r (.op 0 .p (.nil))) (.n))))
def Tryd.F_law06_typeFits (t0 : Value) (t1 : Value) (w : World) (K : Value → World → Prop) : Prop :=
 opW Tryd.prog w (Instr.box 25 t0) fun t2 w1 =>
 opP Tryd.prog (bsem .eql 3 true t1 (Value.int .i64 0)) fun t7 =>
 sJoin (fun K2 => gIf t7 false (opP Tryd.prog (Instr.fieldAt 25 t2 4) fun t9 =>
 opQ Tryd.prog w1 (Instr.loadAt 23 t9) fun t10 =>
 opP Tryd.prog (Builtin.len_ #[23] 3 #[t10]) fun t11 =>
 opP Tryd.prog (bsem .gtr 3 true t11 (Value.int .i64 3)) fun t12 =>
 K2 [t12] w1) (K2 [undef] w1)) (fun s3 _d4 w5 =>
 oPick t7 (Value.bool true) (s3.getD 0 undef) fun t13 =>
 oCond t13 (K (Value.bool false) w5) (sLoop [(Value.int .i64 0)] w5 (fun s7 _d8 w9 K6 =>
 opP Tryd.prog (Instr.fieldAt 25 t2 4) fun t15 =>
 opQ Tryd.prog w9 (Instr.loadAt 23 t15) fun t16 =>
 opP Tryd.prog (Builtin.len_ #[23] 3 #[t16]) fun t17 =>
 opP Tryd.prog (bsem .lss 3 false (s7.getD 0 undef) t17) fun t18 =>
 oCond t18 (opP Tryd.prog (Instr.fieldAt 25 t2 4) fun t21 =>
 opQ Tryd.prog w9 (Instr.loadAt 23 t21) fun t22 =>
 opP Tryd.prog (Instr.indexAt 23 t22 (s7.getD 0 undef)) fun t24 =>
 opQ Tryd.prog w9 (Instr.loadAt 25 t24) fun t25 =>
 opP Tryd.prog (bsem .sub 3 true t1 (Value.int .i64 1)) fun t27 =>
 opP Tryd.prog (Builtin.min_ #[3, 3] 3 #[(s7.getD 0 undef), (Value.int .i64 1)]) fun t29 =>
 opP Tryd.prog (bsem .mul 3 true (Value.int .i64 57) t29) fun t30 =>
 opP Tryd.prog (bsem .sub 3 true (Value.int .i64 60) t30) fun t31 =>
 opP Tryd.prog (Builtin.min_ #[3, 3] 3 #[t27, t31]) fun t32 =>
 oCall Tryd.prog Tryd.n_law06_typeFits #[t25, t32] w9 fun t33 w10 =>
 opP Tryd.prog (Op.unary .not t33) fun t34 =>
 oCond t34 (K (Value.bool false) w10) (opP Tryd.prog (bsem .add 3 true (s7.getD 0 undef) (Value.int .i64 1)) fun t20 =>
 K6 [t20] w10)) (K (Value.bool true) w9))))
theorem Tryd.E_law06_typeFits (t0 t1 : Value) (w : World) (K : Value → World → Prop) : sw ⟨false, false⟩ Tryd.prog (fun _ _ => False) Tryd.A_law06_typeFits (bodyOf Tryd.f10) [t0, t1, undef, undef, undef, undef, undef, undef, undef, undef, undef, undef, undef, undef, undef, undef, undef, undef, undef, undef, undef, undef, undef, undef, undef, undef, undef, undef, undef, undef, undef, undef, undef, undef, undef] w (topQ false Tryd.prog Tryd.f10 w K) = Tryd.F_law06_typeFits t0 t1 w K := by kernel_rfl
theorem Tryd.C_law06_typeFits : chk ⟨false, false⟩ Tryd.prog false Tryd.A_law06_typeFits (bodyOf Tryd.f10) = true := by kernel_rfl
theorem Tryd.ok_law06_typeFits {t0 t1 : Value} {w : World} {K : Value → World → Prop} (h : Tryd.F_law06_typeFits t0 t1 w K) : oCall Tryd.prog Tryd.n_law06_typeFits #[t0, t1] w K :=
  calls_of_sw (cf := ⟨false, false⟩) Tryd.mixed Tryd.func10 rfl Tryd.C_law06_typeFits ((Tryd.E_law06_typeFits t0 t1 w K).mpr h)

/- 11: loanword/loanwordlaw06.awake -/
def Tryd.A_law06_awake : Ann := .s (.r (.op 0 .p (.nil))) (.s (.r (.op 0 .l (.op 1 .l (.op 2 .l (.op 3 .l (.op 4 .l (.nil))))))) (.s (.r (.op 0 .q (.op 1 .u (.op 2 .u (.op 3 .u (.op 4 .l (.op 5 .p (.op 6 .p (.op 7 .p (.op 8 .p (.op 9 .p (.nil)))))))))))) (.s (.r (.op 0 .q (.op 1 .l (.op 2 .p (.op 3 .p (.op 4 .p (.op 5 .p (.op 6 .p (.nil))))))))) (.s (.r (.op 0 .l (.op 1 .p (.op 2 .p (.op 3 .p (.op 4 .p (.op 5 .l (.op 6 .l (.op 7 .p (.op 8 .p (.nil))))))))))) (.s (.r (.op 0 .q (.op 1 .l (.op 2 .p (.op 3 .p (.op 4 .p (.op 5 .p (.op 6 .p (.nil))))))))) (.s (.r (.op 0 .p (.op 1 .p (.op 2 .p (.grp 39 true [(3, .p), (4, .p), (5, .p)] [42] (.op 6 .p (.op 7 .p (.grp 44 true [(8, .p), (9, .p), (10, .q), (11, .p), (12, .q)] [49] (.op 13 .p (.op 14 .p (.grp 51 true [(15, .p), (16, .p)] [53] (.op 17 .p (.op 18 .p (.grp 55 true [(19, .p), (20, .p)] [57] (.op 21 .p (.op 22 .p (.grp 59 true [(23, .p), (24, .p)] [61] (.op 25 .p (.op 26 .p (.grp 63 true [(27, .p), (28, .p)] [65] (.op 29 .p (.op 30 .p (.grp 67 true [(31, .q), (32, .q), (33, .l)] [70] (.op 34 .p (.op 35 .p (.grp 72 true [(36, .p), (37, .p)] [74] (.op 38 .p (.op 39 .p (.grp 76 true [(40, .p), (41, .p)] [78] (.op 42 .p (.op 43 .p (.grp 80 true [(44, .q), (45, .l)] [82] (.op 46 .p (.op 47 .p (.grp 84 true [(48, .q), (49, .l), (50, .p)] [87] (.op 51 .p (.op 52 .p (.nil)))))))))))))))))))))))))))))))))))))) (.n)))))))
def Tryd.F_law06_awake (w : World) (K : Value → World → Prop) : Prop :=
 oCall Tryd.prog Tryd.n_law06_i64 #[] w fun t11 w1 =>
 oCall Tryd.prog Tryd.n_law06_ref #[(Value.bool false), (Value.int .i64 1), t11] w1 fun t12 w2 =>
 oCall Tryd.prog Tryd.n_law06_ref #[(Value.bool true), (Value.int .i64 0), t12] w2 fun t13 w3 =>
 opW Tryd.prog w3 (Instr.alloc 25 true (.tuple #[])) fun t1 w4 =>
 opU Tryd.prog w4 (Instr.storeAt 25 t1 t13) fun w5 =>
 opQ Tryd.prog w5.drew (Instr.loadAt 25 t1) fun t15 =>
 oCall Tryd.prog Tryd.n_law06_i64 #[] w5.drew fun t16 w6 =>
 Ext w5.drew w6 ∧
 oCall Tryd.prog Tryd.n_law06_ref #[(Value.bool false), (Value.int .i64 3), t16] w6 fun t17 w7 =>
 Ext w6 w7 ∧
 oCall Tryd.prog Tryd.n_law06_ref #[(Value.bool true), (Value.int .i64 2), t17] w7 fun t18 w8 =>
 Ext w7 w8 ∧
 oCall Tryd.prog Tryd.n_types_Asks #[t15, t18] w8 fun t19 w9 =>
 opP Tryd.prog (Instr.extract t19 0) fun t20 =>
 opP Tryd.prog (Instr.extract t19 1) fun t21 =>
 opQ Tryd.prog w9 (Instr.loadAt 25 t1) fun t23 =>
 oCall Tryd.prog Tryd.n_types_Text #[t23] w9 fun t24 w10 =>
 opP Tryd.prog (Instr.extract t24 0) fun t25 =>
 opP Tryd.prog (Instr.extract t24 1) fun t26 =>
 oCall Tryd.prog Tryd.n_types_Read #[(Value.string { data := #[38, 39, 48, 32, 109, 117, 116, 32, 38, 39, 49, 32, 105, 54, 52] })] w10 fun t28 w11 =>
 opP Tryd.prog (Instr.extract t28 0) fun t29 =>
 opP Tryd.prog (Instr.extract t28 1) fun t30 =>
 opP Tryd.prog (Instr.extract t28 2) fun t31 =>
 opW Tryd.prog w11 (Instr.alloc 25 true (.tuple #[])) fun t6 w12 =>
 opU Tryd.prog w12 (Instr.storeAt 25 t6 t29) fun w13 =>
 opQ Tryd.prog w13 (Instr.loadAt 25 t1) fun t33 =>
 oCall Tryd.prog Tryd.n_types_Words #[(Value.slice Option.none 0 0), t33] w13 fun t34 w14 =>
 opP Tryd.prog (Instr.extract t34 0) fun t35 =>
 opP Tryd.prog (Instr.extract t34 1) fun t36 =>
 opP Tryd.prog (bsem .eql 29 true t21 (Value.int .i64 0)) fun t38 =>
 sJoin (fun K15 => gIf t38 true (opP Tryd.prog (Builtin.len_ #[28] 3 #[t20]) fun t41 =>
 opP Tryd.prog (bsem .eql 3 true t41 (Value.int .i64 3)) fun t42 =>
 K15 [t42] w14) (K15 [undef] w14)) (fun s16 _d17 w18 =>
 oPick t38 (s16.getD 0 undef) (Value.bool false) fun t43 =>
 sJoin (fun K19 => gIf t43 true (opP Tryd.prog (Instr.indexAt 28 t20 (Value.int .i64 2)) fun t46 =>
 opQ Tryd.prog w18 (Instr.loadAt 35 t46) fun t47 =>
 opP Tryd.prog (Instr.build 35 #[(0, (Value.int .i64 3)), (1, (Value.int .i64 1))]) fun t48 =>
 opQ Tryd.prog w18 (bsem .eql 35 false t47 t48) fun t49 =>
 K19 [t49] w18) (K19 [undef] w18)) (fun s20 _d21 w22 =>
 oPick t43 (s20.getD 0 undef) (Value.bool false) fun t50 =>
 sJoin (fun K23 => gIf t50 true (opP Tryd.prog (bsem .eql 29 true t26 (Value.int .i64 0)) fun t53 =>
 K23 [t53] w22) (K23 [undef] w22)) (fun s24 _d25 w26 =>
 oPick t50 (s24.getD 0 undef) (Value.bool false) fun t54 =>
 sJoin (fun K27 => gIf t54 true (opP Tryd.prog (bsem .eql 9 true t25 (Value.string { data := #[38, 39, 48, 32, 109, 117, 116, 32, 38, 39, 49, 32, 105, 54, 52] })) fun t57 =>
 K27 [t57] w26) (K27 [undef] w26)) (fun s28 _d29 w30 =>
 oPick t54 (s28.getD 0 undef) (Value.bool false) fun t58 =>
 sJoin (fun K31 => gIf t58 true (opP Tryd.prog (bsem .eql 29 true t31 (Value.int .i64 0)) fun t61 =>
 K31 [t61] w30) (K31 [undef] w30)) (fun s32 _d33 w34 =>
 oPick t58 (s32.getD 0 undef) (Value.bool false) fun t62 =>
 sJoin (fun K35 => gIf t62 true (opP Tryd.prog (bsem .eql 3 true t30 (Value.int .i64 0)) fun t65 =>
 K35 [t65] w34) (K35 [undef] w34)) (fun s36 _d37 w38 =>
 oPick t62 (s36.getD 0 undef) (Value.bool false) fun t66 =>
 sJoin (fun K39 => gIf t66 true (opQ Tryd.prog w38 (Instr.loadAt 25 t6) fun t68 =>
 opQ Tryd.prog w38 (Instr.loadAt 25 t1) fun t69 =>
 oCall Tryd.prog Tryd.n_types_Same #[t68, t69] w38 fun t70 w43 =>
 K39 [t70] w43) (K39 [undef] w38)) (fun s40 _d41 w42 =>
 oPick t66 (s40.getD 0 undef) (Value.bool false) fun t71 =>
 sJoin (fun K44 => gIf t71 true (opP Tryd.prog (bsem .eql 3 true t35 (Value.int .i64 1)) fun t74 =>
 K44 [t74] w42) (K44 [undef] w42)) (fun s45 _d46 w47 =>
 oPick t71 (s45.getD 0 undef) (Value.bool false) fun t75 =>
 sJoin (fun K48 => gIf t75 true (opP Tryd.prog (bsem .eql 29 true t36 (Value.int .i64 0)) fun t78 =>
 K48 [t78] w47) (K48 [undef] w47)) (fun s49 _d50 w51 =>
 oPick t75 (s49.getD 0 undef) (Value.bool false) fun t79 =>
 sJoin (fun K52 => gIf t79 true (opQ Tryd.prog w51 (Instr.loadAt 25 t1) fun t81 =>
 oCall Tryd.prog Tryd.n_types_May #[(Value.slice Option.none 0 0), t81] w51 fun t82 w56 =>
 K52 [t82] w56) (K52 [undef] w51)) (fun s53 _d54 w55 =>
 oPick t79 (s53.getD 0 undef) (Value.bool false) fun t83 =>
 sJoin (fun K57 => gIf t83 true (opQ Tryd.prog w55 (Instr.loadAt 25 t1) fun t85 =>
 oCall Tryd.prog Tryd.n_types_Copies #[t85] w55 fun t86 w61 =>
 opP Tryd.prog (Op.unary .not t86) fun t87 =>
 K57 [t87] w61) (K57 [undef] w55)) (fun s58 _d59 w60 =>
 oPick t83 (s58.getD 0 undef) (Value.bool false) fun t88 =>
 K t88 w60)))))))))))
theorem Tryd.E_law06_awake (w : World) (K : Value → World → Prop) : sw ⟨false, false⟩ Tryd.prog (fun _ _ => False) Tryd.A_law06_awake (bodyOf Tryd.f11) [undef, undef, undef, undef, undef, undef, undef, undef, undef, undef, undef, undef, undef, undef, undef, undef, undef, undef, undef, undef, undef, undef, undef, undef, undef, undef, undef, undef, undef, undef, undef, undef, undef, undef, undef, undef, undef, undef, undef, undef, undef, undef, undef, undef, undef, undef, undef, undef, undef, undef, undef, undef, undef, undef, undef, undef, undef, undef, undef, undef, undef, undef, undef, undef, undef, undef, undef, undef, undef, undef, undef, undef, undef, undef, undef, undef, undef, undef, undef, undef, undef, undef, undef, undef, undef, undef, undef, undef, undef] w (topQ false Tryd.prog Tryd.f11 w K) = Tryd.F_law06_awake  w K := by kernel_rfl
theorem Tryd.C_law06_awake : chk ⟨false, false⟩ Tryd.prog false Tryd.A_law06_awake (bodyOf Tryd.f11) = true := by kernel_rfl
theorem Tryd.ok_law06_awake {w : World} {K : Value → World → Prop} (h : Tryd.F_law06_awake  w K) : oCall Tryd.prog Tryd.n_law06_awake #[] w K :=
  calls_of_sw (cf := ⟨false, false⟩) Tryd.mixed Tryd.func11 rfl Tryd.C_law06_awake ((Tryd.E_law06_awake  w K).mpr h)

/- 18: loanword/loanwordlaw06.equal -/
def Tryd.A_law06_equal : Ann := .s (.r (.op 0 .l (.op 1 .l (.op 2 .p (.nil))))) (.s (.s (.r (.op 0 .p (.op 1 .q (.op 2 .p (.op 3 .q (.op 4 .p (.op 5 .p (.grp 11 false [(6, .p), (7, .q), (8, .p), (9, .q), (10, .p)] [16] (.op 11 .p (.op 12 .p (.grp 18 false [(13, .p), (14, .q), (15, .p), (16, .q), (17, .p)] [23] (.op 18 .p (.op 19 .p (.grp 25 false [(20, .p), (21, .q), (22, .p), (23, .q), (24, .p)] [30] (.op 25 .p (.op 26 .p (.grp 32 false [(27, .p), (28, .q), (29, .p), (30, .p), (31, .q), (32, .p), (33, .p)] [39] (.op 34 .p (.nil))))))))))))))))))) (.c (.s (.r (.op 0 .p (.nil))) (.n)) (.n))) (.s (.s (.r (.op 0 .p (.nil))) (.b (.lp [5] (.s (.s (.r (.op 0 .p (.op 1 .p (.op 2 .q (.op 3 .p (.op 4 .p (.nil))))))) (.c (.n) (.n))) (.s (.b (.s (.r (.op 0 .p (.op 1 .q (.op 2 .p (.op 3 .p (.op 4 .q (.op 5 .p (.op 6 .q (.op 7 .p (.op 8 .p (.op 9 .q (.op 10 .l (.op 11 .p (.nil)))))))))))))) (.c (.s (.r (.op 0 .p (.nil))) (.n)) (.n)))) (.r (.op 0 .p (.op 1 .p (.op 2 .p (.nil)))))))))) (.s (.r (.op 0 .p (.nil))) (.n))))
def Tryd.F_law06_equal (t0 : Value) (t1 : Value) (w : World) (K : Value → World → Prop) : Prop :=
 opW Tryd.prog w (Instr.box 25 t0) fun t2 w1 =>
 opW Tryd.prog w1 (Instr.box 25 t1) fun t3 w2 =>
 opP Tryd.prog (Instr.fieldAt 25 t2 0) fun t6 =>
 opQ Tryd.prog w2 (Instr.loadAt 22 t6) fun t7 =>
 opP Tryd.prog (Instr.fieldAt 25 t3 0) fun t8 =>
 opQ Tryd.prog w2 (Instr.loadAt 22 t8) fun t9 =>
 opP Tryd.prog (bsem .neq 22 false t7 t9) fun t10 =>
 sJoin (fun K3 => gIf t10 false (opP Tryd.prog (Instr.fieldAt 25 t2 1) fun t12 =>
 opQ Tryd.prog w2 (Instr.loadAt 4 t12) fun t13 =>
 opP Tryd.prog (Instr.fieldAt 25 t3 1) fun t14 =>
 opQ Tryd.prog w2 (Instr.loadAt 4 t14) fun t15 =>
 opP Tryd.prog (bsem .neq 4 false t13 t15) fun t16 =>
 K3 [t16] w2) (K3 [undef] w2)) (fun s4 _d5 w6 =>
 oPick t10 (Value.bool true) (s4.getD 0 undef) fun t17 =>
 sJoin (fun K7 => gIf t17 false (opP Tryd.prog (Instr.fieldAt 25 t2 2) fun t19 =>
 opQ Tryd.prog w6 (Instr.loadAt 3 t19) fun t20 =>
 opP Tryd.prog (Instr.fieldAt 25 t3 2) fun t21 =>
 opQ Tryd.prog w6 (Instr.loadAt 3 t21) fun t22 =>
 opP Tryd.prog (bsem .neq 3 false t20 t22) fun t23 =>
 K7 [t23] w6) (K7 [undef] w6)) (fun s8 _d9 w10 =>
 oPick t17 (Value.bool true) (s8.getD 0 undef) fun t24 =>
 sJoin (fun K11 => gIf t24 false (opP Tryd.prog (Instr.fieldAt 25 t2 3) fun t26 =>
 opQ Tryd.prog w10 (Instr.loadAt 3 t26) fun t27 =>
 opP Tryd.prog (Instr.fieldAt 25 t3 3) fun t28 =>
 opQ Tryd.prog w10 (Instr.loadAt 3 t28) fun t29 =>
 opP Tryd.prog (bsem .neq 3 false t27 t29) fun t30 =>
 K11 [t30] w10) (K11 [undef] w10)) (fun s12 _d13 w14 =>
 oPick t24 (Value.bool true) (s12.getD 0 undef) fun t31 =>
 sJoin (fun K15 => gIf t31 false (opP Tryd.prog (Instr.fieldAt 25 t2 4) fun t33 =>
 opQ Tryd.prog w14 (Instr.loadAt 23 t33) fun t34 =>
 opP Tryd.prog (Builtin.len_ #[23] 3 #[t34]) fun t35 =>
 opP Tryd.prog (Instr.fieldAt 25 t3 4) fun t36 =>
 opQ Tryd.prog w14 (Instr.loadAt 23 t36) fun t37 =>
 opP Tryd.prog (Builtin.len_ #[23] 3 #[t37]) fun t38 =>
 opP Tryd.prog (bsem .neq 3 false t35 t38) fun t39 =>
 K15 [t39] w14) (K15 [undef] w14)) (fun s16 _d17 w18 =>
 oPick t31 (Value.bool true) (s16.getD 0 undef) fun t40 =>
 oCond t40 (K (Value.bool false) w18) (sLoop [(Value.int .i64 0)] w18 (fun s20 _d21 w22 K19 =>
 opP Tryd.prog (Instr.fieldAt 25 t2 4) fun t42 =>
 opQ Tryd.prog w22 (Instr.loadAt 23 t42) fun t43 =>
 opP Tryd.prog (Builtin.len_ #[23] 3 #[t43]) fun t44 =>
 opP Tryd.prog (bsem .lss 3 false (s20.getD 0 undef) t44) fun t45 =>
 oCond t45 (opP Tryd.prog (Instr.fieldAt 25 t2 4) fun t48 =>
 opQ Tryd.prog w22.drew (Instr.loadAt 23 t48) fun t49 =>
 opP Tryd.prog (Instr.indexAt 23 t49 (s20.getD 0 undef)) fun t51 =>
 opQ Tryd.prog w22.drew (Instr.loadAt 25 t51) fun t52 =>
 opP Tryd.prog (Instr.fieldAt 25 t3 4) fun t53 =>
 opQ Tryd.prog w22.drew (Instr.loadAt 23 t53) fun t54 =>
 opP Tryd.prog (Instr.indexAt 23 t54 (s20.getD 0 undef)) fun t56 =>
 opQ Tryd.prog w22.drew (Instr.loadAt 25 t56) fun t57 =>
 oCall Tryd.prog Tryd.n_law06_equal #[t52, t57] w22.drew fun t58 w23 =>
 opP Tryd.prog (Op.unary .not t58) fun t59 =>
 oCond t59 (K (Value.bool false) w23) (opP Tryd.prog (bsem .add 3 true (s20.getD 0 undef) (Value.int .i64 1)) fun t47 =>
 K19 [t47] w23)) (K (Value.bool true) w22)))))))
theorem Tryd.E_law06_equal (t0 t1 : Value) (w : World) (K : Value → World → Prop) : sw ⟨false, false⟩ Tryd.prog (fun _ _ => False) Tryd.A_law06_equal (bodyOf Tryd.f18) [t0, t1, undef, undef, undef, undef, undef, undef, undef, undef, undef, undef, undef, undef, undef, undef, undef, undef, undef, undef, undef, undef, undef, undef, undef, undef, undef, undef, undef, undef, undef, undef, undef, undef, undef, undef, undef, undef, undef, undef, undef, undef, undef, undef, undef, undef, undef, undef, undef, undef, undef, undef, undef, undef, undef, undef, undef, undef, undef, undef] w (topQ false Tryd.prog Tryd.f18 w K) = Tryd.F_law06_equal t0 t1 w K := by kernel_rfl
theorem Tryd.C_law06_equal : chk ⟨false, false⟩ Tryd.prog false Tryd.A_law06_equal (bodyOf Tryd.f18) = true := by kernel_rfl
theorem Tryd.ok_law06_equal {t0 t1 : Value} {w : World} {K : Value → World → Prop} (h : Tryd.F_law06_equal t0 t1 w K) : oCall Tryd.prog Tryd.n_law06_equal #[t0, t1] w K :=
  calls_of_sw (cf := ⟨false, false⟩) Tryd.mixed Tryd.func18 rfl Tryd.C_law06_equal ((Tryd.E_law06_equal t0 t1 w K).mpr h)

/- 19: loanword/loanwordlaw06.spoil -/
def Tryd.A_law06_spoil : Ann := .s (.r (.op 0 .l (.nil))) (.s (.r (.op 0 .p (.nil))) (.b (.lp [2] (.s (.s (.r (.op 0 .p (.op 1 .p (.op 2 .q (.op 3 .p (.op 4 .p (.nil))))))) (.c (.n) (.n))) (.s (.b (.s (.r (.op 0 .p (.op 1 .q (.op 2 .p (.op 3 .p (.op 4 .q (.op 5 .l (.nil)))))))) (.r (.op 0 .p (.op 1 .q (.op 2 .p (.op 3 .p (.op 4 .p (.op 5 .l (.nil)))))))))) (.r (.op 0 .p (.op 1 .p (.op 2 .p (.nil))))))))))
def Tryd.F_law06_spoil (t0 : Value) (w : World) (K : Value → World → Prop) : Prop :=
 opW Tryd.prog w (Instr.box 25 t0) fun t1 w1 =>
 sLoop [(Value.int .i64 0)] w1 (fun s3 _d4 w5 K2 =>
 opP Tryd.prog (Instr.fieldAt 25 t1 4) fun t4 =>
 opQ Tryd.prog w5 (Instr.loadAt 23 t4) fun t5 =>
 opP Tryd.prog (Builtin.len_ #[23] 3 #[t5]) fun t6 =>
 opP Tryd.prog (bsem .lss 3 false (s3.getD 0 undef) t6) fun t7 =>
 oCond t7 (opP Tryd.prog (Instr.fieldAt 25 t1 4) fun t10 =>
 opQ Tryd.prog w5 (Instr.loadAt 23 t10) fun t11 =>
 opP Tryd.prog (Instr.indexAt 23 t11 (s3.getD 0 undef)) fun t13 =>
 opQ Tryd.prog w5 (Instr.loadAt 25 t13) fun t14 =>
 oCall Tryd.prog Tryd.n_law06_spoil #[t14] w5 fun _t15 w6 =>
 opP Tryd.prog (Instr.fieldAt 25 t1 4) fun t16 =>
 opQ Tryd.prog w6 (Instr.loadAt 23 t16) fun t17 =>
 opP Tryd.prog (Instr.build 25 #[(0, (Value.int .u8 9))]) fun t19 =>
 opP Tryd.prog (Instr.indexAt 23 t17 (s3.getD 0 undef)) fun t20 =>
 opU Tryd.prog w6 (Instr.storeAt 25 t20 t19) fun w7 =>
 opP Tryd.prog (bsem .add 3 true (s3.getD 0 undef) (Value.int .i64 1)) fun t9 =>
 K2 [t9] w7) (K (.tuple #[]) w5))
theorem Tryd.E_law06_spoil (t0 : Value) (w : World) (K : Value → World → Prop) : sw ⟨false, false⟩ Tryd.prog (fun _ _ => False) Tryd.A_law06_spoil (bodyOf Tryd.f19) [t0, undef, undef, undef, undef, undef, undef, undef, undef, undef, undef, undef, undef, undef, undef, undef, undef, undef, undef, undef, undef] w (topQ false Tryd.prog Tryd.f19 w K) = Tryd.F_law06_spoil t0 w K := by kernel_rfl
theorem Tryd.C_law06_spoil : chk ⟨false, false⟩ Tryd.prog false Tryd.A_law06_spoil (bodyOf Tryd.f19) = true := by kernel_rfl
theorem Tryd.ok_law06_spoil {t0 : Value} {w : World} {K : Value → World → Prop} (h : Tryd.F_law06_spoil t0 w K) : oCall Tryd.prog Tryd.n_law06_spoil #[t0] w K :=
  calls_of_sw (cf := ⟨false, false⟩) Tryd.mixed Tryd.func19 rfl Tryd.C_law06_spoil ((Tryd.E_law06_spoil t0 w K).mpr h)

/- 21: loanword/loanwordlaw06.reach -/
def Tryd.A_law06_reach : Ann := .s (.r (.op 0 .p (.nil))) (.s (.r (.op 0 .p (.nil))) (.s (.r (.op 0 .p (.op 1 .p (.op 2 .l (.op 3 .p (.nil)))))) (.s (.s (.r (.op 0 .p (.nil))) (.b (.lp [3, 4] (.s (.s (.r (.op 0 .p (.op 1 .p (.op 2 .p (.op 3 .p (.nil)))))) (.c (.n) (.n))) (.s (.b (.s (.r (.op 0 .p (.nil))) (.b (.lp [3, 5] (.s (.s (.r (.op 0 .p (.op 1 .p (.op 2 .p (.op 3 .p (.nil)))))) (.c (.n) (.n))) (.j [3] (.b (.s (.r (.op 0 .p (.op 1 .p (.op 2 .p (.op 3 .p (.op 4 .q (.op 5 .p (.op 6 .p (.op 7 .p (.op 8 .p (.op 9 .q (.op 10 .p (.op 11 .u (.op 12 .l (.nil))))))))))))))) (.s (.r (.op 0 .p (.op 1 .p (.op 2 .p (.op 3 .p (.op 4 .q (.op 5 .p (.op 6 .p (.op 7 .p (.op 8 .p (.op 9 .q (.op 10 .p (.op 11 .p (.grp 44 true [(12, .p), (13, .q), (14, .l), (15, .p)] [48] (.op 16 .p (.nil)))))))))))))))) (.c (.r (.op 0 .p (.op 1 .q (.op 2 .l (.op 3 .l (.op 4 .p (.nil))))))) (.n))))) (.r (.op 0 .p (.op 1 .p (.op 2 .p (.nil))))))))))) (.r (.op 0 .p (.op 1 .p (.op 2 .p (.nil)))))))))) (.s (.r (.op 0 .p (.op 1 .p (.nil)))) (.n)))))
def Tryd.F_law06_reach (t0 : Value) (w : World) (K : Value → World → Prop) : Prop :=
 opW Tryd.prog w (Builtin.append_ #[28, 28] 28 #[(Value.slice Option.none 0 0), t0]) fun t9 w1 =>
 sLoop [t9, (Value.int .i64 0)] w1 (fun s3 _d4 w5 K2 =>
 opP Tryd.prog (Builtin.len_ #[28] 3 #[(s3.getD 0 undef)]) fun t12 =>
 opP Tryd.prog (bsem .lss 3 false (s3.getD 1 undef) t12) fun t13 =>
 oCond t13 (sLoop [(s3.getD 0 undef), (Value.int .i64 0)] w5 (fun s7 _d8 w9 K6 =>
 opP Tryd.prog (Builtin.len_ #[28] 3 #[t0]) fun t18 =>
 opP Tryd.prog (bsem .lss 3 false (s7.getD 1 undef) t18) fun t19 =>
 oCond t19 (sJoin (fun K10 =>
 opP Tryd.prog (Instr.indexAt 28 (s7.getD 0 undef) (s3.getD 1 undef)) fun t24 =>
 opP Tryd.prog (Instr.fieldAt 35 t24 0) fun t25 =>
 opQ Tryd.prog w9.drew (Instr.loadAt 3 t25) fun t26 =>
 opP Tryd.prog (Instr.indexAt 28 t0 (s7.getD 1 undef)) fun t29 =>
 opP Tryd.prog (Instr.fieldAt 35 t29 1) fun t30 =>
 opQ Tryd.prog w9.drew (Instr.loadAt 3 t30) fun t31 =>
 opP Tryd.prog (Instr.build 35 #[(0, t26), (1, t31)]) fun t32 =>
 opW Tryd.prog w9.drew (Instr.alloc 35 true (.tuple #[])) fun t6 w14 =>
 Ext w9.drew w14 ∧
 opU Tryd.prog w14 (Instr.storeAt 35 t6 t32) fun w15 =>
 opP Tryd.prog (Instr.indexAt 28 t0 (s7.getD 1 undef)) fun t35 =>
 opP Tryd.prog (Instr.fieldAt 35 t35 0) fun t36 =>
 opQ Tryd.prog w15.drew (Instr.loadAt 3 t36) fun t37 =>
 opP Tryd.prog (Instr.indexAt 28 (s7.getD 0 undef) (s3.getD 1 undef)) fun t40 =>
 opP Tryd.prog (Instr.fieldAt 35 t40 1) fun t41 =>
 opQ Tryd.prog w15.drew (Instr.loadAt 3 t41) fun t42 =>
 opP Tryd.prog (bsem .eql 3 false t37 t42) fun t43 =>
 sJoin (fun K16 => gIf t43 true (opQ Tryd.prog w15.drew (Instr.loadAt 35 t6) fun t46 =>
 oCall Tryd.prog Tryd.n_law06_has #[(s7.getD 0 undef), t46] w15.drew fun t47 w20 =>
 opP Tryd.prog (Op.unary .not t47) fun t48 =>
 K16 [t48] w20) (K16 [undef] w15.drew)) (fun s17 _d18 w19 =>
 oPick t43 (s17.getD 0 undef) (Value.bool false) fun t49 =>
 oCond t49 (opQ Tryd.prog w19 (Instr.loadAt 35 t6) fun t51 =>
 opW Tryd.prog w19 (Instr.buildSlice 28 1 #[(0, t51)]) fun t52 w21 =>
 opW Tryd.prog w21 (Builtin.append_ #[28, 28] 28 #[(s7.getD 0 undef), t52]) fun t53 w22 =>
 K10 [t53] w22) (K10 [(s7.getD 0 undef)] w19))) (fun s11 _d12 w13 =>
 opP Tryd.prog (bsem .add 3 true (s7.getD 1 undef) (Value.int .i64 1)) fun t21 =>
 K6 [(s11.getD 0 undef), t21] w13)) (opP Tryd.prog (bsem .add 3 true (s3.getD 1 undef) (Value.int .i64 1)) fun t15 =>
 K2 [(s7.getD 0 undef), t15] w9))) (K (s3.getD 0 undef) w5))
theorem Tryd.E_law06_reach (t0 : Value) (w : World) (K : Value → World → Prop) : sw ⟨false, false⟩ Tryd.prog (fun _ _ => False) Tryd.A_law06_reach (bodyOf Tryd.f21) [t0, undef, undef, undef, undef, undef, undef, undef, undef, undef, undef, undef, undef, undef, undef, undef, undef, undef, undef, undef, undef, undef, undef, undef, undef, undef, undef, undef, undef, undef, undef, undef, undef, undef, undef, undef, undef, undef, undef, undef, undef, undef, undef, undef, undef, undef, undef, undef, undef, undef, undef, undef, undef, undef, undef] w (topQ false Tryd.prog Tryd.f21 w K) = Tryd.F_law06_reach t0 w K := by kernel_rfl
theorem Tryd.C_law06_reach : chk ⟨false, false⟩ Tryd.prog false Tryd.A_law06_reach (bodyOf Tryd.f21) = true := by kernel_rfl
theorem Tryd.ok_law06_reach {t0 : Value} {w : World} {K : Value → World → Prop} (h : Tryd.F_law06_reach t0 w K) : oCall Tryd.prog Tryd.n_law06_reach #[t0] w K :=
  calls_of_sw (cf := ⟨false, false⟩) Tryd.mixed Tryd.func21 rfl Tryd.C_law06_reach ((Tryd.E_law06_reach t0 w K).mpr h)

/- 22: loanword/loanwordlaw06.has -/
def Tryd.A_law06_has : Ann := .s (.r (.op 0 .l (.op 1 .p (.nil)))) (.s (.s (.r (.op 0 .p (.nil))) (.b (.lp [5] (.s (.s (.r (.op 0 .p (.op 1 .p (.op 2 .p (.op 3 .p (.nil)))))) (.c (.n) (.n))) (.s (.b (.s (.r (.op 0 .p (.op 1 .p (.op 2 .p (.op 3 .q (.op 4 .q (.op 5 .q (.nil)))))))) (.c (.s (.r (.op 0 .p (.nil))) (.n)) (.n)))) (.r (.op 0 .p (.op 1 .p (.op 2 .p (.nil)))))))))) (.s (.r (.op 0 .p (.nil))) (.n)))
def Tryd.F_law06_has (t0 : Value) (t1 : Value) (w : World) (K : Value → World → Prop) : Prop :=
 opW Tryd.prog w (Instr.box 35 t1) fun t3 w1 =>
 sLoop [(Value.int .i64 0)] w1 (fun s3 _d4 w5 K2 =>
 opP Tryd.prog (Builtin.len_ #[28] 3 #[t0]) fun t8 =>
 opP Tryd.prog (bsem .lss 3 false (s3.getD 0 undef) t8) fun t9 =>
 oCond t9 (opP Tryd.prog (Instr.indexAt 28 t0 (s3.getD 0 undef)) fun t14 =>
 opQ Tryd.prog w5.drew (Instr.loadAt 35 t14) fun t15 =>
 opQ Tryd.prog w5.drew (Instr.loadAt 35 t3) fun t16 =>
 opQ Tryd.prog w5.drew (bsem .eql 35 false t15 t16) fun t17 =>
 oCond t17 (K (Value.bool true) w5.drew) (opP Tryd.prog (bsem .add 3 true (s3.getD 0 undef) (Value.int .i64 1)) fun t11 =>
 K2 [t11] w5.drew)) (K (Value.bool false) w5))
theorem Tryd.E_law06_has (t0 t1 : Value) (w : World) (K : Value → World → Prop) : sw ⟨false, false⟩ Tryd.prog (fun _ _ => False) Tryd.A_law06_has (bodyOf Tryd.f22) [t0, t1, undef, undef, undef, undef, undef, undef, undef, undef, undef, undef, undef, undef, undef, undef, undef, undef] w (topQ false Tryd.prog Tryd.f22 w K) = Tryd.F_law06_has t0 t1 w K := by kernel_rfl
theorem Tryd.C_law06_has : chk ⟨false, false⟩ Tryd.prog false Tryd.A_law06_has (bodyOf Tryd.f22) = true := by kernel_rfl
theorem Tryd.ok_law06_has {t0 t1 : Value} {w : World} {K : Value → World → Prop} (h : Tryd.F_law06_has t0 t1 w K) : oCall Tryd.prog Tryd.n_law06_has #[t0, t1] w K :=
  calls_of_sw (cf := ⟨false, false⟩) Tryd.mixed Tryd.func22 rfl Tryd.C_law06_has ((Tryd.E_law06_has t0 t1 w K).mpr h)

/- 24: loanword/loanwordlaw06.fits -/
def Tryd.A_law06_fits : Ann := .s (.r (.op 0 .p (.nil))) (.s (.s (.r (.op 0 .p (.op 1 .p (.op 2 .p (.nil))))) (.c (.s (.r (.op 0 .p (.nil))) (.n)) (.n))) (.s (.s (.r (.op 0 .p (.nil))) (.b (.lp [3] (.s (.s (.r (.op 0 .p (.op 1 .p (.op 2 .p (.op 3 .p (.nil)))))) (.c (.n) (.n))) (.s (.b (.s (.s (.r (.op 0 .p (.op 1 .p (.op 2 .p (.op 3 .p (.op 4 .q (.op 5 .p (.op 6 .p (.nil))))))))) (.c (.s (.r (.op 0 .p (.nil))) (.n)) (.n))) (.s (.r (.op 0 .p (.nil))) (.b (.lp [4] (.s (.s (.r (.op 0 .p (.op 1 .p (.op 2 .p (.op 3 .p (.op 4 .p (.op 5 .q (.op 6 .p (.op 7 .p (.nil)))))))))) (.c (.n) (.n))) (.s (.b (.s (.r (.op 0 .p (.op 1 .p (.op 2 .p (.op 3 .p (.op 4 .q (.op 5 .p (.op 6 .p (.op 7 .p (.op 8 .q (.op 9 .l (.op 10 .p (.nil))))))))))))) (.c (.s (.r (.op 0 .p (.nil))) (.n)) (.n)))) (.r (.op 0 .p (.op 1 .p (.op 2 .p (.nil)))))))))))) (.r (.op 0 .p (.op 1 .p (.op 2 .p (.nil)))))))))) (.s (.r (.op 0 .p (.nil))) (.n))))
def Tryd.F_law06_fits (t0 : Value) (w : World) (K : Value → World → Prop) : Prop :=
 opP Tryd.prog (Builtin.len_ #[50] 3 #[t0]) fun t6 =>
 opP Tryd.prog (bsem .gtr 3 true t6 (Value.int .i64 100)) fun t7 =>
 oCond t7 (K (Value.bool false) w) (sLoop [(Value.int .i64 0)] w (fun s2 _d3 w4 K1 =>
 opP Tryd.prog (Builtin.len_ #[50] 3 #[t0]) fun t10 =>
 opP Tryd.prog (bsem .lss 3 false (s2.getD 0 undef) t10) fun t11 =>
 oCond t11 (opP Tryd.prog (Instr.indexAt 50 t0 (s2.getD 0 undef)) fun t16 =>
 opP Tryd.prog (Instr.fieldAt 99 t16 1) fun t17 =>
 opQ Tryd.prog w4 (Instr.loadAt 97 t17) fun t18 =>
 opP Tryd.prog (Builtin.len_ #[97] 3 #[t18]) fun t19 =>
 opP Tryd.prog (bsem .gtr 3 true t19 (Value.int .i64 100)) fun t20 =>
 oCond t20 (K (Value.bool false) w4) (sLoop [(Value.int .i64 0)] w4 (fun s6 _d7 w8 K5 =>
 opP Tryd.prog (Instr.indexAt 50 t0 (s2.getD 0 undef)) fun t24 =>
 opP Tryd.prog (Instr.fieldAt 99 t24 1) fun t25 =>
 opQ Tryd.prog w8 (Instr.loadAt 97 t25) fun t26 =>
 opP Tryd.prog (Builtin.len_ #[97] 3 #[t26]) fun t27 =>
 opP Tryd.prog (bsem .lss 3 false (s6.getD 0 undef) t27) fun t28 =>
 oCond t28 (opP Tryd.prog (Instr.indexAt 50 t0 (s2.getD 0 undef)) fun t33 =>
 opP Tryd.prog (Instr.fieldAt 99 t33 1) fun t34 =>
 opQ Tryd.prog w8 (Instr.loadAt 97 t34) fun t35 =>
 opP Tryd.prog (Instr.indexAt 97 t35 (s6.getD 0 undef)) fun t37 =>
 opP Tryd.prog (Instr.fieldAt 101 t37 1) fun t38 =>
 opQ Tryd.prog w8 (Instr.loadAt 25 t38) fun t39 =>
 oCall Tryd.prog Tryd.n_law06_typeFits #[t39, (Value.int .i64 60)] w8 fun t40 w9 =>
 opP Tryd.prog (Op.unary .not t40) fun t41 =>
 oCond t41 (K (Value.bool false) w9) (opP Tryd.prog (bsem .add 3 true (s6.getD 0 undef) (Value.int .i64 1)) fun t30 =>
 K5 [t30] w9)) (opP Tryd.prog (bsem .add 3 true (s2.getD 0 undef) (Value.int .i64 1)) fun t13 =>
 K1 [t13] w8)))) (K (Value.bool true) w4)))
theorem Tryd.E_law06_fits (t0 : Value) (w : World) (K : Value → World → Prop) : sw ⟨false, false⟩ Tryd.prog (fun _ _ => False) Tryd.A_law06_fits (bodyOf Tryd.f24) [t0, undef, undef, undef, undef, undef, undef, undef, undef, undef, undef, undef, undef, undef, undef, undef, undef, undef, undef, undef, undef, undef, undef, undef, undef, undef, undef, undef, undef, undef, undef, undef, undef, undef, undef, undef, undef, undef, undef, undef, undef, undef] w (topQ false Tryd.prog Tryd.f24 w K) = Tryd.F_law06_fits t0 w K := by kernel_rfl
theorem Tryd.C_law06_fits : chk ⟨false, false⟩ Tryd.prog false Tryd.A_law06_fits (bodyOf Tryd.f24) = true := by kernel_rfl
theorem Tryd.ok_law06_fits {t0 : Value} {w : World} {K : Value → World → Prop} (h : Tryd.F_law06_fits t0 w K) : oCall Tryd.prog Tryd.n_law06_fits #[t0] w K :=
  calls_of_sw (cf := ⟨false, false⟩) Tryd.mixed Tryd.func24 rfl Tryd.C_law06_fits ((Tryd.E_law06_fits t0 w K).mpr h)

/- 47: loanword/loanwordlaw06.ref -/
def Tryd.A_law06_ref : Ann := .s (.r (.op 0 .l (.op 1 .l (.nil)))) (.s (.r (.op 0 .p (.op 1 .p (.op 2 .q (.op 3 .l (.op 4 .p (.op 5 .l (.nil)))))))) (.n))
def Tryd.F_law06_ref (t0 : Value) (t1 : Value) (t2 : Value) (w : World) (K : Value → World → Prop) : Prop :=
 opW Tryd.prog w (Instr.box 25 t2) fun t5 w1 =>
 opW Tryd.prog w1 (Instr.alloc 25 true (.tuple #[])) fun t6 w2 =>
 opQ Tryd.prog w2 (Instr.loadAt 25 t5) fun t9 =>
 opW Tryd.prog w2 (Instr.buildSlice 23 1 #[(0, t9)]) fun t10 w3 =>
 opP Tryd.prog (Instr.build 25 #[(0, (Value.int .u8 4)), (1, t0), (2, t1), (4, t10)]) fun t11 =>
 opU Tryd.prog w3 (Instr.storeAt 25 t6 t11) fun w4 =>
 opQ Tryd.prog w4 (cellSem 25 t6) fun r5 =>
 K r5 w4
theorem Tryd.E_law06_ref (t0 t1 t2 : Value) (w : World) (K : Value → World → Prop) : sw ⟨false, false⟩ Tryd.prog (fun _ _ => False) Tryd.A_law06_ref (bodyOf Tryd.f47) [t0, t1, t2, undef, undef, undef, undef, undef, undef, undef, undef, undef] w (topQ false Tryd.prog Tryd.f47 w K) = Tryd.F_law06_ref t0 t1 t2 w K := by kernel_rfl
theorem Tryd.C_law06_ref : chk ⟨false, false⟩ Tryd.prog false Tryd.A_law06_ref (bodyOf Tryd.f47) = true := by kernel_rfl
theorem Tryd.ok_law06_ref {t0 t1 t2 : Value} {w : World} {K : Value → World → Prop} (h : Tryd.F_law06_ref t0 t1 t2 w K) : oCall Tryd.prog Tryd.n_law06_ref #[t0, t1, t2] w K :=
  calls_of_sw (cf := ⟨false, false⟩) Tryd.mixed Tryd.func47 rfl Tryd.C_law06_ref ((Tryd.E_law06_ref t0 t1 t2 w K).mpr h)

/- 48: loanword/loanwordlaw06.i64 -/
def Tryd.A_law06_i64 : Ann := .s (.r (.op 0 .l (.nil))) (.s (.r (.op 0 .p (.op 1 .l (.nil)))) (.n))
def Tryd.F_law06_i64 (w : World) (K : Value → World → Prop) : Prop :=
 opW Tryd.prog w (Instr.alloc 25 true (.tuple #[])) fun t0 w1 =>
 opP Tryd.prog (Instr.build 25 #[(0, (Value.int .u8 1))]) fun t1 =>
 opU Tryd.prog w1 (Instr.storeAt 25 t0 t1) fun w2 =>
 opQ Tryd.prog w2 (cellSem 25 t0) fun r3 =>
 K r3 w2
theorem Tryd.E_law06_i64 (w : World) (K : Value → World → Prop) : sw ⟨false, false⟩ Tryd.prog (fun _ _ => False) Tryd.A_law06_i64 (bodyOf Tryd.f48) [undef, undef] w (topQ false Tryd.prog Tryd.f48 w K) = Tryd.F_law06_i64  w K := by kernel_rfl
theorem Tryd.C_law06_i64 : chk ⟨false, false⟩ Tryd.prog false Tryd.A_law06_i64 (bodyOf Tryd.f48) = true := by kernel_rfl
theorem Tryd.ok_law06_i64 {w : World} {K : Value → World → Prop} (h : Tryd.F_law06_i64  w K) : oCall Tryd.prog Tryd.n_law06_i64 #[] w K :=
  calls_of_sw (cf := ⟨false, false⟩) Tryd.mixed Tryd.func48 rfl Tryd.C_law06_i64 ((Tryd.E_law06_i64  w K).mpr h)

end Go.Proofs
end
