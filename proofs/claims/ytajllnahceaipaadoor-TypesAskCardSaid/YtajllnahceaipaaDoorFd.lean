/-
  Shallow readings of functions. Made by a program (wip/gen/gen.py) out of the translation; the kernel checks each equality.
-/
import Derived.Test.YtajllnahceaipaaDoorTy
namespace Go.Proofs
open Go.Sh
set_option maxRecDepth 100000
/- 72: loanword/loanwordref06.look -/
def Tryd.A_ref06_look : Ann := .s (.r (.op 0 .l (.op 1 .p (.nil)))) (.s (.s (.r (.op 0 .p (.op 1 .p (.nil)))) (.c (.s (.r (.op 0 .p (.nil))) (.n)) (.n))) (.s (.s (.r (.op 0 .p (.op 1 .q (.nil)))) (.b (.j [11] (.s (.r (.op 0 .p (.op 1 .p (.nil)))) (.c (.n) (.r (.op 0 .p (.op 1 .p (.nil)))))) (.c (.s (.r (.op 0 .p (.op 1 .q (.op 2 .p (.op 3 .p (.grp 17 true [(4, .p), (5, .q), (6, .p)] [20] (.op 7 .p (.op 8 .p (.grp 22 true [(9, .p), (10, .q), (11, .p)] [25] (.op 12 .p (.op 13 .p (.grp 27 true [(14, .p), (15, .q), (16, .p), (17, .p)] [31] (.op 18 .p (.op 19 .p (.nil))))))))))))))) (.n)) (.s (.r (.op 0 .p (.op 1 .p (.nil)))) (.c (.s (.r (.op 0 .p (.op 1 .q (.op 2 .p (.op 3 .p (.grp 38 true [(4, .p), (5, .q), (6, .p)] [41] (.op 7 .p (.op 8 .p (.grp 43 true [(9, .p), (10, .q), (11, .p)] [46] (.op 12 .p (.op 13 .p (.grp 48 true [(14, .p), (15, .q), (16, .p), (17, .p)] [52] (.op 18 .p (.op 19 .p (.grp 54 true [(20, .p), (21, .q), (22, .p), (23, .p)] [58] (.op 24 .p (.op 25 .p (.nil)))))))))))))))))) (.n)) (.s (.r (.op 0 .p (.op 1 .p (.nil)))) (.c (.s (.r (.op 0 .p (.op 1 .q (.op 2 .p (.op 3 .p (.grp 65 true [(4, .p), (5, .q), (6, .p)] [68] (.op 7 .p (.op 8 .p (.grp 70 true [(9, .p), (10, .q), (11, .p)] [73] (.op 12 .p (.op 13 .p (.grp 75 true [(14, .p), (15, .q), (16, .p), (17, .p)] [79] (.op 18 .p (.op 19 .p (.grp 81 true [(20, .p), (21, .q), (22, .p), (23, .q), (24, .p), (25, .p), (26, .p), (27, .l)] [89] (.op 28 .p (.op 29 .p (.nil)))))))))))))))))) (.n)) (.s (.r (.op 0 .p (.op 1 .p (.nil)))) (.c (.s (.r (.op 0 .p (.op 1 .q (.op 2 .p (.op 3 .p (.grp 96 true [(4, .p), (5, .q), (6, .p)] [99] (.op 7 .p (.op 8 .p (.grp 101 true [(9, .p), (10, .q), (11, .p), (12, .p)] [105] (.op 13 .p (.op 14 .p (.grp 107 true [(15, .p), (16, .q), (17, .p), (18, .q), (19, .p), (20, .p), (21, .p), (22, .l)] [115] (.op 23 .p (.op 24 .p (.nil))))))))))))))) (.n)) (.n))))))))))) (.s (.r (.op 0 .p (.nil))) (.n))))
def Tryd.F_ref06_look (t0 : Value) (t1 : Value) (t2 : Value) (w : World) (K : Value → World → Prop) : Prop :=
 opW Tryd.prog w (Instr.box 25 t0) fun t3 w1 =>
 opP Tryd.prog (bsem .lss 3 true t2 (Value.int .i64 1)) fun t8 =>
 oCond t8 (K (Value.bool false) w1) (opP Tryd.prog (Instr.fieldAt 25 t3 0) fun t9 =>
 opQ Tryd.prog w1 (Instr.loadAt 22 t9) fun t10 =>
 sJoin (fun K2 =>
 opP Tryd.prog (bsem .eql 22 true t10 (Value.int .u8 1)) fun t12 =>
 oCond t12 (K2 [t12] w1) (opP Tryd.prog (bsem .eql 22 true t10 (Value.int .u8 2)) fun t13 =>
 K2 [t13] w1)) (fun s3 _d4 w5 =>
 oCond (s3.getD 0 undef) (opP Tryd.prog (Instr.fieldAt 25 t3 1) fun t14 =>
 opQ Tryd.prog w5 (Instr.loadAt 4 t14) fun t15 =>
 opP Tryd.prog (Op.unary .not t15) fun t16 =>
 sJoin (fun K6 => gIf t16 true (opP Tryd.prog (Instr.fieldAt 25 t3 2) fun t18 =>
 opQ Tryd.prog w5 (Instr.loadAt 3 t18) fun t19 =>
 opP Tryd.prog (bsem .eql 3 true t19 (Value.int .i64 0)) fun t20 =>
 K6 [t20] w5) (K6 [undef] w5)) (fun s7 _d8 w9 =>
 oPick t16 (s7.getD 0 undef) (Value.bool false) fun t21 =>
 sJoin (fun K10 => gIf t21 true (opP Tryd.prog (Instr.fieldAt 25 t3 3) fun t23 =>
 opQ Tryd.prog w9 (Instr.loadAt 3 t23) fun t24 =>
 opP Tryd.prog (bsem .eql 3 true t24 (Value.int .i64 0)) fun t25 =>
 K10 [t25] w9) (K10 [undef] w9)) (fun s11 _d12 w13 =>
 oPick t21 (s11.getD 0 undef) (Value.bool false) fun t26 =>
 sJoin (fun K14 => gIf t26 true (opP Tryd.prog (Instr.fieldAt 25 t3 4) fun t28 =>
 opQ Tryd.prog w13 (Instr.loadAt 23 t28) fun t29 =>
 opP Tryd.prog (Builtin.len_ #[23] 3 #[t29]) fun t30 =>
 opP Tryd.prog (bsem .eql 3 true t30 (Value.int .i64 0)) fun t31 =>
 K14 [t31] w13) (K14 [undef] w13)) (fun s15 _d16 w17 =>
 oPick t26 (s15.getD 0 undef) (Value.bool false) fun t32 =>
 K t32 w17)))) (opP Tryd.prog (bsem .eql 22 true t10 (Value.int .u8 5)) fun t34 =>
 oCond t34 (opP Tryd.prog (Instr.fieldAt 25 t3 1) fun t35 =>
 opQ Tryd.prog w5 (Instr.loadAt 4 t35) fun t36 =>
 opP Tryd.prog (Op.unary .not t36) fun t37 =>
 sJoin (fun K18 => gIf t37 true (opP Tryd.prog (Instr.fieldAt 25 t3 2) fun t39 =>
 opQ Tryd.prog w5 (Instr.loadAt 3 t39) fun t40 =>
 opP Tryd.prog (bsem .eql 3 true t40 (Value.int .i64 0)) fun t41 =>
 K18 [t41] w5) (K18 [undef] w5)) (fun s19 _d20 w21 =>
 oPick t37 (s19.getD 0 undef) (Value.bool false) fun t42 =>
 sJoin (fun K22 => gIf t42 true (opP Tryd.prog (Instr.fieldAt 25 t3 3) fun t44 =>
 opQ Tryd.prog w21 (Instr.loadAt 3 t44) fun t45 =>
 opP Tryd.prog (bsem .geq 3 true t45 (Value.int .i64 0)) fun t46 =>
 K22 [t46] w21) (K22 [undef] w21)) (fun s23 _d24 w25 =>
 oPick t42 (s23.getD 0 undef) (Value.bool false) fun t47 =>
 sJoin (fun K26 => gIf t47 true (opP Tryd.prog (Instr.fieldAt 25 t3 3) fun t49 =>
 opQ Tryd.prog w25 (Instr.loadAt 3 t49) fun t50 =>
 opP Tryd.prog (bsem .lss 3 false t50 t1) fun t52 =>
 K26 [t52] w25) (K26 [undef] w25)) (fun s27 _d28 w29 =>
 oPick t47 (s27.getD 0 undef) (Value.bool false) fun t53 =>
 sJoin (fun K30 => gIf t53 true (opP Tryd.prog (Instr.fieldAt 25 t3 4) fun t55 =>
 opQ Tryd.prog w29 (Instr.loadAt 23 t55) fun t56 =>
 opP Tryd.prog (Builtin.len_ #[23] 3 #[t56]) fun t57 =>
 opP Tryd.prog (bsem .eql 3 true t57 (Value.int .i64 0)) fun t58 =>
 K30 [t58] w29) (K30 [undef] w29)) (fun s31 _d32 w33 =>
 oPick t53 (s31.getD 0 undef) (Value.bool false) fun t59 =>
 K t59 w33))))) (opP Tryd.prog (bsem .eql 22 true t10 (Value.int .u8 3)) fun t61 =>
 oCond t61 (opP Tryd.prog (Instr.fieldAt 25 t3 1) fun t62 =>
 opQ Tryd.prog w5 (Instr.loadAt 4 t62) fun t63 =>
 opP Tryd.prog (Op.unary .not t63) fun t64 =>
 sJoin (fun K34 => gIf t64 true (opP Tryd.prog (Instr.fieldAt 25 t3 2) fun t66 =>
 opQ Tryd.prog w5 (Instr.loadAt 3 t66) fun t67 =>
 opP Tryd.prog (bsem .eql 3 true t67 (Value.int .i64 0)) fun t68 =>
 K34 [t68] w5) (K34 [undef] w5)) (fun s35 _d36 w37 =>
 oPick t64 (s35.getD 0 undef) (Value.bool false) fun t69 =>
 sJoin (fun K38 => gIf t69 true (opP Tryd.prog (Instr.fieldAt 25 t3 3) fun t71 =>
 opQ Tryd.prog w37 (Instr.loadAt 3 t71) fun t72 =>
 opP Tryd.prog (bsem .eql 3 true t72 (Value.int .i64 0)) fun t73 =>
 K38 [t73] w37) (K38 [undef] w37)) (fun s39 _d40 w41 =>
 oPick t69 (s39.getD 0 undef) (Value.bool false) fun t74 =>
 sJoin (fun K42 => gIf t74 true (opP Tryd.prog (Instr.fieldAt 25 t3 4) fun t76 =>
 opQ Tryd.prog w41 (Instr.loadAt 23 t76) fun t77 =>
 opP Tryd.prog (Builtin.len_ #[23] 3 #[t77]) fun t78 =>
 opP Tryd.prog (bsem .eql 3 true t78 (Value.int .i64 1)) fun t79 =>
 K42 [t79] w41) (K42 [undef] w41)) (fun s43 _d44 w45 =>
 oPick t74 (s43.getD 0 undef) (Value.bool false) fun t80 =>
 sJoin (fun K46 => gIf t80 true (opP Tryd.prog (Instr.fieldAt 25 t3 4) fun t82 =>
 opQ Tryd.prog w45 (Instr.loadAt 23 t82) fun t83 =>
 opP Tryd.prog (Instr.indexAt 23 t83 (Value.int .i64 0)) fun t84 =>
 opQ Tryd.prog w45 (Instr.loadAt 25 t84) fun t85 =>
 opP Tryd.prog (bsem .sub 3 true t2 (Value.int .i64 1)) fun t88 =>
 oCall Tryd.prog Tryd.n_ref06_look #[t85, t1, t88] w45 fun t89 w50 =>
 K46 [t89] w50) (K46 [undef] w45)) (fun s47 _d48 w49 =>
 oPick t80 (s47.getD 0 undef) (Value.bool false) fun t90 =>
 K t90 w49))))) (opP Tryd.prog (bsem .eql 22 true t10 (Value.int .u8 4)) fun t92 =>
 oCond t92 (opP Tryd.prog (Instr.fieldAt 25 t3 2) fun t93 =>
 opQ Tryd.prog w5 (Instr.loadAt 3 t93) fun t94 =>
 opP Tryd.prog (bsem .geq 3 true t94 (Value.int .i64 (-1))) fun t95 =>
 sJoin (fun K51 => gIf t95 true (opP Tryd.prog (Instr.fieldAt 25 t3 3) fun t97 =>
 opQ Tryd.prog w5 (Instr.loadAt 3 t97) fun t98 =>
 opP Tryd.prog (bsem .eql 3 true t98 (Value.int .i64 0)) fun t99 =>
 K51 [t99] w5) (K51 [undef] w5)) (fun s52 _d53 w54 =>
 oPick t95 (s52.getD 0 undef) (Value.bool false) fun t100 =>
 sJoin (fun K55 => gIf t100 true (opP Tryd.prog (Instr.fieldAt 25 t3 4) fun t102 =>
 opQ Tryd.prog w54 (Instr.loadAt 23 t102) fun t103 =>
 opP Tryd.prog (Builtin.len_ #[23] 3 #[t103]) fun t104 =>
 opP Tryd.prog (bsem .eql 3 true t104 (Value.int .i64 1)) fun t105 =>
 K55 [t105] w54) (K55 [undef] w54)) (fun s56 _d57 w58 =>
 oPick t100 (s56.getD 0 undef) (Value.bool false) fun t106 =>
 sJoin (fun K59 => gIf t106 true (opP Tryd.prog (Instr.fieldAt 25 t3 4) fun t108 =>
 opQ Tryd.prog w58 (Instr.loadAt 23 t108) fun t109 =>
 opP Tryd.prog (Instr.indexAt 23 t109 (Value.int .i64 0)) fun t110 =>
 opQ Tryd.prog w58 (Instr.loadAt 25 t110) fun t111 =>
 opP Tryd.prog (bsem .sub 3 true t2 (Value.int .i64 1)) fun t114 =>
 oCall Tryd.prog Tryd.n_ref06_look #[t111, t1, t114] w58 fun t115 w63 =>
 K59 [t115] w63) (K59 [undef] w58)) (fun s60 _d61 w62 =>
 oPick t106 (s60.getD 0 undef) (Value.bool false) fun t116 =>
 K t116 w62)))) (K (Value.bool false) w5))))))
theorem Tryd.E_ref06_look (t0 t1 t2 : Value) (w : World) (K : Value → World → Prop) : sw ⟨false, false⟩ Tryd.prog (fun _ _ => False) Tryd.A_ref06_look (bodyOf Tryd.f72) [t0, t1, t2, undef, undef, undef, undef, undef, undef, undef, undef, undef, undef, undef, undef, undef, undef, undef, undef, undef, undef, undef, undef, undef, undef, undef, undef, undef, undef, undef, undef, undef, undef, undef, undef, undef, undef, undef, undef, undef, undef, undef, undef, undef, undef, undef, undef, undef, undef, undef, undef, undef, undef, undef, undef, undef, undef, undef, undef, undef, undef, undef, undef, undef, undef, undef, undef, undef, undef, undef, undef, undef, undef, undef, undef, undef, undef, undef, undef, undef, undef, undef, undef, undef, undef, undef, undef, undef, undef, undef, undef, undef, undef, undef, undef, undef, undef, undef, undef, undef, undef, undef, undef, undef, undef, undef, undef, undef, undef, undef, undef, undef, undef, undef, undef, undef, undef] w (topQ false Tryd.prog Tryd.f72 w K) = Tryd.F_ref06_look t0 t1 t2 w K := by kernel_rfl
theorem Tryd.C_ref06_look : chk ⟨false, false⟩ Tryd.prog false Tryd.A_ref06_look (bodyOf Tryd.f72) = true := by kernel_rfl
theorem Tryd.ok_ref06_look {t0 t1 t2 : Value} {w : World} {K : Value → World → Prop} (h : Tryd.F_ref06_look t0 t1 t2 w K) : oCall Tryd.prog Tryd.n_ref06_look #[t0, t1, t2] w K :=
  calls_of_sw (cf := ⟨false, false⟩) Tryd.mixed Tryd.func72 rfl Tryd.C_ref06_look ((Tryd.E_ref06_look t0 t1 t2 w K).mpr h)

/- 38: loanword/loanwordref06.Is -/
def Tryd.A_ref06_Is : Ann := .s (.r (.op 0 .l (.op 1 .p (.nil)))) (.s (.r (.op 0 .q (.op 1 .l (.op 2 .p (.nil))))) (.n))
def Tryd.F_ref06_Is (t0 : Value) (w : World) (K : Value → World → Prop) : Prop :=
 opW Tryd.prog w (Instr.box 25 t0) fun t1 w1 =>
 opQ Tryd.prog w1 (Instr.loadAt 25 t1) fun t3 =>
 oCall Tryd.prog Tryd.n_ref06_look #[t3, (Value.int .i64 32), (Value.int .i64 48)] w1 fun t4 w2 =>
 K t4 w2
theorem Tryd.E_ref06_Is (t0 : Value) (w : World) (K : Value → World → Prop) : sw ⟨false, false⟩ Tryd.prog (fun _ _ => False) Tryd.A_ref06_Is (bodyOf Tryd.f38) [t0, undef, undef, undef, undef] w (topQ false Tryd.prog Tryd.f38 w K) = Tryd.F_ref06_Is t0 w K := by kernel_rfl
theorem Tryd.C_ref06_Is : chk ⟨false, false⟩ Tryd.prog false Tryd.A_ref06_Is (bodyOf Tryd.f38) = true := by kernel_rfl
theorem Tryd.ok_ref06_Is {t0 : Value} {w : World} {K : Value → World → Prop} (h : Tryd.F_ref06_Is t0 w K) : oCall Tryd.prog Tryd.n_ref06_Is #[t0] w K :=
  calls_of_sw (cf := ⟨false, false⟩) Tryd.mixed Tryd.func38 rfl Tryd.C_ref06_Is ((Tryd.E_ref06_Is t0 w K).mpr h)

/- 73: loanword/loanwordref06.plain -/
def Tryd.A_ref06_plain : Ann := .s (.r (.op 0 .l (.op 1 .p (.nil)))) (.s (.r (.op 0 .p (.op 1 .q (.op 2 .p (.op 3 .p (.grp 6 true [(4, .p), (5, .q), (6, .p), (7, .p)] [10] (.grp 10 false [(8, .p), (9, .q), (10, .p), (11, .q), (12, .l)] [15] (.grp 6 true [(13, .p)] [16] (.op 14 .p (.op 15 .p (.nil))))))))))) (.n))
def Tryd.F_ref06_plain (t0 : Value) (w : World) (K : Value → World → Prop) : Prop :=
 opW Tryd.prog w (Instr.box 25 t0) fun t1 w1 =>
 opP Tryd.prog (Instr.fieldAt 25 t1 0) fun t3 =>
 opQ Tryd.prog w1 (Instr.loadAt 22 t3) fun t4 =>
 opP Tryd.prog (bsem .neq 22 true t4 (Value.int .u8 4)) fun t5 =>
 sJoin (fun K2 => gIf t5 true (opP Tryd.prog (Instr.fieldAt 25 t1 0) fun t7 =>
 opQ Tryd.prog w1 (Instr.loadAt 22 t7) fun t8 =>
 opP Tryd.prog (bsem .neq 22 true t8 (Value.int .u8 3)) fun t9 =>
 K2 [t9] w1) (K2 [undef] w1)) (fun s3 _d4 w5 =>
 sJoin (fun K6 => gIf (s3.getD 0 undef) false (opP Tryd.prog (Instr.fieldAt 25 t1 4) fun t11 =>
 opQ Tryd.prog w5 (Instr.loadAt 23 t11) fun t12 =>
 opP Tryd.prog (Instr.indexAt 23 t12 (Value.int .i64 0)) fun t13 =>
 opQ Tryd.prog w5 (Instr.loadAt 25 t13) fun t14 =>
 oCall Tryd.prog Tryd.n_ref06_plain #[t14] w5 fun t15 w10 =>
 K6 [t15] w10) (K6 [undef] w5)) (fun s7 _d8 w9 =>
 sJoin (fun K11 => gIf t5 true (oPick (s3.getD 0 undef) (Value.bool true) (s7.getD 0 undef) fun t16 =>
 K11 [t16] w9) (K11 [undef] w9)) (fun s12 _d13 w14 =>
 oPick t5 (s12.getD 0 undef) (Value.bool false) fun t17 =>
 K t17 w14)))
theorem Tryd.E_ref06_plain (t0 : Value) (w : World) (K : Value → World → Prop) : sw ⟨false, false⟩ Tryd.prog (fun _ _ => False) Tryd.A_ref06_plain (bodyOf Tryd.f73) [t0, undef, undef, undef, undef, undef, undef, undef, undef, undef, undef, undef, undef, undef, undef, undef, undef, undef] w (topQ false Tryd.prog Tryd.f73 w K) = Tryd.F_ref06_plain t0 w K := by kernel_rfl
theorem Tryd.C_ref06_plain : chk ⟨false, false⟩ Tryd.prog false Tryd.A_ref06_plain (bodyOf Tryd.f73) = true := by kernel_rfl
theorem Tryd.ok_ref06_plain {t0 : Value} {w : World} {K : Value → World → Prop} (h : Tryd.F_ref06_plain t0 w K) : oCall Tryd.prog Tryd.n_ref06_plain #[t0] w K :=
  calls_of_sw (cf := ⟨false, false⟩) Tryd.mixed Tryd.func73 rfl Tryd.C_ref06_plain ((Tryd.E_ref06_plain t0 w K).mpr h)

/- 74: loanword/loanwordref06.endless -/
def Tryd.A_ref06_endless : Ann := .s (.r (.op 0 .p (.nil))) (.s (.r (.op 0 .p (.nil))) (.s (.r (.op 0 .p (.op 1 .p (.op 2 .l (.op 3 .p (.nil)))))) (.s (.r (.op 0 .p (.op 1 .p (.op 2 .l (.op 3 .l (.op 4 .p (.nil))))))) (.s (.s (.r (.op 0 .p (.nil))) (.b (.lp [5, 7] (.s (.s (.r (.op 0 .p (.op 1 .p (.op 2 .p (.op 3 .p (.nil)))))) (.c (.n) (.n))) (.s (.b (.s (.r (.op 0 .p (.op 1 .p (.op 2 .p (.op 3 .p (.op 4 .q (.op 5 .p (.op 6 .p (.op 7 .q (.op 8 .p (.nil))))))))))) (.s (.r (.op 0 .p (.nil))) (.b (.lp [5, 9] (.s (.s (.r (.op 0 .p (.op 1 .p (.op 2 .p (.op 3 .p (.nil)))))) (.c (.n) (.n))) (.j [5] (.b (.s (.r (.op 0 .p (.op 1 .p (.op 2 .p (.op 3 .p (.op 4 .q (.op 5 .l (.op 6 .l (.nil))))))))) (.s (.s (.r (.op 0 .p (.op 1 .q (.op 2 .p (.nil))))) (.c (.n) (.n))) (.s (.s (.r (.op 0 .p (.op 1 .q (.op 2 .p (.op 3 .p (.nil)))))) (.c (.s (.r (.op 0 .p (.nil))) (.n)) (.n))) (.s (.r (.op 0 .p (.op 1 .p (.op 2 .q (.op 3 .p (.op 4 .q (.op 5 .p (.nil)))))))) (.c (.s (.r (.op 0 .p (.op 1 .p (.op 2 .q (.op 3 .p (.op 4 .l (.nil))))))) (.r (.op 0 .p (.op 1 .p (.op 2 .q (.op 3 .l (.op 4 .l (.op 5 .p (.nil))))))))) (.n))))))) (.r (.op 0 .p (.op 1 .p (.op 2 .p (.nil)))))))))))) (.r (.op 0 .p (.op 1 .p (.op 2 .p (.nil)))))))))) (.s (.r (.op 0 .p (.nil))) (.n))))))
def Tryd.F_ref06_endless (t0 : Value) (t1 : Value) (w : World) (K : Value → World → Prop) : Prop :=
 opP Tryd.prog (Builtin.len_ #[50] 3 #[t0]) fun t12 =>
 opW Tryd.prog w (Instr.makeSlice 126 t12 t12) fun t13 w1 =>
 opW Tryd.prog w1 (Instr.buildSlice 68 1 #[(0, t1)]) fun t16 w2 =>
 opW Tryd.prog w2 (Builtin.append_ #[68, 68] 68 #[(Value.slice Option.none 0 0), t16]) fun t17 w3 =>
 sLoop [t17, (Value.int .i64 0)] w3 (fun s5 _d6 w7 K4 =>
 opP Tryd.prog (Builtin.len_ #[68] 3 #[(s5.getD 0 undef)]) fun t20 =>
 opP Tryd.prog (bsem .lss 3 false (s5.getD 1 undef) t20) fun t21 =>
 oCond t21 (opP Tryd.prog (Instr.indexAt 68 (s5.getD 0 undef) (s5.getD 1 undef)) fun t27 =>
 opQ Tryd.prog w7 (Instr.loadAt 3 t27) fun t28 =>
 opP Tryd.prog (Instr.indexAt 50 t0 t28) fun t29 =>
 opP Tryd.prog (Instr.fieldAt 99 t29 1) fun t30 =>
 opQ Tryd.prog w7 (Instr.loadAt 97 t30) fun t31 =>
 sLoop [(s5.getD 0 undef), (Value.int .i64 0)] w7 (fun s9 _d10 w11 K8 =>
 opP Tryd.prog (Builtin.len_ #[97] 3 #[t31]) fun t34 =>
 opP Tryd.prog (bsem .lss 3 false (s9.getD 1 undef) t34) fun t35 =>
 oCond t35 (sJoin (fun K12 =>
 opP Tryd.prog (Instr.indexAt 97 t31 (s9.getD 1 undef)) fun t40 =>
 opP Tryd.prog (Instr.fieldAt 101 t40 1) fun t41 =>
 opQ Tryd.prog w11 (Instr.loadAt 25 t41) fun t42 =>
 opW Tryd.prog w11 (Instr.alloc 25 true (.tuple #[])) fun t10 w16 =>
 opU Tryd.prog w16 (Instr.storeAt 25 t10 t42) fun w17 =>
 opP Tryd.prog (Instr.fieldAt 25 t10 0) fun t43 =>
 opQ Tryd.prog w17 (Instr.loadAt 22 t43) fun t44 =>
 opP Tryd.prog (bsem .neq 22 true t44 (Value.int .u8 5)) fun t45 =>
 oCond t45 (K12 [(s9.getD 0 undef)] w17) (opP Tryd.prog (Instr.fieldAt 25 t10 3) fun t46 =>
 opQ Tryd.prog w17 (Instr.loadAt 3 t46) fun t47 =>
 opP Tryd.prog (bsem .eql 3 false t47 t1) fun t49 =>
 oCond t49 (K (Value.bool true) w17) (opP Tryd.prog (Instr.fieldAt 25 t10 3) fun t51 =>
 opQ Tryd.prog w17 (Instr.loadAt 3 t51) fun t52 =>
 opP Tryd.prog (Instr.indexAt 126 t13 t52) fun t53 =>
 opQ Tryd.prog w17 (Instr.loadAt 4 t53) fun t54 =>
 opP Tryd.prog (Op.unary .not t54) fun t55 =>
 oCond t55 (opP Tryd.prog (Instr.fieldAt 25 t10 3) fun t57 =>
 opQ Tryd.prog w17 (Instr.loadAt 3 t57) fun t58 =>
 opP Tryd.prog (Instr.indexAt 126 t13 t58) fun t59 =>
 opU Tryd.prog w17 (Instr.storeAt 4 t59 (Value.bool true)) fun w18 =>
 opP Tryd.prog (Instr.fieldAt 25 t10 3) fun t61 =>
 opQ Tryd.prog w18 (Instr.loadAt 3 t61) fun t62 =>
 opW Tryd.prog w18 (Instr.buildSlice 68 1 #[(0, t62)]) fun t63 w19 =>
 opW Tryd.prog w19 (Builtin.append_ #[68, 68] 68 #[(s9.getD 0 undef), t63]) fun t64 w20 =>
 K12 [t64] w20) (K12 [(s9.getD 0 undef)] w17)))) (fun s13 _d14 w15 =>
 opP Tryd.prog (bsem .add 3 true (s9.getD 1 undef) (Value.int .i64 1)) fun t37 =>
 K8 [(s13.getD 0 undef), t37] w15)) (opP Tryd.prog (bsem .add 3 true (s5.getD 1 undef) (Value.int .i64 1)) fun t23 =>
 K4 [(s9.getD 0 undef), t23] w11))) (K (Value.bool false) w7))
theorem Tryd.E_ref06_endless (t0 t1 : Value) (w : World) (K : Value → World → Prop) : sw ⟨false, false⟩ Tryd.prog (fun _ _ => False) Tryd.A_ref06_endless (bodyOf Tryd.f74) [t0, t1, undef, undef, undef, undef, undef, undef, undef, undef, undef, undef, undef, undef, undef, undef, undef, undef, undef, undef, undef, undef, undef, undef, undef, undef, undef, undef, undef, undef, undef, undef, undef, undef, undef, undef, undef, undef, undef, undef, undef, undef, undef, undef, undef, undef, undef, undef, undef, undef, undef, undef, undef, undef, undef, undef, undef, undef, undef, undef, undef, undef, undef, undef, undef] w (topQ false Tryd.prog Tryd.f74 w K) = Tryd.F_ref06_endless t0 t1 w K := by kernel_rfl
theorem Tryd.C_ref06_endless : chk ⟨false, false⟩ Tryd.prog false Tryd.A_ref06_endless (bodyOf Tryd.f74) = true := by kernel_rfl
theorem Tryd.ok_ref06_endless {t0 t1 : Value} {w : World} {K : Value → World → Prop} (h : Tryd.F_ref06_endless t0 t1 w K) : oCall Tryd.prog Tryd.n_ref06_endless #[t0, t1] w K :=
  calls_of_sw (cf := ⟨false, false⟩) Tryd.mixed Tryd.func74 rfl Tryd.C_ref06_endless ((Tryd.E_ref06_endless t0 t1 w K).mpr h)

/- 75: loanword/loanwordref06.words -/
def Tryd.A_ref06_words : Ann := .s (.r (.op 0 .l (.op 1 .p (.nil)))) (.s (.s (.r (.op 0 .p (.op 1 .q (.op 2 .p (.nil))))) (.c (.s (.r (.op 0 .p (.nil))) (.n)) (.n))) (.s (.r (.op 0 .p (.nil))) (.s (.r (.op 0 .p (.op 1 .p (.op 2 .q (.op 3 .p (.op 4 .p (.op 5 .q (.op 6 .p (.nil))))))))) (.s (.s (.r (.op 0 .p (.nil))) (.b (.lp [7, 9] (.s (.s (.r (.op 0 .p (.op 1 .p (.op 2 .p (.op 3 .p (.op 4 .p (.grp 23 true [(5, .p), (6, .p), (7, .p)] [26] (.op 8 .p (.nil))))))))) (.c (.n) (.n))) (.s (.b (.r (.op 0 .p (.op 1 .p (.op 2 .p (.op 3 .p (.op 4 .p (.op 5 .p (.op 6 .q (.op 7 .p (.op 8 .p (.op 9 .p (.op 10 .l (.op 11 .p (.op 12 .p (.nil)))))))))))))))) (.r (.op 0 .p (.op 1 .p (.op 2 .p (.nil)))))))))) (.s (.r (.op 0 .p (.op 1 .p (.nil)))) (.n))))))
def Tryd.F_ref06_words (t0 : Value) (t1 : Value) (t2 : Value) (w : World) (K : Value → World → Prop) : Prop :=
 opW Tryd.prog w (Instr.box 25 t1) fun t4 w1 =>
 opP Tryd.prog (Instr.fieldAt 25 t4 0) fun t10 =>
 opQ Tryd.prog w1 (Instr.loadAt 22 t10) fun t11 =>
 opP Tryd.prog (bsem .neq 22 true t11 (Value.int .u8 5)) fun t12 =>
 oCond t12 (K (Value.int .i64 1) w1) (opP Tryd.prog (Instr.fieldAt 25 t4 3) fun t14 =>
 opQ Tryd.prog w1 (Instr.loadAt 3 t14) fun t15 =>
 opP Tryd.prog (Instr.indexAt 50 t0 t15) fun t16 =>
 opP Tryd.prog (Instr.fieldAt 99 t16 1) fun t17 =>
 opQ Tryd.prog w1 (Instr.loadAt 97 t17) fun t18 =>
 sLoop [(Value.int .i64 0), (Value.int .i64 0)] w1 (fun s3 _d4 w5 K2 =>
 opP Tryd.prog (Builtin.len_ #[97] 3 #[t18]) fun t21 =>
 opP Tryd.prog (bsem .lss 3 false (s3.getD 1 undef) t21) fun t22 =>
 sJoin (fun K6 => gIf t22 true (opP Tryd.prog (bsem .leq 3 false (s3.getD 0 undef) t2) fun t26 =>
 K6 [t26] w5) (K6 [undef] w5)) (fun s7 _d8 w9 =>
 oPick t22 (s7.getD 0 undef) (Value.bool false) fun t27 =>
 oCond t27 (opP Tryd.prog (Instr.indexAt 97 t18 (s3.getD 1 undef)) fun t34 =>
 opP Tryd.prog (Instr.fieldAt 101 t34 1) fun t35 =>
 opQ Tryd.prog w9 (Instr.loadAt 25 t35) fun t36 =>
 opP Tryd.prog (bsem .sub 3 false t2 (s3.getD 0 undef)) fun t39 =>
 oCall Tryd.prog Tryd.n_ref06_words #[t0, t36, t39] w9 fun t40 w10 =>
 opP Tryd.prog (bsem .add 3 false (s3.getD 0 undef) t40) fun t41 =>
 opP Tryd.prog (bsem .add 3 true (s3.getD 1 undef) (Value.int .i64 1)) fun t29 =>
 K2 [t41, t29] w10) (K (s3.getD 0 undef) w9))))
theorem Tryd.E_ref06_words (t0 t1 t2 : Value) (w : World) (K : Value → World → Prop) : sw ⟨false, false⟩ Tryd.prog (fun _ _ => False) Tryd.A_ref06_words (bodyOf Tryd.f75) [t0, t1, t2, undef, undef, undef, undef, undef, undef, undef, undef, undef, undef, undef, undef, undef, undef, undef, undef, undef, undef, undef, undef, undef, undef, undef, undef, undef, undef, undef, undef, undef, undef, undef, undef, undef, undef, undef, undef, undef, undef, undef, undef] w (topQ false Tryd.prog Tryd.f75 w K) = Tryd.F_ref06_words t0 t1 t2 w K := by kernel_rfl
theorem Tryd.C_ref06_words : chk ⟨false, false⟩ Tryd.prog false Tryd.A_ref06_words (bodyOf Tryd.f75) = true := by kernel_rfl
theorem Tryd.ok_ref06_words {t0 t1 t2 : Value} {w : World} {K : Value → World → Prop} (h : Tryd.F_ref06_words t0 t1 t2 w K) : oCall Tryd.prog Tryd.n_ref06_words #[t0, t1, t2] w K :=
  calls_of_sw (cf := ⟨false, false⟩) Tryd.mixed Tryd.func75 rfl Tryd.C_ref06_words ((Tryd.E_ref06_words t0 t1 t2 w K).mpr h)

/- 26: loanword/loanwordref06.Structs -/
def Tryd.A_ref06_Structs : Ann := .s (.r (.op 0 .p (.op 1 .p (.nil)))) (.s (.s (.r (.op 0 .p (.op 1 .p (.op 2 .p (.nil))))) (.c (.s (.r (.op 0 .p (.op 1 .p (.nil)))) (.n)) (.n))) (.s (.s (.r (.op 0 .p (.nil))) (.b (.lp [4] (.s (.s (.r (.op 0 .p (.op 1 .p (.op 2 .p (.op 3 .p (.nil)))))) (.c (.n) (.n))) (.s (.b (.s (.r (.op 0 .p (.op 1 .p (.op 2 .p (.op 3 .p (.op 4 .q (.op 5 .p (.nil)))))))) (.s (.s (.r (.op 0 .p (.op 1 .p (.op 2 .p (.op 3 .p (.grp 26 false [(4, .p), (5, .p), (6, .p)] [29] (.op 7 .p (.nil)))))))) (.c (.s (.r (.op 0 .p (.op 1 .p (.op 2 .p (.nil))))) (.n)) (.n))) (.s (.r (.op 0 .p (.nil))) (.b (.lp [6] (.s (.s (.r (.op 0 .p (.op 1 .p (.op 2 .p (.op 3 .p (.nil)))))) (.c (.n) (.n))) (.s (.b (.s (.r (.op 0 .p (.op 1 .p (.op 2 .p (.op 3 .p (.op 4 .q (.op 5 .p (.op 6 .p (.op 7 .l (.op 8 .p (.op 9 .p (.grp 47 false [(10, .p), (11, .p), (12, .p), (13, .p), (14, .q), (15, .l), (16, .p)] [54] (.op 17 .p (.nil)))))))))))))) (.c (.s (.r (.op 0 .p (.op 1 .p (.op 2 .p (.nil))))) (.n)) (.n)))) (.r (.op 0 .p (.op 1 .p (.op 2 .p (.nil))))))))))))) (.r (.op 0 .p (.op 1 .p (.op 2 .p (.nil)))))))))) (.s (.s (.r (.op 0 .p (.nil))) (.b (.lp [7] (.s (.s (.r (.op 0 .p (.op 1 .p (.op 2 .p (.op 3 .p (.nil)))))) (.c (.n) (.n))) (.s (.b (.s (.r (.op 0 .p (.op 1 .p (.op 2 .l (.nil))))) (.c (.s (.r (.op 0 .p (.op 1 .p (.op 2 .p (.nil))))) (.n)) (.n)))) (.r (.op 0 .p (.op 1 .p (.op 2 .p (.nil)))))))))) (.s (.s (.r (.op 0 .p (.nil))) (.b (.lp [8] (.s (.s (.r (.op 0 .p (.op 1 .p (.op 2 .p (.op 3 .p (.nil)))))) (.c (.n) (.n))) (.s (.b (.s (.r (.op 0 .p (.op 1 .p (.op 2 .p (.op 3 .l (.op 4 .p (.nil))))))) (.c (.s (.r (.op 0 .p (.op 1 .p (.op 2 .p (.nil))))) (.n)) (.n)))) (.r (.op 0 .p (.op 1 .p (.op 2 .p (.nil)))))))))) (.s (.r (.op 0 .p (.op 1 .p (.nil)))) (.n))))))
def Tryd.F_ref06_Structs (t0 : Value) (w : World) (K : Value → World → Prop) : Prop :=
 opP Tryd.prog (Builtin.len_ #[50] 3 #[t0]) fun t10 =>
 opP Tryd.prog (bsem .gtr 3 true t10 (Value.int .i64 32)) fun t11 =>
 oCond t11 (K (.tuple #[(Value.int .i64 32), (Value.int .i64 2)]) w) (sLoop [(Value.int .i64 0)] w (fun s2 _d3 w4 K1 =>
 opP Tryd.prog (Builtin.len_ #[50] 3 #[t0]) fun t14 =>
 opP Tryd.prog (bsem .lss 3 false (s2.getD 0 undef) t14) fun t15 =>
 oCond t15 (opP Tryd.prog (Instr.indexAt 50 t0 (s2.getD 0 undef)) fun t20 =>
 opP Tryd.prog (Instr.fieldAt 99 t20 1) fun t21 =>
 opQ Tryd.prog w4 (Instr.loadAt 97 t21) fun t22 =>
 opP Tryd.prog (Builtin.len_ #[97] 3 #[t22]) fun t24 =>
 opP Tryd.prog (bsem .lss 3 true t24 (Value.int .i64 1)) fun t25 =>
 sJoin (fun K5 => gIf t25 false (opP Tryd.prog (Builtin.len_ #[97] 3 #[t22]) fun t28 =>
 opP Tryd.prog (bsem .gtr 3 true t28 (Value.int .i64 8)) fun t29 =>
 K5 [t29] w4) (K5 [undef] w4)) (fun s6 _d7 w8 =>
 oPick t25 (Value.bool true) (s6.getD 0 undef) fun t30 =>
 oCond t30 (K (.tuple #[(s2.getD 0 undef), (Value.int .i64 2)]) w8) (sLoop [(Value.int .i64 0)] w8 (fun s10 _d11 w12 K9 =>
 opP Tryd.prog (Builtin.len_ #[97] 3 #[t22]) fun t34 =>
 opP Tryd.prog (bsem .lss 3 false (s10.getD 0 undef) t34) fun t35 =>
 oCond t35 (opP Tryd.prog (Instr.indexAt 97 t22 (s10.getD 0 undef)) fun t40 =>
 opP Tryd.prog (Instr.fieldAt 101 t40 1) fun t41 =>
 opQ Tryd.prog w12 (Instr.loadAt 25 t41) fun t42 =>
 opP Tryd.prog (Builtin.len_ #[50] 3 #[t0]) fun t44 =>
 oCall Tryd.prog Tryd.n_ref06_look #[t42, t44, (Value.int .i64 48)] w12 fun t45 w13 =>
 opP Tryd.prog (Op.unary .not t45) fun t46 =>
 sJoin (fun K14 => gIf t46 false (opP Tryd.prog (Instr.indexAt 97 t22 (s10.getD 0 undef)) fun t50 =>
 opP Tryd.prog (Instr.fieldAt 101 t50 1) fun t51 =>
 opQ Tryd.prog w13 (Instr.loadAt 25 t51) fun t52 =>
 oCall Tryd.prog Tryd.n_ref06_plain #[t52] w13 fun t53 w18 =>
 opP Tryd.prog (Op.unary .not t53) fun t54 =>
 K14 [t54] w18) (K14 [undef] w13)) (fun s15 _d16 w17 =>
 oPick t46 (Value.bool true) (s15.getD 0 undef) fun t55 =>
 oCond t55 (K (.tuple #[(s2.getD 0 undef), (Value.int .i64 2)]) w17) (opP Tryd.prog (bsem .add 3 true (s10.getD 0 undef) (Value.int .i64 1)) fun t37 =>
 K9 [t37] w17))) (opP Tryd.prog (bsem .add 3 true (s2.getD 0 undef) (Value.int .i64 1)) fun t17 =>
 K1 [t17] w12))))) (sLoop [(Value.int .i64 0)] w4 (fun s20 _d21 w22 K19 =>
 opP Tryd.prog (Builtin.len_ #[50] 3 #[t0]) fun t59 =>
 opP Tryd.prog (bsem .lss 3 false (s20.getD 0 undef) t59) fun t60 =>
 oCond t60 (oCall Tryd.prog Tryd.n_ref06_endless #[t0, (s20.getD 0 undef)] w22 fun t65 w23 =>
 oCond t65 (K (.tuple #[(s20.getD 0 undef), (Value.int .i64 2)]) w23) (opP Tryd.prog (bsem .add 3 true (s20.getD 0 undef) (Value.int .i64 1)) fun t62 =>
 K19 [t62] w23)) (sLoop [(Value.int .i64 0)] w22 (fun s25 _d26 w27 K24 =>
 opP Tryd.prog (Builtin.len_ #[50] 3 #[t0]) fun t69 =>
 opP Tryd.prog (bsem .lss 3 false (s25.getD 0 undef) t69) fun t70 =>
 oCond t70 (opP Tryd.prog (Instr.build 25 #[(0, (Value.int .u8 5)), (3, (s25.getD 0 undef))]) fun t75 =>
 oCall Tryd.prog Tryd.n_ref06_words #[t0, t75, (Value.int .i64 16)] w27 fun t76 w28 =>
 opP Tryd.prog (bsem .gtr 3 true t76 (Value.int .i64 16)) fun t77 =>
 oCond t77 (K (.tuple #[(s25.getD 0 undef), (Value.int .i64 2)]) w28) (opP Tryd.prog (bsem .add 3 true (s25.getD 0 undef) (Value.int .i64 1)) fun t72 =>
 K24 [t72] w28)) (K (.tuple #[(Value.int .i64 0), (Value.int .i64 0)]) w27)))))))
theorem Tryd.E_ref06_Structs (t0 : Value) (w : World) (K : Value → World → Prop) : sw ⟨false, false⟩ Tryd.prog (fun _ _ => False) Tryd.A_ref06_Structs (bodyOf Tryd.f26) [t0, undef, undef, undef, undef, undef, undef, undef, undef, undef, undef, undef, undef, undef, undef, undef, undef, undef, undef, undef, undef, undef, undef, undef, undef, undef, undef, undef, undef, undef, undef, undef, undef, undef, undef, undef, undef, undef, undef, undef, undef, undef, undef, undef, undef, undef, undef, undef, undef, undef, undef, undef, undef, undef, undef, undef, undef, undef, undef, undef, undef, undef, undef, undef, undef, undef, undef, undef, undef, undef, undef, undef, undef, undef, undef, undef, undef, undef, undef] w (topQ false Tryd.prog Tryd.f26 w K) = Tryd.F_ref06_Structs t0 w K := by kernel_rfl
theorem Tryd.C_ref06_Structs : chk ⟨false, false⟩ Tryd.prog false Tryd.A_ref06_Structs (bodyOf Tryd.f26) = true := by kernel_rfl
theorem Tryd.ok_ref06_Structs {t0 : Value} {w : World} {K : Value → World → Prop} (h : Tryd.F_ref06_Structs t0 w K) : oCall Tryd.prog Tryd.n_ref06_Structs #[t0] w K :=
  calls_of_sw (cf := ⟨false, false⟩) Tryd.mixed Tryd.func26 rfl Tryd.C_ref06_Structs ((Tryd.E_ref06_Structs t0 w K).mpr h)

/- 28: loanword/loanwordref06.May -/
def Tryd.A_ref06_May : Ann := .s (.r (.op 0 .l (.op 1 .p (.nil)))) (.s (.r (.op 0 .p (.op 1 .l (.op 2 .p (.op 3 .p (.op 4 .p (.op 5 .p (.op 6 .p (.nil))))))))) (.s (.r (.op 0 .p (.op 1 .p (.op 2 .p (.grp 14 true [(3, .q), (4, .p), (5, .p), (6, .l)] [18] (.op 7 .p (.op 8 .p (.nil)))))))) (.n)))
def Tryd.F_ref06_May (t0 : Value) (t1 : Value) (w : World) (K : Value → World → Prop) : Prop :=
 opW Tryd.prog w (Instr.box 25 t1) fun t3 w1 =>
 oCall Tryd.prog Tryd.n_ref06_Structs #[t0] w1 fun t9 w2 =>
 opP Tryd.prog (Instr.extract t9 0) fun _t10 =>
 opP Tryd.prog (Instr.extract t9 1) fun t11 =>
 opP Tryd.prog (bsem .eql 3 true t11 (Value.int .i64 0)) fun t13 =>
 sJoin (fun K3 => gIf t13 true (opQ Tryd.prog w2 (Instr.loadAt 25 t3) fun t15 =>
 opP Tryd.prog (Builtin.len_ #[50] 3 #[t0]) fun t17 =>
 oCall Tryd.prog Tryd.n_ref06_look #[t15, t17, (Value.int .i64 48)] w2 fun t18 w7 =>
 K3 [t18] w7) (K3 [undef] w2)) (fun s4 _d5 w6 =>
 oPick t13 (s4.getD 0 undef) (Value.bool false) fun t19 =>
 K t19 w6)
theorem Tryd.E_ref06_May (t0 t1 : Value) (w : World) (K : Value → World → Prop) : sw ⟨false, false⟩ Tryd.prog (fun _ _ => False) Tryd.A_ref06_May (bodyOf Tryd.f28) [t0, t1, undef, undef, undef, undef, undef, undef, undef, undef, undef, undef, undef, undef, undef, undef, undef, undef, undef, undef] w (topQ false Tryd.prog Tryd.f28 w K) = Tryd.F_ref06_May t0 t1 w K := by kernel_rfl
theorem Tryd.C_ref06_May : chk ⟨false, false⟩ Tryd.prog false Tryd.A_ref06_May (bodyOf Tryd.f28) = true := by kernel_rfl
theorem Tryd.ok_ref06_May {t0 t1 : Value} {w : World} {K : Value → World → Prop} (h : Tryd.F_ref06_May t0 t1 w K) : oCall Tryd.prog Tryd.n_ref06_May #[t0, t1] w K :=
  calls_of_sw (cf := ⟨false, false⟩) Tryd.mixed Tryd.func28 rfl Tryd.C_ref06_May ((Tryd.E_ref06_May t0 t1 w K).mpr h)

/- 32: loanword/loanwordref06.Words -/
def Tryd.A_ref06_Words : Ann := .s (.r (.op 0 .l (.op 1 .p (.op 2 .p (.nil))))) (.s (.s (.r (.op 0 .p (.op 1 .q (.op 2 .l (.op 3 .p (.nil)))))) (.c (.s (.r (.op 0 .p (.op 1 .p (.nil)))) (.n)) (.n))) (.s (.r (.op 0 .p (.op 1 .q (.op 2 .l (.op 3 .p (.op 4 .p (.nil))))))) (.n)))
def Tryd.F_ref06_Words (t0 : Value) (t1 : Value) (w : World) (K : Value → World → Prop) : Prop :=
 opW Tryd.prog w (Instr.box 25 t1) fun t3 w1 =>
 opQ Tryd.prog w1 (Instr.loadAt 25 t3) fun t7 =>
 oCall Tryd.prog Tryd.n_ref06_May #[t0, t7] w1 fun t8 w2 =>
 opP Tryd.prog (Op.unary .not t8) fun t9 =>
 oCond t9 (K (.tuple #[(Value.int .i64 0), (Value.int .i64 2)]) w2) (opQ Tryd.prog w2 (Instr.loadAt 25 t3) fun t11 =>
 oCall Tryd.prog Tryd.n_ref06_words #[t0, t11, (Value.int .i64 16)] w2 fun t12 w3 =>
 K (.tuple #[t12, (Value.int .i64 0)]) w3)
theorem Tryd.E_ref06_Words (t0 t1 : Value) (w : World) (K : Value → World → Prop) : sw ⟨false, false⟩ Tryd.prog (fun _ _ => False) Tryd.A_ref06_Words (bodyOf Tryd.f32) [t0, t1, undef, undef, undef, undef, undef, undef, undef, undef, undef, undef, undef] w (topQ false Tryd.prog Tryd.f32 w K) = Tryd.F_ref06_Words t0 t1 w K := by kernel_rfl
theorem Tryd.C_ref06_Words : chk ⟨false, false⟩ Tryd.prog false Tryd.A_ref06_Words (bodyOf Tryd.f32) = true := by kernel_rfl
theorem Tryd.ok_ref06_Words {t0 t1 : Value} {w : World} {K : Value → World → Prop} (h : Tryd.F_ref06_Words t0 t1 w K) : oCall Tryd.prog Tryd.n_ref06_Words #[t0, t1] w K :=
  calls_of_sw (cf := ⟨false, false⟩) Tryd.mixed Tryd.func32 rfl Tryd.C_ref06_Words ((Tryd.E_ref06_Words t0 t1 w K).mpr h)

/- 77: loanword/loanwordref06.drops -/
def Tryd.A_ref06_drops : Ann := .s (.r (.op 0 .l (.op 1 .p (.nil)))) (.s (.s (.r (.op 0 .p (.op 1 .q (.op 2 .p (.nil))))) (.c (.s (.r (.op 0 .p (.op 1 .q (.op 2 .p (.op 3 .p (.nil)))))) (.n)) (.n))) (.s (.r (.op 0 .p (.op 1 .p (.op 2 .q (.op 3 .p (.op 4 .p (.op 5 .q (.op 6 .p (.nil))))))))) (.s (.s (.r (.op 0 .p (.nil))) (.b (.lp [6] (.s (.s (.r (.op 0 .p (.op 1 .p (.op 2 .p (.op 3 .p (.nil)))))) (.c (.n) (.n))) (.s (.b (.s (.r (.op 0 .p (.op 1 .p (.op 2 .p (.op 3 .p (.op 4 .p (.op 5 .q (.op 6 .l (.nil))))))))) (.c (.s (.r (.op 0 .p (.nil))) (.n)) (.n)))) (.r (.op 0 .p (.op 1 .p (.op 2 .p (.nil)))))))))) (.s (.r (.op 0 .p (.nil))) (.n)))))
def Tryd.F_ref06_drops (t0 : Value) (t1 : Value) (w : World) (K : Value → World → Prop) : Prop :=
 opW Tryd.prog w (Instr.box 25 t1) fun t3 w1 =>
 opP Tryd.prog (Instr.fieldAt 25 t3 0) fun t7 =>
 opQ Tryd.prog w1 (Instr.loadAt 22 t7) fun t8 =>
 opP Tryd.prog (bsem .neq 22 true t8 (Value.int .u8 5)) fun t9 =>
 oCond t9 (opP Tryd.prog (Instr.fieldAt 25 t3 0) fun t10 =>
 opQ Tryd.prog w1 (Instr.loadAt 22 t10) fun t11 =>
 opP Tryd.prog (bsem .eql 22 true t11 (Value.int .u8 3)) fun t12 =>
 K t12 w1) (opP Tryd.prog (Instr.fieldAt 25 t3 3) fun t14 =>
 opQ Tryd.prog w1 (Instr.loadAt 3 t14) fun t15 =>
 opP Tryd.prog (Instr.indexAt 50 t0 t15) fun t16 =>
 opP Tryd.prog (Instr.fieldAt 99 t16 1) fun t17 =>
 opQ Tryd.prog w1 (Instr.loadAt 97 t17) fun t18 =>
 sLoop [(Value.int .i64 0)] w1 (fun s3 _d4 w5 K2 =>
 opP Tryd.prog (Builtin.len_ #[97] 3 #[t18]) fun t21 =>
 opP Tryd.prog (bsem .lss 3 false (s3.getD 0 undef) t21) fun t22 =>
 oCond t22 (opP Tryd.prog (Instr.indexAt 97 t18 (s3.getD 0 undef)) fun t28 =>
 opP Tryd.prog (Instr.fieldAt 101 t28 1) fun t29 =>
 opQ Tryd.prog w5 (Instr.loadAt 25 t29) fun t30 =>
 oCall Tryd.prog Tryd.n_ref06_drops #[t0, t30] w5 fun t31 w6 =>
 oCond t31 (K (Value.bool true) w6) (opP Tryd.prog (bsem .add 3 true (s3.getD 0 undef) (Value.int .i64 1)) fun t24 =>
 K2 [t24] w6)) (K (Value.bool false) w5)))
theorem Tryd.E_ref06_drops (t0 t1 : Value) (w : World) (K : Value → World → Prop) : sw ⟨false, false⟩ Tryd.prog (fun _ _ => False) Tryd.A_ref06_drops (bodyOf Tryd.f77) [t0, t1, undef, undef, undef, undef, undef, undef, undef, undef, undef, undef, undef, undef, undef, undef, undef, undef, undef, undef, undef, undef, undef, undef, undef, undef, undef, undef, undef, undef, undef, undef] w (topQ false Tryd.prog Tryd.f77 w K) = Tryd.F_ref06_drops t0 t1 w K := by kernel_rfl
theorem Tryd.C_ref06_drops : chk ⟨false, false⟩ Tryd.prog false Tryd.A_ref06_drops (bodyOf Tryd.f77) = true := by kernel_rfl
theorem Tryd.ok_ref06_drops {t0 t1 : Value} {w : World} {K : Value → World → Prop} (h : Tryd.F_ref06_drops t0 t1 w K) : oCall Tryd.prog Tryd.n_ref06_drops #[t0, t1] w K :=
  calls_of_sw (cf := ⟨false, false⟩) Tryd.mixed Tryd.func77 rfl Tryd.C_ref06_drops ((Tryd.E_ref06_drops t0 t1 w K).mpr h)

/- 34: loanword/loanwordref06.Drops -/
def Tryd.A_ref06_Drops : Ann := .s (.r (.op 0 .l (.op 1 .p (.op 2 .p (.nil))))) (.s (.s (.r (.op 0 .p (.op 1 .q (.op 2 .l (.op 3 .p (.nil)))))) (.c (.s (.r (.op 0 .p (.op 1 .p (.nil)))) (.n)) (.n))) (.s (.r (.op 0 .p (.op 1 .q (.op 2 .l (.op 3 .p (.op 4 .p (.nil))))))) (.n)))
def Tryd.F_ref06_Drops (t0 : Value) (t1 : Value) (w : World) (K : Value → World → Prop) : Prop :=
 opW Tryd.prog w (Instr.box 25 t1) fun t3 w1 =>
 opQ Tryd.prog w1 (Instr.loadAt 25 t3) fun t7 =>
 oCall Tryd.prog Tryd.n_ref06_May #[t0, t7] w1 fun t8 w2 =>
 opP Tryd.prog (Op.unary .not t8) fun t9 =>
 oCond t9 (K (.tuple #[(Value.bool false), (Value.int .i64 2)]) w2) (opQ Tryd.prog w2 (Instr.loadAt 25 t3) fun t11 =>
 oCall Tryd.prog Tryd.n_ref06_drops #[t0, t11] w2 fun t12 w3 =>
 K (.tuple #[t12, (Value.int .i64 0)]) w3)
theorem Tryd.E_ref06_Drops (t0 t1 : Value) (w : World) (K : Value → World → Prop) : sw ⟨false, false⟩ Tryd.prog (fun _ _ => False) Tryd.A_ref06_Drops (bodyOf Tryd.f34) [t0, t1, undef, undef, undef, undef, undef, undef, undef, undef, undef, undef, undef] w (topQ false Tryd.prog Tryd.f34 w K) = Tryd.F_ref06_Drops t0 t1 w K := by kernel_rfl
theorem Tryd.C_ref06_Drops : chk ⟨false, false⟩ Tryd.prog false Tryd.A_ref06_Drops (bodyOf Tryd.f34) = true := by kernel_rfl
theorem Tryd.ok_ref06_Drops {t0 t1 : Value} {w : World} {K : Value → World → Prop} (h : Tryd.F_ref06_Drops t0 t1 w K) : oCall Tryd.prog Tryd.n_ref06_Drops #[t0, t1] w K :=
  calls_of_sw (cf := ⟨false, false⟩) Tryd.mixed Tryd.func34 rfl Tryd.C_ref06_Drops ((Tryd.E_ref06_Drops t0 t1 w K).mpr h)

/- 30: loanword/loanwordref06.Copies -/
def Tryd.A_ref06_Copies : Ann := .s (.r (.op 0 .l (.op 1 .p (.nil)))) (.s (.r (.op 0 .q (.op 1 .l (.op 2 .p (.grp 5 true [(3, .p), (4, .q), (5, .p), (6, .p)] [9] (.grp 9 false [(7, .p), (8, .q), (9, .p)] [12] (.grp 5 true [(10, .p), (11, .p)] [14] (.grp 14 false [(12, .p), (13, .q), (14, .p), (15, .p)] [18] (.grp 18 true [(16, .p), (17, .q), (18, .p)] [21] (.grp 14 false [(19, .p)] [22] (.grp 5 true [(20, .p)] [23] (.op 21 .p (.op 22 .p (.nil)))))))))))))) (.n))
def Tryd.F_ref06_Copies (t0 : Value) (w : World) (K : Value → World → Prop) : Prop :=
 opW Tryd.prog w (Instr.box 25 t0) fun t1 w1 =>
 opQ Tryd.prog w1 (Instr.loadAt 25 t1) fun t3 =>
 oCall Tryd.prog Tryd.n_ref06_Is #[t3] w1 fun t4 w2 =>
 sJoin (fun K3 => gIf t4 true (opP Tryd.prog (Instr.fieldAt 25 t1 0) fun t6 =>
 opQ Tryd.prog w2 (Instr.loadAt 22 t6) fun t7 =>
 opP Tryd.prog (bsem .eql 22 true t7 (Value.int .u8 1)) fun t8 =>
 K3 [t8] w2) (K3 [undef] w2)) (fun s4 _d5 w6 =>
 sJoin (fun K7 => gIf (s4.getD 0 undef) false (opP Tryd.prog (Instr.fieldAt 25 t1 0) fun t10 =>
 opQ Tryd.prog w6 (Instr.loadAt 22 t10) fun t11 =>
 opP Tryd.prog (bsem .eql 22 true t11 (Value.int .u8 2)) fun t12 =>
 K7 [t12] w6) (K7 [undef] w6)) (fun s8 _d9 w10 =>
 sJoin (fun K11 => gIf t4 true (oPick (s4.getD 0 undef) (Value.bool true) (s8.getD 0 undef) fun t13 =>
 K11 [t13] w10) (K11 [undef] w10)) (fun s12 _d13 w14 =>
 sJoin (fun K15 => gIf (s12.getD 0 undef) false (opP Tryd.prog (Instr.fieldAt 25 t1 0) fun t15 =>
 opQ Tryd.prog w14 (Instr.loadAt 22 t15) fun t16 =>
 opP Tryd.prog (bsem .eql 22 true t16 (Value.int .u8 4)) fun t17 =>
 K15 [t17] w14) (K15 [undef] w14)) (fun s16 _d17 w18 =>
 sJoin (fun K19 => gIf (s16.getD 0 undef) true (opP Tryd.prog (Instr.fieldAt 25 t1 1) fun t19 =>
 opQ Tryd.prog w18 (Instr.loadAt 4 t19) fun t20 =>
 opP Tryd.prog (Op.unary .not t20) fun t21 =>
 K19 [t21] w18) (K19 [undef] w18)) (fun s20 _d21 w22 =>
 sJoin (fun K23 => gIf (s12.getD 0 undef) false (oPick (s16.getD 0 undef) (s20.getD 0 undef) (Value.bool false) fun t22 =>
 K23 [t22] w22) (K23 [undef] w22)) (fun s24 _d25 w26 =>
 sJoin (fun K27 => gIf t4 true (oPick (s12.getD 0 undef) (Value.bool true) (s24.getD 0 undef) fun t23 =>
 K27 [t23] w26) (K27 [undef] w26)) (fun s28 _d29 w30 =>
 oPick t4 (s28.getD 0 undef) (Value.bool false) fun t24 =>
 K t24 w30)))))))
theorem Tryd.E_ref06_Copies (t0 : Value) (w : World) (K : Value → World → Prop) : sw ⟨false, false⟩ Tryd.prog (fun _ _ => False) Tryd.A_ref06_Copies (bodyOf Tryd.f30) [t0, undef, undef, undef, undef, undef, undef, undef, undef, undef, undef, undef, undef, undef, undef, undef, undef, undef, undef, undef, undef, undef, undef, undef, undef] w (topQ false Tryd.prog Tryd.f30 w K) = Tryd.F_ref06_Copies t0 w K := by kernel_rfl
theorem Tryd.C_ref06_Copies : chk ⟨false, false⟩ Tryd.prog false Tryd.A_ref06_Copies (bodyOf Tryd.f30) = true := by kernel_rfl
theorem Tryd.ok_ref06_Copies {t0 : Value} {w : World} {K : Value → World → Prop} (h : Tryd.F_ref06_Copies t0 w K) : oCall Tryd.prog Tryd.n_ref06_Copies #[t0] w K :=
  calls_of_sw (cf := ⟨false, false⟩) Tryd.mixed Tryd.func30 rfl Tryd.C_ref06_Copies ((Tryd.E_ref06_Copies t0 w K).mpr h)

/- 79: loanword/loanwordref06.Own -/
def Tryd.A_ref06_Own : Ann := .s (.r (.op 0 .l (.op 1 .l (.nil)))) (.s (.r (.op 0 .p (.op 1 .q (.op 2 .p (.nil))))) (.s (.r (.op 0 .p (.op 1 .l (.nil)))) (.s (.s (.r (.op 0 .p (.nil))) (.b (.lp [4] (.s (.s (.r (.op 0 .p (.op 1 .p (.op 2 .p (.op 3 .p (.nil)))))) (.c (.n) (.n))) (.s (.b (.r (.op 0 .p (.op 1 .q (.op 2 .p (.op 3 .p (.op 4 .p (.op 5 .q (.op 6 .u (.op 7 .u (.op 8 .l (.op 9 .p (.op 10 .l (.nil)))))))))))))) (.r (.op 0 .p (.op 1 .p (.op 2 .p (.nil)))))))))) (.s (.r (.op 0 .q (.op 1 .l (.nil)))) (.n)))))
def Tryd.F_ref06_Own (t0 : Value) (w : World) (K : Value → World → Prop) : Prop :=
 opW Tryd.prog w (Instr.box 25 t0) fun t1 w1 =>
 opW Tryd.prog w1 (Instr.alloc 25 true (.tuple #[])) fun t2 w2 =>
 opP Tryd.prog (Instr.fieldAt 25 t1 4) fun t5 =>
 opQ Tryd.prog w2 (Instr.loadAt 23 t5) fun t6 =>
 opP Tryd.prog (Instr.fieldAt 25 t1 4) fun t7 =>
 opU Tryd.prog w2 (Instr.storeAt 23 t7 (Value.slice Option.none 0 0)) fun w3 =>
 sLoop [(Value.int .i64 0)] w3 (fun s5 _d6 w7 K4 =>
 opP Tryd.prog (Builtin.len_ #[23] 3 #[t6]) fun t10 =>
 opP Tryd.prog (bsem .lss 3 false (s5.getD 0 undef) t10) fun t11 =>
 oCond t11 (opP Tryd.prog (Instr.fieldAt 25 t1 4) fun t14 =>
 opQ Tryd.prog w7.drew (Instr.loadAt 23 t14) fun t15 =>
 opP Tryd.prog (Instr.indexAt 23 t6 (s5.getD 0 undef)) fun t18 =>
 opQ Tryd.prog w7.drew (Instr.loadAt 25 t18) fun t19 =>
 oCall Tryd.prog Tryd.n_ref06_Own #[t19] w7.drew fun t20 w8 =>
 Ext w7.drew w8 ∧
 opW Tryd.prog w8 (Instr.buildSlice 23 1 #[(0, t20)]) fun t21 w9 =>
 Ext w8 w9 ∧
 opW Tryd.prog w9 (Builtin.append_ #[23, 23] 23 #[t15, t21]) fun t22 w10 =>
 opP Tryd.prog (Instr.fieldAt 25 t1 4) fun t23 =>
 opU Tryd.prog w10 (Instr.storeAt 23 t23 t22) fun w11 =>
 opP Tryd.prog (bsem .add 3 true (s5.getD 0 undef) (Value.int .i64 1)) fun t13 =>
 K4 [t13] w11) (opQ Tryd.prog w7 (Instr.loadAt 25 t1) fun t24 =>
 opU Tryd.prog w7 (Instr.storeAt 25 t2 t24) fun w12 =>
 opQ Tryd.prog w12 (cellSem 25 t2) fun r13 =>
 K r13 w12))
theorem Tryd.E_ref06_Own (t0 : Value) (w : World) (K : Value → World → Prop) : sw ⟨false, false⟩ Tryd.prog (fun _ _ => False) Tryd.A_ref06_Own (bodyOf Tryd.f79) [t0, undef, undef, undef, undef, undef, undef, undef, undef, undef, undef, undef, undef, undef, undef, undef, undef, undef, undef, undef, undef, undef, undef, undef, undef] w (topQ false Tryd.prog Tryd.f79 w K) = Tryd.F_ref06_Own t0 w K := by kernel_rfl
theorem Tryd.C_ref06_Own : chk ⟨false, false⟩ Tryd.prog false Tryd.A_ref06_Own (bodyOf Tryd.f79) = true := by kernel_rfl
theorem Tryd.ok_ref06_Own {t0 : Value} {w : World} {K : Value → World → Prop} (h : Tryd.F_ref06_Own t0 w K) : oCall Tryd.prog Tryd.n_ref06_Own #[t0] w K :=
  calls_of_sw (cf := ⟨false, false⟩) Tryd.mixed Tryd.func79 rfl Tryd.C_ref06_Own ((Tryd.E_ref06_Own t0 w K).mpr h)

/- 80: loanword/loanwordref06.alike -/
def Tryd.A_ref06_alike : Ann := .s (.r (.op 0 .l (.op 1 .l (.op 2 .p (.nil))))) (.s (.s (.r (.op 0 .p (.op 1 .q (.op 2 .p (.op 3 .q (.op 4 .p (.op 5 .p (.grp 12 false [(6, .p), (7, .q), (8, .p), (9, .q), (10, .p)] [17] (.op 11 .p (.op 12 .p (.grp 19 false [(13, .p), (14, .q), (15, .p), (16, .q), (17, .p)] [24] (.op 18 .p (.op 19 .p (.grp 26 false [(20, .p), (21, .p)] [28] (.grp 28 true [(22, .p), (23, .q), (24, .p), (25, .q), (26, .p)] [33] (.grp 26 false [(27, .p)] [34] (.op 28 .p (.nil)))))))))))))))))) (.c (.s (.r (.op 0 .p (.nil))) (.n)) (.n))) (.s (.r (.op 0 .p (.op 1 .q (.op 2 .p (.op 3 .p (.op 4 .p (.grp 40 false [(5, .p), (6, .q), (7, .p), (8, .q), (9, .p), (10, .q), (11, .p), (12, .q), (13, .p), (14, .l)] [50] (.op 15 .p (.op 16 .p (.nil)))))))))) (.n)))
def Tryd.F_ref06_alike (t0 : Value) (t1 : Value) (t2 : Value) (w : World) (K : Value → World → Prop) : Prop :=
 opW Tryd.prog w (Instr.box 25 t0) fun t3 w1 =>
 opW Tryd.prog w1 (Instr.box 25 t1) fun t4 w2 =>
 opP Tryd.prog (Instr.fieldAt 25 t3 0) fun t7 =>
 opQ Tryd.prog w2 (Instr.loadAt 22 t7) fun t8 =>
 opP Tryd.prog (Instr.fieldAt 25 t4 0) fun t9 =>
 opQ Tryd.prog w2 (Instr.loadAt 22 t9) fun t10 =>
 opP Tryd.prog (bsem .neq 22 false t8 t10) fun t11 =>
 sJoin (fun K3 => gIf t11 false (opP Tryd.prog (Instr.fieldAt 25 t3 1) fun t13 =>
 opQ Tryd.prog w2 (Instr.loadAt 4 t13) fun t14 =>
 opP Tryd.prog (Instr.fieldAt 25 t4 1) fun t15 =>
 opQ Tryd.prog w2 (Instr.loadAt 4 t15) fun t16 =>
 opP Tryd.prog (bsem .neq 4 false t14 t16) fun t17 =>
 K3 [t17] w2) (K3 [undef] w2)) (fun s4 _d5 w6 =>
 oPick t11 (Value.bool true) (s4.getD 0 undef) fun t18 =>
 sJoin (fun K7 => gIf t18 false (opP Tryd.prog (Instr.fieldAt 25 t3 3) fun t20 =>
 opQ Tryd.prog w6 (Instr.loadAt 3 t20) fun t21 =>
 opP Tryd.prog (Instr.fieldAt 25 t4 3) fun t22 =>
 opQ Tryd.prog w6 (Instr.loadAt 3 t22) fun t23 =>
 opP Tryd.prog (bsem .neq 3 false t21 t23) fun t24 =>
 K7 [t24] w6) (K7 [undef] w6)) (fun s8 _d9 w10 =>
 oPick t18 (Value.bool true) (s8.getD 0 undef) fun t25 =>
 sJoin (fun K11 => gIf t25 false (K11 [t2] w10) (K11 [undef] w10)) (fun s12 _d13 w14 =>
 sJoin (fun K15 => gIf (s12.getD 0 undef) true (opP Tryd.prog (Instr.fieldAt 25 t3 2) fun t29 =>
 opQ Tryd.prog w14 (Instr.loadAt 3 t29) fun t30 =>
 opP Tryd.prog (Instr.fieldAt 25 t4 2) fun t31 =>
 opQ Tryd.prog w14 (Instr.loadAt 3 t31) fun t32 =>
 opP Tryd.prog (bsem .neq 3 false t30 t32) fun t33 =>
 K15 [t33] w14) (K15 [undef] w14)) (fun s16 _d17 w18 =>
 sJoin (fun K19 => gIf t25 false (oPick (s12.getD 0 undef) (s16.getD 0 undef) (Value.bool false) fun t34 =>
 K19 [t34] w18) (K19 [undef] w18)) (fun s20 _d21 w22 =>
 oPick t25 (Value.bool true) (s20.getD 0 undef) fun t35 =>
 oCond t35 (K (Value.bool false) w22) (opP Tryd.prog (Instr.fieldAt 25 t3 4) fun t36 =>
 opQ Tryd.prog w22.drew (Instr.loadAt 23 t36) fun t37 =>
 opP Tryd.prog (Builtin.len_ #[23] 3 #[t37]) fun t38 =>
 opP Tryd.prog (bsem .eql 3 true t38 (Value.int .i64 0)) fun t39 =>
 sJoin (fun K23 => gIf t39 false (opP Tryd.prog (Instr.fieldAt 25 t3 4) fun t41 =>
 opQ Tryd.prog w22.drew (Instr.loadAt 23 t41) fun t42 =>
 opP Tryd.prog (Instr.indexAt 23 t42 (Value.int .i64 0)) fun t43 =>
 opQ Tryd.prog w22.drew (Instr.loadAt 25 t43) fun t44 =>
 opP Tryd.prog (Instr.fieldAt 25 t4 4) fun t45 =>
 opQ Tryd.prog w22.drew (Instr.loadAt 23 t45) fun t46 =>
 opP Tryd.prog (Instr.indexAt 23 t46 (Value.int .i64 0)) fun t47 =>
 opQ Tryd.prog w22.drew (Instr.loadAt 25 t47) fun t48 =>
 oCall Tryd.prog Tryd.n_ref06_alike #[t44, t48, t2] w22.drew fun t50 w27 =>
 K23 [t50] w27) (K23 [undef] w22.drew)) (fun s24 _d25 w26 =>
 oPick t39 (Value.bool true) (s24.getD 0 undef) fun t51 =>
 K t51 w26)))))))
theorem Tryd.E_ref06_alike (t0 t1 t2 : Value) (w : World) (K : Value → World → Prop) : sw ⟨false, false⟩ Tryd.prog (fun _ _ => False) Tryd.A_ref06_alike (bodyOf Tryd.f80) [t0, t1, t2, undef, undef, undef, undef, undef, undef, undef, undef, undef, undef, undef, undef, undef, undef, undef, undef, undef, undef, undef, undef, undef, undef, undef, undef, undef, undef, undef, undef, undef, undef, undef, undef, undef, undef, undef, undef, undef, undef, undef, undef, undef, undef, undef, undef, undef, undef, undef, undef, undef] w (topQ false Tryd.prog Tryd.f80 w K) = Tryd.F_ref06_alike t0 t1 t2 w K := by kernel_rfl
theorem Tryd.C_ref06_alike : chk ⟨false, false⟩ Tryd.prog false Tryd.A_ref06_alike (bodyOf Tryd.f80) = true := by kernel_rfl
theorem Tryd.ok_ref06_alike {t0 t1 t2 : Value} {w : World} {K : Value → World → Prop} (h : Tryd.F_ref06_alike t0 t1 t2 w K) : oCall Tryd.prog Tryd.n_ref06_alike #[t0, t1, t2] w K :=
  calls_of_sw (cf := ⟨false, false⟩) Tryd.mixed Tryd.func80 rfl Tryd.C_ref06_alike ((Tryd.E_ref06_alike t0 t1 t2 w K).mpr h)

/- 39: loanword/loanwordref06.Alike -/
def Tryd.A_ref06_Alike : Ann := .s (.r (.op 0 .l (.op 1 .l (.op 2 .p (.nil))))) (.s (.r (.op 0 .q (.op 1 .l (.op 2 .p (.grp 7 true [(3, .q), (4, .l)] [9] (.op 5 .p (.op 6 .p (.grp 11 true [(7, .q), (8, .q), (9, .l)] [14] (.op 10 .p (.op 11 .p (.nil))))))))))) (.n))
def Tryd.F_ref06_Alike (t0 : Value) (t1 : Value) (w : World) (K : Value → World → Prop) : Prop :=
 opW Tryd.prog w (Instr.box 25 t0) fun t2 w1 =>
 opW Tryd.prog w1 (Instr.box 25 t1) fun t3 w2 =>
 opQ Tryd.prog w2 (Instr.loadAt 25 t2) fun t5 =>
 oCall Tryd.prog Tryd.n_ref06_Is #[t5] w2 fun t6 w3 =>
 sJoin (fun K4 => gIf t6 true (opQ Tryd.prog w3 (Instr.loadAt 25 t3) fun t8 =>
 oCall Tryd.prog Tryd.n_ref06_Is #[t8] w3 fun t9 w8 =>
 K4 [t9] w8) (K4 [undef] w3)) (fun s5 _d6 w7 =>
 oPick t6 (s5.getD 0 undef) (Value.bool false) fun t10 =>
 sJoin (fun K9 => gIf t10 true (opQ Tryd.prog w7 (Instr.loadAt 25 t2) fun t12 =>
 opQ Tryd.prog w7 (Instr.loadAt 25 t3) fun t13 =>
 oCall Tryd.prog Tryd.n_ref06_alike #[t12, t13, (Value.bool false)] w7 fun t14 w13 =>
 K9 [t14] w13) (K9 [undef] w7)) (fun s10 _d11 w12 =>
 oPick t10 (s10.getD 0 undef) (Value.bool false) fun t15 =>
 K t15 w12))
theorem Tryd.E_ref06_Alike (t0 t1 : Value) (w : World) (K : Value → World → Prop) : sw ⟨false, false⟩ Tryd.prog (fun _ _ => False) Tryd.A_ref06_Alike (bodyOf Tryd.f39) [t0, t1, undef, undef, undef, undef, undef, undef, undef, undef, undef, undef, undef, undef, undef, undef] w (topQ false Tryd.prog Tryd.f39 w K) = Tryd.F_ref06_Alike t0 t1 w K := by kernel_rfl
theorem Tryd.C_ref06_Alike : chk ⟨false, false⟩ Tryd.prog false Tryd.A_ref06_Alike (bodyOf Tryd.f39) = true := by kernel_rfl
theorem Tryd.ok_ref06_Alike {t0 t1 : Value} {w : World} {K : Value → World → Prop} (h : Tryd.F_ref06_Alike t0 t1 w K) : oCall Tryd.prog Tryd.n_ref06_Alike #[t0, t1] w K :=
  calls_of_sw (cf := ⟨false, false⟩) Tryd.mixed Tryd.func39 rfl Tryd.C_ref06_Alike ((Tryd.E_ref06_Alike t0 t1 w K).mpr h)

/- 40: loanword/loanwordref06.Same -/
def Tryd.A_ref06_Same : Ann := .s (.r (.op 0 .l (.op 1 .l (.op 2 .p (.nil))))) (.s (.r (.op 0 .q (.op 1 .l (.op 2 .p (.grp 7 true [(3, .q), (4, .l)] [9] (.op 5 .p (.op 6 .p (.grp 11 true [(7, .q), (8, .q), (9, .l)] [14] (.op 10 .p (.op 11 .p (.nil))))))))))) (.n))
def Tryd.F_ref06_Same (t0 : Value) (t1 : Value) (w : World) (K : Value → World → Prop) : Prop :=
 opW Tryd.prog w (Instr.box 25 t0) fun t2 w1 =>
 opW Tryd.prog w1 (Instr.box 25 t1) fun t3 w2 =>
 opQ Tryd.prog w2 (Instr.loadAt 25 t2) fun t5 =>
 oCall Tryd.prog Tryd.n_ref06_Is #[t5] w2 fun t6 w3 =>
 sJoin (fun K4 => gIf t6 true (opQ Tryd.prog w3 (Instr.loadAt 25 t3) fun t8 =>
 oCall Tryd.prog Tryd.n_ref06_Is #[t8] w3 fun t9 w8 =>
 K4 [t9] w8) (K4 [undef] w3)) (fun s5 _d6 w7 =>
 oPick t6 (s5.getD 0 undef) (Value.bool false) fun t10 =>
 sJoin (fun K9 => gIf t10 true (opQ Tryd.prog w7 (Instr.loadAt 25 t2) fun t12 =>
 opQ Tryd.prog w7 (Instr.loadAt 25 t3) fun t13 =>
 oCall Tryd.prog Tryd.n_ref06_alike #[t12, t13, (Value.bool true)] w7 fun t14 w13 =>
 K9 [t14] w13) (K9 [undef] w7)) (fun s10 _d11 w12 =>
 oPick t10 (s10.getD 0 undef) (Value.bool false) fun t15 =>
 K t15 w12))
theorem Tryd.E_ref06_Same (t0 t1 : Value) (w : World) (K : Value → World → Prop) : sw ⟨false, false⟩ Tryd.prog (fun _ _ => False) Tryd.A_ref06_Same (bodyOf Tryd.f40) [t0, t1, undef, undef, undef, undef, undef, undef, undef, undef, undef, undef, undef, undef, undef, undef] w (topQ false Tryd.prog Tryd.f40 w K) = Tryd.F_ref06_Same t0 t1 w K := by kernel_rfl
theorem Tryd.C_ref06_Same : chk ⟨false, false⟩ Tryd.prog false Tryd.A_ref06_Same (bodyOf Tryd.f40) = true := by kernel_rfl
theorem Tryd.ok_ref06_Same {t0 t1 : Value} {w : World} {K : Value → World → Prop} (h : Tryd.F_ref06_Same t0 t1 w K) : oCall Tryd.prog Tryd.n_ref06_Same #[t0, t1] w K :=
  calls_of_sw (cf := ⟨false, false⟩) Tryd.mixed Tryd.func40 rfl Tryd.C_ref06_Same ((Tryd.E_ref06_Same t0 t1 w K).mpr h)

/- 42: loanword/loanwordref06.Regions -/
def Tryd.A_ref06_Regions : Ann := .s (.r (.op 0 .l (.op 1 .p (.nil)))) (.s (.s (.r (.op 0 .q (.op 1 .l (.op 2 .p (.nil))))) (.c (.s (.r (.op 0 .p (.nil))) (.n)) (.n))) (.s (.r (.op 0 .p (.nil))) (.s (.b (.lp [3] (.s (.s (.r (.op 0 .p (.op 1 .q (.op 2 .p (.op 3 .p (.grp 10 false [(4, .p), (5, .q), (6, .p)] [13] (.op 7 .p (.nil)))))))) (.c (.n) (.n))) (.b (.j [3] (.s (.r (.op 0 .p (.op 1 .q (.op 2 .p (.nil))))) (.c (.r (.op 0 .p (.op 1 .p (.op 2 .q (.op 3 .l (.op 4 .l (.op 5 .p (.nil)))))))) (.n))) (.r (.op 0 .p (.op 1 .q (.op 2 .p (.op 3 .q (.op 4 .l (.nil)))))))))))) (.s (.r (.op 0 .p (.op 1 .p (.nil)))) (.n)))))
def Tryd.F_ref06_Regions (t0 : Value) (w : World) (K : Value → World → Prop) : Prop :=
 opW Tryd.prog w (Instr.box 25 t0) fun t1 w1 =>
 opQ Tryd.prog w1 (Instr.loadAt 25 t1) fun t4 =>
 oCall Tryd.prog Tryd.n_ref06_Is #[t4] w1 fun t5 w2 =>
 opP Tryd.prog (Op.unary .not t5) fun t6 =>
 oCond t6 (K (Value.slice Option.none 0 0) w2) (sLoop [(Value.slice Option.none 0 0)] w2 (fun s4 _d5 w6 K3 =>
 opP Tryd.prog (Instr.fieldAt 25 t1 0) fun t7 =>
 opQ Tryd.prog w6 (Instr.loadAt 22 t7) fun t8 =>
 opP Tryd.prog (bsem .eql 22 true t8 (Value.int .u8 4)) fun t9 =>
 sJoin (fun K7 => gIf t9 false (opP Tryd.prog (Instr.fieldAt 25 t1 0) fun t11 =>
 opQ Tryd.prog w6 (Instr.loadAt 22 t11) fun t12 =>
 opP Tryd.prog (bsem .eql 22 true t12 (Value.int .u8 3)) fun t13 =>
 K7 [t13] w6) (K7 [undef] w6)) (fun s8 _d9 w10 =>
 oPick t9 (Value.bool true) (s8.getD 0 undef) fun t14 =>
 oCond t14 (sJoin (fun K11 =>
 opP Tryd.prog (Instr.fieldAt 25 t1 0) fun t15 =>
 opQ Tryd.prog w10 (Instr.loadAt 22 t15) fun t16 =>
 opP Tryd.prog (bsem .eql 22 true t16 (Value.int .u8 4)) fun t17 =>
 oCond t17 (opP Tryd.prog (Instr.fieldAt 25 t1 2) fun t19 =>
 opQ Tryd.prog w10 (Instr.loadAt 3 t19) fun t20 =>
 opW Tryd.prog w10 (Instr.buildSlice 68 1 #[(0, t20)]) fun t21 w15 =>
 opW Tryd.prog w15 (Builtin.append_ #[68, 68] 68 #[(s4.getD 0 undef), t21]) fun t22 w16 =>
 K11 [t22] w16) (K11 [(s4.getD 0 undef)] w10)) (fun s12 _d13 w14 =>
 opP Tryd.prog (Instr.fieldAt 25 t1 4) fun t23 =>
 opQ Tryd.prog w14 (Instr.loadAt 23 t23) fun t24 =>
 opP Tryd.prog (Instr.indexAt 23 t24 (Value.int .i64 0)) fun t25 =>
 opQ Tryd.prog w14 (Instr.loadAt 25 t25) fun t26 =>
 opU Tryd.prog w14 (Instr.storeAt 25 t1 t26) fun w17 =>
 K3 [(s12.getD 0 undef)] w17)) (K (s4.getD 0 undef) w10))))
theorem Tryd.E_ref06_Regions (t0 : Value) (w : World) (K : Value → World → Prop) : sw ⟨false, false⟩ Tryd.prog (fun _ _ => False) Tryd.A_ref06_Regions (bodyOf Tryd.f42) [t0, undef, undef, undef, undef, undef, undef, undef, undef, undef, undef, undef, undef, undef, undef, undef, undef, undef, undef, undef, undef, undef, undef, undef, undef, undef, undef, undef] w (topQ false Tryd.prog Tryd.f42 w K) = Tryd.F_ref06_Regions t0 w K := by kernel_rfl
theorem Tryd.C_ref06_Regions : chk ⟨false, false⟩ Tryd.prog false Tryd.A_ref06_Regions (bodyOf Tryd.f42) = true := by kernel_rfl
theorem Tryd.ok_ref06_Regions {t0 : Value} {w : World} {K : Value → World → Prop} (h : Tryd.F_ref06_Regions t0 w K) : oCall Tryd.prog Tryd.n_ref06_Regions #[t0] w K :=
  calls_of_sw (cf := ⟨false, false⟩) Tryd.mixed Tryd.func42 rfl Tryd.C_ref06_Regions ((Tryd.E_ref06_Regions t0 w K).mpr h)

/- 83: loanword/loanwordref06.laid -/
def Tryd.A_ref06_laid : Ann := .s (.r (.op 0 .l (.op 1 .l (.nil)))) (.j [1] (.s (.r (.op 0 .p (.op 1 .q (.op 2 .p (.nil))))) (.c (.s (.r (.op 0 .p (.op 1 .p (.op 2 .q (.op 3 .p (.op 4 .l (.nil))))))) (.r (.op 0 .p (.op 1 .p (.op 2 .p (.nil)))))) (.n))) (.j [] (.s (.r (.op 0 .p (.op 1 .q (.op 2 .p (.op 3 .p (.nil)))))) (.c (.r (.op 0 .p (.op 1 .q (.op 2 .p (.op 3 .q (.op 4 .p (.op 5 .l (.op 6 .l (.op 7 .p (.op 8 .l (.nil))))))))))) (.n))) (.s (.r (.op 0 .q (.op 1 .l (.nil)))) (.n))))
def Tryd.F_ref06_laid (t0 : Value) (t1 : Value) (w : World) (K : Value → World → Prop) : Prop :=
 opW Tryd.prog w (Instr.box 25 t0) fun t2 w1 =>
 opW Tryd.prog w1 (Instr.alloc 25 true (.tuple #[])) fun t4 w2 =>
 sJoin (fun K3 =>
 opP Tryd.prog (Instr.fieldAt 25 t2 0) fun t5 =>
 opQ Tryd.prog w2 (Instr.loadAt 22 t5) fun t6 =>
 opP Tryd.prog (bsem .eql 22 true t6 (Value.int .u8 4)) fun t7 =>
 oCond t7 (opP Tryd.prog (Instr.indexAt 68 t1 (Value.int .i64 0)) fun t9 =>
 opQ Tryd.prog w2 (Instr.loadAt 3 t9) fun t10 =>
 opP Tryd.prog (Instr.fieldAt 25 t2 2) fun t11 =>
 opU Tryd.prog w2 (Instr.storeAt 3 t11 t10) fun w7 =>
 opP Tryd.prog (Instr.sliceAt 68 t1 (some (Value.int .i64 1)) none none) fun t13 =>
 K3 [t13] w7) (K3 [t1] w2)) (fun s4 _d5 w6 =>
 sJoin (fun K8 =>
 opP Tryd.prog (Instr.fieldAt 25 t2 4) fun t14 =>
 opQ Tryd.prog w6 (Instr.loadAt 23 t14) fun t15 =>
 opP Tryd.prog (Builtin.len_ #[23] 3 #[t15]) fun t16 =>
 opP Tryd.prog (bsem .gtr 3 true t16 (Value.int .i64 0)) fun t17 =>
 oCond t17 (opP Tryd.prog (Instr.fieldAt 25 t2 4) fun t18 =>
 opQ Tryd.prog w6 (Instr.loadAt 23 t18) fun t19 =>
 opP Tryd.prog (Instr.indexAt 23 t19 (Value.int .i64 0)) fun t20 =>
 opQ Tryd.prog w6 (Instr.loadAt 25 t20) fun t21 =>
 oCall Tryd.prog Tryd.n_ref06_laid #[t21, (s4.getD 0 undef)] w6 fun t23 w12 =>
 opW Tryd.prog w12 (Instr.buildSlice 23 1 #[(0, t23)]) fun t24 w13 =>
 opP Tryd.prog (Instr.fieldAt 25 t2 4) fun t25 =>
 opU Tryd.prog w13 (Instr.storeAt 23 t25 t24) fun w14 =>
 K8 [] w14) (K8 [] w6)) (fun _s9 _d10 w11 =>
 opQ Tryd.prog w11 (Instr.loadAt 25 t2) fun t26 =>
 opU Tryd.prog w11 (Instr.storeAt 25 t4 t26) fun w15 =>
 opQ Tryd.prog w15 (cellSem 25 t4) fun r16 =>
 K r16 w15))
theorem Tryd.E_ref06_laid (t0 t1 : Value) (w : World) (K : Value → World → Prop) : sw ⟨false, false⟩ Tryd.prog (fun _ _ => False) Tryd.A_ref06_laid (bodyOf Tryd.f83) [t0, t1, undef, undef, undef, undef, undef, undef, undef, undef, undef, undef, undef, undef, undef, undef, undef, undef, undef, undef, undef, undef, undef, undef, undef, undef, undef] w (topQ false Tryd.prog Tryd.f83 w K) = Tryd.F_ref06_laid t0 t1 w K := by kernel_rfl
theorem Tryd.C_ref06_laid : chk ⟨false, false⟩ Tryd.prog false Tryd.A_ref06_laid (bodyOf Tryd.f83) = true := by kernel_rfl
theorem Tryd.ok_ref06_laid {t0 t1 : Value} {w : World} {K : Value → World → Prop} (h : Tryd.F_ref06_laid t0 t1 w K) : oCall Tryd.prog Tryd.n_ref06_laid #[t0, t1] w K :=
  calls_of_sw (cf := ⟨false, false⟩) Tryd.mixed Tryd.func83 rfl Tryd.C_ref06_laid ((Tryd.E_ref06_laid t0 t1 w K).mpr h)

/- 44: loanword/loanwordref06.Number -/
def Tryd.A_ref06_Number : Ann := .s (.r (.op 0 .l (.op 1 .l (.op 2 .p (.op 3 .p (.nil)))))) (.s (.s (.r (.op 0 .q (.op 1 .l (.op 2 .p (.op 3 .p (.grp 12 false [(4, .p), (5, .p)] [14] (.op 6 .p (.op 7 .p (.grp 16 false [(8, .p), (9, .p)] [18] (.op 10 .p (.nil))))))))))) (.c (.s (.r (.op 0 .p (.op 1 .l (.op 2 .p (.op 3 .p (.nil)))))) (.n)) (.n))) (.s (.r (.op 0 .q (.op 1 .l (.op 2 .p (.nil))))) (.s (.s (.r (.op 0 .p (.nil))) (.b (.lp [8] (.s (.s (.r (.op 0 .p (.op 1 .p (.op 2 .p (.op 3 .p (.nil)))))) (.c (.n) (.n))) (.s (.b (.r (.op 0 .p (.op 1 .p (.op 2 .p (.op 3 .p (.op 4 .p (.op 5 .p (.op 6 .l (.nil)))))))))) (.r (.op 0 .p (.op 1 .p (.op 2 .p (.nil)))))))))) (.s (.r (.op 0 .q (.op 1 .p (.op 2 .l (.op 3 .p (.op 4 .p (.op 5 .p (.op 6 .p (.op 7 .l (.op 8 .p (.op 9 .p (.nil)))))))))))) (.n)))))
def Tryd.F_ref06_Number (t0 : Value) (t1 : Value) (w : World) (K : Value → World → Prop) : Prop :=
 opW Tryd.prog w (Instr.box 25 t0) fun t2 w1 =>
 opW Tryd.prog w1 (Instr.alloc 25 true (.tuple #[])) fun t4 w2 =>
 opQ Tryd.prog w2 (Instr.loadAt 25 t2) fun t9 =>
 oCall Tryd.prog Tryd.n_ref06_Is #[t9] w2 fun t10 w3 =>
 opP Tryd.prog (Op.unary .not t10) fun t11 =>
 sJoin (fun K4 => gIf t11 false (opP Tryd.prog (bsem .lss 3 true t1 (Value.int .i64 0)) fun t14 =>
 K4 [t14] w3) (K4 [undef] w3)) (fun s5 _d6 w7 =>
 oPick t11 (Value.bool true) (s5.getD 0 undef) fun t15 =>
 sJoin (fun K8 => gIf t15 false (opP Tryd.prog (bsem .gtr 3 true t1 (Value.int .i64 512)) fun t18 =>
 K8 [t18] w7) (K8 [undef] w7)) (fun s9 _d10 w11 =>
 oPick t15 (Value.bool true) (s9.getD 0 undef) fun t19 =>
 oCond t19 (opP Tryd.prog (Instr.build 25 #[]) fun t20 =>
 opU Tryd.prog w11 (Instr.storeAt 25 t4 t20) fun w12 =>
 opQ Tryd.prog w12 (cellSem 25 t4) fun r13 =>
 K (.tuple #[r13, (Value.int .i64 0), (Value.int .i64 2)]) w12) (opQ Tryd.prog w11 (Instr.loadAt 25 t2) fun t21 =>
 oCall Tryd.prog Tryd.n_ref06_Regions #[t21] w11 fun t22 w14 =>
 sLoop [(Value.int .i64 0)] w14 (fun s16 _d17 w18 K15 =>
 opP Tryd.prog (Builtin.len_ #[68] 3 #[t22]) fun t25 =>
 opP Tryd.prog (bsem .lss 3 false (s16.getD 0 undef) t25) fun t26 =>
 oCond t26 (opP Tryd.prog (bsem .add 3 false t1 (s16.getD 0 undef)) fun t33 =>
 opP Tryd.prog (Instr.indexAt 68 t22 (s16.getD 0 undef)) fun t34 =>
 opU Tryd.prog w18 (Instr.storeAt 3 t34 t33) fun w19 =>
 opP Tryd.prog (bsem .add 3 true (s16.getD 0 undef) (Value.int .i64 1)) fun t28 =>
 K15 [t28] w19) (opQ Tryd.prog w18 (Instr.loadAt 25 t2) fun t35 =>
 oCall Tryd.prog Tryd.n_ref06_laid #[t35, t22] w18 fun t37 w20 =>
 opP Tryd.prog (Builtin.len_ #[68] 3 #[t22]) fun t40 =>
 opP Tryd.prog (bsem .add 3 false t1 t40) fun t41 =>
 opU Tryd.prog w20 (Instr.storeAt 25 t4 t37) fun w21 =>
 opQ Tryd.prog w21 (cellSem 25 t4) fun r22 =>
 K (.tuple #[r22, t41, (Value.int .i64 0)]) w21)))))
theorem Tryd.E_ref06_Number (t0 t1 : Value) (w : World) (K : Value → World → Prop) : sw ⟨false, false⟩ Tryd.prog (fun _ _ => False) Tryd.A_ref06_Number (bodyOf Tryd.f44) [t0, t1, undef, undef, undef, undef, undef, undef, undef, undef, undef, undef, undef, undef, undef, undef, undef, undef, undef, undef, undef, undef, undef, undef, undef, undef, undef, undef, undef, undef, undef, undef, undef, undef, undef, undef, undef, undef, undef, undef, undef, undef] w (topQ false Tryd.prog Tryd.f44 w K) = Tryd.F_ref06_Number t0 t1 w K := by kernel_rfl
theorem Tryd.C_ref06_Number : chk ⟨false, false⟩ Tryd.prog false Tryd.A_ref06_Number (bodyOf Tryd.f44) = true := by kernel_rfl
theorem Tryd.ok_ref06_Number {t0 t1 : Value} {w : World} {K : Value → World → Prop} (h : Tryd.F_ref06_Number t0 t1 w K) : oCall Tryd.prog Tryd.n_ref06_Number #[t0, t1] w K :=
  calls_of_sw (cf := ⟨false, false⟩) Tryd.mixed Tryd.func44 rfl Tryd.C_ref06_Number ((Tryd.E_ref06_Number t0 t1 w K).mpr h)

/- 46: loanword/loanwordref06.Anew -/
def Tryd.A_ref06_Anew : Ann := .s (.r (.op 0 .l (.op 1 .l (.op 2 .p (.nil))))) (.s (.s (.r (.op 0 .q (.op 1 .l (.op 2 .p (.op 3 .p (.grp 10 false [(4, .p), (5, .p), (6, .q), (7, .l), (8, .p), (9, .p)] [16] (.op 10 .p (.nil)))))))) (.c (.s (.r (.op 0 .p (.op 1 .l (.op 2 .p (.nil))))) (.n)) (.n))) (.s (.s (.r (.op 0 .p (.nil))) (.b (.lp [6] (.s (.s (.r (.op 0 .p (.op 1 .p (.op 2 .p (.op 3 .p (.nil)))))) (.c (.n) (.n))) (.s (.b (.s (.r (.op 0 .p (.op 1 .p (.op 2 .p (.op 3 .q (.op 4 .p (.nil))))))) (.c (.s (.r (.op 0 .p (.op 1 .l (.op 2 .p (.nil))))) (.n)) (.n)))) (.r (.op 0 .p (.op 1 .p (.op 2 .p (.nil)))))))))) (.s (.r (.op 0 .q (.op 1 .p (.op 2 .l (.op 3 .l (.op 4 .p (.nil))))))) (.n))))
def Tryd.F_ref06_Anew (t0 : Value) (t1 : Value) (w : World) (K : Value → World → Prop) : Prop :=
 opW Tryd.prog w (Instr.box 25 t0) fun t2 w1 =>
 opW Tryd.prog w1 (Instr.alloc 25 true (.tuple #[])) fun t4 w2 =>
 opQ Tryd.prog w2 (Instr.loadAt 25 t2) fun t7 =>
 oCall Tryd.prog Tryd.n_ref06_Is #[t7] w2 fun t8 w3 =>
 opP Tryd.prog (Op.unary .not t8) fun t9 =>
 sJoin (fun K4 => gIf t9 false (opP Tryd.prog (Builtin.len_ #[68] 3 #[t1]) fun t12 =>
 opQ Tryd.prog w3 (Instr.loadAt 25 t2) fun t13 =>
 oCall Tryd.prog Tryd.n_ref06_Regions #[t13] w3 fun t14 w8 =>
 opP Tryd.prog (Builtin.len_ #[68] 3 #[t14]) fun t15 =>
 opP Tryd.prog (bsem .neq 3 false t12 t15) fun t16 =>
 K4 [t16] w8) (K4 [undef] w3)) (fun s5 _d6 w7 =>
 oPick t9 (Value.bool true) (s5.getD 0 undef) fun t17 =>
 oCond t17 (opP Tryd.prog (Instr.build 25 #[]) fun t18 =>
 opU Tryd.prog w7 (Instr.storeAt 25 t4 t18) fun w9 =>
 opQ Tryd.prog w9 (cellSem 25 t4) fun r10 =>
 K (.tuple #[r10, (Value.int .i64 2)]) w9) (sLoop [(Value.int .i64 0)] w7 (fun s12 _d13 w14 K11 =>
 opP Tryd.prog (Builtin.len_ #[68] 3 #[t1]) fun t21 =>
 opP Tryd.prog (bsem .lss 3 false (s12.getD 0 undef) t21) fun t22 =>
 oCond t22 (opP Tryd.prog (Instr.indexAt 68 t1 (s12.getD 0 undef)) fun t27 =>
 opQ Tryd.prog w14 (Instr.loadAt 3 t27) fun t28 =>
 opP Tryd.prog (bsem .lss 3 true t28 (Value.int .i64 (-1))) fun t29 =>
 oCond t29 (opP Tryd.prog (Instr.build 25 #[]) fun t30 =>
 opU Tryd.prog w14 (Instr.storeAt 25 t4 t30) fun w15 =>
 opQ Tryd.prog w15 (cellSem 25 t4) fun r16 =>
 K (.tuple #[r16, (Value.int .i64 2)]) w15) (opP Tryd.prog (bsem .add 3 true (s12.getD 0 undef) (Value.int .i64 1)) fun t24 =>
 K11 [t24] w14)) (opQ Tryd.prog w14 (Instr.loadAt 25 t2) fun t31 =>
 oCall Tryd.prog Tryd.n_ref06_laid #[t31, t1] w14 fun t33 w17 =>
 opU Tryd.prog w17 (Instr.storeAt 25 t4 t33) fun w18 =>
 opQ Tryd.prog w18 (cellSem 25 t4) fun r19 =>
 K (.tuple #[r19, (Value.int .i64 0)]) w18))))
theorem Tryd.E_ref06_Anew (t0 t1 : Value) (w : World) (K : Value → World → Prop) : sw ⟨false, false⟩ Tryd.prog (fun _ _ => False) Tryd.A_ref06_Anew (bodyOf Tryd.f46) [t0, t1, undef, undef, undef, undef, undef, undef, undef, undef, undef, undef, undef, undef, undef, undef, undef, undef, undef, undef, undef, undef, undef, undef, undef, undef, undef, undef, undef, undef, undef, undef, undef, undef] w (topQ false Tryd.prog Tryd.f46 w K) = Tryd.F_ref06_Anew t0 t1 w K := by kernel_rfl
theorem Tryd.C_ref06_Anew : chk ⟨false, false⟩ Tryd.prog false Tryd.A_ref06_Anew (bodyOf Tryd.f46) = true := by kernel_rfl
theorem Tryd.ok_ref06_Anew {t0 t1 : Value} {w : World} {K : Value → World → Prop} (h : Tryd.F_ref06_Anew t0 t1 w K) : oCall Tryd.prog Tryd.n_ref06_Anew #[t0, t1] w K :=
  calls_of_sw (cf := ⟨false, false⟩) Tryd.mixed Tryd.func46 rfl Tryd.C_ref06_Anew ((Tryd.E_ref06_Anew t0 t1 w K).mpr h)

/- 53: loanword/loanwordref06.asks -/
def Tryd.A_ref06_asks : Ann := .s (.r (.op 0 .l (.op 1 .l (.op 2 .p (.nil))))) (.s (.s (.r (.op 0 .p (.op 1 .q (.op 2 .p (.op 3 .p (.nil)))))) (.c (.s (.r (.op 0 .p (.nil))) (.n)) (.n))) (.s (.s (.r (.op 0 .p (.op 1 .q (.op 2 .p (.nil))))) (.c (.s (.r (.op 0 .p (.op 1 .q (.op 2 .p (.op 3 .q (.op 4 .p (.op 5 .q (.op 6 .p (.op 7 .q (.op 8 .p (.op 9 .l (.op 10 .p (.nil))))))))))))) (.n)) (.n))) (.s (.r (.op 0 .p (.op 1 .q (.op 2 .p (.op 3 .q (.op 4 .p (.op 5 .l (.op 6 .p (.nil))))))))) (.j [7] (.s (.r (.op 0 .p (.nil))) (.c (.r (.op 0 .p (.op 1 .p (.op 2 .q (.op 3 .p (.op 4 .q (.op 5 .p (.op 6 .l (.op 7 .l (.op 8 .p (.nil))))))))))) (.n))) (.s (.r (.op 0 .p (.op 1 .p (.op 2 .q (.op 3 .p (.op 4 .q (.op 5 .p (.op 6 .q (.op 7 .p (.op 8 .q (.op 9 .p (.op 10 .p (.grp 50 false [(11, .p), (12, .q)] [52] (.op 13 .p (.op 14 .l (.op 15 .l (.op 16 .p (.nil)))))))))))))))))) (.n))))))
def Tryd.F_ref06_asks (t0 : Value) (t1 : Value) (t2 : Value) (w : World) (K : Value → World → Prop) : Prop :=
 opW Tryd.prog w (Instr.box 25 t0) fun t3 w1 =>
 opW Tryd.prog w1 (Instr.box 25 t1) fun t4 w2 =>
 opP Tryd.prog (Instr.fieldAt 25 t3 4) fun t8 =>
 opQ Tryd.prog w2 (Instr.loadAt 23 t8) fun t9 =>
 opP Tryd.prog (Builtin.len_ #[23] 3 #[t9]) fun t10 =>
 opP Tryd.prog (bsem .eql 3 true t10 (Value.int .i64 0)) fun t11 =>
 oCond t11 (K (Value.slice Option.none 0 0) w2) (opP Tryd.prog (Instr.fieldAt 25 t3 0) fun t12 =>
 opQ Tryd.prog w2 (Instr.loadAt 22 t12) fun t13 =>
 opP Tryd.prog (bsem .eql 22 true t13 (Value.int .u8 3)) fun t14 =>
 oCond t14 (opP Tryd.prog (Instr.fieldAt 25 t3 4) fun t15 =>
 opQ Tryd.prog w2.drew (Instr.loadAt 23 t15) fun t16 =>
 opP Tryd.prog (Instr.indexAt 23 t16 (Value.int .i64 0)) fun t17 =>
 opQ Tryd.prog w2.drew (Instr.loadAt 25 t17) fun t18 =>
 opP Tryd.prog (Instr.fieldAt 25 t4 4) fun t19 =>
 opQ Tryd.prog w2.drew (Instr.loadAt 23 t19) fun t20 =>
 opP Tryd.prog (Instr.indexAt 23 t20 (Value.int .i64 0)) fun t21 =>
 opQ Tryd.prog w2.drew (Instr.loadAt 25 t21) fun t22 =>
 oCall Tryd.prog Tryd.n_ref06_asks #[t18, t22, t2] w2.drew fun t24 w3 =>
 K t24 w3) (opP Tryd.prog (Instr.fieldAt 25 t3 2) fun t25 =>
 opQ Tryd.prog w2 (Instr.loadAt 3 t25) fun t26 =>
 opP Tryd.prog (Instr.fieldAt 25 t4 2) fun t27 =>
 opQ Tryd.prog w2 (Instr.loadAt 3 t27) fun t28 =>
 opP Tryd.prog (Instr.build 35 #[(0, t26), (1, t28)]) fun t29 =>
 opW Tryd.prog w2 (Instr.buildSlice 28 1 #[(0, t29)]) fun t30 w4 =>
 sJoin (fun K5 =>
 oCond t2 (opP Tryd.prog (Instr.fieldAt 25 t4 2) fun t33 =>
 opQ Tryd.prog w4 (Instr.loadAt 3 t33) fun t34 =>
 opP Tryd.prog (Instr.fieldAt 25 t3 2) fun t35 =>
 opQ Tryd.prog w4 (Instr.loadAt 3 t35) fun t36 =>
 opP Tryd.prog (Instr.build 35 #[(0, t34), (1, t36)]) fun t37 =>
 opW Tryd.prog w4 (Instr.buildSlice 28 1 #[(0, t37)]) fun t38 w9 =>
 opW Tryd.prog w9 (Builtin.append_ #[28, 28] 28 #[t30, t38]) fun t39 w10 =>
 K5 [t39] w10) (K5 [t30] w4)) (fun s6 _d7 w8 =>
 opP Tryd.prog (Instr.fieldAt 25 t3 4) fun t41 =>
 opQ Tryd.prog w8.drew (Instr.loadAt 23 t41) fun t42 =>
 opP Tryd.prog (Instr.indexAt 23 t42 (Value.int .i64 0)) fun t43 =>
 opQ Tryd.prog w8.drew (Instr.loadAt 25 t43) fun t44 =>
 opP Tryd.prog (Instr.fieldAt 25 t4 4) fun t45 =>
 opQ Tryd.prog w8.drew (Instr.loadAt 23 t45) fun t46 =>
 opP Tryd.prog (Instr.indexAt 23 t46 (Value.int .i64 0)) fun t47 =>
 opQ Tryd.prog w8.drew (Instr.loadAt 25 t47) fun t48 =>
 sJoin (fun K11 => gIf t2 false (opP Tryd.prog (Instr.fieldAt 25 t3 1) fun t51 =>
 opQ Tryd.prog w8.drew (Instr.loadAt 4 t51) fun t52 =>
 K11 [t52] w8.drew) (K11 [undef] w8.drew)) (fun s12 _d13 w14 =>
 oPick t2 (Value.bool true) (s12.getD 0 undef) fun t53 =>
 oCall Tryd.prog Tryd.n_ref06_asks #[t44, t48, t53] w14 fun t54 w15 =>
 opW Tryd.prog w15 (Builtin.append_ #[28, 28] 28 #[(s6.getD 0 undef), t54]) fun t55 w16 =>
 K t55 w16))))
theorem Tryd.E_ref06_asks (t0 t1 t2 : Value) (w : World) (K : Value → World → Prop) : sw ⟨false, false⟩ Tryd.prog (fun _ _ => False) Tryd.A_ref06_asks (bodyOf Tryd.f53) [t0, t1, t2, undef, undef, undef, undef, undef, undef, undef, undef, undef, undef, undef, undef, undef, undef, undef, undef, undef, undef, undef, undef, undef, undef, undef, undef, undef, undef, undef, undef, undef, undef, undef, undef, undef, undef, undef, undef, undef, undef, undef, undef, undef, undef, undef, undef, undef, undef, undef, undef, undef, undef, undef, undef, undef] w (topQ false Tryd.prog Tryd.f53 w K) = Tryd.F_ref06_asks t0 t1 t2 w K := by kernel_rfl
theorem Tryd.C_ref06_asks : chk ⟨false, false⟩ Tryd.prog false Tryd.A_ref06_asks (bodyOf Tryd.f53) = true := by kernel_rfl
theorem Tryd.ok_ref06_asks {t0 t1 t2 : Value} {w : World} {K : Value → World → Prop} (h : Tryd.F_ref06_asks t0 t1 t2 w K) : oCall Tryd.prog Tryd.n_ref06_asks #[t0, t1, t2] w K :=
  calls_of_sw (cf := ⟨false, false⟩) Tryd.mixed Tryd.func53 rfl Tryd.C_ref06_asks ((Tryd.E_ref06_asks t0 t1 t2 w K).mpr h)

/- 13: loanword/loanwordref06.Asks -/
def Tryd.A_ref06_Asks : Ann := .s (.r (.op 0 .l (.op 1 .l (.op 2 .p (.op 3 .p (.nil)))))) (.s (.s (.r (.op 0 .q (.op 1 .q (.op 2 .l (.op 3 .p (.nil)))))) (.c (.s (.r (.op 0 .p (.op 1 .p (.nil)))) (.n)) (.n))) (.s (.r (.op 0 .q (.op 1 .l (.op 2 .p (.nil))))) (.s (.r (.op 0 .p (.op 1 .q (.op 2 .l (.op 3 .l (.op 4 .p (.nil))))))) (.s (.s (.r (.op 0 .p (.nil))) (.b (.lp [7] (.s (.s (.r (.op 0 .p (.op 1 .p (.op 2 .p (.op 3 .p (.nil)))))) (.c (.n) (.n))) (.s (.b (.s (.r (.op 0 .p (.op 1 .p (.op 2 .p (.op 3 .q (.op 4 .p (.nil))))))) (.c (.s (.r (.op 0 .p (.op 1 .p (.nil)))) (.n)) (.n)))) (.r (.op 0 .p (.op 1 .p (.op 2 .p (.nil)))))))))) (.s (.r (.op 0 .q (.op 1 .q (.op 2 .l (.op 3 .p (.op 4 .p (.nil))))))) (.n))))))
def Tryd.F_ref06_Asks (t0 : Value) (t1 : Value) (w : World) (K : Value → World → Prop) : Prop :=
 opW Tryd.prog w (Instr.box 25 t0) fun t2 w1 =>
 opW Tryd.prog w1 (Instr.box 25 t1) fun t3 w2 =>
 opQ Tryd.prog w2 (Instr.loadAt 25 t2) fun t8 =>
 opQ Tryd.prog w2 (Instr.loadAt 25 t3) fun t9 =>
 oCall Tryd.prog Tryd.n_ref06_Alike #[t8, t9] w2 fun t10 w3 =>
 opP Tryd.prog (Op.unary .not t10) fun t11 =>
 oCond t11 (K (.tuple #[(Value.slice Option.none 0 0), (Value.int .i64 2)]) w3) (opQ Tryd.prog w3 (Instr.loadAt 25 t2) fun t12 =>
 oCall Tryd.prog Tryd.n_ref06_Regions #[t12] w3 fun t13 w4 =>
 opQ Tryd.prog w4 (Instr.loadAt 25 t3) fun t15 =>
 oCall Tryd.prog Tryd.n_ref06_Regions #[t15] w4 fun t16 w5 =>
 opW Tryd.prog w5 (Builtin.append_ #[68, 68] 68 #[t13, t16]) fun t17 w6 =>
 sLoop [(Value.int .i64 0)] w6 (fun s8 _d9 w10 K7 =>
 opP Tryd.prog (Builtin.len_ #[68] 3 #[t17]) fun t20 =>
 opP Tryd.prog (bsem .lss 3 false (s8.getD 0 undef) t20) fun t21 =>
 oCond t21 (opP Tryd.prog (Instr.indexAt 68 t17 (s8.getD 0 undef)) fun t26 =>
 opQ Tryd.prog w10 (Instr.loadAt 3 t26) fun t27 =>
 opP Tryd.prog (bsem .lss 3 true t27 (Value.int .i64 0)) fun t28 =>
 oCond t28 (K (.tuple #[(Value.slice Option.none 0 0), (Value.int .i64 2)]) w10) (opP Tryd.prog (bsem .add 3 true (s8.getD 0 undef) (Value.int .i64 1)) fun t23 =>
 K7 [t23] w10)) (opQ Tryd.prog w10 (Instr.loadAt 25 t2) fun t29 =>
 opQ Tryd.prog w10 (Instr.loadAt 25 t3) fun t30 =>
 oCall Tryd.prog Tryd.n_ref06_asks #[t29, t30, (Value.bool false)] w10 fun t31 w11 =>
 K (.tuple #[t31, (Value.int .i64 0)]) w11)))
theorem Tryd.E_ref06_Asks (t0 t1 : Value) (w : World) (K : Value → World → Prop) : sw ⟨false, false⟩ Tryd.prog (fun _ _ => False) Tryd.A_ref06_Asks (bodyOf Tryd.f13) [t0, t1, undef, undef, undef, undef, undef, undef, undef, undef, undef, undef, undef, undef, undef, undef, undef, undef, undef, undef, undef, undef, undef, undef, undef, undef, undef, undef, undef, undef, undef, undef] w (topQ false Tryd.prog Tryd.f13 w K) = Tryd.F_ref06_Asks t0 t1 w K := by kernel_rfl
theorem Tryd.C_ref06_Asks : chk ⟨false, false⟩ Tryd.prog false Tryd.A_ref06_Asks (bodyOf Tryd.f13) = true := by kernel_rfl
theorem Tryd.ok_ref06_Asks {t0 t1 : Value} {w : World} {K : Value → World → Prop} (h : Tryd.F_ref06_Asks t0 t1 w K) : oCall Tryd.prog Tryd.n_ref06_Asks #[t0, t1] w K :=
  calls_of_sw (cf := ⟨false, false⟩) Tryd.mixed Tryd.func13 rfl Tryd.C_ref06_Asks ((Tryd.E_ref06_Asks t0 t1 w K).mpr h)

/- 36: loanword/loanwordref06.Fields -/
def Tryd.A_ref06_Fields : Ann := .s (.r (.op 0 .l (.op 1 .p (.op 2 .p (.nil))))) (.s (.s (.r (.op 0 .p (.op 1 .q (.op 2 .l (.op 3 .p (.op 4 .p (.grp 13 false [(5, .p), (6, .q), (7, .p)] [16] (.op 8 .p (.nil))))))))) (.c (.s (.r (.op 0 .p (.op 1 .p (.nil)))) (.n)) (.n))) (.s (.r (.op 0 .p (.nil))) (.s (.r (.op 0 .p (.op 1 .p (.op 2 .q (.op 3 .p (.op 4 .p (.op 5 .q (.op 6 .p (.nil))))))))) (.s (.s (.r (.op 0 .p (.nil))) (.b (.lp [6, 8] (.s (.s (.r (.op 0 .p (.op 1 .p (.op 2 .p (.op 3 .p (.nil)))))) (.c (.n) (.n))) (.s (.b (.r (.op 0 .p (.op 1 .p (.op 2 .p (.op 3 .p (.op 4 .p (.op 5 .q (.op 6 .l (.op 7 .l (.op 8 .l (.op 9 .p (.nil))))))))))))) (.r (.op 0 .p (.op 1 .p (.op 2 .p (.nil)))))))))) (.s (.r (.op 0 .p (.op 1 .p (.op 2 .p (.nil))))) (.n))))))
def Tryd.F_ref06_Fields (t0 : Value) (t1 : Value) (w : World) (K : Value → World → Prop) : Prop :=
 opW Tryd.prog w (Instr.box 25 t1) fun t3 w1 =>
 opQ Tryd.prog w1 (Instr.loadAt 25 t3) fun t10 =>
 oCall Tryd.prog Tryd.n_ref06_May #[t0, t10] w1 fun t11 w2 =>
 opP Tryd.prog (Op.unary .not t11) fun t12 =>
 sJoin (fun K3 => gIf t12 false (opP Tryd.prog (Instr.fieldAt 25 t3 0) fun t14 =>
 opQ Tryd.prog w2 (Instr.loadAt 22 t14) fun t15 =>
 opP Tryd.prog (bsem .neq 22 true t15 (Value.int .u8 5)) fun t16 =>
 K3 [t16] w2) (K3 [undef] w2)) (fun s4 _d5 w6 =>
 oPick t12 (Value.bool true) (s4.getD 0 undef) fun t17 =>
 oCond t17 (K (.tuple #[(Value.slice Option.none 0 0), (Value.int .i64 2)]) w6) (opP Tryd.prog (Instr.fieldAt 25 t3 3) fun t19 =>
 opQ Tryd.prog w6 (Instr.loadAt 3 t19) fun t20 =>
 opP Tryd.prog (Instr.indexAt 50 t0 t20) fun t21 =>
 opP Tryd.prog (Instr.fieldAt 99 t21 1) fun t22 =>
 opQ Tryd.prog w6 (Instr.loadAt 97 t22) fun t23 =>
 sLoop [(Value.slice Option.none 0 0), (Value.int .i64 0)] w6 (fun s8 _d9 w10 K7 =>
 opP Tryd.prog (Builtin.len_ #[97] 3 #[t23]) fun t26 =>
 opP Tryd.prog (bsem .lss 3 false (s8.getD 1 undef) t26) fun t27 =>
 oCond t27 (opP Tryd.prog (Instr.indexAt 97 t23 (s8.getD 1 undef)) fun t33 =>
 opP Tryd.prog (Instr.fieldAt 101 t33 1) fun t34 =>
 opQ Tryd.prog w10 (Instr.loadAt 25 t34) fun t35 =>
 oCall Tryd.prog Tryd.n_ref06_Own #[t35] w10 fun t36 w11 =>
 opW Tryd.prog w11 (Instr.buildSlice 23 1 #[(0, t36)]) fun t37 w12 =>
 opW Tryd.prog w12 (Builtin.append_ #[23, 23] 23 #[(s8.getD 0 undef), t37]) fun t38 w13 =>
 opP Tryd.prog (bsem .add 3 true (s8.getD 1 undef) (Value.int .i64 1)) fun t29 =>
 K7 [t38, t29] w13) (K (.tuple #[(s8.getD 0 undef), (Value.int .i64 0)]) w10))))
theorem Tryd.E_ref06_Fields (t0 t1 : Value) (w : World) (K : Value → World → Prop) : sw ⟨false, false⟩ Tryd.prog (fun _ _ => False) Tryd.A_ref06_Fields (bodyOf Tryd.f36) [t0, t1, undef, undef, undef, undef, undef, undef, undef, undef, undef, undef, undef, undef, undef, undef, undef, undef, undef, undef, undef, undef, undef, undef, undef, undef, undef, undef, undef, undef, undef, undef, undef, undef, undef, undef, undef, undef, undef, undef] w (topQ false Tryd.prog Tryd.f36 w K) = Tryd.F_ref06_Fields t0 t1 w K := by kernel_rfl
theorem Tryd.C_ref06_Fields : chk ⟨false, false⟩ Tryd.prog false Tryd.A_ref06_Fields (bodyOf Tryd.f36) = true := by kernel_rfl
theorem Tryd.ok_ref06_Fields {t0 t1 : Value} {w : World} {K : Value → World → Prop} (h : Tryd.F_ref06_Fields t0 t1 w K) : oCall Tryd.prog Tryd.n_ref06_Fields #[t0, t1] w K :=
  calls_of_sw (cf := ⟨false, false⟩) Tryd.mixed Tryd.func36 rfl Tryd.C_ref06_Fields ((Tryd.E_ref06_Fields t0 t1 w K).mpr h)

/- 56: loanword/loanwordref06.text -/
def Tryd.A_ref06_text : Ann := .s (.r (.op 0 .l (.op 1 .p (.nil)))) (.s (.s (.r (.op 0 .p (.op 1 .q (.nil)))) (.b (.s (.r (.op 0 .p (.op 1 .p (.nil)))) (.c (.s (.r (.op 0 .p (.nil))) (.n)) (.s (.r (.op 0 .p (.op 1 .p (.nil)))) (.c (.s (.r (.op 0 .p (.nil))) (.n)) (.s (.r (.op 0 .p (.op 1 .p (.nil)))) (.c (.s (.r (.op 0 .p (.op 1 .q (.op 2 .p (.op 3 .q (.op 4 .l (.op 5 .p (.op 6 .p (.op 7 .p (.nil)))))))))) (.n)) (.s (.r (.op 0 .p (.op 1 .p (.nil)))) (.c (.s (.r (.op 0 .p (.op 1 .q (.op 2 .l (.op 3 .p (.op 4 .p (.nil))))))) (.n)) (.n))))))))))) (.s (.r (.op 0 .p (.nil))) (.j [3] (.s (.r (.op 0 .p (.op 1 .q (.op 2 .p (.nil))))) (.c (.r (.op 0 .p (.op 1 .p (.op 2 .p (.op 3 .q (.op 4 .l (.op 5 .p (.op 6 .p (.op 7 .p (.nil)))))))))) (.n))) (.j [3] (.s (.r (.op 0 .p (.op 1 .q (.nil)))) (.c (.r (.op 0 .p (.op 1 .p (.op 2 .p (.nil))))) (.n))) (.s (.r (.op 0 .p (.op 1 .q (.op 2 .p (.op 3 .q (.op 4 .l (.op 5 .p (.nil)))))))) (.j [3] (.s (.r (.op 0 .p (.op 1 .p (.op 2 .p (.grp 47 true [(3, .p), (4, .p), (5, .p)] [50] (.op 6 .p (.nil))))))) (.c (.r (.op 0 .p (.nil))) (.n))) (.s (.r (.op 0 .p (.op 1 .p (.op 2 .p (.op 3 .p (.nil)))))) (.n))))))))
def Tryd.F_ref06_text (t0 : Value) (w : World) (K : Value → World → Prop) : Prop :=
 opW Tryd.prog w (Instr.box 25 t0) fun t1 w1 =>
 opP Tryd.prog (Instr.fieldAt 25 t1 0) fun t5 =>
 opQ Tryd.prog w1 (Instr.loadAt 22 t5) fun t6 =>
 opP Tryd.prog (bsem .eql 22 true t6 (Value.int .u8 1)) fun t8 =>
 oCond t8 (K (Value.string { data := #[105, 54, 52] }) w1) (opP Tryd.prog (bsem .eql 22 true t6 (Value.int .u8 2)) fun t10 =>
 oCond t10 (K (Value.string { data := #[98, 111, 111, 108] }) w1) (opP Tryd.prog (bsem .eql 22 true t6 (Value.int .u8 3)) fun t12 =>
 oCond t12 (opP Tryd.prog (Instr.fieldAt 25 t1 4) fun t13 =>
 opQ Tryd.prog w1 (Instr.loadAt 23 t13) fun t14 =>
 opP Tryd.prog (Instr.indexAt 23 t14 (Value.int .i64 0)) fun t15 =>
 opQ Tryd.prog w1 (Instr.loadAt 25 t15) fun t16 =>
 oCall Tryd.prog Tryd.n_ref06_text #[t16] w1 fun t17 w2 =>
 opP Tryd.prog (bsem .add 9 true (Value.string { data := #[66, 111, 120, 60] }) t17) fun t18 =>
 opP Tryd.prog (bsem .add 9 true t18 (Value.string { data := #[62] })) fun t19 =>
 K t19 w2) (opP Tryd.prog (bsem .eql 22 true t6 (Value.int .u8 5)) fun t21 =>
 oCond t21 (opP Tryd.prog (Instr.fieldAt 25 t1 3) fun t22 =>
 opQ Tryd.prog w1 (Instr.loadAt 3 t22) fun t23 =>
 oCall Tryd.prog Tryd.n_strconv_Itoa #[t23] w1 fun t24 w3 =>
 opP Tryd.prog (bsem .add 9 true (Value.string { data := #[35] }) t24) fun t25 =>
 K t25 w3) (sJoin (fun K4 =>
 opP Tryd.prog (Instr.fieldAt 25 t1 2) fun t26 =>
 opQ Tryd.prog w1 (Instr.loadAt 3 t26) fun t27 =>
 opP Tryd.prog (bsem .geq 3 true t27 (Value.int .i64 0)) fun t28 =>
 oCond t28 (opP Tryd.prog (bsem .add 9 true (Value.string { data := #[38] }) (Value.string { data := #[39] })) fun t30 =>
 opP Tryd.prog (Instr.fieldAt 25 t1 2) fun t31 =>
 opQ Tryd.prog w1 (Instr.loadAt 3 t31) fun t32 =>
 oCall Tryd.prog Tryd.n_strconv_Itoa #[t32] w1 fun t33 w8 =>
 opP Tryd.prog (bsem .add 9 false t30 t33) fun t34 =>
 opP Tryd.prog (bsem .add 9 true t34 (Value.string { data := #[32] })) fun t35 =>
 K4 [t35] w8) (K4 [(Value.string { data := #[38] })] w1)) (fun s5 _d6 w7 =>
 sJoin (fun K9 =>
 opP Tryd.prog (Instr.fieldAt 25 t1 1) fun t36 =>
 opQ Tryd.prog w7 (Instr.loadAt 4 t36) fun t37 =>
 oCond t37 (opP Tryd.prog (bsem .add 9 true (s5.getD 0 undef) (Value.string { data := #[109, 117, 116, 32] })) fun t39 =>
 K9 [t39] w7) (K9 [(s5.getD 0 undef)] w7)) (fun s10 _d11 w12 =>
 opP Tryd.prog (Instr.fieldAt 25 t1 4) fun t40 =>
 opQ Tryd.prog w12 (Instr.loadAt 23 t40) fun t41 =>
 opP Tryd.prog (Instr.indexAt 23 t41 (Value.int .i64 0)) fun t42 =>
 opQ Tryd.prog w12 (Instr.loadAt 25 t42) fun t43 =>
 oCall Tryd.prog Tryd.n_ref06_text #[t43] w12 fun t44 w13 =>
 sJoin (fun K14 =>
 opP Tryd.prog (bsem .eql 9 true (s10.getD 0 undef) (Value.string { data := #[38] })) fun t46 =>
 sJoin (fun K18 => gIf t46 true (opP Tryd.prog (Instr.index 9 t44 (Value.int .i64 0)) fun t49 =>
 opP Tryd.prog (bsem .eql 5 true t49 (Value.int .u8 38)) fun t50 =>
 K18 [t50] w13) (K18 [undef] w13)) (fun s19 _d20 w21 =>
 oPick t46 (s19.getD 0 undef) (Value.bool false) fun t51 =>
 oCond t51 (K14 [(Value.string { data := #[38, 32] })] w21) (K14 [(s10.getD 0 undef)] w21))) (fun s15 _d16 w17 =>
 opP Tryd.prog (bsem .add 9 false (s15.getD 0 undef) t44) fun t54 =>
 K t54 w17)))))))
theorem Tryd.E_ref06_text (t0 : Value) (w : World) (K : Value → World → Prop) : sw ⟨false, false⟩ Tryd.prog (fun _ _ => False) Tryd.A_ref06_text (bodyOf Tryd.f56) [t0, undef, undef, undef, undef, undef, undef, undef, undef, undef, undef, undef, undef, undef, undef, undef, undef, undef, undef, undef, undef, undef, undef, undef, undef, undef, undef, undef, undef, undef, undef, undef, undef, undef, undef, undef, undef, undef, undef, undef, undef, undef, undef, undef, undef, undef, undef, undef, undef, undef, undef, undef, undef, undef, undef] w (topQ false Tryd.prog Tryd.f56 w K) = Tryd.F_ref06_text t0 w K := by kernel_rfl
theorem Tryd.C_ref06_text : chk ⟨false, false⟩ Tryd.prog false Tryd.A_ref06_text (bodyOf Tryd.f56) = true := by kernel_rfl
theorem Tryd.ok_ref06_text {t0 : Value} {w : World} {K : Value → World → Prop} (h : Tryd.F_ref06_text t0 w K) : oCall Tryd.prog Tryd.n_ref06_text #[t0] w K :=
  calls_of_sw (cf := ⟨false, false⟩) Tryd.mixed Tryd.func56 rfl Tryd.C_ref06_text ((Tryd.E_ref06_text t0 w K).mpr h)

/- 15: loanword/loanwordref06.Text -/
def Tryd.A_ref06_Text : Ann := .s (.r (.op 0 .l (.op 1 .p (.op 2 .p (.nil))))) (.s (.s (.r (.op 0 .q (.op 1 .l (.op 2 .p (.nil))))) (.c (.s (.r (.op 0 .p (.op 1 .p (.nil)))) (.n)) (.n))) (.s (.r (.op 0 .q (.op 1 .l (.op 2 .p (.op 3 .p (.nil)))))) (.n)))
def Tryd.F_ref06_Text (t0 : Value) (w : World) (K : Value → World → Prop) : Prop :=
 opW Tryd.prog w (Instr.box 25 t0) fun t1 w1 =>
 opQ Tryd.prog w1 (Instr.loadAt 25 t1) fun t4 =>
 oCall Tryd.prog Tryd.n_ref06_Is #[t4] w1 fun t5 w2 =>
 opP Tryd.prog (Op.unary .not t5) fun t6 =>
 oCond t6 (K (.tuple #[(Value.string { data := #[] }), (Value.int .i64 2)]) w2) (opQ Tryd.prog w2 (Instr.loadAt 25 t1) fun t7 =>
 oCall Tryd.prog Tryd.n_ref06_text #[t7] w2 fun t8 w3 =>
 K (.tuple #[t8, (Value.int .i64 0)]) w3)
theorem Tryd.E_ref06_Text (t0 : Value) (w : World) (K : Value → World → Prop) : sw ⟨false, false⟩ Tryd.prog (fun _ _ => False) Tryd.A_ref06_Text (bodyOf Tryd.f15) [t0, undef, undef, undef, undef, undef, undef, undef, undef] w (topQ false Tryd.prog Tryd.f15 w K) = Tryd.F_ref06_Text t0 w K := by kernel_rfl
theorem Tryd.C_ref06_Text : chk ⟨false, false⟩ Tryd.prog false Tryd.A_ref06_Text (bodyOf Tryd.f15) = true := by kernel_rfl
theorem Tryd.ok_ref06_Text {t0 : Value} {w : World} {K : Value → World → Prop} (h : Tryd.F_ref06_Text t0 w K) : oCall Tryd.prog Tryd.n_ref06_Text #[t0] w K :=
  calls_of_sw (cf := ⟨false, false⟩) Tryd.mixed Tryd.func15 rfl Tryd.C_ref06_Text ((Tryd.E_ref06_Text t0 w K).mpr h)

/- 94: (*loanword/loanwordref06.reader).word -/
def Tryd.A_ref06_reader_word : Ann := .s (.r (.op 0 .p (.nil))) (.b (.lp [4] (.s (.s (.r (.op 0 .p (.op 1 .p (.op 2 .p (.op 3 .p (.op 4 .p (.grp 9 true [(5, .p), (6, .p), (7, .p), (8, .q), (9, .p)] [14] (.op 10 .p (.nil))))))))) (.c (.n) (.n))) (.s (.b (.s (.s (.r (.op 0 .p (.op 1 .p (.op 2 .p (.op 3 .q (.op 4 .p (.op 5 .p (.op 6 .p (.op 7 .q (.op 8 .p (.op 9 .p (.op 10 .p (.grp 28 false [(11, .p), (12, .p), (13, .p), (14, .q), (15, .p), (16, .p), (17, .p), (18, .q), (19, .p), (20, .p), (21, .p), (22, .p), (23, .p)] [41] (.op 24 .p (.nil))))))))))))))) (.c (.s (.r (.op 0 .p (.op 1 .p (.op 2 .p (.op 3 .l (.nil)))))) (.n)) (.n))) (.r (.op 0 .p (.op 1 .p (.op 2 .p (.op 3 .q (.op 4 .p (.op 5 .p (.op 6 .p (.op 7 .l (.nil)))))))))))) (.r (.op 0 .p (.op 1 .p (.op 2 .p (.nil)))))))))
def Tryd.F_ref06_reader_word (t0 : Value) (t1 : Value) (w : World) (K : Value → World → Prop) : Prop :=
 sLoop [(Value.int .i64 0)] w (fun s2 _d3 w4 K1 =>
 opP Tryd.prog (Builtin.len_ #[9] 3 #[t1]) fun t7 =>
 opP Tryd.prog (bsem .lss 3 false (s2.getD 0 undef) t7) fun t8 =>
 sJoin (fun K5 => gIf t8 true (oNil t0 fun t11 =>
 opP Tryd.prog (Instr.fieldAt 94 t11 2) fun t12 =>
 opQ Tryd.prog w4 (Instr.loadAt 4 t12) fun t13 =>
 opP Tryd.prog (Op.unary .not t13) fun t14 =>
 K5 [t14] w4) (K5 [undef] w4)) (fun s6 _d7 w8 =>
 oPick t8 (s6.getD 0 undef) (Value.bool false) fun t15 =>
 oCond t15 (oNil t0 fun t19 =>
 opP Tryd.prog (Instr.fieldAt 94 t19 1) fun t20 =>
 opQ Tryd.prog w8.drew (Instr.loadAt 3 t20) fun t21 =>
 oNil t0 fun t23 =>
 opP Tryd.prog (Instr.fieldAt 94 t23 0) fun t24 =>
 opQ Tryd.prog w8.drew (Instr.loadAt 9 t24) fun t25 =>
 opP Tryd.prog (Builtin.len_ #[9] 3 #[t25]) fun t26 =>
 opP Tryd.prog (bsem .geq 3 false t21 t26) fun t27 =>
 sJoin (fun K9 => gIf t27 false (oNil t0 fun t30 =>
 opP Tryd.prog (Instr.fieldAt 94 t30 0) fun t31 =>
 opQ Tryd.prog w8.drew (Instr.loadAt 9 t31) fun t32 =>
 oNil t0 fun t34 =>
 opP Tryd.prog (Instr.fieldAt 94 t34 1) fun t35 =>
 opQ Tryd.prog w8.drew (Instr.loadAt 3 t35) fun t36 =>
 opP Tryd.prog (Instr.index 9 t32 t36) fun t37 =>
 opP Tryd.prog (Instr.index 9 t1 (s2.getD 0 undef)) fun t40 =>
 opP Tryd.prog (bsem .neq 5 false t37 t40) fun t41 =>
 K9 [t41] w8.drew) (K9 [undef] w8.drew)) (fun s10 _d11 w12 =>
 oPick t27 (Value.bool true) (s10.getD 0 undef) fun t42 =>
 oCond t42 (oNil t0 fun t44 =>
 opP Tryd.prog (Instr.fieldAt 94 t44 2) fun t45 =>
 opU Tryd.prog w12 (Instr.storeAt 4 t45 (Value.bool true)) fun w13 =>
 K (.tuple #[]) w13) (oNil t0 fun t47 =>
 opP Tryd.prog (Instr.fieldAt 94 t47 1) fun t48 =>
 opQ Tryd.prog w12 (Instr.loadAt 3 t48) fun t49 =>
 opP Tryd.prog (bsem .add 3 true t49 (Value.int .i64 1)) fun t50 =>
 oNil t0 fun t51 =>
 opP Tryd.prog (Instr.fieldAt 94 t51 1) fun t52 =>
 opU Tryd.prog w12 (Instr.storeAt 3 t52 t50) fun w14 =>
 opP Tryd.prog (bsem .add 3 true (s2.getD 0 undef) (Value.int .i64 1)) fun t17 =>
 K1 [t17] w14))) (K (.tuple #[]) w8)))
theorem Tryd.E_ref06_reader_word (t0 t1 : Value) (w : World) (K : Value → World → Prop) : sw ⟨false, false⟩ Tryd.prog (fun _ _ => False) Tryd.A_ref06_reader_word (bodyOf Tryd.f94) [t0, t1, undef, undef, undef, undef, undef, undef, undef, undef, undef, undef, undef, undef, undef, undef, undef, undef, undef, undef, undef, undef, undef, undef, undef, undef, undef, undef, undef, undef, undef, undef, undef, undef, undef, undef, undef, undef, undef, undef, undef, undef, undef, undef, undef, undef, undef, undef, undef, undef, undef, undef, undef] w (topQ false Tryd.prog Tryd.f94 w K) = Tryd.F_ref06_reader_word t0 t1 w K := by kernel_rfl
theorem Tryd.C_ref06_reader_word : chk ⟨false, false⟩ Tryd.prog false Tryd.A_ref06_reader_word (bodyOf Tryd.f94) = true := by kernel_rfl
theorem Tryd.ok_ref06_reader_word {t0 t1 : Value} {w : World} {K : Value → World → Prop} (h : Tryd.F_ref06_reader_word t0 t1 w K) : oCall Tryd.prog Tryd.n_ref06_reader_word #[t0, t1] w K :=
  calls_of_sw (cf := ⟨false, false⟩) Tryd.mixed Tryd.func94 rfl Tryd.C_ref06_reader_word ((Tryd.E_ref06_reader_word t0 t1 w K).mpr h)

/- 93: (*loanword/loanwordref06.reader).next -/
def Tryd.A_ref06_reader_next : Ann := .s (.r (.op 0 .p (.nil))) (.s (.s (.r (.op 0 .p (.op 1 .p (.op 2 .p (.op 3 .q (.op 4 .p (.grp 7 false [(5, .p), (6, .p), (7, .p), (8, .q), (9, .p), (10, .p), (11, .p), (12, .q), (13, .p), (14, .p)] [17] (.op 15 .p (.nil))))))))) (.c (.s (.r (.op 0 .p (.nil))) (.n)) (.n))) (.s (.r (.op 0 .p (.op 1 .p (.op 2 .p (.op 3 .q (.op 4 .p (.op 5 .p (.op 6 .p (.op 7 .q (.op 8 .p (.op 9 .p (.nil)))))))))))) (.n)))
def Tryd.F_ref06_reader_next (t0 : Value) (w : World) (K : Value → World → Prop) : Prop :=
 oNil t0 fun t4 =>
 opP Tryd.prog (Instr.fieldAt 94 t4 2) fun t5 =>
 opQ Tryd.prog w.drew (Instr.loadAt 4 t5) fun t6 =>
 sJoin (fun K1 => gIf t6 false (oNil t0 fun t9 =>
 opP Tryd.prog (Instr.fieldAt 94 t9 1) fun t10 =>
 opQ Tryd.prog w.drew (Instr.loadAt 3 t10) fun t11 =>
 oNil t0 fun t13 =>
 opP Tryd.prog (Instr.fieldAt 94 t13 0) fun t14 =>
 opQ Tryd.prog w.drew (Instr.loadAt 9 t14) fun t15 =>
 opP Tryd.prog (Builtin.len_ #[9] 3 #[t15]) fun t16 =>
 opP Tryd.prog (bsem .geq 3 false t11 t16) fun t17 =>
 K1 [t17] w.drew) (K1 [undef] w.drew)) (fun s2 _d3 w4 =>
 oPick t6 (Value.bool true) (s2.getD 0 undef) fun t18 =>
 oCond t18 (K (Value.int .u8 0) w4) (oNil t0 fun t20 =>
 opP Tryd.prog (Instr.fieldAt 94 t20 0) fun t21 =>
 opQ Tryd.prog w4.drew (Instr.loadAt 9 t21) fun t22 =>
 oNil t0 fun t24 =>
 opP Tryd.prog (Instr.fieldAt 94 t24 1) fun t25 =>
 opQ Tryd.prog w4.drew (Instr.loadAt 3 t25) fun t26 =>
 opP Tryd.prog (Instr.index 9 t22 t26) fun t27 =>
 K t27 w4.drew))
theorem Tryd.E_ref06_reader_next (t0 : Value) (w : World) (K : Value → World → Prop) : sw ⟨false, false⟩ Tryd.prog (fun _ _ => False) Tryd.A_ref06_reader_next (bodyOf Tryd.f93) [t0, undef, undef, undef, undef, undef, undef, undef, undef, undef, undef, undef, undef, undef, undef, undef, undef, undef, undef, undef, undef, undef, undef, undef, undef, undef, undef, undef] w (topQ false Tryd.prog Tryd.f93 w K) = Tryd.F_ref06_reader_next t0 w K := by kernel_rfl
theorem Tryd.C_ref06_reader_next : chk ⟨false, false⟩ Tryd.prog false Tryd.A_ref06_reader_next (bodyOf Tryd.f93) = true := by kernel_rfl
theorem Tryd.ok_ref06_reader_next {t0 : Value} {w : World} {K : Value → World → Prop} (h : Tryd.F_ref06_reader_next t0 w K) : oCall Tryd.prog Tryd.n_ref06_reader_next #[t0] w K :=
  calls_of_sw (cf := ⟨false, false⟩) Tryd.mixed Tryd.func93 rfl Tryd.C_ref06_reader_next ((Tryd.E_ref06_reader_next t0 w K).mpr h)

/- 95: (*loanword/loanwordref06.reader).number -/
def Tryd.A_ref06_reader_number : Ann := .s (.r (.op 0 .p (.nil))) (.s (.r (.op 0 .p (.nil))) (.s (.r (.op 0 .p (.op 1 .p (.op 2 .p (.op 3 .q (.op 4 .p (.nil))))))) (.s (.b (.lp [5] (.s (.s (.r (.op 0 .p (.op 1 .l (.op 2 .p (.op 3 .p (.grp 15 true [(4, .p), (5, .l), (6, .p)] [18] (.op 7 .p (.nil)))))))) (.c (.n) (.n))) (.b (.s (.r (.op 0 .p (.op 1 .l (.op 2 .p (.op 3 .p (.op 4 .p (.nil))))))) (.s (.s (.r (.op 0 .p (.op 1 .p (.op 2 .p (.op 3 .q (.op 4 .p (.op 5 .p (.op 6 .p (.op 7 .p (.grp 31 true [(8, .p), (9, .p), (10, .p), (11, .q), (12, .p), (13, .p), (14, .p)] [38] (.op 15 .p (.op 16 .p (.grp 40 false [(17, .p), (18, .p), (19, .p), (20, .p)] [44] (.op 21 .p (.op 22 .p (.grp 46 false [(23, .p), (24, .p), (25, .p), (26, .p), (27, .p)] [51] (.grp 51 true [(28, .p), (29, .p), (30, .p), (31, .p)] [55] (.grp 46 false [(32, .p)] [56] (.op 33 .p (.nil)))))))))))))))))))) (.c (.s (.r (.op 0 .p (.op 1 .p (.op 2 .p (.nil))))) (.n)) (.n))) (.s (.r (.op 0 .p (.op 1 .p (.op 2 .p (.op 3 .p (.op 4 .p (.nil))))))) (.r (.op 0 .p (.op 1 .p (.op 2 .p (.op 3 .q (.op 4 .p (.op 5 .p (.op 6 .p (.op 7 .l (.nil))))))))))))))))) (.j [] (.s (.r (.op 0 .p (.op 1 .p (.op 2 .p (.op 3 .q (.op 4 .p (.op 5 .p (.nil)))))))) (.c (.r (.op 0 .p (.op 1 .p (.op 2 .p (.op 3 .l (.nil)))))) (.n))) (.s (.r (.op 0 .p (.op 1 .p (.op 2 .p (.nil))))) (.n))))))
def Tryd.F_ref06_reader_number (t0 : Value) (t1 : Value) (w : World) (K : Value → World → Prop) : Prop :=
 oNil t0 fun t9 =>
 opP Tryd.prog (Instr.fieldAt 94 t9 1) fun t10 =>
 opQ Tryd.prog w (Instr.loadAt 3 t10) fun t11 =>
 sLoop [(Value.int .u64 0)] w (fun s2 _d3 w4 K1 =>
 oCall Tryd.prog Tryd.n_ref06_reader_next #[t0] w4 fun t13 w5 =>
 opP Tryd.prog (bsem .geq 5 true t13 (Value.int .u8 48)) fun t14 =>
 sJoin (fun K6 => gIf t14 true (oCall Tryd.prog Tryd.n_ref06_reader_next #[t0] w5 fun t17 w10 =>
 opP Tryd.prog (bsem .leq 5 true t17 (Value.int .u8 57)) fun t18 =>
 K6 [t18] w10) (K6 [undef] w5)) (fun s7 _d8 w9 =>
 oPick t14 (s7.getD 0 undef) (Value.bool false) fun t19 =>
 oCond t19 (oCall Tryd.prog Tryd.n_ref06_reader_next #[t0] w9 fun t21 w11 =>
 opP Tryd.prog (bsem .sub 5 true t21 (Value.int .u8 48)) fun t22 =>
 opP Tryd.prog (convert 5 123 t22) fun t23 =>
 oNil t0 fun t25 =>
 opP Tryd.prog (Instr.fieldAt 94 t25 1) fun t26 =>
 opQ Tryd.prog w11 (Instr.loadAt 3 t26) fun t27 =>
 opP Tryd.prog (bsem .add 3 true t11 (Value.int .i64 1)) fun t29 =>
 opP Tryd.prog (bsem .eql 3 false t27 t29) fun t30 =>
 sJoin (fun K12 => gIf t30 true (oNil t0 fun t33 =>
 opP Tryd.prog (Instr.fieldAt 94 t33 0) fun t34 =>
 opQ Tryd.prog w11 (Instr.loadAt 9 t34) fun t35 =>
 opP Tryd.prog (Instr.index 9 t35 t11) fun t37 =>
 opP Tryd.prog (bsem .eql 5 true t37 (Value.int .u8 48)) fun t38 =>
 K12 [t38] w11) (K12 [undef] w11)) (fun s13 _d14 w15 =>
 oPick t30 (s13.getD 0 undef) (Value.bool false) fun t39 =>
 sJoin (fun K16 => gIf t39 false (opP Tryd.prog (bsem .quo 123 true t1 (Value.int .u64 10)) fun t43 =>
 opP Tryd.prog (bsem .gtr 123 false (s2.getD 0 undef) t43) fun t44 =>
 K16 [t44] w15) (K16 [undef] w15)) (fun s17 _d18 w19 =>
 oPick t39 (Value.bool true) (s17.getD 0 undef) fun t45 =>
 sJoin (fun K20 => gIf t45 false (opP Tryd.prog (bsem .quo 123 true t1 (Value.int .u64 10)) fun t49 =>
 opP Tryd.prog (bsem .eql 123 false (s2.getD 0 undef) t49) fun t50 =>
 K20 [t50] w19) (K20 [undef] w19)) (fun s21 _d22 w23 =>
 sJoin (fun K24 => gIf (s21.getD 0 undef) true (opP Tryd.prog (bsem .rem 123 true t1 (Value.int .u64 10)) fun t54 =>
 opP Tryd.prog (bsem .gtr 123 false t23 t54) fun t55 =>
 K24 [t55] w23) (K24 [undef] w23)) (fun s25 _d26 w27 =>
 sJoin (fun K28 => gIf t45 false (oPick (s21.getD 0 undef) (s25.getD 0 undef) (Value.bool false) fun t56 =>
 K28 [t56] w27) (K28 [undef] w27)) (fun s29 _d30 w31 =>
 oPick t45 (Value.bool true) (s29.getD 0 undef) fun t57 =>
 oCond t57 (opP Tryd.prog (convert 123 3 (s2.getD 0 undef)) fun t59 =>
 K t59 w31) (opP Tryd.prog (bsem .mul 123 true (Value.int .u64 10) (s2.getD 0 undef)) fun t61 =>
 opP Tryd.prog (bsem .add 123 false t61 t23) fun t63 =>
 oNil t0 fun t65 =>
 opP Tryd.prog (Instr.fieldAt 94 t65 1) fun t66 =>
 opQ Tryd.prog w31 (Instr.loadAt 3 t66) fun t67 =>
 opP Tryd.prog (bsem .add 3 true t67 (Value.int .i64 1)) fun t68 =>
 oNil t0 fun t69 =>
 opP Tryd.prog (Instr.fieldAt 94 t69 1) fun t70 =>
 opU Tryd.prog w31 (Instr.storeAt 3 t70 t68) fun w32 =>
 K1 [t63] w32))))))) (sJoin (fun K33 =>
 oNil t0 fun t72 =>
 opP Tryd.prog (Instr.fieldAt 94 t72 1) fun t73 =>
 opQ Tryd.prog w9 (Instr.loadAt 3 t73) fun t74 =>
 opP Tryd.prog (bsem .eql 3 false t74 t11) fun t76 =>
 oCond t76 (oNil t0 fun t78 =>
 opP Tryd.prog (Instr.fieldAt 94 t78 2) fun t79 =>
 opU Tryd.prog w9 (Instr.storeAt 4 t79 (Value.bool true)) fun w37 =>
 K33 [] w37) (K33 [] w9)) (fun _s34 _d35 w36 =>
 opP Tryd.prog (convert 123 3 (s2.getD 0 undef)) fun t81 =>
 K t81 w36))))
theorem Tryd.E_ref06_reader_number (t0 t1 : Value) (w : World) (K : Value → World → Prop) : sw ⟨false, false⟩ Tryd.prog (fun _ _ => False) Tryd.A_ref06_reader_number (bodyOf Tryd.f95) [t0, t1, undef, undef, undef, undef, undef, undef, undef, undef, undef, undef, undef, undef, undef, undef, undef, undef, undef, undef, undef, undef, undef, undef, undef, undef, undef, undef, undef, undef, undef, undef, undef, undef, undef, undef, undef, undef, undef, undef, undef, undef, undef, undef, undef, undef, undef, undef, undef, undef, undef, undef, undef, undef, undef, undef, undef, undef, undef, undef, undef, undef, undef, undef, undef, undef, undef, undef, undef, undef, undef, undef, undef, undef, undef, undef, undef, undef, undef, undef, undef, undef] w (topQ false Tryd.prog Tryd.f95 w K) = Tryd.F_ref06_reader_number t0 t1 w K := by kernel_rfl
theorem Tryd.C_ref06_reader_number : chk ⟨false, false⟩ Tryd.prog false Tryd.A_ref06_reader_number (bodyOf Tryd.f95) = true := by kernel_rfl
theorem Tryd.ok_ref06_reader_number {t0 t1 : Value} {w : World} {K : Value → World → Prop} (h : Tryd.F_ref06_reader_number t0 t1 w K) : oCall Tryd.prog Tryd.n_ref06_reader_number #[t0, t1] w K :=
  calls_of_sw (cf := ⟨false, false⟩) Tryd.mixed Tryd.func95 rfl Tryd.C_ref06_reader_number ((Tryd.E_ref06_reader_number t0 t1 w K).mpr h)

/- 59: (*loanword/loanwordref06.reader).kind -/
def Tryd.A_ref06_reader_kind : Ann := .s (.r (.op 0 .l (.nil))) (.s (.s (.r (.op 0 .p (.op 1 .l (.nil)))) (.b (.s (.r (.op 0 .p (.op 1 .p (.nil)))) (.c (.s (.r (.op 0 .p (.op 1 .l (.nil)))) (.s (.r (.op 0 .p (.op 1 .l (.nil)))) (.n))) (.s (.r (.op 0 .p (.op 1 .p (.nil)))) (.c (.s (.r (.op 0 .p (.op 1 .p (.op 2 .p (.op 3 .q (.op 4 .p (.op 5 .p (.op 6 .p (.op 7 .l (.nil)))))))))) (.s (.r (.op 0 .p (.op 1 .l (.op 2 .p (.op 3 .l (.nil)))))) (.n))) (.s (.r (.op 0 .p (.op 1 .p (.nil)))) (.c (.s (.r (.op 0 .p (.op 1 .l (.nil)))) (.s (.r (.op 0 .p (.op 1 .l (.nil)))) (.n))) (.s (.r (.op 0 .p (.op 1 .p (.nil)))) (.c (.s (.s (.r (.op 0 .p (.op 1 .p (.nil)))) (.c (.s (.r (.op 0 .p (.op 1 .p (.op 2 .p (.op 3 .l (.nil)))))) (.s (.r (.op 0 .p (.op 1 .l (.nil)))) (.n))) (.n))) (.s (.r (.op 0 .p (.op 1 .l (.nil)))) (.s (.r (.op 0 .p (.op 1 .p (.op 2 .p (.op 3 .l (.op 4 .l (.op 5 .p (.op 6 .l (.op 7 .l (.nil)))))))))) (.s (.r (.op 0 .p (.op 1 .l (.nil)))) (.s (.r (.op 0 .q (.op 1 .l (.nil)))) (.n)))))) (.s (.r (.op 0 .p (.op 1 .p (.nil)))) (.c (.s (.s (.r (.op 0 .p (.op 1 .p (.nil)))) (.c (.s (.r (.op 0 .p (.op 1 .p (.op 2 .p (.op 3 .l (.nil)))))) (.s (.r (.op 0 .p (.op 1 .l (.nil)))) (.n))) (.n))) (.s (.r (.op 0 .p (.op 1 .p (.op 2 .l (.op 3 .l (.nil)))))) (.n))) (.n))))))))))))) (.s (.r (.op 0 .p (.op 1 .p (.op 2 .p (.op 3 .l (.nil)))))) (.s (.r (.op 0 .p (.op 1 .l (.nil)))) (.n))))
def Tryd.F_ref06_reader_kind (t0 : Value) (t1 : Value) (w : World) (K : Value → World → Prop) : Prop :=
 opW Tryd.prog w (Instr.alloc 25 true (.tuple #[])) fun t4 w1 =>
 oCall Tryd.prog Tryd.n_ref06_reader_next #[t0] w1 fun t7 w2 =>
 opP Tryd.prog (bsem .eql 5 true t7 (Value.int .u8 105)) fun t9 =>
 oCond t9 (oCall Tryd.prog Tryd.n_ref06_reader_word #[t0, (Value.string { data := #[105, 54, 52] })] w2 fun _t11 w3 =>
 opP Tryd.prog (Instr.build 25 #[(0, (Value.int .u8 1))]) fun t12 =>
 opU Tryd.prog w3 (Instr.storeAt 25 t4 t12) fun w4 =>
 opQ Tryd.prog w4 (cellSem 25 t4) fun r5 =>
 K r5 w4) (opP Tryd.prog (bsem .eql 5 true t7 (Value.int .u8 35)) fun t14 =>
 oCond t14 (oNil t0 fun t16 =>
 opP Tryd.prog (Instr.fieldAt 94 t16 1) fun t17 =>
 opQ Tryd.prog w2 (Instr.loadAt 3 t17) fun t18 =>
 opP Tryd.prog (bsem .add 3 true t18 (Value.int .i64 1)) fun t19 =>
 oNil t0 fun t20 =>
 opP Tryd.prog (Instr.fieldAt 94 t20 1) fun t21 =>
 opU Tryd.prog w2 (Instr.storeAt 3 t21 t19) fun w6 =>
 oCall Tryd.prog Tryd.n_ref06_reader_number #[t0, (Value.int .u64 31)] w6 fun t23 w7 =>
 opP Tryd.prog (Instr.build 25 #[(0, (Value.int .u8 5)), (3, t23)]) fun t24 =>
 opU Tryd.prog w7 (Instr.storeAt 25 t4 t24) fun w8 =>
 opQ Tryd.prog w8 (cellSem 25 t4) fun r9 =>
 K r9 w8) (opP Tryd.prog (bsem .eql 5 true t7 (Value.int .u8 98)) fun t26 =>
 oCond t26 (oCall Tryd.prog Tryd.n_ref06_reader_word #[t0, (Value.string { data := #[98, 111, 111, 108] })] w2 fun _t28 w10 =>
 opP Tryd.prog (Instr.build 25 #[(0, (Value.int .u8 2))]) fun t29 =>
 opU Tryd.prog w10 (Instr.storeAt 25 t4 t29) fun w11 =>
 opQ Tryd.prog w11 (cellSem 25 t4) fun r12 =>
 K r12 w11) (opP Tryd.prog (bsem .eql 5 true t7 (Value.int .u8 66)) fun t31 =>
 oCond t31 (opP Tryd.prog (bsem .lss 3 true t1 (Value.int .i64 2)) fun t33 =>
 oCond t33 (oNil t0 fun t35 =>
 opP Tryd.prog (Instr.fieldAt 94 t35 2) fun t36 =>
 opU Tryd.prog w2 (Instr.storeAt 4 t36 (Value.bool true)) fun w13 =>
 opP Tryd.prog (Instr.build 25 #[]) fun t37 =>
 opU Tryd.prog w13 (Instr.storeAt 25 t4 t37) fun w14 =>
 opQ Tryd.prog w14 (cellSem 25 t4) fun r15 =>
 K r15 w14) (oCall Tryd.prog Tryd.n_ref06_reader_word #[t0, (Value.string { data := #[66, 111, 120, 60] })] w2 fun _t39 w16 =>
 opP Tryd.prog (bsem .sub 3 true t1 (Value.int .i64 1)) fun t42 =>
 oCall Tryd.prog Tryd.n_ref06_reader_kind #[t0, t42] w16 fun t43 w17 =>
 opW Tryd.prog w17 (Instr.buildSlice 23 1 #[(0, t43)]) fun t44 w18 =>
 opP Tryd.prog (Instr.build 25 #[(0, (Value.int .u8 3)), (4, t44)]) fun t45 =>
 opW Tryd.prog w18 (Instr.alloc 25 true (.tuple #[])) fun t5 w19 =>
 opU Tryd.prog w19 (Instr.storeAt 25 t5 t45) fun w20 =>
 oCall Tryd.prog Tryd.n_ref06_reader_word #[t0, (Value.string { data := #[62] })] w20 fun _t47 w21 =>
 opQ Tryd.prog w21 (Instr.loadAt 25 t5) fun t48 =>
 opU Tryd.prog w21 (Instr.storeAt 25 t4 t48) fun w22 =>
 opQ Tryd.prog w22 (cellSem 25 t4) fun r23 =>
 K r23 w22)) (opP Tryd.prog (bsem .eql 5 true t7 (Value.int .u8 38)) fun t50 =>
 oCond t50 (opP Tryd.prog (bsem .lss 3 true t1 (Value.int .i64 2)) fun t52 =>
 oCond t52 (oNil t0 fun t54 =>
 opP Tryd.prog (Instr.fieldAt 94 t54 2) fun t55 =>
 opU Tryd.prog w2 (Instr.storeAt 4 t55 (Value.bool true)) fun w24 =>
 opP Tryd.prog (Instr.build 25 #[]) fun t56 =>
 opU Tryd.prog w24 (Instr.storeAt 25 t4 t56) fun w25 =>
 opQ Tryd.prog w25 (cellSem 25 t4) fun r26 =>
 K r26 w25) (oCall Tryd.prog Tryd.n_ref06_reader_reference #[t0, t1] w2 fun t59 w27 =>
 opU Tryd.prog w27 (Instr.storeAt 25 t4 t59) fun w28 =>
 opQ Tryd.prog w28 (cellSem 25 t4) fun r29 =>
 K r29 w28)) (oNil t0 fun t61 =>
 opP Tryd.prog (Instr.fieldAt 94 t61 2) fun t62 =>
 opU Tryd.prog w2 (Instr.storeAt 4 t62 (Value.bool true)) fun w30 =>
 opP Tryd.prog (Instr.build 25 #[]) fun t63 =>
 opU Tryd.prog w30 (Instr.storeAt 25 t4 t63) fun w31 =>
 opQ Tryd.prog w31 (cellSem 25 t4) fun r32 =>
 K r32 w31)))))
theorem Tryd.E_ref06_reader_kind (t0 t1 : Value) (w : World) (K : Value → World → Prop) : sw ⟨false, false⟩ Tryd.prog (fun _ _ => False) Tryd.A_ref06_reader_kind (bodyOf Tryd.f59) [t0, t1, undef, undef, undef, undef, undef, undef, undef, undef, undef, undef, undef, undef, undef, undef, undef, undef, undef, undef, undef, undef, undef, undef, undef, undef, undef, undef, undef, undef, undef, undef, undef, undef, undef, undef, undef, undef, undef, undef, undef, undef, undef, undef, undef, undef, undef, undef, undef, undef, undef, undef, undef, undef, undef, undef, undef, undef, undef, undef, undef, undef, undef, undef] w (topQ false Tryd.prog Tryd.f59 w K) = Tryd.F_ref06_reader_kind t0 t1 w K := by kernel_rfl
theorem Tryd.C_ref06_reader_kind : chk ⟨false, false⟩ Tryd.prog false Tryd.A_ref06_reader_kind (bodyOf Tryd.f59) = true := by kernel_rfl
theorem Tryd.ok_ref06_reader_kind {t0 t1 : Value} {w : World} {K : Value → World → Prop} (h : Tryd.F_ref06_reader_kind t0 t1 w K) : oCall Tryd.prog Tryd.n_ref06_reader_kind #[t0, t1] w K :=
  calls_of_sw (cf := ⟨false, false⟩) Tryd.mixed Tryd.func59 rfl Tryd.C_ref06_reader_kind ((Tryd.E_ref06_reader_kind t0 t1 w K).mpr h)

/- 96: (*loanword/loanwordref06.reader).reference -/
def Tryd.A_ref06_reader_reference : Ann := .s (.r (.op 0 .l (.nil))) (.s (.r (.op 0 .p (.op 1 .l (.op 2 .l (.nil))))) (.s (.r (.op 0 .p (.op 1 .p (.op 2 .p (.op 3 .q (.op 4 .p (.op 5 .p (.op 6 .p (.op 7 .l (.nil)))))))))) (.j [] (.s (.r (.op 0 .p (.op 1 .l (.op 2 .p (.nil))))) (.c (.s (.r (.op 0 .p (.op 1 .p (.op 2 .p (.op 3 .q (.op 4 .p (.op 5 .p (.op 6 .p (.op 7 .l (.nil)))))))))) (.s (.r (.op 0 .p (.op 1 .l (.op 2 .p (.op 3 .l (.nil)))))) (.r (.op 0 .p (.op 1 .l (.nil)))))) (.n))) (.j [] (.s (.r (.op 0 .p (.op 1 .l (.op 2 .p (.nil))))) (.c (.s (.r (.op 0 .p (.op 1 .l (.nil)))) (.r (.op 0 .p (.op 1 .l (.nil))))) (.n))) (.j [] (.s (.r (.op 0 .p (.op 1 .q (.op 2 .p (.op 3 .p (.grp 38 true [(4, .p), (5, .q), (6, .p)] [41] (.op 7 .p (.nil)))))))) (.c (.s (.s (.r (.op 0 .p (.op 1 .l (.op 2 .p (.nil))))) (.c (.s (.r (.op 0 .p (.op 1 .p (.op 2 .p (.op 3 .l (.nil)))))) (.s (.r (.op 0 .q (.op 1 .l (.nil)))) (.n))) (.n))) (.s (.r (.op 0 .p (.op 1 .l (.op 2 .p (.op 3 .p (.grp 53 true [(4, .p), (5, .p)] [55] (.op 6 .p (.nil)))))))) (.c (.s (.r (.op 0 .p (.op 1 .p (.op 2 .p (.op 3 .q (.op 4 .p (.op 5 .p (.op 6 .p (.op 7 .l (.nil)))))))))) (.s (.r (.op 0 .p (.op 1 .l (.op 2 .p (.nil))))) (.c (.s (.r (.op 0 .p (.op 1 .p (.op 2 .p (.op 3 .l (.nil)))))) (.s (.r (.op 0 .q (.op 1 .l (.nil)))) (.n))) (.n)))) (.n)))) (.n))) (.s (.r (.op 0 .p (.op 1 .p (.op 2 .p (.op 3 .l (.op 4 .l (.op 5 .p (.op 6 .l (.nil))))))))) (.s (.r (.op 0 .q (.op 1 .l (.nil)))) (.n))))))))
def Tryd.F_ref06_reader_reference (t0 : Value) (t1 : Value) (w : World) (K : Value → World → Prop) : Prop :=
 opW Tryd.prog w (Instr.alloc 25 true (.tuple #[])) fun t4 w1 =>
 opP Tryd.prog (Instr.build 25 #[(0, (Value.int .u8 4)), (2, (Value.int .i64 (-1)))]) fun t6 =>
 opW Tryd.prog w1 (Instr.alloc 25 true (.tuple #[])) fun t5 w2 =>
 opU Tryd.prog w2 (Instr.storeAt 25 t5 t6) fun w3 =>
 oNil t0 fun t8 =>
 opP Tryd.prog (Instr.fieldAt 94 t8 1) fun t9 =>
 opQ Tryd.prog w3 (Instr.loadAt 3 t9) fun t10 =>
 opP Tryd.prog (bsem .add 3 true t10 (Value.int .i64 1)) fun t11 =>
 oNil t0 fun t12 =>
 opP Tryd.prog (Instr.fieldAt 94 t12 1) fun t13 =>
 opU Tryd.prog w3 (Instr.storeAt 3 t13 t11) fun w4 =>
 sJoin (fun K5 =>
 oCall Tryd.prog Tryd.n_ref06_reader_next #[t0] w4 fun t15 w9 =>
 opP Tryd.prog (bsem .eql 5 true t15 (Value.int .u8 39)) fun t16 =>
 oCond t16 (oNil t0 fun t18 =>
 opP Tryd.prog (Instr.fieldAt 94 t18 1) fun t19 =>
 opQ Tryd.prog w9 (Instr.loadAt 3 t19) fun t20 =>
 opP Tryd.prog (bsem .add 3 true t20 (Value.int .i64 1)) fun t21 =>
 oNil t0 fun t22 =>
 opP Tryd.prog (Instr.fieldAt 94 t22 1) fun t23 =>
 opU Tryd.prog w9 (Instr.storeAt 3 t23 t21) fun w10 =>
 oCall Tryd.prog Tryd.n_ref06_reader_number #[t0, (Value.int .u64 9223372036854775807)] w10 fun t25 w11 =>
 opP Tryd.prog (Instr.fieldAt 25 t5 2) fun t26 =>
 opU Tryd.prog w11 (Instr.storeAt 3 t26 t25) fun w12 =>
 oCall Tryd.prog Tryd.n_ref06_reader_word #[t0, (Value.string { data := #[32] })] w12 fun _t28 w13 =>
 K5 [] w13) (K5 [] w9)) (fun _s6 _d7 w8 =>
 sJoin (fun K14 =>
 oCall Tryd.prog Tryd.n_ref06_reader_next #[t0] w8 fun t30 w18 =>
 opP Tryd.prog (bsem .eql 5 true t30 (Value.int .u8 109)) fun t31 =>
 oCond t31 (oCall Tryd.prog Tryd.n_ref06_reader_word #[t0, (Value.string { data := #[109, 117, 116, 32] })] w18 fun _t33 w19 =>
 opP Tryd.prog (Instr.fieldAt 25 t5 1) fun t34 =>
 opU Tryd.prog w19 (Instr.storeAt 4 t34 (Value.bool true)) fun w20 =>
 K14 [] w20) (K14 [] w18)) (fun _s15 _d16 w17 =>
 sJoin (fun K21 =>
 opP Tryd.prog (Instr.fieldAt 25 t5 2) fun t35 =>
 opQ Tryd.prog w17 (Instr.loadAt 3 t35) fun t36 =>
 opP Tryd.prog (bsem .lss 3 true t36 (Value.int .i64 0)) fun t37 =>
 sJoin (fun K25 => gIf t37 true (opP Tryd.prog (Instr.fieldAt 25 t5 1) fun t39 =>
 opQ Tryd.prog w17 (Instr.loadAt 4 t39) fun t40 =>
 opP Tryd.prog (Op.unary .not t40) fun t41 =>
 K25 [t41] w17) (K25 [undef] w17)) (fun s26 _d27 w28 =>
 oPick t37 (s26.getD 0 undef) (Value.bool false) fun t42 =>
 oCond t42 (oCall Tryd.prog Tryd.n_ref06_reader_next #[t0] w28 fun t44 w29 =>
 opP Tryd.prog (bsem .eql 5 true t44 (Value.int .u8 38)) fun t45 =>
 oCond t45 (oNil t0 fun t47 =>
 opP Tryd.prog (Instr.fieldAt 94 t47 2) fun t48 =>
 opU Tryd.prog w29 (Instr.storeAt 4 t48 (Value.bool true)) fun w30 =>
 opQ Tryd.prog w30 (Instr.loadAt 25 t5) fun t49 =>
 opU Tryd.prog w30 (Instr.storeAt 25 t4 t49) fun w31 =>
 opQ Tryd.prog w31 (cellSem 25 t4) fun r32 =>
 K r32 w31) (oCall Tryd.prog Tryd.n_ref06_reader_next #[t0] w29 fun t51 w33 =>
 opP Tryd.prog (bsem .eql 5 true t51 (Value.int .u8 32)) fun t52 =>
 sJoin (fun K34 => gIf t52 true (opP Tryd.prog (bsem .gtr 3 true t1 (Value.int .i64 2)) fun t55 =>
 K34 [t55] w33) (K34 [undef] w33)) (fun s35 _d36 w37 =>
 oPick t52 (s35.getD 0 undef) (Value.bool false) fun t56 =>
 oCond t56 (oNil t0 fun t58 =>
 opP Tryd.prog (Instr.fieldAt 94 t58 1) fun t59 =>
 opQ Tryd.prog w37 (Instr.loadAt 3 t59) fun t60 =>
 opP Tryd.prog (bsem .add 3 true t60 (Value.int .i64 1)) fun t61 =>
 oNil t0 fun t62 =>
 opP Tryd.prog (Instr.fieldAt 94 t62 1) fun t63 =>
 opU Tryd.prog w37 (Instr.storeAt 3 t63 t61) fun w38 =>
 oCall Tryd.prog Tryd.n_ref06_reader_next #[t0] w38 fun t65 w39 =>
 opP Tryd.prog (bsem .neq 5 true t65 (Value.int .u8 38)) fun t66 =>
 oCond t66 (oNil t0 fun t68 =>
 opP Tryd.prog (Instr.fieldAt 94 t68 2) fun t69 =>
 opU Tryd.prog w39 (Instr.storeAt 4 t69 (Value.bool true)) fun w40 =>
 opQ Tryd.prog w40 (Instr.loadAt 25 t5) fun t70 =>
 opU Tryd.prog w40 (Instr.storeAt 25 t4 t70) fun w41 =>
 opQ Tryd.prog w41 (cellSem 25 t4) fun r42 =>
 K r42 w41) (K21 [] w39)) (K21 [] w37)))) (K21 [] w28))) (fun _s22 _d23 w24 =>
 opP Tryd.prog (bsem .sub 3 true t1 (Value.int .i64 1)) fun t73 =>
 oCall Tryd.prog Tryd.n_ref06_reader_kind #[t0, t73] w24 fun t74 w43 =>
 opW Tryd.prog w43 (Instr.buildSlice 23 1 #[(0, t74)]) fun t75 w44 =>
 opP Tryd.prog (Instr.fieldAt 25 t5 4) fun t76 =>
 opU Tryd.prog w44 (Instr.storeAt 23 t76 t75) fun w45 =>
 opQ Tryd.prog w45 (Instr.loadAt 25 t5) fun t77 =>
 opU Tryd.prog w45 (Instr.storeAt 25 t4 t77) fun w46 =>
 opQ Tryd.prog w46 (cellSem 25 t4) fun r47 =>
 K r47 w46)))
theorem Tryd.E_ref06_reader_reference (t0 t1 : Value) (w : World) (K : Value → World → Prop) : sw ⟨false, false⟩ Tryd.prog (fun _ _ => False) Tryd.A_ref06_reader_reference (bodyOf Tryd.f96) [t0, t1, undef, undef, undef, undef, undef, undef, undef, undef, undef, undef, undef, undef, undef, undef, undef, undef, undef, undef, undef, undef, undef, undef, undef, undef, undef, undef, undef, undef, undef, undef, undef, undef, undef, undef, undef, undef, undef, undef, undef, undef, undef, undef, undef, undef, undef, undef, undef, undef, undef, undef, undef, undef, undef, undef, undef, undef, undef, undef, undef, undef, undef, undef, undef, undef, undef, undef, undef, undef, undef, undef, undef, undef, undef, undef, undef, undef] w (topQ false Tryd.prog Tryd.f96 w K) = Tryd.F_ref06_reader_reference t0 t1 w K := by kernel_rfl
theorem Tryd.C_ref06_reader_reference : chk ⟨false, false⟩ Tryd.prog false Tryd.A_ref06_reader_reference (bodyOf Tryd.f96) = true := by kernel_rfl
theorem Tryd.ok_ref06_reader_reference {t0 t1 : Value} {w : World} {K : Value → World → Prop} (h : Tryd.F_ref06_reader_reference t0 t1 w K) : oCall Tryd.prog Tryd.n_ref06_reader_reference #[t0, t1] w K :=
  calls_of_sw (cf := ⟨false, false⟩) Tryd.mixed Tryd.func96 rfl Tryd.C_ref06_reader_reference ((Tryd.E_ref06_reader_reference t0 t1 w K).mpr h)

/- 17: loanword/loanwordref06.Read -/
def Tryd.A_ref06_Read : Ann := .s (.r (.op 0 .l (.op 1 .p (.op 2 .p (.nil))))) (.s (.r (.op 0 .p (.op 1 .p (.op 2 .l (.op 3 .p (.nil)))))) (.s (.r (.op 0 .p (.op 1 .l (.op 2 .l (.op 3 .l (.nil)))))) (.s (.s (.r (.op 0 .p (.op 1 .p (.op 2 .p (.op 3 .q (.op 4 .p (.grp 16 false [(5, .p), (6, .p), (7, .p), (8, .q), (9, .p), (10, .p), (11, .p)] [23] (.op 12 .p (.nil))))))))) (.c (.s (.r (.op 0 .p (.op 1 .p (.op 2 .p (.op 3 .p (.alt 4 .l (.op 5 .l (.op 6 .p (.op 7 .p (.nil)))) (.op 5 .l (.op 4 .l (.op 6 .p (.op 7 .p (.nil))))))))))) (.n)) (.n))) (.s (.r (.op 0 .q (.op 1 .l (.op 2 .p (.op 3 .p (.nil)))))) (.n)))))
def Tryd.F_ref06_Read (t0 : Value) (w : World) (K : Value → World → Prop) : Prop :=
 opW Tryd.prog w (Instr.alloc 25 true (.tuple #[])) fun t2 w1 =>
 opP Tryd.prog (Instr.build 94 #[(0, t0)]) fun t8 =>
 opW Tryd.prog w1 (Instr.box 94 t8) fun t9 w2 =>
 oCall Tryd.prog Tryd.n_ref06_reader_kind #[t9, (Value.int .i64 48)] w2 fun t11 w3 =>
 opW Tryd.prog w3 (Instr.alloc 25 true (.tuple #[])) fun t6 w4 =>
 opU Tryd.prog w4 (Instr.storeAt 25 t6 t11) fun w5 =>
 oNil t9 fun t13 =>
 opP Tryd.prog (Instr.fieldAt 94 t13 2) fun t14 =>
 opQ Tryd.prog w5 (Instr.loadAt 4 t14) fun t15 =>
 sJoin (fun K6 => gIf t15 false (oNil t9 fun t18 =>
 opP Tryd.prog (Instr.fieldAt 94 t18 1) fun t19 =>
 opQ Tryd.prog w5 (Instr.loadAt 3 t19) fun t20 =>
 opP Tryd.prog (Builtin.len_ #[9] 3 #[t0]) fun t22 =>
 opP Tryd.prog (bsem .lss 3 false t20 t22) fun t23 =>
 K6 [t23] w5) (K6 [undef] w5)) (fun s7 _d8 w9 =>
 oPick t15 (Value.bool true) (s7.getD 0 undef) fun t24 =>
 oCond t24 (opP Tryd.prog (Instr.build 25 #[]) fun t25 =>
 oNil t9 fun t27 =>
 opP Tryd.prog (Instr.fieldAt 94 t27 1) fun t28 =>
 ((opW Tryd.prog w9.drew (Instr.loadAt 3 t28) fun t29 w10 =>
 opU Tryd.prog w10 (Instr.storeAt 25 t2 t25) fun w11 =>
 opQ Tryd.prog w11 (cellSem 25 t2) fun r12 =>
 K (.tuple #[r12, t29, (Value.int .i64 60)]) w11) ∧
 (opU Tryd.prog w9.drew (Instr.storeAt 25 t2 t25) fun w13 =>
 opW Tryd.prog w13 (Instr.loadAt 3 t28) fun t29_15 w14 =>
 opQ Tryd.prog w14 (cellSem 25 t2) fun r16 =>
 K (.tuple #[r16, t29_15, (Value.int .i64 60)]) w14))) (opQ Tryd.prog w9 (Instr.loadAt 25 t6) fun t30 =>
 opU Tryd.prog w9 (Instr.storeAt 25 t2 t30) fun w17 =>
 opQ Tryd.prog w17 (cellSem 25 t2) fun r18 =>
 K (.tuple #[r18, (Value.int .i64 0), (Value.int .i64 0)]) w17))
theorem Tryd.E_ref06_Read (t0 : Value) (w : World) (K : Value → World → Prop) : sw ⟨false, false⟩ Tryd.prog (fun _ _ => False) Tryd.A_ref06_Read (bodyOf Tryd.f17) [t0, undef, undef, undef, undef, undef, undef, undef, undef, undef, undef, undef, undef, undef, undef, undef, undef, undef, undef, undef, undef, undef, undef, undef, undef, undef, undef, undef, undef, undef, undef] w (topQ false Tryd.prog Tryd.f17 w K) = Tryd.F_ref06_Read t0 w K := by kernel_rfl
theorem Tryd.C_ref06_Read : chk ⟨false, false⟩ Tryd.prog false Tryd.A_ref06_Read (bodyOf Tryd.f17) = true := by kernel_rfl
theorem Tryd.ok_ref06_Read {t0 : Value} {w : World} {K : Value → World → Prop} (h : Tryd.F_ref06_Read t0 w K) : oCall Tryd.prog Tryd.n_ref06_Read #[t0] w K :=
  calls_of_sw (cf := ⟨false, false⟩) Tryd.mixed Tryd.func17 rfl Tryd.C_ref06_Read ((Tryd.E_ref06_Read t0 w K).mpr h)

end Go.Proofs
