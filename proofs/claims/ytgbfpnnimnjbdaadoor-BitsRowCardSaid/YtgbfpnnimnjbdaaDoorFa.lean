/-
  Shallow readings of functions. Made by a program (wip/gen/gen.py) out of the translation; the kernel checks each equality.
-/
import Derived.Test.YtgbfpnnimnjbdaaDoorTy
namespace Go.Proofs
open Go.Sh
set_option maxRecDepth 100000
/- 11: loanword/bits.Bytes -/
def Tryd.A_bits_Bytes : Ann := .s (.r (.op 0 .l (.op 1 .p (.op 2 .p (.nil))))) (.s (.s (.r (.op 0 .q (.op 1 .l (.op 2 .p (.nil))))) (.c (.s (.r (.op 0 .p (.op 1 .p (.nil)))) (.n)) (.n))) (.s (.r (.op 0 .p (.op 1 .q (.op 2 .p (.op 3 .p (.op 4 .l (.op 5 .l (.op 6 .l (.nil))))))))) (.s (.r (.op 0 .p (.op 1 .l (.op 2 .l (.nil))))) (.s (.s (.r (.op 0 .q (.op 1 .l (.nil)))) (.b (.rf [] (.r (.op 0 .p (.nil))) (.b (.r (.op 0 .q (.op 1 .p (.op 2 .l (.nil))))))))) (.s (.r (.op 0 .q (.op 1 .q (.op 2 .p (.op 3 .p (.nil)))))) (.n))))))
def Tryd.F_bits_Bytes (t0 : Value) (w : World) (K : Value → World → Prop) : Prop :=
 opW Tryd.prog w (Instr.box 24 t0) fun t1 w1 =>
 NC w w1 ∧
 opQ Tryd.prog w1 (Instr.loadAt 24 t1) fun t7 =>
 oCall Tryd.prog Tryd.n_bits_May #[t7] w1 fun t8 w2 =>
 NC w1 w2 ∧
 opP Tryd.prog (Op.unary .not t8) fun t9 =>
 oCond t9 (∀ w3, Shuts w.heap.size w2 w3 → K (.tuple #[(Value.string { data := #[] }), (Value.int .i64 2)]) w3) (opP Tryd.prog (Instr.fieldAt 24 t1 0) fun t10 =>
 opQ Tryd.prog w2 (Instr.loadAt 3 t10) fun t11 =>
 opP Tryd.prog (bsem .add 3 true t11 (Value.int .i64 7)) fun t12 =>
 opP Tryd.prog (bsem .quo 3 true t12 (Value.int .i64 8)) fun t13 =>
 opW Tryd.prog w2 (Instr.makeSlice 65 t13 t13) fun t14 w4 =>
 NC w2 w4 ∧
 opW Tryd.prog w4 (Instr.alloc 65 true (.tuple #[])) fun t4 w5 =>
 NC w4 w5 ∧
 opU Tryd.prog w5 (Instr.storeAt 65 t4 t14) fun w6 =>
 NC w5 w6 ∧
 opP Tryd.prog (Instr.makeFunc (.func 39) #[] #[t4]) fun t15 =>
 opW Tryd.prog w6 (Instr.alloc 66 true (.tuple #[])) fun t5 w7 =>
 NC w6 w7 ∧
 opU Tryd.prog w7 (Instr.storeAt 66 t5 t15) fun w8 =>
 NC w7 w8 ∧
 opQ Tryd.prog w8 (Instr.loadAt 24 t1) fun t16 =>
 oCall Tryd.prog Tryd.n_bits_Each #[t16] w8 fun t17 w9 =>
 NC w8 w9 ∧
 oRange Tryd.prog 1 t17 w9 (fun x10 w11 S12 KR13 =>
 (Ext w11 w11 ∧ ∀ w14, Nl w9.heap.size w11 w14 →
 opQ Tryd.prog w14 (Instr.loadAt 66 t5) fun t19 =>
 oCallV Tryd.prog t19 #[(x10.getD 0 undef)] w14 fun _t21 w15 =>
 NC w14 w15 ∧
 (ExtBut S12 w14 w15 ∧ KR13 .normal w15))) (fun w16 =>
 opQ Tryd.prog w16 (Instr.loadAt 65 t4) fun t22 =>
 opQ Tryd.prog w16 (convert 65 9 t22) fun t23 =>
 ∀ w17, Shuts w.heap.size w16 w17 → K (.tuple #[t23, (Value.int .i64 0)]) w17) (fun w18 =>
 ∀ w19, Shuts w.heap.size w18 w19 → K (.tuple #[(Value.string { data := #[] }), (Value.int .i64 0)]) w19) [])
theorem Tryd.E_bits_Bytes (t0 : Value) (w : World) (K : Value → World → Prop) : sw ⟨true, false⟩ Tryd.prog (fun _ _ => False) Tryd.A_bits_Bytes (bodyOf Tryd.f11) [t0, undef, undef, undef, undef, undef, undef, undef, undef, undef, undef, undef, undef, undef, undef, undef, undef, undef, undef, undef, undef, undef, undef, undef] w (topQ true Tryd.prog Tryd.f11 w K) = Tryd.F_bits_Bytes t0 w K := by kernel_rfl
theorem Tryd.C_bits_Bytes : chk ⟨true, false⟩ Tryd.prog false Tryd.A_bits_Bytes (bodyOf Tryd.f11) = true := by kernel_rfl
theorem Tryd.ok_bits_Bytes {t0 : Value} {w : World} {K : Value → World → Prop} (h : Tryd.F_bits_Bytes t0 w K) : oCall Tryd.prog Tryd.n_bits_Bytes #[t0] w K :=
  calls_of_sw (cf := ⟨true, false⟩) Tryd.mixed Tryd.func11 rfl Tryd.C_bits_Bytes ((Tryd.E_bits_Bytes t0 w K).mpr h)

/- 14: loanword/bits.Read -/
def Tryd.A_bits_Read : Ann := .s (.r (.op 0 .l (.op 1 .p (.op 2 .p (.nil))))) (.s (.r (.op 0 .p (.op 1 .l (.op 2 .p (.op 3 .p (.op 4 .p (.op 5 .l (.op 6 .p (.nil))))))))) (.s (.s (.r (.op 0 .p (.op 1 .p (.nil)))) (.c (.s (.r (.op 0 .p (.op 1 .p (.op 2 .l (.op 3 .p (.op 4 .p (.nil))))))) (.n)) (.n))) (.s (.r (.op 0 .p (.op 1 .p (.op 2 .p (.op 3 .p (.nil)))))) (.s (.s (.r (.op 0 .p (.op 1 .p (.op 2 .p (.op 3 .p (.op 4 .p (.nil))))))) (.b (.lp [26] (.s (.r (.op 0 .p (.nil))) (.s (.c (.n) (.n)) (.s (.b (.s (.r (.op 0 .p (.op 1 .p (.nil)))) (.s (.r (.op 0 .p (.nil))) (.b (.lp [29] (.s (.r (.op 0 .p (.nil))) (.s (.c (.n) (.n)) (.j [] (.b (.s (.r (.op 0 .p (.op 1 .p (.nil)))) (.s (.s (.r (.op 0 .p (.op 1 .p (.op 2 .p (.op 3 .p (.op 4 .p (.op 5 .p (.op 6 .p (.nil))))))))) (.c (.n) (.n))) (.s (.s (.r (.op 0 .p (.op 1 .p (.op 2 .p (.op 3 .p (.op 4 .p (.op 5 .p (.nil)))))))) (.c (.s (.r (.op 0 .p (.op 1 .p (.op 2 .l (.op 3 .p (.op 4 .p (.nil))))))) (.n)) (.n))) (.r (.op 0 .p (.op 1 .q (.op 2 .p (.op 3 .p (.op 4 .p (.op 5 .p (.op 6 .p (.op 7 .p (.op 8 .q (.op 9 .p (.op 10 .p (.op 11 .p (.op 12 .p (.op 13 .p (.op 14 .p (.op 15 .p (.op 16 .p (.op 17 .l (.nil)))))))))))))))))))))))) (.r (.op 0 .p (.op 1 .p (.nil)))))))))))) (.r (.op 0 .p (.op 1 .p (.nil)))))))))) (.s (.s (.r (.op 0 .p (.op 1 .p (.op 2 .p (.op 3 .p (.nil)))))) (.c (.s (.r (.op 0 .p (.op 1 .p (.op 2 .p (.op 3 .p (.op 4 .p (.op 5 .l (.op 6 .p (.op 7 .p (.nil)))))))))) (.n)) (.n))) (.s (.r (.op 0 .q (.op 1 .l (.op 2 .p (.op 3 .p (.nil)))))) (.n)))))))
def Tryd.F_bits_Read (t0 : Value) (t1 : Value) (w : World) (K : Value → World → Prop) : Prop :=
 opW Tryd.prog w (Instr.alloc 24 true (.tuple #[])) fun t4 w1 =>
 oCall Tryd.prog Tryd.n_bits_New #[t0] w1 fun t12 w2 =>
 opP Tryd.prog (Instr.extract t12 0) fun t13 =>
 opP Tryd.prog (Instr.extract t12 1) fun t14 =>
 opU Tryd.prog w2 (Instr.storeAt 24 t4 t13) fun w3 =>
 opP Tryd.prog (bsem .neq 27 true t14 (Value.int .i64 0)) fun t16 =>
 oCond t16 (opP Tryd.prog (Instr.build 24 #[]) fun t17 =>
 opU Tryd.prog w3 (Instr.storeAt 24 t4 t17) fun w4 =>
 opQ Tryd.prog w4 (cellSem 24 t4) fun r5 =>
 K (.tuple #[r5, (Value.int .i64 0), t14]) w4) (opP Tryd.prog (bsem .add 3 true t0 (Value.int .i64 7)) fun t20 =>
 opP Tryd.prog (bsem .quo 3 true t20 (Value.int .i64 8)) fun t21 =>
 opP Tryd.prog (Builtin.len_ #[9] 3 #[t1]) fun t24 =>
 opP Tryd.prog (Builtin.min_ #[3, 3] 3 #[t21, t24]) fun t25 =>
 sLoop [(Value.int .i64 0)] w3 (fun s7 _d8 w9 K6 =>
 opP Tryd.prog (bsem .lss 3 false (s7.getD 0 undef) t25) fun t27 =>
 oCond t27 (sLoop [(Value.int .i64 0)] w9 (fun s11 _d12 w13 K10 =>
 opP Tryd.prog (bsem .lss 3 true (s11.getD 0 undef) (Value.int .i64 8)) fun t30 =>
 oCond t30 (sJoin (fun K14 =>
 opP Tryd.prog (Instr.index 9 t1 (s7.getD 0 undef)) fun t34 =>
 opP Tryd.prog (bsem .shr 5 true (Value.int .u8 128) (s11.getD 0 undef)) fun t36 =>
 opP Tryd.prog (bsem .and 5 false t34 t36) fun t37 =>
 opP Tryd.prog (bsem .eql 5 true t37 (Value.int .u8 0)) fun t38 =>
 oCond t38 (K14 [] w13.drew) (opP Tryd.prog (bsem .mul 3 true (Value.int .i64 8) (s7.getD 0 undef)) fun t40 =>
 opP Tryd.prog (bsem .add 3 false t40 (s11.getD 0 undef)) fun t42 =>
 opP Tryd.prog (bsem .geq 3 false t42 t0) fun t44 =>
 oCond t44 (opP Tryd.prog (Instr.build 24 #[]) fun t45 =>
 opU Tryd.prog w13.drew (Instr.storeAt 24 t4 t45) fun w18 =>
 opQ Tryd.prog w18 (cellSem 24 t4) fun r19 =>
 K (.tuple #[r19, (s7.getD 0 undef), (Value.int .i64 10)]) w18) (opP Tryd.prog (Instr.fieldAt 24 t4 1) fun t47 =>
 opQ Tryd.prog w13.drew.drew (Instr.loadAt 22 t47) fun t48 =>
 opP Tryd.prog (bsem .mul 3 true (Value.int .i64 8) (s7.getD 0 undef)) fun t50 =>
 opP Tryd.prog (bsem .add 3 false t50 (s11.getD 0 undef)) fun t52 =>
 opP Tryd.prog (bsem .quo 3 true t52 (Value.int .i64 64)) fun t53 =>
 opP Tryd.prog (Instr.indexAt 22 t48 t53) fun t54 =>
 opQ Tryd.prog w13.drew.drew (Instr.loadAt 64 t54) fun t55 =>
 opP Tryd.prog (bsem .mul 3 true (Value.int .i64 8) (s7.getD 0 undef)) fun t57 =>
 opP Tryd.prog (bsem .add 3 false t57 (s11.getD 0 undef)) fun t59 =>
 opP Tryd.prog (bsem .rem 3 true t59 (Value.int .i64 64)) fun t60 =>
 opP Tryd.prog (bsem .shl 64 true (Value.int .u64 1) t60) fun t61 =>
 opP Tryd.prog (bsem .or 64 false t55 t61) fun t62 =>
 opP Tryd.prog (Instr.indexAt 22 t48 t53) fun t63 =>
 opU Tryd.prog w13.drew.drew (Instr.storeAt 64 t63 t62) fun w20 =>
 K14 [] w20))) (fun _s15 _d16 w17 =>
 opP Tryd.prog (bsem .add 3 true (s11.getD 0 undef) (Value.int .i64 1)) fun t64 =>
 K10 [t64] w17)) (opP Tryd.prog (bsem .add 3 true (s7.getD 0 undef) (Value.int .i64 1)) fun t65 =>
 K6 [t65] w13))) (opP Tryd.prog (Builtin.len_ #[9] 3 #[t1]) fun t67 =>
 opP Tryd.prog (bsem .neq 3 false t67 t21) fun t69 =>
 oCond t69 (opP Tryd.prog (Instr.build 24 #[]) fun t70 =>
 opP Tryd.prog (Builtin.len_ #[9] 3 #[t1]) fun t73 =>
 opP Tryd.prog (Builtin.min_ #[3, 3] 3 #[t21, t73]) fun t74 =>
 opU Tryd.prog w9 (Instr.storeAt 24 t4 t70) fun w21 =>
 opQ Tryd.prog w21 (cellSem 24 t4) fun r22 =>
 K (.tuple #[r22, t74, (Value.int .i64 10)]) w21) (opQ Tryd.prog w9 (Instr.loadAt 24 t4) fun t75 =>
 opU Tryd.prog w9 (Instr.storeAt 24 t4 t75) fun w23 =>
 opQ Tryd.prog w23 (cellSem 24 t4) fun r24 =>
 K (.tuple #[r24, (Value.int .i64 0), (Value.int .i64 0)]) w23))))
theorem Tryd.E_bits_Read (t0 t1 : Value) (w : World) (K : Value → World → Prop) : sw ⟨false, false⟩ Tryd.prog (fun _ _ => False) Tryd.A_bits_Read (bodyOf Tryd.f14) [t0, t1, undef, undef, undef, undef, undef, undef, undef, undef, undef, undef, undef, undef, undef, undef, undef, undef, undef, undef, undef, undef, undef, undef, undef, undef, undef, undef, undef, undef, undef, undef, undef, undef, undef, undef, undef, undef, undef, undef, undef, undef, undef, undef, undef, undef, undef, undef, undef, undef, undef, undef, undef, undef, undef, undef, undef, undef, undef, undef, undef, undef, undef, undef, undef, undef, undef, undef, undef, undef, undef, undef, undef, undef, undef, undef] w (topQ false Tryd.prog Tryd.f14 w K) = Tryd.F_bits_Read t0 t1 w K := by kernel_rfl
theorem Tryd.C_bits_Read : chk ⟨false, false⟩ Tryd.prog false Tryd.A_bits_Read (bodyOf Tryd.f14) = true := by kernel_rfl
theorem Tryd.ok_bits_Read {t0 t1 : Value} {w : World} {K : Value → World → Prop} (h : Tryd.F_bits_Read t0 t1 w K) : oCall Tryd.prog Tryd.n_bits_Read #[t0, t1] w K :=
  calls_of_sw (cf := ⟨false, false⟩) Tryd.mixed Tryd.func14 rfl Tryd.C_bits_Read ((Tryd.E_bits_Read t0 t1 w K).mpr h)

/- 18: loanword/bits.May -/
def Tryd.A_bits_May : Ann := .s (.r (.op 0 .l (.op 1 .p (.nil)))) (.s (.s (.r (.op 0 .p (.op 1 .q (.op 2 .p (.op 3 .p (.grp 6 false [(4, .p), (5, .q), (6, .p)] [9] (.op 7 .p (.op 8 .p (.grp 11 false [(9, .p), (10, .q), (11, .p), (12, .p), (13, .q), (14, .p), (15, .p), (16, .p)] [19] (.op 17 .p (.nil))))))))))) (.c (.s (.r (.op 0 .p (.nil))) (.n)) (.n))) (.s (.r (.op 0 .p (.op 1 .q (.op 2 .p (.op 3 .p (.op 4 .p (.grp 25 false [(5, .p), (6, .q), (7, .p), (8, .q), (9, .p), (10, .p), (11, .p), (12, .q), (13, .p), (14, .q), (15, .p), (16, .p), (17, .p)] [38] (.op 18 .p (.op 19 .p (.nil)))))))))) (.n)))
def Tryd.F_bits_May (t0 : Value) (w : World) (K : Value → World → Prop) : Prop :=
 opW Tryd.prog w (Instr.box 24 t0) fun t1 w1 =>
 opP Tryd.prog (Instr.fieldAt 24 t1 0) fun t3 =>
 opQ Tryd.prog w1 (Instr.loadAt 3 t3) fun t4 =>
 opP Tryd.prog (bsem .lss 3 true t4 (Value.int .i64 0)) fun t5 =>
 sJoin (fun K2 => gIf t5 false (opP Tryd.prog (Instr.fieldAt 24 t1 0) fun t7 =>
 opQ Tryd.prog w1 (Instr.loadAt 3 t7) fun t8 =>
 opP Tryd.prog (bsem .gtr 3 true t8 (Value.int .i64 1032)) fun t9 =>
 K2 [t9] w1) (K2 [undef] w1)) (fun s3 _d4 w5 =>
 oPick t5 (Value.bool true) (s3.getD 0 undef) fun t10 =>
 sJoin (fun K6 => gIf t10 false (opP Tryd.prog (Instr.fieldAt 24 t1 1) fun t12 =>
 opQ Tryd.prog w5 (Instr.loadAt 22 t12) fun t13 =>
 opP Tryd.prog (Builtin.len_ #[22] 3 #[t13]) fun t14 =>
 opP Tryd.prog (Instr.fieldAt 24 t1 0) fun t15 =>
 opQ Tryd.prog w5 (Instr.loadAt 3 t15) fun t16 =>
 opP Tryd.prog (bsem .add 3 true t16 (Value.int .i64 63)) fun t17 =>
 opP Tryd.prog (bsem .quo 3 true t17 (Value.int .i64 64)) fun t18 =>
 opP Tryd.prog (bsem .neq 3 false t14 t18) fun t19 =>
 K6 [t19] w5) (K6 [undef] w5)) (fun s7 _d8 w9 =>
 oPick t10 (Value.bool true) (s7.getD 0 undef) fun t20 =>
 oCond t20 (K (Value.bool false) w9) (opP Tryd.prog (Instr.fieldAt 24 t1 0) fun t21 =>
 opQ Tryd.prog w9.drew (Instr.loadAt 3 t21) fun t22 =>
 opP Tryd.prog (bsem .rem 3 true t22 (Value.int .i64 64)) fun t23 =>
 opP Tryd.prog (bsem .eql 3 true t23 (Value.int .i64 0)) fun t24 =>
 sJoin (fun K10 => gIf t24 false (opP Tryd.prog (Instr.fieldAt 24 t1 1) fun t26 =>
 opQ Tryd.prog w9.drew (Instr.loadAt 22 t26) fun t27 =>
 opP Tryd.prog (Instr.fieldAt 24 t1 1) fun t28 =>
 opQ Tryd.prog w9.drew (Instr.loadAt 22 t28) fun t29 =>
 opP Tryd.prog (Builtin.len_ #[22] 3 #[t29]) fun t30 =>
 opP Tryd.prog (bsem .sub 3 true t30 (Value.int .i64 1)) fun t31 =>
 opP Tryd.prog (Instr.indexAt 22 t27 t31) fun t32 =>
 opQ Tryd.prog w9.drew (Instr.loadAt 64 t32) fun t33 =>
 opP Tryd.prog (Instr.fieldAt 24 t1 0) fun t34 =>
 opQ Tryd.prog w9.drew (Instr.loadAt 3 t34) fun t35 =>
 opP Tryd.prog (bsem .rem 3 true t35 (Value.int .i64 64)) fun t36 =>
 opP Tryd.prog (bsem .shr 64 false t33 t36) fun t37 =>
 opP Tryd.prog (bsem .eql 64 true t37 (Value.int .u64 0)) fun t38 =>
 K10 [t38] w9.drew) (K10 [undef] w9.drew)) (fun s11 _d12 w13 =>
 oPick t24 (Value.bool true) (s11.getD 0 undef) fun t39 =>
 K t39 w13))))
theorem Tryd.E_bits_May (t0 : Value) (w : World) (K : Value → World → Prop) : sw ⟨false, false⟩ Tryd.prog (fun _ _ => False) Tryd.A_bits_May (bodyOf Tryd.f18) [t0, undef, undef, undef, undef, undef, undef, undef, undef, undef, undef, undef, undef, undef, undef, undef, undef, undef, undef, undef, undef, undef, undef, undef, undef, undef, undef, undef, undef, undef, undef, undef, undef, undef, undef, undef, undef, undef, undef, undef] w (topQ false Tryd.prog Tryd.f18 w K) = Tryd.F_bits_May t0 w K := by kernel_rfl
theorem Tryd.C_bits_May : chk ⟨false, false⟩ Tryd.prog false Tryd.A_bits_May (bodyOf Tryd.f18) = true := by kernel_rfl
theorem Tryd.ok_bits_May {t0 : Value} {w : World} {K : Value → World → Prop} (h : Tryd.F_bits_May t0 w K) : oCall Tryd.prog Tryd.n_bits_May #[t0] w K :=
  calls_of_sw (cf := ⟨false, false⟩) Tryd.mixed Tryd.func18 rfl Tryd.C_bits_May ((Tryd.E_bits_May t0 w K).mpr h)

/- 19: loanword/bits.New -/
def Tryd.A_bits_New : Ann := .s (.r (.op 0 .l (.op 1 .p (.nil)))) (.s (.s (.r (.op 0 .p (.op 1 .p (.op 2 .p (.grp 6 false [(3, .p), (4, .p)] [8] (.op 5 .p (.nil))))))) (.c (.s (.r (.op 0 .p (.op 1 .l (.op 2 .p (.nil))))) (.n)) (.n))) (.s (.r (.op 0 .p (.op 1 .p (.op 2 .p (.op 3 .p (.op 4 .l (.op 5 .p (.op 6 .l (.op 7 .p (.nil)))))))))) (.n)))
def Tryd.F_bits_New (t0 : Value) (w : World) (K : Value → World → Prop) : Prop :=
 opW Tryd.prog w (Instr.alloc 24 true (.tuple #[])) fun t2 w1 =>
 opP Tryd.prog (bsem .lss 3 true t0 (Value.int .i64 0)) fun t5 =>
 sJoin (fun K2 => gIf t5 false (opP Tryd.prog (bsem .gtr 3 true t0 (Value.int .i64 1032)) fun t8 =>
 K2 [t8] w1) (K2 [undef] w1)) (fun s3 _d4 w5 =>
 oPick t5 (Value.bool true) (s3.getD 0 undef) fun t9 =>
 oCond t9 (opP Tryd.prog (Instr.build 24 #[]) fun t10 =>
 opU Tryd.prog w5 (Instr.storeAt 24 t2 t10) fun w6 =>
 opQ Tryd.prog w6 (cellSem 24 t2) fun r7 =>
 K (.tuple #[r7, (Value.int .i64 2)]) w6) (opP Tryd.prog (bsem .add 3 true t0 (Value.int .i64 63)) fun t13 =>
 opP Tryd.prog (bsem .quo 3 true t13 (Value.int .i64 64)) fun t14 =>
 opW Tryd.prog w5 (Instr.makeSlice 22 t14 t14) fun t15 w8 =>
 opP Tryd.prog (Instr.build 24 #[(0, t0), (1, t15)]) fun t16 =>
 opU Tryd.prog w8 (Instr.storeAt 24 t2 t16) fun w9 =>
 opQ Tryd.prog w9 (cellSem 24 t2) fun r10 =>
 K (.tuple #[r10, (Value.int .i64 0)]) w9))
theorem Tryd.E_bits_New (t0 : Value) (w : World) (K : Value → World → Prop) : sw ⟨false, false⟩ Tryd.prog (fun _ _ => False) Tryd.A_bits_New (bodyOf Tryd.f19) [t0, undef, undef, undef, undef, undef, undef, undef, undef, undef, undef, undef, undef, undef, undef, undef, undef] w (topQ false Tryd.prog Tryd.f19 w K) = Tryd.F_bits_New t0 w K := by kernel_rfl
theorem Tryd.C_bits_New : chk ⟨false, false⟩ Tryd.prog false Tryd.A_bits_New (bodyOf Tryd.f19) = true := by kernel_rfl
theorem Tryd.ok_bits_New {t0 : Value} {w : World} {K : Value → World → Prop} (h : Tryd.F_bits_New t0 w K) : oCall Tryd.prog Tryd.n_bits_New #[t0] w K :=
  calls_of_sw (cf := ⟨false, false⟩) Tryd.mixed Tryd.func19 rfl Tryd.C_bits_New ((Tryd.E_bits_New t0 w K).mpr h)

/- 21: loanword/bits.Own -/
def Tryd.A_bits_Own : Ann := .s (.r (.op 0 .l (.op 1 .l (.op 2 .p (.nil))))) (.s (.s (.r (.op 0 .q (.op 1 .l (.op 2 .p (.nil))))) (.c (.s (.r (.op 0 .p (.op 1 .l (.op 2 .p (.nil))))) (.n)) (.n))) (.s (.r (.op 0 .p (.op 1 .q (.op 2 .p (.op 3 .q (.op 4 .u (.op 5 .p (.op 6 .l (.op 7 .p (.nil)))))))))) (.n)))
def Tryd.F_bits_Own (t0 : Value) (w : World) (K : Value → World → Prop) : Prop :=
 opW Tryd.prog w (Instr.box 24 t0) fun t1 w1 =>
 opW Tryd.prog w1 (Instr.alloc 24 true (.tuple #[])) fun t2 w2 =>
 opQ Tryd.prog w2 (Instr.loadAt 24 t1) fun t4 =>
 oCall Tryd.prog Tryd.n_bits_May #[t4] w2 fun t5 w3 =>
 opP Tryd.prog (Op.unary .not t5) fun t6 =>
 oCond t6 (opP Tryd.prog (Instr.build 24 #[]) fun t7 =>
 opU Tryd.prog w3 (Instr.storeAt 24 t2 t7) fun w4 =>
 opQ Tryd.prog w4 (cellSem 24 t2) fun r5 =>
 K (.tuple #[r5, (Value.int .i64 2)]) w4) (opP Tryd.prog (Instr.fieldAt 24 t1 0) fun t8 =>
 opQ Tryd.prog w3.drew (Instr.loadAt 3 t8) fun t9 =>
 opP Tryd.prog (Instr.fieldAt 24 t1 1) fun t10 =>
 opQ Tryd.prog w3.drew (Instr.loadAt 22 t10) fun t11 =>
 oCall Tryd.prog Tryd.n_slices_Clone_uint64_uint64 #[t11] w3.drew fun t12 w6 =>
 Ext w3.drew w6 ∧
 opP Tryd.prog (Instr.build 24 #[(0, t9), (1, t12)]) fun t13 =>
 opU Tryd.prog w6 (Instr.storeAt 24 t2 t13) fun w7 =>
 opQ Tryd.prog w7 (cellSem 24 t2) fun r8 =>
 K (.tuple #[r8, (Value.int .i64 0)]) w7)
theorem Tryd.E_bits_Own (t0 : Value) (w : World) (K : Value → World → Prop) : sw ⟨false, false⟩ Tryd.prog (fun _ _ => False) Tryd.A_bits_Own (bodyOf Tryd.f21) [t0, undef, undef, undef, undef, undef, undef, undef, undef, undef, undef, undef, undef, undef] w (topQ false Tryd.prog Tryd.f21 w K) = Tryd.F_bits_Own t0 w K := by kernel_rfl
theorem Tryd.C_bits_Own : chk ⟨false, false⟩ Tryd.prog false Tryd.A_bits_Own (bodyOf Tryd.f21) = true := by kernel_rfl
theorem Tryd.ok_bits_Own {t0 : Value} {w : World} {K : Value → World → Prop} (h : Tryd.F_bits_Own t0 w K) : oCall Tryd.prog Tryd.n_bits_Own #[t0] w K :=
  calls_of_sw (cf := ⟨false, false⟩) Tryd.mixed Tryd.func21 rfl Tryd.C_bits_Own ((Tryd.E_bits_Own t0 w K).mpr h)

/- 22: loanword/bits.Get -/
def Tryd.A_bits_Get : Ann := .s (.r (.op 0 .l (.op 1 .p (.nil)))) (.s (.r (.op 0 .q (.op 1 .l (.op 2 .p (.grp 7 true [(3, .p), (4, .p)] [9] (.op 5 .p (.op 6 .p (.grp 11 true [(7, .p), (8, .p), (9, .q), (10, .p)] [15] (.op 11 .p (.op 12 .p (.grp 17 true [(13, .p), (14, .q), (15, .p), (16, .p), (17, .p), (18, .q), (19, .p), (20, .p), (21, .p), (22, .p), (23, .p)] [28] (.op 24 .p (.op 25 .p (.nil)))))))))))))) (.n))
def Tryd.F_bits_Get (t0 : Value) (t1 : Value) (w : World) (K : Value → World → Prop) : Prop :=
 opW Tryd.prog w (Instr.box 24 t0) fun t2 w1 =>
 opQ Tryd.prog w1 (Instr.loadAt 24 t2) fun t5 =>
 oCall Tryd.prog Tryd.n_bits_May #[t5] w1 fun t6 w2 =>
 sJoin (fun K3 => gIf t6 true (opP Tryd.prog (bsem .geq 3 true t1 (Value.int .i64 0)) fun t9 =>
 K3 [t9] w2) (K3 [undef] w2)) (fun s4 _d5 w6 =>
 oPick t6 (s4.getD 0 undef) (Value.bool false) fun t10 =>
 sJoin (fun K7 => gIf t10 true (opP Tryd.prog (Instr.fieldAt 24 t2 0) fun t13 =>
 opQ Tryd.prog w6 (Instr.loadAt 3 t13) fun t14 =>
 opP Tryd.prog (bsem .lss 3 false t1 t14) fun t15 =>
 K7 [t15] w6) (K7 [undef] w6)) (fun s8 _d9 w10 =>
 oPick t10 (s8.getD 0 undef) (Value.bool false) fun t16 =>
 sJoin (fun K11 => gIf t16 true (opP Tryd.prog (Instr.fieldAt 24 t2 1) fun t18 =>
 opQ Tryd.prog w10 (Instr.loadAt 22 t18) fun t19 =>
 opP Tryd.prog (bsem .quo 3 true t1 (Value.int .i64 64)) fun t21 =>
 opP Tryd.prog (Instr.indexAt 22 t19 t21) fun t22 =>
 opQ Tryd.prog w10 (Instr.loadAt 64 t22) fun t23 =>
 opP Tryd.prog (bsem .rem 3 true t1 (Value.int .i64 64)) fun t25 =>
 opP Tryd.prog (bsem .shr 64 false t23 t25) fun t26 =>
 opP Tryd.prog (bsem .and 64 true t26 (Value.int .u64 1)) fun t27 =>
 opP Tryd.prog (bsem .eql 64 true t27 (Value.int .u64 1)) fun t28 =>
 K11 [t28] w10) (K11 [undef] w10)) (fun s12 _d13 w14 =>
 oPick t16 (s12.getD 0 undef) (Value.bool false) fun t29 =>
 K t29 w14)))
theorem Tryd.E_bits_Get (t0 t1 : Value) (w : World) (K : Value → World → Prop) : sw ⟨false, false⟩ Tryd.prog (fun _ _ => False) Tryd.A_bits_Get (bodyOf Tryd.f22) [t0, t1, undef, undef, undef, undef, undef, undef, undef, undef, undef, undef, undef, undef, undef, undef, undef, undef, undef, undef, undef, undef, undef, undef, undef, undef, undef, undef, undef, undef] w (topQ false Tryd.prog Tryd.f22 w K) = Tryd.F_bits_Get t0 t1 w K := by kernel_rfl
theorem Tryd.C_bits_Get : chk ⟨false, false⟩ Tryd.prog false Tryd.A_bits_Get (bodyOf Tryd.f22) = true := by kernel_rfl
theorem Tryd.ok_bits_Get {t0 t1 : Value} {w : World} {K : Value → World → Prop} (h : Tryd.F_bits_Get t0 t1 w K) : oCall Tryd.prog Tryd.n_bits_Get #[t0, t1] w K :=
  calls_of_sw (cf := ⟨false, false⟩) Tryd.mixed Tryd.func22 rfl Tryd.C_bits_Get ((Tryd.E_bits_Get t0 t1 w K).mpr h)

/- 25: loanword/bits.Each -/
def Tryd.A_bits_Each : Ann := .s (.r (.op 0 .l (.op 1 .p (.nil)))) (.s (.r (.op 0 .q (.op 1 .l (.op 2 .p (.op 3 .p (.op 4 .p (.op 5 .l (.op 6 .l (.op 7 .l (.nil)))))))))) (.s (.r (.op 0 .p (.op 1 .p (.nil)))) (.n)))
def Tryd.F_bits_Each (t0 : Value) (w : World) (K : Value → World → Prop) : Prop :=
 opW Tryd.prog w (Instr.box 24 t0) fun t1 w1 =>
 opQ Tryd.prog w1 (Instr.loadAt 24 t1) fun t5 =>
 oCall Tryd.prog Tryd.n_bits_Own #[t5] w1 fun t6 w2 =>
 opP Tryd.prog (Instr.extract t6 0) fun t7 =>
 opP Tryd.prog (Instr.extract t6 1) fun t8 =>
 opW Tryd.prog w2 (Instr.alloc 27 true (.tuple #[])) fun t3 w3 =>
 opU Tryd.prog w3 (Instr.storeAt 24 t1 t7) fun w4 =>
 opU Tryd.prog w4 (Instr.storeAt 27 t3 t8) fun w5 =>
 opP Tryd.prog (Instr.makeFunc (.func 44) #[] #[t3, t1]) fun t9 =>
 K t9 w5
theorem Tryd.E_bits_Each (t0 : Value) (w : World) (K : Value → World → Prop) : sw ⟨false, false⟩ Tryd.prog (fun _ _ => False) Tryd.A_bits_Each (bodyOf Tryd.f25) [t0, undef, undef, undef, undef, undef, undef, undef, undef, undef] w (topQ false Tryd.prog Tryd.f25 w K) = Tryd.F_bits_Each t0 w K := by kernel_rfl
theorem Tryd.C_bits_Each : chk ⟨false, false⟩ Tryd.prog false Tryd.A_bits_Each (bodyOf Tryd.f25) = true := by kernel_rfl
theorem Tryd.ok_bits_Each {t0 : Value} {w : World} {K : Value → World → Prop} (h : Tryd.F_bits_Each t0 w K) : oCall Tryd.prog Tryd.n_bits_Each #[t0] w K :=
  calls_of_sw (cf := ⟨false, false⟩) Tryd.mixed Tryd.func25 rfl Tryd.C_bits_Each ((Tryd.E_bits_Each t0 w K).mpr h)

/- 26: loanword/bits.Count -/
def Tryd.A_bits_Count : Ann := .s (.r (.op 0 .l (.op 1 .p (.nil)))) (.s (.r (.op 0 .p (.nil))) (.j [3] (.s (.r (.op 0 .q (.op 1 .l (.nil)))) (.c (.s (.r (.op 0 .p (.op 1 .q (.op 2 .p (.op 3 .p (.nil)))))) (.b (.lp [3, 11] (.s (.r (.op 0 .p (.nil))) (.s (.c (.n) (.n)) (.s (.b (.s (.r (.op 0 .p (.op 1 .q (.op 2 .p (.nil))))) (.r (.op 0 .p (.op 1 .p (.op 2 .l (.op 3 .p (.op 4 .p (.nil))))))))) (.r (.op 0 .p (.op 1 .p (.nil)))))))))) (.n))) (.s (.r (.op 0 .p (.op 1 .p (.nil)))) (.n))))
def Tryd.F_bits_Count (t0 : Value) (w : World) (K : Value → World → Prop) : Prop :=
 opW Tryd.prog w (Instr.box 24 t0) fun t1 w1 =>
 sJoin (fun K2 =>
 opQ Tryd.prog w1 (Instr.loadAt 24 t1) fun t6 =>
 oCall Tryd.prog Tryd.n_bits_May #[t6] w1 fun t7 w6 =>
 oCond t7 (opP Tryd.prog (Instr.fieldAt 24 t1 1) fun t8 =>
 opQ Tryd.prog w6 (Instr.loadAt 22 t8) fun t9 =>
 opP Tryd.prog (Builtin.len_ #[22] 3 #[t9]) fun t10 =>
 sLoop [(Value.int .i64 0), (Value.int .i64 0)] w6 (fun s8 _d9 w10 K7 =>
 opP Tryd.prog (bsem .lss 3 false (s8.getD 1 undef) t10) fun t12 =>
 oCond t12 (opP Tryd.prog (Instr.indexAt 22 t9 (s8.getD 1 undef)) fun t13 =>
 opQ Tryd.prog w10 (Instr.loadAt 64 t13) fun t14 =>
 oCall Tryd.prog Tryd.n_math_bits_OnesCount64 #[t14] w10 fun t17 w11 =>
 opP Tryd.prog (bsem .add 3 false (s8.getD 0 undef) t17) fun t18 =>
 opP Tryd.prog (bsem .add 3 true (s8.getD 1 undef) (Value.int .i64 1)) fun t19 =>
 K7 [t18, t19] w11) (K2 [(s8.getD 0 undef)] w10))) (K2 [(Value.int .i64 0)] w6)) (fun s3 _d4 w5 =>
 K (s3.getD 0 undef) w5)
theorem Tryd.E_bits_Count (t0 : Value) (w : World) (K : Value → World → Prop) : sw ⟨false, false⟩ Tryd.prog (fun _ _ => False) Tryd.A_bits_Count (bodyOf Tryd.f26) [t0, undef, undef, undef, undef, undef, undef, undef, undef, undef, undef, undef, undef, undef, undef, undef, undef, undef, undef, undef, undef] w (topQ false Tryd.prog Tryd.f26 w K) = Tryd.F_bits_Count t0 w K := by kernel_rfl
theorem Tryd.C_bits_Count : chk ⟨false, false⟩ Tryd.prog false Tryd.A_bits_Count (bodyOf Tryd.f26) = true := by kernel_rfl
theorem Tryd.ok_bits_Count {t0 : Value} {w : World} {K : Value → World → Prop} (h : Tryd.F_bits_Count t0 w K) : oCall Tryd.prog Tryd.n_bits_Count #[t0] w K :=
  calls_of_sw (cf := ⟨false, false⟩) Tryd.mixed Tryd.func26 rfl Tryd.C_bits_Count ((Tryd.E_bits_Count t0 w K).mpr h)

/- 27: loanword/bits.Set -/
def Tryd.A_bits_Set : Ann := .s (.r (.op 0 .l (.op 1 .l (.op 2 .p (.nil))))) (.s (.r (.op 0 .q (.op 1 .p (.op 2 .l (.op 3 .p (.op 4 .p (.op 5 .l (.op 6 .p (.nil))))))))) (.n))
def Tryd.F_bits_Set (t0 : Value) (t1 : Value) (w : World) (K : Value → World → Prop) : Prop :=
 opW Tryd.prog w (Instr.box 24 t0) fun t2 w1 =>
 opW Tryd.prog w1 (Instr.alloc 24 true (.tuple #[])) fun t4 w2 =>
 opQ Tryd.prog w2 (Instr.loadAt 24 t2) fun t6 =>
 oCall Tryd.prog Tryd.n_bits_turn #[t6, t1, (Value.func (.func 48) #[] #[])] w2 fun t8 w3 =>
 opP Tryd.prog (Instr.extract t8 0) fun t9 =>
 opP Tryd.prog (Instr.extract t8 1) fun t10 =>
 opU Tryd.prog w3 (Instr.storeAt 24 t4 t9) fun w4 =>
 opQ Tryd.prog w4 (cellSem 24 t4) fun r5 =>
 K (.tuple #[r5, t10]) w4
theorem Tryd.E_bits_Set (t0 t1 : Value) (w : World) (K : Value → World → Prop) : sw ⟨false, false⟩ Tryd.prog (fun _ _ => False) Tryd.A_bits_Set (bodyOf Tryd.f27) [t0, t1, undef, undef, undef, undef, undef, undef, undef, undef, undef] w (topQ false Tryd.prog Tryd.f27 w K) = Tryd.F_bits_Set t0 t1 w K := by kernel_rfl
theorem Tryd.C_bits_Set : chk ⟨false, false⟩ Tryd.prog false Tryd.A_bits_Set (bodyOf Tryd.f27) = true := by kernel_rfl
theorem Tryd.ok_bits_Set {t0 t1 : Value} {w : World} {K : Value → World → Prop} (h : Tryd.F_bits_Set t0 t1 w K) : oCall Tryd.prog Tryd.n_bits_Set #[t0, t1] w K :=
  calls_of_sw (cf := ⟨false, false⟩) Tryd.mixed Tryd.func27 rfl Tryd.C_bits_Set ((Tryd.E_bits_Set t0 t1 w K).mpr h)

/- 29: loanword/bits.Clear -/
def Tryd.A_bits_Clear : Ann := .s (.r (.op 0 .l (.op 1 .l (.op 2 .p (.nil))))) (.s (.r (.op 0 .q (.op 1 .p (.op 2 .l (.op 3 .p (.op 4 .p (.op 5 .l (.op 6 .p (.nil))))))))) (.n))
def Tryd.F_bits_Clear (t0 : Value) (t1 : Value) (w : World) (K : Value → World → Prop) : Prop :=
 opW Tryd.prog w (Instr.box 24 t0) fun t2 w1 =>
 opW Tryd.prog w1 (Instr.alloc 24 true (.tuple #[])) fun t4 w2 =>
 opQ Tryd.prog w2 (Instr.loadAt 24 t2) fun t6 =>
 oCall Tryd.prog Tryd.n_bits_turn #[t6, t1, (Value.func (.func 50) #[] #[])] w2 fun t8 w3 =>
 opP Tryd.prog (Instr.extract t8 0) fun t9 =>
 opP Tryd.prog (Instr.extract t8 1) fun t10 =>
 opU Tryd.prog w3 (Instr.storeAt 24 t4 t9) fun w4 =>
 opQ Tryd.prog w4 (cellSem 24 t4) fun r5 =>
 K (.tuple #[r5, t10]) w4
theorem Tryd.E_bits_Clear (t0 t1 : Value) (w : World) (K : Value → World → Prop) : sw ⟨false, false⟩ Tryd.prog (fun _ _ => False) Tryd.A_bits_Clear (bodyOf Tryd.f29) [t0, t1, undef, undef, undef, undef, undef, undef, undef, undef, undef] w (topQ false Tryd.prog Tryd.f29 w K) = Tryd.F_bits_Clear t0 t1 w K := by kernel_rfl
theorem Tryd.C_bits_Clear : chk ⟨false, false⟩ Tryd.prog false Tryd.A_bits_Clear (bodyOf Tryd.f29) = true := by kernel_rfl
theorem Tryd.ok_bits_Clear {t0 t1 : Value} {w : World} {K : Value → World → Prop} (h : Tryd.F_bits_Clear t0 t1 w K) : oCall Tryd.prog Tryd.n_bits_Clear #[t0, t1] w K :=
  calls_of_sw (cf := ⟨false, false⟩) Tryd.mixed Tryd.func29 rfl Tryd.C_bits_Clear ((Tryd.E_bits_Clear t0 t1 w K).mpr h)

/- 31: loanword/bits.Or -/
def Tryd.A_bits_Or : Ann := .s (.r (.op 0 .l (.op 1 .l (.op 2 .l (.op 3 .p (.nil)))))) (.s (.r (.op 0 .q (.op 1 .q (.op 2 .l (.op 3 .p (.op 4 .p (.op 5 .l (.op 6 .p (.nil))))))))) (.n))
def Tryd.F_bits_Or (t0 : Value) (t1 : Value) (w : World) (K : Value → World → Prop) : Prop :=
 opW Tryd.prog w (Instr.box 24 t0) fun t2 w1 =>
 opW Tryd.prog w1 (Instr.box 24 t1) fun t3 w2 =>
 opW Tryd.prog w2 (Instr.alloc 24 true (.tuple #[])) fun t4 w3 =>
 opQ Tryd.prog w3 (Instr.loadAt 24 t2) fun t6 =>
 opQ Tryd.prog w3 (Instr.loadAt 24 t3) fun t7 =>
 oCall Tryd.prog Tryd.n_bits_both #[t6, t7, (Value.func (.func 52) #[] #[])] w3 fun t8 w4 =>
 opP Tryd.prog (Instr.extract t8 0) fun t9 =>
 opP Tryd.prog (Instr.extract t8 1) fun t10 =>
 opU Tryd.prog w4 (Instr.storeAt 24 t4 t9) fun w5 =>
 opQ Tryd.prog w5 (cellSem 24 t4) fun r6 =>
 K (.tuple #[r6, t10]) w5
theorem Tryd.E_bits_Or (t0 t1 : Value) (w : World) (K : Value → World → Prop) : sw ⟨false, false⟩ Tryd.prog (fun _ _ => False) Tryd.A_bits_Or (bodyOf Tryd.f31) [t0, t1, undef, undef, undef, undef, undef, undef, undef, undef, undef] w (topQ false Tryd.prog Tryd.f31 w K) = Tryd.F_bits_Or t0 t1 w K := by kernel_rfl
theorem Tryd.C_bits_Or : chk ⟨false, false⟩ Tryd.prog false Tryd.A_bits_Or (bodyOf Tryd.f31) = true := by kernel_rfl
theorem Tryd.ok_bits_Or {t0 t1 : Value} {w : World} {K : Value → World → Prop} (h : Tryd.F_bits_Or t0 t1 w K) : oCall Tryd.prog Tryd.n_bits_Or #[t0, t1] w K :=
  calls_of_sw (cf := ⟨false, false⟩) Tryd.mixed Tryd.func31 rfl Tryd.C_bits_Or ((Tryd.E_bits_Or t0 t1 w K).mpr h)

/- 32: loanword/bits.And -/
def Tryd.A_bits_And : Ann := .s (.r (.op 0 .l (.op 1 .l (.op 2 .l (.op 3 .p (.nil)))))) (.s (.r (.op 0 .q (.op 1 .q (.op 2 .l (.op 3 .p (.op 4 .p (.op 5 .l (.op 6 .p (.nil))))))))) (.n))
def Tryd.F_bits_And (t0 : Value) (t1 : Value) (w : World) (K : Value → World → Prop) : Prop :=
 opW Tryd.prog w (Instr.box 24 t0) fun t2 w1 =>
 opW Tryd.prog w1 (Instr.box 24 t1) fun t3 w2 =>
 opW Tryd.prog w2 (Instr.alloc 24 true (.tuple #[])) fun t4 w3 =>
 opQ Tryd.prog w3 (Instr.loadAt 24 t2) fun t6 =>
 opQ Tryd.prog w3 (Instr.loadAt 24 t3) fun t7 =>
 oCall Tryd.prog Tryd.n_bits_both #[t6, t7, (Value.func (.func 53) #[] #[])] w3 fun t8 w4 =>
 opP Tryd.prog (Instr.extract t8 0) fun t9 =>
 opP Tryd.prog (Instr.extract t8 1) fun t10 =>
 opU Tryd.prog w4 (Instr.storeAt 24 t4 t9) fun w5 =>
 opQ Tryd.prog w5 (cellSem 24 t4) fun r6 =>
 K (.tuple #[r6, t10]) w5
theorem Tryd.E_bits_And (t0 t1 : Value) (w : World) (K : Value → World → Prop) : sw ⟨false, false⟩ Tryd.prog (fun _ _ => False) Tryd.A_bits_And (bodyOf Tryd.f32) [t0, t1, undef, undef, undef, undef, undef, undef, undef, undef, undef] w (topQ false Tryd.prog Tryd.f32 w K) = Tryd.F_bits_And t0 t1 w K := by kernel_rfl
theorem Tryd.C_bits_And : chk ⟨false, false⟩ Tryd.prog false Tryd.A_bits_And (bodyOf Tryd.f32) = true := by kernel_rfl
theorem Tryd.ok_bits_And {t0 t1 : Value} {w : World} {K : Value → World → Prop} (h : Tryd.F_bits_And t0 t1 w K) : oCall Tryd.prog Tryd.n_bits_And #[t0, t1] w K :=
  calls_of_sw (cf := ⟨false, false⟩) Tryd.mixed Tryd.func32 rfl Tryd.C_bits_And ((Tryd.E_bits_And t0 t1 w K).mpr h)

/- 33: loanword/bits.Less -/
def Tryd.A_bits_Less : Ann := .s (.r (.op 0 .l (.op 1 .l (.op 2 .l (.op 3 .p (.nil)))))) (.s (.r (.op 0 .q (.op 1 .q (.op 2 .l (.op 3 .p (.op 4 .p (.op 5 .l (.op 6 .p (.nil))))))))) (.n))
def Tryd.F_bits_Less (t0 : Value) (t1 : Value) (w : World) (K : Value → World → Prop) : Prop :=
 opW Tryd.prog w (Instr.box 24 t0) fun t2 w1 =>
 opW Tryd.prog w1 (Instr.box 24 t1) fun t3 w2 =>
 opW Tryd.prog w2 (Instr.alloc 24 true (.tuple #[])) fun t4 w3 =>
 opQ Tryd.prog w3 (Instr.loadAt 24 t2) fun t6 =>
 opQ Tryd.prog w3 (Instr.loadAt 24 t3) fun t7 =>
 oCall Tryd.prog Tryd.n_bits_both #[t6, t7, (Value.func (.func 54) #[] #[])] w3 fun t8 w4 =>
 opP Tryd.prog (Instr.extract t8 0) fun t9 =>
 opP Tryd.prog (Instr.extract t8 1) fun t10 =>
 opU Tryd.prog w4 (Instr.storeAt 24 t4 t9) fun w5 =>
 opQ Tryd.prog w5 (cellSem 24 t4) fun r6 =>
 K (.tuple #[r6, t10]) w5
theorem Tryd.E_bits_Less (t0 t1 : Value) (w : World) (K : Value → World → Prop) : sw ⟨false, false⟩ Tryd.prog (fun _ _ => False) Tryd.A_bits_Less (bodyOf Tryd.f33) [t0, t1, undef, undef, undef, undef, undef, undef, undef, undef, undef] w (topQ false Tryd.prog Tryd.f33 w K) = Tryd.F_bits_Less t0 t1 w K := by kernel_rfl
theorem Tryd.C_bits_Less : chk ⟨false, false⟩ Tryd.prog false Tryd.A_bits_Less (bodyOf Tryd.f33) = true := by kernel_rfl
theorem Tryd.ok_bits_Less {t0 t1 : Value} {w : World} {K : Value → World → Prop} (h : Tryd.F_bits_Less t0 t1 w K) : oCall Tryd.prog Tryd.n_bits_Less #[t0, t1] w K :=
  calls_of_sw (cf := ⟨false, false⟩) Tryd.mixed Tryd.func33 rfl Tryd.C_bits_Less ((Tryd.E_bits_Less t0 t1 w K).mpr h)

/- 35: loanword/bits.Has -/
def Tryd.A_bits_Has : Ann := .s (.r (.op 0 .l (.op 1 .l (.op 2 .p (.op 3 .p (.nil)))))) (.s (.r (.op 0 .q (.op 1 .q (.op 2 .l (.op 3 .p (.op 4 .p (.op 5 .p (.op 6 .p (.op 7 .p (.op 8 .p (.op 9 .p (.nil)))))))))))) (.s (.r (.op 0 .p (.op 1 .p (.op 2 .p (.grp 18 true [(3, .p), (4, .p)] [20] (.op 5 .p (.op 6 .p (.op 7 .p (.op 8 .p (.nil)))))))))) (.n)))
def Tryd.F_bits_Has (t0 : Value) (t1 : Value) (w : World) (K : Value → World → Prop) : Prop :=
 opW Tryd.prog w (Instr.box 24 t0) fun t2 w1 =>
 opW Tryd.prog w1 (Instr.box 24 t1) fun t3 w2 =>
 opQ Tryd.prog w2 (Instr.loadAt 24 t2) fun t10 =>
 opQ Tryd.prog w2 (Instr.loadAt 24 t3) fun t11 =>
 oCall Tryd.prog Tryd.n_bits_First #[t10, t11] w2 fun t12 w3 =>
 opP Tryd.prog (Instr.extract t12 0) fun _t13 =>
 opP Tryd.prog (Instr.extract t12 1) fun t14 =>
 opP Tryd.prog (Instr.extract t12 2) fun t15 =>
 opP Tryd.prog (bsem .eql 27 true t15 (Value.int .i64 0)) fun t17 =>
 sJoin (fun K4 => gIf t17 true (opP Tryd.prog (Op.unary .not t14) fun t20 =>
 K4 [t20] w3) (K4 [undef] w3)) (fun s5 _d6 w7 =>
 oPick t17 (s5.getD 0 undef) (Value.bool false) fun t21 =>
 K (.tuple #[t21, t15]) w7)
theorem Tryd.E_bits_Has (t0 t1 : Value) (w : World) (K : Value → World → Prop) : sw ⟨false, false⟩ Tryd.prog (fun _ _ => False) Tryd.A_bits_Has (bodyOf Tryd.f35) [t0, t1, undef, undef, undef, undef, undef, undef, undef, undef, undef, undef, undef, undef, undef, undef, undef, undef, undef, undef, undef, undef, undef] w (topQ false Tryd.prog Tryd.f35 w K) = Tryd.F_bits_Has t0 t1 w K := by kernel_rfl
theorem Tryd.C_bits_Has : chk ⟨false, false⟩ Tryd.prog false Tryd.A_bits_Has (bodyOf Tryd.f35) = true := by kernel_rfl
theorem Tryd.ok_bits_Has {t0 t1 : Value} {w : World} {K : Value → World → Prop} (h : Tryd.F_bits_Has t0 t1 w K) : oCall Tryd.prog Tryd.n_bits_Has #[t0, t1] w K :=
  calls_of_sw (cf := ⟨false, false⟩) Tryd.mixed Tryd.func35 rfl Tryd.C_bits_Has ((Tryd.E_bits_Has t0 t1 w K).mpr h)

/- 36: loanword/bits.First -/
def Tryd.A_bits_First : Ann := .s (.r (.op 0 .l (.op 1 .l (.op 2 .l (.op 3 .l (.op 4 .l (.nil))))))) (.s (.r (.op 0 .q (.op 1 .q (.op 2 .l (.op 3 .p (.op 4 .p (.op 5 .p (.op 6 .l (.op 7 .l (.op 8 .l (.nil))))))))))) (.s (.s (.r (.op 0 .q (.op 1 .p (.nil)))) (.c (.s (.r (.op 0 .q (.op 1 .u (.op 2 .u (.op 3 .l (.nil)))))) (.n)) (.n))) (.s (.s (.r (.op 0 .q (.op 1 .l (.nil)))) (.b (.rf [] (.r (.op 0 .p (.nil))) (.b (.s (.r (.op 0 .p (.op 1 .l (.op 2 .l (.op 3 .l (.nil)))))) (.n)))))) (.s (.r (.op 0 .l (.op 1 .l (.op 2 .l (.nil))))) (.n)))))
def Tryd.F_bits_First (t0 : Value) (t1 : Value) (w : World) (K : Value → World → Prop) : Prop :=
 opW Tryd.prog w (Instr.box 24 t0) fun t2 w1 =>
 NC w w1 ∧
 opW Tryd.prog w1 (Instr.box 24 t1) fun t3 w2 =>
 NC w1 w2 ∧
 opW Tryd.prog w2 (Instr.alloc 3 true (.tuple #[])) fun t4 w3 =>
 NC w2 w3 ∧
 opW Tryd.prog w3 (Instr.alloc 4 true (.tuple #[])) fun t5 w4 =>
 NC w3 w4 ∧
 opW Tryd.prog w4 (Instr.alloc 27 true (.tuple #[])) fun t6 w5 =>
 NC w4 w5 ∧
 opQ Tryd.prog w5 (Instr.loadAt 24 t3) fun t10 =>
 opQ Tryd.prog w5 (Instr.loadAt 24 t2) fun t11 =>
 oCall Tryd.prog Tryd.n_bits_Less #[t10, t11] w5 fun t12 w6 =>
 NC w5 w6 ∧
 opP Tryd.prog (Instr.extract t12 0) fun t13 =>
 opP Tryd.prog (Instr.extract t12 1) fun t14 =>
 opW Tryd.prog w6 (Instr.alloc 24 true (.tuple #[])) fun t7 w7 =>
 NC w6 w7 ∧
 opU Tryd.prog w7 (Instr.storeAt 24 t7 t13) fun w8 =>
 NC w7 w8 ∧
 opU Tryd.prog w8 (Instr.storeAt 27 t6 t14) fun w9 =>
 NC w8 w9 ∧
 opQ Tryd.prog w9 (Instr.loadAt 27 t6) fun t15 =>
 opP Tryd.prog (bsem .neq 27 true t15 (Value.int .i64 0)) fun t16 =>
 oCond t16 (opQ Tryd.prog w9.drew (Instr.loadAt 27 t6) fun t17 =>
 opU Tryd.prog w9.drew (Instr.storeAt 3 t4 (Value.int .i64 0)) fun w10 =>
 NC w9.drew w10 ∧
 Ext w9.drew w10 ∧
 opU Tryd.prog w10 (Instr.storeAt 4 t5 (Value.bool false)) fun w11 =>
 NC w10 w11 ∧
 Ext w10 w11 ∧
 opU Tryd.prog w11 (Instr.storeAt 27 t6 t17) fun w12 =>
 NC w11 w12 ∧
 ∀ w13, Shuts w.heap.size w12 w13 → opQ Tryd.prog w13 (cellSem 3 t4) fun r14 =>
 opQ Tryd.prog w13 (cellSem 4 t5) fun r15 =>
 opQ Tryd.prog w13 (cellSem 27 t6) fun r16 =>
 K (.tuple #[r14, r15, r16]) w13) (opQ Tryd.prog w9 (Instr.loadAt 24 t7) fun t18 =>
 oCall Tryd.prog Tryd.n_bits_Each #[t18] w9 fun t19 w17 =>
 NC w9 w17 ∧
 oRange Tryd.prog 1 t19 w17 (fun x18 w19 S20 KR21 =>
 (Ext w19 w19 ∧ ∀ w22, Nl w17.heap.size w19 w22 →
 opU Tryd.prog w22 (Instr.storeAt 3 t4 (x18.getD 0 undef)) fun w23 =>
 NC w22 w23 ∧
 opU Tryd.prog w23 (Instr.storeAt 4 t5 (Value.bool true)) fun w24 =>
 NC w23 w24 ∧
 opU Tryd.prog w24 (Instr.storeAt 27 t6 (Value.int .i64 0)) fun w25 =>
 NC w24 w25 ∧
 (ExtBut S20 w22 w25 ∧ KR21 .ret w25))) (fun w26 =>
 opU Tryd.prog w26 (Instr.storeAt 3 t4 (Value.int .i64 0)) fun w27 =>
 NC w26 w27 ∧
 opU Tryd.prog w27 (Instr.storeAt 4 t5 (Value.bool false)) fun w28 =>
 NC w27 w28 ∧
 opU Tryd.prog w28 (Instr.storeAt 27 t6 (Value.int .i64 0)) fun w29 =>
 NC w28 w29 ∧
 ∀ w30, Shuts w.heap.size w29 w30 → opQ Tryd.prog w30 (cellSem 3 t4) fun r31 =>
 opQ Tryd.prog w30 (cellSem 4 t5) fun r32 =>
 opQ Tryd.prog w30 (cellSem 27 t6) fun r33 =>
 K (.tuple #[r31, r32, r33]) w30) (fun w34 =>
 ∀ w35, Shuts w.heap.size w34 w35 → opQ Tryd.prog w35 (cellSem 3 t4) fun r36 =>
 opQ Tryd.prog w35 (cellSem 4 t5) fun r37 =>
 opQ Tryd.prog w35 (cellSem 27 t6) fun r38 =>
 K (.tuple #[r36, r37, r38]) w35) [])
theorem Tryd.E_bits_First (t0 t1 : Value) (w : World) (K : Value → World → Prop) : sw ⟨true, false⟩ Tryd.prog (fun _ _ => False) Tryd.A_bits_First (bodyOf Tryd.f36) [t0, t1, undef, undef, undef, undef, undef, undef, undef, undef, undef, undef, undef, undef, undef, undef, undef, undef, undef, undef, undef, undef] w (topQ true Tryd.prog Tryd.f36 w K) = Tryd.F_bits_First t0 t1 w K := by kernel_rfl
theorem Tryd.C_bits_First : chk ⟨true, false⟩ Tryd.prog false Tryd.A_bits_First (bodyOf Tryd.f36) = true := by kernel_rfl
theorem Tryd.ok_bits_First {t0 t1 : Value} {w : World} {K : Value → World → Prop} (h : Tryd.F_bits_First t0 t1 w K) : oCall Tryd.prog Tryd.n_bits_First #[t0, t1] w K :=
  calls_of_sw (cf := ⟨true, false⟩) Tryd.mixed Tryd.func36 rfl Tryd.C_bits_First ((Tryd.E_bits_First t0 t1 w K).mpr h)

/- 39: loanword/bits.Bytes$1 -/
def Tryd.A_bits_Bytes_1 : Ann := .r (.op 0 .q (.op 1 .p (.op 2 .p (.op 3 .p (.op 4 .q (.op 5 .p (.op 6 .p (.op 7 .p (.op 8 .p (.op 9 .p (.op 10 .l (.nil))))))))))))
def Tryd.F_bits_Bytes_1 (t0 : Value) (t1 : Value) (w : World) (K : Value → World → Prop) : Prop :=
 opQ Tryd.prog w.drew (Instr.loadAt 65 t1) fun t3 =>
 opP Tryd.prog (bsem .quo 3 true t0 (Value.int .i64 8)) fun t5 =>
 opP Tryd.prog (Instr.indexAt 65 t3 t5) fun t6 =>
 opQ Tryd.prog w.drew (Instr.loadAt 5 t6) fun t7 =>
 opP Tryd.prog (bsem .rem 3 true t0 (Value.int .i64 8)) fun t9 =>
 opP Tryd.prog (bsem .shr 5 true (Value.int .u8 128) t9) fun t10 =>
 opP Tryd.prog (bsem .or 5 false t7 t10) fun t11 =>
 opP Tryd.prog (Instr.indexAt 65 t3 t5) fun t12 =>
 opU Tryd.prog w.drew (Instr.storeAt 5 t12 t11) fun w1 =>
 K (.tuple #[]) w1
theorem Tryd.E_bits_Bytes_1 (t0 t1 : Value) (w : World) (K : Value → World → Prop) : sw ⟨false, false⟩ Tryd.prog (fun _ _ => False) Tryd.A_bits_Bytes_1 (bodyOf Tryd.f39) [t0, t1, undef, undef, undef, undef, undef, undef, undef, undef, undef, undef, undef] w (topQ false Tryd.prog Tryd.f39 w K) = Tryd.F_bits_Bytes_1 t0 t1 w K := by kernel_rfl
theorem Tryd.C_bits_Bytes_1 : chk ⟨false, false⟩ Tryd.prog false Tryd.A_bits_Bytes_1 (bodyOf Tryd.f39) = true := by kernel_rfl
theorem Tryd.ok_bits_Bytes_1 {t0 t1 : Value} {w : World} {K : Value → World → Prop} (h : Tryd.F_bits_Bytes_1 t0 t1 w K) : oCall Tryd.prog Tryd.n_bits_Bytes_1 #[t0, t1] w K :=
  calls_of_sw (cf := ⟨false, false⟩) Tryd.mixed Tryd.func39 rfl Tryd.C_bits_Bytes_1 ((Tryd.E_bits_Bytes_1 t0 t1 w K).mpr h)

/- 43: slices.Clone[[]uint64,uint64] -/
def Tryd.A_slices_Clone_uint64_uint64 : Ann := .s (.r (.op 0 .p (.nil))) (.s (.s (.r (.op 0 .p (.op 1 .p (.nil)))) (.c (.s (.r (.op 0 .p (.nil))) (.n)) (.n))) (.s (.r (.op 0 .l (.op 1 .p (.op 2 .l (.op 3 .p (.nil)))))) (.n)))
def Tryd.F_slices_Clone_uint64_uint64 (t0 : Value) (w : World) (K : Value → World → Prop) : Prop :=
 opP Tryd.prog (bsem .eql 22 true t0 (Value.slice Option.none 0 0)) fun t4 =>
 oCond t4 (K (Value.slice Option.none 0 0) w) (opW Tryd.prog w (Instr.buildSlice 22 0 #[]) fun t5 w1 =>
 opW Tryd.prog w1 (Builtin.append_ #[22, 22] 22 #[t5, t0]) fun t7 w2 =>
 K t7 w2)
theorem Tryd.E_slices_Clone_uint64_uint64 (t0 : Value) (w : World) (K : Value → World → Prop) : sw ⟨false, false⟩ Tryd.prog (fun _ _ => False) Tryd.A_slices_Clone_uint64_uint64 (bodyOf Tryd.f43) [t0, undef, undef, undef, undef, undef, undef, undef] w (topQ false Tryd.prog Tryd.f43 w K) = Tryd.F_slices_Clone_uint64_uint64 t0 w K := by kernel_rfl
theorem Tryd.C_slices_Clone_uint64_uint64 : chk ⟨false, false⟩ Tryd.prog false Tryd.A_slices_Clone_uint64_uint64 (bodyOf Tryd.f43) = true := by kernel_rfl
theorem Tryd.ok_slices_Clone_uint64_uint64 {t0 : Value} {w : World} {K : Value → World → Prop} (h : Tryd.F_slices_Clone_uint64_uint64 t0 w K) : oCall Tryd.prog Tryd.n_slices_Clone_uint64_uint64 #[t0] w K :=
  calls_of_sw (cf := ⟨false, false⟩) Tryd.mixed Tryd.func43 rfl Tryd.C_slices_Clone_uint64_uint64 ((Tryd.E_slices_Clone_uint64_uint64 t0 w K).mpr h)

/- 44: loanword/bits.Each$1 -/
def Tryd.A_bits_Each_1 : Ann := .s (.s (.r (.op 0 .q (.op 1 .p (.nil)))) (.c (.n) (.n))) (.s (.r (.op 0 .p (.op 1 .q (.op 2 .p (.op 3 .p (.nil)))))) (.b (.lp [11] (.s (.r (.op 0 .p (.nil))) (.s (.c (.n) (.n)) (.s (.b (.s (.r (.op 0 .p (.op 1 .p (.op 2 .q (.op 3 .p (.op 4 .p (.nil))))))) (.b (.lp [5] (.s (.s (.r (.op 0 .p (.op 1 .p (.nil)))) (.c (.n) (.n))) (.s (.b (.s (.r (.op 0 .p (.op 1 .p (.op 2 .p (.op 3 .p (.op 4 .l (.op 5 .p (.op 6 .l (.op 7 .p (.nil)))))))))) (.c (.n) (.n)))) (.r (.op 0 .p (.op 1 .p (.op 2 .p (.op 3 .p (.op 4 .p (.nil))))))))))))) (.r (.op 0 .p (.op 1 .p (.nil))))))))))
def Tryd.F_bits_Each_1 (t0 : Value) (t1 : Value) (t2 : Value) (w : World) (K : Value → World → Prop) : Prop :=
 opQ Tryd.prog w (Instr.loadAt 27 t1) fun t6 =>
 opP Tryd.prog (bsem .neq 27 true t6 (Value.int .i64 0)) fun t7 =>
 oCond t7 (K (.tuple #[]) w) (opP Tryd.prog (Instr.fieldAt 24 t2 1) fun t8 =>
 opQ Tryd.prog w (Instr.loadAt 22 t8) fun t9 =>
 opP Tryd.prog (Builtin.len_ #[22] 3 #[t9]) fun t10 =>
 sLoop [(Value.int .i64 0)] w (fun s2 _d3 w4 K1 =>
 opP Tryd.prog (bsem .lss 3 false (s2.getD 0 undef) t10) fun t12 =>
 oCond t12 (opP Tryd.prog (Instr.indexAt 22 t9 (s2.getD 0 undef)) fun t14 =>
 opQ Tryd.prog w4 (Instr.loadAt 64 t14) fun t15 =>
 sLoop [t15] w4 (fun s6 _d7 w8 K5 =>
 opP Tryd.prog (bsem .neq 64 true (s6.getD 0 undef) (Value.int .u64 0)) fun t17 =>
 oCond t17 (opP Tryd.prog (bsem .mul 3 true (Value.int .i64 64) (s2.getD 0 undef)) fun t24 =>
 oCall Tryd.prog Tryd.n_math_bits_TrailingZeros64 #[(s6.getD 0 undef)] w8 fun t26 w9 =>
 opP Tryd.prog (bsem .add 3 false t24 t26) fun t27 =>
 oCallV Tryd.prog t0 #[t27] w9 fun t28 w10 =>
 opP Tryd.prog (Op.unary .not t28) fun t29 =>
 oCond t29 (K (.tuple #[]) w10) (opP Tryd.prog (bsem .sub 64 true (s6.getD 0 undef) (Value.int .u64 1)) fun t20 =>
 opP Tryd.prog (bsem .and 64 false (s6.getD 0 undef) t20) fun t21 =>
 K5 [t21] w10)) (opP Tryd.prog (bsem .add 3 true (s2.getD 0 undef) (Value.int .i64 1)) fun t30 =>
 K1 [t30] w8))) (K (.tuple #[]) w4)))
theorem Tryd.E_bits_Each_1 (t0 t1 t2 : Value) (w : World) (K : Value → World → Prop) : sw ⟨false, false⟩ Tryd.prog (fun _ _ => False) Tryd.A_bits_Each_1 (bodyOf Tryd.f44) [t0, t1, t2, undef, undef, undef, undef, undef, undef, undef, undef, undef, undef, undef, undef, undef, undef, undef, undef, undef, undef, undef, undef, undef, undef, undef, undef, undef, undef, undef, undef] w (topQ false Tryd.prog Tryd.f44 w K) = Tryd.F_bits_Each_1 t0 t1 t2 w K := by kernel_rfl
theorem Tryd.C_bits_Each_1 : chk ⟨false, false⟩ Tryd.prog false Tryd.A_bits_Each_1 (bodyOf Tryd.f44) = true := by kernel_rfl
theorem Tryd.ok_bits_Each_1 {t0 t1 t2 : Value} {w : World} {K : Value → World → Prop} (h : Tryd.F_bits_Each_1 t0 t1 t2 w K) : oCall Tryd.prog Tryd.n_bits_Each_1 #[t0, t1, t2] w K :=
  calls_of_sw (cf := ⟨false, false⟩) Tryd.mixed Tryd.func44 rfl Tryd.C_bits_Each_1 ((Tryd.E_bits_Each_1 t0 t1 t2 w K).mpr h)

/- 45: math/bits.TrailingZeros64 -/
def Tryd.A_math_bits_TrailingZeros64 : Ann := .s (.r (.op 0 .p (.nil))) (.s (.s (.r (.op 0 .p (.op 1 .p (.nil)))) (.c (.s (.r (.op 0 .p (.nil))) (.n)) (.n))) (.s (.r (.op 0 .p (.op 1 .p (.op 2 .p (.op 3 .p (.op 4 .p (.op 5 .p (.op 6 .p (.op 7 .q (.op 8 .p (.op 9 .p (.nil)))))))))))) (.n)))
def Tryd.F_math_bits_TrailingZeros64 (t0 : Value) (w : World) (K : Value → World → Prop) : Prop :=
 opP Tryd.prog (bsem .eql 64 true t0 (Value.int .u64 0)) fun t4 =>
 oCond t4 (K (Value.int .i64 64) w) (opP Tryd.prog (Op.unary .neg t0) fun t7 =>
 opP Tryd.prog (bsem .and 64 false t0 t7) fun t8 =>
 opP Tryd.prog (bsem .mul 64 true t8 (Value.int .u64 285870213051353865)) fun t9 =>
 opP Tryd.prog (bsem .shr 64 true t9 (Value.int .u64 58)) fun t10 =>
 opP Tryd.prog (Instr.indexAt 75 (Value.pointer (some ⟨0, 0, none⟩)) t10) fun t11 =>
 opQ Tryd.prog w (Instr.loadAt 5 t11) fun t12 =>
 opP Tryd.prog (convert 5 3 t12) fun t13 =>
 K t13 w)
theorem Tryd.E_math_bits_TrailingZeros64 (t0 : Value) (w : World) (K : Value → World → Prop) : sw ⟨false, false⟩ Tryd.prog (fun _ _ => False) Tryd.A_math_bits_TrailingZeros64 (bodyOf Tryd.f45) [t0, undef, undef, undef, undef, undef, undef, undef, undef, undef, undef, undef, undef, undef] w (topQ false Tryd.prog Tryd.f45 w K) = Tryd.F_math_bits_TrailingZeros64 t0 w K := by kernel_rfl
theorem Tryd.C_math_bits_TrailingZeros64 : chk ⟨false, false⟩ Tryd.prog false Tryd.A_math_bits_TrailingZeros64 (bodyOf Tryd.f45) = true := by kernel_rfl
theorem Tryd.ok_math_bits_TrailingZeros64 {t0 : Value} {w : World} {K : Value → World → Prop} (h : Tryd.F_math_bits_TrailingZeros64 t0 w K) : oCall Tryd.prog Tryd.n_math_bits_TrailingZeros64 #[t0] w K :=
  calls_of_sw (cf := ⟨false, false⟩) Tryd.mixed Tryd.func45 rfl Tryd.C_math_bits_TrailingZeros64 ((Tryd.E_math_bits_TrailingZeros64 t0 w K).mpr h)

/- 46: math/bits.OnesCount64 -/
def Tryd.A_math_bits_OnesCount64 : Ann := .s (.r (.op 0 .p (.nil))) (.s (.r (.op 0 .p (.op 1 .p (.op 2 .p (.op 3 .p (.op 4 .p (.op 5 .p (.op 6 .p (.nil))))))))) (.s (.r (.op 0 .p (.op 1 .p (.op 2 .p (.op 3 .p (.op 4 .p (.op 5 .p (.op 6 .p (.nil))))))))) (.s (.r (.op 0 .p (.op 1 .p (.op 2 .p (.op 3 .p (.op 4 .p (.op 5 .p (.nil)))))))) (.s (.r (.op 0 .p (.op 1 .p (.op 2 .p (.op 3 .p (.op 4 .p (.nil))))))) (.s (.r (.op 0 .p (.op 1 .p (.op 2 .p (.op 3 .p (.op 4 .p (.nil))))))) (.s (.r (.op 0 .p (.op 1 .p (.op 2 .p (.op 3 .p (.op 4 .p (.nil))))))) (.s (.r (.op 0 .p (.op 1 .p (.op 2 .p (.op 3 .p (.nil)))))) (.n))))))))
def Tryd.F_math_bits_OnesCount64 (t0 : Value) (w : World) (K : Value → World → Prop) : Prop :=
 opP Tryd.prog (bsem .shr 64 true t0 (Value.int .u64 1)) fun t4 =>
 opP Tryd.prog (bsem .and 64 true t4 (Value.int .u64 6148914691236517205)) fun t5 =>
 opP Tryd.prog (bsem .and 64 true t0 (Value.int .u64 6148914691236517205)) fun t7 =>
 opP Tryd.prog (bsem .add 64 false t5 t7) fun t8 =>
 opP Tryd.prog (bsem .shr 64 true t8 (Value.int .u64 2)) fun t10 =>
 opP Tryd.prog (bsem .and 64 true t10 (Value.int .u64 3689348814741910323)) fun t11 =>
 opP Tryd.prog (bsem .and 64 true t8 (Value.int .u64 3689348814741910323)) fun t13 =>
 opP Tryd.prog (bsem .add 64 false t11 t13) fun t14 =>
 opP Tryd.prog (bsem .shr 64 true t14 (Value.int .u64 4)) fun t16 =>
 opP Tryd.prog (bsem .add 64 false t16 t14) fun t18 =>
 opP Tryd.prog (bsem .and 64 true t18 (Value.int .u64 1085102592571150095)) fun t19 =>
 opP Tryd.prog (bsem .shr 64 true t19 (Value.int .u64 8)) fun t22 =>
 opP Tryd.prog (bsem .add 64 false t19 t22) fun t23 =>
 opP Tryd.prog (bsem .shr 64 true t23 (Value.int .u64 16)) fun t26 =>
 opP Tryd.prog (bsem .add 64 false t23 t26) fun t27 =>
 opP Tryd.prog (bsem .shr 64 true t27 (Value.int .u64 32)) fun t30 =>
 opP Tryd.prog (bsem .add 64 false t27 t30) fun t31 =>
 opP Tryd.prog (convert 64 3 t31) fun t33 =>
 opP Tryd.prog (bsem .and 3 true t33 (Value.int .i64 127)) fun t34 =>
 K t34 w
theorem Tryd.E_math_bits_OnesCount64 (t0 : Value) (w : World) (K : Value → World → Prop) : sw ⟨false, false⟩ Tryd.prog (fun _ _ => False) Tryd.A_math_bits_OnesCount64 (bodyOf Tryd.f46) [t0, undef, undef, undef, undef, undef, undef, undef, undef, undef, undef, undef, undef, undef, undef, undef, undef, undef, undef, undef, undef, undef, undef, undef, undef, undef, undef, undef, undef, undef, undef, undef, undef, undef, undef] w (topQ false Tryd.prog Tryd.f46 w K) = Tryd.F_math_bits_OnesCount64 t0 w K := by kernel_rfl
theorem Tryd.C_math_bits_OnesCount64 : chk ⟨false, false⟩ Tryd.prog false Tryd.A_math_bits_OnesCount64 (bodyOf Tryd.f46) = true := by kernel_rfl
theorem Tryd.ok_math_bits_OnesCount64 {t0 : Value} {w : World} {K : Value → World → Prop} (h : Tryd.F_math_bits_OnesCount64 t0 w K) : oCall Tryd.prog Tryd.n_math_bits_OnesCount64 #[t0] w K :=
  calls_of_sw (cf := ⟨false, false⟩) Tryd.mixed Tryd.func46 rfl Tryd.C_math_bits_OnesCount64 ((Tryd.E_math_bits_OnesCount64 t0 w K).mpr h)

/- 47: loanword/bits.turn -/
def Tryd.A_bits_turn : Ann := .s (.r (.op 0 .l (.op 1 .l (.op 2 .p (.nil))))) (.s (.r (.op 0 .q (.op 1 .l (.op 2 .p (.op 3 .p (.op 4 .p (.op 5 .l (.op 6 .l (.op 7 .p (.nil)))))))))) (.s (.s (.r (.op 0 .p (.op 1 .p (.nil)))) (.c (.s (.r (.op 0 .q (.op 1 .p (.op 2 .l (.op 3 .p (.nil)))))) (.n)) (.n))) (.s (.s (.r (.op 0 .p (.op 1 .p (.op 2 .p (.nil))))) (.b (.lp [23] (.s (.r (.op 0 .p (.nil))) (.s (.c (.n) (.n)) (.s (.b (.s (.r (.op 0 .p (.op 1 .q (.op 2 .p (.nil))))) (.s (.s (.r (.op 0 .p (.op 1 .p (.op 2 .p (.grp 29 false [(3, .p), (4, .p), (5, .q), (6, .p)] [33] (.op 7 .p (.nil))))))) (.c (.s (.r (.op 0 .p (.op 1 .l (.op 2 .p (.nil))))) (.n)) (.n))) (.r (.op 0 .p (.op 1 .p (.op 2 .q (.op 3 .p (.op 4 .p (.op 5 .p (.op 6 .p (.op 7 .p (.op 8 .p (.op 9 .l (.nil))))))))))))))) (.r (.op 0 .p (.op 1 .p (.nil)))))))))) (.s (.r (.op 0 .q (.op 1 .l (.op 2 .p (.nil))))) (.n)))))
def Tryd.F_bits_turn (t0 : Value) (t1 : Value) (t2 : Value) (w : World) (K : Value → World → Prop) : Prop :=
 opW Tryd.prog w (Instr.box 24 t0) fun t3 w1 =>
 opW Tryd.prog w1 (Instr.alloc 24 true (.tuple #[])) fun t6 w2 =>
 opQ Tryd.prog w2 (Instr.loadAt 24 t3) fun t13 =>
 oCall Tryd.prog Tryd.n_bits_Own #[t13] w2 fun t14 w3 =>
 opP Tryd.prog (Instr.extract t14 0) fun t15 =>
 opP Tryd.prog (Instr.extract t14 1) fun t16 =>
 opW Tryd.prog w3 (Instr.alloc 24 true (.tuple #[])) fun t8 w4 =>
 opU Tryd.prog w4 (Instr.storeAt 24 t8 t15) fun w5 =>
 opP Tryd.prog (bsem .neq 27 true t16 (Value.int .i64 0)) fun t18 =>
 oCond t18 (opQ Tryd.prog w5 (Instr.loadAt 24 t8) fun t19 =>
 opU Tryd.prog w5 (Instr.storeAt 24 t6 t19) fun w6 =>
 opQ Tryd.prog w6 (cellSem 24 t6) fun r7 =>
 K (.tuple #[r7, t16]) w6) (opP Tryd.prog (Builtin.len_ #[45] 3 #[t1]) fun t22 =>
 sLoop [(Value.int .i64 0)] w5 (fun s9 _d10 w11 K8 =>
 opP Tryd.prog (bsem .lss 3 false (s9.getD 0 undef) t22) fun t24 =>
 oCond t24 (opP Tryd.prog (Instr.indexAt 45 t1 (s9.getD 0 undef)) fun t25 =>
 opQ Tryd.prog w11 (Instr.loadAt 3 t25) fun t26 =>
 opP Tryd.prog (bsem .lss 3 true t26 (Value.int .i64 0)) fun t28 =>
 sJoin (fun K12 => gIf t28 false (opP Tryd.prog (Instr.fieldAt 24 t3 0) fun t31 =>
 opQ Tryd.prog w11 (Instr.loadAt 3 t31) fun t32 =>
 opP Tryd.prog (bsem .geq 3 false t26 t32) fun t33 =>
 K12 [t33] w11) (K12 [undef] w11)) (fun s13 _d14 w15 =>
 oPick t28 (Value.bool true) (s13.getD 0 undef) fun t34 =>
 oCond t34 (opP Tryd.prog (Instr.build 24 #[]) fun t35 =>
 opU Tryd.prog w15 (Instr.storeAt 24 t6 t35) fun w16 =>
 opQ Tryd.prog w16 (cellSem 24 t6) fun r17 =>
 K (.tuple #[r17, (Value.int .i64 2)]) w16) (opP Tryd.prog (Instr.fieldAt 24 t8 1) fun t37 =>
 opQ Tryd.prog w15.drew (Instr.loadAt 22 t37) fun t38 =>
 opP Tryd.prog (bsem .quo 3 true t26 (Value.int .i64 64)) fun t40 =>
 opP Tryd.prog (Instr.indexAt 22 t38 t40) fun t41 =>
 opP Tryd.prog (bsem .rem 3 true t26 (Value.int .i64 64)) fun t43 =>
 opP Tryd.prog (bsem .shl 64 true (Value.int .u64 1) t43) fun t44 =>
 oCallV Tryd.prog t2 #[t41, t44] w15.drew fun _t45 w18 =>
 opP Tryd.prog (bsem .add 3 true (s9.getD 0 undef) (Value.int .i64 1)) fun t46 =>
 K8 [t46] w18))) (opQ Tryd.prog w11 (Instr.loadAt 24 t8) fun t47 =>
 opU Tryd.prog w11 (Instr.storeAt 24 t6 t47) fun w19 =>
 opQ Tryd.prog w19 (cellSem 24 t6) fun r20 =>
 K (.tuple #[r20, (Value.int .i64 0)]) w19)))
theorem Tryd.E_bits_turn (t0 t1 t2 : Value) (w : World) (K : Value → World → Prop) : sw ⟨false, false⟩ Tryd.prog (fun _ _ => False) Tryd.A_bits_turn (bodyOf Tryd.f47) [t0, t1, t2, undef, undef, undef, undef, undef, undef, undef, undef, undef, undef, undef, undef, undef, undef, undef, undef, undef, undef, undef, undef, undef, undef, undef, undef, undef, undef, undef, undef, undef, undef, undef, undef, undef, undef, undef, undef, undef, undef, undef, undef, undef, undef, undef, undef, undef] w (topQ false Tryd.prog Tryd.f47 w K) = Tryd.F_bits_turn t0 t1 t2 w K := by kernel_rfl
theorem Tryd.C_bits_turn : chk ⟨false, false⟩ Tryd.prog false Tryd.A_bits_turn (bodyOf Tryd.f47) = true := by kernel_rfl
theorem Tryd.ok_bits_turn {t0 t1 t2 : Value} {w : World} {K : Value → World → Prop} (h : Tryd.F_bits_turn t0 t1 t2 w K) : oCall Tryd.prog Tryd.n_bits_turn #[t0, t1, t2] w K :=
  calls_of_sw (cf := ⟨false, false⟩) Tryd.mixed Tryd.func47 rfl Tryd.C_bits_turn ((Tryd.E_bits_turn t0 t1 t2 w K).mpr h)

/- 48: loanword/bits.Set$1 -/
def Tryd.A_bits_Set_1 : Ann := .r (.op 0 .p (.op 1 .p (.op 2 .q (.op 3 .p (.op 4 .p (.op 5 .p (.op 6 .l (.nil))))))))
def Tryd.F_bits_Set_1 (t0 : Value) (t1 : Value) (w : World) (K : Value → World → Prop) : Prop :=
 oNil t0 fun t5 =>
 opQ Tryd.prog w (Instr.loadAt 64 t5) fun t6 =>
 opP Tryd.prog (bsem .or 64 false t6 t1) fun t8 =>
 oNil t0 fun t9 =>
 opU Tryd.prog w (Instr.storeAt 64 t9 t8) fun w1 =>
 K (.tuple #[]) w1
theorem Tryd.E_bits_Set_1 (t0 t1 : Value) (w : World) (K : Value → World → Prop) : sw ⟨false, false⟩ Tryd.prog (fun _ _ => False) Tryd.A_bits_Set_1 (bodyOf Tryd.f48) [t0, t1, undef, undef, undef, undef, undef, undef, undef, undef] w (topQ false Tryd.prog Tryd.f48 w K) = Tryd.F_bits_Set_1 t0 t1 w K := by kernel_rfl
theorem Tryd.C_bits_Set_1 : chk ⟨false, false⟩ Tryd.prog false Tryd.A_bits_Set_1 (bodyOf Tryd.f48) = true := by kernel_rfl
theorem Tryd.ok_bits_Set_1 {t0 t1 : Value} {w : World} {K : Value → World → Prop} (h : Tryd.F_bits_Set_1 t0 t1 w K) : oCall Tryd.prog Tryd.n_bits_Set_1 #[t0, t1] w K :=
  calls_of_sw (cf := ⟨false, false⟩) Tryd.mixed Tryd.func48 rfl Tryd.C_bits_Set_1 ((Tryd.E_bits_Set_1 t0 t1 w K).mpr h)

/- 50: loanword/bits.Clear$1 -/
def Tryd.A_bits_Clear_1 : Ann := .r (.op 0 .p (.op 1 .p (.op 2 .q (.op 3 .p (.op 4 .p (.op 5 .p (.op 6 .l (.nil))))))))
def Tryd.F_bits_Clear_1 (t0 : Value) (t1 : Value) (w : World) (K : Value → World → Prop) : Prop :=
 oNil t0 fun t5 =>
 opQ Tryd.prog w (Instr.loadAt 64 t5) fun t6 =>
 opP Tryd.prog (bsem .andNot 64 false t6 t1) fun t8 =>
 oNil t0 fun t9 =>
 opU Tryd.prog w (Instr.storeAt 64 t9 t8) fun w1 =>
 K (.tuple #[]) w1
theorem Tryd.E_bits_Clear_1 (t0 t1 : Value) (w : World) (K : Value → World → Prop) : sw ⟨false, false⟩ Tryd.prog (fun _ _ => False) Tryd.A_bits_Clear_1 (bodyOf Tryd.f50) [t0, t1, undef, undef, undef, undef, undef, undef, undef, undef] w (topQ false Tryd.prog Tryd.f50 w K) = Tryd.F_bits_Clear_1 t0 t1 w K := by kernel_rfl
theorem Tryd.C_bits_Clear_1 : chk ⟨false, false⟩ Tryd.prog false Tryd.A_bits_Clear_1 (bodyOf Tryd.f50) = true := by kernel_rfl
theorem Tryd.ok_bits_Clear_1 {t0 t1 : Value} {w : World} {K : Value → World → Prop} (h : Tryd.F_bits_Clear_1 t0 t1 w K) : oCall Tryd.prog Tryd.n_bits_Clear_1 #[t0, t1] w K :=
  calls_of_sw (cf := ⟨false, false⟩) Tryd.mixed Tryd.func50 rfl Tryd.C_bits_Clear_1 ((Tryd.E_bits_Clear_1 t0 t1 w K).mpr h)

/- 51: loanword/bits.both -/
def Tryd.A_bits_both : Ann := .s (.r (.op 0 .l (.op 1 .l (.op 2 .l (.op 3 .p (.nil)))))) (.s (.s (.r (.op 0 .q (.op 1 .l (.op 2 .p (.op 3 .p (.grp 14 false [(4, .q), (5, .l), (6, .p)] [17] (.op 7 .p (.op 8 .p (.grp 19 false [(9, .p), (10, .q), (11, .p), (12, .q), (13, .p)] [24] (.op 14 .p (.nil))))))))))) (.c (.s (.r (.op 0 .p (.op 1 .l (.op 2 .p (.nil))))) (.n)) (.n))) (.s (.r (.op 0 .q (.op 1 .l (.op 2 .p (.op 3 .p (.op 4 .p (.op 5 .l (.op 6 .l (.op 7 .p (.nil)))))))))) (.s (.s (.r (.op 0 .p (.op 1 .q (.op 2 .p (.op 3 .p (.nil)))))) (.b (.lp [35] (.s (.r (.op 0 .p (.nil))) (.s (.c (.n) (.n)) (.s (.b (.s (.r (.op 0 .p (.op 1 .p (.nil)))) (.r (.op 0 .p (.op 1 .p (.op 2 .q (.op 3 .p (.op 4 .p (.op 5 .p (.op 6 .q (.op 7 .p (.op 8 .p (.op 9 .q (.op 10 .l (.nil))))))))))))))) (.r (.op 0 .p (.op 1 .p (.nil)))))))))) (.s (.r (.op 0 .q (.op 1 .p (.op 2 .l (.op 3 .p (.nil)))))) (.n)))))
def Tryd.F_bits_both (t0 : Value) (t1 : Value) (t2 : Value) (w : World) (K : Value → World → Prop) : Prop :=
 opW Tryd.prog w (Instr.box 24 t0) fun t3 w1 =>
 opW Tryd.prog w1 (Instr.box 24 t1) fun t4 w2 =>
 opW Tryd.prog w2 (Instr.alloc 24 true (.tuple #[])) fun t6 w3 =>
 opQ Tryd.prog w3 (Instr.loadAt 24 t3) fun t11 =>
 oCall Tryd.prog Tryd.n_bits_May #[t11] w3 fun t12 w4 =>
 opP Tryd.prog (Op.unary .not t12) fun t13 =>
 sJoin (fun K5 => gIf t13 false (opQ Tryd.prog w4 (Instr.loadAt 24 t4) fun t15 =>
 oCall Tryd.prog Tryd.n_bits_May #[t15] w4 fun t16 w9 =>
 opP Tryd.prog (Op.unary .not t16) fun t17 =>
 K5 [t17] w9) (K5 [undef] w4)) (fun s6 _d7 w8 =>
 oPick t13 (Value.bool true) (s6.getD 0 undef) fun t18 =>
 sJoin (fun K10 => gIf t18 false (opP Tryd.prog (Instr.fieldAt 24 t3 0) fun t20 =>
 opQ Tryd.prog w8 (Instr.loadAt 3 t20) fun t21 =>
 opP Tryd.prog (Instr.fieldAt 24 t4 0) fun t22 =>
 opQ Tryd.prog w8 (Instr.loadAt 3 t22) fun t23 =>
 opP Tryd.prog (bsem .neq 3 false t21 t23) fun t24 =>
 K10 [t24] w8) (K10 [undef] w8)) (fun s11 _d12 w13 =>
 oPick t18 (Value.bool true) (s11.getD 0 undef) fun t25 =>
 oCond t25 (opP Tryd.prog (Instr.build 24 #[]) fun t26 =>
 opU Tryd.prog w13 (Instr.storeAt 24 t6 t26) fun w14 =>
 opQ Tryd.prog w14 (cellSem 24 t6) fun r15 =>
 K (.tuple #[r15, (Value.int .i64 2)]) w14) (opQ Tryd.prog w13 (Instr.loadAt 24 t3) fun t28 =>
 oCall Tryd.prog Tryd.n_bits_Own #[t28] w13 fun t29 w16 =>
 opP Tryd.prog (Instr.extract t29 0) fun t30 =>
 opP Tryd.prog (Instr.extract t29 1) fun t31 =>
 opW Tryd.prog w16 (Instr.alloc 24 true (.tuple #[])) fun t8 w17 =>
 opU Tryd.prog w17 (Instr.storeAt 24 t8 t30) fun w18 =>
 opP Tryd.prog (Instr.fieldAt 24 t8 1) fun t32 =>
 opQ Tryd.prog w18 (Instr.loadAt 22 t32) fun t33 =>
 opP Tryd.prog (Builtin.len_ #[22] 3 #[t33]) fun t34 =>
 sLoop [(Value.int .i64 0)] w18 (fun s20 _d21 w22 K19 =>
 opP Tryd.prog (bsem .lss 3 false (s20.getD 0 undef) t34) fun t36 =>
 oCond t36 (opP Tryd.prog (Instr.fieldAt 24 t8 1) fun t39 =>
 opQ Tryd.prog w22.drew (Instr.loadAt 22 t39) fun t40 =>
 opP Tryd.prog (Instr.indexAt 22 t40 (s20.getD 0 undef)) fun t42 =>
 opP Tryd.prog (Instr.fieldAt 24 t4 1) fun t43 =>
 opQ Tryd.prog w22.drew (Instr.loadAt 22 t43) fun t44 =>
 opP Tryd.prog (Instr.indexAt 22 t44 (s20.getD 0 undef)) fun t46 =>
 opQ Tryd.prog w22.drew (Instr.loadAt 64 t46) fun t47 =>
 oCallV Tryd.prog t2 #[t42, t47] w22.drew fun _t48 w23 =>
 opP Tryd.prog (bsem .add 3 true (s20.getD 0 undef) (Value.int .i64 1)) fun t49 =>
 K19 [t49] w23) (opQ Tryd.prog w22 (Instr.loadAt 24 t8) fun t50 =>
 opU Tryd.prog w22 (Instr.storeAt 24 t6 t50) fun w24 =>
 opQ Tryd.prog w24 (cellSem 24 t6) fun r25 =>
 K (.tuple #[r25, t31]) w24)))))
theorem Tryd.E_bits_both (t0 t1 t2 : Value) (w : World) (K : Value → World → Prop) : sw ⟨false, false⟩ Tryd.prog (fun _ _ => False) Tryd.A_bits_both (bodyOf Tryd.f51) [t0, t1, t2, undef, undef, undef, undef, undef, undef, undef, undef, undef, undef, undef, undef, undef, undef, undef, undef, undef, undef, undef, undef, undef, undef, undef, undef, undef, undef, undef, undef, undef, undef, undef, undef, undef, undef, undef, undef, undef, undef, undef, undef, undef, undef, undef, undef, undef, undef, undef, undef, undef] w (topQ false Tryd.prog Tryd.f51 w K) = Tryd.F_bits_both t0 t1 t2 w K := by kernel_rfl
theorem Tryd.C_bits_both : chk ⟨false, false⟩ Tryd.prog false Tryd.A_bits_both (bodyOf Tryd.f51) = true := by kernel_rfl
theorem Tryd.ok_bits_both {t0 t1 t2 : Value} {w : World} {K : Value → World → Prop} (h : Tryd.F_bits_both t0 t1 t2 w K) : oCall Tryd.prog Tryd.n_bits_both #[t0, t1, t2] w K :=
  calls_of_sw (cf := ⟨false, false⟩) Tryd.mixed Tryd.func51 rfl Tryd.C_bits_both ((Tryd.E_bits_both t0 t1 t2 w K).mpr h)

/- 52: loanword/bits.Or$1 -/
def Tryd.A_bits_Or_1 : Ann := .r (.op 0 .p (.op 1 .p (.op 2 .q (.op 3 .p (.op 4 .p (.op 5 .p (.op 6 .l (.nil))))))))
def Tryd.F_bits_Or_1 (t0 : Value) (t1 : Value) (w : World) (K : Value → World → Prop) : Prop :=
 oNil t0 fun t5 =>
 opQ Tryd.prog w (Instr.loadAt 64 t5) fun t6 =>
 opP Tryd.prog (bsem .or 64 false t6 t1) fun t8 =>
 oNil t0 fun t9 =>
 opU Tryd.prog w (Instr.storeAt 64 t9 t8) fun w1 =>
 K (.tuple #[]) w1
theorem Tryd.E_bits_Or_1 (t0 t1 : Value) (w : World) (K : Value → World → Prop) : sw ⟨false, false⟩ Tryd.prog (fun _ _ => False) Tryd.A_bits_Or_1 (bodyOf Tryd.f52) [t0, t1, undef, undef, undef, undef, undef, undef, undef, undef] w (topQ false Tryd.prog Tryd.f52 w K) = Tryd.F_bits_Or_1 t0 t1 w K := by kernel_rfl
theorem Tryd.C_bits_Or_1 : chk ⟨false, false⟩ Tryd.prog false Tryd.A_bits_Or_1 (bodyOf Tryd.f52) = true := by kernel_rfl
theorem Tryd.ok_bits_Or_1 {t0 t1 : Value} {w : World} {K : Value → World → Prop} (h : Tryd.F_bits_Or_1 t0 t1 w K) : oCall Tryd.prog Tryd.n_bits_Or_1 #[t0, t1] w K :=
  calls_of_sw (cf := ⟨false, false⟩) Tryd.mixed Tryd.func52 rfl Tryd.C_bits_Or_1 ((Tryd.E_bits_Or_1 t0 t1 w K).mpr h)

/- 53: loanword/bits.And$1 -/
def Tryd.A_bits_And_1 : Ann := .r (.op 0 .p (.op 1 .p (.op 2 .q (.op 3 .p (.op 4 .p (.op 5 .p (.op 6 .l (.nil))))))))
def Tryd.F_bits_And_1 (t0 : Value) (t1 : Value) (w : World) (K : Value → World → Prop) : Prop :=
 oNil t0 fun t5 =>
 opQ Tryd.prog w (Instr.loadAt 64 t5) fun t6 =>
 opP Tryd.prog (bsem .and 64 false t6 t1) fun t8 =>
 oNil t0 fun t9 =>
 opU Tryd.prog w (Instr.storeAt 64 t9 t8) fun w1 =>
 K (.tuple #[]) w1
theorem Tryd.E_bits_And_1 (t0 t1 : Value) (w : World) (K : Value → World → Prop) : sw ⟨false, false⟩ Tryd.prog (fun _ _ => False) Tryd.A_bits_And_1 (bodyOf Tryd.f53) [t0, t1, undef, undef, undef, undef, undef, undef, undef, undef] w (topQ false Tryd.prog Tryd.f53 w K) = Tryd.F_bits_And_1 t0 t1 w K := by kernel_rfl
theorem Tryd.C_bits_And_1 : chk ⟨false, false⟩ Tryd.prog false Tryd.A_bits_And_1 (bodyOf Tryd.f53) = true := by kernel_rfl
theorem Tryd.ok_bits_And_1 {t0 t1 : Value} {w : World} {K : Value → World → Prop} (h : Tryd.F_bits_And_1 t0 t1 w K) : oCall Tryd.prog Tryd.n_bits_And_1 #[t0, t1] w K :=
  calls_of_sw (cf := ⟨false, false⟩) Tryd.mixed Tryd.func53 rfl Tryd.C_bits_And_1 ((Tryd.E_bits_And_1 t0 t1 w K).mpr h)

/- 54: loanword/bits.Less$1 -/
def Tryd.A_bits_Less_1 : Ann := .r (.op 0 .p (.op 1 .p (.op 2 .q (.op 3 .p (.op 4 .p (.op 5 .p (.op 6 .l (.nil))))))))
def Tryd.F_bits_Less_1 (t0 : Value) (t1 : Value) (w : World) (K : Value → World → Prop) : Prop :=
 oNil t0 fun t5 =>
 opQ Tryd.prog w (Instr.loadAt 64 t5) fun t6 =>
 opP Tryd.prog (bsem .andNot 64 false t6 t1) fun t8 =>
 oNil t0 fun t9 =>
 opU Tryd.prog w (Instr.storeAt 64 t9 t8) fun w1 =>
 K (.tuple #[]) w1
theorem Tryd.E_bits_Less_1 (t0 t1 : Value) (w : World) (K : Value → World → Prop) : sw ⟨false, false⟩ Tryd.prog (fun _ _ => False) Tryd.A_bits_Less_1 (bodyOf Tryd.f54) [t0, t1, undef, undef, undef, undef, undef, undef, undef, undef] w (topQ false Tryd.prog Tryd.f54 w K) = Tryd.F_bits_Less_1 t0 t1 w K := by kernel_rfl
theorem Tryd.C_bits_Less_1 : chk ⟨false, false⟩ Tryd.prog false Tryd.A_bits_Less_1 (bodyOf Tryd.f54) = true := by kernel_rfl
theorem Tryd.ok_bits_Less_1 {t0 t1 : Value} {w : World} {K : Value → World → Prop} (h : Tryd.F_bits_Less_1 t0 t1 w K) : oCall Tryd.prog Tryd.n_bits_Less_1 #[t0, t1] w K :=
  calls_of_sw (cf := ⟨false, false⟩) Tryd.mixed Tryd.func54 rfl Tryd.C_bits_Less_1 ((Tryd.E_bits_Less_1 t0 t1 w K).mpr h)

end Go.Proofs
