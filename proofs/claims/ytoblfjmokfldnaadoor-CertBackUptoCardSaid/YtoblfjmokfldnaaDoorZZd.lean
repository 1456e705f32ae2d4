/-
  Shallow readings of functions. Made by a program (wip/gen/gen.py) out of the translation; the kernel checks each equality.
  Contracts: rows of bits (package bits).
  Contracts: rows of bits (package bits): own rows, bits, words put together.
  Contracts: rows of bits (package bits): Set, Clear, Or, And, Less, Count, Each.
  Contracts: rows of bits (package bits): Count, Each.
  Contracts: rows of bits (package bits): First, Has.
  Contracts: rows of bits (package bits): Bytes, Read.
  Contracts: the document's answer for layer 1 (package loanwordref01).
  Contracts: the document's answer for layer 1 (package loanwordref01): List, Turn, Join, Read.
  Contracts: the document's answer for layer 1 (package loanwordref01): Read.
  Contracts: what the laws of layer 1 lean on (package loanwordlaw01): awake, lent, held, kept, same.
  Contracts: Read's answers told at once; rows' blocks.
  Rows of bits in a memory that stays.
  Certificates in memory: rows, functions, certificates; those that are one's own to write over.
  A row of bytes: what the reader tells is what Read tells of them. No program in sight.
  Contracts: the taker's row, skip, list, fn.
  Shallow readings of functions. Made by a program (wip/gen/gen.py) out of the translation; the kernel checks each equality.
-/
import Derived.Test.YtoblfjmokfldnaaDoorZZb
import Derived.Test.YtoblfjmokfldnaaDoorZZa
import Derived.Test.YtoblfjmokfldnaaDoorZZc

section
namespace Go.Proofs
open Go.Sh
set_option maxRecDepth 100000
/- 35: loanword/bits.Bytes -/
def Tryd.A_bits_Bytes : Ann := .s (.r (.op 0 .l (.op 1 .p (.op 2 .p (.nil))))) (.s (.s (.r (.op 0 .q (.op 1 .l (.op 2 .p (.nil))))) (.c (.s (.r (.op 0 .p (.op 1 .p (.nil)))) (.n)) (.n))) (.s (.r (.op 0 .p (.op 1 .q (.op 2 .p (.op 3 .p (.op 4 .l (.op 5 .l (.op 6 .l (.nil))))))))) (.s (.r (.op 0 .p (.op 1 .l (.op 2 .l (.nil))))) (.s (.s (.r (.op 0 .q (.op 1 .l (.nil)))) (.b (.rf [] (.r (.op 0 .p (.nil))) (.b (.r (.op 0 .q (.op 1 .p (.op 2 .l (.nil))))))))) (.s (.r (.op 0 .q (.op 1 .q (.op 2 .p (.op 3 .p (.nil)))))) (.n))))))
def Tryd.F_bits_Bytes (t0 : Value) (w : World) (K : Value → World → Prop) : Prop :=
 opW Tryd.prog w (Instr.box 65 t0) fun t1 w1 =>
 NC w w1 ∧
 opQ Tryd.prog w1 (Instr.loadAt 65 t1) fun t7 =>
 oCall Tryd.prog Tryd.n_bits_May #[t7] w1 fun t8 w2 =>
 NC w1 w2 ∧
 opP Tryd.prog (Op.unary .not t8) fun t9 =>
 oCond t9 (∀ w3, Shuts w.heap.size w2 w3 → K (.tuple #[(Value.string { data := #[] }), (Value.int .i64 2)]) w3) (opP Tryd.prog (Instr.fieldAt 65 t1 0) fun t10 =>
 opQ Tryd.prog w2 (Instr.loadAt 3 t10) fun t11 =>
 opP Tryd.prog (bsem .add 3 true t11 (Value.int .i64 7)) fun t12 =>
 opP Tryd.prog (bsem .quo 3 true t12 (Value.int .i64 8)) fun t13 =>
 opW Tryd.prog w2 (Instr.makeSlice 57 t13 t13) fun t14 w4 =>
 NC w2 w4 ∧
 opW Tryd.prog w4 (Instr.alloc 57 true (.tuple #[])) fun t4 w5 =>
 NC w4 w5 ∧
 opU Tryd.prog w5 (Instr.storeAt 57 t4 t14) fun w6 =>
 NC w5 w6 ∧
 opP Tryd.prog (Instr.makeFunc (.func 60) #[] #[t4]) fun t15 =>
 opW Tryd.prog w6 (Instr.alloc 72 true (.tuple #[])) fun t5 w7 =>
 NC w6 w7 ∧
 opU Tryd.prog w7 (Instr.storeAt 72 t5 t15) fun w8 =>
 NC w7 w8 ∧
 opQ Tryd.prog w8 (Instr.loadAt 65 t1) fun t16 =>
 oCall Tryd.prog Tryd.n_bits_Each #[t16] w8 fun t17 w9 =>
 NC w8 w9 ∧
 oRange Tryd.prog 1 t17 w9 (fun x10 w11 S12 KR13 =>
 (Ext w11 w11 ∧ ∀ w14, Nl w9.heap.size w11 w14 →
 opQ Tryd.prog w14 (Instr.loadAt 72 t5) fun t19 =>
 oCallV Tryd.prog t19 #[(x10.getD 0 undef)] w14 fun _t21 w15 =>
 NC w14 w15 ∧
 (ExtBut S12 w14 w15 ∧ KR13 .normal w15))) (fun w16 =>
 opQ Tryd.prog w16 (Instr.loadAt 57 t4) fun t22 =>
 opQ Tryd.prog w16 (convert 57 9 t22) fun t23 =>
 ∀ w17, Shuts w.heap.size w16 w17 → K (.tuple #[t23, (Value.int .i64 0)]) w17) (fun w18 =>
 ∀ w19, Shuts w.heap.size w18 w19 → K (.tuple #[(Value.string { data := #[] }), (Value.int .i64 0)]) w19) [])
theorem Tryd.E_bits_Bytes (t0 : Value) (w : World) (K : Value → World → Prop) : sw ⟨true, false⟩ Tryd.prog (fun _ _ => False) Tryd.A_bits_Bytes (bodyOf Tryd.f35) [t0, undef, undef, undef, undef, undef, undef, undef, undef, undef, undef, undef, undef, undef, undef, undef, undef, undef, undef, undef, undef, undef, undef, undef] w (topQ true Tryd.prog Tryd.f35 w K) = Tryd.F_bits_Bytes t0 w K := by kernel_rfl
theorem Tryd.C_bits_Bytes : chk ⟨true, false⟩ Tryd.prog false Tryd.A_bits_Bytes (bodyOf Tryd.f35) = true := by kernel_rfl
theorem Tryd.ok_bits_Bytes {t0 : Value} {w : World} {K : Value → World → Prop} (h : Tryd.F_bits_Bytes t0 w K) : oCall Tryd.prog Tryd.n_bits_Bytes #[t0] w K :=
  calls_of_sw (cf := ⟨true, false⟩) Tryd.mixed Tryd.func35 rfl Tryd.C_bits_Bytes ((Tryd.E_bits_Bytes t0 w K).mpr h)

/- 86: loanword/bits.Read -/
def Tryd.A_bits_Read : Ann := .s (.r (.op 0 .l (.op 1 .p (.op 2 .p (.nil))))) (.s (.r (.op 0 .p (.op 1 .l (.op 2 .p (.op 3 .p (.op 4 .p (.op 5 .l (.op 6 .p (.nil))))))))) (.s (.s (.r (.op 0 .p (.op 1 .p (.nil)))) (.c (.s (.r (.op 0 .p (.op 1 .p (.op 2 .l (.op 3 .p (.op 4 .p (.nil))))))) (.n)) (.n))) (.s (.r (.op 0 .p (.op 1 .p (.op 2 .p (.op 3 .p (.nil)))))) (.s (.s (.r (.op 0 .p (.op 1 .p (.op 2 .p (.op 3 .p (.op 4 .p (.nil))))))) (.b (.lp [26] (.s (.r (.op 0 .p (.nil))) (.s (.c (.n) (.n)) (.s (.b (.s (.r (.op 0 .p (.op 1 .p (.nil)))) (.s (.r (.op 0 .p (.nil))) (.b (.lp [29] (.s (.r (.op 0 .p (.nil))) (.s (.c (.n) (.n)) (.j [] (.b (.s (.r (.op 0 .p (.op 1 .p (.nil)))) (.s (.s (.r (.op 0 .p (.op 1 .p (.op 2 .p (.op 3 .p (.op 4 .p (.op 5 .p (.op 6 .p (.nil))))))))) (.c (.n) (.n))) (.s (.s (.r (.op 0 .p (.op 1 .p (.op 2 .p (.op 3 .p (.op 4 .p (.op 5 .p (.nil)))))))) (.c (.s (.r (.op 0 .p (.op 1 .p (.op 2 .l (.op 3 .p (.op 4 .p (.nil))))))) (.n)) (.n))) (.r (.op 0 .p (.op 1 .q (.op 2 .p (.op 3 .p (.op 4 .p (.op 5 .p (.op 6 .p (.op 7 .p (.op 8 .q (.op 9 .p (.op 10 .p (.op 11 .p (.op 12 .p (.op 13 .p (.op 14 .p (.op 15 .p (.op 16 .p (.op 17 .l (.nil)))))))))))))))))))))))) (.r (.op 0 .p (.op 1 .p (.nil)))))))))))) (.r (.op 0 .p (.op 1 .p (.nil)))))))))) (.s (.s (.r (.op 0 .p (.op 1 .p (.op 2 .p (.op 3 .p (.nil)))))) (.c (.s (.r (.op 0 .p (.op 1 .p (.op 2 .p (.op 3 .p (.op 4 .p (.op 5 .l (.op 6 .p (.op 7 .p (.nil)))))))))) (.n)) (.n))) (.s (.r (.op 0 .q (.op 1 .l (.op 2 .p (.op 3 .p (.nil)))))) (.n)))))))
def Tryd.F_bits_Read (t0 : Value) (t1 : Value) (w : World) (K : Value → World → Prop) : Prop :=
 opW Tryd.prog w (Instr.alloc 65 true (.tuple #[])) fun t4 w1 =>
 oCall Tryd.prog Tryd.n_bits_New #[t0] w1 fun t12 w2 =>
 opP Tryd.prog (Instr.extract t12 0) fun t13 =>
 opP Tryd.prog (Instr.extract t12 1) fun t14 =>
 opU Tryd.prog w2 (Instr.storeAt 65 t4 t13) fun w3 =>
 opP Tryd.prog (bsem .neq 28 true t14 (Value.int .i64 0)) fun t16 =>
 oCond t16 (opP Tryd.prog (Instr.build 65 #[]) fun t17 =>
 opU Tryd.prog w3 (Instr.storeAt 65 t4 t17) fun w4 =>
 opQ Tryd.prog w4 (cellSem 65 t4) fun r5 =>
 K (.tuple #[r5, (Value.int .i64 0), t14]) w4) (opP Tryd.prog (bsem .add 3 true t0 (Value.int .i64 7)) fun t20 =>
 opP Tryd.prog (bsem .quo 3 true t20 (Value.int .i64 8)) fun t21 =>
 opP Tryd.prog (Builtin.len_ #[9] 3 #[t1]) fun t24 =>
 opP Tryd.prog (Builtin.min_ #[3, 3] 3 #[t21, t24]) fun t25 =>
 sLoop [(Value.int .i64 0)] w3 (fun s7 _d8 w9 K6 =>
 opP Tryd.prog (bsem .lss 3 false (s7.getD 0 undef) t25) fun t27 =>
 oCond t27 (sLoop [(Value.int .i64 0)] w9 (fun s11 _d12 w13 K10 =>
 opP Tryd.prog (bsem .lss 3 true (s11.getD 0 undef) (Value.int .i64 8)) fun t30 =>
 oCond t30 (sJoin (fun K14 =>
 opP Tryd.prog (Instr.index 9 t1 (s7.getD 0 undef)) fun t34 =>
 opP Tryd.prog (bsem .shr 5 true (Value.int .u8 128) (s11.getD 0 undef)) fun t36 =>
 opP Tryd.prog (bsem .and 5 false t34 t36) fun t37 =>
 opP Tryd.prog (bsem .eql 5 true t37 (Value.int .u8 0)) fun t38 =>
 oCond t38 (K14 [] w13.drew) (opP Tryd.prog (bsem .mul 3 true (Value.int .i64 8) (s7.getD 0 undef)) fun t40 =>
 opP Tryd.prog (bsem .add 3 false t40 (s11.getD 0 undef)) fun t42 =>
 opP Tryd.prog (bsem .geq 3 false t42 t0) fun t44 =>
 oCond t44 (opP Tryd.prog (Instr.build 65 #[]) fun t45 =>
 opU Tryd.prog w13.drew (Instr.storeAt 65 t4 t45) fun w18 =>
 opQ Tryd.prog w18 (cellSem 65 t4) fun r19 =>
 K (.tuple #[r19, (s7.getD 0 undef), (Value.int .i64 10)]) w18) (opP Tryd.prog (Instr.fieldAt 65 t4 1) fun t47 =>
 opQ Tryd.prog w13.drew.drew (Instr.loadAt 63 t47) fun t48 =>
 opP Tryd.prog (bsem .mul 3 true (Value.int .i64 8) (s7.getD 0 undef)) fun t50 =>
 opP Tryd.prog (bsem .add 3 false t50 (s11.getD 0 undef)) fun t52 =>
 opP Tryd.prog (bsem .quo 3 true t52 (Value.int .i64 64)) fun t53 =>
 opP Tryd.prog (Instr.indexAt 63 t48 t53) fun t54 =>
 opQ Tryd.prog w13.drew.drew (Instr.loadAt 108 t54) fun t55 =>
 opP Tryd.prog (bsem .mul 3 true (Value.int .i64 8) (s7.getD 0 undef)) fun t57 =>
 opP Tryd.prog (bsem .add 3 false t57 (s11.getD 0 undef)) fun t59 =>
 opP Tryd.prog (bsem .rem 3 true t59 (Value.int .i64 64)) fun t60 =>
 opP Tryd.prog (bsem .shl 108 true (Value.int .u64 1) t60) fun t61 =>
 opP Tryd.prog (bsem .or 108 false t55 t61) fun t62 =>
 opP Tryd.prog (Instr.indexAt 63 t48 t53) fun t63 =>
 opU Tryd.prog w13.drew.drew (Instr.storeAt 108 t63 t62) fun w20 =>
 K14 [] w20))) (fun _s15 _d16 w17 =>
 opP Tryd.prog (bsem .add 3 true (s11.getD 0 undef) (Value.int .i64 1)) fun t64 =>
 K10 [t64] w17)) (opP Tryd.prog (bsem .add 3 true (s7.getD 0 undef) (Value.int .i64 1)) fun t65 =>
 K6 [t65] w13))) (opP Tryd.prog (Builtin.len_ #[9] 3 #[t1]) fun t67 =>
 opP Tryd.prog (bsem .neq 3 false t67 t21) fun t69 =>
 oCond t69 (opP Tryd.prog (Instr.build 65 #[]) fun t70 =>
 opP Tryd.prog (Builtin.len_ #[9] 3 #[t1]) fun t73 =>
 opP Tryd.prog (Builtin.min_ #[3, 3] 3 #[t21, t73]) fun t74 =>
 opU Tryd.prog w9 (Instr.storeAt 65 t4 t70) fun w21 =>
 opQ Tryd.prog w21 (cellSem 65 t4) fun r22 =>
 K (.tuple #[r22, t74, (Value.int .i64 10)]) w21) (opQ Tryd.prog w9 (Instr.loadAt 65 t4) fun t75 =>
 opU Tryd.prog w9 (Instr.storeAt 65 t4 t75) fun w23 =>
 opQ Tryd.prog w23 (cellSem 65 t4) fun r24 =>
 K (.tuple #[r24, (Value.int .i64 0), (Value.int .i64 0)]) w23))))
theorem Tryd.E_bits_Read (t0 t1 : Value) (w : World) (K : Value → World → Prop) : sw ⟨false, false⟩ Tryd.prog (fun _ _ => False) Tryd.A_bits_Read (bodyOf Tryd.f86) [t0, t1, undef, undef, undef, undef, undef, undef, undef, undef, undef, undef, undef, undef, undef, undef, undef, undef, undef, undef, undef, undef, undef, undef, undef, undef, undef, undef, undef, undef, undef, undef, undef, undef, undef, undef, undef, undef, undef, undef, undef, undef, undef, undef, undef, undef, undef, undef, undef, undef, undef, undef, undef, undef, undef, undef, undef, undef, undef, undef, undef, undef, undef, undef, undef, undef, undef, undef, undef, undef, undef, undef, undef, undef, undef, undef] w (topQ false Tryd.prog Tryd.f86 w K) = Tryd.F_bits_Read t0 t1 w K := by kernel_rfl
theorem Tryd.C_bits_Read : chk ⟨false, false⟩ Tryd.prog false Tryd.A_bits_Read (bodyOf Tryd.f86) = true := by kernel_rfl
theorem Tryd.ok_bits_Read {t0 t1 : Value} {w : World} {K : Value → World → Prop} (h : Tryd.F_bits_Read t0 t1 w K) : oCall Tryd.prog Tryd.n_bits_Read #[t0, t1] w K :=
  calls_of_sw (cf := ⟨false, false⟩) Tryd.mixed Tryd.func86 rfl Tryd.C_bits_Read ((Tryd.E_bits_Read t0 t1 w K).mpr h)

/- 59: loanword/bits.May -/
def Tryd.A_bits_May : Ann := .s (.r (.op 0 .l (.op 1 .p (.nil)))) (.s (.s (.r (.op 0 .p (.op 1 .q (.op 2 .p (.op 3 .p (.grp 6 false [(4, .p), (5, .q), (6, .p)] [9] (.op 7 .p (.op 8 .p (.grp 11 false [(9, .p), (10, .q), (11, .p), (12, .p), (13, .q), (14, .p), (15, .p), (16, .p)] [19] (.op 17 .p (.nil))))))))))) (.c (.s (.r (.op 0 .p (.nil))) (.n)) (.n))) (.s (.r (.op 0 .p (.op 1 .q (.op 2 .p (.op 3 .p (.op 4 .p (.grp 25 false [(5, .p), (6, .q), (7, .p), (8, .q), (9, .p), (10, .p), (11, .p), (12, .q), (13, .p), (14, .q), (15, .p), (16, .p), (17, .p)] [38] (.op 18 .p (.op 19 .p (.nil)))))))))) (.n)))
def Tryd.F_bits_May (t0 : Value) (w : World) (K : Value → World → Prop) : Prop :=
 opW Tryd.prog w (Instr.box 65 t0) fun t1 w1 =>
 opP Tryd.prog (Instr.fieldAt 65 t1 0) fun t3 =>
 opQ Tryd.prog w1 (Instr.loadAt 3 t3) fun t4 =>
 opP Tryd.prog (bsem .lss 3 true t4 (Value.int .i64 0)) fun t5 =>
 sJoin (fun K2 => gIf t5 false (opP Tryd.prog (Instr.fieldAt 65 t1 0) fun t7 =>
 opQ Tryd.prog w1 (Instr.loadAt 3 t7) fun t8 =>
 opP Tryd.prog (bsem .gtr 3 true t8 (Value.int .i64 1032)) fun t9 =>
 K2 [t9] w1) (K2 [undef] w1)) (fun s3 _d4 w5 =>
 oPick t5 (Value.bool true) (s3.getD 0 undef) fun t10 =>
 sJoin (fun K6 => gIf t10 false (opP Tryd.prog (Instr.fieldAt 65 t1 1) fun t12 =>
 opQ Tryd.prog w5 (Instr.loadAt 63 t12) fun t13 =>
 opP Tryd.prog (Builtin.len_ #[63] 3 #[t13]) fun t14 =>
 opP Tryd.prog (Instr.fieldAt 65 t1 0) fun t15 =>
 opQ Tryd.prog w5 (Instr.loadAt 3 t15) fun t16 =>
 opP Tryd.prog (bsem .add 3 true t16 (Value.int .i64 63)) fun t17 =>
 opP Tryd.prog (bsem .quo 3 true t17 (Value.int .i64 64)) fun t18 =>
 opP Tryd.prog (bsem .neq 3 false t14 t18) fun t19 =>
 K6 [t19] w5) (K6 [undef] w5)) (fun s7 _d8 w9 =>
 oPick t10 (Value.bool true) (s7.getD 0 undef) fun t20 =>
 oCond t20 (K (Value.bool false) w9) (opP Tryd.prog (Instr.fieldAt 65 t1 0) fun t21 =>
 opQ Tryd.prog w9.drew (Instr.loadAt 3 t21) fun t22 =>
 opP Tryd.prog (bsem .rem 3 true t22 (Value.int .i64 64)) fun t23 =>
 opP Tryd.prog (bsem .eql 3 true t23 (Value.int .i64 0)) fun t24 =>
 sJoin (fun K10 => gIf t24 false (opP Tryd.prog (Instr.fieldAt 65 t1 1) fun t26 =>
 opQ Tryd.prog w9.drew (Instr.loadAt 63 t26) fun t27 =>
 opP Tryd.prog (Instr.fieldAt 65 t1 1) fun t28 =>
 opQ Tryd.prog w9.drew (Instr.loadAt 63 t28) fun t29 =>
 opP Tryd.prog (Builtin.len_ #[63] 3 #[t29]) fun t30 =>
 opP Tryd.prog (bsem .sub 3 true t30 (Value.int .i64 1)) fun t31 =>
 opP Tryd.prog (Instr.indexAt 63 t27 t31) fun t32 =>
 opQ Tryd.prog w9.drew (Instr.loadAt 108 t32) fun t33 =>
 opP Tryd.prog (Instr.fieldAt 65 t1 0) fun t34 =>
 opQ Tryd.prog w9.drew (Instr.loadAt 3 t34) fun t35 =>
 opP Tryd.prog (bsem .rem 3 true t35 (Value.int .i64 64)) fun t36 =>
 opP Tryd.prog (bsem .shr 108 false t33 t36) fun t37 =>
 opP Tryd.prog (bsem .eql 108 true t37 (Value.int .u64 0)) fun t38 =>
 K10 [t38] w9.drew) (K10 [undef] w9.drew)) (fun s11 _d12 w13 =>
 oPick t24 (Value.bool true) (s11.getD 0 undef) fun t39 =>
 K t39 w13))))
theorem Tryd.E_bits_May (t0 : Value) (w : World) (K : Value → World → Prop) : sw ⟨false, false⟩ Tryd.prog (fun _ _ => False) Tryd.A_bits_May (bodyOf Tryd.f59) [t0, undef, undef, undef, undef, undef, undef, undef, undef, undef, undef, undef, undef, undef, undef, undef, undef, undef, undef, undef, undef, undef, undef, undef, undef, undef, undef, undef, undef, undef, undef, undef, undef, undef, undef, undef, undef, undef, undef, undef] w (topQ false Tryd.prog Tryd.f59 w K) = Tryd.F_bits_May t0 w K := by kernel_rfl
theorem Tryd.C_bits_May : chk ⟨false, false⟩ Tryd.prog false Tryd.A_bits_May (bodyOf Tryd.f59) = true := by kernel_rfl
theorem Tryd.ok_bits_May {t0 : Value} {w : World} {K : Value → World → Prop} (h : Tryd.F_bits_May t0 w K) : oCall Tryd.prog Tryd.n_bits_May #[t0] w K :=
  calls_of_sw (cf := ⟨false, false⟩) Tryd.mixed Tryd.func59 rfl Tryd.C_bits_May ((Tryd.E_bits_May t0 w K).mpr h)

/- 88: loanword/bits.New -/
def Tryd.A_bits_New : Ann := .s (.r (.op 0 .l (.op 1 .p (.nil)))) (.s (.s (.r (.op 0 .p (.op 1 .p (.op 2 .p (.grp 6 false [(3, .p), (4, .p)] [8] (.op 5 .p (.nil))))))) (.c (.s (.r (.op 0 .p (.op 1 .l (.op 2 .p (.nil))))) (.n)) (.n))) (.s (.r (.op 0 .p (.op 1 .p (.op 2 .p (.op 3 .p (.op 4 .l (.op 5 .p (.op 6 .l (.op 7 .p (.nil)))))))))) (.n)))
def Tryd.F_bits_New (t0 : Value) (w : World) (K : Value → World → Prop) : Prop :=
 opW Tryd.prog w (Instr.alloc 65 true (.tuple #[])) fun t2 w1 =>
 opP Tryd.prog (bsem .lss 3 true t0 (Value.int .i64 0)) fun t5 =>
 sJoin (fun K2 => gIf t5 false (opP Tryd.prog (bsem .gtr 3 true t0 (Value.int .i64 1032)) fun t8 =>
 K2 [t8] w1) (K2 [undef] w1)) (fun s3 _d4 w5 =>
 oPick t5 (Value.bool true) (s3.getD 0 undef) fun t9 =>
 oCond t9 (opP Tryd.prog (Instr.build 65 #[]) fun t10 =>
 opU Tryd.prog w5 (Instr.storeAt 65 t2 t10) fun w6 =>
 opQ Tryd.prog w6 (cellSem 65 t2) fun r7 =>
 K (.tuple #[r7, (Value.int .i64 2)]) w6) (opP Tryd.prog (bsem .add 3 true t0 (Value.int .i64 63)) fun t13 =>
 opP Tryd.prog (bsem .quo 3 true t13 (Value.int .i64 64)) fun t14 =>
 opW Tryd.prog w5 (Instr.makeSlice 63 t14 t14) fun t15 w8 =>
 opP Tryd.prog (Instr.build 65 #[(0, t0), (1, t15)]) fun t16 =>
 opU Tryd.prog w8 (Instr.storeAt 65 t2 t16) fun w9 =>
 opQ Tryd.prog w9 (cellSem 65 t2) fun r10 =>
 K (.tuple #[r10, (Value.int .i64 0)]) w9))
theorem Tryd.E_bits_New (t0 : Value) (w : World) (K : Value → World → Prop) : sw ⟨false, false⟩ Tryd.prog (fun _ _ => False) Tryd.A_bits_New (bodyOf Tryd.f88) [t0, undef, undef, undef, undef, undef, undef, undef, undef, undef, undef, undef, undef, undef, undef, undef, undef] w (topQ false Tryd.prog Tryd.f88 w K) = Tryd.F_bits_New t0 w K := by kernel_rfl
theorem Tryd.C_bits_New : chk ⟨false, false⟩ Tryd.prog false Tryd.A_bits_New (bodyOf Tryd.f88) = true := by kernel_rfl
theorem Tryd.ok_bits_New {t0 : Value} {w : World} {K : Value → World → Prop} (h : Tryd.F_bits_New t0 w K) : oCall Tryd.prog Tryd.n_bits_New #[t0] w K :=
  calls_of_sw (cf := ⟨false, false⟩) Tryd.mixed Tryd.func88 rfl Tryd.C_bits_New ((Tryd.E_bits_New t0 w K).mpr h)

/- 64: loanword/bits.Own -/
def Tryd.A_bits_Own : Ann := .s (.r (.op 0 .l (.op 1 .l (.op 2 .p (.nil))))) (.s (.s (.r (.op 0 .q (.op 1 .l (.op 2 .p (.nil))))) (.c (.s (.r (.op 0 .p (.op 1 .l (.op 2 .p (.nil))))) (.n)) (.n))) (.s (.r (.op 0 .p (.op 1 .q (.op 2 .p (.op 3 .q (.op 4 .u (.op 5 .p (.op 6 .l (.op 7 .p (.nil)))))))))) (.n)))
def Tryd.F_bits_Own (t0 : Value) (w : World) (K : Value → World → Prop) : Prop :=
 opW Tryd.prog w (Instr.box 65 t0) fun t1 w1 =>
 opW Tryd.prog w1 (Instr.alloc 65 true (.tuple #[])) fun t2 w2 =>
 opQ Tryd.prog w2 (Instr.loadAt 65 t1) fun t4 =>
 oCall Tryd.prog Tryd.n_bits_May #[t4] w2 fun t5 w3 =>
 opP Tryd.prog (Op.unary .not t5) fun t6 =>
 oCond t6 (opP Tryd.prog (Instr.build 65 #[]) fun t7 =>
 opU Tryd.prog w3 (Instr.storeAt 65 t2 t7) fun w4 =>
 opQ Tryd.prog w4 (cellSem 65 t2) fun r5 =>
 K (.tuple #[r5, (Value.int .i64 2)]) w4) (opP Tryd.prog (Instr.fieldAt 65 t1 0) fun t8 =>
 opQ Tryd.prog w3.drew (Instr.loadAt 3 t8) fun t9 =>
 opP Tryd.prog (Instr.fieldAt 65 t1 1) fun t10 =>
 opQ Tryd.prog w3.drew (Instr.loadAt 63 t10) fun t11 =>
 oCall Tryd.prog Tryd.n_slices_Clone_uint64_uint64 #[t11] w3.drew fun t12 w6 =>
 Ext w3.drew w6 ∧
 opP Tryd.prog (Instr.build 65 #[(0, t9), (1, t12)]) fun t13 =>
 opU Tryd.prog w6 (Instr.storeAt 65 t2 t13) fun w7 =>
 opQ Tryd.prog w7 (cellSem 65 t2) fun r8 =>
 K (.tuple #[r8, (Value.int .i64 0)]) w7)
theorem Tryd.E_bits_Own (t0 : Value) (w : World) (K : Value → World → Prop) : sw ⟨false, false⟩ Tryd.prog (fun _ _ => False) Tryd.A_bits_Own (bodyOf Tryd.f64) [t0, undef, undef, undef, undef, undef, undef, undef, undef, undef, undef, undef, undef, undef] w (topQ false Tryd.prog Tryd.f64 w K) = Tryd.F_bits_Own t0 w K := by kernel_rfl
theorem Tryd.C_bits_Own : chk ⟨false, false⟩ Tryd.prog false Tryd.A_bits_Own (bodyOf Tryd.f64) = true := by kernel_rfl
theorem Tryd.ok_bits_Own {t0 : Value} {w : World} {K : Value → World → Prop} (h : Tryd.F_bits_Own t0 w K) : oCall Tryd.prog Tryd.n_bits_Own #[t0] w K :=
  calls_of_sw (cf := ⟨false, false⟩) Tryd.mixed Tryd.func64 rfl Tryd.C_bits_Own ((Tryd.E_bits_Own t0 w K).mpr h)

/- 61: loanword/bits.Each -/
def Tryd.A_bits_Each : Ann := .s (.r (.op 0 .l (.op 1 .p (.nil)))) (.s (.r (.op 0 .q (.op 1 .l (.op 2 .p (.op 3 .p (.op 4 .p (.op 5 .l (.op 6 .l (.op 7 .l (.nil)))))))))) (.s (.r (.op 0 .p (.op 1 .p (.nil)))) (.n)))
def Tryd.F_bits_Each (t0 : Value) (w : World) (K : Value → World → Prop) : Prop :=
 opW Tryd.prog w (Instr.box 65 t0) fun t1 w1 =>
 opQ Tryd.prog w1 (Instr.loadAt 65 t1) fun t5 =>
 oCall Tryd.prog Tryd.n_bits_Own #[t5] w1 fun t6 w2 =>
 opP Tryd.prog (Instr.extract t6 0) fun t7 =>
 opP Tryd.prog (Instr.extract t6 1) fun t8 =>
 opW Tryd.prog w2 (Instr.alloc 28 true (.tuple #[])) fun t3 w3 =>
 opU Tryd.prog w3 (Instr.storeAt 65 t1 t7) fun w4 =>
 opU Tryd.prog w4 (Instr.storeAt 28 t3 t8) fun w5 =>
 opP Tryd.prog (Instr.makeFunc (.func 81) #[] #[t3, t1]) fun t9 =>
 K t9 w5
theorem Tryd.E_bits_Each (t0 : Value) (w : World) (K : Value → World → Prop) : sw ⟨false, false⟩ Tryd.prog (fun _ _ => False) Tryd.A_bits_Each (bodyOf Tryd.f61) [t0, undef, undef, undef, undef, undef, undef, undef, undef, undef] w (topQ false Tryd.prog Tryd.f61 w K) = Tryd.F_bits_Each t0 w K := by kernel_rfl
theorem Tryd.C_bits_Each : chk ⟨false, false⟩ Tryd.prog false Tryd.A_bits_Each (bodyOf Tryd.f61) = true := by kernel_rfl
theorem Tryd.ok_bits_Each {t0 : Value} {w : World} {K : Value → World → Prop} (h : Tryd.F_bits_Each t0 w K) : oCall Tryd.prog Tryd.n_bits_Each #[t0] w K :=
  calls_of_sw (cf := ⟨false, false⟩) Tryd.mixed Tryd.func61 rfl Tryd.C_bits_Each ((Tryd.E_bits_Each t0 w K).mpr h)

/- 60: loanword/bits.Bytes$1 -/
def Tryd.A_bits_Bytes_1 : Ann := .r (.op 0 .q (.op 1 .p (.op 2 .p (.op 3 .p (.op 4 .q (.op 5 .p (.op 6 .p (.op 7 .p (.op 8 .p (.op 9 .p (.op 10 .l (.nil))))))))))))
def Tryd.F_bits_Bytes_1 (t0 : Value) (t1 : Value) (w : World) (K : Value → World → Prop) : Prop :=
 opQ Tryd.prog w.drew (Instr.loadAt 57 t1) fun t3 =>
 opP Tryd.prog (bsem .quo 3 true t0 (Value.int .i64 8)) fun t5 =>
 opP Tryd.prog (Instr.indexAt 57 t3 t5) fun t6 =>
 opQ Tryd.prog w.drew (Instr.loadAt 5 t6) fun t7 =>
 opP Tryd.prog (bsem .rem 3 true t0 (Value.int .i64 8)) fun t9 =>
 opP Tryd.prog (bsem .shr 5 true (Value.int .u8 128) t9) fun t10 =>
 opP Tryd.prog (bsem .or 5 false t7 t10) fun t11 =>
 opP Tryd.prog (Instr.indexAt 57 t3 t5) fun t12 =>
 opU Tryd.prog w.drew (Instr.storeAt 5 t12 t11) fun w1 =>
 K (.tuple #[]) w1
theorem Tryd.E_bits_Bytes_1 (t0 t1 : Value) (w : World) (K : Value → World → Prop) : sw ⟨false, false⟩ Tryd.prog (fun _ _ => False) Tryd.A_bits_Bytes_1 (bodyOf Tryd.f60) [t0, t1, undef, undef, undef, undef, undef, undef, undef, undef, undef, undef, undef] w (topQ false Tryd.prog Tryd.f60 w K) = Tryd.F_bits_Bytes_1 t0 t1 w K := by kernel_rfl
theorem Tryd.C_bits_Bytes_1 : chk ⟨false, false⟩ Tryd.prog false Tryd.A_bits_Bytes_1 (bodyOf Tryd.f60) = true := by kernel_rfl
theorem Tryd.ok_bits_Bytes_1 {t0 t1 : Value} {w : World} {K : Value → World → Prop} (h : Tryd.F_bits_Bytes_1 t0 t1 w K) : oCall Tryd.prog Tryd.n_bits_Bytes_1 #[t0, t1] w K :=
  calls_of_sw (cf := ⟨false, false⟩) Tryd.mixed Tryd.func60 rfl Tryd.C_bits_Bytes_1 ((Tryd.E_bits_Bytes_1 t0 t1 w K).mpr h)

/- 83: slices.Clone[[]uint64,uint64] -/
def Tryd.A_slices_Clone_uint64_uint64 : Ann := .s (.r (.op 0 .p (.nil))) (.s (.s (.r (.op 0 .p (.op 1 .p (.nil)))) (.c (.s (.r (.op 0 .p (.nil))) (.n)) (.n))) (.s (.r (.op 0 .l (.op 1 .p (.op 2 .l (.op 3 .p (.nil)))))) (.n)))
def Tryd.F_slices_Clone_uint64_uint64 (t0 : Value) (w : World) (K : Value → World → Prop) : Prop :=
 opP Tryd.prog (bsem .eql 63 true t0 (Value.slice Option.none 0 0)) fun t4 =>
 oCond t4 (K (Value.slice Option.none 0 0) w) (opW Tryd.prog w (Instr.buildSlice 63 0 #[]) fun t5 w1 =>
 opW Tryd.prog w1 (Builtin.append_ #[63, 63] 63 #[t5, t0]) fun t7 w2 =>
 K t7 w2)
theorem Tryd.E_slices_Clone_uint64_uint64 (t0 : Value) (w : World) (K : Value → World → Prop) : sw ⟨false, false⟩ Tryd.prog (fun _ _ => False) Tryd.A_slices_Clone_uint64_uint64 (bodyOf Tryd.f83) [t0, undef, undef, undef, undef, undef, undef, undef] w (topQ false Tryd.prog Tryd.f83 w K) = Tryd.F_slices_Clone_uint64_uint64 t0 w K := by kernel_rfl
theorem Tryd.C_slices_Clone_uint64_uint64 : chk ⟨false, false⟩ Tryd.prog false Tryd.A_slices_Clone_uint64_uint64 (bodyOf Tryd.f83) = true := by kernel_rfl
theorem Tryd.ok_slices_Clone_uint64_uint64 {t0 : Value} {w : World} {K : Value → World → Prop} (h : Tryd.F_slices_Clone_uint64_uint64 t0 w K) : oCall Tryd.prog Tryd.n_slices_Clone_uint64_uint64 #[t0] w K :=
  calls_of_sw (cf := ⟨false, false⟩) Tryd.mixed Tryd.func83 rfl Tryd.C_slices_Clone_uint64_uint64 ((Tryd.E_slices_Clone_uint64_uint64 t0 w K).mpr h)

/- 81: loanword/bits.Each$1 -/
def Tryd.A_bits_Each_1 : Ann := .s (.s (.r (.op 0 .q (.op 1 .p (.nil)))) (.c (.n) (.n))) (.s (.r (.op 0 .p (.op 1 .q (.op 2 .p (.op 3 .p (.nil)))))) (.b (.lp [11] (.s (.r (.op 0 .p (.nil))) (.s (.c (.n) (.n)) (.s (.b (.s (.r (.op 0 .p (.op 1 .p (.op 2 .q (.op 3 .p (.op 4 .p (.nil))))))) (.b (.lp [5] (.s (.s (.r (.op 0 .p (.op 1 .p (.nil)))) (.c (.n) (.n))) (.s (.b (.s (.r (.op 0 .p (.op 1 .p (.op 2 .p (.op 3 .p (.op 4 .l (.op 5 .p (.op 6 .l (.op 7 .p (.nil)))))))))) (.c (.n) (.n)))) (.r (.op 0 .p (.op 1 .p (.op 2 .p (.op 3 .p (.op 4 .p (.nil))))))))))))) (.r (.op 0 .p (.op 1 .p (.nil))))))))))
def Tryd.F_bits_Each_1 (t0 : Value) (t1 : Value) (t2 : Value) (w : World) (K : Value → World → Prop) : Prop :=
 opQ Tryd.prog w (Instr.loadAt 28 t1) fun t6 =>
 opP Tryd.prog (bsem .neq 28 true t6 (Value.int .i64 0)) fun t7 =>
 oCond t7 (K (.tuple #[]) w) (opP Tryd.prog (Instr.fieldAt 65 t2 1) fun t8 =>
 opQ Tryd.prog w (Instr.loadAt 63 t8) fun t9 =>
 opP Tryd.prog (Builtin.len_ #[63] 3 #[t9]) fun t10 =>
 sLoop [(Value.int .i64 0)] w (fun s2 _d3 w4 K1 =>
 opP Tryd.prog (bsem .lss 3 false (s2.getD 0 undef) t10) fun t12 =>
 oCond t12 (opP Tryd.prog (Instr.indexAt 63 t9 (s2.getD 0 undef)) fun t14 =>
 opQ Tryd.prog w4 (Instr.loadAt 108 t14) fun t15 =>
 sLoop [t15] w4 (fun s6 _d7 w8 K5 =>
 opP Tryd.prog (bsem .neq 108 true (s6.getD 0 undef) (Value.int .u64 0)) fun t17 =>
 oCond t17 (opP Tryd.prog (bsem .mul 3 true (Value.int .i64 64) (s2.getD 0 undef)) fun t24 =>
 oCall Tryd.prog Tryd.n_math_bits_TrailingZeros64 #[(s6.getD 0 undef)] w8 fun t26 w9 =>
 opP Tryd.prog (bsem .add 3 false t24 t26) fun t27 =>
 oCallV Tryd.prog t0 #[t27] w9 fun t28 w10 =>
 opP Tryd.prog (Op.unary .not t28) fun t29 =>
 oCond t29 (K (.tuple #[]) w10) (opP Tryd.prog (bsem .sub 108 true (s6.getD 0 undef) (Value.int .u64 1)) fun t20 =>
 opP Tryd.prog (bsem .and 108 false (s6.getD 0 undef) t20) fun t21 =>
 K5 [t21] w10)) (opP Tryd.prog (bsem .add 3 true (s2.getD 0 undef) (Value.int .i64 1)) fun t30 =>
 K1 [t30] w8))) (K (.tuple #[]) w4)))
theorem Tryd.E_bits_Each_1 (t0 t1 t2 : Value) (w : World) (K : Value → World → Prop) : sw ⟨false, false⟩ Tryd.prog (fun _ _ => False) Tryd.A_bits_Each_1 (bodyOf Tryd.f81) [t0, t1, t2, undef, undef, undef, undef, undef, undef, undef, undef, undef, undef, undef, undef, undef, undef, undef, undef, undef, undef, undef, undef, undef, undef, undef, undef, undef, undef, undef, undef] w (topQ false Tryd.prog Tryd.f81 w K) = Tryd.F_bits_Each_1 t0 t1 t2 w K := by kernel_rfl
theorem Tryd.C_bits_Each_1 : chk ⟨false, false⟩ Tryd.prog false Tryd.A_bits_Each_1 (bodyOf Tryd.f81) = true := by kernel_rfl
theorem Tryd.ok_bits_Each_1 {t0 t1 t2 : Value} {w : World} {K : Value → World → Prop} (h : Tryd.F_bits_Each_1 t0 t1 t2 w K) : oCall Tryd.prog Tryd.n_bits_Each_1 #[t0, t1, t2] w K :=
  calls_of_sw (cf := ⟨false, false⟩) Tryd.mixed Tryd.func81 rfl Tryd.C_bits_Each_1 ((Tryd.E_bits_Each_1 t0 t1 t2 w K).mpr h)

/- 82: math/bits.TrailingZeros64 -/
def Tryd.A_math_bits_TrailingZeros64 : Ann := .s (.r (.op 0 .p (.nil))) (.s (.s (.r (.op 0 .p (.op 1 .p (.nil)))) (.c (.s (.r (.op 0 .p (.nil))) (.n)) (.n))) (.s (.r (.op 0 .p (.op 1 .p (.op 2 .p (.op 3 .p (.op 4 .p (.op 5 .p (.op 6 .p (.op 7 .q (.op 8 .p (.op 9 .p (.nil)))))))))))) (.n)))
def Tryd.F_math_bits_TrailingZeros64 (t0 : Value) (w : World) (K : Value → World → Prop) : Prop :=
 opP Tryd.prog (bsem .eql 108 true t0 (Value.int .u64 0)) fun t4 =>
 oCond t4 (K (Value.int .i64 64) w) (opP Tryd.prog (Op.unary .neg t0) fun t7 =>
 opP Tryd.prog (bsem .and 108 false t0 t7) fun t8 =>
 opP Tryd.prog (bsem .mul 108 true t8 (Value.int .u64 285870213051353865)) fun t9 =>
 opP Tryd.prog (bsem .shr 108 true t9 (Value.int .u64 58)) fun t10 =>
 opP Tryd.prog (Instr.indexAt 135 (Value.pointer (some ⟨0, 0, none⟩)) t10) fun t11 =>
 opQ Tryd.prog w (Instr.loadAt 5 t11) fun t12 =>
 opP Tryd.prog (convert 5 3 t12) fun t13 =>
 K t13 w)
theorem Tryd.E_math_bits_TrailingZeros64 (t0 : Value) (w : World) (K : Value → World → Prop) : sw ⟨false, false⟩ Tryd.prog (fun _ _ => False) Tryd.A_math_bits_TrailingZeros64 (bodyOf Tryd.f82) [t0, undef, undef, undef, undef, undef, undef, undef, undef, undef, undef, undef, undef, undef] w (topQ false Tryd.prog Tryd.f82 w K) = Tryd.F_math_bits_TrailingZeros64 t0 w K := by kernel_rfl
theorem Tryd.C_math_bits_TrailingZeros64 : chk ⟨false, false⟩ Tryd.prog false Tryd.A_math_bits_TrailingZeros64 (bodyOf Tryd.f82) = true := by kernel_rfl
theorem Tryd.ok_math_bits_TrailingZeros64 {t0 : Value} {w : World} {K : Value → World → Prop} (h : Tryd.F_math_bits_TrailingZeros64 t0 w K) : oCall Tryd.prog Tryd.n_math_bits_TrailingZeros64 #[t0] w K :=
  calls_of_sw (cf := ⟨false, false⟩) Tryd.mixed Tryd.func82 rfl Tryd.C_math_bits_TrailingZeros64 ((Tryd.E_math_bits_TrailingZeros64 t0 w K).mpr h)

end Go.Proofs
end

section
namespace Go.Proofs

open Go.Sh Go.BM

set_option maxRecDepth 100000

/-- the value v is a row: width, words -/
def RowV (w : World) (v : Value) (W : Int) (ws : List (BitVec 64)) : Prop :=
  ∃ p cap, v = .agg #[.int .i64 W, .slice p ws.length cap] ∧ Sl w p (ws.map u64) ∧ (p = none → cap = 0) ∧ ws.length ≤ cap
def i64 (n : Int) : Prop := -9223372036854775808 ≤ n ∧ n < 9223372036854775808

theorem c_bits_May {w : World} {v : Value} {W : Int} {ws : List (BitVec 64)} {K : Value → World → Prop} (hr : RowV w v W ws)
    (h : ∀ w', Ext w w' → K (.bool (mayB W ws)) w') : oCall Tryd.prog Tryd.n_bits_May #[v] w K := by
  obtain ⟨p, cap, rfl, hS, hp, hcap⟩ := hr
  refine Tryd.ok_bits_May ?_
  unfold Tryd.F_bits_May
  refine w_box fun b w1 hb e1 s1 B => ?_
  (first | refine s_p ?_ | refine s_c (by omega) ?_); refine Tryd.ldB_int B rfl ?_; (repeat (first | refine s_p ?_ | refine s_c (by omega) ?_))
  refine j_or (fun h0 => ?_) (fun h0 => ?_)
  · refine j_orB (fun _ => ?_) (fun hn => by cases hn)
    refine c_T ?_
    rw [mayB_false (fun hm => by have := hm.1; omega)] at h
    exact h _ e1
  intro K2 hK2
  (first | refine s_p ?_ | refine s_c (by omega) ?_); refine Tryd.ldB_int B rfl ?_; (repeat (first | refine s_p ?_ | refine s_c (by omega) ?_))
  refine hK2 _ _ ?_; clear hK2 K2
  refine j_or (fun h1 => ?_) (fun h1 => ?_)
  · refine c_T ?_
    rw [mayB_false (fun hm => by have := hm.2.1; omega)] at h
    exact h _ e1
  intro K3 hK3
  (first | refine s_p ?_ | refine s_c (by omega) ?_); refine Tryd.ldB_S_uint64 B rfl ?_; (repeat (first | refine s_p ?_ | refine s_c (by omega) ?_)); refine Tryd.ldB_int B rfl ?_; (repeat (first | refine s_p ?_ | refine s_c (by omega) ?_))
  refine hK3 _ _ ?_; clear hK3 K3
  refine c_if (fun h2 => ?_) (fun h2 => ?_)
  · rw [mayB_false (fun hm => by have := hm.2.2.1; omega)] at h
    exact h _ e1
  have h2 : (ws.length : Int) = (W + 63) / 64 := by omega
  (first | refine s_p ?_ | refine s_c (by omega) ?_); refine Tryd.ldB_int B rfl ?_; (repeat (first | refine s_p ?_ | refine s_c (by omega) ?_))
  refine j_or (fun h3 => ?_) (fun h3 => ?_)
  · rw [mayB_true (may_even (by omega) (by omega) h2 h3)] at h
    exact h _ (e1.trans (Ext.drew _))
  intro K4 hK4
  have hlt : ws.length - 1 < ws.length := by omega
  have hlt' : ws.length - 1 < (ws.map u64).length := by simpa using hlt
  obtain ⟨b', off, rfl, hc⟩ := hS.at hlt'
  have hc := cell_ext hc (e1.trans (Ext.drew w1))
  (first | refine s_p ?_ | refine s_c (by omega) ?_); refine Tryd.ldB_S_uint64 B rfl ?_; (first | refine s_p ?_ | refine s_c (by omega) ?_); refine Tryd.ldB_S_uint64 B rfl ?_; (repeat (first | refine s_p ?_ | refine s_c (by omega) ?_))
  rw [show ((ws.length : Int) - 1).toNat = ws.length - 1 by omega]
  refine Tryd.ld_uint64 hc ?_
  rw [List.getElem_map]
  (first | refine s_p ?_ | refine s_c (by omega) ?_); refine Tryd.ldB_int B rfl ?_; (repeat (first | refine s_p ?_ | refine s_c (by omega) ?_))
  refine hK4 _ _ ?_
  have hz : (((ws[ws.length - 1] >>> (W % 64).toNat).toNat : Int) = 0) ↔ May W ws := by
    rw [may_last (by omega) (by omega) h2 h3 hlt]
    constructor
    · intro hz; apply BitVec.eq_of_toNat_eq; have h9 : (ws[ws.length - 1] >>> (W % 64).toNat).toNat = 0 := by omega
      rw [h9]; rfl
    · intro hz; rw [hz]; rfl
  rw [show mayB W ws = decide (((ws[ws.length - 1] >>> (W % 64).toNat).toNat : Int) = 0) by unfold mayB; simp only [← hz]] at h
  exact h _ (e1.trans (Ext.drew _))

theorem RowV.ext {w w' : World} {v : Value} {W : Int} {ws : List (BitVec 64)} (h : RowV w v W ws) (e : Ext w w') : RowV w' v W ws := by
  obtain ⟨p, cap, h1, h2, h3⟩ := h; exact ⟨p, cap, h1, h2.ext e, h3⟩
theorem RowV.nl {w w' : World} {n : Nat} {v : Value} {W : Int} {ws : List (BitVec 64)} (h : RowV w v W ws) (e : Nl n w w') : RowV w' v W ws := by
  obtain ⟨p, cap, h1, h2, h3⟩ := h; exact ⟨p, cap, h1, h2.nl e, h3⟩
theorem RowV.shuts {w w' : World} {n : Nat} {v : Value} {W : Int} {ws : List (BitVec 64)} (h : RowV w v W ws) (e : Shuts n w w') : RowV w' v W ws := by
  obtain ⟨p, cap, h1, h2, h3⟩ := h; exact ⟨p, cap, h1, h2.shuts e, h3⟩
/-- words in memory of the call's own, from block n on -/
def Words (w : World) (n : Nat) (p : Option Addr) (cap : Nat) (ws : List (BitVec 64)) : Prop :=
  (p = none → cap = 0) ∧ ws.length ≤ cap ∧ (ws = [] ∨ ∃ b c, p = some ⟨b, 0, none⟩ ∧ n ≤ b ∧ Blk w b c Tryd.t_uint64 ∧ c.take ws.length = ws.map u64)
/-- a row in memory of the call's own -/
def FreshRow (w : World) (n : Nat) (v : Value) (W : Int) (ws : List (BitVec 64)) : Prop :=
  ∃ p cap, v = .agg #[.int .i64 W, .slice p ws.length cap] ∧ Words w n p cap ws
theorem Words.sl {w : World} {n : Nat} {p : Option Addr} {cap : Nat} {ws : List (BitVec 64)} (h : Words w n p cap ws) : Sl w p (ws.map u64) := by
  rcases h.2.2 with rfl | ⟨b, c, rfl, _, B, hc⟩
  · exact Sl.nil _ _
  · rw [← hc]; exact (Sl.blk B).take _
theorem Words.mono {w : World} {n n' : Nat} {p : Option Addr} {cap : Nat} {ws : List (BitVec 64)} (h : Words w n p cap ws) (hn : n' ≤ n) : Words w n' p cap ws :=
  ⟨h.1, h.2.1, h.2.2.imp id fun ⟨b, c, h1, h2, h3⟩ => ⟨b, c, h1, by omega, h3⟩⟩
theorem Words.ext {w w' : World} {n : Nat} {p : Option Addr} {cap : Nat} {ws : List (BitVec 64)} (h : Words w n p cap ws) (e : Ext w w') : Words w' n p cap ws :=
  ⟨h.1, h.2.1, h.2.2.imp id fun ⟨b, c, h1, h2, h3, h4⟩ => ⟨b, c, h1, h2, h3.ext e, h4⟩⟩
theorem FreshRow.row {w : World} {n : Nat} {v : Value} {W : Int} {ws : List (BitVec 64)} (h : FreshRow w n v W ws) : RowV w v W ws := by
  obtain ⟨p, cap, rfl, h⟩ := h; exact ⟨p, cap, rfl, h.sl, h.1, h.2.1⟩
theorem FreshRow.mono {w : World} {n n' : Nat} {v : Value} {W : Int} {ws : List (BitVec 64)} (h : FreshRow w n v W ws) (hn : n' ≤ n) : FreshRow w n' v W ws := by
  obtain ⟨p, cap, h1, h⟩ := h; exact ⟨p, cap, h1, h.mono hn⟩
theorem FreshRow.ext {w w' : World} {n : Nat} {v : Value} {W : Int} {ws : List (BitVec 64)} (h : FreshRow w n v W ws) (e : Ext w w') : FreshRow w' n v W ws := by
  obtain ⟨p, cap, h1, h⟩ := h; exact ⟨p, cap, h1, h.ext e⟩
/-- the zero row -/
def row0 : Value := .agg #[.int .i64 0, .slice none 0 0]
abbrev err (n : Int) : Value := .int .i64 n
def nil0 : List (BitVec 64) := []
theorem fresh0 (w : World) (n : Nat) : FreshRow w n row0 0 [] := ⟨none, 0, rfl, fun _ => rfl, Nat.le_refl _, .inl rfl⟩
/-- words without bits -/
def zeros (W : Int) : List (BitVec 64) := List.replicate ((W.toNat + 63) / 64) 0#64

theorem c_bits_New {w : World} {W : Int} {K : Value → World → Prop}
    (h1 : ¬ (0 ≤ W ∧ W ≤ 1032) → ∀ w', Ext w w' → K (.tuple #[row0, err 2]) w')
    (h2 : 0 ≤ W → W ≤ 1032 → ∀ v w', Ext w w' → FreshRow w' w.heap.size v W (zeros W) → K (.tuple #[v, err 0]) w') : oCall Tryd.prog Tryd.n_bits_New #[.int .i64 W] w K := by
  refine Tryd.ok_bits_New ?_
  unfold Tryd.F_bits_New
  refine Tryd.al_Row fun b w1 hb e1 s1 B => ?_
  have bad : ¬ (0 ≤ W ∧ W ≤ 1032) → opP Tryd.prog (Instr.build Tryd.t_Row #[]) fun t10 => opU Tryd.prog w1 (Instr.storeAt Tryd.t_Row (.pointer (some ⟨b, 0, none⟩)) t10) fun w6 =>
      opQ Tryd.prog w6 (cellSem Tryd.t_Row (.pointer (some ⟨b, 0, none⟩))) fun r7 => K (.tuple #[r7, (Value.int .i64 2)]) w6 := fun hn => by
    refine p_build (cs := #[.int .i64 0, .slice none 0 0]) (by kernel_rfl) ?_
    refine Tryd.stB_Row B rfl rfl (by simp [Value.oneCell']) fun w2 x2 s2 B2 => ?_
    refine Tryd.ce_Row B2 rfl ?_
    exact h1 hn _ (e1.but x2 (by intro k hk; omega))
  (repeat (first | refine s_p ?_ | refine s_c (by omega) ?_))
  refine j_or (fun h0 => c_T (bad (by omega))) (fun h0 => ?_)
  intro K2 hK2
  (repeat (first | refine s_p ?_ | refine s_c (by omega) ?_))
  refine hK2 _ _ ?_; clear hK2 K2
  refine c_if (fun h3 => bad (by omega)) (fun h3 => ?_)
  (repeat (first | refine s_p ?_ | refine s_c (by omega) ?_))
  refine Tryd.mk_S_uint64 (by omega) (by omega) fun b2 w2 hb2 e2 s2 B2 => ?_
  refine p_build (cs := #[.int .i64 W, .slice (some ⟨b2, 0, none⟩) ((W + 63) / 64).toNat ((W + 63) / 64).toNat]) (by kernel_rfl) ?_
  refine Tryd.stB_Row (B.ext e2) rfl rfl (by simp [Value.oneCell']) fun w3 x3 s3 B3 => ?_
  refine Tryd.ce_Row B3 rfl ?_
  have hl : ((W + 63) / 64).toNat = (zeros W).length := by simp only [zeros, List.length_replicate]; omega
  refine h2 (by omega) (by omega) _ _ ((e1.trans e2).but x3 (by intro k hk; omega)) ⟨some ⟨b2, 0, none⟩, _, by rw [hl], by simp, Nat.le_refl _, .inr ⟨b2, _, rfl, by have := e1.size; omega, B2.but x3 (by omega), ?_⟩⟩
  rw [hl, List.take_of_length_le (by simp), zeros, List.map_replicate, List.length_replicate]
  rfl
end Go.Proofs
end

section
namespace Go.Proofs

open Go.Sh Go.BM

set_option maxRecDepth 100000

theorem cells1 (ws : List (BitVec 64)) : ∀ u ∈ ws.map u64, u.oneCell' = true := fun u hu => by
  obtain ⟨x, _, rfl⟩ := List.mem_map.1 hu; rfl

theorem c_Clone {w : World} {p : Option Addr} {cap : Nat} {ws : List (BitVec 64)} {K : Value → World → Prop} (hS : Sl w p (ws.map u64)) (hp : p = none → cap = 0) (hw : ws.length * 8 ≤ 140737488355328)
    (h : ∀ p' cap' w', Ext w w' → Words w' w.heap.size p' cap' ws → K (.slice p' ws.length cap') w') :
    oCall Tryd.prog Tryd.n_slices_Clone_uint64_uint64 #[.slice p ws.length cap] w K := by
  refine Tryd.ok_slices_Clone_uint64_uint64 ?_
  unfold Tryd.F_slices_Clone_uint64_uint64
  refine p_eqNilS (e := Tryd.t_uint64) (n := 1) (by kernel_rfl) ?_
  refine c_b (fun hn => ?_) (fun hn => ?_)
  · have hws : ws = [] := by
      cases ws with
      | nil => rfl
      | cons a l => obtain ⟨b, off, hb, _⟩ := hS 0 (u64 a) rfl; rw [hb] at hn; cases hn
    subst hws
    exact h none 0 w (Ext.refl w) ⟨fun _ => rfl, Nat.le_refl _, .inl rfl⟩
  refine w_lit (e := Tryd.t_uint64) (cs := []) (by kernel_rfl) fun b w1 hb e1 s1 B => ?_
  have hown := own_of_blk (w := w1) (base := w.heap.size) (size := 1) (n := 0) (cap := 0) (by omega) B (Nat.le_refl _) (by simp [maxLen]) rfl
  refine Tryd.ap_S_uint64 hown (hS.ext e1) (by simp) hp (cells1 ws) (by omega) (by have := e1.size; omega) fun v2 w2 hown2 x2 hblk hnil => ?_
  have e2 : Ext w w2 := e1.but x2 (by intro k hk; simp [Value.ownBlock] at hk; omega)
  rcases own_blk hown2 with ⟨rfl, _⟩ | ⟨g, cap', c, rfl, hg, B2, hn2, hm2, hc, ht⟩
  · simp at hnil
  · simp only [Nat.zero_add, Nat.mul_one, List.take_zero, List.nil_append] at hn2 ht ⊢
    exact h _ _ _ e2 ⟨by simp, hn2, .inr ⟨g, c, rfl, hg, B2, ht⟩⟩

theorem c_bits_Own {w : World} {v : Value} {W : Int} {ws : List (BitVec 64)} {K : Value → World → Prop} (hr : RowV w v W ws)
    (h1 : ¬ May W ws → ∀ w', Ext w w' → K (.tuple #[row0, err 2]) w')
    (h2 : May W ws → ∀ v' w', Ext w w' → FreshRow w' w.heap.size v' W ws → K (.tuple #[v', err 0]) w') : oCall Tryd.prog Tryd.n_bits_Own #[v] w K := by
  refine Tryd.ok_bits_Own ?_
  unfold Tryd.F_bits_Own
  have hr0 := hr
  obtain ⟨p, cap, rfl, hS, hp, hcap⟩ := hr
  refine w_box fun b1 w1 hb1 e1 s1 B1 => ?_
  refine Tryd.al_Row fun b2 w2 hb2 e2 s2 B2 => ?_
  have B1 := B1.ext e2
  refine Tryd.ldB_Row B1 rfl ?_
  refine c_bits_May (hr0.ext (e1.trans e2)) fun w3 e3 => ?_
  have B1 := B1.ext e3; have B2 := B2.ext e3
  have E3 : Ext w w3 := (e1.trans e2).trans e3
  (repeat (first | refine s_p ?_ | refine s_c (by omega) ?_))
  refine c_b (fun hm => ?_) (fun hm => ?_)
  · have hm : ¬ May W ws := by simpa [mayB] using hm
    refine p_build (cs := #[.int .i64 0, .slice none 0 0]) (by kernel_rfl) ?_
    refine Tryd.stB_Row B2 rfl rfl (by simp [Value.oneCell']) fun w4 x4 s4 B4 => ?_
    refine Tryd.ce_Row B4 rfl ?_
    exact h1 hm _ (E3.but x4 (by intro k hk; omega))
  have hm : May W ws := by simpa [mayB] using hm
  (first | refine s_p ?_ | refine s_c (by omega) ?_); refine Tryd.ldB_int B1 rfl ?_; (first | refine s_p ?_ | refine s_c (by omega) ?_); refine Tryd.ldB_S_uint64 B1 rfl ?_
  have hlen : ws.length * 8 ≤ 140737488355328 := by have := hm.2.2.1; have := hm.2.1; omega
  refine c_Clone ((hS.ext E3).ext (Ext.drew w3)) hp hlen fun p4 cap4 w4 e4 hw4 => ⟨e4, ?_⟩
  refine p_build (cs := #[.int .i64 W, .slice p4 ws.length cap4]) (by kernel_rfl) ?_
  have B2 : Blk w4 b2 _ _ := Blk.ext (w := w3.drew) B2 e4
  have E4 : Ext w w4 := (E3.trans (Ext.drew w3)).trans e4
  refine Tryd.stB_Row B2 rfl rfl (by simp [Value.oneCell']) fun w5 x5 s5 B5 => ?_
  refine Tryd.ce_Row B5 rfl ?_
  refine h2 hm _ _ (E4.but x5 (by intro k hk; have := e1.size; omega)) ⟨p4, cap4, rfl, ?_⟩
  obtain ⟨h4, h5, h6⟩ := hw4
  refine ⟨h4, h5, h6.imp id fun ⟨b, c, q1, q2, q3, q4⟩ => ⟨b, c, q1, ?_, q3.but x5 ?_, q4⟩⟩
  · have : w3.drew.heap.size = w3.heap.size := rfl
    have := E3.size; omega
  · have : w3.drew.heap.size = w3.heap.size := rfl
    have := e3.size; omega

def getB (W k : Int) (ws : List (BitVec 64)) : Bool := decide (0 ≤ k ∧ k < W) && bit ws k.toNat
/-! ### Words put together -/

/-- a function value that turns a word in memory by another one: '*w |= bit' and its like -/
def Turns (f : Value) (g : BitVec 64 → BitVec 64 → BitVec 64) : Prop :=
  ∀ (w : World) (b i : Nat) (c : List Value) (T : TypeId) (x y : BitVec 64) (K : Value → World → Prop), Blk w b c T → c[i]? = some (u64 x) →
    (∀ v w', ExtBut (· = b) w w' → w'.heap.size = w.heap.size → Blk w' b (c.set i (u64 (g x y))) T → K v w') →
    oCallV Tryd.prog f #[.pointer (some ⟨b, i, none⟩), u64 y] w K
theorem lt_of_some {c : List Value} {i : Nat} {v : Value} (h : c[i]? = some v) : i < c.length := (List.getElem?_eq_some_iff.1 h).1
theorem Words.but {w w' : World} {S : Nat → Prop} {n : Nat} {p : Option Addr} {cap : Nat} {ws : List (BitVec 64)} (h : Words w n p cap ws) (e : ExtBut S w w')
    (hS : ∀ g, p = some ⟨g, 0, none⟩ → n ≤ g → g < w.heap.size → ¬ S g) : Words w' n p cap ws :=
  ⟨h.1, h.2.1, h.2.2.imp id fun ⟨b, c, h1, h2, h3, h4⟩ => ⟨b, c, h1, h2, h3.but e (hS b h1 h2 h3.lt), h4⟩⟩
theorem Words.nl {w w' : World} {n m : Nat} {p : Option Addr} {cap : Nat} {ws : List (BitVec 64)} (h : Words w n p cap ws) (e : Nl m w w') : Words w' n p cap ws :=
  ⟨h.1, h.2.1, h.2.2.imp id fun ⟨b, c, h1, h2, h3, h4⟩ => ⟨b, c, h1, h2, h3.nl e, h4⟩⟩
theorem Words.shuts {w w' : World} {n m : Nat} {p : Option Addr} {cap : Nat} {ws : List (BitVec 64)} (h : Words w n p cap ws) (e : Shuts m w w') : Words w' n p cap ws :=
  ⟨h.1, h.2.1, h.2.2.imp id fun ⟨b, c, h1, h2, h3, h4⟩ => ⟨b, c, h1, h2, h3.shuts e, h4⟩⟩
theorem Words.get {w : World} {n : Nat} {p : Option Addr} {cap : Nat} {ws : List (BitVec 64)} (h : Words w n p cap ws) {i : Nat} (hi : i < ws.length) :
    ∃ b c, p = some ⟨b, 0, none⟩ ∧ n ≤ b ∧ Blk w b c Tryd.t_uint64 ∧ c[i]? = some (u64 ws[i]) ∧
      ∀ (w' : World) (x : BitVec 64), Blk w' b (c.set i (u64 x)) Tryd.t_uint64 → Words w' n p cap (ws.set i x) := by
  rcases h.2.2 with rfl | ⟨b, c, h1, h2, h3, h4⟩
  · cases hi
  refine ⟨b, c, h1, h2, h3, ?_, fun w' x hx => ⟨h.1, by rw [List.length_set]; exact h.2.1, .inr ⟨b, _, h1, h2, hx, ?_⟩⟩⟩
  · have : (c.take ws.length)[i]? = some (u64 ws[i]) := by rw [h4]; simp [hi]
    rwa [List.getElem?_take, if_pos hi] at this
  · rw [List.length_set, List.take_set, h4, List.map_set]

end Go.Proofs
end

section
namespace Go.Proofs

open Go.Sh Go.BM

set_option maxRecDepth 100000

theorem FreshRow.but {w w' : World} {S : Nat → Prop} {n : Nat} {v : Value} {W : Int} {ws : List (BitVec 64)} (h : FreshRow w n v W ws) (e : ExtBut S w w')
    (hS : ∀ g, n ≤ g → g < w.heap.size → ¬ S g) : FreshRow w' n v W ws := by
  obtain ⟨p, cap, h1, h⟩ := h; exact ⟨p, cap, h1, h.but e fun g _ h1 h2 => hS g h1 h2⟩
theorem FreshRow.nl {w w' : World} {n m : Nat} {v : Value} {W : Int} {ws : List (BitVec 64)} (h : FreshRow w n v W ws) (e : Nl m w w') : FreshRow w' n v W ws := by
  obtain ⟨p, cap, h1, h⟩ := h; exact ⟨p, cap, h1, h.nl e⟩
theorem FreshRow.shuts {w w' : World} {n m : Nat} {v : Value} {W : Int} {ws : List (BitVec 64)} (h : FreshRow w n v W ws) (e : Shuts m w w') : FreshRow w' n v W ws := by
  obtain ⟨p, cap, h1, h⟩ := h; exact ⟨p, cap, h1, h.shuts e⟩
theorem row0_fresh (w : World) (n : Nat) : FreshRow w n row0 0 [] := fresh0 w n
theorem FreshRow.shape {w : World} {n : Nat} {v : Value} {W : Int} {ws : List (BitVec 64)} (h : FreshRow w n v W ws) : ∃ p cap, v = .agg #[.int .i64 W, .slice p ws.length cap] := by
  obtain ⟨p, cap, h1, _⟩ := h; exact ⟨p, cap, h1⟩

/-! ### Set, Clear -/

/-! ### Two rows, word by word -/

/-! ### The library's own reckonings -/

/-- the library's table -/
def Tab (w : World) : Prop := ∀ j, j < 64 → w.cell? ⟨0, j, none⟩ = some (.int .u8 (Lib.deBruijn64tab.getD j 0 : Nat))
theorem Tab.ext {w w' : World} (h : Tab w) (e : Ext w w') : Tab w' := fun j hj => cell_ext (h j hj) e
theorem Tab.but {w w' : World} {S : Nat → Prop} (h : Tab w) (e : ExtBut S w w') (h0 : ¬ S 0) : Tab w' := fun j hj => cell_but (h j hj) e h0
theorem Tab.nl {w w' : World} {n : Nat} (h : Tab w) (e : Nl n w w') : Tab w' := fun j hj => cell_nl (h j hj) e
theorem Tab.shuts {w w' : World} {n : Nat} (h : Tab w) (e : Shuts n w w') : Tab w' := fun j hj => cell_shuts (h j hj) e
theorem c_TrailingZeros64 {w : World} {x : BitVec 64} {t : Nat} {K : Value → World → Prop} (hT : Tab w) (hx : x ≠ 0#64) (ht : t < 64) (ha : (x &&& -x).toNat = 2 ^ t) (h : K (.int .i64 t) w) :
    oCall Tryd.prog Tryd.n_math_bits_TrailingZeros64 #[u64 x] w K := by
  refine Tryd.ok_math_bits_TrailingZeros64 ?_
  unfold Tryd.F_math_bits_TrailingZeros64
  refine p_eql ?_
  refine c_if (fun h0 => absurd (BitVec.eq_of_toNat_eq (by have : (0#64).toNat = 0 := rfl; omega)) hx) (fun h0 => ?_)
  refine p_neg64 (p_and64 ?_)
  rw [of64]
  refine p_mulN 285870213051353865 rfl ?_
  refine p_shrN 58 rfl ?_
  have hta := table_at ht ha
  generalize ((x &&& -x) * BitVec.ofNat 64 285870213051353865) >>> 58 = z at hta ⊢
  refine p_indexA (l := 64) (e := Tryd.t_uint8) (n := 1) (by kernel_rfl) (by omega) (by omega) ?_
  have hc := hT _ hta.1
  rw [hta.2] at hc
  refine Tryd.ld_uint8 (v := .int .u8 (t : Int)) (by rw [show 0 + Int.toNat (z.toNat : Int) * 1 = z.toNat by omega]; exact hc) ?_
  refine p_cvt64 (k1 := .u8) (by kernel_rfl) (by kernel_rfl) (by omega) h
end Go.Proofs
end

section
namespace Go.Proofs

open Go.Sh Go.BM

set_option maxRecDepth 100000

/-- what Count and Each tell of a row -/
noncomputable def eachL (W : Int) (ws : List (BitVec 64)) : List Nat := if mayB W ws then bitsOf ws else []
theorem eachL_may {W : Int} {ws : List (BitVec 64)} (h : May W ws) : eachL W ws = bitsOf ws := by simp [eachL, mayB_true h]
theorem eachL_not {W : Int} {ws : List (BitVec 64)} (h : ¬ May W ws) : eachL W ws = [] := by simp [eachL, mayB_false h]

/-- one number, as yield takes it -/
abbrev one1 (k : Nat) : List Value := [.int .i64 (k : Int)]
/-- a function value that ranges over xs, whatever the rounds write (not blocks n to m, nor the table) -/
def Iters (n m : Nat) (w : World) (g : Value) (xs : List (List Value)) : Prop :=
  (∃ gf cap, g = .func (.func gf) #[] cap) ∧ ∀ (S : Nat → Prop) (w2 : World), (∀ b, S b → (b < n ∨ m ≤ b) ∧ b ≠ 0) → Ext w w2 → IterC Tryd.prog g w2 xs S
theorem Iters.ext {n m : Nat} {w w' : World} {g : Value} {xs : List (List Value)} (h : Iters n m w g xs) (e : Ext w w') : Iters n m w' g xs := ⟨h.1, fun S w2 hS e2 => h.2 S w2 hS (e.trans e2)⟩

theorem drop_get {α : Type} {l : List α} {k : Nat} {x : α} {r : List α} (h : l.drop k = x :: r) : l[k]? = some x ∧ l.drop (k + 1) = r := by
  constructor
  · have : (l.drop k)[0]? = some x := by rw [h]; rfl
    rwa [List.getElem?_drop, Nat.add_zero] at this
  · rw [← List.drop_drop, h]; rfl

/-- .. the same, of what stays: a function value that ranges over xs where these blocks lie as they lay -/
def ItersG (q : Gh) (g : Value) (xs : List (List Value)) : Prop :=
  (∃ gf cap, g = .func (.func gf) #[] cap) ∧ ∀ (S : Nat → Prop) (w2 : World), (∀ b, S b → (∀ o, ¬ q b o) ∧ b ≠ 0) → Holds q w2 → Tab w2 → IterC Tryd.prog g w2 xs S
theorem Words.gh {w : World} {n : Nat} {p : Option Addr} {cap : Nat} {ws : List (BitVec 64)} (h : Words w n p cap ws) :
    ∃ s : Gh, Holds s w ∧ (∀ b o, s b o → n ≤ b) ∧ NoBook s ∧ ∀ w2, Holds s w2 → Words w2 n p cap ws ∧ ∀ g, p = some ⟨g, 0, none⟩ → ws ≠ [] → ∃ o, s g o := by
  rcases h.2.2 with rfl | ⟨b, c, rfl, hb, B, hc⟩
  · exact ⟨nothing, fun _ _ h => h.elim, fun _ _ h => h.elim, inferInstance, fun _ _ => ⟨⟨h.1, h.2.1, .inl rfl⟩, fun _ _ hn => absurd rfl hn⟩⟩
  · refine ⟨one b c Tryd.t_uint64, one_holds B, by rintro _ _ ⟨rfl, _⟩; exact hb, inferInstance, fun w2 k => ⟨⟨h.1, h.2.1, .inr ⟨b, c, rfl, hb, one_blk w2 k, hc⟩⟩, fun g hg _ => ?_⟩⟩
    cases hg; exact ⟨_, rfl, rfl⟩

theorem c_bits_EachG {w : World} {v : Value} {W : Int} {ws : List (BitVec 64)} {K : Value → World → Prop} (hr : RowV w v W ws)
    (h : ∀ g q w', Ext w w' → New w q w' → NoBook q → ItersG q g ((eachL W ws).map one1) → K g w') : oCall Tryd.prog Tryd.n_bits_Each #[v] w K := by
  refine Tryd.ok_bits_Each ?_
  unfold Tryd.F_bits_Each
  have hr0 := hr
  obtain ⟨p, cap, rfl, hS, hp, hcap⟩ := hr
  refine w_box fun b1 w1 hb1 e1 s1 B1 => ?_
  refine Tryd.ldB_Row B1 rfl ?_
  refine c_bits_Own (hr0.ext e1) (fun hm w2 e2 => ?_) (fun hm v2 w2 e2 hf => ?_)
  · have B1 := B1.ext e2
    (repeat (first | refine s_p ?_ | refine s_c (by omega) ?_))
    refine Tryd.al_Errno fun b3 w3 hb3 e3 s3 B3 => ?_
    have B1 := B1.ext e3
    have hs := e2.size
    refine Tryd.stB_Row B1 rfl rfl (by simp [Value.oneCell']) fun w4 x4 s4 B1 => ?_
    have B3 := B3.but x4 (by omega)
    refine Tryd.st_Errno B3 (by simp) rfl fun w5 x5 s5 B3 => ?_
    (first | refine s_p ?_ | refine s_c (by omega) ?_)
    rw [eachL_not hm] at h
    refine h _ (one _ _ _) _ ((((e1.trans e2).trans e3).but x4 (by intro k hk; omega)).but x5 (by intro k hk; omega)) (New.one B3 (by have := e1.size; omega)) inferInstance ⟨⟨_, _, rfl⟩, fun S w6 _ h6 _ => ?_⟩
    have B3 := one_blk w6 h6
    refine ⟨_, _, rfl, by kernel_rfl, fun l W1 J Jx hW hl hlt hJ hJx hround hJ0 => ?_⟩
    refine Calls.mono (Tryd.ok_bits_Each_1 (t0 := .func (.yield l) #[] #[]) (t1 := .pointer (some ⟨b3, 0, none⟩)) (t2 := .pointer (some ⟨b1, 0, none⟩)) (K := fun _ W' => J 0 W' ∨ Jx W') ?_) (fun e W' hh => by obtain ⟨v, he, hk⟩ := hh; exact ⟨⟨v, he⟩, hk⟩)
    unfold Tryd.F_bits_Each_1
    refine Tryd.ldB_Errno (B3.ext hW) rfl ?_
    (first | refine s_p ?_ | refine s_c (by omega) ?_)
    exact c_T (.inl hJ0)
  · have B1 := B1.ext e2
    obtain ⟨p2, cap2, rfl, hw2⟩ := hf
    (repeat (first | refine s_p ?_ | refine s_c (by omega) ?_))
    refine Tryd.al_Errno fun b3 w3 hb3 e3 s3 B3 => ?_
    have B1 := B1.ext e3
    have hs := e2.size; have hs1 := e1.size
    have hw2 := hw2.ext e3
    refine Tryd.stB_Row B1 rfl rfl (by simp [Value.oneCell']) fun w4 x4 s4 B1 => ?_
    have B3 := B3.but x4 (by omega)
    have hw2 := hw2.but x4 (fun g _ h1 h2 => by omega)
    have hg3 : ∀ g, p2 = some ⟨g, 0, none⟩ → ws ≠ [] → g ≠ b3 := by
      intro g hg hne hgb
      rcases hw2.2.2 with h | ⟨b, c, h1, _, h3, _⟩
      · exact absurd h hne
      · rw [hg] at h1; cases h1; subst hgb
        have := h3.symm.trans B3; simp only [Option.some.injEq, Obj.cells.injEq] at this
        have := this.2.1; cases this
    refine Tryd.st_Errno B3 (by simp) rfl fun w5 x5 s5 B3 => ?_
    have B1 := B1.but x5 (by omega)
    have hw5 : Words w5 w1.heap.size p2 cap2 ws := by
      rcases hw2.2.2 with h | ⟨b, c, q1, q2, q3, q4⟩
      · exact ⟨hw2.1, hw2.2.1, .inl h⟩
      · by_cases hne : ws = []
        · exact ⟨hw2.1, hw2.2.1, .inl hne⟩
        · exact ⟨hw2.1, hw2.2.1, .inr ⟨b, c, q1, q2, q3.but x5 (by have := hg3 b q1 hne; omega), q4⟩⟩
    (first | refine s_p ?_ | refine s_c (by omega) ?_)
    rw [eachL_may hm] at h
    have hE5 : Ext w w5 := (((e1.trans e2).trans e3).but x4 (by intro k hk; omega)).but x5 (by intro k hk; omega)
    obtain ⟨sw, hsw1, hsw2, nbw, hsw⟩ := hw5.gh
    refine h _ (((one _ _ _).or (one _ _ _)).or sw) _ hE5 ⟨((one_holds B1).or (one_holds B3)).or hsw1, fun b o hb => ?_⟩ inferInstance ⟨⟨_, _, rfl⟩, fun S w6 hSb h6 hT6 => ?_⟩
    · rcases hb with (hb | hb) | hb
      · rw [hb.1]; omega
      · rw [hb.1]; omega
      · have := hsw2 b o hb; omega
    have B1 : Blk w6 b1 [.int .i64 W, .slice p2 ws.length cap2] Tryd.t_Row := one_blk w6 (fun b o h => h6 b o (.inl (.inl h)))
    have B3 : Blk w6 b3 [err 0] Tryd.t_Errno := one_blk w6 (fun b o h => h6 b o (.inl (.inr h)))
    obtain ⟨hw6, hdom⟩ := hsw w6 (fun b o h => h6 b o (.inr h))
    have hS1 : ¬ S b1 := fun hb => (hSb _ hb).1 _ (.inl (.inl ⟨rfl, rfl⟩))
    have hS3 : ¬ S b3 := fun hb => (hSb _ hb).1 _ (.inl (.inr ⟨rfl, rfl⟩))
    have hS0 : ¬ S 0 := fun hb => (hSb _ hb).2 rfl
    refine ⟨_, _, rfl, by kernel_rfl, fun l W1 J Jx hW hl hlt hJ hJx hround hJ0 => ?_⟩
    have hb1l := B1.lt
    have hb3l := B3.lt
    have h0l : 0 < w6.heap.size := by omega
    generalize hxs : (bitsOf ws).map one1 = xs at hround
    refine Calls.mono (Tryd.ok_bits_Each_1 (t0 := .func (.yield l) #[] #[]) (t1 := .pointer (some ⟨b3, 0, none⟩)) (t2 := .pointer (some ⟨b1, 0, none⟩)) (K := fun _ W' => J xs.length W' ∨ Jx W') ?_) (fun e W' hh => by obtain ⟨v, he, hk⟩ := hh; exact ⟨⟨v, he⟩, hk⟩)
    unfold Tryd.F_bits_Each_1
    have B1 := B1.ext hW; have B3 := B3.ext hW
    have hT := hT6.ext hW
    have hw := hw6.ext hW
    refine Tryd.ldB_Errno B3 rfl ?_
    (first | refine s_p ?_ | refine s_c (by omega) ?_)
    refine c_F ?_
    have hM := hm.2.2.1; have hW3 := hm.2.1
    (first | refine s_p ?_ | refine s_c (by omega) ?_); refine Tryd.ldB_S_uint64 B1 rfl ?_; (first | refine s_p ?_ | refine s_c (by omega) ?_)
    have keep : ∀ {Wa Wb : World}, ExtBut (fun b => S b ∨ b = l) Wa Wb → w6.heap.size ≤ Wa.heap.size →
        Blk Wa b1 [.int .i64 W, .slice p2 ws.length cap2] Tryd.t_Row ∧ Tab Wa ∧ Words Wa w1.heap.size p2 cap2 ws → ws ≠ [] →
        Blk Wb b1 [.int .i64 W, .slice p2 ws.length cap2] Tryd.t_Row ∧ Tab Wb ∧ Words Wb w1.heap.size p2 cap2 ws := by
      rintro Wa Wb x hsz ⟨k1, k2, k3⟩ hne
      refine ⟨k1.but x ?_, k2.but x ?_, k3.but x ?_⟩
      · rintro (hn | hn)
        · exact hS1 hn
        · omega
      · rintro (hn | hn)
        · exact hS0 hn
        · omega
      · intro g hg h1 h2
        obtain ⟨o, ho⟩ := hdom g hg hne
        rintro (hn | hn)
        · exact (hSb _ hn).1 o (.inr ho)
        · have := h6.lt (.inr ho); omega
    refine l_intro (ι := Nat) (fun i => [.int .i64 i])
      (fun i w' => i ≤ ws.length ∧ w6.heap.size ≤ w'.heap.size ∧ (Blk w' b1 [.int .i64 W, .slice p2 ws.length cap2] Tryd.t_Row ∧ Tab w' ∧ Words w' w1.heap.size p2 cap2 ws) ∧
        ∃ k, xs.drop k = (bitsFrom i (ws.drop i)).map one1 ∧ k ≤ xs.length ∧ J k w')
      (fun i => ws.length - i) 0 rfl ⟨Nat.zero_le _, hW.size, ⟨B1, hT, hw⟩, 0, by rw [← hxs]; rfl, Nat.zero_le _, hJ0⟩ ?_
    rintro i d w7 ⟨hi, hsz, hk, k, hdrop, hkl, hJk⟩ K8 hK8
    simp only [List.getD_cons_zero]
    (first | refine s_p ?_ | refine s_c (by omega) ?_)
    refine c_if (fun hlt => ?_) (fun hge => ?_)
    · have hlt : i < ws.length := by omega
      obtain ⟨bw, cw, hpw, hbw, Bw, hcw, _⟩ := hk.2.2.get hlt
      subst hpw
      have hne : ws ≠ [] := by intro h0; rw [h0] at hlt; simp at hlt
      (first | refine s_p ?_ | refine s_c (by omega) ?_)
      rw [show 0 + ((i : Int)).toNat = i by omega]
      refine Tryd.ldB_uint64 Bw hcw ?_
      rw [bitsFrom_drop hlt, List.map_append, List.map_map] at hdrop
      refine l_intro (ι := BitVec 64) (fun x => [u64 x])
        (fun x w' => w6.heap.size ≤ w'.heap.size ∧ (Blk w' b1 [.int .i64 W, .slice (some ⟨bw, 0, none⟩) ws.length cap2] Tryd.t_Row ∧ Tab w' ∧ Words w' w1.heap.size (some ⟨bw, 0, none⟩) cap2 ws) ∧
          ∃ k, xs.drop k = (wbits x).map (one1 ∘ (64 * i + ·)) ++ (bitsFrom (i + 1) (ws.drop (i + 1))).map one1 ∧ k ≤ xs.length ∧ J k w')
        (fun x => (wbits x).length) ws[i] rfl ⟨hsz, hk, k, hdrop, hkl, hJk⟩ ?_
      clear hdrop hkl hJk hsz hk Bw hcw k
      rintro x d w8 ⟨hsz, hk, k, hdrop, hkl, hJk⟩ K9 hK9
      simp only [List.getD_cons_zero]
      refine p_neq ?_
      refine c_if (fun hx => ?_) (fun hx => ?_)
      · have hx : x ≠ 0#64 := by rintro rfl; exact hx rfl
        obtain ⟨t, ht, hlow, hwb⟩ := low_bit hx
        (first | refine s_p ?_ | refine s_c (by omega) ?_)
        refine c_TrailingZeros64 hk.2.1 hx ht hlow ?_
        (first | refine s_p ?_ | refine s_c (by omega) ?_)
        refine v_yield ?_
        rw [hwb, List.map_cons, List.cons_append] at hdrop
        have hd := drop_get hdrop
        have hkk : k < xs.length := (List.getElem?_eq_some_iff.1 hd.1).1
        refine YieldC.mono (hround k _ w8 hd.1 hJk) ?_
        rintro e w9 ⟨bb, rfl, x9, hJb⟩
        refine ⟨_, rfl, ?_⟩
        (first | refine s_p ?_ | refine s_c (by omega) ?_)
        refine c_b (fun hbb => ?_) (fun hbb => ?_)
        · have hbb : bb = false := by simpa using hbb
          subst hbb
          exact .inr hJb
        · have hbb : bb = true := by simpa using hbb
          subst hbb
          (first | refine s_p ?_ | refine s_c (by omega) ?_)
          refine p_and64 ?_
          rw [of64]
          refine hK9 _ _ ⟨Nat.le_trans hsz x9.size, keep x9 hsz hk hne, k + 1, ?_, hkk, hJb⟩ ?_
          · exact hd.2
          · rw [hwb]; exact Nat.lt_succ_self _
      · have hx : x = 0#64 := BitVec.eq_of_toNat_eq (by have : (0#64).toNat = 0 := rfl; omega)
        subst hx
        (repeat (first | refine s_p ?_ | refine s_c (by omega) ?_))
        rw [wbits_zero, List.map_nil, List.nil_append] at hdrop
        exact hK8 (i + 1) w8 ⟨hlt, hsz, hk, k, hdrop, hkl, hJk⟩ (by omega)
    · have hi' : i = ws.length := by omega
      subst hi'
      rw [List.drop_length] at hdrop
      have : k = xs.length := by
        have h1 : (xs.drop k).length = 0 := by rw [hdrop]; rfl
        rw [List.length_drop] at h1; omega
      subst this
      exact .inl hJk
theorem c_bits_Each {w : World} {v : Value} {W : Int} {ws : List (BitVec 64)} {K : Value → World → Prop} (hT : Tab w) (hr : RowV w v W ws)
    (h : ∀ g w', Ext w w' → Iters w.heap.size w'.heap.size w' g ((eachL W ws).map one1) → K g w') : oCall Tryd.prog Tryd.n_bits_Each #[v] w K :=
  c_bits_EachG hr fun g q w' e n _ hI => h g w' e ⟨hI.1, fun S w2 hS e2 => hI.2 S w2 (fun b hb => ⟨fun o ho => by
    have := n.fresh b o ho; have := n.holds.lt ho; have := (hS b hb).1; omega, (hS b hb).2⟩) (n.holds.ext e2) ((hT.ext e).ext e2)⟩
end Go.Proofs
end

section
namespace Go.Proofs

open Go.Sh Go.BM

set_option maxRecDepth 100000

theorem Words.butT {w w' : World} {b n : Nat} {c : List Value} {T : TypeId} {p : Option Addr} {cap : Nat} {ws : List (BitVec 64)} (h : Words w n p cap ws) (B : Blk w b c T) (hT : T ≠ Tryd.t_uint64) (e : ExtBut (· = b) w w') :
    Words w' n p cap ws :=
  ⟨h.1, h.2.1, h.2.2.imp id fun ⟨b', c', h1, h2, h3, h4⟩ => ⟨b', c', h1, h2, h3.but e (fun hb => by
    subst hb
    have := h3.symm.trans B; simp only [Option.some.injEq, Obj.cells.injEq] at this
    exact hT this.2.1.symm), h4⟩⟩
theorem FreshRow.butT {w w' : World} {b n : Nat} {c : List Value} {T : TypeId} {v : Value} {W : Int} {ws : List (BitVec 64)} (h : FreshRow w n v W ws) (B : Blk w b c T) (hT : T ≠ Tryd.t_uint64) (e : ExtBut (· = b) w w') :
    FreshRow w' n v W ws := by
  obtain ⟨p, cap, h1, h⟩ := h; exact ⟨p, cap, h1, h.butT B hT e⟩
/-- the bits that the one row has and the other lacks -/
def lackL (W : Int) (ws vs : List (BitVec 64)) : List Nat := (List.range W.toNat).filter fun k => bit vs k && !bit ws k
theorem lack_each {W : Int} {ws vs : List (BitVec 64)} (h : May W ws) (h' : May W vs) : eachL W (List.zipWith (fun x y => x &&& ~~~ y) vs ws) = lackL W ws vs := by
  have hl : vs.length = ws.length := by have := h.2.2.1; have := h'.2.2.1; omega
  have hz : (0 : BitVec 64) &&& ~~~ 0 = 0 := by decide
  have hm := may_zip (g := fun x y => x &&& ~~~ y) (h := fun a b => a && !b) less_bit hz rfl h' h
  rw [eachL_may hm, bitsOf_may hm, lackL]
  apply List.filter_congr
  intro k _
  exact bit_zip (h := fun a b => a && !b) less_bit hz hl k
def firstV (l : List Nat) : Value := .tuple #[.int .i64 ((l.headD 0 : Nat) : Int), .bool (!l.isEmpty), err 0]

end Go.Proofs
end

section
namespace Go.Proofs

open Go.Sh Go.BM

set_option maxRecDepth 100000

theorem u8_map (bs : List (BitVec 8)) : (bs.map UInt8.ofBitVec).map (fun x => u8 x.toBitVec) = bs.map u8 := by
  rw [List.map_map]; rfl
theorem getD_map8 {bs : List (BitVec 8)} {i : Nat} (h : i < bs.length) : (bs.map u8)[i]? = some (u8 (bs.getD i 0)) := by
  simp [List.getD_eq_getElem?_getD, h]

theorem c_bits_Bytes {w : World} {v : Value} {W : Int} {ws : List (BitVec 64)} {K : Value → World → Prop} (hT : Tab w) (hr : RowV w v W ws)
    (h1 : ¬ May W ws → ∀ w', Ext w w' → K (.tuple #[.string ⟨#[]⟩, err 2]) w')
    (h2 : May W ws → ∀ w', Ext w w' → K (.tuple #[.string (strOf (bytesOf W ws)), err 0]) w') : oCall Tryd.prog Tryd.n_bits_Bytes #[v] w K := by
  refine Tryd.ok_bits_Bytes ?_
  unfold Tryd.F_bits_Bytes
  have hr0 := hr
  obtain ⟨p, cap, rfl, hS, hp, hcap⟩ := hr
  refine w_box fun b1 w1 hb1 e1 s1 B1 => ⟨NC.of_ext e1, ?_⟩
  refine Tryd.ldB_Row B1 rfl ?_
  refine c_bits_May (hr0.ext e1) fun w2 e2 => ⟨NC.of_ext e2, ?_⟩
  have B1 := B1.ext e2
  have E2 := e1.trans e2
  (first | refine s_p ?_ | refine s_c (by omega) ?_)
  refine c_b (fun hm => ?_) (fun hm => ?_)
  · intro w3 sh
    refine h1 (fun hn => by rw [mayB_true hn] at hm; cases hm) _ (Ext.shut E2 sh)
  have hm : May W ws := by simpa [mayB] using hm
  have hW := hm.1; have hW2 := hm.2.1
  (first | refine s_p ?_ | refine s_c (by omega) ?_); refine Tryd.ldB_int B1 rfl ?_; (first | refine s_p ?_ | refine s_c (by omega) ?_); (first | refine s_p ?_ | refine s_c (by omega) ?_)
  refine Tryd.mk_S_uint8 (by omega) (by omega) fun bS w3 hbS e3 s3 BS => ⟨NC.of_ext e3, ?_⟩
  have hrep : List.replicate ((W + 7) / 8).toNat (Value.int .u8 0) = (noB W).map u8 := by
    rw [noB, List.map_replicate, show ((W + 7) / 8).toNat = (W.toNat + 7) / 8 by omega]; rfl
  rw [hrep] at BS
  refine Tryd.al_S_uint8 fun b4 w4 hb4 e4 s4 B4 => ⟨NC.of_ext e4, ?_⟩
  refine Tryd.st_S_uint8 B4 (by simp) rfl fun w5 x5 s5 B4' => ⟨NC.of_b B4 x5, ?_⟩
  have B1 := ((B1.ext e3).ext e4).but x5 (by have := B1.lt; omega)
  have BS := (BS.ext e4).but x5 (by omega)
  (first | refine s_p ?_ | refine s_c (by omega) ?_)
  refine Tryd.al_func_int fun b5 w6 hb5 e6 s6 B5 => ⟨NC.of_ext e6, ?_⟩
  have B1 := B1.ext e6; have BS := BS.ext e6; have B4 := B4'.ext e6
  refine Tryd.st_func_int B5 (by simp) rfl fun w7 x7 s7 B5' => ⟨NC.of_b B5 x7, ?_⟩
  have B1 := B1.but x7 (by have := e2.size; omega); have BS := BS.but x7 (by omega); have B4 := B4.but x7 (by omega)
  have E5 : Ext w w5 := ((E2.trans e3).trans e4).but x5 (by intro k hk; have := E2.size; omega)
  have E7 : Ext w w7 := (E5.trans e6).but x7 (by intro k hk; have := E5.size; omega)
  have hszS := E2.size
  have h0 : 0 < w.heap.size := cell_lt (hT 0 (by decide))
  refine Tryd.ldB_Row B1 rfl ?_
  refine c_bits_Each (hT.ext E7) (hr0.ext E7) fun g w8 e8 hI => ⟨NC.of_ext e8, ?_⟩
  rw [eachL_may hm] at hI
  have BS := BS.ext e8; have B4 := B4.ext e8; have B5 := B5'.ext e8
  have E8 := E7.trans e8
  have hlS := BS.lt
  refine r_all _ (fun b => b = bS)
    (fun k W' => Ext w W' ∧ Blk W' bS ((putAll (noB W) ((bitsOf ws).take k)).map u8) Tryd.t_uint8 ∧ Blk W' b4 [.slice (some ⟨bS, 0, none⟩) ((W + 7) / 8).toNat ((W + 7) / 8).toNat] Tryd.t_S_uint8 ∧
      Blk W' b5 [.func (.func Tryd.n_bits_Bytes_1) #[] #[.pointer (some ⟨b4, 0, none⟩)]] Tryd.t_func_int)
    ?_ (hI.2 _ _ ?_ (Ext.refl _)) ?_ ?_ ⟨E8, BS, B4, B5⟩ ?_ ?_
  · rintro b rfl; exact BS.nb
  · rintro b rfl
    have := e8.size; have := e6.size; have := x7.size; have := e4.size; have := x5.size
    omega
  · intro x hx
    obtain ⟨k, _, rfl⟩ := List.mem_map.1 hx; rfl
  · rintro k W W' ⟨h1, h2, h3, h4⟩ e
    exact ⟨h1.nl E8.size e, h2.nl e, h3.nl e, h4.nl e⟩
  · rintro k x W1 hx ⟨hE, BS, B4, B5⟩ KR hKR
    refine ⟨Ext.refl _, fun w14 nl => ?_⟩
    have hE := hE.nl E8.size nl; have BS := BS.nl nl; have B4 := B4.nl nl; have B5 := B5.nl nl
    rw [List.getElem?_map, Option.map_eq_some_iff] at hx
    obtain ⟨m, hm1, rfl⟩ := hx
    obtain ⟨hk, hm2⟩ := List.getElem?_eq_some_iff.1 hm1
    simp only [List.getD_cons_zero]
    have hml : m < W.toNat := by
      have : m ∈ bitsOf ws := hm2 ▸ List.getElem_mem hk
      rw [bitsOf_may hm] at this
      exact List.mem_range.1 (List.mem_filter.1 this).1
    refine Tryd.ldB_func_int B5 rfl ?_
    refine v_func (by kernel_rfl) (Tryd.ok_bits_Bytes_1 (t0 := .int .i64 m) (t1 := .pointer (some ⟨b4, 0, none⟩)) ?_)
    unfold Tryd.F_bits_Bytes_1
    refine Tryd.ldB_S_uint8 (Blk.ext B4 (Ext.drew w14)) rfl ?_
    (first | refine s_p ?_ | refine s_c (by omega) ?_); (first | refine s_p ?_ | refine s_c (by omega) ?_)
    have hlen : (putAll (noB W) ((bitsOf ws).take k)).length = (W.toNat + 7) / 8 := by rw [putAll_length, noB, List.length_replicate]
    have hidx : m / 8 < (putAll (noB W) ((bitsOf ws).take k)).length := by rw [hlen]; omega
    rw [show 0 + ((m : Int) / 8).toNat = m / 8 by omega]
    refine Tryd.ldB_uint8 (Blk.ext BS (Ext.drew w14)) (getD_map8 hidx) ?_
    (first | refine s_p ?_ | refine s_c (by omega) ?_)
    refine p_bit8 (by omega) (p_or88 ?_)
    (first | refine s_p ?_ | refine s_c (by omega) ?_)
    rw [show 0 + ((m : Int) / 8).toNat = m / 8 by omega, show ((m : Int) % 8).toNat = m % 8 by omega]
    refine Tryd.st_uint8 (Blk.ext BS (Ext.drew w14)) (by simpa using hidx) rfl fun w15 x15 s15 BS' => ?_
    have x15' : ExtBut (fun b => b = bS) w14 w15 := ExtBut.trans (ExtBut.of_ext (Ext.drew w14)) x15
    refine ⟨NC.of_b BS x15', x15', hKR _ ⟨hE.but x15' (by intro k hk; omega), ?_, B4.but x15' (by omega), B5.but x15' (by omega)⟩⟩
    have : List.take (k + 1) (bitsOf ws) = (bitsOf ws).take k ++ [m] := by rw [List.take_succ_eq_append_getElem hk, hm2]
    rw [this, putAll_snoc, putB, List.map_set]
    exact BS'
  · rintro W1 ⟨hE, BS, B4, B5⟩
    rw [List.length_map, List.take_length] at BS
    refine Tryd.ldB_S_uint8 B4 rfl ?_
    have hlen : ((W + 7) / 8).toNat = ((bytesOf W ws).map UInt8.ofBitVec).length := by rw [List.length_map, bytesOf_length]; omega
    rw [hlen]
    refine q_str (by kernel_rfl) (by kernel_rfl) (by rw [u8_map]; exact Sl.blk BS) ?_
    intro w17 sh
    exact h2 hm _ (Ext.shut hE sh)

theorem c_bits_Read {w : World} {W : Int} {s : ByteArray} {K : Value → World → Prop}
    (h1 : ¬ (0 ≤ W ∧ W ≤ 1032) → ∀ w', Ext w w' → K (.tuple #[row0, .int .i64 0, err 2]) w')
    (h2 : 0 ≤ W → W ≤ 1032 → ∀ i, readR W s = .inl i → ∀ w', Ext w w' → K (.tuple #[row0, .int .i64 (i : Int), err 10]) w')
    (h3 : 0 ≤ W → W ≤ 1032 → ∀ ws, readR W s = .inr ws → ∀ v w', Ext w w' → FreshRow w' w.heap.size v W ws → K (.tuple #[v, .int .i64 0, err 0]) w')
    (hs : s.size < 9223372036854775807) : oCall Tryd.prog Tryd.n_bits_Read #[.int .i64 W, .string s] w K := by
  refine Tryd.ok_bits_Read ?_
  unfold Tryd.F_bits_Read
  refine Tryd.al_Row fun b4 w1 hb4 e1 s1 B4 => ?_
  refine c_bits_New (fun hn w2 e2 => ?_) (fun h0 h1032 v2 w2 e2 hf => ?_)
  · have B4 := B4.ext e2
    (repeat (first | refine s_p ?_ | refine s_c (by omega) ?_))
    refine Tryd.stB_Row B4 rfl rfl (by simp [Value.oneCell']) fun w3 x3 s3 B4 => ?_
    (first | refine s_p ?_ | refine s_c (by omega) ?_)
    refine c_T ?_
    refine p_build (cs := #[.int .i64 0, .slice none 0 0]) (by kernel_rfl) ?_
    refine Tryd.stB_Row B4 rfl rfl (by simp [Value.oneCell']) fun w4 x4 s4 B4 => ?_
    refine Tryd.ce_Row B4 rfl ?_
    exact h1 hn _ (((e1.trans e2).but x3 (by intro k hk; omega)).but x4 (by intro k hk; omega))
  obtain ⟨p2, cap2, rfl, hw2⟩ := hf
  have B4 := B4.ext e2
  have E2 := e1.trans e2
  (repeat (first | refine s_p ?_ | refine s_c (by omega) ?_))
  refine Tryd.stB_Row B4 rfl rfl (by simp [Value.oneCell']) fun w3 x3 s3 B4' => ?_
  have hw3 := hw2.butT B4 (by decide) x3
  have E3 : Ext w w3 := E2.but x3 (by intro k hk; omega)
  have hszl : (zeros W).length = (W.toNat + 63) / 64 := by rw [zeros, List.length_replicate]
  (first | refine s_p ?_ | refine s_c (by omega) ?_)
  refine c_F ?_
  (first | refine s_p ?_ | refine s_c (by omega) ?_); (first | refine s_p ?_ | refine s_c (by omega) ?_); (first | refine s_p ?_ | refine s_c (by omega) ?_)
  refine p_min (a := (W + 7) / 8) (b := (s.size : Int)) ?_
  generalize hn : (W.toNat + 7) / 8 = n
  rw [show min ((W + 7) / 8) (s.size : Int) = ((min n s.size : Nat) : Int) by omega]
  -- what stands in memory while the bits are read
  let Inv : List Int → World → Prop := fun l w' => Ext w w' ∧ Blk w' b4 [.int .i64 W, .slice p2 (zeros W).length cap2] Tryd.t_Row ∧ Words w' w1.heap.size p2 cap2 (turnAll (fun x y => x ||| y) (zeros W) l)
  have bad : ∀ l w', Inv l w' → ∀ i : Nat, readR W s = .inl i → opP Tryd.prog (Instr.build Tryd.t_Row #[]) fun t70 => opU Tryd.prog w' (Instr.storeAt Tryd.t_Row (.pointer (some ⟨b4, 0, none⟩)) t70) fun w21 =>
      opQ Tryd.prog w21 (cellSem Tryd.t_Row (.pointer (some ⟨b4, 0, none⟩))) fun r22 => K (.tuple #[r22, .int .i64 (i : Int), (Value.int .i64 10)]) w21 := by
    rintro l w' ⟨E, B, _⟩ i hi
    refine p_build (cs := #[.int .i64 0, .slice none 0 0]) (by kernel_rfl) ?_
    refine Tryd.stB_Row B rfl rfl (by simp [Value.oneCell']) fun w4 x4 s4 B => ?_
    refine Tryd.ce_Row B rfl ?_
    exact h2 h0 h1032 i hi _ (E.but x4 (by intro k hk; omega))
  refine l_intro (ι := Nat) (fun i => [.int .i64 i])
    (fun i w' => i ≤ min n s.size ∧ (∀ j, j < i → badB W s j = false) ∧ Inv (sL s (8 * i)) w')
    (fun i => min n s.size - i) 0 rfl ⟨Nat.zero_le _, fun j hj => absurd hj (Nat.not_lt_zero _), E3, B4', hw3⟩ ?_
  rintro i d w7 ⟨hi, hgood, hinv⟩ K6 hK6
  simp only [List.getD_cons_zero]
  (first | refine s_p ?_ | refine s_c (by omega) ?_)
  refine c_if (fun hlt => ?_) (fun hge => ?_)
  · have hlt : i < min n s.size := by omega
    refine l_intro (ι := Nat) (fun k => [.int .i64 k])
      (fun k w' => k ≤ 8 ∧ (∀ j, j < k → sbit s (8 * i + j) = true → ((8 * i + j : Nat) : Int) < W) ∧ Inv (sL s (8 * i + k)) w')
      (fun k => 8 - k) 0 rfl ⟨Nat.zero_le _, fun j hj => absurd hj (Nat.not_lt_zero _), hinv⟩ ?_
    clear hinv
    rintro k d w8 ⟨hk, hok, hinv⟩ K10 hK10
    simp only [List.getD_cons_zero]
    (first | refine s_p ?_ | refine s_c (by omega) ?_)
    refine c_if (fun hk8 => ?_) (fun hk8 => ?_)
    · have hk8 : k < 8 := by omega
      intro K14 hK14
      refine p_byteN (by kernel_rfl) (by omega) ?_
      refine p_bit8N (p_and88 ?_)
      (first | refine s_p ?_ | refine s_c (by omega) ?_)
      have hbit := and_bit8 s[i].toBitVec k hk8
      rw [← sbit_at (by omega) hk8] at hbit
      refine c_if (fun hz => ?_) (fun hz => ?_)
      · have hb : sbit s (8 * i + k) = false := hbit.1 (by omega)
        refine hK14 _ _ (fun _ => ?_)
        (first | refine s_p ?_ | refine s_c (by omega) ?_)
        have hinv' : Inv (sL s (8 * i + (k + 1))) w8.drew := by
          obtain ⟨q1, q2, q3⟩ := hinv
          rw [show 8 * i + (k + 1) = 8 * i + k + 1 by omega, sL_succ, hb]
          exact ⟨q1.trans (Ext.drew _), q2.ext (Ext.drew _), q3.ext (Ext.drew _)⟩
        refine hK10 (k + 1) _ ⟨hk8, ?_, hinv'⟩ (by omega)
        intro j hj hbj
        rcases Nat.lt_or_ge j k with h | h
        · exact hok j h hbj
        · rw [show j = k by omega, hb] at hbj; cases hbj
      · have hb : sbit s (8 * i + k) = true := by
          cases hb : sbit s (8 * i + k) with
          | true => rfl
          | false => exact absurd (hbit.2 hb) (by omega)
        (repeat (first | refine s_p ?_ | refine s_c (by omega) ?_))
        refine c_if (fun hge => ?_) (fun hge => ?_)
        · refine bad (sL s (8 * i + k)) _ ?_ i ?_
          · obtain ⟨q1, q2, q3⟩ := hinv
            exact ⟨q1.trans (Ext.drew _), q2.ext (Ext.drew _), q3.ext (Ext.drew _)⟩
          · have hbad : badB W s i = true := by
              rw [badB, List.any_eq_true]
              exact ⟨k, List.mem_range.2 hk8, by rw [hb]; simp; omega⟩
            simp only [readR, hn, find_range hlt hbad hgood]
        · have hlw : 8 * (i : Int) + k < W := by omega
          obtain ⟨q1, q2, q3⟩ := hinv
          have q1 := (q1.trans (Ext.drew w8)).trans (Ext.drew w8.drew)
          have q2 := (q2.ext (Ext.drew w8)).ext (Ext.drew w8.drew)
          have q3 := (q3.ext (Ext.drew w8)).ext (Ext.drew w8.drew)
          have hall : AllIn W (sL s (8 * i + k)) := by
            refine sL_le fun m hm hbm => ?_
            omega
          have hlen : (turnAll (fun x y => x ||| y) (zeros W) (sL s (8 * i + k))).length = (W.toNat + 63) / 64 := by rw [turnAll_length, hszl]
          have hidx : (8 * i + k) / 64 < (turnAll (fun x y => x ||| y) (zeros W) (sL s (8 * i + k))).length := by rw [hlen]; omega
          obtain ⟨bw, cw, rfl, hbw, Bw, hcw, hset⟩ := q3.get hidx
          (first | refine s_p ?_ | refine s_c (by omega) ?_); refine Tryd.ldB_S_uint64 q2 rfl ?_; (first | refine s_p ?_ | refine s_c (by omega) ?_); (first | refine s_p ?_ | refine s_c (by omega) ?_); (first | refine s_p ?_ | refine s_c (by omega) ?_); (first | refine s_p ?_ | refine s_c (by omega) ?_)
          have hix : ((8 * (i : Int) + k) / 64).toNat = (8 * i + k) / 64 := by omega
          rw [hix, Nat.zero_add]
          refine Tryd.ldB_uint64 Bw hcw ?_
          (first | refine s_p ?_ | refine s_c (by omega) ?_); (first | refine s_p ?_ | refine s_c (by omega) ?_); (first | refine s_p ?_ | refine s_c (by omega) ?_)
          refine p_shl64 (by omega) ?_
          refine p_or64 ?_
          rw [of64]
          (first | refine s_p ?_ | refine s_c (by omega) ?_)
          rw [hix, Nat.zero_add]
          refine Tryd.st_uint64 Bw (lt_of_some hcw) rfl fun w9 x9 s9 Bw9 => ?_
          refine hK14 _ _ (fun _ => ?_)
          (first | refine s_p ?_ | refine s_c (by omega) ?_)
          have hb4 : b4 ≠ bw := by
            rintro rfl
            have := Bw.symm.trans q2; simp only [Option.some.injEq, Obj.cells.injEq] at this
            have := this.2.1; cases this
          refine hK10 (k + 1) w9 ⟨hk8, ?_, ?_⟩ (by omega)
          · intro j hj hbj
            rcases Nat.lt_or_ge j k with h | h
            · exact hok j h hbj
            · rw [show j = k by omega]; omega
          · refine ⟨q1.but x9 (by intro k hk; omega), q2.but x9 hb4, ?_⟩
            rw [show 8 * i + (k + 1) = 8 * i + k + 1 by omega, sL_succ, hb, if_pos rfl, turnAll_snoc]
            have hx := hset w9 _ Bw9
            unfold turnW
            rw [show (((8 * i + k : Nat) : Int)).toNat = 8 * i + k by omega, List.getD_eq_getElem?_getD, List.getElem?_eq_getElem hidx]
            rw [show ((8 * (i : Int) + k) % 64).toNat = (8 * i + k) % 64 by omega] at hx
            exact hx
    · have hk' : k = 8 := by omega
      subst hk'
      (first | refine s_p ?_ | refine s_c (by omega) ?_)
      refine hK6 (i + 1) w8 ⟨hlt, ?_, ?_⟩ (by omega)
      · intro j hj
        rcases Nat.lt_or_ge j i with h | h
        · exact hgood j h
        · have hji : j = i := by omega
          subst hji
          rw [badB, List.any_eq_false]
          intro m hm
          have hm := List.mem_range.1 hm
          cases hb : sbit s (8 * j + m) with
          | false => simp
          | true => have := hok m hm hb; simp; omega
      · rw [show 8 * (i + 1) = 8 * i + 8 by omega]; exact hinv
  · have hi' : i = min n s.size := by omega
    (first | refine s_p ?_ | refine s_c (by omega) ?_); (first | refine s_p ?_ | refine s_c (by omega) ?_)
    have hfn := find_none hgood
    rw [hi'] at hfn
    refine c_if (fun hne => ?_) (fun hne => ?_)
    · have hne' : ¬ s.size = n := by omega
      have hrd : readR W s = .inl (min n s.size) := by simp only [readR, hn, hfn, hne', if_false]
      refine p_build (cs := #[.int .i64 0, .slice none 0 0]) (by kernel_rfl) ?_
      (first | refine s_p ?_ | refine s_c (by omega) ?_)
      refine p_min (a := (W + 7) / 8) (b := (s.size : Int)) ?_
      rw [show min ((W + 7) / 8) (s.size : Int) = ((min n s.size : Nat) : Int) by omega]
      obtain ⟨q1, q2, q3⟩ := hinv
      refine Tryd.stB_Row q2 rfl rfl (by simp [Value.oneCell']) fun w9 x9 s9 B9 => ?_
      refine Tryd.ce_Row B9 rfl ?_
      exact h2 h0 h1032 _ hrd _ (q1.but x9 (by intro k hk; omega))
    · have hne' : s.size = n := by omega
      have hall : ∀ k, k < 8 * n → sbit s k = true → (k : Int) < W := by
        intro k hk hb
        have h1 := hgood (k / 8) (by omega)
        rw [badB, List.any_eq_false] at h1
        have h2 := h1 (k % 8) (List.mem_range.2 (by omega))
        rw [show 8 * (k / 8) + k % 8 = k by omega, hb] at h2
        simp at h2; exact h2
      have hrd : readR W s = .inr (turnAll (fun x y => x ||| y) (zeros W) (sL s W.toNat)) := by
        rw [hne'] at hfn; simp only [readR, hn, hne', hfn, if_true]; rfl
      have he : sL s (8 * i) = sL s W.toNat := sL_end (by omega) (fun k hk hb => hall k (by omega) hb)
      obtain ⟨q1, q2, q3⟩ := hinv
      rw [he] at q3
      refine Tryd.ldB_Row q2 rfl ?_
      refine Tryd.stB_Row q2 rfl rfl (by simp [Value.oneCell']) fun w9 x9 s9 B9 => ?_
      refine Tryd.ce_Row B9 rfl ?_
      refine h3 h0 h1032 _ hrd _ _ (q1.but x9 (by intro k hk; omega)) ⟨p2, cap2, ?_, (q3.butT q2 (by decide) x9).mono e1.size⟩
      rw [turnAll_length]
end Go.Proofs
end

section
namespace Go.Proofs

open Go.Sh Go.BM

set_option maxRecDepth 100000

theorem own_ext {w w' : World} {base : Nat} {e : TypeId} {size : Nat} {v : Value} {n : Nat} {xs : List Value} (h : w.ownsRow base e size v n xs) (E : Ext w w') : w'.ownsRow base e size v n xs := by
  rcases h with ⟨hl, h⟩
  refine ⟨hl, h.imp id ?_⟩
  rintro ⟨g, cap, cur, h1, h2, h3, h4⟩
  exact ⟨g, cap, cur, h1, h2, (E.block g (Array.getElem?_eq_some_iff.1 h3).1).trans h3, h4⟩
theorem own_words {w : World} {base : Nat} {v : Value} {n : Nat} {ws : List (BitVec 64)} (h : w.ownsRow base Tryd.t_uint64 1 v n (ws.map u64)) (hn : n = ws.length) : ∃ p cap, v = .slice p ws.length cap ∧ Words w base p cap ws := by
  subst hn
  rcases own_blk h with ⟨rfl, h1, h2⟩ | ⟨g, cap, c, rfl, hg, B, h1, h2, h3, h4⟩
  · have : ws = [] := by simpa using h2
    subst this
    exact ⟨none, 0, rfl, fun _ => rfl, Nat.le_refl _, .inl rfl⟩
  · exact ⟨_, _, rfl, by simp, h1, .inr ⟨g, c, rfl, hg, B, by simpa using h4⟩⟩
theorem own_sl {w : World} {base : Nat} {e : TypeId} {v : Value} {n : Nat} {xs : List Value} (h : w.ownsRow base e 1 v n xs) : ∃ p cap, v = .slice p n cap ∧ Sl w p xs ∧ (p = none → cap = 0) ∧ n ≤ cap ∧ xs.length = n := by
  have hl := h.1
  rcases own_blk h with ⟨rfl, rfl, rfl⟩ | ⟨g, cap, c, rfl, hg, B, h1, h2, h3, h4⟩
  · exact ⟨none, 0, rfl, Sl.nil _ _, fun _ => rfl, Nat.le_refl _, rfl⟩
  · refine ⟨_, _, rfl, ?_, by simp, h1, by simpa using hl⟩
    rw [← h4]; exact (Sl.blk B).take _
theorem own_sl' {w : World} {base : Nat} {e : TypeId} {n : Nat} {xs : List Value} {p : Option Addr} {m cap : Nat} (h : w.ownsRow base e 1 (.slice p m cap) n xs) : m = n ∧ Sl w p xs ∧ (p = none → cap = 0) ∧ n ≤ cap := by
  obtain ⟨p', cap', h1, h2, h3, h4, _⟩ := own_sl h
  cases h1; exact ⟨rfl, h2, h3, h4⟩

theorem c_ref01_Is {w : World} {v : Value} {W : Int} {ws : List (BitVec 64)} {k : Nat} {K : Value → World → Prop} (hr : RowV w v W ws) (hk : k < 64 * ws.length) (hs : ws.length < 100000)
    (h : ∀ w', Ext w w' → K (.bool (bit ws k)) w') : oCall Tryd.prog Tryd.n_ref01_Is #[v, .int .i64 (k : Int)] w K := by
  refine Tryd.ok_ref01_Is ?_
  unfold Tryd.F_ref01_Is
  obtain ⟨p, cap, rfl, hS, hp, hcap⟩ := hr
  refine w_box fun b w1 hb e1 s1 B => ?_
  have hlt : k / 64 < ws.length := by omega
  have hlt' : k / 64 < (ws.map u64).length := by rw [List.length_map]; omega
  obtain ⟨b', off, rfl, hc⟩ := hS.at hlt'
  have hc := cell_ext hc e1
  (first | refine s_p ?_ | refine s_c (by omega) ?_); refine Tryd.ldB_S_uint64 B rfl ?_; (first | refine s_p ?_ | refine s_c (by omega) ?_); (first | refine s_p ?_ | refine s_c (by omega) ?_)
  rw [show ((k : Int) / 64).toNat = k / 64 by omega]
  refine Tryd.ld_uint64 hc ?_
  rw [List.getElem_map]
  (repeat (first | refine s_p ?_ | refine s_c (by omega) ?_))
  have hq := shr_and_one ws[k / 64] (k % 64)
  have hb' : bit ws k = ws[k / 64].getLsbD (k % 64) := by simp [bit, List.getD_eq_getElem?_getD, hlt]
  have := h _ e1
  rw [show bit ws k = decide ((((ws[k / 64] >>> (k % 64)) &&& BitVec.ofInt 64 1).toNat : Int) = 1) by simp only [hb', hq]; simp] at this
  rw [show ((k : Int) % 64).toNat = k % 64 by omega]
  exact this

theorem c_ref01_May {w : World} {v : Value} {W : Int} {ws : List (BitVec 64)} {K : Value → World → Prop} (hr : RowV w v W ws)
    (h : ∀ w', Ext w w' → K (.bool (mayB W ws)) w') : oCall Tryd.prog Tryd.n_ref01_May #[v] w K := by
  obtain ⟨p, cap, rfl, hS, hp, hcap⟩ := hr
  refine Tryd.ok_ref01_May ?_
  unfold Tryd.F_ref01_May
  refine w_box fun b w1 hb e1 s1 B => ?_
  (first | refine s_p ?_ | refine s_c (by omega) ?_); refine Tryd.ldB_int B rfl ?_; (repeat (first | refine s_p ?_ | refine s_c (by omega) ?_))
  refine j_or (fun h0 => ?_) (fun h0 => ?_)
  · refine j_orB (fun _ => ?_) (fun hn => by cases hn)
    refine c_T ?_
    rw [mayB_false (fun hm => by have := hm.1; omega)] at h
    exact h _ e1
  intro K2 hK2
  (first | refine s_p ?_ | refine s_c (by omega) ?_); refine Tryd.ldB_int B rfl ?_; (repeat (first | refine s_p ?_ | refine s_c (by omega) ?_))
  refine hK2 _ _ ?_; clear hK2 K2
  refine j_or (fun h1 => ?_) (fun h1 => ?_)
  · refine c_T ?_
    rw [mayB_false (fun hm => by have := hm.2.1; omega)] at h
    exact h _ e1
  intro K3 hK3
  (first | refine s_p ?_ | refine s_c (by omega) ?_); refine Tryd.ldB_S_uint64 B rfl ?_; (repeat (first | refine s_p ?_ | refine s_c (by omega) ?_)); refine Tryd.ldB_int B rfl ?_; (repeat (first | refine s_p ?_ | refine s_c (by omega) ?_))
  refine hK3 _ _ ?_; clear hK3 K3
  refine c_if (fun h2 => ?_) (fun h2 => ?_)
  · rw [mayB_false (fun hm => by have := hm.2.2.1; omega)] at h
    exact h _ e1
  have h2 : (ws.length : Int) = (W + 63) / 64 := by omega
  (first | refine s_p ?_ | refine s_c (by omega) ?_); refine Tryd.ldB_int B rfl ?_
  refine l_intro (ι := Nat) (fun i => [.int .i64 i])
    (fun i w' => W.toNat ≤ i ∧ i ≤ 64 * ws.length ∧ w' = w1 ∧ ∀ j, W.toNat ≤ j → j < i → bit ws j = false)
    (fun i => 64 * ws.length - i) W.toNat (by rw [Int.toNat_of_nonneg (by omega)]) ⟨Nat.le_refl _, by omega, rfl, fun j h1 h2 => by omega⟩ ?_
  rintro i d w' ⟨hi, hi2, rfl, hgood⟩ K4 hK4
  simp only [List.getD_cons_zero]
  (first | refine s_p ?_ | refine s_c (by omega) ?_); refine Tryd.ldB_S_uint64 B rfl ?_; (repeat (first | refine s_p ?_ | refine s_c (by omega) ?_))
  refine c_if (fun hlt => ?_) (fun hge => ?_)
  · have hlt : i < 64 * ws.length := by omega
    have hlt' : i / 64 < (ws.map u64).length := by rw [List.length_map]; omega
    obtain ⟨b', off, rfl, hc⟩ := hS.at hlt'
    have hc := cell_ext hc e1
    (first | refine s_p ?_ | refine s_c (by omega) ?_); refine Tryd.ldB_S_uint64 B rfl ?_; (first | refine s_p ?_ | refine s_c (by omega) ?_); (first | refine s_p ?_ | refine s_c (by omega) ?_)
    rw [show ((i : Int) / 64).toNat = i / 64 by omega]
    refine Tryd.ld_uint64 hc ?_
    rw [List.getElem_map]
    (repeat (first | refine s_p ?_ | refine s_c (by omega) ?_))
    have hlt2 : i / 64 < ws.length := by omega
    have hq := shr_and_one ws[i / 64] (i % 64)
    have hb' : bit ws i = ws[i / 64].getLsbD (i % 64) := by simp [bit, List.getD_eq_getElem?_getD, hlt2]
    rw [← hb'] at hq
    rw [show ((i : Int) % 64).toNat = i % 64 by omega]
    refine c_if (fun hz => ?_) (fun hz => ?_)
    · rw [mayB_false (fun hm => by have := hm.2.2.2 i (by omega) hlt; rw [hq.1 hz] at this; cases this)] at h
      exact h _ e1
    · (first | refine s_p ?_ | refine s_c (by omega) ?_)
      refine hK4 (i + 1) _ ⟨by omega, hlt, rfl, fun j h1 h2 => ?_⟩ (by omega)
      rcases Nat.lt_or_ge j i with h3 | h3
      · exact hgood j h1 h3
      · rw [show j = i by omega]
        cases hb : bit ws i with
        | false => rfl
        | true => exact absurd (hq.2 hb) hz
  · rw [mayB_true ⟨by omega, by omega, h2, fun k h3 h4 => hgood k (by omega) (by omega)⟩] at h
    exact h _ e1

theorem c_ref01_None {w : World} {W : Int} {K : Value → World → Prop} (h0 : 0 ≤ W) (h1 : W ≤ 1032)
    (h : ∀ v w', Ext w w' → FreshRow w' w.heap.size v W (zeros W) → K v w') : oCall Tryd.prog Tryd.n_ref01_None #[.int .i64 W] w K := by
  refine Tryd.ok_ref01_None ?_
  unfold Tryd.F_ref01_None
  refine Tryd.al_Row fun b w1 hb e1 s1 B => ?_
  (repeat (first | refine s_p ?_ | refine s_c (by omega) ?_))
  refine Tryd.mk_S_uint64 (by omega) (by omega) fun b2 w2 hb2 e2 s2 B2 => ?_
  refine p_build (cs := #[.int .i64 W, .slice (some ⟨b2, 0, none⟩) ((W + 63) / 64).toNat ((W + 63) / 64).toNat]) (by kernel_rfl) ?_
  refine Tryd.stB_Row (B.ext e2) rfl rfl (by simp [Value.oneCell']) fun w3 x3 s3 B3 => ?_
  refine Tryd.ce_Row B3 rfl ?_
  have hl : ((W + 63) / 64).toNat = (zeros W).length := by simp only [zeros, List.length_replicate]; omega
  refine h _ _ ((e1.trans e2).but x3 (by intro k hk; omega)) ⟨some ⟨b2, 0, none⟩, _, by rw [hl], by simp, Nat.le_refl _, .inr ⟨b2, _, rfl, by have := e1.size; omega, B2.but x3 (by omega), ?_⟩⟩
  rw [hl, List.take_of_length_le (by simp), zeros, List.map_replicate, List.length_replicate]
  rfl

theorem c_ref01_Own {w : World} {v : Value} {W : Int} {ws : List (BitVec 64)} {K : Value → World → Prop} (hr : RowV w v W ws) (hw : ws.length * 8 ≤ 140737488355328)
    (h : ∀ v' w', Ext w w' → FreshRow w' w.heap.size v' W ws → K v' w') : oCall Tryd.prog Tryd.n_ref01_Own #[v] w K := by
  refine Tryd.ok_ref01_Own ?_
  unfold Tryd.F_ref01_Own
  obtain ⟨p, cap, rfl, hS, hp, hcap⟩ := hr
  refine w_box fun b1 w1 hb1 e1 s1 B1 => ?_
  refine Tryd.al_Row fun b2 w2 hb2 e2 s2 B2 => ?_
  have B1 := B1.ext e2
  (first | refine s_p ?_ | refine s_c (by omega) ?_); refine Tryd.ldB_int B1 rfl ?_
  refine p_build (cs := #[.int .i64 W, .slice none 0 0]) (by kernel_rfl) ?_
  refine Tryd.al_Row fun b3 w3 hb3 e3 s3 B3 => ?_
  have B1 := B1.ext e3; have B2 := B2.ext e3
  refine Tryd.stB_Row B3 rfl rfl (by simp [Value.oneCell']) fun w4 x4 s4 B3 => ?_
  have B1 := B1.but x4 (by omega); have B2 := B2.but x4 (by omega)
  have E4 : Ext w w4 := ((e1.trans e2).trans e3).but x4 (by intro k hk; omega)
  (first | refine s_p ?_ | refine s_c (by omega) ?_); refine Tryd.ldB_S_uint64 B3 rfl ?_; (first | refine s_p ?_ | refine s_c (by omega) ?_); refine Tryd.ldB_S_uint64 B1 rfl ?_
  refine Tryd.ap_S_uint64 (World.ownsRow_nil w4 w.heap.size Tryd.t_uint64 1) (hS.ext E4) (by simp) hp (cells1 ws) (by omega) (by have := E4.size; omega) fun v5 w5 hown5 x5 hblk hnil => ?_
  have e5 : Ext w4 w5 := (Ext.refl w4).but x5 (by intro k hk; simp [Value.ownBlock] at hk)
  obtain ⟨p5, cap5, rfl, hw5⟩ := own_words (ws := ws) (by simpa using hown5) (by omega)
  have B3 := B3.ext e5; have B2 := B2.ext e5
  have E5 := E4.trans e5
  (first | refine s_p ?_ | refine s_c (by omega) ?_)
  refine Tryd.st_S_uint64 B3 (by simp) rfl fun w6 x6 s6 B3' => ?_
  have hw6 := hw5.butT B3 (by decide) x6
  have B2 := B2.but x6 (by omega)
  refine Tryd.ldB_Row B3' rfl ?_
  refine Tryd.stB_Row B2 rfl rfl (by simp [Value.oneCell']) fun w7 x7 s7 B2' => ?_
  refine Tryd.ce_Row B2' rfl ?_
  exact h _ _ ((E5.but x6 (by intro k hk; omega)).but x7 (by intro k hk; omega)) ⟨p5, cap5, rfl, hw6.butT B2 (by decide) x7⟩

theorem lack_some {W : Int} {ws vs : List (BitVec 64)} {k : Nat} (hk : k < W.toNat) (hb : (bit vs k && !bit ws k) = true) (h : ∀ j, j < k → (bit vs j && !bit ws j) = false) :
    ∃ l, lackL W ws vs = k :: l := by
  have hf := find_range hk hb h
  rw [← List.head?_filter] at hf
  cases hl : lackL W ws vs with
  | nil => rw [lackL] at hl; rw [hl] at hf; cases hf
  | cons x l => rw [lackL] at hl; rw [hl] at hf; cases hf; exact ⟨l, rfl⟩
theorem lack_none {W : Int} {ws vs : List (BitVec 64)} (h : ∀ j, j < W.toNat → (bit vs j && !bit ws j) = false) : lackL W ws vs = [] := by
  rw [lackL, List.filter_eq_nil_iff]; intro k hk; rw [h k (List.mem_range.1 hk)]; simp
theorem c_ref01_Same {w : World} {va vb : Value} {W W2 : Int} {ws vs : List (BitVec 64)} {K : Value → World → Prop} (hr : RowV w va W ws) (hq : RowV w vb W2 vs) (hlen : ws.length < 9223372036854775807)
    (h : ∀ w', Ext w w' → K (.bool (decide (W = W2 ∧ ws = vs))) w') : oCall Tryd.prog Tryd.n_ref01_Same #[va, vb] w K := by
  refine Tryd.ok_ref01_Same ?_
  unfold Tryd.F_ref01_Same
  obtain ⟨p, cap, rfl, hS, hp, hcap⟩ := hr
  obtain ⟨p', cap', rfl, hS', hp', hcap'⟩ := hq
  refine w_box fun b1 w1 hb1 e1 s1 B1 => ?_
  refine w_box fun b2 w2 hb2 e2 s2 B2 => ?_
  have B1 := B1.ext e2
  have E2 := e1.trans e2
  (first | refine s_p ?_ | refine s_c (by omega) ?_); refine Tryd.ldB_int B1 rfl ?_; (first | refine s_p ?_ | refine s_c (by omega) ?_); refine Tryd.ldB_int B2 rfl ?_; (first | refine s_p ?_ | refine s_c (by omega) ?_)
  refine j_or (fun hn => ?_) (fun hn => ?_)
  · refine c_T ?_
    have := h _ E2; rw [decide_eq_false (fun hh => hn hh.1)] at this; exact this
  have hW : W = W2 := by omega
  intro K3 hK3
  (first | refine s_p ?_ | refine s_c (by omega) ?_); refine Tryd.ldB_S_uint64 B1 rfl ?_; (first | refine s_p ?_ | refine s_c (by omega) ?_); (first | refine s_p ?_ | refine s_c (by omega) ?_); refine Tryd.ldB_S_uint64 B2 rfl ?_; (first | refine s_p ?_ | refine s_c (by omega) ?_); (first | refine s_p ?_ | refine s_c (by omega) ?_)
  refine hK3 _ _ ?_; clear hK3 K3
  refine c_if (fun hn2 => ?_) (fun hn2 => ?_)
  · have := h _ E2; rw [decide_eq_false (fun hh => hn2 (by rw [hh.2]))] at this; exact this
  have hl : ws.length = vs.length := by omega
  refine l_intro (ι := Nat) (fun i => [.int .i64 i]) (fun i w' => i ≤ ws.length ∧ Ext w w' ∧ Blk w' b1 [.int .i64 W, .slice p ws.length cap] Tryd.t_Row ∧ Blk w' b2 [.int .i64 W2, .slice p' vs.length cap'] Tryd.t_Row ∧
      ∀ j (h1 : j < ws.length) (h2 : j < vs.length), j < i → ws[j] = vs[j])
    (fun i => ws.length - i) 0 rfl ⟨Nat.zero_le _, E2, B1, B2, fun j _ _ hj => absurd hj (Nat.not_lt_zero _)⟩ ?_
  rintro i d w3 ⟨hi, E3, B1, B2, hno⟩ K3 hK3
  simp only [List.getD_cons_zero]
  (first | refine s_p ?_ | refine s_c (by omega) ?_); refine Tryd.ldB_S_uint64 B1 rfl ?_; (first | refine s_p ?_ | refine s_c (by omega) ?_); (first | refine s_p ?_ | refine s_c (by omega) ?_)
  refine c_if (fun hlt => ?_) (fun hge => ?_)
  · have hlt : i < ws.length := by omega
    have hlt2 : i < vs.length := by omega
    have E4 := E3.trans (Ext.drew w3)
    have B1 := B1.ext (Ext.drew w3); have B2 := B2.ext (Ext.drew w3)
    obtain ⟨ba, oa, rfl, hca⟩ := (hS.ext E4).at (i := i) (by simpa using hlt)
    obtain ⟨bb, ob, rfl, hcb⟩ := (hS'.ext E4).at (i := i) (by simpa using hlt2)
    (first | refine s_p ?_ | refine s_c (by omega) ?_); refine Tryd.ldB_S_uint64 B1 rfl ?_; (first | refine s_p ?_ | refine s_c (by omega) ?_)
    refine Tryd.ld_uint64 (v := u64 ws[i]) (by simpa using hca) ?_
    (first | refine s_p ?_ | refine s_c (by omega) ?_); refine Tryd.ldB_S_uint64 B2 rfl ?_; (first | refine s_p ?_ | refine s_c (by omega) ?_)
    refine Tryd.ld_uint64 (v := u64 vs[i]) (by simpa using hcb) ?_
    (first | refine s_p ?_ | refine s_c (by omega) ?_)
    refine c_if (fun hne => ?_) (fun hne => ?_)
    · have := h _ E4; rw [decide_eq_false (fun hh => hne (by have := hh.2; subst this; rfl))] at this; exact this
    · (first | refine s_p ?_ | refine s_c (by omega) ?_)
      have heq : ws[i] = vs[i] := BitVec.eq_of_toNat_eq (by omega)
      refine hK3 (i + 1) _ ⟨hlt, E4, B1, B2, fun j h1 h2 hj => ?_⟩ (by omega)
      rcases Nat.lt_or_ge j i with h3 | h3
      · exact hno j h1 h2 h3
      · have : j = i := by omega
        subst this; exact heq
  · have := h _ E3
    rw [decide_eq_true ⟨hW, List.ext_getElem hl fun j h1 h2 => hno j h1 h2 (by omega)⟩] at this; exact this

theorem c_ref01_Bytes {w : World} {v : Value} {W : Int} {ws : List (BitVec 64)} {K : Value → World → Prop} (hr : RowV w v W ws) (hm : May W ws)
    (h : ∀ w', Ext w w' → K (.string (strOf (bytesOf W ws))) w') : oCall Tryd.prog Tryd.n_ref01_Bytes #[v] w K := by
  refine Tryd.ok_ref01_Bytes ?_
  unfold Tryd.F_ref01_Bytes
  have hr0 := hr
  obtain ⟨p, cap, rfl, hS, hp, hcap⟩ := hr
  have l1 := hm.2.2.1; have l3 := hm.2.1; have l4 := hm.1
  refine w_box fun b1 w1 hb1 e1 s1 B1 => ?_
  (first | refine s_p ?_ | refine s_c (by omega) ?_); refine Tryd.ldB_int B1 rfl ?_; (first | refine s_p ?_ | refine s_c (by omega) ?_); (first | refine s_p ?_ | refine s_c (by omega) ?_)
  refine Tryd.mk_S_uint8 (by omega) (by omega) fun bS w2 hbS e2 s2 BS => ?_
  have hrep : List.replicate ((W + 7) / 8).toNat (Value.int .u8 0) = (noB W).map u8 := by
    rw [noB, List.map_replicate, show ((W + 7) / 8).toNat = (W.toNat + 7) / 8 by omega]; rfl
  rw [hrep] at BS
  have B1 := B1.ext e2
  have E2 := e1.trans e2
  refine l_intro (ι := Nat) (fun i => [.int .i64 i]) (fun i w' => i ≤ W.toNat ∧ Ext w w' ∧ Blk w' b1 [.int .i64 W, .slice p ws.length cap] Tryd.t_Row ∧
      Blk w' bS ((putAll (noB W) ((List.range i).filter (bit ws))).map u8) Tryd.t_uint8)
    (fun i => W.toNat - i) 0 rfl ⟨Nat.zero_le _, E2, B1, BS⟩ ?_
  rintro i d w3 ⟨hi, E3, B1, BS⟩ K3 hK3
  simp only [List.getD_cons_zero]
  (first | refine s_p ?_ | refine s_c (by omega) ?_); refine Tryd.ldB_int B1 rfl ?_; (first | refine s_p ?_ | refine s_c (by omega) ?_)
  refine c_if (fun hlt => ?_) (fun hge => ?_)
  · have hlt : i < W.toNat := by omega
    intro K4 hK4
    refine Tryd.ldB_Row B1 rfl ?_
    refine c_ref01_Is (hr0.ext E3) (by omega) (by omega) fun w4 e4 => ?_
    have B1 := B1.ext e4; have BS := BS.ext e4
    have E4 := E3.trans e4
    have hstep : ∀ b : Bool, bit ws i = b → (List.range (i + 1)).filter (bit ws) = (List.range i).filter (bit ws) ++ (if b then [i] else []) := fun b hb => by
      rw [List.range_succ, List.filter_append, List.filter_cons, hb]; rfl
    refine c_b (fun hb => ?_) (fun hb => ?_)
    · (first | refine s_p ?_ | refine s_c (by omega) ?_); (first | refine s_p ?_ | refine s_c (by omega) ?_)
      have hlenb : (putAll (noB W) ((List.range i).filter (bit ws))).length = (W.toNat + 7) / 8 := by rw [putAll_length, noB, List.length_replicate]
      have hidx : i / 8 < (putAll (noB W) ((List.range i).filter (bit ws))).length := by rw [hlenb]; omega
      (first | refine s_p ?_ | refine s_c (by omega) ?_)
      rw [show 0 + ((i : Int) / 8).toNat = i / 8 by omega]
      refine Tryd.ldB_uint8 (Blk.ext BS (Ext.drew w4)) (getD_map8 hidx) ?_
      (first | refine s_p ?_ | refine s_c (by omega) ?_)
      refine p_bit8 (by omega) (p_or88 ?_)
      (first | refine s_p ?_ | refine s_c (by omega) ?_)
      rw [show 0 + ((i : Int) / 8).toNat = i / 8 by omega, show ((i : Int) % 8).toNat = i % 8 by omega]
      refine Tryd.st_uint8 (Blk.ext BS (Ext.drew w4)) (by simpa using hidx) rfl fun w5 x5 s5 BS' => ?_
      have x5' : ExtBut (fun b => b = bS) w4 w5 := ExtBut.trans (ExtBut.of_ext (Ext.drew w4)) x5
      refine hK4 _ _ (fun _ => ?_)
      (first | refine s_p ?_ | refine s_c (by omega) ?_)
      refine hK3 (i + 1) _ ⟨hlt, E4.but x5' (by intro k hk; omega), B1.but x5' (by omega), ?_⟩ (by omega)
      rw [hstep true hb, if_pos rfl, putAll_snoc, putB, List.map_set]
      exact BS'
    · refine hK4 _ _ (fun _ => ?_)
      (first | refine s_p ?_ | refine s_c (by omega) ?_)
      refine hK3 (i + 1) _ ⟨hlt, E4, B1, ?_⟩ (by omega)
      rw [hstep false hb, if_neg (by decide), List.append_nil]; exact BS
  · have hi' : i = W.toNat := by omega
    subst hi'
    rw [← bitsOf_may hm] at BS
    have hlen : ((W + 7) / 8).toNat = ((bytesOf W ws).map UInt8.ofBitVec).length := by rw [List.length_map, bytesOf_length]; omega
    rw [hlen]
    refine q_str (by kernel_rfl) (by kernel_rfl) (by rw [u8_map]; exact Sl.blk BS) ?_
    exact h _ E3
end Go.Proofs
end

section
namespace Go.Proofs

open Go.Sh Go.BM

set_option maxRecDepth 100000

theorem g_T {c want : Bool} {A B : Prop} (h : c = want) (a : A) : gIf (.bool c) want A B := by subst h; simp only [gIf, if_pos]; exact a
theorem g_N {c want : Bool} {A B : Prop} (h : c ≠ want) (b : B) : gIf (.bool c) want A B := by simp only [gIf, if_neg h]; exact b

def turnG (set : Bool) : BitVec 64 → BitVec 64 → BitVec 64 := if set then (fun x y => x ||| y) else (fun x y => x &&& ~~~ y)
theorem or_xor (x y : BitVec 64) : (x ||| y) ^^^ y = x &&& ~~~ y := by
  apply BitVec.eq_of_getLsbD_eq
  intro i hi
  rw [BitVec.getLsbD_xor, BitVec.getLsbD_or, BitVec.getLsbD_and, BitVec.getLsbD_not]
  cases x.getLsbD i <;> cases y.getLsbD i <;> simp [hi]

/-- what Or, And, Less make of two bits -/
def hB (how : Nat) (a b : Bool) : Bool := if how = 0 then (a || b) else if how = 1 then (a && b) else (a && !b)
def gW (how : Nat) : BitVec 64 → BitVec 64 → BitVec 64 := if how = 0 then (fun x y => x ||| y) else if how = 1 then (fun x y => x &&& y) else (fun x y => x &&& ~~~ y)
theorem gW_bit (how : Nat) (x y : BitVec 64) (j : Nat) (hj : j < 64) : (gW how x y).getLsbD j = hB how (x.getLsbD j) (y.getLsbD j) := by
  unfold gW hB
  split
  · exact or_bit x y j hj
  · split
    · exact and_bit x y j hj
    · exact less_bit x y j hj
theorem gW_zero (how : Nat) : gW how 0 0 = 0 := by unfold gW; split <;> (try split) <;> decide
theorem hB_zero (how : Nat) : hB how false false = false := by unfold hB; split <;> (try split) <;> rfl
def joinL (how : Nat) (ws vs : List (BitVec 64)) (k : Nat) : List Int := ((List.range k).filter fun j => hB how (bit ws j) (bit vs j)).map Int.ofNat
theorem join_all {how : Nat} {W : Int} {ws vs : List (BitVec 64)} (hm : May W ws) (hm' : May W vs) : turnAll (fun x y => x ||| y) (zeros W) (joinL how ws vs W.toNat) = List.zipWith (gW how) ws vs := by
  have hl : ws.length = vs.length := by have := hm.2.2.1; have := hm'.2.2.1; omega
  have hz : May W (zeros W) := may_zeros hm.1 hm.2.1
  have ha : AllIn W (joinL how ws vs W.toNat) := by
    intro k hk
    obtain ⟨m, hm1, rfl⟩ := List.mem_map.1 hk
    have h1 := List.mem_range.1 (List.mem_filter.1 hm1).1
    have h2 := hm.1
    exact ⟨Int.natCast_nonneg m, by show (m : Int) < W; omega⟩
  refine may_ext (may_turnAll (h := fun a b => a || b) or_bit (by simp) _ _ hz ha) (may_zip (gW_bit how) (gW_zero how) (hB_zero how) hm hm') fun k hk => ?_
  rw [bit_turnOr _ _ hz ha, bit_zip (gW_bit how) (gW_zero how) hl, zeros, bit_zeros, Bool.false_or]
  have hmem : ((k : Int) ∈ joinL how ws vs W.toNat) ↔ hB how (bit ws k) (bit vs k) = true := by
    constructor
    · intro h
      obtain ⟨m, hm1, hmk⟩ := List.mem_map.1 h
      have : m = k := Int.ofNat.inj hmk
      subst this; exact (List.mem_filter.1 hm1).2
    · intro h
      exact List.mem_map.2 ⟨k, List.mem_filter.2 ⟨List.mem_range.2 (by omega), h⟩, rfl⟩
  cases hb : hB how (bit ws k) (bit vs k) with
  | true => exact decide_eq_true (hmem.2 hb)
  | false => exact decide_eq_false (fun h => by rw [hmem.1 h] at hb; cases hb)

end Go.Proofs
end

section
namespace Go.Proofs

open Go.Sh Go.BM

set_option maxRecDepth 100000

end Go.Proofs
end

section
namespace Go.Proofs

open Go.Sh Go.BM

set_option maxRecDepth 100000

/-- a row laid into a new cell -/
theorem k_putRow {w : World} {K : Value → World → Prop} {v : Value} {W : Int} {p : Option Addr} {n cap : Nat} (hv : v = .agg #[.int .i64 W, .slice p n cap])
    (h : ∀ b w', b = w.heap.size → Ext w w' → w'.heap.size = w.heap.size + 1 → Blk w' b [.int .i64 W, .slice p n cap] Tryd.t_Row → K (.pointer (some ⟨b, 0, none⟩)) w') :
    opW Tryd.prog w (Instr.alloc Tryd.t_Row true (.tuple #[])) fun t w2 => opU Tryd.prog w2 (Instr.storeAt Tryd.t_Row t v) fun w3 => K t w3 := by
  subst hv
  refine Tryd.al_Row fun b w1 hb e1 s1 B => ?_
  refine Tryd.stB_Row B rfl rfl (by simp [Value.oneCell']) fun w2 x2 s2 B2 => ?_
  exact h b w2 hb (e1.but x2 (by intro k hk; omega)) (by omega) B2

theorem may70 : May 70 (turnAll (fun x y => x ||| y) (zeros 70) [0, 69]) :=
  may_turnAll (h := fun a b => a || b) or_bit (by simp) _ _ (may_zeros (by decide) (by decide)) (by intro k hk; simp at hk; omega)
theorem bytes70 : strOf (bytesOf 70 (turnAll (fun x y => x ||| y) (zeros 70) [0, 69])) = ⟨#[128, 0, 0, 0, 0, 0, 0, 0, 4]⟩ := by kernel_rfl
theorem count70 : (bitsOf (turnAll (fun x y => x ||| y) (zeros 70) [0, 69])).length = 2 := by kernel_rfl
theorem read70 : readR 10 ⟨#[128, 65]⟩ = .inl 1 := by kernel_rfl

/-! ### Rows with a mark in the spare room -/

def Lent (w : World) (n : Nat) (v : Value) (W : Int) (ws : List (BitVec 64)) : Prop :=
  ∃ g cap c, v = .agg #[.int .i64 W, .slice (some ⟨g, 0, none⟩) ws.length cap] ∧ n ≤ g ∧ Blk w g c Tryd.t_uint64 ∧ ws.length + 1 ≤ cap ∧ c.take (ws.length + 1) = (ws ++ [77#64]).map u64
theorem Lent.ext {w w' : World} {n : Nat} {v : Value} {W : Int} {ws : List (BitVec 64)} (h : Lent w n v W ws) (e : Ext w w') : Lent w' n v W ws := by
  obtain ⟨g, cap, c, h1, h2, h3, h4⟩ := h; exact ⟨g, cap, c, h1, h2, h3.ext e, h4⟩
theorem Lent.but {w w' : World} {S : Nat → Prop} {n m : Nat} {v : Value} {W : Int} {ws : List (BitVec 64)} (h : Lent w n v W ws) (e : ExtBut S w w') (hl : ∀ g cap, v = .agg #[.int .i64 W, .slice (some ⟨g, 0, none⟩) ws.length cap] → g < m) (hS : ∀ b, S b → m ≤ b) : Lent w' n v W ws := by
  obtain ⟨g, cap, c, h1, h2, h3, h4⟩ := h
  exact ⟨g, cap, c, h1, h2, h3.but e (fun hs => by have := hS _ hs; have := hl g cap h1; omega), h4⟩
theorem Lent.lt {w : World} {n : Nat} {v : Value} {W : Int} {ws : List (BitVec 64)} (h : Lent w n v W ws) : ∀ g cap, v = .agg #[.int .i64 W, .slice (some ⟨g, 0, none⟩) ws.length cap] → g < w.heap.size := by
  obtain ⟨g, cap, c, h1, h2, h3, h4⟩ := h
  intro g' cap' h'
  rw [h1] at h'
  cases h'; exact h3.lt
theorem Lent.shape {w : World} {n : Nat} {v : Value} {W : Int} {ws : List (BitVec 64)} (h : Lent w n v W ws) : ∃ p cap, v = .agg #[.int .i64 W, .slice p ws.length cap] := by
  obtain ⟨g, cap, c, h1, _⟩ := h; exact ⟨_, _, h1⟩
theorem Lent.row {w : World} {n : Nat} {v : Value} {W : Int} {ws : List (BitVec 64)} (h : Lent w n v W ws) : RowV w v W ws := by
  obtain ⟨g, cap, c, h1, h2, h3, h4, h5⟩ := h
  refine ⟨_, _, h1, ?_, by simp, by omega⟩
  have h6 : c.take ws.length = ws.map u64 := by
    have : (c.take (ws.length + 1)).take ws.length = ((ws ++ [77#64]).map u64).take ws.length := by rw [h5]
    rw [List.take_take, Nat.min_eq_left (by omega)] at this
    rw [this]; simp
  rw [← h6]; exact (Sl.blk h3).take _

/-- a row whose words lie in no block of S -/
def RowS (S : Nat → Prop) (w : World) (v : Value) (W : Int) (ws : List (BitVec 64)) : Prop :=
  ∃ p cap, v = .agg #[.int .i64 W, .slice p ws.length cap] ∧ Sl w p (ws.map u64) ∧ (p = none → cap = 0) ∧ ws.length ≤ cap ∧ (ws ≠ [] → ∀ b off, p = some ⟨b, off, none⟩ → ¬ S b)
theorem RowS.row {S : Nat → Prop} {w : World} {v : Value} {W : Int} {ws : List (BitVec 64)} (h : RowS S w v W ws) : RowV w v W ws := by
  obtain ⟨p, cap, h1, h2, h3, h4, _⟩ := h; exact ⟨p, cap, h1, h2, h3, h4⟩
theorem RowS.ext {S : Nat → Prop} {w w' : World} {v : Value} {W : Int} {ws : List (BitVec 64)} (h : RowS S w v W ws) (e : Ext w w') : RowS S w' v W ws := by
  obtain ⟨p, cap, h1, h2, h3⟩ := h; exact ⟨p, cap, h1, h2.ext e, h3⟩
theorem RowS.but {S : Nat → Prop} {w w' : World} {v : Value} {W : Int} {ws : List (BitVec 64)} (h : RowS S w v W ws) (e : ExtBut S w w') : RowS S w' v W ws := by
  obtain ⟨p, cap, h1, h2, h3, h4, h5⟩ := h
  refine ⟨p, cap, h1, ?_, h3, h4, h5⟩
  by_cases hw : ws = []
  · subst hw; exact Sl.nil _ _
  · exact h2.but e (h5 hw)
theorem FreshRow.rowS {S : Nat → Prop} {w : World} {n : Nat} {v : Value} {W : Int} {ws : List (BitVec 64)} (h : FreshRow w n v W ws) (hS : ∀ b, S b → b < n) : RowS S w v W ws := by
  obtain ⟨p, cap, h1, h2⟩ := h
  refine ⟨p, cap, h1, h2.sl, h2.1, h2.2.1, fun hne b off hp hs => ?_⟩
  rcases h2.2.2 with h | ⟨b', c, q1, q2, _⟩
  · exact hne h
  · rw [hp] at q1; cases q1; have := hS _ hs; omega
theorem RowV.rowS {S : Nat → Prop} {w w' : World} {v : Value} {W : Int} {ws : List (BitVec 64)} (h : RowV w v W ws) (e : Ext w w') (hS : ∀ b, S b → w.heap.size ≤ b) : RowS S w' v W ws := by
  obtain ⟨p, cap, h1, h2, h3, h4⟩ := h
  refine ⟨p, cap, h1, h2.ext e, h3, h4, fun hne b off hp hs => ?_⟩
  have hl : 0 < (ws.map u64).length := by rw [List.length_map]; exact List.length_pos_iff.2 hne
  obtain ⟨b', off', hp', hc⟩ := h2.at hl
  rw [hp] at hp'; cases hp'
  have := cell_lt hc; have := hS _ hs
  simp only at *
  omega

end Go.Proofs
end

section
namespace Go.Proofs

open Go.Sh Go.BM

set_option maxRecDepth 100000

/-- what Read answers: width, words, place, error -/
structure RdO where
  W : Int
  ws : List (BitVec 64)
  at' : Nat
  e : Int
noncomputable def readO (W : Int) (s : ByteArray) : RdO :=
  @ite _ (0 ≤ W ∧ W ≤ 1032) (Classical.propDecidable _) (match readR W s with | .inl i => ⟨0, [], i, 10⟩ | .inr ws => ⟨W, ws, 0, 0⟩) ⟨0, [], 0, 2⟩
theorem readO_bad {W : Int} {s : ByteArray} (h : ¬ (0 ≤ W ∧ W ≤ 1032)) : readO W s = ⟨0, [], 0, 2⟩ := by unfold readO; rw [if_neg h]
theorem readO_inl {W : Int} {s : ByteArray} (h : 0 ≤ W ∧ W ≤ 1032) {i : Nat} (hi : readR W s = .inl i) : readO W s = ⟨0, [], i, 10⟩ := by unfold readO; rw [if_pos h, hi]
theorem readO_inr {W : Int} {s : ByteArray} (h : 0 ≤ W ∧ W ≤ 1032) {ws : List (BitVec 64)} (hi : readR W s = .inr ws) : readO W s = ⟨W, ws, 0, 0⟩ := by unfold readO; rw [if_pos h, hi]
theorem readR_length {W : Int} {s : ByteArray} {ws : List (BitVec 64)} (h : readR W s = .inr ws) : ws.length = (W.toNat + 63) / 64 := by
  unfold readR at h
  simp only at h
  split at h
  · cases h
  · split at h
    · cases h; rw [turnAll_length, List.length_replicate]
    · cases h
theorem readO_length (W : Int) (s : ByteArray) : (readO W s).ws.length ≤ 17 := by
  by_cases h : 0 ≤ W ∧ W ≤ 1032
  · cases hr : readR W s with
    | inl i => rw [readO_inl h hr]; simp
    | inr ws => rw [readO_inr h hr]; have := readR_length hr; show ws.length ≤ 17; omega
  · rw [readO_bad h]; simp
theorem c_bits_ReadO {w : World} {W : Int} {s : ByteArray} {K : Value → World → Prop} (hs : s.size < 9223372036854775807)
    (h : ∀ v w', Ext w w' → FreshRow w' w.heap.size v (readO W s).W (readO W s).ws → K (.tuple #[v, .int .i64 ((readO W s).at' : Int), err (readO W s).e]) w') : oCall Tryd.prog Tryd.n_bits_Read #[.int .i64 W, .string s] w K := by
  refine c_bits_Read (fun hn w' e => ?_) (fun h0 h1 i hi w' e => ?_) (fun h0 h1 ws hw v w' e hf => ?_) hs
  · rw [readO_bad hn] at h; exact h _ _ e (row0_fresh _ _)
  · rw [readO_inl ⟨h0, h1⟩ hi] at h; exact h _ _ e (row0_fresh _ _)
  · rw [readO_inr ⟨h0, h1⟩ hw] at h; exact h _ _ e hf
theorem FreshRow.lt {w : World} {n : Nat} {v : Value} {W : Int} {ws : List (BitVec 64)} (h : FreshRow w n v W ws) : ws ≠ [] → ∀ b cap, v = .agg #[.int .i64 W, .slice (some ⟨b, 0, none⟩) ws.length cap] → b < w.heap.size := by
  obtain ⟨p, cap', h1, h2⟩ := h
  intro hne b cap hv
  rw [h1] at hv; cases hv
  rcases h2.2.2 with h | ⟨b', c, q1, q2, q3, _⟩
  · exact absurd h hne
  · cases q1; exact q3.lt
/-- a row of the outer memory, behind writes to blocks of the call's own -/
theorem RowV.keep {S : Nat → Prop} {w w1 w2 : World} {v : Value} {W : Int} {ws : List (BitVec 64)} (h : RowV w v W ws) (e : Ext w w1) (x : ExtBut S w1 w2) (hS : ∀ b, S b → w.heap.size ≤ b) : RowV w2 v W ws :=
  ((h.rowS e hS).but x).row
/-! ### Each answer told at once -/

noncomputable def bytesO (W : Int) (ws : List (BitVec 64)) : ByteArray × Int := if mayB W ws then (strOf (bytesOf W ws), 0) else (⟨#[]⟩, 2)
theorem bytesO_may {W : Int} {ws : List (BitVec 64)} (h : May W ws) : bytesO W ws = (strOf (bytesOf W ws), 0) := by simp [bytesO, mayB_true h]
theorem bytesO_not {W : Int} {ws : List (BitVec 64)} (h : ¬ May W ws) : bytesO W ws = (⟨#[]⟩, 2) := by simp [bytesO, mayB_false h]
theorem c_bits_BytesO {w : World} {v : Value} {W : Int} {ws : List (BitVec 64)} {K : Value → World → Prop} (hT : Tab w) (hr : RowV w v W ws)
    (h : ∀ w', Ext w w' → K (.tuple #[.string (bytesO W ws).1, err (bytesO W ws).2]) w') : oCall Tryd.prog Tryd.n_bits_Bytes #[v] w K := by
  refine c_bits_Bytes hT hr (fun hm w' e => ?_) (fun hm w' e => ?_)
  · rw [bytesO_not hm] at h; exact h _ e
  · rw [bytesO_may hm] at h; exact h _ e
/-- what is told of a row: width, words, error -/
structure RwO where
  W : Int
  ws : List (BitVec 64)
  e : Int
noncomputable def RwO.of (p : Prop) (W : Int) (ws : List (BitVec 64)) : RwO := @ite _ p (Classical.propDecidable _) ⟨W, ws, 0⟩ ⟨0, [], 2⟩
theorem RwO.pos {p : Prop} {W : Int} {ws : List (BitVec 64)} (h : p) : RwO.of p W ws = ⟨W, ws, 0⟩ := by unfold RwO.of; rw [if_pos h]
theorem RwO.neg {p : Prop} {W : Int} {ws : List (BitVec 64)} (h : ¬ p) : RwO.of p W ws = ⟨0, [], 2⟩ := by unfold RwO.of; rw [if_neg h]
theorem RwO.of_length {p : Prop} {W : Int} {ws : List (BitVec 64)} {n : Nat} (h : p → ws.length ≤ n) : (RwO.of p W ws).ws.length ≤ n := by
  by_cases hp : p
  · rw [RwO.pos hp]; exact h hp
  · rw [RwO.neg hp]; exact Nat.zero_le _
theorem RwO.step {p : Prop} {W : Int} {ws : List (BitVec 64)} {w : World} {K : Value → World → Prop}
    (h : ∀ v' w', Ext w w' → FreshRow w' w.heap.size v' (RwO.of p W ws).W (RwO.of p W ws).ws → K (.tuple #[v', err (RwO.of p W ws).e]) w') :
    (¬ p → ∀ w', Ext w w' → K (.tuple #[row0, err 2]) w') ∧ (p → ∀ v' w', Ext w w' → FreshRow w' w.heap.size v' W ws → K (.tuple #[v', err 0]) w') := by
  constructor
  · intro hp w' e; rw [RwO.neg hp] at h; exact h _ _ e (row0_fresh _ _)
  · intro hp v' w' e hf; rw [RwO.pos hp] at h; exact h _ _ e hf
noncomputable def newO (W : Int) : RwO := RwO.of (0 ≤ W ∧ W ≤ 1032) W (zeros W)
noncomputable def ownO (W : Int) (ws : List (BitVec 64)) : RwO := RwO.of (May W ws) W ws
noncomputable def turnO (g : BitVec 64 → BitVec 64 → BitVec 64) (W : Int) (ws : List (BitVec 64)) (ls : List Int) : RwO := RwO.of (May W ws ∧ AllIn W ls) W (turnAll g ws ls)
noncomputable def joinO (g : BitVec 64 → BitVec 64 → BitVec 64) (W : Int) (ws : List (BitVec 64)) (W2 : Int) (vs : List (BitVec 64)) : RwO := RwO.of (May W ws ∧ May W2 vs ∧ W = W2) W (List.zipWith g ws vs)
theorem may_length {W : Int} {ws : List (BitVec 64)} (h : May W ws) : ws.length ≤ 17 := by have := h.2.1; have := h.2.2.1; omega
theorem newO_length (W : Int) : (newO W).ws.length ≤ 17 := RwO.of_length fun h => by rw [zeros, List.length_replicate]; omega
theorem ownO_length (W : Int) (ws : List (BitVec 64)) : (ownO W ws).ws.length ≤ 17 := RwO.of_length fun h => may_length h
theorem turnO_length (g : BitVec 64 → BitVec 64 → BitVec 64) (W : Int) (ws : List (BitVec 64)) (ls : List Int) : (turnO g W ws ls).ws.length ≤ 17 := RwO.of_length fun h => by rw [turnAll_length]; exact may_length h.1
theorem joinO_length (g : BitVec 64 → BitVec 64 → BitVec 64) (W : Int) (ws : List (BitVec 64)) (W2 : Int) (vs : List (BitVec 64)) : (joinO g W ws W2 vs).ws.length ≤ 17 :=
  RwO.of_length fun h => by rw [List.length_zipWith]; have := may_length h.1; omega
theorem c_bits_NewO {w : World} {W : Int} {K : Value → World → Prop} (h : ∀ v' w', Ext w w' → FreshRow w' w.heap.size v' (newO W).W (newO W).ws → K (.tuple #[v', err (newO W).e]) w') : oCall Tryd.prog Tryd.n_bits_New #[.int .i64 W] w K :=
  c_bits_New (RwO.step h).1 fun h1 h2 => (RwO.step h).2 ⟨h1, h2⟩
theorem c_bits_OwnO {w : World} {v : Value} {W : Int} {ws : List (BitVec 64)} {K : Value → World → Prop} (hr : RowV w v W ws)
    (h : ∀ v' w', Ext w w' → FreshRow w' w.heap.size v' (ownO W ws).W (ownO W ws).ws → K (.tuple #[v', err (ownO W ws).e]) w') : oCall Tryd.prog Tryd.n_bits_Own #[v] w K :=
  c_bits_Own hr (RwO.step h).1 (RwO.step h).2
end Go.Proofs
end

section
namespace Go.Proofs

open Go.Sh Go.BM

set_option maxRecDepth 100000

theorem RowV.all {w : World} {v : Value} {W : Int} {ws : List (BitVec 64)} (h : RowV w v W ws) : Ob (all w) fun w' => RowV w' v W ws := fun w' k => by
  obtain ⟨p, cap, h1, h2, h3⟩ := h
  exact ⟨p, cap, h1, h2.all w' k, h3⟩
theorem Tab.all {w : World} (h : Tab w) : Ob (all w) Tab := fun w' k j hj => cell_all (h j hj) w' k
/-- a row whose words lie in just that -/
def Mut (s : Gh) (v : Value) (W : Int) (ws : List (BitVec 64)) : Prop :=
  ∃ p cap, v = .agg #[.int .i64 W, .slice p ws.length cap] ∧ (p = none → cap = 0) ∧ ws.length ≤ cap ∧
    ((ws = [] ∧ s = nothing) ∨ ∃ g c, p = some ⟨g, 0, none⟩ ∧ s = one g c Tryd.t_uint64 ∧ c.take ws.length = ws.map u64)
theorem Mut.shape {s : Gh} {v : Value} {W : Int} {ws : List (BitVec 64)} (h : Mut s v W ws) : ∃ p cap, v = .agg #[.int .i64 W, .slice p ws.length cap] := by
  obtain ⟨p, cap, h1, _⟩ := h; exact ⟨p, cap, h1⟩
theorem Mut.row {s : Gh} {v : Value} {W : Int} {ws : List (BitVec 64)} (h : Mut s v W ws) : Ob s fun w => RowV w v W ws := fun w k => by
  obtain ⟨p, cap, h1, h2, h3, ⟨rfl, _⟩ | ⟨g, c, rfl, rfl, hc⟩⟩ := h
  · exact ⟨p, cap, h1, Sl.nil _ _, h2, h3⟩
  · exact ⟨_, cap, h1, by rw [← hc]; exact (Sl.blk (one_blk w k)).take _, h2, h3⟩
theorem FreshRow.gh {w w' : World} {v : Value} {W : Int} {ws : List (BitVec 64)} (h : FreshRow w' w.heap.size v W ws) : ∃ s, New w s w' ∧ Mut s v W ws := by
  obtain ⟨p, cap, h1, h2, h3, rfl | ⟨g, c, rfl, hg, B, hc⟩⟩ := h
  · exact ⟨nothing, New.nothing, p, cap, h1, h2, h3, .inl ⟨rfl, rfl⟩⟩
  · exact ⟨one g c Tryd.t_uint64, New.one B hg, _, cap, h1, h2, h3, .inr ⟨g, c, rfl, rfl, hc⟩⟩
/-- a row is told and laid into a new cell, whichever comes first -/
theorem k_tell {w0 w : World} {r : Gh} {L : List Asr} {f : FuncId} {args : Array Value} {O : RwO} {K' : List Value → World → Prop} (S : St w0 r w L)
    (HC : ∀ w', Ext w w' → ∀ K : Value → World → Prop, (∀ v w'', Ext w' w'' → FreshRow w'' w'.heap.size v O.W O.ws → K (.tuple #[v, err O.e]) w'') → oCall Tryd.prog f args w' K)
    (k : ∀ b p cap s w', St w0 (r.or s) w' (.cell b [.int .i64 O.W, .slice p O.ws.length cap] Tryd.t_Row :: L) → Mut s (.agg #[.int .i64 O.W, .slice p O.ws.length cap]) O.W O.ws → Dis s r → Above w0 s → K' [.pointer (some ⟨b, 0, none⟩), err O.e] w') :
    (oCall Tryd.prog f args w fun t w1 => opP Tryd.prog (Instr.extract t 0) fun t1 => opP Tryd.prog (Instr.extract t 1) fun t2 => opW Tryd.prog w1 (Instr.alloc Tryd.t_Row true (.tuple #[])) fun t3 w2 => Ext w1 w2 ∧
      opU Tryd.prog w2 (Instr.storeAt Tryd.t_Row t3 t1) fun w3 => K' [t3, t2] w3) ∧
    (opW Tryd.prog w (Instr.alloc Tryd.t_Row true (.tuple #[])) fun t3 w1 => Ext w w1 ∧ oCall Tryd.prog f args w1 fun t w2 => opP Tryd.prog (Instr.extract t 0) fun t1 => opP Tryd.prog (Instr.extract t 1) fun t2 =>
      opU Tryd.prog w2 (Instr.storeAt Tryd.t_Row t3 t1) fun w3 => K' [t3, t2] w3) := by
  constructor
  · refine HC w (Ext.refl w) _ fun v w1 e1 hf => ?_
    obtain ⟨s, n, m⟩ := hf.gh
    obtain ⟨p, cap, rfl⟩ := m.shape
    obtain ⟨S, d, u⟩ := S.tell e1 n
    (repeat (first | refine s_p ?_ | refine s_c (by omega) ?_ | refine S.ld ?_ | refine S.ldB ?_ | refine S.ce ?_ | refine S.ceB ?_ | refine s_q ?_ | refine s_qc (by omega) ?_ | refine n_some ?_ | rw [List.getD_cons_zero] | rw [List.getD_cons_succ]))
    refine Tryd.al_Row fun b w2 hb e2 _ B => ⟨e2, ?_⟩
    have S := S.add e2 (by omega) B
    refine S.stB fun w3 S => ?_
    exact k _ _ _ _ _ S m d u
  · refine Tryd.al_Row fun b w2 hb e2 _ B => ⟨e2, ?_⟩
    have S := S.add e2 (by omega) B
    refine HC w2 e2 _ fun v w1 e1 hf => ?_
    obtain ⟨s, n, m⟩ := hf.gh
    obtain ⟨p, cap, rfl⟩ := m.shape
    obtain ⟨S, d, u⟩ := S.tell e1 n
    (repeat (first | refine s_p ?_ | refine s_c (by omega) ?_ | refine S.ld ?_ | refine S.ldB ?_ | refine S.ce ?_ | refine S.ceB ?_ | refine s_q ?_ | refine s_qc (by omega) ?_ | refine n_some ?_ | rw [List.getD_cons_zero] | rw [List.getD_cons_succ]))
    refine S.stB fun w3 S => ?_
    exact k _ _ _ _ _ S m d u
/-- a row with a mark, all of it made by the walk -/
def LentG (s : Gh) (v : Value) (W : Int) (ws : List (BitVec 64)) : Prop := Ob s fun w => ∃ n, Lent w n v W ws
theorem Lent.ghB {w w' : World} {v : Value} {W : Int} {ws : List (BitVec 64)} (h : Lent w' w.heap.size v W ws) : ∃ s, New w s w' ∧ LentG s v W ws ∧ NoBook s := by
  obtain ⟨g, cap, c, h1, h2, h3, h4⟩ := h
  exact ⟨one g c Tryd.t_uint64, New.one h3 h2, fun w k => ⟨g, g, cap, c, h1, Nat.le_refl _, one_blk w k, h4⟩, inferInstance⟩
theorem Lent.gh {w w' : World} {v : Value} {W : Int} {ws : List (BitVec 64)} (h : Lent w' w.heap.size v W ws) : ∃ s, New w s w' ∧ LentG s v W ws := by
  obtain ⟨g, cap, c, h1, h2, h3, h4⟩ := h
  exact ⟨one g c Tryd.t_uint64, New.one h3 h2, fun w k => ⟨g, g, cap, c, h1, Nat.le_refl _, one_blk w k, h4⟩⟩
theorem LentG.row {s : Gh} {v : Value} {W : Int} {ws : List (BitVec 64)} (h : LentG s v W ws) : Ob s fun w => RowV w v W ws := fun w k => by
  obtain ⟨n, h⟩ := h w k; exact h.row
end Go.Proofs
end

section
namespace Go.Proofs

open Go.Sh Go.BM

set_option maxRecDepth 100000

set_option linter.unusedSimpArgs false

set_option linter.unusedVariables false

/-- a row's two cells -/
def RwC (r : Gh) (c : List Value) (x : RowD) : Prop :=
  ∃ p cap, c = [.int .i64 x.1, .slice p x.2.length cap] ∧ (p = none → cap = 0) ∧ x.2.length ≤ cap ∧ Ob r fun w => Sl w p (x.2.map u64)
theorem RwC.up {r s : Gh} [le : Le r s] {c : List Value} {x : RowD} (h : RwC r c x) : RwC s c x := by
  obtain ⟨p, cap, h1, h2, h3, h4⟩ := h
  exact ⟨p, cap, h1, h2, h3, h4.up⟩
theorem RwC.row {r : Gh} {c : List Value} {x : RowD} (h : RwC r c x) : Ob r fun w => RowV w (.agg c.toArray) x.1 x.2 := fun w k => by
  obtain ⟨p, cap, rfl, h2, h3, h4⟩ := h
  exact ⟨p, cap, rfl, h4 w k, h2, h3⟩
theorem RwC.of {r : Gh} {c : List Value} {x : RowD} (h : ∃ w, Holds r w) (k : Ob r fun w => RowV w (.agg c.toArray) x.1 x.2) : RwC r c x := by
  obtain ⟨w, hw⟩ := h
  obtain ⟨p, cap, h1, h2, h3, h4⟩ := k w hw
  have hc : c = [.int .i64 x.1, .slice p x.2.length cap] := by
    have := congrArg (fun v : Value => v.cells.toList) h1
    simpa [Value.cells] using this
  subst hc
  refine ⟨p, cap, rfl, h3, h4, fun w' hw' => ?_⟩
  obtain ⟨p', cap', h1', h2', _⟩ := k w' hw'
  cases h1'; exact h2'
abbrev RwsG (r : Gh) (v : Value) (l : List RowD) : Prop := SlG 2 r (RwC r) v l
theorem RwsG.up {r s : Gh} [le : Le r s] {v : Value} {l : List RowD} (h : RwsG r v l) : RwsG s v l := SlG.up' h le fun _ _ h => h.up
/-- a function's three -/
def FnC (r : Gh) (c : List Value) (f : FnD) : Prop := ∃ a b d, c = [a, b, d] ∧ RwsG r a f.rows ∧ RwsG r b f.ranges ∧ RwsG r d f.moves
theorem FnC.up {r s : Gh} [le : Le r s] {c : List Value} {f : FnD} (h : FnC r c f) : FnC s c f := by
  obtain ⟨a, b, d, h1, h2, h3, h4⟩ := h
  exact ⟨a, b, d, h1, h2.up, h3.up, h4.up⟩
abbrev FnsG (r : Gh) (v : Value) (c : List FnD) : Prop := SlG 3 r (FnC r) v c
theorem FnsG.up {r s : Gh} [le : Le r s] {v : Value} {c : List FnD} (h : FnsG r v c) : FnsG s v c := SlG.up' h le fun _ _ h => h.up
def CertG (r : Gh) (v : Value) (c : List FnD) : Prop := ∃ u, v = .agg #[u] ∧ FnsG r u c
theorem CertG.up {r s : Gh} [le : Le r s] {v : Value} {c : List FnD} (h : CertG r v c) : CertG s v c := by
  obtain ⟨u, h1, h2⟩ := h; exact ⟨u, h1, h2.up⟩
/-! ### One's own: words apart from all else -/

def OwC (s : Gh) (c : List Value) (x : RowD) : Prop :=
  ∃ p cap, c = [.int .i64 x.1, .slice p x.2.length cap] ∧ (p = none → cap = 0) ∧ x.2.length ≤ cap ∧
    (x.2 = [] ∨ ∃ (g : Nat) (ys : List Value), p = some ⟨g, 0, none⟩ ∧ s g (.cells ys.toArray Tryd.t_uint64 (0, 0)) ∧ ys.take x.2.length = x.2.map u64)
theorem OwC.up {r s : Gh} [le : Le r s] {c : List Value} {x : RowD} (h : OwC r c x) : OwC s c x := by
  obtain ⟨p, cap, h1, h2, h3, h4⟩ := h
  exact ⟨p, cap, h1, h2, h3, h4.imp id fun ⟨g, ys, a, b, c⟩ => ⟨g, ys, a, le.le _ _ b, c⟩⟩
theorem OwC.row {s : Gh} {c : List Value} {x : RowD} (h : OwC s c x) : RwC s c x := by
  obtain ⟨p, cap, h1, h2, h3, h4⟩ := h
  refine ⟨p, cap, h1, h2, h3, fun w k => ?_⟩
  rcases h4 with h4 | ⟨g, ys, rfl, hb, hy⟩
  · rw [h4]; exact Sl.nil _ _
  · rw [← hy]; exact (Sl.blk (k g _ hb)).take _
theorem Mut.ow {s : Gh} {W : Int} {p : Option Addr} {n cap : Nat} {ws : List (BitVec 64)} (h : Mut s (.agg #[.int .i64 W, .slice p n cap]) W ws) : OwC s [.int .i64 W, .slice p n cap] (W, ws) := by
  obtain ⟨p', cap', h1, h2, h3, h4⟩ := h
  cases h1
  refine ⟨p, cap, rfl, h2, h3, h4.imp (·.1) ?_⟩
  rintro ⟨g, c, rfl, rfl, hc⟩
  exact ⟨g, c, rfl, ⟨rfl, rfl⟩, hc⟩
/-- words alone -/
def WordsOnly (s : Gh) : Prop := ∀ b o, s b o → ∃ c, o = .cells c Tryd.t_uint64 (0, 0)
/-- none of words -/
def NoWords (s : Gh) : Prop := ∀ b o, s b o → ∃ c e, o = .cells c e (0, 0) ∧ e ≠ Tryd.t_uint64
theorem WordsOnly.or {s t : Gh} (h : WordsOnly s) (k : WordsOnly t) : WordsOnly (s.or t) := fun b o x => x.elim (h b o) (k b o)
theorem NoWords.or {s t : Gh} (h : NoWords s) (k : NoWords t) : NoWords (s.or t) := fun b o x => x.elim (h b o) (k b o)
theorem WordsOnly.no : WordsOnly nothing := fun b o h => h.elim
theorem NoWords.no : NoWords nothing := fun b o h => h.elim
theorem Mut.words {s : Gh} {v : Value} {W : Int} {ws : List (BitVec 64)} (h : Mut s v W ws) : WordsOnly s := by
  obtain ⟨p', cap', h1, h2, h3, ⟨_, rfl⟩ | ⟨g, c, _, rfl, _⟩⟩ := h
  · exact .no
  · intro b o h; exact ⟨_, h.2⟩
/-- words lie apart from all else -/
theorem dis_words {s t : Gh} {w : World} (hs : Holds s w) (ht : Holds t w) (h : NoWords s) (k : WordsOnly t) : Dis s t := fun b o o' x y => by
  obtain ⟨c, e, rfl, he⟩ := h b o x
  obtain ⟨c', rfl⟩ := k b o' y
  have := (hs b _ x).symm.trans (ht b _ y)
  cases this
  exact he rfl
abbrev RwsO (s t : Gh) (v : Value) (l : List RowD) : Prop := SlG 2 s (OwC t) v l
theorem RwsO.up {s t s' t' : Gh} [l1 : Le s s'] [l2 : Le t t'] {v : Value} {l : List RowD} (h : RwsO s t v l) : RwsO s' t' v l := SlG.up' h l1 fun _ _ h => h.up
theorem RwsO.g {s t : Gh} {v : Value} {l : List RowD} (h : RwsO s t v l) : RwsG (s.or t) v l := SlG.up' h inferInstance fun _ _ h => (OwC.row h).up
def FnO (s t : Gh) (c : List Value) (f : FnD) : Prop := ∃ a b d, c = [a, b, d] ∧ RwsO s t a f.rows ∧ RwsO s t b f.ranges ∧ RwsO s t d f.moves
theorem FnO.up {s t s' t' : Gh} [l1 : Le s s'] [l2 : Le t t'] {c : List Value} {f : FnD} (h : FnO s t c f) : FnO s' t' c f := by
  obtain ⟨a, b, d, h1, h2, h3, h4⟩ := h
  exact ⟨a, b, d, h1, h2.up, h3.up, h4.up⟩
theorem FnO.g {s t : Gh} {c : List Value} {f : FnD} (h : FnO s t c f) : FnC (s.or t) c f := by
  obtain ⟨a, b, d, h1, h2, h3, h4⟩ := h
  exact ⟨a, b, d, h1, h2.g, h3.g, h4.g⟩
abbrev FnsO (s t : Gh) (v : Value) (c : List FnD) : Prop := SlG 3 s (FnO s t) v c
theorem FnsO.up {s t s' t' : Gh} [l1 : Le s s'] [l2 : Le t t'] {v : Value} {l : List FnD} (h : FnsO s t v l) : FnsO s' t' v l := SlG.up' h l1 fun _ _ h => h.up
theorem FnsO.g {s t : Gh} {v : Value} {l : List FnD} (h : FnsO s t v l) : FnsG (s.or t) v l := SlG.up' h inferInstance fun _ _ h => h.g
def CertO (s t : Gh) (v : Value) (c : List FnD) : Prop := ∃ u, v = .agg #[u] ∧ FnsO s t u c
theorem CertO.g {s t : Gh} {v : Value} {c : List FnD} (h : CertO s t v c) : CertG (s.or t) v c := by
  obtain ⟨u, h1, h2⟩ := h; exact ⟨u, h1, h2.g⟩
theorem fns_none {r : Gh} : FnsG r (.slice none 0 0) [] := SlG.nil
/-- a row of the taker: strict: its words; loose: none -/
def rowOut (st : Bool) (w : Nat) (l : List UInt8) : RowD := if st then ((w : Int), wordsOf w l) else (0, [])
def LstR.out (st : Bool) (x : LstR) : List RowD := x.l.map (rowOut st x.w)
theorem LstR.out_rows (x : LstR) : x.out true = x.rows := rfl
end Go.Proofs
end

section
namespace Go.Proofs

open Go.Sh Go.BM

set_option maxRecDepth 100000

set_option linter.unusedSimpArgs false

set_option linter.unusedVariables false

theorem run_rep (st : Bool) (w : Nat) : ∀ (k i a : Nat) (l : List UInt8), (repG (byteG st w) i k).run l a =
    match (List.range (min k l.length)).find? (fun j => st && badAt w (i + j) (l.getD j 0)) with
    | some j => (a + j, none)
    | none => if k ≤ l.length then (a + k, some (l.take k)) else (a + l.length, none)
  | 0, i, a, l => by simp [repG, Gr.run]
  | k + 1, i, a, [] => by simp [repG, byteG, Gr.bind, Gr.run, bd, Gr.run_bind]
  | k + 1, i, a, c :: l => by
    rw [repG, Gr.run_bind, byteG, Gr.run, List.length_cons, Nat.add_min_add_right, List.range_succ_eq_map, List.find?_cons]
    simp only [List.getD_cons_zero, Nat.add_zero]
    cases hb : (st && badAt w i c) with
    | true => simp [bd]
    | false =>
      simp only [Bool.not_false, if_true, Gr.run, bd, Nat.add_sub_cancel_left, List.drop_succ_cons, List.drop_zero]
      rw [Gr.run_bind, run_rep st w k (i + 1) (a + 1) l, List.find?_map]
      have hf : ((fun j => st && badAt w (i + j) ((c :: l).getD j 0)) ∘ Nat.succ) = fun j => st && badAt w (i + 1 + j) (l.getD j 0) := by
        funext j
        simp only [Function.comp_apply, Nat.succ_eq_add_one, List.getD_cons_succ]
        rw [show i + (j + 1) = i + 1 + j by omega]
      rw [hf]
      cases (List.range (min k l.length)).find? (fun j => st && badAt w (i + 1 + j) (l.getD j 0)) with
      | some j => simp only [bd, Option.map_some, Nat.succ_eq_add_one]; rw [show a + 1 + j = a + (j + 1) by omega]
      | none =>
        simp only [Option.map_none, Nat.add_le_add_iff_right, List.take_succ_cons]
        split
        · simp only [bd, Gr.run]; rw [show a + 1 + k = a + (k + 1) by omega]
        · simp only [bd]; rw [show a + 1 + l.length = a + (l.length + 1) by omega]
/-- the bytes that a row would have -/
def rowT (w : Nat) (s : List UInt8) (a : Nat) : List UInt8 := (s.take (min s.length (a + (w + 7) / 8))).drop a
theorem rowT_eq {w : Nat} {s : List UInt8} {a : Nat} : rowT w s a = (s.drop a).take ((w + 7) / 8) := by
  rw [rowT, List.drop_take]
  rcases Nat.le_total s.length (a + (w + 7) / 8) with h | h
  · rw [Nat.min_eq_left h, List.take_of_length_le (by rw [List.length_drop]; omega), List.take_of_length_le (by rw [List.length_drop]; omega)]
  · rw [Nat.min_eq_right h, show a + (w + 7) / 8 - a = (w + 7) / 8 by omega]
theorem rd_row {w : Nat} {s : List UInt8} {a : Nat} (ha : a ≤ s.length) : rd (rowG true w) s a =
    match readR (w : Int) (bs (rowT w s a)) with
    | .inl i => (a + i, none)
    | .inr _ => (a + (w + 7) / 8, some (rowT w s a)) := by
  rw [rd, rowG, run_rep, rowT_eq, readR]
  generalize hl : s.drop a = l
  generalize hn : (w + 7) / 8 = n
  have hw : ((w : Int).toNat + 7) / 8 = n := by rw [Int.toNat_natCast, hn]
  simp only [hw]
  have hsz : (bs (l.take n)).size = min n l.length := by rw [bs_size, List.length_take]
  have hmin : min n (bs (l.take n)).size = min n l.length := by omega
  rw [hmin]
  have hf : ∀ m, m ⊆ List.range (min n l.length) → m.find? (fun j => true && badAt w (0 + j) (l.getD j 0)) = m.find? (badB (w : Int) (bs (l.take n))) := by
    intro m
    induction m with
    | nil => intro _; rfl
    | cons j m ih =>
      intro hm
      have hj := List.mem_range.1 (hm List.mem_cons_self)
      have hjl : j < (l.take n).length := by rw [List.length_take]; omega
      have : (true && badAt w (0 + j) (l.getD j 0)) = badB (w : Int) (bs (l.take n)) j := by
        rw [Bool.true_and, Nat.zero_add, ← badAt_eq hjl, List.getElem_take, List.getD_eq_getElem?_getD, List.getElem?_eq_getElem (by omega)]
        rfl
      rw [List.find?_cons, List.find?_cons, this, ih fun x hx => hm (List.mem_cons_of_mem _ hx)]
  rw [hf _ fun x hx => hx]
  cases (List.range (min n l.length)).find? (badB (w : Int) (bs (l.take n))) with
  | some i => rfl
  | none =>
    simp only [hsz]
    by_cases h : n ≤ l.length
    · simp only [h, if_true, Nat.min_eq_left h]
    · have h2 : ¬ min n l.length = n := by omega
      simp only [h, h2, if_false]
      rw [Nat.min_eq_right (by omega)]
theorem rd_rowL {w : Nat} {s : List UInt8} {a : Nat} (ha : a ≤ s.length) : rd (rowG false w) s a = if a + (w + 7) / 8 ≤ s.length then (a + (w + 7) / 8, some (rowT w s a)) else (s.length, none) := by
  rw [rd, rowG, run_rep, rowT_eq]
  have : (List.range (min ((w + 7) / 8) (s.drop a).length)).find? (fun j => false && badAt w (0 + j) ((s.drop a).getD j 0)) = none := by simp
  rw [this]
  simp only [List.length_drop]
  by_cases h : a + (w + 7) / 8 ≤ s.length
  · rw [if_pos (by omega), if_pos h]
  · rw [if_neg (by omega), if_neg h, show a + (s.length - a) = s.length by omega]
theorem readR_words {w : Nat} {l : List UInt8} {ws : List (BitVec 64)} (h : readR (w : Int) (bs l) = .inr ws) : ws = wordsOf w l := by
  unfold readR at h
  simp only at h
  split at h
  · cases h
  · split at h
    · cases h; rfl
    · cases h
theorem readR_le {w : Nat} {l : List UInt8} {i : Nat} (h : readR (w : Int) (bs l) = .inl i) : i ≤ l.length := by
  have := read_at h
  rwa [bs_size] at this
/-! ### Things one behind the other, step by step -/

theorem bd_assoc {α β γ : Type} (x : Rd' α) (f : α → Nat → Rd' β) (g : β → Nat → Rd' γ) : bd (bd x f) g = bd x fun u b => bd (f u b) g := by
  obtain ⟨a, o⟩ := x
  cases o <;> rfl
def RepInv {α : Type} (G : Nat → Gr α) (n : Nat) (s : List UInt8) (a0 k b : Nat) (done : List α) : Prop :=
  rd (repG G 0 n) s a0 = bd (rd (repG G k (n - k)) s b) fun l c => (c, some (done ++ l))
section

variable {α : Type} {G : Nat → Gr α} {n a0 k b b' : Nat} {s : List UInt8} {done : List α} {x : α}

theorem RepInv.start : RepInv G n s a0 0 a0 [] := by
  rw [RepInv, Nat.sub_zero]
  generalize rd (repG G 0 n) s a0 = y
  obtain ⟨a, o⟩ := y
  cases o <;> rfl
theorem RepInv.next (h : RepInv G n s a0 k b done) (hk : k < n) : rd (repG G 0 n) s a0 = bd (rd (G k) s b) fun x c => bd (rd (repG G (k + 1) (n - (k + 1))) s c) fun l c => (c, some (done ++ x :: l)) := by
  obtain ⟨m, rfl⟩ : ∃ m, n = k + (m + 1) := ⟨n - k - 1, by omega⟩
  rw [RepInv, show k + (m + 1) - k = m + 1 by omega, repG, rd_bind, bd_assoc] at h
  rw [h, show k + (m + 1) - (k + 1) = m by omega]
  congr 1
  funext x c
  rw [rd_bind, bd_assoc]
  rfl
theorem RepInv.step (h : RepInv G n s a0 k b done) (hk : k < n) (hx : rd (G k) s b = (b', some x)) : RepInv G n s a0 (k + 1) b' (done ++ [x]) := by
  rw [RepInv, h.next hk, hx]
  simp only [bd, List.append_assoc, List.singleton_append]
theorem RepInv.stuck (h : RepInv G n s a0 k b done) (hk : k < n) (hx : rd (G k) s b = (b', none)) : rd (repG G 0 n) s a0 = (b', none) := by
  rw [h.next hk, hx]; rfl
theorem RepInv.end_ (h : RepInv G n s a0 k b done) (hk : n ≤ k) : rd (repG G 0 n) s a0 = (b, some done) := by
  rw [RepInv, Nat.sub_eq_zero_of_le hk] at h
  rw [h, repG, rd_ret]
  simp [bd]
end

/-- a list's two numbers -/
def headG (most : Nat) : Gr (Nat × Nat) := (numG most).bind fun n => (numG (if 0 < n then 1032 else 0)).bind fun w => .ret (n, w)
theorem rd_list {st : Bool} {most : Nat} {s : List UInt8} {a : Nat} : rd (listG st most) s a = bd (rd (headG most) s a) fun p b => bd (rd (repG (fun _ => rowG st p.2) 0 p.1) s b) fun l c => (c, some ⟨p.1, p.2, l⟩) := by
  rw [listG, headG, rd_bind, rd_bind, bd_assoc]
  congr 1
  funext n b
  rw [rd_bind, rd_bind, bd_assoc]
  congr 1
  funext w c
  rw [rd_bind, rd_ret]
  rfl
theorem rd_gives {α : Type} {G : Gr α} {P : Nat → α → List UInt8 → Prop} (h : Gives G P) {s : List UInt8} {a b : Nat} {v : α} (hr : rd G s a = (b, some v)) : ∃ m, b = a + m.length ∧ P a v m := by
  obtain ⟨m, n, _, h2, h3⟩ := h _ _ _ _ hr
  exact ⟨m, h2, h3⟩
theorem head_at {most : Nat} (hm : most < 65536) {s : List UInt8} {a b : Nat} {p : Nat × Nat} (h : rd (headG most) s a = (b, some p)) : b = a + 4 := by
  obtain ⟨m, h1, n, m1, m2, rfl, ⟨_, rfl⟩, w, m3, m4, rfl, ⟨_, rfl⟩, _, rfl⟩ := rd_gives ((gives_num hm).bind fun n => (gives_num (by split <;> omega)).bind fun w => .ret) h
  rw [h1]; rfl
theorem rd_fn {st : Bool} {s : List UInt8} {a : Nat} : rd (fnG st) s a = bd (rd (listG st 512) s a) fun x b => bd (rd (listG st 256) s b) fun y c => bd (rd (listG st 256) s c) fun z d => (d, some ⟨a, x, y, z⟩) := by
  have : rd (fnG st) s a = rd ((listG st 512).bind fun x => (listG st 256).bind fun y => (listG st 256).bind fun z => .ret (⟨a, x, y, z⟩ : FnR)) s a := by rw [rd, fnG, Gr.run]; rfl
  rw [this, rd_bind]
  congr 1
  funext x b
  rw [rd_bind]
  congr 1
  funext y c
  rw [rd_bind]
  congr 1
end Go.Proofs
end

section
namespace Go.Proofs

open Go.Sh Go.BM

set_option maxRecDepth 100000

set_option linter.unusedSimpArgs false

set_option linter.unusedVariables false

section

variable {w0 w : World} {r : Gh} {L : List Asr} {tb a : Nat} {s : List UInt8} {K : Value → World → Prop} {Kp : List PanicEntry → World → Prop}

variable {X : Nat → Prop}

theorem c_tk_head {most : Nat} (hm : most < 65536) (S : StX X w0 r w (tkC tb s a :: L)) (hs : s.length ≤ 1000000000)
    (h : ∀ n v b w', n ≤ most → v ≤ (if 0 < n then 1032 else 0) → b ≤ s.length → rd (headG most) s a = (b, some (n, v)) → StX X w0 r w' (tkC tb s b :: L) → K (.tuple #[.int .i64 (n : Nat), .int .i64 (v : Nat)]) w')
    (hk : ∀ b w', rd (headG most) s a = (b, none) → StX X w0 r w' (tkC tb s b :: L) → Kp (stuckA b) w') :
    oCallP Tryd.prog Tryd.n_cert_taker_head #[tkP tb, .int .i64 (most : Nat)] w K Kp := by
  refine Tryd.ok_cert_taker_head ?_
  unfold Tryd.F_cert_taker_head
  have nf : ∀ {P : Prop}, false = true → P := fun h => by cases h
  rw [headG, rd_bind] at h hk
  refine c_tk_number hm S hs (fun n b1 w1 hn hb1 e1 S => ?_) (fun b1 w1 e1 S => ⟨nf, hk _ _ (by rw [e1]; rfl) S⟩)
  rw [e1] at h hk
  simp only [bd, rd_bind] at h hk
  refine j_intro (fun v w' => v = [.int .i64 ((if 0 < n then 1032 else 0 : Nat) : Int)] ∧ StX X w0 r w' (tkC tb s b1 :: L)) (fun K2 hK2 => ?_) ?_
  · (first | refine s_p ?_ | refine s_c (by omega) ?_)
    refine c_if (fun he => ?_) (fun hn => ?_)
    · exact hK2 _ _ ⟨by rw [if_pos (by omega)]; rfl, S⟩
    · exact hK2 _ _ ⟨by rw [if_neg (by omega)]; rfl, S⟩
  rintro _ w2 ⟨rfl, S⟩ d2
  rw [List.getD_cons_zero]
  refine c_tk_number (by split <;> omega) S hs (fun v b2 w3 hv hb2 e2 S => ?_) (fun b2 w3 e2 S => ⟨nf, hk _ _ (by rw [e2]) S⟩)
  rw [e2] at h hk
  exact h n v b2 _ hn hv hb2 rfl S
theorem c_tk_row {v : Nat} (hv : v ≤ 1032) (S : St w0 r w (tkC tb s a :: L)) (hs : s.length ≤ 1000000000) (ha : a ≤ s.length)
    (h : ∀ c sw w', rd (rowG true v) s a = (a + (v + 7) / 8, some (rowT v s a)) → a + (v + 7) / 8 ≤ s.length → St w0 (r.or sw) w' (tkC tb s (a + (v + 7) / 8) :: L) → Above w0 sw → WordsOnly sw →
      OwC sw c ((v : Int), wordsOf v (rowT v s a)) → c.length = 2 → K (.agg c.toArray) w')
    (hk : ∀ b w', rd (rowG true v) s a = (b, none) → St w0 r w' (tkC tb s b :: L) → Kp (stuckA b) w') :
    oCallP Tryd.prog Tryd.n_cert_taker_row #[tkP tb, .int .i64 (v : Nat)] w K Kp := by
  refine Tryd.ok_cert_taker_row ?_
  unfold Tryd.F_cert_taker_row
  have nf : ∀ {P : Prop}, false = true → P := fun h => by cases h
  refine S.al fun b4 w1 S => ?_
  refine s_c (by omega) ?_
  refine s_c (by omega) ?_
  rw [show ((v : Int) + 7) / 8 = (((v + 7) / 8 : Nat) : Int) by omega]
  have hlt : (rowT v s a).length ≤ 200 := by rw [rowT_eq, List.length_take]; omega
  have hrd := rd_row (w := v) ha
  refine j_intro (fun t w9 => ∃ (b6 : Nat) (q : Gh) (c6 : List Value) (at6 e6 : Int), t = [.pointer (some ⟨b6, 0, none⟩), .int .i64 at6, .int .i64 e6] ∧ St w0 q w9 (.cell b6 c6 Tryd.t_Row :: .cell b4 [.int .i64 0, .slice none 0 0] Tryd.t_Row :: tkC tb s a :: L) ∧ c6.length = 2 ∧
      ((∃ i, e6 = 10 ∧ at6 = ((i : Nat) : Int) ∧ i ≤ (rowT v s a).length ∧ rd (rowG true v) s a = (a + i, none) ∧ Le r q) ∨ (∃ sw, e6 = 0 ∧ q = r.or sw ∧ rd (rowG true v) s a = (a + (v + 7) / 8, some (rowT v s a)) ∧ a + (v + 7) / 8 ≤ s.length ∧ Above w0 sw ∧ WordsOnly sw ∧ OwC sw c6 ((v : Int), wordsOf v (rowT v s a))))) (fun K2 hK2 => ?_) ?_
  · have S := S.go (Ext.drew _)
    (repeat (first | refine s_p ?_ | refine s_c (by omega) ?_ | refine S.ld ?_ | refine S.ldB ?_ | refine S.ce ?_ | refine S.ceB ?_ | refine s_q ?_ | refine s_qc (by omega) ?_ | refine n_some ?_ | rw [List.getD_cons_zero] | rw [List.getD_cons_succ]))
    have et : (s.take (min (s.length : Int) ((a : Int) + (((v + 7) / 8 : Nat) : Int))).toNat).drop ((a : Int)).toNat = rowT v s a := by
      rw [rowT, Int.toNat_natCast]
      congr 2
      omega
    rw [et]
    have hsz : (bs (rowT v s a)).size < 9223372036854775807 := by rw [bs_size]; omega
    have fin : ∀ (wb wc : World) (b6 : Nat) (v' : Value) (sw : Gh), Mut sw v' (readO (v : Int) (bs (rowT v s a))).W (readO (v : Int) (bs (rowT v s a))).ws → Above w0 sw →
        StX noX w0 (r.or sw) wc (.cell b6 v'.cells.toList Tryd.t_Row :: .cell b4 [.int .i64 0, .slice none 0 0] Tryd.t_Row :: tkC tb s a :: L) →
        K2 [.pointer (some ⟨b6, 0, none⟩), .int .i64 ((readO (v : Int) (bs (rowT v s a))).at' : Int), .int .i64 (readO (v : Int) (bs (rowT v s a))).e] wc := by
      intro wb wc b6 v' sw hm hab S
      cases hr : readR (v : Int) (bs (rowT v s a)) with
      | inl i =>
        rw [readO_inl (by omega) hr] at hm ⊢
        rw [hr] at hrd
        obtain ⟨p, cap, rfl⟩ := hm.shape
        exact hK2 _ _ ⟨b6, _, _, _, _, rfl, S, rfl, .inl ⟨i, rfl, rfl, readR_le hr, hrd, inferInstance⟩⟩
      | inr ws =>
        rw [readO_inr (by omega) hr] at hm ⊢
        rw [hr] at hrd
        obtain ⟨p, cap, rfl⟩ := hm.shape
        have hle := (rd_le (G := rowG true v) ha).2
        rw [hrd] at hle
        have how := hm.ow
        rw [readR_words hr] at how
        refine hK2 _ _ ⟨b6, _, _, _, _, rfl, S, rfl, .inr ⟨sw, rfl, rfl, hrd, hle, hab, hm.words, ?_⟩⟩
        rw [readR_words hr]
        exact how
    constructor
    · refine P_of_oCall (c_bits_ReadO hsz fun v' w6 e6 hf => ?_)
      obtain ⟨sw, n, m⟩ := hf.gh
      obtain ⟨S, d, u⟩ := S.tell e6 n
      obtain ⟨p, cap, rfl⟩ := m.shape
      (repeat (first | refine s_p ?_ | refine s_c (by omega) ?_ | refine S.ld ?_ | refine S.ldB ?_ | refine S.ce ?_ | refine S.ceB ?_ | refine s_q ?_ | refine s_qc (by omega) ?_ | refine n_some ?_ | rw [List.getD_cons_zero] | rw [List.getD_cons_succ]))
      refine S.alU fun b6 w7 S => ?_
      refine S.stB fun w8 S => ?_
      exact fin w6 _ b6 _ sw m u S
    · refine S.alU fun b6 w7 S => ?_
      refine P_of_oCall (c_bits_ReadO hsz fun v' w6 e6 hf => ?_)
      obtain ⟨sw, n, m⟩ := hf.gh
      obtain ⟨S, d, u⟩ := S.tell e6 n
      obtain ⟨p, cap, rfl⟩ := m.shape
      (repeat (first | refine s_p ?_ | refine s_c (by omega) ?_ | refine S.ld ?_ | refine S.ldB ?_ | refine S.ce ?_ | refine S.ceB ?_ | refine s_q ?_ | refine s_qc (by omega) ?_ | refine n_some ?_ | rw [List.getD_cons_zero] | rw [List.getD_cons_succ]))
      refine S.stB fun w8 S => ?_
      exact fin w6 _ b6 _ sw m u S
  · rintro t w9 ⟨b6, q, c6, at6, e6, rfl, S, hc6, hcase⟩ d9
    rcases hcase with ⟨i, rfl, rfl, hi, hr, le⟩ | ⟨sw, rfl, rfl, hr, hle, hab, hwo, how⟩
    · refine j_intro (fun _ _ => False) (fun K2 hK2 => ?_) (fun _ _ hf => hf.elim)
      have hil : i ≤ s.length - a := by rw [rowT_eq, List.length_take, List.length_drop] at hi; omega
      (repeat (first | refine s_p ?_ | refine s_c (by omega) ?_ | refine S.ld ?_ | refine S.ldB ?_ | refine S.ce ?_ | refine S.ceB ?_ | refine s_q ?_ | refine s_qc (by omega) ?_ | refine n_some ?_ | rw [List.getD_cons_zero] | rw [List.getD_cons_succ]))
      refine c_t rfl ?_
      (repeat (first | refine s_p ?_ | refine s_c (by omega) ?_ | refine S.ld ?_ | refine S.ldB ?_ | refine S.ce ?_ | refine S.ceB ?_ | refine s_q ?_ | refine s_qc (by omega) ?_ | refine n_some ?_ | rw [List.getD_cons_zero] | rw [List.getD_cons_succ]))
      refine S.st fun w10 S => ?_
      have S := (S.drop b6).drop b4
      rw [show (a : Int) + (i : Int) = ((a + i : Nat) : Int) by omega] at S
      refine c_tk_give (a := a + i) S fun S => ⟨nf, hk _ _ hr (S.to r)⟩
    · refine j_intro (fun _ w' => w' = w9) (fun K2 hK2 => ?_) ?_
      · (repeat (first | refine s_p ?_ | refine s_c (by omega) ?_ | refine S.ld ?_ | refine S.ldB ?_ | refine S.ce ?_ | refine S.ceB ?_ | refine s_q ?_ | refine s_qc (by omega) ?_ | refine n_some ?_ | rw [List.getD_cons_zero] | rw [List.getD_cons_succ]))
        exact c_f rfl (hK2 _ _ rfl)
      rintro _ w20 rfl d20
      (repeat (first | refine s_p ?_ | refine s_c (by omega) ?_ | refine S.ld ?_ | refine S.ldB ?_ | refine S.ce ?_ | refine S.ceB ?_ | refine s_q ?_ | refine s_qc (by omega) ?_ | refine n_some ?_ | rw [List.getD_cons_zero] | rw [List.getD_cons_succ]))
      refine S.st fun w10 S => ?_
      refine S.ldB (hc := hc6) ?_
      have h1 : ∀ u ∈ c6.toArray.toList, u.oneCell' = true := by obtain ⟨p, cap, rfl, _⟩ := how; simp [Value.oneCell']
      refine S.stB (hc := hc6) (h1 := h1) fun w11 S => ?_
      refine S.ceB (hc := hc6) ?_
      have S := (S.drop b6).drop b4
      rw [show (a : Int) + (((v + 7) / 8 : Nat) : Int) = ((a + (v + 7) / 8 : Nat) : Int) by omega] at S
      exact h c6 sw _ hr hle S hab hwo how hc6
theorem c_tk_skip {v : Nat} (hv : v ≤ 1032) (S : St w0 r w (tkC tb s a :: L)) (hs : s.length ≤ 1000000000) (ha : a ≤ s.length)
    (h : ∀ w', rd (rowG false v) s a = (a + (v + 7) / 8, some (rowT v s a)) → a + (v + 7) / 8 ≤ s.length → St w0 r w' (tkC tb s (a + (v + 7) / 8) :: L) → K (.agg #[.int .i64 0, .slice none 0 0]) w')
    (hk : ∀ w', rd (rowG false v) s a = (s.length, none) → St w0 r w' (tkC tb s s.length :: L) → Kp (stuckA s.length) w') :
    oCallP Tryd.prog Tryd.n_cert_taker_skip #[tkP tb, .int .i64 (v : Nat)] w K Kp := by
  refine Tryd.ok_cert_taker_skip ?_
  unfold Tryd.F_cert_taker_skip
  have nf : ∀ {P : Prop}, false = true → P := fun h => by cases h
  have hrd := rd_rowL (w := v) ha
  refine S.al fun b4 w1 S => ?_
  refine s_c (by omega) ?_
  refine s_c (by omega) ?_
  rw [show ((v : Int) + 7) / 8 = (((v + 7) / 8 : Nat) : Int) by omega]
  refine j_intro (fun _ w' => a + (v + 7) / 8 ≤ s.length ∧ St w0 r w' (.cell b4 [.int .i64 0, .slice none 0 0] Tryd.t_Row :: tkC tb s a :: L)) (fun K2 hK2 => ?_) ?_
  · have S := S.go (Ext.drew _)
    (repeat (first | refine s_p ?_ | refine s_c (by omega) ?_ | refine S.ld ?_ | refine S.ldB ?_ | refine S.ce ?_ | refine S.ceB ?_ | refine s_q ?_ | refine s_qc (by omega) ?_ | refine n_some ?_ | rw [List.getD_cons_zero] | rw [List.getD_cons_succ]))
    refine c_if (fun hgt => ?_) (fun hle => hK2 _ _ ⟨by omega, S⟩)
    rw [if_neg (by omega)] at hrd
    (repeat (first | refine s_p ?_ | refine s_c (by omega) ?_ | refine S.ld ?_ | refine S.ldB ?_ | refine S.ce ?_ | refine S.ceB ?_ | refine s_q ?_ | refine s_qc (by omega) ?_ | refine n_some ?_ | rw [List.getD_cons_zero] | rw [List.getD_cons_succ]))
    refine S.st fun w10 S => ?_
    have S := S.drop b4
    refine c_tk_give (a := s.length) S fun S => ⟨nf, hk _ hrd S⟩
  rintro _ w5 ⟨hle, S⟩ d5
  rw [if_pos hle] at hrd
  (repeat (first | refine s_p ?_ | refine s_c (by omega) ?_ | refine S.ld ?_ | refine S.ldB ?_ | refine S.ce ?_ | refine S.ceB ?_ | refine s_q ?_ | refine s_qc (by omega) ?_ | refine n_some ?_ | rw [List.getD_cons_zero] | rw [List.getD_cons_succ]))
  refine S.st fun w10 S => ?_
  refine p_build (cs := #[.int .i64 0, .slice none 0 0]) (by kernel_rfl) ?_
  refine S.stB fun w11 S => ?_
  refine S.ceB ?_
  have S := S.drop b4
  rw [show (a : Int) + (((v + 7) / 8 : Nat) : Int) = ((a + (v + 7) / 8 : Nat) : Int) by omega] at S
  exact h _ hrd hle S
/-- what passes a row -/
def rowF (st : Bool) (tb : Nat) : Value := .func (.func (if st then Tryd.n_cert_taker_row else Tryd.n_cert_taker_skip)) #[tkP tb] #[]
theorem ow_zero {sw : Gh} : OwC sw [.int .i64 0, .slice none 0 0] (0, []) := ⟨none, 0, rfl, fun _ => rfl, Nat.le_refl _, .inl rfl⟩
theorem c_tk_rowF {st : Bool} {v : Nat} (hv : v ≤ 1032) (S : St w0 r w (tkC tb s a :: L)) (hs : s.length ≤ 1000000000) (ha : a ≤ s.length)
    (h : ∀ c sw w', rd (rowG st v) s a = (a + (v + 7) / 8, some (rowT v s a)) → a + (v + 7) / 8 ≤ s.length → St w0 (r.or sw) w' (tkC tb s (a + (v + 7) / 8) :: L) → Above w0 sw → WordsOnly sw →
      OwC sw c (rowOut st v (rowT v s a)) → c.length = 2 → K (.agg c.toArray) w')
    (hk : ∀ b w', rd (rowG st v) s a = (b, none) → St w0 r w' (tkC tb s b :: L) → Kp (stuckA b) w') :
    oCallVP Tryd.prog (rowF st tb) #[.int .i64 (v : Nat)] w K Kp := by
  cases st with
  | true => exact vp_h1 (by kernel_rfl) (c_tk_row hv S hs ha h hk)
  | false =>
    refine vp_h1 (by kernel_rfl) (c_tk_skip hv S hs ha (fun w' h1 h2 S => ?_) fun w' h1 S => hk _ _ h1 S)
    exact h [.int .i64 0, .slice none 0 0] nothing w' h1 h2 (S.new (Ext.refl _) New.nothing) (fun b o h => h.elim) WordsOnly.no ow_zero rfl
theorem c_tk_list {st : Bool} {most : Nat} (hm : most ≤ 512) (S : St w0 r w (tkC tb s a :: L)) (hs : s.length ≤ 1000000000)
    (h : ∀ v sh sw (x : LstR) b w', rd (listG st most) s a = (b, some x) → b ≤ s.length → x.n ≤ 512 → x.w ≤ 1032 → x.l.length = x.n → St w0 ((r.or sw).or sh) w' (tkC tb s b :: L) → Above w0 sw → Above w0 sh → WordsOnly sw → NoWords sh →
      RwsO sh sw v (x.out st) → K (.tuple #[v, .int .i64 (x.w : Nat), .int .i64 ((a + 4 : Nat) : Int)]) w')
    (hk : ∀ b w', rd (listG st most) s a = (b, none) → St w0 r w' (tkC tb s b :: L) → Kp (stuckA b) w') :
    oCallP Tryd.prog Tryd.n_cert_taker_list #[tkP tb, .int .i64 (most : Nat), rowF st tb] w K Kp := by
  refine Tryd.ok_cert_taker_list ?_
  unfold Tryd.F_cert_taker_list
  have nf : ∀ {P : Prop}, false = true → P := fun h => by cases h
  rw [rd_list] at h hk
  refine c_tk_head (by omega) S hs (fun n wd b1 w1 hn hwd hb1 e1 S => ?_) (fun b1 w1 e1 S => ⟨nf, hk _ _ (by rw [e1]; rfl) S⟩)
  rw [e1] at h hk
  simp only [bd] at h hk
  have hb4 := head_at (by omega) e1
  have hwd2 : wd ≤ 1032 := by split at hwd <;> omega
  (repeat (first | refine s_p ?_ | refine s_c (by omega) ?_ | refine S.ld ?_ | refine S.ldB ?_ | refine S.ce ?_ | refine S.ceB ?_ | refine s_q ?_ | refine s_qc (by omega) ?_ | refine n_some ?_ | rw [List.getD_cons_zero] | rw [List.getD_cons_succ]))
  have S := (S.ownNil Tryd.t_Row 2).swap
  refine l_intro (ι := Value × Nat) (fun i => [i.1, .int .i64 i.2])
    (fun i w' => ∃ b done xs sw, i.2 ≤ n ∧ b ≤ s.length ∧ RepInv (fun _ => rowG st wd) n s b1 i.2 b done ∧ done.length = i.2 ∧ St w0 (r.or sw) w' (tkC tb s b :: .row i.1 Tryd.t_Row 2 i.2 xs :: L) ∧ Above w0 sw ∧ WordsOnly sw ∧ RowOf 2 (OwC sw) xs (done.map (rowOut st wd)))
    (fun i => n - i.2) (.slice none 0 0, 0) rfl ⟨b1, [], [], nothing, Nat.zero_le _, hb1, .start, rfl, S.new (Ext.refl _) New.nothing, fun b o h => h.elim, .no, .nil⟩ ?_
  rintro ⟨v, i⟩ d w' ⟨b, done, xs, sw, hi, hb, hinv, hdl, S, hab, hwo, hrows⟩ K1 hK1
  simp only at hi hinv hdl S hrows ⊢
  simp only [List.getD_cons_zero, List.getD_cons_succ]
  (first | refine s_p ?_ | refine s_c (by omega) ?_)
  refine c_if (fun hlt => ?_) (fun hge => ?_)
  · have hlt : i < n := by omega
    refine c_tk_rowF hwd2 S hs hb (fun c sw2 w2 e2 hb2 S hab2 hwo2 how hc => ?_) (fun b2 w2 e2 S => ⟨nf, hk _ _ (by rw [hinv.stuck hlt e2]) (S.d2.to r)⟩)
    have hbs : bslT Tryd.prog 48 1 #[(0, Value.agg c.toArray)] = some (Tryd.t_Row, c) := by
      obtain ⟨p, cap, rfl, _⟩ := how; kernel_rfl
    have h1 : ∀ u ∈ c, u.oneCell' = true := by obtain ⟨p, cap, rfl, _⟩ := how; simp [Value.oneCell']
    refine S.lit hbs fun b9 w3 S => ?_
    refine S.ap (m' := 1) (Sl.blk (S.blk b9)) (fun v4 w4 S => ?_) (by omega) (hl := by omega) (h1 := h1)
    (first | refine s_p ?_ | refine s_c (by omega) ?_)
    have S := S.drop b9
    refine hK1 (v4, i + 1) _ ⟨_, done ++ [rowT wd s b], _, sw.or sw2, hlt, hb2, hinv.step hlt e2, by simp [hdl], S.reGh, Above.or' hab hab2, hwo.or hwo2, ?_⟩ (by simp only; omega)
    rw [List.map_append]
    exact (hrows.mono fun _ _ h => h.up).snoc hc how.up
  · have hge : n ≤ i := by omega
    have hin : i = n := by omega
    have e3 := hinv.end_ hge
    rw [e3] at h
    obtain ⟨sh, S, hsl, hcl, hab2⟩ := S.swap.doneRow hrows (by decide) (by rw [List.length_map, hdl])
    have := h v sh sw ⟨n, wd, done⟩ b w' rfl hb (by simp only; omega) hwd2 (by simp only; omega) S hab (fun b o hb => (hab2 b o hb).resolve_right id) hwo (fun b o hb => by obtain ⟨c, rfl⟩ := hcl b o hb; exact ⟨c, _, rfl, by decide⟩) hsl
    rw [← hb4] at this
    exact this
theorem c_cert_limits {K : Value → World → Prop} (h : ∀ w', Ext w w' → K (.agg #[.int .i64 512, .int .i64 256, .int .i64 256]) w') : oCall Tryd.prog Tryd.n_cert_limits #[] w K := by
  refine Tryd.ok_cert_limits ?_
  unfold Tryd.F_cert_limits
  have S := St.start (all_holds w)
  refine S.al fun b w1 S => ?_
  refine p_build (cs := #[.int .i64 512, .int .i64 256, .int .i64 256]) (by kernel_rfl) ?_
  refine S.stB fun w2 S => ?_
  refine S.ceB ?_
  exact h _ S.ext
theorem c_cert_lists {b : Nat} {K : Value → World → Prop} (h : ∀ w', Ext w w' → K (.agg #[.pointer (some ⟨b, 0, none⟩), .pointer (some ⟨b, 1, none⟩), .pointer (some ⟨b, 2, none⟩)]) w') : oCall Tryd.prog Tryd.n_cert_lists #[.pointer (some ⟨b, 0, none⟩)] w K := by
  refine Tryd.ok_cert_lists ?_
  unfold Tryd.F_cert_lists
  have S := St.start (all_holds w)
  refine S.al fun b1 w1 S => ?_
  have S := S.go (Ext.drew _)
  (repeat (first | refine s_p ?_ | refine s_c (by omega) ?_ | refine S.ld ?_ | refine S.ldB ?_ | refine S.ce ?_ | refine S.ceB ?_ | refine s_q ?_ | refine s_qc (by omega) ?_ | refine n_some ?_ | rw [List.getD_cons_zero] | rw [List.getD_cons_succ]))
  refine S.stB fun w2 S => ?_
  refine S.ceB ?_
  exact h _ S.ext
theorem c_tk_fn (S : St w0 r w (tkC tb s a :: L)) (hs : s.length ≤ 1000000000)
    (h : ∀ c sh sw (f : FnR) b w', rd (fnG true) s a = (b, some f) → b ≤ s.length → St w0 ((r.or sw).or sh) w' (tkC tb s b :: L) → Above w0 sw → Above w0 sh → WordsOnly sw → NoWords sh → FnO sh sw c f.fn → K (.agg c.toArray) w')
    (hk : ∀ b w', rd (fnG true) s a = (b, none) → St w0 r w' (tkC tb s b :: L) → Kp (stuckA b) w') :
    oCallP Tryd.prog Tryd.n_cert_taker_fn #[tkP tb] w K Kp := by
  refine Tryd.ok_cert_taker_fn ?_
  unfold Tryd.F_cert_taker_fn
  have nf : ∀ {P : Prop}, false = true → P := fun h => by cases h
  rw [rd_fn] at h hk
  refine S.al fun b2 w1 S => ?_
  refine S.al fun b3 w2 S => ?_
  refine P_of_oCall (c_cert_lists fun w3 e3 => ?_)
  have S := S.go e3
  refine l_unroll 4 ?_
  intro d4 K4 hK4
  (repeat (first | refine s_p ?_ | refine s_c (by omega) ?_ | refine S.ld ?_ | refine S.ldB ?_ | refine S.ce ?_ | refine S.ceB ?_ | refine s_q ?_ | refine s_qc (by omega) ?_ | refine n_some ?_ | rw [List.getD_cons_zero] | rw [List.getD_cons_succ]))
  refine c_t rfl ?_
  refine p_ix (k := ⟨by kernel_rfl⟩) (v := .pointer (some ⟨b3, 0, none⟩)) rfl (by decide) (by decide) ?_
  refine P_of_oCall (c_cert_limits fun w5 e5 => ?_)
  have S := S.go e5
  refine p_ix (v := .int .i64 512) rfl (by decide) (by decide) ?_
  (repeat (first | refine s_p ?_ | refine s_c (by omega) ?_ | refine S.ld ?_ | refine S.ldB ?_ | refine S.ce ?_ | refine S.ceB ?_ | refine s_q ?_ | refine s_qc (by omega) ?_ | refine n_some ?_ | rw [List.getD_cons_zero] | rw [List.getD_cons_succ]))
  have S := S.pull tb
  refine c_tk_list (st := true) (most := 512) (by decide) S hs (fun v1 sh1 sw1 x b6 w6 e6 hb6 _ _ _ S a1 a2 h1 h2 g1 => ?_) (fun b6 w6 e6 S => ⟨nf, hk _ _ (by rw [e6]; rfl) ((S.drop b3).drop b2)⟩)
  rw [e6] at h hk
  simp only [bd] at h hk
  obtain ⟨p1, cap1, rfl, _⟩ := g1.shape
  (repeat (first | refine s_p ?_ | refine s_c (by omega) ?_ | refine S.ld ?_ | refine S.ldB ?_ | refine S.ce ?_ | refine S.ceB ?_ | refine s_q ?_ | refine s_qc (by omega) ?_ | refine n_some ?_ | rw [List.getD_cons_zero] | rw [List.getD_cons_succ]))
  refine S.st fun w7 S => ?_
  (repeat (first | refine s_p ?_ | refine s_c (by omega) ?_ | refine S.ld ?_ | refine S.ldB ?_ | refine S.ce ?_ | refine S.ceB ?_ | refine s_q ?_ | refine s_qc (by omega) ?_ | refine n_some ?_ | rw [List.getD_cons_zero] | rw [List.getD_cons_succ]))
  refine hK4 _ _ ?_
  clear hK4 K4
  intro d4 K4 hK4
  (repeat (first | refine s_p ?_ | refine s_c (by omega) ?_ | refine S.ld ?_ | refine S.ldB ?_ | refine S.ce ?_ | refine S.ceB ?_ | refine s_q ?_ | refine s_qc (by omega) ?_ | refine n_some ?_ | rw [List.getD_cons_zero] | rw [List.getD_cons_succ]))
  refine c_t rfl ?_
  refine p_ix (k := ⟨by kernel_rfl⟩) (v := .pointer (some ⟨b3, 1, none⟩)) rfl (by decide) (by decide) ?_
  refine P_of_oCall (c_cert_limits fun w8 e8 => ?_)
  have S := S.go e8
  refine p_ix (v := .int .i64 256) rfl (by decide) (by decide) ?_
  (repeat (first | refine s_p ?_ | refine s_c (by omega) ?_ | refine S.ld ?_ | refine S.ldB ?_ | refine S.ce ?_ | refine S.ceB ?_ | refine s_q ?_ | refine s_qc (by omega) ?_ | refine n_some ?_ | rw [List.getD_cons_zero] | rw [List.getD_cons_succ]))
  refine c_tk_list (st := true) (most := 256) (by decide) S hs (fun v2 sh2 sw2 y b9 w9 e9 hb9 _ _ _ S a3 a4 h3 h4 g2 => ?_) (fun b9 w9 e9 S => ⟨nf, hk _ _ (by rw [e9]) (((S.drop b3).drop b2).to r)⟩)
  rw [e9] at h hk
  simp only [bd] at h hk
  obtain ⟨p2, cap2, rfl, _⟩ := g2.shape
  (repeat (first | refine s_p ?_ | refine s_c (by omega) ?_ | refine S.ld ?_ | refine S.ldB ?_ | refine S.ce ?_ | refine S.ceB ?_ | refine s_q ?_ | refine s_qc (by omega) ?_ | refine n_some ?_ | rw [List.getD_cons_zero] | rw [List.getD_cons_succ]))
  refine S.st fun w10 S => ?_
  (repeat (first | refine s_p ?_ | refine s_c (by omega) ?_ | refine S.ld ?_ | refine S.ldB ?_ | refine S.ce ?_ | refine S.ceB ?_ | refine s_q ?_ | refine s_qc (by omega) ?_ | refine n_some ?_ | rw [List.getD_cons_zero] | rw [List.getD_cons_succ]))
  refine hK4 _ _ ?_
  clear hK4 K4
  intro d4 K4 hK4
  (repeat (first | refine s_p ?_ | refine s_c (by omega) ?_ | refine S.ld ?_ | refine S.ldB ?_ | refine S.ce ?_ | refine S.ceB ?_ | refine s_q ?_ | refine s_qc (by omega) ?_ | refine n_some ?_ | rw [List.getD_cons_zero] | rw [List.getD_cons_succ]))
  refine c_t rfl ?_
  refine p_ix (k := ⟨by kernel_rfl⟩) (v := .pointer (some ⟨b3, 2, none⟩)) rfl (by decide) (by decide) ?_
  refine P_of_oCall (c_cert_limits fun w11 e11 => ?_)
  have S := S.go e11
  refine p_ix (v := .int .i64 256) rfl (by decide) (by decide) ?_
  (repeat (first | refine s_p ?_ | refine s_c (by omega) ?_ | refine S.ld ?_ | refine S.ldB ?_ | refine S.ce ?_ | refine S.ceB ?_ | refine s_q ?_ | refine s_qc (by omega) ?_ | refine n_some ?_ | rw [List.getD_cons_zero] | rw [List.getD_cons_succ]))
  refine c_tk_list (st := true) (most := 256) (by decide) S hs (fun v3 sh3 sw3 z b12 w12 e12 hb12 _ _ _ S a5 a6 h5 h6 g3 => ?_) (fun b12 w12 e12 S => ⟨nf, hk _ _ (by rw [e12]) (((S.drop b3).drop b2).to r)⟩)
  rw [e12] at h hk
  simp only [bd] at h hk
  obtain ⟨p3, cap3, rfl, _⟩ := g3.shape
  (repeat (first | refine s_p ?_ | refine s_c (by omega) ?_ | refine S.ld ?_ | refine S.ldB ?_ | refine S.ce ?_ | refine S.ceB ?_ | refine s_q ?_ | refine s_qc (by omega) ?_ | refine n_some ?_ | rw [List.getD_cons_zero] | rw [List.getD_cons_succ]))
  refine S.st fun w13 S => ?_
  (repeat (first | refine s_p ?_ | refine s_c (by omega) ?_ | refine S.ld ?_ | refine S.ldB ?_ | refine S.ce ?_ | refine S.ceB ?_ | refine s_q ?_ | refine s_qc (by omega) ?_ | refine n_some ?_ | rw [List.getD_cons_zero] | rw [List.getD_cons_succ]))
  refine hK4 _ _ ?_
  clear hK4 K4
  intro d4 K4 hK4
  (repeat (first | refine s_p ?_ | refine s_c (by omega) ?_ | refine S.ld ?_ | refine S.ldB ?_ | refine S.ce ?_ | refine S.ceB ?_ | refine s_q ?_ | refine s_qc (by omega) ?_ | refine n_some ?_ | rw [List.getD_cons_zero] | rw [List.getD_cons_succ]))
  simp only [List.set_cons_zero, List.set_cons_succ] at S ⊢
  refine S.stB fun w14 S => ?_
  (repeat (first | refine s_p ?_ | refine s_c (by omega) ?_ | refine S.ld ?_ | refine S.ldB ?_ | refine S.ce ?_ | refine S.ceB ?_ | refine s_q ?_ | refine s_qc (by omega) ?_ | refine n_some ?_ | rw [List.getD_cons_zero] | rw [List.getD_cons_succ]))
  have S := ((S.drop b3).drop b2).to ((r.or (sw1.or (sw2.or sw3))).or (sh1.or (sh2.or sh3)))
  exact h [_, _, _] (sh1.or (sh2.or sh3)) (sw1.or (sw2.or sw3)) _ b12 _ rfl hb12 S (a1.or' (a3.or' a5)) (a2.or' (a4.or' a6)) (h1.or (h3.or h5)) (h2.or (h4.or h6)) ⟨_, _, _, rfl, g1.up, g2.up, g3.up⟩
end

end Go.Proofs
end

section
namespace Go.Proofs
open Go.Sh
set_option maxRecDepth 100000
/- 31: loanword/loanwordref20.list -/
def Tryd.A_ref20_list : Ann := .s (.r (.op 0 .p (.nil))) (.s (.s (.r (.op 0 .p (.op 1 .p (.op 2 .p (.op 3 .p (.nil)))))) (.c (.s (.r (.op 0 .p (.nil))) (.n)) (.n))) (.s (.s (.r (.op 0 .p (.nil))) (.b (.lp [5] (.s (.s (.r (.op 0 .p (.op 1 .p (.op 2 .p (.op 3 .p (.nil)))))) (.c (.n) (.n))) (.s (.b (.s (.r (.op 0 .p (.op 1 .p (.op 2 .p (.op 3 .q (.op 4 .l (.op 5 .p (.op 6 .p (.grp 22 false [(7, .p), (8, .p), (9, .p), (10, .p), (11, .q), (12, .p), (13, .p), (14, .p), (15, .q), (16, .p)] [32] (.op 17 .p (.nil))))))))))) (.c (.s (.r (.op 0 .p (.nil))) (.n)) (.n)))) (.r (.op 0 .p (.op 1 .p (.op 2 .p (.nil)))))))))) (.s (.r (.op 0 .p (.nil))) (.n))))
def Tryd.F_ref20_list (t0 : Value) (t1 : Value) (w : World) (K : Value → World → Prop) : Prop :=
 opP Tryd.prog (Builtin.len_ #[48] 3 #[t0]) fun t7 =>
 opP Tryd.prog (bsem .gtr 3 false t7 t1) fun t9 =>
 oCond t9 (K (Value.bool false) w) (sLoop [(Value.int .i64 0)] w (fun s2 _d3 w4 K1 =>
 opP Tryd.prog (Builtin.len_ #[48] 3 #[t0]) fun t12 =>
 opP Tryd.prog (bsem .lss 3 false (s2.getD 0 undef) t12) fun t13 =>
 oCond t13 (opP Tryd.prog (Instr.indexAt 48 t0 (s2.getD 0 undef)) fun t18 =>
 opQ Tryd.prog w4.drew (Instr.loadAt 65 t18) fun t19 =>
 oCall Tryd.prog Tryd.n_ref01_May #[t19] w4.drew fun t20 w5 =>
 opP Tryd.prog (Op.unary .not t20) fun t21 =>
 sJoin (fun K6 => gIf t21 false (opP Tryd.prog (Instr.indexAt 48 t0 (s2.getD 0 undef)) fun t25 =>
 opP Tryd.prog (Instr.fieldAt 65 t25 0) fun t26 =>
 opQ Tryd.prog w5 (Instr.loadAt 3 t26) fun t27 =>
 opP Tryd.prog (Instr.indexAt 48 t0 (Value.int .i64 0)) fun t29 =>
 opP Tryd.prog (Instr.fieldAt 65 t29 0) fun t30 =>
 opQ Tryd.prog w5 (Instr.loadAt 3 t30) fun t31 =>
 opP Tryd.prog (bsem .neq 3 false t27 t31) fun t32 =>
 K6 [t32] w5) (K6 [undef] w5)) (fun s7 _d8 w9 =>
 oPick t21 (Value.bool true) (s7.getD 0 undef) fun t33 =>
 oCond t33 (K (Value.bool false) w9) (opP Tryd.prog (bsem .add 3 true (s2.getD 0 undef) (Value.int .i64 1)) fun t15 =>
 K1 [t15] w9))) (K (Value.bool true) w4)))
theorem Tryd.E_ref20_list (t0 t1 : Value) (w : World) (K : Value → World → Prop) : sw ⟨false, false⟩ Tryd.prog (fun _ _ => False) Tryd.A_ref20_list (bodyOf Tryd.f31) [t0, t1, undef, undef, undef, undef, undef, undef, undef, undef, undef, undef, undef, undef, undef, undef, undef, undef, undef, undef, undef, undef, undef, undef, undef, undef, undef, undef, undef, undef, undef, undef, undef, undef] w (topQ false Tryd.prog Tryd.f31 w K) = Tryd.F_ref20_list t0 t1 w K := by kernel_rfl
theorem Tryd.C_ref20_list : chk ⟨false, false⟩ Tryd.prog false Tryd.A_ref20_list (bodyOf Tryd.f31) = true := by kernel_rfl
theorem Tryd.ok_ref20_list {t0 t1 : Value} {w : World} {K : Value → World → Prop} (h : Tryd.F_ref20_list t0 t1 w K) : oCall Tryd.prog Tryd.n_ref20_list #[t0, t1] w K :=
  calls_of_sw (cf := ⟨false, false⟩) Tryd.mixed Tryd.func31 rfl Tryd.C_ref20_list ((Tryd.E_ref20_list t0 t1 w K).mpr h)

/- 12: loanword/loanwordref20.May -/
def Tryd.A_ref20_May : Ann := .s (.r (.op 0 .l (.op 1 .p (.nil)))) (.s (.s (.r (.op 0 .p (.op 1 .q (.op 2 .p (.op 3 .p (.op 4 .p (.grp 8 false [(5, .p), (6, .q), (7, .p), (8, .p)] [12] (.op 9 .p (.nil))))))))) (.c (.s (.r (.op 0 .p (.nil))) (.n)) (.n))) (.s (.s (.r (.op 0 .p (.nil))) (.b (.lp [3] (.s (.s (.r (.op 0 .p (.op 1 .p (.op 2 .q (.op 3 .p (.op 4 .p (.nil))))))) (.c (.n) (.n))) (.s (.b (.s (.r (.op 0 .p (.op 1 .q (.op 2 .p (.op 3 .p (.op 4 .p (.op 5 .q (.op 6 .l (.op 7 .p (.op 8 .p (.grp 29 false [(9, .p), (10, .q), (11, .p), (12, .p), (13, .p), (14, .q), (15, .l), (16, .p)] [37] (.op 17 .p (.op 18 .p (.grp 39 false [(19, .p), (20, .q), (21, .p), (22, .p), (23, .p), (24, .q), (25, .l), (26, .p)] [47] (.op 27 .p (.nil)))))))))))))))) (.c (.s (.r (.op 0 .p (.nil))) (.n)) (.n)))) (.r (.op 0 .p (.op 1 .p (.op 2 .p (.nil)))))))))) (.s (.r (.op 0 .p (.nil))) (.n))))
def Tryd.F_ref20_May (t0 : Value) (w : World) (K : Value → World → Prop) : Prop :=
 opW Tryd.prog w (Instr.box 24 t0) fun t1 w1 =>
 opP Tryd.prog (Instr.fieldAt 24 t1 0) fun t4 =>
 opQ Tryd.prog w1 (Instr.loadAt 22 t4) fun t5 =>
 opP Tryd.prog (Builtin.len_ #[22] 3 #[t5]) fun t6 =>
 opP Tryd.prog (bsem .lss 3 true t6 (Value.int .i64 1)) fun t7 =>
 sJoin (fun K2 => gIf t7 false (opP Tryd.prog (Instr.fieldAt 24 t1 0) fun t9 =>
 opQ Tryd.prog w1 (Instr.loadAt 22 t9) fun t10 =>
 opP Tryd.prog (Builtin.len_ #[22] 3 #[t10]) fun t11 =>
 opP Tryd.prog (bsem .gtr 3 true t11 (Value.int .i64 32)) fun t12 =>
 K2 [t12] w1) (K2 [undef] w1)) (fun s3 _d4 w5 =>
 oPick t7 (Value.bool true) (s3.getD 0 undef) fun t13 =>
 oCond t13 (K (Value.bool false) w5) (sLoop [(Value.int .i64 0)] w5 (fun s7 _d8 w9 K6 =>
 opP Tryd.prog (Instr.fieldAt 24 t1 0) fun t15 =>
 opQ Tryd.prog w9 (Instr.loadAt 22 t15) fun t16 =>
 opP Tryd.prog (Builtin.len_ #[22] 3 #[t16]) fun t17 =>
 opP Tryd.prog (bsem .lss 3 false (s7.getD 0 undef) t17) fun t18 =>
 oCond t18 (opP Tryd.prog (Instr.fieldAt 24 t1 0) fun t21 =>
 opQ Tryd.prog w9 (Instr.loadAt 22 t21) fun t22 =>
 opP Tryd.prog (Instr.indexAt 22 t22 (s7.getD 0 undef)) fun t24 =>
 opP Tryd.prog (Instr.fieldAt 50 t24 0) fun t25 =>
 opQ Tryd.prog w9 (Instr.loadAt 48 t25) fun t26 =>
 oCall Tryd.prog Tryd.n_ref20_list #[t26, (Value.int .i64 512)] w9 fun t27 w10 =>
 opP Tryd.prog (Op.unary .not t27) fun t28 =>
 sJoin (fun K11 => gIf t28 false (opP Tryd.prog (Instr.fieldAt 24 t1 0) fun t30 =>
 opQ Tryd.prog w10 (Instr.loadAt 22 t30) fun t31 =>
 opP Tryd.prog (Instr.indexAt 22 t31 (s7.getD 0 undef)) fun t33 =>
 opP Tryd.prog (Instr.fieldAt 50 t33 1) fun t34 =>
 opQ Tryd.prog w10 (Instr.loadAt 48 t34) fun t35 =>
 oCall Tryd.prog Tryd.n_ref20_list #[t35, (Value.int .i64 256)] w10 fun t36 w15 =>
 opP Tryd.prog (Op.unary .not t36) fun t37 =>
 K11 [t37] w15) (K11 [undef] w10)) (fun s12 _d13 w14 =>
 oPick t28 (Value.bool true) (s12.getD 0 undef) fun t38 =>
 sJoin (fun K16 => gIf t38 false (opP Tryd.prog (Instr.fieldAt 24 t1 0) fun t40 =>
 opQ Tryd.prog w14 (Instr.loadAt 22 t40) fun t41 =>
 opP Tryd.prog (Instr.indexAt 22 t41 (s7.getD 0 undef)) fun t43 =>
 opP Tryd.prog (Instr.fieldAt 50 t43 2) fun t44 =>
 opQ Tryd.prog w14 (Instr.loadAt 48 t44) fun t45 =>
 oCall Tryd.prog Tryd.n_ref20_list #[t45, (Value.int .i64 256)] w14 fun t46 w20 =>
 opP Tryd.prog (Op.unary .not t46) fun t47 =>
 K16 [t47] w20) (K16 [undef] w14)) (fun s17 _d18 w19 =>
 oPick t38 (Value.bool true) (s17.getD 0 undef) fun t48 =>
 oCond t48 (K (Value.bool false) w19) (opP Tryd.prog (bsem .add 3 true (s7.getD 0 undef) (Value.int .i64 1)) fun t20 =>
 K6 [t20] w19)))) (K (Value.bool true) w9))))
theorem Tryd.E_ref20_May (t0 : Value) (w : World) (K : Value → World → Prop) : sw ⟨false, false⟩ Tryd.prog (fun _ _ => False) Tryd.A_ref20_May (bodyOf Tryd.f12) [t0, undef, undef, undef, undef, undef, undef, undef, undef, undef, undef, undef, undef, undef, undef, undef, undef, undef, undef, undef, undef, undef, undef, undef, undef, undef, undef, undef, undef, undef, undef, undef, undef, undef, undef, undef, undef, undef, undef, undef, undef, undef, undef, undef, undef, undef, undef, undef, undef] w (topQ false Tryd.prog Tryd.f12 w K) = Tryd.F_ref20_May t0 w K := by kernel_rfl
theorem Tryd.C_ref20_May : chk ⟨false, false⟩ Tryd.prog false Tryd.A_ref20_May (bodyOf Tryd.f12) = true := by kernel_rfl
theorem Tryd.ok_ref20_May {t0 : Value} {w : World} {K : Value → World → Prop} (h : Tryd.F_ref20_May t0 w K) : oCall Tryd.prog Tryd.n_ref20_May #[t0] w K :=
  calls_of_sw (cf := ⟨false, false⟩) Tryd.mixed Tryd.func12 rfl Tryd.C_ref20_May ((Tryd.E_ref20_May t0 w K).mpr h)

/- 17: loanword/loanwordref20.Equal -/
def Tryd.A_ref20_Equal : Ann := .s (.r (.op 0 .l (.op 1 .l (.op 2 .p (.nil))))) (.s (.s (.r (.op 0 .p (.op 1 .q (.op 2 .p (.op 3 .p (.op 4 .q (.op 5 .p (.op 6 .p (.nil))))))))) (.c (.s (.r (.op 0 .p (.nil))) (.n)) (.n))) (.s (.s (.r (.op 0 .p (.nil))) (.b (.lp [5] (.s (.s (.r (.op 0 .p (.op 1 .p (.op 2 .q (.op 3 .p (.op 4 .p (.nil))))))) (.c (.n) (.n))) (.s (.b (.s (.r (.op 0 .p (.op 1 .q (.op 2 .p (.op 3 .p (.op 4 .q (.op 5 .p (.op 6 .q (.op 7 .p (.op 8 .p (.op 9 .q (.op 10 .l (.op 11 .p (.nil)))))))))))))) (.c (.s (.r (.op 0 .p (.nil))) (.n)) (.n)))) (.r (.op 0 .p (.op 1 .p (.op 2 .p (.nil)))))))))) (.s (.r (.op 0 .p (.nil))) (.n))))
def Tryd.F_ref20_Equal (t0 : Value) (t1 : Value) (w : World) (K : Value → World → Prop) : Prop :=
 opW Tryd.prog w (Instr.box 24 t0) fun t2 w1 =>
 opW Tryd.prog w1 (Instr.box 24 t1) fun t3 w2 =>
 opP Tryd.prog (Instr.fieldAt 24 t2 0) fun t6 =>
 opQ Tryd.prog w2 (Instr.loadAt 22 t6) fun t7 =>
 opP Tryd.prog (Builtin.len_ #[22] 3 #[t7]) fun t8 =>
 opP Tryd.prog (Instr.fieldAt 24 t3 0) fun t9 =>
 opQ Tryd.prog w2 (Instr.loadAt 22 t9) fun t10 =>
 opP Tryd.prog (Builtin.len_ #[22] 3 #[t10]) fun t11 =>
 opP Tryd.prog (bsem .neq 3 false t8 t11) fun t12 =>
 oCond t12 (K (Value.bool false) w2) (sLoop [(Value.int .i64 0)] w2 (fun s4 _d5 w6 K3 =>
 opP Tryd.prog (Instr.fieldAt 24 t2 0) fun t14 =>
 opQ Tryd.prog w6 (Instr.loadAt 22 t14) fun t15 =>
 opP Tryd.prog (Builtin.len_ #[22] 3 #[t15]) fun t16 =>
 opP Tryd.prog (bsem .lss 3 false (s4.getD 0 undef) t16) fun t17 =>
 oCond t17 (opP Tryd.prog (Instr.fieldAt 24 t2 0) fun t20 =>
 opQ Tryd.prog w6.drew (Instr.loadAt 22 t20) fun t21 =>
 opP Tryd.prog (Instr.indexAt 22 t21 (s4.getD 0 undef)) fun t23 =>
 opQ Tryd.prog w6.drew (Instr.loadAt 50 t23) fun t24 =>
 opP Tryd.prog (Instr.fieldAt 24 t3 0) fun t25 =>
 opQ Tryd.prog w6.drew (Instr.loadAt 22 t25) fun t26 =>
 opP Tryd.prog (Instr.indexAt 22 t26 (s4.getD 0 undef)) fun t28 =>
 opQ Tryd.prog w6.drew (Instr.loadAt 50 t28) fun t29 =>
 oCall Tryd.prog Tryd.n_ref20_EqualFn #[t24, t29] w6.drew fun t30 w7 =>
 opP Tryd.prog (Op.unary .not t30) fun t31 =>
 oCond t31 (K (Value.bool false) w7) (opP Tryd.prog (bsem .add 3 true (s4.getD 0 undef) (Value.int .i64 1)) fun t19 =>
 K3 [t19] w7)) (K (Value.bool true) w6)))
theorem Tryd.E_ref20_Equal (t0 t1 : Value) (w : World) (K : Value → World → Prop) : sw ⟨false, false⟩ Tryd.prog (fun _ _ => False) Tryd.A_ref20_Equal (bodyOf Tryd.f17) [t0, t1, undef, undef, undef, undef, undef, undef, undef, undef, undef, undef, undef, undef, undef, undef, undef, undef, undef, undef, undef, undef, undef, undef, undef, undef, undef, undef, undef, undef, undef, undef] w (topQ false Tryd.prog Tryd.f17 w K) = Tryd.F_ref20_Equal t0 t1 w K := by kernel_rfl
theorem Tryd.C_ref20_Equal : chk ⟨false, false⟩ Tryd.prog false Tryd.A_ref20_Equal (bodyOf Tryd.f17) = true := by kernel_rfl
theorem Tryd.ok_ref20_Equal {t0 t1 : Value} {w : World} {K : Value → World → Prop} (h : Tryd.F_ref20_Equal t0 t1 w K) : oCall Tryd.prog Tryd.n_ref20_Equal #[t0, t1] w K :=
  calls_of_sw (cf := ⟨false, false⟩) Tryd.mixed Tryd.func17 rfl Tryd.C_ref20_Equal ((Tryd.E_ref20_Equal t0 t1 w K).mpr h)

/- 27: loanword/loanwordref20.EqualFn -/
def Tryd.A_ref20_EqualFn : Ann := .s (.r (.op 0 .l (.op 1 .l (.op 2 .p (.nil))))) (.s (.r (.op 0 .p (.op 1 .q (.op 2 .p (.op 3 .q (.op 4 .l (.op 5 .p (.grp 10 true [(6, .p), (7, .q), (8, .p), (9, .q), (10, .l)] [15] (.op 11 .p (.op 12 .p (.grp 17 true [(13, .p), (14, .q), (15, .p), (16, .q), (17, .l)] [22] (.op 18 .p (.op 19 .p (.nil)))))))))))))) (.n))
def Tryd.F_ref20_EqualFn (t0 : Value) (t1 : Value) (w : World) (K : Value → World → Prop) : Prop :=
 opW Tryd.prog w (Instr.box 50 t0) fun t2 w1 =>
 opW Tryd.prog w1 (Instr.box 50 t1) fun t3 w2 =>
 opP Tryd.prog (Instr.fieldAt 50 t2 0) fun t5 =>
 opQ Tryd.prog w2 (Instr.loadAt 48 t5) fun t6 =>
 opP Tryd.prog (Instr.fieldAt 50 t3 0) fun t7 =>
 opQ Tryd.prog w2 (Instr.loadAt 48 t7) fun t8 =>
 oCall Tryd.prog Tryd.n_ref01_SameAll #[t6, t8] w2 fun t9 w3 =>
 sJoin (fun K4 => gIf t9 true (opP Tryd.prog (Instr.fieldAt 50 t2 1) fun t11 =>
 opQ Tryd.prog w3 (Instr.loadAt 48 t11) fun t12 =>
 opP Tryd.prog (Instr.fieldAt 50 t3 1) fun t13 =>
 opQ Tryd.prog w3 (Instr.loadAt 48 t13) fun t14 =>
 oCall Tryd.prog Tryd.n_ref01_SameAll #[t12, t14] w3 fun t15 w8 =>
 K4 [t15] w8) (K4 [undef] w3)) (fun s5 _d6 w7 =>
 oPick t9 (s5.getD 0 undef) (Value.bool false) fun t16 =>
 sJoin (fun K9 => gIf t16 true (opP Tryd.prog (Instr.fieldAt 50 t2 2) fun t18 =>
 opQ Tryd.prog w7 (Instr.loadAt 48 t18) fun t19 =>
 opP Tryd.prog (Instr.fieldAt 50 t3 2) fun t20 =>
 opQ Tryd.prog w7 (Instr.loadAt 48 t20) fun t21 =>
 oCall Tryd.prog Tryd.n_ref01_SameAll #[t19, t21] w7 fun t22 w13 =>
 K9 [t22] w13) (K9 [undef] w7)) (fun s10 _d11 w12 =>
 oPick t16 (s10.getD 0 undef) (Value.bool false) fun t23 =>
 K t23 w12))
theorem Tryd.E_ref20_EqualFn (t0 t1 : Value) (w : World) (K : Value → World → Prop) : sw ⟨false, false⟩ Tryd.prog (fun _ _ => False) Tryd.A_ref20_EqualFn (bodyOf Tryd.f27) [t0, t1, undef, undef, undef, undef, undef, undef, undef, undef, undef, undef, undef, undef, undef, undef, undef, undef, undef, undef, undef, undef, undef, undef] w (topQ false Tryd.prog Tryd.f27 w K) = Tryd.F_ref20_EqualFn t0 t1 w K := by kernel_rfl
theorem Tryd.C_ref20_EqualFn : chk ⟨false, false⟩ Tryd.prog false Tryd.A_ref20_EqualFn (bodyOf Tryd.f27) = true := by kernel_rfl
theorem Tryd.ok_ref20_EqualFn {t0 t1 : Value} {w : World} {K : Value → World → Prop} (h : Tryd.F_ref20_EqualFn t0 t1 w K) : oCall Tryd.prog Tryd.n_ref20_EqualFn #[t0, t1] w K :=
  calls_of_sw (cf := ⟨false, false⟩) Tryd.mixed Tryd.func27 rfl Tryd.C_ref20_EqualFn ((Tryd.E_ref20_EqualFn t0 t1 w K).mpr h)

/- 11: loanword/loanwordref20.Own -/
def Tryd.A_ref20_Own : Ann := .s (.r (.op 0 .l (.op 1 .l (.nil)))) (.s (.r (.op 0 .l (.nil))) (.s (.s (.r (.op 0 .p (.nil))) (.b (.lp [4] (.s (.s (.r (.op 0 .p (.op 1 .p (.op 2 .q (.op 3 .p (.op 4 .p (.nil))))))) (.c (.n) (.n))) (.s (.b (.r (.op 0 .p (.op 1 .q (.op 2 .p (.op 3 .q (.op 4 .p (.op 5 .p (.op 6 .q (.op 7 .u (.op 8 .u (.op 9 .l (.op 10 .p (.op 11 .l (.nil))))))))))))))) (.r (.op 0 .p (.op 1 .p (.op 2 .p (.nil)))))))))) (.s (.r (.op 0 .q (.op 1 .l (.nil)))) (.n))))
def Tryd.F_ref20_Own (t0 : Value) (w : World) (K : Value → World → Prop) : Prop :=
 opW Tryd.prog w (Instr.box 24 t0) fun t1 w1 =>
 opW Tryd.prog w1 (Instr.alloc 24 true (.tuple #[])) fun t2 w2 =>
 opW Tryd.prog w2 (Instr.alloc 24 true (.tuple #[])) fun t3 w3 =>
 sLoop [(Value.int .i64 0)] w3 (fun s5 _d6 w7 K4 =>
 opP Tryd.prog (Instr.fieldAt 24 t1 0) fun t6 =>
 opQ Tryd.prog w7 (Instr.loadAt 22 t6) fun t7 =>
 opP Tryd.prog (Builtin.len_ #[22] 3 #[t7]) fun t8 =>
 opP Tryd.prog (bsem .lss 3 false (s5.getD 0 undef) t8) fun t9 =>
 oCond t9 (opP Tryd.prog (Instr.fieldAt 24 t3 0) fun t12 =>
 opQ Tryd.prog w7.drew (Instr.loadAt 22 t12) fun t13 =>
 opP Tryd.prog (Instr.fieldAt 24 t1 0) fun t14 =>
 opQ Tryd.prog w7.drew (Instr.loadAt 22 t14) fun t15 =>
 opP Tryd.prog (Instr.indexAt 22 t15 (s5.getD 0 undef)) fun t17 =>
 opQ Tryd.prog w7.drew (Instr.loadAt 50 t17) fun t18 =>
 oCall Tryd.prog Tryd.n_ref20_OwnFn #[t18] w7.drew fun t19 w8 =>
 Ext w7.drew w8 ∧
 opW Tryd.prog w8 (Instr.buildSlice 22 1 #[(0, t19)]) fun t20 w9 =>
 Ext w8 w9 ∧
 opW Tryd.prog w9 (Builtin.append_ #[22, 22] 22 #[t13, t20]) fun t21 w10 =>
 opP Tryd.prog (Instr.fieldAt 24 t3 0) fun t22 =>
 opU Tryd.prog w10 (Instr.storeAt 22 t22 t21) fun w11 =>
 opP Tryd.prog (bsem .add 3 true (s5.getD 0 undef) (Value.int .i64 1)) fun t11 =>
 K4 [t11] w11) (opQ Tryd.prog w7 (Instr.loadAt 24 t3) fun t23 =>
 opU Tryd.prog w7 (Instr.storeAt 24 t2 t23) fun w12 =>
 opQ Tryd.prog w12 (cellSem 24 t2) fun r13 =>
 K r13 w12))
theorem Tryd.E_ref20_Own (t0 : Value) (w : World) (K : Value → World → Prop) : sw ⟨false, false⟩ Tryd.prog (fun _ _ => False) Tryd.A_ref20_Own (bodyOf Tryd.f11) [t0, undef, undef, undef, undef, undef, undef, undef, undef, undef, undef, undef, undef, undef, undef, undef, undef, undef, undef, undef, undef, undef, undef, undef] w (topQ false Tryd.prog Tryd.f11 w K) = Tryd.F_ref20_Own t0 w K := by kernel_rfl
theorem Tryd.C_ref20_Own : chk ⟨false, false⟩ Tryd.prog false Tryd.A_ref20_Own (bodyOf Tryd.f11) = true := by kernel_rfl
theorem Tryd.ok_ref20_Own {t0 : Value} {w : World} {K : Value → World → Prop} (h : Tryd.F_ref20_Own t0 w K) : oCall Tryd.prog Tryd.n_ref20_Own #[t0] w K :=
  calls_of_sw (cf := ⟨false, false⟩) Tryd.mixed Tryd.func11 rfl Tryd.C_ref20_Own ((Tryd.E_ref20_Own t0 w K).mpr h)

/- 30: loanword/loanwordref20.OwnFn -/
def Tryd.A_ref20_OwnFn : Ann := .s (.r (.op 0 .l (.op 1 .l (.nil)))) (.s (.r (.op 0 .p (.op 1 .q (.op 3 .p (.op 4 .q (.op 6 .p (.op 7 .q (.op 2 .u (.op 5 .u (.op 8 .l (.op 9 .p (.op 10 .l (.nil))))))))))))) (.n))
def Tryd.F_ref20_OwnFn (t0 : Value) (w : World) (K : Value → World → Prop) : Prop :=
 opW Tryd.prog w (Instr.box 50 t0) fun t1 w1 =>
 opW Tryd.prog w1 (Instr.alloc 50 true (.tuple #[])) fun t2 w2 =>
 opP Tryd.prog (Instr.fieldAt 50 t1 0) fun t3 =>
 opQ Tryd.prog w2.drew (Instr.loadAt 48 t3) fun t4 =>
 opP Tryd.prog (Instr.fieldAt 50 t1 1) fun t6 =>
 opQ Tryd.prog w2.drew (Instr.loadAt 48 t6) fun t7 =>
 opP Tryd.prog (Instr.fieldAt 50 t1 2) fun t9 =>
 opQ Tryd.prog w2.drew (Instr.loadAt 48 t9) fun t10 =>
 oCall Tryd.prog Tryd.n_ref20_rows #[t4] w2.drew fun t5 w3 =>
 Ext w2.drew w3 ∧
 oCall Tryd.prog Tryd.n_ref20_rows #[t7] w3 fun t8 w4 =>
 Ext w3 w4 ∧
 oCall Tryd.prog Tryd.n_ref20_rows #[t10] w4 fun t11 w5 =>
 opP Tryd.prog (Instr.build 50 #[(0, t5), (1, t8), (2, t11)]) fun t12 =>
 opU Tryd.prog w5 (Instr.storeAt 50 t2 t12) fun w6 =>
 opQ Tryd.prog w6 (cellSem 50 t2) fun r7 =>
 K r7 w6
theorem Tryd.E_ref20_OwnFn (t0 : Value) (w : World) (K : Value → World → Prop) : sw ⟨false, false⟩ Tryd.prog (fun _ _ => False) Tryd.A_ref20_OwnFn (bodyOf Tryd.f30) [t0, undef, undef, undef, undef, undef, undef, undef, undef, undef, undef, undef, undef] w (topQ false Tryd.prog Tryd.f30 w K) = Tryd.F_ref20_OwnFn t0 w K := by kernel_rfl
theorem Tryd.C_ref20_OwnFn : chk ⟨false, false⟩ Tryd.prog false Tryd.A_ref20_OwnFn (bodyOf Tryd.f30) = true := by kernel_rfl
theorem Tryd.ok_ref20_OwnFn {t0 : Value} {w : World} {K : Value → World → Prop} (h : Tryd.F_ref20_OwnFn t0 w K) : oCall Tryd.prog Tryd.n_ref20_OwnFn #[t0] w K :=
  calls_of_sw (cf := ⟨false, false⟩) Tryd.mixed Tryd.func30 rfl Tryd.C_ref20_OwnFn ((Tryd.E_ref20_OwnFn t0 w K).mpr h)

/- 57: loanword/loanwordref20.rows -/
def Tryd.A_ref20_rows : Ann := .s (.r (.op 0 .p (.nil))) (.s (.r (.op 0 .p (.nil))) (.s (.s (.r (.op 0 .p (.nil))) (.b (.lp [3, 4] (.s (.s (.r (.op 0 .p (.op 1 .p (.op 2 .p (.op 3 .p (.nil)))))) (.c (.n) (.n))) (.s (.b (.r (.op 0 .p (.op 1 .p (.op 2 .p (.op 3 .p (.op 4 .q (.op 5 .l (.op 6 .l (.op 7 .l (.op 8 .p (.nil)))))))))))) (.r (.op 0 .p (.op 1 .p (.op 2 .p (.nil)))))))))) (.s (.r (.op 0 .p (.op 1 .p (.nil)))) (.n))))
def Tryd.F_ref20_rows (t0 : Value) (w : World) (K : Value → World → Prop) : Prop :=
 sLoop [(Value.slice Option.none 0 0), (Value.int .i64 0)] w (fun s2 _d3 w4 K1 =>
 opP Tryd.prog (Builtin.len_ #[48] 3 #[t0]) fun t7 =>
 opP Tryd.prog (bsem .lss 3 false (s2.getD 1 undef) t7) fun t8 =>
 oCond t8 (opP Tryd.prog (Instr.indexAt 48 t0 (s2.getD 1 undef)) fun t14 =>
 opQ Tryd.prog w4 (Instr.loadAt 65 t14) fun t15 =>
 oCall Tryd.prog Tryd.n_ref01_Own #[t15] w4 fun t16 w5 =>
 opW Tryd.prog w5 (Instr.buildSlice 48 1 #[(0, t16)]) fun t17 w6 =>
 opW Tryd.prog w6 (Builtin.append_ #[48, 48] 48 #[(s2.getD 0 undef), t17]) fun t18 w7 =>
 opP Tryd.prog (bsem .add 3 true (s2.getD 1 undef) (Value.int .i64 1)) fun t10 =>
 K1 [t18, t10] w7) (K (s2.getD 0 undef) w4))
theorem Tryd.E_ref20_rows (t0 : Value) (w : World) (K : Value → World → Prop) : sw ⟨false, false⟩ Tryd.prog (fun _ _ => False) Tryd.A_ref20_rows (bodyOf Tryd.f57) [t0, undef, undef, undef, undef, undef, undef, undef, undef, undef, undef, undef, undef, undef, undef, undef, undef, undef, undef, undef] w (topQ false Tryd.prog Tryd.f57 w K) = Tryd.F_ref20_rows t0 w K := by kernel_rfl
theorem Tryd.C_ref20_rows : chk ⟨false, false⟩ Tryd.prog false Tryd.A_ref20_rows (bodyOf Tryd.f57) = true := by kernel_rfl
theorem Tryd.ok_ref20_rows {t0 : Value} {w : World} {K : Value → World → Prop} (h : Tryd.F_ref20_rows t0 w K) : oCall Tryd.prog Tryd.n_ref20_rows #[t0] w K :=
  calls_of_sw (cf := ⟨false, false⟩) Tryd.mixed Tryd.func57 rfl Tryd.C_ref20_rows ((Tryd.E_ref20_rows t0 w K).mpr h)

/- 67: loanword/loanwordref20.two -/
def Tryd.A_ref20_two : Ann := .s (.r (.op 0 .p (.nil))) (.s (.r (.op 0 .p (.op 1 .p (.op 2 .p (.op 3 .p (.op 4 .p (.op 5 .p (.op 6 .l (.op 7 .q (.op 8 .p (.nil))))))))))) (.n))
def Tryd.F_ref20_two (t0 : Value) (w : World) (K : Value → World → Prop) : Prop :=
 opP Tryd.prog (bsem .quo 3 true t0 (Value.int .i64 256)) fun t4 =>
 opP Tryd.prog (convert 3 5 t4) fun t5 =>
 opP Tryd.prog (bsem .rem 3 true t0 (Value.int .i64 256)) fun t7 =>
 opP Tryd.prog (convert 3 5 t7) fun t8 =>
 opW Tryd.prog w (Instr.buildSlice 57 2 #[(0, t5), (1, t8)]) fun t9 w1 =>
 opQ Tryd.prog w1 (convert 57 9 t9) fun t10 =>
 K t10 w1
theorem Tryd.E_ref20_two (t0 : Value) (w : World) (K : Value → World → Prop) : sw ⟨false, false⟩ Tryd.prog (fun _ _ => False) Tryd.A_ref20_two (bodyOf Tryd.f67) [t0, undef, undef, undef, undef, undef, undef, undef, undef, undef, undef] w (topQ false Tryd.prog Tryd.f67 w K) = Tryd.F_ref20_two t0 w K := by kernel_rfl
theorem Tryd.C_ref20_two : chk ⟨false, false⟩ Tryd.prog false Tryd.A_ref20_two (bodyOf Tryd.f67) = true := by kernel_rfl
theorem Tryd.ok_ref20_two {t0 : Value} {w : World} {K : Value → World → Prop} (h : Tryd.F_ref20_two t0 w K) : oCall Tryd.prog Tryd.n_ref20_two #[t0] w K :=
  calls_of_sw (cf := ⟨false, false⟩) Tryd.mixed Tryd.func67 rfl Tryd.C_ref20_two ((Tryd.E_ref20_two t0 w K).mpr h)

/- 41: loanword/loanwordref20.laid -/
def Tryd.A_ref20_laid : Ann := .s (.r (.op 0 .p (.nil))) (.s (.r (.op 0 .p (.nil))) (.j [5] (.s (.r (.op 0 .p (.op 1 .p (.op 2 .p (.nil))))) (.c (.r (.op 0 .p (.op 1 .p (.op 2 .p (.op 3 .q (.op 4 .p (.nil))))))) (.n))) (.s (.r (.op 0 .p (.op 1 .p (.op 2 .p (.op 3 .l (.op 4 .l (.op 5 .p (.nil)))))))) (.s (.r (.op 0 .p (.op 1 .p (.op 2 .l (.op 3 .l (.op 4 .p (.nil))))))) (.s (.s (.r (.op 0 .p (.nil))) (.b (.lp [0, 6] (.s (.s (.r (.op 0 .p (.op 1 .p (.op 2 .p (.op 3 .p (.nil)))))) (.c (.n) (.n))) (.s (.b (.r (.op 0 .p (.op 1 .p (.op 2 .p (.op 3 .p (.op 4 .q (.op 5 .l (.op 6 .l (.op 7 .p (.nil))))))))))) (.r (.op 0 .p (.op 1 .p (.op 2 .p (.nil)))))))))) (.s (.r (.op 0 .p (.op 1 .p (.nil)))) (.n)))))))
def Tryd.F_ref20_laid (t0 : Value) (t1 : Value) (w : World) (K : Value → World → Prop) : Prop :=
 sJoin (fun K1 =>
 opP Tryd.prog (Builtin.len_ #[48] 3 #[t1]) fun t8 =>
 opP Tryd.prog (bsem .gtr 3 true t8 (Value.int .i64 0)) fun t9 =>
 oCond t9 (opP Tryd.prog (Instr.indexAt 48 t1 (Value.int .i64 0)) fun t11 =>
 opP Tryd.prog (Instr.fieldAt 65 t11 0) fun t12 =>
 opQ Tryd.prog w (Instr.loadAt 3 t12) fun t13 =>
 K1 [t13] w) (K1 [(Value.int .i64 0)] w)) (fun s2 _d3 w4 =>
 opP Tryd.prog (Builtin.len_ #[48] 3 #[t1]) fun t16 =>
 oCall Tryd.prog Tryd.n_ref20_two #[t16] w4 fun t17 w5 =>
 opW Tryd.prog w5 (Builtin.append_ #[57, 9] 57 #[t0, t17]) fun t18 w6 =>
 oCall Tryd.prog Tryd.n_ref20_two #[(s2.getD 0 undef)] w6 fun t21 w7 =>
 opW Tryd.prog w7 (Builtin.append_ #[57, 9] 57 #[t18, t21]) fun t22 w8 =>
 sLoop [t22, (Value.int .i64 0)] w8 (fun s10 _d11 w12 K9 =>
 opP Tryd.prog (Builtin.len_ #[48] 3 #[t1]) fun t25 =>
 opP Tryd.prog (bsem .lss 3 false (s10.getD 1 undef) t25) fun t26 =>
 oCond t26 (opP Tryd.prog (Instr.indexAt 48 t1 (s10.getD 1 undef)) fun t32 =>
 opQ Tryd.prog w12 (Instr.loadAt 65 t32) fun t33 =>
 oCall Tryd.prog Tryd.n_ref01_Bytes #[t33] w12 fun t34 w13 =>
 opW Tryd.prog w13 (Builtin.append_ #[57, 9] 57 #[(s10.getD 0 undef), t34]) fun t35 w14 =>
 opP Tryd.prog (bsem .add 3 true (s10.getD 1 undef) (Value.int .i64 1)) fun t28 =>
 K9 [t35, t28] w14) (K (s10.getD 0 undef) w12)))
theorem Tryd.E_ref20_laid (t0 t1 : Value) (w : World) (K : Value → World → Prop) : sw ⟨false, false⟩ Tryd.prog (fun _ _ => False) Tryd.A_ref20_laid (bodyOf Tryd.f41) [t0, t1, undef, undef, undef, undef, undef, undef, undef, undef, undef, undef, undef, undef, undef, undef, undef, undef, undef, undef, undef, undef, undef, undef, undef, undef, undef, undef, undef, undef, undef, undef, undef, undef, undef, undef, undef] w (topQ false Tryd.prog Tryd.f41 w K) = Tryd.F_ref20_laid t0 t1 w K := by kernel_rfl
theorem Tryd.C_ref20_laid : chk ⟨false, false⟩ Tryd.prog false Tryd.A_ref20_laid (bodyOf Tryd.f41) = true := by kernel_rfl
theorem Tryd.ok_ref20_laid {t0 t1 : Value} {w : World} {K : Value → World → Prop} (h : Tryd.F_ref20_laid t0 t1 w K) : oCall Tryd.prog Tryd.n_ref20_laid #[t0, t1] w K :=
  calls_of_sw (cf := ⟨false, false⟩) Tryd.mixed Tryd.func41 rfl Tryd.C_ref20_laid ((Tryd.E_ref20_laid t0 t1 w K).mpr h)

/- 19: loanword/loanwordref20.Bytes -/
def Tryd.A_ref20_Bytes : Ann := .s (.r (.op 0 .l (.op 1 .p (.nil)))) (.s (.r (.op 0 .l (.op 1 .l (.op 2 .p (.nil))))) (.s (.r (.op 0 .p (.op 1 .p (.op 2 .q (.op 3 .p (.op 4 .p (.op 5 .l (.op 6 .l (.op 7 .p (.nil)))))))))) (.s (.s (.r (.op 0 .p (.nil))) (.b (.lp [3, 4] (.s (.s (.r (.op 0 .p (.op 1 .p (.op 2 .q (.op 3 .p (.op 4 .p (.nil))))))) (.c (.n) (.n))) (.s (.b (.s (.r (.op 0 .p (.op 1 .p (.op 2 .q (.op 3 .p (.op 4 .p (.op 5 .p (.op 6 .q (.op 7 .l (.op 8 .p (.nil))))))))))) (.s (.r (.op 0 .p (.op 1 .p (.op 2 .q (.op 3 .p (.op 4 .p (.op 5 .p (.op 6 .q (.op 7 .l (.op 8 .p (.nil))))))))))) (.r (.op 0 .p (.op 1 .p (.op 2 .q (.op 3 .p (.op 4 .p (.op 5 .p (.op 6 .q (.op 7 .l (.op 8 .p (.nil)))))))))))))) (.r (.op 0 .p (.op 1 .p (.op 2 .p (.nil)))))))))) (.s (.r (.op 0 .p (.op 1 .q (.op 2 .p (.nil))))) (.n)))))
def Tryd.F_ref20_Bytes (t0 : Value) (w : World) (K : Value → World → Prop) : Prop :=
 opW Tryd.prog w (Instr.box 24 t0) fun t1 w1 =>
 opW Tryd.prog w1 (Instr.buildSlice 57 4 #[(0, (Value.int .u8 76)), (1, (Value.int .u8 87)), (2, (Value.int .u8 67)), (3, (Value.int .u8 1))]) fun t5 w2 =>
 opW Tryd.prog w2 (convert 57 57 t5) fun t6 w3 =>
 opP Tryd.prog (Instr.fieldAt 24 t1 0) fun t8 =>
 opQ Tryd.prog w3 (Instr.loadAt 22 t8) fun t9 =>
 opP Tryd.prog (Builtin.len_ #[22] 3 #[t9]) fun t10 =>
 opP Tryd.prog (convert 3 5 t10) fun t11 =>
 opW Tryd.prog w3 (Instr.buildSlice 57 1 #[(0, t11)]) fun t12 w4 =>
 opW Tryd.prog w4 (Builtin.append_ #[57, 57] 57 #[t6, t12]) fun t13 w5 =>
 sLoop [t13, (Value.int .i64 0)] w5 (fun s7 _d8 w9 K6 =>
 opP Tryd.prog (Instr.fieldAt 24 t1 0) fun t15 =>
 opQ Tryd.prog w9 (Instr.loadAt 22 t15) fun t16 =>
 opP Tryd.prog (Builtin.len_ #[22] 3 #[t16]) fun t17 =>
 opP Tryd.prog (bsem .lss 3 false (s7.getD 1 undef) t17) fun t18 =>
 oCond t18 (opP Tryd.prog (Instr.fieldAt 24 t1 0) fun t22 =>
 opQ Tryd.prog w9 (Instr.loadAt 22 t22) fun t23 =>
 opP Tryd.prog (Instr.indexAt 22 t23 (s7.getD 1 undef)) fun t25 =>
 opP Tryd.prog (Instr.fieldAt 50 t25 0) fun t26 =>
 opQ Tryd.prog w9 (Instr.loadAt 48 t26) fun t27 =>
 oCall Tryd.prog Tryd.n_ref20_laid #[(s7.getD 0 undef), t27] w9 fun t28 w10 =>
 opP Tryd.prog (Instr.fieldAt 24 t1 0) fun t30 =>
 opQ Tryd.prog w10 (Instr.loadAt 22 t30) fun t31 =>
 opP Tryd.prog (Instr.indexAt 22 t31 (s7.getD 1 undef)) fun t33 =>
 opP Tryd.prog (Instr.fieldAt 50 t33 1) fun t34 =>
 opQ Tryd.prog w10 (Instr.loadAt 48 t34) fun t35 =>
 oCall Tryd.prog Tryd.n_ref20_laid #[t28, t35] w10 fun t36 w11 =>
 opP Tryd.prog (Instr.fieldAt 24 t1 0) fun t38 =>
 opQ Tryd.prog w11 (Instr.loadAt 22 t38) fun t39 =>
 opP Tryd.prog (Instr.indexAt 22 t39 (s7.getD 1 undef)) fun t41 =>
 opP Tryd.prog (Instr.fieldAt 50 t41 2) fun t42 =>
 opQ Tryd.prog w11 (Instr.loadAt 48 t42) fun t43 =>
 oCall Tryd.prog Tryd.n_ref20_laid #[t36, t43] w11 fun t44 w12 =>
 opP Tryd.prog (bsem .add 3 true (s7.getD 1 undef) (Value.int .i64 1)) fun t20 =>
 K6 [t44, t20] w12) (opQ Tryd.prog w9 (convert 57 9 (s7.getD 0 undef)) fun t46 =>
 K t46 w9))
theorem Tryd.E_ref20_Bytes (t0 : Value) (w : World) (K : Value → World → Prop) : sw ⟨false, false⟩ Tryd.prog (fun _ _ => False) Tryd.A_ref20_Bytes (bodyOf Tryd.f19) [t0, undef, undef, undef, undef, undef, undef, undef, undef, undef, undef, undef, undef, undef, undef, undef, undef, undef, undef, undef, undef, undef, undef, undef, undef, undef, undef, undef, undef, undef, undef, undef, undef, undef, undef, undef, undef, undef, undef, undef, undef, undef, undef, undef, undef, undef, undef] w (topQ false Tryd.prog Tryd.f19 w K) = Tryd.F_ref20_Bytes t0 w K := by kernel_rfl
theorem Tryd.C_ref20_Bytes : chk ⟨false, false⟩ Tryd.prog false Tryd.A_ref20_Bytes (bodyOf Tryd.f19) = true := by kernel_rfl
theorem Tryd.ok_ref20_Bytes {t0 : Value} {w : World} {K : Value → World → Prop} (h : Tryd.F_ref20_Bytes t0 w K) : oCall Tryd.prog Tryd.n_ref20_Bytes #[t0] w K :=
  calls_of_sw (cf := ⟨false, false⟩) Tryd.mixed Tryd.func19 rfl Tryd.C_ref20_Bytes ((Tryd.E_ref20_Bytes t0 w K).mpr h)

/- 73: (*loanword/loanwordref20.reader).one -/
def Tryd.A_ref20_reader_one : Ann := .s (.r (.op 0 .p (.nil))) (.s (.s (.r (.op 0 .p (.op 1 .p (.op 2 .p (.op 3 .q (.op 4 .p (.grp 11 false [(5, .p), (6, .p), (7, .p), (8, .q), (9, .p), (10, .p), (11, .p), (12, .q), (13, .p), (14, .p)] [21] (.op 15 .p (.op 16 .p (.grp 23 false [(17, .p), (18, .p), (19, .p), (20, .q), (21, .p), (22, .p), (23, .p), (24, .q), (25, .p), (26, .p), (27, .p), (28, .p)] [35] (.op 29 .p (.op 30 .p (.grp 37 false [(31, .p), (32, .p), (33, .p), (34, .q), (35, .p), (36, .p), (37, .p), (38, .q), (39, .p), (40, .p), (41, .p), (42, .p)] [49] (.op 43 .p (.nil))))))))))))))) (.c (.s (.r (.op 0 .p (.op 1 .p (.op 2 .p (.op 3 .l (.nil)))))) (.s (.r (.op 0 .p (.nil))) (.n))) (.n))) (.s (.r (.op 0 .p (.op 1 .p (.op 2 .p (.op 3 .q (.op 4 .p (.op 5 .p (.op 6 .p (.op 7 .l (.nil)))))))))) (.s (.r (.op 0 .p (.op 1 .p (.op 2 .p (.op 3 .q (.op 4 .p (.op 5 .p (.op 6 .p (.op 7 .q (.op 8 .p (.op 9 .p (.op 10 .p (.op 11 .p (.nil)))))))))))))) (.n))))
def Tryd.F_ref20_reader_one (t0 : Value) (t1 : Value) (t2 : Value) (w : World) (K : Value → World → Prop) : Prop :=
 oNil t0 fun t8 =>
 opP Tryd.prog (Instr.fieldAt 104 t8 2) fun t9 =>
 opQ Tryd.prog w.drew (Instr.loadAt 4 t9) fun t10 =>
 sJoin (fun K1 => gIf t10 false (oNil t0 fun t13 =>
 opP Tryd.prog (Instr.fieldAt 104 t13 1) fun t14 =>
 opQ Tryd.prog w.drew (Instr.loadAt 3 t14) fun t15 =>
 oNil t0 fun t17 =>
 opP Tryd.prog (Instr.fieldAt 104 t17 0) fun t18 =>
 opQ Tryd.prog w.drew (Instr.loadAt 9 t18) fun t19 =>
 opP Tryd.prog (Builtin.len_ #[9] 3 #[t19]) fun t20 =>
 opP Tryd.prog (bsem .geq 3 false t15 t20) fun t21 =>
 K1 [t21] w.drew) (K1 [undef] w.drew)) (fun s2 _d3 w4 =>
 oPick t10 (Value.bool true) (s2.getD 0 undef) fun t22 =>
 sJoin (fun K5 => gIf t22 false (oNil t0 fun t25 =>
 opP Tryd.prog (Instr.fieldAt 104 t25 0) fun t26 =>
 opQ Tryd.prog w4 (Instr.loadAt 9 t26) fun t27 =>
 oNil t0 fun t29 =>
 opP Tryd.prog (Instr.fieldAt 104 t29 1) fun t30 =>
 opQ Tryd.prog w4 (Instr.loadAt 3 t30) fun t31 =>
 opP Tryd.prog (Instr.index 9 t27 t31) fun t32 =>
 opP Tryd.prog (convert 5 3 t32) fun t33 =>
 opP Tryd.prog (bsem .lss 3 false t33 t1) fun t35 =>
 K5 [t35] w4) (K5 [undef] w4)) (fun s6 _d7 w8 =>
 oPick t22 (Value.bool true) (s6.getD 0 undef) fun t36 =>
 sJoin (fun K9 => gIf t36 false (oNil t0 fun t39 =>
 opP Tryd.prog (Instr.fieldAt 104 t39 0) fun t40 =>
 opQ Tryd.prog w8 (Instr.loadAt 9 t40) fun t41 =>
 oNil t0 fun t43 =>
 opP Tryd.prog (Instr.fieldAt 104 t43 1) fun t44 =>
 opQ Tryd.prog w8 (Instr.loadAt 3 t44) fun t45 =>
 opP Tryd.prog (Instr.index 9 t41 t45) fun t46 =>
 opP Tryd.prog (convert 5 3 t46) fun t47 =>
 opP Tryd.prog (bsem .gtr 3 false t47 t2) fun t49 =>
 K9 [t49] w8) (K9 [undef] w8)) (fun s10 _d11 w12 =>
 oPick t36 (Value.bool true) (s10.getD 0 undef) fun t50 =>
 oCond t50 (oNil t0 fun t52 =>
 opP Tryd.prog (Instr.fieldAt 104 t52 2) fun t53 =>
 opU Tryd.prog w12 (Instr.storeAt 4 t53 (Value.bool true)) fun w13 =>
 K (Value.int .i64 0) w13) (oNil t0 fun t55 =>
 opP Tryd.prog (Instr.fieldAt 104 t55 1) fun t56 =>
 opQ Tryd.prog w12 (Instr.loadAt 3 t56) fun t57 =>
 opP Tryd.prog (bsem .add 3 true t57 (Value.int .i64 1)) fun t58 =>
 oNil t0 fun t59 =>
 opP Tryd.prog (Instr.fieldAt 104 t59 1) fun t60 =>
 opU Tryd.prog w12 (Instr.storeAt 3 t60 t58) fun w14 =>
 oNil t0 fun t62 =>
 opP Tryd.prog (Instr.fieldAt 104 t62 0) fun t63 =>
 opQ Tryd.prog w14.drew (Instr.loadAt 9 t63) fun t64 =>
 oNil t0 fun t66 =>
 opP Tryd.prog (Instr.fieldAt 104 t66 1) fun t67 =>
 opQ Tryd.prog w14.drew (Instr.loadAt 3 t67) fun t68 =>
 opP Tryd.prog (bsem .sub 3 true t68 (Value.int .i64 1)) fun t69 =>
 opP Tryd.prog (Instr.index 9 t64 t69) fun t70 =>
 opP Tryd.prog (convert 5 3 t70) fun t71 =>
 K t71 w14.drew))))
theorem Tryd.E_ref20_reader_one (t0 t1 t2 : Value) (w : World) (K : Value → World → Prop) : sw ⟨false, false⟩ Tryd.prog (fun _ _ => False) Tryd.A_ref20_reader_one (bodyOf Tryd.f73) [t0, t1, t2, undef, undef, undef, undef, undef, undef, undef, undef, undef, undef, undef, undef, undef, undef, undef, undef, undef, undef, undef, undef, undef, undef, undef, undef, undef, undef, undef, undef, undef, undef, undef, undef, undef, undef, undef, undef, undef, undef, undef, undef, undef, undef, undef, undef, undef, undef, undef, undef, undef, undef, undef, undef, undef, undef, undef, undef, undef, undef, undef, undef, undef, undef, undef, undef, undef, undef, undef, undef, undef] w (topQ false Tryd.prog Tryd.f73 w K) = Tryd.F_ref20_reader_one t0 t1 t2 w K := by kernel_rfl
theorem Tryd.C_ref20_reader_one : chk ⟨false, false⟩ Tryd.prog false Tryd.A_ref20_reader_one (bodyOf Tryd.f73) = true := by kernel_rfl
theorem Tryd.ok_ref20_reader_one {t0 t1 t2 : Value} {w : World} {K : Value → World → Prop} (h : Tryd.F_ref20_reader_one t0 t1 t2 w K) : oCall Tryd.prog Tryd.n_ref20_reader_one #[t0, t1, t2] w K :=
  calls_of_sw (cf := ⟨false, false⟩) Tryd.mixed Tryd.func73 rfl Tryd.C_ref20_reader_one ((Tryd.E_ref20_reader_one t0 t1 t2 w K).mpr h)

/- 78: (*loanword/loanwordref20.reader).number -/
def Tryd.A_ref20_reader_number : Ann := .s (.r (.op 0 .p (.nil))) (.s (.r (.op 0 .p (.op 1 .p (.op 2 .p (.op 3 .p (.op 4 .p (.op 5 .l (.op 6 .p (.nil))))))))) (.s (.r (.op 0 .p (.op 1 .p (.nil)))) (.j [8] (.s (.r (.op 0 .p (.op 1 .p (.op 2 .p (.op 3 .p (.nil)))))) (.c (.r (.op 0 .p (.op 1 .p (.op 2 .p (.nil))))) (.n))) (.j [9] (.s (.r (.op 0 .p (.op 1 .p (.op 2 .p (.op 3 .p (.nil)))))) (.c (.r (.op 0 .p (.op 1 .p (.op 2 .p (.nil))))) (.n))) (.s (.r (.op 0 .p (.op 1 .p (.op 2 .p (.op 3 .p (.op 4 .p (.op 5 .l (.op 6 .p (.op 7 .p (.nil)))))))))) (.n))))))
def Tryd.F_ref20_reader_number (t0 : Value) (t1 : Value) (t2 : Value) (w : World) (K : Value → World → Prop) : Prop :=
 opP Tryd.prog (bsem .quo 3 true t1 (Value.int .i64 256)) fun t12 =>
 opP Tryd.prog (bsem .quo 3 true t2 (Value.int .i64 256)) fun t14 =>
 oCall Tryd.prog Tryd.n_ref20_reader_one #[t0, t12, t14] w fun t15 w1 =>
 sJoin (fun K2 =>
 opP Tryd.prog (bsem .quo 3 true t1 (Value.int .i64 256)) fun t18 =>
 opP Tryd.prog (bsem .eql 3 false t15 t18) fun t19 =>
 oCond t19 (opP Tryd.prog (bsem .rem 3 true t1 (Value.int .i64 256)) fun t21 =>
 K2 [t21] w1) (K2 [(Value.int .i64 0)] w1)) (fun s3 _d4 w5 =>
 sJoin (fun K6 =>
 opP Tryd.prog (bsem .quo 3 true t2 (Value.int .i64 256)) fun t24 =>
 opP Tryd.prog (bsem .eql 3 false t15 t24) fun t25 =>
 oCond t25 (opP Tryd.prog (bsem .rem 3 true t2 (Value.int .i64 256)) fun t27 =>
 K6 [t27] w5) (K6 [(Value.int .i64 255)] w5)) (fun s7 _d8 w9 =>
 opP Tryd.prog (bsem .mul 3 true (Value.int .i64 256) t15) fun t29 =>
 oCall Tryd.prog Tryd.n_ref20_reader_one #[t0, (s3.getD 0 undef), (s7.getD 0 undef)] w9 fun t33 w10 =>
 opP Tryd.prog (bsem .add 3 false t29 t33) fun t34 =>
 K t34 w10))
theorem Tryd.E_ref20_reader_number (t0 t1 t2 : Value) (w : World) (K : Value → World → Prop) : sw ⟨false, false⟩ Tryd.prog (fun _ _ => False) Tryd.A_ref20_reader_number (bodyOf Tryd.f78) [t0, t1, t2, undef, undef, undef, undef, undef, undef, undef, undef, undef, undef, undef, undef, undef, undef, undef, undef, undef, undef, undef, undef, undef, undef, undef, undef, undef, undef, undef, undef, undef, undef, undef, undef] w (topQ false Tryd.prog Tryd.f78 w K) = Tryd.F_ref20_reader_number t0 t1 t2 w K := by kernel_rfl
theorem Tryd.C_ref20_reader_number : chk ⟨false, false⟩ Tryd.prog false Tryd.A_ref20_reader_number (bodyOf Tryd.f78) = true := by kernel_rfl
theorem Tryd.ok_ref20_reader_number {t0 t1 t2 : Value} {w : World} {K : Value → World → Prop} (h : Tryd.F_ref20_reader_number t0 t1 t2 w K) : oCall Tryd.prog Tryd.n_ref20_reader_number #[t0, t1, t2] w K :=
  calls_of_sw (cf := ⟨false, false⟩) Tryd.mixed Tryd.func78 rfl Tryd.C_ref20_reader_number ((Tryd.E_ref20_reader_number t0 t1 t2 w K).mpr h)

/- 54: (*loanword/loanwordref20.reader).list -/
def Tryd.A_ref20_reader_list : Ann := .s (.r (.op 0 .p (.op 1 .p (.op 2 .p (.op 3 .p (.nil)))))) (.s (.r (.op 0 .p (.op 1 .p (.op 2 .l (.op 3 .p (.nil)))))) (.s (.r (.op 0 .p (.nil))) (.j [9] (.s (.r (.op 0 .p (.op 1 .p (.nil)))) (.c (.r (.op 0 .p (.nil))) (.n))) (.s (.r (.op 0 .p (.op 1 .p (.op 2 .l (.op 3 .p (.nil)))))) (.s (.r (.op 0 .p (.op 1 .p (.op 2 .p (.op 3 .q (.op 4 .p (.nil))))))) (.s (.r (.op 0 .p (.nil))) (.s (.s (.r (.op 0 .p (.nil))) (.b (.lp [12, 13] (.s (.s (.r (.op 0 .p (.op 1 .p (.op 2 .p (.op 3 .p (.grp 33 true [(4, .p), (5, .p), (6, .p), (7, .q), (8, .p)] [38] (.op 9 .p (.nil)))))))) (.c (.n) (.n))) (.s (.b (.s (.r (.op 0 .p (.op 1 .l (.op 2 .l (.op 3 .l (.nil)))))) (.j [] (.s (.r (.op 0 .p (.nil))) (.b (.lp [15] (.s (.s (.r (.op 0 .p (.op 1 .p (.op 2 .p (.op 3 .p (.op 4 .p (.op 5 .p (.grp 49 true [(6, .p), (7, .p), (8, .p), (9, .q), (10, .p)] [54] (.op 11 .p (.nil)))))))))) (.c (.n) (.n))) (.j [] (.b (.s (.s (.r (.op 0 .p (.op 1 .p (.op 2 .p (.op 3 .q (.op 4 .p (.op 5 .p (.op 6 .p (.op 7 .q (.op 8 .p (.op 9 .p (.nil)))))))))))) (.c (.s (.r (.op 0 .p (.op 1 .p (.op 2 .p (.op 3 .l (.nil)))))) (.n)) (.n))) (.s (.r (.op 0 .p (.op 1 .p (.op 2 .p (.op 3 .q (.op 4 .p (.op 5 .p (.op 6 .p (.op 7 .q (.op 8 .p (.op 9 .p (.nil)))))))))))) (.s (.s (.r (.op 0 .p (.nil))) (.b (.lp [17] (.s (.s (.r (.op 0 .p (.op 1 .p (.nil)))) (.c (.n) (.n))) (.j [] (.b (.s (.s (.r (.op 0 .p (.op 1 .p (.op 2 .p (.op 3 .p (.op 4 .p (.nil))))))) (.c (.n) (.n))) (.s (.r (.op 0 .p (.op 1 .p (.op 2 .p (.op 3 .p (.op 4 .p (.op 5 .p (.nil)))))))) (.c (.r (.op 0 .p (.op 1 .p (.op 2 .p (.op 3 .p (.op 4 .q (.op 5 .p (.grp 100 false [(6, .p), (7, .p), (8, .p), (9, .q), (10, .p)] [105] (.op 11 .p (.op 12 .p (.op 13 .p (.op 14 .l (.nil))))))))))))) (.r (.op 0 .p (.op 1 .q (.op 2 .p (.op 3 .p (.op 4 .p (.op 5 .p (.op 6 .p (.op 7 .p (.op 8 .q (.op 9 .p (.op 10 .p (.op 11 .p (.op 12 .p (.op 13 .p (.op 14 .p (.op 15 .q (.op 16 .p (.op 17 .p (.op 18 .p (.op 19 .p (.op 20 .p (.op 21 .p (.op 22 .p (.op 23 .p (.op 24 .l (.nil))))))))))))))))))))))))))))))) (.r (.op 0 .p (.op 1 .p (.op 2 .p (.nil)))))))))) (.s (.r (.op 0 .p (.op 1 .p (.op 2 .p (.op 3 .q (.op 4 .p (.nil))))))) (.c (.r (.op 0 .p (.op 1 .p (.op 2 .p (.op 3 .q (.op 4 .p (.op 5 .p (.op 6 .p (.op 7 .l (.nil)))))))))) (.n))))))) (.r (.op 0 .p (.op 1 .p (.op 2 .p (.nil)))))))))) (.r (.op 0 .p (.op 1 .q (.op 2 .l (.op 3 .l (.op 4 .p (.nil)))))))))) (.r (.op 0 .p (.op 1 .p (.op 2 .p (.nil)))))))))) (.s (.r (.op 0 .p (.op 1 .p (.op 2 .p (.op 3 .p (.op 4 .p (.op 5 .p (.op 6 .p (.op 7 .p (.nil)))))))))) (.n)))))))))
def Tryd.F_ref20_reader_list (t0 : Value) (t1 : Value) (w : World) (K : Value → World → Prop) : Prop :=
 oCall Tryd.prog Tryd.n_ref20_reader_number #[t0, (Value.int .i64 0), t1] w fun t20 w1 =>
 sJoin (fun K2 =>
 opP Tryd.prog (bsem .eql 3 true t20 (Value.int .i64 0)) fun t22 =>
 oCond t22 (K2 [(Value.int .i64 0)] w1) (K2 [(Value.int .i64 1032)] w1)) (fun s3 _d4 w5 =>
 oCall Tryd.prog Tryd.n_ref20_reader_number #[t0, (Value.int .i64 0), (s3.getD 0 undef)] w5 fun t25 w6 =>
 oNil t0 fun t27 =>
 opP Tryd.prog (Instr.fieldAt 104 t27 1) fun t28 =>
 opQ Tryd.prog w6 (Instr.loadAt 3 t28) fun t29 =>
 sLoop [(Value.slice Option.none 0 0), (Value.int .i64 0)] w6 (fun s8 _d9 w10 K7 =>
 opP Tryd.prog (bsem .lss 3 false (s8.getD 1 undef) t20) fun t32 =>
 sJoin (fun K11 => gIf t32 true (oNil t0 fun t35 =>
 opP Tryd.prog (Instr.fieldAt 104 t35 2) fun t36 =>
 opQ Tryd.prog w10 (Instr.loadAt 4 t36) fun t37 =>
 opP Tryd.prog (Op.unary .not t37) fun t38 =>
 K11 [t38] w10) (K11 [undef] w10)) (fun s12 _d13 w14 =>
 oPick t32 (s12.getD 0 undef) (Value.bool false) fun t39 =>
 oCond t39 (oCall Tryd.prog Tryd.n_ref01_None #[t25] w14 fun t43 w15 =>
 opW Tryd.prog w15 (Instr.alloc 65 true (.tuple #[])) fun t14 w16 =>
 opU Tryd.prog w16 (Instr.storeAt 65 t14 t43) fun w17 =>
 sJoin (fun K18 =>
 sLoop [(Value.int .i64 0)] w17 (fun s23 _d24 w25 K22 =>
 opP Tryd.prog (bsem .add 3 true t25 (Value.int .i64 7)) fun t46 =>
 opP Tryd.prog (bsem .quo 3 true t46 (Value.int .i64 8)) fun t47 =>
 opP Tryd.prog (bsem .lss 3 false (s23.getD 0 undef) t47) fun t48 =>
 sJoin (fun K26 => gIf t48 true (oNil t0 fun t51 =>
 opP Tryd.prog (Instr.fieldAt 104 t51 2) fun t52 =>
 opQ Tryd.prog w25 (Instr.loadAt 4 t52) fun t53 =>
 opP Tryd.prog (Op.unary .not t53) fun t54 =>
 K26 [t54] w25) (K26 [undef] w25)) (fun s27 _d28 w29 =>
 oPick t48 (s27.getD 0 undef) (Value.bool false) fun t55 =>
 oCond t55 (sJoin (fun K30 =>
 oNil t0 fun t59 =>
 opP Tryd.prog (Instr.fieldAt 104 t59 1) fun t60 =>
 opQ Tryd.prog w29.drew (Instr.loadAt 3 t60) fun t61 =>
 oNil t0 fun t63 =>
 opP Tryd.prog (Instr.fieldAt 104 t63 0) fun t64 =>
 opQ Tryd.prog w29.drew (Instr.loadAt 9 t64) fun t65 =>
 opP Tryd.prog (Builtin.len_ #[9] 3 #[t65]) fun t66 =>
 opP Tryd.prog (bsem .geq 3 false t61 t66) fun t67 =>
 oCond t67 (oNil t0 fun t69 =>
 opP Tryd.prog (Instr.fieldAt 104 t69 2) fun t70 =>
 opU Tryd.prog w29.drew (Instr.storeAt 4 t70 (Value.bool true)) fun w34 =>
 K18 [] w34) (oNil t0 fun t72 =>
 opP Tryd.prog (Instr.fieldAt 104 t72 0) fun t73 =>
 opQ Tryd.prog w29.drew.drew (Instr.loadAt 9 t73) fun t74 =>
 oNil t0 fun t76 =>
 opP Tryd.prog (Instr.fieldAt 104 t76 1) fun t77 =>
 opQ Tryd.prog w29.drew.drew (Instr.loadAt 3 t77) fun t78 =>
 opP Tryd.prog (Instr.index 9 t74 t78) fun t79 =>
 sLoop [(Value.int .i64 0)] w29.drew.drew (fun s36 _d37 w38 K35 =>
 opP Tryd.prog (bsem .lss 3 true (s36.getD 0 undef) (Value.int .i64 8)) fun t81 =>
 oCond t81 (sJoin (fun K39 =>
 opP Tryd.prog (bsem .shr 5 true (Value.int .u8 128) (s36.getD 0 undef)) fun t86 =>
 opP Tryd.prog (bsem .and 5 false t79 t86) fun t87 =>
 opP Tryd.prog (bsem .eql 5 true t87 (Value.int .u8 0)) fun t88 =>
 oCond t88 (K39 [] w38) (opP Tryd.prog (bsem .mul 3 true (Value.int .i64 8) (s23.getD 0 undef)) fun t90 =>
 opP Tryd.prog (bsem .add 3 false t90 (s36.getD 0 undef)) fun t92 =>
 opP Tryd.prog (bsem .geq 3 false t92 t25) fun t94 =>
 oCond t94 (oNil t0 fun t97 =>
 opP Tryd.prog (Instr.fieldAt 104 t97 2) fun t98 =>
 opQ Tryd.prog w38 (Instr.loadAt 4 t98) fun t99 =>
 sJoin (fun K43 => gIf t99 false (oNil t0 fun t102 =>
 opP Tryd.prog (Instr.fieldAt 104 t102 3) fun t103 =>
 opQ Tryd.prog w38 (Instr.loadAt 4 t103) fun t104 =>
 opP Tryd.prog (Op.unary .not t104) fun t105 =>
 K43 [t105] w38) (K43 [undef] w38)) (fun s44 _d45 w46 =>
 oPick t99 (Value.bool true) (s44.getD 0 undef) fun t106 =>
 oNil t0 fun t107 =>
 opP Tryd.prog (Instr.fieldAt 104 t107 2) fun t108 =>
 opU Tryd.prog w46 (Instr.storeAt 4 t108 t106) fun w47 =>
 K39 [] w47)) (opP Tryd.prog (Instr.fieldAt 65 t14 1) fun t109 =>
 opQ Tryd.prog w38.drew (Instr.loadAt 63 t109) fun t110 =>
 opP Tryd.prog (bsem .mul 3 true (Value.int .i64 8) (s23.getD 0 undef)) fun t112 =>
 opP Tryd.prog (bsem .add 3 false t112 (s36.getD 0 undef)) fun t114 =>
 opP Tryd.prog (bsem .quo 3 true t114 (Value.int .i64 64)) fun t115 =>
 opP Tryd.prog (Instr.fieldAt 65 t14 1) fun t116 =>
 opQ Tryd.prog w38.drew (Instr.loadAt 63 t116) fun t117 =>
 opP Tryd.prog (bsem .mul 3 true (Value.int .i64 8) (s23.getD 0 undef)) fun t119 =>
 opP Tryd.prog (bsem .add 3 false t119 (s36.getD 0 undef)) fun t121 =>
 opP Tryd.prog (bsem .quo 3 true t121 (Value.int .i64 64)) fun t122 =>
 opP Tryd.prog (Instr.indexAt 63 t117 t122) fun t123 =>
 opQ Tryd.prog w38.drew (Instr.loadAt 108 t123) fun t124 =>
 opP Tryd.prog (bsem .mul 3 true (Value.int .i64 8) (s23.getD 0 undef)) fun t126 =>
 opP Tryd.prog (bsem .add 3 false t126 (s36.getD 0 undef)) fun t128 =>
 opP Tryd.prog (bsem .rem 3 true t128 (Value.int .i64 64)) fun t129 =>
 opP Tryd.prog (bsem .shl 108 true (Value.int .u64 1) t129) fun t130 =>
 opP Tryd.prog (bsem .or 108 false t124 t130) fun t131 =>
 opP Tryd.prog (Instr.indexAt 63 t110 t115) fun t132 =>
 opU Tryd.prog w38.drew (Instr.storeAt 108 t132 t131) fun w48 =>
 K39 [] w48))) (fun _s40 _d41 w42 =>
 opP Tryd.prog (bsem .add 3 true (s36.getD 0 undef) (Value.int .i64 1)) fun t83 =>
 K35 [t83] w42)) (oNil t0 fun t134 =>
 opP Tryd.prog (Instr.fieldAt 104 t134 2) fun t135 =>
 opQ Tryd.prog w38 (Instr.loadAt 4 t135) fun t136 =>
 opP Tryd.prog (Op.unary .not t136) fun t137 =>
 oCond t137 (oNil t0 fun t139 =>
 opP Tryd.prog (Instr.fieldAt 104 t139 1) fun t140 =>
 opQ Tryd.prog w38 (Instr.loadAt 3 t140) fun t141 =>
 opP Tryd.prog (bsem .add 3 true t141 (Value.int .i64 1)) fun t142 =>
 oNil t0 fun t143 =>
 opP Tryd.prog (Instr.fieldAt 104 t143 1) fun t144 =>
 opU Tryd.prog w38 (Instr.storeAt 3 t144 t142) fun w49 =>
 K30 [] w49) (K30 [] w38))))) (fun _s31 _d32 w33 =>
 opP Tryd.prog (bsem .add 3 true (s23.getD 0 undef) (Value.int .i64 1)) fun t57 =>
 K22 [t57] w33)) (K18 [] w29)))) (fun _s19 _d20 w21 =>
 opQ Tryd.prog w21 (Instr.loadAt 65 t14) fun t146 =>
 opW Tryd.prog w21 (Instr.buildSlice 48 1 #[(0, t146)]) fun t147 w50 =>
 opW Tryd.prog w50 (Builtin.append_ #[48, 48] 48 #[(s8.getD 0 undef), t147]) fun t148 w51 =>
 opP Tryd.prog (bsem .add 3 true (s8.getD 1 undef) (Value.int .i64 1)) fun t41 =>
 K7 [t148, t41] w51)) (K (.tuple #[(s8.getD 0 undef), t20, t25, t29]) w14))))
theorem Tryd.E_ref20_reader_list (t0 t1 : Value) (w : World) (K : Value → World → Prop) : sw ⟨false, false⟩ Tryd.prog (fun _ _ => False) Tryd.A_ref20_reader_list (bodyOf Tryd.f54) [t0, t1, undef, undef, undef, undef, undef, undef, undef, undef, undef, undef, undef, undef, undef, undef, undef, undef, undef, undef, undef, undef, undef, undef, undef, undef, undef, undef, undef, undef, undef, undef, undef, undef, undef, undef, undef, undef, undef, undef, undef, undef, undef, undef, undef, undef, undef, undef, undef, undef, undef, undef, undef, undef, undef, undef, undef, undef, undef, undef, undef, undef, undef, undef, undef, undef, undef, undef, undef, undef, undef, undef, undef, undef, undef, undef, undef, undef, undef, undef, undef, undef, undef, undef, undef, undef, undef, undef, undef, undef, undef, undef, undef, undef, undef, undef, undef, undef, undef, undef, undef, undef, undef, undef, undef, undef, undef, undef, undef, undef, undef, undef, undef, undef, undef, undef, undef, undef, undef, undef, undef, undef, undef, undef, undef, undef, undef, undef, undef, undef, undef, undef, undef, undef, undef, undef, undef, undef, undef, undef, undef, undef, undef, undef, undef, undef, undef, undef, undef, undef, undef, undef, undef] w (topQ false Tryd.prog Tryd.f54 w K) = Tryd.F_ref20_reader_list t0 t1 w K := by kernel_rfl
theorem Tryd.C_ref20_reader_list : chk ⟨false, false⟩ Tryd.prog false Tryd.A_ref20_reader_list (bodyOf Tryd.f54) = true := by kernel_rfl
theorem Tryd.ok_ref20_reader_list {t0 t1 : Value} {w : World} {K : Value → World → Prop} (h : Tryd.F_ref20_reader_list t0 t1 w K) : oCall Tryd.prog Tryd.n_ref20_reader_list #[t0, t1] w K :=
  calls_of_sw (cf := ⟨false, false⟩) Tryd.mixed Tryd.func54 rfl Tryd.C_ref20_reader_list ((Tryd.E_ref20_reader_list t0 t1 w K).mpr h)

/- 46: loanword/loanwordref20.whole -/
def Tryd.A_ref20_whole : Ann := .s (.r (.op 0 .l (.op 1 .p (.op 2 .p (.op 3 .p (.nil)))))) (.s (.r (.op 0 .p (.op 1 .p (.op 2 .p (.op 3 .l (.op 4 .p (.nil))))))) (.s (.r (.op 0 .p (.nil))) (.s (.s (.r (.op 0 .p (.nil))) (.b (.lp [10] (.s (.s (.r (.op 0 .p (.op 1 .p (.op 2 .p (.op 3 .p (.nil)))))) (.c (.n) (.n))) (.s (.b (.r (.op 0 .p (.op 1 .p (.op 2 .p (.op 3 .p (.op 4 .p (.op 5 .p (.op 6 .p (.op 7 .p (.op 8 .p (.op 9 .l (.nil))))))))))))) (.r (.op 0 .p (.op 1 .p (.op 2 .p (.nil)))))))))) (.s (.r (.op 0 .p (.op 1 .l (.op 2 .p (.nil))))) (.s (.r (.op 0 .l (.nil))) (.s (.r (.op 0 .p (.nil))) (.s (.s (.r (.op 0 .p (.nil))) (.b (.lp [13, 14] (.s (.s (.r (.op 0 .p (.op 1 .p (.op 2 .p (.op 3 .p (.grp 52 true [(4, .p), (5, .p), (6, .p), (7, .q), (8, .p)] [57] (.op 9 .p (.nil)))))))) (.c (.n) (.n))) (.s (.b (.s (.r (.op 0 .p (.op 1 .l (.op 2 .p (.op 3 .p (.op 4 .p (.op 5 .p (.op 6 .p (.op 7 .p (.op 8 .p (.op 9 .p (.op 10 .p (.nil))))))))))))) (.s (.r (.op 0 .p (.op 1 .l (.op 2 .p (.op 3 .p (.op 4 .p (.op 5 .p (.op 6 .p (.op 7 .p (.op 8 .p (.op 9 .p (.op 10 .p (.nil))))))))))))) (.s (.r (.op 0 .p (.op 1 .l (.op 2 .p (.op 3 .p (.op 4 .p (.op 5 .p (.op 6 .p (.op 7 .p (.op 8 .p (.op 9 .p (.op 10 .p (.nil))))))))))))) (.s (.r (.op 0 .p (.op 1 .q (.op 2 .p (.op 3 .p (.op 4 .p (.op 5 .p (.op 6 .l (.op 7 .l (.op 8 .p (.op 9 .l (.nil)))))))))))) (.r (.op 0 .p (.op 1 .p (.op 2 .p (.op 3 .p (.op 4 .p (.op 5 .p (.op 6 .p (.op 7 .p (.op 8 .p (.op 9 .l (.op 10 .l (.op 11 .p (.nil))))))))))))))))))) (.r (.op 0 .p (.op 1 .p (.op 2 .p (.nil)))))))))) (.s (.s (.r (.op 0 .p (.op 1 .p (.op 2 .p (.op 3 .q (.op 4 .p (.grp 106 false [(5, .p), (6, .p), (7, .p), (8, .q), (9, .p), (10, .p), (11, .p)] [113] (.op 12 .p (.nil))))))))) (.c (.s (.r (.op 0 .p (.op 1 .p (.op 2 .p (.op 3 .p (.alt 4 .l (.op 5 .l (.op 6 .p (.op 7 .p (.op 8 .p (.nil))))) (.op 5 .l (.op 6 .p (.op 4 .l (.op 7 .p (.op 8 .p (.nil)))))))))))) (.n)) (.n))) (.s (.r (.op 0 .q (.op 1 .p (.op 2 .l (.op 3 .p (.op 4 .p (.op 5 .p (.nil)))))))) (.n))))))))))
def Tryd.F_ref20_whole (t0 : Value) (t1 : Value) (w : World) (K : Value → World → Prop) : Prop :=
 opW Tryd.prog w (Instr.alloc 24 true (.tuple #[])) fun t4 w1 =>
 opP Tryd.prog (Instr.build 104 #[(0, t0), (3, t1)]) fun t29 =>
 opW Tryd.prog w1 (Instr.box 104 t29) fun t30 w2 =>
 sLoop [(Value.int .i64 0)] w2 (fun s4 _d5 w6 K3 =>
 opP Tryd.prog (Builtin.len_ #[9] 3 #[(Value.string { data := #[76, 87, 67, 1] })]) fun t33 =>
 opP Tryd.prog (bsem .lss 3 false (s4.getD 0 undef) t33) fun t34 =>
 oCond t34 (opP Tryd.prog (Instr.index 9 (Value.string { data := #[76, 87, 67, 1] }) (s4.getD 0 undef)) fun t40 =>
 opP Tryd.prog (convert 5 3 t40) fun t41 =>
 opP Tryd.prog (Instr.index 9 (Value.string { data := #[76, 87, 67, 1] }) (s4.getD 0 undef)) fun t44 =>
 opP Tryd.prog (convert 5 3 t44) fun t45 =>
 oCall Tryd.prog Tryd.n_ref20_reader_one #[t30, t41, t45] w6.drew fun _t46 w7 =>
 opP Tryd.prog (bsem .add 3 true (s4.getD 0 undef) (Value.int .i64 1)) fun t36 =>
 K3 [t36] w7) (oCall Tryd.prog Tryd.n_ref20_reader_one #[t30, (Value.int .i64 1), (Value.int .i64 32)] w6 fun t48 w8 =>
 opW Tryd.prog w8 (Instr.alloc 24 true (.tuple #[])) fun t12 w9 =>
 sLoop [(Value.slice Option.none 0 0), (Value.int .i64 0)] w9 (fun s11 _d12 w13 K10 =>
 opP Tryd.prog (bsem .lss 3 false (s11.getD 1 undef) t48) fun t51 =>
 sJoin (fun K14 => gIf t51 true (oNil t30 fun t54 =>
 opP Tryd.prog (Instr.fieldAt 104 t54 2) fun t55 =>
 opQ Tryd.prog w13 (Instr.loadAt 4 t55) fun t56 =>
 opP Tryd.prog (Op.unary .not t56) fun t57 =>
 K14 [t57] w13) (K14 [undef] w13)) (fun s15 _d16 w17 =>
 oPick t51 (s15.getD 0 undef) (Value.bool false) fun t58 =>
 oCond t58 (oCall Tryd.prog Tryd.n_ref20_reader_list #[t30, (Value.int .i64 512)] w17 fun t63 w18 =>
 opP Tryd.prog (Instr.extract t63 0) fun t64 =>
 opP Tryd.prog (Instr.extract t63 1) fun t65 =>
 opP Tryd.prog (Instr.extract t63 2) fun t66 =>
 opP Tryd.prog (Instr.extract t63 3) fun t67 =>
 oCall Tryd.prog Tryd.n_ref20_reader_list #[t30, (Value.int .i64 256)] w18 fun t70 w19 =>
 opP Tryd.prog (Instr.extract t70 0) fun t71 =>
 opP Tryd.prog (Instr.extract t70 1) fun t72 =>
 opP Tryd.prog (Instr.extract t70 2) fun t73 =>
 opP Tryd.prog (Instr.extract t70 3) fun _t74 =>
 oCall Tryd.prog Tryd.n_ref20_reader_list #[t30, (Value.int .i64 256)] w19 fun t77 w20 =>
 opP Tryd.prog (Instr.extract t77 0) fun t78 =>
 opP Tryd.prog (Instr.extract t77 1) fun t79 =>
 opP Tryd.prog (Instr.extract t77 2) fun t80 =>
 opP Tryd.prog (Instr.extract t77 3) fun _t81 =>
 opP Tryd.prog (Instr.fieldAt 24 t12 0) fun t82 =>
 opQ Tryd.prog w20 (Instr.loadAt 22 t82) fun t83 =>
 opP Tryd.prog (Instr.build 50 #[(0, t64), (1, t71), (2, t78)]) fun t87 =>
 opW Tryd.prog w20 (Instr.buildSlice 22 1 #[(0, t87)]) fun t88 w21 =>
 opW Tryd.prog w21 (Builtin.append_ #[22, 22] 22 #[t83, t88]) fun t89 w22 =>
 opP Tryd.prog (Instr.fieldAt 24 t12 0) fun t90 =>
 opU Tryd.prog w22 (Instr.storeAt 22 t90 t89) fun w23 =>
 opP Tryd.prog (Instr.build 38 #[(0, t65), (1, t66), (2, t72), (3, t73), (4, t79), (5, t80), (6, t67)]) fun t99 =>
 opW Tryd.prog w23 (Instr.buildSlice 43 1 #[(0, t99)]) fun t100 w24 =>
 opW Tryd.prog w24 (Builtin.append_ #[43, 43] 43 #[(s11.getD 0 undef), t100]) fun t101 w25 =>
 opP Tryd.prog (bsem .add 3 true (s11.getD 1 undef) (Value.int .i64 1)) fun t60 =>
 K10 [t101, t60] w25) (oNil t30 fun t103 =>
 opP Tryd.prog (Instr.fieldAt 104 t103 2) fun t104 =>
 opQ Tryd.prog w17 (Instr.loadAt 4 t104) fun t105 =>
 sJoin (fun K26 => gIf t105 false (oNil t30 fun t108 =>
 opP Tryd.prog (Instr.fieldAt 104 t108 1) fun t109 =>
 opQ Tryd.prog w17 (Instr.loadAt 3 t109) fun t110 =>
 opP Tryd.prog (Builtin.len_ #[9] 3 #[t0]) fun t112 =>
 opP Tryd.prog (bsem .lss 3 false t110 t112) fun t113 =>
 K26 [t113] w17) (K26 [undef] w17)) (fun s27 _d28 w29 =>
 oPick t105 (Value.bool true) (s27.getD 0 undef) fun t114 =>
 oCond t114 (opP Tryd.prog (Instr.build 24 #[]) fun t115 =>
 oNil t30 fun t117 =>
 opP Tryd.prog (Instr.fieldAt 104 t117 1) fun t118 =>
 ((opW Tryd.prog w29.drew (Instr.loadAt 3 t118) fun t119 w30 =>
 opU Tryd.prog w30 (Instr.storeAt 24 t4 t115) fun w31 =>
 opQ Tryd.prog w31 (cellSem 24 t4) fun r32 =>
 K (.tuple #[r32, (Value.slice Option.none 0 0), t119, (Value.bool false)]) w31) ∧
 (opU Tryd.prog w29.drew (Instr.storeAt 24 t4 t115) fun w33 =>
 opW Tryd.prog w33 (Instr.loadAt 3 t118) fun t119_35 w34 =>
 opQ Tryd.prog w34 (cellSem 24 t4) fun r36 =>
 K (.tuple #[r36, (Value.slice Option.none 0 0), t119_35, (Value.bool false)]) w34))) (opQ Tryd.prog w29 (Instr.loadAt 24 t12) fun t120 =>
 opU Tryd.prog w29 (Instr.storeAt 24 t4 t120) fun w37 =>
 opQ Tryd.prog w37 (cellSem 24 t4) fun r38 =>
 K (.tuple #[r38, (s11.getD 0 undef), (Value.int .i64 0), (Value.bool true)]) w37)))))))
theorem Tryd.E_ref20_whole (t0 t1 : Value) (w : World) (K : Value → World → Prop) : sw ⟨false, false⟩ Tryd.prog (fun _ _ => False) Tryd.A_ref20_whole (bodyOf Tryd.f46) [t0, t1, undef, undef, undef, undef, undef, undef, undef, undef, undef, undef, undef, undef, undef, undef, undef, undef, undef, undef, undef, undef, undef, undef, undef, undef, undef, undef, undef, undef, undef, undef, undef, undef, undef, undef, undef, undef, undef, undef, undef, undef, undef, undef, undef, undef, undef, undef, undef, undef, undef, undef, undef, undef, undef, undef, undef, undef, undef, undef, undef, undef, undef, undef, undef, undef, undef, undef, undef, undef, undef, undef, undef, undef, undef, undef, undef, undef, undef, undef, undef, undef, undef, undef, undef, undef, undef, undef, undef, undef, undef, undef, undef, undef, undef, undef, undef, undef, undef, undef, undef, undef, undef, undef, undef, undef, undef, undef, undef, undef, undef, undef, undef, undef, undef, undef, undef, undef, undef, undef, undef, undef] w (topQ false Tryd.prog Tryd.f46 w K) = Tryd.F_ref20_whole t0 t1 w K := by kernel_rfl
theorem Tryd.C_ref20_whole : chk ⟨false, false⟩ Tryd.prog false Tryd.A_ref20_whole (bodyOf Tryd.f46) = true := by kernel_rfl
theorem Tryd.ok_ref20_whole {t0 t1 : Value} {w : World} {K : Value → World → Prop} (h : Tryd.F_ref20_whole t0 t1 w K) : oCall Tryd.prog Tryd.n_ref20_whole #[t0, t1] w K :=
  calls_of_sw (cf := ⟨false, false⟩) Tryd.mixed Tryd.func46 rfl Tryd.C_ref20_whole ((Tryd.E_ref20_whole t0 t1 w K).mpr h)

/- 22: loanword/loanwordref20.Read -/
def Tryd.A_ref20_Read : Ann := .s (.r (.op 0 .l (.op 1 .p (.op 2 .p (.nil))))) (.s (.s (.r (.op 0 .p (.op 1 .p (.op 2 .p (.nil))))) (.c (.s (.r (.op 0 .p (.op 1 .l (.op 2 .p (.op 3 .p (.nil)))))) (.n)) (.n))) (.s (.r (.op 0 .p (.op 1 .l (.op 2 .p (.op 3 .p (.op 4 .p (.op 5 .p (.op 6 .p (.op 7 .l (.op 8 .l (.op 9 .p (.op 10 .p (.op 11 .p (.nil)))))))))))))) (.s (.s (.r (.op 0 .p (.op 1 .p (.nil)))) (.c (.s (.r (.op 0 .p (.op 1 .p (.op 2 .l (.op 3 .p (.op 4 .p (.nil))))))) (.n)) (.n))) (.s (.r (.op 0 .q (.op 1 .l (.op 2 .p (.op 3 .p (.nil)))))) (.n)))))
def Tryd.F_ref20_Read (t0 : Value) (w : World) (K : Value → World → Prop) : Prop :=
 opW Tryd.prog w (Instr.alloc 24 true (.tuple #[])) fun t2 w1 =>
 opP Tryd.prog (Builtin.len_ #[9] 3 #[t0]) fun t10 =>
 opP Tryd.prog (bsem .gtr 3 true t10 (Value.int .i64 8388608)) fun t11 =>
 oCond t11 (opP Tryd.prog (Instr.build 24 #[]) fun t12 =>
 opU Tryd.prog w1 (Instr.storeAt 24 t2 t12) fun w2 =>
 opQ Tryd.prog w2 (cellSem 24 t2) fun r3 =>
 K (.tuple #[r3, (Value.int .i64 0), (Value.int .i64 3)]) w2) (oCall Tryd.prog Tryd.n_ref20_whole #[t0, (Value.bool false)] w1 fun t15 w4 =>
 opP Tryd.prog (Instr.extract t15 0) fun t16 =>
 opP Tryd.prog (Instr.extract t15 1) fun _t17 =>
 opP Tryd.prog (Instr.extract t15 2) fun t18 =>
 opP Tryd.prog (Instr.extract t15 3) fun t19 =>
 opW Tryd.prog w4 (Instr.alloc 24 true (.tuple #[])) fun t5 w5 =>
 opU Tryd.prog w5 (Instr.storeAt 24 t5 t16) fun w6 =>
 opP Tryd.prog (Op.unary .not t19) fun t21 =>
 oCond t21 (opP Tryd.prog (Instr.build 24 #[]) fun t22 =>
 opU Tryd.prog w6 (Instr.storeAt 24 t2 t22) fun w7 =>
 opQ Tryd.prog w7 (cellSem 24 t2) fun r8 =>
 K (.tuple #[r8, t18, (Value.int .i64 200)]) w7) (opQ Tryd.prog w6 (Instr.loadAt 24 t5) fun t24 =>
 opU Tryd.prog w6 (Instr.storeAt 24 t2 t24) fun w9 =>
 opQ Tryd.prog w9 (cellSem 24 t2) fun r10 =>
 K (.tuple #[r10, (Value.int .i64 0), (Value.int .i64 0)]) w9))
theorem Tryd.E_ref20_Read (t0 : Value) (w : World) (K : Value → World → Prop) : sw ⟨false, false⟩ Tryd.prog (fun _ _ => False) Tryd.A_ref20_Read (bodyOf Tryd.f22) [t0, undef, undef, undef, undef, undef, undef, undef, undef, undef, undef, undef, undef, undef, undef, undef, undef, undef, undef, undef, undef, undef, undef, undef, undef] w (topQ false Tryd.prog Tryd.f22 w K) = Tryd.F_ref20_Read t0 w K := by kernel_rfl
theorem Tryd.C_ref20_Read : chk ⟨false, false⟩ Tryd.prog false Tryd.A_ref20_Read (bodyOf Tryd.f22) = true := by kernel_rfl
theorem Tryd.ok_ref20_Read {t0 : Value} {w : World} {K : Value → World → Prop} (h : Tryd.F_ref20_Read t0 w K) : oCall Tryd.prog Tryd.n_ref20_Read #[t0] w K :=
  calls_of_sw (cf := ⟨false, false⟩) Tryd.mixed Tryd.func22 rfl Tryd.C_ref20_Read ((Tryd.E_ref20_Read t0 w K).mpr h)

/- 24: loanword/loanwordref20.Heads -/
def Tryd.A_ref20_Heads : Ann := .s (.r (.op 0 .p (.op 1 .p (.op 2 .p (.nil))))) (.s (.s (.r (.op 0 .p (.op 1 .p (.op 2 .p (.nil))))) (.c (.s (.r (.op 0 .p (.op 1 .p (.op 2 .p (.nil))))) (.n)) (.n))) (.s (.r (.op 0 .p (.op 1 .l (.op 2 .p (.op 3 .p (.op 4 .p (.op 5 .p (.op 6 .p (.op 7 .l (.op 8 .l (.op 9 .p (.op 10 .p (.op 11 .p (.nil)))))))))))))) (.s (.s (.r (.op 0 .p (.op 1 .p (.nil)))) (.c (.s (.r (.op 0 .p (.op 1 .p (.op 2 .p (.op 3 .p (.nil)))))) (.n)) (.n))) (.s (.r (.op 0 .p (.op 1 .p (.op 2 .p (.op 3 .p (.nil)))))) (.n)))))
def Tryd.F_ref20_Heads (t0 : Value) (w : World) (K : Value → World → Prop) : Prop :=
 opP Tryd.prog (Builtin.len_ #[9] 3 #[t0]) fun t10 =>
 opP Tryd.prog (bsem .gtr 3 true t10 (Value.int .i64 8388608)) fun t11 =>
 oCond t11 (K (.tuple #[(Value.slice Option.none 0 0), (Value.int .i64 0), (Value.int .i64 3)]) w) (oCall Tryd.prog Tryd.n_ref20_whole #[t0, (Value.bool true)] w fun t14 w1 =>
 opP Tryd.prog (Instr.extract t14 0) fun t15 =>
 opP Tryd.prog (Instr.extract t14 1) fun t16 =>
 opP Tryd.prog (Instr.extract t14 2) fun t17 =>
 opP Tryd.prog (Instr.extract t14 3) fun t18 =>
 opW Tryd.prog w1 (Instr.alloc 24 true (.tuple #[])) fun t5 w2 =>
 opU Tryd.prog w2 (Instr.storeAt 24 t5 t15) fun w3 =>
 opP Tryd.prog (Op.unary .not t18) fun t20 =>
 oCond t20 (K (.tuple #[(Value.slice Option.none 0 0), t17, (Value.int .i64 200)]) w3) (K (.tuple #[t16, (Value.int .i64 0), (Value.int .i64 0)]) w3))
theorem Tryd.E_ref20_Heads (t0 : Value) (w : World) (K : Value → World → Prop) : sw ⟨false, false⟩ Tryd.prog (fun _ _ => False) Tryd.A_ref20_Heads (bodyOf Tryd.f24) [t0, undef, undef, undef, undef, undef, undef, undef, undef, undef, undef, undef, undef, undef, undef, undef, undef, undef, undef, undef, undef, undef, undef] w (topQ false Tryd.prog Tryd.f24 w K) = Tryd.F_ref20_Heads t0 w K := by kernel_rfl
theorem Tryd.C_ref20_Heads : chk ⟨false, false⟩ Tryd.prog false Tryd.A_ref20_Heads (bodyOf Tryd.f24) = true := by kernel_rfl
theorem Tryd.ok_ref20_Heads {t0 : Value} {w : World} {K : Value → World → Prop} (h : Tryd.F_ref20_Heads t0 w K) : oCall Tryd.prog Tryd.n_ref20_Heads #[t0] w K :=
  calls_of_sw (cf := ⟨false, false⟩) Tryd.mixed Tryd.func24 rfl Tryd.C_ref20_Heads ((Tryd.E_ref20_Heads t0 w K).mpr h)

/- 26: loanword/loanwordref20.Fn -/
def Tryd.A_ref20_Fn : Ann := .s (.r (.op 0 .l (.op 1 .l (.op 2 .p (.op 3 .p (.nil)))))) (.s (.r (.op 0 .p (.op 1 .l (.op 2 .p (.op 3 .p (.op 4 .p (.op 5 .p (.op 6 .p (.op 7 .p (.op 8 .p (.nil))))))))))) (.s (.s (.r (.op 0 .p (.op 1 .p (.nil)))) (.c (.s (.r (.op 0 .p (.op 1 .l (.op 2 .p (.op 3 .p (.nil)))))) (.n)) (.n))) (.s (.s (.r (.op 0 .p (.nil))) (.b (.lp [10] (.s (.s (.r (.op 0 .p (.op 1 .p (.op 2 .p (.op 3 .p (.nil)))))) (.c (.n) (.n))) (.s (.b (.s (.r (.op 0 .p (.op 1 .p (.op 2 .p (.op 3 .q (.op 4 .q (.op 5 .q (.nil)))))))) (.c (.s (.r (.op 0 .p (.op 1 .p (.op 2 .q (.op 3 .p (.op 4 .p (.op 5 .l (.op 6 .p (.nil))))))))) (.s (.r (.op 0 .p (.op 1 .l (.op 2 .p (.op 3 .p (.op 4 .p (.op 5 .p (.op 6 .p (.op 7 .p (.op 8 .p (.op 9 .p (.op 10 .p (.nil))))))))))))) (.s (.r (.op 0 .p (.op 1 .l (.op 2 .p (.op 3 .p (.op 4 .p (.op 5 .p (.op 6 .p (.op 7 .p (.op 8 .p (.op 9 .p (.op 10 .p (.nil))))))))))))) (.s (.r (.op 0 .p (.op 1 .l (.op 2 .p (.op 3 .p (.op 4 .p (.op 5 .p (.op 6 .p (.op 7 .p (.op 8 .p (.op 9 .p (.op 10 .p (.nil))))))))))))) (.s (.s (.r (.op 0 .p (.op 1 .p (.op 2 .p (.op 3 .q (.nil)))))) (.c (.s (.r (.op 0 .p (.op 1 .p (.op 2 .p (.op 3 .p (.alt 4 .l (.op 5 .l (.op 6 .p (.op 7 .p (.nil)))) (.op 5 .l (.op 4 .l (.op 6 .p (.op 7 .p (.nil))))))))))) (.n)) (.n))) (.s (.r (.op 0 .p (.op 1 .p (.op 2 .p (.op 3 .p (.op 4 .l (.op 5 .p (.op 6 .p (.nil))))))))) (.n))))))) (.n)))) (.r (.op 0 .p (.op 1 .p (.op 2 .p (.nil)))))))))) (.s (.r (.op 0 .p (.op 1 .l (.op 2 .p (.op 3 .p (.nil)))))) (.n)))))
def Tryd.F_ref20_Fn (t0 : Value) (t1 : Value) (w : World) (K : Value → World → Prop) : Prop :=
 opW Tryd.prog w (Instr.box 38 t1) fun t3 w1 =>
 opW Tryd.prog w1 (Instr.alloc 50 true (.tuple #[])) fun t4 w2 =>
 oCall Tryd.prog Tryd.n_ref20_Heads #[t0] w2 fun t26 w3 =>
 opP Tryd.prog (Instr.extract t26 0) fun t27 =>
 opP Tryd.prog (Instr.extract t26 1) fun _t28 =>
 opP Tryd.prog (Instr.extract t26 2) fun t29 =>
 opP Tryd.prog (bsem .eql 3 true t29 (Value.int .i64 3)) fun t31 =>
 oCond t31 (opP Tryd.prog (Instr.build 50 #[]) fun t32 =>
 opU Tryd.prog w3 (Instr.storeAt 50 t4 t32) fun w4 =>
 opQ Tryd.prog w4 (cellSem 50 t4) fun r5 =>
 K (.tuple #[r5, (Value.int .i64 0), (Value.int .i64 3)]) w4) (sLoop [(Value.int .i64 0)] w3 (fun s7 _d8 w9 K6 =>
 opP Tryd.prog (Builtin.len_ #[43] 3 #[t27]) fun t35 =>
 opP Tryd.prog (bsem .lss 3 false (s7.getD 0 undef) t35) fun t36 =>
 oCond t36 (opP Tryd.prog (Instr.indexAt 43 t27 (s7.getD 0 undef)) fun t41 =>
 opQ Tryd.prog w9.drew (Instr.loadAt 38 t41) fun t42 =>
 opQ Tryd.prog w9.drew (Instr.loadAt 38 t3) fun t43 =>
 opQ Tryd.prog w9.drew (bsem .eql 38 false t42 t43) fun t44 =>
 oCond t44 (opP Tryd.prog (Instr.fieldAt 38 t3 6) fun t46 =>
 opQ Tryd.prog w9.drew (Instr.loadAt 3 t46) fun t47 =>
 opP Tryd.prog (bsem .sub 3 true t47 (Value.int .i64 4)) fun t48 =>
 opP Tryd.prog (Instr.build 104 #[(0, t0), (1, t48)]) fun t49 =>
 opW Tryd.prog w9.drew (Instr.box 104 t49) fun t50 w10 =>
 oCall Tryd.prog Tryd.n_ref20_reader_list #[t50, (Value.int .i64 512)] w10 fun t53 w11 =>
 opP Tryd.prog (Instr.extract t53 0) fun t54 =>
 opP Tryd.prog (Instr.extract t53 1) fun _t55 =>
 opP Tryd.prog (Instr.extract t53 2) fun _t56 =>
 opP Tryd.prog (Instr.extract t53 3) fun _t57 =>
 oCall Tryd.prog Tryd.n_ref20_reader_list #[t50, (Value.int .i64 256)] w11 fun t60 w12 =>
 opP Tryd.prog (Instr.extract t60 0) fun t61 =>
 opP Tryd.prog (Instr.extract t60 1) fun _t62 =>
 opP Tryd.prog (Instr.extract t60 2) fun _t63 =>
 opP Tryd.prog (Instr.extract t60 3) fun _t64 =>
 oCall Tryd.prog Tryd.n_ref20_reader_list #[t50, (Value.int .i64 256)] w12 fun t67 w13 =>
 opP Tryd.prog (Instr.extract t67 0) fun t68 =>
 opP Tryd.prog (Instr.extract t67 1) fun _t69 =>
 opP Tryd.prog (Instr.extract t67 2) fun _t70 =>
 opP Tryd.prog (Instr.extract t67 3) fun _t71 =>
 oNil t50 fun t73 =>
 opP Tryd.prog (Instr.fieldAt 104 t73 2) fun t74 =>
 opQ Tryd.prog w13 (Instr.loadAt 4 t74) fun t75 =>
 oCond t75 (opP Tryd.prog (Instr.build 50 #[]) fun t76 =>
 oNil t50 fun t78 =>
 opP Tryd.prog (Instr.fieldAt 104 t78 1) fun t79 =>
 ((opW Tryd.prog w13.drew (Instr.loadAt 3 t79) fun t80 w14 =>
 opU Tryd.prog w14 (Instr.storeAt 50 t4 t76) fun w15 =>
 opQ Tryd.prog w15 (cellSem 50 t4) fun r16 =>
 K (.tuple #[r16, t80, (Value.int .i64 200)]) w15) ∧
 (opU Tryd.prog w13.drew (Instr.storeAt 50 t4 t76) fun w17 =>
 opW Tryd.prog w17 (Instr.loadAt 3 t79) fun t80_19 w18 =>
 opQ Tryd.prog w18 (cellSem 50 t4) fun r20 =>
 K (.tuple #[r20, t80_19, (Value.int .i64 200)]) w18))) (opP Tryd.prog (Instr.build 50 #[(0, t54), (1, t61), (2, t68)]) fun t84 =>
 opU Tryd.prog w13 (Instr.storeAt 50 t4 t84) fun w21 =>
 opQ Tryd.prog w21 (cellSem 50 t4) fun r22 =>
 K (.tuple #[r22, (Value.int .i64 0), (Value.int .i64 0)]) w21)) (opP Tryd.prog (bsem .add 3 true (s7.getD 0 undef) (Value.int .i64 1)) fun t38 =>
 K6 [t38] w9.drew)) (opP Tryd.prog (Instr.build 50 #[]) fun t85 =>
 opU Tryd.prog w9 (Instr.storeAt 50 t4 t85) fun w23 =>
 opQ Tryd.prog w23 (cellSem 50 t4) fun r24 =>
 K (.tuple #[r24, (Value.int .i64 0), (Value.int .i64 2)]) w23)))
theorem Tryd.E_ref20_Fn (t0 t1 : Value) (w : World) (K : Value → World → Prop) : sw ⟨false, false⟩ Tryd.prog (fun _ _ => False) Tryd.A_ref20_Fn (bodyOf Tryd.f26) [t0, t1, undef, undef, undef, undef, undef, undef, undef, undef, undef, undef, undef, undef, undef, undef, undef, undef, undef, undef, undef, undef, undef, undef, undef, undef, undef, undef, undef, undef, undef, undef, undef, undef, undef, undef, undef, undef, undef, undef, undef, undef, undef, undef, undef, undef, undef, undef, undef, undef, undef, undef, undef, undef, undef, undef, undef, undef, undef, undef, undef, undef, undef, undef, undef, undef, undef, undef, undef, undef, undef, undef, undef, undef, undef, undef, undef, undef, undef, undef, undef, undef, undef, undef, undef, undef] w (topQ false Tryd.prog Tryd.f26 w K) = Tryd.F_ref20_Fn t0 t1 w K := by kernel_rfl
theorem Tryd.C_ref20_Fn : chk ⟨false, false⟩ Tryd.prog false Tryd.A_ref20_Fn (bodyOf Tryd.f26) = true := by kernel_rfl
theorem Tryd.ok_ref20_Fn {t0 t1 : Value} {w : World} {K : Value → World → Prop} (h : Tryd.F_ref20_Fn t0 t1 w K) : oCall Tryd.prog Tryd.n_ref20_Fn #[t0, t1] w K :=
  calls_of_sw (cf := ⟨false, false⟩) Tryd.mixed Tryd.func26 rfl Tryd.C_ref20_Fn ((Tryd.E_ref20_Fn t0 t1 w K).mpr h)

end Go.Proofs
end
