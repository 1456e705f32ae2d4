/-
  Shallow readings of functions. Made by a program (wip/gen/gen.py) out of the translation; the kernel checks each equality.
-/
import Derived.Test.YtajllnahceaipaaDoorTy
namespace Go.Proofs
open Go.Sh
set_option maxRecDepth 100000
/- 49: slices.ContainsFunc[[]int,int] -/
def Tryd.A_slices_ContainsFunc_int_int : Ann := .s (.r (.op 0 .p (.nil))) (.s (.r (.op 0 .p (.op 1 .p (.op 2 .l (.op 3 .p (.op 4 .p (.nil))))))) (.n))
def Tryd.F_slices_ContainsFunc_int_int (t0 : Value) (t1 : Value) (w : World) (K : Value → World → Prop) : Prop :=
 oCall Tryd.prog Tryd.n_slices_IndexFunc_int_int #[t0, t1] w fun t7 w1 =>
 opP Tryd.prog (bsem .geq 3 true t7 (Value.int .i64 0)) fun t8 =>
 K t8 w1
theorem Tryd.E_slices_ContainsFunc_int_int (t0 t1 : Value) (w : World) (K : Value → World → Prop) : sw ⟨false, false⟩ Tryd.prog (fun _ _ => False) Tryd.A_slices_ContainsFunc_int_int (bodyOf Tryd.f49) [t0, t1, undef, undef, undef, undef, undef, undef, undef] w (topQ false Tryd.prog Tryd.f49 w K) = Tryd.F_slices_ContainsFunc_int_int t0 t1 w K := by kernel_rfl
theorem Tryd.C_slices_ContainsFunc_int_int : chk ⟨false, false⟩ Tryd.prog false Tryd.A_slices_ContainsFunc_int_int (bodyOf Tryd.f49) = true := by kernel_rfl
theorem Tryd.ok_slices_ContainsFunc_int_int {t0 t1 : Value} {w : World} {K : Value → World → Prop} (h : Tryd.F_slices_ContainsFunc_int_int t0 t1 w K) : oCall Tryd.prog Tryd.n_slices_ContainsFunc_int_int #[t0, t1] w K :=
  calls_of_sw (cf := ⟨false, false⟩) Tryd.mixed Tryd.func49 rfl Tryd.C_slices_ContainsFunc_int_int ((Tryd.E_slices_ContainsFunc_int_int t0 t1 w K).mpr h)

/- 64: slices.ContainsFunc[[]loanword/api.Field,loanword/api.Field] -/
def Tryd.A_slices_ContainsFunc_api_Field_api_Field : Ann := .s (.r (.op 0 .p (.nil))) (.s (.r (.op 0 .p (.op 1 .p (.op 2 .l (.op 3 .p (.op 4 .p (.nil))))))) (.n))
def Tryd.F_slices_ContainsFunc_api_Field_api_Field (t0 : Value) (t1 : Value) (w : World) (K : Value → World → Prop) : Prop :=
 oCall Tryd.prog Tryd.n_slices_IndexFunc_api_Field_api_Field #[t0, t1] w fun t7 w1 =>
 opP Tryd.prog (bsem .geq 3 true t7 (Value.int .i64 0)) fun t8 =>
 K t8 w1
theorem Tryd.E_slices_ContainsFunc_api_Field_api_Field (t0 t1 : Value) (w : World) (K : Value → World → Prop) : sw ⟨false, false⟩ Tryd.prog (fun _ _ => False) Tryd.A_slices_ContainsFunc_api_Field_api_Field (bodyOf Tryd.f64) [t0, t1, undef, undef, undef, undef, undef, undef, undef] w (topQ false Tryd.prog Tryd.f64 w K) = Tryd.F_slices_ContainsFunc_api_Field_api_Field t0 t1 w K := by kernel_rfl
theorem Tryd.C_slices_ContainsFunc_api_Field_api_Field : chk ⟨false, false⟩ Tryd.prog false Tryd.A_slices_ContainsFunc_api_Field_api_Field (bodyOf Tryd.f64) = true := by kernel_rfl
theorem Tryd.ok_slices_ContainsFunc_api_Field_api_Field {t0 t1 : Value} {w : World} {K : Value → World → Prop} (h : Tryd.F_slices_ContainsFunc_api_Field_api_Field t0 t1 w K) : oCall Tryd.prog Tryd.n_slices_ContainsFunc_api_Field_api_Field #[t0, t1] w K :=
  calls_of_sw (cf := ⟨false, false⟩) Tryd.mixed Tryd.func64 rfl Tryd.C_slices_ContainsFunc_api_Field_api_Field ((Tryd.E_slices_ContainsFunc_api_Field_api_Field t0 t1 w K).mpr h)

/- 86: slices.IndexFunc[[]int,int] -/
def Tryd.A_slices_IndexFunc_int_int : Ann := .s (.r (.op 0 .p (.nil))) (.s (.s (.r (.op 0 .p (.op 1 .p (.op 2 .p (.nil))))) (.b (.lp [8] (.s (.r (.op 0 .p (.nil))) (.s (.c (.n) (.n)) (.s (.b (.s (.r (.op 0 .p (.op 1 .p (.nil)))) (.s (.r (.op 0 .p (.op 1 .p (.op 2 .p (.op 3 .p (.op 4 .q (.op 5 .l (.nil)))))))) (.c (.s (.r (.op 0 .p (.op 1 .p (.nil)))) (.n)) (.n))))) (.r (.op 0 .p (.op 1 .p (.nil)))))))))) (.s (.r (.op 0 .p (.nil))) (.n)))
def Tryd.F_slices_IndexFunc_int_int (t0 : Value) (t1 : Value) (w : World) (K : Value → World → Prop) : Prop :=
 opP Tryd.prog (Builtin.len_ #[68] 3 #[t0]) fun t7 =>
 sLoop [(Value.int .i64 0)] w (fun s2 _d3 w4 K1 =>
 opP Tryd.prog (bsem .lss 3 false (s2.getD 0 undef) t7) fun t9 =>
 oCond t9 (opP Tryd.prog (Instr.indexAt 68 t0 (s2.getD 0 undef)) fun t14 =>
 opQ Tryd.prog w4 (Instr.loadAt 3 t14) fun t15 =>
 oCallV Tryd.prog t1 #[t15] w4 fun t16 w5 =>
 oCond t16 (K (s2.getD 0 undef) w5) (opP Tryd.prog (bsem .add 3 true (s2.getD 0 undef) (Value.int .i64 1)) fun t18 =>
 K1 [t18] w5)) (K (Value.int .i64 (-1)) w4))
theorem Tryd.E_slices_IndexFunc_int_int (t0 t1 : Value) (w : World) (K : Value → World → Prop) : sw ⟨false, false⟩ Tryd.prog (fun _ _ => False) Tryd.A_slices_IndexFunc_int_int (bodyOf Tryd.f86) [t0, t1, undef, undef, undef, undef, undef, undef, undef, undef, undef, undef, undef, undef, undef, undef, undef, undef, undef] w (topQ false Tryd.prog Tryd.f86 w K) = Tryd.F_slices_IndexFunc_int_int t0 t1 w K := by kernel_rfl
theorem Tryd.C_slices_IndexFunc_int_int : chk ⟨false, false⟩ Tryd.prog false Tryd.A_slices_IndexFunc_int_int (bodyOf Tryd.f86) = true := by kernel_rfl
theorem Tryd.ok_slices_IndexFunc_int_int {t0 t1 : Value} {w : World} {K : Value → World → Prop} (h : Tryd.F_slices_IndexFunc_int_int t0 t1 w K) : oCall Tryd.prog Tryd.n_slices_IndexFunc_int_int #[t0, t1] w K :=
  calls_of_sw (cf := ⟨false, false⟩) Tryd.mixed Tryd.func86 rfl Tryd.C_slices_IndexFunc_int_int ((Tryd.E_slices_IndexFunc_int_int t0 t1 w K).mpr h)

/- 97: slices.IndexFunc[[]loanword/api.Field,loanword/api.Field] -/
def Tryd.A_slices_IndexFunc_api_Field_api_Field : Ann := .s (.r (.op 0 .p (.nil))) (.s (.s (.r (.op 0 .p (.op 1 .p (.op 2 .p (.nil))))) (.b (.lp [8] (.s (.r (.op 0 .p (.nil))) (.s (.c (.n) (.n)) (.s (.b (.s (.r (.op 0 .p (.op 1 .p (.nil)))) (.s (.r (.op 0 .p (.op 1 .p (.op 2 .p (.op 3 .p (.op 4 .q (.op 5 .l (.nil)))))))) (.c (.s (.r (.op 0 .p (.op 1 .p (.nil)))) (.n)) (.n))))) (.r (.op 0 .p (.op 1 .p (.nil)))))))))) (.s (.r (.op 0 .p (.nil))) (.n)))
def Tryd.F_slices_IndexFunc_api_Field_api_Field (t0 : Value) (t1 : Value) (w : World) (K : Value → World → Prop) : Prop :=
 opP Tryd.prog (Builtin.len_ #[97] 3 #[t0]) fun t7 =>
 sLoop [(Value.int .i64 0)] w (fun s2 _d3 w4 K1 =>
 opP Tryd.prog (bsem .lss 3 false (s2.getD 0 undef) t7) fun t9 =>
 oCond t9 (opP Tryd.prog (Instr.indexAt 97 t0 (s2.getD 0 undef)) fun t14 =>
 opQ Tryd.prog w4 (Instr.loadAt 101 t14) fun t15 =>
 oCallV Tryd.prog t1 #[t15] w4 fun t16 w5 =>
 oCond t16 (K (s2.getD 0 undef) w5) (opP Tryd.prog (bsem .add 3 true (s2.getD 0 undef) (Value.int .i64 1)) fun t18 =>
 K1 [t18] w5)) (K (Value.int .i64 (-1)) w4))
theorem Tryd.E_slices_IndexFunc_api_Field_api_Field (t0 t1 : Value) (w : World) (K : Value → World → Prop) : sw ⟨false, false⟩ Tryd.prog (fun _ _ => False) Tryd.A_slices_IndexFunc_api_Field_api_Field (bodyOf Tryd.f97) [t0, t1, undef, undef, undef, undef, undef, undef, undef, undef, undef, undef, undef, undef, undef, undef, undef, undef, undef] w (topQ false Tryd.prog Tryd.f97 w K) = Tryd.F_slices_IndexFunc_api_Field_api_Field t0 t1 w K := by kernel_rfl
theorem Tryd.C_slices_IndexFunc_api_Field_api_Field : chk ⟨false, false⟩ Tryd.prog false Tryd.A_slices_IndexFunc_api_Field_api_Field (bodyOf Tryd.f97) = true := by kernel_rfl
theorem Tryd.ok_slices_IndexFunc_api_Field_api_Field {t0 t1 : Value} {w : World} {K : Value → World → Prop} (h : Tryd.F_slices_IndexFunc_api_Field_api_Field t0 t1 w K) : oCall Tryd.prog Tryd.n_slices_IndexFunc_api_Field_api_Field #[t0, t1] w K :=
  calls_of_sw (cf := ⟨false, false⟩) Tryd.mixed Tryd.func97 rfl Tryd.C_slices_IndexFunc_api_Field_api_Field ((Tryd.E_slices_IndexFunc_api_Field_api_Field t0 t1 w K).mpr h)

/- 88: strconv.Itoa -/
def Tryd.A_strconv_Itoa : Ann := .s (.r (.op 0 .p (.nil))) (.s (.r (.op 0 .p (.op 1 .l (.op 2 .p (.nil))))) (.n))
def Tryd.F_strconv_Itoa (t0 : Value) (w : World) (K : Value → World → Prop) : Prop :=
 oCall Tryd.prog Tryd.n_internal_strconv_Itoa #[t0] w fun t4 w1 =>
 K t4 w1
theorem Tryd.E_strconv_Itoa (t0 : Value) (w : World) (K : Value → World → Prop) : sw ⟨false, false⟩ Tryd.prog (fun _ _ => False) Tryd.A_strconv_Itoa (bodyOf Tryd.f88) [t0, undef, undef, undef, undef] w (topQ false Tryd.prog Tryd.f88 w K) = Tryd.F_strconv_Itoa t0 w K := by kernel_rfl
theorem Tryd.C_strconv_Itoa : chk ⟨false, false⟩ Tryd.prog false Tryd.A_strconv_Itoa (bodyOf Tryd.f88) = true := by kernel_rfl
theorem Tryd.ok_strconv_Itoa {t0 : Value} {w : World} {K : Value → World → Prop} (h : Tryd.F_strconv_Itoa t0 w K) : oCall Tryd.prog Tryd.n_strconv_Itoa #[t0] w K :=
  calls_of_sw (cf := ⟨false, false⟩) Tryd.mixed Tryd.func88 rfl Tryd.C_strconv_Itoa ((Tryd.E_strconv_Itoa t0 w K).mpr h)

/- 99: internal/strconv.Itoa -/
def Tryd.A_internal_strconv_Itoa : Ann := .s (.r (.op 0 .p (.nil))) (.s (.r (.op 0 .p (.op 1 .l (.op 2 .p (.nil))))) (.n))
def Tryd.F_internal_strconv_Itoa (t0 : Value) (w : World) (K : Value → World → Prop) : Prop :=
 oCall Tryd.prog Tryd.n_internal_strconv_FormatInt #[t0, (Value.int .i64 10)] w fun t4 w1 =>
 K t4 w1
theorem Tryd.E_internal_strconv_Itoa (t0 : Value) (w : World) (K : Value → World → Prop) : sw ⟨false, false⟩ Tryd.prog (fun _ _ => False) Tryd.A_internal_strconv_Itoa (bodyOf Tryd.f99) [t0, undef, undef, undef, undef] w (topQ false Tryd.prog Tryd.f99 w K) = Tryd.F_internal_strconv_Itoa t0 w K := by kernel_rfl
theorem Tryd.C_internal_strconv_Itoa : chk ⟨false, false⟩ Tryd.prog false Tryd.A_internal_strconv_Itoa (bodyOf Tryd.f99) = true := by kernel_rfl
theorem Tryd.ok_internal_strconv_Itoa {t0 : Value} {w : World} {K : Value → World → Prop} (h : Tryd.F_internal_strconv_Itoa t0 w K) : oCall Tryd.prog Tryd.n_internal_strconv_Itoa #[t0] w K :=
  calls_of_sw (cf := ⟨false, false⟩) Tryd.mixed Tryd.func99 rfl Tryd.C_internal_strconv_Itoa ((Tryd.E_internal_strconv_Itoa t0 w K).mpr h)

/- 100: strings.HasPrefix -/
def Tryd.A_strings_HasPrefix : Ann := .s (.r (.op 0 .p (.nil))) (.s (.r (.op 0 .p (.op 1 .p (.op 2 .l (.op 3 .p (.nil)))))) (.n))
def Tryd.F_strings_HasPrefix (t0 : Value) (t1 : Value) (w : World) (K : Value → World → Prop) : Prop :=
 oCall Tryd.prog Tryd.n_internal_stringslite_HasPrefix #[t0, t1] w fun t7 w1 =>
 K t7 w1
theorem Tryd.E_strings_HasPrefix (t0 t1 : Value) (w : World) (K : Value → World → Prop) : sw ⟨false, false⟩ Tryd.prog (fun _ _ => False) Tryd.A_strings_HasPrefix (bodyOf Tryd.f100) [t0, t1, undef, undef, undef, undef, undef, undef] w (topQ false Tryd.prog Tryd.f100 w K) = Tryd.F_strings_HasPrefix t0 t1 w K := by kernel_rfl
theorem Tryd.C_strings_HasPrefix : chk ⟨false, false⟩ Tryd.prog false Tryd.A_strings_HasPrefix (bodyOf Tryd.f100) = true := by kernel_rfl
theorem Tryd.ok_strings_HasPrefix {t0 t1 : Value} {w : World} {K : Value → World → Prop} (h : Tryd.F_strings_HasPrefix t0 t1 w K) : oCall Tryd.prog Tryd.n_strings_HasPrefix #[t0, t1] w K :=
  calls_of_sw (cf := ⟨false, false⟩) Tryd.mixed Tryd.func100 rfl Tryd.C_strings_HasPrefix ((Tryd.E_strings_HasPrefix t0 t1 w K).mpr h)

/- 101: internal/strconv.FormatInt -/
def Tryd.A_internal_strconv_FormatInt : Ann := .s (.r (.op 0 .p (.nil))) (.s (.s (.r (.op 0 .p (.op 1 .p (.nil)))) (.c (.s (.s (.r (.op 0 .p (.op 1 .p (.op 2 .p (.grp 14 true [(3, .p), (4, .p)] [16] (.op 5 .p (.nil))))))) (.c (.s (.r (.op 0 .p (.op 1 .l (.op 2 .p (.nil))))) (.n)) (.n))) (.s (.r (.op 0 .l (.nil))) (.s (.r (.op 0 .p (.op 1 .p (.op 2 .p (.nil))))) (.j [6] (.s (.r (.op 0 .p (.op 1 .p (.nil)))) (.c (.r (.op 0 .p (.op 1 .p (.op 2 .p (.nil))))) (.n))) (.s (.r (.op 0 .p (.op 1 .l (.op 2 .p (.nil))))) (.s (.r (.op 0 .p (.op 1 .p (.op 2 .p (.op 3 .p (.op 4 .l (.nil))))))) (.s (.s (.r (.op 0 .p (.op 1 .p (.nil)))) (.c (.s (.r (.op 0 .p (.op 1 .l (.nil)))) (.s (.r (.op 0 .p (.op 1 .p (.op 2 .p (.op 3 .q (.op 4 .p (.nil))))))) (.n))) (.n))) (.s (.r (.op 0 .p (.op 1 .p (.op 2 .p (.op 3 .q (.op 4 .p (.nil))))))) (.n))))))))) (.n))) (.s (.r (.op 0 .p (.op 1 .p (.op 2 .p (.op 3 .p (.op 4 .p (.op 5 .l (.op 6 .p (.op 7 .p (.op 8 .p (.op 9 .p (.op 10 .p (.nil))))))))))))) (.s (.r (.op 0 .p (.op 1 .p (.nil)))) (.n))))
def Tryd.F_internal_strconv_FormatInt (t0 : Value) (t1 : Value) (w : World) (K : Value → World → Prop) : Prop :=
 opP Tryd.prog (bsem .eql 3 true t1 (Value.int .i64 10)) fun t11 =>
 oCond t11 (opP Tryd.prog (bsem .leq 2 true (Value.int .i64 0) t0) fun t13 =>
 sJoin (fun K1 => gIf t13 true (opP Tryd.prog (bsem .lss 2 true t0 (Value.int .i64 100)) fun t16 =>
 K1 [t16] w) (K1 [undef] w)) (fun s2 _d3 w4 =>
 oPick t13 (s2.getD 0 undef) (Value.bool false) fun t17 =>
 oCond t17 (oCall Tryd.prog Tryd.n_internal_strconv_small #[t0] w4 fun t19 w5 =>
 K t19 w5) (opW Tryd.prog w4 (Instr.alloc 129 true (.tuple #[])) fun t5 w6 =>
 opP Tryd.prog (convert 2 123 t0) fun t21 =>
 sJoin (fun K7 =>
 opP Tryd.prog (bsem .lss 2 true t0 (Value.int .i64 0)) fun t23 =>
 oCond t23 (opP Tryd.prog (Op.unary .neg t21) fun t25 =>
 K7 [t25] w6) (K7 [t21] w6)) (fun s8 _d9 w10 =>
 oCall Tryd.prog Tryd.n_internal_strconv_numDigits #[(s8.getD 0 undef)] w10 fun t27 w11 =>
 opP Tryd.prog (bsem .add 3 true (Value.int .i64 1) t27) fun t29 =>
 opP Tryd.prog (Instr.sliceAt 129 t5 (some (Value.int .i64 1)) (some t29) none) fun t30 =>
 oCall Tryd.prog Tryd.n_internal_strconv_formatBase10 #[t30, (s8.getD 0 undef)] w11 fun _t32 w12 =>
 opP Tryd.prog (bsem .lss 2 true t0 (Value.int .i64 0)) fun t34 =>
 oCond t34 (opP Tryd.prog (Instr.indexAt 129 t5 (Value.int .i64 0)) fun t35 =>
 opU Tryd.prog w12 (Instr.storeAt 5 t35 (Value.int .u8 45)) fun w13 =>
 opP Tryd.prog (bsem .add 3 true (Value.int .i64 1) t27) fun t37 =>
 opP Tryd.prog (Instr.sliceAt 129 t5 none (some t37) none) fun t38 =>
 opQ Tryd.prog w13 (convert 131 9 t38) fun t39 =>
 K t39 w13) (opP Tryd.prog (bsem .add 3 true (Value.int .i64 1) t27) fun t41 =>
 opP Tryd.prog (Instr.sliceAt 129 t5 (some (Value.int .i64 1)) (some t41) none) fun t42 =>
 opQ Tryd.prog w12 (convert 131 9 t42) fun t43 =>
 K t43 w12))))) (opP Tryd.prog (convert 2 123 t0) fun t46 =>
 opP Tryd.prog (bsem .lss 2 true t0 (Value.int .i64 0)) fun t49 =>
 oCall Tryd.prog Tryd.n_internal_strconv_formatBits #[(Value.slice Option.none 0 0), t46, t1, t49, (Value.bool false)] w fun t50 w14 =>
 opP Tryd.prog (Instr.extract t50 0) fun _t51 =>
 opP Tryd.prog (Instr.extract t50 1) fun t52 =>
 K t52 w14)
theorem Tryd.E_internal_strconv_FormatInt (t0 t1 : Value) (w : World) (K : Value → World → Prop) : sw ⟨false, false⟩ Tryd.prog (fun _ _ => False) Tryd.A_internal_strconv_FormatInt (bodyOf Tryd.f101) [t0, t1, undef, undef, undef, undef, undef, undef, undef, undef, undef, undef, undef, undef, undef, undef, undef, undef, undef, undef, undef, undef, undef, undef, undef, undef, undef, undef, undef, undef, undef, undef, undef, undef, undef, undef, undef, undef, undef, undef, undef, undef, undef, undef, undef, undef, undef, undef, undef, undef, undef, undef, undef, undef] w (topQ false Tryd.prog Tryd.f101 w K) = Tryd.F_internal_strconv_FormatInt t0 t1 w K := by kernel_rfl
theorem Tryd.C_internal_strconv_FormatInt : chk ⟨false, false⟩ Tryd.prog false Tryd.A_internal_strconv_FormatInt (bodyOf Tryd.f101) = true := by kernel_rfl
theorem Tryd.ok_internal_strconv_FormatInt {t0 t1 : Value} {w : World} {K : Value → World → Prop} (h : Tryd.F_internal_strconv_FormatInt t0 t1 w K) : oCall Tryd.prog Tryd.n_internal_strconv_FormatInt #[t0, t1] w K :=
  calls_of_sw (cf := ⟨false, false⟩) Tryd.mixed Tryd.func101 rfl Tryd.C_internal_strconv_FormatInt ((Tryd.E_internal_strconv_FormatInt t0 t1 w K).mpr h)

/- 102: internal/stringslite.HasPrefix -/
def Tryd.A_internal_stringslite_HasPrefix : Ann := .s (.r (.op 0 .p (.nil))) (.s (.r (.op 0 .p (.op 1 .p (.op 2 .p (.op 3 .p (.op 4 .p (.op 5 .p (.grp 10 true [(6, .p), (7, .p), (8, .p), (9, .p), (10, .p), (11, .p)] [16] (.op 12 .p (.op 13 .p (.nil))))))))))) (.n))
def Tryd.F_internal_stringslite_HasPrefix (t0 : Value) (t1 : Value) (w : World) (K : Value → World → Prop) : Prop :=
 opP Tryd.prog (Builtin.len_ #[9] 3 #[t0]) fun t6 =>
 opP Tryd.prog (Builtin.len_ #[9] 3 #[t1]) fun t8 =>
 opP Tryd.prog (bsem .geq 3 false t6 t8) fun t9 =>
 sJoin (fun K1 => gIf t9 true (opP Tryd.prog (Builtin.len_ #[9] 3 #[t1]) fun t13 =>
 opP Tryd.prog (Instr.sliceAt 9 t0 none (some t13) none) fun t14 =>
 opP Tryd.prog (bsem .eql 9 false t14 t1) fun t16 =>
 K1 [t16] w) (K1 [undef] w)) (fun s2 _d3 w4 =>
 oPick t9 (s2.getD 0 undef) (Value.bool false) fun t17 =>
 K t17 w4)
theorem Tryd.E_internal_stringslite_HasPrefix (t0 t1 : Value) (w : World) (K : Value → World → Prop) : sw ⟨false, false⟩ Tryd.prog (fun _ _ => False) Tryd.A_internal_stringslite_HasPrefix (bodyOf Tryd.f102) [t0, t1, undef, undef, undef, undef, undef, undef, undef, undef, undef, undef, undef, undef, undef, undef, undef, undef] w (topQ false Tryd.prog Tryd.f102 w K) = Tryd.F_internal_stringslite_HasPrefix t0 t1 w K := by kernel_rfl
theorem Tryd.C_internal_stringslite_HasPrefix : chk ⟨false, false⟩ Tryd.prog false Tryd.A_internal_stringslite_HasPrefix (bodyOf Tryd.f102) = true := by kernel_rfl
theorem Tryd.ok_internal_stringslite_HasPrefix {t0 t1 : Value} {w : World} {K : Value → World → Prop} (h : Tryd.F_internal_stringslite_HasPrefix t0 t1 w K) : oCall Tryd.prog Tryd.n_internal_stringslite_HasPrefix #[t0, t1] w K :=
  calls_of_sw (cf := ⟨false, false⟩) Tryd.mixed Tryd.func102 rfl Tryd.C_internal_stringslite_HasPrefix ((Tryd.E_internal_stringslite_HasPrefix t0 t1 w K).mpr h)

/- 103: internal/strconv.small -/
def Tryd.A_internal_strconv_small : Ann := .s (.r (.op 0 .p (.nil))) (.s (.s (.r (.op 0 .p (.op 1 .p (.nil)))) (.c (.s (.r (.op 0 .p (.op 1 .p (.op 2 .p (.op 3 .p (.op 4 .p (.nil))))))) (.n)) (.n))) (.s (.r (.op 0 .p (.op 1 .p (.op 2 .p (.op 3 .p (.op 4 .p (.op 5 .p (.op 6 .p (.nil))))))))) (.n)))
def Tryd.F_internal_strconv_small (t0 : Value) (w : World) (K : Value → World → Prop) : Prop :=
 opP Tryd.prog (bsem .lss 3 true t0 (Value.int .i64 10)) fun t4 =>
 oCond t4 (opP Tryd.prog (bsem .add 3 true t0 (Value.int .i64 1)) fun t7 =>
 opP Tryd.prog (Instr.sliceAt 9 (Value.string { data := #[48, 49, 50, 51, 52, 53, 54, 55, 56, 57, 97, 98, 99, 100, 101, 102, 103, 104, 105, 106, 107, 108, 109, 110, 111, 112, 113, 114, 115, 116, 117, 118, 119, 120, 121, 122] }) (some t0) (some t7) none) fun t8 =>
 K t8 w) (opP Tryd.prog (bsem .mul 3 true t0 (Value.int .i64 2)) fun t10 =>
 opP Tryd.prog (bsem .mul 3 true t0 (Value.int .i64 2)) fun t12 =>
 opP Tryd.prog (bsem .add 3 true t12 (Value.int .i64 2)) fun t13 =>
 opP Tryd.prog (Instr.sliceAt 9 (Value.string { data := (([48, 48, 48, 49, 48, 50, 48, 51, 48, 52, 48, 53, 48, 54, 48, 55, 48, 56, 48, 57, 49, 48, 49, 49, 49, 50, 49, 51, 49, 52, 49, 53, 49, 54, 49, 55, 49, 56, 49, 57, 50, 48, 50, 49, 50, 50, 50, 51, 50, 52].append [50, 53, 50, 54, 50, 55, 50, 56, 50, 57, 51, 48, 51, 49, 51, 50, 51, 51, 51, 52, 51, 53, 51, 54, 51, 55, 51, 56, 51, 57, 52, 48, 52, 49, 52, 50, 52, 51, 52, 52, 52, 53, 52, 54, 52, 55, 52, 56, 52, 57]).append ([53, 48, 53, 49, 53, 50, 53, 51, 53, 52, 53, 53, 53, 54, 53, 55, 53, 56, 53, 57, 54, 48, 54, 49, 54, 50, 54, 51, 54, 52, 54, 53, 54, 54, 54, 55, 54, 56, 54, 57, 55, 48, 55, 49, 55, 50, 55, 51, 55, 52].append [55, 53, 55, 54, 55, 55, 55, 56, 55, 57, 56, 48, 56, 49, 56, 50, 56, 51, 56, 52, 56, 53, 56, 54, 56, 55, 56, 56, 56, 57, 57, 48, 57, 49, 57, 50, 57, 51, 57, 52, 57, 53, 57, 54, 57, 55, 57, 56, 57, 57])).toArray }) (some t10) (some t13) none) fun t14 =>
 K t14 w)
theorem Tryd.E_internal_strconv_small (t0 : Value) (w : World) (K : Value → World → Prop) : sw ⟨false, false⟩ Tryd.prog (fun _ _ => False) Tryd.A_internal_strconv_small (bodyOf Tryd.f103) [t0, undef, undef, undef, undef, undef, undef, undef, undef, undef, undef, undef, undef, undef, undef] w (topQ false Tryd.prog Tryd.f103 w K) = Tryd.F_internal_strconv_small t0 w K := by kernel_rfl
theorem Tryd.C_internal_strconv_small : chk ⟨false, false⟩ Tryd.prog false Tryd.A_internal_strconv_small (bodyOf Tryd.f103) = true := by kernel_rfl
theorem Tryd.ok_internal_strconv_small {t0 : Value} {w : World} {K : Value → World → Prop} (h : Tryd.F_internal_strconv_small t0 w K) : oCall Tryd.prog Tryd.n_internal_strconv_small #[t0] w K :=
  calls_of_sw (cf := ⟨false, false⟩) Tryd.mixed Tryd.func103 rfl Tryd.C_internal_strconv_small ((Tryd.E_internal_strconv_small t0 w K).mpr h)

/- 104: internal/strconv.numDigits -/
def Tryd.A_internal_strconv_numDigits : Ann := .s (.r (.op 0 .p (.nil))) (.s (.r (.op 0 .p (.op 1 .l (.op 2 .l (.op 3 .p (.nil)))))) (.s (.r (.op 0 .p (.op 1 .p (.op 2 .p (.op 3 .p (.op 4 .q (.op 5 .p (.op 6 .l (.op 7 .p (.op 8 .p (.nil))))))))))) (.n)))
def Tryd.F_internal_strconv_numDigits (t0 : Value) (w : World) (K : Value → World → Prop) : Prop :=
 oCall Tryd.prog Tryd.n_math_bits_Len64 #[t0] w fun t5 w1 =>
 oCall Tryd.prog Tryd.n_internal_strconv_log10Pow2 #[t5] w1 fun t6 w2 =>
 opP Tryd.prog (Instr.indexAt 135 (Value.pointer (some ⟨0, 0, none⟩)) t6) fun t10 =>
 opQ Tryd.prog w2 (Instr.loadAt 123 t10) fun t11 =>
 opP Tryd.prog (bsem .geq 123 false t0 t11) fun t12 =>
 oCall Tryd.prog Tryd.n_internal_strconv_bool2_int #[t12] w2 fun t13 w3 =>
 opP Tryd.prog (bsem .add 3 false t6 t13) fun t14 =>
 K t14 w3
theorem Tryd.E_internal_strconv_numDigits (t0 : Value) (w : World) (K : Value → World → Prop) : sw ⟨false, false⟩ Tryd.prog (fun _ _ => False) Tryd.A_internal_strconv_numDigits (bodyOf Tryd.f104) [t0, undef, undef, undef, undef, undef, undef, undef, undef, undef, undef, undef, undef, undef, undef] w (topQ false Tryd.prog Tryd.f104 w K) = Tryd.F_internal_strconv_numDigits t0 w K := by kernel_rfl
theorem Tryd.C_internal_strconv_numDigits : chk ⟨false, false⟩ Tryd.prog false Tryd.A_internal_strconv_numDigits (bodyOf Tryd.f104) = true := by kernel_rfl
theorem Tryd.ok_internal_strconv_numDigits {t0 : Value} {w : World} {K : Value → World → Prop} (h : Tryd.F_internal_strconv_numDigits t0 w K) : oCall Tryd.prog Tryd.n_internal_strconv_numDigits #[t0] w K :=
  calls_of_sw (cf := ⟨false, false⟩) Tryd.mixed Tryd.func104 rfl Tryd.C_internal_strconv_numDigits ((Tryd.E_internal_strconv_numDigits t0 w K).mpr h)

/- 105: internal/strconv.formatBase10 -/
def Tryd.A_internal_strconv_formatBase10 : Ann := .s (.r (.op 0 .p (.op 1 .p (.op 2 .p (.nil))))) (.s (.b (.lp [1, 4] (.s (.s (.r (.op 0 .p (.op 1 .p (.nil)))) (.c (.n) (.n))) (.b (.s (.r (.op 0 .p (.op 1 .p (.op 2 .p (.op 3 .p (.nil)))))) (.s (.r (.op 0 .p (.op 1 .p (.op 2 .p (.nil))))) (.s (.r (.op 0 .p (.op 1 .p (.op 2 .p (.op 3 .p (.op 4 .p (.op 5 .p (.nil)))))))) (.s (.r (.op 0 .p (.op 1 .p (.op 2 .p (.op 3 .p (.op 4 .p (.op 5 .p (.op 6 .p (.op 7 .p (.nil)))))))))) (.s (.r (.op 0 .p (.op 1 .p (.op 2 .p (.op 3 .p (.op 4 .p (.op 5 .p (.op 6 .p (.op 7 .p (.nil)))))))))) (.s (.r (.op 0 .p (.op 1 .p (.op 2 .p (.op 3 .p (.op 4 .p (.op 5 .p (.op 6 .p (.op 7 .p (.op 8 .p (.op 9 .p (.op 10 .p (.op 11 .p (.op 12 .l (.op 13 .p (.op 14 .l (.nil))))))))))))))))) (.s (.r (.op 0 .p (.op 1 .p (.op 2 .p (.op 3 .p (.op 4 .p (.op 5 .p (.op 6 .p (.op 7 .p (.op 8 .p (.op 9 .p (.op 10 .p (.op 11 .p (.op 12 .l (.op 13 .p (.op 14 .l (.nil))))))))))))))))) (.s (.r (.op 0 .p (.op 1 .p (.op 2 .p (.op 3 .p (.op 4 .p (.op 5 .p (.op 6 .p (.op 7 .p (.op 8 .p (.op 9 .p (.op 10 .p (.op 11 .p (.op 12 .l (.op 13 .p (.op 14 .l (.nil))))))))))))))))) (.s (.r (.op 0 .p (.op 1 .p (.op 2 .p (.op 3 .p (.op 4 .p (.op 5 .p (.op 6 .p (.op 7 .p (.op 8 .p (.op 9 .p (.op 10 .p (.op 11 .p (.op 12 .l (.op 13 .p (.op 14 .l (.nil))))))))))))))))) (.r (.op 0 .p (.op 1 .p (.op 2 .p (.nil)))))))))))))))))) (.s (.r (.op 0 .p (.op 1 .p (.op 2 .p (.nil))))) (.j [4, 12] (.s (.r (.op 0 .p (.op 1 .p (.nil)))) (.c (.s (.r (.op 0 .p (.op 1 .p (.op 2 .p (.nil))))) (.s (.r (.op 0 .p (.op 1 .p (.op 2 .p (.nil))))) (.s (.r (.op 0 .p (.op 1 .p (.op 2 .p (.op 3 .p (.op 4 .p (.op 5 .p (.op 6 .p (.op 7 .p (.nil)))))))))) (.s (.r (.op 0 .p (.op 1 .p (.op 2 .p (.op 3 .p (.op 4 .p (.op 5 .p (.op 6 .p (.op 7 .p (.op 8 .p (.op 9 .p (.op 10 .p (.op 11 .p (.op 12 .l (.op 13 .p (.op 14 .l (.nil))))))))))))))))) (.s (.r (.op 0 .p (.op 1 .p (.op 2 .p (.op 3 .p (.op 4 .p (.op 5 .p (.op 6 .p (.op 7 .p (.op 8 .p (.op 9 .p (.op 10 .p (.op 11 .p (.op 12 .l (.op 13 .p (.op 14 .l (.nil))))))))))))))))) (.r (.op 0 .p (.op 1 .p (.op 2 .p (.nil)))))))))) (.n))) (.j [4, 12] (.s (.r (.op 0 .p (.op 1 .p (.nil)))) (.c (.s (.r (.op 0 .p (.op 1 .p (.op 2 .p (.op 3 .p (.nil)))))) (.s (.r (.op 0 .p (.op 1 .p (.op 2 .p (.nil))))) (.s (.r (.op 0 .p (.op 1 .p (.op 2 .p (.op 3 .p (.op 4 .p (.op 5 .p (.op 6 .p (.op 7 .p (.op 8 .p (.op 9 .p (.op 10 .p (.op 11 .p (.op 12 .l (.op 13 .p (.op 14 .l (.nil))))))))))))))))) (.r (.op 0 .p (.op 1 .p (.op 2 .p (.nil)))))))) (.n))) (.s (.r (.op 0 .p (.op 1 .p (.nil)))) (.c (.r (.op 0 .p (.op 1 .p (.op 2 .p (.op 3 .p (.op 4 .p (.op 5 .l (.nil)))))))) (.n)))))))
def Tryd.F_internal_strconv_formatBase10 (t0 : Value) (t1 : Value) (w : World) (K : Value → World → Prop) : Prop :=
 opP Tryd.prog (Builtin.len_ #[131] 3 #[t0]) fun t18 =>
 sLoop [t1, t18] w (fun s2 _d3 w4 K1 =>
 opP Tryd.prog (bsem .geq 3 true (s2.getD 1 undef) (Value.int .i64 8)) fun t20 =>
 oCond t20 (opP Tryd.prog (bsem .rem 123 true (s2.getD 0 undef) (Value.int .u64 100000000)) fun t22 =>
 opP Tryd.prog (convert 123 136 t22) fun t23 =>
 opP Tryd.prog (bsem .quo 123 true (s2.getD 0 undef) (Value.int .u64 100000000)) fun t25 =>
 opP Tryd.prog (bsem .quo 136 true t23 (Value.int .u32 10000)) fun t27 =>
 opP Tryd.prog (bsem .rem 136 true t23 (Value.int .u32 10000)) fun t29 =>
 opP Tryd.prog (bsem .quo 136 true t29 (Value.int .u32 100)) fun t31 =>
 opP Tryd.prog (bsem .mul 136 true t31 (Value.int .u32 2)) fun t32 =>
 opP Tryd.prog (bsem .rem 136 true t29 (Value.int .u32 100)) fun t34 =>
 opP Tryd.prog (bsem .mul 136 true t34 (Value.int .u32 2)) fun t35 =>
 opP Tryd.prog (bsem .quo 136 true t27 (Value.int .u32 100)) fun t37 =>
 opP Tryd.prog (bsem .mul 136 true t37 (Value.int .u32 2)) fun t38 =>
 opP Tryd.prog (bsem .rem 136 true t27 (Value.int .u32 100)) fun t40 =>
 opP Tryd.prog (bsem .mul 136 true t40 (Value.int .u32 2)) fun t41 =>
 opP Tryd.prog (bsem .sub 3 true (s2.getD 1 undef) (Value.int .i64 1)) fun t44 =>
 opP Tryd.prog (bsem .sub 3 true (s2.getD 1 undef) (Value.int .i64 2)) fun t47 =>
 opP Tryd.prog (bsem .add 136 true t35 (Value.int .u32 1)) fun t49 =>
 opP Tryd.prog (Instr.index 9 (Value.string { data := (([48, 48, 48, 49, 48, 50, 48, 51, 48, 52, 48, 53, 48, 54, 48, 55, 48, 56, 48, 57, 49, 48, 49, 49, 49, 50, 49, 51, 49, 52, 49, 53, 49, 54, 49, 55, 49, 56, 49, 57, 50, 48, 50, 49, 50, 50, 50, 51, 50, 52].append [50, 53, 50, 54, 50, 55, 50, 56, 50, 57, 51, 48, 51, 49, 51, 50, 51, 51, 51, 52, 51, 53, 51, 54, 51, 55, 51, 56, 51, 57, 52, 48, 52, 49, 52, 50, 52, 51, 52, 52, 52, 53, 52, 54, 52, 55, 52, 56, 52, 57]).append ([53, 48, 53, 49, 53, 50, 53, 51, 53, 52, 53, 53, 53, 54, 53, 55, 53, 56, 53, 57, 54, 48, 54, 49, 54, 50, 54, 51, 54, 52, 54, 53, 54, 54, 54, 55, 54, 56, 54, 57, 55, 48, 55, 49, 55, 50, 55, 51, 55, 52].append [55, 53, 55, 54, 55, 55, 55, 56, 55, 57, 56, 48, 56, 49, 56, 50, 56, 51, 56, 52, 56, 53, 56, 54, 56, 55, 56, 56, 56, 57, 57, 48, 57, 49, 57, 50, 57, 51, 57, 52, 57, 53, 57, 54, 57, 55, 57, 56, 57, 57])).toArray }) t49) fun t50 =>
 opP Tryd.prog (Instr.index 9 (Value.string { data := (([48, 48, 48, 49, 48, 50, 48, 51, 48, 52, 48, 53, 48, 54, 48, 55, 48, 56, 48, 57, 49, 48, 49, 49, 49, 50, 49, 51, 49, 52, 49, 53, 49, 54, 49, 55, 49, 56, 49, 57, 50, 48, 50, 49, 50, 50, 50, 51, 50, 52].append [50, 53, 50, 54, 50, 55, 50, 56, 50, 57, 51, 48, 51, 49, 51, 50, 51, 51, 51, 52, 51, 53, 51, 54, 51, 55, 51, 56, 51, 57, 52, 48, 52, 49, 52, 50, 52, 51, 52, 52, 52, 53, 52, 54, 52, 55, 52, 56, 52, 57]).append ([53, 48, 53, 49, 53, 50, 53, 51, 53, 52, 53, 53, 53, 54, 53, 55, 53, 56, 53, 57, 54, 48, 54, 49, 54, 50, 54, 51, 54, 52, 54, 53, 54, 54, 54, 55, 54, 56, 54, 57, 55, 48, 55, 49, 55, 50, 55, 51, 55, 52].append [55, 53, 55, 54, 55, 55, 55, 56, 55, 57, 56, 48, 56, 49, 56, 50, 56, 51, 56, 52, 56, 53, 56, 54, 56, 55, 56, 56, 56, 57, 57, 48, 57, 49, 57, 50, 57, 51, 57, 52, 57, 53, 57, 54, 57, 55, 57, 56, 57, 57])).toArray }) t35) fun t52 =>
 opP Tryd.prog (Instr.indexAt 131 t0 t44) fun t53 =>
 opU Tryd.prog w4.drew (Instr.storeAt 5 t53 t50) fun w5 =>
 opP Tryd.prog (Instr.indexAt 131 t0 t47) fun t54 =>
 opU Tryd.prog w5 (Instr.storeAt 5 t54 t52) fun w6 =>
 opP Tryd.prog (bsem .sub 3 true (s2.getD 1 undef) (Value.int .i64 3)) fun t57 =>
 opP Tryd.prog (bsem .sub 3 true (s2.getD 1 undef) (Value.int .i64 4)) fun t60 =>
 opP Tryd.prog (bsem .add 136 true t32 (Value.int .u32 1)) fun t62 =>
 opP Tryd.prog (Instr.index 9 (Value.string { data := (([48, 48, 48, 49, 48, 50, 48, 51, 48, 52, 48, 53, 48, 54, 48, 55, 48, 56, 48, 57, 49, 48, 49, 49, 49, 50, 49, 51, 49, 52, 49, 53, 49, 54, 49, 55, 49, 56, 49, 57, 50, 48, 50, 49, 50, 50, 50, 51, 50, 52].append [50, 53, 50, 54, 50, 55, 50, 56, 50, 57, 51, 48, 51, 49, 51, 50, 51, 51, 51, 52, 51, 53, 51, 54, 51, 55, 51, 56, 51, 57, 52, 48, 52, 49, 52, 50, 52, 51, 52, 52, 52, 53, 52, 54, 52, 55, 52, 56, 52, 57]).append ([53, 48, 53, 49, 53, 50, 53, 51, 53, 52, 53, 53, 53, 54, 53, 55, 53, 56, 53, 57, 54, 48, 54, 49, 54, 50, 54, 51, 54, 52, 54, 53, 54, 54, 54, 55, 54, 56, 54, 57, 55, 48, 55, 49, 55, 50, 55, 51, 55, 52].append [55, 53, 55, 54, 55, 55, 55, 56, 55, 57, 56, 48, 56, 49, 56, 50, 56, 51, 56, 52, 56, 53, 56, 54, 56, 55, 56, 56, 56, 57, 57, 48, 57, 49, 57, 50, 57, 51, 57, 52, 57, 53, 57, 54, 57, 55, 57, 56, 57, 57])).toArray }) t62) fun t63 =>
 opP Tryd.prog (Instr.index 9 (Value.string { data := (([48, 48, 48, 49, 48, 50, 48, 51, 48, 52, 48, 53, 48, 54, 48, 55, 48, 56, 48, 57, 49, 48, 49, 49, 49, 50, 49, 51, 49, 52, 49, 53, 49, 54, 49, 55, 49, 56, 49, 57, 50, 48, 50, 49, 50, 50, 50, 51, 50, 52].append [50, 53, 50, 54, 50, 55, 50, 56, 50, 57, 51, 48, 51, 49, 51, 50, 51, 51, 51, 52, 51, 53, 51, 54, 51, 55, 51, 56, 51, 57, 52, 48, 52, 49, 52, 50, 52, 51, 52, 52, 52, 53, 52, 54, 52, 55, 52, 56, 52, 57]).append ([53, 48, 53, 49, 53, 50, 53, 51, 53, 52, 53, 53, 53, 54, 53, 55, 53, 56, 53, 57, 54, 48, 54, 49, 54, 50, 54, 51, 54, 52, 54, 53, 54, 54, 54, 55, 54, 56, 54, 57, 55, 48, 55, 49, 55, 50, 55, 51, 55, 52].append [55, 53, 55, 54, 55, 55, 55, 56, 55, 57, 56, 48, 56, 49, 56, 50, 56, 51, 56, 52, 56, 53, 56, 54, 56, 55, 56, 56, 56, 57, 57, 48, 57, 49, 57, 50, 57, 51, 57, 52, 57, 53, 57, 54, 57, 55, 57, 56, 57, 57])).toArray }) t32) fun t65 =>
 opP Tryd.prog (Instr.indexAt 131 t0 t57) fun t66 =>
 opU Tryd.prog w6.drew (Instr.storeAt 5 t66 t63) fun w7 =>
 opP Tryd.prog (Instr.indexAt 131 t0 t60) fun t67 =>
 opU Tryd.prog w7 (Instr.storeAt 5 t67 t65) fun w8 =>
 opP Tryd.prog (bsem .sub 3 true (s2.getD 1 undef) (Value.int .i64 5)) fun t70 =>
 opP Tryd.prog (bsem .sub 3 true (s2.getD 1 undef) (Value.int .i64 6)) fun t73 =>
 opP Tryd.prog (bsem .add 136 true t41 (Value.int .u32 1)) fun t75 =>
 opP Tryd.prog (Instr.index 9 (Value.string { data := (([48, 48, 48, 49, 48, 50, 48, 51, 48, 52, 48, 53, 48, 54, 48, 55, 48, 56, 48, 57, 49, 48, 49, 49, 49, 50, 49, 51, 49, 52, 49, 53, 49, 54, 49, 55, 49, 56, 49, 57, 50, 48, 50, 49, 50, 50, 50, 51, 50, 52].append [50, 53, 50, 54, 50, 55, 50, 56, 50, 57, 51, 48, 51, 49, 51, 50, 51, 51, 51, 52, 51, 53, 51, 54, 51, 55, 51, 56, 51, 57, 52, 48, 52, 49, 52, 50, 52, 51, 52, 52, 52, 53, 52, 54, 52, 55, 52, 56, 52, 57]).append ([53, 48, 53, 49, 53, 50, 53, 51, 53, 52, 53, 53, 53, 54, 53, 55, 53, 56, 53, 57, 54, 48, 54, 49, 54, 50, 54, 51, 54, 52, 54, 53, 54, 54, 54, 55, 54, 56, 54, 57, 55, 48, 55, 49, 55, 50, 55, 51, 55, 52].append [55, 53, 55, 54, 55, 55, 55, 56, 55, 57, 56, 48, 56, 49, 56, 50, 56, 51, 56, 52, 56, 53, 56, 54, 56, 55, 56, 56, 56, 57, 57, 48, 57, 49, 57, 50, 57, 51, 57, 52, 57, 53, 57, 54, 57, 55, 57, 56, 57, 57])).toArray }) t75) fun t76 =>
 opP Tryd.prog (Instr.index 9 (Value.string { data := (([48, 48, 48, 49, 48, 50, 48, 51, 48, 52, 48, 53, 48, 54, 48, 55, 48, 56, 48, 57, 49, 48, 49, 49, 49, 50, 49, 51, 49, 52, 49, 53, 49, 54, 49, 55, 49, 56, 49, 57, 50, 48, 50, 49, 50, 50, 50, 51, 50, 52].append [50, 53, 50, 54, 50, 55, 50, 56, 50, 57, 51, 48, 51, 49, 51, 50, 51, 51, 51, 52, 51, 53, 51, 54, 51, 55, 51, 56, 51, 57, 52, 48, 52, 49, 52, 50, 52, 51, 52, 52, 52, 53, 52, 54, 52, 55, 52, 56, 52, 57]).append ([53, 48, 53, 49, 53, 50, 53, 51, 53, 52, 53, 53, 53, 54, 53, 55, 53, 56, 53, 57, 54, 48, 54, 49, 54, 50, 54, 51, 54, 52, 54, 53, 54, 54, 54, 55, 54, 56, 54, 57, 55, 48, 55, 49, 55, 50, 55, 51, 55, 52].append [55, 53, 55, 54, 55, 55, 55, 56, 55, 57, 56, 48, 56, 49, 56, 50, 56, 51, 56, 52, 56, 53, 56, 54, 56, 55, 56, 56, 56, 57, 57, 48, 57, 49, 57, 50, 57, 51, 57, 52, 57, 53, 57, 54, 57, 55, 57, 56, 57, 57])).toArray }) t41) fun t78 =>
 opP Tryd.prog (Instr.indexAt 131 t0 t70) fun t79 =>
 opU Tryd.prog w8.drew (Instr.storeAt 5 t79 t76) fun w9 =>
 opP Tryd.prog (Instr.indexAt 131 t0 t73) fun t80 =>
 opU Tryd.prog w9 (Instr.storeAt 5 t80 t78) fun w10 =>
 opP Tryd.prog (bsem .sub 3 true (s2.getD 1 undef) (Value.int .i64 7)) fun t83 =>
 opP Tryd.prog (bsem .sub 3 true (s2.getD 1 undef) (Value.int .i64 8)) fun t86 =>
 opP Tryd.prog (bsem .add 136 true t38 (Value.int .u32 1)) fun t88 =>
 opP Tryd.prog (Instr.index 9 (Value.string { data := (([48, 48, 48, 49, 48, 50, 48, 51, 48, 52, 48, 53, 48, 54, 48, 55, 48, 56, 48, 57, 49, 48, 49, 49, 49, 50, 49, 51, 49, 52, 49, 53, 49, 54, 49, 55, 49, 56, 49, 57, 50, 48, 50, 49, 50, 50, 50, 51, 50, 52].append [50, 53, 50, 54, 50, 55, 50, 56, 50, 57, 51, 48, 51, 49, 51, 50, 51, 51, 51, 52, 51, 53, 51, 54, 51, 55, 51, 56, 51, 57, 52, 48, 52, 49, 52, 50, 52, 51, 52, 52, 52, 53, 52, 54, 52, 55, 52, 56, 52, 57]).append ([53, 48, 53, 49, 53, 50, 53, 51, 53, 52, 53, 53, 53, 54, 53, 55, 53, 56, 53, 57, 54, 48, 54, 49, 54, 50, 54, 51, 54, 52, 54, 53, 54, 54, 54, 55, 54, 56, 54, 57, 55, 48, 55, 49, 55, 50, 55, 51, 55, 52].append [55, 53, 55, 54, 55, 55, 55, 56, 55, 57, 56, 48, 56, 49, 56, 50, 56, 51, 56, 52, 56, 53, 56, 54, 56, 55, 56, 56, 56, 57, 57, 48, 57, 49, 57, 50, 57, 51, 57, 52, 57, 53, 57, 54, 57, 55, 57, 56, 57, 57])).toArray }) t88) fun t89 =>
 opP Tryd.prog (Instr.index 9 (Value.string { data := (([48, 48, 48, 49, 48, 50, 48, 51, 48, 52, 48, 53, 48, 54, 48, 55, 48, 56, 48, 57, 49, 48, 49, 49, 49, 50, 49, 51, 49, 52, 49, 53, 49, 54, 49, 55, 49, 56, 49, 57, 50, 48, 50, 49, 50, 50, 50, 51, 50, 52].append [50, 53, 50, 54, 50, 55, 50, 56, 50, 57, 51, 48, 51, 49, 51, 50, 51, 51, 51, 52, 51, 53, 51, 54, 51, 55, 51, 56, 51, 57, 52, 48, 52, 49, 52, 50, 52, 51, 52, 52, 52, 53, 52, 54, 52, 55, 52, 56, 52, 57]).append ([53, 48, 53, 49, 53, 50, 53, 51, 53, 52, 53, 53, 53, 54, 53, 55, 53, 56, 53, 57, 54, 48, 54, 49, 54, 50, 54, 51, 54, 52, 54, 53, 54, 54, 54, 55, 54, 56, 54, 57, 55, 48, 55, 49, 55, 50, 55, 51, 55, 52].append [55, 53, 55, 54, 55, 55, 55, 56, 55, 57, 56, 48, 56, 49, 56, 50, 56, 51, 56, 52, 56, 53, 56, 54, 56, 55, 56, 56, 56, 57, 57, 48, 57, 49, 57, 50, 57, 51, 57, 52, 57, 53, 57, 54, 57, 55, 57, 56, 57, 57])).toArray }) t38) fun t91 =>
 opP Tryd.prog (Instr.indexAt 131 t0 t83) fun t92 =>
 opU Tryd.prog w10.drew (Instr.storeAt 5 t92 t89) fun w11 =>
 opP Tryd.prog (Instr.indexAt 131 t0 t86) fun t93 =>
 opU Tryd.prog w11 (Instr.storeAt 5 t93 t91) fun w12 =>
 opP Tryd.prog (bsem .sub 3 true (s2.getD 1 undef) (Value.int .i64 8)) fun t95 =>
 K1 [t25, t95] w12) (opP Tryd.prog (convert 123 136 (s2.getD 0 undef)) fun t97 =>
 sJoin (fun K13 =>
 opP Tryd.prog (bsem .geq 3 true (s2.getD 1 undef) (Value.int .i64 4)) fun t99 =>
 oCond t99 (opP Tryd.prog (bsem .rem 136 true t97 (Value.int .u32 10000)) fun t101 =>
 opP Tryd.prog (bsem .quo 136 true t97 (Value.int .u32 10000)) fun t103 =>
 opP Tryd.prog (bsem .quo 136 true t101 (Value.int .u32 100)) fun t105 =>
 opP Tryd.prog (bsem .mul 136 true t105 (Value.int .u32 2)) fun t106 =>
 opP Tryd.prog (bsem .rem 136 true t101 (Value.int .u32 100)) fun t108 =>
 opP Tryd.prog (bsem .mul 136 true t108 (Value.int .u32 2)) fun t109 =>
 opP Tryd.prog (bsem .sub 3 true (s2.getD 1 undef) (Value.int .i64 1)) fun t112 =>
 opP Tryd.prog (bsem .sub 3 true (s2.getD 1 undef) (Value.int .i64 2)) fun t115 =>
 opP Tryd.prog (bsem .add 136 true t109 (Value.int .u32 1)) fun t117 =>
 opP Tryd.prog (Instr.index 9 (Value.string { data := (([48, 48, 48, 49, 48, 50, 48, 51, 48, 52, 48, 53, 48, 54, 48, 55, 48, 56, 48, 57, 49, 48, 49, 49, 49, 50, 49, 51, 49, 52, 49, 53, 49, 54, 49, 55, 49, 56, 49, 57, 50, 48, 50, 49, 50, 50, 50, 51, 50, 52].append [50, 53, 50, 54, 50, 55, 50, 56, 50, 57, 51, 48, 51, 49, 51, 50, 51, 51, 51, 52, 51, 53, 51, 54, 51, 55, 51, 56, 51, 57, 52, 48, 52, 49, 52, 50, 52, 51, 52, 52, 52, 53, 52, 54, 52, 55, 52, 56, 52, 57]).append ([53, 48, 53, 49, 53, 50, 53, 51, 53, 52, 53, 53, 53, 54, 53, 55, 53, 56, 53, 57, 54, 48, 54, 49, 54, 50, 54, 51, 54, 52, 54, 53, 54, 54, 54, 55, 54, 56, 54, 57, 55, 48, 55, 49, 55, 50, 55, 51, 55, 52].append [55, 53, 55, 54, 55, 55, 55, 56, 55, 57, 56, 48, 56, 49, 56, 50, 56, 51, 56, 52, 56, 53, 56, 54, 56, 55, 56, 56, 56, 57, 57, 48, 57, 49, 57, 50, 57, 51, 57, 52, 57, 53, 57, 54, 57, 55, 57, 56, 57, 57])).toArray }) t117) fun t118 =>
 opP Tryd.prog (Instr.index 9 (Value.string { data := (([48, 48, 48, 49, 48, 50, 48, 51, 48, 52, 48, 53, 48, 54, 48, 55, 48, 56, 48, 57, 49, 48, 49, 49, 49, 50, 49, 51, 49, 52, 49, 53, 49, 54, 49, 55, 49, 56, 49, 57, 50, 48, 50, 49, 50, 50, 50, 51, 50, 52].append [50, 53, 50, 54, 50, 55, 50, 56, 50, 57, 51, 48, 51, 49, 51, 50, 51, 51, 51, 52, 51, 53, 51, 54, 51, 55, 51, 56, 51, 57, 52, 48, 52, 49, 52, 50, 52, 51, 52, 52, 52, 53, 52, 54, 52, 55, 52, 56, 52, 57]).append ([53, 48, 53, 49, 53, 50, 53, 51, 53, 52, 53, 53, 53, 54, 53, 55, 53, 56, 53, 57, 54, 48, 54, 49, 54, 50, 54, 51, 54, 52, 54, 53, 54, 54, 54, 55, 54, 56, 54, 57, 55, 48, 55, 49, 55, 50, 55, 51, 55, 52].append [55, 53, 55, 54, 55, 55, 55, 56, 55, 57, 56, 48, 56, 49, 56, 50, 56, 51, 56, 52, 56, 53, 56, 54, 56, 55, 56, 56, 56, 57, 57, 48, 57, 49, 57, 50, 57, 51, 57, 52, 57, 53, 57, 54, 57, 55, 57, 56, 57, 57])).toArray }) t109) fun t120 =>
 opP Tryd.prog (Instr.indexAt 131 t0 t112) fun t121 =>
 opU Tryd.prog w4.drew (Instr.storeAt 5 t121 t118) fun w17 =>
 opP Tryd.prog (Instr.indexAt 131 t0 t115) fun t122 =>
 opU Tryd.prog w17 (Instr.storeAt 5 t122 t120) fun w18 =>
 opP Tryd.prog (bsem .sub 3 true (s2.getD 1 undef) (Value.int .i64 3)) fun t125 =>
 opP Tryd.prog (bsem .sub 3 true (s2.getD 1 undef) (Value.int .i64 4)) fun t128 =>
 opP Tryd.prog (bsem .add 136 true t106 (Value.int .u32 1)) fun t130 =>
 opP Tryd.prog (Instr.index 9 (Value.string { data := (([48, 48, 48, 49, 48, 50, 48, 51, 48, 52, 48, 53, 48, 54, 48, 55, 48, 56, 48, 57, 49, 48, 49, 49, 49, 50, 49, 51, 49, 52, 49, 53, 49, 54, 49, 55, 49, 56, 49, 57, 50, 48, 50, 49, 50, 50, 50, 51, 50, 52].append [50, 53, 50, 54, 50, 55, 50, 56, 50, 57, 51, 48, 51, 49, 51, 50, 51, 51, 51, 52, 51, 53, 51, 54, 51, 55, 51, 56, 51, 57, 52, 48, 52, 49, 52, 50, 52, 51, 52, 52, 52, 53, 52, 54, 52, 55, 52, 56, 52, 57]).append ([53, 48, 53, 49, 53, 50, 53, 51, 53, 52, 53, 53, 53, 54, 53, 55, 53, 56, 53, 57, 54, 48, 54, 49, 54, 50, 54, 51, 54, 52, 54, 53, 54, 54, 54, 55, 54, 56, 54, 57, 55, 48, 55, 49, 55, 50, 55, 51, 55, 52].append [55, 53, 55, 54, 55, 55, 55, 56, 55, 57, 56, 48, 56, 49, 56, 50, 56, 51, 56, 52, 56, 53, 56, 54, 56, 55, 56, 56, 56, 57, 57, 48, 57, 49, 57, 50, 57, 51, 57, 52, 57, 53, 57, 54, 57, 55, 57, 56, 57, 57])).toArray }) t130) fun t131 =>
 opP Tryd.prog (Instr.index 9 (Value.string { data := (([48, 48, 48, 49, 48, 50, 48, 51, 48, 52, 48, 53, 48, 54, 48, 55, 48, 56, 48, 57, 49, 48, 49, 49, 49, 50, 49, 51, 49, 52, 49, 53, 49, 54, 49, 55, 49, 56, 49, 57, 50, 48, 50, 49, 50, 50, 50, 51, 50, 52].append [50, 53, 50, 54, 50, 55, 50, 56, 50, 57, 51, 48, 51, 49, 51, 50, 51, 51, 51, 52, 51, 53, 51, 54, 51, 55, 51, 56, 51, 57, 52, 48, 52, 49, 52, 50, 52, 51, 52, 52, 52, 53, 52, 54, 52, 55, 52, 56, 52, 57]).append ([53, 48, 53, 49, 53, 50, 53, 51, 53, 52, 53, 53, 53, 54, 53, 55, 53, 56, 53, 57, 54, 48, 54, 49, 54, 50, 54, 51, 54, 52, 54, 53, 54, 54, 54, 55, 54, 56, 54, 57, 55, 48, 55, 49, 55, 50, 55, 51, 55, 52].append [55, 53, 55, 54, 55, 55, 55, 56, 55, 57, 56, 48, 56, 49, 56, 50, 56, 51, 56, 52, 56, 53, 56, 54, 56, 55, 56, 56, 56, 57, 57, 48, 57, 49, 57, 50, 57, 51, 57, 52, 57, 53, 57, 54, 57, 55, 57, 56, 57, 57])).toArray }) t106) fun t133 =>
 opP Tryd.prog (Instr.indexAt 131 t0 t125) fun t134 =>
 opU Tryd.prog w18.drew (Instr.storeAt 5 t134 t131) fun w19 =>
 opP Tryd.prog (Instr.indexAt 131 t0 t128) fun t135 =>
 opU Tryd.prog w19 (Instr.storeAt 5 t135 t133) fun w20 =>
 opP Tryd.prog (bsem .sub 3 true (s2.getD 1 undef) (Value.int .i64 4)) fun t137 =>
 K13 [t137, t103] w20) (K13 [(s2.getD 1 undef), t97] w4)) (fun s14 _d15 w16 =>
 sJoin (fun K21 =>
 opP Tryd.prog (bsem .geq 3 true (s14.getD 0 undef) (Value.int .i64 2)) fun t139 =>
 oCond t139 (opP Tryd.prog (bsem .rem 136 true (s14.getD 1 undef) (Value.int .u32 100)) fun t141 =>
 opP Tryd.prog (bsem .mul 136 true t141 (Value.int .u32 2)) fun t142 =>
 opP Tryd.prog (bsem .quo 136 true (s14.getD 1 undef) (Value.int .u32 100)) fun t144 =>
 opP Tryd.prog (bsem .sub 3 true (s14.getD 0 undef) (Value.int .i64 1)) fun t147 =>
 opP Tryd.prog (bsem .sub 3 true (s14.getD 0 undef) (Value.int .i64 2)) fun t150 =>
 opP Tryd.prog (bsem .add 136 true t142 (Value.int .u32 1)) fun t152 =>
 opP Tryd.prog (Instr.index 9 (Value.string { data := (([48, 48, 48, 49, 48, 50, 48, 51, 48, 52, 48, 53, 48, 54, 48, 55, 48, 56, 48, 57, 49, 48, 49, 49, 49, 50, 49, 51, 49, 52, 49, 53, 49, 54, 49, 55, 49, 56, 49, 57, 50, 48, 50, 49, 50, 50, 50, 51, 50, 52].append [50, 53, 50, 54, 50, 55, 50, 56, 50, 57, 51, 48, 51, 49, 51, 50, 51, 51, 51, 52, 51, 53, 51, 54, 51, 55, 51, 56, 51, 57, 52, 48, 52, 49, 52, 50, 52, 51, 52, 52, 52, 53, 52, 54, 52, 55, 52, 56, 52, 57]).append ([53, 48, 53, 49, 53, 50, 53, 51, 53, 52, 53, 53, 53, 54, 53, 55, 53, 56, 53, 57, 54, 48, 54, 49, 54, 50, 54, 51, 54, 52, 54, 53, 54, 54, 54, 55, 54, 56, 54, 57, 55, 48, 55, 49, 55, 50, 55, 51, 55, 52].append [55, 53, 55, 54, 55, 55, 55, 56, 55, 57, 56, 48, 56, 49, 56, 50, 56, 51, 56, 52, 56, 53, 56, 54, 56, 55, 56, 56, 56, 57, 57, 48, 57, 49, 57, 50, 57, 51, 57, 52, 57, 53, 57, 54, 57, 55, 57, 56, 57, 57])).toArray }) t152) fun t153 =>
 opP Tryd.prog (Instr.index 9 (Value.string { data := (([48, 48, 48, 49, 48, 50, 48, 51, 48, 52, 48, 53, 48, 54, 48, 55, 48, 56, 48, 57, 49, 48, 49, 49, 49, 50, 49, 51, 49, 52, 49, 53, 49, 54, 49, 55, 49, 56, 49, 57, 50, 48, 50, 49, 50, 50, 50, 51, 50, 52].append [50, 53, 50, 54, 50, 55, 50, 56, 50, 57, 51, 48, 51, 49, 51, 50, 51, 51, 51, 52, 51, 53, 51, 54, 51, 55, 51, 56, 51, 57, 52, 48, 52, 49, 52, 50, 52, 51, 52, 52, 52, 53, 52, 54, 52, 55, 52, 56, 52, 57]).append ([53, 48, 53, 49, 53, 50, 53, 51, 53, 52, 53, 53, 53, 54, 53, 55, 53, 56, 53, 57, 54, 48, 54, 49, 54, 50, 54, 51, 54, 52, 54, 53, 54, 54, 54, 55, 54, 56, 54, 57, 55, 48, 55, 49, 55, 50, 55, 51, 55, 52].append [55, 53, 55, 54, 55, 55, 55, 56, 55, 57, 56, 48, 56, 49, 56, 50, 56, 51, 56, 52, 56, 53, 56, 54, 56, 55, 56, 56, 56, 57, 57, 48, 57, 49, 57, 50, 57, 51, 57, 52, 57, 53, 57, 54, 57, 55, 57, 56, 57, 57])).toArray }) t142) fun t155 =>
 opP Tryd.prog (Instr.indexAt 131 t0 t147) fun t156 =>
 opU Tryd.prog w16.drew (Instr.storeAt 5 t156 t153) fun w25 =>
 opP Tryd.prog (Instr.indexAt 131 t0 t150) fun t157 =>
 opU Tryd.prog w25 (Instr.storeAt 5 t157 t155) fun w26 =>
 opP Tryd.prog (bsem .sub 3 true (s14.getD 0 undef) (Value.int .i64 2)) fun t159 =>
 K21 [t159, t144] w26) (K21 [(s14.getD 0 undef), (s14.getD 1 undef)] w16)) (fun s22 _d23 w24 =>
 opP Tryd.prog (bsem .gtr 3 true (s22.getD 0 undef) (Value.int .i64 0)) fun t161 =>
 oCond t161 (opP Tryd.prog (bsem .add 136 true (Value.int .u32 48) (s22.getD 1 undef)) fun t164 =>
 opP Tryd.prog (convert 136 5 t164) fun t165 =>
 opP Tryd.prog (Instr.indexAt 131 t0 (Value.int .i64 0)) fun t166 =>
 opU Tryd.prog w24 (Instr.storeAt 5 t166 t165) fun w27 =>
 K (.tuple #[]) w27) (K (.tuple #[]) w24)))))
theorem Tryd.E_internal_strconv_formatBase10 (t0 t1 : Value) (w : World) (K : Value → World → Prop) : sw ⟨false, false⟩ Tryd.prog (fun _ _ => False) Tryd.A_internal_strconv_formatBase10 (bodyOf Tryd.f105) [t0, t1, undef, undef, undef, undef, undef, undef, undef, undef, undef, undef, undef, undef, undef, undef, undef, undef, undef, undef, undef, undef, undef, undef, undef, undef, undef, undef, undef, undef, undef, undef, undef, undef, undef, undef, undef, undef, undef, undef, undef, undef, undef, undef, undef, undef, undef, undef, undef, undef, undef, undef, undef, undef, undef, undef, undef, undef, undef, undef, undef, undef, undef, undef, undef, undef, undef, undef, undef, undef, undef, undef, undef, undef, undef, undef, undef, undef, undef, undef, undef, undef, undef, undef, undef, undef, undef, undef, undef, undef, undef, undef, undef, undef, undef, undef, undef, undef, undef, undef, undef, undef, undef, undef, undef, undef, undef, undef, undef, undef, undef, undef, undef, undef, undef, undef, undef, undef, undef, undef, undef, undef, undef, undef, undef, undef, undef, undef, undef, undef, undef, undef, undef, undef, undef, undef, undef, undef, undef, undef, undef, undef, undef, undef, undef, undef, undef, undef, undef, undef, undef, undef, undef, undef, undef, undef, undef, undef, undef, undef, undef, undef, undef, undef, undef, undef, undef] w (topQ false Tryd.prog Tryd.f105 w K) = Tryd.F_internal_strconv_formatBase10 t0 t1 w K := by kernel_rfl
theorem Tryd.C_internal_strconv_formatBase10 : chk ⟨false, false⟩ Tryd.prog false Tryd.A_internal_strconv_formatBase10 (bodyOf Tryd.f105) = true := by kernel_rfl
theorem Tryd.ok_internal_strconv_formatBase10 {t0 t1 : Value} {w : World} {K : Value → World → Prop} (h : Tryd.F_internal_strconv_formatBase10 t0 t1 w K) : oCall Tryd.prog Tryd.n_internal_strconv_formatBase10 #[t0, t1] w K :=
  calls_of_sw (cf := ⟨false, false⟩) Tryd.mixed Tryd.func105 rfl Tryd.C_internal_strconv_formatBase10 ((Tryd.E_internal_strconv_formatBase10 t0 t1 w K).mpr h)

/- 106: internal/strconv.formatBits -/
def Tryd.A_internal_strconv_formatBits : Ann := .s (.r (.op 0 .p (.op 1 .p (.nil)))) (.j [] (.s (.r (.op 0 .p (.op 1 .p (.op 2 .p (.grp 21 false [(3, .p), (4, .p)] [23] (.op 5 .p (.op 6 .p (.grp 25 false [(7, .p), (8, .p)] [27] (.op 9 .p (.nil)))))))))) (.c (.r (.op 0 .p (.op 1 .l (.nil)))) (.n))) (.s (.r (.op 0 .l (.nil))) (.s (.r (.op 0 .p (.nil))) (.j [1] (.s (.r (.op 0 .p (.nil))) (.c (.r (.op 0 .p (.op 1 .p (.op 2 .p (.nil))))) (.n))) (.j [13] (.s (.r (.op 0 .p (.op 1 .l (.nil)))) (.c (.s (.r (.op 0 .p (.op 1 .p (.op 2 .l (.op 3 .p (.op 4 .p (.nil))))))) (.s (.r (.op 0 .p (.op 1 .p (.op 2 .p (.nil))))) (.s (.r (.op 0 .p (.op 1 .p (.op 2 .p (.op 3 .p (.nil)))))) (.s (.b (.lp [1, 13] (.s (.s (.r (.op 0 .p (.op 1 .p (.op 2 .p (.nil))))) (.c (.n) (.n))) (.b (.s (.r (.op 0 .p (.op 1 .p (.op 2 .p (.nil))))) (.s (.r (.op 0 .p (.op 1 .p (.op 2 .p (.op 3 .p (.op 4 .p (.op 5 .p (.op 6 .l (.nil))))))))) (.r (.op 0 .p (.op 1 .p (.op 2 .p (.op 3 .p (.nil)))))))))))) (.s (.r (.op 0 .p (.op 1 .p (.op 2 .p (.nil))))) (.r (.op 0 .p (.op 1 .p (.op 2 .p (.op 3 .p (.op 4 .l (.nil)))))))))))) (.s (.r (.op 0 .p (.op 1 .p (.op 2 .p (.nil))))) (.s (.b (.lp [1, 13] (.s (.s (.r (.op 0 .p (.op 1 .p (.op 2 .p (.nil))))) (.c (.n) (.n))) (.b (.s (.r (.op 0 .p (.op 1 .p (.op 2 .p (.nil))))) (.s (.r (.op 0 .p (.op 1 .p (.op 2 .p (.op 3 .p (.nil)))))) (.s (.r (.op 0 .p (.op 1 .p (.op 2 .p (.op 3 .p (.op 4 .p (.op 5 .p (.op 6 .p (.op 7 .p (.op 8 .l (.nil))))))))))) (.r (.op 0 .p (.op 1 .p (.nil))))))))))) (.s (.r (.op 0 .p (.op 1 .p (.op 2 .p (.nil))))) (.r (.op 0 .p (.op 1 .p (.op 2 .p (.op 3 .p (.op 4 .l (.nil)))))))))))) (.j [13] (.s (.r (.op 0 .p (.nil))) (.c (.s (.r (.op 0 .p (.op 1 .p (.op 2 .p (.nil))))) (.r (.op 0 .p (.op 1 .p (.op 2 .l (.nil)))))) (.n))) (.s (.s (.r (.op 0 .p (.nil))) (.c (.s (.r (.op 0 .p (.op 1 .p (.op 2 .p (.op 3 .l (.op 4 .p (.nil))))))) (.n)) (.n))) (.s (.r (.op 0 .p (.op 1 .p (.op 2 .q (.op 3 .p (.nil)))))) (.n)))))))))
def Tryd.F_internal_strconv_formatBits (t0 : Value) (t1 : Value) (t2 : Value) (t3 : Value) (t4 : Value) (w : World) (K : Value → World → Prop) : Prop :=
 sJoin (fun K1 =>
 opP Tryd.prog (bsem .lss 3 true t2 (Value.int .i64 2)) fun t20 =>
 sJoin (fun K5 => gIf t20 false (opP Tryd.prog (bsem .eql 3 true t2 (Value.int .i64 10)) fun t23 =>
 K5 [t23] w) (K5 [undef] w)) (fun s6 _d7 w8 =>
 oPick t20 (Value.bool true) (s6.getD 0 undef) fun t24 =>
 sJoin (fun K9 => gIf t24 false (opP Tryd.prog (bsem .gtr 3 true t2 (Value.int .i64 36)) fun t27 =>
 K9 [t27] w8) (K9 [undef] w8)) (fun s10 _d11 w12 =>
 oPick t24 (Value.bool true) (s10.getD 0 undef) fun t28 =>
 oCond t28 (opP Tryd.prog (Instr.makeInterface 9 (Value.string { data := #[115, 116, 114, 99, 111, 110, 118, 58, 32, 105, 108, 108, 101, 103, 97, 108, 32, 65, 112, 112, 101, 110, 100, 73, 110, 116, 47, 70, 111, 114, 109, 97, 116, 73, 110, 116, 32, 98, 97, 115, 101] })) fun _t29 =>
 False) (K1 [] w12)))) (fun _s2 _d3 w4 =>
 opW Tryd.prog w4 (Instr.alloc 137 true (.tuple #[])) fun t12 w14 =>
 sJoin (fun K15 =>
 oCond t3 (opP Tryd.prog (Op.unary .neg t1) fun t32 =>
 K15 [t32] w14) (K15 [t1] w14)) (fun s16 _d17 w18 =>
 sJoin (fun K19 =>
 oCall Tryd.prog Tryd.n_internal_strconv_isPowerOfTwo #[t2] w18 fun t34 w23 =>
 oCond t34 (opP Tryd.prog (convert 3 138 t2) fun t36 =>
 oCall Tryd.prog Tryd.n_math_bits_TrailingZeros #[t36] w23 fun t37 w24 =>
 opP Tryd.prog (convert 3 138 t37) fun t38 =>
 opP Tryd.prog (convert 3 123 t2) fun t40 =>
 opP Tryd.prog (convert 3 138 t2) fun t42 =>
 opP Tryd.prog (bsem .sub 138 true t42 (Value.int .u64 1)) fun t43 =>
 sLoop [(s16.getD 0 undef), (Value.int .i64 65)] w24 (fun s26 _d27 w28 K25 =>
 opP Tryd.prog (bsem .geq 123 false (s26.getD 0 undef) t40) fun t46 =>
 oCond t46 (opP Tryd.prog (bsem .sub 3 true (s26.getD 1 undef) (Value.int .i64 1)) fun t48 =>
 opP Tryd.prog (bsem .and 138 false (s26.getD 0 undef) t43) fun t52 =>
 opP Tryd.prog (Instr.index 9 (Value.string { data := #[48, 49, 50, 51, 52, 53, 54, 55, 56, 57, 97, 98, 99, 100, 101, 102, 103, 104, 105, 106, 107, 108, 109, 110, 111, 112, 113, 114, 115, 116, 117, 118, 119, 120, 121, 122] }) t52) fun t53 =>
 opP Tryd.prog (Instr.indexAt 137 t12 t48) fun t54 =>
 opU Tryd.prog w28 (Instr.storeAt 5 t54 t53) fun w29 =>
 opP Tryd.prog (bsem .shr 123 false (s26.getD 0 undef) t38) fun t57 =>
 K25 [t57, t48] w29) (opP Tryd.prog (bsem .sub 3 true (s26.getD 1 undef) (Value.int .i64 1)) fun t59 =>
 opP Tryd.prog (Instr.index 9 (Value.string { data := #[48, 49, 50, 51, 52, 53, 54, 55, 56, 57, 97, 98, 99, 100, 101, 102, 103, 104, 105, 106, 107, 108, 109, 110, 111, 112, 113, 114, 115, 116, 117, 118, 119, 120, 121, 122] }) (s26.getD 0 undef)) fun t62 =>
 opP Tryd.prog (Instr.indexAt 137 t12 t59) fun t63 =>
 opU Tryd.prog w28 (Instr.storeAt 5 t63 t62) fun w30 =>
 K19 [t59] w30))) (opP Tryd.prog (convert 3 123 t2) fun t65 =>
 sLoop [(s16.getD 0 undef), (Value.int .i64 65)] w23 (fun s32 _d33 w34 K31 =>
 opP Tryd.prog (bsem .geq 123 false (s32.getD 0 undef) t65) fun t68 =>
 oCond t68 (opP Tryd.prog (bsem .sub 3 true (s32.getD 1 undef) (Value.int .i64 1)) fun t70 =>
 opP Tryd.prog (bsem .quo 123 false (s32.getD 0 undef) t65) fun t73 =>
 opP Tryd.prog (bsem .mul 123 false t73 t65) fun t78 =>
 opP Tryd.prog (bsem .sub 123 false (s32.getD 0 undef) t78) fun t79 =>
 opP Tryd.prog (Instr.index 9 (Value.string { data := #[48, 49, 50, 51, 52, 53, 54, 55, 56, 57, 97, 98, 99, 100, 101, 102, 103, 104, 105, 106, 107, 108, 109, 110, 111, 112, 113, 114, 115, 116, 117, 118, 119, 120, 121, 122] }) t79) fun t80 =>
 opP Tryd.prog (Instr.indexAt 137 t12 t70) fun t81 =>
 opU Tryd.prog w34 (Instr.storeAt 5 t81 t80) fun w35 =>
 K31 [t73, t70] w35) (opP Tryd.prog (bsem .sub 3 true (s32.getD 1 undef) (Value.int .i64 1)) fun t84 =>
 opP Tryd.prog (Instr.index 9 (Value.string { data := #[48, 49, 50, 51, 52, 53, 54, 55, 56, 57, 97, 98, 99, 100, 101, 102, 103, 104, 105, 106, 107, 108, 109, 110, 111, 112, 113, 114, 115, 116, 117, 118, 119, 120, 121, 122] }) (s32.getD 0 undef)) fun t87 =>
 opP Tryd.prog (Instr.indexAt 137 t12 t84) fun t88 =>
 opU Tryd.prog w34 (Instr.storeAt 5 t88 t87) fun w36 =>
 K19 [t84] w36)))) (fun s20 _d21 w22 =>
 sJoin (fun K37 =>
 oCond t3 (opP Tryd.prog (bsem .sub 3 true (s20.getD 0 undef) (Value.int .i64 1)) fun t91 =>
 opP Tryd.prog (Instr.indexAt 137 t12 t91) fun t93 =>
 opU Tryd.prog w22 (Instr.storeAt 5 t93 (Value.int .u8 45)) fun w41 =>
 K37 [t91] w41) (K37 [(s20.getD 0 undef)] w22)) (fun s38 _d39 w40 =>
 oCond t4 (opP Tryd.prog (Instr.sliceAt 137 t12 (some (s38.getD 0 undef)) none none) fun t97 =>
 opW Tryd.prog w40 (Builtin.append_ #[131, 131] 131 #[t0, t97]) fun t98 w42 =>
 K (.tuple #[t98, (Value.string { data := #[] })]) w42) (opP Tryd.prog (Instr.sliceAt 137 t12 (some (s38.getD 0 undef)) none none) fun t100 =>
 opQ Tryd.prog w40 (convert 131 9 t100) fun t101 =>
 K (.tuple #[(Value.slice Option.none 0 0), t101]) w40)))))
theorem Tryd.E_internal_strconv_formatBits (t0 t1 t2 t3 t4 : Value) (w : World) (K : Value → World → Prop) : sw ⟨false, false⟩ Tryd.prog (fun _ _ => False) Tryd.A_internal_strconv_formatBits (bodyOf Tryd.f106) [t0, t1, t2, t3, t4, undef, undef, undef, undef, undef, undef, undef, undef, undef, undef, undef, undef, undef, undef, undef, undef, undef, undef, undef, undef, undef, undef, undef, undef, undef, undef, undef, undef, undef, undef, undef, undef, undef, undef, undef, undef, undef, undef, undef, undef, undef, undef, undef, undef, undef, undef, undef, undef, undef, undef, undef, undef, undef, undef, undef, undef, undef, undef, undef, undef, undef, undef, undef, undef, undef, undef, undef, undef, undef, undef, undef, undef, undef, undef, undef, undef, undef, undef, undef, undef, undef, undef, undef, undef, undef, undef, undef, undef, undef, undef, undef, undef, undef, undef, undef, undef, undef] w (topQ false Tryd.prog Tryd.f106 w K) = Tryd.F_internal_strconv_formatBits t0 t1 t2 t3 t4 w K := by kernel_rfl
theorem Tryd.C_internal_strconv_formatBits : chk ⟨false, false⟩ Tryd.prog false Tryd.A_internal_strconv_formatBits (bodyOf Tryd.f106) = true := by kernel_rfl
theorem Tryd.ok_internal_strconv_formatBits {t0 t1 t2 t3 t4 : Value} {w : World} {K : Value → World → Prop} (h : Tryd.F_internal_strconv_formatBits t0 t1 t2 t3 t4 w K) : oCall Tryd.prog Tryd.n_internal_strconv_formatBits #[t0, t1, t2, t3, t4] w K :=
  calls_of_sw (cf := ⟨false, false⟩) Tryd.mixed Tryd.func106 rfl Tryd.C_internal_strconv_formatBits ((Tryd.E_internal_strconv_formatBits t0 t1 t2 t3 t4 w K).mpr h)

/- 107: internal/strconv.log10Pow2 -/
def Tryd.A_internal_strconv_log10Pow2 : Ann := .s (.r (.op 0 .p (.nil))) (.s (.r (.op 0 .p (.op 1 .p (.op 2 .p (.op 3 .p (.nil)))))) (.n))
def Tryd.F_internal_strconv_log10Pow2 (t0 : Value) (w : World) (K : Value → World → Prop) : Prop :=
 opP Tryd.prog (bsem .mul 3 true t0 (Value.int .i64 78913)) fun t4 =>
 opP Tryd.prog (bsem .shr 3 true t4 (Value.int .u64 18)) fun t5 =>
 K t5 w
theorem Tryd.E_internal_strconv_log10Pow2 (t0 : Value) (w : World) (K : Value → World → Prop) : sw ⟨false, false⟩ Tryd.prog (fun _ _ => False) Tryd.A_internal_strconv_log10Pow2 (bodyOf Tryd.f107) [t0, undef, undef, undef, undef, undef] w (topQ false Tryd.prog Tryd.f107 w K) = Tryd.F_internal_strconv_log10Pow2 t0 w K := by kernel_rfl
theorem Tryd.C_internal_strconv_log10Pow2 : chk ⟨false, false⟩ Tryd.prog false Tryd.A_internal_strconv_log10Pow2 (bodyOf Tryd.f107) = true := by kernel_rfl
theorem Tryd.ok_internal_strconv_log10Pow2 {t0 : Value} {w : World} {K : Value → World → Prop} (h : Tryd.F_internal_strconv_log10Pow2 t0 w K) : oCall Tryd.prog Tryd.n_internal_strconv_log10Pow2 #[t0] w K :=
  calls_of_sw (cf := ⟨false, false⟩) Tryd.mixed Tryd.func107 rfl Tryd.C_internal_strconv_log10Pow2 ((Tryd.E_internal_strconv_log10Pow2 t0 w K).mpr h)

/- 108: math/bits.Len64 -/
def Tryd.A_math_bits_Len64 : Ann := .s (.r (.op 0 .p (.nil))) (.j [0, 2] (.s (.r (.op 0 .p (.op 1 .p (.nil)))) (.c (.s (.r (.op 0 .p (.op 1 .p (.op 2 .p (.nil))))) (.r (.op 0 .p (.nil)))) (.n))) (.j [0, 2] (.s (.r (.op 0 .p (.op 1 .p (.nil)))) (.c (.s (.r (.op 0 .p (.op 1 .p (.op 2 .p (.nil))))) (.r (.op 0 .p (.op 1 .p (.op 2 .p (.nil)))))) (.n))) (.j [0, 2] (.s (.r (.op 0 .p (.op 1 .p (.nil)))) (.c (.s (.r (.op 0 .p (.op 1 .p (.op 2 .p (.nil))))) (.r (.op 0 .p (.op 1 .p (.op 2 .p (.nil)))))) (.n))) (.s (.r (.op 0 .p (.op 1 .p (.op 2 .p (.op 3 .p (.op 4 .p (.op 5 .p (.op 6 .p (.nil))))))))) (.n)))))
def Tryd.F_math_bits_Len64 (t0 : Value) (w : World) (K : Value → World → Prop) : Prop :=
 sJoin (fun K1 =>
 opP Tryd.prog (bsem .geq 123 true t0 (Value.int .u64 4294967296)) fun t4 =>
 oCond t4 (opP Tryd.prog (bsem .shr 123 true t0 (Value.int .u64 32)) fun t6 =>
 K1 [t6, (Value.int .i64 32)] w) (K1 [t0, (Value.int .i64 0)] w)) (fun s2 _d3 w4 =>
 sJoin (fun K5 =>
 opP Tryd.prog (bsem .geq 123 true (s2.getD 0 undef) (Value.int .u64 65536)) fun t8 =>
 oCond t8 (opP Tryd.prog (bsem .shr 123 true (s2.getD 0 undef) (Value.int .u64 16)) fun t10 =>
 opP Tryd.prog (bsem .add 3 true (s2.getD 1 undef) (Value.int .i64 16)) fun t12 =>
 K5 [t10, t12] w4) (K5 [(s2.getD 0 undef), (s2.getD 1 undef)] w4)) (fun s6 _d7 w8 =>
 sJoin (fun K9 =>
 opP Tryd.prog (bsem .geq 123 true (s6.getD 0 undef) (Value.int .u64 256)) fun t14 =>
 oCond t14 (opP Tryd.prog (bsem .shr 123 true (s6.getD 0 undef) (Value.int .u64 8)) fun t16 =>
 opP Tryd.prog (bsem .add 3 true (s6.getD 1 undef) (Value.int .i64 8)) fun t18 =>
 K9 [t16, t18] w8) (K9 [(s6.getD 0 undef), (s6.getD 1 undef)] w8)) (fun s10 _d11 w12 =>
 opP Tryd.prog (convert 123 5 (s10.getD 0 undef)) fun t21 =>
 opP Tryd.prog (Instr.index 9 (Value.string { data := (([0, 1, 2, 2, 3, 3, 3, 3, 4, 4, 4, 4, 4, 4, 4, 4, 5, 5, 5, 5, 5, 5, 5, 5, 5, 5, 5, 5, 5, 5, 5, 5, 6, 6, 6, 6, 6, 6, 6, 6, 6, 6, 6, 6, 6, 6, 6, 6, 6, 6, 6, 6, 6, 6, 6, 6, 6, 6, 6, 6, 6, 6, 6, 6].append [7, 7, 7, 7, 7, 7, 7, 7, 7, 7, 7, 7, 7, 7, 7, 7, 7, 7, 7, 7, 7, 7, 7, 7, 7, 7, 7, 7, 7, 7, 7, 7, 7, 7, 7, 7, 7, 7, 7, 7, 7, 7, 7, 7, 7, 7, 7, 7, 7, 7, 7, 7, 7, 7, 7, 7, 7, 7, 7, 7, 7, 7, 7, 7]).append ([8, 8, 8, 8, 8, 8, 8, 8, 8, 8, 8, 8, 8, 8, 8, 8, 8, 8, 8, 8, 8, 8, 8, 8, 8, 8, 8, 8, 8, 8, 8, 8, 8, 8, 8, 8, 8, 8, 8, 8, 8, 8, 8, 8, 8, 8, 8, 8, 8, 8, 8, 8, 8, 8, 8, 8, 8, 8, 8, 8, 8, 8, 8, 8].append [8, 8, 8, 8, 8, 8, 8, 8, 8, 8, 8, 8, 8, 8, 8, 8, 8, 8, 8, 8, 8, 8, 8, 8, 8, 8, 8, 8, 8, 8, 8, 8, 8, 8, 8, 8, 8, 8, 8, 8, 8, 8, 8, 8, 8, 8, 8, 8, 8, 8, 8, 8, 8, 8, 8, 8, 8, 8, 8, 8, 8, 8, 8, 8])).toArray }) t21) fun t22 =>
 opP Tryd.prog (convert 5 3 t22) fun t23 =>
 opP Tryd.prog (bsem .add 3 false (s10.getD 1 undef) t23) fun t24 =>
 K t24 w12)))
theorem Tryd.E_math_bits_Len64 (t0 : Value) (w : World) (K : Value → World → Prop) : sw ⟨false, false⟩ Tryd.prog (fun _ _ => False) Tryd.A_math_bits_Len64 (bodyOf Tryd.f108) [t0, undef, undef, undef, undef, undef, undef, undef, undef, undef, undef, undef, undef, undef, undef, undef, undef, undef, undef, undef, undef, undef, undef, undef, undef] w (topQ false Tryd.prog Tryd.f108 w K) = Tryd.F_math_bits_Len64 t0 w K := by kernel_rfl
theorem Tryd.C_math_bits_Len64 : chk ⟨false, false⟩ Tryd.prog false Tryd.A_math_bits_Len64 (bodyOf Tryd.f108) = true := by kernel_rfl
theorem Tryd.ok_math_bits_Len64 {t0 : Value} {w : World} {K : Value → World → Prop} (h : Tryd.F_math_bits_Len64 t0 w K) : oCall Tryd.prog Tryd.n_math_bits_Len64 #[t0] w K :=
  calls_of_sw (cf := ⟨false, false⟩) Tryd.mixed Tryd.func108 rfl Tryd.C_math_bits_Len64 ((Tryd.E_math_bits_Len64 t0 w K).mpr h)

/- 109: internal/strconv.bool2[int] -/
def Tryd.A_internal_strconv_bool2_int : Ann := .s (.r (.op 0 .p (.nil))) (.s (.s (.r (.op 0 .p (.nil))) (.c (.s (.r (.op 0 .p (.nil))) (.n)) (.n))) (.s (.r (.op 0 .p (.nil))) (.n)))
def Tryd.F_internal_strconv_bool2_int (t0 : Value) (w : World) (K : Value → World → Prop) : Prop :=
 oCond t0 (K (Value.int .i64 1) w) (K (Value.int .i64 0) w)
theorem Tryd.E_internal_strconv_bool2_int (t0 : Value) (w : World) (K : Value → World → Prop) : sw ⟨false, false⟩ Tryd.prog (fun _ _ => False) Tryd.A_internal_strconv_bool2_int (bodyOf Tryd.f109) [t0, undef, undef, undef] w (topQ false Tryd.prog Tryd.f109 w K) = Tryd.F_internal_strconv_bool2_int t0 w K := by kernel_rfl
theorem Tryd.C_internal_strconv_bool2_int : chk ⟨false, false⟩ Tryd.prog false Tryd.A_internal_strconv_bool2_int (bodyOf Tryd.f109) = true := by kernel_rfl
theorem Tryd.ok_internal_strconv_bool2_int {t0 : Value} {w : World} {K : Value → World → Prop} (h : Tryd.F_internal_strconv_bool2_int t0 w K) : oCall Tryd.prog Tryd.n_internal_strconv_bool2_int #[t0] w K :=
  calls_of_sw (cf := ⟨false, false⟩) Tryd.mixed Tryd.func109 rfl Tryd.C_internal_strconv_bool2_int ((Tryd.E_internal_strconv_bool2_int t0 w K).mpr h)

/- 110: internal/strconv.isPowerOfTwo -/
def Tryd.A_internal_strconv_isPowerOfTwo : Ann := .s (.r (.op 0 .p (.nil))) (.s (.r (.op 0 .p (.op 1 .p (.op 2 .p (.op 3 .p (.op 4 .p (.op 5 .p (.nil)))))))) (.n))
def Tryd.F_internal_strconv_isPowerOfTwo (t0 : Value) (w : World) (K : Value → World → Prop) : Prop :=
 opP Tryd.prog (bsem .sub 3 true t0 (Value.int .i64 1)) fun t5 =>
 opP Tryd.prog (bsem .and 3 false t0 t5) fun t6 =>
 opP Tryd.prog (bsem .eql 3 true t6 (Value.int .i64 0)) fun t7 =>
 K t7 w
theorem Tryd.E_internal_strconv_isPowerOfTwo (t0 : Value) (w : World) (K : Value → World → Prop) : sw ⟨false, false⟩ Tryd.prog (fun _ _ => False) Tryd.A_internal_strconv_isPowerOfTwo (bodyOf Tryd.f110) [t0, undef, undef, undef, undef, undef, undef, undef] w (topQ false Tryd.prog Tryd.f110 w K) = Tryd.F_internal_strconv_isPowerOfTwo t0 w K := by kernel_rfl
theorem Tryd.C_internal_strconv_isPowerOfTwo : chk ⟨false, false⟩ Tryd.prog false Tryd.A_internal_strconv_isPowerOfTwo (bodyOf Tryd.f110) = true := by kernel_rfl
theorem Tryd.ok_internal_strconv_isPowerOfTwo {t0 : Value} {w : World} {K : Value → World → Prop} (h : Tryd.F_internal_strconv_isPowerOfTwo t0 w K) : oCall Tryd.prog Tryd.n_internal_strconv_isPowerOfTwo #[t0] w K :=
  calls_of_sw (cf := ⟨false, false⟩) Tryd.mixed Tryd.func110 rfl Tryd.C_internal_strconv_isPowerOfTwo ((Tryd.E_internal_strconv_isPowerOfTwo t0 w K).mpr h)

/- 111: math/bits.TrailingZeros -/
def Tryd.A_math_bits_TrailingZeros : Ann := .s (.r (.op 0 .p (.nil))) (.s (.c (.s (.r (.op 0 .p (.op 1 .p (.op 2 .l (.op 3 .p (.nil)))))) (.n)) (.n)) (.s (.r (.op 0 .p (.op 1 .l (.op 2 .p (.nil))))) (.n)))
def Tryd.F_math_bits_TrailingZeros (t0 : Value) (w : World) (K : Value → World → Prop) : Prop :=
 oCond (Value.bool false) (opP Tryd.prog (convert 138 136 t0) fun t4 =>
 oCall Tryd.prog Tryd.n_math_bits_TrailingZeros32 #[t4] w fun t5 w1 =>
 K t5 w1) (oCall Tryd.prog Tryd.n_math_bits_TrailingZeros64 #[t0] w fun t7 w2 =>
 K t7 w2)
theorem Tryd.E_math_bits_TrailingZeros (t0 : Value) (w : World) (K : Value → World → Prop) : sw ⟨false, false⟩ Tryd.prog (fun _ _ => False) Tryd.A_math_bits_TrailingZeros (bodyOf Tryd.f111) [t0, undef, undef, undef, undef, undef, undef, undef] w (topQ false Tryd.prog Tryd.f111 w K) = Tryd.F_math_bits_TrailingZeros t0 w K := by kernel_rfl
theorem Tryd.C_math_bits_TrailingZeros : chk ⟨false, false⟩ Tryd.prog false Tryd.A_math_bits_TrailingZeros (bodyOf Tryd.f111) = true := by kernel_rfl
theorem Tryd.ok_math_bits_TrailingZeros {t0 : Value} {w : World} {K : Value → World → Prop} (h : Tryd.F_math_bits_TrailingZeros t0 w K) : oCall Tryd.prog Tryd.n_math_bits_TrailingZeros #[t0] w K :=
  calls_of_sw (cf := ⟨false, false⟩) Tryd.mixed Tryd.func111 rfl Tryd.C_math_bits_TrailingZeros ((Tryd.E_math_bits_TrailingZeros t0 w K).mpr h)

/- 112: math/bits.TrailingZeros32 -/
def Tryd.A_math_bits_TrailingZeros32 : Ann := .s (.r (.op 0 .p (.nil))) (.s (.s (.r (.op 0 .p (.op 1 .p (.nil)))) (.c (.s (.r (.op 0 .p (.nil))) (.n)) (.n))) (.s (.r (.op 0 .p (.op 1 .p (.op 2 .p (.op 3 .p (.op 4 .p (.op 5 .p (.op 6 .p (.op 7 .q (.op 8 .p (.op 9 .p (.nil)))))))))))) (.n)))
def Tryd.F_math_bits_TrailingZeros32 (t0 : Value) (w : World) (K : Value → World → Prop) : Prop :=
 opP Tryd.prog (bsem .eql 136 true t0 (Value.int .u32 0)) fun t4 =>
 oCond t4 (K (Value.int .i64 32) w) (opP Tryd.prog (Op.unary .neg t0) fun t7 =>
 opP Tryd.prog (bsem .and 136 false t0 t7) fun t8 =>
 opP Tryd.prog (bsem .mul 136 true t8 (Value.int .u32 125613361)) fun t9 =>
 opP Tryd.prog (bsem .shr 136 true t9 (Value.int .u64 27)) fun t10 =>
 opP Tryd.prog (Instr.indexAt 141 (Value.pointer (some ⟨1, 0, none⟩)) t10) fun t11 =>
 opQ Tryd.prog w (Instr.loadAt 5 t11) fun t12 =>
 opP Tryd.prog (convert 5 3 t12) fun t13 =>
 K t13 w)
theorem Tryd.E_math_bits_TrailingZeros32 (t0 : Value) (w : World) (K : Value → World → Prop) : sw ⟨false, false⟩ Tryd.prog (fun _ _ => False) Tryd.A_math_bits_TrailingZeros32 (bodyOf Tryd.f112) [t0, undef, undef, undef, undef, undef, undef, undef, undef, undef, undef, undef, undef, undef] w (topQ false Tryd.prog Tryd.f112 w K) = Tryd.F_math_bits_TrailingZeros32 t0 w K := by kernel_rfl
theorem Tryd.C_math_bits_TrailingZeros32 : chk ⟨false, false⟩ Tryd.prog false Tryd.A_math_bits_TrailingZeros32 (bodyOf Tryd.f112) = true := by kernel_rfl
theorem Tryd.ok_math_bits_TrailingZeros32 {t0 : Value} {w : World} {K : Value → World → Prop} (h : Tryd.F_math_bits_TrailingZeros32 t0 w K) : oCall Tryd.prog Tryd.n_math_bits_TrailingZeros32 #[t0] w K :=
  calls_of_sw (cf := ⟨false, false⟩) Tryd.mixed Tryd.func112 rfl Tryd.C_math_bits_TrailingZeros32 ((Tryd.E_math_bits_TrailingZeros32 t0 w K).mpr h)

/- 113: math/bits.TrailingZeros64 -/
def Tryd.A_math_bits_TrailingZeros64 : Ann := .s (.r (.op 0 .p (.nil))) (.s (.s (.r (.op 0 .p (.op 1 .p (.nil)))) (.c (.s (.r (.op 0 .p (.nil))) (.n)) (.n))) (.s (.r (.op 0 .p (.op 1 .p (.op 2 .p (.op 3 .p (.op 4 .p (.op 5 .p (.op 6 .p (.op 7 .q (.op 8 .p (.op 9 .p (.nil)))))))))))) (.n)))
def Tryd.F_math_bits_TrailingZeros64 (t0 : Value) (w : World) (K : Value → World → Prop) : Prop :=
 opP Tryd.prog (bsem .eql 123 true t0 (Value.int .u64 0)) fun t4 =>
 oCond t4 (K (Value.int .i64 64) w) (opP Tryd.prog (Op.unary .neg t0) fun t7 =>
 opP Tryd.prog (bsem .and 123 false t0 t7) fun t8 =>
 opP Tryd.prog (bsem .mul 123 true t8 (Value.int .u64 285870213051353865)) fun t9 =>
 opP Tryd.prog (bsem .shr 123 true t9 (Value.int .u64 58)) fun t10 =>
 opP Tryd.prog (Instr.indexAt 142 (Value.pointer (some ⟨2, 0, none⟩)) t10) fun t11 =>
 opQ Tryd.prog w (Instr.loadAt 5 t11) fun t12 =>
 opP Tryd.prog (convert 5 3 t12) fun t13 =>
 K t13 w)
theorem Tryd.E_math_bits_TrailingZeros64 (t0 : Value) (w : World) (K : Value → World → Prop) : sw ⟨false, false⟩ Tryd.prog (fun _ _ => False) Tryd.A_math_bits_TrailingZeros64 (bodyOf Tryd.f113) [t0, undef, undef, undef, undef, undef, undef, undef, undef, undef, undef, undef, undef, undef] w (topQ false Tryd.prog Tryd.f113 w K) = Tryd.F_math_bits_TrailingZeros64 t0 w K := by kernel_rfl
theorem Tryd.C_math_bits_TrailingZeros64 : chk ⟨false, false⟩ Tryd.prog false Tryd.A_math_bits_TrailingZeros64 (bodyOf Tryd.f113) = true := by kernel_rfl
theorem Tryd.ok_math_bits_TrailingZeros64 {t0 : Value} {w : World} {K : Value → World → Prop} (h : Tryd.F_math_bits_TrailingZeros64 t0 w K) : oCall Tryd.prog Tryd.n_math_bits_TrailingZeros64 #[t0] w K :=
  calls_of_sw (cf := ⟨false, false⟩) Tryd.mixed Tryd.func113 rfl Tryd.C_math_bits_TrailingZeros64 ((Tryd.E_math_bits_TrailingZeros64 t0 w K).mpr h)

end Go.Proofs
