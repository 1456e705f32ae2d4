/-
  Shallow readings of functions. Made by a program (wip/gen/gen.py) out of the translation; the kernel checks each equality.
  Shallow readings of functions. Made by a program (wip/gen/gen.py) out of the translation; the kernel checks each equality.
-/
import Derived.Test.YtajllnahceaipaaDoorNb

section
namespace Go.Proofs
open Go.Sh
set_option maxRecDepth 100000
/- 49: slices.ContainsFunc[[]int,int] -/
def Tryd.A_slices_ContainsFunc_int_int : Ann := .s (.r (.op 0 .p (.nil))) (.s (.r (.op 0 .p (.op 1 .p (.op 2 .l (.op 3 .p (.op 4 .p (.nil))))))) (.n))
def Tryd.F_slices_ContainsFunc_int_int (t0 : Value) (t1 : Value) (w : World) (K : Value → World → Prop) : Prop :=
 oCall Tryd.prog Tryd.n_slices_IndexFunc_int_int #[t0, t1] w fun t7 w1 =>
 opP Tryd.prog (bsem .geq 3 true t7 (Value.int .i64 0)) fun t8 =>
 K t8 w1
theorem Tryd.E_slices_ContainsFunc_int_int (t0 t1 : Value) (w : World) (K : Value → World → Prop) : sw ⟨false, false⟩ Tryd.prog (fun _ _ => False) Tryd.A_slices_ContainsFunc_int_int (bodyOf Tryd.f49) [t0, t1, undef, undef, undef, undef, undef, undef, undef] w (topQ false Tryd.prog Tryd.f49 w K) = Tryd.F_slices_ContainsFunc_int_int t0 t1 w K := by kernel_rfl
theorem Tryd.C_slices_ContainsFunc_int_int : chk ⟨false, false⟩ Tryd.prog false Tryd.A_slices_ContainsFunc_int_int (bodyOf Tryd.f49) = true := by kernel_rfl
theorem Tryd.ok_slices_ContainsFunc_int_int {t0 t1 : Value} {w : World} {K : Value → World → Prop} (h : Tryd.F_slices_ContainsFunc_int_int t0 t1 w K) : oCall Tryd.prog Tryd.n_slices_ContainsFunc_int_int #[t0, t1] w K :=
  calls_of_sw (cf := ⟨false, false⟩) Tryd.mixed Tryd.func49 rfl Tryd.C_slices_ContainsFunc_int_int ((Tryd.E_slices_ContainsFunc_int_int t0 t1 w K).mpr h)

/- 64: slices.ContainsFunc[[]loanword/api.Field,loanword/api.Field] -/
def Tryd.A_slices_ContainsFunc_api_Field_api_Field : Ann := .s (.r (.op 0 .p (.nil))) (.s (.r (.op 0 .p (.op 1 .p (.op 2 .l (.op 3 .p (.op 4 .p (.nil))))))) (.n))
def Tryd.F_slices_ContainsFunc_api_Field_api_Field (t0 : Value) (t1 : Value) (w : World) (K : Value → World → Prop) : Prop :=
 oCall Tryd.prog Tryd.n_slices_IndexFunc_api_Field_api_Field #[t0, t1] w fun t7 w1 =>
 opP Tryd.prog (bsem .geq 3 true t7 (Value.int .i64 0)) fun t8 =>
 K t8 w1
theorem Tryd.E_slices_ContainsFunc_api_Field_api_Field (t0 t1 : Value) (w : World) (K : Value → World → Prop) : sw ⟨false, false⟩ Tryd.prog (fun _ _ => False) Tryd.A_slices_ContainsFunc_api_Field_api_Field (bodyOf Tryd.f64) [t0, t1, undef, undef, undef, undef, undef, undef, undef] w (topQ false Tryd.prog Tryd.f64 w K) = Tryd.F_slices_ContainsFunc_api_Field_api_Field t0 t1 w K := by kernel_rfl
theorem Tryd.C_slices_ContainsFunc_api_Field_api_Field : chk ⟨false, false⟩ Tryd.prog false Tryd.A_slices_ContainsFunc_api_Field_api_Field (bodyOf Tryd.f64) = true := by kernel_rfl
theorem Tryd.ok_slices_ContainsFunc_api_Field_api_Field {t0 t1 : Value} {w : World} {K : Value → World → Prop} (h : Tryd.F_slices_ContainsFunc_api_Field_api_Field t0 t1 w K) : oCall Tryd.prog Tryd.n_slices_ContainsFunc_api_Field_api_Field #[t0, t1] w K :=
  calls_of_sw (cf := ⟨false, false⟩) Tryd.mixed Tryd.func64 rfl Tryd.C_slices_ContainsFunc_api_Field_api_Field ((Tryd.E_slices_ContainsFunc_api_Field_api_Field t0 t1 w K).mpr h)

/- 86: slices.IndexFunc[[]int,int] -/
def Tryd.A_slices_IndexFunc_int_int : Ann := .s (.r (.op 0 .p (.nil))) (.s (.s (.r (.op 0 .p (.op 1 .p (.op 2 .p (.nil))))) (.b (.lp [8] (.s (.r (.op 0 .p (.nil))) (.s (.c (.n) (.n)) (.s (.b (.s (.r (.op 0 .p (.op 1 .p (.nil)))) (.s (.r (.op 0 .p (.op 1 .p (.op 2 .p (.op 3 .p (.op 4 .q (.op 5 .l (.nil)))))))) (.c (.s (.r (.op 0 .p (.op 1 .p (.nil)))) (.n)) (.n))))) (.r (.op 0 .p (.op 1 .p (.nil)))))))))) (.s (.r (.op 0 .p (.nil))) (.n)))
def Tryd.F_slices_IndexFunc_int_int (t0 : Value) (t1 : Value) (w : World) (K : Value → World → Prop) : Prop :=
 opP Tryd.prog (Builtin.len_ #[68] 3 #[t0]) fun t7 =>
 sLoop [(Value.int .i64 0)] w (fun s2 _d3 w4 K1 =>
 opP Tryd.prog (bsem .lss 3 false (s2.getD 0 undef) t7) fun t9 =>
 oCond t9 (opP Tryd.prog (Instr.indexAt 68 t0 (s2.getD 0 undef)) fun t14 =>
 opQ Tryd.prog w4 (Instr.loadAt 3 t14) fun t15 =>
 oCallV Tryd.prog t1 #[t15] w4 fun t16 w5 =>
 oCond t16 (K (s2.getD 0 undef) w5) (opP Tryd.prog (bsem .add 3 true (s2.getD 0 undef) (Value.int .i64 1)) fun t18 =>
 K1 [t18] w5)) (K (Value.int .i64 (-1)) w4))
theorem Tryd.E_slices_IndexFunc_int_int (t0 t1 : Value) (w : World) (K : Value → World → Prop) : sw ⟨false, false⟩ Tryd.prog (fun _ _ => False) Tryd.A_slices_IndexFunc_int_int (bodyOf Tryd.f86) [t0, t1, undef, undef, undef, undef, undef, undef, undef, undef, undef, undef, undef, undef, undef, undef, undef, undef, undef] w (topQ false Tryd.prog Tryd.f86 w K) = Tryd.F_slices_IndexFunc_int_int t0 t1 w K := by kernel_rfl
theorem Tryd.C_slices_IndexFunc_int_int : chk ⟨false, false⟩ Tryd.prog false Tryd.A_slices_IndexFunc_int_int (bodyOf Tryd.f86) = true := by kernel_rfl
theorem Tryd.ok_slices_IndexFunc_int_int {t0 t1 : Value} {w : World} {K : Value → World → Prop} (h : Tryd.F_slices_IndexFunc_int_int t0 t1 w K) : oCall Tryd.prog Tryd.n_slices_IndexFunc_int_int #[t0, t1] w K :=
  calls_of_sw (cf := ⟨false, false⟩) Tryd.mixed Tryd.func86 rfl Tryd.C_slices_IndexFunc_int_int ((Tryd.E_slices_IndexFunc_int_int t0 t1 w K).mpr h)

/- 97: slices.IndexFunc[[]loanword/api.Field,loanword/api.Field] -/
def Tryd.A_slices_IndexFunc_api_Field_api_Field : Ann := .s (.r (.op 0 .p (.nil))) (.s (.s (.r (.op 0 .p (.op 1 .p (.op 2 .p (.nil))))) (.b (.lp [8] (.s (.r (.op 0 .p (.nil))) (.s (.c (.n) (.n)) (.s (.b (.s (.r (.op 0 .p (.op 1 .p (.nil)))) (.s (.r (.op 0 .p (.op 1 .p (.op 2 .p (.op 3 .p (.op 4 .q (.op 5 .l (.nil)))))))) (.c (.s (.r (.op 0 .p (.op 1 .p (.nil)))) (.n)) (.n))))) (.r (.op 0 .p (.op 1 .p (.nil)))))))))) (.s (.r (.op 0 .p (.nil))) (.n)))
def Tryd.F_slices_IndexFunc_api_Field_api_Field (t0 : Value) (t1 : Value) (w : World) (K : Value → World → Prop) : Prop :=
 opP Tryd.prog (Builtin.len_ #[97] 3 #[t0]) fun t7 =>
 sLoop [(Value.int .i64 0)] w (fun s2 _d3 w4 K1 =>
 opP Tryd.prog (bsem .lss 3 false (s2.getD 0 undef) t7) fun t9 =>
 oCond t9 (opP Tryd.prog (Instr.indexAt 97 t0 (s2.getD 0 undef)) fun t14 =>
 opQ Tryd.prog w4 (Instr.loadAt 101 t14) fun t15 =>
 oCallV Tryd.prog t1 #[t15] w4 fun t16 w5 =>
 oCond t16 (K (s2.getD 0 undef) w5) (opP Tryd.prog (bsem .add 3 true (s2.getD 0 undef) (Value.int .i64 1)) fun t18 =>
 K1 [t18] w5)) (K (Value.int .i64 (-1)) w4))
theorem Tryd.E_slices_IndexFunc_api_Field_api_Field (t0 t1 : Value) (w : World) (K : Value → World → Prop) : sw ⟨false, false⟩ Tryd.prog (fun _ _ => False) Tryd.A_slices_IndexFunc_api_Field_api_Field (bodyOf Tryd.f97) [t0, t1, undef, undef, undef, undef, undef, undef, undef, undef, undef, undef, undef, undef, undef, undef, undef, undef, undef] w (topQ false Tryd.prog Tryd.f97 w K) = Tryd.F_slices_IndexFunc_api_Field_api_Field t0 t1 w K := by kernel_rfl
theorem Tryd.C_slices_IndexFunc_api_Field_api_Field : chk ⟨false, false⟩ Tryd.prog false Tryd.A_slices_IndexFunc_api_Field_api_Field (bodyOf Tryd.f97) = true := by kernel_rfl
theorem Tryd.ok_slices_IndexFunc_api_Field_api_Field {t0 t1 : Value} {w : World} {K : Value → World → Prop} (h : Tryd.F_slices_IndexFunc_api_Field_api_Field t0 t1 w K) : oCall Tryd.prog Tryd.n_slices_IndexFunc_api_Field_api_Field #[t0, t1] w K :=
  calls_of_sw (cf := ⟨false, false⟩) Tryd.mixed Tryd.func97 rfl Tryd.C_slices_IndexFunc_api_Field_api_Field ((Tryd.E_slices_IndexFunc_api_Field_api_Field t0 t1 w K).mpr h)

/- 88: strconv.Itoa -/
def Tryd.A_strconv_Itoa : Ann := .s (.r (.op 0 .p (.nil))) (.s (.r (.op 0 .p (.op 1 .l (.op 2 .p (.nil))))) (.n))
def Tryd.F_strconv_Itoa (t0 : Value) (w : World) (K : Value → World → Prop) : Prop :=
 oCall Tryd.prog Tryd.n_internal_strconv_Itoa #[t0] w fun t4 w1 =>
 K t4 w1
theorem Tryd.E_strconv_Itoa (t0 : Value) (w : World) (K : Value → World → Prop) : sw ⟨false, false⟩ Tryd.prog (fun _ _ => False) Tryd.A_strconv_Itoa (bodyOf Tryd.f88) [t0, undef, undef, undef, undef] w (topQ false Tryd.prog Tryd.f88 w K) = Tryd.F_strconv_Itoa t0 w K := by kernel_rfl
theorem Tryd.C_strconv_Itoa : chk ⟨false, false⟩ Tryd.prog false Tryd.A_strconv_Itoa (bodyOf Tryd.f88) = true := by kernel_rfl
theorem Tryd.ok_strconv_Itoa {t0 : Value} {w : World} {K : Value → World → Prop} (h : Tryd.F_strconv_Itoa t0 w K) : oCall Tryd.prog Tryd.n_strconv_Itoa #[t0] w K :=
  calls_of_sw (cf := ⟨false, false⟩) Tryd.mixed Tryd.func88 rfl Tryd.C_strconv_Itoa ((Tryd.E_strconv_Itoa t0 w K).mpr h)

/- 99: internal/strconv.Itoa -/
def Tryd.A_internal_strconv_Itoa : Ann := .s (.r (.op 0 .p (.nil))) (.s (.r (.op 0 .p (.op 1 .l (.op 2 .p (.nil))))) (.n))
def Tryd.F_internal_strconv_Itoa (t0 : Value) (w : World) (K : Value → World → Prop) : Prop :=
 oCall Tryd.prog Tryd.n_internal_strconv_FormatInt #[t0, (Value.int .i64 10)] w fun t4 w1 =>
 K t4 w1
theorem Tryd.E_internal_strconv_Itoa (t0 : Value) (w : World) (K : Value → World → Prop) : sw ⟨false, false⟩ Tryd.prog (fun _ _ => False) Tryd.A_internal_strconv_Itoa (bodyOf Tryd.f99) [t0, undef, undef, undef, undef] w (topQ false Tryd.prog Tryd.f99 w K) = Tryd.F_internal_strconv_Itoa t0 w K := by kernel_rfl
theorem Tryd.C_internal_strconv_Itoa : chk ⟨false, false⟩ Tryd.prog false Tryd.A_internal_strconv_Itoa (bodyOf Tryd.f99) = true := by kernel_rfl
theorem Tryd.ok_internal_strconv_Itoa {t0 : Value} {w : World} {K : Value → World → Prop} (h : Tryd.F_internal_strconv_Itoa t0 w K) : oCall Tryd.prog Tryd.n_internal_strconv_Itoa #[t0] w K :=
  calls_of_sw (cf := ⟨false, false⟩) Tryd.mixed Tryd.func99 rfl Tryd.C_internal_strconv_Itoa ((Tryd.E_internal_strconv_Itoa t0 w K).mpr h)

/- 100: strings.HasPrefix -/
def Tryd.A_strings_HasPrefix : Ann := .s (.r (.op 0 .p (.nil))) (.s (.r (.op 0 .p (.op 1 .p (.op 2 .l (.op 3 .p (.nil)))))) (.n))
def Tryd.F_strings_HasPrefix (t0 : Value) (t1 : Value) (w : World) (K : Value → World → Prop) : Prop :=
 oCall Tryd.prog Tryd.n_internal_stringslite_HasPrefix #[t0, t1] w fun t7 w1 =>
 K t7 w1
theorem Tryd.E_strings_HasPrefix (t0 t1 : Value) (w : World) (K : Value → World → Prop) : sw ⟨false, false⟩ Tryd.prog (fun _ _ => False) Tryd.A_strings_HasPrefix (bodyOf Tryd.f100) [t0, t1, undef, undef, undef, undef, undef, undef] w (topQ false Tryd.prog Tryd.f100 w K) = Tryd.F_strings_HasPrefix t0 t1 w K := by kernel_rfl
theorem Tryd.C_strings_HasPrefix : chk ⟨false, false⟩ Tryd.prog false Tryd.A_strings_HasPrefix (bodyOf Tryd.f100) = true := by kernel_rfl
theorem Tryd.ok_strings_HasPrefix {t0 t1 : Value} {w : World} {K : Value → World → Prop} (h : Tryd.F_strings_HasPrefix t0 t1 w K) : oCall Tryd.prog Tryd.n_strings_HasPrefix #[t0, t1] w K :=
  calls_of_sw (cf := ⟨false, false⟩) Tryd.mixed Tryd.func100 rfl Tryd.C_strings_HasPrefix ((Tryd.E_strings_HasPrefix t0 t1 w K).mpr h)

/- 101: internal/strconv.FormatInt -/
def Tryd.A_internal_strconv_FormatInt : Ann := .s (.r (.op 0 .p (.nil))) (.s (.s (.r (.op 0 .p (.op 1 .p (.nil)))) (.c (.s (.s (.r (.op 0 .p (.op 1 .p (.op 2 .p (.grp 14 true [(3, .p), (4, .p)] [16] (.op 5 .p (.nil))))))) (.c (.s (.r (.op 0 .p (.op 1 .l (.op 2 .p (.nil))))) (.n)) (.n))) (.s (.r (.op 0 .l (.nil))) (.s (.r (.op 0 .p (.op 1 .p (.op 2 .p (.nil))))) (.j [6] (.s (.r (.op 0 .p (.op 1 .p (.nil)))) (.c (.r (.op 0 .p (.op 1 .p (.op 2 .p (.nil))))) (.n))) (.s (.r (.op 0 .p (.op 1 .l (.op 2 .p (.nil))))) (.s (.r (.op 0 .p (.op 1 .p (.op 2 .p (.op 3 .p (.op 4 .l (.nil))))))) (.s (.s (.r (.op 0 .p (.op 1 .p (.nil)))) (.c (.s (.r (.op 0 .p (.op 1 .l (.nil)))) (.s (.r (.op 0 .p (.op 1 .p (.op 2 .p (.op 3 .q (.op 4 .p (.nil))))))) (.n))) (.n))) (.s (.r (.op 0 .p (.op 1 .p (.op 2 .p (.op 3 .q (.op 4 .p (.nil))))))) (.n))))))))) (.n))) (.s (.r (.op 0 .p (.op 1 .p (.op 2 .p (.op 3 .p (.op 4 .p (.op 5 .l (.op 6 .p (.op 7 .p (.op 8 .p (.op 9 .p (.op 10 .p (.nil))))))))))))) (.s (.r (.op 0 .p (.op 1 .p (.nil)))) (.n))))
def Tryd.F_internal_strconv_FormatInt (t0 : Value) (t1 : Value) (w : World) (K : Value → World → Prop) : Prop :=
 opP Tryd.prog (bsem .eql 3 true t1 (Value.int .i64 10)) fun t11 =>
 oCond t11 (opP Tryd.prog (bsem .leq 2 true (Value.int .i64 0) t0) fun t13 =>
 sJoin (fun K1 => gIf t13 true (opP Tryd.prog (bsem .lss 2 true t0 (Value.int .i64 100)) fun t16 =>
 K1 [t16] w) (K1 [undef] w)) (fun s2 _d3 w4 =>
 oPick t13 (s2.getD 0 undef) (Value.bool false) fun t17 =>
 oCond t17 (oCall Tryd.prog Tryd.n_internal_strconv_small #[t0] w4 fun t19 w5 =>
 K t19 w5) (opW Tryd.prog w4 (Instr.alloc 129 true (.tuple #[])) fun t5 w6 =>
 opP Tryd.prog (convert 2 123 t0) fun t21 =>
 sJoin (fun K7 =>
 opP Tryd.prog (bsem .lss 2 true t0 (Value.int .i64 0)) fun t23 =>
 oCond t23 (opP Tryd.prog (Op.unary .neg t21) fun t25 =>
 K7 [t25] w6) (K7 [t21] w6)) (fun s8 _d9 w10 =>
 oCall Tryd.prog Tryd.n_internal_strconv_numDigits #[(s8.getD 0 undef)] w10 fun t27 w11 =>
 opP Tryd.prog (bsem .add 3 true (Value.int .i64 1) t27) fun t29 =>
 opP Tryd.prog (Instr.sliceAt 129 t5 (some (Value.int .i64 1)) (some t29) none) fun t30 =>
 oCall Tryd.prog Tryd.n_internal_strconv_formatBase10 #[t30, (s8.getD 0 undef)] w11 fun _t32 w12 =>
 opP Tryd.prog (bsem .lss 2 true t0 (Value.int .i64 0)) fun t34 =>
 oCond t34 (opP Tryd.prog (Instr.indexAt 129 t5 (Value.int .i64 0)) fun t35 =>
 opU Tryd.prog w12 (Instr.storeAt 5 t35 (Value.int .u8 45)) fun w13 =>
 opP Tryd.prog (bsem .add 3 true (Value.int .i64 1) t27) fun t37 =>
 opP Tryd.prog (Instr.sliceAt 129 t5 none (some t37) none) fun t38 =>
 opQ Tryd.prog w13 (convert 131 9 t38) fun t39 =>
 K t39 w13) (opP Tryd.prog (bsem .add 3 true (Value.int .i64 1) t27) fun t41 =>
 opP Tryd.prog (Instr.sliceAt 129 t5 (some (Value.int .i64 1)) (some t41) none) fun t42 =>
 opQ Tryd.prog w12 (convert 131 9 t42) fun t43 =>
 K t43 w12))))) (opP Tryd.prog (convert 2 123 t0) fun t46 =>
 opP Tryd.prog (bsem .lss 2 true t0 (Value.int .i64 0)) fun t49 =>
 oCall Tryd.prog Tryd.n_internal_strconv_formatBits #[(Value.slice Option.none 0 0), t46, t1, t49, (Value.bool false)] w fun t50 w14 =>
 opP Tryd.prog (Instr.extract t50 0) fun _t51 =>
 opP Tryd.prog (Instr.extract t50 1) fun t52 =>
 K t52 w14)
theorem Tryd.E_internal_strconv_FormatInt (t0 t1 : Value) (w : World) (K : Value → World → Prop) : sw ⟨false, false⟩ Tryd.prog (fun _ _ => False) Tryd.A_internal_strconv_FormatInt (bodyOf Tryd.f101) [t0, t1, undef, undef, undef, undef, undef, undef, undef, undef, undef, undef, undef, undef, undef, undef, undef, undef, undef, undef, undef, undef, undef, undef, undef, undef, undef, undef, undef, undef, undef, undef, undef, undef, undef, undef, undef, undef, undef, undef, undef, undef, undef, undef, undef, undef, undef, undef, undef, undef, undef, undef, undef, undef] w (topQ false Tryd.prog Tryd.f101 w K) = Tryd.F_internal_strconv_FormatInt t0 t1 w K := by kernel_rfl
theorem Tryd.C_internal_strconv_FormatInt : chk ⟨false, false⟩ Tryd.prog false Tryd.A_internal_strconv_FormatInt (bodyOf Tryd.f101) = true := by kernel_rfl
theorem Tryd.ok_internal_strconv_FormatInt {t0 t1 : Value} {w : World} {K : Value → World → Prop} (h : Tryd.F_internal_strconv_FormatInt t0 t1 w K) : oCall Tryd.prog Tryd.n_internal_strconv_FormatInt #[t0, t1] w K :=
  calls_of_sw (cf := ⟨false, false⟩) Tryd.mixed Tryd.func101 rfl Tryd.C_internal_strconv_FormatInt ((Tryd.E_internal_strconv_FormatInt t0 t1 w K).mpr h)

/- 102: internal/stringslite.HasPrefix -/
def Tryd.A_internal_stringslite_HasPrefix : Ann := .s (.r (.op 0 .p (.nil))) (.s (.r (.op 0 .p (.op 1 .p (.op 2 .p (.op 3 .p (.op 4 .p (.op 5 .p (.grp 10 true [(6, .p), (7, .p), (8, .p), (9, .p), (10, .p), (11, .p)] [16] (.op 12 .p (.op 13 .p (.nil))))))))))) (.n))
def Tryd.F_internal_stringslite_HasPrefix (t0 : Value) (t1 : Value) (w : World) (K : Value → World → Prop) : Prop :=
 opP Tryd.prog (Builtin.len_ #[9] 3 #[t0]) fun t6 =>
 opP Tryd.prog (Builtin.len_ #[9] 3 #[t1]) fun t8 =>
 opP Tryd.prog (bsem .geq 3 false t6 t8) fun t9 =>
 sJoin (fun K1 => gIf t9 true (opP Tryd.prog (Builtin.len_ #[9] 3 #[t1]) fun t13 =>
 opP Tryd.prog (Instr.sliceAt 9 t0 none (some t13) none) fun t14 =>
 opP Tryd.prog (bsem .eql 9 false t14 t1) fun t16 =>
 K1 [t16] w) (K1 [undef] w)) (fun s2 _d3 w4 =>
 oPick t9 (s2.getD 0 undef) (Value.bool false) fun t17 =>
 K t17 w4)
theorem Tryd.E_internal_stringslite_HasPrefix (t0 t1 : Value) (w : World) (K : Value → World → Prop) : sw ⟨false, false⟩ Tryd.prog (fun _ _ => False) Tryd.A_internal_stringslite_HasPrefix (bodyOf Tryd.f102) [t0, t1, undef, undef, undef, undef, undef, undef, undef, undef, undef, undef, undef, undef, undef, undef, undef, undef] w (topQ false Tryd.prog Tryd.f102 w K) = Tryd.F_internal_stringslite_HasPrefix t0 t1 w K := by kernel_rfl
theorem Tryd.C_internal_stringslite_HasPrefix : chk ⟨false, false⟩ Tryd.prog false Tryd.A_internal_stringslite_HasPrefix (bodyOf Tryd.f102) = true := by kernel_rfl
theorem Tryd.ok_internal_stringslite_HasPrefix {t0 t1 : Value} {w : World} {K : Value → World → Prop} (h : Tryd.F_internal_stringslite_HasPrefix t0 t1 w K) : oCall Tryd.prog Tryd.n_internal_stringslite_HasPrefix #[t0, t1] w K :=
  calls_of_sw (cf := ⟨false, false⟩) Tryd.mixed Tryd.func102 rfl Tryd.C_internal_stringslite_HasPrefix ((Tryd.E_internal_stringslite_HasPrefix t0 t1 w K).mpr h)

/- 103: internal/strconv.small -/
def Tryd.A_internal_strconv_small : Ann := .s (.r (.op 0 .p (.nil))) (.s (.s (.r (.op 0 .p (.op 1 .p (.nil)))) (.c (.s (.r (.op 0 .p (.op 1 .p (.op 2 .p (.op 3 .p (.op 4 .p (.nil))))))) (.n)) (.n))) (.s (.r (.op 0 .p (.op 1 .p (.op 2 .p (.op 3 .p (.op 4 .p (.op 5 .p (.op 6 .p (.nil))))))))) (.n)))
def Tryd.F_internal_strconv_small (t0 : Value) (w : World) (K : Value → World → Prop) : Prop :=
 opP Tryd.prog (bsem .lss 3 true t0 (Value.int .i64 10)) fun t4 =>
 oCond t4 (opP Tryd.prog (bsem .add 3 true t0 (Value.int .i64 1)) fun t7 =>
 opP Tryd.prog (Instr.sliceAt 9 (Value.string { data := #[48, 49, 50, 51, 52, 53, 54, 55, 56, 57, 97, 98, 99, 100, 101, 102, 103, 104, 105, 106, 107, 108, 109, 110, 111, 112, 113, 114, 115, 116, 117, 118, 119, 120, 121, 122] }) (some t0) (some t7) none) fun t8 =>
 K t8 w) (opP Tryd.prog (bsem .mul 3 true t0 (Value.int .i64 2)) fun t10 =>
 opP Tryd.prog (bsem .mul 3 true t0 (Value.int .i64 2)) fun t12 =>
 opP Tryd.prog (bsem .add 3 true t12 (Value.int .i64 2)) fun t13 =>
 opP Tryd.prog (Instr.sliceAt 9 (Value.string { data := (([48, 48, 48, 49, 48, 50, 48, 51, 48, 52, 48, 53, 48, 54, 48, 55, 48, 56, 48, 57, 49, 48, 49, 49, 49, 50, 49, 51, 49, 52, 49, 53, 49, 54, 49, 55, 49, 56, 49, 57, 50, 48, 50, 49, 50, 50, 50, 51, 50, 52].append [50, 53, 50, 54, 50, 55, 50, 56, 50, 57, 51, 48, 51, 49, 51, 50, 51, 51, 51, 52, 51, 53, 51, 54, 51, 55, 51, 56, 51, 57, 52, 48, 52, 49, 52, 50, 52, 51, 52, 52, 52, 53, 52, 54, 52, 55, 52, 56, 52, 57]).append ([53, 48, 53, 49, 53, 50, 53, 51, 53, 52, 53, 53, 53, 54, 53, 55, 53, 56, 53, 57, 54, 48, 54, 49, 54, 50, 54, 51, 54, 52, 54, 53, 54, 54, 54, 55, 54, 56, 54, 57, 55, 48, 55, 49, 55, 50, 55, 51, 55, 52].append [55, 53, 55, 54, 55, 55, 55, 56, 55, 57, 56, 48, 56, 49, 56, 50, 56, 51, 56, 52, 56, 53, 56, 54, 56, 55, 56, 56, 56, 57, 57, 48, 57, 49, 57, 50, 57, 51, 57, 52, 57, 53, 57, 54, 57, 55, 57, 56, 57, 57])).toArray }) (some t10) (some t13) none) fun t14 =>
 K t14 w)
theorem Tryd.E_internal_strconv_small (t0 : Value) (w : World) (K : Value → World → Prop) : sw ⟨false, false⟩ Tryd.prog (fun _ _ => False) Tryd.A_internal_strconv_small (bodyOf Tryd.f103) [t0, undef, undef, undef, undef, undef, undef, undef, undef, undef, undef, undef, undef, undef, undef] w (topQ false Tryd.prog Tryd.f103 w K) = Tryd.F_internal_strconv_small t0 w K := by kernel_rfl
theorem Tryd.C_internal_strconv_small : chk ⟨false, false⟩ Tryd.prog false Tryd.A_internal_strconv_small (bodyOf Tryd.f103) = true := by kernel_rfl
theorem Tryd.ok_internal_strconv_small {t0 : Value} {w : World} {K : Value → World → Prop} (h : Tryd.F_internal_strconv_small t0 w K) : oCall Tryd.prog Tryd.n_internal_strconv_small #[t0] w K :=
  calls_of_sw (cf := ⟨false, false⟩) Tryd.mixed Tryd.func103 rfl Tryd.C_internal_strconv_small ((Tryd.E_internal_strconv_small t0 w K).mpr h)

/- 104: internal/strconv.numDigits -/
def Tryd.A_internal_strconv_numDigits : Ann := .s (.r (.op 0 .p (.nil))) (.s (.r (.op 0 .p (.op 1 .l (.op 2 .l (.op 3 .p (.nil)))))) (.s (.r (.op 0 .p (.op 1 .p (.op 2 .p (.op 3 .p (.op 4 .q (.op 5 .p (.op 6 .l (.op 7 .p (.op 8 .p (.nil))))))))))) (.n)))
def Tryd.F_internal_strconv_numDigits (t0 : Value) (w : World) (K : Value → World → Prop) : Prop :=
 oCall Tryd.prog Tryd.n_math_bits_Len64 #[t0] w fun t5 w1 =>
 oCall Tryd.prog Tryd.n_internal_strconv_log10Pow2 #[t5] w1 fun t6 w2 =>
 opP Tryd.prog (Instr.indexAt 135 (Value.pointer (some ⟨0, 0, none⟩)) t6) fun t10 =>
 opQ Tryd.prog w2 (Instr.loadAt 123 t10) fun t11 =>
 opP Tryd.prog (bsem .geq 123 false t0 t11) fun t12 =>
 oCall Tryd.prog Tryd.n_internal_strconv_bool2_int #[t12] w2 fun t13 w3 =>
 opP Tryd.prog (bsem .add 3 false t6 t13) fun t14 =>
 K t14 w3
theorem Tryd.E_internal_strconv_numDigits (t0 : Value) (w : World) (K : Value → World → Prop) : sw ⟨false, false⟩ Tryd.prog (fun _ _ => False) Tryd.A_internal_strconv_numDigits (bodyOf Tryd.f104) [t0, undef, undef, undef, undef, undef, undef, undef, undef, undef, undef, undef, undef, undef, undef] w (topQ false Tryd.prog Tryd.f104 w K) = Tryd.F_internal_strconv_numDigits t0 w K := by kernel_rfl
theorem Tryd.C_internal_strconv_numDigits : chk ⟨false, false⟩ Tryd.prog false Tryd.A_internal_strconv_numDigits (bodyOf Tryd.f104) = true := by kernel_rfl
theorem Tryd.ok_internal_strconv_numDigits {t0 : Value} {w : World} {K : Value → World → Prop} (h : Tryd.F_internal_strconv_numDigits t0 w K) : oCall Tryd.prog Tryd.n_internal_strconv_numDigits #[t0] w K :=
  calls_of_sw (cf := ⟨false, false⟩) Tryd.mixed Tryd.func104 rfl Tryd.C_internal_strconv_numDigits ((Tryd.E_internal_strconv_numDigits t0 w K).mpr h)

/- 105: internal/strconv.formatBase10 -/
def Tryd.A_internal_strconv_formatBase10 : Ann := .s (.r (.op 0 .p (.op 1 .p (.op 2 .p (.nil))))) (.s (.b (.lp [1, 4] (.s (.s (.r (.op 0 .p (.op 1 .p (.nil)))) (.c (.n) (.n))) (.b (.s (.r (.op 0 .p (.op 1 .p (.op 2 .p (.op 3 .p (.nil)))))) (.s (.r (.op 0 .p (.op 1 .p (.op 2 .p (.nil))))) (.s (.r (.op 0 .p (.op 1 .p (.op 2 .p (.op 3 .p (.op 4 .p (.op 5 .p (.nil)))))))) (.s (.r (.op 0 .p (.op 1 .p (.op 2 .p (.op 3 .p (.op 4 .p (.op 5 .p (.op 6 .p (.op 7 .p (.nil)))))))))) (.s (.r (.op 0 .p (.op 1 .p (.op 2 .p (.op 3 .p (.op 4 .p (.op 5 .p (.op 6 .p (.op 7 .p (.nil)))))))))) (.s (.r (.op 0 .p (.op 1 .p (.op 2 .p (.op 3 .p (.op 4 .p (.op 5 .p (.op 6 .p (.op 7 .p (.op 8 .p (.op 9 .p (.op 10 .p (.op 11 .p (.op 12 .l (.op 13 .p (.op 14 .l (.nil))))))))))))))))) (.s (.r (.op 0 .p (.op 1 .p (.op 2 .p (.op 3 .p (.op 4 .p (.op 5 .p (.op 6 .p (.op 7 .p (.op 8 .p (.op 9 .p (.op 10 .p (.op 11 .p (.op 12 .l (.op 13 .p (.op 14 .l (.nil))))))))))))))))) (.s (.r (.op 0 .p (.op 1 .p (.op 2 .p (.op 3 .p (.op 4 .p (.op 5 .p (.op 6 .p (.op 7 .p (.op 8 .p (.op 9 .p (.op 10 .p (.op 11 .p (.op 12 .l (.op 13 .p (.op 14 .l (.nil))))))))))))))))) (.s (.r (.op 0 .p (.op 1 .p (.op 2 .p (.op 3 .p (.op 4 .p (.op 5 .p (.op 6 .p (.op 7 .p (.op 8 .p (.op 9 .p (.op 10 .p (.op 11 .p (.op 12 .l (.op 13 .p (.op 14 .l (.nil))))))))))))))))) (.r (.op 0 .p (.op 1 .p (.op 2 .p (.nil)))))))))))))))))) (.s (.r (.op 0 .p (.op 1 .p (.op 2 .p (.nil))))) (.j [4, 12] (.s (.r (.op 0 .p (.op 1 .p (.nil)))) (.c (.s (.r (.op 0 .p (.op 1 .p (.op 2 .p (.nil))))) (.s (.r (.op 0 .p (.op 1 .p (.op 2 .p (.nil))))) (.s (.r (.op 0 .p (.op 1 .p (.op 2 .p (.op 3 .p (.op 4 .p (.op 5 .p (.op 6 .p (.op 7 .p (.nil)))))))))) (.s (.r (.op 0 .p (.op 1 .p (.op 2 .p (.op 3 .p (.op 4 .p (.op 5 .p (.op 6 .p (.op 7 .p (.op 8 .p (.op 9 .p (.op 10 .p (.op 11 .p (.op 12 .l (.op 13 .p (.op 14 .l (.nil))))))))))))))))) (.s (.r (.op 0 .p (.op 1 .p (.op 2 .p (.op 3 .p (.op 4 .p (.op 5 .p (.op 6 .p (.op 7 .p (.op 8 .p (.op 9 .p (.op 10 .p (.op 11 .p (.op 12 .l (.op 13 .p (.op 14 .l (.nil))))))))))))))))) (.r (.op 0 .p (.op 1 .p (.op 2 .p (.nil)))))))))) (.n))) (.j [4, 12] (.s (.r (.op 0 .p (.op 1 .p (.nil)))) (.c (.s (.r (.op 0 .p (.op 1 .p (.op 2 .p (.op 3 .p (.nil)))))) (.s (.r (.op 0 .p (.op 1 .p (.op 2 .p (.nil))))) (.s (.r (.op 0 .p (.op 1 .p (.op 2 .p (.op 3 .p (.op 4 .p (.op 5 .p (.op 6 .p (.op 7 .p (.op 8 .p (.op 9 .p (.op 10 .p (.op 11 .p (.op 12 .l (.op 13 .p (.op 14 .l (.nil))))))))))))))))) (.r (.op 0 .p (.op 1 .p (.op 2 .p (.nil)))))))) (.n))) (.s (.r (.op 0 .p (.op 1 .p (.nil)))) (.c (.r (.op 0 .p (.op 1 .p (.op 2 .p (.op 3 .p (.op 4 .p (.op 5 .l (.nil)))))))) (.n)))))))
def Tryd.F_internal_strconv_formatBase10 (t0 : Value) (t1 : Value) (w : World) (K : Value → World → Prop) : Prop :=
 opP Tryd.prog (Builtin.len_ #[131] 3 #[t0]) fun t18 =>
 sLoop [t1, t18] w (fun s2 _d3 w4 K1 =>
 opP Tryd.prog (bsem .geq 3 true (s2.getD 1 undef) (Value.int .i64 8)) fun t20 =>
 oCond t20 (opP Tryd.prog (bsem .rem 123 true (s2.getD 0 undef) (Value.int .u64 100000000)) fun t22 =>
 opP Tryd.prog (convert 123 136 t22) fun t23 =>
 opP Tryd.prog (bsem .quo 123 true (s2.getD 0 undef) (Value.int .u64 100000000)) fun t25 =>
 opP Tryd.prog (bsem .quo 136 true t23 (Value.int .u32 10000)) fun t27 =>
 opP Tryd.prog (bsem .rem 136 true t23 (Value.int .u32 10000)) fun t29 =>
 opP Tryd.prog (bsem .quo 136 true t29 (Value.int .u32 100)) fun t31 =>
 opP Tryd.prog (bsem .mul 136 true t31 (Value.int .u32 2)) fun t32 =>
 opP Tryd.prog (bsem .rem 136 true t29 (Value.int .u32 100)) fun t34 =>
 opP Tryd.prog (bsem .mul 136 true t34 (Value.int .u32 2)) fun t35 =>
 opP Tryd.prog (bsem .quo 136 true t27 (Value.int .u32 100)) fun t37 =>
 opP Tryd.prog (bsem .mul 136 true t37 (Value.int .u32 2)) fun t38 =>
 opP Tryd.prog (bsem .rem 136 true t27 (Value.int .u32 100)) fun t40 =>
 opP Tryd.prog (bsem .mul 136 true t40 (Value.int .u32 2)) fun t41 =>
 opP Tryd.prog (bsem .sub 3 true (s2.getD 1 undef) (Value.int .i64 1)) fun t44 =>
 opP Tryd.prog (bsem .sub 3 true (s2.getD 1 undef) (Value.int .i64 2)) fun t47 =>
 opP Tryd.prog (bsem .add 136 true t35 (Value.int .u32 1)) fun t49 =>
 opP Tryd.prog (Instr.index 9 (Value.string { data := (([48, 48, 48, 49, 48, 50, 48, 51, 48, 52, 48, 53, 48, 54, 48, 55, 48, 56, 48, 57, 49, 48, 49, 49, 49, 50, 49, 51, 49, 52, 49, 53, 49, 54, 49, 55, 49, 56, 49, 57, 50, 48, 50, 49, 50, 50, 50, 51, 50, 52].append [50, 53, 50, 54, 50, 55, 50, 56, 50, 57, 51, 48, 51, 49, 51, 50, 51, 51, 51, 52, 51, 53, 51, 54, 51, 55, 51, 56, 51, 57, 52, 48, 52, 49, 52, 50, 52, 51, 52, 52, 52, 53, 52, 54, 52, 55, 52, 56, 52, 57]).append ([53, 48, 53, 49, 53, 50, 53, 51, 53, 52, 53, 53, 53, 54, 53, 55, 53, 56, 53, 57, 54, 48, 54, 49, 54, 50, 54, 51, 54, 52, 54, 53, 54, 54, 54, 55, 54, 56, 54, 57, 55, 48, 55, 49, 55, 50, 55, 51, 55, 52].append [55, 53, 55, 54, 55, 55, 55, 56, 55, 57, 56, 48, 56, 49, 56, 50, 56, 51, 56, 52, 56, 53, 56, 54, 56, 55, 56, 56, 56, 57, 57, 48, 57, 49, 57, 50, 57, 51, 57, 52, 57, 53, 57, 54, 57, 55, 57, 56, 57, 57])).toArray }) t49) fun t50 =>
 opP Tryd.prog (Instr.index 9 (Value.string { data := (([48, 48, 48, 49, 48, 50, 48, 51, 48, 52, 48, 53, 48, 54, 48, 55, 48, 56, 48, 57, 49, 48, 49, 49, 49, 50, 49, 51, 49, 52, 49, 53, 49, 54, 49, 55, 49, 56, 49, 57, 50, 48, 50, 49, 50, 50, 50, 51, 50, 52].append [50, 53, 50, 54, 50, 55, 50, 56, 50, 57, 51, 48, 51, 49, 51, 50, 51, 51, 51, 52, 51, 53, 51, 54, 51, 55, 51, 56, 51, 57, 52, 48, 52, 49, 52, 50, 52, 51, 52, 52, 52, 53, 52, 54, 52, 55, 52, 56, 52, 57]).append ([53, 48, 53, 49, 53, 50, 53, 51, 53, 52, 53, 53, 53, 54, 53, 55, 53, 56, 53, 57, 54, 48, 54, 49, 54, 50, 54, 51, 54, 52, 54, 53, 54, 54, 54, 55, 54, 56, 54, 57, 55, 48, 55, 49, 55, 50, 55, 51, 55, 52].append [55, 53, 55, 54, 55, 55, 55, 56, 55, 57, 56, 48, 56, 49, 56, 50, 56, 51, 56, 52, 56, 53, 56, 54, 56, 55, 56, 56, 56, 57, 57, 48, 57, 49, 57, 50, 57, 51, 57, 52, 57, 53, 57, 54, 57, 55, 57, 56, 57, 57])).toArray }) t35) fun t52 =>
 opP Tryd.prog (Instr.indexAt 131 t0 t44) fun t53 =>
 opU Tryd.prog w4.drew (Instr.storeAt 5 t53 t50) fun w5 =>
 opP Tryd.prog (Instr.indexAt 131 t0 t47) fun t54 =>
 opU Tryd.prog w5 (Instr.storeAt 5 t54 t52) fun w6 =>
 opP Tryd.prog (bsem .sub 3 true (s2.getD 1 undef) (Value.int .i64 3)) fun t57 =>
 opP Tryd.prog (bsem .sub 3 true (s2.getD 1 undef) (Value.int .i64 4)) fun t60 =>
 opP Tryd.prog (bsem .add 136 true t32 (Value.int .u32 1)) fun t62 =>
 opP Tryd.prog (Instr.index 9 (Value.string { data := (([48, 48, 48, 49, 48, 50, 48, 51, 48, 52, 48, 53, 48, 54, 48, 55, 48, 56, 48, 57, 49, 48, 49, 49, 49, 50, 49, 51, 49, 52, 49, 53, 49, 54, 49, 55, 49, 56, 49, 57, 50, 48, 50, 49, 50, 50, 50, 51, 50, 52].append [50, 53, 50, 54, 50, 55, 50, 56, 50, 57, 51, 48, 51, 49, 51, 50, 51, 51, 51, 52, 51, 53, 51, 54, 51, 55, 51, 56, 51, 57, 52, 48, 52, 49, 52, 50, 52, 51, 52, 52, 52, 53, 52, 54, 52, 55, 52, 56, 52, 57]).append ([53, 48, 53, 49, 53, 50, 53, 51, 53, 52, 53, 53, 53, 54, 53, 55, 53, 56, 53, 57, 54, 48, 54, 49, 54, 50, 54, 51, 54, 52, 54, 53, 54, 54, 54, 55, 54, 56, 54, 57, 55, 48, 55, 49, 55, 50, 55, 51, 55, 52].append [55, 53, 55, 54, 55, 55, 55, 56, 55, 57, 56, 48, 56, 49, 56, 50, 56, 51, 56, 52, 56, 53, 56, 54, 56, 55, 56, 56, 56, 57, 57, 48, 57, 49, 57, 50, 57, 51, 57, 52, 57, 53, 57, 54, 57, 55, 57, 56, 57, 57])).toArray }) t62) fun t63 =>
 opP Tryd.prog (Instr.index 9 (Value.string { data := (([48, 48, 48, 49, 48, 50, 48, 51, 48, 52, 48, 53, 48, 54, 48, 55, 48, 56, 48, 57, 49, 48, 49, 49, 49, 50, 49, 51, 49, 52, 49, 53, 49, 54, 49, 55, 49, 56, 49, 57, 50, 48, 50, 49, 50, 50, 50, 51, 50, 52].append [50, 53, 50, 54, 50, 55, 50, 56, 50, 57, 51, 48, 51, 49, 51, 50, 51, 51, 51, 52, 51, 53, 51, 54, 51, 55, 51, 56, 51, 57, 52, 48, 52, 49, 52, 50, 52, 51, 52, 52, 52, 53, 52, 54, 52, 55, 52, 56, 52, 57]).append ([53, 48, 53, 49, 53, 50, 53, 51, 53, 52, 53, 53, 53, 54, 53, 55, 53, 56, 53, 57, 54, 48, 54, 49, 54, 50, 54, 51, 54, 52, 54, 53, 54, 54, 54, 55, 54, 56, 54, 57, 55, 48, 55, 49, 55, 50, 55, 51, 55, 52].append [55, 53, 55, 54, 55, 55, 55, 56, 55, 57, 56, 48, 56, 49, 56, 50, 56, 51, 56, 52, 56, 53, 56, 54, 56, 55, 56, 56, 56, 57, 57, 48, 57, 49, 57, 50, 57, 51, 57, 52, 57, 53, 57, 54, 57, 55, 57, 56, 57, 57])).toArray }) t32) fun t65 =>
 opP Tryd.prog (Instr.indexAt 131 t0 t57) fun t66 =>
 opU Tryd.prog w6.drew (Instr.storeAt 5 t66 t63) fun w7 =>
 opP Tryd.prog (Instr.indexAt 131 t0 t60) fun t67 =>
 opU Tryd.prog w7 (Instr.storeAt 5 t67 t65) fun w8 =>
 opP Tryd.prog (bsem .sub 3 true (s2.getD 1 undef) (Value.int .i64 5)) fun t70 =>
 opP Tryd.prog (bsem .sub 3 true (s2.getD 1 undef) (Value.int .i64 6)) fun t73 =>
 opP Tryd.prog (bsem .add 136 true t41 (Value.int .u32 1)) fun t75 =>
 opP Tryd.prog (Instr.index 9 (Value.string { data := (([48, 48, 48, 49, 48, 50, 48, 51, 48, 52, 48, 53, 48, 54, 48, 55, 48, 56, 48, 57, 49, 48, 49, 49, 49, 50, 49, 51, 49, 52, 49, 53, 49, 54, 49, 55, 49, 56, 49, 57, 50, 48, 50, 49, 50, 50, 50, 51, 50, 52].append [50, 53, 50, 54, 50, 55, 50, 56, 50, 57, 51, 48, 51, 49, 51, 50, 51, 51, 51, 52, 51, 53, 51, 54, 51, 55, 51, 56, 51, 57, 52, 48, 52, 49, 52, 50, 52, 51, 52, 52, 52, 53, 52, 54, 52, 55, 52, 56, 52, 57]).append ([53, 48, 53, 49, 53, 50, 53, 51, 53, 52, 53, 53, 53, 54, 53, 55, 53, 56, 53, 57, 54, 48, 54, 49, 54, 50, 54, 51, 54, 52, 54, 53, 54, 54, 54, 55, 54, 56, 54, 57, 55, 48, 55, 49, 55, 50, 55, 51, 55, 52].append [55, 53, 55, 54, 55, 55, 55, 56, 55, 57, 56, 48, 56, 49, 56, 50, 56, 51, 56, 52, 56, 53, 56, 54, 56, 55, 56, 56, 56, 57, 57, 48, 57, 49, 57, 50, 57, 51, 57, 52, 57, 53, 57, 54, 57, 55, 57, 56, 57, 57])).toArray }) t75) fun t76 =>
 opP Tryd.prog (Instr.index 9 (Value.string { data := (([48, 48, 48, 49, 48, 50, 48, 51, 48, 52, 48, 53, 48, 54, 48, 55, 48, 56, 48, 57, 49, 48, 49, 49, 49, 50, 49, 51, 49, 52, 49, 53, 49, 54, 49, 55, 49, 56, 49, 57, 50, 48, 50, 49, 50, 50, 50, 51, 50, 52].append [50, 53, 50, 54, 50, 55, 50, 56, 50, 57, 51, 48, 51, 49, 51, 50, 51, 51, 51, 52, 51, 53, 51, 54, 51, 55, 51, 56, 51, 57, 52, 48, 52, 49, 52, 50, 52, 51, 52, 52, 52, 53, 52, 54, 52, 55, 52, 56, 52, 57]).append ([53, 48, 53, 49, 53, 50, 53, 51, 53, 52, 53, 53, 53, 54, 53, 55, 53, 56, 53, 57, 54, 48, 54, 49, 54, 50, 54, 51, 54, 52, 54, 53, 54, 54, 54, 55, 54, 56, 54, 57, 55, 48, 55, 49, 55, 50, 55, 51, 55, 52].append [55, 53, 55, 54, 55, 55, 55, 56, 55, 57, 56, 48, 56, 49, 56, 50, 56, 51, 56, 52, 56, 53, 56, 54, 56, 55, 56, 56, 56, 57, 57, 48, 57, 49, 57, 50, 57, 51, 57, 52, 57, 53, 57, 54, 57, 55, 57, 56, 57, 57])).toArray }) t41) fun t78 =>
 opP Tryd.prog (Instr.indexAt 131 t0 t70) fun t79 =>
 opU Tryd.prog w8.drew (Instr.storeAt 5 t79 t76) fun w9 =>
 opP Tryd.prog (Instr.indexAt 131 t0 t73) fun t80 =>
 opU Tryd.prog w9 (Instr.storeAt 5 t80 t78) fun w10 =>
 opP Tryd.prog (bsem .sub 3 true (s2.getD 1 undef) (Value.int .i64 7)) fun t83 =>
 opP Tryd.prog (bsem .sub 3 true (s2.getD 1 undef) (Value.int .i64 8)) fun t86 =>
 opP Tryd.prog (bsem .add 136 true t38 (Value.int .u32 1)) fun t88 =>
 opP Tryd.prog (Instr.index 9 (Value.string { data := (([48, 48, 48, 49, 48, 50, 48, 51, 48, 52, 48, 53, 48, 54, 48, 55, 48, 56, 48, 57, 49, 48, 49, 49, 49, 50, 49, 51, 49, 52, 49, 53, 49, 54, 49, 55, 49, 56, 49, 57, 50, 48, 50, 49, 50, 50, 50, 51, 50, 52].append [50, 53, 50, 54, 50, 55, 50, 56, 50, 57, 51, 48, 51, 49, 51, 50, 51, 51, 51, 52, 51, 53, 51, 54, 51, 55, 51, 56, 51, 57, 52, 48, 52, 49, 52, 50, 52, 51, 52, 52, 52, 53, 52, 54, 52, 55, 52, 56, 52, 57]).append ([53, 48, 53, 49, 53, 50, 53, 51, 53, 52, 53, 53, 53, 54, 53, 55, 53, 56, 53, 57, 54, 48, 54, 49, 54, 50, 54, 51, 54, 52, 54, 53, 54, 54, 54, 55, 54, 56, 54, 57, 55, 48, 55, 49, 55, 50, 55, 51, 55, 52].append [55, 53, 55, 54, 55, 55, 55, 56, 55, 57, 56, 48, 56, 49, 56, 50, 56, 51, 56, 52, 56, 53, 56, 54, 56, 55, 56, 56, 56, 57, 57, 48, 57, 49, 57, 50, 57, 51, 57, 52, 57, 53, 57, 54, 57, 55, 57, 56, 57, 57])).toArray }) t88) fun t89 =>
 opP Tryd.prog (Instr.index 9 (Value.string { data := (([48, 48, 48, 49, 48, 50, 48, 51, 48, 52, 48, 53, 48, 54, 48, 55, 48, 56, 48, 57, 49, 48, 49, 49, 49, 50, 49, 51, 49, 52, 49, 53, 49, 54, 49, 55, 49, 56, 49, 57, 50, 48, 50, 49, 50, 50, 50, 51, 50, 52].append [50, 53, 50, 54, 50, 55, 50, 56, 50, 57, 51, 48, 51, 49, 51, 50, 51, 51, 51, 52, 51, 53, 51, 54, 51, 55, 51, 56, 51, 57, 52, 48, 52, 49, 52, 50, 52, 51, 52, 52, 52, 53, 52, 54, 52, 55, 52, 56, 52, 57]).append ([53, 48, 53, 49, 53, 50, 53, 51, 53, 52, 53, 53, 53, 54, 53, 55, 53, 56, 53, 57, 54, 48, 54, 49, 54, 50, 54, 51, 54, 52, 54, 53, 54, 54, 54, 55, 54, 56, 54, 57, 55, 48, 55, 49, 55, 50, 55, 51, 55, 52].append [55, 53, 55, 54, 55, 55, 55, 56, 55, 57, 56, 48, 56, 49, 56, 50, 56, 51, 56, 52, 56, 53, 56, 54, 56, 55, 56, 56, 56, 57, 57, 48, 57, 49, 57, 50, 57, 51, 57, 52, 57, 53, 57, 54, 57, 55, 57, 56, 57, 57])).toArray }) t38) fun t91 =>
 opP Tryd.prog (Instr.indexAt 131 t0 t83) fun t92 =>
 opU Tryd.prog w10.drew (Instr.storeAt 5 t92 t89) fun w11 =>
 opP Tryd.prog (Instr.indexAt 131 t0 t86) fun t93 =>
 opU Tryd.prog w11 (Instr.storeAt 5 t93 t91) fun w12 =>
 opP Tryd.prog (bsem .sub 3 true (s2.getD 1 undef) (Value.int .i64 8)) fun t95 =>
 K1 [t25, t95] w12) (opP Tryd.prog (convert 123 136 (s2.getD 0 undef)) fun t97 =>
 sJoin (fun K13 =>
 opP Tryd.prog (bsem .geq 3 true (s2.getD 1 undef) (Value.int .i64 4)) fun t99 =>
 oCond t99 (opP Tryd.prog (bsem .rem 136 true t97 (Value.int .u32 10000)) fun t101 =>
 opP Tryd.prog (bsem .quo 136 true t97 (Value.int .u32 10000)) fun t103 =>
 opP Tryd.prog (bsem .quo 136 true t101 (Value.int .u32 100)) fun t105 =>
 opP Tryd.prog (bsem .mul 136 true t105 (Value.int .u32 2)) fun t106 =>
 opP Tryd.prog (bsem .rem 136 true t101 (Value.int .u32 100)) fun t108 =>
 opP Tryd.prog (bsem .mul 136 true t108 (Value.int .u32 2)) fun t109 =>
 opP Tryd.prog (bsem .sub 3 true (s2.getD 1 undef) (Value.int .i64 1)) fun t112 =>
 opP Tryd.prog (bsem .sub 3 true (s2.getD 1 undef) (Value.int .i64 2)) fun t115 =>
 opP Tryd.prog (bsem .add 136 true t109 (Value.int .u32 1)) fun t117 =>
 opP Tryd.prog (Instr.index 9 (Value.string { data := (([48, 48, 48, 49, 48, 50, 48, 51, 48, 52, 48, 53, 48, 54, 48, 55, 48, 56, 48, 57, 49, 48, 49, 49, 49, 50, 49, 51, 49, 52, 49, 53, 49, 54, 49, 55, 49, 56, 49, 57, 50, 48, 50, 49, 50, 50, 50, 51, 50, 52].append [50, 53, 50, 54, 50, 55, 50, 56, 50, 57, 51, 48, 51, 49, 51, 50, 51, 51, 51, 52, 51, 53, 51, 54, 51, 55, 51, 56, 51, 57, 52, 48, 52, 49, 52, 50, 52, 51, 52, 52, 52, 53, 52, 54, 52, 55, 52, 56, 52, 57]).append ([53, 48, 53, 49, 53, 50, 53, 51, 53, 52, 53, 53, 53, 54, 53, 55, 53, 56, 53, 57, 54, 48, 54, 49, 54, 50, 54, 51, 54, 52, 54, 53, 54, 54, 54, 55, 54, 56, 54, 57, 55, 48, 55, 49, 55, 50, 55, 51, 55, 52].append [55, 53, 55, 54, 55, 55, 55, 56, 55, 57, 56, 48, 56, 49, 56, 50, 56, 51, 56, 52, 56, 53, 56, 54, 56, 55, 56, 56, 56, 57, 57, 48, 57, 49, 57, 50, 57, 51, 57, 52, 57, 53, 57, 54, 57, 55, 57, 56, 57, 57])).toArray }) t117) fun t118 =>
 opP Tryd.prog (Instr.index 9 (Value.string { data := (([48, 48, 48, 49, 48, 50, 48, 51, 48, 52, 48, 53, 48, 54, 48, 55, 48, 56, 48, 57, 49, 48, 49, 49, 49, 50, 49, 51, 49, 52, 49, 53, 49, 54, 49, 55, 49, 56, 49, 57, 50, 48, 50, 49, 50, 50, 50, 51, 50, 52].append [50, 53, 50, 54, 50, 55, 50, 56, 50, 57, 51, 48, 51, 49, 51, 50, 51, 51, 51, 52, 51, 53, 51, 54, 51, 55, 51, 56, 51, 57, 52, 48, 52, 49, 52, 50, 52, 51, 52, 52, 52, 53, 52, 54, 52, 55, 52, 56, 52, 57]).append ([53, 48, 53, 49, 53, 50, 53, 51, 53, 52, 53, 53, 53, 54, 53, 55, 53, 56, 53, 57, 54, 48, 54, 49, 54, 50, 54, 51, 54, 52, 54, 53, 54, 54, 54, 55, 54, 56, 54, 57, 55, 48, 55, 49, 55, 50, 55, 51, 55, 52].append [55, 53, 55, 54, 55, 55, 55, 56, 55, 57, 56, 48, 56, 49, 56, 50, 56, 51, 56, 52, 56, 53, 56, 54, 56, 55, 56, 56, 56, 57, 57, 48, 57, 49, 57, 50, 57, 51, 57, 52, 57, 53, 57, 54, 57, 55, 57, 56, 57, 57])).toArray }) t109) fun t120 =>
 opP Tryd.prog (Instr.indexAt 131 t0 t112) fun t121 =>
 opU Tryd.prog w4.drew (Instr.storeAt 5 t121 t118) fun w17 =>
 opP Tryd.prog (Instr.indexAt 131 t0 t115) fun t122 =>
 opU Tryd.prog w17 (Instr.storeAt 5 t122 t120) fun w18 =>
 opP Tryd.prog (bsem .sub 3 true (s2.getD 1 undef) (Value.int .i64 3)) fun t125 =>
 opP Tryd.prog (bsem .sub 3 true (s2.getD 1 undef) (Value.int .i64 4)) fun t128 =>
 opP Tryd.prog (bsem .add 136 true t106 (Value.int .u32 1)) fun t130 =>
 opP Tryd.prog (Instr.index 9 (Value.string { data := (([48, 48, 48, 49, 48, 50, 48, 51, 48, 52, 48, 53, 48, 54, 48, 55, 48, 56, 48, 57, 49, 48, 49, 49, 49, 50, 49, 51, 49, 52, 49, 53, 49, 54, 49, 55, 49, 56, 49, 57, 50, 48, 50, 49, 50, 50, 50, 51, 50, 52].append [50, 53, 50, 54, 50, 55, 50, 56, 50, 57, 51, 48, 51, 49, 51, 50, 51, 51, 51, 52, 51, 53, 51, 54, 51, 55, 51, 56, 51, 57, 52, 48, 52, 49, 52, 50, 52, 51, 52, 52, 52, 53, 52, 54, 52, 55, 52, 56, 52, 57]).append ([53, 48, 53, 49, 53, 50, 53, 51, 53, 52, 53, 53, 53, 54, 53, 55, 53, 56, 53, 57, 54, 48, 54, 49, 54, 50, 54, 51, 54, 52, 54, 53, 54, 54, 54, 55, 54, 56, 54, 57, 55, 48, 55, 49, 55, 50, 55, 51, 55, 52].append [55, 53, 55, 54, 55, 55, 55, 56, 55, 57, 56, 48, 56, 49, 56, 50, 56, 51, 56, 52, 56, 53, 56, 54, 56, 55, 56, 56, 56, 57, 57, 48, 57, 49, 57, 50, 57, 51, 57, 52, 57, 53, 57, 54, 57, 55, 57, 56, 57, 57])).toArray }) t130) fun t131 =>
 opP Tryd.prog (Instr.index 9 (Value.string { data := (([48, 48, 48, 49, 48, 50, 48, 51, 48, 52, 48, 53, 48, 54, 48, 55, 48, 56, 48, 57, 49, 48, 49, 49, 49, 50, 49, 51, 49, 52, 49, 53, 49, 54, 49, 55, 49, 56, 49, 57, 50, 48, 50, 49, 50, 50, 50, 51, 50, 52].append [50, 53, 50, 54, 50, 55, 50, 56, 50, 57, 51, 48, 51, 49, 51, 50, 51, 51, 51, 52, 51, 53, 51, 54, 51, 55, 51, 56, 51, 57, 52, 48, 52, 49, 52, 50, 52, 51, 52, 52, 52, 53, 52, 54, 52, 55, 52, 56, 52, 57]).append ([53, 48, 53, 49, 53, 50, 53, 51, 53, 52, 53, 53, 53, 54, 53, 55, 53, 56, 53, 57, 54, 48, 54, 49, 54, 50, 54, 51, 54, 52, 54, 53, 54, 54, 54, 55, 54, 56, 54, 57, 55, 48, 55, 49, 55, 50, 55, 51, 55, 52].append [55, 53, 55, 54, 55, 55, 55, 56, 55, 57, 56, 48, 56, 49, 56, 50, 56, 51, 56, 52, 56, 53, 56, 54, 56, 55, 56, 56, 56, 57, 57, 48, 57, 49, 57, 50, 57, 51, 57, 52, 57, 53, 57, 54, 57, 55, 57, 56, 57, 57])).toArray }) t106) fun t133 =>
 opP Tryd.prog (Instr.indexAt 131 t0 t125) fun t134 =>
 opU Tryd.prog w18.drew (Instr.storeAt 5 t134 t131) fun w19 =>
 opP Tryd.prog (Instr.indexAt 131 t0 t128) fun t135 =>
 opU Tryd.prog w19 (Instr.storeAt 5 t135 t133) fun w20 =>
 opP Tryd.prog (bsem .sub 3 true (s2.getD 1 undef) (Value.int .i64 4)) fun t137 =>
 K13 [t137, t103] w20) (K13 [(s2.getD 1 undef), t97] w4)) (fun s14 _d15 w16 =>
 sJoin (fun K21 =>
 opP Tryd.prog (bsem .geq 3 true (s14.getD 0 undef) (Value.int .i64 2)) fun t139 =>
 oCond t139 (opP Tryd.prog (bsem .rem 136 true (s14.getD 1 undef) (Value.int .u32 100)) fun t141 =>
 opP Tryd.prog (bsem .mul 136 true t141 (Value.int .u32 2)) fun t142 =>
 opP Tryd.prog (bsem .quo 136 true (s14.getD 1 undef) (Value.int .u32 100)) fun t144 =>
 opP Tryd.prog (bsem .sub 3 true (s14.getD 0 undef) (Value.int .i64 1)) fun t147 =>
 opP Tryd.prog (bsem .sub 3 true (s14.getD 0 undef) (Value.int .i64 2)) fun t150 =>
 opP Tryd.prog (bsem .add 136 true t142 (Value.int .u32 1)) fun t152 =>
 opP Tryd.prog (Instr.index 9 (Value.string { data := (([48, 48, 48, 49, 48, 50, 48, 51, 48, 52, 48, 53, 48, 54, 48, 55, 48, 56, 48, 57, 49, 48, 49, 49, 49, 50, 49, 51, 49, 52, 49, 53, 49, 54, 49, 55, 49, 56, 49, 57, 50, 48, 50, 49, 50, 50, 50, 51, 50, 52].append [50, 53, 50, 54, 50, 55, 50, 56, 50, 57, 51, 48, 51, 49, 51, 50, 51, 51, 51, 52, 51, 53, 51, 54, 51, 55, 51, 56, 51, 57, 52, 48, 52, 49, 52, 50, 52, 51, 52, 52, 52, 53, 52, 54, 52, 55, 52, 56, 52, 57]).append ([53, 48, 53, 49, 53, 50, 53, 51, 53, 52, 53, 53, 53, 54, 53, 55, 53, 56, 53, 57, 54, 48, 54, 49, 54, 50, 54, 51, 54, 52, 54, 53, 54, 54, 54, 55, 54, 56, 54, 57, 55, 48, 55, 49, 55, 50, 55, 51, 55, 52].append [55, 53, 55, 54, 55, 55, 55, 56, 55, 57, 56, 48, 56, 49, 56, 50, 56, 51, 56, 52, 56, 53, 56, 54, 56, 55, 56, 56, 56, 57, 57, 48, 57, 49, 57, 50, 57, 51, 57, 52, 57, 53, 57, 54, 57, 55, 57, 56, 57, 57])).toArray }) t152) fun t153 =>
 opP Tryd.prog (Instr.index 9 (Value.string { data := (([48, 48, 48, 49, 48, 50, 48, 51, 48, 52, 48, 53, 48, 54, 48, 55, 48, 56, 48, 57, 49, 48, 49, 49, 49, 50, 49, 51, 49, 52, 49, 53, 49, 54, 49, 55, 49, 56, 49, 57, 50, 48, 50, 49, 50, 50, 50, 51, 50, 52].append [50, 53, 50, 54, 50, 55, 50, 56, 50, 57, 51, 48, 51, 49, 51, 50, 51, 51, 51, 52, 51, 53, 51, 54, 51, 55, 51, 56, 51, 57, 52, 48, 52, 49, 52, 50, 52, 51, 52, 52, 52, 53, 52, 54, 52, 55, 52, 56, 52, 57]).append ([53, 48, 53, 49, 53, 50, 53, 51, 53, 52, 53, 53, 53, 54, 53, 55, 53, 56, 53, 57, 54, 48, 54, 49, 54, 50, 54, 51, 54, 52, 54, 53, 54, 54, 54, 55, 54, 56, 54, 57, 55, 48, 55, 49, 55, 50, 55, 51, 55, 52].append [55, 53, 55, 54, 55, 55, 55, 56, 55, 57, 56, 48, 56, 49, 56, 50, 56, 51, 56, 52, 56, 53, 56, 54, 56, 55, 56, 56, 56, 57, 57, 48, 57, 49, 57, 50, 57, 51, 57, 52, 57, 53, 57, 54, 57, 55, 57, 56, 57, 57])).toArray }) t142) fun t155 =>
 opP Tryd.prog (Instr.indexAt 131 t0 t147) fun t156 =>
 opU Tryd.prog w16.drew (Instr.storeAt 5 t156 t153) fun w25 =>
 opP Tryd.prog (Instr.indexAt 131 t0 t150) fun t157 =>
 opU Tryd.prog w25 (Instr.storeAt 5 t157 t155) fun w26 =>
 opP Tryd.prog (bsem .sub 3 true (s14.getD 0 undef) (Value.int .i64 2)) fun t159 =>
 K21 [t159, t144] w26) (K21 [(s14.getD 0 undef), (s14.getD 1 undef)] w16)) (fun s22 _d23 w24 =>
 opP Tryd.prog (bsem .gtr 3 true (s22.getD 0 undef) (Value.int .i64 0)) fun t161 =>
 oCond t161 (opP Tryd.prog (bsem .add 136 true (Value.int .u32 48) (s22.getD 1 undef)) fun t164 =>
 opP Tryd.prog (convert 136 5 t164) fun t165 =>
 opP Tryd.prog (Instr.indexAt 131 t0 (Value.int .i64 0)) fun t166 =>
 opU Tryd.prog w24 (Instr.storeAt 5 t166 t165) fun w27 =>
 K (.tuple #[]) w27) (K (.tuple #[]) w24)))))
theorem Tryd.E_internal_strconv_formatBase10 (t0 t1 : Value) (w : World) (K : Value → World → Prop) : sw ⟨false, false⟩ Tryd.prog (fun _ _ => False) Tryd.A_internal_strconv_formatBase10 (bodyOf Tryd.f105) [t0, t1, undef, undef, undef, undef, undef, undef, undef, undef, undef, undef, undef, undef, undef, undef, undef, undef, undef, undef, undef, undef, undef, undef, undef, undef, undef, undef, undef, undef, undef, undef, undef, undef, undef, undef, undef, undef, undef, undef, undef, undef, undef, undef, undef, undef, undef, undef, undef, undef, undef, undef, undef, undef, undef, undef, undef, undef, undef, undef, undef, undef, undef, undef, undef, undef, undef, undef, undef, undef, undef, undef, undef, undef, undef, undef, undef, undef, undef, undef, undef, undef, undef, undef, undef, undef, undef, undef, undef, undef, undef, undef, undef, undef, undef, undef, undef, undef, undef, undef, undef, undef, undef, undef, undef, undef, undef, undef, undef, undef, undef, undef, undef, undef, undef, undef, undef, undef, undef, undef, undef, undef, undef, undef, undef, undef, undef, undef, undef, undef, undef, undef, undef, undef, undef, undef, undef, undef, undef, undef, undef, undef, undef, undef, undef, undef, undef, undef, undef, undef, undef, undef, undef, undef, undef, undef, undef, undef, undef, undef, undef, undef, undef, undef, undef, undef, undef] w (topQ false Tryd.prog Tryd.f105 w K) = Tryd.F_internal_strconv_formatBase10 t0 t1 w K := by kernel_rfl
theorem Tryd.C_internal_strconv_formatBase10 : chk ⟨false, false⟩ Tryd.prog false Tryd.A_internal_strconv_formatBase10 (bodyOf Tryd.f105) = true := by kernel_rfl
theorem Tryd.ok_internal_strconv_formatBase10 {t0 t1 : Value} {w : World} {K : Value → World → Prop} (h : Tryd.F_internal_strconv_formatBase10 t0 t1 w K) : oCall Tryd.prog Tryd.n_internal_strconv_formatBase10 #[t0, t1] w K :=
  calls_of_sw (cf := ⟨false, false⟩) Tryd.mixed Tryd.func105 rfl Tryd.C_internal_strconv_formatBase10 ((Tryd.E_internal_strconv_formatBase10 t0 t1 w K).mpr h)

/- 106: internal/strconv.formatBits -/
def Tryd.A_internal_strconv_formatBits : Ann := .s (.r (.op 0 .p (.op 1 .p (.nil)))) (.j [] (.s (.r (.op 0 .p (.op 1 .p (.op 2 .p (.grp 21 false [(3, .p), (4, .p)] [23] (.op 5 .p (.op 6 .p (.grp 25 false [(7, .p), (8, .p)] [27] (.op 9 .p (.nil)))))))))) (.c (.r (.op 0 .p (.op 1 .l (.nil)))) (.n))) (.s (.r (.op 0 .l (.nil))) (.s (.r (.op 0 .p (.nil))) (.j [1] (.s (.r (.op 0 .p (.nil))) (.c (.r (.op 0 .p (.op 1 .p (.op 2 .p (.nil))))) (.n))) (.j [13] (.s (.r (.op 0 .p (.op 1 .l (.nil)))) (.c (.s (.r (.op 0 .p (.op 1 .p (.op 2 .l (.op 3 .p (.op 4 .p (.nil))))))) (.s (.r (.op 0 .p (.op 1 .p (.op 2 .p (.nil))))) (.s (.r (.op 0 .p (.op 1 .p (.op 2 .p (.op 3 .p (.nil)))))) (.s (.b (.lp [1, 13] (.s (.s (.r (.op 0 .p (.op 1 .p (.op 2 .p (.nil))))) (.c (.n) (.n))) (.b (.s (.r (.op 0 .p (.op 1 .p (.op 2 .p (.nil))))) (.s (.r (.op 0 .p (.op 1 .p (.op 2 .p (.op 3 .p (.op 4 .p (.op 5 .p (.op 6 .l (.nil))))))))) (.r (.op 0 .p (.op 1 .p (.op 2 .p (.op 3 .p (.nil)))))))))))) (.s (.r (.op 0 .p (.op 1 .p (.op 2 .p (.nil))))) (.r (.op 0 .p (.op 1 .p (.op 2 .p (.op 3 .p (.op 4 .l (.nil)))))))))))) (.s (.r (.op 0 .p (.op 1 .p (.op 2 .p (.nil))))) (.s (.b (.lp [1, 13] (.s (.s (.r (.op 0 .p (.op 1 .p (.op 2 .p (.nil))))) (.c (.n) (.n))) (.b (.s (.r (.op 0 .p (.op 1 .p (.op 2 .p (.nil))))) (.s (.r (.op 0 .p (.op 1 .p (.op 2 .p (.op 3 .p (.nil)))))) (.s (.r (.op 0 .p (.op 1 .p (.op 2 .p (.op 3 .p (.op 4 .p (.op 5 .p (.op 6 .p (.op 7 .p (.op 8 .l (.nil))))))))))) (.r (.op 0 .p (.op 1 .p (.nil))))))))))) (.s (.r (.op 0 .p (.op 1 .p (.op 2 .p (.nil))))) (.r (.op 0 .p (.op 1 .p (.op 2 .p (.op 3 .p (.op 4 .l (.nil)))))))))))) (.j [13] (.s (.r (.op 0 .p (.nil))) (.c (.s (.r (.op 0 .p (.op 1 .p (.op 2 .p (.nil))))) (.r (.op 0 .p (.op 1 .p (.op 2 .l (.nil)))))) (.n))) (.s (.s (.r (.op 0 .p (.nil))) (.c (.s (.r (.op 0 .p (.op 1 .p (.op 2 .p (.op 3 .l (.op 4 .p (.nil))))))) (.n)) (.n))) (.s (.r (.op 0 .p (.op 1 .p (.op 2 .q (.op 3 .p (.nil)))))) (.n)))))))))
def Tryd.F_internal_strconv_formatBits (t0 : Value) (t1 : Value) (t2 : Value) (t3 : Value) (t4 : Value) (w : World) (K : Value → World → Prop) : Prop :=
 sJoin (fun K1 =>
 opP Tryd.prog (bsem .lss 3 true t2 (Value.int .i64 2)) fun t20 =>
 sJoin (fun K5 => gIf t20 false (opP Tryd.prog (bsem .eql 3 true t2 (Value.int .i64 10)) fun t23 =>
 K5 [t23] w) (K5 [undef] w)) (fun s6 _d7 w8 =>
 oPick t20 (Value.bool true) (s6.getD 0 undef) fun t24 =>
 sJoin (fun K9 => gIf t24 false (opP Tryd.prog (bsem .gtr 3 true t2 (Value.int .i64 36)) fun t27 =>
 K9 [t27] w8) (K9 [undef] w8)) (fun s10 _d11 w12 =>
 oPick t24 (Value.bool true) (s10.getD 0 undef) fun t28 =>
 oCond t28 (opP Tryd.prog (Instr.makeInterface 9 (Value.string { data := #[115, 116, 114, 99, 111, 110, 118, 58, 32, 105, 108, 108, 101, 103, 97, 108, 32, 65, 112, 112, 101, 110, 100, 73, 110, 116, 47, 70, 111, 114, 109, 97, 116, 73, 110, 116, 32, 98, 97, 115, 101] })) fun _t29 =>
 False) (K1 [] w12)))) (fun _s2 _d3 w4 =>
 opW Tryd.prog w4 (Instr.alloc 137 true (.tuple #[])) fun t12 w14 =>
 sJoin (fun K15 =>
 oCond t3 (opP Tryd.prog (Op.unary .neg t1) fun t32 =>
 K15 [t32] w14) (K15 [t1] w14)) (fun s16 _d17 w18 =>
 sJoin (fun K19 =>
 oCall Tryd.prog Tryd.n_internal_strconv_isPowerOfTwo #[t2] w18 fun t34 w23 =>
 oCond t34 (opP Tryd.prog (convert 3 138 t2) fun t36 =>
 oCall Tryd.prog Tryd.n_math_bits_TrailingZeros #[t36] w23 fun t37 w24 =>
 opP Tryd.prog (convert 3 138 t37) fun t38 =>
 opP Tryd.prog (convert 3 123 t2) fun t40 =>
 opP Tryd.prog (convert 3 138 t2) fun t42 =>
 opP Tryd.prog (bsem .sub 138 true t42 (Value.int .u64 1)) fun t43 =>
 sLoop [(s16.getD 0 undef), (Value.int .i64 65)] w24 (fun s26 _d27 w28 K25 =>
 opP Tryd.prog (bsem .geq 123 false (s26.getD 0 undef) t40) fun t46 =>
 oCond t46 (opP Tryd.prog (bsem .sub 3 true (s26.getD 1 undef) (Value.int .i64 1)) fun t48 =>
 opP Tryd.prog (bsem .and 138 false (s26.getD 0 undef) t43) fun t52 =>
 opP Tryd.prog (Instr.index 9 (Value.string { data := #[48, 49, 50, 51, 52, 53, 54, 55, 56, 57, 97, 98, 99, 100, 101, 102, 103, 104, 105, 106, 107, 108, 109, 110, 111, 112, 113, 114, 115, 116, 117, 118, 119, 120, 121, 122] }) t52) fun t53 =>
 opP Tryd.prog (Instr.indexAt 137 t12 t48) fun t54 =>
 opU Tryd.prog w28 (Instr.storeAt 5 t54 t53) fun w29 =>
 opP Tryd.prog (bsem .shr 123 false (s26.getD 0 undef) t38) fun t57 =>
 K25 [t57, t48] w29) (opP Tryd.prog (bsem .sub 3 true (s26.getD 1 undef) (Value.int .i64 1)) fun t59 =>
 opP Tryd.prog (Instr.index 9 (Value.string { data := #[48, 49, 50, 51, 52, 53, 54, 55, 56, 57, 97, 98, 99, 100, 101, 102, 103, 104, 105, 106, 107, 108, 109, 110, 111, 112, 113, 114, 115, 116, 117, 118, 119, 120, 121, 122] }) (s26.getD 0 undef)) fun t62 =>
 opP Tryd.prog (Instr.indexAt 137 t12 t59) fun t63 =>
 opU Tryd.prog w28 (Instr.storeAt 5 t63 t62) fun w30 =>
 K19 [t59] w30))) (opP Tryd.prog (convert 3 123 t2) fun t65 =>
 sLoop [(s16.getD 0 undef), (Value.int .i64 65)] w23 (fun s32 _d33 w34 K31 =>
 opP Tryd.prog (bsem .geq 123 false (s32.getD 0 undef) t65) fun t68 =>
 oCond t68 (opP Tryd.prog (bsem .sub 3 true (s32.getD 1 undef) (Value.int .i64 1)) fun t70 =>
 opP Tryd.prog (bsem .quo 123 false (s32.getD 0 undef) t65) fun t73 =>
 opP Tryd.prog (bsem .mul 123 false t73 t65) fun t78 =>
 opP Tryd.prog (bsem .sub 123 false (s32.getD 0 undef) t78) fun t79 =>
 opP Tryd.prog (Instr.index 9 (Value.string { data := #[48, 49, 50, 51, 52, 53, 54, 55, 56, 57, 97, 98, 99, 100, 101, 102, 103, 104, 105, 106, 107, 108, 109, 110, 111, 112, 113, 114, 115, 116, 117, 118, 119, 120, 121, 122] }) t79) fun t80 =>
 opP Tryd.prog (Instr.indexAt 137 t12 t70) fun t81 =>
 opU Tryd.prog w34 (Instr.storeAt 5 t81 t80) fun w35 =>
 K31 [t73, t70] w35) (opP Tryd.prog (bsem .sub 3 true (s32.getD 1 undef) (Value.int .i64 1)) fun t84 =>
 opP Tryd.prog (Instr.index 9 (Value.string { data := #[48, 49, 50, 51, 52, 53, 54, 55, 56, 57, 97, 98, 99, 100, 101, 102, 103, 104, 105, 106, 107, 108, 109, 110, 111, 112, 113, 114, 115, 116, 117, 118, 119, 120, 121, 122] }) (s32.getD 0 undef)) fun t87 =>
 opP Tryd.prog (Instr.indexAt 137 t12 t84) fun t88 =>
 opU Tryd.prog w34 (Instr.storeAt 5 t88 t87) fun w36 =>
 K19 [t84] w36)))) (fun s20 _d21 w22 =>
 sJoin (fun K37 =>
 oCond t3 (opP Tryd.prog (bsem .sub 3 true (s20.getD 0 undef) (Value.int .i64 1)) fun t91 =>
 opP Tryd.prog (Instr.indexAt 137 t12 t91) fun t93 =>
 opU Tryd.prog w22 (Instr.storeAt 5 t93 (Value.int .u8 45)) fun w41 =>
 K37 [t91] w41) (K37 [(s20.getD 0 undef)] w22)) (fun s38 _d39 w40 =>
 oCond t4 (opP Tryd.prog (Instr.sliceAt 137 t12 (some (s38.getD 0 undef)) none none) fun t97 =>
 opW Tryd.prog w40 (Builtin.append_ #[131, 131] 131 #[t0, t97]) fun t98 w42 =>
 K (.tuple #[t98, (Value.string { data := #[] })]) w42) (opP Tryd.prog (Instr.sliceAt 137 t12 (some (s38.getD 0 undef)) none none) fun t100 =>
 opQ Tryd.prog w40 (convert 131 9 t100) fun t101 =>
 K (.tuple #[(Value.slice Option.none 0 0), t101]) w40)))))
theorem Tryd.E_internal_strconv_formatBits (t0 t1 t2 t3 t4 : Value) (w : World) (K : Value → World → Prop) : sw ⟨false, false⟩ Tryd.prog (fun _ _ => False) Tryd.A_internal_strconv_formatBits (bodyOf Tryd.f106) [t0, t1, t2, t3, t4, undef, undef, undef, undef, undef, undef, undef, undef, undef, undef, undef, undef, undef, undef, undef, undef, undef, undef, undef, undef, undef, undef, undef, undef, undef, undef, undef, undef, undef, undef, undef, undef, undef, undef, undef, undef, undef, undef, undef, undef, undef, undef, undef, undef, undef, undef, undef, undef, undef, undef, undef, undef, undef, undef, undef, undef, undef, undef, undef, undef, undef, undef, undef, undef, undef, undef, undef, undef, undef, undef, undef, undef, undef, undef, undef, undef, undef, undef, undef, undef, undef, undef, undef, undef, undef, undef, undef, undef, undef, undef, undef, undef, undef, undef, undef, undef, undef] w (topQ false Tryd.prog Tryd.f106 w K) = Tryd.F_internal_strconv_formatBits t0 t1 t2 t3 t4 w K := by kernel_rfl
theorem Tryd.C_internal_strconv_formatBits : chk ⟨false, false⟩ Tryd.prog false Tryd.A_internal_strconv_formatBits (bodyOf Tryd.f106) = true := by kernel_rfl
theorem Tryd.ok_internal_strconv_formatBits {t0 t1 t2 t3 t4 : Value} {w : World} {K : Value → World → Prop} (h : Tryd.F_internal_strconv_formatBits t0 t1 t2 t3 t4 w K) : oCall Tryd.prog Tryd.n_internal_strconv_formatBits #[t0, t1, t2, t3, t4] w K :=
  calls_of_sw (cf := ⟨false, false⟩) Tryd.mixed Tryd.func106 rfl Tryd.C_internal_strconv_formatBits ((Tryd.E_internal_strconv_formatBits t0 t1 t2 t3 t4 w K).mpr h)

/- 107: internal/strconv.log10Pow2 -/
def Tryd.A_internal_strconv_log10Pow2 : Ann := .s (.r (.op 0 .p (.nil))) (.s (.r (.op 0 .p (.op 1 .p (.op 2 .p (.op 3 .p (.nil)))))) (.n))
def Tryd.F_internal_strconv_log10Pow2 (t0 : Value) (w : World) (K : Value → World → Prop) : Prop :=
 opP Tryd.prog (bsem .mul 3 true t0 (Value.int .i64 78913)) fun t4 =>
 opP Tryd.prog (bsem .shr 3 true t4 (Value.int .u64 18)) fun t5 =>
 K t5 w
theorem Tryd.E_internal_strconv_log10Pow2 (t0 : Value) (w : World) (K : Value → World → Prop) : sw ⟨false, false⟩ Tryd.prog (fun _ _ => False) Tryd.A_internal_strconv_log10Pow2 (bodyOf Tryd.f107) [t0, undef, undef, undef, undef, undef] w (topQ false Tryd.prog Tryd.f107 w K) = Tryd.F_internal_strconv_log10Pow2 t0 w K := by kernel_rfl
theorem Tryd.C_internal_strconv_log10Pow2 : chk ⟨false, false⟩ Tryd.prog false Tryd.A_internal_strconv_log10Pow2 (bodyOf Tryd.f107) = true := by kernel_rfl
theorem Tryd.ok_internal_strconv_log10Pow2 {t0 : Value} {w : World} {K : Value → World → Prop} (h : Tryd.F_internal_strconv_log10Pow2 t0 w K) : oCall Tryd.prog Tryd.n_internal_strconv_log10Pow2 #[t0] w K :=
  calls_of_sw (cf := ⟨false, false⟩) Tryd.mixed Tryd.func107 rfl Tryd.C_internal_strconv_log10Pow2 ((Tryd.E_internal_strconv_log10Pow2 t0 w K).mpr h)

/- 108: math/bits.Len64 -/
def Tryd.A_math_bits_Len64 : Ann := .s (.r (.op 0 .p (.nil))) (.j [0, 2] (.s (.r (.op 0 .p (.op 1 .p (.nil)))) (.c (.s (.r (.op 0 .p (.op 1 .p (.op 2 .p (.nil))))) (.r (.op 0 .p (.nil)))) (.n))) (.j [0, 2] (.s (.r (.op 0 .p (.op 1 .p (.nil)))) (.c (.s (.r (.op 0 .p (.op 1 .p (.op 2 .p (.nil))))) (.r (.op 0 .p (.op 1 .p (.op 2 .p (.nil)))))) (.n))) (.j [0, 2] (.s (.r (.op 0 .p (.op 1 .p (.nil)))) (.c (.s (.r (.op 0 .p (.op 1 .p (.op 2 .p (.nil))))) (.r (.op 0 .p (.op 1 .p (.op 2 .p (.nil)))))) (.n))) (.s (.r (.op 0 .p (.op 1 .p (.op 2 .p (.op 3 .p (.op 4 .p (.op 5 .p (.op 6 .p (.nil))))))))) (.n)))))
def Tryd.F_math_bits_Len64 (t0 : Value) (w : World) (K : Value → World → Prop) : Prop :=
 sJoin (fun K1 =>
 opP Tryd.prog (bsem .geq 123 true t0 (Value.int .u64 4294967296)) fun t4 =>
 oCond t4 (opP Tryd.prog (bsem .shr 123 true t0 (Value.int .u64 32)) fun t6 =>
 K1 [t6, (Value.int .i64 32)] w) (K1 [t0, (Value.int .i64 0)] w)) (fun s2 _d3 w4 =>
 sJoin (fun K5 =>
 opP Tryd.prog (bsem .geq 123 true (s2.getD 0 undef) (Value.int .u64 65536)) fun t8 =>
 oCond t8 (opP Tryd.prog (bsem .shr 123 true (s2.getD 0 undef) (Value.int .u64 16)) fun t10 =>
 opP Tryd.prog (bsem .add 3 true (s2.getD 1 undef) (Value.int .i64 16)) fun t12 =>
 K5 [t10, t12] w4) (K5 [(s2.getD 0 undef), (s2.getD 1 undef)] w4)) (fun s6 _d7 w8 =>
 sJoin (fun K9 =>
 opP Tryd.prog (bsem .geq 123 true (s6.getD 0 undef) (Value.int .u64 256)) fun t14 =>
 oCond t14 (opP Tryd.prog (bsem .shr 123 true (s6.getD 0 undef) (Value.int .u64 8)) fun t16 =>
 opP Tryd.prog (bsem .add 3 true (s6.getD 1 undef) (Value.int .i64 8)) fun t18 =>
 K9 [t16, t18] w8) (K9 [(s6.getD 0 undef), (s6.getD 1 undef)] w8)) (fun s10 _d11 w12 =>
 opP Tryd.prog (convert 123 5 (s10.getD 0 undef)) fun t21 =>
 opP Tryd.prog (Instr.index 9 (Value.string { data := (([0, 1, 2, 2, 3, 3, 3, 3, 4, 4, 4, 4, 4, 4, 4, 4, 5, 5, 5, 5, 5, 5, 5, 5, 5, 5, 5, 5, 5, 5, 5, 5, 6, 6, 6, 6, 6, 6, 6, 6, 6, 6, 6, 6, 6, 6, 6, 6, 6, 6, 6, 6, 6, 6, 6, 6, 6, 6, 6, 6, 6, 6, 6, 6].append [7, 7, 7, 7, 7, 7, 7, 7, 7, 7, 7, 7, 7, 7, 7, 7, 7, 7, 7, 7, 7, 7, 7, 7, 7, 7, 7, 7, 7, 7, 7, 7, 7, 7, 7, 7, 7, 7, 7, 7, 7, 7, 7, 7, 7, 7, 7, 7, 7, 7, 7, 7, 7, 7, 7, 7, 7, 7, 7, 7, 7, 7, 7, 7]).append ([8, 8, 8, 8, 8, 8, 8, 8, 8, 8, 8, 8, 8, 8, 8, 8, 8, 8, 8, 8, 8, 8, 8, 8, 8, 8, 8, 8, 8, 8, 8, 8, 8, 8, 8, 8, 8, 8, 8, 8, 8, 8, 8, 8, 8, 8, 8, 8, 8, 8, 8, 8, 8, 8, 8, 8, 8, 8, 8, 8, 8, 8, 8, 8].append [8, 8, 8, 8, 8, 8, 8, 8, 8, 8, 8, 8, 8, 8, 8, 8, 8, 8, 8, 8, 8, 8, 8, 8, 8, 8, 8, 8, 8, 8, 8, 8, 8, 8, 8, 8, 8, 8, 8, 8, 8, 8, 8, 8, 8, 8, 8, 8, 8, 8, 8, 8, 8, 8, 8, 8, 8, 8, 8, 8, 8, 8, 8, 8])).toArray }) t21) fun t22 =>
 opP Tryd.prog (convert 5 3 t22) fun t23 =>
 opP Tryd.prog (bsem .add 3 false (s10.getD 1 undef) t23) fun t24 =>
 K t24 w12)))
theorem Tryd.E_math_bits_Len64 (t0 : Value) (w : World) (K : Value → World → Prop) : sw ⟨false, false⟩ Tryd.prog (fun _ _ => False) Tryd.A_math_bits_Len64 (bodyOf Tryd.f108) [t0, undef, undef, undef, undef, undef, undef, undef, undef, undef, undef, undef, undef, undef, undef, undef, undef, undef, undef, undef, undef, undef, undef, undef, undef] w (topQ false Tryd.prog Tryd.f108 w K) = Tryd.F_math_bits_Len64 t0 w K := by kernel_rfl
theorem Tryd.C_math_bits_Len64 : chk ⟨false, false⟩ Tryd.prog false Tryd.A_math_bits_Len64 (bodyOf Tryd.f108) = true := by kernel_rfl
theorem Tryd.ok_math_bits_Len64 {t0 : Value} {w : World} {K : Value → World → Prop} (h : Tryd.F_math_bits_Len64 t0 w K) : oCall Tryd.prog Tryd.n_math_bits_Len64 #[t0] w K :=
  calls_of_sw (cf := ⟨false, false⟩) Tryd.mixed Tryd.func108 rfl Tryd.C_math_bits_Len64 ((Tryd.E_math_bits_Len64 t0 w K).mpr h)

/- 109: internal/strconv.bool2[int] -/
def Tryd.A_internal_strconv_bool2_int : Ann := .s (.r (.op 0 .p (.nil))) (.s (.s (.r (.op 0 .p (.nil))) (.c (.s (.r (.op 0 .p (.nil))) (.n)) (.n))) (.s (.r (.op 0 .p (.nil))) (.n)))
def Tryd.F_internal_strconv_bool2_int (t0 : Value) (w : World) (K : Value → World → Prop) : Prop :=
 oCond t0 (K (Value.int .i64 1) w) (K (Value.int .i64 0) w)
theorem Tryd.E_internal_strconv_bool2_int (t0 : Value) (w : World) (K : Value → World → Prop) : sw ⟨false, false⟩ Tryd.prog (fun _ _ => False) Tryd.A_internal_strconv_bool2_int (bodyOf Tryd.f109) [t0, undef, undef, undef] w (topQ false Tryd.prog Tryd.f109 w K) = Tryd.F_internal_strconv_bool2_int t0 w K := by kernel_rfl
theorem Tryd.C_internal_strconv_bool2_int : chk ⟨false, false⟩ Tryd.prog false Tryd.A_internal_strconv_bool2_int (bodyOf Tryd.f109) = true := by kernel_rfl
theorem Tryd.ok_internal_strconv_bool2_int {t0 : Value} {w : World} {K : Value → World → Prop} (h : Tryd.F_internal_strconv_bool2_int t0 w K) : oCall Tryd.prog Tryd.n_internal_strconv_bool2_int #[t0] w K :=
  calls_of_sw (cf := ⟨false, false⟩) Tryd.mixed Tryd.func109 rfl Tryd.C_internal_strconv_bool2_int ((Tryd.E_internal_strconv_bool2_int t0 w K).mpr h)

/- 110: internal/strconv.isPowerOfTwo -/
def Tryd.A_internal_strconv_isPowerOfTwo : Ann := .s (.r (.op 0 .p (.nil))) (.s (.r (.op 0 .p (.op 1 .p (.op 2 .p (.op 3 .p (.op 4 .p (.op 5 .p (.nil)))))))) (.n))
def Tryd.F_internal_strconv_isPowerOfTwo (t0 : Value) (w : World) (K : Value → World → Prop) : Prop :=
 opP Tryd.prog (bsem .sub 3 true t0 (Value.int .i64 1)) fun t5 =>
 opP Tryd.prog (bsem .and 3 false t0 t5) fun t6 =>
 opP Tryd.prog (bsem .eql 3 true t6 (Value.int .i64 0)) fun t7 =>
 K t7 w
theorem Tryd.E_internal_strconv_isPowerOfTwo (t0 : Value) (w : World) (K : Value → World → Prop) : sw ⟨false, false⟩ Tryd.prog (fun _ _ => False) Tryd.A_internal_strconv_isPowerOfTwo (bodyOf Tryd.f110) [t0, undef, undef, undef, undef, undef, undef, undef] w (topQ false Tryd.prog Tryd.f110 w K) = Tryd.F_internal_strconv_isPowerOfTwo t0 w K := by kernel_rfl
theorem Tryd.C_internal_strconv_isPowerOfTwo : chk ⟨false, false⟩ Tryd.prog false Tryd.A_internal_strconv_isPowerOfTwo (bodyOf Tryd.f110) = true := by kernel_rfl
theorem Tryd.ok_internal_strconv_isPowerOfTwo {t0 : Value} {w : World} {K : Value → World → Prop} (h : Tryd.F_internal_strconv_isPowerOfTwo t0 w K) : oCall Tryd.prog Tryd.n_internal_strconv_isPowerOfTwo #[t0] w K :=
  calls_of_sw (cf := ⟨false, false⟩) Tryd.mixed Tryd.func110 rfl Tryd.C_internal_strconv_isPowerOfTwo ((Tryd.E_internal_strconv_isPowerOfTwo t0 w K).mpr h)

/- 111: math/bits.TrailingZeros -/
def Tryd.A_math_bits_TrailingZeros : Ann := .s (.r (.op 0 .p (.nil))) (.s (.c (.s (.r (.op 0 .p (.op 1 .p (.op 2 .l (.op 3 .p (.nil)))))) (.n)) (.n)) (.s (.r (.op 0 .p (.op 1 .l (.op 2 .p (.nil))))) (.n)))
def Tryd.F_math_bits_TrailingZeros (t0 : Value) (w : World) (K : Value → World → Prop) : Prop :=
 oCond (Value.bool false) (opP Tryd.prog (convert 138 136 t0) fun t4 =>
 oCall Tryd.prog Tryd.n_math_bits_TrailingZeros32 #[t4] w fun t5 w1 =>
 K t5 w1) (oCall Tryd.prog Tryd.n_math_bits_TrailingZeros64 #[t0] w fun t7 w2 =>
 K t7 w2)
theorem Tryd.E_math_bits_TrailingZeros (t0 : Value) (w : World) (K : Value → World → Prop) : sw ⟨false, false⟩ Tryd.prog (fun _ _ => False) Tryd.A_math_bits_TrailingZeros (bodyOf Tryd.f111) [t0, undef, undef, undef, undef, undef, undef, undef] w (topQ false Tryd.prog Tryd.f111 w K) = Tryd.F_math_bits_TrailingZeros t0 w K := by kernel_rfl
theorem Tryd.C_math_bits_TrailingZeros : chk ⟨false, false⟩ Tryd.prog false Tryd.A_math_bits_TrailingZeros (bodyOf Tryd.f111) = true := by kernel_rfl
theorem Tryd.ok_math_bits_TrailingZeros {t0 : Value} {w : World} {K : Value → World → Prop} (h : Tryd.F_math_bits_TrailingZeros t0 w K) : oCall Tryd.prog Tryd.n_math_bits_TrailingZeros #[t0] w K :=
  calls_of_sw (cf := ⟨false, false⟩) Tryd.mixed Tryd.func111 rfl Tryd.C_math_bits_TrailingZeros ((Tryd.E_math_bits_TrailingZeros t0 w K).mpr h)

/- 112: math/bits.TrailingZeros32 -/
def Tryd.A_math_bits_TrailingZeros32 : Ann := .s (.r (.op 0 .p (.nil))) (.s (.s (.r (.op 0 .p (.op 1 .p (.nil)))) (.c (.s (.r (.op 0 .p (.nil))) (.n)) (.n))) (.s (.r (.op 0 .p (.op 1 .p (.op 2 .p (.op 3 .p (.op 4 .p (.op 5 .p (.op 6 .p (.op 7 .q (.op 8 .p (.op 9 .p (.nil)))))))))))) (.n)))
def Tryd.F_math_bits_TrailingZeros32 (t0 : Value) (w : World) (K : Value → World → Prop) : Prop :=
 opP Tryd.prog (bsem .eql 136 true t0 (Value.int .u32 0)) fun t4 =>
 oCond t4 (K (Value.int .i64 32) w) (opP Tryd.prog (Op.unary .neg t0) fun t7 =>
 opP Tryd.prog (bsem .and 136 false t0 t7) fun t8 =>
 opP Tryd.prog (bsem .mul 136 true t8 (Value.int .u32 125613361)) fun t9 =>
 opP Tryd.prog (bsem .shr 136 true t9 (Value.int .u64 27)) fun t10 =>
 opP Tryd.prog (Instr.indexAt 141 (Value.pointer (some ⟨1, 0, none⟩)) t10) fun t11 =>
 opQ Tryd.prog w (Instr.loadAt 5 t11) fun t12 =>
 opP Tryd.prog (convert 5 3 t12) fun t13 =>
 K t13 w)
theorem Tryd.E_math_bits_TrailingZeros32 (t0 : Value) (w : World) (K : Value → World → Prop) : sw ⟨false, false⟩ Tryd.prog (fun _ _ => False) Tryd.A_math_bits_TrailingZeros32 (bodyOf Tryd.f112) [t0, undef, undef, undef, undef, undef, undef, undef, undef, undef, undef, undef, undef, undef] w (topQ false Tryd.prog Tryd.f112 w K) = Tryd.F_math_bits_TrailingZeros32 t0 w K := by kernel_rfl
theorem Tryd.C_math_bits_TrailingZeros32 : chk ⟨false, false⟩ Tryd.prog false Tryd.A_math_bits_TrailingZeros32 (bodyOf Tryd.f112) = true := by kernel_rfl
theorem Tryd.ok_math_bits_TrailingZeros32 {t0 : Value} {w : World} {K : Value → World → Prop} (h : Tryd.F_math_bits_TrailingZeros32 t0 w K) : oCall Tryd.prog Tryd.n_math_bits_TrailingZeros32 #[t0] w K :=
  calls_of_sw (cf := ⟨false, false⟩) Tryd.mixed Tryd.func112 rfl Tryd.C_math_bits_TrailingZeros32 ((Tryd.E_math_bits_TrailingZeros32 t0 w K).mpr h)

/- 113: math/bits.TrailingZeros64 -/
def Tryd.A_math_bits_TrailingZeros64 : Ann := .s (.r (.op 0 .p (.nil))) (.s (.s (.r (.op 0 .p (.op 1 .p (.nil)))) (.c (.s (.r (.op 0 .p (.nil))) (.n)) (.n))) (.s (.r (.op 0 .p (.op 1 .p (.op 2 .p (.op 3 .p (.op 4 .p (.op 5 .p (.op 6 .p (.op 7 .q (.op 8 .p (.op 9 .p (.nil)))))))))))) (.n)))
def Tryd.F_math_bits_TrailingZeros64 (t0 : Value) (w : World) (K : Value → World → Prop) : Prop :=
 opP Tryd.prog (bsem .eql 123 true t0 (Value.int .u64 0)) fun t4 =>
 oCond t4 (K (Value.int .i64 64) w) (opP Tryd.prog (Op.unary .neg t0) fun t7 =>
 opP Tryd.prog (bsem .and 123 false t0 t7) fun t8 =>
 opP Tryd.prog (bsem .mul 123 true t8 (Value.int .u64 285870213051353865)) fun t9 =>
 opP Tryd.prog (bsem .shr 123 true t9 (Value.int .u64 58)) fun t10 =>
 opP Tryd.prog (Instr.indexAt 142 (Value.pointer (some ⟨2, 0, none⟩)) t10) fun t11 =>
 opQ Tryd.prog w (Instr.loadAt 5 t11) fun t12 =>
 opP Tryd.prog (convert 5 3 t12) fun t13 =>
 K t13 w)
theorem Tryd.E_math_bits_TrailingZeros64 (t0 : Value) (w : World) (K : Value → World → Prop) : sw ⟨false, false⟩ Tryd.prog (fun _ _ => False) Tryd.A_math_bits_TrailingZeros64 (bodyOf Tryd.f113) [t0, undef, undef, undef, undef, undef, undef, undef, undef, undef, undef, undef, undef, undef] w (topQ false Tryd.prog Tryd.f113 w K) = Tryd.F_math_bits_TrailingZeros64 t0 w K := by kernel_rfl
theorem Tryd.C_math_bits_TrailingZeros64 : chk ⟨false, false⟩ Tryd.prog false Tryd.A_math_bits_TrailingZeros64 (bodyOf Tryd.f113) = true := by kernel_rfl
theorem Tryd.ok_math_bits_TrailingZeros64 {t0 : Value} {w : World} {K : Value → World → Prop} (h : Tryd.F_math_bits_TrailingZeros64 t0 w K) : oCall Tryd.prog Tryd.n_math_bits_TrailingZeros64 #[t0] w K :=
  calls_of_sw (cf := ⟨false, false⟩) Tryd.mixed Tryd.func113 rfl Tryd.C_math_bits_TrailingZeros64 ((Tryd.E_math_bits_TrailingZeros64 t0 w K).mpr h)

end Go.Proofs
end

section
namespace Go.Proofs
open Go.Sh
set_option maxRecDepth 100000
/- 66: loanword/types.look -/
def Tryd.A_types_look : Ann := .s (.r (.op 0 .l (.op 1 .p (.nil)))) (.s (.s (.r (.op 0 .p (.op 1 .p (.nil)))) (.c (.s (.r (.op 0 .p (.nil))) (.n)) (.n))) (.s (.r (.op 0 .p (.op 1 .q (.op 2 .p (.op 3 .p (.op 4 .p (.grp 15 true [(5, .p), (6, .q), (7, .p), (8, .q), (9, .p), (10, .p), (11, .p), (12, .l)] [23] (.op 13 .p (.op 14 .p (.nil)))))))))) (.s (.r (.op 0 .p (.op 1 .q (.op 2 .p (.op 3 .p (.grp 28 true [(4, .p), (5, .q), (6, .p)] [31] (.op 7 .p (.op 8 .p (.nil))))))))) (.s (.s (.r (.op 0 .p (.op 1 .q (.nil)))) (.b (.j [35] (.s (.r (.op 0 .p (.op 1 .p (.nil)))) (.c (.n) (.r (.op 0 .p (.op 1 .p (.nil)))))) (.c (.s (.r (.op 0 .p (.op 1 .p (.grp 39 true [(2, .p), (3, .q), (4, .p)] [42] (.op 5 .p (.op 6 .p (.grp 44 true [(7, .p), (8, .q), (9, .p), (10, .p)] [48] (.op 11 .p (.op 12 .p (.nil)))))))))) (.n)) (.s (.r (.op 0 .p (.op 1 .p (.nil)))) (.c (.s (.r (.op 0 .p (.op 1 .p (.grp 53 true [(2, .p), (3, .q), (4, .p), (5, .p)] [57] (.op 6 .p (.op 7 .p (.grp 59 true [(8, .p), (9, .q), (10, .p)] [62] (.op 11 .p (.op 12 .p (.grp 64 true [(13, .p), (14, .q), (15, .p), (16, .p)] [68] (.op 17 .p (.op 18 .p (.nil))))))))))))) (.n)) (.s (.r (.op 0 .p (.op 1 .p (.nil)))) (.c (.s (.r (.op 0 .p (.op 1 .p (.grp 73 true [(2, .p), (3, .q), (4, .p)] [76] (.op 5 .p (.op 6 .p (.grp 78 true [(7, .p)] [79] (.op 8 .p (.op 9 .p (.nil)))))))))) (.n)) (.s (.r (.op 0 .p (.op 1 .p (.nil)))) (.c (.s (.r (.op 0 .p (.op 1 .q (.op 2 .p (.op 3 .p (.grp 86 true [(4, .p), (5, .q), (6, .p)] [89] (.op 7 .p (.op 8 .p (.grp 91 true [(9, .p)] [92] (.op 10 .p (.op 11 .p (.nil)))))))))))) (.n)) (.n))))))))))) (.s (.r (.op 0 .p (.nil))) (.n))))))
def Tryd.F_types_look (t0 : Value) (t1 : Value) (t2 : Value) (w : World) (K : Value → World → Prop) : Prop :=
 opW Tryd.prog w (Instr.box 25 t0) fun t3 w1 =>
 opP Tryd.prog (bsem .eql 3 true t2 (Value.int .i64 0)) fun t10 =>
 oCond t10 (K (Value.bool false) w1) (opP Tryd.prog (Instr.fieldAt 25 t3 4) fun t11 =>
 opQ Tryd.prog w1 (Instr.loadAt 23 t11) fun t12 =>
 opP Tryd.prog (Builtin.len_ #[23] 3 #[t12]) fun t13 =>
 opP Tryd.prog (bsem .eql 3 true t13 (Value.int .i64 1)) fun t14 =>
 sJoin (fun K2 => gIf t14 true (opP Tryd.prog (Instr.fieldAt 25 t3 4) fun t16 =>
 opQ Tryd.prog w1 (Instr.loadAt 23 t16) fun t17 =>
 opP Tryd.prog (Instr.indexAt 23 t17 (Value.int .i64 0)) fun t18 =>
 opQ Tryd.prog w1 (Instr.loadAt 25 t18) fun t19 =>
 opP Tryd.prog (bsem .sub 3 true t2 (Value.int .i64 1)) fun t22 =>
 oCall Tryd.prog Tryd.n_types_look #[t19, t1, t22] w1 fun t23 w6 =>
 K2 [t23] w6) (K2 [undef] w1)) (fun s3 _d4 w5 =>
 oPick t14 (s3.getD 0 undef) (Value.bool false) fun t24 =>
 opP Tryd.prog (Instr.fieldAt 25 t3 1) fun t25 =>
 opQ Tryd.prog w5 (Instr.loadAt 4 t25) fun t26 =>
 opP Tryd.prog (Op.unary .not t26) fun t27 =>
 sJoin (fun K7 => gIf t27 true (opP Tryd.prog (Instr.fieldAt 25 t3 2) fun t29 =>
 opQ Tryd.prog w5 (Instr.loadAt 3 t29) fun t30 =>
 opP Tryd.prog (bsem .eql 3 true t30 (Value.int .i64 0)) fun t31 =>
 K7 [t31] w5) (K7 [undef] w5)) (fun s8 _d9 w10 =>
 oPick t27 (s8.getD 0 undef) (Value.bool false) fun t32 =>
 opP Tryd.prog (Instr.fieldAt 25 t3 0) fun t33 =>
 opQ Tryd.prog w10 (Instr.loadAt 22 t33) fun t34 =>
 sJoin (fun K11 =>
 opP Tryd.prog (bsem .eql 22 true t34 (Value.int .u8 1)) fun t36 =>
 oCond t36 (K11 [t36] w10) (opP Tryd.prog (bsem .eql 22 true t34 (Value.int .u8 2)) fun t37 =>
 K11 [t37] w10)) (fun s12 _d13 w14 =>
 oCond (s12.getD 0 undef) (sJoin (fun K15 => gIf t32 true (opP Tryd.prog (Instr.fieldAt 25 t3 3) fun t40 =>
 opQ Tryd.prog w14 (Instr.loadAt 3 t40) fun t41 =>
 opP Tryd.prog (bsem .eql 3 true t41 (Value.int .i64 0)) fun t42 =>
 K15 [t42] w14) (K15 [undef] w14)) (fun s16 _d17 w18 =>
 oPick t32 (s16.getD 0 undef) (Value.bool false) fun t43 =>
 sJoin (fun K19 => gIf t43 true (opP Tryd.prog (Instr.fieldAt 25 t3 4) fun t45 =>
 opQ Tryd.prog w18 (Instr.loadAt 23 t45) fun t46 =>
 opP Tryd.prog (Builtin.len_ #[23] 3 #[t46]) fun t47 =>
 opP Tryd.prog (bsem .eql 3 true t47 (Value.int .i64 0)) fun t48 =>
 K19 [t48] w18) (K19 [undef] w18)) (fun s20 _d21 w22 =>
 oPick t43 (s20.getD 0 undef) (Value.bool false) fun t49 =>
 K t49 w22))) (opP Tryd.prog (bsem .eql 22 true t34 (Value.int .u8 5)) fun t51 =>
 oCond t51 (sJoin (fun K23 => gIf t32 true (opP Tryd.prog (Instr.fieldAt 25 t3 4) fun t54 =>
 opQ Tryd.prog w14 (Instr.loadAt 23 t54) fun t55 =>
 opP Tryd.prog (Builtin.len_ #[23] 3 #[t55]) fun t56 =>
 opP Tryd.prog (bsem .eql 3 true t56 (Value.int .i64 0)) fun t57 =>
 K23 [t57] w14) (K23 [undef] w14)) (fun s24 _d25 w26 =>
 oPick t32 (s24.getD 0 undef) (Value.bool false) fun t58 =>
 sJoin (fun K27 => gIf t58 true (opP Tryd.prog (Instr.fieldAt 25 t3 3) fun t60 =>
 opQ Tryd.prog w26 (Instr.loadAt 3 t60) fun t61 =>
 opP Tryd.prog (bsem .geq 3 true t61 (Value.int .i64 0)) fun t62 =>
 K27 [t62] w26) (K27 [undef] w26)) (fun s28 _d29 w30 =>
 oPick t58 (s28.getD 0 undef) (Value.bool false) fun t63 =>
 sJoin (fun K31 => gIf t63 true (opP Tryd.prog (Instr.fieldAt 25 t3 3) fun t65 =>
 opQ Tryd.prog w30 (Instr.loadAt 3 t65) fun t66 =>
 opP Tryd.prog (bsem .lss 3 false t66 t1) fun t68 =>
 K31 [t68] w30) (K31 [undef] w30)) (fun s32 _d33 w34 =>
 oPick t63 (s32.getD 0 undef) (Value.bool false) fun t69 =>
 K t69 w34)))) (opP Tryd.prog (bsem .eql 22 true t34 (Value.int .u8 3)) fun t71 =>
 oCond t71 (sJoin (fun K35 => gIf t32 true (opP Tryd.prog (Instr.fieldAt 25 t3 3) fun t74 =>
 opQ Tryd.prog w14 (Instr.loadAt 3 t74) fun t75 =>
 opP Tryd.prog (bsem .eql 3 true t75 (Value.int .i64 0)) fun t76 =>
 K35 [t76] w14) (K35 [undef] w14)) (fun s36 _d37 w38 =>
 oPick t32 (s36.getD 0 undef) (Value.bool false) fun t77 =>
 sJoin (fun K39 => gIf t77 true (K39 [t24] w38) (K39 [undef] w38)) (fun s40 _d41 w42 =>
 oPick t77 (s40.getD 0 undef) (Value.bool false) fun t80 =>
 K t80 w42))) (opP Tryd.prog (bsem .eql 22 true t34 (Value.int .u8 4)) fun t82 =>
 oCond t82 (opP Tryd.prog (Instr.fieldAt 25 t3 2) fun t83 =>
 opQ Tryd.prog w14 (Instr.loadAt 3 t83) fun t84 =>
 opP Tryd.prog (bsem .geq 3 true t84 (Value.int .i64 (-1))) fun t85 =>
 sJoin (fun K43 => gIf t85 true (opP Tryd.prog (Instr.fieldAt 25 t3 3) fun t87 =>
 opQ Tryd.prog w14 (Instr.loadAt 3 t87) fun t88 =>
 opP Tryd.prog (bsem .eql 3 true t88 (Value.int .i64 0)) fun t89 =>
 K43 [t89] w14) (K43 [undef] w14)) (fun s44 _d45 w46 =>
 oPick t85 (s44.getD 0 undef) (Value.bool false) fun t90 =>
 sJoin (fun K47 => gIf t90 true (K47 [t24] w46) (K47 [undef] w46)) (fun s48 _d49 w50 =>
 oPick t90 (s48.getD 0 undef) (Value.bool false) fun t93 =>
 K t93 w50))) (K (Value.bool false) w14))))))))
theorem Tryd.E_types_look (t0 t1 t2 : Value) (w : World) (K : Value → World → Prop) : sw ⟨false, false⟩ Tryd.prog (fun _ _ => False) Tryd.A_types_look (bodyOf Tryd.f66) [t0, t1, t2, undef, undef, undef, undef, undef, undef, undef, undef, undef, undef, undef, undef, undef, undef, undef, undef, undef, undef, undef, undef, undef, undef, undef, undef, undef, undef, undef, undef, undef, undef, undef, undef, undef, undef, undef, undef, undef, undef, undef, undef, undef, undef, undef, undef, undef, undef, undef, undef, undef, undef, undef, undef, undef, undef, undef, undef, undef, undef, undef, undef, undef, undef, undef, undef, undef, undef, undef, undef, undef, undef, undef, undef, undef, undef, undef, undef, undef, undef, undef, undef, undef, undef, undef, undef, undef, undef, undef, undef, undef, undef, undef] w (topQ false Tryd.prog Tryd.f66 w K) = Tryd.F_types_look t0 t1 t2 w K := by kernel_rfl
theorem Tryd.C_types_look : chk ⟨false, false⟩ Tryd.prog false Tryd.A_types_look (bodyOf Tryd.f66) = true := by kernel_rfl
theorem Tryd.ok_types_look {t0 t1 t2 : Value} {w : World} {K : Value → World → Prop} (h : Tryd.F_types_look t0 t1 t2 w K) : oCall Tryd.prog Tryd.n_types_look #[t0, t1, t2] w K :=
  calls_of_sw (cf := ⟨false, false⟩) Tryd.mixed Tryd.func66 rfl Tryd.C_types_look ((Tryd.E_types_look t0 t1 t2 w K).mpr h)

/- 54: loanword/types.may -/
def Tryd.A_types_may : Ann := .s (.r (.op 0 .l (.op 1 .p (.nil)))) (.s (.r (.op 0 .q (.op 1 .l (.op 2 .p (.nil))))) (.n))
def Tryd.F_types_may (t0 : Value) (w : World) (K : Value → World → Prop) : Prop :=
 opW Tryd.prog w (Instr.box 25 t0) fun t1 w1 =>
 opQ Tryd.prog w1 (Instr.loadAt 25 t1) fun t3 =>
 oCall Tryd.prog Tryd.n_types_look #[t3, (Value.int .i64 32), (Value.int .i64 48)] w1 fun t4 w2 =>
 K t4 w2
theorem Tryd.E_types_may (t0 : Value) (w : World) (K : Value → World → Prop) : sw ⟨false, false⟩ Tryd.prog (fun _ _ => False) Tryd.A_types_may (bodyOf Tryd.f54) [t0, undef, undef, undef, undef] w (topQ false Tryd.prog Tryd.f54 w K) = Tryd.F_types_may t0 w K := by kernel_rfl
theorem Tryd.C_types_may : chk ⟨false, false⟩ Tryd.prog false Tryd.A_types_may (bodyOf Tryd.f54) = true := by kernel_rfl
theorem Tryd.ok_types_may {t0 : Value} {w : World} {K : Value → World → Prop} (h : Tryd.F_types_may t0 w K) : oCall Tryd.prog Tryd.n_types_may #[t0] w K :=
  calls_of_sw (cf := ⟨false, false⟩) Tryd.mixed Tryd.func54 rfl Tryd.C_types_may ((Tryd.E_types_may t0 w K).mpr h)

/- 70: loanword/types.words -/
def Tryd.A_types_words : Ann := .s (.r (.op 0 .l (.op 1 .p (.nil)))) (.s (.s (.r (.op 0 .p (.op 1 .q (.op 2 .p (.nil))))) (.c (.s (.r (.op 0 .p (.nil))) (.n)) (.n))) (.s (.r (.op 0 .p (.nil))) (.s (.s (.r (.op 0 .p (.op 1 .p (.op 2 .q (.op 3 .p (.op 4 .p (.op 5 .q (.op 6 .p (.op 7 .p (.nil)))))))))) (.b (.lp [5, 18] (.s (.r (.op 0 .p (.nil))) (.s (.c (.n) (.n)) (.s (.b (.s (.r (.op 0 .p (.op 1 .q (.op 2 .l (.op 3 .l (.nil)))))) (.s (.r (.op 0 .p (.op 1 .p (.op 2 .p (.op 3 .q (.op 4 .l (.op 5 .p (.op 6 .p (.nil))))))))) (.s (.r (.op 0 .p (.op 1 .p (.nil)))) (.c (.s (.r (.op 0 .p (.nil))) (.n)) (.n)))))) (.r (.op 0 .p (.op 1 .p (.nil)))))))))) (.s (.r (.op 0 .p (.op 1 .p (.nil)))) (.n)))))
def Tryd.F_types_words (t0 : Value) (t1 : Value) (w : World) (K : Value → World → Prop) : Prop :=
 opW Tryd.prog w (Instr.box 25 t1) fun t3 w1 =>
 opP Tryd.prog (Instr.fieldAt 25 t3 0) fun t8 =>
 opQ Tryd.prog w1 (Instr.loadAt 22 t8) fun t9 =>
 opP Tryd.prog (bsem .neq 22 true t9 (Value.int .u8 5)) fun t10 =>
 oCond t10 (K (Value.int .i64 1) w1) (opP Tryd.prog (Instr.fieldAt 25 t3 3) fun t12 =>
 opQ Tryd.prog w1 (Instr.loadAt 3 t12) fun t13 =>
 opP Tryd.prog (Instr.indexAt 50 t0 t13) fun t14 =>
 opP Tryd.prog (Instr.fieldAt 99 t14 1) fun t15 =>
 opQ Tryd.prog w1 (Instr.loadAt 97 t15) fun t16 =>
 opP Tryd.prog (Builtin.len_ #[97] 3 #[t16]) fun t17 =>
 sLoop [(Value.int .i64 0), (Value.int .i64 0)] w1 (fun s3 _d4 w5 K2 =>
 opP Tryd.prog (bsem .lss 3 false (s3.getD 1 undef) t17) fun t19 =>
 oCond t19 (opP Tryd.prog (Instr.indexAt 97 t16 (s3.getD 1 undef)) fun t20 =>
 opQ Tryd.prog w5 (Instr.loadAt 101 t20) fun t21 =>
 opW Tryd.prog w5 (Instr.alloc 101 true (.tuple #[])) fun t7 w6 =>
 opU Tryd.prog w6 (Instr.storeAt 101 t7 t21) fun w7 =>
 opP Tryd.prog (Instr.fieldAt 101 t7 1) fun t24 =>
 opQ Tryd.prog w7 (Instr.loadAt 25 t24) fun t25 =>
 oCall Tryd.prog Tryd.n_types_words #[t0, t25] w7 fun t26 w8 =>
 opP Tryd.prog (bsem .add 3 false (s3.getD 0 undef) t26) fun t27 =>
 opP Tryd.prog (bsem .gtr 3 true t27 (Value.int .i64 16)) fun t29 =>
 oCond t29 (K (Value.int .i64 17) w8) (opP Tryd.prog (bsem .add 3 true (s3.getD 1 undef) (Value.int .i64 1)) fun t30 =>
 K2 [t27, t30] w8)) (K (s3.getD 0 undef) w5)))
theorem Tryd.E_types_words (t0 t1 : Value) (w : World) (K : Value → World → Prop) : sw ⟨false, false⟩ Tryd.prog (fun _ _ => False) Tryd.A_types_words (bodyOf Tryd.f70) [t0, t1, undef, undef, undef, undef, undef, undef, undef, undef, undef, undef, undef, undef, undef, undef, undef, undef, undef, undef, undef, undef, undef, undef, undef, undef, undef, undef, undef, undef, undef, undef] w (topQ false Tryd.prog Tryd.f70 w K) = Tryd.F_types_words t0 t1 w K := by kernel_rfl
theorem Tryd.C_types_words : chk ⟨false, false⟩ Tryd.prog false Tryd.A_types_words (bodyOf Tryd.f70) = true := by kernel_rfl
theorem Tryd.ok_types_words {t0 t1 : Value} {w : World} {K : Value → World → Prop} (h : Tryd.F_types_words t0 t1 w K) : oCall Tryd.prog Tryd.n_types_words #[t0, t1] w K :=
  calls_of_sw (cf := ⟨false, false⟩) Tryd.mixed Tryd.func70 rfl Tryd.C_types_words ((Tryd.E_types_words t0 t1 w K).mpr h)

/- 68: loanword/types.endless -/
def Tryd.A_types_endless : Ann := .s (.r (.op 0 .p (.nil))) (.s (.r (.op 0 .l (.nil))) (.s (.r (.op 0 .p (.op 1 .l (.op 2 .p (.nil))))) (.s (.b (.lp [6] (.s (.s (.r (.op 0 .p (.op 1 .p (.op 2 .p (.nil))))) (.c (.n) (.n))) (.b (.s (.r (.op 0 .p (.op 1 .p (.op 2 .q (.op 3 .p (.nil)))))) (.s (.r (.op 0 .p (.op 1 .p (.op 2 .p (.nil))))) (.s (.r (.op 0 .p (.op 1 .p (.op 2 .p (.op 3 .p (.op 4 .q (.op 5 .p (.op 6 .p (.nil))))))))) (.b (.lp [6, 26] (.s (.r (.op 0 .p (.nil))) (.s (.c (.n) (.n)) (.j [6] (.b (.s (.r (.op 0 .p (.op 1 .q (.op 2 .l (.op 3 .l (.nil)))))) (.s (.s (.r (.op 0 .p (.op 1 .p (.op 2 .q (.op 3 .p (.op 4 .p (.grp 34 false [(5, .p), (6, .p), (7, .q), (8, .p), (9, .q)] [39] (.op 10 .p (.nil))))))))) (.c (.n) (.n))) (.s (.r (.op 0 .p (.op 1 .p (.op 2 .q (.op 3 .p (.op 4 .l (.nil))))))) (.r (.op 0 .p (.op 1 .p (.op 2 .p (.op 3 .q (.op 4 .l (.op 5 .l (.op 6 .p (.nil))))))))))))) (.r (.op 0 .p (.op 1 .p (.nil)))))))))))))))) (.s (.r (.op 0 .p (.op 1 .p (.op 2 .q (.op 3 .p (.nil)))))) (.n)))))
def Tryd.F_types_endless (t0 : Value) (t1 : Value) (w : World) (K : Value → World → Prop) : Prop :=
 opW Tryd.prog w (Instr.alloc 125 true (.tuple #[])) fun t5 w1 =>
 opW Tryd.prog w1 (Instr.buildSlice 68 1 #[(0, t1)]) fun t11 w2 =>
 sLoop [t11] w2 (fun s4 _d5 w6 K3 =>
 opP Tryd.prog (Builtin.len_ #[68] 3 #[(s4.getD 0 undef)]) fun t13 =>
 opP Tryd.prog (bsem .gtr 3 true t13 (Value.int .i64 0)) fun t14 =>
 oCond t14 (opP Tryd.prog (Instr.indexAt 68 (s4.getD 0 undef) (Value.int .i64 0)) fun t16 =>
 opQ Tryd.prog w6 (Instr.loadAt 3 t16) fun t17 =>
 opP Tryd.prog (Instr.sliceAt 68 (s4.getD 0 undef) (some (Value.int .i64 1)) none none) fun t19 =>
 opP Tryd.prog (Instr.indexAt 50 t0 t17) fun t22 =>
 opP Tryd.prog (Instr.fieldAt 99 t22 1) fun t23 =>
 opQ Tryd.prog w6 (Instr.loadAt 97 t23) fun t24 =>
 opP Tryd.prog (Builtin.len_ #[97] 3 #[t24]) fun t25 =>
 sLoop [t19, (Value.int .i64 0)] w6 (fun s8 _d9 w10 K7 =>
 opP Tryd.prog (bsem .lss 3 false (s8.getD 1 undef) t25) fun t27 =>
 oCond t27 (sJoin (fun K11 =>
 opP Tryd.prog (Instr.indexAt 97 t24 (s8.getD 1 undef)) fun t28 =>
 opQ Tryd.prog w10 (Instr.loadAt 101 t28) fun t29 =>
 opW Tryd.prog w10 (Instr.alloc 101 true (.tuple #[])) fun t9 w15 =>
 opU Tryd.prog w15 (Instr.storeAt 101 t9 t29) fun w16 =>
 opP Tryd.prog (Instr.fieldAt 101 t9 1) fun t30 =>
 opP Tryd.prog (Instr.fieldAt 25 t30 0) fun t31 =>
 opQ Tryd.prog w16 (Instr.loadAt 22 t31) fun t32 =>
 opP Tryd.prog (bsem .neq 22 true t32 (Value.int .u8 5)) fun t33 =>
 sJoin (fun K17 => gIf t33 false (opP Tryd.prog (Instr.fieldAt 101 t9 1) fun t35 =>
 opP Tryd.prog (Instr.fieldAt 25 t35 3) fun t36 =>
 opQ Tryd.prog w16 (Instr.loadAt 3 t36) fun t37 =>
 opP Tryd.prog (Instr.indexAt 125 t5 t37) fun t38 =>
 opQ Tryd.prog w16 (Instr.loadAt 4 t38) fun t39 =>
 K17 [t39] w16) (K17 [undef] w16)) (fun s18 _d19 w20 =>
 oPick t33 (Value.bool true) (s18.getD 0 undef) fun t40 =>
 oCond t40 (K11 [(s8.getD 0 undef)] w20) (opP Tryd.prog (Instr.fieldAt 101 t9 1) fun t41 =>
 opP Tryd.prog (Instr.fieldAt 25 t41 3) fun t42 =>
 opQ Tryd.prog w20 (Instr.loadAt 3 t42) fun t43 =>
 opP Tryd.prog (Instr.indexAt 125 t5 t43) fun t44 =>
 opU Tryd.prog w20 (Instr.storeAt 4 t44 (Value.bool true)) fun w21 =>
 opP Tryd.prog (Instr.fieldAt 101 t9 1) fun t46 =>
 opP Tryd.prog (Instr.fieldAt 25 t46 3) fun t47 =>
 opQ Tryd.prog w21 (Instr.loadAt 3 t47) fun t48 =>
 opW Tryd.prog w21 (Instr.buildSlice 68 1 #[(0, t48)]) fun t49 w22 =>
 opW Tryd.prog w22 (Builtin.append_ #[68, 68] 68 #[(s8.getD 0 undef), t49]) fun t50 w23 =>
 K11 [t50] w23))) (fun s12 _d13 w14 =>
 opP Tryd.prog (bsem .add 3 true (s8.getD 1 undef) (Value.int .i64 1)) fun t51 =>
 K7 [(s12.getD 0 undef), t51] w14)) (K3 [(s8.getD 0 undef)] w10))) (opP Tryd.prog (Instr.indexAt 125 t5 t1) fun t53 =>
 opQ Tryd.prog w6 (Instr.loadAt 4 t53) fun t54 =>
 K t54 w6))
theorem Tryd.E_types_endless (t0 t1 : Value) (w : World) (K : Value → World → Prop) : sw ⟨false, false⟩ Tryd.prog (fun _ _ => False) Tryd.A_types_endless (bodyOf Tryd.f68) [t0, t1, undef, undef, undef, undef, undef, undef, undef, undef, undef, undef, undef, undef, undef, undef, undef, undef, undef, undef, undef, undef, undef, undef, undef, undef, undef, undef, undef, undef, undef, undef, undef, undef, undef, undef, undef, undef, undef, undef, undef, undef, undef, undef, undef, undef, undef, undef, undef, undef, undef, undef, undef, undef, undef] w (topQ false Tryd.prog Tryd.f68 w K) = Tryd.F_types_endless t0 t1 w K := by kernel_rfl
theorem Tryd.C_types_endless : chk ⟨false, false⟩ Tryd.prog false Tryd.A_types_endless (bodyOf Tryd.f68) = true := by kernel_rfl
theorem Tryd.ok_types_endless {t0 t1 : Value} {w : World} {K : Value → World → Prop} (h : Tryd.F_types_endless t0 t1 w K) : oCall Tryd.prog Tryd.n_types_endless #[t0, t1] w K :=
  calls_of_sw (cf := ⟨false, false⟩) Tryd.mixed Tryd.func68 rfl Tryd.C_types_endless ((Tryd.E_types_endless t0 t1 w K).mpr h)

/- 71: loanword/types.first -/
def Tryd.A_types_first : Ann := .s (.r (.op 0 .p (.nil))) (.s (.s (.r (.op 0 .p (.op 1 .p (.nil)))) (.b (.lp [7] (.s (.r (.op 0 .p (.nil))) (.s (.c (.n) (.n)) (.s (.b (.s (.r (.op 0 .p (.op 1 .p (.nil)))) (.s (.r (.op 0 .p (.op 1 .p (.op 2 .l (.nil))))) (.c (.s (.r (.op 0 .p (.op 1 .p (.nil)))) (.n)) (.n))))) (.r (.op 0 .p (.op 1 .p (.nil)))))))))) (.s (.r (.op 0 .p (.op 1 .p (.nil)))) (.n)))
def Tryd.F_types_first (t0 : Value) (t1 : Value) (w : World) (K : Value → World → Prop) : Prop :=
 sLoop [(Value.int .i64 0)] w (fun s2 _d3 w4 K1 =>
 opP Tryd.prog (bsem .lss 3 false (s2.getD 0 undef) t0) fun t8 =>
 oCond t8 (oCallV Tryd.prog t1 #[(s2.getD 0 undef)] w4 fun t12 w5 =>
 oCond t12 (K (s2.getD 0 undef) w5) (opP Tryd.prog (bsem .add 3 true (s2.getD 0 undef) (Value.int .i64 1)) fun t14 =>
 K1 [t14] w5)) (K t0 w4))
theorem Tryd.E_types_first (t0 t1 : Value) (w : World) (K : Value → World → Prop) : sw ⟨false, false⟩ Tryd.prog (fun _ _ => False) Tryd.A_types_first (bodyOf Tryd.f71) [t0, t1, undef, undef, undef, undef, undef, undef, undef, undef, undef, undef, undef, undef, undef, undef] w (topQ false Tryd.prog Tryd.f71 w K) = Tryd.F_types_first t0 t1 w K := by kernel_rfl
theorem Tryd.C_types_first : chk ⟨false, false⟩ Tryd.prog false Tryd.A_types_first (bodyOf Tryd.f71) = true := by kernel_rfl
theorem Tryd.ok_types_first {t0 t1 : Value} {w : World} {K : Value → World → Prop} (h : Tryd.F_types_first t0 t1 w K) : oCall Tryd.prog Tryd.n_types_first #[t0, t1] w K :=
  calls_of_sw (cf := ⟨false, false⟩) Tryd.mixed Tryd.func71 rfl Tryd.C_types_first ((Tryd.E_types_first t0 t1 w K).mpr h)

/- 25: loanword/types.Structs -/
def Tryd.A_types_Structs : Ann := .s (.r (.op 0 .l (.op 1 .p (.op 2 .p (.nil))))) (.s (.r (.op 0 .q (.op 1 .p (.op 2 .l (.op 3 .l (.nil)))))) (.s (.s (.r (.op 0 .q (.op 1 .p (.nil)))) (.c (.s (.r (.op 0 .p (.op 1 .p (.nil)))) (.n)) (.n))) (.s (.r (.op 0 .p (.op 1 .p (.op 2 .p (.op 3 .l (.op 4 .p (.nil))))))) (.s (.s (.r (.op 0 .p (.op 1 .p (.op 2 .p (.nil))))) (.b (.lp [19] (.s (.r (.op 0 .p (.nil))) (.s (.c (.n) (.n)) (.s (.b (.s (.r (.op 0 .p (.op 1 .q (.op 2 .p (.nil))))) (.s (.r (.op 0 .q (.op 1 .p (.op 2 .l (.op 3 .p (.nil)))))) (.s (.r (.op 0 .p (.op 1 .q (.op 2 .p (.nil))))) (.c (.s (.r (.op 0 .p (.op 1 .p (.op 2 .p (.nil))))) (.n)) (.n)))))) (.r (.op 0 .p (.op 1 .p (.nil)))))))))) (.s (.r (.op 0 .p (.op 1 .p (.nil)))) (.n))))))
def Tryd.F_types_Structs (t0 : Value) (w : World) (K : Value → World → Prop) : Prop :=
 opW Tryd.prog w (Instr.box 50 t0) fun t1 w1 =>
 opQ Tryd.prog w1 (Instr.loadAt 50 t1) fun t9 =>
 opP Tryd.prog (Builtin.len_ #[50] 3 #[t9]) fun t10 =>
 opW Tryd.prog w1 (Instr.alloc 3 true (.tuple #[])) fun t4 w2 =>
 opU Tryd.prog w2 (Instr.storeAt 3 t4 t10) fun w3 =>
 opQ Tryd.prog w3 (Instr.loadAt 3 t4) fun t11 =>
 opP Tryd.prog (bsem .gtr 3 true t11 (Value.int .i64 32)) fun t12 =>
 oCond t12 (K (.tuple #[(Value.int .i64 32), (Value.int .i64 2)]) w3) (opP Tryd.prog (Instr.makeFunc (.func 63) #[] #[t1, t4]) fun t13 =>
 opP Tryd.prog (Instr.makeFunc (.func 67) #[] #[t1]) fun t14 =>
 opP Tryd.prog (Instr.makeFunc (.func 69) #[] #[t1]) fun t15 =>
 opW Tryd.prog w3 (Instr.buildSlice 107 3 #[(0, t13), (1, t14), (2, t15)]) fun t16 w4 =>
 opP Tryd.prog (Builtin.len_ #[107] 3 #[t16]) fun t18 =>
 sLoop [(Value.int .i64 0)] w4 (fun s6 _d7 w8 K5 =>
 opP Tryd.prog (bsem .lss 3 false (s6.getD 0 undef) t18) fun t20 =>
 oCond t20 (opP Tryd.prog (Instr.indexAt 107 t16 (s6.getD 0 undef)) fun t21 =>
 opQ Tryd.prog w8 (Instr.loadAt 82 t21) fun t22 =>
 opQ Tryd.prog w8 (Instr.loadAt 3 t4) fun t23 =>
 oCall Tryd.prog Tryd.n_types_first #[t23, t22] w8 fun t25 w9 =>
 opQ Tryd.prog w9 (Instr.loadAt 3 t4) fun t27 =>
 opP Tryd.prog (bsem .lss 3 false t25 t27) fun t28 =>
 oCond t28 (K (.tuple #[t25, (Value.int .i64 2)]) w9) (opP Tryd.prog (bsem .add 3 true (s6.getD 0 undef) (Value.int .i64 1)) fun t30 =>
 K5 [t30] w9)) (K (.tuple #[(Value.int .i64 0), (Value.int .i64 0)]) w8)))
theorem Tryd.E_types_Structs (t0 : Value) (w : World) (K : Value → World → Prop) : sw ⟨false, false⟩ Tryd.prog (fun _ _ => False) Tryd.A_types_Structs (bodyOf Tryd.f25) [t0, undef, undef, undef, undef, undef, undef, undef, undef, undef, undef, undef, undef, undef, undef, undef, undef, undef, undef, undef, undef, undef, undef, undef, undef, undef, undef, undef, undef, undef, undef] w (topQ false Tryd.prog Tryd.f25 w K) = Tryd.F_types_Structs t0 w K := by kernel_rfl
theorem Tryd.C_types_Structs : chk ⟨false, false⟩ Tryd.prog false Tryd.A_types_Structs (bodyOf Tryd.f25) = true := by kernel_rfl
theorem Tryd.ok_types_Structs {t0 : Value} {w : World} {K : Value → World → Prop} (h : Tryd.F_types_Structs t0 w K) : oCall Tryd.prog Tryd.n_types_Structs #[t0] w K :=
  calls_of_sw (cf := ⟨false, false⟩) Tryd.mixed Tryd.func25 rfl Tryd.C_types_Structs ((Tryd.E_types_Structs t0 w K).mpr h)

/- 63: loanword/types.Structs$1 -/
def Tryd.A_types_Structs_1 : Ann := .s (.r (.op 0 .p (.nil))) (.s (.r (.op 0 .q (.op 1 .p (.op 2 .p (.op 3 .p (.op 4 .q (.op 5 .p (.nil)))))))) (.s (.r (.op 0 .p (.op 1 .p (.op 2 .p (.op 3 .p (.grp 14 false [(4, .p), (5, .p), (6, .p)] [17] (.op 7 .p (.op 8 .p (.grp 19 false [(9, .p), (10, .p), (11, .l)] [22] (.op 12 .p (.op 13 .p (.nil)))))))))))) (.n)))
def Tryd.F_types_Structs_1 (t0 : Value) (t1 : Value) (t2 : Value) (w : World) (K : Value → World → Prop) : Prop :=
 opQ Tryd.prog w (Instr.loadAt 50 t1) fun t6 =>
 opP Tryd.prog (Instr.indexAt 50 t6 t0) fun t8 =>
 opP Tryd.prog (Instr.fieldAt 99 t8 1) fun t9 =>
 opQ Tryd.prog w (Instr.loadAt 97 t9) fun t10 =>
 opP Tryd.prog (Builtin.len_ #[97] 3 #[t10]) fun t12 =>
 opP Tryd.prog (bsem .lss 3 true t12 (Value.int .i64 1)) fun t13 =>
 sJoin (fun K1 => gIf t13 false (opP Tryd.prog (Builtin.len_ #[97] 3 #[t10]) fun t16 =>
 opP Tryd.prog (bsem .gtr 3 true t16 (Value.int .i64 8)) fun t17 =>
 K1 [t17] w) (K1 [undef] w)) (fun s2 _d3 w4 =>
 oPick t13 (Value.bool true) (s2.getD 0 undef) fun t18 =>
 sJoin (fun K5 => gIf t18 false (opP Tryd.prog (Instr.makeFunc (.func 65) #[] #[t2]) fun t21 =>
 oCall Tryd.prog Tryd.n_slices_ContainsFunc_api_Field_api_Field #[t10, t21] w4 fun t22 w9 =>
 K5 [t22] w9) (K5 [undef] w4)) (fun s6 _d7 w8 =>
 oPick t18 (Value.bool true) (s6.getD 0 undef) fun t23 =>
 K t23 w8))
theorem Tryd.E_types_Structs_1 (t0 t1 t2 : Value) (w : World) (K : Value → World → Prop) : sw ⟨false, false⟩ Tryd.prog (fun _ _ => False) Tryd.A_types_Structs_1 (bodyOf Tryd.f63) [t0, t1, t2, undef, undef, undef, undef, undef, undef, undef, undef, undef, undef, undef, undef, undef, undef, undef, undef, undef, undef, undef, undef, undef] w (topQ false Tryd.prog Tryd.f63 w K) = Tryd.F_types_Structs_1 t0 t1 t2 w K := by kernel_rfl
theorem Tryd.C_types_Structs_1 : chk ⟨false, false⟩ Tryd.prog false Tryd.A_types_Structs_1 (bodyOf Tryd.f63) = true := by kernel_rfl
theorem Tryd.ok_types_Structs_1 {t0 t1 t2 : Value} {w : World} {K : Value → World → Prop} (h : Tryd.F_types_Structs_1 t0 t1 t2 w K) : oCall Tryd.prog Tryd.n_types_Structs_1 #[t0, t1, t2] w K :=
  calls_of_sw (cf := ⟨false, false⟩) Tryd.mixed Tryd.func63 rfl Tryd.C_types_Structs_1 ((Tryd.E_types_Structs_1 t0 t1 t2 w K).mpr h)

/- 65: loanword/types.Structs$1$1 -/
def Tryd.A_types_Structs_1_1 : Ann := .s (.r (.op 0 .l (.op 1 .p (.nil)))) (.s (.r (.op 0 .p (.op 1 .q (.op 2 .q (.op 3 .l (.op 4 .p (.op 5 .p (.grp 9 false [(6, .p), (7, .q), (8, .l), (9, .p), (10, .p)] [14] (.op 11 .p (.op 12 .p (.nil))))))))))) (.n))
def Tryd.F_types_Structs_1_1 (t0 : Value) (t1 : Value) (w : World) (K : Value → World → Prop) : Prop :=
 opW Tryd.prog w (Instr.box 101 t0) fun t2 w1 =>
 opP Tryd.prog (Instr.fieldAt 101 t2 1) fun t4 =>
 opQ Tryd.prog w1 (Instr.loadAt 25 t4) fun t5 =>
 opQ Tryd.prog w1 (Instr.loadAt 3 t1) fun t6 =>
 oCall Tryd.prog Tryd.n_types_look #[t5, t6, (Value.int .i64 48)] w1 fun t7 w2 =>
 opP Tryd.prog (Op.unary .not t7) fun t8 =>
 sJoin (fun K3 => gIf t8 false (opP Tryd.prog (Instr.fieldAt 101 t2 1) fun t10 =>
 opQ Tryd.prog w2 (Instr.loadAt 25 t10) fun t11 =>
 oCall Tryd.prog Tryd.n_types_regions #[t11] w2 fun t12 w7 =>
 opP Tryd.prog (Builtin.len_ #[68] 3 #[t12]) fun t13 =>
 opP Tryd.prog (bsem .gtr 3 true t13 (Value.int .i64 0)) fun t14 =>
 K3 [t14] w7) (K3 [undef] w2)) (fun s4 _d5 w6 =>
 oPick t8 (Value.bool true) (s4.getD 0 undef) fun t15 =>
 K t15 w6)
theorem Tryd.E_types_Structs_1_1 (t0 t1 : Value) (w : World) (K : Value → World → Prop) : sw ⟨false, false⟩ Tryd.prog (fun _ _ => False) Tryd.A_types_Structs_1_1 (bodyOf Tryd.f65) [t0, t1, undef, undef, undef, undef, undef, undef, undef, undef, undef, undef, undef, undef, undef, undef] w (topQ false Tryd.prog Tryd.f65 w K) = Tryd.F_types_Structs_1_1 t0 t1 w K := by kernel_rfl
theorem Tryd.C_types_Structs_1_1 : chk ⟨false, false⟩ Tryd.prog false Tryd.A_types_Structs_1_1 (bodyOf Tryd.f65) = true := by kernel_rfl
theorem Tryd.ok_types_Structs_1_1 {t0 t1 : Value} {w : World} {K : Value → World → Prop} (h : Tryd.F_types_Structs_1_1 t0 t1 w K) : oCall Tryd.prog Tryd.n_types_Structs_1_1 #[t0, t1] w K :=
  calls_of_sw (cf := ⟨false, false⟩) Tryd.mixed Tryd.func65 rfl Tryd.C_types_Structs_1_1 ((Tryd.E_types_Structs_1_1 t0 t1 w K).mpr h)

/- 67: loanword/types.Structs$2 -/
def Tryd.A_types_Structs_2 : Ann := .s (.r (.op 0 .p (.nil))) (.s (.r (.op 0 .q (.op 1 .p (.op 2 .l (.op 3 .p (.nil)))))) (.n))
def Tryd.F_types_Structs_2 (t0 : Value) (t1 : Value) (w : World) (K : Value → World → Prop) : Prop :=
 opQ Tryd.prog w (Instr.loadAt 50 t1) fun t4 =>
 oCall Tryd.prog Tryd.n_types_endless #[t4, t0] w fun t6 w1 =>
 K t6 w1
theorem Tryd.E_types_Structs_2 (t0 t1 : Value) (w : World) (K : Value → World → Prop) : sw ⟨false, false⟩ Tryd.prog (fun _ _ => False) Tryd.A_types_Structs_2 (bodyOf Tryd.f67) [t0, t1, undef, undef, undef, undef, undef] w (topQ false Tryd.prog Tryd.f67 w K) = Tryd.F_types_Structs_2 t0 t1 w K := by kernel_rfl
theorem Tryd.C_types_Structs_2 : chk ⟨false, false⟩ Tryd.prog false Tryd.A_types_Structs_2 (bodyOf Tryd.f67) = true := by kernel_rfl
theorem Tryd.ok_types_Structs_2 {t0 t1 : Value} {w : World} {K : Value → World → Prop} (h : Tryd.F_types_Structs_2 t0 t1 w K) : oCall Tryd.prog Tryd.n_types_Structs_2 #[t0, t1] w K :=
  calls_of_sw (cf := ⟨false, false⟩) Tryd.mixed Tryd.func67 rfl Tryd.C_types_Structs_2 ((Tryd.E_types_Structs_2 t0 t1 w K).mpr h)

/- 69: loanword/types.Structs$3 -/
def Tryd.A_types_Structs_3 : Ann := .s (.r (.op 0 .p (.nil))) (.s (.r (.op 0 .q (.op 1 .p (.op 2 .p (.op 3 .l (.op 4 .p (.op 5 .p (.nil)))))))) (.n))
def Tryd.F_types_Structs_3 (t0 : Value) (t1 : Value) (w : World) (K : Value → World → Prop) : Prop :=
 opQ Tryd.prog w (Instr.loadAt 50 t1) fun t4 =>
 opP Tryd.prog (Instr.build 25 #[(0, (Value.int .u8 5)), (3, t0)]) fun t6 =>
 oCall Tryd.prog Tryd.n_types_words #[t4, t6] w fun t7 w1 =>
 opP Tryd.prog (bsem .gtr 3 true t7 (Value.int .i64 16)) fun t8 =>
 K t8 w1
theorem Tryd.E_types_Structs_3 (t0 t1 : Value) (w : World) (K : Value → World → Prop) : sw ⟨false, false⟩ Tryd.prog (fun _ _ => False) Tryd.A_types_Structs_3 (bodyOf Tryd.f69) [t0, t1, undef, undef, undef, undef, undef, undef, undef] w (topQ false Tryd.prog Tryd.f69 w K) = Tryd.F_types_Structs_3 t0 t1 w K := by kernel_rfl
theorem Tryd.C_types_Structs_3 : chk ⟨false, false⟩ Tryd.prog false Tryd.A_types_Structs_3 (bodyOf Tryd.f69) = true := by kernel_rfl
theorem Tryd.ok_types_Structs_3 {t0 t1 : Value} {w : World} {K : Value → World → Prop} (h : Tryd.F_types_Structs_3 t0 t1 w K) : oCall Tryd.prog Tryd.n_types_Structs_3 #[t0, t1] w K :=
  calls_of_sw (cf := ⟨false, false⟩) Tryd.mixed Tryd.func69 rfl Tryd.C_types_Structs_3 ((Tryd.E_types_Structs_3 t0 t1 w K).mpr h)

/- 27: loanword/types.May -/
def Tryd.A_types_May : Ann := .s (.r (.op 0 .l (.op 1 .p (.nil)))) (.s (.r (.op 0 .p (.op 1 .l (.op 2 .p (.op 3 .p (.op 4 .p (.op 5 .p (.op 6 .p (.nil))))))))) (.s (.r (.op 0 .p (.op 1 .p (.op 2 .p (.grp 14 true [(3, .q), (4, .p), (5, .p), (6, .l)] [18] (.op 7 .p (.op 8 .p (.nil)))))))) (.n)))
def Tryd.F_types_May (t0 : Value) (t1 : Value) (w : World) (K : Value → World → Prop) : Prop :=
 opW Tryd.prog w (Instr.box 25 t1) fun t3 w1 =>
 oCall Tryd.prog Tryd.n_types_Structs #[t0] w1 fun t9 w2 =>
 opP Tryd.prog (Instr.extract t9 0) fun _t10 =>
 opP Tryd.prog (Instr.extract t9 1) fun t11 =>
 opP Tryd.prog (bsem .eql 29 true t11 (Value.int .i64 0)) fun t13 =>
 sJoin (fun K3 => gIf t13 true (opQ Tryd.prog w2 (Instr.loadAt 25 t3) fun t15 =>
 opP Tryd.prog (Builtin.len_ #[50] 3 #[t0]) fun t17 =>
 oCall Tryd.prog Tryd.n_types_look #[t15, t17, (Value.int .i64 48)] w2 fun t18 w7 =>
 K3 [t18] w7) (K3 [undef] w2)) (fun s4 _d5 w6 =>
 oPick t13 (s4.getD 0 undef) (Value.bool false) fun t19 =>
 K t19 w6)
theorem Tryd.E_types_May (t0 t1 : Value) (w : World) (K : Value → World → Prop) : sw ⟨false, false⟩ Tryd.prog (fun _ _ => False) Tryd.A_types_May (bodyOf Tryd.f27) [t0, t1, undef, undef, undef, undef, undef, undef, undef, undef, undef, undef, undef, undef, undef, undef, undef, undef, undef, undef] w (topQ false Tryd.prog Tryd.f27 w K) = Tryd.F_types_May t0 t1 w K := by kernel_rfl
theorem Tryd.C_types_May : chk ⟨false, false⟩ Tryd.prog false Tryd.A_types_May (bodyOf Tryd.f27) = true := by kernel_rfl
theorem Tryd.ok_types_May {t0 t1 : Value} {w : World} {K : Value → World → Prop} (h : Tryd.F_types_May t0 t1 w K) : oCall Tryd.prog Tryd.n_types_May #[t0, t1] w K :=
  calls_of_sw (cf := ⟨false, false⟩) Tryd.mixed Tryd.func27 rfl Tryd.C_types_May ((Tryd.E_types_May t0 t1 w K).mpr h)

/- 31: loanword/types.Words -/
def Tryd.A_types_Words : Ann := .s (.r (.op 0 .l (.op 1 .p (.op 2 .p (.nil))))) (.s (.s (.r (.op 0 .p (.op 1 .q (.op 2 .l (.op 3 .p (.nil)))))) (.c (.s (.r (.op 0 .p (.op 1 .p (.nil)))) (.n)) (.n))) (.s (.r (.op 0 .p (.op 1 .q (.op 2 .l (.op 3 .p (.op 4 .p (.nil))))))) (.n)))
def Tryd.F_types_Words (t0 : Value) (t1 : Value) (w : World) (K : Value → World → Prop) : Prop :=
 opW Tryd.prog w (Instr.box 25 t1) fun t3 w1 =>
 opQ Tryd.prog w1 (Instr.loadAt 25 t3) fun t7 =>
 oCall Tryd.prog Tryd.n_types_May #[t0, t7] w1 fun t8 w2 =>
 opP Tryd.prog (Op.unary .not t8) fun t9 =>
 oCond t9 (K (.tuple #[(Value.int .i64 0), (Value.int .i64 2)]) w2) (opQ Tryd.prog w2 (Instr.loadAt 25 t3) fun t11 =>
 oCall Tryd.prog Tryd.n_types_words #[t0, t11] w2 fun t12 w3 =>
 K (.tuple #[t12, (Value.int .i64 0)]) w3)
theorem Tryd.E_types_Words (t0 t1 : Value) (w : World) (K : Value → World → Prop) : sw ⟨false, false⟩ Tryd.prog (fun _ _ => False) Tryd.A_types_Words (bodyOf Tryd.f31) [t0, t1, undef, undef, undef, undef, undef, undef, undef, undef, undef, undef, undef] w (topQ false Tryd.prog Tryd.f31 w K) = Tryd.F_types_Words t0 t1 w K := by kernel_rfl
theorem Tryd.C_types_Words : chk ⟨false, false⟩ Tryd.prog false Tryd.A_types_Words (bodyOf Tryd.f31) = true := by kernel_rfl
theorem Tryd.ok_types_Words {t0 t1 : Value} {w : World} {K : Value → World → Prop} (h : Tryd.F_types_Words t0 t1 w K) : oCall Tryd.prog Tryd.n_types_Words #[t0, t1] w K :=
  calls_of_sw (cf := ⟨false, false⟩) Tryd.mixed Tryd.func31 rfl Tryd.C_types_Words ((Tryd.E_types_Words t0 t1 w K).mpr h)

/- 76: loanword/types.drops -/
def Tryd.A_types_drops : Ann := .s (.r (.op 0 .l (.op 1 .l (.op 2 .p (.nil))))) (.s (.s (.r (.op 0 .p (.op 1 .q (.nil)))) (.b (.s (.r (.op 0 .p (.op 1 .p (.nil)))) (.c (.s (.r (.op 0 .p (.nil))) (.n)) (.s (.r (.op 0 .p (.op 1 .p (.nil)))) (.c (.s (.r (.op 0 .q (.op 1 .p (.op 2 .q (.op 3 .p (.op 4 .p (.op 5 .q (.op 6 .p (.op 7 .l (.op 8 .p (.nil))))))))))) (.n)) (.n))))))) (.s (.r (.op 0 .p (.nil))) (.n)))
def Tryd.F_types_drops (t0 : Value) (t1 : Value) (w : World) (K : Value → World → Prop) : Prop :=
 opW Tryd.prog w (Instr.box 50 t0) fun t2 w1 =>
 opW Tryd.prog w1 (Instr.box 25 t1) fun t3 w2 =>
 opP Tryd.prog (Instr.fieldAt 25 t3 0) fun t5 =>
 opQ Tryd.prog w2 (Instr.loadAt 22 t5) fun t6 =>
 opP Tryd.prog (bsem .eql 22 true t6 (Value.int .u8 3)) fun t8 =>
 oCond t8 (K (Value.bool true) w2) (opP Tryd.prog (bsem .eql 22 true t6 (Value.int .u8 5)) fun t10 =>
 oCond t10 (opQ Tryd.prog w2 (Instr.loadAt 50 t2) fun t11 =>
 opP Tryd.prog (Instr.fieldAt 25 t3 3) fun t12 =>
 opQ Tryd.prog w2 (Instr.loadAt 3 t12) fun t13 =>
 opP Tryd.prog (Instr.indexAt 50 t11 t13) fun t14 =>
 opP Tryd.prog (Instr.fieldAt 99 t14 1) fun t15 =>
 opQ Tryd.prog w2 (Instr.loadAt 97 t15) fun t16 =>
 opP Tryd.prog (Instr.makeFunc (.func 98) #[] #[t2]) fun t17 =>
 oCall Tryd.prog Tryd.n_slices_ContainsFunc_api_Field_api_Field #[t16, t17] w2 fun t18 w3 =>
 K t18 w3) (K (Value.bool false) w2))
theorem Tryd.E_types_drops (t0 t1 : Value) (w : World) (K : Value → World → Prop) : sw ⟨false, false⟩ Tryd.prog (fun _ _ => False) Tryd.A_types_drops (bodyOf Tryd.f76) [t0, t1, undef, undef, undef, undef, undef, undef, undef, undef, undef, undef, undef, undef, undef, undef, undef, undef, undef] w (topQ false Tryd.prog Tryd.f76 w K) = Tryd.F_types_drops t0 t1 w K := by kernel_rfl
theorem Tryd.C_types_drops : chk ⟨false, false⟩ Tryd.prog false Tryd.A_types_drops (bodyOf Tryd.f76) = true := by kernel_rfl
theorem Tryd.ok_types_drops {t0 t1 : Value} {w : World} {K : Value → World → Prop} (h : Tryd.F_types_drops t0 t1 w K) : oCall Tryd.prog Tryd.n_types_drops #[t0, t1] w K :=
  calls_of_sw (cf := ⟨false, false⟩) Tryd.mixed Tryd.func76 rfl Tryd.C_types_drops ((Tryd.E_types_drops t0 t1 w K).mpr h)

/- 98: loanword/types.drops$1 -/
def Tryd.A_types_drops_1 : Ann := .s (.r (.op 0 .l (.op 1 .p (.nil)))) (.s (.r (.op 0 .q (.op 1 .p (.op 2 .q (.op 3 .l (.op 4 .p (.nil))))))) (.n))
def Tryd.F_types_drops_1 (t0 : Value) (t1 : Value) (w : World) (K : Value → World → Prop) : Prop :=
 opW Tryd.prog w (Instr.box 101 t0) fun t2 w1 =>
 opQ Tryd.prog w1 (Instr.loadAt 50 t1) fun t4 =>
 opP Tryd.prog (Instr.fieldAt 101 t2 1) fun t5 =>
 opQ Tryd.prog w1 (Instr.loadAt 25 t5) fun t6 =>
 oCall Tryd.prog Tryd.n_types_drops #[t4, t6] w1 fun t7 w2 =>
 K t7 w2
theorem Tryd.E_types_drops_1 (t0 t1 : Value) (w : World) (K : Value → World → Prop) : sw ⟨false, false⟩ Tryd.prog (fun _ _ => False) Tryd.A_types_drops_1 (bodyOf Tryd.f98) [t0, t1, undef, undef, undef, undef, undef, undef] w (topQ false Tryd.prog Tryd.f98 w K) = Tryd.F_types_drops_1 t0 t1 w K := by kernel_rfl
theorem Tryd.C_types_drops_1 : chk ⟨false, false⟩ Tryd.prog false Tryd.A_types_drops_1 (bodyOf Tryd.f98) = true := by kernel_rfl
theorem Tryd.ok_types_drops_1 {t0 t1 : Value} {w : World} {K : Value → World → Prop} (h : Tryd.F_types_drops_1 t0 t1 w K) : oCall Tryd.prog Tryd.n_types_drops_1 #[t0, t1] w K :=
  calls_of_sw (cf := ⟨false, false⟩) Tryd.mixed Tryd.func98 rfl Tryd.C_types_drops_1 ((Tryd.E_types_drops_1 t0 t1 w K).mpr h)

/- 33: loanword/types.Drops -/
def Tryd.A_types_Drops : Ann := .s (.r (.op 0 .l (.op 1 .p (.op 2 .p (.nil))))) (.s (.s (.r (.op 0 .p (.op 1 .q (.op 2 .l (.op 3 .p (.nil)))))) (.c (.s (.r (.op 0 .p (.op 1 .p (.nil)))) (.n)) (.n))) (.s (.r (.op 0 .p (.op 1 .q (.op 2 .l (.op 3 .p (.op 4 .p (.nil))))))) (.n)))
def Tryd.F_types_Drops (t0 : Value) (t1 : Value) (w : World) (K : Value → World → Prop) : Prop :=
 opW Tryd.prog w (Instr.box 25 t1) fun t3 w1 =>
 opQ Tryd.prog w1 (Instr.loadAt 25 t3) fun t7 =>
 oCall Tryd.prog Tryd.n_types_May #[t0, t7] w1 fun t8 w2 =>
 opP Tryd.prog (Op.unary .not t8) fun t9 =>
 oCond t9 (K (.tuple #[(Value.bool false), (Value.int .i64 2)]) w2) (opQ Tryd.prog w2 (Instr.loadAt 25 t3) fun t11 =>
 oCall Tryd.prog Tryd.n_types_drops #[t0, t11] w2 fun t12 w3 =>
 K (.tuple #[t12, (Value.int .i64 0)]) w3)
theorem Tryd.E_types_Drops (t0 t1 : Value) (w : World) (K : Value → World → Prop) : sw ⟨false, false⟩ Tryd.prog (fun _ _ => False) Tryd.A_types_Drops (bodyOf Tryd.f33) [t0, t1, undef, undef, undef, undef, undef, undef, undef, undef, undef, undef, undef] w (topQ false Tryd.prog Tryd.f33 w K) = Tryd.F_types_Drops t0 t1 w K := by kernel_rfl
theorem Tryd.C_types_Drops : chk ⟨false, false⟩ Tryd.prog false Tryd.A_types_Drops (bodyOf Tryd.f33) = true := by kernel_rfl
theorem Tryd.ok_types_Drops {t0 t1 : Value} {w : World} {K : Value → World → Prop} (h : Tryd.F_types_Drops t0 t1 w K) : oCall Tryd.prog Tryd.n_types_Drops #[t0, t1] w K :=
  calls_of_sw (cf := ⟨false, false⟩) Tryd.mixed Tryd.func33 rfl Tryd.C_types_Drops ((Tryd.E_types_Drops t0 t1 w K).mpr h)

/- 29: loanword/types.Copies -/
def Tryd.A_types_Copies : Ann := .s (.r (.op 0 .l (.op 1 .p (.nil)))) (.s (.s (.r (.op 0 .q (.op 1 .l (.op 2 .p (.nil))))) (.c (.s (.r (.op 0 .p (.nil))) (.n)) (.n))) (.s (.s (.r (.op 0 .p (.op 1 .q (.nil)))) (.b (.j [8] (.s (.r (.op 0 .p (.op 1 .p (.nil)))) (.c (.n) (.r (.op 0 .p (.op 1 .p (.nil)))))) (.c (.s (.r (.op 0 .p (.nil))) (.n)) (.s (.r (.op 0 .p (.op 1 .p (.nil)))) (.c (.s (.r (.op 0 .p (.op 1 .q (.op 2 .p (.op 3 .p (.nil)))))) (.n)) (.n))))))) (.s (.r (.op 0 .p (.nil))) (.n))))
def Tryd.F_types_Copies (t0 : Value) (w : World) (K : Value → World → Prop) : Prop :=
 opW Tryd.prog w (Instr.box 25 t0) fun t1 w1 =>
 opQ Tryd.prog w1 (Instr.loadAt 25 t1) fun t3 =>
 oCall Tryd.prog Tryd.n_types_may #[t3] w1 fun t4 w2 =>
 opP Tryd.prog (Op.unary .not t4) fun t5 =>
 oCond t5 (K (Value.bool false) w2) (opP Tryd.prog (Instr.fieldAt 25 t1 0) fun t6 =>
 opQ Tryd.prog w2 (Instr.loadAt 22 t6) fun t7 =>
 sJoin (fun K3 =>
 opP Tryd.prog (bsem .eql 22 true t7 (Value.int .u8 1)) fun t9 =>
 oCond t9 (K3 [t9] w2) (opP Tryd.prog (bsem .eql 22 true t7 (Value.int .u8 2)) fun t10 =>
 K3 [t10] w2)) (fun s4 _d5 w6 =>
 oCond (s4.getD 0 undef) (K (Value.bool true) w6) (opP Tryd.prog (bsem .eql 22 true t7 (Value.int .u8 4)) fun t12 =>
 oCond t12 (opP Tryd.prog (Instr.fieldAt 25 t1 1) fun t13 =>
 opQ Tryd.prog w6 (Instr.loadAt 4 t13) fun t14 =>
 opP Tryd.prog (Op.unary .not t14) fun t15 =>
 K t15 w6) (K (Value.bool false) w6))))
theorem Tryd.E_types_Copies (t0 : Value) (w : World) (K : Value → World → Prop) : sw ⟨false, false⟩ Tryd.prog (fun _ _ => False) Tryd.A_types_Copies (bodyOf Tryd.f29) [t0, undef, undef, undef, undef, undef, undef, undef, undef, undef, undef, undef, undef, undef, undef, undef] w (topQ false Tryd.prog Tryd.f29 w K) = Tryd.F_types_Copies t0 w K := by kernel_rfl
theorem Tryd.C_types_Copies : chk ⟨false, false⟩ Tryd.prog false Tryd.A_types_Copies (bodyOf Tryd.f29) = true := by kernel_rfl
theorem Tryd.ok_types_Copies {t0 : Value} {w : World} {K : Value → World → Prop} (h : Tryd.F_types_Copies t0 w K) : oCall Tryd.prog Tryd.n_types_Copies #[t0] w K :=
  calls_of_sw (cf := ⟨false, false⟩) Tryd.mixed Tryd.func29 rfl Tryd.C_types_Copies ((Tryd.E_types_Copies t0 w K).mpr h)

/- 78: loanword/types.own -/
def Tryd.A_types_own : Ann := .s (.r (.op 0 .l (.op 1 .l (.nil)))) (.j [] (.s (.r (.op 0 .p (.op 1 .q (.op 2 .p (.op 3 .p (.nil)))))) (.c (.r (.op 0 .p (.op 1 .q (.op 2 .p (.op 3 .q (.op 4 .l (.op 5 .l (.op 6 .p (.op 7 .l (.nil)))))))))) (.r (.op 0 .p (.op 1 .l (.nil)))))) (.s (.r (.op 0 .q (.op 1 .l (.nil)))) (.n)))
def Tryd.F_types_own (t0 : Value) (w : World) (K : Value → World → Prop) : Prop :=
 opW Tryd.prog w (Instr.box 25 t0) fun t1 w1 =>
 opW Tryd.prog w1 (Instr.alloc 25 true (.tuple #[])) fun t2 w2 =>
 sJoin (fun K3 =>
 opP Tryd.prog (Instr.fieldAt 25 t1 4) fun t3 =>
 opQ Tryd.prog w2 (Instr.loadAt 23 t3) fun t4 =>
 opP Tryd.prog (Builtin.len_ #[23] 3 #[t4]) fun t5 =>
 opP Tryd.prog (bsem .gtr 3 true t5 (Value.int .i64 0)) fun t6 =>
 oCond t6 (opP Tryd.prog (Instr.fieldAt 25 t1 4) fun t7 =>
 opQ Tryd.prog w2 (Instr.loadAt 23 t7) fun t8 =>
 opP Tryd.prog (Instr.indexAt 23 t8 (Value.int .i64 0)) fun t9 =>
 opQ Tryd.prog w2 (Instr.loadAt 25 t9) fun t10 =>
 oCall Tryd.prog Tryd.n_types_own #[t10] w2 fun t11 w7 =>
 opW Tryd.prog w7 (Instr.buildSlice 23 1 #[(0, t11)]) fun t12 w8 =>
 opP Tryd.prog (Instr.fieldAt 25 t1 4) fun t13 =>
 opU Tryd.prog w8 (Instr.storeAt 23 t13 t12) fun w9 =>
 K3 [] w9) (opP Tryd.prog (Instr.fieldAt 25 t1 4) fun t14 =>
 opU Tryd.prog w2 (Instr.storeAt 23 t14 (Value.slice Option.none 0 0)) fun w10 =>
 K3 [] w10)) (fun _s4 _d5 w6 =>
 opQ Tryd.prog w6 (Instr.loadAt 25 t1) fun t15 =>
 opU Tryd.prog w6 (Instr.storeAt 25 t2 t15) fun w11 =>
 opQ Tryd.prog w11 (cellSem 25 t2) fun r12 =>
 K r12 w11)
theorem Tryd.E_types_own (t0 : Value) (w : World) (K : Value → World → Prop) : sw ⟨false, false⟩ Tryd.prog (fun _ _ => False) Tryd.A_types_own (bodyOf Tryd.f78) [t0, undef, undef, undef, undef, undef, undef, undef, undef, undef, undef, undef, undef, undef, undef, undef] w (topQ false Tryd.prog Tryd.f78 w K) = Tryd.F_types_own t0 w K := by kernel_rfl
theorem Tryd.C_types_own : chk ⟨false, false⟩ Tryd.prog false Tryd.A_types_own (bodyOf Tryd.f78) = true := by kernel_rfl
theorem Tryd.ok_types_own {t0 : Value} {w : World} {K : Value → World → Prop} (h : Tryd.F_types_own t0 w K) : oCall Tryd.prog Tryd.n_types_own #[t0] w K :=
  calls_of_sw (cf := ⟨false, false⟩) Tryd.mixed Tryd.func78 rfl Tryd.C_types_own ((Tryd.E_types_own t0 w K).mpr h)

/- 37: loanword/types.Own -/
def Tryd.A_types_Own : Ann := .s (.r (.op 0 .l (.op 1 .l (.op 2 .p (.nil))))) (.s (.s (.r (.op 0 .q (.op 1 .l (.op 2 .p (.nil))))) (.c (.s (.r (.op 0 .p (.op 1 .l (.op 2 .p (.nil))))) (.n)) (.n))) (.s (.r (.op 0 .q (.op 1 .l (.op 2 .l (.op 3 .p (.nil)))))) (.n)))
def Tryd.F_types_Own (t0 : Value) (w : World) (K : Value → World → Prop) : Prop :=
 opW Tryd.prog w (Instr.box 25 t0) fun t1 w1 =>
 opW Tryd.prog w1 (Instr.alloc 25 true (.tuple #[])) fun t2 w2 =>
 opQ Tryd.prog w2 (Instr.loadAt 25 t1) fun t4 =>
 oCall Tryd.prog Tryd.n_types_may #[t4] w2 fun t5 w3 =>
 opP Tryd.prog (Op.unary .not t5) fun t6 =>
 oCond t6 (opP Tryd.prog (Instr.build 25 #[]) fun t7 =>
 opU Tryd.prog w3 (Instr.storeAt 25 t2 t7) fun w4 =>
 opQ Tryd.prog w4 (cellSem 25 t2) fun r5 =>
 K (.tuple #[r5, (Value.int .i64 2)]) w4) (opQ Tryd.prog w3 (Instr.loadAt 25 t1) fun t8 =>
 oCall Tryd.prog Tryd.n_types_own #[t8] w3 fun t9 w6 =>
 opU Tryd.prog w6 (Instr.storeAt 25 t2 t9) fun w7 =>
 opQ Tryd.prog w7 (cellSem 25 t2) fun r8 =>
 K (.tuple #[r8, (Value.int .i64 0)]) w7)
theorem Tryd.E_types_Own (t0 : Value) (w : World) (K : Value → World → Prop) : sw ⟨false, false⟩ Tryd.prog (fun _ _ => False) Tryd.A_types_Own (bodyOf Tryd.f37) [t0, undef, undef, undef, undef, undef, undef, undef, undef, undef] w (topQ false Tryd.prog Tryd.f37 w K) = Tryd.F_types_Own t0 w K := by kernel_rfl
theorem Tryd.C_types_Own : chk ⟨false, false⟩ Tryd.prog false Tryd.A_types_Own (bodyOf Tryd.f37) = true := by kernel_rfl
theorem Tryd.ok_types_Own {t0 : Value} {w : World} {K : Value → World → Prop} (h : Tryd.F_types_Own t0 w K) : oCall Tryd.prog Tryd.n_types_Own #[t0] w K :=
  calls_of_sw (cf := ⟨false, false⟩) Tryd.mixed Tryd.func37 rfl Tryd.C_types_Own ((Tryd.E_types_Own t0 w K).mpr h)

/- 60: loanword/types.alike -/
def Tryd.A_types_alike : Ann := .s (.r (.op 0 .l (.op 1 .l (.op 2 .p (.nil))))) (.s (.s (.r (.op 0 .p (.op 1 .q (.op 2 .p (.op 3 .q (.op 4 .p (.op 5 .p (.grp 12 false [(6, .p), (7, .q), (8, .p), (9, .q), (10, .p)] [17] (.op 11 .p (.op 12 .p (.grp 19 false [(13, .p), (14, .q), (15, .p), (16, .q), (17, .p)] [24] (.op 18 .p (.op 19 .p (.grp 26 false [(20, .p), (21, .p), (22, .q), (23, .p), (24, .q), (25, .l), (26, .p)] [33] (.op 27 .p (.nil)))))))))))))))) (.c (.s (.r (.op 0 .p (.nil))) (.n)) (.n))) (.s (.r (.op 0 .p (.op 1 .q (.op 2 .p (.op 3 .p (.op 4 .p (.grp 39 false [(5, .p), (6, .q), (7, .p), (8, .q), (9, .p), (10, .q), (11, .p), (12, .q), (13, .p), (14, .l)] [49] (.op 15 .p (.op 16 .p (.nil)))))))))) (.n)))
def Tryd.F_types_alike (t0 : Value) (t1 : Value) (t2 : Value) (w : World) (K : Value → World → Prop) : Prop :=
 opW Tryd.prog w (Instr.box 25 t0) fun t3 w1 =>
 opW Tryd.prog w1 (Instr.box 25 t1) fun t4 w2 =>
 opP Tryd.prog (Instr.fieldAt 25 t3 0) fun t7 =>
 opQ Tryd.prog w2 (Instr.loadAt 22 t7) fun t8 =>
 opP Tryd.prog (Instr.fieldAt 25 t4 0) fun t9 =>
 opQ Tryd.prog w2 (Instr.loadAt 22 t9) fun t10 =>
 opP Tryd.prog (bsem .neq 22 false t8 t10) fun t11 =>
 sJoin (fun K3 => gIf t11 false (opP Tryd.prog (Instr.fieldAt 25 t3 1) fun t13 =>
 opQ Tryd.prog w2 (Instr.loadAt 4 t13) fun t14 =>
 opP Tryd.prog (Instr.fieldAt 25 t4 1) fun t15 =>
 opQ Tryd.prog w2 (Instr.loadAt 4 t15) fun t16 =>
 opP Tryd.prog (bsem .neq 4 false t14 t16) fun t17 =>
 K3 [t17] w2) (K3 [undef] w2)) (fun s4 _d5 w6 =>
 oPick t11 (Value.bool true) (s4.getD 0 undef) fun t18 =>
 sJoin (fun K7 => gIf t18 false (opP Tryd.prog (Instr.fieldAt 25 t3 3) fun t20 =>
 opQ Tryd.prog w6 (Instr.loadAt 3 t20) fun t21 =>
 opP Tryd.prog (Instr.fieldAt 25 t4 3) fun t22 =>
 opQ Tryd.prog w6 (Instr.loadAt 3 t22) fun t23 =>
 opP Tryd.prog (bsem .neq 3 false t21 t23) fun t24 =>
 K7 [t24] w6) (K7 [undef] w6)) (fun s8 _d9 w10 =>
 oPick t18 (Value.bool true) (s8.getD 0 undef) fun t25 =>
 sJoin (fun K11 => gIf t25 false (opP Tryd.prog (Instr.fieldAt 25 t3 2) fun t28 =>
 opQ Tryd.prog w10 (Instr.loadAt 3 t28) fun t29 =>
 opP Tryd.prog (Instr.fieldAt 25 t4 2) fun t30 =>
 opQ Tryd.prog w10 (Instr.loadAt 3 t30) fun t31 =>
 oCallV Tryd.prog t2 #[t29, t31] w10 fun t32 w15 =>
 opP Tryd.prog (Op.unary .not t32) fun t33 =>
 K11 [t33] w15) (K11 [undef] w10)) (fun s12 _d13 w14 =>
 oPick t25 (Value.bool true) (s12.getD 0 undef) fun t34 =>
 oCond t34 (K (Value.bool false) w14) (opP Tryd.prog (Instr.fieldAt 25 t3 4) fun t35 =>
 opQ Tryd.prog w14.drew (Instr.loadAt 23 t35) fun t36 =>
 opP Tryd.prog (Builtin.len_ #[23] 3 #[t36]) fun t37 =>
 opP Tryd.prog (bsem .eql 3 true t37 (Value.int .i64 0)) fun t38 =>
 sJoin (fun K16 => gIf t38 false (opP Tryd.prog (Instr.fieldAt 25 t3 4) fun t40 =>
 opQ Tryd.prog w14.drew (Instr.loadAt 23 t40) fun t41 =>
 opP Tryd.prog (Instr.indexAt 23 t41 (Value.int .i64 0)) fun t42 =>
 opQ Tryd.prog w14.drew (Instr.loadAt 25 t42) fun t43 =>
 opP Tryd.prog (Instr.fieldAt 25 t4 4) fun t44 =>
 opQ Tryd.prog w14.drew (Instr.loadAt 23 t44) fun t45 =>
 opP Tryd.prog (Instr.indexAt 23 t45 (Value.int .i64 0)) fun t46 =>
 opQ Tryd.prog w14.drew (Instr.loadAt 25 t46) fun t47 =>
 oCall Tryd.prog Tryd.n_types_alike #[t43, t47, t2] w14.drew fun t49 w20 =>
 K16 [t49] w20) (K16 [undef] w14.drew)) (fun s17 _d18 w19 =>
 oPick t38 (Value.bool true) (s17.getD 0 undef) fun t50 =>
 K t50 w19)))))
theorem Tryd.E_types_alike (t0 t1 t2 : Value) (w : World) (K : Value → World → Prop) : sw ⟨false, false⟩ Tryd.prog (fun _ _ => False) Tryd.A_types_alike (bodyOf Tryd.f60) [t0, t1, t2, undef, undef, undef, undef, undef, undef, undef, undef, undef, undef, undef, undef, undef, undef, undef, undef, undef, undef, undef, undef, undef, undef, undef, undef, undef, undef, undef, undef, undef, undef, undef, undef, undef, undef, undef, undef, undef, undef, undef, undef, undef, undef, undef, undef, undef, undef, undef, undef] w (topQ false Tryd.prog Tryd.f60 w K) = Tryd.F_types_alike t0 t1 t2 w K := by kernel_rfl
theorem Tryd.C_types_alike : chk ⟨false, false⟩ Tryd.prog false Tryd.A_types_alike (bodyOf Tryd.f60) = true := by kernel_rfl
theorem Tryd.ok_types_alike {t0 t1 t2 : Value} {w : World} {K : Value → World → Prop} (h : Tryd.F_types_alike t0 t1 t2 w K) : oCall Tryd.prog Tryd.n_types_alike #[t0, t1, t2] w K :=
  calls_of_sw (cf := ⟨false, false⟩) Tryd.mixed Tryd.func60 rfl Tryd.C_types_alike ((Tryd.E_types_alike t0 t1 t2 w K).mpr h)

/- 20: loanword/types.Alike -/
def Tryd.A_types_Alike : Ann := .s (.r (.op 0 .l (.op 1 .l (.op 2 .p (.nil))))) (.s (.r (.op 0 .q (.op 1 .l (.op 2 .p (.grp 7 true [(3, .q), (4, .l)] [9] (.op 5 .p (.op 6 .p (.grp 11 true [(7, .q), (8, .q), (9, .l)] [14] (.op 10 .p (.op 11 .p (.nil))))))))))) (.n))
def Tryd.F_types_Alike (t0 : Value) (t1 : Value) (w : World) (K : Value → World → Prop) : Prop :=
 opW Tryd.prog w (Instr.box 25 t0) fun t2 w1 =>
 opW Tryd.prog w1 (Instr.box 25 t1) fun t3 w2 =>
 opQ Tryd.prog w2 (Instr.loadAt 25 t2) fun t5 =>
 oCall Tryd.prog Tryd.n_types_may #[t5] w2 fun t6 w3 =>
 sJoin (fun K4 => gIf t6 true (opQ Tryd.prog w3 (Instr.loadAt 25 t3) fun t8 =>
 oCall Tryd.prog Tryd.n_types_may #[t8] w3 fun t9 w8 =>
 K4 [t9] w8) (K4 [undef] w3)) (fun s5 _d6 w7 =>
 oPick t6 (s5.getD 0 undef) (Value.bool false) fun t10 =>
 sJoin (fun K9 => gIf t10 true (opQ Tryd.prog w7 (Instr.loadAt 25 t2) fun t12 =>
 opQ Tryd.prog w7 (Instr.loadAt 25 t3) fun t13 =>
 oCall Tryd.prog Tryd.n_types_alike #[t12, t13, (Value.func (.func 61) #[] #[])] w7 fun t14 w13 =>
 K9 [t14] w13) (K9 [undef] w7)) (fun s10 _d11 w12 =>
 oPick t10 (s10.getD 0 undef) (Value.bool false) fun t15 =>
 K t15 w12))
theorem Tryd.E_types_Alike (t0 t1 : Value) (w : World) (K : Value → World → Prop) : sw ⟨false, false⟩ Tryd.prog (fun _ _ => False) Tryd.A_types_Alike (bodyOf Tryd.f20) [t0, t1, undef, undef, undef, undef, undef, undef, undef, undef, undef, undef, undef, undef, undef, undef] w (topQ false Tryd.prog Tryd.f20 w K) = Tryd.F_types_Alike t0 t1 w K := by kernel_rfl
theorem Tryd.C_types_Alike : chk ⟨false, false⟩ Tryd.prog false Tryd.A_types_Alike (bodyOf Tryd.f20) = true := by kernel_rfl
theorem Tryd.ok_types_Alike {t0 t1 : Value} {w : World} {K : Value → World → Prop} (h : Tryd.F_types_Alike t0 t1 w K) : oCall Tryd.prog Tryd.n_types_Alike #[t0, t1] w K :=
  calls_of_sw (cf := ⟨false, false⟩) Tryd.mixed Tryd.func20 rfl Tryd.C_types_Alike ((Tryd.E_types_Alike t0 t1 w K).mpr h)

/- 61: loanword/types.Alike$1 -/
def Tryd.A_types_Alike_1 : Ann := .s (.r (.op 0 .p (.nil))) (.s (.r (.op 0 .p (.nil))) (.n))
def Tryd.F_types_Alike_1 (_t0 : Value) (_t1 : Value) (w : World) (K : Value → World → Prop) : Prop :=
 K (Value.bool true) w
theorem Tryd.E_types_Alike_1 (t0 t1 : Value) (w : World) (K : Value → World → Prop) : sw ⟨false, false⟩ Tryd.prog (fun _ _ => False) Tryd.A_types_Alike_1 (bodyOf Tryd.f61) [t0, t1, undef, undef, undef] w (topQ false Tryd.prog Tryd.f61 w K) = Tryd.F_types_Alike_1 t0 t1 w K := by kernel_rfl
theorem Tryd.C_types_Alike_1 : chk ⟨false, false⟩ Tryd.prog false Tryd.A_types_Alike_1 (bodyOf Tryd.f61) = true := by kernel_rfl
theorem Tryd.ok_types_Alike_1 {t0 t1 : Value} {w : World} {K : Value → World → Prop} (h : Tryd.F_types_Alike_1 t0 t1 w K) : oCall Tryd.prog Tryd.n_types_Alike_1 #[t0, t1] w K :=
  calls_of_sw (cf := ⟨false, false⟩) Tryd.mixed Tryd.func61 rfl Tryd.C_types_Alike_1 ((Tryd.E_types_Alike_1 t0 t1 w K).mpr h)

/- 23: loanword/types.Same -/
def Tryd.A_types_Same : Ann := .s (.r (.op 0 .l (.op 1 .l (.op 2 .p (.nil))))) (.s (.r (.op 0 .q (.op 1 .l (.op 2 .p (.grp 7 true [(3, .q), (4, .l)] [9] (.op 5 .p (.op 6 .p (.grp 11 true [(7, .q), (8, .q), (9, .l)] [14] (.op 10 .p (.op 11 .p (.nil))))))))))) (.n))
def Tryd.F_types_Same (t0 : Value) (t1 : Value) (w : World) (K : Value → World → Prop) : Prop :=
 opW Tryd.prog w (Instr.box 25 t0) fun t2 w1 =>
 opW Tryd.prog w1 (Instr.box 25 t1) fun t3 w2 =>
 opQ Tryd.prog w2 (Instr.loadAt 25 t2) fun t5 =>
 oCall Tryd.prog Tryd.n_types_may #[t5] w2 fun t6 w3 =>
 sJoin (fun K4 => gIf t6 true (opQ Tryd.prog w3 (Instr.loadAt 25 t3) fun t8 =>
 oCall Tryd.prog Tryd.n_types_may #[t8] w3 fun t9 w8 =>
 K4 [t9] w8) (K4 [undef] w3)) (fun s5 _d6 w7 =>
 oPick t6 (s5.getD 0 undef) (Value.bool false) fun t10 =>
 sJoin (fun K9 => gIf t10 true (opQ Tryd.prog w7 (Instr.loadAt 25 t2) fun t12 =>
 opQ Tryd.prog w7 (Instr.loadAt 25 t3) fun t13 =>
 oCall Tryd.prog Tryd.n_types_alike #[t12, t13, (Value.func (.func 62) #[] #[])] w7 fun t14 w13 =>
 K9 [t14] w13) (K9 [undef] w7)) (fun s10 _d11 w12 =>
 oPick t10 (s10.getD 0 undef) (Value.bool false) fun t15 =>
 K t15 w12))
theorem Tryd.E_types_Same (t0 t1 : Value) (w : World) (K : Value → World → Prop) : sw ⟨false, false⟩ Tryd.prog (fun _ _ => False) Tryd.A_types_Same (bodyOf Tryd.f23) [t0, t1, undef, undef, undef, undef, undef, undef, undef, undef, undef, undef, undef, undef, undef, undef] w (topQ false Tryd.prog Tryd.f23 w K) = Tryd.F_types_Same t0 t1 w K := by kernel_rfl
theorem Tryd.C_types_Same : chk ⟨false, false⟩ Tryd.prog false Tryd.A_types_Same (bodyOf Tryd.f23) = true := by kernel_rfl
theorem Tryd.ok_types_Same {t0 t1 : Value} {w : World} {K : Value → World → Prop} (h : Tryd.F_types_Same t0 t1 w K) : oCall Tryd.prog Tryd.n_types_Same #[t0, t1] w K :=
  calls_of_sw (cf := ⟨false, false⟩) Tryd.mixed Tryd.func23 rfl Tryd.C_types_Same ((Tryd.E_types_Same t0 t1 w K).mpr h)

/- 62: loanword/types.Same$1 -/
def Tryd.A_types_Same_1 : Ann := .s (.r (.op 0 .p (.nil))) (.s (.r (.op 0 .p (.op 1 .p (.op 2 .p (.op 3 .p (.nil)))))) (.n))
def Tryd.F_types_Same_1 (t0 : Value) (t1 : Value) (w : World) (K : Value → World → Prop) : Prop :=
 opP Tryd.prog (bsem .eql 3 false t0 t1) fun t7 =>
 K t7 w
theorem Tryd.E_types_Same_1 (t0 t1 : Value) (w : World) (K : Value → World → Prop) : sw ⟨false, false⟩ Tryd.prog (fun _ _ => False) Tryd.A_types_Same_1 (bodyOf Tryd.f62) [t0, t1, undef, undef, undef, undef, undef, undef] w (topQ false Tryd.prog Tryd.f62 w K) = Tryd.F_types_Same_1 t0 t1 w K := by kernel_rfl
theorem Tryd.C_types_Same_1 : chk ⟨false, false⟩ Tryd.prog false Tryd.A_types_Same_1 (bodyOf Tryd.f62) = true := by kernel_rfl
theorem Tryd.ok_types_Same_1 {t0 t1 : Value} {w : World} {K : Value → World → Prop} (h : Tryd.F_types_Same_1 t0 t1 w K) : oCall Tryd.prog Tryd.n_types_Same_1 #[t0, t1] w K :=
  calls_of_sw (cf := ⟨false, false⟩) Tryd.mixed Tryd.func62 rfl Tryd.C_types_Same_1 ((Tryd.E_types_Same_1 t0 t1 w K).mpr h)

/- 50: loanword/types.regions -/
def Tryd.A_types_regions : Ann := .s (.r (.op 0 .l (.op 1 .p (.nil)))) (.s (.r (.op 0 .l (.nil))) (.s (.r (.op 0 .p (.op 1 .l (.nil)))) (.s (.r (.op 0 .q (.op 1 .p (.nil)))) (.n))))
def Tryd.F_types_regions (t0 : Value) (w : World) (K : Value → World → Prop) : Prop :=
 opW Tryd.prog w (Instr.box 25 t0) fun t1 w1 =>
 opW Tryd.prog w1 (Instr.alloc 68 true (.tuple #[])) fun t3 w2 =>
 opP Tryd.prog (Instr.makeFunc (.func 87) #[] #[t3]) fun t4 =>
 oCall Tryd.prog Tryd.n_types_walk #[t1, t4] w2 fun _t5 w3 =>
 opQ Tryd.prog w3 (Instr.loadAt 68 t3) fun t6 =>
 K t6 w3
theorem Tryd.E_types_regions (t0 : Value) (w : World) (K : Value → World → Prop) : sw ⟨false, false⟩ Tryd.prog (fun _ _ => False) Tryd.A_types_regions (bodyOf Tryd.f50) [t0, undef, undef, undef, undef, undef, undef] w (topQ false Tryd.prog Tryd.f50 w K) = Tryd.F_types_regions t0 w K := by kernel_rfl
theorem Tryd.C_types_regions : chk ⟨false, false⟩ Tryd.prog false Tryd.A_types_regions (bodyOf Tryd.f50) = true := by kernel_rfl
theorem Tryd.ok_types_regions {t0 : Value} {w : World} {K : Value → World → Prop} (h : Tryd.F_types_regions t0 w K) : oCall Tryd.prog Tryd.n_types_regions #[t0] w K :=
  calls_of_sw (cf := ⟨false, false⟩) Tryd.mixed Tryd.func50 rfl Tryd.C_types_regions ((Tryd.E_types_regions t0 w K).mpr h)

/- 87: loanword/types.regions$1 -/
def Tryd.A_types_regions_1 : Ann := .r (.op 0 .q (.op 1 .p (.op 2 .p (.op 3 .p (.op 4 .q (.op 5 .u (.op 6 .l (.op 7 .l (.nil)))))))))
def Tryd.F_types_regions_1 (t0 : Value) (t1 : Value) (w : World) (K : Value → World → Prop) : Prop :=
 opQ Tryd.prog w.drew (Instr.loadAt 68 t1) fun t3 =>
 oNil t0 fun t5 =>
 opP Tryd.prog (Instr.fieldAt 25 t5 2) fun t6 =>
 opQ Tryd.prog w.drew (Instr.loadAt 3 t6) fun t7 =>
 opW Tryd.prog w.drew (Instr.buildSlice 68 1 #[(0, t7)]) fun t8 w1 =>
 Ext w.drew w1 ∧
 opW Tryd.prog w1 (Builtin.append_ #[68, 68] 68 #[t3, t8]) fun t9 w2 =>
 opU Tryd.prog w2 (Instr.storeAt 68 t1 t9) fun w3 =>
 K (.tuple #[]) w3
theorem Tryd.E_types_regions_1 (t0 t1 : Value) (w : World) (K : Value → World → Prop) : sw ⟨false, false⟩ Tryd.prog (fun _ _ => False) Tryd.A_types_regions_1 (bodyOf Tryd.f87) [t0, t1, undef, undef, undef, undef, undef, undef, undef, undef] w (topQ false Tryd.prog Tryd.f87 w K) = Tryd.F_types_regions_1 t0 t1 w K := by kernel_rfl
theorem Tryd.C_types_regions_1 : chk ⟨false, false⟩ Tryd.prog false Tryd.A_types_regions_1 (bodyOf Tryd.f87) = true := by kernel_rfl
theorem Tryd.ok_types_regions_1 {t0 t1 : Value} {w : World} {K : Value → World → Prop} (h : Tryd.F_types_regions_1 t0 t1 w K) : oCall Tryd.prog Tryd.n_types_regions_1 #[t0, t1] w K :=
  calls_of_sw (cf := ⟨false, false⟩) Tryd.mixed Tryd.func87 rfl Tryd.C_types_regions_1 ((Tryd.E_types_regions_1 t0 t1 w K).mpr h)

/- 81: loanword/types.walk -/
def Tryd.A_types_walk : Ann := .j [] (.s (.r (.op 0 .p (.op 1 .p (.op 2 .p (.op 3 .q (.op 4 .p (.nil))))))) (.c (.r (.op 0 .p (.op 1 .p (.op 2 .l (.nil))))) (.n))) (.s (.r (.op 0 .p (.op 1 .p (.op 2 .p (.op 3 .q (.op 4 .p (.op 5 .p (.nil)))))))) (.c (.r (.op 0 .p (.op 1 .p (.op 2 .p (.op 3 .q (.op 4 .p (.op 5 .p (.op 6 .l (.nil))))))))) (.n)))
def Tryd.F_types_walk (t0 : Value) (t1 : Value) (w : World) (K : Value → World → Prop) : Prop :=
 sJoin (fun K1 =>
 oNil t0 fun t5 =>
 opP Tryd.prog (Instr.fieldAt 25 t5 0) fun t6 =>
 opQ Tryd.prog w (Instr.loadAt 22 t6) fun t7 =>
 opP Tryd.prog (bsem .eql 22 true t7 (Value.int .u8 4)) fun t8 =>
 oCond t8 (oCallV Tryd.prog t1 #[t0] w fun _t11 w5 =>
 K1 [] w5) (K1 [] w)) (fun _s2 _d3 w4 =>
 oNil t0 fun t13 =>
 opP Tryd.prog (Instr.fieldAt 25 t13 4) fun t14 =>
 opQ Tryd.prog w4 (Instr.loadAt 23 t14) fun t15 =>
 opP Tryd.prog (Builtin.len_ #[23] 3 #[t15]) fun t16 =>
 opP Tryd.prog (bsem .gtr 3 true t16 (Value.int .i64 0)) fun t17 =>
 oCond t17 (oNil t0 fun t19 =>
 opP Tryd.prog (Instr.fieldAt 25 t19 4) fun t20 =>
 opQ Tryd.prog w4 (Instr.loadAt 23 t20) fun t21 =>
 opP Tryd.prog (Instr.indexAt 23 t21 (Value.int .i64 0)) fun t22 =>
 oCall Tryd.prog Tryd.n_types_walk #[t22, t1] w4 fun _t24 w6 =>
 K (.tuple #[]) w6) (K (.tuple #[]) w4))
theorem Tryd.E_types_walk (t0 t1 : Value) (w : World) (K : Value → World → Prop) : sw ⟨false, false⟩ Tryd.prog (fun _ _ => False) Tryd.A_types_walk (bodyOf Tryd.f81) [t0, t1, undef, undef, undef, undef, undef, undef, undef, undef, undef, undef, undef, undef, undef, undef, undef, undef, undef, undef, undef, undef, undef, undef, undef] w (topQ false Tryd.prog Tryd.f81 w K) = Tryd.F_types_walk t0 t1 w K := by kernel_rfl
theorem Tryd.C_types_walk : chk ⟨false, false⟩ Tryd.prog false Tryd.A_types_walk (bodyOf Tryd.f81) = true := by kernel_rfl
theorem Tryd.ok_types_walk {t0 t1 : Value} {w : World} {K : Value → World → Prop} (h : Tryd.F_types_walk t0 t1 w K) : oCall Tryd.prog Tryd.n_types_walk #[t0, t1] w K :=
  calls_of_sw (cf := ⟨false, false⟩) Tryd.mixed Tryd.func81 rfl Tryd.C_types_walk ((Tryd.E_types_walk t0 t1 w K).mpr h)

/- 41: loanword/types.Regions -/
def Tryd.A_types_Regions : Ann := .s (.r (.op 0 .l (.op 1 .p (.nil)))) (.s (.s (.r (.op 0 .q (.op 1 .l (.op 2 .p (.nil))))) (.c (.s (.r (.op 0 .p (.nil))) (.n)) (.n))) (.s (.r (.op 0 .q (.op 1 .l (.op 2 .p (.nil))))) (.n)))
def Tryd.F_types_Regions (t0 : Value) (w : World) (K : Value → World → Prop) : Prop :=
 opW Tryd.prog w (Instr.box 25 t0) fun t1 w1 =>
 opQ Tryd.prog w1 (Instr.loadAt 25 t1) fun t3 =>
 oCall Tryd.prog Tryd.n_types_may #[t3] w1 fun t4 w2 =>
 opP Tryd.prog (Op.unary .not t4) fun t5 =>
 oCond t5 (K (Value.slice Option.none 0 0) w2) (opQ Tryd.prog w2 (Instr.loadAt 25 t1) fun t6 =>
 oCall Tryd.prog Tryd.n_types_regions #[t6] w2 fun t7 w3 =>
 K t7 w3)
theorem Tryd.E_types_Regions (t0 : Value) (w : World) (K : Value → World → Prop) : sw ⟨false, false⟩ Tryd.prog (fun _ _ => False) Tryd.A_types_Regions (bodyOf Tryd.f41) [t0, undef, undef, undef, undef, undef, undef, undef] w (topQ false Tryd.prog Tryd.f41 w K) = Tryd.F_types_Regions t0 w K := by kernel_rfl
theorem Tryd.C_types_Regions : chk ⟨false, false⟩ Tryd.prog false Tryd.A_types_Regions (bodyOf Tryd.f41) = true := by kernel_rfl
theorem Tryd.ok_types_Regions {t0 : Value} {w : World} {K : Value → World → Prop} (h : Tryd.F_types_Regions t0 w K) : oCall Tryd.prog Tryd.n_types_Regions #[t0] w K :=
  calls_of_sw (cf := ⟨false, false⟩) Tryd.mixed Tryd.func41 rfl Tryd.C_types_Regions ((Tryd.E_types_Regions t0 w K).mpr h)

/- 43: loanword/types.Number -/
def Tryd.A_types_Number : Ann := .s (.r (.op 0 .l (.op 1 .l (.op 2 .l (.op 3 .p (.op 4 .p (.nil))))))) (.s (.s (.r (.op 0 .q (.op 1 .l (.op 2 .p (.op 3 .p (.grp 10 false [(4, .q), (5, .p)] [12] (.op 6 .p (.op 7 .p (.grp 14 false [(8, .q), (9, .p)] [16] (.op 10 .p (.nil))))))))))) (.c (.s (.r (.op 0 .p (.op 1 .l (.op 2 .p (.op 3 .p (.nil)))))) (.n)) (.n))) (.s (.r (.op 0 .q (.op 1 .l (.op 2 .l (.nil))))) (.s (.r (.op 0 .p (.op 1 .l (.nil)))) (.s (.r (.op 0 .q (.alt 1 .u (.op 2 .l (.op 3 .p (.op 4 .p (.nil)))) (.op 2 .l (.op 1 .u (.op 3 .p (.op 4 .p (.nil)))))))) (.n)))))
def Tryd.F_types_Number (t0 : Value) (t1 : Value) (w : World) (K : Value → World → Prop) : Prop :=
 opW Tryd.prog w (Instr.box 25 t0) fun t2 w1 =>
 opW Tryd.prog w1 (Instr.box 3 t1) fun t3 w2 =>
 opW Tryd.prog w2 (Instr.alloc 25 true (.tuple #[])) fun t4 w3 =>
 opQ Tryd.prog w3 (Instr.loadAt 25 t2) fun t7 =>
 oCall Tryd.prog Tryd.n_types_may #[t7] w3 fun t8 w4 =>
 opP Tryd.prog (Op.unary .not t8) fun t9 =>
 sJoin (fun K5 => gIf t9 false (opQ Tryd.prog w4 (Instr.loadAt 3 t3) fun t11 =>
 opP Tryd.prog (bsem .lss 3 true t11 (Value.int .i64 0)) fun t12 =>
 K5 [t12] w4) (K5 [undef] w4)) (fun s6 _d7 w8 =>
 oPick t9 (Value.bool true) (s6.getD 0 undef) fun t13 =>
 sJoin (fun K9 => gIf t13 false (opQ Tryd.prog w8 (Instr.loadAt 3 t3) fun t15 =>
 opP Tryd.prog (bsem .gtr 3 true t15 (Value.int .i64 512)) fun t16 =>
 K9 [t16] w8) (K9 [undef] w8)) (fun s10 _d11 w12 =>
 oPick t13 (Value.bool true) (s10.getD 0 undef) fun t17 =>
 oCond t17 (opP Tryd.prog (Instr.build 25 #[]) fun t18 =>
 opU Tryd.prog w12 (Instr.storeAt 25 t4 t18) fun w13 =>
 opQ Tryd.prog w13 (cellSem 25 t4) fun r14 =>
 K (.tuple #[r14, (Value.int .i64 0), (Value.int .i64 2)]) w13) (opQ Tryd.prog w12 (Instr.loadAt 25 t2) fun t19 =>
 oCall Tryd.prog Tryd.n_types_own #[t19] w12 fun t20 w15 =>
 opU Tryd.prog w15 (Instr.storeAt 25 t2 t20) fun w16 =>
 opP Tryd.prog (Instr.makeFunc (.func 82) #[] #[t3]) fun t21 =>
 oCall Tryd.prog Tryd.n_types_walk #[t2, t21] w16 fun _t22 w17 =>
 opQ Tryd.prog w17.drew (Instr.loadAt 25 t2) fun t23 =>
 ((opW Tryd.prog w17.drew (Instr.loadAt 3 t3) fun t24 w18 =>
 Ext w17.drew w18 ∧
 opU Tryd.prog w18 (Instr.storeAt 25 t4 t23) fun w19 =>
 opQ Tryd.prog w19 (cellSem 25 t4) fun r20 =>
 K (.tuple #[r20, t24, (Value.int .i64 0)]) w19) ∧
 (opU Tryd.prog w17.drew (Instr.storeAt 25 t4 t23) fun w21 =>
 opW Tryd.prog w21 (Instr.loadAt 3 t3) fun t24_23 w22 =>
 Ext w21 w22 ∧
 opQ Tryd.prog w22 (cellSem 25 t4) fun r24 =>
 K (.tuple #[r24, t24_23, (Value.int .i64 0)]) w22)))))
theorem Tryd.E_types_Number (t0 t1 : Value) (w : World) (K : Value → World → Prop) : sw ⟨false, false⟩ Tryd.prog (fun _ _ => False) Tryd.A_types_Number (bodyOf Tryd.f43) [t0, t1, undef, undef, undef, undef, undef, undef, undef, undef, undef, undef, undef, undef, undef, undef, undef, undef, undef, undef, undef, undef, undef, undef, undef] w (topQ false Tryd.prog Tryd.f43 w K) = Tryd.F_types_Number t0 t1 w K := by kernel_rfl
theorem Tryd.C_types_Number : chk ⟨false, false⟩ Tryd.prog false Tryd.A_types_Number (bodyOf Tryd.f43) = true := by kernel_rfl
theorem Tryd.ok_types_Number {t0 t1 : Value} {w : World} {K : Value → World → Prop} (h : Tryd.F_types_Number t0 t1 w K) : oCall Tryd.prog Tryd.n_types_Number #[t0, t1] w K :=
  calls_of_sw (cf := ⟨false, false⟩) Tryd.mixed Tryd.func43 rfl Tryd.C_types_Number ((Tryd.E_types_Number t0 t1 w K).mpr h)

/- 82: loanword/types.Number$1 -/
def Tryd.A_types_Number_1 : Ann := .s (.r (.op 0 .p (.op 1 .q (.op 2 .p (.op 3 .p (.op 4 .l (.nil))))))) (.r (.op 0 .q (.op 1 .p (.op 2 .l (.nil)))))
def Tryd.F_types_Number_1 (t0 : Value) (t1 : Value) (w : World) (K : Value → World → Prop) : Prop :=
 opQ Tryd.prog w (Instr.loadAt 3 t1) fun t4 =>
 oNil t0 fun t5 =>
 opP Tryd.prog (Instr.fieldAt 25 t5 2) fun t6 =>
 opU Tryd.prog w (Instr.storeAt 3 t6 t4) fun w1 =>
 opQ Tryd.prog w1 (Instr.loadAt 3 t1) fun t7 =>
 opP Tryd.prog (bsem .add 3 true t7 (Value.int .i64 1)) fun t8 =>
 opU Tryd.prog w1 (Instr.storeAt 3 t1 t8) fun w2 =>
 K (.tuple #[]) w2
theorem Tryd.E_types_Number_1 (t0 t1 : Value) (w : World) (K : Value → World → Prop) : sw ⟨false, false⟩ Tryd.prog (fun _ _ => False) Tryd.A_types_Number_1 (bodyOf Tryd.f82) [t0, t1, undef, undef, undef, undef, undef, undef, undef] w (topQ false Tryd.prog Tryd.f82 w K) = Tryd.F_types_Number_1 t0 t1 w K := by kernel_rfl
theorem Tryd.C_types_Number_1 : chk ⟨false, false⟩ Tryd.prog false Tryd.A_types_Number_1 (bodyOf Tryd.f82) = true := by kernel_rfl
theorem Tryd.ok_types_Number_1 {t0 t1 : Value} {w : World} {K : Value → World → Prop} (h : Tryd.F_types_Number_1 t0 t1 w K) : oCall Tryd.prog Tryd.n_types_Number_1 #[t0, t1] w K :=
  calls_of_sw (cf := ⟨false, false⟩) Tryd.mixed Tryd.func82 rfl Tryd.C_types_Number_1 ((Tryd.E_types_Number_1 t0 t1 w K).mpr h)

/- 45: loanword/types.Anew -/
def Tryd.A_types_Anew : Ann := .s (.r (.op 0 .l (.op 1 .l (.op 2 .l (.op 3 .p (.nil)))))) (.s (.s (.r (.op 0 .q (.op 1 .l (.op 2 .p (.op 3 .p (.grp 10 false [(4, .q), (7, .q), (8, .p), (5, .u), (6, .p), (9, .p)] [16] (.op 10 .p (.op 11 .p (.grp 18 false [(12, .q), (13, .l)] [20] (.op 14 .p (.nil))))))))))) (.c (.s (.r (.op 0 .p (.op 1 .l (.op 2 .p (.nil))))) (.n)) (.n))) (.s (.r (.op 0 .q (.op 1 .l (.op 2 .l (.nil))))) (.s (.r (.op 0 .l (.op 1 .l (.nil)))) (.s (.r (.op 0 .p (.op 1 .l (.nil)))) (.s (.r (.op 0 .q (.op 1 .l (.op 2 .p (.nil))))) (.n))))))
def Tryd.F_types_Anew (t0 : Value) (t1 : Value) (w : World) (K : Value → World → Prop) : Prop :=
 opW Tryd.prog w (Instr.box 25 t0) fun t2 w1 =>
 opW Tryd.prog w1 (Instr.box 68 t1) fun t3 w2 =>
 opW Tryd.prog w2 (Instr.alloc 25 true (.tuple #[])) fun t4 w3 =>
 opQ Tryd.prog w3.drew (Instr.loadAt 25 t2) fun t7 =>
 oCall Tryd.prog Tryd.n_types_may #[t7] w3.drew fun t8 w4 =>
 opP Tryd.prog (Op.unary .not t8) fun t9 =>
 sJoin (fun K5 => gIf t9 false (opQ Tryd.prog w4 (Instr.loadAt 25 t2) fun t11 =>
 opQ Tryd.prog w4 (Instr.loadAt 68 t3) fun t14 =>
 opP Tryd.prog (Builtin.len_ #[68] 3 #[t14]) fun t15 =>
 oCall Tryd.prog Tryd.n_types_Regions #[t11] w4 fun t12 w9 =>
 Ext w4 w9 ∧
 opP Tryd.prog (Builtin.len_ #[68] 3 #[t12]) fun t13 =>
 opP Tryd.prog (bsem .neq 3 false t13 t15) fun t16 =>
 K5 [t16] w9) (K5 [undef] w4)) (fun s6 _d7 w8 =>
 oPick t9 (Value.bool true) (s6.getD 0 undef) fun t17 =>
 sJoin (fun K10 => gIf t17 false (opQ Tryd.prog w8 (Instr.loadAt 68 t3) fun t19 =>
 oCall Tryd.prog Tryd.n_slices_ContainsFunc_int_int #[t19, (Value.func (.func 84) #[] #[])] w8 fun t20 w14 =>
 K10 [t20] w14) (K10 [undef] w8)) (fun s11 _d12 w13 =>
 oPick t17 (Value.bool true) (s11.getD 0 undef) fun t21 =>
 oCond t21 (opP Tryd.prog (Instr.build 25 #[]) fun t22 =>
 opU Tryd.prog w13 (Instr.storeAt 25 t4 t22) fun w15 =>
 opQ Tryd.prog w15 (cellSem 25 t4) fun r16 =>
 K (.tuple #[r16, (Value.int .i64 2)]) w15) (opQ Tryd.prog w13 (Instr.loadAt 25 t2) fun t23 =>
 oCall Tryd.prog Tryd.n_types_own #[t23] w13 fun t24 w17 =>
 opU Tryd.prog w17 (Instr.storeAt 25 t2 t24) fun w18 =>
 opW Tryd.prog w18 (Instr.alloc 3 true (.tuple #[])) fun t6 w19 =>
 opU Tryd.prog w19 (Instr.storeAt 3 t6 (Value.int .i64 0)) fun w20 =>
 opP Tryd.prog (Instr.makeFunc (.func 85) #[] #[t3, t6]) fun t25 =>
 oCall Tryd.prog Tryd.n_types_walk #[t2, t25] w20 fun _t26 w21 =>
 opQ Tryd.prog w21 (Instr.loadAt 25 t2) fun t27 =>
 opU Tryd.prog w21 (Instr.storeAt 25 t4 t27) fun w22 =>
 opQ Tryd.prog w22 (cellSem 25 t4) fun r23 =>
 K (.tuple #[r23, (Value.int .i64 0)]) w22)))
theorem Tryd.E_types_Anew (t0 t1 : Value) (w : World) (K : Value → World → Prop) : sw ⟨false, false⟩ Tryd.prog (fun _ _ => False) Tryd.A_types_Anew (bodyOf Tryd.f45) [t0, t1, undef, undef, undef, undef, undef, undef, undef, undef, undef, undef, undef, undef, undef, undef, undef, undef, undef, undef, undef, undef, undef, undef, undef, undef, undef, undef] w (topQ false Tryd.prog Tryd.f45 w K) = Tryd.F_types_Anew t0 t1 w K := by kernel_rfl
theorem Tryd.C_types_Anew : chk ⟨false, false⟩ Tryd.prog false Tryd.A_types_Anew (bodyOf Tryd.f45) = true := by kernel_rfl
theorem Tryd.ok_types_Anew {t0 t1 : Value} {w : World} {K : Value → World → Prop} (h : Tryd.F_types_Anew t0 t1 w K) : oCall Tryd.prog Tryd.n_types_Anew #[t0, t1] w K :=
  calls_of_sw (cf := ⟨false, false⟩) Tryd.mixed Tryd.func45 rfl Tryd.C_types_Anew ((Tryd.E_types_Anew t0 t1 w K).mpr h)

/- 84: loanword/types.Anew$1 -/
def Tryd.A_types_Anew_1 : Ann := .s (.r (.op 0 .p (.nil))) (.s (.r (.op 0 .p (.op 1 .p (.op 2 .p (.nil))))) (.n))
def Tryd.F_types_Anew_1 (t0 : Value) (w : World) (K : Value → World → Prop) : Prop :=
 opP Tryd.prog (bsem .lss 3 true t0 (Value.int .i64 (-1))) fun t4 =>
 K t4 w
theorem Tryd.E_types_Anew_1 (t0 : Value) (w : World) (K : Value → World → Prop) : sw ⟨false, false⟩ Tryd.prog (fun _ _ => False) Tryd.A_types_Anew_1 (bodyOf Tryd.f84) [t0, undef, undef, undef, undef] w (topQ false Tryd.prog Tryd.f84 w K) = Tryd.F_types_Anew_1 t0 w K := by kernel_rfl
theorem Tryd.C_types_Anew_1 : chk ⟨false, false⟩ Tryd.prog false Tryd.A_types_Anew_1 (bodyOf Tryd.f84) = true := by kernel_rfl
theorem Tryd.ok_types_Anew_1 {t0 : Value} {w : World} {K : Value → World → Prop} (h : Tryd.F_types_Anew_1 t0 w K) : oCall Tryd.prog Tryd.n_types_Anew_1 #[t0] w K :=
  calls_of_sw (cf := ⟨false, false⟩) Tryd.mixed Tryd.func84 rfl Tryd.C_types_Anew_1 ((Tryd.E_types_Anew_1 t0 w K).mpr h)

/- 85: loanword/types.Anew$2 -/
def Tryd.A_types_Anew_2 : Ann := .s (.r (.op 0 .p (.op 1 .q (.op 2 .q (.op 3 .p (.op 4 .q (.op 5 .p (.op 6 .p (.op 7 .l (.nil)))))))))) (.r (.op 0 .q (.op 1 .p (.op 2 .l (.nil)))))
def Tryd.F_types_Anew_2 (t0 : Value) (t1 : Value) (t2 : Value) (w : World) (K : Value → World → Prop) : Prop :=
 opQ Tryd.prog w (Instr.loadAt 68 t1) fun t5 =>
 opQ Tryd.prog w (Instr.loadAt 3 t2) fun t6 =>
 opP Tryd.prog (Instr.indexAt 68 t5 t6) fun t7 =>
 opQ Tryd.prog w (Instr.loadAt 3 t7) fun t8 =>
 oNil t0 fun t9 =>
 opP Tryd.prog (Instr.fieldAt 25 t9 2) fun t10 =>
 opU Tryd.prog w (Instr.storeAt 3 t10 t8) fun w1 =>
 opQ Tryd.prog w1 (Instr.loadAt 3 t2) fun t11 =>
 opP Tryd.prog (bsem .add 3 true t11 (Value.int .i64 1)) fun t12 =>
 opU Tryd.prog w1 (Instr.storeAt 3 t2 t12) fun w2 =>
 K (.tuple #[]) w2
theorem Tryd.E_types_Anew_2 (t0 t1 t2 : Value) (w : World) (K : Value → World → Prop) : sw ⟨false, false⟩ Tryd.prog (fun _ _ => False) Tryd.A_types_Anew_2 (bodyOf Tryd.f85) [t0, t1, t2, undef, undef, undef, undef, undef, undef, undef, undef, undef, undef] w (topQ false Tryd.prog Tryd.f85 w K) = Tryd.F_types_Anew_2 t0 t1 t2 w K := by kernel_rfl
theorem Tryd.C_types_Anew_2 : chk ⟨false, false⟩ Tryd.prog false Tryd.A_types_Anew_2 (bodyOf Tryd.f85) = true := by kernel_rfl
theorem Tryd.ok_types_Anew_2 {t0 t1 t2 : Value} {w : World} {K : Value → World → Prop} (h : Tryd.F_types_Anew_2 t0 t1 t2 w K) : oCall Tryd.prog Tryd.n_types_Anew_2 #[t0, t1, t2] w K :=
  calls_of_sw (cf := ⟨false, false⟩) Tryd.mixed Tryd.func85 rfl Tryd.C_types_Anew_2 ((Tryd.E_types_Anew_2 t0 t1 t2 w K).mpr h)

/- 12: loanword/types.Asks -/
def Tryd.A_types_Asks : Ann := .s (.r (.op 0 .l (.op 1 .l (.op 2 .p (.op 3 .p (.nil)))))) (.s (.s (.r (.op 0 .q (.op 1 .q (.op 2 .l (.op 3 .p (.nil)))))) (.c (.s (.r (.op 0 .p (.op 1 .p (.nil)))) (.n)) (.n))) (.s (.s (.r (.op 0 .q (.op 2 .q (.op 1 .u (.op 3 .l (.op 4 .l (.op 5 .l (.nil)))))))) (.c (.s (.r (.op 0 .p (.op 1 .p (.nil)))) (.n)) (.n))) (.s (.r (.op 0 .l (.nil))) (.s (.r (.op 0 .p (.op 1 .p (.nil)))) (.s (.r (.op 0 .p (.nil))) (.b (.lp [8] (.b (.j [8] (.s (.r (.op 0 .p (.op 1 .q (.op 2 .p (.nil))))) (.c (.s (.r (.op 0 .p (.op 1 .p (.op 2 .q (.op 3 .p (.op 4 .q (.op 5 .l (.nil)))))))) (.j [] (.s (.r (.op 0 .p (.nil))) (.c (.r (.op 0 .p (.op 1 .p (.op 2 .q (.op 3 .p (.op 4 .q (.op 5 .l (.nil)))))))) (.n))) (.r (.op 0 .p (.op 1 .p (.grp 37 false [(2, .p), (3, .q)] [39] (.op 4 .p (.op 5 .p (.nil))))))))) (.n))) (.s (.s (.r (.op 0 .p (.op 1 .q (.op 2 .p (.op 3 .p (.nil)))))) (.c (.s (.r (.op 0 .q (.op 1 .p (.op 2 .p (.nil))))) (.n)) (.n))) (.r (.op 0 .p (.op 1 .q (.op 2 .p (.op 3 .q (.op 4 .p (.alt 5 .u (.op 6 .p (.alt 7 .u (.op 8 .l (.op 9 .l (.nil))) (.op 8 .l (.op 7 .u (.op 9 .l (.nil)))))) (.op 8 .l (.op 5 .u (.op 6 .p (.op 7 .u (.op 9 .l (.nil)))))))))))))))))))))))
def Tryd.F_types_Asks (t0 : Value) (t1 : Value) (w : World) (K : Value → World → Prop) : Prop :=
 opW Tryd.prog w (Instr.box 25 t0) fun t2 w1 =>
 opW Tryd.prog w1 (Instr.box 25 t1) fun t3 w2 =>
 opQ Tryd.prog w2 (Instr.loadAt 25 t2) fun t9 =>
 opQ Tryd.prog w2 (Instr.loadAt 25 t3) fun t10 =>
 oCall Tryd.prog Tryd.n_types_Alike #[t9, t10] w2 fun t11 w3 =>
 opP Tryd.prog (Op.unary .not t11) fun t12 =>
 oCond t12 (K (.tuple #[(Value.slice Option.none 0 0), (Value.int .i64 2)]) w3) (opQ Tryd.prog w3.drew (Instr.loadAt 25 t2) fun t13 =>
 opQ Tryd.prog w3.drew (Instr.loadAt 25 t3) fun t15 =>
 oCall Tryd.prog Tryd.n_types_regions #[t13] w3.drew fun t14 w4 =>
 Ext w3.drew w4 ∧
 oCall Tryd.prog Tryd.n_types_regions #[t15] w4 fun t16 w5 =>
 opW Tryd.prog w5 (Builtin.append_ #[68, 68] 68 #[t14, t16]) fun t17 w6 =>
 oCall Tryd.prog Tryd.n_slices_ContainsFunc_int_int #[t17, (Value.func (.func 51) #[] #[])] w6 fun t18 w7 =>
 oCond t18 (K (.tuple #[(Value.slice Option.none 0 0), (Value.int .i64 2)]) w7) (opW Tryd.prog w7 (Instr.alloc 28 true (.tuple #[])) fun t6 w8 =>
 opP Tryd.prog (Instr.makeFunc (.func 52) #[] #[t6]) fun t19 =>
 sLoop [(Value.bool false)] w8 (fun s10 _d11 w12 K9 =>
 sJoin (fun K13 =>
 opP Tryd.prog (Instr.fieldAt 25 t2 0) fun t20 =>
 opQ Tryd.prog w12 (Instr.loadAt 22 t20) fun t21 =>
 opP Tryd.prog (bsem .eql 22 true t21 (Value.int .u8 4)) fun t22 =>
 oCond t22 (opP Tryd.prog (Instr.fieldAt 25 t2 2) fun t24 =>
 opQ Tryd.prog w12 (Instr.loadAt 3 t24) fun t25 =>
 opP Tryd.prog (Instr.fieldAt 25 t3 2) fun t26 =>
 opQ Tryd.prog w12 (Instr.loadAt 3 t26) fun t27 =>
 oCallV Tryd.prog t19 #[t25, t27] w12 fun _t28 w17 =>
 sJoin (fun K18 =>
 oCond (s10.getD 0 undef) (opP Tryd.prog (Instr.fieldAt 25 t3 2) fun t31 =>
 opQ Tryd.prog w17 (Instr.loadAt 3 t31) fun t32 =>
 opP Tryd.prog (Instr.fieldAt 25 t2 2) fun t33 =>
 opQ Tryd.prog w17 (Instr.loadAt 3 t33) fun t34 =>
 oCallV Tryd.prog t19 #[t32, t34] w17 fun _t35 w22 =>
 K18 [] w22) (K18 [] w17)) (fun _s19 _d20 w21 =>
 sJoin (fun K23 => gIf (s10.getD 0 undef) false (opP Tryd.prog (Instr.fieldAt 25 t2 1) fun t38 =>
 opQ Tryd.prog w21 (Instr.loadAt 4 t38) fun t39 =>
 K23 [t39] w21) (K23 [undef] w21)) (fun s24 _d25 w26 =>
 oPick (s10.getD 0 undef) (Value.bool true) (s24.getD 0 undef) fun t40 =>
 K13 [t40] w26))) (K13 [(s10.getD 0 undef)] w12)) (fun s14 _d15 w16 =>
 opP Tryd.prog (Instr.fieldAt 25 t2 4) fun t41 =>
 opQ Tryd.prog w16 (Instr.loadAt 23 t41) fun t42 =>
 opP Tryd.prog (Builtin.len_ #[23] 3 #[t42]) fun t43 =>
 opP Tryd.prog (bsem .eql 3 true t43 (Value.int .i64 0)) fun t44 =>
 oCond t44 (opQ Tryd.prog w16 (Instr.loadAt 28 t6) fun t45 =>
 K (.tuple #[t45, (Value.int .i64 0)]) w16) (opP Tryd.prog (Instr.fieldAt 25 t2 4) fun t46 =>
 opQ Tryd.prog w16.drew (Instr.loadAt 23 t46) fun t47 =>
 opP Tryd.prog (Instr.indexAt 23 t47 (Value.int .i64 0)) fun t48 =>
 opQ Tryd.prog w16.drew (Instr.loadAt 25 t48) fun t49 =>
 opP Tryd.prog (Instr.fieldAt 25 t3 4) fun t50 =>
 ((opW Tryd.prog w16.drew (Instr.loadAt 23 t50) fun t51 w27 =>
 Ext w16.drew w27 ∧
 opP Tryd.prog (Instr.indexAt 23 t51 (Value.int .i64 0)) fun t52 =>
 ((opW Tryd.prog w27 (Instr.loadAt 25 t52) fun t53 w28 =>
 Ext w27 w28 ∧
 opU Tryd.prog w28 (Instr.storeAt 25 t2 t49) fun w29 =>
 opU Tryd.prog w29 (Instr.storeAt 25 t3 t53) fun w30 =>
 K9 [(s14.getD 0 undef)] w30) ∧
 (opU Tryd.prog w27 (Instr.storeAt 25 t2 t49) fun w31 =>
 opW Tryd.prog w31 (Instr.loadAt 25 t52) fun t53_33 w32 =>
 Ext w31 w32 ∧
 opU Tryd.prog w32 (Instr.storeAt 25 t3 t53_33) fun w34 =>
 K9 [(s14.getD 0 undef)] w34))) ∧
 (opU Tryd.prog w16.drew (Instr.storeAt 25 t2 t49) fun w35 =>
 opW Tryd.prog w35 (Instr.loadAt 23 t50) fun t51_37 w36 =>
 Ext w35 w36 ∧
 opP Tryd.prog (Instr.indexAt 23 t51_37 (Value.int .i64 0)) fun t52_38 =>
 opW Tryd.prog w36 (Instr.loadAt 25 t52_38) fun t53_40 w39 =>
 Ext w36 w39 ∧
 opU Tryd.prog w39 (Instr.storeAt 25 t3 t53_40) fun w41 =>
 K9 [(s14.getD 0 undef)] w41)))))))
theorem Tryd.E_types_Asks (t0 t1 : Value) (w : World) (K : Value → World → Prop) : sw ⟨false, false⟩ Tryd.prog (fun _ _ => False) Tryd.A_types_Asks (bodyOf Tryd.f12) [t0, t1, undef, undef, undef, undef, undef, undef, undef, undef, undef, undef, undef, undef, undef, undef, undef, undef, undef, undef, undef, undef, undef, undef, undef, undef, undef, undef, undef, undef, undef, undef, undef, undef, undef, undef, undef, undef, undef, undef, undef, undef, undef, undef, undef, undef, undef, undef, undef, undef, undef, undef, undef, undef] w (topQ false Tryd.prog Tryd.f12 w K) = Tryd.F_types_Asks t0 t1 w K := by kernel_rfl
theorem Tryd.C_types_Asks : chk ⟨false, false⟩ Tryd.prog false Tryd.A_types_Asks (bodyOf Tryd.f12) = true := by kernel_rfl
theorem Tryd.ok_types_Asks {t0 t1 : Value} {w : World} {K : Value → World → Prop} (h : Tryd.F_types_Asks t0 t1 w K) : oCall Tryd.prog Tryd.n_types_Asks #[t0, t1] w K :=
  calls_of_sw (cf := ⟨false, false⟩) Tryd.mixed Tryd.func12 rfl Tryd.C_types_Asks ((Tryd.E_types_Asks t0 t1 w K).mpr h)

/- 51: loanword/types.Asks$1 -/
def Tryd.A_types_Asks_1 : Ann := .s (.r (.op 0 .p (.nil))) (.s (.r (.op 0 .p (.op 1 .p (.op 2 .p (.nil))))) (.n))
def Tryd.F_types_Asks_1 (t0 : Value) (w : World) (K : Value → World → Prop) : Prop :=
 opP Tryd.prog (bsem .lss 3 true t0 (Value.int .i64 0)) fun t4 =>
 K t4 w
theorem Tryd.E_types_Asks_1 (t0 : Value) (w : World) (K : Value → World → Prop) : sw ⟨false, false⟩ Tryd.prog (fun _ _ => False) Tryd.A_types_Asks_1 (bodyOf Tryd.f51) [t0, undef, undef, undef, undef] w (topQ false Tryd.prog Tryd.f51 w K) = Tryd.F_types_Asks_1 t0 w K := by kernel_rfl
theorem Tryd.C_types_Asks_1 : chk ⟨false, false⟩ Tryd.prog false Tryd.A_types_Asks_1 (bodyOf Tryd.f51) = true := by kernel_rfl
theorem Tryd.ok_types_Asks_1 {t0 : Value} {w : World} {K : Value → World → Prop} (h : Tryd.F_types_Asks_1 t0 w K) : oCall Tryd.prog Tryd.n_types_Asks_1 #[t0] w K :=
  calls_of_sw (cf := ⟨false, false⟩) Tryd.mixed Tryd.func51 rfl Tryd.C_types_Asks_1 ((Tryd.E_types_Asks_1 t0 w K).mpr h)

/- 52: loanword/types.Asks$2 -/
def Tryd.A_types_Asks_2 : Ann := .r (.op 0 .q (.op 1 .p (.op 2 .p (.op 3 .p (.op 4 .l (.op 5 .l (.op 6 .l (.nil))))))))
def Tryd.F_types_Asks_2 (t0 : Value) (t1 : Value) (t2 : Value) (w : World) (K : Value → World → Prop) : Prop :=
 opQ Tryd.prog w (Instr.loadAt 28 t2) fun t5 =>
 opP Tryd.prog (Instr.build 35 #[(0, t0), (1, t1)]) fun t8 =>
 opW Tryd.prog w (Instr.buildSlice 28 1 #[(0, t8)]) fun t9 w1 =>
 opW Tryd.prog w1 (Builtin.append_ #[28, 28] 28 #[t5, t9]) fun t10 w2 =>
 opU Tryd.prog w2 (Instr.storeAt 28 t2 t10) fun w3 =>
 K (.tuple #[]) w3
theorem Tryd.E_types_Asks_2 (t0 t1 t2 : Value) (w : World) (K : Value → World → Prop) : sw ⟨false, false⟩ Tryd.prog (fun _ _ => False) Tryd.A_types_Asks_2 (bodyOf Tryd.f52) [t0, t1, t2, undef, undef, undef, undef, undef, undef, undef, undef] w (topQ false Tryd.prog Tryd.f52 w K) = Tryd.F_types_Asks_2 t0 t1 t2 w K := by kernel_rfl
theorem Tryd.C_types_Asks_2 : chk ⟨false, false⟩ Tryd.prog false Tryd.A_types_Asks_2 (bodyOf Tryd.f52) = true := by kernel_rfl
theorem Tryd.ok_types_Asks_2 {t0 t1 t2 : Value} {w : World} {K : Value → World → Prop} (h : Tryd.F_types_Asks_2 t0 t1 t2 w K) : oCall Tryd.prog Tryd.n_types_Asks_2 #[t0, t1, t2] w K :=
  calls_of_sw (cf := ⟨false, false⟩) Tryd.mixed Tryd.func52 rfl Tryd.C_types_Asks_2 ((Tryd.E_types_Asks_2 t0 t1 t2 w K).mpr h)

/- 35: loanword/types.Fields -/
def Tryd.A_types_Fields : Ann := .s (.r (.op 0 .l (.op 1 .p (.op 2 .p (.nil))))) (.s (.s (.r (.op 0 .p (.op 1 .q (.op 2 .l (.op 3 .p (.op 4 .p (.grp 13 false [(5, .p), (6, .q), (7, .p)] [16] (.op 8 .p (.nil))))))))) (.c (.s (.r (.op 0 .p (.op 1 .p (.nil)))) (.n)) (.n))) (.s (.r (.op 0 .p (.nil))) (.s (.s (.r (.op 0 .p (.op 1 .p (.op 2 .q (.op 3 .p (.op 4 .p (.op 5 .q (.op 6 .p (.op 7 .p (.nil)))))))))) (.b (.lp [6, 25] (.s (.r (.op 0 .p (.nil))) (.s (.c (.n) (.n)) (.s (.b (.s (.r (.op 0 .p (.op 1 .q (.op 2 .l (.op 3 .l (.nil)))))) (.r (.op 0 .p (.op 1 .p (.op 2 .q (.op 3 .l (.op 4 .l (.op 5 .l (.op 6 .p (.nil))))))))))) (.r (.op 0 .p (.op 1 .p (.nil)))))))))) (.s (.r (.op 0 .p (.op 1 .p (.op 2 .p (.nil))))) (.n)))))
def Tryd.F_types_Fields (t0 : Value) (t1 : Value) (w : World) (K : Value → World → Prop) : Prop :=
 opW Tryd.prog w (Instr.box 25 t1) fun t3 w1 =>
 opQ Tryd.prog w1 (Instr.loadAt 25 t3) fun t10 =>
 oCall Tryd.prog Tryd.n_types_May #[t0, t10] w1 fun t11 w2 =>
 opP Tryd.prog (Op.unary .not t11) fun t12 =>
 sJoin (fun K3 => gIf t12 false (opP Tryd.prog (Instr.fieldAt 25 t3 0) fun t14 =>
 opQ Tryd.prog w2 (Instr.loadAt 22 t14) fun t15 =>
 opP Tryd.prog (bsem .neq 22 true t15 (Value.int .u8 5)) fun t16 =>
 K3 [t16] w2) (K3 [undef] w2)) (fun s4 _d5 w6 =>
 oPick t12 (Value.bool true) (s4.getD 0 undef) fun t17 =>
 oCond t17 (K (.tuple #[(Value.slice Option.none 0 0), (Value.int .i64 2)]) w6) (opP Tryd.prog (Instr.fieldAt 25 t3 3) fun t19 =>
 opQ Tryd.prog w6 (Instr.loadAt 3 t19) fun t20 =>
 opP Tryd.prog (Instr.indexAt 50 t0 t20) fun t21 =>
 opP Tryd.prog (Instr.fieldAt 99 t21 1) fun t22 =>
 opQ Tryd.prog w6 (Instr.loadAt 97 t22) fun t23 =>
 opP Tryd.prog (Builtin.len_ #[97] 3 #[t23]) fun t24 =>
 sLoop [(Value.slice Option.none 0 0), (Value.int .i64 0)] w6 (fun s8 _d9 w10 K7 =>
 opP Tryd.prog (bsem .lss 3 false (s8.getD 1 undef) t24) fun t26 =>
 oCond t26 (opP Tryd.prog (Instr.indexAt 97 t23 (s8.getD 1 undef)) fun t27 =>
 opQ Tryd.prog w10 (Instr.loadAt 101 t27) fun t28 =>
 opW Tryd.prog w10 (Instr.alloc 101 true (.tuple #[])) fun t8 w11 =>
 opU Tryd.prog w11 (Instr.storeAt 101 t8 t28) fun w12 =>
 opP Tryd.prog (Instr.fieldAt 101 t8 1) fun t30 =>
 opQ Tryd.prog w12 (Instr.loadAt 25 t30) fun t31 =>
 oCall Tryd.prog Tryd.n_types_own #[t31] w12 fun t32 w13 =>
 opW Tryd.prog w13 (Instr.buildSlice 23 1 #[(0, t32)]) fun t33 w14 =>
 opW Tryd.prog w14 (Builtin.append_ #[23, 23] 23 #[(s8.getD 0 undef), t33]) fun t34 w15 =>
 opP Tryd.prog (bsem .add 3 true (s8.getD 1 undef) (Value.int .i64 1)) fun t35 =>
 K7 [t34, t35] w15) (K (.tuple #[(s8.getD 0 undef), (Value.int .i64 0)]) w10))))
theorem Tryd.E_types_Fields (t0 t1 : Value) (w : World) (K : Value → World → Prop) : sw ⟨false, false⟩ Tryd.prog (fun _ _ => False) Tryd.A_types_Fields (bodyOf Tryd.f35) [t0, t1, undef, undef, undef, undef, undef, undef, undef, undef, undef, undef, undef, undef, undef, undef, undef, undef, undef, undef, undef, undef, undef, undef, undef, undef, undef, undef, undef, undef, undef, undef, undef, undef, undef, undef, undef] w (topQ false Tryd.prog Tryd.f35 w K) = Tryd.F_types_Fields t0 t1 w K := by kernel_rfl
theorem Tryd.C_types_Fields : chk ⟨false, false⟩ Tryd.prog false Tryd.A_types_Fields (bodyOf Tryd.f35) = true := by kernel_rfl
theorem Tryd.ok_types_Fields {t0 t1 : Value} {w : World} {K : Value → World → Prop} (h : Tryd.F_types_Fields t0 t1 w K) : oCall Tryd.prog Tryd.n_types_Fields #[t0, t1] w K :=
  calls_of_sw (cf := ⟨false, false⟩) Tryd.mixed Tryd.func35 rfl Tryd.C_types_Fields ((Tryd.E_types_Fields t0 t1 w K).mpr h)

/- 55: loanword/types.text -/
def Tryd.A_types_text : Ann := .s (.r (.op 0 .l (.op 1 .p (.nil)))) (.s (.s (.r (.op 0 .p (.op 1 .q (.nil)))) (.b (.s (.r (.op 0 .p (.op 1 .p (.nil)))) (.c (.s (.r (.op 0 .p (.nil))) (.n)) (.s (.r (.op 0 .p (.op 1 .p (.nil)))) (.c (.s (.r (.op 0 .p (.nil))) (.n)) (.s (.r (.op 0 .p (.op 1 .p (.nil)))) (.c (.s (.r (.op 0 .p (.op 1 .q (.op 2 .p (.op 3 .q (.op 4 .l (.op 5 .p (.op 6 .p (.op 7 .p (.nil)))))))))) (.n)) (.s (.r (.op 0 .p (.op 1 .p (.nil)))) (.c (.s (.r (.op 0 .p (.op 1 .q (.op 2 .l (.op 3 .p (.op 4 .p (.nil))))))) (.n)) (.n))))))))))) (.s (.r (.op 0 .p (.op 1 .q (.op 2 .p (.op 3 .q (.op 4 .l (.op 5 .p (.op 6 .p (.nil))))))))) (.j [3] (.s (.r (.op 0 .p (.op 1 .q (.op 2 .p (.nil))))) (.c (.r (.op 0 .p (.op 1 .p (.op 2 .q (.op 3 .l (.op 4 .p (.op 5 .p (.op 6 .p (.op 7 .p (.nil)))))))))) (.n))) (.j [3] (.s (.r (.op 0 .p (.op 1 .q (.nil)))) (.c (.r (.op 0 .p (.op 1 .p (.op 2 .p (.nil))))) (.n))) (.j [3] (.s (.r (.op 0 .p (.op 1 .p (.op 2 .p (.grp 47 true [(3, .p), (4, .p), (5, .p)] [50] (.op 6 .p (.nil))))))) (.c (.r (.op 0 .p (.nil))) (.n))) (.s (.r (.op 0 .p (.op 1 .p (.op 2 .p (.op 3 .p (.nil)))))) (.n)))))))
def Tryd.F_types_text (t0 : Value) (w : World) (K : Value → World → Prop) : Prop :=
 opW Tryd.prog w (Instr.box 25 t0) fun t1 w1 =>
 opP Tryd.prog (Instr.fieldAt 25 t1 0) fun t5 =>
 opQ Tryd.prog w1 (Instr.loadAt 22 t5) fun t6 =>
 opP Tryd.prog (bsem .eql 22 true t6 (Value.int .u8 1)) fun t8 =>
 oCond t8 (K (Value.string { data := #[105, 54, 52] }) w1) (opP Tryd.prog (bsem .eql 22 true t6 (Value.int .u8 2)) fun t10 =>
 oCond t10 (K (Value.string { data := #[98, 111, 111, 108] }) w1) (opP Tryd.prog (bsem .eql 22 true t6 (Value.int .u8 3)) fun t12 =>
 oCond t12 (opP Tryd.prog (Instr.fieldAt 25 t1 4) fun t13 =>
 opQ Tryd.prog w1 (Instr.loadAt 23 t13) fun t14 =>
 opP Tryd.prog (Instr.indexAt 23 t14 (Value.int .i64 0)) fun t15 =>
 opQ Tryd.prog w1 (Instr.loadAt 25 t15) fun t16 =>
 oCall Tryd.prog Tryd.n_types_text #[t16] w1 fun t17 w2 =>
 opP Tryd.prog (bsem .add 9 true (Value.string { data := #[66, 111, 120, 60] }) t17) fun t18 =>
 opP Tryd.prog (bsem .add 9 true t18 (Value.string { data := #[62] })) fun t19 =>
 K t19 w2) (opP Tryd.prog (bsem .eql 22 true t6 (Value.int .u8 5)) fun t21 =>
 oCond t21 (opP Tryd.prog (Instr.fieldAt 25 t1 3) fun t22 =>
 opQ Tryd.prog w1 (Instr.loadAt 3 t22) fun t23 =>
 oCall Tryd.prog Tryd.n_strconv_Itoa #[t23] w1 fun t24 w3 =>
 opP Tryd.prog (bsem .add 9 true (Value.string { data := #[35] }) t24) fun t25 =>
 K t25 w3) (opP Tryd.prog (Instr.fieldAt 25 t1 4) fun t26 =>
 opQ Tryd.prog w1 (Instr.loadAt 23 t26) fun t27 =>
 opP Tryd.prog (Instr.indexAt 23 t27 (Value.int .i64 0)) fun t28 =>
 opQ Tryd.prog w1 (Instr.loadAt 25 t28) fun t29 =>
 oCall Tryd.prog Tryd.n_types_text #[t29] w1 fun t30 w4 =>
 sJoin (fun K5 =>
 opP Tryd.prog (Instr.fieldAt 25 t1 2) fun t31 =>
 opQ Tryd.prog w4 (Instr.loadAt 3 t31) fun t32 =>
 opP Tryd.prog (bsem .geq 3 true t32 (Value.int .i64 0)) fun t33 =>
 oCond t33 (opP Tryd.prog (Instr.fieldAt 25 t1 2) fun t35 =>
 opQ Tryd.prog w4 (Instr.loadAt 3 t35) fun t36 =>
 oCall Tryd.prog Tryd.n_strconv_Itoa #[t36] w4 fun t37 w9 =>
 opP Tryd.prog (bsem .add 9 true (Value.string { data := #[39] }) t37) fun t38 =>
 opP Tryd.prog (bsem .add 9 true t38 (Value.string { data := #[32] })) fun t39 =>
 opP Tryd.prog (bsem .add 9 false (Value.string { data := #[38] }) t39) fun t40 =>
 K5 [t40] w9) (K5 [(Value.string { data := #[38] })] w4)) (fun s6 _d7 w8 =>
 sJoin (fun K10 =>
 opP Tryd.prog (Instr.fieldAt 25 t1 1) fun t41 =>
 opQ Tryd.prog w8 (Instr.loadAt 4 t41) fun t42 =>
 oCond t42 (opP Tryd.prog (bsem .add 9 true (s6.getD 0 undef) (Value.string { data := #[109, 117, 116, 32] })) fun t44 =>
 K10 [t44] w8) (K10 [(s6.getD 0 undef)] w8)) (fun s11 _d12 w13 =>
 sJoin (fun K14 =>
 opP Tryd.prog (bsem .eql 9 true (s11.getD 0 undef) (Value.string { data := #[38] })) fun t46 =>
 sJoin (fun K18 => gIf t46 true (opP Tryd.prog (Instr.index 9 t30 (Value.int .i64 0)) fun t49 =>
 opP Tryd.prog (bsem .eql 5 true t49 (Value.int .u8 38)) fun t50 =>
 K18 [t50] w13) (K18 [undef] w13)) (fun s19 _d20 w21 =>
 oPick t46 (s19.getD 0 undef) (Value.bool false) fun t51 =>
 oCond t51 (K14 [(Value.string { data := #[38, 32] })] w21) (K14 [(s11.getD 0 undef)] w21))) (fun s15 _d16 w17 =>
 opP Tryd.prog (bsem .add 9 false (s15.getD 0 undef) t30) fun t54 =>
 K t54 w17)))))))
theorem Tryd.E_types_text (t0 : Value) (w : World) (K : Value → World → Prop) : sw ⟨false, false⟩ Tryd.prog (fun _ _ => False) Tryd.A_types_text (bodyOf Tryd.f55) [t0, undef, undef, undef, undef, undef, undef, undef, undef, undef, undef, undef, undef, undef, undef, undef, undef, undef, undef, undef, undef, undef, undef, undef, undef, undef, undef, undef, undef, undef, undef, undef, undef, undef, undef, undef, undef, undef, undef, undef, undef, undef, undef, undef, undef, undef, undef, undef, undef, undef, undef, undef, undef, undef, undef] w (topQ false Tryd.prog Tryd.f55 w K) = Tryd.F_types_text t0 w K := by kernel_rfl
theorem Tryd.C_types_text : chk ⟨false, false⟩ Tryd.prog false Tryd.A_types_text (bodyOf Tryd.f55) = true := by kernel_rfl
theorem Tryd.ok_types_text {t0 : Value} {w : World} {K : Value → World → Prop} (h : Tryd.F_types_text t0 w K) : oCall Tryd.prog Tryd.n_types_text #[t0] w K :=
  calls_of_sw (cf := ⟨false, false⟩) Tryd.mixed Tryd.func55 rfl Tryd.C_types_text ((Tryd.E_types_text t0 w K).mpr h)

/- 14: loanword/types.Text -/
def Tryd.A_types_Text : Ann := .s (.r (.op 0 .l (.op 1 .p (.op 2 .p (.nil))))) (.s (.s (.r (.op 0 .q (.op 1 .l (.op 2 .p (.nil))))) (.c (.s (.r (.op 0 .p (.op 1 .p (.nil)))) (.n)) (.n))) (.s (.r (.op 0 .q (.op 1 .l (.op 2 .p (.op 3 .p (.nil)))))) (.n)))
def Tryd.F_types_Text (t0 : Value) (w : World) (K : Value → World → Prop) : Prop :=
 opW Tryd.prog w (Instr.box 25 t0) fun t1 w1 =>
 opQ Tryd.prog w1 (Instr.loadAt 25 t1) fun t4 =>
 oCall Tryd.prog Tryd.n_types_may #[t4] w1 fun t5 w2 =>
 opP Tryd.prog (Op.unary .not t5) fun t6 =>
 oCond t6 (K (.tuple #[(Value.string { data := #[] }), (Value.int .i64 2)]) w2) (opQ Tryd.prog w2 (Instr.loadAt 25 t1) fun t7 =>
 oCall Tryd.prog Tryd.n_types_text #[t7] w2 fun t8 w3 =>
 K (.tuple #[t8, (Value.int .i64 0)]) w3)
theorem Tryd.E_types_Text (t0 : Value) (w : World) (K : Value → World → Prop) : sw ⟨false, false⟩ Tryd.prog (fun _ _ => False) Tryd.A_types_Text (bodyOf Tryd.f14) [t0, undef, undef, undef, undef, undef, undef, undef, undef] w (topQ false Tryd.prog Tryd.f14 w K) = Tryd.F_types_Text t0 w K := by kernel_rfl
theorem Tryd.C_types_Text : chk ⟨false, false⟩ Tryd.prog false Tryd.A_types_Text (bodyOf Tryd.f14) = true := by kernel_rfl
theorem Tryd.ok_types_Text {t0 : Value} {w : World} {K : Value → World → Prop} (h : Tryd.F_types_Text t0 w K) : oCall Tryd.prog Tryd.n_types_Text #[t0] w K :=
  calls_of_sw (cf := ⟨false, false⟩) Tryd.mixed Tryd.func14 rfl Tryd.C_types_Text ((Tryd.E_types_Text t0 w K).mpr h)

end Go.Proofs
end
