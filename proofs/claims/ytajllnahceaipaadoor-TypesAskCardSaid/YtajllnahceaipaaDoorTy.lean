/-
  The seat's types, reckoned: what each operation on them asks. Made by a program (wip/gen/gen.py).
-/
import Derived.Test.YtajllnahceaipaaDoorProg
import Derived.Test.YtajllnahceaipaaDoorShM
import Derived.KernelRfl
namespace Go.Proofs
open Go.Sh
set_option maxRecDepth 100000
theorem Tryd.mixed : Tryd.prog.follows .mixedOrders = true := by kernel_rfl
abbrev Tryd.t_ : TypeId := 0
abbrev Tryd.t_func : TypeId := 1
abbrev Tryd.t_int64 : TypeId := 2
abbrev Tryd.t_int : TypeId := 3
abbrev Tryd.t_bool : TypeId := 4
abbrev Tryd.t_uint8 : TypeId := 5
abbrev Tryd.t_abi_BoundsErrorCode : TypeId := 6
abbrev Tryd.t_x7 : TypeId := 7
abbrev Tryd.t_runtime_boundsError : TypeId := 8
abbrev Tryd.t_string : TypeId := 9
abbrev Tryd.t_runtime_errorString : TypeId := 10
abbrev Tryd.t_runtime_plainError : TypeId := 11
abbrev Tryd.t_uintptr : TypeId := 12
abbrev Tryd.t_x13 : TypeId := 13
abbrev Tryd.t_runtime_errorAddressString : TypeId := 14
abbrev Tryd.t_P_runtime_TypeAssertionError : TypeId := 15
abbrev Tryd.t_P_runtime_PanicNilError : TypeId := 16
abbrev Tryd.t_P_abi_Type : TypeId := 17
abbrev Tryd.t_x18 : TypeId := 18
abbrev Tryd.t_maps_unhashableTypeError : TypeId := 19
abbrev Tryd.t_x20 : TypeId := 20
abbrev Tryd.t_int32 : TypeId := 21
abbrev Tryd.t_TypeKind : TypeId := 22
abbrev Tryd.t_S_Type : TypeId := 23
abbrev Tryd.t_x24 : TypeId := 24
abbrev Tryd.t_Type : TypeId := 25
abbrev Tryd.t_func_Type_int_bool : TypeId := 26
abbrev Tryd.t_func_bool : TypeId := 27
abbrev Tryd.t_S_Constraint : TypeId := 28
abbrev Tryd.t_Errno : TypeId := 29
abbrev Tryd.t_S_Constraint_Errno : TypeId := 30
abbrev Tryd.t_func_Type_Type_S_Constraint_Errno : TypeId := 31
abbrev Tryd.t_S_Constraint_int : TypeId := 32
abbrev Tryd.t_func_Type_Type_S_Constraint_int : TypeId := 33
abbrev Tryd.t_x34 : TypeId := 34
abbrev Tryd.t_Constraint : TypeId := 35
abbrev Tryd.t_func_Type_Type_bool : TypeId := 36
abbrev Tryd.t_string_Errno : TypeId := 37
abbrev Tryd.t_func_Type_string_Errno : TypeId := 38
abbrev Tryd.t_string_int : TypeId := 39
abbrev Tryd.t_func_Type_string_int : TypeId := 40
abbrev Tryd.t_Type_int_Errno : TypeId := 41
abbrev Tryd.t_func_string_Type_int_Errno : TypeId := 42
abbrev Tryd.t_Type_int_int : TypeId := 43
abbrev Tryd.t_func_string_Type_int_int : TypeId := 44
abbrev Tryd.t_func_Type : TypeId := 45
abbrev Tryd.t_func_Type_string_bool : TypeId := 46
abbrev Tryd.t_func_S_Constraint_S_Constraint : TypeId := 47
abbrev Tryd.t_func_S_Constraint_Constraint_bool : TypeId := 48
abbrev Tryd.t_func_Type_Type_Type_bool : TypeId := 49
abbrev Tryd.t_S_Struct : TypeId := 50
abbrev Tryd.t_func_S_Struct_bool : TypeId := 51
abbrev Tryd.t_int_Errno : TypeId := 52
abbrev Tryd.t_func_S_Struct_int_Errno : TypeId := 53
abbrev Tryd.t_int_int : TypeId := 54
abbrev Tryd.t_func_S_Struct_int_int : TypeId := 55
abbrev Tryd.t_func_S_Struct_Type_bool : TypeId := 56
abbrev Tryd.t_func_Type_bool : TypeId := 57
abbrev Tryd.t_func_S_Struct_Type_int_Errno : TypeId := 58
abbrev Tryd.t_func_S_Struct_Type_int_int : TypeId := 59
abbrev Tryd.t_bool_Errno : TypeId := 60
abbrev Tryd.t_func_S_Struct_Type_bool_Errno : TypeId := 61
abbrev Tryd.t_bool_int : TypeId := 62
abbrev Tryd.t_func_S_Struct_Type_bool_int : TypeId := 63
abbrev Tryd.t_S_Type_Errno : TypeId := 64
abbrev Tryd.t_func_S_Struct_Type_S_Type_Errno : TypeId := 65
abbrev Tryd.t_S_Type_int : TypeId := 66
abbrev Tryd.t_func_S_Struct_Type_S_Type_int : TypeId := 67
abbrev Tryd.t_S_int : TypeId := 68
abbrev Tryd.t_Type_Errno : TypeId := 69
abbrev Tryd.t_func_Type_Type_Errno : TypeId := 70
abbrev Tryd.t_func_Type_S_int : TypeId := 71
abbrev Tryd.t_func_Type_int_Type_int_Errno : TypeId := 72
abbrev Tryd.t_func_Type_int_Type_int_int : TypeId := 73
abbrev Tryd.t_func_Type_int_Type_Errno : TypeId := 74
abbrev Tryd.t_Type_int : TypeId := 75
abbrev Tryd.t_func_Type_S_int_Type_int : TypeId := 76
abbrev Tryd.t_func_Type_Type_int_S_int_bool : TypeId := 77
abbrev Tryd.t_func_S_Struct_Type_int_bool : TypeId := 78
abbrev Tryd.t_func_bool_int_Type_Type : TypeId := 79
abbrev Tryd.t_func_S_int_func_int_bool_bool : TypeId := 81
abbrev Tryd.t_func_int_bool : TypeId := 82
abbrev Tryd.t_func_int_int : TypeId := 83
abbrev Tryd.t_func_Type_Type_bool_S_Constraint : TypeId := 84
abbrev Tryd.t_func_Type_string : TypeId := 85
abbrev Tryd.t_P_types_reader : TypeId := 86
abbrev Tryd.t_x87 : TypeId := 87
abbrev Tryd.t_types_reader : TypeId := 88
abbrev Tryd.t_x89 : TypeId := 89
abbrev Tryd.t_types_stuck : TypeId := 90
abbrev Tryd.t_func_int_Type : TypeId := 91
abbrev Tryd.t_P_loanwordref06_reader : TypeId := 92
abbrev Tryd.t_x93 : TypeId := 93
abbrev Tryd.t_loanwordref06_reader : TypeId := 94
abbrev Tryd.t_func_Type_Type_func_int_int_bool_bool : TypeId := 95
abbrev Tryd.t_func_int_int_bool : TypeId := 96
abbrev Tryd.t_S_Field : TypeId := 97
abbrev Tryd.t_x98 : TypeId := 98
abbrev Tryd.t_Struct : TypeId := 99
abbrev Tryd.t_x100 : TypeId := 100
abbrev Tryd.t_Field : TypeId := 101
abbrev Tryd.t_func_S_Field_func_Field_bool_bool : TypeId := 102
abbrev Tryd.t_func_Type_int_int_bool : TypeId := 103
abbrev Tryd.t_func_Field_bool : TypeId := 104
abbrev Tryd.t_func_S_Struct_int_bool : TypeId := 105
abbrev Tryd.t_func_S_Struct_Type_int : TypeId := 106
abbrev Tryd.t_S_func_int_bool : TypeId := 107
abbrev Tryd.t_func_int_func_int_bool_int : TypeId := 108
abbrev Tryd.t_func_Type_Type : TypeId := 110
abbrev Tryd.t_func_Type_Type_bool_bool : TypeId := 111
abbrev Tryd.t_func_P_Type_func_P_Type : TypeId := 112
abbrev Tryd.t_P_Type : TypeId := 113
abbrev Tryd.t_func_P_Type : TypeId := 114
abbrev Tryd.t_func_Type_S_int_Type : TypeId := 115
abbrev Tryd.t_func_S_int_func_int_bool_int : TypeId := 116
abbrev Tryd.t_func_int_string : TypeId := 117
abbrev Tryd.t_func_string_bool : TypeId := 118
abbrev Tryd.t_func_string : TypeId := 119
abbrev Tryd.t_func_uint8 : TypeId := 121
abbrev Tryd.t_func_uint64_int : TypeId := 122
abbrev Tryd.t_uint64 : TypeId := 123
abbrev Tryd.t_func_S_Field_func_Field_bool_int : TypeId := 124
abbrev Tryd.t_32_bool : TypeId := 125
abbrev Tryd.t_S_bool : TypeId := 126
abbrev Tryd.t_func_string_string_bool : TypeId := 127
abbrev Tryd.t_func_int64_int_string : TypeId := 128
abbrev Tryd.t_24_uint8 : TypeId := 129
abbrev Tryd.t_func_S_uint8_uint64 : TypeId := 130
abbrev Tryd.t_S_uint8 : TypeId := 131
abbrev Tryd.t_S_uint8_string : TypeId := 132
abbrev Tryd.t_func_S_uint8_uint64_int_bool_bool_S_uint8_string : TypeId := 133
abbrev Tryd.t_func_bool_int : TypeId := 134
abbrev Tryd.t_20_uint64 : TypeId := 135
abbrev Tryd.t_uint32 : TypeId := 136
abbrev Tryd.t_65_uint8 : TypeId := 137
abbrev Tryd.t_uint : TypeId := 138
abbrev Tryd.t_func_uint_int : TypeId := 139
abbrev Tryd.t_func_uint32_int : TypeId := 140
abbrev Tryd.t_32_uint8 : TypeId := 141
abbrev Tryd.t_64_uint8 : TypeId := 142
abbrev Tryd.t_x144 : TypeId := 144
abbrev Tryd.t_runtime_TypeAssertionError : TypeId := 145
abbrev Tryd.t_0_P_runtime_PanicNilError : TypeId := 146
abbrev Tryd.t_x147 : TypeId := 147
abbrev Tryd.t_runtime_PanicNilError : TypeId := 148
abbrev Tryd.t_func_int : TypeId := 149
abbrev Tryd.t_abi_TFlag : TypeId := 150
abbrev Tryd.t_abi_Kind : TypeId := 151
abbrev Tryd.t_func_unsafe_Pointer_unsafe_Pointer_bool : TypeId := 152
abbrev Tryd.t_P_uint8 : TypeId := 153
abbrev Tryd.t_abi_NameOff : TypeId := 154
abbrev Tryd.t_abi_TypeOff : TypeId := 155
abbrev Tryd.t_x156 : TypeId := 156
abbrev Tryd.t_abi_Type : TypeId := 157
abbrev Tryd.t_unsafe_Pointer : TypeId := 158
abbrev Tryd.n_types_look : FuncId := 66
instance : Ld1 Tryd.prog 3 := ⟨by kernel_rfl⟩
instance : SzT Tryd.prog 3 1 := ⟨by kernel_rfl⟩
instance : KdT Tryd.prog 3 .i64 := ⟨by kernel_rfl⟩
instance : FldT Tryd.prog 25 4 4 := ⟨by kernel_rfl⟩
instance : Ld1 Tryd.prog 23 := ⟨by kernel_rfl⟩
instance : SzT Tryd.prog 23 1 := ⟨by kernel_rfl⟩
instance : SlT Tryd.prog 23 25 5 := ⟨by kernel_rfl⟩
instance : LdN Tryd.prog 25 5 := ⟨by kernel_rfl⟩
instance : SzT Tryd.prog 25 5 := ⟨by kernel_rfl⟩
instance : FldT Tryd.prog 25 1 1 := ⟨by kernel_rfl⟩
instance : Ld1 Tryd.prog 4 := ⟨by kernel_rfl⟩
instance : SzT Tryd.prog 4 1 := ⟨by kernel_rfl⟩
instance : KdB Tryd.prog 4 := ⟨by kernel_rfl⟩
instance : FldT Tryd.prog 25 2 2 := ⟨by kernel_rfl⟩
instance : FldT Tryd.prog 25 0 0 := ⟨by kernel_rfl⟩
instance : Ld1 Tryd.prog 22 := ⟨by kernel_rfl⟩
instance : SzT Tryd.prog 22 1 := ⟨by kernel_rfl⟩
instance : KdT Tryd.prog 22 .u8 := ⟨by kernel_rfl⟩
instance : FldT Tryd.prog 25 3 3 := ⟨by kernel_rfl⟩
abbrev Tryd.n_types_may : FuncId := 54
abbrev Tryd.n_types_words : FuncId := 70
instance : Ld1 Tryd.prog 50 := ⟨by kernel_rfl⟩
instance : SzT Tryd.prog 50 1 := ⟨by kernel_rfl⟩
instance : SlT Tryd.prog 50 99 2 := ⟨by kernel_rfl⟩
instance : LdN Tryd.prog 99 2 := ⟨by kernel_rfl⟩
instance : SzT Tryd.prog 99 2 := ⟨by kernel_rfl⟩
instance : FldT Tryd.prog 99 1 1 := ⟨by kernel_rfl⟩
instance : Ld1 Tryd.prog 97 := ⟨by kernel_rfl⟩
instance : SzT Tryd.prog 97 1 := ⟨by kernel_rfl⟩
instance : SlT Tryd.prog 97 101 6 := ⟨by kernel_rfl⟩
instance : LdN Tryd.prog 101 6 := ⟨by kernel_rfl⟩
instance : SzT Tryd.prog 101 6 := ⟨by kernel_rfl⟩
instance : ZrT Tryd.prog 101 [(.string ByteArray.empty), (.int .u8 0), (.bool false), (.int .i64 0), (.int .i64 0), (.slice none 0 0)] := ⟨by kernel_rfl⟩
instance : FldT Tryd.prog 101 1 1 := ⟨by kernel_rfl⟩
abbrev Tryd.n_types_endless : FuncId := 68
instance : LdN Tryd.prog 125 32 := ⟨by kernel_rfl⟩
instance : SzT Tryd.prog 125 32 := ⟨by kernel_rfl⟩
instance : ArT Tryd.prog 125 32 4 1 := ⟨by kernel_rfl⟩
instance : ZrT Tryd.prog 125 [(.bool false), (.bool false), (.bool false), (.bool false), (.bool false), (.bool false), (.bool false), (.bool false), (.bool false), (.bool false), (.bool false), (.bool false), (.bool false), (.bool false), (.bool false), (.bool false), (.bool false), (.bool false), (.bool false), (.bool false), (.bool false), (.bool false), (.bool false), (.bool false), (.bool false), (.bool false), (.bool false), (.bool false), (.bool false), (.bool false), (.bool false), (.bool false)] := ⟨by kernel_rfl⟩
instance : Ld1 Tryd.prog 68 := ⟨by kernel_rfl⟩
instance : SzT Tryd.prog 68 1 := ⟨by kernel_rfl⟩
instance : SlT Tryd.prog 68 3 1 := ⟨by kernel_rfl⟩
instance : ApT Tryd.prog 68 3 1 8 := ⟨by kernel_rfl⟩
abbrev Tryd.n_types_first : FuncId := 71
abbrev Tryd.n_types_Structs : FuncId := 25
instance : ZrT Tryd.prog 3 [(.int .i64 0)] := ⟨by kernel_rfl⟩
instance : Ld1 Tryd.prog 107 := ⟨by kernel_rfl⟩
instance : SzT Tryd.prog 107 1 := ⟨by kernel_rfl⟩
instance : SlT Tryd.prog 107 82 1 := ⟨by kernel_rfl⟩
instance : Ld1 Tryd.prog 82 := ⟨by kernel_rfl⟩
instance : SzT Tryd.prog 82 1 := ⟨by kernel_rfl⟩
instance : FnT Tryd.prog 82 := ⟨by kernel_rfl⟩
abbrev Tryd.n_types_Structs_1 : FuncId := 63
abbrev Tryd.n_types_Structs_1_1 : FuncId := 65
abbrev Tryd.n_types_Structs_2 : FuncId := 67
abbrev Tryd.n_types_Structs_3 : FuncId := 69
instance {x0_0 : Int} {x3_0 : Int} : PStep Tryd.prog (Instr.build 25 #[(0, .int .u8 x0_0), (3, .int .i64 x3_0)]) (.agg #[.int .u8 x0_0, (.bool false), (.int .i64 0), .int .i64 x3_0, (.slice none 0 0)]) := .of fun _ k => p_build (by kernel_rfl) k
abbrev Tryd.n_types_May : FuncId := 27
instance : Ld1 Tryd.prog 29 := ⟨by kernel_rfl⟩
instance : SzT Tryd.prog 29 1 := ⟨by kernel_rfl⟩
instance : KdT Tryd.prog 29 .i64 := ⟨by kernel_rfl⟩
abbrev Tryd.n_types_Words : FuncId := 31
abbrev Tryd.n_types_drops : FuncId := 76
abbrev Tryd.n_types_drops_1 : FuncId := 98
abbrev Tryd.n_types_Drops : FuncId := 33
abbrev Tryd.n_types_Copies : FuncId := 29
abbrev Tryd.n_types_own : FuncId := 78
instance : ZrT Tryd.prog 25 [(.int .u8 0), (.bool false), (.int .i64 0), (.int .i64 0), (.slice none 0 0)] := ⟨by kernel_rfl⟩
abbrev Tryd.n_types_Own : FuncId := 37
instance : PStep Tryd.prog (Instr.build 25 #[]) (.agg #[(.int .u8 0), (.bool false), (.int .i64 0), (.int .i64 0), (.slice none 0 0)]) := .of fun _ k => p_build (by kernel_rfl) k
abbrev Tryd.n_types_alike : FuncId := 60
abbrev Tryd.n_types_Alike : FuncId := 20
abbrev Tryd.n_types_Alike_1 : FuncId := 61
abbrev Tryd.n_types_Same : FuncId := 23
abbrev Tryd.n_types_Same_1 : FuncId := 62
abbrev Tryd.n_types_regions : FuncId := 50
instance : ZrT Tryd.prog 68 [(.slice none 0 0)] := ⟨by kernel_rfl⟩
abbrev Tryd.n_types_regions_1 : FuncId := 87
abbrev Tryd.n_types_walk : FuncId := 81
abbrev Tryd.n_types_Regions : FuncId := 41
abbrev Tryd.n_types_Number : FuncId := 43
abbrev Tryd.n_types_Number_1 : FuncId := 82
abbrev Tryd.n_types_Anew : FuncId := 45
abbrev Tryd.n_types_Anew_1 : FuncId := 84
abbrev Tryd.n_types_Anew_2 : FuncId := 85
abbrev Tryd.n_types_Asks : FuncId := 12
instance : Ld1 Tryd.prog 28 := ⟨by kernel_rfl⟩
instance : SzT Tryd.prog 28 1 := ⟨by kernel_rfl⟩
instance : SlT Tryd.prog 28 35 2 := ⟨by kernel_rfl⟩
instance : LdN Tryd.prog 35 2 := ⟨by kernel_rfl⟩
instance : SzT Tryd.prog 35 2 := ⟨by kernel_rfl⟩
instance : ZrT Tryd.prog 28 [(.slice none 0 0)] := ⟨by kernel_rfl⟩
abbrev Tryd.n_types_Asks_1 : FuncId := 51
abbrev Tryd.n_types_Asks_2 : FuncId := 52
instance {x0_0 : Int} {x1_0 : Int} : PStep Tryd.prog (Instr.build 35 #[(0, .int .i64 x0_0), (1, .int .i64 x1_0)]) (.agg #[.int .i64 x0_0, .int .i64 x1_0]) := .of fun _ k => p_build (by kernel_rfl) k
instance : ApT Tryd.prog 28 35 2 16 := ⟨by kernel_rfl⟩
abbrev Tryd.n_types_Fields : FuncId := 35
instance : ApT Tryd.prog 23 25 5 48 := ⟨by kernel_rfl⟩
abbrev Tryd.n_types_text : FuncId := 55
instance : Ld1 Tryd.prog 9 := ⟨by kernel_rfl⟩
instance : SzT Tryd.prog 9 1 := ⟨by kernel_rfl⟩
instance : StrT Tryd.prog 9 := ⟨by kernel_rfl⟩
instance : Ld1 Tryd.prog 5 := ⟨by kernel_rfl⟩
instance : SzT Tryd.prog 5 1 := ⟨by kernel_rfl⟩
instance : KdT Tryd.prog 5 .u8 := ⟨by kernel_rfl⟩
abbrev Tryd.n_types_Text : FuncId := 14
abbrev Tryd.n_types_reader_comes : FuncId := 89
instance : FldT Tryd.prog 88 0 0 := ⟨by kernel_rfl⟩
instance : FldT Tryd.prog 88 1 1 := ⟨by kernel_rfl⟩
abbrev Tryd.n_types_reader_take : FuncId := 90
instance : PStep Tryd.prog (Instr.build 90 #[]) (.agg #[]) := .of fun _ k => p_build (by kernel_rfl) k
instance : NIf Tryd.prog 90 := ⟨by kernel_rfl⟩
abbrev Tryd.n_types_reader_digits : FuncId := 91
abbrev Tryd.n_types_reader_kind : FuncId := 58
instance {x0_0 : Int} : PStep Tryd.prog (Instr.build 25 #[(0, .int .u8 x0_0)]) (.agg #[.int .u8 x0_0, (.bool false), (.int .i64 0), (.int .i64 0), (.slice none 0 0)]) := .of fun _ k => p_build (by kernel_rfl) k
instance {x0_0 : Int} {x4_0 : Option Addr} {x4_0_l : Nat} {x4_0_c : Nat} : PStep Tryd.prog (Instr.build 25 #[(0, .int .u8 x0_0), (4, .slice x4_0 x4_0_l x4_0_c)]) (.agg #[.int .u8 x0_0, (.bool false), (.int .i64 0), (.int .i64 0), .slice x4_0 x4_0_l x4_0_c]) := .of fun _ k => p_build (by kernel_rfl) k
abbrev Tryd.n_types_reader_ref : FuncId := 92
instance {x0_0 : Int} {x2_0 : Int} : PStep Tryd.prog (Instr.build 25 #[(0, .int .u8 x0_0), (2, .int .i64 x2_0)]) (.agg #[.int .u8 x0_0, (.bool false), .int .i64 x2_0, (.int .i64 0), (.slice none 0 0)]) := .of fun _ k => p_build (by kernel_rfl) k
abbrev Tryd.n_types_Read : FuncId := 16
instance : ZrT Tryd.prog 29 [(.int .i64 0)] := ⟨by kernel_rfl⟩
instance {x0_0 : ByteArray} : PStep Tryd.prog (Instr.build 88 #[(0, .string x0_0)]) (.agg #[.string x0_0, (.int .i64 0)]) := .of fun _ k => p_build (by kernel_rfl) k
instance : Ld1 Tryd.prog 86 := ⟨by kernel_rfl⟩
instance : SzT Tryd.prog 86 1 := ⟨by kernel_rfl⟩
instance : ZrT Tryd.prog 86 [(.pointer none)] := ⟨by kernel_rfl⟩
abbrev Tryd.n_types_Read_1 : FuncId := 57
instance : Ld1 Tryd.prog 20 := ⟨by kernel_rfl⟩
instance : SzT Tryd.prog 20 1 := ⟨by kernel_rfl⟩
instance : IfT Tryd.prog 20 := ⟨by kernel_rfl⟩
instance : LdN Tryd.prog 90 0 := ⟨by kernel_rfl⟩
instance : SzT Tryd.prog 90 0 := ⟨by kernel_rfl⟩
instance : ZrT Tryd.prog 90 [] := ⟨by kernel_rfl⟩
abbrev Tryd.n_ref06_look : FuncId := 72
abbrev Tryd.n_ref06_Is : FuncId := 38
abbrev Tryd.n_ref06_plain : FuncId := 73
abbrev Tryd.n_ref06_endless : FuncId := 74
instance : Ld1 Tryd.prog 126 := ⟨by kernel_rfl⟩
instance : SzT Tryd.prog 126 1 := ⟨by kernel_rfl⟩
instance : SlT Tryd.prog 126 4 1 := ⟨by kernel_rfl⟩
instance : ApT Tryd.prog 126 4 1 1 := ⟨by kernel_rfl⟩
instance : ZrT Tryd.prog 4 [(.bool false)] := ⟨by kernel_rfl⟩
abbrev Tryd.n_ref06_words : FuncId := 75
abbrev Tryd.n_ref06_Structs : FuncId := 26
abbrev Tryd.n_ref06_May : FuncId := 28
abbrev Tryd.n_ref06_Words : FuncId := 32
abbrev Tryd.n_ref06_drops : FuncId := 77
abbrev Tryd.n_ref06_Drops : FuncId := 34
abbrev Tryd.n_ref06_Copies : FuncId := 30
abbrev Tryd.n_ref06_Own : FuncId := 79
abbrev Tryd.n_ref06_alike : FuncId := 80
abbrev Tryd.n_ref06_Alike : FuncId := 39
abbrev Tryd.n_ref06_Same : FuncId := 40
abbrev Tryd.n_ref06_Regions : FuncId := 42
abbrev Tryd.n_ref06_laid : FuncId := 83
abbrev Tryd.n_ref06_Number : FuncId := 44
abbrev Tryd.n_ref06_Anew : FuncId := 46
abbrev Tryd.n_ref06_asks : FuncId := 53
abbrev Tryd.n_ref06_Asks : FuncId := 13
abbrev Tryd.n_ref06_Fields : FuncId := 36
abbrev Tryd.n_ref06_text : FuncId := 56
abbrev Tryd.n_ref06_Text : FuncId := 15
abbrev Tryd.n_ref06_reader_word : FuncId := 94
instance : FldT Tryd.prog 94 2 2 := ⟨by kernel_rfl⟩
instance : FldT Tryd.prog 94 1 1 := ⟨by kernel_rfl⟩
instance : FldT Tryd.prog 94 0 0 := ⟨by kernel_rfl⟩
abbrev Tryd.n_ref06_reader_next : FuncId := 93
abbrev Tryd.n_ref06_reader_number : FuncId := 95
instance : Ld1 Tryd.prog 123 := ⟨by kernel_rfl⟩
instance : SzT Tryd.prog 123 1 := ⟨by kernel_rfl⟩
instance : KdT Tryd.prog 123 .u64 := ⟨by kernel_rfl⟩
abbrev Tryd.n_ref06_reader_kind : FuncId := 59
abbrev Tryd.n_ref06_reader_reference : FuncId := 96
abbrev Tryd.n_ref06_Read : FuncId := 17
instance {x0_0 : ByteArray} : PStep Tryd.prog (Instr.build 94 #[(0, .string x0_0)]) (.agg #[.string x0_0, (.int .i64 0), (.bool false)]) := .of fun _ k => p_build (by kernel_rfl) k
abbrev Tryd.n_law06_TypesAsk : FuncId := 3
instance : Eq2 Tryd.prog 35 := ⟨by kernel_rfl⟩
instance {x0_0 : Int} : PStep Tryd.prog (Instr.build 35 #[(0, .int .i64 x0_0)]) (.agg #[.int .i64 x0_0, (.int .i64 0)]) := .of fun _ k => p_build (by kernel_rfl) k
abbrev Tryd.n_law06_TypesTexts : FuncId := 4
abbrev Tryd.n_law06_TypesOrder : FuncId := 5
instance : FldT Tryd.prog 35 0 0 := ⟨by kernel_rfl⟩
instance : FldT Tryd.prog 35 1 1 := ⟨by kernel_rfl⟩
abbrev Tryd.n_law06_TypesBack : FuncId := 6
abbrev Tryd.n_law06_TypesAmong : FuncId := 7
abbrev Tryd.n_law06_TypesTurn : FuncId := 8
abbrev Tryd.n_law06_TypesNumbers : FuncId := 9
abbrev Tryd.n_law06_typeFits : FuncId := 10
abbrev Tryd.n_law06_awake : FuncId := 11
abbrev Tryd.n_law06_equal : FuncId := 18
abbrev Tryd.n_law06_spoil : FuncId := 19
abbrev Tryd.n_law06_reach : FuncId := 21
instance : ZrT Tryd.prog 35 [(.int .i64 0), (.int .i64 0)] := ⟨by kernel_rfl⟩
abbrev Tryd.n_law06_has : FuncId := 22
abbrev Tryd.n_law06_fits : FuncId := 24
abbrev Tryd.n_law06_ref : FuncId := 47
instance {x0_0 : Int} {x1_0 : Bool} {x2_0 : Int} {x4_0 : Option Addr} {x4_0_l : Nat} {x4_0_c : Nat} : PStep Tryd.prog (Instr.build 25 #[(0, .int .u8 x0_0), (1, .bool x1_0), (2, .int .i64 x2_0), (4, .slice x4_0 x4_0_l x4_0_c)]) (.agg #[.int .u8 x0_0, .bool x1_0, .int .i64 x2_0, (.int .i64 0), .slice x4_0 x4_0_l x4_0_c]) := .of fun _ k => p_build (by kernel_rfl) k
abbrev Tryd.n_law06_i64 : FuncId := 48
abbrev Tryd.n_slices_ContainsFunc_int_int : FuncId := 49
abbrev Tryd.n_slices_ContainsFunc_api_Field_api_Field : FuncId := 64
abbrev Tryd.n_slices_IndexFunc_int_int : FuncId := 86
abbrev Tryd.n_slices_IndexFunc_api_Field_api_Field : FuncId := 97
abbrev Tryd.n_strconv_Itoa : FuncId := 88
abbrev Tryd.n_internal_strconv_Itoa : FuncId := 99
abbrev Tryd.n_strings_HasPrefix : FuncId := 100
abbrev Tryd.n_internal_strconv_FormatInt : FuncId := 101
instance : Ld1 Tryd.prog 2 := ⟨by kernel_rfl⟩
instance : SzT Tryd.prog 2 1 := ⟨by kernel_rfl⟩
instance : KdT Tryd.prog 2 .i64 := ⟨by kernel_rfl⟩
instance : LdN Tryd.prog 129 24 := ⟨by kernel_rfl⟩
instance : SzT Tryd.prog 129 24 := ⟨by kernel_rfl⟩
instance : ArT Tryd.prog 129 24 5 1 := ⟨by kernel_rfl⟩
instance : ZrT Tryd.prog 129 [(.int .u8 0), (.int .u8 0), (.int .u8 0), (.int .u8 0), (.int .u8 0), (.int .u8 0), (.int .u8 0), (.int .u8 0), (.int .u8 0), (.int .u8 0), (.int .u8 0), (.int .u8 0), (.int .u8 0), (.int .u8 0), (.int .u8 0), (.int .u8 0), (.int .u8 0), (.int .u8 0), (.int .u8 0), (.int .u8 0), (.int .u8 0), (.int .u8 0), (.int .u8 0), (.int .u8 0)] := ⟨by kernel_rfl⟩
instance : Ld1 Tryd.prog 131 := ⟨by kernel_rfl⟩
instance : SzT Tryd.prog 131 1 := ⟨by kernel_rfl⟩
instance : SlT Tryd.prog 131 5 1 := ⟨by kernel_rfl⟩
instance : BytT Tryd.prog 131 := ⟨by kernel_rfl⟩
abbrev Tryd.n_internal_stringslite_HasPrefix : FuncId := 102
abbrev Tryd.n_internal_strconv_small : FuncId := 103
abbrev Tryd.n_internal_strconv_numDigits : FuncId := 104
instance : LdN Tryd.prog 135 20 := ⟨by kernel_rfl⟩
instance : SzT Tryd.prog 135 20 := ⟨by kernel_rfl⟩
instance : ArT Tryd.prog 135 20 123 1 := ⟨by kernel_rfl⟩
abbrev Tryd.n_internal_strconv_formatBase10 : FuncId := 105
instance : Ld1 Tryd.prog 136 := ⟨by kernel_rfl⟩
instance : SzT Tryd.prog 136 1 := ⟨by kernel_rfl⟩
instance : KdT Tryd.prog 136 .u32 := ⟨by kernel_rfl⟩
abbrev Tryd.n_internal_strconv_formatBits : FuncId := 106
instance : NIf Tryd.prog 9 := ⟨by kernel_rfl⟩
instance : LdN Tryd.prog 137 65 := ⟨by kernel_rfl⟩
instance : SzT Tryd.prog 137 65 := ⟨by kernel_rfl⟩
instance : ArT Tryd.prog 137 65 5 1 := ⟨by kernel_rfl⟩
instance : ZrT Tryd.prog 137 [(.int .u8 0), (.int .u8 0), (.int .u8 0), (.int .u8 0), (.int .u8 0), (.int .u8 0), (.int .u8 0), (.int .u8 0), (.int .u8 0), (.int .u8 0), (.int .u8 0), (.int .u8 0), (.int .u8 0), (.int .u8 0), (.int .u8 0), (.int .u8 0), (.int .u8 0), (.int .u8 0), (.int .u8 0), (.int .u8 0), (.int .u8 0), (.int .u8 0), (.int .u8 0), (.int .u8 0), (.int .u8 0), (.int .u8 0), (.int .u8 0), (.int .u8 0), (.int .u8 0), (.int .u8 0), (.int .u8 0), (.int .u8 0), (.int .u8 0), (.int .u8 0), (.int .u8 0), (.int .u8 0), (.int .u8 0), (.int .u8 0), (.int .u8 0), (.int .u8 0), (.int .u8 0), (.int .u8 0), (.int .u8 0), (.int .u8 0), (.int .u8 0), (.int .u8 0), (.int .u8 0), (.int .u8 0), (.int .u8 0), (.int .u8 0), (.int .u8 0), (.int .u8 0), (.int .u8 0), (.int .u8 0), (.int .u8 0), (.int .u8 0), (.int .u8 0), (.int .u8 0), (.int .u8 0), (.int .u8 0), (.int .u8 0), (.int .u8 0), (.int .u8 0), (.int .u8 0), (.int .u8 0)] := ⟨by kernel_rfl⟩
instance : Ld1 Tryd.prog 138 := ⟨by kernel_rfl⟩
instance : SzT Tryd.prog 138 1 := ⟨by kernel_rfl⟩
instance : KdT Tryd.prog 138 .u64 := ⟨by kernel_rfl⟩
instance : ApT Tryd.prog 131 5 1 1 := ⟨by kernel_rfl⟩
abbrev Tryd.n_internal_strconv_log10Pow2 : FuncId := 107
abbrev Tryd.n_math_bits_Len64 : FuncId := 108
abbrev Tryd.n_internal_strconv_bool2_int : FuncId := 109
abbrev Tryd.n_internal_strconv_isPowerOfTwo : FuncId := 110
abbrev Tryd.n_math_bits_TrailingZeros : FuncId := 111
abbrev Tryd.n_math_bits_TrailingZeros32 : FuncId := 112
instance : LdN Tryd.prog 141 32 := ⟨by kernel_rfl⟩
instance : SzT Tryd.prog 141 32 := ⟨by kernel_rfl⟩
instance : ArT Tryd.prog 141 32 5 1 := ⟨by kernel_rfl⟩
abbrev Tryd.n_math_bits_TrailingZeros64 : FuncId := 113
instance : LdN Tryd.prog 142 64 := ⟨by kernel_rfl⟩
instance : SzT Tryd.prog 142 64 := ⟨by kernel_rfl⟩
instance : ArT Tryd.prog 142 64 5 1 := ⟨by kernel_rfl⟩
theorem Tryd.fa_Type_4 {K : Value → Prop} {b off : Nat} (k : K (.pointer (some ⟨b, off + 4, none⟩))) : opP Tryd.prog (Instr.fieldAt 25 (.pointer (some ⟨b, off, none⟩)) 4) K :=
  p_field (by kernel_rfl) k
theorem Tryd.ld_S_Type {w : World} {K : Value → Prop} {a : Addr} {v : Value} (h : w.cell? a = some v) (k : K v) : opQ Tryd.prog w (Instr.loadAt 23 (.pointer (some a))) K :=
  q_load (by kernel_rfl) h k
theorem Tryd.ldB_S_Type {w : World} {K : Value → Prop} {b i : Nat} {c : List Value} {v : Value} {T : TypeId} (B : Blk w b c T) (h : c[i]? = some v) (k : K v) : opQ Tryd.prog w (Instr.loadAt 23 (.pointer (some ⟨b, i, none⟩))) K :=
  q_load (by kernel_rfl) ((B.cell i).trans h) k
theorem Tryd.len_S_Type {K : Value → Prop} {p : Option Addr} {len cap : Nat} (k : K (.int .i64 len)) : opP Tryd.prog (Builtin.len_ #[23] 3 #[.slice p len cap]) K :=
  p_lenS (e := 25) (n := 5) (by kernel_rfl) k
theorem Tryd.ix_S_Type {K : Value → Prop} {b off len cap : Nat} {kd : IntKind} {i : Int} (h0 : 0 ≤ i) (h1 : i < len) (k : K (.pointer (some ⟨b, off + i.toNat * 5, none⟩))) : opP Tryd.prog (Instr.indexAt 23 (.slice (some ⟨b, off, none⟩) len cap) (.int kd i)) K :=
  p_index (e := 25) (n := 5) (by kernel_rfl) h0 h1 k
theorem Tryd.ldB_Type {w : World} {K : Value → Prop} {b : Nat} {c : List Value} {T : TypeId} (B : Blk w b c T) (hc : c.length = 5) (k : K (.agg c.toArray)) : opQ Tryd.prog w (Instr.loadAt 25 (.pointer (some ⟨b, 0, none⟩))) K :=
  q_loadB (by rw [hc]; kernel_rfl) B k
theorem Tryd.ldN_Type {w : World} {K : Value → Prop} {b off : Nat} {vs : List Value} (hc : vs.length = 5) (h : ∀ j v, vs[j]? = some v → w.cell? ⟨b, off + j, none⟩ = some v) (k : K (.agg vs.toArray)) : opQ Tryd.prog w (Instr.loadAt 25 (.pointer (some ⟨b, off, none⟩))) K :=
  q_loadN (by rw [hc]; kernel_rfl) h k
theorem Tryd.fa_Type_1 {K : Value → Prop} {b off : Nat} (k : K (.pointer (some ⟨b, off + 1, none⟩))) : opP Tryd.prog (Instr.fieldAt 25 (.pointer (some ⟨b, off, none⟩)) 1) K :=
  p_field (by kernel_rfl) k
theorem Tryd.ld_bool {w : World} {K : Value → Prop} {a : Addr} {v : Value} (h : w.cell? a = some v) (k : K v) : opQ Tryd.prog w (Instr.loadAt 4 (.pointer (some a))) K :=
  q_load (by kernel_rfl) h k
theorem Tryd.ldB_bool {w : World} {K : Value → Prop} {b i : Nat} {c : List Value} {v : Value} {T : TypeId} (B : Blk w b c T) (h : c[i]? = some v) (k : K v) : opQ Tryd.prog w (Instr.loadAt 4 (.pointer (some ⟨b, i, none⟩))) K :=
  q_load (by kernel_rfl) ((B.cell i).trans h) k
theorem Tryd.fa_Type_2 {K : Value → Prop} {b off : Nat} (k : K (.pointer (some ⟨b, off + 2, none⟩))) : opP Tryd.prog (Instr.fieldAt 25 (.pointer (some ⟨b, off, none⟩)) 2) K :=
  p_field (by kernel_rfl) k
theorem Tryd.ld_int {w : World} {K : Value → Prop} {a : Addr} {v : Value} (h : w.cell? a = some v) (k : K v) : opQ Tryd.prog w (Instr.loadAt 3 (.pointer (some a))) K :=
  q_load (by kernel_rfl) h k
theorem Tryd.ldB_int {w : World} {K : Value → Prop} {b i : Nat} {c : List Value} {v : Value} {T : TypeId} (B : Blk w b c T) (h : c[i]? = some v) (k : K v) : opQ Tryd.prog w (Instr.loadAt 3 (.pointer (some ⟨b, i, none⟩))) K :=
  q_load (by kernel_rfl) ((B.cell i).trans h) k
theorem Tryd.fa_Type_0 {K : Value → Prop} {b off : Nat} (k : K (.pointer (some ⟨b, off + 0, none⟩))) : opP Tryd.prog (Instr.fieldAt 25 (.pointer (some ⟨b, off, none⟩)) 0) K :=
  p_field (by kernel_rfl) k
theorem Tryd.ld_TypeKind {w : World} {K : Value → Prop} {a : Addr} {v : Value} (h : w.cell? a = some v) (k : K v) : opQ Tryd.prog w (Instr.loadAt 22 (.pointer (some a))) K :=
  q_load (by kernel_rfl) h k
theorem Tryd.ldB_TypeKind {w : World} {K : Value → Prop} {b i : Nat} {c : List Value} {v : Value} {T : TypeId} (B : Blk w b c T) (h : c[i]? = some v) (k : K v) : opQ Tryd.prog w (Instr.loadAt 22 (.pointer (some ⟨b, i, none⟩))) K :=
  q_load (by kernel_rfl) ((B.cell i).trans h) k
theorem Tryd.fa_Type_3 {K : Value → Prop} {b off : Nat} (k : K (.pointer (some ⟨b, off + 3, none⟩))) : opP Tryd.prog (Instr.fieldAt 25 (.pointer (some ⟨b, off, none⟩)) 3) K :=
  p_field (by kernel_rfl) k
theorem Tryd.ix_S_Struct {K : Value → Prop} {b off len cap : Nat} {kd : IntKind} {i : Int} (h0 : 0 ≤ i) (h1 : i < len) (k : K (.pointer (some ⟨b, off + i.toNat * 2, none⟩))) : opP Tryd.prog (Instr.indexAt 50 (.slice (some ⟨b, off, none⟩) len cap) (.int kd i)) K :=
  p_index (e := 99) (n := 2) (by kernel_rfl) h0 h1 k
theorem Tryd.fa_Struct_1 {K : Value → Prop} {b off : Nat} (k : K (.pointer (some ⟨b, off + 1, none⟩))) : opP Tryd.prog (Instr.fieldAt 99 (.pointer (some ⟨b, off, none⟩)) 1) K :=
  p_field (by kernel_rfl) k
theorem Tryd.ld_S_Field {w : World} {K : Value → Prop} {a : Addr} {v : Value} (h : w.cell? a = some v) (k : K v) : opQ Tryd.prog w (Instr.loadAt 97 (.pointer (some a))) K :=
  q_load (by kernel_rfl) h k
theorem Tryd.ldB_S_Field {w : World} {K : Value → Prop} {b i : Nat} {c : List Value} {v : Value} {T : TypeId} (B : Blk w b c T) (h : c[i]? = some v) (k : K v) : opQ Tryd.prog w (Instr.loadAt 97 (.pointer (some ⟨b, i, none⟩))) K :=
  q_load (by kernel_rfl) ((B.cell i).trans h) k
theorem Tryd.len_S_Field {K : Value → Prop} {p : Option Addr} {len cap : Nat} (k : K (.int .i64 len)) : opP Tryd.prog (Builtin.len_ #[97] 3 #[.slice p len cap]) K :=
  p_lenS (e := 101) (n := 6) (by kernel_rfl) k
theorem Tryd.ix_S_Field {K : Value → Prop} {b off len cap : Nat} {kd : IntKind} {i : Int} (h0 : 0 ≤ i) (h1 : i < len) (k : K (.pointer (some ⟨b, off + i.toNat * 6, none⟩))) : opP Tryd.prog (Instr.indexAt 97 (.slice (some ⟨b, off, none⟩) len cap) (.int kd i)) K :=
  p_index (e := 101) (n := 6) (by kernel_rfl) h0 h1 k
theorem Tryd.ldB_Field {w : World} {K : Value → Prop} {b : Nat} {c : List Value} {T : TypeId} (B : Blk w b c T) (hc : c.length = 6) (k : K (.agg c.toArray)) : opQ Tryd.prog w (Instr.loadAt 101 (.pointer (some ⟨b, 0, none⟩))) K :=
  q_loadB (by rw [hc]; kernel_rfl) B k
theorem Tryd.ldN_Field {w : World} {K : Value → Prop} {b off : Nat} {vs : List Value} (hc : vs.length = 6) (h : ∀ j v, vs[j]? = some v → w.cell? ⟨b, off + j, none⟩ = some v) (k : K (.agg vs.toArray)) : opQ Tryd.prog w (Instr.loadAt 101 (.pointer (some ⟨b, off, none⟩))) K :=
  q_loadN (by rw [hc]; kernel_rfl) h k
theorem Tryd.al_Field {w : World} {K : Value → World → Prop} (h : ∀ b w', b = w.heap.size → Ext w w' → w'.heap.size = w.heap.size + 1 → Blk w' b [(.string ByteArray.empty), (.int .u8 0), (.bool false), (.int .i64 0), (.int .i64 0), (.slice none 0 0)] 101 → K (.pointer (some ⟨b, 0, none⟩)) w') : opW Tryd.prog w (Instr.alloc 101 true (.tuple #[])) K :=
  w_alloc (by kernel_rfl) h
theorem Tryd.stB_Field {w : World} {K : World → Prop} {cs : Array Value} {b : Nat} {c : List Value} {T : TypeId} (B : Blk w b c T) (hl : c.length = 6) (hc : cs.size = 6) (h1 : ∀ u ∈ cs.toList, u.oneCell' = true) (h : ∀ w', ExtBut (· = b) w w' → w'.heap.size = w.heap.size → Blk w' b cs.toList T → K w') : opU Tryd.prog w (Instr.storeAt 101 (.pointer (some ⟨b, 0, none⟩)) (.agg cs)) K :=
  w_storeB (v := .agg cs) (by rw [show (Value.agg cs).cells.size = 6 from hc]; kernel_rfl) B (by rw [hl]; exact hc) h1 h
theorem Tryd.st_Field {w : World} {K : World → Prop} {cs : Array Value} {b off : Nat} {c : List Value} {T : TypeId} (B : Blk w b c T) (hl : off + 6 ≤ c.length) (hc : cs.size = 6) (h1 : ∀ u ∈ cs.toList, u.oneCell' = true) (h : ∀ w', ExtBut (· = b) w w' → w'.heap.size = w.heap.size → Blk w' b (c.take off ++ cs.toList ++ c.drop (off + 6)) T → K w') : opU Tryd.prog w (Instr.storeAt 101 (.pointer (some ⟨b, off, none⟩)) (.agg cs)) K :=
  w_store (v := .agg cs) (by rw [show (Value.agg cs).cells.size = 6 from hc]; kernel_rfl) B (by rw [show (Value.agg cs).cells.size = 6 from hc]; exact hl) h1 (by rw [show (Value.agg cs).cells.size = 6 from hc]; exact h)
theorem Tryd.fa_Field_1 {K : Value → Prop} {b off : Nat} (k : K (.pointer (some ⟨b, off + 1, none⟩))) : opP Tryd.prog (Instr.fieldAt 101 (.pointer (some ⟨b, off, none⟩)) 1) K :=
  p_field (by kernel_rfl) k
theorem Tryd.al_32_bool {w : World} {K : Value → World → Prop} (h : ∀ b w', b = w.heap.size → Ext w w' → w'.heap.size = w.heap.size + 1 → Blk w' b [(.bool false), (.bool false), (.bool false), (.bool false), (.bool false), (.bool false), (.bool false), (.bool false), (.bool false), (.bool false), (.bool false), (.bool false), (.bool false), (.bool false), (.bool false), (.bool false), (.bool false), (.bool false), (.bool false), (.bool false), (.bool false), (.bool false), (.bool false), (.bool false), (.bool false), (.bool false), (.bool false), (.bool false), (.bool false), (.bool false), (.bool false), (.bool false)] 125 → K (.pointer (some ⟨b, 0, none⟩)) w') : opW Tryd.prog w (Instr.alloc 125 true (.tuple #[])) K :=
  w_alloc (by kernel_rfl) h
theorem Tryd.len_S_int {K : Value → Prop} {p : Option Addr} {len cap : Nat} (k : K (.int .i64 len)) : opP Tryd.prog (Builtin.len_ #[68] 3 #[.slice p len cap]) K :=
  p_lenS (e := 3) (n := 1) (by kernel_rfl) k
theorem Tryd.ix_S_int {K : Value → Prop} {b off len cap : Nat} {kd : IntKind} {i : Int} (h0 : 0 ≤ i) (h1 : i < len) (k : K (.pointer (some ⟨b, off + i.toNat, none⟩))) : opP Tryd.prog (Instr.indexAt 68 (.slice (some ⟨b, off, none⟩) len cap) (.int kd i)) K :=
  p_index (e := 3) (n := 1) (by kernel_rfl) h0 h1 (by rw [Nat.mul_one]; exact k)
theorem Tryd.slHi_S_int {K : Value → Prop} {p : Option Addr} {len cap : Nat} {kd : IntKind} {i : Int} (h0 : 0 ≤ i) (h1 : i ≤ cap) (k : K (.slice p i.toNat cap)) : opP Tryd.prog (Instr.sliceAt 68 (.slice p len cap) none (some (.int kd i)) none) K :=
  p_sliceHi (e := 3) (n := 1) (by kernel_rfl) h0 h1 k
theorem Tryd.slLo_S_int {K : Value → Prop} {p : Option Addr} {len cap : Nat} {kd : IntKind} {i : Int} (h0 : 0 ≤ i) (h1 : i ≤ len) (k : K (.slice (if cap = i.toNat then p else p.map (·.add (i.toNat * 1))) (len - i.toNat) (cap - i.toNat))) : opP Tryd.prog (Instr.sliceAt 68 (.slice p len cap) (some (.int kd i)) none none) K :=
  p_sliceLo (e := 3) (n := 1) (by kernel_rfl) h0 h1 k
theorem Tryd.st_bool {w : World} {K : World → Prop} {v : Value} {b off : Nat} {c : List Value} {T : TypeId} (B : Blk w b c T) (hl : off < c.length) (h1 : v.oneCell' = true) (h : ∀ w', ExtBut (· = b) w w' → w'.heap.size = w.heap.size → Blk w' b (c.set off v) T → K w') : opU Tryd.prog w (Instr.storeAt 4 (.pointer (some ⟨b, off, none⟩)) v) K :=
  w_store1 (by kernel_rfl) B hl h1 h
theorem Tryd.ap_S_int {w : World} {K : Value → World → Prop} {base : Nat} {v : Value} {n : Nat} {xs : List Value} {p : Option Addr} {m c : Nat} {news : List Value} (hown : w.ownsRow base 3 1 v n xs) (hs : Sl w p news) (hl : news.length = m * 1) (hp : p = none → c = 0) (h1 : ∀ u ∈ news, u.oneCell' = true) (hb : (n + m) * 8 ≤ 140737488355328) (hbase : base ≤ w.heap.size) (h : ∀ v' w', w'.ownsRow base 3 1 v' (n + m) (xs ++ news) → ExtBut (fun k => v.ownBlock = some k) w w' → (v'.ownBlock = v.ownBlock ∨ v'.ownBlock = some w.heap.size) → (v' = .slice none 0 0 ↔ v = .slice none 0 0 ∧ m = 0) → K v' w') : opW Tryd.prog w (Builtin.append_ #[68, 68] 68 #[v, .slice p m c]) K :=
  w_append (by kernel_rfl) hown hs hl hp h1 hb hbase h
theorem Tryd.ld_S_Struct {w : World} {K : Value → Prop} {a : Addr} {v : Value} (h : w.cell? a = some v) (k : K v) : opQ Tryd.prog w (Instr.loadAt 50 (.pointer (some a))) K :=
  q_load (by kernel_rfl) h k
theorem Tryd.ldB_S_Struct {w : World} {K : Value → Prop} {b i : Nat} {c : List Value} {v : Value} {T : TypeId} (B : Blk w b c T) (h : c[i]? = some v) (k : K v) : opQ Tryd.prog w (Instr.loadAt 50 (.pointer (some ⟨b, i, none⟩))) K :=
  q_load (by kernel_rfl) ((B.cell i).trans h) k
theorem Tryd.len_S_Struct {K : Value → Prop} {p : Option Addr} {len cap : Nat} (k : K (.int .i64 len)) : opP Tryd.prog (Builtin.len_ #[50] 3 #[.slice p len cap]) K :=
  p_lenS (e := 99) (n := 2) (by kernel_rfl) k
theorem Tryd.al_int {w : World} {K : Value → World → Prop} (h : ∀ b w', b = w.heap.size → Ext w w' → w'.heap.size = w.heap.size + 1 → Blk w' b [(.int .i64 0)] 3 → K (.pointer (some ⟨b, 0, none⟩)) w') : opW Tryd.prog w (Instr.alloc 3 true (.tuple #[])) K :=
  w_alloc (by kernel_rfl) h
theorem Tryd.st_int {w : World} {K : World → Prop} {v : Value} {b off : Nat} {c : List Value} {T : TypeId} (B : Blk w b c T) (hl : off < c.length) (h1 : v.oneCell' = true) (h : ∀ w', ExtBut (· = b) w w' → w'.heap.size = w.heap.size → Blk w' b (c.set off v) T → K w') : opU Tryd.prog w (Instr.storeAt 3 (.pointer (some ⟨b, off, none⟩)) v) K :=
  w_store1 (by kernel_rfl) B hl h1 h
theorem Tryd.len_S_func_int_bool {K : Value → Prop} {p : Option Addr} {len cap : Nat} (k : K (.int .i64 len)) : opP Tryd.prog (Builtin.len_ #[107] 3 #[.slice p len cap]) K :=
  p_lenS (e := 82) (n := 1) (by kernel_rfl) k
theorem Tryd.ix_S_func_int_bool {K : Value → Prop} {b off len cap : Nat} {kd : IntKind} {i : Int} (h0 : 0 ≤ i) (h1 : i < len) (k : K (.pointer (some ⟨b, off + i.toNat, none⟩))) : opP Tryd.prog (Instr.indexAt 107 (.slice (some ⟨b, off, none⟩) len cap) (.int kd i)) K :=
  p_index (e := 82) (n := 1) (by kernel_rfl) h0 h1 (by rw [Nat.mul_one]; exact k)
theorem Tryd.ld_func_int_bool {w : World} {K : Value → Prop} {a : Addr} {v : Value} (h : w.cell? a = some v) (k : K v) : opQ Tryd.prog w (Instr.loadAt 82 (.pointer (some a))) K :=
  q_load (by kernel_rfl) h k
theorem Tryd.ldB_func_int_bool {w : World} {K : Value → Prop} {b i : Nat} {c : List Value} {v : Value} {T : TypeId} (B : Blk w b c T) (h : c[i]? = some v) (k : K v) : opQ Tryd.prog w (Instr.loadAt 82 (.pointer (some ⟨b, i, none⟩))) K :=
  q_load (by kernel_rfl) ((B.cell i).trans h) k
theorem Tryd.ce_Type {w : World} {K : Value → Prop} {b : Nat} {c : List Value} {T : TypeId} (B : Blk w b c T) (hc : c.length = 5) (k : K (.agg c.toArray)) : opQ Tryd.prog w (cellSem 25 (.pointer (some ⟨b, 0, none⟩))) K :=
  q_cellB (by rw [hc]; kernel_rfl) B k
theorem Tryd.al_Type {w : World} {K : Value → World → Prop} (h : ∀ b w', b = w.heap.size → Ext w w' → w'.heap.size = w.heap.size + 1 → Blk w' b [(.int .u8 0), (.bool false), (.int .i64 0), (.int .i64 0), (.slice none 0 0)] 25 → K (.pointer (some ⟨b, 0, none⟩)) w') : opW Tryd.prog w (Instr.alloc 25 true (.tuple #[])) K :=
  w_alloc (by kernel_rfl) h
theorem Tryd.st_S_Type {w : World} {K : World → Prop} {v : Value} {b off : Nat} {c : List Value} {T : TypeId} (B : Blk w b c T) (hl : off < c.length) (h1 : v.oneCell' = true) (h : ∀ w', ExtBut (· = b) w w' → w'.heap.size = w.heap.size → Blk w' b (c.set off v) T → K w') : opU Tryd.prog w (Instr.storeAt 23 (.pointer (some ⟨b, off, none⟩)) v) K :=
  w_store1 (by kernel_rfl) B hl h1 h
theorem Tryd.stB_Type {w : World} {K : World → Prop} {cs : Array Value} {b : Nat} {c : List Value} {T : TypeId} (B : Blk w b c T) (hl : c.length = 5) (hc : cs.size = 5) (h1 : ∀ u ∈ cs.toList, u.oneCell' = true) (h : ∀ w', ExtBut (· = b) w w' → w'.heap.size = w.heap.size → Blk w' b cs.toList T → K w') : opU Tryd.prog w (Instr.storeAt 25 (.pointer (some ⟨b, 0, none⟩)) (.agg cs)) K :=
  w_storeB (v := .agg cs) (by rw [show (Value.agg cs).cells.size = 5 from hc]; kernel_rfl) B (by rw [hl]; exact hc) h1 h
theorem Tryd.st_Type {w : World} {K : World → Prop} {cs : Array Value} {b off : Nat} {c : List Value} {T : TypeId} (B : Blk w b c T) (hl : off + 5 ≤ c.length) (hc : cs.size = 5) (h1 : ∀ u ∈ cs.toList, u.oneCell' = true) (h : ∀ w', ExtBut (· = b) w w' → w'.heap.size = w.heap.size → Blk w' b (c.take off ++ cs.toList ++ c.drop (off + 5)) T → K w') : opU Tryd.prog w (Instr.storeAt 25 (.pointer (some ⟨b, off, none⟩)) (.agg cs)) K :=
  w_store (v := .agg cs) (by rw [show (Value.agg cs).cells.size = 5 from hc]; kernel_rfl) B (by rw [show (Value.agg cs).cells.size = 5 from hc]; exact hl) h1 (by rw [show (Value.agg cs).cells.size = 5 from hc]; exact h)
theorem Tryd.al_S_int {w : World} {K : Value → World → Prop} (h : ∀ b w', b = w.heap.size → Ext w w' → w'.heap.size = w.heap.size + 1 → Blk w' b [(.slice none 0 0)] 68 → K (.pointer (some ⟨b, 0, none⟩)) w') : opW Tryd.prog w (Instr.alloc 68 true (.tuple #[])) K :=
  w_alloc (by kernel_rfl) h
theorem Tryd.ld_S_int {w : World} {K : Value → Prop} {a : Addr} {v : Value} (h : w.cell? a = some v) (k : K v) : opQ Tryd.prog w (Instr.loadAt 68 (.pointer (some a))) K :=
  q_load (by kernel_rfl) h k
theorem Tryd.ldB_S_int {w : World} {K : Value → Prop} {b i : Nat} {c : List Value} {v : Value} {T : TypeId} (B : Blk w b c T) (h : c[i]? = some v) (k : K v) : opQ Tryd.prog w (Instr.loadAt 68 (.pointer (some ⟨b, i, none⟩))) K :=
  q_load (by kernel_rfl) ((B.cell i).trans h) k
theorem Tryd.st_S_int {w : World} {K : World → Prop} {v : Value} {b off : Nat} {c : List Value} {T : TypeId} (B : Blk w b c T) (hl : off < c.length) (h1 : v.oneCell' = true) (h : ∀ w', ExtBut (· = b) w w' → w'.heap.size = w.heap.size → Blk w' b (c.set off v) T → K w') : opU Tryd.prog w (Instr.storeAt 68 (.pointer (some ⟨b, off, none⟩)) v) K :=
  w_store1 (by kernel_rfl) B hl h1 h
theorem Tryd.al_S_Constraint {w : World} {K : Value → World → Prop} (h : ∀ b w', b = w.heap.size → Ext w w' → w'.heap.size = w.heap.size + 1 → Blk w' b [(.slice none 0 0)] 28 → K (.pointer (some ⟨b, 0, none⟩)) w') : opW Tryd.prog w (Instr.alloc 28 true (.tuple #[])) K :=
  w_alloc (by kernel_rfl) h
theorem Tryd.ld_S_Constraint {w : World} {K : Value → Prop} {a : Addr} {v : Value} (h : w.cell? a = some v) (k : K v) : opQ Tryd.prog w (Instr.loadAt 28 (.pointer (some a))) K :=
  q_load (by kernel_rfl) h k
theorem Tryd.ldB_S_Constraint {w : World} {K : Value → Prop} {b i : Nat} {c : List Value} {v : Value} {T : TypeId} (B : Blk w b c T) (h : c[i]? = some v) (k : K v) : opQ Tryd.prog w (Instr.loadAt 28 (.pointer (some ⟨b, i, none⟩))) K :=
  q_load (by kernel_rfl) ((B.cell i).trans h) k
theorem Tryd.ap_S_Constraint {w : World} {K : Value → World → Prop} {base : Nat} {v : Value} {n : Nat} {xs : List Value} {p : Option Addr} {m c : Nat} {news : List Value} (hown : w.ownsRow base 35 2 v n xs) (hs : Sl w p news) (hl : news.length = m * 2) (hp : p = none → c = 0) (h1 : ∀ u ∈ news, u.oneCell' = true) (hb : (n + m) * 16 ≤ 140737488355328) (hbase : base ≤ w.heap.size) (h : ∀ v' w', w'.ownsRow base 35 2 v' (n + m) (xs ++ news) → ExtBut (fun k => v.ownBlock = some k) w w' → (v'.ownBlock = v.ownBlock ∨ v'.ownBlock = some w.heap.size) → (v' = .slice none 0 0 ↔ v = .slice none 0 0 ∧ m = 0) → K v' w') : opW Tryd.prog w (Builtin.append_ #[28, 28] 28 #[v, .slice p m c]) K :=
  w_append (by kernel_rfl) hown hs hl hp h1 hb hbase h
theorem Tryd.st_S_Constraint {w : World} {K : World → Prop} {v : Value} {b off : Nat} {c : List Value} {T : TypeId} (B : Blk w b c T) (hl : off < c.length) (h1 : v.oneCell' = true) (h : ∀ w', ExtBut (· = b) w w' → w'.heap.size = w.heap.size → Blk w' b (c.set off v) T → K w') : opU Tryd.prog w (Instr.storeAt 28 (.pointer (some ⟨b, off, none⟩)) v) K :=
  w_store1 (by kernel_rfl) B hl h1 h
theorem Tryd.ap_S_Type {w : World} {K : Value → World → Prop} {base : Nat} {v : Value} {n : Nat} {xs : List Value} {p : Option Addr} {m c : Nat} {news : List Value} (hown : w.ownsRow base 25 5 v n xs) (hs : Sl w p news) (hl : news.length = m * 5) (hp : p = none → c = 0) (h1 : ∀ u ∈ news, u.oneCell' = true) (hb : (n + m) * 48 ≤ 140737488355328) (hbase : base ≤ w.heap.size) (h : ∀ v' w', w'.ownsRow base 25 5 v' (n + m) (xs ++ news) → ExtBut (fun k => v.ownBlock = some k) w w' → (v'.ownBlock = v.ownBlock ∨ v'.ownBlock = some w.heap.size) → (v' = .slice none 0 0 ↔ v = .slice none 0 0 ∧ m = 0) → K v' w') : opW Tryd.prog w (Builtin.append_ #[23, 23] 23 #[v, .slice p m c]) K :=
  w_append (by kernel_rfl) hown hs hl hp h1 hb hbase h
theorem Tryd.by_string {K : Value → Prop} {s : ByteArray} {kd : IntKind} {i : Int} (h0 : 0 ≤ i) (h1 : i.toNat < s.size) (k : K (.int .u8 (s[i.toNat].toNat : Int))) : opP Tryd.prog (Instr.index 9 (.string s) (.int kd i)) K :=
  p_byte (by kernel_rfl) h0 h1 k
theorem Tryd.fa_types_reader_0 {K : Value → Prop} {b off : Nat} (k : K (.pointer (some ⟨b, off + 0, none⟩))) : opP Tryd.prog (Instr.fieldAt 88 (.pointer (some ⟨b, off, none⟩)) 0) K :=
  p_field (by kernel_rfl) k
theorem Tryd.ld_string {w : World} {K : Value → Prop} {a : Addr} {v : Value} (h : w.cell? a = some v) (k : K v) : opQ Tryd.prog w (Instr.loadAt 9 (.pointer (some a))) K :=
  q_load (by kernel_rfl) h k
theorem Tryd.ldB_string {w : World} {K : Value → Prop} {b i : Nat} {c : List Value} {v : Value} {T : TypeId} (B : Blk w b c T) (h : c[i]? = some v) (k : K v) : opQ Tryd.prog w (Instr.loadAt 9 (.pointer (some ⟨b, i, none⟩))) K :=
  q_load (by kernel_rfl) ((B.cell i).trans h) k
theorem Tryd.fa_types_reader_1 {K : Value → Prop} {b off : Nat} (k : K (.pointer (some ⟨b, off + 1, none⟩))) : opP Tryd.prog (Instr.fieldAt 88 (.pointer (some ⟨b, off, none⟩)) 1) K :=
  p_field (by kernel_rfl) k
theorem Tryd.slHi_string {K : Value → Prop} {s : ByteArray} {kd : IntKind} {i : Int} (h0 : 0 ≤ i) (h1 : i ≤ s.size) (k : K (.string (s.extract 0 i.toNat))) : opP Tryd.prog (Instr.sliceAt 9 (.string s) none (some (.int kd i)) none) K :=
  p_strHi (by kernel_rfl) h0 h1 k
theorem Tryd.slLo_string {K : Value → Prop} {s : ByteArray} {kd : IntKind} {i : Int} (h0 : 0 ≤ i) (h1 : i ≤ s.size) (k : K (.string (s.extract i.toNat s.size))) : opP Tryd.prog (Instr.sliceAt 9 (.string s) (some (.int kd i)) none none) K :=
  p_strLo (by kernel_rfl) h0 h1 k
theorem Tryd.len_string {K : Value → Prop} {s : ByteArray} (k : K (.int .i64 s.size)) : opP Tryd.prog (Builtin.len_ #[9] 3 #[.string s]) K :=
  p_lenStr (by kernel_rfl) k
theorem Tryd.ce_int {w : World} {K : Value → Prop} {b : Nat} {v : Value} {T : TypeId} (B : Blk w b [v] T) (k : K v) : opQ Tryd.prog w (cellSem 3 (.pointer (some ⟨b, 0, none⟩))) K :=
  q_cell1 (by kernel_rfl) (by rw [B.cell]; rfl) k
theorem Tryd.ce_Errno {w : World} {K : Value → Prop} {b : Nat} {v : Value} {T : TypeId} (B : Blk w b [v] T) (k : K v) : opQ Tryd.prog w (cellSem 29 (.pointer (some ⟨b, 0, none⟩))) K :=
  q_cell1 (by kernel_rfl) (by rw [B.cell]; rfl) k
theorem Tryd.al_Errno {w : World} {K : Value → World → Prop} (h : ∀ b w', b = w.heap.size → Ext w w' → w'.heap.size = w.heap.size + 1 → Blk w' b [(.int .i64 0)] 29 → K (.pointer (some ⟨b, 0, none⟩)) w') : opW Tryd.prog w (Instr.alloc 29 true (.tuple #[])) K :=
  w_alloc (by kernel_rfl) h
theorem Tryd.al_P_types_reader {w : World} {K : Value → World → Prop} (h : ∀ b w', b = w.heap.size → Ext w w' → w'.heap.size = w.heap.size + 1 → Blk w' b [(.pointer none)] 86 → K (.pointer (some ⟨b, 0, none⟩)) w') : opW Tryd.prog w (Instr.alloc 86 true (.tuple #[])) K :=
  w_alloc (by kernel_rfl) h
theorem Tryd.st_P_types_reader {w : World} {K : World → Prop} {v : Value} {b off : Nat} {c : List Value} {T : TypeId} (B : Blk w b c T) (hl : off < c.length) (h1 : v.oneCell' = true) (h : ∀ w', ExtBut (· = b) w w' → w'.heap.size = w.heap.size → Blk w' b (c.set off v) T → K w') : opU Tryd.prog w (Instr.storeAt 86 (.pointer (some ⟨b, off, none⟩)) v) K :=
  w_store1 (by kernel_rfl) B hl h1 h
theorem Tryd.ld_P_types_reader {w : World} {K : Value → Prop} {a : Addr} {v : Value} (h : w.cell? a = some v) (k : K v) : opQ Tryd.prog w (Instr.loadAt 86 (.pointer (some a))) K :=
  q_load (by kernel_rfl) h k
theorem Tryd.ldB_P_types_reader {w : World} {K : Value → Prop} {b i : Nat} {c : List Value} {v : Value} {T : TypeId} (B : Blk w b c T) (h : c[i]? = some v) (k : K v) : opQ Tryd.prog w (Instr.loadAt 86 (.pointer (some ⟨b, i, none⟩))) K :=
  q_load (by kernel_rfl) ((B.cell i).trans h) k
theorem Tryd.st_Errno {w : World} {K : World → Prop} {v : Value} {b off : Nat} {c : List Value} {T : TypeId} (B : Blk w b c T) (hl : off < c.length) (h1 : v.oneCell' = true) (h : ∀ w', ExtBut (· = b) w w' → w'.heap.size = w.heap.size → Blk w' b (c.set off v) T → K w') : opU Tryd.prog w (Instr.storeAt 29 (.pointer (some ⟨b, off, none⟩)) v) K :=
  w_store1 (by kernel_rfl) B hl h1 h
theorem Tryd.al_types_stuck {w : World} {K : Value → World → Prop} (h : ∀ b w', b = w.heap.size → Ext w w' → w'.heap.size = w.heap.size + 1 → Blk w' b [] 90 → K (.pointer (some ⟨b, 0, none⟩)) w') : opW Tryd.prog w (Instr.alloc 90 true (.tuple #[])) K :=
  w_alloc (by kernel_rfl) h
theorem Tryd.stB_types_stuck {w : World} {K : World → Prop} {cs : Array Value} {b : Nat} {c : List Value} {T : TypeId} (B : Blk w b c T) (hl : c.length = 0) (hc : cs.size = 0) (h1 : ∀ u ∈ cs.toList, u.oneCell' = true) (h : ∀ w', ExtBut (· = b) w w' → w'.heap.size = w.heap.size → Blk w' b cs.toList T → K w') : opU Tryd.prog w (Instr.storeAt 90 (.pointer (some ⟨b, 0, none⟩)) (.agg cs)) K :=
  w_storeB (v := .agg cs) (by rw [show (Value.agg cs).cells.size = 0 from hc]; kernel_rfl) B (by rw [hl]; exact hc) h1 h
theorem Tryd.st_types_stuck {w : World} {K : World → Prop} {cs : Array Value} {b off : Nat} {c : List Value} {T : TypeId} (B : Blk w b c T) (hl : off + 0 ≤ c.length) (hc : cs.size = 0) (h1 : ∀ u ∈ cs.toList, u.oneCell' = true) (h : ∀ w', ExtBut (· = b) w w' → w'.heap.size = w.heap.size → Blk w' b (c.take off ++ cs.toList ++ c.drop (off + 0)) T → K w') : opU Tryd.prog w (Instr.storeAt 90 (.pointer (some ⟨b, off, none⟩)) (.agg cs)) K :=
  w_store (v := .agg cs) (by rw [show (Value.agg cs).cells.size = 0 from hc]; kernel_rfl) B (by rw [show (Value.agg cs).cells.size = 0 from hc]; exact hl) h1 (by rw [show (Value.agg cs).cells.size = 0 from hc]; exact h)
theorem Tryd.mk_S_bool {w : World} {K : Value → World → Prop} {kl : IntKind} {n : Int} (h0 : 0 ≤ n) (hb : (1 : Int) * n ≤ 281474976710656) (h : ∀ b w', b = w.heap.size → Ext w w' → w'.heap.size = w.heap.size + 1 → Blk w' b (List.replicate n.toNat (.bool false)) 4 → K (.slice (some ⟨b, 0, none⟩) n.toNat n.toNat) w') : opW Tryd.prog w (Instr.makeSlice 126 (.int kl n) (.int kl n)) K :=
  w_make (bytes := 1) (by kernel_rfl) (by kernel_rfl) h0 hb h
theorem Tryd.ix_S_bool {K : Value → Prop} {b off len cap : Nat} {kd : IntKind} {i : Int} (h0 : 0 ≤ i) (h1 : i < len) (k : K (.pointer (some ⟨b, off + i.toNat, none⟩))) : opP Tryd.prog (Instr.indexAt 126 (.slice (some ⟨b, off, none⟩) len cap) (.int kd i)) K :=
  p_index (e := 4) (n := 1) (by kernel_rfl) h0 h1 (by rw [Nat.mul_one]; exact k)
theorem Tryd.fa_loanwordref06_reader_2 {K : Value → Prop} {b off : Nat} (k : K (.pointer (some ⟨b, off + 2, none⟩))) : opP Tryd.prog (Instr.fieldAt 94 (.pointer (some ⟨b, off, none⟩)) 2) K :=
  p_field (by kernel_rfl) k
theorem Tryd.fa_loanwordref06_reader_1 {K : Value → Prop} {b off : Nat} (k : K (.pointer (some ⟨b, off + 1, none⟩))) : opP Tryd.prog (Instr.fieldAt 94 (.pointer (some ⟨b, off, none⟩)) 1) K :=
  p_field (by kernel_rfl) k
theorem Tryd.fa_loanwordref06_reader_0 {K : Value → Prop} {b off : Nat} (k : K (.pointer (some ⟨b, off + 0, none⟩))) : opP Tryd.prog (Instr.fieldAt 94 (.pointer (some ⟨b, off, none⟩)) 0) K :=
  p_field (by kernel_rfl) k
theorem Tryd.len_S_Constraint {K : Value → Prop} {p : Option Addr} {len cap : Nat} (k : K (.int .i64 len)) : opP Tryd.prog (Builtin.len_ #[28] 3 #[.slice p len cap]) K :=
  p_lenS (e := 35) (n := 2) (by kernel_rfl) k
theorem Tryd.ix_S_Constraint {K : Value → Prop} {b off len cap : Nat} {kd : IntKind} {i : Int} (h0 : 0 ≤ i) (h1 : i < len) (k : K (.pointer (some ⟨b, off + i.toNat * 2, none⟩))) : opP Tryd.prog (Instr.indexAt 28 (.slice (some ⟨b, off, none⟩) len cap) (.int kd i)) K :=
  p_index (e := 35) (n := 2) (by kernel_rfl) h0 h1 k
theorem Tryd.ldB_Constraint {w : World} {K : Value → Prop} {b : Nat} {c : List Value} {T : TypeId} (B : Blk w b c T) (hc : c.length = 2) (k : K (.agg c.toArray)) : opQ Tryd.prog w (Instr.loadAt 35 (.pointer (some ⟨b, 0, none⟩))) K :=
  q_loadB (by rw [hc]; kernel_rfl) B k
theorem Tryd.ldN_Constraint {w : World} {K : Value → Prop} {b off : Nat} {vs : List Value} (hc : vs.length = 2) (h : ∀ j v, vs[j]? = some v → w.cell? ⟨b, off + j, none⟩ = some v) (k : K (.agg vs.toArray)) : opQ Tryd.prog w (Instr.loadAt 35 (.pointer (some ⟨b, off, none⟩))) K :=
  q_loadN (by rw [hc]; kernel_rfl) h k
theorem Tryd.stB_Constraint {w : World} {K : World → Prop} {cs : Array Value} {b : Nat} {c : List Value} {T : TypeId} (B : Blk w b c T) (hl : c.length = 2) (hc : cs.size = 2) (h1 : ∀ u ∈ cs.toList, u.oneCell' = true) (h : ∀ w', ExtBut (· = b) w w' → w'.heap.size = w.heap.size → Blk w' b cs.toList T → K w') : opU Tryd.prog w (Instr.storeAt 35 (.pointer (some ⟨b, 0, none⟩)) (.agg cs)) K :=
  w_storeB (v := .agg cs) (by rw [show (Value.agg cs).cells.size = 2 from hc]; kernel_rfl) B (by rw [hl]; exact hc) h1 h
theorem Tryd.st_Constraint {w : World} {K : World → Prop} {cs : Array Value} {b off : Nat} {c : List Value} {T : TypeId} (B : Blk w b c T) (hl : off + 2 ≤ c.length) (hc : cs.size = 2) (h1 : ∀ u ∈ cs.toList, u.oneCell' = true) (h : ∀ w', ExtBut (· = b) w w' → w'.heap.size = w.heap.size → Blk w' b (c.take off ++ cs.toList ++ c.drop (off + 2)) T → K w') : opU Tryd.prog w (Instr.storeAt 35 (.pointer (some ⟨b, off, none⟩)) (.agg cs)) K :=
  w_store (v := .agg cs) (by rw [show (Value.agg cs).cells.size = 2 from hc]; kernel_rfl) B (by rw [show (Value.agg cs).cells.size = 2 from hc]; exact hl) h1 (by rw [show (Value.agg cs).cells.size = 2 from hc]; exact h)
theorem Tryd.fa_Constraint_0 {K : Value → Prop} {b off : Nat} (k : K (.pointer (some ⟨b, off + 0, none⟩))) : opP Tryd.prog (Instr.fieldAt 35 (.pointer (some ⟨b, off, none⟩)) 0) K :=
  p_field (by kernel_rfl) k
theorem Tryd.fa_Constraint_1 {K : Value → Prop} {b off : Nat} (k : K (.pointer (some ⟨b, off + 1, none⟩))) : opP Tryd.prog (Instr.fieldAt 35 (.pointer (some ⟨b, off, none⟩)) 1) K :=
  p_field (by kernel_rfl) k
theorem Tryd.al_Constraint {w : World} {K : Value → World → Prop} (h : ∀ b w', b = w.heap.size → Ext w w' → w'.heap.size = w.heap.size + 1 → Blk w' b [(.int .i64 0), (.int .i64 0)] 35 → K (.pointer (some ⟨b, 0, none⟩)) w') : opW Tryd.prog w (Instr.alloc 35 true (.tuple #[])) K :=
  w_alloc (by kernel_rfl) h
theorem Tryd.al_24_uint8 {w : World} {K : Value → World → Prop} (h : ∀ b w', b = w.heap.size → Ext w w' → w'.heap.size = w.heap.size + 1 → Blk w' b [(.int .u8 0), (.int .u8 0), (.int .u8 0), (.int .u8 0), (.int .u8 0), (.int .u8 0), (.int .u8 0), (.int .u8 0), (.int .u8 0), (.int .u8 0), (.int .u8 0), (.int .u8 0), (.int .u8 0), (.int .u8 0), (.int .u8 0), (.int .u8 0), (.int .u8 0), (.int .u8 0), (.int .u8 0), (.int .u8 0), (.int .u8 0), (.int .u8 0), (.int .u8 0), (.int .u8 0)] 129 → K (.pointer (some ⟨b, 0, none⟩)) w') : opW Tryd.prog w (Instr.alloc 129 true (.tuple #[])) K :=
  w_alloc (by kernel_rfl) h
theorem Tryd.st_uint8 {w : World} {K : World → Prop} {v : Value} {b off : Nat} {c : List Value} {T : TypeId} (B : Blk w b c T) (hl : off < c.length) (h1 : v.oneCell' = true) (h : ∀ w', ExtBut (· = b) w w' → w'.heap.size = w.heap.size → Blk w' b (c.set off v) T → K w') : opU Tryd.prog w (Instr.storeAt 5 (.pointer (some ⟨b, off, none⟩)) v) K :=
  w_store1 (by kernel_rfl) B hl h1 h
theorem Tryd.ld_uint64 {w : World} {K : Value → Prop} {a : Addr} {v : Value} (h : w.cell? a = some v) (k : K v) : opQ Tryd.prog w (Instr.loadAt 123 (.pointer (some a))) K :=
  q_load (by kernel_rfl) h k
theorem Tryd.ldB_uint64 {w : World} {K : Value → Prop} {b i : Nat} {c : List Value} {v : Value} {T : TypeId} (B : Blk w b c T) (h : c[i]? = some v) (k : K v) : opQ Tryd.prog w (Instr.loadAt 123 (.pointer (some ⟨b, i, none⟩))) K :=
  q_load (by kernel_rfl) ((B.cell i).trans h) k
theorem Tryd.len_S_uint8 {K : Value → Prop} {p : Option Addr} {len cap : Nat} (k : K (.int .i64 len)) : opP Tryd.prog (Builtin.len_ #[131] 3 #[.slice p len cap]) K :=
  p_lenS (e := 5) (n := 1) (by kernel_rfl) k
theorem Tryd.ix_S_uint8 {K : Value → Prop} {b off len cap : Nat} {kd : IntKind} {i : Int} (h0 : 0 ≤ i) (h1 : i < len) (k : K (.pointer (some ⟨b, off + i.toNat, none⟩))) : opP Tryd.prog (Instr.indexAt 131 (.slice (some ⟨b, off, none⟩) len cap) (.int kd i)) K :=
  p_index (e := 5) (n := 1) (by kernel_rfl) h0 h1 (by rw [Nat.mul_one]; exact k)
theorem Tryd.al_65_uint8 {w : World} {K : Value → World → Prop} (h : ∀ b w', b = w.heap.size → Ext w w' → w'.heap.size = w.heap.size + 1 → Blk w' b [(.int .u8 0), (.int .u8 0), (.int .u8 0), (.int .u8 0), (.int .u8 0), (.int .u8 0), (.int .u8 0), (.int .u8 0), (.int .u8 0), (.int .u8 0), (.int .u8 0), (.int .u8 0), (.int .u8 0), (.int .u8 0), (.int .u8 0), (.int .u8 0), (.int .u8 0), (.int .u8 0), (.int .u8 0), (.int .u8 0), (.int .u8 0), (.int .u8 0), (.int .u8 0), (.int .u8 0), (.int .u8 0), (.int .u8 0), (.int .u8 0), (.int .u8 0), (.int .u8 0), (.int .u8 0), (.int .u8 0), (.int .u8 0), (.int .u8 0), (.int .u8 0), (.int .u8 0), (.int .u8 0), (.int .u8 0), (.int .u8 0), (.int .u8 0), (.int .u8 0), (.int .u8 0), (.int .u8 0), (.int .u8 0), (.int .u8 0), (.int .u8 0), (.int .u8 0), (.int .u8 0), (.int .u8 0), (.int .u8 0), (.int .u8 0), (.int .u8 0), (.int .u8 0), (.int .u8 0), (.int .u8 0), (.int .u8 0), (.int .u8 0), (.int .u8 0), (.int .u8 0), (.int .u8 0), (.int .u8 0), (.int .u8 0), (.int .u8 0), (.int .u8 0), (.int .u8 0), (.int .u8 0)] 137 → K (.pointer (some ⟨b, 0, none⟩)) w') : opW Tryd.prog w (Instr.alloc 137 true (.tuple #[])) K :=
  w_alloc (by kernel_rfl) h
theorem Tryd.ap_S_uint8 {w : World} {K : Value → World → Prop} {base : Nat} {v : Value} {n : Nat} {xs : List Value} {p : Option Addr} {m c : Nat} {news : List Value} (hown : w.ownsRow base 5 1 v n xs) (hs : Sl w p news) (hl : news.length = m * 1) (hp : p = none → c = 0) (h1 : ∀ u ∈ news, u.oneCell' = true) (hb : (n + m) * 1 ≤ 140737488355328) (hbase : base ≤ w.heap.size) (h : ∀ v' w', w'.ownsRow base 5 1 v' (n + m) (xs ++ news) → ExtBut (fun k => v.ownBlock = some k) w w' → (v'.ownBlock = v.ownBlock ∨ v'.ownBlock = some w.heap.size) → (v' = .slice none 0 0 ↔ v = .slice none 0 0 ∧ m = 0) → K v' w') : opW Tryd.prog w (Builtin.append_ #[131, 131] 131 #[v, .slice p m c]) K :=
  w_append (by kernel_rfl) hown hs hl hp h1 hb hbase h
theorem Tryd.ld_uint8 {w : World} {K : Value → Prop} {a : Addr} {v : Value} (h : w.cell? a = some v) (k : K v) : opQ Tryd.prog w (Instr.loadAt 5 (.pointer (some a))) K :=
  q_load (by kernel_rfl) h k
theorem Tryd.ldB_uint8 {w : World} {K : Value → Prop} {b i : Nat} {c : List Value} {v : Value} {T : TypeId} (B : Blk w b c T) (h : c[i]? = some v) (k : K v) : opQ Tryd.prog w (Instr.loadAt 5 (.pointer (some ⟨b, i, none⟩))) K :=
  q_load (by kernel_rfl) ((B.cell i).trans h) k

end Go.Proofs
