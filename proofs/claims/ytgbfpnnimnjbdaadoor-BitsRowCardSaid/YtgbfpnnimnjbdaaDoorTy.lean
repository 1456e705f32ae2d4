/-
  The seat's types, reckoned: what each operation on them asks. Made by a program (wip/gen/gen.py).
-/
import Derived.Test.YtgbfpnnimnjbdaaDoorProg
import Derived.Test.YtgbfpnnimnjbdaaDoorShF
import Derived.KernelRfl
namespace Go.Proofs
open Go.Sh
set_option maxRecDepth 100000
theorem Tryd.mixed : Tryd.prog.follows .mixedOrders = true := by kernel_rfl
abbrev Tryd.t_ : TypeId := 0
abbrev Tryd.t_func : TypeId := 1
abbrev Tryd.t_int64 : TypeId := 2
abbrev Tryd.t_int : TypeId := 3
abbrev Tryd.t_bool : TypeId := 4
abbrev Tryd.t_uint8 : TypeId := 5
abbrev Tryd.t_abi_BoundsErrorCode : TypeId := 6
abbrev Tryd.t_x7 : TypeId := 7
abbrev Tryd.t_runtime_boundsError : TypeId := 8
abbrev Tryd.t_string : TypeId := 9
abbrev Tryd.t_runtime_errorString : TypeId := 10
abbrev Tryd.t_runtime_plainError : TypeId := 11
abbrev Tryd.t_uintptr : TypeId := 12
abbrev Tryd.t_x13 : TypeId := 13
abbrev Tryd.t_runtime_errorAddressString : TypeId := 14
abbrev Tryd.t_P_runtime_TypeAssertionError : TypeId := 15
abbrev Tryd.t_P_runtime_PanicNilError : TypeId := 16
abbrev Tryd.t_P_abi_Type : TypeId := 17
abbrev Tryd.t_x18 : TypeId := 18
abbrev Tryd.t_maps_unhashableTypeError : TypeId := 19
abbrev Tryd.t_x20 : TypeId := 20
abbrev Tryd.t_int32 : TypeId := 21
abbrev Tryd.t_S_uint64 : TypeId := 22
abbrev Tryd.t_x23 : TypeId := 23
abbrev Tryd.t_Row : TypeId := 24
abbrev Tryd.t_func_bool : TypeId := 25
abbrev Tryd.t_func_Row_Row : TypeId := 26
abbrev Tryd.t_Errno : TypeId := 27
abbrev Tryd.t_string_Errno : TypeId := 28
abbrev Tryd.t_func_Row_string_Errno : TypeId := 29
abbrev Tryd.t_func_Row_bool : TypeId := 30
abbrev Tryd.t_func_Row_string : TypeId := 31
abbrev Tryd.t_Row_int_Errno : TypeId := 32
abbrev Tryd.t_func_int_string_Row_int_Errno : TypeId := 33
abbrev Tryd.t_Row_int_int : TypeId := 34
abbrev Tryd.t_func_int_string_Row_int_int : TypeId := 35
abbrev Tryd.t_func_Row_Row_Row_bool : TypeId := 36
abbrev Tryd.t_func_Row_Row_bool : TypeId := 37
abbrev Tryd.t_func_Row_int_string_bool : TypeId := 38
abbrev Tryd.t_Row_Errno : TypeId := 39
abbrev Tryd.t_func_int_Row_Errno : TypeId := 40
abbrev Tryd.t_Row_int : TypeId := 41
abbrev Tryd.t_func_int_Row_int : TypeId := 42
abbrev Tryd.t_func_Row_Row_Errno : TypeId := 43
abbrev Tryd.t_func_Row_int_bool : TypeId := 44
abbrev Tryd.t_S_int : TypeId := 45
abbrev Tryd.t_func_Row_S_int : TypeId := 46
abbrev Tryd.t_func_func_int_bool : TypeId := 47
abbrev Tryd.t_iter_Seq_int : TypeId := 48
abbrev Tryd.t_func_Row_iter_Seq_int : TypeId := 49
abbrev Tryd.t_func_Row_int : TypeId := 50
abbrev Tryd.t_func_Row_int_int_int_bool : TypeId := 51
abbrev Tryd.t_func_Row_int_Row_Errno : TypeId := 52
abbrev Tryd.t_func_Row_S_int_bool_Row_int : TypeId := 53
abbrev Tryd.t_func_Row_S_int_bool : TypeId := 54
abbrev Tryd.t_func_Row_Row_Errno_Errno_bool : TypeId := 55
abbrev Tryd.t_func_Row_Row_Row_Errno : TypeId := 56
abbrev Tryd.t_func_Row_Row_int_Row_int : TypeId := 57
abbrev Tryd.t_bool_Errno : TypeId := 58
abbrev Tryd.t_func_Row_Row_bool_Errno : TypeId := 59
abbrev Tryd.t_int_bool_Errno : TypeId := 60
abbrev Tryd.t_func_Row_Row_int_bool_Errno : TypeId := 61
abbrev Tryd.t_int_bool : TypeId := 62
abbrev Tryd.t_func_Row_Row_int_bool : TypeId := 63
abbrev Tryd.t_uint64 : TypeId := 64
abbrev Tryd.t_S_uint8 : TypeId := 65
abbrev Tryd.t_func_int : TypeId := 66
abbrev Tryd.t_func_int_Row : TypeId := 67
abbrev Tryd.t_func_S_uint64_S_uint64 : TypeId := 68
abbrev Tryd.t_func_int_bool : TypeId := 69
abbrev Tryd.t_func_uint64_int : TypeId := 70
abbrev Tryd.t_func_Row_S_int_func_P_uint64_uint64_Row_Errno : TypeId := 71
abbrev Tryd.t_P_uint64 : TypeId := 72
abbrev Tryd.t_func_P_uint64_uint64 : TypeId := 73
abbrev Tryd.t_func_Row_Row_func_P_uint64_uint64_Row_Errno : TypeId := 74
abbrev Tryd.t_64_uint8 : TypeId := 75
abbrev Tryd.t_uint : TypeId := 76
abbrev Tryd.t_func_string : TypeId := 77
abbrev Tryd.t_x78 : TypeId := 78
abbrev Tryd.t_runtime_TypeAssertionError : TypeId := 79
abbrev Tryd.t_0_P_runtime_PanicNilError : TypeId := 80
abbrev Tryd.t_x81 : TypeId := 81
abbrev Tryd.t_runtime_PanicNilError : TypeId := 82
abbrev Tryd.t_uint32 : TypeId := 84
abbrev Tryd.t_abi_TFlag : TypeId := 85
abbrev Tryd.t_abi_Kind : TypeId := 86
abbrev Tryd.t_func_unsafe_Pointer_unsafe_Pointer_bool : TypeId := 87
abbrev Tryd.t_P_uint8 : TypeId := 88
abbrev Tryd.t_abi_NameOff : TypeId := 89
abbrev Tryd.t_abi_TypeOff : TypeId := 90
abbrev Tryd.t_x91 : TypeId := 91
abbrev Tryd.t_abi_Type : TypeId := 92
abbrev Tryd.t_unsafe_Pointer : TypeId := 93
abbrev Tryd.n_law01_BitsBytes : FuncId := 3
instance : FldT Tryd.prog 24 1 1 := ⟨by kernel_rfl⟩
instance : Ld1 Tryd.prog 22 := ⟨by kernel_rfl⟩
instance : SzT Tryd.prog 22 1 := ⟨by kernel_rfl⟩
instance : SlT Tryd.prog 22 64 1 := ⟨by kernel_rfl⟩
instance : Ld1 Tryd.prog 64 := ⟨by kernel_rfl⟩
instance : SzT Tryd.prog 64 1 := ⟨by kernel_rfl⟩
instance : KdT Tryd.prog 64 .u64 := ⟨by kernel_rfl⟩
instance : Ld1 Tryd.prog 3 := ⟨by kernel_rfl⟩
instance : SzT Tryd.prog 3 1 := ⟨by kernel_rfl⟩
instance : KdT Tryd.prog 3 .i64 := ⟨by kernel_rfl⟩
instance : Ld1 Tryd.prog 9 := ⟨by kernel_rfl⟩
instance : SzT Tryd.prog 9 1 := ⟨by kernel_rfl⟩
instance : StrT Tryd.prog 9 := ⟨by kernel_rfl⟩
instance : LdN Tryd.prog 24 2 := ⟨by kernel_rfl⟩
instance : SzT Tryd.prog 24 2 := ⟨by kernel_rfl⟩
instance : ZrT Tryd.prog 24 [(.int .i64 0), (.slice none 0 0)] := ⟨by kernel_rfl⟩
instance : Ld1 Tryd.prog 27 := ⟨by kernel_rfl⟩
instance : SzT Tryd.prog 27 1 := ⟨by kernel_rfl⟩
instance : KdT Tryd.prog 27 .i64 := ⟨by kernel_rfl⟩
abbrev Tryd.n_law01_BitsRow : FuncId := 4
instance : Ld1 Tryd.prog 4 := ⟨by kernel_rfl⟩
instance : SzT Tryd.prog 4 1 := ⟨by kernel_rfl⟩
instance : KdB Tryd.prog 4 := ⟨by kernel_rfl⟩
instance : ZrT Tryd.prog 4 [(.bool false)] := ⟨by kernel_rfl⟩
instance : Ld1 Tryd.prog 45 := ⟨by kernel_rfl⟩
instance : SzT Tryd.prog 45 1 := ⟨by kernel_rfl⟩
instance : SlT Tryd.prog 45 3 1 := ⟨by kernel_rfl⟩
instance : ZrT Tryd.prog 45 [(.slice none 0 0)] := ⟨by kernel_rfl⟩
instance : PStep Tryd.prog (Instr.build 24 #[]) (.agg #[(.int .i64 0), (.slice none 0 0)]) := .of fun _ k => p_build (by kernel_rfl) k
instance : Ld1 Tryd.prog 48 := ⟨by kernel_rfl⟩
instance : SzT Tryd.prog 48 1 := ⟨by kernel_rfl⟩
instance : FnT Tryd.prog 48 := ⟨by kernel_rfl⟩
instance : ZrT Tryd.prog 3 [(.int .i64 0)] := ⟨by kernel_rfl⟩
abbrev Tryd.n_law01_BitsTurn : FuncId := 5
instance : ApT Tryd.prog 45 3 1 8 := ⟨by kernel_rfl⟩
abbrev Tryd.n_law01_BitsBack : FuncId := 6
instance : FldT Tryd.prog 24 0 0 := ⟨by kernel_rfl⟩
instance : ZrT Tryd.prog 27 [(.int .i64 0)] := ⟨by kernel_rfl⟩
abbrev Tryd.n_law01_BitsJoin : FuncId := 7
abbrev Tryd.n_law01_BitsLattice : FuncId := 8
abbrev Tryd.n_law01_awake : FuncId := 9
abbrev Tryd.n_law01_lent : FuncId := 10
instance : ApT Tryd.prog 22 64 1 8 := ⟨by kernel_rfl⟩
instance {x0_0 : Int} {x1_0 : Option Addr} {x1_0_l : Nat} {x1_0_c : Nat} : PStep Tryd.prog (Instr.build 24 #[(0, .int .i64 x0_0), (1, .slice x1_0 x1_0_l x1_0_c)]) (.agg #[.int .i64 x0_0, .slice x1_0 x1_0_l x1_0_c]) := .of fun _ k => p_build (by kernel_rfl) k
abbrev Tryd.n_bits_Bytes : FuncId := 11
instance : Ld1 Tryd.prog 65 := ⟨by kernel_rfl⟩
instance : SzT Tryd.prog 65 1 := ⟨by kernel_rfl⟩
instance : SlT Tryd.prog 65 5 1 := ⟨by kernel_rfl⟩
instance : Ld1 Tryd.prog 5 := ⟨by kernel_rfl⟩
instance : SzT Tryd.prog 5 1 := ⟨by kernel_rfl⟩
instance : KdT Tryd.prog 5 .u8 := ⟨by kernel_rfl⟩
instance : ApT Tryd.prog 65 5 1 1 := ⟨by kernel_rfl⟩
instance : ZrT Tryd.prog 5 [(.int .u8 0)] := ⟨by kernel_rfl⟩
instance : ZrT Tryd.prog 65 [(.slice none 0 0)] := ⟨by kernel_rfl⟩
instance : Ld1 Tryd.prog 66 := ⟨by kernel_rfl⟩
instance : SzT Tryd.prog 66 1 := ⟨by kernel_rfl⟩
instance : FnT Tryd.prog 66 := ⟨by kernel_rfl⟩
instance : ZrT Tryd.prog 66 [.nilFunc] := ⟨by kernel_rfl⟩
instance : BytT Tryd.prog 65 := ⟨by kernel_rfl⟩
abbrev Tryd.n_ref01_May : FuncId := 12
abbrev Tryd.n_ref01_Bytes : FuncId := 13
abbrev Tryd.n_bits_Read : FuncId := 14
abbrev Tryd.n_ref01_Read : FuncId := 15
abbrev Tryd.n_law01_held : FuncId := 16
abbrev Tryd.n_law01_kept : FuncId := 17
abbrev Tryd.n_bits_May : FuncId := 18
abbrev Tryd.n_bits_New : FuncId := 19
instance : ZrT Tryd.prog 64 [(.int .u64 0)] := ⟨by kernel_rfl⟩
abbrev Tryd.n_ref01_New : FuncId := 20
abbrev Tryd.n_bits_Own : FuncId := 21
abbrev Tryd.n_bits_Get : FuncId := 22
abbrev Tryd.n_ref01_Get : FuncId := 23
abbrev Tryd.n_ref01_List : FuncId := 24
abbrev Tryd.n_bits_Each : FuncId := 25
abbrev Tryd.n_bits_Count : FuncId := 26
abbrev Tryd.n_bits_Set : FuncId := 27
abbrev Tryd.n_ref01_Turn : FuncId := 28
abbrev Tryd.n_bits_Clear : FuncId := 29
abbrev Tryd.n_law01_same : FuncId := 30
abbrev Tryd.n_bits_Or : FuncId := 31
abbrev Tryd.n_bits_And : FuncId := 32
abbrev Tryd.n_bits_Less : FuncId := 33
abbrev Tryd.n_ref01_Join : FuncId := 34
abbrev Tryd.n_bits_Has : FuncId := 35
abbrev Tryd.n_bits_First : FuncId := 36
abbrev Tryd.n_ref01_Both : FuncId := 37
abbrev Tryd.n_ref01_First : FuncId := 38
abbrev Tryd.n_bits_Bytes_1 : FuncId := 39
abbrev Tryd.n_ref01_Is : FuncId := 40
abbrev Tryd.n_ref01_None : FuncId := 41
abbrev Tryd.n_ref01_Same : FuncId := 42
abbrev Tryd.n_slices_Clone_uint64_uint64 : FuncId := 43
abbrev Tryd.n_bits_Each_1 : FuncId := 44
abbrev Tryd.n_math_bits_TrailingZeros64 : FuncId := 45
instance : LdN Tryd.prog 75 64 := ⟨by kernel_rfl⟩
instance : SzT Tryd.prog 75 64 := ⟨by kernel_rfl⟩
instance : ArT Tryd.prog 75 64 5 1 := ⟨by kernel_rfl⟩
abbrev Tryd.n_math_bits_OnesCount64 : FuncId := 46
abbrev Tryd.n_bits_turn : FuncId := 47
abbrev Tryd.n_bits_Set_1 : FuncId := 48
abbrev Tryd.n_ref01_Own : FuncId := 49
instance {x0_0 : Int} : PStep Tryd.prog (Instr.build 24 #[(0, .int .i64 x0_0)]) (.agg #[.int .i64 x0_0, (.slice none 0 0)]) := .of fun _ k => p_build (by kernel_rfl) k
abbrev Tryd.n_bits_Clear_1 : FuncId := 50
abbrev Tryd.n_bits_both : FuncId := 51
abbrev Tryd.n_bits_Or_1 : FuncId := 52
abbrev Tryd.n_bits_And_1 : FuncId := 53
abbrev Tryd.n_bits_Less_1 : FuncId := 54
theorem Tryd.fa_Row_1 {K : Value → Prop} {b off : Nat} (k : K (.pointer (some ⟨b, off + 1, none⟩))) : opP Tryd.prog (Instr.fieldAt 24 (.pointer (some ⟨b, off, none⟩)) 1) K :=
  p_field (by kernel_rfl) k
theorem Tryd.ld_S_uint64 {w : World} {K : Value → Prop} {a : Addr} {v : Value} (h : w.cell? a = some v) (k : K v) : opQ Tryd.prog w (Instr.loadAt 22 (.pointer (some a))) K :=
  q_load (by kernel_rfl) h k
theorem Tryd.ldB_S_uint64 {w : World} {K : Value → Prop} {b i : Nat} {c : List Value} {v : Value} {T : TypeId} (B : Blk w b c T) (h : c[i]? = some v) (k : K v) : opQ Tryd.prog w (Instr.loadAt 22 (.pointer (some ⟨b, i, none⟩))) K :=
  q_load (by kernel_rfl) ((B.cell i).trans h) k
theorem Tryd.len_S_uint64 {K : Value → Prop} {p : Option Addr} {len cap : Nat} (k : K (.int .i64 len)) : opP Tryd.prog (Builtin.len_ #[22] 3 #[.slice p len cap]) K :=
  p_lenS (e := 64) (n := 1) (by kernel_rfl) k
theorem Tryd.len_string {K : Value → Prop} {s : ByteArray} (k : K (.int .i64 s.size)) : opP Tryd.prog (Builtin.len_ #[9] 3 #[.string s]) K :=
  p_lenStr (by kernel_rfl) k
theorem Tryd.ldB_Row {w : World} {K : Value → Prop} {b : Nat} {c : List Value} {T : TypeId} (B : Blk w b c T) (hc : c.length = 2) (k : K (.agg c.toArray)) : opQ Tryd.prog w (Instr.loadAt 24 (.pointer (some ⟨b, 0, none⟩))) K :=
  q_loadB (by rw [hc]; kernel_rfl) B k
theorem Tryd.ldN_Row {w : World} {K : Value → Prop} {b off : Nat} {vs : List Value} (hc : vs.length = 2) (h : ∀ j v, vs[j]? = some v → w.cell? ⟨b, off + j, none⟩ = some v) (k : K (.agg vs.toArray)) : opQ Tryd.prog w (Instr.loadAt 24 (.pointer (some ⟨b, off, none⟩))) K :=
  q_loadN (by rw [hc]; kernel_rfl) h k
theorem Tryd.al_Row {w : World} {K : Value → World → Prop} (h : ∀ b w', b = w.heap.size → Ext w w' → w'.heap.size = w.heap.size + 1 → Blk w' b [(.int .i64 0), (.slice none 0 0)] 24 → K (.pointer (some ⟨b, 0, none⟩)) w') : opW Tryd.prog w (Instr.alloc 24 true (.tuple #[])) K :=
  w_alloc (by kernel_rfl) h
theorem Tryd.stB_Row {w : World} {K : World → Prop} {cs : Array Value} {b : Nat} {c : List Value} {T : TypeId} (B : Blk w b c T) (hl : c.length = 2) (hc : cs.size = 2) (h1 : ∀ u ∈ cs.toList, u.oneCell' = true) (h : ∀ w', ExtBut (· = b) w w' → w'.heap.size = w.heap.size → Blk w' b cs.toList T → K w') : opU Tryd.prog w (Instr.storeAt 24 (.pointer (some ⟨b, 0, none⟩)) (.agg cs)) K :=
  w_storeB (v := .agg cs) (by rw [show (Value.agg cs).cells.size = 2 from hc]; kernel_rfl) B (by rw [hl]; exact hc) h1 h
theorem Tryd.st_Row {w : World} {K : World → Prop} {cs : Array Value} {b off : Nat} {c : List Value} {T : TypeId} (B : Blk w b c T) (hl : off + 2 ≤ c.length) (hc : cs.size = 2) (h1 : ∀ u ∈ cs.toList, u.oneCell' = true) (h : ∀ w', ExtBut (· = b) w w' → w'.heap.size = w.heap.size → Blk w' b (c.take off ++ cs.toList ++ c.drop (off + 2)) T → K w') : opU Tryd.prog w (Instr.storeAt 24 (.pointer (some ⟨b, off, none⟩)) (.agg cs)) K :=
  w_store (v := .agg cs) (by rw [show (Value.agg cs).cells.size = 2 from hc]; kernel_rfl) B (by rw [show (Value.agg cs).cells.size = 2 from hc]; exact hl) h1 (by rw [show (Value.agg cs).cells.size = 2 from hc]; exact h)
theorem Tryd.ce_bool {w : World} {K : Value → Prop} {b : Nat} {v : Value} {T : TypeId} (B : Blk w b [v] T) (k : K v) : opQ Tryd.prog w (cellSem 4 (.pointer (some ⟨b, 0, none⟩))) K :=
  q_cell1 (by kernel_rfl) (by rw [B.cell]; rfl) k
theorem Tryd.al_bool {w : World} {K : Value → World → Prop} (h : ∀ b w', b = w.heap.size → Ext w w' → w'.heap.size = w.heap.size + 1 → Blk w' b [(.bool false)] 4 → K (.pointer (some ⟨b, 0, none⟩)) w') : opW Tryd.prog w (Instr.alloc 4 true (.tuple #[])) K :=
  w_alloc (by kernel_rfl) h
theorem Tryd.st_bool {w : World} {K : World → Prop} {v : Value} {b off : Nat} {c : List Value} {T : TypeId} (B : Blk w b c T) (hl : off < c.length) (h1 : v.oneCell' = true) (h : ∀ w', ExtBut (· = b) w w' → w'.heap.size = w.heap.size → Blk w' b (c.set off v) T → K w') : opU Tryd.prog w (Instr.storeAt 4 (.pointer (some ⟨b, off, none⟩)) v) K :=
  w_store1 (by kernel_rfl) B hl h1 h
theorem Tryd.al_S_int {w : World} {K : Value → World → Prop} (h : ∀ b w', b = w.heap.size → Ext w w' → w'.heap.size = w.heap.size + 1 → Blk w' b [(.slice none 0 0)] 45 → K (.pointer (some ⟨b, 0, none⟩)) w') : opW Tryd.prog w (Instr.alloc 45 true (.tuple #[])) K :=
  w_alloc (by kernel_rfl) h
theorem Tryd.st_S_int {w : World} {K : World → Prop} {v : Value} {b off : Nat} {c : List Value} {T : TypeId} (B : Blk w b c T) (hl : off < c.length) (h1 : v.oneCell' = true) (h : ∀ w', ExtBut (· = b) w w' → w'.heap.size = w.heap.size → Blk w' b (c.set off v) T → K w') : opU Tryd.prog w (Instr.storeAt 45 (.pointer (some ⟨b, off, none⟩)) v) K :=
  w_store1 (by kernel_rfl) B hl h1 h
theorem Tryd.ld_S_int {w : World} {K : Value → Prop} {a : Addr} {v : Value} (h : w.cell? a = some v) (k : K v) : opQ Tryd.prog w (Instr.loadAt 45 (.pointer (some a))) K :=
  q_load (by kernel_rfl) h k
theorem Tryd.ldB_S_int {w : World} {K : Value → Prop} {b i : Nat} {c : List Value} {v : Value} {T : TypeId} (B : Blk w b c T) (h : c[i]? = some v) (k : K v) : opQ Tryd.prog w (Instr.loadAt 45 (.pointer (some ⟨b, i, none⟩))) K :=
  q_load (by kernel_rfl) ((B.cell i).trans h) k
theorem Tryd.len_S_int {K : Value → Prop} {p : Option Addr} {len cap : Nat} (k : K (.int .i64 len)) : opP Tryd.prog (Builtin.len_ #[45] 3 #[.slice p len cap]) K :=
  p_lenS (e := 3) (n := 1) (by kernel_rfl) k
theorem Tryd.al_int {w : World} {K : Value → World → Prop} (h : ∀ b w', b = w.heap.size → Ext w w' → w'.heap.size = w.heap.size + 1 → Blk w' b [(.int .i64 0)] 3 → K (.pointer (some ⟨b, 0, none⟩)) w') : opW Tryd.prog w (Instr.alloc 3 true (.tuple #[])) K :=
  w_alloc (by kernel_rfl) h
theorem Tryd.st_int {w : World} {K : World → Prop} {v : Value} {b off : Nat} {c : List Value} {T : TypeId} (B : Blk w b c T) (hl : off < c.length) (h1 : v.oneCell' = true) (h : ∀ w', ExtBut (· = b) w w' → w'.heap.size = w.heap.size → Blk w' b (c.set off v) T → K w') : opU Tryd.prog w (Instr.storeAt 3 (.pointer (some ⟨b, off, none⟩)) v) K :=
  w_store1 (by kernel_rfl) B hl h1 h
theorem Tryd.ld_int {w : World} {K : Value → Prop} {a : Addr} {v : Value} (h : w.cell? a = some v) (k : K v) : opQ Tryd.prog w (Instr.loadAt 3 (.pointer (some a))) K :=
  q_load (by kernel_rfl) h k
theorem Tryd.ldB_int {w : World} {K : Value → Prop} {b i : Nat} {c : List Value} {v : Value} {T : TypeId} (B : Blk w b c T) (h : c[i]? = some v) (k : K v) : opQ Tryd.prog w (Instr.loadAt 3 (.pointer (some ⟨b, i, none⟩))) K :=
  q_load (by kernel_rfl) ((B.cell i).trans h) k
theorem Tryd.ix_S_int {K : Value → Prop} {b off len cap : Nat} {kd : IntKind} {i : Int} (h0 : 0 ≤ i) (h1 : i < len) (k : K (.pointer (some ⟨b, off + i.toNat, none⟩))) : opP Tryd.prog (Instr.indexAt 45 (.slice (some ⟨b, off, none⟩) len cap) (.int kd i)) K :=
  p_index (e := 3) (n := 1) (by kernel_rfl) h0 h1 (by rw [Nat.mul_one]; exact k)
theorem Tryd.ap_S_int {w : World} {K : Value → World → Prop} {base : Nat} {v : Value} {n : Nat} {xs : List Value} {p : Option Addr} {m c : Nat} {news : List Value} (hown : w.ownsRow base 3 1 v n xs) (hs : Sl w p news) (hl : news.length = m * 1) (hp : p = none → c = 0) (h1 : ∀ u ∈ news, u.oneCell' = true) (hb : (n + m) * 8 ≤ 140737488355328) (hbase : base ≤ w.heap.size) (h : ∀ v' w', w'.ownsRow base 3 1 v' (n + m) (xs ++ news) → ExtBut (fun k => v.ownBlock = some k) w w' → (v'.ownBlock = v.ownBlock ∨ v'.ownBlock = some w.heap.size) → (v' = .slice none 0 0 ↔ v = .slice none 0 0 ∧ m = 0) → K v' w') : opW Tryd.prog w (Builtin.append_ #[45, 45] 45 #[v, .slice p m c]) K :=
  w_append (by kernel_rfl) hown hs hl hp h1 hb hbase h
theorem Tryd.slHi_S_int {K : Value → Prop} {p : Option Addr} {len cap : Nat} {kd : IntKind} {i : Int} (h0 : 0 ≤ i) (h1 : i ≤ cap) (k : K (.slice p i.toNat cap)) : opP Tryd.prog (Instr.sliceAt 45 (.slice p len cap) none (some (.int kd i)) none) K :=
  p_sliceHi (e := 3) (n := 1) (by kernel_rfl) h0 h1 k
theorem Tryd.slLo_S_int {K : Value → Prop} {p : Option Addr} {len cap : Nat} {kd : IntKind} {i : Int} (h0 : 0 ≤ i) (h1 : i ≤ len) (k : K (.slice (if cap = i.toNat then p else p.map (·.add (i.toNat * 1))) (len - i.toNat) (cap - i.toNat))) : opP Tryd.prog (Instr.sliceAt 45 (.slice p len cap) (some (.int kd i)) none none) K :=
  p_sliceLo (e := 3) (n := 1) (by kernel_rfl) h0 h1 k
theorem Tryd.fa_Row_0 {K : Value → Prop} {b off : Nat} (k : K (.pointer (some ⟨b, off + 0, none⟩))) : opP Tryd.prog (Instr.fieldAt 24 (.pointer (some ⟨b, off, none⟩)) 0) K :=
  p_field (by kernel_rfl) k
theorem Tryd.al_Errno {w : World} {K : Value → World → Prop} (h : ∀ b w', b = w.heap.size → Ext w w' → w'.heap.size = w.heap.size + 1 → Blk w' b [(.int .i64 0)] 27 → K (.pointer (some ⟨b, 0, none⟩)) w') : opW Tryd.prog w (Instr.alloc 27 true (.tuple #[])) K :=
  w_alloc (by kernel_rfl) h
theorem Tryd.st_Errno {w : World} {K : World → Prop} {v : Value} {b off : Nat} {c : List Value} {T : TypeId} (B : Blk w b c T) (hl : off < c.length) (h1 : v.oneCell' = true) (h : ∀ w', ExtBut (· = b) w w' → w'.heap.size = w.heap.size → Blk w' b (c.set off v) T → K w') : opU Tryd.prog w (Instr.storeAt 27 (.pointer (some ⟨b, off, none⟩)) v) K :=
  w_store1 (by kernel_rfl) B hl h1 h
theorem Tryd.ld_Errno {w : World} {K : Value → Prop} {a : Addr} {v : Value} (h : w.cell? a = some v) (k : K v) : opQ Tryd.prog w (Instr.loadAt 27 (.pointer (some a))) K :=
  q_load (by kernel_rfl) h k
theorem Tryd.ldB_Errno {w : World} {K : Value → Prop} {b i : Nat} {c : List Value} {v : Value} {T : TypeId} (B : Blk w b c T) (h : c[i]? = some v) (k : K v) : opQ Tryd.prog w (Instr.loadAt 27 (.pointer (some ⟨b, i, none⟩))) K :=
  q_load (by kernel_rfl) ((B.cell i).trans h) k
theorem Tryd.ce_Row {w : World} {K : Value → Prop} {b : Nat} {c : List Value} {T : TypeId} (B : Blk w b c T) (hc : c.length = 2) (k : K (.agg c.toArray)) : opQ Tryd.prog w (cellSem 24 (.pointer (some ⟨b, 0, none⟩))) K :=
  q_cellB (by rw [hc]; kernel_rfl) B k
theorem Tryd.ap_S_uint64 {w : World} {K : Value → World → Prop} {base : Nat} {v : Value} {n : Nat} {xs : List Value} {p : Option Addr} {m c : Nat} {news : List Value} (hown : w.ownsRow base 64 1 v n xs) (hs : Sl w p news) (hl : news.length = m * 1) (hp : p = none → c = 0) (h1 : ∀ u ∈ news, u.oneCell' = true) (hb : (n + m) * 8 ≤ 140737488355328) (hbase : base ≤ w.heap.size) (h : ∀ v' w', w'.ownsRow base 64 1 v' (n + m) (xs ++ news) → ExtBut (fun k => v.ownBlock = some k) w w' → (v'.ownBlock = v.ownBlock ∨ v'.ownBlock = some w.heap.size) → (v' = .slice none 0 0 ↔ v = .slice none 0 0 ∧ m = 0) → K v' w') : opW Tryd.prog w (Builtin.append_ #[22, 22] 22 #[v, .slice p m c]) K :=
  w_append (by kernel_rfl) hown hs hl hp h1 hb hbase h
theorem Tryd.slHi_S_uint64 {K : Value → Prop} {p : Option Addr} {len cap : Nat} {kd : IntKind} {i : Int} (h0 : 0 ≤ i) (h1 : i ≤ cap) (k : K (.slice p i.toNat cap)) : opP Tryd.prog (Instr.sliceAt 22 (.slice p len cap) none (some (.int kd i)) none) K :=
  p_sliceHi (e := 64) (n := 1) (by kernel_rfl) h0 h1 k
theorem Tryd.slLo_S_uint64 {K : Value → Prop} {p : Option Addr} {len cap : Nat} {kd : IntKind} {i : Int} (h0 : 0 ≤ i) (h1 : i ≤ len) (k : K (.slice (if cap = i.toNat then p else p.map (·.add (i.toNat * 1))) (len - i.toNat) (cap - i.toNat))) : opP Tryd.prog (Instr.sliceAt 22 (.slice p len cap) (some (.int kd i)) none none) K :=
  p_sliceLo (e := 64) (n := 1) (by kernel_rfl) h0 h1 k
theorem Tryd.mk_S_uint8 {w : World} {K : Value → World → Prop} {kl : IntKind} {n : Int} (h0 : 0 ≤ n) (hb : (1 : Int) * n ≤ 281474976710656) (h : ∀ b w', b = w.heap.size → Ext w w' → w'.heap.size = w.heap.size + 1 → Blk w' b (List.replicate n.toNat (.int .u8 0)) 5 → K (.slice (some ⟨b, 0, none⟩) n.toNat n.toNat) w') : opW Tryd.prog w (Instr.makeSlice 65 (.int kl n) (.int kl n)) K :=
  w_make (bytes := 1) (by kernel_rfl) (by kernel_rfl) h0 hb h
theorem Tryd.al_S_uint8 {w : World} {K : Value → World → Prop} (h : ∀ b w', b = w.heap.size → Ext w w' → w'.heap.size = w.heap.size + 1 → Blk w' b [(.slice none 0 0)] 65 → K (.pointer (some ⟨b, 0, none⟩)) w') : opW Tryd.prog w (Instr.alloc 65 true (.tuple #[])) K :=
  w_alloc (by kernel_rfl) h
theorem Tryd.st_S_uint8 {w : World} {K : World → Prop} {v : Value} {b off : Nat} {c : List Value} {T : TypeId} (B : Blk w b c T) (hl : off < c.length) (h1 : v.oneCell' = true) (h : ∀ w', ExtBut (· = b) w w' → w'.heap.size = w.heap.size → Blk w' b (c.set off v) T → K w') : opU Tryd.prog w (Instr.storeAt 65 (.pointer (some ⟨b, off, none⟩)) v) K :=
  w_store1 (by kernel_rfl) B hl h1 h
theorem Tryd.al_func_int {w : World} {K : Value → World → Prop} (h : ∀ b w', b = w.heap.size → Ext w w' → w'.heap.size = w.heap.size + 1 → Blk w' b [.nilFunc] 66 → K (.pointer (some ⟨b, 0, none⟩)) w') : opW Tryd.prog w (Instr.alloc 66 true (.tuple #[])) K :=
  w_alloc (by kernel_rfl) h
theorem Tryd.st_func_int {w : World} {K : World → Prop} {v : Value} {b off : Nat} {c : List Value} {T : TypeId} (B : Blk w b c T) (hl : off < c.length) (h1 : v.oneCell' = true) (h : ∀ w', ExtBut (· = b) w w' → w'.heap.size = w.heap.size → Blk w' b (c.set off v) T → K w') : opU Tryd.prog w (Instr.storeAt 66 (.pointer (some ⟨b, off, none⟩)) v) K :=
  w_store1 (by kernel_rfl) B hl h1 h
theorem Tryd.ld_func_int {w : World} {K : Value → Prop} {a : Addr} {v : Value} (h : w.cell? a = some v) (k : K v) : opQ Tryd.prog w (Instr.loadAt 66 (.pointer (some a))) K :=
  q_load (by kernel_rfl) h k
theorem Tryd.ldB_func_int {w : World} {K : Value → Prop} {b i : Nat} {c : List Value} {v : Value} {T : TypeId} (B : Blk w b c T) (h : c[i]? = some v) (k : K v) : opQ Tryd.prog w (Instr.loadAt 66 (.pointer (some ⟨b, i, none⟩))) K :=
  q_load (by kernel_rfl) ((B.cell i).trans h) k
theorem Tryd.ld_S_uint8 {w : World} {K : Value → Prop} {a : Addr} {v : Value} (h : w.cell? a = some v) (k : K v) : opQ Tryd.prog w (Instr.loadAt 65 (.pointer (some a))) K :=
  q_load (by kernel_rfl) h k
theorem Tryd.ldB_S_uint8 {w : World} {K : Value → Prop} {b i : Nat} {c : List Value} {v : Value} {T : TypeId} (B : Blk w b c T) (h : c[i]? = some v) (k : K v) : opQ Tryd.prog w (Instr.loadAt 65 (.pointer (some ⟨b, i, none⟩))) K :=
  q_load (by kernel_rfl) ((B.cell i).trans h) k
theorem Tryd.ix_S_uint64 {K : Value → Prop} {b off len cap : Nat} {kd : IntKind} {i : Int} (h0 : 0 ≤ i) (h1 : i < len) (k : K (.pointer (some ⟨b, off + i.toNat, none⟩))) : opP Tryd.prog (Instr.indexAt 22 (.slice (some ⟨b, off, none⟩) len cap) (.int kd i)) K :=
  p_index (e := 64) (n := 1) (by kernel_rfl) h0 h1 (by rw [Nat.mul_one]; exact k)
theorem Tryd.ld_uint64 {w : World} {K : Value → Prop} {a : Addr} {v : Value} (h : w.cell? a = some v) (k : K v) : opQ Tryd.prog w (Instr.loadAt 64 (.pointer (some a))) K :=
  q_load (by kernel_rfl) h k
theorem Tryd.ldB_uint64 {w : World} {K : Value → Prop} {b i : Nat} {c : List Value} {v : Value} {T : TypeId} (B : Blk w b c T) (h : c[i]? = some v) (k : K v) : opQ Tryd.prog w (Instr.loadAt 64 (.pointer (some ⟨b, i, none⟩))) K :=
  q_load (by kernel_rfl) ((B.cell i).trans h) k
theorem Tryd.ix_S_uint8 {K : Value → Prop} {b off len cap : Nat} {kd : IntKind} {i : Int} (h0 : 0 ≤ i) (h1 : i < len) (k : K (.pointer (some ⟨b, off + i.toNat, none⟩))) : opP Tryd.prog (Instr.indexAt 65 (.slice (some ⟨b, off, none⟩) len cap) (.int kd i)) K :=
  p_index (e := 5) (n := 1) (by kernel_rfl) h0 h1 (by rw [Nat.mul_one]; exact k)
theorem Tryd.ld_uint8 {w : World} {K : Value → Prop} {a : Addr} {v : Value} (h : w.cell? a = some v) (k : K v) : opQ Tryd.prog w (Instr.loadAt 5 (.pointer (some a))) K :=
  q_load (by kernel_rfl) h k
theorem Tryd.ldB_uint8 {w : World} {K : Value → Prop} {b i : Nat} {c : List Value} {v : Value} {T : TypeId} (B : Blk w b c T) (h : c[i]? = some v) (k : K v) : opQ Tryd.prog w (Instr.loadAt 5 (.pointer (some ⟨b, i, none⟩))) K :=
  q_load (by kernel_rfl) ((B.cell i).trans h) k
theorem Tryd.st_uint8 {w : World} {K : World → Prop} {v : Value} {b off : Nat} {c : List Value} {T : TypeId} (B : Blk w b c T) (hl : off < c.length) (h1 : v.oneCell' = true) (h : ∀ w', ExtBut (· = b) w w' → w'.heap.size = w.heap.size → Blk w' b (c.set off v) T → K w') : opU Tryd.prog w (Instr.storeAt 5 (.pointer (some ⟨b, off, none⟩)) v) K :=
  w_store1 (by kernel_rfl) B hl h1 h
theorem Tryd.by_string {K : Value → Prop} {s : ByteArray} {kd : IntKind} {i : Int} (h0 : 0 ≤ i) (h1 : i.toNat < s.size) (k : K (.int .u8 (s[i.toNat].toNat : Int))) : opP Tryd.prog (Instr.index 9 (.string s) (.int kd i)) K :=
  p_byte (by kernel_rfl) h0 h1 k
theorem Tryd.st_uint64 {w : World} {K : World → Prop} {v : Value} {b off : Nat} {c : List Value} {T : TypeId} (B : Blk w b c T) (hl : off < c.length) (h1 : v.oneCell' = true) (h : ∀ w', ExtBut (· = b) w w' → w'.heap.size = w.heap.size → Blk w' b (c.set off v) T → K w') : opU Tryd.prog w (Instr.storeAt 64 (.pointer (some ⟨b, off, none⟩)) v) K :=
  w_store1 (by kernel_rfl) B hl h1 h
theorem Tryd.mk_S_uint64 {w : World} {K : Value → World → Prop} {kl : IntKind} {n : Int} (h0 : 0 ≤ n) (hb : (8 : Int) * n ≤ 281474976710656) (h : ∀ b w', b = w.heap.size → Ext w w' → w'.heap.size = w.heap.size + 1 → Blk w' b (List.replicate n.toNat (.int .u64 0)) 64 → K (.slice (some ⟨b, 0, none⟩) n.toNat n.toNat) w') : opW Tryd.prog w (Instr.makeSlice 22 (.int kl n) (.int kl n)) K :=
  w_make (bytes := 8) (by kernel_rfl) (by kernel_rfl) h0 hb h
theorem Tryd.ce_int {w : World} {K : Value → Prop} {b : Nat} {v : Value} {T : TypeId} (B : Blk w b [v] T) (k : K v) : opQ Tryd.prog w (cellSem 3 (.pointer (some ⟨b, 0, none⟩))) K :=
  q_cell1 (by kernel_rfl) (by rw [B.cell]; rfl) k
theorem Tryd.ce_Errno {w : World} {K : Value → Prop} {b : Nat} {v : Value} {T : TypeId} (B : Blk w b [v] T) (k : K v) : opQ Tryd.prog w (cellSem 27 (.pointer (some ⟨b, 0, none⟩))) K :=
  q_cell1 (by kernel_rfl) (by rw [B.cell]; rfl) k
theorem Tryd.st_S_uint64 {w : World} {K : World → Prop} {v : Value} {b off : Nat} {c : List Value} {T : TypeId} (B : Blk w b c T) (hl : off < c.length) (h1 : v.oneCell' = true) (h : ∀ w', ExtBut (· = b) w w' → w'.heap.size = w.heap.size → Blk w' b (c.set off v) T → K w') : opU Tryd.prog w (Instr.storeAt 22 (.pointer (some ⟨b, off, none⟩)) v) K :=
  w_store1 (by kernel_rfl) B hl h1 h

end Go.Proofs
