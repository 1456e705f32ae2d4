/-
  The seat's types, reckoned: what each operation on them asks. Made by a program (wip/gen/gen.py).
  Shallow readings of functions. Made by a program (wip/gen/gen.py) out of the translation; the kernel checks each equality.
  Shallow readings of functions. Made by a program (wip/gen/gen.py) out of the translation; the kernel checks each equality.
  Shallow readings of functions. Made by a program (wip/gen/gen.py) out of the translation; the kernel checks each equality.
  Shallow readings of functions. Made by a program (wip/gen/gen.py) out of the translation; the kernel checks each equality.
  Shallow readings of functions. Made by a program (wip/gen/gen.py) out of the translation; the kernel checks each equality.
  Types as data: what a value of api.Type tells; typeFits.
  Contracts: which types may be (package types, the document's answer).
  Contracts: types that are alike, the same.
  Contracts: the regions of a type.
  Contracts: Regions, of both sides; which regions one type asks of another (pure).
  Contracts: what one type asks of another.
  Contracts: Asks, of both sides.
  Contracts: Asks, the document's.
  Contracts: the text of a type, of both sides. Itoa of small numbers.
  Contracts: the text of a type, the document's; Itoa of small numbers; Copies.
  Contracts: Structs, May, Words where there are no structs (what awake asks).
  Arithmetic of unsigned numbers, told by whole numbers where nothing runs over.
-/
import Derived.Test.YtngfnikkdhbajaaProg
import Derived.Test.YtngfnikkdhbajaaQVa
import Derived.KernelRfl

section
namespace Go.Proofs
open Go.Sh
set_option maxRecDepth 100000
theorem Try.mixed : Try.prog.follows .mixedOrders = true := by kernel_rfl
namespace Try
abbrev VW := Value → World → Prop
abbrev fa (v : Value) (T : TypeId) (i : Nat) (k : Value → Prop) : Prop := oNil v fun a => opP prog (Instr.fieldAt T a i) k
abbrev pf (T : TypeId) (v : Value) (i : Nat) (k : Value → Prop) : Prop := opP prog (Instr.fieldAt T v i) k
abbrev lo (w : World) (T : TypeId) (v : Value) (k : Value → Prop) : Prop := opQ prog w (Instr.loadAt T v) k
abbrev ff (w : World) (v : Value) (T : TypeId) (i : Nat) (U : TypeId) (k : Value → Prop) : Prop := oNil v fun a => opP prog (Instr.fieldAt T a i) fun b => opQ prog w (Instr.loadAt U b) k
abbrev fl (w : World) (v : Value) (T : TypeId) (i : Nat) (U : TypeId) (k : Value → Prop) : Prop := opP prog (Instr.fieldAt T v i) fun b => opQ prog w (Instr.loadAt U b) k
abbrev px (T : TypeId) (v i : Value) (k : Value → Prop) : Prop := opP prog (Instr.indexAt T v i) k
abbrev xl (w : World) (T : TypeId) (v i : Value) (U : TypeId) (k : Value → Prop) : Prop := opP prog (Instr.indexAt T v i) fun b => opQ prog w (Instr.loadAt U b) k
abbrev bt (o : BinOp) (T : TypeId) (x y : Value) (k : Value → Prop) : Prop := opP prog (bsem o T true x y) k
abbrev bf (o : BinOp) (T : TypeId) (x y : Value) (k : Value → Prop) : Prop := opP prog (bsem o T false x y) k
abbrev pe (x : Value) (i : Nat) (k : Value → Prop) : Prop := opP prog (Instr.extract x i) k
abbrev so (w : World) (T : TypeId) (x y : Value) (k : World → Prop) : Prop := opU prog w (Instr.storeAt T x y) k
abbrev pp (s : Sem Value) (k : Value → Prop) : Prop := opP prog s k
abbrev pq (w : World) (s : Sem Value) (k : Value → Prop) : Prop := opQ prog w s k
abbrev pw (w : World) (s : Sem Value) (k : Value → World → Prop) : Prop := opW prog w s k
abbrev pu (w : World) (s : Sem Unit) (k : World → Prop) : Prop := opU prog w s k
abbrev ca (f : FuncId) (a : Array Value) (w : World) (k : Value → World → Prop) : Prop := oCall prog f a w k
abbrev cv (f : Value) (a : Array Value) (w : World) (k : Value → World → Prop) : Prop := oCallV prog f a w k
abbrev i6 (n : Int) : Value := .int .i64 n
abbrev tr_ : Value := .bool true
abbrev fa_ : Value := .bool false
theorem okC (m : Bool) (A : Ann) {f : FuncId} {fn : Func} {args : Array Value} {w : World} {K : VW} {X : Prop} (hf : prog.funcs[f]? = some fn) (hb : fn.body.isSome = true) (hc : chk ⟨m, false⟩ prog false A (bodyOf fn) = true)
    (he : sw ⟨m, false⟩ prog (fun _ _ => False) A (bodyOf fn) (args.toList ++ List.replicate (fn.ntmps - args.size) undef) w (topQ m prog fn w K) = X) (h : X) : oCall prog f args w K :=
  calls_of_sw (cf := ⟨m, false⟩) mixed hf hb hc (he.mpr h)
end Try
abbrev Try.n_types_Regions : FuncId := 18
instance : LdN Try.prog 25 5 := ⟨by kernel_rfl⟩
instance : SzT Try.prog 25 5 := ⟨by kernel_rfl⟩
abbrev Try.n_types_Alike : FuncId := 19
abbrev Try.n_types_Own : FuncId := 28
instance : ZrT Try.prog 25 [(.int .u8 0), (.bool false), (.int .i64 0), (.int .i64 0), (.slice none 0 0)] := ⟨by kernel_rfl⟩
instance : PStep Try.prog (Instr.build 25 #[]) (.agg #[(.int .u8 0), (.bool false), (.int .i64 0), (.int .i64 0), (.slice none 0 0)]) := .of fun _ k => p_build (by kernel_rfl) k
abbrev Try.n_types_may : FuncId := 38
abbrev Try.n_types_regions : FuncId := 39
instance : Ld1 Try.prog 26 := ⟨by kernel_rfl⟩
instance : SzT Try.prog 26 1 := ⟨by kernel_rfl⟩
instance : SlT Try.prog 26 3 1 := ⟨by kernel_rfl⟩
instance : Ld1 Try.prog 3 := ⟨by kernel_rfl⟩
instance : SzT Try.prog 3 1 := ⟨by kernel_rfl⟩
instance : ZrT Try.prog 26 [(.slice none 0 0)] := ⟨by kernel_rfl⟩
abbrev Try.n_types_alike : FuncId := 40
instance : FldT Try.prog 25 0 0 := ⟨by kernel_rfl⟩
instance : Ld1 Try.prog 22 := ⟨by kernel_rfl⟩
instance : FldT Try.prog 25 1 1 := ⟨by kernel_rfl⟩
instance : Ld1 Try.prog 4 := ⟨by kernel_rfl⟩
instance : SzT Try.prog 4 1 := ⟨by kernel_rfl⟩
instance : KdB Try.prog 4 := ⟨by kernel_rfl⟩
instance : FldT Try.prog 25 3 3 := ⟨by kernel_rfl⟩
instance : FldT Try.prog 25 2 2 := ⟨by kernel_rfl⟩
instance : FldT Try.prog 25 4 4 := ⟨by kernel_rfl⟩
instance : Ld1 Try.prog 23 := ⟨by kernel_rfl⟩
instance : SzT Try.prog 23 1 := ⟨by kernel_rfl⟩
instance : SlT Try.prog 23 25 5 := ⟨by kernel_rfl⟩
abbrev Try.n_types_Alike_1 : FuncId := 41
abbrev Try.n_types_own : FuncId := 57
abbrev Try.n_types_Structs : FuncId := 60
instance : Ld1 Try.prog 40 := ⟨by kernel_rfl⟩
instance : SlT Try.prog 40 84 2 := ⟨by kernel_rfl⟩
instance : ZrT Try.prog 3 [(.int .i64 0)] := ⟨by kernel_rfl⟩
instance : SlT Try.prog 130 78 1 := ⟨by kernel_rfl⟩
instance : Ld1 Try.prog 78 := ⟨by kernel_rfl⟩
abbrev Try.n_types_look : FuncId := 63
abbrev Try.n_types_walk : FuncId := 64
abbrev Try.n_types_regions_1 : FuncId := 65
instance : ApT Try.prog 26 3 1 8 := ⟨by kernel_rfl⟩
abbrev Try.n_types_Anew : FuncId := 68
abbrev Try.n_types_Structs_1 : FuncId := 71
instance : FldT Try.prog 84 1 1 := ⟨by kernel_rfl⟩
instance : Ld1 Try.prog 82 := ⟨by kernel_rfl⟩
instance : SlT Try.prog 82 122 6 := ⟨by kernel_rfl⟩
instance : LdN Try.prog 122 6 := ⟨by kernel_rfl⟩
instance : SzT Try.prog 122 6 := ⟨by kernel_rfl⟩
abbrev Try.n_types_Structs_1_1 : FuncId := 73
instance : FldT Try.prog 122 1 1 := ⟨by kernel_rfl⟩
abbrev Try.n_types_Structs_2 : FuncId := 74
abbrev Try.n_types_endless : FuncId := 75
instance : ArT Try.prog 151 32 4 1 := ⟨by kernel_rfl⟩
instance : ZrT Try.prog 151 [(.bool false), (.bool false), (.bool false), (.bool false), (.bool false), (.bool false), (.bool false), (.bool false), (.bool false), (.bool false), (.bool false), (.bool false), (.bool false), (.bool false), (.bool false), (.bool false), (.bool false), (.bool false), (.bool false), (.bool false), (.bool false), (.bool false), (.bool false), (.bool false), (.bool false), (.bool false), (.bool false), (.bool false), (.bool false), (.bool false), (.bool false), (.bool false)] := ⟨by kernel_rfl⟩
instance : ZrT Try.prog 122 [(.string ByteArray.empty), (.int .u8 0), (.bool false), (.int .i64 0), (.int .i64 0), (.slice none 0 0)] := ⟨by kernel_rfl⟩
abbrev Try.n_types_Structs_3 : FuncId := 76
abbrev Try.n_types_words : FuncId := 77
abbrev Try.n_types_first : FuncId := 78
abbrev Try.n_types_May : FuncId := 79
abbrev Try.n_types_Fields : FuncId := 89
instance : ApT Try.prog 23 25 5 48 := ⟨by kernel_rfl⟩
abbrev Try.n_types_Drops : FuncId := 90
abbrev Try.n_types_Anew_1 : FuncId := 93
abbrev Try.n_types_Anew_2 : FuncId := 94
abbrev Try.n_types_Copies : FuncId := 99
abbrev Try.n_types_drops : FuncId := 102
abbrev Try.n_types_drops_1 : FuncId := 106
abbrev Try.n_graph_May : FuncId := 17
instance : LdN Try.prog 43 3 := ⟨by kernel_rfl⟩
instance : SzT Try.prog 43 3 := ⟨by kernel_rfl⟩
abbrev Try.n_graph_Assigns : FuncId := 20
instance : LdN Try.prog 58 2 := ⟨by kernel_rfl⟩
instance : SzT Try.prog 58 2 := ⟨by kernel_rfl⟩
instance : ZrT Try.prog 58 [(.int .i64 0), (.slice none 0 0)] := ⟨by kernel_rfl⟩
instance : LdN Try.prog 64 21 := ⟨by kernel_rfl⟩
instance : SzT Try.prog 64 21 := ⟨by kernel_rfl⟩
instance : ZrT Try.prog 64 [(.int .u8 0), (.int .i64 0), (.slice none 0 0), (.int .u8 0), (.int .i64 0), (.int .i64 0), (.slice none 0 0), (.int .u8 0), (.int .i64 0), (.int .i64 0), (.slice none 0 0), (.slice none 0 0), (.string ByteArray.empty), (.int .i64 0), (.slice none 0 0), (.bool false), (.int .i64 0), (.int .i64 0), (.int .i64 0), (.int .i64 0), (.int .i64 0)] := ⟨by kernel_rfl⟩
instance : FldT Try.prog 64 0 0 := ⟨by kernel_rfl⟩
instance : Ld1 Try.prog 55 := ⟨by kernel_rfl⟩
instance : FldT Try.prog 64 1 1 := ⟨by kernel_rfl⟩
abbrev Try.n_graph_Type : FuncId := 22
instance : LdN Try.prog 53 7 := ⟨by kernel_rfl⟩
instance : SzT Try.prog 53 7 := ⟨by kernel_rfl⟩
instance : ZrT Try.prog 53 [(.string ByteArray.empty), (.int .i64 0), (.slice none 0 0), (.int .i64 0), (.slice none 0 0), (.slice none 0 0), (.slice none 0 0)] := ⟨by kernel_rfl⟩
instance : LdN Try.prog 99 7 := ⟨by kernel_rfl⟩
instance : SzT Try.prog 99 7 := ⟨by kernel_rfl⟩
instance : ZrT Try.prog 99 [(.int .u8 0), (.bool false), (.int .i64 0), (.int .i64 0), (.slice none 0 0), (.int .i64 0), (.bool false)] := ⟨by kernel_rfl⟩
instance : FldT Try.prog 99 2 6 := ⟨by kernel_rfl⟩
instance : FldT Try.prog 99 0 0 := ⟨by kernel_rfl⟩
abbrev Try.n_graph_Operands : FuncId := 25
instance : Ld1 Try.prog 62 := ⟨by kernel_rfl⟩
instance : SlT Try.prog 62 61 4 := ⟨by kernel_rfl⟩
instance : LdN Try.prog 61 4 := ⟨by kernel_rfl⟩
instance : SzT Try.prog 61 4 := ⟨by kernel_rfl⟩
abbrev Try.n_graph_Check : FuncId := 37
instance : FldT Try.prog 43 0 0 := ⟨by kernel_rfl⟩
instance : FldT Try.prog 43 1 1 := ⟨by kernel_rfl⟩
instance : Ld1 Try.prog 41 := ⟨by kernel_rfl⟩
instance : SlT Try.prog 41 53 7 := ⟨by kernel_rfl⟩
instance : FldT Try.prog 43 2 2 := ⟨by kernel_rfl⟩
instance : LdN Try.prog 101 10 := ⟨by kernel_rfl⟩
instance : SzT Try.prog 101 10 := ⟨by kernel_rfl⟩
instance : ZrT Try.prog 101 [(.slice none 0 0), (.slice none 0 0), (.int .i64 0), (.string ByteArray.empty), (.int .i64 0), (.slice none 0 0), (.int .i64 0), (.slice none 0 0), (.slice none 0 0), (.slice none 0 0)] := ⟨by kernel_rfl⟩
instance : FldT Try.prog 53 6 6 := ⟨by kernel_rfl⟩
instance : Ld1 Try.prog 51 := ⟨by kernel_rfl⟩
instance : SlT Try.prog 51 64 21 := ⟨by kernel_rfl⟩
abbrev Try.n_graph_point : FuncId := 42
abbrev Try.n_graph_ownPlace : FuncId := 43
instance : FldT Try.prog 58 0 0 := ⟨by kernel_rfl⟩
instance : FldT Try.prog 58 1 1 := ⟨by kernel_rfl⟩
instance : Ld1 Try.prog 56 := ⟨by kernel_rfl⟩
instance : SlT Try.prog 56 107 1 := ⟨by kernel_rfl⟩
instance : Ld1 Try.prog 107 := ⟨by kernel_rfl⟩
abbrev Try.n_graph_fn : FuncId := 46
abbrev Try.n_graph_asker_spot : FuncId := 47
instance : FldT Try.prog 101 1 3 := ⟨by kernel_rfl⟩
instance : FldT Try.prog 53 4 4 := ⟨by kernel_rfl⟩
instance : PStep Try.prog (Instr.build 99 #[]) (.agg #[(.int .u8 0), (.bool false), (.int .i64 0), (.int .i64 0), (.slice none 0 0), (.int .i64 0), (.bool false)]) := .of fun _ k => p_build (by kernel_rfl) k
instance {x0_0 : Value} {x0_1 : Value} {x0_2 : Value} {x0_3 : Value} {x0_4 : Value} {x2_0 : Bool} : PStep Try.prog (Instr.build 99 #[(0, .agg #[x0_0, x0_1, x0_2, x0_3, x0_4]), (2, .bool x2_0)]) (.agg #[x0_0, x0_1, x0_2, x0_3, x0_4, (.int .i64 0), .bool x2_0]) := .of fun _ k => p_build (by kernel_rfl) k
instance : FldT Try.prog 99 1 5 := ⟨by kernel_rfl⟩
instance : FldT Try.prog 101 0 0 := ⟨by kernel_rfl⟩
abbrev Try.n_graph_operands : FuncId := 52
instance : FldT Try.prog 64 2 3 := ⟨by kernel_rfl⟩
instance : FldT Try.prog 64 3 7 := ⟨by kernel_rfl⟩
instance : FldT Try.prog 64 4 11 := ⟨by kernel_rfl⟩
instance : ApT Try.prog 62 61 4 48 := ⟨by kernel_rfl⟩
abbrev Try.n_graph_ownOperand : FuncId := 53
instance : ZrT Try.prog 61 [(.int .u8 0), (.int .i64 0), (.int .i64 0), (.slice none 0 0)] := ⟨by kernel_rfl⟩
instance : FldT Try.prog 61 2 2 := ⟨by kernel_rfl⟩
abbrev Try.n_graph_head : FuncId := 61
instance : FldT Try.prog 53 1 1 := ⟨by kernel_rfl⟩
instance : FldT Try.prog 53 3 3 := ⟨by kernel_rfl⟩
instance : FldT Try.prog 53 5 5 := ⟨by kernel_rfl⟩
instance : Ld1 Try.prog 50 := ⟨by kernel_rfl⟩
instance : SlT Try.prog 50 9 1 := ⟨by kernel_rfl⟩
instance : Ld1 Try.prog 9 := ⟨by kernel_rfl⟩
abbrev Try.n_graph_asker_point : FuncId := 62
instance : FldT Try.prog 64 12 20 := ⟨by kernel_rfl⟩
instance : FldT Try.prog 64 10 18 := ⟨by kernel_rfl⟩
instance : FldT Try.prog 64 6 13 := ⟨by kernel_rfl⟩
instance {x0_0 : Bool} {x1_0 : Bool} : PStep Try.prog (Instr.build 142 #[(0, .bool x0_0), (1, .bool x1_0)]) (.agg #[.bool x0_0, .bool x1_0, (.bool false), (.bool false), (.bool false), (.bool false), (.bool false), (.bool false), (.bool false), (.bool false)]) := .of fun _ k => p_build (by kernel_rfl) k
instance {x0_0 : Bool} {x1_0 : Bool} {x2_0 : Bool} {x4_0 : Bool} : PStep Try.prog (Instr.build 142 #[(0, .bool x0_0), (1, .bool x1_0), (2, .bool x2_0), (4, .bool x4_0)]) (.agg #[.bool x0_0, .bool x1_0, .bool x2_0, (.bool false), .bool x4_0, (.bool false), (.bool false), (.bool false), (.bool false), (.bool false)]) := .of fun _ k => p_build (by kernel_rfl) k
instance : FldT Try.prog 64 5 12 := ⟨by kernel_rfl⟩
instance {x0_0 : Bool} {x1_0 : Bool} {x4_0 : Bool} : PStep Try.prog (Instr.build 142 #[(0, .bool x0_0), (1, .bool x1_0), (4, .bool x4_0)]) (.agg #[.bool x0_0, .bool x1_0, (.bool false), (.bool false), .bool x4_0, (.bool false), (.bool false), (.bool false), (.bool false), (.bool false)]) := .of fun _ k => p_build (by kernel_rfl) k
instance {x0_0 : Bool} {x5_0 : Bool} {x6_0 : Bool} : PStep Try.prog (Instr.build 142 #[(0, .bool x0_0), (5, .bool x5_0), (6, .bool x6_0)]) (.agg #[.bool x0_0, (.bool false), (.bool false), (.bool false), (.bool false), .bool x5_0, .bool x6_0, (.bool false), (.bool false), (.bool false)]) := .of fun _ k => p_build (by kernel_rfl) k
instance : FldT Try.prog 64 7 15 := ⟨by kernel_rfl⟩
instance {x0_0 : Bool} {x3_0 : Bool} {x8_0 : Bool} : PStep Try.prog (Instr.build 142 #[(0, .bool x0_0), (3, .bool x3_0), (8, .bool x8_0)]) (.agg #[.bool x0_0, (.bool false), (.bool false), .bool x3_0, (.bool false), (.bool false), (.bool false), (.bool false), .bool x8_0, (.bool false)]) := .of fun _ k => p_build (by kernel_rfl) k
instance : FldT Try.prog 64 9 17 := ⟨by kernel_rfl⟩
instance {x0_0 : Bool} {x3_0 : Bool} {x7_0 : Bool} : PStep Try.prog (Instr.build 142 #[(0, .bool x0_0), (3, .bool x3_0), (7, .bool x7_0)]) (.agg #[.bool x0_0, (.bool false), (.bool false), .bool x3_0, (.bool false), (.bool false), (.bool false), .bool x7_0, (.bool false), (.bool false)]) := .of fun _ k => p_build (by kernel_rfl) k
instance : FldT Try.prog 64 8 16 := ⟨by kernel_rfl⟩
instance {x0_0 : Bool} : PStep Try.prog (Instr.build 142 #[(0, .bool x0_0)]) (.agg #[.bool x0_0, (.bool false), (.bool false), (.bool false), (.bool false), (.bool false), (.bool false), (.bool false), (.bool false), (.bool false)]) := .of fun _ k => p_build (by kernel_rfl) k
instance {x1_0 : Bool} : PStep Try.prog (Instr.build 142 #[(1, .bool x1_0)]) (.agg #[(.bool false), .bool x1_0, (.bool false), (.bool false), (.bool false), (.bool false), (.bool false), (.bool false), (.bool false), (.bool false)]) := .of fun _ k => p_build (by kernel_rfl) k
instance {x5_0 : Bool} : PStep Try.prog (Instr.build 142 #[(5, .bool x5_0)]) (.agg #[(.bool false), (.bool false), (.bool false), (.bool false), (.bool false), .bool x5_0, (.bool false), (.bool false), (.bool false), (.bool false)]) := .of fun _ k => p_build (by kernel_rfl) k
instance {x1_0 : Bool} {x9_0 : Bool} : PStep Try.prog (Instr.build 142 #[(1, .bool x1_0), (9, .bool x9_0)]) (.agg #[(.bool false), .bool x1_0, (.bool false), (.bool false), (.bool false), (.bool false), (.bool false), (.bool false), (.bool false), .bool x9_0]) := .of fun _ k => p_build (by kernel_rfl) k
instance : FldT Try.prog 64 11 19 := ⟨by kernel_rfl⟩
instance : PStep Try.prog (Instr.build 142 #[]) (.agg #[(.bool false), (.bool false), (.bool false), (.bool false), (.bool false), (.bool false), (.bool false), (.bool false), (.bool false), (.bool false)]) := .of fun _ k => p_build (by kernel_rfl) k
abbrev Try.n_graph_operands_1 : FuncId := 70
instance : FldT Try.prog 61 0 0 := ⟨by kernel_rfl⟩
instance : Ld1 Try.prog 59 := ⟨by kernel_rfl⟩
abbrev Try.n_graph_head_1 : FuncId := 80
abbrev Try.n_graph_outlives : FuncId := 81
instance : ArT Try.prog 153 8 152 8 := ⟨by kernel_rfl⟩
instance : ZrT Try.prog 153 [(.bool false), (.bool false), (.bool false), (.bool false), (.bool false), (.bool false), (.bool false), (.bool false), (.bool false), (.bool false), (.bool false), (.bool false), (.bool false), (.bool false), (.bool false), (.bool false), (.bool false), (.bool false), (.bool false), (.bool false), (.bool false), (.bool false), (.bool false), (.bool false), (.bool false), (.bool false), (.bool false), (.bool false), (.bool false), (.bool false), (.bool false), (.bool false), (.bool false), (.bool false), (.bool false), (.bool false), (.bool false), (.bool false), (.bool false), (.bool false), (.bool false), (.bool false), (.bool false), (.bool false), (.bool false), (.bool false), (.bool false), (.bool false), (.bool false), (.bool false), (.bool false), (.bool false), (.bool false), (.bool false), (.bool false), (.bool false), (.bool false), (.bool false), (.bool false), (.bool false), (.bool false), (.bool false), (.bool false), (.bool false)] := ⟨by kernel_rfl⟩
instance : FldT Try.prog 53 2 2 := ⟨by kernel_rfl⟩
instance : Ld1 Try.prog 49 := ⟨by kernel_rfl⟩
instance : SlT Try.prog 49 157 2 := ⟨by kernel_rfl⟩
instance : LdN Try.prog 157 2 := ⟨by kernel_rfl⟩
instance : SzT Try.prog 157 2 := ⟨by kernel_rfl⟩
instance : ZrT Try.prog 157 [(.int .i64 0), (.int .i64 0)] := ⟨by kernel_rfl⟩
instance : FldT Try.prog 157 0 0 := ⟨by kernel_rfl⟩
instance : FldT Try.prog 157 1 1 := ⟨by kernel_rfl⟩
instance : ArT Try.prog 152 8 4 1 := ⟨by kernel_rfl⟩
abbrev Try.n_graph_asker_point_1 : FuncId := 82
abbrev Try.n_graph_asker_operand : FuncId := 83
instance {x0_0 : Int} : PStep Try.prog (Instr.build 25 #[(0, .int .u8 x0_0)]) (.agg #[.int .u8 x0_0, (.bool false), (.int .i64 0), (.int .i64 0), (.slice none 0 0)]) := .of fun _ k => p_build (by kernel_rfl) k
instance : FldT Try.prog 61 1 1 := ⟨by kernel_rfl⟩
instance : Ld1 Try.prog 2 := ⟨by kernel_rfl⟩
abbrev Try.n_graph_asker_point_2 : FuncId := 84
abbrev Try.n_graph_asker_point_3 : FuncId := 85
abbrev Try.n_graph_asker_point_3_1 : FuncId := 87
abbrev Try.n_graph_rest : FuncId := 88
instance : FldT Try.prog 142 0 0 := ⟨by kernel_rfl⟩
instance : FldT Try.prog 142 1 1 := ⟨by kernel_rfl⟩
instance : FldT Try.prog 142 2 2 := ⟨by kernel_rfl⟩
instance : FldT Try.prog 142 3 3 := ⟨by kernel_rfl⟩
instance : FldT Try.prog 142 4 4 := ⟨by kernel_rfl⟩
instance : FldT Try.prog 142 5 5 := ⟨by kernel_rfl⟩
instance : FldT Try.prog 142 6 6 := ⟨by kernel_rfl⟩
instance : FldT Try.prog 142 7 7 := ⟨by kernel_rfl⟩
instance : FldT Try.prog 142 8 8 := ⟨by kernel_rfl⟩
instance : FldT Try.prog 142 9 9 := ⟨by kernel_rfl⟩
abbrev Try.n_graph_implied : FuncId := 97
instance : Ld1 Try.prog 162 := ⟨by kernel_rfl⟩
instance : SzT Try.prog 162 1 := ⟨by kernel_rfl⟩
instance : ZrT Try.prog 162 [.nilFunc] := ⟨by kernel_rfl⟩
abbrev Try.n_graph_zero : FuncId := 98
abbrev Try.n_graph_rest_1 : FuncId := 100
abbrev Try.n_graph_implied_1 : FuncId := 104
instance : Ld1 Try.prog 155 := ⟨by kernel_rfl⟩
abbrev Try.n_region_Turn : FuncId := 8
abbrev Try.n_region_Erase : FuncId := 12
abbrev Try.n_region_Of : FuncId := 16
instance : LdN Try.prog 46 5 := ⟨by kernel_rfl⟩
instance : SzT Try.prog 46 5 := ⟨by kernel_rfl⟩
instance : ZrT Try.prog 46 [(.int .i64 0), (.int .i64 0), (.int .i64 0), (.slice none 0 0), (.slice none 0 0)] := ⟨by kernel_rfl⟩
abbrev Try.n_region_Place : FuncId := 21
instance : FldT Try.prog 46 3 3 := ⟨by kernel_rfl⟩
abbrev Try.n_region_Borrowed : FuncId := 23
instance : FldT Try.prog 46 4 4 := ⟨by kernel_rfl⟩
abbrev Try.n_region_Called : FuncId := 24
abbrev Try.n_region_Width : FuncId := 27
instance : FldT Try.prog 46 1 1 := ⟨by kernel_rfl⟩
instance : FldT Try.prog 46 0 0 := ⟨by kernel_rfl⟩
abbrev Try.n_region_Turn_1 : FuncId := 30
abbrev Try.n_region_raw : FuncId := 31
abbrev Try.n_region_Turn_2 : FuncId := 32
abbrev Try.n_region_Erase_1 : FuncId := 33
abbrev Try.n_region_few : FuncId := 35
instance : FldT Try.prog 46 2 2 := ⟨by kernel_rfl⟩
abbrev Try.n_region_all : FuncId := 36
abbrev Try.n_place_May : FuncId := 44
abbrev Try.n_place_Type : FuncId := 45
abbrev Try.n_region_at : FuncId := 48
abbrev Try.n_region_Called_1 : FuncId := 49
abbrev Try.n_region_turned : FuncId := 50
abbrev Try.n_region_Called_1_1 : FuncId := 51
abbrev Try.n_region_all_1 : FuncId := 59
abbrev Try.n_place_walk : FuncId := 67
abbrev Try.n_place_walk_1 : FuncId := 92
abbrev Try.n_law13_RegionShapes : FuncId := 5
abbrev Try.n_law13_awake : FuncId := 7
instance : ZrT Try.prog 43 [(.slice none 0 0), (.slice none 0 0), (.int .i64 0)] := ⟨by kernel_rfl⟩
abbrev Try.n_law13_fits : FuncId := 15
abbrev Try.n_law13_hand : FuncId := 26
instance : ApT Try.prog 50 9 1 16 := ⟨by kernel_rfl⟩
instance : ZrT Try.prog 9 [(.string ByteArray.empty)] := ⟨by kernel_rfl⟩
abbrev Try.n_law13_i64 : FuncId := 54
abbrev Try.n_law13_ref : FuncId := 55
abbrev Try.n_law13_con : FuncId := 56
abbrev Try.n_slices_ContainsFunc_int_int : FuncId := 29
abbrev Try.n_slices_IndexFunc_int_int : FuncId := 58
abbrev Try.n_slices_Clone_api_Step_api_Step : FuncId := 66
instance : ApT Try.prog 56 107 1 8 := ⟨by kernel_rfl⟩
abbrev Try.n_slices_DeleteFunc_api_Operand_api_Operand : FuncId := 69
abbrev Try.n_slices_ContainsFunc_api_Field_api_Field : FuncId := 72
abbrev Try.n_slices_EqualFunc_api_Operand_api_Type_api_Operand_api_Type : FuncId := 86
abbrev Try.n_slices_ContainsFunc_api_Type_api_Type : FuncId := 91
abbrev Try.n_slices_IndexFunc_api_Operand_api_Operand : FuncId := 95
abbrev Try.n_slices_IndexFunc_api_Field_api_Field : FuncId := 96
abbrev Try.n_slices_Contains_bool_bool : FuncId := 101
abbrev Try.n_slices_IndexFunc_api_Type_api_Type : FuncId := 103
abbrev Try.n_slices_Index_bool_bool : FuncId := 105
instance : SlT Try.prog 159 4 1 := ⟨by kernel_rfl⟩

end Go.Proofs
end

section
namespace Go.Proofs.Try
open Go.Sh
set_option maxRecDepth 100000
/- 17: loanword/graph.May -/
def F_graph_May (t0 : Value) (w : World) (K : VW) : Prop :=
 pw w (Instr.box 43 t0) fun t1 w1 =>
 lo w1 43 t1 fun t7 => ca n_graph_Check #[t7] w1 fun t8 w2 =>
 pe t8 0 fun _t9 => pe t8 1 fun _t10 => pe t8 2 fun t11 => bt .eql 29 t11 (i6 0) fun t13 => K t13 w2
theorem ok_graph_May {t0 : Value} {w : World} {K : VW} (h : F_graph_May t0 w K) : oCall prog n_graph_May #[t0] w K :=
  okC false (.s (.r (rz 2 0 2)) (.s (.r (rz 9 0 9)) (.s (.r (rz 3 0 0)) (.n)))) func17 rfl (by kernel_rfl) (by kernel_rfl) h

/- 20: loanword/graph.Assigns -/
def F_graph_Assigns (t0 t1 t2 : Value) (w : World) (K : VW) : Prop :=
 pw w (Instr.box 43 t0) fun t3 w1 =>
 pw w1 (Instr.alloc 58 true (.tuple #[])) fun t6 w2 =>
 lo w2 43 t3 fun t11 => ca n_graph_point #[t11, t1, t2] w2 fun t14 w3 =>
 pe t14 0 fun t15 => pe t14 1 fun t16 => pw w3 (Instr.alloc 64 true (.tuple #[])) fun t9 w4 =>
 so w4 64 t9 t15 fun w5 => bt .neq 29 t16 (i6 0) fun t18 => sJoin (fun K6 => gIf t18 false (fl w5 t9 64 0 55 fun t21 => bt .lss 55 t21 (Value.int .u8 1) fun t22 => K6 [t22] w5) (K6 [undef] w5)) (fun s7 _d8 w9 =>
 oPick t18 tr_ (s7.getD 0 undef) fun t23 => sJoin (fun K10 => gIf t23 false (fl w9 t9 64 0 55 fun t26 => bt .gtr 55 t26 (Value.int .u8 8) fun t27 => K10 [t27] w9) (K10 [undef] w9)) (fun s11 _d12 w13 =>
 oPick t23 tr_ (s11.getD 0 undef) fun t28 => oCond t28 (lo w13 58 t6 fun t29 => so w13 58 t6 t29 fun w14 => pq w14 (cellSem 58 t6) fun r15 => K (.tuple #[r15, fa_, t16]) w14) (fl w13 t9 64 1 58 fun t32 => ca n_graph_ownPlace #[t32] w13 fun t33 w16 =>
 so w16 58 t6 t33 fun w17 => pq w17 (cellSem 58 t6) fun r18 => K (.tuple #[r18, tr_, (i6 0)]) w17)))
theorem ok_graph_Assigns {t0 t1 t2 : Value} {w : World} {K : VW} (h : F_graph_Assigns t0 t1 t2 w K) : oCall prog n_graph_Assigns #[t0, t1, t2] w K :=
  okC false (.s (.r (rz 4 0 10)) (.s (.r (rz 10 0 163969)) (.s (.s (.r (ra 3 0 0 (.grp 19 false (ri 3 3 4) [22] (ra 2 6 0 (.grp 24 false (ri 3 8 4) [27] (rz 1 11 0)))))) (.c (.s (.r (rz 5 0 33)) (.n)) (.n))) (.s (.r (rz 6 0 164)) (.n))))) func20 rfl (by kernel_rfl) (by kernel_rfl) h

/- 22: loanword/graph.Type -/
def F_graph_Type (t0 t1 t2 : Value) (w : World) (K : VW) : Prop :=
 pw w (Instr.box 43 t0) fun t3 w1 =>
 pw w1 (Instr.box 58 t2) fun t5 w2 =>
 pw w2 (Instr.alloc 25 true (.tuple #[])) fun t6 w3 =>
 lo w3 43 t3 fun t12 => ca n_graph_fn #[t12, t1] w3 fun t14 w4 =>
 pe t14 0 fun t15 => pe t14 1 fun t16 => pw w4 (Instr.alloc 53 true (.tuple #[])) fun t8 w5 =>
 so w5 53 t8 t15 fun w6 => bt .neq 29 t16 (i6 0) fun t18 => oCond t18 (pp (Instr.build 25 #[]) fun t19 => so w6 25 t6 t19 fun w7 => pq w7 (cellSem 25 t6) fun r8 => K (.tuple #[r8, t16]) w7) (lo w6 43 t3 fun t21 => lo w6 53 t8 fun t22 => pp (Instr.build 101 #[(0, t21), (1, t22)]) fun t23 => lo w6 58 t5 fun t24 => ca n_graph_asker_spot #[t23, t24] w6 fun t25 w9 =>
 pw w9 (Instr.alloc 99 true (.tuple #[])) fun t10 w10 =>
 so w10 99 t10 t25 fun w11 => fl w11 t10 99 2 4 fun t27 => pp (Op.unary .not t27) fun t28 => oCond t28 (pp (Instr.build 25 #[]) fun t29 => so w11 25 t6 t29 fun w12 => pq w12 (cellSem 25 t6) fun r13 => K (.tuple #[r13, (i6 2)]) w12) (fl w11 t10 99 0 25 fun t31 => ca n_types_Own #[t31] w11 fun t32 w14 =>
 pe t32 0 fun t33 => pe t32 1 fun t34 => so w14 25 t6 t33 fun w15 => pq w15 (cellSem 25 t6) fun r16 => K (.tuple #[r16, t34]) w15))
theorem ok_graph_Type {t0 t1 t2 : Value} {w : World} {K : VW} (h : F_graph_Type t0 t1 t2 w K) : oCall prog n_graph_Type #[t0, t1, t2] w K :=
  okC false (.s (.r (rz 4 0 42)) (.s (.r (rz 9 0 40993)) (.s (.s (.r (rz 2 0 0)) (.c (.s (.r (rz 4 0 32)) (.n)) (.n))) (.s (.r (rz 7 0 10821)) (.s (.s (.r (rz 3 0 4)) (.c (.s (.r (rz 3 0 8)) (.n)) (.n))) (.s (.r (rz 7 0 2084)) (.n))))))) func22 rfl (by kernel_rfl) (by kernel_rfl) h

/- 25: loanword/graph.Operands -/
def F_graph_Operands (t0 t1 t2 : Value) (w : World) (K : VW) : Prop :=
 pw w (Instr.box 43 t0) fun t3 w1 =>
 lo w1 43 t3 fun t13 => ca n_graph_point #[t13, t1, t2] w1 fun t16 w2 =>
 pe t16 0 fun t17 => pe t16 1 fun t18 => pw w2 (Instr.alloc 64 true (.tuple #[])) fun t8 w3 =>
 so w3 64 t8 t17 fun w4 => bt .neq 29 t18 (i6 0) fun t20 => oCond t20 (K (.tuple #[(Value.slice Option.none 0 0), t18]) w4) (lo w4 64 t8 fun t22 => ca n_graph_operands #[t22] w4 fun t23 w5 =>
 pp (Builtin.len_ #[62] 3 #[t23]) fun t25 => sLoop [(i6 0)] w5 (fun s7 _d8 w9 K6 =>
 bf .lss 3 (s7.getD 0 undef) t25 fun t27 => oCond t27 (xl w9 62 t23 (s7.getD 0 undef) 61 fun t34 => ca n_graph_ownOperand #[t34] w9 fun t35 w10 =>
 px 62 t23 (s7.getD 0 undef) fun t36 => so w10 61 t36 t35 fun w11 => bt .add 3 (s7.getD 0 undef) (i6 1) fun t37 => K6 [t37] w11) (K (.tuple #[t23, t18]) w9)))
theorem ok_graph_Operands {t0 t1 t2 : Value} {w : World} {K : VW} (h : F_graph_Operands t0 t1 t2 w K) : oCall prog n_graph_Operands #[t0, t1, t2] w K :=
  okC false (.s (.r (rz 3 0 2)) (.s (.r (rz 10 0 163969)) (.s (.s (.r (rz 2 0 0)) (.c (.s (.r (rz 3 0 0)) (.n)) (.n))) (.s (.r (rz 3 0 9)) (.s (.s (.r (rz 3 0 0)) (.b (.lp [26] (.s (.r (rz 1 0 0)) (.s (.c (.n) (.n)) (.s (.b (.s (.r (rz 2 0 0)) (.r (rz 9 0 140288)))) (.r (rz 2 0 0)))))))) (.s (.r (rz 4 0 0)) (.n))))))) func25 rfl (by kernel_rfl) (by kernel_rfl) h

/- 37: loanword/graph.Check -/
def F_graph_Check (t0 : Value) (w : World) (K : VW) : Prop :=
 pw w (Instr.box 43 t0) fun t1 w1 =>
 fl w1 t1 43 0 40 fun t15 => ca n_types_Structs #[t15] w1 fun t16 w2 =>
 pe t16 0 fun _t17 => pe t16 1 fun t18 => bt .neq 29 t18 (i6 0) fun t20 => sJoin (fun K3 => gIf t20 false (fl w2 t1 43 1 41 fun t23 => pp (Builtin.len_ #[41] 3 #[t23]) fun t24 => bt .lss 3 t24 (i6 1) fun t25 => K3 [t25] w2) (K3 [undef] w2)) (fun s4 _d5 w6 =>
 oPick t20 tr_ (s4.getD 0 undef) fun t26 => sJoin (fun K7 => gIf t26 false (fl w6 t1 43 1 41 fun t29 => pp (Builtin.len_ #[41] 3 #[t29]) fun t30 => bt .gtr 3 t30 (i6 32) fun t31 => K7 [t31] w6) (K7 [undef] w6)) (fun s8 _d9 w10 =>
 oPick t26 tr_ (s8.getD 0 undef) fun t32 => sJoin (fun K11 => gIf t32 false (fl w10 t1 43 2 3 fun t35 => bt .lss 3 t35 (i6 0) fun t36 => K11 [t36] w10) (K11 [undef] w10)) (fun s12 _d13 w14 =>
 oPick t32 tr_ (s12.getD 0 undef) fun t37 => sJoin (fun K15 => gIf t37 false (fl w14 t1 43 2 3 fun t40 => fl w14 t1 43 1 41 fun t42 => pp (Builtin.len_ #[41] 3 #[t42]) fun t43 => bf .geq 3 t40 t43 fun t44 => K15 [t44] w14) (K15 [undef] w14)) (fun s16 _d17 w18 =>
 oPick t37 tr_ (s16.getD 0 undef) fun t45 => oCond t45 (K (.tuple #[(i6 (-1)), (i6 (-1)), (i6 100)]) w18) (fl w18 t1 43 1 41 fun t47 => pp (Builtin.len_ #[41] 3 #[t47]) fun t48 => sLoop [(i6 0), (i6 0), (i6 0)] w18 (fun s20 _d21 w22 K19 =>
 bf .lss 3 (s20.getD 2 undef) t48 fun t50 => oCond t50 (lo w22 43 t1 fun t52 => ca n_graph_head #[t52, (s20.getD 2 undef)] w22 fun t54 w23 =>
 pp (Op.unary .not t54) fun t55 => oCond t55 (K (.tuple #[(s20.getD 2 undef), (i6 (-1)), (i6 100)]) w23) (bt .add 3 (s20.getD 2 undef) (i6 1) fun t57 => K19 [(s20.getD 2 undef), (s20.getD 1 undef), t57] w23)) (sJoin (fun K24 =>
 fl w22 t1 43 1 41 fun t59 => pp (Builtin.len_ #[41] 3 #[t59]) fun t60 => sLoop [(s20.getD 0 undef), (s20.getD 1 undef), fa_, (i6 0)] w22 (fun s29 _d30 w31 K28 =>
 bf .lss 3 (s29.getD 3 undef) t60 fun t62 => oCond t62 (xl w31 41 t59 (s29.getD 3 undef) 53 fun t65 => pw w31 (Instr.alloc 53 true (.tuple #[])) fun t9 w32 =>
 so w32 53 t9 t65 fun w33 => lo w33 43 t1 fun t66 => lo w33 53 t9 fun t67 => pp (Instr.build 101 #[(0, t66), (1, t67)]) fun t68 => pw w33 (Instr.alloc 101 true (.tuple #[])) fun t10 w34 =>
 so w34 101 t10 t68 fun w35 => fl w35 t9 53 6 51 fun t70 => pp (Builtin.len_ #[51] 3 #[t70]) fun t71 => sLoop [(s29.getD 0 undef), (s29.getD 1 undef), (s29.getD 2 undef), (i6 0)] w35 (fun s37 _d38 w39 K36 =>
 bf .lss 3 (s37.getD 3 undef) t71 fun t73 => oCond t73 (xl w39 51 t70 (s37.getD 3 undef) 64 fun t76 => pw w39 (Instr.alloc 64 true (.tuple #[])) fun t12 w40 =>
 so w40 64 t12 t76 fun w41 => lo w41 101 t10 fun t77 => lo w41 64 t12 fun t78 => ca n_graph_asker_point #[t77, t78] w41 fun t79 w42 =>
 pp (Op.unary .not t79) fun t80 => oCond t80 (K24 [(s29.getD 3 undef), (s37.getD 3 undef), tr_] w42) (bt .add 3 (s37.getD 3 undef) (i6 1) fun t83 => K36 [(s37.getD 0 undef), (s37.getD 1 undef), (s37.getD 2 undef), t83] w42)) (bt .add 3 (s29.getD 3 undef) (i6 1) fun t84 => K28 [(s37.getD 0 undef), (s37.getD 1 undef), (s37.getD 2 undef), t84] w39))) (K24 [(s29.getD 0 undef), (s29.getD 1 undef), (s29.getD 2 undef)] w31))) (fun s25 _d26 w27 =>
 oCond (s25.getD 2 undef) (K (.tuple #[(s25.getD 0 undef), (s25.getD 1 undef), (i6 100)]) w27) (K (.tuple #[(i6 0), (i6 0), (i6 0)]) w27)))))))))
theorem ok_graph_Check {t0 : Value} {w : World} {K : VW} (h : F_graph_Check t0 w K) : oCall prog n_graph_Check #[t0] w K :=
  okC false (.s (.r (rz 4 0 2)) (.b (.s (.s (.r (rz 8 0 36)) (.s (.r (ra 3 0 0 (.grp 21 false (ri 4 3 4) [25] (ra 2 7 0 (.grp 27 false (ri 4 9 4) [31] (ra 2 13 0 (.grp 33 false (ri 3 15 4) [36] (ra 2 18 0 (.grp 38 false (ri 6 20 68) [44] (rz 1 26 0)))))))))) (.c (.s (.r (rz 3 0 0)) (.n)) (.n)))) (.s (.s (.r (rz 4 0 4)) (.b (.lp [2, 3, 49] (.s (.r (rz 1 0 0)) (.s (.c (.n) (.n)) (.s (.b (.s (.r (rz 2 0 0)) (.s (.r (rz 4 0 33)) (.c (.s (.r (rz 4 0 0)) (.n)) (.n))))) (.r (rz 2 0 0)))))))) (.s (.r (rz 1 0 0)) (.s (.n) (.j [2, 3, 7] (.s (.r (rz 4 0 4)) (.b (.lp [2, 3, 7, 61] (.s (.r (rz 1 0 0)) (.s (.c (.n) (.n)) (.s (.b (.s (.r (rz 6 0 2192)) (.s (.r (rz 5 0 645)) (.s (.r (rz 4 0 4)) (.b (.lp [2, 3, 7, 72] (.s (.r (rz 1 0 0)) (.s (.c (.n) (.n)) (.s (.b (.s (.r (rz 6 0 2192)) (.s (.r (rz 4 0 37)) (.c (.s (.r (rz 5 0 0)) (.n)) (.n))))) (.r (rz 2 0 0))))))))))) (.r (rz 2 0 0)))))))) (.s (.s (.r (rz 1 0 0)) (.c (.s (.r (rz 5 0 0)) (.n)) (.n))) (.s (.r (rz 3 0 0)) (.n)))))))))) func37 rfl (by kernel_rfl) (by kernel_rfl) h

/- 42: loanword/graph.point -/
def F_graph_point (t0 t1 t2 : Value) (w : World) (K : VW) : Prop :=
 pw w (Instr.box 43 t0) fun t3 w1 =>
 pw w1 (Instr.alloc 64 true (.tuple #[])) fun t6 w2 =>
 lo w2 43 t3 fun t11 => ca n_graph_fn #[t11, t1] w2 fun t13 w3 =>
 pe t13 0 fun t14 => pe t13 1 fun t15 => pw w3 (Instr.alloc 53 true (.tuple #[])) fun t8 w4 =>
 so w4 53 t8 t14 fun w5 => bt .neq 29 t15 (i6 0) fun t17 => sJoin (fun K6 => gIf t17 false (bt .lss 3 t2 (i6 0) fun t20 => K6 [t20] w5) (K6 [undef] w5)) (fun s7 _d8 w9 =>
 oPick t17 tr_ (s7.getD 0 undef) fun t21 => sJoin (fun K10 => gIf t21 false (fl w9 t8 53 6 51 fun t25 => pp (Builtin.len_ #[51] 3 #[t25]) fun t26 => bf .geq 3 t2 t26 fun t27 => K10 [t27] w9) (K10 [undef] w9)) (fun s11 _d12 w13 =>
 oPick t21 tr_ (s11.getD 0 undef) fun t28 => oCond t28 (pp (Instr.build 64 #[]) fun t29 => so w13 64 t6 t29 fun w14 => pq w14 (cellSem 64 t6) fun r15 => K (.tuple #[r15, (i6 2)]) w14) (fl w13 t8 53 6 51 fun t31 => xl w13 51 t31 t2 64 fun t34 => so w13 64 t6 t34 fun w16 => pq w16 (cellSem 64 t6) fun r17 => K (.tuple #[r17, (i6 0)]) w16)))
theorem ok_graph_point {t0 t1 t2 : Value} {w : World} {K : VW} (h : F_graph_point t0 t1 t2 w K) : oCall prog n_graph_point #[t0, t1, t2] w K :=
  okC false (.s (.r (rz 3 0 10)) (.s (.r (rz 9 0 40993)) (.s (.s (.r (ra 3 0 0 (.grp 18 false (ri 2 3 0) [20] (ra 2 5 0 (.grp 22 false (ri 5 7 16) [27] (rz 1 12 0)))))) (.c (.s (.r (rz 3 0 8)) (.n)) (.n))) (.s (.r (rz 7 0 2308)) (.n))))) func42 rfl (by kernel_rfl) (by kernel_rfl) h

/- 43: loanword/graph.ownPlace -/
def F_graph_ownPlace (t0 : Value) (w : World) (K : VW) : Prop :=
 pw w (Instr.box 58 t0) fun t1 w1 =>
 pw w1 (Instr.alloc 58 true (.tuple #[])) fun t2 w2 =>
 fl w2.drew t1 58 0 3 fun t4 => fl w2.drew t1 58 1 56 fun t6 => ca n_slices_Clone_api_Step_api_Step #[t6] w2.drew fun t7 w3 =>
 Ext w2.drew w3 ∧
 pp (Instr.build 58 #[(0, t4), (1, t7)]) fun t8 => so w3 58 t2 t8 fun w4 => pq w4 (cellSem 58 t2) fun r5 => K r5 w4
theorem ok_graph_ownPlace {t0 : Value} {w : World} {K : VW} (h : F_graph_ownPlace t0 w K) : oCall prog n_graph_ownPlace #[t0] w K :=
  okC false (.s (.r (rz 2 0 10)) (.s (.r (rz 7 0 9028)) (.n))) func43 rfl (by kernel_rfl) (by kernel_rfl) h

/- 46: loanword/graph.fn -/
def F_graph_fn (t0 t1 : Value) (w : World) (K : VW) : Prop :=
 pw w (Instr.box 43 t0) fun t2 w1 =>
 pw w1 (Instr.alloc 53 true (.tuple #[])) fun t4 w2 =>
 bt .lss 3 t1 (i6 0) fun t7 => sJoin (fun K3 => gIf t7 false (fl w2 t2 43 1 41 fun t11 => pp (Builtin.len_ #[41] 3 #[t11]) fun t12 => bf .geq 3 t1 t12 fun t13 => K3 [t13] w2) (K3 [undef] w2)) (fun s4 _d5 w6 =>
 oPick t7 tr_ (s4.getD 0 undef) fun t14 => sJoin (fun K7 => gIf t14 false (lo w6 43 t2 fun t16 => ca n_graph_May #[t16] w6 fun t17 w11 =>
 pp (Op.unary .not t17) fun t18 => K7 [t18] w11) (K7 [undef] w6)) (fun s8 _d9 w10 =>
 oPick t14 tr_ (s8.getD 0 undef) fun t19 => oCond t19 (pp (Instr.build 53 #[]) fun t20 => so w10 53 t4 t20 fun w12 => pq w12 (cellSem 53 t4) fun r13 => K (.tuple #[r13, (i6 2)]) w12) (fl w10 t2 43 1 41 fun t22 => xl w10 41 t22 t1 53 fun t25 => so w10 53 t4 t25 fun w14 => pq w14 (cellSem 53 t4) fun r15 => K (.tuple #[r15, (i6 0)]) w14)))
theorem ok_graph_fn {t0 t1 : Value} {w : World} {K : VW} (h : F_graph_fn t0 t1 w K) : oCall prog n_graph_fn #[t0, t1] w K :=
  okC false (.s (.r (rz 3 0 10)) (.s (.s (.r (ra 3 0 0 (.grp 8 false (ri 5 3 16) [13] (ra 2 8 0 (.grp 15 false (ri 3 10 9) [18] (rz 1 13 0)))))) (.c (.s (.r (rz 3 0 8)) (.n)) (.n))) (.s (.r (rz 7 0 2308)) (.n)))) func46 rfl (by kernel_rfl) (by kernel_rfl) h

/- 47: (loanword/graph.asker).spot -/
def F_graph_asker_spot (t0 t1 : Value) (w : World) (K : VW) : Prop :=
 pw w (Instr.box 101 t0) fun t2 w1 =>
 pw w1 (Instr.box 58 t1) fun t3 w2 =>
 pw w2 (Instr.alloc 99 true (.tuple #[])) fun t4 w3 =>
 fl w3 t3 58 0 3 fun t11 => bt .lss 3 t11 (i6 0) fun t12 => sJoin (fun K4 => gIf t12 false (fl w3 t3 58 0 3 fun t15 => pf 101 t2 1 fun t16 => fl w3 t16 53 4 23 fun t18 => pp (Builtin.len_ #[23] 3 #[t18]) fun t19 => bf .geq 3 t15 t19 fun t20 => K4 [t20] w3) (K4 [undef] w3)) (fun s5 _d6 w7 =>
 oPick t12 tr_ (s5.getD 0 undef) fun t21 => oCond t21 (pp (Instr.build 99 #[]) fun t22 => so w7 99 t4 t22 fun w8 => pq w8 (cellSem 99 t4) fun r9 => K r9 w8) (pf 101 t2 1 fun t23 => fl w7.drew t23 53 4 23 fun t25 => fl w7.drew t3 58 0 3 fun t27 => xl w7.drew 23 t25 t27 25 fun t29 => fl w7.drew t3 58 1 56 fun t31 => pp (Builtin.len_ #[56] 3 #[t31]) fun t32 => bt .leq 3 t32 (i6 8) fun t33 => pp (Instr.build 99 #[(0, t29), (2, t33)]) fun t34 => pw w7.drew (Instr.alloc 99 true (.tuple #[])) fun t5 w10 =>
 Ext w7.drew w10 ∧
 so w10 99 t5 t34 fun w11 => fl w11 t3 58 1 56 fun t36 => pp (Builtin.len_ #[56] 3 #[t36]) fun t37 => sLoop [(i6 0)] w11 (fun s13 _d14 w15 K12 =>
 bf .lss 3 (s13.getD 0 undef) t37 fun t39 => oCond t39 (sJoin (fun K16 =>
 xl w15 56 t36 (s13.getD 0 undef) 107 fun t41 => fl w15 t5 99 0 25 fun t43 => pw w15 (Instr.alloc 25 true (.tuple #[])) fun t8 w20 =>
 so w20 25 t8 t43 fun w21 => bt .eql 107 t41 (i6 (-1)) fun t47 => sJoin (fun K22 => gIf t47 true (fl w21 t8 25 0 22 fun t50 => bt .eql 22 t50 (Value.int .u8 3) fun t51 => K22 [t51] w21) (K22 [undef] w21)) (fun s23 _d24 w25 =>
 oPick t47 (s23.getD 0 undef) fa_ fun t52 => oCond t52 (fl w25 t5 99 1 3 fun t54 => pp (Builtin.max_ #[3, 3] 3 #[t54, (i6 1)]) fun t55 => pf 99 t5 1 fun t56 => so w25 3 t56 t55 fun w26 => fl w26 t8 25 4 23 fun t58 => xl w26 23 t58 (i6 0) 25 fun t60 => pf 99 t5 0 fun t61 => so w26 25 t61 t60 fun w27 => K16 [] w27) (bt .eql 107 t41 (i6 (-1)) fun t64 => sJoin (fun K28 => gIf t64 true (fl w25 t8 25 0 22 fun t67 => bt .eql 22 t67 (Value.int .u8 4) fun t68 => K28 [t68] w25) (K28 [undef] w25)) (fun s29 _d30 w31 =>
 oPick t64 (s29.getD 0 undef) fa_ fun t69 => oCond t69 (sJoin (fun K32 =>
 fl w31 t8 25 1 4 fun t71 => oCond t71 (K32 [(i6 2)] w31) (K32 [(i6 3)] w31)) (fun s33 _d34 w35 =>
 fl w35 t5 99 1 3 fun t73 => pp (Builtin.max_ #[3, 3] 3 #[t73, (s33.getD 0 undef)]) fun t75 => pf 99 t5 1 fun t76 => so w35 3 t76 t75 fun w36 => fl w36 t8 25 4 23 fun t78 => xl w36 23 t78 (i6 0) 25 fun t80 => pf 99 t5 0 fun t81 => so w36 25 t81 t80 fun w37 => K16 [] w37)) (bt .geq 107 t41 (i6 0) fun t84 => sJoin (fun K38 => gIf t84 true (fl w31 t8 25 0 22 fun t87 => bt .eql 22 t87 (Value.int .u8 5) fun t88 => K38 [t88] w31) (K38 [undef] w31)) (fun s39 _d40 w41 =>
 oPick t84 (s39.getD 0 undef) fa_ fun t89 => sJoin (fun K42 => gIf t89 true (pf 101 t2 0 fun t92 => fl w41 t92 43 0 40 fun t94 => fl w41 t8 25 3 3 fun t96 => px 40 t94 t96 fun t97 => fl w41 t97 84 1 82 fun t99 => pp (Builtin.len_ #[82] 3 #[t99]) fun t100 => bf .lss 3 t41 t100 fun t101 => K42 [t101] w41) (K42 [undef] w41)) (fun s43 _d44 w45 =>
 oPick t89 (s43.getD 0 undef) fa_ fun t102 => oCond t102 (pf 101 t2 0 fun t103 => fl w45 t103 43 0 40 fun t105 => fl w45 t8 25 3 3 fun t107 => px 40 t105 t107 fun t108 => fl w45 t108 84 1 82 fun t110 => px 82 t110 t41 fun t112 => fl w45 t112 122 1 25 fun t114 => pf 99 t5 0 fun t115 => so w45 25 t115 t114 fun w46 => K16 [] w46) (pp (Instr.build 99 #[]) fun t44 => so w45 99 t4 t44 fun w47 => pq w47 (cellSem 99 t4) fun r48 => K r48 w47)))))))) (fun _s17 _d18 w19 =>
 bt .add 3 (s13.getD 0 undef) (i6 1) fun t116 => K12 [t116] w19)) (lo w15 99 t5 fun t117 => so w15 99 t4 t117 fun w49 => pq w49 (cellSem 99 t4) fun r50 => K r50 w49))))
theorem ok_graph_asker_spot {t0 t1 : Value} {w : World} {K : VW} (h : F_graph_asker_spot t0 t1 w K) : oCall prog n_graph_asker_spot #[t0, t1] w K :=
  okC false (.s (.r (rz 3 0 42)) (.s (.s (.r (ra 4 0 4 (.grp 13 false (ri 7 4 260) [20] (rz 1 11 0)))) (.c (.s (.r (rz 2 0 8)) (.n)) (.n))) (.s (.r (rz 14 0 184619280)) (.s (.s (.r (rz 4 0 4)) (.b (.lp [38] (.s (.r (rz 1 0 0)) (.s (.c (.n) (.n)) (.j [] (.b (.s (.r (rz 3 0 4)) (.s (.r (rz 4 0 164)) (.b (.s (.r (ra 3 0 0 (.grp 48 true (ri 3 3 4) [51] (rz 2 6 0)))) (.c (.s (.r (rz 5 0 516)) (.r (rz 6 0 2116))) (.s (.r (ra 3 0 0 (.grp 65 true (ri 3 3 4) [68] (rz 2 6 0)))) (.c (.s (.r (rz 1 0 0)) (.j [9] (.s (.r (rz 2 0 4)) (.c (.r (rz 1 0 0)) (.n))) (.s (.r (rz 6 0 2052)) (.r (rz 6 0 2116))))) (.s (.r (ra 3 0 0 (.grp 85 true (ri 3 3 4) [88] (ra 2 6 0 (.grp 90 true (ri 11 8 66624) [101] (rz 2 19 0)))))) (.c (.r (rz 14 0 138428688)) (.s (.r (rz 2 0 8)) (.n)))))))))))) (.r (rz 2 0 0)))))))) (.s (.r (rz 2 0 9)) (.n)))))) func47 rfl (by kernel_rfl) (by kernel_rfl) h

/- 52: loanword/graph.operands -/
def F_graph_operands (t0 : Value) (w : World) (K : VW) : Prop :=
 pw w (Instr.box 64 t0) fun t1 w1 =>
 fl w1 t1 64 2 61 fun t5 => fl w1 t1 64 3 61 fun t7 => pw w1 (Instr.buildSlice 62 2 #[(0, t5), (1, t7)]) fun t8 w2 =>
 fl w2 t1 64 4 62 fun t10 => pw w2 (Builtin.append_ #[62, 62] 62 #[t8, t10]) fun t11 w3 =>
 ca n_slices_DeleteFunc_api_Operand_api_Operand #[t11, (Value.func (.func 70) #[] #[])] w3 fun t13 w4 =>
 K t13 w4
theorem ok_graph_operands {t0 : Value} {w : World} {K : VW} (h : F_graph_operands t0 w K) : oCall prog n_graph_operands #[t0] w K :=
  okC false (.s (.r (rz 2 0 2)) (.s (.r (rz 9 0 37444)) (.s (.r (rz 3 0 8)) (.n)))) func52 rfl (by kernel_rfl) (by kernel_rfl) h

/- 53: loanword/graph.ownOperand -/
def F_graph_ownOperand (t0 : Value) (w : World) (K : VW) : Prop :=
 pw w (Instr.box 61 t0) fun t1 w1 =>
 pw w1 (Instr.alloc 61 true (.tuple #[])) fun t2 w2 =>
 fl w2 t1 61 2 58 fun t4 => ca n_graph_ownPlace #[t4] w2 fun t5 w3 =>
 pf 61 t1 2 fun t6 => so w3 58 t6 t5 fun w4 => lo w4 61 t1 fun t7 => so w4 61 t2 t7 fun w5 => pq w5 (cellSem 61 t2) fun r6 => K r6 w5
theorem ok_graph_ownOperand {t0 : Value} {w : World} {K : VW} (h : F_graph_ownOperand t0 w K) : oCall prog n_graph_ownOperand #[t0] w K :=
  okC false (.s (.r (rz 2 0 10)) (.s (.r (rz 5 0 548)) (.s (.r (rz 2 0 9)) (.n)))) func53 rfl (by kernel_rfl) (by kernel_rfl) h

/- 61: loanword/graph.head -/
def F_graph_head (t0 t1 : Value) (w : World) (K : VW) : Prop :=
 pw w (Instr.box 43 t0) fun t2 w1 =>
 fl w1 t2 43 1 41 fun t13 => xl w1 41 t13 t1 53 fun t16 => pw w1 (Instr.alloc 53 true (.tuple #[])) fun t5 w2 =>
 so w2 53 t5 t16 fun w3 => fl w3 t5 53 1 3 fun t18 => bt .lss 3 t18 (i6 0) fun t19 => sJoin (fun K4 => gIf t19 false (fl w3 t5 53 1 3 fun t22 => bt .gtr 3 t22 (i6 8) fun t23 => K4 [t23] w3) (K4 [undef] w3)) (fun s5 _d6 w7 =>
 oPick t19 tr_ (s5.getD 0 undef) fun t24 => sJoin (fun K8 => gIf t24 false (fl w7 t5 53 3 3 fun t27 => bt .lss 3 t27 (i6 0) fun t28 => K8 [t28] w7) (K8 [undef] w7)) (fun s9 _d10 w11 =>
 oPick t24 tr_ (s9.getD 0 undef) fun t29 => sJoin (fun K12 => gIf t29 false (fl w11 t5 53 3 3 fun t32 => bt .gtr 3 t32 (i6 8) fun t33 => K12 [t33] w11) (K12 [undef] w11)) (fun s13 _d14 w15 =>
 oPick t29 tr_ (s13.getD 0 undef) fun t34 => sJoin (fun K16 => gIf t34 false (fl w15 t5 53 4 23 fun t37 => pp (Builtin.len_ #[23] 3 #[t37]) fun t38 => fl w15 t5 53 3 3 fun t40 => bf .leq 3 t38 t40 fun t41 => K16 [t41] w15) (K16 [undef] w15)) (fun s17 _d18 w19 =>
 oPick t34 tr_ (s17.getD 0 undef) fun t42 => sJoin (fun K20 => gIf t42 false (fl w19 t5 53 4 23 fun t45 => pp (Builtin.len_ #[23] 3 #[t45]) fun t46 => bt .gtr 3 t46 (i6 512) fun t47 => K20 [t47] w19) (K20 [undef] w19)) (fun s21 _d22 w23 =>
 oPick t42 tr_ (s21.getD 0 undef) fun t48 => sJoin (fun K24 => gIf t48 false (fl w23 t5 53 5 50 fun t51 => pp (Builtin.len_ #[50] 3 #[t51]) fun t52 => fl w23 t5 53 4 23 fun t54 => pp (Builtin.len_ #[23] 3 #[t54]) fun t55 => bf .neq 3 t52 t55 fun t56 => K24 [t56] w23) (K24 [undef] w23)) (fun s25 _d26 w27 =>
 oPick t48 tr_ (s25.getD 0 undef) fun t57 => oCond t57 (K fa_ w27) (fl w27 t5 53 4 23 fun t59 => pp (Builtin.len_ #[23] 3 #[t59]) fun t60 => sLoop [(i6 0)] w27 (fun s29 _d30 w31 K28 =>
 bf .lss 3 (s29.getD 0 undef) t60 fun t62 => oCond t62 (xl w31 23 t59 (s29.getD 0 undef) 25 fun t65 => pw w31 (Instr.alloc 25 true (.tuple #[])) fun t7 w32 =>
 so w32 25 t7 t65 fun w33 => fl w33 t2 43 0 40 fun t67 => lo w33 25 t7 fun t68 => ca n_types_May #[t67, t68] w33 fun t69 w34 =>
 pp (Op.unary .not t69) fun t70 => oCond t70 (K fa_ w34) (pw w34 (Instr.alloc 3 true (.tuple #[])) fun t8 w35 =>
 so w35 3 t8 (i6 (-1)) fun w36 => sJoin (fun K37 =>
 fl w36 t5 53 3 3 fun t73 => bf .leq 3 (s29.getD 0 undef) t73 fun t74 => oCond t74 (so w36 3 t8 (i6 0) fun w41 => K37 [] w41) (K37 [] w36)) (fun _s38 _d39 w40 =>
 lo w40 25 t7 fun t75 => ca n_types_Regions #[t75] w40 fun t76 w42 =>
 pp (Instr.makeFunc (.func 80) #[] #[t8, t5]) fun t77 => ca n_slices_ContainsFunc_int_int #[t76, t77] w42 fun t78 w43 =>
 oCond t78 (K fa_ w43) (bt .add 3 (s29.getD 0 undef) (i6 1) fun t79 => K28 [t79] w43)))) (fl w31 t5 53 6 51 fun t81 => pp (Builtin.len_ #[51] 3 #[t81]) fun t82 => bt .lss 3 t82 (i6 1) fun t83 => sJoin (fun K44 => gIf t83 false (fl w31 t5 53 6 51 fun t86 => pp (Builtin.len_ #[51] 3 #[t86]) fun t87 => bt .gtr 3 t87 (i6 1024) fun t88 => K44 [t88] w31) (K44 [undef] w31)) (fun s45 _d46 w47 =>
 oPick t83 tr_ (s45.getD 0 undef) fun t89 => sJoin (fun K48 => gIf t89 false (lo w47 53 t5 fun t91 => ca n_graph_outlives #[t91] w47 fun t92 w52 =>
 pp (Op.unary .not t92) fun t93 => K48 [t93] w52) (K48 [undef] w47)) (fun s49 _d50 w51 =>
 oPick t89 tr_ (s49.getD 0 undef) fun t94 => oCond t94 (K fa_ w51) (fl w51 t5 53 6 51 fun t96 => pp (Builtin.len_ #[51] 3 #[t96]) fun t97 => sLoop [(i6 0), (i6 0)] w51 (fun s54 _d55 w56 K53 =>
 bf .lss 3 (s54.getD 1 undef) t97 fun t99 => oCond t99 (sJoin (fun K57 =>
 xl w56 51 t96 (s54.getD 1 undef) 64 fun t101 => pw w56 (Instr.alloc 64 true (.tuple #[])) fun t11 w61 =>
 so w61 64 t11 t101 fun w62 => fl w62 t11 64 0 55 fun t103 => bt .eql 55 t103 (Value.int .u8 4) fun t104 => oCond t104 (bt .add 3 (s54.getD 0 undef) (i6 1) fun t106 => K57 [t106] w62) (K57 [(s54.getD 0 undef)] w62)) (fun s58 _d59 w60 =>
 bt .add 3 (s54.getD 1 undef) (i6 1) fun t107 => K53 [(s58.getD 0 undef), t107] w60)) (bt .leq 3 (s54.getD 0 undef) (i6 256) fun t109 => sJoin (fun K63 => gIf t109 true (fl w56 t2 43 2 3 fun t113 => bf .neq 3 t1 t113 fun t114 => K63 [t114] w56) (K63 [undef] w56)) (fun s64 _d65 w66 =>
 sJoin (fun K67 => gIf (s64.getD 0 undef) false (fl w66 t5 53 1 3 fun t117 => bt .eql 3 t117 (i6 0) fun t118 => K67 [t118] w66) (K67 [undef] w66)) (fun s68 _d69 w70 =>
 sJoin (fun K71 => gIf (s68.getD 0 undef) true (fl w70 t5 53 3 3 fun t121 => bt .eql 3 t121 (i6 0) fun t122 => K71 [t122] w70) (K71 [undef] w70)) (fun s72 _d73 w74 =>
 sJoin (fun K75 => gIf (s64.getD 0 undef) false (oPick (s68.getD 0 undef) (s72.getD 0 undef) fa_ fun t123 => K75 [t123] w74) (K75 [undef] w74)) (fun s76 _d77 w78 =>
 sJoin (fun K79 => gIf (s76.getD 0 undef) true (fl w78 t5 53 4 23 fun t126 => px 23 t126 (i6 0) fun t127 => fl w78 t127 25 0 22 fun t129 => bt .eql 22 t129 (Value.int .u8 1) fun t130 => K79 [t130] w78) (K79 [undef] w78)) (fun s80 _d81 w82 =>
 sJoin (fun K83 => gIf (s64.getD 0 undef) false (oPick (s76.getD 0 undef) (s80.getD 0 undef) fa_ fun t131 => K83 [t131] w82) (K83 [undef] w82)) (fun s84 _d85 w86 =>
 sJoin (fun K87 => gIf t109 true (oPick (s64.getD 0 undef) tr_ (s84.getD 0 undef) fun t132 => K87 [t132] w86) (K87 [undef] w86)) (fun s88 _d89 w90 =>
 oPick t109 (s88.getD 0 undef) fa_ fun t133 => K t133 w90)))))))))))))))))))))
theorem ok_graph_head {t0 t1 : Value} {w : World} {K : VW} (h : F_graph_head t0 t1 w K) : oCall prog n_graph_head #[t0, t1] w K :=
  okC false (.s (.r (rz 2 0 2)) (.s (.r (rz 7 0 10500)) (.s (.s (.r (ra 4 0 4 (.grp 20 false (ri 3 4 4) [23] (ra 2 7 0 (.grp 25 false (ri 3 9 4) [28] (ra 2 12 0 (.grp 30 false (ri 3 14 4) [33] (ra 2 17 0 (.grp 35 false (ri 6 19 260) [41] (ra 2 25 0 (.grp 43 false (ri 4 27 4) [47] (ra 2 31 0 (.grp 49 false (ri 7 33 260) [56] (rz 1 40 0)))))))))))))) (.c (.s (.r (rz 1 0 0)) (.n)) (.n))) (.s (.s (.r (rz 4 0 4)) (.b (.lp [61] (.s (.r (rz 1 0 0)) (.s (.c (.n) (.n)) (.s (.b (.s (.r (rz 6 0 2192)) (.s (.s (.r (rz 5 0 148)) (.c (.s (.r (rz 1 0 0)) (.n)) (.n))) (.s (.r (rz 2 0 10)) (.j [] (.s (.r (rz 4 0 16)) (.c (.r (rz 1 0 2)) (.n))) (.s (.r (rz 4 0 137)) (.c (.s (.r (rz 1 0 0)) (.n)) (.n)))))))) (.r (rz 2 0 0)))))))) (.s (.s (.r (ra 5 0 4 (.grp 84 false (ri 4 5 4) [88] (ra 2 9 0 (.grp 90 false (ri 3 11 9) [93] (rz 1 14 0)))))) (.c (.s (.r (rz 1 0 0)) (.n)) (.n))) (.s (.r (rz 1 0 0)) (.s (.s (.r (rz 4 0 4)) (.b (.lp [9, 98] (.s (.r (rz 1 0 0)) (.s (.c (.n) (.n)) (.j [9] (.b (.s (.r (rz 4 0 164)) (.s (.r (rz 3 0 4)) (.c (.r (rz 3 0 0)) (.n))))) (.r (rz 2 0 0)))))))) (.s (.r (ra 3 0 0 (.grp 110 true (ri 5 3 16) [115] (.grp 115 false (ri 4 8 4) [119] (.grp 119 true (ri 3 12 4) [122] (.grp 115 false (ri 2 15 0) [124] (.grp 124 true (ri 6 17 260) [130] (.grp 115 false (ri 1 23 0) [131] (.grp 110 true (ri 1 24 0) [132] (rz 2 25 0)))))))))) (.n))))))))) func61 rfl (by kernel_rfl) (by kernel_rfl) h

/- 62: (loanword/graph.asker).point -/
def F_graph_asker_point (t0 t1 : Value) (w : World) (K : VW) : Prop :=
 pw w (Instr.box 101 t0) fun t2 w1 =>
 pw w1 (Instr.box 64 t1) fun t3 w2 =>
 pf 101 t2 1 fun t23 => fl w2 t23 53 6 51 fun t25 => pp (Builtin.len_ #[51] 3 #[t25]) fun t26 => pw w2 (Instr.alloc 3 true (.tuple #[])) fun t5 w3 =>
 so w3 3 t5 t26 fun w4 => pp (Instr.makeFunc (.func 82) #[] #[t5]) fun t27 => fl w4 t3 64 12 3 fun t29 => bt .lss 3 t29 (i6 0) fun t30 => sJoin (fun K5 => gIf t30 false (fl w4 t3 64 0 55 fun t33 => bt .neq 55 t33 (Value.int .u8 14) fun t34 => K5 [t34] w4) (K5 [undef] w4)) (fun s6 _d7 w8 =>
 sJoin (fun K9 => gIf (s6.getD 0 undef) true (fl w8 t3 64 10 3 fun t38 => cv t27 #[t38] w8 fun t39 w13 =>
 pp (Op.unary .not t39) fun t40 => K9 [t40] w13) (K9 [undef] w8)) (fun s10 _d11 w12 =>
 sJoin (fun K14 => gIf t30 false (oPick (s6.getD 0 undef) (s10.getD 0 undef) fa_ fun t41 => K14 [t41] w12) (K14 [undef] w12)) (fun s15 _d16 w17 =>
 oPick t30 tr_ (s15.getD 0 undef) fun t42 => sJoin (fun K18 => gIf t42 false (fl w17 t3 64 0 55 fun t45 => bt .eql 55 t45 (Value.int .u8 14) fun t46 => K18 [t46] w17) (K18 [undef] w17)) (fun s19 _d20 w21 =>
 sJoin (fun K22 => gIf (s19.getD 0 undef) true (fl w21 t3 64 10 3 fun t49 => bt .neq 3 t49 (i6 0) fun t50 => K22 [t50] w21) (K22 [undef] w21)) (fun s23 _d24 w25 =>
 sJoin (fun K26 => gIf t42 false (oPick (s19.getD 0 undef) (s23.getD 0 undef) fa_ fun t51 => K26 [t51] w25) (K26 [undef] w25)) (fun s27 _d28 w29 =>
 oPick t42 tr_ (s27.getD 0 undef) fun t52 => oCond t52 (K fa_ w29) (sJoin (fun K30 =>
 lo w29.drew 101 t2 fun t53 => fl w29.drew t3 64 1 58 fun t55 => lo w29.drew 101 t2 fun t57 => fl w29.drew t3 64 6 58 fun t59 => ((ca n_graph_asker_spot #[t53, t55] w29.drew fun t56 w34 =>
 Ext w29.drew w34 ∧
 ((ca n_graph_asker_spot #[t57, t59] w34 fun t60 w35 =>
 ((pw w35 (Instr.alloc 99 true (.tuple #[])) fun t7 w36 =>
 Ext w35 w36 ∧
 pw w36 (Instr.alloc 99 true (.tuple #[])) fun t8 w37 =>
 Ext w36 w37 ∧
 so w37 99 t7 t56 fun w38 => so w38 99 t8 t60 fun w39 => K30 [t7, t8] w39) ∧
 (pw w35 (Instr.alloc 99 true (.tuple #[])) fun t8_41 w40 =>
 Ext w35 w40 ∧
 pw w40 (Instr.alloc 99 true (.tuple #[])) fun t7_43 w42 =>
 Ext w40 w42 ∧
 so w42 99 t7_43 t56 fun w44 => so w44 99 t8_41 t60 fun w45 => K30 [t7_43, t8_41] w45))) ∧
 (((pw w34 (Instr.alloc 99 true (.tuple #[])) fun t7_47 w46 =>
 Ext w34 w46 ∧
 ((ca n_graph_asker_spot #[t57, t59] w46 fun t60_49 w48 =>
 pw w48 (Instr.alloc 99 true (.tuple #[])) fun t8_51 w50 =>
 Ext w48 w50 ∧
 so w50 99 t7_47 t56 fun w52 => so w52 99 t8_51 t60_49 fun w53 => K30 [t7_47, t8_51] w53) ∧
 (pw w46 (Instr.alloc 99 true (.tuple #[])) fun t8_55 w54 =>
 Ext w46 w54 ∧
 ca n_graph_asker_spot #[t57, t59] w54 fun t60_57 w56 =>
 so w56 99 t7_47 t56 fun w58 => so w58 99 t8_55 t60_57 fun w59 => K30 [t7_47, t8_55] w59))) ∧
 (pw w34 (Instr.alloc 99 true (.tuple #[])) fun t8_61 w60 =>
 Ext w34 w60 ∧
 ((ca n_graph_asker_spot #[t57, t59] w60 fun t60_63 w62 =>
 pw w62 (Instr.alloc 99 true (.tuple #[])) fun t7_65 w64 =>
 Ext w62 w64 ∧
 so w64 99 t7_65 t56 fun w66 => so w66 99 t8_61 t60_63 fun w67 => K30 [t7_65, t8_61] w67) ∧
 (pw w60 (Instr.alloc 99 true (.tuple #[])) fun t7_69 w68 =>
 Ext w60 w68 ∧
 ca n_graph_asker_spot #[t57, t59] w68 fun t60_71 w70 =>
 so w70 99 t7_69 t56 fun w72 => so w72 99 t8_61 t60_71 fun w73 => K30 [t7_69, t8_61] w73))))))) ∧
 (((pw w29.drew (Instr.alloc 99 true (.tuple #[])) fun t7_75 w74 =>
 Ext w29.drew w74 ∧
 ((ca n_graph_asker_spot #[t53, t55] w74 fun t56_77 w76 =>
 Ext w74 w76 ∧
 ((ca n_graph_asker_spot #[t57, t59] w76 fun t60_79 w78 =>
 pw w78 (Instr.alloc 99 true (.tuple #[])) fun t8_81 w80 =>
 Ext w78 w80 ∧
 so w80 99 t7_75 t56_77 fun w82 => so w82 99 t8_81 t60_79 fun w83 => K30 [t7_75, t8_81] w83) ∧
 (pw w76 (Instr.alloc 99 true (.tuple #[])) fun t8_85 w84 =>
 Ext w76 w84 ∧
 ca n_graph_asker_spot #[t57, t59] w84 fun t60_87 w86 =>
 so w86 99 t7_75 t56_77 fun w88 => so w88 99 t8_85 t60_87 fun w89 => K30 [t7_75, t8_85] w89))) ∧
 (pw w74 (Instr.alloc 99 true (.tuple #[])) fun t8_91 w90 =>
 Ext w74 w90 ∧
 ca n_graph_asker_spot #[t53, t55] w90 fun t56_93 w92 =>
 Ext w90 w92 ∧
 ca n_graph_asker_spot #[t57, t59] w92 fun t60_95 w94 =>
 so w94 99 t7_75 t56_93 fun w96 => so w96 99 t8_91 t60_95 fun w97 => K30 [t7_75, t8_91] w97))) ∧
 (pw w29.drew (Instr.alloc 99 true (.tuple #[])) fun t8_99 w98 =>
 Ext w29.drew w98 ∧
 ((ca n_graph_asker_spot #[t53, t55] w98 fun t56_101 w100 =>
 Ext w98 w100 ∧
 ((ca n_graph_asker_spot #[t57, t59] w100 fun t60_103 w102 =>
 pw w102 (Instr.alloc 99 true (.tuple #[])) fun t7_105 w104 =>
 Ext w102 w104 ∧
 so w104 99 t7_105 t56_101 fun w106 => so w106 99 t8_99 t60_103 fun w107 => K30 [t7_105, t8_99] w107) ∧
 (pw w100 (Instr.alloc 99 true (.tuple #[])) fun t7_109 w108 =>
 Ext w100 w108 ∧
 ca n_graph_asker_spot #[t57, t59] w108 fun t60_111 w110 =>
 so w110 99 t7_109 t56_101 fun w112 => so w112 99 t8_99 t60_111 fun w113 => K30 [t7_109, t8_99] w113))) ∧
 (pw w98 (Instr.alloc 99 true (.tuple #[])) fun t7_115 w114 =>
 Ext w98 w114 ∧
 ca n_graph_asker_spot #[t53, t55] w114 fun t56_117 w116 =>
 Ext w114 w116 ∧
 ca n_graph_asker_spot #[t57, t59] w116 fun t60_119 w118 =>
 so w118 99 t7_115 t56_117 fun w120 => so w120 99 t8_99 t60_119 fun w121 => K30 [t7_115, t8_99] w121))))))) (fun s31 _d32 w33 =>
 fl w33 (s31.getD 0 undef) 99 2 4 fun t62 => sJoin (fun K122 => gIf t62 true (fl w33 (s31.getD 0 undef) 99 1 3 fun t65 => bt .lss 3 t65 (i6 3) fun t66 => K122 [t66] w33) (K122 [undef] w33)) (fun s123 _d124 w125 =>
 oPick t62 (s123.getD 0 undef) fa_ fun t67 => lo w125 101 t2 fun t69 => fl w125 t3 64 2 61 fun t71 => ca n_graph_asker_operand #[t69, t71] w125 fun t72 w126 =>
 pe t72 0 fun t73 => pe t72 1 fun t74 => pw w126 (Instr.alloc 25 true (.tuple #[])) fun t10 w127 =>
 so w127 25 t10 t73 fun w128 => lo w128 101 t2 fun t76 => fl w128 t3 64 3 61 fun t78 => ca n_graph_asker_operand #[t76, t78] w128 fun t79 w129 =>
 pe t79 0 fun t80 => pe t79 1 fun t81 => pw w129 (Instr.alloc 25 true (.tuple #[])) fun t12 w130 =>
 so w130 25 t12 t80 fun w131 => pp (Instr.makeFunc (.func 85) #[] #[t3, t2]) fun t82 => fl w131 t3 64 0 55 fun t84 => bt .eql 55 t84 (Value.int .u8 1) fun t86 => oCond t86 (lo w131 64 t3 fun t87 => pp (Instr.build 142 #[(0, tr_), (1, tr_)]) fun t88 => ca n_graph_rest #[t87, t88] w131 fun t89 w132 =>
 sJoin (fun K133 => gIf t89 true (K133 [t67] w132) (K133 [undef] w132)) (fun s134 _d135 w136 =>
 oPick t89 (s134.getD 0 undef) fa_ fun t92 => sJoin (fun K137 => gIf t92 true (K137 [t74] w136) (K137 [undef] w136)) (fun s138 _d139 w140 =>
 oPick t92 (s138.getD 0 undef) fa_ fun t95 => sJoin (fun K141 => gIf t95 true (lo w140 25 t10 fun t97 => fl w140 (s31.getD 0 undef) 99 0 25 fun t99 => ca n_types_Alike #[t97, t99] w140 fun t100 w145 =>
 K141 [t100] w145) (K141 [undef] w140)) (fun s142 _d143 w144 =>
 oPick t95 (s142.getD 0 undef) fa_ fun t101 => K t101 w144)))) (bt .eql 55 t84 (Value.int .u8 2) fun t103 => oCond t103 (lo w131 64 t3 fun t104 => pp (Instr.build 142 #[(0, tr_), (1, tr_), (2, tr_), (4, tr_)]) fun t105 => ca n_graph_rest #[t104, t105] w131 fun t106 w146 =>
 pp (Op.unary .not t106) fun t107 => sJoin (fun K147 => gIf t107 false (pp (Op.unary .not t67) fun t110 => K147 [t110] w146) (K147 [undef] w146)) (fun s148 _d149 w150 =>
 oPick t107 tr_ (s148.getD 0 undef) fun t111 => sJoin (fun K151 => gIf t111 false (pp (Op.unary .not t74) fun t114 => K151 [t114] w150) (K151 [undef] w150)) (fun s152 _d153 w154 =>
 oPick t111 tr_ (s152.getD 0 undef) fun t115 => sJoin (fun K155 => gIf t115 false (pp (Op.unary .not t81) fun t118 => K155 [t118] w154) (K155 [undef] w154)) (fun s156 _d157 w158 =>
 oPick t115 tr_ (s156.getD 0 undef) fun t119 => oCond t119 (K fa_ w158) (lo w158 25 t10 fun t121 => cv (Value.func (.func 84) #[] #[]) #[t121, (Value.int .u8 1)] w158 fun t122 w159 =>
 sJoin (fun K160 => gIf t122 true (lo w159 25 t12 fun t125 => cv (Value.func (.func 84) #[] #[]) #[t125, (Value.int .u8 1)] w159 fun t126 w164 =>
 K160 [t126] w164) (K160 [undef] w159)) (fun s161 _d162 w163 =>
 oPick t122 (s161.getD 0 undef) fa_ fun t127 => fl w163 t3 64 5 9 fun t129 => sJoin (fun K165 =>
 bt .eql 9 t129 (Value.string { data := #[43] }) fun t131 => oCond t131 (K165 [t131] w163) (bt .eql 9 t129 (Value.string { data := #[45] }) fun t132 => oCond t132 (K165 [t132] w163) (bt .eql 9 t129 (Value.string { data := #[42] }) fun t133 => oCond t133 (K165 [t133] w163) (bt .eql 9 t129 (Value.string { data := #[47] }) fun t134 => oCond t134 (K165 [t134] w163) (bt .eql 9 t129 (Value.string { data := #[37] }) fun t135 => K165 [t135] w163))))) (fun s166 _d167 w168 =>
 oCond (s166.getD 0 undef) (fl w168 (s31.getD 0 undef) 99 0 25 fun t138 => cv (Value.func (.func 84) #[] #[]) #[t138, (Value.int .u8 1)] w168 fun t139 w169 =>
 sJoin (fun K170 => gIf t139 true (K170 [t127] w169) (K170 [undef] w169)) (fun s171 _d172 w173 =>
 oPick t139 (s171.getD 0 undef) fa_ fun t142 => K t142 w173)) (sJoin (fun K174 =>
 bt .eql 9 t129 (Value.string { data := #[60] }) fun t144 => oCond t144 (K174 [t144] w168) (bt .eql 9 t129 (Value.string { data := #[60, 61] }) fun t145 => oCond t145 (K174 [t145] w168) (bt .eql 9 t129 (Value.string { data := #[62] }) fun t146 => oCond t146 (K174 [t146] w168) (bt .eql 9 t129 (Value.string { data := #[62, 61] }) fun t147 => K174 [t147] w168)))) (fun s175 _d176 w177 =>
 oCond (s175.getD 0 undef) (fl w177 (s31.getD 0 undef) 99 0 25 fun t150 => cv (Value.func (.func 84) #[] #[]) #[t150, (Value.int .u8 2)] w177 fun t151 w178 =>
 sJoin (fun K179 => gIf t151 true (K179 [t127] w178) (K179 [undef] w178)) (fun s180 _d181 w182 =>
 oPick t151 (s180.getD 0 undef) fa_ fun t154 => K t154 w182)) (sJoin (fun K183 =>
 bt .eql 9 t129 (Value.string { data := #[61, 61] }) fun t156 => oCond t156 (K183 [t156] w177) (bt .eql 9 t129 (Value.string { data := #[33, 61] }) fun t157 => K183 [t157] w177)) (fun s184 _d185 w186 =>
 oCond (s184.getD 0 undef) (fl w186 (s31.getD 0 undef) 99 0 25 fun t160 => cv (Value.func (.func 84) #[] #[]) #[t160, (Value.int .u8 2)] w186 fun t161 w187 =>
 sJoin (fun K188 => gIf t161 true (K188 [t127] w187) (K188 [undef] w187)) (fun s189 _d190 w191 =>
 sJoin (fun K192 => gIf (s189.getD 0 undef) false (lo w191 25 t10 fun t166 => cv (Value.func (.func 84) #[] #[]) #[t166, (Value.int .u8 2)] w191 fun t167 w196 =>
 K192 [t167] w196) (K192 [undef] w191)) (fun s193 _d194 w195 =>
 sJoin (fun K197 => gIf (s193.getD 0 undef) true (lo w195 25 t12 fun t170 => cv (Value.func (.func 84) #[] #[]) #[t170, (Value.int .u8 2)] w195 fun t171 w201 =>
 K197 [t171] w201) (K197 [undef] w195)) (fun s198 _d199 w200 =>
 sJoin (fun K202 => gIf (s189.getD 0 undef) false (oPick (s193.getD 0 undef) (s198.getD 0 undef) fa_ fun t172 => K202 [t172] w200) (K202 [undef] w200)) (fun s203 _d204 w205 =>
 sJoin (fun K206 => gIf t161 true (oPick (s189.getD 0 undef) tr_ (s203.getD 0 undef) fun t173 => K206 [t173] w205) (K206 [undef] w205)) (fun s207 _d208 w209 =>
 oPick t161 (s207.getD 0 undef) fa_ fun t174 => K t174 w209)))))) (K fa_ w186)))))))))))) (bt .eql 55 t84 (Value.int .u8 3) fun t176 => oCond t176 (pw w131 (Instr.makeMap 143 none) fun t177 w210 =>
 pu w210 (Instr.mapUpdate 143 t177 (Value.string { data := #[45] }) (Value.int .u8 1)) fun w211 => pu w211 (Instr.mapUpdate 143 t177 (Value.string { data := #[33] }) (Value.int .u8 2)) fun w212 => fl w212 t3 64 5 9 fun t180 => pq w212 (Instr.lookup 143 t177 t180 false) fun t181 => lo w212 64 t3 fun t182 => pp (Instr.build 142 #[(0, tr_), (1, tr_), (4, tr_)]) fun t183 => ca n_graph_rest #[t182, t183] w212 fun t184 w213 =>
 sJoin (fun K214 => gIf t184 true (K214 [t67] w213) (K214 [undef] w213)) (fun s215 _d216 w217 =>
 oPick t184 (s215.getD 0 undef) fa_ fun t187 => sJoin (fun K218 => gIf t187 true (K218 [t74] w217) (K218 [undef] w217)) (fun s219 _d220 w221 =>
 oPick t187 (s219.getD 0 undef) fa_ fun t190 => sJoin (fun K222 => gIf t190 true (bt .neq 22 t181 (Value.int .u8 0) fun t193 => K222 [t193] w221) (K222 [undef] w221)) (fun s223 _d224 w225 =>
 oPick t190 (s223.getD 0 undef) fa_ fun t194 => sJoin (fun K226 => gIf t194 true (fl w225 (s31.getD 0 undef) 99 0 25 fun t198 => cv (Value.func (.func 84) #[] #[]) #[t198, t181] w225 fun t200 w230 =>
 K226 [t200] w230) (K226 [undef] w225)) (fun s227 _d228 w229 =>
 oPick t194 (s227.getD 0 undef) fa_ fun t201 => sJoin (fun K231 => gIf t201 true (lo w229 25 t10 fun t204 => cv (Value.func (.func 84) #[] #[]) #[t204, t181] w229 fun t206 w235 =>
 K231 [t206] w235) (K231 [undef] w229)) (fun s232 _d233 w234 =>
 oPick t201 (s232.getD 0 undef) fa_ fun t207 => K t207 w234)))))) (bt .eql 55 t84 (Value.int .u8 4) fun t209 => oCond t209 (lo w131.drew 64 t3 fun t210 => pp (Instr.build 142 #[(0, tr_), (5, tr_), (6, tr_)]) fun t211 => ca n_graph_rest #[t210, t211] w131.drew fun t212 w236 =>
 sJoin (fun K237 => gIf t212 true (K237 [t67] w236) (K237 [undef] w236)) (fun s238 _d239 w240 =>
 oPick t212 (s238.getD 0 undef) fa_ fun t215 => sJoin (fun K241 => gIf t215 true (fl w240 (s31.getD 1 undef) 99 2 4 fun t218 => K241 [t218] w240) (K241 [undef] w240)) (fun s242 _d243 w244 =>
 oPick t215 (s242.getD 0 undef) fa_ fun t219 => sJoin (fun K245 => gIf t219 true (fl w244 (s31.getD 0 undef) 99 0 25 fun t223 => cv (Value.func (.func 84) #[] #[]) #[t223, (Value.int .u8 4)] w244 fun t224 w249 =>
 K245 [t224] w249) (K245 [undef] w244)) (fun s246 _d247 w248 =>
 oPick t219 (s246.getD 0 undef) fa_ fun t225 => sJoin (fun K250 => gIf t225 true (pf 99 (s31.getD 0 undef) 0 fun t227 => fl w248 t227 25 1 4 fun t229 => fl w248 t3 64 7 4 fun t231 => bf .eql 4 t229 t231 fun t232 => K250 [t232] w248) (K250 [undef] w248)) (fun s251 _d252 w253 =>
 oPick t225 (s251.getD 0 undef) fa_ fun t233 => sJoin (fun K254 => gIf t233 true (pf 99 (s31.getD 0 undef) 0 fun t235 => fl w253 t235 25 4 23 fun t237 => xl w253 23 t237 (i6 0) 25 fun t239 => fl w253 (s31.getD 1 undef) 99 0 25 fun t241 => ca n_types_Alike #[t239, t241] w253 fun t242 w258 =>
 K254 [t242] w258) (K254 [undef] w253)) (fun s255 _d256 w257 =>
 oPick t233 (s255.getD 0 undef) fa_ fun t243 => sJoin (fun K259 => gIf t243 true (fl w257 t3 64 7 4 fun t246 => K259 [t246] w257) (K259 [undef] w257)) (fun s260 _d261 w262 =>
 sJoin (fun K263 => gIf (s260.getD 0 undef) true (fl w262 (s31.getD 1 undef) 99 1 3 fun t249 => bt .eql 3 t249 (i6 3) fun t250 => K263 [t250] w262) (K263 [undef] w262)) (fun s264 _d265 w266 =>
 sJoin (fun K267 => gIf t243 true (oPick (s260.getD 0 undef) (s264.getD 0 undef) fa_ fun t251 => pp (Op.unary .not t251) fun t252 => K267 [t252] w266) (K267 [undef] w266)) (fun s268 _d269 w270 =>
 oPick t243 (s268.getD 0 undef) fa_ fun t253 => K t253 w270))))))))) (bt .eql 55 t84 (Value.int .u8 5) fun t255 => oCond t255 (lo w131.drew 64 t3 fun t256 => pp (Instr.build 142 #[(0, tr_), (1, tr_)]) fun t257 => ca n_graph_rest #[t256, t257] w131.drew fun t258 w271 =>
 sJoin (fun K272 => gIf t258 true (K272 [t67] w271) (K272 [undef] w271)) (fun s273 _d274 w275 =>
 oPick t258 (s273.getD 0 undef) fa_ fun t261 => sJoin (fun K276 => gIf t261 true (K276 [t74] w275) (K276 [undef] w275)) (fun s277 _d278 w279 =>
 oPick t261 (s277.getD 0 undef) fa_ fun t264 => sJoin (fun K280 => gIf t264 true (fl w279 (s31.getD 0 undef) 99 0 25 fun t268 => cv (Value.func (.func 84) #[] #[]) #[t268, (Value.int .u8 3)] w279 fun t269 w284 =>
 K280 [t269] w284) (K280 [undef] w279)) (fun s281 _d282 w283 =>
 oPick t264 (s281.getD 0 undef) fa_ fun t270 => sJoin (fun K285 => gIf t270 true (pf 99 (s31.getD 0 undef) 0 fun t272 => fl w283 t272 25 4 23 fun t274 => xl w283 23 t274 (i6 0) 25 fun t276 => lo w283 25 t10 fun t277 => ca n_types_Alike #[t276, t277] w283 fun t278 w289 =>
 K285 [t278] w289) (K285 [undef] w283)) (fun s286 _d287 w288 =>
 oPick t270 (s286.getD 0 undef) fa_ fun t279 => K t279 w288))))) (bt .eql 55 t84 (Value.int .u8 6) fun t281 => oCond t281 (lo w131 64 t3 fun t282 => pp (Instr.build 142 #[(0, tr_), (3, tr_), (8, tr_)]) fun t283 => ca n_graph_rest #[t282, t283] w131 fun t284 w290 =>
 pp (Op.unary .not t284) fun t285 => sJoin (fun K291 => gIf t285 false (pp (Op.unary .not t67) fun t288 => K291 [t288] w290) (K291 [undef] w290)) (fun s292 _d293 w294 =>
 oPick t285 tr_ (s292.getD 0 undef) fun t289 => sJoin (fun K295 => gIf t289 false (fl w294 (s31.getD 0 undef) 99 0 25 fun t293 => cv (Value.func (.func 84) #[] #[]) #[t293, (Value.int .u8 5)] w294 fun t294 w299 =>
 pp (Op.unary .not t294) fun t295 => K295 [t295] w299) (K295 [undef] w294)) (fun s296 _d297 w298 =>
 oPick t289 tr_ (s296.getD 0 undef) fun t296 => sJoin (fun K300 => gIf t296 false (pf 99 (s31.getD 0 undef) 0 fun t298 => fl w298 t298 25 3 3 fun t300 => fl w298 t3 64 9 3 fun t302 => bf .neq 3 t300 t302 fun t303 => K300 [t303] w298) (K300 [undef] w298)) (fun s301 _d302 w303 =>
 oPick t296 tr_ (s301.getD 0 undef) fun t304 => oCond t304 (K fa_ w303) (pf 101 t2 0 fun t306 => fl w303 t306 43 0 40 fun t308 => fl w303 (s31.getD 0 undef) 99 0 25 fun t310 => ca n_types_Fields #[t308, t310] w303 fun t311 w304 =>
 pe t311 0 fun t312 => pe t311 1 fun _t313 => cv t82 #[t312] w304 fun t316 w305 =>
 K t316 w305))))) (bt .eql 55 t84 (Value.int .u8 7) fun t318 => oCond t318 (lo w131 64 t3 fun t319 => pp (Instr.build 142 #[(0, tr_), (3, tr_), (7, tr_)]) fun t320 => ca n_graph_rest #[t319, t320] w131 fun t321 w306 =>
 pp (Op.unary .not t321) fun t322 => sJoin (fun K307 => gIf t322 false (pp (Op.unary .not t67) fun t325 => K307 [t325] w306) (K307 [undef] w306)) (fun s308 _d309 w310 =>
 oPick t322 tr_ (s308.getD 0 undef) fun t326 => sJoin (fun K311 => gIf t326 false (fl w310 t3 64 8 3 fun t329 => bt .lss 3 t329 (i6 0) fun t330 => K311 [t330] w310) (K311 [undef] w310)) (fun s312 _d313 w314 =>
 oPick t326 tr_ (s312.getD 0 undef) fun t331 => sJoin (fun K315 => gIf t331 false (fl w314 t3 64 8 3 fun t334 => pf 101 t2 0 fun t335 => fl w314 t335 43 1 41 fun t337 => pp (Builtin.len_ #[41] 3 #[t337]) fun t338 => bf .geq 3 t334 t338 fun t339 => K315 [t339] w314) (K315 [undef] w314)) (fun s316 _d317 w318 =>
 oPick t331 tr_ (s316.getD 0 undef) fun t340 => oCond t340 (K fa_ w318) (pf 101 t2 0 fun t341 => fl w318 t341 43 1 41 fun t343 => fl w318 t3 64 8 3 fun t345 => xl w318 41 t343 t345 53 fun t347 => pw w318 (Instr.alloc 53 true (.tuple #[])) fun t20 w319 =>
 so w319 53 t20 t347 fun w320 => fl w320.drew (s31.getD 0 undef) 99 0 25 fun t349 => fl w320.drew t20 53 4 23 fun t351 => xl w320.drew 23 t351 (i6 0) 25 fun t353 => ca n_types_Alike #[t349, t353] w320.drew fun t354 w321 =>
 sJoin (fun K322 => gIf t354 true (fl w321 t20 53 4 23 fun t358 => fl w321 t20 53 3 3 fun t360 => bt .add 3 t360 (i6 1) fun t361 => pp (Instr.sliceAt 23 t358 (some (i6 1)) (some t361) none) fun t362 => cv t82 #[t362] w321 fun t363 w326 =>
 K322 [t363] w326) (K322 [undef] w321)) (fun s323 _d324 w325 =>
 oPick t354 (s323.getD 0 undef) fa_ fun t364 => K t364 w325)))))) (bt .eql 55 t84 (Value.int .u8 8) fun t366 => oCond t366 (lo w131 64 t3 fun t367 => pp (Instr.build 142 #[(0, tr_)]) fun t368 => ca n_graph_rest #[t367, t368] w131 fun t369 w327 =>
 sJoin (fun K328 => gIf t369 true (K328 [t67] w327) (K328 [undef] w327)) (fun s329 _d330 w331 =>
 oPick t369 (s329.getD 0 undef) fa_ fun t372 => sJoin (fun K332 => gIf t372 true (fl w331 (s31.getD 0 undef) 99 0 25 fun t376 => cv (Value.func (.func 84) #[] #[]) #[t376, (Value.int .u8 1)] w331 fun t377 w336 =>
 K332 [t377] w336) (K332 [undef] w331)) (fun s333 _d334 w335 =>
 oPick t372 (s333.getD 0 undef) fa_ fun t378 => K t378 w335))) (bt .eql 55 t84 (Value.int .u8 9) fun t380 => oCond t380 (lo w131 64 t3 fun t381 => pp (Instr.build 142 #[(1, tr_)]) fun t382 => ca n_graph_rest #[t381, t382] w131 fun t383 w337 =>
 sJoin (fun K338 => gIf t383 true (K338 [t74] w337) (K338 [undef] w337)) (fun s339 _d340 w341 =>
 oPick t383 (s339.getD 0 undef) fa_ fun t386 => sJoin (fun K342 => gIf t386 true (lo w341 25 t10 fun t389 => cv (Value.func (.func 84) #[] #[]) #[t389, (Value.int .u8 1)] w341 fun t390 w346 =>
 K342 [t390] w346) (K342 [undef] w341)) (fun s343 _d344 w345 =>
 oPick t386 (s343.getD 0 undef) fa_ fun t391 => K t391 w345))) (bt .eql 55 t84 (Value.int .u8 10) fun t393 => oCond t393 (pf 101 t2 0 fun t395 => fl w131 t395 43 0 40 fun t397 => fl w131 (s31.getD 1 undef) 99 0 25 fun t399 => ca n_types_Drops #[t397, t399] w131 fun t400 w347 =>
 pe t400 0 fun t401 => pe t400 1 fun _t402 => lo w347 64 t3 fun t403 => pp (Instr.build 142 #[(5, tr_)]) fun t404 => ca n_graph_rest #[t403, t404] w347 fun t405 w348 =>
 sJoin (fun K349 => gIf t405 true (fl w348 (s31.getD 1 undef) 99 2 4 fun t408 => K349 [t408] w348) (K349 [undef] w348)) (fun s350 _d351 w352 =>
 oPick t405 (s350.getD 0 undef) fa_ fun t409 => sJoin (fun K353 => gIf t409 true (K353 [t401] w352) (K353 [undef] w352)) (fun s354 _d355 w356 =>
 oPick t409 (s354.getD 0 undef) fa_ fun t412 => sJoin (fun K357 => gIf t412 true (fl w356 (s31.getD 1 undef) 99 1 3 fun t415 => bt .lss 3 t415 (i6 2) fun t416 => K357 [t416] w356) (K357 [undef] w356)) (fun s358 _d359 w360 =>
 oPick t412 (s358.getD 0 undef) fa_ fun t417 => K t417 w360)))) (bt .eql 55 t84 (Value.int .u8 11) fun t419 => oCond t419 (lo w131 64 t3 fun t420 => pp (Instr.build 142 #[(5, tr_)]) fun t421 => ca n_graph_rest #[t420, t421] w131 fun t422 w361 =>
 sJoin (fun K362 => gIf t422 true (fl w361 (s31.getD 1 undef) 99 2 4 fun t425 => K362 [t425] w361) (K362 [undef] w361)) (fun s363 _d364 w365 =>
 oPick t422 (s363.getD 0 undef) fa_ fun t426 => sJoin (fun K366 => gIf t426 true (pf 64 t3 6 fun t428 => fl w365 t428 58 0 3 fun t430 => bt .gtr 3 t430 (i6 0) fun t431 => K366 [t431] w365) (K366 [undef] w365)) (fun s367 _d368 w369 =>
 oPick t426 (s367.getD 0 undef) fa_ fun t432 => sJoin (fun K370 => gIf t432 true (pf 64 t3 6 fun t434 => fl w369 t434 58 1 56 fun t436 => pp (Builtin.len_ #[56] 3 #[t436]) fun t437 => bt .eql 3 t437 (i6 0) fun t438 => K370 [t438] w369) (K370 [undef] w369)) (fun s371 _d372 w373 =>
 oPick t432 (s371.getD 0 undef) fa_ fun t439 => K t439 w373)))) (bt .eql 55 t84 (Value.int .u8 12) fun t441 => oCond t441 (lo w131 64 t3 fun t442 => pp (Instr.build 142 #[(1, tr_), (9, tr_)]) fun t443 => ca n_graph_rest #[t442, t443] w131 fun t444 w374 =>
 sJoin (fun K375 => gIf t444 true (K375 [t74] w374) (K375 [undef] w374)) (fun s376 _d377 w378 =>
 oPick t444 (s376.getD 0 undef) fa_ fun t447 => sJoin (fun K379 => gIf t447 true (lo w378 25 t10 fun t450 => cv (Value.func (.func 84) #[] #[]) #[t450, (Value.int .u8 2)] w378 fun t451 w383 =>
 K379 [t451] w383) (K379 [undef] w378)) (fun s380 _d381 w382 =>
 oPick t447 (s380.getD 0 undef) fa_ fun t452 => sJoin (fun K384 => gIf t452 true (fl w382 t3 64 11 3 fun t456 => cv t27 #[t456] w382 fun t457 w388 =>
 K384 [t457] w388) (K384 [undef] w382)) (fun s385 _d386 w387 =>
 oPick t452 (s385.getD 0 undef) fa_ fun t458 => K t458 w387)))) (sJoin (fun K389 =>
 bt .eql 55 t84 (Value.int .u8 13) fun t460 => oCond t460 (K389 [t460] w131) (bt .eql 55 t84 (Value.int .u8 14) fun t461 => K389 [t461] w131)) (fun s390 _d391 w392 =>
 oCond (s390.getD 0 undef) (lo w392 64 t3 fun t462 => pp (Instr.build 142 #[]) fun t463 => ca n_graph_rest #[t462, t463] w392 fun t464 w393 =>
 K t464 w393) (K fa_ w392)))))))))))))))))))))))
theorem ok_graph_asker_point {t0 t1 : Value} {w : World} {K : VW} (h : F_graph_asker_point t0 t1 w K) : oCall prog n_graph_asker_point #[t0, t1] w K :=
  okC false (.s (.r (rz 3 0 10)) (.s (.r (rz 6 0 2576)) (.s (.r (rz 2 0 0)) (.s (.s (.r (ra 4 0 4 (.grp 31 false (ri 4 4 4) [35] (.grp 35 true (ri 5 8 144) [40] (.grp 31 false (ri 1 13 0) [41] (ra 2 14 0 (.grp 43 false (ri 4 16 4) [47] (.grp 47 true (ri 3 20 4) [50] (.grp 43 false (ri 1 23 0) [51] (rz 1 24 0)))))))))) (.c (.s (.r (rz 1 0 0)) (.n)) (.n))) (.j [7, 8] (.r (ra 3 0 17 (ra 3 4 17 (.alt 3 .u (.alt 7 .l (.alt 8 .u (rz 3 9 43) (ra 1 9 3 (ra 1 8 3 (rz 2 10 10)))) (.alt 8 .u (.alt 7 .l (rz 3 9 43) (ra 1 9 3 (ra 1 7 2 (rz 2 10 10)))) (ra 1 9 3 (.alt 7 .l (ra 1 8 3 (rz 2 10 10)) (ra 1 8 3 (ra 1 7 2 (rz 2 10 10))))))) (.alt 8 .u (.alt 3 .u (.alt 7 .l (rz 3 9 43) (ra 1 9 3 (ra 1 7 2 (rz 2 10 10)))) (ra 1 9 3 (ra 1 3 3 (ra 1 7 2 (rz 2 10 10))))) (ra 1 9 3 (.alt 3 .u (.alt 7 .l (ra 1 8 3 (rz 2 10 10)) (ra 1 8 3 (ra 1 7 2 (rz 2 10 10)))) (ra 1 8 3 (ra 1 3 3 (ra 1 7 2 (rz 2 10 10))))))))))) (.s (.r (ra 3 0 4 (.grp 63 true (ri 3 3 4) [66] (rz 2 6 0)))) (.s (.r (rz 10 0 163985)) (.s (.r (rz 10 0 163985)) (.s (.r (rz 1 0 0)) (.s (.r (rz 2 0 0)) (.s (.s (.r (rz 2 0 4)) (.b (.s (.r (rz 2 0 0)) (.c (.s (.r (ra 4 0 33 (.grp 90 true (ri 1 4 0) [91] (ra 2 5 0 (.grp 93 true (ri 1 7 0) [94] (ra 2 8 0 (.grp 96 true (ri 4 10 145) [100] (rz 2 14 0)))))))) (.n)) (.s (.r (rz 2 0 0)) (.c (.s (.s (.r (ra 5 0 33 (.grp 108 false (ri 2 5 0) [110] (ra 2 7 0 (.grp 112 false (ri 2 9 0) [114] (ra 2 11 0 (.grp 116 false (ri 2 13 0) [118] (rz 1 15 0)))))))) (.c (.s (.r (rz 1 0 0)) (.n)) (.n))) (.s (.r (ra 4 0 36 (.grp 123 true (ri 3 4 36) [126] (rz 2 7 0)))) (.s (.s (.r (rz 2 0 4)) (.b (.j [130] (.s (.r (rz 2 0 0)) (.c (.n) (.s (.r (rz 2 0 0)) (.c (.n) (.s (.r (rz 2 0 0)) (.c (.n) (.s (.r (rz 2 0 0)) (.c (.n) (.r (rz 2 0 0)))))))))) (.c (.s (.r (ra 5 0 144 (.grp 140 true (ri 1 5 0) [141] (rz 2 6 0)))) (.n)) (.j [143] (.s (.r (rz 2 0 0)) (.c (.n) (.s (.r (rz 2 0 0)) (.c (.n) (.s (.r (rz 2 0 0)) (.c (.n) (.r (rz 2 0 0)))))))) (.c (.s (.r (ra 5 0 144 (.grp 152 true (ri 1 5 0) [153] (rz 2 6 0)))) (.n)) (.j [155] (.s (.r (rz 2 0 0)) (.c (.n) (.r (rz 2 0 0)))) (.c (.s (.r (ra 5 0 144 (.grp 162 true (ri 2 5 0) [164] (.grp 164 false (ri 4 7 36) [168] (.grp 168 true (ri 3 11 36) [171] (.grp 164 false (ri 1 14 0) [172] (.grp 162 true (ri 1 15 0) [173] (rz 2 16 0)))))))) (.n)) (.n))))))))) (.s (.r (rz 1 0 0)) (.n))))) (.s (.r (rz 2 0 0)) (.c (.s (.r (rz 8 0 5162)) (.s (.r (ra 4 0 33 (.grp 185 true (ri 1 4 0) [186] (ra 2 5 0 (.grp 188 true (ri 1 7 0) [189] (ra 2 8 0 (.grp 191 true (ri 2 10 0) [193] (ra 2 12 0 (.grp 195 true (ri 5 14 528) [200] (ra 2 19 0 (.grp 202 true (ri 4 21 132) [206] (rz 2 25 0)))))))))))) (.n))) (.s (.r (rz 2 0 0)) (.c (.s (.r (ra 4 0 33 (.grp 213 true (ri 1 4 0) [214] (ra 2 5 0 (.grp 216 true (ri 2 7 4) [218] (ra 2 9 0 (.grp 220 true (ri 4 11 144) [224] (ra 2 15 0 (.grp 226 true (ri 6 17 272) [232] (ra 2 23 0 (.grp 234 true (ri 8 25 37136) [242] (ra 2 33 0 (.grp 244 true (ri 3 35 4) [247] (.grp 247 true (ri 3 38 4) [250] (.grp 244 true (ri 2 41 0) [252] (rz 2 43 0)))))))))))))))) (.n)) (.s (.r (rz 2 0 0)) (.c (.s (.r (ra 4 0 33 (.grp 259 true (ri 1 4 0) [260] (ra 2 5 0 (.grp 262 true (ri 1 7 0) [263] (ra 2 8 0 (.grp 265 true (ri 4 10 144) [269] (ra 2 14 0 (.grp 271 true (ri 7 16 9488) [278] (rz 2 23 0)))))))))) (.n)) (.s (.r (rz 2 0 0)) (.c (.s (.s (.r (ra 5 0 33 (.grp 286 false (ri 2 5 0) [288] (ra 2 7 0 (.grp 290 false (ri 5 9 144) [295] (ra 2 14 0 (.grp 297 false (ri 6 16 272) [303] (rz 1 22 0)))))))) (.c (.s (.r (rz 1 0 0)) (.n)) (.n))) (.s (.r (rz 11 0 2320)) (.s (.r (rz 4 0 32)) (.n)))) (.s (.r (rz 2 0 0)) (.c (.s (.s (.r (ra 5 0 33 (.grp 323 false (ri 2 5 0) [325] (ra 2 7 0 (.grp 327 false (ri 3 9 4) [330] (ra 2 12 0 (.grp 332 false (ri 7 14 260) [339] (rz 1 21 0)))))))) (.c (.s (.r (rz 1 0 0)) (.n)) (.n))) (.s (.r (rz 9 0 168208)) (.s (.r (ra 8 0 9284 (.grp 355 true (ri 8 8 33040) [363] (rz 2 16 0)))) (.n)))) (.s (.r (rz 2 0 0)) (.c (.s (.r (ra 4 0 33 (.grp 370 true (ri 1 4 0) [371] (ra 2 5 0 (.grp 373 true (ri 4 7 144) [377] (rz 2 11 0)))))) (.n)) (.s (.r (rz 2 0 0)) (.c (.s (.r (ra 4 0 33 (.grp 384 true (ri 1 4 0) [385] (ra 2 5 0 (.grp 387 true (ri 3 7 36) [390] (rz 2 10 0)))))) (.n)) (.s (.r (rz 2 0 0)) (.c (.s (.r (rz 11 0 2320)) (.s (.r (ra 4 0 33 (.grp 406 true (ri 2 4 4) [408] (ra 2 6 0 (.grp 410 true (ri 1 8 0) [411] (ra 2 9 0 (.grp 413 true (ri 3 11 4) [416] (rz 2 14 0)))))))) (.n))) (.s (.r (rz 2 0 0)) (.c (.s (.r (ra 4 0 33 (.grp 423 true (ri 2 4 4) [425] (ra 2 6 0 (.grp 427 true (ri 4 8 16) [431] (ra 2 12 0 (.grp 433 true (ri 5 14 16) [438] (rz 2 19 0)))))))) (.n)) (.s (.r (rz 2 0 0)) (.c (.s (.r (ra 4 0 33 (.grp 445 true (ri 1 4 0) [446] (ra 2 5 0 (.grp 448 true (ri 3 7 36) [451] (ra 2 10 0 (.grp 453 true (ri 4 12 144) [457] (rz 2 16 0)))))))) (.n)) (.j [459] (.s (.r (rz 2 0 0)) (.c (.n) (.r (rz 2 0 0)))) (.c (.s (.r (rz 4 0 33)) (.n)) (.n))))))))))))))))))))))))))))) (.s (.r (rz 1 0 0)) (.n))))))))))))) func62 rfl (by kernel_rfl) (by kernel_rfl) h

/- 70: loanword/graph.operands$1 -/
def F_graph_operands_1 (t0 : Value) (w : World) (K : VW) : Prop :=
 pw w (Instr.box 61 t0) fun t1 w1 =>
 fl w1 t1 61 0 59 fun t4 => bt .eql 59 t4 (Value.int .u8 0) fun t5 => K t5 w1
theorem ok_graph_operands_1 {t0 : Value} {w : World} {K : VW} (h : F_graph_operands_1 t0 w K) : oCall prog n_graph_operands_1 #[t0] w K :=
  okC false (.s (.r (rz 2 0 2)) (.s (.r (rz 4 0 4)) (.n))) func70 rfl (by kernel_rfl) (by kernel_rfl) h

/- 80: loanword/graph.head$1 -/
def F_graph_head_1 (t0 t1 t2 : Value) (w : World) (K : VW) : Prop :=
 lo w 3 t1 fun t6 => bf .lss 3 t0 t6 fun t7 => sJoin (fun K1 => gIf t7 false (fl w t2 53 1 3 fun t11 => bf .geq 3 t0 t11 fun t12 => K1 [t12] w) (K1 [undef] w)) (fun s2 _d3 w4 =>
 oPick t7 tr_ (s2.getD 0 undef) fun t13 => K t13 w4)
theorem ok_graph_head_1 {t0 t1 t2 : Value} {w : World} {K : VW} (h : F_graph_head_1 t0 t1 t2 w K) : oCall prog n_graph_head_1 #[t0, t1, t2] w K :=
  okC false (.s (.r (rz 1 0 0)) (.s (.r (ra 4 0 4 (.grp 8 false (ri 4 4 16) [12] (rz 2 8 0)))) (.n))) func80 rfl (by kernel_rfl) (by kernel_rfl) h

/- 81: loanword/graph.outlives -/
def F_graph_outlives (t0 : Value) (w : World) (K : VW) : Prop :=
 pw w (Instr.box 53 t0) fun t1 w1 =>
 pw w1 (Instr.alloc 153 true (.tuple #[])) fun t3 w2 =>
 pw w2 (Instr.alloc 153 true (.tuple #[])) fun t4 w3 =>
 fl w3 t1 53 4 23 fun t12 => fl w3 t1 53 3 3 fun t14 => bt .add 3 t14 (i6 1) fun t15 => pp (Instr.sliceAt 23 t12 none (some t15) none) fun t16 => ca n_graph_implied #[t16, t3] w3 fun _t17 w4 =>
 fl w4 t1 53 2 49 fun t19 => pp (Builtin.len_ #[49] 3 #[t19]) fun t20 => sLoop [(i6 0)] w4 (fun s6 _d7 w8 K5 =>
 bf .lss 3 (s6.getD 0 undef) t20 fun t22 => oCond t22 (xl w8 49 t19 (s6.getD 0 undef) 157 fun t25 => pw w8 (Instr.alloc 157 true (.tuple #[])) fun t6 w9 =>
 so w9 157 t6 t25 fun w10 => fl w10 t6 157 0 3 fun t27 => fl w10 t6 157 1 3 fun t29 => pp (Builtin.min_ #[3, 3] 3 #[t27, t29]) fun t30 => bt .lss 3 t30 (i6 0) fun t31 => sJoin (fun K11 => gIf t31 false (fl w10 t6 157 0 3 fun t34 => fl w10 t6 157 1 3 fun t36 => pp (Builtin.max_ #[3, 3] 3 #[t34, t36]) fun t37 => fl w10 t1 53 1 3 fun t39 => bf .geq 3 t37 t39 fun t40 => K11 [t40] w10) (K11 [undef] w10)) (fun s12 _d13 w14 =>
 oPick t31 tr_ (s12.getD 0 undef) fun t41 => sJoin (fun K15 => gIf t41 false (fl w14 t6 157 0 3 fun t44 => fl w14 t6 157 1 3 fun t46 => bf .eql 3 t44 t46 fun t47 => K15 [t47] w14) (K15 [undef] w14)) (fun s16 _d17 w18 =>
 oPick t41 tr_ (s16.getD 0 undef) fun t48 => oCond t48 (K fa_ w18) (sJoin (fun K19 =>
 bt .gtr 3 (s6.getD 0 undef) (i6 0) fun t50 => oCond t50 (fl w18 t1 53 2 49 fun t52 => bt .sub 3 (s6.getD 0 undef) (i6 1) fun t54 => xl w18 49 t52 t54 157 fun t56 => pw w18 (Instr.alloc 157 true (.tuple #[])) fun t7 w23 =>
 so w23 157 t7 t56 fun w24 => fl w24 t7 157 0 3 fun t58 => fl w24 t6 157 0 3 fun t60 => bf .gtr 3 t58 t60 fun t61 => sJoin (fun K25 => gIf t61 false (fl w24 t7 157 0 3 fun t64 => fl w24 t6 157 0 3 fun t66 => bf .eql 3 t64 t66 fun t67 => K25 [t67] w24) (K25 [undef] w24)) (fun s26 _d27 w28 =>
 sJoin (fun K29 => gIf (s26.getD 0 undef) true (fl w28 t7 157 1 3 fun t70 => fl w28 t6 157 1 3 fun t72 => bf .geq 3 t70 t72 fun t73 => K29 [t73] w28) (K29 [undef] w28)) (fun s30 _d31 w32 =>
 sJoin (fun K33 => gIf t61 false (oPick (s26.getD 0 undef) (s30.getD 0 undef) fa_ fun t74 => K33 [t74] w32) (K33 [undef] w32)) (fun s34 _d35 w36 =>
 oPick t61 tr_ (s34.getD 0 undef) fun t75 => oCond t75 (K fa_ w36) (K19 [] w36))))) (K19 [] w18)) (fun _s20 _d21 w22 =>
 fl w22.drew t6 157 0 3 fun t77 => fl w22.drew t6 157 1 3 fun t79 => px 153 t4 t77 fun t80 => px 152 t80 t79 fun t81 => so w22.drew 4 t81 tr_ fun w37 => bt .add 3 (s6.getD 0 undef) (i6 1) fun t82 => K5 [t82] w37))))) (fl w8 t1 53 1 3 fun t84 => sLoop [(i6 0)] w8 (fun s39 _d40 w41 K38 =>
 bf .lss 3 (s39.getD 0 undef) t84 fun t86 => oCond t86 (fl w41 t1 53 1 3 fun t89 => sLoop [(i6 0)] w41 (fun s43 _d44 w45 K42 =>
 bf .lss 3 (s43.getD 0 undef) t89 fun t91 => oCond t91 (fl w45 t1 53 1 3 fun t94 => sLoop [(i6 0)] w45 (fun s47 _d48 w49 K46 =>
 bf .lss 3 (s47.getD 0 undef) t94 fun t96 => oCond t96 (px 153 t4 (s39.getD 0 undef) fun t100 => xl w49 152 t100 (s43.getD 0 undef) 4 fun t102 => sJoin (fun K50 => gIf t102 true (px 153 t4 (s43.getD 0 undef) fun t106 => xl w49 152 t106 (s47.getD 0 undef) 4 fun t108 => K50 [t108] w49) (K50 [undef] w49)) (fun s51 _d52 w53 =>
 oPick t102 (s51.getD 0 undef) fa_ fun t109 => sJoin (fun K54 => gIf t109 true (bf .neq 3 (s39.getD 0 undef) (s47.getD 0 undef) fun t113 => K54 [t113] w53) (K54 [undef] w53)) (fun s55 _d56 w57 =>
 oPick t109 (s55.getD 0 undef) fa_ fun t114 => sJoin (fun K58 => gIf t114 true (px 153 t4 (s39.getD 0 undef) fun t118 => xl w57 152 t118 (s47.getD 0 undef) 4 fun t120 => pp (Op.unary .not t120) fun t121 => K58 [t121] w57) (K58 [undef] w57)) (fun s59 _d60 w61 =>
 oPick t114 (s59.getD 0 undef) fa_ fun t122 => oCond t122 (K fa_ w61) (bt .add 3 (s47.getD 0 undef) (i6 1) fun t123 => K46 [t123] w61))))) (bf .neq 3 (s39.getD 0 undef) (s43.getD 0 undef) fun t126 => sJoin (fun K62 => gIf t126 true (px 153 t3 (s39.getD 0 undef) fun t130 => xl w49 152 t130 (s43.getD 0 undef) 4 fun t132 => K62 [t132] w49) (K62 [undef] w49)) (fun s63 _d64 w65 =>
 oPick t126 (s63.getD 0 undef) fa_ fun t133 => sJoin (fun K66 => gIf t133 true (px 153 t4 (s39.getD 0 undef) fun t137 => xl w65 152 t137 (s43.getD 0 undef) 4 fun t139 => pp (Op.unary .not t139) fun t140 => K66 [t140] w65) (K66 [undef] w65)) (fun s67 _d68 w69 =>
 oPick t133 (s67.getD 0 undef) fa_ fun t141 => oCond t141 (K fa_ w69) (bt .add 3 (s43.getD 0 undef) (i6 1) fun t142 => K42 [t142] w69)))))) (bt .add 3 (s39.getD 0 undef) (i6 1) fun t143 => K38 [t143] w45))) (K tr_ w41))))
theorem ok_graph_outlives {t0 : Value} {w : World} {K : VW} (h : F_graph_outlives t0 w K) : oCall prog n_graph_outlives #[t0] w K :=
  okC false (.s (.r (rz 2 0 2)) (.s (.r (rz 2 0 10)) (.s (.r (rz 7 0 8260)) (.s (.s (.r (rz 4 0 4)) (.b (.lp [21] (.s (.r (rz 1 0 0)) (.s (.c (.n) (.n)) (.s (.b (.s (.r (rz 6 0 2192)) (.s (.s (.r (ra 7 0 68 (.grp 32 false (ri 8 7 4164) [40] (ra 2 15 0 (.grp 42 false (ri 5 17 68) [47] (rz 1 22 0)))))) (.c (.s (.r (rz 1 0 0)) (.n)) (.n))) (.j [] (.s (.r (rz 2 0 0)) (.c (.s (.r (rz 8 0 41988)) (.s (.r (ra 6 0 68 (.grp 62 false (ri 6 6 68) [68] (.grp 68 true (ri 5 12 68) [73] (.grp 62 false (ri 1 17 0) [74] (rz 1 18 0)))))) (.c (.s (.r (rz 1 0 0)) (.n)) (.n)))) (.n))) (.r (rz 7 0 8260)))))) (.r (rz 2 0 0)))))))) (.s (.s (.r (rz 3 0 4)) (.b (.lp [85] (.s (.r (rz 1 0 0)) (.s (.c (.n) (.n)) (.s (.b (.s (.r (rz 2 0 0)) (.s (.r (rz 3 0 4)) (.b (.lp [90] (.s (.r (rz 1 0 0)) (.s (.c (.n) (.n)) (.s (.b (.s (.r (rz 2 0 0)) (.s (.s (.r (rz 3 0 4)) (.b (.lp [95] (.s (.r (rz 1 0 0)) (.s (.c (.n) (.n)) (.s (.b (.s (.r (rz 2 0 0)) (.s (.r (ra 6 0 256 (.grp 103 true (ri 5 6 256) [108] (ra 2 11 0 (.grp 110 true (ri 3 13 0) [113] (ra 2 16 0 (.grp 115 true (ri 6 18 256) [121] (rz 1 24 0)))))))) (.c (.s (.r (rz 1 0 0)) (.n)) (.n))))) (.r (rz 2 0 0)))))))) (.s (.r (ra 4 0 0 (.grp 127 true (ri 5 4 256) [132] (ra 2 9 0 (.grp 134 true (ri 6 11 256) [140] (rz 1 17 0)))))) (.c (.s (.r (rz 1 0 0)) (.n)) (.n)))))) (.r (rz 2 0 0)))))))))) (.r (rz 2 0 0)))))))) (.s (.r (rz 1 0 0)) (.n))))))) func81 rfl (by kernel_rfl) (by kernel_rfl) h

/- 82: (loanword/graph.asker).point$1 -/
def F_graph_asker_point_1 (t0 t1 : Value) (w : World) (K : VW) : Prop :=
 bt .geq 3 t0 (i6 0) fun t5 => sJoin (fun K1 => gIf t5 true (lo w 3 t1 fun t8 => bf .lss 3 t0 t8 fun t9 => K1 [t9] w) (K1 [undef] w)) (fun s2 _d3 w4 =>
 oPick t5 (s2.getD 0 undef) fa_ fun t10 => K t10 w4)
theorem ok_graph_asker_point_1 {t0 t1 : Value} {w : World} {K : VW} (h : F_graph_asker_point_1 t0 t1 w K) : oCall prog n_graph_asker_point_1 #[t0, t1] w K :=
  okC false (.s (.r (rz 1 0 0)) (.s (.r (ra 3 0 0 (.grp 6 true (ri 3 3 4) [9] (rz 2 6 0)))) (.n))) func82 rfl (by kernel_rfl) (by kernel_rfl) h

/- 83: (loanword/graph.asker).operand -/
def F_graph_asker_operand (t0 t1 : Value) (w : World) (K : VW) : Prop :=
 pw w (Instr.box 101 t0) fun t2 w1 =>
 pw w1 (Instr.box 61 t1) fun t3 w2 =>
 pw w2 (Instr.alloc 25 true (.tuple #[])) fun t4 w3 =>
 fl w3 t3 61 0 59 fun t9 => bt .eql 59 t9 (Value.int .u8 1) fun t11 => oCond t11 (pp (Instr.build 25 #[(0, (Value.int .u8 1))]) fun t12 => fl w3 t3 61 2 58 fun t14 => ca n_graph_zero #[t14] w3 fun t15 w4 =>
 so w4 25 t4 t12 fun w5 => pq w5 (cellSem 25 t4) fun r6 => K (.tuple #[r6, t15]) w5) (bt .eql 59 t9 (Value.int .u8 2) fun t17 => oCond t17 (pp (Instr.build 25 #[(0, (Value.int .u8 2))]) fun t18 => fl w3.drew t3 61 2 58 fun t20 => ca n_graph_zero #[t20] w3.drew fun t21 w7 =>
 sJoin (fun K8 => gIf t21 true (fl w7 t3 61 1 2 fun t24 => bt .eql 2 t24 (i6 0) fun t25 => K8 [t25] w7) (K8 [undef] w7)) (fun s9 _d10 w11 =>
 sJoin (fun K12 => gIf (s9.getD 0 undef) false (pf 61 t3 1 fun t27 => K12 [t27] w11) (K12 [undef] w11)) (fun s13 _d14 w15 =>
 ((sJoin (fun K16 => gIf (s9.getD 0 undef) false (pw w15 (Instr.loadAt 2 (s13.getD 0 undef)) fun t28 w20 =>
 bt .eql 2 t28 (i6 1) fun t29 => K16 [t29] w20) (K16 [undef] w15)) (fun s17 _d18 w19 =>
 sJoin (fun K21 => gIf t21 true (oPick (s9.getD 0 undef) tr_ (s17.getD 0 undef) fun t30 => K21 [t30] w19) (K21 [undef] w19)) (fun s22 _d23 w24 =>
 oPick t21 (s22.getD 0 undef) fa_ fun t31 => so w24 25 t4 t18 fun w25 => pq w25 (cellSem 25 t4) fun r26 => K (.tuple #[r26, t31]) w25))) ∧
 (so w15 25 t4 t18 fun w27 => sJoin (fun K28 => gIf (s9.getD 0 undef) false (pw w27 (Instr.loadAt 2 (s13.getD 0 undef)) fun t28_33 w32 =>
 bt .eql 2 t28_33 (i6 1) fun t29_34 => K28 [t29_34] w32) (K28 [undef] w27)) (fun s29 _d30 w31 =>
 sJoin (fun K35 => gIf t21 true (oPick (s9.getD 0 undef) tr_ (s29.getD 0 undef) fun t30_39 => K35 [t30_39] w31) (K35 [undef] w31)) (fun s36 _d37 w38 =>
 oPick t21 (s36.getD 0 undef) fa_ fun t31_40 => pq w38 (cellSem 25 t4) fun r41 => K (.tuple #[r41, t31_40]) w38))))))) (lo w3 101 t2 fun t32 => fl w3 t3 61 2 58 fun t34 => ca n_graph_asker_spot #[t32, t34] w3 fun t35 w42 =>
 pw w42 (Instr.alloc 99 true (.tuple #[])) fun t6 w43 =>
 so w43 99 t6 t35 fun w44 => fl w44 t6 99 2 4 fun t37 => sJoin (fun K45 => gIf t37 true (fl w44 t3 61 1 2 fun t40 => bt .eql 2 t40 (i6 0) fun t41 => K45 [t41] w44) (K45 [undef] w44)) (fun s46 _d47 w48 =>
 oPick t37 (s46.getD 0 undef) fa_ fun t42 => fl w48 t3 61 0 59 fun t44 => bt .eql 59 t44 (Value.int .u8 3) fun t46 => oCond t46 (fl w48.drew t6 99 0 25 fun t48 => sJoin (fun K49 => gIf t42 true (fl w48.drew t6 99 0 25 fun t52 => ca n_types_Copies #[t52] w48.drew fun t53 w53 =>
 Ext w48.drew w53 ∧
 K49 [t53] w53) (K49 [undef] w48.drew)) (fun s50 _d51 w52 =>
 oPick t42 (s50.getD 0 undef) fa_ fun t54 => so w52 25 t4 t48 fun w54 => pq w54 (cellSem 25 t4) fun r55 => K (.tuple #[r55, t54]) w54)) (bt .eql 59 t44 (Value.int .u8 4) fun t56 => oCond t56 (fl w48.drew t6 99 0 25 fun t58 => sJoin (fun K56 => gIf t42 true (fl w48.drew t6 99 0 25 fun t62 => ca n_types_Copies #[t62] w48.drew fun t63 w60 =>
 Ext w48.drew w60 ∧
 pp (Op.unary .not t63) fun t64 => K56 [t64] w60) (K56 [undef] w48.drew)) (fun s57 _d58 w59 =>
 oPick t42 (s57.getD 0 undef) fa_ fun t65 => sJoin (fun K61 => gIf t65 true (pf 99 t6 1 fun t67 => K61 [t67] w59) (K61 [undef] w59)) (fun s62 _d63 w64 =>
 ((sJoin (fun K65 => gIf t65 true (pw w64 (Instr.loadAt 3 (s62.getD 0 undef)) fun t68 w69 =>
 Ext w64 w69 ∧
 bt .lss 3 t68 (i6 2) fun t69 => K65 [t69] w69) (K65 [undef] w64)) (fun s66 _d67 w68 =>
 oPick t65 (s66.getD 0 undef) fa_ fun t70 => so w68 25 t4 t58 fun w70 => pq w70 (cellSem 25 t4) fun r71 => K (.tuple #[r71, t70]) w70)) ∧
 (so w64 25 t4 t58 fun w72 => sJoin (fun K73 => gIf t65 true (pw w72 (Instr.loadAt 3 (s62.getD 0 undef)) fun t68_78 w77 =>
 Ext w72 w77 ∧
 bt .lss 3 t68_78 (i6 2) fun t69_79 => K73 [t69_79] w77) (K73 [undef] w72)) (fun s74 _d75 w76 =>
 oPick t65 (s74.getD 0 undef) fa_ fun t70_80 => pq w76 (cellSem 25 t4) fun r81 => K (.tuple #[r81, t70_80]) w76)))))) (pp (Instr.build 25 #[]) fun t71 => so w48 25 t4 t71 fun w82 => pq w82 (cellSem 25 t4) fun r83 => K (.tuple #[r83, fa_]) w82)))))
theorem ok_graph_asker_operand {t0 t1 : Value} {w : World} {K : VW} (h : F_graph_asker_operand t0 t1 w K) : oCall prog n_graph_asker_operand #[t0, t1] w K :=
  okC false (.s (.r (rz 4 0 42)) (.s (.s (.r (rz 2 0 4)) (.b (.s (.r (rz 2 0 0)) (.c (.s (.r (rz 6 0 656)) (.n)) (.s (.r (rz 2 0 0)) (.c (.s (.r (ra 5 0 144 (.grp 22 true (ri 4 5 4) [26] (.grp 26 false (ri 1 9 0) [27] (.bth (.grp 26 false (ri 2 10 2) [29] (.grp 22 true (ri 1 12 0) [30] (rz 3 13 8))) (ra 1 14 2 (.grp 26 false (ri 2 10 2) [29] (.grp 22 true (ri 1 12 0) [30] (ra 1 13 0 (rz 1 15 0)))))))))) (.n)) (.n))))))) (.s (.r (rz 6 0 2705)) (.s (.r (ra 3 0 4 (.grp 38 true (ri 3 3 4) [41] (rz 2 6 0)))) (.s (.s (.r (rz 2 0 4)) (.b (.s (.r (rz 2 0 0)) (.c (.s (.r (ra 4 0 4 (.grp 50 true (ri 3 4 52) [53] (rz 3 7 8)))) (.n)) (.s (.r (rz 2 0 0)) (.c (.s (.r (ra 4 0 4 (.grp 60 true (ri 4 4 52) [64] (ra 2 8 0 (.grp 66 true (ri 1 10 0) [67] (.bth (.grp 66 true (ri 2 11 3) [69] (rz 3 13 8)) (ra 1 14 2 (.grp 66 true (ri 2 11 3) [69] (ra 1 13 0 (rz 1 15 0)))))))))) (.n)) (.n))))))) (.s (.r (rz 3 0 8)) (.n))))))) func83 rfl (by kernel_rfl) (by kernel_rfl) h

/- 84: (loanword/graph.asker).point$2 -/
def F_graph_asker_point_2 (t0 t1 : Value) (w : World) (K : VW) : Prop :=
 pw w (Instr.box 25 t0) fun t2 w1 =>
 fl w1 t2 25 0 22 fun t6 => bf .eql 22 t6 t1 fun t8 => K t8 w1
theorem ok_graph_asker_point_2 {t0 t1 : Value} {w : World} {K : VW} (h : F_graph_asker_point_2 t0 t1 w K) : oCall prog n_graph_asker_point_2 #[t0, t1] w K :=
  okC false (.s (.r (rz 2 0 2)) (.s (.r (rz 5 0 4)) (.n))) func84 rfl (by kernel_rfl) (by kernel_rfl) h

/- 85: (loanword/graph.asker).point$3 -/
def F_graph_asker_point_3 (t0 t1 t2 : Value) (w : World) (K : VW) : Prop :=
 fl w t1 64 4 62 fun t6 => pp (Instr.makeFunc (.func 87) #[] #[t2]) fun t8 => ca n_slices_EqualFunc_api_Operand_api_Type_api_Operand_api_Type #[t6, t0, t8] w fun t9 w1 =>
 K t9 w1
theorem ok_graph_asker_point_3 {t0 t1 t2 : Value} {w : World} {K : VW} (h : F_graph_asker_point_3 t0 t1 t2 w K) : oCall prog n_graph_asker_point_3 #[t0, t1, t2] w K :=
  okC false (.s (.r (rz 1 0 0)) (.s (.r (rz 6 0 516)) (.n))) func85 rfl (by kernel_rfl) (by kernel_rfl) h

/- 87: (loanword/graph.asker).point$3$1 -/
def F_graph_asker_point_3_1 (t0 t1 t2 : Value) (w : World) (K : VW) : Prop :=
 pw w (Instr.box 61 t0) fun t3 w1 =>
 pw w1 (Instr.box 25 t1) fun t4 w2 =>
 lo w2 101 t2 fun t9 => lo w2 61 t3 fun t10 => ca n_graph_asker_operand #[t9, t10] w2 fun t11 w3 =>
 pe t11 0 fun t12 => pe t11 1 fun t13 => pw w3 (Instr.alloc 25 true (.tuple #[])) fun t6 w4 =>
 so w4 25 t6 t12 fun w5 => sJoin (fun K6 => gIf t13 true (lo w5 25 t6 fun t16 => lo w5 25 t4 fun t17 => ca n_types_Alike #[t16, t17] w5 fun t18 w10 =>
 K6 [t18] w10) (K6 [undef] w5)) (fun s7 _d8 w9 =>
 oPick t13 (s7.getD 0 undef) fa_ fun t19 => K t19 w9)
theorem ok_graph_asker_point_3_1 {t0 t1 t2 : Value} {w : World} {K : VW} (h : F_graph_asker_point_3_1 t0 t1 t2 w K) : oCall prog n_graph_asker_point_3_1 #[t0, t1, t2] w K :=
  okC false (.s (.r (rz 3 0 10)) (.s (.r (rz 9 0 40997)) (.s (.r (ra 2 0 0 (.grp 15 true (ri 3 2 37) [18] (rz 2 5 0)))) (.n)))) func87 rfl (by kernel_rfl) (by kernel_rfl) h

/- 88: loanword/graph.rest -/
def F_graph_rest (t0 t1 : Value) (w : World) (K : VW) : Prop :=
 pw w (Instr.box 64 t0) fun t2 w1 =>
 pw w1 (Instr.box 142 t1) fun t3 w2 =>
 fl w2.drew t3 142 0 4 fun t8 => fl w2.drew t3 142 1 4 fun t15 => fl w2.drew t3 142 2 4 fun t23 => fl w2.drew t3 142 3 4 fun t31 => fl w2.drew t3 142 4 4 fun t39 => fl w2.drew t3 142 5 4 fun t46 => fl w2.drew t3 142 6 4 fun t53 => fl w2.drew t3 142 7 4 fun t60 => fl w2.drew t3 142 8 4 fun t67 => fl w2.drew t3 142 9 4 fun t74 => sJoin (fun K3 => gIf t8 false (fl w2.drew t2 64 1 58 fun t11 => ca n_graph_zero #[t11] w2.drew fun t12 w7 =>
 Ext w2.drew w7 ∧
 K3 [t12] w7) (K3 [undef] w2.drew)) (fun s4 _d5 w6 =>
 oPick t8 tr_ (s4.getD 0 undef) fun t13 => sJoin (fun K8 => gIf t15 false (fl w6 t2 64 2 61 fun t19 => cv (Value.func (.func 100) #[] #[]) #[t19] w6 fun t20 w12 =>
 Ext w6 w12 ∧
 K8 [t20] w12) (K8 [undef] w6)) (fun s9 _d10 w11 =>
 oPick t15 tr_ (s9.getD 0 undef) fun t21 => sJoin (fun K13 => gIf t23 false (fl w11 t2 64 3 61 fun t27 => cv (Value.func (.func 100) #[] #[]) #[t27] w11 fun t28 w17 =>
 Ext w11 w17 ∧
 K13 [t28] w17) (K13 [undef] w11)) (fun s14 _d15 w16 =>
 oPick t23 tr_ (s14.getD 0 undef) fun t29 => sJoin (fun K18 => gIf t31 false (fl w16 t2 64 4 62 fun t34 => pp (Builtin.len_ #[62] 3 #[t34]) fun t35 => bt .eql 3 t35 (i6 0) fun t36 => K18 [t36] w16) (K18 [undef] w16)) (fun s19 _d20 w21 =>
 oPick t31 tr_ (s19.getD 0 undef) fun t37 => sJoin (fun K22 => gIf t39 false (fl w21 t2 64 5 9 fun t42 => bt .eql 9 t42 (Value.string { data := #[] }) fun t43 => K22 [t43] w21) (K22 [undef] w21)) (fun s23 _d24 w25 =>
 oPick t39 tr_ (s23.getD 0 undef) fun t44 => sJoin (fun K26 => gIf t46 false (fl w25 t2 64 6 58 fun t49 => ca n_graph_zero #[t49] w25 fun t50 w30 =>
 Ext w25 w30 ∧
 K26 [t50] w30) (K26 [undef] w25)) (fun s27 _d28 w29 =>
 oPick t46 tr_ (s27.getD 0 undef) fun t51 => sJoin (fun K31 => gIf t53 false (fl w29 t2 64 7 4 fun t56 => pp (Op.unary .not t56) fun t57 => K31 [t57] w29) (K31 [undef] w29)) (fun s32 _d33 w34 =>
 oPick t53 tr_ (s32.getD 0 undef) fun t58 => sJoin (fun K35 => gIf t60 false (fl w34 t2 64 8 3 fun t63 => bt .eql 3 t63 (i6 0) fun t64 => K35 [t64] w34) (K35 [undef] w34)) (fun s36 _d37 w38 =>
 oPick t60 tr_ (s36.getD 0 undef) fun t65 => sJoin (fun K39 => gIf t67 false (fl w38 t2 64 9 3 fun t70 => bt .eql 3 t70 (i6 0) fun t71 => K39 [t71] w38) (K39 [undef] w38)) (fun s40 _d41 w42 =>
 oPick t67 tr_ (s40.getD 0 undef) fun t72 => sJoin (fun K43 => gIf t74 false (fl w42 t2 64 11 3 fun t77 => bt .eql 3 t77 (i6 0) fun t78 => K43 [t78] w42) (K43 [undef] w42)) (fun s44 _d45 w46 =>
 oPick t74 tr_ (s44.getD 0 undef) fun t79 => pw w46 (Instr.buildSlice 159 10 #[(0, t13), (1, t21), (2, t29), (3, t37), (4, t44), (5, t51), (6, t58), (7, t65), (8, t72), (9, t79)]) fun t80 w47 =>
 ca n_slices_Contains_bool_bool #[t80, fa_] w47 fun t82 w48 =>
 pp (Op.unary .not t82) fun t83 => K t83 w48))))))))))
theorem ok_graph_rest {t0 t1 : Value} {w : World} {K : VW} (h : F_graph_rest t0 t1 w K) : oCall prog n_graph_rest #[t0, t1] w K :=
  okC false (.s (.r (rz 3 0 10)) (.s (.r (rz 1 0 0)) (.s (.r (ra 3 0 4 (ra 2 7 4 (ra 2 15 4 (ra 2 23 4 (ra 2 31 4 (ra 2 38 4 (ra 2 45 4 (ra 2 52 4 (ra 2 59 4 (ra 2 66 4 (.grp 9 false (ri 3 3 52) [12] (ra 1 6 0 (ra 1 9 0 (.grp 16 false (ri 4 10 208) [20] (ra 1 14 0 (ra 1 17 0 (.grp 24 false (ri 4 18 208) [28] (ra 1 22 0 (ra 1 25 0 (ra 1 33 0 (ra 1 40 0 (.grp 32 false (ri 4 26 4) [36] (ra 1 30 0 (.grp 40 false (ri 3 34 4) [43] (ra 1 37 0 (.grp 47 false (ri 3 41 52) [50] (ra 1 44 0 (ra 1 47 0 (ra 1 54 0 (ra 1 61 0 (ra 1 68 0 (.grp 54 false (ri 3 48 4) [57] (ra 1 51 0 (.grp 61 false (ri 3 55 4) [64] (ra 1 58 0 (.grp 68 false (ri 3 62 4) [71] (ra 1 65 0 (.grp 75 false (ri 3 69 4) [78] (rz 3 72 8)))))))))))))))))))))))))))))))))))))))) (.s (.r (rz 4 0 8)) (.n))))) func88 rfl (by kernel_rfl) (by kernel_rfl) h

/- 97: loanword/graph.implied -/
def F_graph_implied (t0 t1 : Value) (w : World) (K : VW) : Prop :=
 pw w (Instr.box 155 t1) fun t3 w1 =>
 pw w1 (Instr.alloc 162 true (.tuple #[])) fun t4 w2 =>
 pp (Instr.makeFunc (.func 104) #[] #[t3, t4]) fun t7 => so w2 162 t4 t7 fun w3 => pp (Builtin.len_ #[23] 3 #[t0]) fun t9 => sLoop [(i6 0)] w3 (fun s5 _d6 w7 K4 =>
 bf .lss 3 (s5.getD 0 undef) t9 fun t11 => oCond t11 (xl w7 23 t0 (s5.getD 0 undef) 25 fun t13 => pw w7 (Instr.alloc 25 true (.tuple #[])) fun t6 w8 =>
 so w8 25 t6 t13 fun w9 => lo w9.drew 162 t4 fun t14 => lo w9.drew 25 t6 fun t15 => ca n_types_Regions #[t15] w9.drew fun t16 w10 =>
 Ext w9.drew w10 ∧
 cv t14 #[t16] w10 fun _t17 w11 =>
 bt .add 3 (s5.getD 0 undef) (i6 1) fun t18 => K4 [t18] w11) (K (.tuple #[]) w7))
theorem ok_graph_implied {t0 t1 : Value} {w : World} {K : VW} (h : F_graph_implied t0 t1 w K) : oCall prog n_graph_implied #[t0, t1] w K :=
  okC false (.s (.r (rz 1 0 2)) (.s (.r (rz 1 0 2)) (.s (.r (rz 2 0 8)) (.s (.r (rz 3 0 0)) (.b (.lp [10] (.s (.r (rz 1 0 0)) (.s (.c (.n) (.n)) (.s (.b (.s (.r (rz 4 0 164)) (.r (rz 4 0 181)))) (.r (rz 2 0 0))))))))))) func97 rfl (by kernel_rfl) (by kernel_rfl) h

/- 98: loanword/graph.zero -/
def F_graph_zero (t0 : Value) (w : World) (K : VW) : Prop :=
 pw w (Instr.box 58 t0) fun t1 w1 =>
 fl w1 t1 58 0 3 fun t4 => bt .eql 3 t4 (i6 0) fun t5 => sJoin (fun K2 => gIf t5 true (fl w1 t1 58 1 56 fun t8 => pp (Builtin.len_ #[56] 3 #[t8]) fun t9 => bt .eql 3 t9 (i6 0) fun t10 => K2 [t10] w1) (K2 [undef] w1)) (fun s3 _d4 w5 =>
 oPick t5 (s3.getD 0 undef) fa_ fun t11 => K t11 w5)
theorem ok_graph_zero {t0 : Value} {w : World} {K : VW} (h : F_graph_zero t0 w K) : oCall prog n_graph_zero #[t0] w K :=
  okC false (.s (.r (rz 2 0 2)) (.s (.r (ra 4 0 4 (.grp 6 true (ri 4 4 4) [10] (rz 2 8 0)))) (.n))) func98 rfl (by kernel_rfl) (by kernel_rfl) h

/- 100: loanword/graph.rest$1 -/
def F_graph_rest_1 (t0 : Value) (w : World) (K : VW) : Prop :=
 pw w (Instr.box 61 t0) fun t1 w1 =>
 fl w1 t1 61 0 59 fun t4 => bt .eql 59 t4 (Value.int .u8 0) fun t5 => sJoin (fun K2 => gIf t5 true (fl w1 t1 61 1 2 fun t8 => bt .eql 2 t8 (i6 0) fun t9 => K2 [t9] w1) (K2 [undef] w1)) (fun s3 _d4 w5 =>
 oPick t5 (s3.getD 0 undef) fa_ fun t10 => sJoin (fun K6 => gIf t10 true (fl w5 t1 61 2 58 fun t13 => ca n_graph_zero #[t13] w5 fun t14 w10 =>
 K6 [t14] w10) (K6 [undef] w5)) (fun s7 _d8 w9 =>
 oPick t10 (s7.getD 0 undef) fa_ fun t15 => K t15 w9))
theorem ok_graph_rest_1 {t0 : Value} {w : World} {K : VW} (h : F_graph_rest_1 t0 w K) : oCall prog n_graph_rest_1 #[t0] w K :=
  okC false (.s (.r (rz 2 0 2)) (.s (.r (ra 4 0 4 (.grp 6 true (ri 3 4 4) [9] (ra 2 7 0 (.grp 11 true (ri 3 9 36) [14] (rz 2 12 0)))))) (.n))) func100 rfl (by kernel_rfl) (by kernel_rfl) h

/- 104: loanword/graph.implied$1 -/
def F_graph_implied_1 (t0 t1 t2 : Value) (w : World) (K : VW) : Prop :=
 pp (Builtin.len_ #[26] 3 #[t0]) fun t7 => bt .eql 3 t7 (i6 0) fun t8 => oCond t8 (K (.tuple #[]) w) (pp (Instr.sliceAt 26 t0 (some (i6 1)) none none) fun t10 => pp (Builtin.len_ #[26] 3 #[t10]) fun t11 => sLoop [(i6 0)] w (fun s2 _d3 w4 K1 =>
 bf .lss 3 (s2.getD 0 undef) t11 fun t13 => oCond t13 (xl w4 26 t10 (s2.getD 0 undef) 3 fun t15 => lo w4.drew 155 t1 fun t16 => xl w4.drew 26 t0 (i6 0) 3 fun t20 => oNil t16 fun t21 => px 153 t21 t15 fun t22 => px 152 t22 t20 fun t23 => so w4.drew 4 t23 tr_ fun w5 => bt .add 3 (s2.getD 0 undef) (i6 1) fun t24 => K1 [t24] w5) (lo w4.drew 162 t2 fun t25 => pp (Instr.sliceAt 26 t0 (some (i6 1)) none none) fun t27 => cv t25 #[t27] w4.drew fun _t28 w6 =>
 K (.tuple #[]) w6)))
theorem ok_graph_implied_1 {t0 t1 t2 : Value} {w : World} {K : VW} (h : F_graph_implied_1 t0 t1 t2 w K) : oCall prog n_graph_implied_1 #[t0, t1, t2] w K :=
  okC false (.s (.s (.r (rz 3 0 0)) (.c (.n) (.n))) (.s (.s (.r (rz 4 0 0)) (.b (.lp [12] (.s (.r (rz 1 0 0)) (.s (.c (.n) (.n)) (.s (.b (.s (.r (rz 3 0 4)) (.r (rz 9 0 131329)))) (.r (rz 2 0 0)))))))) (.r (rz 4 0 129)))) func104 rfl (by kernel_rfl) (by kernel_rfl) h

end Go.Proofs.Try
end

section
namespace Go.Proofs.Try
open Go.Sh
set_option maxRecDepth 100000
/- 29: slices.ContainsFunc[[]int,int] -/
def F_slices_ContainsFunc_int_int (t0 t1 : Value) (w : World) (K : VW) : Prop :=
 ca n_slices_IndexFunc_int_int #[t0, t1] w fun t7 w1 =>
 bt .geq 3 t7 (i6 0) fun t8 => K t8 w1
theorem ok_slices_ContainsFunc_int_int {t0 t1 : Value} {w : World} {K : VW} (h : F_slices_ContainsFunc_int_int t0 t1 w K) : oCall prog n_slices_ContainsFunc_int_int #[t0, t1] w K :=
  okC false (.s (.r (rz 1 0 0)) (.s (.r (rz 5 0 32)) (.n))) func29 rfl (by kernel_rfl) (by kernel_rfl) h

/- 58: slices.IndexFunc[[]int,int] -/
def F_slices_IndexFunc_int_int (t0 t1 : Value) (w : World) (K : VW) : Prop :=
 pp (Builtin.len_ #[26] 3 #[t0]) fun t7 => sLoop [(i6 0)] w (fun s2 _d3 w4 K1 =>
 bf .lss 3 (s2.getD 0 undef) t7 fun t9 => oCond t9 (xl w4 26 t0 (s2.getD 0 undef) 3 fun t15 => cv t1 #[t15] w4 fun t16 w5 =>
 oCond t16 (K (s2.getD 0 undef) w5) (bt .add 3 (s2.getD 0 undef) (i6 1) fun t18 => K1 [t18] w5)) (K (i6 (-1)) w4))
theorem ok_slices_IndexFunc_int_int {t0 t1 : Value} {w : World} {K : VW} (h : F_slices_IndexFunc_int_int t0 t1 w K) : oCall prog n_slices_IndexFunc_int_int #[t0, t1] w K :=
  okC false (.s (.r (rz 1 0 0)) (.s (.s (.r (rz 3 0 0)) (.b (.lp [8] (.s (.r (rz 1 0 0)) (.s (.c (.n) (.n)) (.s (.b (.s (.r (rz 2 0 0)) (.s (.r (rz 6 0 2304)) (.c (.s (.r (rz 2 0 0)) (.n)) (.n))))) (.r (rz 2 0 0)))))))) (.s (.r (rz 1 0 0)) (.n)))) func58 rfl (by kernel_rfl) (by kernel_rfl) h

/- 66: slices.Clone[[]loanword/api.Step,loanword/api.Step] -/
def F_slices_Clone_api_Step_api_Step (t0 : Value) (w : World) (K : VW) : Prop :=
 bt .eql 56 t0 (Value.slice Option.none 0 0) fun t4 => oCond t4 (K (Value.slice Option.none 0 0) w) (pw w (Instr.buildSlice 56 0 #[]) fun t5 w1 =>
 pw w1 (Builtin.append_ #[56, 56] 56 #[t5, t0]) fun t7 w2 =>
 K t7 w2)
theorem ok_slices_Clone_api_Step_api_Step {t0 : Value} {w : World} {K : VW} (h : F_slices_Clone_api_Step_api_Step t0 w K) : oCall prog n_slices_Clone_api_Step_api_Step #[t0] w K :=
  okC false (.s (.r (rz 1 0 0)) (.s (.s (.r (rz 2 0 0)) (.c (.s (.r (rz 1 0 0)) (.n)) (.n))) (.s (.r (rz 4 0 34)) (.n)))) func66 rfl (by kernel_rfl) (by kernel_rfl) h

/- 69: slices.DeleteFunc[[]loanword/api.Operand,loanword/api.Operand] -/
def F_slices_DeleteFunc_api_Operand_api_Operand (t0 t1 : Value) (w : World) (K : VW) : Prop :=
 ca n_slices_IndexFunc_api_Operand_api_Operand #[t0, t1] w fun t10 w1 =>
 bt .eql 3 t10 (i6 (-1)) fun t12 => oCond t12 (K t0 w1) (bt .add 3 t10 (i6 1) fun t15 => sLoop [t10, t15] w1 (fun s3 _d4 w5 K2 =>
 pp (Builtin.len_ #[62] 3 #[t0]) fun t18 => bf .lss 3 (s3.getD 1 undef) t18 fun t19 => oCond t19 (sJoin (fun K6 =>
 xl w5 62 t0 (s3.getD 1 undef) 61 fun t25 => pw w5 (Instr.alloc 61 true (.tuple #[])) fun t7 w10 =>
 so w10 61 t7 t25 fun w11 => lo w11 61 t7 fun t27 => cv t1 #[t27] w11 fun t28 w12 =>
 pp (Op.unary .not t28) fun t29 => oCond t29 (lo w12 61 t7 fun t32 => px 62 t0 (s3.getD 0 undef) fun t33 => so w12 61 t33 t32 fun w13 => bt .add 3 (s3.getD 0 undef) (i6 1) fun t35 => K6 [t35] w13) (K6 [(s3.getD 0 undef)] w12)) (fun s7 _d8 w9 =>
 bt .add 3 (s3.getD 1 undef) (i6 1) fun t21 => K2 [(s7.getD 0 undef), t21] w9)) (pp (Instr.sliceAt 62 t0 (some (s3.getD 0 undef)) none none) fun t38 => pw w5 (Builtin.clear_ #[62] 0 #[t38]) fun _ w14 =>
 pp (Instr.sliceAt 62 t0 none (some (s3.getD 0 undef)) none) fun t41 => K t41 w14)))
theorem ok_slices_DeleteFunc_api_Operand_api_Operand {t0 t1 : Value} {w : World} {K : VW} (h : F_slices_DeleteFunc_api_Operand_api_Operand t0 t1 w K) : oCall prog n_slices_DeleteFunc_api_Operand_api_Operand #[t0, t1] w K :=
  okC false (.s (.r (rz 1 0 0)) (.s (.r (rz 4 0 32)) (.s (.s (.r (rz 2 0 0)) (.c (.s (.r (rz 2 0 0)) (.n)) (.n))) (.s (.s (.r (rz 3 0 0)) (.b (.lp [5, 6] (.s (.s (.r (rz 4 0 0)) (.c (.n) (.n))) (.j [5] (.b (.s (.r (rz 6 0 2624)) (.s (.r (rz 4 0 36)) (.c (.s (.r (rz 5 0 528)) (.r (rz 3 0 0))) (.n))))) (.r (rz 3 0 0))))))) (.s (.r (rz 4 0 128)) (.s (.r (rz 4 0 0)) (.n))))))) func69 rfl (by kernel_rfl) (by kernel_rfl) h

/- 72: slices.ContainsFunc[[]loanword/api.Field,loanword/api.Field] -/
def F_slices_ContainsFunc_api_Field_api_Field (t0 t1 : Value) (w : World) (K : VW) : Prop :=
 ca n_slices_IndexFunc_api_Field_api_Field #[t0, t1] w fun t7 w1 =>
 bt .geq 3 t7 (i6 0) fun t8 => K t8 w1
theorem ok_slices_ContainsFunc_api_Field_api_Field {t0 t1 : Value} {w : World} {K : VW} (h : F_slices_ContainsFunc_api_Field_api_Field t0 t1 w K) : oCall prog n_slices_ContainsFunc_api_Field_api_Field #[t0, t1] w K :=
  okC false (.s (.r (rz 1 0 0)) (.s (.r (rz 5 0 32)) (.n))) func72 rfl (by kernel_rfl) (by kernel_rfl) h

/- 86: slices.EqualFunc[[]loanword/api.Operand,[]loanword/api.Type,loanword/api.Operand,loanword/api.Type] -/
def F_slices_EqualFunc_api_Operand_api_Type_api_Operand_api_Type (t0 t1 t2 : Value) (w : World) (K : VW) : Prop :=
 pp (Builtin.len_ #[62] 3 #[t0]) fun t11 => pp (Builtin.len_ #[23] 3 #[t1]) fun t13 => bf .neq 3 t11 t13 fun t14 => oCond t14 (K fa_ w) (pp (Builtin.len_ #[62] 3 #[t0]) fun t16 => sLoop [(i6 0)] w (fun s2 _d3 w4 K1 =>
 bf .lss 3 (s2.getD 0 undef) t16 fun t18 => oCond t18 (xl w4 62 t0 (s2.getD 0 undef) 61 fun t21 => pw w4 (Instr.alloc 61 true (.tuple #[])) fun t8 w5 =>
 so w5 61 t8 t21 fun w6 => xl w6 23 t1 (s2.getD 0 undef) 25 fun t25 => pw w6 (Instr.alloc 25 true (.tuple #[])) fun t9 w7 =>
 so w7 25 t9 t25 fun w8 => lo w8 61 t8 fun t27 => lo w8 25 t9 fun t28 => cv t2 #[t27, t28] w8 fun t29 w9 =>
 pp (Op.unary .not t29) fun t30 => oCond t30 (K fa_ w9) (bt .add 3 (s2.getD 0 undef) (i6 1) fun t31 => K1 [t31] w9)) (K tr_ w4)))
theorem ok_slices_EqualFunc_api_Operand_api_Type_api_Operand_api_Type {t0 t1 t2 : Value} {w : World} {K : VW} (h : F_slices_EqualFunc_api_Operand_api_Type_api_Operand_api_Type t0 t1 t2 w K) : oCall prog n_slices_EqualFunc_api_Operand_api_Type_api_Operand_api_Type #[t0, t1, t2] w K :=
  okC false (.s (.r (rz 1 0 0)) (.s (.s (.r (rz 5 0 0)) (.c (.s (.r (rz 1 0 0)) (.n)) (.n))) (.s (.s (.r (rz 3 0 0)) (.b (.lp [17] (.s (.r (rz 1 0 0)) (.s (.c (.n) (.n)) (.s (.b (.s (.r (rz 6 0 2192)) (.s (.r (rz 6 0 2624)) (.s (.r (rz 5 0 148)) (.c (.s (.r (rz 1 0 0)) (.n)) (.n)))))) (.r (rz 2 0 0)))))))) (.s (.r (rz 1 0 0)) (.n))))) func86 rfl (by kernel_rfl) (by kernel_rfl) h

/- 91: slices.ContainsFunc[[]loanword/api.Type,loanword/api.Type] -/
def F_slices_ContainsFunc_api_Type_api_Type (t0 t1 : Value) (w : World) (K : VW) : Prop :=
 ca n_slices_IndexFunc_api_Type_api_Type #[t0, t1] w fun t7 w1 =>
 bt .geq 3 t7 (i6 0) fun t8 => K t8 w1
theorem ok_slices_ContainsFunc_api_Type_api_Type {t0 t1 : Value} {w : World} {K : VW} (h : F_slices_ContainsFunc_api_Type_api_Type t0 t1 w K) : oCall prog n_slices_ContainsFunc_api_Type_api_Type #[t0, t1] w K :=
  okC false (.s (.r (rz 1 0 0)) (.s (.r (rz 5 0 32)) (.n))) func91 rfl (by kernel_rfl) (by kernel_rfl) h

/- 95: slices.IndexFunc[[]loanword/api.Operand,loanword/api.Operand] -/
def F_slices_IndexFunc_api_Operand_api_Operand (t0 t1 : Value) (w : World) (K : VW) : Prop :=
 pp (Builtin.len_ #[62] 3 #[t0]) fun t7 => sLoop [(i6 0)] w (fun s2 _d3 w4 K1 =>
 bf .lss 3 (s2.getD 0 undef) t7 fun t9 => oCond t9 (xl w4 62 t0 (s2.getD 0 undef) 61 fun t15 => cv t1 #[t15] w4 fun t16 w5 =>
 oCond t16 (K (s2.getD 0 undef) w5) (bt .add 3 (s2.getD 0 undef) (i6 1) fun t18 => K1 [t18] w5)) (K (i6 (-1)) w4))
theorem ok_slices_IndexFunc_api_Operand_api_Operand {t0 t1 : Value} {w : World} {K : VW} (h : F_slices_IndexFunc_api_Operand_api_Operand t0 t1 w K) : oCall prog n_slices_IndexFunc_api_Operand_api_Operand #[t0, t1] w K :=
  okC false (.s (.r (rz 1 0 0)) (.s (.s (.r (rz 3 0 0)) (.b (.lp [8] (.s (.r (rz 1 0 0)) (.s (.c (.n) (.n)) (.s (.b (.s (.r (rz 2 0 0)) (.s (.r (rz 6 0 2304)) (.c (.s (.r (rz 2 0 0)) (.n)) (.n))))) (.r (rz 2 0 0)))))))) (.s (.r (rz 1 0 0)) (.n)))) func95 rfl (by kernel_rfl) (by kernel_rfl) h

/- 96: slices.IndexFunc[[]loanword/api.Field,loanword/api.Field] -/
def F_slices_IndexFunc_api_Field_api_Field (t0 t1 : Value) (w : World) (K : VW) : Prop :=
 pp (Builtin.len_ #[82] 3 #[t0]) fun t7 => sLoop [(i6 0)] w (fun s2 _d3 w4 K1 =>
 bf .lss 3 (s2.getD 0 undef) t7 fun t9 => oCond t9 (xl w4 82 t0 (s2.getD 0 undef) 122 fun t15 => cv t1 #[t15] w4 fun t16 w5 =>
 oCond t16 (K (s2.getD 0 undef) w5) (bt .add 3 (s2.getD 0 undef) (i6 1) fun t18 => K1 [t18] w5)) (K (i6 (-1)) w4))
theorem ok_slices_IndexFunc_api_Field_api_Field {t0 t1 : Value} {w : World} {K : VW} (h : F_slices_IndexFunc_api_Field_api_Field t0 t1 w K) : oCall prog n_slices_IndexFunc_api_Field_api_Field #[t0, t1] w K :=
  okC false (.s (.r (rz 1 0 0)) (.s (.s (.r (rz 3 0 0)) (.b (.lp [8] (.s (.r (rz 1 0 0)) (.s (.c (.n) (.n)) (.s (.b (.s (.r (rz 2 0 0)) (.s (.r (rz 6 0 2304)) (.c (.s (.r (rz 2 0 0)) (.n)) (.n))))) (.r (rz 2 0 0)))))))) (.s (.r (rz 1 0 0)) (.n)))) func96 rfl (by kernel_rfl) (by kernel_rfl) h

/- 101: slices.Contains[[]bool,bool] -/
def F_slices_Contains_bool_bool (t0 t1 : Value) (w : World) (K : VW) : Prop :=
 ca n_slices_Index_bool_bool #[t0, t1] w fun t7 w1 =>
 bt .geq 3 t7 (i6 0) fun t8 => K t8 w1
theorem ok_slices_Contains_bool_bool {t0 t1 : Value} {w : World} {K : VW} (h : F_slices_Contains_bool_bool t0 t1 w K) : oCall prog n_slices_Contains_bool_bool #[t0, t1] w K :=
  okC false (.s (.r (rz 1 0 0)) (.s (.r (rz 5 0 32)) (.n))) func101 rfl (by kernel_rfl) (by kernel_rfl) h

/- 103: slices.IndexFunc[[]loanword/api.Type,loanword/api.Type] -/
def F_slices_IndexFunc_api_Type_api_Type (t0 t1 : Value) (w : World) (K : VW) : Prop :=
 pp (Builtin.len_ #[23] 3 #[t0]) fun t7 => sLoop [(i6 0)] w (fun s2 _d3 w4 K1 =>
 bf .lss 3 (s2.getD 0 undef) t7 fun t9 => oCond t9 (xl w4 23 t0 (s2.getD 0 undef) 25 fun t15 => cv t1 #[t15] w4 fun t16 w5 =>
 oCond t16 (K (s2.getD 0 undef) w5) (bt .add 3 (s2.getD 0 undef) (i6 1) fun t18 => K1 [t18] w5)) (K (i6 (-1)) w4))
theorem ok_slices_IndexFunc_api_Type_api_Type {t0 t1 : Value} {w : World} {K : VW} (h : F_slices_IndexFunc_api_Type_api_Type t0 t1 w K) : oCall prog n_slices_IndexFunc_api_Type_api_Type #[t0, t1] w K :=
  okC false (.s (.r (rz 1 0 0)) (.s (.s (.r (rz 3 0 0)) (.b (.lp [8] (.s (.r (rz 1 0 0)) (.s (.c (.n) (.n)) (.s (.b (.s (.r (rz 2 0 0)) (.s (.r (rz 6 0 2304)) (.c (.s (.r (rz 2 0 0)) (.n)) (.n))))) (.r (rz 2 0 0)))))))) (.s (.r (rz 1 0 0)) (.n)))) func103 rfl (by kernel_rfl) (by kernel_rfl) h

/- 105: slices.Index[[]bool,bool] -/
def F_slices_Index_bool_bool (t0 t1 : Value) (w : World) (K : VW) : Prop :=
 pp (Builtin.len_ #[159] 3 #[t0]) fun t7 => sLoop [(i6 0)] w (fun s2 _d3 w4 K1 =>
 bf .lss 3 (s2.getD 0 undef) t7 fun t9 => oCond t9 (xl w4 159 t0 (s2.getD 0 undef) 4 fun t15 => bf .eql 4 t1 t15 fun t16 => oCond t16 (K (s2.getD 0 undef) w4) (bt .add 3 (s2.getD 0 undef) (i6 1) fun t18 => K1 [t18] w4)) (K (i6 (-1)) w4))
theorem ok_slices_Index_bool_bool {t0 t1 : Value} {w : World} {K : VW} (h : F_slices_Index_bool_bool t0 t1 w K) : oCall prog n_slices_Index_bool_bool #[t0, t1] w K :=
  okC false (.s (.r (rz 1 0 0)) (.s (.s (.r (rz 3 0 0)) (.b (.lp [8] (.s (.r (rz 1 0 0)) (.s (.c (.n) (.n)) (.s (.b (.s (.r (rz 2 0 0)) (.s (.r (rz 6 0 256)) (.c (.s (.r (rz 2 0 0)) (.n)) (.n))))) (.r (rz 2 0 0)))))))) (.s (.r (rz 1 0 0)) (.n)))) func105 rfl (by kernel_rfl) (by kernel_rfl) h

end Go.Proofs.Try
end

section
namespace Go.Proofs.Try
open Go.Sh
set_option maxRecDepth 100000
/- 18: loanword/types.Regions -/
def F_types_Regions (t0 : Value) (w : World) (K : VW) : Prop :=
 pw w (Instr.box 25 t0) fun t1 w1 =>
 lo w1 25 t1 fun t3 => ca n_types_may #[t3] w1 fun t4 w2 =>
 pp (Op.unary .not t4) fun t5 => oCond t5 (K (Value.slice Option.none 0 0) w2) (lo w2 25 t1 fun t6 => ca n_types_regions #[t6] w2 fun t7 w3 =>
 K t7 w3)
theorem ok_types_Regions {t0 : Value} {w : World} {K : VW} (h : F_types_Regions t0 w K) : oCall prog n_types_Regions #[t0] w K :=
  okC false (.s (.r (rz 2 0 2)) (.s (.s (.r (rz 3 0 9)) (.c (.s (.r (rz 1 0 0)) (.n)) (.n))) (.s (.r (rz 3 0 9)) (.n)))) func18 rfl (by kernel_rfl) (by kernel_rfl) h

/- 19: loanword/types.Alike -/
def F_types_Alike (t0 t1 : Value) (w : World) (K : VW) : Prop :=
 pw w (Instr.box 25 t0) fun t2 w1 =>
 pw w1 (Instr.box 25 t1) fun t3 w2 =>
 lo w2 25 t2 fun t5 => ca n_types_may #[t5] w2 fun t6 w3 =>
 sJoin (fun K4 => gIf t6 true (lo w3 25 t3 fun t8 => ca n_types_may #[t8] w3 fun t9 w8 =>
 K4 [t9] w8) (K4 [undef] w3)) (fun s5 _d6 w7 =>
 oPick t6 (s5.getD 0 undef) fa_ fun t10 => sJoin (fun K9 => gIf t10 true (lo w7 25 t2 fun t12 => lo w7 25 t3 fun t13 => ca n_types_alike #[t12, t13, (Value.func (.func 41) #[] #[])] w7 fun t14 w13 =>
 K9 [t14] w13) (K9 [undef] w7)) (fun s10 _d11 w12 =>
 oPick t10 (s10.getD 0 undef) fa_ fun t15 => K t15 w12))
theorem ok_types_Alike {t0 t1 : Value} {w : World} {K : VW} (h : F_types_Alike t0 t1 w K) : oCall prog n_types_Alike #[t0, t1] w K :=
  okC false (.s (.r (rz 3 0 10)) (.s (.r (ra 3 0 9 (.grp 7 true (ri 2 3 9) [9] (ra 2 5 0 (.grp 11 true (ri 3 7 37) [14] (rz 2 10 0)))))) (.n))) func19 rfl (by kernel_rfl) (by kernel_rfl) h

/- 28: loanword/types.Own -/
def F_types_Own (t0 : Value) (w : World) (K : VW) : Prop :=
 pw w (Instr.box 25 t0) fun t1 w1 =>
 pw w1 (Instr.alloc 25 true (.tuple #[])) fun t2 w2 =>
 lo w2 25 t1 fun t4 => ca n_types_may #[t4] w2 fun t5 w3 =>
 pp (Op.unary .not t5) fun t6 => oCond t6 (pp (Instr.build 25 #[]) fun t7 => so w3 25 t2 t7 fun w4 => pq w4 (cellSem 25 t2) fun r5 => K (.tuple #[r5, (i6 2)]) w4) (lo w3 25 t1 fun t8 => ca n_types_own #[t8] w3 fun t9 w6 =>
 so w6 25 t2 t9 fun w7 => pq w7 (cellSem 25 t2) fun r8 => K (.tuple #[r8, (i6 0)]) w7)
theorem ok_types_Own {t0 : Value} {w : World} {K : VW} (h : F_types_Own t0 w K) : oCall prog n_types_Own #[t0] w K :=
  okC false (.s (.r (rz 3 0 10)) (.s (.s (.r (rz 3 0 9)) (.c (.s (.r (rz 3 0 8)) (.n)) (.n))) (.s (.r (rz 4 0 41)) (.n)))) func28 rfl (by kernel_rfl) (by kernel_rfl) h

/- 38: loanword/types.may -/
def F_types_may (t0 : Value) (w : World) (K : VW) : Prop :=
 pw w (Instr.box 25 t0) fun t1 w1 =>
 lo w1 25 t1 fun t3 => ca n_types_look #[t3, (i6 32), (i6 48)] w1 fun t4 w2 =>
 K t4 w2
theorem ok_types_may {t0 : Value} {w : World} {K : VW} (h : F_types_may t0 w K) : oCall prog n_types_may #[t0] w K :=
  okC false (.s (.r (rz 2 0 2)) (.s (.r (rz 3 0 9)) (.n))) func38 rfl (by kernel_rfl) (by kernel_rfl) h

/- 39: loanword/types.regions -/
def F_types_regions (t0 : Value) (w : World) (K : VW) : Prop :=
 pw w (Instr.box 25 t0) fun t1 w1 =>
 pw w1 (Instr.alloc 26 true (.tuple #[])) fun t3 w2 =>
 pp (Instr.makeFunc (.func 65) #[] #[t3]) fun t4 => ca n_types_walk #[t1, t4] w2 fun _t5 w3 =>
 lo w3 26 t3 fun t6 => K t6 w3
theorem ok_types_regions {t0 : Value} {w : World} {K : VW} (h : F_types_regions t0 w K) : oCall prog n_types_regions #[t0] w K :=
  okC false (.s (.r (rz 2 0 2)) (.s (.r (rz 1 0 2)) (.s (.r (rz 2 0 8)) (.s (.r (rz 2 0 1)) (.n))))) func39 rfl (by kernel_rfl) (by kernel_rfl) h

/- 40: loanword/types.alike -/
def F_types_alike (t0 t1 t2 : Value) (w : World) (K : VW) : Prop :=
 pw w (Instr.box 25 t0) fun t3 w1 =>
 pw w1 (Instr.box 25 t1) fun t4 w2 =>
 fl w2 t3 25 0 22 fun t8 => fl w2 t4 25 0 22 fun t10 => bf .neq 22 t8 t10 fun t11 => sJoin (fun K3 => gIf t11 false (fl w2 t3 25 1 4 fun t14 => fl w2 t4 25 1 4 fun t16 => bf .neq 4 t14 t16 fun t17 => K3 [t17] w2) (K3 [undef] w2)) (fun s4 _d5 w6 =>
 oPick t11 tr_ (s4.getD 0 undef) fun t18 => sJoin (fun K7 => gIf t18 false (fl w6 t3 25 3 3 fun t21 => fl w6 t4 25 3 3 fun t23 => bf .neq 3 t21 t23 fun t24 => K7 [t24] w6) (K7 [undef] w6)) (fun s8 _d9 w10 =>
 oPick t18 tr_ (s8.getD 0 undef) fun t25 => sJoin (fun K11 => gIf t25 false (fl w10 t3 25 2 3 fun t29 => fl w10 t4 25 2 3 fun t31 => cv t2 #[t29, t31] w10 fun t32 w15 =>
 pp (Op.unary .not t32) fun t33 => K11 [t33] w15) (K11 [undef] w10)) (fun s12 _d13 w14 =>
 oPick t25 tr_ (s12.getD 0 undef) fun t34 => oCond t34 (K fa_ w14) (fl w14.drew t3 25 4 23 fun t36 => pp (Builtin.len_ #[23] 3 #[t36]) fun t37 => bt .eql 3 t37 (i6 0) fun t38 => sJoin (fun K16 => gIf t38 false (fl w14.drew t3 25 4 23 fun t41 => xl w14.drew 23 t41 (i6 0) 25 fun t43 => fl w14.drew t4 25 4 23 fun t45 => xl w14.drew 23 t45 (i6 0) 25 fun t47 => ca n_types_alike #[t43, t47, t2] w14.drew fun t49 w20 =>
 K16 [t49] w20) (K16 [undef] w14.drew)) (fun s17 _d18 w19 =>
 oPick t38 tr_ (s17.getD 0 undef) fun t50 => K t50 w19)))))
theorem ok_types_alike {t0 t1 t2 : Value} {w : World} {K : VW} (h : F_types_alike t0 t1 t2 w K) : oCall prog n_types_alike #[t0, t1, t2] w K :=
  okC false (.s (.r (rz 3 0 10)) (.s (.s (.r (ra 6 0 68 (.grp 12 false (ri 5 6 68) [17] (ra 2 11 0 (.grp 19 false (ri 5 13 68) [24] (ra 2 18 0 (.grp 26 false (ri 7 20 2320) [33] (rz 1 27 0)))))))) (.c (.s (.r (rz 1 0 0)) (.n)) (.n))) (.s (.r (ra 5 0 4 (.grp 39 false (ri 10 5 541764) [49] (rz 2 15 0)))) (.n)))) func40 rfl (by kernel_rfl) (by kernel_rfl) h

/- 41: loanword/types.Alike$1 -/
def F_types_Alike_1 (_t0 _t1 : Value) (w : World) (K : VW) : Prop :=
 K tr_ w
theorem ok_types_Alike_1 {t0 t1 : Value} {w : World} {K : VW} (h : F_types_Alike_1 t0 t1 w K) : oCall prog n_types_Alike_1 #[t0, t1] w K :=
  okC false (.s (.r (rz 1 0 0)) (.s (.r (rz 1 0 0)) (.n))) func41 rfl (by kernel_rfl) (by kernel_rfl) h

/- 57: loanword/types.own -/
def F_types_own (t0 : Value) (w : World) (K : VW) : Prop :=
 pw w (Instr.box 25 t0) fun t1 w1 =>
 pw w1 (Instr.alloc 25 true (.tuple #[])) fun t2 w2 =>
 sJoin (fun K3 =>
 fl w2 t1 25 4 23 fun t4 => pp (Builtin.len_ #[23] 3 #[t4]) fun t5 => bt .gtr 3 t5 (i6 0) fun t6 => oCond t6 (fl w2 t1 25 4 23 fun t8 => xl w2 23 t8 (i6 0) 25 fun t10 => ca n_types_own #[t10] w2 fun t11 w7 =>
 pw w7 (Instr.buildSlice 23 1 #[(0, t11)]) fun t12 w8 =>
 pf 25 t1 4 fun t13 => so w8 23 t13 t12 fun w9 => K3 [] w9) (pf 25 t1 4 fun t14 => so w2 23 t14 (Value.slice Option.none 0 0) fun w10 => K3 [] w10)) (fun _s4 _d5 w6 =>
 lo w6 25 t1 fun t15 => so w6 25 t2 t15 fun w11 => pq w11 (cellSem 25 t2) fun r12 => K r12 w11)
theorem ok_types_own {t0 : Value} {w : World} {K : VW} (h : F_types_own t0 w K) : oCall prog n_types_own #[t0] w K :=
  okC false (.s (.r (rz 2 0 10)) (.j [] (.s (.r (rz 4 0 4)) (.c (.r (rz 8 0 35396)) (.r (rz 2 0 8)))) (.s (.r (rz 2 0 9)) (.n)))) func57 rfl (by kernel_rfl) (by kernel_rfl) h

/- 60: loanword/types.Structs -/
def F_types_Structs (t0 : Value) (w : World) (K : VW) : Prop :=
 pw w (Instr.box 40 t0) fun t1 w1 =>
 lo w1 40 t1 fun t9 => pp (Builtin.len_ #[40] 3 #[t9]) fun t10 => pw w1 (Instr.alloc 3 true (.tuple #[])) fun t4 w2 =>
 so w2 3 t4 t10 fun w3 => lo w3 3 t4 fun t11 => bt .gtr 3 t11 (i6 32) fun t12 => oCond t12 (K (.tuple #[(i6 32), (i6 2)]) w3) (pp (Instr.makeFunc (.func 71) #[] #[t1, t4]) fun t13 => pp (Instr.makeFunc (.func 74) #[] #[t1]) fun t14 => pp (Instr.makeFunc (.func 76) #[] #[t1]) fun t15 => pw w3 (Instr.buildSlice 130 3 #[(0, t13), (1, t14), (2, t15)]) fun t16 w4 =>
 pp (Builtin.len_ #[130] 3 #[t16]) fun t18 => sLoop [(i6 0)] w4 (fun s6 _d7 w8 K5 =>
 bf .lss 3 (s6.getD 0 undef) t18 fun t20 => oCond t20 (xl w8 130 t16 (s6.getD 0 undef) 78 fun t22 => lo w8 3 t4 fun t23 => ca n_types_first #[t23, t22] w8 fun t25 w9 =>
 lo w9 3 t4 fun t27 => bf .lss 3 t25 t27 fun t28 => oCond t28 (K (.tuple #[t25, (i6 2)]) w9) (bt .add 3 (s6.getD 0 undef) (i6 1) fun t30 => K5 [t30] w9)) (K (.tuple #[(i6 0), (i6 0)]) w8)))
theorem ok_types_Structs {t0 : Value} {w : World} {K : VW} (h : F_types_Structs t0 w K) : oCall prog n_types_Structs #[t0] w K :=
  okC false (.s (.r (rz 3 0 2)) (.s (.r (rz 4 0 161)) (.s (.s (.r (rz 2 0 1)) (.c (.s (.r (rz 2 0 0)) (.n)) (.n))) (.s (.r (rz 5 0 128)) (.s (.s (.r (rz 3 0 0)) (.b (.lp [19] (.s (.r (rz 1 0 0)) (.s (.c (.n) (.n)) (.s (.b (.s (.r (rz 3 0 4)) (.s (.r (rz 4 0 33)) (.s (.r (rz 3 0 4)) (.c (.s (.r (rz 3 0 0)) (.n)) (.n)))))) (.r (rz 2 0 0)))))))) (.s (.r (rz 2 0 0)) (.n))))))) func60 rfl (by kernel_rfl) (by kernel_rfl) h

/- 63: loanword/types.look -/
def F_types_look (t0 t1 t2 : Value) (w : World) (K : VW) : Prop :=
 pw w (Instr.box 25 t0) fun t3 w1 =>
 bt .eql 3 t2 (i6 0) fun t10 => oCond t10 (K fa_ w1) (fl w1 t3 25 4 23 fun t12 => pp (Builtin.len_ #[23] 3 #[t12]) fun t13 => bt .eql 3 t13 (i6 1) fun t14 => sJoin (fun K2 => gIf t14 true (fl w1 t3 25 4 23 fun t17 => xl w1 23 t17 (i6 0) 25 fun t19 => bt .sub 3 t2 (i6 1) fun t22 => ca n_types_look #[t19, t1, t22] w1 fun t23 w6 =>
 K2 [t23] w6) (K2 [undef] w1)) (fun s3 _d4 w5 =>
 oPick t14 (s3.getD 0 undef) fa_ fun t24 => fl w5 t3 25 1 4 fun t26 => pp (Op.unary .not t26) fun t27 => sJoin (fun K7 => gIf t27 true (fl w5 t3 25 2 3 fun t30 => bt .eql 3 t30 (i6 0) fun t31 => K7 [t31] w5) (K7 [undef] w5)) (fun s8 _d9 w10 =>
 oPick t27 (s8.getD 0 undef) fa_ fun t32 => fl w10 t3 25 0 22 fun t34 => sJoin (fun K11 =>
 bt .eql 22 t34 (Value.int .u8 1) fun t36 => oCond t36 (K11 [t36] w10) (bt .eql 22 t34 (Value.int .u8 2) fun t37 => K11 [t37] w10)) (fun s12 _d13 w14 =>
 oCond (s12.getD 0 undef) (sJoin (fun K15 => gIf t32 true (fl w14 t3 25 3 3 fun t41 => bt .eql 3 t41 (i6 0) fun t42 => K15 [t42] w14) (K15 [undef] w14)) (fun s16 _d17 w18 =>
 oPick t32 (s16.getD 0 undef) fa_ fun t43 => sJoin (fun K19 => gIf t43 true (fl w18 t3 25 4 23 fun t46 => pp (Builtin.len_ #[23] 3 #[t46]) fun t47 => bt .eql 3 t47 (i6 0) fun t48 => K19 [t48] w18) (K19 [undef] w18)) (fun s20 _d21 w22 =>
 oPick t43 (s20.getD 0 undef) fa_ fun t49 => K t49 w22))) (bt .eql 22 t34 (Value.int .u8 5) fun t51 => oCond t51 (sJoin (fun K23 => gIf t32 true (fl w14 t3 25 4 23 fun t55 => pp (Builtin.len_ #[23] 3 #[t55]) fun t56 => bt .eql 3 t56 (i6 0) fun t57 => K23 [t57] w14) (K23 [undef] w14)) (fun s24 _d25 w26 =>
 oPick t32 (s24.getD 0 undef) fa_ fun t58 => sJoin (fun K27 => gIf t58 true (fl w26 t3 25 3 3 fun t61 => bt .geq 3 t61 (i6 0) fun t62 => K27 [t62] w26) (K27 [undef] w26)) (fun s28 _d29 w30 =>
 oPick t58 (s28.getD 0 undef) fa_ fun t63 => sJoin (fun K31 => gIf t63 true (fl w30 t3 25 3 3 fun t66 => bf .lss 3 t66 t1 fun t68 => K31 [t68] w30) (K31 [undef] w30)) (fun s32 _d33 w34 =>
 oPick t63 (s32.getD 0 undef) fa_ fun t69 => K t69 w34)))) (bt .eql 22 t34 (Value.int .u8 3) fun t71 => oCond t71 (sJoin (fun K35 => gIf t32 true (fl w14 t3 25 3 3 fun t75 => bt .eql 3 t75 (i6 0) fun t76 => K35 [t76] w14) (K35 [undef] w14)) (fun s36 _d37 w38 =>
 oPick t32 (s36.getD 0 undef) fa_ fun t77 => sJoin (fun K39 => gIf t77 true (K39 [t24] w38) (K39 [undef] w38)) (fun s40 _d41 w42 =>
 oPick t77 (s40.getD 0 undef) fa_ fun t80 => K t80 w42))) (bt .eql 22 t34 (Value.int .u8 4) fun t82 => oCond t82 (fl w14 t3 25 2 3 fun t84 => bt .geq 3 t84 (i6 (-1)) fun t85 => sJoin (fun K43 => gIf t85 true (fl w14 t3 25 3 3 fun t88 => bt .eql 3 t88 (i6 0) fun t89 => K43 [t89] w14) (K43 [undef] w14)) (fun s44 _d45 w46 =>
 oPick t85 (s44.getD 0 undef) fa_ fun t90 => sJoin (fun K47 => gIf t90 true (K47 [t24] w46) (K47 [undef] w46)) (fun s48 _d49 w50 =>
 oPick t90 (s48.getD 0 undef) fa_ fun t93 => K t93 w50))) (K fa_ w14))))))))
theorem ok_types_look {t0 t1 t2 : Value} {w : World} {K : VW} (h : F_types_look t0 t1 t2 w K) : oCall prog n_types_look #[t0, t1, t2] w K :=
  okC false (.s (.r (rz 2 0 2)) (.s (.s (.r (rz 2 0 0)) (.c (.s (.r (rz 1 0 0)) (.n)) (.n))) (.s (.r (ra 5 0 4 (.grp 15 true (ri 8 5 32836) [23] (rz 2 13 0)))) (.s (.r (ra 4 0 4 (.grp 28 true (ri 3 4 4) [31] (rz 2 7 0)))) (.s (.s (.r (rz 2 0 4)) (.b (.j [35] (.s (.r (rz 2 0 0)) (.c (.n) (.r (rz 2 0 0)))) (.c (.s (.r (ra 2 0 0 (.grp 39 true (ri 3 2 4) [42] (ra 2 5 0 (.grp 44 true (ri 4 7 4) [48] (rz 2 11 0)))))) (.n)) (.s (.r (rz 2 0 0)) (.c (.s (.r (ra 2 0 0 (.grp 53 true (ri 4 2 4) [57] (ra 2 6 0 (.grp 59 true (ri 3 8 4) [62] (ra 2 11 0 (.grp 64 true (ri 4 13 4) [68] (rz 2 17 0)))))))) (.n)) (.s (.r (rz 2 0 0)) (.c (.s (.r (ra 2 0 0 (.grp 73 true (ri 3 2 4) [76] (ra 2 5 0 (.grp 78 true (ri 1 7 0) [79] (rz 2 8 0)))))) (.n)) (.s (.r (rz 2 0 0)) (.c (.s (.r (ra 4 0 4 (.grp 86 true (ri 3 4 4) [89] (ra 2 7 0 (.grp 91 true (ri 1 9 0) [92] (rz 2 10 0)))))) (.n)) (.n))))))))))) (.s (.r (rz 1 0 0)) (.n))))))) func63 rfl (by kernel_rfl) (by kernel_rfl) h

/- 64: loanword/types.walk -/
def F_types_walk (t0 t1 : Value) (w : World) (K : VW) : Prop :=
 sJoin (fun K1 =>
 ff w t0 25 0 22 fun t7 => bt .eql 22 t7 (Value.int .u8 4) fun t8 => oCond t8 (cv t1 #[t0] w fun _t11 w5 =>
 K1 [] w5) (K1 [] w)) (fun _s2 _d3 w4 =>
 ff w4 t0 25 4 23 fun t15 => pp (Builtin.len_ #[23] 3 #[t15]) fun t16 => bt .gtr 3 t16 (i6 0) fun t17 => oCond t17 (ff w4 t0 25 4 23 fun t21 => px 23 t21 (i6 0) fun t22 => ca n_types_walk #[t22, t1] w4 fun _t24 w6 =>
 K (.tuple #[]) w6) (K (.tuple #[]) w4))
theorem ok_types_walk {t0 t1 : Value} {w : World} {K : VW} (h : F_types_walk t0 t1 w K) : oCall prog n_types_walk #[t0, t1] w K :=
  okC false (.j [] (.s (.r (rz 5 0 64)) (.c (.r (rz 3 0 32)) (.n))) (.s (.r (rz 6 0 64)) (.c (.r (rz 7 0 8256)) (.n)))) func64 rfl (by kernel_rfl) (by kernel_rfl) h

/- 65: loanword/types.regions$1 -/
def F_types_regions_1 (t0 t1 : Value) (w : World) (K : VW) : Prop :=
 lo w.drew 26 t1 fun t3 => ff w.drew t0 25 2 3 fun t7 => pw w.drew (Instr.buildSlice 26 1 #[(0, t7)]) fun t8 w1 =>
 Ext w.drew w1 ∧
 pw w1 (Builtin.append_ #[26, 26] 26 #[t3, t8]) fun t9 w2 =>
 so w2 26 t1 t9 fun w3 => K (.tuple #[]) w3
theorem ok_types_regions_1 {t0 t1 : Value} {w : World} {K : VW} (h : F_types_regions_1 t0 t1 w K) : oCall prog n_types_regions_1 #[t0, t1] w K :=
  okC false (.r (rz 8 0 44289)) func65 rfl (by kernel_rfl) (by kernel_rfl) h

/- 68: loanword/types.Anew -/
def F_types_Anew (t0 t1 : Value) (w : World) (K : VW) : Prop :=
 pw w (Instr.box 25 t0) fun t2 w1 =>
 pw w1 (Instr.box 26 t1) fun t3 w2 =>
 pw w2 (Instr.alloc 25 true (.tuple #[])) fun t4 w3 =>
 lo w3.drew 25 t2 fun t7 => ca n_types_may #[t7] w3.drew fun t8 w4 =>
 pp (Op.unary .not t8) fun t9 => sJoin (fun K5 => gIf t9 false (lo w4 25 t2 fun t11 => lo w4 26 t3 fun t14 => pp (Builtin.len_ #[26] 3 #[t14]) fun t15 => ca n_types_Regions #[t11] w4 fun t12 w9 =>
 Ext w4 w9 ∧
 pp (Builtin.len_ #[26] 3 #[t12]) fun t13 => bf .neq 3 t13 t15 fun t16 => K5 [t16] w9) (K5 [undef] w4)) (fun s6 _d7 w8 =>
 oPick t9 tr_ (s6.getD 0 undef) fun t17 => sJoin (fun K10 => gIf t17 false (lo w8 26 t3 fun t19 => ca n_slices_ContainsFunc_int_int #[t19, (Value.func (.func 93) #[] #[])] w8 fun t20 w14 =>
 K10 [t20] w14) (K10 [undef] w8)) (fun s11 _d12 w13 =>
 oPick t17 tr_ (s11.getD 0 undef) fun t21 => oCond t21 (pp (Instr.build 25 #[]) fun t22 => so w13 25 t4 t22 fun w15 => pq w15 (cellSem 25 t4) fun r16 => K (.tuple #[r16, (i6 2)]) w15) (lo w13 25 t2 fun t23 => ca n_types_own #[t23] w13 fun t24 w17 =>
 so w17 25 t2 t24 fun w18 => pw w18 (Instr.alloc 3 true (.tuple #[])) fun t6 w19 =>
 so w19 3 t6 (i6 0) fun w20 => pp (Instr.makeFunc (.func 94) #[] #[t3, t6]) fun t25 => ca n_types_walk #[t2, t25] w20 fun _t26 w21 =>
 lo w21 25 t2 fun t27 => so w21 25 t4 t27 fun w22 => pq w22 (cellSem 25 t4) fun r23 => K (.tuple #[r23, (i6 0)]) w22)))
theorem ok_types_Anew {t0 t1 : Value} {w : World} {K : VW} (h : F_types_Anew t0 t1 w K) : oCall prog n_types_Anew #[t0, t1] w K :=
  okC false (.s (.r (rz 4 0 42)) (.s (.s (.r (ra 4 0 9 (.grp 10 false [(4, .q), (7, .q), (8, .p), (5, .u), (6, .p), (9, .p)] [16] (ra 2 10 0 (.grp 18 false (ri 2 12 9) [20] (rz 1 14 0)))))) (.c (.s (.r (rz 3 0 8)) (.n)) (.n))) (.s (.r (rz 3 0 41)) (.s (.r (rz 2 0 10)) (.s (.r (rz 2 0 8)) (.s (.r (rz 3 0 9)) (.n))))))) func68 rfl (by kernel_rfl) (by kernel_rfl) h

/- 71: loanword/types.Structs$1 -/
def F_types_Structs_1 (t0 t1 t2 : Value) (w : World) (K : VW) : Prop :=
 lo w 40 t1 fun t6 => px 40 t6 t0 fun t8 => fl w t8 84 1 82 fun t10 => pp (Builtin.len_ #[82] 3 #[t10]) fun t12 => bt .lss 3 t12 (i6 1) fun t13 => sJoin (fun K1 => gIf t13 false (pp (Builtin.len_ #[82] 3 #[t10]) fun t16 => bt .gtr 3 t16 (i6 8) fun t17 => K1 [t17] w) (K1 [undef] w)) (fun s2 _d3 w4 =>
 oPick t13 tr_ (s2.getD 0 undef) fun t18 => sJoin (fun K5 => gIf t18 false (pp (Instr.makeFunc (.func 73) #[] #[t2]) fun t21 => ca n_slices_ContainsFunc_api_Field_api_Field #[t10, t21] w4 fun t22 w9 =>
 K5 [t22] w9) (K5 [undef] w4)) (fun s6 _d7 w8 =>
 oPick t18 tr_ (s6.getD 0 undef) fun t23 => K t23 w8))
theorem ok_types_Structs_1 {t0 t1 t2 : Value} {w : World} {K : VW} (h : F_types_Structs_1 t0 t1 t2 w K) : oCall prog n_types_Structs_1 #[t0, t1, t2] w K :=
  okC false (.s (.r (rz 1 0 0)) (.s (.r (rz 6 0 257)) (.s (.r (ra 4 0 0 (.grp 14 false (ri 3 4 0) [17] (ra 2 7 0 (.grp 19 false (ri 3 9 32) [22] (rz 2 12 0)))))) (.n)))) func71 rfl (by kernel_rfl) (by kernel_rfl) h

/- 73: loanword/types.Structs$1$1 -/
def F_types_Structs_1_1 (t0 t1 : Value) (w : World) (K : VW) : Prop :=
 pw w (Instr.box 122 t0) fun t2 w1 =>
 fl w1 t2 122 1 25 fun t5 => lo w1 3 t1 fun t6 => ca n_types_look #[t5, t6, (i6 48)] w1 fun t7 w2 =>
 pp (Op.unary .not t7) fun t8 => sJoin (fun K3 => gIf t8 false (fl w2 t2 122 1 25 fun t11 => ca n_types_regions #[t11] w2 fun t12 w7 =>
 pp (Builtin.len_ #[26] 3 #[t12]) fun t13 => bt .gtr 3 t13 (i6 0) fun t14 => K3 [t14] w7) (K3 [undef] w2)) (fun s4 _d5 w6 =>
 oPick t8 tr_ (s4.getD 0 undef) fun t15 => K t15 w6)
theorem ok_types_Structs_1_1 {t0 t1 : Value} {w : World} {K : VW} (h : F_types_Structs_1_1 t0 t1 w K) : oCall prog n_types_Structs_1_1 #[t0, t1] w K :=
  okC false (.s (.r (rz 2 0 2)) (.s (.r (ra 6 0 148 (.grp 9 false (ri 5 6 36) [14] (rz 2 11 0)))) (.n))) func73 rfl (by kernel_rfl) (by kernel_rfl) h

/- 74: loanword/types.Structs$2 -/
def F_types_Structs_2 (t0 t1 : Value) (w : World) (K : VW) : Prop :=
 lo w 40 t1 fun t4 => ca n_types_endless #[t4, t0] w fun t6 w1 =>
 K t6 w1
theorem ok_types_Structs_2 {t0 t1 : Value} {w : World} {K : VW} (h : F_types_Structs_2 t0 t1 w K) : oCall prog n_types_Structs_2 #[t0, t1] w K :=
  okC false (.s (.r (rz 1 0 0)) (.s (.r (rz 4 0 33)) (.n))) func74 rfl (by kernel_rfl) (by kernel_rfl) h

/- 75: loanword/types.endless -/
def F_types_endless (t0 t1 : Value) (w : World) (K : VW) : Prop :=
 pw w (Instr.alloc 151 true (.tuple #[])) fun t5 w1 =>
 pw w1 (Instr.buildSlice 26 1 #[(0, t1)]) fun t11 w2 =>
 sLoop [t11] w2 (fun s4 _d5 w6 K3 =>
 pp (Builtin.len_ #[26] 3 #[(s4.getD 0 undef)]) fun t13 => bt .gtr 3 t13 (i6 0) fun t14 => oCond t14 (xl w6 26 (s4.getD 0 undef) (i6 0) 3 fun t17 => pp (Instr.sliceAt 26 (s4.getD 0 undef) (some (i6 1)) none none) fun t19 => px 40 t0 t17 fun t22 => fl w6 t22 84 1 82 fun t24 => pp (Builtin.len_ #[82] 3 #[t24]) fun t25 => sLoop [t19, (i6 0)] w6 (fun s8 _d9 w10 K7 =>
 bf .lss 3 (s8.getD 1 undef) t25 fun t27 => oCond t27 (sJoin (fun K11 =>
 xl w10 82 t24 (s8.getD 1 undef) 122 fun t29 => pw w10 (Instr.alloc 122 true (.tuple #[])) fun t9 w15 =>
 so w15 122 t9 t29 fun w16 => pf 122 t9 1 fun t30 => fl w16 t30 25 0 22 fun t32 => bt .neq 22 t32 (Value.int .u8 5) fun t33 => sJoin (fun K17 => gIf t33 false (pf 122 t9 1 fun t35 => fl w16 t35 25 3 3 fun t37 => xl w16 151 t5 t37 4 fun t39 => K17 [t39] w16) (K17 [undef] w16)) (fun s18 _d19 w20 =>
 oPick t33 tr_ (s18.getD 0 undef) fun t40 => oCond t40 (K11 [(s8.getD 0 undef)] w20) (pf 122 t9 1 fun t41 => fl w20 t41 25 3 3 fun t43 => px 151 t5 t43 fun t44 => so w20 4 t44 tr_ fun w21 => pf 122 t9 1 fun t46 => fl w21 t46 25 3 3 fun t48 => pw w21 (Instr.buildSlice 26 1 #[(0, t48)]) fun t49 w22 =>
 pw w22 (Builtin.append_ #[26, 26] 26 #[(s8.getD 0 undef), t49]) fun t50 w23 =>
 K11 [t50] w23))) (fun s12 _d13 w14 =>
 bt .add 3 (s8.getD 1 undef) (i6 1) fun t51 => K7 [(s12.getD 0 undef), t51] w14)) (K3 [(s8.getD 0 undef)] w10))) (xl w6 151 t5 t1 4 fun t54 => K t54 w6))
theorem ok_types_endless {t0 t1 : Value} {w : World} {K : VW} (h : F_types_endless t0 t1 w K) : oCall prog n_types_endless #[t0, t1] w K :=
  okC false (.s (.r (rz 1 0 0)) (.s (.r (rz 1 0 2)) (.s (.r (rz 3 0 8)) (.s (.b (.lp [6] (.s (.s (.r (rz 3 0 0)) (.c (.n) (.n))) (.b (.s (.r (rz 4 0 16)) (.s (.r (rz 3 0 0)) (.s (.r (rz 7 0 256)) (.b (.lp [6, 26] (.s (.r (rz 1 0 0)) (.s (.c (.n) (.n)) (.j [6] (.b (.s (.r (rz 4 0 164)) (.s (.s (.r (ra 5 0 16 (.grp 34 false (ri 5 5 272) [39] (rz 1 10 0)))) (.c (.n) (.n))) (.s (.r (rz 5 0 528)) (.r (rz 7 0 2624)))))) (.r (rz 2 0 0)))))))))))))) (.s (.r (rz 4 0 16)) (.n)))))) func75 rfl (by kernel_rfl) (by kernel_rfl) h

/- 76: loanword/types.Structs$3 -/
def F_types_Structs_3 (t0 t1 : Value) (w : World) (K : VW) : Prop :=
 lo w 40 t1 fun t4 => pp (Instr.build 25 #[(0, (Value.int .u8 5)), (3, t0)]) fun t6 => ca n_types_words #[t4, t6] w fun t7 w1 =>
 bt .gtr 3 t7 (i6 16) fun t8 => K t8 w1
theorem ok_types_Structs_3 {t0 t1 : Value} {w : World} {K : VW} (h : F_types_Structs_3 t0 t1 w K) : oCall prog n_types_Structs_3 #[t0, t1] w K :=
  okC false (.s (.r (rz 1 0 0)) (.s (.r (rz 6 0 129)) (.n))) func76 rfl (by kernel_rfl) (by kernel_rfl) h

/- 77: loanword/types.words -/
def F_types_words (t0 t1 : Value) (w : World) (K : VW) : Prop :=
 pw w (Instr.box 25 t1) fun t3 w1 =>
 fl w1 t3 25 0 22 fun t9 => bt .neq 22 t9 (Value.int .u8 5) fun t10 => oCond t10 (K (i6 1) w1) (fl w1 t3 25 3 3 fun t13 => px 40 t0 t13 fun t14 => fl w1 t14 84 1 82 fun t16 => pp (Builtin.len_ #[82] 3 #[t16]) fun t17 => sLoop [(i6 0), (i6 0)] w1 (fun s3 _d4 w5 K2 =>
 bf .lss 3 (s3.getD 1 undef) t17 fun t19 => oCond t19 (xl w5 82 t16 (s3.getD 1 undef) 122 fun t21 => pw w5 (Instr.alloc 122 true (.tuple #[])) fun t7 w6 =>
 so w6 122 t7 t21 fun w7 => fl w7 t7 122 1 25 fun t25 => ca n_types_words #[t0, t25] w7 fun t26 w8 =>
 bf .add 3 (s3.getD 0 undef) t26 fun t27 => bt .gtr 3 t27 (i6 16) fun t29 => oCond t29 (K (i6 17) w8) (bt .add 3 (s3.getD 1 undef) (i6 1) fun t30 => K2 [t27, t30] w8)) (K (s3.getD 0 undef) w5)))
theorem ok_types_words {t0 t1 : Value} {w : World} {K : VW} (h : F_types_words t0 t1 w K) : oCall prog n_types_words #[t0, t1] w K :=
  okC false (.s (.r (rz 2 0 2)) (.s (.s (.r (rz 3 0 4)) (.c (.s (.r (rz 1 0 0)) (.n)) (.n))) (.s (.r (rz 1 0 0)) (.s (.s (.r (rz 8 0 1040)) (.b (.lp [5, 18] (.s (.r (rz 1 0 0)) (.s (.c (.n) (.n)) (.s (.b (.s (.r (rz 4 0 164)) (.s (.r (rz 7 0 576)) (.s (.r (rz 2 0 0)) (.c (.s (.r (rz 1 0 0)) (.n)) (.n)))))) (.r (rz 2 0 0)))))))) (.s (.r (rz 2 0 0)) (.n)))))) func77 rfl (by kernel_rfl) (by kernel_rfl) h

/- 78: loanword/types.first -/
def F_types_first (t0 t1 : Value) (w : World) (K : VW) : Prop :=
 sLoop [(i6 0)] w (fun s2 _d3 w4 K1 =>
 bf .lss 3 (s2.getD 0 undef) t0 fun t8 => oCond t8 (cv t1 #[(s2.getD 0 undef)] w4 fun t12 w5 =>
 oCond t12 (K (s2.getD 0 undef) w5) (bt .add 3 (s2.getD 0 undef) (i6 1) fun t14 => K1 [t14] w5)) (K t0 w4))
theorem ok_types_first {t0 t1 : Value} {w : World} {K : VW} (h : F_types_first t0 t1 w K) : oCall prog n_types_first #[t0, t1] w K :=
  okC false (.s (.r (rz 1 0 0)) (.s (.s (.r (rz 2 0 0)) (.b (.lp [7] (.s (.r (rz 1 0 0)) (.s (.c (.n) (.n)) (.s (.b (.s (.r (rz 2 0 0)) (.s (.r (rz 3 0 32)) (.c (.s (.r (rz 2 0 0)) (.n)) (.n))))) (.r (rz 2 0 0)))))))) (.s (.r (rz 2 0 0)) (.n)))) func78 rfl (by kernel_rfl) (by kernel_rfl) h

/- 79: loanword/types.May -/
def F_types_May (t0 t1 : Value) (w : World) (K : VW) : Prop :=
 pw w (Instr.box 25 t1) fun t3 w1 =>
 ca n_types_Structs #[t0] w1 fun t9 w2 =>
 pe t9 0 fun _t10 => pe t9 1 fun t11 => bt .eql 29 t11 (i6 0) fun t13 => sJoin (fun K3 => gIf t13 true (lo w2 25 t3 fun t15 => pp (Builtin.len_ #[40] 3 #[t0]) fun t17 => ca n_types_look #[t15, t17, (i6 48)] w2 fun t18 w7 =>
 K3 [t18] w7) (K3 [undef] w2)) (fun s4 _d5 w6 =>
 oPick t13 (s4.getD 0 undef) fa_ fun t19 => K t19 w6)
theorem ok_types_May {t0 t1 : Value} {w : World} {K : VW} (h : F_types_May t0 t1 w K) : oCall prog n_types_May #[t0, t1] w K :=
  okC false (.s (.r (rz 2 0 2)) (.s (.r (rz 7 0 8)) (.s (.r (ra 3 0 0 (.grp 14 true (ri 4 3 129) [18] (rz 2 7 0)))) (.n)))) func79 rfl (by kernel_rfl) (by kernel_rfl) h

/- 89: loanword/types.Fields -/
def F_types_Fields (t0 t1 : Value) (w : World) (K : VW) : Prop :=
 pw w (Instr.box 25 t1) fun t3 w1 =>
 lo w1 25 t3 fun t10 => ca n_types_May #[t0, t10] w1 fun t11 w2 =>
 pp (Op.unary .not t11) fun t12 => sJoin (fun K3 => gIf t12 false (fl w2 t3 25 0 22 fun t15 => bt .neq 22 t15 (Value.int .u8 5) fun t16 => K3 [t16] w2) (K3 [undef] w2)) (fun s4 _d5 w6 =>
 oPick t12 tr_ (s4.getD 0 undef) fun t17 => oCond t17 (K (.tuple #[(Value.slice Option.none 0 0), (i6 2)]) w6) (fl w6 t3 25 3 3 fun t20 => px 40 t0 t20 fun t21 => fl w6 t21 84 1 82 fun t23 => pp (Builtin.len_ #[82] 3 #[t23]) fun t24 => sLoop [(Value.slice Option.none 0 0), (i6 0)] w6 (fun s8 _d9 w10 K7 =>
 bf .lss 3 (s8.getD 1 undef) t24 fun t26 => oCond t26 (xl w10 82 t23 (s8.getD 1 undef) 122 fun t28 => pw w10 (Instr.alloc 122 true (.tuple #[])) fun t8 w11 =>
 so w11 122 t8 t28 fun w12 => fl w12 t8 122 1 25 fun t31 => ca n_types_own #[t31] w12 fun t32 w13 =>
 pw w13 (Instr.buildSlice 23 1 #[(0, t32)]) fun t33 w14 =>
 pw w14 (Builtin.append_ #[23, 23] 23 #[(s8.getD 0 undef), t33]) fun t34 w15 =>
 bt .add 3 (s8.getD 1 undef) (i6 1) fun t35 => K7 [t34, t35] w15) (K (.tuple #[(s8.getD 0 undef), (i6 0)]) w10))))
theorem ok_types_Fields {t0 t1 : Value} {w : World} {K : VW} (h : F_types_Fields t0 t1 w K) : oCall prog n_types_Fields #[t0, t1] w K :=
  okC false (.s (.r (rz 3 0 2)) (.s (.s (.r (ra 5 0 36 (.grp 13 false (ri 3 5 4) [16] (rz 1 8 0)))) (.c (.s (.r (rz 2 0 0)) (.n)) (.n))) (.s (.r (rz 1 0 0)) (.s (.s (.r (rz 8 0 1040)) (.b (.lp [6, 25] (.s (.r (rz 1 0 0)) (.s (.c (.n) (.n)) (.s (.b (.s (.r (rz 4 0 164)) (.r (rz 7 0 2704)))) (.r (rz 2 0 0)))))))) (.s (.r (rz 3 0 0)) (.n)))))) func89 rfl (by kernel_rfl) (by kernel_rfl) h

/- 90: loanword/types.Drops -/
def F_types_Drops (t0 t1 : Value) (w : World) (K : VW) : Prop :=
 pw w (Instr.box 25 t1) fun t3 w1 =>
 lo w1 25 t3 fun t7 => ca n_types_May #[t0, t7] w1 fun t8 w2 =>
 pp (Op.unary .not t8) fun t9 => oCond t9 (K (.tuple #[fa_, (i6 2)]) w2) (lo w2 25 t3 fun t11 => ca n_types_drops #[t0, t11] w2 fun t12 w3 =>
 K (.tuple #[t12, (i6 0)]) w3)
theorem ok_types_Drops {t0 t1 : Value} {w : World} {K : VW} (h : F_types_Drops t0 t1 w K) : oCall prog n_types_Drops #[t0, t1] w K :=
  okC false (.s (.r (rz 3 0 2)) (.s (.s (.r (rz 4 0 36)) (.c (.s (.r (rz 2 0 0)) (.n)) (.n))) (.s (.r (rz 5 0 36)) (.n)))) func90 rfl (by kernel_rfl) (by kernel_rfl) h

/- 93: loanword/types.Anew$1 -/
def F_types_Anew_1 (t0 : Value) (w : World) (K : VW) : Prop :=
 bt .lss 3 t0 (i6 (-1)) fun t4 => K t4 w
theorem ok_types_Anew_1 {t0 : Value} {w : World} {K : VW} (h : F_types_Anew_1 t0 w K) : oCall prog n_types_Anew_1 #[t0] w K :=
  okC false (.s (.r (rz 1 0 0)) (.s (.r (rz 3 0 0)) (.n))) func93 rfl (by kernel_rfl) (by kernel_rfl) h

/- 94: loanword/types.Anew$2 -/
def F_types_Anew_2 (t0 t1 t2 : Value) (w : World) (K : VW) : Prop :=
 lo w 26 t1 fun t5 => lo w 3 t2 fun t6 => xl w 26 t5 t6 3 fun t8 => fa t0 25 2 fun t10 => so w 3 t10 t8 fun w1 => lo w1 3 t2 fun t11 => bt .add 3 t11 (i6 1) fun t12 => so w1 3 t2 t12 fun w2 => K (.tuple #[]) w2
theorem ok_types_Anew_2 {t0 t1 t2 : Value} {w : World} {K : VW} (h : F_types_Anew_2 t0 t1 t2 w K) : oCall prog n_types_Anew_2 #[t0, t1, t2] w K :=
  okC false (.s (.r (rz 8 0 33044)) (.r (rz 3 0 33))) func94 rfl (by kernel_rfl) (by kernel_rfl) h

/- 99: loanword/types.Copies -/
def F_types_Copies (t0 : Value) (w : World) (K : VW) : Prop :=
 pw w (Instr.box 25 t0) fun t1 w1 =>
 lo w1 25 t1 fun t3 => ca n_types_may #[t3] w1 fun t4 w2 =>
 pp (Op.unary .not t4) fun t5 => oCond t5 (K fa_ w2) (fl w2 t1 25 0 22 fun t7 => sJoin (fun K3 =>
 bt .eql 22 t7 (Value.int .u8 1) fun t9 => oCond t9 (K3 [t9] w2) (bt .eql 22 t7 (Value.int .u8 2) fun t10 => K3 [t10] w2)) (fun s4 _d5 w6 =>
 oCond (s4.getD 0 undef) (K tr_ w6) (bt .eql 22 t7 (Value.int .u8 4) fun t12 => oCond t12 (fl w6 t1 25 1 4 fun t14 => pp (Op.unary .not t14) fun t15 => K t15 w6) (K fa_ w6))))
theorem ok_types_Copies {t0 : Value} {w : World} {K : VW} (h : F_types_Copies t0 w K) : oCall prog n_types_Copies #[t0] w K :=
  okC false (.s (.r (rz 2 0 2)) (.s (.s (.r (rz 3 0 9)) (.c (.s (.r (rz 1 0 0)) (.n)) (.n))) (.s (.s (.r (rz 2 0 4)) (.b (.j [8] (.s (.r (rz 2 0 0)) (.c (.n) (.r (rz 2 0 0)))) (.c (.s (.r (rz 1 0 0)) (.n)) (.s (.r (rz 2 0 0)) (.c (.s (.r (rz 4 0 4)) (.n)) (.n))))))) (.s (.r (rz 1 0 0)) (.n))))) func99 rfl (by kernel_rfl) (by kernel_rfl) h

/- 102: loanword/types.drops -/
def F_types_drops (t0 t1 : Value) (w : World) (K : VW) : Prop :=
 pw w (Instr.box 40 t0) fun t2 w1 =>
 pw w1 (Instr.box 25 t1) fun t3 w2 =>
 fl w2 t3 25 0 22 fun t6 => bt .eql 22 t6 (Value.int .u8 3) fun t8 => oCond t8 (K tr_ w2) (bt .eql 22 t6 (Value.int .u8 5) fun t10 => oCond t10 (lo w2 40 t2 fun t11 => fl w2 t3 25 3 3 fun t13 => px 40 t11 t13 fun t14 => fl w2 t14 84 1 82 fun t16 => pp (Instr.makeFunc (.func 106) #[] #[t2]) fun t17 => ca n_slices_ContainsFunc_api_Field_api_Field #[t16, t17] w2 fun t18 w3 =>
 K t18 w3) (K fa_ w2))
theorem ok_types_drops {t0 t1 : Value} {w : World} {K : VW} (h : F_types_drops t0 t1 w K) : oCall prog n_types_drops #[t0, t1] w K :=
  okC false (.s (.r (rz 3 0 10)) (.s (.s (.r (rz 2 0 4)) (.b (.s (.r (rz 2 0 0)) (.c (.s (.r (rz 1 0 0)) (.n)) (.s (.r (rz 2 0 0)) (.c (.s (.r (rz 9 0 33809)) (.n)) (.n))))))) (.s (.r (rz 1 0 0)) (.n)))) func102 rfl (by kernel_rfl) (by kernel_rfl) h

/- 106: loanword/types.drops$1 -/
def F_types_drops_1 (t0 t1 : Value) (w : World) (K : VW) : Prop :=
 pw w (Instr.box 122 t0) fun t2 w1 =>
 lo w1 40 t1 fun t4 => fl w1 t2 122 1 25 fun t6 => ca n_types_drops #[t4, t6] w1 fun t7 w2 =>
 K t7 w2
theorem ok_types_drops_1 {t0 t1 : Value} {w : World} {K : VW} (h : F_types_drops_1 t0 t1 w K) : oCall prog n_types_drops_1 #[t0, t1] w K :=
  okC false (.s (.r (rz 2 0 2)) (.s (.r (rz 5 0 145)) (.n))) func106 rfl (by kernel_rfl) (by kernel_rfl) h

end Go.Proofs.Try
end

section
namespace Go.Proofs.Try
open Go.Sh
set_option maxRecDepth 100000
/- 9: loanword/loanwordref13.Turn -/

/- 10: loanword/loanwordref07.SameType -/

/- 13: loanword/loanwordref06.Is -/

/- 14: loanword/loanwordref13.Erase -/

/- 34: loanword/loanwordref06.look -/

end Go.Proofs.Try
end

section
namespace Go.Proofs.Try
open Go.Sh
set_option maxRecDepth 100000
/- 3: loanword/loanwordlaw13.RegionTurns -/

/- 4: loanword/loanwordlaw13.RegionOnce -/

/- 5: loanword/loanwordlaw13.RegionShapes -/
def F_law13_RegionShapes (t0 t1 t2 : Value) (w : World) (K : VW) : Prop :=
 pw w (Instr.box 43 t0) fun t3 w1 =>
 lo w1 43 t3 fun t22 => ca n_law13_fits #[t22] w1 fun t23 w2 =>
 pp (Op.unary .not t23) fun t24 => oCond t24 (ca n_law13_awake #[] w2 fun t25 w3 =>
 K t25 w3) (lo w2 43 t3 fun t27 => ca n_graph_Assigns #[t27, t1, t2] w2 fun t30 w4 =>
 pe t30 0 fun t31 => pe t30 1 fun t32 => pe t30 2 fun t33 => pw w4 (Instr.alloc 58 true (.tuple #[])) fun t7 w5 =>
 so w5 58 t7 t31 fun w6 => bt .neq 29 t33 (i6 0) fun t35 => sJoin (fun K7 => gIf t35 false (pp (Op.unary .not t32) fun t38 => K7 [t38] w6) (K7 [undef] w6)) (fun s8 _d9 w10 =>
 oPick t35 tr_ (s8.getD 0 undef) fun t39 => oCond t39 (ca n_law13_awake #[] w10 fun t40 w11 =>
 K t40 w11) (lo w10 43 t3 fun t42 => lo w10 58 t7 fun t44 => ca n_region_Place #[t42, t1, t44] w10 fun t45 w12 =>
 pe t45 0 fun t46 => pe t45 1 fun t47 => pw w12 (Instr.alloc 25 true (.tuple #[])) fun t10 w13 =>
 so w13 25 t10 t46 fun w14 => bt .neq 29 t47 (i6 0) fun t49 => oCond t49 (bt .eql 29 t47 (i6 5) fun t51 => sJoin (fun K15 => gIf t51 true (ca n_law13_awake #[] w14 fun t53 w19 =>
 K15 [t53] w19) (K15 [undef] w14)) (fun s16 _d17 w18 =>
 oPick t51 (s16.getD 0 undef) fa_ fun t54 => K t54 w18)) (lo w14 25 t10 fun t56 => ca n_region_Erase #[t56] w14 fun t57 w20 =>
 pe t57 0 fun t58 => pe t57 1 fun t59 => pw w20 (Instr.alloc 25 true (.tuple #[])) fun t11 w21 =>
 so w21 25 t11 t58 fun w22 => lo w22 43 t3 fun t61 => lo w22 58 t7 fun t63 => ca n_graph_Type #[t61, t1, t63] w22 fun t64 w23 =>
 pe t64 0 fun t65 => pe t64 1 fun t66 => pw w23 (Instr.alloc 25 true (.tuple #[])) fun t13 w24 =>
 so w24 25 t13 t65 fun w25 => bt .neq 29 t59 (i6 0) fun t68 => sJoin (fun K26 => gIf t68 false (bt .neq 29 t66 (i6 0) fun t71 => K26 [t71] w25) (K26 [undef] w25)) (fun s27 _d28 w29 =>
 oPick t68 tr_ (s27.getD 0 undef) fun t72 => sJoin (fun K30 => gIf t72 false (lo w29 25 t10 fun t74 => lo w29 25 t13 fun t75 => ca n_types_Alike #[t74, t75] w29 fun t76 w34 =>
 pp (Op.unary .not t76) fun t77 => K30 [t77] w34) (K30 [undef] w29)) (fun s31 _d32 w33 =>
 oPick t72 tr_ (s31.getD 0 undef) fun t78 => sJoin (fun K35 => gIf t78 false (lo w33 25 t11 fun t80 => lo w33 25 t10 fun t81 => ca n_types_Alike #[t80, t81] w33 fun t82 w39 =>
 pp (Op.unary .not t82) fun t83 => K35 [t83] w39) (K35 [undef] w33)) (fun s36 _d37 w38 =>
 oPick t78 tr_ (s36.getD 0 undef) fun t84 => oCond t84 (K fa_ w38) (lo w38 43 t3 fun t86 => ca n_region_Borrowed #[t86, t1, t2] w38 fun t89 w40 =>
 pe t89 0 fun t90 => pe t89 1 fun t91 => pw w40 (Instr.alloc 25 true (.tuple #[])) fun t15 w41 =>
 so w41 25 t15 t90 fun w42 => bt .eql 29 t91 (i6 0) fun t93 => sJoin (fun K43 => gIf t93 true (lo w42 25 t15 fun t95 => lo w42 25 t10 fun t96 => ca n_types_Alike #[t95, t96] w42 fun t97 w47 =>
 pp (Op.unary .not t97) fun t98 => K43 [t98] w47) (K43 [undef] w42)) (fun s44 _d45 w46 =>
 oPick t93 (s44.getD 0 undef) fa_ fun t99 => oCond t99 (K fa_ w46) (lo w46 43 t3 fun t101 => ca n_region_Called #[t101, t1, t2] w46 fun t104 w48 =>
 pe t104 0 fun t105 => pe t104 1 fun t106 => pe t104 2 fun t107 => pw w48 (Instr.alloc 25 true (.tuple #[])) fun t17 w49 =>
 so w49 25 t17 t106 fun w50 => bt .neq 29 t107 (i6 0) fun t109 => oCond t109 (ca n_law13_awake #[] w50 fun t110 w51 =>
 K t110 w51) (lo w50 43 t3 fun t112 => ca n_graph_Operands #[t112, t1, t2] w50 fun t115 w52 =>
 pe t115 0 fun t116 => pe t115 1 fun t117 => bt .neq 29 t117 (i6 0) fun t119 => sJoin (fun K53 => gIf t119 false (pp (Builtin.len_ #[62] 3 #[t116]) fun t122 => pp (Builtin.len_ #[23] 3 #[t105]) fun t124 => bf .neq 3 t122 t124 fun t125 => K53 [t125] w52) (K53 [undef] w52)) (fun s54 _d55 w56 =>
 oPick t119 tr_ (s54.getD 0 undef) fun t126 => sJoin (fun K57 => gIf t126 false (lo w56 25 t17 fun t128 => lo w56 25 t10 fun t129 => ca n_types_Alike #[t128, t129] w56 fun t130 w61 =>
 pp (Op.unary .not t130) fun t131 => K57 [t131] w61) (K57 [undef] w56)) (fun s58 _d59 w60 =>
 oPick t126 tr_ (s58.getD 0 undef) fun t132 => oCond t132 (K fa_ w60) (sLoop [(i6 0)] w60 (fun s63 _d64 w65 K62 =>
 pp (Builtin.len_ #[62] 3 #[t116]) fun t135 => bf .lss 3 (s63.getD 0 undef) t135 fun t136 => oCond t136 (sJoin (fun K66 =>
 px 62 t116 (s63.getD 0 undef) fun t141 => fl w65 t141 61 0 59 fun t143 => bt .neq 59 t143 (Value.int .u8 3) fun t144 => sJoin (fun K70 => gIf t144 true (px 62 t116 (s63.getD 0 undef) fun t148 => fl w65 t148 61 0 59 fun t150 => bt .neq 59 t150 (Value.int .u8 4) fun t151 => K70 [t151] w65) (K70 [undef] w65)) (fun s71 _d72 w73 =>
 oPick t144 (s71.getD 0 undef) fa_ fun t152 => oCond t152 (K66 [] w73) (sJoin (fun K74 =>
 lo w73.drew 43 t3 fun t154 => px 62 t116 (s63.getD 0 undef) fun t158 => fl w73.drew t158 61 2 58 fun t160 => ((ca n_region_Place #[t154, t1, t160] w73.drew fun t161 w78 =>
 pe t161 0 fun t162 => pe t161 1 fun t163 => pw w78 (Instr.alloc 25 true (.tuple #[])) fun t20 w79 =>
 Ext w78 w79 ∧
 so w79 25 t20 t162 fun w80 => K74 [t20, t163] w80) ∧
 (pw w73.drew (Instr.alloc 25 true (.tuple #[])) fun t20_82 w81 =>
 Ext w73.drew w81 ∧
 ca n_region_Place #[t154, t1, t160] w81 fun t161_84 w83 =>
 pe t161_84 0 fun t162_85 => pe t161_84 1 fun t163_86 => so w83 25 t20_82 t162_85 fun w87 => K74 [t20_82, t163_86] w87))) (fun s75 _d76 w77 =>
 bt .neq 29 (s75.getD 1 undef) (i6 0) fun t165 => sJoin (fun K88 => gIf t165 false (lo w77.drew 25 (s75.getD 0 undef) fun t167 => xl w77.drew 23 t105 (s63.getD 0 undef) 25 fun t171 => ca n_types_Alike #[t167, t171] w77.drew fun t172 w92 =>
 pp (Op.unary .not t172) fun t173 => K88 [t173] w92) (K88 [undef] w77.drew)) (fun s89 _d90 w91 =>
 oPick t165 tr_ (s89.getD 0 undef) fun t174 => oCond t174 (K fa_ w91) (K66 [] w91)))))) (fun _s67 _d68 w69 =>
 bt .add 3 (s63.getD 0 undef) (i6 1) fun t138 => K62 [t138] w69)) (ca n_law13_awake #[] w65 fun t175 w93 =>
 K t175 w93))))))))))))))))
theorem ok_law13_RegionShapes {t0 t1 t2 : Value} {w : World} {K : VW} (h : F_law13_RegionShapes t0 t1 t2 w K) : oCall prog n_law13_RegionShapes #[t0, t1, t2] w K :=
  okC false (.s (.r (rz 2 0 2)) (.s (.s (.r (rz 3 0 9)) (.c (.s (.r (rz 2 0 2)) (.n)) (.n))) (.s (.r (rz 12 0 655489)) (.s (.s (.r (ra 3 0 0 (.grp 36 false (ri 2 3 0) [38] (rz 1 5 0)))) (.c (.s (.r (rz 2 0 2)) (.n)) (.n))) (.s (.r (rz 10 0 163985)) (.s (.s (.r (rz 2 0 0)) (.c (.s (.r (ra 3 0 0 (.grp 52 true (ri 1 3 2) [53] (rz 2 4 0)))) (.n)) (.n))) (.s (.r (rz 8 0 10249)) (.s (.r (rz 10 0 163985)) (.s (.s (.r (ra 3 0 0 (.grp 69 false (ri 2 3 0) [71] (ra 2 5 0 (.grp 73 false (ri 4 7 37) [77] (ra 2 11 0 (.grp 79 false (ri 4 13 37) [83] (rz 1 17 0)))))))) (.c (.s (.r (rz 1 0 0)) (.n)) (.n))) (.s (.r (rz 10 0 163969)) (.s (.s (.r (ra 3 0 0 (.grp 94 true (ri 4 3 37) [98] (rz 1 7 0)))) (.c (.s (.r (rz 1 0 0)) (.n)) (.n))) (.s (.r (rz 12 0 2228353)) (.s (.s (.r (rz 2 0 0)) (.c (.s (.r (rz 2 0 2)) (.n)) (.n))) (.s (.r (rz 9 0 129)) (.s (.s (.r (ra 3 0 0 (.grp 120 false (ri 5 3 0) [125] (ra 2 8 0 (.grp 127 false (ri 4 10 37) [131] (rz 1 14 0)))))) (.c (.s (.r (rz 1 0 0)) (.n)) (.n))) (.s (.s (.r (rz 1 0 0)) (.b (.lp [19] (.s (.s (.r (rz 4 0 0)) (.c (.n) (.n))) (.j [] (.b (.s (.s (.r (ra 7 0 256 (.grp 145 true (ri 6 7 256) [151] (rz 1 13 0)))) (.c (.n) (.n))) (.j [20, 21] (.r (ra 7 0 4097 (.alt 7 .l (rz 6 8 704) (ra 1 11 3 (ra 4 7 2 (rz 2 12 2)))))) (.s (.r (ra 3 0 0 (.grp 166 false (ri 7 3 2305) [173] (rz 1 10 0)))) (.c (.s (.r (rz 1 0 0)) (.n)) (.n)))))) (.r (rz 3 0 0))))))) (.s (.r (rz 2 0 2)) (.n)))))))))))))))))) func5 rfl (by kernel_rfl) (by kernel_rfl) h

/- 6: loanword/loanwordlaw13.typeFits -/

/- 7: loanword/loanwordlaw13.awake -/
def F_law13_awake (w : World) (K : VW) : Prop :=
 ca n_law13_hand #[] w fun t15 w1 =>
 pw w1 (Instr.alloc 43 true (.tuple #[])) fun t1 w2 =>
 so w2 43 t1 t15 fun w3 => lo w3 43 t1 fun t17 => ca n_region_Of #[t17, (i6 0)] w3 fun t18 w4 =>
 pe t18 0 fun t19 => pe t18 1 fun t20 => pw w4 (Instr.alloc 46 true (.tuple #[])) fun t2 w5 =>
 so w5 46 t2 t19 fun w6 => lo w6 43 t1 fun t22 => ca n_region_Borrowed #[t22, (i6 0), (i6 0)] w6 fun t23 w7 =>
 pe t23 0 fun t24 => pe t23 1 fun t25 => pw w7 (Instr.alloc 25 true (.tuple #[])) fun t4 w8 =>
 so w8 25 t4 t24 fun w9 => lo w9 43 t1 fun t27 => ca n_region_Called #[t27, (i6 0), (i6 0)] w9 fun t28 w10 =>
 pe t28 0 fun _t29 => pe t28 1 fun t30 => pe t28 2 fun t31 => pw w10 (Instr.alloc 25 true (.tuple #[])) fun t7 w11 =>
 so w11 25 t7 t30 fun w12 => lo w12 25 t4 fun t33 => pw w12 (Instr.buildSlice 26 2 #[(0, (i6 5)), (1, (i6 7))]) fun t34 w13 =>
 ca n_region_Turn #[t33, t34] w13 fun t35 w14 =>
 pe t35 0 fun t36 => pe t35 1 fun t37 => pw w14 (Instr.alloc 25 true (.tuple #[])) fun t9 w15 =>
 so w15 25 t9 t36 fun w16 => lo w16 25 t4 fun t39 => ca n_region_Erase #[t39] w16 fun t40 w17 =>
 pe t40 0 fun t41 => pe t40 1 fun t42 => pw w17 (Instr.alloc 25 true (.tuple #[])) fun t11 w18 =>
 so w18 25 t11 t41 fun w19 => lo w19 43 t1 fun t44 => pp (Instr.build 58 #[(0, (i6 2))]) fun t45 => ca n_region_Place #[t44, (i6 0), t45] w19 fun t46 w20 =>
 pe t46 0 fun t47 => pe t46 1 fun t48 => pw w20 (Instr.alloc 25 true (.tuple #[])) fun t13 w21 =>
 so w21 25 t13 t47 fun w22 => bt .eql 29 t20 (i6 0) fun t50 => sJoin (fun K23 => gIf t50 true (fl w22 t2 46 2 3 fun t53 => bt .eql 3 t53 (i6 2) fun t54 => K23 [t54] w22) (K23 [undef] w22)) (fun s24 _d25 w26 =>
 oPick t50 (s24.getD 0 undef) fa_ fun t55 => sJoin (fun K27 => gIf t55 true (lo w26 46 t2 fun t57 => ca n_region_Width #[t57] w26 fun t58 w31 =>
 bt .eql 3 t58 (i6 4) fun t59 => K27 [t59] w31) (K27 [undef] w26)) (fun s28 _d29 w30 =>
 oPick t55 (s28.getD 0 undef) fa_ fun t60 => sJoin (fun K32 => gIf t60 true (fl w30 t2 46 4 26 fun t63 => pp (Builtin.len_ #[26] 3 #[t63]) fun t64 => bt .eql 3 t64 (i6 4) fun t65 => K32 [t65] w30) (K32 [undef] w30)) (fun s33 _d34 w35 =>
 oPick t60 (s33.getD 0 undef) fa_ fun t66 => sJoin (fun K36 => gIf t66 true (fl w35 t2 46 4 26 fun t69 => xl w35 26 t69 (i6 0) 3 fun t71 => bt .eql 3 t71 (i6 1) fun t72 => K36 [t72] w35) (K36 [undef] w35)) (fun s37 _d38 w39 =>
 oPick t66 (s37.getD 0 undef) fa_ fun t73 => sJoin (fun K40 => gIf t73 true (fl w39 t2 46 4 26 fun t76 => xl w39 26 t76 (i6 1) 3 fun t78 => bt .eql 3 t78 (i6 (-1)) fun t79 => K40 [t79] w39) (K40 [undef] w39)) (fun s41 _d42 w43 =>
 oPick t73 (s41.getD 0 undef) fa_ fun t80 => sJoin (fun K44 => gIf t80 true (bt .eql 29 t25 (i6 0) fun t83 => K44 [t83] w43) (K44 [undef] w43)) (fun s45 _d46 w47 =>
 oPick t80 (s45.getD 0 undef) fa_ fun t84 => sJoin (fun K48 => gIf t84 true (fl w47 t4 25 2 3 fun t87 => bt .eql 3 t87 (i6 1) fun t88 => K48 [t88] w47) (K48 [undef] w47)) (fun s49 _d50 w51 =>
 oPick t84 (s49.getD 0 undef) fa_ fun t89 => sJoin (fun K52 => gIf t89 true (fl w51 t4 25 1 4 fun t92 => K52 [t92] w51) (K52 [undef] w51)) (fun s53 _d54 w55 =>
 oPick t89 (s53.getD 0 undef) fa_ fun t93 => sJoin (fun K56 => gIf t93 true (bt .eql 29 t31 (i6 130) fun t96 => K56 [t96] w55) (K56 [undef] w55)) (fun s57 _d58 w59 =>
 oPick t93 (s57.getD 0 undef) fa_ fun t97 => sJoin (fun K60 => gIf t97 true (bt .eql 29 t37 (i6 0) fun t100 => K60 [t100] w59) (K60 [undef] w59)) (fun s61 _d62 w63 =>
 oPick t97 (s61.getD 0 undef) fa_ fun t101 => sJoin (fun K64 => gIf t101 true (fl w63 t9 25 2 3 fun t104 => bt .eql 3 t104 (i6 7) fun t105 => K64 [t105] w63) (K64 [undef] w63)) (fun s65 _d66 w67 =>
 oPick t101 (s65.getD 0 undef) fa_ fun t106 => sJoin (fun K68 => gIf t106 true (bt .eql 29 t42 (i6 0) fun t109 => K68 [t109] w67) (K68 [undef] w67)) (fun s69 _d70 w71 =>
 oPick t106 (s69.getD 0 undef) fa_ fun t110 => sJoin (fun K72 => gIf t110 true (fl w71 t11 25 2 3 fun t113 => bt .eql 3 t113 (i6 (-1)) fun t114 => K72 [t114] w71) (K72 [undef] w71)) (fun s73 _d74 w75 =>
 oPick t110 (s73.getD 0 undef) fa_ fun t115 => sJoin (fun K76 => gIf t115 true (bt .eql 29 t48 (i6 0) fun t118 => K76 [t118] w75) (K76 [undef] w75)) (fun s77 _d78 w79 =>
 oPick t115 (s77.getD 0 undef) fa_ fun t119 => sJoin (fun K80 => gIf t119 true (fl w79 t13 25 2 3 fun t122 => bt .eql 3 t122 (i6 0) fun t123 => K80 [t123] w79) (K80 [undef] w79)) (fun s81 _d82 w83 =>
 oPick t119 (s81.getD 0 undef) fa_ fun t124 => K t124 w83)))))))))))))))
theorem ok_law13_awake {w : World} {K : VW} (h : F_law13_awake  w K) : oCall prog n_law13_awake #[] w K :=
  okC false (.s (.r (rz 1 0 0)) (.s (.r (rz 3 0 42)) (.s (.r (rz 8 0 10249)) (.s (.r (rz 8 0 10249)) (.s (.r (rz 10 0 139273)) (.s (.r (rz 9 0 41001)) (.s (.r (rz 8 0 10249)) (.s (.r (rz 9 0 40993)) (.s (.r (ra 3 0 0 (.grp 51 true (ri 3 3 4) [54] (ra 2 6 0 (.grp 56 true (ri 3 8 9) [59] (ra 2 11 0 (.grp 61 true (ri 4 13 4) [65] (ra 2 17 0 (.grp 67 true (ri 5 19 68) [72] (ra 2 24 0 (.grp 74 true (ri 5 26 68) [79] (ra 2 31 0 (.grp 81 true (ri 2 33 0) [83] (ra 2 35 0 (.grp 85 true (ri 3 37 4) [88] (ra 2 40 0 (.grp 90 true (ri 2 42 4) [92] (ra 2 44 0 (.grp 94 true (ri 2 46 0) [96] (ra 2 48 0 (.grp 98 true (ri 2 50 0) [100] (ra 2 52 0 (.grp 102 true (ri 3 54 4) [105] (ra 2 57 0 (.grp 107 true (ri 2 59 0) [109] (ra 2 61 0 (.grp 111 true (ri 3 63 4) [114] (ra 2 66 0 (.grp 116 true (ri 2 68 0) [118] (ra 2 70 0 (.grp 120 true (ri 3 72 4) [123] (rz 2 75 0)))))))))))))))))))))))))))))))) (.n)))))))))) func7 rfl (by kernel_rfl) (by kernel_rfl) h

/- 11: loanword/loanwordlaw13.spoil -/

/- 15: loanword/loanwordlaw13.fits -/
def F_law13_fits (t0 : Value) (w : World) (K : VW) : Prop :=
 pw w (Instr.box 43 t0) fun t1 w1 =>
 fl w1 t1 43 0 40 fun t7 => pp (Builtin.len_ #[40] 3 #[t7]) fun t8 => bt .gtr 3 t8 (i6 40) fun t9 => sJoin (fun K2 => gIf t9 false (fl w1 t1 43 1 41 fun t12 => pp (Builtin.len_ #[41] 3 #[t12]) fun t13 => bt .gtr 3 t13 (i6 40) fun t14 => K2 [t14] w1) (K2 [undef] w1)) (fun s3 _d4 w5 =>
 oPick t9 tr_ (s3.getD 0 undef) fun t15 => oCond t15 (K fa_ w5) (sLoop [(i6 0)] w5 (fun s7 _d8 w9 K6 =>
 fl w9 t1 43 0 40 fun t18 => pp (Builtin.len_ #[40] 3 #[t18]) fun t19 => bf .lss 3 (s7.getD 0 undef) t19 fun t20 => oCond t20 (fl w9 t1 43 0 40 fun t24 => px 40 t24 (s7.getD 0 undef) fun t26 => fl w9 t26 84 1 82 fun t28 => pp (Builtin.len_ #[82] 3 #[t28]) fun t29 => bt .gtr 3 t29 (i6 20) fun t30 => oCond t30 (K fa_ w9) (bt .add 3 (s7.getD 0 undef) (i6 1) fun t22 => K6 [t22] w9)) (sLoop [(i6 0), (i6 0)] w9 (fun s11 _d12 w13 K10 =>
 fl w13 t1 43 1 41 fun t33 => pp (Builtin.len_ #[41] 3 #[t33]) fun t34 => bf .lss 3 (s11.getD 1 undef) t34 fun t35 => oCond t35 (fl w13.drew t1 43 1 41 fun t40 => px 41 t40 (s11.getD 1 undef) fun t42 => fl w13.drew t42 53 6 51 fun t44 => pp (Builtin.len_ #[51] 3 #[t44]) fun t45 => fl w13.drew t1 43 1 41 fun t47 => px 41 t47 (s11.getD 1 undef) fun t49 => fl w13.drew t49 53 4 23 fun t51 => pp (Builtin.len_ #[23] 3 #[t51]) fun t52 => bf .add 3 t45 t52 fun t53 => bf .add 3 (s11.getD 0 undef) t53 fun t54 => fl w13.drew t1 43 1 41 fun t56 => px 41 t56 (s11.getD 1 undef) fun t58 => fl w13.drew t58 53 6 51 fun t60 => pp (Builtin.len_ #[51] 3 #[t60]) fun t61 => bt .gtr 3 t61 (i6 150) fun t62 => sJoin (fun K14 => gIf t62 false (fl w13.drew t1 43 1 41 fun t65 => px 41 t65 (s11.getD 1 undef) fun t67 => fl w13.drew t67 53 4 23 fun t69 => pp (Builtin.len_ #[23] 3 #[t69]) fun t70 => bt .gtr 3 t70 (i6 150) fun t71 => K14 [t71] w13.drew) (K14 [undef] w13.drew)) (fun s15 _d16 w17 =>
 oPick t62 tr_ (s15.getD 0 undef) fun t72 => sJoin (fun K18 => gIf t72 false (bt .gtr 3 t54 (i6 600) fun t75 => K18 [t75] w17) (K18 [undef] w17)) (fun s19 _d20 w21 =>
 oPick t72 tr_ (s19.getD 0 undef) fun t76 => oCond t76 (K fa_ w21) (bt .add 3 (s11.getD 1 undef) (i6 1) fun t37 => K10 [t54, t37] w21)))) (K tr_ w13))))))
theorem ok_law13_fits {t0 : Value} {w : World} {K : VW} (h : F_law13_fits t0 w K) : oCall prog n_law13_fits #[t0] w K :=
  okC false (.s (.r (rz 2 0 2)) (.s (.s (.r (ra 5 0 4 (.grp 10 false (ri 4 5 4) [14] (rz 1 9 0)))) (.c (.s (.r (rz 1 0 0)) (.n)) (.n))) (.s (.r (rz 1 0 0)) (.s (.s (.r (rz 1 0 0)) (.b (.lp [4] (.s (.s (.r (rz 5 0 16)) (.c (.n) (.n))) (.s (.b (.s (.r (rz 8 0 1028)) (.c (.s (.r (rz 1 0 0)) (.n)) (.n)))) (.r (rz 3 0 0))))))) (.s (.s (.r (rz 1 0 0)) (.b (.lp [3, 5] (.s (.s (.r (rz 5 0 16)) (.c (.n) (.n))) (.s (.b (.s (.r (rz 18 0 67375120)) (.s (.r (ra 9 0 1028 (.grp 63 false (ri 8 9 1028) [71] (ra 2 17 0 (.grp 73 false (ri 2 19 0) [75] (rz 1 21 0)))))) (.c (.s (.r (rz 1 0 0)) (.n)) (.n))))) (.r (rz 3 0 0))))))) (.s (.r (rz 1 0 0)) (.n))))))) func15 rfl (by kernel_rfl) (by kernel_rfl) h

/- 26: loanword/loanwordlaw13.hand -/
def F_law13_hand (w : World) (K : VW) : Prop :=
 pw w (Instr.alloc 43 true (.tuple #[])) fun t0 w1 =>
 pw w1 (Instr.buildSlice 56 1 #[(0, (i6 (-1)))]) fun t2 w2 =>
 pp (Instr.build 58 #[(0, (i6 2)), (1, t2)]) fun t3 => pw w2 (Instr.alloc 58 true (.tuple #[])) fun t1 w3 =>
 so w3 58 t1 t3 fun w4 => pp (Instr.build 58 #[(0, (i6 2))]) fun t9 => pp (Instr.build 58 #[(0, (i6 1))]) fun t10 => pp (Instr.build 64 #[(0, (Value.int .u8 4)), (1, t9), (6, t10), (7, tr_), (10, (i6 1))]) fun t11 => pp (Instr.build 58 #[(0, (i6 1))]) fun t12 => lo w4.drew 58 t1 fun t15 => pp (Instr.build 64 #[(0, (Value.int .u8 14))]) fun t18 => ((ca n_law13_i64 #[] w4.drew fun t4 w5 =>
 Ext w4.drew w5 ∧
 ((ca n_law13_i64 #[] w5 fun t5 w6 =>
 Ext w5 w6 ∧
 ((ca n_law13_ref #[tr_] w6 fun t6 w7 =>
 Ext w6 w7 ∧
 ((pw w7 (Instr.buildSlice 23 3 #[(0, t4), (1, t5), (2, t6)]) fun t7 w8 =>
 Ext w7 w8 ∧
 ((pw w8 (Instr.makeSlice 50 (i6 3) (i6 3)) fun t8 w9 =>
 Ext w8 w9 ∧
 ca n_law13_con #[(i6 2)] w9 fun t13 w10 =>
 Ext w9 w10 ∧
 pp (Instr.build 64 #[(0, (Value.int .u8 1)), (1, t12), (2, t13), (10, (i6 2))]) fun t14 => ca n_law13_con #[(i6 3)] w10 fun t16 w11 =>
 Ext w10 w11 ∧
 pp (Instr.build 64 #[(0, (Value.int .u8 1)), (1, t15), (2, t16), (10, (i6 3))]) fun t17 => pw w11 (Instr.buildSlice 51 4 #[(0, t11), (1, t14), (2, t17), (3, t18)]) fun t19 w12 =>
 pp (Instr.build 53 #[(4, t7), (5, t8), (6, t19)]) fun t20 => pw w12 (Instr.buildSlice 41 1 #[(0, t20)]) fun t21 w13 =>
 pp (Instr.build 43 #[(1, t21)]) fun t22 => so w13 43 t0 t22 fun w14 => pq w14 (cellSem 43 t0) fun r15 => K r15 w14) ∧
 (ca n_law13_con #[(i6 2)] w8 fun t13_17 w16 =>
 Ext w8 w16 ∧
 pp (Instr.build 64 #[(0, (Value.int .u8 1)), (1, t12), (2, t13_17), (10, (i6 2))]) fun t14_18 => ((pw w16 (Instr.makeSlice 50 (i6 3) (i6 3)) fun t8_20 w19 =>
 Ext w16 w19 ∧
 ca n_law13_con #[(i6 3)] w19 fun t16_22 w21 =>
 Ext w19 w21 ∧
 pp (Instr.build 64 #[(0, (Value.int .u8 1)), (1, t15), (2, t16_22), (10, (i6 3))]) fun t17_23 => pw w21 (Instr.buildSlice 51 4 #[(0, t11), (1, t14_18), (2, t17_23), (3, t18)]) fun t19_25 w24 =>
 pp (Instr.build 53 #[(4, t7), (5, t8_20), (6, t19_25)]) fun t20_26 => pw w24 (Instr.buildSlice 41 1 #[(0, t20_26)]) fun t21_28 w27 =>
 pp (Instr.build 43 #[(1, t21_28)]) fun t22_29 => so w27 43 t0 t22_29 fun w30 => pq w30 (cellSem 43 t0) fun r31 => K r31 w30) ∧
 (ca n_law13_con #[(i6 3)] w16 fun t16_33 w32 =>
 Ext w16 w32 ∧
 pp (Instr.build 64 #[(0, (Value.int .u8 1)), (1, t15), (2, t16_33), (10, (i6 3))]) fun t17_34 => ((pw w32 (Instr.makeSlice 50 (i6 3) (i6 3)) fun t8_36 w35 =>
 Ext w32 w35 ∧
 pw w35 (Instr.buildSlice 51 4 #[(0, t11), (1, t14_18), (2, t17_34), (3, t18)]) fun t19_38 w37 =>
 pp (Instr.build 53 #[(4, t7), (5, t8_36), (6, t19_38)]) fun t20_39 => pw w37 (Instr.buildSlice 41 1 #[(0, t20_39)]) fun t21_41 w40 =>
 pp (Instr.build 43 #[(1, t21_41)]) fun t22_42 => so w40 43 t0 t22_42 fun w43 => pq w43 (cellSem 43 t0) fun r44 => K r44 w43) ∧
 (pw w32 (Instr.buildSlice 51 4 #[(0, t11), (1, t14_18), (2, t17_34), (3, t18)]) fun t19_46 w45 =>
 pw w45 (Instr.makeSlice 50 (i6 3) (i6 3)) fun t8_48 w47 =>
 Ext w45 w47 ∧
 pp (Instr.build 53 #[(4, t7), (5, t8_48), (6, t19_46)]) fun t20_49 => pw w47 (Instr.buildSlice 41 1 #[(0, t20_49)]) fun t21_51 w50 =>
 pp (Instr.build 43 #[(1, t21_51)]) fun t22_52 => so w50 43 t0 t22_52 fun w53 => pq w53 (cellSem 43 t0) fun r54 => K r54 w53))))))) ∧
 (((pw w7 (Instr.makeSlice 50 (i6 3) (i6 3)) fun t8_56 w55 =>
 Ext w7 w55 ∧
 ((pw w55 (Instr.buildSlice 23 3 #[(0, t4), (1, t5), (2, t6)]) fun t7_58 w57 =>
 Ext w55 w57 ∧
 ca n_law13_con #[(i6 2)] w57 fun t13_60 w59 =>
 Ext w57 w59 ∧
 pp (Instr.build 64 #[(0, (Value.int .u8 1)), (1, t12), (2, t13_60), (10, (i6 2))]) fun t14_61 => ca n_law13_con #[(i6 3)] w59 fun t16_63 w62 =>
 Ext w59 w62 ∧
 pp (Instr.build 64 #[(0, (Value.int .u8 1)), (1, t15), (2, t16_63), (10, (i6 3))]) fun t17_64 => pw w62 (Instr.buildSlice 51 4 #[(0, t11), (1, t14_61), (2, t17_64), (3, t18)]) fun t19_66 w65 =>
 pp (Instr.build 53 #[(4, t7_58), (5, t8_56), (6, t19_66)]) fun t20_67 => pw w65 (Instr.buildSlice 41 1 #[(0, t20_67)]) fun t21_69 w68 =>
 pp (Instr.build 43 #[(1, t21_69)]) fun t22_70 => so w68 43 t0 t22_70 fun w71 => pq w71 (cellSem 43 t0) fun r72 => K r72 w71) ∧
 (ca n_law13_con #[(i6 2)] w55 fun t13_74 w73 =>
 Ext w55 w73 ∧
 pp (Instr.build 64 #[(0, (Value.int .u8 1)), (1, t12), (2, t13_74), (10, (i6 2))]) fun t14_75 => ((pw w73 (Instr.buildSlice 23 3 #[(0, t4), (1, t5), (2, t6)]) fun t7_77 w76 =>
 Ext w73 w76 ∧
 ca n_law13_con #[(i6 3)] w76 fun t16_79 w78 =>
 Ext w76 w78 ∧
 pp (Instr.build 64 #[(0, (Value.int .u8 1)), (1, t15), (2, t16_79), (10, (i6 3))]) fun t17_80 => pw w78 (Instr.buildSlice 51 4 #[(0, t11), (1, t14_75), (2, t17_80), (3, t18)]) fun t19_82 w81 =>
 pp (Instr.build 53 #[(4, t7_77), (5, t8_56), (6, t19_82)]) fun t20_83 => pw w81 (Instr.buildSlice 41 1 #[(0, t20_83)]) fun t21_85 w84 =>
 pp (Instr.build 43 #[(1, t21_85)]) fun t22_86 => so w84 43 t0 t22_86 fun w87 => pq w87 (cellSem 43 t0) fun r88 => K r88 w87) ∧
 (ca n_law13_con #[(i6 3)] w73 fun t16_90 w89 =>
 Ext w73 w89 ∧
 pp (Instr.build 64 #[(0, (Value.int .u8 1)), (1, t15), (2, t16_90), (10, (i6 3))]) fun t17_91 => ((pw w89 (Instr.buildSlice 23 3 #[(0, t4), (1, t5), (2, t6)]) fun t7_93 w92 =>
 Ext w89 w92 ∧
 pw w92 (Instr.buildSlice 51 4 #[(0, t11), (1, t14_75), (2, t17_91), (3, t18)]) fun t19_95 w94 =>
 pp (Instr.build 53 #[(4, t7_93), (5, t8_56), (6, t19_95)]) fun t20_96 => pw w94 (Instr.buildSlice 41 1 #[(0, t20_96)]) fun t21_98 w97 =>
 pp (Instr.build 43 #[(1, t21_98)]) fun t22_99 => so w97 43 t0 t22_99 fun w100 => pq w100 (cellSem 43 t0) fun r101 => K r101 w100) ∧
 (pw w89 (Instr.buildSlice 51 4 #[(0, t11), (1, t14_75), (2, t17_91), (3, t18)]) fun t19_103 w102 =>
 pw w102 (Instr.buildSlice 23 3 #[(0, t4), (1, t5), (2, t6)]) fun t7_105 w104 =>
 Ext w102 w104 ∧
 pp (Instr.build 53 #[(4, t7_105), (5, t8_56), (6, t19_103)]) fun t20_106 => pw w104 (Instr.buildSlice 41 1 #[(0, t20_106)]) fun t21_108 w107 =>
 pp (Instr.build 43 #[(1, t21_108)]) fun t22_109 => so w107 43 t0 t22_109 fun w110 => pq w110 (cellSem 43 t0) fun r111 => K r111 w110))))))) ∧
 (ca n_law13_con #[(i6 2)] w7 fun t13_113 w112 =>
 Ext w7 w112 ∧
 pp (Instr.build 64 #[(0, (Value.int .u8 1)), (1, t12), (2, t13_113), (10, (i6 2))]) fun t14_114 => ((pw w112 (Instr.buildSlice 23 3 #[(0, t4), (1, t5), (2, t6)]) fun t7_116 w115 =>
 Ext w112 w115 ∧
 ((pw w115 (Instr.makeSlice 50 (i6 3) (i6 3)) fun t8_118 w117 =>
 Ext w115 w117 ∧
 ca n_law13_con #[(i6 3)] w117 fun t16_120 w119 =>
 Ext w117 w119 ∧
 pp (Instr.build 64 #[(0, (Value.int .u8 1)), (1, t15), (2, t16_120), (10, (i6 3))]) fun t17_121 => pw w119 (Instr.buildSlice 51 4 #[(0, t11), (1, t14_114), (2, t17_121), (3, t18)]) fun t19_123 w122 =>
 pp (Instr.build 53 #[(4, t7_116), (5, t8_118), (6, t19_123)]) fun t20_124 => pw w122 (Instr.buildSlice 41 1 #[(0, t20_124)]) fun t21_126 w125 =>
 pp (Instr.build 43 #[(1, t21_126)]) fun t22_127 => so w125 43 t0 t22_127 fun w128 => pq w128 (cellSem 43 t0) fun r129 => K r129 w128) ∧
 (ca n_law13_con #[(i6 3)] w115 fun t16_131 w130 =>
 Ext w115 w130 ∧
 pp (Instr.build 64 #[(0, (Value.int .u8 1)), (1, t15), (2, t16_131), (10, (i6 3))]) fun t17_132 => ((pw w130 (Instr.makeSlice 50 (i6 3) (i6 3)) fun t8_134 w133 =>
 Ext w130 w133 ∧
 pw w133 (Instr.buildSlice 51 4 #[(0, t11), (1, t14_114), (2, t17_132), (3, t18)]) fun t19_136 w135 =>
 pp (Instr.build 53 #[(4, t7_116), (5, t8_134), (6, t19_136)]) fun t20_137 => pw w135 (Instr.buildSlice 41 1 #[(0, t20_137)]) fun t21_139 w138 =>
 pp (Instr.build 43 #[(1, t21_139)]) fun t22_140 => so w138 43 t0 t22_140 fun w141 => pq w141 (cellSem 43 t0) fun r142 => K r142 w141) ∧
 (pw w130 (Instr.buildSlice 51 4 #[(0, t11), (1, t14_114), (2, t17_132), (3, t18)]) fun t19_144 w143 =>
 pw w143 (Instr.makeSlice 50 (i6 3) (i6 3)) fun t8_146 w145 =>
 Ext w143 w145 ∧
 pp (Instr.build 53 #[(4, t7_116), (5, t8_146), (6, t19_144)]) fun t20_147 => pw w145 (Instr.buildSlice 41 1 #[(0, t20_147)]) fun t21_149 w148 =>
 pp (Instr.build 43 #[(1, t21_149)]) fun t22_150 => so w148 43 t0 t22_150 fun w151 => pq w151 (cellSem 43 t0) fun r152 => K r152 w151))))) ∧
 (((pw w112 (Instr.makeSlice 50 (i6 3) (i6 3)) fun t8_154 w153 =>
 Ext w112 w153 ∧
 ((pw w153 (Instr.buildSlice 23 3 #[(0, t4), (1, t5), (2, t6)]) fun t7_156 w155 =>
 Ext w153 w155 ∧
 ca n_law13_con #[(i6 3)] w155 fun t16_158 w157 =>
 Ext w155 w157 ∧
 pp (Instr.build 64 #[(0, (Value.int .u8 1)), (1, t15), (2, t16_158), (10, (i6 3))]) fun t17_159 => pw w157 (Instr.buildSlice 51 4 #[(0, t11), (1, t14_114), (2, t17_159), (3, t18)]) fun t19_161 w160 =>
 pp (Instr.build 53 #[(4, t7_156), (5, t8_154), (6, t19_161)]) fun t20_162 => pw w160 (Instr.buildSlice 41 1 #[(0, t20_162)]) fun t21_164 w163 =>
 pp (Instr.build 43 #[(1, t21_164)]) fun t22_165 => so w163 43 t0 t22_165 fun w166 => pq w166 (cellSem 43 t0) fun r167 => K r167 w166) ∧
 (ca n_law13_con #[(i6 3)] w153 fun t16_169 w168 =>
 Ext w153 w168 ∧
 pp (Instr.build 64 #[(0, (Value.int .u8 1)), (1, t15), (2, t16_169), (10, (i6 3))]) fun t17_170 => ((pw w168 (Instr.buildSlice 23 3 #[(0, t4), (1, t5), (2, t6)]) fun t7_172 w171 =>
 Ext w168 w171 ∧
 pw w171 (Instr.buildSlice 51 4 #[(0, t11), (1, t14_114), (2, t17_170), (3, t18)]) fun t19_174 w173 =>
 pp (Instr.build 53 #[(4, t7_172), (5, t8_154), (6, t19_174)]) fun t20_175 => pw w173 (Instr.buildSlice 41 1 #[(0, t20_175)]) fun t21_177 w176 =>
 pp (Instr.build 43 #[(1, t21_177)]) fun t22_178 => so w176 43 t0 t22_178 fun w179 => pq w179 (cellSem 43 t0) fun r180 => K r180 w179) ∧
 (pw w168 (Instr.buildSlice 51 4 #[(0, t11), (1, t14_114), (2, t17_170), (3, t18)]) fun t19_182 w181 =>
 pw w181 (Instr.buildSlice 23 3 #[(0, t4), (1, t5), (2, t6)]) fun t7_184 w183 =>
 Ext w181 w183 ∧
 pp (Instr.build 53 #[(4, t7_184), (5, t8_154), (6, t19_182)]) fun t20_185 => pw w183 (Instr.buildSlice 41 1 #[(0, t20_185)]) fun t21_187 w186 =>
 pp (Instr.build 43 #[(1, t21_187)]) fun t22_188 => so w186 43 t0 t22_188 fun w189 => pq w189 (cellSem 43 t0) fun r190 => K r190 w189))))) ∧
 (ca n_law13_con #[(i6 3)] w112 fun t16_192 w191 =>
 Ext w112 w191 ∧
 pp (Instr.build 64 #[(0, (Value.int .u8 1)), (1, t15), (2, t16_192), (10, (i6 3))]) fun t17_193 => ((pw w191 (Instr.buildSlice 23 3 #[(0, t4), (1, t5), (2, t6)]) fun t7_195 w194 =>
 Ext w191 w194 ∧
 ((pw w194 (Instr.makeSlice 50 (i6 3) (i6 3)) fun t8_197 w196 =>
 Ext w194 w196 ∧
 pw w196 (Instr.buildSlice 51 4 #[(0, t11), (1, t14_114), (2, t17_193), (3, t18)]) fun t19_199 w198 =>
 pp (Instr.build 53 #[(4, t7_195), (5, t8_197), (6, t19_199)]) fun t20_200 => pw w198 (Instr.buildSlice 41 1 #[(0, t20_200)]) fun t21_202 w201 =>
 pp (Instr.build 43 #[(1, t21_202)]) fun t22_203 => so w201 43 t0 t22_203 fun w204 => pq w204 (cellSem 43 t0) fun r205 => K r205 w204) ∧
 (pw w194 (Instr.buildSlice 51 4 #[(0, t11), (1, t14_114), (2, t17_193), (3, t18)]) fun t19_207 w206 =>
 pw w206 (Instr.makeSlice 50 (i6 3) (i6 3)) fun t8_209 w208 =>
 Ext w206 w208 ∧
 pp (Instr.build 53 #[(4, t7_195), (5, t8_209), (6, t19_207)]) fun t20_210 => pw w208 (Instr.buildSlice 41 1 #[(0, t20_210)]) fun t21_212 w211 =>
 pp (Instr.build 43 #[(1, t21_212)]) fun t22_213 => so w211 43 t0 t22_213 fun w214 => pq w214 (cellSem 43 t0) fun r215 => K r215 w214))) ∧
 (((pw w191 (Instr.makeSlice 50 (i6 3) (i6 3)) fun t8_217 w216 =>
 Ext w191 w216 ∧
 ((pw w216 (Instr.buildSlice 23 3 #[(0, t4), (1, t5), (2, t6)]) fun t7_219 w218 =>
 Ext w216 w218 ∧
 pw w218 (Instr.buildSlice 51 4 #[(0, t11), (1, t14_114), (2, t17_193), (3, t18)]) fun t19_221 w220 =>
 pp (Instr.build 53 #[(4, t7_219), (5, t8_217), (6, t19_221)]) fun t20_222 => pw w220 (Instr.buildSlice 41 1 #[(0, t20_222)]) fun t21_224 w223 =>
 pp (Instr.build 43 #[(1, t21_224)]) fun t22_225 => so w223 43 t0 t22_225 fun w226 => pq w226 (cellSem 43 t0) fun r227 => K r227 w226) ∧
 (pw w216 (Instr.buildSlice 51 4 #[(0, t11), (1, t14_114), (2, t17_193), (3, t18)]) fun t19_229 w228 =>
 pw w228 (Instr.buildSlice 23 3 #[(0, t4), (1, t5), (2, t6)]) fun t7_231 w230 =>
 Ext w228 w230 ∧
 pp (Instr.build 53 #[(4, t7_231), (5, t8_217), (6, t19_229)]) fun t20_232 => pw w230 (Instr.buildSlice 41 1 #[(0, t20_232)]) fun t21_234 w233 =>
 pp (Instr.build 43 #[(1, t21_234)]) fun t22_235 => so w233 43 t0 t22_235 fun w236 => pq w236 (cellSem 43 t0) fun r237 => K r237 w236))) ∧
 (pw w191 (Instr.buildSlice 51 4 #[(0, t11), (1, t14_114), (2, t17_193), (3, t18)]) fun t19_239 w238 =>
 ((pw w238 (Instr.buildSlice 23 3 #[(0, t4), (1, t5), (2, t6)]) fun t7_241 w240 =>
 Ext w238 w240 ∧
 pw w240 (Instr.makeSlice 50 (i6 3) (i6 3)) fun t8_243 w242 =>
 Ext w240 w242 ∧
 pp (Instr.build 53 #[(4, t7_241), (5, t8_243), (6, t19_239)]) fun t20_244 => pw w242 (Instr.buildSlice 41 1 #[(0, t20_244)]) fun t21_246 w245 =>
 pp (Instr.build 43 #[(1, t21_246)]) fun t22_247 => so w245 43 t0 t22_247 fun w248 => pq w248 (cellSem 43 t0) fun r249 => K r249 w248) ∧
 (pw w238 (Instr.makeSlice 50 (i6 3) (i6 3)) fun t8_251 w250 =>
 Ext w238 w250 ∧
 pw w250 (Instr.buildSlice 23 3 #[(0, t4), (1, t5), (2, t6)]) fun t7_253 w252 =>
 Ext w250 w252 ∧
 pp (Instr.build 53 #[(4, t7_253), (5, t8_251), (6, t19_239)]) fun t20_254 => pw w252 (Instr.buildSlice 41 1 #[(0, t20_254)]) fun t21_256 w255 =>
 pp (Instr.build 43 #[(1, t21_256)]) fun t22_257 => so w255 43 t0 t22_257 fun w258 => pq w258 (cellSem 43 t0) fun r259 => K r259 w258))))))))))))))) ∧
 (pw w6 (Instr.makeSlice 50 (i6 3) (i6 3)) fun t8_261 w260 =>
 Ext w6 w260 ∧
 ca n_law13_ref #[tr_] w260 fun t6_263 w262 =>
 Ext w260 w262 ∧
 ((pw w262 (Instr.buildSlice 23 3 #[(0, t4), (1, t5), (2, t6_263)]) fun t7_265 w264 =>
 Ext w262 w264 ∧
 ca n_law13_con #[(i6 2)] w264 fun t13_267 w266 =>
 Ext w264 w266 ∧
 pp (Instr.build 64 #[(0, (Value.int .u8 1)), (1, t12), (2, t13_267), (10, (i6 2))]) fun t14_268 => ca n_law13_con #[(i6 3)] w266 fun t16_270 w269 =>
 Ext w266 w269 ∧
 pp (Instr.build 64 #[(0, (Value.int .u8 1)), (1, t15), (2, t16_270), (10, (i6 3))]) fun t17_271 => pw w269 (Instr.buildSlice 51 4 #[(0, t11), (1, t14_268), (2, t17_271), (3, t18)]) fun t19_273 w272 =>
 pp (Instr.build 53 #[(4, t7_265), (5, t8_261), (6, t19_273)]) fun t20_274 => pw w272 (Instr.buildSlice 41 1 #[(0, t20_274)]) fun t21_276 w275 =>
 pp (Instr.build 43 #[(1, t21_276)]) fun t22_277 => so w275 43 t0 t22_277 fun w278 => pq w278 (cellSem 43 t0) fun r279 => K r279 w278) ∧
 (ca n_law13_con #[(i6 2)] w262 fun t13_281 w280 =>
 Ext w262 w280 ∧
 pp (Instr.build 64 #[(0, (Value.int .u8 1)), (1, t12), (2, t13_281), (10, (i6 2))]) fun t14_282 => ((pw w280 (Instr.buildSlice 23 3 #[(0, t4), (1, t5), (2, t6_263)]) fun t7_284 w283 =>
 Ext w280 w283 ∧
 ca n_law13_con #[(i6 3)] w283 fun t16_286 w285 =>
 Ext w283 w285 ∧
 pp (Instr.build 64 #[(0, (Value.int .u8 1)), (1, t15), (2, t16_286), (10, (i6 3))]) fun t17_287 => pw w285 (Instr.buildSlice 51 4 #[(0, t11), (1, t14_282), (2, t17_287), (3, t18)]) fun t19_289 w288 =>
 pp (Instr.build 53 #[(4, t7_284), (5, t8_261), (6, t19_289)]) fun t20_290 => pw w288 (Instr.buildSlice 41 1 #[(0, t20_290)]) fun t21_292 w291 =>
 pp (Instr.build 43 #[(1, t21_292)]) fun t22_293 => so w291 43 t0 t22_293 fun w294 => pq w294 (cellSem 43 t0) fun r295 => K r295 w294) ∧
 (ca n_law13_con #[(i6 3)] w280 fun t16_297 w296 =>
 Ext w280 w296 ∧
 pp (Instr.build 64 #[(0, (Value.int .u8 1)), (1, t15), (2, t16_297), (10, (i6 3))]) fun t17_298 => ((pw w296 (Instr.buildSlice 23 3 #[(0, t4), (1, t5), (2, t6_263)]) fun t7_300 w299 =>
 Ext w296 w299 ∧
 pw w299 (Instr.buildSlice 51 4 #[(0, t11), (1, t14_282), (2, t17_298), (3, t18)]) fun t19_302 w301 =>
 pp (Instr.build 53 #[(4, t7_300), (5, t8_261), (6, t19_302)]) fun t20_303 => pw w301 (Instr.buildSlice 41 1 #[(0, t20_303)]) fun t21_305 w304 =>
 pp (Instr.build 43 #[(1, t21_305)]) fun t22_306 => so w304 43 t0 t22_306 fun w307 => pq w307 (cellSem 43 t0) fun r308 => K r308 w307) ∧
 (pw w296 (Instr.buildSlice 51 4 #[(0, t11), (1, t14_282), (2, t17_298), (3, t18)]) fun t19_310 w309 =>
 pw w309 (Instr.buildSlice 23 3 #[(0, t4), (1, t5), (2, t6_263)]) fun t7_312 w311 =>
 Ext w309 w311 ∧
 pp (Instr.build 53 #[(4, t7_312), (5, t8_261), (6, t19_310)]) fun t20_313 => pw w311 (Instr.buildSlice 41 1 #[(0, t20_313)]) fun t21_315 w314 =>
 pp (Instr.build 43 #[(1, t21_315)]) fun t22_316 => so w314 43 t0 t22_316 fun w317 => pq w317 (cellSem 43 t0) fun r318 => K r318 w317))))))))) ∧
 (pw w5 (Instr.makeSlice 50 (i6 3) (i6 3)) fun t8_320 w319 =>
 Ext w5 w319 ∧
 ca n_law13_i64 #[] w319 fun t5_322 w321 =>
 Ext w319 w321 ∧
 ca n_law13_ref #[tr_] w321 fun t6_324 w323 =>
 Ext w321 w323 ∧
 ((pw w323 (Instr.buildSlice 23 3 #[(0, t4), (1, t5_322), (2, t6_324)]) fun t7_326 w325 =>
 Ext w323 w325 ∧
 ca n_law13_con #[(i6 2)] w325 fun t13_328 w327 =>
 Ext w325 w327 ∧
 pp (Instr.build 64 #[(0, (Value.int .u8 1)), (1, t12), (2, t13_328), (10, (i6 2))]) fun t14_329 => ca n_law13_con #[(i6 3)] w327 fun t16_331 w330 =>
 Ext w327 w330 ∧
 pp (Instr.build 64 #[(0, (Value.int .u8 1)), (1, t15), (2, t16_331), (10, (i6 3))]) fun t17_332 => pw w330 (Instr.buildSlice 51 4 #[(0, t11), (1, t14_329), (2, t17_332), (3, t18)]) fun t19_334 w333 =>
 pp (Instr.build 53 #[(4, t7_326), (5, t8_320), (6, t19_334)]) fun t20_335 => pw w333 (Instr.buildSlice 41 1 #[(0, t20_335)]) fun t21_337 w336 =>
 pp (Instr.build 43 #[(1, t21_337)]) fun t22_338 => so w336 43 t0 t22_338 fun w339 => pq w339 (cellSem 43 t0) fun r340 => K r340 w339) ∧
 (ca n_law13_con #[(i6 2)] w323 fun t13_342 w341 =>
 Ext w323 w341 ∧
 pp (Instr.build 64 #[(0, (Value.int .u8 1)), (1, t12), (2, t13_342), (10, (i6 2))]) fun t14_343 => ((pw w341 (Instr.buildSlice 23 3 #[(0, t4), (1, t5_322), (2, t6_324)]) fun t7_345 w344 =>
 Ext w341 w344 ∧
 ca n_law13_con #[(i6 3)] w344 fun t16_347 w346 =>
 Ext w344 w346 ∧
 pp (Instr.build 64 #[(0, (Value.int .u8 1)), (1, t15), (2, t16_347), (10, (i6 3))]) fun t17_348 => pw w346 (Instr.buildSlice 51 4 #[(0, t11), (1, t14_343), (2, t17_348), (3, t18)]) fun t19_350 w349 =>
 pp (Instr.build 53 #[(4, t7_345), (5, t8_320), (6, t19_350)]) fun t20_351 => pw w349 (Instr.buildSlice 41 1 #[(0, t20_351)]) fun t21_353 w352 =>
 pp (Instr.build 43 #[(1, t21_353)]) fun t22_354 => so w352 43 t0 t22_354 fun w355 => pq w355 (cellSem 43 t0) fun r356 => K r356 w355) ∧
 (ca n_law13_con #[(i6 3)] w341 fun t16_358 w357 =>
 Ext w341 w357 ∧
 pp (Instr.build 64 #[(0, (Value.int .u8 1)), (1, t15), (2, t16_358), (10, (i6 3))]) fun t17_359 => ((pw w357 (Instr.buildSlice 23 3 #[(0, t4), (1, t5_322), (2, t6_324)]) fun t7_361 w360 =>
 Ext w357 w360 ∧
 pw w360 (Instr.buildSlice 51 4 #[(0, t11), (1, t14_343), (2, t17_359), (3, t18)]) fun t19_363 w362 =>
 pp (Instr.build 53 #[(4, t7_361), (5, t8_320), (6, t19_363)]) fun t20_364 => pw w362 (Instr.buildSlice 41 1 #[(0, t20_364)]) fun t21_366 w365 =>
 pp (Instr.build 43 #[(1, t21_366)]) fun t22_367 => so w365 43 t0 t22_367 fun w368 => pq w368 (cellSem 43 t0) fun r369 => K r369 w368) ∧
 (pw w357 (Instr.buildSlice 51 4 #[(0, t11), (1, t14_343), (2, t17_359), (3, t18)]) fun t19_371 w370 =>
 pw w370 (Instr.buildSlice 23 3 #[(0, t4), (1, t5_322), (2, t6_324)]) fun t7_373 w372 =>
 Ext w370 w372 ∧
 pp (Instr.build 53 #[(4, t7_373), (5, t8_320), (6, t19_371)]) fun t20_374 => pw w372 (Instr.buildSlice 41 1 #[(0, t20_374)]) fun t21_376 w375 =>
 pp (Instr.build 43 #[(1, t21_376)]) fun t22_377 => so w375 43 t0 t22_377 fun w378 => pq w378 (cellSem 43 t0) fun r379 => K r379 w378))))))))) ∧
 (pw w4.drew (Instr.makeSlice 50 (i6 3) (i6 3)) fun t8_381 w380 =>
 Ext w4.drew w380 ∧
 ca n_law13_i64 #[] w380 fun t4_383 w382 =>
 Ext w380 w382 ∧
 ca n_law13_i64 #[] w382 fun t5_385 w384 =>
 Ext w382 w384 ∧
 ca n_law13_ref #[tr_] w384 fun t6_387 w386 =>
 Ext w384 w386 ∧
 ((pw w386 (Instr.buildSlice 23 3 #[(0, t4_383), (1, t5_385), (2, t6_387)]) fun t7_389 w388 =>
 Ext w386 w388 ∧
 ca n_law13_con #[(i6 2)] w388 fun t13_391 w390 =>
 Ext w388 w390 ∧
 pp (Instr.build 64 #[(0, (Value.int .u8 1)), (1, t12), (2, t13_391), (10, (i6 2))]) fun t14_392 => ca n_law13_con #[(i6 3)] w390 fun t16_394 w393 =>
 Ext w390 w393 ∧
 pp (Instr.build 64 #[(0, (Value.int .u8 1)), (1, t15), (2, t16_394), (10, (i6 3))]) fun t17_395 => pw w393 (Instr.buildSlice 51 4 #[(0, t11), (1, t14_392), (2, t17_395), (3, t18)]) fun t19_397 w396 =>
 pp (Instr.build 53 #[(4, t7_389), (5, t8_381), (6, t19_397)]) fun t20_398 => pw w396 (Instr.buildSlice 41 1 #[(0, t20_398)]) fun t21_400 w399 =>
 pp (Instr.build 43 #[(1, t21_400)]) fun t22_401 => so w399 43 t0 t22_401 fun w402 => pq w402 (cellSem 43 t0) fun r403 => K r403 w402) ∧
 (ca n_law13_con #[(i6 2)] w386 fun t13_405 w404 =>
 Ext w386 w404 ∧
 pp (Instr.build 64 #[(0, (Value.int .u8 1)), (1, t12), (2, t13_405), (10, (i6 2))]) fun t14_406 => ((pw w404 (Instr.buildSlice 23 3 #[(0, t4_383), (1, t5_385), (2, t6_387)]) fun t7_408 w407 =>
 Ext w404 w407 ∧
 ca n_law13_con #[(i6 3)] w407 fun t16_410 w409 =>
 Ext w407 w409 ∧
 pp (Instr.build 64 #[(0, (Value.int .u8 1)), (1, t15), (2, t16_410), (10, (i6 3))]) fun t17_411 => pw w409 (Instr.buildSlice 51 4 #[(0, t11), (1, t14_406), (2, t17_411), (3, t18)]) fun t19_413 w412 =>
 pp (Instr.build 53 #[(4, t7_408), (5, t8_381), (6, t19_413)]) fun t20_414 => pw w412 (Instr.buildSlice 41 1 #[(0, t20_414)]) fun t21_416 w415 =>
 pp (Instr.build 43 #[(1, t21_416)]) fun t22_417 => so w415 43 t0 t22_417 fun w418 => pq w418 (cellSem 43 t0) fun r419 => K r419 w418) ∧
 (ca n_law13_con #[(i6 3)] w404 fun t16_421 w420 =>
 Ext w404 w420 ∧
 pp (Instr.build 64 #[(0, (Value.int .u8 1)), (1, t15), (2, t16_421), (10, (i6 3))]) fun t17_422 => ((pw w420 (Instr.buildSlice 23 3 #[(0, t4_383), (1, t5_385), (2, t6_387)]) fun t7_424 w423 =>
 Ext w420 w423 ∧
 pw w423 (Instr.buildSlice 51 4 #[(0, t11), (1, t14_406), (2, t17_422), (3, t18)]) fun t19_426 w425 =>
 pp (Instr.build 53 #[(4, t7_424), (5, t8_381), (6, t19_426)]) fun t20_427 => pw w425 (Instr.buildSlice 41 1 #[(0, t20_427)]) fun t21_429 w428 =>
 pp (Instr.build 43 #[(1, t21_429)]) fun t22_430 => so w428 43 t0 t22_430 fun w431 => pq w431 (cellSem 43 t0) fun r432 => K r432 w431) ∧
 (pw w420 (Instr.buildSlice 51 4 #[(0, t11), (1, t14_406), (2, t17_422), (3, t18)]) fun t19_434 w433 =>
 pw w433 (Instr.buildSlice 23 3 #[(0, t4_383), (1, t5_385), (2, t6_387)]) fun t7_436 w435 =>
 Ext w433 w435 ∧
 pp (Instr.build 53 #[(4, t7_436), (5, t8_381), (6, t19_434)]) fun t20_437 => pw w435 (Instr.buildSlice 41 1 #[(0, t20_437)]) fun t21_439 w438 =>
 pp (Instr.build 43 #[(1, t21_439)]) fun t22_440 => so w438 43 t0 t22_440 fun w441 => pq w441 (cellSem 43 t0) fun r442 => K r442 w441))))))))
theorem ok_law13_hand {w : World} {K : VW} (h : F_law13_hand  w K) : oCall prog n_law13_hand #[] w K :=
  okC false (.s (.r (rz 1 0 2)) (.s (.r (rz 4 0 162)) (.s (.r (ra 4 5 0 (ra 1 11 1 (ra 1 14 0 (.alt 0 .u (.alt 1 .u (.alt 2 .u (.alt 3 .u (.alt 4 .u (ra 2 9 3 (ra 2 12 3 (rz 5 15 546))) (ra 2 9 3 (.alt 4 .u (ra 2 12 3 (rz 5 15 546)) (ra 2 12 3 (.alt 4 .u (rz 5 15 546) (ra 1 15 2 (ra 1 4 3 (rz 4 16 136)))))))) (.alt 4 .u (.alt 3 .u (ra 2 9 3 (ra 2 12 3 (rz 5 15 546))) (ra 2 9 3 (.alt 3 .u (ra 2 12 3 (rz 5 15 546)) (ra 2 12 3 (.alt 3 .u (rz 5 15 546) (ra 1 15 2 (ra 1 3 3 (rz 4 16 136)))))))) (ra 2 9 3 (.alt 3 .u (.alt 4 .u (ra 2 12 3 (rz 5 15 546)) (ra 2 12 3 (.alt 4 .u (rz 5 15 546) (ra 1 15 2 (ra 1 4 3 (rz 4 16 136)))))) (.alt 4 .u (.alt 3 .u (ra 2 12 3 (rz 5 15 546)) (ra 2 12 3 (.alt 3 .u (rz 5 15 546) (ra 1 15 2 (ra 1 3 3 (rz 4 16 136)))))) (ra 2 12 3 (.alt 3 .u (.alt 4 .u (rz 5 15 546) (ra 1 15 2 (ra 1 4 3 (rz 4 16 136)))) (.alt 4 .u (.alt 3 .u (rz 5 15 546) (ra 1 15 2 (ra 1 3 3 (rz 4 16 136)))) (ra 1 15 2 (.alt 3 .u (ra 1 4 3 (rz 4 16 136)) (ra 1 4 3 (ra 1 3 3 (rz 4 16 136))))))))))))) (ra 1 4 3 (ra 1 2 3 (.alt 3 .u (ra 2 9 3 (ra 2 12 3 (rz 5 15 546))) (ra 2 9 3 (.alt 3 .u (ra 2 12 3 (rz 5 15 546)) (ra 2 12 3 (.alt 3 .u (rz 5 15 546) (ra 1 15 2 (ra 1 3 3 (rz 4 16 136))))))))))) (ra 1 4 3 (ra 2 1 15 (.alt 3 .u (ra 2 9 3 (ra 2 12 3 (rz 5 15 546))) (ra 2 9 3 (.alt 3 .u (ra 2 12 3 (rz 5 15 546)) (ra 2 12 3 (.alt 3 .u (rz 5 15 546) (ra 1 15 2 (ra 1 3 3 (rz 4 16 136))))))))))) (ra 1 4 3 (ra 3 0 63 (.alt 3 .u (ra 2 9 3 (ra 2 12 3 (rz 5 15 546))) (ra 2 9 3 (.alt 3 .u (ra 2 12 3 (rz 5 15 546)) (ra 2 12 3 (.alt 3 .u (rz 5 15 546) (ra 1 15 2 (ra 1 3 3 (rz 4 16 136))))))))))))))) (.n)))) func26 rfl (by kernel_rfl) (by kernel_rfl) h

/- 54: loanword/loanwordlaw13.i64 -/
def F_law13_i64 (w : World) (K : VW) : Prop :=
 pw w (Instr.alloc 25 true (.tuple #[])) fun t0 w1 =>
 pp (Instr.build 25 #[(0, (Value.int .u8 1))]) fun t1 => so w1 25 t0 t1 fun w2 => pq w2 (cellSem 25 t0) fun r3 => K r3 w2
theorem ok_law13_i64 {w : World} {K : VW} (h : F_law13_i64  w K) : oCall prog n_law13_i64 #[] w K :=
  okC false (.s (.r (rz 1 0 2)) (.s (.r (rz 2 0 8)) (.n))) func54 rfl (by kernel_rfl) (by kernel_rfl) h

/- 55: loanword/loanwordlaw13.ref -/
def F_law13_ref (t0 : Value) (w : World) (K : VW) : Prop :=
 pw w (Instr.alloc 25 true (.tuple #[])) fun t2 w1 =>
 ca n_law13_i64 #[] w1 fun t4 w2 =>
 pw w2 (Instr.buildSlice 23 1 #[(0, t4)]) fun t5 w3 =>
 pp (Instr.build 25 #[(0, (Value.int .u8 4)), (1, t0), (2, (i6 (-1))), (4, t5)]) fun t6 => so w3 25 t2 t6 fun w4 => pq w4 (cellSem 25 t2) fun r5 => K r5 w4
theorem ok_law13_ref {t0 : Value} {w : World} {K : VW} (h : F_law13_ref t0 w K) : oCall prog n_law13_ref #[t0] w K :=
  okC false (.s (.r (rz 1 0 2)) (.s (.r (rz 5 0 552)) (.n))) func55 rfl (by kernel_rfl) (by kernel_rfl) h

/- 56: loanword/loanwordlaw13.con -/
def F_law13_con (t0 : Value) (w : World) (K : VW) : Prop :=
 pw w (Instr.alloc 61 true (.tuple #[])) fun t2 w1 =>
 pp (Instr.build 61 #[(0, (Value.int .u8 1)), (1, t0)]) fun t4 => so w1 61 t2 t4 fun w2 => pq w2 (cellSem 61 t2) fun r3 => K r3 w2
theorem ok_law13_con {t0 : Value} {w : World} {K : VW} (h : F_law13_con t0 w K) : oCall prog n_law13_con #[t0] w K :=
  okC false (.s (.r (rz 1 0 2)) (.s (.r (rz 3 0 32)) (.n))) func56 rfl (by kernel_rfl) (by kernel_rfl) h

end Go.Proofs.Try
end

section
namespace Go.Proofs

open Go.Sh

set_option maxRecDepth 100000

inductive TyD where
  | mk (k : Int) (m : Bool) (re st : Int) (of : List TyD)
namespace TyD

def k : TyD → Int | mk k _ _ _ _ => k
def m : TyD → Bool | mk _ m _ _ _ => m
def re : TyD → Int | mk _ _ re _ _ => re
def st : TyD → Int | mk _ _ _ st _ => st
def of : TyD → List TyD | mk _ _ _ _ of => of
mutual

def dat : TyD → Dat
  | mk k m re st of => .agg [.int .u8 k, .bool m, .int .i64 re, .int .i64 st, .sl 5 (dats of)]
def dats : List TyD → List Dat
  | [] => []
  | t :: l => dat t :: dats l
end

theorem dats_map : ∀ l : List TyD, dats l = l.map dat
  | [] => rfl
  | t :: l => by rw [dats, dats_map l]; rfl
mutual

def ht : TyD → Nat
  | mk _ _ _ _ of => hts of + 1
def hts : List TyD → Nat
  | [] => 0
  | t :: l => max (ht t) (hts l)
end

theorem ht_lt : ∀ {l : List TyD} {t : TyD}, t ∈ l → ht t ≤ hts l
  | x :: l, t, h => by
    rcases List.mem_cons.1 h with rfl | h
    · exact Nat.le_max_left _ _
    · exact Nat.le_trans (ht_lt h) (Nat.le_max_right _ _)
theorem ht_of {t u : TyD} (h : u ∈ t.of) : ht u < ht t := by
  cases t with | mk k m re st of => exact Nat.lt_succ_of_le (ht_lt h)
end TyD

/-- the value tells the type -/
def TyG (r : Gh) (v : Value) (t : TyD) : Prop :=
  ∃ p cap, v = .agg #[.int .u8 t.k, .bool t.m, .int .i64 t.re, .int .i64 t.st, .slice p t.of.length cap] ∧ (p = none → cap = 0) ∧ t.of.length ≤ cap ∧ RepS r 5 p 0 (TyD.dats t.of)
theorem TyG.up {r s : Gh} {v : Value} {t : TyD} (h : TyG r v t) [l : Le r s] : TyG s v t := by
  obtain ⟨p, cap, h1, h2, h3, h4⟩ := h; exact ⟨p, cap, h1, h2, h3, h4.up⟩
theorem TyG.of_rep {r : Gh} {c : List Value} {t : TyD} (h : Rep r t.dat c) : TyG r (.agg c.toArray) t := by
  cases t with
  | mk k m re st of =>
    obtain ⟨a1, b1, rfl, h1, a2, b2, rfl, h2, a3, b3, rfl, h3, a4, b4, rfl, h4, a5, b5, rfl, h5, h6⟩ := h
    obtain rfl : a1 = _ := h1
    obtain rfl : a2 = _ := h2
    obtain rfl : a3 = _ := h3
    obtain rfl : a4 = _ := h4
    obtain rfl : b5 = [] := h6
    obtain ⟨p, cap, rfl, q1, q2, q3⟩ := h5
    rw [TyD.dats_map, List.length_map] at q2
    refine ⟨p, cap, ?_, q1, q2, q3⟩
    rw [TyD.dats_map, List.length_map]; rfl
theorem TyG.rep {r : Gh} {v : Value} {t : TyD} (h : TyG r v t) : ∃ c, v = .agg c.toArray ∧ c.length = 5 ∧ Rep r t.dat c := by
  obtain ⟨p, cap, rfl, h2, h3, h4⟩ := h
  refine ⟨_, rfl, rfl, ?_⟩
  cases t with
  | mk k m re st of =>
    refine ⟨[_], _, rfl, rfl, [_], _, rfl, rfl, [_], _, rfl, rfl, [_], _, rfl, rfl, [_], [], rfl, ⟨p, cap, ?_, h2, ?_, h4⟩, rfl⟩
    · rw [TyD.dats_map, List.length_map]; rfl
    · rw [TyD.dats_map, List.length_map]; exact h3
/-- what a type has inside, to be read -/
theorem ty_elem {X : Nat → Prop} {w0 w : World} {r q : Gh} {L : List Asr} (S : StX X w0 r w L) {p : Option Addr} {of : List TyD} (h : RepS q 5 p 0 (TyD.dats of)) [l : Le q r] {i : Nat} (hi : i < of.length) :
    ∃ (b off : Nat) (c : List Value), p = some ⟨b, off, none⟩ ∧ c.length = 5 ∧ (∀ j v, c[j]? = some v → w.cell? ⟨b, off + i * 5 + j, none⟩ = some v) ∧ TyG q (.agg c.toArray) of[i] := by
  rw [TyD.dats_map] at h
  obtain ⟨b, off, c, h1, h2, h3, h4⟩ := RepS.at S h (i := i) (by simpa using hi) (by decide)
  rw [List.getElem_map] at h4
  exact ⟨b, off, c, h1, h2, h3, TyG.of_rep h4⟩

end Go.Proofs
end

section
namespace Go.Proofs

open Go.Sh

set_option maxRecDepth 100000

/-- may a type be among so many structs, so deep at most? -/
def lookB (structs : Int) : Nat → TyD → Bool
  | 0, _ => false
  | n + 1, t =>
    let inn := decide (t.of.length = 1) && (match t.of with | u :: _ => lookB structs n u | [] => false)
    let bare := !t.m && decide (t.re = 0)
    if t.k = 1 ∨ t.k = 2 then bare && decide (t.st = 0) && decide (t.of.length = 0)
    else if t.k = 5 then bare && decide (t.of.length = 0) && decide (0 ≤ t.st) && decide (t.st < structs)
    else if t.k = 3 then bare && decide (t.st = 0) && inn
    else if t.k = 4 then decide (-1 ≤ t.re) && decide (t.st = 0) && inn
    else false
def inB (structs : Int) (n : Nat) (t : TyD) : Bool := match t.of with | u :: _ => lookB structs n u | [] => false
theorem inB_of {structs : Int} {n : Nat} : ∀ {t : TyD} {h : 0 < t.of.length}, inB structs n t = lookB structs n t.of[0]
  | .mk _ _ _ _ (_ :: _), _ => rfl
  | .mk _ _ _ _ [], h => absurd h (Nat.not_lt_zero _)
theorem int_zero (n : Nat) : ((n : Int) = 0) ↔ n = 0 := by omega
theorem int_one (n : Nat) : ((n : Int) = 1) ↔ n = 1 := by omega

theorem c_types_look : ∀ (n : Nat) {t : TyD} {w : World} {r : Gh} {v : Value} {structs : Int} {K : Value → World → Prop}, n ≤ 1000 → Holds r w → TyG r v t →
    (∀ w', Ext w w' → K (.bool (lookB structs n t)) w') → oCall Try.prog Try.n_types_look #[v, .int .i64 structs, .int .i64 (n : Int)] w K := by
  intro n
  induction n with
  | zero =>
    intro t w r v structs K _ hr hv h
    refine Try.ok_types_look ?_
    unfold Try.F_types_look
    have S := St.start hr
    refine S.box fun b2 w1 S => ?_
    (repeat (first | refine s_p ?_ | refine s_c (by omega) ?_ | refine S.ld ?_ | refine S.ldB ?_ | refine S.ce ?_ | refine S.ceB ?_ | refine s_q ?_ | refine s_qc (by omega) ?_ | refine n_some ?_ | rw [List.getD_cons_zero] | rw [List.getD_cons_succ]))
    exact h _ S.ext
  | succ n ih =>
    intro t w r v structs K hn hr hv h
    refine Try.ok_types_look ?_
    unfold Try.F_types_look
    obtain ⟨p, cap, rfl, _, _, hof⟩ := hv
    have S := St.start hr
    refine S.box fun b2 w1 S => ?_
    (repeat (first | refine s_p ?_ | refine s_c (by omega) ?_ | refine S.ld ?_ | refine S.ldB ?_ | refine S.ce ?_ | refine S.ceB ?_ | refine s_q ?_ | refine s_qc (by omega) ?_ | refine n_some ?_ | rw [List.getD_cons_zero] | rw [List.getD_cons_succ]))
    refine j_bandE (c := inB structs n t) (fun hb K2 hK2 => ?_) fun w5 e5 => ?_
    · have hlen : t.of.length = 1 := by simpa [int_one] using hb
      (repeat (first | refine s_p ?_ | refine s_c (by omega) ?_ | refine S.ld ?_ | refine S.ldB ?_ | refine S.ce ?_ | refine S.ceB ?_ | refine s_q ?_ | refine s_qc (by omega) ?_ | refine n_some ?_ | rw [List.getD_cons_zero] | rw [List.getD_cons_succ]))
      obtain ⟨b, off, c, rfl, hc, hcell, ht⟩ := ty_elem S hof (i := 0) (by omega)
      (repeat (first | refine s_p ?_ | refine s_c (by omega) ?_ | refine S.ld ?_ | refine S.ldB ?_ | refine S.ce ?_ | refine S.ceB ?_ | refine s_q ?_ | refine s_qc (by omega) ?_ | refine n_some ?_ | rw [List.getD_cons_zero] | rw [List.getD_cons_succ]))
      refine s_ldN (n := 5) hc (by simpa using hcell) ?_
      (repeat (first | refine s_p ?_ | refine s_c (by omega) ?_ | refine S.ld ?_ | refine S.ldB ?_ | refine S.ce ?_ | refine S.ceB ?_ | refine s_q ?_ | refine s_qc (by omega) ?_ | refine n_some ?_ | rw [List.getD_cons_zero] | rw [List.getD_cons_succ]))
      rw [show ((n + 1 : Nat) : Int) - 1 = (n : Int) by omega]
      refine ih (by omega) S.holds ht fun w6 e6 => ?_
      rw [← inB_of]
      exact hK2 _ e6
    have S := S.go e5
    (repeat (first | refine s_p ?_ | refine s_c (by omega) ?_ | refine S.ld ?_ | refine S.ldB ?_ | refine S.ce ?_ | refine S.ceB ?_ | refine s_q ?_ | refine s_qc (by omega) ?_ | refine n_some ?_ | rw [List.getD_cons_zero] | rw [List.getD_cons_succ]))
    refine j_band (fun K2 hK2 => by (repeat (first | refine s_p ?_ | refine s_c (by omega) ?_ | refine S.ld ?_ | refine S.ldB ?_ | refine S.ce ?_ | refine S.ceB ?_ | refine s_q ?_ | refine s_qc (by omega) ?_ | refine n_some ?_ | rw [List.getD_cons_zero] | rw [List.getD_cons_succ])); exact hK2) ?_
    (repeat (first | refine s_p ?_ | refine s_c (by omega) ?_ | refine S.ld ?_ | refine S.ldB ?_ | refine S.ce ?_ | refine S.ceB ?_ | refine s_q ?_ | refine s_qc (by omega) ?_ | refine n_some ?_ | rw [List.getD_cons_zero] | rw [List.getD_cons_succ]))
    intro K11 hK11
    (repeat (first | refine s_p ?_ | refine s_c (by omega) ?_ | refine S.ld ?_ | refine S.ldB ?_ | refine S.ce ?_ | refine S.ceB ?_ | refine s_q ?_ | refine s_qc (by omega) ?_ | refine n_some ?_ | rw [List.getD_cons_zero] | rw [List.getD_cons_succ]))
    refine k_cor (c := decide (t.k = 2)) (hK11 _ _ fun _ => ?_) fun _ hk => ?_
    rotate_left
    · (repeat (first | refine s_p ?_ | refine s_c (by omega) ?_ | refine S.ld ?_ | refine S.ldB ?_ | refine S.ce ?_ | refine S.ceB ?_ | refine s_q ?_ | refine s_qc (by omega) ?_ | refine n_some ?_ | rw [List.getD_cons_zero] | rw [List.getD_cons_succ])); exact hk
    simp only [List.getD_cons_zero]
    have hu : lookB structs (n + 1) t = (if t.k = 1 ∨ t.k = 2 then (!t.m && decide (t.re = 0)) && decide (t.st = 0) && decide (t.of.length = 0)
      else if t.k = 5 then (!t.m && decide (t.re = 0)) && decide (t.of.length = 0) && decide (0 ≤ t.st) && decide (t.st < structs)
      else if t.k = 3 then (!t.m && decide (t.re = 0)) && decide (t.st = 0) && (decide (t.of.length = 1) && inB structs n t)
      else if t.k = 4 then decide (-1 ≤ t.re) && decide (t.st = 0) && (decide (t.of.length = 1) && inB structs n t)
      else false) := rfl
    rw [hu] at h
    refine c_b (fun h12 => ?_) (fun h12 => ?_)
    · have h12 : t.k = 1 ∨ t.k = 2 := by simpa using h12
      rw [if_pos h12] at h
      refine j_band (fun K2 hK2 => by (repeat (first | refine s_p ?_ | refine s_c (by omega) ?_ | refine S.ld ?_ | refine S.ldB ?_ | refine S.ce ?_ | refine S.ceB ?_ | refine s_q ?_ | refine s_qc (by omega) ?_ | refine n_some ?_ | rw [List.getD_cons_zero] | rw [List.getD_cons_succ])); exact hK2) ?_
      refine j_band (fun K2 hK2 => by (repeat (first | refine s_p ?_ | refine s_c (by omega) ?_ | refine S.ld ?_ | refine S.ldB ?_ | refine S.ce ?_ | refine S.ceB ?_ | refine s_q ?_ | refine s_qc (by omega) ?_ | refine n_some ?_ | rw [List.getD_cons_zero] | rw [List.getD_cons_succ])); exact hK2) ?_
      rw [decide_eq_decide.2 (int_zero t.of.length)]
      exact h _ S.ext
    have h12 : ¬ (t.k = 1 ∨ t.k = 2) := by simpa using h12
    rw [if_neg h12] at h
    (repeat (first | refine s_p ?_ | refine s_c (by omega) ?_ | refine S.ld ?_ | refine S.ldB ?_ | refine S.ce ?_ | refine S.ceB ?_ | refine s_q ?_ | refine s_qc (by omega) ?_ | refine n_some ?_ | rw [List.getD_cons_zero] | rw [List.getD_cons_succ]))
    refine c_if (fun h5 => ?_) (fun h5 => ?_)
    · rw [if_pos h5] at h
      refine j_band (fun K2 hK2 => by (repeat (first | refine s_p ?_ | refine s_c (by omega) ?_ | refine S.ld ?_ | refine S.ldB ?_ | refine S.ce ?_ | refine S.ceB ?_ | refine s_q ?_ | refine s_qc (by omega) ?_ | refine n_some ?_ | rw [List.getD_cons_zero] | rw [List.getD_cons_succ])); exact hK2) ?_
      refine j_band (fun K2 hK2 => by (repeat (first | refine s_p ?_ | refine s_c (by omega) ?_ | refine S.ld ?_ | refine S.ldB ?_ | refine S.ce ?_ | refine S.ceB ?_ | refine s_q ?_ | refine s_qc (by omega) ?_ | refine n_some ?_ | rw [List.getD_cons_zero] | rw [List.getD_cons_succ])); exact hK2) ?_
      refine j_band (fun K2 hK2 => by (repeat (first | refine s_p ?_ | refine s_c (by omega) ?_ | refine S.ld ?_ | refine S.ldB ?_ | refine S.ce ?_ | refine S.ceB ?_ | refine s_q ?_ | refine s_qc (by omega) ?_ | refine n_some ?_ | rw [List.getD_cons_zero] | rw [List.getD_cons_succ])); exact hK2) ?_
      rw [decide_eq_decide.2 (int_zero t.of.length)]
      exact h _ S.ext
    rw [if_neg h5] at h
    (repeat (first | refine s_p ?_ | refine s_c (by omega) ?_ | refine S.ld ?_ | refine S.ldB ?_ | refine S.ce ?_ | refine S.ceB ?_ | refine s_q ?_ | refine s_qc (by omega) ?_ | refine n_some ?_ | rw [List.getD_cons_zero] | rw [List.getD_cons_succ]))
    refine c_if (fun h3 => ?_) (fun h3 => ?_)
    · rw [if_pos h3] at h
      refine j_band (fun K2 hK2 => by (repeat (first | refine s_p ?_ | refine s_c (by omega) ?_ | refine S.ld ?_ | refine S.ldB ?_ | refine S.ce ?_ | refine S.ceB ?_ | refine s_q ?_ | refine s_qc (by omega) ?_ | refine n_some ?_ | rw [List.getD_cons_zero] | rw [List.getD_cons_succ])); exact hK2) ?_
      refine j_band (fun K2 hK2 => hK2) ?_
      rw [decide_eq_decide.2 (int_one t.of.length)]
      exact h _ S.ext
    rw [if_neg h3] at h
    (repeat (first | refine s_p ?_ | refine s_c (by omega) ?_ | refine S.ld ?_ | refine S.ldB ?_ | refine S.ce ?_ | refine S.ceB ?_ | refine s_q ?_ | refine s_qc (by omega) ?_ | refine n_some ?_ | rw [List.getD_cons_zero] | rw [List.getD_cons_succ]))
    refine c_if (fun h4 => ?_) (fun h4 => ?_)
    · rw [if_pos h4] at h
      (repeat (first | refine s_p ?_ | refine s_c (by omega) ?_ | refine S.ld ?_ | refine S.ldB ?_ | refine S.ce ?_ | refine S.ceB ?_ | refine s_q ?_ | refine s_qc (by omega) ?_ | refine n_some ?_ | rw [List.getD_cons_zero] | rw [List.getD_cons_succ]))
      refine j_band (fun K2 hK2 => by (repeat (first | refine s_p ?_ | refine s_c (by omega) ?_ | refine S.ld ?_ | refine S.ldB ?_ | refine S.ce ?_ | refine S.ceB ?_ | refine s_q ?_ | refine s_qc (by omega) ?_ | refine n_some ?_ | rw [List.getD_cons_zero] | rw [List.getD_cons_succ])); exact hK2) ?_
      refine j_band (fun K2 hK2 => hK2) ?_
      rw [decide_eq_decide.2 (int_one t.of.length)]
      exact h _ S.ext
    rw [if_neg h4] at h
    exact h _ S.ext
theorem lookB_succ (structs : Int) (n : Nat) (t : TyD) : lookB structs (n + 1) t = (if t.k = 1 ∨ t.k = 2 then (!t.m && decide (t.re = 0)) && decide (t.st = 0) && decide (t.of.length = 0)
      else if t.k = 5 then (!t.m && decide (t.re = 0)) && decide (t.of.length = 0) && decide (0 ≤ t.st) && decide (t.st < structs)
      else if t.k = 3 then (!t.m && decide (t.re = 0)) && decide (t.st = 0) && (decide (t.of.length = 1) && inB structs n t)
      else if t.k = 4 then decide (-1 ≤ t.re) && decide (t.st = 0) && (decide (t.of.length = 1) && inB structs n t)
      else false) := rfl
/-- may a type be, whichever the structs? -/
def isB (t : TyD) : Bool := lookB 32 48 t
theorem c_types_may {t : TyD} {w : World} {r : Gh} {v : Value} {K : Value → World → Prop} (hr : Holds r w) (hv : TyG r v t) (h : ∀ w', Ext w w' → K (.bool (isB t)) w') : oCall Try.prog Try.n_types_may #[v] w K := by
  refine Try.ok_types_may ?_
  unfold Try.F_types_may
  have hv0 := hv
  obtain ⟨p, cap, rfl, _⟩ := hv
  have S := St.start hr
  refine S.box fun b2 w1 S => ?_
  (repeat (first | refine s_p ?_ | refine s_c (by omega) ?_ | refine S.ld ?_ | refine S.ldB ?_ | refine S.ce ?_ | refine S.ceB ?_ | refine s_q ?_ | refine s_qc (by omega) ?_ | refine n_some ?_ | rw [List.getD_cons_zero] | rw [List.getD_cons_succ]))
  exact c_types_look 48 (by decide) S.holds hv0 fun w2 e2 => h _ (S.go e2).ext
end Go.Proofs
end

section
namespace Go.Proofs

open Go.Sh

set_option maxRecDepth 100000

theorem look_cases {s : Int} {n : Nat} {t : TyD} (h : lookB s (n + 1) t = true) : (t.of = [] ∧ (t.k = 1 ∨ t.k = 2 ∨ t.k = 5)) ∨ ∃ u, t.of = [u] ∧ lookB s n u = true ∧ (t.k = 3 ∨ t.k = 4) := by
  rw [lookB_succ] at h
  have one : ∀ {b : Bool}, (b && (decide (t.of.length = 1) && inB s n t)) = true → ∃ u, t.of = [u] ∧ lookB s n u = true := by
    intro b hb
    simp only [Bool.and_eq_true, decide_eq_true_eq] at hb
    obtain ⟨_, hl, hi⟩ := hb
    cases t with
    | mk k m re st of =>
      cases of with
      | nil => cases hl
      | cons u l =>
        cases l with
        | nil => exact ⟨u, rfl, hi⟩
        | cons x l => cases hl
  split at h
  · rename_i hk
    simp only [Bool.and_eq_true, decide_eq_true_eq] at h
    exact .inl ⟨List.eq_nil_of_length_eq_zero h.2, hk.elim .inl fun h => .inr (.inl h)⟩
  split at h
  · rename_i hk
    simp only [Bool.and_eq_true, decide_eq_true_eq] at h
    exact .inl ⟨List.eq_nil_of_length_eq_zero h.1.1.2, .inr (.inr hk)⟩
  split at h
  · rename_i hk
    obtain ⟨u, h1, h2⟩ := one h
    exact .inr ⟨u, h1, h2, .inl hk⟩
  split at h
  · rename_i hk
    obtain ⟨u, h1, h2⟩ := one h
    exact .inr ⟨u, h1, h2, .inr hk⟩
  · cases h
/-- are two types, both of which may be, alike? f: of two regions -/
def alikeB (f : Int → Int → Bool) : Nat → TyD → TyD → Bool
  | 0, _, _ => false
  | n + 1, a, b => !(decide (a.k ≠ b.k) || !(a.m == b.m) || decide (a.st ≠ b.st) || !f a.re b.re) && (decide (a.of.length = 0) || (match a.of, b.of with | u :: _, x :: _ => alikeB f n u x | _, _ => false))
theorem alikeB_nil {f : Int → Int → Bool} {n : Nat} {a b : TyD} (h : a.of = []) : alikeB f (n + 1) a b = !(decide (a.k ≠ b.k) || !(a.m == b.m) || decide (a.st ≠ b.st) || !f a.re b.re) := by
  rw [alikeB, h]; simp
theorem alikeB_one {f : Int → Int → Bool} {n : Nat} {a b u x : TyD} (h : a.of = [u]) (h2 : b.of = [x]) : alikeB f (n + 1) a b = (!(decide (a.k ≠ b.k) || !(a.m == b.m) || decide (a.st ≠ b.st) || !f a.re b.re) && alikeB f n u x) := by
  rw [alikeB, h, h2]; simp
theorem alikeB_false {f : Int → Int → Bool} {n : Nat} {a b : TyD} (h : (decide (a.k ≠ b.k) || !(a.m == b.m) || decide (a.st ≠ b.st) || !f a.re b.re) = true) : alikeB f (n + 1) a b = false := by
  rw [alikeB, h]; simp

theorem c_types_alike {f : Int → Int → Bool} {fv : Value} (hf : ∀ (x y : Int) (w : World) (K : Value → World → Prop), K (.bool (f x y)) w → oCallV Try.prog fv #[.int .i64 x, .int .i64 y] w K) {s : Int} :
    ∀ (n : Nat) {a b : TyD} {w : World} {r : Gh} {va vb : Value} {K : Value → World → Prop}, Holds r w → TyG r va a → TyG r vb b → lookB s n a = true → lookB s n b = true →
    (∀ w', Ext w w' → K (.bool (alikeB f n a b)) w') → oCall Try.prog Try.n_types_alike #[va, vb, fv] w K := by
  intro n
  induction n with
  | zero => intro a b w r va vb K _ _ _ h; cases h
  | succ n ih =>
    intro a b w r va vb K hr hva hvb ha hb h
    refine Try.ok_types_alike ?_
    unfold Try.F_types_alike
    obtain ⟨p, cap, rfl, _, _, hofa⟩ := hva
    obtain ⟨q, cap', rfl, _, _, hofb⟩ := hvb
    have S := St.start hr
    refine S.box fun b3 w1 S => ?_
    refine S.box fun b4 w2 S => ?_
    (repeat (first | refine s_p ?_ | refine s_c (by omega) ?_ | refine S.ld ?_ | refine S.ldB ?_ | refine S.ce ?_ | refine S.ceB ?_ | refine s_q ?_ | refine s_qc (by omega) ?_ | refine n_some ?_ | rw [List.getD_cons_zero] | rw [List.getD_cons_succ]))
    refine j_bor (fun K2 hK2 => by (repeat (first | refine s_p ?_ | refine s_c (by omega) ?_ | refine S.ld ?_ | refine S.ldB ?_ | refine S.ce ?_ | refine S.ceB ?_ | refine s_q ?_ | refine s_qc (by omega) ?_ | refine n_some ?_ | rw [List.getD_cons_zero] | rw [List.getD_cons_succ])); exact hK2) ?_
    refine j_bor (fun K2 hK2 => by (repeat (first | refine s_p ?_ | refine s_c (by omega) ?_ | refine S.ld ?_ | refine S.ldB ?_ | refine S.ce ?_ | refine S.ceB ?_ | refine s_q ?_ | refine s_qc (by omega) ?_ | refine n_some ?_ | rw [List.getD_cons_zero] | rw [List.getD_cons_succ])); exact hK2) ?_
    refine j_bor (c := !f a.re b.re) (fun K2 hK2 => ?_) ?_
    · (repeat (first | refine s_p ?_ | refine s_c (by omega) ?_ | refine S.ld ?_ | refine S.ldB ?_ | refine S.ce ?_ | refine S.ceB ?_ | refine s_q ?_ | refine s_qc (by omega) ?_ | refine n_some ?_ | rw [List.getD_cons_zero] | rw [List.getD_cons_succ]))
      refine hf _ _ _ _ ?_
      (repeat (first | refine s_p ?_ | refine s_c (by omega) ?_ | refine S.ld ?_ | refine S.ldB ?_ | refine S.ce ?_ | refine S.ceB ?_ | refine s_q ?_ | refine s_qc (by omega) ?_ | refine n_some ?_ | rw [List.getD_cons_zero] | rw [List.getD_cons_succ]))
      exact hK2
    refine c_b (fun hne => ?_) (fun heq => ?_)
    · rw [alikeB_false hne] at h
      exact h _ S.ext
    have S := S.go (Ext.drew _)
    (repeat (first | refine s_p ?_ | refine s_c (by omega) ?_ | refine S.ld ?_ | refine S.ldB ?_ | refine S.ce ?_ | refine S.ceB ?_ | refine s_q ?_ | refine s_qc (by omega) ?_ | refine n_some ?_ | rw [List.getD_cons_zero] | rw [List.getD_cons_succ]))
    have hk : a.k = b.k := by
      simp only [Bool.or_eq_false_iff, decide_eq_false_iff_not, Classical.not_not] at heq
      exact heq.1.1.1
    rcases look_cases ha with ⟨hof, hka⟩ | ⟨u, hof, hu, hka⟩
    · rw [alikeB_nil hof, heq] at h
      refine j_or (fun _ => ?_) (fun hn => absurd (by rw [hof]; rfl) hn)
      exact h _ S.ext
    · rcases look_cases hb with ⟨_, hkb⟩ | ⟨x, hofx, hx, hkb⟩
      · exfalso; omega
      rw [alikeB_one hof hofx, heq] at h
      have hla : 0 < a.of.length := by rw [hof]; exact Nat.one_pos
      have hlb : 0 < b.of.length := by rw [hofx]; exact Nat.one_pos
      refine j_or (fun hn => by omega) (fun _ => ?_)
      intro K2 hK2
      obtain ⟨ba, oa, ca, rfl, hca, hcella, hta⟩ := ty_elem S hofa hla
      obtain ⟨bb, ob, cb, rfl, hcb, hcellb, htb⟩ := ty_elem S hofb hlb
      have hau : a.of[0] = u := by simp [hof]
      have hbx : b.of[0] = x := by simp [hofx]
      rw [hau] at hta; rw [hbx] at htb
      (repeat (first | refine s_p ?_ | refine s_c (by omega) ?_ | refine S.ld ?_ | refine S.ldB ?_ | refine S.ce ?_ | refine S.ceB ?_ | refine s_q ?_ | refine s_qc (by omega) ?_ | refine n_some ?_ | rw [List.getD_cons_zero] | rw [List.getD_cons_succ]))
      refine s_ldN (n := 5) hca (by simpa using hcella) ?_
      (repeat (first | refine s_p ?_ | refine s_c (by omega) ?_ | refine S.ld ?_ | refine S.ldB ?_ | refine S.ce ?_ | refine S.ceB ?_ | refine s_q ?_ | refine s_qc (by omega) ?_ | refine n_some ?_ | rw [List.getD_cons_zero] | rw [List.getD_cons_succ]))
      refine s_ldN (n := 5) hcb (by simpa using hcellb) ?_
      (repeat (first | refine s_p ?_ | refine s_c (by omega) ?_ | refine S.ld ?_ | refine S.ldB ?_ | refine S.ce ?_ | refine S.ceB ?_ | refine s_q ?_ | refine s_qc (by omega) ?_ | refine n_some ?_ | rw [List.getD_cons_zero] | rw [List.getD_cons_succ]))
      refine ih S.holds hta htb hu hx fun w5 e5 => ?_
      refine hK2 _ _ ?_
      simpa using h _ (S.go e5).ext
/-- both may be, and are alike -/
def alikeT (f : Int → Int → Bool) (a b : TyD) : Bool := (isB a && isB b) && alikeB f 48 a b
def fAll (_ _ : Int) : Bool := true
theorem hf_fAll (x y : Int) (w : World) (K : Value → World → Prop) (hk : K (.bool (fAll x y)) w) : oCallV Try.prog (.func (.func Try.n_types_Alike_1) #[] #[]) #[.int .i64 x, .int .i64 y] w K := by
  refine v_func (by kernel_rfl) ?_
  refine Try.ok_types_Alike_1 (t0 := .int .i64 x) (t1 := .int .i64 y) ?_
  unfold Try.F_types_Alike_1
  exact hk
theorem c_types_Alike {a b : TyD} {w : World} {r : Gh} {va vb : Value} {K : Value → World → Prop} (hr : Holds r w) (ha : TyG r va a) (hb : TyG r vb b)
    (h : ∀ w', Ext w w' → K (.bool (alikeT fAll a b)) w') : oCall Try.prog Try.n_types_Alike #[va, vb] w K := by
  refine Try.ok_types_Alike ?_
  unfold Try.F_types_Alike
  have ha0 := ha; have hb0 := hb
  obtain ⟨p, cap, rfl, _⟩ := ha
  obtain ⟨q, cap', rfl, _⟩ := hb
  have S := St.start hr
  refine S.box fun b2 w1 S => ?_
  refine S.box fun b3 w2 S => ?_
  (repeat (first | refine s_p ?_ | refine s_c (by omega) ?_ | refine S.ld ?_ | refine S.ldB ?_ | refine S.ce ?_ | refine S.ceB ?_ | refine s_q ?_ | refine s_qc (by omega) ?_ | refine n_some ?_ | rw [List.getD_cons_zero] | rw [List.getD_cons_succ]))
  refine c_types_may S.holds ha0 fun w3 e3 => ?_
  have S := S.go e3
  refine j_bandE (c := isB b) (fun _ K2 hK2 => ?_) fun w4 e4 => ?_
  · (repeat (first | refine s_p ?_ | refine s_c (by omega) ?_ | refine S.ld ?_ | refine S.ldB ?_ | refine S.ce ?_ | refine S.ceB ?_ | refine s_q ?_ | refine s_qc (by omega) ?_ | refine n_some ?_ | rw [List.getD_cons_zero] | rw [List.getD_cons_succ]))
    exact c_types_may S.holds hb0 fun w4 e4 => hK2 _ e4
  have S := S.go e4
  refine j_bandE (c := alikeB fAll 48 a b) (fun hab K2 hK2 => ?_) fun w5 e5 => h _ (S.go e5).ext
  simp only [Bool.and_eq_true] at hab
  (repeat (first | refine s_p ?_ | refine s_c (by omega) ?_ | refine S.ld ?_ | refine S.ldB ?_ | refine S.ce ?_ | refine S.ceB ?_ | refine s_q ?_ | refine s_qc (by omega) ?_ | refine n_some ?_ | rw [List.getD_cons_zero] | rw [List.getD_cons_succ]))
  refine c_types_alike (f := fAll) (s := 32) hf_fAll 48 S.holds ha0 hb0 hab.1 hab.2 fun w5 e5 => ?_
  exact hK2 _ e5
end Go.Proofs
end

section
namespace Go.Proofs

open Go.Sh

set_option maxRecDepth 100000

namespace TyD

mutual

def chain : TyD → List TyD
  | mk k m re st of => mk k m re st of :: chains of
def chains : List TyD → List TyD
  | [] => []
  | t :: _ => chain t
end

theorem chain_eq : ∀ t : TyD, t.chain = t :: chains t.of
  | mk _ _ _ _ _ => rfl
/-- the regions, from the outermost in -/
def regsL (l : List TyD) : List Int := (l.filter fun u => decide (u.k = 4)).map re
def regs (t : TyD) : List Int := regsL t.chain
theorem regs_eq (t : TyD) : t.regs = (if t.k = 4 then [t.re] else []) ++ regsL (chains t.of) := by
  rw [regs, chain_eq, regsL, List.filter_cons]
  by_cases h : t.k = 4
  · simp only [h, decide_true, if_true]; rfl
  · simp only [h, decide_false, if_false]; rfl
theorem chains_eq {l : List TyD} (h : 0 < l.length) : chains l = chain l[0] := by
  cases l with
  | nil => cases h
  | cons t l => rfl
end TyD

def ints (l : List Int) : List Value := l.map (.int .i64)
theorem ints_ones (l : List Int) : ∀ u ∈ ints l, u.oneCell' = true := by
  intro u hu
  obtain ⟨i, _, rfl⟩ := List.mem_map.1 hu; rfl
theorem ints_len (l : List Int) : (ints l).length = l.length := List.length_map ..
/-- at the address lies the type -/
def NdG (r : Gh) (b off : Nat) (t : TyD) : Prop := ∃ c : List Value, c.length = 5 ∧ (∀ j v, c[j]? = some v → Ob r fun w => w.cell? ⟨b, off + j, none⟩ = some v) ∧ TyG r (.agg c.toArray) t
theorem NdG.of {r : Gh} {p : Option Addr} {of : List TyD} (h : RepS r 5 p 0 (TyD.dats of)) {i : Nat} (hi : i < of.length) : ∃ b off, p = some ⟨b, off, none⟩ ∧ NdG r b (off + i * 5) of[i] := by
  rw [TyD.dats_map] at h
  obtain ⟨c, h1, h2, h3⟩ := h.get (i := i) (List.getElem?_eq_getElem (by simpa using hi))
  obtain ⟨b, off, rfl, _⟩ := h2 0 c[0] (List.getElem?_eq_getElem (by omega))
  rw [List.getElem_map] at h3
  refine ⟨b, off, rfl, c, h1, fun j v hj => ?_, TyG.of_rep h3⟩
  obtain ⟨b', off', hp, ho⟩ := h2 j v hj
  cases hp
  rwa [Nat.zero_add] at ho

theorem c_types_regions_1 {X : Nat → Prop} {w0 w : World} {r q : Gh} {L : List Asr} {bl b off : Nat} {v : Value} {n : Nat} {xs : List Value} {t : TyD} {K : Value → World → Prop}
    (S : StX X w0 r w (.cell bl [v] 26 :: .row v 3 1 n xs :: L)) (hn : NdG q b off t) [Le q r] (hl : n < 1000000000)
    (h : ∀ v' w', StX X w0 r w' (.cell bl [v'] 26 :: .row v' 3 1 (n + 1) (xs ++ [.int .i64 t.re]) :: L) → K (.tuple #[]) w') :
    oCall Try.prog Try.n_types_regions_1 #[.pointer (some ⟨b, off, none⟩), .pointer (some ⟨bl, 0, none⟩)] w K := by
  refine Try.ok_types_regions_1 ?_
  unfold Try.F_types_regions_1
  obtain ⟨c, hc, hcell, p, cap, hv, _, _, hof⟩ := hn
  cases hv
  have S := S.go (Ext.drew _)
  (repeat (first | refine s_p ?_ | refine s_c (by omega) ?_ | refine S.ld ?_ | refine S.ldB ?_ | refine S.ce ?_ | refine S.ceB ?_ | refine s_q ?_ | refine s_qc (by omega) ?_ | refine n_some ?_ | rw [List.getD_cons_zero] | rw [List.getD_cons_succ]))
  refine s_ld1 (S.at (hcell 2 _ rfl)) ?_
  refine S.litU (e := 3) (cs := [.int .i64 t.re]) (by kernel_rfl) fun b3 w3 S => ?_
  refine S.ap (Sl.blk (S.blk b3)) (fun v4 w4 S => ?_) (by omega)
  refine S.st (h1 := S.row1 v4) fun w5 S => ?_
  exact h _ _ S.tl
theorem c_types_walk_regs : ∀ (k : Nat) {t : TyD} {X : Nat → Prop} {w0 w : World} {r q : Gh} {L : List Asr} {bl b off : Nat} {v : Value} {n : Nat} {xs : List Value} {K : Value → World → Prop} [Le q r], t.ht ≤ k →
    StX X w0 r w (.cell bl [v] 26 :: .row v 3 1 n xs :: L) → NdG q b off t → n + k < 1000000000 →
    (∀ v' w', StX X w0 r w' (.cell bl [v'] 26 :: .row v' 3 1 (n + t.regs.length) (xs ++ ints t.regs) :: L) → K (.tuple #[]) w') →
    oCall Try.prog Try.n_types_walk #[.pointer (some ⟨b, off, none⟩), .func (.func Try.n_types_regions_1) #[] #[.pointer (some ⟨bl, 0, none⟩)]] w K := by
  intro k
  induction k with
  | zero => intro t X w0 w r q L bl b off v n xs K _ ht; exfalso; cases t with | mk k m re st of => exact absurd ht (Nat.not_succ_le_zero _)
  | succ k ih =>
    intro t X w0 w r q L bl b off v n xs K _ ht S hn hk h
    refine Try.ok_types_walk ?_
    unfold Try.F_types_walk
    have hn0 := hn
    obtain ⟨c, hc, hcell, p, cap, hv, _, _, hof⟩ := hn
    cases hv
    refine j_intro (fun _ w' => ∃ v', StX X w0 r w' (.cell bl [v'] 26 :: .row v' 3 1 (n + (if t.k = 4 then 1 else 0)) (xs ++ (if t.k = 4 then [.int .i64 t.re] else [])) :: L)) (fun K2 hK2 => ?_) ?_
    · (repeat (first | refine s_p ?_ | refine s_c (by omega) ?_ | refine S.ld ?_ | refine S.ldB ?_ | refine S.ce ?_ | refine S.ceB ?_ | refine s_q ?_ | refine s_qc (by omega) ?_ | refine n_some ?_ | rw [List.getD_cons_zero] | rw [List.getD_cons_succ]))
      refine s_ld1 (S.at (hcell 0 _ rfl)) ?_
      (repeat (first | refine s_p ?_ | refine s_c (by omega) ?_ | refine S.ld ?_ | refine S.ldB ?_ | refine S.ce ?_ | refine S.ceB ?_ | refine s_q ?_ | refine s_qc (by omega) ?_ | refine n_some ?_ | rw [List.getD_cons_zero] | rw [List.getD_cons_succ]))
      refine c_if (fun h4 => ?_) (fun h4 => hK2 _ _ ⟨v, by simpa [h4] using S⟩)
      refine v_func (by kernel_rfl) ?_
      show oCall _ _ #[_, _] _ _
      refine c_types_regions_1 S hn0 (by omega) fun v' w' S => hK2 _ _ ⟨v', by simpa [h4] using S⟩
    · rintro s w' ⟨v', S⟩ d
      (repeat (first | refine s_p ?_ | refine s_c (by omega) ?_ | refine S.ld ?_ | refine S.ldB ?_ | refine S.ce ?_ | refine S.ceB ?_ | refine s_q ?_ | refine s_qc (by omega) ?_ | refine n_some ?_ | rw [List.getD_cons_zero] | rw [List.getD_cons_succ]))
      refine s_ld1 (S.at (hcell 4 _ rfl)) ?_
      (repeat (first | refine s_p ?_ | refine s_c (by omega) ?_ | refine S.ld ?_ | refine S.ldB ?_ | refine S.ce ?_ | refine S.ceB ?_ | refine s_q ?_ | refine s_qc (by omega) ?_ | refine n_some ?_ | rw [List.getD_cons_zero] | rw [List.getD_cons_succ]))
      refine c_if (fun hlen => ?_) (fun hlen => ?_)
      · have hlen : 0 < t.of.length := by omega
        obtain ⟨b2, off2, rfl, hn2⟩ := NdG.of hof hlen
        (repeat (first | refine s_p ?_ | refine s_c (by omega) ?_ | refine S.ld ?_ | refine S.ldB ?_ | refine S.ce ?_ | refine S.ceB ?_ | refine s_q ?_ | refine s_qc (by omega) ?_ | refine n_some ?_ | rw [List.getD_cons_zero] | rw [List.getD_cons_succ]))
        refine s_ld1 (S.at (hcell 4 _ rfl)) ?_
        (repeat (first | refine s_p ?_ | refine s_c (by omega) ?_ | refine S.ld ?_ | refine S.ldB ?_ | refine S.ce ?_ | refine S.ceB ?_ | refine s_q ?_ | refine s_qc (by omega) ?_ | refine n_some ?_ | rw [List.getD_cons_zero] | rw [List.getD_cons_succ]))
        have hh := TyD.ht_of (List.getElem_mem hlen)
        refine ih (t := t.of[0]) (by omega) S hn2 (by split <;> omega) fun v3 w3 S => h v3 w3 ?_
        have h1 : t.regs = (if t.k = 4 then [t.re] else []) ++ t.of[0].regs := by rw [TyD.regs_eq, TyD.chains_eq hlen]; rfl
        rw [h1]
        have e1 : n + (if t.k = 4 then 1 else 0) + t.of[0].regs.length = n + ((if t.k = 4 then [t.re] else []) ++ t.of[0].regs).length := by split <;> simp <;> omega
        have e2 : xs ++ (if t.k = 4 then [.int .i64 t.re] else []) ++ ints t.of[0].regs = xs ++ ints ((if t.k = 4 then [t.re] else []) ++ t.of[0].regs) := by split <;> simp [ints]
        rwa [e1, e2] at S
      · have hz : t.of = [] := List.eq_nil_of_length_eq_zero (by omega)
        have h1 : t.regs = (if t.k = 4 then [t.re] else []) := by rw [TyD.regs_eq, hz]; simp [TyD.chains, TyD.regsL]
        refine h v' _ ?_
        rw [h1]
        have e1 : (if t.k = 4 then [t.re] else []).length = (if t.k = 4 then 1 else 0) := by split <;> rfl
        have e2 : ints (if t.k = 4 then [t.re] else []) = (if t.k = 4 then [.int .i64 t.re] else []) := by split <;> rfl
        rwa [e1, e2]
end Go.Proofs
end

section
namespace Go.Proofs

open Go.Sh

set_option maxRecDepth 100000

theorem one_node {b : Nat} {v : Value} {t : TyD} {r : Gh} {T : TypeId} (h : TyG r v t) : NdG (r.or (one b v.cells.toList T)) b 0 t := by
  obtain ⟨c, rfl, hc, hr⟩ := h.rep
  refine ⟨c, hc, fun j x hj w hw => ?_, (TyG.of_rep hr).up⟩
  have B := one_blk (b := b) (c := (Value.agg c.toArray).cells.toList) (T := T) w (hw.le (h := inferInstance))
  show w.cell? ⟨b, 0 + j, none⟩ = some x
  rw [Nat.zero_add, B.cell]
  exact hj
theorem chain_len : ∀ (n : Nat) {t : TyD}, t.ht ≤ n → t.chain.length ≤ n := by
  intro n
  induction n with
  | zero => intro t h; cases t with | mk k m re st of => exact absurd h (Nat.not_succ_le_zero _)
  | succ n ih =>
    intro t h
    rw [TyD.chain_eq, List.length_cons]
    cases hof : t.of with
    | nil => exact Nat.succ_le_succ (Nat.zero_le _)
    | cons u l =>
      have : u.ht < t.ht := TyD.ht_of (by rw [hof]; exact List.mem_cons_self ..)
      exact Nat.succ_le_succ (ih (t := u) (by omega))
theorem look_plain {s : Int} {n : Nat} {t : TyD} (h : lookB s (n + 1) t = true) (hk : t.k ≠ 4) : t.m = false ∧ t.re = 0 := by
  rw [lookB_succ] at h
  split at h
  · simp only [Bool.and_eq_true, decide_eq_true_eq, Bool.not_eq_true'] at h; exact h.1.1
  split at h
  · simp only [Bool.and_eq_true, decide_eq_true_eq, Bool.not_eq_true'] at h; exact h.1.1.1
  split at h
  · simp only [Bool.and_eq_true, decide_eq_true_eq, Bool.not_eq_true'] at h; exact h.1.1
  cases h
theorem look_ht : ∀ {n : Nat} {s : Int} {t : TyD}, lookB s n t = true → t.ht ≤ n
  | 0, _, _, h => by cases h
  | n + 1, s, t, h => by
    cases t with
    | mk k m re st of =>
      rcases look_cases h with ⟨hof, _⟩ | ⟨u, hof, hu, _⟩
      · cases hof; exact Nat.succ_le_succ (Nat.zero_le _)
      · cases hof
        refine Nat.succ_le_succ ?_
        show max u.ht 0 ≤ n
        rw [Nat.max_zero]; exact look_ht hu
theorem isB_ht {t : TyD} (h : isB t = true) : t.ht ≤ 48 := look_ht h

theorem c_types_regions {t : TyD} {w : World} {r : Gh} {v : Value} {K : Value → World → Prop} (hr : Holds r w) (hv : TyG r v t) (ht : t.ht ≤ 1000000)
    (h : ∀ v' w', Ext w w' → w'.ownsRow w.heap.size 3 1 v' t.regs.length (ints t.regs) → K v' w') : oCall Try.prog Try.n_types_regions #[v] w K := by
  refine Try.ok_types_regions ?_
  unfold Try.F_types_regions
  have S := St.start hr
  refine S.box fun b1 w1 S => ?_
  have S := S.frz
  refine S.al fun b3 w3 S => ?_
  (repeat (first | refine s_p ?_ | refine s_c (by omega) ?_ | refine S.ld ?_ | refine S.ldB ?_ | refine S.ce ?_ | refine S.ceB ?_ | refine s_q ?_ | refine s_qc (by omega) ?_ | refine n_some ?_ | rw [List.getD_cons_zero] | rw [List.getD_cons_succ]))
  have S := (S.ownNil 3 1).swap
  refine c_types_walk_regs t.ht (Nat.le_refl _) S (one_node (T := 25) hv) (by omega) fun v' w' S => ?_
  refine S.ld ?_
  rw [Nat.zero_add, List.nil_append] at S
  exact h v' w' S.ext (S.give v')
/-- what Regions tells -/
def regsT (t : TyD) : List Int := if isB t then t.regs else []
theorem c_types_Regions {t : TyD} {w : World} {r : Gh} {v : Value} {K : Value → World → Prop} (hr : Holds r w) (hv : TyG r v t)
    (h : ∀ v' w', Ext w w' → w'.ownsRow w.heap.size 3 1 v' (regsT t).length (ints (regsT t)) → K v' w') : oCall Try.prog Try.n_types_Regions #[v] w K := by
  refine Try.ok_types_Regions ?_
  unfold Try.F_types_Regions
  have hv0 := hv
  obtain ⟨p, cap, rfl, _⟩ := hv
  have S := St.start hr
  refine S.box fun b1 w1 S => ?_
  (repeat (first | refine s_p ?_ | refine s_c (by omega) ?_ | refine S.ld ?_ | refine S.ldB ?_ | refine S.ce ?_ | refine S.ceB ?_ | refine s_q ?_ | refine s_qc (by omega) ?_ | refine n_some ?_ | rw [List.getD_cons_zero] | rw [List.getD_cons_succ]))
  refine c_types_may S.holds hv0 fun w2 e2 => ?_
  have S := S.go e2
  (repeat (first | refine s_p ?_ | refine s_c (by omega) ?_ | refine S.ld ?_ | refine S.ldB ?_ | refine S.ce ?_ | refine S.ceB ?_ | refine s_q ?_ | refine s_qc (by omega) ?_ | refine n_some ?_ | rw [List.getD_cons_zero] | rw [List.getD_cons_succ]))
  refine c_b (fun hn => ?_) (fun hb => ?_)
  · have hb : isB t = false := by simpa using hn
    refine h _ _ S.ext ?_
    rw [regsT, hb]
    exact World.ownsRow_nil _ _ _ _
  have hb : isB t = true := by simpa using hb
  (repeat (first | refine s_p ?_ | refine s_c (by omega) ?_ | refine S.ld ?_ | refine S.ldB ?_ | refine S.ce ?_ | refine S.ceB ?_ | refine s_q ?_ | refine s_qc (by omega) ?_ | refine n_some ?_ | rw [List.getD_cons_zero] | rw [List.getD_cons_succ]))
  have e02 := S.ext
  refine c_types_regions S.holds hv0 (by have := isB_ht hb; omega) fun v3 w3 e3 ho => ?_
  have S := S.take e3 ho
  refine h _ _ S.ext ?_
  rw [regsT, hb]
  exact S.give v3
end Go.Proofs
end

section
namespace Go.Proofs

open Go.Sh

set_option maxRecDepth 100000

theorem c_IndexFunc_int {f : Int → Bool} {fv : Value} (hf : ∀ (x : Int) (w : World) (K : Value → World → Prop), K (.bool (f x)) w → oCallV Try.prog fv #[.int .i64 x] w K) {w : World} {p : Option Addr} {l : List Int} {cap : Nat} {K : Value → World → Prop}
    (hl : Sl w p (ints l)) (hb : l.length ≤ 1000000000) (h : ∀ i : Int, (0 ≤ i ↔ l.any f = true) → K (.int .i64 i) w) : oCall Try.prog Try.n_slices_IndexFunc_int_int #[.slice p l.length cap, fv] w K := by
  refine Try.ok_slices_IndexFunc_int_int ?_
  unfold Try.F_slices_IndexFunc_int_int
  (first | refine s_p ?_ | refine s_c (by omega) ?_)
  refine l_intro (ι := Nat) (fun i => [.int .i64 i]) (fun i w' => w' = w ∧ i ≤ l.length ∧ (l.take i).any f = false) (fun i => l.length - i) 0 rfl ⟨rfl, Nat.zero_le _, by simp⟩ ?_
  rintro i d w' ⟨rfl, hi, hn⟩ K6 hK6
  simp only [List.getD_cons_zero]
  (first | refine s_p ?_ | refine s_c (by omega) ?_)
  refine c_if (fun hlt => ?_) (fun hge => ?_)
  · have hlt : i < l.length := by omega
    obtain ⟨b, off, rfl, hc⟩ := hl.at (i := i) (by rw [ints_len]; exact hlt)
    (first | refine s_p ?_ | refine s_c (by omega) ?_)
    have hv : (ints l)[i]'(by rw [ints_len]; exact hlt) = .int .i64 l[i] := by simp [ints]
    rw [hv] at hc
    refine s_ld1 (by simpa using hc) ?_
    refine hf _ _ _ ?_
    have ht : (l.take (i + 1)).any f = ((l.take i).any f || f l[i]) := by
      rw [List.take_succ_eq_append_getElem hlt, List.any_append]; simp only [List.any_cons, List.any_nil, Bool.or_false]
    refine c_b (fun hy => ?_) (fun hno => ?_)
    · refine h _ ⟨fun _ => ?_, fun _ => Int.natCast_nonneg _⟩
      exact List.any_eq_true.2 ⟨l[i], List.getElem_mem hlt, hy⟩
    · (first | refine s_p ?_ | refine s_c (by omega) ?_)
      refine hK6 (i + 1) _ ⟨rfl, hlt, ?_⟩ (by omega)
      rw [ht, hn, hno]; rfl
  · have : i = l.length := by omega
    subst this
    rw [List.take_length] at hn
    exact h _ ⟨fun h => by omega, fun h => by rw [hn] at h; cases h⟩
theorem c_ContainsFunc_int {f : Int → Bool} {fv : Value} (hf : ∀ (x : Int) (w : World) (K : Value → World → Prop), K (.bool (f x)) w → oCallV Try.prog fv #[.int .i64 x] w K) {w : World} {p : Option Addr} {l : List Int} {cap : Nat} {K : Value → World → Prop}
    (hl : Sl w p (ints l)) (hb : l.length ≤ 1000000000) (h : K (.bool (l.any f)) w) : oCall Try.prog Try.n_slices_ContainsFunc_int_int #[.slice p l.length cap, fv] w K := by
  refine Try.ok_slices_ContainsFunc_int_int ?_
  unfold Try.F_slices_ContainsFunc_int_int
  refine c_IndexFunc_int hf hl hb fun i hi => ?_
  (first | refine s_p ?_ | refine s_c (by omega) ?_)
  have e : decide (i ≥ 0) = l.any f := by
    by_cases hh : l.any f = true
    · rw [hh]; exact decide_eq_true (hi.2 hh)
    · rw [Bool.eq_false_iff.2 hh]; exact decide_eq_false fun h => hh (hi.1 h)
  rw [e]; exact h

end Go.Proofs
end

section
namespace Go.Proofs

open Go.Sh

set_option maxRecDepth 100000

theorem ints_append (a b : List Int) : ints (a ++ b) = ints a ++ ints b := List.map_append ..
theorem cells_of {r : Gh} {c : List Value} {t : TyD} (h : TyG r (.agg c.toArray) t) : ∃ p cap, c = [.int .u8 t.k, .bool t.m, .int .i64 t.re, .int .i64 t.st, .slice p t.of.length cap] ∧ RepS r 5 p 0 (TyD.dats t.of) := by
  obtain ⟨p, cap, hv, _, _, hof⟩ := h
  exact ⟨p, cap, List.toArray_inj (Value.agg.inj hv), hof⟩
theorem ty_ones {r : Gh} {c : List Value} {t : TyD} (h : TyG r (.agg c.toArray) t) : ∀ y ∈ c.toArray.toList, y.oneCell' = true := by
  obtain ⟨p, cap, rfl, _⟩ := cells_of h
  simp [Value.oneCell']
end Go.Proofs
end

section
namespace Go.Proofs

open Go.Sh

set_option maxRecDepth 100000

end Go.Proofs
end

section
namespace Go.Proofs

open Go.Sh

set_option maxRecDepth 100000

end Go.Proofs
end

section
namespace Go.Proofs

open Go.Sh

set_option maxRecDepth 100000

/-! ### Itoa of small numbers -/

/-! ### Copies -/

def copiesB (t : TyD) : Bool := isB t && ((decide (t.k = 1) || decide (t.k = 2)) || (decide (t.k = 4) && !t.m))
theorem c_types_Copies {t : TyD} {w : World} {r : Gh} {v : Value} {K : Value → World → Prop} (hr : Holds r w) (hv : TyG r v t)
    (h : ∀ w', Ext w w' → K (.bool (copiesB t)) w') : oCall Try.prog Try.n_types_Copies #[v] w K := by
  refine Try.ok_types_Copies ?_
  unfold Try.F_types_Copies
  have hv0 := hv
  obtain ⟨p, cap, rfl, _⟩ := hv
  have S := St.start hr
  refine S.box fun b1 w1 S => ?_
  (repeat (first | refine s_p ?_ | refine s_c (by omega) ?_ | refine S.ld ?_ | refine S.ldB ?_ | refine S.ce ?_ | refine S.ceB ?_ | refine s_q ?_ | refine s_qc (by omega) ?_ | refine n_some ?_ | rw [List.getD_cons_zero] | rw [List.getD_cons_succ]))
  refine c_types_may S.holds hv0 fun w2 e2 => ?_
  have S := S.go e2
  (repeat (first | refine s_p ?_ | refine s_c (by omega) ?_ | refine S.ld ?_ | refine S.ldB ?_ | refine S.ce ?_ | refine S.ceB ?_ | refine s_q ?_ | refine s_qc (by omega) ?_ | refine n_some ?_ | rw [List.getD_cons_zero] | rw [List.getD_cons_succ]))
  refine c_b (fun hn => ?_) (fun hb => ?_)
  · have hb : isB t = false := by simpa using hn
    rw [copiesB, hb] at h; exact h _ S.ext
  have hb : isB t = true := by simpa using hb
  rw [copiesB, hb, Bool.true_and] at h
  (repeat (first | refine s_p ?_ | refine s_c (by omega) ?_ | refine S.ld ?_ | refine S.ldB ?_ | refine S.ce ?_ | refine S.ceB ?_ | refine s_q ?_ | refine s_qc (by omega) ?_ | refine n_some ?_ | rw [List.getD_cons_zero] | rw [List.getD_cons_succ]))
  intro K11 hK11
  (repeat (first | refine s_p ?_ | refine s_c (by omega) ?_ | refine S.ld ?_ | refine S.ldB ?_ | refine S.ce ?_ | refine S.ceB ?_ | refine s_q ?_ | refine s_qc (by omega) ?_ | refine n_some ?_ | rw [List.getD_cons_zero] | rw [List.getD_cons_succ]))
  refine k_cor (c := decide (t.k = 2)) (hK11 _ _ fun _ => ?_) fun _ hk => ?_
  rotate_left
  · (repeat (first | refine s_p ?_ | refine s_c (by omega) ?_ | refine S.ld ?_ | refine S.ldB ?_ | refine S.ce ?_ | refine S.ceB ?_ | refine s_q ?_ | refine s_qc (by omega) ?_ | refine n_some ?_ | rw [List.getD_cons_zero] | rw [List.getD_cons_succ])); exact hk
  simp only [List.getD_cons_zero]
  refine c_b (fun h12 => ?_) (fun h12 => ?_)
  · rw [h12, Bool.true_or] at h; exact h _ S.ext
  rw [h12, Bool.false_or] at h
  (repeat (first | refine s_p ?_ | refine s_c (by omega) ?_ | refine S.ld ?_ | refine S.ldB ?_ | refine S.ce ?_ | refine S.ceB ?_ | refine s_q ?_ | refine s_qc (by omega) ?_ | refine n_some ?_ | rw [List.getD_cons_zero] | rw [List.getD_cons_succ]))
  refine c_if (fun h4 => ?_) (fun h4 => ?_)
  · rw [show decide (t.k = 4) = true from decide_eq_true h4, Bool.true_and] at h
    (repeat (first | refine s_p ?_ | refine s_c (by omega) ?_ | refine S.ld ?_ | refine S.ldB ?_ | refine S.ce ?_ | refine S.ceB ?_ | refine s_q ?_ | refine s_qc (by omega) ?_ | refine n_some ?_ | rw [List.getD_cons_zero] | rw [List.getD_cons_succ]))
    exact h _ S.ext
  · rw [show decide (t.k = 4) = false from decide_eq_false h4, Bool.false_and] at h
    exact h _ S.ext
end Go.Proofs
end

section
namespace Go.Proofs

open Go.Sh

set_option maxRecDepth 100000

end Go.Proofs
end

section
namespace Go.Sh
open Go.RowKit
set_option linter.unusedSimpArgs false
set_option linter.unusedVariables false

section
variable {P : Program} {t s : TypeId} {c : Bool} {k : IntKind} {m a b : Int}
end
end Go.Sh
end
