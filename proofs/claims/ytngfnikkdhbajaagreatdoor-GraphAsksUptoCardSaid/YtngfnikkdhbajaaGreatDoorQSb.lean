/-
  The seat's types, reckoned: what each operation on them asks. Made by a program (wip/gen/gen.py).
  Shallow readings of functions. Made by a program (wip/gen/gen.py) out of the translation; the kernel checks each equality.
  Shallow readings of functions. Made by a program (wip/gen/gen.py) out of the translation; the kernel checks each equality.
  Shallow readings of functions. Made by a program (wip/gen/gen.py) out of the translation; the kernel checks each equality.
  Shallow readings of functions. Made by a program (wip/gen/gen.py) out of the translation; the kernel checks each equality.
  Shallow readings of functions. Made by a program (wip/gen/gen.py) out of the translation; the kernel checks each equality.
  Types as data: what a value of api.Type tells; typeFits.
  Contracts: which types may be (package types, the document's answer).
  Contracts: types that are alike, the same.
  Contracts: the regions of a type.
-/
import Derived.Test.YtngfnikkdhbajaaGreatDoorProg
import Derived.Test.YtngfnikkdhbajaaGreatDoorQSa
import Derived.KernelRfl
section
namespace Go.Proofs
open Go.Sh
set_option maxRecDepth 100000
theorem Tryz.mixed : Tryz.prog.follows .mixedOrders=true:=by kernel_rfl
namespace Tryz
abbrev VW:=Value→World→Prop
abbrev fa (v : Value) (T : TypeId) (i : Nat) (k : Value→Prop) : Prop:=VY v fun a=>opP prog (Instr.fieldAt T a i) k
abbrev pf (T : TypeId) (v : Value) (i : Nat) (k : Value→Prop) : Prop:=opP prog (Instr.fieldAt T v i) k
abbrev lo (w : World) (T : TypeId) (v : Value) (k : Value→Prop) : Prop:=opQ prog w (Instr.loadAt T v) k
abbrev ff (w : World) (v : Value) (T : TypeId) (i : Nat) (U : TypeId) (k : Value→Prop) : Prop:=VY v fun a=>opP prog (Instr.fieldAt T a i) fun b=>opQ prog w (Instr.loadAt U b) k
abbrev fl (w : World) (v : Value) (T : TypeId) (i : Nat) (U : TypeId) (k : Value→Prop) : Prop:=opP prog (Instr.fieldAt T v i) fun b=>opQ prog w (Instr.loadAt U b) k
abbrev px (T : TypeId) (v i : Value) (k : Value→Prop) : Prop:=opP prog (Instr.indexAt T v i) k
abbrev xl (w : World) (T : TypeId) (v i : Value) (U : TypeId) (k : Value→Prop) : Prop:=opP prog (Instr.indexAt T v i) fun b=>opQ prog w (Instr.loadAt U b) k
abbrev bt (o : BinOp) (T : TypeId) (x y : Value) (k : Value→Prop) : Prop:=opP prog (yg o T true x y) k
abbrev bf (o : BinOp) (T : TypeId) (x y : Value) (k : Value→Prop) : Prop:=opP prog (yg o T false x y) k
abbrev pe (x : Value) (i : Nat) (k : Value→Prop) : Prop:=opP prog (Instr.extract x i) k
abbrev so (w : World) (T : TypeId) (x y : Value) (k : World→Prop) : Prop:=opU prog w (Instr.storeAt T x y) k
abbrev pp (s : Sem Value) (k : Value→Prop) : Prop:=opP prog s k
abbrev pq (w : World) (s : Sem Value) (k : Value→Prop) : Prop:=opQ prog w s k
abbrev pw (w : World) (s : Sem Value) (k : Value→World→Prop) : Prop:=opW prog w s k
abbrev pu (w : World) (s : Sem Unit) (k : World→Prop) : Prop:=opU prog w s k
abbrev ca (f : FuncId) (a : Array Value) (w : World) (k : Value→World→Prop) : Prop:=zd prog f a w k
abbrev cv (f : Value) (a : Array Value) (w : World) (k : Value→World→Prop) : Prop:=z7 prog f a w k
abbrev i6 (n : Int) : Value:=.int .i64 n
abbrev tr_ : Value:=.bool true
abbrev fa_ : Value:=.bool false
theorem okC (m : Bool) (A : Ann) {f : FuncId} {fn : Func} {args : Array Value} {w : World} {K : VW} {X : Prop} (hf : prog.funcs[f]? = some fn) (hb : fn.body.isSome=true) (hc : chk ⟨m,false⟩ prog false A (Zw fn)=true)
  (he : sw ⟨m,false⟩ prog (fun _ _=>False) A (Zw fn) (args.toList++List.replicate (fn.ntmps - args.size) undef) w (agW m prog fn w K)=X) (h : X) : zd prog f args w K:=
 aeR (cf:=⟨m,false⟩) mixed hf hb hc (he.mpr h)
abbrev XO : FuncId:=78
abbrev yk : FuncId:=118
abbrev qI : FuncId:=119
abbrev xj : FuncId:=16
abbrev vQ : FuncId:=85
abbrev jT : FuncId:=71
abbrev qJ : FuncId:=73
end Tryz
abbrev Tryz.XA : FuncId:=62
instance : LdN Tryz.prog 57 5:=⟨by kernel_rfl⟩
instance : SzT Tryz.prog 57 5:=⟨by kernel_rfl⟩
instance : ZrT Tryz.prog 57 [(.int .u8 0),(.bool false),(.int .i64 0),(.int .i64 0),(.slice none 0 0)]:=⟨by kernel_rfl⟩
instance : PStep Tryz.prog (Instr.build 57 #[]) (.agg #[(.int .u8 0),(.bool false),(.int .i64 0),(.int .i64 0),(.slice none 0 0)]):=.of fun _ k=>zx (by kernel_rfl) k
abbrev Tryz.qy : FuncId:=23
abbrev Tryz.xp : FuncId:=63
abbrev Tryz.jo : FuncId:=89
instance : zE Tryz.prog 57 4 4:=⟨by kernel_rfl⟩
instance : Ld1 Tryz.prog 29:=⟨by kernel_rfl⟩
instance : SzT Tryz.prog 29 1:=⟨by kernel_rfl⟩
instance : SlT Tryz.prog 29 57 5:=⟨by kernel_rfl⟩
instance : Ld1 Tryz.prog 3:=⟨by kernel_rfl⟩
instance : SzT Tryz.prog 3 1:=⟨by kernel_rfl⟩
abbrev Tryz.qz : FuncId:=67
instance : Ld1 Tryz.prog 67:=⟨by kernel_rfl⟩
instance : SzT Tryz.prog 67 1:=⟨by kernel_rfl⟩
instance : SlT Tryz.prog 67 3 1:=⟨by kernel_rfl⟩
instance : ZrT Tryz.prog 67 [(.slice none 0 0)]:=⟨by kernel_rfl⟩
abbrev Tryz.qA : FuncId:=68
instance : Ld1 Tryz.prog 22:=⟨by kernel_rfl⟩
instance : SlT Tryz.prog 22 84 2:=⟨by kernel_rfl⟩
instance : LdN Tryz.prog 84 2:=⟨by kernel_rfl⟩
instance : SzT Tryz.prog 84 2:=⟨by kernel_rfl⟩
instance : ZrT Tryz.prog 3 [(.int .i64 0)]:=⟨by kernel_rfl⟩
instance : SlT Tryz.prog 150 147 1:=⟨by kernel_rfl⟩
instance : Ld1 Tryz.prog 147:=⟨by kernel_rfl⟩
abbrev Tryz.jp : FuncId:=24
abbrev Tryz.vd : FuncId:=91
instance : zE Tryz.prog 57 0 0:=⟨by kernel_rfl⟩
instance : Ld1 Tryz.prog 55:=⟨by kernel_rfl⟩
abbrev Tryz.kv : FuncId:=69
instance : zE Tryz.prog 57 1 1:=⟨by kernel_rfl⟩
instance : Ld1 Tryz.prog 4:=⟨by kernel_rfl⟩
instance : SzT Tryz.prog 4 1:=⟨by kernel_rfl⟩
instance : KdB Tryz.prog 4:=⟨by kernel_rfl⟩
instance : zE Tryz.prog 57 2 2:=⟨by kernel_rfl⟩
instance : zE Tryz.prog 57 3 3:=⟨by kernel_rfl⟩
abbrev Tryz.ji : FuncId:=92
instance : ApT Tryz.prog 67 3 1 8:=⟨by kernel_rfl⟩
abbrev Tryz.kp : FuncId:=93
instance : zE Tryz.prog 84 1 1:=⟨by kernel_rfl⟩
instance : Ld1 Tryz.prog 82:=⟨by kernel_rfl⟩
instance : SlT Tryz.prog 82 86 6:=⟨by kernel_rfl⟩
instance : LdN Tryz.prog 86 6:=⟨by kernel_rfl⟩
instance : SzT Tryz.prog 86 6:=⟨by kernel_rfl⟩
abbrev Tryz.Q6 : FuncId:=95
instance : zE Tryz.prog 86 1 1:=⟨by kernel_rfl⟩
abbrev Tryz.kq : FuncId:=96
abbrev Tryz.ve : FuncId:=97
instance : ArT Tryz.prog 192 32 4 1:=⟨by kernel_rfl⟩
instance : ZrT Tryz.prog 192 [(.bool false),(.bool false),(.bool false),(.bool false),(.bool false),(.bool false),(.bool false),(.bool false),(.bool false),(.bool false),(.bool false),(.bool false),(.bool false),(.bool false),(.bool false),(.bool false),(.bool false),(.bool false),(.bool false),(.bool false),(.bool false),(.bool false),(.bool false),(.bool false),(.bool false),(.bool false),(.bool false),(.bool false),(.bool false),(.bool false),(.bool false),(.bool false)]:=⟨by kernel_rfl⟩
instance : ZrT Tryz.prog 86 [(.string ByteArray.empty),(.int .u8 0),(.bool false),(.int .i64 0),(.int .i64 0),(.slice none 0 0)]:=⟨by kernel_rfl⟩
abbrev Tryz.kr : FuncId:=98
abbrev Tryz.jw : FuncId:=99
abbrev Tryz.ZL : FuncId:=100
abbrev Tryz.xy : FuncId:=21
abbrev Tryz.Zb : FuncId:=114
instance : ApT Tryz.prog 29 57 5 48:=⟨by kernel_rfl⟩
abbrev Tryz.ZM : FuncId:=115
abbrev Tryz.qW : FuncId:=20
abbrev Tryz.kU : FuncId:=64
abbrev Tryz.Xd : FuncId:=65
abbrev Tryz.jx : FuncId:=148
abbrev Tryz.aaI : FuncId:=183
abbrev Tryz.qK : FuncId:=44
abbrev Tryz.XP : FuncId:=80
abbrev Tryz.ke : FuncId:=8
instance : LdN Tryz.prog 25 3:=⟨by kernel_rfl⟩
instance : SzT Tryz.prog 25 3:=⟨by kernel_rfl⟩
abbrev Tryz.kV : FuncId:=35
instance : zE Tryz.prog 25 0 0:=⟨by kernel_rfl⟩
instance : zE Tryz.prog 25 1 1:=⟨by kernel_rfl⟩
instance : Ld1 Tryz.prog 23:=⟨by kernel_rfl⟩
instance : SlT Tryz.prog 23 33 7:=⟨by kernel_rfl⟩
instance : LdN Tryz.prog 33 7:=⟨by kernel_rfl⟩
instance : SzT Tryz.prog 33 7:=⟨by kernel_rfl⟩
instance : zE Tryz.prog 25 2 2:=⟨by kernel_rfl⟩
instance : ZrT Tryz.prog 33 [(.string ByteArray.empty),(.int .i64 0),(.slice none 0 0),(.int .i64 0),(.slice none 0 0),(.slice none 0 0),(.slice none 0 0)]:=⟨by kernel_rfl⟩
instance : LdN Tryz.prog 117 10:=⟨by kernel_rfl⟩
instance : SzT Tryz.prog 117 10:=⟨by kernel_rfl⟩
instance : ZrT Tryz.prog 117 [(.slice none 0 0),(.slice none 0 0),(.int .i64 0),(.string ByteArray.empty),(.int .i64 0),(.slice none 0 0),(.int .i64 0),(.slice none 0 0),(.slice none 0 0),(.slice none 0 0)]:=⟨by kernel_rfl⟩
instance : zE Tryz.prog 33 6 6:=⟨by kernel_rfl⟩
instance : Ld1 Tryz.prog 31:=⟨by kernel_rfl⟩
instance : SlT Tryz.prog 31 44 21:=⟨by kernel_rfl⟩
instance : LdN Tryz.prog 44 21:=⟨by kernel_rfl⟩
instance : SzT Tryz.prog 44 21:=⟨by kernel_rfl⟩
instance : ZrT Tryz.prog 44 [(.int .u8 0),(.int .i64 0),(.slice none 0 0),(.int .u8 0),(.int .i64 0),(.int .i64 0),(.slice none 0 0),(.int .u8 0),(.int .i64 0),(.int .i64 0),(.slice none 0 0),(.slice none 0 0),(.string ByteArray.empty),(.int .i64 0),(.slice none 0 0),(.bool false),(.int .i64 0),(.int .i64 0),(.int .i64 0),(.int .i64 0),(.int .i64 0)]:=⟨by kernel_rfl⟩
abbrev Tryz.zs : FuncId:=61
instance : LdN Tryz.prog 115 7:=⟨by kernel_rfl⟩
instance : SzT Tryz.prog 115 7:=⟨by kernel_rfl⟩
instance : ZrT Tryz.prog 115 [(.int .u8 0),(.bool false),(.int .i64 0),(.int .i64 0),(.slice none 0 0),(.int .i64 0),(.bool false)]:=⟨by kernel_rfl⟩
instance : zE Tryz.prog 38 0 0:=⟨by kernel_rfl⟩
instance : zE Tryz.prog 117 1 3:=⟨by kernel_rfl⟩
instance : zE Tryz.prog 33 4 4:=⟨by kernel_rfl⟩
instance : PStep Tryz.prog (Instr.build 115 #[]) (.agg #[(.int .u8 0),(.bool false),(.int .i64 0),(.int .i64 0),(.slice none 0 0),(.int .i64 0),(.bool false)]):=.of fun _ k=>zx (by kernel_rfl) k
instance : zE Tryz.prog 38 1 1:=⟨by kernel_rfl⟩
instance : Ld1 Tryz.prog 36:=⟨by kernel_rfl⟩
instance : SlT Tryz.prog 36 138 1:=⟨by kernel_rfl⟩
instance : Ld1 Tryz.prog 138:=⟨by kernel_rfl⟩
instance {x0_0 : Value} {x0_1 : Value} {x0_2 : Value} {x0_3 : Value} {x0_4 : Value} {x2_0 : Bool} : PStep Tryz.prog (Instr.build 115 #[(0,.agg #[x0_0,x0_1,x0_2,x0_3,x0_4]),(2,.bool x2_0)]) (.agg #[x0_0,x0_1,x0_2,x0_3,x0_4,(.int .i64 0),.bool x2_0]):=.of fun _ k=>zx (by kernel_rfl) k
instance : zE Tryz.prog 115 0 0:=⟨by kernel_rfl⟩
instance : zE Tryz.prog 115 1 5:=⟨by kernel_rfl⟩
instance : zE Tryz.prog 117 0 0:=⟨by kernel_rfl⟩
abbrev Tryz.Yv : FuncId:=75
instance : zE Tryz.prog 33 1 1:=⟨by kernel_rfl⟩
instance : zE Tryz.prog 33 3 3:=⟨by kernel_rfl⟩
instance : zE Tryz.prog 33 5 5:=⟨by kernel_rfl⟩
instance : Ld1 Tryz.prog 30:=⟨by kernel_rfl⟩
instance : SlT Tryz.prog 30 9 1:=⟨by kernel_rfl⟩
instance : Ld1 Tryz.prog 9:=⟨by kernel_rfl⟩
instance : afH Tryz.prog 9:=⟨by kernel_rfl⟩
instance : zE Tryz.prog 44 0 0:=⟨by kernel_rfl⟩
instance : Ld1 Tryz.prog 35:=⟨by kernel_rfl⟩
abbrev Tryz.qh : FuncId:=76
instance : zE Tryz.prog 44 12 20:=⟨by kernel_rfl⟩
instance : zE Tryz.prog 44 10 18:=⟨by kernel_rfl⟩
instance : zE Tryz.prog 44 1 1:=⟨by kernel_rfl⟩
instance : LdN Tryz.prog 38 2:=⟨by kernel_rfl⟩
instance : SzT Tryz.prog 38 2:=⟨by kernel_rfl⟩
instance : zE Tryz.prog 44 6 13:=⟨by kernel_rfl⟩
instance : zE Tryz.prog 115 2 6:=⟨by kernel_rfl⟩
instance : zE Tryz.prog 44 2 3:=⟨by kernel_rfl⟩
instance : LdN Tryz.prog 41 4:=⟨by kernel_rfl⟩
instance : SzT Tryz.prog 41 4:=⟨by kernel_rfl⟩
instance : zE Tryz.prog 44 3 7:=⟨by kernel_rfl⟩
instance {x0_0 : Bool} {x1_0 : Bool} : PStep Tryz.prog (Instr.build 166 #[(0,.bool x0_0),(1,.bool x1_0)]) (.agg #[.bool x0_0,.bool x1_0,(.bool false),(.bool false),(.bool false),(.bool false),(.bool false),(.bool false),(.bool false),(.bool false)]):=.of fun _ k=>zx (by kernel_rfl) k
instance {x0_0 : Bool} {x1_0 : Bool} {x2_0 : Bool} {x4_0 : Bool} : PStep Tryz.prog (Instr.build 166 #[(0,.bool x0_0),(1,.bool x1_0),(2,.bool x2_0),(4,.bool x4_0)]) (.agg #[.bool x0_0,.bool x1_0,.bool x2_0,(.bool false),.bool x4_0,(.bool false),(.bool false),(.bool false),(.bool false),(.bool false)]):=.of fun _ k=>zx (by kernel_rfl) k
instance : zE Tryz.prog 44 5 12:=⟨by kernel_rfl⟩
instance {x0_0 : Bool} {x1_0 : Bool} {x4_0 : Bool} : PStep Tryz.prog (Instr.build 166 #[(0,.bool x0_0),(1,.bool x1_0),(4,.bool x4_0)]) (.agg #[.bool x0_0,.bool x1_0,(.bool false),(.bool false),.bool x4_0,(.bool false),(.bool false),(.bool false),(.bool false),(.bool false)]):=.of fun _ k=>zx (by kernel_rfl) k
instance {x0_0 : Bool} {x5_0 : Bool} {x6_0 : Bool} : PStep Tryz.prog (Instr.build 166 #[(0,.bool x0_0),(5,.bool x5_0),(6,.bool x6_0)]) (.agg #[.bool x0_0,(.bool false),(.bool false),(.bool false),(.bool false),.bool x5_0,.bool x6_0,(.bool false),(.bool false),(.bool false)]):=.of fun _ k=>zx (by kernel_rfl) k
instance : zE Tryz.prog 44 7 15:=⟨by kernel_rfl⟩
instance {x0_0 : Bool} {x3_0 : Bool} {x8_0 : Bool} : PStep Tryz.prog (Instr.build 166 #[(0,.bool x0_0),(3,.bool x3_0),(8,.bool x8_0)]) (.agg #[.bool x0_0,(.bool false),(.bool false),.bool x3_0,(.bool false),(.bool false),(.bool false),(.bool false),.bool x8_0,(.bool false)]):=.of fun _ k=>zx (by kernel_rfl) k
instance : zE Tryz.prog 44 9 17:=⟨by kernel_rfl⟩
instance {x0_0 : Bool} {x3_0 : Bool} {x7_0 : Bool} : PStep Tryz.prog (Instr.build 166 #[(0,.bool x0_0),(3,.bool x3_0),(7,.bool x7_0)]) (.agg #[.bool x0_0,(.bool false),(.bool false),.bool x3_0,(.bool false),(.bool false),(.bool false),.bool x7_0,(.bool false),(.bool false)]):=.of fun _ k=>zx (by kernel_rfl) k
instance : zE Tryz.prog 44 8 16:=⟨by kernel_rfl⟩
instance {x0_0 : Bool} : PStep Tryz.prog (Instr.build 166 #[(0,.bool x0_0)]) (.agg #[.bool x0_0,(.bool false),(.bool false),(.bool false),(.bool false),(.bool false),(.bool false),(.bool false),(.bool false),(.bool false)]):=.of fun _ k=>zx (by kernel_rfl) k
instance {x1_0 : Bool} : PStep Tryz.prog (Instr.build 166 #[(1,.bool x1_0)]) (.agg #[(.bool false),.bool x1_0,(.bool false),(.bool false),(.bool false),(.bool false),(.bool false),(.bool false),(.bool false),(.bool false)]):=.of fun _ k=>zx (by kernel_rfl) k
instance {x5_0 : Bool} : PStep Tryz.prog (Instr.build 166 #[(5,.bool x5_0)]) (.agg #[(.bool false),(.bool false),(.bool false),(.bool false),(.bool false),.bool x5_0,(.bool false),(.bool false),(.bool false),(.bool false)]):=.of fun _ k=>zx (by kernel_rfl) k
instance {x1_0 : Bool} {x9_0 : Bool} : PStep Tryz.prog (Instr.build 166 #[(1,.bool x1_0),(9,.bool x9_0)]) (.agg #[(.bool false),.bool x1_0,(.bool false),(.bool false),(.bool false),(.bool false),(.bool false),(.bool false),(.bool false),.bool x9_0]):=.of fun _ k=>zx (by kernel_rfl) k
instance : zE Tryz.prog 44 11 19:=⟨by kernel_rfl⟩
instance : PStep Tryz.prog (Instr.build 166 #[]) (.agg #[(.bool false),(.bool false),(.bool false),(.bool false),(.bool false),(.bool false),(.bool false),(.bool false),(.bool false),(.bool false)]):=.of fun _ k=>zx (by kernel_rfl) k
abbrev Tryz.abH : FuncId:=105
abbrev Tryz.jH : FuncId:=106
instance : ArT Tryz.prog 208 8 207 8:=⟨by kernel_rfl⟩
instance : ZrT Tryz.prog 208 [(.bool false),(.bool false),(.bool false),(.bool false),(.bool false),(.bool false),(.bool false),(.bool false),(.bool false),(.bool false),(.bool false),(.bool false),(.bool false),(.bool false),(.bool false),(.bool false),(.bool false),(.bool false),(.bool false),(.bool false),(.bool false),(.bool false),(.bool false),(.bool false),(.bool false),(.bool false),(.bool false),(.bool false),(.bool false),(.bool false),(.bool false),(.bool false),(.bool false),(.bool false),(.bool false),(.bool false),(.bool false),(.bool false),(.bool false),(.bool false),(.bool false),(.bool false),(.bool false),(.bool false),(.bool false),(.bool false),(.bool false),(.bool false),(.bool false),(.bool false),(.bool false),(.bool false),(.bool false),(.bool false),(.bool false),(.bool false),(.bool false),(.bool false),(.bool false),(.bool false),(.bool false),(.bool false),(.bool false),(.bool false)]:=⟨by kernel_rfl⟩
instance : zE Tryz.prog 33 2 2:=⟨by kernel_rfl⟩
instance : Ld1 Tryz.prog 28:=⟨by kernel_rfl⟩
instance : SlT Tryz.prog 28 101 2:=⟨by kernel_rfl⟩
instance : LdN Tryz.prog 101 2:=⟨by kernel_rfl⟩
instance : SzT Tryz.prog 101 2:=⟨by kernel_rfl⟩
instance : ZrT Tryz.prog 101 [(.int .i64 0),(.int .i64 0)]:=⟨by kernel_rfl⟩
instance : zE Tryz.prog 101 0 0:=⟨by kernel_rfl⟩
instance : zE Tryz.prog 101 1 1:=⟨by kernel_rfl⟩
instance : ArT Tryz.prog 207 8 4 1:=⟨by kernel_rfl⟩
abbrev Tryz.jU : FuncId:=107
abbrev Tryz.yL : FuncId:=108
instance : zE Tryz.prog 41 0 0:=⟨by kernel_rfl⟩
instance : Ld1 Tryz.prog 39:=⟨by kernel_rfl⟩
instance : SzT Tryz.prog 39 1:=⟨by kernel_rfl⟩
instance {x0_0 : Int} : PStep Tryz.prog (Instr.build 57 #[(0,.int .u8 x0_0)]) (.agg #[.int .u8 x0_0,(.bool false),(.int .i64 0),(.int .i64 0),(.slice none 0 0)]):=.of fun _ k=>zx (by kernel_rfl) k
instance : zE Tryz.prog 41 2 2:=⟨by kernel_rfl⟩
instance : zE Tryz.prog 41 1 1:=⟨by kernel_rfl⟩
instance : Ld1 Tryz.prog 2:=⟨by kernel_rfl⟩
abbrev Tryz.jV : FuncId:=109
abbrev Tryz.jW : FuncId:=110
instance : zE Tryz.prog 44 4 11:=⟨by kernel_rfl⟩
instance : Ld1 Tryz.prog 42:=⟨by kernel_rfl⟩
instance : SlT Tryz.prog 42 41 4:=⟨by kernel_rfl⟩
abbrev Tryz.jg : FuncId:=112
abbrev Tryz.zR : FuncId:=113
instance : zE Tryz.prog 166 0 0:=⟨by kernel_rfl⟩
instance : zE Tryz.prog 166 1 1:=⟨by kernel_rfl⟩
instance : zE Tryz.prog 166 2 2:=⟨by kernel_rfl⟩
instance : zE Tryz.prog 166 3 3:=⟨by kernel_rfl⟩
instance : zE Tryz.prog 166 4 4:=⟨by kernel_rfl⟩
instance : zE Tryz.prog 166 5 5:=⟨by kernel_rfl⟩
instance : zE Tryz.prog 166 6 6:=⟨by kernel_rfl⟩
instance : zE Tryz.prog 166 7 7:=⟨by kernel_rfl⟩
instance : zE Tryz.prog 166 8 8:=⟨by kernel_rfl⟩
instance : zE Tryz.prog 166 9 9:=⟨by kernel_rfl⟩
abbrev Tryz.vh : FuncId:=144
instance : Ld1 Tryz.prog 126:=⟨by kernel_rfl⟩
instance : SzT Tryz.prog 126 1:=⟨by kernel_rfl⟩
instance : ZrT Tryz.prog 126 [.nilFunc]:=⟨by kernel_rfl⟩
abbrev Tryz.xI : FuncId:=145
abbrev Tryz.XQ : FuncId:=146
abbrev Tryz.Z6 : FuncId:=181
instance : Ld1 Tryz.prog 210:=⟨by kernel_rfl⟩
abbrev Tryz.xY : FuncId:=22
instance : ZrT Tryz.prog 38 [(.int .i64 0),(.slice none 0 0)]:=⟨by kernel_rfl⟩
abbrev Tryz.Yw : FuncId:=19
abbrev Tryz.kL : FuncId:=18
abbrev Tryz.xR : FuncId:=39
abbrev Tryz.kM : FuncId:=66
abbrev Tryz.vi : FuncId:=53
abbrev Tryz.jI : FuncId:=59
instance : ApT Tryz.prog 42 41 4 48:=⟨by kernel_rfl⟩
abbrev Tryz.qL : FuncId:=60
instance : ZrT Tryz.prog 41 [(.int .u8 0),(.int .i64 0),(.int .i64 0),(.slice none 0 0)]:=⟨by kernel_rfl⟩
abbrev Tryz.Zx : FuncId:=88
abbrev Tryz.xk : FuncId:=31
abbrev Tryz.Yi : FuncId:=187
abbrev Tryz.xJ : FuncId:=197
abbrev Tryz.qB : FuncId:=158
abbrev Tryz.Zc : FuncId:=168
abbrev Tryz.ZN : FuncId:=170
abbrev Tryz.qX : FuncId:=189
abbrev Tryz.Zm : FuncId:=191
abbrev Tryz.Zn : FuncId:=36
abbrev Tryz.jy : FuncId:=192
abbrev Tryz.vj : FuncId:=198
abbrev Tryz.jz : FuncId:=199
abbrev Tryz.vk : FuncId:=200
instance : SlT Tryz.prog 212 4 1:=⟨by kernel_rfl⟩
instance : ApT Tryz.prog 212 4 1 1:=⟨by kernel_rfl⟩
instance : ZrT Tryz.prog 4 [(.bool false)]:=⟨by kernel_rfl⟩
abbrev Tryz.jA : FuncId:=201
instance : ZrT Tryz.prog 25 [(.slice none 0 0),(.slice none 0 0),(.int .i64 0)]:=⟨by kernel_rfl⟩
instance : ApT Tryz.prog 30 9 1 16:=⟨by kernel_rfl⟩
abbrev Tryz.Z7 : FuncId:=6
abbrev Tryz.Yx : FuncId:=7
abbrev Tryz.kW : FuncId:=9
abbrev Tryz.xK : FuncId:=17
abbrev Tryz.kx : FuncId:=34
abbrev Tryz.xa : FuncId:=104
abbrev Tryz.xz : FuncId:=143
abbrev Tryz.zM : FuncId:=94
abbrev Tryz.zU : FuncId:=111
abbrev Tryz.xf : FuncId:=129
abbrev Tryz.xr : FuncId:=147
abbrev Tryz.qM : FuncId:=182
abbrev Tryz.yK : FuncId:=90
instance : ApT Tryz.prog 36 138 1 8:=⟨by kernel_rfl⟩
abbrev Tryz.z6 : FuncId:=87
abbrev Tryz.z8 : FuncId:=128
abbrev Tryz.Yy : FuncId:=103
abbrev Tryz.qC : FuncId:=121
abbrev Tryz.ZO : FuncId:=141
abbrev Tryz.vm : FuncId:=142
abbrev Tryz.yY : FuncId:=155
abbrev Tryz.vu : FuncId:=156
abbrev Tryz.jB : FuncId:=157
abbrev Tryz.Yj : FuncId:=14
abbrev Tryz.XB : FuncId:=54
abbrev Tryz.ZP : FuncId:=84
abbrev Tryz.Yz : FuncId:=122
abbrev Tryz.qi : FuncId:=123
instance : zE Tryz.prog 130 1 3:=⟨by kernel_rfl⟩
instance : zE Tryz.prog 130 0 0:=⟨by kernel_rfl⟩
abbrev Tryz.YA : FuncId:=159
abbrev Tryz.jJ : FuncId:=160
abbrev Tryz.yM : FuncId:=161
abbrev Tryz.yn : FuncId:=74
instance {x1_0 : Option Addr} {x1_0_l : Nat} {x1_0_c : Nat} : PStep Tryz.prog (Instr.build 38 #[(1,.slice x1_0 x1_0_l x1_0_c)]) (.agg #[(.int .i64 0),.slice x1_0 x1_0_l x1_0_c]):=.of fun _ k=>zx (by kernel_rfl) k
abbrev Tryz.zN : FuncId:=162
abbrev Tryz.yI : FuncId:=163
abbrev Tryz.YB : FuncId:=164
abbrev Tryz.zK : FuncId:=165
abbrev Tryz.Zd : FuncId:=166
abbrev Tryz.ky : FuncId:=167
abbrev Tryz.xZ : FuncId:=169
abbrev Tryz.yy : FuncId:=188
abbrev Tryz.xO : FuncId:=190
abbrev Tryz.YC : FuncId:=11
abbrev Tryz.YD : FuncId:=12
abbrev Tryz.vv : FuncId:=25
abbrev Tryz.ZQ : FuncId:=30
abbrev Tryz.YE : FuncId:=40
abbrev Tryz.xg : FuncId:=77
abbrev Tryz.jj : FuncId:=50
abbrev Tryz.xh : FuncId:=82
abbrev Tryz.XR : FuncId:=41
instance : zE Tryz.prog 84 0 0:=⟨by kernel_rfl⟩
abbrev Tryz.YF : FuncId:=43
instance : zE Tryz.prog 86 0 0:=⟨by kernel_rfl⟩
abbrev Tryz.XS : FuncId:=45
instance : zE Tryz.prog 33 0 0:=⟨by kernel_rfl⟩
abbrev Tryz.kz : FuncId:=79
instance : ZrT Tryz.prog 176 [(.pointer none),(.slice none 0 0)]:=⟨by kernel_rfl⟩
abbrev Tryz.qN : FuncId:=81
abbrev Tryz.ZR : FuncId:=120
abbrev Tryz.zF : FuncId:=42
abbrev Tryz.ye : FuncId:=46
instance : Eq2 Tryz.prog 101:=⟨by kernel_rfl⟩
abbrev Tryz.xm : FuncId:=47
abbrev Tryz.zJ : FuncId:=48
abbrev Tryz.zG : FuncId:=49
abbrev Tryz.zB : FuncId:=51
instance : ZrT Tryz.prog 84 [(.string ByteArray.empty),(.slice none 0 0)]:=⟨by kernel_rfl⟩
abbrev Tryz.zH : FuncId:=52
abbrev Tryz.zA : FuncId:=83
abbrev Tryz.kA : FuncId:=72
abbrev Tryz.YG : FuncId:=152
abbrev Tryz.jk : FuncId:=153
abbrev Tryz.yz : FuncId:=154
abbrev Tryz.kg : FuncId:=186
abbrev Tryz.qD : FuncId:=180
abbrev Tryz.xD : FuncId:=196
abbrev Tryz.YH : FuncId:=27
abbrev Tryz.jK : FuncId:=28
abbrev Tryz.vw : FuncId:=29
abbrev Tryz.jC : FuncId:=32
abbrev Tryz.ZS : FuncId:=33
abbrev Tryz.qO : FuncId:=26
abbrev Tryz.ZT : FuncId:=70
abbrev Tryz.kN : FuncId:=116
abbrev Tryz.kk : FuncId:=149
end Go.Proofs
end
section
namespace Go.Proofs.Tryz
open Go.Sh
set_option maxRecDepth 100000
def VI (t0 : Value) (w : World) (K : VW) : Prop:=
 pw w (Instr.box 25 t0) fun t1 w1=>
 lo w1 25 t1 fun t7=>ca kV #[t7] w1 fun t8 w2=>
 pe t8 0 fun _t9=>pe t8 1 fun _t10=>pe t8 2 fun t11=>bt .eql 45 t11 (i6 0) fun t13=>K t13 w2
theorem ad0 {t0 : Value} {w : World} {K : VW} (h : VI t0 w K) : zd prog ke #[t0] w K:=
 okC false (.s (.r (rz 2 0 2)) (.s (.r (rz 9 0 9)) (.s (.r (rz 3 0 0)) (.n)))) func8 rfl (by kernel_rfl) (by kernel_rfl) h
def QJ (t0 : Value) (w : World) (K : VW) : Prop:=
 pw w (Instr.box 25 t0) fun t1 w1=>
 fl w1 t1 25 0 22 fun t15=>ca qA #[t15] w1 fun t16 w2=>
 pe t16 0 fun _t17=>pe t16 1 fun t18=>bt .neq 45 t18 (i6 0) fun t20=>za (fun K3=>gIf t20 false (fl w2 t1 25 1 23 fun t23=>pp (Builtin.len_ #[23] 3 #[t23]) fun t24=>bt .lss 3 t24 (i6 1) fun t25=>K3 [t25] w2) (K3 [undef] w2)) (fun s4 _d5 w6=>
 zb t20 tr_ (s4.getD 0 undef) fun t26=>za (fun K7=>gIf t26 false (fl w6 t1 25 1 23 fun t29=>pp (Builtin.len_ #[23] 3 #[t29]) fun t30=>bt .gtr 3 t30 (i6 32) fun t31=>K7 [t31] w6) (K7 [undef] w6)) (fun s8 _d9 w10=>
 zb t26 tr_ (s8.getD 0 undef) fun t32=>za (fun K11=>gIf t32 false (fl w10 t1 25 2 3 fun t35=>bt .lss 3 t35 (i6 0) fun t36=>K11 [t36] w10) (K11 [undef] w10)) (fun s12 _d13 w14=>
 zb t32 tr_ (s12.getD 0 undef) fun t37=>za (fun K15=>gIf t37 false (fl w14 t1 25 2 3 fun t40=>fl w14 t1 25 1 23 fun t42=>pp (Builtin.len_ #[23] 3 #[t42]) fun t43=>bf .geq 3 t40 t43 fun t44=>K15 [t44] w14) (K15 [undef] w14)) (fun s16 _d17 w18=>
 zb t37 tr_ (s16.getD 0 undef) fun t45=>zc t45 (K (.tuple #[(i6 (-1)),(i6 (-1)),(i6 100)]) w18) (fl w18 t1 25 1 23 fun t47=>pp (Builtin.len_ #[23] 3 #[t47]) fun t48=>zn [(i6 0),(i6 0),(i6 0)] w18 (fun s20 _d21 w22 K19=>
 bf .lss 3 (s20.getD 2 undef) t48 fun t50=>zc t50 (lo w22 25 t1 fun t52=>ca Yv #[t52,(s20.getD 2 undef)] w22 fun t54 w23=>
 pp (Op.unary .not t54) fun t55=>zc t55 (K (.tuple #[(s20.getD 2 undef),(i6 (-1)),(i6 100)]) w23) (bt .add 3 (s20.getD 2 undef) (i6 1) fun t57=>K19 [(s20.getD 2 undef),(s20.getD 1 undef),t57] w23)) (za (fun K24=>
 fl w22 t1 25 1 23 fun t59=>pp (Builtin.len_ #[23] 3 #[t59]) fun t60=>zn [(s20.getD 0 undef),(s20.getD 1 undef),fa_,(i6 0)] w22 (fun s29 _d30 w31 K28=>
 bf .lss 3 (s29.getD 3 undef) t60 fun t62=>zc t62 (xl w31 23 t59 (s29.getD 3 undef) 33 fun t65=>pw w31 (Instr.alloc 33 true (.tuple #[])) fun t9 w32=>
 so w32 33 t9 t65 fun w33=>lo w33 25 t1 fun t66=>lo w33 33 t9 fun t67=>pp (Instr.build 117 #[(0,t66),(1,t67)]) fun t68=>pw w33 (Instr.alloc 117 true (.tuple #[])) fun t10 w34=>
 so w34 117 t10 t68 fun w35=>fl w35 t9 33 6 31 fun t70=>pp (Builtin.len_ #[31] 3 #[t70]) fun t71=>zn [(s29.getD 0 undef),(s29.getD 1 undef),(s29.getD 2 undef),(i6 0)] w35 (fun s37 _d38 w39 K36=>
 bf .lss 3 (s37.getD 3 undef) t71 fun t73=>zc t73 (xl w39 31 t70 (s37.getD 3 undef) 44 fun t76=>pw w39 (Instr.alloc 44 true (.tuple #[])) fun t12 w40=>
 so w40 44 t12 t76 fun w41=>lo w41 117 t10 fun t77=>lo w41 44 t12 fun t78=>ca qh #[t77,t78] w41 fun t79 w42=>
 pp (Op.unary .not t79) fun t80=>zc t80 (K24 [(s29.getD 3 undef),(s37.getD 3 undef),tr_] w42) (bt .add 3 (s37.getD 3 undef) (i6 1) fun t83=>K36 [(s37.getD 0 undef),(s37.getD 1 undef),(s37.getD 2 undef),t83] w42)) (bt .add 3 (s29.getD 3 undef) (i6 1) fun t84=>K28 [(s37.getD 0 undef),(s37.getD 1 undef),(s37.getD 2 undef),t84] w39))) (K24 [(s29.getD 0 undef),(s29.getD 1 undef),(s29.getD 2 undef)] w31))) (fun s25 _d26 w27=>
 zc (s25.getD 2 undef) (K (.tuple #[(s25.getD 0 undef),(s25.getD 1 undef),(i6 100)]) w27) (K (.tuple #[(i6 0),(i6 0),(i6 0)]) w27)))))))))
theorem abI {t0 : Value} {w : World} {K : VW} (h : QJ t0 w K) : zd prog kV #[t0] w K:=
 okC false (.s (.r (rz 4 0 2)) (.b (.s (.s (.r (rz 8 0 36)) (.s (.r (ra 3 0 0 (.grp 21 false (ri 4 3 4) [25] (ra 2 7 0 (.grp 27 false (ri 4 9 4) [31] (ra 2 13 0 (.grp 33 false (ri 3 15 4) [36] (ra 2 18 0 (.grp 38 false (ri 6 20 68) [44] (rz 1 26 0)))))))))) (.c (.s (.r (rz 3 0 0)) (.n)) (.n)))) (.s (.s (.r (rz 4 0 4)) (.b (.lp [2,3,49] (.s (.r (rz 1 0 0)) (.s (.c (.n) (.n)) (.s (.b (.s (.r (rz 2 0 0)) (.s (.r (rz 4 0 33)) (.c (.s (.r (rz 4 0 0)) (.n)) (.n))))) (.r (rz 2 0 0)))))))) (.s (.r (rz 1 0 0)) (.s (.n) (.j [2,3,7] (.s (.r (rz 4 0 4)) (.b (.lp [2,3,7,61] (.s (.r (rz 1 0 0)) (.s (.c (.n) (.n)) (.s (.b (.s (.r (rz 6 0 2192)) (.s (.r (rz 5 0 645)) (.s (.r (rz 4 0 4)) (.b (.lp [2,3,7,72] (.s (.r (rz 1 0 0)) (.s (.c (.n) (.n)) (.s (.b (.s (.r (rz 6 0 2192)) (.s (.r (rz 4 0 37)) (.c (.s (.r (rz 5 0 0)) (.n)) (.n))))) (.r (rz 2 0 0))))))))))) (.r (rz 2 0 0)))))))) (.s (.s (.r (rz 1 0 0)) (.c (.s (.r (rz 5 0 0)) (.n)) (.n))) (.s (.r (rz 3 0 0)) (.n)))))))))) func35 rfl (by kernel_rfl) (by kernel_rfl) h
def Zy (t0 t1 : Value) (w : World) (K : VW) : Prop:=
 pw w (Instr.box 117 t0) fun t2 w1=>
 pw w1 (Instr.box 38 t1) fun t3 w2=>
 pw w2 (Instr.alloc 115 true (.tuple #[])) fun t4 w3=>
 fl w3 t3 38 0 3 fun t11=>bt .lss 3 t11 (i6 0) fun t12=>za (fun K4=>gIf t12 false (fl w3 t3 38 0 3 fun t15=>pf 117 t2 1 fun t16=>fl w3 t16 33 4 29 fun t18=>pp (Builtin.len_ #[29] 3 #[t18]) fun t19=>bf .geq 3 t15 t19 fun t20=>K4 [t20] w3) (K4 [undef] w3)) (fun s5 _d6 w7=>
 zb t12 tr_ (s5.getD 0 undef) fun t21=>zc t21 (pp (Instr.build 115 #[]) fun t22=>so w7 115 t4 t22 fun w8=>pq w8 (zt 115 t4) fun r9=>K r9 w8) (pf 117 t2 1 fun t23=>fl w7.drew t23 33 4 29 fun t25=>fl w7.drew t3 38 0 3 fun t27=>xl w7.drew 29 t25 t27 57 fun t29=>fl w7.drew t3 38 1 36 fun t31=>pp (Builtin.len_ #[36] 3 #[t31]) fun t32=>bt .leq 3 t32 (i6 8) fun t33=>pp (Instr.build 115 #[(0,t29),(2,t33)]) fun t34=>pw w7.drew (Instr.alloc 115 true (.tuple #[])) fun t5 w10=>
 Ext w7.drew w10∧
 so w10 115 t5 t34 fun w11=>fl w11 t3 38 1 36 fun t36=>pp (Builtin.len_ #[36] 3 #[t36]) fun t37=>zn [(i6 0)] w11 (fun s13 _d14 w15 K12=>
 bf .lss 3 (s13.getD 0 undef) t37 fun t39=>zc t39 (za (fun K16=>
 xl w15 36 t36 (s13.getD 0 undef) 138 fun t41=>fl w15 t5 115 0 57 fun t43=>pw w15 (Instr.alloc 57 true (.tuple #[])) fun t8 w20=>
 so w20 57 t8 t43 fun w21=>bt .eql 138 t41 (i6 (-1)) fun t47=>za (fun K22=>gIf t47 true (fl w21 t8 57 0 55 fun t50=>bt .eql 55 t50 (Value.int .u8 3) fun t51=>K22 [t51] w21) (K22 [undef] w21)) (fun s23 _d24 w25=>
 zb t47 (s23.getD 0 undef) fa_ fun t52=>zc t52 (fl w25 t5 115 1 3 fun t54=>pp (Builtin.max_ #[3,3] 3 #[t54,(i6 1)]) fun t55=>pf 115 t5 1 fun t56=>so w25 3 t56 t55 fun w26=>fl w26 t8 57 4 29 fun t58=>xl w26 29 t58 (i6 0) 57 fun t60=>pf 115 t5 0 fun t61=>so w26 57 t61 t60 fun w27=>K16 [] w27) (bt .eql 138 t41 (i6 (-1)) fun t64=>za (fun K28=>gIf t64 true (fl w25 t8 57 0 55 fun t67=>bt .eql 55 t67 (Value.int .u8 4) fun t68=>K28 [t68] w25) (K28 [undef] w25)) (fun s29 _d30 w31=>
 zb t64 (s29.getD 0 undef) fa_ fun t69=>zc t69 (za (fun K32=>
 fl w31 t8 57 1 4 fun t71=>zc t71 (K32 [(i6 2)] w31) (K32 [(i6 3)] w31)) (fun s33 _d34 w35=>
 fl w35 t5 115 1 3 fun t73=>pp (Builtin.max_ #[3,3] 3 #[t73,(s33.getD 0 undef)]) fun t75=>pf 115 t5 1 fun t76=>so w35 3 t76 t75 fun w36=>fl w36 t8 57 4 29 fun t78=>xl w36 29 t78 (i6 0) 57 fun t80=>pf 115 t5 0 fun t81=>so w36 57 t81 t80 fun w37=>K16 [] w37)) (bt .geq 138 t41 (i6 0) fun t84=>za (fun K38=>gIf t84 true (fl w31 t8 57 0 55 fun t87=>bt .eql 55 t87 (Value.int .u8 5) fun t88=>K38 [t88] w31) (K38 [undef] w31)) (fun s39 _d40 w41=>
 zb t84 (s39.getD 0 undef) fa_ fun t89=>za (fun K42=>gIf t89 true (pf 117 t2 0 fun t92=>fl w41 t92 25 0 22 fun t94=>fl w41 t8 57 3 3 fun t96=>px 22 t94 t96 fun t97=>fl w41 t97 84 1 82 fun t99=>pp (Builtin.len_ #[82] 3 #[t99]) fun t100=>bf .lss 3 t41 t100 fun t101=>K42 [t101] w41) (K42 [undef] w41)) (fun s43 _d44 w45=>
 zb t89 (s43.getD 0 undef) fa_ fun t102=>zc t102 (pf 117 t2 0 fun t103=>fl w45 t103 25 0 22 fun t105=>fl w45 t8 57 3 3 fun t107=>px 22 t105 t107 fun t108=>fl w45 t108 84 1 82 fun t110=>px 82 t110 t41 fun t112=>fl w45 t112 86 1 57 fun t114=>pf 115 t5 0 fun t115=>so w45 57 t115 t114 fun w46=>K16 [] w46) (pp (Instr.build 115 #[]) fun t44=>so w45 115 t4 t44 fun w47=>pq w47 (zt 115 t4) fun r48=>K r48 w47)))))))) (fun _s17 _d18 w19=>
 bt .add 3 (s13.getD 0 undef) (i6 1) fun t116=>K12 [t116] w19)) (lo w15 115 t5 fun t117=>so w15 115 t4 t117 fun w49=>pq w49 (zt 115 t4) fun r50=>K r50 w49))))
theorem Q7 {t0 t1 : Value} {w : World} {K : VW} (h : Zy t0 t1 w K) : zd prog zs #[t0,t1] w K:=
 okC false (.s (.r (rz 3 0 42)) (.s (.s (.r (ra 4 0 4 (.grp 13 false (ri 7 4 260) [20] (rz 1 11 0)))) (.c (.s (.r (rz 2 0 8)) (.n)) (.n))) (.s (.r (rz 14 0 184619280)) (.s (.s (.r (rz 4 0 4)) (.b (.lp [38] (.s (.r (rz 1 0 0)) (.s (.c (.n) (.n)) (.j [] (.b (.s (.r (rz 3 0 4)) (.s (.r (rz 4 0 164)) (.b (.s (.r (ra 3 0 0 (.grp 48 true (ri 3 3 4) [51] (rz 2 6 0)))) (.c (.s (.r (rz 5 0 516)) (.r (rz 6 0 2116))) (.s (.r (ra 3 0 0 (.grp 65 true (ri 3 3 4) [68] (rz 2 6 0)))) (.c (.s (.r (rz 1 0 0)) (.j [9] (.s (.r (rz 2 0 4)) (.c (.r (rz 1 0 0)) (.n))) (.s (.r (rz 6 0 2052)) (.r (rz 6 0 2116))))) (.s (.r (ra 3 0 0 (.grp 85 true (ri 3 3 4) [88] (ra 2 6 0 (.grp 90 true (ri 11 8 66624) [101] (rz 2 19 0)))))) (.c (.r (rz 14 0 138428688)) (.s (.r (rz 2 0 8)) (.n)))))))))))) (.r (rz 2 0 0)))))))) (.s (.r (rz 2 0 9)) (.n)))))) func61 rfl (by kernel_rfl) (by kernel_rfl) h
def Ji (t0 t1 : Value) (w : World) (K : VW) : Prop:=
 pw w (Instr.box 25 t0) fun t2 w1=>
 fl w1 t2 25 1 23 fun t13=>xl w1 23 t13 t1 33 fun t16=>pw w1 (Instr.alloc 33 true (.tuple #[])) fun t5 w2=>
 so w2 33 t5 t16 fun w3=>fl w3 t5 33 1 3 fun t18=>bt .lss 3 t18 (i6 0) fun t19=>za (fun K4=>gIf t19 false (fl w3 t5 33 1 3 fun t22=>bt .gtr 3 t22 (i6 8) fun t23=>K4 [t23] w3) (K4 [undef] w3)) (fun s5 _d6 w7=>
 zb t19 tr_ (s5.getD 0 undef) fun t24=>za (fun K8=>gIf t24 false (fl w7 t5 33 3 3 fun t27=>bt .lss 3 t27 (i6 0) fun t28=>K8 [t28] w7) (K8 [undef] w7)) (fun s9 _d10 w11=>
 zb t24 tr_ (s9.getD 0 undef) fun t29=>za (fun K12=>gIf t29 false (fl w11 t5 33 3 3 fun t32=>bt .gtr 3 t32 (i6 8) fun t33=>K12 [t33] w11) (K12 [undef] w11)) (fun s13 _d14 w15=>
 zb t29 tr_ (s13.getD 0 undef) fun t34=>za (fun K16=>gIf t34 false (fl w15 t5 33 4 29 fun t37=>pp (Builtin.len_ #[29] 3 #[t37]) fun t38=>fl w15 t5 33 3 3 fun t40=>bf .leq 3 t38 t40 fun t41=>K16 [t41] w15) (K16 [undef] w15)) (fun s17 _d18 w19=>
 zb t34 tr_ (s17.getD 0 undef) fun t42=>za (fun K20=>gIf t42 false (fl w19 t5 33 4 29 fun t45=>pp (Builtin.len_ #[29] 3 #[t45]) fun t46=>bt .gtr 3 t46 (i6 512) fun t47=>K20 [t47] w19) (K20 [undef] w19)) (fun s21 _d22 w23=>
 zb t42 tr_ (s21.getD 0 undef) fun t48=>za (fun K24=>gIf t48 false (fl w23 t5 33 5 30 fun t51=>pp (Builtin.len_ #[30] 3 #[t51]) fun t52=>fl w23 t5 33 4 29 fun t54=>pp (Builtin.len_ #[29] 3 #[t54]) fun t55=>bf .neq 3 t52 t55 fun t56=>K24 [t56] w23) (K24 [undef] w23)) (fun s25 _d26 w27=>
 zb t48 tr_ (s25.getD 0 undef) fun t57=>zc t57 (K fa_ w27) (fl w27 t5 33 4 29 fun t59=>pp (Builtin.len_ #[29] 3 #[t59]) fun t60=>zn [(i6 0)] w27 (fun s29 _d30 w31 K28=>
 bf .lss 3 (s29.getD 0 undef) t60 fun t62=>zc t62 (xl w31 29 t59 (s29.getD 0 undef) 57 fun t65=>pw w31 (Instr.alloc 57 true (.tuple #[])) fun t7 w32=>
 so w32 57 t7 t65 fun w33=>fl w33 t2 25 0 22 fun t67=>lo w33 57 t7 fun t68=>ca jp #[t67,t68] w33 fun t69 w34=>
 pp (Op.unary .not t69) fun t70=>zc t70 (K fa_ w34) (pw w34 (Instr.alloc 3 true (.tuple #[])) fun t8 w35=>
 so w35 3 t8 (i6 (-1)) fun w36=>za (fun K37=>
 fl w36 t5 33 3 3 fun t73=>bf .leq 3 (s29.getD 0 undef) t73 fun t74=>zc t74 (so w36 3 t8 (i6 0) fun w41=>K37 [] w41) (K37 [] w36)) (fun _s38 _d39 w40=>
 lo w40 57 t7 fun t75=>ca qy #[t75] w40 fun t76 w42=>
 pp (Instr.makeFunc (.func 105) #[] #[t8,t5]) fun t77=>ca xa #[t76,t77] w42 fun t78 w43=>
 zc t78 (K fa_ w43) (bt .add 3 (s29.getD 0 undef) (i6 1) fun t79=>K28 [t79] w43)))) (fl w31 t5 33 6 31 fun t81=>pp (Builtin.len_ #[31] 3 #[t81]) fun t82=>bt .lss 3 t82 (i6 1) fun t83=>za (fun K44=>gIf t83 false (fl w31 t5 33 6 31 fun t86=>pp (Builtin.len_ #[31] 3 #[t86]) fun t87=>bt .gtr 3 t87 (i6 1024) fun t88=>K44 [t88] w31) (K44 [undef] w31)) (fun s45 _d46 w47=>
 zb t83 tr_ (s45.getD 0 undef) fun t89=>za (fun K48=>gIf t89 false (lo w47 33 t5 fun t91=>ca jH #[t91] w47 fun t92 w52=>
 pp (Op.unary .not t92) fun t93=>K48 [t93] w52) (K48 [undef] w47)) (fun s49 _d50 w51=>
 zb t89 tr_ (s49.getD 0 undef) fun t94=>zc t94 (K fa_ w51) (fl w51 t5 33 6 31 fun t96=>pp (Builtin.len_ #[31] 3 #[t96]) fun t97=>zn [(i6 0),(i6 0)] w51 (fun s54 _d55 w56 K53=>
 bf .lss 3 (s54.getD 1 undef) t97 fun t99=>zc t99 (za (fun K57=>
 xl w56 31 t96 (s54.getD 1 undef) 44 fun t101=>pw w56 (Instr.alloc 44 true (.tuple #[])) fun t11 w61=>
 so w61 44 t11 t101 fun w62=>fl w62 t11 44 0 35 fun t103=>bt .eql 35 t103 (Value.int .u8 4) fun t104=>zc t104 (bt .add 3 (s54.getD 0 undef) (i6 1) fun t106=>K57 [t106] w62) (K57 [(s54.getD 0 undef)] w62)) (fun s58 _d59 w60=>
 bt .add 3 (s54.getD 1 undef) (i6 1) fun t107=>K53 [(s58.getD 0 undef),t107] w60)) (bt .leq 3 (s54.getD 0 undef) (i6 256) fun t109=>za (fun K63=>gIf t109 true (fl w56 t2 25 2 3 fun t113=>bf .neq 3 t1 t113 fun t114=>K63 [t114] w56) (K63 [undef] w56)) (fun s64 _d65 w66=>
 za (fun K67=>gIf (s64.getD 0 undef) false (fl w66 t5 33 1 3 fun t117=>bt .eql 3 t117 (i6 0) fun t118=>K67 [t118] w66) (K67 [undef] w66)) (fun s68 _d69 w70=>
 za (fun K71=>gIf (s68.getD 0 undef) true (fl w70 t5 33 3 3 fun t121=>bt .eql 3 t121 (i6 0) fun t122=>K71 [t122] w70) (K71 [undef] w70)) (fun s72 _d73 w74=>
 za (fun K75=>gIf (s64.getD 0 undef) false (zb (s68.getD 0 undef) (s72.getD 0 undef) fa_ fun t123=>K75 [t123] w74) (K75 [undef] w74)) (fun s76 _d77 w78=>
 za (fun K79=>gIf (s76.getD 0 undef) true (fl w78 t5 33 4 29 fun t126=>px 29 t126 (i6 0) fun t127=>fl w78 t127 57 0 55 fun t129=>bt .eql 55 t129 (Value.int .u8 1) fun t130=>K79 [t130] w78) (K79 [undef] w78)) (fun s80 _d81 w82=>
 za (fun K83=>gIf (s64.getD 0 undef) false (zb (s76.getD 0 undef) (s80.getD 0 undef) fa_ fun t131=>K83 [t131] w82) (K83 [undef] w82)) (fun s84 _d85 w86=>
 za (fun K87=>gIf t109 true (zb (s64.getD 0 undef) tr_ (s84.getD 0 undef) fun t132=>K87 [t132] w86) (K87 [undef] w86)) (fun s88 _d89 w90=>
 zb t109 (s88.getD 0 undef) fa_ fun t133=>K t133 w90)))))))))))))))))))))
theorem acJ {t0 t1 : Value} {w : World} {K : VW} (h : Ji t0 t1 w K) : zd prog Yv #[t0,t1] w K:=
 okC false (.s (.r (rz 2 0 2)) (.s (.r (rz 7 0 10500)) (.s (.s (.r (ra 4 0 4 (.grp 20 false (ri 3 4 4) [23] (ra 2 7 0 (.grp 25 false (ri 3 9 4) [28] (ra 2 12 0 (.grp 30 false (ri 3 14 4) [33] (ra 2 17 0 (.grp 35 false (ri 6 19 260) [41] (ra 2 25 0 (.grp 43 false (ri 4 27 4) [47] (ra 2 31 0 (.grp 49 false (ri 7 33 260) [56] (rz 1 40 0)))))))))))))) (.c (.s (.r (rz 1 0 0)) (.n)) (.n))) (.s (.s (.r (rz 4 0 4)) (.b (.lp [61] (.s (.r (rz 1 0 0)) (.s (.c (.n) (.n)) (.s (.b (.s (.r (rz 6 0 2192)) (.s (.s (.r (rz 5 0 148)) (.c (.s (.r (rz 1 0 0)) (.n)) (.n))) (.s (.r (rz 2 0 10)) (.j [] (.s (.r (rz 4 0 16)) (.c (.r (rz 1 0 2)) (.n))) (.s (.r (rz 4 0 137)) (.c (.s (.r (rz 1 0 0)) (.n)) (.n)))))))) (.r (rz 2 0 0)))))))) (.s (.s (.r (ra 5 0 4 (.grp 84 false (ri 4 5 4) [88] (ra 2 9 0 (.grp 90 false (ri 3 11 9) [93] (rz 1 14 0)))))) (.c (.s (.r (rz 1 0 0)) (.n)) (.n))) (.s (.r (rz 1 0 0)) (.s (.s (.r (rz 4 0 4)) (.b (.lp [9,98] (.s (.r (rz 1 0 0)) (.s (.c (.n) (.n)) (.j [9] (.b (.s (.r (rz 4 0 164)) (.s (.r (rz 3 0 4)) (.c (.r (rz 3 0 0)) (.n))))) (.r (rz 2 0 0)))))))) (.s (.r (ra 3 0 0 (.grp 110 true (ri 5 3 16) [115] (.grp 115 false (ri 4 8 4) [119] (.grp 119 true (ri 3 12 4) [122] (.grp 115 false (ri 2 15 0) [124] (.grp 124 true (ri 6 17 260) [130] (.grp 115 false (ri 1 23 0) [131] (.grp 110 true (ri 1 24 0) [132] (rz 2 25 0)))))))))) (.n))))))))) func75 rfl (by kernel_rfl) (by kernel_rfl) h
def vR (t0 t1 : Value) (w : World) (K : VW) : Prop:=
 pw w (Instr.box 117 t0) fun t2 w1=>
 pw w1 (Instr.box 44 t1) fun t3 w2=>
 pf 117 t2 1 fun t23=>fl w2 t23 33 6 31 fun t25=>pp (Builtin.len_ #[31] 3 #[t25]) fun t26=>pw w2 (Instr.alloc 3 true (.tuple #[])) fun t5 w3=>
 so w3 3 t5 t26 fun w4=>pp (Instr.makeFunc (.func 107) #[] #[t5]) fun t27=>fl w4 t3 44 12 3 fun t29=>bt .lss 3 t29 (i6 0) fun t30=>za (fun K5=>gIf t30 false (fl w4 t3 44 0 35 fun t33=>bt .neq 35 t33 (Value.int .u8 14) fun t34=>K5 [t34] w4) (K5 [undef] w4)) (fun s6 _d7 w8=>
 za (fun K9=>gIf (s6.getD 0 undef) true (fl w8 t3 44 10 3 fun t38=>cv t27 #[t38] w8 fun t39 w13=>
 pp (Op.unary .not t39) fun t40=>K9 [t40] w13) (K9 [undef] w8)) (fun s10 _d11 w12=>
 za (fun K14=>gIf t30 false (zb (s6.getD 0 undef) (s10.getD 0 undef) fa_ fun t41=>K14 [t41] w12) (K14 [undef] w12)) (fun s15 _d16 w17=>
 zb t30 tr_ (s15.getD 0 undef) fun t42=>za (fun K18=>gIf t42 false (fl w17 t3 44 0 35 fun t45=>bt .eql 35 t45 (Value.int .u8 14) fun t46=>K18 [t46] w17) (K18 [undef] w17)) (fun s19 _d20 w21=>
 za (fun K22=>gIf (s19.getD 0 undef) true (fl w21 t3 44 10 3 fun t49=>bt .neq 3 t49 (i6 0) fun t50=>K22 [t50] w21) (K22 [undef] w21)) (fun s23 _d24 w25=>
 za (fun K26=>gIf t42 false (zb (s19.getD 0 undef) (s23.getD 0 undef) fa_ fun t51=>K26 [t51] w25) (K26 [undef] w25)) (fun s27 _d28 w29=>
 zb t42 tr_ (s27.getD 0 undef) fun t52=>zc t52 (K fa_ w29) (za (fun K30=>
 lo w29.drew 117 t2 fun t53=>fl w29.drew t3 44 1 38 fun t55=>lo w29.drew 117 t2 fun t57=>fl w29.drew t3 44 6 38 fun t59=>((ca zs #[t53,t55] w29.drew fun t56 w34=>
 Ext w29.drew w34∧
 ((ca zs #[t57,t59] w34 fun t60 w35=>
 ((pw w35 (Instr.alloc 115 true (.tuple #[])) fun t7 w36=>
 Ext w35 w36∧
 pw w36 (Instr.alloc 115 true (.tuple #[])) fun t8 w37=>
 Ext w36 w37∧
 so w37 115 t7 t56 fun w38=>so w38 115 t8 t60 fun w39=>K30 [t7,t8] w39)∧
 (pw w35 (Instr.alloc 115 true (.tuple #[])) fun t8_41 w40=>
 Ext w35 w40∧
 pw w40 (Instr.alloc 115 true (.tuple #[])) fun t7_43 w42=>
 Ext w40 w42∧
 so w42 115 t7_43 t56 fun w44=>so w44 115 t8_41 t60 fun w45=>K30 [t7_43,t8_41] w45)))∧
 (((pw w34 (Instr.alloc 115 true (.tuple #[])) fun t7_47 w46=>
 Ext w34 w46∧
 ((ca zs #[t57,t59] w46 fun t60_49 w48=>
 pw w48 (Instr.alloc 115 true (.tuple #[])) fun t8_51 w50=>
 Ext w48 w50∧
 so w50 115 t7_47 t56 fun w52=>so w52 115 t8_51 t60_49 fun w53=>K30 [t7_47,t8_51] w53)∧
 (pw w46 (Instr.alloc 115 true (.tuple #[])) fun t8_55 w54=>
 Ext w46 w54∧
 ca zs #[t57,t59] w54 fun t60_57 w56=>
 so w56 115 t7_47 t56 fun w58=>so w58 115 t8_55 t60_57 fun w59=>K30 [t7_47,t8_55] w59)))∧
 (pw w34 (Instr.alloc 115 true (.tuple #[])) fun t8_61 w60=>
 Ext w34 w60∧
 ((ca zs #[t57,t59] w60 fun t60_63 w62=>
 pw w62 (Instr.alloc 115 true (.tuple #[])) fun t7_65 w64=>
 Ext w62 w64∧
 so w64 115 t7_65 t56 fun w66=>so w66 115 t8_61 t60_63 fun w67=>K30 [t7_65,t8_61] w67)∧
 (pw w60 (Instr.alloc 115 true (.tuple #[])) fun t7_69 w68=>
 Ext w60 w68∧
 ca zs #[t57,t59] w68 fun t60_71 w70=>
 so w70 115 t7_69 t56 fun w72=>so w72 115 t8_61 t60_71 fun w73=>K30 [t7_69,t8_61] w73)))))))∧
 (((pw w29.drew (Instr.alloc 115 true (.tuple #[])) fun t7_75 w74=>
 Ext w29.drew w74∧
 ((ca zs #[t53,t55] w74 fun t56_77 w76=>
 Ext w74 w76∧
 ((ca zs #[t57,t59] w76 fun t60_79 w78=>
 pw w78 (Instr.alloc 115 true (.tuple #[])) fun t8_81 w80=>
 Ext w78 w80∧
 so w80 115 t7_75 t56_77 fun w82=>so w82 115 t8_81 t60_79 fun w83=>K30 [t7_75,t8_81] w83)∧
 (pw w76 (Instr.alloc 115 true (.tuple #[])) fun t8_85 w84=>
 Ext w76 w84∧
 ca zs #[t57,t59] w84 fun t60_87 w86=>
 so w86 115 t7_75 t56_77 fun w88=>so w88 115 t8_85 t60_87 fun w89=>K30 [t7_75,t8_85] w89)))∧
 (pw w74 (Instr.alloc 115 true (.tuple #[])) fun t8_91 w90=>
 Ext w74 w90∧
 ca zs #[t53,t55] w90 fun t56_93 w92=>
 Ext w90 w92∧
 ca zs #[t57,t59] w92 fun t60_95 w94=>
 so w94 115 t7_75 t56_93 fun w96=>so w96 115 t8_91 t60_95 fun w97=>K30 [t7_75,t8_91] w97)))∧
 (pw w29.drew (Instr.alloc 115 true (.tuple #[])) fun t8_99 w98=>
 Ext w29.drew w98∧
 ((ca zs #[t53,t55] w98 fun t56_101 w100=>
 Ext w98 w100∧
 ((ca zs #[t57,t59] w100 fun t60_103 w102=>
 pw w102 (Instr.alloc 115 true (.tuple #[])) fun t7_105 w104=>
 Ext w102 w104∧
 so w104 115 t7_105 t56_101 fun w106=>so w106 115 t8_99 t60_103 fun w107=>K30 [t7_105,t8_99] w107)∧
 (pw w100 (Instr.alloc 115 true (.tuple #[])) fun t7_109 w108=>
 Ext w100 w108∧
 ca zs #[t57,t59] w108 fun t60_111 w110=>
 so w110 115 t7_109 t56_101 fun w112=>so w112 115 t8_99 t60_111 fun w113=>K30 [t7_109,t8_99] w113)))∧
 (pw w98 (Instr.alloc 115 true (.tuple #[])) fun t7_115 w114=>
 Ext w98 w114∧
 ca zs #[t53,t55] w114 fun t56_117 w116=>
 Ext w114 w116∧
 ca zs #[t57,t59] w116 fun t60_119 w118=>
 so w118 115 t7_115 t56_117 fun w120=>so w120 115 t8_99 t60_119 fun w121=>K30 [t7_115,t8_99] w121))))))) (fun s31 _d32 w33=>
 fl w33 (s31.getD 0 undef) 115 2 4 fun t62=>za (fun K122=>gIf t62 true (fl w33 (s31.getD 0 undef) 115 1 3 fun t65=>bt .lss 3 t65 (i6 3) fun t66=>K122 [t66] w33) (K122 [undef] w33)) (fun s123 _d124 w125=>
 zb t62 (s123.getD 0 undef) fa_ fun t67=>lo w125 117 t2 fun t69=>fl w125 t3 44 2 41 fun t71=>ca yL #[t69,t71] w125 fun t72 w126=>
 pe t72 0 fun t73=>pe t72 1 fun t74=>pw w126 (Instr.alloc 57 true (.tuple #[])) fun t10 w127=>
 so w127 57 t10 t73 fun w128=>lo w128 117 t2 fun t76=>fl w128 t3 44 3 41 fun t78=>ca yL #[t76,t78] w128 fun t79 w129=>
 pe t79 0 fun t80=>pe t79 1 fun t81=>pw w129 (Instr.alloc 57 true (.tuple #[])) fun t12 w130=>
 so w130 57 t12 t80 fun w131=>pp (Instr.makeFunc (.func 110) #[] #[t3,t2]) fun t82=>fl w131 t3 44 0 35 fun t84=>bt .eql 35 t84 (Value.int .u8 1) fun t86=>zc t86 (lo w131 44 t3 fun t87=>pp (Instr.build 166 #[(0,tr_),(1,tr_)]) fun t88=>ca zR #[t87,t88] w131 fun t89 w132=>
 za (fun K133=>gIf t89 true (K133 [t67] w132) (K133 [undef] w132)) (fun s134 _d135 w136=>
 zb t89 (s134.getD 0 undef) fa_ fun t92=>za (fun K137=>gIf t92 true (K137 [t74] w136) (K137 [undef] w136)) (fun s138 _d139 w140=>
 zb t92 (s138.getD 0 undef) fa_ fun t95=>za (fun K141=>gIf t95 true (lo w140 57 t10 fun t97=>fl w140 (s31.getD 0 undef) 115 0 57 fun t99=>ca xy #[t97,t99] w140 fun t100 w145=>
 K141 [t100] w145) (K141 [undef] w140)) (fun s142 _d143 w144=>
 zb t95 (s142.getD 0 undef) fa_ fun t101=>K t101 w144)))) (bt .eql 35 t84 (Value.int .u8 2) fun t103=>zc t103 (lo w131 44 t3 fun t104=>pp (Instr.build 166 #[(0,tr_),(1,tr_),(2,tr_),(4,tr_)]) fun t105=>ca zR #[t104,t105] w131 fun t106 w146=>
 pp (Op.unary .not t106) fun t107=>za (fun K147=>gIf t107 false (pp (Op.unary .not t67) fun t110=>K147 [t110] w146) (K147 [undef] w146)) (fun s148 _d149 w150=>
 zb t107 tr_ (s148.getD 0 undef) fun t111=>za (fun K151=>gIf t111 false (pp (Op.unary .not t74) fun t114=>K151 [t114] w150) (K151 [undef] w150)) (fun s152 _d153 w154=>
 zb t111 tr_ (s152.getD 0 undef) fun t115=>za (fun K155=>gIf t115 false (pp (Op.unary .not t81) fun t118=>K155 [t118] w154) (K155 [undef] w154)) (fun s156 _d157 w158=>
 zb t115 tr_ (s156.getD 0 undef) fun t119=>zc t119 (K fa_ w158) (lo w158 57 t10 fun t121=>cv (Value.func (.func 109) #[] #[]) #[t121,(Value.int .u8 1)] w158 fun t122 w159=>
 za (fun K160=>gIf t122 true (lo w159 57 t12 fun t125=>cv (Value.func (.func 109) #[] #[]) #[t125,(Value.int .u8 1)] w159 fun t126 w164=>
 K160 [t126] w164) (K160 [undef] w159)) (fun s161 _d162 w163=>
 zb t122 (s161.getD 0 undef) fa_ fun t127=>fl w163 t3 44 5 9 fun t129=>za (fun K165=>
 bt .eql 9 t129 (Value.string { data:=#[43] }) fun t131=>zc t131 (K165 [t131] w163) (bt .eql 9 t129 (Value.string { data:=#[45] }) fun t132=>zc t132 (K165 [t132] w163) (bt .eql 9 t129 (Value.string { data:=#[42] }) fun t133=>zc t133 (K165 [t133] w163) (bt .eql 9 t129 (Value.string { data:=#[47] }) fun t134=>zc t134 (K165 [t134] w163) (bt .eql 9 t129 (Value.string { data:=#[37] }) fun t135=>K165 [t135] w163))))) (fun s166 _d167 w168=>
 zc (s166.getD 0 undef) (fl w168 (s31.getD 0 undef) 115 0 57 fun t138=>cv (Value.func (.func 109) #[] #[]) #[t138,(Value.int .u8 1)] w168 fun t139 w169=>
 za (fun K170=>gIf t139 true (K170 [t127] w169) (K170 [undef] w169)) (fun s171 _d172 w173=>
 zb t139 (s171.getD 0 undef) fa_ fun t142=>K t142 w173)) (za (fun K174=>
 bt .eql 9 t129 (Value.string { data:=#[60] }) fun t144=>zc t144 (K174 [t144] w168) (bt .eql 9 t129 (Value.string { data:=#[60,61] }) fun t145=>zc t145 (K174 [t145] w168) (bt .eql 9 t129 (Value.string { data:=#[62] }) fun t146=>zc t146 (K174 [t146] w168) (bt .eql 9 t129 (Value.string { data:=#[62,61] }) fun t147=>K174 [t147] w168)))) (fun s175 _d176 w177=>
 zc (s175.getD 0 undef) (fl w177 (s31.getD 0 undef) 115 0 57 fun t150=>cv (Value.func (.func 109) #[] #[]) #[t150,(Value.int .u8 2)] w177 fun t151 w178=>
 za (fun K179=>gIf t151 true (K179 [t127] w178) (K179 [undef] w178)) (fun s180 _d181 w182=>
 zb t151 (s180.getD 0 undef) fa_ fun t154=>K t154 w182)) (za (fun K183=>
 bt .eql 9 t129 (Value.string { data:=#[61,61] }) fun t156=>zc t156 (K183 [t156] w177) (bt .eql 9 t129 (Value.string { data:=#[33,61] }) fun t157=>K183 [t157] w177)) (fun s184 _d185 w186=>
 zc (s184.getD 0 undef) (fl w186 (s31.getD 0 undef) 115 0 57 fun t160=>cv (Value.func (.func 109) #[] #[]) #[t160,(Value.int .u8 2)] w186 fun t161 w187=>
 za (fun K188=>gIf t161 true (K188 [t127] w187) (K188 [undef] w187)) (fun s189 _d190 w191=>
 za (fun K192=>gIf (s189.getD 0 undef) false (lo w191 57 t10 fun t166=>cv (Value.func (.func 109) #[] #[]) #[t166,(Value.int .u8 2)] w191 fun t167 w196=>
 K192 [t167] w196) (K192 [undef] w191)) (fun s193 _d194 w195=>
 za (fun K197=>gIf (s193.getD 0 undef) true (lo w195 57 t12 fun t170=>cv (Value.func (.func 109) #[] #[]) #[t170,(Value.int .u8 2)] w195 fun t171 w201=>
 K197 [t171] w201) (K197 [undef] w195)) (fun s198 _d199 w200=>
 za (fun K202=>gIf (s189.getD 0 undef) false (zb (s193.getD 0 undef) (s198.getD 0 undef) fa_ fun t172=>K202 [t172] w200) (K202 [undef] w200)) (fun s203 _d204 w205=>
 za (fun K206=>gIf t161 true (zb (s189.getD 0 undef) tr_ (s203.getD 0 undef) fun t173=>K206 [t173] w205) (K206 [undef] w205)) (fun s207 _d208 w209=>
 zb t161 (s207.getD 0 undef) fa_ fun t174=>K t174 w209)))))) (K fa_ w186)))))))))))) (bt .eql 35 t84 (Value.int .u8 3) fun t176=>zc t176 (pw w131 (Instr.makeMap 167 none) fun t177 w210=>
 pu w210 (Instr.mapUpdate 167 t177 (Value.string { data:=#[45] }) (Value.int .u8 1)) fun w211=>pu w211 (Instr.mapUpdate 167 t177 (Value.string { data:=#[33] }) (Value.int .u8 2)) fun w212=>fl w212 t3 44 5 9 fun t180=>pq w212 (Instr.lookup 167 t177 t180 false) fun t181=>lo w212 44 t3 fun t182=>pp (Instr.build 166 #[(0,tr_),(1,tr_),(4,tr_)]) fun t183=>ca zR #[t182,t183] w212 fun t184 w213=>
 za (fun K214=>gIf t184 true (K214 [t67] w213) (K214 [undef] w213)) (fun s215 _d216 w217=>
 zb t184 (s215.getD 0 undef) fa_ fun t187=>za (fun K218=>gIf t187 true (K218 [t74] w217) (K218 [undef] w217)) (fun s219 _d220 w221=>
 zb t187 (s219.getD 0 undef) fa_ fun t190=>za (fun K222=>gIf t190 true (bt .neq 55 t181 (Value.int .u8 0) fun t193=>K222 [t193] w221) (K222 [undef] w221)) (fun s223 _d224 w225=>
 zb t190 (s223.getD 0 undef) fa_ fun t194=>za (fun K226=>gIf t194 true (fl w225 (s31.getD 0 undef) 115 0 57 fun t198=>cv (Value.func (.func 109) #[] #[]) #[t198,t181] w225 fun t200 w230=>
 K226 [t200] w230) (K226 [undef] w225)) (fun s227 _d228 w229=>
 zb t194 (s227.getD 0 undef) fa_ fun t201=>za (fun K231=>gIf t201 true (lo w229 57 t10 fun t204=>cv (Value.func (.func 109) #[] #[]) #[t204,t181] w229 fun t206 w235=>
 K231 [t206] w235) (K231 [undef] w229)) (fun s232 _d233 w234=>
 zb t201 (s232.getD 0 undef) fa_ fun t207=>K t207 w234)))))) (bt .eql 35 t84 (Value.int .u8 4) fun t209=>zc t209 (lo w131.drew 44 t3 fun t210=>pp (Instr.build 166 #[(0,tr_),(5,tr_),(6,tr_)]) fun t211=>ca zR #[t210,t211] w131.drew fun t212 w236=>
 za (fun K237=>gIf t212 true (K237 [t67] w236) (K237 [undef] w236)) (fun s238 _d239 w240=>
 zb t212 (s238.getD 0 undef) fa_ fun t215=>za (fun K241=>gIf t215 true (fl w240 (s31.getD 1 undef) 115 2 4 fun t218=>K241 [t218] w240) (K241 [undef] w240)) (fun s242 _d243 w244=>
 zb t215 (s242.getD 0 undef) fa_ fun t219=>za (fun K245=>gIf t219 true (fl w244 (s31.getD 0 undef) 115 0 57 fun t223=>cv (Value.func (.func 109) #[] #[]) #[t223,(Value.int .u8 4)] w244 fun t224 w249=>
 K245 [t224] w249) (K245 [undef] w244)) (fun s246 _d247 w248=>
 zb t219 (s246.getD 0 undef) fa_ fun t225=>za (fun K250=>gIf t225 true (pf 115 (s31.getD 0 undef) 0 fun t227=>fl w248 t227 57 1 4 fun t229=>fl w248 t3 44 7 4 fun t231=>bf .eql 4 t229 t231 fun t232=>K250 [t232] w248) (K250 [undef] w248)) (fun s251 _d252 w253=>
 zb t225 (s251.getD 0 undef) fa_ fun t233=>za (fun K254=>gIf t233 true (pf 115 (s31.getD 0 undef) 0 fun t235=>fl w253 t235 57 4 29 fun t237=>xl w253 29 t237 (i6 0) 57 fun t239=>fl w253 (s31.getD 1 undef) 115 0 57 fun t241=>ca xy #[t239,t241] w253 fun t242 w258=>
 K254 [t242] w258) (K254 [undef] w253)) (fun s255 _d256 w257=>
 zb t233 (s255.getD 0 undef) fa_ fun t243=>za (fun K259=>gIf t243 true (fl w257 t3 44 7 4 fun t246=>K259 [t246] w257) (K259 [undef] w257)) (fun s260 _d261 w262=>
 za (fun K263=>gIf (s260.getD 0 undef) true (fl w262 (s31.getD 1 undef) 115 1 3 fun t249=>bt .eql 3 t249 (i6 3) fun t250=>K263 [t250] w262) (K263 [undef] w262)) (fun s264 _d265 w266=>
 za (fun K267=>gIf t243 true (zb (s260.getD 0 undef) (s264.getD 0 undef) fa_ fun t251=>pp (Op.unary .not t251) fun t252=>K267 [t252] w266) (K267 [undef] w266)) (fun s268 _d269 w270=>
 zb t243 (s268.getD 0 undef) fa_ fun t253=>K t253 w270))))))))) (bt .eql 35 t84 (Value.int .u8 5) fun t255=>zc t255 (lo w131.drew 44 t3 fun t256=>pp (Instr.build 166 #[(0,tr_),(1,tr_)]) fun t257=>ca zR #[t256,t257] w131.drew fun t258 w271=>
 za (fun K272=>gIf t258 true (K272 [t67] w271) (K272 [undef] w271)) (fun s273 _d274 w275=>
 zb t258 (s273.getD 0 undef) fa_ fun t261=>za (fun K276=>gIf t261 true (K276 [t74] w275) (K276 [undef] w275)) (fun s277 _d278 w279=>
 zb t261 (s277.getD 0 undef) fa_ fun t264=>za (fun K280=>gIf t264 true (fl w279 (s31.getD 0 undef) 115 0 57 fun t268=>cv (Value.func (.func 109) #[] #[]) #[t268,(Value.int .u8 3)] w279 fun t269 w284=>
 K280 [t269] w284) (K280 [undef] w279)) (fun s281 _d282 w283=>
 zb t264 (s281.getD 0 undef) fa_ fun t270=>za (fun K285=>gIf t270 true (pf 115 (s31.getD 0 undef) 0 fun t272=>fl w283 t272 57 4 29 fun t274=>xl w283 29 t274 (i6 0) 57 fun t276=>lo w283 57 t10 fun t277=>ca xy #[t276,t277] w283 fun t278 w289=>
 K285 [t278] w289) (K285 [undef] w283)) (fun s286 _d287 w288=>
 zb t270 (s286.getD 0 undef) fa_ fun t279=>K t279 w288))))) (bt .eql 35 t84 (Value.int .u8 6) fun t281=>zc t281 (lo w131 44 t3 fun t282=>pp (Instr.build 166 #[(0,tr_),(3,tr_),(8,tr_)]) fun t283=>ca zR #[t282,t283] w131 fun t284 w290=>
 pp (Op.unary .not t284) fun t285=>za (fun K291=>gIf t285 false (pp (Op.unary .not t67) fun t288=>K291 [t288] w290) (K291 [undef] w290)) (fun s292 _d293 w294=>
 zb t285 tr_ (s292.getD 0 undef) fun t289=>za (fun K295=>gIf t289 false (fl w294 (s31.getD 0 undef) 115 0 57 fun t293=>cv (Value.func (.func 109) #[] #[]) #[t293,(Value.int .u8 5)] w294 fun t294 w299=>
 pp (Op.unary .not t294) fun t295=>K295 [t295] w299) (K295 [undef] w294)) (fun s296 _d297 w298=>
 zb t289 tr_ (s296.getD 0 undef) fun t296=>za (fun K300=>gIf t296 false (pf 115 (s31.getD 0 undef) 0 fun t298=>fl w298 t298 57 3 3 fun t300=>fl w298 t3 44 9 3 fun t302=>bf .neq 3 t300 t302 fun t303=>K300 [t303] w298) (K300 [undef] w298)) (fun s301 _d302 w303=>
 zb t296 tr_ (s301.getD 0 undef) fun t304=>zc t304 (K fa_ w303) (pf 117 t2 0 fun t306=>fl w303 t306 25 0 22 fun t308=>fl w303 (s31.getD 0 undef) 115 0 57 fun t310=>ca Zb #[t308,t310] w303 fun t311 w304=>
 pe t311 0 fun t312=>pe t311 1 fun _t313=>cv t82 #[t312] w304 fun t316 w305=>
 K t316 w305))))) (bt .eql 35 t84 (Value.int .u8 7) fun t318=>zc t318 (lo w131 44 t3 fun t319=>pp (Instr.build 166 #[(0,tr_),(3,tr_),(7,tr_)]) fun t320=>ca zR #[t319,t320] w131 fun t321 w306=>
 pp (Op.unary .not t321) fun t322=>za (fun K307=>gIf t322 false (pp (Op.unary .not t67) fun t325=>K307 [t325] w306) (K307 [undef] w306)) (fun s308 _d309 w310=>
 zb t322 tr_ (s308.getD 0 undef) fun t326=>za (fun K311=>gIf t326 false (fl w310 t3 44 8 3 fun t329=>bt .lss 3 t329 (i6 0) fun t330=>K311 [t330] w310) (K311 [undef] w310)) (fun s312 _d313 w314=>
 zb t326 tr_ (s312.getD 0 undef) fun t331=>za (fun K315=>gIf t331 false (fl w314 t3 44 8 3 fun t334=>pf 117 t2 0 fun t335=>fl w314 t335 25 1 23 fun t337=>pp (Builtin.len_ #[23] 3 #[t337]) fun t338=>bf .geq 3 t334 t338 fun t339=>K315 [t339] w314) (K315 [undef] w314)) (fun s316 _d317 w318=>
 zb t331 tr_ (s316.getD 0 undef) fun t340=>zc t340 (K fa_ w318) (pf 117 t2 0 fun t341=>fl w318 t341 25 1 23 fun t343=>fl w318 t3 44 8 3 fun t345=>xl w318 23 t343 t345 33 fun t347=>pw w318 (Instr.alloc 33 true (.tuple #[])) fun t20 w319=>
 so w319 33 t20 t347 fun w320=>fl w320.drew (s31.getD 0 undef) 115 0 57 fun t349=>fl w320.drew t20 33 4 29 fun t351=>xl w320.drew 29 t351 (i6 0) 57 fun t353=>ca xy #[t349,t353] w320.drew fun t354 w321=>
 za (fun K322=>gIf t354 true (fl w321 t20 33 4 29 fun t358=>fl w321 t20 33 3 3 fun t360=>bt .add 3 t360 (i6 1) fun t361=>pp (Instr.sliceAt 29 t358 (some (i6 1)) (some t361) none) fun t362=>cv t82 #[t362] w321 fun t363 w326=>
 K322 [t363] w326) (K322 [undef] w321)) (fun s323 _d324 w325=>
 zb t354 (s323.getD 0 undef) fa_ fun t364=>K t364 w325)))))) (bt .eql 35 t84 (Value.int .u8 8) fun t366=>zc t366 (lo w131 44 t3 fun t367=>pp (Instr.build 166 #[(0,tr_)]) fun t368=>ca zR #[t367,t368] w131 fun t369 w327=>
 za (fun K328=>gIf t369 true (K328 [t67] w327) (K328 [undef] w327)) (fun s329 _d330 w331=>
 zb t369 (s329.getD 0 undef) fa_ fun t372=>za (fun K332=>gIf t372 true (fl w331 (s31.getD 0 undef) 115 0 57 fun t376=>cv (Value.func (.func 109) #[] #[]) #[t376,(Value.int .u8 1)] w331 fun t377 w336=>
 K332 [t377] w336) (K332 [undef] w331)) (fun s333 _d334 w335=>
 zb t372 (s333.getD 0 undef) fa_ fun t378=>K t378 w335))) (bt .eql 35 t84 (Value.int .u8 9) fun t380=>zc t380 (lo w131 44 t3 fun t381=>pp (Instr.build 166 #[(1,tr_)]) fun t382=>ca zR #[t381,t382] w131 fun t383 w337=>
 za (fun K338=>gIf t383 true (K338 [t74] w337) (K338 [undef] w337)) (fun s339 _d340 w341=>
 zb t383 (s339.getD 0 undef) fa_ fun t386=>za (fun K342=>gIf t386 true (lo w341 57 t10 fun t389=>cv (Value.func (.func 109) #[] #[]) #[t389,(Value.int .u8 1)] w341 fun t390 w346=>
 K342 [t390] w346) (K342 [undef] w341)) (fun s343 _d344 w345=>
 zb t386 (s343.getD 0 undef) fa_ fun t391=>K t391 w345))) (bt .eql 35 t84 (Value.int .u8 10) fun t393=>zc t393 (pf 117 t2 0 fun t395=>fl w131 t395 25 0 22 fun t397=>fl w131 (s31.getD 1 undef) 115 0 57 fun t399=>ca ZM #[t397,t399] w131 fun t400 w347=>
 pe t400 0 fun t401=>pe t400 1 fun _t402=>lo w347 44 t3 fun t403=>pp (Instr.build 166 #[(5,tr_)]) fun t404=>ca zR #[t403,t404] w347 fun t405 w348=>
 za (fun K349=>gIf t405 true (fl w348 (s31.getD 1 undef) 115 2 4 fun t408=>K349 [t408] w348) (K349 [undef] w348)) (fun s350 _d351 w352=>
 zb t405 (s350.getD 0 undef) fa_ fun t409=>za (fun K353=>gIf t409 true (K353 [t401] w352) (K353 [undef] w352)) (fun s354 _d355 w356=>
 zb t409 (s354.getD 0 undef) fa_ fun t412=>za (fun K357=>gIf t412 true (fl w356 (s31.getD 1 undef) 115 1 3 fun t415=>bt .lss 3 t415 (i6 2) fun t416=>K357 [t416] w356) (K357 [undef] w356)) (fun s358 _d359 w360=>
 zb t412 (s358.getD 0 undef) fa_ fun t417=>K t417 w360)))) (bt .eql 35 t84 (Value.int .u8 11) fun t419=>zc t419 (lo w131 44 t3 fun t420=>pp (Instr.build 166 #[(5,tr_)]) fun t421=>ca zR #[t420,t421] w131 fun t422 w361=>
 za (fun K362=>gIf t422 true (fl w361 (s31.getD 1 undef) 115 2 4 fun t425=>K362 [t425] w361) (K362 [undef] w361)) (fun s363 _d364 w365=>
 zb t422 (s363.getD 0 undef) fa_ fun t426=>za (fun K366=>gIf t426 true (pf 44 t3 6 fun t428=>fl w365 t428 38 0 3 fun t430=>bt .gtr 3 t430 (i6 0) fun t431=>K366 [t431] w365) (K366 [undef] w365)) (fun s367 _d368 w369=>
 zb t426 (s367.getD 0 undef) fa_ fun t432=>za (fun K370=>gIf t432 true (pf 44 t3 6 fun t434=>fl w369 t434 38 1 36 fun t436=>pp (Builtin.len_ #[36] 3 #[t436]) fun t437=>bt .eql 3 t437 (i6 0) fun t438=>K370 [t438] w369) (K370 [undef] w369)) (fun s371 _d372 w373=>
 zb t432 (s371.getD 0 undef) fa_ fun t439=>K t439 w373)))) (bt .eql 35 t84 (Value.int .u8 12) fun t441=>zc t441 (lo w131 44 t3 fun t442=>pp (Instr.build 166 #[(1,tr_),(9,tr_)]) fun t443=>ca zR #[t442,t443] w131 fun t444 w374=>
 za (fun K375=>gIf t444 true (K375 [t74] w374) (K375 [undef] w374)) (fun s376 _d377 w378=>
 zb t444 (s376.getD 0 undef) fa_ fun t447=>za (fun K379=>gIf t447 true (lo w378 57 t10 fun t450=>cv (Value.func (.func 109) #[] #[]) #[t450,(Value.int .u8 2)] w378 fun t451 w383=>
 K379 [t451] w383) (K379 [undef] w378)) (fun s380 _d381 w382=>
 zb t447 (s380.getD 0 undef) fa_ fun t452=>za (fun K384=>gIf t452 true (fl w382 t3 44 11 3 fun t456=>cv t27 #[t456] w382 fun t457 w388=>
 K384 [t457] w388) (K384 [undef] w382)) (fun s385 _d386 w387=>
 zb t452 (s385.getD 0 undef) fa_ fun t458=>K t458 w387)))) (za (fun K389=>
 bt .eql 35 t84 (Value.int .u8 13) fun t460=>zc t460 (K389 [t460] w131) (bt .eql 35 t84 (Value.int .u8 14) fun t461=>K389 [t461] w131)) (fun s390 _d391 w392=>
 zc (s390.getD 0 undef) (lo w392 44 t3 fun t462=>pp (Instr.build 166 #[]) fun t463=>ca zR #[t462,t463] w392 fun t464 w393=>
 K t464 w393) (K fa_ w392)))))))))))))))))))))))
theorem Qn {t0 t1 : Value} {w : World} {K : VW} (h : vR t0 t1 w K) : zd prog qh #[t0,t1] w K:=
 okC false (.s (.r (rz 3 0 10)) (.s (.r (rz 6 0 2576)) (.s (.r (rz 2 0 0)) (.s (.s (.r (ra 4 0 4 (.grp 31 false (ri 4 4 4) [35] (.grp 35 true (ri 5 8 144) [40] (.grp 31 false (ri 1 13 0) [41] (ra 2 14 0 (.grp 43 false (ri 4 16 4) [47] (.grp 47 true (ri 3 20 4) [50] (.grp 43 false (ri 1 23 0) [51] (rz 1 24 0)))))))))) (.c (.s (.r (rz 1 0 0)) (.n)) (.n))) (.j [7,8] (.r (ra 3 0 17 (ra 3 4 17 (.alt 3 .u (.alt 7 .l (.alt 8 .u (rz 3 9 43) (ra 1 9 3 (ra 1 8 3 (rz 2 10 10)))) (.alt 8 .u (.alt 7 .l (rz 3 9 43) (ra 1 9 3 (ra 1 7 2 (rz 2 10 10)))) (ra 1 9 3 (.alt 7 .l (ra 1 8 3 (rz 2 10 10)) (ra 1 8 3 (ra 1 7 2 (rz 2 10 10))))))) (.alt 8 .u (.alt 3 .u (.alt 7 .l (rz 3 9 43) (ra 1 9 3 (ra 1 7 2 (rz 2 10 10)))) (ra 1 9 3 (ra 1 3 3 (ra 1 7 2 (rz 2 10 10))))) (ra 1 9 3 (.alt 3 .u (.alt 7 .l (ra 1 8 3 (rz 2 10 10)) (ra 1 8 3 (ra 1 7 2 (rz 2 10 10)))) (ra 1 8 3 (ra 1 3 3 (ra 1 7 2 (rz 2 10 10))))))))))) (.s (.r (ra 3 0 4 (.grp 63 true (ri 3 3 4) [66] (rz 2 6 0)))) (.s (.r (rz 10 0 163985)) (.s (.r (rz 10 0 163985)) (.s (.r (rz 1 0 0)) (.s (.r (rz 2 0 0)) (.s (.s (.r (rz 2 0 4)) (.b (.s (.r (rz 2 0 0)) (.c (.s (.r (ra 4 0 33 (.grp 90 true (ri 1 4 0) [91] (ra 2 5 0 (.grp 93 true (ri 1 7 0) [94] (ra 2 8 0 (.grp 96 true (ri 4 10 145) [100] (rz 2 14 0)))))))) (.n)) (.s (.r (rz 2 0 0)) (.c (.s (.s (.r (ra 5 0 33 (.grp 108 false (ri 2 5 0) [110] (ra 2 7 0 (.grp 112 false (ri 2 9 0) [114] (ra 2 11 0 (.grp 116 false (ri 2 13 0) [118] (rz 1 15 0)))))))) (.c (.s (.r (rz 1 0 0)) (.n)) (.n))) (.s (.r (ra 4 0 36 (.grp 123 true (ri 3 4 36) [126] (rz 2 7 0)))) (.s (.s (.r (rz 2 0 4)) (.b (.j [130] (.s (.r (rz 2 0 0)) (.c (.n) (.s (.r (rz 2 0 0)) (.c (.n) (.s (.r (rz 2 0 0)) (.c (.n) (.s (.r (rz 2 0 0)) (.c (.n) (.r (rz 2 0 0)))))))))) (.c (.s (.r (ra 5 0 144 (.grp 140 true (ri 1 5 0) [141] (rz 2 6 0)))) (.n)) (.j [143] (.s (.r (rz 2 0 0)) (.c (.n) (.s (.r (rz 2 0 0)) (.c (.n) (.s (.r (rz 2 0 0)) (.c (.n) (.r (rz 2 0 0)))))))) (.c (.s (.r (ra 5 0 144 (.grp 152 true (ri 1 5 0) [153] (rz 2 6 0)))) (.n)) (.j [155] (.s (.r (rz 2 0 0)) (.c (.n) (.r (rz 2 0 0)))) (.c (.s (.r (ra 5 0 144 (.grp 162 true (ri 2 5 0) [164] (.grp 164 false (ri 4 7 36) [168] (.grp 168 true (ri 3 11 36) [171] (.grp 164 false (ri 1 14 0) [172] (.grp 162 true (ri 1 15 0) [173] (rz 2 16 0)))))))) (.n)) (.n))))))))) (.s (.r (rz 1 0 0)) (.n))))) (.s (.r (rz 2 0 0)) (.c (.s (.r (rz 8 0 5162)) (.s (.r (ra 4 0 33 (.grp 185 true (ri 1 4 0) [186] (ra 2 5 0 (.grp 188 true (ri 1 7 0) [189] (ra 2 8 0 (.grp 191 true (ri 2 10 0) [193] (ra 2 12 0 (.grp 195 true (ri 5 14 528) [200] (ra 2 19 0 (.grp 202 true (ri 4 21 132) [206] (rz 2 25 0)))))))))))) (.n))) (.s (.r (rz 2 0 0)) (.c (.s (.r (ra 4 0 33 (.grp 213 true (ri 1 4 0) [214] (ra 2 5 0 (.grp 216 true (ri 2 7 4) [218] (ra 2 9 0 (.grp 220 true (ri 4 11 144) [224] (ra 2 15 0 (.grp 226 true (ri 6 17 272) [232] (ra 2 23 0 (.grp 234 true (ri 8 25 37136) [242] (ra 2 33 0 (.grp 244 true (ri 3 35 4) [247] (.grp 247 true (ri 3 38 4) [250] (.grp 244 true (ri 2 41 0) [252] (rz 2 43 0)))))))))))))))) (.n)) (.s (.r (rz 2 0 0)) (.c (.s (.r (ra 4 0 33 (.grp 259 true (ri 1 4 0) [260] (ra 2 5 0 (.grp 262 true (ri 1 7 0) [263] (ra 2 8 0 (.grp 265 true (ri 4 10 144) [269] (ra 2 14 0 (.grp 271 true (ri 7 16 9488) [278] (rz 2 23 0)))))))))) (.n)) (.s (.r (rz 2 0 0)) (.c (.s (.s (.r (ra 5 0 33 (.grp 286 false (ri 2 5 0) [288] (ra 2 7 0 (.grp 290 false (ri 5 9 144) [295] (ra 2 14 0 (.grp 297 false (ri 6 16 272) [303] (rz 1 22 0)))))))) (.c (.s (.r (rz 1 0 0)) (.n)) (.n))) (.s (.r (rz 11 0 2320)) (.s (.r (rz 4 0 32)) (.n)))) (.s (.r (rz 2 0 0)) (.c (.s (.s (.r (ra 5 0 33 (.grp 323 false (ri 2 5 0) [325] (ra 2 7 0 (.grp 327 false (ri 3 9 4) [330] (ra 2 12 0 (.grp 332 false (ri 7 14 260) [339] (rz 1 21 0)))))))) (.c (.s (.r (rz 1 0 0)) (.n)) (.n))) (.s (.r (rz 9 0 168208)) (.s (.r (ra 8 0 9284 (.grp 355 true (ri 8 8 33040) [363] (rz 2 16 0)))) (.n)))) (.s (.r (rz 2 0 0)) (.c (.s (.r (ra 4 0 33 (.grp 370 true (ri 1 4 0) [371] (ra 2 5 0 (.grp 373 true (ri 4 7 144) [377] (rz 2 11 0)))))) (.n)) (.s (.r (rz 2 0 0)) (.c (.s (.r (ra 4 0 33 (.grp 384 true (ri 1 4 0) [385] (ra 2 5 0 (.grp 387 true (ri 3 7 36) [390] (rz 2 10 0)))))) (.n)) (.s (.r (rz 2 0 0)) (.c (.s (.r (rz 11 0 2320)) (.s (.r (ra 4 0 33 (.grp 406 true (ri 2 4 4) [408] (ra 2 6 0 (.grp 410 true (ri 1 8 0) [411] (ra 2 9 0 (.grp 413 true (ri 3 11 4) [416] (rz 2 14 0)))))))) (.n))) (.s (.r (rz 2 0 0)) (.c (.s (.r (ra 4 0 33 (.grp 423 true (ri 2 4 4) [425] (ra 2 6 0 (.grp 427 true (ri 4 8 16) [431] (ra 2 12 0 (.grp 433 true (ri 5 14 16) [438] (rz 2 19 0)))))))) (.n)) (.s (.r (rz 2 0 0)) (.c (.s (.r (ra 4 0 33 (.grp 445 true (ri 1 4 0) [446] (ra 2 5 0 (.grp 448 true (ri 3 7 36) [451] (ra 2 10 0 (.grp 453 true (ri 4 12 144) [457] (rz 2 16 0)))))))) (.n)) (.j [459] (.s (.r (rz 2 0 0)) (.c (.n) (.r (rz 2 0 0)))) (.c (.s (.r (rz 4 0 33)) (.n)) (.n))))))))))))))))))))))))))))) (.s (.r (rz 1 0 0)) (.n))))))))))))) func76 rfl (by kernel_rfl) (by kernel_rfl) h
def XT (t0 t1 t2 : Value) (w : World) (K : VW) : Prop:=
 lo w 3 t1 fun t6=>bf .lss 3 t0 t6 fun t7=>za (fun K1=>gIf t7 false (fl w t2 33 1 3 fun t11=>bf .geq 3 t0 t11 fun t12=>K1 [t12] w) (K1 [undef] w)) (fun s2 _d3 w4=>
 zb t7 tr_ (s2.getD 0 undef) fun t13=>K t13 w4)
theorem aaJ {t0 t1 t2 : Value} {w : World} {K : VW} (h : XT t0 t1 t2 w K) : zd prog abH #[t0,t1,t2] w K:=
 okC false (.s (.r (rz 1 0 0)) (.s (.r (ra 4 0 4 (.grp 8 false (ri 4 4 16) [12] (rz 2 8 0)))) (.n))) func105 rfl (by kernel_rfl) (by kernel_rfl) h
def YI (t0 : Value) (w : World) (K : VW) : Prop:=
 pw w (Instr.box 33 t0) fun t1 w1=>
 pw w1 (Instr.alloc 208 true (.tuple #[])) fun t3 w2=>
 pw w2 (Instr.alloc 208 true (.tuple #[])) fun t4 w3=>
 fl w3 t1 33 4 29 fun t12=>fl w3 t1 33 3 3 fun t14=>bt .add 3 t14 (i6 1) fun t15=>pp (Instr.sliceAt 29 t12 none (some t15) none) fun t16=>ca vh #[t16,t3] w3 fun _t17 w4=>
 fl w4 t1 33 2 28 fun t19=>pp (Builtin.len_ #[28] 3 #[t19]) fun t20=>zn [(i6 0)] w4 (fun s6 _d7 w8 K5=>
 bf .lss 3 (s6.getD 0 undef) t20 fun t22=>zc t22 (xl w8 28 t19 (s6.getD 0 undef) 101 fun t25=>pw w8 (Instr.alloc 101 true (.tuple #[])) fun t6 w9=>
 so w9 101 t6 t25 fun w10=>fl w10 t6 101 0 3 fun t27=>fl w10 t6 101 1 3 fun t29=>pp (Builtin.min_ #[3,3] 3 #[t27,t29]) fun t30=>bt .lss 3 t30 (i6 0) fun t31=>za (fun K11=>gIf t31 false (fl w10 t6 101 0 3 fun t34=>fl w10 t6 101 1 3 fun t36=>pp (Builtin.max_ #[3,3] 3 #[t34,t36]) fun t37=>fl w10 t1 33 1 3 fun t39=>bf .geq 3 t37 t39 fun t40=>K11 [t40] w10) (K11 [undef] w10)) (fun s12 _d13 w14=>
 zb t31 tr_ (s12.getD 0 undef) fun t41=>za (fun K15=>gIf t41 false (fl w14 t6 101 0 3 fun t44=>fl w14 t6 101 1 3 fun t46=>bf .eql 3 t44 t46 fun t47=>K15 [t47] w14) (K15 [undef] w14)) (fun s16 _d17 w18=>
 zb t41 tr_ (s16.getD 0 undef) fun t48=>zc t48 (K fa_ w18) (za (fun K19=>
 bt .gtr 3 (s6.getD 0 undef) (i6 0) fun t50=>zc t50 (fl w18 t1 33 2 28 fun t52=>bt .sub 3 (s6.getD 0 undef) (i6 1) fun t54=>xl w18 28 t52 t54 101 fun t56=>pw w18 (Instr.alloc 101 true (.tuple #[])) fun t7 w23=>
 so w23 101 t7 t56 fun w24=>fl w24 t7 101 0 3 fun t58=>fl w24 t6 101 0 3 fun t60=>bf .gtr 3 t58 t60 fun t61=>za (fun K25=>gIf t61 false (fl w24 t7 101 0 3 fun t64=>fl w24 t6 101 0 3 fun t66=>bf .eql 3 t64 t66 fun t67=>K25 [t67] w24) (K25 [undef] w24)) (fun s26 _d27 w28=>
 za (fun K29=>gIf (s26.getD 0 undef) true (fl w28 t7 101 1 3 fun t70=>fl w28 t6 101 1 3 fun t72=>bf .geq 3 t70 t72 fun t73=>K29 [t73] w28) (K29 [undef] w28)) (fun s30 _d31 w32=>
 za (fun K33=>gIf t61 false (zb (s26.getD 0 undef) (s30.getD 0 undef) fa_ fun t74=>K33 [t74] w32) (K33 [undef] w32)) (fun s34 _d35 w36=>
 zb t61 tr_ (s34.getD 0 undef) fun t75=>zc t75 (K fa_ w36) (K19 [] w36))))) (K19 [] w18)) (fun _s20 _d21 w22=>
 fl w22.drew t6 101 0 3 fun t77=>fl w22.drew t6 101 1 3 fun t79=>px 208 t4 t77 fun t80=>px 207 t80 t79 fun t81=>so w22.drew 4 t81 tr_ fun w37=>bt .add 3 (s6.getD 0 undef) (i6 1) fun t82=>K5 [t82] w37))))) (fl w8 t1 33 1 3 fun t84=>zn [(i6 0)] w8 (fun s39 _d40 w41 K38=>
 bf .lss 3 (s39.getD 0 undef) t84 fun t86=>zc t86 (fl w41 t1 33 1 3 fun t89=>zn [(i6 0)] w41 (fun s43 _d44 w45 K42=>
 bf .lss 3 (s43.getD 0 undef) t89 fun t91=>zc t91 (fl w45 t1 33 1 3 fun t94=>zn [(i6 0)] w45 (fun s47 _d48 w49 K46=>
 bf .lss 3 (s47.getD 0 undef) t94 fun t96=>zc t96 (px 208 t4 (s39.getD 0 undef) fun t100=>xl w49 207 t100 (s43.getD 0 undef) 4 fun t102=>za (fun K50=>gIf t102 true (px 208 t4 (s43.getD 0 undef) fun t106=>xl w49 207 t106 (s47.getD 0 undef) 4 fun t108=>K50 [t108] w49) (K50 [undef] w49)) (fun s51 _d52 w53=>
 zb t102 (s51.getD 0 undef) fa_ fun t109=>za (fun K54=>gIf t109 true (bf .neq 3 (s39.getD 0 undef) (s47.getD 0 undef) fun t113=>K54 [t113] w53) (K54 [undef] w53)) (fun s55 _d56 w57=>
 zb t109 (s55.getD 0 undef) fa_ fun t114=>za (fun K58=>gIf t114 true (px 208 t4 (s39.getD 0 undef) fun t118=>xl w57 207 t118 (s47.getD 0 undef) 4 fun t120=>pp (Op.unary .not t120) fun t121=>K58 [t121] w57) (K58 [undef] w57)) (fun s59 _d60 w61=>
 zb t114 (s59.getD 0 undef) fa_ fun t122=>zc t122 (K fa_ w61) (bt .add 3 (s47.getD 0 undef) (i6 1) fun t123=>K46 [t123] w61))))) (bf .neq 3 (s39.getD 0 undef) (s43.getD 0 undef) fun t126=>za (fun K62=>gIf t126 true (px 208 t3 (s39.getD 0 undef) fun t130=>xl w49 207 t130 (s43.getD 0 undef) 4 fun t132=>K62 [t132] w49) (K62 [undef] w49)) (fun s63 _d64 w65=>
 zb t126 (s63.getD 0 undef) fa_ fun t133=>za (fun K66=>gIf t133 true (px 208 t4 (s39.getD 0 undef) fun t137=>xl w65 207 t137 (s43.getD 0 undef) 4 fun t139=>pp (Op.unary .not t139) fun t140=>K66 [t140] w65) (K66 [undef] w65)) (fun s67 _d68 w69=>
 zb t133 (s67.getD 0 undef) fa_ fun t141=>zc t141 (K fa_ w69) (bt .add 3 (s43.getD 0 undef) (i6 1) fun t142=>K42 [t142] w69)))))) (bt .add 3 (s39.getD 0 undef) (i6 1) fun t143=>K38 [t143] w45))) (K tr_ w41))))
theorem Vp {t0 : Value} {w : World} {K : VW} (h : YI t0 w K) : zd prog jH #[t0] w K:=
 okC false (.s (.r (rz 2 0 2)) (.s (.r (rz 2 0 10)) (.s (.r (rz 7 0 8260)) (.s (.s (.r (rz 4 0 4)) (.b (.lp [21] (.s (.r (rz 1 0 0)) (.s (.c (.n) (.n)) (.s (.b (.s (.r (rz 6 0 2192)) (.s (.s (.r (ra 7 0 68 (.grp 32 false (ri 8 7 4164) [40] (ra 2 15 0 (.grp 42 false (ri 5 17 68) [47] (rz 1 22 0)))))) (.c (.s (.r (rz 1 0 0)) (.n)) (.n))) (.j [] (.s (.r (rz 2 0 0)) (.c (.s (.r (rz 8 0 41988)) (.s (.r (ra 6 0 68 (.grp 62 false (ri 6 6 68) [68] (.grp 68 true (ri 5 12 68) [73] (.grp 62 false (ri 1 17 0) [74] (rz 1 18 0)))))) (.c (.s (.r (rz 1 0 0)) (.n)) (.n)))) (.n))) (.r (rz 7 0 8260)))))) (.r (rz 2 0 0)))))))) (.s (.s (.r (rz 3 0 4)) (.b (.lp [85] (.s (.r (rz 1 0 0)) (.s (.c (.n) (.n)) (.s (.b (.s (.r (rz 2 0 0)) (.s (.r (rz 3 0 4)) (.b (.lp [90] (.s (.r (rz 1 0 0)) (.s (.c (.n) (.n)) (.s (.b (.s (.r (rz 2 0 0)) (.s (.s (.r (rz 3 0 4)) (.b (.lp [95] (.s (.r (rz 1 0 0)) (.s (.c (.n) (.n)) (.s (.b (.s (.r (rz 2 0 0)) (.s (.r (ra 6 0 256 (.grp 103 true (ri 5 6 256) [108] (ra 2 11 0 (.grp 110 true (ri 3 13 0) [113] (ra 2 16 0 (.grp 115 true (ri 6 18 256) [121] (rz 1 24 0)))))))) (.c (.s (.r (rz 1 0 0)) (.n)) (.n))))) (.r (rz 2 0 0)))))))) (.s (.r (ra 4 0 0 (.grp 127 true (ri 5 4 256) [132] (ra 2 9 0 (.grp 134 true (ri 6 11 256) [140] (rz 1 17 0)))))) (.c (.s (.r (rz 1 0 0)) (.n)) (.n)))))) (.r (rz 2 0 0)))))))))) (.r (rz 2 0 0)))))))) (.s (.r (rz 1 0 0)) (.n))))))) func106 rfl (by kernel_rfl) (by kernel_rfl) h
def jX (t0 t1 : Value) (w : World) (K : VW) : Prop:=
 bt .geq 3 t0 (i6 0) fun t5=>za (fun K1=>gIf t5 true (lo w 3 t1 fun t8=>bf .lss 3 t0 t8 fun t9=>K1 [t9] w) (K1 [undef] w)) (fun s2 _d3 w4=>
 zb t5 (s2.getD 0 undef) fa_ fun t10=>K t10 w4)
theorem XC {t0 t1 : Value} {w : World} {K : VW} (h : jX t0 t1 w K) : zd prog jU #[t0,t1] w K:=
 okC false (.s (.r (rz 1 0 0)) (.s (.r (ra 3 0 0 (.grp 6 true (ri 3 3 4) [9] (rz 2 6 0)))) (.n))) func107 rfl (by kernel_rfl) (by kernel_rfl) h
def jY (t0 t1 : Value) (w : World) (K : VW) : Prop:=
 pw w (Instr.box 117 t0) fun t2 w1=>
 pw w1 (Instr.box 41 t1) fun t3 w2=>
 pw w2 (Instr.alloc 57 true (.tuple #[])) fun t4 w3=>
 fl w3 t3 41 0 39 fun t9=>bt .eql 39 t9 (Value.int .u8 1) fun t11=>zc t11 (pp (Instr.build 57 #[(0,(Value.int .u8 1))]) fun t12=>fl w3 t3 41 2 38 fun t14=>ca xI #[t14] w3 fun t15 w4=>
 so w4 57 t4 t12 fun w5=>pq w5 (zt 57 t4) fun r6=>K (.tuple #[r6,t15]) w5) (bt .eql 39 t9 (Value.int .u8 2) fun t17=>zc t17 (pp (Instr.build 57 #[(0,(Value.int .u8 2))]) fun t18=>fl w3.drew t3 41 2 38 fun t20=>ca xI #[t20] w3.drew fun t21 w7=>
 za (fun K8=>gIf t21 true (fl w7 t3 41 1 2 fun t24=>bt .eql 2 t24 (i6 0) fun t25=>K8 [t25] w7) (K8 [undef] w7)) (fun s9 _d10 w11=>
 za (fun K12=>gIf (s9.getD 0 undef) false (pf 41 t3 1 fun t27=>K12 [t27] w11) (K12 [undef] w11)) (fun s13 _d14 w15=>
 ((za (fun K16=>gIf (s9.getD 0 undef) false (pw w15 (Instr.loadAt 2 (s13.getD 0 undef)) fun t28 w20=>
 bt .eql 2 t28 (i6 1) fun t29=>K16 [t29] w20) (K16 [undef] w15)) (fun s17 _d18 w19=>
 za (fun K21=>gIf t21 true (zb (s9.getD 0 undef) tr_ (s17.getD 0 undef) fun t30=>K21 [t30] w19) (K21 [undef] w19)) (fun s22 _d23 w24=>
 zb t21 (s22.getD 0 undef) fa_ fun t31=>so w24 57 t4 t18 fun w25=>pq w25 (zt 57 t4) fun r26=>K (.tuple #[r26,t31]) w25)))∧
 (so w15 57 t4 t18 fun w27=>za (fun K28=>gIf (s9.getD 0 undef) false (pw w27 (Instr.loadAt 2 (s13.getD 0 undef)) fun t28_33 w32=>
 bt .eql 2 t28_33 (i6 1) fun t29_34=>K28 [t29_34] w32) (K28 [undef] w27)) (fun s29 _d30 w31=>
 za (fun K35=>gIf t21 true (zb (s9.getD 0 undef) tr_ (s29.getD 0 undef) fun t30_39=>K35 [t30_39] w31) (K35 [undef] w31)) (fun s36 _d37 w38=>
 zb t21 (s36.getD 0 undef) fa_ fun t31_40=>pq w38 (zt 57 t4) fun r41=>K (.tuple #[r41,t31_40]) w38))))))) (lo w3 117 t2 fun t32=>fl w3 t3 41 2 38 fun t34=>ca zs #[t32,t34] w3 fun t35 w42=>
 pw w42 (Instr.alloc 115 true (.tuple #[])) fun t6 w43=>
 so w43 115 t6 t35 fun w44=>fl w44 t6 115 2 4 fun t37=>za (fun K45=>gIf t37 true (fl w44 t3 41 1 2 fun t40=>bt .eql 2 t40 (i6 0) fun t41=>K45 [t41] w44) (K45 [undef] w44)) (fun s46 _d47 w48=>
 zb t37 (s46.getD 0 undef) fa_ fun t42=>fl w48 t3 41 0 39 fun t44=>bt .eql 39 t44 (Value.int .u8 3) fun t46=>zc t46 (fl w48.drew t6 115 0 57 fun t48=>za (fun K49=>gIf t42 true (fl w48.drew t6 115 0 57 fun t52=>ca qW #[t52] w48.drew fun t53 w53=>
 Ext w48.drew w53∧
 K49 [t53] w53) (K49 [undef] w48.drew)) (fun s50 _d51 w52=>
 zb t42 (s50.getD 0 undef) fa_ fun t54=>so w52 57 t4 t48 fun w54=>pq w54 (zt 57 t4) fun r55=>K (.tuple #[r55,t54]) w54)) (bt .eql 39 t44 (Value.int .u8 4) fun t56=>zc t56 (fl w48.drew t6 115 0 57 fun t58=>za (fun K56=>gIf t42 true (fl w48.drew t6 115 0 57 fun t62=>ca qW #[t62] w48.drew fun t63 w60=>
 Ext w48.drew w60∧
 pp (Op.unary .not t63) fun t64=>K56 [t64] w60) (K56 [undef] w48.drew)) (fun s57 _d58 w59=>
 zb t42 (s57.getD 0 undef) fa_ fun t65=>za (fun K61=>gIf t65 true (pf 115 t6 1 fun t67=>K61 [t67] w59) (K61 [undef] w59)) (fun s62 _d63 w64=>
 ((za (fun K65=>gIf t65 true (pw w64 (Instr.loadAt 3 (s62.getD 0 undef)) fun t68 w69=>
 Ext w64 w69∧
 bt .lss 3 t68 (i6 2) fun t69=>K65 [t69] w69) (K65 [undef] w64)) (fun s66 _d67 w68=>
 zb t65 (s66.getD 0 undef) fa_ fun t70=>so w68 57 t4 t58 fun w70=>pq w70 (zt 57 t4) fun r71=>K (.tuple #[r71,t70]) w70))∧
 (so w64 57 t4 t58 fun w72=>za (fun K73=>gIf t65 true (pw w72 (Instr.loadAt 3 (s62.getD 0 undef)) fun t68_78 w77=>
 Ext w72 w77∧
 bt .lss 3 t68_78 (i6 2) fun t69_79=>K73 [t69_79] w77) (K73 [undef] w72)) (fun s74 _d75 w76=>
 zb t65 (s74.getD 0 undef) fa_ fun t70_80=>pq w76 (zt 57 t4) fun r81=>K (.tuple #[r81,t70_80]) w76)))))) (pp (Instr.build 57 #[]) fun t71=>so w48 57 t4 t71 fun w82=>pq w82 (zt 57 t4) fun r83=>K (.tuple #[r83,fa_]) w82)))))
theorem XD {t0 t1 : Value} {w : World} {K : VW} (h : jY t0 t1 w K) : zd prog yL #[t0,t1] w K:=
 okC false (.s (.r (rz 4 0 42)) (.s (.s (.r (rz 2 0 4)) (.b (.s (.r (rz 2 0 0)) (.c (.s (.r (rz 6 0 656)) (.n)) (.s (.r (rz 2 0 0)) (.c (.s (.r (ra 5 0 144 (.grp 22 true (ri 4 5 4) [26] (.grp 26 false (ri 1 9 0) [27] (.bth (.grp 26 false (ri 2 10 2) [29] (.grp 22 true (ri 1 12 0) [30] (rz 3 13 8))) (ra 1 14 2 (.grp 26 false (ri 2 10 2) [29] (.grp 22 true (ri 1 12 0) [30] (ra 1 13 0 (rz 1 15 0)))))))))) (.n)) (.n))))))) (.s (.r (rz 6 0 2705)) (.s (.r (ra 3 0 4 (.grp 38 true (ri 3 3 4) [41] (rz 2 6 0)))) (.s (.s (.r (rz 2 0 4)) (.b (.s (.r (rz 2 0 0)) (.c (.s (.r (ra 4 0 4 (.grp 50 true (ri 3 4 52) [53] (rz 3 7 8)))) (.n)) (.s (.r (rz 2 0 0)) (.c (.s (.r (ra 4 0 4 (.grp 60 true (ri 4 4 52) [64] (ra 2 8 0 (.grp 66 true (ri 1 10 0) [67] (.bth (.grp 66 true (ri 2 11 3) [69] (rz 3 13 8)) (ra 1 14 2 (.grp 66 true (ri 2 11 3) [69] (ra 1 13 0 (rz 1 15 0)))))))))) (.n)) (.n))))))) (.s (.r (rz 3 0 8)) (.n))))))) func108 rfl (by kernel_rfl) (by kernel_rfl) h
def jZ (t0 t1 : Value) (w : World) (K : VW) : Prop:=
 pw w (Instr.box 57 t0) fun t2 w1=>
 fl w1 t2 57 0 55 fun t6=>bf .eql 55 t6 t1 fun t8=>K t8 w1
theorem XE {t0 t1 : Value} {w : World} {K : VW} (h : jZ t0 t1 w K) : zd prog jV #[t0,t1] w K:=
 okC false (.s (.r (rz 2 0 2)) (.s (.r (rz 5 0 4)) (.n))) func109 rfl (by kernel_rfl) (by kernel_rfl) h
def j0 (t0 t1 t2 : Value) (w : World) (K : VW) : Prop:=
 fl w t1 44 4 42 fun t6=>pp (Instr.makeFunc (.func 112) #[] #[t2]) fun t8=>ca zU #[t6,t0,t8] w fun t9 w1=>
 K t9 w1
theorem XF {t0 t1 t2 : Value} {w : World} {K : VW} (h : j0 t0 t1 t2 w K) : zd prog jW #[t0,t1,t2] w K:=
 okC false (.s (.r (rz 1 0 0)) (.s (.r (rz 6 0 516)) (.n))) func110 rfl (by kernel_rfl) (by kernel_rfl) h
def jh (t0 t1 t2 : Value) (w : World) (K : VW) : Prop:=
 pw w (Instr.box 41 t0) fun t3 w1=>
 pw w1 (Instr.box 57 t1) fun t4 w2=>
 lo w2 117 t2 fun t9=>lo w2 41 t3 fun t10=>ca yL #[t9,t10] w2 fun t11 w3=>
 pe t11 0 fun t12=>pe t11 1 fun t13=>pw w3 (Instr.alloc 57 true (.tuple #[])) fun t6 w4=>
 so w4 57 t6 t12 fun w5=>za (fun K6=>gIf t13 true (lo w5 57 t6 fun t16=>lo w5 57 t4 fun t17=>ca xy #[t16,t17] w5 fun t18 w10=>
 K6 [t18] w10) (K6 [undef] w5)) (fun s7 _d8 w9=>
 zb t13 (s7.getD 0 undef) fa_ fun t19=>K t19 w9)
theorem YJ {t0 t1 t2 : Value} {w : World} {K : VW} (h : jh t0 t1 t2 w K) : zd prog jg #[t0,t1,t2] w K:=
 okC false (.s (.r (rz 3 0 10)) (.s (.r (rz 9 0 40997)) (.s (.r (ra 2 0 0 (.grp 15 true (ri 3 2 37) [18] (rz 2 5 0)))) (.n)))) func112 rfl (by kernel_rfl) (by kernel_rfl) h
def Jj (t0 t1 : Value) (w : World) (K : VW) : Prop:=
 pw w (Instr.box 44 t0) fun t2 w1=>
 pw w1 (Instr.box 166 t1) fun t3 w2=>
 fl w2.drew t3 166 0 4 fun t8=>fl w2.drew t3 166 1 4 fun t15=>fl w2.drew t3 166 2 4 fun t23=>fl w2.drew t3 166 3 4 fun t31=>fl w2.drew t3 166 4 4 fun t39=>fl w2.drew t3 166 5 4 fun t46=>fl w2.drew t3 166 6 4 fun t53=>fl w2.drew t3 166 7 4 fun t60=>fl w2.drew t3 166 8 4 fun t67=>fl w2.drew t3 166 9 4 fun t74=>za (fun K3=>gIf t8 false (fl w2.drew t2 44 1 38 fun t11=>ca xI #[t11] w2.drew fun t12 w7=>
 Ext w2.drew w7∧
 K3 [t12] w7) (K3 [undef] w2.drew)) (fun s4 _d5 w6=>
 zb t8 tr_ (s4.getD 0 undef) fun t13=>za (fun K8=>gIf t15 false (fl w6 t2 44 2 41 fun t19=>cv (Value.func (.func 146) #[] #[]) #[t19] w6 fun t20 w12=>
 Ext w6 w12∧
 K8 [t20] w12) (K8 [undef] w6)) (fun s9 _d10 w11=>
 zb t15 tr_ (s9.getD 0 undef) fun t21=>za (fun K13=>gIf t23 false (fl w11 t2 44 3 41 fun t27=>cv (Value.func (.func 146) #[] #[]) #[t27] w11 fun t28 w17=>
 Ext w11 w17∧
 K13 [t28] w17) (K13 [undef] w11)) (fun s14 _d15 w16=>
 zb t23 tr_ (s14.getD 0 undef) fun t29=>za (fun K18=>gIf t31 false (fl w16 t2 44 4 42 fun t34=>pp (Builtin.len_ #[42] 3 #[t34]) fun t35=>bt .eql 3 t35 (i6 0) fun t36=>K18 [t36] w16) (K18 [undef] w16)) (fun s19 _d20 w21=>
 zb t31 tr_ (s19.getD 0 undef) fun t37=>za (fun K22=>gIf t39 false (fl w21 t2 44 5 9 fun t42=>bt .eql 9 t42 (Value.string { data:=#[] }) fun t43=>K22 [t43] w21) (K22 [undef] w21)) (fun s23 _d24 w25=>
 zb t39 tr_ (s23.getD 0 undef) fun t44=>za (fun K26=>gIf t46 false (fl w25 t2 44 6 38 fun t49=>ca xI #[t49] w25 fun t50 w30=>
 Ext w25 w30∧
 K26 [t50] w30) (K26 [undef] w25)) (fun s27 _d28 w29=>
 zb t46 tr_ (s27.getD 0 undef) fun t51=>za (fun K31=>gIf t53 false (fl w29 t2 44 7 4 fun t56=>pp (Op.unary .not t56) fun t57=>K31 [t57] w29) (K31 [undef] w29)) (fun s32 _d33 w34=>
 zb t53 tr_ (s32.getD 0 undef) fun t58=>za (fun K35=>gIf t60 false (fl w34 t2 44 8 3 fun t63=>bt .eql 3 t63 (i6 0) fun t64=>K35 [t64] w34) (K35 [undef] w34)) (fun s36 _d37 w38=>
 zb t60 tr_ (s36.getD 0 undef) fun t65=>za (fun K39=>gIf t67 false (fl w38 t2 44 9 3 fun t70=>bt .eql 3 t70 (i6 0) fun t71=>K39 [t71] w38) (K39 [undef] w38)) (fun s40 _d41 w42=>
 zb t67 tr_ (s40.getD 0 undef) fun t72=>za (fun K43=>gIf t74 false (fl w42 t2 44 11 3 fun t77=>bt .eql 3 t77 (i6 0) fun t78=>K43 [t78] w42) (K43 [undef] w42)) (fun s44 _d45 w46=>
 zb t74 tr_ (s44.getD 0 undef) fun t79=>pw w46 (Instr.buildSlice 212 10 #[(0,t13),(1,t21),(2,t29),(3,t37),(4,t44),(5,t51),(6,t58),(7,t65),(8,t72),(9,t79)]) fun t80 w47=>
 ca xr #[t80,fa_] w47 fun t82 w48=>
 pp (Op.unary .not t82) fun t83=>K t83 w48))))))))))
theorem acK {t0 t1 : Value} {w : World} {K : VW} (h : Jj t0 t1 w K) : zd prog zR #[t0,t1] w K:=
 okC false (.s (.r (rz 3 0 10)) (.s (.r (rz 1 0 0)) (.s (.r (ra 3 0 4 (ra 2 7 4 (ra 2 15 4 (ra 2 23 4 (ra 2 31 4 (ra 2 38 4 (ra 2 45 4 (ra 2 52 4 (ra 2 59 4 (ra 2 66 4 (.grp 9 false (ri 3 3 52) [12] (ra 1 6 0 (ra 1 9 0 (.grp 16 false (ri 4 10 208) [20] (ra 1 14 0 (ra 1 17 0 (.grp 24 false (ri 4 18 208) [28] (ra 1 22 0 (ra 1 25 0 (ra 1 33 0 (ra 1 40 0 (.grp 32 false (ri 4 26 4) [36] (ra 1 30 0 (.grp 40 false (ri 3 34 4) [43] (ra 1 37 0 (.grp 47 false (ri 3 41 52) [50] (ra 1 44 0 (ra 1 47 0 (ra 1 54 0 (ra 1 61 0 (ra 1 68 0 (.grp 54 false (ri 3 48 4) [57] (ra 1 51 0 (.grp 61 false (ri 3 55 4) [64] (ra 1 58 0 (.grp 68 false (ri 3 62 4) [71] (ra 1 65 0 (.grp 75 false (ri 3 69 4) [78] (rz 3 72 8)))))))))))))))))))))))))))))))))))))))) (.s (.r (rz 4 0 8)) (.n))))) func113 rfl (by kernel_rfl) (by kernel_rfl) h
def Xe (t0 t1 : Value) (w : World) (K : VW) : Prop:=
 pw w (Instr.box 210 t1) fun t3 w1=>
 pw w1 (Instr.alloc 126 true (.tuple #[])) fun t4 w2=>
 pp (Instr.makeFunc (.func 181) #[] #[t3,t4]) fun t7=>so w2 126 t4 t7 fun w3=>pp (Builtin.len_ #[29] 3 #[t0]) fun t9=>zn [(i6 0)] w3 (fun s5 _d6 w7 K4=>
 bf .lss 3 (s5.getD 0 undef) t9 fun t11=>zc t11 (xl w7 29 t0 (s5.getD 0 undef) 57 fun t13=>pw w7 (Instr.alloc 57 true (.tuple #[])) fun t6 w8=>
 so w8 57 t6 t13 fun w9=>lo w9.drew 126 t4 fun t14=>lo w9.drew 57 t6 fun t15=>ca qy #[t15] w9.drew fun t16 w10=>
 Ext w9.drew w10∧
 cv t14 #[t16] w10 fun _t17 w11=>
 bt .add 3 (s5.getD 0 undef) (i6 1) fun t18=>K4 [t18] w11) (K (.tuple #[]) w7))
theorem V1 {t0 t1 : Value} {w : World} {K : VW} (h : Xe t0 t1 w K) : zd prog vh #[t0,t1] w K:=
 okC false (.s (.r (rz 1 0 2)) (.s (.r (rz 1 0 2)) (.s (.r (rz 2 0 8)) (.s (.r (rz 3 0 0)) (.b (.lp [10] (.s (.r (rz 1 0 0)) (.s (.c (.n) (.n)) (.s (.b (.s (.r (rz 4 0 164)) (.r (rz 4 0 181)))) (.r (rz 2 0 0))))))))))) func144 rfl (by kernel_rfl) (by kernel_rfl) h
def Jk (t0 : Value) (w : World) (K : VW) : Prop:=
 pw w (Instr.box 38 t0) fun t1 w1=>
 fl w1 t1 38 0 3 fun t4=>bt .eql 3 t4 (i6 0) fun t5=>za (fun K2=>gIf t5 true (fl w1 t1 38 1 36 fun t8=>pp (Builtin.len_ #[36] 3 #[t8]) fun t9=>bt .eql 3 t9 (i6 0) fun t10=>K2 [t10] w1) (K2 [undef] w1)) (fun s3 _d4 w5=>
 zb t5 (s3.getD 0 undef) fa_ fun t11=>K t11 w5)
theorem acL {t0 : Value} {w : World} {K : VW} (h : Jk t0 w K) : zd prog xI #[t0] w K:=
 okC false (.s (.r (rz 2 0 2)) (.s (.r (ra 4 0 4 (.grp 6 true (ri 4 4 4) [10] (rz 2 8 0)))) (.n))) func145 rfl (by kernel_rfl) (by kernel_rfl) h
def XU (t0 : Value) (w : World) (K : VW) : Prop:=
 pw w (Instr.box 41 t0) fun t1 w1=>
 fl w1 t1 41 0 39 fun t4=>bt .eql 39 t4 (Value.int .u8 0) fun t5=>za (fun K2=>gIf t5 true (fl w1 t1 41 1 2 fun t8=>bt .eql 2 t8 (i6 0) fun t9=>K2 [t9] w1) (K2 [undef] w1)) (fun s3 _d4 w5=>
 zb t5 (s3.getD 0 undef) fa_ fun t10=>za (fun K6=>gIf t10 true (fl w5 t1 41 2 38 fun t13=>ca xI #[t13] w5 fun t14 w10=>
 K6 [t14] w10) (K6 [undef] w5)) (fun s7 _d8 w9=>
 zb t10 (s7.getD 0 undef) fa_ fun t15=>K t15 w9))
theorem aaK {t0 : Value} {w : World} {K : VW} (h : XU t0 w K) : zd prog XQ #[t0] w K:=
 okC false (.s (.r (rz 2 0 2)) (.s (.r (ra 4 0 4 (.grp 6 true (ri 3 4 4) [9] (ra 2 7 0 (.grp 11 true (ri 3 9 36) [14] (rz 2 12 0)))))) (.n))) func146 rfl (by kernel_rfl) (by kernel_rfl) h
def jl (t0 t1 t2 : Value) (w : World) (K : VW) : Prop:=
 pp (Builtin.len_ #[67] 3 #[t0]) fun t7=>bt .eql 3 t7 (i6 0) fun t8=>zc t8 (K (.tuple #[]) w) (pp (Instr.sliceAt 67 t0 (some (i6 1)) none none) fun t10=>pp (Builtin.len_ #[67] 3 #[t10]) fun t11=>zn [(i6 0)] w (fun s2 _d3 w4 K1=>
 bf .lss 3 (s2.getD 0 undef) t11 fun t13=>zc t13 (xl w4 67 t10 (s2.getD 0 undef) 3 fun t15=>lo w4.drew 210 t1 fun t16=>xl w4.drew 67 t0 (i6 0) 3 fun t20=>VY t16 fun t21=>px 208 t21 t15 fun t22=>px 207 t22 t20 fun t23=>so w4.drew 4 t23 tr_ fun w5=>bt .add 3 (s2.getD 0 undef) (i6 1) fun t24=>K1 [t24] w5) (lo w4.drew 126 t2 fun t25=>pp (Instr.sliceAt 67 t0 (some (i6 1)) none none) fun t27=>cv t25 #[t27] w4.drew fun _t28 w6=>
 K (.tuple #[]) w6)))
theorem Zz {t0 t1 t2 : Value} {w : World} {K : VW} (h : jl t0 t1 t2 w K) : zd prog Z6 #[t0,t1,t2] w K:=
 okC false (.s (.s (.r (rz 3 0 0)) (.c (.n) (.n))) (.s (.s (.r (rz 4 0 0)) (.b (.lp [12] (.s (.r (rz 1 0 0)) (.s (.c (.n) (.n)) (.s (.b (.s (.r (rz 3 0 4)) (.r (rz 9 0 131329)))) (.r (rz 2 0 0)))))))) (.r (rz 4 0 129)))) func181 rfl (by kernel_rfl) (by kernel_rfl) h
def vy (t0 t1 t2 : Value) (w : World) (K : VW) : Prop:=
 pw w (Instr.box 25 t0) fun t3 w1=>
 pw w1 (Instr.alloc 38 true (.tuple #[])) fun t6 w2=>
 lo w2 25 t3 fun t11=>ca xR #[t11,t1,t2] w2 fun t14 w3=>
 pe t14 0 fun t15=>pe t14 1 fun t16=>pw w3 (Instr.alloc 44 true (.tuple #[])) fun t9 w4=>
 so w4 44 t9 t15 fun w5=>bt .neq 45 t16 (i6 0) fun t18=>za (fun K6=>gIf t18 false (fl w5 t9 44 0 35 fun t21=>bt .lss 35 t21 (Value.int .u8 1) fun t22=>K6 [t22] w5) (K6 [undef] w5)) (fun s7 _d8 w9=>
 zb t18 tr_ (s7.getD 0 undef) fun t23=>za (fun K10=>gIf t23 false (fl w9 t9 44 0 35 fun t26=>bt .gtr 35 t26 (Value.int .u8 8) fun t27=>K10 [t27] w9) (K10 [undef] w9)) (fun s11 _d12 w13=>
 zb t23 tr_ (s11.getD 0 undef) fun t28=>zc t28 (lo w13 38 t6 fun t29=>so w13 38 t6 t29 fun w14=>pq w14 (zt 38 t6) fun r15=>K (.tuple #[r15,fa_,t16]) w14) (fl w13 t9 44 1 38 fun t32=>ca kM #[t32] w13 fun t33 w16=>
 so w16 38 t6 t33 fun w17=>pq w17 (zt 38 t6) fun r18=>K (.tuple #[r18,tr_,(i6 0)]) w17)))
theorem YK {t0 t1 t2 : Value} {w : World} {K : VW} (h : vy t0 t1 t2 w K) : zd prog xY #[t0,t1,t2] w K:=
 okC false (.s (.r (rz 4 0 10)) (.s (.r (rz 10 0 163969)) (.s (.s (.r (ra 3 0 0 (.grp 19 false (ri 3 3 4) [22] (ra 2 6 0 (.grp 24 false (ri 3 8 4) [27] (rz 1 11 0)))))) (.c (.s (.r (rz 5 0 33)) (.n)) (.n))) (.s (.r (rz 6 0 164)) (.n))))) func22 rfl (by kernel_rfl) (by kernel_rfl) h
def Jl (t0 t1 t2 : Value) (w : World) (K : VW) : Prop:=
 pw w (Instr.box 25 t0) fun t3 w1=>
 pw w1 (Instr.box 38 t2) fun t5 w2=>
 pw w2 (Instr.alloc 57 true (.tuple #[])) fun t6 w3=>
 lo w3 25 t3 fun t12=>ca vi #[t12,t1] w3 fun t14 w4=>
 pe t14 0 fun t15=>pe t14 1 fun t16=>pw w4 (Instr.alloc 33 true (.tuple #[])) fun t8 w5=>
 so w5 33 t8 t15 fun w6=>bt .neq 45 t16 (i6 0) fun t18=>zc t18 (pp (Instr.build 57 #[]) fun t19=>so w6 57 t6 t19 fun w7=>pq w7 (zt 57 t6) fun r8=>K (.tuple #[r8,t16]) w7) (lo w6 25 t3 fun t21=>lo w6 33 t8 fun t22=>pp (Instr.build 117 #[(0,t21),(1,t22)]) fun t23=>lo w6 38 t5 fun t24=>ca zs #[t23,t24] w6 fun t25 w9=>
 pw w9 (Instr.alloc 115 true (.tuple #[])) fun t10 w10=>
 so w10 115 t10 t25 fun w11=>fl w11 t10 115 2 4 fun t27=>pp (Op.unary .not t27) fun t28=>zc t28 (pp (Instr.build 57 #[]) fun t29=>so w11 57 t6 t29 fun w12=>pq w12 (zt 57 t6) fun r13=>K (.tuple #[r13,(i6 2)]) w12) (fl w11 t10 115 0 57 fun t31=>ca XA #[t31] w11 fun t32 w14=>
 pe t32 0 fun t33=>pe t32 1 fun t34=>so w14 57 t6 t33 fun w15=>pq w15 (zt 57 t6) fun r16=>K (.tuple #[r16,t34]) w15))
theorem acM {t0 t1 t2 : Value} {w : World} {K : VW} (h : Jl t0 t1 t2 w K) : zd prog Yw #[t0,t1,t2] w K:=
 okC false (.s (.r (rz 4 0 42)) (.s (.r (rz 9 0 40993)) (.s (.s (.r (rz 2 0 0)) (.c (.s (.r (rz 4 0 32)) (.n)) (.n))) (.s (.r (rz 7 0 10821)) (.s (.s (.r (rz 3 0 4)) (.c (.s (.r (rz 3 0 8)) (.n)) (.n))) (.s (.r (rz 7 0 2084)) (.n))))))) func19 rfl (by kernel_rfl) (by kernel_rfl) h
def YL (t0 t1 t2 : Value) (w : World) (K : VW) : Prop:=
 pw w (Instr.box 25 t0) fun t3 w1=>
 lo w1 25 t3 fun t13=>ca xR #[t13,t1,t2] w1 fun t16 w2=>
 pe t16 0 fun t17=>pe t16 1 fun t18=>pw w2 (Instr.alloc 44 true (.tuple #[])) fun t8 w3=>
 so w3 44 t8 t17 fun w4=>bt .neq 45 t18 (i6 0) fun t20=>zc t20 (K (.tuple #[(Value.slice Option.none 0 0),t18]) w4) (lo w4 44 t8 fun t22=>ca jI #[t22] w4 fun t23 w5=>
 pp (Builtin.len_ #[42] 3 #[t23]) fun t25=>zn [(i6 0)] w5 (fun s7 _d8 w9 K6=>
 bf .lss 3 (s7.getD 0 undef) t25 fun t27=>zc t27 (xl w9 42 t23 (s7.getD 0 undef) 41 fun t34=>ca qL #[t34] w9 fun t35 w10=>
 px 42 t23 (s7.getD 0 undef) fun t36=>so w10 41 t36 t35 fun w11=>bt .add 3 (s7.getD 0 undef) (i6 1) fun t37=>K6 [t37] w11) (K (.tuple #[t23,t18]) w9)))
theorem Vq {t0 t1 t2 : Value} {w : World} {K : VW} (h : YL t0 t1 t2 w K) : zd prog kL #[t0,t1,t2] w K:=
 okC false (.s (.r (rz 3 0 2)) (.s (.r (rz 10 0 163969)) (.s (.s (.r (rz 2 0 0)) (.c (.s (.r (rz 3 0 0)) (.n)) (.n))) (.s (.r (rz 3 0 9)) (.s (.s (.r (rz 3 0 0)) (.b (.lp [26] (.s (.r (rz 1 0 0)) (.s (.c (.n) (.n)) (.s (.b (.s (.r (rz 2 0 0)) (.r (rz 9 0 140288)))) (.r (rz 2 0 0)))))))) (.s (.r (rz 4 0 0)) (.n))))))) func18 rfl (by kernel_rfl) (by kernel_rfl) h
def QK (t0 t1 t2 : Value) (w : World) (K : VW) : Prop:=
 pw w (Instr.box 25 t0) fun t3 w1=>
 pw w1 (Instr.alloc 44 true (.tuple #[])) fun t6 w2=>
 lo w2 25 t3 fun t11=>ca vi #[t11,t1] w2 fun t13 w3=>
 pe t13 0 fun t14=>pe t13 1 fun t15=>pw w3 (Instr.alloc 33 true (.tuple #[])) fun t8 w4=>
 so w4 33 t8 t14 fun w5=>bt .neq 45 t15 (i6 0) fun t17=>za (fun K6=>gIf t17 false (bt .lss 3 t2 (i6 0) fun t20=>K6 [t20] w5) (K6 [undef] w5)) (fun s7 _d8 w9=>
 zb t17 tr_ (s7.getD 0 undef) fun t21=>za (fun K10=>gIf t21 false (fl w9 t8 33 6 31 fun t25=>pp (Builtin.len_ #[31] 3 #[t25]) fun t26=>bf .geq 3 t2 t26 fun t27=>K10 [t27] w9) (K10 [undef] w9)) (fun s11 _d12 w13=>
 zb t21 tr_ (s11.getD 0 undef) fun t28=>zc t28 (pp (Instr.build 44 #[]) fun t29=>so w13 44 t6 t29 fun w14=>pq w14 (zt 44 t6) fun r15=>K (.tuple #[r15,(i6 2)]) w14) (fl w13 t8 33 6 31 fun t31=>xl w13 31 t31 t2 44 fun t34=>so w13 44 t6 t34 fun w16=>pq w16 (zt 44 t6) fun r17=>K (.tuple #[r17,(i6 0)]) w16)))
theorem abJ {t0 t1 t2 : Value} {w : World} {K : VW} (h : QK t0 t1 t2 w K) : zd prog xR #[t0,t1,t2] w K:=
 okC false (.s (.r (rz 3 0 10)) (.s (.r (rz 9 0 40993)) (.s (.s (.r (ra 3 0 0 (.grp 18 false (ri 2 3 0) [20] (ra 2 5 0 (.grp 22 false (ri 5 7 16) [27] (rz 1 12 0)))))) (.c (.s (.r (rz 3 0 8)) (.n)) (.n))) (.s (.r (rz 7 0 2308)) (.n))))) func39 rfl (by kernel_rfl) (by kernel_rfl) h
def YM (t0 : Value) (w : World) (K : VW) : Prop:=
 pw w (Instr.box 38 t0) fun t1 w1=>
 pw w1 (Instr.alloc 38 true (.tuple #[])) fun t2 w2=>
 fl w2.drew t1 38 0 3 fun t4=>fl w2.drew t1 38 1 36 fun t6=>ca yK #[t6] w2.drew fun t7 w3=>
 Ext w2.drew w3∧
 pp (Instr.build 38 #[(0,t4),(1,t7)]) fun t8=>so w3 38 t2 t8 fun w4=>pq w4 (zt 38 t2) fun r5=>K r5 w4
theorem Vr {t0 : Value} {w : World} {K : VW} (h : YM t0 w K) : zd prog kM #[t0] w K:=
 okC false (.s (.r (rz 2 0 10)) (.s (.r (rz 7 0 9028)) (.n))) func66 rfl (by kernel_rfl) (by kernel_rfl) h
def aaL (t0 t1 : Value) (w : World) (K : VW) : Prop:=
 pw w (Instr.box 25 t0) fun t2 w1=>
 pw w1 (Instr.alloc 33 true (.tuple #[])) fun t4 w2=>
 bt .lss 3 t1 (i6 0) fun t7=>za (fun K3=>gIf t7 false (fl w2 t2 25 1 23 fun t11=>pp (Builtin.len_ #[23] 3 #[t11]) fun t12=>bf .geq 3 t1 t12 fun t13=>K3 [t13] w2) (K3 [undef] w2)) (fun s4 _d5 w6=>
 zb t7 tr_ (s4.getD 0 undef) fun t14=>za (fun K7=>gIf t14 false (lo w6 25 t2 fun t16=>ca ke #[t16] w6 fun t17 w11=>
 pp (Op.unary .not t17) fun t18=>K7 [t18] w11) (K7 [undef] w6)) (fun s8 _d9 w10=>
 zb t14 tr_ (s8.getD 0 undef) fun t19=>zc t19 (pp (Instr.build 33 #[]) fun t20=>so w10 33 t4 t20 fun w12=>pq w12 (zt 33 t4) fun r13=>K (.tuple #[r13,(i6 2)]) w12) (fl w10 t2 25 1 23 fun t22=>xl w10 23 t22 t1 33 fun t25=>so w10 33 t4 t25 fun w14=>pq w14 (zt 33 t4) fun r15=>K (.tuple #[r15,(i6 0)]) w14)))
theorem aeS {t0 t1 : Value} {w : World} {K : VW} (h : aaL t0 t1 w K) : zd prog vi #[t0,t1] w K:=
 okC false (.s (.r (rz 3 0 10)) (.s (.s (.r (ra 3 0 0 (.grp 8 false (ri 5 3 16) [13] (ra 2 8 0 (.grp 15 false (ri 3 10 9) [18] (rz 1 13 0)))))) (.c (.s (.r (rz 3 0 8)) (.n)) (.n))) (.s (.r (rz 7 0 2308)) (.n)))) func53 rfl (by kernel_rfl) (by kernel_rfl) h
def YN (t0 : Value) (w : World) (K : VW) : Prop:=
 pw w (Instr.box 44 t0) fun t1 w1=>
 fl w1 t1 44 2 41 fun t5=>fl w1 t1 44 3 41 fun t7=>pw w1 (Instr.buildSlice 42 2 #[(0,t5),(1,t7)]) fun t8 w2=>
 fl w2 t1 44 4 42 fun t10=>pw w2 (Builtin.append_ #[42,42] 42 #[t8,t10]) fun t11 w3=>
 ca z6 #[t11,(Value.func (.func 88) #[] #[])] w3 fun t13 w4=>
 K t13 w4
theorem Vs {t0 : Value} {w : World} {K : VW} (h : YN t0 w K) : zd prog jI #[t0] w K:=
 okC false (.s (.r (rz 2 0 2)) (.s (.r (rz 9 0 37444)) (.s (.r (rz 3 0 8)) (.n)))) func59 rfl (by kernel_rfl) (by kernel_rfl) h
def ZA (t0 : Value) (w : World) (K : VW) : Prop:=
 pw w (Instr.box 41 t0) fun t1 w1=>
 pw w1 (Instr.alloc 41 true (.tuple #[])) fun t2 w2=>
 fl w2 t1 41 2 38 fun t4=>ca kM #[t4] w2 fun t5 w3=>
 pf 41 t1 2 fun t6=>so w3 38 t6 t5 fun w4=>lo w4 41 t1 fun t7=>so w4 41 t2 t7 fun w5=>pq w5 (zt 41 t2) fun r6=>K r6 w5
theorem Q8 {t0 : Value} {w : World} {K : VW} (h : ZA t0 w K) : zd prog qL #[t0] w K:=
 okC false (.s (.r (rz 2 0 10)) (.s (.r (rz 5 0 548)) (.s (.r (rz 2 0 9)) (.n)))) func60 rfl (by kernel_rfl) (by kernel_rfl) h
def ZB (t0 : Value) (w : World) (K : VW) : Prop:=
 pw w (Instr.box 41 t0) fun t1 w1=>
 fl w1 t1 41 0 39 fun t4=>bt .eql 39 t4 (Value.int .u8 0) fun t5=>K t5 w1
theorem Q9 {t0 : Value} {w : World} {K : VW} (h : ZB t0 w K) : zd prog Zx #[t0] w K:=
 okC false (.s (.r (rz 2 0 2)) (.s (.r (rz 4 0 4)) (.n))) func88 rfl (by kernel_rfl) (by kernel_rfl) h
end Go.Proofs.Tryz
end
section
namespace Go.Proofs.Tryz
open Go.Sh
set_option maxRecDepth 100000
def km (t0 t1 : Value) (w : World) (K : VW) : Prop:=
 ca xz #[t0,t1] w fun t7 w1=>
 bt .geq 3 t7 (i6 0) fun t8=>K t8 w1
theorem vz {t0 t1 : Value} {w : World} {K : VW} (h : km t0 t1 w K) : zd prog xa #[t0,t1] w K:=
 okC false (.s (.r (rz 1 0 0)) (.s (.r (rz 5 0 32)) (.n))) func104 rfl (by kernel_rfl) (by kernel_rfl) h
def kX (t0 t1 : Value) (w : World) (K : VW) : Prop:=
 pp (Builtin.len_ #[67] 3 #[t0]) fun t7=>zn [(i6 0)] w (fun s2 _d3 w4 K1=>
 bf .lss 3 (s2.getD 0 undef) t7 fun t9=>zc t9 (xl w4 67 t0 (s2.getD 0 undef) 3 fun t15=>cv t1 #[t15] w4 fun t16 w5=>
 zc t16 (K (s2.getD 0 undef) w5) (bt .add 3 (s2.getD 0 undef) (i6 1) fun t18=>K1 [t18] w5)) (K (i6 (-1)) w4))
theorem ZC {t0 t1 : Value} {w : World} {K : VW} (h : kX t0 t1 w K) : zd prog xz #[t0,t1] w K:=
 okC false (.s (.r (rz 1 0 0)) (.s (.s (.r (rz 3 0 0)) (.b (.lp [8] (.s (.r (rz 1 0 0)) (.s (.c (.n) (.n)) (.s (.b (.s (.r (rz 2 0 0)) (.s (.r (rz 6 0 2304)) (.c (.s (.r (rz 2 0 0)) (.n)) (.n))))) (.r (rz 2 0 0)))))))) (.s (.r (rz 1 0 0)) (.n)))) func143 rfl (by kernel_rfl) (by kernel_rfl) h
def yW (t0 t1 : Value) (w : World) (K : VW) : Prop:=
 ca xf #[t0,t1] w fun t7 w1=>
 bt .geq 3 t7 (i6 0) fun t8=>K t8 w1
theorem kB {t0 t1 : Value} {w : World} {K : VW} (h : yW t0 t1 w K) : zd prog zM #[t0,t1] w K:=
 okC false (.s (.r (rz 1 0 0)) (.s (.r (rz 5 0 32)) (.n))) func94 rfl (by kernel_rfl) (by kernel_rfl) h
def zV (t0 t1 t2 : Value) (w : World) (K : VW) : Prop:=
 pp (Builtin.len_ #[42] 3 #[t0]) fun t11=>pp (Builtin.len_ #[29] 3 #[t1]) fun t13=>bf .neq 3 t11 t13 fun t14=>zc t14 (K fa_ w) (pp (Builtin.len_ #[42] 3 #[t0]) fun t16=>zn [(i6 0)] w (fun s2 _d3 w4 K1=>
 bf .lss 3 (s2.getD 0 undef) t16 fun t18=>zc t18 (xl w4 42 t0 (s2.getD 0 undef) 41 fun t21=>pw w4 (Instr.alloc 41 true (.tuple #[])) fun t8 w5=>
 so w5 41 t8 t21 fun w6=>xl w6 29 t1 (s2.getD 0 undef) 57 fun t25=>pw w6 (Instr.alloc 57 true (.tuple #[])) fun t9 w7=>
 so w7 57 t9 t25 fun w8=>lo w8 41 t8 fun t27=>lo w8 57 t9 fun t28=>cv t2 #[t27,t28] w8 fun t29 w9=>
 pp (Op.unary .not t29) fun t30=>zc t30 (K fa_ w9) (bt .add 3 (s2.getD 0 undef) (i6 1) fun t31=>K1 [t31] w9)) (K tr_ w4)))
theorem yX {t0 t1 t2 : Value} {w : World} {K : VW} (h : zV t0 t1 t2 w K) : zd prog zU #[t0,t1,t2] w K:=
 okC false (.s (.r (rz 1 0 0)) (.s (.s (.r (rz 5 0 0)) (.c (.s (.r (rz 1 0 0)) (.n)) (.n))) (.s (.s (.r (rz 3 0 0)) (.b (.lp [17] (.s (.r (rz 1 0 0)) (.s (.c (.n) (.n)) (.s (.b (.s (.r (rz 6 0 2192)) (.s (.r (rz 6 0 2624)) (.s (.r (rz 5 0 148)) (.c (.s (.r (rz 1 0 0)) (.n)) (.n)))))) (.r (rz 2 0 0)))))))) (.s (.r (rz 1 0 0)) (.n))))) func111 rfl (by kernel_rfl) (by kernel_rfl) h
def xi (t0 t1 : Value) (w : World) (K : VW) : Prop:=
 pp (Builtin.len_ #[82] 3 #[t0]) fun t7=>zn [(i6 0)] w (fun s2 _d3 w4 K1=>
 bf .lss 3 (s2.getD 0 undef) t7 fun t9=>zc t9 (xl w4 82 t0 (s2.getD 0 undef) 86 fun t15=>cv t1 #[t15] w4 fun t16 w5=>
 zc t16 (K (s2.getD 0 undef) w5) (bt .add 3 (s2.getD 0 undef) (i6 1) fun t18=>K1 [t18] w5)) (K (i6 (-1)) w4))
theorem kY {t0 t1 : Value} {w : World} {K : VW} (h : xi t0 t1 w K) : zd prog xf #[t0,t1] w K:=
 okC false (.s (.r (rz 1 0 0)) (.s (.s (.r (rz 3 0 0)) (.b (.lp [8] (.s (.r (rz 1 0 0)) (.s (.c (.n) (.n)) (.s (.b (.s (.r (rz 2 0 0)) (.s (.r (rz 6 0 2304)) (.c (.s (.r (rz 2 0 0)) (.n)) (.n))))) (.r (rz 2 0 0)))))))) (.s (.r (rz 1 0 0)) (.n)))) func129 rfl (by kernel_rfl) (by kernel_rfl) h
def kJ (t0 t1 : Value) (w : World) (K : VW) : Prop:=
 ca qM #[t0,t1] w fun t7 w1=>
 bt .geq 3 t7 (i6 0) fun t8=>K t8 w1
theorem Ze {t0 t1 : Value} {w : World} {K : VW} (h : kJ t0 t1 w K) : zd prog xr #[t0,t1] w K:=
 okC false (.s (.r (rz 1 0 0)) (.s (.r (rz 5 0 32)) (.n))) func147 rfl (by kernel_rfl) (by kernel_rfl) h
def qP (t0 t1 : Value) (w : World) (K : VW) : Prop:=
 pp (Builtin.len_ #[212] 3 #[t0]) fun t7=>zn [(i6 0)] w (fun s2 _d3 w4 K1=>
 bf .lss 3 (s2.getD 0 undef) t7 fun t9=>zc t9 (xl w4 212 t0 (s2.getD 0 undef) 4 fun t15=>bf .eql 4 t1 t15 fun t16=>zc t16 (K (s2.getD 0 undef) w4) (bt .add 3 (s2.getD 0 undef) (i6 1) fun t18=>K1 [t18] w4)) (K (i6 (-1)) w4))
theorem Yk {t0 t1 : Value} {w : World} {K : VW} (h : qP t0 t1 w K) : zd prog qM #[t0,t1] w K:=
 okC false (.s (.r (rz 1 0 0)) (.s (.s (.r (rz 3 0 0)) (.b (.lp [8] (.s (.r (rz 1 0 0)) (.s (.c (.n) (.n)) (.s (.b (.s (.r (rz 2 0 0)) (.s (.r (rz 6 0 256)) (.c (.s (.r (rz 2 0 0)) (.n)) (.n))))) (.r (rz 2 0 0)))))))) (.s (.r (rz 1 0 0)) (.n)))) func182 rfl (by kernel_rfl) (by kernel_rfl) h
def xL (t0 : Value) (w : World) (K : VW) : Prop:=
 bt .eql 36 t0 (Value.slice Option.none 0 0) fun t4=>zc t4 (K (Value.slice Option.none 0 0) w) (pw w (Instr.buildSlice 36 0 #[]) fun t5 w1=>
 pw w1 (Builtin.append_ #[36,36] 36 #[t5,t0]) fun t7 w2=>
 K t7 w2)
theorem jq {t0 : Value} {w : World} {K : VW} (h : xL t0 w K) : zd prog yK #[t0] w K:=
 okC false (.s (.r (rz 1 0 0)) (.s (.s (.r (rz 2 0 0)) (.c (.s (.r (rz 1 0 0)) (.n)) (.n))) (.s (.r (rz 4 0 34)) (.n)))) func90 rfl (by kernel_rfl) (by kernel_rfl) h
def yJ (t0 t1 : Value) (w : World) (K : VW) : Prop:=
 ca z8 #[t0,t1] w fun t10 w1=>
 bt .eql 3 t10 (i6 (-1)) fun t12=>zc t12 (K t0 w1) (bt .add 3 t10 (i6 1) fun t15=>zn [t10,t15] w1 (fun s3 _d4 w5 K2=>
 pp (Builtin.len_ #[42] 3 #[t0]) fun t18=>bf .lss 3 (s3.getD 1 undef) t18 fun t19=>zc t19 (za (fun K6=>
 xl w5 42 t0 (s3.getD 1 undef) 41 fun t25=>pw w5 (Instr.alloc 41 true (.tuple #[])) fun t7 w10=>
 so w10 41 t7 t25 fun w11=>lo w11 41 t7 fun t27=>cv t1 #[t27] w11 fun t28 w12=>
 pp (Op.unary .not t28) fun t29=>zc t29 (lo w12 41 t7 fun t32=>px 42 t0 (s3.getD 0 undef) fun t33=>so w12 41 t33 t32 fun w13=>bt .add 3 (s3.getD 0 undef) (i6 1) fun t35=>K6 [t35] w13) (K6 [(s3.getD 0 undef)] w12)) (fun s7 _d8 w9=>
 bt .add 3 (s3.getD 1 undef) (i6 1) fun t21=>K2 [(s7.getD 0 undef),t21] w9)) (pp (Instr.sliceAt 42 t0 (some (s3.getD 0 undef)) none none) fun t38=>pw w5 (Builtin.clear_ #[42] 0 #[t38]) fun _ w14=>
 pp (Instr.sliceAt 42 t0 none (some (s3.getD 0 undef)) none) fun t41=>K t41 w14)))
theorem kh {t0 t1 : Value} {w : World} {K : VW} (h : yJ t0 t1 w K) : zd prog z6 #[t0,t1] w K:=
 okC false (.s (.r (rz 1 0 0)) (.s (.r (rz 4 0 32)) (.s (.s (.r (rz 2 0 0)) (.c (.s (.r (rz 2 0 0)) (.n)) (.n))) (.s (.s (.r (rz 3 0 0)) (.b (.lp [5,6] (.s (.s (.r (rz 4 0 0)) (.c (.n) (.n))) (.j [5] (.b (.s (.r (rz 6 0 2624)) (.s (.r (rz 4 0 36)) (.c (.s (.r (rz 5 0 528)) (.r (rz 3 0 0))) (.n))))) (.r (rz 3 0 0))))))) (.s (.r (rz 4 0 128)) (.s (.r (rz 4 0 0)) (.n))))))) func87 rfl (by kernel_rfl) (by kernel_rfl) h
def yN (t0 t1 : Value) (w : World) (K : VW) : Prop:=
 pp (Builtin.len_ #[42] 3 #[t0]) fun t7=>zn [(i6 0)] w (fun s2 _d3 w4 K1=>
 bf .lss 3 (s2.getD 0 undef) t7 fun t9=>zc t9 (xl w4 42 t0 (s2.getD 0 undef) 41 fun t15=>cv t1 #[t15] w4 fun t16 w5=>
 zc t16 (K (s2.getD 0 undef) w5) (bt .add 3 (s2.getD 0 undef) (i6 1) fun t18=>K1 [t18] w5)) (K (i6 (-1)) w4))
theorem ko {t0 t1 : Value} {w : World} {K : VW} (h : yN t0 t1 w K) : zd prog z8 #[t0,t1] w K:=
 okC false (.s (.r (rz 1 0 0)) (.s (.s (.r (rz 3 0 0)) (.b (.lp [8] (.s (.r (rz 1 0 0)) (.s (.c (.n) (.n)) (.s (.b (.s (.r (rz 2 0 0)) (.s (.r (rz 6 0 2304)) (.c (.s (.r (rz 2 0 0)) (.n)) (.n))))) (.r (rz 2 0 0)))))))) (.s (.r (rz 1 0 0)) (.n)))) func128 rfl (by kernel_rfl) (by kernel_rfl) h
end Go.Proofs.Tryz
end
section
namespace Go.Proofs.Tryz
open Go.Sh
set_option maxRecDepth 100000
def VJ (t0 : Value) (w : World) (K : VW) : Prop:=
 pw w (Instr.box 57 t0) fun t1 w1=>
 pw w1 (Instr.alloc 57 true (.tuple #[])) fun t2 w2=>
 lo w2 57 t1 fun t4=>ca xp #[t4] w2 fun t5 w3=>
 pp (Op.unary .not t5) fun t6=>zc t6 (pp (Instr.build 57 #[]) fun t7=>so w3 57 t2 t7 fun w4=>pq w4 (zt 57 t2) fun r5=>K (.tuple #[r5,(i6 2)]) w4) (lo w3 57 t1 fun t8=>ca jo #[t8] w3 fun t9 w6=>
 so w6 57 t2 t9 fun w7=>pq w7 (zt 57 t2) fun r8=>K (.tuple #[r8,(i6 0)]) w7)
theorem ad1 {t0 : Value} {w : World} {K : VW} (h : VJ t0 w K) : zd prog XA #[t0] w K:=
 okC false (.s (.r (rz 3 0 10)) (.s (.s (.r (rz 3 0 9)) (.c (.s (.r (rz 3 0 8)) (.n)) (.n))) (.s (.r (rz 4 0 41)) (.n)))) func62 rfl (by kernel_rfl) (by kernel_rfl) h
def Xf (t0 : Value) (w : World) (K : VW) : Prop:=
 pw w (Instr.box 57 t0) fun t1 w1=>
 lo w1 57 t1 fun t3=>ca xp #[t3] w1 fun t4 w2=>
 pp (Op.unary .not t4) fun t5=>zc t5 (K (Value.slice Option.none 0 0) w2) (lo w2 57 t1 fun t6=>ca qz #[t6] w2 fun t7 w3=>
 K t7 w3)
theorem V2 {t0 : Value} {w : World} {K : VW} (h : Xf t0 w K) : zd prog qy #[t0] w K:=
 okC false (.s (.r (rz 2 0 2)) (.s (.s (.r (rz 3 0 9)) (.c (.s (.r (rz 1 0 0)) (.n)) (.n))) (.s (.r (rz 3 0 9)) (.n)))) func23 rfl (by kernel_rfl) (by kernel_rfl) h
def VK (t0 : Value) (w : World) (K : VW) : Prop:=
 pw w (Instr.box 57 t0) fun t1 w1=>
 lo w1 57 t1 fun t3=>ca kv #[t3,(i6 32),(i6 48)] w1 fun t4 w2=>
 K t4 w2
theorem ad2 {t0 : Value} {w : World} {K : VW} (h : VK t0 w K) : zd prog xp #[t0] w K:=
 okC false (.s (.r (rz 2 0 2)) (.s (.r (rz 3 0 9)) (.n))) func63 rfl (by kernel_rfl) (by kernel_rfl) h
def VL (t0 : Value) (w : World) (K : VW) : Prop:=
 pw w (Instr.box 57 t0) fun t1 w1=>
 pw w1 (Instr.alloc 57 true (.tuple #[])) fun t2 w2=>
 za (fun K3=>
 fl w2 t1 57 4 29 fun t4=>pp (Builtin.len_ #[29] 3 #[t4]) fun t5=>bt .gtr 3 t5 (i6 0) fun t6=>zc t6 (fl w2 t1 57 4 29 fun t8=>xl w2 29 t8 (i6 0) 57 fun t10=>ca jo #[t10] w2 fun t11 w7=>
 pw w7 (Instr.buildSlice 29 1 #[(0,t11)]) fun t12 w8=>
 pf 57 t1 4 fun t13=>so w8 29 t13 t12 fun w9=>K3 [] w9) (pf 57 t1 4 fun t14=>so w2 29 t14 (Value.slice Option.none 0 0) fun w10=>K3 [] w10)) (fun _s4 _d5 w6=>
 lo w6 57 t1 fun t15=>so w6 57 t2 t15 fun w11=>pq w11 (zt 57 t2) fun r12=>K r12 w11)
theorem ad3 {t0 : Value} {w : World} {K : VW} (h : VL t0 w K) : zd prog jo #[t0] w K:=
 okC false (.s (.r (rz 2 0 10)) (.j [] (.s (.r (rz 4 0 4)) (.c (.r (rz 8 0 35396)) (.r (rz 2 0 8)))) (.s (.r (rz 2 0 9)) (.n)))) func89 rfl (by kernel_rfl) (by kernel_rfl) h
def Xg (t0 : Value) (w : World) (K : VW) : Prop:=
 pw w (Instr.box 57 t0) fun t1 w1=>
 pw w1 (Instr.alloc 67 true (.tuple #[])) fun t3 w2=>
 pp (Instr.makeFunc (.func 92) #[] #[t3]) fun t4=>ca vd #[t1,t4] w2 fun _t5 w3=>
 lo w3 67 t3 fun t6=>K t6 w3
theorem V3 {t0 : Value} {w : World} {K : VW} (h : Xg t0 w K) : zd prog qz #[t0] w K:=
 okC false (.s (.r (rz 2 0 2)) (.s (.r (rz 1 0 2)) (.s (.r (rz 2 0 8)) (.s (.r (rz 2 0 1)) (.n))))) func67 rfl (by kernel_rfl) (by kernel_rfl) h
def Xh (t0 : Value) (w : World) (K : VW) : Prop:=
 pw w (Instr.box 22 t0) fun t1 w1=>
 lo w1 22 t1 fun t9=>pp (Builtin.len_ #[22] 3 #[t9]) fun t10=>pw w1 (Instr.alloc 3 true (.tuple #[])) fun t4 w2=>
 so w2 3 t4 t10 fun w3=>lo w3 3 t4 fun t11=>bt .gtr 3 t11 (i6 32) fun t12=>zc t12 (K (.tuple #[(i6 32),(i6 2)]) w3) (pp (Instr.makeFunc (.func 93) #[] #[t1,t4]) fun t13=>pp (Instr.makeFunc (.func 96) #[] #[t1]) fun t14=>pp (Instr.makeFunc (.func 98) #[] #[t1]) fun t15=>pw w3 (Instr.buildSlice 150 3 #[(0,t13),(1,t14),(2,t15)]) fun t16 w4=>
 pp (Builtin.len_ #[150] 3 #[t16]) fun t18=>zn [(i6 0)] w4 (fun s6 _d7 w8 K5=>
 bf .lss 3 (s6.getD 0 undef) t18 fun t20=>zc t20 (xl w8 150 t16 (s6.getD 0 undef) 147 fun t22=>lo w8 3 t4 fun t23=>ca ZL #[t23,t22] w8 fun t25 w9=>
 lo w9 3 t4 fun t27=>bf .lss 3 t25 t27 fun t28=>zc t28 (K (.tuple #[t25,(i6 2)]) w9) (bt .add 3 (s6.getD 0 undef) (i6 1) fun t30=>K5 [t30] w9)) (K (.tuple #[(i6 0),(i6 0)]) w8)))
theorem V4 {t0 : Value} {w : World} {K : VW} (h : Xh t0 w K) : zd prog qA #[t0] w K:=
 okC false (.s (.r (rz 3 0 2)) (.s (.r (rz 4 0 161)) (.s (.s (.r (rz 2 0 1)) (.c (.s (.r (rz 2 0 0)) (.n)) (.n))) (.s (.r (rz 5 0 128)) (.s (.s (.r (rz 3 0 0)) (.b (.lp [19] (.s (.r (rz 1 0 0)) (.s (.c (.n) (.n)) (.s (.b (.s (.r (rz 3 0 4)) (.s (.r (rz 4 0 33)) (.s (.r (rz 3 0 4)) (.c (.s (.r (rz 3 0 0)) (.n)) (.n)))))) (.r (rz 2 0 0)))))))) (.s (.r (rz 2 0 0)) (.n))))))) func68 rfl (by kernel_rfl) (by kernel_rfl) h
def VM (t0 t1 : Value) (w : World) (K : VW) : Prop:=
 pw w (Instr.box 57 t1) fun t3 w1=>
 ca qA #[t0] w1 fun t9 w2=>
 pe t9 0 fun _t10=>pe t9 1 fun t11=>bt .eql 45 t11 (i6 0) fun t13=>za (fun K3=>gIf t13 true (lo w2 57 t3 fun t15=>pp (Builtin.len_ #[22] 3 #[t0]) fun t17=>ca kv #[t15,t17,(i6 48)] w2 fun t18 w7=>
 K3 [t18] w7) (K3 [undef] w2)) (fun s4 _d5 w6=>
 zb t13 (s4.getD 0 undef) fa_ fun t19=>K t19 w6)
theorem ad4 {t0 t1 : Value} {w : World} {K : VW} (h : VM t0 t1 w K) : zd prog jp #[t0,t1] w K:=
 okC false (.s (.r (rz 2 0 2)) (.s (.r (rz 7 0 8)) (.s (.r (ra 3 0 0 (.grp 14 true (ri 4 3 129) [18] (rz 2 7 0)))) (.n)))) func24 rfl (by kernel_rfl) (by kernel_rfl) h
def Jm (t0 t1 : Value) (w : World) (K : VW) : Prop:=
 za (fun K1=>
 ff w t0 57 0 55 fun t7=>bt .eql 55 t7 (Value.int .u8 4) fun t8=>zc t8 (cv t1 #[t0] w fun _t11 w5=>
 K1 [] w5) (K1 [] w)) (fun _s2 _d3 w4=>
 ff w4 t0 57 4 29 fun t15=>pp (Builtin.len_ #[29] 3 #[t15]) fun t16=>bt .gtr 3 t16 (i6 0) fun t17=>zc t17 (ff w4 t0 57 4 29 fun t21=>px 29 t21 (i6 0) fun t22=>ca vd #[t22,t1] w4 fun _t24 w6=>
 K (.tuple #[]) w6) (K (.tuple #[]) w4))
theorem acN {t0 t1 : Value} {w : World} {K : VW} (h : Jm t0 t1 w K) : zd prog vd #[t0,t1] w K:=
 okC false (.j [] (.s (.r (rz 5 0 64)) (.c (.r (rz 3 0 32)) (.n))) (.s (.r (rz 6 0 64)) (.c (.r (rz 7 0 8256)) (.n)))) func91 rfl (by kernel_rfl) (by kernel_rfl) h
def YO (t0 t1 t2 : Value) (w : World) (K : VW) : Prop:=
 pw w (Instr.box 57 t0) fun t3 w1=>
 bt .eql 3 t2 (i6 0) fun t10=>zc t10 (K fa_ w1) (fl w1 t3 57 4 29 fun t12=>pp (Builtin.len_ #[29] 3 #[t12]) fun t13=>bt .eql 3 t13 (i6 1) fun t14=>za (fun K2=>gIf t14 true (fl w1 t3 57 4 29 fun t17=>xl w1 29 t17 (i6 0) 57 fun t19=>bt .sub 3 t2 (i6 1) fun t22=>ca kv #[t19,t1,t22] w1 fun t23 w6=>
 K2 [t23] w6) (K2 [undef] w1)) (fun s3 _d4 w5=>
 zb t14 (s3.getD 0 undef) fa_ fun t24=>fl w5 t3 57 1 4 fun t26=>pp (Op.unary .not t26) fun t27=>za (fun K7=>gIf t27 true (fl w5 t3 57 2 3 fun t30=>bt .eql 3 t30 (i6 0) fun t31=>K7 [t31] w5) (K7 [undef] w5)) (fun s8 _d9 w10=>
 zb t27 (s8.getD 0 undef) fa_ fun t32=>fl w10 t3 57 0 55 fun t34=>za (fun K11=>
 bt .eql 55 t34 (Value.int .u8 1) fun t36=>zc t36 (K11 [t36] w10) (bt .eql 55 t34 (Value.int .u8 2) fun t37=>K11 [t37] w10)) (fun s12 _d13 w14=>
 zc (s12.getD 0 undef) (za (fun K15=>gIf t32 true (fl w14 t3 57 3 3 fun t41=>bt .eql 3 t41 (i6 0) fun t42=>K15 [t42] w14) (K15 [undef] w14)) (fun s16 _d17 w18=>
 zb t32 (s16.getD 0 undef) fa_ fun t43=>za (fun K19=>gIf t43 true (fl w18 t3 57 4 29 fun t46=>pp (Builtin.len_ #[29] 3 #[t46]) fun t47=>bt .eql 3 t47 (i6 0) fun t48=>K19 [t48] w18) (K19 [undef] w18)) (fun s20 _d21 w22=>
 zb t43 (s20.getD 0 undef) fa_ fun t49=>K t49 w22))) (bt .eql 55 t34 (Value.int .u8 5) fun t51=>zc t51 (za (fun K23=>gIf t32 true (fl w14 t3 57 4 29 fun t55=>pp (Builtin.len_ #[29] 3 #[t55]) fun t56=>bt .eql 3 t56 (i6 0) fun t57=>K23 [t57] w14) (K23 [undef] w14)) (fun s24 _d25 w26=>
 zb t32 (s24.getD 0 undef) fa_ fun t58=>za (fun K27=>gIf t58 true (fl w26 t3 57 3 3 fun t61=>bt .geq 3 t61 (i6 0) fun t62=>K27 [t62] w26) (K27 [undef] w26)) (fun s28 _d29 w30=>
 zb t58 (s28.getD 0 undef) fa_ fun t63=>za (fun K31=>gIf t63 true (fl w30 t3 57 3 3 fun t66=>bf .lss 3 t66 t1 fun t68=>K31 [t68] w30) (K31 [undef] w30)) (fun s32 _d33 w34=>
 zb t63 (s32.getD 0 undef) fa_ fun t69=>K t69 w34)))) (bt .eql 55 t34 (Value.int .u8 3) fun t71=>zc t71 (za (fun K35=>gIf t32 true (fl w14 t3 57 3 3 fun t75=>bt .eql 3 t75 (i6 0) fun t76=>K35 [t76] w14) (K35 [undef] w14)) (fun s36 _d37 w38=>
 zb t32 (s36.getD 0 undef) fa_ fun t77=>za (fun K39=>gIf t77 true (K39 [t24] w38) (K39 [undef] w38)) (fun s40 _d41 w42=>
 zb t77 (s40.getD 0 undef) fa_ fun t80=>K t80 w42))) (bt .eql 55 t34 (Value.int .u8 4) fun t82=>zc t82 (fl w14 t3 57 2 3 fun t84=>bt .geq 3 t84 (i6 (-1)) fun t85=>za (fun K43=>gIf t85 true (fl w14 t3 57 3 3 fun t88=>bt .eql 3 t88 (i6 0) fun t89=>K43 [t89] w14) (K43 [undef] w14)) (fun s44 _d45 w46=>
 zb t85 (s44.getD 0 undef) fa_ fun t90=>za (fun K47=>gIf t90 true (K47 [t24] w46) (K47 [undef] w46)) (fun s48 _d49 w50=>
 zb t90 (s48.getD 0 undef) fa_ fun t93=>K t93 w50))) (K fa_ w14))))))))
theorem QL {t0 t1 t2 : Value} {w : World} {K : VW} (h : YO t0 t1 t2 w K) : zd prog kv #[t0,t1,t2] w K:=
 okC false (.s (.r (rz 2 0 2)) (.s (.s (.r (rz 2 0 0)) (.c (.s (.r (rz 1 0 0)) (.n)) (.n))) (.s (.r (ra 5 0 4 (.grp 15 true (ri 8 5 32836) [23] (rz 2 13 0)))) (.s (.r (ra 4 0 4 (.grp 28 true (ri 3 4 4) [31] (rz 2 7 0)))) (.s (.s (.r (rz 2 0 4)) (.b (.j [35] (.s (.r (rz 2 0 0)) (.c (.n) (.r (rz 2 0 0)))) (.c (.s (.r (ra 2 0 0 (.grp 39 true (ri 3 2 4) [42] (ra 2 5 0 (.grp 44 true (ri 4 7 4) [48] (rz 2 11 0)))))) (.n)) (.s (.r (rz 2 0 0)) (.c (.s (.r (ra 2 0 0 (.grp 53 true (ri 4 2 4) [57] (ra 2 6 0 (.grp 59 true (ri 3 8 4) [62] (ra 2 11 0 (.grp 64 true (ri 4 13 4) [68] (rz 2 17 0)))))))) (.n)) (.s (.r (rz 2 0 0)) (.c (.s (.r (ra 2 0 0 (.grp 73 true (ri 3 2 4) [76] (ra 2 5 0 (.grp 78 true (ri 1 7 0) [79] (rz 2 8 0)))))) (.n)) (.s (.r (rz 2 0 0)) (.c (.s (.r (ra 4 0 4 (.grp 86 true (ri 3 4 4) [89] (ra 2 7 0 (.grp 91 true (ri 1 9 0) [92] (rz 2 10 0)))))) (.n)) (.n))))))))))) (.s (.r (rz 1 0 0)) (.n))))))) func69 rfl (by kernel_rfl) (by kernel_rfl) h
def Z8 (t0 t1 : Value) (w : World) (K : VW) : Prop:=
 lo w.drew 67 t1 fun t3=>ff w.drew t0 57 2 3 fun t7=>pw w.drew (Instr.buildSlice 67 1 #[(0,t7)]) fun t8 w1=>
 Ext w.drew w1∧
 pw w1 (Builtin.append_ #[67,67] 67 #[t3,t8]) fun t9 w2=>
 so w2 67 t1 t9 fun w3=>K (.tuple #[]) w3
theorem Jn {t0 t1 : Value} {w : World} {K : VW} (h : Z8 t0 t1 w K) : zd prog ji #[t0,t1] w K:=
 okC false (.r (rz 8 0 44289)) func92 rfl (by kernel_rfl) (by kernel_rfl) h
def Z9 (t0 t1 t2 : Value) (w : World) (K : VW) : Prop:=
 lo w 22 t1 fun t6=>px 22 t6 t0 fun t8=>fl w t8 84 1 82 fun t10=>pp (Builtin.len_ #[82] 3 #[t10]) fun t12=>bt .lss 3 t12 (i6 1) fun t13=>za (fun K1=>gIf t13 false (pp (Builtin.len_ #[82] 3 #[t10]) fun t16=>bt .gtr 3 t16 (i6 8) fun t17=>K1 [t17] w) (K1 [undef] w)) (fun s2 _d3 w4=>
 zb t13 tr_ (s2.getD 0 undef) fun t18=>za (fun K5=>gIf t18 false (pp (Instr.makeFunc (.func 95) #[] #[t2]) fun t21=>ca zM #[t10,t21] w4 fun t22 w9=>
 K5 [t22] w9) (K5 [undef] w4)) (fun s6 _d7 w8=>
 zb t18 tr_ (s6.getD 0 undef) fun t23=>K t23 w8))
theorem Jo {t0 t1 t2 : Value} {w : World} {K : VW} (h : Z9 t0 t1 t2 w K) : zd prog kp #[t0,t1,t2] w K:=
 okC false (.s (.r (rz 1 0 0)) (.s (.r (rz 6 0 257)) (.s (.r (ra 4 0 0 (.grp 14 false (ri 3 4 0) [17] (ra 2 7 0 (.grp 19 false (ri 3 9 32) [22] (rz 2 12 0)))))) (.n)))) func93 rfl (by kernel_rfl) (by kernel_rfl) h
def vS (t0 t1 : Value) (w : World) (K : VW) : Prop:=
 pw w (Instr.box 86 t0) fun t2 w1=>
 fl w1 t2 86 1 57 fun t5=>lo w1 3 t1 fun t6=>ca kv #[t5,t6,(i6 48)] w1 fun t7 w2=>
 pp (Op.unary .not t7) fun t8=>za (fun K3=>gIf t8 false (fl w2 t2 86 1 57 fun t11=>ca qz #[t11] w2 fun t12 w7=>
 pp (Builtin.len_ #[67] 3 #[t12]) fun t13=>bt .gtr 3 t13 (i6 0) fun t14=>K3 [t14] w7) (K3 [undef] w2)) (fun s4 _d5 w6=>
 zb t8 tr_ (s4.getD 0 undef) fun t15=>K t15 w6)
theorem Qo {t0 t1 : Value} {w : World} {K : VW} (h : vS t0 t1 w K) : zd prog Q6 #[t0,t1] w K:=
 okC false (.s (.r (rz 2 0 2)) (.s (.r (ra 6 0 148 (.grp 9 false (ri 5 6 36) [14] (rz 2 11 0)))) (.n))) func95 rfl (by kernel_rfl) (by kernel_rfl) h
def Ya (t0 t1 : Value) (w : World) (K : VW) : Prop:=
 lo w 22 t1 fun t4=>ca ve #[t4,t0] w fun t6 w1=>
 K t6 w1
theorem Jp {t0 t1 : Value} {w : World} {K : VW} (h : Ya t0 t1 w K) : zd prog kq #[t0,t1] w K:=
 okC false (.s (.r (rz 1 0 0)) (.s (.r (rz 4 0 33)) (.n))) func96 rfl (by kernel_rfl) (by kernel_rfl) h
def Xi (t0 t1 : Value) (w : World) (K : VW) : Prop:=
 pw w (Instr.alloc 192 true (.tuple #[])) fun t5 w1=>
 pw w1 (Instr.buildSlice 67 1 #[(0,t1)]) fun t11 w2=>
 zn [t11] w2 (fun s4 _d5 w6 K3=>
 pp (Builtin.len_ #[67] 3 #[(s4.getD 0 undef)]) fun t13=>bt .gtr 3 t13 (i6 0) fun t14=>zc t14 (xl w6 67 (s4.getD 0 undef) (i6 0) 3 fun t17=>pp (Instr.sliceAt 67 (s4.getD 0 undef) (some (i6 1)) none none) fun t19=>px 22 t0 t17 fun t22=>fl w6 t22 84 1 82 fun t24=>pp (Builtin.len_ #[82] 3 #[t24]) fun t25=>zn [t19,(i6 0)] w6 (fun s8 _d9 w10 K7=>
 bf .lss 3 (s8.getD 1 undef) t25 fun t27=>zc t27 (za (fun K11=>
 xl w10 82 t24 (s8.getD 1 undef) 86 fun t29=>pw w10 (Instr.alloc 86 true (.tuple #[])) fun t9 w15=>
 so w15 86 t9 t29 fun w16=>pf 86 t9 1 fun t30=>fl w16 t30 57 0 55 fun t32=>bt .neq 55 t32 (Value.int .u8 5) fun t33=>za (fun K17=>gIf t33 false (pf 86 t9 1 fun t35=>fl w16 t35 57 3 3 fun t37=>xl w16 192 t5 t37 4 fun t39=>K17 [t39] w16) (K17 [undef] w16)) (fun s18 _d19 w20=>
 zb t33 tr_ (s18.getD 0 undef) fun t40=>zc t40 (K11 [(s8.getD 0 undef)] w20) (pf 86 t9 1 fun t41=>fl w20 t41 57 3 3 fun t43=>px 192 t5 t43 fun t44=>so w20 4 t44 tr_ fun w21=>pf 86 t9 1 fun t46=>fl w21 t46 57 3 3 fun t48=>pw w21 (Instr.buildSlice 67 1 #[(0,t48)]) fun t49 w22=>
 pw w22 (Builtin.append_ #[67,67] 67 #[(s8.getD 0 undef),t49]) fun t50 w23=>
 K11 [t50] w23))) (fun s12 _d13 w14=>
 bt .add 3 (s8.getD 1 undef) (i6 1) fun t51=>K7 [(s12.getD 0 undef),t51] w14)) (K3 [(s8.getD 0 undef)] w10))) (xl w6 192 t5 t1 4 fun t54=>K t54 w6))
theorem V5 {t0 t1 : Value} {w : World} {K : VW} (h : Xi t0 t1 w K) : zd prog ve #[t0,t1] w K:=
 okC false (.s (.r (rz 1 0 0)) (.s (.r (rz 1 0 2)) (.s (.r (rz 3 0 8)) (.s (.b (.lp [6] (.s (.s (.r (rz 3 0 0)) (.c (.n) (.n))) (.b (.s (.r (rz 4 0 16)) (.s (.r (rz 3 0 0)) (.s (.r (rz 7 0 256)) (.b (.lp [6,26] (.s (.r (rz 1 0 0)) (.s (.c (.n) (.n)) (.j [6] (.b (.s (.r (rz 4 0 164)) (.s (.s (.r (ra 5 0 16 (.grp 34 false (ri 5 5 272) [39] (rz 1 10 0)))) (.c (.n) (.n))) (.s (.r (rz 5 0 528)) (.r (rz 7 0 2624)))))) (.r (rz 2 0 0)))))))))))))) (.s (.r (rz 4 0 16)) (.n)))))) func97 rfl (by kernel_rfl) (by kernel_rfl) h
def Yb (t0 t1 : Value) (w : World) (K : VW) : Prop:=
 lo w 22 t1 fun t4=>pp (Instr.build 57 #[(0,(Value.int .u8 5)),(3,t0)]) fun t6=>ca jw #[t4,t6] w fun t7 w1=>
 bt .gtr 3 t7 (i6 16) fun t8=>K t8 w1
theorem Jq {t0 t1 : Value} {w : World} {K : VW} (h : Yb t0 t1 w K) : zd prog kr #[t0,t1] w K:=
 okC false (.s (.r (rz 1 0 0)) (.s (.r (rz 6 0 129)) (.n))) func98 rfl (by kernel_rfl) (by kernel_rfl) h
def ZU (t0 t1 : Value) (w : World) (K : VW) : Prop:=
 pw w (Instr.box 57 t1) fun t3 w1=>
 fl w1 t3 57 0 55 fun t9=>bt .neq 55 t9 (Value.int .u8 5) fun t10=>zc t10 (K (i6 1) w1) (fl w1 t3 57 3 3 fun t13=>px 22 t0 t13 fun t14=>fl w1 t14 84 1 82 fun t16=>pp (Builtin.len_ #[82] 3 #[t16]) fun t17=>zn [(i6 0),(i6 0)] w1 (fun s3 _d4 w5 K2=>
 bf .lss 3 (s3.getD 1 undef) t17 fun t19=>zc t19 (xl w5 82 t16 (s3.getD 1 undef) 86 fun t21=>pw w5 (Instr.alloc 86 true (.tuple #[])) fun t7 w6=>
 so w6 86 t7 t21 fun w7=>fl w7 t7 86 1 57 fun t25=>ca jw #[t0,t25] w7 fun t26 w8=>
 bf .add 3 (s3.getD 0 undef) t26 fun t27=>bt .gtr 3 t27 (i6 16) fun t29=>zc t29 (K (i6 17) w8) (bt .add 3 (s3.getD 1 undef) (i6 1) fun t30=>K2 [t27,t30] w8)) (K (s3.getD 0 undef) w5)))
theorem XV {t0 t1 : Value} {w : World} {K : VW} (h : ZU t0 t1 w K) : zd prog jw #[t0,t1] w K:=
 okC false (.s (.r (rz 2 0 2)) (.s (.s (.r (rz 3 0 4)) (.c (.s (.r (rz 1 0 0)) (.n)) (.n))) (.s (.r (rz 1 0 0)) (.s (.s (.r (rz 8 0 1040)) (.b (.lp [5,18] (.s (.r (rz 1 0 0)) (.s (.c (.n) (.n)) (.s (.b (.s (.r (rz 4 0 164)) (.s (.r (rz 7 0 576)) (.s (.r (rz 2 0 0)) (.c (.s (.r (rz 1 0 0)) (.n)) (.n)))))) (.r (rz 2 0 0)))))))) (.s (.r (rz 2 0 0)) (.n)))))) func99 rfl (by kernel_rfl) (by kernel_rfl) h
def QM (t0 t1 : Value) (w : World) (K : VW) : Prop:=
 zn [(i6 0)] w (fun s2 _d3 w4 K1=>
 bf .lss 3 (s2.getD 0 undef) t0 fun t8=>zc t8 (cv t1 #[(s2.getD 0 undef)] w4 fun t12 w5=>
 zc t12 (K (s2.getD 0 undef) w5) (bt .add 3 (s2.getD 0 undef) (i6 1) fun t14=>K1 [t14] w5)) (K t0 w4))
theorem abK {t0 t1 : Value} {w : World} {K : VW} (h : QM t0 t1 w K) : zd prog ZL #[t0,t1] w K:=
 okC false (.s (.r (rz 1 0 0)) (.s (.s (.r (rz 2 0 0)) (.b (.lp [7] (.s (.r (rz 1 0 0)) (.s (.c (.n) (.n)) (.s (.b (.s (.r (rz 2 0 0)) (.s (.r (rz 3 0 32)) (.c (.s (.r (rz 2 0 0)) (.n)) (.n))))) (.r (rz 2 0 0)))))))) (.s (.r (rz 2 0 0)) (.n)))) func100 rfl (by kernel_rfl) (by kernel_rfl) h
def QN (t0 t1 : Value) (w : World) (K : VW) : Prop:=
 pw w (Instr.box 57 t0) fun t2 w1=>
 pw w1 (Instr.box 57 t1) fun t3 w2=>
 lo w2 57 t2 fun t5=>ca xp #[t5] w2 fun t6 w3=>
 za (fun K4=>gIf t6 true (lo w3 57 t3 fun t8=>ca xp #[t8] w3 fun t9 w8=>
 K4 [t9] w8) (K4 [undef] w3)) (fun s5 _d6 w7=>
 zb t6 (s5.getD 0 undef) fa_ fun t10=>za (fun K9=>gIf t10 true (lo w7 57 t2 fun t12=>lo w7 57 t3 fun t13=>ca kU #[t12,t13,(Value.func (.func 65) #[] #[])] w7 fun t14 w13=>
 K9 [t14] w13) (K9 [undef] w7)) (fun s10 _d11 w12=>
 zb t10 (s10.getD 0 undef) fa_ fun t15=>K t15 w12))
theorem abL {t0 t1 : Value} {w : World} {K : VW} (h : QN t0 t1 w K) : zd prog xy #[t0,t1] w K:=
 okC false (.s (.r (rz 3 0 10)) (.s (.r (ra 3 0 9 (.grp 7 true (ri 2 3 9) [9] (ra 2 5 0 (.grp 11 true (ri 3 7 37) [14] (rz 2 10 0)))))) (.n))) func21 rfl (by kernel_rfl) (by kernel_rfl) h
def XW (t0 t1 : Value) (w : World) (K : VW) : Prop:=
 pw w (Instr.box 57 t1) fun t3 w1=>
 lo w1 57 t3 fun t10=>ca jp #[t0,t10] w1 fun t11 w2=>
 pp (Op.unary .not t11) fun t12=>za (fun K3=>gIf t12 false (fl w2 t3 57 0 55 fun t15=>bt .neq 55 t15 (Value.int .u8 5) fun t16=>K3 [t16] w2) (K3 [undef] w2)) (fun s4 _d5 w6=>
 zb t12 tr_ (s4.getD 0 undef) fun t17=>zc t17 (K (.tuple #[(Value.slice Option.none 0 0),(i6 2)]) w6) (fl w6 t3 57 3 3 fun t20=>px 22 t0 t20 fun t21=>fl w6 t21 84 1 82 fun t23=>pp (Builtin.len_ #[82] 3 #[t23]) fun t24=>zn [(Value.slice Option.none 0 0),(i6 0)] w6 (fun s8 _d9 w10 K7=>
 bf .lss 3 (s8.getD 1 undef) t24 fun t26=>zc t26 (xl w10 82 t23 (s8.getD 1 undef) 86 fun t28=>pw w10 (Instr.alloc 86 true (.tuple #[])) fun t8 w11=>
 so w11 86 t8 t28 fun w12=>fl w12 t8 86 1 57 fun t31=>ca jo #[t31] w12 fun t32 w13=>
 pw w13 (Instr.buildSlice 29 1 #[(0,t32)]) fun t33 w14=>
 pw w14 (Builtin.append_ #[29,29] 29 #[(s8.getD 0 undef),t33]) fun t34 w15=>
 bt .add 3 (s8.getD 1 undef) (i6 1) fun t35=>K7 [t34,t35] w15) (K (.tuple #[(s8.getD 0 undef),(i6 0)]) w10))))
theorem aaM {t0 t1 : Value} {w : World} {K : VW} (h : XW t0 t1 w K) : zd prog Zb #[t0,t1] w K:=
 okC false (.s (.r (rz 3 0 2)) (.s (.s (.r (ra 5 0 36 (.grp 13 false (ri 3 5 4) [16] (rz 1 8 0)))) (.c (.s (.r (rz 2 0 0)) (.n)) (.n))) (.s (.r (rz 1 0 0)) (.s (.s (.r (rz 8 0 1040)) (.b (.lp [6,25] (.s (.r (rz 1 0 0)) (.s (.c (.n) (.n)) (.s (.b (.s (.r (rz 4 0 164)) (.r (rz 7 0 2704)))) (.r (rz 2 0 0)))))))) (.s (.r (rz 3 0 0)) (.n)))))) func114 rfl (by kernel_rfl) (by kernel_rfl) h
def QO (t0 t1 : Value) (w : World) (K : VW) : Prop:=
 pw w (Instr.box 57 t1) fun t3 w1=>
 lo w1 57 t3 fun t7=>ca jp #[t0,t7] w1 fun t8 w2=>
 pp (Op.unary .not t8) fun t9=>zc t9 (K (.tuple #[fa_,(i6 2)]) w2) (lo w2 57 t3 fun t11=>ca jx #[t0,t11] w2 fun t12 w3=>
 K (.tuple #[t12,(i6 0)]) w3)
theorem abM {t0 t1 : Value} {w : World} {K : VW} (h : QO t0 t1 w K) : zd prog ZM #[t0,t1] w K:=
 okC false (.s (.r (rz 3 0 2)) (.s (.s (.r (rz 4 0 36)) (.c (.s (.r (rz 2 0 0)) (.n)) (.n))) (.s (.r (rz 5 0 36)) (.n)))) func115 rfl (by kernel_rfl) (by kernel_rfl) h
def XX (t0 : Value) (w : World) (K : VW) : Prop:=
 pw w (Instr.box 57 t0) fun t1 w1=>
 lo w1 57 t1 fun t3=>ca xp #[t3] w1 fun t4 w2=>
 pp (Op.unary .not t4) fun t5=>zc t5 (K fa_ w2) (fl w2 t1 57 0 55 fun t7=>za (fun K3=>
 bt .eql 55 t7 (Value.int .u8 1) fun t9=>zc t9 (K3 [t9] w2) (bt .eql 55 t7 (Value.int .u8 2) fun t10=>K3 [t10] w2)) (fun s4 _d5 w6=>
 zc (s4.getD 0 undef) (K tr_ w6) (bt .eql 55 t7 (Value.int .u8 4) fun t12=>zc t12 (fl w6 t1 57 1 4 fun t14=>pp (Op.unary .not t14) fun t15=>K t15 w6) (K fa_ w6))))
theorem aaN {t0 : Value} {w : World} {K : VW} (h : XX t0 w K) : zd prog qW #[t0] w K:=
 okC false (.s (.r (rz 2 0 2)) (.s (.s (.r (rz 3 0 9)) (.c (.s (.r (rz 1 0 0)) (.n)) (.n))) (.s (.s (.r (rz 2 0 4)) (.b (.j [8] (.s (.r (rz 2 0 0)) (.c (.n) (.r (rz 2 0 0)))) (.c (.s (.r (rz 1 0 0)) (.n)) (.s (.r (rz 2 0 0)) (.c (.s (.r (rz 4 0 4)) (.n)) (.n))))))) (.s (.r (rz 1 0 0)) (.n))))) func20 rfl (by kernel_rfl) (by kernel_rfl) h
def QP (t0 t1 t2 : Value) (w : World) (K : VW) : Prop:=
 pw w (Instr.box 57 t0) fun t3 w1=>
 pw w1 (Instr.box 57 t1) fun t4 w2=>
 fl w2 t3 57 0 55 fun t8=>fl w2 t4 57 0 55 fun t10=>bf .neq 55 t8 t10 fun t11=>za (fun K3=>gIf t11 false (fl w2 t3 57 1 4 fun t14=>fl w2 t4 57 1 4 fun t16=>bf .neq 4 t14 t16 fun t17=>K3 [t17] w2) (K3 [undef] w2)) (fun s4 _d5 w6=>
 zb t11 tr_ (s4.getD 0 undef) fun t18=>za (fun K7=>gIf t18 false (fl w6 t3 57 3 3 fun t21=>fl w6 t4 57 3 3 fun t23=>bf .neq 3 t21 t23 fun t24=>K7 [t24] w6) (K7 [undef] w6)) (fun s8 _d9 w10=>
 zb t18 tr_ (s8.getD 0 undef) fun t25=>za (fun K11=>gIf t25 false (fl w10 t3 57 2 3 fun t29=>fl w10 t4 57 2 3 fun t31=>cv t2 #[t29,t31] w10 fun t32 w15=>
 pp (Op.unary .not t32) fun t33=>K11 [t33] w15) (K11 [undef] w10)) (fun s12 _d13 w14=>
 zb t25 tr_ (s12.getD 0 undef) fun t34=>zc t34 (K fa_ w14) (fl w14.drew t3 57 4 29 fun t36=>pp (Builtin.len_ #[29] 3 #[t36]) fun t37=>bt .eql 3 t37 (i6 0) fun t38=>za (fun K16=>gIf t38 false (fl w14.drew t3 57 4 29 fun t41=>xl w14.drew 29 t41 (i6 0) 57 fun t43=>fl w14.drew t4 57 4 29 fun t45=>xl w14.drew 29 t45 (i6 0) 57 fun t47=>ca kU #[t43,t47,t2] w14.drew fun t49 w20=>
 K16 [t49] w20) (K16 [undef] w14.drew)) (fun s17 _d18 w19=>
 zb t38 tr_ (s17.getD 0 undef) fun t50=>K t50 w19)))))
theorem abN {t0 t1 t2 : Value} {w : World} {K : VW} (h : QP t0 t1 t2 w K) : zd prog kU #[t0,t1,t2] w K:=
 okC false (.s (.r (rz 3 0 10)) (.s (.s (.r (ra 6 0 68 (.grp 12 false (ri 5 6 68) [17] (ra 2 11 0 (.grp 19 false (ri 5 13 68) [24] (ra 2 18 0 (.grp 26 false (ri 7 20 2320) [33] (rz 1 27 0)))))))) (.c (.s (.r (rz 1 0 0)) (.n)) (.n))) (.s (.r (ra 5 0 4 (.grp 39 false (ri 10 5 541764) [49] (rz 2 15 0)))) (.n)))) func64 rfl (by kernel_rfl) (by kernel_rfl) h
def Xj (_t0 _t1 : Value) (w : World) (K : VW) : Prop:=
 K tr_ w
theorem V6 {t0 t1 : Value} {w : World} {K : VW} (h : Xj t0 t1 w K) : zd prog Xd #[t0,t1] w K:=
 okC false (.s (.r (rz 1 0 0)) (.s (.r (rz 1 0 0)) (.n))) func65 rfl (by kernel_rfl) (by kernel_rfl) h
def ZV (t0 t1 : Value) (w : World) (K : VW) : Prop:=
 pw w (Instr.box 22 t0) fun t2 w1=>
 pw w1 (Instr.box 57 t1) fun t3 w2=>
 fl w2 t3 57 0 55 fun t6=>bt .eql 55 t6 (Value.int .u8 3) fun t8=>zc t8 (K tr_ w2) (bt .eql 55 t6 (Value.int .u8 5) fun t10=>zc t10 (lo w2 22 t2 fun t11=>fl w2 t3 57 3 3 fun t13=>px 22 t11 t13 fun t14=>fl w2 t14 84 1 82 fun t16=>pp (Instr.makeFunc (.func 183) #[] #[t2]) fun t17=>ca zM #[t16,t17] w2 fun t18 w3=>
 K t18 w3) (K fa_ w2))
theorem XY {t0 t1 : Value} {w : World} {K : VW} (h : ZV t0 t1 w K) : zd prog jx #[t0,t1] w K:=
 okC false (.s (.r (rz 3 0 10)) (.s (.s (.r (rz 2 0 4)) (.b (.s (.r (rz 2 0 0)) (.c (.s (.r (rz 1 0 0)) (.n)) (.s (.r (rz 2 0 0)) (.c (.s (.r (rz 9 0 33809)) (.n)) (.n))))))) (.s (.r (rz 1 0 0)) (.n)))) func148 rfl (by kernel_rfl) (by kernel_rfl) h
def Xk (t0 t1 : Value) (w : World) (K : VW) : Prop:=
 pw w (Instr.box 86 t0) fun t2 w1=>
 lo w1 22 t1 fun t4=>fl w1 t2 86 1 57 fun t6=>ca jx #[t4,t6] w1 fun t7 w2=>
 K t7 w2
theorem V7 {t0 t1 : Value} {w : World} {K : VW} (h : Xk t0 t1 w K) : zd prog aaI #[t0,t1] w K:=
 okC false (.s (.r (rz 2 0 2)) (.s (.r (rz 5 0 145)) (.n))) func183 rfl (by kernel_rfl) (by kernel_rfl) h
def Jr (t0 t1 : Value) (w : World) (K : VW) : Prop:=
 pw w (Instr.box 57 t0) fun t2 w1=>
 pw w1 (Instr.box 57 t1) fun t3 w2=>
 lo w2 57 t2 fun t5=>ca xp #[t5] w2 fun t6 w3=>
 za (fun K4=>gIf t6 true (lo w3 57 t3 fun t8=>ca xp #[t8] w3 fun t9 w8=>
 K4 [t9] w8) (K4 [undef] w3)) (fun s5 _d6 w7=>
 zb t6 (s5.getD 0 undef) fa_ fun t10=>za (fun K9=>gIf t10 true (lo w7 57 t2 fun t12=>lo w7 57 t3 fun t13=>ca kU #[t12,t13,(Value.func (.func 80) #[] #[])] w7 fun t14 w13=>
 K9 [t14] w13) (K9 [undef] w7)) (fun s10 _d11 w12=>
 zb t10 (s10.getD 0 undef) fa_ fun t15=>K t15 w12))
theorem acO {t0 t1 : Value} {w : World} {K : VW} (h : Jr t0 t1 w K) : zd prog qK #[t0,t1] w K:=
 okC false (.s (.r (rz 3 0 10)) (.s (.r (ra 3 0 9 (.grp 7 true (ri 2 3 9) [9] (ra 2 5 0 (.grp 11 true (ri 3 7 37) [14] (rz 2 10 0)))))) (.n))) func44 rfl (by kernel_rfl) (by kernel_rfl) h
def XZ (t0 t1 : Value) (w : World) (K : VW) : Prop:=
 bf .eql 3 t0 t1 fun t7=>K t7 w
theorem aaO {t0 t1 : Value} {w : World} {K : VW} (h : XZ t0 t1 w K) : zd prog XP #[t0,t1] w K:=
 okC false (.s (.r (rz 1 0 0)) (.s (.r (rz 4 0 0)) (.n))) func80 rfl (by kernel_rfl) (by kernel_rfl) h
end Go.Proofs.Tryz
end
section
namespace Go.Proofs.Tryz
open Go.Sh
set_option maxRecDepth 100000
def YP (t0 t1 : Value) (w : World) (K : VW) : Prop:=
 pw w (Instr.box 57 t0) fun t2 w1=>
 pw w1 (Instr.box 57 t1) fun t3 w2=>
 fl w2 t2 57 0 55 fun t7=>fl w2 t3 57 0 55 fun t9=>bf .neq 55 t7 t9 fun t10=>za (fun K3=>gIf t10 false (fl w2 t2 57 1 4 fun t13=>fl w2 t3 57 1 4 fun t15=>bf .neq 4 t13 t15 fun t16=>K3 [t16] w2) (K3 [undef] w2)) (fun s4 _d5 w6=>
 zb t10 tr_ (s4.getD 0 undef) fun t17=>za (fun K7=>gIf t17 false (fl w6 t2 57 2 3 fun t20=>fl w6 t3 57 2 3 fun t22=>bf .neq 3 t20 t22 fun t23=>K7 [t23] w6) (K7 [undef] w6)) (fun s8 _d9 w10=>
 zb t17 tr_ (s8.getD 0 undef) fun t24=>za (fun K11=>gIf t24 false (fl w10 t2 57 3 3 fun t27=>fl w10 t3 57 3 3 fun t29=>bf .neq 3 t27 t29 fun t30=>K11 [t30] w10) (K11 [undef] w10)) (fun s12 _d13 w14=>
 zb t24 tr_ (s12.getD 0 undef) fun t31=>za (fun K15=>gIf t31 false (fl w14 t2 57 4 29 fun t34=>pp (Builtin.len_ #[29] 3 #[t34]) fun t35=>fl w14 t3 57 4 29 fun t37=>pp (Builtin.len_ #[29] 3 #[t37]) fun t38=>bf .neq 3 t35 t38 fun t39=>K15 [t39] w14) (K15 [undef] w14)) (fun s16 _d17 w18=>
 zb t31 tr_ (s16.getD 0 undef) fun t40=>zc t40 (K fa_ w18) (zn [(i6 0)] w18 (fun s20 _d21 w22 K19=>
 fl w22 t2 57 4 29 fun t43=>pp (Builtin.len_ #[29] 3 #[t43]) fun t44=>bf .lss 3 (s20.getD 0 undef) t44 fun t45=>zc t45 (fl w22.drew t2 57 4 29 fun t49=>xl w22.drew 29 t49 (s20.getD 0 undef) 57 fun t52=>fl w22.drew t3 57 4 29 fun t54=>xl w22.drew 29 t54 (s20.getD 0 undef) 57 fun t57=>ca xk #[t52,t57] w22.drew fun t58 w23=>
 pp (Op.unary .not t58) fun t59=>zc t59 (K fa_ w23) (bt .add 3 (s20.getD 0 undef) (i6 1) fun t47=>K19 [t47] w23)) (K tr_ w22)))))))
theorem Vt {t0 t1 : Value} {w : World} {K : VW} (h : YP t0 t1 w K) : zd prog xk #[t0,t1] w K:=
 okC false (.s (.r (rz 3 0 10)) (.s (.s (.r (ra 6 0 68 (.grp 11 false (ri 5 6 68) [16] (ra 2 11 0 (.grp 18 false (ri 5 13 68) [23] (ra 2 18 0 (.grp 25 false (ri 5 20 68) [30] (ra 2 25 0 (.grp 32 false (ri 7 27 260) [39] (rz 1 34 0)))))))))) (.c (.s (.r (rz 1 0 0)) (.n)) (.n))) (.s (.s (.r (rz 1 0 0)) (.b (.lp [5] (.s (.s (.r (rz 5 0 16)) (.c (.n) (.n))) (.s (.b (.s (.r (rz 12 0 2363652)) (.c (.s (.r (rz 1 0 0)) (.n)) (.n)))) (.r (rz 3 0 0))))))) (.s (.r (rz 1 0 0)) (.n))))) func31 rfl (by kernel_rfl) (by kernel_rfl) h
def aaP (t0 : Value) (w : World) (K : VW) : Prop:=
 pw w (Instr.box 57 t0) fun t1 w1=>
 lo w1 57 t1 fun t3=>ca xJ #[t3,(i6 32),(i6 48)] w1 fun t4 w2=>
 K t4 w2
theorem aeT {t0 : Value} {w : World} {K : VW} (h : aaP t0 w K) : zd prog Yi #[t0] w K:=
 okC false (.s (.r (rz 2 0 2)) (.s (.r (rz 3 0 9)) (.n))) func187 rfl (by kernel_rfl) (by kernel_rfl) h
def YQ (t0 t1 t2 : Value) (w : World) (K : VW) : Prop:=
 pw w (Instr.box 57 t0) fun t3 w1=>
 bt .lss 3 t2 (i6 1) fun t8=>zc t8 (K fa_ w1) (fl w1 t3 57 0 55 fun t10=>za (fun K2=>
 bt .eql 55 t10 (Value.int .u8 1) fun t12=>zc t12 (K2 [t12] w1) (bt .eql 55 t10 (Value.int .u8 2) fun t13=>K2 [t13] w1)) (fun s3 _d4 w5=>
 zc (s3.getD 0 undef) (fl w5 t3 57 1 4 fun t15=>pp (Op.unary .not t15) fun t16=>za (fun K6=>gIf t16 true (fl w5 t3 57 2 3 fun t19=>bt .eql 3 t19 (i6 0) fun t20=>K6 [t20] w5) (K6 [undef] w5)) (fun s7 _d8 w9=>
 zb t16 (s7.getD 0 undef) fa_ fun t21=>za (fun K10=>gIf t21 true (fl w9 t3 57 3 3 fun t24=>bt .eql 3 t24 (i6 0) fun t25=>K10 [t25] w9) (K10 [undef] w9)) (fun s11 _d12 w13=>
 zb t21 (s11.getD 0 undef) fa_ fun t26=>za (fun K14=>gIf t26 true (fl w13 t3 57 4 29 fun t29=>pp (Builtin.len_ #[29] 3 #[t29]) fun t30=>bt .eql 3 t30 (i6 0) fun t31=>K14 [t31] w13) (K14 [undef] w13)) (fun s15 _d16 w17=>
 zb t26 (s15.getD 0 undef) fa_ fun t32=>K t32 w17)))) (bt .eql 55 t10 (Value.int .u8 5) fun t34=>zc t34 (fl w5 t3 57 1 4 fun t36=>pp (Op.unary .not t36) fun t37=>za (fun K18=>gIf t37 true (fl w5 t3 57 2 3 fun t40=>bt .eql 3 t40 (i6 0) fun t41=>K18 [t41] w5) (K18 [undef] w5)) (fun s19 _d20 w21=>
 zb t37 (s19.getD 0 undef) fa_ fun t42=>za (fun K22=>gIf t42 true (fl w21 t3 57 3 3 fun t45=>bt .geq 3 t45 (i6 0) fun t46=>K22 [t46] w21) (K22 [undef] w21)) (fun s23 _d24 w25=>
 zb t42 (s23.getD 0 undef) fa_ fun t47=>za (fun K26=>gIf t47 true (fl w25 t3 57 3 3 fun t50=>bf .lss 3 t50 t1 fun t52=>K26 [t52] w25) (K26 [undef] w25)) (fun s27 _d28 w29=>
 zb t47 (s27.getD 0 undef) fa_ fun t53=>za (fun K30=>gIf t53 true (fl w29 t3 57 4 29 fun t56=>pp (Builtin.len_ #[29] 3 #[t56]) fun t57=>bt .eql 3 t57 (i6 0) fun t58=>K30 [t58] w29) (K30 [undef] w29)) (fun s31 _d32 w33=>
 zb t53 (s31.getD 0 undef) fa_ fun t59=>K t59 w33))))) (bt .eql 55 t10 (Value.int .u8 3) fun t61=>zc t61 (fl w5 t3 57 1 4 fun t63=>pp (Op.unary .not t63) fun t64=>za (fun K34=>gIf t64 true (fl w5 t3 57 2 3 fun t67=>bt .eql 3 t67 (i6 0) fun t68=>K34 [t68] w5) (K34 [undef] w5)) (fun s35 _d36 w37=>
 zb t64 (s35.getD 0 undef) fa_ fun t69=>za (fun K38=>gIf t69 true (fl w37 t3 57 3 3 fun t72=>bt .eql 3 t72 (i6 0) fun t73=>K38 [t73] w37) (K38 [undef] w37)) (fun s39 _d40 w41=>
 zb t69 (s39.getD 0 undef) fa_ fun t74=>za (fun K42=>gIf t74 true (fl w41 t3 57 4 29 fun t77=>pp (Builtin.len_ #[29] 3 #[t77]) fun t78=>bt .eql 3 t78 (i6 1) fun t79=>K42 [t79] w41) (K42 [undef] w41)) (fun s43 _d44 w45=>
 zb t74 (s43.getD 0 undef) fa_ fun t80=>za (fun K46=>gIf t80 true (fl w45 t3 57 4 29 fun t83=>xl w45 29 t83 (i6 0) 57 fun t85=>bt .sub 3 t2 (i6 1) fun t88=>ca xJ #[t85,t1,t88] w45 fun t89 w50=>
 K46 [t89] w50) (K46 [undef] w45)) (fun s47 _d48 w49=>
 zb t80 (s47.getD 0 undef) fa_ fun t90=>K t90 w49))))) (bt .eql 55 t10 (Value.int .u8 4) fun t92=>zc t92 (fl w5 t3 57 2 3 fun t94=>bt .geq 3 t94 (i6 (-1)) fun t95=>za (fun K51=>gIf t95 true (fl w5 t3 57 3 3 fun t98=>bt .eql 3 t98 (i6 0) fun t99=>K51 [t99] w5) (K51 [undef] w5)) (fun s52 _d53 w54=>
 zb t95 (s52.getD 0 undef) fa_ fun t100=>za (fun K55=>gIf t100 true (fl w54 t3 57 4 29 fun t103=>pp (Builtin.len_ #[29] 3 #[t103]) fun t104=>bt .eql 3 t104 (i6 1) fun t105=>K55 [t105] w54) (K55 [undef] w54)) (fun s56 _d57 w58=>
 zb t100 (s56.getD 0 undef) fa_ fun t106=>za (fun K59=>gIf t106 true (fl w58 t3 57 4 29 fun t109=>xl w58 29 t109 (i6 0) 57 fun t111=>bt .sub 3 t2 (i6 1) fun t114=>ca xJ #[t111,t1,t114] w58 fun t115 w63=>
 K59 [t115] w63) (K59 [undef] w58)) (fun s60 _d61 w62=>
 zb t106 (s60.getD 0 undef) fa_ fun t116=>K t116 w62)))) (K fa_ w5))))))
theorem QQ {t0 t1 t2 : Value} {w : World} {K : VW} (h : YQ t0 t1 t2 w K) : zd prog xJ #[t0,t1,t2] w K:=
 okC false (.s (.r (rz 2 0 2)) (.s (.s (.r (rz 2 0 0)) (.c (.s (.r (rz 1 0 0)) (.n)) (.n))) (.s (.s (.r (rz 2 0 4)) (.b (.j [11] (.s (.r (rz 2 0 0)) (.c (.n) (.r (rz 2 0 0)))) (.c (.s (.r (ra 4 0 4 (.grp 17 true (ri 3 4 4) [20] (ra 2 7 0 (.grp 22 true (ri 3 9 4) [25] (ra 2 12 0 (.grp 27 true (ri 4 14 4) [31] (rz 2 18 0)))))))) (.n)) (.s (.r (rz 2 0 0)) (.c (.s (.r (ra 4 0 4 (.grp 38 true (ri 3 4 4) [41] (ra 2 7 0 (.grp 43 true (ri 3 9 4) [46] (ra 2 12 0 (.grp 48 true (ri 4 14 4) [52] (ra 2 18 0 (.grp 54 true (ri 4 20 4) [58] (rz 2 24 0)))))))))) (.n)) (.s (.r (rz 2 0 0)) (.c (.s (.r (ra 4 0 4 (.grp 65 true (ri 3 4 4) [68] (ra 2 7 0 (.grp 70 true (ri 3 9 4) [73] (ra 2 12 0 (.grp 75 true (ri 4 14 4) [79] (ra 2 18 0 (.grp 81 true (ri 8 20 32836) [89] (rz 2 28 0)))))))))) (.n)) (.s (.r (rz 2 0 0)) (.c (.s (.r (ra 4 0 4 (.grp 96 true (ri 3 4 4) [99] (ra 2 7 0 (.grp 101 true (ri 4 9 4) [105] (ra 2 13 0 (.grp 107 true (ri 8 15 32836) [115] (rz 2 23 0)))))))) (.n)) (.n))))))))))) (.s (.r (rz 1 0 0)) (.n))))) func197 rfl (by kernel_rfl) (by kernel_rfl) h
def Xl (t0 : Value) (w : World) (K : VW) : Prop:=
 pw w (Instr.box 57 t0) fun t1 w1=>
 lo w1 57 t1 fun t4=>ca Yi #[t4] w1 fun t5 w2=>
 pp (Op.unary .not t5) fun t6=>zc t6 (K (Value.slice Option.none 0 0) w2) (zn [(Value.slice Option.none 0 0)] w2 (fun s4 _d5 w6 K3=>
 fl w6 t1 57 0 55 fun t8=>bt .eql 55 t8 (Value.int .u8 4) fun t9=>za (fun K7=>gIf t9 false (fl w6 t1 57 0 55 fun t12=>bt .eql 55 t12 (Value.int .u8 3) fun t13=>K7 [t13] w6) (K7 [undef] w6)) (fun s8 _d9 w10=>
 zb t9 tr_ (s8.getD 0 undef) fun t14=>zc t14 (za (fun K11=>
 fl w10 t1 57 0 55 fun t16=>bt .eql 55 t16 (Value.int .u8 4) fun t17=>zc t17 (fl w10 t1 57 2 3 fun t20=>pw w10 (Instr.buildSlice 67 1 #[(0,t20)]) fun t21 w15=>
 pw w15 (Builtin.append_ #[67,67] 67 #[(s4.getD 0 undef),t21]) fun t22 w16=>
 K11 [t22] w16) (K11 [(s4.getD 0 undef)] w10)) (fun s12 _d13 w14=>
 fl w14 t1 57 4 29 fun t24=>xl w14 29 t24 (i6 0) 57 fun t26=>so w14 57 t1 t26 fun w17=>K3 [(s12.getD 0 undef)] w17)) (K (s4.getD 0 undef) w10))))
theorem V8 {t0 : Value} {w : World} {K : VW} (h : Xl t0 w K) : zd prog qB #[t0] w K:=
 okC false (.s (.r (rz 2 0 2)) (.s (.s (.r (rz 3 0 9)) (.c (.s (.r (rz 1 0 0)) (.n)) (.n))) (.s (.r (rz 1 0 0)) (.s (.b (.lp [3] (.s (.s (.r (ra 4 0 4 (.grp 10 false (ri 3 4 4) [13] (rz 1 7 0)))) (.c (.n) (.n))) (.b (.j [3] (.s (.r (rz 3 0 4)) (.c (.r (rz 6 0 656)) (.n))) (.r (rz 5 0 580))))))) (.s (.r (rz 2 0 0)) (.n)))))) func158 rfl (by kernel_rfl) (by kernel_rfl) h
def X0 (t0 t1 : Value) (w : World) (K : VW) : Prop:=
 pw w (Instr.box 57 t1) fun t3 w1=>
 lo w1 57 t3 fun t10=>ca Zm #[t0,t10] w1 fun t11 w2=>
 pp (Op.unary .not t11) fun t12=>za (fun K3=>gIf t12 false (fl w2 t3 57 0 55 fun t15=>bt .neq 55 t15 (Value.int .u8 5) fun t16=>K3 [t16] w2) (K3 [undef] w2)) (fun s4 _d5 w6=>
 zb t12 tr_ (s4.getD 0 undef) fun t17=>zc t17 (K (.tuple #[(Value.slice Option.none 0 0),(i6 2)]) w6) (fl w6 t3 57 3 3 fun t20=>px 22 t0 t20 fun t21=>fl w6 t21 84 1 82 fun t23=>zn [(Value.slice Option.none 0 0),(i6 0)] w6 (fun s8 _d9 w10 K7=>
 pp (Builtin.len_ #[82] 3 #[t23]) fun t26=>bf .lss 3 (s8.getD 1 undef) t26 fun t27=>zc t27 (px 82 t23 (s8.getD 1 undef) fun t33=>fl w10 t33 86 1 57 fun t35=>ca Zn #[t35] w10 fun t36 w11=>
 pw w11 (Instr.buildSlice 29 1 #[(0,t36)]) fun t37 w12=>
 pw w12 (Builtin.append_ #[29,29] 29 #[(s8.getD 0 undef),t37]) fun t38 w13=>
 bt .add 3 (s8.getD 1 undef) (i6 1) fun t29=>K7 [t38,t29] w13) (K (.tuple #[(s8.getD 0 undef),(i6 0)]) w10))))
theorem aaQ {t0 t1 : Value} {w : World} {K : VW} (h : X0 t0 t1 w K) : zd prog Zc #[t0,t1] w K:=
 okC false (.s (.r (rz 3 0 2)) (.s (.s (.r (ra 5 0 36 (.grp 13 false (ri 3 5 4) [16] (rz 1 8 0)))) (.c (.s (.r (rz 2 0 0)) (.n)) (.n))) (.s (.r (rz 1 0 0)) (.s (.r (rz 7 0 1040)) (.s (.s (.r (rz 1 0 0)) (.b (.lp [6,8] (.s (.s (.r (rz 4 0 0)) (.c (.n) (.n))) (.s (.b (.r (rz 10 0 173056))) (.r (rz 3 0 0))))))) (.s (.r (rz 3 0 0)) (.n))))))) func168 rfl (by kernel_rfl) (by kernel_rfl) h
def QR (t0 t1 : Value) (w : World) (K : VW) : Prop:=
 pw w (Instr.box 57 t1) fun t3 w1=>
 lo w1 57 t3 fun t7=>ca Zm #[t0,t7] w1 fun t8 w2=>
 pp (Op.unary .not t8) fun t9=>zc t9 (K (.tuple #[fa_,(i6 2)]) w2) (lo w2 57 t3 fun t11=>ca jy #[t0,t11] w2 fun t12 w3=>
 K (.tuple #[t12,(i6 0)]) w3)
theorem abO {t0 t1 : Value} {w : World} {K : VW} (h : QR t0 t1 w K) : zd prog ZN #[t0,t1] w K:=
 okC false (.s (.r (rz 3 0 2)) (.s (.s (.r (rz 4 0 36)) (.c (.s (.r (rz 2 0 0)) (.n)) (.n))) (.s (.r (rz 5 0 36)) (.n)))) func170 rfl (by kernel_rfl) (by kernel_rfl) h
def X1 (t0 : Value) (w : World) (K : VW) : Prop:=
 pw w (Instr.box 57 t0) fun t1 w1=>
 lo w1 57 t1 fun t3=>ca Yi #[t3] w1 fun t4 w2=>
 za (fun K3=>gIf t4 true (fl w2 t1 57 0 55 fun t7=>bt .eql 55 t7 (Value.int .u8 1) fun t8=>K3 [t8] w2) (K3 [undef] w2)) (fun s4 _d5 w6=>
 za (fun K7=>gIf (s4.getD 0 undef) false (fl w6 t1 57 0 55 fun t11=>bt .eql 55 t11 (Value.int .u8 2) fun t12=>K7 [t12] w6) (K7 [undef] w6)) (fun s8 _d9 w10=>
 za (fun K11=>gIf t4 true (zb (s4.getD 0 undef) tr_ (s8.getD 0 undef) fun t13=>K11 [t13] w10) (K11 [undef] w10)) (fun s12 _d13 w14=>
 za (fun K15=>gIf (s12.getD 0 undef) false (fl w14 t1 57 0 55 fun t16=>bt .eql 55 t16 (Value.int .u8 4) fun t17=>K15 [t17] w14) (K15 [undef] w14)) (fun s16 _d17 w18=>
 za (fun K19=>gIf (s16.getD 0 undef) true (fl w18 t1 57 1 4 fun t20=>pp (Op.unary .not t20) fun t21=>K19 [t21] w18) (K19 [undef] w18)) (fun s20 _d21 w22=>
 za (fun K23=>gIf (s12.getD 0 undef) false (zb (s16.getD 0 undef) (s20.getD 0 undef) fa_ fun t22=>K23 [t22] w22) (K23 [undef] w22)) (fun s24 _d25 w26=>
 za (fun K27=>gIf t4 true (zb (s12.getD 0 undef) tr_ (s24.getD 0 undef) fun t23=>K27 [t23] w26) (K27 [undef] w26)) (fun s28 _d29 w30=>
 zb t4 (s28.getD 0 undef) fa_ fun t24=>K t24 w30)))))))
theorem aaR {t0 : Value} {w : World} {K : VW} (h : X1 t0 w K) : zd prog qX #[t0] w K:=
 okC false (.s (.r (rz 2 0 2)) (.s (.r (ra 3 0 9 (.grp 5 true (ri 4 3 4) [9] (.grp 9 false (ri 3 7 4) [12] (.grp 5 true (ri 2 10 0) [14] (.grp 14 false (ri 4 12 4) [18] (.grp 18 true (ri 3 16 4) [21] (.grp 14 false (ri 1 19 0) [22] (.grp 5 true (ri 1 20 0) [23] (rz 2 21 0)))))))))) (.n))) func189 rfl (by kernel_rfl) (by kernel_rfl) h
def VN (t0 t1 : Value) (w : World) (K : VW) : Prop:=
 pw w (Instr.box 57 t1) fun t3 w1=>
 ca vj #[t0] w1 fun t9 w2=>
 pe t9 0 fun _t10=>pe t9 1 fun t11=>bt .eql 3 t11 (i6 0) fun t13=>za (fun K3=>gIf t13 true (lo w2 57 t3 fun t15=>pp (Builtin.len_ #[22] 3 #[t0]) fun t17=>ca xJ #[t15,t17,(i6 48)] w2 fun t18 w7=>
 K3 [t18] w7) (K3 [undef] w2)) (fun s4 _d5 w6=>
 zb t13 (s4.getD 0 undef) fa_ fun t19=>K t19 w6)
theorem ad5 {t0 t1 : Value} {w : World} {K : VW} (h : VN t0 t1 w K) : zd prog Zm #[t0,t1] w K:=
 okC false (.s (.r (rz 2 0 2)) (.s (.r (rz 7 0 8)) (.s (.r (ra 3 0 0 (.grp 14 true (ri 4 3 129) [18] (rz 2 7 0)))) (.n)))) func191 rfl (by kernel_rfl) (by kernel_rfl) h
def VO (t0 : Value) (w : World) (K : VW) : Prop:=
 pw w (Instr.box 57 t0) fun t1 w1=>
 pw w1 (Instr.alloc 57 true (.tuple #[])) fun t2 w2=>
 fl w2 t1 57 4 29 fun t6=>pf 57 t1 4 fun t7=>so w2 29 t7 (Value.slice Option.none 0 0) fun w3=>zn [(i6 0)] w3 (fun s5 _d6 w7 K4=>
 pp (Builtin.len_ #[29] 3 #[t6]) fun t10=>bf .lss 3 (s5.getD 0 undef) t10 fun t11=>zc t11 (fl w7.drew t1 57 4 29 fun t15=>xl w7.drew 29 t6 (s5.getD 0 undef) 57 fun t19=>ca Zn #[t19] w7.drew fun t20 w8=>
 Ext w7.drew w8∧
 pw w8 (Instr.buildSlice 29 1 #[(0,t20)]) fun t21 w9=>
 Ext w8 w9∧
 pw w9 (Builtin.append_ #[29,29] 29 #[t15,t21]) fun t22 w10=>
 pf 57 t1 4 fun t23=>so w10 29 t23 t22 fun w11=>bt .add 3 (s5.getD 0 undef) (i6 1) fun t13=>K4 [t13] w11) (lo w7 57 t1 fun t24=>so w7 57 t2 t24 fun w12=>pq w12 (zt 57 t2) fun r13=>K r13 w12))
theorem ad6 {t0 : Value} {w : World} {K : VW} (h : VO t0 w K) : zd prog Zn #[t0] w K:=
 okC false (.s (.r (rz 2 0 10)) (.s (.r (rz 3 0 4)) (.s (.r (rz 2 0 8)) (.s (.s (.r (rz 1 0 0)) (.b (.lp [4] (.s (.s (.r (rz 4 0 0)) (.c (.n) (.n))) (.s (.b (.r (rz 11 0 2290692))) (.r (rz 3 0 0))))))) (.s (.r (rz 2 0 9)) (.n)))))) func36 rfl (by kernel_rfl) (by kernel_rfl) h
def ZW (t0 t1 : Value) (w : World) (K : VW) : Prop:=
 pw w (Instr.box 57 t1) fun t3 w1=>
 fl w1 t3 57 0 55 fun t8=>bt .neq 55 t8 (Value.int .u8 5) fun t9=>zc t9 (fl w1 t3 57 0 55 fun t11=>bt .eql 55 t11 (Value.int .u8 3) fun t12=>K t12 w1) (fl w1 t3 57 3 3 fun t15=>px 22 t0 t15 fun t16=>fl w1 t16 84 1 82 fun t18=>zn [(i6 0)] w1 (fun s3 _d4 w5 K2=>
 pp (Builtin.len_ #[82] 3 #[t18]) fun t21=>bf .lss 3 (s3.getD 0 undef) t21 fun t22=>zc t22 (px 82 t18 (s3.getD 0 undef) fun t28=>fl w5 t28 86 1 57 fun t30=>ca jy #[t0,t30] w5 fun t31 w6=>
 zc t31 (K tr_ w6) (bt .add 3 (s3.getD 0 undef) (i6 1) fun t24=>K2 [t24] w6)) (K fa_ w5)))
theorem X2 {t0 t1 : Value} {w : World} {K : VW} (h : ZW t0 t1 w K) : zd prog jy #[t0,t1] w K:=
 okC false (.s (.r (rz 2 0 2)) (.s (.s (.r (rz 3 0 4)) (.c (.s (.r (rz 4 0 4)) (.n)) (.n))) (.s (.r (rz 7 0 1040)) (.s (.s (.r (rz 1 0 0)) (.b (.lp [6] (.s (.s (.r (rz 4 0 0)) (.c (.n) (.n))) (.s (.b (.s (.r (rz 7 0 9216)) (.c (.s (.r (rz 1 0 0)) (.n)) (.n)))) (.r (rz 3 0 0))))))) (.s (.r (rz 1 0 0)) (.n)))))) func192 rfl (by kernel_rfl) (by kernel_rfl) h
def Xm (t0 : Value) (w : World) (K : VW) : Prop:=
 pp (Builtin.len_ #[22] 3 #[t0]) fun t10=>bt .gtr 3 t10 (i6 32) fun t11=>zc t11 (K (.tuple #[(i6 32),(i6 2)]) w) (zn [(i6 0)] w (fun s2 _d3 w4 K1=>
 pp (Builtin.len_ #[22] 3 #[t0]) fun t14=>bf .lss 3 (s2.getD 0 undef) t14 fun t15=>zc t15 (px 22 t0 (s2.getD 0 undef) fun t20=>fl w4 t20 84 1 82 fun t22=>pp (Builtin.len_ #[82] 3 #[t22]) fun t24=>bt .lss 3 t24 (i6 1) fun t25=>za (fun K5=>gIf t25 false (pp (Builtin.len_ #[82] 3 #[t22]) fun t28=>bt .gtr 3 t28 (i6 8) fun t29=>K5 [t29] w4) (K5 [undef] w4)) (fun s6 _d7 w8=>
 zb t25 tr_ (s6.getD 0 undef) fun t30=>zc t30 (K (.tuple #[(s2.getD 0 undef),(i6 2)]) w8) (zn [(i6 0)] w8 (fun s10 _d11 w12 K9=>
 pp (Builtin.len_ #[82] 3 #[t22]) fun t34=>bf .lss 3 (s10.getD 0 undef) t34 fun t35=>zc t35 (px 82 t22 (s10.getD 0 undef) fun t40=>fl w12 t40 86 1 57 fun t42=>pp (Builtin.len_ #[22] 3 #[t0]) fun t44=>ca xJ #[t42,t44,(i6 48)] w12 fun t45 w13=>
 pp (Op.unary .not t45) fun t46=>za (fun K14=>gIf t46 false (px 82 t22 (s10.getD 0 undef) fun t50=>fl w13 t50 86 1 57 fun t52=>ca jz #[t52] w13 fun t53 w18=>
 pp (Op.unary .not t53) fun t54=>K14 [t54] w18) (K14 [undef] w13)) (fun s15 _d16 w17=>
 zb t46 tr_ (s15.getD 0 undef) fun t55=>zc t55 (K (.tuple #[(s2.getD 0 undef),(i6 2)]) w17) (bt .add 3 (s10.getD 0 undef) (i6 1) fun t37=>K9 [t37] w17))) (bt .add 3 (s2.getD 0 undef) (i6 1) fun t17=>K1 [t17] w12))))) (zn [(i6 0)] w4 (fun s20 _d21 w22 K19=>
 pp (Builtin.len_ #[22] 3 #[t0]) fun t59=>bf .lss 3 (s20.getD 0 undef) t59 fun t60=>zc t60 (ca vk #[t0,(s20.getD 0 undef)] w22 fun t65 w23=>
 zc t65 (K (.tuple #[(s20.getD 0 undef),(i6 2)]) w23) (bt .add 3 (s20.getD 0 undef) (i6 1) fun t62=>K19 [t62] w23)) (zn [(i6 0)] w22 (fun s25 _d26 w27 K24=>
 pp (Builtin.len_ #[22] 3 #[t0]) fun t69=>bf .lss 3 (s25.getD 0 undef) t69 fun t70=>zc t70 (pp (Instr.build 57 #[(0,(Value.int .u8 5)),(3,(s25.getD 0 undef))]) fun t75=>ca jA #[t0,t75,(i6 16)] w27 fun t76 w28=>
 bt .gtr 3 t76 (i6 16) fun t77=>zc t77 (K (.tuple #[(s25.getD 0 undef),(i6 2)]) w28) (bt .add 3 (s25.getD 0 undef) (i6 1) fun t72=>K24 [t72] w28)) (K (.tuple #[(i6 0),(i6 0)]) w27)))))))
theorem V9 {t0 : Value} {w : World} {K : VW} (h : Xm t0 w K) : zd prog vj #[t0] w K:=
 okC false (.s (.r (rz 2 0 0)) (.s (.s (.r (rz 3 0 0)) (.c (.s (.r (rz 2 0 0)) (.n)) (.n))) (.s (.s (.r (rz 1 0 0)) (.b (.lp [4] (.s (.s (.r (rz 4 0 0)) (.c (.n) (.n))) (.s (.b (.s (.r (rz 6 0 256)) (.s (.s (.r (ra 4 0 0 (.grp 26 false (ri 3 4 0) [29] (rz 1 7 0)))) (.c (.s (.r (rz 3 0 0)) (.n)) (.n))) (.s (.r (rz 1 0 0)) (.b (.lp [6] (.s (.s (.r (rz 4 0 0)) (.c (.n) (.n))) (.s (.b (.s (.r (ra 10 0 33024 (.grp 47 false (ri 7 10 2304) [54] (rz 1 17 0)))) (.c (.s (.r (rz 3 0 0)) (.n)) (.n)))) (.r (rz 3 0 0)))))))))) (.r (rz 3 0 0))))))) (.s (.s (.r (rz 1 0 0)) (.b (.lp [7] (.s (.s (.r (rz 4 0 0)) (.c (.n) (.n))) (.s (.b (.s (.r (rz 3 0 32)) (.c (.s (.r (rz 3 0 0)) (.n)) (.n)))) (.r (rz 3 0 0))))))) (.s (.s (.r (rz 1 0 0)) (.b (.lp [8] (.s (.s (.r (rz 4 0 0)) (.c (.n) (.n))) (.s (.b (.s (.r (rz 5 0 128)) (.c (.s (.r (rz 3 0 0)) (.n)) (.n)))) (.r (rz 3 0 0))))))) (.s (.r (rz 2 0 0)) (.n))))))) func198 rfl (by kernel_rfl) (by kernel_rfl) h
def QS (t0 : Value) (w : World) (K : VW) : Prop:=
 pw w (Instr.box 57 t0) fun t1 w1=>
 fl w1 t1 57 0 55 fun t4=>bt .neq 55 t4 (Value.int .u8 4) fun t5=>za (fun K2=>gIf t5 true (fl w1 t1 57 0 55 fun t8=>bt .neq 55 t8 (Value.int .u8 3) fun t9=>K2 [t9] w1) (K2 [undef] w1)) (fun s3 _d4 w5=>
 za (fun K6=>gIf (s3.getD 0 undef) false (fl w5 t1 57 4 29 fun t12=>xl w5 29 t12 (i6 0) 57 fun t14=>ca jz #[t14] w5 fun t15 w10=>
 K6 [t15] w10) (K6 [undef] w5)) (fun s7 _d8 w9=>
 za (fun K11=>gIf t5 true (zb (s3.getD 0 undef) tr_ (s7.getD 0 undef) fun t16=>K11 [t16] w9) (K11 [undef] w9)) (fun s12 _d13 w14=>
 zb t5 (s12.getD 0 undef) fa_ fun t17=>K t17 w14)))
theorem abP {t0 : Value} {w : World} {K : VW} (h : QS t0 w K) : zd prog jz #[t0] w K:=
 okC false (.s (.r (rz 2 0 2)) (.s (.r (ra 4 0 4 (.grp 6 true (ri 4 4 4) [10] (.grp 10 false (ri 5 8 580) [15] (.grp 6 true (ri 1 13 0) [16] (rz 2 14 0)))))) (.n))) func199 rfl (by kernel_rfl) (by kernel_rfl) h
def Xn (t0 t1 : Value) (w : World) (K : VW) : Prop:=
 pp (Builtin.len_ #[22] 3 #[t0]) fun t12=>pw w (Instr.makeSlice 212 t12 t12) fun t13 w1=>
 pw w1 (Instr.buildSlice 67 1 #[(0,t1)]) fun t16 w2=>
 pw w2 (Builtin.append_ #[67,67] 67 #[(Value.slice Option.none 0 0),t16]) fun t17 w3=>
 zn [t17,(i6 0)] w3 (fun s5 _d6 w7 K4=>
 pp (Builtin.len_ #[67] 3 #[(s5.getD 0 undef)]) fun t20=>bf .lss 3 (s5.getD 1 undef) t20 fun t21=>zc t21 (xl w7 67 (s5.getD 0 undef) (s5.getD 1 undef) 3 fun t28=>px 22 t0 t28 fun t29=>fl w7 t29 84 1 82 fun t31=>zn [(s5.getD 0 undef),(i6 0)] w7 (fun s9 _d10 w11 K8=>
 pp (Builtin.len_ #[82] 3 #[t31]) fun t34=>bf .lss 3 (s9.getD 1 undef) t34 fun t35=>zc t35 (za (fun K12=>
 px 82 t31 (s9.getD 1 undef) fun t40=>fl w11 t40 86 1 57 fun t42=>pw w11 (Instr.alloc 57 true (.tuple #[])) fun t10 w16=>
 so w16 57 t10 t42 fun w17=>fl w17 t10 57 0 55 fun t44=>bt .neq 55 t44 (Value.int .u8 5) fun t45=>zc t45 (K12 [(s9.getD 0 undef)] w17) (fl w17 t10 57 3 3 fun t47=>bf .eql 3 t47 t1 fun t49=>zc t49 (K tr_ w17) (fl w17 t10 57 3 3 fun t52=>xl w17 212 t13 t52 4 fun t54=>pp (Op.unary .not t54) fun t55=>zc t55 (fl w17 t10 57 3 3 fun t58=>px 212 t13 t58 fun t59=>so w17 4 t59 tr_ fun w18=>fl w18 t10 57 3 3 fun t62=>pw w18 (Instr.buildSlice 67 1 #[(0,t62)]) fun t63 w19=>
 pw w19 (Builtin.append_ #[67,67] 67 #[(s9.getD 0 undef),t63]) fun t64 w20=>
 K12 [t64] w20) (K12 [(s9.getD 0 undef)] w17)))) (fun s13 _d14 w15=>
 bt .add 3 (s9.getD 1 undef) (i6 1) fun t37=>K8 [(s13.getD 0 undef),t37] w15)) (bt .add 3 (s5.getD 1 undef) (i6 1) fun t23=>K4 [(s9.getD 0 undef),t23] w11))) (K fa_ w7))
theorem aaa {t0 t1 : Value} {w : World} {K : VW} (h : Xn t0 t1 w K) : zd prog vk #[t0,t1] w K:=
 okC false (.s (.r (rz 1 0 0)) (.s (.r (rz 1 0 0)) (.s (.r (rz 4 0 32)) (.s (.r (rz 5 0 160)) (.s (.s (.r (rz 1 0 0)) (.b (.lp [5,7] (.s (.s (.r (rz 4 0 0)) (.c (.n) (.n))) (.s (.b (.s (.r (rz 9 0 16640)) (.s (.r (rz 1 0 0)) (.b (.lp [5,9] (.s (.s (.r (rz 4 0 0)) (.c (.n) (.n))) (.j [5] (.b (.s (.r (rz 7 0 10496)) (.s (.s (.r (rz 3 0 4)) (.c (.n) (.n))) (.s (.s (.r (rz 4 0 4)) (.c (.s (.r (rz 1 0 0)) (.n)) (.n))) (.s (.r (rz 6 0 272)) (.c (.s (.r (rz 5 0 528)) (.r (rz 6 0 656))) (.n))))))) (.r (rz 3 0 0))))))))) (.r (rz 3 0 0))))))) (.s (.r (rz 1 0 0)) (.n))))))) func200 rfl (by kernel_rfl) (by kernel_rfl) h
def ZX (t0 t1 t2 : Value) (w : World) (K : VW) : Prop:=
 pw w (Instr.box 57 t1) fun t4 w1=>
 fl w1 t4 57 0 55 fun t11=>bt .neq 55 t11 (Value.int .u8 5) fun t12=>zc t12 (K (i6 1) w1) (fl w1 t4 57 3 3 fun t15=>px 22 t0 t15 fun t16=>fl w1 t16 84 1 82 fun t18=>zn [(i6 0),(i6 0)] w1 (fun s3 _d4 w5 K2=>
 pp (Builtin.len_ #[82] 3 #[t18]) fun t21=>bf .lss 3 (s3.getD 1 undef) t21 fun t22=>za (fun K6=>gIf t22 true (bf .leq 3 (s3.getD 0 undef) t2 fun t26=>K6 [t26] w5) (K6 [undef] w5)) (fun s7 _d8 w9=>
 zb t22 (s7.getD 0 undef) fa_ fun t27=>zc t27 (px 82 t18 (s3.getD 1 undef) fun t34=>fl w9 t34 86 1 57 fun t36=>bf .sub 3 t2 (s3.getD 0 undef) fun t39=>ca jA #[t0,t36,t39] w9 fun t40 w10=>
 bf .add 3 (s3.getD 0 undef) t40 fun t41=>bt .add 3 (s3.getD 1 undef) (i6 1) fun t29=>K2 [t41,t29] w10) (K (s3.getD 0 undef) w9))))
theorem X3 {t0 t1 t2 : Value} {w : World} {K : VW} (h : ZX t0 t1 t2 w K) : zd prog jA #[t0,t1,t2] w K:=
 okC false (.s (.r (rz 2 0 2)) (.s (.s (.r (rz 3 0 4)) (.c (.s (.r (rz 1 0 0)) (.n)) (.n))) (.s (.r (rz 1 0 0)) (.s (.r (rz 7 0 1040)) (.s (.s (.r (rz 1 0 0)) (.b (.lp [7,9] (.s (.s (.r (ra 5 0 0 (.grp 23 true (ri 3 5 0) [26] (rz 1 8 0)))) (.c (.n) (.n))) (.s (.b (.r (rz 13 0 2101248))) (.r (rz 3 0 0))))))) (.s (.r (rz 2 0 0)) (.n))))))) func201 rfl (by kernel_rfl) (by kernel_rfl) h
end Go.Proofs.Tryz
end
section
namespace Go.Proofs.Tryz
open Go.Sh
set_option maxRecDepth 100000
def Yc (t0 t1 t2 t3 : Value) (w : World) (K : VW) : Prop:=
 pw w (Instr.box 25 t0) fun t4 w1=>
 pw w1 (Instr.box 38 t3) fun t7 w2=>
 lo w2 25 t4 fun t28=>ca Yx #[t28] w2 fun t29 w3=>
 pp (Op.unary .not t29) fun t30=>za (fun K4=>gIf t30 false (fl w3 t7 38 1 36 fun t33=>pp (Builtin.len_ #[36] 3 #[t33]) fun t34=>bt .gtr 3 t34 (i6 40) fun t35=>K4 [t35] w3) (K4 [undef] w3)) (fun s5 _d6 w7=>
 zb t30 tr_ (s5.getD 0 undef) fun t36=>zc t36 (ca kW #[] w7 fun t37 w8=>
 K t37 w8) (lo w7 25 t4 fun t39=>ca vv #[t39,t1,t2] w7 fun t42 w9=>
 pe t42 0 fun t43=>pe t42 1 fun t44=>lo w9 25 t4 fun t46=>ca kL #[t46,t1,t2] w9 fun t49 w10=>
 pe t49 0 fun t50=>pe t49 1 fun t51=>lo w10 25 t4 fun t53=>ca xY #[t53,t1,t2] w10 fun t56 w11=>
 pe t56 0 fun t57=>pe t56 1 fun t58=>pe t56 2 fun t59=>pw w11 (Instr.alloc 38 true (.tuple #[])) fun t13 w12=>
 so w12 38 t13 t57 fun w13=>za (fun K14=>
 bt .lss 3 t2 (i6 0) fun t61=>za (fun K18=>gIf t61 false (lo w13 25 t4 fun t63=>ca Yj #[t63,t1,t2] w13 fun t66 w22=>
 pp (Op.unary .not t66) fun t67=>K18 [t67] w22) (K18 [undef] w13)) (fun s19 _d20 w21=>
 zb t61 tr_ (s19.getD 0 undef) fun t68=>zc t68 (bt .neq 45 t44 (i6 2) fun t70=>za (fun K23=>gIf t70 false (bt .neq 45 t51 (i6 2) fun t73=>K23 [t73] w21) (K23 [undef] w21)) (fun s24 _d25 w26=>
 zb t70 tr_ (s24.getD 0 undef) fun t74=>za (fun K27=>gIf t74 false (bt .neq 45 t59 (i6 2) fun t77=>K27 [t77] w26) (K27 [undef] w26)) (fun s28 _d29 w30=>
 zb t74 tr_ (s28.getD 0 undef) fun t78=>za (fun K31=>gIf t78 false (pp (Builtin.len_ #[67] 3 #[t43]) fun t81=>bt .neq 3 t81 (i6 0) fun t82=>K31 [t82] w30) (K31 [undef] w30)) (fun s32 _d33 w34=>
 zb t78 tr_ (s32.getD 0 undef) fun t83=>za (fun K35=>gIf t83 false (pp (Builtin.len_ #[42] 3 #[t50]) fun t86=>bt .neq 3 t86 (i6 0) fun t87=>K35 [t87] w34) (K35 [undef] w34)) (fun s36 _d37 w38=>
 zb t83 tr_ (s36.getD 0 undef) fun t88=>za (fun K39=>gIf t88 false (K39 [t58] w38) (K39 [undef] w38)) (fun s40 _d41 w42=>
 zb t88 tr_ (s40.getD 0 undef) fun t91=>za (fun K43=>gIf t91 false (lo w42 38 t13 fun t93=>pp (Instr.build 38 #[]) fun t94=>ca qO #[t93,t94] w42 fun t95 w47=>
 pp (Op.unary .not t95) fun t96=>K43 [t96] w47) (K43 [undef] w42)) (fun s44 _d45 w46=>
 zb t91 tr_ (s44.getD 0 undef) fun t97=>zc t97 (K fa_ w46) (K14 [] w46)))))))) (fl w21 t4 25 1 23 fun t99=>xl w21 23 t99 t1 33 fun t102=>pw w21 (Instr.alloc 33 true (.tuple #[])) fun t16 w48=>
 so w48 33 t16 t102 fun w49=>lo w49 33 t16 fun t103=>ca YH #[t103,t2] w49 fun t105 w50=>
 fl w50 t16 33 6 31 fun t107=>xl w50 31 t107 t2 44 fun t110=>ca jK #[t110] w50 fun t111 w51=>
 bt .neq 45 t44 (i6 0) fun t113=>za (fun K52=>gIf t113 false (bt .neq 45 t51 (i6 0) fun t116=>K52 [t116] w51.drew) (K52 [undef] w51.drew)) (fun s53 _d54 w55=>
 zb t113 tr_ (s53.getD 0 undef) fun t117=>za (fun K56=>gIf t117 false (bt .neq 45 t59 (i6 0) fun t120=>K56 [t120] w55) (K56 [undef] w55)) (fun s57 _d58 w59=>
 zb t117 tr_ (s57.getD 0 undef) fun t121=>za (fun K60=>gIf t121 false (pp (Builtin.len_ #[67] 3 #[t43]) fun t124=>pp (Builtin.len_ #[67] 3 #[t105]) fun t126=>bf .neq 3 t124 t126 fun t127=>K60 [t127] w59) (K60 [undef] w59)) (fun s61 _d62 w63=>
 zb t121 tr_ (s61.getD 0 undef) fun t128=>za (fun K64=>gIf t128 false (pp (Builtin.len_ #[42] 3 #[t50]) fun t131=>pp (Builtin.len_ #[42] 3 #[t111]) fun t133=>bf .neq 3 t131 t133 fun t134=>K64 [t134] w63) (K64 [undef] w63)) (fun s65 _d66 w67=>
 zb t128 tr_ (s65.getD 0 undef) fun t135=>za (fun K68=>gIf t135 false (fl w67 t16 33 6 31 fun t139=>xl w67 31 t139 t2 44 fun t142=>ca vw #[t142] w67 fun t143 w72=>
 bf .neq 4 t58 t143 fun t144=>K68 [t144] w72) (K68 [undef] w67)) (fun s69 _d70 w71=>
 zb t135 tr_ (s69.getD 0 undef) fun t145=>za (fun K73=>gIf t145 false (lo w71 38 t13 fun t147=>fl w71 t16 33 6 31 fun t149=>px 31 t149 t2 fun t151=>fl w71 t151 44 1 38 fun t153=>ca qO #[t147,t153] w71 fun t154 w77=>
 pp (Op.unary .not t154) fun t155=>K73 [t155] w77) (K73 [undef] w71)) (fun s74 _d75 w76=>
 zb t145 tr_ (s74.getD 0 undef) fun t156=>zc t156 (K fa_ w76) (zn [(i6 0)] w76 (fun s79 _d80 w81 K78=>
 pp (Builtin.len_ #[67] 3 #[t43]) fun t159=>bf .lss 3 (s79.getD 0 undef) t159 fun t160=>zc t160 (xl w81.drew 67 t43 (s79.getD 0 undef) 3 fun t166=>xl w81.drew 67 t105 (s79.getD 0 undef) 3 fun t170=>bf .neq 3 t166 t170 fun t171=>zc t171 (K fa_ w81.drew) (bt .add 3 (s79.getD 0 undef) (i6 1) fun t162=>K78 [t162] w81.drew)) (zn [(i6 0)] w81 (fun s83 _d84 w85 K82=>
 pp (Builtin.len_ #[42] 3 #[t50]) fun t174=>bf .lss 3 (s83.getD 0 undef) t174 fun t175=>zc t175 (px 42 t50 (s83.getD 0 undef) fun t180=>fl w85.drew t180 41 0 39 fun t182=>px 42 t111 (s83.getD 0 undef) fun t185=>fl w85.drew t185 41 0 39 fun t187=>bf .neq 39 t182 t187 fun t188=>za (fun K86=>gIf t188 false (px 42 t50 (s83.getD 0 undef) fun t192=>fl w85.drew t192 41 1 2 fun t194=>px 42 t111 (s83.getD 0 undef) fun t197=>fl w85.drew t197 41 1 2 fun t199=>bf .neq 2 t194 t199 fun t200=>K86 [t200] w85.drew) (K86 [undef] w85.drew)) (fun s87 _d88 w89=>
 zb t188 tr_ (s87.getD 0 undef) fun t201=>za (fun K90=>gIf t201 false (px 42 t50 (s83.getD 0 undef) fun t205=>fl w89 t205 41 2 38 fun t207=>px 42 t111 (s83.getD 0 undef) fun t210=>fl w89 t210 41 2 38 fun t212=>ca qO #[t207,t212] w89 fun t213 w94=>
 pp (Op.unary .not t213) fun t214=>K90 [t214] w94) (K90 [undef] w89)) (fun s91 _d92 w93=>
 zb t201 tr_ (s91.getD 0 undef) fun t215=>zc t215 (K fa_ w93) (bt .add 3 (s83.getD 0 undef) (i6 1) fun t177=>K82 [t177] w93)))) (K14 [] w85)))))))))))))) (fun _s15 _d16 w17=>
 lo w17 25 t4 fun t217=>lo w17 38 t7 fun t219=>ca Yw #[t217,t1,t219] w17 fun t220 w95=>
 pe t220 0 fun t221=>pe t220 1 fun t222=>pw w95 (Instr.alloc 57 true (.tuple #[])) fun t21 w96=>
 so w96 57 t21 t221 fun w97=>lo w97 25 t4 fun t224=>ca ZQ #[t224,t1] w97 fun t226 w98=>
 pe t226 0 fun t227=>pe t226 1 fun t228=>lo w98 25 t4 fun t229=>ca Yj #[t229,t1,(i6 (-1))] w98 fun t231 w99=>
 pp (Op.unary .not t231) fun t232=>zc t232 (bt .eql 45 t222 (i6 2) fun t234=>za (fun K100=>gIf t234 true (bt .eql 45 t228 (i6 2) fun t237=>K100 [t237] w99) (K100 [undef] w99)) (fun s101 _d102 w103=>
 zb t234 (s101.getD 0 undef) fa_ fun t238=>za (fun K104=>gIf t238 true (pp (Builtin.len_ #[67] 3 #[t227]) fun t241=>bt .eql 3 t241 (i6 0) fun t242=>K104 [t242] w103) (K104 [undef] w103)) (fun s105 _d106 w107=>
 zb t238 (s105.getD 0 undef) fa_ fun t243=>za (fun K108=>gIf t243 true (lo w107 57 t21 fun t245=>pp (Instr.build 57 #[]) fun t246=>ca xk #[t245,t246] w107 fun t247 w112=>
 K108 [t247] w112) (K108 [undef] w107)) (fun s109 _d110 w111=>
 zb t243 (s109.getD 0 undef) fa_ fun t248=>za (fun K113=>gIf t248 true (ca kW #[] w111 fun t250 w117=>
 K113 [t250] w117) (K113 [undef] w111)) (fun s114 _d115 w116=>
 zb t248 (s114.getD 0 undef) fa_ fun t251=>K t251 w116))))) (lo w99 25 t4 fun t253=>lo w99 38 t7 fun t255=>ca jC #[t253,t1,t255] w99 fun t256 w118=>
 pe t256 0 fun t257=>pe t256 1 fun _t258=>pe t256 2 fun t259=>pw w118 (Instr.alloc 57 true (.tuple #[])) fun t23 w119=>
 so w119 57 t23 t257 fun w120=>za (fun K121=>gIf t259 true (bt .neq 45 t222 (i6 0) fun t263=>K121 [t263] w120) (K121 [undef] w120)) (fun s122 _d123 w124=>
 za (fun K125=>gIf (s122.getD 0 undef) false (lo w124 57 t21 fun t265=>lo w124 57 t23 fun t266=>ca xk #[t265,t266] w124 fun t267 w129=>
 pp (Op.unary .not t267) fun t268=>K125 [t268] w129) (K125 [undef] w124)) (fun s126 _d127 w128=>
 za (fun K130=>gIf t259 true (zb (s122.getD 0 undef) tr_ (s126.getD 0 undef) fun t269=>K130 [t269] w128) (K130 [undef] w128)) (fun s131 _d132 w133=>
 zb t259 (s131.getD 0 undef) fa_ fun t270=>za (fun K134=>gIf t270 false (pp (Op.unary .not t259) fun t273=>K134 [t273] w133) (K134 [undef] w133)) (fun s135 _d136 w137=>
 za (fun K138=>gIf (s135.getD 0 undef) true (bt .neq 45 t222 (i6 2) fun t276=>K138 [t276] w137) (K138 [undef] w137)) (fun s139 _d140 w141=>
 za (fun K142=>gIf (s139.getD 0 undef) false (lo w141 57 t21 fun t278=>pp (Instr.build 57 #[]) fun t279=>ca xk #[t278,t279] w141 fun t280 w146=>
 pp (Op.unary .not t280) fun t281=>K142 [t281] w146) (K142 [undef] w141)) (fun s143 _d144 w145=>
 za (fun K147=>gIf (s135.getD 0 undef) true (zb (s139.getD 0 undef) tr_ (s143.getD 0 undef) fun t282=>K147 [t282] w145) (K147 [undef] w145)) (fun s148 _d149 w150=>
 za (fun K151=>gIf t270 false (zb (s135.getD 0 undef) (s148.getD 0 undef) fa_ fun t283=>K151 [t283] w150) (K151 [undef] w150)) (fun s152 _d153 w154=>
 zb t270 tr_ (s152.getD 0 undef) fun t284=>zc t284 (K fa_ w154) (lo w154 25 t4 fun t285=>ca ZS #[t285,t1] w154 fun t287 w155=>
 bt .neq 45 t228 (i6 0) fun t289=>za (fun K156=>gIf t289 false (pp (Builtin.len_ #[67] 3 #[t227]) fun t292=>pp (Builtin.len_ #[67] 3 #[t287]) fun t294=>bf .neq 3 t292 t294 fun t295=>K156 [t295] w155) (K156 [undef] w155)) (fun s157 _d158 w159=>
 zb t289 tr_ (s157.getD 0 undef) fun t296=>zc t296 (K fa_ w159) (zn [(i6 0)] w159 (fun s161 _d162 w163 K160=>
 pp (Builtin.len_ #[67] 3 #[t227]) fun t299=>bf .lss 3 (s161.getD 0 undef) t299 fun t300=>zc t300 (xl w163.drew 67 t227 (s161.getD 0 undef) 3 fun t306=>xl w163.drew 67 t287 (s161.getD 0 undef) 3 fun t310=>bf .neq 3 t306 t310 fun t311=>zc t311 (K fa_ w163.drew) (bt .add 3 (s161.getD 0 undef) (i6 1) fun t302=>K160 [t302] w163.drew)) (ca kW #[] w163 fun t312 w164=>
 K t312 w164)))))))))))))))))
theorem Js {t0 t1 t2 t3 : Value} {w : World} {K : VW} (h : Yc t0 t1 t2 t3 w K) : zd prog Z7 #[t0,t1,t2,t3] w K:=
 okC false (.s (.r (rz 3 0 10)) (.s (.s (.r (ra 4 0 9 (.grp 31 false (ri 4 4 4) [35] (rz 1 8 0)))) (.c (.s (.r (rz 2 0 2)) (.n)) (.n))) (.s (.r (rz 9 0 129)) (.s (.r (rz 9 0 129)) (.s (.r (rz 12 0 655489)) (.j [] (.s (.r (ra 3 0 0 (.grp 62 false (ri 5 3 129) [67] (rz 1 8 0)))) (.c (.s (.r (ra 3 0 0 (.grp 71 false (ri 2 3 0) [73] (ra 2 5 0 (.grp 75 false (ri 2 7 0) [77] (ra 2 9 0 (.grp 79 false (ri 3 11 0) [82] (ra 2 14 0 (.grp 84 false (ri 3 16 0) [87] (ra 2 19 0 (.grp 89 false (ri 1 21 0) [90] (ra 2 22 0 (.grp 92 false (ri 4 24 33) [96] (rz 1 28 0)))))))))))))) (.c (.s (.r (rz 1 0 0)) (.n)) (.n))) (.s (.r (rz 7 0 10500)) (.s (.r (rz 4 0 33)) (.s (.r (rz 7 0 2308)) (.s (.s (.r (ra 3 0 0 (.grp 114 false (ri 2 3 0) [116] (ra 2 5 0 (.grp 118 false (ri 2 7 0) [120] (ra 2 9 0 (.grp 122 false (ri 5 11 0) [127] (ra 2 16 0 (.grp 129 false (ri 5 18 0) [134] (ra 2 23 0 (.grp 136 false (ri 8 25 9232) [144] (ra 2 33 0 (.grp 146 false (ri 9 35 36881) [155] (rz 1 44 0)))))))))))))) (.c (.s (.r (rz 1 0 0)) (.n)) (.n))) (.s (.s (.r (rz 1 0 0)) (.b (.lp [19] (.s (.s (.r (rz 4 0 0)) (.c (.n) (.n))) (.s (.b (.s (.r (rz 9 0 16448)) (.c (.s (.r (rz 1 0 0)) (.n)) (.n)))) (.r (rz 3 0 0))))))) (.s (.r (rz 1 0 0)) (.b (.lp [20] (.s (.s (.r (rz 4 0 0)) (.c (.n) (.n))) (.s (.b (.s (.r (ra 12 0 262400 (.grp 189 false (ri 11 12 262400) [200] (ra 2 23 0 (.grp 202 false (ri 12 25 2359552) [214] (rz 1 37 0)))))) (.c (.s (.r (rz 1 0 0)) (.n)) (.n)))) (.r (rz 3 0 0)))))))))))))) (.s (.r (rz 10 0 163985)) (.s (.r (rz 8 0 33)) (.s (.s (.r (rz 4 0 33)) (.c (.s (.r (ra 3 0 0 (.grp 235 true (ri 2 3 0) [237] (ra 2 5 0 (.grp 239 true (ri 3 7 0) [242] (ra 2 10 0 (.grp 244 true (ri 3 12 33) [247] (ra 2 15 0 (.grp 249 true (ri 1 17 2) [250] (rz 2 18 0)))))))))) (.n)) (.n))) (.s (.r (rz 12 0 655505)) (.s (.s (.r (ra 2 0 0 (.grp 261 true (ri 3 2 0) [264] (.grp 264 false (ri 4 5 37) [268] (.grp 261 true (ri 1 9 0) [269] (ra 2 10 0 (.grp 271 false (ri 3 12 0) [274] (.grp 274 true (ri 3 15 0) [277] (.grp 277 false (ri 4 18 33) [281] (.grp 274 true (ri 1 22 0) [282] (.grp 271 false (ri 1 23 0) [283] (rz 1 24 0)))))))))))) (.c (.s (.r (rz 1 0 0)) (.n)) (.n))) (.s (.r (rz 4 0 33)) (.s (.s (.r (ra 3 0 0 (.grp 290 false (ri 5 3 0) [295] (rz 1 8 0)))) (.c (.s (.r (rz 1 0 0)) (.n)) (.n))) (.s (.s (.r (rz 1 0 0)) (.b (.lp [27] (.s (.s (.r (rz 4 0 0)) (.c (.n) (.n))) (.s (.b (.s (.r (rz 9 0 16448)) (.c (.s (.r (rz 1 0 0)) (.n)) (.n)))) (.r (rz 3 0 0))))))) (.s (.r (rz 2 0 2)) (.n)))))))))))))))) func6 rfl (by kernel_rfl) (by kernel_rfl) h
def Jt (t0 : Value) (w : World) (K : VW) : Prop:=
 pw w (Instr.box 25 t0) fun t1 w1=>
 fl w1 t1 25 0 22 fun t13=>pp (Builtin.len_ #[22] 3 #[t13]) fun t14=>bt .gtr 3 t14 (i6 40) fun t15=>za (fun K2=>gIf t15 false (fl w1 t1 25 1 23 fun t18=>pp (Builtin.len_ #[23] 3 #[t18]) fun t19=>bt .gtr 3 t19 (i6 40) fun t20=>K2 [t20] w1) (K2 [undef] w1)) (fun s3 _d4 w5=>
 zb t15 tr_ (s3.getD 0 undef) fun t21=>zc t21 (K fa_ w5) (zn [(i6 0)] w5 (fun s7 _d8 w9 K6=>
 fl w9 t1 25 0 22 fun t24=>pp (Builtin.len_ #[22] 3 #[t24]) fun t25=>bf .lss 3 (s7.getD 0 undef) t25 fun t26=>zc t26 (fl w9 t1 25 0 22 fun t30=>px 22 t30 (s7.getD 0 undef) fun t32=>fl w9 t32 84 1 82 fun t34=>pp (Builtin.len_ #[82] 3 #[t34]) fun t35=>bt .gtr 3 t35 (i6 40) fun t36=>zc t36 (K fa_ w9) (zn [(i6 0)] w9 (fun s11 _d12 w13 K10=>
 fl w13 t1 25 0 22 fun t39=>px 22 t39 (s7.getD 0 undef) fun t41=>fl w13 t41 84 1 82 fun t43=>pp (Builtin.len_ #[82] 3 #[t43]) fun t44=>bf .lss 3 (s11.getD 0 undef) t44 fun t45=>zc t45 (fl w13 t1 25 0 22 fun t49=>px 22 t49 (s7.getD 0 undef) fun t51=>fl w13 t51 84 1 82 fun t53=>px 82 t53 (s11.getD 0 undef) fun t55=>fl w13 t55 86 1 57 fun t57=>ca xK #[t57,(i6 60)] w13 fun t58 w14=>
 pp (Op.unary .not t58) fun t59=>zc t59 (K fa_ w14) (bt .add 3 (s11.getD 0 undef) (i6 1) fun t47=>K10 [t47] w14)) (bt .add 3 (s7.getD 0 undef) (i6 1) fun t28=>K6 [t28] w13)))) (zn [(i6 0),(i6 0)] w9 (fun s16 _d17 w18 K15=>
 fl w18 t1 25 1 23 fun t62=>pp (Builtin.len_ #[23] 3 #[t62]) fun t63=>bf .lss 3 (s16.getD 1 undef) t63 fun t64=>zc t64 (fl w18 t1 25 1 23 fun t68=>xl w18 23 t68 (s16.getD 1 undef) 33 fun t71=>pw w18 (Instr.alloc 33 true (.tuple #[])) fun t7 w19=>
 so w19 33 t7 t71 fun w20=>fl w20 t7 33 4 29 fun t73=>pp (Builtin.len_ #[29] 3 #[t73]) fun t74=>bt .gtr 3 t74 (i6 1100) fun t75=>za (fun K21=>gIf t75 false (fl w20 t7 33 5 30 fun t78=>pp (Builtin.len_ #[30] 3 #[t78]) fun t79=>bt .gtr 3 t79 (i6 1100) fun t80=>K21 [t80] w20) (K21 [undef] w20)) (fun s22 _d23 w24=>
 zb t75 tr_ (s22.getD 0 undef) fun t81=>za (fun K25=>gIf t81 false (fl w24 t7 33 2 28 fun t84=>pp (Builtin.len_ #[28] 3 #[t84]) fun t85=>bt .gtr 3 t85 (i6 200) fun t86=>K25 [t86] w24) (K25 [undef] w24)) (fun s26 _d27 w28=>
 zb t81 tr_ (s26.getD 0 undef) fun t87=>za (fun K29=>gIf t87 false (fl w28 t7 33 6 31 fun t90=>pp (Builtin.len_ #[31] 3 #[t90]) fun t91=>bt .gtr 3 t91 (i6 1100) fun t92=>K29 [t92] w28) (K29 [undef] w28)) (fun s30 _d31 w32=>
 zb t87 tr_ (s30.getD 0 undef) fun t93=>zc t93 (K fa_ w32) (fl w32 t7 33 6 31 fun t96=>pp (Builtin.len_ #[31] 3 #[t96]) fun t97=>fl w32 t7 33 4 29 fun t99=>pp (Builtin.len_ #[29] 3 #[t99]) fun t100=>bf .add 3 t97 t100 fun t101=>bf .add 3 (s16.getD 0 undef) t101 fun t102=>zn [(i6 0)] w32 (fun s34 _d35 w36 K33=>
 fl w36 t7 33 4 29 fun t105=>pp (Builtin.len_ #[29] 3 #[t105]) fun t106=>bf .lss 3 (s34.getD 0 undef) t106 fun t107=>zc t107 (fl w36 t7 33 4 29 fun t111=>xl w36 29 t111 (s34.getD 0 undef) 57 fun t114=>ca xK #[t114,(i6 60)] w36 fun t115 w37=>
 pp (Op.unary .not t115) fun t116=>zc t116 (K fa_ w37) (bt .add 3 (s34.getD 0 undef) (i6 1) fun t109=>K33 [t109] w37)) (zn [(i6 0)] w36 (fun s39 _d40 w41 K38=>
 fl w41 t7 33 6 31 fun t119=>pp (Builtin.len_ #[31] 3 #[t119]) fun t120=>bf .lss 3 (s39.getD 0 undef) t120 fun t121=>zc t121 (fl w41 t7 33 6 31 fun t125=>xl w41 31 t125 (s39.getD 0 undef) 44 fun t128=>pw w41 (Instr.alloc 44 true (.tuple #[])) fun t10 w42=>
 so w42 44 t10 t128 fun w43=>pf 44 t10 1 fun t129=>fl w43 t129 38 1 36 fun t131=>pp (Builtin.len_ #[36] 3 #[t131]) fun t132=>bt .gtr 3 t132 (i6 40) fun t133=>za (fun K44=>gIf t133 false (pf 44 t10 6 fun t135=>fl w43 t135 38 1 36 fun t137=>pp (Builtin.len_ #[36] 3 #[t137]) fun t138=>bt .gtr 3 t138 (i6 40) fun t139=>K44 [t139] w43) (K44 [undef] w43)) (fun s45 _d46 w47=>
 zb t133 tr_ (s45.getD 0 undef) fun t140=>za (fun K48=>gIf t140 false (fl w47 t10 44 2 41 fun t143=>ca kx #[t143] w47 fun t144 w52=>
 pp (Op.unary .not t144) fun t145=>K48 [t145] w52) (K48 [undef] w47)) (fun s49 _d50 w51=>
 zb t140 tr_ (s49.getD 0 undef) fun t146=>za (fun K53=>gIf t146 false (fl w51 t10 44 3 41 fun t149=>ca kx #[t149] w51 fun t150 w57=>
 pp (Op.unary .not t150) fun t151=>K53 [t151] w57) (K53 [undef] w51)) (fun s54 _d55 w56=>
 zb t146 tr_ (s54.getD 0 undef) fun t152=>za (fun K58=>gIf t152 false (fl w56 t10 44 4 42 fun t155=>pp (Builtin.len_ #[42] 3 #[t155]) fun t156=>bt .gtr 3 t156 (i6 40) fun t157=>K58 [t157] w56) (K58 [undef] w56)) (fun s59 _d60 w61=>
 zb t152 tr_ (s59.getD 0 undef) fun t158=>za (fun K62=>gIf t158 false (fl w61 t10 44 5 9 fun t161=>pp (Builtin.len_ #[9] 3 #[t161]) fun t162=>bt .gtr 3 t162 (i6 40) fun t163=>K62 [t163] w61) (K62 [undef] w61)) (fun s63 _d64 w65=>
 zb t158 tr_ (s63.getD 0 undef) fun t164=>zc t164 (K fa_ w65) (zn [(i6 0)] w65 (fun s67 _d68 w69 K66=>
 fl w69 t10 44 4 42 fun t167=>pp (Builtin.len_ #[42] 3 #[t167]) fun t168=>bf .lss 3 (s67.getD 0 undef) t168 fun t169=>zc t169 (fl w69 t10 44 4 42 fun t173=>xl w69 42 t173 (s67.getD 0 undef) 41 fun t176=>ca kx #[t176] w69 fun t177 w70=>
 pp (Op.unary .not t177) fun t178=>zc t178 (K fa_ w70) (bt .add 3 (s67.getD 0 undef) (i6 1) fun t171=>K66 [t171] w70)) (bt .add 3 (s39.getD 0 undef) (i6 1) fun t123=>K38 [t123] w69))))))))) (bt .add 3 (s16.getD 1 undef) (i6 1) fun t66=>K15 [t102,t66] w41))))))))) (bt .leq 3 (s16.getD 0 undef) (i6 4400) fun t180=>K t180 w18))))))
theorem acP {t0 : Value} {w : World} {K : VW} (h : Jt t0 w K) : zd prog Yx #[t0] w K:=
 okC false (.s (.r (rz 2 0 2)) (.s (.s (.r (ra 5 0 4 (.grp 16 false (ri 4 5 4) [20] (rz 1 9 0)))) (.c (.s (.r (rz 1 0 0)) (.n)) (.n))) (.s (.s (.r (rz 1 0 0)) (.b (.lp [3] (.s (.s (.r (rz 5 0 16)) (.c (.n) (.n))) (.s (.b (.s (.s (.r (rz 8 0 1028)) (.c (.s (.r (rz 1 0 0)) (.n)) (.n))) (.s (.r (rz 1 0 0)) (.b (.lp [4] (.s (.s (.r (rz 9 0 4112)) (.c (.n) (.n))) (.s (.b (.s (.r (rz 12 0 2360324)) (.c (.s (.r (rz 1 0 0)) (.n)) (.n)))) (.r (rz 3 0 0))))))))) (.r (rz 3 0 0))))))) (.s (.r (rz 1 0 0)) (.s (.s (.r (rz 1 0 0)) (.b (.lp [5,6] (.s (.s (.r (rz 5 0 16)) (.c (.n) (.n))) (.s (.b (.s (.r (rz 7 0 10500)) (.s (.s (.r (ra 5 0 4 (.grp 76 false (ri 4 5 4) [80] (ra 2 9 0 (.grp 82 false (ri 4 11 4) [86] (ra 2 15 0 (.grp 88 false (ri 4 17 4) [92] (rz 1 21 0)))))))) (.c (.s (.r (rz 1 0 0)) (.n)) (.n))) (.s (.r (rz 10 0 1040)) (.s (.s (.r (rz 1 0 0)) (.b (.lp [8] (.s (.s (.r (rz 5 0 16)) (.c (.n) (.n))) (.s (.b (.s (.r (rz 7 0 2308)) (.c (.s (.r (rz 1 0 0)) (.n)) (.n)))) (.r (rz 3 0 0))))))) (.s (.r (rz 1 0 0)) (.b (.lp [9] (.s (.s (.r (rz 5 0 16)) (.c (.n) (.n))) (.s (.b (.s (.r (rz 7 0 10500)) (.s (.s (.r (ra 6 0 16 (.grp 134 false (ri 5 6 16) [139] (ra 2 11 0 (.grp 141 false (ri 4 13 36) [145] (ra 2 17 0 (.grp 147 false (ri 4 19 36) [151] (ra 2 23 0 (.grp 153 false (ri 4 25 4) [157] (ra 2 29 0 (.grp 159 false (ri 4 31 4) [163] (rz 1 35 0)))))))))))) (.c (.s (.r (rz 1 0 0)) (.n)) (.n))) (.s (.r (rz 1 0 0)) (.b (.lp [11] (.s (.s (.r (rz 5 0 16)) (.c (.n) (.n))) (.s (.b (.s (.r (rz 7 0 2308)) (.c (.s (.r (rz 1 0 0)) (.n)) (.n)))) (.r (rz 3 0 0)))))))))) (.r (rz 3 0 0)))))))))))) (.r (rz 3 0 0))))))) (.s (.r (rz 3 0 0)) (.n))))))) func7 rfl (by kernel_rfl) (by kernel_rfl) h
def QT (w : World) (K : VW) : Prop:=
 pp (Instr.build 57 #[(0,(Value.int .u8 1))]) fun t15=>pw w (Instr.alloc 57 true (.tuple #[])) fun t1 w1=>
 so w1 57 t1 t15 fun w2=>lo w2 57 t1 fun t16=>pw w2 (Instr.buildSlice 29 1 #[(0,t16)]) fun t17 w3=>
 pw w3 (Instr.buildSlice 30 1 #[(0,(Value.string { data:=#[] }))]) fun t18 w4=>
 pp (Instr.build 41 #[(0,(Value.int .u8 1)),(1,(i6 7))]) fun t19=>pp (Instr.build 44 #[(0,(Value.int .u8 1)),(2,t19),(10,(i6 1))]) fun t20=>pp (Instr.build 44 #[(0,(Value.int .u8 14))]) fun t21=>pw w4 (Instr.buildSlice 31 2 #[(0,t20),(1,t21)]) fun t22 w5=>
 pp (Instr.build 33 #[(0,(Value.string { data:=#[109,97,105,110] })),(4,t17),(5,t18),(6,t22)]) fun t23=>pw w5 (Instr.buildSlice 23 1 #[(0,t23)]) fun t24 w6=>
 pp (Instr.build 25 #[(1,t24)]) fun t25=>pw w6 (Instr.alloc 25 true (.tuple #[])) fun t2 w7=>
 so w7 25 t2 t25 fun w8=>lo w8 25 t2 fun t27=>ca kV #[t27] w8 fun t28 w9=>
 pe t28 0 fun t29=>pe t28 1 fun t30=>pe t28 2 fun t31=>lo w9 25 t2 fun t33=>ca YC #[t33,(i6 0),(i6 0)] w9 fun t34 w10=>
 pe t34 0 fun t35=>pe t34 1 fun t36=>lo w10 25 t2 fun t38=>ca vv #[t38,(i6 0),(i6 0)] w10 fun t39 w11=>
 pe t39 0 fun t40=>pe t39 1 fun t41=>lo w11 25 t2 fun t43=>ca kL #[t43,(i6 0),(i6 0)] w11 fun t44 w12=>
 pe t44 0 fun t45=>pe t44 1 fun t46=>lo w12 25 t2 fun t48=>ca xY #[t48,(i6 0),(i6 0)] w12 fun t49 w13=>
 pe t49 0 fun t50=>pe t49 1 fun t51=>pe t49 2 fun t52=>pw w13 (Instr.alloc 38 true (.tuple #[])) fun t12 w14=>
 so w14 38 t12 t50 fun w15=>bt .neq 3 t29 (i6 0) fun t54=>za (fun K16=>gIf t54 false (bt .neq 3 t30 (i6 0) fun t57=>K16 [t57] w15) (K16 [undef] w15)) (fun s17 _d18 w19=>
 zb t54 tr_ (s17.getD 0 undef) fun t58=>za (fun K20=>gIf t58 false (bt .neq 45 t31 (i6 0) fun t61=>K20 [t61] w19) (K20 [undef] w19)) (fun s21 _d22 w23=>
 zb t58 tr_ (s21.getD 0 undef) fun t62=>za (fun K24=>gIf t62 false (bt .neq 9 t35 (Value.string { data:=#[95,48,32,61,32,55] }) fun t65=>K24 [t65] w23) (K24 [undef] w23)) (fun s25 _d26 w27=>
 zb t62 tr_ (s25.getD 0 undef) fun t66=>za (fun K28=>gIf t66 false (bt .neq 45 t36 (i6 0) fun t69=>K28 [t69] w27) (K28 [undef] w27)) (fun s29 _d30 w31=>
 zb t66 tr_ (s29.getD 0 undef) fun t70=>za (fun K32=>gIf t70 false (pp (Builtin.len_ #[67] 3 #[t40]) fun t73=>bt .neq 3 t73 (i6 1) fun t74=>K32 [t74] w31) (K32 [undef] w31)) (fun s33 _d34 w35=>
 zb t70 tr_ (s33.getD 0 undef) fun t75=>za (fun K36=>gIf t75 false (xl w35 67 t40 (i6 0) 3 fun t79=>bt .neq 3 t79 (i6 1) fun t80=>K36 [t80] w35) (K36 [undef] w35)) (fun s37 _d38 w39=>
 zb t75 tr_ (s37.getD 0 undef) fun t81=>za (fun K40=>gIf t81 false (bt .neq 45 t41 (i6 0) fun t84=>K40 [t84] w39) (K40 [undef] w39)) (fun s41 _d42 w43=>
 zb t81 tr_ (s41.getD 0 undef) fun t85=>za (fun K44=>gIf t85 false (pp (Builtin.len_ #[42] 3 #[t45]) fun t88=>bt .neq 3 t88 (i6 1) fun t89=>K44 [t89] w43) (K44 [undef] w43)) (fun s45 _d46 w47=>
 zb t85 tr_ (s45.getD 0 undef) fun t90=>za (fun K48=>gIf t90 false (bt .neq 45 t46 (i6 0) fun t93=>K48 [t93] w47) (K48 [undef] w47)) (fun s49 _d50 w51=>
 zb t90 tr_ (s49.getD 0 undef) fun t94=>za (fun K52=>gIf t94 false (pp (Op.unary .not t51) fun t97=>K52 [t97] w51) (K52 [undef] w51)) (fun s53 _d54 w55=>
 zb t94 tr_ (s53.getD 0 undef) fun t98=>za (fun K56=>gIf t98 false (bt .neq 45 t52 (i6 0) fun t101=>K56 [t101] w55) (K56 [undef] w55)) (fun s57 _d58 w59=>
 zb t98 tr_ (s57.getD 0 undef) fun t102=>za (fun K60=>gIf t102 false (lo w59 25 t2 fun t104=>ca ke #[t104] w59 fun t105 w64=>
 pp (Op.unary .not t105) fun t106=>K60 [t106] w64) (K60 [undef] w59)) (fun s61 _d62 w63=>
 zb t102 tr_ (s61.getD 0 undef) fun t107=>za (fun K65=>gIf t107 false (lo w63 25 t2 fun t109=>lo w63 25 t2 fun t110=>ca YD #[t109,t110] w63 fun t111 w69=>
 pp (Op.unary .not t111) fun t112=>K65 [t112] w69) (K65 [undef] w63)) (fun s66 _d67 w68=>
 zb t107 tr_ (s66.getD 0 undef) fun t113=>zc t113 (K fa_ w68) (fl w68 t2 25 1 23 fun t115=>px 23 t115 (i6 0) fun t116=>fl w68 t116 33 6 31 fun t118=>px 31 t118 (i6 0) fun t119=>pf 44 t119 2 fun t120=>pf 41 t120 0 fun t121=>so w68 39 t121 (Value.int .u8 2) fun w70=>lo w70 25 t2 fun t123=>ca kV #[t123] w70 fun t124 w71=>
 pe t124 0 fun t125=>pe t124 1 fun t126=>pe t124 2 fun t127=>bt .eql 3 t125 (i6 0) fun t129=>za (fun K72=>gIf t129 true (bt .eql 3 t126 (i6 0) fun t132=>K72 [t132] w71) (K72 [undef] w71)) (fun s73 _d74 w75=>
 zb t129 (s73.getD 0 undef) fa_ fun t133=>za (fun K76=>gIf t133 true (bt .eql 45 t127 (i6 100) fun t136=>K76 [t136] w75) (K76 [undef] w75)) (fun s77 _d78 w79=>
 zb t133 (s77.getD 0 undef) fa_ fun t137=>za (fun K80=>gIf t137 true (lo w79 25 t2 fun t139=>ca ke #[t139] w79 fun t140 w84=>
 pp (Op.unary .not t140) fun t141=>K80 [t141] w84) (K80 [undef] w79)) (fun s81 _d82 w83=>
 zb t137 (s81.getD 0 undef) fa_ fun t142=>K t142 w83)))))))))))))))))
theorem abQ {w : World} {K : VW} (h : QT  w K) : zd prog kW #[] w K:=
 okC false (.s (.r (rz 1 0 0)) (.s (.r (rz 3 0 40)) (.s (.r (rz 12 0 10625065)) (.s (.r (rz 9 0 9)) (.s (.r (rz 7 0 9)) (.s (.r (rz 7 0 9)) (.s (.r (rz 7 0 9)) (.s (.r (rz 10 0 40969)) (.s (.s (.r (ra 3 0 0 (.grp 55 false (ri 2 3 0) [57] (ra 2 5 0 (.grp 59 false (ri 2 7 0) [61] (ra 2 9 0 (.grp 63 false (ri 2 11 0) [65] (ra 2 13 0 (.grp 67 false (ri 2 15 0) [69] (ra 2 17 0 (.grp 71 false (ri 3 19 0) [74] (ra 2 22 0 (.grp 76 false (ri 4 24 16) [80] (ra 2 28 0 (.grp 82 false (ri 2 30 0) [84] (ra 2 32 0 (.grp 86 false (ri 3 34 0) [89] (ra 2 37 0 (.grp 91 false (ri 2 39 0) [93] (ra 2 41 0 (.grp 95 false (ri 2 43 0) [97] (ra 2 45 0 (.grp 99 false (ri 2 47 0) [101] (ra 2 49 0 (.grp 103 false (ri 3 51 9) [106] (ra 2 54 0 (.grp 108 false (ri 4 56 37) [112] (rz 1 60 0)))))))))))))))))))))))))))) (.c (.s (.r (rz 1 0 0)) (.n)) (.n))) (.s (.r (rz 9 0 131332)) (.s (.r (rz 9 0 9)) (.s (.r (ra 3 0 0 (.grp 130 true (ri 2 3 0) [132] (ra 2 5 0 (.grp 134 true (ri 2 7 0) [136] (ra 2 9 0 (.grp 138 true (ri 3 11 9) [141] (rz 2 14 0)))))))) (.n))))))))))))) func9 rfl (by kernel_rfl) (by kernel_rfl) h
def jL (t0 t1 : Value) (w : World) (K : VW) : Prop:=
 pw w (Instr.box 57 t0) fun t2 w1=>
 bt .eql 3 t1 (i6 0) fun t7=>za (fun K2=>gIf t7 false (fl w1 t2 57 4 29 fun t10=>pp (Builtin.len_ #[29] 3 #[t10]) fun t11=>bt .gtr 3 t11 (i6 3) fun t12=>K2 [t12] w1) (K2 [undef] w1)) (fun s3 _d4 w5=>
 zb t7 tr_ (s3.getD 0 undef) fun t13=>zc t13 (K fa_ w5) (zn [(i6 0)] w5 (fun s7 _d8 w9 K6=>
 fl w9 t2 57 4 29 fun t16=>pp (Builtin.len_ #[29] 3 #[t16]) fun t17=>bf .lss 3 (s7.getD 0 undef) t17 fun t18=>zc t18 (fl w9 t2 57 4 29 fun t22=>xl w9 29 t22 (s7.getD 0 undef) 57 fun t25=>bt .sub 3 t1 (i6 1) fun t27=>pp (Builtin.min_ #[3,3] 3 #[(s7.getD 0 undef),(i6 1)]) fun t29=>bt .mul 3 (i6 57) t29 fun t30=>bt .sub 3 (i6 60) t30 fun t31=>pp (Builtin.min_ #[3,3] 3 #[t27,t31]) fun t32=>ca xK #[t25,t32] w9 fun t33 w10=>
 pp (Op.unary .not t33) fun t34=>zc t34 (K fa_ w10) (bt .add 3 (s7.getD 0 undef) (i6 1) fun t20=>K6 [t20] w10)) (K tr_ w9))))
theorem Yd {t0 t1 : Value} {w : World} {K : VW} (h : jL t0 t1 w K) : zd prog xK #[t0,t1] w K:=
 okC false (.s (.r (rz 2 0 2)) (.s (.s (.r (ra 3 0 0 (.grp 8 false (ri 4 3 4) [12] (rz 1 7 0)))) (.c (.s (.r (rz 1 0 0)) (.n)) (.n))) (.s (.s (.r (rz 1 0 0)) (.b (.lp [5] (.s (.s (.r (rz 5 0 16)) (.c (.n) (.n))) (.s (.b (.s (.r (rz 14 0 33554692)) (.c (.s (.r (rz 1 0 0)) (.n)) (.n)))) (.r (rz 3 0 0))))))) (.s (.r (rz 1 0 0)) (.n))))) func17 rfl (by kernel_rfl) (by kernel_rfl) h
def X4 (t0 : Value) (w : World) (K : VW) : Prop:=
 pw w (Instr.box 41 t0) fun t1 w1=>
 pf 41 t1 2 fun t3=>fl w1 t3 38 1 36 fun t5=>pp (Builtin.len_ #[36] 3 #[t5]) fun t6=>bt .leq 3 t6 (i6 40) fun t7=>K t7 w1
theorem aaS {t0 : Value} {w : World} {K : VW} (h : X4 t0 w K) : zd prog kx #[t0] w K:=
 okC false (.s (.r (rz 2 0 2)) (.s (.r (rz 6 0 16)) (.n))) func34 rfl (by kernel_rfl) (by kernel_rfl) h
end Go.Proofs.Tryz
end
section
namespace Go.Proofs
open Go.Sh
set_option maxRecDepth 100000
inductive TyD where
 |mk (k : Int) (m : Bool) (re st : Int) (of : List TyD)
namespace TyD
def k : TyD→Int|mk k _ _ _ _=>k
def m : TyD→Bool|mk _ m _ _ _=>m
def re : TyD→Int|mk _ _ re _ _=>re
def st : TyD→Int|mk _ _ _ st _=>st
def of : TyD→List TyD|mk _ _ _ _ of=>of
mutual
def dat : TyD→Dat
 |mk k m re st of=>.agg [.int .u8 k,.bool m,.int .i64 re,.int .i64 st,.sl 5 (dats of)]
def dats : List TyD→List Dat
 |[]=>[]
 |t::l=>dat t::dats l
end
theorem dats_map : ∀ l : List TyD,dats l=l.map dat
 |[]=>rfl
 |t::l=>by rw [dats,dats_map l];rfl
mutual
def ht : TyD→Nat
 |mk _ _ _ _ of=>hts of+1
def hts : List TyD→Nat
 |[]=>0
 |t::l=>max (ht t) (hts l)
end
theorem ahR : ∀ {l : List TyD} {t : TyD},t ∈ l→ht t≤hts l
 |x::l,t,h=>by
  rcases List.mem_cons.1 h with rfl|h
  ·exact Nat.le_max_left _ _
  ·exact Nat.le_trans (ahR h) (Nat.le_max_right _ _)
theorem ht_of {t u : TyD} (h : u ∈ t.of) : ht u<ht t:=by
 cases t with|mk k m re st of=>exact Nat.lt_succ_of_le (ahR h)
end TyD
def TyG (r : Gh) (v : Value) (t : TyD) : Prop:=
 ∃ p cap,v = .agg #[.int .u8 t.k,.bool t.m,.int .i64 t.re,.int .i64 t.st,.slice p t.of.length cap]∧(p=none→cap=0)∧t.of.length≤cap∧RepS r 5 p 0 (TyD.dats t.of)
theorem TyG.up {r s : Gh} {v : Value} {t : TyD} (h : TyG r v t) [l : Le r s] : TyG s v t:=by
 obtain ⟨p,cap,h1,h2,h3,h4⟩:=h;exact ⟨p,cap,h1,h2,h3,h4.up⟩
theorem TyG.of_rep {r : Gh} {c : List Value} {t : TyD} (h : Rep r t.dat c) : TyG r (.agg c.toArray) t:=by
 cases t with
 |mk k m re st of=>
  obtain ⟨a1,b1,rfl,h1,a2,b2,rfl,h2,a3,b3,rfl,h3,a4,b4,rfl,h4,a5,b5,rfl,h5,h6⟩:=h
  obtain rfl : a1=_:=h1
  obtain rfl : a2=_:=h2
  obtain rfl : a3=_:=h3
  obtain rfl : a4=_:=h4
  obtain rfl : b5 = []:=h6
  obtain ⟨p,cap,rfl,q1,q2,q3⟩:=h5
  rw [TyD.dats_map,List.length_map] at q2
  refine ⟨p,cap,?_,q1,q2,q3⟩
  rw [TyD.dats_map,List.length_map];rfl
theorem TyG.rep {r : Gh} {v : Value} {t : TyD} (h : TyG r v t) : ∃ c,v = .agg c.toArray∧c.length=5∧Rep r t.dat c:=by
 obtain ⟨p,cap,rfl,h2,h3,h4⟩:=h
 refine ⟨_,rfl,rfl,?_⟩
 cases t with
 |mk k m re st of=>
  refine ⟨[_],_,rfl,rfl,[_],_,rfl,rfl,[_],_,rfl,rfl,[_],_,rfl,rfl,[_],[],rfl,⟨p,cap,?_,h2,?_,h4⟩,rfl⟩
  ·rw [TyD.dats_map,List.length_map];rfl
  ·rw [TyD.dats_map,List.length_map];exact h3
theorem kC {X : Nat→Prop} {w0 w : World} {r q : Gh} {L : List Asr} (S : StX X w0 r w L) {p : Option Addr} {of : List TyD} (h : RepS q 5 p 0 (TyD.dats of)) [l : Le q r] {i : Nat} (hi : i<of.length) :
  ∃ (b off : Nat) (c : List Value),p=some ⟨b,off,none⟩∧c.length=5∧(∀ j v,c[j]? = some v→w.cell? ⟨b,off+i*5+j,none⟩=some v)∧TyG q (.agg c.toArray) of[i]:=by
 rw [TyD.dats_map] at h
 obtain ⟨b,off,c,h1,h2,h3,h4⟩:=RepS.at S h (i:=i) (by simpa using hi) (by decide)
 rw [List.getElem_map] at h4
 exact ⟨b,off,c,h1,h2,h3,TyG.of_rep h4⟩
end Go.Proofs
end
section
namespace Go.Proofs
open Go.Sh
set_option maxRecDepth 100000
def zz (structs : Int) : Nat→TyD→Bool
 |0,_=>false
 |n+1,t=>
  let inn:=decide (t.of.length=1)&&(match t.of with|u::_=>zz structs n u|[]=>false)
  let bare:=!t.m&&decide (t.re=0)
  if t.k=1∨t.k=2 then bare&&decide (t.st=0)&&decide (t.of.length=0)
  else if t.k=5 then bare&&decide (t.of.length=0)&&decide (0≤t.st)&&decide (t.st<structs)
  else if t.k=3 then bare&&decide (t.st=0)&&inn
  else if t.k=4 then decide (-1≤t.re)&&decide (t.st=0)&&inn
  else false
def inB (structs : Int) (n : Nat) (t : TyD) : Bool:=match t.of with|u::_=>zz structs n u|[]=>false
theorem ad7 {structs : Int} {n : Nat} : ∀ {t : TyD} {h : 0<t.of.length},inB structs n t=zz structs n t.of[0]
 |.mk _ _ _ _ (_::_),_=>rfl
 |.mk _ _ _ _ [],h=>absurd h (Nat.not_lt_zero _)
theorem kO (n : Nat) : ((n : Int)=0)↔n=0:=by omega
theorem j1 (n : Nat) : ((n : Int)=1)↔n=1:=by omega
theorem YR : ∀ (n : Nat) {t : TyD} {w : World} {r : Gh} {v : Value} {structs : Int} {K : Value→World→Prop},n≤1000→Holds r w→TyG r v t→
  (∀ w',Ext w w'→K (.bool (zz structs n t)) w')→zd Tryz.prog Tryz.kv #[v,.int .i64 structs,.int .i64 (n : Int)] w K:=by
 intro n
 induction n with
 |zero=>
  intro t w r v structs K _ hr hv h
  refine Tryz.QL ?_
  unfold Tryz.YO
  have S:=St.start hr
  refine S.box fun b2 w1 S=>?_
  refine gG_ ?_
  exact h _ S.ext
 |succ n ih=>
  intro t w r v structs K hn hr hv h
  refine Tryz.QL ?_
  unfold Tryz.YO
  obtain ⟨p,cap,rfl,_,_,hof⟩:=hv
  have S:=St.start hr
  refine S.box fun b2 w1 S=>?_
  refine gG_ ?_
  refine zm (c:=inB structs n t) (fun hb K2 hK2=>?_) fun w5 e5=>?_
  ·have hlen : t.of.length=1:=by simpa [j1] using hb
   refine gG_ ?_
   obtain ⟨b,off,c,rfl,hc,hcell,ht⟩:=kC S hof (i:=0) (by omega)
   refine gG_ ?_
   refine zq (n:=5) hc (by simpa using hcell) ?_
   refine gG_ ?_
   rw [show ((n+1 : Nat) : Int) - 1=(n : Int) by omega]
   refine ih (by omega) S.holds ht fun w6 e6=>?_
   rw [← ad7]
   exact hK2 _ e6
  have S:=S.go e5
  refine gG_ ?_
  refine yv (fun K2 hK2=>by refine gG_ ?_;exact hK2) ?_
  refine gG_ ?_
  intro K11 hK11
  refine gG_ ?_
  refine kK (c:=decide (t.k=2)) (hK11 _ _ fun _=>?_) fun _ hk=>?_
  rotate_left
  ·refine gG_ ?_;exact hk
  simp only [List.getD_cons_zero]
  have hu : zz structs (n+1) t=(if t.k=1∨t.k=2 then (!t.m&&decide (t.re=0))&&decide (t.st=0)&&decide (t.of.length=0)
   else if t.k=5 then (!t.m&&decide (t.re=0))&&decide (t.of.length=0)&&decide (0≤t.st)&&decide (t.st<structs)
   else if t.k=3 then (!t.m&&decide (t.re=0))&&decide (t.st=0)&&(decide (t.of.length=1)&&inB structs n t)
   else if t.k=4 then decide (-1≤t.re)&&decide (t.st=0)&&(decide (t.of.length=1)&&inB structs n t)
   else false):=rfl
  rw [hu] at h
  refine c_b (fun h12=>?_) (fun h12=>?_)
  ·have h12 : t.k=1∨t.k=2:=by simpa using h12
   rw [if_pos h12] at h
   refine yv (fun K2 hK2=>by refine gG_ ?_;exact hK2) ?_
   refine yv (fun K2 hK2=>by refine gG_ ?_;exact hK2) ?_
   rw [decide_eq_decide.2 (kO t.of.length)]
   exact h _ S.ext
  have h12 : ¬ (t.k=1∨t.k=2):=by simpa using h12
  rw [if_neg h12] at h
  refine gG_ ?_
  refine zh (fun h5=>?_) (fun h5=>?_)
  ·rw [if_pos h5] at h
   refine yv (fun K2 hK2=>by refine gG_ ?_;exact hK2) ?_
   refine yv (fun K2 hK2=>by refine gG_ ?_;exact hK2) ?_
   refine yv (fun K2 hK2=>by refine gG_ ?_;exact hK2) ?_
   rw [decide_eq_decide.2 (kO t.of.length)]
   exact h _ S.ext
  rw [if_neg h5] at h
  refine gG_ ?_
  refine zh (fun h3=>?_) (fun h3=>?_)
  ·rw [if_pos h3] at h
   refine yv (fun K2 hK2=>by refine gG_ ?_;exact hK2) ?_
   refine yv (fun K2 hK2=>hK2) ?_
   rw [decide_eq_decide.2 (j1 t.of.length)]
   exact h _ S.ext
  rw [if_neg h3] at h
  refine gG_ ?_
  refine zh (fun h4=>?_) (fun h4=>?_)
  ·rw [if_pos h4] at h
   refine gG_ ?_
   refine yv (fun K2 hK2=>by refine gG_ ?_;exact hK2) ?_
   refine yv (fun K2 hK2=>hK2) ?_
   rw [decide_eq_decide.2 (j1 t.of.length)]
   exact h _ S.ext
  rw [if_neg h4] at h
  exact h _ S.ext
theorem xE (structs : Int) (n : Nat) (t : TyD) : zz structs (n+1) t=(if t.k=1∨t.k=2 then (!t.m&&decide (t.re=0))&&decide (t.st=0)&&decide (t.of.length=0)
   else if t.k=5 then (!t.m&&decide (t.re=0))&&decide (t.of.length=0)&&decide (0≤t.st)&&decide (t.st<structs)
   else if t.k=3 then (!t.m&&decide (t.re=0))&&decide (t.st=0)&&(decide (t.of.length=1)&&inB structs n t)
   else if t.k=4 then decide (-1≤t.re)&&decide (t.st=0)&&(decide (t.of.length=1)&&inB structs n t)
   else false):=rfl
theorem YS : ∀ (n : Nat) {t : TyD} {w : World} {r : Gh} {v : Value} {structs : Int} {K : Value→World→Prop},n≤1000→Holds r w→TyG r v t→
  (∀ w',Ext w w'→K (.bool (zz structs n t)) w')→zd Tryz.prog Tryz.xJ #[v,.int .i64 structs,.int .i64 (n : Int)] w K:=by
 intro n
 induction n with
 |zero=>
  intro t w r v structs K _ hr hv h
  refine Tryz.QQ ?_
  unfold Tryz.YQ
  have S:=St.start hr
  refine S.box fun b2 w1 S=>?_
  refine gG_ ?_
  exact h _ S.ext
 |succ n ih=>
  intro t w r v structs K hn hr hv h
  refine Tryz.QQ ?_
  unfold Tryz.YQ
  obtain ⟨p,cap,rfl,_,_,hof⟩:=hv
  have S:=St.start hr
  refine S.box fun b2 w1 S=>?_
  refine gG_ ?_
  intro K11 hK11
  refine gG_ ?_
  refine kK (c:=decide (t.k=2)) (hK11 _ _ fun _=>?_) fun _ hk=>?_
  rotate_left
  ·refine gG_ ?_;exact hk
  simp only [List.getD_cons_zero]
  rw [xE] at h
  refine c_b (fun h12=>?_) (fun h12=>?_)
  ·have h12 : t.k=1∨t.k=2:=by simpa using h12
   rw [if_pos h12] at h
   refine gG_ ?_
   refine yv (fun K2 hK2=>by refine gG_ ?_;exact hK2) ?_
   refine yv (fun K2 hK2=>by refine gG_ ?_;exact hK2) ?_
   refine yv (fun K2 hK2=>by refine gG_ ?_;exact hK2) ?_
   rw [decide_eq_decide.2 (kO t.of.length)]
   exact h _ S.ext
  have h12 : ¬ (t.k=1∨t.k=2):=by simpa using h12
  rw [if_neg h12] at h
  refine gG_ ?_
  refine zh (fun h5=>?_) (fun h5=>?_)
  ·rw [if_pos h5] at h
   refine gG_ ?_
   refine yv (fun K2 hK2=>by refine gG_ ?_;exact hK2) ?_
   refine yv (fun K2 hK2=>by refine gG_ ?_;exact hK2) ?_
   refine yv (fun K2 hK2=>by refine gG_ ?_;exact hK2) ?_
   refine yv (fun K2 hK2=>by refine gG_ ?_;exact hK2) ?_
   rw [decide_eq_decide.2 (kO t.of.length)]
   have:=h _ S.ext
   simpa only [Bool.and_comm,Bool.and_left_comm,Bool.and_assoc] using this
  rw [if_neg h5] at h
  refine gG_ ?_
  refine zh (fun h3=>?_) (fun h3=>?_)
  ·rw [if_pos h3] at h
   refine gG_ ?_
   refine yv (fun K2 hK2=>by refine gG_ ?_;exact hK2) ?_
   refine yv (fun K2 hK2=>by refine gG_ ?_;exact hK2) ?_
   refine yv (fun K2 hK2=>by refine gG_ ?_;exact hK2) ?_
   refine zm (c:=inB structs n t) (fun hb K2 hK2=>?_) fun w5 e5=>?_
   ·have hlen : t.of.length=1:=by simp only [Bool.and_eq_true,decide_eq_true_eq] at hb;omega
    refine gG_ ?_
    obtain ⟨b,off,c,rfl,hc,hcell,ht⟩:=kC S hof (i:=0) (by omega)
    refine gG_ ?_
    refine zq (n:=5) hc (by simpa using hcell) ?_
    refine gG_ ?_
    rw [show ((n+1 : Nat) : Int) - 1=(n : Int) by omega]
    refine ih (by omega) S.holds ht fun w6 e6=>?_
    rw [← ad7]
    exact hK2 _ e6
   have S:=S.go e5
   rw [decide_eq_decide.2 (j1 t.of.length)]
   have:=h _ S.ext
   simpa only [Bool.and_assoc] using this
  rw [if_neg h3] at h
  refine gG_ ?_
  refine zh (fun h4=>?_) (fun h4=>?_)
  ·rw [if_pos h4] at h
   refine gG_ ?_
   refine yv (fun K2 hK2=>by refine gG_ ?_;exact hK2) ?_
   refine yv (fun K2 hK2=>by refine gG_ ?_;exact hK2) ?_
   refine zm (c:=inB structs n t) (fun hb K2 hK2=>?_) fun w5 e5=>?_
   ·have hlen : t.of.length=1:=by simp only [Bool.and_eq_true,decide_eq_true_eq] at hb;omega
    refine gG_ ?_
    obtain ⟨b,off,c,rfl,hc,hcell,ht⟩:=kC S hof (i:=0) (by omega)
    refine gG_ ?_
    refine zq (n:=5) hc (by simpa using hcell) ?_
    refine gG_ ?_
    rw [show ((n+1 : Nat) : Int) - 1=(n : Int) by omega]
    refine ih (by omega) S.holds ht fun w6 e6=>?_
    rw [← ad7]
    exact hK2 _ e6
   have S:=S.go e5
   rw [decide_eq_decide.2 (j1 t.of.length)]
   have:=h _ S.ext
   simpa only [Bool.and_assoc] using this
  rw [if_neg h4] at h
  exact h _ S.ext
def isB (t : TyD) : Bool:=zz 32 48 t
theorem ki {t : TyD} {w : World} {r : Gh} {v : Value} {K : Value→World→Prop} (hr : Holds r w) (hv : TyG r v t) (h : ∀ w',Ext w w'→K (.bool (isB t)) w') : zd Tryz.prog Tryz.xp #[v] w K:=by
 refine Tryz.ad2 ?_
 unfold Tryz.VK
 have hv0:=hv
 obtain ⟨p,cap,rfl,_⟩:=hv
 have S:=St.start hr
 refine S.box fun b2 w1 S=>?_
 refine gG_ ?_
 exact YR 48 (by decide) S.holds hv0 fun w2 e2=>h _ (S.go e2).ext
theorem aaT {t : TyD} {w : World} {r : Gh} {v : Value} {K : Value→World→Prop} (hr : Holds r w) (hv : TyG r v t) (h : ∀ w',Ext w w'→K (.bool (isB t)) w') : zd Tryz.prog Tryz.Yi #[v] w K:=by
 refine Tryz.aeT ?_
 unfold Tryz.aaP
 have hv0:=hv
 obtain ⟨p,cap,rfl,_⟩:=hv
 have S:=St.start hr
 refine S.box fun b2 w1 S=>?_
 refine gG_ ?_
 exact YS 48 (by decide) S.holds hv0 fun w2 e2=>h _ (S.go e2).ext
end Go.Proofs
end
section
namespace Go.Proofs
open Go.Sh
set_option maxRecDepth 100000
theorem zS {s : Int} {n : Nat} {t : TyD} (h : zz s (n+1) t=true) : (t.of = []∧(t.k=1∨t.k=2∨t.k=5))∨∃ u,t.of = [u]∧zz s n u=true∧(t.k=3∨t.k=4):=by
 rw [xE] at h
 have one : ∀ {b : Bool},(b&&(decide (t.of.length=1)&&inB s n t))=true→∃ u,t.of = [u]∧zz s n u=true:=by
  intro b hb
  simp only [Bool.and_eq_true,decide_eq_true_eq] at hb
  obtain ⟨_,hl,hi⟩:=hb
  cases t with
  |mk k m re st of=>
   cases of with
   |nil=>cases hl
   |cons u l=>
    cases l with
    |nil=>exact ⟨u,rfl,hi⟩
    |cons x l=>cases hl
 split at h
 ·rename_i hk
  simp only [Bool.and_eq_true,decide_eq_true_eq] at h
  exact .inl ⟨List.eq_nil_of_length_eq_zero h.2,hk.elim .inl fun h=>.inr (.inl h)⟩
 split at h
 ·rename_i hk
  simp only [Bool.and_eq_true,decide_eq_true_eq] at h
  exact .inl ⟨List.eq_nil_of_length_eq_zero h.1.1.2,.inr (.inr hk)⟩
 split at h
 ·rename_i hk
  obtain ⟨u,h1,h2⟩:=one h
  exact .inr ⟨u,h1,h2,.inl hk⟩
 split at h
 ·rename_i hk
  obtain ⟨u,h1,h2⟩:=one h
  exact .inr ⟨u,h1,h2,.inr hk⟩
 ·cases h
def xt (f : Int→Int→Bool) : Nat→TyD→TyD→Bool
 |0,_,_=>false
 |n+1,a,b=>!(decide (a.k≠b.k) || !(a.m == b.m)||decide (a.st≠b.st) || !f a.re b.re)&&(decide (a.of.length=0)||(match a.of,b.of with|u::_,x::_=>xt f n u x|_,_=>false))
theorem Qp {f : Int→Int→Bool} {n : Nat} {a b : TyD} (h : a.of = []) : xt f (n+1) a b = !(decide (a.k≠b.k) || !(a.m == b.m)||decide (a.st≠b.st) || !f a.re b.re):=by
 rw [xt,h];simp
theorem Qq {f : Int→Int→Bool} {n : Nat} {a b u x : TyD} (h : a.of = [u]) (h2 : b.of = [x]) : xt f (n+1) a b=(!(decide (a.k≠b.k) || !(a.m == b.m)||decide (a.st≠b.st) || !f a.re b.re)&&xt f n u x):=by
 rw [xt,h,h2];simp
theorem Ju {f : Int→Int→Bool} {n : Nat} {a b : TyD} (h : (decide (a.k≠b.k) || !(a.m == b.m)||decide (a.st≠b.st) || !f a.re b.re)=true) : xt f (n+1) a b=false:=by
 rw [xt,h];simp
theorem QU {f : Int→Int→Bool} {fv : Value} (hf : ∀ (x y : Int) (w : World) (K : Value→World→Prop),K (.bool (f x y)) w→z7 Tryz.prog fv #[.int .i64 x,.int .i64 y] w K) {s : Int} :
  ∀ (n : Nat) {a b : TyD} {w : World} {r : Gh} {va vb : Value} {K : Value→World→Prop},Holds r w→TyG r va a→TyG r vb b→zz s n a=true→zz s n b=true→
  (∀ w',Ext w w'→K (.bool (xt f n a b)) w')→zd Tryz.prog Tryz.kU #[va,vb,fv] w K:=by
 intro n
 induction n with
 |zero=>intro a b w r va vb K _ _ _ h;cases h
 |succ n ih=>
  intro a b w r va vb K hr hva hvb ha hb h
  refine Tryz.abN ?_
  unfold Tryz.QP
  obtain ⟨p,cap,rfl,_,_,hofa⟩:=hva
  obtain ⟨q,cap',rfl,_,_,hofb⟩:=hvb
  have S:=St.start hr
  refine S.box fun b3 w1 S=>?_
  refine S.box fun b4 w2 S=>?_
  refine gG_ ?_
  refine adz (fun K2 hK2=>by refine gG_ ?_;exact hK2) ?_
  refine adz (fun K2 hK2=>by refine gG_ ?_;exact hK2) ?_
  refine adz (c:=!f a.re b.re) (fun K2 hK2=>?_) ?_
  ·refine gG_ ?_
   refine hf _ _ _ _ ?_
   refine gG_ ?_
   exact hK2
  refine c_b (fun hne=>?_) (fun heq=>?_)
  ·rw [Ju hne] at h
   exact h _ S.ext
  have S:=S.go (Ext.drew _)
  refine gG_ ?_
  have hk : a.k=b.k:=by
   simp only [Bool.or_eq_false_iff,decide_eq_false_iff_not,Classical.not_not] at heq
   exact heq.1.1.1
  rcases zS ha with ⟨hof,hka⟩|⟨u,hof,hu,hka⟩
  ·rw [Qp hof,heq] at h
   refine afF (fun _=>?_) (fun hn=>absurd (by rw [hof];rfl) hn)
   exact h _ S.ext
  ·rcases zS hb with ⟨_,hkb⟩|⟨x,hofx,hx,hkb⟩
   ·exfalso;omega
   rw [Qq hof hofx,heq] at h
   have hla : 0<a.of.length:=by rw [hof];exact Nat.one_pos
   have hlb : 0<b.of.length:=by rw [hofx];exact Nat.one_pos
   refine afF (fun hn=>by omega) (fun _=>?_)
   intro K2 hK2
   obtain ⟨ba,oa,ca,rfl,hca,hcella,hta⟩:=kC S hofa hla
   obtain ⟨bb,ob,cb,rfl,hcb,hcellb,htb⟩:=kC S hofb hlb
   have hau : a.of[0]=u:=by simp [hof]
   have hbx : b.of[0]=x:=by simp [hofx]
   rw [hau] at hta;rw [hbx] at htb
   refine gG_ ?_
   refine zq (n:=5) hca (by simpa using hcella) ?_
   refine gG_ ?_
   refine zq (n:=5) hcb (by simpa using hcellb) ?_
   refine gG_ ?_
   refine ih S.holds hta htb hu hx fun w5 e5=>?_
   refine hK2 _ _ ?_
   simpa using h _ (S.go e5).ext
def zI (f : Int→Int→Bool) (a b : TyD) : Bool:=(isB a&&isB b)&&xt f 48 a b
def yf (_ _ : Int) : Bool:=true
def fEq (x y : Int) : Bool:=decide (x=y)
theorem ah0 (x y : Int) (w : World) (K : Value→World→Prop) (hk : K (.bool (yf x y)) w) : z7 Tryz.prog (.func (.func Tryz.Xd) #[] #[]) #[.int .i64 x,.int .i64 y] w K:=by
 refine qH (by kernel_rfl) ?_
 refine Tryz.V6 (t0:=.int .i64 x) (t1:=.int .i64 y) ?_
 unfold Tryz.Xj
 exact hk
theorem aiD (x y : Int) (w : World) (K : Value→World→Prop) (hk : K (.bool (fEq x y)) w) : z7 Tryz.prog (.func (.func Tryz.XP) #[] #[]) #[.int .i64 x,.int .i64 y] w K:=by
 refine qH (by kernel_rfl) ?_
 refine Tryz.aaO (t0:=.int .i64 x) (t1:=.int .i64 y) ?_
 unfold Tryz.XZ
 refine gP_ ?_
 exact hk
theorem kZ {a b : TyD} {w : World} {r : Gh} {va vb : Value} {K : Value→World→Prop} (hr : Holds r w) (ha : TyG r va a) (hb : TyG r vb b)
  (h : ∀ w',Ext w w'→K (.bool (zI yf a b)) w') : zd Tryz.prog Tryz.xy #[va,vb] w K:=by
 refine Tryz.abL ?_
 unfold Tryz.QN
 have ha0:=ha;have hb0:=hb
 obtain ⟨p,cap,rfl,_⟩:=ha
 obtain ⟨q,cap',rfl,_⟩:=hb
 have S:=St.start hr
 refine S.box fun b2 w1 S=>?_
 refine S.box fun b3 w2 S=>?_
 refine gG_ ?_
 refine ki S.holds ha0 fun w3 e3=>?_
 have S:=S.go e3
 refine zm (c:=isB b) (fun _ K2 hK2=>?_) fun w4 e4=>?_
 ·refine gG_ ?_
  exact ki S.holds hb0 fun w4 e4=>hK2 _ e4
 have S:=S.go e4
 refine zm (c:=xt yf 48 a b) (fun hab K2 hK2=>?_) fun w5 e5=>h _ (S.go e5).ext
 simp only [Bool.and_eq_true] at hab
 refine gG_ ?_
 refine QU (f:=yf) (s:=32) ah0 48 S.holds ha0 hb0 hab.1 hab.2 fun w5 e5=>?_
 exact hK2 _ e5
theorem ad8 {a b : TyD} {w : World} {r : Gh} {va vb : Value} {K : Value→World→Prop} (hr : Holds r w) (ha : TyG r va a) (hb : TyG r vb b)
  (h : ∀ w',Ext w w'→K (.bool (zI fEq a b)) w') : zd Tryz.prog Tryz.qK #[va,vb] w K:=by
 refine Tryz.acO ?_
 unfold Tryz.Jr
 have ha0:=ha;have hb0:=hb
 obtain ⟨p,cap,rfl,_⟩:=ha
 obtain ⟨q,cap',rfl,_⟩:=hb
 have S:=St.start hr
 refine S.box fun b2 w1 S=>?_
 refine S.box fun b3 w2 S=>?_
 refine gG_ ?_
 refine ki S.holds ha0 fun w3 e3=>?_
 have S:=S.go e3
 refine zm (c:=isB b) (fun _ K2 hK2=>?_) fun w4 e4=>?_
 ·refine gG_ ?_
  exact ki S.holds hb0 fun w4 e4=>hK2 _ e4
 have S:=S.go e4
 refine zm (c:=xt fEq 48 a b) (fun hab K2 hK2=>?_) fun w5 e5=>h _ (S.go e5).ext
 simp only [Bool.and_eq_true] at hab
 refine gG_ ?_
 refine QU (f:=fEq) (s:=32) aiD 48 S.holds ha0 hb0 hab.1 hab.2 fun w5 e5=>?_
 exact hK2 _ e5
end Go.Proofs
end
section
namespace Go.Proofs
open Go.Sh
set_option maxRecDepth 100000
namespace TyD
mutual
def chain : TyD→List TyD
 |mk k m re st of=>mk k m re st of::chains of
def chains : List TyD→List TyD
 |[]=>[]
 |t::_=>chain t
end
theorem chain_eq : ∀ t : TyD,t.chain=t::chains t.of
 |mk _ _ _ _ _=>rfl
def regsL (l : List TyD) : List Int:=(l.filter fun u=>decide (u.k=4)).map re
def regs (t : TyD) : List Int:=regsL t.chain
theorem regs_eq (t : TyD) : t.regs=(if t.k=4 then [t.re] else [])++regsL (chains t.of):=by
 rw [regs,chain_eq,regsL,List.filter_cons]
 by_cases h : t.k=4
 ·simp only [h,decide_true,if_true];rfl
 ·simp only [h,decide_false,if_false];rfl
theorem chains_eq {l : List TyD} (h : 0<l.length) : chains l=chain l[0]:=by
 cases l with
 |nil=>cases h
 |cons t l=>rfl
end TyD
def ints (l : List Int) : List Value:=l.map (.int .i64)
theorem agf (l : List Int) : ∀ u ∈ ints l,u.oneCell'=true:=by
 intro u hu
 obtain ⟨i,_,rfl⟩:=List.mem_map.1 hu;rfl
theorem qQ (l : List Int) : (ints l).length=l.length:=List.length_map ..
def NdG (r : Gh) (b off : Nat) (t : TyD) : Prop:=∃ c : List Value,c.length=5∧(∀ j v,c[j]? = some v→Ob r fun w=>w.cell? ⟨b,off+j,none⟩=some v)∧TyG r (.agg c.toArray) t
theorem NdG.of {r : Gh} {p : Option Addr} {of : List TyD} (h : RepS r 5 p 0 (TyD.dats of)) {i : Nat} (hi : i<of.length) : ∃ b off,p=some ⟨b,off,none⟩∧NdG r b (off+i*5) of[i]:=by
 rw [TyD.dats_map] at h
 obtain ⟨c,h1,h2,h3⟩:=h.get (i:=i) (List.getElem?_eq_getElem (by simpa using hi))
 obtain ⟨b,off,rfl,_⟩:=h2 0 c[0] (List.getElem?_eq_getElem (by omega))
 rw [List.getElem_map] at h3
 refine ⟨b,off,rfl,c,h1,fun j v hj=>?_,TyG.of_rep h3⟩
 obtain ⟨b',off',hp,ho⟩:=h2 j v hj
 cases hp
 rwa [Nat.zero_add] at ho
theorem Vu {X : Nat→Prop} {w0 w : World} {r q : Gh} {L : List Asr} {bl b off : Nat} {v : Value} {n : Nat} {xs : List Value} {t : TyD} {K : Value→World→Prop}
  (S : StX X w0 r w (.cell bl [v] 67 :: .row v 3 1 n xs::L)) (hn : NdG q b off t) [Le q r] (hl : n<1000000000)
  (h : ∀ v' w',StX X w0 r w' (.cell bl [v'] 67 :: .row v' 3 1 (n+1) (xs ++ [.int .i64 t.re])::L)→K (.tuple #[]) w') :
  zd Tryz.prog Tryz.ji #[.pointer (some ⟨b,off,none⟩),.pointer (some ⟨bl,0,none⟩)] w K:=by
 refine Tryz.Jn ?_
 unfold Tryz.Z8
 obtain ⟨c,hc,hcell,p,cap,hv,_,_,hof⟩:=hn
 cases hv
 have S:=S.go (Ext.drew _)
 refine gG_ ?_
 refine zp (S.at (hcell 2 _ rfl)) ?_
 refine S.litU (e:=3) (cs:=[.int .i64 t.re]) (by kernel_rfl) fun b3 w3 S=>?_
 refine S.ap (Sl.blk (S.blk b3)) (fun v4 w4 S=>?_) (by omega)
 refine S.st (h1:=S.row1 v4) fun w5 S=>?_
 exact h _ _ S.tl
theorem Vv : ∀ (k : Nat) {t : TyD} {X : Nat→Prop} {w0 w : World} {r q : Gh} {L : List Asr} {bl b off : Nat} {v : Value} {n : Nat} {xs : List Value} {K : Value→World→Prop} [Le q r],t.ht≤k→
  StX X w0 r w (.cell bl [v] 67 :: .row v 3 1 n xs::L)→NdG q b off t→n+k<1000000000→
  (∀ v' w',StX X w0 r w' (.cell bl [v'] 67 :: .row v' 3 1 (n+t.regs.length) (xs++ints t.regs)::L)→K (.tuple #[]) w')→
  zd Tryz.prog Tryz.vd #[.pointer (some ⟨b,off,none⟩),.func (.func Tryz.ji) #[] #[.pointer (some ⟨bl,0,none⟩)]] w K:=by
 intro k
 induction k with
 |zero=>intro t X w0 w r q L bl b off v n xs K _ ht;exfalso;cases t with|mk k m re st of=>exact absurd ht (Nat.not_succ_le_zero _)
 |succ k ih=>
  intro t X w0 w r q L bl b off v n xs K _ ht S hn hk h
  refine Tryz.acN ?_
  unfold Tryz.Jm
  have hn0:=hn
  obtain ⟨c,hc,hcell,p,cap,hv,_,_,hof⟩:=hn
  cases hv
  refine zu (fun _ w'=>∃ v',StX X w0 r w' (.cell bl [v'] 67 :: .row v' 3 1 (n+(if t.k=4 then 1 else 0)) (xs++(if t.k=4 then [.int .i64 t.re] else []))::L)) (fun K2 hK2=>?_) ?_
  ·refine gG_ ?_
   refine zp (S.at (hcell 0 _ rfl)) ?_
   refine gG_ ?_
   refine zh (fun h4=>?_) (fun h4=>hK2 _ _ ⟨v,by simpa [h4] using S⟩)
   refine qH (by kernel_rfl) ?_
   show zd _ _ #[_,_] _ _
   refine Vu S hn0 (by omega) fun v' w' S=>hK2 _ _ ⟨v',by simpa [h4] using S⟩
  ·rintro s w' ⟨v',S⟩ d
   refine gG_ ?_
   refine zp (S.at (hcell 4 _ rfl)) ?_
   refine gG_ ?_
   refine zh (fun hlen=>?_) (fun hlen=>?_)
   ·have hlen : 0<t.of.length:=by omega
    obtain ⟨b2,off2,rfl,hn2⟩:=NdG.of hof hlen
    refine gG_ ?_
    refine zp (S.at (hcell 4 _ rfl)) ?_
    refine gG_ ?_
    have hh:=TyD.ht_of (List.getElem_mem hlen)
    refine ih (t:=t.of[0]) (by omega) S hn2 (by split<;>omega) fun v3 w3 S=>h v3 w3 ?_
    have h1 : t.regs=(if t.k=4 then [t.re] else [])++t.of[0].regs:=by rw [TyD.regs_eq,TyD.chains_eq hlen];rfl
    rw [h1]
    have e1 : n+(if t.k=4 then 1 else 0)+t.of[0].regs.length=n+((if t.k=4 then [t.re] else [])++t.of[0].regs).length:=by split<;>simp<;>omega
    have e2 : xs++(if t.k=4 then [.int .i64 t.re] else [])++ints t.of[0].regs=xs++ints ((if t.k=4 then [t.re] else [])++t.of[0].regs):=by split<;>simp [ints]
    rwa [e1,e2] at S
   ·have hz : t.of = []:=List.eq_nil_of_length_eq_zero (by omega)
    have h1 : t.regs=(if t.k=4 then [t.re] else []):=by rw [TyD.regs_eq,hz];simp [TyD.chains,TyD.regsL]
    refine h v' _ ?_
    rw [h1]
    have e1 : (if t.k=4 then [t.re] else []).length=(if t.k=4 then 1 else 0):=by split<;>rfl
    have e2 : ints (if t.k=4 then [t.re] else [])=(if t.k=4 then [.int .i64 t.re] else []):=by split<;>rfl
    rwa [e1,e2]
end Go.Proofs
end
