/-
  The seat's types, reckoned: what each operation on them asks. Made by a program (wip/gen/gen.py).
  Shallow readings of functions. Made by a program (wip/gen/gen.py) out of the translation; the kernel checks each equality.
  Shallow readings of functions. Made by a program (wip/gen/gen.py) out of the translation; the kernel checks each equality.
  Shallow readings of functions. Made by a program (wip/gen/gen.py) out of the translation; the kernel checks each equality.
-/
import Derived.Test.YtngfnikkdhbajaaGreatProg
import Derived.Test.YtngfnikkdhbajaaGreatQUa
import Derived.KernelRfl
section
namespace Go.Proofs
open Go.Sh
set_option maxRecDepth 100000
theorem Tryz.agS : Tryz.prog.follows .mixedOrders=true:=by kernel_rfl
namespace Tryz
abbrev VW:=Value→World→Prop
abbrev fa (v : Value) (T : TypeId) (i : Nat) (k : Value→Prop) : Prop:=JB v fun a=>opP prog (Instr.fieldAt T a i) k
abbrev pf (T : TypeId) (v : Value) (i : Nat) (k : Value→Prop) : Prop:=opP prog (Instr.fieldAt T v i) k
abbrev lo (w : World) (T : TypeId) (v : Value) (k : Value→Prop) : Prop:=opQ prog w (Instr.loadAt T v) k
abbrev ff (w : World) (v : Value) (T : TypeId) (i : Nat) (U : TypeId) (k : Value→Prop) : Prop:=JB v fun a=>opP prog (Instr.fieldAt T a i) fun b=>opQ prog w (Instr.loadAt U b) k
abbrev fl (w : World) (v : Value) (T : TypeId) (i : Nat) (U : TypeId) (k : Value→Prop) : Prop:=opP prog (Instr.fieldAt T v i) fun b=>opQ prog w (Instr.loadAt U b) k
abbrev px (T : TypeId) (v i : Value) (k : Value→Prop) : Prop:=opP prog (Instr.indexAt T v i) k
abbrev xl (w : World) (T : TypeId) (v i : Value) (U : TypeId) (k : Value→Prop) : Prop:=opP prog (Instr.indexAt T v i) fun b=>opQ prog w (Instr.loadAt U b) k
abbrev bt (o : BinOp) (T : TypeId) (x y : Value) (k : Value→Prop) : Prop:=opP prog (yH o T true x y) k
abbrev bf (o : BinOp) (T : TypeId) (x y : Value) (k : Value→Prop) : Prop:=opP prog (yH o T false x y) k
abbrev pe (x : Value) (i : Nat) (k : Value→Prop) : Prop:=opP prog (Instr.extract x i) k
abbrev so (w : World) (T : TypeId) (x y : Value) (k : World→Prop) : Prop:=opU prog w (Instr.storeAt T x y) k
abbrev pp (s : Sem Value) (k : Value→Prop) : Prop:=opP prog s k
abbrev pq (w : World) (s : Sem Value) (k : Value→Prop) : Prop:=opQ prog w s k
abbrev pw (w : World) (s : Sem Value) (k : Value→World→Prop) : Prop:=opW prog w s k
abbrev pu (w : World) (s : Sem Unit) (k : World→Prop) : Prop:=opU prog w s k
abbrev ca (f : FuncId) (a : Array Value) (w : World) (k : Value→World→Prop) : Prop:=ze prog f a w k
abbrev cv (f : Value) (a : Array Value) (w : World) (k : Value→World→Prop) : Prop:=zJ prog f a w k
abbrev i6 (n : Int) : Value:=.int .i64 n
abbrev tr_ : Value:=.bool true
abbrev fa_ : Value:=.bool false
theorem okC (m : Bool) (A : Ann) {f : FuncId} {fn : Func} {args : Array Value} {w : World} {K : VW} {X : Prop} (hf : prog.funcs[f]? = some fn) (hb : fn.body.isSome=true) (hc : chk ⟨m,false⟩ prog false A (j7 fn)=true)
  (he : sw ⟨m,false⟩ prog (fun _ _=>False) A (j7 fn) (args.toList++List.replicate (fn.ntmps - args.size) undef) w (aeO m prog fn w K)=X) (h : X) : ze prog f args w K:=
 ac6 (cf:=⟨m,false⟩) agS hf hb hc (he.mpr h)
end Tryz
abbrev Tryz.qd : FuncId:=33
instance : LdN Tryz.prog 31 5:=⟨by kernel_rfl⟩
instance : SzT Tryz.prog 31 5:=⟨by kernel_rfl⟩
instance : ZrT Tryz.prog 31 [(.int .u8 0),(.bool false),(.int .i64 0),(.int .i64 0),(.slice none 0 0)]:=⟨by kernel_rfl⟩
instance : PStep Tryz.prog (Instr.build 31 #[]) (.agg #[(.int .u8 0),(.bool false),(.int .i64 0),(.int .i64 0),(.slice none 0 0)]):=.of fun _ k=>zo (by kernel_rfl) k
abbrev Tryz.yI : FuncId:=35
abbrev Tryz.Zl : FuncId:=42
instance : Ld1 Tryz.prog 39:=⟨by kernel_rfl⟩
instance : SzT Tryz.prog 39 1:=⟨by kernel_rfl⟩
instance : SlT Tryz.prog 39 3 1:=⟨by kernel_rfl⟩
instance : Ld1 Tryz.prog 3:=⟨by kernel_rfl⟩
instance : SzT Tryz.prog 3 1:=⟨by kernel_rfl⟩
instance : ZrT Tryz.prog 3 [(.int .i64 0)]:=⟨by kernel_rfl⟩
abbrev Tryz.xe : FuncId:=48
abbrev Tryz.kf : FuncId:=49
instance : zE Tryz.prog 31 4 4:=⟨by kernel_rfl⟩
instance : Ld1 Tryz.prog 29:=⟨by kernel_rfl⟩
instance : SzT Tryz.prog 29 1:=⟨by kernel_rfl⟩
instance : SlT Tryz.prog 29 31 5:=⟨by kernel_rfl⟩
abbrev Tryz.ku : FuncId:=51
instance : ZrT Tryz.prog 39 [(.slice none 0 0)]:=⟨by kernel_rfl⟩
abbrev Tryz.xr : FuncId:=52
instance : Ld1 Tryz.prog 22:=⟨by kernel_rfl⟩
instance : SlT Tryz.prog 22 64 2:=⟨by kernel_rfl⟩
instance : SlT Tryz.prog 125 90 1:=⟨by kernel_rfl⟩
instance : Ld1 Tryz.prog 90:=⟨by kernel_rfl⟩
abbrev Tryz.kg : FuncId:=55
abbrev Tryz.YE : FuncId:=56
abbrev Tryz.xF : FuncId:=57
instance : zE Tryz.prog 31 0 0:=⟨by kernel_rfl⟩
instance : Ld1 Tryz.prog 28:=⟨by kernel_rfl⟩
abbrev Tryz.aaj : FuncId:=58
instance : zE Tryz.prog 31 2 2:=⟨by kernel_rfl⟩
abbrev Tryz.xG : FuncId:=65
instance : zE Tryz.prog 31 1 1:=⟨by kernel_rfl⟩
instance : Ld1 Tryz.prog 4:=⟨by kernel_rfl⟩
instance : SzT Tryz.prog 4 1:=⟨by kernel_rfl⟩
instance : KdB Tryz.prog 4:=⟨by kernel_rfl⟩
instance : zE Tryz.prog 31 3 3:=⟨by kernel_rfl⟩
abbrev Tryz.k6 : FuncId:=66
instance : ApT Tryz.prog 39 3 1 8:=⟨by kernel_rfl⟩
abbrev Tryz.xA : FuncId:=67
instance : zE Tryz.prog 64 1 1:=⟨by kernel_rfl⟩
instance : Ld1 Tryz.prog 62:=⟨by kernel_rfl⟩
instance : SlT Tryz.prog 62 105 6:=⟨by kernel_rfl⟩
instance : LdN Tryz.prog 105 6:=⟨by kernel_rfl⟩
instance : SzT Tryz.prog 105 6:=⟨by kernel_rfl⟩
abbrev Tryz.XJ : FuncId:=69
instance : zE Tryz.prog 105 1 1:=⟨by kernel_rfl⟩
abbrev Tryz.xB : FuncId:=70
abbrev Tryz.ja : FuncId:=71
instance : ArT Tryz.prog 151 32 4 1:=⟨by kernel_rfl⟩
instance : ZrT Tryz.prog 151 [(.bool false),(.bool false),(.bool false),(.bool false),(.bool false),(.bool false),(.bool false),(.bool false),(.bool false),(.bool false),(.bool false),(.bool false),(.bool false),(.bool false),(.bool false),(.bool false),(.bool false),(.bool false),(.bool false),(.bool false),(.bool false),(.bool false),(.bool false),(.bool false),(.bool false),(.bool false),(.bool false),(.bool false),(.bool false),(.bool false),(.bool false),(.bool false)]:=⟨by kernel_rfl⟩
instance : ZrT Tryz.prog 105 [(.string ByteArray.empty),(.int .u8 0),(.bool false),(.int .i64 0),(.int .i64 0),(.slice none 0 0)]:=⟨by kernel_rfl⟩
abbrev Tryz.xC : FuncId:=72
abbrev Tryz.qk : FuncId:=73
abbrev Tryz.vv : FuncId:=74
abbrev Tryz.y6 : FuncId:=112
abbrev Tryz.jI : FuncId:=114
instance : ApT Tryz.prog 29 31 5 48:=⟨by kernel_rfl⟩
abbrev Tryz.vw : FuncId:=115
abbrev Tryz.kN : FuncId:=120
abbrev Tryz.qm : FuncId:=121
abbrev Tryz.ZX : FuncId:=122
abbrev Tryz.qu : FuncId:=125
abbrev Tryz.Vl : FuncId:=131
abbrev Tryz.Yn : FuncId:=46
instance : LdN Tryz.prog 25 3:=⟨by kernel_rfl⟩
instance : SzT Tryz.prog 25 3:=⟨by kernel_rfl⟩
abbrev Tryz.vy : FuncId:=64
instance : zE Tryz.prog 25 0 0:=⟨by kernel_rfl⟩
instance : zE Tryz.prog 25 1 1:=⟨by kernel_rfl⟩
instance : Ld1 Tryz.prog 23:=⟨by kernel_rfl⟩
instance : SlT Tryz.prog 23 58 7:=⟨by kernel_rfl⟩
instance : LdN Tryz.prog 58 7:=⟨by kernel_rfl⟩
instance : SzT Tryz.prog 58 7:=⟨by kernel_rfl⟩
instance : zE Tryz.prog 25 2 2:=⟨by kernel_rfl⟩
instance : ZrT Tryz.prog 58 [(.string ByteArray.empty),(.int .i64 0),(.slice none 0 0),(.int .i64 0),(.slice none 0 0),(.slice none 0 0),(.slice none 0 0)]:=⟨by kernel_rfl⟩
instance : LdN Tryz.prog 149 10:=⟨by kernel_rfl⟩
instance : SzT Tryz.prog 149 10:=⟨by kernel_rfl⟩
instance : ZrT Tryz.prog 149 [(.slice none 0 0),(.slice none 0 0),(.int .i64 0),(.string ByteArray.empty),(.int .i64 0),(.slice none 0 0),(.int .i64 0),(.slice none 0 0),(.slice none 0 0),(.slice none 0 0)]:=⟨by kernel_rfl⟩
instance : zE Tryz.prog 58 6 6:=⟨by kernel_rfl⟩
instance : Ld1 Tryz.prog 56:=⟨by kernel_rfl⟩
instance : SlT Tryz.prog 56 53 21:=⟨by kernel_rfl⟩
instance : LdN Tryz.prog 53 21:=⟨by kernel_rfl⟩
instance : SzT Tryz.prog 53 21:=⟨by kernel_rfl⟩
instance : ZrT Tryz.prog 53 [(.int .u8 0),(.int .i64 0),(.slice none 0 0),(.int .u8 0),(.int .i64 0),(.int .i64 0),(.slice none 0 0),(.int .u8 0),(.int .i64 0),(.int .i64 0),(.slice none 0 0),(.slice none 0 0),(.string ByteArray.empty),(.int .i64 0),(.slice none 0 0),(.bool false),(.int .i64 0),(.int .i64 0),(.int .i64 0),(.int .i64 0),(.int .i64 0)]:=⟨by kernel_rfl⟩
abbrev Tryz.zx : FuncId:=106
instance : LdN Tryz.prog 156 7:=⟨by kernel_rfl⟩
instance : SzT Tryz.prog 156 7:=⟨by kernel_rfl⟩
instance : ZrT Tryz.prog 156 [(.int .u8 0),(.bool false),(.int .i64 0),(.int .i64 0),(.slice none 0 0),(.int .i64 0),(.bool false)]:=⟨by kernel_rfl⟩
instance : zE Tryz.prog 47 0 0:=⟨by kernel_rfl⟩
instance : zE Tryz.prog 149 1 3:=⟨by kernel_rfl⟩
instance : zE Tryz.prog 58 4 4:=⟨by kernel_rfl⟩
instance : PStep Tryz.prog (Instr.build 156 #[]) (.agg #[(.int .u8 0),(.bool false),(.int .i64 0),(.int .i64 0),(.slice none 0 0),(.int .i64 0),(.bool false)]):=.of fun _ k=>zo (by kernel_rfl) k
instance : zE Tryz.prog 47 1 1:=⟨by kernel_rfl⟩
instance : Ld1 Tryz.prog 45:=⟨by kernel_rfl⟩
instance : SlT Tryz.prog 45 82 1:=⟨by kernel_rfl⟩
instance : Ld1 Tryz.prog 82:=⟨by kernel_rfl⟩
instance {x0_0 : Value} {x0_1 : Value} {x0_2 : Value} {x0_3 : Value} {x0_4 : Value} {x2_0 : Bool} : PStep Tryz.prog (Instr.build 156 #[(0,.agg #[x0_0,x0_1,x0_2,x0_3,x0_4]),(2,.bool x2_0)]) (.agg #[x0_0,x0_1,x0_2,x0_3,x0_4,(.int .i64 0),.bool x2_0]):=.of fun _ k=>zo (by kernel_rfl) k
instance : zE Tryz.prog 156 0 0:=⟨by kernel_rfl⟩
instance : zE Tryz.prog 156 1 5:=⟨by kernel_rfl⟩
instance : zE Tryz.prog 149 0 0:=⟨by kernel_rfl⟩
abbrev Tryz.Zm : FuncId:=93
instance : zE Tryz.prog 58 1 1:=⟨by kernel_rfl⟩
instance : zE Tryz.prog 58 3 3:=⟨by kernel_rfl⟩
instance : zE Tryz.prog 58 5 5:=⟨by kernel_rfl⟩
instance : Ld1 Tryz.prog 55:=⟨by kernel_rfl⟩
instance : SlT Tryz.prog 55 9 1:=⟨by kernel_rfl⟩
instance : Ld1 Tryz.prog 9:=⟨by kernel_rfl⟩
instance : aeW Tryz.prog 9:=⟨by kernel_rfl⟩
instance : zE Tryz.prog 53 0 0:=⟨by kernel_rfl⟩
instance : Ld1 Tryz.prog 44:=⟨by kernel_rfl⟩
abbrev Tryz.km : FuncId:=94
instance : zE Tryz.prog 53 12 20:=⟨by kernel_rfl⟩
instance : zE Tryz.prog 53 10 18:=⟨by kernel_rfl⟩
instance : zE Tryz.prog 53 1 1:=⟨by kernel_rfl⟩
instance : LdN Tryz.prog 47 2:=⟨by kernel_rfl⟩
instance : SzT Tryz.prog 47 2:=⟨by kernel_rfl⟩
instance : zE Tryz.prog 53 6 13:=⟨by kernel_rfl⟩
instance : zE Tryz.prog 156 2 6:=⟨by kernel_rfl⟩
instance : zE Tryz.prog 53 2 3:=⟨by kernel_rfl⟩
instance : LdN Tryz.prog 50 4:=⟨by kernel_rfl⟩
instance : SzT Tryz.prog 50 4:=⟨by kernel_rfl⟩
instance : zE Tryz.prog 53 3 7:=⟨by kernel_rfl⟩
instance {x0_0 : Bool} {x1_0 : Bool} : PStep Tryz.prog (Instr.build 163 #[(0,.bool x0_0),(1,.bool x1_0)]) (.agg #[.bool x0_0,.bool x1_0,(.bool false),(.bool false),(.bool false),(.bool false),(.bool false),(.bool false),(.bool false),(.bool false)]):=.of fun _ k=>zo (by kernel_rfl) k
instance {x0_0 : Bool} {x1_0 : Bool} {x2_0 : Bool} {x4_0 : Bool} : PStep Tryz.prog (Instr.build 163 #[(0,.bool x0_0),(1,.bool x1_0),(2,.bool x2_0),(4,.bool x4_0)]) (.agg #[.bool x0_0,.bool x1_0,.bool x2_0,(.bool false),.bool x4_0,(.bool false),(.bool false),(.bool false),(.bool false),(.bool false)]):=.of fun _ k=>zo (by kernel_rfl) k
instance : zE Tryz.prog 53 5 12:=⟨by kernel_rfl⟩
instance {x0_0 : Bool} {x1_0 : Bool} {x4_0 : Bool} : PStep Tryz.prog (Instr.build 163 #[(0,.bool x0_0),(1,.bool x1_0),(4,.bool x4_0)]) (.agg #[.bool x0_0,.bool x1_0,(.bool false),(.bool false),.bool x4_0,(.bool false),(.bool false),(.bool false),(.bool false),(.bool false)]):=.of fun _ k=>zo (by kernel_rfl) k
instance {x0_0 : Bool} {x5_0 : Bool} {x6_0 : Bool} : PStep Tryz.prog (Instr.build 163 #[(0,.bool x0_0),(5,.bool x5_0),(6,.bool x6_0)]) (.agg #[.bool x0_0,(.bool false),(.bool false),(.bool false),(.bool false),.bool x5_0,.bool x6_0,(.bool false),(.bool false),(.bool false)]):=.of fun _ k=>zo (by kernel_rfl) k
instance : zE Tryz.prog 53 7 15:=⟨by kernel_rfl⟩
instance {x0_0 : Bool} {x3_0 : Bool} {x8_0 : Bool} : PStep Tryz.prog (Instr.build 163 #[(0,.bool x0_0),(3,.bool x3_0),(8,.bool x8_0)]) (.agg #[.bool x0_0,(.bool false),(.bool false),.bool x3_0,(.bool false),(.bool false),(.bool false),(.bool false),.bool x8_0,(.bool false)]):=.of fun _ k=>zo (by kernel_rfl) k
instance : zE Tryz.prog 53 9 17:=⟨by kernel_rfl⟩
instance {x0_0 : Bool} {x3_0 : Bool} {x7_0 : Bool} : PStep Tryz.prog (Instr.build 163 #[(0,.bool x0_0),(3,.bool x3_0),(7,.bool x7_0)]) (.agg #[.bool x0_0,(.bool false),(.bool false),.bool x3_0,(.bool false),(.bool false),(.bool false),.bool x7_0,(.bool false),(.bool false)]):=.of fun _ k=>zo (by kernel_rfl) k
instance : zE Tryz.prog 53 8 16:=⟨by kernel_rfl⟩
instance {x0_0 : Bool} : PStep Tryz.prog (Instr.build 163 #[(0,.bool x0_0)]) (.agg #[.bool x0_0,(.bool false),(.bool false),(.bool false),(.bool false),(.bool false),(.bool false),(.bool false),(.bool false),(.bool false)]):=.of fun _ k=>zo (by kernel_rfl) k
instance {x1_0 : Bool} : PStep Tryz.prog (Instr.build 163 #[(1,.bool x1_0)]) (.agg #[(.bool false),.bool x1_0,(.bool false),(.bool false),(.bool false),(.bool false),(.bool false),(.bool false),(.bool false),(.bool false)]):=.of fun _ k=>zo (by kernel_rfl) k
instance {x5_0 : Bool} : PStep Tryz.prog (Instr.build 163 #[(5,.bool x5_0)]) (.agg #[(.bool false),(.bool false),(.bool false),(.bool false),(.bool false),.bool x5_0,(.bool false),(.bool false),(.bool false),(.bool false)]):=.of fun _ k=>zo (by kernel_rfl) k
instance {x1_0 : Bool} {x9_0 : Bool} : PStep Tryz.prog (Instr.build 163 #[(1,.bool x1_0),(9,.bool x9_0)]) (.agg #[(.bool false),.bool x1_0,(.bool false),(.bool false),(.bool false),(.bool false),(.bool false),(.bool false),(.bool false),.bool x9_0]):=.of fun _ k=>zo (by kernel_rfl) k
instance : zE Tryz.prog 53 11 19:=⟨by kernel_rfl⟩
instance : PStep Tryz.prog (Instr.build 163 #[]) (.agg #[(.bool false),(.bool false),(.bool false),(.bool false),(.bool false),(.bool false),(.bool false),(.bool false),(.bool false),(.bool false)]):=.of fun _ k=>zo (by kernel_rfl) k
abbrev Tryz.aak : FuncId:=103
abbrev Tryz.qD : FuncId:=104
instance : ArT Tryz.prog 130 8 129 8:=⟨by kernel_rfl⟩
instance : ZrT Tryz.prog 130 [(.bool false),(.bool false),(.bool false),(.bool false),(.bool false),(.bool false),(.bool false),(.bool false),(.bool false),(.bool false),(.bool false),(.bool false),(.bool false),(.bool false),(.bool false),(.bool false),(.bool false),(.bool false),(.bool false),(.bool false),(.bool false),(.bool false),(.bool false),(.bool false),(.bool false),(.bool false),(.bool false),(.bool false),(.bool false),(.bool false),(.bool false),(.bool false),(.bool false),(.bool false),(.bool false),(.bool false),(.bool false),(.bool false),(.bool false),(.bool false),(.bool false),(.bool false),(.bool false),(.bool false),(.bool false),(.bool false),(.bool false),(.bool false),(.bool false),(.bool false),(.bool false),(.bool false),(.bool false),(.bool false),(.bool false),(.bool false),(.bool false),(.bool false),(.bool false),(.bool false),(.bool false),(.bool false),(.bool false),(.bool false)]:=⟨by kernel_rfl⟩
instance : zE Tryz.prog 58 2 2:=⟨by kernel_rfl⟩
instance : Ld1 Tryz.prog 54:=⟨by kernel_rfl⟩
instance : SlT Tryz.prog 54 134 2:=⟨by kernel_rfl⟩
instance : LdN Tryz.prog 134 2:=⟨by kernel_rfl⟩
instance : SzT Tryz.prog 134 2:=⟨by kernel_rfl⟩
instance : ZrT Tryz.prog 134 [(.int .i64 0),(.int .i64 0)]:=⟨by kernel_rfl⟩
instance : zE Tryz.prog 134 0 0:=⟨by kernel_rfl⟩
instance : zE Tryz.prog 134 1 1:=⟨by kernel_rfl⟩
instance : ArT Tryz.prog 129 8 4 1:=⟨by kernel_rfl⟩
abbrev Tryz.qL : FuncId:=105
abbrev Tryz.yC : FuncId:=107
instance : zE Tryz.prog 50 0 0:=⟨by kernel_rfl⟩
instance : Ld1 Tryz.prog 48:=⟨by kernel_rfl⟩
instance {x0_0 : Int} : PStep Tryz.prog (Instr.build 31 #[(0,.int .u8 x0_0)]) (.agg #[.int .u8 x0_0,(.bool false),(.int .i64 0),(.int .i64 0),(.slice none 0 0)]):=.of fun _ k=>zo (by kernel_rfl) k
instance : zE Tryz.prog 50 2 2:=⟨by kernel_rfl⟩
instance : zE Tryz.prog 50 1 1:=⟨by kernel_rfl⟩
instance : Ld1 Tryz.prog 2:=⟨by kernel_rfl⟩
abbrev Tryz.qM : FuncId:=108
abbrev Tryz.qN : FuncId:=109
instance : zE Tryz.prog 53 4 11:=⟨by kernel_rfl⟩
instance : Ld1 Tryz.prog 51:=⟨by kernel_rfl⟩
instance : SlT Tryz.prog 51 50 4:=⟨by kernel_rfl⟩
abbrev Tryz.kZ : FuncId:=111
abbrev Tryz.zT : FuncId:=113
instance : zE Tryz.prog 163 0 0:=⟨by kernel_rfl⟩
instance : zE Tryz.prog 163 1 1:=⟨by kernel_rfl⟩
instance : zE Tryz.prog 163 2 2:=⟨by kernel_rfl⟩
instance : zE Tryz.prog 163 3 3:=⟨by kernel_rfl⟩
instance : zE Tryz.prog 163 4 4:=⟨by kernel_rfl⟩
instance : zE Tryz.prog 163 5 5:=⟨by kernel_rfl⟩
instance : zE Tryz.prog 163 6 6:=⟨by kernel_rfl⟩
instance : zE Tryz.prog 163 7 7:=⟨by kernel_rfl⟩
instance : zE Tryz.prog 163 8 8:=⟨by kernel_rfl⟩
instance : zE Tryz.prog 163 9 9:=⟨by kernel_rfl⟩
abbrev Tryz.jc : FuncId:=118
instance : Ld1 Tryz.prog 177:=⟨by kernel_rfl⟩
instance : SzT Tryz.prog 177 1:=⟨by kernel_rfl⟩
instance : ZrT Tryz.prog 177 [.nilFunc]:=⟨by kernel_rfl⟩
abbrev Tryz.xh : FuncId:=119
abbrev Tryz.YF : FuncId:=123
abbrev Tryz.vN : FuncId:=129
instance : Ld1 Tryz.prog 132:=⟨by kernel_rfl⟩
abbrev Tryz.vz : FuncId:=15
abbrev Tryz.jJ : FuncId:=16
abbrev Tryz.Yo : FuncId:=14
instance : LdN Tryz.prog 41 5:=⟨by kernel_rfl⟩
instance : SzT Tryz.prog 41 5:=⟨by kernel_rfl⟩
instance : ZrT Tryz.prog 41 [(.int .i64 0),(.int .i64 0),(.int .i64 0),(.slice none 0 0),(.slice none 0 0)]:=⟨by kernel_rfl⟩
abbrev Tryz.jK : FuncId:=17
instance : zE Tryz.prog 41 3 3:=⟨by kernel_rfl⟩
abbrev Tryz.xD : FuncId:=6
instance : zE Tryz.prog 41 4 4:=⟨by kernel_rfl⟩
abbrev Tryz.kv : FuncId:=7
abbrev Tryz.jL : FuncId:=18
instance : zE Tryz.prog 41 1 1:=⟨by kernel_rfl⟩
instance : zE Tryz.prog 41 0 0:=⟨by kernel_rfl⟩
abbrev Tryz.Vm : FuncId:=36
abbrev Tryz.kC : FuncId:=37
abbrev Tryz.Vn : FuncId:=38
abbrev Tryz.JF : FuncId:=39
abbrev Tryz.kD : FuncId:=31
instance : zE Tryz.prog 41 2 2:=⟨by kernel_rfl⟩
abbrev Tryz.kE : FuncId:=32
abbrev Tryz.Yp : FuncId:=40
abbrev Tryz.jd : FuncId:=20
abbrev Tryz.jZ : FuncId:=19
abbrev Tryz.k7 : FuncId:=21
abbrev Tryz.yf : FuncId:=22
abbrev Tryz.XK : FuncId:=23
abbrev Tryz.jM : FuncId:=47
abbrev Tryz.je : FuncId:=41
abbrev Tryz.aal : FuncId:=54
abbrev Tryz.z6 : FuncId:=9
abbrev Tryz.vX : FuncId:=96
abbrev Tryz.xi : FuncId:=116
abbrev Tryz.kx : FuncId:=79
abbrev Tryz.jN : FuncId:=90
abbrev Tryz.vA : FuncId:=92
abbrev Tryz.kO : FuncId:=98
abbrev Tryz.j0 : FuncId:=100
abbrev Tryz.j1 : FuncId:=101
abbrev Tryz.qv : FuncId:=102
abbrev Tryz.jf : FuncId:=117
abbrev Tryz.qw : FuncId:=126
abbrev Tryz.jg : FuncId:=127
instance : SlT Tryz.prog 174 4 1:=⟨by kernel_rfl⟩
instance : ApT Tryz.prog 174 4 1 1:=⟨by kernel_rfl⟩
instance : ZrT Tryz.prog 4 [(.bool false)]:=⟨by kernel_rfl⟩
abbrev Tryz.qy : FuncId:=128
abbrev Tryz.jw : FuncId:=3
abbrev Tryz.Zn : FuncId:=4
abbrev Tryz.y7 : FuncId:=5
instance : ZrT Tryz.prog 25 [(.slice none 0 0),(.slice none 0 0),(.int .i64 0)]:=⟨by kernel_rfl⟩
abbrev Tryz.Zo : FuncId:=13
instance : ZrT Tryz.prog 47 [(.int .i64 0),(.slice none 0 0)]:=⟨by kernel_rfl⟩
instance : ApT Tryz.prog 55 9 1 16:=⟨by kernel_rfl⟩
instance : ZrT Tryz.prog 9 [(.string ByteArray.empty)]:=⟨by kernel_rfl⟩
abbrev Tryz.xf : FuncId:=28
abbrev Tryz.kh : FuncId:=29
abbrev Tryz.zu : FuncId:=30
instance : ZrT Tryz.prog 50 [(.int .u8 0),(.int .i64 0),(.int .i64 0),(.slice none 0 0)]:=⟨by kernel_rfl⟩
abbrev Tryz.zP : FuncId:=34
abbrev Tryz.yz : FuncId:=50
abbrev Tryz.zN : FuncId:=68
abbrev Tryz.zX : FuncId:=110
abbrev Tryz.yc : FuncId:=53
abbrev Tryz.yP : FuncId:=95
abbrev Tryz.yV : FuncId:=124
abbrev Tryz.yh : FuncId:=75
abbrev Tryz.kF : FuncId:=130
abbrev Tryz.jh : FuncId:=45
abbrev Tryz.ky : FuncId:=59
abbrev Tryz.vB : FuncId:=62
abbrev Tryz.ji : FuncId:=63
abbrev Tryz.yJ : FuncId:=76
abbrev Tryz.jj : FuncId:=77
abbrev Tryz.qz : FuncId:=78
abbrev Tryz.vY : FuncId:=8
abbrev Tryz.Yq : FuncId:=24
abbrev Tryz.vC : FuncId:=43
abbrev Tryz.Zp : FuncId:=60
abbrev Tryz.kn : FuncId:=61
instance : zE Tryz.prog 113 1 3:=⟨by kernel_rfl⟩
instance : zE Tryz.prog 113 0 0:=⟨by kernel_rfl⟩
abbrev Tryz.Zq : FuncId:=80
abbrev Tryz.qE : FuncId:=81
abbrev Tryz.yD : FuncId:=82
abbrev Tryz.yE : FuncId:=83
instance {x1_0 : Option Addr} {x1_0_l : Nat} {x1_0_c : Nat} : PStep Tryz.prog (Instr.build 47 #[(1,.slice x1_0 x1_0_l x1_0_c)]) (.agg #[(.int .i64 0),.slice x1_0 x1_0_l x1_0_c]):=.of fun _ k=>zo (by kernel_rfl) k
abbrev Tryz.zO : FuncId:=84
abbrev Tryz.yA : FuncId:=85
abbrev Tryz.Zr : FuncId:=86
abbrev Tryz.zL : FuncId:=87
abbrev Tryz.jO : FuncId:=88
abbrev Tryz.xH : FuncId:=89
abbrev Tryz.xt : FuncId:=91
abbrev Tryz.yp : FuncId:=97
abbrev Tryz.xm : FuncId:=99
abbrev Tryz.Y7 : FuncId:=10
abbrev Tryz.qF : FuncId:=11
abbrev Tryz.jP : FuncId:=12
abbrev Tryz.Yr : FuncId:=25
instance {x0_0 : Int} {x1_0 : Int} : PStep Tryz.prog (Instr.build 41 #[(0,.int .i64 x0_0),(1,.int .i64 x1_0)]) (.agg #[.int .i64 x0_0,.int .i64 x1_0,(.int .i64 0),(.slice none 0 0),(.slice none 0 0)]):=.of fun _ k=>zo (by kernel_rfl) k
abbrev Tryz.Zs : FuncId:=26
abbrev Tryz.x6 : FuncId:=27
abbrev Tryz.xS : FuncId:=44
end Go.Proofs
end
section
namespace Go.Proofs.Tryz
open Go.Sh
set_option maxRecDepth 100000
def XU (t0 t1 t2 : Value) (w : World) (K : VW) : Prop:=
 pw w (Instr.box 47 t2) fun t5 w1=>
 pw w1 (Instr.alloc 31 true (.tuple #[])) fun t6 w2=>
 fl w2 t5 47 0 3 fun t16=>bt .lss 3 t16 (i6 0) fun t17=>za (fun K3=>gIf t17 false (fl w2 t5 47 0 3 fun t20=>pp (Builtin.len_ #[29] 3 #[t1]) fun t22=>bf .geq 3 t20 t22 fun t23=>K3 [t23] w2) (K3 [undef] w2)) (fun s4 _d5 w6=>
 zb t17 tr_ (s4.getD 0 undef) fun t24=>za (fun K7=>gIf t24 false (fl w6 t5 47 1 45 fun t27=>pp (Builtin.len_ #[45] 3 #[t27]) fun t28=>bt .gtr 3 t28 (i6 8) fun t29=>K7 [t29] w6) (K7 [undef] w6)) (fun s8 _d9 w10=>
 zb t24 tr_ (s8.getD 0 undef) fun t30=>za (fun K11=>gIf t30 false (ca vB #[t0,t1] w10 fun t34 w15=>
 pp (Op.unary .not t34) fun t35=>K11 [t35] w15) (K11 [undef] w10)) (fun s12 _d13 w14=>
 zb t30 tr_ (s12.getD 0 undef) fun t36=>zc t36 (pp (Instr.build 31 #[]) fun t37=>so w14 31 t6 t37 fun w16=>pq w16 (zf 31 t6) fun r17=>K (.tuple #[r17,(Value.slice Option.none 0 0),fa_]) w16) (fl w14 t5 47 0 3 fun t40=>xl w14 29 t1 t40 31 fun t42=>pw w14 (Instr.alloc 31 true (.tuple #[])) fun t9 w18=>
 so w18 31 t9 t42 fun w19=>zt [(Value.slice Option.none 0 0),(i6 0)] w19 (fun s21 _d22 w23 K20=>
 fl w23 t5 47 1 45 fun t45=>pp (Builtin.len_ #[45] 3 #[t45]) fun t46=>bf .lss 3 (s21.getD 1 undef) t46 fun t47=>zc t47 (za (fun K24=>
 lo w23.drew 31 t9 fun t52=>fl w23.drew t5 47 1 45 fun t54=>xl w23.drew 45 t54 (s21.getD 1 undef) 82 fun t57=>((ca ji #[t0,t52,t57] w23.drew fun t58 w28=>
 pe t58 0 fun t59=>pe t58 1 fun t60=>pe t58 2 fun t61=>pw w28 (Instr.alloc 31 true (.tuple #[])) fun t12 w29=>
 Ext w28 w29∧
 so w29 31 t12 t59 fun w30=>K24 [t12,t60,t61] w30)∧
 (pw w23.drew (Instr.alloc 31 true (.tuple #[])) fun t12_32 w31=>
 Ext w23.drew w31∧
 ca ji #[t0,t52,t57] w31 fun t58_34 w33=>
 pe t58_34 0 fun t59_35=>pe t58_34 1 fun t60_36=>pe t58_34 2 fun t61_37=>so w33 31 t12_32 t59_35 fun w38=>K24 [t12_32,t60_36,t61_37] w38))) (fun s25 _d26 w27=>
 pp (Op.unary .not (s25.getD 2 undef)) fun t63=>zc t63 (pp (Instr.build 31 #[]) fun t64=>so w27 31 t6 t64 fun w39=>pq w39 (zf 31 t6) fun r40=>K (.tuple #[r40,(Value.slice Option.none 0 0),fa_]) w39) (lo w27 31 (s25.getD 0 undef) fun t65=>so w27 31 t9 t65 fun w41=>pw w41 (Instr.buildSlice 39 1 #[(0,(s25.getD 1 undef))]) fun t68 w42=>
 pw w42 (Builtin.append_ #[39,39] 39 #[(s21.getD 0 undef),t68]) fun t69 w43=>
 bt .add 3 (s21.getD 1 undef) (i6 1) fun t49=>K20 [t69,t49] w43))) (lo w23 31 t9 fun t70=>so w23 31 t6 t70 fun w44=>pq w44 (zf 31 t6) fun r45=>K (.tuple #[r45,(s21.getD 0 undef),tr_]) w44))))))
theorem abj {t0 t1 t2 : Value} {w : World} {K : VW} (h : XU t0 t1 t2 w K) : ze prog jh #[t0,t1,t2] w K:=
 okC false (.s (.r (rz 4 0 10)) (.s (.s (.r (ra 4 0 4 (.grp 18 false (ri 5 4 4) [23] (ra 2 9 0 (.grp 25 false (ri 4 11 4) [29] (ra 2 15 0 (.grp 31 false (ri 4 17 32) [35] (rz 1 21 0)))))))) (.c (.s (.r (rz 4 0 8)) (.n)) (.n))) (.s (.r (rz 7 0 10512)) (.s (.r (rz 1 0 0)) (.s (.s (.r (rz 1 0 0)) (.b (.lp [10,11] (.s (.s (.r (rz 5 0 16)) (.c (.n) (.n))) (.s (.b (.j [12,13,14] (.r (ra 7 0 4164 (.alt 7 .l (rz 8 8 2816) (ra 1 12 3 (ra 5 7 2 (rz 3 13 2)))))) (.s (.s (.r (rz 2 0 0)) (.c (.s (.r (rz 4 0 8)) (.n)) (.n))) (.s (.r (rz 2 0 9)) (.r (rz 5 0 160)))))) (.r (rz 3 0 0))))))) (.s (.r (rz 5 0 33)) (.n))))))) func45 rfl (by kernel_rfl) (by kernel_rfl) h
def ZY (t0 : Value) (w : World) (K : VW) : Prop:=
 pp (Builtin.len_ #[22] 3 #[t0]) fun t8=>bt .gtr 3 t8 (i6 32) fun t9=>zc t9 (K fa_ w) (zt [(i6 0)] w (fun s2 _d3 w4 K1=>
 pp (Builtin.len_ #[22] 3 #[t0]) fun t12=>bf .lss 3 (s2.getD 0 undef) t12 fun t13=>zc t13 (px 22 t0 (s2.getD 0 undef) fun t18=>fl w4 t18 64 1 62 fun t20=>pp (Builtin.len_ #[62] 3 #[t20]) fun t21=>bt .lss 3 t21 (i6 1) fun t22=>za (fun K5=>gIf t22 false (px 22 t0 (s2.getD 0 undef) fun t26=>fl w4 t26 64 1 62 fun t28=>pp (Builtin.len_ #[62] 3 #[t28]) fun t29=>bt .gtr 3 t29 (i6 8) fun t30=>K5 [t30] w4) (K5 [undef] w4)) (fun s6 _d7 w8=>
 zb t22 tr_ (s6.getD 0 undef) fun t31=>zc t31 (K fa_ w8) (zt [(i6 0)] w8 (fun s10 _d11 w12 K9=>
 px 22 t0 (s2.getD 0 undef) fun t35=>fl w12 t35 64 1 62 fun t37=>pp (Builtin.len_ #[62] 3 #[t37]) fun t38=>bf .lss 3 (s10.getD 0 undef) t38 fun t39=>zc t39 (px 22 t0 (s2.getD 0 undef) fun t44=>fl w12 t44 64 1 62 fun t46=>px 62 t46 (s10.getD 0 undef) fun t48=>fl w12 t48 105 1 31 fun t50=>pp (Builtin.len_ #[22] 3 #[t0]) fun t52=>ca yJ #[t50,t52,(i6 48),fa_] w12 fun t53 w13=>
 pp (Op.unary .not t53) fun t54=>zc t54 (K fa_ w13) (bt .add 3 (s10.getD 0 undef) (i6 1) fun t41=>K9 [t41] w13)) (bt .add 3 (s2.getD 0 undef) (i6 1) fun t15=>K1 [t15] w12))))) (zt [(i6 0)] w4 (fun s15 _d16 w17 K14=>
 pp (Builtin.len_ #[22] 3 #[t0]) fun t57=>bf .lss 3 (s15.getD 0 undef) t57 fun t58=>zc t58 (ca jj #[t0,(s15.getD 0 undef)] w17 fun t63 w18=>
 zc t63 (K fa_ w18) (bt .add 3 (s15.getD 0 undef) (i6 1) fun t60=>K14 [t60] w18)) (zt [(i6 0)] w17 (fun s20 _d21 w22 K19=>
 pp (Builtin.len_ #[22] 3 #[t0]) fun t66=>bf .lss 3 (s20.getD 0 undef) t66 fun t67=>zc t67 (pp (Instr.build 31 #[(0,(Value.int .u8 5)),(3,(s20.getD 0 undef))]) fun t72=>ca qz #[t0,t72] w22 fun t73 w23=>
 bt .gtr 3 t73 (i6 16) fun t74=>zc t74 (K fa_ w23) (bt .add 3 (s20.getD 0 undef) (i6 1) fun t69=>K19 [t69] w23)) (K tr_ w22)))))))
theorem JG {t0 : Value} {w : World} {K : VW} (h : ZY t0 w K) : ze prog ky #[t0] w K:=
 okC false (.s (.r (rz 1 0 0)) (.s (.s (.r (rz 3 0 0)) (.c (.s (.r (rz 1 0 0)) (.n)) (.n))) (.s (.s (.r (rz 1 0 0)) (.b (.lp [3] (.s (.s (.r (rz 4 0 0)) (.c (.n) (.n))) (.s (.b (.s (.s (.r (ra 8 0 256 (.grp 23 false (ri 7 8 256) [30] (rz 1 15 0)))) (.c (.s (.r (rz 1 0 0)) (.n)) (.n))) (.s (.r (rz 1 0 0)) (.b (.lp [4] (.s (.s (.r (rz 8 0 1024)) (.c (.n) (.n))) (.s (.b (.s (.r (rz 13 0 8454400)) (.c (.s (.r (rz 1 0 0)) (.n)) (.n)))) (.r (rz 3 0 0))))))))) (.r (rz 3 0 0))))))) (.s (.s (.r (rz 1 0 0)) (.b (.lp [5] (.s (.s (.r (rz 4 0 0)) (.c (.n) (.n))) (.s (.b (.s (.r (rz 3 0 32)) (.c (.s (.r (rz 1 0 0)) (.n)) (.n)))) (.r (rz 3 0 0))))))) (.s (.s (.r (rz 1 0 0)) (.b (.lp [6] (.s (.s (.r (rz 4 0 0)) (.c (.n) (.n))) (.s (.b (.s (.r (rz 5 0 128)) (.c (.s (.r (rz 1 0 0)) (.n)) (.n)))) (.r (rz 3 0 0))))))) (.s (.r (rz 1 0 0)) (.n))))))) func59 rfl (by kernel_rfl) (by kernel_rfl) h
def Xr (t0 t1 : Value) (w : World) (K : VW) : Prop:=
 ca ky #[t0] w fun t7 w1=>
 pp (Op.unary .not t7) fun t8=>zc t8 (K fa_ w1) (zt [(i6 0)] w1 (fun s3 _d4 w5 K2=>
 pp (Builtin.len_ #[29] 3 #[t1]) fun t11=>bf .lss 3 (s3.getD 0 undef) t11 fun t12=>zc t12 (xl w5 29 t1 (s3.getD 0 undef) 31 fun t18=>pp (Builtin.len_ #[22] 3 #[t0]) fun t20=>ca yJ #[t18,t20,(i6 48),tr_] w5 fun t21 w6=>
 pp (Op.unary .not t21) fun t22=>zc t22 (K fa_ w6) (bt .add 3 (s3.getD 0 undef) (i6 1) fun t14=>K2 [t14] w6)) (K tr_ w5)))
theorem aam {t0 t1 : Value} {w : World} {K : VW} (h : Xr t0 t1 w K) : ze prog vB #[t0,t1] w K:=
 okC false (.s (.r (rz 1 0 0)) (.s (.s (.r (rz 3 0 8)) (.c (.s (.r (rz 1 0 0)) (.n)) (.n))) (.s (.s (.r (rz 1 0 0)) (.b (.lp [5] (.s (.s (.r (rz 4 0 0)) (.c (.n) (.n))) (.s (.b (.s (.r (rz 8 0 8256)) (.c (.s (.r (rz 1 0 0)) (.n)) (.n)))) (.r (rz 3 0 0))))))) (.s (.r (rz 1 0 0)) (.n))))) func62 rfl (by kernel_rfl) (by kernel_rfl) h
def XV (t0 t1 t2 : Value) (w : World) (K : VW) : Prop:=
 pw w (Instr.box 31 t1) fun t4 w1=>
 pw w1 (Instr.alloc 31 true (.tuple #[])) fun t6 w2=>
 bt .eql 82 t2 (i6 (-1)) fun t10=>zc t10 (fl w2 t4 31 0 28 fun t13=>bt .eql 28 t13 (Value.int .u8 3) fun t14=>zc t14 (fl w2 t4 31 4 29 fun t16=>xl w2 29 t16 (i6 0) 31 fun t18=>so w2 31 t6 t18 fun w3=>pq w3 (zf 31 t6) fun r4=>K (.tuple #[r4,(i6 1),tr_]) w3) (fl w2 t4 31 0 28 fun t21=>bt .eql 28 t21 (Value.int .u8 4) fun t22=>za (fun K5=>gIf t22 true (fl w2 t4 31 1 4 fun t25=>K5 [t25] w2) (K5 [undef] w2)) (fun s6 _d7 w8=>
 zb t22 (s6.getD 0 undef) fa_ fun t26=>zc t26 (fl w8 t4 31 4 29 fun t28=>xl w8 29 t28 (i6 0) 31 fun t30=>so w8 31 t6 t30 fun w9=>pq w9 (zf 31 t6) fun r10=>K (.tuple #[r10,(i6 2),tr_]) w9) (fl w8 t4 31 0 28 fun t33=>bt .eql 28 t33 (Value.int .u8 4) fun t34=>zc t34 (fl w8 t4 31 4 29 fun t36=>xl w8 29 t36 (i6 0) 31 fun t38=>so w8 31 t6 t38 fun w11=>pq w11 (zf 31 t6) fun r12=>K (.tuple #[r12,(i6 3),tr_]) w11) (lo w8 31 t4 fun t39=>so w8 31 t6 t39 fun w13=>pq w13 (zf 31 t6) fun r14=>K (.tuple #[r14,(i6 0),fa_]) w13))))) (fl w2 t4 31 0 28 fun t41=>bt .neq 28 t41 (Value.int .u8 5) fun t42=>za (fun K15=>gIf t42 false (bt .lss 82 t2 (i6 0) fun t45=>K15 [t45] w2) (K15 [undef] w2)) (fun s16 _d17 w18=>
 zb t42 tr_ (s16.getD 0 undef) fun t46=>za (fun K19=>gIf t46 false (fl w18 t4 31 3 3 fun t51=>px 22 t0 t51 fun t52=>fl w18 t52 64 1 62 fun t54=>pp (Builtin.len_ #[62] 3 #[t54]) fun t55=>bf .geq 3 t2 t55 fun t56=>K19 [t56] w18) (K19 [undef] w18)) (fun s20 _d21 w22=>
 zb t46 tr_ (s20.getD 0 undef) fun t57=>zc t57 (lo w22 31 t4 fun t58=>so w22 31 t6 t58 fun w23=>pq w23 (zf 31 t6) fun r24=>K (.tuple #[r24,(i6 0),fa_]) w23) (fl w22 t4 31 3 3 fun t61=>px 22 t0 t61 fun t62=>fl w22 t62 64 1 62 fun t64=>px 62 t64 t2 fun t66=>fl w22 t66 105 1 31 fun t68=>so w22 31 t6 t68 fun w25=>pq w25 (zf 31 t6) fun r26=>K (.tuple #[r26,(i6 0),tr_]) w25))))
theorem abk {t0 t1 t2 : Value} {w : World} {K : VW} (h : XV t0 t1 t2 w K) : ze prog ji #[t0,t1,t2] w K:=
 okC false (.s (.r (rz 4 0 10)) (.s (.s (.r (rz 2 0 0)) (.c (.s (.b (.s (.r (rz 4 0 4)) (.c (.s (.r (rz 7 0 580)) (.n)) (.s (.r (ra 4 0 4 (.grp 23 true (ri 2 4 4) [25] (rz 2 6 0)))) (.c (.s (.r (rz 7 0 580)) (.n)) (.s (.r (rz 4 0 4)) (.c (.s (.r (rz 7 0 580)) (.n)) (.n)))))))) (.s (.r (rz 4 0 9)) (.n))) (.n))) (.s (.s (.r (ra 4 0 4 (.grp 43 false (ri 2 4 0) [45] (ra 2 6 0 (.grp 47 false (ri 9 8 4160) [56] (rz 1 17 0)))))) (.c (.s (.r (rz 4 0 9)) (.n)) (.n))) (.s (.r (rz 13 0 2360336)) (.n))))) func63 rfl (by kernel_rfl) (by kernel_rfl) h
def jk (t0 t1 t2 t3 : Value) (w : World) (K : VW) : Prop:=
 pw w (Instr.box 31 t0) fun t4 w1=>
 bt .lss 3 t2 (i6 1) fun t10=>za (fun K2=>gIf t10 false (fl w1 t4 31 0 28 fun t13=>bt .neq 28 t13 (Value.int .u8 4) fun t14=>K2 [t14] w1) (K2 [undef] w1)) (fun s3 _d4 w5=>
 za (fun K6=>gIf (s3.getD 0 undef) true (fl w5 t4 31 1 4 fun t17=>K6 [t17] w5) (K6 [undef] w5)) (fun s7 _d8 w9=>
 za (fun K10=>gIf (s7.getD 0 undef) false (fl w9 t4 31 2 3 fun t20=>bt .neq 3 t20 (i6 0) fun t21=>K10 [t21] w9) (K10 [undef] w9)) (fun s11 _d12 w13=>
 za (fun K14=>gIf (s3.getD 0 undef) true (zb (s7.getD 0 undef) tr_ (s11.getD 0 undef) fun t22=>K14 [t22] w13) (K14 [undef] w13)) (fun s15 _d16 w17=>
 za (fun K18=>gIf t10 false (zb (s3.getD 0 undef) (s15.getD 0 undef) fa_ fun t23=>K18 [t23] w17) (K18 [undef] w17)) (fun s19 _d20 w21=>
 zb t10 tr_ (s19.getD 0 undef) fun t24=>za (fun K22=>gIf t24 false (fl w21 t4 31 0 28 fun t27=>bt .neq 28 t27 (Value.int .u8 5) fun t28=>K22 [t28] w21) (K22 [undef] w21)) (fun s23 _d24 w25=>
 za (fun K26=>gIf (s23.getD 0 undef) true (fl w25 t4 31 3 3 fun t31=>bt .neq 3 t31 (i6 0) fun t32=>K26 [t32] w25) (K26 [undef] w25)) (fun s27 _d28 w29=>
 za (fun K30=>gIf t24 false (zb (s23.getD 0 undef) (s27.getD 0 undef) fa_ fun t33=>K30 [t33] w29) (K30 [undef] w29)) (fun s31 _d32 w33=>
 zb t24 tr_ (s31.getD 0 undef) fun t34=>zc t34 (K fa_ w33) (fl w33 t4 31 0 28 fun t36=>za (fun K34=>
 bt .eql 28 t36 (Value.int .u8 1) fun t38=>zc t38 (K34 [t38] w33) (bt .eql 28 t36 (Value.int .u8 2) fun t39=>K34 [t39] w33)) (fun s35 _d36 w37=>
 zc (s35.getD 0 undef) (fl w37 t4 31 4 29 fun t41=>pp (Builtin.len_ #[29] 3 #[t41]) fun t42=>bt .eql 3 t42 (i6 0) fun t43=>K t43 w37) (bt .eql 28 t36 (Value.int .u8 5) fun t45=>zc t45 (fl w37 t4 31 4 29 fun t47=>pp (Builtin.len_ #[29] 3 #[t47]) fun t48=>bt .eql 3 t48 (i6 0) fun t49=>za (fun K38=>gIf t49 true (fl w37 t4 31 3 3 fun t52=>bt .geq 3 t52 (i6 0) fun t53=>K38 [t53] w37) (K38 [undef] w37)) (fun s39 _d40 w41=>
 zb t49 (s39.getD 0 undef) fa_ fun t54=>za (fun K42=>gIf t54 true (fl w41 t4 31 3 3 fun t57=>bf .lss 3 t57 t1 fun t59=>K42 [t59] w41) (K42 [undef] w41)) (fun s43 _d44 w45=>
 zb t54 (s43.getD 0 undef) fa_ fun t60=>K t60 w45))) (bt .eql 28 t36 (Value.int .u8 3) fun t62=>zc t62 (fl w37 t4 31 4 29 fun t64=>pp (Builtin.len_ #[29] 3 #[t64]) fun t65=>bt .eql 3 t65 (i6 1) fun t66=>za (fun K46=>gIf t66 true (fl w37 t4 31 4 29 fun t69=>xl w37 29 t69 (i6 0) 31 fun t71=>bt .sub 3 t2 (i6 1) fun t74=>ca yJ #[t71,t1,t74,t3] w37 fun t76 w50=>
 K46 [t76] w50) (K46 [undef] w37)) (fun s47 _d48 w49=>
 zb t66 (s47.getD 0 undef) fa_ fun t77=>K t77 w49)) (bt .eql 28 t36 (Value.int .u8 4) fun t79=>zc t79 (za (fun K51=>gIf t3 true (fl w37 t4 31 4 29 fun t83=>pp (Builtin.len_ #[29] 3 #[t83]) fun t84=>bt .eql 3 t84 (i6 1) fun t85=>K51 [t85] w37) (K51 [undef] w37)) (fun s52 _d53 w54=>
 zb t3 (s52.getD 0 undef) fa_ fun t86=>za (fun K55=>gIf t86 true (fl w54 t4 31 2 3 fun t89=>bt .geq 3 t89 (i6 (-1)) fun t90=>K55 [t90] w54) (K55 [undef] w54)) (fun s56 _d57 w58=>
 zb t86 (s56.getD 0 undef) fa_ fun t91=>za (fun K59=>gIf t91 true (fl w58 t4 31 4 29 fun t94=>xl w58 29 t94 (i6 0) 31 fun t96=>bt .sub 3 t2 (i6 1) fun t99=>ca yJ #[t96,t1,t99,t3] w58 fun t101 w63=>
 K59 [t101] w63) (K59 [undef] w58)) (fun s60 _d61 w62=>
 zb t91 (s60.getD 0 undef) fa_ fun t102=>K t102 w62)))) (K fa_ w37))))))))))))))
theorem Zt {t0 t1 t2 t3 : Value} {w : World} {K : VW} (h : jk t0 t1 t2 t3 w K) : ze prog yJ #[t0,t1,t2,t3] w K:=
 okC false (.s (.r (rz 2 0 2)) (.s (.s (.r (ra 3 0 0 (.grp 11 false (ri 4 3 4) [15] (.grp 15 true (ri 3 7 4) [18] (.grp 18 false (ri 3 10 4) [21] (.grp 15 true (ri 1 13 0) [22] (.grp 11 false (ri 1 14 0) [23] (ra 2 15 0 (.grp 25 false (ri 4 17 4) [29] (.grp 29 true (ri 3 21 4) [32] (.grp 25 false (ri 1 24 0) [33] (rz 1 25 0)))))))))))) (.c (.s (.r (rz 1 0 0)) (.n)) (.n))) (.s (.s (.r (rz 2 0 4)) (.b (.j [37] (.s (.r (rz 2 0 0)) (.c (.n) (.r (rz 2 0 0)))) (.c (.s (.r (rz 5 0 4)) (.n)) (.s (.r (rz 2 0 0)) (.c (.s (.r (ra 5 0 4 (.grp 50 true (ri 3 5 4) [53] (ra 2 8 0 (.grp 55 true (ri 4 10 4) [59] (rz 2 14 0)))))) (.n)) (.s (.r (rz 2 0 0)) (.c (.s (.r (ra 5 0 4 (.grp 67 true (ri 9 5 131140) [76] (rz 2 14 0)))) (.n)) (.s (.r (rz 2 0 0)) (.c (.s (.r (ra 2 0 0 (.grp 81 true (ri 4 2 4) [85] (ra 2 6 0 (.grp 87 true (ri 3 8 4) [90] (ra 2 11 0 (.grp 92 true (ri 9 13 131140) [101] (rz 2 22 0)))))))) (.n)) (.n))))))))))) (.s (.r (rz 1 0 0)) (.n))))) func76 rfl (by kernel_rfl) (by kernel_rfl) h
def ZZ (t0 t1 : Value) (w : World) (K : VW) : Prop:=
 pw w (Instr.alloc 151 true (.tuple #[])) fun t5 w1=>
 zt [(i6 0)] w1 (fun s3 _d4 w5 K2=>
 pp (Builtin.len_ #[22] 3 #[t0]) fun t11=>bf .leq 3 (s3.getD 0 undef) t11 fun t12=>zc t12 (zt [(i6 0)] w5 (fun s7 _d8 w9 K6=>
 pp (Builtin.len_ #[22] 3 #[t0]) fun t17=>bf .lss 3 (s7.getD 0 undef) t17 fun t18=>zc t18 (zt [(i6 0)] w9 (fun s11 _d12 w13 K10=>
 px 22 t0 (s7.getD 0 undef) fun t24=>fl w13 t24 64 1 62 fun t26=>pp (Builtin.len_ #[62] 3 #[t26]) fun t27=>bf .lss 3 (s11.getD 0 undef) t27 fun t28=>za (fun K14=>gIf t28 true (bf .eql 3 (s7.getD 0 undef) t1 fun t32=>K14 [t32] w13) (K14 [undef] w13)) (fun s15 _d16 w17=>
 za (fun K18=>gIf (s15.getD 0 undef) false (xl w17 151 t5 (s7.getD 0 undef) 4 fun t36=>K18 [t36] w17) (K18 [undef] w17)) (fun s19 _d20 w21=>
 za (fun K22=>gIf t28 true (zb (s15.getD 0 undef) tr_ (s19.getD 0 undef) fun t37=>K22 [t37] w21) (K22 [undef] w21)) (fun s23 _d24 w25=>
 zb t28 (s23.getD 0 undef) fa_ fun t38=>zc t38 (za (fun K26=>
 px 22 t0 (s7.getD 0 undef) fun t43=>fl w25 t43 64 1 62 fun t45=>px 62 t45 (s11.getD 0 undef) fun t47=>pf 105 t47 1 fun t48=>fl w25 t48 31 0 28 fun t50=>bt .eql 28 t50 (Value.int .u8 5) fun t51=>zc t51 (px 22 t0 (s7.getD 0 undef) fun t54=>fl w25 t54 64 1 62 fun t56=>px 62 t56 (s11.getD 0 undef) fun t58=>pf 105 t58 1 fun t59=>fl w25 t59 31 3 3 fun t61=>px 151 t5 t61 fun t62=>so w25 4 t62 tr_ fun w30=>K26 [] w30) (K26 [] w25)) (fun _s27 _d28 w29=>
 bt .add 3 (s11.getD 0 undef) (i6 1) fun t40=>K10 [t40] w29)) (bt .add 3 (s7.getD 0 undef) (i6 1) fun t20=>K6 [t20] w25)))))) (bt .add 3 (s3.getD 0 undef) (i6 1) fun t14=>K2 [t14] w9))) (xl w5 151 t5 t1 4 fun t65=>K t65 w5))
theorem JH {t0 t1 : Value} {w : World} {K : VW} (h : ZZ t0 t1 w K) : ze prog jj #[t0,t1] w K:=
 okC false (.s (.r (rz 1 0 0)) (.s (.r (rz 1 0 2)) (.s (.s (.r (rz 1 0 0)) (.b (.lp [6] (.s (.s (.r (rz 4 0 0)) (.c (.n) (.n))) (.s (.b (.s (.r (rz 1 0 0)) (.b (.lp [7] (.s (.s (.r (rz 4 0 0)) (.c (.n) (.n))) (.s (.b (.s (.r (rz 1 0 0)) (.b (.lp [8] (.s (.s (.r (ra 9 0 1024 (.grp 29 true (ri 4 9 0) [33] (.grp 33 false (ri 3 13 16) [36] (.grp 29 true (ri 1 16 0) [37] (rz 1 17 0)))))) (.c (.n) (.n))) (.j [] (.b (.s (.r (rz 11 0 262400)) (.c (.r (rz 12 0 8651008)) (.n)))) (.r (rz 3 0 0)))))))) (.r (rz 3 0 0)))))))) (.r (rz 3 0 0))))))) (.s (.r (rz 4 0 16)) (.n))))) func77 rfl (by kernel_rfl) (by kernel_rfl) h
def vD (t0 t1 : Value) (w : World) (K : VW) : Prop:=
 pw w (Instr.box 31 t1) fun t3 w1=>
 fl w1 t3 31 0 28 fun t8=>bt .neq 28 t8 (Value.int .u8 5) fun t9=>zc t9 (K (i6 1) w1) (zt [(i6 0),(i6 0)] w1 (fun s3 _d4 w5 K2=>
 fl w5 t3 31 3 3 fun t13=>px 22 t0 t13 fun t14=>fl w5 t14 64 1 62 fun t16=>pp (Builtin.len_ #[62] 3 #[t16]) fun t17=>bf .lss 3 (s3.getD 1 undef) t17 fun t18=>za (fun K6=>gIf t18 true (bt .leq 3 (s3.getD 0 undef) (i6 16) fun t21=>K6 [t21] w5) (K6 [undef] w5)) (fun s7 _d8 w9=>
 zb t18 (s7.getD 0 undef) fa_ fun t22=>zc t22 (fl w9 t3 31 3 3 fun t29=>px 22 t0 t29 fun t30=>fl w9 t30 64 1 62 fun t32=>px 62 t32 (s3.getD 1 undef) fun t34=>fl w9 t34 105 1 31 fun t36=>ca qz #[t0,t36] w9 fun t37 w10=>
 bf .add 3 (s3.getD 0 undef) t37 fun t38=>bt .add 3 (s3.getD 1 undef) (i6 1) fun t24=>K2 [t38,t24] w10) (K (s3.getD 0 undef) w9))))
theorem YG {t0 t1 : Value} {w : World} {K : VW} (h : vD t0 t1 w K) : ze prog qz #[t0,t1] w K:=
 okC false (.s (.r (rz 2 0 2)) (.s (.s (.r (rz 3 0 4)) (.c (.s (.r (rz 1 0 0)) (.n)) (.n))) (.s (.r (rz 1 0 0)) (.s (.s (.r (rz 1 0 0)) (.b (.lp [5,6] (.s (.s (.r (ra 10 0 4160 (.grp 19 true (ri 2 10 0) [21] (rz 1 12 0)))) (.c (.n) (.n))) (.s (.b (.r (rz 15 0 37765376))) (.r (rz 3 0 0))))))) (.s (.r (rz 2 0 0)) (.n)))))) func78 rfl (by kernel_rfl) (by kernel_rfl) h
def Vo (t0 t1 t2 : Value) (w : World) (K : VW) : Prop:=
 pw w (Instr.box 25 t0) fun t3 w1=>
 lo w1 25 t3 fun t7=>ca Yq #[t7] w1 fun t8 w2=>
 za (fun K3=>gIf t8 true (bt .geq 3 t1 (i6 0) fun t11=>K3 [t11] w2) (K3 [undef] w2)) (fun s4 _d5 w6=>
 zb t8 (s4.getD 0 undef) fa_ fun t12=>za (fun K7=>gIf t12 true (fl w6 t3 25 1 23 fun t16=>pp (Builtin.len_ #[23] 3 #[t16]) fun t17=>bf .lss 3 t1 t17 fun t18=>K7 [t18] w6) (K7 [undef] w6)) (fun s8 _d9 w10=>
 zb t12 (s8.getD 0 undef) fa_ fun t19=>za (fun K11=>gIf t19 true (fl w10 t3 25 1 23 fun t23=>px 23 t23 t1 fun t25=>fl w10 t25 58 6 56 fun t27=>pp (Builtin.len_ #[56] 3 #[t27]) fun t28=>bf .lss 3 t2 t28 fun t29=>K11 [t29] w10) (K11 [undef] w10)) (fun s12 _d13 w14=>
 zb t19 (s12.getD 0 undef) fa_ fun t30=>K t30 w14)))
theorem ac7 {t0 t1 t2 : Value} {w : World} {K : VW} (h : Vo t0 t1 t2 w K) : ze prog vY #[t0,t1,t2] w K:=
 okC false (.s (.r (rz 2 0 2)) (.s (.r (ra 3 0 9 (.grp 9 true (ri 2 3 0) [11] (ra 2 5 0 (.grp 13 true (ri 5 7 16) [18] (ra 2 12 0 (.grp 20 true (ri 9 14 4112) [29] (rz 2 23 0)))))))) (.n))) func8 rfl (by kernel_rfl) (by kernel_rfl) h
def Je (t0 : Value) (w : World) (K : VW) : Prop:=
 pw w (Instr.box 25 t0) fun t1 w1=>
 lo w1 25 t1 fun t7=>ca vC #[t7] w1 fun t8 w2=>
 pe t8 0 fun _t9=>pe t8 1 fun _t10=>pe t8 2 fun t11=>bt .eql 3 t11 (i6 0) fun t13=>K t13 w2
theorem acg {t0 : Value} {w : World} {K : VW} (h : Je t0 w K) : ze prog Yq #[t0] w K:=
 okC false (.s (.r (rz 2 0 2)) (.s (.r (rz 9 0 9)) (.s (.r (rz 3 0 0)) (.n)))) func24 rfl (by kernel_rfl) (by kernel_rfl) h
def Xs (t0 : Value) (w : World) (K : VW) : Prop:=
 pw w (Instr.box 25 t0) fun t1 w1=>
 fl w1 t1 25 0 22 fun t10=>ca ky #[t10] w1 fun t11 w2=>
 pp (Op.unary .not t11) fun t12=>za (fun K3=>gIf t12 false (fl w2 t1 25 1 23 fun t15=>pp (Builtin.len_ #[23] 3 #[t15]) fun t16=>bt .lss 3 t16 (i6 1) fun t17=>K3 [t17] w2) (K3 [undef] w2)) (fun s4 _d5 w6=>
 zb t12 tr_ (s4.getD 0 undef) fun t18=>za (fun K7=>gIf t18 false (fl w6 t1 25 1 23 fun t21=>pp (Builtin.len_ #[23] 3 #[t21]) fun t22=>bt .gtr 3 t22 (i6 32) fun t23=>K7 [t23] w6) (K7 [undef] w6)) (fun s8 _d9 w10=>
 zb t18 tr_ (s8.getD 0 undef) fun t24=>za (fun K11=>gIf t24 false (fl w10 t1 25 2 3 fun t27=>bt .lss 3 t27 (i6 0) fun t28=>K11 [t28] w10) (K11 [undef] w10)) (fun s12 _d13 w14=>
 zb t24 tr_ (s12.getD 0 undef) fun t29=>za (fun K15=>gIf t29 false (fl w14 t1 25 2 3 fun t32=>fl w14 t1 25 1 23 fun t34=>pp (Builtin.len_ #[23] 3 #[t34]) fun t35=>bf .geq 3 t32 t35 fun t36=>K15 [t36] w14) (K15 [undef] w14)) (fun s16 _d17 w18=>
 zb t29 tr_ (s16.getD 0 undef) fun t37=>zc t37 (K (.tuple #[(i6 (-1)),(i6 (-1)),(i6 100)]) w18) (zt [(i6 0)] w18 (fun s20 _d21 w22 K19=>
 fl w22 t1 25 1 23 fun t40=>pp (Builtin.len_ #[23] 3 #[t40]) fun t41=>bf .lss 3 (s20.getD 0 undef) t41 fun t42=>zc t42 (lo w22 25 t1 fun t45=>ca Zp #[t45,(s20.getD 0 undef)] w22 fun t47 w23=>
 pp (Op.unary .not t47) fun t48=>zc t48 (K (.tuple #[(s20.getD 0 undef),(i6 (-1)),(i6 100)]) w23) (bt .add 3 (s20.getD 0 undef) (i6 1) fun t44=>K19 [t44] w23)) (zt [(i6 0)] w22 (fun s25 _d26 w27 K24=>
 fl w27 t1 25 1 23 fun t52=>pp (Builtin.len_ #[23] 3 #[t52]) fun t53=>bf .lss 3 (s25.getD 0 undef) t53 fun t54=>zc t54 (lo w27.drew 25 t1 fun t57=>fl w27.drew t1 25 1 23 fun t59=>xl w27.drew 23 t59 (s25.getD 0 undef) 58 fun t62=>pp (Instr.build 113 #[(0,t57),(1,t62)]) fun t63=>pw w27.drew (Instr.box 113 t63) fun t64 w28=>
 zt [(i6 0)] w28 (fun s30 _d31 w32 K29=>
 fl w32 t1 25 1 23 fun t67=>px 23 t67 (s25.getD 0 undef) fun t69=>fl w32 t69 58 6 56 fun t71=>pp (Builtin.len_ #[56] 3 #[t71]) fun t72=>bf .lss 3 (s30.getD 0 undef) t72 fun t73=>zc t73 (fl w32 t1 25 1 23 fun t78=>px 23 t78 (s25.getD 0 undef) fun t80=>fl w32 t80 58 6 56 fun t82=>xl w32 56 t82 (s30.getD 0 undef) 53 fun t85=>ca kn #[t64,t85] w32 fun t86 w33=>
 pp (Op.unary .not t86) fun t87=>zc t87 (K (.tuple #[(s25.getD 0 undef),(s30.getD 0 undef),(i6 100)]) w33) (bt .add 3 (s30.getD 0 undef) (i6 1) fun t75=>K29 [t75] w33)) (bt .add 3 (s25.getD 0 undef) (i6 1) fun t56=>K24 [t56] w32))) (K (.tuple #[(i6 0),(i6 0),(i6 0)]) w27)))))))))
theorem aan {t0 : Value} {w : World} {K : VW} (h : Xs t0 w K) : ze prog vC #[t0] w K:=
 okC false (.s (.r (rz 4 0 2)) (.s (.s (.r (ra 5 0 36 (.grp 13 false (ri 4 5 4) [17] (ra 2 9 0 (.grp 19 false (ri 4 11 4) [23] (ra 2 15 0 (.grp 25 false (ri 3 17 4) [28] (ra 2 20 0 (.grp 30 false (ri 6 22 68) [36] (rz 1 28 0)))))))))) (.c (.s (.r (rz 3 0 0)) (.n)) (.n))) (.s (.s (.r (rz 1 0 0)) (.b (.lp [5] (.s (.s (.r (rz 5 0 16)) (.c (.n) (.n))) (.s (.b (.s (.r (rz 4 0 33)) (.c (.s (.r (rz 4 0 0)) (.n)) (.n)))) (.r (rz 3 0 0))))))) (.s (.s (.r (rz 1 0 0)) (.b (.lp [6] (.s (.s (.r (rz 5 0 16)) (.c (.n) (.n))) (.s (.b (.s (.r (rz 9 0 33809)) (.s (.r (rz 1 0 0)) (.b (.lp [8] (.s (.s (.r (rz 9 0 4112)) (.c (.n) (.n))) (.s (.b (.s (.r (rz 12 0 2363408)) (.c (.s (.r (rz 5 0 0)) (.n)) (.n)))) (.r (rz 3 0 0))))))))) (.r (rz 3 0 0))))))) (.s (.r (rz 3 0 0)) (.n)))))) func43 rfl (by kernel_rfl) (by kernel_rfl) h
def XW (t0 t1 : Value) (w : World) (K : VW) : Prop:=
 pw w (Instr.box 25 t0) fun t2 w1=>
 fl w1 t2 25 1 23 fun t20=>xl w1 23 t20 t1 58 fun t23=>pw w1 (Instr.alloc 58 true (.tuple #[])) fun t5 w2=>
 so w2 58 t5 t23 fun w3=>fl w3 t5 58 1 3 fun t25=>bt .lss 3 t25 (i6 0) fun t26=>za (fun K4=>gIf t26 false (fl w3 t5 58 1 3 fun t29=>bt .gtr 3 t29 (i6 8) fun t30=>K4 [t30] w3) (K4 [undef] w3)) (fun s5 _d6 w7=>
 zb t26 tr_ (s5.getD 0 undef) fun t31=>za (fun K8=>gIf t31 false (fl w7 t5 58 3 3 fun t34=>bt .lss 3 t34 (i6 0) fun t35=>K8 [t35] w7) (K8 [undef] w7)) (fun s9 _d10 w11=>
 zb t31 tr_ (s9.getD 0 undef) fun t36=>za (fun K12=>gIf t36 false (fl w11 t5 58 3 3 fun t39=>bt .gtr 3 t39 (i6 8) fun t40=>K12 [t40] w11) (K12 [undef] w11)) (fun s13 _d14 w15=>
 zb t36 tr_ (s13.getD 0 undef) fun t41=>za (fun K16=>gIf t41 false (fl w15 t5 58 4 29 fun t44=>pp (Builtin.len_ #[29] 3 #[t44]) fun t45=>fl w15 t5 58 3 3 fun t47=>bf .leq 3 t45 t47 fun t48=>K16 [t48] w15) (K16 [undef] w15)) (fun s17 _d18 w19=>
 zb t41 tr_ (s17.getD 0 undef) fun t49=>za (fun K20=>gIf t49 false (fl w19 t5 58 4 29 fun t52=>pp (Builtin.len_ #[29] 3 #[t52]) fun t53=>bt .gtr 3 t53 (i6 512) fun t54=>K20 [t54] w19) (K20 [undef] w19)) (fun s21 _d22 w23=>
 zb t49 tr_ (s21.getD 0 undef) fun t55=>za (fun K24=>gIf t55 false (fl w23 t5 58 5 55 fun t58=>pp (Builtin.len_ #[55] 3 #[t58]) fun t59=>fl w23 t5 58 4 29 fun t61=>pp (Builtin.len_ #[29] 3 #[t61]) fun t62=>bf .neq 3 t59 t62 fun t63=>K24 [t63] w23) (K24 [undef] w23)) (fun s25 _d26 w27=>
 zb t55 tr_ (s25.getD 0 undef) fun t64=>zc t64 (K fa_ w27) (zt [(i6 0)] w27 (fun s29 _d30 w31 K28=>
 fl w31 t5 58 4 29 fun t67=>pp (Builtin.len_ #[29] 3 #[t67]) fun t68=>bf .lss 3 (s29.getD 0 undef) t68 fun t69=>zc t69 (fl w31.drew t5 58 4 29 fun t73=>xl w31.drew 29 t73 (s29.getD 0 undef) 31 fun t76=>fl w31.drew t2 25 0 22 fun t78=>pp (Builtin.len_ #[22] 3 #[t78]) fun t79=>ca yJ #[t76,t79,(i6 48),tr_] w31.drew fun t80 w32=>
 pp (Op.unary .not t80) fun t81=>zc t81 (K fa_ w32) (fl w32 t5 58 4 29 fun t83=>xl w32 29 t83 (s29.getD 0 undef) 31 fun t86=>ca kx #[t86] w32 fun t87 w33=>
 zt [(i6 0)] w33 (fun s35 _d36 w37 K34=>
 pp (Builtin.len_ #[39] 3 #[t87]) fun t90=>bf .lss 3 (s35.getD 0 undef) t90 fun t91=>zc t91 (xl w37.drew 39 t87 (s35.getD 0 undef) 3 fun t97=>fl w37.drew t5 58 1 3 fun t99=>bf .geq 3 t97 t99 fun t100=>za (fun K38=>gIf t100 false (fl w37.drew t5 58 3 3 fun t104=>bf .leq 3 (s29.getD 0 undef) t104 fun t105=>K38 [t105] w37.drew) (K38 [undef] w37.drew)) (fun s39 _d40 w41=>
 za (fun K42=>gIf (s39.getD 0 undef) true (xl w41 39 t87 (s35.getD 0 undef) 3 fun t110=>bt .lss 3 t110 (i6 0) fun t111=>K42 [t111] w41) (K42 [undef] w41)) (fun s43 _d44 w45=>
 za (fun K46=>gIf t100 false (zb (s39.getD 0 undef) (s43.getD 0 undef) fa_ fun t112=>K46 [t112] w45) (K46 [undef] w45)) (fun s47 _d48 w49=>
 zb t100 tr_ (s47.getD 0 undef) fun t113=>zc t113 (K fa_ w49) (bt .add 3 (s35.getD 0 undef) (i6 1) fun t93=>K34 [t93] w49))))) (bt .add 3 (s29.getD 0 undef) (i6 1) fun t71=>K28 [t71] w37)))) (pw w31 (Instr.alloc 130 true (.tuple #[])) fun t9 w50=>
 pw w50 (Instr.alloc 130 true (.tuple #[])) fun t10 w51=>
 zt [(i6 0)] w51 (fun s53 _d54 w55 K52=>
 fl w55 t5 58 3 3 fun t116=>bf .leq 3 (s53.getD 0 undef) t116 fun t117=>zc t117 (fl w55 t5 58 4 29 fun t121=>xl w55 29 t121 (s53.getD 0 undef) 31 fun t124=>ca Zq #[t124,t9] w55 fun _t125 w56=>
 bt .add 3 (s53.getD 0 undef) (i6 1) fun t119=>K52 [t119] w56) (zt [(i6 0)] w55 (fun s58 _d59 w60 K57=>
 fl w60 t5 58 2 54 fun t128=>pp (Builtin.len_ #[54] 3 #[t128]) fun t129=>bf .lss 3 (s58.getD 0 undef) t129 fun t130=>zc t130 (fl w60 t5 58 2 54 fun t134=>xl w60 54 t134 (s58.getD 0 undef) 134 fun t137=>pw w60 (Instr.alloc 134 true (.tuple #[])) fun t13 w61=>
 so w61 134 t13 t137 fun w62=>fl w62 t13 134 0 3 fun t139=>bt .lss 3 t139 (i6 0) fun t140=>za (fun K63=>gIf t140 false (fl w62 t13 134 0 3 fun t143=>fl w62 t5 58 1 3 fun t145=>bf .geq 3 t143 t145 fun t146=>K63 [t146] w62) (K63 [undef] w62)) (fun s64 _d65 w66=>
 zb t140 tr_ (s64.getD 0 undef) fun t147=>za (fun K67=>gIf t147 false (fl w66 t13 134 1 3 fun t150=>bt .lss 3 t150 (i6 0) fun t151=>K67 [t151] w66) (K67 [undef] w66)) (fun s68 _d69 w70=>
 zb t147 tr_ (s68.getD 0 undef) fun t152=>za (fun K71=>gIf t152 false (fl w70 t13 134 1 3 fun t155=>fl w70 t5 58 1 3 fun t157=>bf .geq 3 t155 t157 fun t158=>K71 [t158] w70) (K71 [undef] w70)) (fun s72 _d73 w74=>
 zb t152 tr_ (s72.getD 0 undef) fun t159=>za (fun K75=>gIf t159 false (fl w74 t13 134 0 3 fun t162=>fl w74 t13 134 1 3 fun t164=>bf .eql 3 t162 t164 fun t165=>K75 [t165] w74) (K75 [undef] w74)) (fun s76 _d77 w78=>
 zb t159 tr_ (s76.getD 0 undef) fun t166=>zc t166 (K fa_ w78) (bt .gtr 3 (s58.getD 0 undef) (i6 0) fun t168=>za (fun K79=>gIf t168 true (fl w78.drew t5 58 2 54 fun t171=>bt .sub 3 (s58.getD 0 undef) (i6 1) fun t173=>px 54 t171 t173 fun t174=>fl w78.drew t174 134 0 3 fun t176=>fl w78.drew t13 134 0 3 fun t178=>bf .gtr 3 t176 t178 fun t179=>K79 [t179] w78.drew) (K79 [undef] w78.drew)) (fun s80 _d81 w82=>
 za (fun K83=>gIf (s80.getD 0 undef) false (fl w82 t5 58 2 54 fun t182=>bt .sub 3 (s58.getD 0 undef) (i6 1) fun t184=>px 54 t182 t184 fun t185=>fl w82 t185 134 0 3 fun t187=>fl w82 t13 134 0 3 fun t189=>bf .eql 3 t187 t189 fun t190=>K83 [t190] w82) (K83 [undef] w82)) (fun s84 _d85 w86=>
 za (fun K87=>gIf (s84.getD 0 undef) true (fl w86 t5 58 2 54 fun t193=>bt .sub 3 (s58.getD 0 undef) (i6 1) fun t195=>px 54 t193 t195 fun t196=>fl w86 t196 134 1 3 fun t198=>fl w86 t13 134 1 3 fun t200=>bf .geq 3 t198 t200 fun t201=>K87 [t201] w86) (K87 [undef] w86)) (fun s88 _d89 w90=>
 za (fun K91=>gIf (s80.getD 0 undef) false (zb (s84.getD 0 undef) (s88.getD 0 undef) fa_ fun t202=>K91 [t202] w90) (K91 [undef] w90)) (fun s92 _d93 w94=>
 za (fun K95=>gIf t168 true (zb (s80.getD 0 undef) tr_ (s92.getD 0 undef) fun t203=>K95 [t203] w94) (K95 [undef] w94)) (fun s96 _d97 w98=>
 zb t168 (s96.getD 0 undef) fa_ fun t204=>zc t204 (K fa_ w98) (fl w98.drew t13 134 0 3 fun t206=>fl w98.drew t13 134 1 3 fun t208=>px 130 t10 t206 fun t209=>px 129 t209 t208 fun t210=>so w98.drew 4 t210 tr_ fun w99=>bt .add 3 (s58.getD 0 undef) (i6 1) fun t132=>K57 [t132] w99)))))))))))) (zt [(i6 0)] w60 (fun s101 _d102 w103 K100=>
 fl w103 t5 58 1 3 fun t213=>bf .lss 3 (s101.getD 0 undef) t213 fun t214=>zc t214 (zt [(i6 0)] w103 (fun s105 _d106 w107 K104=>
 fl w107 t5 58 1 3 fun t219=>bf .lss 3 (s105.getD 0 undef) t219 fun t220=>zc t220 (bf .neq 3 (s101.getD 0 undef) (s105.getD 0 undef) fun t225=>za (fun K108=>gIf t225 true (px 130 t9 (s101.getD 0 undef) fun t229=>xl w107 129 t229 (s105.getD 0 undef) 4 fun t231=>K108 [t231] w107) (K108 [undef] w107)) (fun s109 _d110 w111=>
 zb t225 (s109.getD 0 undef) fa_ fun t232=>za (fun K112=>gIf t232 true (px 130 t10 (s101.getD 0 undef) fun t236=>xl w111 129 t236 (s105.getD 0 undef) 4 fun t238=>pp (Op.unary .not t238) fun t239=>K112 [t239] w111) (K112 [undef] w111)) (fun s113 _d114 w115=>
 zb t232 (s113.getD 0 undef) fa_ fun t240=>zc t240 (K fa_ w115) (zt [(i6 0)] w115 (fun s117 _d118 w119 K116=>
 fl w119 t5 58 1 3 fun t243=>bf .lss 3 (s117.getD 0 undef) t243 fun t244=>zc t244 (bf .neq 3 (s101.getD 0 undef) (s117.getD 0 undef) fun t249=>za (fun K120=>gIf t249 true (px 130 t10 (s101.getD 0 undef) fun t253=>xl w119 129 t253 (s105.getD 0 undef) 4 fun t255=>K120 [t255] w119) (K120 [undef] w119)) (fun s121 _d122 w123=>
 zb t249 (s121.getD 0 undef) fa_ fun t256=>za (fun K124=>gIf t256 true (px 130 t10 (s105.getD 0 undef) fun t260=>xl w123 129 t260 (s117.getD 0 undef) 4 fun t262=>K124 [t262] w123) (K124 [undef] w123)) (fun s125 _d126 w127=>
 zb t256 (s125.getD 0 undef) fa_ fun t263=>za (fun K128=>gIf t263 true (px 130 t10 (s101.getD 0 undef) fun t267=>xl w127 129 t267 (s117.getD 0 undef) 4 fun t269=>pp (Op.unary .not t269) fun t270=>K128 [t270] w127) (K128 [undef] w127)) (fun s129 _d130 w131=>
 zb t263 (s129.getD 0 undef) fa_ fun t271=>zc t271 (K fa_ w131) (bt .add 3 (s117.getD 0 undef) (i6 1) fun t246=>K116 [t246] w131))))) (bt .add 3 (s105.getD 0 undef) (i6 1) fun t222=>K104 [t222] w119)))))) (bt .add 3 (s101.getD 0 undef) (i6 1) fun t216=>K100 [t216] w107))) (zt [(i6 0),(i6 0)] w103 (fun s133 _d134 w135 K132=>
 fl w135 t5 58 6 56 fun t274=>pp (Builtin.len_ #[56] 3 #[t274]) fun t275=>bf .lss 3 (s133.getD 1 undef) t275 fun t276=>za (fun K136=>gIf t276 true (bt .leq 3 (s133.getD 1 undef) (i6 1024) fun t279=>K136 [t279] w135) (K136 [undef] w135)) (fun s137 _d138 w139=>
 zb t276 (s137.getD 0 undef) fa_ fun t280=>zc t280 (za (fun K140=>
 fl w139 t5 58 6 56 fun t284=>px 56 t284 (s133.getD 1 undef) fun t286=>fl w139 t286 53 0 44 fun t288=>bt .eql 44 t288 (Value.int .u8 4) fun t289=>zc t289 (bt .add 3 (s133.getD 0 undef) (i6 1) fun t291=>K140 [t291] w139) (K140 [(s133.getD 0 undef)] w139)) (fun s141 _d142 w143=>
 bt .add 3 (s133.getD 1 undef) (i6 1) fun t282=>K132 [(s141.getD 0 undef),t282] w143)) (fl w139 t5 58 6 56 fun t293=>pp (Builtin.len_ #[56] 3 #[t293]) fun t294=>bt .lss 3 t294 (i6 1) fun t295=>za (fun K144=>gIf t295 false (fl w139 t5 58 6 56 fun t298=>pp (Builtin.len_ #[56] 3 #[t298]) fun t299=>bt .gtr 3 t299 (i6 1024) fun t300=>K144 [t300] w139) (K144 [undef] w139)) (fun s145 _d146 w147=>
 zb t295 tr_ (s145.getD 0 undef) fun t301=>za (fun K148=>gIf t301 false (bt .gtr 3 (s133.getD 0 undef) (i6 256) fun t304=>K148 [t304] w147) (K148 [undef] w147)) (fun s149 _d150 w151=>
 zb t301 tr_ (s149.getD 0 undef) fun t305=>zc t305 (K fa_ w151) (fl w151 t2 25 2 3 fun t308=>bf .neq 3 t1 t308 fun t309=>za (fun K152=>gIf t309 false (fl w151 t5 58 1 3 fun t312=>bt .eql 3 t312 (i6 0) fun t313=>K152 [t313] w151) (K152 [undef] w151)) (fun s153 _d154 w155=>
 za (fun K156=>gIf (s153.getD 0 undef) true (fl w155 t5 58 3 3 fun t316=>bt .eql 3 t316 (i6 0) fun t317=>K156 [t317] w155) (K156 [undef] w155)) (fun s157 _d158 w159=>
 za (fun K160=>gIf t309 false (zb (s153.getD 0 undef) (s157.getD 0 undef) fa_ fun t318=>K160 [t318] w159) (K160 [undef] w159)) (fun s161 _d162 w163=>
 za (fun K164=>gIf (s161.getD 0 undef) true (fl w163 t5 58 4 29 fun t321=>px 29 t321 (i6 0) fun t322=>fl w163 t322 31 0 28 fun t324=>bt .eql 28 t324 (Value.int .u8 1) fun t325=>K164 [t325] w163) (K164 [undef] w163)) (fun s165 _d166 w167=>
 za (fun K168=>gIf t309 false (zb (s161.getD 0 undef) (s165.getD 0 undef) fa_ fun t326=>K168 [t326] w167) (K168 [undef] w167)) (fun s169 _d170 w171=>
 zb t309 tr_ (s169.getD 0 undef) fun t327=>K t327 w171))))))))))))))))))))))))))
theorem abl {t0 t1 : Value} {w : World} {K : VW} (h : XW t0 t1 w K) : ze prog Zp #[t0,t1] w K:=
 okC false (.s (.r (rz 2 0 2)) (.s (.r (rz 7 0 10500)) (.s (.s (.r (ra 4 0 4 (.grp 27 false (ri 3 4 4) [30] (ra 2 7 0 (.grp 32 false (ri 3 9 4) [35] (ra 2 12 0 (.grp 37 false (ri 3 14 4) [40] (ra 2 17 0 (.grp 42 false (ri 6 19 260) [48] (ra 2 25 0 (.grp 50 false (ri 4 27 4) [54] (ra 2 31 0 (.grp 56 false (ri 7 33 260) [63] (rz 1 40 0)))))))))))))) (.c (.s (.r (rz 1 0 0)) (.n)) (.n))) (.s (.s (.r (rz 1 0 0)) (.b (.lp [6] (.s (.s (.r (rz 5 0 16)) (.c (.n) (.n))) (.s (.b (.s (.s (.r (rz 10 0 135428)) (.c (.s (.r (rz 1 0 0)) (.n)) (.n))) (.s (.r (rz 7 0 2308)) (.s (.r (rz 1 0 0)) (.b (.lp [8] (.s (.s (.r (rz 4 0 0)) (.c (.n) (.n))) (.s (.b (.s (.r (ra 8 0 1088 (.grp 101 false (ri 5 8 16) [106] (.grp 106 true (ri 5 13 64) [111] (.grp 101 false (ri 1 18 0) [112] (rz 1 19 0)))))) (.c (.s (.r (rz 1 0 0)) (.n)) (.n)))) (.r (rz 3 0 0)))))))))) (.r (rz 3 0 0))))))) (.s (.r (rz 2 0 10)) (.s (.s (.r (rz 1 0 0)) (.b (.lp [11] (.s (.s (.r (rz 4 0 16)) (.c (.n) (.n))) (.s (.b (.r (rz 6 0 2308))) (.r (rz 3 0 0))))))) (.s (.s (.r (rz 1 0 0)) (.b (.lp [12] (.s (.s (.r (rz 5 0 16)) (.c (.n) (.n))) (.s (.b (.s (.r (rz 7 0 10500)) (.s (.s (.r (ra 4 0 4 (.grp 141 false (ri 5 4 68) [146] (ra 2 9 0 (.grp 148 false (ri 3 11 4) [151] (ra 2 14 0 (.grp 153 false (ri 5 16 68) [158] (ra 2 21 0 (.grp 160 false (ri 5 23 68) [165] (rz 1 28 0)))))))))) (.c (.s (.r (rz 1 0 0)) (.n)) (.n))) (.s (.s (.r (ra 3 0 0 (.grp 169 true (ri 11 3 69636) [180] (.grp 180 false (ri 11 14 69636) [191] (.grp 191 true (ri 10 25 69636) [201] (.grp 180 false (ri 1 35 0) [202] (.grp 169 true (ri 1 36 0) [203] (rz 1 37 0)))))))) (.c (.s (.r (rz 1 0 0)) (.n)) (.n))) (.r (rz 7 0 8260)))))) (.r (rz 3 0 0))))))) (.s (.s (.r (rz 1 0 0)) (.b (.lp [14] (.s (.s (.r (rz 4 0 16)) (.c (.n) (.n))) (.s (.b (.s (.r (rz 1 0 0)) (.b (.lp [15] (.s (.s (.r (rz 4 0 16)) (.c (.n) (.n))) (.s (.b (.s (.s (.r (ra 4 0 0 (.grp 226 true (ri 5 4 256) [231] (ra 2 9 0 (.grp 233 true (ri 6 11 256) [239] (rz 1 17 0)))))) (.c (.s (.r (rz 1 0 0)) (.n)) (.n))) (.s (.r (rz 1 0 0)) (.b (.lp [16] (.s (.s (.r (rz 4 0 16)) (.c (.n) (.n))) (.s (.b (.s (.r (ra 4 0 0 (.grp 250 true (ri 5 4 256) [255] (ra 2 9 0 (.grp 257 true (ri 5 11 256) [262] (ra 2 16 0 (.grp 264 true (ri 6 18 256) [270] (rz 1 24 0)))))))) (.c (.s (.r (rz 1 0 0)) (.n)) (.n)))) (.r (rz 3 0 0))))))))) (.r (rz 3 0 0)))))))) (.r (rz 3 0 0))))))) (.s (.r (rz 1 0 0)) (.s (.s (.r (rz 1 0 0)) (.b (.lp [17,18] (.s (.s (.r (ra 6 0 16 (.grp 277 true (ri 2 6 0) [279] (rz 1 8 0)))) (.c (.n) (.n))) (.j [17] (.b (.s (.r (rz 7 0 1028)) (.c (.r (rz 3 0 0)) (.n)))) (.r (rz 3 0 0))))))) (.s (.s (.r (ra 5 0 4 (.grp 296 false (ri 4 5 4) [300] (ra 2 9 0 (.grp 302 false (ri 2 11 0) [304] (rz 1 13 0)))))) (.c (.s (.r (rz 1 0 0)) (.n)) (.n))) (.s (.r (ra 5 0 16 (.grp 310 false (ri 4 5 4) [314] (.grp 314 true (ri 3 9 4) [317] (.grp 310 false (ri 2 12 0) [319] (.grp 319 true (ri 6 14 260) [325] (.grp 310 false (ri 1 20 0) [326] (rz 2 21 0)))))))) (.n))))))))))))) func60 rfl (by kernel_rfl) (by kernel_rfl) h
def jx (t0 t1 : Value) (w : World) (K : VW) : Prop:=
 pw w (Instr.box 53 t1) fun t3 w1=>
 fa t0 113 1 fun t23=>fl w1 t23 58 6 56 fun t25=>pp (Builtin.len_ #[56] 3 #[t25]) fun t26=>fl w1 t3 53 12 3 fun t28=>bt .lss 3 t28 (i6 0) fun t29=>za (fun K2=>gIf t29 false (fl w1 t3 53 0 44 fun t32=>bt .eql 44 t32 (Value.int .u8 14) fun t33=>K2 [t33] w1) (K2 [undef] w1)) (fun s3 _d4 w5=>
 za (fun K6=>gIf (s3.getD 0 undef) true (fl w5 t3 53 10 3 fun t36=>bt .neq 3 t36 (i6 0) fun t37=>K6 [t37] w5) (K6 [undef] w5)) (fun s7 _d8 w9=>
 za (fun K10=>gIf t29 false (zb (s3.getD 0 undef) (s7.getD 0 undef) fa_ fun t38=>K10 [t38] w9) (K10 [undef] w9)) (fun s11 _d12 w13=>
 zb t29 tr_ (s11.getD 0 undef) fun t39=>za (fun K14=>gIf t39 false (fl w13 t3 53 0 44 fun t42=>bt .neq 44 t42 (Value.int .u8 14) fun t43=>K14 [t43] w13) (K14 [undef] w13)) (fun s15 _d16 w17=>
 za (fun K18=>gIf (s15.getD 0 undef) true (fl w17 t3 53 10 3 fun t46=>bt .lss 3 t46 (i6 0) fun t47=>K18 [t47] w17) (K18 [undef] w17)) (fun s19 _d20 w21=>
 za (fun K22=>gIf (s19.getD 0 undef) false (fl w21 t3 53 10 3 fun t50=>bf .geq 3 t50 t26 fun t52=>K22 [t52] w21) (K22 [undef] w21)) (fun s23 _d24 w25=>
 za (fun K26=>gIf (s15.getD 0 undef) true (zb (s19.getD 0 undef) tr_ (s23.getD 0 undef) fun t53=>K26 [t53] w25) (K26 [undef] w25)) (fun s27 _d28 w29=>
 za (fun K30=>gIf t39 false (zb (s15.getD 0 undef) (s27.getD 0 undef) fa_ fun t54=>K30 [t54] w29) (K30 [undef] w29)) (fun s31 _d32 w33=>
 zb t39 tr_ (s31.getD 0 undef) fun t55=>zc t55 (K fa_ w33) (fl w33 t3 53 1 47 fun t59=>ca qE #[t0,t59] w33 fun t60 w34=>
 pe t60 0 fun t61=>pe t60 1 fun t62=>pw w34 (Instr.alloc 31 true (.tuple #[])) fun t6 w35=>
 so w35 31 t6 t61 fun w36=>fl w36 t3 53 2 50 fun t66=>ca yD #[t0,t66] w36 fun t67 w37=>
 pe t67 0 fun t68=>pe t67 1 fun t69=>pw w37 (Instr.alloc 31 true (.tuple #[])) fun t8 w38=>
 so w38 31 t8 t68 fun w39=>fl w39 t3 53 3 50 fun t73=>ca yD #[t0,t73] w39 fun t74 w40=>
 pe t74 0 fun t75=>pe t74 1 fun t76=>pw w40 (Instr.alloc 31 true (.tuple #[])) fun t10 w41=>
 so w41 31 t10 t75 fun w42=>fl w42 t3 53 6 47 fun t80=>ca yE #[t0,t80] w42 fun t81 w43=>
 pe t81 0 fun t82=>pe t81 1 fun t83=>pe t81 2 fun t84=>pw w43 (Instr.alloc 31 true (.tuple #[])) fun t12 w44=>
 so w44 31 t12 t82 fun w45=>fl w45 t3 53 0 44 fun t86=>bt .eql 44 t86 (Value.int .u8 1) fun t88=>zc t88 (lo w45 53 t3 fun t89=>ca zO #[t89,(Value.string { data:=#[84,65] })] w45 fun t90 w46=>
 za (fun K47=>gIf t90 true (K47 [t62] w46) (K47 [undef] w46)) (fun s48 _d49 w50=>
 zb t90 (s48.getD 0 undef) fa_ fun t93=>za (fun K51=>gIf t93 true (K51 [t69] w50) (K51 [undef] w50)) (fun s52 _d53 w54=>
 zb t93 (s52.getD 0 undef) fa_ fun t96=>za (fun K55=>gIf t96 true (lo w54 31 t8 fun t98=>lo w54 31 t6 fun t99=>ca yA #[t98,t99] w54 fun t100 w59=>
 K55 [t100] w59) (K55 [undef] w54)) (fun s56 _d57 w58=>
 zb t96 (s56.getD 0 undef) fa_ fun t101=>K t101 w58)))) (bt .eql 44 t86 (Value.int .u8 2) fun t103=>zc t103 (lo w45 53 t3 fun t104=>ca zO #[t104,(Value.string { data:=#[84,65,66,83] })] w45 fun t105 w60=>
 pp (Op.unary .not t105) fun t106=>za (fun K61=>gIf t106 false (pp (Op.unary .not t62) fun t109=>K61 [t109] w60) (K61 [undef] w60)) (fun s62 _d63 w64=>
 zb t106 tr_ (s62.getD 0 undef) fun t110=>za (fun K65=>gIf t110 false (pp (Op.unary .not t69) fun t113=>K65 [t113] w64) (K65 [undef] w64)) (fun s66 _d67 w68=>
 zb t110 tr_ (s66.getD 0 undef) fun t114=>za (fun K69=>gIf t114 false (pp (Op.unary .not t76) fun t117=>K69 [t117] w68) (K69 [undef] w68)) (fun s70 _d71 w72=>
 zb t114 tr_ (s70.getD 0 undef) fun t118=>zc t118 (K fa_ w72) (fl w72 t3 53 5 9 fun t120=>ca Zr #[t120] w72 fun t121 w73=>
 zc t121 (lo w73 31 t6 fun t122=>ca zL #[t122,(Value.int .u8 1)] w73 fun t123 w74=>
 za (fun K75=>gIf t123 true (lo w74 31 t8 fun t125=>ca zL #[t125,(Value.int .u8 1)] w74 fun t126 w79=>
 K75 [t126] w79) (K75 [undef] w74)) (fun s76 _d77 w78=>
 zb t123 (s76.getD 0 undef) fa_ fun t127=>za (fun K80=>gIf t127 true (lo w78 31 t10 fun t129=>ca zL #[t129,(Value.int .u8 1)] w78 fun t130 w84=>
 K80 [t130] w84) (K80 [undef] w78)) (fun s81 _d82 w83=>
 zb t127 (s81.getD 0 undef) fa_ fun t131=>K t131 w83))) (lo w73 31 t8 fun t132=>ca zL #[t132,(Value.int .u8 1)] w73 fun t133 w85=>
 za (fun K86=>gIf t133 true (lo w85 31 t10 fun t135=>ca zL #[t135,(Value.int .u8 1)] w85 fun t136 w90=>
 K86 [t136] w90) (K86 [undef] w85)) (fun s87 _d88 w89=>
 zb t133 (s87.getD 0 undef) fa_ fun t137=>za (fun K91=>gIf t137 false (fl w89 t3 53 5 9 fun t140=>bt .eql 9 t140 (Value.string { data:=#[61,61] }) fun t141=>K91 [t141] w89) (K91 [undef] w89)) (fun s92 _d93 w94=>
 za (fun K95=>gIf (s92.getD 0 undef) false (fl w94 t3 53 5 9 fun t144=>bt .eql 9 t144 (Value.string { data:=#[33,61] }) fun t145=>K95 [t145] w94) (K95 [undef] w94)) (fun s96 _d97 w98=>
 za (fun K99=>gIf t137 false (zb (s92.getD 0 undef) tr_ (s96.getD 0 undef) fun t146=>K99 [t146] w98) (K99 [undef] w98)) (fun s100 _d101 w102=>
 za (fun K103=>gIf (s100.getD 0 undef) true (lo w102 31 t8 fun t148=>ca zL #[t148,(Value.int .u8 2)] w102 fun t149 w107=>
 K103 [t149] w107) (K103 [undef] w102)) (fun s104 _d105 w106=>
 za (fun K108=>gIf t137 false (zb (s100.getD 0 undef) (s104.getD 0 undef) fa_ fun t150=>K108 [t150] w106) (K108 [undef] w106)) (fun s109 _d110 w111=>
 za (fun K112=>gIf (s109.getD 0 undef) true (lo w111 31 t10 fun t152=>ca zL #[t152,(Value.int .u8 2)] w111 fun t153 w116=>
 K112 [t153] w116) (K112 [undef] w111)) (fun s113 _d114 w115=>
 za (fun K117=>gIf t137 false (zb (s109.getD 0 undef) (s113.getD 0 undef) fa_ fun t154=>K117 [t154] w115) (K117 [undef] w115)) (fun s118 _d119 w120=>
 zb t137 tr_ (s118.getD 0 undef) fun t155=>fl w120 t3 53 5 9 fun t157=>ca jO #[t157] w120 fun t158 w121=>
 za (fun K122=>gIf t158 true (lo w121 31 t6 fun t160=>ca zL #[t160,(Value.int .u8 2)] w121 fun t161 w126=>
 K122 [t161] w126) (K122 [undef] w121)) (fun s123 _d124 w125=>
 zb t158 (s123.getD 0 undef) fa_ fun t162=>za (fun K127=>gIf t162 true (K127 [t155] w125) (K127 [undef] w125)) (fun s128 _d129 w130=>
 zb t162 (s128.getD 0 undef) fa_ fun t165=>K t165 w130)))))))))))))))) (bt .eql 44 t86 (Value.int .u8 3) fun t167=>zc t167 (lo w45 53 t3 fun t168=>ca zO #[t168,(Value.string { data:=#[84,65,83] })] w45 fun t169 w131=>
 za (fun K132=>gIf t169 true (K132 [t62] w131) (K132 [undef] w131)) (fun s133 _d134 w135=>
 zb t169 (s133.getD 0 undef) fa_ fun t172=>za (fun K136=>gIf t172 true (K136 [t69] w135) (K136 [undef] w135)) (fun s137 _d138 w139=>
 zb t172 (s137.getD 0 undef) fa_ fun t175=>za (fun K140=>gIf t175 true (fl w139 t3 53 5 9 fun t178=>bt .eql 9 t178 (Value.string { data:=#[45] }) fun t179=>K140 [t179] w139) (K140 [undef] w139)) (fun s141 _d142 w143=>
 za (fun K144=>gIf (s141.getD 0 undef) true (lo w143 31 t6 fun t181=>ca zL #[t181,(Value.int .u8 1)] w143 fun t182 w148=>
 K144 [t182] w148) (K144 [undef] w143)) (fun s145 _d146 w147=>
 za (fun K149=>gIf t175 true (zb (s141.getD 0 undef) (s145.getD 0 undef) fa_ fun t183=>K149 [t183] w147) (K149 [undef] w147)) (fun s150 _d151 w152=>
 za (fun K153=>gIf (s150.getD 0 undef) true (lo w152 31 t8 fun t185=>ca zL #[t185,(Value.int .u8 1)] w152 fun t186 w157=>
 K153 [t186] w157) (K153 [undef] w152)) (fun s154 _d155 w156=>
 za (fun K158=>gIf t175 true (zb (s150.getD 0 undef) (s154.getD 0 undef) fa_ fun t187=>K158 [t187] w156) (K158 [undef] w156)) (fun s159 _d160 w161=>
 za (fun K162=>gIf (s159.getD 0 undef) false (fl w161 t3 53 5 9 fun t190=>bt .eql 9 t190 (Value.string { data:=#[33] }) fun t191=>K162 [t191] w161) (K162 [undef] w161)) (fun s163 _d164 w165=>
 za (fun K166=>gIf (s163.getD 0 undef) true (lo w165 31 t6 fun t193=>ca zL #[t193,(Value.int .u8 2)] w165 fun t194 w170=>
 K166 [t194] w170) (K166 [undef] w165)) (fun s167 _d168 w169=>
 za (fun K171=>gIf (s159.getD 0 undef) false (zb (s163.getD 0 undef) (s167.getD 0 undef) fa_ fun t195=>K171 [t195] w169) (K171 [undef] w169)) (fun s172 _d173 w174=>
 za (fun K175=>gIf (s172.getD 0 undef) true (lo w174 31 t8 fun t197=>ca zL #[t197,(Value.int .u8 2)] w174 fun t198 w179=>
 K175 [t198] w179) (K175 [undef] w174)) (fun s176 _d177 w178=>
 za (fun K180=>gIf (s159.getD 0 undef) false (zb (s172.getD 0 undef) (s176.getD 0 undef) fa_ fun t199=>K180 [t199] w178) (K180 [undef] w178)) (fun s181 _d182 w183=>
 za (fun K184=>gIf t175 true (zb (s159.getD 0 undef) tr_ (s181.getD 0 undef) fun t200=>K184 [t200] w183) (K184 [undef] w183)) (fun s185 _d186 w187=>
 zb t175 (s185.getD 0 undef) fa_ fun t201=>K t201 w187)))))))))))))) (bt .eql 44 t86 (Value.int .u8 4) fun t203=>zc t203 (lo w45.drew 53 t3 fun t204=>ca zO #[t204,(Value.string { data:=#[84,70,77] })] w45.drew fun t205 w188=>
 za (fun K189=>gIf t205 true (K189 [t62] w188) (K189 [undef] w188)) (fun s190 _d191 w192=>
 zb t205 (s190.getD 0 undef) fa_ fun t208=>za (fun K193=>gIf t208 true (K193 [t84] w192) (K193 [undef] w192)) (fun s194 _d195 w196=>
 zb t208 (s194.getD 0 undef) fa_ fun t211=>za (fun K197=>gIf t211 true (lo w196 31 t6 fun t213=>ca zL #[t213,(Value.int .u8 4)] w196 fun t214 w201=>
 K197 [t214] w201) (K197 [undef] w196)) (fun s198 _d199 w200=>
 zb t211 (s198.getD 0 undef) fa_ fun t215=>za (fun K202=>gIf t215 true (fl w200 t6 31 1 4 fun t218=>fl w200 t3 53 7 4 fun t220=>bf .eql 4 t218 t220 fun t221=>K202 [t221] w200) (K202 [undef] w200)) (fun s203 _d204 w205=>
 zb t215 (s203.getD 0 undef) fa_ fun t222=>za (fun K206=>gIf t222 true (fl w205 t6 31 4 29 fun t225=>xl w205 29 t225 (i6 0) 31 fun t227=>lo w205 31 t12 fun t228=>ca yA #[t227,t228] w205 fun t229 w210=>
 K206 [t229] w210) (K206 [undef] w205)) (fun s207 _d208 w209=>
 zb t222 (s207.getD 0 undef) fa_ fun t230=>za (fun K211=>gIf t230 true (fl w209 t3 53 7 4 fun t233=>pp (Op.unary .not t233) fun t234=>K211 [t234] w209) (K211 [undef] w209)) (fun s212 _d213 w214=>
 za (fun K215=>gIf (s212.getD 0 undef) false (ca xH #[t83] w214 fun t237 w219=>
 bt .lss 3 t237 (i6 3) fun t238=>K215 [t238] w219) (K215 [undef] w214)) (fun s216 _d217 w218=>
 za (fun K220=>gIf t230 true (zb (s212.getD 0 undef) tr_ (s216.getD 0 undef) fun t239=>K220 [t239] w218) (K220 [undef] w218)) (fun s221 _d222 w223=>
 zb t230 (s221.getD 0 undef) fa_ fun t240=>K t240 w223))))))))) (bt .eql 44 t86 (Value.int .u8 5) fun t242=>zc t242 (lo w45.drew 53 t3 fun t243=>ca zO #[t243,(Value.string { data:=#[84,65] })] w45.drew fun t244 w224=>
 za (fun K225=>gIf t244 true (K225 [t62] w224) (K225 [undef] w224)) (fun s226 _d227 w228=>
 zb t244 (s226.getD 0 undef) fa_ fun t247=>za (fun K229=>gIf t247 true (K229 [t69] w228) (K229 [undef] w228)) (fun s230 _d231 w232=>
 zb t247 (s230.getD 0 undef) fa_ fun t250=>za (fun K233=>gIf t250 true (lo w232 31 t6 fun t252=>ca zL #[t252,(Value.int .u8 3)] w232 fun t253 w237=>
 K233 [t253] w237) (K233 [undef] w232)) (fun s234 _d235 w236=>
 zb t250 (s234.getD 0 undef) fa_ fun t254=>za (fun K238=>gIf t254 true (fl w236 t6 31 4 29 fun t257=>xl w236 29 t257 (i6 0) 31 fun t259=>lo w236 31 t8 fun t260=>ca yA #[t259,t260] w236 fun t261 w242=>
 K238 [t261] w242) (K238 [undef] w236)) (fun s239 _d240 w241=>
 zb t254 (s239.getD 0 undef) fa_ fun t262=>K t262 w241))))) (bt .eql 44 t86 (Value.int .u8 6) fun t264=>zc t264 (lo w45 53 t3 fun t265=>ca zO #[t265,(Value.string { data:=#[84,76,85] })] w45 fun t266 w243=>
 pp (Op.unary .not t266) fun t267=>za (fun K244=>gIf t267 false (pp (Op.unary .not t62) fun t270=>K244 [t270] w243) (K244 [undef] w243)) (fun s245 _d246 w247=>
 zb t267 tr_ (s245.getD 0 undef) fun t271=>za (fun K248=>gIf t271 false (lo w247 31 t6 fun t273=>ca zL #[t273,(Value.int .u8 5)] w247 fun t274 w252=>
 pp (Op.unary .not t274) fun t275=>K248 [t275] w252) (K248 [undef] w247)) (fun s249 _d250 w251=>
 zb t271 tr_ (s249.getD 0 undef) fun t276=>za (fun K253=>gIf t276 false (fl w251 t6 31 3 3 fun t279=>fl w251 t3 53 9 3 fun t281=>bf .neq 3 t279 t281 fun t282=>K253 [t282] w251) (K253 [undef] w251)) (fun s254 _d255 w256=>
 zb t276 tr_ (s254.getD 0 undef) fun t283=>zc t283 (K fa_ w256) (fa t0 113 0 fun t287=>fl w256.drew t287 25 0 22 fun t289=>lo w256.drew 31 t6 fun t290=>ca jN #[t289,t290] w256.drew fun t291 w257=>
 pe t291 0 fun t292=>pe t291 1 fun _t293=>fl w257 t3 53 4 51 fun t296=>ca xt #[t0,t296,t292] w257 fun t298 w258=>
 K t298 w258))))) (bt .eql 44 t86 (Value.int .u8 7) fun t300=>zc t300 (lo w45.drew 53 t3 fun t301=>ca zO #[t301,(Value.string { data:=#[84,76,78] })] w45.drew fun t302 w259=>
 pp (Op.unary .not t302) fun t303=>za (fun K260=>gIf t303 false (pp (Op.unary .not t62) fun t306=>K260 [t306] w259) (K260 [undef] w259)) (fun s261 _d262 w263=>
 zb t303 tr_ (s261.getD 0 undef) fun t307=>za (fun K264=>gIf t307 false (fl w263 t3 53 8 3 fun t310=>bt .lss 3 t310 (i6 0) fun t311=>K264 [t311] w263) (K264 [undef] w263)) (fun s265 _d266 w267=>
 zb t307 tr_ (s265.getD 0 undef) fun t312=>za (fun K268=>gIf t312 false (fl w267 t3 53 8 3 fun t315=>fa t0 113 0 fun t318=>fl w267 t318 25 1 23 fun t320=>pp (Builtin.len_ #[23] 3 #[t320]) fun t321=>bf .geq 3 t315 t321 fun t322=>K268 [t322] w267) (K268 [undef] w267)) (fun s269 _d270 w271=>
 zb t312 tr_ (s269.getD 0 undef) fun t323=>zc t323 (K fa_ w271) (fa t0 113 0 fun t326=>fl w271.drew t326 25 1 23 fun t328=>fl w271.drew t3 53 8 3 fun t330=>xl w271.drew 23 t328 t330 58 fun t332=>pw w271.drew (Instr.alloc 58 true (.tuple #[])) fun t18 w272=>
 Ext w271.drew w272∧
 so w272 58 t18 t332 fun w273=>fl w273.drew t3 53 4 51 fun t335=>fl w273.drew t18 58 4 29 fun t337=>fl w273.drew t18 58 3 3 fun t339=>bt .add 3 t339 (i6 1) fun t340=>pp (Instr.sliceAt 29 t337 (some (i6 1)) (some t340) none) fun t341=>ca xt #[t0,t335,t341] w273.drew fun t342 w274=>
 za (fun K275=>gIf t342 true (lo w274 31 t6 fun t344=>fl w274 t18 58 4 29 fun t346=>xl w274 29 t346 (i6 0) 31 fun t348=>ca yA #[t344,t348] w274 fun t349 w279=>
 K275 [t349] w279) (K275 [undef] w274)) (fun s276 _d277 w278=>
 zb t342 (s276.getD 0 undef) fa_ fun t350=>K t350 w278)))))) (bt .eql 44 t86 (Value.int .u8 8) fun t352=>zc t352 (lo w45 53 t3 fun t353=>ca zO #[t353,(Value.string { data:=#[84] })] w45 fun t354 w280=>
 za (fun K281=>gIf t354 true (K281 [t62] w280) (K281 [undef] w280)) (fun s282 _d283 w284=>
 zb t354 (s282.getD 0 undef) fa_ fun t357=>za (fun K285=>gIf t357 true (lo w284 31 t6 fun t359=>ca zL #[t359,(Value.int .u8 1)] w284 fun t360 w289=>
 K285 [t360] w289) (K285 [undef] w284)) (fun s286 _d287 w288=>
 zb t357 (s286.getD 0 undef) fa_ fun t361=>K t361 w288))) (bt .eql 44 t86 (Value.int .u8 9) fun t363=>zc t363 (lo w45 53 t3 fun t364=>ca zO #[t364,(Value.string { data:=#[65] })] w45 fun t365 w290=>
 za (fun K291=>gIf t365 true (K291 [t69] w290) (K291 [undef] w290)) (fun s292 _d293 w294=>
 zb t365 (s292.getD 0 undef) fa_ fun t368=>za (fun K295=>gIf t368 true (lo w294 31 t8 fun t370=>ca zL #[t370,(Value.int .u8 1)] w294 fun t371 w299=>
 K295 [t371] w299) (K295 [undef] w294)) (fun s296 _d297 w298=>
 zb t368 (s296.getD 0 undef) fa_ fun t372=>K t372 w298))) (bt .eql 44 t86 (Value.int .u8 10) fun t374=>zc t374 (fa t0 113 0 fun t378=>fl w45.drew t378 25 0 22 fun t380=>lo w45.drew 31 t12 fun t381=>ca vA #[t380,t381] w45.drew fun t382 w300=>
 pe t382 0 fun t383=>pe t382 1 fun _t384=>lo w300 53 t3 fun t385=>ca zO #[t385,(Value.string { data:=#[70] })] w300 fun t386 w301=>
 za (fun K302=>gIf t386 true (K302 [t84] w301) (K302 [undef] w301)) (fun s303 _d304 w305=>
 zb t386 (s303.getD 0 undef) fa_ fun t389=>za (fun K306=>gIf t389 true (K306 [t383] w305) (K306 [undef] w305)) (fun s307 _d308 w309=>
 zb t389 (s307.getD 0 undef) fa_ fun t392=>za (fun K310=>gIf t392 true (ca xH #[t83] w309 fun t395 w314=>
 bt .lss 3 t395 (i6 2) fun t396=>K310 [t396] w314) (K310 [undef] w309)) (fun s311 _d312 w313=>
 zb t392 (s311.getD 0 undef) fa_ fun t397=>K t397 w313)))) (bt .eql 44 t86 (Value.int .u8 11) fun t399=>zc t399 (lo w45 53 t3 fun t400=>ca zO #[t400,(Value.string { data:=#[70] })] w45 fun t401 w315=>
 za (fun K316=>gIf t401 true (K316 [t84] w315) (K316 [undef] w315)) (fun s317 _d318 w319=>
 zb t401 (s317.getD 0 undef) fa_ fun t404=>za (fun K320=>gIf t404 true (pf 53 t3 6 fun t406=>fl w319 t406 47 0 3 fun t408=>bt .gtr 3 t408 (i6 0) fun t409=>K320 [t409] w319) (K320 [undef] w319)) (fun s321 _d322 w323=>
 zb t404 (s321.getD 0 undef) fa_ fun t410=>za (fun K324=>gIf t410 true (pf 53 t3 6 fun t412=>fl w323 t412 47 1 45 fun t414=>pp (Builtin.len_ #[45] 3 #[t414]) fun t415=>bt .eql 3 t415 (i6 0) fun t416=>K324 [t416] w323) (K324 [undef] w323)) (fun s325 _d326 w327=>
 zb t410 (s325.getD 0 undef) fa_ fun t417=>K t417 w327)))) (bt .eql 44 t86 (Value.int .u8 12) fun t419=>zc t419 (lo w45 53 t3 fun t420=>ca zO #[t420,(Value.string { data:=#[65,69] })] w45 fun t421 w328=>
 za (fun K329=>gIf t421 true (K329 [t69] w328) (K329 [undef] w328)) (fun s330 _d331 w332=>
 zb t421 (s330.getD 0 undef) fa_ fun t424=>za (fun K333=>gIf t424 true (lo w332 31 t8 fun t426=>ca zL #[t426,(Value.int .u8 2)] w332 fun t427 w337=>
 K333 [t427] w337) (K333 [undef] w332)) (fun s334 _d335 w336=>
 zb t424 (s334.getD 0 undef) fa_ fun t428=>za (fun K338=>gIf t428 true (fl w336 t3 53 11 3 fun t431=>bt .geq 3 t431 (i6 0) fun t432=>K338 [t432] w336) (K338 [undef] w336)) (fun s339 _d340 w341=>
 zb t428 (s339.getD 0 undef) fa_ fun t433=>za (fun K342=>gIf t433 true (fl w341 t3 53 11 3 fun t436=>bf .lss 3 t436 t26 fun t438=>K342 [t438] w341) (K342 [undef] w341)) (fun s343 _d344 w345=>
 zb t433 (s343.getD 0 undef) fa_ fun t439=>K t439 w345))))) (za (fun K346=>
 bt .eql 44 t86 (Value.int .u8 13) fun t441=>zc t441 (K346 [t441] w45) (bt .eql 44 t86 (Value.int .u8 14) fun t442=>K346 [t442] w45)) (fun s347 _d348 w349=>
 zc (s347.getD 0 undef) (lo w349 53 t3 fun t443=>ca zO #[t443,(Value.string { data:=#[] })] w349 fun t444 w350=>
 K t444 w350) (K fa_ w349)))))))))))))))))))))))
theorem Y8 {t0 t1 : Value} {w : World} {K : VW} (h : jx t0 t1 w K) : ze prog kn #[t0,t1] w K:=
 okC false (.s (.r (rz 2 0 2)) (.s (.r (rz 7 0 256)) (.s (.s (.r (ra 4 0 4 (.grp 30 false (ri 4 4 4) [34] (.grp 34 true (ri 3 8 4) [37] (.grp 30 false (ri 1 11 0) [38] (ra 2 12 0 (.grp 40 false (ri 4 14 4) [44] (.grp 44 true (ri 4 18 4) [48] (.grp 48 false (ri 4 22 4) [52] (.grp 44 true (ri 1 26 0) [53] (.grp 40 false (ri 1 27 0) [54] (rz 1 28 0)))))))))))) (.c (.s (.r (rz 1 0 0)) (.n)) (.n))) (.s (.r (rz 10 0 163984)) (.s (.r (rz 10 0 163984)) (.s (.r (rz 10 0 163984)) (.s (.r (rz 12 0 655504)) (.s (.s (.r (rz 2 0 4)) (.b (.s (.r (rz 2 0 0)) (.c (.s (.r (ra 3 0 9 (.grp 91 true (ri 1 3 0) [92] (ra 2 4 0 (.grp 94 true (ri 1 6 0) [95] (ra 2 7 0 (.grp 97 true (ri 3 9 37) [100] (rz 2 12 0)))))))) (.n)) (.s (.r (rz 2 0 0)) (.c (.s (.s (.r (ra 4 0 9 (.grp 107 false (ri 2 4 0) [109] (ra 2 6 0 (.grp 111 false (ri 2 8 0) [113] (ra 2 10 0 (.grp 115 false (ri 2 12 0) [117] (rz 1 14 0)))))))) (.c (.s (.r (rz 1 0 0)) (.n)) (.n))) (.s (.s (.r (rz 3 0 36)) (.c (.s (.r (ra 3 0 9 (.grp 124 true (ri 2 3 9) [126] (ra 2 5 0 (.grp 128 true (ri 2 7 9) [130] (rz 2 9 0)))))) (.n)) (.n))) (.s (.r (ra 3 0 9 (.grp 134 true (ri 2 3 9) [136] (ra 2 5 0 (.grp 138 false (ri 4 7 4) [142] (.grp 142 false (ri 3 11 4) [145] (.grp 138 false (ri 2 14 0) [147] (.grp 147 true (ri 2 16 9) [149] (.grp 138 false (ri 2 18 0) [151] (.grp 151 true (ri 2 20 9) [153] (.grp 138 false (ri 1 22 0) [154] (rz 2 23 0)))))))))))) (.s (.r (ra 4 0 36 (.grp 159 true (ri 2 4 9) [161] (ra 2 6 0 (.grp 163 true (ri 1 8 0) [164] (rz 2 9 0)))))) (.n))))) (.s (.r (rz 2 0 0)) (.c (.s (.r (ra 3 0 9 (.grp 170 true (ri 1 3 0) [171] (ra 2 4 0 (.grp 173 true (ri 1 6 0) [174] (ra 2 7 0 (.grp 176 true (ri 4 9 4) [180] (.grp 180 true (ri 2 13 9) [182] (.grp 176 true (ri 2 15 0) [184] (.grp 184 true (ri 2 17 9) [186] (.grp 176 true (ri 2 19 0) [188] (.grp 188 false (ri 4 21 4) [192] (.grp 192 true (ri 2 25 9) [194] (.grp 188 false (ri 2 27 0) [196] (.grp 196 true (ri 2 29 9) [198] (.grp 188 false (ri 1 31 0) [199] (.grp 176 true (ri 1 32 0) [200] (rz 2 33 0)))))))))))))))))) (.n)) (.s (.r (rz 2 0 0)) (.c (.s (.r (ra 3 0 9 (.grp 206 true (ri 1 3 0) [207] (ra 2 4 0 (.grp 209 true (ri 1 6 0) [210] (ra 2 7 0 (.grp 212 true (ri 2 9 9) [214] (ra 2 11 0 (.grp 216 true (ri 5 13 68) [221] (ra 2 18 0 (.grp 223 true (ri 6 20 2372) [229] (ra 2 26 0 (.grp 231 true (ri 4 28 4) [235] (.grp 235 false (ri 3 32 8) [238] (.grp 231 true (ri 1 35 0) [239] (rz 2 36 0)))))))))))))))) (.n)) (.s (.r (rz 2 0 0)) (.c (.s (.r (ra 3 0 9 (.grp 245 true (ri 1 3 0) [246] (ra 2 4 0 (.grp 248 true (ri 1 6 0) [249] (ra 2 7 0 (.grp 251 true (ri 2 9 9) [253] (ra 2 11 0 (.grp 255 true (ri 6 13 2372) [261] (rz 2 19 0)))))))))) (.n)) (.s (.r (rz 2 0 0)) (.c (.s (.s (.r (ra 4 0 9 (.grp 268 false (ri 2 4 0) [270] (ra 2 6 0 (.grp 272 false (ri 3 8 9) [275] (ra 2 11 0 (.grp 277 false (ri 5 13 68) [282] (rz 1 18 0)))))))) (.c (.s (.r (rz 1 0 0)) (.n)) (.n))) (.s (.r (rz 12 0 9472)) (.s (.r (rz 6 0 528)) (.n)))) (.s (.r (rz 2 0 0)) (.c (.s (.s (.r (ra 4 0 9 (.grp 304 false (ri 2 4 0) [306] (ra 2 6 0 (.grp 308 false (ri 3 8 4) [311] (ra 2 11 0 (.grp 313 false (ri 9 13 4100) [322] (rz 1 22 0)))))))) (.c (.s (.r (rz 1 0 0)) (.n)) (.n))) (.s (.r (rz 11 0 2953472)) (.s (.r (ra 11 0 528656 (.grp 343 true (ri 6 11 2321) [349] (rz 2 17 0)))) (.n)))) (.s (.r (rz 2 0 0)) (.c (.s (.r (ra 3 0 9 (.grp 355 true (ri 1 3 0) [356] (ra 2 4 0 (.grp 358 true (ri 2 6 9) [360] (rz 2 8 0)))))) (.n)) (.s (.r (rz 2 0 0)) (.c (.s (.r (ra 3 0 9 (.grp 366 true (ri 1 3 0) [367] (ra 2 4 0 (.grp 369 true (ri 2 6 9) [371] (rz 2 8 0)))))) (.n)) (.s (.r (rz 2 0 0)) (.c (.s (.r (rz 12 0 9472)) (.s (.r (ra 3 0 9 (.grp 387 true (ri 1 3 0) [388] (ra 2 4 0 (.grp 390 true (ri 1 6 0) [391] (ra 2 7 0 (.grp 393 true (ri 3 9 8) [396] (rz 2 12 0)))))))) (.n))) (.s (.r (rz 2 0 0)) (.c (.s (.r (ra 3 0 9 (.grp 402 true (ri 1 3 0) [403] (ra 2 4 0 (.grp 405 true (ri 4 6 16) [409] (ra 2 10 0 (.grp 411 true (ri 5 12 16) [416] (rz 2 17 0)))))))) (.n)) (.s (.r (rz 2 0 0)) (.c (.s (.r (ra 3 0 9 (.grp 422 true (ri 1 3 0) [423] (ra 2 4 0 (.grp 425 true (ri 2 6 9) [427] (ra 2 8 0 (.grp 429 true (ri 3 10 4) [432] (ra 2 13 0 (.grp 434 true (ri 4 15 4) [438] (rz 2 19 0)))))))))) (.n)) (.j [440] (.s (.r (rz 2 0 0)) (.c (.n) (.r (rz 2 0 0)))) (.c (.s (.r (rz 3 0 9)) (.n)) (.n))))))))))))))))))))))))))))) (.s (.r (rz 1 0 0)) (.n)))))))))) func61 rfl (by kernel_rfl) (by kernel_rfl) h
def XX (t0 t1 : Value) (w : World) (K : VW) : Prop:=
 pw w (Instr.box 31 t0) fun t2 w1=>
 lo w1 31 t2 fun t7=>ca kx #[t7] w1 fun t8 w2=>
 zt [(i6 0)] w2 (fun s4 _d5 w6 K3=>
 pp (Builtin.len_ #[39] 3 #[t8]) fun t11=>bf .lss 3 (s4.getD 0 undef) t11 fun t12=>zc t12 (bt .add 3 (s4.getD 0 undef) (i6 1) fun t16=>zt [t16] w6 (fun s8 _d9 w10 K7=>
 pp (Builtin.len_ #[39] 3 #[t8]) fun t19=>bf .lss 3 (s8.getD 0 undef) t19 fun t20=>zc t20 (xl w10.drew 39 t8 (s8.getD 0 undef) 3 fun t27=>xl w10.drew 39 t8 (s4.getD 0 undef) 3 fun t31=>JB t1 fun t32=>px 130 t32 t27 fun t33=>px 129 t33 t31 fun t34=>so w10.drew 4 t34 tr_ fun w11=>bt .add 3 (s8.getD 0 undef) (i6 1) fun t22=>K7 [t22] w11) (bt .add 3 (s4.getD 0 undef) (i6 1) fun t14=>K3 [t14] w10))) (K (.tuple #[]) w6))
theorem abm {t0 t1 : Value} {w : World} {K : VW} (h : XX t0 t1 w K) : ze prog Zq #[t0,t1] w K:=
 okC false (.s (.r (rz 1 0 2)) (.s (.r (rz 3 0 9)) (.s (.r (rz 1 0 0)) (.b (.lp [5] (.s (.s (.r (rz 4 0 0)) (.c (.n) (.n))) (.s (.b (.s (.r (rz 3 0 0)) (.b (.lp [6] (.s (.s (.r (rz 4 0 0)) (.c (.n) (.n))) (.s (.b (.r (rz 13 0 33620224))) (.r (rz 3 0 0)))))))) (.r (rz 3 0 0))))))))) func80 rfl (by kernel_rfl) (by kernel_rfl) h
def Zu (t0 t1 : Value) (w : World) (K : VW) : Prop:=
 pw w (Instr.box 47 t1) fun t3 w1=>
 pw w1 (Instr.alloc 31 true (.tuple #[])) fun t4 w2=>
 lo w2 47 t3 fun t11=>ca yE #[t0,t11] w2 fun t12 w3=>
 pe t12 0 fun t13=>pe t12 1 fun t14=>pe t12 2 fun t15=>pw w3 (Instr.alloc 31 true (.tuple #[])) fun t6 w4=>
 so w4 31 t6 t13 fun w5=>lo w5.drew 31 t6 fun t16=>za (fun K6=>gIf t15 true (ca xH #[t14] w5.drew fun t20 w10=>
 Ext w5.drew w10∧
 bt .lss 3 t20 (i6 3) fun t21=>K6 [t21] w10) (K6 [undef] w5.drew)) (fun s7 _d8 w9=>
 zb t15 (s7.getD 0 undef) fa_ fun t22=>so w9 31 t4 t16 fun w11=>pq w11 (zf 31 t4) fun r12=>K (.tuple #[r12,t22]) w11)
theorem QX {t0 t1 : Value} {w : World} {K : VW} (h : Zu t0 t1 w K) : ze prog qE #[t0,t1] w K:=
 okC false (.s (.r (rz 3 0 10)) (.s (.r (rz 11 0 163876)) (.s (.r (ra 3 0 1 (.grp 18 true (ri 3 3 12) [21] (rz 3 6 8)))) (.n)))) func81 rfl (by kernel_rfl) (by kernel_rfl) h
def qO (t0 t1 : Value) (w : World) (K : VW) : Prop:=
 pw w (Instr.box 50 t1) fun t3 w1=>
 pw w1 (Instr.alloc 31 true (.tuple #[])) fun t4 w2=>
 fl w2 t3 50 0 48 fun t10=>bt .eql 48 t10 (Value.int .u8 1) fun t12=>zc t12 (pp (Instr.build 31 #[(0,(Value.int .u8 1))]) fun t13=>fl w2 t3 50 2 47 fun t15=>ca yp #[t15] w2 fun t16 w3=>
 so w3 31 t4 t13 fun w4=>pq w4 (zf 31 t4) fun r5=>K (.tuple #[r5,t16]) w4) (bt .eql 48 t10 (Value.int .u8 2) fun t18=>zc t18 (pp (Instr.build 31 #[(0,(Value.int .u8 2))]) fun t19=>fl w2.drew t3 50 2 47 fun t21=>ca yp #[t21] w2.drew fun t22 w6=>
 za (fun K7=>gIf t22 true (fl w6 t3 50 1 2 fun t25=>bt .eql 2 t25 (i6 0) fun t26=>K7 [t26] w6) (K7 [undef] w6)) (fun s8 _d9 w10=>
 za (fun K11=>gIf (s8.getD 0 undef) false (pf 50 t3 1 fun t28=>K11 [t28] w10) (K11 [undef] w10)) (fun s12 _d13 w14=>
 ((za (fun K15=>gIf (s8.getD 0 undef) false (pw w14 (Instr.loadAt 2 (s12.getD 0 undef)) fun t29 w19=>
 bt .eql 2 t29 (i6 1) fun t30=>K15 [t30] w19) (K15 [undef] w14)) (fun s16 _d17 w18=>
 za (fun K20=>gIf t22 true (zb (s8.getD 0 undef) tr_ (s16.getD 0 undef) fun t31=>K20 [t31] w18) (K20 [undef] w18)) (fun s21 _d22 w23=>
 zb t22 (s21.getD 0 undef) fa_ fun t32=>so w23 31 t4 t19 fun w24=>pq w24 (zf 31 t4) fun r25=>K (.tuple #[r25,t32]) w24)))∧
 (so w14 31 t4 t19 fun w26=>za (fun K27=>gIf (s8.getD 0 undef) false (pw w26 (Instr.loadAt 2 (s12.getD 0 undef)) fun t29_32 w31=>
 bt .eql 2 t29_32 (i6 1) fun t30_33=>K27 [t30_33] w31) (K27 [undef] w26)) (fun s28 _d29 w30=>
 za (fun K34=>gIf t22 true (zb (s8.getD 0 undef) tr_ (s28.getD 0 undef) fun t31_38=>K34 [t31_38] w30) (K34 [undef] w30)) (fun s35 _d36 w37=>
 zb t22 (s35.getD 0 undef) fa_ fun t32_39=>pq w37 (zf 31 t4) fun r40=>K (.tuple #[r40,t32_39]) w37))))))) (za (fun K41=>
 bt .eql 48 t10 (Value.int .u8 3) fun t34=>zc t34 (K41 [t34] w2) (bt .eql 48 t10 (Value.int .u8 4) fun t35=>K41 [t35] w2)) (fun s42 _d43 w44=>
 zc (s42.getD 0 undef) (fl w44 t3 50 2 47 fun t39=>ca yE #[t0,t39] w44 fun t40 w45=>
 pe t40 0 fun t41=>pe t40 1 fun t42=>pe t40 2 fun t43=>pw w45 (Instr.alloc 31 true (.tuple #[])) fun t6 w46=>
 so w46 31 t6 t41 fun w47=>pp (Op.unary .not t43) fun t45=>za (fun K48=>gIf t45 false (fl w47 t3 50 1 2 fun t48=>bt .neq 2 t48 (i6 0) fun t49=>K48 [t49] w47) (K48 [undef] w47)) (fun s49 _d50 w51=>
 zb t45 tr_ (s49.getD 0 undef) fun t50=>zc t50 (lo w51 31 t6 fun t51=>so w51 31 t4 t51 fun w52=>pq w52 (zf 31 t4) fun r53=>K (.tuple #[r53,fa_]) w52) (fl w51 t3 50 0 48 fun t53=>bt .eql 48 t53 (Value.int .u8 3) fun t54=>zc t54 (lo w51.drew 31 t6 fun t55=>lo w51.drew 31 t6 fun t56=>ca kO #[t56] w51.drew fun t57 w54=>
 Ext w51.drew w54∧
 so w54 31 t4 t55 fun w55=>pq w55 (zf 31 t4) fun r56=>K (.tuple #[r56,t57]) w55) (lo w51.drew 31 t6 fun t58=>lo w51.drew 31 t6 fun t59=>ca kO #[t59] w51.drew fun t60 w57=>
 Ext w51.drew w57∧
 pp (Op.unary .not t60) fun t61=>za (fun K58=>gIf t61 true (ca xH #[t42] w57 fun t64 w62=>
 Ext w57 w62∧
 bt .lss 3 t64 (i6 2) fun t65=>K58 [t65] w62) (K58 [undef] w57)) (fun s59 _d60 w61=>
 zb t61 (s59.getD 0 undef) fa_ fun t66=>so w61 31 t4 t58 fun w63=>pq w63 (zf 31 t4) fun r64=>K (.tuple #[r64,t66]) w63))))) (pp (Instr.build 31 #[]) fun t67=>so w44 31 t4 t67 fun w65=>pq w65 (zf 31 t4) fun r66=>K (.tuple #[r66,fa_]) w65))))
theorem Ys {t0 t1 : Value} {w : World} {K : VW} (h : qO t0 t1 w K) : ze prog yD #[t0,t1] w K:=
 okC false (.s (.r (rz 3 0 10)) (.s (.s (.r (rz 2 0 4)) (.b (.s (.r (rz 2 0 0)) (.c (.s (.r (rz 6 0 656)) (.n)) (.s (.r (rz 2 0 0)) (.c (.s (.r (ra 5 0 144 (.grp 23 true (ri 4 5 4) [27] (.grp 27 false (ri 1 9 0) [28] (.bth (.grp 27 false (ri 2 10 2) [30] (.grp 23 true (ri 1 12 0) [31] (rz 3 13 8))) (ra 1 14 2 (.grp 27 false (ri 2 10 2) [30] (.grp 23 true (ri 1 12 0) [31] (ra 1 13 0 (rz 1 15 0)))))))))) (.n)) (.j [33] (.s (.r (rz 2 0 0)) (.c (.n) (.r (rz 2 0 0)))) (.c (.s (.r (rz 12 0 655504)) (.s (.s (.r (ra 3 0 0 (.grp 46 false (ri 3 3 4) [49] (rz 1 6 0)))) (.c (.s (.r (rz 3 0 9)) (.n)) (.n))) (.s (.s (.r (rz 3 0 4)) (.c (.s (.r (rz 5 0 181)) (.n)) (.n))) (.s (.r (ra 5 0 53 (.grp 62 true (ri 3 5 12) [65] (rz 3 8 8)))) (.n))))) (.n))))))))) (.s (.r (rz 3 0 8)) (.n)))) func82 rfl (by kernel_rfl) (by kernel_rfl) h
def j9 (t0 t1 : Value) (w : World) (K : VW) : Prop:=
 pw w (Instr.box 47 t1) fun t3 w1=>
 pw w1 (Instr.alloc 31 true (.tuple #[])) fun t4 w2=>
 fl w2.drew t3 47 0 3 fun t8=>bt .lss 3 t8 (i6 0) fun t9=>za (fun K3=>gIf t9 false (fl w2.drew t3 47 0 3 fun t12=>fa t0 113 1 fun t15=>fl w2.drew t15 58 4 29 fun t17=>pp (Builtin.len_ #[29] 3 #[t17]) fun t18=>bf .geq 3 t12 t18 fun t19=>K3 [t19] w2.drew) (K3 [undef] w2.drew)) (fun s4 _d5 w6=>
 zb t9 tr_ (s4.getD 0 undef) fun t20=>zc t20 (pp (Instr.build 31 #[]) fun t21=>so w6 31 t4 t21 fun w7=>pq w7 (zf 31 t4) fun r8=>K (.tuple #[r8,(Value.slice Option.none 0 0),fa_]) w7) (fa t0 113 0 fun t24=>fl w6.drew t24 25 0 22 fun t26=>fa t0 113 1 fun t29=>fl w6.drew t29 58 4 29 fun t31=>fl w6.drew t3 47 0 3 fun t33=>fl w6.drew t3 47 0 3 fun t35=>bt .add 3 t35 (i6 1) fun t36=>pp (Instr.sliceAt 29 t31 (some t33) (some t36) none) fun t37=>fl w6.drew t3 47 1 45 fun t39=>pp (Instr.build 47 #[(1,t39)]) fun t40=>ca jh #[t26,t37,t40] w6.drew fun t41 w9=>
 pe t41 0 fun t42=>pe t41 1 fun t43=>pe t41 2 fun t44=>so w9 31 t4 t42 fun w10=>pq w10 (zf 31 t4) fun r11=>K (.tuple #[r11,t43,t44]) w10))
theorem XL {t0 t1 : Value} {w : World} {K : VW} (h : j9 t0 t1 w K) : ze prog yE #[t0,t1] w K:=
 okC false (.s (.r (rz 4 0 10)) (.s (.s (.r (ra 4 0 4 (.grp 10 false (ri 9 4 4100) [19] (rz 1 13 0)))) (.c (.s (.r (rz 4 0 8)) (.n)) (.n))) (.s (.r (rz 26 0 141304495603968)) (.n)))) func83 rfl (by kernel_rfl) (by kernel_rfl) h
def XY (t0 t1 : Value) (w : World) (K : VW) : Prop:=
 pw w (Instr.box 53 t0) fun t2 w1=>
 zt [tr_,(i6 0)] w1 (fun s3 _d4 w5 K2=>
 bt .lss 3 (s3.getD 1 undef) (i6 10) fun t11=>zc t11 (za (fun K6=>
 pp (Instr.index 9 (Value.string { data:=#[84,65,66,76,70,83,78,85,77,69] }) (s3.getD 1 undef)) fun t15=>zt [fa_,(i6 0)] w5 (fun s11 _d12 w13 K10=>
 pp (Builtin.len_ #[9] 3 #[t1]) fun t18=>bf .lss 3 (s11.getD 1 undef) t18 fun t19=>zc t19 (za (fun K14=>gIf (s11.getD 0 undef) false (pp (Instr.index 9 t1 (s11.getD 1 undef)) fun t26=>bf .eql 5 t26 t15 fun t28=>K14 [t28] w13) (K14 [undef] w13)) (fun s15 _d16 w17=>
 zb (s11.getD 0 undef) tr_ (s15.getD 0 undef) fun t29=>bt .add 3 (s11.getD 1 undef) (i6 1) fun t21=>K10 [t29,t21] w17)) (zc (s11.getD 0 undef) (K6 [(s3.getD 0 undef)] w13) (bt .eql 5 t15 (Value.int .u8 84) fun t33=>zc t33 (za (fun K18=>gIf (s3.getD 0 undef) true (fl w13 t2 53 1 47 fun t37=>ca yp #[t37] w13 fun t38 w22=>
 K18 [t38] w22) (K18 [undef] w13)) (fun s19 _d20 w21=>
 zb (s3.getD 0 undef) (s19.getD 0 undef) fa_ fun t39=>K6 [t39] w21)) (bt .eql 5 t15 (Value.int .u8 65) fun t41=>zc t41 (za (fun K23=>gIf (s3.getD 0 undef) true (fl w13 t2 53 2 50 fun t45=>ca xm #[t45] w13 fun t46 w27=>
 K23 [t46] w27) (K23 [undef] w13)) (fun s24 _d25 w26=>
 zb (s3.getD 0 undef) (s24.getD 0 undef) fa_ fun t47=>K6 [t47] w26)) (bt .eql 5 t15 (Value.int .u8 66) fun t49=>zc t49 (za (fun K28=>gIf (s3.getD 0 undef) true (fl w13 t2 53 3 50 fun t53=>ca xm #[t53] w13 fun t54 w32=>
 K28 [t54] w32) (K28 [undef] w13)) (fun s29 _d30 w31=>
 zb (s3.getD 0 undef) (s29.getD 0 undef) fa_ fun t55=>K6 [t55] w31)) (bt .eql 5 t15 (Value.int .u8 76) fun t57=>zc t57 (za (fun K33=>gIf (s3.getD 0 undef) true (fl w13 t2 53 4 51 fun t61=>pp (Builtin.len_ #[51] 3 #[t61]) fun t62=>bt .eql 3 t62 (i6 0) fun t63=>K33 [t63] w13) (K33 [undef] w13)) (fun s34 _d35 w36=>
 zb (s3.getD 0 undef) (s34.getD 0 undef) fa_ fun t64=>K6 [t64] w36)) (bt .eql 5 t15 (Value.int .u8 70) fun t66=>zc t66 (za (fun K37=>gIf (s3.getD 0 undef) true (fl w13 t2 53 6 47 fun t70=>ca yp #[t70] w13 fun t71 w41=>
 K37 [t71] w41) (K37 [undef] w13)) (fun s38 _d39 w40=>
 zb (s3.getD 0 undef) (s38.getD 0 undef) fa_ fun t72=>K6 [t72] w40)) (bt .eql 5 t15 (Value.int .u8 83) fun t74=>zc t74 (za (fun K42=>gIf (s3.getD 0 undef) true (fl w13 t2 53 5 9 fun t78=>bt .eql 9 t78 (Value.string { data:=#[] }) fun t79=>K42 [t79] w13) (K42 [undef] w13)) (fun s43 _d44 w45=>
 zb (s3.getD 0 undef) (s43.getD 0 undef) fa_ fun t80=>K6 [t80] w45)) (bt .eql 5 t15 (Value.int .u8 78) fun t82=>zc t82 (za (fun K46=>gIf (s3.getD 0 undef) true (fl w13 t2 53 8 3 fun t86=>bt .eql 3 t86 (i6 0) fun t87=>K46 [t87] w13) (K46 [undef] w13)) (fun s47 _d48 w49=>
 zb (s3.getD 0 undef) (s47.getD 0 undef) fa_ fun t88=>K6 [t88] w49)) (bt .eql 5 t15 (Value.int .u8 85) fun t90=>zc t90 (za (fun K50=>gIf (s3.getD 0 undef) true (fl w13 t2 53 9 3 fun t94=>bt .eql 3 t94 (i6 0) fun t95=>K50 [t95] w13) (K50 [undef] w13)) (fun s51 _d52 w53=>
 zb (s3.getD 0 undef) (s51.getD 0 undef) fa_ fun t96=>K6 [t96] w53)) (bt .eql 5 t15 (Value.int .u8 77) fun t98=>zc t98 (za (fun K54=>gIf (s3.getD 0 undef) true (fl w13 t2 53 7 4 fun t102=>pp (Op.unary .not t102) fun t103=>K54 [t103] w13) (K54 [undef] w13)) (fun s55 _d56 w57=>
 zb (s3.getD 0 undef) (s55.getD 0 undef) fa_ fun t104=>K6 [t104] w57)) (bt .eql 5 t15 (Value.int .u8 69) fun t106=>zc t106 (za (fun K58=>gIf (s3.getD 0 undef) true (fl w13 t2 53 11 3 fun t110=>bt .eql 3 t110 (i6 0) fun t111=>K58 [t111] w13) (K58 [undef] w13)) (fun s59 _d60 w61=>
 zb (s3.getD 0 undef) (s59.getD 0 undef) fa_ fun t112=>K6 [t112] w61)) (K6 [(s3.getD 0 undef)] w13)))))))))))))) (fun s7 _d8 w9=>
 bt .add 3 (s3.getD 1 undef) (i6 1) fun t13=>K2 [(s7.getD 0 undef),t13] w9)) (K (s3.getD 0 undef) w5))
theorem abn {t0 t1 : Value} {w : World} {K : VW} (h : XY t0 t1 w K) : ze prog zO #[t0,t1] w K:=
 okC false (.s (.r (rz 2 0 2)) (.s (.r (rz 1 0 0)) (.s (.s (.r (rz 1 0 0)) (.b (.lp [5,6] (.s (.s (.r (rz 2 0 0)) (.c (.n) (.n))) (.j [5] (.b (.s (.r (rz 3 0 0)) (.s (.r (rz 1 0 0)) (.s (.s (.r (rz 1 0 0)) (.b (.lp [8,9] (.s (.s (.r (rz 4 0 0)) (.c (.n) (.n))) (.s (.b (.r (ra 2 0 0 (.grp 23 false (ri 5 2 0) [28] (rz 2 7 0))))) (.r (rz 3 0 0))))))) (.s (.s (.r (rz 1 0 0)) (.c (.n) (.n))) (.s (.r (rz 1 0 0)) (.b (.s (.r (rz 2 0 0)) (.c (.r (ra 2 0 0 (.grp 35 true (ri 3 2 36) [38] (rz 2 5 0)))) (.s (.r (rz 2 0 0)) (.c (.r (ra 2 0 0 (.grp 43 true (ri 3 2 36) [46] (rz 2 5 0)))) (.s (.r (rz 2 0 0)) (.c (.r (ra 2 0 0 (.grp 51 true (ri 3 2 36) [54] (rz 2 5 0)))) (.s (.r (rz 2 0 0)) (.c (.r (ra 2 0 0 (.grp 59 true (ri 4 2 4) [63] (rz 2 6 0)))) (.s (.r (rz 2 0 0)) (.c (.r (ra 2 0 0 (.grp 68 true (ri 3 2 36) [71] (rz 2 5 0)))) (.s (.r (rz 2 0 0)) (.c (.r (ra 2 0 0 (.grp 76 true (ri 3 2 4) [79] (rz 2 5 0)))) (.s (.r (rz 2 0 0)) (.c (.r (ra 2 0 0 (.grp 84 true (ri 3 2 4) [87] (rz 2 5 0)))) (.s (.r (rz 2 0 0)) (.c (.r (ra 2 0 0 (.grp 92 true (ri 3 2 4) [95] (rz 2 5 0)))) (.s (.r (rz 2 0 0)) (.c (.r (ra 2 0 0 (.grp 100 true (ri 3 2 4) [103] (rz 2 5 0)))) (.s (.r (rz 2 0 0)) (.c (.r (ra 2 0 0 (.grp 108 true (ri 3 2 4) [111] (rz 2 5 0)))) (.n)))))))))))))))))))))))))))) (.r (rz 3 0 0))))))) (.s (.r (rz 2 0 0)) (.n))))) func84 rfl (by kernel_rfl) (by kernel_rfl) h
def Xt (t0 t1 : Value) (w : World) (K : VW) : Prop:=
 pw w (Instr.box 31 t0) fun t2 w1=>
 pw w1 (Instr.box 31 t1) fun t3 w2=>
 fl w2 t2 31 0 28 fun t6=>fl w2 t3 31 0 28 fun t8=>bf .neq 28 t6 t8 fun t9=>za (fun K3=>gIf t9 false (fl w2 t2 31 1 4 fun t12=>fl w2 t3 31 1 4 fun t14=>bf .neq 4 t12 t14 fun t15=>K3 [t15] w2) (K3 [undef] w2)) (fun s4 _d5 w6=>
 zb t9 tr_ (s4.getD 0 undef) fun t16=>za (fun K7=>gIf t16 false (fl w6 t2 31 3 3 fun t19=>fl w6 t3 31 3 3 fun t21=>bf .neq 3 t19 t21 fun t22=>K7 [t22] w6) (K7 [undef] w6)) (fun s8 _d9 w10=>
 zb t16 tr_ (s8.getD 0 undef) fun t23=>za (fun K11=>gIf t23 false (fl w10 t2 31 4 29 fun t26=>pp (Builtin.len_ #[29] 3 #[t26]) fun t27=>fl w10 t3 31 4 29 fun t29=>pp (Builtin.len_ #[29] 3 #[t29]) fun t30=>bf .neq 3 t27 t30 fun t31=>K11 [t31] w10) (K11 [undef] w10)) (fun s12 _d13 w14=>
 zb t23 tr_ (s12.getD 0 undef) fun t32=>zc t32 (K fa_ w14) (fl w14.drew t2 31 4 29 fun t34=>pp (Builtin.len_ #[29] 3 #[t34]) fun t35=>bt .eql 3 t35 (i6 0) fun t36=>za (fun K15=>gIf t36 false (fl w14.drew t2 31 4 29 fun t39=>xl w14.drew 29 t39 (i6 0) 31 fun t41=>fl w14.drew t3 31 4 29 fun t43=>xl w14.drew 29 t43 (i6 0) 31 fun t45=>ca yA #[t41,t45] w14.drew fun t46 w19=>
 K15 [t46] w19) (K15 [undef] w14.drew)) (fun s16 _d17 w18=>
 zb t36 tr_ (s16.getD 0 undef) fun t47=>K t47 w18)))))
theorem aao {t0 t1 : Value} {w : World} {K : VW} (h : Xt t0 t1 w K) : ze prog yA #[t0,t1] w K:=
 okC false (.s (.r (rz 3 0 10)) (.s (.s (.r (ra 6 0 68 (.grp 10 false (ri 5 6 68) [15] (ra 2 11 0 (.grp 17 false (ri 5 13 68) [22] (ra 2 18 0 (.grp 24 false (ri 7 20 260) [31] (rz 1 27 0)))))))) (.c (.s (.r (rz 1 0 0)) (.n)) (.n))) (.s (.r (ra 5 0 4 (.grp 37 false (ri 9 5 148548) [46] (rz 2 14 0)))) (.n)))) func85 rfl (by kernel_rfl) (by kernel_rfl) h
def XZ (t0 : Value) (w : World) (K : VW) : Prop:=
 bt .eql 9 t0 (Value.string { data:=#[43] }) fun t4=>za (fun K1=>gIf t4 false (bt .eql 9 t0 (Value.string { data:=#[45] }) fun t7=>K1 [t7] w) (K1 [undef] w)) (fun s2 _d3 w4=>
 zb t4 tr_ (s2.getD 0 undef) fun t8=>za (fun K5=>gIf t8 false (bt .eql 9 t0 (Value.string { data:=#[42] }) fun t11=>K5 [t11] w4) (K5 [undef] w4)) (fun s6 _d7 w8=>
 zb t8 tr_ (s6.getD 0 undef) fun t12=>za (fun K9=>gIf t12 false (bt .eql 9 t0 (Value.string { data:=#[47] }) fun t15=>K9 [t15] w8) (K9 [undef] w8)) (fun s10 _d11 w12=>
 zb t12 tr_ (s10.getD 0 undef) fun t16=>za (fun K13=>gIf t16 false (bt .eql 9 t0 (Value.string { data:=#[37] }) fun t19=>K13 [t19] w12) (K13 [undef] w12)) (fun s14 _d15 w16=>
 zb t16 tr_ (s14.getD 0 undef) fun t20=>K t20 w16))))
theorem abo {t0 : Value} {w : World} {K : VW} (h : XZ t0 w K) : ze prog Zr #[t0] w K:=
 okC false (.s (.r (rz 1 0 0)) (.s (.r (ra 3 0 0 (.grp 5 false (ri 2 3 0) [7] (ra 2 5 0 (.grp 9 false (ri 2 7 0) [11] (ra 2 9 0 (.grp 13 false (ri 2 11 0) [15] (ra 2 13 0 (.grp 17 false (ri 2 15 0) [19] (rz 2 17 0)))))))))) (.n))) func86 rfl (by kernel_rfl) (by kernel_rfl) h
def Vp (t0 t1 : Value) (w : World) (K : VW) : Prop:=
 pw w (Instr.box 31 t0) fun t2 w1=>
 fl w1 t2 31 0 28 fun t6=>bf .eql 28 t6 t1 fun t8=>K t8 w1
theorem ac8 {t0 t1 : Value} {w : World} {K : VW} (h : Vp t0 t1 w K) : ze prog zL #[t0,t1] w K:=
 okC false (.s (.r (rz 2 0 2)) (.s (.r (rz 5 0 4)) (.n))) func87 rfl (by kernel_rfl) (by kernel_rfl) h
def YH (t0 : Value) (w : World) (K : VW) : Prop:=
 bt .eql 9 t0 (Value.string { data:=#[61,61] }) fun t4=>za (fun K1=>gIf t4 false (bt .eql 9 t0 (Value.string { data:=#[33,61] }) fun t7=>K1 [t7] w) (K1 [undef] w)) (fun s2 _d3 w4=>
 zb t4 tr_ (s2.getD 0 undef) fun t8=>za (fun K5=>gIf t8 false (bt .eql 9 t0 (Value.string { data:=#[60] }) fun t11=>K5 [t11] w4) (K5 [undef] w4)) (fun s6 _d7 w8=>
 zb t8 tr_ (s6.getD 0 undef) fun t12=>za (fun K9=>gIf t12 false (bt .eql 9 t0 (Value.string { data:=#[60,61] }) fun t15=>K9 [t15] w8) (K9 [undef] w8)) (fun s10 _d11 w12=>
 zb t12 tr_ (s10.getD 0 undef) fun t16=>za (fun K13=>gIf t16 false (bt .eql 9 t0 (Value.string { data:=#[62] }) fun t19=>K13 [t19] w12) (K13 [undef] w12)) (fun s14 _d15 w16=>
 zb t16 tr_ (s14.getD 0 undef) fun t20=>za (fun K17=>gIf t20 false (bt .eql 9 t0 (Value.string { data:=#[62,61] }) fun t23=>K17 [t23] w16) (K17 [undef] w16)) (fun s18 _d19 w20=>
 zb t20 tr_ (s18.getD 0 undef) fun t24=>K t24 w20)))))
theorem Vq {t0 : Value} {w : World} {K : VW} (h : YH t0 w K) : ze prog jO #[t0] w K:=
 okC false (.s (.r (rz 1 0 0)) (.s (.r (ra 3 0 0 (.grp 5 false (ri 2 3 0) [7] (ra 2 5 0 (.grp 9 false (ri 2 7 0) [11] (ra 2 9 0 (.grp 13 false (ri 2 11 0) [15] (ra 2 13 0 (.grp 17 false (ri 2 15 0) [19] (ra 2 17 0 (.grp 21 false (ri 2 19 0) [23] (rz 2 21 0)))))))))))) (.n))) func88 rfl (by kernel_rfl) (by kernel_rfl) h
def X0 (t0 : Value) (w : World) (K : VW) : Prop:=
 zt [(i6 0),(i6 0)] w (fun s2 _d3 w4 K1=>
 pp (Builtin.len_ #[39] 3 #[t0]) fun t7=>bf .lss 3 (s2.getD 1 undef) t7 fun t8=>zc t8 (za (fun K5=>
 xl w4 39 t0 (s2.getD 1 undef) 3 fun t14=>bf .gtr 3 t14 (s2.getD 0 undef) fun t16=>zc t16 (xl w4 39 t0 (s2.getD 1 undef) 3 fun t20=>K5 [t20] w4) (K5 [(s2.getD 0 undef)] w4)) (fun s6 _d7 w8=>
 bt .add 3 (s2.getD 1 undef) (i6 1) fun t10=>K1 [(s6.getD 0 undef),t10] w8)) (K (s2.getD 0 undef) w4))
theorem abp {t0 : Value} {w : World} {K : VW} (h : X0 t0 w K) : ze prog xH #[t0] w K:=
 okC false (.s (.r (rz 1 0 0)) (.s (.r (rz 1 0 0)) (.s (.s (.r (rz 1 0 0)) (.b (.lp [3,4] (.s (.s (.r (rz 4 0 0)) (.c (.n) (.n))) (.j [3] (.b (.s (.r (rz 6 0 64)) (.c (.r (rz 5 0 64)) (.n)))) (.r (rz 3 0 0))))))) (.s (.r (rz 2 0 0)) (.n))))) func89 rfl (by kernel_rfl) (by kernel_rfl) h
def vc (t0 t1 t2 : Value) (w : World) (K : VW) : Prop:=
 pp (Builtin.len_ #[51] 3 #[t1]) fun t11=>pp (Builtin.len_ #[29] 3 #[t2]) fun t13=>bf .neq 3 t11 t13 fun t14=>zc t14 (K fa_ w) (zt [(i6 0)] w (fun s2 _d3 w4 K1=>
 pp (Builtin.len_ #[51] 3 #[t1]) fun t17=>bf .lss 3 (s2.getD 0 undef) t17 fun t18=>zc t18 (xl w4 51 t1 (s2.getD 0 undef) 50 fun t26=>ca yD #[t0,t26] w4 fun t27 w5=>
 pe t27 0 fun t28=>pe t27 1 fun t29=>pw w5 (Instr.alloc 31 true (.tuple #[])) fun t8 w6=>
 so w6 31 t8 t28 fun w7=>pp (Op.unary .not t29) fun t31=>za (fun K8=>gIf t31 false (lo w7.drew 31 t8 fun t33=>xl w7.drew 29 t2 (s2.getD 0 undef) 31 fun t37=>ca yA #[t33,t37] w7.drew fun t38 w12=>
 pp (Op.unary .not t38) fun t39=>K8 [t39] w12) (K8 [undef] w7.drew)) (fun s9 _d10 w11=>
 zb t31 tr_ (s9.getD 0 undef) fun t40=>zc t40 (K fa_ w11) (bt .add 3 (s2.getD 0 undef) (i6 1) fun t20=>K1 [t20] w11))) (K tr_ w4)))
theorem XM {t0 t1 t2 : Value} {w : World} {K : VW} (h : vc t0 t1 t2 w K) : ze prog xt #[t0,t1,t2] w K:=
 okC false (.s (.r (rz 1 0 0)) (.s (.s (.r (rz 5 0 0)) (.c (.s (.r (rz 1 0 0)) (.n)) (.n))) (.s (.s (.r (rz 1 0 0)) (.b (.lp [7] (.s (.s (.r (rz 4 0 0)) (.c (.n) (.n))) (.s (.b (.s (.r (rz 12 0 2623744)) (.s (.r (ra 3 0 0 (.grp 32 false (ri 7 3 2305) [39] (rz 1 10 0)))) (.c (.s (.r (rz 1 0 0)) (.n)) (.n))))) (.r (rz 3 0 0))))))) (.s (.r (rz 1 0 0)) (.n))))) func91 rfl (by kernel_rfl) (by kernel_rfl) h
def vO (t0 : Value) (w : World) (K : VW) : Prop:=
 pw w (Instr.box 47 t0) fun t1 w1=>
 fl w1 t1 47 0 3 fun t4=>bt .eql 3 t4 (i6 0) fun t5=>za (fun K2=>gIf t5 true (fl w1 t1 47 1 45 fun t8=>pp (Builtin.len_ #[45] 3 #[t8]) fun t9=>bt .eql 3 t9 (i6 0) fun t10=>K2 [t10] w1) (K2 [undef] w1)) (fun s3 _d4 w5=>
 zb t5 (s3.getD 0 undef) fa_ fun t11=>K t11 w5)
theorem X1 {t0 : Value} {w : World} {K : VW} (h : vO t0 w K) : ze prog yp #[t0] w K:=
 okC false (.s (.r (rz 2 0 2)) (.s (.r (ra 4 0 4 (.grp 6 true (ri 4 4 4) [10] (rz 2 8 0)))) (.n))) func97 rfl (by kernel_rfl) (by kernel_rfl) h
def jy (t0 : Value) (w : World) (K : VW) : Prop:=
 pw w (Instr.box 50 t0) fun t1 w1=>
 fl w1 t1 50 0 48 fun t4=>bt .eql 48 t4 (Value.int .u8 0) fun t5=>za (fun K2=>gIf t5 true (fl w1 t1 50 1 2 fun t8=>bt .eql 2 t8 (i6 0) fun t9=>K2 [t9] w1) (K2 [undef] w1)) (fun s3 _d4 w5=>
 zb t5 (s3.getD 0 undef) fa_ fun t10=>za (fun K6=>gIf t10 true (fl w5 t1 50 2 47 fun t13=>ca yp #[t13] w5 fun t14 w10=>
 K6 [t14] w10) (K6 [undef] w5)) (fun s7 _d8 w9=>
 zb t10 (s7.getD 0 undef) fa_ fun t15=>K t15 w9))
theorem Y9 {t0 : Value} {w : World} {K : VW} (h : jy t0 w K) : ze prog xm #[t0] w K:=
 okC false (.s (.r (rz 2 0 2)) (.s (.r (ra 4 0 4 (.grp 6 true (ri 3 4 4) [9] (ra 2 7 0 (.grp 11 true (ri 3 9 36) [14] (rz 2 12 0)))))) (.n))) func99 rfl (by kernel_rfl) (by kernel_rfl) h
def Vr (t0 t1 t2 : Value) (w : World) (K : VW) : Prop:=
 pw w (Instr.box 25 t0) fun t3 w1=>
 pw w1 (Instr.alloc 41 true (.tuple #[])) fun t6 w2=>
 lo w2 25 t3 fun t9=>ca vY #[t9,t1,t2] w2 fun t12 w3=>
 pp (Op.unary .not t12) fun t13=>zc t13 (pp (Instr.build 41 #[]) fun t14=>so w3 41 t6 t14 fun w4=>pq w4 (zf 41 t6) fun r5=>K (.tuple #[r5,(i6 2)]) w4) (lo w3 25 t3 fun t15=>ca Yr #[t15,t1] w3 fun t17 w6=>
 pw w6 (Instr.alloc 41 true (.tuple #[])) fun t8 w7=>
 so w7 41 t8 t17 fun w8=>fl w8 t8 41 2 3 fun t19=>bt .gtr 3 t19 (i6 512) fun t20=>zc t20 (pp (Instr.build 41 #[]) fun t21=>so w8 41 t6 t21 fun w9=>pq w9 (zf 41 t6) fun r10=>K (.tuple #[r10,(i6 5)]) w9) (lo w8 41 t8 fun t22=>so w8 41 t6 t22 fun w11=>pq w11 (zf 41 t6) fun r12=>K (.tuple #[r12,(i6 0)]) w11))
theorem ac9 {t0 t1 t2 : Value} {w : World} {K : VW} (h : Vr t0 t1 t2 w K) : ze prog Y7 #[t0,t1,t2] w K:=
 okC false (.s (.r (rz 3 0 10)) (.s (.s (.r (rz 5 0 129)) (.c (.s (.r (rz 3 0 8)) (.n)) (.n))) (.s (.r (rz 5 0 673)) (.s (.s (.r (rz 3 0 4)) (.c (.s (.r (rz 3 0 8)) (.n)) (.n))) (.s (.r (rz 3 0 9)) (.n)))))) func10 rfl (by kernel_rfl) (by kernel_rfl) h
def Zv (t0 t1 t2 t3 : Value) (w : World) (K : VW) : Prop:=
 pw w (Instr.box 25 t0) fun t4 w1=>
 pw w1 (Instr.box 41 t3) fun t7 w2=>
 pw w2 (Instr.alloc 31 true (.tuple #[])) fun t8 w3=>
 fl w3 t4 25 1 23 fun t14=>px 23 t14 t1 fun t16=>fl w3 t16 58 6 56 fun t18=>xl w3 56 t18 t2 53 fun t21=>pw w3 (Instr.alloc 53 true (.tuple #[])) fun t9 w4=>
 so w4 53 t9 t21 fun w5=>lo w5 25 t4 fun t23=>lo w5 41 t7 fun t24=>fl w5 t9 53 6 47 fun t26=>ca Zs #[t23,t24,t26] w5 fun t27 w6=>
 pe t27 0 fun t28=>pe t27 1 fun _t29=>pe t27 2 fun _t30=>pw w6 (Instr.alloc 31 true (.tuple #[])) fun t10 w7=>
 so w7 31 t10 t28 fun w8=>fl w8.drew t9 53 7 4 fun t32=>fl w8.drew t7 41 4 39 fun t34=>xl w8.drew 39 t34 t2 3 fun t37=>lo w8.drew 31 t10 fun t38=>pw w8.drew (Instr.buildSlice 29 1 #[(0,t38)]) fun t39 w9=>
 Ext w8.drew w9∧
 pp (Instr.build 31 #[(0,(Value.int .u8 4)),(1,t32),(2,t37),(4,t39)]) fun t40=>so w9 31 t8 t40 fun w10=>pq w10 (zf 31 t8) fun r11=>K r11 w10
theorem QY {t0 t1 t2 t3 : Value} {w : World} {K : VW} (h : Zv t0 t1 t2 t3 w K) : ze prog qF #[t0,t1,t2,t3] w K:=
 okC false (.s (.r (rz 3 0 42)) (.s (.r (rz 11 0 2688004)) (.s (.r (rz 13 0 2622021)) (.s (.r (rz 11 0 2314308)) (.n))))) func11 rfl (by kernel_rfl) (by kernel_rfl) h
def YI (t0 t1 t2 t3 : Value) (w : World) (K : VW) : Prop:=
 pw w (Instr.box 25 t0) fun t4 w1=>
 pw w1 (Instr.box 41 t3) fun t7 w2=>
 pw w2 (Instr.alloc 31 true (.tuple #[])) fun t9 w3=>
 fl w3.drew t4 25 1 23 fun t14=>fl w3.drew t4 25 1 23 fun t16=>px 23 t16 t1 fun t18=>fl w3.drew t18 58 6 56 fun t20=>px 56 t20 t2 fun t22=>fl w3.drew t22 53 8 3 fun t24=>xl w3.drew 23 t14 t24 58 fun t26=>pw w3.drew (Instr.alloc 58 true (.tuple #[])) fun t10 w4=>
 Ext w3.drew w4∧
 so w4 58 t10 t26 fun w5=>zt [(Value.slice Option.none 0 0),(i6 1)] w5 (fun s7 _d8 w9 K6=>
 fl w9 t10 58 3 3 fun t29=>bf .leq 3 (s7.getD 1 undef) t29 fun t30=>zc t30 (fl w9.drew t10 58 4 29 fun t35=>xl w9.drew 29 t35 (s7.getD 1 undef) 31 fun t38=>fl w9.drew t7 41 4 39 fun t40=>xl w9.drew 39 t40 t2 3 fun t43=>ca x6 #[t38,t43] w9.drew fun t44 w10=>
 pw w10 (Instr.buildSlice 29 1 #[(0,t44)]) fun t45 w11=>
 pw w11 (Builtin.append_ #[29,29] 29 #[(s7.getD 0 undef),t45]) fun t46 w12=>
 bt .add 3 (s7.getD 1 undef) (i6 1) fun t32=>K6 [t46,t32] w12) (fl w9.drew t10 58 4 29 fun t49=>xl w9.drew 29 t49 (i6 0) 31 fun t51=>fl w9.drew t7 41 4 39 fun t53=>xl w9.drew 39 t53 t2 3 fun t56=>ca x6 #[t51,t56] w9.drew fun t57 w13=>
 so w13 31 t9 t57 fun w14=>pq w14 (zf 31 t9) fun r15=>K (.tuple #[(s7.getD 0 undef),r15]) w14))
theorem Vs {t0 t1 t2 t3 : Value} {w : World} {K : VW} (h : YI t0 t1 t2 t3 w K) : ze prog jP #[t0,t1,t2,t3] w K:=
 okC false (.s (.r (rz 4 0 138)) (.s (.r (rz 16 0 3024109636)) (.s (.r (rz 1 0 0)) (.s (.s (.r (rz 1 0 0)) (.b (.lp [11,12] (.s (.s (.r (rz 4 0 16)) (.c (.n) (.n))) (.s (.b (.r (rz 15 0 177226768))) (.r (rz 3 0 0))))))) (.s (.r (rz 13 0 35918096)) (.n)))))) func12 rfl (by kernel_rfl) (by kernel_rfl) h
def Jf (t0 t1 : Value) (w : World) (K : VW) : Prop:=
 pw w (Instr.box 25 t0) fun t2 w1=>
 pw w1 (Instr.alloc 41 true (.tuple #[])) fun t4 w2=>
 fl w2 t2 25 1 23 fun t13=>xl w2 23 t13 t1 58 fun t16=>pw w2 (Instr.alloc 58 true (.tuple #[])) fun t5 w3=>
 so w3 58 t5 t16 fun w4=>fl w4 t5 58 1 3 fun t18=>fl w4 t5 58 6 56 fun t20=>pp (Builtin.len_ #[56] 3 #[t20]) fun t21=>pp (Instr.build 41 #[(0,t18),(1,t21)]) fun t22=>pw w4 (Instr.alloc 41 true (.tuple #[])) fun t6 w5=>
 so w5 41 t6 t22 fun w6=>fl w6 t5 58 1 3 fun t24=>zt [t24,(i6 0)] w6 (fun s8 _d9 w10 K7=>
 fl w10 t5 58 4 29 fun t27=>pp (Builtin.len_ #[29] 3 #[t27]) fun t28=>bf .lss 3 (s8.getD 1 undef) t28 fun t29=>zc t29 (pw w10 (Instr.alloc 31 true (.tuple #[])) fun t9 w11=>
 fl w11 t5 58 4 29 fun t34=>xl w11 29 t34 (s8.getD 1 undef) 31 fun t37=>ca xS #[t37,(s8.getD 0 undef)] w11 fun t39 w12=>
 pe t39 0 fun t40=>pe t39 1 fun t41=>so w12 31 t9 t40 fun w13=>fl w13 t6 41 3 29 fun t43=>lo w13 31 t9 fun t44=>pw w13 (Instr.buildSlice 29 1 #[(0,t44)]) fun t45 w14=>
 pw w14 (Builtin.append_ #[29,29] 29 #[t43,t45]) fun t46 w15=>
 pf 41 t6 3 fun t47=>so w15 29 t47 t46 fun w16=>bt .add 3 (s8.getD 1 undef) (i6 1) fun t31=>K7 [t41,t31] w16) (zt [(s8.getD 0 undef),(i6 0)] w10 (fun s18 _d19 w20 K17=>
 fl w20 t5 58 6 56 fun t50=>pp (Builtin.len_ #[56] 3 #[t50]) fun t51=>bf .lss 3 (s18.getD 1 undef) t51 fun t52=>zc t52 (za (fun K21=>
 fl w20 t5 58 6 56 fun t56=>px 56 t56 (s18.getD 1 undef) fun t58=>fl w20 t58 53 0 44 fun t60=>bt .eql 44 t60 (Value.int .u8 4) fun t61=>zc t61 (K21 [(i6 1)] w20) (K21 [(i6 0)] w20)) (fun s22 _d23 w24=>
 za (fun K25=>
 fl w24 t5 58 6 56 fun t63=>px 56 t63 (s18.getD 1 undef) fun t65=>fl w24 t65 53 0 44 fun t67=>bt .eql 44 t67 (Value.int .u8 7) fun t68=>zc t68 (fl w24.drew t2 25 1 23 fun t70=>fl w24.drew t5 58 6 56 fun t72=>px 56 t72 (s18.getD 1 undef) fun t74=>fl w24.drew t74 53 8 3 fun t76=>px 23 t70 t76 fun t77=>fl w24.drew t77 58 1 3 fun t79=>K25 [t79] w24.drew) (K25 [(s22.getD 0 undef)] w24)) (fun s26 _d27 w28=>
 za (fun K29=>
 bt .eql 3 (s26.getD 0 undef) (i6 0) fun t81=>zc t81 (fl w28 t6 41 4 39 fun t83=>pw w28 (Instr.buildSlice 39 1 #[(0,(i6 (-1)))]) fun t84 w33=>
 pw w33 (Builtin.append_ #[39,39] 39 #[t83,t84]) fun t85 w34=>
 pf 41 t6 4 fun t86=>so w34 39 t86 t85 fun w35=>K29 [] w35) (fl w28 t6 41 4 39 fun t88=>pw w28 (Instr.buildSlice 39 1 #[(0,(s18.getD 0 undef))]) fun t90 w36=>
 pw w36 (Builtin.append_ #[39,39] 39 #[t88,t90]) fun t91 w37=>
 pf 41 t6 4 fun t92=>so w37 39 t92 t91 fun w38=>K29 [] w38)) (fun _s30 _d31 w32=>
 bf .add 3 (s18.getD 0 undef) (s26.getD 0 undef) fun t95=>bt .add 3 (s18.getD 1 undef) (i6 1) fun t54=>K17 [t95,t54] w32)))) (pf 41 t6 2 fun t97=>so w20 3 t97 (s18.getD 0 undef) fun w39=>lo w39 41 t6 fun t98=>so w39 41 t4 t98 fun w40=>pq w40 (zf 41 t4) fun r41=>K r41 w40))))
theorem ach {t0 t1 : Value} {w : World} {K : VW} (h : Jf t0 t1 w K) : ze prog Yr #[t0,t1] w K:=
 okC false (.s (.r (rz 2 0 10)) (.s (.r (rz 7 0 10500)) (.s (.r (rz 8 0 41028)) (.s (.r (rz 3 0 4)) (.s (.s (.r (rz 1 0 0)) (.b (.lp [7,8] (.s (.s (.r (rz 5 0 16)) (.c (.n) (.n))) (.s (.b (.s (.r (rz 1 0 2)) (.s (.r (rz 12 0 2105604)) (.r (rz 7 0 8852))))) (.r (rz 3 0 0))))))) (.s (.s (.r (rz 1 0 0)) (.b (.lp [7,10] (.s (.s (.r (rz 5 0 16)) (.c (.n) (.n))) (.s (.b (.s (.r (rz 1 0 0)) (.j [11] (.s (.r (rz 7 0 1028)) (.c (.r (rz 1 0 0)) (.n))) (.j [11] (.s (.r (rz 7 0 1028)) (.c (.r (rz 12 0 1065028)) (.n))) (.j [] (.s (.r (rz 2 0 0)) (.c (.r (rz 6 0 2212)) (.r (rz 7 0 8836)))) (.r (rz 4 0 0))))))) (.r (rz 3 0 0))))))) (.s (.r (rz 3 0 32)) (.s (.r (rz 2 0 9)) (.n))))))))) func25 rfl (by kernel_rfl) (by kernel_rfl) h
def X2 (t0 t1 t2 : Value) (w : World) (K : VW) : Prop:=
 pw w (Instr.box 25 t0) fun t3 w1=>
 pw w1 (Instr.box 41 t1) fun t4 w2=>
 pw w2 (Instr.box 47 t2) fun t5 w3=>
 pw w3 (Instr.alloc 31 true (.tuple #[])) fun t6 w4=>
 fl w4 t3 25 0 22 fun t10=>fl w4 t4 41 3 29 fun t12=>lo w4 47 t5 fun t13=>ca jh #[t10,t12,t13] w4 fun t14 w5=>
 pe t14 0 fun t15=>pe t14 1 fun t16=>pe t14 2 fun t17=>so w5 31 t6 t15 fun w6=>pq w6 (zf 31 t6) fun r7=>K (.tuple #[r7,t16,t17]) w6
theorem abq {t0 t1 t2 : Value} {w : World} {K : VW} (h : X2 t0 t1 t2 w K) : ze prog Zs #[t0,t1,t2] w K:=
 okC false (.s (.r (rz 6 0 170)) (.s (.r (rz 12 0 526660)) (.n))) func26 rfl (by kernel_rfl) (by kernel_rfl) h
def Xu (t0 t1 : Value) (w : World) (K : VW) : Prop:=
 pw w (Instr.box 31 t0) fun t2 w1=>
 pw w1 (Instr.alloc 31 true (.tuple #[])) fun t4 w2=>
 lo w2 31 t2 fun t6=>pw w2 (Instr.alloc 31 true (.tuple #[])) fun t5 w3=>
 so w3 31 t5 t6 fun w4=>pf 31 t5 4 fun t7=>so w4 29 t7 (Value.slice Option.none 0 0) fun w5=>za (fun K6=>
 fl w5 t2 31 0 28 fun t9=>bt .eql 28 t9 (Value.int .u8 4) fun t10=>zc t10 (fl w5 t2 31 2 3 fun t13=>bf .add 3 t1 t13 fun t14=>pf 31 t5 2 fun t15=>so w5 3 t15 t14 fun w10=>K6 [] w10) (K6 [] w5)) (fun _s7 _d8 w9=>
 za (fun K11=>
 fl w9 t2 31 4 29 fun t17=>pp (Builtin.len_ #[29] 3 #[t17]) fun t18=>bt .gtr 3 t18 (i6 0) fun t19=>zc t19 (fl w9 t2 31 4 29 fun t21=>xl w9 29 t21 (i6 0) 31 fun t23=>ca x6 #[t23,t1] w9 fun t25 w15=>
 pw w15 (Instr.buildSlice 29 1 #[(0,t25)]) fun t26 w16=>
 pf 31 t5 4 fun t27=>so w16 29 t27 t26 fun w17=>K11 [] w17) (K11 [] w9)) (fun _s12 _d13 w14=>
 lo w14 31 t5 fun t28=>so w14 31 t4 t28 fun w18=>pq w18 (zf 31 t4) fun r19=>K r19 w18))
theorem aap {t0 t1 : Value} {w : World} {K : VW} (h : Xu t0 t1 w K) : ze prog x6 #[t0,t1] w K:=
 okC false (.s (.r (rz 2 0 10)) (.s (.r (rz 3 0 41)) (.s (.r (rz 2 0 8)) (.j [] (.s (.r (rz 3 0 4)) (.c (.r (rz 6 0 2064)) (.n))) (.j [] (.s (.r (rz 4 0 4)) (.c (.r (rz 9 0 141380)) (.n))) (.s (.r (rz 2 0 9)) (.n))))))) func27 rfl (by kernel_rfl) (by kernel_rfl) h
def Zw (t0 t1 : Value) (w : World) (K : VW) : Prop:=
 pw w (Instr.box 31 t0) fun t2 w1=>
 pw w1 (Instr.alloc 31 true (.tuple #[])) fun t4 w2=>
 lo w2 31 t2 fun t8=>pw w2 (Instr.alloc 31 true (.tuple #[])) fun t6 w3=>
 so w3 31 t6 t8 fun w4=>pf 31 t6 4 fun t9=>so w4 29 t9 (Value.slice Option.none 0 0) fun w5=>za (fun K6=>
 fl w5 t2 31 0 28 fun t11=>bt .eql 28 t11 (Value.int .u8 4) fun t12=>za (fun K10=>gIf t12 true (fl w5 t2 31 2 3 fun t15=>bt .eql 3 t15 (i6 (-1)) fun t16=>K10 [t16] w5) (K10 [undef] w5)) (fun s11 _d12 w13=>
 zb t12 (s11.getD 0 undef) fa_ fun t17=>zc t17 (pf 31 t6 2 fun t19=>so w13 3 t19 t1 fun w14=>bt .add 3 t1 (i6 1) fun t21=>K6 [t21] w14) (K6 [t1] w13))) (fun s7 _d8 w9=>
 za (fun K15=>
 fl w9 t2 31 4 29 fun t23=>pp (Builtin.len_ #[29] 3 #[t23]) fun t24=>bt .gtr 3 t24 (i6 0) fun t25=>zc t25 (pw w9 (Instr.alloc 31 true (.tuple #[])) fun t7 w19=>
 fl w19 t2 31 4 29 fun t28=>xl w19 29 t28 (i6 0) 31 fun t30=>ca xS #[t30,(s7.getD 0 undef)] w19 fun t32 w20=>
 pe t32 0 fun t33=>pe t32 1 fun t34=>so w20 31 t7 t33 fun w21=>lo w21 31 t7 fun t35=>pw w21 (Instr.buildSlice 29 1 #[(0,t35)]) fun t36 w22=>
 pf 31 t6 4 fun t37=>so w22 29 t37 t36 fun w23=>K15 [t34] w23) (K15 [(s7.getD 0 undef)] w9)) (fun s16 _d17 w18=>
 lo w18 31 t6 fun t38=>so w18 31 t4 t38 fun w24=>pq w24 (zf 31 t4) fun r25=>K (.tuple #[r25,(s16.getD 0 undef)]) w24))
theorem QZ {t0 t1 : Value} {w : World} {K : VW} (h : Zw t0 t1 w K) : ze prog xS #[t0,t1] w K:=
 okC false (.s (.r (rz 3 0 10)) (.s (.r (rz 3 0 41)) (.s (.r (rz 2 0 8)) (.j [1] (.s (.r (ra 4 0 4 (.grp 13 true (ri 3 4 4) [16] (rz 1 7 0)))) (.c (.s (.r (rz 3 0 32)) (.r (rz 3 0 0))) (.n))) (.j [1] (.s (.r (rz 4 0 4)) (.c (.s (.r (rz 1 0 2)) (.s (.r (rz 11 0 526404)) (.r (rz 4 0 137)))) (.n))) (.s (.r (rz 4 0 33)) (.n))))))) func44 rfl (by kernel_rfl) (by kernel_rfl) h
end Go.Proofs.Tryz
end
section
namespace Go.Proofs.Tryz
open Go.Sh
set_option maxRecDepth 100000
def Jg (t0 : Value) (w : World) (K : VW) : Prop:=
 pw w (Instr.box 25 t0) fun t1 w1=>
 lo w1 25 t1 fun t7=>ca vy #[t7] w1 fun t8 w2=>
 pe t8 0 fun _t9=>pe t8 1 fun _t10=>pe t8 2 fun t11=>bt .eql 32 t11 (i6 0) fun t13=>K t13 w2
theorem aci {t0 : Value} {w : World} {K : VW} (h : Jg t0 w K) : ze prog Yn #[t0] w K:=
 okC false (.s (.r (rz 2 0 2)) (.s (.r (rz 9 0 9)) (.s (.r (rz 3 0 0)) (.n)))) func46 rfl (by kernel_rfl) (by kernel_rfl) h
def Xv (t0 : Value) (w : World) (K : VW) : Prop:=
 pw w (Instr.box 25 t0) fun t1 w1=>
 fl w1 t1 25 0 22 fun t15=>ca xr #[t15] w1 fun t16 w2=>
 pe t16 0 fun _t17=>pe t16 1 fun t18=>bt .neq 32 t18 (i6 0) fun t20=>za (fun K3=>gIf t20 false (fl w2 t1 25 1 23 fun t23=>pp (Builtin.len_ #[23] 3 #[t23]) fun t24=>bt .lss 3 t24 (i6 1) fun t25=>K3 [t25] w2) (K3 [undef] w2)) (fun s4 _d5 w6=>
 zb t20 tr_ (s4.getD 0 undef) fun t26=>za (fun K7=>gIf t26 false (fl w6 t1 25 1 23 fun t29=>pp (Builtin.len_ #[23] 3 #[t29]) fun t30=>bt .gtr 3 t30 (i6 32) fun t31=>K7 [t31] w6) (K7 [undef] w6)) (fun s8 _d9 w10=>
 zb t26 tr_ (s8.getD 0 undef) fun t32=>za (fun K11=>gIf t32 false (fl w10 t1 25 2 3 fun t35=>bt .lss 3 t35 (i6 0) fun t36=>K11 [t36] w10) (K11 [undef] w10)) (fun s12 _d13 w14=>
 zb t32 tr_ (s12.getD 0 undef) fun t37=>za (fun K15=>gIf t37 false (fl w14 t1 25 2 3 fun t40=>fl w14 t1 25 1 23 fun t42=>pp (Builtin.len_ #[23] 3 #[t42]) fun t43=>bf .geq 3 t40 t43 fun t44=>K15 [t44] w14) (K15 [undef] w14)) (fun s16 _d17 w18=>
 zb t37 tr_ (s16.getD 0 undef) fun t45=>zc t45 (K (.tuple #[(i6 (-1)),(i6 (-1)),(i6 100)]) w18) (fl w18 t1 25 1 23 fun t47=>pp (Builtin.len_ #[23] 3 #[t47]) fun t48=>zt [(i6 0),(i6 0),(i6 0)] w18 (fun s20 _d21 w22 K19=>
 bf .lss 3 (s20.getD 2 undef) t48 fun t50=>zc t50 (lo w22 25 t1 fun t52=>ca Zm #[t52,(s20.getD 2 undef)] w22 fun t54 w23=>
 pp (Op.unary .not t54) fun t55=>zc t55 (K (.tuple #[(s20.getD 2 undef),(i6 (-1)),(i6 100)]) w23) (bt .add 3 (s20.getD 2 undef) (i6 1) fun t57=>K19 [(s20.getD 2 undef),(s20.getD 1 undef),t57] w23)) (za (fun K24=>
 fl w22 t1 25 1 23 fun t59=>pp (Builtin.len_ #[23] 3 #[t59]) fun t60=>zt [(s20.getD 0 undef),(s20.getD 1 undef),fa_,(i6 0)] w22 (fun s29 _d30 w31 K28=>
 bf .lss 3 (s29.getD 3 undef) t60 fun t62=>zc t62 (xl w31 23 t59 (s29.getD 3 undef) 58 fun t65=>pw w31 (Instr.alloc 58 true (.tuple #[])) fun t9 w32=>
 so w32 58 t9 t65 fun w33=>lo w33 25 t1 fun t66=>lo w33 58 t9 fun t67=>pp (Instr.build 149 #[(0,t66),(1,t67)]) fun t68=>pw w33 (Instr.alloc 149 true (.tuple #[])) fun t10 w34=>
 so w34 149 t10 t68 fun w35=>fl w35 t9 58 6 56 fun t70=>pp (Builtin.len_ #[56] 3 #[t70]) fun t71=>zt [(s29.getD 0 undef),(s29.getD 1 undef),(s29.getD 2 undef),(i6 0)] w35 (fun s37 _d38 w39 K36=>
 bf .lss 3 (s37.getD 3 undef) t71 fun t73=>zc t73 (xl w39 56 t70 (s37.getD 3 undef) 53 fun t76=>pw w39 (Instr.alloc 53 true (.tuple #[])) fun t12 w40=>
 so w40 53 t12 t76 fun w41=>lo w41 149 t10 fun t77=>lo w41 53 t12 fun t78=>ca km #[t77,t78] w41 fun t79 w42=>
 pp (Op.unary .not t79) fun t80=>zc t80 (K24 [(s29.getD 3 undef),(s37.getD 3 undef),tr_] w42) (bt .add 3 (s37.getD 3 undef) (i6 1) fun t83=>K36 [(s37.getD 0 undef),(s37.getD 1 undef),(s37.getD 2 undef),t83] w42)) (bt .add 3 (s29.getD 3 undef) (i6 1) fun t84=>K28 [(s37.getD 0 undef),(s37.getD 1 undef),(s37.getD 2 undef),t84] w39))) (K24 [(s29.getD 0 undef),(s29.getD 1 undef),(s29.getD 2 undef)] w31))) (fun s25 _d26 w27=>
 zc (s25.getD 2 undef) (K (.tuple #[(s25.getD 0 undef),(s25.getD 1 undef),(i6 100)]) w27) (K (.tuple #[(i6 0),(i6 0),(i6 0)]) w27)))))))))
theorem aaq {t0 : Value} {w : World} {K : VW} (h : Xv t0 w K) : ze prog vy #[t0] w K:=
 okC false (.s (.r (rz 4 0 2)) (.b (.s (.s (.r (rz 8 0 36)) (.s (.r (ra 3 0 0 (.grp 21 false (ri 4 3 4) [25] (ra 2 7 0 (.grp 27 false (ri 4 9 4) [31] (ra 2 13 0 (.grp 33 false (ri 3 15 4) [36] (ra 2 18 0 (.grp 38 false (ri 6 20 68) [44] (rz 1 26 0)))))))))) (.c (.s (.r (rz 3 0 0)) (.n)) (.n)))) (.s (.s (.r (rz 4 0 4)) (.b (.lp [2,3,49] (.s (.r (rz 1 0 0)) (.s (.c (.n) (.n)) (.s (.b (.s (.r (rz 2 0 0)) (.s (.r (rz 4 0 33)) (.c (.s (.r (rz 4 0 0)) (.n)) (.n))))) (.r (rz 2 0 0)))))))) (.s (.r (rz 1 0 0)) (.s (.n) (.j [2,3,7] (.s (.r (rz 4 0 4)) (.b (.lp [2,3,7,61] (.s (.r (rz 1 0 0)) (.s (.c (.n) (.n)) (.s (.b (.s (.r (rz 6 0 2192)) (.s (.r (rz 5 0 645)) (.s (.r (rz 4 0 4)) (.b (.lp [2,3,7,72] (.s (.r (rz 1 0 0)) (.s (.c (.n) (.n)) (.s (.b (.s (.r (rz 6 0 2192)) (.s (.r (rz 4 0 37)) (.c (.s (.r (rz 5 0 0)) (.n)) (.n))))) (.r (rz 2 0 0))))))))))) (.r (rz 2 0 0)))))))) (.s (.s (.r (rz 1 0 0)) (.c (.s (.r (rz 5 0 0)) (.n)) (.n))) (.s (.r (rz 3 0 0)) (.n)))))))))) func64 rfl (by kernel_rfl) (by kernel_rfl) h
def ve (t0 t1 : Value) (w : World) (K : VW) : Prop:=
 pw w (Instr.box 149 t0) fun t2 w1=>
 pw w1 (Instr.box 47 t1) fun t3 w2=>
 pw w2 (Instr.alloc 156 true (.tuple #[])) fun t4 w3=>
 fl w3 t3 47 0 3 fun t11=>bt .lss 3 t11 (i6 0) fun t12=>za (fun K4=>gIf t12 false (fl w3 t3 47 0 3 fun t15=>pf 149 t2 1 fun t16=>fl w3 t16 58 4 29 fun t18=>pp (Builtin.len_ #[29] 3 #[t18]) fun t19=>bf .geq 3 t15 t19 fun t20=>K4 [t20] w3) (K4 [undef] w3)) (fun s5 _d6 w7=>
 zb t12 tr_ (s5.getD 0 undef) fun t21=>zc t21 (pp (Instr.build 156 #[]) fun t22=>so w7 156 t4 t22 fun w8=>pq w8 (zf 156 t4) fun r9=>K r9 w8) (pf 149 t2 1 fun t23=>fl w7.drew t23 58 4 29 fun t25=>fl w7.drew t3 47 0 3 fun t27=>xl w7.drew 29 t25 t27 31 fun t29=>fl w7.drew t3 47 1 45 fun t31=>pp (Builtin.len_ #[45] 3 #[t31]) fun t32=>bt .leq 3 t32 (i6 8) fun t33=>pp (Instr.build 156 #[(0,t29),(2,t33)]) fun t34=>pw w7.drew (Instr.alloc 156 true (.tuple #[])) fun t5 w10=>
 Ext w7.drew w10∧
 so w10 156 t5 t34 fun w11=>fl w11 t3 47 1 45 fun t36=>pp (Builtin.len_ #[45] 3 #[t36]) fun t37=>zt [(i6 0)] w11 (fun s13 _d14 w15 K12=>
 bf .lss 3 (s13.getD 0 undef) t37 fun t39=>zc t39 (za (fun K16=>
 xl w15 45 t36 (s13.getD 0 undef) 82 fun t41=>fl w15 t5 156 0 31 fun t43=>pw w15 (Instr.alloc 31 true (.tuple #[])) fun t8 w20=>
 so w20 31 t8 t43 fun w21=>bt .eql 82 t41 (i6 (-1)) fun t47=>za (fun K22=>gIf t47 true (fl w21 t8 31 0 28 fun t50=>bt .eql 28 t50 (Value.int .u8 3) fun t51=>K22 [t51] w21) (K22 [undef] w21)) (fun s23 _d24 w25=>
 zb t47 (s23.getD 0 undef) fa_ fun t52=>zc t52 (fl w25 t5 156 1 3 fun t54=>pp (Builtin.max_ #[3,3] 3 #[t54,(i6 1)]) fun t55=>pf 156 t5 1 fun t56=>so w25 3 t56 t55 fun w26=>fl w26 t8 31 4 29 fun t58=>xl w26 29 t58 (i6 0) 31 fun t60=>pf 156 t5 0 fun t61=>so w26 31 t61 t60 fun w27=>K16 [] w27) (bt .eql 82 t41 (i6 (-1)) fun t64=>za (fun K28=>gIf t64 true (fl w25 t8 31 0 28 fun t67=>bt .eql 28 t67 (Value.int .u8 4) fun t68=>K28 [t68] w25) (K28 [undef] w25)) (fun s29 _d30 w31=>
 zb t64 (s29.getD 0 undef) fa_ fun t69=>zc t69 (za (fun K32=>
 fl w31 t8 31 1 4 fun t71=>zc t71 (K32 [(i6 2)] w31) (K32 [(i6 3)] w31)) (fun s33 _d34 w35=>
 fl w35 t5 156 1 3 fun t73=>pp (Builtin.max_ #[3,3] 3 #[t73,(s33.getD 0 undef)]) fun t75=>pf 156 t5 1 fun t76=>so w35 3 t76 t75 fun w36=>fl w36 t8 31 4 29 fun t78=>xl w36 29 t78 (i6 0) 31 fun t80=>pf 156 t5 0 fun t81=>so w36 31 t81 t80 fun w37=>K16 [] w37)) (bt .geq 82 t41 (i6 0) fun t84=>za (fun K38=>gIf t84 true (fl w31 t8 31 0 28 fun t87=>bt .eql 28 t87 (Value.int .u8 5) fun t88=>K38 [t88] w31) (K38 [undef] w31)) (fun s39 _d40 w41=>
 zb t84 (s39.getD 0 undef) fa_ fun t89=>za (fun K42=>gIf t89 true (pf 149 t2 0 fun t92=>fl w41 t92 25 0 22 fun t94=>fl w41 t8 31 3 3 fun t96=>px 22 t94 t96 fun t97=>fl w41 t97 64 1 62 fun t99=>pp (Builtin.len_ #[62] 3 #[t99]) fun t100=>bf .lss 3 t41 t100 fun t101=>K42 [t101] w41) (K42 [undef] w41)) (fun s43 _d44 w45=>
 zb t89 (s43.getD 0 undef) fa_ fun t102=>zc t102 (pf 149 t2 0 fun t103=>fl w45 t103 25 0 22 fun t105=>fl w45 t8 31 3 3 fun t107=>px 22 t105 t107 fun t108=>fl w45 t108 64 1 62 fun t110=>px 62 t110 t41 fun t112=>fl w45 t112 105 1 31 fun t114=>pf 156 t5 0 fun t115=>so w45 31 t115 t114 fun w46=>K16 [] w46) (pp (Instr.build 156 #[]) fun t44=>so w45 156 t4 t44 fun w47=>pq w47 (zf 156 t4) fun r48=>K r48 w47)))))))) (fun _s17 _d18 w19=>
 bt .add 3 (s13.getD 0 undef) (i6 1) fun t116=>K12 [t116] w19)) (lo w15 156 t5 fun t117=>so w15 156 t4 t117 fun w49=>pq w49 (zf 156 t4) fun r50=>K r50 w49))))
theorem XN {t0 t1 : Value} {w : World} {K : VW} (h : ve t0 t1 w K) : ze prog zx #[t0,t1] w K:=
 okC false (.s (.r (rz 3 0 42)) (.s (.s (.r (ra 4 0 4 (.grp 13 false (ri 7 4 260) [20] (rz 1 11 0)))) (.c (.s (.r (rz 2 0 8)) (.n)) (.n))) (.s (.r (rz 14 0 184619280)) (.s (.s (.r (rz 4 0 4)) (.b (.lp [38] (.s (.r (rz 1 0 0)) (.s (.c (.n) (.n)) (.j [] (.b (.s (.r (rz 3 0 4)) (.s (.r (rz 4 0 164)) (.b (.s (.r (ra 3 0 0 (.grp 48 true (ri 3 3 4) [51] (rz 2 6 0)))) (.c (.s (.r (rz 5 0 516)) (.r (rz 6 0 2116))) (.s (.r (ra 3 0 0 (.grp 65 true (ri 3 3 4) [68] (rz 2 6 0)))) (.c (.s (.r (rz 1 0 0)) (.j [9] (.s (.r (rz 2 0 4)) (.c (.r (rz 1 0 0)) (.n))) (.s (.r (rz 6 0 2052)) (.r (rz 6 0 2116))))) (.s (.r (ra 3 0 0 (.grp 85 true (ri 3 3 4) [88] (ra 2 6 0 (.grp 90 true (ri 11 8 66624) [101] (rz 2 19 0)))))) (.c (.r (rz 14 0 138428688)) (.s (.r (rz 2 0 8)) (.n)))))))))))) (.r (rz 2 0 0)))))))) (.s (.r (rz 2 0 9)) (.n)))))) func106 rfl (by kernel_rfl) (by kernel_rfl) h
def X3 (t0 t1 : Value) (w : World) (K : VW) : Prop:=
 pw w (Instr.box 25 t0) fun t2 w1=>
 fl w1 t2 25 1 23 fun t13=>xl w1 23 t13 t1 58 fun t16=>pw w1 (Instr.alloc 58 true (.tuple #[])) fun t5 w2=>
 so w2 58 t5 t16 fun w3=>fl w3 t5 58 1 3 fun t18=>bt .lss 3 t18 (i6 0) fun t19=>za (fun K4=>gIf t19 false (fl w3 t5 58 1 3 fun t22=>bt .gtr 3 t22 (i6 8) fun t23=>K4 [t23] w3) (K4 [undef] w3)) (fun s5 _d6 w7=>
 zb t19 tr_ (s5.getD 0 undef) fun t24=>za (fun K8=>gIf t24 false (fl w7 t5 58 3 3 fun t27=>bt .lss 3 t27 (i6 0) fun t28=>K8 [t28] w7) (K8 [undef] w7)) (fun s9 _d10 w11=>
 zb t24 tr_ (s9.getD 0 undef) fun t29=>za (fun K12=>gIf t29 false (fl w11 t5 58 3 3 fun t32=>bt .gtr 3 t32 (i6 8) fun t33=>K12 [t33] w11) (K12 [undef] w11)) (fun s13 _d14 w15=>
 zb t29 tr_ (s13.getD 0 undef) fun t34=>za (fun K16=>gIf t34 false (fl w15 t5 58 4 29 fun t37=>pp (Builtin.len_ #[29] 3 #[t37]) fun t38=>fl w15 t5 58 3 3 fun t40=>bf .leq 3 t38 t40 fun t41=>K16 [t41] w15) (K16 [undef] w15)) (fun s17 _d18 w19=>
 zb t34 tr_ (s17.getD 0 undef) fun t42=>za (fun K20=>gIf t42 false (fl w19 t5 58 4 29 fun t45=>pp (Builtin.len_ #[29] 3 #[t45]) fun t46=>bt .gtr 3 t46 (i6 512) fun t47=>K20 [t47] w19) (K20 [undef] w19)) (fun s21 _d22 w23=>
 zb t42 tr_ (s21.getD 0 undef) fun t48=>za (fun K24=>gIf t48 false (fl w23 t5 58 5 55 fun t51=>pp (Builtin.len_ #[55] 3 #[t51]) fun t52=>fl w23 t5 58 4 29 fun t54=>pp (Builtin.len_ #[29] 3 #[t54]) fun t55=>bf .neq 3 t52 t55 fun t56=>K24 [t56] w23) (K24 [undef] w23)) (fun s25 _d26 w27=>
 zb t48 tr_ (s25.getD 0 undef) fun t57=>zc t57 (K fa_ w27) (fl w27 t5 58 4 29 fun t59=>pp (Builtin.len_ #[29] 3 #[t59]) fun t60=>zt [(i6 0)] w27 (fun s29 _d30 w31 K28=>
 bf .lss 3 (s29.getD 0 undef) t60 fun t62=>zc t62 (xl w31 29 t59 (s29.getD 0 undef) 31 fun t65=>pw w31 (Instr.alloc 31 true (.tuple #[])) fun t7 w32=>
 so w32 31 t7 t65 fun w33=>fl w33 t2 25 0 22 fun t67=>lo w33 31 t7 fun t68=>ca kg #[t67,t68] w33 fun t69 w34=>
 pp (Op.unary .not t69) fun t70=>zc t70 (K fa_ w34) (pw w34 (Instr.alloc 3 true (.tuple #[])) fun t8 w35=>
 so w35 3 t8 (i6 (-1)) fun w36=>za (fun K37=>
 fl w36 t5 58 3 3 fun t73=>bf .leq 3 (s29.getD 0 undef) t73 fun t74=>zc t74 (so w36 3 t8 (i6 0) fun w41=>K37 [] w41) (K37 [] w36)) (fun _s38 _d39 w40=>
 lo w40 31 t7 fun t75=>ca yI #[t75] w40 fun t76 w42=>
 pp (Instr.makeFunc (.func 103) #[] #[t8,t5]) fun t77=>ca zP #[t76,t77] w42 fun t78 w43=>
 zc t78 (K fa_ w43) (bt .add 3 (s29.getD 0 undef) (i6 1) fun t79=>K28 [t79] w43)))) (fl w31 t5 58 6 56 fun t81=>pp (Builtin.len_ #[56] 3 #[t81]) fun t82=>bt .lss 3 t82 (i6 1) fun t83=>za (fun K44=>gIf t83 false (fl w31 t5 58 6 56 fun t86=>pp (Builtin.len_ #[56] 3 #[t86]) fun t87=>bt .gtr 3 t87 (i6 1024) fun t88=>K44 [t88] w31) (K44 [undef] w31)) (fun s45 _d46 w47=>
 zb t83 tr_ (s45.getD 0 undef) fun t89=>za (fun K48=>gIf t89 false (lo w47 58 t5 fun t91=>ca qD #[t91] w47 fun t92 w52=>
 pp (Op.unary .not t92) fun t93=>K48 [t93] w52) (K48 [undef] w47)) (fun s49 _d50 w51=>
 zb t89 tr_ (s49.getD 0 undef) fun t94=>zc t94 (K fa_ w51) (fl w51 t5 58 6 56 fun t96=>pp (Builtin.len_ #[56] 3 #[t96]) fun t97=>zt [(i6 0),(i6 0)] w51 (fun s54 _d55 w56 K53=>
 bf .lss 3 (s54.getD 1 undef) t97 fun t99=>zc t99 (za (fun K57=>
 xl w56 56 t96 (s54.getD 1 undef) 53 fun t101=>pw w56 (Instr.alloc 53 true (.tuple #[])) fun t11 w61=>
 so w61 53 t11 t101 fun w62=>fl w62 t11 53 0 44 fun t103=>bt .eql 44 t103 (Value.int .u8 4) fun t104=>zc t104 (bt .add 3 (s54.getD 0 undef) (i6 1) fun t106=>K57 [t106] w62) (K57 [(s54.getD 0 undef)] w62)) (fun s58 _d59 w60=>
 bt .add 3 (s54.getD 1 undef) (i6 1) fun t107=>K53 [(s58.getD 0 undef),t107] w60)) (bt .leq 3 (s54.getD 0 undef) (i6 256) fun t109=>za (fun K63=>gIf t109 true (fl w56 t2 25 2 3 fun t113=>bf .neq 3 t1 t113 fun t114=>K63 [t114] w56) (K63 [undef] w56)) (fun s64 _d65 w66=>
 za (fun K67=>gIf (s64.getD 0 undef) false (fl w66 t5 58 1 3 fun t117=>bt .eql 3 t117 (i6 0) fun t118=>K67 [t118] w66) (K67 [undef] w66)) (fun s68 _d69 w70=>
 za (fun K71=>gIf (s68.getD 0 undef) true (fl w70 t5 58 3 3 fun t121=>bt .eql 3 t121 (i6 0) fun t122=>K71 [t122] w70) (K71 [undef] w70)) (fun s72 _d73 w74=>
 za (fun K75=>gIf (s64.getD 0 undef) false (zb (s68.getD 0 undef) (s72.getD 0 undef) fa_ fun t123=>K75 [t123] w74) (K75 [undef] w74)) (fun s76 _d77 w78=>
 za (fun K79=>gIf (s76.getD 0 undef) true (fl w78 t5 58 4 29 fun t126=>px 29 t126 (i6 0) fun t127=>fl w78 t127 31 0 28 fun t129=>bt .eql 28 t129 (Value.int .u8 1) fun t130=>K79 [t130] w78) (K79 [undef] w78)) (fun s80 _d81 w82=>
 za (fun K83=>gIf (s64.getD 0 undef) false (zb (s76.getD 0 undef) (s80.getD 0 undef) fa_ fun t131=>K83 [t131] w82) (K83 [undef] w82)) (fun s84 _d85 w86=>
 za (fun K87=>gIf t109 true (zb (s64.getD 0 undef) tr_ (s84.getD 0 undef) fun t132=>K87 [t132] w86) (K87 [undef] w86)) (fun s88 _d89 w90=>
 zb t109 (s88.getD 0 undef) fa_ fun t133=>K t133 w90)))))))))))))))))))))
theorem abr {t0 t1 : Value} {w : World} {K : VW} (h : X3 t0 t1 w K) : ze prog Zm #[t0,t1] w K:=
 okC false (.s (.r (rz 2 0 2)) (.s (.r (rz 7 0 10500)) (.s (.s (.r (ra 4 0 4 (.grp 20 false (ri 3 4 4) [23] (ra 2 7 0 (.grp 25 false (ri 3 9 4) [28] (ra 2 12 0 (.grp 30 false (ri 3 14 4) [33] (ra 2 17 0 (.grp 35 false (ri 6 19 260) [41] (ra 2 25 0 (.grp 43 false (ri 4 27 4) [47] (ra 2 31 0 (.grp 49 false (ri 7 33 260) [56] (rz 1 40 0)))))))))))))) (.c (.s (.r (rz 1 0 0)) (.n)) (.n))) (.s (.s (.r (rz 4 0 4)) (.b (.lp [61] (.s (.r (rz 1 0 0)) (.s (.c (.n) (.n)) (.s (.b (.s (.r (rz 6 0 2192)) (.s (.s (.r (rz 5 0 148)) (.c (.s (.r (rz 1 0 0)) (.n)) (.n))) (.s (.r (rz 2 0 10)) (.j [] (.s (.r (rz 4 0 16)) (.c (.r (rz 1 0 2)) (.n))) (.s (.r (rz 4 0 137)) (.c (.s (.r (rz 1 0 0)) (.n)) (.n)))))))) (.r (rz 2 0 0)))))))) (.s (.s (.r (ra 5 0 4 (.grp 84 false (ri 4 5 4) [88] (ra 2 9 0 (.grp 90 false (ri 3 11 9) [93] (rz 1 14 0)))))) (.c (.s (.r (rz 1 0 0)) (.n)) (.n))) (.s (.r (rz 1 0 0)) (.s (.s (.r (rz 4 0 4)) (.b (.lp [9,98] (.s (.r (rz 1 0 0)) (.s (.c (.n) (.n)) (.j [9] (.b (.s (.r (rz 4 0 164)) (.s (.r (rz 3 0 4)) (.c (.r (rz 3 0 0)) (.n))))) (.r (rz 2 0 0)))))))) (.s (.r (ra 3 0 0 (.grp 110 true (ri 5 3 16) [115] (.grp 115 false (ri 4 8 4) [119] (.grp 119 true (ri 3 12 4) [122] (.grp 115 false (ri 2 15 0) [124] (.grp 124 true (ri 6 17 260) [130] (.grp 115 false (ri 1 23 0) [131] (.grp 110 true (ri 1 24 0) [132] (rz 2 25 0)))))))))) (.n))))))))) func93 rfl (by kernel_rfl) (by kernel_rfl) h
def jz (t0 t1 : Value) (w : World) (K : VW) : Prop:=
 pw w (Instr.box 149 t0) fun t2 w1=>
 pw w1 (Instr.box 53 t1) fun t3 w2=>
 pf 149 t2 1 fun t23=>fl w2 t23 58 6 56 fun t25=>pp (Builtin.len_ #[56] 3 #[t25]) fun t26=>pw w2 (Instr.alloc 3 true (.tuple #[])) fun t5 w3=>
 so w3 3 t5 t26 fun w4=>pp (Instr.makeFunc (.func 105) #[] #[t5]) fun t27=>fl w4 t3 53 12 3 fun t29=>bt .lss 3 t29 (i6 0) fun t30=>za (fun K5=>gIf t30 false (fl w4 t3 53 0 44 fun t33=>bt .neq 44 t33 (Value.int .u8 14) fun t34=>K5 [t34] w4) (K5 [undef] w4)) (fun s6 _d7 w8=>
 za (fun K9=>gIf (s6.getD 0 undef) true (fl w8 t3 53 10 3 fun t38=>cv t27 #[t38] w8 fun t39 w13=>
 pp (Op.unary .not t39) fun t40=>K9 [t40] w13) (K9 [undef] w8)) (fun s10 _d11 w12=>
 za (fun K14=>gIf t30 false (zb (s6.getD 0 undef) (s10.getD 0 undef) fa_ fun t41=>K14 [t41] w12) (K14 [undef] w12)) (fun s15 _d16 w17=>
 zb t30 tr_ (s15.getD 0 undef) fun t42=>za (fun K18=>gIf t42 false (fl w17 t3 53 0 44 fun t45=>bt .eql 44 t45 (Value.int .u8 14) fun t46=>K18 [t46] w17) (K18 [undef] w17)) (fun s19 _d20 w21=>
 za (fun K22=>gIf (s19.getD 0 undef) true (fl w21 t3 53 10 3 fun t49=>bt .neq 3 t49 (i6 0) fun t50=>K22 [t50] w21) (K22 [undef] w21)) (fun s23 _d24 w25=>
 za (fun K26=>gIf t42 false (zb (s19.getD 0 undef) (s23.getD 0 undef) fa_ fun t51=>K26 [t51] w25) (K26 [undef] w25)) (fun s27 _d28 w29=>
 zb t42 tr_ (s27.getD 0 undef) fun t52=>zc t52 (K fa_ w29) (za (fun K30=>
 lo w29.drew 149 t2 fun t53=>fl w29.drew t3 53 1 47 fun t55=>lo w29.drew 149 t2 fun t57=>fl w29.drew t3 53 6 47 fun t59=>((ca zx #[t53,t55] w29.drew fun t56 w34=>
 Ext w29.drew w34∧
 ((ca zx #[t57,t59] w34 fun t60 w35=>
 ((pw w35 (Instr.alloc 156 true (.tuple #[])) fun t7 w36=>
 Ext w35 w36∧
 pw w36 (Instr.alloc 156 true (.tuple #[])) fun t8 w37=>
 Ext w36 w37∧
 so w37 156 t7 t56 fun w38=>so w38 156 t8 t60 fun w39=>K30 [t7,t8] w39)∧
 (pw w35 (Instr.alloc 156 true (.tuple #[])) fun t8_41 w40=>
 Ext w35 w40∧
 pw w40 (Instr.alloc 156 true (.tuple #[])) fun t7_43 w42=>
 Ext w40 w42∧
 so w42 156 t7_43 t56 fun w44=>so w44 156 t8_41 t60 fun w45=>K30 [t7_43,t8_41] w45)))∧
 (((pw w34 (Instr.alloc 156 true (.tuple #[])) fun t7_47 w46=>
 Ext w34 w46∧
 ((ca zx #[t57,t59] w46 fun t60_49 w48=>
 pw w48 (Instr.alloc 156 true (.tuple #[])) fun t8_51 w50=>
 Ext w48 w50∧
 so w50 156 t7_47 t56 fun w52=>so w52 156 t8_51 t60_49 fun w53=>K30 [t7_47,t8_51] w53)∧
 (pw w46 (Instr.alloc 156 true (.tuple #[])) fun t8_55 w54=>
 Ext w46 w54∧
 ca zx #[t57,t59] w54 fun t60_57 w56=>
 so w56 156 t7_47 t56 fun w58=>so w58 156 t8_55 t60_57 fun w59=>K30 [t7_47,t8_55] w59)))∧
 (pw w34 (Instr.alloc 156 true (.tuple #[])) fun t8_61 w60=>
 Ext w34 w60∧
 ((ca zx #[t57,t59] w60 fun t60_63 w62=>
 pw w62 (Instr.alloc 156 true (.tuple #[])) fun t7_65 w64=>
 Ext w62 w64∧
 so w64 156 t7_65 t56 fun w66=>so w66 156 t8_61 t60_63 fun w67=>K30 [t7_65,t8_61] w67)∧
 (pw w60 (Instr.alloc 156 true (.tuple #[])) fun t7_69 w68=>
 Ext w60 w68∧
 ca zx #[t57,t59] w68 fun t60_71 w70=>
 so w70 156 t7_69 t56 fun w72=>so w72 156 t8_61 t60_71 fun w73=>K30 [t7_69,t8_61] w73)))))))∧
 (((pw w29.drew (Instr.alloc 156 true (.tuple #[])) fun t7_75 w74=>
 Ext w29.drew w74∧
 ((ca zx #[t53,t55] w74 fun t56_77 w76=>
 Ext w74 w76∧
 ((ca zx #[t57,t59] w76 fun t60_79 w78=>
 pw w78 (Instr.alloc 156 true (.tuple #[])) fun t8_81 w80=>
 Ext w78 w80∧
 so w80 156 t7_75 t56_77 fun w82=>so w82 156 t8_81 t60_79 fun w83=>K30 [t7_75,t8_81] w83)∧
 (pw w76 (Instr.alloc 156 true (.tuple #[])) fun t8_85 w84=>
 Ext w76 w84∧
 ca zx #[t57,t59] w84 fun t60_87 w86=>
 so w86 156 t7_75 t56_77 fun w88=>so w88 156 t8_85 t60_87 fun w89=>K30 [t7_75,t8_85] w89)))∧
 (pw w74 (Instr.alloc 156 true (.tuple #[])) fun t8_91 w90=>
 Ext w74 w90∧
 ca zx #[t53,t55] w90 fun t56_93 w92=>
 Ext w90 w92∧
 ca zx #[t57,t59] w92 fun t60_95 w94=>
 so w94 156 t7_75 t56_93 fun w96=>so w96 156 t8_91 t60_95 fun w97=>K30 [t7_75,t8_91] w97)))∧
 (pw w29.drew (Instr.alloc 156 true (.tuple #[])) fun t8_99 w98=>
 Ext w29.drew w98∧
 ((ca zx #[t53,t55] w98 fun t56_101 w100=>
 Ext w98 w100∧
 ((ca zx #[t57,t59] w100 fun t60_103 w102=>
 pw w102 (Instr.alloc 156 true (.tuple #[])) fun t7_105 w104=>
 Ext w102 w104∧
 so w104 156 t7_105 t56_101 fun w106=>so w106 156 t8_99 t60_103 fun w107=>K30 [t7_105,t8_99] w107)∧
 (pw w100 (Instr.alloc 156 true (.tuple #[])) fun t7_109 w108=>
 Ext w100 w108∧
 ca zx #[t57,t59] w108 fun t60_111 w110=>
 so w110 156 t7_109 t56_101 fun w112=>so w112 156 t8_99 t60_111 fun w113=>K30 [t7_109,t8_99] w113)))∧
 (pw w98 (Instr.alloc 156 true (.tuple #[])) fun t7_115 w114=>
 Ext w98 w114∧
 ca zx #[t53,t55] w114 fun t56_117 w116=>
 Ext w114 w116∧
 ca zx #[t57,t59] w116 fun t60_119 w118=>
 so w118 156 t7_115 t56_117 fun w120=>so w120 156 t8_99 t60_119 fun w121=>K30 [t7_115,t8_99] w121))))))) (fun s31 _d32 w33=>
 fl w33 (s31.getD 0 undef) 156 2 4 fun t62=>za (fun K122=>gIf t62 true (fl w33 (s31.getD 0 undef) 156 1 3 fun t65=>bt .lss 3 t65 (i6 3) fun t66=>K122 [t66] w33) (K122 [undef] w33)) (fun s123 _d124 w125=>
 zb t62 (s123.getD 0 undef) fa_ fun t67=>lo w125 149 t2 fun t69=>fl w125 t3 53 2 50 fun t71=>ca yC #[t69,t71] w125 fun t72 w126=>
 pe t72 0 fun t73=>pe t72 1 fun t74=>pw w126 (Instr.alloc 31 true (.tuple #[])) fun t10 w127=>
 so w127 31 t10 t73 fun w128=>lo w128 149 t2 fun t76=>fl w128 t3 53 3 50 fun t78=>ca yC #[t76,t78] w128 fun t79 w129=>
 pe t79 0 fun t80=>pe t79 1 fun t81=>pw w129 (Instr.alloc 31 true (.tuple #[])) fun t12 w130=>
 so w130 31 t12 t80 fun w131=>pp (Instr.makeFunc (.func 109) #[] #[t3,t2]) fun t82=>fl w131 t3 53 0 44 fun t84=>bt .eql 44 t84 (Value.int .u8 1) fun t86=>zc t86 (lo w131 53 t3 fun t87=>pp (Instr.build 163 #[(0,tr_),(1,tr_)]) fun t88=>ca zT #[t87,t88] w131 fun t89 w132=>
 za (fun K133=>gIf t89 true (K133 [t67] w132) (K133 [undef] w132)) (fun s134 _d135 w136=>
 zb t89 (s134.getD 0 undef) fa_ fun t92=>za (fun K137=>gIf t92 true (K137 [t74] w136) (K137 [undef] w136)) (fun s138 _d139 w140=>
 zb t92 (s138.getD 0 undef) fa_ fun t95=>za (fun K141=>gIf t95 true (lo w140 31 t10 fun t97=>fl w140 (s31.getD 0 undef) 156 0 31 fun t99=>ca y6 #[t97,t99] w140 fun t100 w145=>
 K141 [t100] w145) (K141 [undef] w140)) (fun s142 _d143 w144=>
 zb t95 (s142.getD 0 undef) fa_ fun t101=>K t101 w144)))) (bt .eql 44 t84 (Value.int .u8 2) fun t103=>zc t103 (lo w131 53 t3 fun t104=>pp (Instr.build 163 #[(0,tr_),(1,tr_),(2,tr_),(4,tr_)]) fun t105=>ca zT #[t104,t105] w131 fun t106 w146=>
 pp (Op.unary .not t106) fun t107=>za (fun K147=>gIf t107 false (pp (Op.unary .not t67) fun t110=>K147 [t110] w146) (K147 [undef] w146)) (fun s148 _d149 w150=>
 zb t107 tr_ (s148.getD 0 undef) fun t111=>za (fun K151=>gIf t111 false (pp (Op.unary .not t74) fun t114=>K151 [t114] w150) (K151 [undef] w150)) (fun s152 _d153 w154=>
 zb t111 tr_ (s152.getD 0 undef) fun t115=>za (fun K155=>gIf t115 false (pp (Op.unary .not t81) fun t118=>K155 [t118] w154) (K155 [undef] w154)) (fun s156 _d157 w158=>
 zb t115 tr_ (s156.getD 0 undef) fun t119=>zc t119 (K fa_ w158) (lo w158 31 t10 fun t121=>cv (Value.func (.func 108) #[] #[]) #[t121,(Value.int .u8 1)] w158 fun t122 w159=>
 za (fun K160=>gIf t122 true (lo w159 31 t12 fun t125=>cv (Value.func (.func 108) #[] #[]) #[t125,(Value.int .u8 1)] w159 fun t126 w164=>
 K160 [t126] w164) (K160 [undef] w159)) (fun s161 _d162 w163=>
 zb t122 (s161.getD 0 undef) fa_ fun t127=>fl w163 t3 53 5 9 fun t129=>za (fun K165=>
 bt .eql 9 t129 (Value.string { data:=#[43] }) fun t131=>zc t131 (K165 [t131] w163) (bt .eql 9 t129 (Value.string { data:=#[45] }) fun t132=>zc t132 (K165 [t132] w163) (bt .eql 9 t129 (Value.string { data:=#[42] }) fun t133=>zc t133 (K165 [t133] w163) (bt .eql 9 t129 (Value.string { data:=#[47] }) fun t134=>zc t134 (K165 [t134] w163) (bt .eql 9 t129 (Value.string { data:=#[37] }) fun t135=>K165 [t135] w163))))) (fun s166 _d167 w168=>
 zc (s166.getD 0 undef) (fl w168 (s31.getD 0 undef) 156 0 31 fun t138=>cv (Value.func (.func 108) #[] #[]) #[t138,(Value.int .u8 1)] w168 fun t139 w169=>
 za (fun K170=>gIf t139 true (K170 [t127] w169) (K170 [undef] w169)) (fun s171 _d172 w173=>
 zb t139 (s171.getD 0 undef) fa_ fun t142=>K t142 w173)) (za (fun K174=>
 bt .eql 9 t129 (Value.string { data:=#[60] }) fun t144=>zc t144 (K174 [t144] w168) (bt .eql 9 t129 (Value.string { data:=#[60,61] }) fun t145=>zc t145 (K174 [t145] w168) (bt .eql 9 t129 (Value.string { data:=#[62] }) fun t146=>zc t146 (K174 [t146] w168) (bt .eql 9 t129 (Value.string { data:=#[62,61] }) fun t147=>K174 [t147] w168)))) (fun s175 _d176 w177=>
 zc (s175.getD 0 undef) (fl w177 (s31.getD 0 undef) 156 0 31 fun t150=>cv (Value.func (.func 108) #[] #[]) #[t150,(Value.int .u8 2)] w177 fun t151 w178=>
 za (fun K179=>gIf t151 true (K179 [t127] w178) (K179 [undef] w178)) (fun s180 _d181 w182=>
 zb t151 (s180.getD 0 undef) fa_ fun t154=>K t154 w182)) (za (fun K183=>
 bt .eql 9 t129 (Value.string { data:=#[61,61] }) fun t156=>zc t156 (K183 [t156] w177) (bt .eql 9 t129 (Value.string { data:=#[33,61] }) fun t157=>K183 [t157] w177)) (fun s184 _d185 w186=>
 zc (s184.getD 0 undef) (fl w186 (s31.getD 0 undef) 156 0 31 fun t160=>cv (Value.func (.func 108) #[] #[]) #[t160,(Value.int .u8 2)] w186 fun t161 w187=>
 za (fun K188=>gIf t161 true (K188 [t127] w187) (K188 [undef] w187)) (fun s189 _d190 w191=>
 za (fun K192=>gIf (s189.getD 0 undef) false (lo w191 31 t10 fun t166=>cv (Value.func (.func 108) #[] #[]) #[t166,(Value.int .u8 2)] w191 fun t167 w196=>
 K192 [t167] w196) (K192 [undef] w191)) (fun s193 _d194 w195=>
 za (fun K197=>gIf (s193.getD 0 undef) true (lo w195 31 t12 fun t170=>cv (Value.func (.func 108) #[] #[]) #[t170,(Value.int .u8 2)] w195 fun t171 w201=>
 K197 [t171] w201) (K197 [undef] w195)) (fun s198 _d199 w200=>
 za (fun K202=>gIf (s189.getD 0 undef) false (zb (s193.getD 0 undef) (s198.getD 0 undef) fa_ fun t172=>K202 [t172] w200) (K202 [undef] w200)) (fun s203 _d204 w205=>
 za (fun K206=>gIf t161 true (zb (s189.getD 0 undef) tr_ (s203.getD 0 undef) fun t173=>K206 [t173] w205) (K206 [undef] w205)) (fun s207 _d208 w209=>
 zb t161 (s207.getD 0 undef) fa_ fun t174=>K t174 w209)))))) (K fa_ w186)))))))))))) (bt .eql 44 t84 (Value.int .u8 3) fun t176=>zc t176 (pw w131 (Instr.makeMap 164 none) fun t177 w210=>
 pu w210 (Instr.mapUpdate 164 t177 (Value.string { data:=#[45] }) (Value.int .u8 1)) fun w211=>pu w211 (Instr.mapUpdate 164 t177 (Value.string { data:=#[33] }) (Value.int .u8 2)) fun w212=>fl w212 t3 53 5 9 fun t180=>pq w212 (Instr.lookup 164 t177 t180 false) fun t181=>lo w212 53 t3 fun t182=>pp (Instr.build 163 #[(0,tr_),(1,tr_),(4,tr_)]) fun t183=>ca zT #[t182,t183] w212 fun t184 w213=>
 za (fun K214=>gIf t184 true (K214 [t67] w213) (K214 [undef] w213)) (fun s215 _d216 w217=>
 zb t184 (s215.getD 0 undef) fa_ fun t187=>za (fun K218=>gIf t187 true (K218 [t74] w217) (K218 [undef] w217)) (fun s219 _d220 w221=>
 zb t187 (s219.getD 0 undef) fa_ fun t190=>za (fun K222=>gIf t190 true (bt .neq 28 t181 (Value.int .u8 0) fun t193=>K222 [t193] w221) (K222 [undef] w221)) (fun s223 _d224 w225=>
 zb t190 (s223.getD 0 undef) fa_ fun t194=>za (fun K226=>gIf t194 true (fl w225 (s31.getD 0 undef) 156 0 31 fun t198=>cv (Value.func (.func 108) #[] #[]) #[t198,t181] w225 fun t200 w230=>
 K226 [t200] w230) (K226 [undef] w225)) (fun s227 _d228 w229=>
 zb t194 (s227.getD 0 undef) fa_ fun t201=>za (fun K231=>gIf t201 true (lo w229 31 t10 fun t204=>cv (Value.func (.func 108) #[] #[]) #[t204,t181] w229 fun t206 w235=>
 K231 [t206] w235) (K231 [undef] w229)) (fun s232 _d233 w234=>
 zb t201 (s232.getD 0 undef) fa_ fun t207=>K t207 w234)))))) (bt .eql 44 t84 (Value.int .u8 4) fun t209=>zc t209 (lo w131.drew 53 t3 fun t210=>pp (Instr.build 163 #[(0,tr_),(5,tr_),(6,tr_)]) fun t211=>ca zT #[t210,t211] w131.drew fun t212 w236=>
 za (fun K237=>gIf t212 true (K237 [t67] w236) (K237 [undef] w236)) (fun s238 _d239 w240=>
 zb t212 (s238.getD 0 undef) fa_ fun t215=>za (fun K241=>gIf t215 true (fl w240 (s31.getD 1 undef) 156 2 4 fun t218=>K241 [t218] w240) (K241 [undef] w240)) (fun s242 _d243 w244=>
 zb t215 (s242.getD 0 undef) fa_ fun t219=>za (fun K245=>gIf t219 true (fl w244 (s31.getD 0 undef) 156 0 31 fun t223=>cv (Value.func (.func 108) #[] #[]) #[t223,(Value.int .u8 4)] w244 fun t224 w249=>
 K245 [t224] w249) (K245 [undef] w244)) (fun s246 _d247 w248=>
 zb t219 (s246.getD 0 undef) fa_ fun t225=>za (fun K250=>gIf t225 true (pf 156 (s31.getD 0 undef) 0 fun t227=>fl w248 t227 31 1 4 fun t229=>fl w248 t3 53 7 4 fun t231=>bf .eql 4 t229 t231 fun t232=>K250 [t232] w248) (K250 [undef] w248)) (fun s251 _d252 w253=>
 zb t225 (s251.getD 0 undef) fa_ fun t233=>za (fun K254=>gIf t233 true (pf 156 (s31.getD 0 undef) 0 fun t235=>fl w253 t235 31 4 29 fun t237=>xl w253 29 t237 (i6 0) 31 fun t239=>fl w253 (s31.getD 1 undef) 156 0 31 fun t241=>ca y6 #[t239,t241] w253 fun t242 w258=>
 K254 [t242] w258) (K254 [undef] w253)) (fun s255 _d256 w257=>
 zb t233 (s255.getD 0 undef) fa_ fun t243=>za (fun K259=>gIf t243 true (fl w257 t3 53 7 4 fun t246=>K259 [t246] w257) (K259 [undef] w257)) (fun s260 _d261 w262=>
 za (fun K263=>gIf (s260.getD 0 undef) true (fl w262 (s31.getD 1 undef) 156 1 3 fun t249=>bt .eql 3 t249 (i6 3) fun t250=>K263 [t250] w262) (K263 [undef] w262)) (fun s264 _d265 w266=>
 za (fun K267=>gIf t243 true (zb (s260.getD 0 undef) (s264.getD 0 undef) fa_ fun t251=>pp (Op.unary .not t251) fun t252=>K267 [t252] w266) (K267 [undef] w266)) (fun s268 _d269 w270=>
 zb t243 (s268.getD 0 undef) fa_ fun t253=>K t253 w270))))))))) (bt .eql 44 t84 (Value.int .u8 5) fun t255=>zc t255 (lo w131.drew 53 t3 fun t256=>pp (Instr.build 163 #[(0,tr_),(1,tr_)]) fun t257=>ca zT #[t256,t257] w131.drew fun t258 w271=>
 za (fun K272=>gIf t258 true (K272 [t67] w271) (K272 [undef] w271)) (fun s273 _d274 w275=>
 zb t258 (s273.getD 0 undef) fa_ fun t261=>za (fun K276=>gIf t261 true (K276 [t74] w275) (K276 [undef] w275)) (fun s277 _d278 w279=>
 zb t261 (s277.getD 0 undef) fa_ fun t264=>za (fun K280=>gIf t264 true (fl w279 (s31.getD 0 undef) 156 0 31 fun t268=>cv (Value.func (.func 108) #[] #[]) #[t268,(Value.int .u8 3)] w279 fun t269 w284=>
 K280 [t269] w284) (K280 [undef] w279)) (fun s281 _d282 w283=>
 zb t264 (s281.getD 0 undef) fa_ fun t270=>za (fun K285=>gIf t270 true (pf 156 (s31.getD 0 undef) 0 fun t272=>fl w283 t272 31 4 29 fun t274=>xl w283 29 t274 (i6 0) 31 fun t276=>lo w283 31 t10 fun t277=>ca y6 #[t276,t277] w283 fun t278 w289=>
 K285 [t278] w289) (K285 [undef] w283)) (fun s286 _d287 w288=>
 zb t270 (s286.getD 0 undef) fa_ fun t279=>K t279 w288))))) (bt .eql 44 t84 (Value.int .u8 6) fun t281=>zc t281 (lo w131 53 t3 fun t282=>pp (Instr.build 163 #[(0,tr_),(3,tr_),(8,tr_)]) fun t283=>ca zT #[t282,t283] w131 fun t284 w290=>
 pp (Op.unary .not t284) fun t285=>za (fun K291=>gIf t285 false (pp (Op.unary .not t67) fun t288=>K291 [t288] w290) (K291 [undef] w290)) (fun s292 _d293 w294=>
 zb t285 tr_ (s292.getD 0 undef) fun t289=>za (fun K295=>gIf t289 false (fl w294 (s31.getD 0 undef) 156 0 31 fun t293=>cv (Value.func (.func 108) #[] #[]) #[t293,(Value.int .u8 5)] w294 fun t294 w299=>
 pp (Op.unary .not t294) fun t295=>K295 [t295] w299) (K295 [undef] w294)) (fun s296 _d297 w298=>
 zb t289 tr_ (s296.getD 0 undef) fun t296=>za (fun K300=>gIf t296 false (pf 156 (s31.getD 0 undef) 0 fun t298=>fl w298 t298 31 3 3 fun t300=>fl w298 t3 53 9 3 fun t302=>bf .neq 3 t300 t302 fun t303=>K300 [t303] w298) (K300 [undef] w298)) (fun s301 _d302 w303=>
 zb t296 tr_ (s301.getD 0 undef) fun t304=>zc t304 (K fa_ w303) (pf 149 t2 0 fun t306=>fl w303 t306 25 0 22 fun t308=>fl w303 (s31.getD 0 undef) 156 0 31 fun t310=>ca jI #[t308,t310] w303 fun t311 w304=>
 pe t311 0 fun t312=>pe t311 1 fun _t313=>cv t82 #[t312] w304 fun t316 w305=>
 K t316 w305))))) (bt .eql 44 t84 (Value.int .u8 7) fun t318=>zc t318 (lo w131 53 t3 fun t319=>pp (Instr.build 163 #[(0,tr_),(3,tr_),(7,tr_)]) fun t320=>ca zT #[t319,t320] w131 fun t321 w306=>
 pp (Op.unary .not t321) fun t322=>za (fun K307=>gIf t322 false (pp (Op.unary .not t67) fun t325=>K307 [t325] w306) (K307 [undef] w306)) (fun s308 _d309 w310=>
 zb t322 tr_ (s308.getD 0 undef) fun t326=>za (fun K311=>gIf t326 false (fl w310 t3 53 8 3 fun t329=>bt .lss 3 t329 (i6 0) fun t330=>K311 [t330] w310) (K311 [undef] w310)) (fun s312 _d313 w314=>
 zb t326 tr_ (s312.getD 0 undef) fun t331=>za (fun K315=>gIf t331 false (fl w314 t3 53 8 3 fun t334=>pf 149 t2 0 fun t335=>fl w314 t335 25 1 23 fun t337=>pp (Builtin.len_ #[23] 3 #[t337]) fun t338=>bf .geq 3 t334 t338 fun t339=>K315 [t339] w314) (K315 [undef] w314)) (fun s316 _d317 w318=>
 zb t331 tr_ (s316.getD 0 undef) fun t340=>zc t340 (K fa_ w318) (pf 149 t2 0 fun t341=>fl w318 t341 25 1 23 fun t343=>fl w318 t3 53 8 3 fun t345=>xl w318 23 t343 t345 58 fun t347=>pw w318 (Instr.alloc 58 true (.tuple #[])) fun t20 w319=>
 so w319 58 t20 t347 fun w320=>fl w320.drew (s31.getD 0 undef) 156 0 31 fun t349=>fl w320.drew t20 58 4 29 fun t351=>xl w320.drew 29 t351 (i6 0) 31 fun t353=>ca y6 #[t349,t353] w320.drew fun t354 w321=>
 za (fun K322=>gIf t354 true (fl w321 t20 58 4 29 fun t358=>fl w321 t20 58 3 3 fun t360=>bt .add 3 t360 (i6 1) fun t361=>pp (Instr.sliceAt 29 t358 (some (i6 1)) (some t361) none) fun t362=>cv t82 #[t362] w321 fun t363 w326=>
 K322 [t363] w326) (K322 [undef] w321)) (fun s323 _d324 w325=>
 zb t354 (s323.getD 0 undef) fa_ fun t364=>K t364 w325)))))) (bt .eql 44 t84 (Value.int .u8 8) fun t366=>zc t366 (lo w131 53 t3 fun t367=>pp (Instr.build 163 #[(0,tr_)]) fun t368=>ca zT #[t367,t368] w131 fun t369 w327=>
 za (fun K328=>gIf t369 true (K328 [t67] w327) (K328 [undef] w327)) (fun s329 _d330 w331=>
 zb t369 (s329.getD 0 undef) fa_ fun t372=>za (fun K332=>gIf t372 true (fl w331 (s31.getD 0 undef) 156 0 31 fun t376=>cv (Value.func (.func 108) #[] #[]) #[t376,(Value.int .u8 1)] w331 fun t377 w336=>
 K332 [t377] w336) (K332 [undef] w331)) (fun s333 _d334 w335=>
 zb t372 (s333.getD 0 undef) fa_ fun t378=>K t378 w335))) (bt .eql 44 t84 (Value.int .u8 9) fun t380=>zc t380 (lo w131 53 t3 fun t381=>pp (Instr.build 163 #[(1,tr_)]) fun t382=>ca zT #[t381,t382] w131 fun t383 w337=>
 za (fun K338=>gIf t383 true (K338 [t74] w337) (K338 [undef] w337)) (fun s339 _d340 w341=>
 zb t383 (s339.getD 0 undef) fa_ fun t386=>za (fun K342=>gIf t386 true (lo w341 31 t10 fun t389=>cv (Value.func (.func 108) #[] #[]) #[t389,(Value.int .u8 1)] w341 fun t390 w346=>
 K342 [t390] w346) (K342 [undef] w341)) (fun s343 _d344 w345=>
 zb t386 (s343.getD 0 undef) fa_ fun t391=>K t391 w345))) (bt .eql 44 t84 (Value.int .u8 10) fun t393=>zc t393 (pf 149 t2 0 fun t395=>fl w131 t395 25 0 22 fun t397=>fl w131 (s31.getD 1 undef) 156 0 31 fun t399=>ca vw #[t397,t399] w131 fun t400 w347=>
 pe t400 0 fun t401=>pe t400 1 fun _t402=>lo w347 53 t3 fun t403=>pp (Instr.build 163 #[(5,tr_)]) fun t404=>ca zT #[t403,t404] w347 fun t405 w348=>
 za (fun K349=>gIf t405 true (fl w348 (s31.getD 1 undef) 156 2 4 fun t408=>K349 [t408] w348) (K349 [undef] w348)) (fun s350 _d351 w352=>
 zb t405 (s350.getD 0 undef) fa_ fun t409=>za (fun K353=>gIf t409 true (K353 [t401] w352) (K353 [undef] w352)) (fun s354 _d355 w356=>
 zb t409 (s354.getD 0 undef) fa_ fun t412=>za (fun K357=>gIf t412 true (fl w356 (s31.getD 1 undef) 156 1 3 fun t415=>bt .lss 3 t415 (i6 2) fun t416=>K357 [t416] w356) (K357 [undef] w356)) (fun s358 _d359 w360=>
 zb t412 (s358.getD 0 undef) fa_ fun t417=>K t417 w360)))) (bt .eql 44 t84 (Value.int .u8 11) fun t419=>zc t419 (lo w131 53 t3 fun t420=>pp (Instr.build 163 #[(5,tr_)]) fun t421=>ca zT #[t420,t421] w131 fun t422 w361=>
 za (fun K362=>gIf t422 true (fl w361 (s31.getD 1 undef) 156 2 4 fun t425=>K362 [t425] w361) (K362 [undef] w361)) (fun s363 _d364 w365=>
 zb t422 (s363.getD 0 undef) fa_ fun t426=>za (fun K366=>gIf t426 true (pf 53 t3 6 fun t428=>fl w365 t428 47 0 3 fun t430=>bt .gtr 3 t430 (i6 0) fun t431=>K366 [t431] w365) (K366 [undef] w365)) (fun s367 _d368 w369=>
 zb t426 (s367.getD 0 undef) fa_ fun t432=>za (fun K370=>gIf t432 true (pf 53 t3 6 fun t434=>fl w369 t434 47 1 45 fun t436=>pp (Builtin.len_ #[45] 3 #[t436]) fun t437=>bt .eql 3 t437 (i6 0) fun t438=>K370 [t438] w369) (K370 [undef] w369)) (fun s371 _d372 w373=>
 zb t432 (s371.getD 0 undef) fa_ fun t439=>K t439 w373)))) (bt .eql 44 t84 (Value.int .u8 12) fun t441=>zc t441 (lo w131 53 t3 fun t442=>pp (Instr.build 163 #[(1,tr_),(9,tr_)]) fun t443=>ca zT #[t442,t443] w131 fun t444 w374=>
 za (fun K375=>gIf t444 true (K375 [t74] w374) (K375 [undef] w374)) (fun s376 _d377 w378=>
 zb t444 (s376.getD 0 undef) fa_ fun t447=>za (fun K379=>gIf t447 true (lo w378 31 t10 fun t450=>cv (Value.func (.func 108) #[] #[]) #[t450,(Value.int .u8 2)] w378 fun t451 w383=>
 K379 [t451] w383) (K379 [undef] w378)) (fun s380 _d381 w382=>
 zb t447 (s380.getD 0 undef) fa_ fun t452=>za (fun K384=>gIf t452 true (fl w382 t3 53 11 3 fun t456=>cv t27 #[t456] w382 fun t457 w388=>
 K384 [t457] w388) (K384 [undef] w382)) (fun s385 _d386 w387=>
 zb t452 (s385.getD 0 undef) fa_ fun t458=>K t458 w387)))) (za (fun K389=>
 bt .eql 44 t84 (Value.int .u8 13) fun t460=>zc t460 (K389 [t460] w131) (bt .eql 44 t84 (Value.int .u8 14) fun t461=>K389 [t461] w131)) (fun s390 _d391 w392=>
 zc (s390.getD 0 undef) (lo w392 53 t3 fun t462=>pp (Instr.build 163 #[]) fun t463=>ca zT #[t462,t463] w392 fun t464 w393=>
 K t464 w393) (K fa_ w392)))))))))))))))))))))))
theorem Xa {t0 t1 : Value} {w : World} {K : VW} (h : jz t0 t1 w K) : ze prog km #[t0,t1] w K:=
 okC false (.s (.r (rz 3 0 10)) (.s (.r (rz 6 0 2576)) (.s (.r (rz 2 0 0)) (.s (.s (.r (ra 4 0 4 (.grp 31 false (ri 4 4 4) [35] (.grp 35 true (ri 5 8 144) [40] (.grp 31 false (ri 1 13 0) [41] (ra 2 14 0 (.grp 43 false (ri 4 16 4) [47] (.grp 47 true (ri 3 20 4) [50] (.grp 43 false (ri 1 23 0) [51] (rz 1 24 0)))))))))) (.c (.s (.r (rz 1 0 0)) (.n)) (.n))) (.j [7,8] (.r (ra 3 0 17 (ra 3 4 17 (.alt 3 .u (.alt 7 .l (.alt 8 .u (rz 3 9 43) (ra 1 9 3 (ra 1 8 3 (rz 2 10 10)))) (.alt 8 .u (.alt 7 .l (rz 3 9 43) (ra 1 9 3 (ra 1 7 2 (rz 2 10 10)))) (ra 1 9 3 (.alt 7 .l (ra 1 8 3 (rz 2 10 10)) (ra 1 8 3 (ra 1 7 2 (rz 2 10 10))))))) (.alt 8 .u (.alt 3 .u (.alt 7 .l (rz 3 9 43) (ra 1 9 3 (ra 1 7 2 (rz 2 10 10)))) (ra 1 9 3 (ra 1 3 3 (ra 1 7 2 (rz 2 10 10))))) (ra 1 9 3 (.alt 3 .u (.alt 7 .l (ra 1 8 3 (rz 2 10 10)) (ra 1 8 3 (ra 1 7 2 (rz 2 10 10)))) (ra 1 8 3 (ra 1 3 3 (ra 1 7 2 (rz 2 10 10))))))))))) (.s (.r (ra 3 0 4 (.grp 63 true (ri 3 3 4) [66] (rz 2 6 0)))) (.s (.r (rz 10 0 163985)) (.s (.r (rz 10 0 163985)) (.s (.r (rz 1 0 0)) (.s (.r (rz 2 0 0)) (.s (.s (.r (rz 2 0 4)) (.b (.s (.r (rz 2 0 0)) (.c (.s (.r (ra 4 0 33 (.grp 90 true (ri 1 4 0) [91] (ra 2 5 0 (.grp 93 true (ri 1 7 0) [94] (ra 2 8 0 (.grp 96 true (ri 4 10 145) [100] (rz 2 14 0)))))))) (.n)) (.s (.r (rz 2 0 0)) (.c (.s (.s (.r (ra 5 0 33 (.grp 108 false (ri 2 5 0) [110] (ra 2 7 0 (.grp 112 false (ri 2 9 0) [114] (ra 2 11 0 (.grp 116 false (ri 2 13 0) [118] (rz 1 15 0)))))))) (.c (.s (.r (rz 1 0 0)) (.n)) (.n))) (.s (.r (ra 4 0 36 (.grp 123 true (ri 3 4 36) [126] (rz 2 7 0)))) (.s (.s (.r (rz 2 0 4)) (.b (.j [130] (.s (.r (rz 2 0 0)) (.c (.n) (.s (.r (rz 2 0 0)) (.c (.n) (.s (.r (rz 2 0 0)) (.c (.n) (.s (.r (rz 2 0 0)) (.c (.n) (.r (rz 2 0 0)))))))))) (.c (.s (.r (ra 5 0 144 (.grp 140 true (ri 1 5 0) [141] (rz 2 6 0)))) (.n)) (.j [143] (.s (.r (rz 2 0 0)) (.c (.n) (.s (.r (rz 2 0 0)) (.c (.n) (.s (.r (rz 2 0 0)) (.c (.n) (.r (rz 2 0 0)))))))) (.c (.s (.r (ra 5 0 144 (.grp 152 true (ri 1 5 0) [153] (rz 2 6 0)))) (.n)) (.j [155] (.s (.r (rz 2 0 0)) (.c (.n) (.r (rz 2 0 0)))) (.c (.s (.r (ra 5 0 144 (.grp 162 true (ri 2 5 0) [164] (.grp 164 false (ri 4 7 36) [168] (.grp 168 true (ri 3 11 36) [171] (.grp 164 false (ri 1 14 0) [172] (.grp 162 true (ri 1 15 0) [173] (rz 2 16 0)))))))) (.n)) (.n))))))))) (.s (.r (rz 1 0 0)) (.n))))) (.s (.r (rz 2 0 0)) (.c (.s (.r (rz 8 0 5162)) (.s (.r (ra 4 0 33 (.grp 185 true (ri 1 4 0) [186] (ra 2 5 0 (.grp 188 true (ri 1 7 0) [189] (ra 2 8 0 (.grp 191 true (ri 2 10 0) [193] (ra 2 12 0 (.grp 195 true (ri 5 14 528) [200] (ra 2 19 0 (.grp 202 true (ri 4 21 132) [206] (rz 2 25 0)))))))))))) (.n))) (.s (.r (rz 2 0 0)) (.c (.s (.r (ra 4 0 33 (.grp 213 true (ri 1 4 0) [214] (ra 2 5 0 (.grp 216 true (ri 2 7 4) [218] (ra 2 9 0 (.grp 220 true (ri 4 11 144) [224] (ra 2 15 0 (.grp 226 true (ri 6 17 272) [232] (ra 2 23 0 (.grp 234 true (ri 8 25 37136) [242] (ra 2 33 0 (.grp 244 true (ri 3 35 4) [247] (.grp 247 true (ri 3 38 4) [250] (.grp 244 true (ri 2 41 0) [252] (rz 2 43 0)))))))))))))))) (.n)) (.s (.r (rz 2 0 0)) (.c (.s (.r (ra 4 0 33 (.grp 259 true (ri 1 4 0) [260] (ra 2 5 0 (.grp 262 true (ri 1 7 0) [263] (ra 2 8 0 (.grp 265 true (ri 4 10 144) [269] (ra 2 14 0 (.grp 271 true (ri 7 16 9488) [278] (rz 2 23 0)))))))))) (.n)) (.s (.r (rz 2 0 0)) (.c (.s (.s (.r (ra 5 0 33 (.grp 286 false (ri 2 5 0) [288] (ra 2 7 0 (.grp 290 false (ri 5 9 144) [295] (ra 2 14 0 (.grp 297 false (ri 6 16 272) [303] (rz 1 22 0)))))))) (.c (.s (.r (rz 1 0 0)) (.n)) (.n))) (.s (.r (rz 11 0 2320)) (.s (.r (rz 4 0 32)) (.n)))) (.s (.r (rz 2 0 0)) (.c (.s (.s (.r (ra 5 0 33 (.grp 323 false (ri 2 5 0) [325] (ra 2 7 0 (.grp 327 false (ri 3 9 4) [330] (ra 2 12 0 (.grp 332 false (ri 7 14 260) [339] (rz 1 21 0)))))))) (.c (.s (.r (rz 1 0 0)) (.n)) (.n))) (.s (.r (rz 9 0 168208)) (.s (.r (ra 8 0 9284 (.grp 355 true (ri 8 8 33040) [363] (rz 2 16 0)))) (.n)))) (.s (.r (rz 2 0 0)) (.c (.s (.r (ra 4 0 33 (.grp 370 true (ri 1 4 0) [371] (ra 2 5 0 (.grp 373 true (ri 4 7 144) [377] (rz 2 11 0)))))) (.n)) (.s (.r (rz 2 0 0)) (.c (.s (.r (ra 4 0 33 (.grp 384 true (ri 1 4 0) [385] (ra 2 5 0 (.grp 387 true (ri 3 7 36) [390] (rz 2 10 0)))))) (.n)) (.s (.r (rz 2 0 0)) (.c (.s (.r (rz 11 0 2320)) (.s (.r (ra 4 0 33 (.grp 406 true (ri 2 4 4) [408] (ra 2 6 0 (.grp 410 true (ri 1 8 0) [411] (ra 2 9 0 (.grp 413 true (ri 3 11 4) [416] (rz 2 14 0)))))))) (.n))) (.s (.r (rz 2 0 0)) (.c (.s (.r (ra 4 0 33 (.grp 423 true (ri 2 4 4) [425] (ra 2 6 0 (.grp 427 true (ri 4 8 16) [431] (ra 2 12 0 (.grp 433 true (ri 5 14 16) [438] (rz 2 19 0)))))))) (.n)) (.s (.r (rz 2 0 0)) (.c (.s (.r (ra 4 0 33 (.grp 445 true (ri 1 4 0) [446] (ra 2 5 0 (.grp 448 true (ri 3 7 36) [451] (ra 2 10 0 (.grp 453 true (ri 4 12 144) [457] (rz 2 16 0)))))))) (.n)) (.j [459] (.s (.r (rz 2 0 0)) (.c (.n) (.r (rz 2 0 0)))) (.c (.s (.r (rz 4 0 33)) (.n)) (.n))))))))))))))))))))))))))))) (.s (.r (rz 1 0 0)) (.n))))))))))))) func94 rfl (by kernel_rfl) (by kernel_rfl) h
def YJ (t0 t1 t2 : Value) (w : World) (K : VW) : Prop:=
 lo w 3 t1 fun t6=>bf .lss 3 t0 t6 fun t7=>za (fun K1=>gIf t7 false (fl w t2 58 1 3 fun t11=>bf .geq 3 t0 t11 fun t12=>K1 [t12] w) (K1 [undef] w)) (fun s2 _d3 w4=>
 zb t7 tr_ (s2.getD 0 undef) fun t13=>K t13 w4)
theorem Vt {t0 t1 t2 : Value} {w : World} {K : VW} (h : YJ t0 t1 t2 w K) : ze prog aak #[t0,t1,t2] w K:=
 okC false (.s (.r (rz 1 0 0)) (.s (.r (ra 4 0 4 (.grp 8 false (ri 4 4 16) [12] (rz 2 8 0)))) (.n))) func103 rfl (by kernel_rfl) (by kernel_rfl) h
def Zx (t0 : Value) (w : World) (K : VW) : Prop:=
 pw w (Instr.box 58 t0) fun t1 w1=>
 pw w1 (Instr.alloc 130 true (.tuple #[])) fun t3 w2=>
 pw w2 (Instr.alloc 130 true (.tuple #[])) fun t4 w3=>
 fl w3 t1 58 4 29 fun t12=>fl w3 t1 58 3 3 fun t14=>bt .add 3 t14 (i6 1) fun t15=>pp (Instr.sliceAt 29 t12 none (some t15) none) fun t16=>ca jc #[t16,t3] w3 fun _t17 w4=>
 fl w4 t1 58 2 54 fun t19=>pp (Builtin.len_ #[54] 3 #[t19]) fun t20=>zt [(i6 0)] w4 (fun s6 _d7 w8 K5=>
 bf .lss 3 (s6.getD 0 undef) t20 fun t22=>zc t22 (xl w8 54 t19 (s6.getD 0 undef) 134 fun t25=>pw w8 (Instr.alloc 134 true (.tuple #[])) fun t6 w9=>
 so w9 134 t6 t25 fun w10=>fl w10 t6 134 0 3 fun t27=>fl w10 t6 134 1 3 fun t29=>pp (Builtin.min_ #[3,3] 3 #[t27,t29]) fun t30=>bt .lss 3 t30 (i6 0) fun t31=>za (fun K11=>gIf t31 false (fl w10 t6 134 0 3 fun t34=>fl w10 t6 134 1 3 fun t36=>pp (Builtin.max_ #[3,3] 3 #[t34,t36]) fun t37=>fl w10 t1 58 1 3 fun t39=>bf .geq 3 t37 t39 fun t40=>K11 [t40] w10) (K11 [undef] w10)) (fun s12 _d13 w14=>
 zb t31 tr_ (s12.getD 0 undef) fun t41=>za (fun K15=>gIf t41 false (fl w14 t6 134 0 3 fun t44=>fl w14 t6 134 1 3 fun t46=>bf .eql 3 t44 t46 fun t47=>K15 [t47] w14) (K15 [undef] w14)) (fun s16 _d17 w18=>
 zb t41 tr_ (s16.getD 0 undef) fun t48=>zc t48 (K fa_ w18) (za (fun K19=>
 bt .gtr 3 (s6.getD 0 undef) (i6 0) fun t50=>zc t50 (fl w18 t1 58 2 54 fun t52=>bt .sub 3 (s6.getD 0 undef) (i6 1) fun t54=>xl w18 54 t52 t54 134 fun t56=>pw w18 (Instr.alloc 134 true (.tuple #[])) fun t7 w23=>
 so w23 134 t7 t56 fun w24=>fl w24 t7 134 0 3 fun t58=>fl w24 t6 134 0 3 fun t60=>bf .gtr 3 t58 t60 fun t61=>za (fun K25=>gIf t61 false (fl w24 t7 134 0 3 fun t64=>fl w24 t6 134 0 3 fun t66=>bf .eql 3 t64 t66 fun t67=>K25 [t67] w24) (K25 [undef] w24)) (fun s26 _d27 w28=>
 za (fun K29=>gIf (s26.getD 0 undef) true (fl w28 t7 134 1 3 fun t70=>fl w28 t6 134 1 3 fun t72=>bf .geq 3 t70 t72 fun t73=>K29 [t73] w28) (K29 [undef] w28)) (fun s30 _d31 w32=>
 za (fun K33=>gIf t61 false (zb (s26.getD 0 undef) (s30.getD 0 undef) fa_ fun t74=>K33 [t74] w32) (K33 [undef] w32)) (fun s34 _d35 w36=>
 zb t61 tr_ (s34.getD 0 undef) fun t75=>zc t75 (K fa_ w36) (K19 [] w36))))) (K19 [] w18)) (fun _s20 _d21 w22=>
 fl w22.drew t6 134 0 3 fun t77=>fl w22.drew t6 134 1 3 fun t79=>px 130 t4 t77 fun t80=>px 129 t80 t79 fun t81=>so w22.drew 4 t81 tr_ fun w37=>bt .add 3 (s6.getD 0 undef) (i6 1) fun t82=>K5 [t82] w37))))) (fl w8 t1 58 1 3 fun t84=>zt [(i6 0)] w8 (fun s39 _d40 w41 K38=>
 bf .lss 3 (s39.getD 0 undef) t84 fun t86=>zc t86 (fl w41 t1 58 1 3 fun t89=>zt [(i6 0)] w41 (fun s43 _d44 w45 K42=>
 bf .lss 3 (s43.getD 0 undef) t89 fun t91=>zc t91 (fl w45 t1 58 1 3 fun t94=>zt [(i6 0)] w45 (fun s47 _d48 w49 K46=>
 bf .lss 3 (s47.getD 0 undef) t94 fun t96=>zc t96 (px 130 t4 (s39.getD 0 undef) fun t100=>xl w49 129 t100 (s43.getD 0 undef) 4 fun t102=>za (fun K50=>gIf t102 true (px 130 t4 (s43.getD 0 undef) fun t106=>xl w49 129 t106 (s47.getD 0 undef) 4 fun t108=>K50 [t108] w49) (K50 [undef] w49)) (fun s51 _d52 w53=>
 zb t102 (s51.getD 0 undef) fa_ fun t109=>za (fun K54=>gIf t109 true (bf .neq 3 (s39.getD 0 undef) (s47.getD 0 undef) fun t113=>K54 [t113] w53) (K54 [undef] w53)) (fun s55 _d56 w57=>
 zb t109 (s55.getD 0 undef) fa_ fun t114=>za (fun K58=>gIf t114 true (px 130 t4 (s39.getD 0 undef) fun t118=>xl w57 129 t118 (s47.getD 0 undef) 4 fun t120=>pp (Op.unary .not t120) fun t121=>K58 [t121] w57) (K58 [undef] w57)) (fun s59 _d60 w61=>
 zb t114 (s59.getD 0 undef) fa_ fun t122=>zc t122 (K fa_ w61) (bt .add 3 (s47.getD 0 undef) (i6 1) fun t123=>K46 [t123] w61))))) (bf .neq 3 (s39.getD 0 undef) (s43.getD 0 undef) fun t126=>za (fun K62=>gIf t126 true (px 130 t3 (s39.getD 0 undef) fun t130=>xl w49 129 t130 (s43.getD 0 undef) 4 fun t132=>K62 [t132] w49) (K62 [undef] w49)) (fun s63 _d64 w65=>
 zb t126 (s63.getD 0 undef) fa_ fun t133=>za (fun K66=>gIf t133 true (px 130 t4 (s39.getD 0 undef) fun t137=>xl w65 129 t137 (s43.getD 0 undef) 4 fun t139=>pp (Op.unary .not t139) fun t140=>K66 [t140] w65) (K66 [undef] w65)) (fun s67 _d68 w69=>
 zb t133 (s67.getD 0 undef) fa_ fun t141=>zc t141 (K fa_ w69) (bt .add 3 (s43.getD 0 undef) (i6 1) fun t142=>K42 [t142] w69)))))) (bt .add 3 (s39.getD 0 undef) (i6 1) fun t143=>K38 [t143] w45))) (K tr_ w41))))
theorem Q0 {t0 : Value} {w : World} {K : VW} (h : Zx t0 w K) : ze prog qD #[t0] w K:=
 okC false (.s (.r (rz 2 0 2)) (.s (.r (rz 2 0 10)) (.s (.r (rz 7 0 8260)) (.s (.s (.r (rz 4 0 4)) (.b (.lp [21] (.s (.r (rz 1 0 0)) (.s (.c (.n) (.n)) (.s (.b (.s (.r (rz 6 0 2192)) (.s (.s (.r (ra 7 0 68 (.grp 32 false (ri 8 7 4164) [40] (ra 2 15 0 (.grp 42 false (ri 5 17 68) [47] (rz 1 22 0)))))) (.c (.s (.r (rz 1 0 0)) (.n)) (.n))) (.j [] (.s (.r (rz 2 0 0)) (.c (.s (.r (rz 8 0 41988)) (.s (.r (ra 6 0 68 (.grp 62 false (ri 6 6 68) [68] (.grp 68 true (ri 5 12 68) [73] (.grp 62 false (ri 1 17 0) [74] (rz 1 18 0)))))) (.c (.s (.r (rz 1 0 0)) (.n)) (.n)))) (.n))) (.r (rz 7 0 8260)))))) (.r (rz 2 0 0)))))))) (.s (.s (.r (rz 3 0 4)) (.b (.lp [85] (.s (.r (rz 1 0 0)) (.s (.c (.n) (.n)) (.s (.b (.s (.r (rz 2 0 0)) (.s (.r (rz 3 0 4)) (.b (.lp [90] (.s (.r (rz 1 0 0)) (.s (.c (.n) (.n)) (.s (.b (.s (.r (rz 2 0 0)) (.s (.s (.r (rz 3 0 4)) (.b (.lp [95] (.s (.r (rz 1 0 0)) (.s (.c (.n) (.n)) (.s (.b (.s (.r (rz 2 0 0)) (.s (.r (ra 6 0 256 (.grp 103 true (ri 5 6 256) [108] (ra 2 11 0 (.grp 110 true (ri 3 13 0) [113] (ra 2 16 0 (.grp 115 true (ri 6 18 256) [121] (rz 1 24 0)))))))) (.c (.s (.r (rz 1 0 0)) (.n)) (.n))))) (.r (rz 2 0 0)))))))) (.s (.r (ra 4 0 0 (.grp 127 true (ri 5 4 256) [132] (ra 2 9 0 (.grp 134 true (ri 6 11 256) [140] (rz 1 17 0)))))) (.c (.s (.r (rz 1 0 0)) (.n)) (.n)))))) (.r (rz 2 0 0)))))))))) (.r (rz 2 0 0)))))))) (.s (.r (rz 1 0 0)) (.n))))))) func104 rfl (by kernel_rfl) (by kernel_rfl) h
def qP (t0 t1 : Value) (w : World) (K : VW) : Prop:=
 bt .geq 3 t0 (i6 0) fun t5=>za (fun K1=>gIf t5 true (lo w 3 t1 fun t8=>bf .lss 3 t0 t8 fun t9=>K1 [t9] w) (K1 [undef] w)) (fun s2 _d3 w4=>
 zb t5 (s2.getD 0 undef) fa_ fun t10=>K t10 w4)
theorem Yt {t0 t1 : Value} {w : World} {K : VW} (h : qP t0 t1 w K) : ze prog qL #[t0,t1] w K:=
 okC false (.s (.r (rz 1 0 0)) (.s (.r (ra 3 0 0 (.grp 6 true (ri 3 3 4) [9] (rz 2 6 0)))) (.n))) func105 rfl (by kernel_rfl) (by kernel_rfl) h
def qQ (t0 t1 : Value) (w : World) (K : VW) : Prop:=
 pw w (Instr.box 149 t0) fun t2 w1=>
 pw w1 (Instr.box 50 t1) fun t3 w2=>
 pw w2 (Instr.alloc 31 true (.tuple #[])) fun t4 w3=>
 fl w3 t3 50 0 48 fun t9=>bt .eql 48 t9 (Value.int .u8 1) fun t11=>zc t11 (pp (Instr.build 31 #[(0,(Value.int .u8 1))]) fun t12=>fl w3 t3 50 2 47 fun t14=>ca xh #[t14] w3 fun t15 w4=>
 so w4 31 t4 t12 fun w5=>pq w5 (zf 31 t4) fun r6=>K (.tuple #[r6,t15]) w5) (bt .eql 48 t9 (Value.int .u8 2) fun t17=>zc t17 (pp (Instr.build 31 #[(0,(Value.int .u8 2))]) fun t18=>fl w3.drew t3 50 2 47 fun t20=>ca xh #[t20] w3.drew fun t21 w7=>
 za (fun K8=>gIf t21 true (fl w7 t3 50 1 2 fun t24=>bt .eql 2 t24 (i6 0) fun t25=>K8 [t25] w7) (K8 [undef] w7)) (fun s9 _d10 w11=>
 za (fun K12=>gIf (s9.getD 0 undef) false (pf 50 t3 1 fun t27=>K12 [t27] w11) (K12 [undef] w11)) (fun s13 _d14 w15=>
 ((za (fun K16=>gIf (s9.getD 0 undef) false (pw w15 (Instr.loadAt 2 (s13.getD 0 undef)) fun t28 w20=>
 bt .eql 2 t28 (i6 1) fun t29=>K16 [t29] w20) (K16 [undef] w15)) (fun s17 _d18 w19=>
 za (fun K21=>gIf t21 true (zb (s9.getD 0 undef) tr_ (s17.getD 0 undef) fun t30=>K21 [t30] w19) (K21 [undef] w19)) (fun s22 _d23 w24=>
 zb t21 (s22.getD 0 undef) fa_ fun t31=>so w24 31 t4 t18 fun w25=>pq w25 (zf 31 t4) fun r26=>K (.tuple #[r26,t31]) w25)))∧
 (so w15 31 t4 t18 fun w27=>za (fun K28=>gIf (s9.getD 0 undef) false (pw w27 (Instr.loadAt 2 (s13.getD 0 undef)) fun t28_33 w32=>
 bt .eql 2 t28_33 (i6 1) fun t29_34=>K28 [t29_34] w32) (K28 [undef] w27)) (fun s29 _d30 w31=>
 za (fun K35=>gIf t21 true (zb (s9.getD 0 undef) tr_ (s29.getD 0 undef) fun t30_39=>K35 [t30_39] w31) (K35 [undef] w31)) (fun s36 _d37 w38=>
 zb t21 (s36.getD 0 undef) fa_ fun t31_40=>pq w38 (zf 31 t4) fun r41=>K (.tuple #[r41,t31_40]) w38))))))) (lo w3 149 t2 fun t32=>fl w3 t3 50 2 47 fun t34=>ca zx #[t32,t34] w3 fun t35 w42=>
 pw w42 (Instr.alloc 156 true (.tuple #[])) fun t6 w43=>
 so w43 156 t6 t35 fun w44=>fl w44 t6 156 2 4 fun t37=>za (fun K45=>gIf t37 true (fl w44 t3 50 1 2 fun t40=>bt .eql 2 t40 (i6 0) fun t41=>K45 [t41] w44) (K45 [undef] w44)) (fun s46 _d47 w48=>
 zb t37 (s46.getD 0 undef) fa_ fun t42=>fl w48 t3 50 0 48 fun t44=>bt .eql 48 t44 (Value.int .u8 3) fun t46=>zc t46 (fl w48.drew t6 156 0 31 fun t48=>za (fun K49=>gIf t42 true (fl w48.drew t6 156 0 31 fun t52=>ca kN #[t52] w48.drew fun t53 w53=>
 Ext w48.drew w53∧
 K49 [t53] w53) (K49 [undef] w48.drew)) (fun s50 _d51 w52=>
 zb t42 (s50.getD 0 undef) fa_ fun t54=>so w52 31 t4 t48 fun w54=>pq w54 (zf 31 t4) fun r55=>K (.tuple #[r55,t54]) w54)) (bt .eql 48 t44 (Value.int .u8 4) fun t56=>zc t56 (fl w48.drew t6 156 0 31 fun t58=>za (fun K56=>gIf t42 true (fl w48.drew t6 156 0 31 fun t62=>ca kN #[t62] w48.drew fun t63 w60=>
 Ext w48.drew w60∧
 pp (Op.unary .not t63) fun t64=>K56 [t64] w60) (K56 [undef] w48.drew)) (fun s57 _d58 w59=>
 zb t42 (s57.getD 0 undef) fa_ fun t65=>za (fun K61=>gIf t65 true (pf 156 t6 1 fun t67=>K61 [t67] w59) (K61 [undef] w59)) (fun s62 _d63 w64=>
 ((za (fun K65=>gIf t65 true (pw w64 (Instr.loadAt 3 (s62.getD 0 undef)) fun t68 w69=>
 Ext w64 w69∧
 bt .lss 3 t68 (i6 2) fun t69=>K65 [t69] w69) (K65 [undef] w64)) (fun s66 _d67 w68=>
 zb t65 (s66.getD 0 undef) fa_ fun t70=>so w68 31 t4 t58 fun w70=>pq w70 (zf 31 t4) fun r71=>K (.tuple #[r71,t70]) w70))∧
 (so w64 31 t4 t58 fun w72=>za (fun K73=>gIf t65 true (pw w72 (Instr.loadAt 3 (s62.getD 0 undef)) fun t68_78 w77=>
 Ext w72 w77∧
 bt .lss 3 t68_78 (i6 2) fun t69_79=>K73 [t69_79] w77) (K73 [undef] w72)) (fun s74 _d75 w76=>
 zb t65 (s74.getD 0 undef) fa_ fun t70_80=>pq w76 (zf 31 t4) fun r81=>K (.tuple #[r81,t70_80]) w76)))))) (pp (Instr.build 31 #[]) fun t71=>so w48 31 t4 t71 fun w82=>pq w82 (zf 31 t4) fun r83=>K (.tuple #[r83,fa_]) w82)))))
theorem Yu {t0 t1 : Value} {w : World} {K : VW} (h : qQ t0 t1 w K) : ze prog yC #[t0,t1] w K:=
 okC false (.s (.r (rz 4 0 42)) (.s (.s (.r (rz 2 0 4)) (.b (.s (.r (rz 2 0 0)) (.c (.s (.r (rz 6 0 656)) (.n)) (.s (.r (rz 2 0 0)) (.c (.s (.r (ra 5 0 144 (.grp 22 true (ri 4 5 4) [26] (.grp 26 false (ri 1 9 0) [27] (.bth (.grp 26 false (ri 2 10 2) [29] (.grp 22 true (ri 1 12 0) [30] (rz 3 13 8))) (ra 1 14 2 (.grp 26 false (ri 2 10 2) [29] (.grp 22 true (ri 1 12 0) [30] (ra 1 13 0 (rz 1 15 0)))))))))) (.n)) (.n))))))) (.s (.r (rz 6 0 2705)) (.s (.r (ra 3 0 4 (.grp 38 true (ri 3 3 4) [41] (rz 2 6 0)))) (.s (.s (.r (rz 2 0 4)) (.b (.s (.r (rz 2 0 0)) (.c (.s (.r (ra 4 0 4 (.grp 50 true (ri 3 4 52) [53] (rz 3 7 8)))) (.n)) (.s (.r (rz 2 0 0)) (.c (.s (.r (ra 4 0 4 (.grp 60 true (ri 4 4 52) [64] (ra 2 8 0 (.grp 66 true (ri 1 10 0) [67] (.bth (.grp 66 true (ri 2 11 3) [69] (rz 3 13 8)) (ra 1 14 2 (.grp 66 true (ri 2 11 3) [69] (ra 1 13 0 (rz 1 15 0)))))))))) (.n)) (.n))))))) (.s (.r (rz 3 0 8)) (.n))))))) func107 rfl (by kernel_rfl) (by kernel_rfl) h
def qR (t0 t1 : Value) (w : World) (K : VW) : Prop:=
 pw w (Instr.box 31 t0) fun t2 w1=>
 fl w1 t2 31 0 28 fun t6=>bf .eql 28 t6 t1 fun t8=>K t8 w1
theorem Yv {t0 t1 : Value} {w : World} {K : VW} (h : qR t0 t1 w K) : ze prog qM #[t0,t1] w K:=
 okC false (.s (.r (rz 2 0 2)) (.s (.r (rz 5 0 4)) (.n))) func108 rfl (by kernel_rfl) (by kernel_rfl) h
def qS (t0 t1 t2 : Value) (w : World) (K : VW) : Prop:=
 fl w t1 53 4 51 fun t6=>pp (Instr.makeFunc (.func 111) #[] #[t2]) fun t8=>ca zX #[t6,t0,t8] w fun t9 w1=>
 K t9 w1
theorem Yw {t0 t1 t2 : Value} {w : World} {K : VW} (h : qS t0 t1 t2 w K) : ze prog qN #[t0,t1,t2] w K:=
 okC false (.s (.r (rz 1 0 0)) (.s (.r (rz 6 0 516)) (.n))) func109 rfl (by kernel_rfl) (by kernel_rfl) h
def k0 (t0 t1 t2 : Value) (w : World) (K : VW) : Prop:=
 pw w (Instr.box 50 t0) fun t3 w1=>
 pw w1 (Instr.box 31 t1) fun t4 w2=>
 lo w2 149 t2 fun t9=>lo w2 50 t3 fun t10=>ca yC #[t9,t10] w2 fun t11 w3=>
 pe t11 0 fun t12=>pe t11 1 fun t13=>pw w3 (Instr.alloc 31 true (.tuple #[])) fun t6 w4=>
 so w4 31 t6 t12 fun w5=>za (fun K6=>gIf t13 true (lo w5 31 t6 fun t16=>lo w5 31 t4 fun t17=>ca y6 #[t16,t17] w5 fun t18 w10=>
 K6 [t18] w10) (K6 [undef] w5)) (fun s7 _d8 w9=>
 zb t13 (s7.getD 0 undef) fa_ fun t19=>K t19 w9)
theorem Zy {t0 t1 t2 : Value} {w : World} {K : VW} (h : k0 t0 t1 t2 w K) : ze prog kZ #[t0,t1,t2] w K:=
 okC false (.s (.r (rz 3 0 10)) (.s (.r (rz 9 0 40997)) (.s (.r (ra 2 0 0 (.grp 15 true (ri 3 2 37) [18] (rz 2 5 0)))) (.n)))) func111 rfl (by kernel_rfl) (by kernel_rfl) h
def X4 (t0 t1 : Value) (w : World) (K : VW) : Prop:=
 pw w (Instr.box 53 t0) fun t2 w1=>
 pw w1 (Instr.box 163 t1) fun t3 w2=>
 fl w2.drew t3 163 0 4 fun t8=>fl w2.drew t3 163 1 4 fun t15=>fl w2.drew t3 163 2 4 fun t23=>fl w2.drew t3 163 3 4 fun t31=>fl w2.drew t3 163 4 4 fun t39=>fl w2.drew t3 163 5 4 fun t46=>fl w2.drew t3 163 6 4 fun t53=>fl w2.drew t3 163 7 4 fun t60=>fl w2.drew t3 163 8 4 fun t67=>fl w2.drew t3 163 9 4 fun t74=>za (fun K3=>gIf t8 false (fl w2.drew t2 53 1 47 fun t11=>ca xh #[t11] w2.drew fun t12 w7=>
 Ext w2.drew w7∧
 K3 [t12] w7) (K3 [undef] w2.drew)) (fun s4 _d5 w6=>
 zb t8 tr_ (s4.getD 0 undef) fun t13=>za (fun K8=>gIf t15 false (fl w6 t2 53 2 50 fun t19=>cv (Value.func (.func 123) #[] #[]) #[t19] w6 fun t20 w12=>
 Ext w6 w12∧
 K8 [t20] w12) (K8 [undef] w6)) (fun s9 _d10 w11=>
 zb t15 tr_ (s9.getD 0 undef) fun t21=>za (fun K13=>gIf t23 false (fl w11 t2 53 3 50 fun t27=>cv (Value.func (.func 123) #[] #[]) #[t27] w11 fun t28 w17=>
 Ext w11 w17∧
 K13 [t28] w17) (K13 [undef] w11)) (fun s14 _d15 w16=>
 zb t23 tr_ (s14.getD 0 undef) fun t29=>za (fun K18=>gIf t31 false (fl w16 t2 53 4 51 fun t34=>pp (Builtin.len_ #[51] 3 #[t34]) fun t35=>bt .eql 3 t35 (i6 0) fun t36=>K18 [t36] w16) (K18 [undef] w16)) (fun s19 _d20 w21=>
 zb t31 tr_ (s19.getD 0 undef) fun t37=>za (fun K22=>gIf t39 false (fl w21 t2 53 5 9 fun t42=>bt .eql 9 t42 (Value.string { data:=#[] }) fun t43=>K22 [t43] w21) (K22 [undef] w21)) (fun s23 _d24 w25=>
 zb t39 tr_ (s23.getD 0 undef) fun t44=>za (fun K26=>gIf t46 false (fl w25 t2 53 6 47 fun t49=>ca xh #[t49] w25 fun t50 w30=>
 Ext w25 w30∧
 K26 [t50] w30) (K26 [undef] w25)) (fun s27 _d28 w29=>
 zb t46 tr_ (s27.getD 0 undef) fun t51=>za (fun K31=>gIf t53 false (fl w29 t2 53 7 4 fun t56=>pp (Op.unary .not t56) fun t57=>K31 [t57] w29) (K31 [undef] w29)) (fun s32 _d33 w34=>
 zb t53 tr_ (s32.getD 0 undef) fun t58=>za (fun K35=>gIf t60 false (fl w34 t2 53 8 3 fun t63=>bt .eql 3 t63 (i6 0) fun t64=>K35 [t64] w34) (K35 [undef] w34)) (fun s36 _d37 w38=>
 zb t60 tr_ (s36.getD 0 undef) fun t65=>za (fun K39=>gIf t67 false (fl w38 t2 53 9 3 fun t70=>bt .eql 3 t70 (i6 0) fun t71=>K39 [t71] w38) (K39 [undef] w38)) (fun s40 _d41 w42=>
 zb t67 tr_ (s40.getD 0 undef) fun t72=>za (fun K43=>gIf t74 false (fl w42 t2 53 11 3 fun t77=>bt .eql 3 t77 (i6 0) fun t78=>K43 [t78] w42) (K43 [undef] w42)) (fun s44 _d45 w46=>
 zb t74 tr_ (s44.getD 0 undef) fun t79=>pw w46 (Instr.buildSlice 174 10 #[(0,t13),(1,t21),(2,t29),(3,t37),(4,t44),(5,t51),(6,t58),(7,t65),(8,t72),(9,t79)]) fun t80 w47=>
 ca yV #[t80,fa_] w47 fun t82 w48=>
 pp (Op.unary .not t82) fun t83=>K t83 w48))))))))))
theorem abs {t0 t1 : Value} {w : World} {K : VW} (h : X4 t0 t1 w K) : ze prog zT #[t0,t1] w K:=
 okC false (.s (.r (rz 3 0 10)) (.s (.r (rz 1 0 0)) (.s (.r (ra 3 0 4 (ra 2 7 4 (ra 2 15 4 (ra 2 23 4 (ra 2 31 4 (ra 2 38 4 (ra 2 45 4 (ra 2 52 4 (ra 2 59 4 (ra 2 66 4 (.grp 9 false (ri 3 3 52) [12] (ra 1 6 0 (ra 1 9 0 (.grp 16 false (ri 4 10 208) [20] (ra 1 14 0 (ra 1 17 0 (.grp 24 false (ri 4 18 208) [28] (ra 1 22 0 (ra 1 25 0 (ra 1 33 0 (ra 1 40 0 (.grp 32 false (ri 4 26 4) [36] (ra 1 30 0 (.grp 40 false (ri 3 34 4) [43] (ra 1 37 0 (.grp 47 false (ri 3 41 52) [50] (ra 1 44 0 (ra 1 47 0 (ra 1 54 0 (ra 1 61 0 (ra 1 68 0 (.grp 54 false (ri 3 48 4) [57] (ra 1 51 0 (.grp 61 false (ri 3 55 4) [64] (ra 1 58 0 (.grp 68 false (ri 3 62 4) [71] (ra 1 65 0 (.grp 75 false (ri 3 69 4) [78] (rz 3 72 8)))))))))))))))))))))))))))))))))))))))) (.s (.r (rz 4 0 8)) (.n))))) func113 rfl (by kernel_rfl) (by kernel_rfl) h
def Z0 (t0 t1 : Value) (w : World) (K : VW) : Prop:=
 pw w (Instr.box 132 t1) fun t3 w1=>
 pw w1 (Instr.alloc 177 true (.tuple #[])) fun t4 w2=>
 pp (Instr.makeFunc (.func 129) #[] #[t3,t4]) fun t7=>so w2 177 t4 t7 fun w3=>pp (Builtin.len_ #[29] 3 #[t0]) fun t9=>zt [(i6 0)] w3 (fun s5 _d6 w7 K4=>
 bf .lss 3 (s5.getD 0 undef) t9 fun t11=>zc t11 (xl w7 29 t0 (s5.getD 0 undef) 31 fun t13=>pw w7 (Instr.alloc 31 true (.tuple #[])) fun t6 w8=>
 so w8 31 t6 t13 fun w9=>lo w9.drew 177 t4 fun t14=>lo w9.drew 31 t6 fun t15=>ca yI #[t15] w9.drew fun t16 w10=>
 Ext w9.drew w10∧
 cv t14 #[t16] w10 fun _t17 w11=>
 bt .add 3 (s5.getD 0 undef) (i6 1) fun t18=>K4 [t18] w11) (K (.tuple #[]) w7))
theorem JI {t0 t1 : Value} {w : World} {K : VW} (h : Z0 t0 t1 w K) : ze prog jc #[t0,t1] w K:=
 okC false (.s (.r (rz 1 0 2)) (.s (.r (rz 1 0 2)) (.s (.r (rz 2 0 8)) (.s (.r (rz 3 0 0)) (.b (.lp [10] (.s (.r (rz 1 0 0)) (.s (.c (.n) (.n)) (.s (.b (.s (.r (rz 4 0 164)) (.r (rz 4 0 181)))) (.r (rz 2 0 0))))))))))) func118 rfl (by kernel_rfl) (by kernel_rfl) h
def X5 (t0 : Value) (w : World) (K : VW) : Prop:=
 pw w (Instr.box 47 t0) fun t1 w1=>
 fl w1 t1 47 0 3 fun t4=>bt .eql 3 t4 (i6 0) fun t5=>za (fun K2=>gIf t5 true (fl w1 t1 47 1 45 fun t8=>pp (Builtin.len_ #[45] 3 #[t8]) fun t9=>bt .eql 3 t9 (i6 0) fun t10=>K2 [t10] w1) (K2 [undef] w1)) (fun s3 _d4 w5=>
 zb t5 (s3.getD 0 undef) fa_ fun t11=>K t11 w5)
theorem abt {t0 : Value} {w : World} {K : VW} (h : X5 t0 w K) : ze prog xh #[t0] w K:=
 okC false (.s (.r (rz 2 0 2)) (.s (.r (ra 4 0 4 (.grp 6 true (ri 4 4 4) [10] (rz 2 8 0)))) (.n))) func119 rfl (by kernel_rfl) (by kernel_rfl) h
def YK (t0 : Value) (w : World) (K : VW) : Prop:=
 pw w (Instr.box 50 t0) fun t1 w1=>
 fl w1 t1 50 0 48 fun t4=>bt .eql 48 t4 (Value.int .u8 0) fun t5=>za (fun K2=>gIf t5 true (fl w1 t1 50 1 2 fun t8=>bt .eql 2 t8 (i6 0) fun t9=>K2 [t9] w1) (K2 [undef] w1)) (fun s3 _d4 w5=>
 zb t5 (s3.getD 0 undef) fa_ fun t10=>za (fun K6=>gIf t10 true (fl w5 t1 50 2 47 fun t13=>ca xh #[t13] w5 fun t14 w10=>
 K6 [t14] w10) (K6 [undef] w5)) (fun s7 _d8 w9=>
 zb t10 (s7.getD 0 undef) fa_ fun t15=>K t15 w9))
theorem Vu {t0 : Value} {w : World} {K : VW} (h : YK t0 w K) : ze prog YF #[t0] w K:=
 okC false (.s (.r (rz 2 0 2)) (.s (.r (ra 4 0 4 (.grp 6 true (ri 3 4 4) [9] (ra 2 7 0 (.grp 11 true (ri 3 9 36) [14] (rz 2 12 0)))))) (.n))) func123 rfl (by kernel_rfl) (by kernel_rfl) h
def k8 (t0 t1 t2 : Value) (w : World) (K : VW) : Prop:=
 pp (Builtin.len_ #[39] 3 #[t0]) fun t7=>bt .eql 3 t7 (i6 0) fun t8=>zc t8 (K (.tuple #[]) w) (pp (Instr.sliceAt 39 t0 (some (i6 1)) none none) fun t10=>pp (Builtin.len_ #[39] 3 #[t10]) fun t11=>zt [(i6 0)] w (fun s2 _d3 w4 K1=>
 bf .lss 3 (s2.getD 0 undef) t11 fun t13=>zc t13 (xl w4 39 t10 (s2.getD 0 undef) 3 fun t15=>lo w4.drew 132 t1 fun t16=>xl w4.drew 39 t0 (i6 0) 3 fun t20=>JB t16 fun t21=>px 130 t21 t15 fun t22=>px 129 t22 t20 fun t23=>so w4.drew 4 t23 tr_ fun w5=>bt .add 3 (s2.getD 0 undef) (i6 1) fun t24=>K1 [t24] w5) (lo w4.drew 177 t2 fun t25=>pp (Instr.sliceAt 39 t0 (some (i6 1)) none none) fun t27=>cv t25 #[t27] w4.drew fun _t28 w6=>
 K (.tuple #[]) w6)))
theorem vh {t0 t1 t2 : Value} {w : World} {K : VW} (h : k8 t0 t1 t2 w K) : ze prog vN #[t0,t1,t2] w K:=
 okC false (.s (.s (.r (rz 3 0 0)) (.c (.n) (.n))) (.s (.s (.r (rz 4 0 0)) (.b (.lp [12] (.s (.r (rz 1 0 0)) (.s (.c (.n) (.n)) (.s (.b (.s (.r (rz 3 0 4)) (.r (rz 9 0 131329)))) (.r (rz 2 0 0)))))))) (.r (rz 4 0 129)))) func129 rfl (by kernel_rfl) (by kernel_rfl) h
end Go.Proofs.Tryz
end
section
namespace Go.Proofs.Tryz
open Go.Sh
set_option maxRecDepth 100000
def yO (t0 t1 : Value) (w : World) (K : VW) : Prop:=
 ca yz #[t0,t1] w fun t7 w1=>
 bt .geq 3 t7 (i6 0) fun t8=>K t8 w1
theorem xu {t0 t1 : Value} {w : World} {K : VW} (h : yO t0 t1 w K) : ze prog zP #[t0,t1] w K:=
 okC false (.s (.r (rz 1 0 0)) (.s (.r (rz 5 0 32)) (.n))) func34 rfl (by kernel_rfl) (by kernel_rfl) h
def y8 (t0 t1 : Value) (w : World) (K : VW) : Prop:=
 pp (Builtin.len_ #[39] 3 #[t0]) fun t7=>zt [(i6 0)] w (fun s2 _d3 w4 K1=>
 bf .lss 3 (s2.getD 0 undef) t7 fun t9=>zc t9 (xl w4 39 t0 (s2.getD 0 undef) 3 fun t15=>cv t1 #[t15] w4 fun t16 w5=>
 zc t16 (K (s2.getD 0 undef) w5) (bt .add 3 (s2.getD 0 undef) (i6 1) fun t18=>K1 [t18] w5)) (K (i6 (-1)) w4))
theorem xM {t0 t1 : Value} {w : World} {K : VW} (h : y8 t0 t1 w K) : ze prog yz #[t0,t1] w K:=
 okC false (.s (.r (rz 1 0 0)) (.s (.s (.r (rz 3 0 0)) (.b (.lp [8] (.s (.r (rz 1 0 0)) (.s (.c (.n) (.n)) (.s (.b (.s (.r (rz 2 0 0)) (.s (.r (rz 6 0 2304)) (.c (.s (.r (rz 2 0 0)) (.n)) (.n))))) (.r (rz 2 0 0)))))))) (.s (.r (rz 1 0 0)) (.n)))) func50 rfl (by kernel_rfl) (by kernel_rfl) h
def yF (t0 t1 : Value) (w : World) (K : VW) : Prop:=
 ca yP #[t0,t1] w fun t7 w1=>
 bt .geq 3 t7 (i6 0) fun t8=>K t8 w1
theorem xI {t0 t1 : Value} {w : World} {K : VW} (h : yF t0 t1 w K) : ze prog zN #[t0,t1] w K:=
 okC false (.s (.r (rz 1 0 0)) (.s (.r (rz 5 0 32)) (.n))) func68 rfl (by kernel_rfl) (by kernel_rfl) h
def zY (t0 t1 t2 : Value) (w : World) (K : VW) : Prop:=
 pp (Builtin.len_ #[51] 3 #[t0]) fun t11=>pp (Builtin.len_ #[29] 3 #[t1]) fun t13=>bf .neq 3 t11 t13 fun t14=>zc t14 (K fa_ w) (pp (Builtin.len_ #[51] 3 #[t0]) fun t16=>zt [(i6 0)] w (fun s2 _d3 w4 K1=>
 bf .lss 3 (s2.getD 0 undef) t16 fun t18=>zc t18 (xl w4 51 t0 (s2.getD 0 undef) 50 fun t21=>pw w4 (Instr.alloc 50 true (.tuple #[])) fun t8 w5=>
 so w5 50 t8 t21 fun w6=>xl w6 29 t1 (s2.getD 0 undef) 31 fun t25=>pw w6 (Instr.alloc 31 true (.tuple #[])) fun t9 w7=>
 so w7 31 t9 t25 fun w8=>lo w8 50 t8 fun t27=>lo w8 31 t9 fun t28=>cv t2 #[t27,t28] w8 fun t29 w9=>
 pp (Op.unary .not t29) fun t30=>zc t30 (K fa_ w9) (bt .add 3 (s2.getD 0 undef) (i6 1) fun t31=>K1 [t31] w9)) (K tr_ w4)))
theorem yG {t0 t1 t2 : Value} {w : World} {K : VW} (h : zY t0 t1 t2 w K) : ze prog zX #[t0,t1,t2] w K:=
 okC false (.s (.r (rz 1 0 0)) (.s (.s (.r (rz 5 0 0)) (.c (.s (.r (rz 1 0 0)) (.n)) (.n))) (.s (.s (.r (rz 3 0 0)) (.b (.lp [17] (.s (.r (rz 1 0 0)) (.s (.c (.n) (.n)) (.s (.b (.s (.r (rz 6 0 2192)) (.s (.r (rz 6 0 2624)) (.s (.r (rz 5 0 148)) (.c (.s (.r (rz 1 0 0)) (.n)) (.n)))))) (.r (rz 2 0 0)))))))) (.s (.r (rz 1 0 0)) (.n))))) func110 rfl (by kernel_rfl) (by kernel_rfl) h
def yM (t0 t1 : Value) (w : World) (K : VW) : Prop:=
 ca yh #[t0,t1] w fun t7 w1=>
 bt .geq 3 t7 (i6 0) fun t8=>K t8 w1
theorem xT {t0 t1 : Value} {w : World} {K : VW} (h : yM t0 t1 w K) : ze prog yc #[t0,t1] w K:=
 okC false (.s (.r (rz 1 0 0)) (.s (.r (rz 5 0 32)) (.n))) func53 rfl (by kernel_rfl) (by kernel_rfl) h
def yQ (t0 t1 : Value) (w : World) (K : VW) : Prop:=
 pp (Builtin.len_ #[62] 3 #[t0]) fun t7=>zt [(i6 0)] w (fun s2 _d3 w4 K1=>
 bf .lss 3 (s2.getD 0 undef) t7 fun t9=>zc t9 (xl w4 62 t0 (s2.getD 0 undef) 105 fun t15=>cv t1 #[t15] w4 fun t16 w5=>
 zc t16 (K (s2.getD 0 undef) w5) (bt .add 3 (s2.getD 0 undef) (i6 1) fun t18=>K1 [t18] w5)) (K (i6 (-1)) w4))
theorem x7 {t0 t1 : Value} {w : World} {K : VW} (h : yQ t0 t1 w K) : ze prog yP #[t0,t1] w K:=
 okC false (.s (.r (rz 1 0 0)) (.s (.s (.r (rz 3 0 0)) (.b (.lp [8] (.s (.r (rz 1 0 0)) (.s (.c (.n) (.n)) (.s (.b (.s (.r (rz 2 0 0)) (.s (.r (rz 6 0 2304)) (.c (.s (.r (rz 2 0 0)) (.n)) (.n))))) (.r (rz 2 0 0)))))))) (.s (.r (rz 1 0 0)) (.n)))) func95 rfl (by kernel_rfl) (by kernel_rfl) h
def xN (t0 t1 : Value) (w : World) (K : VW) : Prop:=
 ca kF #[t0,t1] w fun t7 w1=>
 bt .geq 3 t7 (i6 0) fun t8=>K t8 w1
theorem jQ {t0 t1 : Value} {w : World} {K : VW} (h : xN t0 t1 w K) : ze prog yV #[t0,t1] w K:=
 okC false (.s (.r (rz 1 0 0)) (.s (.r (rz 5 0 32)) (.n))) func124 rfl (by kernel_rfl) (by kernel_rfl) h
def yW (t0 t1 : Value) (w : World) (K : VW) : Prop:=
 pp (Builtin.len_ #[29] 3 #[t0]) fun t7=>zt [(i6 0)] w (fun s2 _d3 w4 K1=>
 bf .lss 3 (s2.getD 0 undef) t7 fun t9=>zc t9 (xl w4 29 t0 (s2.getD 0 undef) 31 fun t15=>cv t1 #[t15] w4 fun t16 w5=>
 zc t16 (K (s2.getD 0 undef) w5) (bt .add 3 (s2.getD 0 undef) (i6 1) fun t18=>K1 [t18] w5)) (K (i6 (-1)) w4))
theorem kA {t0 t1 : Value} {w : World} {K : VW} (h : yW t0 t1 w K) : ze prog yh #[t0,t1] w K:=
 okC false (.s (.r (rz 1 0 0)) (.s (.s (.r (rz 3 0 0)) (.b (.lp [8] (.s (.r (rz 1 0 0)) (.s (.c (.n) (.n)) (.s (.b (.s (.r (rz 2 0 0)) (.s (.r (rz 6 0 2304)) (.c (.s (.r (rz 2 0 0)) (.n)) (.n))))) (.r (rz 2 0 0)))))))) (.s (.r (rz 1 0 0)) (.n)))) func75 rfl (by kernel_rfl) (by kernel_rfl) h
def kG (t0 t1 : Value) (w : World) (K : VW) : Prop:=
 pp (Builtin.len_ #[174] 3 #[t0]) fun t7=>zt [(i6 0)] w (fun s2 _d3 w4 K1=>
 bf .lss 3 (s2.getD 0 undef) t7 fun t9=>zc t9 (xl w4 174 t0 (s2.getD 0 undef) 4 fun t15=>bf .eql 4 t1 t15 fun t16=>zc t16 (K (s2.getD 0 undef) w4) (bt .add 3 (s2.getD 0 undef) (i6 1) fun t18=>K1 [t18] w4)) (K (i6 (-1)) w4))
theorem vZ {t0 t1 : Value} {w : World} {K : VW} (h : kG t0 t1 w K) : ze prog kF #[t0,t1] w K:=
 okC false (.s (.r (rz 1 0 0)) (.s (.s (.r (rz 3 0 0)) (.b (.lp [8] (.s (.r (rz 1 0 0)) (.s (.c (.n) (.n)) (.s (.b (.s (.r (rz 2 0 0)) (.s (.r (rz 6 0 256)) (.c (.s (.r (rz 2 0 0)) (.n)) (.n))))) (.r (rz 2 0 0)))))))) (.s (.r (rz 1 0 0)) (.n)))) func130 rfl (by kernel_rfl) (by kernel_rfl) h
end Go.Proofs.Tryz
end
