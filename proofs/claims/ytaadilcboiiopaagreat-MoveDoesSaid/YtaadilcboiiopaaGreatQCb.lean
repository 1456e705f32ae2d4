/-
  Contracts and plain laws that the last text leans on.
-/
import Derived.Test.YtaadilcboiiopaaGreatProg
import Derived.Test.YtaadilcboiiopaaGreatQCa
import Derived.KernelRfl
import Derived.ArgAppend
set_option maxRecDepth 100000
set_option maxHeartbeats 8000000
set_option linter.unusedVariables false
set_option linter.unusedSimpArgs false
namespace Go.Proofs
open Go.Sh
theorem Tryz.mixed:Tryz.prog.follows .mixedOrders=true:=by kernel_rfl
namespace Tryz
abbrev VW:=Value→World→Prop
abbrev fa(v:Value)(T:TypeId)(i:Nat)(k:Value→Prop):Prop:=abU v λa=>opP prog (Instr.fieldAt T a i) k
abbrev pf(T:TypeId)(v:Value)(i:Nat)(k:Value→Prop):Prop:=opP prog (Instr.fieldAt T v i) k
abbrev lo(w:World)(T:TypeId)(v:Value)(k:Value→Prop):Prop:=opQ prog w (Instr.loadAt T v) k
abbrev ff(w:World)(v:Value)(T:TypeId)(i:Nat)(U:TypeId)(k:Value→Prop):Prop:=abU v λa=>opP prog (Instr.fieldAt T a i) λb=>opQ prog w (Instr.loadAt U b) k
abbrev fl(w:World)(v:Value)(T:TypeId)(i:Nat)(U:TypeId)(k:Value→Prop):Prop:=opP prog (Instr.fieldAt T v i) λb=>opQ prog w (Instr.loadAt U b) k
abbrev px(T:TypeId)(v i:Value)(k:Value→Prop):Prop:=opP prog (Instr.indexAt T v i) k
abbrev xl(w:World)(T:TypeId)(v i:Value)(U:TypeId)(k:Value→Prop):Prop:=opP prog (Instr.indexAt T v i) λb=>opQ prog w (Instr.loadAt U b) k
abbrev bt(o:BinOp)(T:TypeId)(x y:Value)(k:Value→Prop):Prop:=opP prog (yR o T true x y) k
abbrev bf(o:BinOp)(T:TypeId)(x y:Value)(k:Value→Prop):Prop:=opP prog (yR o T false x y) k
abbrev pe(x:Value)(i:Nat)(k:Value→Prop):Prop:=opP prog (Instr.extract x i) k
abbrev so(w:World)(T:TypeId)(x y:Value)(k:World→Prop):Prop:=opU prog w (Instr.storeAt T x y) k
abbrev pp(s:Sem Value)(k:Value→Prop):Prop:=opP prog s k
abbrev pq(w:World)(s:Sem Value)(k:Value→Prop):Prop:=opQ prog w s k
abbrev pw(w:World)(s:Sem Value)(k:Value→World→Prop):Prop:=opW prog w s k
abbrev pu(w:World)(s:Sem Unit)(k:World→Prop):Prop:=opU prog w s k
abbrev ca(f:FuncId)(a:Array Value)(w:World)(k:Value→World→Prop):Prop:=zd prog f a w k
abbrev cv(f:Value)(a:Array Value)(w:World)(k:Value→World→Prop):Prop:=zF prog f a w k
abbrev i6(n:Int):Value:=.int .i64 n
abbrev tr_:Value:=.bool true
abbrev fa_:Value:=.bool false
theorem okC(m:Bool)(A:Ann){f:FuncId}{fn:Func}{args:Array Value}{w:World}{K:VW}{X:Prop}(hf:prog.funcs[f]? = some fn)(hb:fn.body.isSome=true)(hc:qv ⟨m,false⟩ prog false A (Ym fn)=true)
  (he:sw ⟨m,false⟩ prog (λ_ _=>False) A (Ym fn) (args.toList++List.replicate (fn.ntmps-args.size) u_) w (akf m prog fn w K)=X) (h:X):zd prog f args w K:=
 ahv (cf:=⟨m,false⟩) mixed hf hb ((al8 ..).symm.trans hc) (he.mpr h)
abbrev xC:FuncId:=73
abbrev vF:FuncId:=57
end Tryz
abbrev Tryz.je:FuncId:=170
instance:LdN Tryz.prog 112 5:=⟨by kernel_rfl⟩
instance:SzT Tryz.prog 112 5:=⟨by kernel_rfl⟩
abbrev Tryz.qT:FuncId:=198
abbrev Tryz.Yb:FuncId:=206
instance:ZrT Tryz.prog 112 [(.int .u8 0),(.bool false),(.int .i64 0),(.int .i64 0),(.slice none 0 0)]:=⟨by kernel_rfl⟩
instance:zI Tryz.prog 112 4 4:=⟨by kernel_rfl⟩
instance:Ld1 Tryz.prog 70:=⟨by kernel_rfl⟩
instance:SzT Tryz.prog 70 1:=⟨by kernel_rfl⟩
instance:SlT Tryz.prog 70 112 5:=⟨by kernel_rfl⟩
instance:Ld1 Tryz.prog 3:=⟨by kernel_rfl⟩
instance:SzT Tryz.prog 3 1:=⟨by kernel_rfl⟩
abbrev Tryz.jf:FuncId:=138
instance:Ld1 Tryz.prog 26:=⟨by kernel_rfl⟩
instance:SzT Tryz.prog 26 1:=⟨by kernel_rfl⟩
instance:SlT Tryz.prog 26 3 1:=⟨by kernel_rfl⟩
instance:ZrT Tryz.prog 26 [(.slice none 0 0)]:=⟨by kernel_rfl⟩
abbrev Tryz.kE:FuncId:=101
instance:Ld1 Tryz.prog 22:=⟨by kernel_rfl⟩
instance:SlT Tryz.prog 22 68 2:=⟨by kernel_rfl⟩
instance:ZrT Tryz.prog 3 [(.int .i64 0)]:=⟨by kernel_rfl⟩
instance:SlT Tryz.prog 192 163 1:=⟨by kernel_rfl⟩
instance:Ld1 Tryz.prog 163:=⟨by kernel_rfl⟩
abbrev Tryz.qU:FuncId:=104
abbrev Tryz.Zc:FuncId:=188
instance:zI Tryz.prog 112 0 0:=⟨by kernel_rfl⟩
instance:Ld1 Tryz.prog 110:=⟨by kernel_rfl⟩
abbrev Tryz.kU:FuncId:=137
instance:zI Tryz.prog 112 1 1:=⟨by kernel_rfl⟩
instance:Ld1 Tryz.prog 4:=⟨by kernel_rfl⟩
instance:SzT Tryz.prog 4 1:=⟨by kernel_rfl⟩
instance:KdB Tryz.prog 4:=⟨by kernel_rfl⟩
instance:zI Tryz.prog 112 2 2:=⟨by kernel_rfl⟩
instance:zI Tryz.prog 112 3 3:=⟨by kernel_rfl⟩
abbrev Tryz.jP:FuncId:=189
instance:ApT Tryz.prog 26 3 1 8:=⟨by kernel_rfl⟩
abbrev Tryz.kQ:FuncId:=134
instance:zI Tryz.prog 68 1 1:=⟨by kernel_rfl⟩
instance:Ld1 Tryz.prog 66:=⟨by kernel_rfl⟩
instance:SlT Tryz.prog 66 161 6:=⟨by kernel_rfl⟩
instance:LdN Tryz.prog 161 6:=⟨by kernel_rfl⟩
instance:SzT Tryz.prog 161 6:=⟨by kernel_rfl⟩
abbrev Tryz.VA:FuncId:=136
instance:zI Tryz.prog 161 1 1:=⟨by kernel_rfl⟩
abbrev Tryz.kR:FuncId:=139
abbrev Tryz.Zd:FuncId:=140
instance:ArT Tryz.prog 247 32 4 1:=⟨by kernel_rfl⟩
instance:ZrT Tryz.prog 247 [(.bool false),(.bool false),(.bool false),(.bool false),(.bool false),(.bool false),(.bool false),(.bool false),(.bool false),(.bool false),(.bool false),(.bool false),(.bool false),(.bool false),(.bool false),(.bool false),(.bool false),(.bool false),(.bool false),(.bool false),(.bool false),(.bool false),(.bool false),(.bool false),(.bool false),(.bool false),(.bool false),(.bool false),(.bool false),(.bool false),(.bool false),(.bool false)]:=⟨by kernel_rfl⟩
instance:ZrT Tryz.prog 161 [(.string ByteArray.empty),(.int .u8 0),(.bool false),(.int .i64 0),(.int .i64 0),(.slice none 0 0)]:=⟨by kernel_rfl⟩
abbrev Tryz.kS:FuncId:=141
abbrev Tryz.j6:FuncId:=142
abbrev Tryz.YD:FuncId:=143
abbrev Tryz.xN:FuncId:=180
abbrev Tryz.ZQ:FuncId:=182
instance:ApT Tryz.prog 70 112 5 48:=⟨by kernel_rfl⟩
abbrev Tryz.YE:FuncId:=183
abbrev Tryz.jA:FuncId:=201
abbrev Tryz.j7:FuncId:=202
abbrev Tryz.X6:FuncId:=203
abbrev Tryz.j8:FuncId:=207
abbrev Tryz.acS:FuncId:=213
abbrev Tryz.QA:FuncId:=70
instance:LdN Tryz.prog 25 3:=⟨by kernel_rfl⟩
instance:SzT Tryz.prog 25 3:=⟨by kernel_rfl⟩
abbrev Tryz.YF:FuncId:=96
instance:zI Tryz.prog 25 0 0:=⟨by kernel_rfl⟩
instance:zI Tryz.prog 25 1 1:=⟨by kernel_rfl⟩
instance:Ld1 Tryz.prog 23:=⟨by kernel_rfl⟩
instance:SlT Tryz.prog 23 74 7:=⟨by kernel_rfl⟩
instance:LdN Tryz.prog 74 7:=⟨by kernel_rfl⟩
instance:SzT Tryz.prog 74 7:=⟨by kernel_rfl⟩
instance:zI Tryz.prog 25 2 2:=⟨by kernel_rfl⟩
instance:ZrT Tryz.prog 74 [(.string ByteArray.empty),(.int .i64 0),(.slice none 0 0),(.int .i64 0),(.slice none 0 0),(.slice none 0 0),(.slice none 0 0)]:=⟨by kernel_rfl⟩
instance:LdN Tryz.prog 180 10:=⟨by kernel_rfl⟩
instance:SzT Tryz.prog 180 10:=⟨by kernel_rfl⟩
instance:ZrT Tryz.prog 180 [(.slice none 0 0),(.slice none 0 0),(.int .i64 0),(.string ByteArray.empty),(.int .i64 0),(.slice none 0 0),(.int .i64 0),(.slice none 0 0),(.slice none 0 0),(.slice none 0 0)]:=⟨by kernel_rfl⟩
instance:zI Tryz.prog 74 6 6:=⟨by kernel_rfl⟩
instance:Ld1 Tryz.prog 72:=⟨by kernel_rfl⟩
instance:SlT Tryz.prog 72 94 21:=⟨by kernel_rfl⟩
instance:LdN Tryz.prog 94 21:=⟨by kernel_rfl⟩
instance:SzT Tryz.prog 94 21:=⟨by kernel_rfl⟩
instance:ZrT Tryz.prog 94 [(.int .u8 0),(.int .i64 0),(.slice none 0 0),(.int .u8 0),(.int .i64 0),(.int .i64 0),(.slice none 0 0),(.int .u8 0),(.int .i64 0),(.int .i64 0),(.slice none 0 0),(.slice none 0 0),(.string ByteArray.empty),(.int .i64 0),(.slice none 0 0),(.bool false),(.int .i64 0),(.int .i64 0),(.int .i64 0),(.int .i64 0),(.int .i64 0)]:=⟨by kernel_rfl⟩
abbrev Tryz.zz:FuncId:=174
instance:LdN Tryz.prog 228 7:=⟨by kernel_rfl⟩
instance:SzT Tryz.prog 228 7:=⟨by kernel_rfl⟩
instance:ZrT Tryz.prog 228 [(.int .u8 0),(.bool false),(.int .i64 0),(.int .i64 0),(.slice none 0 0),(.int .i64 0),(.bool false)]:=⟨by kernel_rfl⟩
instance:zI Tryz.prog 59 0 0:=⟨by kernel_rfl⟩
instance:zI Tryz.prog 180 1 3:=⟨by kernel_rfl⟩
instance:zI Tryz.prog 74 4 4:=⟨by kernel_rfl⟩
instance:PStep Tryz.prog (Instr.build 228 #[]) (.agg #[(.int .u8 0),(.bool false),(.int .i64 0),(.int .i64 0),(.slice none 0 0),(.int .i64 0),(.bool false)]):=.of λ_ k=>zy (by kernel_rfl) k
instance:zI Tryz.prog 59 1 1:=⟨by kernel_rfl⟩
instance:Ld1 Tryz.prog 57:=⟨by kernel_rfl⟩
instance:SzT Tryz.prog 57 1:=⟨by kernel_rfl⟩
instance:SlT Tryz.prog 57 76 1:=⟨by kernel_rfl⟩
instance:Ld1 Tryz.prog 76:=⟨by kernel_rfl⟩
instance {x0_0:Value} {x0_1:Value} {x0_2:Value} {x0_3:Value} {x0_4:Value} {x2_0:Bool}:PStep Tryz.prog (Instr.build 228 #[(0,.agg #[x0_0,x0_1,x0_2,x0_3,x0_4]),(2,.bool x2_0)]) (.agg #[x0_0,x0_1,x0_2,x0_3,x0_4,(.int .i64 0),.bool x2_0]):=.of λ_ k=>zy (by kernel_rfl) k
instance:zI Tryz.prog 228 0 0:=⟨by kernel_rfl⟩
instance:zI Tryz.prog 228 1 5:=⟨by kernel_rfl⟩
instance:zI Tryz.prog 180 0 0:=⟨by kernel_rfl⟩
abbrev Tryz.Xo:FuncId:=124
instance:zI Tryz.prog 74 1 1:=⟨by kernel_rfl⟩
instance:zI Tryz.prog 74 3 3:=⟨by kernel_rfl⟩
instance:zI Tryz.prog 74 5 5:=⟨by kernel_rfl⟩
instance:Ld1 Tryz.prog 71:=⟨by kernel_rfl⟩
instance:SlT Tryz.prog 71 9 1:=⟨by kernel_rfl⟩
instance:Ld1 Tryz.prog 9:=⟨by kernel_rfl⟩
instance:ako Tryz.prog 9:=⟨by kernel_rfl⟩
instance:zI Tryz.prog 94 0 0:=⟨by kernel_rfl⟩
instance:Ld1 Tryz.prog 92:=⟨by kernel_rfl⟩
abbrev Tryz.qX:FuncId:=125
instance:zI Tryz.prog 94 12 20:=⟨by kernel_rfl⟩
instance:zI Tryz.prog 94 10 18:=⟨by kernel_rfl⟩
instance:zI Tryz.prog 94 1 1:=⟨by kernel_rfl⟩
instance:LdN Tryz.prog 59 2:=⟨by kernel_rfl⟩
instance:SzT Tryz.prog 59 2:=⟨by kernel_rfl⟩
instance:zI Tryz.prog 94 6 13:=⟨by kernel_rfl⟩
instance:zI Tryz.prog 228 2 6:=⟨by kernel_rfl⟩
instance:zI Tryz.prog 94 2 3:=⟨by kernel_rfl⟩
instance:LdN Tryz.prog 61 4:=⟨by kernel_rfl⟩
instance:SzT Tryz.prog 61 4:=⟨by kernel_rfl⟩
instance:zI Tryz.prog 94 3 7:=⟨by kernel_rfl⟩
instance {x0_0:Bool} {x1_0:Bool}:PStep Tryz.prog (Instr.build 235 #[(0,.bool x0_0),(1,.bool x1_0)]) (.agg #[.bool x0_0,.bool x1_0,(.bool false),(.bool false),(.bool false),(.bool false),(.bool false),(.bool false),(.bool false),(.bool false)]):=.of λ_ k=>zy (by kernel_rfl) k
instance {x0_0:Bool} {x1_0:Bool} {x2_0:Bool} {x4_0:Bool}:PStep Tryz.prog (Instr.build 235 #[(0,.bool x0_0),(1,.bool x1_0),(2,.bool x2_0),(4,.bool x4_0)]) (.agg #[.bool x0_0,.bool x1_0,.bool x2_0,(.bool false),.bool x4_0,(.bool false),(.bool false),(.bool false),(.bool false),(.bool false)]):=.of λ_ k=>zy (by kernel_rfl) k
instance:zI Tryz.prog 94 5 12:=⟨by kernel_rfl⟩
instance {x0_0:Bool} {x1_0:Bool} {x4_0:Bool}:PStep Tryz.prog (Instr.build 235 #[(0,.bool x0_0),(1,.bool x1_0),(4,.bool x4_0)]) (.agg #[.bool x0_0,.bool x1_0,(.bool false),(.bool false),.bool x4_0,(.bool false),(.bool false),(.bool false),(.bool false),(.bool false)]):=.of λ_ k=>zy (by kernel_rfl) k
instance {x0_0:Bool} {x5_0:Bool} {x6_0:Bool}:PStep Tryz.prog (Instr.build 235 #[(0,.bool x0_0),(5,.bool x5_0),(6,.bool x6_0)]) (.agg #[.bool x0_0,(.bool false),(.bool false),(.bool false),(.bool false),.bool x5_0,.bool x6_0,(.bool false),(.bool false),(.bool false)]):=.of λ_ k=>zy (by kernel_rfl) k
instance:zI Tryz.prog 94 7 15:=⟨by kernel_rfl⟩
instance {x0_0:Bool} {x3_0:Bool} {x8_0:Bool}:PStep Tryz.prog (Instr.build 235 #[(0,.bool x0_0),(3,.bool x3_0),(8,.bool x8_0)]) (.agg #[.bool x0_0,(.bool false),(.bool false),.bool x3_0,(.bool false),(.bool false),(.bool false),(.bool false),.bool x8_0,(.bool false)]):=.of λ_ k=>zy (by kernel_rfl) k
instance:zI Tryz.prog 94 9 17:=⟨by kernel_rfl⟩
instance {x0_0:Bool} {x3_0:Bool} {x7_0:Bool}:PStep Tryz.prog (Instr.build 235 #[(0,.bool x0_0),(3,.bool x3_0),(7,.bool x7_0)]) (.agg #[.bool x0_0,(.bool false),(.bool false),.bool x3_0,(.bool false),(.bool false),(.bool false),.bool x7_0,(.bool false),(.bool false)]):=.of λ_ k=>zy (by kernel_rfl) k
instance:zI Tryz.prog 94 8 16:=⟨by kernel_rfl⟩
instance {x0_0:Bool}:PStep Tryz.prog (Instr.build 235 #[(0,.bool x0_0)]) (.agg #[.bool x0_0,(.bool false),(.bool false),(.bool false),(.bool false),(.bool false),(.bool false),(.bool false),(.bool false),(.bool false)]):=.of λ_ k=>zy (by kernel_rfl) k
instance {x1_0:Bool}:PStep Tryz.prog (Instr.build 235 #[(1,.bool x1_0)]) (.agg #[(.bool false),.bool x1_0,(.bool false),(.bool false),(.bool false),(.bool false),(.bool false),(.bool false),(.bool false),(.bool false)]):=.of λ_ k=>zy (by kernel_rfl) k
instance {x5_0:Bool}:PStep Tryz.prog (Instr.build 235 #[(5,.bool x5_0)]) (.agg #[(.bool false),(.bool false),(.bool false),(.bool false),(.bool false),.bool x5_0,(.bool false),(.bool false),(.bool false),(.bool false)]):=.of λ_ k=>zy (by kernel_rfl) k
instance {x1_0:Bool} {x9_0:Bool}:PStep Tryz.prog (Instr.build 235 #[(1,.bool x1_0),(9,.bool x9_0)]) (.agg #[(.bool false),.bool x1_0,(.bool false),(.bool false),(.bool false),(.bool false),(.bool false),(.bool false),(.bool false),.bool x9_0]):=.of λ_ k=>zy (by kernel_rfl) k
instance:zI Tryz.prog 94 11 19:=⟨by kernel_rfl⟩
instance:PStep Tryz.prog (Instr.build 235 #[]) (.agg #[(.bool false),(.bool false),(.bool false),(.bool false),(.bool false),(.bool false),(.bool false),(.bool false),(.bool false),(.bool false)]):=.of λ_ k=>zy (by kernel_rfl) k
abbrev Tryz.ad0:FuncId:=171
abbrev Tryz.vr:FuncId:=172
instance:ArT Tryz.prog 204 8 203 8:=⟨by kernel_rfl⟩
instance:ZrT Tryz.prog 204 [(.bool false),(.bool false),(.bool false),(.bool false),(.bool false),(.bool false),(.bool false),(.bool false),(.bool false),(.bool false),(.bool false),(.bool false),(.bool false),(.bool false),(.bool false),(.bool false),(.bool false),(.bool false),(.bool false),(.bool false),(.bool false),(.bool false),(.bool false),(.bool false),(.bool false),(.bool false),(.bool false),(.bool false),(.bool false),(.bool false),(.bool false),(.bool false),(.bool false),(.bool false),(.bool false),(.bool false),(.bool false),(.bool false),(.bool false),(.bool false),(.bool false),(.bool false),(.bool false),(.bool false),(.bool false),(.bool false),(.bool false),(.bool false),(.bool false),(.bool false),(.bool false),(.bool false),(.bool false),(.bool false),(.bool false),(.bool false),(.bool false),(.bool false),(.bool false),(.bool false),(.bool false),(.bool false),(.bool false),(.bool false)]:=⟨by kernel_rfl⟩
instance:zI Tryz.prog 74 2 2:=⟨by kernel_rfl⟩
instance:Ld1 Tryz.prog 69:=⟨by kernel_rfl⟩
instance:SlT Tryz.prog 69 208 2:=⟨by kernel_rfl⟩
instance:LdN Tryz.prog 208 2:=⟨by kernel_rfl⟩
instance:SzT Tryz.prog 208 2:=⟨by kernel_rfl⟩
instance:ZrT Tryz.prog 208 [(.int .i64 0),(.int .i64 0)]:=⟨by kernel_rfl⟩
instance:zI Tryz.prog 208 0 0:=⟨by kernel_rfl⟩
instance:zI Tryz.prog 208 1 1:=⟨by kernel_rfl⟩
instance:ArT Tryz.prog 203 8 4 1:=⟨by kernel_rfl⟩
abbrev Tryz.vG:FuncId:=173
abbrev Tryz.y6:FuncId:=175
instance:zI Tryz.prog 61 0 0:=⟨by kernel_rfl⟩
instance:Ld1 Tryz.prog 56:=⟨by kernel_rfl⟩
instance {x0_0:Int}:PStep Tryz.prog (Instr.build 112 #[(0,.int .u8 x0_0)]) (.agg #[.int .u8 x0_0,(.bool false),(.int .i64 0),(.int .i64 0),(.slice none 0 0)]):=.of λ_ k=>zy (by kernel_rfl) k
instance:zI Tryz.prog 61 2 2:=⟨by kernel_rfl⟩
instance:zI Tryz.prog 61 1 1:=⟨by kernel_rfl⟩
instance:Ld1 Tryz.prog 2:=⟨by kernel_rfl⟩
instance:PStep Tryz.prog (Instr.build 112 #[]) (.agg #[(.int .u8 0),(.bool false),(.int .i64 0),(.int .i64 0),(.slice none 0 0)]):=.of λ_ k=>zy (by kernel_rfl) k
abbrev Tryz.vH:FuncId:=176
abbrev Tryz.vI:FuncId:=177
instance:zI Tryz.prog 94 4 11:=⟨by kernel_rfl⟩
instance:Ld1 Tryz.prog 53:=⟨by kernel_rfl⟩
instance:SlT Tryz.prog 53 61 4:=⟨by kernel_rfl⟩
abbrev Tryz.jN:FuncId:=179
abbrev Tryz.z8:FuncId:=181
instance:zI Tryz.prog 235 0 0:=⟨by kernel_rfl⟩
instance:zI Tryz.prog 235 1 1:=⟨by kernel_rfl⟩
instance:zI Tryz.prog 235 2 2:=⟨by kernel_rfl⟩
instance:zI Tryz.prog 235 3 3:=⟨by kernel_rfl⟩
instance:zI Tryz.prog 235 4 4:=⟨by kernel_rfl⟩
instance:zI Tryz.prog 235 5 5:=⟨by kernel_rfl⟩
instance:zI Tryz.prog 235 6 6:=⟨by kernel_rfl⟩
instance:zI Tryz.prog 235 7 7:=⟨by kernel_rfl⟩
instance:zI Tryz.prog 235 8 8:=⟨by kernel_rfl⟩
instance:zI Tryz.prog 235 9 9:=⟨by kernel_rfl⟩
abbrev Tryz.Ze:FuncId:=199
instance:Ld1 Tryz.prog 118:=⟨by kernel_rfl⟩
instance:SzT Tryz.prog 118 1:=⟨by kernel_rfl⟩
instance:ZrT Tryz.prog 118 [.nilFunc]:=⟨by kernel_rfl⟩
abbrev Tryz.ke:FuncId:=200
abbrev Tryz.Q2:FuncId:=204
abbrev Tryz.YW:FuncId:=211
instance:Ld1 Tryz.prog 206:=⟨by kernel_rfl⟩
instance:ZrT Tryz.prog 59 [(.int .i64 0),(.slice none 0 0)]:=⟨by kernel_rfl⟩
instance:ApT Tryz.prog 53 61 4 48:=⟨by kernel_rfl⟩
instance:ZrT Tryz.prog 61 [(.int .u8 0),(.int .i64 0),(.int .i64 0),(.slice none 0 0)]:=⟨by kernel_rfl⟩
abbrev Tryz.QB:FuncId:=46
abbrev Tryz.Zf:FuncId:=79
abbrev Tryz.ad1:FuncId:=103
abbrev Tryz.xX:FuncId:=23
abbrev Tryz.Zg:FuncId:=80
abbrev Tryz.kg:FuncId:=72
instance:Ld1 Tryz.prog 37:=⟨by kernel_rfl⟩
instance:SzT Tryz.prog 37 1:=⟨by kernel_rfl⟩
instance:SlT Tryz.prog 37 59 2:=⟨by kernel_rfl⟩
instance:ApT Tryz.prog 37 59 2 32:=⟨by kernel_rfl⟩
abbrev Tryz.Yc:FuncId:=97
abbrev Tryz.Y9:FuncId:=191
abbrev Tryz.kh:FuncId:=209
abbrev Tryz.jg:FuncId:=154
abbrev Tryz.ZR:FuncId:=164
abbrev Tryz.YG:FuncId:=166
abbrev Tryz.jB:FuncId:=193
abbrev Tryz.Yd:FuncId:=195
abbrev Tryz.Ye:FuncId:=196
abbrev Tryz.j9:FuncId:=197
abbrev Tryz.Zh:FuncId:=210
abbrev Tryz.vd:FuncId:=214
abbrev Tryz.Zi:FuncId:=215
instance:SlT Tryz.prog 40 4 1:=⟨by kernel_rfl⟩
instance:ApT Tryz.prog 40 4 1 1:=⟨by kernel_rfl⟩
instance:ZrT Tryz.prog 4 [(.bool false)]:=⟨by kernel_rfl⟩
abbrev Tryz.ve:FuncId:=216
abbrev Tryz.xo:FuncId:=169
abbrev Tryz.yu:FuncId:=105
abbrev Tryz.zS:FuncId:=135
abbrev Tryz.yd:FuncId:=178
abbrev Tryz.xt:FuncId:=187
abbrev Tryz.xE:FuncId:=205
abbrev Tryz.jn:FuncId:=212
abbrev Tryz.yY:FuncId:=100
instance:ApT Tryz.prog 57 76 1 8:=⟨by kernel_rfl⟩
abbrev Tryz.yi:FuncId:=76
abbrev Tryz.yk:FuncId:=99
abbrev Tryz.yv:FuncId:=102
abbrev Tryz.yB:FuncId:=144
abbrev Tryz.Xp:FuncId:=123
abbrev Tryz.jh:FuncId:=120
abbrev Tryz.YH:FuncId:=167
abbrev Tryz.Zj:FuncId:=168
abbrev Tryz.xf:FuncId:=151
abbrev Tryz.Zk:FuncId:=152
abbrev Tryz.vh:FuncId:=153
abbrev Tryz.JI:FuncId:=34
abbrev Tryz.QC:FuncId:=62
abbrev Tryz.YI:FuncId:=90
abbrev Tryz.Xq:FuncId:=121
abbrev Tryz.qY:FuncId:=122
instance:zI Tryz.prog 149 1 3:=⟨by kernel_rfl⟩
instance:zI Tryz.prog 149 0 0:=⟨by kernel_rfl⟩
abbrev Tryz.Xr:FuncId:=155
abbrev Tryz.vu:FuncId:=156
abbrev Tryz.y7:FuncId:=157
abbrev Tryz.yC:FuncId:=95
instance {x1_0:Option Addr} {x1_0_l:Nat} {x1_0_c:Nat}:PStep Tryz.prog (Instr.build 59 #[(1,.slice x1_0 x1_0_l x1_0_c)]) (.agg #[(.int .i64 0),.slice x1_0 x1_0_l x1_0_c]):=.of λ_ k=>zy (by kernel_rfl) k
abbrev Tryz.zW:FuncId:=158
abbrev Tryz.yV:FuncId:=159
abbrev Tryz.Xs:FuncId:=160
abbrev Tryz.zO:FuncId:=161
abbrev Tryz.ZS:FuncId:=162
abbrev Tryz.kV:FuncId:=163
abbrev Tryz.kF:FuncId:=165
abbrev Tryz.yN:FuncId:=192
abbrev Tryz.kr:FuncId:=194
abbrev Tryz.Zl:FuncId:=59
abbrev Tryz.yW:FuncId:=49
abbrev Tryz.Zm:FuncId:=81
abbrev Tryz.jQ:FuncId:=82
abbrev Tryz.yj:FuncId:=83
abbrev Tryz.kL:FuncId:=108
abbrev Tryz.ji:FuncId:=107
abbrev Tryz.xR:FuncId:=145
abbrev Tryz.ki:FuncId:=36
abbrev Tryz.kG:FuncId:=38
abbrev Tryz.YJ:FuncId:=67
abbrev Tryz.Zn:FuncId:=93
abbrev Tryz.qI:FuncId:=92
abbrev Tryz.qh:FuncId:=41
instance:Ld1 Tryz.prog 78:=⟨by kernel_rfl⟩
instance:SzT Tryz.prog 78 1:=⟨by kernel_rfl⟩
instance:ZrT Tryz.prog 78 [(.pointer none)]:=⟨by kernel_rfl⟩
instance:zI Tryz.prog 90 1 3:=⟨by kernel_rfl⟩
instance {x0_0:Int}:PStep Tryz.prog (Instr.build 59 #[(0,.int .i64 x0_0)]) (.agg #[.int .i64 x0_0,(.slice none 0 0)]):=.of λ_ k=>zy (by kernel_rfl) k
instance:zI Tryz.prog 90 2 10:=⟨by kernel_rfl⟩
abbrev Tryz.abp:FuncId:=71
abbrev Tryz.xI:FuncId:=60
abbrev Tryz.YX:FuncId:=89
abbrev Tryz.kW:FuncId:=61
abbrev Tryz.xw:FuncId:=47
instance:zI Tryz.prog 90 0 0:=⟨by kernel_rfl⟩
abbrev Tryz.zX:FuncId:=42
abbrev Tryz.y8:FuncId:=31
instance:Ld1 Tryz.prog 82:=⟨by kernel_rfl⟩
instance:SzT Tryz.prog 82 1:=⟨by kernel_rfl⟩
abbrev Tryz.jj:FuncId:=33
abbrev Tryz.yn:FuncId:=28
abbrev Tryz.Xt:FuncId:=20
abbrev Tryz.QD:FuncId:=22
abbrev Tryz.Xu:FuncId:=17
abbrev Tryz.Xv:FuncId:=25
abbrev Tryz.jR:FuncId:=54
instance:SlT Tryz.prog 141 1 1:=⟨by kernel_rfl⟩
instance:Ld1 Tryz.prog 1:=⟨by kernel_rfl⟩
instance:ApT Tryz.prog 141 1 1 8:=⟨by kernel_rfl⟩
abbrev Tryz.kt:FuncId:=84
instance:Ld1 Tryz.prog 117:=⟨by kernel_rfl⟩
abbrev Tryz.ku:FuncId:=85
abbrev Tryz.kv:FuncId:=86
abbrev Tryz.qw:FuncId:=27
instance:ZrT Tryz.prog 82 [(.map none)]:=⟨by kernel_rfl⟩
abbrev Tryz.jo:FuncId:=55
abbrev Tryz.jp:FuncId:=56
abbrev Tryz.vJ:FuncId:=26
abbrev Tryz.Yf:FuncId:=8
abbrev Tryz.qz:FuncId:=29
abbrev Tryz.Yo:FuncId:=58
instance:Ld1 Tryz.prog 88:=⟨by kernel_rfl⟩
abbrev Tryz.Yg:FuncId:=9
abbrev Tryz.YK:FuncId:=30
abbrev Tryz.Zo:FuncId:=10
abbrev Tryz.ZT:FuncId:=32
abbrev Tryz.qJ:FuncId:=11
abbrev Tryz.Q3:FuncId:=106
abbrev Tryz.zZ:FuncId:=74
abbrev Tryz.zM:FuncId:=48
abbrev Tryz.JJ:FuncId:=12
abbrev Tryz.QE:FuncId:=35
abbrev Tryz.jV:FuncId:=37
abbrev Tryz.kj:FuncId:=39
abbrev Tryz.Xw:FuncId:=40
abbrev Tryz.ZU:FuncId:=63
abbrev Tryz.QF:FuncId:=65
abbrev Tryz.qK:FuncId:=66
abbrev Tryz.jq:FuncId:=68
abbrev Tryz.Xx:FuncId:=69
abbrev Tryz.Zp:FuncId:=13
abbrev Tryz.Xy:FuncId:=14
abbrev Tryz.ZV:FuncId:=16
abbrev Tryz.vw:FuncId:=64
abbrev Tryz.QG:FuncId:=91
abbrev Tryz.yZ:FuncId:=50
abbrev Tryz.xY:FuncId:=94
abbrev Tryz.Xz:FuncId:=3
abbrev Tryz.XA:FuncId:=6
abbrev Tryz.xO:FuncId:=7
instance:ZrT Tryz.prog 25 [(.slice none 0 0),(.slice none 0 0),(.int .i64 0)]:=⟨by kernel_rfl⟩
abbrev Tryz.kX:FuncId:=15
abbrev Tryz.XB:FuncId:=24
instance:ApT Tryz.prog 71 9 1 16:=⟨by kernel_rfl⟩
instance:ZrT Tryz.prog 9 [(.string ByteArray.empty)]:=⟨by kernel_rfl⟩
abbrev Tryz.xV:FuncId:=51
abbrev Tryz.qV:FuncId:=52
abbrev Tryz.zx:FuncId:=53
end Go.Proofs
namespace Go.Proofs.Tryz
open Go.Sh
section
variable {t0 t1 t2:Value} {w:World} {K:VW}
def abq(t0:Value)(w:World)(K:VW):Prop:=
 pw w (Instr.box 25 t0) λt1 w1=>
 lo w1 25 t1 λt7=>ca YF #[t7] w1 λt8 w2=>
 pe t8 0 λ_t9=>pe t8 1 λ_t10=>pe t8 2 λt11=>bt .eql 29 t11 (i6 0) λt13=>K t13 w2
theorem agp(h:abq t0 w K):zd prog QA #[t0] w K:=
 okC false (.s (.r (rz 2 0 2)) (.s (.r (rz 9 0 9)) (.s (.r (rz 3 0 0)) (.n)))) func70 rfl (by kernel_rfl) (by kernel_rfl) h
def Vf(t0:Value)(w:World)(K:VW):Prop:=
 pw w (Instr.box 25 t0) λt1 w1=>
 fl w1 t1 25 0 22 λt15=>ca kE #[t15] w1 λt16 w2=>
 pe t16 0 λ_t17=>pe t16 1 λt18=>bt .neq 29 t18 (i6 0) λt20=>za (λK3=>gIf t20 false (fl w2 t1 25 1 23 λt23=>pp (Builtin.len_ #[23] 3 #[t23]) λt24=>bt .lss 3 t24 (i6 1) λt25=>K3 [t25] w2) (K3 [u_] w2)) (λs4 _d5 w6=>
 zb t20 tr_ (s4.getD 0 u_) λt26=>za (λK7=>gIf t26 false (fl w6 t1 25 1 23 λt29=>pp (Builtin.len_ #[23] 3 #[t29]) λt30=>bt .gtr 3 t30 (i6 32) λt31=>K7 [t31] w6) (K7 [u_] w6)) (λs8 _d9 w10=>
 zb t26 tr_ (s8.getD 0 u_) λt32=>za (λK11=>gIf t32 false (fl w10 t1 25 2 3 λt35=>bt .lss 3 t35 (i6 0) λt36=>K11 [t36] w10) (K11 [u_] w10)) (λs12 _d13 w14=>
 zb t32 tr_ (s12.getD 0 u_) λt37=>za (λK15=>gIf t37 false (fl w14 t1 25 2 3 λt40=>fl w14 t1 25 1 23 λt42=>pp (Builtin.len_ #[23] 3 #[t42]) λt43=>bf .geq 3 t40 t43 λt44=>K15 [t44] w14) (K15 [u_] w14)) (λs16 _d17 w18=>
 zb t37 tr_ (s16.getD 0 u_) λt45=>zc t45 (K (.tuple #[(i6 (-1)),(i6 (-1)),(i6 100)]) w18) (fl w18 t1 25 1 23 λt47=>pp (Builtin.len_ #[23] 3 #[t47]) λt48=>zo [(i6 0),(i6 0),(i6 0)] w18 (λs20 _d21 w22 K19=>
 bf .lss 3 (s20.getD 2 u_) t48 λt50=>zc t50 (lo w22 25 t1 λt52=>ca Xo #[t52,(s20.getD 2 u_)] w22 λt54 w23=>
 pp (Op.unary .not t54) λt55=>zc t55 (K (.tuple #[(s20.getD 2 u_),(i6 (-1)),(i6 100)]) w23) (bt .add 3 (s20.getD 2 u_) (i6 1) λt57=>K19 [(s20.getD 2 u_),(s20.getD 1 u_),t57] w23)) (za (λK24=>
 fl w22 t1 25 1 23 λt59=>pp (Builtin.len_ #[23] 3 #[t59]) λt60=>zo [(s20.getD 0 u_),(s20.getD 1 u_),fa_,(i6 0)] w22 (λs29 _d30 w31 K28=>
 bf .lss 3 (s29.getD 3 u_) t60 λt62=>zc t62 (xl w31 23 t59 (s29.getD 3 u_) 74 λt65=>pw w31 (Instr.alloc 74 true (.tuple #[])) λt9 w32=>
 so w32 74 t9 t65 λw33=>lo w33 25 t1 λt66=>lo w33 74 t9 λt67=>pp (Instr.build 180 #[(0,t66),(1,t67)]) λt68=>pw w33 (Instr.alloc 180 true (.tuple #[])) λt10 w34=>
 so w34 180 t10 t68 λw35=>fl w35 t9 74 6 72 λt70=>pp (Builtin.len_ #[72] 3 #[t70]) λt71=>zo [(s29.getD 0 u_),(s29.getD 1 u_),(s29.getD 2 u_),(i6 0)] w35 (λs37 _d38 w39 K36=>
 bf .lss 3 (s37.getD 3 u_) t71 λt73=>zc t73 (xl w39 72 t70 (s37.getD 3 u_) 94 λt76=>pw w39 (Instr.alloc 94 true (.tuple #[])) λt12 w40=>
 so w40 94 t12 t76 λw41=>lo w41 180 t10 λt77=>lo w41 94 t12 λt78=>ca qX #[t77,t78] w41 λt79 w42=>
 pp (Op.unary .not t79) λt80=>zc t80 (K24 [(s29.getD 3 u_),(s37.getD 3 u_),tr_] w42) (bt .add 3 (s37.getD 3 u_) (i6 1) λt83=>K36 [(s37.getD 0 u_),(s37.getD 1 u_),(s37.getD 2 u_),t83] w42)) (bt .add 3 (s29.getD 3 u_) (i6 1) λt84=>K28 [(s37.getD 0 u_),(s37.getD 1 u_),(s37.getD 2 u_),t84] w39))) (K24 [(s29.getD 0 u_),(s29.getD 1 u_),(s29.getD 2 u_)] w31))) (λs25 _d26 w27=>
 zc (s25.getD 2 u_) (K (.tuple #[(s25.getD 0 u_),(s25.getD 1 u_),(i6 100)]) w27) (K (.tuple #[(i6 0),(i6 0),(i6 0)]) w27)))))))))
theorem ad2(h:Vf t0 w K):zd prog YF #[t0] w K:=
 okC false (.s (.r (rz 4 0 2)) (.b (.s (.s (.r (rz 8 0 36)) (.s (.r (ra 3 0 0 (.grp 21 false (ri 4 3 4) [25] (ra 2 7 0 (.grp 27 false (ri 4 9 4) [31] (ra 2 13 0 (.grp 33 false (ri 3 15 4) [36] (ra 2 18 0 (.grp 38 false (ri 6 20 68) [44] (rz 1 26 0)))))))))) (.c (.s (.r (rz 3 0 0)) (.n)) (.n)))) (.s (.s (.r (rz 4 0 4)) (.b (.lp [2,3,49] (.s (.r (rz 1 0 0)) (.s (.c (.n) (.n)) (.s (.b (.s (.r (rz 2 0 0)) (.s (.r (rz 4 0 33)) (.c (.s (.r (rz 4 0 0)) (.n)) (.n))))) (.r (rz 2 0 0)))))))) (.s (.r (rz 1 0 0)) (.s (.n) (.j [2,3,7] (.s (.r (rz 4 0 4)) (.b (.lp [2,3,7,61] (.s (.r (rz 1 0 0)) (.s (.c (.n) (.n)) (.s (.b (.s (.r (rz 6 0 2192)) (.s (.r (rz 5 0 645)) (.s (.r (rz 4 0 4)) (.b (.lp [2,3,7,72] (.s (.r (rz 1 0 0)) (.s (.c (.n) (.n)) (.s (.b (.s (.r (rz 6 0 2192)) (.s (.r (rz 4 0 37)) (.c (.s (.r (rz 5 0 0)) (.n)) (.n))))) (.r (rz 2 0 0))))))))))) (.r (rz 2 0 0)))))))) (.s (.s (.r (rz 1 0 0)) (.c (.s (.r (rz 5 0 0)) (.n)) (.n))) (.s (.r (rz 3 0 0)) (.n)))))))))) func96 rfl (by kernel_rfl) (by kernel_rfl) h
def Yp(t0 t1:Value)(w:World)(K:VW):Prop:=
 pw w (Instr.box 180 t0) λt2 w1=>
 pw w1 (Instr.box 59 t1) λt3 w2=>
 pw w2 (Instr.alloc 228 true (.tuple #[])) λt4 w3=>
 fl w3 t3 59 0 3 λt11=>bt .lss 3 t11 (i6 0) λt12=>za (λK4=>gIf t12 false (fl w3 t3 59 0 3 λt15=>pf 180 t2 1 λt16=>fl w3 t16 74 4 70 λt18=>pp (Builtin.len_ #[70] 3 #[t18]) λt19=>bf .geq 3 t15 t19 λt20=>K4 [t20] w3) (K4 [u_] w3)) (λs5 _d6 w7=>
 zb t12 tr_ (s5.getD 0 u_) λt21=>zc t21 (pp (Instr.build 228 #[]) λt22=>so w7 228 t4 t22 λw8=>pq w8 (zk 228 t4) λr9=>K r9 w8) (pf 180 t2 1 λt23=>fl w7.drew t23 74 4 70 λt25=>fl w7.drew t3 59 0 3 λt27=>xl w7.drew 70 t25 t27 112 λt29=>fl w7.drew t3 59 1 57 λt31=>pp (Builtin.len_ #[57] 3 #[t31]) λt32=>bt .leq 3 t32 (i6 8) λt33=>pp (Instr.build 228 #[(0,t29),(2,t33)]) λt34=>pw w7.drew (Instr.alloc 228 true (.tuple #[])) λt5 w10=>
 Ext w7.drew w10∧
 so w10 228 t5 t34 λw11=>fl w11 t3 59 1 57 λt36=>pp (Builtin.len_ #[57] 3 #[t36]) λt37=>zo [(i6 0)] w11 (λs13 _d14 w15 K12=>
 bf .lss 3 (s13.getD 0 u_) t37 λt39=>zc t39 (za (λK16=>
 xl w15 57 t36 (s13.getD 0 u_) 76 λt41=>fl w15 t5 228 0 112 λt43=>pw w15 (Instr.alloc 112 true (.tuple #[])) λt8 w20=>
 so w20 112 t8 t43 λw21=>bt .eql 76 t41 (i6 (-1)) λt47=>za (λK22=>gIf t47 true (fl w21 t8 112 0 110 λt50=>bt .eql 110 t50 (Value.int .u8 3) λt51=>K22 [t51] w21) (K22 [u_] w21)) (λs23 _d24 w25=>
 zb t47 (s23.getD 0 u_) fa_ λt52=>zc t52 (fl w25 t5 228 1 3 λt54=>pp (Builtin.max_ #[3,3] 3 #[t54,(i6 1)]) λt55=>pf 228 t5 1 λt56=>so w25 3 t56 t55 λw26=>fl w26 t8 112 4 70 λt58=>xl w26 70 t58 (i6 0) 112 λt60=>pf 228 t5 0 λt61=>so w26 112 t61 t60 λw27=>K16 [] w27) (bt .eql 76 t41 (i6 (-1)) λt64=>za (λK28=>gIf t64 true (fl w25 t8 112 0 110 λt67=>bt .eql 110 t67 (Value.int .u8 4) λt68=>K28 [t68] w25) (K28 [u_] w25)) (λs29 _d30 w31=>
 zb t64 (s29.getD 0 u_) fa_ λt69=>zc t69 (za (λK32=>
 fl w31 t8 112 1 4 λt71=>zc t71 (K32 [(i6 2)] w31) (K32 [(i6 3)] w31)) (λs33 _d34 w35=>
 fl w35 t5 228 1 3 λt73=>pp (Builtin.max_ #[3,3] 3 #[t73,(s33.getD 0 u_)]) λt75=>pf 228 t5 1 λt76=>so w35 3 t76 t75 λw36=>fl w36 t8 112 4 70 λt78=>xl w36 70 t78 (i6 0) 112 λt80=>pf 228 t5 0 λt81=>so w36 112 t81 t80 λw37=>K16 [] w37)) (bt .geq 76 t41 (i6 0) λt84=>za (λK38=>gIf t84 true (fl w31 t8 112 0 110 λt87=>bt .eql 110 t87 (Value.int .u8 5) λt88=>K38 [t88] w31) (K38 [u_] w31)) (λs39 _d40 w41=>
 zb t84 (s39.getD 0 u_) fa_ λt89=>za (λK42=>gIf t89 true (pf 180 t2 0 λt92=>fl w41 t92 25 0 22 λt94=>fl w41 t8 112 3 3 λt96=>px 22 t94 t96 λt97=>fl w41 t97 68 1 66 λt99=>pp (Builtin.len_ #[66] 3 #[t99]) λt100=>bf .lss 3 t41 t100 λt101=>K42 [t101] w41) (K42 [u_] w41)) (λs43 _d44 w45=>
 zb t89 (s43.getD 0 u_) fa_ λt102=>zc t102 (pf 180 t2 0 λt103=>fl w45 t103 25 0 22 λt105=>fl w45 t8 112 3 3 λt107=>px 22 t105 t107 λt108=>fl w45 t108 68 1 66 λt110=>px 66 t110 t41 λt112=>fl w45 t112 161 1 112 λt114=>pf 228 t5 0 λt115=>so w45 112 t115 t114 λw46=>K16 [] w46) (pp (Instr.build 228 #[]) λt44=>so w45 228 t4 t44 λw47=>pq w47 (zk 228 t4) λr48=>K r48 w47)))))))) (λ_s17 _d18 w19=>
 bt .add 3 (s13.getD 0 u_) (i6 1) λt116=>K12 [t116] w19)) (lo w15 228 t5 λt117=>so w15 228 t4 t117 λw49=>pq w49 (zk 228 t4) λr50=>K r50 w49))))
theorem VB(h:Yp t0 t1 w K):zd prog zz #[t0,t1] w K:=
 okC false (.s (.r (rz 3 0 42)) (.s (.s (.r (ra 4 0 4 (.grp 13 false (ri 7 4 260) [20] (rz 1 11 0)))) (.c (.s (.r (rz 2 0 8)) (.n)) (.n))) (.s (.r (rz 14 0 184619280)) (.s (.s (.r (rz 4 0 4)) (.b (.lp [38] (.s (.r (rz 1 0 0)) (.s (.c (.n) (.n)) (.j [] (.b (.s (.r (rz 3 0 4)) (.s (.r (rz 4 0 164)) (.b (.s (.r (ra 3 0 0 (.grp 48 true (ri 3 3 4) [51] (rz 2 6 0)))) (.c (.s (.r (rz 5 0 516)) (.r (rz 6 0 2116))) (.s (.r (ra 3 0 0 (.grp 65 true (ri 3 3 4) [68] (rz 2 6 0)))) (.c (.s (.r (rz 1 0 0)) (.j [9] (.s (.r (rz 2 0 4)) (.c (.r (rz 1 0 0)) (.n))) (.s (.r (rz 6 0 2052)) (.r (rz 6 0 2116))))) (.s (.r (ra 3 0 0 (.grp 85 true (ri 3 3 4) [88] (ra 2 6 0 (.grp 90 true (ri 11 8 66624) [101] (rz 2 19 0)))))) (.c (.r (rz 14 0 138428688)) (.s (.r (rz 2 0 8)) (.n)))))))))))) (.r (rz 2 0 0)))))))) (.s (.r (rz 2 0 9)) (.n)))))) func174 rfl (by kernel_rfl) (by kernel_rfl) h
def VP(t0 t1:Value)(w:World)(K:VW):Prop:=
 pw w (Instr.box 25 t0) λt2 w1=>
 fl w1 t2 25 1 23 λt13=>xl w1 23 t13 t1 74 λt16=>pw w1 (Instr.alloc 74 true (.tuple #[])) λt5 w2=>
 so w2 74 t5 t16 λw3=>fl w3 t5 74 1 3 λt18=>bt .lss 3 t18 (i6 0) λt19=>za (λK4=>gIf t19 false (fl w3 t5 74 1 3 λt22=>bt .gtr 3 t22 (i6 8) λt23=>K4 [t23] w3) (K4 [u_] w3)) (λs5 _d6 w7=>
 zb t19 tr_ (s5.getD 0 u_) λt24=>za (λK8=>gIf t24 false (fl w7 t5 74 3 3 λt27=>bt .lss 3 t27 (i6 0) λt28=>K8 [t28] w7) (K8 [u_] w7)) (λs9 _d10 w11=>
 zb t24 tr_ (s9.getD 0 u_) λt29=>za (λK12=>gIf t29 false (fl w11 t5 74 3 3 λt32=>bt .gtr 3 t32 (i6 8) λt33=>K12 [t33] w11) (K12 [u_] w11)) (λs13 _d14 w15=>
 zb t29 tr_ (s13.getD 0 u_) λt34=>za (λK16=>gIf t34 false (fl w15 t5 74 4 70 λt37=>pp (Builtin.len_ #[70] 3 #[t37]) λt38=>fl w15 t5 74 3 3 λt40=>bf .leq 3 t38 t40 λt41=>K16 [t41] w15) (K16 [u_] w15)) (λs17 _d18 w19=>
 zb t34 tr_ (s17.getD 0 u_) λt42=>za (λK20=>gIf t42 false (fl w19 t5 74 4 70 λt45=>pp (Builtin.len_ #[70] 3 #[t45]) λt46=>bt .gtr 3 t46 (i6 512) λt47=>K20 [t47] w19) (K20 [u_] w19)) (λs21 _d22 w23=>
 zb t42 tr_ (s21.getD 0 u_) λt48=>za (λK24=>gIf t48 false (fl w23 t5 74 5 71 λt51=>pp (Builtin.len_ #[71] 3 #[t51]) λt52=>fl w23 t5 74 4 70 λt54=>pp (Builtin.len_ #[70] 3 #[t54]) λt55=>bf .neq 3 t52 t55 λt56=>K24 [t56] w23) (K24 [u_] w23)) (λs25 _d26 w27=>
 zb t48 tr_ (s25.getD 0 u_) λt57=>zc t57 (K fa_ w27) (fl w27 t5 74 4 70 λt59=>pp (Builtin.len_ #[70] 3 #[t59]) λt60=>zo [(i6 0)] w27 (λs29 _d30 w31 K28=>
 bf .lss 3 (s29.getD 0 u_) t60 λt62=>zc t62 (xl w31 70 t59 (s29.getD 0 u_) 112 λt65=>pw w31 (Instr.alloc 112 true (.tuple #[])) λt7 w32=>
 so w32 112 t7 t65 λw33=>fl w33 t2 25 0 22 λt67=>lo w33 112 t7 λt68=>ca qU #[t67,t68] w33 λt69 w34=>
 pp (Op.unary .not t69) λt70=>zc t70 (K fa_ w34) (pw w34 (Instr.alloc 3 true (.tuple #[])) λt8 w35=>
 so w35 3 t8 (i6 (-1)) λw36=>za (λK37=>
 fl w36 t5 74 3 3 λt73=>bf .leq 3 (s29.getD 0 u_) t73 λt74=>zc t74 (so w36 3 t8 (i6 0) λw41=>K37 [] w41) (K37 [] w36)) (λ_s38 _d39 w40=>
 lo w40 112 t7 λt75=>ca je #[t75] w40 λt76 w42=>
 pp (Instr.makeFunc (.func 171) #[] #[t8,t5]) λt77=>ca xo #[t76,t77] w42 λt78 w43=>
 zc t78 (K fa_ w43) (bt .add 3 (s29.getD 0 u_) (i6 1) λt79=>K28 [t79] w43)))) (fl w31 t5 74 6 72 λt81=>pp (Builtin.len_ #[72] 3 #[t81]) λt82=>bt .lss 3 t82 (i6 1) λt83=>za (λK44=>gIf t83 false (fl w31 t5 74 6 72 λt86=>pp (Builtin.len_ #[72] 3 #[t86]) λt87=>bt .gtr 3 t87 (i6 1024) λt88=>K44 [t88] w31) (K44 [u_] w31)) (λs45 _d46 w47=>
 zb t83 tr_ (s45.getD 0 u_) λt89=>za (λK48=>gIf t89 false (lo w47 74 t5 λt91=>ca vr #[t91] w47 λt92 w52=>
 pp (Op.unary .not t92) λt93=>K48 [t93] w52) (K48 [u_] w47)) (λs49 _d50 w51=>
 zb t89 tr_ (s49.getD 0 u_) λt94=>zc t94 (K fa_ w51) (fl w51 t5 74 6 72 λt96=>pp (Builtin.len_ #[72] 3 #[t96]) λt97=>zo [(i6 0),(i6 0)] w51 (λs54 _d55 w56 K53=>
 bf .lss 3 (s54.getD 1 u_) t97 λt99=>zc t99 (za (λK57=>
 xl w56 72 t96 (s54.getD 1 u_) 94 λt101=>pw w56 (Instr.alloc 94 true (.tuple #[])) λt11 w61=>
 so w61 94 t11 t101 λw62=>fl w62 t11 94 0 92 λt103=>bt .eql 92 t103 (Value.int .u8 4) λt104=>zc t104 (bt .add 3 (s54.getD 0 u_) (i6 1) λt106=>K57 [t106] w62) (K57 [(s54.getD 0 u_)] w62)) (λs58 _d59 w60=>
 bt .add 3 (s54.getD 1 u_) (i6 1) λt107=>K53 [(s58.getD 0 u_),t107] w60)) (bt .leq 3 (s54.getD 0 u_) (i6 256) λt109=>za (λK63=>gIf t109 true (fl w56 t2 25 2 3 λt113=>bf .neq 3 t1 t113 λt114=>K63 [t114] w56) (K63 [u_] w56)) (λs64 _d65 w66=>
 za (λK67=>gIf (s64.getD 0 u_) false (fl w66 t5 74 1 3 λt117=>bt .eql 3 t117 (i6 0) λt118=>K67 [t118] w66) (K67 [u_] w66)) (λs68 _d69 w70=>
 za (λK71=>gIf (s68.getD 0 u_) true (fl w70 t5 74 3 3 λt121=>bt .eql 3 t121 (i6 0) λt122=>K71 [t122] w70) (K71 [u_] w70)) (λs72 _d73 w74=>
 za (λK75=>gIf (s64.getD 0 u_) false (zb (s68.getD 0 u_) (s72.getD 0 u_) fa_ λt123=>K75 [t123] w74) (K75 [u_] w74)) (λs76 _d77 w78=>
 za (λK79=>gIf (s76.getD 0 u_) true (fl w78 t5 74 4 70 λt126=>px 70 t126 (i6 0) λt127=>fl w78 t127 112 0 110 λt129=>bt .eql 110 t129 (Value.int .u8 1) λt130=>K79 [t130] w78) (K79 [u_] w78)) (λs80 _d81 w82=>
 za (λK83=>gIf (s64.getD 0 u_) false (zb (s76.getD 0 u_) (s80.getD 0 u_) fa_ λt131=>K83 [t131] w82) (K83 [u_] w82)) (λs84 _d85 w86=>
 za (λK87=>gIf t109 true (zb (s64.getD 0 u_) tr_ (s84.getD 0 u_) λt132=>K87 [t132] w86) (K87 [u_] w86)) (λs88 _d89 w90=>
 zb t109 (s88.getD 0 u_) fa_ λt133=>K t133 w90)))))))))))))))))))))
theorem afh(h:VP t0 t1 w K):zd prog Xo #[t0,t1] w K:=
 okC false (.s (.r (rz 2 0 2)) (.s (.r (rz 7 0 10500)) (.s (.s (.r (ra 4 0 4 (.grp 20 false (ri 3 4 4) [23] (ra 2 7 0 (.grp 25 false (ri 3 9 4) [28] (ra 2 12 0 (.grp 30 false (ri 3 14 4) [33] (ra 2 17 0 (.grp 35 false (ri 6 19 260) [41] (ra 2 25 0 (.grp 43 false (ri 4 27 4) [47] (ra 2 31 0 (.grp 49 false (ri 7 33 260) [56] (rz 1 40 0)))))))))))))) (.c (.s (.r (rz 1 0 0)) (.n)) (.n))) (.s (.s (.r (rz 4 0 4)) (.b (.lp [61] (.s (.r (rz 1 0 0)) (.s (.c (.n) (.n)) (.s (.b (.s (.r (rz 6 0 2192)) (.s (.s (.r (rz 5 0 148)) (.c (.s (.r (rz 1 0 0)) (.n)) (.n))) (.s (.r (rz 2 0 10)) (.j [] (.s (.r (rz 4 0 16)) (.c (.r (rz 1 0 2)) (.n))) (.s (.r (rz 4 0 137)) (.c (.s (.r (rz 1 0 0)) (.n)) (.n)))))))) (.r (rz 2 0 0)))))))) (.s (.s (.r (ra 5 0 4 (.grp 84 false (ri 4 5 4) [88] (ra 2 9 0 (.grp 90 false (ri 3 11 9) [93] (rz 1 14 0)))))) (.c (.s (.r (rz 1 0 0)) (.n)) (.n))) (.s (.r (rz 1 0 0)) (.s (.s (.r (rz 4 0 4)) (.b (.lp [9,98] (.s (.r (rz 1 0 0)) (.s (.c (.n) (.n)) (.j [9] (.b (.s (.r (rz 4 0 164)) (.s (.r (rz 3 0 4)) (.c (.r (rz 3 0 0)) (.n))))) (.r (rz 2 0 0)))))))) (.s (.r (ra 3 0 0 (.grp 110 true (ri 5 3 16) [115] (.grp 115 false (ri 4 8 4) [119] (.grp 119 true (ri 3 12 4) [122] (.grp 115 false (ri 2 15 0) [124] (.grp 124 true (ri 6 17 260) [130] (.grp 115 false (ri 1 23 0) [131] (.grp 110 true (ri 1 24 0) [132] (rz 2 25 0)))))))))) (.n))))))))) func124 rfl (by kernel_rfl) (by kernel_rfl) h
def ZH(t0 t1:Value)(w:World)(K:VW):Prop:=
 pw w (Instr.box 180 t0) λt2 w1=>
 pw w1 (Instr.box 94 t1) λt3 w2=>
 pf 180 t2 1 λt23=>fl w2 t23 74 6 72 λt25=>pp (Builtin.len_ #[72] 3 #[t25]) λt26=>pw w2 (Instr.alloc 3 true (.tuple #[])) λt5 w3=>
 so w3 3 t5 t26 λw4=>pp (Instr.makeFunc (.func 173) #[] #[t5]) λt27=>fl w4 t3 94 12 3 λt29=>bt .lss 3 t29 (i6 0) λt30=>za (λK5=>gIf t30 false (fl w4 t3 94 0 92 λt33=>bt .neq 92 t33 (Value.int .u8 14) λt34=>K5 [t34] w4) (K5 [u_] w4)) (λs6 _d7 w8=>
 za (λK9=>gIf (s6.getD 0 u_) true (fl w8 t3 94 10 3 λt38=>cv t27 #[t38] w8 λt39 w13=>
 pp (Op.unary .not t39) λt40=>K9 [t40] w13) (K9 [u_] w8)) (λs10 _d11 w12=>
 za (λK14=>gIf t30 false (zb (s6.getD 0 u_) (s10.getD 0 u_) fa_ λt41=>K14 [t41] w12) (K14 [u_] w12)) (λs15 _d16 w17=>
 zb t30 tr_ (s15.getD 0 u_) λt42=>za (λK18=>gIf t42 false (fl w17 t3 94 0 92 λt45=>bt .eql 92 t45 (Value.int .u8 14) λt46=>K18 [t46] w17) (K18 [u_] w17)) (λs19 _d20 w21=>
 za (λK22=>gIf (s19.getD 0 u_) true (fl w21 t3 94 10 3 λt49=>bt .neq 3 t49 (i6 0) λt50=>K22 [t50] w21) (K22 [u_] w21)) (λs23 _d24 w25=>
 za (λK26=>gIf t42 false (zb (s19.getD 0 u_) (s23.getD 0 u_) fa_ λt51=>K26 [t51] w25) (K26 [u_] w25)) (λs27 _d28 w29=>
 zb t42 tr_ (s27.getD 0 u_) λt52=>zc t52 (K fa_ w29) (za (λK30=>
 lo w29.drew 180 t2 λt53=>fl w29.drew t3 94 1 59 λt55=>lo w29.drew 180 t2 λt57=>fl w29.drew t3 94 6 59 λt59=>((ca zz #[t53,t55] w29.drew λt56 w34=>
 Ext w29.drew w34∧
 ((ca zz #[t57,t59] w34 λt60 w35=>
 ((pw w35 (Instr.alloc 228 true (.tuple #[])) λt7 w36=>
 Ext w35 w36∧
 pw w36 (Instr.alloc 228 true (.tuple #[])) λt8 w37=>
 Ext w36 w37∧
 so w37 228 t7 t56 λw38=>so w38 228 t8 t60 λw39=>K30 [t7,t8] w39)∧
 (pw w35 (Instr.alloc 228 true (.tuple #[])) λt8_41 w40=>
 Ext w35 w40∧
 pw w40 (Instr.alloc 228 true (.tuple #[])) λt7_43 w42=>
 Ext w40 w42∧
 so w42 228 t7_43 t56 λw44=>so w44 228 t8_41 t60 λw45=>K30 [t7_43,t8_41] w45)))∧
 (((pw w34 (Instr.alloc 228 true (.tuple #[])) λt7_47 w46=>
 Ext w34 w46∧
 ((ca zz #[t57,t59] w46 λt60_49 w48=>
 pw w48 (Instr.alloc 228 true (.tuple #[])) λt8_51 w50=>
 Ext w48 w50∧
 so w50 228 t7_47 t56 λw52=>so w52 228 t8_51 t60_49 λw53=>K30 [t7_47,t8_51] w53)∧
 (pw w46 (Instr.alloc 228 true (.tuple #[])) λt8_55 w54=>
 Ext w46 w54∧
 ca zz #[t57,t59] w54 λt60_57 w56=>
 so w56 228 t7_47 t56 λw58=>so w58 228 t8_55 t60_57 λw59=>K30 [t7_47,t8_55] w59)))∧
 (pw w34 (Instr.alloc 228 true (.tuple #[])) λt8_61 w60=>
 Ext w34 w60∧
 ((ca zz #[t57,t59] w60 λt60_63 w62=>
 pw w62 (Instr.alloc 228 true (.tuple #[])) λt7_65 w64=>
 Ext w62 w64∧
 so w64 228 t7_65 t56 λw66=>so w66 228 t8_61 t60_63 λw67=>K30 [t7_65,t8_61] w67)∧
 (pw w60 (Instr.alloc 228 true (.tuple #[])) λt7_69 w68=>
 Ext w60 w68∧
 ca zz #[t57,t59] w68 λt60_71 w70=>
 so w70 228 t7_69 t56 λw72=>so w72 228 t8_61 t60_71 λw73=>K30 [t7_69,t8_61] w73)))))))∧
 (((pw w29.drew (Instr.alloc 228 true (.tuple #[])) λt7_75 w74=>
 Ext w29.drew w74∧
 ((ca zz #[t53,t55] w74 λt56_77 w76=>
 Ext w74 w76∧
 ((ca zz #[t57,t59] w76 λt60_79 w78=>
 pw w78 (Instr.alloc 228 true (.tuple #[])) λt8_81 w80=>
 Ext w78 w80∧
 so w80 228 t7_75 t56_77 λw82=>so w82 228 t8_81 t60_79 λw83=>K30 [t7_75,t8_81] w83)∧
 (pw w76 (Instr.alloc 228 true (.tuple #[])) λt8_85 w84=>
 Ext w76 w84∧
 ca zz #[t57,t59] w84 λt60_87 w86=>
 so w86 228 t7_75 t56_77 λw88=>so w88 228 t8_85 t60_87 λw89=>K30 [t7_75,t8_85] w89)))∧
 (pw w74 (Instr.alloc 228 true (.tuple #[])) λt8_91 w90=>
 Ext w74 w90∧
 ca zz #[t53,t55] w90 λt56_93 w92=>
 Ext w90 w92∧
 ca zz #[t57,t59] w92 λt60_95 w94=>
 so w94 228 t7_75 t56_93 λw96=>so w96 228 t8_91 t60_95 λw97=>K30 [t7_75,t8_91] w97)))∧
 (pw w29.drew (Instr.alloc 228 true (.tuple #[])) λt8_99 w98=>
 Ext w29.drew w98∧
 ((ca zz #[t53,t55] w98 λt56_101 w100=>
 Ext w98 w100∧
 ((ca zz #[t57,t59] w100 λt60_103 w102=>
 pw w102 (Instr.alloc 228 true (.tuple #[])) λt7_105 w104=>
 Ext w102 w104∧
 so w104 228 t7_105 t56_101 λw106=>so w106 228 t8_99 t60_103 λw107=>K30 [t7_105,t8_99] w107)∧
 (pw w100 (Instr.alloc 228 true (.tuple #[])) λt7_109 w108=>
 Ext w100 w108∧
 ca zz #[t57,t59] w108 λt60_111 w110=>
 so w110 228 t7_109 t56_101 λw112=>so w112 228 t8_99 t60_111 λw113=>K30 [t7_109,t8_99] w113)))∧
 (pw w98 (Instr.alloc 228 true (.tuple #[])) λt7_115 w114=>
 Ext w98 w114∧
 ca zz #[t53,t55] w114 λt56_117 w116=>
 Ext w114 w116∧
 ca zz #[t57,t59] w116 λt60_119 w118=>
 so w118 228 t7_115 t56_117 λw120=>so w120 228 t8_99 t60_119 λw121=>K30 [t7_115,t8_99] w121))))))) (λs31 _d32 w33=>
 fl w33 (s31.getD 0 u_) 228 2 4 λt62=>za (λK122=>gIf t62 true (fl w33 (s31.getD 0 u_) 228 1 3 λt65=>bt .lss 3 t65 (i6 3) λt66=>K122 [t66] w33) (K122 [u_] w33)) (λs123 _d124 w125=>
 zb t62 (s123.getD 0 u_) fa_ λt67=>lo w125 180 t2 λt69=>fl w125 t3 94 2 61 λt71=>ca y6 #[t69,t71] w125 λt72 w126=>
 pe t72 0 λt73=>pe t72 1 λt74=>pw w126 (Instr.alloc 112 true (.tuple #[])) λt10 w127=>
 so w127 112 t10 t73 λw128=>lo w128 180 t2 λt76=>fl w128 t3 94 3 61 λt78=>ca y6 #[t76,t78] w128 λt79 w129=>
 pe t79 0 λt80=>pe t79 1 λt81=>pw w129 (Instr.alloc 112 true (.tuple #[])) λt12 w130=>
 so w130 112 t12 t80 λw131=>pp (Instr.makeFunc (.func 177) #[] #[t3,t2]) λt82=>fl w131 t3 94 0 92 λt84=>bt .eql 92 t84 (Value.int .u8 1) λt86=>zc t86 (lo w131 94 t3 λt87=>pp (Instr.build 235 #[(0,tr_),(1,tr_)]) λt88=>ca z8 #[t87,t88] w131 λt89 w132=>
 za (λK133=>gIf t89 true (K133 [t67] w132) (K133 [u_] w132)) (λs134 _d135 w136=>
 zb t89 (s134.getD 0 u_) fa_ λt92=>za (λK137=>gIf t92 true (K137 [t74] w136) (K137 [u_] w136)) (λs138 _d139 w140=>
 zb t92 (s138.getD 0 u_) fa_ λt95=>za (λK141=>gIf t95 true (lo w140 112 t10 λt97=>fl w140 (s31.getD 0 u_) 228 0 112 λt99=>ca xN #[t97,t99] w140 λt100 w145=>
 K141 [t100] w145) (K141 [u_] w140)) (λs142 _d143 w144=>
 zb t95 (s142.getD 0 u_) fa_ λt101=>K t101 w144)))) (bt .eql 92 t84 (Value.int .u8 2) λt103=>zc t103 (lo w131 94 t3 λt104=>pp (Instr.build 235 #[(0,tr_),(1,tr_),(2,tr_),(4,tr_)]) λt105=>ca z8 #[t104,t105] w131 λt106 w146=>
 pp (Op.unary .not t106) λt107=>za (λK147=>gIf t107 false (pp (Op.unary .not t67) λt110=>K147 [t110] w146) (K147 [u_] w146)) (λs148 _d149 w150=>
 zb t107 tr_ (s148.getD 0 u_) λt111=>za (λK151=>gIf t111 false (pp (Op.unary .not t74) λt114=>K151 [t114] w150) (K151 [u_] w150)) (λs152 _d153 w154=>
 zb t111 tr_ (s152.getD 0 u_) λt115=>za (λK155=>gIf t115 false (pp (Op.unary .not t81) λt118=>K155 [t118] w154) (K155 [u_] w154)) (λs156 _d157 w158=>
 zb t115 tr_ (s156.getD 0 u_) λt119=>zc t119 (K fa_ w158) (lo w158 112 t10 λt121=>cv (Value.func (.func 176) #[] #[]) #[t121,(Value.int .u8 1)] w158 λt122 w159=>
 za (λK160=>gIf t122 true (lo w159 112 t12 λt125=>cv (Value.func (.func 176) #[] #[]) #[t125,(Value.int .u8 1)] w159 λt126 w164=>
 K160 [t126] w164) (K160 [u_] w159)) (λs161 _d162 w163=>
 zb t122 (s161.getD 0 u_) fa_ λt127=>fl w163 t3 94 5 9 λt129=>za (λK165=>
 bt .eql 9 t129 (Value.string { data:=#[43] }) λt131=>zc t131 (K165 [t131] w163) (bt .eql 9 t129 (Value.string { data:=#[45] }) λt132=>zc t132 (K165 [t132] w163) (bt .eql 9 t129 (Value.string { data:=#[42] }) λt133=>zc t133 (K165 [t133] w163) (bt .eql 9 t129 (Value.string { data:=#[47] }) λt134=>zc t134 (K165 [t134] w163) (bt .eql 9 t129 (Value.string { data:=#[37] }) λt135=>K165 [t135] w163))))) (λs166 _d167 w168=>
 zc (s166.getD 0 u_) (fl w168 (s31.getD 0 u_) 228 0 112 λt138=>cv (Value.func (.func 176) #[] #[]) #[t138,(Value.int .u8 1)] w168 λt139 w169=>
 za (λK170=>gIf t139 true (K170 [t127] w169) (K170 [u_] w169)) (λs171 _d172 w173=>
 zb t139 (s171.getD 0 u_) fa_ λt142=>K t142 w173)) (za (λK174=>
 bt .eql 9 t129 (Value.string { data:=#[60] }) λt144=>zc t144 (K174 [t144] w168) (bt .eql 9 t129 (Value.string { data:=#[60,61] }) λt145=>zc t145 (K174 [t145] w168) (bt .eql 9 t129 (Value.string { data:=#[62] }) λt146=>zc t146 (K174 [t146] w168) (bt .eql 9 t129 (Value.string { data:=#[62,61] }) λt147=>K174 [t147] w168)))) (λs175 _d176 w177=>
 zc (s175.getD 0 u_) (fl w177 (s31.getD 0 u_) 228 0 112 λt150=>cv (Value.func (.func 176) #[] #[]) #[t150,(Value.int .u8 2)] w177 λt151 w178=>
 za (λK179=>gIf t151 true (K179 [t127] w178) (K179 [u_] w178)) (λs180 _d181 w182=>
 zb t151 (s180.getD 0 u_) fa_ λt154=>K t154 w182)) (za (λK183=>
 bt .eql 9 t129 (Value.string { data:=#[61,61] }) λt156=>zc t156 (K183 [t156] w177) (bt .eql 9 t129 (Value.string { data:=#[33,61] }) λt157=>K183 [t157] w177)) (λs184 _d185 w186=>
 zc (s184.getD 0 u_) (fl w186 (s31.getD 0 u_) 228 0 112 λt160=>cv (Value.func (.func 176) #[] #[]) #[t160,(Value.int .u8 2)] w186 λt161 w187=>
 za (λK188=>gIf t161 true (K188 [t127] w187) (K188 [u_] w187)) (λs189 _d190 w191=>
 za (λK192=>gIf (s189.getD 0 u_) false (lo w191 112 t10 λt166=>cv (Value.func (.func 176) #[] #[]) #[t166,(Value.int .u8 2)] w191 λt167 w196=>
 K192 [t167] w196) (K192 [u_] w191)) (λs193 _d194 w195=>
 za (λK197=>gIf (s193.getD 0 u_) true (lo w195 112 t12 λt170=>cv (Value.func (.func 176) #[] #[]) #[t170,(Value.int .u8 2)] w195 λt171 w201=>
 K197 [t171] w201) (K197 [u_] w195)) (λs198 _d199 w200=>
 za (λK202=>gIf (s189.getD 0 u_) false (zb (s193.getD 0 u_) (s198.getD 0 u_) fa_ λt172=>K202 [t172] w200) (K202 [u_] w200)) (λs203 _d204 w205=>
 za (λK206=>gIf t161 true (zb (s189.getD 0 u_) tr_ (s203.getD 0 u_) λt173=>K206 [t173] w205) (K206 [u_] w205)) (λs207 _d208 w209=>
 zb t161 (s207.getD 0 u_) fa_ λt174=>K t174 w209)))))) (K fa_ w186)))))))))))) (bt .eql 92 t84 (Value.int .u8 3) λt176=>zc t176 (pw w131 (Instr.makeMap 236 none) λt177 w210=>
 pu w210 (Instr.mapUpdate 236 t177 (Value.string { data:=#[45] }) (Value.int .u8 1)) λw211=>pu w211 (Instr.mapUpdate 236 t177 (Value.string { data:=#[33] }) (Value.int .u8 2)) λw212=>fl w212 t3 94 5 9 λt180=>pq w212 (Instr.lookup 236 t177 t180 false) λt181=>lo w212 94 t3 λt182=>pp (Instr.build 235 #[(0,tr_),(1,tr_),(4,tr_)]) λt183=>ca z8 #[t182,t183] w212 λt184 w213=>
 za (λK214=>gIf t184 true (K214 [t67] w213) (K214 [u_] w213)) (λs215 _d216 w217=>
 zb t184 (s215.getD 0 u_) fa_ λt187=>za (λK218=>gIf t187 true (K218 [t74] w217) (K218 [u_] w217)) (λs219 _d220 w221=>
 zb t187 (s219.getD 0 u_) fa_ λt190=>za (λK222=>gIf t190 true (bt .neq 110 t181 (Value.int .u8 0) λt193=>K222 [t193] w221) (K222 [u_] w221)) (λs223 _d224 w225=>
 zb t190 (s223.getD 0 u_) fa_ λt194=>za (λK226=>gIf t194 true (fl w225 (s31.getD 0 u_) 228 0 112 λt198=>cv (Value.func (.func 176) #[] #[]) #[t198,t181] w225 λt200 w230=>
 K226 [t200] w230) (K226 [u_] w225)) (λs227 _d228 w229=>
 zb t194 (s227.getD 0 u_) fa_ λt201=>za (λK231=>gIf t201 true (lo w229 112 t10 λt204=>cv (Value.func (.func 176) #[] #[]) #[t204,t181] w229 λt206 w235=>
 K231 [t206] w235) (K231 [u_] w229)) (λs232 _d233 w234=>
 zb t201 (s232.getD 0 u_) fa_ λt207=>K t207 w234)))))) (bt .eql 92 t84 (Value.int .u8 4) λt209=>zc t209 (lo w131.drew 94 t3 λt210=>pp (Instr.build 235 #[(0,tr_),(5,tr_),(6,tr_)]) λt211=>ca z8 #[t210,t211] w131.drew λt212 w236=>
 za (λK237=>gIf t212 true (K237 [t67] w236) (K237 [u_] w236)) (λs238 _d239 w240=>
 zb t212 (s238.getD 0 u_) fa_ λt215=>za (λK241=>gIf t215 true (fl w240 (s31.getD 1 u_) 228 2 4 λt218=>K241 [t218] w240) (K241 [u_] w240)) (λs242 _d243 w244=>
 zb t215 (s242.getD 0 u_) fa_ λt219=>za (λK245=>gIf t219 true (fl w244 (s31.getD 0 u_) 228 0 112 λt223=>cv (Value.func (.func 176) #[] #[]) #[t223,(Value.int .u8 4)] w244 λt224 w249=>
 K245 [t224] w249) (K245 [u_] w244)) (λs246 _d247 w248=>
 zb t219 (s246.getD 0 u_) fa_ λt225=>za (λK250=>gIf t225 true (pf 228 (s31.getD 0 u_) 0 λt227=>fl w248 t227 112 1 4 λt229=>fl w248 t3 94 7 4 λt231=>bf .eql 4 t229 t231 λt232=>K250 [t232] w248) (K250 [u_] w248)) (λs251 _d252 w253=>
 zb t225 (s251.getD 0 u_) fa_ λt233=>za (λK254=>gIf t233 true (pf 228 (s31.getD 0 u_) 0 λt235=>fl w253 t235 112 4 70 λt237=>xl w253 70 t237 (i6 0) 112 λt239=>fl w253 (s31.getD 1 u_) 228 0 112 λt241=>ca xN #[t239,t241] w253 λt242 w258=>
 K254 [t242] w258) (K254 [u_] w253)) (λs255 _d256 w257=>
 zb t233 (s255.getD 0 u_) fa_ λt243=>za (λK259=>gIf t243 true (fl w257 t3 94 7 4 λt246=>K259 [t246] w257) (K259 [u_] w257)) (λs260 _d261 w262=>
 za (λK263=>gIf (s260.getD 0 u_) true (fl w262 (s31.getD 1 u_) 228 1 3 λt249=>bt .eql 3 t249 (i6 3) λt250=>K263 [t250] w262) (K263 [u_] w262)) (λs264 _d265 w266=>
 za (λK267=>gIf t243 true (zb (s260.getD 0 u_) (s264.getD 0 u_) fa_ λt251=>pp (Op.unary .not t251) λt252=>K267 [t252] w266) (K267 [u_] w266)) (λs268 _d269 w270=>
 zb t243 (s268.getD 0 u_) fa_ λt253=>K t253 w270))))))))) (bt .eql 92 t84 (Value.int .u8 5) λt255=>zc t255 (lo w131.drew 94 t3 λt256=>pp (Instr.build 235 #[(0,tr_),(1,tr_)]) λt257=>ca z8 #[t256,t257] w131.drew λt258 w271=>
 za (λK272=>gIf t258 true (K272 [t67] w271) (K272 [u_] w271)) (λs273 _d274 w275=>
 zb t258 (s273.getD 0 u_) fa_ λt261=>za (λK276=>gIf t261 true (K276 [t74] w275) (K276 [u_] w275)) (λs277 _d278 w279=>
 zb t261 (s277.getD 0 u_) fa_ λt264=>za (λK280=>gIf t264 true (fl w279 (s31.getD 0 u_) 228 0 112 λt268=>cv (Value.func (.func 176) #[] #[]) #[t268,(Value.int .u8 3)] w279 λt269 w284=>
 K280 [t269] w284) (K280 [u_] w279)) (λs281 _d282 w283=>
 zb t264 (s281.getD 0 u_) fa_ λt270=>za (λK285=>gIf t270 true (pf 228 (s31.getD 0 u_) 0 λt272=>fl w283 t272 112 4 70 λt274=>xl w283 70 t274 (i6 0) 112 λt276=>lo w283 112 t10 λt277=>ca xN #[t276,t277] w283 λt278 w289=>
 K285 [t278] w289) (K285 [u_] w283)) (λs286 _d287 w288=>
 zb t270 (s286.getD 0 u_) fa_ λt279=>K t279 w288))))) (bt .eql 92 t84 (Value.int .u8 6) λt281=>zc t281 (lo w131 94 t3 λt282=>pp (Instr.build 235 #[(0,tr_),(3,tr_),(8,tr_)]) λt283=>ca z8 #[t282,t283] w131 λt284 w290=>
 pp (Op.unary .not t284) λt285=>za (λK291=>gIf t285 false (pp (Op.unary .not t67) λt288=>K291 [t288] w290) (K291 [u_] w290)) (λs292 _d293 w294=>
 zb t285 tr_ (s292.getD 0 u_) λt289=>za (λK295=>gIf t289 false (fl w294 (s31.getD 0 u_) 228 0 112 λt293=>cv (Value.func (.func 176) #[] #[]) #[t293,(Value.int .u8 5)] w294 λt294 w299=>
 pp (Op.unary .not t294) λt295=>K295 [t295] w299) (K295 [u_] w294)) (λs296 _d297 w298=>
 zb t289 tr_ (s296.getD 0 u_) λt296=>za (λK300=>gIf t296 false (pf 228 (s31.getD 0 u_) 0 λt298=>fl w298 t298 112 3 3 λt300=>fl w298 t3 94 9 3 λt302=>bf .neq 3 t300 t302 λt303=>K300 [t303] w298) (K300 [u_] w298)) (λs301 _d302 w303=>
 zb t296 tr_ (s301.getD 0 u_) λt304=>zc t304 (K fa_ w303) (pf 180 t2 0 λt306=>fl w303 t306 25 0 22 λt308=>fl w303 (s31.getD 0 u_) 228 0 112 λt310=>ca ZQ #[t308,t310] w303 λt311 w304=>
 pe t311 0 λt312=>pe t311 1 λ_t313=>cv t82 #[t312] w304 λt316 w305=>
 K t316 w305))))) (bt .eql 92 t84 (Value.int .u8 7) λt318=>zc t318 (lo w131 94 t3 λt319=>pp (Instr.build 235 #[(0,tr_),(3,tr_),(7,tr_)]) λt320=>ca z8 #[t319,t320] w131 λt321 w306=>
 pp (Op.unary .not t321) λt322=>za (λK307=>gIf t322 false (pp (Op.unary .not t67) λt325=>K307 [t325] w306) (K307 [u_] w306)) (λs308 _d309 w310=>
 zb t322 tr_ (s308.getD 0 u_) λt326=>za (λK311=>gIf t326 false (fl w310 t3 94 8 3 λt329=>bt .lss 3 t329 (i6 0) λt330=>K311 [t330] w310) (K311 [u_] w310)) (λs312 _d313 w314=>
 zb t326 tr_ (s312.getD 0 u_) λt331=>za (λK315=>gIf t331 false (fl w314 t3 94 8 3 λt334=>pf 180 t2 0 λt335=>fl w314 t335 25 1 23 λt337=>pp (Builtin.len_ #[23] 3 #[t337]) λt338=>bf .geq 3 t334 t338 λt339=>K315 [t339] w314) (K315 [u_] w314)) (λs316 _d317 w318=>
 zb t331 tr_ (s316.getD 0 u_) λt340=>zc t340 (K fa_ w318) (pf 180 t2 0 λt341=>fl w318 t341 25 1 23 λt343=>fl w318 t3 94 8 3 λt345=>xl w318 23 t343 t345 74 λt347=>pw w318 (Instr.alloc 74 true (.tuple #[])) λt20 w319=>
 so w319 74 t20 t347 λw320=>fl w320.drew (s31.getD 0 u_) 228 0 112 λt349=>fl w320.drew t20 74 4 70 λt351=>xl w320.drew 70 t351 (i6 0) 112 λt353=>ca xN #[t349,t353] w320.drew λt354 w321=>
 za (λK322=>gIf t354 true (fl w321 t20 74 4 70 λt358=>fl w321 t20 74 3 3 λt360=>bt .add 3 t360 (i6 1) λt361=>pp (Instr.sliceAt 70 t358 (some (i6 1)) (some t361) none) λt362=>cv t82 #[t362] w321 λt363 w326=>
 K322 [t363] w326) (K322 [u_] w321)) (λs323 _d324 w325=>
 zb t354 (s323.getD 0 u_) fa_ λt364=>K t364 w325)))))) (bt .eql 92 t84 (Value.int .u8 8) λt366=>zc t366 (lo w131 94 t3 λt367=>pp (Instr.build 235 #[(0,tr_)]) λt368=>ca z8 #[t367,t368] w131 λt369 w327=>
 za (λK328=>gIf t369 true (K328 [t67] w327) (K328 [u_] w327)) (λs329 _d330 w331=>
 zb t369 (s329.getD 0 u_) fa_ λt372=>za (λK332=>gIf t372 true (fl w331 (s31.getD 0 u_) 228 0 112 λt376=>cv (Value.func (.func 176) #[] #[]) #[t376,(Value.int .u8 1)] w331 λt377 w336=>
 K332 [t377] w336) (K332 [u_] w331)) (λs333 _d334 w335=>
 zb t372 (s333.getD 0 u_) fa_ λt378=>K t378 w335))) (bt .eql 92 t84 (Value.int .u8 9) λt380=>zc t380 (lo w131 94 t3 λt381=>pp (Instr.build 235 #[(1,tr_)]) λt382=>ca z8 #[t381,t382] w131 λt383 w337=>
 za (λK338=>gIf t383 true (K338 [t74] w337) (K338 [u_] w337)) (λs339 _d340 w341=>
 zb t383 (s339.getD 0 u_) fa_ λt386=>za (λK342=>gIf t386 true (lo w341 112 t10 λt389=>cv (Value.func (.func 176) #[] #[]) #[t389,(Value.int .u8 1)] w341 λt390 w346=>
 K342 [t390] w346) (K342 [u_] w341)) (λs343 _d344 w345=>
 zb t386 (s343.getD 0 u_) fa_ λt391=>K t391 w345))) (bt .eql 92 t84 (Value.int .u8 10) λt393=>zc t393 (pf 180 t2 0 λt395=>fl w131 t395 25 0 22 λt397=>fl w131 (s31.getD 1 u_) 228 0 112 λt399=>ca YE #[t397,t399] w131 λt400 w347=>
 pe t400 0 λt401=>pe t400 1 λ_t402=>lo w347 94 t3 λt403=>pp (Instr.build 235 #[(5,tr_)]) λt404=>ca z8 #[t403,t404] w347 λt405 w348=>
 za (λK349=>gIf t405 true (fl w348 (s31.getD 1 u_) 228 2 4 λt408=>K349 [t408] w348) (K349 [u_] w348)) (λs350 _d351 w352=>
 zb t405 (s350.getD 0 u_) fa_ λt409=>za (λK353=>gIf t409 true (K353 [t401] w352) (K353 [u_] w352)) (λs354 _d355 w356=>
 zb t409 (s354.getD 0 u_) fa_ λt412=>za (λK357=>gIf t412 true (fl w356 (s31.getD 1 u_) 228 1 3 λt415=>bt .lss 3 t415 (i6 2) λt416=>K357 [t416] w356) (K357 [u_] w356)) (λs358 _d359 w360=>
 zb t412 (s358.getD 0 u_) fa_ λt417=>K t417 w360)))) (bt .eql 92 t84 (Value.int .u8 11) λt419=>zc t419 (lo w131 94 t3 λt420=>pp (Instr.build 235 #[(5,tr_)]) λt421=>ca z8 #[t420,t421] w131 λt422 w361=>
 za (λK362=>gIf t422 true (fl w361 (s31.getD 1 u_) 228 2 4 λt425=>K362 [t425] w361) (K362 [u_] w361)) (λs363 _d364 w365=>
 zb t422 (s363.getD 0 u_) fa_ λt426=>za (λK366=>gIf t426 true (pf 94 t3 6 λt428=>fl w365 t428 59 0 3 λt430=>bt .gtr 3 t430 (i6 0) λt431=>K366 [t431] w365) (K366 [u_] w365)) (λs367 _d368 w369=>
 zb t426 (s367.getD 0 u_) fa_ λt432=>za (λK370=>gIf t432 true (pf 94 t3 6 λt434=>fl w369 t434 59 1 57 λt436=>pp (Builtin.len_ #[57] 3 #[t436]) λt437=>bt .eql 3 t437 (i6 0) λt438=>K370 [t438] w369) (K370 [u_] w369)) (λs371 _d372 w373=>
 zb t432 (s371.getD 0 u_) fa_ λt439=>K t439 w373)))) (bt .eql 92 t84 (Value.int .u8 12) λt441=>zc t441 (lo w131 94 t3 λt442=>pp (Instr.build 235 #[(1,tr_),(9,tr_)]) λt443=>ca z8 #[t442,t443] w131 λt444 w374=>
 za (λK375=>gIf t444 true (K375 [t74] w374) (K375 [u_] w374)) (λs376 _d377 w378=>
 zb t444 (s376.getD 0 u_) fa_ λt447=>za (λK379=>gIf t447 true (lo w378 112 t10 λt450=>cv (Value.func (.func 176) #[] #[]) #[t450,(Value.int .u8 2)] w378 λt451 w383=>
 K379 [t451] w383) (K379 [u_] w378)) (λs380 _d381 w382=>
 zb t447 (s380.getD 0 u_) fa_ λt452=>za (λK384=>gIf t452 true (fl w382 t3 94 11 3 λt456=>cv t27 #[t456] w382 λt457 w388=>
 K384 [t457] w388) (K384 [u_] w382)) (λs385 _d386 w387=>
 zb t452 (s385.getD 0 u_) fa_ λt458=>K t458 w387)))) (za (λK389=>
 bt .eql 92 t84 (Value.int .u8 13) λt460=>zc t460 (K389 [t460] w131) (bt .eql 92 t84 (Value.int .u8 14) λt461=>K389 [t461] w131)) (λs390 _d391 w392=>
 zc (s390.getD 0 u_) (lo w392 94 t3 λt462=>pp (Instr.build 235 #[]) λt463=>ca z8 #[t462,t463] w392 λt464 w393=>
 K t464 w393) (K fa_ w392)))))))))))))))))))))))
theorem JK(h:ZH t0 t1 w K):zd prog qX #[t0,t1] w K:=
 okC false (.s (.r (rz 3 0 10)) (.s (.r (rz 6 0 2576)) (.s (.r (rz 2 0 0)) (.s (.s (.r (ra 4 0 4 (.grp 31 false (ri 4 4 4) [35] (.grp 35 true (ri 5 8 144) [40] (.grp 31 false (ri 1 13 0) [41] (ra 2 14 0 (.grp 43 false (ri 4 16 4) [47] (.grp 47 true (ri 3 20 4) [50] (.grp 43 false (ri 1 23 0) [51] (rz 1 24 0)))))))))) (.c (.s (.r (rz 1 0 0)) (.n)) (.n))) (.j [7,8] (.r (ra 3 0 17 (ra 3 4 17 (.alt 3 .u (.alt 7 .l (.alt 8 .u (rz 3 9 43) (ra 1 9 3 (ra 1 8 3 (rz 2 10 10)))) (.alt 8 .u (.alt 7 .l (rz 3 9 43) (ra 1 9 3 (ra 1 7 2 (rz 2 10 10)))) (ra 1 9 3 (.alt 7 .l (ra 1 8 3 (rz 2 10 10)) (ra 1 8 3 (ra 1 7 2 (rz 2 10 10))))))) (.alt 8 .u (.alt 3 .u (.alt 7 .l (rz 3 9 43) (ra 1 9 3 (ra 1 7 2 (rz 2 10 10)))) (ra 1 9 3 (ra 1 3 3 (ra 1 7 2 (rz 2 10 10))))) (ra 1 9 3 (.alt 3 .u (.alt 7 .l (ra 1 8 3 (rz 2 10 10)) (ra 1 8 3 (ra 1 7 2 (rz 2 10 10)))) (ra 1 8 3 (ra 1 3 3 (ra 1 7 2 (rz 2 10 10))))))))))) (.s (.r (ra 3 0 4 (.grp 63 true (ri 3 3 4) [66] (rz 2 6 0)))) (.s (.r (rz 10 0 163985)) (.s (.r (rz 10 0 163985)) (.s (.r (rz 1 0 0)) (.s (.r (rz 2 0 0)) (.s (.s (.r (rz 2 0 4)) (.b (.s (.r (rz 2 0 0)) (.c (.s (.r (ra 4 0 33 (.grp 90 true (ri 1 4 0) [91] (ra 2 5 0 (.grp 93 true (ri 1 7 0) [94] (ra 2 8 0 (.grp 96 true (ri 4 10 145) [100] (rz 2 14 0)))))))) (.n)) (.s (.r (rz 2 0 0)) (.c (.s (.s (.r (ra 5 0 33 (.grp 108 false (ri 2 5 0) [110] (ra 2 7 0 (.grp 112 false (ri 2 9 0) [114] (ra 2 11 0 (.grp 116 false (ri 2 13 0) [118] (rz 1 15 0)))))))) (.c (.s (.r (rz 1 0 0)) (.n)) (.n))) (.s (.r (ra 4 0 36 (.grp 123 true (ri 3 4 36) [126] (rz 2 7 0)))) (.s (.s (.r (rz 2 0 4)) (.b (.j [130] (.s (.r (rz 2 0 0)) (.c (.n) (.s (.r (rz 2 0 0)) (.c (.n) (.s (.r (rz 2 0 0)) (.c (.n) (.s (.r (rz 2 0 0)) (.c (.n) (.r (rz 2 0 0)))))))))) (.c (.s (.r (ra 5 0 144 (.grp 140 true (ri 1 5 0) [141] (rz 2 6 0)))) (.n)) (.j [143] (.s (.r (rz 2 0 0)) (.c (.n) (.s (.r (rz 2 0 0)) (.c (.n) (.s (.r (rz 2 0 0)) (.c (.n) (.r (rz 2 0 0)))))))) (.c (.s (.r (ra 5 0 144 (.grp 152 true (ri 1 5 0) [153] (rz 2 6 0)))) (.n)) (.j [155] (.s (.r (rz 2 0 0)) (.c (.n) (.r (rz 2 0 0)))) (.c (.s (.r (ra 5 0 144 (.grp 162 true (ri 2 5 0) [164] (.grp 164 false (ri 4 7 36) [168] (.grp 168 true (ri 3 11 36) [171] (.grp 164 false (ri 1 14 0) [172] (.grp 162 true (ri 1 15 0) [173] (rz 2 16 0)))))))) (.n)) (.n))))))))) (.s (.r (rz 1 0 0)) (.n))))) (.s (.r (rz 2 0 0)) (.c (.s (.r (rz 8 0 5162)) (.s (.r (ra 4 0 33 (.grp 185 true (ri 1 4 0) [186] (ra 2 5 0 (.grp 188 true (ri 1 7 0) [189] (ra 2 8 0 (.grp 191 true (ri 2 10 0) [193] (ra 2 12 0 (.grp 195 true (ri 5 14 528) [200] (ra 2 19 0 (.grp 202 true (ri 4 21 132) [206] (rz 2 25 0)))))))))))) (.n))) (.s (.r (rz 2 0 0)) (.c (.s (.r (ra 4 0 33 (.grp 213 true (ri 1 4 0) [214] (ra 2 5 0 (.grp 216 true (ri 2 7 4) [218] (ra 2 9 0 (.grp 220 true (ri 4 11 144) [224] (ra 2 15 0 (.grp 226 true (ri 6 17 272) [232] (ra 2 23 0 (.grp 234 true (ri 8 25 37136) [242] (ra 2 33 0 (.grp 244 true (ri 3 35 4) [247] (.grp 247 true (ri 3 38 4) [250] (.grp 244 true (ri 2 41 0) [252] (rz 2 43 0)))))))))))))))) (.n)) (.s (.r (rz 2 0 0)) (.c (.s (.r (ra 4 0 33 (.grp 259 true (ri 1 4 0) [260] (ra 2 5 0 (.grp 262 true (ri 1 7 0) [263] (ra 2 8 0 (.grp 265 true (ri 4 10 144) [269] (ra 2 14 0 (.grp 271 true (ri 7 16 9488) [278] (rz 2 23 0)))))))))) (.n)) (.s (.r (rz 2 0 0)) (.c (.s (.s (.r (ra 5 0 33 (.grp 286 false (ri 2 5 0) [288] (ra 2 7 0 (.grp 290 false (ri 5 9 144) [295] (ra 2 14 0 (.grp 297 false (ri 6 16 272) [303] (rz 1 22 0)))))))) (.c (.s (.r (rz 1 0 0)) (.n)) (.n))) (.s (.r (rz 11 0 2320)) (.s (.r (rz 4 0 32)) (.n)))) (.s (.r (rz 2 0 0)) (.c (.s (.s (.r (ra 5 0 33 (.grp 323 false (ri 2 5 0) [325] (ra 2 7 0 (.grp 327 false (ri 3 9 4) [330] (ra 2 12 0 (.grp 332 false (ri 7 14 260) [339] (rz 1 21 0)))))))) (.c (.s (.r (rz 1 0 0)) (.n)) (.n))) (.s (.r (rz 9 0 168208)) (.s (.r (ra 8 0 9284 (.grp 355 true (ri 8 8 33040) [363] (rz 2 16 0)))) (.n)))) (.s (.r (rz 2 0 0)) (.c (.s (.r (ra 4 0 33 (.grp 370 true (ri 1 4 0) [371] (ra 2 5 0 (.grp 373 true (ri 4 7 144) [377] (rz 2 11 0)))))) (.n)) (.s (.r (rz 2 0 0)) (.c (.s (.r (ra 4 0 33 (.grp 384 true (ri 1 4 0) [385] (ra 2 5 0 (.grp 387 true (ri 3 7 36) [390] (rz 2 10 0)))))) (.n)) (.s (.r (rz 2 0 0)) (.c (.s (.r (rz 11 0 2320)) (.s (.r (ra 4 0 33 (.grp 406 true (ri 2 4 4) [408] (ra 2 6 0 (.grp 410 true (ri 1 8 0) [411] (ra 2 9 0 (.grp 413 true (ri 3 11 4) [416] (rz 2 14 0)))))))) (.n))) (.s (.r (rz 2 0 0)) (.c (.s (.r (ra 4 0 33 (.grp 423 true (ri 2 4 4) [425] (ra 2 6 0 (.grp 427 true (ri 4 8 16) [431] (ra 2 12 0 (.grp 433 true (ri 5 14 16) [438] (rz 2 19 0)))))))) (.n)) (.s (.r (rz 2 0 0)) (.c (.s (.r (ra 4 0 33 (.grp 445 true (ri 1 4 0) [446] (ra 2 5 0 (.grp 448 true (ri 3 7 36) [451] (ra 2 10 0 (.grp 453 true (ri 4 12 144) [457] (rz 2 16 0)))))))) (.n)) (.j [459] (.s (.r (rz 2 0 0)) (.c (.n) (.r (rz 2 0 0)))) (.c (.s (.r (rz 4 0 33)) (.n)) (.n))))))))))))))))))))))))))))) (.s (.r (rz 1 0 0)) (.n))))))))))))) func125 rfl (by kernel_rfl) (by kernel_rfl) h
def Q4(t0 t1 t2:Value)(w:World)(K:VW):Prop:=
 lo w 3 t1 λt6=>bf .lss 3 t0 t6 λt7=>za (λK1=>gIf t7 false (fl w t2 74 1 3 λt11=>bf .geq 3 t0 t11 λt12=>K1 [t12] w) (K1 [u_] w)) (λs2 _d3 w4=>
 zb t7 tr_ (s2.getD 0 u_) λt13=>K t13 w4)
theorem acT(h:Q4 t0 t1 t2 w K):zd prog ad0 #[t0,t1,t2] w K:=
 okC false (.s (.r (rz 1 0 0)) (.s (.r (ra 4 0 4 (.grp 8 false (ri 4 4 16) [12] (rz 2 8 0)))) (.n))) func171 rfl (by kernel_rfl) (by kernel_rfl) h
def XC(t0:Value)(w:World)(K:VW):Prop:=
 pw w (Instr.box 74 t0) λt1 w1=>
 pw w1 (Instr.alloc 204 true (.tuple #[])) λt3 w2=>
 pw w2 (Instr.alloc 204 true (.tuple #[])) λt4 w3=>
 fl w3 t1 74 4 70 λt12=>fl w3 t1 74 3 3 λt14=>bt .add 3 t14 (i6 1) λt15=>pp (Instr.sliceAt 70 t12 none (some t15) none) λt16=>ca Ze #[t16,t3] w3 λ_t17 w4=>
 fl w4 t1 74 2 69 λt19=>pp (Builtin.len_ #[69] 3 #[t19]) λt20=>zo [(i6 0)] w4 (λs6 _d7 w8 K5=>
 bf .lss 3 (s6.getD 0 u_) t20 λt22=>zc t22 (xl w8 69 t19 (s6.getD 0 u_) 208 λt25=>pw w8 (Instr.alloc 208 true (.tuple #[])) λt6 w9=>
 so w9 208 t6 t25 λw10=>fl w10 t6 208 0 3 λt27=>fl w10 t6 208 1 3 λt29=>pp (Builtin.min_ #[3,3] 3 #[t27,t29]) λt30=>bt .lss 3 t30 (i6 0) λt31=>za (λK11=>gIf t31 false (fl w10 t6 208 0 3 λt34=>fl w10 t6 208 1 3 λt36=>pp (Builtin.max_ #[3,3] 3 #[t34,t36]) λt37=>fl w10 t1 74 1 3 λt39=>bf .geq 3 t37 t39 λt40=>K11 [t40] w10) (K11 [u_] w10)) (λs12 _d13 w14=>
 zb t31 tr_ (s12.getD 0 u_) λt41=>za (λK15=>gIf t41 false (fl w14 t6 208 0 3 λt44=>fl w14 t6 208 1 3 λt46=>bf .eql 3 t44 t46 λt47=>K15 [t47] w14) (K15 [u_] w14)) (λs16 _d17 w18=>
 zb t41 tr_ (s16.getD 0 u_) λt48=>zc t48 (K fa_ w18) (za (λK19=>
 bt .gtr 3 (s6.getD 0 u_) (i6 0) λt50=>zc t50 (fl w18 t1 74 2 69 λt52=>bt .sub 3 (s6.getD 0 u_) (i6 1) λt54=>xl w18 69 t52 t54 208 λt56=>pw w18 (Instr.alloc 208 true (.tuple #[])) λt7 w23=>
 so w23 208 t7 t56 λw24=>fl w24 t7 208 0 3 λt58=>fl w24 t6 208 0 3 λt60=>bf .gtr 3 t58 t60 λt61=>za (λK25=>gIf t61 false (fl w24 t7 208 0 3 λt64=>fl w24 t6 208 0 3 λt66=>bf .eql 3 t64 t66 λt67=>K25 [t67] w24) (K25 [u_] w24)) (λs26 _d27 w28=>
 za (λK29=>gIf (s26.getD 0 u_) true (fl w28 t7 208 1 3 λt70=>fl w28 t6 208 1 3 λt72=>bf .geq 3 t70 t72 λt73=>K29 [t73] w28) (K29 [u_] w28)) (λs30 _d31 w32=>
 za (λK33=>gIf t61 false (zb (s26.getD 0 u_) (s30.getD 0 u_) fa_ λt74=>K33 [t74] w32) (K33 [u_] w32)) (λs34 _d35 w36=>
 zb t61 tr_ (s34.getD 0 u_) λt75=>zc t75 (K fa_ w36) (K19 [] w36))))) (K19 [] w18)) (λ_s20 _d21 w22=>
 fl w22.drew t6 208 0 3 λt77=>fl w22.drew t6 208 1 3 λt79=>px 204 t4 t77 λt80=>px 203 t80 t79 λt81=>so w22.drew 4 t81 tr_ λw37=>bt .add 3 (s6.getD 0 u_) (i6 1) λt82=>K5 [t82] w37))))) (fl w8 t1 74 1 3 λt84=>zo [(i6 0)] w8 (λs39 _d40 w41 K38=>
 bf .lss 3 (s39.getD 0 u_) t84 λt86=>zc t86 (fl w41 t1 74 1 3 λt89=>zo [(i6 0)] w41 (λs43 _d44 w45 K42=>
 bf .lss 3 (s43.getD 0 u_) t89 λt91=>zc t91 (fl w45 t1 74 1 3 λt94=>zo [(i6 0)] w45 (λs47 _d48 w49 K46=>
 bf .lss 3 (s47.getD 0 u_) t94 λt96=>zc t96 (px 204 t4 (s39.getD 0 u_) λt100=>xl w49 203 t100 (s43.getD 0 u_) 4 λt102=>za (λK50=>gIf t102 true (px 204 t4 (s43.getD 0 u_) λt106=>xl w49 203 t106 (s47.getD 0 u_) 4 λt108=>K50 [t108] w49) (K50 [u_] w49)) (λs51 _d52 w53=>
 zb t102 (s51.getD 0 u_) fa_ λt109=>za (λK54=>gIf t109 true (bf .neq 3 (s39.getD 0 u_) (s47.getD 0 u_) λt113=>K54 [t113] w53) (K54 [u_] w53)) (λs55 _d56 w57=>
 zb t109 (s55.getD 0 u_) fa_ λt114=>za (λK58=>gIf t114 true (px 204 t4 (s39.getD 0 u_) λt118=>xl w57 203 t118 (s47.getD 0 u_) 4 λt120=>pp (Op.unary .not t120) λt121=>K58 [t121] w57) (K58 [u_] w57)) (λs59 _d60 w61=>
 zb t114 (s59.getD 0 u_) fa_ λt122=>zc t122 (K fa_ w61) (bt .add 3 (s47.getD 0 u_) (i6 1) λt123=>K46 [t123] w61))))) (bf .neq 3 (s39.getD 0 u_) (s43.getD 0 u_) λt126=>za (λK62=>gIf t126 true (px 204 t3 (s39.getD 0 u_) λt130=>xl w49 203 t130 (s43.getD 0 u_) 4 λt132=>K62 [t132] w49) (K62 [u_] w49)) (λs63 _d64 w65=>
 zb t126 (s63.getD 0 u_) fa_ λt133=>za (λK66=>gIf t133 true (px 204 t4 (s39.getD 0 u_) λt137=>xl w65 203 t137 (s43.getD 0 u_) 4 λt139=>pp (Op.unary .not t139) λt140=>K66 [t140] w65) (K66 [u_] w65)) (λs67 _d68 w69=>
 zb t133 (s67.getD 0 u_) fa_ λt141=>zc t141 (K fa_ w69) (bt .add 3 (s43.getD 0 u_) (i6 1) λt142=>K42 [t142] w69)))))) (bt .add 3 (s39.getD 0 u_) (i6 1) λt143=>K38 [t143] w45))) (K tr_ w41))))
theorem aa5(h:XC t0 w K):zd prog vr #[t0] w K:=
 okC false (.s (.r (rz 2 0 2)) (.s (.r (rz 2 0 10)) (.s (.r (rz 7 0 8260)) (.s (.s (.r (rz 4 0 4)) (.b (.lp [21] (.s (.r (rz 1 0 0)) (.s (.c (.n) (.n)) (.s (.b (.s (.r (rz 6 0 2192)) (.s (.s (.r (ra 7 0 68 (.grp 32 false (ri 8 7 4164) [40] (ra 2 15 0 (.grp 42 false (ri 5 17 68) [47] (rz 1 22 0)))))) (.c (.s (.r (rz 1 0 0)) (.n)) (.n))) (.j [] (.s (.r (rz 2 0 0)) (.c (.s (.r (rz 8 0 41988)) (.s (.r (ra 6 0 68 (.grp 62 false (ri 6 6 68) [68] (.grp 68 true (ri 5 12 68) [73] (.grp 62 false (ri 1 17 0) [74] (rz 1 18 0)))))) (.c (.s (.r (rz 1 0 0)) (.n)) (.n)))) (.n))) (.r (rz 7 0 8260)))))) (.r (rz 2 0 0)))))))) (.s (.s (.r (rz 3 0 4)) (.b (.lp [85] (.s (.r (rz 1 0 0)) (.s (.c (.n) (.n)) (.s (.b (.s (.r (rz 2 0 0)) (.s (.r (rz 3 0 4)) (.b (.lp [90] (.s (.r (rz 1 0 0)) (.s (.c (.n) (.n)) (.s (.b (.s (.r (rz 2 0 0)) (.s (.s (.r (rz 3 0 4)) (.b (.lp [95] (.s (.r (rz 1 0 0)) (.s (.c (.n) (.n)) (.s (.b (.s (.r (rz 2 0 0)) (.s (.r (ra 6 0 256 (.grp 103 true (ri 5 6 256) [108] (ra 2 11 0 (.grp 110 true (ri 3 13 0) [113] (ra 2 16 0 (.grp 115 true (ri 6 18 256) [121] (rz 1 24 0)))))))) (.c (.s (.r (rz 1 0 0)) (.n)) (.n))))) (.r (rz 2 0 0)))))))) (.s (.r (ra 4 0 0 (.grp 127 true (ri 5 4 256) [132] (ra 2 9 0 (.grp 134 true (ri 6 11 256) [140] (rz 1 17 0)))))) (.c (.s (.r (rz 1 0 0)) (.n)) (.n)))))) (.r (rz 2 0 0)))))))))) (.r (rz 2 0 0)))))))) (.s (.r (rz 1 0 0)) (.n))))))) func172 rfl (by kernel_rfl) (by kernel_rfl) h
def vK(t0 t1:Value)(w:World)(K:VW):Prop:=
 bt .geq 3 t0 (i6 0) λt5=>za (λK1=>gIf t5 true (lo w 3 t1 λt8=>bf .lss 3 t0 t8 λt9=>K1 [t9] w) (K1 [u_] w)) (λs2 _d3 w4=>
 zb t5 (s2.getD 0 u_) fa_ λt10=>K t10 w4)
theorem QH(h:vK t0 t1 w K):zd prog vG #[t0,t1] w K:=
 okC false (.s (.r (rz 1 0 0)) (.s (.r (ra 3 0 0 (.grp 6 true (ri 3 3 4) [9] (rz 2 6 0)))) (.n))) func173 rfl (by kernel_rfl) (by kernel_rfl) h
def vL(t0 t1:Value)(w:World)(K:VW):Prop:=
 pw w (Instr.box 180 t0) λt2 w1=>
 pw w1 (Instr.box 61 t1) λt3 w2=>
 pw w2 (Instr.alloc 112 true (.tuple #[])) λt4 w3=>
 fl w3 t3 61 0 56 λt9=>bt .eql 56 t9 (Value.int .u8 1) λt11=>zc t11 (pp (Instr.build 112 #[(0,(Value.int .u8 1))]) λt12=>fl w3 t3 61 2 59 λt14=>ca ke #[t14] w3 λt15 w4=>
 so w4 112 t4 t12 λw5=>pq w5 (zk 112 t4) λr6=>K (.tuple #[r6,t15]) w5) (bt .eql 56 t9 (Value.int .u8 2) λt17=>zc t17 (pp (Instr.build 112 #[(0,(Value.int .u8 2))]) λt18=>fl w3.drew t3 61 2 59 λt20=>ca ke #[t20] w3.drew λt21 w7=>
 za (λK8=>gIf t21 true (fl w7 t3 61 1 2 λt24=>bt .eql 2 t24 (i6 0) λt25=>K8 [t25] w7) (K8 [u_] w7)) (λs9 _d10 w11=>
 za (λK12=>gIf (s9.getD 0 u_) false (pf 61 t3 1 λt27=>K12 [t27] w11) (K12 [u_] w11)) (λs13 _d14 w15=>
 ((za (λK16=>gIf (s9.getD 0 u_) false (pw w15 (Instr.loadAt 2 (s13.getD 0 u_)) λt28 w20=>
 bt .eql 2 t28 (i6 1) λt29=>K16 [t29] w20) (K16 [u_] w15)) (λs17 _d18 w19=>
 za (λK21=>gIf t21 true (zb (s9.getD 0 u_) tr_ (s17.getD 0 u_) λt30=>K21 [t30] w19) (K21 [u_] w19)) (λs22 _d23 w24=>
 zb t21 (s22.getD 0 u_) fa_ λt31=>so w24 112 t4 t18 λw25=>pq w25 (zk 112 t4) λr26=>K (.tuple #[r26,t31]) w25)))∧
 (so w15 112 t4 t18 λw27=>za (λK28=>gIf (s9.getD 0 u_) false (pw w27 (Instr.loadAt 2 (s13.getD 0 u_)) λt28_33 w32=>
 bt .eql 2 t28_33 (i6 1) λt29_34=>K28 [t29_34] w32) (K28 [u_] w27)) (λs29 _d30 w31=>
 za (λK35=>gIf t21 true (zb (s9.getD 0 u_) tr_ (s29.getD 0 u_) λt30_39=>K35 [t30_39] w31) (K35 [u_] w31)) (λs36 _d37 w38=>
 zb t21 (s36.getD 0 u_) fa_ λt31_40=>pq w38 (zk 112 t4) λr41=>K (.tuple #[r41,t31_40]) w38))))))) (lo w3 180 t2 λt32=>fl w3 t3 61 2 59 λt34=>ca zz #[t32,t34] w3 λt35 w42=>
 pw w42 (Instr.alloc 228 true (.tuple #[])) λt6 w43=>
 so w43 228 t6 t35 λw44=>fl w44 t6 228 2 4 λt37=>za (λK45=>gIf t37 true (fl w44 t3 61 1 2 λt40=>bt .eql 2 t40 (i6 0) λt41=>K45 [t41] w44) (K45 [u_] w44)) (λs46 _d47 w48=>
 zb t37 (s46.getD 0 u_) fa_ λt42=>fl w48 t3 61 0 56 λt44=>bt .eql 56 t44 (Value.int .u8 3) λt46=>zc t46 (fl w48.drew t6 228 0 112 λt48=>za (λK49=>gIf t42 true (fl w48.drew t6 228 0 112 λt52=>ca jA #[t52] w48.drew λt53 w53=>
 Ext w48.drew w53∧
 K49 [t53] w53) (K49 [u_] w48.drew)) (λs50 _d51 w52=>
 zb t42 (s50.getD 0 u_) fa_ λt54=>so w52 112 t4 t48 λw54=>pq w54 (zk 112 t4) λr55=>K (.tuple #[r55,t54]) w54)) (bt .eql 56 t44 (Value.int .u8 4) λt56=>zc t56 (fl w48.drew t6 228 0 112 λt58=>za (λK56=>gIf t42 true (fl w48.drew t6 228 0 112 λt62=>ca jA #[t62] w48.drew λt63 w60=>
 Ext w48.drew w60∧
 pp (Op.unary .not t63) λt64=>K56 [t64] w60) (K56 [u_] w48.drew)) (λs57 _d58 w59=>
 zb t42 (s57.getD 0 u_) fa_ λt65=>za (λK61=>gIf t65 true (pf 228 t6 1 λt67=>K61 [t67] w59) (K61 [u_] w59)) (λs62 _d63 w64=>
 ((za (λK65=>gIf t65 true (pw w64 (Instr.loadAt 3 (s62.getD 0 u_)) λt68 w69=>
 Ext w64 w69∧
 bt .lss 3 t68 (i6 2) λt69=>K65 [t69] w69) (K65 [u_] w64)) (λs66 _d67 w68=>
 zb t65 (s66.getD 0 u_) fa_ λt70=>so w68 112 t4 t58 λw70=>pq w70 (zk 112 t4) λr71=>K (.tuple #[r71,t70]) w70))∧
 (so w64 112 t4 t58 λw72=>za (λK73=>gIf t65 true (pw w72 (Instr.loadAt 3 (s62.getD 0 u_)) λt68_78 w77=>
 Ext w72 w77∧
 bt .lss 3 t68_78 (i6 2) λt69_79=>K73 [t69_79] w77) (K73 [u_] w72)) (λs74 _d75 w76=>
 zb t65 (s74.getD 0 u_) fa_ λt70_80=>pq w76 (zk 112 t4) λr81=>K (.tuple #[r81,t70_80]) w76)))))) (pp (Instr.build 112 #[]) λt71=>so w48 112 t4 t71 λw82=>pq w82 (zk 112 t4) λr83=>K (.tuple #[r83,fa_]) w82)))))
theorem QJ(h:vL t0 t1 w K):zd prog y6 #[t0,t1] w K:=
 okC false (.s (.r (rz 4 0 42)) (.s (.s (.r (rz 2 0 4)) (.b (.s (.r (rz 2 0 0)) (.c (.s (.r (rz 6 0 656)) (.n)) (.s (.r (rz 2 0 0)) (.c (.s (.r (ra 5 0 144 (.grp 22 true (ri 4 5 4) [26] (.grp 26 false (ri 1 9 0) [27] (.bth (.grp 26 false (ri 2 10 2) [29] (.grp 22 true (ri 1 12 0) [30] (rz 3 13 8))) (ra 1 14 2 (.grp 26 false (ri 2 10 2) [29] (.grp 22 true (ri 1 12 0) [30] (ra 1 13 0 (rz 1 15 0)))))))))) (.n)) (.n))))))) (.s (.r (rz 6 0 2705)) (.s (.r (ra 3 0 4 (.grp 38 true (ri 3 3 4) [41] (rz 2 6 0)))) (.s (.s (.r (rz 2 0 4)) (.b (.s (.r (rz 2 0 0)) (.c (.s (.r (ra 4 0 4 (.grp 50 true (ri 3 4 52) [53] (rz 3 7 8)))) (.n)) (.s (.r (rz 2 0 0)) (.c (.s (.r (ra 4 0 4 (.grp 60 true (ri 4 4 52) [64] (ra 2 8 0 (.grp 66 true (ri 1 10 0) [67] (.bth (.grp 66 true (ri 2 11 3) [69] (rz 3 13 8)) (ra 1 14 2 (.grp 66 true (ri 2 11 3) [69] (ra 1 13 0 (rz 1 15 0)))))))))) (.n)) (.n))))))) (.s (.r (rz 3 0 8)) (.n))))))) func175 rfl (by kernel_rfl) (by kernel_rfl) h
def vM(t0 t1:Value)(w:World)(K:VW):Prop:=
 pw w (Instr.box 112 t0) λt2 w1=>
 fl w1 t2 112 0 110 λt6=>bf .eql 110 t6 t1 λt8=>K t8 w1
theorem QK(h:vM t0 t1 w K):zd prog vH #[t0,t1] w K:=
 okC false (.s (.r (rz 2 0 2)) (.s (.r (rz 5 0 4)) (.n))) func176 rfl (by kernel_rfl) (by kernel_rfl) h
def vN(t0 t1 t2:Value)(w:World)(K:VW):Prop:=
 fl w t1 94 4 53 λt6=>pp (Instr.makeFunc (.func 179) #[] #[t2]) λt8=>ca yd #[t6,t0,t8] w λt9 w1=>
 K t9 w1
theorem QL(h:vN t0 t1 t2 w K):zd prog vI #[t0,t1,t2] w K:=
 okC false (.s (.r (rz 1 0 0)) (.s (.r (rz 6 0 516)) (.n))) func177 rfl (by kernel_rfl) (by kernel_rfl) h
def jO(t0 t1 t2:Value)(w:World)(K:VW):Prop:=
 pw w (Instr.box 61 t0) λt3 w1=>
 pw w1 (Instr.box 112 t1) λt4 w2=>
 lo w2 180 t2 λt9=>lo w2 61 t3 λt10=>ca y6 #[t9,t10] w2 λt11 w3=>
 pe t11 0 λt12=>pe t11 1 λt13=>pw w3 (Instr.alloc 112 true (.tuple #[])) λt6 w4=>
 so w4 112 t6 t12 λw5=>za (λK6=>gIf t13 true (lo w5 112 t6 λt16=>lo w5 112 t4 λt17=>ca xN #[t16,t17] w5 λt18 w10=>
 K6 [t18] w10) (K6 [u_] w5)) (λs7 _d8 w9=>
 zb t13 (s7.getD 0 u_) fa_ λt19=>K t19 w9)
theorem XD(h:jO t0 t1 t2 w K):zd prog jN #[t0,t1,t2] w K:=
 okC false (.s (.r (rz 3 0 10)) (.s (.r (rz 9 0 40997)) (.s (.r (ra 2 0 0 (.grp 15 true (ri 3 2 37) [18] (rz 2 5 0)))) (.n)))) func179 rfl (by kernel_rfl) (by kernel_rfl) h
def VQ(t0 t1:Value)(w:World)(K:VW):Prop:=
 pw w (Instr.box 94 t0) λt2 w1=>
 pw w1 (Instr.box 235 t1) λt3 w2=>
 fl w2.drew t3 235 0 4 λt8=>fl w2.drew t3 235 1 4 λt15=>fl w2.drew t3 235 2 4 λt23=>fl w2.drew t3 235 3 4 λt31=>fl w2.drew t3 235 4 4 λt39=>fl w2.drew t3 235 5 4 λt46=>fl w2.drew t3 235 6 4 λt53=>fl w2.drew t3 235 7 4 λt60=>fl w2.drew t3 235 8 4 λt67=>fl w2.drew t3 235 9 4 λt74=>za (λK3=>gIf t8 false (fl w2.drew t2 94 1 59 λt11=>ca ke #[t11] w2.drew λt12 w7=>
 Ext w2.drew w7∧
 K3 [t12] w7) (K3 [u_] w2.drew)) (λs4 _d5 w6=>
 zb t8 tr_ (s4.getD 0 u_) λt13=>za (λK8=>gIf t15 false (fl w6 t2 94 2 61 λt19=>cv (Value.func (.func 204) #[] #[]) #[t19] w6 λt20 w12=>
 Ext w6 w12∧
 K8 [t20] w12) (K8 [u_] w6)) (λs9 _d10 w11=>
 zb t15 tr_ (s9.getD 0 u_) λt21=>za (λK13=>gIf t23 false (fl w11 t2 94 3 61 λt27=>cv (Value.func (.func 204) #[] #[]) #[t27] w11 λt28 w17=>
 Ext w11 w17∧
 K13 [t28] w17) (K13 [u_] w11)) (λs14 _d15 w16=>
 zb t23 tr_ (s14.getD 0 u_) λt29=>za (λK18=>gIf t31 false (fl w16 t2 94 4 53 λt34=>pp (Builtin.len_ #[53] 3 #[t34]) λt35=>bt .eql 3 t35 (i6 0) λt36=>K18 [t36] w16) (K18 [u_] w16)) (λs19 _d20 w21=>
 zb t31 tr_ (s19.getD 0 u_) λt37=>za (λK22=>gIf t39 false (fl w21 t2 94 5 9 λt42=>bt .eql 9 t42 (Value.string { data:=#[] }) λt43=>K22 [t43] w21) (K22 [u_] w21)) (λs23 _d24 w25=>
 zb t39 tr_ (s23.getD 0 u_) λt44=>za (λK26=>gIf t46 false (fl w25 t2 94 6 59 λt49=>ca ke #[t49] w25 λt50 w30=>
 Ext w25 w30∧
 K26 [t50] w30) (K26 [u_] w25)) (λs27 _d28 w29=>
 zb t46 tr_ (s27.getD 0 u_) λt51=>za (λK31=>gIf t53 false (fl w29 t2 94 7 4 λt56=>pp (Op.unary .not t56) λt57=>K31 [t57] w29) (K31 [u_] w29)) (λs32 _d33 w34=>
 zb t53 tr_ (s32.getD 0 u_) λt58=>za (λK35=>gIf t60 false (fl w34 t2 94 8 3 λt63=>bt .eql 3 t63 (i6 0) λt64=>K35 [t64] w34) (K35 [u_] w34)) (λs36 _d37 w38=>
 zb t60 tr_ (s36.getD 0 u_) λt65=>za (λK39=>gIf t67 false (fl w38 t2 94 9 3 λt70=>bt .eql 3 t70 (i6 0) λt71=>K39 [t71] w38) (K39 [u_] w38)) (λs40 _d41 w42=>
 zb t67 tr_ (s40.getD 0 u_) λt72=>za (λK43=>gIf t74 false (fl w42 t2 94 11 3 λt77=>bt .eql 3 t77 (i6 0) λt78=>K43 [t78] w42) (K43 [u_] w42)) (λs44 _d45 w46=>
 zb t74 tr_ (s44.getD 0 u_) λt79=>pw w46 (Instr.buildSlice 40 10 #[(0,t13),(1,t21),(2,t29),(3,t37),(4,t44),(5,t51),(6,t58),(7,t65),(8,t72),(9,t79)]) λt80 w47=>
 ca xE #[t80,fa_] w47 λt82 w48=>
 pp (Op.unary .not t82) λt83=>K t83 w48))))))))))
theorem afi(h:VQ t0 t1 w K):zd prog z8 #[t0,t1] w K:=
 okC false (.s (.r (rz 3 0 10)) (.s (.r (rz 1 0 0)) (.s (.r (ra 3 0 4 (ra 2 7 4 (ra 2 15 4 (ra 2 23 4 (ra 2 31 4 (ra 2 38 4 (ra 2 45 4 (ra 2 52 4 (ra 2 59 4 (ra 2 66 4 (.grp 9 false (ri 3 3 52) [12] (ra 1 6 0 (ra 1 9 0 (.grp 16 false (ri 4 10 208) [20] (ra 1 14 0 (ra 1 17 0 (.grp 24 false (ri 4 18 208) [28] (ra 1 22 0 (ra 1 25 0 (ra 1 33 0 (ra 1 40 0 (.grp 32 false (ri 4 26 4) [36] (ra 1 30 0 (.grp 40 false (ri 3 34 4) [43] (ra 1 37 0 (.grp 47 false (ri 3 41 52) [50] (ra 1 44 0 (ra 1 47 0 (ra 1 54 0 (ra 1 61 0 (ra 1 68 0 (.grp 54 false (ri 3 48 4) [57] (ra 1 51 0 (.grp 61 false (ri 3 55 4) [64] (ra 1 58 0 (.grp 68 false (ri 3 62 4) [71] (ra 1 65 0 (.grp 75 false (ri 3 69 4) [78] (rz 3 72 8)))))))))))))))))))))))))))))))))))))))) (.s (.r (rz 4 0 8)) (.n))))) func181 rfl (by kernel_rfl) (by kernel_rfl) h
def X7(t0 t1:Value)(w:World)(K:VW):Prop:=
 pw w (Instr.box 206 t1) λt3 w1=>
 pw w1 (Instr.alloc 118 true (.tuple #[])) λt4 w2=>
 pp (Instr.makeFunc (.func 211) #[] #[t3,t4]) λt7=>so w2 118 t4 t7 λw3=>pp (Builtin.len_ #[70] 3 #[t0]) λt9=>zo [(i6 0)] w3 (λs5 _d6 w7 K4=>
 bf .lss 3 (s5.getD 0 u_) t9 λt11=>zc t11 (xl w7 70 t0 (s5.getD 0 u_) 112 λt13=>pw w7 (Instr.alloc 112 true (.tuple #[])) λt6 w8=>
 so w8 112 t6 t13 λw9=>lo w9.drew 118 t4 λt14=>lo w9.drew 112 t6 λt15=>ca je #[t15] w9.drew λt16 w10=>
 Ext w9.drew w10∧
 cv t14 #[t16] w10 λ_t17 w11=>
 bt .add 3 (s5.getD 0 u_) (i6 1) λt18=>K4 [t18] w11) (K (.tuple #[]) w7))
theorem abZ(h:X7 t0 t1 w K):zd prog Ze #[t0,t1] w K:=
 okC false (.s (.r (rz 1 0 2)) (.s (.r (rz 1 0 2)) (.s (.r (rz 2 0 8)) (.s (.r (rz 3 0 0)) (.b (.lp [10] (.s (.r (rz 1 0 0)) (.s (.c (.n) (.n)) (.s (.b (.s (.r (rz 4 0 164)) (.r (rz 4 0 181)))) (.r (rz 2 0 0))))))))))) func199 rfl (by kernel_rfl) (by kernel_rfl) h
def VR(t0:Value)(w:World)(K:VW):Prop:=
 pw w (Instr.box 59 t0) λt1 w1=>
 fl w1 t1 59 0 3 λt4=>bt .eql 3 t4 (i6 0) λt5=>za (λK2=>gIf t5 true (fl w1 t1 59 1 57 λt8=>pp (Builtin.len_ #[57] 3 #[t8]) λt9=>bt .eql 3 t9 (i6 0) λt10=>K2 [t10] w1) (K2 [u_] w1)) (λs3 _d4 w5=>
 zb t5 (s3.getD 0 u_) fa_ λt11=>K t11 w5)
theorem afj(h:VR t0 w K):zd prog ke #[t0] w K:=
 okC false (.s (.r (rz 2 0 2)) (.s (.r (ra 4 0 4 (.grp 6 true (ri 4 4 4) [10] (rz 2 8 0)))) (.n))) func200 rfl (by kernel_rfl) (by kernel_rfl) h
def Q5(t0:Value)(w:World)(K:VW):Prop:=
 pw w (Instr.box 61 t0) λt1 w1=>
 fl w1 t1 61 0 56 λt4=>bt .eql 56 t4 (Value.int .u8 0) λt5=>za (λK2=>gIf t5 true (fl w1 t1 61 1 2 λt8=>bt .eql 2 t8 (i6 0) λt9=>K2 [t9] w1) (K2 [u_] w1)) (λs3 _d4 w5=>
 zb t5 (s3.getD 0 u_) fa_ λt10=>za (λK6=>gIf t10 true (fl w5 t1 61 2 59 λt13=>ca ke #[t13] w5 λt14 w10=>
 K6 [t14] w10) (K6 [u_] w5)) (λs7 _d8 w9=>
 zb t10 (s7.getD 0 u_) fa_ λt15=>K t15 w9))
theorem acU(h:Q5 t0 w K):zd prog Q2 #[t0] w K:=
 okC false (.s (.r (rz 2 0 2)) (.s (.r (ra 4 0 4 (.grp 6 true (ri 3 4 4) [9] (ra 2 7 0 (.grp 11 true (ri 3 9 36) [14] (rz 2 12 0)))))) (.n))) func204 rfl (by kernel_rfl) (by kernel_rfl) h
def jS(t0 t1 t2:Value)(w:World)(K:VW):Prop:=
 pp (Builtin.len_ #[26] 3 #[t0]) λt7=>bt .eql 3 t7 (i6 0) λt8=>zc t8 (K (.tuple #[]) w) (pp (Instr.sliceAt 26 t0 (some (i6 1)) none none) λt10=>pp (Builtin.len_ #[26] 3 #[t10]) λt11=>zo [(i6 0)] w (λs2 _d3 w4 K1=>
 bf .lss 3 (s2.getD 0 u_) t11 λt13=>zc t13 (xl w4 26 t10 (s2.getD 0 u_) 3 λt15=>lo w4.drew 206 t1 λt16=>xl w4.drew 26 t0 (i6 0) 3 λt20=>abU t16 λt21=>px 204 t21 t15 λt22=>px 203 t22 t20 λt23=>so w4.drew 4 t23 tr_ λw5=>bt .add 3 (s2.getD 0 u_) (i6 1) λt24=>K1 [t24] w5) (lo w4.drew 118 t2 λt25=>pp (Instr.sliceAt 26 t0 (some (i6 1)) none none) λt27=>cv t25 #[t27] w4.drew λ_t28 w6=>
 K (.tuple #[]) w6)))
theorem Yq(h:jS t0 t1 t2 w K):zd prog YW #[t0,t1,t2] w K:=
 okC false (.s (.s (.r (rz 3 0 0)) (.c (.n) (.n))) (.s (.s (.r (rz 4 0 0)) (.b (.lp [12] (.s (.r (rz 1 0 0)) (.s (.c (.n) (.n)) (.s (.b (.s (.r (rz 3 0 4)) (.r (rz 9 0 131329)))) (.r (rz 2 0 0)))))))) (.r (rz 4 0 129)))) func211 rfl (by kernel_rfl) (by kernel_rfl) h
def kO(t0 t1:Value)(w:World)(K:VW):Prop:=
 ca yu #[t0,t1] w λt7 w1=>
 bt .geq 3 t7 (i6 0) λt8=>K t8 w1
theorem Zq(h:kO t0 t1 w K):zd prog xo #[t0,t1] w K:=
 okC false (.s (.r (rz 1 0 0)) (.s (.r (rz 5 0 32)) (.n))) func169 rfl (by kernel_rfl) (by kernel_rfl) h
def xP(t0 t1:Value)(w:World)(K:VW):Prop:=
 pp (Builtin.len_ #[26] 3 #[t0]) λt7=>zo [(i6 0)] w (λs2 _d3 w4 K1=>
 bf .lss 3 (s2.getD 0 u_) t7 λt9=>zc t9 (xl w4 26 t0 (s2.getD 0 u_) 3 λt15=>cv t1 #[t15] w4 λt16 w5=>
 zc t16 (K (s2.getD 0 u_) w5) (bt .add 3 (s2.getD 0 u_) (i6 1) λt18=>K1 [t18] w5)) (K (i6 (-1)) w4))
theorem qj(h:xP t0 t1 w K):zd prog yu #[t0,t1] w K:=
 okC false (.s (.r (rz 1 0 0)) (.s (.s (.r (rz 3 0 0)) (.b (.lp [8] (.s (.r (rz 1 0 0)) (.s (.c (.n) (.n)) (.s (.b (.s (.r (rz 2 0 0)) (.s (.r (rz 6 0 2304)) (.c (.s (.r (rz 2 0 0)) (.n)) (.n))))) (.r (rz 2 0 0)))))))) (.s (.r (rz 1 0 0)) (.n)))) func105 rfl (by kernel_rfl) (by kernel_rfl) h
def xd(t0 t1:Value)(w:World)(K:VW):Prop:=
 ca xt #[t0,t1] w λt7 w1=>
 bt .geq 3 t7 (i6 0) λt8=>K t8 w1
theorem kY(h:xd t0 t1 w K):zd prog zS #[t0,t1] w K:=
 okC false (.s (.r (rz 1 0 0)) (.s (.r (rz 5 0 32)) (.n))) func135 rfl (by kernel_rfl) (by kernel_rfl) h
def ye(t0 t1 t2:Value)(w:World)(K:VW):Prop:=
 pp (Builtin.len_ #[53] 3 #[t0]) λt11=>pp (Builtin.len_ #[70] 3 #[t1]) λt13=>bf .neq 3 t11 t13 λt14=>zc t14 (K fa_ w) (pp (Builtin.len_ #[53] 3 #[t0]) λt16=>zo [(i6 0)] w (λs2 _d3 w4 K1=>
 bf .lss 3 (s2.getD 0 u_) t16 λt18=>zc t18 (xl w4 53 t0 (s2.getD 0 u_) 61 λt21=>pw w4 (Instr.alloc 61 true (.tuple #[])) λt8 w5=>
 so w5 61 t8 t21 λw6=>xl w6 70 t1 (s2.getD 0 u_) 112 λt25=>pw w6 (Instr.alloc 112 true (.tuple #[])) λt9 w7=>
 so w7 112 t9 t25 λw8=>lo w8 61 t8 λt27=>lo w8 112 t9 λt28=>cv t2 #[t27,t28] w8 λt29 w9=>
 pp (Op.unary .not t29) λt30=>zc t30 (K fa_ w9) (bt .add 3 (s2.getD 0 u_) (i6 1) λt31=>K1 [t31] w9)) (K tr_ w4)))
theorem xe(h:ye t0 t1 t2 w K):zd prog yd #[t0,t1,t2] w K:=
 okC false (.s (.r (rz 1 0 0)) (.s (.s (.r (rz 5 0 0)) (.c (.s (.r (rz 1 0 0)) (.n)) (.n))) (.s (.s (.r (rz 3 0 0)) (.b (.lp [17] (.s (.r (rz 1 0 0)) (.s (.c (.n) (.n)) (.s (.b (.s (.r (rz 6 0 2192)) (.s (.r (rz 6 0 2624)) (.s (.r (rz 5 0 148)) (.c (.s (.r (rz 1 0 0)) (.n)) (.n)))))) (.r (rz 2 0 0)))))))) (.s (.r (rz 1 0 0)) (.n))))) func178 rfl (by kernel_rfl) (by kernel_rfl) h
def xu(t0 t1:Value)(w:World)(K:VW):Prop:=
 pp (Builtin.len_ #[66] 3 #[t0]) λt7=>zo [(i6 0)] w (λs2 _d3 w4 K1=>
 bf .lss 3 (s2.getD 0 u_) t7 λt9=>zc t9 (xl w4 66 t0 (s2.getD 0 u_) 161 λt15=>cv t1 #[t15] w4 λt16 w5=>
 zc t16 (K (s2.getD 0 u_) w5) (bt .add 3 (s2.getD 0 u_) (i6 1) λt18=>K1 [t18] w5)) (K (i6 (-1)) w4))
theorem qL(h:xu t0 t1 w K):zd prog xt #[t0,t1] w K:=
 okC false (.s (.r (rz 1 0 0)) (.s (.s (.r (rz 3 0 0)) (.b (.lp [8] (.s (.r (rz 1 0 0)) (.s (.c (.n) (.n)) (.s (.b (.s (.r (rz 2 0 0)) (.s (.r (rz 6 0 2304)) (.c (.s (.r (rz 2 0 0)) (.n)) (.n))))) (.r (rz 2 0 0)))))))) (.s (.r (rz 1 0 0)) (.n)))) func187 rfl (by kernel_rfl) (by kernel_rfl) h
def qk(t0 t1:Value)(w:World)(K:VW):Prop:=
 ca jn #[t0,t1] w λt7 w1=>
 bt .geq 3 t7 (i6 0) λt8=>K t8 w1
theorem ZW(h:qk t0 t1 w K):zd prog xE #[t0,t1] w K:=
 okC false (.s (.r (rz 1 0 0)) (.s (.r (rz 5 0 32)) (.n))) func205 rfl (by kernel_rfl) (by kernel_rfl) h
def jr(t0 t1:Value)(w:World)(K:VW):Prop:=
 pp (Builtin.len_ #[40] 3 #[t0]) λt7=>zo [(i6 0)] w (λs2 _d3 w4 K1=>
 bf .lss 3 (s2.getD 0 u_) t7 λt9=>zc t9 (xl w4 40 t0 (s2.getD 0 u_) 4 λt15=>bf .eql 4 t1 t15 λt16=>zc t16 (K (s2.getD 0 u_) w4) (bt .add 3 (s2.getD 0 u_) (i6 1) λt18=>K1 [t18] w4)) (K (i6 (-1)) w4))
theorem Xa(h:jr t0 t1 w K):zd prog jn #[t0,t1] w K:=
 okC false (.s (.r (rz 1 0 0)) (.s (.s (.r (rz 3 0 0)) (.b (.lp [8] (.s (.r (rz 1 0 0)) (.s (.c (.n) (.n)) (.s (.b (.s (.r (rz 2 0 0)) (.s (.r (rz 6 0 256)) (.c (.s (.r (rz 2 0 0)) (.n)) (.n))))) (.r (rz 2 0 0)))))))) (.s (.r (rz 1 0 0)) (.n)))) func212 rfl (by kernel_rfl) (by kernel_rfl) h
def kk(t0:Value)(w:World)(K:VW):Prop:=
 bt .eql 57 t0 (Value.slice Option.none 0 0) λt4=>zc t4 (K (Value.slice Option.none 0 0) w) (pw w (Instr.buildSlice 57 0 #[]) λt5 w1=>
 pw w1 (Builtin.append_ #[57,57] 57 #[t5,t0]) λt7 w2=>
 K t7 w2)
theorem jW(h:kk t0 w K):zd prog yY #[t0] w K:=
 okC false (.s (.r (rz 1 0 0)) (.s (.s (.r (rz 2 0 0)) (.c (.s (.r (rz 1 0 0)) (.n)) (.n))) (.s (.r (rz 4 0 34)) (.n)))) func100 rfl (by kernel_rfl) (by kernel_rfl) h
def yX(t0 t1:Value)(w:World)(K:VW):Prop:=
 ca yk #[t0,t1] w λt10 w1=>
 bt .eql 3 t10 (i6 (-1)) λt12=>zc t12 (K t0 w1) (bt .add 3 t10 (i6 1) λt15=>zo [t10,t15] w1 (λs3 _d4 w5 K2=>
 pp (Builtin.len_ #[53] 3 #[t0]) λt18=>bf .lss 3 (s3.getD 1 u_) t18 λt19=>zc t19 (za (λK6=>
 xl w5 53 t0 (s3.getD 1 u_) 61 λt25=>pw w5 (Instr.alloc 61 true (.tuple #[])) λt7 w10=>
 so w10 61 t7 t25 λw11=>lo w11 61 t7 λt27=>cv t1 #[t27] w11 λt28 w12=>
 pp (Op.unary .not t28) λt29=>zc t29 (lo w12 61 t7 λt32=>px 53 t0 (s3.getD 0 u_) λt33=>so w12 61 t33 t32 λw13=>bt .add 3 (s3.getD 0 u_) (i6 1) λt35=>K6 [t35] w13) (K6 [(s3.getD 0 u_)] w12)) (λs7 _d8 w9=>
 bt .add 3 (s3.getD 1 u_) (i6 1) λt21=>K2 [(s7.getD 0 u_),t21] w9)) (pp (Instr.sliceAt 53 t0 (some (s3.getD 0 u_)) none none) λt38=>pw w5 (Builtin.clear_ #[53] 0 #[t38]) λ_ w14=>
 pp (Instr.sliceAt 53 t0 none (some (s3.getD 0 u_)) none) λt41=>K t41 w14)))
theorem kM(h:yX t0 t1 w K):zd prog yi #[t0,t1] w K:=
 okC false (.s (.r (rz 1 0 0)) (.s (.r (rz 4 0 32)) (.s (.s (.r (rz 2 0 0)) (.c (.s (.r (rz 2 0 0)) (.n)) (.n))) (.s (.s (.r (rz 3 0 0)) (.b (.lp [5,6] (.s (.s (.r (rz 4 0 0)) (.c (.n) (.n))) (.j [5] (.b (.s (.r (rz 6 0 2624)) (.s (.r (rz 4 0 36)) (.c (.s (.r (rz 5 0 528)) (.r (rz 3 0 0))) (.n))))) (.r (rz 3 0 0))))))) (.s (.r (rz 4 0 128)) (.s (.r (rz 4 0 0)) (.n))))))) func76 rfl (by kernel_rfl) (by kernel_rfl) h
def y9(t0 t1:Value)(w:World)(K:VW):Prop:=
 pp (Builtin.len_ #[53] 3 #[t0]) λt7=>zo [(i6 0)] w (λs2 _d3 w4 K1=>
 bf .lss 3 (s2.getD 0 u_) t7 λt9=>zc t9 (xl w4 53 t0 (s2.getD 0 u_) 61 λt15=>cv t1 #[t15] w4 λt16 w5=>
 zc t16 (K (s2.getD 0 u_) w5) (bt .add 3 (s2.getD 0 u_) (i6 1) λt18=>K1 [t18] w5)) (K (i6 (-1)) w4))
theorem kP(h:y9 t0 t1 w K):zd prog yk #[t0,t1] w K:=
 okC false (.s (.r (rz 1 0 0)) (.s (.s (.r (rz 3 0 0)) (.b (.lp [8] (.s (.r (rz 1 0 0)) (.s (.c (.n) (.n)) (.s (.b (.s (.r (rz 2 0 0)) (.s (.r (rz 6 0 2304)) (.c (.s (.r (rz 2 0 0)) (.n)) (.n))))) (.r (rz 2 0 0)))))))) (.s (.r (rz 1 0 0)) (.n)))) func99 rfl (by kernel_rfl) (by kernel_rfl) h
def xn(t0 t1:Value)(w:World)(K:VW):Prop:=
 ca yB #[t0,t1] w λt7 w1=>
 bt .geq 3 t7 (i6 0) λt8=>K t8 w1
theorem qA(h:xn t0 t1 w K):zd prog yv #[t0,t1] w K:=
 okC false (.s (.r (rz 1 0 0)) (.s (.r (rz 5 0 32)) (.n))) func102 rfl (by kernel_rfl) (by kernel_rfl) h
def xF(t0 t1:Value)(w:World)(K:VW):Prop:=
 pp (Builtin.len_ #[70] 3 #[t0]) λt7=>zo [(i6 0)] w (λs2 _d3 w4 K1=>
 bf .lss 3 (s2.getD 0 u_) t7 λt9=>zc t9 (xl w4 70 t0 (s2.getD 0 u_) 112 λt15=>cv t1 #[t15] w4 λt16 w5=>
 zc t16 (K (s2.getD 0 u_) w5) (bt .add 3 (s2.getD 0 u_) (i6 1) λt18=>K1 [t18] w5)) (K (i6 (-1)) w4))
theorem jl(h:xF t0 t1 w K):zd prog yB #[t0,t1] w K:=
 okC false (.s (.r (rz 1 0 0)) (.s (.s (.r (rz 3 0 0)) (.b (.lp [8] (.s (.r (rz 1 0 0)) (.s (.c (.n) (.n)) (.s (.b (.s (.r (rz 2 0 0)) (.s (.r (rz 6 0 2304)) (.c (.s (.r (rz 2 0 0)) (.n)) (.n))))) (.r (rz 2 0 0)))))))) (.s (.r (rz 1 0 0)) (.n)))) func144 rfl (by kernel_rfl) (by kernel_rfl) h
def X8(t0:Value)(w:World)(K:VW):Prop:=
 pw w (Instr.box 112 t0) λt1 w1=>
 lo w1 112 t1 λt3=>ca qT #[t3] w1 λt4 w2=>
 pp (Op.unary .not t4) λt5=>zc t5 (K (Value.slice Option.none 0 0) w2) (lo w2 112 t1 λt6=>ca jf #[t6] w2 λt7 w3=>
 K t7 w3)
theorem ab0(h:X8 t0 w K):zd prog je #[t0] w K:=
 okC false (.s (.r (rz 2 0 2)) (.s (.s (.r (rz 3 0 9)) (.c (.s (.r (rz 1 0 0)) (.n)) (.n))) (.s (.r (rz 3 0 9)) (.n)))) func170 rfl (by kernel_rfl) (by kernel_rfl) h
def abr(t0:Value)(w:World)(K:VW):Prop:=
 pw w (Instr.box 112 t0) λt1 w1=>
 lo w1 112 t1 λt3=>ca kU #[t3,(i6 32),(i6 48)] w1 λt4 w2=>
 K t4 w2
theorem agq(h:abr t0 w K):zd prog qT #[t0] w K:=
 okC false (.s (.r (rz 2 0 2)) (.s (.r (rz 3 0 9)) (.n))) func198 rfl (by kernel_rfl) (by kernel_rfl) h
def abs(t0:Value)(w:World)(K:VW):Prop:=
 pw w (Instr.box 112 t0) λt1 w1=>
 pw w1 (Instr.alloc 112 true (.tuple #[])) λt2 w2=>
 za (λK3=>
 fl w2 t1 112 4 70 λt4=>pp (Builtin.len_ #[70] 3 #[t4]) λt5=>bt .gtr 3 t5 (i6 0) λt6=>zc t6 (fl w2 t1 112 4 70 λt8=>xl w2 70 t8 (i6 0) 112 λt10=>ca Yb #[t10] w2 λt11 w7=>
 pw w7 (Instr.buildSlice 70 1 #[(0,t11)]) λt12 w8=>
 pf 112 t1 4 λt13=>so w8 70 t13 t12 λw9=>K3 [] w9) (pf 112 t1 4 λt14=>so w2 70 t14 (Value.slice Option.none 0 0) λw10=>K3 [] w10)) (λ_s4 _d5 w6=>
 lo w6 112 t1 λt15=>so w6 112 t2 t15 λw11=>pq w11 (zk 112 t2) λr12=>K r12 w11)
theorem agr(h:abs t0 w K):zd prog Yb #[t0] w K:=
 okC false (.s (.r (rz 2 0 10)) (.j [] (.s (.r (rz 4 0 4)) (.c (.r (rz 8 0 35396)) (.r (rz 2 0 8)))) (.s (.r (rz 2 0 9)) (.n)))) func206 rfl (by kernel_rfl) (by kernel_rfl) h
def X9(t0:Value)(w:World)(K:VW):Prop:=
 pw w (Instr.box 112 t0) λt1 w1=>
 pw w1 (Instr.alloc 26 true (.tuple #[])) λt3 w2=>
 pp (Instr.makeFunc (.func 189) #[] #[t3]) λt4=>ca Zc #[t1,t4] w2 λ_t5 w3=>
 lo w3 26 t3 λt6=>K t6 w3
theorem ab1(h:X9 t0 w K):zd prog jf #[t0] w K:=
 okC false (.s (.r (rz 2 0 2)) (.s (.r (rz 1 0 2)) (.s (.r (rz 2 0 8)) (.s (.r (rz 2 0 1)) (.n))))) func138 rfl (by kernel_rfl) (by kernel_rfl) h
def Qa(t0:Value)(w:World)(K:VW):Prop:=
 pw w (Instr.box 22 t0) λt1 w1=>
 lo w1 22 t1 λt9=>pp (Builtin.len_ #[22] 3 #[t9]) λt10=>pw w1 (Instr.alloc 3 true (.tuple #[])) λt4 w2=>
 so w2 3 t4 t10 λw3=>lo w3 3 t4 λt11=>bt .gtr 3 t11 (i6 32) λt12=>zc t12 (K (.tuple #[(i6 32),(i6 2)]) w3) (pp (Instr.makeFunc (.func 134) #[] #[t1,t4]) λt13=>pp (Instr.makeFunc (.func 139) #[] #[t1]) λt14=>pp (Instr.makeFunc (.func 141) #[] #[t1]) λt15=>pw w3 (Instr.buildSlice 192 3 #[(0,t13),(1,t14),(2,t15)]) λt16 w4=>
 pp (Builtin.len_ #[192] 3 #[t16]) λt18=>zo [(i6 0)] w4 (λs6 _d7 w8 K5=>
 bf .lss 3 (s6.getD 0 u_) t18 λt20=>zc t20 (xl w8 192 t16 (s6.getD 0 u_) 163 λt22=>lo w8 3 t4 λt23=>ca YD #[t23,t22] w8 λt25 w9=>
 lo w9 3 t4 λt27=>bf .lss 3 t25 t27 λt28=>zc t28 (K (.tuple #[t25,(i6 2)]) w9) (bt .add 3 (s6.getD 0 u_) (i6 1) λt30=>K5 [t30] w9)) (K (.tuple #[(i6 0),(i6 0)]) w8)))
theorem ab2(h:Qa t0 w K):zd prog kE #[t0] w K:=
 okC false (.s (.r (rz 3 0 2)) (.s (.r (rz 4 0 161)) (.s (.s (.r (rz 2 0 1)) (.c (.s (.r (rz 2 0 0)) (.n)) (.n))) (.s (.r (rz 5 0 128)) (.s (.s (.r (rz 3 0 0)) (.b (.lp [19] (.s (.r (rz 1 0 0)) (.s (.c (.n) (.n)) (.s (.b (.s (.r (rz 3 0 4)) (.s (.r (rz 4 0 33)) (.s (.r (rz 3 0 4)) (.c (.s (.r (rz 3 0 0)) (.n)) (.n)))))) (.r (rz 2 0 0)))))))) (.s (.r (rz 2 0 0)) (.n))))))) func101 rfl (by kernel_rfl) (by kernel_rfl) h
def abt(t0 t1:Value)(w:World)(K:VW):Prop:=
 pw w (Instr.box 112 t1) λt3 w1=>
 ca kE #[t0] w1 λt9 w2=>
 pe t9 0 λ_t10=>pe t9 1 λt11=>bt .eql 29 t11 (i6 0) λt13=>za (λK3=>gIf t13 true (lo w2 112 t3 λt15=>pp (Builtin.len_ #[22] 3 #[t0]) λt17=>ca kU #[t15,t17,(i6 48)] w2 λt18 w7=>
 K3 [t18] w7) (K3 [u_] w2)) (λs4 _d5 w6=>
 zb t13 (s4.getD 0 u_) fa_ λt19=>K t19 w6)
theorem ags(h:abt t0 t1 w K):zd prog qU #[t0,t1] w K:=
 okC false (.s (.r (rz 2 0 2)) (.s (.r (rz 7 0 8)) (.s (.r (ra 3 0 0 (.grp 14 true (ri 4 3 129) [18] (rz 2 7 0)))) (.n)))) func104 rfl (by kernel_rfl) (by kernel_rfl) h
def VS(t0 t1:Value)(w:World)(K:VW):Prop:=
 za (λK1=>
 ff w t0 112 0 110 λt7=>bt .eql 110 t7 (Value.int .u8 4) λt8=>zc t8 (cv t1 #[t0] w λ_t11 w5=>
 K1 [] w5) (K1 [] w)) (λ_s2 _d3 w4=>
 ff w4 t0 112 4 70 λt15=>pp (Builtin.len_ #[70] 3 #[t15]) λt16=>bt .gtr 3 t16 (i6 0) λt17=>zc t17 (ff w4 t0 112 4 70 λt21=>px 70 t21 (i6 0) λt22=>ca Zc #[t22,t1] w4 λ_t24 w6=>
 K (.tuple #[]) w6) (K (.tuple #[]) w4))
theorem afk(h:VS t0 t1 w K):zd prog Zc #[t0,t1] w K:=
 okC false (.j [] (.s (.r (rz 5 0 64)) (.c (.r (rz 3 0 32)) (.n))) (.s (.r (rz 6 0 64)) (.c (.r (rz 7 0 8256)) (.n)))) func188 rfl (by kernel_rfl) (by kernel_rfl) h
def XE(t0 t1 t2:Value)(w:World)(K:VW):Prop:=
 pw w (Instr.box 112 t0) λt3 w1=>
 bt .eql 3 t2 (i6 0) λt10=>zc t10 (K fa_ w1) (fl w1 t3 112 4 70 λt12=>pp (Builtin.len_ #[70] 3 #[t12]) λt13=>bt .eql 3 t13 (i6 1) λt14=>za (λK2=>gIf t14 true (fl w1 t3 112 4 70 λt17=>xl w1 70 t17 (i6 0) 112 λt19=>bt .sub 3 t2 (i6 1) λt22=>ca kU #[t19,t1,t22] w1 λt23 w6=>
 K2 [t23] w6) (K2 [u_] w1)) (λs3 _d4 w5=>
 zb t14 (s3.getD 0 u_) fa_ λt24=>fl w5 t3 112 1 4 λt26=>pp (Op.unary .not t26) λt27=>za (λK7=>gIf t27 true (fl w5 t3 112 2 3 λt30=>bt .eql 3 t30 (i6 0) λt31=>K7 [t31] w5) (K7 [u_] w5)) (λs8 _d9 w10=>
 zb t27 (s8.getD 0 u_) fa_ λt32=>fl w10 t3 112 0 110 λt34=>za (λK11=>
 bt .eql 110 t34 (Value.int .u8 1) λt36=>zc t36 (K11 [t36] w10) (bt .eql 110 t34 (Value.int .u8 2) λt37=>K11 [t37] w10)) (λs12 _d13 w14=>
 zc (s12.getD 0 u_) (za (λK15=>gIf t32 true (fl w14 t3 112 3 3 λt41=>bt .eql 3 t41 (i6 0) λt42=>K15 [t42] w14) (K15 [u_] w14)) (λs16 _d17 w18=>
 zb t32 (s16.getD 0 u_) fa_ λt43=>za (λK19=>gIf t43 true (fl w18 t3 112 4 70 λt46=>pp (Builtin.len_ #[70] 3 #[t46]) λt47=>bt .eql 3 t47 (i6 0) λt48=>K19 [t48] w18) (K19 [u_] w18)) (λs20 _d21 w22=>
 zb t43 (s20.getD 0 u_) fa_ λt49=>K t49 w22))) (bt .eql 110 t34 (Value.int .u8 5) λt51=>zc t51 (za (λK23=>gIf t32 true (fl w14 t3 112 4 70 λt55=>pp (Builtin.len_ #[70] 3 #[t55]) λt56=>bt .eql 3 t56 (i6 0) λt57=>K23 [t57] w14) (K23 [u_] w14)) (λs24 _d25 w26=>
 zb t32 (s24.getD 0 u_) fa_ λt58=>za (λK27=>gIf t58 true (fl w26 t3 112 3 3 λt61=>bt .geq 3 t61 (i6 0) λt62=>K27 [t62] w26) (K27 [u_] w26)) (λs28 _d29 w30=>
 zb t58 (s28.getD 0 u_) fa_ λt63=>za (λK31=>gIf t63 true (fl w30 t3 112 3 3 λt66=>bf .lss 3 t66 t1 λt68=>K31 [t68] w30) (K31 [u_] w30)) (λs32 _d33 w34=>
 zb t63 (s32.getD 0 u_) fa_ λt69=>K t69 w34)))) (bt .eql 110 t34 (Value.int .u8 3) λt71=>zc t71 (za (λK35=>gIf t32 true (fl w14 t3 112 3 3 λt75=>bt .eql 3 t75 (i6 0) λt76=>K35 [t76] w14) (K35 [u_] w14)) (λs36 _d37 w38=>
 zb t32 (s36.getD 0 u_) fa_ λt77=>za (λK39=>gIf t77 true (K39 [t24] w38) (K39 [u_] w38)) (λs40 _d41 w42=>
 zb t77 (s40.getD 0 u_) fa_ λt80=>K t80 w42))) (bt .eql 110 t34 (Value.int .u8 4) λt82=>zc t82 (fl w14 t3 112 2 3 λt84=>bt .geq 3 t84 (i6 (-1)) λt85=>za (λK43=>gIf t85 true (fl w14 t3 112 3 3 λt88=>bt .eql 3 t88 (i6 0) λt89=>K43 [t89] w14) (K43 [u_] w14)) (λs44 _d45 w46=>
 zb t85 (s44.getD 0 u_) fa_ λt90=>za (λK47=>gIf t90 true (K47 [t24] w46) (K47 [u_] w46)) (λs48 _d49 w50=>
 zb t90 (s48.getD 0 u_) fa_ λt93=>K t93 w50))) (K fa_ w14))))))))
theorem Vg(h:XE t0 t1 t2 w K):zd prog kU #[t0,t1,t2] w K:=
 okC false (.s (.r (rz 2 0 2)) (.s (.s (.r (rz 2 0 0)) (.c (.s (.r (rz 1 0 0)) (.n)) (.n))) (.s (.r (ra 5 0 4 (.grp 15 true (ri 8 5 32836) [23] (rz 2 13 0)))) (.s (.r (ra 4 0 4 (.grp 28 true (ri 3 4 4) [31] (rz 2 7 0)))) (.s (.s (.r (rz 2 0 4)) (.b (.j [35] (.s (.r (rz 2 0 0)) (.c (.n) (.r (rz 2 0 0)))) (.c (.s (.r (ra 2 0 0 (.grp 39 true (ri 3 2 4) [42] (ra 2 5 0 (.grp 44 true (ri 4 7 4) [48] (rz 2 11 0)))))) (.n)) (.s (.r (rz 2 0 0)) (.c (.s (.r (ra 2 0 0 (.grp 53 true (ri 4 2 4) [57] (ra 2 6 0 (.grp 59 true (ri 3 8 4) [62] (ra 2 11 0 (.grp 64 true (ri 4 13 4) [68] (rz 2 17 0)))))))) (.n)) (.s (.r (rz 2 0 0)) (.c (.s (.r (ra 2 0 0 (.grp 73 true (ri 3 2 4) [76] (ra 2 5 0 (.grp 78 true (ri 1 7 0) [79] (rz 2 8 0)))))) (.n)) (.s (.r (rz 2 0 0)) (.c (.s (.r (ra 4 0 4 (.grp 86 true (ri 3 4 4) [89] (ra 2 7 0 (.grp 91 true (ri 1 9 0) [92] (rz 2 10 0)))))) (.n)) (.n))))))))))) (.s (.r (rz 1 0 0)) (.n))))))) func137 rfl (by kernel_rfl) (by kernel_rfl) h
def YY(t0 t1:Value)(w:World)(K:VW):Prop:=
 lo w.drew 26 t1 λt3=>ff w.drew t0 112 2 3 λt7=>pw w.drew (Instr.buildSlice 26 1 #[(0,t7)]) λt8 w1=>
 Ext w.drew w1∧
 pw w1 (Builtin.append_ #[26,26] 26 #[t3,t8]) λt9 w2=>
 so w2 26 t1 t9 λw3=>K (.tuple #[]) w3
theorem VT(h:YY t0 t1 w K):zd prog jP #[t0,t1] w K:=
 okC false (.r (rz 8 0 44289)) func189 rfl (by kernel_rfl) (by kernel_rfl) h
def YZ(t0 t1 t2:Value)(w:World)(K:VW):Prop:=
 lo w 22 t1 λt6=>px 22 t6 t0 λt8=>fl w t8 68 1 66 λt10=>pp (Builtin.len_ #[66] 3 #[t10]) λt12=>bt .lss 3 t12 (i6 1) λt13=>za (λK1=>gIf t13 false (pp (Builtin.len_ #[66] 3 #[t10]) λt16=>bt .gtr 3 t16 (i6 8) λt17=>K1 [t17] w) (K1 [u_] w)) (λs2 _d3 w4=>
 zb t13 tr_ (s2.getD 0 u_) λt18=>za (λK5=>gIf t18 false (pp (Instr.makeFunc (.func 136) #[] #[t2]) λt21=>ca zS #[t10,t21] w4 λt22 w9=>
 K5 [t22] w9) (K5 [u_] w4)) (λs6 _d7 w8=>
 zb t18 tr_ (s6.getD 0 u_) λt23=>K t23 w8))
theorem VU(h:YZ t0 t1 t2 w K):zd prog kQ #[t0,t1,t2] w K:=
 okC false (.s (.r (rz 1 0 0)) (.s (.r (rz 6 0 257)) (.s (.r (ra 4 0 0 (.grp 14 false (ri 3 4 0) [17] (ra 2 7 0 (.grp 19 false (ri 3 9 32) [22] (rz 2 12 0)))))) (.n)))) func134 rfl (by kernel_rfl) (by kernel_rfl) h
def ZI(t0 t1:Value)(w:World)(K:VW):Prop:=
 pw w (Instr.box 161 t0) λt2 w1=>
 fl w1 t2 161 1 112 λt5=>lo w1 3 t1 λt6=>ca kU #[t5,t6,(i6 48)] w1 λt7 w2=>
 pp (Op.unary .not t7) λt8=>za (λK3=>gIf t8 false (fl w2 t2 161 1 112 λt11=>ca jf #[t11] w2 λt12 w7=>
 pp (Builtin.len_ #[26] 3 #[t12]) λt13=>bt .gtr 3 t13 (i6 0) λt14=>K3 [t14] w7) (K3 [u_] w2)) (λs4 _d5 w6=>
 zb t8 tr_ (s4.getD 0 u_) λt15=>K t15 w6)
theorem JL(h:ZI t0 t1 w K):zd prog VA #[t0,t1] w K:=
 okC false (.s (.r (rz 2 0 2)) (.s (.r (ra 6 0 148 (.grp 9 false (ri 5 6 36) [14] (rz 2 11 0)))) (.n))) func136 rfl (by kernel_rfl) (by kernel_rfl) h
def Y0(t0 t1:Value)(w:World)(K:VW):Prop:=
 lo w 22 t1 λt4=>ca Zd #[t4,t0] w λt6 w1=>
 K t6 w1
theorem VV(h:Y0 t0 t1 w K):zd prog kR #[t0,t1] w K:=
 okC false (.s (.r (rz 1 0 0)) (.s (.r (rz 4 0 33)) (.n))) func139 rfl (by kernel_rfl) (by kernel_rfl) h
def Qb(t0 t1:Value)(w:World)(K:VW):Prop:=
 pw w (Instr.alloc 247 true (.tuple #[])) λt5 w1=>
 pw w1 (Instr.buildSlice 26 1 #[(0,t1)]) λt11 w2=>
 zo [t11] w2 (λs4 _d5 w6 K3=>
 pp (Builtin.len_ #[26] 3 #[(s4.getD 0 u_)]) λt13=>bt .gtr 3 t13 (i6 0) λt14=>zc t14 (xl w6 26 (s4.getD 0 u_) (i6 0) 3 λt17=>pp (Instr.sliceAt 26 (s4.getD 0 u_) (some (i6 1)) none none) λt19=>px 22 t0 t17 λt22=>fl w6 t22 68 1 66 λt24=>pp (Builtin.len_ #[66] 3 #[t24]) λt25=>zo [t19,(i6 0)] w6 (λs8 _d9 w10 K7=>
 bf .lss 3 (s8.getD 1 u_) t25 λt27=>zc t27 (za (λK11=>
 xl w10 66 t24 (s8.getD 1 u_) 161 λt29=>pw w10 (Instr.alloc 161 true (.tuple #[])) λt9 w15=>
 so w15 161 t9 t29 λw16=>pf 161 t9 1 λt30=>fl w16 t30 112 0 110 λt32=>bt .neq 110 t32 (Value.int .u8 5) λt33=>za (λK17=>gIf t33 false (pf 161 t9 1 λt35=>fl w16 t35 112 3 3 λt37=>xl w16 247 t5 t37 4 λt39=>K17 [t39] w16) (K17 [u_] w16)) (λs18 _d19 w20=>
 zb t33 tr_ (s18.getD 0 u_) λt40=>zc t40 (K11 [(s8.getD 0 u_)] w20) (pf 161 t9 1 λt41=>fl w20 t41 112 3 3 λt43=>px 247 t5 t43 λt44=>so w20 4 t44 tr_ λw21=>pf 161 t9 1 λt46=>fl w21 t46 112 3 3 λt48=>pw w21 (Instr.buildSlice 26 1 #[(0,t48)]) λt49 w22=>
 pw w22 (Builtin.append_ #[26,26] 26 #[(s8.getD 0 u_),t49]) λt50 w23=>
 K11 [t50] w23))) (λs12 _d13 w14=>
 bt .add 3 (s8.getD 1 u_) (i6 1) λt51=>K7 [(s12.getD 0 u_),t51] w14)) (K3 [(s8.getD 0 u_)] w10))) (xl w6 247 t5 t1 4 λt54=>K t54 w6))
theorem ab3(h:Qb t0 t1 w K):zd prog Zd #[t0,t1] w K:=
 okC false (.s (.r (rz 1 0 0)) (.s (.r (rz 1 0 2)) (.s (.r (rz 3 0 8)) (.s (.b (.lp [6] (.s (.s (.r (rz 3 0 0)) (.c (.n) (.n))) (.b (.s (.r (rz 4 0 16)) (.s (.r (rz 3 0 0)) (.s (.r (rz 7 0 256)) (.b (.lp [6,26] (.s (.r (rz 1 0 0)) (.s (.c (.n) (.n)) (.j [6] (.b (.s (.r (rz 4 0 164)) (.s (.s (.r (ra 5 0 16 (.grp 34 false (ri 5 5 272) [39] (rz 1 10 0)))) (.c (.n) (.n))) (.s (.r (rz 5 0 528)) (.r (rz 7 0 2624)))))) (.r (rz 2 0 0)))))))))))))) (.s (.r (rz 4 0 16)) (.n)))))) func140 rfl (by kernel_rfl) (by kernel_rfl) h
def Y1(t0 t1:Value)(w:World)(K:VW):Prop:=
 lo w 22 t1 λt4=>pp (Instr.build 112 #[(0,(Value.int .u8 5)),(3,t0)]) λt6=>ca j6 #[t4,t6] w λt7 w1=>
 bt .gtr 3 t7 (i6 16) λt8=>K t8 w1
theorem VX(h:Y1 t0 t1 w K):zd prog kS #[t0,t1] w K:=
 okC false (.s (.r (rz 1 0 0)) (.s (.r (rz 6 0 129)) (.n))) func141 rfl (by kernel_rfl) (by kernel_rfl) h
def YL(t0 t1:Value)(w:World)(K:VW):Prop:=
 pw w (Instr.box 112 t1) λt3 w1=>
 fl w1 t3 112 0 110 λt9=>bt .neq 110 t9 (Value.int .u8 5) λt10=>zc t10 (K (i6 1) w1) (fl w1 t3 112 3 3 λt13=>px 22 t0 t13 λt14=>fl w1 t14 68 1 66 λt16=>pp (Builtin.len_ #[66] 3 #[t16]) λt17=>zo [(i6 0),(i6 0)] w1 (λs3 _d4 w5 K2=>
 bf .lss 3 (s3.getD 1 u_) t17 λt19=>zc t19 (xl w5 66 t16 (s3.getD 1 u_) 161 λt21=>pw w5 (Instr.alloc 161 true (.tuple #[])) λt7 w6=>
 so w6 161 t7 t21 λw7=>fl w7 t7 161 1 112 λt25=>ca j6 #[t0,t25] w7 λt26 w8=>
 bf .add 3 (s3.getD 0 u_) t26 λt27=>bt .gtr 3 t27 (i6 16) λt29=>zc t29 (K (i6 17) w8) (bt .add 3 (s3.getD 1 u_) (i6 1) λt30=>K2 [t27,t30] w8)) (K (s3.getD 0 u_) w5)))
theorem Q6(h:YL t0 t1 w K):zd prog j6 #[t0,t1] w K:=
 okC false (.s (.r (rz 2 0 2)) (.s (.s (.r (rz 3 0 4)) (.c (.s (.r (rz 1 0 0)) (.n)) (.n))) (.s (.r (rz 1 0 0)) (.s (.s (.r (rz 8 0 1040)) (.b (.lp [5,18] (.s (.r (rz 1 0 0)) (.s (.c (.n) (.n)) (.s (.b (.s (.r (rz 4 0 164)) (.s (.r (rz 7 0 576)) (.s (.r (rz 2 0 0)) (.c (.s (.r (rz 1 0 0)) (.n)) (.n)))))) (.r (rz 2 0 0)))))))) (.s (.r (rz 2 0 0)) (.n)))))) func142 rfl (by kernel_rfl) (by kernel_rfl) h
def Vh(t0 t1:Value)(w:World)(K:VW):Prop:=
 zo [(i6 0)] w (λs2 _d3 w4 K1=>
 bf .lss 3 (s2.getD 0 u_) t0 λt8=>zc t8 (cv t1 #[(s2.getD 0 u_)] w4 λt12 w5=>
 zc t12 (K (s2.getD 0 u_) w5) (bt .add 3 (s2.getD 0 u_) (i6 1) λt14=>K1 [t14] w5)) (K t0 w4))
theorem ad3(h:Vh t0 t1 w K):zd prog YD #[t0,t1] w K:=
 okC false (.s (.r (rz 1 0 0)) (.s (.s (.r (rz 2 0 0)) (.b (.lp [7] (.s (.r (rz 1 0 0)) (.s (.c (.n) (.n)) (.s (.b (.s (.r (rz 2 0 0)) (.s (.r (rz 3 0 32)) (.c (.s (.r (rz 2 0 0)) (.n)) (.n))))) (.r (rz 2 0 0)))))))) (.s (.r (rz 2 0 0)) (.n)))) func143 rfl (by kernel_rfl) (by kernel_rfl) h
def Vi(t0 t1:Value)(w:World)(K:VW):Prop:=
 pw w (Instr.box 112 t0) λt2 w1=>
 pw w1 (Instr.box 112 t1) λt3 w2=>
 lo w2 112 t2 λt5=>ca qT #[t5] w2 λt6 w3=>
 za (λK4=>gIf t6 true (lo w3 112 t3 λt8=>ca qT #[t8] w3 λt9 w8=>
 K4 [t9] w8) (K4 [u_] w3)) (λs5 _d6 w7=>
 zb t6 (s5.getD 0 u_) fa_ λt10=>za (λK9=>gIf t10 true (lo w7 112 t2 λt12=>lo w7 112 t3 λt13=>ca j7 #[t12,t13,(Value.func (.func 203) #[] #[])] w7 λt14 w13=>
 K9 [t14] w13) (K9 [u_] w7)) (λs10 _d11 w12=>
 zb t10 (s10.getD 0 u_) fa_ λt15=>K t15 w12))
theorem ad4(h:Vi t0 t1 w K):zd prog xN #[t0,t1] w K:=
 okC false (.s (.r (rz 3 0 10)) (.s (.r (ra 3 0 9 (.grp 7 true (ri 2 3 9) [9] (ra 2 5 0 (.grp 11 true (ri 3 7 37) [14] (rz 2 10 0)))))) (.n))) func180 rfl (by kernel_rfl) (by kernel_rfl) h
def Q7(t0 t1:Value)(w:World)(K:VW):Prop:=
 pw w (Instr.box 112 t1) λt3 w1=>
 lo w1 112 t3 λt10=>ca qU #[t0,t10] w1 λt11 w2=>
 pp (Op.unary .not t11) λt12=>za (λK3=>gIf t12 false (fl w2 t3 112 0 110 λt15=>bt .neq 110 t15 (Value.int .u8 5) λt16=>K3 [t16] w2) (K3 [u_] w2)) (λs4 _d5 w6=>
 zb t12 tr_ (s4.getD 0 u_) λt17=>zc t17 (K (.tuple #[(Value.slice Option.none 0 0),(i6 2)]) w6) (fl w6 t3 112 3 3 λt20=>px 22 t0 t20 λt21=>fl w6 t21 68 1 66 λt23=>pp (Builtin.len_ #[66] 3 #[t23]) λt24=>zo [(Value.slice Option.none 0 0),(i6 0)] w6 (λs8 _d9 w10 K7=>
 bf .lss 3 (s8.getD 1 u_) t24 λt26=>zc t26 (xl w10 66 t23 (s8.getD 1 u_) 161 λt28=>pw w10 (Instr.alloc 161 true (.tuple #[])) λt8 w11=>
 so w11 161 t8 t28 λw12=>fl w12 t8 161 1 112 λt31=>ca Yb #[t31] w12 λt32 w13=>
 pw w13 (Instr.buildSlice 70 1 #[(0,t32)]) λt33 w14=>
 pw w14 (Builtin.append_ #[70,70] 70 #[(s8.getD 0 u_),t33]) λt34 w15=>
 bt .add 3 (s8.getD 1 u_) (i6 1) λt35=>K7 [t34,t35] w15) (K (.tuple #[(s8.getD 0 u_),(i6 0)]) w10))))
theorem acV(h:Q7 t0 t1 w K):zd prog ZQ #[t0,t1] w K:=
 okC false (.s (.r (rz 3 0 2)) (.s (.s (.r (ra 5 0 36 (.grp 13 false (ri 3 5 4) [16] (rz 1 8 0)))) (.c (.s (.r (rz 2 0 0)) (.n)) (.n))) (.s (.r (rz 1 0 0)) (.s (.s (.r (rz 8 0 1040)) (.b (.lp [6,25] (.s (.r (rz 1 0 0)) (.s (.c (.n) (.n)) (.s (.b (.s (.r (rz 4 0 164)) (.r (rz 7 0 2704)))) (.r (rz 2 0 0)))))))) (.s (.r (rz 3 0 0)) (.n)))))) func182 rfl (by kernel_rfl) (by kernel_rfl) h
def Vj(t0 t1:Value)(w:World)(K:VW):Prop:=
 pw w (Instr.box 112 t1) λt3 w1=>
 lo w1 112 t3 λt7=>ca qU #[t0,t7] w1 λt8 w2=>
 pp (Op.unary .not t8) λt9=>zc t9 (K (.tuple #[fa_,(i6 2)]) w2) (lo w2 112 t3 λt11=>ca j8 #[t0,t11] w2 λt12 w3=>
 K (.tuple #[t12,(i6 0)]) w3)
theorem ad5(h:Vj t0 t1 w K):zd prog YE #[t0,t1] w K:=
 okC false (.s (.r (rz 3 0 2)) (.s (.s (.r (rz 4 0 36)) (.c (.s (.r (rz 2 0 0)) (.n)) (.n))) (.s (.r (rz 5 0 36)) (.n)))) func183 rfl (by kernel_rfl) (by kernel_rfl) h
def Q8(t0:Value)(w:World)(K:VW):Prop:=
 pw w (Instr.box 112 t0) λt1 w1=>
 lo w1 112 t1 λt3=>ca qT #[t3] w1 λt4 w2=>
 pp (Op.unary .not t4) λt5=>zc t5 (K fa_ w2) (fl w2 t1 112 0 110 λt7=>za (λK3=>
 bt .eql 110 t7 (Value.int .u8 1) λt9=>zc t9 (K3 [t9] w2) (bt .eql 110 t7 (Value.int .u8 2) λt10=>K3 [t10] w2)) (λs4 _d5 w6=>
 zc (s4.getD 0 u_) (K tr_ w6) (bt .eql 110 t7 (Value.int .u8 4) λt12=>zc t12 (fl w6 t1 112 1 4 λt14=>pp (Op.unary .not t14) λt15=>K t15 w6) (K fa_ w6))))
theorem acW(h:Q8 t0 w K):zd prog jA #[t0] w K:=
 okC false (.s (.r (rz 2 0 2)) (.s (.s (.r (rz 3 0 9)) (.c (.s (.r (rz 1 0 0)) (.n)) (.n))) (.s (.s (.r (rz 2 0 4)) (.b (.j [8] (.s (.r (rz 2 0 0)) (.c (.n) (.r (rz 2 0 0)))) (.c (.s (.r (rz 1 0 0)) (.n)) (.s (.r (rz 2 0 0)) (.c (.s (.r (rz 4 0 4)) (.n)) (.n))))))) (.s (.r (rz 1 0 0)) (.n))))) func201 rfl (by kernel_rfl) (by kernel_rfl) h
def Vk(t0 t1 t2:Value)(w:World)(K:VW):Prop:=
 pw w (Instr.box 112 t0) λt3 w1=>
 pw w1 (Instr.box 112 t1) λt4 w2=>
 fl w2 t3 112 0 110 λt8=>fl w2 t4 112 0 110 λt10=>bf .neq 110 t8 t10 λt11=>za (λK3=>gIf t11 false (fl w2 t3 112 1 4 λt14=>fl w2 t4 112 1 4 λt16=>bf .neq 4 t14 t16 λt17=>K3 [t17] w2) (K3 [u_] w2)) (λs4 _d5 w6=>
 zb t11 tr_ (s4.getD 0 u_) λt18=>za (λK7=>gIf t18 false (fl w6 t3 112 3 3 λt21=>fl w6 t4 112 3 3 λt23=>bf .neq 3 t21 t23 λt24=>K7 [t24] w6) (K7 [u_] w6)) (λs8 _d9 w10=>
 zb t18 tr_ (s8.getD 0 u_) λt25=>za (λK11=>gIf t25 false (fl w10 t3 112 2 3 λt29=>fl w10 t4 112 2 3 λt31=>cv t2 #[t29,t31] w10 λt32 w15=>
 pp (Op.unary .not t32) λt33=>K11 [t33] w15) (K11 [u_] w10)) (λs12 _d13 w14=>
 zb t25 tr_ (s12.getD 0 u_) λt34=>zc t34 (K fa_ w14) (fl w14.drew t3 112 4 70 λt36=>pp (Builtin.len_ #[70] 3 #[t36]) λt37=>bt .eql 3 t37 (i6 0) λt38=>za (λK16=>gIf t38 false (fl w14.drew t3 112 4 70 λt41=>xl w14.drew 70 t41 (i6 0) 112 λt43=>fl w14.drew t4 112 4 70 λt45=>xl w14.drew 70 t45 (i6 0) 112 λt47=>ca j7 #[t43,t47,t2] w14.drew λt49 w20=>
 K16 [t49] w20) (K16 [u_] w14.drew)) (λs17 _d18 w19=>
 zb t38 tr_ (s17.getD 0 u_) λt50=>K t50 w19)))))
theorem ad6(h:Vk t0 t1 t2 w K):zd prog j7 #[t0,t1,t2] w K:=
 okC false (.s (.r (rz 3 0 10)) (.s (.s (.r (ra 6 0 68 (.grp 12 false (ri 5 6 68) [17] (ra 2 11 0 (.grp 19 false (ri 5 13 68) [24] (ra 2 18 0 (.grp 26 false (ri 7 20 2320) [33] (rz 1 27 0)))))))) (.c (.s (.r (rz 1 0 0)) (.n)) (.n))) (.s (.r (ra 5 0 4 (.grp 39 false (ri 10 5 541764) [49] (rz 2 15 0)))) (.n)))) func202 rfl (by kernel_rfl) (by kernel_rfl) h
def Qc(_t0 _t1:Value)(w:World)(K:VW):Prop:=
 K tr_ w
theorem ab4(h:Qc t0 t1 w K):zd prog X6 #[t0,t1] w K:=
 okC false (.s (.r (rz 1 0 0)) (.s (.r (rz 1 0 0)) (.n))) func203 rfl (by kernel_rfl) (by kernel_rfl) h
def YM(t0 t1:Value)(w:World)(K:VW):Prop:=
 pw w (Instr.box 22 t0) λt2 w1=>
 pw w1 (Instr.box 112 t1) λt3 w2=>
 fl w2 t3 112 0 110 λt6=>bt .eql 110 t6 (Value.int .u8 3) λt8=>zc t8 (K tr_ w2) (bt .eql 110 t6 (Value.int .u8 5) λt10=>zc t10 (lo w2 22 t2 λt11=>fl w2 t3 112 3 3 λt13=>px 22 t11 t13 λt14=>fl w2 t14 68 1 66 λt16=>pp (Instr.makeFunc (.func 213) #[] #[t2]) λt17=>ca zS #[t16,t17] w2 λt18 w3=>
 K t18 w3) (K fa_ w2))
theorem Q9(h:YM t0 t1 w K):zd prog j8 #[t0,t1] w K:=
 okC false (.s (.r (rz 3 0 10)) (.s (.s (.r (rz 2 0 4)) (.b (.s (.r (rz 2 0 0)) (.c (.s (.r (rz 1 0 0)) (.n)) (.s (.r (rz 2 0 0)) (.c (.s (.r (rz 9 0 33809)) (.n)) (.n))))))) (.s (.r (rz 1 0 0)) (.n)))) func207 rfl (by kernel_rfl) (by kernel_rfl) h
def Qd(t0 t1:Value)(w:World)(K:VW):Prop:=
 pw w (Instr.box 161 t0) λt2 w1=>
 lo w1 22 t1 λt4=>fl w1 t2 161 1 112 λt6=>ca j8 #[t4,t6] w1 λt7 w2=>
 K t7 w2
theorem ab5(h:Qd t0 t1 w K):zd prog acS #[t0,t1] w K:=
 okC false (.s (.r (rz 2 0 2)) (.s (.r (rz 5 0 145)) (.n))) func213 rfl (by kernel_rfl) (by kernel_rfl) h
def acX(t0:Value)(w:World)(K:VW):Prop:=
 pw w (Instr.box 112 t0) λt1 w1=>
 lo w1 112 t1 λt3=>ca kh #[t3,(i6 32),(i6 48)] w1 λt4 w2=>
 K t4 w2
theorem ahw(h:acX t0 w K):zd prog Y9 #[t0] w K:=
 okC false (.s (.r (rz 2 0 2)) (.s (.r (rz 3 0 9)) (.n))) func191 rfl (by kernel_rfl) (by kernel_rfl) h
def XF(t0 t1 t2:Value)(w:World)(K:VW):Prop:=
 pw w (Instr.box 112 t0) λt3 w1=>
 bt .lss 3 t2 (i6 1) λt8=>zc t8 (K fa_ w1) (fl w1 t3 112 0 110 λt10=>za (λK2=>
 bt .eql 110 t10 (Value.int .u8 1) λt12=>zc t12 (K2 [t12] w1) (bt .eql 110 t10 (Value.int .u8 2) λt13=>K2 [t13] w1)) (λs3 _d4 w5=>
 zc (s3.getD 0 u_) (fl w5 t3 112 1 4 λt15=>pp (Op.unary .not t15) λt16=>za (λK6=>gIf t16 true (fl w5 t3 112 2 3 λt19=>bt .eql 3 t19 (i6 0) λt20=>K6 [t20] w5) (K6 [u_] w5)) (λs7 _d8 w9=>
 zb t16 (s7.getD 0 u_) fa_ λt21=>za (λK10=>gIf t21 true (fl w9 t3 112 3 3 λt24=>bt .eql 3 t24 (i6 0) λt25=>K10 [t25] w9) (K10 [u_] w9)) (λs11 _d12 w13=>
 zb t21 (s11.getD 0 u_) fa_ λt26=>za (λK14=>gIf t26 true (fl w13 t3 112 4 70 λt29=>pp (Builtin.len_ #[70] 3 #[t29]) λt30=>bt .eql 3 t30 (i6 0) λt31=>K14 [t31] w13) (K14 [u_] w13)) (λs15 _d16 w17=>
 zb t26 (s15.getD 0 u_) fa_ λt32=>K t32 w17)))) (bt .eql 110 t10 (Value.int .u8 5) λt34=>zc t34 (fl w5 t3 112 1 4 λt36=>pp (Op.unary .not t36) λt37=>za (λK18=>gIf t37 true (fl w5 t3 112 2 3 λt40=>bt .eql 3 t40 (i6 0) λt41=>K18 [t41] w5) (K18 [u_] w5)) (λs19 _d20 w21=>
 zb t37 (s19.getD 0 u_) fa_ λt42=>za (λK22=>gIf t42 true (fl w21 t3 112 3 3 λt45=>bt .geq 3 t45 (i6 0) λt46=>K22 [t46] w21) (K22 [u_] w21)) (λs23 _d24 w25=>
 zb t42 (s23.getD 0 u_) fa_ λt47=>za (λK26=>gIf t47 true (fl w25 t3 112 3 3 λt50=>bf .lss 3 t50 t1 λt52=>K26 [t52] w25) (K26 [u_] w25)) (λs27 _d28 w29=>
 zb t47 (s27.getD 0 u_) fa_ λt53=>za (λK30=>gIf t53 true (fl w29 t3 112 4 70 λt56=>pp (Builtin.len_ #[70] 3 #[t56]) λt57=>bt .eql 3 t57 (i6 0) λt58=>K30 [t58] w29) (K30 [u_] w29)) (λs31 _d32 w33=>
 zb t53 (s31.getD 0 u_) fa_ λt59=>K t59 w33))))) (bt .eql 110 t10 (Value.int .u8 3) λt61=>zc t61 (fl w5 t3 112 1 4 λt63=>pp (Op.unary .not t63) λt64=>za (λK34=>gIf t64 true (fl w5 t3 112 2 3 λt67=>bt .eql 3 t67 (i6 0) λt68=>K34 [t68] w5) (K34 [u_] w5)) (λs35 _d36 w37=>
 zb t64 (s35.getD 0 u_) fa_ λt69=>za (λK38=>gIf t69 true (fl w37 t3 112 3 3 λt72=>bt .eql 3 t72 (i6 0) λt73=>K38 [t73] w37) (K38 [u_] w37)) (λs39 _d40 w41=>
 zb t69 (s39.getD 0 u_) fa_ λt74=>za (λK42=>gIf t74 true (fl w41 t3 112 4 70 λt77=>pp (Builtin.len_ #[70] 3 #[t77]) λt78=>bt .eql 3 t78 (i6 1) λt79=>K42 [t79] w41) (K42 [u_] w41)) (λs43 _d44 w45=>
 zb t74 (s43.getD 0 u_) fa_ λt80=>za (λK46=>gIf t80 true (fl w45 t3 112 4 70 λt83=>xl w45 70 t83 (i6 0) 112 λt85=>bt .sub 3 t2 (i6 1) λt88=>ca kh #[t85,t1,t88] w45 λt89 w50=>
 K46 [t89] w50) (K46 [u_] w45)) (λs47 _d48 w49=>
 zb t80 (s47.getD 0 u_) fa_ λt90=>K t90 w49))))) (bt .eql 110 t10 (Value.int .u8 4) λt92=>zc t92 (fl w5 t3 112 2 3 λt94=>bt .geq 3 t94 (i6 (-1)) λt95=>za (λK51=>gIf t95 true (fl w5 t3 112 3 3 λt98=>bt .eql 3 t98 (i6 0) λt99=>K51 [t99] w5) (K51 [u_] w5)) (λs52 _d53 w54=>
 zb t95 (s52.getD 0 u_) fa_ λt100=>za (λK55=>gIf t100 true (fl w54 t3 112 4 70 λt103=>pp (Builtin.len_ #[70] 3 #[t103]) λt104=>bt .eql 3 t104 (i6 1) λt105=>K55 [t105] w54) (K55 [u_] w54)) (λs56 _d57 w58=>
 zb t100 (s56.getD 0 u_) fa_ λt106=>za (λK59=>gIf t106 true (fl w58 t3 112 4 70 λt109=>xl w58 70 t109 (i6 0) 112 λt111=>bt .sub 3 t2 (i6 1) λt114=>ca kh #[t111,t1,t114] w58 λt115 w63=>
 K59 [t115] w63) (K59 [u_] w58)) (λs60 _d61 w62=>
 zb t106 (s60.getD 0 u_) fa_ λt116=>K t116 w62)))) (K fa_ w5))))))
theorem Vl(h:XF t0 t1 t2 w K):zd prog kh #[t0,t1,t2] w K:=
 okC false (.s (.r (rz 2 0 2)) (.s (.s (.r (rz 2 0 0)) (.c (.s (.r (rz 1 0 0)) (.n)) (.n))) (.s (.s (.r (rz 2 0 4)) (.b (.j [11] (.s (.r (rz 2 0 0)) (.c (.n) (.r (rz 2 0 0)))) (.c (.s (.r (ra 4 0 4 (.grp 17 true (ri 3 4 4) [20] (ra 2 7 0 (.grp 22 true (ri 3 9 4) [25] (ra 2 12 0 (.grp 27 true (ri 4 14 4) [31] (rz 2 18 0)))))))) (.n)) (.s (.r (rz 2 0 0)) (.c (.s (.r (ra 4 0 4 (.grp 38 true (ri 3 4 4) [41] (ra 2 7 0 (.grp 43 true (ri 3 9 4) [46] (ra 2 12 0 (.grp 48 true (ri 4 14 4) [52] (ra 2 18 0 (.grp 54 true (ri 4 20 4) [58] (rz 2 24 0)))))))))) (.n)) (.s (.r (rz 2 0 0)) (.c (.s (.r (ra 4 0 4 (.grp 65 true (ri 3 4 4) [68] (ra 2 7 0 (.grp 70 true (ri 3 9 4) [73] (ra 2 12 0 (.grp 75 true (ri 4 14 4) [79] (ra 2 18 0 (.grp 81 true (ri 8 20 32836) [89] (rz 2 28 0)))))))))) (.n)) (.s (.r (rz 2 0 0)) (.c (.s (.r (ra 4 0 4 (.grp 96 true (ri 3 4 4) [99] (ra 2 7 0 (.grp 101 true (ri 4 9 4) [105] (ra 2 13 0 (.grp 107 true (ri 8 15 32836) [115] (rz 2 23 0)))))))) (.n)) (.n))))))))))) (.s (.r (rz 1 0 0)) (.n))))) func209 rfl (by kernel_rfl) (by kernel_rfl) h
def Qe(t0:Value)(w:World)(K:VW):Prop:=
 pw w (Instr.box 112 t0) λt1 w1=>
 lo w1 112 t1 λt4=>ca Y9 #[t4] w1 λt5 w2=>
 pp (Op.unary .not t5) λt6=>zc t6 (K (Value.slice Option.none 0 0) w2) (zo [(Value.slice Option.none 0 0)] w2 (λs4 _d5 w6 K3=>
 fl w6 t1 112 0 110 λt8=>bt .eql 110 t8 (Value.int .u8 4) λt9=>za (λK7=>gIf t9 false (fl w6 t1 112 0 110 λt12=>bt .eql 110 t12 (Value.int .u8 3) λt13=>K7 [t13] w6) (K7 [u_] w6)) (λs8 _d9 w10=>
 zb t9 tr_ (s8.getD 0 u_) λt14=>zc t14 (za (λK11=>
 fl w10 t1 112 0 110 λt16=>bt .eql 110 t16 (Value.int .u8 4) λt17=>zc t17 (fl w10 t1 112 2 3 λt20=>pw w10 (Instr.buildSlice 26 1 #[(0,t20)]) λt21 w15=>
 pw w15 (Builtin.append_ #[26,26] 26 #[(s4.getD 0 u_),t21]) λt22 w16=>
 K11 [t22] w16) (K11 [(s4.getD 0 u_)] w10)) (λs12 _d13 w14=>
 fl w14 t1 112 4 70 λt24=>xl w14 70 t24 (i6 0) 112 λt26=>so w14 112 t1 t26 λw17=>K3 [(s12.getD 0 u_)] w17)) (K (s4.getD 0 u_) w10))))
theorem ab6(h:Qe t0 w K):zd prog jg #[t0] w K:=
 okC false (.s (.r (rz 2 0 2)) (.s (.s (.r (rz 3 0 9)) (.c (.s (.r (rz 1 0 0)) (.n)) (.n))) (.s (.r (rz 1 0 0)) (.s (.b (.lp [3] (.s (.s (.r (ra 4 0 4 (.grp 10 false (ri 3 4 4) [13] (rz 1 7 0)))) (.c (.n) (.n))) (.b (.j [3] (.s (.r (rz 3 0 4)) (.c (.r (rz 6 0 656)) (.n))) (.r (rz 5 0 580))))))) (.s (.r (rz 2 0 0)) (.n)))))) func154 rfl (by kernel_rfl) (by kernel_rfl) h
def Ja(t0 t1:Value)(w:World)(K:VW):Prop:=
 pw w (Instr.box 112 t1) λt3 w1=>
 lo w1 112 t3 λt10=>ca Yd #[t0,t10] w1 λt11 w2=>
 pp (Op.unary .not t11) λt12=>za (λK3=>gIf t12 false (fl w2 t3 112 0 110 λt15=>bt .neq 110 t15 (Value.int .u8 5) λt16=>K3 [t16] w2) (K3 [u_] w2)) (λs4 _d5 w6=>
 zb t12 tr_ (s4.getD 0 u_) λt17=>zc t17 (K (.tuple #[(Value.slice Option.none 0 0),(i6 2)]) w6) (fl w6 t3 112 3 3 λt20=>px 22 t0 t20 λt21=>fl w6 t21 68 1 66 λt23=>zo [(Value.slice Option.none 0 0),(i6 0)] w6 (λs8 _d9 w10 K7=>
 pp (Builtin.len_ #[66] 3 #[t23]) λt26=>bf .lss 3 (s8.getD 1 u_) t26 λt27=>zc t27 (px 66 t23 (s8.getD 1 u_) λt33=>fl w10 t33 161 1 112 λt35=>ca Ye #[t35] w10 λt36 w11=>
 pw w11 (Instr.buildSlice 70 1 #[(0,t36)]) λt37 w12=>
 pw w12 (Builtin.append_ #[70,70] 70 #[(s8.getD 0 u_),t37]) λt38 w13=>
 bt .add 3 (s8.getD 1 u_) (i6 1) λt29=>K7 [t38,t29] w13) (K (.tuple #[(s8.getD 0 u_),(i6 0)]) w10))))
theorem acY(h:Ja t0 t1 w K):zd prog ZR #[t0,t1] w K:=
 okC false (.s (.r (rz 3 0 2)) (.s (.s (.r (ra 5 0 36 (.grp 13 false (ri 3 5 4) [16] (rz 1 8 0)))) (.c (.s (.r (rz 2 0 0)) (.n)) (.n))) (.s (.r (rz 1 0 0)) (.s (.r (rz 7 0 1040)) (.s (.s (.r (rz 1 0 0)) (.b (.lp [6,8] (.s (.s (.r (rz 4 0 0)) (.c (.n) (.n))) (.s (.b (.r (rz 10 0 173056))) (.r (rz 3 0 0))))))) (.s (.r (rz 3 0 0)) (.n))))))) func164 rfl (by kernel_rfl) (by kernel_rfl) h
def Vm(t0 t1:Value)(w:World)(K:VW):Prop:=
 pw w (Instr.box 112 t1) λt3 w1=>
 lo w1 112 t3 λt7=>ca Yd #[t0,t7] w1 λt8 w2=>
 pp (Op.unary .not t8) λt9=>zc t9 (K (.tuple #[fa_,(i6 2)]) w2) (lo w2 112 t3 λt11=>ca j9 #[t0,t11] w2 λt12 w3=>
 K (.tuple #[t12,(i6 0)]) w3)
theorem ad7(h:Vm t0 t1 w K):zd prog YG #[t0,t1] w K:=
 okC false (.s (.r (rz 3 0 2)) (.s (.s (.r (rz 4 0 36)) (.c (.s (.r (rz 2 0 0)) (.n)) (.n))) (.s (.r (rz 5 0 36)) (.n)))) func166 rfl (by kernel_rfl) (by kernel_rfl) h
def Jb(t0:Value)(w:World)(K:VW):Prop:=
 pw w (Instr.box 112 t0) λt1 w1=>
 lo w1 112 t1 λt3=>ca Y9 #[t3] w1 λt4 w2=>
 za (λK3=>gIf t4 true (fl w2 t1 112 0 110 λt7=>bt .eql 110 t7 (Value.int .u8 1) λt8=>K3 [t8] w2) (K3 [u_] w2)) (λs4 _d5 w6=>
 za (λK7=>gIf (s4.getD 0 u_) false (fl w6 t1 112 0 110 λt11=>bt .eql 110 t11 (Value.int .u8 2) λt12=>K7 [t12] w6) (K7 [u_] w6)) (λs8 _d9 w10=>
 za (λK11=>gIf t4 true (zb (s4.getD 0 u_) tr_ (s8.getD 0 u_) λt13=>K11 [t13] w10) (K11 [u_] w10)) (λs12 _d13 w14=>
 za (λK15=>gIf (s12.getD 0 u_) false (fl w14 t1 112 0 110 λt16=>bt .eql 110 t16 (Value.int .u8 4) λt17=>K15 [t17] w14) (K15 [u_] w14)) (λs16 _d17 w18=>
 za (λK19=>gIf (s16.getD 0 u_) true (fl w18 t1 112 1 4 λt20=>pp (Op.unary .not t20) λt21=>K19 [t21] w18) (K19 [u_] w18)) (λs20 _d21 w22=>
 za (λK23=>gIf (s12.getD 0 u_) false (zb (s16.getD 0 u_) (s20.getD 0 u_) fa_ λt22=>K23 [t22] w22) (K23 [u_] w22)) (λs24 _d25 w26=>
 za (λK27=>gIf t4 true (zb (s12.getD 0 u_) tr_ (s24.getD 0 u_) λt23=>K27 [t23] w26) (K27 [u_] w26)) (λs28 _d29 w30=>
 zb t4 (s28.getD 0 u_) fa_ λt24=>K t24 w30)))))))
theorem acZ(h:Jb t0 w K):zd prog jB #[t0] w K:=
 okC false (.s (.r (rz 2 0 2)) (.s (.r (ra 3 0 9 (.grp 5 true (ri 4 3 4) [9] (.grp 9 false (ri 3 7 4) [12] (.grp 5 true (ri 2 10 0) [14] (.grp 14 false (ri 4 12 4) [18] (.grp 18 true (ri 3 16 4) [21] (.grp 14 false (ri 1 19 0) [22] (.grp 5 true (ri 1 20 0) [23] (rz 2 21 0)))))))))) (.n))) func193 rfl (by kernel_rfl) (by kernel_rfl) h
def abu(t0 t1:Value)(w:World)(K:VW):Prop:=
 pw w (Instr.box 112 t1) λt3 w1=>
 ca Zh #[t0] w1 λt9 w2=>
 pe t9 0 λ_t10=>pe t9 1 λt11=>bt .eql 3 t11 (i6 0) λt13=>za (λK3=>gIf t13 true (lo w2 112 t3 λt15=>pp (Builtin.len_ #[22] 3 #[t0]) λt17=>ca kh #[t15,t17,(i6 48)] w2 λt18 w7=>
 K3 [t18] w7) (K3 [u_] w2)) (λs4 _d5 w6=>
 zb t13 (s4.getD 0 u_) fa_ λt19=>K t19 w6)
theorem agt(h:abu t0 t1 w K):zd prog Yd #[t0,t1] w K:=
 okC false (.s (.r (rz 2 0 2)) (.s (.r (rz 7 0 8)) (.s (.r (ra 3 0 0 (.grp 14 true (ri 4 3 129) [18] (rz 2 7 0)))) (.n)))) func195 rfl (by kernel_rfl) (by kernel_rfl) h
def abv(t0:Value)(w:World)(K:VW):Prop:=
 pw w (Instr.box 112 t0) λt1 w1=>
 pw w1 (Instr.alloc 112 true (.tuple #[])) λt2 w2=>
 fl w2 t1 112 4 70 λt6=>pf 112 t1 4 λt7=>so w2 70 t7 (Value.slice Option.none 0 0) λw3=>zo [(i6 0)] w3 (λs5 _d6 w7 K4=>
 pp (Builtin.len_ #[70] 3 #[t6]) λt10=>bf .lss 3 (s5.getD 0 u_) t10 λt11=>zc t11 (fl w7.drew t1 112 4 70 λt15=>xl w7.drew 70 t6 (s5.getD 0 u_) 112 λt19=>ca Ye #[t19] w7.drew λt20 w8=>
 Ext w7.drew w8∧
 pw w8 (Instr.buildSlice 70 1 #[(0,t20)]) λt21 w9=>
 Ext w8 w9∧
 pw w9 (Builtin.append_ #[70,70] 70 #[t15,t21]) λt22 w10=>
 pf 112 t1 4 λt23=>so w10 70 t23 t22 λw11=>bt .add 3 (s5.getD 0 u_) (i6 1) λt13=>K4 [t13] w11) (lo w7 112 t1 λt24=>so w7 112 t2 t24 λw12=>pq w12 (zk 112 t2) λr13=>K r13 w12))
theorem agu(h:abv t0 w K):zd prog Ye #[t0] w K:=
 okC false (.s (.r (rz 2 0 10)) (.s (.r (rz 3 0 4)) (.s (.r (rz 2 0 8)) (.s (.s (.r (rz 1 0 0)) (.b (.lp [4] (.s (.s (.r (rz 4 0 0)) (.c (.n) (.n))) (.s (.b (.r (rz 11 0 2290692))) (.r (rz 3 0 0))))))) (.s (.r (rz 2 0 9)) (.n)))))) func196 rfl (by kernel_rfl) (by kernel_rfl) h
def YN(t0 t1:Value)(w:World)(K:VW):Prop:=
 pw w (Instr.box 112 t1) λt3 w1=>
 fl w1 t3 112 0 110 λt8=>bt .neq 110 t8 (Value.int .u8 5) λt9=>zc t9 (fl w1 t3 112 0 110 λt11=>bt .eql 110 t11 (Value.int .u8 3) λt12=>K t12 w1) (fl w1 t3 112 3 3 λt15=>px 22 t0 t15 λt16=>fl w1 t16 68 1 66 λt18=>zo [(i6 0)] w1 (λs3 _d4 w5 K2=>
 pp (Builtin.len_ #[66] 3 #[t18]) λt21=>bf .lss 3 (s3.getD 0 u_) t21 λt22=>zc t22 (px 66 t18 (s3.getD 0 u_) λt28=>fl w5 t28 161 1 112 λt30=>ca j9 #[t0,t30] w5 λt31 w6=>
 zc t31 (K tr_ w6) (bt .add 3 (s3.getD 0 u_) (i6 1) λt24=>K2 [t24] w6)) (K fa_ w5)))
theorem Jc(h:YN t0 t1 w K):zd prog j9 #[t0,t1] w K:=
 okC false (.s (.r (rz 2 0 2)) (.s (.s (.r (rz 3 0 4)) (.c (.s (.r (rz 4 0 4)) (.n)) (.n))) (.s (.r (rz 7 0 1040)) (.s (.s (.r (rz 1 0 0)) (.b (.lp [6] (.s (.s (.r (rz 4 0 0)) (.c (.n) (.n))) (.s (.b (.s (.r (rz 7 0 9216)) (.c (.s (.r (rz 1 0 0)) (.n)) (.n)))) (.r (rz 3 0 0))))))) (.s (.r (rz 1 0 0)) (.n)))))) func197 rfl (by kernel_rfl) (by kernel_rfl) h
def Qf(t0:Value)(w:World)(K:VW):Prop:=
 pp (Builtin.len_ #[22] 3 #[t0]) λt10=>bt .gtr 3 t10 (i6 32) λt11=>zc t11 (K (.tuple #[(i6 32),(i6 2)]) w) (zo [(i6 0)] w (λs2 _d3 w4 K1=>
 pp (Builtin.len_ #[22] 3 #[t0]) λt14=>bf .lss 3 (s2.getD 0 u_) t14 λt15=>zc t15 (px 22 t0 (s2.getD 0 u_) λt20=>fl w4 t20 68 1 66 λt22=>pp (Builtin.len_ #[66] 3 #[t22]) λt24=>bt .lss 3 t24 (i6 1) λt25=>za (λK5=>gIf t25 false (pp (Builtin.len_ #[66] 3 #[t22]) λt28=>bt .gtr 3 t28 (i6 8) λt29=>K5 [t29] w4) (K5 [u_] w4)) (λs6 _d7 w8=>
 zb t25 tr_ (s6.getD 0 u_) λt30=>zc t30 (K (.tuple #[(s2.getD 0 u_),(i6 2)]) w8) (zo [(i6 0)] w8 (λs10 _d11 w12 K9=>
 pp (Builtin.len_ #[66] 3 #[t22]) λt34=>bf .lss 3 (s10.getD 0 u_) t34 λt35=>zc t35 (px 66 t22 (s10.getD 0 u_) λt40=>fl w12 t40 161 1 112 λt42=>pp (Builtin.len_ #[22] 3 #[t0]) λt44=>ca kh #[t42,t44,(i6 48)] w12 λt45 w13=>
 pp (Op.unary .not t45) λt46=>za (λK14=>gIf t46 false (px 66 t22 (s10.getD 0 u_) λt50=>fl w13 t50 161 1 112 λt52=>ca vd #[t52] w13 λt53 w18=>
 pp (Op.unary .not t53) λt54=>K14 [t54] w18) (K14 [u_] w13)) (λs15 _d16 w17=>
 zb t46 tr_ (s15.getD 0 u_) λt55=>zc t55 (K (.tuple #[(s2.getD 0 u_),(i6 2)]) w17) (bt .add 3 (s10.getD 0 u_) (i6 1) λt37=>K9 [t37] w17))) (bt .add 3 (s2.getD 0 u_) (i6 1) λt17=>K1 [t17] w12))))) (zo [(i6 0)] w4 (λs20 _d21 w22 K19=>
 pp (Builtin.len_ #[22] 3 #[t0]) λt59=>bf .lss 3 (s20.getD 0 u_) t59 λt60=>zc t60 (ca Zi #[t0,(s20.getD 0 u_)] w22 λt65 w23=>
 zc t65 (K (.tuple #[(s20.getD 0 u_),(i6 2)]) w23) (bt .add 3 (s20.getD 0 u_) (i6 1) λt62=>K19 [t62] w23)) (zo [(i6 0)] w22 (λs25 _d26 w27 K24=>
 pp (Builtin.len_ #[22] 3 #[t0]) λt69=>bf .lss 3 (s25.getD 0 u_) t69 λt70=>zc t70 (pp (Instr.build 112 #[(0,(Value.int .u8 5)),(3,(s25.getD 0 u_))]) λt75=>ca ve #[t0,t75,(i6 16)] w27 λt76 w28=>
 bt .gtr 3 t76 (i6 16) λt77=>zc t77 (K (.tuple #[(s25.getD 0 u_),(i6 2)]) w28) (bt .add 3 (s25.getD 0 u_) (i6 1) λt72=>K24 [t72] w28)) (K (.tuple #[(i6 0),(i6 0)]) w27)))))))
theorem ab7(h:Qf t0 w K):zd prog Zh #[t0] w K:=
 okC false (.s (.r (rz 2 0 0)) (.s (.s (.r (rz 3 0 0)) (.c (.s (.r (rz 2 0 0)) (.n)) (.n))) (.s (.s (.r (rz 1 0 0)) (.b (.lp [4] (.s (.s (.r (rz 4 0 0)) (.c (.n) (.n))) (.s (.b (.s (.r (rz 6 0 256)) (.s (.s (.r (ra 4 0 0 (.grp 26 false (ri 3 4 0) [29] (rz 1 7 0)))) (.c (.s (.r (rz 3 0 0)) (.n)) (.n))) (.s (.r (rz 1 0 0)) (.b (.lp [6] (.s (.s (.r (rz 4 0 0)) (.c (.n) (.n))) (.s (.b (.s (.r (ra 10 0 33024 (.grp 47 false (ri 7 10 2304) [54] (rz 1 17 0)))) (.c (.s (.r (rz 3 0 0)) (.n)) (.n)))) (.r (rz 3 0 0)))))))))) (.r (rz 3 0 0))))))) (.s (.s (.r (rz 1 0 0)) (.b (.lp [7] (.s (.s (.r (rz 4 0 0)) (.c (.n) (.n))) (.s (.b (.s (.r (rz 3 0 32)) (.c (.s (.r (rz 3 0 0)) (.n)) (.n)))) (.r (rz 3 0 0))))))) (.s (.s (.r (rz 1 0 0)) (.b (.lp [8] (.s (.s (.r (rz 4 0 0)) (.c (.n) (.n))) (.s (.b (.s (.r (rz 5 0 128)) (.c (.s (.r (rz 3 0 0)) (.n)) (.n)))) (.r (rz 3 0 0))))))) (.s (.r (rz 2 0 0)) (.n))))))) func210 rfl (by kernel_rfl) (by kernel_rfl) h
def Vn(t0:Value)(w:World)(K:VW):Prop:=
 pw w (Instr.box 112 t0) λt1 w1=>
 fl w1 t1 112 0 110 λt4=>bt .neq 110 t4 (Value.int .u8 4) λt5=>za (λK2=>gIf t5 true (fl w1 t1 112 0 110 λt8=>bt .neq 110 t8 (Value.int .u8 3) λt9=>K2 [t9] w1) (K2 [u_] w1)) (λs3 _d4 w5=>
 za (λK6=>gIf (s3.getD 0 u_) false (fl w5 t1 112 4 70 λt12=>xl w5 70 t12 (i6 0) 112 λt14=>ca vd #[t14] w5 λt15 w10=>
 K6 [t15] w10) (K6 [u_] w5)) (λs7 _d8 w9=>
 za (λK11=>gIf t5 true (zb (s3.getD 0 u_) tr_ (s7.getD 0 u_) λt16=>K11 [t16] w9) (K11 [u_] w9)) (λs12 _d13 w14=>
 zb t5 (s12.getD 0 u_) fa_ λt17=>K t17 w14)))
theorem ad8(h:Vn t0 w K):zd prog vd #[t0] w K:=
 okC false (.s (.r (rz 2 0 2)) (.s (.r (ra 4 0 4 (.grp 6 true (ri 4 4 4) [10] (.grp 10 false (ri 5 8 580) [15] (.grp 6 true (ri 1 13 0) [16] (rz 2 14 0)))))) (.n))) func214 rfl (by kernel_rfl) (by kernel_rfl) h
def Qg(t0 t1:Value)(w:World)(K:VW):Prop:=
 pp (Builtin.len_ #[22] 3 #[t0]) λt12=>pw w (Instr.makeSlice 40 t12 t12) λt13 w1=>
 pw w1 (Instr.buildSlice 26 1 #[(0,t1)]) λt16 w2=>
 pw w2 (Builtin.append_ #[26,26] 26 #[(Value.slice Option.none 0 0),t16]) λt17 w3=>
 zo [t17,(i6 0)] w3 (λs5 _d6 w7 K4=>
 pp (Builtin.len_ #[26] 3 #[(s5.getD 0 u_)]) λt20=>bf .lss 3 (s5.getD 1 u_) t20 λt21=>zc t21 (xl w7 26 (s5.getD 0 u_) (s5.getD 1 u_) 3 λt28=>px 22 t0 t28 λt29=>fl w7 t29 68 1 66 λt31=>zo [(s5.getD 0 u_),(i6 0)] w7 (λs9 _d10 w11 K8=>
 pp (Builtin.len_ #[66] 3 #[t31]) λt34=>bf .lss 3 (s9.getD 1 u_) t34 λt35=>zc t35 (za (λK12=>
 px 66 t31 (s9.getD 1 u_) λt40=>fl w11 t40 161 1 112 λt42=>pw w11 (Instr.alloc 112 true (.tuple #[])) λt10 w16=>
 so w16 112 t10 t42 λw17=>fl w17 t10 112 0 110 λt44=>bt .neq 110 t44 (Value.int .u8 5) λt45=>zc t45 (K12 [(s9.getD 0 u_)] w17) (fl w17 t10 112 3 3 λt47=>bf .eql 3 t47 t1 λt49=>zc t49 (K tr_ w17) (fl w17 t10 112 3 3 λt52=>xl w17 40 t13 t52 4 λt54=>pp (Op.unary .not t54) λt55=>zc t55 (fl w17 t10 112 3 3 λt58=>px 40 t13 t58 λt59=>so w17 4 t59 tr_ λw18=>fl w18 t10 112 3 3 λt62=>pw w18 (Instr.buildSlice 26 1 #[(0,t62)]) λt63 w19=>
 pw w19 (Builtin.append_ #[26,26] 26 #[(s9.getD 0 u_),t63]) λt64 w20=>
 K12 [t64] w20) (K12 [(s9.getD 0 u_)] w17)))) (λs13 _d14 w15=>
 bt .add 3 (s9.getD 1 u_) (i6 1) λt37=>K8 [(s13.getD 0 u_),t37] w15)) (bt .add 3 (s5.getD 1 u_) (i6 1) λt23=>K4 [(s9.getD 0 u_),t23] w11))) (K fa_ w7))
theorem ab8(h:Qg t0 t1 w K):zd prog Zi #[t0,t1] w K:=
 okC false (.s (.r (rz 1 0 0)) (.s (.r (rz 1 0 0)) (.s (.r (rz 4 0 32)) (.s (.r (rz 5 0 160)) (.s (.s (.r (rz 1 0 0)) (.b (.lp [5,7] (.s (.s (.r (rz 4 0 0)) (.c (.n) (.n))) (.s (.b (.s (.r (rz 9 0 16640)) (.s (.r (rz 1 0 0)) (.b (.lp [5,9] (.s (.s (.r (rz 4 0 0)) (.c (.n) (.n))) (.j [5] (.b (.s (.r (rz 7 0 10496)) (.s (.s (.r (rz 3 0 4)) (.c (.n) (.n))) (.s (.s (.r (rz 4 0 4)) (.c (.s (.r (rz 1 0 0)) (.n)) (.n))) (.s (.r (rz 6 0 272)) (.c (.s (.r (rz 5 0 528)) (.r (rz 6 0 656))) (.n))))))) (.r (rz 3 0 0))))))))) (.r (rz 3 0 0))))))) (.s (.r (rz 1 0 0)) (.n))))))) func215 rfl (by kernel_rfl) (by kernel_rfl) h
def YO(t0 t1 t2:Value)(w:World)(K:VW):Prop:=
 pw w (Instr.box 112 t1) λt4 w1=>
 fl w1 t4 112 0 110 λt11=>bt .neq 110 t11 (Value.int .u8 5) λt12=>zc t12 (K (i6 1) w1) (fl w1 t4 112 3 3 λt15=>px 22 t0 t15 λt16=>fl w1 t16 68 1 66 λt18=>zo [(i6 0),(i6 0)] w1 (λs3 _d4 w5 K2=>
 pp (Builtin.len_ #[66] 3 #[t18]) λt21=>bf .lss 3 (s3.getD 1 u_) t21 λt22=>za (λK6=>gIf t22 true (bf .leq 3 (s3.getD 0 u_) t2 λt26=>K6 [t26] w5) (K6 [u_] w5)) (λs7 _d8 w9=>
 zb t22 (s7.getD 0 u_) fa_ λt27=>zc t27 (px 66 t18 (s3.getD 1 u_) λt34=>fl w9 t34 161 1 112 λt36=>bf .sub 3 t2 (s3.getD 0 u_) λt39=>ca ve #[t0,t36,t39] w9 λt40 w10=>
 bf .add 3 (s3.getD 0 u_) t40 λt41=>bt .add 3 (s3.getD 1 u_) (i6 1) λt29=>K2 [t41,t29] w10) (K (s3.getD 0 u_) w9))))
theorem Jd(h:YO t0 t1 t2 w K):zd prog ve #[t0,t1,t2] w K:=
 okC false (.s (.r (rz 2 0 2)) (.s (.s (.r (rz 3 0 4)) (.c (.s (.r (rz 1 0 0)) (.n)) (.n))) (.s (.r (rz 1 0 0)) (.s (.r (rz 7 0 1040)) (.s (.s (.r (rz 1 0 0)) (.b (.lp [7,9] (.s (.s (.r (ra 5 0 0 (.grp 23 true (ri 3 5 0) [26] (rz 1 8 0)))) (.c (.n) (.n))) (.s (.b (.r (rz 13 0 2101248))) (.r (rz 3 0 0))))))) (.s (.r (rz 2 0 0)) (.n))))))) func216 rfl (by kernel_rfl) (by kernel_rfl) h
end
end Go.Proofs.Tryz
namespace Go.Proofs
open Go.Sh
inductive TyD where
 |mk (k:Int) (m:Bool) (re st:Int) (of:List TyD)
namespace TyD
def k:TyD→Int|mk k _ _ _ _=>k
def m:TyD→Bool|mk _ m _ _ _=>m
def re:TyD→Int|mk _ _ re _ _=>re
def st:TyD→Int|mk _ _ _ st _=>st
def of:TyD→List TyD|mk _ _ _ _ of=>of
mutual
def dat:TyD→Dat
 |mk k m re st of=>.agg [.int .u8 k,.bool m,.int .i64 re,.int .i64 st,.sl 5 (dats of)]
def dats:List TyD→List Dat
 |[]=>[]
 |t::l=>dat t::dats l
end
theorem dats_map:∀l:List TyD,dats l=l.map dat
 |[]=>rfl
 |t::l=>by rw[dats,dats_map l];rfl
mutual
def ht:TyD→Nat
 |mk _ _ _ _ of=>hts of+1
def hts:List TyD→Nat
 |[]=>0
 |t::l=>max (ht t) (hts l)
end
theorem alg:∀{l:List TyD}{t:TyD},t∈l→ht t≤hts l
 |x::l,t,h=>by
  rcases List.mem_cons.1 h with rfl|h
  ·exact Nat.le_max_left _ _
  ·exact Nat.le_trans (alg h) (Nat.le_max_right _ _)
theorem ht_of{t u:TyD}(h:u∈t.of):ht u<ht t:=by
 cases t with|mk k m re st of=>exact Nat.lt_succ_of_le (alg h)
end TyD
def TyG(r:Gh)(v:Value)(t:TyD):Prop:=
 ∃p cap,v=.agg #[.int .u8 t.k,.bool t.m,.int .i64 t.re,.int .i64 t.st,.slice p t.of.length cap]∧(p=none→cap=0)∧t.of.length≤cap∧RepS r 5 p 0 (TyD.dats t.of)
theorem TyG.up{r s:Gh}{v:Value}{t:TyD}(h:TyG r v t)[l:Le r s]:TyG s v t:=by
 obtain⟨p,cap,h1,h2,h3,h4⟩:=h;exact⟨p,cap,h1,h2,h3,h4.up⟩
theorem TyG.of_rep{r:Gh}{c:List Value}{t:TyD}(h:Rep r t.dat c):TyG r (.agg c.toArray) t:=by
 cases t with
 |mk k m re st of=>
  obtain⟨a1,b1,rfl,h1,a2,b2,rfl,h2,a3,b3,rfl,h3,a4,b4,rfl,h4,a5,b5,rfl,h5,h6⟩:=h
  obtain rfl:a1=_:=h1
  obtain rfl:a2=_:=h2
  obtain rfl:a3=_:=h3
  obtain rfl:a4=_:=h4
  obtain rfl:b5=[]:=h6
  obtain⟨p,cap,rfl,q1,q2,q3⟩:=h5
  rw[TyD.dats_map,List.length_map]at q2
  refine⟨p,cap,?_,q1,q2,q3⟩
  rw[TyD.dats_map,List.length_map];rfl
theorem TyG.rep{r:Gh}{v:Value}{t:TyD}(h:TyG r v t):∃c,v=.agg c.toArray∧c.length=5∧Rep r t.dat c:=by
 obtain⟨p,cap,rfl,h2,h3,h4⟩:=h
 refine⟨_,rfl,rfl,?_⟩
 cases t with
 |mk k m re st of=>
  refine⟨[_],_,rfl,rfl,[_],_,rfl,rfl,[_],_,rfl,rfl,[_],_,rfl,rfl,[_],[],rfl,⟨p,cap,?_,h2,?_,h4⟩,rfl⟩
  ·rw[TyD.dats_map,List.length_map];rfl
  ·rw[TyD.dats_map,List.length_map];exact h3
theorem vO{X:Nat→Prop}{w0 w:World}{r q:Gh}{L:List Asr}(S:StX X w0 r w L){p:Option Addr}{of:List TyD}(h:RepS q 5 p 0 (TyD.dats of))[l:Le q r]{i:Nat}(hi:i<of.length):
  ∃(b off:Nat)(c:List Value),p=some ⟨b,off,none⟩∧c.length=5∧(∀j v,c[j]? = some v→w.cell? ⟨b,off+i*5+j,none⟩=some v)∧TyG q (.agg c.toArray) of[i]:=by
 rw[TyD.dats_map]at h
 obtain⟨b,off,c,h1,h2,h3,h4⟩:=RepS.at S h (i:=i) (by simpa using hi) (by decide)
 rw[List.getElem_map]at h4
 exact⟨b,off,c,h1,h2,h3,TyG.of_rep h4⟩
section
variable {n:Nat} {a b t:TyD} {w:World} {r:Gh} {K:Value→World→Prop}
def zE(structs:Int):Nat→TyD→Bool
 |0,_=>false
 |n+1,t=>
  let inn:=decide (t.of.length=1)&&(match t.of with|u::_=>zE structs n u|[]=>false)
  let bare:=!t.m&&decide (t.re=0)
  if t.k=1∨t.k=2 then bare&&decide (t.st=0)&&decide (t.of.length=0)
  else if t.k=5 then bare&&decide (t.of.length=0)&&decide (0≤t.st)&&decide (t.st<structs)
  else if t.k=3 then bare&&decide (t.st=0)&&inn
  else if t.k=4 then decide (-1≤t.re)&&decide (t.st=0)&&inn
  else false
def inB(structs:Int)(n:Nat)(t:TyD):Bool:=match t.of with|u::_=>zE structs n u|[]=>false
theorem agv{structs:Int}:∀{t:TyD}{h:0<t.of.length},inB structs n t=zE structs n t.of[0]
 |.mk _ _ _ _ (_::_),_=>rfl
 |.mk _ _ _ _ [],h=>absurd h (Nat.not_lt_zero _)
theorem qB(n:Nat):((n:Int)=0)↔n=0:=by omega
theorem vP(n:Nat):((n:Int)=1)↔n=1:=by omega
theorem XG:∀(n:Nat){t:TyD}{w:World}{r:Gh}{v:Value}{structs:Int}{K:Value→World→Prop},n≤1000→Holds r w→TyG r v t→
  (∀w',Ext w w'→K (.bool (zE structs n t)) w')→zd Tryz.prog Tryz.kU #[v,.int .i64 structs,.int .i64 (n:Int)] w K:=by
 intro n
 induction n with
 |zero=>
  intro t w r v structs K _ hr hv h
  refine Tryz.Vg ?_
  unfold Tryz.XE
  have S:=St.start hr
  refine S.box λb2 w1 S=>?_
  refine gG_ ?_
  exact h _ S.ext
 |succ n ih=>
  intro t w r v structs K hn hr hv h
  refine Tryz.Vg ?_
  unfold Tryz.XE
  obtain⟨p,cap,rfl,_,_,hof⟩:=hv
  have S:=St.start hr
  refine S.box λb2 w1 S=>?_
  refine gG_ ?_
  refine zt (c:=inB structs n t) (λhb K2 hK2=>?_) λw5 e5=>?_
  ·have hlen:t.of.length=1:=by simpa [vP]using hb
   refine gG_ ?_
   obtain⟨b,off,c,rfl,hc,hcell,ht⟩:=vO S hof (i:=0) (by omega)
   refine gG_ ?_
   refine zp (n:=5) hc (by simpa using hcell) ?_
   refine gG_ ?_
   rw[show ((n+1:Nat):Int)-1=(n:Int)by omega]
   refine ih (by omega) S.holds ht λw6 e6=>?_
   rw[← agv]
   exact hK2 _ e6
  have S:=S.go e5
  refine gG_ ?_
  refine yL (λK2 hK2=>by refine gG_ ?_;exact hK2) ?_
  refine gG_ ?_
  intro K11 hK11
  refine gG_ ?_
  refine qu (c:=decide (t.k=2)) (hK11 _ _ λ_=>?_) λ_ hk=>?_
  rotate_left
  ·refine gG_ ?_;exact hk
  simp only[gdz]
  have hu:zE structs (n+1) t=(if t.k=1∨t.k=2 then(!t.m&&decide (t.re=0))&&decide (t.st=0)&&decide (t.of.length=0)
   else if t.k=5 then(!t.m&&decide (t.re=0))&&decide (t.of.length=0)&&decide (0≤t.st)&&decide (t.st<structs)
   else if t.k=3 then(!t.m&&decide (t.re=0))&&decide (t.st=0)&&(decide (t.of.length=1)&&inB structs n t)
   else if t.k=4 then decide (-1≤t.re)&&decide (t.st=0)&&(decide (t.of.length=1)&&inB structs n t)
   else false):=rfl
  rw[hu]at h
  refine c_b (λh12=>?_) (λh12=>?_)
  ·have h12:t.k=1∨t.k=2:=by simpa using h12
   rw[if_pos h12]at h
   refine yL (λK2 hK2=>by refine gG_ ?_;exact hK2) ?_
   refine yL (λK2 hK2=>by refine gG_ ?_;exact hK2) ?_
   rw[decide_eq_decide.2 (qB t.of.length)]
   exact h _ S.ext
  have h12:¬(t.k=1∨t.k=2):=by simpa using h12
  rw[if_neg h12]at h
  refine gG_ ?_
  refine zf (λh5=>?_) (λh5=>?_)
  ·rw[if_pos h5]at h
   refine yL (λK2 hK2=>by refine gG_ ?_;exact hK2) ?_
   refine yL (λK2 hK2=>by refine gG_ ?_;exact hK2) ?_
   refine yL (λK2 hK2=>by refine gG_ ?_;exact hK2) ?_
   rw[decide_eq_decide.2 (qB t.of.length)]
   exact h _ S.ext
  rw[if_neg h5]at h
  refine gG_ ?_
  refine zf (λh3=>?_) (λh3=>?_)
  ·rw[if_pos h3]at h
   refine yL (λK2 hK2=>by refine gG_ ?_;exact hK2) ?_
   refine yL (λK2 hK2=>hK2) ?_
   rw[decide_eq_decide.2 (vP t.of.length)]
   exact h _ S.ext
  rw[if_neg h3]at h
  refine gG_ ?_
  refine zf (λh4=>?_) (λh4=>?_)
  ·rw[if_pos h4]at h
   refine gG_ ?_
   refine yL (λK2 hK2=>by refine gG_ ?_;exact hK2) ?_
   refine yL (λK2 hK2=>hK2) ?_
   rw[decide_eq_decide.2 (vP t.of.length)]
   exact h _ S.ext
  rw[if_neg h4]at h
  exact h _ S.ext
theorem xS(structs:Int)(n:Nat)(t:TyD):zE structs (n+1) t=(if t.k=1∨t.k=2 then(!t.m&&decide (t.re=0))&&decide (t.st=0)&&decide (t.of.length=0)
   else if t.k=5 then(!t.m&&decide (t.re=0))&&decide (t.of.length=0)&&decide (0≤t.st)&&decide (t.st<structs)
   else if t.k=3 then(!t.m&&decide (t.re=0))&&decide (t.st=0)&&(decide (t.of.length=1)&&inB structs n t)
   else if t.k=4 then decide (-1≤t.re)&&decide (t.st=0)&&(decide (t.of.length=1)&&inB structs n t)
   else false):=rfl
theorem XH:∀(n:Nat){t:TyD}{w:World}{r:Gh}{v:Value}{structs:Int}{K:Value→World→Prop},n≤1000→Holds r w→TyG r v t→
  (∀w',Ext w w'→K (.bool (zE structs n t)) w')→zd Tryz.prog Tryz.kh #[v,.int .i64 structs,.int .i64 (n:Int)] w K:=by
 intro n
 induction n with
 |zero=>
  intro t w r v structs K _ hr hv h
  refine Tryz.Vl ?_
  unfold Tryz.XF
  have S:=St.start hr
  refine S.box λb2 w1 S=>?_
  refine gG_ ?_
  exact h _ S.ext
 |succ n ih=>
  intro t w r v structs K hn hr hv h
  refine Tryz.Vl ?_
  unfold Tryz.XF
  obtain⟨p,cap,rfl,_,_,hof⟩:=hv
  have S:=St.start hr
  refine S.box λb2 w1 S=>?_
  refine gG_ ?_
  intro K11 hK11
  refine gG_ ?_
  refine qu (c:=decide (t.k=2)) (hK11 _ _ λ_=>?_) λ_ hk=>?_
  rotate_left
  ·refine gG_ ?_;exact hk
  simp only[gdz]
  rw[xS]at h
  refine c_b (λh12=>?_) (λh12=>?_)
  ·have h12:t.k=1∨t.k=2:=by simpa using h12
   rw[if_pos h12]at h
   refine gG_ ?_
   refine yL (λK2 hK2=>by refine gG_ ?_;exact hK2) ?_
   refine yL (λK2 hK2=>by refine gG_ ?_;exact hK2) ?_
   refine yL (λK2 hK2=>by refine gG_ ?_;exact hK2) ?_
   rw[decide_eq_decide.2 (qB t.of.length)]
   exact h _ S.ext
  have h12:¬(t.k=1∨t.k=2):=by simpa using h12
  rw[if_neg h12]at h
  refine gG_ ?_
  refine zf (λh5=>?_) (λh5=>?_)
  ·rw[if_pos h5]at h
   refine gG_ ?_
   refine yL (λK2 hK2=>by refine gG_ ?_;exact hK2) ?_
   refine yL (λK2 hK2=>by refine gG_ ?_;exact hK2) ?_
   refine yL (λK2 hK2=>by refine gG_ ?_;exact hK2) ?_
   refine yL (λK2 hK2=>by refine gG_ ?_;exact hK2) ?_
   rw[decide_eq_decide.2 (qB t.of.length)]
   have:=h _ S.ext
   simpa only[Bool.and_comm,Bool.and_left_comm,Bool.and_assoc]using this
  rw[if_neg h5]at h
  refine gG_ ?_
  refine zf (λh3=>?_) (λh3=>?_)
  ·rw[if_pos h3]at h
   refine gG_ ?_
   refine yL (λK2 hK2=>by refine gG_ ?_;exact hK2) ?_
   refine yL (λK2 hK2=>by refine gG_ ?_;exact hK2) ?_
   refine yL (λK2 hK2=>by refine gG_ ?_;exact hK2) ?_
   refine zt (c:=inB structs n t) (λhb K2 hK2=>?_) λw5 e5=>?_
   ·have hlen:t.of.length=1:=by simp only[gba,gdt]at hb;omega
    refine gG_ ?_
    obtain⟨b,off,c,rfl,hc,hcell,ht⟩:=vO S hof (i:=0) (by omega)
    refine gG_ ?_
    refine zp (n:=5) hc (by simpa using hcell) ?_
    refine gG_ ?_
    rw[show ((n+1:Nat):Int)-1=(n:Int)by omega]
    refine ih (by omega) S.holds ht λw6 e6=>?_
    rw[← agv]
    exact hK2 _ e6
   have S:=S.go e5
   rw[decide_eq_decide.2 (vP t.of.length)]
   have:=h _ S.ext
   simpa only[Bool.and_assoc]using this
  rw[if_neg h3]at h
  refine gG_ ?_
  refine zf (λh4=>?_) (λh4=>?_)
  ·rw[if_pos h4]at h
   refine gG_ ?_
   refine yL (λK2 hK2=>by refine gG_ ?_;exact hK2) ?_
   refine yL (λK2 hK2=>by refine gG_ ?_;exact hK2) ?_
   refine zt (c:=inB structs n t) (λhb K2 hK2=>?_) λw5 e5=>?_
   ·have hlen:t.of.length=1:=by simp only[gba,gdt]at hb;omega
    refine gG_ ?_
    obtain⟨b,off,c,rfl,hc,hcell,ht⟩:=vO S hof (i:=0) (by omega)
    refine gG_ ?_
    refine zp (n:=5) hc (by simpa using hcell) ?_
    refine gG_ ?_
    rw[show ((n+1:Nat):Int)-1=(n:Int)by omega]
    refine ih (by omega) S.holds ht λw6 e6=>?_
    rw[← agv]
    exact hK2 _ e6
   have S:=S.go e5
   rw[decide_eq_decide.2 (vP t.of.length)]
   have:=h _ S.ext
   simpa only[Bool.and_assoc]using this
  rw[if_neg h4]at h
  exact h _ S.ext
def isB(t:TyD):Bool:=zE 32 48 t
theorem Yh{v:Value}(hr:Holds r w)(hv:TyG r v t)(h:∀w',Ext w w'→K (.bool (isB t)) w'):zd Tryz.prog Tryz.qT #[v] w K:=by
 refine Tryz.agq ?_
 unfold Tryz.abr
 have hv0:=hv
 obtain⟨p,cap,rfl,_⟩:=hv
 have S:=St.start hr
 refine S.box λb2 w1 S=>?_
 refine gG_ ?_
 exact XG 48 (by decide) S.holds hv0 λw2 e2=>h _ (S.go e2).ext
theorem ac0{v:Value}(hr:Holds r w)(hv:TyG r v t)(h:∀w',Ext w w'→K (.bool (isB t)) w'):zd Tryz.prog Tryz.Y9 #[v] w K:=by
 refine Tryz.ahw ?_
 unfold Tryz.acX
 have hv0:=hv
 obtain⟨p,cap,rfl,_⟩:=hv
 have S:=St.start hr
 refine S.box λb2 w1 S=>?_
 refine gG_ ?_
 exact XH 48 (by decide) S.holds hv0 λw2 e2=>h _ (S.go e2).ext
theorem yz{s:Int}(h:zE s (n+1) t=true):(t.of=[]∧(t.k=1∨t.k=2∨t.k=5))∨∃u,t.of=[u]∧zE s n u=true∧(t.k=3∨t.k=4):=by
 rw[xS]at h
 have one:∀{b:Bool},(b&&(decide (t.of.length=1)&&inB s n t))=true→∃u,t.of=[u]∧zE s n u=true:=by
  intro b hb
  simp only[gba,gdt]at hb
  obtain⟨_,hl,hi⟩:=hb
  cases t with
  |mk k m re st of=>
   cases of with
   |nil=>cases hl
   |cons u l=>
    cases l with
    |nil=>exact ⟨u,rfl,hi⟩
    |cons x l=>cases hl
 split at h
 ·rename_i hk
  simp only[gba,gdt]at h
  exact .inl ⟨List.eq_nil_of_length_eq_zero h.2,hk.elim .inl λh=>.inr (.inl h)⟩
 split at h
 ·rename_i hk
  simp only[gba,gdt]at h
  exact .inl ⟨List.eq_nil_of_length_eq_zero h.1.1.2,.inr (.inr hk)⟩
 split at h
 ·rename_i hk
  obtain⟨u,h1,h2⟩:=one h
  exact .inr ⟨u,h1,h2,.inl hk⟩
 split at h
 ·rename_i hk
  obtain⟨u,h1,h2⟩:=one h
  exact .inr ⟨u,h1,h2,.inr hk⟩
 ·cases h
def kH(f:Int→Int→Bool):Nat→TyD→TyD→Bool
 |0,_,_=>false
 |n+1,a,b=>!(decide (a.k≠b.k) || !(a.m == b.m)||decide (a.st≠b.st) || !f a.re b.re)&&(decide (a.of.length=0)||(match a.of,b.of with|u::_,x::_=>kH f n u x|_,_=>false))
theorem ac1{f:Int→Int→Bool}(h:a.of=[]):kH f (n+1) a b = !(decide (a.k≠b.k) || !(a.m == b.m)||decide (a.st≠b.st) || !f a.re b.re):=by
 rw[kH,h];simp
theorem ac2{f:Int→Int→Bool}{u x:TyD}(h:a.of=[u])(h2:b.of=[x]):kH f (n+1) a b=(!(decide (a.k≠b.k) || !(a.m == b.m)||decide (a.st≠b.st) || !f a.re b.re)&&kH f n u x):=by
 rw[kH,h,h2];simp
theorem VY{f:Int→Int→Bool}(h:(decide (a.k≠b.k) || !(a.m == b.m)||decide (a.st≠b.st) || !f a.re b.re)=true):kH f (n+1) a b=false:=by
 rw[kH,h];simp
theorem afl{f:Int→Int→Bool}{fv:Value}(hf:∀(x y:Int)(w:World)(K:Value→World→Prop),K (.bool (f x y)) w→zF Tryz.prog fv #[.int .i64 x,.int .i64 y] w K){s:Int}:
  ∀(n:Nat){a b:TyD}{w:World}{r:Gh}{va vb:Value}{K:Value→World→Prop},Holds r w→TyG r va a→TyG r vb b→zE s n a=true→zE s n b=true→
  (∀w',Ext w w'→K (.bool (kH f n a b)) w')→zd Tryz.prog Tryz.j7 #[va,vb,fv] w K:=by
 intro n
 induction n with
 |zero=>intro a b w r va vb K _ _ _ h;cases h
 |succ n ih=>
  intro a b w r va vb K hr hva hvb ha hb h
  refine Tryz.ad6 ?_
  unfold Tryz.Vk
  obtain⟨p,cap,rfl,_,_,hofa⟩:=hva
  obtain⟨q,cap',rfl,_,_,hofb⟩:=hvb
  have S:=St.start hr
  refine S.box λb3 w1 S=>?_
  refine S.box λb4 w2 S=>?_
  refine gG_ ?_
  refine af2 (λK2 hK2=>by refine gG_ ?_;exact hK2) ?_
  refine af2 (λK2 hK2=>by refine gG_ ?_;exact hK2) ?_
  refine af2 (c:=!f a.re b.re) (λK2 hK2=>?_) ?_
  ·refine gG_ ?_
   refine hf _ _ _ _ ?_
   refine gG_ ?_
   exact hK2
  refine c_b (λhne=>?_) (λheq=>?_)
  ·rw[VY hne]at h
   exact h _ S.ext
  have S:=S.go (Ext.drew _)
  refine gG_ ?_
  have hk:a.k=b.k:=by
   simp only[Bool.or_eq_false_iff,decide_eq_false_iff_not,Classical.not_not]at heq
   exact heq.1.1.1
  rcases yz ha with⟨hof,hka⟩|⟨u,hof,hu,hka⟩
  ·rw[ac1 hof,heq]at h
   refine al5 (λ_=>?_) (λhn=>absurd (by rw[hof];rfl) hn)
   exact h _ S.ext
  ·rcases yz hb with⟨_,hkb⟩|⟨x,hofx,hx,hkb⟩
   ·exfalso;omega
   rw[ac2 hof hofx,heq]at h
   have hla:0<a.of.length:=by rw[hof];exact Nat.one_pos
   have hlb:0<b.of.length:=by rw[hofx];exact Nat.one_pos
   refine al5 (λhn=>by omega) (λ_=>?_)
   intro K2 hK2
   obtain⟨ba,oa,ca,rfl,hca,hcella,hta⟩:=vO S hofa hla
   obtain⟨bb,ob,cb,rfl,hcb,hcellb,htb⟩:=vO S hofb hlb
   have hau:a.of[0]=u:=by simp[hof]
   have hbx:b.of[0]=x:=by simp[hofx]
   rw[hau]at hta;rw[hbx]at htb
   refine gG_ ?_
   refine zp (n:=5) hca (by simpa using hcella) ?_
   refine gG_ ?_
   refine zp (n:=5) hcb (by simpa using hcellb) ?_
   refine gG_ ?_
   refine ih S.holds hta htb hu hx λw5 e5=>?_
   refine hK2 _ _ ?_
   simpa using h _ (S.go e5).ext
def zY(f:Int→Int→Bool)(a b:TyD):Bool:=(isB a&&isB b)&&kH f 48 a b
def yr(_ _:Int):Bool:=true
theorem als(x y:Int)(w:World)(K:Value→World→Prop)(hk:K (.bool (yr x y)) w):zF Tryz.prog (.func (.func Tryz.X6) #[] #[]) #[.int .i64 x,.int .i64 y] w K:=by
 refine kD (by kernel_rfl) ?_
 refine Tryz.ab4 (t0:=.int .i64 x) (t1:=.int .i64 y) ?_
 unfold Tryz.Qc
 exact hk
theorem qM{va vb:Value}{K:Value→World→Prop}(hr:Holds r w)(ha:TyG r va a)(hb:TyG r vb b)
  (h:∀w',Ext w w'→K (.bool (zY yr a b)) w'):zd Tryz.prog Tryz.xN #[va,vb] w K:=by
 refine Tryz.ad4 ?_
 unfold Tryz.Vi
 have ha0:=ha;have hb0:=hb
 obtain⟨p,cap,rfl,_⟩:=ha
 obtain⟨q,cap',rfl,_⟩:=hb
 have S:=St.start hr
 refine S.box λb2 w1 S=>?_
 refine S.box λb3 w2 S=>?_
 refine gG_ ?_
 refine Yh S.holds ha0 λw3 e3=>?_
 have S:=S.go e3
 refine zt (c:=isB b) (λ_ K2 hK2=>?_) λw4 e4=>?_
 ·refine gG_ ?_
  exact Yh S.holds hb0 λw4 e4=>hK2 _ e4
 have S:=S.go e4
 refine zt (c:=kH yr 48 a b) (λhab K2 hK2=>?_) λw5 e5=>h _ (S.go e5).ext
 simp only[gba]at hab
 refine gG_ ?_
 refine afl (f:=yr) (s:=32) als 48 S.holds ha0 hb0 hab.1 hab.2 λw5 e5=>?_
 exact hK2 _ e5
end
namespace TyD
mutual
def chain:TyD→List TyD
 |mk k m re st of=>mk k m re st of::chains of
def chains:List TyD→List TyD
 |[]=>[]
 |t::_=>chain t
end
theorem chain_eq:∀t:TyD,t.chain=t::chains t.of
 |mk _ _ _ _ _=>rfl
def regsL(l:List TyD):List Int:=(l.filter λu=>decide (u.k=4)).map re
def regs(t:TyD):List Int:=regsL t.chain
theorem regs_eq(t:TyD):t.regs=(if t.k=4 then [t.re]else [])++regsL (chains t.of):=by
 rw[regs,chain_eq,regsL,List.filter_cons]
 by_cases h:t.k=4
 ·simp only[h,decide_true,if_true];rfl
 ·simp only[h,decide_false,if_false];rfl
theorem chains_eq{l:List TyD}(h:0<l.length):chains l=chain l[0]:=by
 cases l with
 |nil=>cases h
 |cons t l=>rfl
end TyD
def ints(l:List Int):List Value:=l.map (.int .i64)
theorem ajl(l:List Int):∀u∈ints l,u.oneCell'=true:=by
 intro u hu
 obtain⟨i,_,rfl⟩:=List.mem_map.1 hu;rfl
theorem kN(l:List Int):(ints l).length=l.length:=List.length_map ..
def NdG(r:Gh)(b off:Nat)(t:TyD):Prop:=∃c:List Value,c.length=5∧(∀j v,c[j]? = some v→Ob r λw=>w.cell? ⟨b,off+j,none⟩=some v)∧TyG r (.agg c.toArray) t
theorem NdG.of{r:Gh}{p:Option Addr}{of:List TyD}(h:RepS r 5 p 0 (TyD.dats of)){i:Nat}(hi:i<of.length):∃b off,p=some ⟨b,off,none⟩∧NdG r b (off+i*5) of[i]:=by
 rw[TyD.dats_map]at h
 obtain⟨c,h1,h2,h3⟩:=h.get (i:=i) (gqg (by simpa using hi))
 obtain⟨b,off,rfl,_⟩:=h2 0 c[0] (gqg (by omega))
 rw[List.getElem_map]at h3
 refine⟨b,off,rfl,c,h1,λj v hj=>?_,TyG.of_rep h3⟩
 obtain⟨b',off',hp,ho⟩:=h2 j v hj
 cases hp
 rwa[Nat.zero_add]at ho
theorem aa6{X:Nat→Prop}{w0 w:World}{r q:Gh}{L:List Asr}{bl b off:Nat}{v:Value}{n:Nat}{xs:List Value}{t:TyD}{K:Value→World→Prop}
  (S:StX X w0 r w (.cell bl [v] 26::.row v 3 1 n xs::L)) (hn:NdG q b off t) [Le q r] (hl:n<1000000000)
  (h:∀v' w',StX X w0 r w' (.cell bl [v'] 26::.row v' 3 1 (n+1) (xs++[.int .i64 t.re])::L)→K (.tuple #[]) w'):
  zd Tryz.prog Tryz.jP #[.pointer (some ⟨b,off,none⟩),.pointer (some ⟨bl,0,none⟩)] w K:=by
 refine Tryz.VT ?_
 unfold Tryz.YY
 obtain⟨c,hc,hcell,p,cap,hv,_,_,hof⟩:=hn
 cases hv
 have S:=S.go (Ext.drew _)
 refine gG_ ?_
 refine zg (S.at (hcell 2 _ rfl)) ?_
 refine S.litU (e:=3) (cs:=[.int .i64 t.re]) (by kernel_rfl) λb3 w3 S=>?_
 refine S.ap (Sl.blk (S.blk b3)) (λv4 w4 S=>?_) (by omega)
 refine S.st (h1:=S.row1 v4) λw5 S=>?_
 exact h _ _ S.tl
theorem aa7:∀(k:Nat){t:TyD}{X:Nat→Prop}{w0 w:World}{r q:Gh}{L:List Asr}{bl b off:Nat}{v:Value}{n:Nat}{xs:List Value}{K:Value→World→Prop}[Le q r],t.ht≤k→
  StX X w0 r w (.cell bl [v] 26::.row v 3 1 n xs::L)→NdG q b off t→n+k<1000000000→
  (∀v' w',StX X w0 r w' (.cell bl [v'] 26::.row v' 3 1 (n+t.regs.length) (xs++ints t.regs)::L)→K (.tuple #[]) w')→
  zd Tryz.prog Tryz.Zc #[.pointer (some ⟨b,off,none⟩),.func (.func Tryz.jP) #[] #[.pointer (some ⟨bl,0,none⟩)]] w K:=by
 intro k
 induction k with
 |zero=>intro t X w0 w r q L bl b off v n xs K _ ht;exfalso;cases t with|mk k m re st of=>exact absurd ht (Nat.not_succ_le_zero _)
 |succ k ih=>
  intro t X w0 w r q L bl b off v n xs K _ ht S hn hk h
  refine Tryz.afk ?_
  unfold Tryz.VS
  have hn0:=hn
  obtain⟨c,hc,hcell,p,cap,hv,_,_,hof⟩:=hn
  cases hv
  refine zn (λ_ w'=>∃v',StX X w0 r w' (.cell bl [v'] 26::.row v' 3 1 (n+(if t.k=4 then 1 else 0)) (xs++(if t.k=4 then [.int .i64 t.re]else []))::L)) (λK2 hK2=>?_) ?_
  ·refine gG_ ?_
   refine zg (S.at (hcell 0 _ rfl)) ?_
   refine gG_ ?_
   refine zf (λh4=>?_) (λh4=>hK2 _ _ ⟨v,by simpa [h4]using S⟩)
   refine kD (by kernel_rfl) ?_
   show zd _ _ #[_,_] _ _
   refine aa6 S hn0 (by omega) λv' w' S=>hK2 _ _ ⟨v',by simpa [h4]using S⟩
  ·rintro s w' ⟨v',S⟩ d
   refine gG_ ?_
   refine zg (S.at (hcell 4 _ rfl)) ?_
   refine gG_ ?_
   refine zf (λhlen=>?_) (λhlen=>?_)
   ·have hlen:0<t.of.length:=by omega
    obtain⟨b2,off2,rfl,hn2⟩:=NdG.of hof hlen
    refine gG_ ?_
    refine zg (S.at (hcell 4 _ rfl)) ?_
    refine gG_ ?_
    have hh:=TyD.ht_of (gem hlen)
    refine ih (t:=t.of[0]) (by omega) S hn2 (by split<;>omega) λv3 w3 S=>h v3 w3 ?_
    have h1:t.regs=(if t.k=4 then [t.re]else [])++t.of[0].regs:=by rw[TyD.regs_eq,TyD.chains_eq hlen];rfl
    rw[h1]
    have e1:n+(if t.k=4 then 1 else 0)+t.of[0].regs.length=n+((if t.k=4 then [t.re]else [])++t.of[0].regs).length:=by split<;>simp<;>omega
    have e2:xs++(if t.k=4 then [.int .i64 t.re]else [])++ints t.of[0].regs=xs++ints ((if t.k=4 then [t.re]else [])++t.of[0].regs):=by split<;>simp [ints]
    rwa[e1,e2]at S
   ·have hz:t.of=[]:=List.eq_nil_of_length_eq_zero (by omega)
    have h1:t.regs=(if t.k=4 then [t.re]else []):=by rw[TyD.regs_eq,hz];simp[TyD.chains,TyD.regsL]
    refine h v' _ ?_
    rw[h1]
    have e1:(if t.k=4 then [t.re]else []).length=(if t.k=4 then 1 else 0):=by split<;>rfl
    have e2:ints (if t.k=4 then [t.re]else [])=(if t.k=4 then [.int .i64 t.re]else []):=by split<;>rfl
    rwa[e1,e2]
section
variable {t:TyD} {r:Gh} {v:Value} {w:World} {K:Value→World→Prop} {c:List Value}
theorem akt{b:Nat}{T:TypeId}(h:TyG r v t):NdG (r.or (Go.Sh.one b v.cells.toList T)) b 0 t:=by
 obtain⟨c,rfl,hc,hr⟩:=h.rep
 refine⟨c,hc,λj x hj w hw=>?_,(TyG.of_rep hr).up⟩
 have B:=yH (b:=b) (c:=(Value.agg c.toArray).cells.toList) (T:=T) w (hw.le (h:=inferInstance))
 show w.cell? ⟨b,0+j,none⟩=some x
 rw[Nat.zero_add,B.cell]
 exact hj
theorem aeQ:∀(n:Nat){t:TyD},t.ht≤n→t.chain.length≤n:=by
 intro n
 induction n with
 |zero=>intro t h;cases t with|mk k m re st of=>exact absurd h (Nat.not_succ_le_zero _)
 |succ n ih=>
  intro t h
  rw[TyD.chain_eq,List.length_cons]
  cases hof:t.of with
  |nil=>exact Nat.succ_le_succ (gzl _)
  |cons u l=>
   have :u.ht<t.ht:=TyD.ht_of (by rw[hof];exact List.mem_cons_self ..)
   exact Nat.succ_le_succ (ih (t:=u) (by omega))
theorem aku(t:TyD):t.regs.length≤t.ht:=by
 rw[TyD.regs,TyD.regsL,List.length_map]
 exact Nat.le_trans (List.length_filter_le _ _) (aeQ _ (Nat.le_refl _))
theorem aaU:∀{n:Nat}{s:Int}{t:TyD},zE s n t=true→t.ht≤n
 |0,_,_,h=>by cases h
 |n+1,s,t,h=>by
  cases t with
  |mk k m re st of=>
   rcases yz h with⟨hof,_⟩|⟨u,hof,hu,_⟩
   ·cases hof;exact Nat.succ_le_succ (gzl _)
   ·cases hof
    refine Nat.succ_le_succ ?_
    show max u.ht 0≤n
    rw[Nat.max_zero];exact aaU hu
theorem ajm(h:isB t=true):t.ht≤48:=aaU h
theorem aeR{s:Int}{n:Nat}(h:zE s (n+1) t=true):(t.k≠4∧t.k≠3∧t.of=[]∧t.regs=[])∨∃u,t.of=[u]∧zE s n u=true∧(t.k=3∨t.k=4)∧t.regs=(if t.k=4 then [t.re]else [])++u.regs:=by
 rcases yz h with⟨hof,hk⟩|⟨u,hof,hu,hk⟩
 ·have h4:t.k≠4:=by omega
  refine .inl ⟨h4,by omega,hof,?_⟩
  rw[TyD.regs_eq,hof,if_neg h4];rfl
 ·refine .inr ⟨u,hof,hu,hk,?_⟩
  rw[TyD.regs_eq,hof];rfl
theorem Qh{K:Value→World→Prop}(hr:Holds r w)(hv:TyG r v t)(ht:t.ht≤1000000)
  (h:∀v' w',Ext w w'→w'.ownsRow w.heap.size 3 1 v' t.regs.length (ints t.regs)→K v' w'):zd Tryz.prog Tryz.jf #[v] w K:=by
 refine Tryz.ab1 ?_
 unfold Tryz.X9
 have S:=St.start hr
 refine S.box λb1 w1 S=>?_
 have S:=S.frz
 refine S.al λb3 w3 S=>?_
 refine gG_ ?_
 have S:=(S.ownNil 3 1).swap
 refine aa7 t.ht (Nat.le_refl _) S (akt (T:=112) hv) (by omega) λv' w' S=>?_
 refine S.ld ?_
 rw[Nat.zero_add,List.nil_append]at S
 exact h v' w' S.ext (S.give v')
def regsT(t:TyD):List Int:=if isB t then t.regs else []
theorem Qi{K:Value→World→Prop}(hr:Holds r w)(hv:TyG r v t)
  (h:∀v' w',Ext w w'→w'.ownsRow w.heap.size 3 1 v' (regsT t).length (ints (regsT t))→K v' w'):zd Tryz.prog Tryz.je #[v] w K:=by
 refine Tryz.ab0 ?_
 unfold Tryz.X8
 have hv0:=hv
 obtain⟨p,cap,rfl,_⟩:=hv
 have S:=St.start hr
 refine S.box λb1 w1 S=>?_
 refine gG_ ?_
 refine Yh S.holds hv0 λw2 e2=>?_
 have S:=S.go e2
 refine gG_ ?_
 refine c_b (λhn=>?_) (λhb=>?_)
 ·have hb:isB t=false:=by simpa using hn
  refine h _ _ S.ext ?_
  rw[regsT,hb]
  exact World.ownsRow_nil _ _ _ _
 have hb:isB t=true:=by simpa using hb
 refine gG_ ?_
 have e02:=S.ext
 refine Qh S.holds hv0 (by have:=ajm hb;omega) λv3 w3 e3 ho=>?_
 have S:=S.take e3 ho
 refine h _ _ S.ext ?_
 rw[regsT,hb]
 exact S.give v3
theorem Qj{K:Value→World→Prop}(hr:Holds r w)(hv:TyG r v t)
  (h:∀v' w',Ext w w'→w'.ownsRow w.heap.size 3 1 v' (regsT t).length (ints (regsT t))→K v' w'):zd Tryz.prog Tryz.jg #[v] w K:=by
 refine Tryz.ab6 ?_
 unfold Tryz.Qe
 have hv0:=hv
 obtain⟨p,cap,rfl,_⟩:=hv
 have S:=St.start hr
 refine S.box λb1 w1 S=>?_
 refine gG_ ?_
 refine ac0 S.holds hv0 λw2 e2=>?_
 have S:=S.go e2
 refine gG_ ?_
 refine c_b (λhn=>?_) (λhb=>?_)
 ·have hb:isB t=false:=by simpa using hn
  refine h _ _ S.ext ?_
  rw[regsT,hb]
  exact World.ownsRow_nil _ _ _ _
 have hb:isB t=true:=by simpa using hb
 have hreg:regsT t=t.regs:=by rw[regsT,hb];rfl
 rw[hreg]at h
 have hlen:=Nat.le_trans (aku t) (ajm hb)
 obtain⟨c1,hc1,hc15,hrep⟩:=hv0.rep
 rw[show (Value.agg #[.int .u8 t.k,.bool t.m,.int .i64 t.re,.int .i64 t.st,.slice p t.of.length cap]).cells.toList=c1 by rw[hc1];rfl]at S
 refine zh (ι:=TyD×Value×List Int×List Value×Nat) (λi=>[i.2.1])
  (λi w'=>zE 32 i.2.2.2.2 i.1=true∧t.regs=i.2.2.1++i.1.regs∧i.2.2.2.1.length=5∧TyG r (.agg i.2.2.2.1.toArray) i.1∧St w r w' [.row i.2.1 3 1 i.2.2.1.length (ints i.2.2.1),.cell b1 i.2.2.2.1 112])
  (λi=>i.2.2.2.2) (t,.slice none 0 0,[],c1,48) rfl ⟨hb,rfl,hc15,hc1▸hv0,S.ownNil 3 1⟩ ?_
 clear S
 rintro⟨u,v4,ds,c,n⟩ d w4 ⟨hu,hds,hc,hty,S⟩ K6 hK6
 simp only at hu hds hc hty S⊢
 obtain⟨n,rfl⟩:∃m,n=m+1:=by cases n with|zero=>cases hu|succ n=>exact ⟨n,rfl⟩
 obtain⟨p,cap,hcv,_,_,hof⟩:=hty
 have hcv:c=[.int .u8 u.k,.bool u.m,.int .i64 u.re,.int .i64 u.st,.slice p u.of.length cap]:=by
  have:=Value.agg.inj hcv;exact List.toArray_inj this
 subst hcv
 refine gG_ ?_
 refine af2 (λK2 hK2=>by refine gG_ ?_;exact hK2) ?_
 refine c_b (λhk=>?_) (λhk=>?_)
 ·rcases aeR hu with⟨h4,h3,_⟩|⟨x,hofx,hx,hk34,hrg⟩
  ·exfalso;simp[h4,h3]at hk
  rw[hrg,← List.append_assoc]at hds
  have hl:0<u.of.length:=by rw[hofx];exact Nat.one_pos
  have hux:u.of[0]=x:=by simp[hofx]
  refine zn (λs w'=>∃v',s=[v']∧St w r w' [.row v' 3 1 (ds++(if u.k=4 then [u.re]else [])).length (ints (ds++(if u.k=4 then [u.re]else []))),.cell b1 [.int .u8 u.k,.bool u.m,.int .i64 u.re,.int .i64 u.st,.slice p u.of.length cap] 112]) (λK2 hK2=>?_) ?_
  ·refine gG_ ?_
   refine zf (λh4=>?_) (λh4=>hK2 _ _ ⟨v4,rfl,by simpa [h4]using S⟩)
   have hlen2:ds.length≤48:=by
    have:=congrArg List.length hds
    simp only[gla]at this
    omega
   refine gG_ ?_
   refine S.lit (e:=3) (cs:=[.int .i64 u.re]) (by kernel_rfl) λb3 w3 S=>?_
   refine S.ap (Sl.blk (S.blk b3)) (λv5 w5 S=>?_) (by omega)
   refine hK2 _ _ ⟨v5,rfl,?_⟩
   simpa [h4,ints]using S.tl
  ·rintro s w7 ⟨v5,rfl,S⟩ d7
   refine gG_ ?_
   obtain⟨ba,oa,ca,rfl,hca,hcella,hta⟩:=vO S hof hl
   rw[hux]at hta
   refine gG_ ?_
   refine zp (n:=5) hca (by simpa using hcella) ?_
   have h1:∀y∈ca.toArray.toList,y.oneCell'=true:=by
    obtain⟨p9,cap9,hv9,_⟩:=hta
    rw[Value.agg.inj hv9];simp[Value.oneCell']
   refine S.stB (hc:=by simpa using hca) (h1:=h1) λw8 S=>?_
   exact hK6 (x,v5,ds++(if u.k=4 then [u.re]else []),ca,n) _ ⟨hx,hds,hca,hta,S⟩ (Nat.lt_succ_self _)
 ·rcases aeR hu with⟨h4,h3,hofx,hrg⟩|⟨x,hofx,hx,hk34,hrg⟩
  ·rw[hrg,List.append_nil]at hds
   refine h _ _ S.ext ?_
   rw[hds]
   exact S.give v4
  ·exfalso;rcases hk34 with h|h<;>simp [h]at hk
theorem abw(a b:List Int):ints (a++b)=ints a++ints b:=List.map_append ..
theorem XI(h:TyG r (.agg c.toArray) t):∃p cap,c=[.int .u8 t.k,.bool t.m,.int .i64 t.re,.int .i64 t.st,.slice p t.of.length cap]∧RepS r 5 p 0 (TyD.dats t.of):=by
 obtain⟨p,cap,hv,_,_,hof⟩:=h
 exact⟨p,cap,List.toArray_inj (Value.agg.inj hv),hof⟩
theorem ahX(h:TyG r (.agg c.toArray) t):∀y∈c.toArray.toList,y.oneCell'=true:=by
 obtain⟨p,cap,rfl,_⟩:=XI h
 simp[Value.oneCell']
def kz(t:TyD):Bool:=isB t&&((decide (t.k=1)||decide (t.k=2))||(decide (t.k=4) && !t.m))
theorem Je{K:Value→World→Prop}(hr:Holds r w)(hv:TyG r v t)
  (h:∀w',Ext w w'→K (.bool (kz t)) w'):zd Tryz.prog Tryz.jA #[v] w K:=by
 refine Tryz.acW ?_
 unfold Tryz.Q8
 have hv0:=hv
 obtain⟨p,cap,rfl,_⟩:=hv
 have S:=St.start hr
 refine S.box λb1 w1 S=>?_
 refine gG_ ?_
 refine Yh S.holds hv0 λw2 e2=>?_
 have S:=S.go e2
 refine gG_ ?_
 refine c_b (λhn=>?_) (λhb=>?_)
 ·have hb:isB t=false:=by simpa using hn
  rw[kz,hb]at h;exact h _ S.ext
 have hb:isB t=true:=by simpa using hb
 rw[kz,hb,Bool.true_and]at h
 refine gG_ ?_
 intro K11 hK11
 refine gG_ ?_
 refine qu (c:=decide (t.k=2)) (hK11 _ _ λ_=>?_) λ_ hk=>?_
 rotate_left
 ·refine gG_ ?_;exact hk
 simp only[gdz]
 refine c_b (λh12=>?_) (λh12=>?_)
 ·rw[h12,Bool.true_or]at h;exact h _ S.ext
 rw[h12,Bool.false_or]at h
 refine gG_ ?_
 refine zf (λh4=>?_) (λh4=>?_)
 ·rw[show decide (t.k=4)=true from gde h4,Bool.true_and]at h
  refine gG_ ?_
  exact h _ S.ext
 ·rw[show decide (t.k=4)=false from decide_eq_false h4,Bool.false_and]at h
  exact h _ S.ext
end
end Go.Proofs
namespace Go.Sh
open Go.RowKit
section
section
variable {P:Program} {t s:TypeId} {c:Bool} {k:IntKind} {m a b:Int}
theorem al9{K:Value→Prop}{i:IntKind}{n:Int}(e:Nat)(he:n=e)(hb:e≤k.bits)(z:K (.int k (a/2 ^ e))):opP P (yR .shr t c (.int k a) (.int i n)) K:=
 yS (λw=>by
  have h1:¬n<0:=by omega
  have h2:n.toNat=e:=by omega
  have h3:Int.fdiv a (2 ^ (min n.toNat k.bits))=a/2 ^ e:=by
   rw[h2,Nat.min_eq_left hb,Int.fdiv_eq_ediv_of_nonneg _ (Int.pow_nonneg (by decide))]
  rw[kK]
  simp only[binOp,Op.shift,h1,if_false,h3];rfl) z
end
theorem g_TT{A B:Prop}(a:A):gIf (.bool true) true A B:=a
theorem g_FF{A B:Prop}(a:A):gIf (.bool false) false A B:=a
theorem g_TF{A B:Prop}(b:B):gIf (.bool true) false A B:=b
theorem g_FT{A B:Prop}(b:B):gIf (.bool false) true A B:=b
section
variable {w:World} {A:(List Value→World→Prop)→Prop} {Z:Value→World→Prop} {b c:Bool}
theorem ama(R:World→Prop)(h0:b=true→R w)(hA:b=false→∀K:List Value→World→Prop,(∀w',R w'→K [.bool c] w')→A K)(hZ:∀w',R w'→Z (.bool (b||c)) w'):
  za (λK=>gIf (.bool b) false (A K) (K [u_] w)) λs _ w'=>zb (.bool b) (.bool true) (s.getD 0 u_) λt=>Z t w':=by
 intro K hK
 cases b with
 |true=>exact hK _ _ λ_=>⟨true,rfl,by simpa using hZ w (h0 rfl)⟩
 |false=>exact hA rfl K λw' e=>hK _ _ λ_=>⟨false,rfl,by simpa using hZ w' e⟩
end
theorem g_UU{want:Bool}{A B:Prop}(b:B):gIf u_ want A B:=b
section
variable {P:Program} {w:World} {t e:TypeId} {size n m:Nat} {v:Value} {xs news:List Value}
theorem Que.of_row{base:Nat}(h:w.ownsRow base e size v n xs):Que w e size v n xs:=by
 refine⟨h.1,?_⟩
 rcases vE h with⟨rfl,rfl,rfl⟩|⟨g,cap,c,rfl,hb,B,h1,h2,h3,h4⟩
 ·exact .inl ⟨rfl,rfl⟩
 ·exact .inr ⟨g,0,cap,c,rfl,B,h1,h2,by omega,by rw[List.drop_zero];exact h4⟩
theorem Que.shape(h:Que w e size v n xs):∃p cap,v=.slice p n cap∧(p=none→cap=0)∧n≤cap∧xs.length=n*size∧Sl w p xs:=by
 obtain⟨hl,⟨rfl,rfl⟩|⟨g,off,cap,c,rfl,B,h1,h2,h3,h4⟩⟩:=h
 ·have hx:xs=[]:=by simpa using hl
  subst hx
  exact⟨none,0,rfl,λ_=>rfl,Nat.le_refl _,hl,Sl.nil _ _⟩
 ·refine⟨_,cap,rfl,by simp,h1,hl,λi v hv=>⟨g,off,rfl,?_⟩⟩
  rw[B.cell]
  rw[← h4,List.getElem?_take]at hv
  split at hv
  ·rwa[List.getElem?_drop]at hv
  ·cases hv
theorem ajn{K:Value→World→Prop}{ty:TypeId}{bytes:Nat}{a:Addr}{c:Nat}
  (hT:apT P t=some (e,size,bytes)) (hown:Que w e size v n xs) (hs:Sl w (some a) news) (hl:news.length=m*size) (h1:∀u∈news,u.oneCell'=true)
  (hb:(n+m)*bytes≤140737488355328)
  (h:∀v' w',Que w' e size v' (n+m) (xs++news)→ExtBut (λk=>v.ownBlock=some k) w w'→(v'.ownBlock=v.ownBlock∨v'.ownBlock=some w.heap.size)→K v' w'):
  opW P w (Builtin.append_ #[t,t] ty #[v,.slice (some a) m c]) K:=by
 rcases hown with⟨hxl,⟨rfl,rfl⟩|⟨g,off,cap,cur,rfl,B,h2,h3,h4,h5⟩⟩
 ·have hx:xs=[]:=by simpa using hxl
  subst hx
  exact agj hT (World.ownsRow_nil w 0 e size) hs hl (by simp) h1 hb (gzl _) λv' w' h6 h7 h8 _=>h v' w' (.of_row h6) h7 h8
 unfold apT at hT
 cases hu:P.underlying t with
 |none=>rw [hu]at hT;cases hT
 |some d=>
  rw[hu]at hT
  cases d<;>first|(cases hT;done)|skip
  rename_i e'
  simp only[Option.bind_eq_some_iff]at hT
  obtain⟨i,hi,hT⟩:=hT
  cases hz:i.zero with
  |none=>rw [hz]at hT;cases hT
  |some z=>
   rw[hz]at hT
   simp only at hT
   split at hT
   ·rename_i hc
    obtain⟨hzs,hsz,hbp⟩:=hc
    simp only[Option.some.injEq,Prod.mk.injEq]at hT
    obtain⟨rfl,rfl,rfl⟩:=hT
    have hnews:∀j u,news[j]? = some u→w.cell? (a.add j)=some u:=λj u hj=>by obtain⟨b,off,hp,hc⟩:=hs j u hj;cases hp;rw[xv];exact hc
    have hlen:(xs++news).length=(n+m)*i.size:=by rw[gla,hxl,hl,Nat.add_mul]
    by_cases hroom:n+m≤cap
    ·have hmul:(n+m)*i.size≤cap*i.size:=Nat.mul_le_mul_right _ hroom
     have hfit:off+n*i.size+news.length≤cur.length:=by rw[hl];rw[Nat.add_mul]at hmul;omega
     have hf:=run_firstCells_some (P:=P) w i.size m a m c news hl hnews
     have hst:=run_storeCells_at P g (off+n*i.size) e' news 0 cur.toArray w B (by simpa using hfit) h1
     simp only[Nat.add_zero]at hst
     obtain⟨f1,f2,f3⟩:=Xn B (cur.take (off+n*i.size)++news++cur.drop (off+n*i.size+news.length))
     refine⟨_,_,by simp[Builtin.append_,run_underlying hu,sizeOf,typeInfo,hi,Builtin.lenOf,hroom,hf,Addr.add_lit,hst],h _ _ ⟨hlen,.inr ⟨g,off,cap,_,rfl,f3,hroom,h3,?_,?_⟩⟩ (f1.mono λk _ hk=>by cases hk;rfl) (.inl rfl)⟩
     ·simp only[gla,List.length_take,List.length_drop];omega
     ·rw[← hlen,List.append_assoc,List.drop_append_of_le_length (by rw[List.length_take];omega),List.drop_take,show off+n*i.size-off=n*i.size by omega,h5,← List.append_assoc,List.take_left']
      rfl
    ·have h63:n+m≤maxLen:=by
      have :(n+m)*1≤(n+m)*i.bytes:=Nat.mul_le_mul_left _ hbp
      simp only[maxLen];omega
     obtain⟨v',w',hr,ho,hg⟩:=run_append_arg_grows (P:=P) w t ty e' i z i.size i.bytes hu hi hz rfl rfl hzs hsz ⟨g,off,none⟩ n cap xs hxl (λj u hj=>by
      rw[xv,B.cell]
      rw[← h5,List.getElem?_take]at hj
      split at hj
      ·rwa[List.getElem?_drop]at hj
      ·cases hj) a m c news hl hnews (by omega) h63 hb
     refine⟨v',w',hr,h v' w' (.of_row ho) ⟨hg.os,hg.tape,hg.output,hg.size,λk hk _=>hg.block k hk (by simp)⟩ ?_⟩
     have hr2:=run_append_grow (P:=P) w t ty e' i z hu hi hz ⟨g,off,none⟩ n cap xs hxl (λj u hj=>by
      rw[xv,B.cell]
      rw[← h5,List.getElem?_take]at hj
      split at hj
      ·rwa[List.getElem?_drop]at hj
      ·cases hj) a m c news hl hnews (by omega) (by simp only[maxLen]at h63;omega) (growslice_fits (by omega) hb)
     rw[hr]at hr2
     injection hr2 with e1 e2
     rw[e1];exact .inr rfl
   ·cases hT
theorem Que.drop{g off cap i:Nat}(h:Que w e size (.slice (some ⟨g,off,none⟩) n cap) n xs)(hi:i≤n):
  Que w e size (.slice (if cap=i then some ⟨g,off,none⟩else(some (⟨g,off,none⟩:Addr)).map (·.add (i*size))) (n-i) (cap-i)) (n-i) (xs.drop (i*size)):=by
 obtain⟨hl,⟨h0,_⟩|⟨g',off',cap',c,hv,B,h1,h2,h3,h4⟩⟩:=h
 ·cases h0
 cases hv
 refine⟨by rw[List.length_drop,hl,Nat.sub_mul],.inr ?_⟩
 by_cases hc:cap=i
 ·rw[if_pos hc]
  have :n-i=0:=by omega
  refine⟨g,off,cap-i,c,rfl,B,by omega,by omega,?_,?_⟩
  ·have :(cap-i)*size=0:=by rw[show cap-i=0 by omega,Nat.zero_mul]
   omega
  ·rw[this,Nat.zero_mul,List.take_zero,eq_comm,List.drop_eq_nil_iff,hl]
   exact Nat.mul_le_mul_right _ (by omega)
 ·rw[if_neg hc]
  refine⟨g,off+i*size,cap-i,c,by simp only[Option.map_some,xv],B,by omega,by omega,?_,?_⟩
  ·have :i*size≤cap*size:=Nat.mul_le_mul_right _ (by omega)
   rw[Nat.sub_mul];omega
  ·rw[← h4,List.drop_take,List.drop_drop,Nat.sub_mul]
end
theorem aiB{P:Program}{w:World}{f:FuncId}{K:Value→World→Prop}{c0 c1:Value}(he:xr P f=true)(h:zd P f #[c0,c1] w K):zF P (.func (.func f) #[] #[c0,c1]) #[] w K:=kD he h
theorem aiC{P:Program}{w:World}{f:FuncId}{K:Value→World→Prop}{x0:Value}(he:xr P f=true)(h:zd P f #[x0] w K):zF P (.func (.func f) #[] #[]) #[x0] w K:=kD he h
theorem ac3{P:Program}{w:World}{f:FuncId}{K:Value→World→Prop}{x0 c0:Value}(he:xr P f=true)(h:zd P f #[x0,c0] w K):zF P (.func (.func f) #[] #[c0]) #[x0] w K:=kD he h
theorem af4{P:Program}{w:World}{f:FuncId}{K:Value→World→Prop}{x0 c0 c1:Value}(he:xr P f=true)(h:zd P f #[x0,c0,c1] w K):zF P (.func (.func f) #[] #[c0,c1]) #[x0] w K:=kD he h
theorem alh{P:Program}{w:World}{f:FuncId}{K:Value→World→Prop}{x0 c0 c1 c2:Value}(he:xr P f=true)(h:zd P f #[x0,c0,c1,c2] w K):zF P (.func (.func f) #[] #[c0,c1,c2]) #[x0] w K:=kD he h
theorem af5{P:Program}{w:World}{f:FuncId}{K:Value→World→Prop}{x0 x1:Value}(he:xr P f=true)(h:zd P f #[x0,x1] w K):zF P (.func (.func f) #[] #[]) #[x0,x1] w K:=kD he h
theorem aiD{P:Program}{w:World}{f:FuncId}{K:Value→World→Prop}{x0 x1 c0:Value}(he:xr P f=true)(h:zd P f #[x0,x1,c0] w K):zF P (.func (.func f) #[] #[c0]) #[x0,x1] w K:=kD he h
theorem am7{P:Program}{w:World}{f:FuncId}{K:Value→World→Prop}{x0 x1 c0 c1 c2:Value}(he:xr P f=true)(h:zd P f #[x0,x1,c0,c1,c2] w K):zF P (.func (.func f) #[] #[c0,c1,c2]) #[x0,x1] w K:=kD he h
class JM(v:Value)(L:List Asr)(e:outParam TypeId)(sz n:outParam Nat)(xs:outParam (List Value))(f:outParam (Asr→List Asr)):Prop where
 h:∃p q,L=p++.que v e sz n xs::q∧∀y,f y=p++y::q
instance {v:Value} {e:TypeId} {sz n:Nat} {xs:List Value} {L:List Asr}:JM v (.que v e sz n xs::L) e sz n xs λy=>y::L:=⟨[],L,rfl,λ_=>rfl⟩
instance (priority:=low) {v:Value} {e:TypeId} {sz n:Nat} {xs:List Value} {x:Asr} {L:List Asr} {f:Asr→List Asr} [h:JM v L e sz n xs f]:JM v (x::L) e sz n xs λy=>x::f y:=⟨by
 obtain⟨p,q,h1,h2⟩:=h.h
 exact⟨x::p,q,by rw[h1];rfl,λc'=>by rw[h2];rfl⟩⟩
section
variable {P:Program} {X:Nat→Prop} {w0 w:World} {r:Gh} {L:List Asr} {t e:TypeId} {sz n m:Nat} {v:Value} {xs news:List Value} {g:Asr→List Asr}
theorem StX.que(S:StX X w0 r w L)(v:Value)[h:JM v L e sz n xs g]:Que w e sz v n xs:=by
 obtain⟨pp,qq,h2,h3⟩:=h.h
 exact S.has (.que v e sz n xs) (by rw[h2];simp)
theorem StX.queS(S:StX X w0 r w L)(v:Value)[h:JM v L e sz n xs g]:∃p cap,v=.slice p n cap∧(p=none→cap=0)∧n≤cap∧xs.length=n*sz∧Sl w p xs:=
 (S.que v (h:=h)).shape
theorem StX.toQue(S:StX X w0 r w L)(v:Value)[h:Zb v L e sz n xs g]:StX X w0 r w (g (.que v e sz n xs)):=by
 obtain⟨pp,qq,h2,h3⟩:=h.h
 have hr:=S.has (.row v e sz n xs) (by rw[h2];simp)
 rw[h3]
 rw[h2]at S
 exact S.turn (x:=.row v e sz n xs) (y:=.que v e sz n xs) (ExtBut.refl _ _) (Que.of_row hr) λk hk=>.inl hk
theorem StX.apQ(S:StX X w0 r w L){ty:TypeId}{by' cap:Nat}{a:Addr}[h:JM v L e sz n xs g][z:ApT P t e sz by']{K:Value→World→Prop}
  (hs:Sl w (some a) news) (k:∀v' w',StX X w0 r w' (g (.que v' e sz (n+m) (xs++news)))→K v' w')
  (hb:(n+m)*by'≤140737488355328) (hl:news.length=m*sz:=by simp) (h1:∀u∈news,u.oneCell'=true:=by simp[Value.oneCell']):opW P w (Builtin.append_ #[t,t] ty #[v,.slice (some a) m cap]) K:=by
 obtain⟨pp,qq,h2,h3⟩:=h.h
 have hr:=S.has (.que v e sz n xs) (by rw[h2];simp)
 refine ajn z.h hr hs hl h1 hb λv' w' h4 h5 h6=>k v' w' ?_
 rw[h3]
 rw[h2]at S
 refine S.turn (x:=.que v e sz n xs) (y:=.que v' e sz (n+m) (xs++news)) h5 h4 λj hj=>?_
 rw[Asr.dom]at hj
 rcases h6 with h6|h6
 ·rw[h6]at hj;exact .inl hj
 ·rw[h6]at hj;cases hj;exact .inr (Nat.le_refl _)
theorem StX.loQ(S:StX X w0 r w L){e':TypeId}{kd:IntKind}{i:Int}[h:JM v L e sz n xs g][z:SlT P t e' sz]{K:Value→Prop}
  (h0:0≤i) (hi:i≤n) (hn:0<n) (k:∀v',StX X w0 r w (g (.que v' e sz (n-i.toNat) (xs.drop (i.toNat*sz))))→K v'):opP P (Instr.sliceAt t v (some (.int kd i)) none none) K:=by
 obtain⟨pp,qq,h2,h3⟩:=h.h
 have hr:=S.has (.que v e sz n xs) (by rw[h2];simp)
 have hr0:=hr
 rcases hr.2 with⟨rfl,h4⟩|⟨gb,off,cap,c,rfl,_⟩
 ·omega
 refine aeN z.h h0 hi (k _ ?_)
 rw[h3]
 rw[h2]at S
 refine S.turn (x:=.que (.slice (some ⟨gb,off,none⟩) n cap) e sz n xs) (y:=.que _ e sz _ _) (ExtBut.refl _ _) (Que.drop hr0 (by omega)) λj hj=>.inl ?_
 simp only[Asr.dom]at hj⊢
 split at hj
 ·exact hj
 ·simp only[Option.map_some,xv]at hj;exact hj
end
theorem StX.mkS{P:Program}{X:Nat→Prop}{w0 w:World}{r:Gh}{L:List Asr}{t e:TypeId}{bytes:Nat}{kl:IntKind}{n:Int}{z:Value}(S:StX X w0 r w L)[hT:ApT P t e 1 bytes][hz:ZrT P e [z]]{K:Value→World→Prop}(h0:0≤n)(hb:(bytes:Int)*n≤281474976710656)
  (h:∀b w',StX X w0 r w' (.cell b (List.replicate n.toNat z) e::L)→K (.slice (some ⟨b,0,none⟩) n.toNat n.toNat) w'):opW P w (Instr.makeSlice t (.int kl n) (.int kl n)) K:=
 aji hT.h hz.h h0 hb λb w' hb e _ B=>h b w' (S.add e (by omega) B)
class ZX(b:Nat)(L:List Asr)(c:outParam (List Value))(T:outParam TypeId)(M:outParam (List Asr)):Prop where
 h:L.Perm (.cell b c T::M)
instance {b:Nat} {c:List Value} {T:TypeId} {L:List Asr}:ZX b (.cell b c T::L) c T L:=⟨.refl _⟩
instance (priority:=low) {b:Nat} {c:List Value} {T:TypeId} {x:Asr} {L M:List Asr} [h:ZX b L c T M]:ZX b (x::L) c T (x::M):=⟨(h.h.cons x).trans (.swap _ _ _)⟩
theorem StX.permO{X:Nat→Prop}{w0 w:World}{r:Gh}{L M:List Asr}(S:StX X w0 r w L)(h:M.Perm L):StX X w0 r w M:=
 ⟨S.x,S.holds,λx hx=>S.has x (h.subset hx),λx hx=>S.mine x (h.subset hx),h.symm.pairwise S.apart λhab k hb ha=>hab k ha hb⟩
theorem StX.frzAt{X:Nat→Prop}{w0 w:World}{r:Gh}{L M:List Asr}(S:StX X w0 r w L)(b:Nat){c:List Value}{T:TypeId}[h:ZX b L c T M]:StX X w0 (r.or (Go.Sh.one b c T)) w M:=
 (S.permO h.h.symm).frz
theorem StX.drop{X:Nat→Prop}{w0 w:World}{r:Gh}{L M:List Asr}(S:StX X w0 r w L)(b:Nat){c:List Value}{T:TypeId}[h:ZX b L c T M]:StX X w0 r w M:=
 (S.permO h.h.symm).tl
end
theorem zi{w:World}{A:(List Value→World→Prop)→Prop}{Z:Value→World→Prop}{b c:Bool}(hA:b=true→∀K:List Value→World→Prop,K [.bool c] w→A K)(hZ:Z (.bool (b&&c)) w):
  za (λK=>gIf (.bool b) true (A K) (K [u_] w)) λs _ w'=>zb (.bool b) (s.getD 0 u_) (.bool false) λt=>Z t w':=by
 intro K hK
 cases b with
 |true=>exact hA rfl K (hK _ _ λ_=>⟨true,rfl,by simpa using hZ⟩)
 |false=>exact hK _ _ λ_=>⟨false,rfl,by simpa using hZ⟩
theorem zj{w:World}{A:(List Value→World→Prop)→Prop}{Z:Value→World→Prop}{b c:Bool}(hA:b=false→∀K:List Value→World→Prop,K [.bool c] w→A K)(hZ:Z (.bool (b||c)) w):
  za (λK=>gIf (.bool b) false (A K) (K [u_] w)) λs _ w'=>zb (.bool b) (.bool true) (s.getD 0 u_) λt=>Z t w':=by
 intro K hK
 cases b with
 |true=>exact hK _ _ λ_=>⟨true,rfl,by simpa using hZ⟩
 |false=>exact hA rfl K (hK _ _ λ_=>⟨false,rfl,by simpa using hZ⟩)
end Go.Sh
namespace Go.Proofs
open Go.Sh
section
namespace Gr
variable {α β:Type}
end Gr
end
section
inductive ad9:Gh→Value→TyD→Prop
 |nil {sn:Gh} {v:Value} {k re st:Int} {m:Bool}:ad9 sn v (.mk k m re st [])
 |one {sn:Gh} {b:Nat} {c:List Value} {k re st:Int} {m:Bool} {u:TyD} (no:∀o,¬sn b o) (hc:c.length=5) (ht:TyG sn (.agg c.toArray) u) (h:ad9 sn (.agg c.toArray) u):
  ad9 (sn.or (Go.Sh.one b c 112)) (.agg #[.int .u8 k,.bool m,.int .i64 re,.int .i64 st,.slice (some ⟨b,0,none⟩) 1 1]) (.mk k m re st [u])
theorem ajo{r:Gh}{v:Value}{u:TyD}{b:Nat}{k re st:Int}{m:Bool}(h:TyG r v u):
  TyG (r.or (Go.Sh.one b v.cells.toList 112)) (.agg #[.int .u8 k,.bool m,.int .i64 re,.int .i64 st,.slice (some ⟨b,0,none⟩) 1 1]) (.mk k m re st [u]):=by
 obtain⟨c,rfl,hc,hr⟩:=h.rep
 refine⟨_,1,rfl,by simp,Nat.le_refl _,?_⟩
 refine⟨⟨c,hc,λj x hj=>⟨b,0,rfl,λw hw=>?_⟩,hr.up⟩,trivial⟩
 have B:=yH (b:=b) (c:=(Value.agg c.toArray).cells.toList) (T:=112) w (hw.le (h:=inferInstance))
 show w.cell? ⟨b,0+0*5+j,none⟩=some x
 rw[show 0+0*5+j=j by omega,B.cell]
 exact hj
theorem xJ{r:Gh}{k re st:Int}{m:Bool}:TyG r (.agg #[.int .u8 k,.bool m,.int .i64 re,.int .i64 st,.slice none 0 0]) (.mk k m re st []):=
 ⟨none,0,rfl,λ_=>rfl,Nat.le_refl _,trivial⟩
def yc:TyD:=.mk 0 false 0 0 []
theorem _root_.Go.Sh.StX.perm{X:Nat→Prop}{w0 w:World}{r:Gh}{L M:List Asr}(S:StX X w0 r w L)(hp:L.Perm M):StX X w0 r w M:=
 ⟨S.x,S.holds,λz hz=>S.has z (hp.mem_iff.2 hz),λz hz=>S.mine z (hp.mem_iff.2 hz),(List.Perm.pairwise_iff (λh k h1 h2=>h k h2 h1) hp).1 S.apart⟩
inductive ChnL:List Value→TyD→List Asr→Prop
 |nil {k re st:Int} {m:Bool}:ChnL [.int .u8 k,.bool m,.int .i64 re,.int .i64 st,.slice none 0 0] (.mk k m re st []) []
 |one {b:Nat} {c:List Value} {k re st:Int} {m:Bool} {u:TyD} {L:List Asr} (h:ChnL c u L):
  ChnL [.int .u8 k,.bool m,.int .i64 re,.int .i64 st,.slice (some ⟨b,0,none⟩) 1 1] (.mk k m re st [u]) (.cell b c 112::L)
theorem ChnL.len{c:List Value}{t:TyD}{L:List Asr}(h:ChnL c t L):c.length=5:=by cases h<;>rfl
theorem ChnL.ones{c:List Value}{t:TyD}{L:List Asr}(h:ChnL c t L):∀u∈c,u.oneCell'=true:=by
 cases h<;>simp [Value.oneCell']
section
variable {X:Nat→Prop} {w0 w:World} {r:Gh} {L:List Asr}
theorem ahx{s:Int}:∀(n:Nat){t:TyD}{w:World}{r:Gh}{L:List Asr}{v:Value}{K:Value→World→Prop},n≤1000→zE s n t=true→StX X w0 r w L→TyG r v t→
  (∀c N w',ChnL c t N→StX X w0 r w' (N++L)→K (.agg c.toArray) w')→zd Tryz.prog Tryz.Yb #[v] w K:=by
 intro n
 induction n with
 |zero=>intro t w r L v K _ h;cases h
 |succ n ih=>
  intro t w r L v K hn hl S hv h
  refine Tryz.agr ?_
  unfold Tryz.abs
  obtain⟨p,cap,rfl,_,_,hof⟩:=hv
  refine S.box λb1 w1 S=>?_
  have S:StX X w0 r w1 (.cell b1 [.int .u8 t.k,.bool t.m,.int .i64 t.re,.int .i64 t.st,.slice p t.of.length cap] 112::L):=S
  refine S.al λb2 w2 S=>?_
  refine zn (λ_ w'=>∃q m N,ChnL [.int .u8 t.k,.bool t.m,.int .i64 t.re,.int .i64 t.st,.slice q m m] t N∧StX X w0 r w' (N++(.cell b2 [.int .u8 0,.bool false,.int .i64 0,.int .i64 0,.slice none 0 0] 112::.cell b1 [.int .u8 t.k,.bool t.m,.int .i64 t.re,.int .i64 t.st,.slice q m m] 112::L))) (λK2 hK2=>?_) ?_
  ·have he:t=.mk t.k t.m t.re t.st t.of:=by cases t;rfl
   refine gG_ ?_
   rcases yz hl with⟨ho,_⟩|⟨u,ho,hu,_⟩
   ·refine c_f (by rw[ho];rfl) ?_
    refine gG_ ?_
    refine S.st λw3 S=>?_
    refine hK2 [] _ ⟨none,0,[],?_,S⟩
    have :ChnL [.int .u8 t.k,.bool t.m,.int .i64 t.re,.int .i64 t.st,.slice none 0 0] (.mk t.k t.m t.re t.st []) []:=.nil
    rw[ho]at he
    rw[← he]at this
    exact this
   ·have hlen:t.of.length=1:=by rw[ho];rfl
    obtain⟨ba,oa,rfl,c,hc,hcell,ht⟩:=NdG.of hof (i:=0) (by omega)
    have ht:TyG r (.agg c.toArray) u:=by simpa [ho]using ht
    refine c_t (by rw[hlen];rfl) ?_
    refine gG_ ?_
    refine zp (n:=5) hc (λj v hj=>by simpa using S.at (hcell j v hj)) ?_
    refine ih (by omega) hu S ht λc' N w3 hch S=>?_
    refine S.lit (e:=112) (cs:=c') (by
     cases hch<;>kernel_rfl) λb9 w4 S=>?_
    have S:StX X w0 r w4 (.cell b1 [.int .u8 t.k,.bool t.m,.int .i64 t.re,.int .i64 t.st,.slice (some ⟨ba,oa,none⟩) t.of.length cap] 112::(.cell b9 c' 112::N++(.cell b2 [.int .u8 0,.bool false,.int .i64 0,.int .i64 0,.slice none 0 0] 112::L))):=S.perm (by
     refine(List.Perm.cons _ ?_).trans (.swap _ _ _)
     refine(List.perm_append_comm_assoc N [_] _).trans ?_
     refine(List.Perm.append_left [_] ((List.perm_append_comm_assoc N [_] _))).trans ?_
     refine(List.Perm.swap _ _ _).trans ?_
     refine List.Perm.cons _ ?_
     exact(List.perm_append_comm_assoc [_] N L))
    refine gG_ ?_
    refine S.st λw5 S=>?_
    have hch':ChnL [.int .u8 t.k,.bool t.m,.int .i64 t.re,.int .i64 t.st,.slice (some ⟨b9,0,none⟩) 1 1] (.mk t.k t.m t.re t.st [u]) (.cell b9 c' 112::N):=.one hch
    rw[ho]at he
    rw[← he]at hch'
    refine hK2 [] _ ⟨_,_,_,hch',S.perm ?_⟩
    have:=List.perm_middle (a:=Asr.cell b1 [.int .u8 t.k,.bool t.m,.int .i64 t.re,.int .i64 t.st,.slice (some ⟨b9,0,none⟩) 1 1] 112) (l₁:=.cell b9 c' 112::N++[.cell b2 [.int .u8 0,.bool false,.int .i64 0,.int .i64 0,.slice none 0 0] 112]) (l₂:=L)
    simpa using this.symm
  rintro _ w6 ⟨q,m,N,hch,S⟩ d6
  have S:StX X w0 r w6 (.cell b2 [.int .u8 0,.bool false,.int .i64 0,.int .i64 0,.slice none 0 0] 112::.cell b1 [.int .u8 t.k,.bool t.m,.int .i64 t.re,.int .i64 t.st,.slice q m m] 112::(N++L)):=S.perm (by
   refine(List.perm_append_comm_assoc N [_] _).trans ?_
   exact List.Perm.cons _ (List.perm_append_comm_assoc N [_] _))
  refine gG_ ?_
  refine S.stB λw7 S=>?_
  refine gG_ ?_
  exact h _ N _ hch S.tl.tl
end
end
mutual
def TyD.lay:List Int→TyD→TyD
 |l,.mk k m re st of=>.mk k m (if k=4 then l.headD 0 else re) st (TyD.lays (if k=4 then l.tail else l) of)
def TyD.lays:List Int→List TyD→List TyD
 |_,[]=>[]
 |l,t::r=>TyD.lay l t::TyD.lays l r
end
theorem ab9{t:TyD}(h:t.of=[]):t.regs=if t.k=4 then [t.re]else []:=by
 rw[TyD.regs_eq,h];simp[TyD.chains,TyD.regsL]
theorem aca{t u:TyD}(h:t.of=[u]):t.regs=(if t.k=4 then [t.re]else [])++u.regs:=by
 rw[TyD.regs_eq,h];rfl
theorem Qk{t:TyD}(h:isB t=true):t.regs.length≤48:=by
 have h1:=aeQ 48 (aaU h)
 rw[TyD.regs,TyD.regsL,List.length_map]
 exact Nat.le_trans (List.length_filter_le _ _) h1
theorem Xh{w:World}{p:Option Addr}{l:List Int}(h:Sl w p (ints l)){i:Nat}(hi:i<l.length):∃b off,p=some ⟨b,off,none⟩∧w.cell? ⟨b,off+i,none⟩=some (.int .i64 l[i]):=by
 obtain⟨b,off,hp,hc⟩:=h.at (i:=i) (by rw[kN];exact hi)
 refine⟨b,off,hp,?_⟩
 rw[hc];simp[ints]
end Go.Proofs
