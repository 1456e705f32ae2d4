/-
  Shallow readings of functions. Made by a program (wip/gen/gen.py) out of the translation; the kernel checks each equality.
  Texts of places and operands, of both sides.
  Texts of operands and of lists of operands, of both sides.
  Which programs may be: the plain law.
  Which programs may be: what is walked may be, plain facts.
  Regions of a graph: the plain law.
  Regions of a type turned, erased: step by step.
  Contracts: zero, the type of a place of a graph.
  Contracts: the type of an operand of a graph.
  Contracts: which fields a point may have.
  Contracts: the functions that stand in point.
  Shallow readings of functions. Made by a program (wip/gen/gen.py) out of the translation; the kernel checks each equality.
  Contracts: regions of a type turned, erased, of both sides.
  Regions laid anew and numbered twice; words and drops of fields: the plain laws.
  Regions numbered: plain facts, one by one.
  Heads of graphs: plain facts, and what the tables hold.
  Contracts: what types imply.
  Contracts: what outlives what.
  Elements of rows of one's own written over.
  Contracts: places among types: walk, May, Type.
  A map of strings of one's own: made, filled, asked.
  Contracts: whether a point is as it must be.
  Which programs may be: what it tells when one may.
  Contracts: heads of graphs; Check and May of graph.
  Contracts: the regions of a function, numbered.
  Contracts: all regions of a function; Of, Width.
  Contracts: Of, Width, Place, Borrowed, Called of region.
  Texts of points, of both sides.
  Contracts: Borrowed, Called of region.
  Contracts: SameType of the reference, typeFits and spoil of law 13.
  Contracts: the example of law 13, and what is told of it.
  What is told of the example of law 13; awake.
  Contracts: fits of law 13; lists of numbers read in a memory that stays.
-/
import Derived.Test.YtngfnikkdhbajaaGreatDoorQSb
import Derived.Test.YtngfnikkdhbajaaGreatDoorQSc
import Derived.MapKept
section
namespace Go.Proofs.Tryz
open Go.Sh
set_option maxRecDepth 100000
def JG (t0 t1 t2 : Value) (w : World) (K : VW) : Prop:=
 pw w (Instr.box 25 t0) fun t3 w1=>
 lo w1 25 t3 fun t11=>ca xR #[t11,t1,t2] w1 fun t14 w2=>
 pe t14 0 fun t15=>pe t14 1 fun t16=>pw w2 (Instr.alloc 44 true (.tuple #[])) fun t8 w3=>
 so w3 44 t8 t15 fun w4=>bt .neq 45 t16 (i6 0) fun t18=>zc t18 (K (.tuple #[(Value.string { data:=#[] }),t16]) w4) (lo w4 44 t8 fun t20=>ca YE #[t20,t2] w4 fun t22 w5=>
 K (.tuple #[t22,t16]) w5)
theorem ac0 {t0 t1 t2 : Value} {w : World} {K : VW} (h : JG t0 t1 t2 w K) : zd prog YC #[t0,t1,t2] w K:=
 okC false (.s (.r (rz 3 0 2)) (.s (.r (rz 10 0 163969)) (.s (.s (.r (rz 2 0 0)) (.c (.s (.r (rz 3 0 0)) (.n)) (.n))) (.s (.r (rz 6 0 33)) (.n))))) func11 rfl (by kernel_rfl) (by kernel_rfl) h
def JH (t0 t1 : Value) (w : World) (K : VW) : Prop:=
 pw w (Instr.box 25 t0) fun t2 w1=>
 pw w1 (Instr.box 25 t1) fun t3 w2=>
 lo w2 25 t2 fun t7=>ca ke #[t7] w2 fun t8 w3=>
 za (fun K4=>gIf t8 true (lo w3 25 t3 fun t10=>ca ke #[t10] w3 fun t11 w8=>
 K4 [t11] w8) (K4 [undef] w3)) (fun s5 _d6 w7=>
 zb t8 (s5.getD 0 undef) fa_ fun t12=>za (fun K9=>gIf t12 true (fl w7 t2 25 2 3 fun t15=>fl w7 t3 25 2 3 fun t17=>bf .eql 3 t15 t17 fun t18=>K9 [t18] w7) (K9 [undef] w7)) (fun s10 _d11 w12=>
 zb t12 (s10.getD 0 undef) fa_ fun t19=>za (fun K13=>gIf t19 true (fl w12 t2 25 0 22 fun t22=>fl w12 t3 25 0 22 fun t24=>ca zB #[t22,t24,(Value.func (.func 41) #[] #[])] w12 fun t26 w17=>
 K13 [t26] w17) (K13 [undef] w12)) (fun s14 _d15 w16=>
 zb t19 (s14.getD 0 undef) fa_ fun t27=>za (fun K18=>gIf t27 true (fl w16 t2 25 1 23 fun t30=>fl w16 t3 25 1 23 fun t32=>ca zH #[t30,t32,(Value.func (.func 45) #[] #[])] w16 fun t34 w22=>
 K18 [t34] w22) (K18 [undef] w16)) (fun s19 _d20 w21=>
 zb t27 (s19.getD 0 undef) fa_ fun t35=>K t35 w21))))
theorem ac1 {t0 t1 : Value} {w : World} {K : VW} (h : JH t0 t1 w K) : zd prog YD #[t0,t1] w K:=
 okC false (.s (.r (rz 3 0 10)) (.s (.r (rz 1 0 0)) (.s (.r (rz 1 0 0)) (.s (.r (ra 3 0 9 (.grp 9 true (ri 2 3 9) [11] (ra 2 5 0 (.grp 13 true (ri 5 7 68) [18] (ra 2 12 0 (.grp 20 true (ri 6 14 2116) [26] (ra 2 20 0 (.grp 28 true (ri 6 22 2116) [34] (rz 2 28 0)))))))))) (.n))))) func12 rfl (by kernel_rfl) (by kernel_rfl) h
def JI (t0 t1 t2 : Value) (w : World) (K : VW) : Prop:=
 pw w (Instr.box 25 t0) fun t3 w1=>
 lo w1 25 t3 fun t11=>ca xR #[t11,t1,t2] w1 fun t14 w2=>
 pe t14 0 fun t15=>pe t14 1 fun t16=>pw w2 (Instr.alloc 44 true (.tuple #[])) fun t8 w3=>
 so w3 44 t8 t15 fun w4=>bt .neq 45 t16 (i6 0) fun t19=>za (fun K5=>gIf t19 false (fl w4 t8 44 0 35 fun t22=>bt .eql 35 t22 (Value.int .u8 14) fun t23=>K5 [t23] w4) (K5 [undef] w4)) (fun s6 _d7 w8=>
 zb t19 tr_ (s6.getD 0 undef) fun t24=>zc t24 (K (.tuple #[(Value.slice Option.none 0 0),t16]) w8) (fl w8 t8 44 0 35 fun t28=>bt .eql 35 t28 (Value.int .u8 12) fun t29=>za (fun K9=>gIf t29 true (fl w8 t8 44 10 3 fun t32=>fl w8 t8 44 11 3 fun t34=>bf .neq 3 t32 t34 fun t35=>K9 [t35] w8) (K9 [undef] w8)) (fun s10 _d11 w12=>
 zb t29 (s10.getD 0 undef) fa_ fun t36=>zc t36 (fl w12 t8 44 10 3 fun t38=>fl w12 t8 44 11 3 fun t40=>pw w12 (Instr.buildSlice 67 2 #[(0,t38),(1,t40)]) fun t41 w13=>
 K (.tuple #[t41,t16]) w13) (fl w12 t8 44 10 3 fun t44=>pw w12 (Instr.buildSlice 67 1 #[(0,t44)]) fun t45 w14=>
 K (.tuple #[t45,t16]) w14))))
theorem ac2 {t0 t1 t2 : Value} {w : World} {K : VW} (h : JI t0 t1 t2 w K) : zd prog vv #[t0,t1,t2] w K:=
 okC false (.s (.r (rz 3 0 2)) (.s (.r (rz 10 0 163969)) (.s (.b (.s (.r (ra 3 0 0 (.grp 20 false (ri 3 3 4) [23] (rz 2 6 0)))) (.c (.s (.r (rz 3 0 0)) (.n)) (.s (.r (ra 4 0 4 (.grp 30 true (ri 5 4 68) [35] (rz 2 9 0)))) (.c (.s (.r (rz 8 0 580)) (.n)) (.n)))))) (.s (.r (rz 6 0 36)) (.n))))) func25 rfl (by kernel_rfl) (by kernel_rfl) h
def QY (t0 t1 : Value) (w : World) (K : VW) : Prop:=
 pw w (Instr.box 25 t0) fun t2 w1=>
 lo w1 25 t2 fun t12=>ca vi #[t12,t1] w1 fun t14 w2=>
 pe t14 0 fun t15=>pe t14 1 fun t16=>pw w2 (Instr.alloc 33 true (.tuple #[])) fun t6 w3=>
 so w3 33 t6 t15 fun w4=>fl w4 t6 33 6 31 fun t18=>pp (Builtin.len_ #[31] 3 #[t18]) fun t19=>zn [(Value.slice Option.none 0 0),(i6 0)] w4 (fun s6 _d7 w8 K5=>
 bf .lss 3 (s6.getD 1 undef) t19 fun t21=>zc t21 (za (fun K9=>
 xl w8 31 t18 (s6.getD 1 undef) 44 fun t23=>pw w8 (Instr.alloc 44 true (.tuple #[])) fun t10 w13=>
 so w13 44 t10 t23 fun w14=>fl w14 t10 44 0 35 fun t25=>bt .eql 35 t25 (Value.int .u8 7) fun t26=>zc t26 (fl w14 t10 44 8 3 fun t29=>pw w14 (Instr.buildSlice 67 1 #[(0,t29)]) fun t30 w15=>
 pw w15 (Builtin.append_ #[67,67] 67 #[(s6.getD 0 undef),t30]) fun t31 w16=>
 K9 [t31] w16) (K9 [(s6.getD 0 undef)] w14)) (fun s10 _d11 w12=>
 bt .add 3 (s6.getD 1 undef) (i6 1) fun t32=>K5 [(s10.getD 0 undef),t32] w12)) (ca jT #[(s6.getD 0 undef)] w8 fun _t34 w17=>
 ca qJ #[(s6.getD 0 undef)] w17 fun t36 w18=>
 ca kA #[t36] w18 fun t37 w19=>
 K (.tuple #[t37,t16]) w19))
theorem abY {t0 t1 : Value} {w : World} {K : VW} (h : QY t0 t1 w K) : zd prog ZQ #[t0,t1] w K:=
 okC false (.s (.r (rz 3 0 2)) (.s (.r (rz 9 0 40993)) (.s (.r (rz 1 0 0)) (.s (.s (.r (rz 4 0 4)) (.b (.lp [8,20] (.s (.r (rz 1 0 0)) (.s (.c (.n) (.n)) (.j [8] (.b (.s (.r (rz 4 0 164)) (.s (.r (rz 3 0 4)) (.c (.r (rz 6 0 656)) (.n))))) (.r (rz 2 0 0)))))))) (.s (.r (rz 2 0 8)) (.s (.r (rz 6 0 40)) (.n))))))) func30 rfl (by kernel_rfl) (by kernel_rfl) h
def JJ (t0 t1 : Value) (w : World) (K : VW) : Prop:=
 pw w (Instr.box 44 t0) fun t2 w1=>
 fl w1 t2 44 4 42 fun t13=>pp (Builtin.len_ #[42] 3 #[t13]) fun t14=>zn [(Value.slice Option.none 0 0),(i6 0)] w1 (fun s3 _d4 w5 K2=>
 bf .lss 3 (s3.getD 1 undef) t14 fun t16=>zc t16 (xl w5 42 t13 (s3.getD 1 undef) 41 fun t18=>pw w5 (Instr.alloc 41 true (.tuple #[])) fun t7 w6=>
 so w6 41 t7 t18 fun w7=>lo w7 41 t7 fun t20=>ca xg #[t20] w7 fun t21 w8=>
 pw w8 (Instr.buildSlice 30 1 #[(0,t21)]) fun t22 w9=>
 pw w9 (Builtin.append_ #[30,30] 30 #[(s3.getD 0 undef),t22]) fun t23 w10=>
 bt .add 3 (s3.getD 1 undef) (i6 1) fun t24=>K2 [t23,t24] w10) (ca XO #[(s3.getD 0 undef),(Value.string { data:=#[44,32] })] w5 fun t26 w11=>
 bt .add 9 (Value.string { data:=#[40] }) t26 fun t27=>bt .add 9 t27 (Value.string { data:=#[41] }) fun t28=>fl w11.drew t2 44 2 41 fun t30=>fl w11.drew t2 44 6 38 fun t33=>ca xg #[t30] w11.drew fun t31 w12=>
 Ext w11.drew w12∧
 ca kz #[t33] w12 fun t34 w13=>
 za (fun K14=>
 fl w13 t2 44 0 35 fun t36=>bt .eql 35 t36 (Value.int .u8 1) fun t38=>zc t38 (K14 [t31] w13) (bt .eql 35 t36 (Value.int .u8 2) fun t41=>zc t41 (bt .add 9 t31 (Value.string { data:=#[32] }) fun t43=>fl w13.drew t2 44 5 9 fun t45=>bf .add 9 t43 t45 fun t46=>bt .add 9 t46 (Value.string { data:=#[32] }) fun t47=>fl w13.drew t2 44 3 41 fun t49=>ca xg #[t49] w13.drew fun t50 w18=>
 Ext w13.drew w18∧
 bf .add 9 t47 t50 fun t51=>K14 [t51] w18) (bt .eql 35 t36 (Value.int .u8 3) fun t53=>zc t53 (fl w13 t2 44 5 9 fun t55=>bt .add 9 t55 (Value.string { data:=#[32] }) fun t56=>bf .add 9 t56 t31 fun t58=>K14 [t58] w13) (bt .eql 35 t36 (Value.int .u8 4) fun t60=>zc t60 (bt .add 9 (Value.string { data:=#[38,32] }) t34 fun t62=>fl w13 t2 44 7 4 fun t64=>zc t64 (bt .add 9 (Value.string { data:=#[38,109,117,116,32] }) t34 fun t66=>K14 [t66] w13) (K14 [t62] w13)) (bt .eql 35 t36 (Value.int .u8 5) fun t68=>zc t68 (bt .add 9 (Value.string { data:=#[98,111,120,32] }) t31 fun t70=>K14 [t70] w13) (bt .eql 35 t36 (Value.int .u8 6) fun t72=>zc t72 (fl w13 t2 44 9 3 fun t74=>ca xj #[t74] w13 fun t75 w19=>
 bt .add 9 (Value.string { data:=#[35] }) t75 fun t76=>bf .add 9 t76 t28 fun t78=>K14 [t78] w19) (bt .eql 35 t36 (Value.int .u8 7) fun t80=>zc t80 (fl w13 t2 44 8 3 fun t82=>ca xj #[t82] w13 fun t83 w20=>
 bt .add 9 (Value.string { data:=#[102] }) t83 fun t84=>bf .add 9 t84 t28 fun t86=>K14 [t86] w20) (bt .eql 35 t36 (Value.int .u8 8) fun t88=>zc t88 (K14 [(Value.string { data:=#[114,101,97,100] })] w13) (bt .eql 35 t36 (Value.int .u8 9) fun t90=>zc t90 (bt .add 9 (Value.string { data:=#[112,114,105,110,116,32] }) t31 fun t92=>K14 [t92] w13) (bt .eql 35 t36 (Value.int .u8 10) fun t94=>zc t94 (bt .add 9 (Value.string { data:=#[100,114,111,112,32] }) t34 fun t96=>K14 [t96] w13) (bt .eql 35 t36 (Value.int .u8 11) fun t98=>zc t98 (bt .add 9 (Value.string { data:=#[100,101,97,100,32] }) t34 fun t100=>K14 [t100] w13) (bt .eql 35 t36 (Value.int .u8 12) fun t102=>zc t102 (bt .add 9 (Value.string { data:=#[105,102,32] }) t31 fun t104=>K14 [t104] w13) (bt .eql 35 t36 (Value.int .u8 13) fun t106=>zc t106 (K14 [(Value.string { data:=#[103,111,116,111] })] w13) (bt .eql 35 t36 (Value.int .u8 14) fun t108=>zc t108 (K (Value.string { data:=#[114,101,116,117,114,110] }) w13) (K14 [(Value.string { data:=#[] })] w13))))))))))))))) (fun s15 _d16 w17=>
 za (fun K21=>
 fl w17 t2 44 0 35 fun t110=>bt .leq 35 t110 (Value.int .u8 8) fun t111=>zc t111 (fl w17 t2 44 1 38 fun t113=>ca kz #[t113] w17 fun t114 w25=>
 bt .add 9 t114 (Value.string { data:=#[32,61,32] }) fun t115=>bf .add 9 t115 (s15.getD 0 undef) fun t117=>K21 [t117] w25) (K21 [(s15.getD 0 undef)] w17)) (fun s22 _d23 w24=>
 za (fun K26=>
 fl w24 t2 44 10 3 fun t119=>bt .add 3 t1 (i6 1) fun t121=>bf .neq 3 t119 t121 fun t122=>za (fun K30=>gIf t122 false (fl w24 t2 44 0 35 fun t125=>bt .eql 35 t125 (Value.int .u8 12) fun t126=>K30 [t126] w24) (K30 [undef] w24)) (fun s31 _d32 w33=>
 zb t122 tr_ (s31.getD 0 undef) fun t127=>za (fun K34=>gIf t127 false (fl w33 t2 44 0 35 fun t130=>bt .eql 35 t130 (Value.int .u8 13) fun t131=>K34 [t131] w33) (K34 [undef] w33)) (fun s35 _d36 w37=>
 zb t127 tr_ (s35.getD 0 undef) fun t132=>zc t132 (fl w37 t2 44 10 3 fun t135=>ca xj #[t135] w37 fun t136 w38=>
 bt .add 9 (Value.string { data:=#[32,45,62,32] }) t136 fun t137=>bf .add 9 (s22.getD 0 undef) t137 fun t138=>K26 [t138] w38) (K26 [(s22.getD 0 undef)] w37)))) (fun s27 _d28 w29=>
 za (fun K39=>
 fl w29 t2 44 0 35 fun t140=>bt .eql 35 t140 (Value.int .u8 12) fun t141=>zc t141 (fl w29 t2 44 11 3 fun t144=>ca xj #[t144] w29 fun t145 w43=>
 bt .add 9 (Value.string { data:=#[32,101,108,115,101,32] }) t145 fun t146=>bf .add 9 (s27.getD 0 undef) t146 fun t147=>K39 [t147] w43) (K39 [(s27.getD 0 undef)] w29)) (fun s40 _d41 w42=>
 K (s40.getD 0 undef) w42))))))
theorem ac3 {t0 t1 : Value} {w : World} {K : VW} (h : JJ t0 t1 w K) : zd prog YE #[t0,t1] w K:=
 okC false (.s (.r (rz 2 0 2)) (.s (.r (rz 1 0 0)) (.s (.s (.r (rz 4 0 4)) (.b (.lp [5,15] (.s (.r (rz 1 0 0)) (.s (.c (.n) (.n)) (.s (.b (.s (.r (rz 4 0 164)) (.r (rz 6 0 676)))) (.r (rz 2 0 0)))))))) (.s (.r (rz 5 0 8)) (.s (.r (ra 2 0 4 (ra 2 3 4 (ra 1 2 3 (rz 4 5 2))))) (.j [11] (.s (.r (rz 2 0 4)) (.b (.s (.r (rz 2 0 0)) (.c (.r (rz 2 0 0)) (.s (.r (rz 2 0 0)) (.c (.r (rz 11 0 213056)) (.s (.r (rz 2 0 0)) (.c (.r (rz 6 0 4)) (.s (.r (rz 2 0 0)) (.c (.s (.r (rz 3 0 0)) (.s (.r (rz 2 0 4)) (.c (.r (rz 3 0 0)) (.n)))) (.s (.r (rz 2 0 0)) (.c (.r (rz 3 0 0)) (.s (.r (rz 2 0 0)) (.c (.r (rz 7 0 36)) (.s (.r (rz 2 0 0)) (.c (.r (rz 7 0 36)) (.s (.r (rz 2 0 0)) (.c (.r (rz 1 0 0)) (.s (.r (rz 2 0 0)) (.c (.r (rz 3 0 0)) (.s (.r (rz 2 0 0)) (.c (.r (rz 3 0 0)) (.s (.r (rz 2 0 0)) (.c (.r (rz 3 0 0)) (.s (.r (rz 2 0 0)) (.c (.r (rz 3 0 0)) (.s (.r (rz 2 0 0)) (.c (.r (rz 1 0 0)) (.s (.r (rz 2 0 0)) (.c (.s (.r (rz 1 0 0)) (.n)) (.n))))))))))))))))))))))))))))))) (.j [11] (.s (.r (rz 3 0 4)) (.c (.r (rz 7 0 36)) (.n))) (.j [11] (.s (.r (ra 6 0 4 (.grp 123 false (ri 3 6 4) [126] (ra 2 9 0 (.grp 128 false (ri 3 11 4) [131] (rz 1 14 0)))))) (.c (.r (rz 7 0 144)) (.n))) (.j [11] (.s (.r (rz 3 0 4)) (.c (.r (rz 7 0 144)) (.n))) (.s (.r (rz 2 0 0)) (.n))))))))))) func40 rfl (by kernel_rfl) (by kernel_rfl) h
def vT (t0 : Value) (w : World) (K : VW) : Prop:=
 pw w (Instr.box 41 t0) fun t1 w1=>
 fl w1 t1 41 0 39 fun t4=>bt .eql 39 t4 (Value.int .u8 1) fun t6=>zc t6 (fl w1 t1 41 1 2 fun t8=>ca vQ #[t8,(i6 10)] w1 fun t9 w2=>
 K t9 w2) (bt .eql 39 t4 (Value.int .u8 2) fun t11=>zc t11 (fl w1 t1 41 1 2 fun t13=>bt .eql 2 t13 (i6 1) fun t14=>ca kN #[t14] w1 fun t15 w3=>
 K t15 w3) (bt .eql 39 t4 (Value.int .u8 3) fun t17=>zc t17 (fl w1 t1 41 2 38 fun t19=>ca kz #[t19] w1 fun t20 w4=>
 bt .add 9 (Value.string { data:=#[99,111,112,121,32] }) t20 fun t21=>K t21 w4) (fl w1 t1 41 2 38 fun t23=>ca kz #[t23] w1 fun t24 w5=>
 bt .add 9 (Value.string { data:=#[109,111,118,101,32] }) t24 fun t25=>K t25 w5)))
theorem Qt {t0 : Value} {w : World} {K : VW} (h : vT t0 w K) : zd prog xg #[t0] w K:=
 okC false (.s (.r (rz 2 0 2)) (.s (.s (.r (rz 2 0 4)) (.b (.s (.r (rz 2 0 0)) (.c (.s (.r (rz 4 0 36)) (.n)) (.s (.r (rz 2 0 0)) (.c (.s (.r (rz 5 0 132)) (.n)) (.s (.r (rz 2 0 0)) (.c (.s (.r (rz 5 0 36)) (.n)) (.n))))))))) (.s (.r (rz 5 0 36)) (.n)))) func77 rfl (by kernel_rfl) (by kernel_rfl) h
def Ye (t0 t1 : Value) (w : World) (K : VW) : Prop:=
 pw w (Instr.box 44 t0) fun t2 w1=>
 pw w1 (Instr.box 44 t1) fun t3 w2=>
 fl w2 t2 44 0 35 fun t7=>fl w2 t3 44 0 35 fun t9=>bf .eql 35 t7 t9 fun t10=>za (fun K3=>gIf t10 true (fl w2 t2 44 5 9 fun t13=>fl w2 t3 44 5 9 fun t15=>bf .eql 9 t13 t15 fun t16=>K3 [t16] w2) (K3 [undef] w2)) (fun s4 _d5 w6=>
 zb t10 (s4.getD 0 undef) fa_ fun t17=>za (fun K7=>gIf t17 true (fl w6 t2 44 7 4 fun t20=>fl w6 t3 44 7 4 fun t22=>bf .eql 4 t20 t22 fun t23=>K7 [t23] w6) (K7 [undef] w6)) (fun s8 _d9 w10=>
 zb t17 (s8.getD 0 undef) fa_ fun t24=>za (fun K11=>gIf t24 true (fl w10 t2 44 8 3 fun t27=>fl w10 t3 44 8 3 fun t29=>bf .eql 3 t27 t29 fun t30=>K11 [t30] w10) (K11 [undef] w10)) (fun s12 _d13 w14=>
 zb t24 (s12.getD 0 undef) fa_ fun t31=>za (fun K15=>gIf t31 true (fl w14 t2 44 9 3 fun t34=>fl w14 t3 44 9 3 fun t36=>bf .eql 3 t34 t36 fun t37=>K15 [t37] w14) (K15 [undef] w14)) (fun s16 _d17 w18=>
 zb t31 (s16.getD 0 undef) fa_ fun t38=>za (fun K19=>gIf t38 true (fl w18 t2 44 10 3 fun t41=>fl w18 t3 44 10 3 fun t43=>bf .eql 3 t41 t43 fun t44=>K19 [t44] w18) (K19 [undef] w18)) (fun s20 _d21 w22=>
 zb t38 (s20.getD 0 undef) fa_ fun t45=>za (fun K23=>gIf t45 true (fl w22 t2 44 11 3 fun t48=>fl w22 t3 44 11 3 fun t50=>bf .eql 3 t48 t50 fun t51=>K23 [t51] w22) (K23 [undef] w22)) (fun s24 _d25 w26=>
 zb t45 (s24.getD 0 undef) fa_ fun t52=>za (fun K27=>gIf t52 true (fl w26 t2 44 12 3 fun t55=>fl w26 t3 44 12 3 fun t57=>bf .eql 3 t55 t57 fun t58=>K27 [t58] w26) (K27 [undef] w26)) (fun s28 _d29 w30=>
 zb t52 (s28.getD 0 undef) fa_ fun t59=>za (fun K31=>gIf t59 true (fl w30 t2 44 1 38 fun t63=>fl w30 t3 44 1 38 fun t65=>ca qN #[t63,t65] w30 fun t66 w35=>
 K31 [t66] w35) (K31 [undef] w30)) (fun s32 _d33 w34=>
 zb t59 (s32.getD 0 undef) fa_ fun t67=>za (fun K36=>gIf t67 true (fl w34 t2 44 6 38 fun t70=>fl w34 t3 44 6 38 fun t72=>ca qN #[t70,t72] w34 fun t73 w40=>
 K36 [t73] w40) (K36 [undef] w34)) (fun s37 _d38 w39=>
 zb t67 (s37.getD 0 undef) fa_ fun t74=>za (fun K41=>gIf t74 true (fl w39 t2 44 2 41 fun t77=>fl w39 t3 44 2 41 fun t79=>ca xh #[t77,t79] w39 fun t80 w45=>
 K41 [t80] w45) (K41 [undef] w39)) (fun s42 _d43 w44=>
 zb t74 (s42.getD 0 undef) fa_ fun t81=>za (fun K46=>gIf t81 true (fl w44 t2 44 3 41 fun t84=>fl w44 t3 44 3 41 fun t86=>ca xh #[t84,t86] w44 fun t87 w50=>
 K46 [t87] w50) (K46 [undef] w44)) (fun s47 _d48 w49=>
 zb t81 (s47.getD 0 undef) fa_ fun t88=>za (fun K51=>gIf t88 true (fl w49 t2 44 4 42 fun t91=>fl w49 t3 44 4 42 fun t93=>ca zA #[t91,t93,(Value.func (.func 82) #[] #[])] w49 fun t94 w55=>
 K51 [t94] w55) (K51 [undef] w49)) (fun s52 _d53 w54=>
 zb t88 (s52.getD 0 undef) fa_ fun t95=>K t95 w54))))))))))))
theorem JK {t0 t1 : Value} {w : World} {K : VW} (h : Ye t0 t1 w K) : zd prog jj #[t0,t1] w K:=
 okC false (.s (.r (rz 3 0 10)) (.s (.r (ra 6 0 68 (.grp 11 true (ri 5 6 68) [16] (ra 2 11 0 (.grp 18 true (ri 5 13 68) [23] (ra 2 18 0 (.grp 25 true (ri 5 20 68) [30] (ra 2 25 0 (.grp 32 true (ri 5 27 68) [37] (ra 2 32 0 (.grp 39 true (ri 5 34 68) [44] (ra 2 39 0 (.grp 46 true (ri 5 41 68) [51] (ra 2 46 0 (.grp 53 true (ri 5 48 68) [58] (rz 2 53 0)))))))))))))))) (.s (.r (ra 2 0 0 (.grp 61 true (ri 5 2 580) [66] (ra 2 7 0 (.grp 68 true (ri 5 9 580) [73] (ra 2 14 0 (.grp 75 true (ri 5 16 580) [80] (ra 2 21 0 (.grp 82 true (ri 5 23 580) [87] (ra 2 28 0 (.grp 89 true (ri 5 30 580) [94] (rz 2 35 0)))))))))))) (.n)))) func50 rfl (by kernel_rfl) (by kernel_rfl) h
def vU (t0 t1 : Value) (w : World) (K : VW) : Prop:=
 pw w (Instr.box 41 t0) fun t2 w1=>
 pw w1 (Instr.box 41 t1) fun t3 w2=>
 fl w2 t2 41 0 39 fun t6=>fl w2 t3 41 0 39 fun t8=>bf .eql 39 t6 t8 fun t9=>za (fun K3=>gIf t9 true (fl w2 t2 41 1 2 fun t12=>fl w2 t3 41 1 2 fun t14=>bf .eql 2 t12 t14 fun t15=>K3 [t15] w2) (K3 [undef] w2)) (fun s4 _d5 w6=>
 zb t9 (s4.getD 0 undef) fa_ fun t16=>za (fun K7=>gIf t16 true (fl w6 t2 41 2 38 fun t19=>fl w6 t3 41 2 38 fun t21=>ca qN #[t19,t21] w6 fun t22 w11=>
 K7 [t22] w11) (K7 [undef] w6)) (fun s8 _d9 w10=>
 zb t16 (s8.getD 0 undef) fa_ fun t23=>K t23 w10))
theorem Qu {t0 t1 : Value} {w : World} {K : VW} (h : vU t0 t1 w K) : zd prog xh #[t0,t1] w K:=
 okC false (.s (.r (rz 3 0 10)) (.s (.r (ra 6 0 68 (.grp 10 true (ri 5 6 68) [15] (ra 2 11 0 (.grp 17 true (ri 5 13 580) [22] (rz 2 18 0)))))) (.n))) func82 rfl (by kernel_rfl) (by kernel_rfl) h
def Qb (t0 t1 : Value) (w : World) (K : VW) : Prop:=
 pw w (Instr.box 84 t0) fun t2 w1=>
 pw w1 (Instr.box 84 t1) fun t3 w2=>
 fl w2 t2 84 0 9 fun t6=>fl w2 t3 84 0 9 fun t8=>bf .eql 9 t6 t8 fun t9=>za (fun K3=>gIf t9 true (fl w2 t2 84 1 82 fun t12=>fl w2 t3 84 1 82 fun t14=>ca zF #[t12,t14,(Value.func (.func 43) #[] #[])] w2 fun t15 w7=>
 K3 [t15] w7) (K3 [undef] w2)) (fun s4 _d5 w6=>
 zb t9 (s4.getD 0 undef) fa_ fun t16=>K t16 w6)
theorem aa1 {t0 t1 : Value} {w : World} {K : VW} (h : Qb t0 t1 w K) : zd prog XR #[t0,t1] w K:=
 okC false (.s (.r (rz 3 0 10)) (.s (.r (ra 6 0 68 (.grp 10 true (ri 5 6 580) [15] (rz 2 11 0)))) (.n))) func41 rfl (by kernel_rfl) (by kernel_rfl) h
def YX (t0 t1 : Value) (w : World) (K : VW) : Prop:=
 pw w (Instr.box 86 t0) fun t2 w1=>
 pw w1 (Instr.box 86 t1) fun t3 w2=>
 fl w2 t2 86 0 9 fun t6=>fl w2 t3 86 0 9 fun t8=>bf .eql 9 t6 t8 fun t9=>za (fun K3=>gIf t9 true (fl w2 t2 86 1 57 fun t12=>fl w2 t3 86 1 57 fun t14=>ca qK #[t12,t14] w2 fun t15 w7=>
 K3 [t15] w7) (K3 [undef] w2)) (fun s4 _d5 w6=>
 zb t9 (s4.getD 0 undef) fa_ fun t16=>K t16 w6)
theorem VA {t0 t1 : Value} {w : World} {K : VW} (h : YX t0 t1 w K) : zd prog YF #[t0,t1] w K:=
 okC false (.s (.r (rz 3 0 10)) (.s (.r (ra 6 0 68 (.grp 10 true (ri 5 6 580) [15] (rz 2 11 0)))) (.n))) func43 rfl (by kernel_rfl) (by kernel_rfl) h
def Qc (t0 t1 : Value) (w : World) (K : VW) : Prop:=
 pw w (Instr.box 33 t0) fun t2 w1=>
 pw w1 (Instr.box 33 t1) fun t3 w2=>
 fl w2 t2 33 0 9 fun t7=>fl w2 t3 33 0 9 fun t9=>bf .eql 9 t7 t9 fun t10=>za (fun K3=>gIf t10 true (fl w2 t2 33 1 3 fun t13=>fl w2 t3 33 1 3 fun t15=>bf .eql 3 t13 t15 fun t16=>K3 [t16] w2) (K3 [undef] w2)) (fun s4 _d5 w6=>
 zb t10 (s4.getD 0 undef) fa_ fun t17=>za (fun K7=>gIf t17 true (fl w6 t2 33 3 3 fun t20=>fl w6 t3 33 3 3 fun t22=>bf .eql 3 t20 t22 fun t23=>K7 [t23] w6) (K7 [undef] w6)) (fun s8 _d9 w10=>
 zb t17 (s8.getD 0 undef) fa_ fun t24=>za (fun K11=>gIf t24 true (fl w10 t2 33 2 28 fun t27=>fl w10 t3 33 2 28 fun t29=>ca ye #[t27,t29] w10 fun t30 w15=>
 K11 [t30] w15) (K11 [undef] w10)) (fun s12 _d13 w14=>
 zb t24 (s12.getD 0 undef) fa_ fun t31=>za (fun K16=>gIf t31 true (fl w14 t2 33 5 30 fun t34=>fl w14 t3 33 5 30 fun t36=>ca xm #[t34,t36] w14 fun t37 w20=>
 K16 [t37] w20) (K16 [undef] w14)) (fun s17 _d18 w19=>
 zb t31 (s17.getD 0 undef) fa_ fun t38=>za (fun K21=>gIf t38 true (fl w19 t2 33 4 29 fun t42=>fl w19 t3 33 4 29 fun t44=>ca zJ #[t42,t44,(Value.func (.func 44) #[] #[])] w19 fun t45 w25=>
 K21 [t45] w25) (K21 [undef] w19)) (fun s22 _d23 w24=>
 zb t38 (s22.getD 0 undef) fa_ fun t46=>za (fun K26=>gIf t46 true (fl w24 t2 33 6 31 fun t49=>fl w24 t3 33 6 31 fun t51=>ca zG #[t49,t51,(Value.func (.func 50) #[] #[])] w24 fun t52 w30=>
 K26 [t52] w30) (K26 [undef] w24)) (fun s27 _d28 w29=>
 zb t46 (s27.getD 0 undef) fa_ fun t53=>K t53 w29))))))
theorem aa2 {t0 t1 : Value} {w : World} {K : VW} (h : Qc t0 t1 w K) : zd prog XS #[t0,t1] w K:=
 okC false (.s (.r (rz 3 0 10)) (.s (.r (ra 6 0 68 (.grp 11 true (ri 5 6 68) [16] (ra 2 11 0 (.grp 18 true (ri 5 13 68) [23] (ra 2 18 0 (.grp 25 true (ri 5 20 580) [30] (ra 2 25 0 (.grp 32 true (ri 5 27 580) [37] (rz 2 32 0)))))))))) (.s (.r (ra 2 0 0 (.grp 40 true (ri 5 2 580) [45] (ra 2 7 0 (.grp 47 true (ri 5 9 580) [52] (rz 2 14 0)))))) (.n)))) func45 rfl (by kernel_rfl) (by kernel_rfl) h
def JL (t0 : Value) (w : World) (K : VW) : Prop:=
 pw w (Instr.box 38 t0) fun t1 w1=>
 fl w1 t1 38 0 3 fun t7=>bt .lss 3 t7 (i6 0) fun t8=>zc t8 (K (Value.string { data:=#[] }) w1) (pw w1 (Instr.alloc 176 true (.tuple #[])) fun t3 w2=>
 fl w2 t1 38 0 3 fun t10=>ca xj #[t10] w2 fun t11 w3=>
 bt .add 9 (Value.string { data:=#[95] }) t11 fun t12=>ca yk #[t3,t12] w3 fun _t13 w4=>
 fl w4 t1 38 1 36 fun t15=>pp (Builtin.len_ #[36] 3 #[t15]) fun t16=>zn [(i6 0)] w4 (fun s6 _d7 w8 K5=>
 bf .lss 3 (s6.getD 0 undef) t16 fun t18=>zc t18 (za (fun K9=>
 xl w8 36 t15 (s6.getD 0 undef) 138 fun t20=>bt .lss 138 t20 (i6 (-1)) fun t27=>zc t27 (K (Value.string { data:=#[] }) w8) (bt .eql 138 t20 (i6 (-1)) fun t30=>zc t30 (ca yk #[t3,(Value.string { data:=#[46,42] })] w8 fun _t31 w13=>
 K9 [] w13) (ca xj #[t20] w8 fun t22 w14=>
 bt .add 9 (Value.string { data:=#[46] }) t22 fun t23=>ca yk #[t3,t23] w14 fun _t24 w15=>
 K9 [] w15))) (fun _s10 _d11 w12=>
 bt .add 3 (s6.getD 0 undef) (i6 1) fun t32=>K5 [t32] w12)) (ca qI #[t3] w8 fun t33 w16=>
 K t33 w16)))
theorem ac4 {t0 : Value} {w : World} {K : VW} (h : JL t0 w K) : zd prog kz #[t0] w K:=
 okC false (.s (.r (rz 2 0 2)) (.s (.s (.r (rz 3 0 4)) (.c (.s (.r (rz 1 0 0)) (.n)) (.n))) (.s (.r (rz 1 0 2)) (.s (.r (rz 5 0 548)) (.s (.s (.r (rz 4 0 4)) (.b (.lp [17] (.s (.r (rz 1 0 0)) (.s (.c (.n) (.n)) (.j [] (.b (.s (.r (rz 3 0 4)) (.b (.s (.r (rz 3 0 0)) (.c (.s (.r (rz 1 0 0)) (.n)) (.s (.r (rz 3 0 0)) (.c (.r (rz 1 0 2)) (.r (rz 4 0 136))))))))) (.r (rz 2 0 0)))))))) (.s (.r (rz 2 0 2)) (.n))))))) func79 rfl (by kernel_rfl) (by kernel_rfl) h
def JM (t0 t1 : Value) (w : World) (K : VW) : Prop:=
 pw w (Instr.box 38 t0) fun t2 w1=>
 pw w1 (Instr.box 38 t1) fun t3 w2=>
 lo w2 38 t2 fun t5=>lo w2 38 t3 fun t6=>ca ZR #[t5,t6] w2 fun t7 w3=>
 bt .eql 3 t7 (i6 0) fun t8=>K t8 w3
theorem ac5 {t0 t1 : Value} {w : World} {K : VW} (h : JM t0 t1 w K) : zd prog qN #[t0,t1] w K:=
 okC false (.s (.r (rz 3 0 10)) (.s (.r (rz 5 0 37)) (.n))) func81 rfl (by kernel_rfl) (by kernel_rfl) h
def QZ (t0 t1 : Value) (w : World) (K : VW) : Prop:=
 pw w (Instr.box 38 t0) fun t2 w1=>
 pw w1 (Instr.box 38 t1) fun t3 w2=>
 fl w2.drew t2 38 0 3 fun t6=>fl w2.drew t3 38 0 3 fun t8=>fl w2.drew t2 38 1 36 fun t11=>fl w2.drew t3 38 1 36 fun t13=>ca jk #[t6,t8] w2.drew fun t9 w3=>
 Ext w2.drew w3∧
 ca yz #[t11,t13] w3 fun t14 w4=>
 pw w4 (Instr.buildSlice 67 2 #[(0,t9),(1,t14)]) fun t15 w5=>
 ca YG #[t15] w5 fun t16 w6=>
 K t16 w6
theorem abZ {t0 t1 : Value} {w : World} {K : VW} (h : QZ t0 t1 w K) : zd prog ZR #[t0,t1] w K:=
 okC false (.s (.r (rz 3 0 10)) (.s (.r (ra 4 0 68 (ra 4 5 68 (ra 1 4 3 (rz 4 9 42))))) (.n))) func120 rfl (by kernel_rfl) (by kernel_rfl) h
end Go.Proofs.Tryz
end
section
namespace Go.Proofs
open Go.Sh
set_option maxRecDepth 100000
set_option linter.unusedSimpArgs false
set_option linter.unusedVariables false
theorem ahd {l : List Int} {i : Nat} (hi : i<l.length) : ((l.take (i+1)).map stT).flatten=((l.take i).map stT).flatten++stT l[i]:=by
 rw [List.take_succ_eq_append_getElem hi,List.map_append,List.flatten_append];simp
theorem ahe {l : List Int} (h : ∀ k ∈ l,¬ k < -1) : l.any (fun k=>decide (k < -1))=false:=by
 rw [List.any_eq_false];intro x hx;simpa using h x hx
theorem ahf {p : PlD} (hf : p.fit) (i : Nat) : (([95]++Lib.itoa p.l)++((p.ps.take i).map stT).flatten).length≤23000:=by
 have h1:=yO hf.1
 have h2:=aaf (f:=stT) (n:=22) (l:=p.ps.take i) fun k hk=>abU (hf.2.2 k (List.mem_of_mem_take hk))
 have h3:=hf.2.1
 have h4 : (p.ps.take i).length≤p.ps.length:=by rw [List.length_take];omega
 simp only [List.length_append,List.length_cons,List.length_nil];omega
set_option maxHeartbeats 1000000 in
theorem vE {p : PlD} {c : List Value} {w : World} {r : Gh} {K : Value→World→Prop} (hT : TabZ r) (hr : Holds r w) (hp : PlG r c p) (hf : p.fit)
  (h : ∀ w',Ext w w'→K (.string (bs (plT p))) w') : zd Tryz.prog Tryz.kz #[.agg c.toArray] w K:=by
 refine Tryz.ac4 ?_
 unfold Tryz.JL
 obtain ⟨v,rfl,hsl⟩:=hp
 obtain ⟨q,cap,rfl,_,_⟩:=hsl.sl.shape
 have hpl : p.ps.length≤9223372036854775807:=hsl.few
 have S:=St.start hr
 refine S.box fun b1 w1 S=>?_
 have S : StX noX w r w1 [.cell b1 [.int .i64 p.l,.slice q p.ps.length cap] 38]:=S
 refine gg_ ?_
 rw [plT] at h
 refine zh (fun hneg=>?_) (fun hpos=>?_)
 ·rw [if_pos hneg] at h;exact h _ S.ext
 rw [if_neg hpos] at h
 have S1:=S
 have hb1:=Ext.refl w1
 refine agt fun b w2 e2 hB=>?_
 have S:=S1.go e2
 refine gg_ ?_
 refine Yo hT hf.1 S.holds fun w3 e3=>?_
 have hlen:=yO hf.1
 refine s_c (by simp only [List.length_cons,List.length_nil];omega) ?_
 refine ZZ (hB.ext e3) (by simp only [List.length_append,List.length_cons,List.length_nil];omega) fun _ w4 h4 hB=>?_
 have e4 : Ext w1 w4:=Ext.below (e2.trans e3) h4
 clear h4
 have S:=S1.go e4
 refine gg_ ?_
 refine zi (ι:=Nat) (fun i=>[.int .i64 (i : Nat)]) (fun i w'=>i≤p.ps.length∧(∀ k ∈ p.ps.take i,¬ k < -1)∧Ext w1 w'∧Bld w1.heap.size b (([95]++Lib.itoa p.l)++((p.ps.take i).map stT).flatten) w') (fun i=>p.ps.length - i) 0 rfl
  ⟨Nat.zero_le _,by simp,e4,by simpa using hB⟩ ?_
 clear S
 rintro i d w8 ⟨hi,hok,e8,hB⟩ K5 hK5
 have S:=S1.go e8
 rw [List.getD_cons_zero]
 refine gg_ ?_
 refine zh (fun hlt=>?_) (fun hge=>?_)
 ·have hlt : i<p.ps.length:=by omega
  have htl:=ahf hf i
  obtain ⟨bs',os,cs,rfl,hcs,⟨rfl,hk⟩,hcl⟩:=hsl.sl.get (by decide) hlt
  have hload : w8.cell? ⟨bs',os+i,none⟩=some (.int .i64 p.ps[i]):=by simpa using S.at (hcl 0 _ rfl)
  have hmem : p.ps[i] ∈ p.ps:=List.getElem_mem hlt
  have hsn : ∀ k ∈ p.ps.take (i+1),¬ (p.ps[i] < -1)→¬ k < -1:=fun k hkm hki=>by
   rw [List.take_succ_eq_append_getElem hlt] at hkm
   rcases List.mem_append.1 hkm with hkm|hkm
   ·exact hok k hkm
   ·rw [List.mem_singleton.1 hkm];exact hki
  have hkl:=abU hk
  refine zu (fun _ w'=>¬ (p.ps[i] < -1)∧Ext w1 w'∧Bld w1.heap.size b ((([95]++Lib.itoa p.l)++((p.ps.take i).map stT).flatten)++stT p.ps[i]) w') (fun K9 hK9=>?_) ?_
  ·refine gg_ ?_
   refine zp (v:=.int .i64 p.ps[i]) (by rw [Int.toNat_natCast];exact hload) ?_
   refine gg_ ?_
   refine zh (fun hbad=>?_) (fun hgood=>?_)
   ·rw [if_pos (List.any_eq_true.2 ⟨_,hmem,by simpa using hbad⟩)] at h
    exact h _ (S1.go e8).ext
   refine gg_ ?_
   refine zh (fun hd=>?_) (fun hd=>?_)
   ·have hs2 : stT p.ps[i] = [46,42]:=by rw [stT,if_pos hd]
    rw [hs2] at hK9
    refine ZZ hB (by simp only [List.length_append,List.length_cons,List.length_nil] at htl ⊢;omega) fun _ w13 h13 hB=>?_
    exact hK9 _ _ ⟨hgood,Ext.below e8 h13,hB⟩
   ·have hs2 : stT p.ps[i] = [46]++Lib.itoa p.ps[i]:=by rw [stT,if_neg hd]
    have:=yO hk
    rw [hs2] at hK9
    refine Yo hT hk S.holds fun w14 e14=>?_
    refine s_c (by simp only [List.length_cons,List.length_nil];omega) ?_
    refine ZZ (hB.ext e14) (by simp only [List.length_append,List.length_cons,List.length_nil] at htl ⊢;omega) fun _ w15 h15 hB=>?_
    exact hK9 _ _ ⟨hgood,Ext.below (e8.trans e14) h15,hB⟩
  rintro _ w12 ⟨hgood,e12,hB⟩ d12
  refine gg_ ?_
  refine hK5 (i+1) _ ⟨hlt,fun k hkm=>hsn k hkm hgood,e12,?_⟩ (by omega)
  rw [ahd hlt,← List.append_assoc]
  exact hB
 have hie : i=p.ps.length:=by omega
 subst hie
 rw [List.take_length] at hok hB
 rw [ahe hok] at h
 refine agu hB fun w16 h16=>?_
 exact h _ (S1.go (Ext.below e8 h16)).ext
end Go.Proofs
end
section
namespace Go.Proofs
open Go.Sh
set_option maxRecDepth 100000
set_option linter.unusedSimpArgs false
set_option linter.unusedVariables false
theorem OpG.pl {r : Gh} {c : List Value} {o : OpD} (h : OpG r c o) : ∃ v,c = [.int .u8 o.k,.int .i64 o.n,.int .i64 o.pl.l,v]∧PlG r [.int .i64 o.pl.l,v] o.pl:=by
 obtain ⟨v,rfl,hs⟩:=h
 exact ⟨v,rfl,v,rfl,hs⟩
theorem qk {o : OpD} {c : List Value} {w : World} {r : Gh} {K : Value→World→Prop} (hT : TabZ r) (hr : Holds r w) (ho : OpG r c o) (hf : o.fit)
  (h : ∀ w',Ext w w'→K (.string (bs (opT o))) w') : zd Tryz.prog Tryz.xg #[.agg c.toArray] w K:=by
 refine Tryz.Qt ?_
 unfold Tryz.vT
 obtain ⟨v,rfl,hp⟩:=ho.pl
 have hpl:=X8 hf.2
 have S:=St.start hr
 refine S.box fun b1 w1 S=>?_
 have S : StX noX w r w1 [.cell b1 [.int .u8 o.k,.int .i64 o.n,.int .i64 o.pl.l,v] 41]:=S
 rw [opT] at h
 refine gg_ ?_
 refine zh (fun h1=>?_) (fun h1=>?_)
 ·rw [if_pos h1] at h
  refine gg_ ?_
  exact aeW hT hf.1 S.holds fun w2 e2=>h _ (S.go e2).ext
 rw [if_neg h1] at h
 refine gg_ ?_
 refine zh (fun h2=>?_) (fun h2=>?_)
 ·rw [if_pos h2] at h
  refine gg_ ?_
  refine aej ?_
  have:=h _ S.ext
  by_cases hn : o.n=1
  ·simpa [hn] using this
  ·simpa [hn] using this
 rw [if_neg h2] at h
 refine gg_ ?_
 refine zh (fun h3=>?_) (fun h3=>?_)
 ·rw [if_pos h3] at h
  refine gg_ ?_
  refine S.ldN (b:=b1) ?_
  refine vE hT S.holds hp hf.2 fun w2 e2=>?_
  refine s_c (by simp only [List.length_cons,List.length_nil];omega) ?_
  exact h _ (S.go e2).ext
 rw [if_neg h3] at h
 refine gg_ ?_
 refine S.ldN (b:=b1) ?_
 refine vE hT S.holds hp hf.2 fun w2 e2=>?_
 refine s_c (by simp only [List.length_cons,List.length_nil];omega) ?_
 exact h _ (S.go e2).ext
end Go.Proofs
end
section
namespace Go.Proofs
open Go.Sh
set_option linter.unusedVariables false
def stepG (ss : List StD) (s : TyD × Int) (k : Int) : Option (TyD × Int):=
 if k = -1∧s.1.k=3 then s.1.of.head?.map fun u=>(u,max s.2 1)
 else if k = -1∧s.1.k=4 then s.1.of.head?.map fun u=>(u,max s.2 (if s.1.m then 2 else 3))
 else if 0≤k∧s.1.k=5 then (ze ss s.1.st)[k.toNat]?.map fun u=>(u,s.2)
 else none
def goG (ss : List StD) : List Int→TyD × Int→Option (TyD × Int)
 |[],s=>some s
 |k::l,s=>(stepG ss s k).bind (goG ss l)
def zj (ss : List StD) (tys : List TyD) (p : PlD) : TyD × Int × Bool:=
 match (if p.l<0 then none else tys[p.l.toNat]?).bind fun t=>goG ss p.ps (t,0) with
 |some s=>(s.1,s.2,decide (p.ps.length≤8))
 |none=>(zD,0,false)
def ab0 : TyD:=⟨1,false,0,0,[]⟩
def Vm : TyD:=⟨2,false,0,0,[]⟩
def yS (p : PlD) : Bool:=decide (p.l=0)&&decide (p.ps.length=0)
def jE (o : OpD) : Bool:=(decide (o.k=0)&&decide (o.n=0))&&yS o.pl
def zr (ss : List StD) (tys : List TyD) (o : OpD) : TyD × Bool:=
 if o.k=1 then (ab0,yS o.pl)
 else if o.k=2 then (Vm,yS o.pl&&(decide (o.n=0)||decide (o.n=1)))
 else if o.k=3 then ((zj ss tys o.pl).1,((zj ss tys o.pl).2.2&&decide (o.n=0))&&xS (zj ss tys o.pl).1)
 else if o.k=4 then ((zj ss tys o.pl).1,(((zj ss tys o.pl).2.2&&decide (o.n=0)) && !xS (zj ss tys o.pl).1)&&decide ((zj ss tys o.pl).2.1<2))
 else (zD,false)
structure aah where
 to : Bool:=false
 a : Bool:=false
 b : Bool:=false
 args : Bool:=false
 sign : Bool:=false
 fr : Bool:=false
 mu : Bool:=false
 fn : Bool:=false
 st : Bool:=false
 el : Bool:=false
def qE (p : PtD) (h : aah) : List Bool:=
 [h.to||yS p.to,h.a||jE p.a,h.b||jE p.b,h.args||decide (p.args.length=0),h.sign||(p.sign.toList == []),h.fr||yS p.fr,h.mu || !p.mu,h.fn||decide (p.fn=0),h.st||decide (p.st=0),h.el||decide (p.el=0)]
def zC (p : PtD) (h : aah) : Bool:=(qE p h).all id
def yT (ss : List StD) (tys : List TyD) : List OpD→List TyD→Bool
 |[],[]=>true
 |o::l,t::r=>((zr ss tys o).2&&zI yf (zr ss tys o).1 t)&&yT ss tys l r
 |_,_=>false
def XI (g : GrD) (q : Int) : Bool:=decide (0≤q)&&decide (q<g.pts.length)
def isK (t : TyD) (k : Int) : Bool:=decide (t.k=k)
def yc (s : ByteArray) (l : List (List UInt8)) : Bool:=l.any fun x=>s.toList == x
noncomputable def ptG (u : UnD) (g : GrD) (p : PtD) : Bool:=
 let to:=zj u.ss g.tys p.to
 let fr:=zj u.ss g.tys p.fr
 let laid:=to.2.2&&decide (to.2.1<3)
 let a:=zr u.ss g.tys p.a
 let b:=zr u.ss g.tys p.b
 let ints:=isK a.1 1&&isK b.1 1
 if p.op=1 then ((zC p { to:=true,a:=true } && laid)&&a.2)&&zI yf a.1 to.1
 else if p.op=2 then
  (zC p { to:=true,a:=true,b:=true,sign:=true } && (laid&&(a.2&&b.2))) &&
   (if yc p.sign [[43],[45],[42],[47],[37]] then isK to.1 1&&ints
    else if yc p.sign [[60],[60,61],[62],[62,61]] then isK to.1 2&&ints
    else if yc p.sign [[61,61],[33,61]] then isK to.1 2&&(ints||(isK a.1 2&&isK b.1 2)) else false)
 else if p.op=3 then
  ((zC p { to:=true,a:=true,sign:=true } && laid)&&a.2) &&
   (if yc p.sign [[45]] then isK to.1 1&&isK a.1 1 else if yc p.sign [[33]] then isK to.1 2&&isK a.1 2 else false)
 else if p.op=4 then
  ((((zC p { to:=true,fr:=true,mu:=true } && laid)&&fr.2.2)&&isK to.1 4)&&decide (to.1.m=p.mu))&&(zI yf (to.1.of.headD zD) fr.1 && !(p.mu&&decide (fr.2.1=3)))
 else if p.op=5 then (((zC p { to:=true,a:=true } && laid)&&a.2)&&isK to.1 3)&&zI yf (to.1.of.headD zD) a.1
 else if p.op=6 then
  (((zC p { to:=true,args:=true,st:=true } && laid)&&isK to.1 5)&&decide (to.1.st=p.st))&&yT u.ss g.tys p.args (yi u.ss to.1).1
 else if p.op=7 then
  ((zC p { to:=true,args:=true,fn:=true } && laid)&&(decide (0≤p.fn)&&decide (p.fn<u.fs.length))) &&
   (match u.fs[p.fn.toNat]? with
    |some f=>zI yf to.1 (f.tys.headD zD)&&yT u.ss g.tys p.args ((f.tys.drop 1).take f.pn.toNat)
    |none=>false)
 else if p.op=8 then (zC p { to:=true } && laid)&&isK to.1 1
 else if p.op=9 then (zC p { a:=true } && a.2)&&isK a.1 1
 else if p.op=10 then ((zC p { fr:=true } && fr.2.2)&&(k0 u.ss fr.1).1)&&decide (fr.2.1<2)
 else if p.op=11 then ((zC p { fr:=true } && fr.2.2)&&decide (0<p.fr.l))&&decide (p.fr.ps.length=0)
 else if p.op=12 then ((zC p { a:=true,el:=true } && a.2)&&isK a.1 2)&&XI g p.el
 else if p.op=13∨p.op=14 then zC p {}
 else false
noncomputable def zP (u : UnD) (g : GrD) (p : PtD) : Bool:=
 !((decide (p.tx<0)||(!decide (p.op=14) && !XI g p.nx))||(decide (p.op=14) && !decide (p.nx=0)))&&ptG u g p
def kQ (x y : Int) : List Int→Bool
 |[]=>false
 |a::l=>(decide (a=y)&&l.contains x)||kQ x y l
def jF (tys : List TyD) (x y : Int) : Bool:=tys.any fun t=>kQ x y (regsT t)
def jc (outs : List (Int × Int)) (x y : Int) : Bool:=outs.contains (x,y)
def ku (lv : Int) (o : Int × Int) : Bool:=!((decide (min o.1 o.2<0)||decide (lv≤max o.1 o.2))||decide (o.1=o.2))
def vF (o w : Int × Int) : Bool:=decide (o.1<w.1)||(decide (o.1=w.1)&&decide (o.2<w.2))
def aa3 : List (Int × Int)→Bool
 |a::b::l=>vF a b&&aa3 (b::l)
 |_=>true
def afL (n : Nat) (must says : Int→Int→Bool) : Bool:=
 (List.range n).all fun a : Nat=>(List.range n).all fun b : Nat=>
  ((List.range n).all fun c : Nat=>!((says a b&&says b c)&&(!decide (a=c) && !says a c))) && !(!decide (a=b)&&(must a b && !says a b))
def jd (g : GrD) : Bool:=
 (g.outs.all (ku g.lv)&&aa3 g.outs)&&afL g.lv.toNat (jF (g.tys.take (g.pn.toNat+1))) (jc g.outs)
noncomputable def tyG (u : UnD) (g : GrD) (i : Nat) (t : TyD) : Bool:=
 zY u.ss t&&(regsT t).all fun r=>!(decide (r<(if (i : Int)≤g.pn then 0 else -1))||decide (g.lv≤r))
noncomputable def jm (u : UnD) (g : GrD) : Nat→List TyD→Bool
 |_,[]=>true
 |i,t::l=>tyG u g i t&&jm u g (i+1) l
def yo (l : List PtD) : Nat:=l.countP fun p=>decide (p.op=4)
noncomputable def yU (u : UnD) (fn : Nat) (g : GrD) : Bool:=
 ((((((decide (0≤g.lv)&&decide (g.lv≤8))&&(decide (0≤g.pn)&&decide (g.pn≤8)))&&(decide (g.pn<g.tys.length)&&decide (g.tys.length≤512)))&&decide (g.nms.length=g.tys.length)) &&
  jm u g 0 g.tys)&&((decide (1≤g.pts.length)&&decide (g.pts.length≤1024))&&jd g)) &&
  (decide (yo g.pts≤256)&&(!decide ((fn : Int)=u.mn)||((decide (g.lv=0)&&decide (g.pn=0))&&isK (g.tys.headD zD) 1)))
noncomputable def qT (u : UnD) : Nat→List GrD→Option Nat
 |_,[]=>none
 |i,g::l=>if yU u i g then qT u (i+1) l else some i
noncomputable def Zq (u : UnD) (g : GrD) : Nat→List PtD→Option Nat
 |_,[]=>none
 |q,p::l=>if zP u g p then Zq u g (q+1) l else some q
noncomputable def Zg (u : UnD) : Nat→List GrD→Option (Nat × Nat)
 |_,[]=>none
 |i,g::l=>match Zq u g 0 g.pts with|some q=>some (i,q)|none=>Zg u (i+1) l
noncomputable def k7 (u : UnD) : Int × Int × Int:=
 if !decide ((zw u.ss).2=0)||(decide (u.fs.length<1)||decide (32<u.fs.length))||(decide (u.mn<0)||decide ((u.fs.length : Int)≤u.mn)) then (-1,-1,100)
 else match qT u 0 u.fs with
  |some i=>(i,-1,100)
  |none=>match Zg u 0 u.fs with
   |some (i,q)=>(i,q,100)
   |none=>(0,0,0)
noncomputable def kD (u : UnD) : Bool:=decide ((k7 u).2.2=0)
end Go.Proofs
end
section
namespace Go.Proofs
open Go.Sh
set_option linter.unusedVariables false
theorem JN : ∀ {n : Nat} {s s' : Int} {m : Nat} {t : TyD},zz s n t=true→n≤m→s≤s'→zz s' m t=true:=by
 intro n
 induction n with
 |zero=>intro s s' m t h;cases h
 |succ n ih=>
  intro s s' m t h hm hs
  obtain ⟨m,rfl⟩ : ∃ k,m=k+1:=⟨m - 1,by omega⟩
  have inn : inB s n t=true→inB s' m t=true:=by
   intro hi
   cases t with
   |mk k mm re st of=>
    cases of with
    |nil=>cases hi
    |cons u l=>exact ih (t:=u) hi (by omega) hs
  rw [xE] at h ⊢
  split
  ·rename_i h1;rw [if_pos h1] at h;exact h
  ·rename_i h1;rw [if_neg h1] at h
   split
   ·rename_i h2;rw [if_pos h2] at h
    simp only [Bool.and_eq_true,decide_eq_true_eq] at h ⊢
    exact ⟨h.1,by omega⟩
   ·rename_i h2;rw [if_neg h2] at h
    split
    ·rename_i h3;rw [if_pos h3] at h
     simp only [Bool.and_eq_true,decide_eq_true_eq] at h ⊢
     exact ⟨h.1,h.2.1,inn h.2.2⟩
    ·rename_i h3;rw [if_neg h3] at h
     split
     ·rename_i h4;rw [if_pos h4] at h
      simp only [Bool.and_eq_true,decide_eq_true_eq] at h ⊢
      exact ⟨h.1,h.2.1,inn h.2.2⟩
     ·rename_i h4;rw [if_neg h4] at h;cases h
def Fine (ss : List StD) (t : TyD) : Prop:=zz ss.length 48 t=true
theorem Fine.is {ss : List StD} {t : TyD} (h : Fine ss t) (hs : ss.length≤32) : isB t=true:=JN h (Nat.le_refl _) (by omega)
theorem Fine.cases {ss : List StD} {t : TyD} (h : Fine ss t) : (t.of = []∧(t.k=1∨t.k=2∨t.k=5))∨∃ u,t.of = [u]∧Fine ss u∧(t.k=3∨t.k=4):=by
 rcases zS h with h|⟨u,h1,h2,h3⟩
 ·exact .inl h
 ·exact .inr ⟨u,h1,JN h2 (by omega) (Int.le_refl _),h3⟩
theorem Fine.st {ss : List StD} {t : TyD} (h : Fine ss t) (hk : t.k=5) : 0≤t.st∧t.st<ss.length:=by
 have:=qY h hk
 exact ⟨this.1,this.2.1⟩
theorem agv {ss : List StD} (hg : xQ ss) {s : TyD × Int} {k : Int} {s' : TyD × Int} (h : Fine ss s.1) (e : stepG ss s k=some s') : Fine ss s'.1:=by
 have inside : ∀ {f : TyD→TyD × Int},(∀ u,(f u).1=u)→s.1.of.head?.map f=some s'→Fine ss s'.1:=by
  intro f hf e
  rcases h.cases with ⟨h1,_⟩|⟨u,h1,h2,_⟩
  ·rw [h1] at e;cases e
  ·rw [h1] at e
   obtain rfl:=Option.some.inj e
   rw [hf];exact h2
 unfold stepG at e
 split at e
 ·exact inside (fun _=>rfl) e
 split at e
 ·exact inside (fun _=>rfl) e
 split at e
 ·rename_i h3
  cases hu : (ze ss s.1.st)[k.toNat]? with
  |none=>rw [hu] at e;cases e
  |some u=>
   rw [hu] at e
   obtain rfl:=Option.some.inj e
   exact hg _ u (List.mem_of_getElem? hu)
 ·cases e
theorem ab1 {ss : List StD} (hg : xQ ss) : ∀ {l : List Int} {s s' : TyD × Int},Fine ss s.1→goG ss l s=some s'→Fine ss s'.1
 |[],s,s',h,e=>by obtain rfl:=Option.some.inj e;exact h
 |k::l,s,s',h,e=>by
  rw [goG] at e
  cases hs : stepG ss s k with
  |none=>rw [hs] at e;cases e
  |some s2=>rw [hs] at e;exact ab1 hg (agv hg h hs) e
structure xx (ss : List StD) (tys : List TyD) : Prop where
 few : ss.length≤32
 good : xQ ss
 acy : ∀ k,¬ Rch ss k k
 all : ∀ t ∈ tys,Fine ss t
theorem x7 {ss : List StD} {tys : List TyD} (h : xx ss tys) {p : PlD} (ho : (zj ss tys p).2.2=true) : Fine ss (zj ss tys p).1:=by
 unfold zj at ho ⊢
 cases hb : (if p.l<0 then none else tys[p.l.toNat]?).bind fun t=>goG ss p.ps (t,0) with
 |none=>rw [hb] at ho;cases ho
 |some s=>
  show Fine ss s.1
  split at hb
  ·cases hb
  ·cases ht : tys[p.l.toNat]? with
   |none=>rw [ht] at hb;cases hb
   |some t=>
    rw [ht] at hb
    exact ab1 h.good (h.all t (List.mem_of_getElem? ht)) hb
end Go.Proofs
end
section
namespace Go.Proofs
open Go.Sh
set_option linter.unusedVariables false
def ahg : List Int→Int→List Int
 |[],_=>[]
 |k::l,c=>if k<0 then c::ahg l (c+1) else k::ahg l c
def ahh : List Int→Int
 |[]=>0
 |k::l=>(if k<0 then 1 else 0)+ahh l
def aiJ : List TyD→Int→List TyD
 |[],_=>[]
 |t::l,c=>t.lay (ahg (regsT t) c)::aiJ l (c+ahh (regsT t))
def ahi : List TyD→Int
 |[]=>0
 |t::l=>ahh (regsT t)+ahi l
def ajN (u : UnD) (fn : Int) : Int:=match u.fs[fn.toNat]? with|some g=>g.lv|none=>0
def ptN (u : UnD) (p : PtD) : Int:=if p.op=4 then 1 else if p.op=7 then ajN u p.fn else 0
def atK (u : UnD) : List PtD→Int→List Int
 |[],_=>[]
 |p::l,c=>(if ptN u p=0 then -1 else c)::atK u l (c+ptN u p)
def atC (u : UnD) : List PtD→Int
 |[]=>0
 |p::l=>ptN u p+atC u l
structure RgD where
 lv : Int
 pt : Int
 ct : Int
 tys : List TyD
 at' : List Int
def agw : RgD:=⟨0,0,0,[],[]⟩
def aiK (u : UnD) (g : GrD) : RgD:=⟨g.lv,g.pts.length,g.lv+ahi g.tys+atC u g.pts,aiJ g.tys g.lv,atK u g.pts (g.lv+ahi g.tys)⟩
noncomputable def isU (u : UnD) (fn q : Int) : Bool:=(decide (0≤fn)&&decide (fn<u.fs.length))&&(kD u&&decide (q<((u.fs[fn.toNat]?.map fun g=>(g.pts.length : Int)).getD 0)))
noncomputable def aiL (u : UnD) (fn q : Int) : RgD × Int:=
 if isU u fn q then (match u.fs[fn.toNat]? with|some g=>(aiK u g,0)|none=>(agw,2)) else (agw,2)
end Go.Proofs
end
section
namespace Go.Proofs
open Go.Sh
set_option linter.unusedVariables false
end Go.Proofs
end
section
namespace Go.Proofs
open Go.Sh
set_option maxRecDepth 100000
set_option linter.unusedSimpArgs false
set_option linter.unusedVariables false
instance {P : Program} {t e ty : TypeId} {a b : Int} : PStep P (Builtin.max_ #[t,e] ty #[.int .i64 a,.int .i64 b]) (.int .i64 (max a b)):=⟨fun w=>Lib.run_max_ints w _ _ _ _ _ _⟩
instance (priority:=low) {P : Program} {t : TypeId} {c : Bool} {x : ByteArray} {m : List UInt8} : PStep P (yg .eql t c (.string x) (.string (bs m))) (.bool (x.toList == m)):=.of fun _ k=>
 yl (fun w=>by rw [Yu trivial,binOp_string_eql,jS m];rfl) k
theorem aiM {P : Program} {w : World} {s : Sem Value} {K : Value→World→Prop} (h : opQ P w s fun v=>K v w) : opW P w s K:=w_q (by
 obtain ⟨v,h1,h2⟩:=h
 exact ⟨v,h1,h2⟩)
theorem SlB.lt {α : Type} {sz : Nat} {r : Gh} {R : List Value→α→Prop} {v : Value} {l : List α} (h : SlB sz r R v l) : l.length≤9223372036854775807:=h.few
theorem XJ {a : Nat} : decide ((a : Int)=0)=decide (a=0):=decide_eq_decide.2 (by omega)
theorem qU {p : PlD} {c : List Value} {w : World} {r : Gh} {K : Value→World→Prop} (hr : Holds r w) (hp : PlG r c p) (h : ∀ w',Ext w w'→K (.bool (yS p)) w') :
  zd Tryz.prog Tryz.xI #[.agg c.toArray] w K:=by
 obtain ⟨v,rfl,hl⟩:=hp
 obtain ⟨q,cap,rfl,_,_⟩:=hl.sl.shape
 refine Tryz.acL ?_
 unfold Tryz.Jk
 have S:=St.start hr
 refine S.box fun b1 w1 S=>?_
 refine gG_ ?_
 refine zg (c:=decide (p.ps.length=0)) (fun _ K2 hK2=>?_) ?_
 ·refine gG_ ?_
  rw [XJ]
  exact hK2
 exact h _ S.ext
def AskG (r : Gh) (v : Value) (u : UnD) (g : GrD) : Prop:=∃ p cap vf vo vt vn vp,v = .agg #[.slice p u.ss.length cap,vf,.int .i64 u.mn,.string g.name,.int .i64 g.lv,vo,.int .i64 g.pn,vt,vn,vp]∧
 UnG r (.agg #[.slice p u.ss.length cap,vf,.int .i64 u.mn]) u∧GrG r [.string g.name,.int .i64 g.lv,vo,.int .i64 g.pn,vt,vn,vp] g
theorem AskG.up {r s : Gh} {v : Value} {u : UnD} {g : GrD} (h : AskG r v u g) [l : Le r s] : AskG s v u g:=by
 obtain ⟨p,cap,vf,vo,vt,vn,vp,h0,h1,h2⟩:=h
 exact ⟨p,cap,vf,vo,vt,vn,vp,h0,h1.up,h2.up⟩
abbrev tyL (t : TyD) (q : Option Addr) (cap : Nat) : List Value:=[.int .u8 t.k,.bool t.m,.int .i64 t.re,.int .i64 t.st,.slice q t.of.length cap]
abbrev tyV (t : TyD) (q : Option Addr) (cap : Nat) : Value:=.agg #[.int .u8 t.k,.bool t.m,.int .i64 t.re,.int .i64 t.st,.slice q t.of.length cap]
abbrev spL (t : TyD) (q : Option Addr) (cap : Nat) (m : Int) (ok : Bool) : List Value:=[.int .u8 t.k,.bool t.m,.int .i64 t.re,.int .i64 t.st,.slice q t.of.length cap,.int .i64 m,.bool ok]
abbrev spV (t : TyD) (q : Option Addr) (cap : Nat) (m : Int) (ok : Bool) : Value:=.agg #[.int .u8 t.k,.bool t.m,.int .i64 t.re,.int .i64 t.st,.slice q t.of.length cap,.int .i64 m,.bool ok]
theorem y6 {r : Gh} {c : List Value} {t : TyD} (h : TyG r (.agg c.toArray) t) : ∃ q cap,c=tyL t q cap∧TyG r (tyV t q cap) t:=by
 obtain ⟨p,cap,h1,_⟩:=YT h
 subst h1
 exact ⟨p,cap,rfl,h⟩
theorem Zr {r : Gh} {s uu : TyD} {q : Option Addr} {cap : Nat} (h : TyG r (tyV s q cap) s) (hof : s.of = [uu]) : ∃ b off q2 cap2,q=some ⟨b,off,none⟩∧TyG r (tyV uu q2 cap2) uu∧∀ j v,(tyL uu q2 cap2)[j]? = some v→Ob r fun w=>w.cell? ⟨b,off+j,none⟩=some v:=by
 obtain ⟨_,_,hE,_,_,hreps⟩:=h
 cases hE
 obtain ⟨b,off,rfl,c,h1,h2,h3⟩:=NdG.of hreps (i:=0) (by rw [hof];exact Nat.one_pos)
 have h3 : TyG r (.agg c.toArray) uu:=by simpa [hof] using h3
 obtain ⟨q2,cap2,rfl,ht⟩:=y6 h3
 exact ⟨b,off,q2,cap2,rfl,ht,by simpa using h2⟩
theorem aa4 (ss : List StD) : ∀ (l : List Int) (k : Int) (s : TyD × Int),goG ss (l ++ [k]) s=(goG ss l s).bind fun s'=>stepG ss s' k
 |[],k,s=>by
  show (stepG ss s k).bind (goG ss [])=stepG ss s k
  cases stepG ss s k<;>rfl
 |x::l,k,s=>by
  rw [List.cons_append,goG,goG]
  cases h : stepG ss s x with
  |none=>rfl
  |some s'=>exact aa4 ss l k s'
theorem aek {ss : List StD} : ∀ {l m : List Int} {s : TyD × Int},goG ss l s=none→goG ss (l++m) s=none
 |[],m,s,h=>by cases h
 |x::l,m,s,h=>by
  rw [List.cons_append,goG]
  rw [goG] at h
  cases hs : stepG ss s x with
  |none=>rfl
  |some s'=>rw [hs] at h;exact aek (l:=l) (m:=m) h
theorem agx {ss : List StD} {tys : List TyD} {p : PlD} {t : TyD} {i : Nat} (h0 : 0≤p.l) (ht : tys[p.l.toNat]? = some t) (h : goG ss (p.ps.take i) (t,0)=none) : zj ss tys p=(zD,0,false):=by
 have:=aek (m:=p.ps.drop i) h
 rw [List.take_append_drop] at this
 unfold zj
 rw [if_neg (by omega),ht]
 show (match goG ss p.ps (t,0) with|some s=>(s.1,s.2,decide (p.ps.length≤8))|none=>(zD,0,false))=_
 rw [this]
theorem agy {ss : List StD} {tys : List TyD} {p : PlD} {t : TyD} {s : TyD × Int} (h0 : 0≤p.l) (ht : tys[p.l.toNat]? = some t) (h : goG ss p.ps (t,0)=some s) : zj ss tys p=(s.1,s.2,decide (p.ps.length≤8)):=by
 unfold zj
 rw [if_neg (by omega),ht]
 show (match goG ss p.ps (t,0) with|some s=>(s.1,s.2,decide (p.ps.length≤8))|none=>(zD,0,false))=_
 rw [h]
theorem ahj {ss : List StD} {tys : List TyD} {p : PlD} (h : p.l<0∨(tys.length : Int)≤p.l) : zj ss tys p=(zD,0,false):=by
 unfold zj
 by_cases h0 : p.l<0
 ·rw [if_pos h0];rfl
 ·rw [if_neg h0,List.getElem?_eq_none (by omega)];rfl
set_option maxHeartbeats 1000000 in
theorem yP {u : UnD} {g : GrD} {p : PlD} {c : List Value} {v : Value} {w : World} {r : Gh} {K : Value→World→Prop} {t : TyD} {m : Int} {ok : Bool} (hr : Holds r w) (hx : AskG r v u g) (hf : xx u.ss g.tys) (hp : PlG r c p) (hsp : zj u.ss g.tys p=(t,m,ok))
  (h : ∀ q cap w',Ext w w'→TyG r (tyV t q cap) t→K (spV t q cap m ok) w') : zd Tryz.prog Tryz.zs #[v,.agg c.toArray] w K:=by
 obtain ⟨p0,cap0,vf,vo,vt,vn,vp,rfl,hu,hg⟩:=hx
 obtain ⟨_,_,_,_,hE,_,htys,_,_⟩:=hg
 cases hE
 obtain ⟨_,_,_,hE,_,_,hst,_,_⟩:=hu
 cases hE
 obtain ⟨qt,capt,rfl,_,_⟩:=htys.sl.shape
 obtain ⟨v,rfl,hl⟩:=hp
 obtain ⟨qs,caps,rfl,_,_⟩:=hl.sl.shape
 have hbl:=hl.lt
 refine Tryz.Q7 ?_
 unfold Tryz.Zy
 have S:=St.start hr
 refine S.box fun b2 w1 S=>?_
 refine S.box fun b3 w2 S=>?_
 refine S.al fun b4 w3 S=>?_
 refine gG_ ?_
 refine zf (c:=decide ((g.tys.length : Int)≤p.l)) (fun _ K2 hK2=>?_) ?_
 ·refine gG_ ?_
  exact hK2
 refine c_b (fun ho=>?_) (fun hi=>?_)
 ·have hz:=ahj (ss:=u.ss) (tys:=g.tys) (p:=p) (by simpa using ho)
  rw [hz] at hsp;cases hsp
  refine zx (cs:=#[.int .u8 0,.bool false,.int .i64 0,.int .i64 0,.slice none 0 0,.int .i64 0,.bool false]) (by kernel_rfl) ?_
  refine S.stB (b:=b4) fun w5 S=>?_
  refine gG_ ?_
  exact h none 0 _ S.ext yh
 have hlo : 0≤p.l∧p.l<g.tys.length:=by
  simp only [Bool.or_eq_false_iff,decide_eq_false_iff_not] at hi;omega
 clear hi
 have hlt0 : p.l.toNat<g.tys.length:=by omega
 obtain ⟨bt,ot,ct,rfl,hct,htc,hcell⟩:=htys.sl.get (by decide) hlt0
 obtain ⟨t0,hti⟩ : ∃ t0,g.tys[p.l.toNat]=t0:=⟨_,rfl⟩
 rw [hti] at htc
 have hq : g.tys[p.l.toNat]? = some t0:=by rw [List.getElem?_eq_getElem hlt0,hti]
 have hfi : Fine u.ss t0:=hf.all _ (List.mem_of_getElem? hq)
 obtain ⟨q0,cap1,rfl,ht0⟩:=y6 htc
 have S:=S.go (Ext.drew _)
 refine gG_ ?_
 refine zq (n:=5) hct (fun j v hj=>S.at (hcell j v hj)) ?_
 refine gG_ ?_
 refine S.alU fun b5 w10 S=>?_
 refine S.stB (b:=b5) fun w11 S=>?_
 refine gG_ ?_
 have hok : decide (p.ps.length≤8)=decide ((p.ps.length : Int)≤8):=decide_eq_decide.2 (by omega)
 refine zi (ι:=Nat × TyD × Int × Option Addr × Nat) (fun i=>[.int .i64 (i.1 : Nat)]) (fun i w'=>i.1≤p.ps.length∧goG u.ss (p.ps.take i.1) (t0,0)=some (i.2.1,i.2.2.1)∧TyG r (tyV i.2.1 i.2.2.2.1 i.2.2.2.2) i.2.1∧
  StX noX w r w' [.cell b5 (spL i.2.1 i.2.2.2.1 i.2.2.2.2 i.2.2.1 (decide ((p.ps.length : Int)≤8))) 115,.cell b4 [.int .u8 0,.bool false,.int .i64 0,.int .i64 0,.slice none 0 0,.int .i64 0,.bool false] 115,.cell b3 [.int .i64 p.l,.slice qs p.ps.length caps] 38,
   .cell b2 [.slice p0 u.ss.length cap0,vf,.int .i64 u.mn,.string g.name,.int .i64 g.lv,vo,.int .i64 g.pn,.slice (some ⟨bt,ot,none⟩) g.tys.length capt,vn,vp] 117]) (fun i=>p.ps.length - i.1) (0,t0,0,q0,cap1) rfl ⟨Nat.zero_le _,rfl,ht0,S⟩ ?_
 clear S
 rintro ⟨i,s,m',q,cap⟩ d w15 ⟨hi,hgo,hs,S⟩ K6 hK6
 simp only at hi hgo hs S ⊢
 rw [List.getD_cons_zero]
 refine gG_ ?_
 refine c_b (fun hlt=>?_) (fun hge=>?_)
 rotate_left
 ·have hie : i=p.ps.length:=by
   have:=of_decide_eq_false hge;omega
  rw [hie,List.take_length] at hgo
  rw [agy hlo.1 hq hgo,hok] at hsp
  cases hsp
  refine gG_ ?_
  refine S.stB (b:=b4) fun w16 S=>?_
  refine gG_ ?_
  exact h _ _ _ S.ext hs
 have hlt : i<p.ps.length:=by simpa using hlt
 have hsf : Fine u.ss s:=ab1 hf.good hfi hgo
 obtain ⟨k,hke⟩ : ∃ k,p.ps[i]=k:=⟨_,rfl⟩
 obtain ⟨bs,os,cs,rfl,hcs,hck,hcl⟩:=hl.sl.get (by decide) hlt
 rw [hke] at hck
 obtain ⟨rfl,hin⟩:=hck
 have hstep : goG u.ss (p.ps.take (i+1)) (t0,0)=stepG u.ss (s,m') k:=by
  rw [List.take_succ_eq_append_getElem hlt,aa4,hgo,hke];rfl
 refine zu (fun _ w'=>∃ s' m2 q' cap',stepG u.ss (s,m') k=some (s',m2)∧TyG r (tyV s' q' cap') s'∧
  StX noX w r w' [.cell b5 (spL s' q' cap' m2 (decide ((p.ps.length : Int)≤8))) 115,.cell b4 [.int .u8 0,.bool false,.int .i64 0,.int .i64 0,.slice none 0 0,.int .i64 0,.bool false] 115,.cell b3 [.int .i64 p.l,.slice (some ⟨bs,os,none⟩) p.ps.length caps] 38,
   .cell b2 [.slice p0 u.ss.length cap0,vf,.int .i64 u.mn,.string g.name,.int .i64 g.lv,vo,.int .i64 g.pn,.slice (some ⟨bt,ot,none⟩) g.tys.length capt,vn,vp] 117]) (fun K16 hK16=>?_) ?_
 rotate_left
 ·rintro _ w19 ⟨s',m2,q',cap',h1,h2,S⟩ d2
  refine gG_ ?_
  rw [show ((i : Int)+1)=((i+1 : Nat) : Int) by omega]
  exact hK6 (i+1,s',m2,q',cap') _ ⟨hlt,hstep.trans h1,h2,S⟩ (by show p.ps.length - (i+1)<p.ps.length - i;omega)
 refine gG_ ?_
 refine zp (v:=.int .i64 k) (by simpa using S.at (hcl 0 _ rfl)) ?_
 refine gP_ ?_
 refine S.ldN (b:=b5) ?_
 refine S.al fun b8 w20 S=>?_
 refine S.stB (b:=b8) fun w21 S=>?_
 refine gG_ ?_
 refine zg (c:=decide (s.k=3)) (fun _ K2 hK2=>?_) ?_
 ·refine gG_ ?_
  exact hK2
 have down : (s.k=3∨s.k=4)→∃ uu,s.of = [uu]:=by
  intro hk
  rcases hsf.cases with ⟨_,h1⟩|⟨uu,h1,_⟩
  ·omega
  ·exact ⟨uu,h1⟩
 refine c_b (fun hB=>?_) (fun hB=>?_)
 ·obtain ⟨hk1,hk3⟩ : k = -1∧s.k=3:=by simpa using hB
  obtain ⟨uu,hof⟩:=down (.inl hk3)
  obtain ⟨bo,oo,q2,cap2,rfl,ht2,hcc⟩:=Zr hs hof
  have hl1 : s.of.length=1:=by rw [hof];rfl
  refine gG_ ?_
  refine S.st (b:=b5) fun w26 S=>?_
  refine gG_ ?_
  refine zq (n:=5) (c:=tyL uu q2 cap2) rfl (fun j v hj=>by simpa using S.at (hcc j v hj)) ?_
  refine gG_ ?_
  refine S.stN (b:=b5) fun w27 S=>?_
  refine hK16 [] _ ⟨uu,max m' 1,q2,cap2,?_,ht2,S.drop b8⟩
  rw [stepG,if_pos ⟨hk1,hk3⟩,hof];rfl
 have hB : ¬ (k = -1∧s.k=3):=by simpa using hB
 refine gG_ ?_
 refine zg (c:=decide (s.k=4)) (fun _ K2 hK2=>?_) ?_
 ·refine gG_ ?_
  exact hK2
 refine c_b (fun hR=>?_) (fun hR=>?_)
 ·obtain ⟨hk1,hk3⟩ : k = -1∧s.k=4:=by simpa using hR
  obtain ⟨uu,hof⟩:=down (.inr hk3)
  obtain ⟨bo,oo,q2,cap2,rfl,ht2,hcc⟩:=Zr hs hof
  have hl1 : s.of.length=1:=by rw [hof];rfl
  refine zu (fun s' w'=>s' = [.int .i64 (if s.m then 2 else 3)]∧w'=w21) (fun K7 hK7=>?_) ?_
  ·refine gG_ ?_
   refine c_b (fun hm=>hK7 _ _ ⟨by rw [hm];rfl,rfl⟩) (fun hm=>hK7 _ _ ⟨by rw [hm];rfl,rfl⟩)
  rintro _ _ ⟨rfl,rfl⟩ d3
  refine gG_ ?_
  refine S.st (b:=b5) fun w26 S=>?_
  refine gG_ ?_
  refine zq (n:=5) (c:=tyL uu q2 cap2) rfl (fun j v hj=>by simpa using S.at (hcc j v hj)) ?_
  refine gG_ ?_
  refine S.stN (b:=b5) fun w27 S=>?_
  refine hK16 [] _ ⟨uu,max m' (if s.m then 2 else 3),q2,cap2,?_,ht2,S.drop b8⟩
  rw [stepG,if_neg (by omega),if_pos ⟨hk1,hk3⟩,hof];rfl
 have hR : ¬ (k = -1∧s.k=4):=by simpa using hR
 refine gG_ ?_
 refine zg (c:=decide (s.k=5)) (fun _ K2 hK2=>?_) ?_
 ·refine gG_ ?_
  exact hK2
 refine zg (c:=decide (k<(ze u.ss s.st).length)) (fun h5 K2 hK2=>?_) ?_
 ·obtain ⟨hk0,hk5⟩ : 0≤k∧s.k=5:=by simpa using h5
  obtain ⟨hst0,hst1⟩:=hsf.st hk5
  have hslt : s.st.toNat<u.ss.length:=by omega
  obtain ⟨b,off,q9,capq,rfl,hcell9,_,_,hfl⟩:=xP hst hslt
  have hlen : (ze u.ss s.st).length=u.ss[s.st.toNat].fs.length:=by
   rw [← ZD hslt];simp only [ze,Int.toNat_natCast]
  refine gG_ ?_
  refine zp (S.at hcell9) ?_
  refine gG_ ?_
  rw [← hlen]
  exact hK2
 refine c_b (fun hS=>?_) (fun hS=>?_)
 ·obtain ⟨⟨hk0,hk5⟩,hkl⟩ : (0≤k∧s.k=5)∧k<(ze u.ss s.st).length:=by simpa using hS
  obtain ⟨hst0,hst1⟩:=hsf.st hk5
  have hslt : s.st.toNat<u.ss.length:=by omega
  obtain ⟨b,off,q9,capq,rfl,hcell9,_,_,hfl⟩:=xP hst hslt
  have htl : ze u.ss s.st=u.ss[s.st.toNat].fs.map (·.2):=by
   rw [← yA hslt];simp only [ze,Int.toNat_natCast]
  have hkf : k.toNat<u.ss[s.st.toNat].fs.length:=by
   rw [htl,List.length_map] at hkl;omega
  obtain ⟨b9,off9,c9,rfl,hc9,hcell8,ht9⟩:=kP hfl hkf
  obtain ⟨q2,cap2,rfl,ht2⟩:=y6 ht9
  refine gG_ ?_
  refine zp (S.at hcell9) ?_
  refine gG_ ?_
  refine zq (n:=5) (c:=tyL _ q2 cap2) rfl (fun j v hj=>by have:=S.at (hcell8 (j+1) v hj);rwa [show off9+k.toNat*6+(j+1)=off9+k.toNat*6+1+j by omega] at this) ?_
  refine gG_ ?_
  refine S.stN (b:=b5) fun w27 S=>?_
  refine hK16 [] _ ⟨_,m',q2,cap2,?_,ht2,S.drop b8⟩
  rw [stepG,if_neg (by omega),if_neg (by omega),if_pos ⟨hk0,hk5⟩,htl,List.getElem?_map,List.getElem?_eq_getElem hkf];rfl
 have hz : zj u.ss g.tys p=(zD,0,false):=by
  refine agx hlo.1 hq (i:=i+1) (hstep.trans ?_)
  rw [stepG,if_neg hB,if_neg hR]
  split
  ·rename_i h5
   rw [List.getElem?_eq_none];· rfl
   have : ¬ k<(ze u.ss s.st).length:=by
    intro hh
    have : ((decide (0≤k)&&decide (s.k=5))&&decide (k<((ze u.ss s.st).length : Int)))=true:=by simp [h5,hh]
    rw [this] at hS;cases hS
   have h50 : 0≤k:=h5.1
   show (ze u.ss s.st).length≤k.toNat
   omega
  ·rfl
 rw [hz] at hsp;cases hsp
 refine gG_ ?_
 refine S.stB (b:=b4) fun w16 S=>?_
 refine gG_ ?_
 exact h none 0 _ S.ext yh
end Go.Proofs
end
section
namespace Go.Proofs
open Go.Sh
set_option maxRecDepth 100000
set_option linter.unusedSimpArgs false
set_option linter.unusedVariables false
theorem aa5 {r : Gh} {k : Int} {m : Bool} {re st : Int} : TyG r (tyV (.mk k m re st []) none 0) (.mk k m re st []):=yh
set_option maxHeartbeats 1000000 in
theorem kE {u : UnD} {g : GrD} {o : OpD} {c : List Value} {v : Value} {w : World} {r : Gh} {K : Value→World→Prop} {t : TyD} {ok : Bool} (hr : Holds r w) (hx : AskG r v u g) (hf : xx u.ss g.tys) (ho : OpG r c o) (hop : zr u.ss g.tys o=(t,ok))
  (h : ∀ q cap w',Ext w w'→TyG r (tyV t q cap) t→K (.tuple #[tyV t q cap,.bool ok]) w') : zd Tryz.prog Tryz.yL #[v,.agg c.toArray] w K:=by
 obtain ⟨p0,cap0,vf,vo,vt,vn,vp,rfl,hu,hg⟩:=id hx
 obtain ⟨vq,rfl,hl⟩:=ho
 obtain ⟨qs,caps,rfl,_,_⟩:=hl.sl.shape
 have hpl : PlG r [.int .i64 o.pl.l,.slice qs o.pl.ps.length caps] o.pl:=⟨_,rfl,hl⟩
 refine Tryz.XD ?_
 unfold Tryz.jY
 have S:=St.start hr
 refine S.box fun b2 w1 S=>?_
 refine S.box fun b3 w2 S=>?_
 refine S.al fun b4 w3 S=>?_
 refine gG_ ?_
 unfold zr at hop
 refine zh (fun h1=>?_) (fun h1=>?_)
 ·rw [if_pos h1] at hop;cases hop
  refine gG_ ?_
  refine S.ldN (b:=b3) ?_
  refine qU S.holds hpl fun w4 e4=>?_
  have S:=S.go e4
  refine S.stB (b:=b4) fun w5 S=>?_
  refine gG_ ?_
  exact h none 0 _ S.ext aa5
 rw [if_neg h1] at hop
 refine gG_ ?_
 refine zh (fun h2=>?_) (fun h2=>?_)
 ·rw [if_pos h2] at hop;cases hop
  have S:=S.go (Ext.drew _)
  refine gG_ ?_
  refine S.ldN (b:=b3) ?_
  refine qU S.holds hpl fun w44 e4=>?_
  have S:=S.go e4
  have fin : ∀ {w9 : World},StX noX w r w9 [.cell b4 (tyL Vm none 0) 57,.cell b3 [.int .u8 o.k,.int .i64 o.n,.int .i64 o.pl.l,.slice qs o.pl.ps.length caps] 41,.cell b2 (Value.agg #[.slice p0 u.ss.length cap0,vf,.int .i64 u.mn,.string g.name,.int .i64 g.lv,vo,.int .i64 g.pn,vt,vn,vp]).cells.toList 117]→∀ x,x=(yS o.pl&&(decide (o.n=0)||decide (o.n=1)))→
    K (.tuple #[tyV Vm none 0,.bool x]) w9:=by
   intro w9 S x hx
   subst hx
   exact h none 0 _ S.ext aa5
  have st : ∀ {w8 : World} {K : World→Prop},StX noX w r w8 [.cell b4 [.int .u8 0,.bool false,.int .i64 0,.int .i64 0,.slice none 0 0] 57,.cell b3 [.int .u8 o.k,.int .i64 o.n,.int .i64 o.pl.l,.slice qs o.pl.ps.length caps] 41,.cell b2 (Value.agg #[.slice p0 u.ss.length cap0,vf,.int .i64 u.mn,.string g.name,.int .i64 g.lv,vo,.int .i64 g.pn,vt,vn,vp]).cells.toList 117]→
    (∀ w9,StX noX w r w9 [.cell b4 (tyL Vm none 0) 57,.cell b3 [.int .u8 o.k,.int .i64 o.n,.int .i64 o.pl.l,.slice qs o.pl.ps.length caps] 41,.cell b2 (Value.agg #[.slice p0 u.ss.length cap0,vf,.int .i64 u.mn,.string g.name,.int .i64 g.lv,vo,.int .i64 g.pn,vt,vn,vp]).cells.toList 117]→K w9)→
    opU Tryz.prog w8 (Instr.storeAt 57 (.pointer (some ⟨b4,0,none⟩)) (.agg #[.int .u8 2,.bool false,.int .i64 0,.int .i64 0,.slice none 0 0])) K:=by
   intro w8 K S hK
   exact S.stB (b:=b4) fun w9 S=>hK w9 S
  cases hz : yS o.pl with
  |false=>
   (intro K9 hK9;refine gD_ ?_;refine hK9 _ _ fun _=>?_;clear hK9 K9)
   (intro K9 hK9;refine gD_ ?_;refine hK9 _ _ fun _=>?_;clear hK9 K9)
   refine ⟨?_,?_⟩
   ·(intro K9 hK9;refine gD_ ?_;refine hK9 _ _ fun _=>?_;clear hK9 K9)
    (intro K9 hK9;refine gD_ ?_;refine hK9 _ _ fun _=>?_;clear hK9 K9)
    refine gD_ ?_
    refine st S fun w9 S=>?_
    refine gG_ ?_
    exact fin S _ (by rw [hz]<;>rfl)
   ·refine st S fun w9 S=>?_
    (intro K9 hK9;refine gD_ ?_;refine hK9 _ _ fun _=>?_;clear hK9 K9)
    (intro K9 hK9;refine gD_ ?_;refine hK9 _ _ fun _=>?_;clear hK9 K9)
    refine gD_ ?_
    exact fin S _ (by rw [hz]<;>rfl)
  |true=>
   by_cases hn0 : o.n=0
   ·refine zu (fun s w'=>s = [.bool true]∧w'=w44) (fun K9 hK9=>?_) ?_
    ·refine gD_ ?_
     rw [decide_eq_true hn0]
     exact hK9 _ _ ⟨rfl,rfl⟩
    rintro _ w44 ⟨rfl,rfl⟩ d1
    (intro K9 hK9;refine gD_ ?_;refine hK9 _ _ fun _=>?_;clear hK9 K9)
    refine ⟨?_,?_⟩
    ·(intro K9 hK9;refine gD_ ?_;refine hK9 _ _ fun _=>?_;clear hK9 K9)
     (intro K9 hK9;refine gD_ ?_;refine hK9 _ _ fun _=>?_;clear hK9 K9)
     refine gD_ ?_
     refine st S fun w9 S=>?_
     refine gG_ ?_
     exact fin S _ (by rw [hz,hn0]<;>rfl)
    ·refine st S fun w9 S=>?_
     (intro K9 hK9;refine gD_ ?_;refine hK9 _ _ fun _=>?_;clear hK9 K9)
     (intro K9 hK9;refine gD_ ?_;refine hK9 _ _ fun _=>?_;clear hK9 K9)
     refine gD_ ?_
     exact fin S _ (by rw [hz,hn0]<;>rfl)
   ·refine zu (fun s w'=>s = [.bool false]∧w'=w44) (fun K9 hK9=>?_) ?_
    ·refine gD_ ?_
     rw [decide_eq_false hn0]
     exact hK9 _ _ ⟨rfl,rfl⟩
    rintro _ w44 ⟨rfl,rfl⟩ d1
    (intro K9 hK9;refine gD_ ?_;refine hK9 _ _ fun _=>?_;clear hK9 K9)
    refine ⟨?_,?_⟩
    ·refine zu (fun s w'=>s = [.bool (decide (o.n=1))]∧w'=w44) (fun K9 hK9=>?_) ?_
     ·refine gD_ ?_
      refine aiM ?_
      refine gD_ ?_
      exact hK9 _ _ ⟨rfl,rfl⟩
     rintro _ w44 ⟨rfl,rfl⟩ d1
     (intro K9 hK9;refine gD_ ?_;refine hK9 _ _ fun _=>?_;clear hK9 K9)
     refine gD_ ?_
     refine st S fun w9 S=>?_
     refine gG_ ?_
     exact fin S _ (by rw [hz,decide_eq_false hn0];first|rfl|simp)
    ·refine st S fun w9 S=>?_
     refine zu (fun s w'=>s = [.bool (decide (o.n=1))]∧w'=w9) (fun K9 hK9=>?_) ?_
     ·refine gD_ ?_
      refine aiM ?_
      refine gD_ ?_
      exact hK9 _ _ ⟨rfl,rfl⟩
     rintro _ w44 ⟨rfl,rfl⟩ d1
     (intro K9 hK9;refine gD_ ?_;refine hK9 _ _ fun _=>?_;clear hK9 K9)
     refine gD_ ?_
     exact fin S _ (by rw [hz,decide_eq_false hn0];first|rfl|simp)
 rw [if_neg h2] at hop
 obtain ⟨sty,sm,sok,hsp⟩ : ∃ sty sm sok,zj u.ss g.tys o.pl=(sty,sm,sok):=⟨_,_,_,rfl⟩
 simp only [hsp] at hop
 refine gG_ ?_
 refine S.ldN (b:=b3) ?_
 refine yP S.holds hx hf hpl hsp fun q cap w5 e5 ht=>?_
 have S:=S.go e5
 refine S.al fun b6 w6 S=>?_
 refine S.stB (b:=b6) fun w7 S=>?_
 refine gG_ ?_
 refine zg (c:=decide (o.n=0)) (fun _ K2 hK2=>?_) ?_
 ·refine gG_ ?_
  exact hK2
 refine gG_ ?_
 refine zh (fun h3=>?_) (fun h3=>?_)
 ·rw [if_pos h3] at hop;cases hop
  have S:=S.go (Ext.drew _)
  refine gP_ ?_
  refine S.ldN (b:=b6) ?_
  refine zm (c:=xS t) (fun _ K2 hK2=>?_) fun w9 e9=>?_
  ·refine gP_ ?_
   refine S.ldN (b:=b6) ?_
   exact X5 S.holds ht fun w9 e9=>⟨e9,hK2 _ e9⟩
  have S:=S.go e9
  refine S.stB (b:=b4) fun w10 S=>?_
  refine gG_ ?_
  exact h _ _ _ S.ext ht
 rw [if_neg h3] at hop
 refine gG_ ?_
 refine zh (fun h4=>?_) (fun h4=>?_)
 ·rw [if_pos h4] at hop;cases hop
  have S:=S.go (Ext.drew _)
  refine gP_ ?_
  refine S.ldN (b:=b6) ?_
  refine zm (c:=!xS t) (fun _ K2 hK2=>?_) fun w9 e9=>?_
  ·refine gP_ ?_
   refine S.ldN (b:=b6) ?_
   refine X5 S.holds ht fun w9 e9=>⟨e9,?_⟩
   refine gP_ ?_
   exact hK2 _ e9
  have S:=S.go e9
  cases hb : ((sok&&decide (o.n=0)) && !xS t) with
  |false=>
   (intro K9 hK9;refine gD_ ?_;refine hK9 _ _ fun _=>?_;clear hK9 K9)
   refine ⟨?_,?_⟩
   ·(intro K9 hK9;refine gD_ ?_;refine hK9 _ _ fun _=>?_;clear hK9 K9)
    refine gD_ ?_
    refine S.stB (b:=b4) fun w10 S=>?_
    refine gG_ ?_
    have:=h _ _ _ S.ext ht
    rwa [hb] at this
   ·refine S.stB (b:=b4) fun w10 S=>?_
    (intro K9 hK9;refine gD_ ?_;refine hK9 _ _ fun _=>?_;clear hK9 K9)
    refine gD_ ?_
    have:=h _ _ _ S.ext ht
    rwa [hb] at this
  |true=>
   (intro K9 hK9;refine gD_ ?_;refine hK9 _ _ fun _=>?_;clear hK9 K9)
   refine ⟨?_,?_⟩
   ·refine zu (fun s w'=>s = [.bool (decide (sm<2))]∧w'=w9) (fun K9 hK9=>?_) ?_
    ·refine gD_ ?_
     refine aiC ?_
     refine gD_ ?_
     exact hK9 _ _ ⟨rfl,rfl⟩
    rintro _ _ ⟨rfl,rfl⟩ d1
    refine gD_ ?_
    refine S.stB (b:=b4) fun w10 S=>?_
    refine gG_ ?_
    have:=h _ _ _ S.ext ht
    rwa [hb] at this
   ·refine S.stB (b:=b4) fun w10 S=>?_
    refine zu (fun s w'=>s = [.bool (decide (sm<2))]∧w'=w10) (fun K9 hK9=>?_) ?_
    ·refine gD_ ?_
     refine aiC ?_
     refine gD_ ?_
     exact hK9 _ _ ⟨rfl,rfl⟩
    rintro _ _ ⟨rfl,rfl⟩ d1
    refine gD_ ?_
    have:=h _ _ _ S.ext ht
    rwa [hb] at this
 rw [if_neg h4] at hop;cases hop
 refine gG_ ?_
 refine S.stB (b:=b4) fun w10 S=>?_
 refine gG_ ?_
 exact h none 0 _ S.ext aa5
end Go.Proofs
end
section
namespace Go.Proofs
open Go.Sh
set_option maxRecDepth 100000
set_option linter.unusedSimpArgs false
set_option linter.unusedVariables false
theorem aa6 {x : Bool} {w : World} {p : Option Addr} {l : List Bool} {cap : Nat} {K : Value→World→Prop} (hl : Sl w p (l.map Value.bool)) (hb : l.length≤1000000000) (h : K (.bool (l.contains x)) w) :
  zd Tryz.prog Tryz.xr #[.slice p l.length cap,.bool x] w K:=by
 refine Tryz.Ze ?_
 unfold Tryz.kJ
 refine Tryz.Yk ?_
 unfold Tryz.qP
 refine gP_ ?_
 refine zi (ι:=Nat) (fun i=>[.int .i64 (i : Nat)]) (fun i w'=>w'=w∧i≤l.length∧(l.take i).contains x=false) (fun i=>l.length - i) 0 rfl ⟨rfl,Nat.zero_le _,by simp⟩ ?_
 rintro i d w' ⟨rfl,hi,hn⟩ K6 hK6
 simp only [List.getD_cons_zero]
 refine gP_ ?_
 refine zh (fun hlt=>?_) (fun hge=>?_)
 ·have hlt : i<l.length:=by omega
  obtain ⟨b,off,rfl,hc⟩:=hl.at (i:=i) (by rw [List.length_map];exact hlt)
  refine gP_ ?_
  have hv : (l.map Value.bool)[i]'(by rw [List.length_map];exact hlt) = .bool l[i]:=by simp
  rw [hv] at hc
  refine zp (by simpa using hc) ?_
  refine gP_ ?_
  have ht : (l.take (i+1)).contains x=((l.take i).contains x||(x == l[i])):=by
   rw [List.take_succ_eq_append_getElem hlt];simp only [List.contains_eq_any_beq,List.any_append,List.any_cons,List.any_nil,Bool.or_false]
  refine c_b (fun hy=>?_) (fun hno=>?_)
  ·refine gP_ ?_
   rw [show decide ((i : Int)≥0)=true by simp]
   have : l.contains x=true:=List.contains_iff_mem.2 (by rw [eq_of_beq hy];exact List.getElem_mem hlt)
   rwa [this] at h
  ·refine gP_ ?_
   refine hK6 (i+1) _ ⟨rfl,hlt,?_⟩ (by omega)
   rw [ht,hn,hno];rfl
 ·have : i=l.length:=by omega
  subst this
  rw [List.take_length] at hn
  refine gP_ ?_
  rwa [hn] at h
theorem Qd {o : OpD} {c : List Value} {w : World} {r : Gh} {K : Value→World→Prop} (hr : Holds r w) (ho : OpG r c o) (h : ∀ w',Ext w w'→K (.bool (jE o)) w') :
  z7 Tryz.prog (.func (.func Tryz.XQ) #[] #[]) #[.agg c.toArray] w K:=by
 obtain ⟨vq,rfl,hl⟩:=ho
 obtain ⟨qs,caps,rfl,_,_⟩:=hl.sl.shape
 have hpl : PlG r [.int .i64 o.pl.l,.slice qs o.pl.ps.length caps] o.pl:=⟨_,rfl,hl⟩
 refine ahS (by kernel_rfl) ?_
 refine Tryz.aaK ?_
 unfold Tryz.XU
 have S:=St.start hr
 refine S.box fun b1 w1 S=>?_
 refine gG_ ?_
 refine zg (c:=decide (o.n=0)) (fun _ K2 hK2=>?_) ?_
 ·refine gG_ ?_
  exact hK2
 refine zm (c:=yS o.pl) (fun _ K2 hK2=>?_) fun w3 e3=>h _ (S.go e3).ext
 refine gP_ ?_
 refine S.ldN (b:=b1) ?_
 exact qU S.holds hpl fun w3 e3=>hK2 _ e3
abbrev ajO (h : aah) : Value:=.agg #[.bool h.to,.bool h.a,.bool h.b,.bool h.args,.bool h.sign,.bool h.fr,.bool h.mu,.bool h.fn,.bool h.st,.bool h.el]
theorem ael (l : List Bool) : (!l.contains false)=l.all id:=by
 induction l with
 |nil=>rfl
 |cons x l ih=>
  rw [List.contains_cons,List.all_cons,← ih]
  cases x<;>simp
set_option maxHeartbeats 1000000 in
theorem yb {p : PtD} {f : aah} {c : List Value} {w : World} {r : Gh} {K : Value→World→Prop} (hr : Holds r w) (hp : PtG r c p) (h : ∀ w',Ext w w'→K (.bool (zC p f)) w') :
  zd Tryz.prog Tryz.zR #[.agg c.toArray,ajO f] w K:=by
 obtain ⟨vt,va,vb,vl,vf,rfl,h1,h2,h3,h4,h5⟩:=hp
 obtain ⟨qt,capt,rfl,_,_⟩:=h1.sl.shape
 obtain ⟨qa,capa,rfl,_,_⟩:=h2.sl.shape
 obtain ⟨qb,capb,rfl,_,_⟩:=h3.sl.shape
 obtain ⟨ql,capl,rfl,_,_⟩:=h4.sl.shape
 obtain ⟨qf,capf,rfl,_,_⟩:=h5.sl.shape
 refine Tryz.acK ?_
 unfold Tryz.Jj
 have S:=St.start hr
 refine S.box fun b2 w1 S=>?_
 refine S.box fun b3 w2 S=>?_
 have S:=S.go (Ext.drew _)
 refine gG_ ?_
 refine ym (c:=yS p.to) (fun _ K2 hK2=>?_) fun w4 e4=>?_
 ·refine gP_ ?_
  refine S.ldN (b:=b2) ?_
  exact qU S.holds ⟨_,rfl,h1⟩ fun w3 e3=>⟨e3,hK2 _ e3⟩
 have S:=S.go e4
 refine ym (c:=jE p.a) (fun _ K2 hK2=>?_) fun w5 e5=>?_
 ·refine gP_ ?_
  refine S.ldN (b:=b2) ?_
  exact Qd S.holds ⟨_,rfl,h2⟩ fun w3 e3=>⟨e3,hK2 _ e3⟩
 have S:=S.go e5
 refine ym (c:=jE p.b) (fun _ K2 hK2=>?_) fun w5 e5=>?_
 ·refine gP_ ?_
  refine S.ldN (b:=b2) ?_
  exact Qd S.holds ⟨_,rfl,h3⟩ fun w3 e3=>⟨e3,hK2 _ e3⟩
 have S:=S.go e5
 refine zf (c:=decide (p.args.length=0)) (fun _ K2 hK2=>?_) ?_
 ·refine gG_ ?_
  rw [XJ]
  exact hK2
 refine zf (c:=p.sign.toList == []) (fun _ K2 hK2=>?_) ?_
 ·refine gG_ ?_
  exact hK2
 refine ym (c:=yS p.fr) (fun _ K2 hK2=>?_) fun w4 e4=>?_
 ·refine gP_ ?_
  refine S.ldN (b:=b2) ?_
  exact qU S.holds ⟨_,rfl,h5⟩ fun w3 e3=>⟨e3,hK2 _ e3⟩
 have S:=S.go e4
 refine zf (c:=!p.mu) (fun _ K2 hK2=>?_) ?_
 ·refine gG_ ?_
  exact hK2
 refine zf (c:=decide (p.fn=0)) (fun _ K2 hK2=>?_) ?_
 ·refine gG_ ?_
  exact hK2
 refine zf (c:=decide (p.st=0)) (fun _ K2 hK2=>?_) ?_
 ·refine gG_ ?_
  exact hK2
 refine zf (c:=decide (p.el=0)) (fun _ K2 hK2=>?_) ?_
 ·refine gG_ ?_
  exact hK2
 refine S.lit (e:=4) (cs:=(qE p f).map Value.bool) (by kernel_rfl) fun b80 w80 S=>?_
 refine aa6 (l:=qE p f) (x:=false) (Sl.blk (S.blk b80)) (by simp [qE]) ?_
 refine gP_ ?_
 rw [ael]
 exact h _ S.ext
end Go.Proofs
end
section
namespace Go.Sh
section
variable {w : World} {Z : Value→World→Prop} {b c : Bool}
theorem Zh {g : Bool} {A : (List Value→World→Prop)→World→Prop} {G : (List Value→World→Prop)→Prop} (hG : b=false→∀ K : List Value→World→Prop,K [.bool g] w→G K) (hA : g=true→∀ K : List Value→World→Prop,K [.bool c] w→A K w) (hZ : Z (.bool (b||(g&&c))) w) :
  za (fun K1=>gIf (.bool b) false (G K1) (K1 [undef] w)) fun s1 _ w1=>
   za (fun K2=>gIf (s1.getD 0 undef) true (A K2 w1) (K2 [undef] w1)) fun s2 _ w2=>
    za (fun K3=>gIf (.bool b) false (zb (s1.getD 0 undef) (s2.getD 0 undef) (.bool false) fun t=>K3 [t] w2) (K3 [undef] w2)) fun s3 _ w3=>
     zb (.bool b) (.bool true) (s3.getD 0 undef) fun t=>Z t w3:=by
 intro K1 hK1
 cases b with
 |true=>
  refine hK1 _ _ fun _=>?_
  intro K2 hK2
  refine hK2 _ _ fun _=>?_
  intro K3 hK3
  refine hK3 _ _ fun _=>⟨true,rfl,?_⟩
  rw [Bool.true_or] at hZ;exact hZ
 |false=>
  refine hG rfl _ (hK1 _ _ fun _=>?_)
  intro K2 hK2
  cases g with
  |true=>
   refine hA rfl _ (hK2 _ _ fun _=>?_)
   intro K3 hK3
   refine ⟨true,rfl,hK3 _ _ fun _=>⟨false,rfl,?_⟩⟩
   rw [Bool.false_or,Bool.true_and] at hZ;exact hZ
  |false=>
   refine hK2 _ _ fun _=>?_
   intro K3 hK3
   refine ⟨false,rfl,hK3 _ _ fun _=>⟨false,rfl,?_⟩⟩
   rw [Bool.false_or,Bool.false_and] at hZ;exact hZ
end
theorem aeX {P : Program} {K : Value→Prop} {t e : TypeId} {n : Nat} {p : Option Addr} {len cap : Nat} {kd kd' : IntKind} {a b : Int} (h : slT P t=some (e,n)) (h0 : 0≤a) (h1 : a≤b) (h2 : b≤cap)
  (k : K (.slice (if cap=a.toNat then p else p.map (·.add (a.toNat*n))) (b.toNat - a.toNat) (cap - a.toNat))) : opP P (Instr.sliceAt t (.slice p len cap) (some (.int kd a)) (some (.int kd' b)) none) K:=by
 refine yl (fun w=>?_) k
 unfold slT at h
 cases hu : P.underlying t with
 |none=>rw [hu] at h;cases h
 |some d=>
  rw [hu] at h
  cases d<;>first|cases h|skip
  rename_i e'
  simp only [Option.map_eq_some_iff,Prod.mk.injEq] at h
  obtain ⟨m,hs,rfl,rfl⟩:=h
  have h3 : 0≤b:=by omega
  have h5 : a≤max b 0:=by omega
  simp [Instr.sliceAt,Instr.slice,Instr.sliceBounds,Instr.sliceBound,asIntOf,Sem.run_bind,zy hu,Result.andThen,Sem.run,pure,h0,h2,h3,h5,zX hs]
instance {P : Program} {t e : TypeId} {n : Nat} {p : Option Addr} {len cap : Nat} {i j : IntKind} {a b : Int} [h : SlT P t e n] : PCond P (Instr.sliceAt t (.slice p len cap) (some (.int i a)) (some (.int j b)) none) (.slice (if cap=a.toNat then p else p.map (·.add (a.toNat*n))) (b.toNat - a.toNat) (cap - a.toNat)) (0≤a∧a≤b∧b≤cap):=
 .of fun x _ k=>aeX (e:=e) (n:=n) h.h x.1 x.2.1 x.2.2 k
theorem StX.holdW {X : Nat→Prop} {w0 w : World} {r : Gh} {L : List Asr} (S : StX X w0 r w L) (b : Nat) {c : List Value} {T : TypeId} {f : List Value→List Asr} [h : At b L c T f] : Holds (r.or (one b c T)) w:=S.holds.or (yC (S.blk b))
end Go.Sh
namespace Go.Proofs
open Go.Sh
set_option maxRecDepth 100000
set_option linter.unusedSimpArgs false
set_option linter.unusedVariables false
section
variable {X : Nat→Prop} {w0 w : World} {r : Gh} {L : List Asr}
theorem acu {x n : Int} {b : Nat} {f : List Value→List Asr} {K : Value→World→Prop} (S : StX X w0 r w L) [At b L [.int .i64 n] 3 f] (h : K (.bool (decide (0≤x)&&decide (x<n))) w) :
  z7 Tryz.prog (.func (.func Tryz.jU) #[] #[.pointer (some ⟨b,0,none⟩)]) #[.int .i64 x] w K:=by
 refine afI (by kernel_rfl) ?_
 refine Tryz.XC ?_
 unfold Tryz.jX
 refine gP_ ?_
 refine zg (c:=decide (x<n)) (fun _ K2 hK2=>?_) h
 refine S.ld (b:=b) ?_ rfl
 refine gP_ ?_
 exact hK2
end
theorem yp {t : TyD} {q : Option Addr} {cap : Nat} {k : Int} {w : World} {r : Gh} {K : Value→World→Prop} (hr : Holds r w) (h : ∀ w',Ext w w'→K (.bool (isK t k)) w') :
  z7 Tryz.prog (.func (.func Tryz.jV) #[] #[]) #[tyV t q cap,.int .u8 k] w K:=by
 refine Qr (by kernel_rfl) ?_
 refine Tryz.XE ?_
 unfold Tryz.jZ
 have S:=St.start hr
 refine S.box fun b1 w1 S=>?_
 refine gG_ ?_
 exact h _ S.ext
theorem aeY {u : UnD} {g : GrD} {o : OpD} {t : TyD} {b2 : Nat} {c c2 : List Value} {q : Option Addr} {cap : Nat} {w : World} {r : Gh} {K : Value→World→Prop} (hr : Holds r w) (hb2 : Ob r fun w=>Blk w b2 c2 117) (hx : AskG r (.agg c2.toArray) u g)
  (hc2 : c2.length=10) (hf : xx u.ss g.tys) (ho : OpG r c o) (hc : c.length=4) (ht : TyG r (tyV t q cap) t)
  (h : ∀ w',Ext w w'→K (.bool ((zr u.ss g.tys o).2&&zI yf (zr u.ss g.tys o).1 t)) w') :
  z7 Tryz.prog (.func (.func Tryz.jg) #[] #[.pointer (some ⟨b2,0,none⟩)]) #[.agg c.toArray,tyV t q cap] w K:=by
 refine ajw (by kernel_rfl) ?_
 refine Tryz.YJ ?_
 unfold Tryz.jh
 have S:=St.start hr
 refine S.box fun b3 w1 S=>?_
 refine S.box fun b4 w2 S=>?_
 refine zq (n:=10) (c:=c2) hc2 (fun j v hj=>by rw [Nat.zero_add,(S.at hb2).cell];exact hj) ?_
 refine S.ldB (b:=b3) ?_ hc
 obtain ⟨t1,ok,hop⟩ : ∃ t1 ok,zr u.ss g.tys o=(t1,ok):=⟨_,_,rfl⟩
 rw [hop] at h
 refine kE S.holds hx hf ho hop fun q1 cap1 w3 e3 ht1=>?_
 have S:=S.go e3
 refine gP_ ?_
 refine gP_ ?_
 refine S.al fun b6 w4 S=>?_
 refine S.stB (b:=b6) fun w5 S=>?_
 refine zm (c:=zI yf t1 t) (fun _ K2 hK2=>?_) fun w9 e9=>h _ (S.go e9).ext
 refine S.ldB (b:=b6) ?_ rfl
 refine S.ldB (b:=b4) ?_ rfl
 exact kZ S.holds ht1 ht fun w9 e9=>hK2 _ e9
theorem kR {ss : List StD} {tys : List TyD} {o : OpD} {l : List OpD} {t : TyD} {r : List TyD} : yT ss tys (o::l) (t::r)=(((zr ss tys o).2&&zI yf (zr ss tys o).1 t)&&yT ss tys l r):=rfl
theorem JO {ss : List StD} {tys : List TyD} : ∀ {l : List OpD} {r : List TyD},l.length≠r.length→yT ss tys l r=false
 |[],[],h=>absurd rfl h
 |[],_::_,_=>rfl
 |_::_,[],_=>rfl
 |o::l,t::r,h=>by rw [kR,JO (by simpa using h),Bool.and_false]
theorem TysG.up {s t : Gh} {q : Option Addr} {ts : List TyD} (h : TysG s q ts) [l : Le s t] : TysG t q ts:=fun i hi=>by
 obtain ⟨b,off,c,h1,h2,h3,h4⟩:=h i hi
 exact ⟨b,off,c,h1,h2,fun j v hj=>(h3 j v hj).up,h4.up⟩
theorem Qe {r : Gh} {q : Option Addr} {n cap : Nat} {ts : List TyD} (h : SlG 5 r (TyC r) (.slice q n cap) ts) : TysG r q ts:=fun i hi=>by
 obtain ⟨b,off,c,h1,h2,h3,h4⟩:=h.get (by decide) hi
 exact ⟨b,off,c,h1,h2,h4,h3⟩
theorem ahk {top : Gh} {gs : Nat→Gh} {q : Option Addr} {ts : List TyD} (h : aiG top gs q ts) : TysG (top.or (un gs 0 ts.length)) q ts:=fun i hi=>by
 obtain ⟨b,off,c,h1,h2,h3,h4,_⟩:=h.at' i hi
 exact ⟨b,off,c,h1,h2,fun j v hj=>(h3 j v hj).up,TyG.up h4 (l:=⟨fun b o hb=>.inr ⟨i,Nat.zero_le _,hi,hb⟩⟩)⟩
theorem TysG.sub {s : Gh} {q : Option Addr} {ts : List TyD} (h : TysG s q ts) {a n cap : Nat} (hc : ts.length≤cap) : TysG s (if cap=a then q else q.map (·.add (a*5))) ((ts.drop a).take n):=fun i hi=>by
 rw [List.length_take,List.length_drop] at hi
 obtain ⟨b,off,c,h1,h2,h3,h4⟩:=h (a+i) (by omega)
 refine ⟨b,off+a*5,c,?_,h2,fun j v hj=>?_,?_⟩
 ·rw [if_neg (by omega),h1,Option.map_some,kc]
 ·have:=h3 j v hj
  rwa [show off+(a+i)*5+j=off+a*5+i*5+j by omega] at this
 ·rw [List.getElem_take,List.getElem_drop];exact h4
theorem acv {u : UnD} {g : GrD} {p : PtD} {l : List TyD} {b2 b3 : Nat} {c2 c3 : List Value} {ql : Option Addr} {capl : Nat} {w : World} {r : Gh} {K : Value→World→Prop} (hr : Holds r w) (hb2 : Ob r fun w=>Blk w b2 c2 117) (hb3 : Ob r fun w=>Blk w b3 c3 44) (hx : AskG r (.agg c2.toArray) u g)
  (hc2 : c2.length=10) (hf : xx u.ss g.tys) (hp : PtG r c3 p) (hl : TysG r ql l)
  (h : ∀ w',Ext w w'→K (.bool (yT u.ss g.tys p.args l)) w') :
  z7 Tryz.prog (.func (.func Tryz.jW) #[] #[.pointer (some ⟨b3,0,none⟩),.pointer (some ⟨b2,0,none⟩)]) #[.slice ql l.length capl] w K:=by
 refine adA (by kernel_rfl) ?_
 refine Tryz.XF ?_
 unfold Tryz.j0
 obtain ⟨vt,va,vb,va',vf,rfl,h1,h2,h3,h4,h5⟩:=hp
 obtain ⟨qa,capa,rfl,_,_⟩:=h4.sl.shape
 have S:=St.start hr
 have hlen:=h4.lt
 refine gP_ ?_
 refine zp (by rw [(S.at hb3).cell];rfl) ?_
 refine gP_ ?_
 refine Tryz.yX ?_
 unfold Tryz.zV
 refine gG_ ?_
 refine zh (fun hne=>?_) (fun heq=>?_)
 ·rw [JO (by omega)] at h
  exact h _ S.ext
 have heq : p.args.length=l.length:=by omega
 refine gG_ ?_
 refine zi (ι:=Nat) (fun i=>[.int .i64 (i : Nat)]) (fun i w'=>i≤p.args.length∧yT u.ss g.tys (p.args.drop i) (l.drop i)=yT u.ss g.tys p.args l∧StX noX w r w' []) (fun i=>p.args.length - i) 0 rfl ⟨Nat.zero_le _,rfl,S⟩ ?_
 clear S
 rintro i d w1 ⟨hi,hd,S⟩ K6 hK6
 rw [List.getD_cons_zero]
 refine gP_ ?_
 refine zh (fun hlt=>?_) (fun hge=>?_)
 ·have hlt : i<p.args.length:=by omega
  have hlt2 : i<l.length:=by omega
  obtain ⟨ba,oa,ca,rfl,hca,hao,hac⟩:=h4.sl.get (by decide) hlt
  obtain ⟨bt,ot,ct,rfl,hct,htc,hto⟩:=hl i hlt2
  obtain ⟨q2,cap2,rfl,ht2⟩:=y6 hto
  rw [List.drop_eq_getElem_cons hlt,List.drop_eq_getElem_cons hlt2,kR] at hd
  refine gP_ ?_
  refine zq (n:=4) hca (fun j v hj=>by rw [Int.toNat_natCast];exact S.at (hac j v hj)) ?_
  refine S.al fun b8 w2 S=>?_
  obtain ⟨vq,hca',hlq⟩:=id hao
  subst hca'
  obtain ⟨qs,caps,rfl,_⟩:=hlq.sl.shape
  refine S.stB (b:=b8) fun w3 S=>?_
  refine gP_ ?_
  refine zq (n:=5) hct (fun j v hj=>by rw [Int.toNat_natCast];exact S.at (htc j v hj)) ?_
  refine S.al fun b9 w4 S=>?_
  refine S.stB (b:=b9) fun w5 S=>?_
  refine S.ldB (b:=b8) ?_ rfl
  refine S.ldB (b:=b9) ?_ rfl
  refine aeY S.holds hb2 hx hc2 hf hao rfl ht2 fun w6 e6=>?_
  have S:=S.go e6
  refine gP_ ?_
  refine c_b (fun hno=>?_) (fun hy=>?_)
  ·have hno : ((zr u.ss g.tys p.args[i]).2&&zI yf (zr u.ss g.tys p.args[i]).1 l[i])=false:=by rw [← Bool.not_eq_true'];exact hno
   rw [hno,Bool.false_and] at hd
   rw [← hd] at h
   exact h _ S.ext
  ·have hy : ((zr u.ss g.tys p.args[i]).2&&zI yf (zr u.ss g.tys p.args[i]).1 l[i])=true:=by rw [← Bool.not_eq_false'];exact hy
   rw [hy,Bool.true_and] at hd
   refine gP_ ?_
   rw [show ((i : Int)+1)=((i+1 : Nat) : Int) by omega]
   exact hK6 (i+1) _ ⟨hlt,hd,S.to r |>.less (fun _ _ h=>h) (List.nil_sublist _)⟩ (by omega)
 ·have hie : i=p.args.length:=by omega
  rw [hie,List.drop_length,heq,List.drop_length] at hd
  rw [← hd] at h
  exact h _ S.ext
end Go.Proofs
end
section
namespace Go.Proofs.Tryz
open Go.Sh
set_option maxRecDepth 100000
end Go.Proofs.Tryz
end
section
namespace Go.Proofs
open Go.Sh
set_option maxRecDepth 100000
set_option linter.unusedSimpArgs false
set_option linter.unusedVariables false
theorem aai {f : Int→Bool} {fv : Value} {w : World} (hf : ∀ (x : Int) (K : Value→World→Prop),K (.bool (f x)) w→z7 Tryz.prog fv #[.int .i64 x] w K) {p : Option Addr} {l : List Int} {cap : Nat} {K : Value→World→Prop}
  (hl : Sl w p (ints l)) (hb : l.length≤1000000000) (h : ∀ i : Int,(0≤i↔l.any f=true)→K (.int .i64 i) w) : zd Tryz.prog Tryz.xz #[.slice p l.length cap,fv] w K:=by
 refine Tryz.ZC ?_
 unfold Tryz.kX
 refine gP_ ?_
 refine zi (ι:=Nat) (fun i=>[.int .i64 i]) (fun i w'=>w'=w∧i≤l.length∧(l.take i).any f=false) (fun i=>l.length - i) 0 rfl ⟨rfl,Nat.zero_le _,by simp⟩ ?_
 rintro i d w' ⟨rfl,hi,hn⟩ K6 hK6
 simp only [List.getD_cons_zero]
 refine gP_ ?_
 refine zh (fun hlt=>?_) (fun hge=>?_)
 ·have hlt : i<l.length:=by omega
  obtain ⟨b,off,rfl,hc⟩:=hl.at (i:=i) (by rw [qQ];exact hlt)
  refine gP_ ?_
  have hv : (ints l)[i]'(by rw [qQ];exact hlt) = .int .i64 l[i]:=by simp [ints]
  rw [hv] at hc
  refine zp (by simpa using hc) ?_
  refine hf _ _ ?_
  have ht : (l.take (i+1)).any f=((l.take i).any f||f l[i]):=by
   rw [List.take_succ_eq_append_getElem hlt,List.any_append];simp only [List.any_cons,List.any_nil,Bool.or_false]
  refine c_b (fun hy=>?_) (fun hno=>?_)
  ·refine h _ ⟨fun _=>?_,fun _=>Int.natCast_nonneg _⟩
   exact List.any_eq_true.2 ⟨l[i],List.getElem_mem hlt,hy⟩
  ·refine gP_ ?_
   refine hK6 (i+1) _ ⟨rfl,hlt,?_⟩ (by omega)
   rw [ht,hn,hno];rfl
 ·have : i=l.length:=by omega
  subst this
  rw [List.take_length] at hn
  exact h _ ⟨fun h=>by omega,fun h=>by rw [hn] at h;cases h⟩
theorem Ja {f : Int→Bool} {fv : Value} {w : World} (hf : ∀ (x : Int) (K : Value→World→Prop),K (.bool (f x)) w→z7 Tryz.prog fv #[.int .i64 x] w K) {p : Option Addr} {l : List Int} {cap : Nat} {K : Value→World→Prop}
  (hl : Sl w p (ints l)) (hb : l.length≤1000000000) (h : K (.bool (l.any f)) w) : zd Tryz.prog Tryz.xa #[.slice p l.length cap,fv] w K:=by
 refine Tryz.vz ?_
 unfold Tryz.km
 refine aai hf hl hb fun i hi=>?_
 refine gP_ ?_
 have e : decide (i≥0)=l.any f:=by
  by_cases hh : l.any f=true
  ·rw [hh];exact decide_eq_true (hi.2 hh)
  ·rw [Bool.eq_false_iff.2 hh];exact decide_eq_false fun h=>hh (hi.1 h)
 rw [e];exact h
abbrev afM : Value:=.agg #[.int .u8 0,.bool false,.int .i64 0,.int .i64 0,.slice none 0 0]
abbrev aa7 : List Value:=[.int .u8 0,.bool false,.int .i64 0,.int .i64 0,.slice none 0 0]
end Go.Proofs
end
section
namespace Go.Proofs
open Go.Sh
set_option maxRecDepth 100000
set_option linter.unusedSimpArgs false
set_option linter.unusedVariables false
theorem ah8 {s : Int} {n : Nat} {t : TyD} (h : zz s (n+1) t=true) (h4 : t.k=4) : -1≤t.re:=by
 rw [xE,if_neg (by omega),if_neg (by omega),if_neg (by omega),if_pos h4] at h
 simp only [Bool.and_eq_true,decide_eq_true_eq] at h
 exact h.1.1
theorem ahl {s : Int} : ∀ (n : Nat) {t : TyD},zz s n t=true→∀ x ∈ t.regs,-1≤x:=by
 intro n
 induction n with
 |zero=>intro t h;cases h
 |succ n ih=>
  intro t h x hx
  rcases zS h with ⟨ho,hk⟩|⟨u,ho,hu,hk⟩
  ·rw [aac ho,if_neg (by omega)] at hx;cases hx
  ·rw [aad ho,List.mem_append] at hx
   rcases hx with hx|hx
   ·split at hx
    ·rw [List.mem_singleton.1 hx];exact ah8 h (by assumption)
    ·cases hx
   ·exact ih hu x hx
end Go.Proofs
end
section
namespace Go.Proofs
open Go.Sh
set_option linter.unusedVariables false
end Go.Proofs
end
section
namespace Go.Proofs
open Go.Sh
set_option linter.unusedVariables false
def zL (f : Nat→Nat→Bool) : List Value:=(List.range 64).map fun k=>.bool (f (k / 8) (k % 8))
theorem jM {f : Nat→Nat→Bool} : (zL f).length=64:=by rw [zL,List.length_map,List.length_range]
theorem ab2 {f : Nat→Nat→Bool} {k : Nat} (h : k<64) : (zL f)[k]? = some (.bool (f (k / 8) (k % 8))):=by
 rw [zL,List.getElem?_map,List.getElem?_range h];rfl
theorem ahm {f : Nat→Nat→Bool} {x y : Nat} (hx : x<8) (hy : y<8) : (zL f)[x*8+y]? = some (.bool (f x y)):=by
 rw [ab2 (by omega),show (x*8+y) / 8=x by omega,show (x*8+y) % 8=y by omega]
theorem yB {f g : Nat→Nat→Bool} (h : ∀ x y,x<8→y<8→f x y=g x y) : zL f=zL g:=by
 refine List.map_congr_left fun k hk=>?_
 have:=List.mem_range.1 hk
 rw [h _ _ (by omega) (by omega)]
theorem Qv {f : Nat→Nat→Bool} {x y : Nat} (hx : x<8) (hy : y<8) : (zL f).set (x*8+y) (.bool true)=zL fun a b=>f a b||(decide (a=x)&&decide (b=y)):=by
 refine List.ext_getElem? fun k=>?_
 by_cases hk : k<64
 ·rw [List.getElem?_set,ab2 hk,ab2 hk]
  by_cases e : x*8+y=k
  ·rw [if_pos e,if_pos (by rw [jM];omega)]
   subst e
   rw [show (x*8+y) / 8=x by omega,show (x*8+y) % 8=y by omega];simp
  ·rw [if_neg e]
   by_cases e1 : k / 8=x
   ·rw [decide_eq_false (show ¬ k % 8=y by omega),Bool.and_false,Bool.or_false]
   ·rw [decide_eq_false e1,Bool.false_and,Bool.or_false]
 ·rw [List.getElem?_eq_none (by rw [List.length_set,jM];omega),List.getElem?_eq_none (by rw [jM];omega)]
theorem acw {x y : Int} {a : Int} {l : List Int} : kQ x y (a::l)=((decide (a=y)&&l.contains x)||kQ x y l):=rfl
theorem aem {l : List Int} {i : Nat} {x : Int} (h : i<l.length) : (l.take (i+1)).contains x=((l.take i).contains x||decide (x=l[i])):=by
 rw [List.take_succ_eq_append_getElem h,List.contains_eq_any_beq,List.any_append,← List.contains_eq_any_beq]
 simp only [List.any_cons,List.any_nil,Bool.or_false]
 congr 1
theorem acx {x y : Int} {l : List TyD} {i : Nat} (h : i<l.length) : jF (l.take (i+1)) x y=(jF (l.take i) x y||kQ x y (regsT l[i])):=by
 rw [List.take_succ_eq_append_getElem h,jF,List.any_append,jF]
 simp only [List.any_cons,List.any_nil,Bool.or_false]
theorem acz {x y : Int} {l : List (Int × Int)} {i : Nat} (h : i<l.length) : jc (l.take (i+1)) x y=(jc (l.take i) x y||(decide (x=l[i].1)&&decide (y=l[i].2))):=by
 rw [jc,List.take_succ_eq_append_getElem h,List.contains_eq_any_beq,List.any_append,← List.contains_eq_any_beq,← jc]
 simp only [List.any_cons,List.any_nil,Bool.or_false]
 congr 1
def qm (lv : Int) : Option (Int × Int)→List (Int × Int)→Bool
 |_,[]=>true
 |w,o::l=>(ku lv o&&(match w with|none=>true|some w=>vF w o))&&qm lv (some o) l
theorem acA (lv : Int) : ∀ (l : List (Int × Int)) (w : Int × Int),qm lv (some w) l=(l.all (ku lv)&&aa3 (w::l))
 |[],w=>rfl
 |o::l,w=>by
  rw [qm,acA lv l o,List.all_cons,aa3]
  cases ku lv o<;>cases vF w o<;>cases l.all (ku lv)<;>simp
theorem acB (lv : Int) (l : List (Int × Int)) : qm lv none l=(l.all (ku lv)&&aa3 l):=by
 cases l with
 |nil=>rfl
 |cons o l=>
  rw [qm,acA lv l o,List.all_cons]
  cases ku lv o<;>cases l.all (ku lv)<;>simp
theorem ah9 {lv : Int} {w : Option (Int × Int)} {l : List (Int × Int)} {i : Nat} (h : i<l.length) : qm lv w (l.drop i)=((ku lv l[i]&&(match w with|none=>true|some w=>vF w l[i]))&&qm lv (some l[i]) (l.drop (i+1))):=by
 rw [List.drop_eq_getElem_cons h];rfl
theorem agz {o w : Int × Int} : (decide (o.1<w.1)||(decide (w.1=o.1)&&decide (o.2≤w.2))) = !vF w o:=by
 unfold vF
 rcases Int.lt_trichotomy o.1 w.1 with h|h|h
 ·rw [decide_eq_true h,decide_eq_false (show ¬ w.1<o.1 by omega),decide_eq_false (show ¬ w.1=o.1 by omega)];rfl
 ·rw [decide_eq_false (show ¬ o.1<w.1 by omega),decide_eq_false (show ¬ w.1<o.1 by omega),decide_eq_true (show w.1=o.1 by omega)]
  by_cases h2 : o.2≤w.2
  ·rw [decide_eq_true h2,decide_eq_false (show ¬ w.2<o.2 by omega)];rfl
  ·rw [decide_eq_false h2,decide_eq_true (show w.2<o.2 by omega)];rfl
 ·rw [decide_eq_false (show ¬ o.1<w.1 by omega),decide_eq_true (show w.1<o.1 by omega),decide_eq_false (show ¬ w.1=o.1 by omega)];rfl
theorem afN {n i : Nat} (h : i<n) : (List.range n).drop i=i::(List.range n).drop (i+1):=by
 rw [List.drop_eq_getElem_cons (by rwa [List.length_range]),List.getElem_range]
theorem j2 {n i : Nat} {f : Nat→Bool} (h : i<n) : ((List.range n).drop i).all f=(f i&&((List.range n).drop (i+1)).all f):=by rw [afN h,List.all_cons]
theorem j3 {n : Nat} {f : Nat→Bool} : ((List.range n).drop n).all f=true:=by rw [List.drop_of_length_le (by rw [List.length_range];exact Nat.le_refl _)];rfl
theorem acC {u : UnD} {g : GrD} {i : Nat} {t : TyD} {l : List TyD} : jm u g i (t::l)=(tyG u g i t&&jm u g (i+1) l):=rfl
theorem acD {u : UnD} {g : GrD} {i j : Nat} {l : List TyD} (h : i<l.length) : jm u g j (l.drop i)=(tyG u g j l[i]&&jm u g (j+1) (l.drop (i+1))):=by rw [List.drop_eq_getElem_cons h];rfl
theorem aen {u : UnD} {g : GrD} : ∀ {l : List TyD} {i : Nat},jm u g i l=true→∀ t ∈ l,zY u.ss t=true
 |[],i,_,t,ht=>by cases ht
 |x::l,i,h,t,ht=>by
  rw [acC,Bool.and_eq_true] at h
  rcases List.mem_cons.1 ht with rfl|ht
  ·have:=h.1
   rw [tyG,Bool.and_eq_true] at this
   exact this.1
  ·exact aen h.2 t ht
theorem aaj {u : UnD} {g : GrD} : ∀ {l : List TyD} {i : Nat},jm u g i l=true→∀ {j : Nat} (hj : j<l.length),((i+j : Nat) : Int)≤g.pn→∀ x ∈ regsT l[j],0≤x∧x<g.lv
 |[],i,_,j,hj,_=>absurd hj (Nat.not_lt_zero _)
 |y::l,i,h,j,hj,hle=>by
  rw [acC,Bool.and_eq_true] at h
  cases j with
  |zero=>
   have:=h.1
   rw [tyG,Bool.and_eq_true,List.all_eq_true] at this
   intro x hx
   have:=this.2 x hx
   rw [if_pos (by omega)] at this
   simp only [Bool.not_eq_true',Bool.or_eq_false_iff,decide_eq_false_iff_not] at this
   omega
  |succ j=>exact aaj h.2 (j:=j) (by simpa using hj) (by omega)
theorem Qw {l : List PtD} {i : Nat} (h : i<l.length) : yo (l.take (i+1))=yo (l.take i)+(if l[i].op=4 then 1 else 0):=by
 rw [List.take_succ_eq_append_getElem h,yo,List.countP_append,yo]
 congr 1
 rw [List.countP_singleton]
 by_cases e : l[i].op=4<;>simp [e]
end Go.Proofs
end
section
namespace Go.Proofs
open Go.Sh
set_option maxRecDepth 100000
set_option linter.unusedSimpArgs false
set_option linter.unusedVariables false
theorem Sl.tail {w : World} {p : Option Addr} {a : Int} {l : List Int} {cap : Nat} (h : Sl w p (ints (a::l))) (hc : (a::l).length≤cap) : Sl w (if cap=(1 : Int).toNat then p else p.map (·.add ((1 : Int).toNat*1))) (ints l):=fun i v hv=>by
 have h1:=h (i+1) v (by simpa [ints] using hv)
 have hi : i<l.length:=by
  have:=(List.getElem?_eq_some_iff.1 hv).1
  rwa [qQ] at this
 obtain ⟨b,off,hp,hcell⟩:=h1
 rw [List.length_cons] at hc
 rw [if_neg (show ¬ cap=(1 : Int).toNat by have : (1 : Int).toNat=1:=rfl;omega),hp,Option.map_some,kc]
 exact ⟨b,off+1,rfl,by rwa [show off+1+i=off+(i+1) by omega]⟩
abbrev fvI (b3 b4 : Nat) : Value:=.func (.func Tryz.Z6) #[] #[.pointer (some ⟨b3,0,none⟩),.pointer (some ⟨b4,0,none⟩)]
abbrev Qx (f : Nat→Nat→Bool) (l : List Int) : Nat→Nat→Bool:=fun x y=>f x y||kQ x y l
abbrev Z0 (f : Nat→Nat→Bool) (a : Int) (l : List Int) : Nat→Nat→Bool:=fun x y=>f x y||(decide (a=(y : Int))&&l.contains (x : Int))
theorem aeZ {b3 b4 bt : Nat} {M : List Asr} {w0 : World} {r : Gh} : ∀ (l : List Int) {p : Option Addr} {cap : Nat} {f : Nat→Nat→Bool} {w : World} {K : Value→World→Prop},(∀ x ∈ l,0≤x∧x<8)→(Ob r fun w=>Sl w p (ints l))→l.length≤cap→l.length≤1000→
  StX noX w0 r w (.cell b4 [fvI b3 b4] 126 :: .cell b3 [.pointer (some ⟨bt,0,none⟩)] 210 :: .cell bt (zL f) 208::M)→
  (∀ w',StX noX w0 r w' (.cell b4 [fvI b3 b4] 126 :: .cell b3 [.pointer (some ⟨bt,0,none⟩)] 210 :: .cell bt (zL (Qx f l)) 208::M)→K (.tuple #[]) w')→
  z7 Tryz.prog (fvI b3 b4) #[.slice p l.length cap] w K:=by
 intro l
 induction l with
 |nil=>
  intro p cap f w K hx hl hc hb S h
  refine adA (by kernel_rfl) ?_
  refine Tryz.Zz ?_
  unfold Tryz.jl
  refine gP_ ?_
  refine gP_ ?_
  refine c_t (by simp) ?_
  refine h _ ?_
  rw [yB (g:=f) (fun x y _ _=>by show (f x y||kQ x y [])=f x y;rw [kQ,Bool.or_false])]
  exact S
 |cons a l ih=>
  intro p cap f w K hx hl hc hb S h
  refine adA (by kernel_rfl) ?_
  refine Tryz.Zz ?_
  unfold Tryz.jl
  obtain ⟨ha0,ha8⟩:=hx a List.mem_cons_self
  have hxl : ∀ x ∈ l,0≤x∧x<8:=fun x h=>hx x (List.mem_cons_of_mem _ h)
  have hal : (a::l).length=l.length+1:=List.length_cons
  have hll : l.length≤1000:=by rw [List.length_cons] at hb;omega
  have hlc : l.length+1≤cap:=by rwa [List.length_cons] at hc
  have hsl : Ob r fun w=>Sl w (if cap=(1 : Int).toNat then p else p.map (·.add ((1 : Int).toNat*1))) (ints l):=fun w k=>Sl.tail (hl w k) hc
  have hlen : (a::l).length - (1 : Int).toNat=l.length:=by simp
  obtain ⟨bp,op,rfl,hcell⟩:=Yn (S.at hl) (i:=0) (by simp)
  refine gP_ ?_
  refine gP_ ?_
  refine c_f (by rw [List.length_cons];exact decide_eq_false (by omega)) ?_
  refine gP_ ?_
  rw [hlen]
  refine gP_ ?_
  obtain ⟨p2,hp2⟩ : ∃ p2,(if cap=(1 : Int).toNat then (some ⟨bp,op,none⟩ : Option Addr) else (some ⟨bp,op,none⟩ : Option Addr).map (·.add ((1 : Int).toNat*1)))=p2:=⟨_,rfl⟩
  rw [hp2] at hsl ⊢
  refine zi (ι:=Nat) (fun i=>[.int .i64 (i : Nat)]) (fun i w'=>i≤l.length∧StX noX w0 r w' (.cell b4 [fvI b3 b4] 126 :: .cell b3 [.pointer (some ⟨bt,0,none⟩)] 210 :: .cell bt (zL (Z0 f a (l.take i))) 208::M)) (fun i=>l.length - i) 0 rfl
   ⟨Nat.zero_le _,by
    rw [yB (f:=Z0 f a (l.take 0)) (g:=f) (fun x y _ _=>by simp [Z0])]
    exact S⟩ ?_
  clear S
  rintro i d w1 ⟨hi,S⟩ K6 hK6
  rw [List.getD_cons_zero]
  refine gP_ ?_
  refine zh (fun hlt=>?_) (fun hge=>?_)
  ·have hlt : i<l.length:=by omega
   obtain ⟨bq,oq,rfl,hcell2⟩:=Yn (S.at hsl) hlt
   obtain ⟨hi0,hi8⟩:=hxl _ (List.getElem_mem hlt)
   have S:=S.go (Ext.drew _)
   refine gP_ ?_
   refine zp (v:=.int .i64 l[i]) (by simpa using hcell2) ?_
   refine S.ld (b:=b3) ?_ rfl
   refine gP_ ?_
   have hc0:=(S.at hl 0 (.int .i64 a) (by simp [ints]))
   refine zp (v:=.int .i64 a) (by obtain ⟨b',o',h1,h2⟩:=hc0;cases h1;simpa using h2) ?_
   refine gG_ ?_
   refine S.st (b:=bt) (fun w2 S=>?_) (by rw [jM];omega)
   refine gP_ ?_
   rw [show ((i : Int)+1)=((i+1 : Nat) : Int) by omega]
   refine hK6 (i+1) _ ⟨hlt,?_⟩ (by omega)
   rw [show 0+l[i].toNat*8+a.toNat*1=l[i].toNat*8+a.toNat by omega,Qv (by omega) (by omega)] at S
   rw [yB (f:=Z0 f a (l.take (i+1))) (g:=fun x y=>Z0 f a (l.take i) x y||(decide (x=l[i].toNat)&&decide (y=a.toNat))) (fun x y _ _=>by
    show (f x y||(decide (a=(y : Int))&&(l.take (i+1)).contains (x : Int)))=((f x y||(decide (a=(y : Int))&&(l.take i).contains (x : Int)))||(decide (x=l[i].toNat)&&decide (y=a.toNat)))
    rw [aem hlt,show decide ((x : Int)=l[i])=decide (x=l[i].toNat) from decide_eq_decide.2 (by omega),show decide (a=(y : Int))=decide (y=a.toNat) from decide_eq_decide.2 (by omega)]
    cases f x y<;>cases decide (y=a.toNat)<;>cases (l.take i).contains (x : Int)<;>cases decide (x=l[i].toNat)<;>rfl)]
   exact S
  ·have hie : i=l.length:=by omega
   rw [hie,List.take_length] at S
   have S:=S.go (Ext.drew _)
   refine S.ld (b:=b4) ?_ rfl
   refine gP_ ?_
   rw [hlen,hp2]
   refine ih hxl hsl (by show l.length≤cap - (1 : Int).toNat;have : (1 : Int).toNat=1:=rfl;omega) hll S fun w2 S=>?_
   refine h _ ?_
   rw [yB (f:=Qx f (a::l)) (g:=Qx (Z0 f a l) l) (fun x y _ _=>by
    show (f x y||kQ x y (a::l))=((f x y||(decide (a=(y : Int))&&l.contains (x : Int)))||kQ x y l)
    rw [acw,Bool.or_assoc])]
   exact S
abbrev aak (f : Nat→Nat→Bool) (l : List TyD) : Nat→Nat→Bool:=fun x y=>f x y||jF l x y
theorem aa8 {bt : Nat} {M : List Asr} {w0 : World} {r : Gh} {l : List TyD} {q : Option Addr} {cap : Nat} {f : Nat→Nat→Bool} {w : World} {K : Value→World→Prop} (hl : TysG r q l) (hn : l.length≤maxLen) (hx : ∀ t ∈ l,∀ x ∈ regsT t,0≤x∧x<8)
  (S : StX noX w0 r w (.cell bt (zL f) 208::M))
  (h : ∀ w',StX noX w0 r w' (.cell bt (zL (aak f l)) 208::M)→K (.tuple #[]) w') : zd Tryz.prog Tryz.vh #[.slice q l.length cap,.pointer (some ⟨bt,0,none⟩)] w K:=by
 refine Tryz.V1 ?_
 unfold Tryz.Xe
 have hn' : l.length≤9223372036854775807:=hn
 refine S.box fun b3 w1 S=>?_
 refine S.al fun b4 w2 S=>?_
 refine gP_ ?_
 refine S.st (b:=b4) fun w3 S=>?_
 refine gP_ ?_
 refine zi (ι:=Nat) (fun i=>[.int .i64 (i : Nat)]) (fun i w'=>i≤l.length∧StX noX w0 r w' (.cell b4 [fvI b3 b4] 126 :: .cell b3 [.pointer (some ⟨bt,0,none⟩)] 210 :: .cell bt (zL (aak f (l.take i))) 208::M)) (fun i=>l.length - i) 0 rfl
  ⟨Nat.zero_le _,by
   rw [yB (f:=aak f (l.take 0)) (g:=f) (fun x y _ _=>by simp [aak,jF])]
   exact S⟩ ?_
 clear S
 rintro i d w4 ⟨hi,S⟩ K6 hK6
 rw [List.getD_cons_zero]
 refine gP_ ?_
 refine zh (fun hlt=>?_) (fun hge=>?_)
 ·have hlt : i<l.length:=by omega
  obtain ⟨b1,o1,c1,rfl,hc1,htc,hto⟩:=hl i hlt
  obtain ⟨q2,cap2,rfl,ht2⟩:=y6 hto
  refine gP_ ?_
  refine zq (n:=5) hc1 (fun j v hj=>by rw [Int.toNat_natCast];exact S.at (htc j v hj)) ?_
  refine S.al fun b6 w5 S=>?_
  refine S.stB (b:=b6) fun w6 S=>?_
  have S:=S.go (Ext.drew _)
  refine S.ld (b:=b4) ?_ rfl
  refine S.ldB (b:=b6) ?_ rfl
  refine Xp S.holds ht2 fun v7 w7 e7 o7=>⟨e7,?_⟩
  obtain ⟨s1,p1,cap1,n1,nb1,rfl,_,hc1,hs1⟩:=adY o7
  have S:=S.new e7 n1
  have S:=S.drop b6
  have hr48 : (regsT l[i]).length≤1000:=by
   rw [regsT];split
   ·have:=Xr (by assumption);omega
   ·simp
  refine aeZ (regsT l[i]) (fun x h=>hx _ (List.getElem_mem hlt) x h) hs1.up hc1 hr48 S fun w8 S=>?_
  refine gP_ ?_
  rw [show ((i : Int)+1)=((i+1 : Nat) : Int) by omega]
  refine hK6 (i+1) _ ⟨hlt,?_⟩ (by omega)
  have S:=S.to r
  rw [yB (f:=aak f (l.take (i+1))) (g:=Qx (aak f (l.take i)) (regsT l[i])) (fun x y _ _=>by
   show (f x y||jF (l.take (i+1)) x y)=((f x y||jF (l.take i) x y)||kQ x y (regsT l[i]))
   rw [acx hlt,Bool.or_assoc])]
  exact S
 ·have hie : i=l.length:=by omega
  rw [hie,List.take_length] at S
  exact h _ S.tl.tl
end Go.Proofs
end
section
namespace Go.Proofs
open Go.Sh
set_option maxRecDepth 100000
set_option linter.unusedSimpArgs false
set_option linter.unusedVariables false
theorem TysG.take {s : Gh} {q : Option Addr} {ts : List TyD} (h : TysG s q ts) (n : Nat) : TysG s q (ts.take n):=fun i hi=>by
 rw [List.length_take] at hi
 obtain ⟨b,off,c,h1,h2,h3,h4⟩:=h i (by omega)
 refine ⟨b,off,c,h1,h2,h3,?_⟩
 rw [List.getElem_take];exact h4
theorem jr {f : Nat→Nat→Bool} {a b : Nat} (ha : a<8) (hb : b<8) : (zL f)[0+((a : Nat) : Int).toNat*8+((b : Nat) : Int).toNat*1]? = some (.bool (f a b)):=by
 rw [show 0+((a : Nat) : Int).toNat*8+((b : Nat) : Int).toNat*1=a*8+b by omega]
 exact ahm ha hb
abbrev syF (l : List (Int × Int)) : Nat→Nat→Bool:=fun x y=>jc l (x : Int) (y : Int)
abbrev muF (l : List TyD) : Nat→Nat→Bool:=fun x y=>jF l (x : Int) (y : Int)
def clH (sy : Nat→Nat→Bool) (a b c : Nat) : Bool:=!((sy a b&&sy b c)&&(!decide (a=c) && !sy a c))
def clG (n : Nat) (mu sy : Nat→Nat→Bool) (a b : Nat) : Bool:=(List.range n).all (clH sy a b) && !(!decide (a=b)&&(mu a b && !sy a b))
def clF (n : Nat) (mu sy : Nat→Nat→Bool) (a : Nat) : Bool:=(List.range n).all (clG n mu sy a)
theorem afi (n : Nat) (l : List TyD) (o : List (Int × Int)) : afL n (jF l) (jc o)=(List.range n).all (clF n (muF l) (syF o)):=by
 unfold afL clF clG clH;simp only [decide_not,Int.natCast_inj]
def qF (l : List (Int × Int)) (i : Nat) : Option (Int × Int):=if i=0 then none else l[i - 1]?
def afO (w : Option (Int × Int)) (o : Int × Int) : Bool:=match w with|none=>true|some w=>vF w o
theorem aeo {lv : Int} {l : List (Int × Int)} {i : Nat} (h : i<l.length) : qm lv (qF l i) (l.drop i)=((ku lv l[i]&&afO (qF l i) l[i])&&qm lv (qF l (i+1)) (l.drop (i+1))):=by
 rw [ah9 h,qF,qF,if_neg (Nat.succ_ne_zero i),Nat.add_sub_cancel,List.getElem?_eq_getElem h];rfl
set_option maxHeartbeats 2000000 in
theorem aal {g : GrD} {c : List Value} {w : World} {r : Gh} {K : Value→World→Prop} (hr : Holds r w) (hg : GrG r c g) (hlv0 : 0≤g.lv) (hlv8 : g.lv≤8) (hpn0 : 0≤g.pn) (hpn1 : g.pn<g.tys.length)
  (hx : ∀ t ∈ g.tys.take (g.pn.toNat+1),∀ x ∈ regsT t,0≤x∧x<8) (h : ∀ w',Ext w w'→K (.bool (jd g)) w') : zd Tryz.prog Tryz.jH #[.agg c.toArray] w K:=by
 obtain ⟨vo,vt,vn,vp,rfl,h1,h2,h3,h4⟩:=hg
 obtain ⟨qo,capo,rfl,_,_⟩:=h1.sl.shape
 obtain ⟨qt,capt,rfl,_,hct⟩:=h2.sl.shape
 obtain ⟨qn,capn,rfl,_,_⟩:=h3.sl.shape
 obtain ⟨qp,capp,rfl,_,_⟩:=h4.sl.shape
 have hol : g.outs.length≤9223372036854775807:=h1.few
 have htl : g.tys.length≤9223372036854775807:=h2.few
 refine Tryz.Vp ?_
 unfold Tryz.YI
 have S:=St.start hr
 refine S.box fun b1 w1 S=>?_
 refine S.al fun b3 w2 S=>?_
 refine S.al fun b4 w3 S=>?_
 have S : StX noX w r w3 (.cell b3 (zL fun _ _=>false) 208 :: [.cell b4 (zL fun _ _=>false) 208,.cell b1 [.string g.name,.int .i64 g.lv,.slice qo g.outs.length capo,.int .i64 g.pn,.slice qt g.tys.length capt,.slice qn g.nms.length capn,.slice qp g.pts.length capp] 33]):=S.swap
 refine gG_ ?_
 rw [show (g.pn+1).toNat=(g.tys.take (g.pn.toNat+1)).length by rw [List.length_take];omega]
 refine aa8 (l:=g.tys.take (g.pn.toNat+1)) ((Qe h2.sl).take _) (by rw [List.length_take];have:=h2.few;omega) hx S fun w4 S=>?_
 have S : StX noX w r w4 ([.cell b3 (zL (muF (g.tys.take (g.pn.toNat+1)))) 208,.cell b4 (zL fun _ _=>false) 208,.cell b1 [.string g.name,.int .i64 g.lv,.slice qo g.outs.length capo,.int .i64 g.pn,.slice qt g.tys.length capt,.slice qn g.nms.length capn,.slice qp g.pts.length capp] 33]):=by
  rw [yB (f:=muF (g.tys.take (g.pn.toNat+1))) (g:=aak (fun _ _=>false) (g.tys.take (g.pn.toNat+1))) (fun x y _ _=>(Bool.false_or _).symm)]
  exact S
 rw [jd,← acB,afi] at h
 generalize hmu : muF (g.tys.take (g.pn.toNat+1))=mu at h S
 refine gG_ ?_
 refine zi (ι:=Nat) (fun i=>[.int .i64 (i : Nat)]) (fun i w'=>i≤g.outs.length∧qm g.lv (qF g.outs i) (g.outs.drop i)=qm g.lv none g.outs∧
  StX noX w r w' ([.cell b3 (zL mu) 208,.cell b4 (zL (syF (g.outs.take i))) 208,.cell b1 [.string g.name,.int .i64 g.lv,.slice qo g.outs.length capo,.int .i64 g.pn,.slice qt g.tys.length capt,.slice qn g.nms.length capn,.slice qp g.pts.length capp] 33])) (fun i=>g.outs.length - i) 0 rfl
  ⟨Nat.zero_le _,rfl,by
   rw [yB (f:=syF (g.outs.take 0)) (g:=fun _ _=>false) (fun x y _ _=>by simp [syF,jc])]
   exact S⟩ ?_
 clear S
 rintro i d w5 ⟨hi,hd,S⟩ K6 hK6
 rw [List.getD_cons_zero]
 refine gP_ ?_
 refine zh (fun hlt=>?_) (fun hge=>?_)
 ·have hlt : i<g.outs.length:=by omega
  obtain ⟨bo,oo,co,rfl,hco,hoo,hoc⟩:=h1.sl.get (by decide) hlt
  obtain rfl : co=_:=hoo
  rw [aeo hlt] at hd
  have hgo:=fun (j : Nat) (hj : j<g.outs.length)=>h1.sl.get (by decide) hj
  obtain ⟨⟨o1,o2⟩,ho⟩ : ∃ o,g.outs[i]=o:=⟨_,rfl⟩
  rw [ho] at hd
  have hst : syF (g.outs.take (i+1))=fun x y=>syF (g.outs.take i) x y||(decide ((x : Int)=o1)&&decide ((y : Int)=o2)):=by
   funext x y
   show jc _ _ _=(jc _ _ _||_)
   rw [acz hlt,ho]
  refine gP_ ?_
  refine zq (n:=2) hco (fun j v hj=>by rw [Int.toNat_natCast];exact S.at (hoc j v hj)) ?_
  rw [ho]
  refine S.al fun b6 w6 S=>?_
  refine S.stB (b:=b6) fun w7 S=>?_
  refine gG_ ?_
  refine zf (c:=decide (g.lv≤max o1 o2)) (fun _ K2 hK2=>?_) ?_
  ·refine gG_ ?_
   exact hK2
  refine zf (c:=decide (o1=o2)) (fun _ K2 hK2=>?_) ?_
  ·refine gG_ ?_
   exact hK2
  refine c_b (fun hbad=>?_) (fun hgood=>?_)
  ·have hin : ku g.lv (o1,o2)=false:=by rw [ku,hbad];rfl
   rw [hin,Bool.false_and,Bool.false_and] at hd
   rw [← hd,Bool.false_and] at h
   exact h _ S.ext
  have hin : ku g.lv (o1,o2)=true:=by rw [ku,hgood];rfl
  rw [hin,Bool.true_and] at hd
  have hrg : (0≤o1∧o1<8)∧(0≤o2∧o2<8):=by
   simp only [Bool.or_eq_false_iff,decide_eq_false_iff_not] at hgood;omega
  clear hgood hin
  obtain ⟨⟨ho10,ho18⟩,ho20,ho28⟩:=hrg
  refine zu (fun _ w'=>afO (qF g.outs i) (o1,o2)=true∧StX noX w r w' ([.cell b6 [.int .i64 o1,.int .i64 o2] 101,.cell b3 (zL mu) 208,.cell b4 (zL (syF (g.outs.take i))) 208,.cell b1 [.string g.name,.int .i64 g.lv,.slice (some ⟨bo,oo,none⟩) g.outs.length capo,.int .i64 g.pn,.slice qt g.tys.length capt,.slice qn g.nms.length capn,.slice qp g.pts.length capp] 33])) (fun K9 hK9=>?_) ?_
  ·refine gP_ ?_
   refine zh (fun hpos=>?_) (fun hz=>?_)
   ·have hpos : 0<i:=by omega
    have hlt2 : i - 1<g.outs.length:=by omega
    obtain ⟨bo2,oo2,co2,hbe,hco2,hoo2,hoc2⟩:=h1.sl.get (by decide) hlt2
    obtain rfl : co2=_:=hoo2
    cases hbe
    have hpv : qF g.outs i=some g.outs[i - 1]:=by rw [qF,if_neg (by omega),List.getElem?_eq_getElem hlt2]
    rw [hpv] at hd hK9
    obtain ⟨⟨p1,p2⟩,hp⟩ : ∃ o,g.outs[i - 1]=o:=⟨_,rfl⟩
    rw [hp] at hd hK9
    refine gG_ ?_
    refine zq (n:=2) hco2 (fun j v hj=>by rw [show ((i : Int) - 1).toNat=i - 1 by omega];exact S.at (hoc2 j v hj)) ?_
    rw [hp]
    refine S.al fun b7 w8 S=>?_
    refine S.stB (b:=b7) fun w9 S=>?_
    refine gG_ ?_
    refine Zh (g:=decide (p1=o1)) (c:=decide (o2≤p2)) (fun _ K2 hK2=>?_) (fun _ K2 hK2=>?_) ?_
    ·refine gG_ ?_
     exact hK2
    ·refine gG_ ?_
     exact hK2
    rw [agz (o:=(o1,o2)) (w:=(p1,p2))]
    refine c_b (fun hb=>?_) (fun hb=>?_)
    ·have hb : vF (p1,p2) (o1,o2)=false:=by simpa using hb
     rw [show afO (some (p1,p2)) (o1,o2)=vF (p1,p2) (o1,o2) from rfl,hb,Bool.false_and] at hd
     rw [← hd,Bool.false_and] at h
     exact h _ S.ext
    ·have hb : vF (p1,p2) (o1,o2)=true:=by simpa using hb
     exact hK9 _ _ ⟨hb,S.drop b7⟩
   ·have hz : i=0:=by omega
    refine hK9 _ _ ⟨?_,S⟩
    rw [hz];rfl
  clear S
  rintro _ w10 ⟨haf,S⟩ d10
  have S:=S.go (Ext.drew _)
  rw [haf,Bool.true_and] at hd
  refine gG_ ?_
  refine S.st (b:=b4) (fun w11 S=>?_) (by rw [jM];omega)
  refine gP_ ?_
  rw [show ((i : Int)+1)=((i+1 : Nat) : Int) by omega]
  refine hK6 (i+1) _ ⟨hlt,hd,?_⟩ (by omega)
  rw [show 0+o1.toNat*8+o2.toNat*1=o1.toNat*8+o2.toNat by omega,Qv (by omega) (by omega)] at S
  rw [hst,yB (f:=fun x y=>syF (g.outs.take i) x y||(decide ((x : Int)=o1)&&decide ((y : Int)=o2))) (g:=fun x y=>syF (g.outs.take i) x y||(decide (x=o1.toNat)&&decide (y=o2.toNat))) (fun x y _ _=>by
   show (syF (g.outs.take i) x y||(decide ((x : Int)=o1)&&decide ((y : Int)=o2)))=(syF (g.outs.take i) x y||(decide (x=o1.toNat)&&decide (y=o2.toNat)))
   rw [show decide ((x : Int)=o1)=decide (x=o1.toNat) from decide_eq_decide.2 (by omega),show decide ((y : Int)=o2)=decide (y=o2.toNat) from decide_eq_decide.2 (by omega)])]
  exact S.drop b6
 have hie : i=g.outs.length:=by omega
 rw [hie,List.take_length] at S
 rw [hie,List.drop_length] at hd
 rw [← hd,show qm g.lv (qF g.outs g.outs.length) []=true from by rw [qm],Bool.true_and] at h
 clear hd hK6 K6 hie hge hi
 generalize hsy : syF g.outs=sy at h S
 obtain ⟨n,hn⟩ : ∃ n : Nat,g.lv.toNat=n:=⟨_,rfl⟩
 have hn8 : n≤8:=by omega
 have hlvn : g.lv=(n : Int):=by omega
 rw [hn] at h
 refine gG_ ?_
 refine zi (ι:=Nat) (fun i=>[.int .i64 (i : Nat)]) (fun i w'=>i≤n∧((List.range n).drop i).all (clF n mu sy)=(List.range n).all (clF n mu sy)∧
  StX noX w r w' ([.cell b3 (zL mu) 208,.cell b4 (zL sy) 208,.cell b1 [.string g.name,.int .i64 g.lv,.slice qo g.outs.length capo,.int .i64 g.pn,.slice qt g.tys.length capt,.slice qn g.nms.length capn,.slice qp g.pts.length capp] 33])) (fun i=>n - i) 0 rfl
  ⟨Nat.zero_le _,rfl,S⟩ ?_
 clear S
 rintro a d2 w12 ⟨ha,hda,S⟩ K7 hK7
 rw [List.getD_cons_zero,hlvn]
 refine gP_ ?_
 refine zh (fun hlta=>?_) (fun hgea=>?_)
 rotate_left
 ·have hae : a=n:=by omega
  rw [hae,j3] at hda
  rw [← hda] at h
  exact h _ S.ext
 have hlta : a<n:=by omega
 rw [j2 hlta] at hda
 refine gG_ ?_
 refine zi (ι:=Nat) (fun i=>[.int .i64 (i : Nat)]) (fun i w'=>i≤n∧((List.range n).drop i).all (clG n mu sy a)=(List.range n).all (clG n mu sy a)∧
  StX noX w r w' ([.cell b3 (zL mu) 208,.cell b4 (zL sy) 208,.cell b1 [.string g.name,.int .i64 g.lv,.slice qo g.outs.length capo,.int .i64 g.pn,.slice qt g.tys.length capt,.slice qn g.nms.length capn,.slice qp g.pts.length capp] 33])) (fun i=>n - i) 0 rfl
  ⟨Nat.zero_le _,rfl,S⟩ ?_
 clear S
 rintro b d3 w13 ⟨hb,hdb,S⟩ K8 hK8
 rw [List.getD_cons_zero,hlvn]
 refine gP_ ?_
 refine zh (fun hltb=>?_) (fun hgeb=>?_)
 rotate_left
 ·have hbe : b=n:=by omega
  rw [hbe,j3] at hdb
  have hF : clF n mu sy a=true:=hdb.symm
  rw [hF,Bool.true_and] at hda
  refine gP_ ?_
  rw [show ((a : Int)+1)=((a+1 : Nat) : Int) by omega]
  exact hK7 (a+1) _ ⟨hlta,hda,S⟩ (by omega)
 have hltb : b<n:=by omega
 rw [j2 hltb] at hdb
 refine gG_ ?_
 refine zi (ι:=Nat) (fun i=>[.int .i64 (i : Nat)]) (fun i w'=>i≤n∧((List.range n).drop i).all (clH sy a b)=(List.range n).all (clH sy a b)∧
  StX noX w r w' ([.cell b3 (zL mu) 208,.cell b4 (zL sy) 208,.cell b1 [.string g.name,.int .i64 g.lv,.slice qo g.outs.length capo,.int .i64 g.pn,.slice qt g.tys.length capt,.slice qn g.nms.length capn,.slice qp g.pts.length capp] 33])) (fun i=>n - i) 0 rfl
  ⟨Nat.zero_le _,rfl,S⟩ ?_
 clear S
 have hfalse : clG n mu sy a b=false→(List.range n).all (clF n mu sy)=false:=fun e=>by
  rw [e,Bool.false_and] at hdb
  have hF : clF n mu sy a=false:=hdb.symm
  rw [hF,Bool.false_and] at hda
  exact hda.symm
 rintro cc d4 w14 ⟨hc,hdc,S⟩ K9 hK9
 rw [List.getD_cons_zero,hlvn]
 refine gP_ ?_
 refine zh (fun hltc=>?_) (fun hgec=>?_)
 ·have hltc : cc<n:=by omega
  rw [j2 hltc] at hdc
  refine gP_ ?_
  refine gP_ ?_
  refine S.ld (b:=b4) ?_ (jr (f:=sy) (by omega) (by omega))
  refine zg (c:=sy b cc) (fun _ K2 hK2=>?_) ?_
  ·refine gP_ ?_
   refine gP_ ?_
   refine S.ld (b:=b4) ?_ (jr (f:=sy) (by omega) (by omega))
   exact hK2
  refine zg (c:=decide (a≠cc)) (fun _ K2 hK2=>?_) ?_
  ·refine gP_ ?_
   rw [show decide ((a : Int)≠(cc : Int))=decide (a≠cc) from decide_eq_decide.2 (by omega)]
   exact hK2
  refine zg (c:=!sy a cc) (fun _ K2 hK2=>?_) ?_
  ·refine gP_ ?_
   refine gP_ ?_
   refine S.ld (b:=b4) ?_ (jr (f:=sy) (by omega) (by omega))
   refine gP_ ?_
   exact hK2
  have hH : clH sy a b cc = !(((sy a b&&sy b cc)&&decide (a≠cc)) && !sy a cc):=by
   rw [clH,Bool.and_assoc (sy a b&&sy b cc),decide_not]
  refine c_b (fun hbad=>?_) (fun hgood=>?_)
  ·rw [hH,hbad] at hdc
   have hA : (List.range n).all (clH sy a b)=false:=by rw [← hdc];rfl
   rw [hfalse (by rw [clG,hA,Bool.false_and])] at h
   exact h _ S.ext
  ·rw [hH,hgood,Bool.not_false,Bool.true_and] at hdc
   refine gP_ ?_
   rw [show ((cc : Int)+1)=((cc+1 : Nat) : Int) by omega]
   exact hK9 (cc+1) _ ⟨hltc,hdc,S⟩ (by omega)
 have hce : cc=n:=by omega
 rw [hce,j3] at hdc
 refine gP_ ?_
 refine zg (c:=mu a b) (fun _ K2 hK2=>?_) ?_
 ·refine gP_ ?_
  refine gP_ ?_
  refine S.ld (b:=b3) ?_ (jr (f:=mu) (by omega) (by omega))
  exact hK2
 refine zg (c:=!sy a b) (fun _ K2 hK2=>?_) ?_
 ·refine gP_ ?_
  refine gP_ ?_
  refine S.ld (b:=b4) ?_ (jr (f:=sy) (by omega) (by omega))
  refine gP_ ?_
  exact hK2
 have hG : clG n mu sy a b = !((decide ((a : Int)≠(b : Int))&&mu a b) && !sy a b):=by
  rw [clG,← hdc,Bool.true_and,Bool.and_assoc,show decide ((a : Int)≠(b : Int)) = !decide (a=b) from by rw [← decide_not];exact decide_eq_decide.2 (by omega)]
 refine c_b (fun hbad=>?_) (fun hgood=>?_)
 ·rw [hfalse (by rw [hG,hbad];rfl)] at h
  exact h _ S.ext
 ·rw [hG,hgood,Bool.not_false,Bool.true_and] at hdb
  refine gP_ ?_
  rw [show ((b : Int)+1)=((b+1 : Nat) : Int) by omega]
  exact hK8 (b+1) _ ⟨hltb,hdb,S⟩ (by omega)
end Go.Proofs
end
section
namespace Go.Sh
open Go.RowKit
end Go.Sh
end
section
namespace Go.Proofs
open Go.Sh
set_option maxRecDepth 100000
set_option linter.unusedSimpArgs false
set_option linter.unusedVariables false
def yd (ss : List StD) (t : TyD) (k : Int) : Option (TyD × Int):=
 if k = -1∧t.k=3 then t.of.head?.map fun u=>(u,1)
 else if k = -1∧t.k=4 then t.of.head?.map fun u=>(u,if t.m then 2 else 3)
 else if 0≤k∧t.k=5 then (ze ss t.st)[k.toNat]?.map fun u=>(u,0)
 else none
def zQ (ss : List StD) : List Int→TyD→Option (TyD × List Int)
 |[],t=>some (t,[])
 |k::l,t=>(yd ss t k).bind fun s=>(zQ ss l s.1).map fun x=>(x.1,s.2::x.2)
theorem aa9 (ss : List StD) : ∀ (l : List Int) (k : Int) (t : TyD),zQ ss (l ++ [k]) t=(zQ ss l t).bind fun x=>(yd ss x.1 k).map fun s=>(s.1,x.2 ++ [s.2])
 |[],k,t=>by
  show (yd ss t k).bind _=(yd ss t k).map _
  cases yd ss t k<;>rfl
 |x::l,k,t=>by
  rw [List.cons_append,zQ,zQ]
  cases h : yd ss t x with
  |none=>rfl
  |some s=>
   show (zQ ss (l ++ [k]) s.1).map _=((zQ ss l s.1).map _).bind _
   rw [aa9 ss l k s.1]
   cases zQ ss l s.1 with
   |none=>rfl
   |some y=>
    show ((yd ss y.1 k).map _).map _=(yd ss y.1 k).map _
    cases yd ss y.1 k<;>rfl
theorem aba {ss : List StD} : ∀ {l m : List Int} {t : TyD},zQ ss l t=none→zQ ss (l++m) t=none
 |[],m,t,h=>by cases h
 |x::l,m,t,h=>by
  rw [List.cons_append,zQ]
  rw [zQ] at h
  cases hs : yd ss t x with
  |none=>rfl
  |some s=>
   rw [hs] at h
   have h : (zQ ss l s.1).map (fun x=>(x.1,s.2::x.2))=none:=h
   have : zQ ss l s.1=none:=by cases hw : zQ ss l s.1 with|none=>rfl|some y=>rw [hw] at h;cases h
   show (zQ ss (l++m) s.1).map _=none
   rw [aba this];rfl
theorem JP {ss : List StD} : ∀ {l : List Int} {t : TyD} {x : TyD × List Int},zQ ss l t=some x→x.2.length=l.length
 |[],t,x,h=>by cases h;rfl
 |k::l,t,x,h=>by
  rw [zQ] at h
  cases hs : yd ss t k with
  |none=>rw [hs] at h;cases h
  |some s=>
   rw [hs] at h
   have h : (zQ ss l s.1).map (fun x=>(x.1,s.2::x.2))=some x:=h
   cases hw : zQ ss l s.1 with
   |none=>rw [hw] at h;cases h
   |some y=>rw [hw] at h;cases h;simp [JP hw]
theorem afP {ss : List StD} (hg : xQ ss) {t : TyD} {k : Int} {s : TyD × Int} (h : Fine ss t) (e : yd ss t k=some s) : Fine ss s.1:=by
 have inside : ∀ {n : Int},t.of.head?.map (fun u=>(u,n))=some s→Fine ss s.1:=by
  intro n e
  rcases h.cases with ⟨h1,_⟩|⟨u,h1,h2,_⟩
  ·rw [h1] at e;cases e
  ·rw [h1] at e;cases e;exact h2
 unfold yd at e
 split at e
 ·exact inside e
 split at e
 ·exact inside e
 split at e
 ·cases hu : (ze ss t.st)[k.toNat]? with
  |none=>rw [hu] at e;cases e
  |some u=>rw [hu] at e;cases e;exact hg _ u (List.mem_of_getElem? hu)
 ·cases e
theorem abb {ss : List StD} (hg : xQ ss) : ∀ {l : List Int} {t : TyD} {x : TyD × List Int},Fine ss t→zQ ss l t=some x→Fine ss x.1
 |[],t,x,h,e=>by cases e;exact h
 |k::l,t,x,h,e=>by
  rw [zQ] at e
  cases hs : yd ss t k with
  |none=>rw [hs] at e;cases e
  |some s=>
   rw [hs] at e
   have e : (zQ ss l s.1).map (fun x=>(x.1,s.2::x.2))=some x:=e
   cases hw : zQ ss l s.1 with
   |none=>rw [hw] at e;cases e
   |some y=>rw [hw] at e;cases e;show Fine ss y.1;exact abb hg (afP hg h hs) hw
noncomputable def ZF (ss : List StD) (tys : List TyD) (p : PlD) : Bool:=
 ((decide (0≤p.l)&&decide (p.l<tys.length))&&decide (p.ps.length≤8))&&(decide ((zw ss).2=0)&&tys.all fun t=>zY ss t)
noncomputable def vG (ss : List StD) (tys : List TyD) (p : PlD) : Option (TyD × List Int):=if ZF ss tys p then zQ ss p.ps (tys.getD p.l.toNat zD) else none
theorem agA {ss : List StD} {tys : List TyD} {p : PlD} (h : ZF ss tys p=false) : vG ss tys p=none:=by rw [vG,h];rfl
end Go.Proofs
end
section
namespace Go.Sh
open Go.RowKit Go.MapKept
set_option linter.unusedVariables false
def zr1 (P : Program) (t : TypeId) : Option Value:=(P.info? t).bind fun i=>i.zero
theorem agB {P : Program} {t : TypeId} {z : Value} (hz : zr1 P t=some z) (w : World) : (zeroValue t).run P w = .ok z w:=by
 unfold zr1 at hz
 cases hi : P.info? t with
 |none=>rw [hi] at hz;cases hz
 |some i=>
  rw [hi] at hz
  have hz : i.zero=some z:=hz
  simp [zeroValue,typeInfo,Sem.run,pure,hi,hz,Sem.run_bind,Result.andThen]
def mpT (P : Program) (t : TypeId) : Option (TypeId × TypeId):=match P.underlying t with
 |some (.map k e)=>(match P.underlying k with|some .string=>some (k,e)|_=>none)
 |_=>none
theorem aep {P : Program} {t k e : TypeId} (h : mpT P t=some (k,e)) : P.underlying t=some (.map k e)∧P.underlying k=some .string:=by
 unfold mpT at h
 split at h
 ·rename_i k' e' h1
  split at h
  ·rename_i h2
   cases h;exact ⟨h1,h2⟩
  ·cases h
 ·cases h
def Qy (x : ByteArray) : List MapEntry→Option Value
 |[]=>none
 |m::l=>match m.key with|.string s=>if x == s then some m.val else Qy x l|_=>Qy x l
def ahn (l : List MapEntry) : Prop:=∀ m ∈ l,∃ s,m.key = .string s
theorem aam {x : ByteArray} : ∀ {l : List MapEntry} {i : Nat},ahn l→∃ o,Instr.findNow .string (.string x) l i=some o∧o.map (·.2)=Qy x l
 |[],i,_=>⟨none,rfl,rfl⟩
 |m::l,i,h=>by
  obtain ⟨s,hs⟩:=h m List.mem_cons_self
  cases hx : (x == s) with
  |true=>
   refine ⟨some (i,m.val),?_,?_⟩
   ·rw [Instr.findNow,hs]
    simp [Instr.sameNow,hx]
   ·rw [Qy,hs];simp [hx]
  |false=>
   obtain ⟨o,h1,h2⟩:=aam (x:=x) (l:=l) (i:=i+1) fun y hy=>h y (List.mem_cons_of_mem _ hy)
   refine ⟨o,?_,?_⟩
   ·rw [Instr.findNow,hs]
    simp [Instr.sameNow,hx,h1]
   ·rw [h2,Qy,hs];simp [hx]
theorem agC (x y : ByteArray) : (x == y)=(x.toList == y.toList):=by
 rw [show (x == y)=(x.data == y.data) by cases x;cases y;rfl,ByteArray.toList_eq,ByteArray.toList_eq,Bool.eq_iff_iff,beq_iff_eq,beq_iff_eq,Array.toList_inj]
section
variable {P : Program} {X : Nat→Prop} {w0 w : World} {r : Gh} {L : List Asr} {t k e : TypeId} {b c : Nat} {es : Array MapEntry}
theorem StX.addO (S : StX X w0 r w L) {w' : World} (ex : Ext w w') {o : Obj} (hb : w.heap.size≤b) (B : w'.heap[b]? = some o) (ho : Obj.isBook o=false) : StX X w0 r w' (.obj b (· = o)::L):=by
 have S':=S.go ex
 refine ⟨S'.x,S'.holds,?_,?_,.cons ?_ S'.apart⟩
 ·intro x hx;rcases List.mem_cons.1 hx with rfl|hx
  ·exact ⟨o,B,ho,rfl⟩
  ·exact S'.has x hx
 ·intro x hx;rcases List.mem_cons.1 hx with rfl|hx
  ·rintro k rfl
   exact ⟨.inl (by have:=S.x.size;omega),fun o ho=>by have:=S.holds.lt ho;omega⟩
  ·exact S'.mine x hx
 ·rintro y hy k rfl hk
  have:=Asr.lt (S.has y hy) hk;omega
theorem StX.mkMap (S : StX X w0 r w L) {K : Value→World→Prop} (h : ∀ b w',StX X w0 r w' (.obj b (· = .map #[] 0)::L)→K (.map (some b)) w') : opW P w (Instr.makeMap t none) K:=by
 refine ⟨.map (some w.heap.size),{ w with heap:=w.heap.push (.map #[] 0) },?_,h _ _ (S.addO ?_ (Nat.le_refl _) ?_ rfl)⟩
 ·simp [Instr.makeMap,newObj,Sem.run_bind,Sem.run,pure,Result.andThen]
  try rfl
 ·exact ⟨rfl,rfl,rfl,by simp,fun b hb=>by simp [Array.getElem?_push,Nat.ne_of_lt hb]⟩
 ·simp
theorem StX.mapAdd (S : StX X w0 r w (.obj b (· = .map es c)::L)) {x : ByteArray} {v : Value} (ht : mpT P t=some (k,e)) (hs : ahn es.toList) (hn : Qy x es.toList=none) {K : World→Prop}
  (h : ∀ w',StX X w0 r w' (.obj b (· = .map (es.push { key:=.string x,val:=v,born:=c }) (c+1))::L)→K w') : opU P w (Instr.mapUpdate t (.map (some b)) (.string x) v) K:=by
 obtain ⟨ht,hk⟩:=aep ht
 obtain ⟨o,hb,_,rfl⟩:=S.has _ List.mem_cons_self
 obtain ⟨o,h1,h2⟩:=aam (x:=x) (i:=0) hs
 have h3 : o=none:=by
  rw [hn] at h2
  cases o with
  |none=>rfl
  |some y=>cases h2
 subst h3
 have hf:=run_findKey (w:=w) hk h1
 refine ⟨{ w with heap:=w.heap.setIfInBounds b (.map (es.push { key:=.string x,val:=v,born:=c }) (c+1)) },?_,h _ ?_⟩
 ·simp [Instr.mapUpdate,run_underlying ht,MapKept.run_getObj_map hb,run_checkKey (w:=w) hk (k:=.string x) trivial false 9999,hf,MapKept.run_setObj_map _ hb,Result.andThen]
 ·obtain ⟨e1,e2⟩:=heap_set hb (o':=.map (es.push { key:=.string x,val:=v,born:=c }) (c+1))
  exact S.turn (p:=[]) (x:=.obj b (· = .map es c)) (y:=.obj b (· = .map (es.push { key:=.string x,val:=v,born:=c }) (c+1))) ⟨rfl,rfl,rfl,by simp,fun k _ hk=>e2 k hk⟩ ⟨_,e1,rfl,rfl⟩ fun k hk=>.inl hk
theorem StX.mapGet (S : StX X w0 r w (.obj b (· = .map es c)::L)) {x : ByteArray} {z : Value} (ht : mpT P t=some (k,e)) (hz : zr1 P e=some z) (hs : ahn es.toList) {K : Value→Prop} (h : K ((Qy x es.toList).getD z)) :
  opQ P w (Instr.lookup t (.map (some b)) (.string x) false) K:=by
 obtain ⟨ht,hk⟩:=aep ht
 obtain ⟨o,hb,_,rfl⟩:=S.has _ List.mem_cons_self
 obtain ⟨o,h1,h2⟩:=aam (x:=x) (i:=0) hs
 refine ⟨_,fun w' ex=>?_,h⟩
 have hb' : w'.heap[b]? = some (.map es c):=(ex.block b (Array.getElem?_eq_some_iff.1 hb).1).trans hb
 have hf:=run_findKey (w:=w') hk h1
 rw [← h2]
 cases o with
 |none=>simp [Instr.lookup,run_underlying ht,MapKept.run_getObj_map hb',run_checkKey (w:=w') hk (k:=.string x) trivial _ 9999,hf,agB hz,Result.andThen]
 |some y=>simp [Instr.lookup,run_underlying ht,MapKept.run_getObj_map hb',run_checkKey (w:=w') hk (k:=.string x) trivial _ 9999,hf,Result.andThen]
end
end Go.Sh
end
section
namespace Go.Proofs
open Go.Sh
set_option maxRecDepth 100000
set_option linter.unusedSimpArgs false
set_option linter.unusedVariables false
structure PaD where
 tt : TyD
 tm : Int
 tok : Bool
 ft : TyD
 fm : Int
 fok : Bool
 at' : TyD
 aok : Bool
 bt : TyD
 bok : Bool
noncomputable def ptH (u : UnD) (g : GrD) (p : PtD) (x : PaD) : Bool:=
 if p.op=1 then ((zC p { to:=true,a:=true } && (x.tok&&decide (x.tm<3)))&&x.aok)&&zI yf x.at' x.tt
 else if p.op=2 then
  (zC p { to:=true,a:=true,b:=true,sign:=true } && ((x.tok&&decide (x.tm<3))&&(x.aok&&x.bok))) &&
   (if yc p.sign [[43],[45],[42],[47],[37]] then isK x.tt 1&&(isK x.at' 1&&isK x.bt 1)
    else if yc p.sign [[60],[60,61],[62],[62,61]] then isK x.tt 2&&(isK x.at' 1&&isK x.bt 1)
    else if yc p.sign [[61,61],[33,61]] then isK x.tt 2&&((isK x.at' 1&&isK x.bt 1)||(isK x.at' 2&&isK x.bt 2)) else false)
 else if p.op=3 then
  ((zC p { to:=true,a:=true,sign:=true } && (x.tok&&decide (x.tm<3)))&&x.aok) &&
   (if yc p.sign [[45]] then isK x.tt 1&&isK x.at' 1 else if yc p.sign [[33]] then isK x.tt 2&&isK x.at' 2 else false)
 else if p.op=4 then
  ((((zC p { to:=true,fr:=true,mu:=true } && (x.tok&&decide (x.tm<3)))&&x.fok)&&isK x.tt 4)&&(x.tt.m == p.mu))&&(zI yf (x.tt.of.headD zD) x.ft && !(p.mu&&decide (x.fm=3)))
 else if p.op=5 then (((zC p { to:=true,a:=true } && (x.tok&&decide (x.tm<3)))&&x.aok)&&isK x.tt 3)&&zI yf (x.tt.of.headD zD) x.at'
 else if p.op=6 then
  (((zC p { to:=true,args:=true,st:=true } && (x.tok&&decide (x.tm<3)))&&isK x.tt 5)&&decide (x.tt.st=p.st))&&yT u.ss g.tys p.args (yi u.ss x.tt).1
 else if p.op=7 then
  ((zC p { to:=true,args:=true,fn:=true } && (x.tok&&decide (x.tm<3)))&&(decide (0≤p.fn)&&decide (p.fn<u.fs.length))) &&
   (match u.fs[p.fn.toNat]? with
    |some f=>zI yf x.tt (f.tys.headD zD)&&yT u.ss g.tys p.args ((f.tys.drop 1).take f.pn.toNat)
    |none=>false)
 else if p.op=8 then (zC p { to:=true } && (x.tok&&decide (x.tm<3)))&&isK x.tt 1
 else if p.op=9 then (zC p { a:=true } && x.aok)&&isK x.at' 1
 else if p.op=10 then ((zC p { fr:=true } && x.fok)&&(k0 u.ss x.ft).1)&&decide (x.fm<2)
 else if p.op=11 then ((zC p { fr:=true } && x.fok)&&decide (0<p.fr.l))&&decide (p.fr.ps.length=0)
 else if p.op=12 then ((zC p { a:=true,el:=true } && x.aok)&&isK x.at' 2)&&XI g p.el
 else if p.op=13∨p.op=14 then zC p {}
 else false
noncomputable def pad (u : UnD) (g : GrD) (p : PtD) : PaD:=
 ⟨(zj u.ss g.tys p.to).1,(zj u.ss g.tys p.to).2.1,(zj u.ss g.tys p.to).2.2,(zj u.ss g.tys p.fr).1,(zj u.ss g.tys p.fr).2.1,(zj u.ss g.tys p.fr).2.2,
  (zr u.ss g.tys p.a).1,(zr u.ss g.tys p.a).2,(zr u.ss g.tys p.b).1,(zr u.ss g.tys p.b).2⟩
theorem aiN (u : UnD) (g : GrD) (p : PtD) : ptG u g p=ptH u g p (pad u g p):=rfl
theorem bb4 {a b c d : Bool} (h : (((!a || !b) || !c) || !d)=true) : (a&&(b&&(c&&d)))=false:=by revert h;cases a<;>cases b<;>cases c<;>cases d<;>simp
theorem aiO {a b c d : Bool} (h : (((!a || !b) || !c) || !d)=false) : (a&&(b&&(c&&d)))=true:=by revert h;cases a<;>cases b<;>cases c<;>cases d<;>simp
theorem bb3 {a b c : Bool} {x y : Int} (h : (((!a || !b) || !c)||decide (x≠y))=true) : (((a&&b)&&c)&&decide (x=y))=false:=by
 by_cases e : x=y
 ·simp only [e] at h ⊢;revert h;cases a<;>cases b<;>cases c<;>simp
 ·simp [e]
theorem aiP {a b c : Bool} {x y : Int} (h : (((!a || !b) || !c)||decide (x≠y))=false) : (((a&&b)&&c)&&decide (x=y))=true:=by
 by_cases e : x=y
 ·simp only [e] at h ⊢;revert h;cases a<;>cases b<;>cases c<;>simp
 ·simp [e] at h
theorem bb5 {a b : Bool} {x y : Int} (h : (((!a || !b)||decide (x<0))||decide (y≤x))=true) : ((a&&b)&&(decide (0≤x)&&decide (x<y)))=false:=by
 by_cases e : 0≤x<;>by_cases f : x<y
 ·rw [decide_eq_false (show ¬ x<0 by omega),decide_eq_false (show ¬ y≤x by omega)] at h
  revert h;cases a<;>cases b<;>simp
 all_goals simp [e,f]
theorem aiQ {a b : Bool} {x y : Int} (h : (((!a || !b)||decide (x<0))||decide (y≤x))=false) : ((a&&b)&&(decide (0≤x)&&decide (x<y)))=true:=by
 simp only [Bool.or_eq_false_iff,decide_eq_false_iff_not,Bool.not_eq_false'] at h
 obtain ⟨⟨⟨h1,h2⟩,h3⟩,h4⟩:=h
 rw [h1,h2,decide_eq_true (show 0≤x by omega),decide_eq_true (show x<y by omega)];rfl
theorem mpK : mpT Tryz.prog 167=some (9,55):=by kernel_rfl
theorem mpZ : zr1 Tryz.prog 55=some (.int .u8 0):=by kernel_rfl
theorem aho (x : ByteArray) (f g : Int→Bool) : ∃ ks : Int,(Qy x ((#[].push (⟨.string (bs [45]),.int .u8 1,0⟩ : MapEntry)).push ⟨.string (bs [33]),.int .u8 2,0+1⟩).toList).getD (.int .u8 0) = .int .u8 ks∧
  ((decide (ks≠0)&&f ks)&&g ks)=(if yc x [[45]] then f 1&&g 1 else if yc x [[33]] then f 2&&g 2 else false):=by
 have e : ((#[].push (⟨.string (bs [45]),.int .u8 1,0⟩ : MapEntry)).push ⟨.string (bs [33]),.int .u8 2,0+1⟩).toList = [⟨.string (bs [45]),.int .u8 1,0⟩,⟨.string (bs [33]),.int .u8 2,0+1⟩]:=rfl
 rw [e]
 simp only [Qy,agC,jS,yc,List.any_cons,List.any_nil,Bool.or_false]
 by_cases h1 : (x.toList == [45])=true
 ·exact ⟨1,by rw [if_pos h1];rfl,by rw [if_pos h1];simp⟩
 ·by_cases h2 : (x.toList == [33])=true
  ·exact ⟨2,by rw [if_neg h1,if_pos h2];rfl,by rw [if_neg h1,if_pos h2];simp⟩
  ·exact ⟨0,by rw [if_neg h1,if_neg h2];rfl,by rw [if_neg h1,if_neg h2];simp⟩
set_option maxHeartbeats 20000000 in
theorem Jb {u : UnD} {g : GrD} {p : PtD} {c : List Value} {v : Value} {w : World} {r : Gh} {K : Value→World→Prop} (hr : Holds r w) (hx : AskG r v u g) (hf : xx u.ss g.tys) (hfs : ∀ f ∈ u.fs,0≤f.pn∧f.pn<f.tys.length) (hp : PtG r c p)
  (h : ∀ w',Ext w w'→K (.bool (zP u g p)) w') : zd Tryz.prog Tryz.qh #[v,.agg c.toArray] w K:=by
 have hx0:=hx
 obtain ⟨p0,cap0,vf,vo,vt,vn,vp,rfl,hu,hg⟩:=hx
 have hu0:=hu
 obtain ⟨_,_,_,hE,_,_,hst,_,hfn⟩:=hu
 cases hE
 obtain ⟨qfn,capfn,rfl,_,_⟩:=hfn.sl.shape
 obtain ⟨_,_,_,_,hE,_,htys,_,hpts⟩:=hg
 cases hE
 obtain ⟨qp,capp,rfl,_,_⟩:=hpts.sl.shape
 have hp0:=hp
 obtain ⟨vto,va,vb,vl,vfr,rfl,h1,h2,h3,h4,h5⟩:=hp
 obtain ⟨qto,capto,rfl,_,_⟩:=h1.sl.shape
 obtain ⟨qa,capa,rfl,_,_⟩:=h2.sl.shape
 obtain ⟨qb,capb,rfl,_,_⟩:=h3.sl.shape
 obtain ⟨ql,capl,rfl,_,_⟩:=h4.sl.shape
 obtain ⟨qf,capf,rfl,_,_⟩:=h5.sl.shape
 have hpto : PlG r [.int .i64 p.to.l,.slice qto p.to.ps.length capto] p.to:=⟨_,rfl,h1⟩
 have hpfr : PlG r [.int .i64 p.fr.l,.slice qf p.fr.ps.length capf] p.fr:=⟨_,rfl,h5⟩
 have hoa : OpG r [.int .u8 p.a.k,.int .i64 p.a.n,.int .i64 p.a.pl.l,.slice qa p.a.pl.ps.length capa] p.a:=⟨_,rfl,h2⟩
 have hob : OpG r [.int .u8 p.b.k,.int .i64 p.b.n,.int .i64 p.b.pl.l,.slice qb p.b.pl.ps.length capb] p.b:=⟨_,rfl,h3⟩
 refine Tryz.Qn ?_
 unfold Tryz.vR
 have S:=St.start hr
 refine S.box fun b2 w1 S=>?_
 refine S.box fun b3 w2 S=>?_
 refine gg_ ?_
 refine S.al fun b5 w3 S=>?_
 refine S.st (b:=b5) fun w4 S=>?_
 refine gg_ ?_
 refine Zh (g:=decide (p.op≠14)) (c:=!XI g p.nx) (fun _ K2 hK2=>?_) (fun _ K2 hK2=>?_) ?_
 ·refine gg_ ?_
  exact hK2
 ·refine gg_ ?_
  refine acu (b:=b5) S ?_
  refine gp_ ?_
  exact hK2
 refine Zh (g:=decide (p.op=14)) (c:=decide (p.nx≠0)) (fun _ K2 hK2=>?_) (fun _ K2 hK2=>?_) ?_
 ·refine gg_ ?_
  exact hK2
 ·refine gg_ ?_
  exact hK2
 have hpg : zP u g p=(!((decide (p.tx<0)||(decide (p.op≠14) && !XI g p.nx))||(decide (p.op=14)&&decide (p.nx≠0)))&&ptG u g p):=by
  rw [zP];simp only [decide_not]
 rw [hpg] at h
 refine c_b (fun hbad=>?_) (fun hgood=>?_)
 ·rw [hbad,Bool.not_true,Bool.false_and] at h
  exact h _ S.ext
 rw [hgood,Bool.not_false,Bool.true_and,aiN] at h
 clear hpg hgood
 have S:=S.go (Ext.drew _)
 have S : StX noX w r w4.drew [.cell b5 [.int .i64 (g.pts.length : Nat)] 3,
   .cell b3 [.int .u8 p.op,.int .i64 p.to.l,.slice qto p.to.ps.length capto,.int .u8 p.a.k,.int .i64 p.a.n,.int .i64 p.a.pl.l,.slice qa p.a.pl.ps.length capa,.int .u8 p.b.k,.int .i64 p.b.n,.int .i64 p.b.pl.l,.slice qb p.b.pl.ps.length capb,.slice ql p.args.length capl,
    .string p.sign,.int .i64 p.fr.l,.slice qf p.fr.ps.length capf,.bool p.mu,.int .i64 p.fn,.int .i64 p.st,.int .i64 p.nx,.int .i64 p.el,.int .i64 p.tx] 44,
   .cell b2 [.slice p0 u.ss.length cap0,.slice qfn u.fs.length capfn,.int .i64 u.mn,.string g.name,.int .i64 g.lv,vo,.int .i64 g.pn,vt,vn,.slice qp g.pts.length capp] 117]:=S
 obtain ⟨tt,tm,tok,hspt⟩ : ∃ tt tm tok,zj u.ss g.tys p.to=(tt,tm,tok):=⟨_,_,_,rfl⟩
 obtain ⟨ft,fm,fok,hspf⟩ : ∃ tt tm tok,zj u.ss g.tys p.fr=(tt,tm,tok):=⟨_,_,_,rfl⟩
 obtain ⟨ta,aok,hopa⟩ : ∃ t ok,zr u.ss g.tys p.a=(t,ok):=⟨_,_,rfl⟩
 obtain ⟨tb,bok,hopb⟩ : ∃ t ok,zr u.ss g.tys p.b=(t,ok):=⟨_,_,rfl⟩
 have hpad : pad u g p=⟨tt,tm,tok,ft,fm,fok,ta,aok,tb,bok⟩:=by simp only [pad,hspt,hspf,hopa,hopb]
 rw [hpad,ptH] at h
 dsimp only at h
 have inside : tok=true→(tt.k=3∨tt.k=4)→∃ uu,tt.of = [uu]:=by
  intro h1 h2
  have hfi:=x7 hf (p:=p.to) (by rw [hspt];exact h1)
  rw [hspt] at hfi
  rcases Fine.cases hfi with ⟨_,h3⟩|⟨uu,h3,_⟩
  ·have h3 : tt.k=1∨tt.k=2∨tt.k=5:=h3
   omega
  ·exact ⟨uu,h3⟩
 refine zu (fun s w'=>∃ b7 b8 q7 c7 q8 c8,s = [.pointer (some ⟨b7,0,none⟩),.pointer (some ⟨b8,0,none⟩)]∧TyG r (tyV tt q7 c7) tt∧TyG r (tyV ft q8 c8) ft∧
  StX noX w r w' (.cell b8 (spL ft q8 c8 fm fok) 115 :: .cell b7 (spL tt q7 c7 tm tok) 115 :: [.cell b5 [.int .i64 (g.pts.length : Nat)] 3,
   .cell b3 [.int .u8 p.op,.int .i64 p.to.l,.slice qto p.to.ps.length capto,.int .u8 p.a.k,.int .i64 p.a.n,.int .i64 p.a.pl.l,.slice qa p.a.pl.ps.length capa,.int .u8 p.b.k,.int .i64 p.b.n,.int .i64 p.b.pl.l,.slice qb p.b.pl.ps.length capb,.slice ql p.args.length capl,
    .string p.sign,.int .i64 p.fr.l,.slice qf p.fr.ps.length capf,.bool p.mu,.int .i64 p.fn,.int .i64 p.st,.int .i64 p.nx,.int .i64 p.el,.int .i64 p.tx] 44,
   .cell b2 [.slice p0 u.ss.length cap0,.slice qfn u.fs.length capfn,.int .i64 u.mn,.string g.name,.int .i64 g.lv,vo,.int .i64 g.pn,vt,vn,.slice qp g.pts.length capp] 117])) (fun K30 hK30=>?_) ?_
 ·refine S.ldB (b:=b2) ?_ rfl
  refine gp_ ?_
  refine S.ldN (b:=b3) ?_
  refine S.ldB (b:=b2) ?_ rfl
  refine gp_ ?_
  refine S.ldN (b:=b3) ?_
  repeat' (first
   |(refine S.alU fun b9 w9 S=>?_)
   |(refine S.al fun b9 w9 S=>?_)
   |(refine S.stB fun w9 S=>?_)
   |(refine yP S.holds hx0 hf hpto hspt (fun q7 c7 w9 e9 ht7=>⟨e9,?_⟩);have S:=S.go e9)
   |(refine yP S.holds hx0 hf hpto hspt (fun q7 c7 w9 e9 ht7=>?_);have S:=S.go e9)
   |(refine yP S.holds hx0 hf hpfr hspf (fun q8 c8 w9 e9 ht8=>⟨e9,?_⟩);have S:=S.go e9)
   |(refine yP S.holds hx0 hf hpfr hspf (fun q8 c8 w9 e9 ht8=>?_);have S:=S.go e9)
   |exact hK30 _ _ ⟨_,_,_,_,_,_,rfl,ht7,ht8,S⟩
   |exact hK30 _ _ ⟨_,_,_,_,_,_,rfl,ht7,ht8,S.swap⟩
   |refine ⟨?_,?_⟩)
 clear S
 rintro _ w33 ⟨b7,b8,q7,c7,q8,c8,rfl,ht7,ht8,S⟩ d33
 simp only [List.getD_cons_zero,List.getD_cons_succ]
 refine gg_ ?_
 refine zg (c:=decide (tm<3)) (fun _ K2 hK2=>?_) ?_
 ·refine gg_ ?_
  exact hK2
 refine S.ldB (b:=b2) ?_ rfl
 refine gp_ ?_
 refine S.ldN (b:=b3) ?_
 refine kE S.holds hx0 hf hoa hopa fun q10 c10 w34 e34 hta=>?_
 have S:=S.go e34
 refine gp_ ?_
 refine gp_ ?_
 refine S.al fun b10 w35 S=>?_
 refine S.stB (b:=b10) fun w36 S=>?_
 refine S.ldB (b:=b2) ?_ rfl
 refine gp_ ?_
 refine S.ldN (b:=b3) ?_
 refine kE S.holds hx0 hf hob hopb fun q12 c12 w37 e37 htb=>?_
 have S:=S.go e37
 refine gp_ ?_
 refine gp_ ?_
 refine S.al fun b12 w38 S=>?_
 refine S.stB (b:=b12) fun w39 S=>?_
 refine gg_ ?_
 refine zh (fun ho=>?_) (fun ho=>?_)
 ·rw [if_pos ho] at h
  refine S.ldB (b:=b3) ?_ rfl
  refine gp_ ?_
  refine yb (f:={ to:=true,a:=true }) S.holds hp0 fun w31 e31=>?_
  have S:=S.go e31
  refine zg (c:=tok&&decide (tm<3)) (fun _ K2 hK2=>hK2) ?_
  refine zg (c:=aok) (fun _ K2 hK2=>hK2) ?_
  refine zm (c:=zI yf ta tt) (fun _ K2 hK2=>?_) fun w32 e32=>h _ (S.go e32).ext
  refine S.ldB (b:=b10) ?_ rfl
  refine gp_ ?_
  refine S.ldN (b:=b7) ?_
  exact kZ S.holds hta ht7 fun w33 e33=>hK2 _ e33
 rw [if_neg ho] at h
 clear ho
 refine gg_ ?_
 refine zh (fun ho=>?_) (fun ho=>?_)
 ·rw [if_pos ho] at h
  refine S.ldB (b:=b3) ?_ rfl
  refine gp_ ?_
  refine yb (f:={ to:=true,a:=true,b:=true,sign:=true }) S.holds hp0 fun w31 e31=>?_
  have S:=S.go e31
  refine gp_ ?_
  refine zf (c:=!(tok&&decide (tm<3))) (fun _ K2 hK2=>?_) ?_
  ·refine gp_ ?_
   exact hK2
  refine zf (c:=!aok) (fun _ K2 hK2=>?_) ?_
  ·refine gp_ ?_
   exact hK2
  refine zf (c:=!bok) (fun _ K2 hK2=>?_) ?_
  ·refine gp_ ?_
   exact hK2
  refine c_b (fun hc=>?_) (fun hc=>?_)
  ·rw [bb4 hc,Bool.false_and] at h
   exact h _ S.ext
  rw [aiO hc,Bool.true_and] at h
  refine S.ldB (b:=b10) ?_ rfl
  refine yp S.holds fun w34 e34=>?_
  have S:=S.go e34
  refine zm (c:=isK tb 1) (fun hb K2 hK2=>?_) fun w32 e32=>?_
  ·refine S.ldB (b:=b12) ?_ rfl
   exact yp S.holds fun w33 e33=>hK2 _ e33
  have S:=S.go e32
  refine gg_ ?_
  refine zu (fun s w'=>s = [.bool (yc p.sign [[43],[45],[42],[47],[37]])]∧Ext w32 w') (fun K9 hK9=>?_) ?_
  ·have hk:=hK9 _ _ ⟨rfl,Ext.refl _⟩
   simp only [yc,List.any_cons,List.any_nil,Bool.or_false] at hk
   refine gp_ ?_
   refine kK hk fun _ hk=>?_
   refine gp_ ?_
   refine kK hk fun _ hk=>?_
   refine gp_ ?_
   refine kK hk fun _ hk=>?_
   refine gp_ ?_
   refine kK hk fun _ hk=>?_
   refine gp_ ?_
   exact hk
  rintro _ w41 ⟨rfl,e41⟩ d41
  have S:=S.go e41
  rw [List.getD_cons_zero]
  refine c_b (fun hs=>?_) (fun hs=>?_)
  ·rw [if_pos hs] at h
   refine gp_ ?_
   refine S.ldN (b:=b7) ?_
   refine yp S.holds fun w35 e35=>?_
   have S:=S.go e35
   exact zg (c:=isK ta 1&&isK tb 1) (fun _ K2 hK2=>hK2) (h _ S.ext)
  rw [if_neg (by rw [hs];decide)] at h
  refine zu (fun s w'=>s = [.bool (yc p.sign [[60],[60,61],[62],[62,61]])]∧Ext w41 w') (fun K9 hK9=>?_) ?_
  ·have hk:=hK9 _ _ ⟨rfl,Ext.refl _⟩
   simp only [yc,List.any_cons,List.any_nil,Bool.or_false] at hk
   refine gp_ ?_
   refine kK hk fun _ hk=>?_
   refine gp_ ?_
   refine kK hk fun _ hk=>?_
   refine gp_ ?_
   refine kK hk fun _ hk=>?_
   refine gp_ ?_
   exact hk
  rintro _ w41 ⟨rfl,e41⟩ d41
  have S:=S.go e41
  rw [List.getD_cons_zero]
  refine c_b (fun hs=>?_) (fun hs=>?_)
  ·rw [if_pos hs] at h
   refine gp_ ?_
   refine S.ldN (b:=b7) ?_
   refine yp S.holds fun w35 e35=>?_
   have S:=S.go e35
   exact zg (c:=isK ta 1&&isK tb 1) (fun _ K2 hK2=>hK2) (h _ S.ext)
  rw [if_neg (by rw [hs];decide)] at h
  refine zu (fun s w'=>s = [.bool (yc p.sign [[61,61],[33,61]])]∧Ext w41 w') (fun K9 hK9=>?_) ?_
  ·have hk:=hK9 _ _ ⟨rfl,Ext.refl _⟩
   simp only [yc,List.any_cons,List.any_nil,Bool.or_false] at hk
   refine gp_ ?_
   refine kK hk fun _ hk=>?_
   refine gp_ ?_
   exact hk
  rintro _ w41 ⟨rfl,e41⟩ d41
  have S:=S.go e41
  rw [List.getD_cons_zero]
  refine c_b (fun hs=>?_) (fun hs=>?_)
  rotate_left
  ·rw [if_neg (by rw [hs];decide)] at h
   exact h _ S.ext
  rw [if_pos hs] at h
  refine gp_ ?_
  refine S.ldN (b:=b7) ?_
  refine yp S.holds fun w35 e35=>?_
  have S:=S.go e35
  generalize isK tt 2=x1 at h ⊢
  generalize (isK ta 1&&isK tb 1)=x2 at h ⊢
  cases x1 with
  |false=>
   (intro K9 hK9;refine gd_ ?_;refine hK9 _ _ fun _=>?_;clear hK9 K9)
   (intro K9 hK9;refine gd_ ?_;refine hK9 _ _ fun _=>?_;clear hK9 K9)
   (intro K9 hK9;refine gd_ ?_;refine hK9 _ _ fun _=>?_;clear hK9 K9)
   (intro K9 hK9;refine gd_ ?_;refine hK9 _ _ fun _=>?_;clear hK9 K9)
   (intro K9 hK9;refine gd_ ?_;refine hK9 _ _ fun _=>?_;clear hK9 K9)
   refine gd_ ?_
   exact h _ S.ext
  |true=>
   cases x2 with
   |true=>
    (intro K9 hK9;refine gd_ ?_;refine hK9 _ _ fun _=>?_;clear hK9 K9)
    (intro K9 hK9;refine gd_ ?_;refine hK9 _ _ fun _=>?_;clear hK9 K9)
    (intro K9 hK9;refine gd_ ?_;refine hK9 _ _ fun _=>?_;clear hK9 K9)
    (intro K9 hK9;refine gd_ ?_;refine hK9 _ _ fun _=>?_;clear hK9 K9)
    (intro K9 hK9;refine gd_ ?_;refine hK9 _ _ fun _=>?_;clear hK9 K9)
    refine gd_ ?_
    exact h _ S.ext
   |false=>
    (intro K9 hK9;refine gd_ ?_;refine hK9 _ _ fun _=>?_;clear hK9 K9)
    refine zu (fun s w'=>s = [.bool (isK ta 2)]∧Ext w35 w') (fun K9 hK9=>?_) ?_
    ·refine gd_ ?_
     exact yp S.holds fun w36 e36=>hK9 _ _ ⟨rfl,e36⟩
    rintro _ w37 ⟨rfl,e37⟩ d37
    have S:=S.go e37
    generalize isK ta 2=x3 at h ⊢
    cases x3 with
    |false=>
     (intro K9 hK9;refine gd_ ?_;refine hK9 _ _ fun _=>?_;clear hK9 K9)
     (intro K9 hK9;refine gd_ ?_;refine hK9 _ _ fun _=>?_;clear hK9 K9)
     (intro K9 hK9;refine gd_ ?_;refine hK9 _ _ fun _=>?_;clear hK9 K9)
     refine gd_ ?_
     exact h _ S.ext
    |true=>
     refine zu (fun s w'=>s = [.bool (isK tb 2)]∧Ext w37 w') (fun K9 hK9=>?_) ?_
     ·refine gd_ ?_
      exact yp S.holds fun w36 e36=>hK9 _ _ ⟨rfl,e36⟩
     rintro _ w38 ⟨rfl,e38⟩ d38
     have S:=S.go e38
     generalize isK tb 2=x4 at h ⊢
     (intro K9 hK9;refine gd_ ?_;refine hK9 _ _ fun _=>?_;clear hK9 K9)
     (intro K9 hK9;refine gd_ ?_;refine hK9 _ _ fun _=>?_;clear hK9 K9)
     refine gd_ ?_
     cases x4<;>exact h _ S.ext
 rw [if_neg ho] at h
 clear ho
 refine gg_ ?_
 refine zh (fun ho=>?_) (fun ho=>?_)
 ·rw [if_pos ho] at h
  refine S.mkMap fun b70 w70 S=>?_
  refine S.mapAdd mpK (by intro m hm;cases hm) rfl fun w71 S=>?_
  refine S.mapAdd mpK (by intro m hm;rcases List.mem_cons.1 hm with rfl|hm<;>first|exact ⟨_,rfl⟩|cases hm) (by decide) fun w72 S=>?_
  refine gg_ ?_
  refine S.mapGet mpK mpZ (by
   intro m hm
   rcases List.mem_cons.1 hm with rfl|hm
   ·exact ⟨_,rfl⟩
   rcases List.mem_cons.1 hm with rfl|hm<;>first|exact ⟨_,rfl⟩|cases hm) ?_
  obtain ⟨ks,hks,hk2⟩:=aho p.sign (isK tt) (isK ta)
  rw [hks]
  refine S.ldB (b:=b3) ?_ rfl
  refine gp_ ?_
  refine yb (f:={ to:=true,a:=true,sign:=true }) S.holds hp0 fun w31 e31=>?_
  have S:=S.go e31
  refine zg (c:=tok&&decide (tm<3)) (fun _ K2 hK2=>hK2) ?_
  refine zg (c:=aok) (fun _ K2 hK2=>hK2) ?_
  refine zg (c:=decide (ks≠0)) (fun _ K2 hK2=>?_) ?_
  ·refine gp_ ?_
   exact hK2
  refine zm (c:=isK tt ks) (fun hb K2 hK2=>?_) fun w32 e32=>?_
  ·refine gp_ ?_
   refine S.ldN (b:=b7) ?_
   exact yp S.holds fun w33 e33=>hK2 _ e33
  have S:=S.go e32
  refine zm (c:=isK ta ks) (fun hb K2 hK2=>?_) fun w32 e32=>?_
  ·refine S.ldB (b:=b10) ?_ rfl
   exact yp S.holds fun w33 e33=>hK2 _ e33
  have S:=S.go e32
  have:=h _ S.ext
  rw [← hk2] at this
  simpa only [Bool.and_assoc] using this
 rw [if_neg ho] at h
 clear ho
 refine gg_ ?_
 refine zh (fun ho=>?_) (fun ho=>?_)
 ·rw [if_pos ho] at h
  have S:=S.go (Ext.drew _)
  refine S.ldB (b:=b3) ?_ rfl
  refine gp_ ?_
  refine yb (f:={ to:=true,fr:=true,mu:=true }) S.holds hp0 fun w31 e31=>?_
  have S:=S.go e31
  refine zg (c:=tok&&decide (tm<3)) (fun _ K2 hK2=>hK2) ?_
  refine zg (c:=fok) (fun _ K2 hK2=>?_) ?_
  ·refine gg_ ?_
   exact hK2
  refine zm (c:=isK tt 4) (fun hb K2 hK2=>?_) fun w32 e32=>?_
  ·refine gp_ ?_
   refine S.ldN (b:=b7) ?_
   exact yp S.holds fun w33 e33=>hK2 _ e33
  have S:=S.go e32
  refine zg (c:=tt.m == p.mu) (fun _ K2 hK2=>?_) ?_
  ·refine gg_ ?_
   exact hK2
  refine zm (c:=zI yf (tt.of.headD zD) ft) (fun hb K2 hK2=>?_) fun w33 e33=>?_
  ·simp only [Bool.and_eq_true] at hb
   obtain ⟨uu,hof⟩:=inside hb.1.1.1.2.1 (.inr (of_decide_eq_true hb.1.2))
   obtain ⟨bo,oo,q2,cap2,rfl,ht2,hcc⟩:=Zr ht7 hof
   have hl1 : tt.of.length=1:=by rw [hof];rfl
   rw [hof] at hK2
   refine gg_ ?_
   refine zq (n:=5) (c:=tyL uu q2 cap2) rfl (fun j v hj=>by simpa using S.at (hcc j v hj)) ?_
   refine gp_ ?_
   refine S.ldN (b:=b8) ?_
   exact kZ S.holds ht2 ht8 fun w34 e34=>hK2 _ e34
  have S:=S.go e33
  have:=h _ S.ext
  rw [← Bool.and_assoc] at this
  generalize ((((((zC p { to:=true,fr:=true,mu:=true } && (tok&&decide (tm<3)))&&fok)&&isK tt 4)&&(tt.m == p.mu))&&zI yf (tt.of.headD zD) ft))=B at this ⊢
  cases B with
  |false=>
   (intro K9 hK9;refine gd_ ?_;refine hK9 _ _ fun _=>?_;clear hK9 K9)
   (intro K9 hK9;refine gd_ ?_;refine hK9 _ _ fun _=>?_;clear hK9 K9)
   (intro K9 hK9;refine gd_ ?_;refine hK9 _ _ fun _=>?_;clear hK9 K9)
   refine gd_ ?_
   exact this
  |true=>
   refine zu (fun s w'=>s = [.bool p.mu]∧w'=w33) (fun K9 hK9=>?_) ?_
   ·refine gd_ ?_
    exact hK9 _ _ ⟨rfl,rfl⟩
   rintro _ w33 ⟨rfl,rfl⟩ d33
   generalize p.mu=mu at this ⊢
   cases mu with
   |false=>
    (intro K9 hK9;refine gd_ ?_;refine hK9 _ _ fun _=>?_;clear hK9 K9)
    (intro K9 hK9;refine gd_ ?_;refine hK9 _ _ fun _=>?_;clear hK9 K9)
    refine gd_ ?_
    exact this
   |true=>
    refine zu (fun s w'=>s = [.bool (decide (fm=3))]∧w'=w33) (fun K9 hK9=>?_) ?_
    ·refine gd_ ?_
     exact hK9 _ _ ⟨rfl,rfl⟩
    rintro _ w33 ⟨rfl,rfl⟩ d33
    (intro K9 hK9;refine gd_ ?_;refine hK9 _ _ fun _=>?_;clear hK9 K9)
    refine gd_ ?_
    simpa using this
 rw [if_neg ho] at h
 clear ho
 refine gg_ ?_
 refine zh (fun ho=>?_) (fun ho=>?_)
 ·rw [if_pos ho] at h
  have S:=S.go (Ext.drew _)
  refine S.ldB (b:=b3) ?_ rfl
  refine gp_ ?_
  refine yb (f:={ to:=true,a:=true }) S.holds hp0 fun w31 e31=>?_
  have S:=S.go e31
  refine zg (c:=tok&&decide (tm<3)) (fun _ K2 hK2=>hK2) ?_
  refine zg (c:=aok) (fun _ K2 hK2=>hK2) ?_
  refine zm (c:=isK tt 3) (fun hb K2 hK2=>?_) fun w32 e32=>?_
  ·refine gp_ ?_
   refine S.ldN (b:=b7) ?_
   exact yp S.holds fun w33 e33=>hK2 _ e33
  have S:=S.go e32
  refine zm (c:=zI yf (tt.of.headD zD) ta) (fun hb K2 hK2=>?_) fun w33 e33=>h _ (S.go e33).ext
  simp only [Bool.and_eq_true] at hb
  obtain ⟨uu,hof⟩:=inside hb.1.1.2.1 (.inl (of_decide_eq_true hb.2))
  obtain ⟨bo,oo,q2,cap2,rfl,ht2,hcc⟩:=Zr ht7 hof
  have hl1 : tt.of.length=1:=by rw [hof];rfl
  rw [hof] at hK2
  refine gg_ ?_
  refine zq (n:=5) (c:=tyL uu q2 cap2) rfl (fun j v hj=>by simpa using S.at (hcc j v hj)) ?_
  refine S.ldB (b:=b10) ?_ rfl
  exact kZ S.holds ht2 hta fun w34 e34=>hK2 _ e34
 rw [if_neg ho] at h
 clear ho
 refine gg_ ?_
 refine zh (fun ho=>?_) (fun ho=>?_)
 ·rw [if_pos ho] at h
  refine S.ldB (b:=b3) ?_ rfl
  refine gp_ ?_
  refine yb (f:={ to:=true,args:=true,st:=true }) S.holds hp0 fun w31 e31=>?_
  have S:=S.go e31
  refine gp_ ?_
  refine zf (c:=!(tok&&decide (tm<3))) (fun _ K2 hK2=>?_) ?_
  ·refine gp_ ?_
   exact hK2
  refine ym (c:=!isK tt 5) (fun _ K2 hK2=>?_) fun w32 e32=>?_
  ·refine gp_ ?_
   refine S.ldN (b:=b7) ?_
   refine yp S.holds fun w33 e33=>?_
   refine gp_ ?_
   exact hK2 _ e33
  have S:=S.go e32
  refine zf (c:=decide (tt.st≠p.st)) (fun _ K2 hK2=>?_) ?_
  ·refine gg_ ?_
   exact hK2
  refine c_b (fun hc=>?_) (fun hc=>?_)
  ·rw [bb3 hc,Bool.false_and] at h
   exact h _ S.ext
  rw [aiP hc,Bool.true_and] at h
  refine gg_ ?_
  refine S.ldN (b:=b7) ?_
  refine abS S.holds hst ht7 fun q9 cp9 top gs w35 e35 n35 hfd hcp=>?_
  have S:=S.new e35 n35
  refine gp_ ?_
  refine gp_ ?_
  refine acv (r:=((r.or (top.or (un gs 0 (yi u.ss tt).1.length))).or (one b2 _ _)).or (one b3 _ _)) ((S.holdW b2).or (yC (S.blk b3))) (yF (b:=b2)).up (yF (b:=b3)).up hx0.up rfl hf hp0.up (ahk hfd).up fun w44 e44=>?_
  exact h _ (S.go e44).ext
 rw [if_neg ho] at h
 clear ho
 refine gg_ ?_
 refine zh (fun ho=>?_) (fun ho=>?_)
 ·rw [if_pos ho] at h
  refine S.ldB (b:=b3) ?_ rfl
  refine gp_ ?_
  refine yb (f:={ to:=true,args:=true,fn:=true }) S.holds hp0 fun w31 e31=>?_
  have S:=S.go e31
  refine gp_ ?_
  refine zf (c:=!(tok&&decide (tm<3))) (fun _ K2 hK2=>?_) ?_
  ·refine gp_ ?_
   exact hK2
  refine zf (c:=decide (p.fn<0)) (fun _ K2 hK2=>?_) ?_
  ·refine gg_ ?_
   exact hK2
  refine zf (c:=decide ((u.fs.length : Int)≤p.fn)) (fun _ K2 hK2=>?_) ?_
  ·refine gg_ ?_
   exact hK2
  refine c_b (fun hc=>?_) (fun hc=>?_)
  ·rw [bb5 hc,Bool.false_and] at h
   exact h _ S.ext
  rw [aiQ hc,Bool.true_and] at h
  have hfl : 0≤p.fn∧p.fn<u.fs.length:=by
   simp only [Bool.or_eq_false_iff,decide_eq_false_iff_not] at hc;omega
  have hfi : p.fn.toNat<u.fs.length:=by omega
  rw [List.getElem?_eq_getElem hfi] at h
  obtain ⟨bg,og,cg,rfl,hcg,hgg,hgc⟩:=hfn.sl.get (by decide) hfi
  have hfp:=hfs _ (List.getElem_mem hfi)
  generalize u.fs[p.fn.toNat]=fd at h hgg hfp
  obtain ⟨vo2,vt2,vn2,vp2,rfl,hg1,hg2,hg3,hg4⟩:=hgg
  obtain ⟨qo2,co2,rfl,_,_⟩:=hg1.sl.shape
  obtain ⟨qt2,ct2,rfl,_,hct2⟩:=hg2.sl.shape
  obtain ⟨qn2,cn2,rfl,_,_⟩:=hg3.sl.shape
  obtain ⟨qp2,cp2,rfl,_,_⟩:=hg4.sl.shape
  refine gg_ ?_
  refine zq (n:=7) hcg (fun j v hj=>S.at (hgc j v hj)) ?_
  refine S.al fun b20 w50 S=>?_
  refine S.stB (b:=b20) fun w51 S=>?_
  have S:=S.go (Ext.drew _)
  have htl:=Qe hg2.sl
  have htl9 : fd.tys.length≤9223372036854775807:=hg2.few
  obtain ⟨bt2,ot2,cc2,rfl,hcc2,hcl2,hct3⟩:=htl 0 (by omega)
  obtain ⟨q4,cap4,rfl,ht4⟩:=y6 hct3
  have hhd : fd.tys.headD zD=fd.tys[0]'(by omega):=by
   rw [List.headD_eq_head?_getD,List.head?_eq_getElem?,List.getElem?_eq_getElem (by omega),Option.getD_some]
  dsimp only at h
  rw [hhd] at h
  refine gp_ ?_
  refine S.ldN (b:=b7) ?_
  refine gg_ ?_
  refine zq (n:=5) hcc2 (fun j v hj=>by simpa using S.at (hcl2 j v hj)) ?_
  refine kZ S.holds ht7 ht4 fun w52 e52=>?_
  have S:=S.go e52
  refine zm (c:=yT u.ss g.tys p.args ((fd.tys.drop 1).take fd.pn.toNat)) (fun _ K2 hK2=>?_) fun w53 e53=>h _ (S.go e53).ext
  refine gg_ ?_
  have hl9 : (fd.pn+1).toNat - (1 : Int).toNat=((fd.tys.drop 1).take fd.pn.toNat).length:=by
   rw [List.length_take,List.length_drop];omega
  rw [hl9]
  refine acv (r:=(r.or (one b2 _ _)).or (one b3 _ _)) ((S.holdW b2).or (yC (S.blk b3))) (yF (b:=b2)).up (yF (b:=b3)).up hx0.up rfl hf hp0.up (htl.sub (a:=(1 : Int).toNat) (n:=fd.pn.toNat) hct2).up fun w44 e44=>?_
  exact hK2 _ e44
 rw [if_neg ho] at h
 clear ho
 refine gg_ ?_
 refine zh (fun ho=>?_) (fun ho=>?_)
 ·rw [if_pos ho] at h
  refine S.ldB (b:=b3) ?_ rfl
  refine gp_ ?_
  refine yb (f:={ to:=true }) S.holds hp0 fun w31 e31=>?_
  have S:=S.go e31
  refine zg (c:=tok&&decide (tm<3)) (fun _ K2 hK2=>hK2) ?_
  refine zm (c:=isK tt 1) (fun hb K2 hK2=>?_) fun w32 e32=>?_
  ·refine gp_ ?_
   refine S.ldN (b:=b7) ?_
   exact yp S.holds fun w33 e33=>hK2 _ e33
  have S:=S.go e32
  exact h _ S.ext
 rw [if_neg ho] at h
 clear ho
 refine gg_ ?_
 refine zh (fun ho=>?_) (fun ho=>?_)
 ·rw [if_pos ho] at h
  refine S.ldB (b:=b3) ?_ rfl
  refine gp_ ?_
  refine yb (f:={ a:=true }) S.holds hp0 fun w31 e31=>?_
  have S:=S.go e31
  refine zg (c:=aok) (fun _ K2 hK2=>hK2) ?_
  refine zm (c:=isK ta 1) (fun hb K2 hK2=>?_) fun w32 e32=>?_
  ·refine S.ldB (b:=b10) ?_ rfl
   exact yp S.holds fun w33 e33=>hK2 _ e33
  have S:=S.go e32
  exact h _ S.ext
 rw [if_neg ho] at h
 clear ho
 refine gg_ ?_
 refine zh (fun ho=>?_) (fun ho=>?_)
 ·rw [if_pos ho] at h
  refine gg_ ?_
  refine S.ldN (b:=b8) ?_
  refine acS S.holds hst ht8 fun w35 e35=>?_
  have S:=S.go e35
  refine gp_ ?_
  refine gp_ ?_
  refine S.ldB (b:=b3) ?_ rfl
  refine gp_ ?_
  refine yb (f:={ fr:=true }) S.holds hp0 fun w31 e31=>?_
  have S:=S.go e31
  refine zg (c:=fok) (fun _ K2 hK2=>?_) ?_
  ·refine gg_ ?_
   exact hK2
  refine zg (c:=(k0 u.ss ft).1) (fun _ K2 hK2=>hK2) ?_
  refine zg (c:=decide (fm<2)) (fun _ K2 hK2=>?_) (h _ S.ext)
  refine gg_ ?_
  exact hK2
 rw [if_neg ho] at h
 clear ho
 refine gg_ ?_
 refine zh (fun ho=>?_) (fun ho=>?_)
 ·rw [if_pos ho] at h
  refine S.ldB (b:=b3) ?_ rfl
  refine gp_ ?_
  refine yb (f:={ fr:=true }) S.holds hp0 fun w31 e31=>?_
  have S:=S.go e31
  refine zg (c:=fok) (fun _ K2 hK2=>?_) ?_
  ·refine gg_ ?_
   exact hK2
  refine zg (c:=decide (0<p.fr.l)) (fun _ K2 hK2=>?_) ?_
  ·refine gg_ ?_
   exact hK2
  refine zg (c:=decide (p.fr.ps.length=0)) (fun _ K2 hK2=>?_) (h _ S.ext)
  refine gg_ ?_
  rw [XJ]
  exact hK2
 rw [if_neg ho] at h
 clear ho
 refine gg_ ?_
 refine zh (fun ho=>?_) (fun ho=>?_)
 ·rw [if_pos ho] at h
  refine S.ldB (b:=b3) ?_ rfl
  refine gp_ ?_
  refine yb (f:={ a:=true,el:=true }) S.holds hp0 fun w31 e31=>?_
  have S:=S.go e31
  refine zg (c:=aok) (fun _ K2 hK2=>hK2) ?_
  refine zm (c:=isK ta 2) (fun hb K2 hK2=>?_) fun w32 e32=>?_
  ·refine S.ldB (b:=b10) ?_ rfl
   exact yp S.holds fun w33 e33=>hK2 _ e33
  have S:=S.go e32
  refine zg (c:=XI g p.el) (fun _ K2 hK2=>?_) (h _ S.ext)
  refine gg_ ?_
  exact acu (b:=b5) S hK2
 rw [if_neg ho] at h
 clear ho
 refine gg_ ?_
 refine zu (fun s w'=>s = [.bool (decide (p.op=13∨p.op=14))]∧Ext w39 w') (fun K9 hK9=>?_) ?_
 ·have hk:=hK9 _ _ ⟨rfl,Ext.refl _⟩
  rw [Bool.decide_or] at hk
  refine gp_ ?_
  refine kK hk fun _ hk=>?_
  refine gp_ ?_
  exact hk
 rintro _ w41 ⟨rfl,e41⟩ d41
 have S:=S.go e41
 rw [List.getD_cons_zero]
 refine zh (fun ho=>?_) (fun ho=>?_)
 ·rw [if_pos ho] at h
  refine S.ldB (b:=b3) ?_ rfl
  refine gp_ ?_
  refine yb (f:={}) S.holds hp0 fun w31 e31=>h _ (S.go e31).ext
 ·rw [if_neg ho] at h
  exact h _ S.ext
end Go.Proofs
end
section
namespace Go.Proofs
open Go.Sh
set_option linter.unusedVariables false
theorem js {u : UnD} : ∀ {l : List GrD} {i : Nat},qT u i l=none↔∀ (j : Nat) (h : j<l.length),yU u (i+j) l[j]=true
 |[],i=>⟨fun _ j h=>absurd h (Nat.not_lt_zero _),fun _=>rfl⟩
 |g::l,i=>by
  rw [qT]
  constructor
  ·intro h j hj
   split at h
   ·rename_i hg
    cases j with
    |zero=>exact hg
    |succ j=>
     have:=(js (l:=l) (i:=i+1)).1 h j (by simpa using hj)
     rw [List.getElem_cons_succ,show i+(j+1)=i+1+j by omega];exact this
   ·cases h
  ·intro h
   rw [if_pos (show yU u i g=true from h 0 (Nat.zero_lt_succ _))]
   refine (js (l:=l) (i:=i+1)).2 fun j hj=>?_
   have:=h (j+1) (by simpa using hj)
   rwa [List.getElem_cons_succ,show i+(j+1)=i+1+j by omega] at this
theorem Yl {u : UnD} {g : GrD} : ∀ {l : List PtD} {q : Nat},Zq u g q l=none↔∀ p ∈ l,zP u g p=true
 |[],q=>⟨fun _ p h=>(by cases h),fun _=>rfl⟩
 |x::l,q=>by
  rw [Zq]
  constructor
  ·intro h p hp
   split at h
   ·rename_i hx
    rcases List.mem_cons.1 hp with rfl|hp
    ·exact hx
    ·exact (Yl (l:=l) (q:=q+1)).1 h p hp
   ·cases h
  ·intro h
   rw [if_pos (h x List.mem_cons_self)]
   exact (Yl (l:=l) (q:=q+1)).2 fun p hp=>h p (List.mem_cons_of_mem _ hp)
theorem Xv {u : UnD} : ∀ {l : List GrD} {i : Nat},Zg u i l=none↔∀ g ∈ l,∀ p ∈ g.pts,zP u g p=true
 |[],i=>⟨fun _ g h=>(by cases h),fun _=>rfl⟩
 |x::l,i=>by
  rw [Zg]
  constructor
  ·intro h g hg
   split at h
   ·cases h
   ·rename_i hx
    rcases List.mem_cons.1 hg with rfl|hg
    ·exact Yl.1 hx
    ·exact (Xv (l:=l) (i:=i+1)).1 h g hg
  ·intro h
   rw [Yl.2 (h x List.mem_cons_self)]
   exact (Xv (l:=l) (i:=i+1)).2 fun g hg=>h g (List.mem_cons_of_mem _ hg)
structure MayU (u : UnD) : Prop where
 ok : (zw u.ss).2=0
 fs1 : 1≤u.fs.length
 fs32 : u.fs.length≤32
 mn0 : 0≤u.mn
 mn1 : u.mn<u.fs.length
 head : ∀ (i : Nat) (h : i<u.fs.length),yU u i u.fs[i]=true
 pts : ∀ g ∈ u.fs,∀ p ∈ g.pts,zP u g p=true
theorem acE {u : UnD} (h : MayU u) : k7 u=(0,0,0):=by
 have h1:=h.fs1;have h2:=h.fs32;have h3:=h.mn0;have h4:=h.mn1
 unfold k7
 rw [if_neg (by rw [h.ok,decide_eq_false (show ¬ u.fs.length<1 by omega),decide_eq_false (show ¬ 32<u.fs.length by omega),decide_eq_false (show ¬ u.mn<0 by omega),decide_eq_false (show ¬ (u.fs.length : Int)≤u.mn by omega)];decide),
  js.2 (fun j hj=>by rw [Nat.zero_add];exact h.head j hj)]
 dsimp only
 rw [Xv.2 h.pts]
theorem agD {u : UnD} (h : (k7 u).2.2=0) : MayU u:=by
 unfold k7 at h
 split at h
 ·cases h
 ·rename_i h1
  split at h
  ·cases h
  ·rename_i h2
   split at h
   ·cases h
   ·rename_i h3
    simp only [Bool.or_eq_true,Bool.not_eq_true',decide_eq_false_iff_not,decide_eq_true_eq,not_or] at h1
    obtain ⟨⟨h4,h5,h6⟩,h7,h8⟩:=h1
    exact ⟨by omega,by omega,by omega,by omega,by omega,fun i hi=>by have:=js.1 h2 i hi;rwa [Nat.zero_add] at this,Xv.1 h3⟩
theorem xN {u : UnD} : kD u=true↔MayU u:=by
 rw [kD,decide_eq_true_eq]
 exact ⟨agD,fun h=>by rw [acE h]⟩
structure HeadU (u : UnD) (fn : Nat) (g : GrD) : Prop where
 lv0 : 0≤g.lv
 lv8 : g.lv≤8
 pn0 : 0≤g.pn
 pn8 : g.pn≤8
 pn1 : g.pn<g.tys.length
 ty512 : g.tys.length≤512
 nms : g.nms.length=g.tys.length
 tys : jm u g 0 g.tys=true
 pt1 : 1≤g.pts.length
 pt1024 : g.pts.length≤1024
 outs : jd g=true
 loans : yo g.pts≤256
 main : (fn : Int)=u.mn→g.lv=0∧g.pn=0∧(g.tys.headD zD).k=1
theorem abc {u : UnD} {fn : Nat} {g : GrD} (h : yU u fn g=true) : HeadU u fn g:=by
 simp only [yU,Bool.and_eq_true,Bool.or_eq_true,Bool.not_eq_true',decide_eq_true_eq,decide_eq_false_iff_not,isK] at h
 obtain ⟨⟨⟨⟨⟨⟨⟨h1,h2⟩,h3,h4⟩,h5,h6⟩,h7⟩,h8⟩,⟨h9,h10⟩,h11⟩,h12,h13⟩:=h
 exact ⟨h1,h2,h3,h4,by omega,h6,h7,h8,h9,h10,h11,h12,fun e=>by rcases h13 with h|⟨⟨h,h'⟩,h2⟩
                                                               ·exact absurd e h
                                                               ·exact ⟨h,h',h2⟩⟩
theorem HeadU.fine {u : UnD} {fn : Nat} {g : GrD} (h : HeadU u fn g) (ok : (zw u.ss).2=0) : xx u.ss g.tys:=by
 obtain ⟨h1,h2,h3,h4,_⟩:=xF ok
 exact ⟨h1,h3,h4,fun t ht=>(YV (aen h.tys t ht)).2⟩
theorem MayU.hd {u : UnD} (h : MayU u) {i : Nat} (hi : i<u.fs.length) : HeadU u i u.fs[i]:=abc (h.head i hi)
theorem MayU.mem {u : UnD} (h : MayU u) {g : GrD} (hg : g ∈ u.fs) : ∃ i,HeadU u i g:=by
 obtain ⟨i,hi,rfl⟩:=List.getElem_of_mem hg
 exact ⟨i,h.hd hi⟩
theorem MayU.fine {u : UnD} (h : MayU u) {g : GrD} (hg : g ∈ u.fs) : xx u.ss g.tys:=by
 obtain ⟨i,hi⟩:=h.mem hg
 exact hi.fine h.ok
end Go.Proofs
end
section
namespace Go.Sh
theorem ahp {w : World} {A2 : (List Value→World→Prop)→Prop} {A3 A4 A5 : (List Value→World→Prop)→World→Prop} {Z : Value→World→Prop} {b1 b2 b3 b4 b5 : Bool}
  (h2 : ∀ K : List Value→World→Prop,K [.bool b2] w→A2 K) (h3 : ∀ K : List Value→World→Prop,K [.bool b3] w→A3 K w) (h4 : ∀ K : List Value→World→Prop,K [.bool b4] w→A4 K w) (h5 : ∀ K : List Value→World→Prop,K [.bool b5] w→A5 K w)
  (hZ : Z (.bool (b1&&(b2||((b3&&b4)&&b5)))) w) :
  za (fun K=>gIf (.bool b1) true (A2 K) (K [undef] w)) fun s64 _ w66=>
   za (fun K=>gIf (s64.getD 0 undef) false (A3 K w66) (K [undef] w66)) fun s68 _ w70=>
    za (fun K=>gIf (s68.getD 0 undef) true (A4 K w70) (K [undef] w70)) fun s72 _ w74=>
     za (fun K=>gIf (s64.getD 0 undef) false (zb (s68.getD 0 undef) (s72.getD 0 undef) (.bool false) fun t=>K [t] w74) (K [undef] w74)) fun s76 _ w78=>
      za (fun K=>gIf (s76.getD 0 undef) true (A5 K w78) (K [undef] w78)) fun s80 _ w82=>
       za (fun K=>gIf (s64.getD 0 undef) false (zb (s76.getD 0 undef) (s80.getD 0 undef) (.bool false) fun t=>K [t] w82) (K [undef] w82)) fun s84 _ w86=>
        za (fun K=>gIf (.bool b1) true (zb (s64.getD 0 undef) (.bool true) (s84.getD 0 undef) fun t=>K [t] w86) (K [undef] w86)) fun s88 _ w90=>
         zb (.bool b1) (s88.getD 0 undef) (.bool false) fun t=>Z t w90:=by
 cases b1<;>cases b2<;>cases b3<;>cases b4 <;>
  (iterate 7 (intro K hK;first|refine hK _ _ fun _=>?_|refine h2 _ (hK _ _ fun _=>?_)|refine h3 _ (hK _ _ fun _=>?_)|refine h4 _ (hK _ _ fun _=>?_)|refine h5 _ (hK _ _ fun _=>?_)|refine ⟨_,rfl,hK _ _ fun _=>?_⟩)) <;>
  exact ⟨_,rfl,by simpa using hZ⟩
end Go.Sh
namespace Go.Proofs
open Go.Sh
set_option maxRecDepth 100000
set_option linter.unusedSimpArgs false
set_option linter.unusedVariables false
theorem abd {a b : Nat} : decide ((a : Int)≠(b : Int))=decide (a≠b):=decide_eq_decide.2 (by omega)
theorem afj {u : UnD} {g : GrD} {i : Nat} {t : TyD} : tyG u g i t=(zY u.ss t && !((regsT t).any fun r=>decide (r<(if (i : Int)≤g.pn then 0 else -1))||decide (g.lv≤r))):=by
 rw [tyG,List.not_any_eq_all_not]
set_option maxHeartbeats 4000000 in
theorem aeq {u : UnD} {i : Nat} {v : Value} {w : World} {r : Gh} {K : Value→World→Prop} (hi : i<u.fs.length) (hr : Holds r w) (hu : UnG r v u)
  (h : ∀ w',Ext w w'→K (.bool (yU u i u.fs[i])) w') : zd Tryz.prog Tryz.Yv #[v,.int .i64 i] w K:=by
 obtain ⟨p0,cap0,vf,rfl,_,_,hst,hsl,hfn⟩:=hu
 obtain ⟨qf,capf,rfl,_,_⟩:=hfn.sl.shape
 obtain ⟨bf,of,cf,rfl,hcf,hgc,hfo⟩:=hfn.sl.get (by decide) hi
 refine Tryz.acJ ?_
 unfold Tryz.Ji
 generalize hgi : u.fs[i]=g at h hgc
 obtain ⟨vo,vt,vn,vp,rfl,h1,h2,h3,h4⟩:=id hgc
 obtain ⟨qo,capo,rfl,_,_⟩:=h1.sl.shape
 obtain ⟨qt,capt,rfl,_,hct⟩:=h2.sl.shape
 obtain ⟨qn,capn,rfl,_,_⟩:=h3.sl.shape
 obtain ⟨qp,capp,rfl,_,_⟩:=h4.sl.shape
 have hptl : g.pts.length≤9223372036854775807:=h4.few
 have htl : g.tys.length≤9223372036854775807:=h2.few
 have S:=St.start hr
 refine S.box fun b2 w1 S=>?_
 refine gG_ ?_
 refine zq (n:=7) hcf (fun j v hj=>by rw [Int.toNat_natCast];exact S.at (hfo j v hj)) ?_
 refine S.al fun b5 w2 S=>?_
 refine S.stB (b:=b5) fun w3 S=>?_
 refine gG_ ?_
 have no : (HeadU u i g→False)→yU u i g=false:=fun hh=>by
  cases e : yU u i g
  ·rfl
  ·exact (hh (abc e)).elim
 refine zf (c:=decide (8<g.lv)) (fun _ K2 hK2=>?_) ?_
 ·refine gG_ ?_
  exact hK2
 refine zf (c:=decide (g.pn<0)) (fun _ K2 hK2=>?_) ?_
 ·refine gG_ ?_
  exact hK2
 refine zf (c:=decide (8<g.pn)) (fun _ K2 hK2=>?_) ?_
 ·refine gG_ ?_
  exact hK2
 refine zf (c:=decide ((g.tys.length : Int)≤g.pn)) (fun _ K2 hK2=>?_) ?_
 ·refine gG_ ?_
  exact hK2
 refine zf (c:=decide (512<g.tys.length)) (fun _ K2 hK2=>?_) ?_
 ·refine gG_ ?_
  rw [show decide ((512 : Int)<(g.tys.length : Int))=decide (512<g.tys.length) from decide_eq_decide.2 (by omega)]
  exact hK2
 refine zf (c:=decide (g.nms.length≠g.tys.length)) (fun _ K2 hK2=>?_) ?_
 ·refine gG_ ?_
  rw [abd]
  exact hK2
 refine c_b (fun hbad=>?_) (fun hgood=>?_)
 ·rw [no fun H=>by
   have:=H.lv0;have:=H.lv8;have:=H.pn0;have:=H.pn8;have:=H.pn1;have:=H.ty512;have:=H.nms
   simp only [Bool.or_eq_true,decide_eq_true_eq] at hbad;omega] at h
  exact h _ S.ext
 have hnum : (0≤g.lv∧g.lv≤8∧0≤g.pn∧g.pn≤8)∧g.pn<g.tys.length∧g.tys.length≤512∧g.nms.length=g.tys.length:=by
  simp only [Bool.or_eq_false_iff,decide_eq_false_iff_not] at hgood;omega
 clear hgood
 obtain ⟨⟨hlv0,hlv8,hpn0,hpn8⟩,hpn1,hty,hnm⟩:=hnum
 refine gG_ ?_
 refine zi (ι:=Nat) (fun i=>[.int .i64 (i : Nat)]) (fun j w'=>j≤g.tys.length∧jm u g j (g.tys.drop j)=jm u g 0 g.tys∧StX noX w r w' _) (fun i=>g.tys.length - i) 0 rfl ⟨Nat.zero_le _,rfl,S⟩ ?_
 clear S
 rintro j d w5 ⟨hj,hd,S⟩ K6 hK6
 rw [List.getD_cons_zero]
 refine gP_ ?_
 refine zh (fun hlt=>?_) (fun hge=>?_)
 ·have hlt : j<g.tys.length:=by omega
  obtain ⟨bt,ot,ct,rfl,hct,htc,hcell⟩:=h2.sl.get (by decide) hlt
  obtain ⟨q2,cap2,rfl,ht2⟩:=y6 htc
  rw [acD hlt] at hd
  refine gP_ ?_
  refine zq (n:=5) hct (fun j v hj=>by rw [Int.toNat_natCast];exact S.at (hcell j v hj)) ?_
  refine S.al fun b7 w6 S=>?_
  refine S.stB (b:=b7) fun w7 S=>?_
  refine gG_ ?_
  refine XH S.holds hst ht2 fun w8 e8=>?_
  have S:=S.go e8
  refine gP_ ?_
  refine c_b (fun hm=>?_) (fun hm=>?_)
  ·have hm : zY u.ss g.tys[j]=false:=by simpa using hm
   rw [no fun H=>by
    have:=H.tys
    rw [← hd,tyG,hm,Bool.false_and,Bool.false_and] at this;cases this] at h
   exact h _ S.ext
  have hm : zY u.ss g.tys[j]=true:=by simpa using hm
  refine S.al fun b8 w9 S=>?_
  refine S.st (b:=b8) fun w10 S=>?_
  refine zu (fun _ w'=>StX noX w r w' [.cell b8 [.int .i64 (if (j : Int)≤g.pn then 0 else -1)] 3,.cell b7 (tyL g.tys[j] q2 cap2) 57,.cell b5 [.string g.name,.int .i64 g.lv,.slice qo g.outs.length capo,.int .i64 g.pn,.slice (some ⟨bt,ot,none⟩) g.tys.length capt,.slice qn g.nms.length capn,.slice qp g.pts.length capp] 33,
   .cell b2 [.slice p0 u.ss.length cap0,.slice (some ⟨bf,of,none⟩) u.fs.length capf,.int .i64 u.mn] 25]) (fun K3 hK3=>?_) ?_
  ·refine gG_ ?_
   refine zh (fun hle=>?_) (fun hgt=>?_)
   ·refine S.st (b:=b8) fun w11 S=>?_
    refine hK3 [] _ ?_
    rw [if_pos hle];exact S
   ·refine hK3 [] _ ?_
    rw [if_neg hgt];exact S
  clear S
  rintro _ w11 S d11
  refine S.ldB (b:=b7) ?_ rfl
  refine Xp S.holds ht2 fun v7 w12 e12 o12=>?_
  have S:=S.go e12
  obtain ⟨p7,cap7,rfl,_,_,_,hs7⟩:=Jh o12
  refine gP_ ?_
  have hr48 : (regsT g.tys[j]).length≤1000:=by
   rw [regsT];split
   ·have:=Xr (by assumption);omega
   ·simp
  refine Ja (f:=fun x=>decide (x<(if (j : Int)≤g.pn then 0 else -1))||decide (g.lv≤x)) (fun x K hK=>?_) hs7 (by omega) ?_
  ·refine adA (by kernel_rfl) ?_
   refine Tryz.aaJ ?_
   unfold Tryz.XT
   refine S.ld (b:=b8) ?_ rfl
   refine gP_ ?_
   refine zf (c:=decide (g.lv≤x)) (fun _ K2 hK2=>?_) hK
   refine gG_ ?_
   exact hK2
  have hty : tyG u g j g.tys[j] = !((regsT g.tys[j]).any fun x=>decide (x<(if (j : Int)≤g.pn then 0 else -1))||decide (g.lv≤x)):=by
   rw [afj,hm,Bool.true_and]
  refine c_b (fun hx=>?_) (fun hx=>?_)
  ·rw [hty,hx,Bool.not_true,Bool.false_and] at hd
   rw [no fun H=>by have:=H.tys;rw [← hd] at this;cases this] at h
   exact h _ S.ext
  ·rw [hty,hx,Bool.not_false,Bool.true_and] at hd
   refine gP_ ?_
   rw [show ((j : Int)+1)=((j+1 : Nat) : Int) by omega]
   exact hK6 (j+1) _ ⟨hlt,hd,(S.drop b8).drop b7⟩ (by omega)
 have hje : j=g.tys.length:=by omega
 rw [hje,List.drop_length] at hd
 have htys : jm u g 0 g.tys=true:=hd.symm
 clear hd hK6 K6 hge hj hje
 refine gG_ ?_
 refine zf (c:=decide (1024<g.pts.length)) (fun _ K2 hK2=>?_) ?_
 ·refine gG_ ?_
  rw [show decide ((1024 : Int)<(g.pts.length : Int))=decide (1024<g.pts.length) from decide_eq_decide.2 (by omega)]
  exact hK2
 refine ym (c:=!jd g) (fun _ K2 hK2=>?_) fun w20 e20=>?_
 ·refine S.ldB (b:=b5) ?_ rfl
  refine aal S.holds hgc hlv0 hlv8 hpn0 hpn1 (fun t ht x hx=>?_) fun w21 e21=>?_
  ·obtain ⟨k,hk,rfl⟩:=List.getElem_of_mem ht
   rw [List.length_take] at hk
   rw [List.getElem_take] at hx
   have:=aaj htys (j:=k) (by omega) (by omega) x hx
   omega
  refine gP_ ?_
  exact hK2 _ e21
 have S:=S.go e20
 refine c_b (fun hbad=>?_) (fun hgood=>?_)
 ·rw [no fun H=>by
   have:=H.pt1;have:=H.pt1024;have h3:=H.outs
   rw [h3] at hbad
   simp only [Bool.or_eq_true,decide_eq_true_eq,Bool.not_true,Bool.false_eq_true,or_false] at hbad;omega] at h
  exact h _ S.ext
 have hnum : (1≤g.pts.length∧g.pts.length≤1024)∧jd g=true:=by
  cases ho : jd g
  ·rw [ho] at hgood;simp at hgood
  ·simp only [Bool.or_eq_false_iff,decide_eq_false_iff_not] at hgood
   exact ⟨by omega,rfl⟩
 clear hgood
 obtain ⟨⟨hp1,hp1024⟩,hout⟩:=hnum
 refine gG_ ?_
 refine zi (ι:=Nat) (fun i=>[.int .i64 (yo (g.pts.take i) : Nat),.int .i64 (i : Nat)]) (fun j w'=>j≤g.pts.length∧yo (g.pts.take j)≤j∧StX noX w r w' _) (fun i=>g.pts.length - i) 0 rfl ⟨Nat.zero_le _,Nat.le_refl _,S⟩ ?_
 clear S
 rintro j d w22 ⟨hj,hlj,S⟩ K7 hK7
 simp only [List.getD_cons_zero,List.getD_cons_succ]
 refine gP_ ?_
 refine zh (fun hlt=>?_) (fun hge=>?_)
 ·have hlt : j<g.pts.length:=by omega
  obtain ⟨bp,op,cp,rfl,hcp,hpc,hcell⟩:=h4.sl.get (by decide) hlt
  refine zu (fun s w'=>s = [.int .i64 (yo (g.pts.take (j+1)) : Nat)]∧StX noX w r w' [.cell b5 [.string g.name,.int .i64 g.lv,.slice qo g.outs.length capo,.int .i64 g.pn,.slice qt g.tys.length capt,.slice qn g.nms.length capn,.slice (some ⟨bp,op,none⟩) g.pts.length capp] 33,
   .cell b2 [.slice p0 u.ss.length cap0,.slice (some ⟨bf,of,none⟩) u.fs.length capf,.int .i64 u.mn] 25]) (fun K3 hK3=>?_) ?_
  ·refine gP_ ?_
   refine zq (n:=21) hcp (fun j v hj=>by rw [Int.toNat_natCast];exact S.at (hcell j v hj)) ?_
   obtain ⟨vto,va,vb,vl,vfr,rfl,k1,k2,k3,k4,k5⟩:=hpc
   obtain ⟨_,_,rfl,_⟩:=k1.sl.shape
   obtain ⟨_,_,rfl,_⟩:=k2.sl.shape
   obtain ⟨_,_,rfl,_⟩:=k3.sl.shape
   obtain ⟨_,_,rfl,_⟩:=k4.sl.shape
   obtain ⟨_,_,rfl,_⟩:=k5.sl.shape
   refine S.al fun b11 w23 S=>?_
   refine S.stB (b:=b11) fun w24 S=>?_
   refine gG_ ?_
   have hlo:=Qw hlt
   refine zh (fun ho=>?_) (fun ho=>?_)
   ·rw [if_pos ho] at hlo
    refine gP_ ?_
    rw [show ((yo (g.pts.take j) : Nat) : Int)+1=((yo (g.pts.take (j+1)) : Nat) : Int) by omega]
    exact hK3 _ _ ⟨rfl,S.drop b11⟩
   ·rw [if_neg ho] at hlo
    rw [show ((yo (g.pts.take j) : Nat) : Int)=((yo (g.pts.take (j+1)) : Nat) : Int) by omega]
    exact hK3 _ _ ⟨rfl,S.drop b11⟩
  clear S
  rintro _ w25 ⟨rfl,S⟩ d25
  rw [List.getD_cons_zero]
  refine gP_ ?_
  rw [show ((j : Int)+1)=((j+1 : Nat) : Int) by omega]
  refine hK7 (j+1) _ ⟨hlt,?_,S⟩ (by omega)
  rw [Qw hlt];split<;>omega
 have hje : j=g.pts.length:=by omega
 rw [hje,List.take_length]
 refine gP_ ?_
 have hfin : yU u i g=(decide (yo g.pts≤256)&&(decide ((i : Int)≠u.mn)||((decide (g.lv=0)&&decide (g.pn=0))&&isK (g.tys.headD zD) 1))):=by
  rw [yU,htys,hout,decide_eq_true hlv0,decide_eq_true hlv8,decide_eq_true hpn0,decide_eq_true hpn8,decide_eq_true hpn1,decide_eq_true hty,decide_eq_true hnm,decide_eq_true hp1,decide_eq_true hp1024,decide_not];rfl
 rw [hfin] at h
 rw [show decide ((yo g.pts : Int)≤256)=decide (yo g.pts≤256) from decide_eq_decide.2 (by omega)]
 refine ahp (b2:=decide ((i : Int)≠u.mn)) (b3:=decide (g.lv=0)) (b4:=decide (g.pn=0)) (b5:=isK (g.tys.headD zD) 1) (fun K2 hK2=>?_) (fun K2 hK2=>?_) (fun K2 hK2=>?_) (fun K2 hK2=>?_) (h _ S.ext)
 ·refine gG_ ?_
  exact hK2
 ·refine gG_ ?_
  exact hK2
 ·refine gG_ ?_
  exact hK2
 ·have hpos : 0<g.tys.length:=by omega
  obtain ⟨bt,ot,ct,rfl,hct,htc,hcell⟩:=h2.sl.get (by decide) hpos
  obtain ⟨q2,cap2,rfl,ht2⟩:=y6 htc
  refine gG_ ?_
  refine zp (v:=.int .u8 g.tys[0].k) (by simpa using S.at (hcell 0 _ rfl)) ?_
  refine gG_ ?_
  have he : g.tys.headD zD=g.tys[0]:=by
   rw [List.headD_eq_head?_getD,List.head?_eq_getElem?,List.getElem?_eq_getElem hpos,Option.getD_some]
  rw [he] at hK2
  exact hK2
theorem agE {u : UnD} {i : Nat} {l : List GrD} (hi : i<l.length) : qT u i (l.drop i)=if yU u i l[i] then qT u (i+1) (l.drop (i+1)) else some i:=by
 rw [List.drop_eq_getElem_cons hi];rfl
theorem ahq {u : UnD} {g : GrD} {q : Nat} {l : List PtD} (hq : q<l.length) : Zq u g q (l.drop q)=if zP u g l[q] then Zq u g (q+1) (l.drop (q+1)) else some q:=by
 rw [List.drop_eq_getElem_cons hq];rfl
theorem aia {u : UnD} {i : Nat} {l : List GrD} (hi : i<l.length) : Zg u i (l.drop i)=match Zq u l[i] 0 l[i].pts with|some q=>some (i,q)|none=>Zg u (i+1) (l.drop (i+1)):=by
 rw [List.drop_eq_getElem_cons hi];rfl
noncomputable def abe (u : UnD) : Int × Int × Int:=match qT u 0 u.fs with
  |some i=>(i,-1,100)
  |none=>match Zg u 0 u.fs with
   |some (i,q)=>(i,q,100)
   |none=>(0,0,0)
set_option maxHeartbeats 4000000 in
theorem Z1 {u : UnD} {v : Value} {w : World} {r : Gh} {K : Value→World→Prop} (hr : Holds r w) (hu : UnG r v u)
  (h : ∀ w',Ext w w'→K (.tuple #[.int .i64 (k7 u).1,.int .i64 (k7 u).2.1,.int .i64 (k7 u).2.2]) w') : zd Tryz.prog Tryz.kV #[v] w K:=by
 have hu0:=hu
 obtain ⟨p0,cap0,vf,rfl,_,_,hst,hsl,hfn⟩:=hu
 obtain ⟨qf,capf,rfl,_,_⟩:=hfn.sl.shape
 have hfl : u.fs.length≤9223372036854775807:=hfn.few
 refine Tryz.abI ?_
 unfold Tryz.QJ
 have S:=St.start hr
 refine S.box fun b1 w1 S=>?_
 refine gG_ ?_
 refine Xs S.holds hst fun w2 e2=>?_
 have S:=S.go e2
 refine gS_ ?_
 refine zf (c:=decide (u.fs.length<1)) (fun _ K2 hK2=>?_) ?_
 ·refine gG_ ?_
  rw [show decide ((u.fs.length : Int)<1)=decide (u.fs.length<1) from decide_eq_decide.2 (by omega)]
  exact hK2
 refine zf (c:=decide (32<u.fs.length)) (fun _ K2 hK2=>?_) ?_
 ·refine gG_ ?_
  rw [show decide ((32 : Int)<(u.fs.length : Int))=decide (32<u.fs.length) from decide_eq_decide.2 (by omega)]
  exact hK2
 refine zf (c:=decide (u.mn<0)) (fun _ K2 hK2=>?_) ?_
 ·refine gG_ ?_
  exact hK2
 refine zf (c:=decide ((u.fs.length : Int)≤u.mn)) (fun _ K2 hK2=>?_) ?_
 ·refine gG_ ?_
  exact hK2
 have hC : k7 u=if ((((decide ((zw u.ss).2≠0)||decide (u.fs.length<1))||decide (32<u.fs.length))||decide (u.mn<0))||decide ((u.fs.length : Int)≤u.mn))=true then (-1,-1,100) else abe u:=by
  rw [k7,abe]
  simp only [ne_eq,decide_not,Bool.or_assoc] <;>
  rfl
 rw [hC] at h
 refine c_b (fun hbad=>?_) (fun hgood=>?_)
 ·rw [if_pos hbad] at h
  exact h _ S.ext
 rw [if_neg (by rw [hgood];decide)] at h
 have hok : (zw u.ss).2=0:=by
  simp only [Bool.or_eq_false_iff,decide_eq_false_iff_not] at hgood;omega
 clear hC hgood
 refine gG_ ?_
 refine zi (ι:=Nat × Int) (fun i=>[.int .i64 i.2,.int .i64 0,.int .i64 (i.1 : Nat)]) (fun j w'=>j.1≤u.fs.length∧qT u j.1 (u.fs.drop j.1)=qT u 0 u.fs∧StX noX w r w' _) (fun i=>u.fs.length - i.1) (0,0) rfl ⟨Nat.zero_le _,rfl,S⟩ ?_
 clear S
 rintro ⟨j,a⟩ d w5 ⟨hj,hd,S⟩ K6 hK6
 simp only at hj hd S ⊢
 simp only [List.getD_cons_zero,List.getD_cons_succ]
 refine gP_ ?_
 refine zh (fun hlt=>?_) (fun hge=>?_)
 ·have hlt : j<u.fs.length:=by omega
  rw [agE hlt] at hd
  refine S.ldB (b:=b1) ?_ rfl
  refine aeq hlt S.holds hu0 fun w6 e6=>?_
  have S:=S.go e6
  refine gP_ ?_
  refine c_b (fun hx=>?_) (fun hx=>?_)
  ·rw [if_neg (by simpa using hx)] at hd
   rw [abe,← hd] at h
   exact h _ S.ext
  ·rw [if_pos (by simpa using hx)] at hd
   refine gP_ ?_
   rw [show ((j : Int)+1)=((j+1 : Nat) : Int) by omega]
   exact hK6 (j+1,j) _ ⟨hlt,hd,S⟩ (by show u.fs.length - (j+1)<u.fs.length - j;omega)
 have hje : j=u.fs.length:=by omega
 rw [hje,List.drop_length] at hd
 have hnone : qT u 0 u.fs=none:=hd.symm
 have hheads:=fun (i : Nat) (hi : i<u.fs.length)=>abc (by have:=js.1 hnone i hi;rwa [Nat.zero_add] at this : yU u i u.fs[i]=true)
 rw [abe,hnone] at h
 dsimp only at h
 clear hd hK6 K6 hge hj hje
 refine zu (fun s w'=>Ext w w'∧((∃ x y : Nat,s = [.int .i64 (x : Int),.int .i64 (y : Int),.bool true]∧Zg u 0 u.fs=some (x,y))∨∃ x y,s = [x,y,.bool false]∧Zg u 0 u.fs=none)) (fun K3 hK3=>?_) ?_
 rotate_left
 ·rintro _ w9 ⟨e9,⟨x,y,rfl,hb⟩|⟨x,y,rfl,hb⟩⟩ d9
  ·rw [hb] at h
   refine c_t rfl ?_
   exact h _ e9
  ·rw [hb] at h
   refine c_f rfl ?_
   exact h _ e9
 refine gG_ ?_
 refine zi (ι:=Nat × Value × Value) (fun i=>[i.2.1,i.2.2,.bool false,.int .i64 (i.1 : Nat)]) (fun j w'=>j.1≤u.fs.length∧Zg u j.1 (u.fs.drop j.1)=Zg u 0 u.fs∧StX noX w r w' _) (fun i=>u.fs.length - i.1) (0,.int .i64 a,.int .i64 0) rfl ⟨Nat.zero_le _,rfl,S⟩ ?_
 clear S
 rintro ⟨j,x1,x2⟩ d w5 ⟨hj,hd,S⟩ K6 hK6
 simp only at hj hd S ⊢
 simp only [List.getD_cons_zero,List.getD_cons_succ]
 refine gP_ ?_
 refine zh (fun hlt=>?_) (fun hge=>?_)
 rotate_left
 ·have hje : j=u.fs.length:=by omega
  rw [hje,List.drop_length] at hd
  exact hK3 _ _ ⟨S.ext,.inr ⟨_,_,rfl,hd.symm⟩⟩
 have hlt : j<u.fs.length:=by omega
 obtain ⟨bf,of,cf,rfl,hcf,hgc,hfo⟩:=hfn.sl.get (by decide) hlt
 rw [aia hlt] at hd
 have hH:=hheads j hlt
 have hfin:=hH.fine hok
 have hpn : ∀ f ∈ u.fs,0≤f.pn∧f.pn<f.tys.length:=fun f hf=>by
  obtain ⟨i,hi,rfl⟩:=List.getElem_of_mem hf
  exact ⟨(hheads i hi).pn0,(hheads i hi).pn1⟩
 generalize hgi : u.fs[j]=g at hd hgc hH hfin
 obtain ⟨vo,vt,vn,vp,rfl,h1,h2,h3,h4⟩:=id hgc
 obtain ⟨qo,capo,rfl,_,_⟩:=h1.sl.shape
 obtain ⟨qt,capt,rfl,_,hct⟩:=h2.sl.shape
 obtain ⟨qn,capn,rfl,_,_⟩:=h3.sl.shape
 obtain ⟨qp,capp,rfl,_,_⟩:=h4.sl.shape
 have hptl : g.pts.length≤9223372036854775807:=h4.few
 refine gP_ ?_
 refine zq (n:=7) hcf (fun j v hj=>by rw [Int.toNat_natCast];exact S.at (hfo j v hj)) ?_
 refine S.al fun b9 w6 S=>?_
 refine S.stB (b:=b9) fun w7 S=>?_
 refine S.ldB (b:=b1) ?_ rfl
 refine S.ldB (b:=b9) ?_ rfl
 refine zx (cs:=#[.slice p0 u.ss.length cap0,.slice (some ⟨bf,of,none⟩) u.fs.length capf,.int .i64 u.mn,.string g.name,.int .i64 g.lv,.slice qo g.outs.length capo,.int .i64 g.pn,.slice qt g.tys.length capt,.slice qn g.nms.length capn,.slice qp g.pts.length capp]) (by kernel_rfl) ?_
 refine S.al fun b10 w8 S=>?_
 refine S.stB (b:=b10) fun w9 S=>?_
 refine gG_ ?_
 have hask : AskG r (.agg #[.slice p0 u.ss.length cap0,.slice (some ⟨bf,of,none⟩) u.fs.length capf,.int .i64 u.mn,.string g.name,.int .i64 g.lv,.slice qo g.outs.length capo,.int .i64 g.pn,.slice qt g.tys.length capt,.slice qn g.nms.length capn,.slice qp g.pts.length capp]) u g:=⟨_,_,_,_,_,_,_,rfl,hu0,hgc⟩
 refine zi (ι:=Nat) (fun i=>[x1,x2,.bool false,.int .i64 (i : Nat)]) (fun k w'=>k≤g.pts.length∧Zq u g k (g.pts.drop k)=Zq u g 0 g.pts∧StX noX w r w' _) (fun i=>g.pts.length - i) 0 rfl ⟨Nat.zero_le _,rfl,S⟩ ?_
 clear S
 rintro k d w10 ⟨hk,hdk,S⟩ K7 hK7
 simp only [List.getD_cons_zero,List.getD_cons_succ]
 refine gP_ ?_
 refine zh (fun hlt2=>?_) (fun hge=>?_)
 ·have hlt2 : k<g.pts.length:=by omega
  obtain ⟨bp,op,cp,rfl,hcp,hpc,hcell⟩:=h4.sl.get (by decide) hlt2
  rw [ahq hlt2] at hdk
  refine gP_ ?_
  refine zq (n:=21) hcp (fun j v hj=>by rw [Int.toNat_natCast];exact S.at (hcell j v hj)) ?_
  obtain ⟨vto,va,vb,vl,vfr,rfl,k1,k2,k3,k4,k5⟩:=id hpc
  obtain ⟨_,_,rfl,_⟩:=k1.sl.shape
  obtain ⟨_,_,rfl,_⟩:=k2.sl.shape
  obtain ⟨_,_,rfl,_⟩:=k3.sl.shape
  obtain ⟨_,_,rfl,_⟩:=k4.sl.shape
  obtain ⟨_,_,rfl,_⟩:=k5.sl.shape
  refine S.al fun b12 w11 S=>?_
  refine S.stB (b:=b12) fun w12 S=>?_
  refine S.ldB (b:=b10) ?_ rfl
  refine S.ldB (b:=b12) ?_ rfl
  refine Jb S.holds hask hfin hpn hpc fun w13 e13=>?_
  have S:=S.go e13
  refine gP_ ?_
  refine c_b (fun hx=>?_) (fun hx=>?_)
  ·rw [if_neg (by simpa using hx)] at hdk
   rw [← hdk] at hd
   exact hK3 _ _ ⟨S.ext,.inl ⟨j,k,rfl,hd.symm⟩⟩
  ·rw [if_pos (by simpa using hx)] at hdk
   refine gP_ ?_
   rw [show ((k : Int)+1)=((k+1 : Nat) : Int) by omega]
   exact hK7 (k+1) _ ⟨hlt2,hdk,S.drop b12⟩ (by omega)
 have hke : k=g.pts.length:=by omega
 rw [hke,List.drop_length] at hdk
 rw [← hdk] at hd
 refine gP_ ?_
 rw [show ((j : Int)+1)=((j+1 : Nat) : Int) by omega]
 exact hK6 (j+1,x1,x2) _ ⟨hlt,hd,(S.drop b10).drop b9⟩ (by show u.fs.length - (j+1)<u.fs.length - j;omega)
theorem jt {u : UnD} {v : Value} {w : World} {r : Gh} {K : Value→World→Prop} (hr : Holds r w) (hu : UnG r v u)
  (h : ∀ w',Ext w w'→K (.bool (kD u)) w') : zd Tryz.prog Tryz.ke #[v] w K:=by
 refine Tryz.ad0 ?_
 unfold Tryz.VI
 have hu0:=hu
 obtain ⟨p0,cap0,vf,rfl,_,_,hst,hsl,hfn⟩:=hu
 obtain ⟨qf,capf,rfl,_,_⟩:=hfn.sl.shape
 have S:=St.start hr
 refine S.box fun b1 w1 S=>?_
 refine S.ldB (b:=b1) ?_ rfl
 refine Z1 S.holds hu0 fun w2 e2=>?_
 have S:=S.go e2
 refine gS_ ?_
 exact h _ S.ext
end Go.Proofs
end
section
namespace Go.Proofs
open Go.Sh
set_option maxRecDepth 100000
set_option linter.unusedSimpArgs false
set_option linter.unusedVariables false
theorem aib {s : Gh} {p : Option Addr} {n cap : Nat} {l : List Int} (h : SlG 1 s xM (.slice p n cap) l) : Ob s fun w=>Sl w p (ints l):=fun w hw i v hi=>by
 have hlt : i<l.length:=by
  have:=(List.getElem?_eq_some_iff.1 hi).1
  rwa [qQ] at this
 have hv : v = .int .i64 l[i]:=by
  rw [ints,List.getElem?_map,List.getElem?_eq_getElem hlt] at hi
  exact (Option.some.inj hi).symm
 subst hv
 obtain ⟨b,off,c,rfl,hc,hcc,hcell⟩:=h.get (by decide) hlt
 obtain rfl : c=_:=hcc
 have:=hcell 0 _ rfl w hw
 exact ⟨b,off,rfl,by simpa using this⟩
end Go.Proofs
end
section
namespace Go.Sh
theorem StX.front {X : Nat→Prop} {w0 w : World} {r : Gh} {L M : List Asr} (S : StX X w0 r w L) (b : Nat) {c : List Value} {T : TypeId} [h : aab b L c T M] : StX X w0 r w (.cell b c T::M):=S.permO h.h.symm
end Go.Sh
namespace Go.Proofs
open Go.Sh
set_option maxRecDepth 100000
set_option linter.unusedSimpArgs false
set_option linter.unusedVariables false
theorem afQ {u : UnD} {g : GrD} {p : PtD} (h : zP u g p=true) (ho : p.op=7) : 0≤p.fn∧p.fn<u.fs.length:=by
 rw [zP,Bool.and_eq_true] at h
 have h2:=h.2
 rw [ptG] at h2
 simp only [ho,Int.reduceEq,if_false,if_true,Bool.and_eq_true,decide_eq_true_eq] at h2
 exact ⟨h2.1.2.1,h2.1.2.2⟩
end Go.Proofs
end
section
namespace Go.Proofs
open Go.Sh
set_option maxRecDepth 100000
set_option linter.unusedSimpArgs false
set_option linter.unusedVariables false
theorem aer {u : UnD} {fn q : Int} (h : isU u fn q=true) : MayU u∧0≤fn∧∃ hlt : fn.toNat<u.fs.length,q<u.fs[fn.toNat].pts.length∧aiL u fn q=(aiK u u.fs[fn.toNat],0):=by
 have h0:=h
 rw [isU] at h
 simp only [Bool.and_eq_true,decide_eq_true_eq] at h
 obtain ⟨⟨h1,h2⟩,h3,h4⟩:=h
 have hlt : fn.toNat<u.fs.length:=by omega
 rw [List.getElem?_eq_getElem hlt] at h4
 exact ⟨xN.1 h3,h1,hlt,h4,by rw [aiL,if_pos h0,List.getElem?_eq_getElem hlt]⟩
def yQ : PlD:=⟨0,[]⟩
def Vn : OpD:=⟨0,0,yQ⟩
def agF : PtD:=⟨0,yQ,Vn,Vn,[],ByteArray.empty,yQ,false,0,0,0,0,0⟩
abbrev afk : List Value:=[.int .u8 0,.int .i64 0,.slice none 0 0,.int .u8 0,.int .i64 0,.int .i64 0,.slice none 0 0,.int .u8 0,.int .i64 0,.int .i64 0,.slice none 0 0,.slice none 0 0,.string ByteArray.empty,.int .i64 0,.slice none 0 0,.bool false,.int .i64 0,.int .i64 0,.int .i64 0,.int .i64 0,.int .i64 0]
theorem xH {α : Type} {sz : Nat} {r : Gh} {R : List Value→α→Prop} : SlB sz r R (.slice none 0 0) ([] : List α):=⟨SlG.nil,Nat.zero_le _⟩
theorem ahr {r : Gh} : PtG r afk agF:=⟨_,_,_,_,_,rfl,xH,xH,xH,xH,xH⟩
abbrev ptL (p : PtD) (q1 q2 q3 q4 q5 : Option Addr) (c1 c2 c3 c4 c5 : Nat) : List Value:=[.int .u8 p.op,.int .i64 p.to.l,.slice q1 p.to.ps.length c1,.int .u8 p.a.k,.int .i64 p.a.n,.int .i64 p.a.pl.l,.slice q2 p.a.pl.ps.length c2,.int .u8 p.b.k,.int .i64 p.b.n,.int .i64 p.b.pl.l,.slice q3 p.b.pl.ps.length c3,.slice q4 p.args.length c4,
 .string p.sign,.int .i64 p.fr.l,.slice q5 p.fr.ps.length c5,.bool p.mu,.int .i64 p.fn,.int .i64 p.st,.int .i64 p.nx,.int .i64 p.el,.int .i64 p.tx]
theorem yj {r : Gh} {c : List Value} {p : PtD} (h : PtG r c p) : ∃ q1 q2 q3 q4 q5 c1 c2 c3 c4 c5,c=ptL p q1 q2 q3 q4 q5 c1 c2 c3 c4 c5∧PtG r (ptL p q1 q2 q3 q4 q5 c1 c2 c3 c4 c5) p:=by
 obtain ⟨vto,va,vb,vl,vfr,rfl,k1,k2,k3,k4,k5⟩:=id h
 obtain ⟨q1,c1,rfl,_⟩:=k1.sl.shape
 obtain ⟨q2,c2,rfl,_⟩:=k2.sl.shape
 obtain ⟨q3,c3,rfl,_⟩:=k3.sl.shape
 obtain ⟨q4,c4,rfl,_⟩:=k4.sl.shape
 obtain ⟨q5,c5,rfl,_⟩:=k5.sl.shape
 exact ⟨q1,q2,q3,q4,q5,c1,c2,c3,c4,c5,rfl,h⟩
end Go.Proofs
end
section
namespace Go.Proofs
open Go.Sh
set_option maxRecDepth 100000
set_option linter.unusedSimpArgs false
set_option linter.unusedVariables false
theorem xU (x : ByteArray) : Value.string x = .string (bs x.data.toList):=rfl
theorem Zi {r : Gh} {p : PtD} {q1 q2 q3 q4 q5 : Option Addr} {c1 c2 c3 c4 c5 : Nat} (h : PtG r (ptL p q1 q2 q3 q4 q5 c1 c2 c3 c4 c5) p) :
  PlG r [.int .i64 p.to.l,.slice q1 p.to.ps.length c1] p.to∧OpG r [.int .u8 p.a.k,.int .i64 p.a.n,.int .i64 p.a.pl.l,.slice q2 p.a.pl.ps.length c2] p.a∧
  OpG r [.int .u8 p.b.k,.int .i64 p.b.n,.int .i64 p.b.pl.l,.slice q3 p.b.pl.ps.length c3] p.b∧SlB 4 r (OpG r) (.slice q4 p.args.length c4) p.args∧PlG r [.int .i64 p.fr.l,.slice q5 p.fr.ps.length c5] p.fr:=by
 obtain ⟨_,_,_,_,_,hE,k1,k2,k3,k4,k5⟩:=h
 cases hE
 exact ⟨⟨_,rfl,k1⟩,⟨_,rfl,k2⟩,⟨_,rfl,k3⟩,k4,⟨_,rfl,k5⟩⟩
set_option maxHeartbeats 4000000 in
theorem aes {p : PtD} {q : Int} {c : List Value} {w : World} {r : Gh} {K : Value→World→Prop} (hT : TabZ r) (hr : Holds r w) (hp : PtG r c p) (hf : p.fit) (hq : 0≤q∧q≤1000000)
  (h : ∀ w',Ext w w'→K (.string (bs (ptT p q))) w') : zd Tryz.prog Tryz.YE #[.agg c.toArray,.int .i64 q] w K:=by
 refine Tryz.ac3 ?_
 unfold Tryz.JJ
 obtain ⟨z1,z2,z3,z4,z5,t1,t2,t3,t4,t5,rfl,hp0⟩:=yj hp
 obtain ⟨kto,ka,kb,kl,kf⟩:=Zi hp0
 have hal:=hf.args
 have la:=X9 hf.a;have lb:=X9 hf.b;have lf:=X8 hf.fr;have lt:=X8 hf.to;have lj:=acr hf.args
 have lst:=yO hf.st;have lfn:=yO hf.fn;have lnx:=yO hf.nx;have lel:=yO hf.el
 have ldo:=ah6 hf;have lgo:=ah7 (q:=q) hf
 have lsg : p.sign.data.toList.length≤1000:=by have:=hf.sign;rwa [ByteArray.size,← Array.length_toList] at this
 have ho1:=hf.op1;have ho14:=hf.op14
 have S:=St.start hr
 refine S.box fun b2 w1 S=>?_
 have S : StX noX w r w1 [.cell b2 (ptL p z1 z2 z3 z4 z5 t1 t2 t3 t4 t5) 44]:=S
 refine gg_ ?_
 have S:=S.ownNil 9 1
 have S : StX noX w (r.or nothing) w1 [.row (.slice none 0 0) 9 1 0 [],.cell b2 (ptL p z1 z2 z3 z4 z5 t1 t2 t3 t4 t5) 44]:=S.to _
 refine zi (ι:=Nat × Value × List Value) (fun i=>[i.2.1,.int .i64 (i.1 : Nat)]) (fun i w'=>i.1≤p.args.length∧RowOf 1 JA i.2.2 (((p.args.take i.1).map opT).map bs)∧
  StX noX w (r.or nothing) w' [.row i.2.1 9 1 i.1 i.2.2,.cell b2 (ptL p z1 z2 z3 z4 z5 t1 t2 t3 t4 t5) 44]) (fun i=>p.args.length - i.1) (0,.slice none 0 0,[]) rfl ⟨Nat.zero_le _,by simpa using RowOf.nil,S⟩ ?_
 clear S
 rintro ⟨i,vp,xs⟩ dd w10 ⟨hi,hrow,S⟩ K2 hK2
 simp only at hi hrow S ⊢
 simp only [List.getD_cons_zero,List.getD_cons_succ]
 refine gg_ ?_
 refine zh (fun hlt=>?_) (fun hge=>?_)
 ·have hlt : i<p.args.length:=by omega
  obtain ⟨b',o',c',rfl,hc',hR,hcell⟩:=kl.sl.get (by decide) hlt
  have hof:=hal.2 _ (List.getElem_mem hlt)
  refine gg_ ?_
  refine zq (n:=4) hc' (fun j v hj=>by rw [Int.toNat_natCast];exact S.at (hcell j v hj)) ?_
  refine S.al fun b7 w6 S=>?_
  obtain ⟨va,rfl,hva⟩:=id hR
  obtain ⟨qa,ca,rfl,_,_⟩:=hva.sl.shape
  refine S.stB (b:=b7) fun w7 S=>?_
  refine S.ldB (b:=b7) ?_ rfl
  refine qk hT.up S.holds hR.up hof fun w8 e8=>?_
  have S:=(S.drop b7).go e8
  refine S.lit (e:=9) (cs:=[.string (bs (opT p.args[i]))]) (by kernel_rfl) fun b15 w14 S=>?_
  refine S.ap (m':=1) (Sl.blk (S.blk b15)) (fun v15 w15 S=>?_) (by omega)
  have S:=S.drop b15
  refine gg_ ?_
  refine hK2 (i+1,v15,xs ++ [.string (bs (opT p.args[i]))]) _ ⟨hlt,?_,S⟩ (by show p.args.length - (i+1)<p.args.length - i;omega)
  show RowOf 1 JA (xs ++ [.string (bs (opT p.args[i]))]) (((p.args.take (i+1)).map opT).map bs)
  rw [List.take_succ_eq_append_getElem hlt,List.map_append,List.map_append]
  exact hrow.snoc rfl rfl
 have hie : i=p.args.length:=by omega
 subst hie
 rw [List.take_length] at hrow
 obtain ⟨s2,S,hsl2,_,_⟩:=S.doneRow hrow (by decide) (by simp)
 refine aiI S.holds (hsl2.up' inferInstance fun c x hx=>hx) (by rw [List.length_map];exact hal.1) (by omega) fun w11 e11=>?_
 have S:=S.go e11
 have S:=S.go (Ext.drew _)
 have lar : (JC p.args).length≤24002002:=aeg hal
 have harg : ∀ {Q : Value→Prop},Q (.string (bs (JC p.args)))→Q (.string (bs (([40]++jD (p.args.map opT)) ++ [41]))):=fun h=>h
 refine gA_ ?_
 refine gg_ ?_
 refine S.ldN (b:=b2) ?_
 refine gg_ ?_
 refine S.ldN (b:=b2) ?_
 refine qk hT.up S.holds ka.up hf.a fun w12 e12=>⟨e12,?_⟩
 have S:=S.go e12
 refine vE hT.up S.holds kf.up hf.fr fun w13 e13=>?_
 have S:=S.go e13
 refine zu (fun x w'=>x = [.string (bs (doT p))]∧p.op≠14∧StX noX w ((r.or nothing).or s2) w' [.cell b2 (ptL p z1 z2 z3 z4 z5 t1 t2 t3 t4 t5) 44]) (fun K14 hK14=>?_) ?_
 ·refine gg_ ?_
  refine zh (fun h1=>?_) (fun h1=>?_)
  ·have hd : doT p=opT p.a:=by rw [doT,h1];rfl
   rw [hd] at hK14
   exact hK14 _ _ ⟨rfl,by omega,S⟩
  refine gg_ ?_
  refine zh (fun h2=>?_) (fun h2=>?_)
  ·have hd : doT p=opT p.a ++ [32]++p.sign.data.toList ++ [32]++opT p.b:=by rw [doT,h2];rfl
   rw [hd] at hK14
   have S:=S.go (Ext.drew _)
   refine gA_ ?_
   rw [xU p.sign]
   refine gA_ ?_
   refine gg_ ?_
   refine S.ldN (b:=b2) ?_
   refine qk hT.up S.holds kb.up hf.b fun w18 e18=>⟨e18,?_⟩
   have S:=S.go e18
   refine gA_ ?_
   exact hK14 _ _ ⟨rfl,by omega,S⟩
  refine gg_ ?_
  refine zh (fun h3=>?_) (fun h3=>?_)
  ·have hd : doT p=p.sign.data.toList ++ [32]++opT p.a:=by rw [doT,h3];rfl
   rw [hd] at hK14
   refine gA_ ?_
   rw [xU p.sign]
   refine gA_ ?_
   exact hK14 _ _ ⟨rfl,by omega,S⟩
  refine gg_ ?_
  refine zh (fun h4=>?_) (fun h4=>?_)
  ·refine gA_ ?_
   refine c_b (fun hm=>?_) (fun hm=>?_)
   ·have hd : doT p = [38,109,117,116,32]++plT p.fr:=by rw [doT,h4,hm];rfl
    rw [hd] at hK14
    refine gA_ ?_
    exact hK14 _ _ ⟨rfl,by omega,S⟩
   ·have hd : doT p = [38,32]++plT p.fr:=by rw [doT,h4,hm];rfl
    rw [hd] at hK14
    exact hK14 _ _ ⟨rfl,by omega,S⟩
  refine gg_ ?_
  refine zh (fun h5=>?_) (fun h5=>?_)
  ·have hd : doT p = [98,111,120,32]++opT p.a:=by rw [doT,h5];rfl
   rw [hd] at hK14
   refine gA_ ?_
   exact hK14 _ _ ⟨rfl,by omega,S⟩
  refine gg_ ?_
  refine zh (fun h6=>?_) (fun h6=>?_)
  ·have hd : doT p = [35]++Lib.itoa p.st++JC p.args:=by rw [doT,h6];rfl
   rw [hd] at hK14
   refine gA_ ?_
   refine Yo hT.up hf.st S.holds fun w18 e18=>?_
   have S:=S.go e18
   refine gA_ ?_
   exact hK14 _ _ ⟨rfl,by omega,S⟩
  refine gg_ ?_
  refine zh (fun h7=>?_) (fun h7=>?_)
  ·have hd : doT p = [102]++Lib.itoa p.fn++JC p.args:=by rw [doT,h7];rfl
   rw [hd] at hK14
   refine gA_ ?_
   refine Yo hT.up hf.fn S.holds fun w18 e18=>?_
   have S:=S.go e18
   refine gA_ ?_
   exact hK14 _ _ ⟨rfl,by omega,S⟩
  refine gg_ ?_
  refine zh (fun h8=>?_) (fun h8=>?_)
  ·have hd : doT p = [114,101,97,100]:=by rw [doT,h8];rfl
   rw [hd] at hK14
   exact hK14 _ _ ⟨rfl,by omega,S⟩
  refine gg_ ?_
  refine zh (fun h9=>?_) (fun h9=>?_)
  ·have hd : doT p = [112,114,105,110,116,32]++opT p.a:=by rw [doT,h9];rfl
   rw [hd] at hK14
   refine gA_ ?_
   exact hK14 _ _ ⟨rfl,by omega,S⟩
  refine gg_ ?_
  refine zh (fun h10=>?_) (fun h10=>?_)
  ·have hd : doT p = [100,114,111,112,32]++plT p.fr:=by rw [doT,h10];rfl
   rw [hd] at hK14
   refine gA_ ?_
   exact hK14 _ _ ⟨rfl,by omega,S⟩
  refine gg_ ?_
  refine zh (fun h11=>?_) (fun h11=>?_)
  ·have hd : doT p = [100,101,97,100,32]++plT p.fr:=by rw [doT,h11];rfl
   rw [hd] at hK14
   refine gA_ ?_
   exact hK14 _ _ ⟨rfl,by omega,S⟩
  refine gg_ ?_
  refine zh (fun h12=>?_) (fun h12=>?_)
  ·have hd : doT p = [105,102,32]++opT p.a:=by rw [doT,h12];rfl
   rw [hd] at hK14
   refine gA_ ?_
   exact hK14 _ _ ⟨rfl,by omega,S⟩
  refine gg_ ?_
  refine zh (fun h13=>?_) (fun h13=>?_)
  ·have hd : doT p = [103,111,116,111]:=by rw [doT,h13];rfl
   rw [hd] at hK14
   exact hK14 _ _ ⟨rfl,by omega,S⟩
  refine gg_ ?_
  refine zh (fun h14=>?_) (fun h14=>?_)
  ·have hd : ptT p q = [114,101,116,117,114,110]:=by rw [ptT,if_pos h14]
   rw [hd] at h
   exact h _ S.ext
  exfalso;omega
 clear S
 rintro _ w17 ⟨rfl,hne,S⟩ d17
 rw [ptT,if_neg hne] at h
 refine zu (fun x w'=>x = [.string (bs ((if p.op≤8 then plT p.to ++ [32,61,32] else [])++doT p))]∧StX noX w ((r.or nothing).or s2) w' [.cell b2 (ptL p z1 z2 z3 z4 z5 t1 t2 t3 t4 t5) 44]) (fun K21 hK21=>?_) ?_
 ·refine gg_ ?_
  refine zh (fun h8=>?_) (fun h8=>?_)
  ·rw [if_pos h8] at hK21
   refine gg_ ?_
   refine S.ldN (b:=b2) ?_
   refine vE hT.up S.holds kto.up hf.to fun w18 e18=>?_
   have S:=S.go e18
   refine gA_ ?_
   exact hK21 _ _ ⟨rfl,S⟩
  ·rw [if_neg h8] at hK21
   exact hK21 _ _ ⟨rfl,S⟩
 clear S
 rintro _ w24 ⟨rfl,S⟩ d24
 have lX : ((if p.op≤8 then plT p.to ++ [32,61,32] else [])++doT p).length≤26000000:=by
  split<;>simp only [List.length_append,List.length_cons,List.length_nil]<;>omega
 generalize (if p.op≤8 then plT p.to ++ [32,61,32] else [])++doT p=X at h lX ⊢
 refine zu (fun x w'=>x = [.string (bs (X++goT p q))]∧StX noX w ((r.or nothing).or s2) w' [.cell b2 (ptL p z1 z2 z3 z4 z5 t1 t2 t3 t4 t5) 44]) (fun K26 hK26=>?_) ?_
 ·refine gg_ ?_
  refine zf (c:=decide (p.op=12)) (fun _ K2 hK2=>by refine gg_ ?_;exact hK2) ?_
  refine zf (c:=decide (p.op=13)) (fun _ K2 hK2=>by refine gg_ ?_;exact hK2) ?_
  refine c_b (fun hb=>?_) (fun hb=>?_)
  ·rw [goT,if_pos (by simpa [or_assoc] using hb)] at hK26
   refine gg_ ?_
   refine Yo hT.up hf.nx S.holds fun w18 e18=>?_
   have S:=S.go e18
   refine gA_ ?_
   exact hK26 _ _ ⟨rfl,S⟩
  ·rw [goT,if_neg (by simpa [or_assoc,not_or,and_assoc] using hb),List.append_nil] at hK26
   exact hK26 _ _ ⟨rfl,S⟩
 clear S
 rintro _ w29 ⟨rfl,S⟩ d29
 refine zu (fun x w'=>x = [.string (bs ((X++goT p q)++elT p))]∧StX noX w ((r.or nothing).or s2) w' [.cell b2 (ptL p z1 z2 z3 z4 z5 t1 t2 t3 t4 t5) 44]) (fun K39 hK39=>?_) ?_
 ·refine gg_ ?_
  refine zh (fun h12=>?_) (fun h12=>?_)
  ·rw [elT,if_pos h12] at hK39
   refine gg_ ?_
   refine Yo hT.up hf.el S.holds fun w18 e18=>?_
   have S:=S.go e18
   refine gA_ ?_
   exact hK39 _ _ ⟨rfl,S⟩
  ·rw [elT,if_neg h12,List.append_nil] at hK39
   exact hK39 _ _ ⟨rfl,S⟩
 clear S
 rintro _ w42 ⟨rfl,S⟩ d42
 rw [List.getD_cons_zero]
 exact h _ S.ext
end Go.Proofs
end
section
namespace Go.Proofs
open Go.Sh
set_option maxRecDepth 100000
set_option linter.unusedSimpArgs false
set_option linter.unusedVariables false
def jn (u : UnD) (fn q : Int) : Option PtD:=u.fs[fn.toNat]?.bind fun g=>g.pts[q.toNat]?
theorem aan {u : UnD} {fn q : Int} {p : PtD} (hlt : fn.toNat<u.fs.length) (h : jn u fn q=some p) : ∃ hq : q.toNat<u.fs[fn.toNat].pts.length,u.fs[fn.toNat].pts[q.toNat]=p:=by
 rw [jn,List.getElem?_eq_getElem hlt,Option.bind_some] at h
 exact List.getElem?_eq_some_iff.1 h
end Go.Proofs
end
section
namespace Go.Proofs
open Go.Sh
set_option maxRecDepth 100000
set_option linter.unusedSimpArgs false
set_option linter.unusedVariables false
theorem jN : ∀ (n : Nat) (t : TyD),t.ht≤n→t.few→∀ {w : World} {r : Gh} {va vb : Value} {K : Value→World→Prop},Holds r w→TyG r va t→TyG r vb t→
  (∀ w',Ext w w'→K (.bool true) w')→zd Tryz.prog Tryz.xk #[va,vb] w K:=by
 intro n
 induction n with
 |zero=>intro t h;cases t;simp [TyD.ht] at h
 |succ n ih=>
  intro t hn hf w r va vb K hr ha hb h
  obtain ⟨hlen,hfs⟩:=TyD.few_of hf
  obtain ⟨p,cap,rfl,_,_,hra⟩:=ha
  obtain ⟨q,cap',rfl,_,_,hrb⟩:=hb
  refine Tryz.Vt ?_
  unfold Tryz.YP
  have S:=St.start hr
  refine S.box fun b2 w1 S=>?_
  refine S.box fun b3 w2 S=>?_
  refine gG_ ?_
  refine zf (c:=false) (fun _ K2 hK2=>?_) ?_
  ·refine gG_ ?_
   simpa using hK2
  refine zf (c:=false) (fun _ K2 hK2=>?_) ?_
  ·refine gG_ ?_
   simpa using hK2
  refine zf (c:=false) (fun _ K2 hK2=>?_) ?_
  ·refine gG_ ?_
   simpa using hK2
  refine zf (c:=false) (fun _ K2 hK2=>?_) ?_
  ·refine gG_ ?_
   simpa using hK2
  refine c_f (by simp) ?_
  refine zi (ι:=Nat) (fun i=>[.int .i64 i]) (fun i w'=>i≤t.of.length∧StX noX w r w' [.cell b3 (Value.agg #[.int .u8 t.k,.bool t.m,.int .i64 t.re,.int .i64 t.st,.slice q t.of.length cap']).cells.toList 57,.cell b2 (Value.agg #[.int .u8 t.k,.bool t.m,.int .i64 t.re,.int .i64 t.st,.slice p t.of.length cap]).cells.toList 57])
   (fun i=>t.of.length - i) 0 rfl ⟨Nat.zero_le _,S⟩ ?_
  clear S
  rintro i d w3 ⟨hi,S⟩ K6 hK6
  rw [List.getD_cons_zero]
  refine gG_ ?_
  refine c_b (fun hlt=>?_) (fun hge=>h _ S.ext)
  have hlt : i<t.of.length:=by simpa using hlt
  have S:=S.go (Ext.drew _)
  obtain ⟨ba,oa,ca,rfl,hca1,hca2,hca3⟩:=kC S hra hlt
  obtain ⟨bb,ob,cb,rfl,hcb1,hcb2,hcb3⟩:=kC S hrb hlt
  refine gG_ ?_
  refine zq (n:=5) hca1 (fun j v hj=>by rw [Int.toNat_natCast];exact hca2 j v hj) ?_
  refine gG_ ?_
  refine zq (n:=5) hcb1 (fun j v hj=>by rw [Int.toNat_natCast];exact hcb2 j v hj) ?_
  refine ih (t.of[i]) (by have:=TyD.ht_of (List.getElem_mem hlt);omega) (hfs _ (List.getElem_mem hlt)) S.holds hca3 hcb3 fun w4 e4=>?_
  have S:=S.go e4
  refine gG_ ?_
  rw [show ((i : Int)+1)=((i+1 : Nat) : Int) by omega]
  exact hK6 (i+1) _ ⟨hlt,S⟩ (by omega)
end Go.Proofs
end
section
namespace Go.Sh
theorem StX.litNew {w0 w : World} {r : Gh} {L M : List Asr} {α : Type} {sz : Nat} {R : List Value→α→Prop} {l : List α} {e : TypeId} {xs : List Value} (S : StX noX w0 r w L) (b : Nat) [h : aab b L xs e M] (hr : RowOf sz R xs l) (hz : 0<sz) :
  StX noX w0 (r.or (one b xs e)) w M∧SlG sz (one b xs e) R (.slice (some ⟨b,0,none⟩) l.length l.length) l∧Above w0 (one b xs e):=by
 have S1:=S.front b
 have hm:=S1.mine (.cell b xs e) List.mem_cons_self b rfl
 obtain ⟨S2,h2⟩:=S1.litSl hr hz
 exact ⟨S2,h2,by rintro b' o ⟨rfl,_⟩;exact hm.1.resolve_right id⟩
end Go.Sh
namespace Go.Proofs
open Go.Sh
set_option maxRecDepth 100000
set_option linter.unusedSimpArgs false
set_option linter.unusedVariables false
theorem x8 {α : Type} {sz : Nat} {R : List Value→α→Prop} {c : List Value} {x : α} (hc : c.length=sz) (hx : R c x) : RowOf sz R c [x]:=RowOf.nil.snoc (xs:=[]) hc hx
theorem vH {α : Type} {sz : Nat} {R : List Value→α→Prop} {c xs : List Value} {x : α} {l : List α} (hc : c.length=sz) (hx : R c x) (h : RowOf sz R xs l) : RowOf sz R (c++xs) (x::l):=by
 obtain ⟨h1,h2⟩:=h
 refine ⟨by rw [List.length_append,List.length_cons,h1,hc,Nat.succ_mul,Nat.add_comm],fun i hi=>?_⟩
 cases i with
 |zero=>rw [Nat.zero_mul,List.drop_zero,List.take_append_of_le_length (by omega),List.take_of_length_le (by omega)];exact hx
 |succ i=>
  have e : ((c++xs).drop ((i+1)*sz))=xs.drop (i*sz):=by
   rw [show (i+1)*sz=c.length+i*sz by rw [hc,Nat.succ_mul,Nat.add_comm],← List.drop_drop,List.drop_left'];rfl
  rw [e]
  exact h2 i (by simpa using hi)
theorem Vo {α : Type} {sz : Nat} {r : Gh} {R : List Value→α→Prop} {v : Value} {l : List α} (h : SlG sz r R v l) (hl : l.length≤1000000:=by decide) : SlB sz r R v l:=⟨h,by simp only [maxLen];omega⟩
abbrev XK : List Value:=[.int .u8 1,.bool false,.int .i64 0,.int .i64 0,.slice none 0 0]
abbrev hl3 : List Value:=[.int .u8 14,.int .i64 0,.slice none 0 0,.int .u8 0,.int .i64 0,.int .i64 0,.slice none 0 0,.int .u8 0,.int .i64 0,.int .i64 0,.slice none 0 0,.slice none 0 0,.string ByteArray.empty,.int .i64 0,.slice none 0 0,.bool false,.int .i64 0,.int .i64 0,.int .i64 0,.int .i64 0,.int .i64 0]
end Go.Proofs
end
section
namespace Go.Proofs
open Go.Sh
set_option maxRecDepth 100000
set_option linter.unusedSimpArgs false
set_option linter.unusedVariables false
theorem hst : zw ([] : List StD)=(0,0):=by unfold zw;simp [xu]
theorem hmay (t : TyD) : zY [] t=zz 0 48 t:=by rw [zY,hst];simp
theorem abf : ByteArray.empty.toList = []:=by rw [ByteArray.toList_eq];rfl
end Go.Proofs
end
section
namespace Go.Sh
section
variable {P : Program} {t : TypeId} {c : Bool} {K : Value→Prop}
theorem aiR {a b : Int} (k : ∀ x : Int,K (.int .i64 x)) : opP P (yg .add t c (.int .i64 a) (.int .i64 b)) K:=
 yl (fun w=>by rw [x9];simp [binOp,Op.intArith]) (k (IntKind.i64.wrap (a+b)))
end
end Go.Sh
namespace Go.Proofs
open Go.Sh
set_option maxRecDepth 100000
set_option linter.unusedSimpArgs false
set_option linter.unusedVariables false
theorem afR {s : Gh} {p : Option Addr} {l : List Int} (h : Ob s fun w=>Sl w p (ints l)) {w : World} (hw : Holds s w) {i : Nat} (hi : i<l.length) : ∃ b off,p=some ⟨b,off,none⟩∧Ob s fun w=>w.cell? ⟨b,off+i,none⟩=some (.int .i64 l[i]):=by
 obtain ⟨b,off,rfl,_⟩:=Yn (h w hw) hi
 refine ⟨b,off,rfl,fun w' hw'=>?_⟩
 obtain ⟨b',off',hp,hc⟩:=Yn (h w' hw') hi
 cases hp
 exact hc
end Go.Proofs
end
