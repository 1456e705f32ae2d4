/-
  Shallow readings of functions. Made by a program (wip/gen/gen.py) out of the translation; the kernel checks each equality.
  Shallow readings of functions. Made by a program (wip/gen/gen.py) out of the translation; the kernel checks each equality.
  Contracts of live: of, point, assigns.
  A function value that is handed things one by one, and what it may write.
  Contracts of live: point, assigns; the locals that a point uses, handed one by one.
  Shallow readings of functions. Made by a program (wip/gen/gen.py) out of the translation; the kernel checks each equality.
  Contracts: rows of bits: May, New of bits; May, Is, List of the document's.
  Contracts of live: the locals that a point uses as an iterator; used, ends.
  Contracts of flow: Is, Right.
  Contracts of flow: Right, Loop.
  Contract of flow: Loop.
  Shallow readings of functions. Made by a program (wip/gen/gen.py) out of the translation; the kernel checks each equality.
  Contracts of loanwordref12: Next, in, rising, Before, reach, Reach.
  Contracts of loanwordref12: reach, Reach, Above.
  Contracts of loanwordref12: Reach, Above, Is.
  Contracts of loanwordref12: Is, Loop.
  Contract of loanwordref12: Right.
  Plain law: the walk's marks as two rows of truths, and the walk as a recursion.
  Contract of loanwordref12: walker.walk.
  Contract of loanwordref12: Walk.
  Shallow readings of functions. Made by a program (wip/gen/gen.py) out of the translation; the kernel checks each equality.
  Contracts of loanwordlaw12: in, same, inside.
  Contract of loanwordlaw12: fits.
  loanwordlaw12's small units: plain facts.
  Contract of loanwordlaw12: line.
  A map of numbers of one's own: made, filled, asked.
  Contract of flow: Way.
  Contract of loanwordlaw12: awake.
  loanwordlaw12.FlowPoints: whatever the program, the function, the points: the law returns true.
  Contract of loanwordref12: Way.
  loanwordlaw12.FlowWays: whatever the program, the function, the points, the list: the law returns true.
  loanwordlaw12.FlowAbove: whatever the program, the function, the point: the law returns true.
  Arrays of two numbers, compared.
  loanwordlaw12.FlowWhole: whatever the program, the function: the law returns true.
  loanwordlaw12.FlowReach: whatever the program, the function, the point: the law returns true.
  loanwordlaw12.FlowOrder: whatever the program, the function: the law returns true.
  Contracts of live: ends, Ends, Uses.
  Contract of live: Uses.
  Families of one's own: as many cells, or rows, as a list tells.
  Contract of live: rows: one more is marked.
  Contract of live: rows.
  Contracts of live: At.
  Contracts: bits.New; live: Of.
  A condition of the kind 'is and (first, or shorter, or as long and ahead)'.
  Contracts: slices.Compare of numbers; live: Why.
  Contract of live: Why.
-/
import Derived.Test.YtekpddhibldojaaGreatDoorQJd
import Derived.Test.YtekpddhibldojaaGreatDoorQJb
import Derived.Test.YtekpddhibldojaaGreatDoorQJc
import Derived.ChangeKeysEq
section
namespace Go.Proofs.Tryz
open Go.Sh
set_option maxRecDepth 100000
def VM (t0 t1 : Value) (w : World) (K : VW) : Prop:=
 pw w (Instr.box 25 t0) fun t2 w1=>
 bt .lss 3 t1 (i6 0) fun t11=>za (fun K2=>gIf t11 false (fl w1 t2 25 1 23 fun t15=>pp (Builtin.len_ #[23] 3 #[t15]) fun t16=>bf .geq 3 t1 t16 fun t17=>K2 [t17] w1) (K2 [undef] w1)) (fun s3 _d4 w5=>
 zb t11 tr_ (s3.getD 0 undef) fun t18=>za (fun K6=>gIf t18 false (lo w5 25 t2 fun t20=>ca jo #[t20] w5 fun t21 w10=>
 pp (Op.unary .not t21) fun t22=>K6 [t22] w10) (K6 [undef] w5)) (fun s7 _d8 w9=>
 zb t18 tr_ (s7.getD 0 undef) fun t23=>zc t23 (K (.tuple #[(Value.pointer Option.none),(i6 2)]) w9) (fl w9 t2 25 1 23 fun t25=>xl w9 23 t25 t1 48 fun t28=>pp (Instr.build 68 #[(0,t28)]) fun t29=>pw w9 (Instr.box 68 t29) fun t30 w11=>
 fa t30 68 0 fun t33=>fl w11 t33 48 6 46 fun t35=>pp (Builtin.len_ #[46] 3 #[t35]) fun t36=>zr [(i6 0)] w11 (fun s13 _d14 w15 K12=>
 bf .lss 3 (s13.getD 0 undef) t36 fun t38=>zc t38 (xl w15 46 t35 (s13.getD 0 undef) 92 fun t40=>pw w15 (Instr.alloc 92 true (.tuple #[])) fun t8 w16=>
 so w16 92 t8 t40 fun w17=>za (fun K18=>
 fl w17 t8 92 0 86 fun t42=>bt .neq 86 t42 (Value.int .u8 14) fun t43=>zc t43 (fl w17 t8 92 10 3 fun t46=>pw w17 (Instr.buildSlice 50 1 #[(0,t46)]) fun t47 w22=>
 pw w22 (Builtin.append_ #[50,50] 50 #[(Value.slice Option.none 0 0),t47]) fun t48 w23=>
 K18 [t48] w23) (K18 [(Value.slice Option.none 0 0)] w17)) (fun s19 _d20 w21=>
 za (fun K24=>
 fl w21 t8 92 0 86 fun t50=>bt .eql 86 t50 (Value.int .u8 12) fun t51=>zc t51 (fl w21 t8 92 11 3 fun t54=>pw w21 (Instr.buildSlice 50 1 #[(0,t54)]) fun t55 w28=>
 pw w28 (Builtin.append_ #[50,50] 50 #[(s19.getD 0 undef),t55]) fun t56 w29=>
 K24 [t56] w29) (K24 [(s19.getD 0 undef)] w21)) (fun s25 _d26 w27=>
 ff w27 t30 68 1 66 fun t61=>pw w27 (Instr.buildSlice 66 1 #[(0,(s25.getD 0 undef))]) fun t63 w30=>
 pw w30 (Builtin.append_ #[66,66] 66 #[t61,t63]) fun t64 w31=>
 fa t30 68 1 fun t66=>so w31 66 t66 t64 fun w32=>bt .add 3 (s13.getD 0 undef) (i6 1) fun t67=>K12 [t67] w32))) (K (.tuple #[t30,(i6 0)]) w15)))))
theorem ads {t0 t1 : Value} {w : World} {K : VW} (h : VM t0 t1 w K) : zd prog xG #[t0,t1] w K:=
 okC false (.s (.r (rz 3 0 2)) (.s (.s (.r (ra 3 0 0 (.grp 12 false (ri 5 3 16) [17] (ra 2 8 0 (.grp 19 false (ri 3 10 9) [22] (rz 1 13 0)))))) (.c (.s (.r (rz 2 0 0)) (.n)) (.n))) (.s (.r (rz 8 0 8452)) (.s (.s (.r (rz 7 0 256)) (.b (.lp [37] (.s (.r (rz 1 0 0)) (.s (.c (.n) (.n)) (.s (.b (.s (.r (rz 4 0 164)) (.s (.r (rz 1 0 0)) (.j [9] (.s (.r (rz 3 0 4)) (.c (.r (rz 6 0 656)) (.n))) (.j [9] (.s (.r (rz 3 0 4)) (.c (.r (rz 6 0 656)) (.n))) (.r (rz 11 0 2138368))))))) (.r (rz 2 0 0)))))))) (.s (.r (rz 3 0 0)) (.n)))))) func14 rfl (by kernel_rfl) (by kernel_rfl) h
def j0 (t0 t1 : Value) (w : World) (K : VW) : Prop:=
 bt .geq 3 t1 (i6 0) fun t6=>za (fun K1=>gIf t6 true (fa t0 68 0 fun t11=>fl w t11 48 6 46 fun t13=>pp (Builtin.len_ #[46] 3 #[t13]) fun t14=>bf .lss 3 t1 t14 fun t15=>K1 [t15] w) (K1 [undef] w)) (fun s2 _d3 w4=>
 zb t6 (s2.getD 0 undef) fa_ fun t16=>K t16 w4)
theorem Xn {t0 t1 : Value} {w : World} {K : VW} (h : j0 t0 t1 w K) : zd prog yo #[t0,t1] w K:=
 okC false (.s (.r (rz 1 0 0)) (.s (.r (ra 3 0 0 (.grp 7 true (ri 8 3 1024) [15] (rz 2 11 0)))) (.n))) func28 rfl (by kernel_rfl) (by kernel_rfl) h
def Z3 (t0 : Value) (w : World) (K : VW) : Prop:=
 pw w (Instr.box 92 t0) fun t1 w1=>
 fl w1 t1 92 0 86 fun t4=>bt .geq 86 t4 (Value.int .u8 1) fun t5=>za (fun K2=>gIf t5 true (fl w1 t1 92 0 86 fun t8=>bt .leq 86 t8 (Value.int .u8 8) fun t9=>K2 [t9] w1) (K2 [undef] w1)) (fun s3 _d4 w5=>
 zb t5 (s3.getD 0 undef) fa_ fun t10=>K t10 w5)
theorem Jy {t0 : Value} {w : World} {K : VW} (h : Z3 t0 w K) : zd prog kI #[t0] w K:=
 okC false (.s (.r (rz 2 0 2)) (.s (.r (ra 4 0 4 (.grp 6 true (ri 3 4 4) [9] (rz 2 7 0)))) (.n))) func40 rfl (by kernel_rfl) (by kernel_rfl) h
def vS (t0 t1 t2 : Value) (w : World) (K : VW) : Prop:=
 fa t0 68 0 fun t11=>fl w t11 48 6 46 fun t13=>xl w 46 t13 t1 92 fun t16=>pw w (Instr.alloc 92 true (.tuple #[])) fun t6 w1=>
 so w1 92 t6 t16 fun w2=>fl w2 t6 92 2 89 fun t18=>fl w2 t6 92 3 89 fun t20=>pw w2 (Instr.buildSlice 90 2 #[(0,t18),(1,t20)]) fun t21 w3=>
 fl w3 t6 92 4 90 fun t23=>pw w3 (Builtin.append_ #[90,90] 90 #[t21,t23]) fun t24 w4=>
 pp (Builtin.len_ #[90] 3 #[t24]) fun t25=>zr [(i6 0)] w4 (fun s6 _d7 w8 K5=>
 bf .lss 3 (s6.getD 0 undef) t25 fun t27=>zc t27 (xl w8 90 t24 (s6.getD 0 undef) 89 fun t29=>pw w8 (Instr.alloc 89 true (.tuple #[])) fun t8 w9=>
 so w9 89 t8 t29 fun w10=>fl w10 t8 89 0 87 fun t31=>bt .eql 87 t31 (Value.int .u8 3) fun t32=>za (fun K11=>gIf t32 false (fl w10 t8 89 0 87 fun t35=>bt .eql 87 t35 (Value.int .u8 4) fun t36=>K11 [t36] w10) (K11 [undef] w10)) (fun s12 _d13 w14=>
 zb t32 tr_ (s12.getD 0 undef) fun t37=>za (fun K15=>gIf t37 true (pf 89 t8 2 fun t40=>fl w14 t40 80 0 3 fun t42=>cv t2 #[t42] w14 fun t43 w19=>
 pp (Op.unary .not t43) fun t44=>K15 [t44] w19) (K15 [undef] w14)) (fun s16 _d17 w18=>
 zb t37 (s16.getD 0 undef) fa_ fun t45=>zc t45 (K (.tuple #[]) w18) (bt .add 3 (s6.getD 0 undef) (i6 1) fun t46=>K5 [t46] w18)))) (fl w8 t6 92 0 86 fun t48=>bt .eql 86 t48 (Value.int .u8 4) fun t49=>za (fun K20=>gIf t49 true (pf 92 t6 6 fun t52=>fl w8 t52 80 0 3 fun t54=>cv t2 #[t54] w8 fun t55 w24=>
 pp (Op.unary .not t55) fun t56=>K20 [t56] w24) (K20 [undef] w8)) (fun s21 _d22 w23=>
 zb t49 (s21.getD 0 undef) fa_ fun t57=>zc t57 (K (.tuple #[]) w23) (fl w23 t6 92 0 86 fun t59=>bt .eql 86 t59 (Value.int .u8 14) fun t60=>za (fun K25=>gIf t60 false (lo w23 92 t6 fun t62=>ca kI #[t62] w23 fun t63 w29=>
 K25 [t63] w29) (K25 [undef] w23)) (fun s26 _d27 w28=>
 za (fun K30=>gIf (s26.getD 0 undef) true (pf 92 t6 1 fun t65=>fl w28 t65 80 1 78 fun t67=>ca z8 #[t67,(i6 (-1))] w28 fun t68 w34=>
 K30 [t68] w34) (K30 [undef] w28)) (fun s31 _d32 w33=>
 za (fun K35=>gIf t60 false (zb (s26.getD 0 undef) (s31.getD 0 undef) fa_ fun t69=>K35 [t69] w33) (K35 [undef] w33)) (fun s36 _d37 w38=>
 zb t60 tr_ (s36.getD 0 undef) fun t70=>zc t70 (pf 92 t6 1 fun t72=>fl w38 t72 80 0 3 fun t74=>cv t2 #[t74] w38 fun _t75 w39=>
 K (.tuple #[]) w39) (K (.tuple #[]) w38))))))))
theorem XT {t0 t1 t2 : Value} {w : World} {K : VW} (h : vS t0 t1 t2 w K) : zd prog yX #[t0,t1,t2] w K:=
 okC false (.s (.r (rz 10 0 672000)) (.s (.s (.r (rz 10 0 37444)) (.b (.lp [26] (.s (.r (rz 1 0 0)) (.s (.c (.n) (.n)) (.s (.b (.s (.r (rz 4 0 164)) (.s (.r (ra 4 0 4 (.grp 33 false (ri 3 4 4) [36] (ra 2 7 0 (.grp 38 true (ri 6 9 576) [44] (rz 1 15 0)))))) (.c (.n) (.n))))) (.r (rz 2 0 0)))))))) (.s (.s (.r (ra 4 0 4 (.grp 50 true (ri 6 4 576) [56] (rz 1 10 0)))) (.c (.n) (.n))) (.s (.r (ra 4 0 4 (.grp 61 false (ri 3 4 9) [64] (.grp 64 true (ri 4 7 144) [68] (.grp 61 false (ri 1 11 0) [69] (rz 1 12 0)))))) (.c (.r (rz 5 0 576)) (.n)))))) func29 rfl (by kernel_rfl) (by kernel_rfl) h
def vT (t0 t1 t2 : Value) (w : World) (K : VW) : Prop:=
 pw w (Instr.box 57 t0) fun t3 w1=>
 NC w w1∧
 pw w1 (Instr.box 3 t1) fun t4 w2=>
 NC w1 w2∧
 pw w2 (Instr.box 3 t2) fun t5 w3=>
 NC w2 w3∧
 pw w3 (Instr.alloc 4 true (.tuple #[])) fun t6 w4=>
 NC w3 w4∧
 pp (Instr.makeFunc (.func 42) #[] #[t3,t4]) fun t8=>jw prog 1 t8 w4 (fun x5 w6 S7 KR8=>
 (Ext w6 w6∧∀ w9,Nl w4.heap.size w6 w9→
 lo w9 3 t5 fun t11=>bf .eql 3 (x5.getD 0 undef) t11 fun t12=>zc t12 (so w9 4 t6 tr_ fun w10=>NC w9 w10∧
 (ExtBut S7 w9 w10∧KR8 .ret w10)) ((ExtBut S7 w9 w9∧KR8 .normal w9)))) (fun w11=>
 so w11 4 t6 fa_ fun w12=>NC w11 w12∧
 ∀ w13,Shuts w.heap.size w12 w13→pq w13 (zf 4 t6) fun r14=>K r14 w13) (fun w15=>
 ∀ w16,Shuts w.heap.size w15 w16→pq w16 (zf 4 t6) fun r17=>K r17 w16) []
theorem XU {t0 t1 t2 : Value} {w : World} {K : VW} (h : vT t0 t1 t2 w K) : zd prog yY #[t0,t1,t2] w K:=
 okC true (.s (.r (rz 4 0 170)) (.s (.s (.r (rz 1 0 0)) (.b (.rf [] (.r (rz 1 0 0)) (.b (.s (.r (rz 3 0 4)) (.c (.s (.r (rz 1 0 2)) (.n)) (.n))))))) (.s (.r (rz 1 0 2)) (.n)))) func23 rfl (by kernel_rfl) (by kernel_rfl) h
def ky (t0 t1 t2 : Value) (w : World) (K : VW) : Prop:=
 lo w 57 t1 fun t4=>lo w 3 t2 fun t5=>ca yX #[t4,t5,t0] w fun _t7 w1=>
 K (.tuple #[]) w1
theorem YL {t0 t1 t2 : Value} {w : World} {K : VW} (h : ky t0 t1 t2 w K) : zd prog Xj #[t0,t1,t2] w K:=
 okC false (.r (rz 4 0 133)) func42 rfl (by kernel_rfl) (by kernel_rfl) h
def vU (t0 t1 : Value) (w : World) (K : VW) : Prop:=
 fa t0 68 0 fun t10=>fl w t10 48 6 46 fun t12=>xl w 46 t12 t1 92 fun t15=>pw w (Instr.alloc 92 true (.tuple #[])) fun t6 w1=>
 so w1 92 t6 t15 fun w2=>za (fun K3=>
 fl w2 t6 92 0 86 fun t18=>bt .eql 86 t18 (Value.int .u8 11) fun t19=>zc t19 (pf 92 t6 6 fun t20=>fl w2 t20 80 0 3 fun t22=>K3 [t22] w2) (lo w2 92 t6 fun t24=>ca kI #[t24] w2 fun t25 w7=>
 za (fun K8=>gIf t25 true (pf 92 t6 1 fun t27=>fl w7 t27 80 1 78 fun t29=>pp (Builtin.len_ #[78] 3 #[t29]) fun t30=>bt .eql 3 t30 (i6 0) fun t31=>K8 [t31] w7) (K8 [undef] w7)) (fun s9 _d10 w11=>
 zb t25 (s9.getD 0 undef) fa_ fun t32=>zc t32 (pf 92 t6 1 fun t33=>fl w11 t33 80 0 3 fun t35=>K3 [t35] w11) (K (.tuple #[(i6 0),fa_]) w11)))) (fun s4 _d5 w6=>
 ca yY #[t0,t1,(s4.getD 0 undef)] w6 fun t39 w12=>
 zc t39 (K (.tuple #[(i6 0),fa_]) w12) (K (.tuple #[(s4.getD 0 undef),tr_]) w12))
theorem XV {t0 t1 : Value} {w : World} {K : VW} (h : vU t0 t1 w K) : zd prog yZ #[t0,t1] w K:=
 okC false (.s (.r (rz 2 0 0)) (.s (.r (rz 10 0 672000)) (.s (.r (rz 1 0 0)) (.j [7] (.b (.s (.r (rz 4 0 4)) (.c (.r (rz 4 0 16)) (.s (.r (ra 3 0 9 (.grp 26 true (ri 5 3 16) [31] (rz 2 8 0)))) (.c (.r (rz 4 0 16)) (.s (.r (rz 2 0 0)) (.n))))))) (.s (.s (.r (rz 4 0 128)) (.c (.s (.r (rz 2 0 0)) (.n)) (.n))) (.s (.r (rz 3 0 0)) (.n))))))) func21 rfl (by kernel_rfl) (by kernel_rfl) h
def vV (t0 : Value) (w : World) (K : VW) : Prop:=
 pw w (Instr.box 57 t0) fun t1 w1=>
 NC w w1∧
 lo w1 57 t1 fun t21=>fa t21 68 0 fun t23=>fl w1 t23 48 6 46 fun t25=>pp (Builtin.len_ #[46] 3 #[t25]) fun t26=>lo w1 57 t1 fun t27=>fa t27 68 0 fun t29=>fl w1 t29 48 4 44 fun t31=>pp (Builtin.len_ #[44] 3 #[t31]) fun t32=>pw w1 (Instr.makeSlice 60 t32 t32) fun t33 w2=>
 NC w1 w2∧
 pw w2 (Instr.alloc 60 true (.tuple #[])) fun t4 w3=>
 NC w2 w3∧
 so w3 60 t4 t33 fun w4=>NC w3 w4∧
 lo w4 60 t4 fun t34=>pp (Builtin.len_ #[60] 3 #[t34]) fun t35=>zr [(i6 0)] w4 (fun s6 _d7 w8 K5=>
 bf .lss 3 (s6.getD 0 undef) t35 fun t37=>zc t37 (lo w8.drew 60 t4 fun t39=>pw w8.drew (Instr.makeSlice 62 t26 t26) fun t42 w9=>
 NC w8.drew w9∧
 Ext w8.drew w9∧
 px 60 t39 (s6.getD 0 undef) fun t43=>so w9 62 t43 t42 fun w10=>NC w9 w10∧
 bt .add 3 (s6.getD 0 undef) (i6 1) fun t44=>K5 [t44] w10) (pw w8 (Instr.makeSlice 66 t26 t26) fun t46 w11=>
 NC w8 w11∧
 lo w11 57 t1 fun t47=>ff w11 t47 68 1 66 fun t50=>pp (Builtin.len_ #[66] 3 #[t50]) fun t51=>zr [(i6 0)] w11 (fun s13 _d14 w15 K12=>
 bf .lss 3 (s13.getD 0 undef) t51 fun t53=>zc t53 (xl w15 66 t50 (s13.getD 0 undef) 50 fun t56=>pp (Builtin.len_ #[50] 3 #[t56]) fun t58=>zr [(i6 0)] w15 (fun s17 _d18 w19 K16=>
 bf .lss 3 (s17.getD 0 undef) t58 fun t60=>zc t60 (xl w19 50 t56 (s17.getD 0 undef) 3 fun t62=>xl w19 66 t46 t62 50 fun t68=>pw w19 (Instr.buildSlice 50 1 #[(0,(s13.getD 0 undef))]) fun t70 w20=>
 NC w19 w20∧
 pw w20 (Builtin.append_ #[50,50] 50 #[t68,t70]) fun t71 w21=>
 NC w20 w21∧
 px 66 t46 t62 fun t72=>so w21 50 t72 t71 fun w22=>NC w21 w22∧
 bt .add 3 (s17.getD 0 undef) (i6 1) fun t73=>K16 [t73] w22) (bt .add 3 (s13.getD 0 undef) (i6 1) fun t74=>K12 [t74] w19))) (pw w15 (Instr.alloc 99 true (.tuple #[])) fun t11 w23=>
 NC w15 w23∧
 pp (Instr.makeFunc (.func 37) #[] #[t4,t11]) fun t75=>pw w23 (Instr.alloc 102 true (.tuple #[])) fun t12 w24=>
 NC w23 w24∧
 so w24 102 t12 t75 fun w25=>NC w24 w25∧
 zr [(i6 0)] w25 (fun s27 _d28 w29 K26=>
 bf .lss 3 (s27.getD 0 undef) t26 fun t78=>zc t78 (pw w29 (Instr.alloc 3 true (.tuple #[])) fun t13 w30=>
 NC w29 w30∧
 so w30 3 t13 (s27.getD 0 undef) fun w31=>NC w30 w31∧
 pp (Instr.makeFunc (.func 38) #[] #[t1,t13]) fun t80=>jw prog 1 t80 w31 (fun x32 w33 S34 KR35=>
 (Ext w33 w33∧∀ w36,Nl w31.heap.size w33 w36→
 lo w36 102 t12 fun t82=>lo w36 3 t13 fun t83=>cv t82 #[t83,(x32.getD 0 undef)] w36 fun _t85 w37=>
 NC w36 w37∧
 (ExtBut S34 w36 w37∧KR35 .normal w37))) (fun w38=>
 bt .add 3 (s27.getD 0 undef) (i6 1) fun t86=>K26 [t86] w38) (fun w39=>
 ∀ w40,Shuts w.heap.size w39 w40→K (Value.slice Option.none 0 0) w40) []) (lo w29 57 t1 fun t87=>pp (Instr.makeFunc (.func 21) #[t87] #[]) fun t88=>zr [] w29 (fun _s42 _d43 w44 K41=>
 lo w44 99 t11 fun t89=>pp (Builtin.len_ #[99] 3 #[t89]) fun t90=>bt .gtr 3 t90 (i6 0) fun t91=>zc t91 (lo w44 99 t11 fun t92=>lo w44 99 t11 fun t93=>pp (Builtin.len_ #[99] 3 #[t93]) fun t94=>bt .sub 3 t94 (i6 1) fun t95=>xl w44 99 t92 t95 101 fun t97=>pw w44 (Instr.alloc 101 true (.tuple #[])) fun t16 w45=>
 NC w44 w45∧
 so w45 101 t16 t97 fun w46=>NC w45 w46∧
 lo w46 99 t11 fun t98=>lo w46 99 t11 fun t99=>pp (Builtin.len_ #[99] 3 #[t99]) fun t100=>bt .sub 3 t100 (i6 1) fun t101=>pp (Instr.sliceAt 99 t98 none (some t101) none) fun t102=>so w46 99 t11 t102 fun w47=>NC w46 w47∧
 fl w47 t16 101 0 3 fun t105=>xl w47 66 t46 t105 50 fun t107=>pp (Builtin.len_ #[50] 3 #[t107]) fun t108=>zr [(i6 0)] w47 (fun s49 _d50 w51 K48=>
 bf .lss 3 (s49.getD 0 undef) t108 fun t110=>zc t110 (za (fun K52=>
 xl w51 50 t107 (s49.getD 0 undef) 3 fun t112=>cv t88 #[t112] w51 fun t116 w56=>
 NC w51 w56∧
 pe t116 0 fun t117=>pe t116 1 fun t118=>za (fun K57=>gIf t118 true (fl w56 t16 101 1 3 fun t123=>bf .eql 3 t117 t123 fun t124=>K57 [t124] w56) (K57 [undef] w56)) (fun s58 _d59 w60=>
 zb t118 (s58.getD 0 undef) fa_ fun t125=>zc t125 (K52 [] w60) (lo w60 102 t12 fun t126=>fl w60 t16 101 1 3 fun t129=>cv t126 #[t112,t129] w60 fun _t130 w61=>
 NC w60 w61∧
 K52 [] w61))) (fun _s53 _d54 w55=>
 bt .add 3 (s49.getD 0 undef) (i6 1) fun t131=>K48 [t131] w55)) (K41 [] w51))) (lo w44 60 t4 fun t132=>∀ w62,Shuts w.heap.size w44 w62→K t132 w62))))))))
theorem XW {t0 : Value} {w : World} {K : VW} (h : vV t0 w K) : zd prog xN #[t0] w K:=
 okC true (.s (.r (rz 2 0 2)) (.b (.s (.r (rz 7 0 257)) (.s (.r (rz 9 0 172289)) (.s (.s (.r (rz 3 0 1)) (.b (.lp [36] (.s (.r (rz 1 0 0)) (.s (.c (.n) (.n)) (.s (.b (.s (.r (rz 2 0 0)) (.r (rz 6 0 2241)))) (.r (rz 2 0 0)))))))) (.s (.r (rz 3 0 8)) (.s (.s (.r (rz 6 0 65)) (.b (.lp [52] (.s (.r (rz 1 0 0)) (.s (.c (.n) (.n)) (.s (.b (.s (.r (rz 5 0 16)) (.s (.r (rz 3 0 0)) (.b (.lp [59] (.s (.r (rz 1 0 0)) (.s (.c (.n) (.n)) (.s (.b (.s (.r (rz 3 0 4)) (.r (rz 11 0 2262016)))) (.r (rz 2 0 0)))))))))) (.r (rz 2 0 0)))))))) (.s (.r (rz 1 0 2)) (.s (.r (rz 3 0 40)) (.s (.s (.r (rz 2 0 0)) (.b (.lp [77] (.s (.r (rz 1 0 0)) (.s (.c (.n) (.n)) (.s (.b (.s (.r (rz 3 0 40)) (.s (.r (rz 1 0 0)) (.b (.rf [] (.r (rz 1 0 0)) (.b (.r (rz 4 0 133)))))))) (.r (rz 2 0 0)))))))) (.s (.r (rz 3 0 1)) (.s (.n) (.s (.b (.lp [] (.s (.s (.r (rz 3 0 1)) (.c (.n) (.n))) (.b (.s (.r (rz 8 0 41989)) (.s (.r (rz 6 0 2053)) (.s (.s (.r (rz 7 0 272)) (.b (.lp [109] (.s (.r (rz 1 0 0)) (.s (.c (.n) (.n)) (.j [] (.b (.s (.r (rz 3 0 4)) (.s (.s (.r (rz 8 0 32)) (.s (.r (ra 2 0 0 (.grp 120 true (ri 4 2 16) [124] (rz 1 6 0)))) (.c (.n) (.n)))) (.r (rz 5 0 577))))) (.r (rz 2 0 0)))))))) (.n)))))))) (.s (.r (rz 2 0 1)) (.n))))))))))))))) func15 rfl (by kernel_rfl) (by kernel_rfl) h
def jE (t0 t1 t2 t3 : Value) (w : World) (K : VW) : Prop:=
 lo w 60 t2 fun t6=>xl w 60 t6 t1 62 fun t9=>xl w 62 t9 t0 4 fun t12=>pp (Op.unary .not t12) fun t13=>zc t13 (lo w 60 t2 fun t14=>xl w 60 t14 t1 62 fun t17=>px 62 t17 t0 fun t19=>so w 4 t19 tr_ fun w1=>lo w1 99 t3 fun t20=>pp (Instr.build 101 #[(0,t0),(1,t1)]) fun t23=>pw w1 (Instr.buildSlice 99 1 #[(0,t23)]) fun t24 w2=>
 pw w2 (Builtin.append_ #[99,99] 99 #[t20,t24]) fun t25 w3=>
 so w3 99 t3 t25 fun w4=>K (.tuple #[]) w4) (K (.tuple #[]) w)
theorem YM {t0 t1 t2 t3 : Value} {w : World} {K : VW} (h : jE t0 t1 t2 t3 w K) : zd prog zx #[t0,t1,t2,t3] w K:=
 okC false (.s (.r (rz 8 0 4161)) (.c (.s (.r (rz 7 0 8257)) (.r (rz 7 0 10753))) (.n))) func37 rfl (by kernel_rfl) (by kernel_rfl) h
def Xo (t0 t1 t2 : Value) (w : World) (K : VW) : Prop:=
 lo w 57 t1 fun t4=>lo w 3 t2 fun t5=>ca yX #[t4,t5,t0] w fun _t7 w1=>
 K (.tuple #[]) w1
theorem YN {t0 t1 t2 : Value} {w : World} {K : VW} (h : Xo t0 t1 t2 w K) : zd prog Xk #[t0,t1,t2] w K:=
 okC false (.r (rz 4 0 133)) func38 rfl (by kernel_rfl) (by kernel_rfl) h
def VN (t0 t1 : Value) (w : World) (K : VW) : Prop:=
 pw w (Instr.box 25 t0) fun t2 w1=>
 lo w1 25 t2 fun t16=>ca xG #[t16,t1] w1 fun t18 w2=>
 pe t18 0 fun t19=>pe t18 1 fun t20=>bt .neq 32 t20 (i6 0) fun t22=>zc t22 (K (.tuple #[(Value.slice Option.none 0 0),t20]) w2) (ca xN #[t19] w2 fun t25 w3=>
 pp (Builtin.len_ #[60] 3 #[t25]) fun t26=>zr [(Value.slice Option.none 0 0),(i6 0)] w3 (fun s5 _d6 w7 K4=>
 bf .lss 3 (s5.getD 1 undef) t26 fun t28=>zc t28 (xl w7 60 t25 (s5.getD 1 undef) 62 fun t30=>pp (Builtin.len_ #[62] 3 #[t30]) fun t33=>ca Yn #[t33] w7 fun t34 w8=>
 pe t34 0 fun t35=>pe t34 1 fun _t36=>pw w8 (Instr.alloc 31 true (.tuple #[])) fun t11 w9=>
 so w9 31 t11 t35 fun w10=>pp (Builtin.len_ #[62] 3 #[t30]) fun t38=>zr [(i6 0)] w10 (fun s12 _d13 w14 K11=>
 bf .lss 3 (s12.getD 0 undef) t38 fun t40=>zc t40 (za (fun K15=>
 xl w14 62 t30 (s12.getD 0 undef) 4 fun t43=>zc t43 (fl w14.drew t11 31 1 29 fun t46=>bt .quo 3 (s12.getD 0 undef) (i6 64) fun t48=>xl w14.drew 29 t46 t48 65 fun t50=>bt .rem 3 (s12.getD 0 undef) (i6 64) fun t52=>bt .shl 65 (Value.int .u64 1) t52 fun t53=>bf .or 65 t50 t53 fun t54=>px 29 t46 t48 fun t55=>so w14.drew 65 t55 t54 fun w19=>K15 [] w19) (K15 [] w14)) (fun _s16 _d17 w18=>
 bt .add 3 (s12.getD 0 undef) (i6 1) fun t56=>K11 [t56] w18)) (lo w14 31 t11 fun t58=>pw w14 (Instr.buildSlice 26 1 #[(0,t58)]) fun t59 w20=>
 pw w20 (Builtin.append_ #[26,26] 26 #[(s5.getD 0 undef),t59]) fun t60 w21=>
 bt .add 3 (s5.getD 1 undef) (i6 1) fun t61=>K4 [t60,t61] w21))) (K (.tuple #[(s5.getD 0 undef),(i6 0)]) w7)))
theorem adt {t0 t1 : Value} {w : World} {K : VW} (h : VN t0 t1 w K) : zd prog jD #[t0,t1] w K:=
 okC false (.s (.r (rz 3 0 2)) (.s (.r (rz 8 0 33)) (.s (.s (.r (rz 2 0 0)) (.c (.s (.r (rz 3 0 0)) (.n)) (.n))) (.s (.r (rz 1 0 0)) (.s (.s (.r (rz 4 0 8)) (.b (.lp [8,27] (.s (.r (rz 1 0 0)) (.s (.c (.n) (.n)) (.s (.b (.s (.r (rz 3 0 4)) (.s (.r (rz 9 0 40992)) (.s (.s (.r (rz 3 0 0)) (.b (.lp [39] (.s (.r (rz 1 0 0)) (.s (.c (.n) (.n)) (.j [] (.b (.s (.r (rz 5 0 16)) (.s (.r (rz 1 0 0)) (.c (.r (rz 12 0 8389636)) (.n))))) (.r (rz 2 0 0)))))))) (.r (rz 5 0 164)))))) (.r (rz 2 0 0)))))))) (.s (.r (rz 3 0 0)) (.n))))))) func6 rfl (by kernel_rfl) (by kernel_rfl) h
def Qe (t0 t1 t2 : Value) (w : World) (K : VW) : Prop:=
 pw w (Instr.box 25 t0) fun t3 w1=>
 lo w1 25 t3 fun t12=>ca xG #[t12,t1] w1 fun t14 w2=>
 pe t14 0 fun t15=>pe t14 1 fun t16=>bt .neq 32 t16 (i6 0) fun t18=>za (fun K3=>gIf t18 false (ca yo #[t15,t2] w2 fun t22 w7=>
 pp (Op.unary .not t22) fun t23=>K3 [t23] w7) (K3 [undef] w2)) (fun s4 _d5 w6=>
 zb t18 tr_ (s4.getD 0 undef) fun t24=>zc t24 (K (.tuple #[(Value.slice Option.none 0 0),(i6 2)]) w6) (pw w6 (Instr.alloc 50 true (.tuple #[])) fun t10 w8=>
 pp (Instr.makeFunc (.func 30) #[] #[t10]) fun t27=>ca yX #[t15,t2,t27] w8 fun _t28 w9=>
 lo w9 50 t10 fun t29=>ca xq #[t29] w9 fun _t30 w10=>
 lo w10 50 t10 fun t31=>ca kq #[t31] w10 fun t32 w11=>
 K (.tuple #[t32,(i6 0)]) w11))
theorem abq {t0 t1 t2 : Value} {w : World} {K : VW} (h : Qe t0 t1 t2 w K) : zd prog ZE #[t0,t1,t2] w K:=
 okC false (.s (.r (rz 3 0 2)) (.s (.r (rz 8 0 33)) (.s (.s (.r (ra 3 0 0 (.grp 19 false (ri 4 3 32) [23] (rz 1 7 0)))) (.c (.s (.r (rz 2 0 0)) (.n)) (.n))) (.s (.r (rz 1 0 2)) (.s (.r (rz 4 0 128)) (.s (.r (rz 2 0 9)) (.s (.r (rz 4 0 9)) (.n)))))))) func11 rfl (by kernel_rfl) (by kernel_rfl) h
def YE (t0 t1 : Value) (w : World) (K : VW) : Prop:=
 lo w 50 t1 fun t4=>pw w (Instr.buildSlice 50 1 #[(0,t0)]) fun t6 w1=>
 pw w1 (Builtin.append_ #[50,50] 50 #[t4,t6]) fun t7 w2=>
 so w2 50 t1 t7 fun w3=>K tr_ w3
theorem Vg {t0 t1 : Value} {w : World} {K : VW} (h : YE t0 t1 w K) : zd prog aab #[t0,t1] w K:=
 okC false (.s (.r (rz 1 0 0)) (.s (.r (rz 5 0 673)) (.s (.r (rz 1 0 0)) (.n)))) func30 rfl (by kernel_rfl) (by kernel_rfl) h
def Qf (t0 t1 t2 : Value) (w : World) (K : VW) : Prop:=
 pw w (Instr.box 25 t0) fun t3 w1=>
 lo w1 25 t3 fun t11=>ca xG #[t11,t1] w1 fun t13 w2=>
 pe t13 0 fun t14=>pe t13 1 fun t15=>bt .neq 32 t15 (i6 0) fun t17=>za (fun K3=>gIf t17 false (ca yo #[t14,t2] w2 fun t21 w7=>
 pp (Op.unary .not t21) fun t22=>K3 [t22] w7) (K3 [undef] w2)) (fun s4 _d5 w6=>
 zb t17 tr_ (s4.getD 0 undef) fun t23=>zc t23 (K (.tuple #[(i6 0),fa_,(i6 2)]) w6) (ca yZ #[t14,t2] w6 fun t27 w8=>
 pe t27 0 fun t28=>pe t27 1 fun t29=>K (.tuple #[t28,t29,t15]) w8))
theorem abr {t0 t1 t2 : Value} {w : World} {K : VW} (h : Qf t0 t1 t2 w K) : zd prog ZF #[t0,t1,t2] w K:=
 okC false (.s (.r (rz 4 0 2)) (.s (.r (rz 8 0 33)) (.s (.s (.r (ra 3 0 0 (.grp 18 false (ri 4 3 32) [22] (rz 1 7 0)))) (.c (.s (.r (rz 3 0 0)) (.n)) (.n))) (.s (.r (rz 8 0 32)) (.s (.r (rz 6 0 0)) (.n)))))) func12 rfl (by kernel_rfl) (by kernel_rfl) h
def VO (t0 t1 t2 : Value) (w : World) (K : VW) : Prop:=
 pw w (Instr.box 25 t0) fun t3 w1=>
 lo w1 25 t3 fun t14=>ca xG #[t14,t1] w1 fun t16 w2=>
 pe t16 0 fun t17=>pe t16 1 fun t18=>bt .neq 32 t18 (i6 0) fun t20=>za (fun K3=>gIf t20 false (ca yo #[t17,t2] w2 fun t24 w7=>
 pp (Op.unary .not t24) fun t25=>K3 [t25] w7) (K3 [undef] w2)) (fun s4 _d5 w6=>
 zb t20 tr_ (s4.getD 0 undef) fun t26=>zc t26 (K (.tuple #[(Value.slice Option.none 0 0),(i6 2)]) w6) (ca xN #[t17] w6 fun t28 w8=>
 pp (Builtin.len_ #[60] 3 #[t28]) fun t29=>zr [(Value.slice Option.none 0 0),(i6 0)] w8 (fun s10 _d11 w12 K9=>
 bf .lss 3 (s10.getD 1 undef) t29 fun t31=>zc t31 (za (fun K13=>
 xl w12 60 t28 (s10.getD 1 undef) 62 fun t34=>xl w12 62 t34 t2 4 fun t38=>zc t38 (pw w12 (Instr.buildSlice 50 1 #[(0,(s10.getD 1 undef))]) fun t41 w17=>
 pw w17 (Builtin.append_ #[50,50] 50 #[(s10.getD 0 undef),t41]) fun t42 w18=>
 K13 [t42] w18) (K13 [(s10.getD 0 undef)] w12)) (fun s14 _d15 w16=>
 bt .add 3 (s10.getD 1 undef) (i6 1) fun t43=>K9 [(s14.getD 0 undef),t43] w16)) (K (.tuple #[(s10.getD 0 undef),t18]) w12))))
theorem adu {t0 t1 t2 : Value} {w : World} {K : VW} (h : VO t0 t1 t2 w K) : zd prog Xl #[t0,t1,t2] w K:=
 okC false (.s (.r (rz 3 0 2)) (.s (.r (rz 8 0 33)) (.s (.s (.r (ra 3 0 0 (.grp 21 false (ri 4 3 32) [25] (rz 1 7 0)))) (.c (.s (.r (rz 2 0 0)) (.n)) (.n))) (.s (.r (rz 1 0 0)) (.s (.s (.r (rz 4 0 8)) (.b (.lp [10,30] (.s (.r (rz 1 0 0)) (.s (.c (.n) (.n)) (.j [10] (.b (.s (.r (rz 5 0 16)) (.s (.r (rz 4 0 64)) (.c (.r (rz 5 0 160)) (.n))))) (.r (rz 2 0 0)))))))) (.s (.r (rz 4 0 0)) (.n))))))) func10 rfl (by kernel_rfl) (by kernel_rfl) h
def Jz (t0 t1 t2 t3 : Value) (w : World) (K : VW) : Prop:=
 pw w (Instr.box 25 t0) fun t4 w1=>
 pw w1 (Instr.box 3 t2) fun t6 w2=>
 lo w2 25 t4 fun t22=>ca xG #[t22,t1] w2 fun t24 w3=>
 pe t24 0 fun t25=>pe t24 1 fun t26=>pw w3 (Instr.alloc 57 true (.tuple #[])) fun t11 w4=>
 so w4 57 t11 t25 fun w5=>bt .neq 32 t26 (i6 0) fun t28=>za (fun K6=>gIf t28 false (lo w5.drew 57 t11 fun t30=>ca yo #[t30,t3] w5.drew fun t32 w10=>
 pp (Op.unary .not t32) fun t33=>K6 [t33] w10) (K6 [undef] w5.drew)) (fun s7 _d8 w9=>
 zb t28 tr_ (s7.getD 0 undef) fun t34=>za (fun K11=>gIf t34 false (lo w9 3 t6 fun t36=>bt .lss 3 t36 (i6 0) fun t37=>K11 [t37] w9) (K11 [undef] w9)) (fun s12 _d13 w14=>
 zb t34 tr_ (s12.getD 0 undef) fun t38=>za (fun K15=>gIf t38 false (lo w14 3 t6 fun t40=>lo w14 57 t11 fun t41=>fa t41 68 0 fun t43=>fl w14 t43 48 4 44 fun t45=>pp (Builtin.len_ #[44] 3 #[t45]) fun t46=>bf .geq 3 t40 t46 fun t47=>K15 [t47] w14) (K15 [undef] w14)) (fun s16 _d17 w18=>
 zb t38 tr_ (s16.getD 0 undef) fun t48=>zc t48 (K (.tuple #[(Value.slice Option.none 0 0),fa_,(i6 2)]) w18) (pp (Instr.makeFunc (.func 33) #[] #[t11,t6]) fun t49=>lo w18 57 t11 fun t50=>fa t50 68 0 fun t52=>fl w18 t52 48 6 46 fun t54=>pp (Builtin.len_ #[46] 3 #[t54]) fun t55=>zr [(Value.slice Option.none 0 0),(Value.slice Option.none 0 0),(i6 0)] w18 (fun s20 _d21 w22 K19=>
 bf .lss 3 (s20.getD 2 undef) t55 fun t57=>zc t57 (za (fun K23=>
 za (fun K27=>
 cv t49 #[(s20.getD 2 undef)] w22 fun t61 w31=>
 zc t61 (pw w31 (Instr.buildSlice 50 1 #[(0,(s20.getD 2 undef))]) fun t64 w32=>
 pw w32 (Builtin.append_ #[50,50] 50 #[(s20.getD 0 undef),t64]) fun t65 w33=>
 K27 [t65] w33) (K27 [(s20.getD 0 undef)] w31)) (fun s28 _d29 w30=>
 lo w30 57 t11 fun t66=>lo w30 3 t6 fun t68=>ca yY #[t66,(s20.getD 2 undef),t68] w30 fun t69 w34=>
 zc t69 (pw w34 (Instr.buildSlice 50 1 #[(0,(s20.getD 2 undef))]) fun t72 w35=>
 pw w35 (Builtin.append_ #[50,50] 50 #[(s20.getD 1 undef),t72]) fun t73 w36=>
 K23 [(s28.getD 0 undef),t73] w36) (K23 [(s28.getD 0 undef),(s20.getD 1 undef)] w34))) (fun s24 _d25 w26=>
 bt .add 3 (s20.getD 2 undef) (i6 1) fun t74=>K19 [(s24.getD 0 undef),(s24.getD 1 undef),t74] w26)) (pp (Builtin.len_ #[50] 3 #[(s20.getD 1 undef)]) fun t76=>zr [(Value.slice Option.none 0 0),fa_,(i6 0)] w22 (fun s38 _d39 w40 K37=>
 bf .lss 3 (s38.getD 2 undef) t76 fun t78=>zc t78 (za (fun K41=>
 xl w40 50 (s20.getD 1 undef) (s38.getD 2 undef) 3 fun t80=>bf .neq 3 t80 t3 fun t83=>za (fun K45=>gIf t83 true (cv t49 #[t3] w40 fun t87 w49=>
 K45 [t87] w49) (K45 [undef] w40)) (fun s46 _d47 w48=>
 zb t83 (s46.getD 0 undef) fa_ fun t88=>zc t88 (K41 [(s38.getD 0 undef),(s38.getD 1 undef)] w48) (lo w48 25 t4 fun t90=>ca Z9 #[t90,t1,t3,t80,(s20.getD 0 undef)] w48 fun t95 w50=>
 pe t95 0 fun t96=>pe t95 1 fun t97=>pe t95 2 fun _t98=>za (fun K51=>gIf t97 true (pp (Op.unary .not (s38.getD 1 undef)) fun t102=>K51 [t102] w50) (K51 [undef] w50)) (fun s52 _d53 w54=>
 za (fun K55=>gIf (s52.getD 0 undef) false (pp (Builtin.len_ #[50] 3 #[t96]) fun t105=>pp (Builtin.len_ #[50] 3 #[(s38.getD 0 undef)]) fun t107=>bf .lss 3 t105 t107 fun t108=>K55 [t108] w54) (K55 [undef] w54)) (fun s56 _d57 w58=>
 za (fun K59=>gIf t97 true (zb (s52.getD 0 undef) tr_ (s56.getD 0 undef) fun t109=>K59 [t109] w58) (K59 [undef] w58)) (fun s60 _d61 w62=>
 za (fun K63=>gIf (s60.getD 0 undef) false (pp (Builtin.len_ #[50] 3 #[t96]) fun t112=>pp (Builtin.len_ #[50] 3 #[(s38.getD 0 undef)]) fun t114=>bf .eql 3 t112 t114 fun t115=>K63 [t115] w62) (K63 [undef] w62)) (fun s64 _d65 w66=>
 za (fun K67=>gIf (s64.getD 0 undef) true (ca y5 #[t96,(s38.getD 0 undef)] w66 fun t119 w71=>
 bt .lss 3 t119 (i6 0) fun t120=>K67 [t120] w71) (K67 [undef] w66)) (fun s68 _d69 w70=>
 za (fun K72=>gIf (s60.getD 0 undef) false (zb (s64.getD 0 undef) (s68.getD 0 undef) fa_ fun t121=>K72 [t121] w70) (K72 [undef] w70)) (fun s73 _d74 w75=>
 za (fun K76=>gIf t97 true (zb (s60.getD 0 undef) tr_ (s73.getD 0 undef) fun t122=>K76 [t122] w75) (K76 [undef] w75)) (fun s77 _d78 w79=>
 zb t97 (s77.getD 0 undef) fa_ fun t123=>zc t123 (K41 [t96,tr_] w79) (K41 [(s38.getD 0 undef),(s38.getD 1 undef)] w79))))))))))) (fun s42 _d43 w44=>
 bt .add 3 (s38.getD 2 undef) (i6 1) fun t125=>K37 [(s42.getD 0 undef),(s42.getD 1 undef),t125] w44)) (K (.tuple #[(s38.getD 0 undef),(s38.getD 1 undef),(i6 0)]) w40))))))))
theorem ab6 {t0 t1 t2 t3 : Value} {w : World} {K : VW} (h : Jz t0 t1 t2 t3 w K) : zd prog Ym #[t0,t1,t2,t3] w K:=
 okC false (.s (.r (rz 5 0 10)) (.s (.r (rz 9 0 40993)) (.s (.s (.r (ra 3 0 0 (.grp 29 false (ri 4 3 33) [33] (ra 2 7 0 (.grp 35 false (ri 2 9 1) [37] (ra 2 11 0 (.grp 39 false (ri 8 13 1029) [47] (rz 1 21 0)))))))) (.c (.s (.r (rz 3 0 0)) (.n)) (.n))) (.s (.r (rz 2 0 0)) (.s (.r (rz 2 0 0)) (.s (.s (.r (rz 7 0 257)) (.b (.lp [13,14,56] (.s (.r (rz 1 0 0)) (.s (.c (.n) (.n)) (.j [13,14] (.b (.s (.r (rz 2 0 0)) (.j [13] (.s (.r (rz 3 0 32)) (.c (.r (rz 5 0 160)) (.n))) (.s (.r (rz 4 0 145)) (.c (.r (rz 5 0 160)) (.n)))))) (.r (rz 2 0 0)))))))) (.s (.s (.r (rz 3 0 0)) (.b (.lp [8,9,77] (.s (.r (rz 1 0 0)) (.s (.c (.n) (.n)) (.j [8,9] (.b (.s (.r (rz 3 0 4)) (.s (.s (.r (ra 4 0 0 (.grp 84 true (ri 3 4 32) [87] (rz 1 7 0)))) (.c (.n) (.n))) (.s (.r (rz 13 0 2049)) (.s (.r (ra 2 0 0 (.grp 100 true (ri 3 2 0) [103] (.grp 103 false (ri 5 5 0) [108] (.grp 100 true (ri 2 10 0) [110] (.grp 110 false (ri 6 12 0) [116] (.grp 116 true (ri 4 18 32) [120] (.grp 110 false (ri 1 22 0) [121] (.grp 100 true (ri 1 23 0) [122] (rz 1 24 0)))))))))) (.c (.r (rz 3 0 0)) (.n))))))) (.r (rz 2 0 0)))))))) (.s (.r (rz 5 0 0)) (.n))))))))) func13 rfl (by kernel_rfl) (by kernel_rfl) h
def Xp (t0 t1 t2 : Value) (w : World) (K : VW) : Prop:=
 lo w 57 t1 fun t8=>ca yZ #[t8,t0] w fun t10 w1=>
 pe t10 0 fun t11=>pe t10 1 fun t12=>za (fun K2=>gIf t12 true (lo w1 3 t2 fun t16=>bf .eql 3 t11 t16 fun t17=>K2 [t17] w1) (K2 [undef] w1)) (fun s3 _d4 w5=>
 zb t12 (s3.getD 0 undef) fa_ fun t18=>K t18 w5)
theorem aac {t0 t1 t2 : Value} {w : World} {K : VW} (h : Xp t0 t1 t2 w K) : zd prog Xm #[t0,t1,t2] w K:=
 okC false (.s (.r (rz 1 0 0)) (.s (.r (rz 8 0 33)) (.s (.r (ra 2 0 0 (.grp 14 true (ri 3 2 4) [17] (rz 2 5 0)))) (.n)))) func33 rfl (by kernel_rfl) (by kernel_rfl) h
def YF (t0 t1 t2 : Value) (w : World) (K : VW) : Prop:=
 pw w (Instr.box 25 t0) fun t3 w1=>
 lo w1 25 t3 fun t19=>ca xG #[t19,t1] w1 fun t21 w2=>
 pe t21 0 fun t22=>pe t21 1 fun t23=>pw w2 (Instr.alloc 57 true (.tuple #[])) fun t10 w3=>
 so w3 57 t10 t22 fun w4=>bt .neq 32 t23 (i6 0) fun t25=>za (fun K5=>gIf t25 false (pp (Builtin.len_ #[26] 3 #[t2]) fun t28=>lo w4 57 t10 fun t29=>fa t29 68 0 fun t31=>fl w4 t31 48 4 44 fun t33=>pp (Builtin.len_ #[44] 3 #[t33]) fun t34=>bf .neq 3 t28 t34 fun t35=>K5 [t35] w4) (K5 [undef] w4)) (fun s6 _d7 w8=>
 zb t25 tr_ (s6.getD 0 undef) fun t36=>za (fun K9=>gIf t36 false (pp (Instr.makeFunc (.func 18) #[] #[t10]) fun t39=>ca zX #[t2,t39] w8 fun t40 w13=>
 K9 [t40] w13) (K9 [undef] w8)) (fun s10 _d11 w12=>
 zb t36 tr_ (s10.getD 0 undef) fun t41=>zc t41 (K (.tuple #[(i6 0),(i6 0),fa_,(i6 2)]) w12) (pp (Builtin.len_ #[26] 3 #[t2]) fun t43=>zr [(i6 0)] w12 (fun s15 _d16 w17 K14=>
 bf .lss 3 (s15.getD 0 undef) t43 fun t45=>zc t45 (xl w17 26 t2 (s15.getD 0 undef) 31 fun t48=>pw w17 (Instr.alloc 31 true (.tuple #[])) fun t12 w18=>
 so w18 31 t12 t48 fun w19=>pp (Instr.makeFunc (.func 20) #[] #[t12]) fun t49=>lo w19 57 t10 fun t50=>fa t50 68 0 fun t52=>fl w19 t52 48 6 46 fun t54=>pp (Builtin.len_ #[46] 3 #[t54]) fun t55=>zr [(i6 0)] w19 (fun s21 _d22 w23 K20=>
 bf .lss 3 (s21.getD 0 undef) t55 fun t57=>zc t57 (lo w23 57 t10 fun t60=>ca yZ #[t60,(s21.getD 0 undef)] w23 fun t62 w24=>
 pe t62 0 fun t63=>pe t62 1 fun t64=>pp (Op.unary .not t64) fun t66=>za (fun K25=>gIf t66 false (bf .neq 3 t63 (s15.getD 0 undef) fun t70=>K25 [t70] w24) (K25 [undef] w24)) (fun s26 _d27 w28=>
 zb t66 tr_ (s26.getD 0 undef) fun t71=>za (fun K29=>gIf t71 true (lo w28 57 t10 fun t73=>ff w28 t73 68 1 66 fun t76=>xl w28 66 t76 (s21.getD 0 undef) 50 fun t79=>ca zG #[t79,t49] w28 fun t81 w33=>
 K29 [t81] w33) (K29 [undef] w28)) (fun s30 _d31 w32=>
 zb t71 (s30.getD 0 undef) fa_ fun t82=>za (fun K34=>gIf t82 false (lo w32 57 t10 fun t85=>ca yY #[t85,(s21.getD 0 undef),(s15.getD 0 undef)] w32 fun t88 w38=>
 K34 [t88] w38) (K34 [undef] w32)) (fun s35 _d36 w37=>
 zb t82 tr_ (s35.getD 0 undef) fun t89=>za (fun K39=>gIf t89 true (cv t49 #[(s21.getD 0 undef)] w37 fun t93 w43=>
 pp (Op.unary .not t93) fun t94=>K39 [t94] w43) (K39 [undef] w37)) (fun s40 _d41 w42=>
 zb t89 (s40.getD 0 undef) fa_ fun t95=>zc t95 (K (.tuple #[(s15.getD 0 undef),(s21.getD 0 undef),fa_,(i6 0)]) w42) (bt .add 3 (s21.getD 0 undef) (i6 1) fun t98=>K20 [t98] w42)))))) (bt .add 3 (s15.getD 0 undef) (i6 1) fun t99=>K14 [t99] w23))) (K (.tuple #[(i6 0),(i6 0),tr_,(i6 0)]) w17)))))
theorem Vh {t0 t1 t2 : Value} {w : World} {K : VW} (h : YF t0 t1 t2 w K) : zd prog xS #[t0,t1,t2] w K:=
 okC false (.s (.r (rz 5 0 2)) (.s (.r (rz 9 0 40993)) (.s (.s (.r (ra 3 0 0 (.grp 26 false (ri 9 3 4112) [35] (ra 2 12 0 (.grp 37 false (ri 3 14 32) [40] (rz 1 17 0)))))) (.c (.s (.r (rz 4 0 0)) (.n)) (.n))) (.s (.s (.r (rz 3 0 0)) (.b (.lp [44] (.s (.r (rz 1 0 0)) (.s (.c (.n) (.n)) (.s (.b (.s (.r (rz 6 0 2192)) (.s (.r (rz 2 0 0)) (.s (.r (rz 7 0 257)) (.b (.lp [56] (.s (.r (rz 1 0 0)) (.s (.c (.n) (.n)) (.s (.b (.s (.r (rz 2 0 0)) (.s (.r (rz 8 0 33)) (.s (.r (ra 3 0 0 (.grp 67 false (ri 3 3 0) [70] (ra 2 6 0 (.grp 72 true (ri 9 8 135233) [81] (rz 2 17 0)))))) (.s (.r (ra 2 0 0 (.grp 84 false (ri 4 2 129) [88] (ra 2 6 0 (.grp 90 true (ri 4 8 32) [94] (rz 1 12 0)))))) (.c (.s (.r (rz 6 0 0)) (.n)) (.n))))))) (.r (rz 2 0 0))))))))))) (.r (rz 2 0 0)))))))) (.s (.r (rz 4 0 0)) (.n)))))) func7 rfl (by kernel_rfl) (by kernel_rfl) h
def Zv (t0 t1 : Value) (w : World) (K : VW) : Prop:=
 pw w (Instr.box 31 t0) fun t2 w1=>
 lo w1.drew 31 t2 fun t4=>ca kJ #[t4] w1.drew fun t5 w2=>
 pp (Op.unary .not t5) fun t6=>za (fun K3=>gIf t6 false (fl w2 t2 31 0 3 fun t9=>lo w2 57 t1 fun t10=>fa t10 68 0 fun t12=>fl w2 t12 48 6 46 fun t14=>pp (Builtin.len_ #[46] 3 #[t14]) fun t15=>bf .neq 3 t9 t15 fun t16=>K3 [t16] w2) (K3 [undef] w2)) (fun s4 _d5 w6=>
 zb t6 tr_ (s4.getD 0 undef) fun t17=>K t17 w6)
theorem QT {t0 t1 : Value} {w : World} {K : VW} (h : Zv t0 t1 w K) : zd prog Zt #[t0,t1] w K:=
 okC false (.s (.r (rz 2 0 2)) (.s (.r (ra 4 0 9 (.grp 7 false (ri 9 4 4116) [16] (rz 2 13 0)))) (.n))) func18 rfl (by kernel_rfl) (by kernel_rfl) h
def Zw (t0 t1 : Value) (w : World) (K : VW) : Prop:=
 fl w t1 31 1 29 fun t5=>bt .quo 3 t0 (i6 64) fun t7=>xl w 29 t5 t7 65 fun t9=>bt .rem 3 t0 (i6 64) fun t11=>bf .shr 65 t9 t11 fun t12=>bt .and 65 t12 (Value.int .u64 1) fun t13=>bt .eql 65 t13 (Value.int .u64 1) fun t14=>K t14 w
theorem QU {t0 t1 : Value} {w : World} {K : VW} (h : Zw t0 t1 w K) : zd prog Zu #[t0,t1] w K:=
 okC false (.s (.r (rz 1 0 0)) (.s (.r (rz 12 0 1028)) (.n))) func20 rfl (by kernel_rfl) (by kernel_rfl) h
end Go.Proofs.Tryz
end
section
namespace Go.Proofs.Tryz
open Go.Sh
set_option maxRecDepth 100000
def yG (t0 t1 : Value) (w : World) (K : VW) : Prop:=
 ca yf #[t0,t1] w fun t7 w1=>
 bt .geq 3 t7 (i6 0) fun t8=>K t8 w1
theorem kz {t0 t1 : Value} {w : World} {K : VW} (h : yG t0 t1 w K) : zd prog z8 #[t0,t1] w K:=
 okC false (.s (.r (rz 1 0 0)) (.s (.r (rz 5 0 32)) (.n))) func45 rfl (by kernel_rfl) (by kernel_rfl) h
def y6 (t0 t1 : Value) (w : World) (K : VW) : Prop:=
 pp (Builtin.len_ #[78] 3 #[t0]) fun t7=>zr [(i6 0)] w (fun s2 _d3 w4 K1=>
 bf .lss 3 (s2.getD 0 undef) t7 fun t9=>zc t9 (xl w4 78 t0 (s2.getD 0 undef) 77 fun t15=>bf .eql 77 t1 t15 fun t16=>zc t16 (K (s2.getD 0 undef) w4) (bt .add 3 (s2.getD 0 undef) (i6 1) fun t18=>K1 [t18] w4)) (K (i6 (-1)) w4))
theorem kZ {t0 t1 : Value} {w : World} {K : VW} (h : y6 t0 t1 w K) : zd prog yf #[t0,t1] w K:=
 okC false (.s (.r (rz 1 0 0)) (.s (.s (.r (rz 3 0 0)) (.b (.lp [8] (.s (.r (rz 1 0 0)) (.s (.c (.n) (.n)) (.s (.b (.s (.r (rz 2 0 0)) (.s (.r (rz 6 0 256)) (.c (.s (.r (rz 2 0 0)) (.n)) (.n))))) (.r (rz 2 0 0)))))))) (.s (.r (rz 1 0 0)) (.n)))) func59 rfl (by kernel_rfl) (by kernel_rfl) h
def kA (t0 t1 : Value) (w : World) (K : VW) : Prop:=
 pp (Builtin.len_ #[50] 3 #[t0]) fun t10=>zr [(i6 0)] w (fun s2 _d3 w4 K1=>
 bf .lss 3 (s2.getD 0 undef) t10 fun t12=>zc t12 (xl w4 50 t0 (s2.getD 0 undef) 3 fun t15=>pp (Builtin.len_ #[50] 3 #[t1]) fun t18=>bf .geq 3 (s2.getD 0 undef) t18 fun t19=>zc t19 (K (i6 1) w4) (xl w4 50 t1 (s2.getD 0 undef) 3 fun t23=>ca kO #[t15,t23] w4 fun t26 w5=>
 bt .neq 3 t26 (i6 0) fun t28=>zc t28 (K t26 w5) (bt .add 3 (s2.getD 0 undef) (i6 1) fun t30=>K1 [t30] w5))) (pp (Builtin.len_ #[50] 3 #[t0]) fun t32=>pp (Builtin.len_ #[50] 3 #[t1]) fun t34=>bf .lss 3 t32 t34 fun t35=>zc t35 (K (i6 (-1)) w4) (K (i6 0) w4)))
theorem vh {t0 t1 : Value} {w : World} {K : VW} (h : kA t0 t1 w K) : zd prog y5 #[t0,t1] w K:=
 okC false (.s (.r (rz 1 0 0)) (.s (.s (.r (rz 3 0 0)) (.b (.lp [11] (.s (.r (rz 1 0 0)) (.s (.c (.n) (.n)) (.s (.b (.s (.r (rz 5 0 16)) (.s (.s (.r (rz 4 0 0)) (.c (.s (.r (rz 1 0 0)) (.n)) (.n))) (.s (.r (rz 5 0 64)) (.s (.r (rz 4 0 32)) (.s (.r (rz 2 0 0)) (.c (.s (.r (rz 2 0 0)) (.n)) (.n)))))))) (.r (rz 2 0 0)))))))) (.s (.s (.r (rz 5 0 0)) (.c (.s (.r (rz 1 0 0)) (.n)) (.n))) (.s (.r (rz 1 0 0)) (.n))))) func35 rfl (by kernel_rfl) (by kernel_rfl) h
def yA (t0 t1 : Value) (w : World) (K : VW) : Prop:=
 ca yb #[t0,t1] w fun t7 w1=>
 bt .geq 3 t7 (i6 0) fun t8=>K t8 w1
theorem x8 {t0 t1 : Value} {w : World} {K : VW} (h : yA t0 t1 w K) : zd prog zX #[t0,t1] w K:=
 okC false (.s (.r (rz 1 0 0)) (.s (.r (rz 5 0 32)) (.n))) func17 rfl (by kernel_rfl) (by kernel_rfl) h
def yL (t0 t1 : Value) (w : World) (K : VW) : Prop:=
 pp (Builtin.len_ #[26] 3 #[t0]) fun t7=>zr [(i6 0)] w (fun s2 _d3 w4 K1=>
 bf .lss 3 (s2.getD 0 undef) t7 fun t9=>zc t9 (xl w4 26 t0 (s2.getD 0 undef) 31 fun t15=>cv t1 #[t15] w4 fun t16 w5=>
 zc t16 (K (s2.getD 0 undef) w5) (bt .add 3 (s2.getD 0 undef) (i6 1) fun t18=>K1 [t18] w5)) (K (i6 (-1)) w4))
theorem kK {t0 t1 : Value} {w : World} {K : VW} (h : yL t0 t1 w K) : zd prog yb #[t0,t1] w K:=
 okC false (.s (.r (rz 1 0 0)) (.s (.s (.r (rz 3 0 0)) (.b (.lp [8] (.s (.r (rz 1 0 0)) (.s (.c (.n) (.n)) (.s (.b (.s (.r (rz 2 0 0)) (.s (.r (rz 6 0 2304)) (.c (.s (.r (rz 2 0 0)) (.n)) (.n))))) (.r (rz 2 0 0)))))))) (.s (.r (rz 1 0 0)) (.n)))) func39 rfl (by kernel_rfl) (by kernel_rfl) h
end Go.Proofs.Tryz
end
section
namespace Go.Proofs
open Go.Sh Go.RowKit
set_option maxRecDepth 100000
set_option linter.unusedSimpArgs false
set_option linter.unusedVariables false
def lkP (p : PtD) : List Int:=(if p.op=14 then [] else [p.nx])++(if p.op=12 then [p.el] else [])
theorem acJ {p : PtD} {x : Int} : x ∈ lkP p↔x ∈ y8 p:=by
 rw [lkP,y8]
 by_cases h14 : p.op=14
 ·rw [if_pos h14,if_pos h14,if_neg (by omega)];rfl
 ·rw [if_neg h14,if_neg h14]
  by_cases h12 : p.op=12
  ·rw [if_pos h12]
   by_cases e : p.nx=p.el
   ·rw [if_neg (fun h=>h.2 e)];simp [e]
   ·rw [if_pos ⟨h12,e⟩];simp
  ·rw [if_neg h12,if_neg (fun h=>h12 h.1)];simp
def lkN (g : GrD) : zD:=g.pts.map lkP
theorem XK {g : GrD} : (lkN g).length=(ze g).length:=by rw [lkN,ze,List.length_map,List.length_map]
def LookG (r : Gh) (v : Value) (g : GrD) : Prop:=∃ b x1 x2 x3 x4 y1 y2 y3 y4 vn,v = .pointer (some ⟨b,0,none⟩)∧GrG r (grL g x1 x2 x3 x4 y1 y2 y3 y4) g∧NetG r vn (lkN g)∧
 (∀ j u,(grL g x1 x2 x3 x4 y1 y2 y3 y4 ++ [vn])[j]? = some u→Ob r fun w=>w.cell? ⟨b,j,none⟩=some u)
theorem LookG.up {r s : Gh} {v : Value} {g : GrD} (h : LookG r v g) [le : Le r s] : LookG s v g:=by
 obtain ⟨b,x1,x2,x3,x4,y1,y2,y3,y4,vn,h1,h2,h3,h4⟩:=h
 exact ⟨b,x1,x2,x3,x4,y1,y2,y3,y4,vn,h1,GrG.up h2,h3.up,fun j u hj=>(h4 j u hj).up⟩
set_option maxHeartbeats 2000000 in
theorem qz {u : UnD} {n : Int} {v : Value} {w : World} {r : Gh} {K : Value→World→Prop} (hr : Holds r w) (hu : UnG r v u)
  (h : ∀ v' s w',Ext w w'→New w s w'→(fnE u n=0→∃ g,u.fs[n.toNat]? = some g∧netU u n=ze g∧LookG (r.or s) v' g)→(fnE u n≠0→v' = .pointer none)→K (.tuple #[v',.int .i64 (fnE u n)]) w') : zd Tryz.prog Tryz.xG #[v,.int .i64 n] w K:=by
 refine Tryz.ads ?_
 unfold Tryz.VM
 have hu0:=hu
 obtain ⟨p0,cap0,vf,rfl,_,_,hst,hsl,hfn⟩:=hu
 obtain ⟨qf,capf,rfl,_,_⟩:=hfn.sl.shape
 have S:=St.start hr
 refine S.box fun b2 w1 S=>?_
 have S : StX noX w r w1 [.cell b2 [.slice p0 u.ss.length cap0,.slice qf u.fs.length capf,.int .i64 u.mn] 25]:=S
 refine gp_ ?_
 refine zo (c:=decide ((u.fs.length : Int)≤n)) (fun _ K2 hK2=>by refine gg_ ?_;exact hK2) ?_
 refine xp (c:=!J6 u) (fun _ K2 hK2=>?_) fun w5 e5=>?_
 ·refine S.ldB (b:=b2) ?_ rfl
  refine Qa S.holds hu0 fun w5 e5=>?_
  refine gp_ ?_
  exact hK2 _ e5
 have S:=S.go e5
 refine c_b (fun hbad=>?_) (fun hgood=>?_)
 ·have hE : fnE u n=2:=by rw [fnE,if_pos hbad]
  rw [hE] at h
  exact h _ nothing _ S.ext New.nothing (fun h=>by cases h) fun _=>rfl
 have hE : fnE u n=0:=by rw [fnE,if_neg (by rw [hgood];simp)]
 rw [hE] at h
 obtain ⟨hM,hn0,hlt⟩:=Js hE
 simp only [Bool.or_eq_false_iff,decide_eq_false_iff_not,Bool.not_eq_false'] at hgood
 obtain ⟨⟨_,hn1⟩,_⟩:=hgood
 obtain ⟨bf,of,cf,hqE,hcf,hgc,hfo⟩:=hfn.sl.get (by decide) hlt
 cases hqE
 have hp24:=(hM.hd hlt).pt1024
 have hgi : u.fs[n.toNat]? = some u.fs[n.toNat]:=List.getElem?_eq_getElem hlt
 have hnu : netU u n=ze u.fs[n.toNat]:=by rw [netU,hgi]
 generalize u.fs[n.toNat]=g at hgc hp24 hgi hnu
 obtain ⟨x1,x2,x3,x4,y1,y2,y3,y4,rfl,hg0⟩:=acx hgc
 obtain ⟨_,_,_,_,hEE,m1,m2,m3,m4⟩:=id hg0
 cases hEE
 refine gg_ ?_
 refine zH (n:=7) rfl (fun j v hj=>S.at (hfo j v hj)) ?_
 refine gg_ ?_
 refine S.box fun bx w6 S=>?_
 have S:=S.ownNil 50 1
 have S : StX noX w (r.or nothing) w6 [.row (.slice none 0 0) 50 1 0 [],.cell bx (grL g x1 x2 x3 x4 y1 y2 y3 y4 ++ [.slice none 0 0]) 68,.cell b2 [.slice p0 u.ss.length cap0,.slice (some ⟨bf,of,none⟩) u.fs.length capf,.int .i64 u.mn] 25]:=S.less (fun b o h=>h.elim id fun h=>h.elim) (List.Sublist.refl _)
 refine gg_ ?_
 refine zj (ι:=Nat × Value × Gh × List Value) (fun i=>[.int .i64 (i.1 : Nat)])
  (fun i w'=>i.1≤g.pts.length∧Above w i.2.2.1∧RowOf 1 (RowC i.2.2.1) i.2.2.2 ((lkN g).take i.1)∧StX noX w (r.or i.2.2.1) w' [.row i.2.1 50 1 i.1 i.2.2.2,.cell bx (grL g x1 x2 x3 x4 y1 y2 y3 y4 ++ [i.2.1]) 68,.cell b2 [.slice p0 u.ss.length cap0,.slice (some ⟨bf,of,none⟩) u.fs.length capf,.int .i64 u.mn] 25])
  (fun i=>g.pts.length - i.1) (0,.slice none 0 0,nothing,[]) rfl ⟨Nat.zero_le _,Above.no,by simpa using RowOf.nil,S⟩ ?_
 repeat clear S
 rintro ⟨i,vr,s,xs⟩ d w7 ⟨hi,ha,hR,S⟩ K11 hK11
 simp only at hi ha hR S ⊢
 simp only [List.getD_cons_zero,List.getD_cons_succ]
 refine gg_ ?_
 refine zm (fun hlt2=>?_) (fun hge=>?_)
 ·have hlt2 : i<g.pts.length:=by omega
  have hil : i<(lkN g).length:=by rw [XK,zR];exact hlt2
  obtain ⟨bp,op,cp,hqp,hcp,hpc,hpo⟩:=m4.sl.get (by decide) hlt2
  rw [hqp]
  have hni : (lkN g)[i]=lkP g.pts[i]:=by simp [lkN]
  have htk : (lkN g).take (i+1)=(lkN g).take i ++ [lkP g.pts[i]]:=by rw [List.take_succ_eq_append_getElem hil,hni]
  generalize g.pts[i]=p at hpc htk
  obtain ⟨z1,z2,z3,z4,z5,t1,t2,t3,t4,t5,rfl,hp0⟩:=Z0 hpc
  refine gg_ ?_
  refine zH (n:=21) hcp (fun j v hj=>by rw [Int.toNat_natCast];exact S.at (hpo j v hj)) ?_
  refine S.al fun b8 w7 S=>?_
  refine S.stB (b:=b8) fun w8 S=>?_
  have S:=S.ownNil 3 1
  have S : StX noX w (r.or s) w8 [.row (.slice none 0 0) 3 1 ([] : List Int).length (ints []),.cell b8 (ptL p z1 z2 z3 z4 z5 t1 t2 t3 t4 t5) 92,.row vr 50 1 i xs,.cell bx (grL g x1 x2 x3 x4 y1 y2 y3 y4 ++ [vr]) 68,.cell b2 [.slice p0 u.ss.length cap0,.slice (some ⟨bf,of,none⟩) u.fs.length capf,.int .i64 u.mn] 25]:=S
  refine zq (fun x w'=>∃ v1,x = [v1]∧StX noX w (r.or s) w' [.row v1 3 1 (if p.op=14 then [] else [p.nx]).length (ints (if p.op=14 then [] else [p.nx])),.cell b8 (ptL p z1 z2 z3 z4 z5 t1 t2 t3 t4 t5) 92,.row vr 50 1 i xs,.cell bx (grL g x1 x2 x3 x4 y1 y2 y3 y4 ++ [vr]) 68,.cell b2 [.slice p0 u.ss.length cap0,.slice (some ⟨bf,of,none⟩) u.fs.length capf,.int .i64 u.mn] 25]) (fun K18 hK18=>?_) ?_
  ·refine gg_ ?_
   refine zm (fun h14=>?_) (fun h14=>?_)
   ·rw [if_neg h14] at hK18
    refine gg_ ?_
    refine S.lit (e:=3) (cs:=[.int .i64 p.nx]) (by kernel_rfl) fun b9 w9 S=>?_
    refine S.ap (v:=.slice none 0 0) (m':=1) (Sl.blk (S.blk b9)) (fun v4 w10 S=>?_) (by decide)
    exact hK18 _ _ ⟨v4,rfl,S.drop b9⟩
   ·rw [if_pos (Decidable.not_not.1 h14)] at hK18
    exact hK18 _ _ ⟨_,rfl,S⟩
  repeat clear S
  rintro _ w9 ⟨v1,rfl,S⟩ d
  rw [List.getD_cons_zero]
  generalize hl1 : (if p.op=14 then [] else [p.nx])=l1 at S
  have hl1f : l1.length≤1:=by rw [← hl1];split<;>simp
  refine zq (fun x w'=>∃ v2,x = [v2]∧StX noX w (r.or s) w' [.row v2 3 1 (lkP p).length (ints (lkP p)),.cell b8 (ptL p z1 z2 z3 z4 z5 t1 t2 t3 t4 t5) 92,.row vr 50 1 i xs,.cell bx (grL g x1 x2 x3 x4 y1 y2 y3 y4 ++ [vr]) 68,.cell b2 [.slice p0 u.ss.length cap0,.slice (some ⟨bf,of,none⟩) u.fs.length capf,.int .i64 u.mn] 25]) (fun K24 hK24=>?_) ?_
  ·refine gg_ ?_
   refine zm (fun h12=>?_) (fun h12=>?_)
   ·have e : lkP p=l1 ++ [p.el]:=by rw [lkP,hl1,if_pos h12]
    rw [e,List.length_append,xF] at hK24
    refine gg_ ?_
    refine S.lit (e:=3) (cs:=[.int .i64 p.el]) (by kernel_rfl) fun b9 w10 S=>?_
    refine S.ap (v:=v1) (m':=1) (Sl.blk (S.blk b9)) (fun v4 w11 S=>?_) (by omega)
    exact hK24 _ _ ⟨v4,rfl,S.drop b9⟩
   ·have e : lkP p=l1:=by rw [lkP,hl1,if_neg h12,List.append_nil]
    rw [e] at hK24
    exact hK24 _ _ ⟨_,rfl,S⟩
  repeat clear S
  rintro _ w10 ⟨v2,rfl,S⟩ d
  rw [List.getD_cons_zero]
  have hlf : (lkP p).length≤2:=by
   rw [lkP,List.length_append]
   split<;>split<;>simp
  generalize lkP p=l2 at S htk hlf
  obtain ⟨s2,T,hs2,_,ha2⟩:=S.doneRow yB (by decide) rfl
  repeat clear S
  have ha2 : Above w s2:=fun b o ho=>(ha2 b o ho).resolve_right id
  obtain ⟨q2,c2,rfl,_,_⟩:=hs2.shape
  have S:=T.reGh
  clear T
  have S:=S.drop b8
  refine gg_ ?_
  refine S.lit (e:=50) (cs:=[.slice q2 l2.length c2]) (by kernel_rfl) fun b10 w11 S=>?_
  refine S.ap (v:=vr) (m':=1) (Sl.blk (S.blk b10)) (fun v4 w12 S=>?_) (by omega)
  have S:=S.drop b10
  refine gg_ ?_
  refine S.st (b:=bx) (fun w13 S=>?_) (by simp) (S.row1 v4)
  refine gg_ ?_
  refine hK11 (i+1,v4,s.or s2,xs ++ [.slice q2 l2.length c2]) _ ⟨hlt2,ha.or' ha2,?_,S⟩ (by show g.pts.length - (i+1)<g.pts.length - i;omega)
  show RowOf 1 (RowC (s.or s2)) (xs ++ [.slice q2 l2.length c2]) ((lkN g).take (i+1))
  rw [htk]
  exact (hR.mono fun _ _ h=>RowC.up h).snoc rfl ⟨_,rfl,hs2.cells,by show l2.length≤maxLen;rw [maxLen];omega⟩
 have hie : i=g.pts.length:=by omega
 clear hK11 K11 hge hi
 subst hie
 have hlk : (lkN g).length=g.pts.length:=by rw [XK,zR]
 rw [← hlk,List.take_length] at hR
 rw [← hlk] at S
 obtain ⟨s2,T,hs,_,hab⟩:=S.doneRow hR (by decide) rfl
 repeat clear S
 have hab : Above w s2:=fun b o ho=>(hab b o ho).resolve_right id
 have hbx:=(T.mine (.cell bx (grL g x1 x2 x3 x4 y1 y2 y3 y4 ++ [vr]) 68) (by simp) bx rfl).1.resolve_right id
 have T:=T.reGh.frzAt bx
 have ab3 : Above w (Go.Sh.one bx (grL g x1 x2 x3 x4 y1 y2 y3 y4 ++ [vr]) 68):=by rintro b o ⟨rfl,_⟩;exact hbx
 refine h _ ((s.or s2).or (Go.Sh.one bx (grL g x1 x2 x3 x4 y1 y2 y3 y4 ++ [vr]) 68)) _ T.ext (StX.newOf (q:=(s.or s2).or (Go.Sh.one bx (grL g x1 x2 x3 x4 y1 y2 y3 y4 ++ [vr]) 68)) T.reGh ((ha.or' hab).or' ab3)) (fun _=>⟨g,hgi,hnu,bx,x1,x2,x3,x4,y1,y2,y3,y4,vr,rfl,hg0.up,⟨hs.up' inferInstance fun _ _ h=>RowC.up h,by rw [hlk];exact Nat.le_trans hp24 (by decide)⟩,fun j u hj w' hw'=>?_⟩) fun h=>absurd rfl h
 have B : Blk w' bx (grL g x1 x2 x3 x4 y1 y2 y3 y4 ++ [vr]) 68:=zF w' (hw'.le (h:=inferInstance))
 show w'.cell? ⟨bx,j,none⟩=some u
 rw [B.cell]
 exact hj
end Go.Proofs
end
section
namespace Go.Sh
open Go.RowKit
def Drt (X : Nat→Prop) (n : Nat) (r : Gh) (W : World) (L : List Asr) (D : Nat→Prop) : Prop:=
 ∀ d,D d→(n≤d∨X d)∧d<W.heap.size∧(∀ o,¬ r d o)∧¬ y9 L d
structure Cbk (P : Program) (f : Value) (xs : List Int) (J : Nat→(Nat→Prop)→World→Prop) (Jx : World→Prop) : Prop where
 ext : ∀ k D W1 W2,J k D W1→Ext W1 W2→J k D W2
 extx : ∀ W1 W2,Jx W1→Ext W1 W2→Jx W2
 call : ∀ k D W x,xs[k]? = some x→J k D W→∀ K1 : Value→World→Prop,
  (∀ (b : Bool) W2,ExtBut D W W2→(if b=true then ∃ D2 : Nat→Prop,(∀ d,D2 d→D d∨(W.heap.size≤d∧d<W2.heap.size))∧J (k+1) D2 W2 else Jx W2)→K1 (.bool b) W2)→zB P f #[.int .i64 x] W K1
section
variable {P : Program} {X : Nat→Prop} {w0 w w' : World} {r : Gh} {L : List Asr} {D D2 : Nat→Prop} {n : Nat}
theorem StX.dirty (S : StX X w0 r w L) (e : ExtBut D w w') (hd : Drt X w0.heap.size r w L D) : StX X w0 r w' L:=
 ⟨S.x.but e fun k hk=>(hd k hk).1,S.holds.but e fun b o hb hk=>(hd b hk).2.2.1 o hb,
  fun x hx=>Asr.keep (S.has x hx) fun k hk=>e.block k (Asr.lt (S.has x hx) hk) fun hD=>(hd k hD).2.2.2 (yT.2 ⟨x,hx,hk⟩),S.mine,S.apart⟩
theorem Drt.next (S : StX X w0 r w L) (hd : Drt X w0.heap.size r w L D) (e : w.heap.size≤w'.heap.size) (h2 : ∀ d,D2 d→D d∨(w.heap.size≤d∧d<w'.heap.size)) : Drt X w0.heap.size r w' L D2:=fun d hD=>by
 rcases h2 d hD with h|⟨h3,h4⟩
 ·obtain ⟨h5,h6,h7,h8⟩:=hd d h
  exact ⟨h5,by omega,h7,h8⟩
 ·have:=S.x.size
  refine ⟨.inl (by omega),h4,fun o ho=>?_,fun hm=>?_⟩
  ·have:=S.holds.lt ho;omega
  ·have:=S.dlt hm;omega
theorem Drt.more (hd : Drt X n r w L D) (e : w.heap.size≤w'.heap.size) : Drt X n r w' L D:=fun d hD=>by
 obtain ⟨h5,h6,h7,h8⟩:=hd d hD
 exact ⟨h5,by omega,h7,h8⟩
theorem StX.open (S : StX noX w0 r w L) (X : Nat→Prop) : StX X w0 r w L:=
 ⟨⟨S.x.os,S.x.tape,S.x.output,S.x.size,fun k hk _=>S.x.block k hk fun h=>h⟩,S.holds,S.has,fun x hx k hk=>⟨.inl ((S.mine x hx k hk).1.resolve_right fun h=>h),(S.mine x hx k hk).2⟩,S.apart⟩
end
end Go.Sh
end
section
namespace Go.Proofs
open Go.Sh Go.RowKit
set_option maxRecDepth 100000
set_option linter.unusedSimpArgs false
set_option linter.unusedVariables false
theorem qN {g : GrD} {q : Int} {v : Value} {w : World} {r : Gh} {K : Value→World→Prop} (hr : Holds r w) (hx : LookG r v g)
  (h : K (.bool (decide (isN (ze g) q))) w) : zd Tryz.prog Tryz.yo #[v,.int .i64 q] w K:=by
 refine Tryz.Xn ?_
 unfold Tryz.j0
 obtain ⟨b,x1,x2,x3,x4,y1,y2,y3,y4,vn,rfl,hg,hn,hc⟩:=hx
 have e : (decide (0≤q)&&decide (q<(g.pts.length : Int)))=decide (isN (ze g) q):=by
  rw [Bool.eq_iff_iff,Bool.and_eq_true,decide_eq_true_eq,decide_eq_true_eq,decide_eq_true_eq,isN,zR]
 rw [← e] at h
 refine gg_ ?_
 refine zi (c:=decide (q<(g.pts.length : Int))) (fun _ K2 hK2=>?_) h
 refine gg_ ?_
 refine zh (hc 6 _ rfl w hr) ?_
 refine gg_ ?_
 exact hK2
theorem Z4 {p : PtD} {c : List Value} {w : World} {r : Gh} {K : Value→World→Prop} (hr : Holds r w) (hp : PtG r c p)
  (h : ∀ w',Ext w w'→K (.bool (jf p)) w') : zd Tryz.prog Tryz.kI #[.agg c.toArray] w K:=by
 refine Tryz.Jy ?_
 unfold Tryz.Z3
 obtain ⟨z1,z2,z3,z4,z5,t1,t2,t3,t4,t5,rfl,hp0⟩:=Z0 hp
 have S:=St.start hr
 refine S.box fun b1 w1 S=>?_
 have S : StX noX w r w1 [.cell b1 (ptL p z1 z2 z3 z4 z5 t1 t2 t3 t4 t5) 92]:=S
 refine gg_ ?_
 refine zi (c:=decide (p.op≤8)) (fun _ K2 hK2=>by refine gg_ ?_;exact hK2) ?_
 exact h _ S.ext
theorem agV {r : Gh} {p : Option Addr} {n cap : Nat} {l : List Int} (h : SlG 1 r jM (.slice p n cap) l) {i : Nat} (hi : i<l.length) : ∃ b off,p=some ⟨b,off,none⟩∧n=l.length∧Ob r fun w=>w.cell? ⟨b,off+i,none⟩=some (.int .i64 l[i]):=
 yi (h.mono fun c x hx=>hx.1) hi
theorem abs {l : List Int} {x : Int} {v : Value} {w : World} {r : Gh} {K : Value→World→Prop} (hr : Holds r w) (hl : SlB 1 r jM v l)
  (h : ∀ i : Int,(0≤i↔x ∈ l)→K (.int .i64 i) w) : zd Tryz.prog Tryz.yf #[v,.int .i64 x] w K:=by
 refine Tryz.kZ ?_
 unfold Tryz.y6
 obtain ⟨p,cap,rfl,_,_⟩:=hl.sl.shape
 have hf : l.length≤9223372036854775807:=hl.few
 refine gp_ ?_
 refine zj (ι:=Nat) (fun i=>[.int .i64 (i : Nat)]) (fun i w'=>w'=w∧i≤l.length∧x ∉ l.take i) (fun i=>l.length - i) 0 rfl ⟨rfl,Nat.zero_le _,by simp⟩ ?_
 rintro i d w' ⟨rfl,hi,hn⟩ K1 hK1
 simp only [List.getD_cons_zero]
 refine gp_ ?_
 refine zm (fun hlt=>?_) (fun hge=>?_)
 ·have hlt : i<l.length:=by omega
  obtain ⟨b,off,rfl,_,hc⟩:=agV hl.sl hlt
  refine gp_ ?_
  refine zh (by rw [Int.toNat_natCast];exact hc _ hr) ?_
  refine gp_ ?_
  refine zm (fun he=>?_) (fun he=>?_)
  ·exact h _ ⟨fun _=>by rw [he];exact List.getElem_mem hlt,fun _=>Int.natCast_nonneg _⟩
  ·refine gp_ ?_
   refine hK1 (i+1) _ ⟨rfl,hlt,?_⟩ (by omega)
   rw [List.take_succ_eq_append_getElem hlt,List.mem_append,List.mem_singleton]
   exact fun h=>h.elim hn he
 ·have : i=l.length:=by omega
  subst this
  rw [List.take_length] at hn
  exact h _ ⟨fun h=>by omega,fun h=>absurd h hn⟩
theorem JA {l : List Int} {x : Int} {v : Value} {w : World} {r : Gh} {K : Value→World→Prop} (hr : Holds r w) (hl : SlB 1 r jM v l)
  (h : K (.bool (decide (x ∈ l))) w) : zd Tryz.prog Tryz.z8 #[v,.int .i64 x] w K:=by
 refine Tryz.kz ?_
 unfold Tryz.yG
 refine abs hr hl fun i hi=>?_
 refine gp_ ?_
 have e : decide (0≤i)=decide (x ∈ l):=by
  rw [decide_eq_decide];exact hi
 rw [e];exact h
theorem afC {c b : Bool} {a : Value} {K : Value→Prop} (h1 : c=true→a = .bool b) (h0 : c=false→b=false) (k : K (.bool b)) : zb (.bool c) a (.bool false) K:=by
 cases c with
 |true=>rw [h1 rfl];exact k_pickT k
 |false=>rw [h0 rfl] at k;exact k_pickF k
theorem aex {l : List OpD} {i : Nat} (hi : i<l.length) : xx (l.take (i+1))=xx (l.take i)++(if QO l[i]=true then [l[i].pl.l] else []):=by
 rw [xx,xx,List.take_succ_eq_append_getElem hi,List.filter_append,List.map_append]
 congr 1
 by_cases h : QO l[i]=true
 ·rw [if_pos h,List.filter_cons_of_pos h];rfl
 ·rw [if_neg h,List.filter_cons_of_neg h];rfl
theorem afD {l : List OpD} {i : Nat} : xx (l.take i) <+: xx l:=by
 refine ⟨xx (l.drop i),?_⟩
 rw [xx,xx,xx,← List.map_append,← List.filter_append,List.take_append_drop]
theorem agW {A B C : List Int} {x : Int} (h : A ++ [x] <+: B) : (B++C)[A.length]? = some x:=by
 obtain ⟨t,rfl⟩:=h
 simp
set_option maxHeartbeats 4000000 in
theorem Qg {g : GrD} {p : PtD} {q : Int} {v f : Value} {w : World} {r : Gh} {K : Value→World→Prop} {D0 : Nat→Prop} {J : Nat→(Nat→Prop)→World→Prop} {Jx : World→Prop}
  (hr : Holds r w) (hx : LookG r v g) (hq : 0≤q) (hp : g.pts[q.toNat]? = some p) (hb : p.args.length≤1000) (hD : ∀ d,D0 d→d<w.heap.size∧∀ o,¬ r d o) (hf : Cbk Tryz.prog f (zC p) J Jx) (h0 : J 0 D0 w)
  (h : ∀ w',((∃ D,J (zC p).length D w')∨Jx w')→K (.tuple #[]) w') : zd Tryz.prog Tryz.yX #[v,.int .i64 q,f] w K:=by
 refine Tryz.XT ?_
 unfold Tryz.vS
 obtain ⟨bl,x1,x2,x3,x4,y1,y2,y3,y4,vn,rfl,hg,hn,hc⟩:=hx
 obtain ⟨_,_,_,_,hEE,m1,m2,m3,m4⟩:=id hg
 cases hEE
 obtain ⟨hlt,hpe⟩:=List.getElem?_eq_some_iff.1 hp
 obtain ⟨bp,op,cp,hqp,hcp,hpc,hpo⟩:=m4.sl.get (by decide) hlt
 cases hqp
 rw [hpe] at hpc
 obtain ⟨z1,z2,z3,z4,z5,t1,t2,t3,t4,t5,rfl,hp0⟩:=Z0 hpc
 obtain ⟨kto,ka,kb,kl,kf⟩:=afl hp0
 have S:=St.start hr
 refine gg_ ?_
 refine zh (S.at (hc 6 _ rfl)) ?_
 refine gg_ ?_
 refine zH (n:=21) hcp (fun j v hj=>S.at (hpo j v hj)) ?_
 refine S.al fun b6 w1 S=>?_
 refine S.stB (b:=b6) fun w2 S=>?_
 have S : StX noX w r w2 [.cell b6 (ptL p z1 z2 z3 z4 z5 t1 t2 t3 t4 t5) 92]:=S
 refine gg_ ?_
 refine S.ldN (b:=b6) (vs:=[.int .u8 p.a.k,.int .i64 p.a.n,.int .i64 p.a.pl.l,.slice z2 p.a.pl.ps.length t2]) ?_
 refine gg_ ?_
 refine S.ldN (b:=b6) (vs:=[.int .u8 p.b.k,.int .i64 p.b.n,.int .i64 p.b.pl.l,.slice z3 p.b.pl.ps.length t3]) ?_
 refine S.lit (e:=89) (cs:=[.int .u8 p.a.k,.int .i64 p.a.n,.int .i64 p.a.pl.l,.slice z2 p.a.pl.ps.length t2,.int .u8 p.b.k,.int .i64 p.b.n,.int .i64 p.b.pl.l,.slice z3 p.b.pl.ps.length t3]) (by kernel_rfl) fun b7 w3 S=>?_
 have S:=S.toRow 2 4 rfl (by decide)
 refine gg_ ?_
 obtain ⟨xs,hxr,hxs⟩:=agJ (by decide) kl.sl
 obtain ⟨_,_,hE,hq4,_⟩:=kl.sl.shape
 cases hE
 refine S.ap (v:=.slice (some ⟨b7,0,none⟩) 2 2) (S.at hxs) (fun v24 w4 S=>?_) (by omega) hxr.1 hq4 (adj hxr (by decide) fun c x hx=>agK hx)
 have hrow : RowOf 4 (OpG r) ([.int .u8 p.a.k,.int .i64 p.a.n,.int .i64 p.a.pl.l,.slice z2 p.a.pl.ps.length t2,.int .u8 p.b.k,.int .i64 p.b.n,.int .i64 p.b.pl.l,.slice z3 p.b.pl.ps.length t3]++xs) (p.a::p.b::p.args):=
  RowOf.app (l:=[p.a,p.b]) (yn (c:=[.int .u8 p.a.k,.int .i64 p.a.n,.int .i64 p.a.pl.l,.slice z2 p.a.pl.ps.length t2]) rfl ka (yp rfl kb)) hxr
 obtain ⟨s5,T,hs5,_,ha5⟩:=S.doneRow hrow (by decide) (by simp;omega)
 repeat clear S
 have ha5 : Above w s5:=fun b o ho=>(ha5 b o ho).resolve_right id
 have hb6:=(T.mine (.cell b6 (ptL p z1 z2 z3 z4 z5 t1 t2 t3 t4 t5) 92) (by simp) b6 rfl).1.resolve_right id
 have E4:=T.ext
 have T:=T.frzAt b6
 have hp6 : ∀ j u,(ptL p z1 z2 z3 z4 z5 t1 t2 t3 t4 t5)[j]? = some u→Ob ((r.or s5).or (Go.Sh.one b6 (ptL p z1 z2 z3 z4 z5 t1 t2 t3 t4 t5) 92)) fun w=>w.cell? ⟨b6,j,none⟩=some u:=fun j u hj w' hw'=>by
  have B : Blk w' b6 (ptL p z1 z2 z3 z4 z5 t1 t2 t3 t4 t5) 92:=zF w' (hw'.le (h:=inferInstance))
  show w'.cell? ⟨b6,j,none⟩=some u
  rw [B.cell]
  exact hj
 have hd : Drt D0 w.heap.size ((r.or s5).or (Go.Sh.one b6 (ptL p z1 z2 z3 z4 z5 t1 t2 t3 t4 t5) 92)) w4 [] D0:=fun d hd=>by
  obtain ⟨h1,h2⟩:=hD d hd
  refine ⟨.inr hd,Nat.lt_of_lt_of_le h1 E4.size,fun o ho=>?_,fun h=>h⟩
  rcases ho with (ho|ho)|ho
  ·exact h2 o ho
  ·have:=ha5 d o ho;omega
  ·have:=ho.1;omega
 have S:=T.open D0
 clear T
 have hs5:=hs5.cells (s:=(r.or s5).or (Go.Sh.one b6 (ptL p z1 z2 z3 z4 z5 t1 t2 t3 t4 t5) 92))
 have hto : SlB 1 ((r.or s5).or (Go.Sh.one b6 (ptL p z1 z2 z3 z4 z5 t1 t2 t3 t4 t5) 92)) jM (.slice z1 p.to.ps.length t1) p.to.ps:=by
  obtain ⟨vq,hE,hq'⟩:=kto
  cases hE
  exact hq'.cells
 have hp0':=hp0.up (s:=(r.or s5).or (Go.Sh.one b6 (ptL p z1 z2 z3 z4 z5 t1 t2 t3 t4 t5) 92))
 generalize (r.or s5).or (Go.Sh.one b6 (ptL p z1 z2 z3 z4 z5 t1 t2 t3 t4 t5) 92)=r' at S hd hp6 hs5 hto hp0'
 have hJ0:=hf.ext _ _ _ _ h0 E4
 obtain ⟨q5,c5,rfl,_,_⟩:=hs5.shape
 have hol : (p.a::p.b::p.args).length≤1002:=by simp;omega
 generalize hops : p.a::p.b::p.args=ops at hs5 hol
 have hxs : zC p=xx ops++((if p.op=4 then [p.fr.l] else [])++(if p.op=14∨(jf p=true∧-1 ∈ p.to.ps) then [p.to.l] else [])):=by rw [zC,hops]
 rw [hxs] at hf h
 refine gg_ ?_
 refine zj (ι:=Nat × (Nat→Prop)) (fun i=>[.int .i64 (i.1 : Nat)]) (fun i w'=>i.1≤ops.length∧J (xx (ops.take i.1)).length i.2 w'∧Drt D0 w.heap.size r' w' [] i.2∧StX D0 w r' w' []) (fun i=>ops.length - i.1) (0,D0) rfl ⟨Nat.zero_le _,hJ0,hd,S⟩ ?_
 clear S hd hJ0 E4
 rintro ⟨i,D⟩ d w8 ⟨hi,hJ,hd,S⟩ K5 hK5
 simp only at hi hJ hd S ⊢
 rw [List.getD_cons_zero]
 refine gg_ ?_
 refine zm (fun hlti=>?_) (fun hge=>?_)
 ·have hlti : i<ops.length:=by omega
  obtain ⟨bo,oo,co,hqo,hcl,hoc,hoo⟩:=hs5.get (by decide) hlti
  have hnx:=aex hlti
  have hpre:=afD (l:=ops) (i:=i+1)
  rw [hnx] at hpre
  generalize ops[i]=o at hoc hnx hpre
  obtain ⟨qo,ko,rfl⟩:=acz hoc
  cases hqo
  refine gg_ ?_
  refine zH (n:=4) rfl (fun j v hj=>by rw [Int.toNat_natCast];exact S.at (hoo j v hj)) ?_
  have R : StX noX w8 r' w8 []:=St.start S.holds
  refine R.al fun b8 w9 R=>?_
  refine R.stB (b:=b8) fun w10 R=>?_
  have R : StX noX w8 r' w10 [.cell b8 [.int .u8 o.k,.int .i64 o.n,.int .i64 o.pl.l,.slice qo o.pl.ps.length ko] 89]:=R
  refine gg_ ?_
  refine R.ld (b:=b8) ?_
  refine gg_ ?_
  refine zo (c:=decide (o.k=4)) (fun _ K2 hK2=>?_) ?_
  ·refine gg_ ?_
   refine R.ld (b:=b8) ?_
   refine gg_ ?_
   exact hK2
  have hpl : QO o=(decide (o.k=3)||decide (o.k=4)):=rfl
  rw [← hpl]
  have S:=S.go R.ext
  have hd:=hd.more R.ext.size
  have hJ:=hf.ext _ _ _ _ hJ R.ext
  cases hc : QO o with
  |false=>
   rw [hc] at hnx
   rw [if_neg (by decide),List.append_nil] at hnx
   (intro K9 hK9;refine gd_ ?_;refine hK9 _ _ fun _=>?_;clear hK9 K9)
   refine gd_ ?_
   refine c_f rfl ?_
   refine gg_ ?_
   refine hK5 (i+1,D) _ ⟨hlti,?_,hd,S⟩ (by show ops.length - (i+1)<ops.length - i;omega)
   show J (xx (ops.take (i+1))).length D w10
   rw [hnx];exact hJ
  |true=>
   rw [hc,if_pos rfl] at hnx hpre
   have hget:=agW (C:=(if p.op=4 then [p.fr.l] else [])++(if p.op=14∨(jf p=true∧-1 ∈ p.to.ps) then [p.to.l] else [])) hpre
   refine zq (fun s w'=>∃ b,s = [.bool (!b)]∧if b=true then ∃ D2 : Nat→Prop,J (xx (ops.take (i+1))).length D2 w'∧Drt D0 w.heap.size r' w' [] D2∧StX D0 w r' w' [] else Jx w') (fun K15 hK15=>?_) ?_
   ·refine g_TT ?_
    refine gg_ ?_
    refine R.ld (b:=b8) ?_
    refine hf.call _ _ _ _ hget hJ _ fun b W2 e2 hb2=>?_
    refine gp_ ?_
    refine hK15 _ _ ⟨b,rfl,?_⟩
    cases b with
    |false=>exact hb2
    |true=>
     obtain ⟨D2,hd2,hj2⟩:=hb2
     refine ⟨D2,?_,hd.next S e2.size hd2,S.dirty e2 hd⟩
     rw [hnx,List.length_append,List.length_singleton];exact hj2
   rintro _ w18 ⟨b,rfl,hb2⟩ d
   refine gd_ ?_
   cases b with
   |false=>
    refine c_t rfl ?_
    exact h _ (.inr hb2)
   |true=>
    refine c_f rfl ?_
    obtain ⟨D2,hj2,hd2,S2⟩:=hb2
    refine gg_ ?_
    exact hK5 (i+1,D2) _ ⟨hlti,hj2,hd2,S2⟩ (by show ops.length - (i+1)<ops.length - i;omega)
 have hie : i=ops.length:=by omega
 clear hK5 K5 hge hi d
 subst hie
 rw [List.take_length] at hJ
 clear hs5
 generalize hA : xx ops=A at hJ hf h
 clear hxs hol hA hops
 refine gg_ ?_
 refine zh (S.at (hp6 0 _ rfl)) ?_
 refine gg_ ?_
 refine zq (fun s w'=>∃ b : Bool,(p.op=4→s.getD 0 undef = .bool (!b))∧(p.op≠4→b=true)∧if b=true then ∃ D2 : Nat→Prop,J (A++(if p.op=4 then [p.fr.l] else [])).length D2 w'∧Drt D0 w.heap.size r' w' [] D2∧StX D0 w r' w' [] else Jx w') (fun K21 hK21=>?_) ?_
 ·by_cases h4 : p.op=4
  ·rw [decide_eq_true h4]
   rw [if_pos h4] at hf hK21
   refine g_TT ?_
   refine gg_ ?_
   refine zh (S.at (hp6 13 _ rfl)) ?_
   refine hf.call A.length _ _ _ (by simp) hJ _ fun b W2 e2 hb2=>?_
   refine gp_ ?_
   refine hK21 _ _ ⟨b,fun _=>rfl,fun h=>absurd h4 h,?_⟩
   cases b with
   |false=>exact hb2
   |true=>
    obtain ⟨D2,hd2,hj2⟩:=hb2
    exact ⟨D2,by rw [List.length_append];exact hj2,hd.next S e2.size hd2,S.dirty e2 hd⟩
  ·rw [decide_eq_false h4]
   rw [if_neg h4,List.append_nil] at hK21
   refine gd_ ?_
   exact hK21 _ _ ⟨true,fun h=>absurd h h4,fun _=>rfl,D,hJ,hd,S⟩
 clear S hd hJ
 rintro s w18 ⟨b,hs1,hs2,hb2⟩ d
 refine afC (b:=!b) (fun hc=>hs1 (of_decide_eq_true hc)) (fun hc=>by rw [hs2 (of_decide_eq_false hc)];rfl) ?_
 clear hs1 hs2
 cases b with
 |false=>
  refine c_t rfl ?_
  exact h _ (.inr hb2)
 |true=>
 refine c_f rfl ?_
 obtain ⟨D,hJ,hd,S⟩:=hb2
 rw [← List.append_assoc] at hf h
 generalize A++(if p.op=4 then [p.fr.l] else [])=B at hf h hJ
 refine gg_ ?_
 refine zh (S.at (hp6 0 _ rfl)) ?_
 refine gg_ ?_
 have fin : ∀ W D,J B.length D W→(p.op=14∨(jf p=true∧-1 ∈ p.to.ps))→zB Tryz.prog f #[.int .i64 p.to.l] W fun _ w41=>K (.tuple #[]) w41:=fun W D hJ hc=>by
  rw [if_pos hc] at hf h
  refine hf.call B.length _ _ _ (by simp) hJ _ fun b W2 e2 hb2=>?_
  cases b with
  |false=>exact h _ (.inr hb2)
  |true=>
   obtain ⟨D2,hd2,hj2⟩:=hb2
   exact h _ (.inl ⟨D2,by rw [List.length_append];exact hj2⟩)
 by_cases h14 : p.op=14
 ·rw [decide_eq_true h14]
  (intro K9 hK9;refine gd_ ?_;refine hK9 _ _ fun _=>?_;clear hK9 K9)
  (intro K9 hK9;refine gd_ ?_;refine hK9 _ _ fun _=>?_;clear hK9 K9)
  (intro K9 hK9;refine gd_ ?_;refine hK9 _ _ fun _=>?_;clear hK9 K9)
  refine gd_ ?_
  refine c_t rfl ?_
  refine gg_ ?_
  refine zh (S.at (hp6 1 _ rfl)) ?_
  exact fin _ _ hJ (.inl h14)
 rw [decide_eq_false h14]
 refine zq (fun s w'=>s = [.bool (jf p)]∧Ext w18 w') (fun K27 hK27=>?_) ?_
 ·refine g_FF ?_
  refine zH (n:=21) rfl (fun j v hj=>by rw [Nat.zero_add];exact S.at (hp6 j v hj)) ?_
  refine Z4 S.holds hp0' fun w19 e19=>?_
  exact hK27 _ _ ⟨rfl,e19⟩
 rintro _ w19 ⟨rfl,e19⟩ d2
 rw [List.getD_cons_zero]
 have S:=S.go e19
 have hd:=hd.more e19.size
 have hJ:=hf.ext _ _ _ _ hJ e19
 cases hc : jf p with
 |false=>
  have hno : ¬ (p.op=14∨(jf p=true∧-1 ∈ p.to.ps)):=by rintro (h|⟨h,_⟩);exact h14 h;rw [hc] at h;cases h
  rw [if_neg hno,List.append_nil] at hf h
  (intro K9 hK9;refine gd_ ?_;refine hK9 _ _ fun _=>?_;clear hK9 K9)
  (intro K9 hK9;refine gd_ ?_;refine hK9 _ _ fun _=>?_;clear hK9 K9)
  refine gd_ ?_
  refine c_f rfl ?_
  exact h _ (.inl ⟨D,hJ⟩)
 |true=>
  refine zq (fun s w'=>s = [.bool (decide (-1 ∈ p.to.ps))]∧w'=w19) (fun K32 hK32=>?_) ?_
  ·refine g_TT ?_
   refine gg_ ?_
   refine zh (S.at (hp6 2 _ rfl)) ?_
   refine JA S.holds hto ?_
   exact hK32 _ _ ⟨rfl,rfl⟩
  rintro _ w20 ⟨rfl,rfl⟩ d3
  rw [List.getD_cons_zero]
  (intro K9 hK9;refine gd_ ?_;refine hK9 _ _ fun _=>?_;clear hK9 K9)
  refine gd_ ?_
  refine c_b (fun hm=>?_) (fun hm=>?_)
  ·have hm:=of_decide_eq_true hm
   refine gg_ ?_
   refine zh (S.at (hp6 1 _ rfl)) ?_
   exact fin _ _ hJ (.inr ⟨hc,hm⟩)
  ·have hm:=of_decide_eq_false hm
   have hno : ¬ (p.op=14∨(jf p=true∧-1 ∈ p.to.ps)):=by rintro (h|⟨_,h⟩);exact h14 h;exact hm h
   rw [if_neg hno,List.append_nil] at hf h
   exact h _ (.inl ⟨D,hJ⟩)
end Go.Proofs
end
section
namespace Go.Proofs.Tryz
open Go.Sh
set_option maxRecDepth 100000
def JB (t0 : Value) (w : World) (K : VW) : Prop:=
 pw w (Instr.alloc 31 true (.tuple #[])) fun t2 w1=>
 bt .lss 3 t0 (i6 0) fun t5=>za (fun K2=>gIf t5 false (bt .gtr 3 t0 (i6 1032) fun t8=>K2 [t8] w1) (K2 [undef] w1)) (fun s3 _d4 w5=>
 zb t5 tr_ (s3.getD 0 undef) fun t9=>zc t9 (pp (Instr.build 31 #[]) fun t10=>so w5 31 t2 t10 fun w6=>pq w6 (zf 31 t2) fun r7=>K (.tuple #[r7,(i6 2)]) w6) (bt .add 3 t0 (i6 63) fun t13=>bt .quo 3 t13 (i6 64) fun t14=>pw w5 (Instr.makeSlice 29 t14 t14) fun t15 w8=>
 pp (Instr.build 31 #[(0,t0),(1,t15)]) fun t16=>so w8 31 t2 t16 fun w9=>pq w9 (zf 31 t2) fun r10=>K (.tuple #[r10,(i6 0)]) w9))
theorem ab7 {t0 : Value} {w : World} {K : VW} (h : JB t0 w K) : zd prog Yn #[t0] w K:=
 okC false (.s (.r (rz 2 0 2)) (.s (.s (.r (ra 3 0 0 (.grp 6 false (ri 2 3 0) [8] (rz 1 5 0)))) (.c (.s (.r (rz 3 0 8)) (.n)) (.n))) (.s (.r (rz 8 0 8704)) (.n)))) func16 rfl (by kernel_rfl) (by kernel_rfl) h
def JC (t0 : Value) (w : World) (K : VW) : Prop:=
 pw w (Instr.box 31 t0) fun t1 w1=>
 fl w1 t1 31 0 3 fun t4=>bt .lss 3 t4 (i6 0) fun t5=>za (fun K2=>gIf t5 false (fl w1 t1 31 0 3 fun t8=>bt .gtr 3 t8 (i6 1032) fun t9=>K2 [t9] w1) (K2 [undef] w1)) (fun s3 _d4 w5=>
 zb t5 tr_ (s3.getD 0 undef) fun t10=>za (fun K6=>gIf t10 false (fl w5 t1 31 1 29 fun t13=>pp (Builtin.len_ #[29] 3 #[t13]) fun t14=>fl w5 t1 31 0 3 fun t16=>bt .add 3 t16 (i6 63) fun t17=>bt .quo 3 t17 (i6 64) fun t18=>bf .neq 3 t14 t18 fun t19=>K6 [t19] w5) (K6 [undef] w5)) (fun s7 _d8 w9=>
 zb t10 tr_ (s7.getD 0 undef) fun t20=>zc t20 (K fa_ w9) (fl w9.drew t1 31 0 3 fun t22=>bt .rem 3 t22 (i6 64) fun t23=>bt .eql 3 t23 (i6 0) fun t24=>za (fun K10=>gIf t24 false (fl w9.drew t1 31 1 29 fun t27=>fl w9.drew t1 31 1 29 fun t29=>pp (Builtin.len_ #[29] 3 #[t29]) fun t30=>bt .sub 3 t30 (i6 1) fun t31=>xl w9.drew 29 t27 t31 65 fun t33=>fl w9.drew t1 31 0 3 fun t35=>bt .rem 3 t35 (i6 64) fun t36=>bf .shr 65 t33 t36 fun t37=>bt .eql 65 t37 (Value.int .u64 0) fun t38=>K10 [t38] w9.drew) (K10 [undef] w9.drew)) (fun s11 _d12 w13=>
 zb t24 tr_ (s11.getD 0 undef) fun t39=>K t39 w13))))
theorem ab8 {t0 : Value} {w : World} {K : VW} (h : JC t0 w K) : zd prog kJ #[t0] w K:=
 okC false (.s (.r (rz 2 0 2)) (.s (.s (.r (ra 4 0 4 (.grp 6 false (ri 3 4 4) [9] (ra 2 7 0 (.grp 11 false (ri 8 9 260) [19] (rz 1 17 0)))))) (.c (.s (.r (rz 1 0 0)) (.n)) (.n))) (.s (.r (ra 5 0 4 (.grp 25 false (ri 13 5 278596) [38] (rz 2 18 0)))) (.n)))) func19 rfl (by kernel_rfl) (by kernel_rfl) h
end Go.Proofs.Tryz
end
section
namespace Go.Proofs
open Go.Sh Go.RowKit Go.BM
set_option maxRecDepth 100000
set_option linter.unusedSimpArgs false
set_option linter.unusedVariables false
def WdC (c : List Value) (x : BitVec 64) : Prop:=c = [u64 x]
def RwbC (r : Gh) (c : List Value) (x : Int × List (BitVec 64)) : Prop:=∃ p cap,c = [.int .i64 x.1,.slice p x.2.length cap]∧SlB 1 r WdC (.slice p x.2.length cap) x.2
theorem RwbC.up {r s : Gh} {c : List Value} {x : Int × List (BitVec 64)} (h : RwbC r c x) [le : Le r s] : RwbC s c x:=by
 obtain ⟨p,cap,h1,h2⟩:=h;exact ⟨p,cap,h1,h2.cells⟩
theorem Xq {r : Gh} {p : Option Addr} {n cap : Nat} {l : List (BitVec 64)} (h : SlG 1 r WdC (.slice p n cap) l) {i : Nat} (hi : i<l.length) : ∃ b off,p=some ⟨b,off,none⟩∧n=l.length∧Ob r fun w=>w.cell? ⟨b,off+i,none⟩=some (u64 l[i]):=abp (V:=u64) h hi
theorem vm {W : Int} {ws : List (BitVec 64)} {c : List Value} {w : World} {r : Gh} {K : Value→World→Prop} (hr : Holds r w) (hx : RwbC r c (W,ws))
  (h : ∀ w',Ext w w'→K (.bool (BM.mayB W ws)) w') : zd Tryz.prog Tryz.kJ #[.agg c.toArray] w K:=by
 refine Tryz.ab8 ?_
 unfold Tryz.JC
 obtain ⟨p,cap,rfl,hS⟩:=hx
 have hfew : ws.length≤9223372036854775807:=hS.few
 have S:=St.start hr
 refine S.box fun b1 w1 S=>?_
 have S : StX noX w r w1 [.cell b1 [.int .i64 W,.slice p ws.length cap] 31]:=S
 refine gg_ ?_
 refine zo (c:=decide (1032<W)) (fun _ K2 hK2=>by refine gg_ ?_;exact hK2) ?_
 refine zo (c:=decide ((ws.length : Int)≠(W+63) / 64)) (fun hb K2 hK2=>?_) ?_
 ·simp only [Bool.or_eq_false_iff,decide_eq_false_iff_not] at hb
  refine gg_ ?_
  exact hK2
 refine c_b (fun hb=>?_) (fun hb=>?_)
 ·rw [BM.mayB_false (fun hm=>by
   simp only [Bool.or_eq_true,decide_eq_true_eq] at hb
   have:=hm.1;have:=hm.2.1;have:=hm.2.2.1
   omega)] at h
  exact h _ S.ext
 simp only [Bool.or_eq_false_iff,decide_eq_false_iff_not,Decidable.not_not] at hb
 obtain ⟨⟨h0,h1⟩,h2⟩:=hb
 have S:=S.go (Ext.drew _)
 refine gg_ ?_
 by_cases h3 : W % 64=0
 ·rw [decide_eq_true h3]
  refine zo (c:=true) (fun hc=>by cases hc) ?_
  rw [BM.mayB_true (ae1 (by omega) (by omega) h2 h3)] at h
  exact h _ S.ext
 rw [decide_eq_false h3]
 have hlt : ws.length - 1<ws.length:=by omega
 obtain ⟨b2,o2,rfl,_,hc⟩:=Xq hS.sl hlt
 have hz : (((ws[ws.length - 1] >>> (W % 64).toNat).toNat : Int)=0)↔BM.May W ws:=by
  rw [ae0 (by omega) (by omega) h2 h3 hlt]
  constructor
  ·intro hz;apply BitVec.eq_of_toNat_eq;have h9 : (ws[ws.length - 1] >>> (W % 64).toNat).toNat=0:=by omega
   rw [h9];rfl
  ·intro hz;rw [hz];rfl
 have hE : BM.mayB W ws=decide (((ws[ws.length - 1] >>> (W % 64).toNat).toNat : Int)=0):=by unfold BM.mayB;simp only [← hz]
 rw [hE] at h
 generalize ws[ws.length - 1]=x at hc h
 refine zo (c:=decide (((x >>> (W % 64).toNat).toNat : Int)=0)) (fun _ K2 hK2=>?_) ?_
 ·refine gg_ ?_
  refine zh (by rw [show ((ws.length : Int) - 1).toNat=ws.length - 1 by omega];exact S.at hc) ?_
  refine gg_ ?_
  exact hK2
 exact h _ S.ext
end Go.Proofs
end
section
namespace Go.Proofs
open Go.Sh Go.RowKit
set_option maxRecDepth 100000
set_option linter.unusedSimpArgs false
set_option linter.unusedVariables false
abbrev aam (x : Int) : List Value:=[.int .i64 x]
theorem VP {fid : FuncId} (he : yJ Tryz.prog fid=true) (hok : ∀ {t0 t1 t2 : Value} {w : World} {K : Value→World→Prop},Tryz.ky t0 t1 t2 w K→zd Tryz.prog fid #[t0,t1,t2] w K)
  {g : GrD} {p : PtD} {q : Int} {v : Value} {w : World} {r : Gh} {b1 b2 : Nat} {D0 : Nat→Prop} (hr : Holds r w) (hx : LookG r v g)
  (h1 : Ob r fun w=>w.cell? ⟨b1,0,none⟩=some v) (h2 : Ob r fun w=>w.cell? ⟨b2,0,none⟩=some (.int .i64 q)) (hq : 0≤q) (hp : g.pts[q.toNat]? = some p) (hb : p.args.length≤1000)
  (hD : ∀ d,D0 d→d<w.heap.size∧∀ o,¬ r d o) : Z7 Tryz.prog (.func (.func fid) #[] #[.pointer (some ⟨b1,0,none⟩),.pointer (some ⟨b2,0,none⟩)]) w ((zC p).map aam) D0:=by
 refine ⟨_,_,rfl,he,fun l W J Jx hW hl hlW hJ hJx hround h0=>?_⟩
 have S : StX noX W r W []:=St.start (hr.ext hW)
 refine Calls.mono (hok (t0:=.func (.yield l) #[] #[]) (t1:=.pointer (some ⟨b1,0,none⟩)) (t2:=.pointer (some ⟨b2,0,none⟩)) (K:=fun _ W'=>(∃ D,J (zC p).length D W')∨Jx W') ?_) (fun e W' hh=>?_)
 rotate_left
 ·obtain ⟨v,he,hk⟩:=hh
  exact ⟨⟨v,he⟩,by rwa [List.length_map]⟩
 unfold Tryz.ky
 refine zh (S.at h1) ?_
 refine zh (S.at h2) ?_
 refine Qg (D0:=fun b=>D0 b∨b=l) (J:=fun k D' W1=>∃ D,D'=(fun b=>D b∨b=l)∧J k D W1∧l<W1.heap.size) (Jx:=Jx) S.holds hx hq hp hb ?_ ?_ ⟨D0,rfl,h0,hlW⟩ ?_
 ·rintro d (hd|rfl)
  ·obtain ⟨h3,h4⟩:=hD d hd
   exact ⟨Nat.lt_of_lt_of_le h3 hW.size,h4⟩
  ·exact ⟨hlW,fun o ho=>by have:=hr.lt ho;omega⟩
 ·refine ⟨?_,hJx,?_⟩
  ·rintro k _ W1 W2 ⟨D,rfl,hj,hlt⟩ e
   exact ⟨D,rfl,hJ _ _ _ _ hj e,Nat.lt_of_lt_of_le hlt e.size⟩
  ·rintro k _ W1 x hx ⟨D,rfl,hj,hlt⟩ K1 hK1
   refine acr (YieldC.mono (hround k (aam x) D W1 (by rw [List.getElem?_map,hx];rfl) hj) ?_)
   rintro e W2 ⟨b,rfl,hx2,hb2⟩
   refine ⟨_,rfl,hK1 b W2 hx2 ?_⟩
   cases b with
   |false=>exact hb2
   |true=>
    obtain ⟨D2,hd2,hj2⟩:=hb2
    refine ⟨fun b=>D2 b∨b=l,?_,D2,rfl,hj2,Nat.lt_of_lt_of_le hlt hx2.size⟩
    rintro d (hd|rfl)
    ·exact (hd2 d hd).imp .inl id
    ·exact .inl (.inr rfl)
 ·rintro W' (⟨_,D,rfl,hj,_⟩|hj)
  ·exact .inl ⟨D,hj⟩
  ·exact .inr hj
set_option maxHeartbeats 1000000 in
theorem ZJ {g : GrD} {p : PtD} {q x : Int} {v : Value} {w : World} {r : Gh} {K : Value→World→Prop} (hr : Holds r w) (hx : LookG r v g) (hq : 0≤q) (hp : g.pts[q.toNat]? = some p) (hb : p.args.length≤1000)
  (h : ∀ w',Ext w w'→K (.bool (decide (x ∈ zC p))) w') : zd Tryz.prog Tryz.yY #[v,.int .i64 q,.int .i64 x] w K:=by
 refine Tryz.XU ?_
 unfold Tryz.vT
 obtain ⟨bl,_,_,_,_,_,_,_,_,_,hv,_⟩:=id hx
 subst hv
 have S:=St.start hr
 have hlow:=S.low
 refine S.boxN fun b3 w1 _ S=>?_
 refine S.boxN fun b4 w2 _ S=>?_
 refine S.boxN fun b5 w3 _ S=>?_
 refine S.alN fun b6 w4 _ S=>?_
 have S : StX noX w r w4 [.cell b6 [.bool false] 4,.cell b5 [.int .i64 x] 3,.cell b4 [.int .i64 q] 3,.cell b3 [.pointer (some ⟨bl,0,none⟩)] 57]:=S
 have hb3:=(S.mine (.cell b3 [.pointer (some ⟨bl,0,none⟩)] 57) (by simp) b3 rfl).1.resolve_right id
 have hb4:=(S.mine (.cell b4 [.int .i64 q] 3) (by simp) b4 rfl).1.resolve_right id
 have S:=S.frzAt b3
 have S:=S.frzAt b4
 have S:=S.frzAt b5
 have S : StX noX w (((r.or (Go.Sh.one b3 [.pointer (some ⟨bl,0,none⟩)] 57)).or (Go.Sh.one b4 [.int .i64 q] 3)).or (Go.Sh.one b5 [.int .i64 x] 3)) w4 [.cell b6 [.bool false] 4]:=S
 have h3 : Ob (((r.or (Go.Sh.one b3 [.pointer (some ⟨bl,0,none⟩)] 57)).or (Go.Sh.one b4 [.int .i64 q] 3)).or (Go.Sh.one b5 [.int .i64 x] 3)) fun w=>w.cell? ⟨b3,0,none⟩=some (.pointer (some ⟨bl,0,none⟩)):=fun w' hw'=>by
  have B : Blk w' b3 [.pointer (some ⟨bl,0,none⟩)] 57:=zF w' (hw'.le (h:=inferInstance))
  exact B.cell 0
 have h4 : Ob (((r.or (Go.Sh.one b3 [.pointer (some ⟨bl,0,none⟩)] 57)).or (Go.Sh.one b4 [.int .i64 q] 3)).or (Go.Sh.one b5 [.int .i64 x] 3)) fun w=>w.cell? ⟨b4,0,none⟩=some (.int .i64 q):=fun w' hw'=>by
  have B : Blk w' b4 [.int .i64 q] 3:=zF w' (hw'.le (h:=inferInstance))
  exact B.cell 0
 have h5 : Ob (((r.or (Go.Sh.one b3 [.pointer (some ⟨bl,0,none⟩)] 57)).or (Go.Sh.one b4 [.int .i64 q] 3)).or (Go.Sh.one b5 [.int .i64 x] 3)) fun w=>w.cell? ⟨b5,0,none⟩=some (.int .i64 x):=fun w' hw'=>by
  have B : Blk w' b5 [.int .i64 x] 3:=zF w' (hw'.le (h:=inferInstance))
  exact B.cell 0
 have hx':=hx.up (s:=((r.or (Go.Sh.one b3 [.pointer (some ⟨bl,0,none⟩)] 57)).or (Go.Sh.one b4 [.int .i64 q] 3)).or (Go.Sh.one b5 [.int .i64 x] 3))
 have hlow' : Low w.heap.size (((r.or (Go.Sh.one b3 [.pointer (some ⟨bl,0,none⟩)] 57)).or (Go.Sh.one b4 [.int .i64 q] 3)).or (Go.Sh.one b5 [.int .i64 x] 3)):=inferInstance
 generalize ((r.or (Go.Sh.one b3 [.pointer (some ⟨bl,0,none⟩)] 57)).or (Go.Sh.one b4 [.int .i64 q] 3)).or (Go.Sh.one b5 [.int .i64 x] 3)=r' at S h3 h4 h5 hx' hlow'
 clear hlow
 refine gp_ ?_
 have hD : ∀ d,(fun b=>b=b6) d→d<w4.heap.size∧∀ o,¬ r' d o:=by
  rintro d rfl
  exact ⟨S.dlt (.inl rfl),fun o=>(S.mine (.cell d [.bool false] 4) (by simp) d rfl).2 o⟩
 have hw4 : w.heap.size≤w4.heap.size:=S.x.size
 have hlow4:=S.low
 refine aib ((zC p).map aam) (fun b=>b=b6) (fun k D W=>D=(fun b=>b=b6)∧x ∉ (zC p).take k∧StX noX w r' W [.cell b6 [.bool false] 4]) (fun W=>x ∈ zC p∧StX noX w r' W [.cell b6 [.bool true] 4]) ?_ (VP (by kernel_rfl) (fun h=>Tryz.YL h) S.holds hx' h3 h4 hq hp hb hD) ?_ ?_ ?_ ⟨rfl,by simp,S⟩ ?_ ?_ ?_
 ·rintro b rfl
  exact ⟨_,S.has (.cell b [.bool false] 4) (by simp),rfl⟩
 ·intro y hy
  obtain ⟨z,_,rfl⟩:=List.mem_map.1 hy
  rfl
 ·rintro k D W W' ⟨h1,h2,S⟩ e
  exact ⟨h1,h2,S.nl e hw4⟩
 ·rintro W W' ⟨h1,S⟩ e
  exact ⟨h1,S.nl e hw4⟩
 ·rintro k y D W hy ⟨rfl,hno,S⟩ KR hN hR
  rw [List.getElem?_map,Option.map_eq_some_iff] at hy
  obtain ⟨z,hz,rfl⟩:=hy
  refine ⟨.refl _,fun W9 e9=>?_⟩
  have S:=S.nl e9 hw4
  rw [List.getD_cons_zero]
  refine zh (S.at h5) ?_
  refine gg_ ?_
  refine zm (fun he=>?_) (fun he=>?_)
  ·have R:=S.part
   refine R.stN' (b:=b6) fun w10 R=>?_
   have S2:=S.whole R fun _ h=>h
   refine ⟨⟨R.x.os,R.x.tape,R.x.output,R.x.size,fun k hk hn=>R.x.block k hk fun h=>h.elim hn fun h=>h⟩,hR _ ⟨?_,S2⟩⟩
   rw [← he]
   exact List.mem_of_getElem? hz
  ·refine ⟨.refl _ _,hN _ _ (fun d hd=>.inl hd) ⟨rfl,?_,S⟩⟩
   obtain ⟨hk,hze⟩:=List.getElem?_eq_some_iff.1 hz
   rw [List.take_succ_eq_append_getElem hk,List.mem_append,List.mem_singleton,hze]
   exact fun h=>h.elim hno fun e=>he e.symm
 ·rintro D W ⟨_,hno,S⟩
  rw [List.length_map,List.take_length] at hno
  refine S.stN' (b:=b6) fun w12 S=>?_
  intro w13 e13
  have S:=S.shut e13
  refine S.ce (b:=b6) ?_
  have:=h _ S.ext
  rwa [decide_eq_false hno] at this
 ·rintro W ⟨hin,S⟩
  intro w13 e13
  have S:=S.shut e13
  refine S.ce (b:=b6) ?_
  have:=h _ S.ext
  rwa [decide_eq_true hin] at this
end Go.Proofs
end
section
namespace Go.Sh
end Go.Sh
namespace Go.Proofs
open Go.Sh Go.RowKit
set_option maxRecDepth 100000
set_option linter.unusedSimpArgs false
set_option linter.unusedVariables false
end Go.Proofs
end
section
namespace Go.Proofs
open Go.Sh Go.RowKit
set_option maxRecDepth 100000
set_option linter.unusedSimpArgs false
set_option linter.unusedVariables false
end Go.Proofs
end
section
namespace Go.Proofs
open Go.Sh Go.RowKit
set_option maxRecDepth 100000
set_option linter.unusedSimpArgs false
set_option linter.unusedVariables false
end Go.Proofs
end
section
namespace Go.Proofs.Tryz
open Go.Sh
set_option maxRecDepth 100000
end Go.Proofs.Tryz
end
section
namespace Go.Proofs
open Go.Sh Go.RowKit
set_option maxRecDepth 100000
set_option linter.unusedSimpArgs false
set_option linter.unusedVariables false
end Go.Proofs
end
section
namespace Go.Proofs
open Go.Sh Go.RowKit
set_option maxRecDepth 100000
set_option linter.unusedSimpArgs false
set_option linter.unusedVariables false
end Go.Proofs
end
section
namespace Go.Proofs
open Go.Sh Go.RowKit
set_option maxRecDepth 100000
set_option linter.unusedSimpArgs false
set_option linter.unusedVariables false
end Go.Proofs
end
section
namespace Go.Sh
end Go.Sh
namespace Go.Proofs
open Go.Sh Go.RowKit
set_option maxRecDepth 100000
set_option linter.unusedSimpArgs false
set_option linter.unusedVariables false
end Go.Proofs
end
section
namespace Go.Proofs
open Go.Sh Go.RowKit
set_option maxRecDepth 100000
set_option linter.unusedSimpArgs false
set_option linter.unusedVariables false
end Go.Proofs
end
section
namespace Go.Proofs
set_option linter.unusedSimpArgs false
set_option linter.unusedVariables false
end Go.Proofs
end
section
namespace Go.Proofs
open Go.Sh Go.RowKit
set_option maxRecDepth 100000
set_option linter.unusedSimpArgs false
set_option linter.unusedVariables false
end Go.Proofs
end
section
namespace Go.Proofs
open Go.Sh Go.RowKit
set_option maxRecDepth 100000
set_option linter.unusedSimpArgs false
set_option linter.unusedVariables false
end Go.Proofs
end
section
namespace Go.Proofs.Tryz
open Go.Sh
set_option maxRecDepth 100000
end Go.Proofs.Tryz
end
section
namespace Go.Proofs
open Go.Sh Go.RowKit
set_option maxRecDepth 100000
set_option linter.unusedSimpArgs false
set_option linter.unusedVariables false
end Go.Proofs
end
section
namespace Go.Proofs
open Go.Sh
set_option maxRecDepth 100000
set_option linter.unusedSimpArgs false
set_option linter.unusedVariables false
end Go.Proofs
end
section
namespace Go.Proofs
open Go.Sh
set_option maxRecDepth 100000
set_option linter.unusedSimpArgs false
set_option linter.unusedVariables false
end Go.Proofs
end
section
namespace Go.Proofs
open Go.Sh
set_option maxRecDepth 100000
set_option linter.unusedSimpArgs false
set_option linter.unusedVariables false
end Go.Proofs
end
section
namespace Go.Sh
open Go.RowKit Go.MapKept
set_option linter.unusedVariables false
def mpI (P : Program) (t : TypeId) : Option (TypeId × TypeId):=match P.underlying t with
 |some (.map k e)=>(match P.underlying k with|some (.int .i64)=>some (k,e)|_=>none)
 |_=>none
theorem abt {P : Program} {t k e : TypeId} (h : mpI P t=some (k,e)) : P.underlying t=some (.map k e)∧P.underlying k=some (.int .i64):=by
 unfold mpI at h
 split at h
 ·rename_i k' e' h1
  split at h
  ·rename_i h2
   cases h;exact ⟨h1,h2⟩
  ·cases h
 ·cases h
def ahI (m : MapEntry) (x : Int × Value) : Prop:=m.key = .int .i64 x.1∧m.val=x.2
inductive EntsI : List MapEntry→List (Int × Value)→Prop
 |nil : EntsI [] []
 |cons {m : MapEntry} {x : Int × Value} {l : List MapEntry} {M : List (Int × Value)} : ahI m x→EntsI l M→EntsI (m::l) (x::M)
theorem EntsI.snoc {l : List MapEntry} {M : List (Int × Value)} {m : MapEntry} {x : Int × Value} (h : EntsI l M) (hm : ahI m x) : EntsI (l ++ [m]) (M ++ [x]):=by
 induction h with
 |nil=>exact .cons hm .nil
 |cons h _ ih=>exact .cons h ih
def kR (M : List (Int × Value)) (o : Obj) : Prop:=∃ es c,o = .map es c∧EntsI es.toList M
theorem VQ {x : Int} {kd : IntKind} {l : List MapEntry} {M : List (Int × Value)} (h : EntsI l M) : ∀ {i : Nat},∃ o,Instr.findNow (.int kd) (.int .i64 x) l i=some o∧o.map (·.2)=M.lookup x:=by
 induction h with
 |nil=>intro i;exact ⟨none,rfl,rfl⟩
 |@cons m y l M hm h ih=>
  intro i
  obtain ⟨hk,hv⟩:=hm
  obtain ⟨y1,y2⟩:=y
  by_cases hx : x=y1
  ·subst hx
   refine ⟨some (i,m.val),?_,?_⟩
   ·rw [Instr.findNow,hk];simp [Instr.sameNow]
   ·rw [List.lookup_cons,show (x == x)=true by simp,hv];rfl
  ·obtain ⟨o,h1,h2⟩:=ih (i:=i+1)
   have hb : (x == y1)=false:=by simpa using hx
   refine ⟨o,?_,?_⟩
   ·rw [Instr.findNow,hk];simp [Instr.sameNow,hb,h1]
   ·rw [List.lookup_cons,hb,h2]
class abu (b : Nat) (L : List Asr) (Q : outParam (Obj→Prop)) (f : outParam (Asr→List Asr)) : Prop where
 h : ∃ p q,L=p ++ .obj b Q::q∧∀ y,f y=p++y::q
instance {b : Nat} {Q : Obj→Prop} {L : List Asr} : abu b (.obj b Q::L) Q fun y=>y::L:=⟨[],L,rfl,fun _=>rfl⟩
instance (priority:=low) {b : Nat} {Q : Obj→Prop} {x : Asr} {L : List Asr} {f : Asr→List Asr} [h : abu b L Q f] : abu b (x::L) Q fun y=>x::f y:=⟨by
 obtain ⟨p,q,h1,h2⟩:=h.h
 exact ⟨x::p,q,by rw [h1];rfl,fun c'=>by rw [h2];rfl⟩⟩
section
variable {P : Program} {X : Nat→Prop} {w0 w : World} {r : Gh} {L : List Asr} {t k e : TypeId} {b : Nat} {M : List (Int × Value)} {f : Asr→List Asr}
theorem StX.mkMapI (S : StX X w0 r w L) {K : Value→World→Prop} (h : ∀ b w',StX X w0 r w' (.obj b (kR [])::L)→K (.map (some b)) w') : opW P w (Instr.makeMap t none) K:=
 S.mkMap fun b w' S'=>h b w' ⟨S'.x,S'.holds,fun x hx=>by
  rcases List.mem_cons.1 hx with rfl|hx
  ·obtain ⟨o,h1,h2,rfl⟩:=S'.has _ List.mem_cons_self
   exact ⟨_,h1,h2,_,_,rfl,.nil⟩
  ·exact S'.has x (List.mem_cons_of_mem _ hx),fun x hx=>by
  rcases List.mem_cons.1 hx with rfl|hx
  ·exact S'.mine (.obj b (· = .map #[] 0)) List.mem_cons_self
  ·exact S'.mine x (List.mem_cons_of_mem _ hx),by
  have:=S'.apart
  rw [List.pairwise_cons] at this ⊢
  exact this⟩
theorem StX.mapAddI (S : StX X w0 r w L) {x : Int} {v : Value} [h0 : abu b L (kR M) f] (ht : mpI P t=some (k,e)) (hn : M.lookup x=none) {K : World→Prop}
  (h : ∀ w',StX X w0 r w' (f (.obj b (kR (M ++ [(x,v)]))))→K w') : opU P w (Instr.mapUpdate t (.map (some b)) (.int .i64 x) v) K:=by
 obtain ⟨ht,hk⟩:=abt ht
 obtain ⟨p,q,e1,e2⟩:=h0.h
 obtain ⟨o,hb,_,es,c,rfl,hE⟩:=S.has (.obj b (kR M)) (by rw [e1];simp)
 obtain ⟨o,h1,h2⟩:=VQ (x:=x) (kd:=.i64) hE (i:=0)
 have h3 : o=none:=by
  rw [hn] at h2
  cases o with
  |none=>rfl
  |some y=>cases h2
 subst h3
 have hf:=run_findKey (w:=w) hk h1
 refine ⟨{ w with heap:=w.heap.setIfInBounds b (.map (es.push { key:=.int .i64 x,val:=v,born:=c }) (c+1)) },?_,h _ ?_⟩
 ·simp [Instr.mapUpdate,run_underlying ht,MapKept.run_getObj_map hb,run_checkKey (w:=w) hk (k:=.int .i64 x) rfl false 9999,hf,MapKept.run_setObj_map _ hb,Result.andThen]
 ·obtain ⟨a1,a2⟩:=heap_set hb (o':=.map (es.push { key:=.int .i64 x,val:=v,born:=c }) (c+1))
  rw [e2]
  rw [e1] at S
  exact S.turn (x:=.obj b (kR M)) (y:=.obj b (kR (M ++ [(x,v)]))) ⟨rfl,rfl,rfl,by simp,fun k _ hk=>a2 k hk⟩ ⟨_,a1,rfl,_,_,rfl,by rw [Array.toList_push];exact hE.snoc ⟨rfl,rfl⟩⟩ fun k hk=>.inl hk
theorem StX.mapGetI (S : StX X w0 r w L) {x : Int} {z : Value} [h0 : abu b L (kR M) f] (ht : mpI P t=some (k,e)) (hz : zr1 P e=some z) {K : Value→Prop} (h : K ((M.lookup x).getD z)) :
  opQ P w (Instr.lookup t (.map (some b)) (.int .i64 x) false) K:=by
 obtain ⟨ht,hk⟩:=abt ht
 obtain ⟨p,q,e1,e2⟩:=h0.h
 obtain ⟨o,hb,_,es,c,rfl,hE⟩:=S.has (.obj b (kR M)) (by rw [e1];simp)
 obtain ⟨o,h1,h2⟩:=VQ (x:=x) (kd:=.i64) hE (i:=0)
 refine ⟨_,fun w' ex=>?_,h⟩
 have hb' : w'.heap[b]? = some (.map es c):=(ex.block b (Array.getElem?_eq_some_iff.1 hb).1).trans hb
 have hf:=run_findKey (w:=w') hk h1
 rw [← h2]
 cases o with
 |none=>simp [Instr.lookup,run_underlying ht,MapKept.run_getObj_map hb',run_checkKey (w:=w') hk (k:=.int .i64 x) rfl _ 9999,hf,VF hz,Result.andThen]
 |some y=>simp [Instr.lookup,run_underlying ht,MapKept.run_getObj_map hb',run_checkKey (w:=w') hk (k:=.int .i64 x) rfl _ 9999,hf,Result.andThen]
end
end Go.Sh
end
section
namespace Go.Proofs
open Go.Sh Go.RowKit
set_option maxRecDepth 100000
set_option linter.unusedSimpArgs false
set_option linter.unusedVariables false
inductive WmG (s : Gh) : List (Int × Value)→zK→Prop
 |nil : WmG s [] []
 |cons {p : Int} {v : Value} {w : List Int} {E : List (Int × Value)} {M : zK} : SlG 1 s z6 v w→w≠[]→WmG s E M→WmG s ((p,v)::E) ((p,w)::M)
theorem WmG.up {s t : Gh} {E : List (Int × Value)} {M : zK} (h : WmG s E M) [l : Le s t] : WmG t E M:=by
 induction h with
 |nil=>exact .nil
 |cons h1 h2 _ ih=>exact .cons h1.cells h2 ih
theorem WmG.snoc {s : Gh} {E : List (Int × Value)} {M : zK} {p : Int} {v : Value} {w : List Int} (h : WmG s E M) (h1 : SlG 1 s z6 v w) (h2 : w≠[]) : WmG s (E ++ [(p,v)]) (M ++ [(p,w)]):=by
 induction h with
 |nil=>exact .cons h1 h2 .nil
 |cons a b _ ih=>exact .cons a b ih
theorem WmG.look {s : Gh} {E : List (Int × Value)} {M : zK} (h : WmG s E M) (p : Int) : (M.lookup p=none∧E.lookup p=none)∨∃ w b off cap,M.lookup p=some w∧w≠[]∧E.lookup p=some (.slice (some ⟨b,off,none⟩) w.length cap)∧SlG 1 s z6 (.slice (some ⟨b,off,none⟩) w.length cap) w:=by
 induction h with
 |nil=>exact .inl ⟨rfl,rfl⟩
 |@cons p' v w E M h1 h2 _ ih=>
  by_cases e : p=p'
  ·subst e
   obtain ⟨q,cap,rfl,_,_⟩:=h1.shape
   obtain ⟨b,off,rfl,_,_⟩:=yi h1 (i:=0) (List.length_pos_iff.2 h2)
   exact .inr ⟨w,b,off,cap,by rw [List.lookup_cons];simp,h2,by rw [List.lookup_cons];simp,h1⟩
  ·have hb : (p == p')=false:=by simpa using e
   rw [List.lookup_cons,List.lookup_cons,hb]
   exact ih
theorem afE {wq : List Int} {st : zK × List Int} {p : Int} : st.1 <+: (zP wq st p).1:=by
 rw [zP];split
 ·exact List.prefix_refl _
 ·exact List.prefix_append _ _
theorem Xr {wq : List Int} : ∀ {l : List Int} {st : zK × List Int},st.1 <+: (l.foldl (zP wq) st).1
 |[],st=>List.prefix_refl _
 |p::l,st=>afE.trans Xr
theorem afF {n : zD} {so : List Int→List Int} {W : List Int} {s : Int} {M : zK} {l : List Int} {q : Int} {st : zK × List Int} : rndW n so W s M (l ++ [q]) st=if q≠s∧q ∈ W then rndW n so W s M l st else (so (nxt n q)).foldl (zP (getW M q)) (rndW n so W s M l st):=by
 rw [rndW,List.foldl_append];rfl
theorem acK {n : zD} {so : List Int→List Int} {W : List Int} {s : Int} {M : zK} : ∀ {l : List Int} {st : zK × List Int},st.1 <+: (rndW n so W s M l st).1
 |[],st=>List.prefix_refl _
 |q::l,st=>by
  rw [rndW,List.foldl_cons]
  refine List.IsPrefix.trans ?_ (acK (l:=l))
  split
  ·exact List.prefix_refl _
  ·exact Xr
theorem afG {M N : zK} {p : Int} (h : M <+: N) (hs : (M.lookup p).isSome=true) : N.lookup p=M.lookup p:=by
 obtain ⟨t,rfl⟩:=h
 rw [List.lookup_append]
 cases hm : M.lookup p with
 |none=>rw [hm] at hs;cases hs
 |some w=>rfl
theorem agd : Jt sortI:=fun l=>⟨by
  have:=List.pairwise_mergeSort (le:=fun x y : Int=>decide (x≤y)) (by intro a b c h1 h2;simp only [decide_eq_true_eq] at *;omega) (by intro a b;simp only [Bool.or_eq_true,decide_eq_true_eq];omega) l
  exact this.imp fun h=>by simpa using h,
 fun x=>List.mem_mergeSort⟩
theorem mpW : mpI Tryz.prog 118=some (3,50):=by kernel_rfl
theorem abv : zr1 Tryz.prog 50=some (.slice none 0 0):=by kernel_rfl
noncomputable def okW (u : UnD) (n a b : Int) (W : List Int) : Bool:=!((decide (fnE u n≠0) || !decide (∀ x ∈ [a,b],isN (netU u n) x)) || !decide (∀ x ∈ W,isN (netU u n) x))
set_option maxHeartbeats 4000000 in
theorem adv {u : UnD} {n a b : Int} {W : List Int} {v vw : Value} {w : World} {r : Gh} {K : Value→World→Prop} (hr : Holds r w) (hu : UnG r v u) (hWs : SlG 1 r z6 vw W) (hWf : W.length≤1000000)
  (h : ∀ v' s w',Ext w w'→New w s w'→SlG 1 s z6 v' (if okW u n a b W=true then (wayE (netU u n) a b W).getD [] else [])→K (.tuple #[v',.bool (okW u n a b W&&(wayE (netU u n) a b W).isSome),.int .i64 (if okW u n a b W=true then 0 else 2)]) w') :
  zd Tryz.prog Tryz.Z9 #[v,.int .i64 n,.int .i64 a,.int .i64 b,vw] w K:=by
 refine Tryz.ab5 ?_
 unfold Tryz.Jv
 have hu0:=hu
 obtain ⟨p0,cap0,vf,rfl,_,_,hst,hsl,hfn⟩:=hu
 obtain ⟨qf,capf,rfl,_,_⟩:=hfn.sl.shape
 have S:=St.start hr
 refine S.box fun b3 w1 S=>?_
 have S : StX noX w r w1 [.cell b3 [.slice p0 u.ss.length cap0,.slice qf u.fs.length capf,.int .i64 u.mn] 25]:=S
 refine S.ldB (b:=b3) ?_ rfl
 refine aew S.holds hu0 fun vn sn w2 e2 n2 hnet=>?_
 obtain ⟨S,_,a2⟩:=S.tell e2 n2
 have S:=S.tl
 refine gS_ ?_
 refine adR (c:=!decide (∀ x ∈ [a,b],isN (netU u n) x)) (fun w'=>StX noX w (r.or sn) w' []) (fun _=>S) (fun hb K2 hK2=>?_) fun w3 S=>?_
 ·have hE : fnE u n=0:=by simpa using hb
  obtain ⟨hlt,he,hF⟩:=vd hE
  obtain ⟨_,hN⟩:=hnet hE
  rw [← he] at hN
  refine S.lit (e:=3) (cs:=[.int .i64 a,.int .i64 b]) (by kernel_rfl) fun b5 w3 S=>?_
  obtain ⟨S,hs5,_⟩:=S.litNew b5 (sz:=1) (R:=z6) (l:=[a,b]) (yn (c:=[.int .i64 a]) rfl rfl (yp rfl rfl)) (by decide)
  have hs5 : SlG 1 (Go.Sh.one b5 [.int .i64 a,.int .i64 b] 3) z6 (.slice (some ⟨b5,0,none⟩) 2 2) [a,b]:=hs5
  have S : StX noX w ((r.or sn).or (Go.Sh.one b5 [.int .i64 a,.int .i64 b] 3)) w3 []:=S
  refine agc S.holds hN.up hs5.cells (by simp) fun w4 e4=>?_
  have S:=S.go e4
  refine gp_ ?_
  exact hK2 _ (S.to _)
 refine xp (c:=!decide (∀ x ∈ W,isN (netU u n) x)) (fun hb K2 hK2=>?_) fun w4 e4=>?_
 ·rw [Bool.or_eq_false_iff] at hb
  have hE : fnE u n=0:=by simpa using hb.1
  obtain ⟨hlt,he,hF⟩:=vd hE
  obtain ⟨_,hN⟩:=hnet hE
  rw [← he] at hN
  refine agc S.holds hN.up hWs.cells hWf fun w5 e5=>?_
  refine gp_ ?_
  exact hK2 _ e5
 have S:=S.go e4
 have hok : okW u n a b W = !((decide (fnE u n≠0) || !decide (∀ x ∈ [a,b],isN (netU u n) x)) || !decide (∀ x ∈ W,isN (netU u n) x)):=rfl
 refine c_b (fun hb=>?_) (fun hb=>?_)
 ·rw [hb] at hok
  rw [hok] at h
  exact h _ nothing _ S.ext New.nothing SlG.nil
 rw [hb] at hok
 rw [hok] at h
 simp only [Bool.or_eq_false_iff,decide_eq_false_iff_not,Decidable.not_not,Bool.not_eq_false',decide_eq_true_eq,ne_eq] at hb
 obtain ⟨⟨hE,hab⟩,hWN⟩:=hb
 obtain ⟨hlt,he,hF⟩:=vd hE
 obtain ⟨_,hN⟩:=hnet hE
 rw [← he] at hN
 have hfew:=hF.few
 have haN:=hab a (by simp)
 have hbN:=hab b (by simp)
 generalize netU u n=nn at *
 clear hnet hE he hlt hst hfn hu0
 refine S.mkMapI fun bm w5 S=>?_
 refine S.lit (e:=3) (cs:=[.int .i64 a]) (by kernel_rfl) fun b6 w6 S=>?_
 obtain ⟨S,hs6,ha6⟩:=S.litNew b6 (sz:=1) (R:=z6) (l:=[a]) (yp rfl rfl) (by decide)
 refine S.mapAddI mpW (by rfl) fun w7 S=>?_
 refine S.lit (e:=3) (cs:=[.int .i64 a]) (by kernel_rfl) fun b7 w8 S=>?_
 obtain ⟨S,hs7,ha7⟩:=S.litNew b7 (sz:=1) (R:=z6) (l:=[a]) (yp rfl rfl) (by decide)
 have S : StX noX w ((r.or sn).or ((Go.Sh.one b6 [.int .i64 a] 3).or (Go.Sh.one b7 [.int .i64 a] 3))) w8 [.obj bm (kR [(a,.slice (some ⟨b6,0,none⟩) 1 1)])]:=S.reGh
 have hs6 : SlG 1 (Go.Sh.one b6 [.int .i64 a] 3) z6 (.slice (some ⟨b6,0,none⟩) 1 1) [a]:=hs6
 have hs7 : SlG 1 (Go.Sh.one b7 [.int .i64 a] 3) z6 (.slice (some ⟨b7,0,none⟩) 1 1) [a]:=hs7
 have ha0:=ha6.or' ha7
 have hE0 : WmG ((Go.Sh.one b6 [.int .i64 a] 3).or (Go.Sh.one b7 [.int .i64 a] 3)) [(a,.slice (some ⟨b6,0,none⟩) 1 1)] [(a,[a])]:=.cons hs6.cells (by simp) .nil
 have hl0 : SlG 1 ((Go.Sh.one b6 [.int .i64 a] 3).or (Go.Sh.one b7 [.int .i64 a] 3)) z6 (.slice (some ⟨b7,0,none⟩) 1 1) [a]:=hs7.cells
 have hF0:=Fw.start (n:=nn) (W:=W) haN
 generalize (Go.Sh.one b6 [.int .i64 a] 3).or (Go.Sh.one b7 [.int .i64 a] 3)=s0 at S ha0 hE0 hl0
 clear hs6 hs7 ha6 ha7
 refine zj (ι:=Value × Gh × List (Int × Value) × zK × List Int × Nat) (fun i=>[i.1]) (fun i w'=>Fw nn W a i.2.2.2.2.2 i.2.2.2.1 i.2.2.2.2.1∧Above w i.2.1∧SlG 1 i.2.1 z6 i.1 i.2.2.2.2.1∧WmG i.2.1 i.2.2.1 i.2.2.2.1∧i.2.2.2.2.1.length≤nn.length∧(i.2.2.2.2.1≠[]→i.2.2.2.2.2+1≤i.2.2.2.1.length)∧
   StX noX w ((r.or sn).or i.2.1) w' [.obj bm (kR i.2.2.1)])
  (fun i=>2*(nn.length - i.2.2.2.1.length)+(if i.2.2.2.2.1 = [] then 0 else 1)) (.slice (some ⟨b7,0,none⟩) 1 1,s0,[(a,.slice (some ⟨b6,0,none⟩) 1 1)],[(a,[a])],[a],0) rfl ⟨hF0,ha0,hl0,hE0,hF.pos,fun _=>Nat.le_refl _,S⟩ ?_
 repeat clear S
 clear hF0 ha0 hl0 hE0
 rintro ⟨vl,s,E,M,L,k⟩ d w9 ⟨hFw,ha,hL,hEM,hLf,hkM,S⟩ K18 hK18
 simp only at hFw ha hL hEM hLf hkM S ⊢
 rw [List.getD_cons_zero]
 have hMf:=hFw.few
 obtain ⟨pl,capl,rfl,_,_⟩:=hL.shape
 refine gg_ ?_
 have hnone : ∀ {K : Value→Prop},K (.bool (M.lookup b).isNone)→opQ Tryz.prog w9 (Instr.lookup 118 (.map (some bm)) (.int .i64 b) false) fun t57=>opP Tryz.prog (zA .eql 50 true t57 (.slice none 0 0)) K:=fun {K} hK=>by
  refine S.mapGetI mpW abv ?_
  rcases hEM.look b with ⟨h1,h2⟩|⟨wl,bb,oo,cc,h1,_,h2,_⟩
  ·rw [h2,Option.getD_none]
   rw [h1] at hK
   refine gp_ ?_
   exact hK
  ·rw [h2,Option.getD_some]
   rw [h1] at hK
   refine gp_ ?_
   exact hK
 refine zi (c:=(M.lookup b).isNone) (fun _ K2 hK2=>hnone hK2) ?_
 clear hnone
 refine c_b (fun hgo=>?_) (fun hend=>?_)
 ·simp only [Bool.and_eq_true,decide_eq_true_eq] at hgo
  have hLne : L≠[]:=fun e=>by rw [e] at hgo;simp at hgo
  have hk1:=hkM hLne
  obtain ⟨hFw2,hlen2⟩:=hFw.next hF.ok agd
  have hMf2:=hFw2.few
  refine gg_ ?_
  refine zj (ι:=Value × Nat × Gh × List (Int × Value)) (fun i=>[i.1,.int .i64 (i.2.1 : Nat)]) (fun i w'=>i.2.1≤L.length∧Above w i.2.2.1∧WmG i.2.2.1 i.2.2.2 (rndW nn sortI W a M (L.take i.2.1) (M,[])).1∧(rndW nn sortI W a M (L.take i.2.1) (M,[])).2.length≤2*i.2.1∧(∀ b o,s b o→i.2.2.1 b o)∧
    StX noX w ((r.or sn).or i.2.2.1) w' [.row i.1 3 1 (rndW nn sortI W a M (L.take i.2.1) (M,[])).2.length (ints (rndW nn sortI W a M (L.take i.2.1) (M,[])).2),.obj bm (kR i.2.2.2)])
   (fun i=>L.length - i.2.1) (.slice none 0 0,0,s,E) rfl ⟨Nat.zero_le _,ha,hEM,Nat.zero_le _,fun _ _ h=>h,S.ownNil 3 1⟩ ?_
  repeat clear S
  rintro ⟨vx,i,s2,E2⟩ d w10 ⟨hi,ha2',hEM2,hnl,hsub,S⟩ K26 hK26
  simp only at hi ha2' hEM2 hnl hsub S ⊢
  simp only [List.getD_cons_zero,List.getD_cons_succ]
  have leS : Le s s2:=⟨hsub⟩
  refine gg_ ?_
  refine zm (fun hlti=>?_) (fun hge=>?_)
  ·have hlti : i<L.length:=by omega
   obtain ⟨bl,ol,hpl,_,hcl⟩:=yi hL hlti
   subst hpl
   have htk : L.take (i+1)=L.take i ++ [L[i]]:=List.take_succ_eq_append_getElem hlti
   have hqL : L[i] ∈ L:=List.getElem_mem hlti
   obtain ⟨hqM,hql⟩:=hFw.lenL hqL
   have hqN:=(hFw.min _ _ hqM).1
   generalize L[i]=q at hcl htk hqL hqM hql hqN
   have q0:=hqN.1;have q1:=hqN.2
   have hpre : M <+: (rndW nn sortI W a M (L.take i) (M,[])).1:=acK (st:=(M,[]))
   refine zq (fun x w'=>∃ vx' s3 E3,x = [vx']∧Above w s3∧WmG s3 E3 (rndW nn sortI W a M (L.take (i+1)) (M,[])).1∧(rndW nn sortI W a M (L.take (i+1)) (M,[])).2.length≤2*(i+1)∧(∀ b o,s b o→s3 b o)∧
    StX noX w ((r.or sn).or s3) w' [.row vx' 3 1 (rndW nn sortI W a M (L.take (i+1)) (M,[])).2.length (ints (rndW nn sortI W a M (L.take (i+1)) (M,[])).2),.obj bm (kR E3)]) (fun K30 hK30=>?_) ?_
   ·refine gg_ ?_
    refine zh (by rw [Int.toNat_natCast];exact S.at hcl) ?_
    refine gg_ ?_
    refine zi (c:=decide (q ∈ W)) (fun _ K2 hK2=>Vf S.holds hWs.cells (Nat.le_trans hWf (by decide)) hK2) ?_
    rw [htk,afF] at hK30
    refine c_b (fun hsk=>?_) (fun hsk=>?_)
    ·simp only [Bool.and_eq_true,decide_eq_true_eq] at hsk
     rw [if_pos hsk] at hK30
     exact hK30 _ _ ⟨vx,s2,E2,rfl,ha2',hEM2,by omega,hsub,S⟩
    ·rw [if_neg (by simpa using hsk)] at hK30
     generalize rndW nn sortI W a M (L.take i) (M,[])=st at hK30 hEM2 hnl S hpre
     obtain ⟨pn,capn,rfl,_,_⟩:=hN.sl.shape
     obtain ⟨bn,on,un,hpn,_,hcn,hun⟩:=XJ hN (i:=q.toNat) (by omega)
     subst hpn
     have hnx : nxt nn q=nn[q.toNat]:=aen hqN
     rw [hnx] at hK30
     have hn2 : nn[q.toNat].length≤2:=hF.nar _ (List.getElem_mem _)
     generalize nn[q.toNat]=ln at hK30 hun hn2
     refine gg_ ?_
     refine zh (S.at hcn) ?_
     refine Qd S hun.sl.cells (by omega) fun v78 w11 S=>?_
     refine YB S (by omega) fun w12 S=>?_
     have hsl2 : (sortI ln).length=ln.length:=qy
     rw [← hsl2] at S
     obtain ⟨s5,T,hs5,_,ha5⟩:=S.doneRow yB (by decide) rfl
     repeat clear S
     obtain ⟨p78,c78,rfl,_,_⟩:=hs5.shape
     have S:=T
     clear T
     have ha5' : Above w s5:=fun b o ho=>(ha5 b o ho).resolve_right id
     refine gg_ ?_
     generalize sortI ln=l2 at hK30 hs5 hsl2
     have hMq : M.lookup q=some (getW M q):=(qg hFw.nod).1 hqM
     generalize getW M q=wq at hK30 hMq hql
     refine zj (ι:=Value × Nat × Gh × List (Int × Value)) (fun i=>[i.1,.int .i64 (i.2.1 : Nat)]) (fun j w'=>j.2.1≤l2.length∧Above w j.2.2.1∧WmG j.2.2.1 j.2.2.2 ((l2.take j.2.1).foldl (zP wq) st).1∧((l2.take j.2.1).foldl (zP wq) st).2.length≤2*i+j.2.1∧(∀ b o,s b o→j.2.2.1 b o)∧
       StX noX w (((r.or sn).or s5).or j.2.2.1) w' [.row j.1 3 1 ((l2.take j.2.1).foldl (zP wq) st).2.length (ints ((l2.take j.2.1).foldl (zP wq) st).2),.obj bm (kR j.2.2.2)])
      (fun j=>l2.length - j.2.1) (vx,0,s2,E2) rfl ⟨Nat.zero_le _,ha2',hEM2,hnl,hsub,S.less (fun b o x=>Or.elim x (fun x=>Or.elim x (fun x=>.inl (.inl x)) .inr) fun x=>.inl (.inr x)) (List.Sublist.refl _)⟩ ?_
     repeat clear S
     rintro ⟨vy,j,s6,E6⟩ d w13 ⟨hj,ha6,hEM6,hnl6,hsub6,S⟩ K41 hK41
     simp only at hj ha6 hEM6 hnl6 hsub6 S ⊢
     simp only [List.getD_cons_zero,List.getD_cons_succ]
     have leS6 : Le s s6:=⟨hsub6⟩
     refine gg_ ?_
     refine zm (fun hltj=>?_) (fun hgej=>?_)
     ·have hltj : j<l2.length:=by omega
      obtain ⟨b78,o78,hp78,_,hc78⟩:=yi hs5 hltj
      subst hp78
      have hst : (l2.take (j+1)).foldl (zP wq) st=zP wq ((l2.take j).foldl (zP wq) st) l2[j]:=by
       rw [List.take_succ_eq_append_getElem hltj,List.foldl_append];rfl
      have hpre6 : M <+: ((l2.take j).foldl (zP wq) st).1:=hpre.trans Xr
      generalize (l2.take j).foldl (zP wq) st=st6 at hst hEM6 hnl6 S hpre6
      generalize l2[j]=y at hst hc78
      refine zq (fun x w'=>∃ vy' s7 E7,x = [vy']∧Above w s7∧WmG s7 E7 (zP wq st6 y).1∧(zP wq st6 y).2.length≤2*i+(j+1)∧(∀ b o,s b o→s7 b o)∧
       StX noX w (((r.or sn).or s5).or s7) w' [.row vy' 3 1 (zP wq st6 y).2.length (ints (zP wq st6 y).2),.obj bm (kR E7)]) (fun K45 hK45=>?_) ?_
      ·refine gg_ ?_
       refine zh (by rw [Int.toNat_natCast];exact S.at hc78) ?_
       refine S.mapGetI mpW abv ?_
       rcases hEM6.look y with ⟨h1,h2⟩|⟨wl,bb,oo,cc,h1,_,h2,_⟩
       ·rw [h2,Option.getD_none]
        have e : zP wq st6 y=(st6.1 ++ [(y,wq ++ [y])],st6.2 ++ [y]):=by rw [zP,h1];rfl
        rw [e] at hK45
        refine gp_ ?_
        refine c_t rfl ?_
        refine S.mapGetI mpW abv ?_
        have hq6 : st6.1.lookup q=some wq:=by rw [afG hpre6 (by rw [hMq];rfl)];exact hMq
        rcases hEM6.look q with ⟨g1,_⟩|⟨wl,bb,oo,cc,g1,_,g2,g3⟩
        ·rw [hq6] at g1;cases g1
        rw [hq6] at g1
        cases g1
        rw [g2,Option.getD_some]
        refine Qd S g3.cells (by omega) fun v96 w14 S=>?_
        refine S.lit (e:=3) (cs:=[.int .i64 y]) (by kernel_rfl) fun b8 w15 S=>?_
        refine S.ap (v:=v96) (m':=1) (Sl.blk (S.blk b8)) (fun v99 w16 S=>?_) (by omega)
        have S:=S.drop b8
        have S : StX noX w (((r.or sn).or s5).or s6) w16 [.row v99 3 1 (wq ++ [y]).length (ints (wq ++ [y])),.row vy 3 1 st6.2.length (ints st6.2),.obj bm (kR E6)]:=by
         rw [xF,List.length_append];exact S
        obtain ⟨s7,S,hs7,_,ha7⟩:=S.doneRow yB (by decide) rfl
        have hE6n : E6.lookup y=none:=h2
        refine S.mapAddI mpW hE6n fun w17 S=>?_
        refine S.lit (e:=3) (cs:=[.int .i64 y]) (by kernel_rfl) fun b9 w18 S=>?_
        refine S.ap (v:=vy) (m':=1) (Sl.blk (S.blk b9)) (fun v5 w19 S=>?_) (by omega)
        have S:=S.drop b9
        refine hK45 _ _ ⟨v5,s6.or s7,E6 ++ [(y,v99)],rfl,ha6.or' fun b o ho=>(ha7 b o ho).resolve_right id,(hEM6.up.snoc hs7.cells (by simp)),by rw [List.length_append,List.length_singleton];omega,fun b o ho=>.inl (hsub6 b o ho),?_⟩
        have S:=S.reGh
        rw [List.length_append,xF];exact S
       ·rw [h2,Option.getD_some]
        have e : zP wq st6 y=st6:=by rw [zP,h1];rfl
        rw [e] at hK45
        refine gp_ ?_
        refine c_f rfl ?_
        exact hK45 _ _ ⟨vy,s6,E6,rfl,ha6,hEM6,by omega,hsub6,S⟩
      rintro x w14 ⟨vy',s7,E7,rfl,i1,i2,i3,i4,S⟩ d
      simp only [List.getD_cons_zero]
      refine gp_ ?_
      refine hK41 (vy',j+1,s7,E7) _ ⟨hltj,i1,?_,?_,i4,?_⟩ (by show l2.length - (j+1)<l2.length - j;omega)
      ·show WmG s7 E7 ((l2.take (j+1)).foldl (zP wq) st).1
       rw [hst];exact i2
      ·show ((l2.take (j+1)).foldl (zP wq) st).2.length≤2*i+(j+1)
       rw [hst];exact i3
      ·show StX noX w (((r.or sn).or s5).or s7) w14 [.row vy' 3 1 ((l2.take (j+1)).foldl (zP wq) st).2.length (ints ((l2.take (j+1)).foldl (zP wq) st).2),.obj bm (kR E7)]
       rw [hst];exact S
     have hje : j=l2.length:=by omega
     subst hje
     rw [List.take_length] at hEM6 hnl6 S
     clear hK41
     refine hK30 _ _ ⟨vy,s5.or s6,E6,rfl,ha5'.or' ha6,hEM6.up,by omega,fun b o ho=>.inr (hsub6 b o ho),S.reGh⟩
   rintro x w11 ⟨vx',s3,E3,rfl,i1,i2,i3,i4,S⟩ d
   simp only [List.getD_cons_zero]
   refine gp_ ?_
   exact hK26 (vx',i+1,s3,E3) _ ⟨hlti,i1,i2,i3,i4,S⟩ (by show L.length - (i+1)<L.length - i;omega)
  have hie : i=L.length:=by omega
  subst hie
  rw [List.take_length] at hEM2 hnl S
  clear hK26
  obtain ⟨s4,S,hs4,_,ha4⟩:=S.doneRow yB (by decide) rfl
  refine hK18 (vx,s2.or s4,E2,_,_,k+1) _ ⟨hFw2,ha2'.or' fun b o ho=>(ha4 b o ho).resolve_right id,hs4.cells,hEM2.up,(show (rndW nn sortI W a M L (M,[])).2.length≤nn.length by omega),fun hne=>?_,S.reGh⟩ ?_
  ·have : 0<(rndW nn sortI W a M L (M,[])).2.length:=List.length_pos_iff.2 hne
   show k+1+1≤(rndW nn sortI W a M L (M,[])).1.length
   omega
  ·show 2*(nn.length - (rndW nn sortI W a M L (M,[])).1.length)+(if (rndW nn sortI W a M L (M,[])).2 = [] then 0 else 1)<2*(nn.length - M.length)+(if L = [] then 0 else 1)
   rw [if_neg hLne]
   by_cases e : (rndW nn sortI W a M L (M,[])).2 = []
   ·rw [if_pos e];rw [e] at hlen2;simp only [List.length_nil] at hlen2;omega
   ·rw [if_neg e]
    have : 0<(rndW nn sortI W a M L (M,[])).2.length:=List.length_pos_iff.2 e
    omega
 have S:=S.go (Ext.drew _)
 have hfound:=hFw.found (t:=b) (by
  simp only [Bool.and_eq_false_iff,decide_eq_false_iff_not] at hend
  rcases hend with h1|h1
  ·refine .inl (List.length_eq_zero_iff.1 ?_);omega
  ·refine .inr ?_
   cases hl : M.lookup b with
   |none=>rw [hl] at h1;cases h1
   |some x=>rfl)
 refine S.mapGetI mpW abv ?_
 refine S.mapGetI mpW abv ?_
 rw [← hfound] at h
 rcases hEM.look b with ⟨h1,h2⟩|⟨wl,bb,oo,cc,h1,_,h2,h3⟩
 ·rw [h2,Option.getD_none]
  rw [h1] at h
  refine gg_ ?_
  exact h _ (sn.or s) _ S.ext (StX.newOf S.reGh (a2.or' ha)) SlG.nil
 ·rw [h2,Option.getD_some]
  rw [h1] at h
  refine gg_ ?_
  exact h _ (sn.or s) _ S.ext (StX.newOf S.reGh (a2.or' ha)) h3.cells
end Go.Proofs
end
section
namespace Go.Proofs
open Go.Sh
set_option maxRecDepth 100000
set_option linter.unusedSimpArgs false
set_option linter.unusedVariables false
end Go.Proofs
end
section
namespace Go.Proofs
open Go.Sh
set_option maxRecDepth 100000
set_option linter.unusedSimpArgs false
set_option linter.unusedVariables false
theorem Xs {u : UnD} {n q : Int} (h : okQ u n q=true) : fnE u n=0∧isN (netU u n) q:=by
 rw [okQ] at h
 simp only [Bool.not_eq_true',Bool.or_eq_false_iff,decide_eq_false_iff_not,Bool.not_eq_false',decide_eq_true_eq,Decidable.not_not] at h
 exact h
theorem agX {m : List Bool} : (mkd m).length≤m.length:=by
 rw [mkd,List.length_map]
 exact Nat.le_trans (List.length_filter_le ..) (by simp)
end Go.Proofs
end
section
namespace Go.Proofs
open Go.Sh Go.RowKit
set_option maxRecDepth 100000
set_option linter.unusedSimpArgs false
set_option linter.unusedVariables false
end Go.Proofs
end
section
namespace Go.Proofs
open Go.Sh Go.RowKit
set_option maxRecDepth 100000
set_option linter.unusedSimpArgs false
set_option linter.unusedVariables false
end Go.Proofs
end
section
namespace Go.Proofs
open Go.Sh Go.RowKit
set_option maxRecDepth 100000
set_option linter.unusedSimpArgs false
set_option linter.unusedVariables false
end Go.Proofs
end
section
namespace Go.Sh
section
variable {P : Program} {t : TypeId} {c : Bool} {a b a' b' : Int} {i j : IntKind}
end
end Go.Sh
end
section
namespace Go.Proofs
open Go.Sh
set_option maxRecDepth 100000
set_option linter.unusedSimpArgs false
set_option linter.unusedVariables false
end Go.Proofs
end
section
namespace Go.Proofs
open Go.Sh Go.RowKit
set_option maxRecDepth 100000
set_option linter.unusedSimpArgs false
set_option linter.unusedVariables false
end Go.Proofs
end
section
namespace Go.Proofs
open Go.Sh Go.RowKit
set_option maxRecDepth 100000
set_option linter.unusedSimpArgs false
set_option linter.unusedVariables false
end Go.Proofs
end
section
namespace Go.Proofs
open Go.Sh Go.RowKit
set_option maxRecDepth 100000
set_option linter.unusedSimpArgs false
set_option linter.unusedVariables false
set_option maxHeartbeats 1000000 in
theorem ju {g : GrD} {p : PtD} {q : Int} {v : Value} {w : World} {r : Gh} {K : Value→World→Prop} (hr : Holds r w) (hx : LookG r v g) (hq : 0≤q) (hp : g.pts[q.toNat]? = some p) (hb : p.args.length≤1000)
  (h : ∀ w',Ext w w'→K (.tuple #[.int .i64 ((yE p).getD 0),.bool (yE p).isSome]) w') : zd Tryz.prog Tryz.yZ #[v,.int .i64 q] w K:=by
 refine Tryz.XV ?_
 unfold Tryz.vU
 have hx0:=hx
 obtain ⟨bl,x1,x2,x3,x4,y1,y2,y3,y4,vn,rfl,hg,hn,hc⟩:=hx
 obtain ⟨_,_,_,_,hEE,m1,m2,m3,m4⟩:=id hg
 cases hEE
 obtain ⟨hlt,hpe⟩:=List.getElem?_eq_some_iff.1 hp
 obtain ⟨bp,op,cp,hqp,hcp,hpc,hpo⟩:=m4.sl.get (by decide) hlt
 rw [hpe] at hpc
 obtain ⟨z1,z2,z3,z4,z5,t1,t2,t3,t4,t5,rfl,hp0⟩:=Z0 hpc
 have S:=St.start hr
 refine gg_ ?_
 refine zh (S.at (hc 6 _ rfl)) ?_
 rw [hqp]
 refine gg_ ?_
 refine zH (n:=21) hcp (fun j v hj=>S.at (hpo j v hj)) ?_
 refine S.al fun b6 w1 S=>?_
 refine S.stB (b:=b6) fun w2 S=>?_
 have S : StX noX w r w2 [.cell b6 (ptL p z1 z2 z3 z4 z5 t1 t2 t3 t4 t5) 92]:=S
 have hno : QP p=none→yE p=none:=fun e=>by rw [yE,e]
 refine zq (fun s w'=>∃ x,s = [.int .i64 x]∧QP p=some x∧StX noX w r w' [.cell b6 (ptL p z1 z2 z3 z4 z5 t1 t2 t3 t4 t5) 92]) (fun K3 hK3=>?_) ?_
 ·refine gg_ ?_
  refine zm (fun h11=>?_) (fun h11=>?_)
  ·refine gg_ ?_
   exact hK3 _ _ ⟨p.fr.l,rfl,by rw [QP,if_pos h11],S⟩
  ·refine S.ldN (b:=b6) (vs:=ptL p z1 z2 z3 z4 z5 t1 t2 t3 t4 t5) ?_
   refine Z4 S.holds hp0 fun w3 e3=>?_
   have S:=S.go e3
   refine zi (c:=decide ((p.to.ps.length : Int)=0)) (fun _ K2 hK2=>by refine gg_ ?_;exact hK2) ?_
   refine c_b (fun hc=>?_) (fun hc=>?_)
   ·rw [Bool.and_eq_true,decide_eq_true_eq] at hc
    refine gg_ ?_
    exact hK3 _ _ ⟨p.to.l,rfl,by rw [QP,if_neg h11,if_pos ⟨hc.1,List.eq_nil_of_length_eq_zero (by omega)⟩],S⟩
   ·have he : QP p=none:=by
     rw [QP,if_neg h11,if_neg]
     rintro ⟨h1,h2⟩
     rw [h1,h2] at hc
     simp at hc
    have:=h _ S.ext
    rwa [hno he] at this
 clear S
 rintro _ w4 ⟨x,rfl,he,S⟩ d
 rw [List.getD_cons_zero]
 refine ZJ S.holds hx0 hq hp hb fun w5 e5=>?_
 have S:=S.go e5
 refine zm (fun hu=>?_) (fun hu=>?_)
 ·have:=h _ S.ext
  rwa [show yE p=none by rw [yE,he];exact if_pos hu] at this
 ·have:=h _ S.ext
  rwa [show yE p=some x by rw [yE,he];exact if_neg hu] at this
structure LkF (g : GrD) : Prop where
 net : ahH (ze g)
 loc : GrF g
 args : ∀ p ∈ g.pts,p.args.length≤1000
 pt : ∃ u,∀ p ∈ g.pts,zV u g p=true
theorem xO {u : UnD} {n : Int} {g : GrD} (h : fnE u n=0) (hg : u.fs[n.toNat]? = some g) : LkF g:=by
 obtain ⟨hlt,he,hF⟩:=vd h
 obtain ⟨hM,_,_⟩:=Js h
 rw [List.getElem?_eq_getElem hlt] at hg
 cases hg
 have hd:=hM.hd hlt
 have hmem:=List.getElem_mem hlt
 rw [he] at hF
 exact ⟨hF,⟨fun p hp=>afv hM (by have:=hd.pn1;have:=hd.pn0;omega) (hM.pts _ hmem p hp),hd.ty512⟩,fun p hp=>afp hM (hM.pts _ hmem p hp),u,fun p hp=>hM.pts _ hmem p hp⟩
theorem Yp {g : GrD} {q : Int} (h : isN (ze g) q) : ∃ p,g.pts[q.toNat]? = some p∧p ∈ g.pts∧Ve g q=zC p∧QQ g q=yE p:=by
 have q0:=h.1;have q1:=h.2
 rw [zR] at q1
 have hlt : q.toNat<g.pts.length:=by omega
 have e : g.pts[q.toNat]? = some g.pts[q.toNat]:=List.getElem?_eq_getElem hlt
 exact ⟨_,e,List.getElem_mem hlt,by rw [Ve,e],by rw [QQ,e]⟩
set_option maxHeartbeats 1000000 in
theorem ab9 {u : UnD} {n q : Int} {v : Value} {w : World} {r : Gh} {K : Value→World→Prop} (hr : Holds r w) (hu : UnG r v u)
  (h : ∀ w',Ext w w'→K (.tuple #[.int .i64 (if okQ u n q=true then ((u.fs[n.toNat]?.bind fun g=>QQ g q).getD 0) else 0),.bool (okQ u n q&&(u.fs[n.toNat]?.bind fun g=>QQ g q).isSome),.int .i64 (if okQ u n q=true then 0 else 2)]) w') : zd Tryz.prog Tryz.ZF #[v,.int .i64 n,.int .i64 q] w K:=by
 refine Tryz.abr ?_
 unfold Tryz.Qf
 have hu0:=hu
 obtain ⟨p0,cap0,vf,rfl,_,_,hst,hsl,hfn⟩:=hu
 obtain ⟨qf,capf,rfl,_,_⟩:=hfn.sl.shape
 have S:=St.start hr
 refine S.box fun b3 w1 S=>?_
 have S : StX noX w r w1 [.cell b3 [.slice p0 u.ss.length cap0,.slice qf u.fs.length capf,.int .i64 u.mn] 25]:=S
 refine S.ldB (b:=b3) ?_ rfl
 refine qz S.holds hu0 fun vx s w2 e2 n2 hg hz=>?_
 obtain ⟨S,_,_⟩:=S.tell e2 n2
 refine gS_ ?_
 refine zo (c:=!okQ u n q) (fun hb K2 hK2=>?_) ?_
 ·have hE : fnE u n=0:=by simpa using hb
  obtain ⟨g,hgi,hnu,hx⟩:=hg hE
  refine qN S.holds hx ?_
  refine gp_ ?_
  have e : okQ u n q=decide (isN (ze g) q):=by rw [okQ,hE,hnu];simp
  rw [e] at hK2
  exact hK2
 refine c_b (fun hb=>?_) (fun hb=>?_)
 ·have hok : okQ u n q=false:=by
   by_cases hE : fnE u n=0
   ·simpa [hE] using hb
   ·rw [okQ,decide_eq_true hE];rfl
  rw [hok] at h
  exact h _ S.ext
 ·simp only [Bool.or_eq_false_iff,decide_eq_false_iff_not,Decidable.not_not,Bool.not_eq_false'] at hb
  obtain ⟨hE,hok⟩:=hb
  obtain ⟨g,hgi,hnu,hx⟩:=hg hE
  have hqN:=(Xs hok).2
  rw [hnu] at hqN
  obtain ⟨p,hp,hpm,hue,hee⟩:=Yp hqN
  have hF:=xO hE hgi
  rw [hok,hgi,Option.bind_some,hee] at h
  rw [hE]
  refine ju S.holds hx hqN.1 hp (hF.args p hpm) fun w3 e3=>?_
  refine gS_ ?_
  exact h _ (S.go e3).ext
end Go.Proofs
end
section
namespace Go.Proofs
open Go.Sh Go.RowKit
set_option maxRecDepth 100000
set_option linter.unusedSimpArgs false
set_option linter.unusedVariables false
noncomputable def usL (g : GrD) (q : Int) : List Int:=Lib.compact (sortI (Ve g q))
theorem agY {g : GrD} {q x : Int} : x ∈ usL g q↔x ∈ Ve g q:=Xd.2 x
theorem adw {g : GrD} {q : Int} : (usL g q).Pairwise (· < ·):=Xd.1
theorem afH {l : List OpD} : (xx l).length≤l.length:=by
 rw [xx,List.length_map];exact List.length_filter_le ..
theorem afI {p : PtD} (h : p.args.length≤1000) : (zC p).length≤1004:=by
 have:=afH (l:=p.a::p.b::p.args)
 rw [zC,List.length_append,List.length_append]
 simp only [List.length_cons] at this
 have h1 : (if p.op=4 then [p.fr.l] else []).length≤1:=by split<;>simp
 have h2 : (if p.op=14∨(jf p=true∧-1 ∈ p.to.ps) then [p.to.l] else []).length≤1:=by split<;>simp
 omega
set_option maxHeartbeats 1000000 in
theorem aca {u : UnD} {n q : Int} {v : Value} {w : World} {r : Gh} {K : Value→World→Prop} (hr : Holds r w) (hu : UnG r v u)
  (h : ∀ v' s w',Ext w w'→New w s w'→SlG 1 s z6 v' (if okQ u n q=true then (match u.fs[n.toNat]? with|some g=>usL g q|none=>[]) else [])→K (.tuple #[v',.int .i64 (if okQ u n q=true then 0 else 2)]) w') : zd Tryz.prog Tryz.ZE #[v,.int .i64 n,.int .i64 q] w K:=by
 refine Tryz.abq ?_
 unfold Tryz.Qe
 have hu0:=hu
 obtain ⟨p0,cap0,vf,rfl,_,_,hst,hsl,hfn⟩:=hu
 obtain ⟨qf,capf,rfl,_,_⟩:=hfn.sl.shape
 have S:=St.start hr
 refine S.box fun b3 w1 S=>?_
 have S : StX noX w r w1 [.cell b3 [.slice p0 u.ss.length cap0,.slice qf u.fs.length capf,.int .i64 u.mn] 25]:=S
 refine S.ldB (b:=b3) ?_ rfl
 refine qz S.holds hu0 fun vx s w2 e2 n2 hg hz=>?_
 obtain ⟨S,_,_⟩:=S.tell e2 n2
 refine gS_ ?_
 refine zo (c:=!okQ u n q) (fun hb K2 hK2=>?_) ?_
 ·have hE : fnE u n=0:=by simpa using hb
  obtain ⟨g,hgi,hnu,hx⟩:=hg hE
  refine qN S.holds hx ?_
  refine gp_ ?_
  have e : okQ u n q=decide (isN (ze g) q):=by rw [okQ,hE,hnu];simp
  rw [e] at hK2
  exact hK2
 refine c_b (fun hb=>?_) (fun hb=>?_)
 ·have hok : okQ u n q=false:=by
   by_cases hE : fnE u n=0
   ·simpa [hE] using hb
   ·rw [okQ,decide_eq_true hE];rfl
  rw [hok] at h
  exact h _ nothing _ S.ext New.nothing SlG.nil
 simp only [Bool.or_eq_false_iff,decide_eq_false_iff_not,Decidable.not_not,Bool.not_eq_false'] at hb
 obtain ⟨hE,hok⟩:=hb
 obtain ⟨g,hgi,hnu,hx⟩:=hg hE
 have hqN:=(Xs hok).2
 rw [hnu] at hqN
 obtain ⟨p,hp,hpm,hue,hee⟩:=Yp hqN
 have hF:=xO hE hgi
 have hfew:=afI (hF.args p hpm)
 simp only [hok,if_true,hgi] at h
 rw [show usL g q=Lib.compact (sortI (zC p)) by rw [usL,hue]] at h
 have S:=S.tl
 refine S.al fun b10 w3 S=>?_
 have S:=S.ownNil 3 1
 generalize r.or s=r' at S hx
 have S : StX noX w r' w3 [.row (.slice none 0 0) 3 1 ((zC p).take 0).length (ints ((zC p).take 0)),.cell b10 [.slice none 0 0] 50]:=S
 refine gp_ ?_
 refine Qg (D0:=y9 [.row (.slice none 0 0) 3 1 ((zC p).take 0).length (ints ((zC p).take 0)),.cell b10 [.slice none 0 0] 50])
  (J:=fun k D W=>∃ vl,D=y9 [.row vl 3 1 ((zC p).take k).length (ints ((zC p).take k)),.cell b10 [vl] 50]∧StX noX w r' W [.row vl 3 1 ((zC p).take k).length (ints ((zC p).take k)),.cell b10 [vl] 50])
  (Jx:=fun _=>False) S.holds hx hqN.1 hp (hF.args p hpm) ?_ ?_ ⟨_,rfl,S⟩ ?_
 ·intro d hd
  refine ⟨S.dlt hd,fun o=>?_⟩
  obtain ⟨x,hx,hdx⟩:=yT.1 hd
  exact (S.mine x hx d hdx).2 o
 ·refine ⟨?_,fun _ _ h=>h.elim,?_⟩
  ·rintro k _ W1 W2 ⟨vl,rfl,S⟩ e
   exact ⟨vl,rfl,S.go e⟩
  ·rintro k _ W x hx ⟨vl,rfl,S⟩ K1 hK1
   obtain ⟨hk,hxe⟩:=List.getElem?_eq_some_iff.1 hx
   have hkl : ((zC p).take k).length=k:=by rw [List.length_take];omega
   refine Yc (by kernel_rfl) ?_
   refine Tryz.Vg ?_
   unfold Tryz.YE
   have R:=S.part
   refine R.ld (b:=b10) ?_
   refine R.lit (e:=3) (cs:=[.int .i64 x]) (by kernel_rfl) fun b6 w6 R=>?_
   refine R.ap (v:=vl) (m':=1) (Sl.blk (R.blk b6)) (fun v7 w7 R=>?_) (by rw [hkl];omega)
   have R:=R.drop b6
   refine R.st (b:=b10) (fun w8 R=>?_) (by simp) (R.row1 v7)
   have hE : (zC p).take (k+1)=(zC p).take k ++ [x]:=by rw [List.take_succ_eq_append_getElem hk,hxe]
   have R : StX (y9 [.row vl 3 1 ((zC p).take k).length (ints ((zC p).take k)),.cell b10 [vl] 50]) W r' w8 [.row v7 3 1 ((zC p).take (k+1)).length (ints ((zC p).take (k+1))),.cell b10 [v7] 50]:=by
    rw [hE,List.length_append,xF];exact R
   refine hK1 true _ R.x (if_pos rfl ▸ ?_)
   refine ⟨y9 [.row v7 3 1 ((zC p).take (k+1)).length (ints ((zC p).take (k+1))),.cell b10 [v7] 50],fun d hd=>?_,v7,rfl,S.whole R fun _ h=>h⟩
   obtain ⟨y,hy,hdy⟩:=yT.1 hd
   rcases (R.mine y hy d hdy).1 with h1|h1
   ·exact .inr ⟨h1,R.dlt hd⟩
   ·exact .inl h1
 ·rintro W4 (⟨_,vl,rfl,S⟩|h)
  ·rw [List.take_length] at S
   refine S.ld (b:=b10) ?_
   refine YB S (by omega) fun w5 S=>?_
   refine S.ld (b:=b10) ?_
   have S : StX noX w r' w5 [.row vl 3 1 (sortI (zC p)).length (ints (sortI (zC p))),.cell b10 [vl] 50]:=by rw [qy];exact S
   refine QN S fun v6 w6 S=>?_
   obtain ⟨s2,T,hs,_,hab⟩:=S.doneRow yB (by decide) rfl
   exact h _ s2 _ T.ext (StX.newOf (q:=s2) T fun b o ho=>(hab b o ho).resolve_right id) hs
  ·exact h.elim
end Go.Proofs
end
section
namespace Go.Sh
open Go.RowKit
theorem QV {α β γ : Type} {f : α→β→γ} : ∀ {us : List α} {bs : List β} {i : Nat} (h1 : i<us.length) (h2 : i<bs.length),∃ p q,List.zipWith f us bs=p++f us[i] bs[i]::q∧∀ a b,List.zipWith f (us.set i a) (bs.set i b)=p++f a b::q
 |[],_,_,h1,_=>absurd h1 (Nat.not_lt_zero _)
 |_::_,[],_,_,h2=>absurd h2 (Nat.not_lt_zero _)
 |a::us,b::bs,0,_,_=>⟨[],List.zipWith f us bs,rfl,fun _ _=>rfl⟩
 |a::us,b::bs,i+1,h1,h2=>by
  obtain ⟨p,q,h3,h4⟩:=QV (f:=f) (us:=us) (bs:=bs) (i:=i) (by simpa using h1) (by simpa using h2)
  exact ⟨f a b::p,q,by rw [List.zipWith_cons_cons,h3];rfl,fun x y=>by rw [List.set_cons_succ,List.set_cons_succ,List.zipWith_cons_cons,h4];rfl⟩
theorem aey {α β γ : Type} {f : α→β→γ} {us : List α} {bs : List β} {i : Nat} (h1 : i<us.length) (h2 : i<bs.length) : ∃ p q,List.zipWith f us bs=p++f us[i] bs[i]::q∧∀ b,List.zipWith f us (bs.set i b)=p++f us[i] b::q:=by
 obtain ⟨p,q,h3,h4⟩:=QV (f:=f) h1 h2
 refine ⟨p,q,h3,fun b=>?_⟩
 have:=h4 us[i] b
 rwa [List.set_getElem_self] at this
section
variable {P : Program} {X : Nat→Prop} {w0 w w' : World} {r : Gh} {L : List Asr}
theorem NC.of_doms (S : StX X w0 r w L) (e : ExtBut (y9 L) w w') : NC w w':=⟨e.size,fun b o hb ho=>by
 have hlt:=(Array.getElem?_eq_some_iff.1 hb).1
 by_cases hd : y9 L b
 ·obtain ⟨o',h1,h2⟩:=Qv S b hd
  rw [hb] at h1;cases h1;rw [ho] at h2;cases h2
 ·rw [e.block b hlt hd];exact hb⟩
theorem StX.mkSN {t e : TypeId} {bytes : Nat} {kl : IntKind} {n : Int} {z : Value} (S : StX X w0 r w L) [hT : ApT P t e 1 bytes] [hz : ZrT P e [z]] {K : Value→World→Prop} (h0 : 0≤n) (hb : (bytes : Int)*n≤281474976710656)
  (h : ∀ b w',Ext w w'→StX X w0 r w' (.cell b (List.replicate n.toNat z) e::L)→K (.slice (some ⟨b,0,none⟩) n.toNat n.toNat) w') : opW P w (Instr.makeSlice t (.int kl n) (.int kl n)) fun t' w'=>NC w w'∧K t' w':=
 aaF hT.h hz.h h0 hb fun b w' hb e _ B=>⟨NC.of_ext e,h b w' e (S.add e (by omega) B)⟩
theorem StX.ownNils (S : StX X w0 r w L) (e : TypeId) (sz : Nat) : ∀ n,StX X w0 r w (List.replicate n (.row (.slice none 0 0) e sz 0 [])++L)
 |0=>S
 |n+1=>by
  rw [List.replicate_succ]
  exact (S.ownNils e sz n).ownNil e sz
theorem StX.frzRows {α : Type} {e : TypeId} {sz : Nat} {C : List α→List Value} {R : List Value→α→Prop} (hz : 0<sz) (hC : ∀ l,RowOf sz R (C l) l) : ∀ {vs : List Value} {B : List (List α)} {r : Gh},vs.length=B.length→StX X w0 r w (List.zipWith (fun v l=>Asr.row v e sz l.length (C l)) vs B++L)→
  ∃ s,StX X w0 (r.or s) w L∧(∀ b o,s b o→w0.heap.size≤b∨X b)∧∀ i (h1 : i<vs.length) (h2 : i<B.length),SlG sz s R vs[i] B[i]
 |[],[],r,_,S=>⟨nothing,S.less (fun b o h=>h.elim id fun h=>h.elim) (List.Sublist.refl _),fun _ _ h=>h.elim,fun i h=>absurd h (Nat.not_lt_zero _)⟩
 |v::vs,l::B,r,h,S=>by
  rw [List.zipWith_cons_cons,List.cons_append] at S
  obtain ⟨s1,S1,hs1,_,ha1⟩:=S.doneRow (hC l) hz rfl
  obtain ⟨s2,S2,ha2,hs2⟩:=StX.frzRows hz hC (vs:=vs) (B:=B) (by simpa using h) S1
  refine ⟨s1.or s2,S2.reGh,fun b o ho=>ho.elim (ha1 b o) (ha2 b o),fun i h1 h2=>?_⟩
  cases i with
  |zero=>exact hs1.cells
  |succ i=>exact (hs2 i (by simpa using h1) (by simpa using h2)).cells
 |[],_::_,_,h,_=>by simp at h
 |_::_,[],_,h,_=>by simp at h
theorem StX.frzCells {α : Type} {e : TypeId} {C : α→List Value} : ∀ {bs : List Nat} {R : List α} {r : Gh},bs.length=R.length→StX X w0 r w (List.zipWith (fun b m=>Asr.cell b (C m) e) bs R++L)→
  ∃ s,StX X w0 (r.or s) w L∧(∀ b o,s b o→w0.heap.size≤b∨X b)∧∀ i (h1 : i<bs.length) (h2 : i<R.length),Ob s fun w=>Blk w bs[i] (C R[i]) e
 |[],[],r,_,S=>⟨nothing,S.less (fun b o h=>h.elim id fun h=>h.elim) (List.Sublist.refl _),fun _ _ h=>h.elim,fun i h=>absurd h (Nat.not_lt_zero _)⟩
 |b::bs,m::R,r,h,S=>by
  rw [List.zipWith_cons_cons,List.cons_append] at S
  have hm:=(S.mine (.cell b (C m) e) List.mem_cons_self b rfl).1
  have S1:=S.frz
  obtain ⟨s2,S2,ha2,hs2⟩:=StX.frzCells (bs:=bs) (R:=R) (by simpa using h) S1
  refine ⟨(Go.Sh.one b (C m) e).or s2,S2.reGh,fun b' o ho=>ho.elim (by rintro ⟨rfl,_⟩;exact hm) (ha2 b' o),fun i h1 h2=>?_⟩
  cases i with
  |zero=>exact (zF (b:=b) (c:=C m) (T:=e)).up
  |succ i=>exact (hs2 i (by simpa using h1) (by simpa using h2)).up
 |[],_::_,_,h,_=>by simp at h
 |_::_,[],_,h,_=>by simp at h
end
end Go.Sh
end
section
namespace Go.Proofs
open Go.Sh Go.RowKit
set_option maxRecDepth 100000
set_option linter.unusedSimpArgs false
set_option linter.unusedVariables false
abbrev yz (bs : List Nat) (R : yw) : List Asr:=List.zipWith (fun b m=>Asr.cell b (bls m) 4) bs R
abbrev lwL (b11 : Nat) (bs : List Nat) (vl : Value) (st : yw × List (Int × Int)) : List Asr:=.row vl 101 2 st.2.length (kD st.2) :: .cell b11 [vl] 99::yz bs st.1
structure RwsAt (ρ : Gh) (b4 br : Nat) (bs : List Nat) (n : Nat) : Prop where
 hd : Ob ρ fun w=>w.cell? ⟨b4,0,none⟩=some (.slice (some ⟨br,0,none⟩) bs.length bs.length)
 at' : ∀ i (h : i<bs.length),Ob ρ fun w=>w.cell? ⟨br,i,none⟩=some (.slice (some ⟨bs[i],0,none⟩) n n)
theorem RwsAt.up {ρ σ : Gh} {b4 br : Nat} {bs : List Nat} {n : Nat} (h : RwsAt ρ b4 br bs n) [le : Le ρ σ] : RwsAt σ b4 br bs n:=⟨h.hd.up,fun i hi=>(h.at' i hi).up⟩
theorem Vi {R : yw} {x : Int} (h : x.toNat<R.length) : xz R x=R[x.toNat]:=by rw [xz,List.getD_eq_getElem?_getD,List.getElem?_eq_getElem h];rfl
set_option maxHeartbeats 1000000 in
theorem JD {q x : Int} {b4 br b11 n : Nat} {bs : List Nat} {ρ : Gh} {X : Nat→Prop} {w0 w : World} {K : Value→World→Prop} {vl : Value} {st : yw × List (Int × Int)} (S : StX X w0 ρ w (lwL b11 bs vl st))
  (hA : RwsAt ρ b4 br bs n) (hx : 0≤x∧x.toNat<bs.length) (hq : 0≤q∧q<n) (hl : st.1.length=bs.length) (hrl : (xz st.1 x).length=n) (hT : st.2.length≤1000000)
  (h : ∀ vl' w',NC w w'→StX (y9 (lwL b11 bs vl st)) w ρ w' (lwL b11 bs vl' (xM st (q,x)))→K (.tuple #[]) w') : zd Tryz.prog Tryz.zx #[.int .i64 q,.int .i64 x,.pointer (some ⟨b4,0,none⟩),.pointer (some ⟨b11,0,none⟩)] w K:=by
 refine Tryz.YM ?_
 unfold Tryz.jE
 have R:=S.part
 have hxs : x.toNat<st.1.length:=by omega
 obtain ⟨p,qq,hsp,hset⟩:=aey (f:=fun b m=>Asr.cell b (bls m) 4) hx.2 hxs
 have B:=R.has (.cell bs[x.toNat] (bls st.1[x.toNat]) 4) (by show _ ∈ _::_::yz bs st.1;rw [yz,hsp];simp)
 have B : Blk w bs[x.toNat] (bls st.1[x.toNat]) 4:=B
 rw [Vi hxs] at hrl
 refine zh (R.at hA.hd) ?_
 refine gg_ ?_
 refine zh (by rw [Nat.zero_add];exact R.at (hA.at' _ hx.2)) ?_
 refine gg_ ?_
 refine zh (v:=.bool (mk' st.1[x.toNat] q)) (by rw [B.cell];exact ahG (by omega)) ?_
 refine gp_ ?_
 have hmk : mkR st.1 x q=mk' st.1[x.toNat] q:=by rw [mkR,Vi hxs]
 refine c_b (fun hb=>?_) (fun hb=>?_)
 ·have hb : mk' st.1[x.toNat] q=false:=by simpa using hb
  have hadd : xM st (q,x)=(jN st.1 x q,st.2 ++ [(q,x)]):=by rw [xM,if_neg (by rw [hmk,hb];decide)]
  rw [hadd] at h
  have hsr : jN st.1 x q=st.1.set x.toNat (xw st.1[x.toNat] q):=by rw [jN,Vi hxs]
  refine zh (R.at hA.hd) ?_
  refine gg_ ?_
  refine zh (by rw [Nat.zero_add];exact R.at (hA.at' _ hx.2)) ?_
  refine gg_ ?_
  haveI hAt : At bs[x.toNat] (lwL b11 bs vl st) (bls st.1[x.toNat]) 4 (fun c'=>(.row vl 101 2 st.2.length (kD st.2) :: .cell b11 [vl] 99::p) ++ .cell bs[x.toNat] c' 4::qq):=
   ⟨_,_,by show _::_::yz bs st.1=_;rw [yz,hsp];rfl,fun _=>rfl⟩
  refine R.st (b:=bs[x.toNat]) (h:=hAt) (fun w1 R=>?_) (by rw [acH];omega)
  rw [agS hq.1] at R
  have R : StX (y9 (lwL b11 bs vl st)) w ρ w1 (.row vl 101 2 st.2.length (kD st.2) :: .cell b11 [vl] 99::yz bs (jN st.1 x q)):=by
   rw [yz,hsr,hset];exact R
  refine R.ld (b:=b11) ?_
  refine zu (cs:=#[.int .i64 q,.int .i64 x]) (by kernel_rfl) ?_
  refine R.lit (e:=101) (cs:=[.int .i64 q,.int .i64 x]) (by kernel_rfl) fun b6 w6 R=>?_
  refine R.ap (v:=vl) (m':=1) (Sl.blk (R.blk b6)) (fun v7 w7 R=>?_) (by omega)
  have R:=R.drop b6
  refine R.st (b:=b11) (fun w8 R=>?_) (by simp) (R.row1 v7)
  have R : StX (y9 (lwL b11 bs vl st)) w ρ w8 (lwL b11 bs v7 (jN st.1 x q,st.2 ++ [(q,x)])):=by
   show StX _ w ρ w8 (.row v7 101 2 (st.2 ++ [(q,x)]).length (kD (st.2 ++ [(q,x)]))::_)
   rw [Yl,List.length_append]
   exact R
  exact h _ _ (NC.of_doms S R.x) R
 ·have hb : mk' st.1[x.toNat] q=true:=by simpa using hb
  have hadd : xM st (q,x)=st:=by rw [xM,if_pos (by rw [hmk,hb])]
  rw [hadd] at h
  exact h _ _ (NC.of_ext (.refl _)) R
end Go.Proofs
end
section
namespace Go.Proofs
open Go.Sh Go.RowKit
set_option maxRecDepth 100000
set_option linter.unusedSimpArgs false
set_option linter.unusedVariables false
def age (r : Gh) (c : List Value) (m : List Bool) : Prop:=∃ v,c = [v]∧SlB 1 r adq v m
noncomputable def lvR (g : GrD) : yw:=(List.range g.tys.length).map fun (x : Nat)=>lvM g x
theorem jh {g : GrD} : (lvR g).length=g.tys.length:=by simp [lvR]
theorem vW {g : GrD} {j : Nat} (h : j<(lvR g).length) : (lvR g)[j]=lvM g j:=by simp [lvR]
abbrev qO (n : Nat) (b : Nat) : Value:=.slice (some ⟨b,0,none⟩) n n
theorem afJ {n m : Nat} {bs : List Nat} {b : Nat} (h : bs.length<m) : (bs.map (qO n)++List.replicate (m - bs.length) (Value.slice none 0 0)).set (0+bs.length) (qO n b)=(bs ++ [b]).map (qO n)++List.replicate (m - (bs ++ [b]).length) (Value.slice none 0 0):=by
 rw [Nat.zero_add,show m - bs.length=(m - (bs.length+1))+1 by omega,List.replicate_succ,List.set_append_right _ _ (by rw [List.length_map];omega),List.length_map,Nat.sub_self,List.set_cons_zero,List.map_append,List.length_append,List.append_assoc]
 rfl
theorem aez {bs : List Nat} {b : Nat} {row : List Bool} : yz (bs ++ [b]) (List.replicate (bs ++ [b]).length row)=yz bs (List.replicate bs.length row) ++ [Asr.cell b (bls row) 4]:=by
 rw [yz,List.length_append,List.length_singleton,List.replicate_succ',List.zipWith_append (by rw [List.length_replicate])]
 rfl
abbrev Xt (vs : List Value) (B : List (List Int)) : List Asr:=List.zipWith (fun v l=>Asr.row v 3 1 l.length (ints l)) vs B
def BfI (g : GrD) (q k : Nat) (B : List (List Int)) : Prop:=B.length=(ze g).length∧∀ p,isN (ze g) p→(∀ x,x ∈ B.getD p.toNat []↔(isN (ze g) x∧p ∈ nxt (lkN g) x∧x<q)∨(x=q∧p ∈ (nxt (lkN g) q).take k))∧(B.getD p.toNat []).length≤2*q+k
theorem BfI.start {g : GrD} : BfI g 0 0 (List.replicate (ze g).length []):=⟨List.length_replicate,fun p hp=>by
 have p0:=hp.1;have p1:=hp.2
 have e : (List.replicate (ze g).length ([] : List Int)).getD p.toNat [] = []:=by rw [List.getD_eq_getElem?_getD,List.getElem?_replicate];split<;>rfl
 rw [e]
 refine ⟨fun x=>?_,Nat.zero_le _⟩
 simp only [List.not_mem_nil,List.take_zero,and_false,or_false,false_iff]
 rintro ⟨h1,_,h2⟩
 have:=h1.1
 have h2 : x<(0 : Int):=h2
 omega⟩
theorem BfI.next {g : GrD} {q k : Nat} {B : List (List Int)} (h : BfI g q k B) (hk : k<(nxt (lkN g) q).length) (hp : isN (ze g) (nxt (lkN g) q)[k]) : BfI g q (k+1) (B.set ((nxt (lkN g) q)[k]).toNat (B.getD ((nxt (lkN g) q)[k]).toNat [] ++ [(q : Int)])):=by
 obtain ⟨h1,h2⟩:=h
 refine ⟨by rw [List.length_set];exact h1,fun p hpN=>?_⟩
 rw [List.take_succ_eq_append_getElem hk]
 generalize (nxt (lkN g) q)[k]=y at *
 have y0:=hp.1;have y1:=hp.2;have p0:=hpN.1;have p1:=hpN.2
 obtain ⟨h3,h4⟩:=h2 p hpN
 by_cases e : p=y
 ·subst e
  have eG : (B.set p.toNat (B.getD p.toNat [] ++ [(q : Int)])).getD p.toNat []=B.getD p.toNat [] ++ [(q : Int)]:=by
   rw [List.getD_eq_getElem?_getD,List.getElem?_set_self (by omega)];rfl
  rw [eG]
  refine ⟨fun x=>?_,by rw [List.length_append,List.length_singleton];omega⟩
  rw [List.mem_append,List.mem_singleton,h3 x,List.mem_append,List.mem_singleton]
  constructor
  ·rintro ((h|⟨h5,h6⟩)|h)
   ·exact .inl h
   ·exact .inr ⟨h5,.inl h6⟩
   ·exact .inr ⟨h,.inr rfl⟩
  ·rintro (h|⟨h5,h6|h6⟩)
   ·exact .inl (.inl h)
   ·exact .inl (.inr ⟨h5,h6⟩)
   ·exact .inr h5
 ·have eG : (B.set y.toNat (B.getD y.toNat [] ++ [(q : Int)])).getD p.toNat []=B.getD p.toNat []:=by
   rw [List.getD_eq_getElem?_getD,List.getElem?_set_ne (by omega),← List.getD_eq_getElem?_getD]
  rw [eG]
  refine ⟨fun x=>?_,by omega⟩
  rw [h3 x,List.mem_append,List.mem_singleton]
  simp [e]
theorem BfI.row {g : GrD} {q : Nat} {B : List (List Int)} (h : BfI g q (nxt (lkN g) q).length B) (hq : q<(ze g).length) (h2 : (nxt (lkN g) q).length≤2) : BfI g (q+1) 0 B:=⟨h.1,fun p hp=>by
 obtain ⟨h3,h4⟩:=h.2 p hp
 refine ⟨fun x=>?_,by omega⟩
 rw [h3 x,List.take_length,List.take_zero]
 simp only [List.not_mem_nil,and_false,or_false]
 constructor
 ·rintro (⟨h5,h6,h7⟩|⟨rfl,h6⟩)
  ·exact ⟨h5,h6,by omega⟩
  ·exact ⟨⟨by omega,by omega⟩,h6,by omega⟩
 ·rintro ⟨h5,h6,h7⟩
  by_cases e : x=(q : Int)
  ·subst e;exact .inr ⟨rfl,h6⟩
  ·exact .inl ⟨h5,h6,by omega⟩⟩
theorem abw {g : GrD} {x p : Int} (hx : isN (ze g) x) : p ∈ nxt (lkN g) x↔p ∈ nxt (ze g) x:=by
 have x0:=hx.1;have x1:=hx.2
 have hl : x.toNat<g.pts.length:=by rw [zR] at x1;omega
 rw [agO hx,nxt,List.getD_eq_getElem?_getD,lkN,List.getElem?_map,List.getElem?_eq_getElem hl]
 exact acJ
theorem ahJ {g : GrD} {x : Int} : (nxt (lkN g) x).length≤2:=by
 rw [nxt,List.getD_eq_getElem?_getD,lkN,List.getElem?_map]
 cases g.pts[x.toNat]? with
 |none=>exact Nat.zero_le _
 |some p=>
  show (lkP p).length≤2
  rw [lkP,List.length_append]
  split<;>split<;>simp
theorem BfI.end {g : GrD} {B : List (List Int)} (h : BfI g (ze g).length 0 B) {p x : Int} (hp : isN (ze g) p) : x ∈ B.getD p.toNat []↔x ∈ ado (ze g) p:=by
 rw [((h.2 p hp).1 x),Vb,List.take_zero]
 simp only [List.not_mem_nil,and_false,or_false]
 constructor
 ·rintro ⟨h1,h2,_⟩;exact ⟨h1,(abw h1).1 h2⟩
 ·rintro ⟨h1,h2⟩;exact ⟨h1,(abw h1).2 h2,h1.2⟩
set_option maxHeartbeats 8000000 in
theorem Qh {g : GrD} {v : Value} {w : World} {r : Gh} {K : Value→World→Prop} (hr : Holds r w) (hx : LookG r v g) (hF : LkF g)
  (h : ∀ v' s w',Ext w w'→New w s w'→SlG 1 s (age s) v' (lvR g)→K v' w') : zd Tryz.prog Tryz.xN #[v] w K:=by
 refine Tryz.XW ?_
 unfold Tryz.vV
 have hx0:=hx
 obtain ⟨bl,x1,x2,x3,x4,y1,y2,y3,y4,vn,rfl,hg,hn,hc⟩:=hx
 have hnf:=hF.net.few
 have hnp:=hF.net.pos
 have hmf:=hF.loc.few
 have hgl:=zR (g:=g)
 have hlk:=XK (g:=g)
 have S:=St.start hr
 have hlow:=S.low
 refine S.boxN fun b1 w1 _ S=>?_
 refine gg_ ?_
 refine zh (S.at (hc 6 _ rfl)) ?_
 refine gg_ ?_
 refine zh (S.at (hc 4 _ rfl)) ?_
 refine gg_ ?_
 refine S.mkSN (by omega) (by omega) fun br w2 e2 S=>?_
 rw [Int.toNat_natCast] at S ⊢
 refine S.alN fun b4 w3 _ S=>?_
 refine S.stN' (b:=b4) fun w4 S=>?_
 refine S.ld (b:=b4) ?_
 refine gg_ ?_
 have S : StX noX w r w4 (.cell b4 [.slice (some ⟨br,0,none⟩) g.tys.length g.tys.length] 60 :: .cell br (([] : List Nat).map (qO g.pts.length)++List.replicate (g.tys.length - ([] : List Nat).length) (.slice none 0 0)) 62 :: .cell b1 [.pointer (some ⟨bl,0,none⟩)] 57::yz [] (List.replicate ([] : List Nat).length (List.replicate g.pts.length false))):=S
 refine zj (ι:=List Nat) (fun bs=>[.int .i64 (bs.length : Nat)]) (fun bs w'=>bs.length≤g.tys.length∧StX noX w r w' (.cell b4 [.slice (some ⟨br,0,none⟩) g.tys.length g.tys.length] 60 :: .cell br (bs.map (qO g.pts.length)++List.replicate (g.tys.length - bs.length) (.slice none 0 0)) 62 :: .cell b1 [.pointer (some ⟨bl,0,none⟩)] 57::yz bs (List.replicate bs.length (List.replicate g.pts.length false)))) (fun bs=>g.tys.length - bs.length) [] rfl ⟨Nat.zero_le _,S⟩ ?_
 repeat clear S
 rintro bs d w8 ⟨hi,S⟩ K5 hK5
 rw [List.getD_cons_zero]
 refine gg_ ?_
 refine zm (fun hlt=>?_) (fun hge=>?_)
 ·have hlt : bs.length<g.tys.length:=by omega
  have S:=S.go (Ext.drew _)
  refine S.ld (b:=b4) ?_
  refine S.mkSN (by omega) (by omega) fun b9 w9 e9 S=>⟨e9,?_⟩
  rw [Int.toNat_natCast] at S ⊢
  rw [agT] at S
  refine gg_ ?_
  refine S.stN' (b:=br) (fun w10 S=>?_) (by simp;omega)
  rw [Int.toNat_natCast,afJ hlt] at S
  refine gg_ ?_
  have e : ((bs.length : Int)+1)=((bs ++ [b9]).length : Nat):=by simp
  rw [e]
  refine hK5 (bs ++ [b9]) _ ⟨by simp;omega,?_⟩ (by simp;omega)
  rw [aez]
  exact S.permO (List.perm_append_singleton _ (_::_::_::_))
 have hie : bs.length=g.tys.length:=by omega
 clear hK5 K5 hge hi d
 rw [hie,Nat.sub_self,List.replicate_zero,List.append_nil] at S
 rw [← hgl] at S ⊢
 generalize hn2 : (ze g).length=n at *
 have hb4:=(S.mine (.cell b4 [.slice (some ⟨br,0,none⟩) g.tys.length g.tys.length] 60) (by simp) b4 rfl).1.resolve_right id
 have hbr:=(S.mine (.cell br (bs.map (qO n)) 62) (by simp) br rfl).1.resolve_right id
 have hb1:=(S.mine (.cell b1 [.pointer (some ⟨bl,0,none⟩)] 57) (by simp) b1 rfl).1.resolve_right id
 have S:=S.frz
 have S:=S.frz.reGh
 have S:=S.frz.reGh
 have ha : Above w (((Go.Sh.one b4 [.slice (some ⟨br,0,none⟩) g.tys.length g.tys.length] 60).or (Go.Sh.one br (bs.map (qO n)) 62)).or (Go.Sh.one b1 [.pointer (some ⟨bl,0,none⟩)] 57)):=by
  rintro b o ((⟨rfl,_⟩|⟨rfl,_⟩)|⟨rfl,_⟩)<;>assumption
 have hA : RwsAt (((Go.Sh.one b4 [.slice (some ⟨br,0,none⟩) g.tys.length g.tys.length] 60).or (Go.Sh.one br (bs.map (qO n)) 62)).or (Go.Sh.one b1 [.pointer (some ⟨bl,0,none⟩)] 57)) b4 br bs n:=by
  refine ⟨fun w' hw'=>?_,fun i hi w' hw'=>?_⟩
  ·have B : Blk w' b4 [.slice (some ⟨br,0,none⟩) g.tys.length g.tys.length] 60:=zF w' (hw'.le (h:=inferInstance))
   rw [hie];exact B.cell 0
  ·have B : Blk w' br (bs.map (qO n)) 62:=zF w' (hw'.le (h:=inferInstance))
   show w'.cell? ⟨br,i,none⟩=_
   rw [B.cell,List.getElem?_map,List.getElem?_eq_getElem hi];rfl
 have h1 : Ob (((Go.Sh.one b4 [.slice (some ⟨br,0,none⟩) g.tys.length g.tys.length] 60).or (Go.Sh.one br (bs.map (qO n)) 62)).or (Go.Sh.one b1 [.pointer (some ⟨bl,0,none⟩)] 57)) fun w=>w.cell? ⟨b1,0,none⟩=some (.pointer (some ⟨bl,0,none⟩)):=fun w' hw'=>by
  have B : Blk w' b1 [.pointer (some ⟨bl,0,none⟩)] 57:=zF w' (hw'.le (h:=inferInstance))
  exact B.cell 0
 have hbook : xP (((Go.Sh.one b4 [.slice (some ⟨br,0,none⟩) g.tys.length g.tys.length] 60).or (Go.Sh.one br (bs.map (qO n)) 62)).or (Go.Sh.one b1 [.pointer (some ⟨bl,0,none⟩)] 57)):=inferInstance
 generalize ((Go.Sh.one b4 [.slice (some ⟨br,0,none⟩) g.tys.length g.tys.length] 60).or (Go.Sh.one br (bs.map (qO n)) 62)).or (Go.Sh.one b1 [.pointer (some ⟨bl,0,none⟩)] 57)=ρ at S ha hA h1 hbook
 clear hb4 hbr hb1
 have S : StX noX w (r.or ρ) _ (yz bs (List.replicate g.tys.length (List.replicate n false))):=S
 generalize hR0 : List.replicate g.tys.length (List.replicate n false)=R0 at S
 refine S.mkSN (by omega) (by omega) fun b46 w11 e11 S=>?_
 rw [Int.toNat_natCast] at S ⊢
 have S:=S.ownNils 3 1 n
 have S : StX noX w (r.or ρ) w11 (.cell b46 (List.replicate n (.slice none 0 0)) 50::(Xt (List.replicate n (.slice none 0 0)) (List.replicate n [])++yz bs R0)):=by
  refine S.permO ?_
  rw [Xt,List.zipWith_replicate,Nat.min_self]
  exact List.perm_middle.symm
 refine zh (S.at h1) ?_
 refine gg_ ?_
 refine zh (S.at (hc 7 _ rfl)) ?_
 obtain ⟨pn,capn,hvn,_,_⟩:=hn.sl.shape
 rw [hvn] at hn ⊢
 rw [hlk] at hn ⊢
 refine gg_ ?_
 have hB0:=BfI.start (g:=g)
 rw [hn2] at hB0
 refine zj (ι:=Nat × List Value × List (List Int)) (fun i=>[.int .i64 (i.1 : Nat)]) (fun i w'=>i.1≤n∧i.2.1.length=n∧BfI g i.1 0 i.2.2∧StX noX w (r.or ρ) w' (.cell b46 i.2.1 50::(Xt i.2.1 i.2.2++yz bs R0))) (fun i=>n - i.1) (0,List.replicate n (.slice none 0 0),List.replicate n []) rfl ⟨Nat.zero_le _,List.length_replicate,hB0,S⟩ ?_
 repeat clear S
 clear hB0
 rintro ⟨q,vs,B⟩ d w15 ⟨hq,hvs,hB,S⟩ K12 hK12
 simp only at hq hvs hB S ⊢
 rw [List.getD_cons_zero]
 refine gg_ ?_
 refine zm (fun hlt=>?_) (fun hge=>?_)
 ·have hlt : q<n:=by omega
  obtain ⟨bq,oq,uq,hpn,_,hcq,huq⟩:=XJ hn (i:=q) (by omega)
  have hq' : q<(lkN g).length:=by omega
  have hqN : isN (ze g) (q : Int):=⟨by omega,by omega⟩
  have hnx : (lkN g)[q]=nxt (lkN g) (q : Int):=by rw [nxt,Int.toNat_natCast,List.getD_eq_getElem?_getD,List.getElem?_eq_getElem hq'];rfl
  rw [hnx] at huq
  have hfk:=ahJ (g:=g) (x:=(q : Int))
  have hNx : ∀ k (hk : k<(nxt (lkN g) (q : Int)).length),isN (ze g) (nxt (lkN g) (q : Int))[k]:=fun k hk=>Xe hF.net.ok ((abw hqN).1 (List.getElem_mem hk))
  have hnextB:=fun k B (hB : BfI g q k B) hk=>hB.next hk (hNx k hk)
  have hrowB:=fun B (hB : BfI g q (nxt (lkN g) (q : Int)).length B)=>hB.row (by omega) hfk
  obtain ⟨pu,cu,rfl,_,_⟩:=huq.sl.shape
  rw [hpn]
  refine gg_ ?_
  refine zh (by rw [Int.toNat_natCast];exact S.at hcq) ?_
  refine gg_ ?_
  refine zj (ι:=Nat × List Value × List (List Int)) (fun i=>[.int .i64 (i.1 : Nat)]) (fun i w'=>i.1≤(nxt (lkN g) (q : Int)).length∧i.2.1.length=n∧BfI g q i.1 i.2.2∧StX noX w (r.or ρ) w' (.cell b46 i.2.1 50::(Xt i.2.1 i.2.2++yz bs R0))) (fun i=>(nxt (lkN g) (q : Int)).length - i.1) (0,vs,B) rfl ⟨Nat.zero_le _,hvs,hB,S⟩ ?_
  repeat clear S
  rintro ⟨k,vt,C⟩ d w19 ⟨hk,hvt,hC,S⟩ K16 hK16
  simp only at hk hvt hC S ⊢
  rw [List.getD_cons_zero]
  refine gg_ ?_
  refine zm (fun hltk=>?_) (fun hgek=>?_)
  ·have hltk : k<(nxt (lkN g) (q : Int)).length:=by omega
   obtain ⟨bk,ok,hpk,_,gk⟩:=yi huq.sl hltk
   have hyN:=hNx k hltk
   have hB2:=hnextB k C hC hltk
   have hBy:=(hC.2 _ hyN).2
   generalize (nxt (lkN g) (q : Int))[k]=y at gk hyN hB2 hBy
   have y0:=hyN.1;have y1:=hyN.2
   rw [hn2] at y1
   have hBl:=hC.1
   have hyv : y.toNat<vt.length:=by omega
   have hyB : y.toNat<C.length:=by omega
   have hBe : C.getD y.toNat []=C[y.toNat]:=by rw [List.getD_eq_getElem?_getD,List.getElem?_eq_getElem hyB];rfl
   rw [hBe] at hB2 hBy
   obtain ⟨pp,qq,hsp,hset⟩:=QV (f:=fun v l=>Asr.row v 3 1 l.length (ints l)) hyv hyB
   cases hpk
   refine gg_ ?_
   refine zh (by rw [Int.toNat_natCast];exact S.at gk) ?_
   refine gg_ ?_
   refine S.ld (b:=b46) (v:=vt[y.toNat]) ?_ (by rw [Nat.zero_add];exact List.getElem?_eq_getElem hyv)
   refine S.litN (e:=3) (cs:=[.int .i64 (q : Nat)]) (by kernel_rfl) fun b70 w20 S=>?_
   have S : StX noX w (r.or ρ) w20 ((.cell b70 [.int .i64 (q : Nat)] 3 :: .cell b46 vt 50::pp) ++ .row vt[y.toNat] 3 1 C[y.toNat].length (ints C[y.toNat])::(qq++yz bs R0)):=by
    rw [Xt,hsp] at S
    simpa using S
   haveI hra : kc vt[y.toNat] ((.cell b70 [.int .i64 (q : Nat)] 3 :: .cell b46 vt 50::pp) ++ .row vt[y.toNat] 3 1 C[y.toNat].length (ints C[y.toNat])::(qq++yz bs R0)) 3 1 C[y.toNat].length (ints C[y.toNat]) (fun x=>(.cell b70 [.int .i64 (q : Nat)] 3 :: .cell b46 vt 50::pp)++x::(qq++yz bs R0)):=⟨_,_,rfl,fun _=>rfl⟩
   refine StX.apM S (h:=hra) (m':=1) (Sl.blk (S.has (.cell b70 [.int .i64 (q : Nat)] 3) (by simp))) (fun v71 w21 nc _ S=>⟨nc,?_⟩) (by omega)
   have S : StX noX w (r.or ρ) w21 (.cell b46 vt 50::(pp ++ .row v71 3 1 (C[y.toNat] ++ [(q : Int)]).length (ints (C[y.toNat] ++ [(q : Int)]))::(qq++yz bs R0))):=by
    rw [xF,List.length_append]
    exact S.tl
   have h1v : v71.oneCell'=true:=S.row1 (h:=(⟨.cell b46 vt 50::pp,qq++yz bs R0,rfl,fun _=>rfl⟩ : kc v71 _ 3 1 _ _ (fun x=>.cell b46 vt 50::(pp++x::(qq++yz bs R0))))) v71
   refine gg_ ?_
   refine S.stN' (b:=b46) (fun w22 S=>?_) (by omega) h1v
   rw [Nat.zero_add] at S
   refine gg_ ?_
   refine hK16 (k+1,vt.set y.toNat v71,C.set y.toNat (C[y.toNat] ++ [(q : Int)])) _ ⟨hltk,by show (vt.set y.toNat v71).length=n;rw [List.length_set];exact hvt,hB2,?_⟩ (by show (nxt (lkN g) (q : Int)).length - (k+1)<(nxt (lkN g) (q : Int)).length - k;omega)
   show StX noX w (r.or ρ) w22 (.cell b46 (vt.set y.toNat v71) 50::(Xt (vt.set y.toNat v71) (C.set y.toNat (C[y.toNat] ++ [(q : Int)]))++yz bs R0))
   rw [Xt,hset,List.append_assoc]
   exact S
  ·have hke : k=(nxt (lkN g) (q : Int)).length:=by omega
   subst hke
   refine gg_ ?_
   exact hK12 (q+1,vt,C) _ ⟨hlt,hvt,hrowB C hC,S⟩ (by show n - (q+1)<n - q;omega)
 have hqe : q=n:=by omega
 clear hK12 K12 hge hq d
 subst hqe
 have hBend:=fun p x hp=>(hn2 ▸ hB : BfI g (ze g).length 0 B).end (p:=p) (x:=x) hp
 have hBf:=fun p hp=>(hB.2 p hp).2
 have hBl:=hB.1
 rw [hn2] at hBl
 have S : StX noX w (r.or ρ) w15 (Xt vs B++(.cell b46 vs 50::yz bs R0)):=S.permO List.perm_middle
 obtain ⟨s2,S,ha2,hs2⟩:=StX.frzRows (sz:=1) (R:=z6) (C:=ints) (by decide) (fun l=>yB) (by omega) S
 have ha2 : Above w s2:=fun b o ho=>(ha2 b o ho).resolve_right id
 have hb46:=(S.mine (.cell b46 vs 50) (by simp) b46 rfl).1.resolve_right id
 have S:=S.reGh.frz.reGh
 have B46 : Blk w15 b46 vs 50:=S.holds.le (r:=Go.Sh.one b46 vs 50) b46 _ ⟨rfl,rfl⟩
 have hbef : NetG (s2.or (Go.Sh.one b46 vs 50)) (.slice (some ⟨b46,0,none⟩) q q) B:=by
  have hrow : RowOf 1 (RowC (s2.or (Go.Sh.one b46 vs 50))) vs B:=⟨by omega,fun i hi=>by
   rw [Nat.mul_one,List.drop_eq_getElem_cons (by omega : i<vs.length)]
   exact ⟨vs[i],rfl,(hs2 i (by omega) hi).cells,by
    have:=hBf (i : Nat) ⟨by omega,by omega⟩
    rw [Int.toNat_natCast,List.getD_eq_getElem?_getD,List.getElem?_eq_getElem hi] at this
    have this : B[i].length≤2*q+0:=this
    rw [maxLen];omega⟩⟩
  have:=ahF (w:=w15) hrow (by decide) B46
  rw [hBl] at this
  exact ⟨this.cells,by rw [maxLen];omega⟩
 have ha3 : Above w ((ρ.or s2).or (Go.Sh.one b46 vs 50)):=(ha.or' ha2).or' (by rintro b o ⟨rfl,_⟩;exact hb46)
 have hA:=hA.up (σ:=(ρ.or s2).or (Go.Sh.one b46 vs 50))
 have h1:=h1.up (s:=(ρ.or s2).or (Go.Sh.one b46 vs 50))
 have hbef:=hbef.up (s:=(ρ.or s2).or (Go.Sh.one b46 vs 50))
 have hA0 : RwsAt ρ b4 br bs q:=by assumption
 have leρ : Le ρ ((ρ.or s2).or (Go.Sh.one b46 vs 50)):=inferInstance
 have hx1:=hx0.up (s:=r.or ((ρ.or s2).or (Go.Sh.one b46 vs 50)))
 generalize (ρ.or s2).or (Go.Sh.one b46 vs 50)=σ at S ha3 hA h1 hbef leρ hx1
 clear hs2 B46
 refine S.alN fun b11 w23 _ S=>?_
 refine gp_ ?_
 refine S.alN fun b12 w24 _ S=>?_
 refine S.stN' (b:=b12) fun w25 S=>?_
 have S : StX noX w (r.or σ) w25 (.cell b12 [.func (.func Tryz.zx) #[] #[.pointer (some ⟨b4,0,none⟩),.pointer (some ⟨b11,0,none⟩)]] 102 :: .cell b11 [.slice none 0 0] 99::yz bs R0):=S
 have hb12:=(S.mine _ List.mem_cons_self b12 rfl).1.resolve_right id
 have S:=S.frz.reGh
 have h12 : Ob (σ.or (Go.Sh.one b12 [.func (.func Tryz.zx) #[] #[.pointer (some ⟨b4,0,none⟩),.pointer (some ⟨b11,0,none⟩)]] 102)) fun w=>w.cell? ⟨b12,0,none⟩=some (.func (.func Tryz.zx) #[] #[.pointer (some ⟨b4,0,none⟩),.pointer (some ⟨b11,0,none⟩)]):=fun w' hw'=>by
  have B : Blk w' b12 [.func (.func Tryz.zx) #[] #[.pointer (some ⟨b4,0,none⟩),.pointer (some ⟨b11,0,none⟩)]] 102:=zF w' (hw'.le (h:=inferInstance))
  exact B.cell 0
 have ha4 : Above w (σ.or (Go.Sh.one b12 [.func (.func Tryz.zx) #[] #[.pointer (some ⟨b4,0,none⟩),.pointer (some ⟨b11,0,none⟩)]] 102)):=ha3.or' (by rintro b o ⟨rfl,_⟩;exact hb12)
 have leτ : Le ρ (σ.or (Go.Sh.one b12 [.func (.func Tryz.zx) #[] #[.pointer (some ⟨b4,0,none⟩),.pointer (some ⟨b11,0,none⟩)]] 102)):=inferInstance
 have hA:=hA.up (σ:=σ.or (Go.Sh.one b12 [.func (.func Tryz.zx) #[] #[.pointer (some ⟨b4,0,none⟩),.pointer (some ⟨b11,0,none⟩)]] 102))
 have h1:=h1.up (s:=σ.or (Go.Sh.one b12 [.func (.func Tryz.zx) #[] #[.pointer (some ⟨b4,0,none⟩),.pointer (some ⟨b11,0,none⟩)]] 102))
 have hbef:=hbef.up (s:=σ.or (Go.Sh.one b12 [.func (.func Tryz.zx) #[] #[.pointer (some ⟨b4,0,none⟩),.pointer (some ⟨b11,0,none⟩)]] 102))
 have hx1:=hx0.up (s:=r.or (σ.or (Go.Sh.one b12 [.func (.func Tryz.zx) #[] #[.pointer (some ⟨b4,0,none⟩),.pointer (some ⟨b11,0,none⟩)]] 102)))
 generalize σ.or (Go.Sh.one b12 [.func (.func Tryz.zx) #[] #[.pointer (some ⟨b4,0,none⟩),.pointer (some ⟨b11,0,none⟩)]] 102)=τ at S ha4 hA h1 hbef leτ hx1 h12
 clear ha3 leρ hb12
 have S:=S.ownNil 101 2
 have hWk0 : Wk g (fun x q'=>Usd g x q') (fun _ _ _=>False) R0 []:=by
  rw [← hR0,← hn2];exact Wk.start
 have hoff : ([] : List (Int × Int)).length+yW R0≤1000000:=by
  have e : yW R0=g.tys.length*q:=by
   rw [yW,← hR0,List.map_replicate,agN];simp
  rw [e,List.length_nil,Nat.zero_add]
  exact Nat.le_trans (Nat.mul_le_mul hmf hnf) (by decide)
 have S : StX noX w (r.or τ) w25 (lwL b11 bs (.slice none 0 0) (R0,[])):=S
 refine zj (ι:=Nat × Value × (yw × List (Int × Int))) (fun i=>[.int .i64 (i.1 : Nat)]) (fun i w'=>i.1≤q∧Wk g (fun x q'=>Usd g x q'∧(i.1 : Int)≤q') (fun _ _ _=>False) i.2.2.1 i.2.2.2∧i.2.2.2.length+yW i.2.2.1≤1000000∧StX noX w (r.or τ) w' (lwL b11 bs i.2.1 i.2.2)) (fun i=>q - i.1) (0,.slice none 0 0,(R0,[])) rfl ⟨Nat.zero_le _,hWk0.mono (fun x q' _ hq' _ hu=>.inl ⟨hu,hq'.1⟩) (fun _ _ _ _ _ _ _ h=>h.elim),hoff,S⟩ ?_
 repeat clear S
 clear hWk0 hoff hR0
 rintro ⟨i,vl,st⟩ d w29 ⟨hi,hW,hoff,S⟩ K26 hK26
 simp only at hi hW hoff S ⊢
 rw [List.getD_cons_zero]
 refine gg_ ?_
 refine zm (fun hlt=>?_) (fun hge=>?_)
 ·have hlt : i<q:=by omega
  have hqN : isN (ze g) (i : Int):=⟨by omega,by omega⟩
  obtain ⟨p,hp,hpm,hue,hee⟩:=Yp hqN
  have hul : ∀ x ∈ zC p,isL g x∧Lvd g x i:=fun x hx=>⟨hF.loc.uses p hpm x hx,.use hqN (by rw [Usd,hue];exact hx)⟩
  have hRl:=hW.len
  have hbl : bs.length=g.tys.length:=hie
  refine S.alN fun b13 w30 _ S=>?_
  refine S.stN' (b:=b13) fun w31 S=>?_
  have S : StX noX w (r.or τ) w31 (.cell b13 [.int .i64 (i : Nat)] 3::lwL b11 bs vl st):=S
  have S:=S.frz
  have h13 : Ob ((r.or τ).or (Go.Sh.one b13 [.int .i64 (i : Nat)] 3)) fun w=>w.cell? ⟨b13,0,none⟩=some (.int .i64 (i : Nat)):=fun w' hw'=>by
   have B : Blk w' b13 [.int .i64 (i : Nat)] 3:=zF w' (hw'.le (h:=inferInstance))
   exact B.cell 0
  have h1':=h1.up (s:=(r.or τ).or (Go.Sh.one b13 [.int .i64 (i : Nat)] 3))
  have h12':=h12.up (s:=(r.or τ).or (Go.Sh.one b13 [.int .i64 (i : Nat)] 3))
  have hA':=hA.up (σ:=(r.or τ).or (Go.Sh.one b13 [.int .i64 (i : Nat)] 3))
  have hx':=hx1.up (s:=(r.or τ).or (Go.Sh.one b13 [.int .i64 (i : Nat)] 3))
  have leυ : Le (r.or τ) ((r.or τ).or (Go.Sh.one b13 [.int .i64 (i : Nat)] 3)):=inferInstance
  generalize (r.or τ).or (Go.Sh.one b13 [.int .i64 (i : Nat)] 3)=υ at S h13 h1' h12' hA' hx' leυ
  have hw31 : w.heap.size≤w31.heap.size:=S.x.size
  have hlow31:=S.low
  refine gp_ ?_
  refine aia ((zC p).map aam) (y9 (lwL b11 bs vl st)) (fun k D W=>∃ vl st,D=y9 (lwL b11 bs vl st)∧Wk g (fun x q'=>Usd g x q'∧((i : Int)<q'∨(q'=i∧x ∉ (zC p).take k))) (fun _ _ _=>False) st.1 st.2∧st.2.length+yW st.1≤1000000∧StX noX w υ W (lwL b11 bs vl st))
   (Qv S) (VP (by kernel_rfl) (fun h=>Tryz.YN h) S.holds hx' h1' h13 hqN.1 hp (hF.args p hpm) (fun d hd=>⟨S.dlt hd,fun o=>?_⟩)) ?_ ?_ ⟨vl,st,rfl,hW.mono (fun x q' _ hq' _ hu=>.inl ⟨hu.1,?_⟩) (fun _ _ _ _ _ _ _ h=>h.elim),hoff,S⟩ ?_ ?_
  ·obtain ⟨y,hy,hdy⟩:=yT.1 hd
   exact (S.mine y hy d hdy).2 o
  ·intro y hy
   obtain ⟨z,_,rfl⟩:=List.mem_map.1 hy
   rfl
  ·rintro k D W W' ⟨vl,st,h1,h2,h3,S⟩ e
   exact ⟨vl,st,h1,h2,h3,S.nl e hw31⟩
  ·have:=hu.2
   by_cases e : q'=i
   ·exact .inr ⟨e,by simp⟩
   ·exact .inl (by omega)
  ·clear S hW hoff
   rintro k y D W hy ⟨vl,st,rfl,hW,hoff,S⟩ KR hN
   rw [List.getElem?_map,Option.map_eq_some_iff] at hy
   obtain ⟨z,hz,rfl⟩:=hy
   obtain ⟨hk,hze⟩:=List.getElem?_eq_some_iff.1 hz
   obtain ⟨hzL,hzl⟩:=hul z (List.mem_of_getElem? hz)
   refine ⟨.refl _,fun W9 e9=>?_⟩
   have hsz:=e9.size
   have S:=S.nl e9 hw31
   rw [List.getD_cons_zero]
   refine zh (S.at h12') ?_
   refine zh (S.at h13) ?_
   refine af8 (by kernel_rfl) ?_
   have z0:=hzL.1;have z1:=hzL.2
   have hWl:=hW.len
   obtain ⟨hW2,hm2,hk2,hs2⟩:=hW.add hzL hqN hzl
   refine JD S hA' ⟨z0,by omega⟩ ⟨hqN.1,by omega⟩ (by omega) (by rw [hW.rlen z hzL,hn2]) (by omega) fun vl' w' nc R=>⟨nc,R.x,?_⟩
   refine hN (y9 (lwL b11 bs vl' (xM st ((i : Int),z)))) _ (fun d hd=>?_) ⟨vl',xM st ((i : Int),z),rfl,?_,?_,S.whole R fun _ h=>h⟩
   ·obtain ⟨y,hy,hdy⟩:=yT.1 hd
    rcases (R.mine y hy d hdy).1 with h1|h1
    ·exact .inr ⟨by omega,R.dlt hd⟩
    ·exact .inl h1
   ·refine hW2.mono (fun x q' hxL hq' _ hu=>?_) (fun _ _ _ _ _ _ _ h=>h.elim)
    rcases hu.2 with h|⟨h,h2⟩
    ·exact .inl ⟨hu.1,.inl h⟩
    ·subst h
     by_cases e : x=z
     ·subst e;exact .inr hm2
     ·refine .inl ⟨hu.1,.inr ⟨rfl,?_⟩⟩
      rw [List.take_succ_eq_append_getElem hk,List.mem_append,List.mem_singleton,hze]
      exact fun h=>h.elim h2 e
   ·have hs2 : (xM st ((i : Int),z)).2.length+yW (xM st ((i : Int),z)).1=st.2.length+yW st.1:=hs2
    omega
  ·clear S hW hoff
   rintro D W ⟨vl,st,rfl,hW,hoff,S⟩
   rw [List.length_map,List.take_length] at hW
   refine gg_ ?_
   refine hK26 (i+1,vl,st) _ ⟨hlt,hW.mono (fun x q' _ hq' hu1 hu=>?_) (fun _ _ _ _ _ _ _ h=>h.elim),hoff,S.to _⟩ (by show q - (i+1)<q - i;omega)
   rcases hu.2 with h|⟨rfl,h2⟩
   ·exact .inl ⟨hu.1,by show ((i+1 : Nat) : Int)≤q';omega⟩
   ·exfalso
    rw [Usd,hue] at hu1
    exact h2 hu1
 have hie2 : i=q:=by omega
 clear hK26 K26 hge hi d
 have hW : Wk g (fun _ _=>False) (fun _ _ _=>False) st.1 st.2:=hW.mono (fun x q' _ hq' _ hu=>by have h2:=hu.2;have:=hq'.2;omega) (fun _ _ _ _ _ _ _ h=>h.elim)
 have hx2:=hx0.up (s:=r.or τ)
 refine zh (S.at h1) ?_
 refine gp_ ?_
 refine zj (ι:=Value × (yw × List (Int × Int))) (fun _=>[]) (fun i w'=>Wk g (fun _ _=>False) (fun _ _ _=>False) i.2.1 i.2.2∧i.2.2.length+yW i.2.1≤1000000∧StX noX w (r.or τ) w' (lwL b11 bs i.1 i.2)) (fun i=>i.2.2.length+yW i.2.1) (vl,st) rfl ⟨hW,hoff,S⟩ ?_
 repeat clear S
 clear hW hoff
 rintro ⟨vk,st⟩ d w44 ⟨hW,hoff,S⟩ K41 hK41
 simp only at hW hoff S ⊢
 obtain ⟨R,T⟩:=st
 simp only at hW hoff S
 refine S.ld (b:=b11) ?_
 obtain ⟨pk,ck,hvk,hpk,hck,hxk,hslk⟩:=S.rowS vk
 rw [hvk] at S ⊢
 dsimp only at hck hxk hslk ⊢
 have S : StX noX w (r.or τ) w44 (.row (.slice pk T.length ck) 101 2 T.length (kD T) :: .cell b11 [.slice pk T.length ck] 99::yz bs R):=S
 refine gg_ ?_
 refine zm (fun hgt=>?_) (fun hle=>?_)
 ·have hT : T≠[]:=fun e=>by rw [e] at hgt;simp at hgt
  obtain ⟨T',w0',rfl⟩ : ∃ T' w0',T=T' ++ [w0']:=⟨T.dropLast,T.getLast hT,(List.dropLast_concat_getLast hT).symm⟩
  obtain ⟨q0,x0⟩:=w0'
  obtain ⟨hWp,hxL,hq0N,hlv⟩:=hW.pop
  have q00:=hq0N.1;have q01:=hq0N.2
  rw [hn2] at q01
  refine S.ld (b:=b11) ?_
  refine S.ld (b:=b11) ?_
  refine gg_ ?_
  have hTl : ((T' ++ [(q0,x0)]).length : Int) - 1=(T'.length : Nat):=by simp
  have hTn : (T' ++ [(q0,x0)]).length=T'.length+1:=by simp
  rw [Yl] at hslk
  have hc2:=adQ T'
  obtain ⟨bk,ok,rfl⟩ : ∃ b o,pk=some ⟨b,o,none⟩:=by
   obtain ⟨b,o,hb,_⟩:=hslk (T'.length*2) (.int .i64 q0) (by rw [List.getElem?_append_right (by omega),hc2,Nat.sub_self];rfl)
   exact ⟨b,o,hb⟩
  have hel : ∀ j u,[Value.int .i64 q0,.int .i64 x0][j]? = some u→w44.cell? ⟨bk,ok+T'.length*2+j,none⟩=some u:=fun j u hj=>by
   obtain ⟨b,o,hb,hcl⟩:=hslk (T'.length*2+j) u (by rw [List.getElem?_append_right (by omega),hc2,Nat.add_sub_cancel_left];exact hj)
   cases hb
   rw [Nat.add_assoc]
   exact hcl
  rw [hTl]
  refine gg_ ?_
  refine zH (n:=2) rfl (fun j u hj=>by rw [Int.toNat_natCast];exact hel j u hj) ?_
  refine S.alN fun b16 w45 _ S=>?_
  refine S.stBN (b:=b16) fun w46 S=>?_
  have S : StX noX w (r.or τ) w46 (.cell b16 [.int .i64 q0,.int .i64 x0] 101 :: .row (.slice (some ⟨bk,ok,none⟩) (T' ++ [(q0,x0)]).length ck) 101 2 (T' ++ [(q0,x0)]).length (kD (T' ++ [(q0,x0)])) :: .cell b11 [.slice (some ⟨bk,ok,none⟩) (T' ++ [(q0,x0)]).length ck] 99::yz bs R):=S
  refine S.ld (b:=b11) ?_
  refine S.ld (b:=b11) ?_
  refine gg_ ?_
  rw [hTl]
  refine gg_ ?_
  refine S.stN' (b:=b11) fun w47 S=>?_
  have S:=StX.cutRow (p:=some ⟨bk,ok,none⟩) (cap:=ck) (m:=(T' ++ [(q0,x0)]).length) (n:=T'.length) S (show T'.length≤(T' ++ [(q0,x0)]).length by omega)
  rw [Yl,List.take_append_of_le_length (by omega),List.take_of_length_le (by omega),Int.toNat_natCast] at S
  have S : StX noX w (r.or τ) w47 (.cell b16 [.int .i64 q0,.int .i64 x0] 101::lwL b11 bs (.slice (some ⟨bk,ok,none⟩) T'.length ck) (R,T')):=S
  have S:=S.frz
  have h16 : ∀ j u,[Value.int .i64 q0,.int .i64 x0][j]? = some u→Ob ((r.or τ).or (Go.Sh.one b16 [.int .i64 q0,.int .i64 x0] 101)) fun w=>w.cell? ⟨b16,j,none⟩=some u:=fun j u hj w' hw'=>by
   have B : Blk w' b16 [.int .i64 q0,.int .i64 x0] 101:=zF w' (hw'.le (h:=inferInstance))
   show w'.cell? ⟨b16,j,none⟩=some u
   rw [B.cell]
   exact hj
  have h12':=h12.up (s:=(r.or τ).or (Go.Sh.one b16 [.int .i64 q0,.int .i64 x0] 101))
  have hA':=hA.up (σ:=(r.or τ).or (Go.Sh.one b16 [.int .i64 q0,.int .i64 x0] 101))
  have hx':=hx2.up (s:=(r.or τ).or (Go.Sh.one b16 [.int .i64 q0,.int .i64 x0] 101))
  have hbef':=hbef.up (s:=(r.or τ).or (Go.Sh.one b16 [.int .i64 q0,.int .i64 x0] 101))
  have leυ : Le (r.or τ) ((r.or τ).or (Go.Sh.one b16 [.int .i64 q0,.int .i64 x0] 101)):=inferInstance
  generalize (r.or τ).or (Go.Sh.one b16 [.int .i64 q0,.int .i64 x0] 101)=υ at S h16 h12' hA' hx' hbef' leυ
  clear hel hslk hxk
  obtain ⟨bb,ob,ub,hpb,_,hcb,hub⟩:=XJ hbef' (i:=q0.toNat) (by omega)
  cases hpb
  have hBg : B.getD q0.toNat []=B[q0.toNat]'(by omega):=by rw [List.getD_eq_getElem?_getD,List.getElem?_eq_getElem (by omega)];rfl
  have hBm:=fun x=>hBend q0 x hq0N
  have hBq:=hBf q0 hq0N
  rw [hBg] at hBm hBq
  generalize B[q0.toNat]'(by omega)=A at hub hBm hBq
  obtain ⟨pA,cA,rfl,_,_⟩:=hub.sl.shape
  refine gg_ ?_
  refine zh (S.at (h16 0 _ rfl)) ?_
  refine gg_ ?_
  refine zh (S.at hcb) ?_
  refine gg_ ?_
  refine zj (ι:=Nat × Value × (yw × List (Int × Int))) (fun i=>[.int .i64 (i.1 : Nat)]) (fun i w'=>i.1≤A.length∧Wk g (fun _ _=>False) (fun y p q=>y=x0∧p=q0∧q ∈ A.drop i.1) i.2.2.1 i.2.2.2∧i.2.2.2.length+yW i.2.2.1=T'.length+yW R∧StX noX w υ w' (lwL b11 bs i.2.1 i.2.2)) (fun i=>A.length - i.1) (0,.slice (some ⟨bk,ok,none⟩) T'.length ck,(R,T')) rfl ⟨Nat.zero_le _,hWp.mono (fun _ _ _ _ _ h=>h.elim) (fun y p q _ _ _ _ h=>.inl ⟨h.1,h.2.1,(hBm q).2 h.2.2⟩),rfl,S⟩ ?_
  repeat clear S
  rintro ⟨k,vj,st⟩ d w51 ⟨hk,hWi,hsum,S⟩ K48 hK48
  simp only at hk hWi hsum S ⊢
  rw [List.getD_cons_zero]
  refine gg_ ?_
  refine zm (fun hltk=>?_) (fun hgek=>?_)
  ·have hltk : k<A.length:=by omega
   obtain ⟨bA,oA,hpA,_,gA⟩:=yi hub.sl hltk
   obtain ⟨hq1N,hq1n⟩:=Vb.1 ((hBm _).1 (List.getElem_mem hltk))
   have hdr : A.drop k=A[k]::A.drop (k+1):=List.drop_eq_getElem_cons hltk
   generalize A[k]=q1 at gA hq1N hq1n hdr
   have q10:=hq1N.1;have q11:=hq1N.2
   rw [hn2] at q11
   obtain ⟨p1,hp1,hpm1,hue1,hee1⟩:=Yp hq1N
   refine zq (fun _ w'=>∃ (vj : Value) (st : yw × List (Int × Int)),Wk g (fun _ _=>False) (fun y p q=>y=x0∧p=q0∧q ∈ A.drop (k+1)) st.1 st.2∧st.2.length+yW st.1=T'.length+yW R∧StX noX w υ w' (lwL b11 bs vj st)) (fun K52 hK52=>?_) ?_
   ·cases hpA
    refine gg_ ?_
    refine zh (by rw [Int.toNat_natCast];exact S.at gA) ?_
    refine xo (by kernel_rfl) ?_
    show zd _ _ #[.pointer (some ⟨bl,0,none⟩),.int .i64 q1] _ _
    refine ju S.holds hx' q10 hp1 (hF.args p1 hpm1) fun w56 e56=>⟨NC.of_ext e56,?_⟩
    have S:=S.go e56
    refine gS_ ?_
    refine zi (c:=decide ((yE p1).getD 0=x0)) (fun _ K2 hK2=>?_) ?_
    ·refine gg_ ?_
     refine zh (S.at (h16 1 _ rfl)) ?_
     refine gg_ ?_
     exact hK2
    have hcE : ((yE p1).isSome&&decide ((yE p1).getD 0=x0))=decide (yE p1=some x0):=by cases yE p1<;>simp
    rw [hcE]
    refine zm (fun hE=>?_) (fun hE=>?_)
    ·refine hK52 _ _ ⟨vj,st,hWi.mono (fun _ _ _ _ _ h=>h.elim) (fun y p q _ _ _ hne h=>?_),hsum,S⟩
     obtain ⟨rfl,rfl,hm⟩:=h
     rw [hdr] at hm
     rcases List.mem_cons.1 hm with rfl|hm
     ·exact absurd (show QQ g q=some y by rw [hee1];exact hE) hne
     ·exact .inl ⟨rfl,rfl,hm⟩
    ·have hne : ¬ zW g x0 q1:=fun h=>hE (by rw [← hee1];exact h)
     have hWl:=hWi.len
     have x00:=hxL.1;have x01:=hxL.2
     obtain ⟨hW2,hm2,hk2,hs2⟩:=hWi.add hxL hq1N (.step hq1N hne hq1n hlv)
     have hs2 : (xM st (q1,x0)).2.length+yW (xM st (q1,x0)).1=st.2.length+yW st.1:=hs2
     rw [hTn] at hoff
     refine zh (S.at h12') ?_
     refine gg_ ?_
     refine zh (S.at (h16 1 _ rfl)) ?_
     refine af8 (by kernel_rfl) ?_
     refine JD S hA' ⟨x00,by omega⟩ ⟨q10,by omega⟩ (by omega) (by rw [hWi.rlen x0 hxL,hn2]) (by omega) fun vl' w' nc R2=>⟨nc,?_⟩
     refine hK52 _ _ ⟨vl',xM st (q1,x0),hW2.mono (fun _ _ _ _ _ h=>h.elim) (fun y p q _ _ _ _ h=>?_),by omega,S.whole R2 fun _ h=>h⟩
     obtain ⟨rfl,rfl,hm⟩:=h
     rw [hdr] at hm
     rcases List.mem_cons.1 hm with rfl|hm
     ·exact .inr hm2
     ·exact .inl ⟨rfl,rfl,hm⟩
   rintro _ w55 ⟨vj',st',hW',hsum',S'⟩ d
   refine gg_ ?_
   exact hK48 (k+1,vj',st') _ ⟨hltk,hW',hsum',S'⟩ (by show A.length - (k+1)<A.length - k;omega)
  ·have hke : k=A.length:=by omega
   subst hke
   refine hK41 (vj,st) _ ⟨hWi.mono (fun _ _ _ _ _ h=>h.elim) (fun y p q _ _ _ _ h=>by have:=h.2.2;rw [List.drop_length] at this;cases this),by show st.2.length+yW st.1≤1000000;rw [hTn] at hoff;omega,S.to _⟩ (by show st.2.length+yW st.1<(T' ++ [(q0,x0)]).length+yW R;omega)
 ·have hT : T = []:=List.eq_nil_of_length_eq_zero (by omega)
  subst hT
  have hRe : R=lvR g:=agR hF.net.ok hW
  subst hRe
  refine zh (S.at hA.hd) ?_
  intro w62 e62
  have S:=S.to (r.or ρ)
  have S:=(S.shut e62).tl.tl
  have hRL:=jh (g:=g)
  obtain ⟨s,S,has,hBs⟩:=StX.frzCells (e:=4) (C:=bls) (bs:=bs) (R:=lvR g) (L:=[]) (by omega) (by rw [List.append_nil];exact S)
  have S:=S.reGh
  have has : Above w s:=fun b o ho=>(has b o ho).resolve_right id
  refine h _ (ρ.or s) _ S.ext (StX.newOf (q:=ρ.or s) S (ha.or' has)) ⟨some ⟨br,0,none⟩,bs.length,by rw [hRL,hie],fun h=>(by cases h),by omega,fun j hj=>?_⟩
  have hjb : j<bs.length:=by omega
  refine ⟨[qO q bs[j]],rfl,fun k u hk=>?_,qO q bs[j],rfl,?_,?_⟩
  ·cases k with
   |zero=>
    cases hk
    refine ⟨br,0,rfl,?_⟩
    have:=(hA0.at' j hjb).up (s:=ρ.or s)
    simpa using this
   |succ k=>cases hk
  ·have hm : ((lvR g)[j]).length=q:=by rw [vW,xy,hn2]
   have:=aev.sl (r:=s) (p:=some ⟨bs[j],0,none⟩) (cap:=q) (by simp) (by omega) (fun w' hw'=>Sl.blk (hBs j hjb hj w' hw')) (by decide) ⟨_,S.holds.le (h:=inferInstance)⟩
   rw [hm] at this
   exact this.cells
  ·have hm : ((lvR g)[j]).length=q:=by rw [vW,xy,hn2]
   rw [hm,maxLen];omega
end Go.Proofs
end
section
namespace Go.Proofs
open Go.Sh Go.RowKit
set_option maxRecDepth 100000
set_option linter.unusedSimpArgs false
set_option linter.unusedVariables false
theorem acL {r : Gh} {p : Option Addr} {k cap : Nat} {R : yw} (h : SlG 1 r (age r) (.slice p k cap) R) {i : Nat} (hi : i<R.length) : ∃ b off v,p=some ⟨b,off,none⟩∧k=R.length∧(Ob r fun w=>w.cell? ⟨b,off+i,none⟩=some v)∧SlB 1 r adq v R[i]:=by
 obtain ⟨b,off,c,hE,hc,hcc,hcl⟩:=h.get (by decide) hi
 obtain ⟨v,rfl,hv⟩:=hcc
 exact ⟨b,off,v,hE,h.len,by have:=hcl 0 v rfl;simpa using this,hv⟩
theorem abx {u : UnD} {n q : Int} {g : GrD} (hE : fnE u n=0) (hnu : netU u n=ze g) : okQ u n q=decide (isN (ze g) q):=by rw [okQ,hE,hnu];simp
set_option maxHeartbeats 1000000 in
theorem aeA {u : UnD} {n q : Int} {v : Value} {w : World} {r : Gh} {K : Value→World→Prop} (hr : Holds r w) (hu : UnG r v u)
  (h : ∀ v' s w',Ext w w'→New w s w'→SlG 1 s z6 v' (if okQ u n q=true then (match u.fs[n.toNat]? with|some g=>afz g q|none=>[]) else [])→K (.tuple #[v',.int .i64 (if okQ u n q=true then 0 else 2)]) w') : zd Tryz.prog Tryz.Xl #[v,.int .i64 n,.int .i64 q] w K:=by
 refine Tryz.adu ?_
 unfold Tryz.VO
 have hu0:=hu
 obtain ⟨p0,cap0,vf,rfl,_,_,hst,hsl,hfn⟩:=hu
 obtain ⟨qf,capf,rfl,_,_⟩:=hfn.sl.shape
 have S:=St.start hr
 refine S.box fun b3 w1 S=>?_
 have S : StX noX w r w1 [.cell b3 [.slice p0 u.ss.length cap0,.slice qf u.fs.length capf,.int .i64 u.mn] 25]:=S
 refine S.ldB (b:=b3) ?_ rfl
 refine qz S.holds hu0 fun vx s w2 e2 n2 hg hz=>?_
 obtain ⟨S,_,_⟩:=S.tell e2 n2
 refine gS_ ?_
 refine zo (c:=!okQ u n q) (fun hb K2 hK2=>?_) ?_
 ·have hE : fnE u n=0:=by simpa using hb
  obtain ⟨g,hgi,hnu,hx⟩:=hg hE
  refine qN S.holds hx ?_
  refine gp_ ?_
  rw [abx hE hnu] at hK2
  exact hK2
 refine c_b (fun hb=>?_) (fun hb=>?_)
 ·have hok : okQ u n q=false:=by
   by_cases hE : fnE u n=0
   ·simpa [hE] using hb
   ·rw [okQ,decide_eq_true hE];rfl
  rw [hok] at h
  exact h _ nothing _ S.ext New.nothing SlG.nil
 simp only [Bool.or_eq_false_iff,decide_eq_false_iff_not,Decidable.not_not,Bool.not_eq_false'] at hb
 obtain ⟨hE,hok⟩:=hb
 obtain ⟨g,hgi,hnu,hx⟩:=hg hE
 have hqN:=(Xs hok).2
 rw [hnu] at hqN
 have q0:=hqN.1;have q1:=hqN.2
 have hF:=xO hE hgi
 have hmf:=hF.loc.few
 simp only [hok,if_true,hgi] at h
 have S:=S.tl
 rw [hE]
 refine Qh S.holds hx hF fun vr s5 w5 e5 n5 hR=>?_
 obtain ⟨S,_,_⟩:=S.tell e5 n5
 obtain ⟨pr,cr,rfl,_,_⟩:=hR.shape
 have hRl:=jh (g:=g)
 have hcl:=afy (g:=g) (q:=q)
 have S:=S.ownNil 3 1
 have S : StX noX w ((r.or s).or s5) w5 [.row (.slice none 0 0) 3 1 (mkd ((kQ g q).take 0)).length (ints (mkd ((kQ g q).take 0)))]:=S
 refine gg_ ?_
 refine zj (ι:=Nat × Value) (fun i=>[i.2,.int .i64 (i.1 : Nat)]) (fun i w'=>i.1≤(lvR g).length∧StX noX w ((r.or s).or s5) w' [.row i.2 3 1 (mkd ((kQ g q).take i.1)).length (ints (mkd ((kQ g q).take i.1)))]) (fun i=>(lvR g).length - i.1) (0,.slice none 0 0) rfl ⟨Nat.zero_le _,S⟩ ?_
 repeat clear S
 rintro ⟨i,vl⟩ d w12 ⟨hi,S⟩ K9 hK9
 simp only at hi S ⊢
 simp only [List.getD_cons_zero,List.getD_cons_succ]
 refine gg_ ?_
 refine zm (fun hlt=>?_) (fun hge=>?_)
 ·have hlt : i<(lvR g).length:=by omega
  have hic : i<(kQ g q).length:=by omega
  obtain ⟨bi,oi,vi,hpi,_,hci,hvi⟩:=acL hR hlt
  have hsn:=QS hic
  have hcm : (kQ g q)[i]=mk' (lvR g)[i] q:=by rw [vW];simp [kQ]
  have hml : (lvR g)[i].length=(ze g).length:=by rw [vW,xy]
  generalize (lvR g)[i]=m at hvi hcm hml
  obtain ⟨pm,cm,rfl,_,_⟩:=hvi.sl.shape
  obtain ⟨bm,om,hpm,_,gm⟩:=acI hvi.sl (i:=q.toNat) (by omega)
  have hmq : m[q.toNat]'(by omega)=mk' m q:=by rw [mk',List.getD_eq_getElem?_getD,List.getElem?_eq_getElem (by omega)];rfl
  rw [hmq,← hcm] at gm
  have hfl : (mkd ((kQ g q).take i)).length≤512:=by
   have:=agX (m:=(kQ g q).take i)
   rw [List.length_take] at this
   omega
  rw [hpi]
  refine zq (fun x w'=>∃ vl',x = [vl']∧StX noX w ((r.or s).or s5) w' [.row vl' 3 1 (mkd ((kQ g q).take (i+1))).length (ints (mkd ((kQ g q).take (i+1))))]) (fun K13 hK13=>?_) ?_
  ·refine gg_ ?_
   refine zh (by rw [Int.toNat_natCast];exact S.at hci) ?_
   rw [hpm]
   refine gg_ ?_
   refine zh (S.at gm) ?_
   rw [hsn] at hK13
   refine c_b (fun hb=>?_) (fun hb=>?_)
   ·rw [if_pos hb] at hK13
    refine S.lit (e:=3) (cs:=[.int .i64 (i : Nat)]) (by kernel_rfl) fun b9 w13 S=>?_
    refine S.ap (v:=vl) (m':=1) (Sl.blk (S.blk b9)) (fun v4 w14 S=>?_) (by omega)
    refine hK13 _ _ ⟨v4,rfl,?_⟩
    rw [List.length_append,xF]
    exact S.drop b9
   ·rw [if_neg (by rw [hb];decide),List.append_nil] at hK13
    exact hK13 _ _ ⟨vl,rfl,S⟩
  rintro _ w16 ⟨vl',rfl,S⟩ d
  rw [List.getD_cons_zero]
  refine gg_ ?_
  exact hK9 (i+1,vl') _ ⟨hlt,S⟩ (by show (lvR g).length - (i+1)<(lvR g).length - i;omega)
 ·rw [show i=(kQ g q).length by omega,List.take_length] at S
  obtain ⟨s2,T,hs,_,hab⟩:=S.doneRow yB (by decide) rfl
  exact h _ s2 _ T.ext (StX.newOf (q:=s2) T fun b o ho=>(hab b o ho).resolve_right id) hs
end Go.Proofs
end
section
namespace Go.Proofs
open Go.Sh Go.RowKit Go.BM
set_option maxRecDepth 100000
set_option linter.unusedSimpArgs false
set_option linter.unusedVariables false
abbrev wcs (ws : List (BitVec 64)) : List Value:=ws.map u64
theorem adx {n : Nat} (hn : n≤1032) {X : Nat→Prop} {w0 w : World} {r : Gh} {L : List Asr} {K : Value→World→Prop} (S : StX X w0 r w L)
  (h : ∀ b w',StX X w0 r w' (.cell b (wcs (List.replicate ((n+63) / 64) 0#64)) 65::L)→K (.tuple #[.agg #[.int .i64 n,.slice (some ⟨b,0,none⟩) ((n+63) / 64) ((n+63) / 64)],.int .i64 0]) w') : zd Tryz.prog Tryz.Yn #[.int .i64 n] w K:=by
 refine Tryz.ab7 ?_
 unfold Tryz.JB
 refine S.al fun b2 w1 S=>?_
 refine gp_ ?_
 refine zo (c:=decide (1032<(n : Int))) (fun _ K2 hK2=>by refine gg_ ?_;exact hK2) ?_
 refine c_f (by simp;omega) ?_
 refine gg_ ?_
 refine S.mkS (by omega) (by omega) fun b w2 S=>?_
 rw [show (((n : Int)+63) / 64).toNat=(n+63) / 64 by omega] at S ⊢
 have S:=(show StX X w0 r w2 (.cell b (wcs (List.replicate ((n+63) / 64) 0#64)) 65 :: .cell b2 [.int .i64 0,.slice none 0 0] 31::L) by
  rw [wcs,List.map_replicate];exact S)
 refine zu (cs:=#[.int .i64 n,.slice (some ⟨b,0,none⟩) ((n+63) / 64) ((n+63) / 64)]) (by kernel_rfl) ?_
 refine S.stB (b:=b2) fun w3 S=>?_
 refine S.ceB (b:=b2) ?_ rfl
 exact h _ _ S.d2
abbrev ZK (bs : List Nat) (R : yw) : List Asr:=List.zipWith (fun b m=>Asr.cell b (wcs (yx m)) 65) bs R
abbrev rwL (n b : Nat) : List Value:=[.int .i64 n,.slice (some ⟨b,0,none⟩) ((n+63) / 64) ((n+63) / 64)]
def jP (n : Nat) (bs : List Nat) : List Value:=bs.flatMap fun b=>rwL n b
theorem aeB {n : Nat} {bs : List Nat} {b : Nat} : jP n (bs ++ [b])=jP n bs++rwL n b:=by rw [jP,List.flatMap_append];simp [jP]
def ady (n : Nat) (c : List Value) (b : Nat) : Prop:=c=rwL n b
theorem aby {n : Nat} : ∀ {bs : List Nat},RowOf 2 (ady n) (jP n bs) bs
 |[]=>RowOf.nil
 |b::bs=>by
  have:=yn (c:=rwL n b) (R:=ady n) (x:=b) rfl rfl (aby (n:=n) (bs:=bs))
  rw [jP,List.flatMap_cons]
  exact this
def kS (m : List Bool) (j : Nat) : List (BitVec 64):=xc (fun x y=>x ||| y) (List.replicate ((m.length+63) / 64) 0#64) (mkd (m.take j))
theorem afK {m : List Bool} {j : Nat} : (kS m j).length=(m.length+63) / 64:=by rw [kS,qW,List.length_replicate]
theorem aeC {m : List Bool} {j : Nat} (hj : j<m.length) (hb : m[j]=true) : kS m (j+1)=(kS m j).set (j / 64) ((kS m j).getD (j / 64) 0 ||| (BitVec.ofInt 64 1 <<< (j % 64))):=by
 rw [kS,QS hj,if_pos hb,aay]
 rfl
theorem aeD {m : List Bool} {j : Nat} (hj : j<m.length) (hb : m[j]=false) : kS m (j+1)=kS m j:=by
 rw [kS,QS hj,if_neg (by rw [hb];decide),List.append_nil];rfl
set_option maxHeartbeats 2000000 in
theorem aeE {u : UnD} {n : Int} {v : Value} {w : World} {r : Gh} {K : Value→World→Prop} (hr : Holds r w) (hu : UnG r v u)
  (h : ∀ v' bs s w',Ext w w'→(fnE u n=0→∃ g,u.fs[n.toNat]? = some g∧netU u n=ze g∧bs.length=g.tys.length∧Above w s∧StX noX w (r.or s) w' (ZK bs (lvR g))∧SlG 2 s (ady (ze g).length) v' bs)→(fnE u n≠0→v' = .slice none 0 0)→K (.tuple #[v',.int .i64 (fnE u n)]) w') : zd Tryz.prog Tryz.jD #[v,.int .i64 n] w K:=by
 refine Tryz.adt ?_
 unfold Tryz.VN
 have hu0:=hu
 obtain ⟨p0,cap0,vf,rfl,_,_,hst,hsl,hfn⟩:=hu
 obtain ⟨qf,capf,rfl,_,_⟩:=hfn.sl.shape
 have S:=St.start hr
 refine S.box fun b3 w1 S=>?_
 have S : StX noX w r w1 [.cell b3 [.slice p0 u.ss.length cap0,.slice qf u.fs.length capf,.int .i64 u.mn] 25]:=S
 refine S.ldB (b:=b3) ?_ rfl
 refine qz S.holds hu0 fun vx s w2 e2 n2 hg hz=>?_
 obtain ⟨S,_,_⟩:=S.tell e2 n2
 refine gS_ ?_
 refine zm (fun hE=>?_) (fun hE=>?_)
 ·exact h _ [] nothing _ S.ext (fun h=>absurd h hE) fun _=>rfl
 have hE : fnE u n=0:=Decidable.not_not.1 hE
 obtain ⟨g,hgi,hnu,hx⟩:=hg hE
 have hF:=xO hE hgi
 have hmf:=hF.loc.few
 have hnf:=hF.net.few
 have hnp:=hF.net.pos
 rw [hE] at h
 have S:=S.tl
 refine Qh S.holds hx hF fun vr s5 w5 e5 n5 hR=>?_
 obtain ⟨S,_,_⟩:=S.tell e5 n5
 obtain ⟨pr,cr,rfl,_,_⟩:=hR.shape
 have hRl:=jh (g:=g)
 have S:=S.ownNil 31 2
 generalize hnn : (ze g).length=nn at *
 have S : StX noX w ((r.or s).or s5) w5 (.row (.slice none 0 0) 31 2 ([] : List Nat).length (jP nn [])::ZK [] ((lvR g).take ([] : List Nat).length)):=S
 refine gg_ ?_
 refine zj (ι:=Value × List Nat) (fun i=>[i.1,.int .i64 (i.2.length : Nat)]) (fun i w'=>i.2.length≤(lvR g).length∧StX noX w ((r.or s).or s5) w' (.row i.1 31 2 i.2.length (jP nn i.2)::ZK i.2 ((lvR g).take i.2.length))) (fun i=>(lvR g).length - i.2.length) (.slice none 0 0,[]) rfl ⟨Nat.zero_le _,S⟩ ?_
 repeat clear S
 rintro ⟨vo,bs⟩ d w7 ⟨hi,S⟩ K4 hK4
 simp only at hi S ⊢
 simp only [List.getD_cons_zero,List.getD_cons_succ]
 refine gg_ ?_
 refine zm (fun hlt=>?_) (fun hge=>?_)
 ·have hlt : bs.length<(lvR g).length:=by omega
  obtain ⟨bi,oi,vi,hpi,_,hci,hvi⟩:=acL hR hlt
  have htk : (lvR g).take (bs.length+1)=(lvR g).take bs.length ++ [(lvR g)[bs.length]]:=List.take_succ_eq_append_getElem hlt
  have hml : (lvR g)[bs.length].length=nn:=by rw [vW,xy,hnn]
  generalize (lvR g)[bs.length]=m at hvi hml htk
  obtain ⟨pm,cm,rfl,_,_⟩:=hvi.sl.shape
  rw [hpi]
  refine gg_ ?_
  refine zh (by rw [Int.toNat_natCast];exact S.at hci) ?_
  refine gg_ ?_
  refine adx (by omega) S fun bw w8 S=>?_
  refine gS_ ?_
  refine S.al fun b11 w9 S=>?_
  refine S.stB (b:=b11) fun w10 S=>?_
  have S : StX noX w ((r.or s).or s5) w10 (.cell b11 (rwL m.length bw) 31 :: .cell bw (wcs (kS m 0)) 65 :: .row vo 31 2 bs.length (jP nn bs)::ZK bs ((lvR g).take bs.length)):=S
  refine gg_ ?_
  refine zj (ι:=Nat) (fun i=>[.int .i64 (i : Nat)]) (fun j w'=>j≤m.length∧StX noX w ((r.or s).or s5) w' (.cell b11 (rwL m.length bw) 31 :: .cell bw (wcs (kS m j)) 65 :: .row vo 31 2 bs.length (jP nn bs)::ZK bs ((lvR g).take bs.length))) (fun j=>m.length - j) 0 rfl ⟨Nat.zero_le _,S⟩ ?_
  repeat clear S
  rintro j d w14 ⟨hj,S⟩ K11 hK11
  rw [List.getD_cons_zero]
  refine gg_ ?_
  refine zm (fun hltj=>?_) (fun hgej=>?_)
  ·have hltj : j<m.length:=by omega
   obtain ⟨bm,om,hpm,_,gm⟩:=acI hvi.sl hltj
   have hjw : j / 64<(kS m j).length:=by rw [afK];omega
   refine zq (fun _ w'=>StX noX w ((r.or s).or s5) w' (.cell b11 (rwL m.length bw) 31 :: .cell bw (wcs (kS m (j+1))) 65 :: .row vo 31 2 bs.length (jP nn bs)::ZK bs ((lvR g).take bs.length))) (fun K15 hK15=>?_) ?_
   ·rw [hpm]
    refine gg_ ?_
    refine zh (by rw [Int.toNat_natCast];exact S.at gm) ?_
    refine c_b (fun hb=>?_) (fun hb=>?_)
    ·have S:=S.go (Ext.drew _)
     rw [aeC hltj hb] at hK15
     refine gg_ ?_
     refine S.ld (b:=bw) (v:=u64 ((kS m j).getD (j / 64) 0)) ?_ (by rw [show 0+((j : Int) / 64).toNat=j / 64 by omega,wcs,List.getElem?_map,List.getD_eq_getElem?_getD,List.getElem?_eq_getElem hjw];rfl)
     refine gg_ ?_
     rw [show ((j : Int) % 64).toNat=j % 64 by omega]
     refine S.st (b:=bw) (fun w19 S=>?_) (by rw [wcs,List.length_map];omega)
     refine hK15 [] _ ?_
     rw [show 0+((j : Int) / 64).toNat=j / 64 by omega] at S
     rw [wcs,List.map_set]
     exact S
    ·rw [aeD hltj hb] at hK15
     exact hK15 [] _ S
   rintro _ w18 S d
   refine gg_ ?_
   exact hK11 (j+1) _ ⟨hltj,S⟩ (by omega)
  ·rw [show j=m.length by omega] at S
   have hE : kS m m.length=yx m:=by rw [kS,List.take_length];rfl
   rw [hE] at S
   refine S.ldB (b:=b11) ?_ rfl
   refine S.lit (e:=31) (cs:=rwL m.length bw) (by kernel_rfl) fun b9 w20 S=>?_
   refine S.ap (v:=vo) (m':=1) (Sl.blk (S.blk b9)) (fun v4 w21 S=>?_) (by omega)
   have S:=S.drop b9
   have S:=S.drop b11
   refine gg_ ?_
   have e : ((bs.length : Int)+1)=((bs ++ [bw]).length : Nat):=by simp
   rw [e]
   refine hK4 (v4,bs ++ [bw]) _ ⟨by show (bs ++ [bw]).length≤_;simp;omega,?_⟩ (by show (lvR g).length - (bs ++ [bw]).length<(lvR g).length - bs.length;simp;omega)
   show StX noX w ((r.or s).or s5) w21 (.row v4 31 2 (bs ++ [bw]).length (jP nn (bs ++ [bw]))::ZK (bs ++ [bw]) ((lvR g).take (bs ++ [bw]).length))
   have e2 : ZK (bs ++ [bw]) ((lvR g).take (bs ++ [bw]).length)=ZK bs ((lvR g).take bs.length) ++ [Asr.cell bw (wcs (yx m)) 65]:=by
    rw [List.length_append,List.length_singleton,htk,ZK,List.zipWith_append (by rw [List.length_take];omega)];rfl
   rw [e2,aeB,List.length_append,List.length_singleton]
   rw [hml] at S
   exact S.permO ((List.perm_append_singleton _ (_::_)).trans (.refl _))
 ·have hbe : bs.length=(lvR g).length:=by omega
  rw [hbe,List.take_length] at S
  rw [← hbe] at S
  obtain ⟨s6,T,hs,_,hab⟩:=S.doneRow (aby (n:=nn) (bs:=bs)) (by decide) rfl
  exact h _ bs s6 _ T.ext (fun _=>⟨g,hgi,hnu,by omega,fun b o ho=>(hab b o ho).resolve_right id,T.to _,by rw [hnn];exact hs⟩) fun h=>absurd rfl h
end Go.Proofs
end
section
namespace Go.Sh
section
variable {w : World} {i f l e x : Bool} {A1 : (List Value→World→Prop)→Prop} {A2 A4 A5 : (List Value→World→Prop)→World→Prop} {Z : Value→World→Prop}
theorem aig (R : World→Prop) (h1 : i=true→∀ K : List Value→World→Prop,K [.bool f] w→A1 K) (h2 : i=true→f=false→∀ K : List Value→World→Prop,K [.bool l] w→A2 K w)
  (h4 : i=true→f=false→l=false→∀ K : List Value→World→Prop,K [.bool e] w→A4 K w) (h5 : i=true→f=false→l=false→e=true→∀ K : List Value→World→Prop,(∀ w',R w'→K [.bool x] w')→A5 K w)
  (hR : R w) (hZ : ∀ w',R w'→Z (.bool (i&&(f||(l||(e&&x))))) w') :
  za (fun K=>gIf (.bool i) true (A1 K) (K [undef] w)) fun s37 _d w39=>
  za (fun K=>gIf (s37.getD 0 undef) false (A2 K w39) (K [undef] w39)) fun s41 _d w43=>
  za (fun K=>gIf (.bool i) true (zb (s37.getD 0 undef) (.bool true) (s41.getD 0 undef) fun t=>K [t] w43) (K [undef] w43)) fun s45 _d w47=>
  za (fun K=>gIf (s45.getD 0 undef) false (A4 K w47) (K [undef] w47)) fun s49 _d w51=>
  za (fun K=>gIf (s49.getD 0 undef) true (A5 K w51) (K [undef] w51)) fun s53 _d w55=>
  za (fun K=>gIf (s45.getD 0 undef) false (zb (s49.getD 0 undef) (s53.getD 0 undef) (.bool false) fun t=>K [t] w55) (K [undef] w55)) fun s58 _d w60=>
  za (fun K=>gIf (.bool i) true (zb (s45.getD 0 undef) (.bool true) (s58.getD 0 undef) fun t=>K [t] w60) (K [undef] w60)) fun s62 _d w64=>
  zb (.bool i) (s62.getD 0 undef) (.bool false) fun t=>Z t w64:=by
 cases i with
 |false=>
  intro K hK;refine hK _ _ fun _=>?_
  intro K hK;refine hK _ _ fun _=>?_
  intro K hK;refine hK _ _ fun _=>?_
  intro K hK;refine hK _ _ fun _=>?_
  intro K hK;refine hK _ _ fun _=>?_
  intro K hK;refine hK _ _ fun _=>?_
  intro K hK;refine hK _ _ fun _=>?_
  exact ⟨false,rfl,hZ _ hR⟩
 |true=>
 intro K hK;refine h1 rfl _ (hK _ _ fun _=>?_);clear hK K
 cases f with
 |true=>
  intro K hK;refine hK _ _ fun _=>?_
  intro K hK;refine ⟨true,rfl,hK _ _ fun _=>?_⟩
  intro K hK;refine hK _ _ fun _=>?_
  intro K hK;refine hK _ _ fun _=>?_
  intro K hK;refine hK _ _ fun _=>?_
  intro K hK;refine ⟨true,rfl,hK _ _ fun _=>?_⟩
  exact ⟨true,rfl,hZ _ hR⟩
 |false=>
 intro K hK;refine h2 rfl rfl _ (hK _ _ fun _=>?_);clear hK K
 intro K hK;refine ⟨false,rfl,hK _ _ fun _=>?_⟩;clear hK K
 cases l with
 |true=>
  intro K hK;refine hK _ _ fun _=>?_
  intro K hK;refine hK _ _ fun _=>?_
  intro K hK;refine hK _ _ fun _=>?_
  intro K hK;refine ⟨true,rfl,hK _ _ fun _=>?_⟩
  exact ⟨true,rfl,hZ _ hR⟩
 |false=>
 intro K hK;refine h4 rfl rfl rfl _ (hK _ _ fun _=>?_);clear hK K
 cases e with
 |false=>
  intro K hK;refine hK _ _ fun _=>?_
  intro K hK;refine ⟨false,rfl,hK _ _ fun _=>?_⟩
  intro K hK;refine ⟨false,rfl,hK _ _ fun _=>?_⟩
  exact ⟨true,rfl,hZ _ hR⟩
 |true=>
 intro K hK;refine h5 rfl rfl rfl rfl _ fun w' hw'=>hK _ _ fun _=>?_;clear hK K
 intro K hK;refine ⟨true,rfl,hK _ _ fun _=>?_⟩;clear hK K
 intro K hK;refine ⟨false,rfl,hK _ _ fun _=>?_⟩;clear hK K
 exact ⟨true,rfl,hZ _ hw'⟩
end
end Go.Sh
end
section
namespace Go.Proofs
open Go.Sh Go.RowKit
set_option maxRecDepth 100000
set_option linter.unusedSimpArgs false
set_option linter.unusedVariables false
theorem QW : ∀ {i : Nat} {a b : List Int},a.take i=b.take i→i≤a.length→i≤b.length→ltB a b=ltB (a.drop i) (b.drop i)
 |0,_,_,_,_,_=>rfl
 |i+1,[],b,h,h1,h2=>by simp at h1
 |i+1,x::a,[],h,h1,h2=>by simp at h2
 |i+1,x::a,y::b,h,h1,h2=>by
  rw [List.take_succ_cons,List.take_succ_cons] at h
  have hx:=(List.cons.inj h).1
  subst hx
  rw [List.drop_succ_cons,List.drop_succ_cons,← QW (List.cons.inj h).2 (by simpa using h1) (by simpa using h2),ltB]
  simp
theorem ahK {i : Nat} {a b : List Int} (h : a.take i=b.take i) (h1 : i<a.length) (h2 : i<b.length) (hne : a[i]≠b[i]) : ltB a b=decide (a[i]<b[i]):=by
 rw [QW h (by omega) (by omega),List.drop_eq_getElem_cons h1,List.drop_eq_getElem_cons h2,ltB]
 simp [hne]
theorem agZ {a b : List Int} (h : a.take a.length=b.take a.length) (hl : a.length=b.length) : ltB a b=false:=by
 rw [QW h (Nat.le_refl _) (by omega),List.drop_length];rfl
theorem aad {a b : List Int} {va vb : Value} {w : World} {r : Gh} {K : Value→World→Prop} (hr : Holds r w) (ha : SlG 1 r z6 va a) (hb : SlG 1 r z6 vb b) (hl : a.length=b.length) (hf : a.length≤1000000)
  (h : ∀ c : Int,decide (c<0)=ltB a b→K (.int .i64 c) w) : zd Tryz.prog Tryz.y5 #[va,vb] w K:=by
 refine Tryz.vh ?_
 unfold Tryz.kA
 obtain ⟨pa,ca,rfl,_,_⟩:=ha.shape
 obtain ⟨pb,cb,rfl,_,_⟩:=hb.shape
 refine gp_ ?_
 refine zj (ι:=Nat) (fun i=>[.int .i64 (i : Nat)]) (fun i w'=>w'=w∧i≤a.length∧a.take i=b.take i) (fun i=>a.length - i) 0 rfl ⟨rfl,Nat.zero_le _,by simp⟩ ?_
 rintro i d w' ⟨rfl,hi,he⟩ K1 hK1
 rw [List.getD_cons_zero]
 refine gp_ ?_
 refine zm (fun hlt=>?_) (fun hge=>?_)
 ·have hlt : i<a.length:=by omega
  have hltb : i<b.length:=by omega
  obtain ⟨b1,o1,rfl,_,g1⟩:=yi ha hlt
  obtain ⟨b2,o2,rfl,_,g2⟩:=yi hb hltb
  refine gg_ ?_
  refine zh (by rw [Int.toNat_natCast];exact g1 _ hr) ?_
  refine gg_ ?_
  refine c_f (by simp;omega) ?_
  refine gg_ ?_
  refine zh (by rw [Int.toNat_natCast];exact g2 _ hr) ?_
  refine V8 ?_
  refine gg_ ?_
  refine zm (fun hne=>?_) (fun hz=>?_)
  ·refine h _ ?_
   have hne' : a[i]≠b[i]:=fun e=>hne (VG.2 e)
   rw [ahK he hlt hltb hne',aba]
   by_cases hx : a[i]<b[i]
   ·rw [if_pos hx,decide_eq_true hx];rfl
   ·rw [if_neg hx,if_pos (by omega),decide_eq_false hx];rfl
  ·have hz:=VG.1 (Decidable.not_not.1 hz)
   refine gg_ ?_
   refine hK1 (i+1) _ ⟨rfl,hlt,?_⟩ (by omega)
   rw [List.take_succ_eq_append_getElem hlt,List.take_succ_eq_append_getElem hltb,he,hz]
 ·have hie : i=a.length:=by omega
  subst hie
  refine gg_ ?_
  refine c_f (by simp;omega) ?_
  exact h 0 (by rw [agZ he hl];rfl)
def xb (P : Int→Prop) [DecidablePred P] (i : Nat) : List Int:=((List.range i).filter fun (p : Nat)=>decide (P (p : Int))).map Int.ofNat
theorem VR {P : Int→Prop} [DecidablePred P] {i : Nat} : xb P (i+1)=xb P i++(if P (i : Int) then [(i : Int)] else []):=by
 rw [xb,List.range_succ,List.filter_append,List.map_append]
 congr 1
 by_cases h : P (i : Int)
 ·rw [if_pos h,List.filter_cons_of_pos (by simpa using h)];rfl
 ·rw [if_neg h,List.filter_cons_of_neg (by simpa using h)];rfl
theorem abz {P : Int→Prop} [DecidablePred P] {i : Nat} : (xb P i).length≤i:=by
 rw [xb,List.length_map]
 exact Nat.le_trans (List.length_filter_le ..) (by simp)
theorem abA {g : GrD} {P : Int→Prop} [DecidablePred P] : xb P (ze g).length=ptsW g P:=rfl
theorem acM {g : GrD} {p : PtD} {q x : Int} {v : Value} {b1 b2 : Nat} {w : World} {r : Gh} {K : Value→World→Prop} (hr : Holds r w) (hx : LookG r v g)
  (h1 : Ob r fun w=>w.cell? ⟨b1,0,none⟩=some v) (h2 : Ob r fun w=>w.cell? ⟨b2,0,none⟩=some (.int .i64 x)) (hq : 0≤q) (hp : g.pts[q.toNat]? = some p) (hb : p.args.length≤1000)
  (h : ∀ w',Ext w w'→K (.bool (decide (yE p=some x))) w') : zB Tryz.prog (.func (.func Tryz.Xm) #[] #[.pointer (some ⟨b1,0,none⟩),.pointer (some ⟨b2,0,none⟩)]) #[.int .i64 q] w K:=by
 refine Jh (by kernel_rfl) ?_
 refine Tryz.aac ?_
 unfold Tryz.Xp
 have S:=St.start hr
 refine zh (S.at h1) ?_
 refine ju S.holds hx hq hp hb fun w2 e2=>?_
 have S:=S.go e2
 refine gS_ ?_
 refine zi (c:=decide ((yE p).getD 0=x)) (fun _ K2 hK2=>?_) ?_
 ·refine zh (S.at h2) ?_
  refine gg_ ?_
  exact hK2
 have:=h _ S.ext
 have hcE : ((yE p).isSome&&decide ((yE p).getD 0=x))=decide (yE p=some x):=by cases yE p<;>simp
 rwa [← hcE] at this
noncomputable def okY (u : UnD) (n x q : Int) : Bool:=okQ u n q&&(match u.fs[n.toNat]? with|some g=>decide (0≤x∧x<g.tys.length)|none=>false)
end Go.Proofs
end
section
namespace Go.Proofs
open Go.Sh Go.RowKit
set_option maxRecDepth 100000
set_option linter.unusedSimpArgs false
set_option linter.unusedVariables false
noncomputable def abB (u : UnD) (n x q : Int) : Option (List Int):=match u.fs[n.toNat]? with|some g=>abj g x q|none=>none
theorem ahL {o : Option (List Int)} {w : List Int} : ((!o.isSome)||(decide (((w.length : Nat) : Int)<((o.getD []).length : Nat))||(decide (((w.length : Nat) : Int)=((o.getD []).length : Nat))&&ltB w (o.getD []))))=adp o w:=by
 cases o with
 |none=>rfl
 |some v=>
  show (false||_)=_
  rw [Bool.false_or,adp]
  simp only [Option.getD_some,Int.ofNat_lt,Int.natCast_inj]
theorem ag0 {u : UnD} {n a b : Int} {W : List Int} (h0 : fnE u n=0) (ha : isN (netU u n) a) (hb : isN (netU u n) b) (hW : ∀ x ∈ W,isN (netU u n) x) : okW u n a b W=true:=by
 rw [okW,h0,show decide ((0 : Int)≠0)=false from rfl,Bool.false_or,decide_eq_true hW,decide_eq_true (show ∀ x ∈ [a,b],isN (netU u n) x by simpa using ⟨ha,hb⟩)]
 rfl
theorem aeF {n : zD} {W : List Int} {q : Int} {stop : Bool} {o : Option (List Int)} {p : Int} (h : (decide (p≠q)&&stop)=true) : jg n W q stop o p=o:=by
 rw [jg,if_pos (by simpa using h)]
theorem acN {n : zD} {W : List Int} {q : Int} {stop : Bool} {o : Option (List Int)} {p : Int} (h : (decide (p≠q)&&stop)=false) : jg n W q stop o p=if ((wayE n q p W).isSome&&adp o ((wayE n q p W).getD []))=true then wayE n q p W else o:=by
 rw [jg,if_neg (fun hc=>by rw [hc.2,decide_eq_true hc.1] at h;cases h)]
 cases wayE n q p W with
 |none=>rfl
 |some w=>rfl
set_option maxHeartbeats 4000000 in
theorem adz {u : UnD} {n x q : Int} {v : Value} {w : World} {r : Gh} {K : Value→World→Prop} (hr : Holds r w) (hu : UnG r v u)
  (h : ∀ v' s w',Ext w w'→New w s w'→SlG 1 s z6 v' (if okY u n x q=true then (abB u n x q).getD [] else [])→K (.tuple #[v',.bool (okY u n x q&&(abB u n x q).isSome),.int .i64 (if okY u n x q=true then 0 else 2)]) w') : zd Tryz.prog Tryz.Ym #[v,.int .i64 n,.int .i64 x,.int .i64 q] w K:=by
 refine Tryz.ab6 ?_
 unfold Tryz.Jz
 have hu0:=hu
 obtain ⟨p0,cap0,vf,rfl,_,_,hst,hsl,hfn⟩:=hu
 obtain ⟨qf,capf,rfl,_,_⟩:=hfn.sl.shape
 have S:=St.start hr
 refine S.box fun b4 w1 S=>?_
 have S : StX noX w r w1 [.cell b4 [.slice p0 u.ss.length cap0,.slice qf u.fs.length capf,.int .i64 u.mn] 25]:=S
 refine S.box fun b6 w2 S=>?_
 refine S.ldB (b:=b4) ?_ rfl
 refine qz S.holds hu0 fun vx s w3 e3 n3 hg hz=>?_
 obtain ⟨S,_,as3⟩:=S.tell e3 n3
 refine gS_ ?_
 refine S.al fun b11 w4 S=>?_
 have hvx : vx.oneCell'=true:=by
  by_cases hE : fnE u n=0
  ·obtain ⟨g,_,_,hx⟩:=hg hE
   obtain ⟨b,_,_,_,_,_,_,_,_,_,rfl,_⟩:=hx
   rfl
  ·rw [hz hE];rfl
 refine S.st (b:=b11) (fun w5 S=>?_) (by simp) hvx
 have S : StX noX w (r.or s) w5 [.cell b11 [vx] 57,.cell b6 [.int .i64 x] 3,.cell b4 [.slice p0 u.ss.length cap0,.slice qf u.fs.length capf,.int .i64 u.mn] 25]:=S
 have S:=S.go (Ext.drew _)
 refine gp_ ?_
 refine zo (c:=!okQ u n q) (fun hb K2 hK2=>?_) ?_
 ·have hE : fnE u n=0:=by simpa using hb
  obtain ⟨g,hgi,hnu,hx⟩:=hg hE
  refine S.ld (b:=b11) ?_
  refine qN S.holds hx ?_
  refine gp_ ?_
  rw [abx hE hnu] at hK2
  exact hK2
 refine zo (c:=decide (x<0)) (fun hb K2 hK2=>?_) ?_
 ·refine S.ld (b:=b6) ?_
  refine gg_ ?_
  exact hK2
 refine zo (c:=!(match u.fs[n.toNat]? with|some g=>decide (x<g.tys.length)|none=>false)) (fun hb K2 hK2=>?_) ?_
 ·have hE : fnE u n=0:=by
   simp only [Bool.or_eq_false_iff,decide_eq_false_iff_not,Decidable.not_not] at hb
   exact hb.1.1
  obtain ⟨g,hgi,hnu,hx⟩:=hg hE
  obtain ⟨bl,x1,x2,x3,x4,y1,y2,y3,y4,vn,rfl,hgg,hn,hc⟩:=hx
  refine S.ld (b:=b6) ?_
  refine S.ld (b:=b11) ?_
  refine gg_ ?_
  refine zh (S.at (hc 4 _ rfl)) ?_
  refine gg_ ?_
  have e : decide ((g.tys.length : Int)≤x) = !decide (x<g.tys.length):=by
   rw [← decide_not,decide_eq_decide];omega
  rw [e]
  simp only [hgi] at hK2
  exact hK2
 have hYe : okY u n x q = !(((decide (fnE u n≠0) || !okQ u n q)||decide (x<0)) || !(match u.fs[n.toNat]? with|some g=>decide (x<g.tys.length)|none=>false)):=by
  rw [okY]
  have h1 : okQ u n q=true→decide (fnE u n≠0)=false:=fun h=>by rw [(Xs h).1];rfl
  cases hq : okQ u n q with
  |false=>simp
  |true=>
   rw [h1 hq]
   cases u.fs[n.toNat]? with
   |none=>simp
   |some g=>
    rw [Bool.eq_iff_iff]
    simp
 refine c_b (fun hb=>?_) (fun hb=>?_)
 ·rw [hb] at hYe
  rw [hYe] at h
  exact h _ nothing _ S.ext New.nothing SlG.nil
 rw [hb] at hYe
 have hok : okQ u n q=true:=by
  simp only [Bool.or_eq_false_iff,Bool.not_eq_false'] at hb
  exact hb.1.1.2
 obtain ⟨hE,hqN⟩:=Xs hok
 obtain ⟨g,hgi,hnu,hx⟩:=hg hE
 rw [hnu] at hqN
 have hF:=xO hE hgi
 have hnf:=hF.net.few
 have hgl:=zR (g:=g)
 have hWu : abB u n x q=abj g x q:=by rw [abB,hgi]
 rw [hYe,hWu] at h
 simp only [Bool.not_false,if_true,Bool.true_and] at h
 clear hYe hb hWu hz
 have hbl:=hx
 obtain ⟨bl,x1,x2,x3,x4,y1,y2,y3,y4,vn,rfl,hgg,hn,hc⟩:=hx
 have S:=S.frzAt b11
 have S:=S.frzAt b6
 have h11 : Ob (((r.or s).or (Go.Sh.one b11 [.pointer (some ⟨bl,0,none⟩)] 57)).or (Go.Sh.one b6 [.int .i64 x] 3)) fun w=>w.cell? ⟨b11,0,none⟩=some (.pointer (some ⟨bl,0,none⟩)):=fun w' hw'=>by
  have B : Blk w' b11 [.pointer (some ⟨bl,0,none⟩)] 57:=zF w' (hw'.le (h:=inferInstance))
  exact B.cell 0
 have h6 : Ob (((r.or s).or (Go.Sh.one b11 [.pointer (some ⟨bl,0,none⟩)] 57)).or (Go.Sh.one b6 [.int .i64 x] 3)) fun w=>w.cell? ⟨b6,0,none⟩=some (.int .i64 x):=fun w' hw'=>by
  have B : Blk w' b6 [.int .i64 x] 3:=zF w' (hw'.le (h:=inferInstance))
  exact B.cell 0
 have hx':=hbl.up (s:=((r.or s).or (Go.Sh.one b11 [.pointer (some ⟨bl,0,none⟩)] 57)).or (Go.Sh.one b6 [.int .i64 x] 3))
 have hu1:=hu0.up (s:=((r.or s).or (Go.Sh.one b11 [.pointer (some ⟨bl,0,none⟩)] 57)).or (Go.Sh.one b6 [.int .i64 x] 3))
 have hc6:=(hc 6 _ rfl).up (s:=((r.or s).or (Go.Sh.one b11 [.pointer (some ⟨bl,0,none⟩)] 57)).or (Go.Sh.one b6 [.int .i64 x] 3))
 have S : StX noX w (((r.or s).or (Go.Sh.one b11 [.pointer (some ⟨bl,0,none⟩)] 57)).or (Go.Sh.one b6 [.int .i64 x] 3)) w5.drew [.cell b4 [.slice p0 u.ss.length cap0,.slice qf u.fs.length capf,.int .i64 u.mn] 25]:=S
 have S:=(S.ownNil 3 1).ownNil 3 1
 generalize ((r.or s).or (Go.Sh.one b11 [.pointer (some ⟨bl,0,none⟩)] 57)).or (Go.Sh.one b6 [.int .i64 x] 3)=υ at S h11 h6 hx' hu1 hc6
 have S : StX noX w υ w5.drew [.row (.slice none 0 0) 3 1 (xb (zW g x) 0).length (ints (xb (zW g x) 0)),.row (.slice none 0 0) 3 1 (xb (Usd g x) 0).length (ints (xb (Usd g x) 0)),.cell b4 [.slice p0 u.ss.length cap0,.slice qf u.fs.length capf,.int .i64 u.mn] 25]:=S
 refine gp_ ?_
 refine zh (S.at h11) ?_
 refine gg_ ?_
 refine zh (S.at hc6) ?_
 refine gg_ ?_
 refine zj (ι:=Nat × Value × Value) (fun i=>[i.2.1,i.2.2,.int .i64 (i.1 : Nat)]) (fun i w'=>i.1≤g.pts.length∧StX noX w υ w' [.row i.2.1 3 1 (xb (zW g x) i.1).length (ints (xb (zW g x) i.1)),.row i.2.2 3 1 (xb (Usd g x) i.1).length (ints (xb (Usd g x) i.1)),.cell b4 [.slice p0 u.ss.length cap0,.slice qf u.fs.length capf,.int .i64 u.mn] 25]) (fun i=>g.pts.length - i.1) (0,.slice none 0 0,.slice none 0 0) rfl ⟨Nat.zero_le _,S⟩ ?_
 repeat clear S
 rintro ⟨i,ve,vu⟩ d w22 ⟨hi,S⟩ K19 hK19
 simp only at hi S ⊢
 simp only [List.getD_cons_zero,List.getD_cons_succ]
 refine gg_ ?_
 refine zm (fun hlt=>?_) (fun hge=>?_)
 ·have hlt : i<g.pts.length:=by omega
  have hiN : isN (ze g) (i : Int):=⟨by omega,by omega⟩
  obtain ⟨p,hp,hpm,hue,hee⟩:=Yp hiN
  have hef:=abz (P:=zW g x) (i:=i)
  have huf:=abz (P:=Usd g x) (i:=i)
  refine zq (fun y w'=>∃ ve' vu',y = [ve',vu']∧StX noX w υ w' [.row ve' 3 1 (xb (zW g x) (i+1)).length (ints (xb (zW g x) (i+1))),.row vu' 3 1 (xb (Usd g x) (i+1)).length (ints (xb (Usd g x) (i+1))),.cell b4 [.slice p0 u.ss.length cap0,.slice qf u.fs.length capf,.int .i64 u.mn] 25]) (fun K23 hK23=>?_) ?_
  ·refine zq (fun y w'=>∃ ve',y = [ve']∧StX noX w υ w' [.row ve' 3 1 (xb (zW g x) (i+1)).length (ints (xb (zW g x) (i+1))),.row vu 3 1 (xb (Usd g x) i).length (ints (xb (Usd g x) i)),.cell b4 [.slice p0 u.ss.length cap0,.slice qf u.fs.length capf,.int .i64 u.mn] 25]) (fun K27 hK27=>?_) ?_
   ·refine acM S.holds hx' h11 h6 hiN.1 hp (hF.args p hpm) fun w31 e31=>?_
    have S:=S.go e31
    rw [← hee]
    rw [VR] at hK27
    refine zm (fun hE=>?_) (fun hE=>?_)
    ·rw [if_pos (show zW g x i from hE)] at hK27
     refine S.lit (e:=3) (cs:=[.int .i64 (i : Nat)]) (by kernel_rfl) fun b9 w9 S=>?_
     refine S.ap (v:=ve) (m':=1) (Sl.blk (S.blk b9)) (fun v4 w10 S=>?_) (by omega)
     refine hK27 _ _ ⟨v4,rfl,?_⟩
     rw [List.length_append,xF]
     exact S.drop b9
    ·rw [if_neg (show ¬ zW g x i from hE),List.append_nil] at hK27
     exact hK27 _ _ ⟨ve,rfl,S⟩
   repeat clear S
   rintro _ w30 ⟨ve',rfl,S⟩ d
   rw [List.getD_cons_zero]
   refine zh (S.at h11) ?_
   refine zh (S.at h6) ?_
   refine ZJ S.holds hx' hiN.1 hp (hF.args p hpm) fun w34 e34=>?_
   have S:=S.go e34
   rw [← hue]
   have hnU:=VR (P:=Usd g x) (i:=i)
   refine zm (fun hU=>?_) (fun hU=>?_)
   ·rw [if_pos (show Usd g x i from hU)] at hnU
    refine S.lit (e:=3) (cs:=[.int .i64 (i : Nat)]) (by kernel_rfl) fun b9 w9 S=>?_
    refine S.ap (v:=vu) (m':=1) (Sl.blk (S.blk b9)) (fun v4 w10 S=>?_) (by omega)
    refine hK23 _ _ ⟨ve',v4,rfl,?_⟩
    rw [hnU,List.length_append,xF]
    exact S.drop b9
   ·rw [if_neg (show ¬ Usd g x i from hU),List.append_nil] at hnU
    refine hK23 _ _ ⟨ve',vu,rfl,?_⟩
    rw [hnU]
    exact S
  repeat clear S
  rintro _ w26 ⟨ve',vu',rfl,S⟩ d
  simp only [List.getD_cons_zero,List.getD_cons_succ]
  refine gg_ ?_
  exact hK19 (i+1,ve',vu') _ ⟨hlt,S⟩ (by show g.pts.length - (i+1)<g.pts.length - i;omega)
 have hie : i=(ze g).length:=by omega
 clear hK19 K19 hge hi d
 subst hie
 rw [abA,abA] at S
 have hWf : (ptsW g (zW g x)).length≤(ze g).length:=abi
 have hUf : (ptsW g (Usd g x)).length≤(ze g).length:=abi
 have hWN : ∀ y ∈ ptsW g (zW g x),isN (ze g) y:=fun y hy=>(abh.1 hy).1
 have hUN : ∀ y ∈ ptsW g (Usd g x),isN (ze g) y:=fun y hy=>(abh.1 hy).1
 rw [abj] at h
 obtain ⟨pq,hpq,hpqm,_,heq⟩:=Yp hqN
 generalize ptsW g (zW g x)=W at S h hWf hWN
 generalize ptsW g (Usd g x)=U at S h hUf hUN
 obtain ⟨sE,T,hsE,_,_⟩:=S.doneRow yB (by decide) rfl
 repeat clear S
 obtain ⟨sU,S,hsU,_,_⟩:=T.doneRow yB (by decide) rfl
 clear T
 obtain ⟨pu,cu,rfl,_,_⟩:=hsU.shape
 have S:=S.new (Ext.refl _) New.nothing
 refine gp_ ?_
 refine zj (ι:=Nat × Value × Gh) (fun i=>[i.2.1,.bool ((U.take i.1).foldl (jg (ze g) W q (decide (zW g x q))) none).isSome,.int .i64 (i.1 : Nat)]) (fun i w'=>i.1≤U.length∧StX noX w (((υ.or sE).or sU).or i.2.2) w' [.cell b4 [.slice p0 u.ss.length cap0,.slice qf u.fs.length capf,.int .i64 u.mn] 25]∧Above w i.2.2∧SlG 1 i.2.2 z6 i.2.1 (((U.take i.1).foldl (jg (ze g) W q (decide (zW g x q))) none).getD [])) (fun i=>U.length - i.1) (0,.slice none 0 0,nothing) rfl ⟨Nat.zero_le _,S,Above.no,SlG.nil⟩ ?_
 repeat clear S
 rintro ⟨i,v1,τ⟩ d w40 ⟨hi,S,hτ,hv1⟩ K37 hK37
 simp only at hi S hτ hv1 ⊢
 simp only [List.getD_cons_zero,List.getD_cons_succ]
 refine gp_ ?_
 refine zm (fun hlt=>?_) (fun hge=>?_)
 ·have hlt : i<U.length:=by omega
  have hFs : (U.take (i+1)).foldl (jg (ze g) W q (decide (zW g x q))) none=jg (ze g) W q (decide (zW g x q)) ((U.take i).foldl (jg (ze g) W q (decide (zW g x q))) none) U[i]:=by
   rw [List.take_succ_eq_append_getElem hlt,List.foldl_append,List.foldl_cons,List.foldl_nil]
  have hK37:=fun v1 τ w' (S : StX noX w (((υ.or sE).or sU).or τ) w' [.cell b4 [.slice p0 u.ss.length cap0,.slice qf u.fs.length capf,.int .i64 u.mn] 25]) (hτ : Above w τ) hv=>hK37 (i+1,v1,τ) w' ⟨hlt,S,hτ,hv⟩ (by show U.length - (i+1)<U.length - i;omega)
  simp only at hK37
  rw [hFs] at hK37
  have hpN:=hUN _ (List.getElem_mem hlt)
  obtain ⟨bU,oU,hpu,_,gU⟩:=yi hsU hlt
  generalize U[i]=p at hK37 hpN gU
  generalize (U.take i).foldl (jg (ze g) W q (decide (zW g x q))) none=o at hK37 hv1
  rw [hpu]
  refine zq (fun y w'=>∃ v' τ',y = [v',.bool (jg (ze g) W q (decide (zW g x q)) o p).isSome]∧StX noX w (((υ.or sE).or sU).or τ') w' [.cell b4 [.slice p0 u.ss.length cap0,.slice qf u.fs.length capf,.int .i64 u.mn] 25]∧Above w τ'∧SlG 1 τ' z6 v' ((jg (ze g) W q (decide (zW g x q)) o p).getD [])) (fun K41 hK41=>?_) ?_
  ·refine gg_ ?_
   refine zh (by rw [Int.toNat_natCast];exact S.at gU) ?_
   refine gp_ ?_
   refine agz (c:=decide (zW g x q)) (fun w'=>Ext w40 w') (Ext.refl w40) (fun _ K2 hK2=>?_) fun w2 e2=>?_
   ·refine acM S.holds hx'.up h11.up h6.up hqN.1 hpq (hF.args pq hpqm) fun w' e'=>?_
    rw [← heq]
    exact hK2 _ e'
   have S:=S.go e2
   refine c_b (fun hb=>?_) (fun hb=>?_)
   ·have e:=aeF (n:=ze g) (W:=W) (o:=o) hb
    rw [e] at hK41
    exact hK41 _ _ ⟨v1,τ,rfl,S,hτ,hv1⟩
   have hgo:=acN (n:=ze g) (W:=W) (o:=o) hb
   rw [hgo] at hK41
   clear hgo
   refine S.ldB (b:=b4) ?_ rfl
   have hokW:=ag0 (u:=u) (n:=n) (a:=q) (b:=p) (W:=W) hE (by rw [hnu];exact hqN) (by rw [hnu];exact hpN) (by rw [hnu];exact hWN)
   refine adv S.holds hu1.up hsE.cells (by omega) fun v7 s7 w7 e7 n7 h7=>?_
   rw [hokW,if_pos rfl,hnu,Bool.true_and]
   rw [hokW,if_pos rfl,hnu] at h7
   obtain ⟨S,_,a7⟩:=S.tell e7 n7
   have hwf:=agQ hF.net.ok agd (W:=W) (t:=p) hqN
   obtain ⟨p7,c7,rfl,_,_⟩:=h7.shape
   obtain ⟨p1,c1,rfl,_,_⟩:=hv1.shape
   generalize wayE (ze g) q p W=y at h7 hwf hK41
   refine gP_ ?_
   refine gP_ ?_
   refine gP_ ?_
   refine aig (i:=y.isSome) (f:=!o.isSome) (l:=decide ((((y.getD []).length : Nat) : Int)<((o.getD []).length : Nat))) (e:=decide ((((y.getD []).length : Nat) : Int)=((o.getD []).length : Nat))) (x:=ltB (y.getD []) (o.getD [])) (fun w'=>w'=w7) (fun _ K hK=>?_) (fun _ _ K hK=>?_) (fun _ _ _ K hK=>?_) (fun _ _ _ he K hK=>?_) rfl ?_
   ·refine gp_ ?_
    exact hK
   ·refine gg_ ?_
    exact hK
   ·refine gg_ ?_
    exact hK
   ·refine aad S.holds h7.cells hv1.cells (by have:=of_decide_eq_true he;omega) (by omega) fun c hc=>?_
    refine gP_ ?_
    rw [hc]
    exact hK _ rfl
   rintro _ rfl
   rw [ahL]
   refine c_b (fun hb=>?_) (fun hb=>?_)
   ·rw [if_pos hb,(show y.isSome=true by simp at hb;exact hb.1)] at hK41
    exact hK41 _ _ ⟨_,s7,rfl,S.less (fun b o h=>h.elim (fun h=>.inl (.inl h)) .inr) (List.Sublist.refl _),a7,h7⟩
   ·rw [if_neg (by rw [hb];decide)] at hK41
    exact hK41 _ _ ⟨_,τ,rfl,S.less (fun b o h=>.inl h) (List.Sublist.refl _),hτ,hv1⟩
  rintro _ w44 ⟨v',τ',rfl,S,hτ',hv'⟩ d
  simp only [List.getD_cons_zero,List.getD_cons_succ]
  refine gp_ ?_
  exact hK37 v' τ' _ S hτ' hv'
 have hie : i=U.length:=by omega
 subst hie
 rw [List.take_length] at hv1 ⊢
 refine gg_ ?_
 exact h _ τ _ S.ext (StX.newOf (q:=τ) S hτ) hv1
end Go.Proofs
end
