/-
  Shallow readings of functions. Made by a program (wip/gen/gen.py) out of the translation; the kernel checks each equality.
  The document's answer of layer 9: which types may be; how many words.
  The document's answer of layer 9: words, endless, Structs, Types.
  The document's answer of layer 9: Structs, Types, step, Walk.
  The document's answer of layer 9: step, Walk.
  The document's answer of layer 10: small parts.
  The document's answer of layer 10: rest.
  The document's answer of layer 10: walk, to, operand, args of an asker.
  The document's answer of layer 10: operand, args of an asker.
  Joined conditions with calls in them; facts of an asker.
  The document's answer of layer 10: a point.
-/
import Derived.Test.YtngfnikkdhbajaaGreatDoorQSb
import Derived.Test.YtngfnikkdhbajaaGreatDoorQSd
import Derived.Test.YtngfnikkdhbajaaGreatDoorQSc
import Derived.Test.YtngfnikkdhbajaaGreatDoorQSe
section
namespace Go.Proofs.Tryz
open Go.Sh
set_option maxRecDepth 100000
def JY (t0 t1 t2 : Value) (w : World) (K : VW) : Prop:=
 pw w (Instr.box 38 t2) fun t5 w1=>
 pw w1 (Instr.alloc 57 true (.tuple #[])) fun t6 w2=>
 fl w2 t5 38 0 3 fun t16=>bt .lss 3 t16 (i6 0) fun t17=>za (fun K3=>gIf t17 false (fl w2 t5 38 0 3 fun t20=>pp (Builtin.len_ #[29] 3 #[t1]) fun t22=>bf .geq 3 t20 t22 fun t23=>K3 [t23] w2) (K3 [undef] w2)) (fun s4 _d5 w6=>
 zb t17 tr_ (s4.getD 0 undef) fun t24=>za (fun K7=>gIf t24 false (fl w6 t5 38 1 36 fun t27=>pp (Builtin.len_ #[36] 3 #[t27]) fun t28=>bt .gtr 3 t28 (i6 8) fun t29=>K7 [t29] w6) (K7 [undef] w6)) (fun s8 _d9 w10=>
 zb t24 tr_ (s8.getD 0 undef) fun t30=>za (fun K11=>gIf t30 false (ca ZO #[t0,t1] w10 fun t34 w15=>
 pp (Op.unary .not t34) fun t35=>K11 [t35] w15) (K11 [undef] w10)) (fun s12 _d13 w14=>
 zb t30 tr_ (s12.getD 0 undef) fun t36=>zc t36 (pp (Instr.build 57 #[]) fun t37=>so w14 57 t6 t37 fun w16=>pq w16 (zt 57 t6) fun r17=>K (.tuple #[r17,(Value.slice Option.none 0 0),fa_]) w16) (fl w14 t5 38 0 3 fun t40=>xl w14 29 t1 t40 57 fun t42=>pw w14 (Instr.alloc 57 true (.tuple #[])) fun t9 w18=>
 so w18 57 t9 t42 fun w19=>zn [(Value.slice Option.none 0 0),(i6 0)] w19 (fun s21 _d22 w23 K20=>
 fl w23 t5 38 1 36 fun t45=>pp (Builtin.len_ #[36] 3 #[t45]) fun t46=>bf .lss 3 (s21.getD 1 undef) t46 fun t47=>zc t47 (za (fun K24=>
 lo w23.drew 57 t9 fun t52=>fl w23.drew t5 38 1 36 fun t54=>xl w23.drew 36 t54 (s21.getD 1 undef) 138 fun t57=>((ca vm #[t0,t52,t57] w23.drew fun t58 w28=>
 pe t58 0 fun t59=>pe t58 1 fun t60=>pe t58 2 fun t61=>pw w28 (Instr.alloc 57 true (.tuple #[])) fun t12 w29=>
 Ext w28 w29∧
 so w29 57 t12 t59 fun w30=>K24 [t12,t60,t61] w30)∧
 (pw w23.drew (Instr.alloc 57 true (.tuple #[])) fun t12_32 w31=>
 Ext w23.drew w31∧
 ca vm #[t0,t52,t57] w31 fun t58_34 w33=>
 pe t58_34 0 fun t59_35=>pe t58_34 1 fun t60_36=>pe t58_34 2 fun t61_37=>so w33 57 t12_32 t59_35 fun w38=>K24 [t12_32,t60_36,t61_37] w38))) (fun s25 _d26 w27=>
 pp (Op.unary .not (s25.getD 2 undef)) fun t63=>zc t63 (pp (Instr.build 57 #[]) fun t64=>so w27 57 t6 t64 fun w39=>pq w39 (zt 57 t6) fun r40=>K (.tuple #[r40,(Value.slice Option.none 0 0),fa_]) w39) (lo w27 57 (s25.getD 0 undef) fun t65=>so w27 57 t9 t65 fun w41=>pw w41 (Instr.buildSlice 67 1 #[(0,(s25.getD 1 undef))]) fun t68 w42=>
 pw w42 (Builtin.append_ #[67,67] 67 #[(s21.getD 0 undef),t68]) fun t69 w43=>
 bt .add 3 (s21.getD 1 undef) (i6 1) fun t49=>K20 [t69,t49] w43))) (lo w23 57 t9 fun t70=>so w23 57 t6 t70 fun w44=>pq w44 (zt 57 t6) fun r45=>K (.tuple #[r45,(s21.getD 0 undef),tr_]) w44))))))
theorem adb {t0 t1 t2 : Value} {w : World} {K : VW} (h : JY t0 t1 t2 w K) : zd prog Yy #[t0,t1,t2] w K:=
 okC false (.s (.r (rz 4 0 10)) (.s (.s (.r (ra 4 0 4 (.grp 18 false (ri 5 4 4) [23] (ra 2 9 0 (.grp 25 false (ri 4 11 4) [29] (ra 2 15 0 (.grp 31 false (ri 4 17 32) [35] (rz 1 21 0)))))))) (.c (.s (.r (rz 4 0 8)) (.n)) (.n))) (.s (.r (rz 7 0 10512)) (.s (.r (rz 1 0 0)) (.s (.s (.r (rz 1 0 0)) (.b (.lp [10,11] (.s (.s (.r (rz 5 0 16)) (.c (.n) (.n))) (.s (.b (.j [12,13,14] (.r (ra 7 0 4164 (.alt 7 .l (rz 8 8 2816) (ra 1 12 3 (ra 5 7 2 (rz 3 13 2)))))) (.s (.s (.r (rz 2 0 0)) (.c (.s (.r (rz 4 0 8)) (.n)) (.n))) (.s (.r (rz 2 0 9)) (.r (rz 5 0 160)))))) (.r (rz 3 0 0))))))) (.s (.r (rz 5 0 33)) (.n))))))) func103 rfl (by kernel_rfl) (by kernel_rfl) h
def Xx (t0 : Value) (w : World) (K : VW) : Prop:=
 pp (Builtin.len_ #[22] 3 #[t0]) fun t8=>bt .gtr 3 t8 (i6 32) fun t9=>zc t9 (K fa_ w) (zn [(i6 0)] w (fun s2 _d3 w4 K1=>
 pp (Builtin.len_ #[22] 3 #[t0]) fun t12=>bf .lss 3 (s2.getD 0 undef) t12 fun t13=>zc t13 (px 22 t0 (s2.getD 0 undef) fun t18=>fl w4 t18 84 1 82 fun t20=>pp (Builtin.len_ #[82] 3 #[t20]) fun t21=>bt .lss 3 t21 (i6 1) fun t22=>za (fun K5=>gIf t22 false (px 22 t0 (s2.getD 0 undef) fun t26=>fl w4 t26 84 1 82 fun t28=>pp (Builtin.len_ #[82] 3 #[t28]) fun t29=>bt .gtr 3 t29 (i6 8) fun t30=>K5 [t30] w4) (K5 [undef] w4)) (fun s6 _d7 w8=>
 zb t22 tr_ (s6.getD 0 undef) fun t31=>zc t31 (K fa_ w8) (zn [(i6 0)] w8 (fun s10 _d11 w12 K9=>
 px 22 t0 (s2.getD 0 undef) fun t35=>fl w12 t35 84 1 82 fun t37=>pp (Builtin.len_ #[82] 3 #[t37]) fun t38=>bf .lss 3 (s10.getD 0 undef) t38 fun t39=>zc t39 (px 22 t0 (s2.getD 0 undef) fun t44=>fl w12 t44 84 1 82 fun t46=>px 82 t46 (s10.getD 0 undef) fun t48=>fl w12 t48 86 1 57 fun t50=>pp (Builtin.len_ #[22] 3 #[t0]) fun t52=>ca yY #[t50,t52,(i6 48),fa_] w12 fun t53 w13=>
 pp (Op.unary .not t53) fun t54=>zc t54 (K fa_ w13) (bt .add 3 (s10.getD 0 undef) (i6 1) fun t41=>K9 [t41] w13)) (bt .add 3 (s2.getD 0 undef) (i6 1) fun t15=>K1 [t15] w12))))) (zn [(i6 0)] w4 (fun s15 _d16 w17 K14=>
 pp (Builtin.len_ #[22] 3 #[t0]) fun t57=>bf .lss 3 (s15.getD 0 undef) t57 fun t58=>zc t58 (ca vu #[t0,(s15.getD 0 undef)] w17 fun t63 w18=>
 zc t63 (K fa_ w18) (bt .add 3 (s15.getD 0 undef) (i6 1) fun t60=>K14 [t60] w18)) (zn [(i6 0)] w17 (fun s20 _d21 w22 K19=>
 pp (Builtin.len_ #[22] 3 #[t0]) fun t66=>bf .lss 3 (s20.getD 0 undef) t66 fun t67=>zc t67 (pp (Instr.build 57 #[(0,(Value.int .u8 5)),(3,(s20.getD 0 undef))]) fun t72=>ca jB #[t0,t72] w22 fun t73 w23=>
 bt .gtr 3 t73 (i6 16) fun t74=>zc t74 (K fa_ w23) (bt .add 3 (s20.getD 0 undef) (i6 1) fun t69=>K19 [t69] w23)) (K tr_ w22)))))))
theorem aas {t0 : Value} {w : World} {K : VW} (h : Xx t0 w K) : zd prog qC #[t0] w K:=
 okC false (.s (.r (rz 1 0 0)) (.s (.s (.r (rz 3 0 0)) (.c (.s (.r (rz 1 0 0)) (.n)) (.n))) (.s (.s (.r (rz 1 0 0)) (.b (.lp [3] (.s (.s (.r (rz 4 0 0)) (.c (.n) (.n))) (.s (.b (.s (.s (.r (ra 8 0 256 (.grp 23 false (ri 7 8 256) [30] (rz 1 15 0)))) (.c (.s (.r (rz 1 0 0)) (.n)) (.n))) (.s (.r (rz 1 0 0)) (.b (.lp [4] (.s (.s (.r (rz 8 0 1024)) (.c (.n) (.n))) (.s (.b (.s (.r (rz 13 0 8454400)) (.c (.s (.r (rz 1 0 0)) (.n)) (.n)))) (.r (rz 3 0 0))))))))) (.r (rz 3 0 0))))))) (.s (.s (.r (rz 1 0 0)) (.b (.lp [5] (.s (.s (.r (rz 4 0 0)) (.c (.n) (.n))) (.s (.b (.s (.r (rz 3 0 32)) (.c (.s (.r (rz 1 0 0)) (.n)) (.n)))) (.r (rz 3 0 0))))))) (.s (.s (.r (rz 1 0 0)) (.b (.lp [6] (.s (.s (.r (rz 4 0 0)) (.c (.n) (.n))) (.s (.b (.s (.r (rz 5 0 128)) (.c (.s (.r (rz 1 0 0)) (.n)) (.n)))) (.r (rz 3 0 0))))))) (.s (.r (rz 1 0 0)) (.n))))))) func121 rfl (by kernel_rfl) (by kernel_rfl) h
def Q2 (t0 t1 : Value) (w : World) (K : VW) : Prop:=
 ca qC #[t0] w fun t7 w1=>
 pp (Op.unary .not t7) fun t8=>zc t8 (K fa_ w1) (zn [(i6 0)] w1 (fun s3 _d4 w5 K2=>
 pp (Builtin.len_ #[29] 3 #[t1]) fun t11=>bf .lss 3 (s3.getD 0 undef) t11 fun t12=>zc t12 (xl w5 29 t1 (s3.getD 0 undef) 57 fun t18=>pp (Builtin.len_ #[22] 3 #[t0]) fun t20=>ca yY #[t18,t20,(i6 48),tr_] w5 fun t21 w6=>
 pp (Op.unary .not t21) fun t22=>zc t22 (K fa_ w6) (bt .add 3 (s3.getD 0 undef) (i6 1) fun t14=>K2 [t14] w6)) (K tr_ w5)))
theorem ab7 {t0 t1 : Value} {w : World} {K : VW} (h : Q2 t0 t1 w K) : zd prog ZO #[t0,t1] w K:=
 okC false (.s (.r (rz 1 0 0)) (.s (.s (.r (rz 3 0 8)) (.c (.s (.r (rz 1 0 0)) (.n)) (.n))) (.s (.s (.r (rz 1 0 0)) (.b (.lp [5] (.s (.s (.r (rz 4 0 0)) (.c (.n) (.n))) (.s (.b (.s (.r (rz 8 0 8256)) (.c (.s (.r (rz 1 0 0)) (.n)) (.n)))) (.r (rz 3 0 0))))))) (.s (.r (rz 1 0 0)) (.n))))) func141 rfl (by kernel_rfl) (by kernel_rfl) h
def JZ (t0 t1 t2 : Value) (w : World) (K : VW) : Prop:=
 pw w (Instr.box 57 t1) fun t4 w1=>
 pw w1 (Instr.alloc 57 true (.tuple #[])) fun t6 w2=>
 bt .eql 138 t2 (i6 (-1)) fun t10=>zc t10 (fl w2 t4 57 0 55 fun t13=>bt .eql 55 t13 (Value.int .u8 3) fun t14=>zc t14 (fl w2 t4 57 4 29 fun t16=>xl w2 29 t16 (i6 0) 57 fun t18=>so w2 57 t6 t18 fun w3=>pq w3 (zt 57 t6) fun r4=>K (.tuple #[r4,(i6 1),tr_]) w3) (fl w2 t4 57 0 55 fun t21=>bt .eql 55 t21 (Value.int .u8 4) fun t22=>za (fun K5=>gIf t22 true (fl w2 t4 57 1 4 fun t25=>K5 [t25] w2) (K5 [undef] w2)) (fun s6 _d7 w8=>
 zb t22 (s6.getD 0 undef) fa_ fun t26=>zc t26 (fl w8 t4 57 4 29 fun t28=>xl w8 29 t28 (i6 0) 57 fun t30=>so w8 57 t6 t30 fun w9=>pq w9 (zt 57 t6) fun r10=>K (.tuple #[r10,(i6 2),tr_]) w9) (fl w8 t4 57 0 55 fun t33=>bt .eql 55 t33 (Value.int .u8 4) fun t34=>zc t34 (fl w8 t4 57 4 29 fun t36=>xl w8 29 t36 (i6 0) 57 fun t38=>so w8 57 t6 t38 fun w11=>pq w11 (zt 57 t6) fun r12=>K (.tuple #[r12,(i6 3),tr_]) w11) (lo w8 57 t4 fun t39=>so w8 57 t6 t39 fun w13=>pq w13 (zt 57 t6) fun r14=>K (.tuple #[r14,(i6 0),fa_]) w13))))) (fl w2 t4 57 0 55 fun t41=>bt .neq 55 t41 (Value.int .u8 5) fun t42=>za (fun K15=>gIf t42 false (bt .lss 138 t2 (i6 0) fun t45=>K15 [t45] w2) (K15 [undef] w2)) (fun s16 _d17 w18=>
 zb t42 tr_ (s16.getD 0 undef) fun t46=>za (fun K19=>gIf t46 false (fl w18 t4 57 3 3 fun t51=>px 22 t0 t51 fun t52=>fl w18 t52 84 1 82 fun t54=>pp (Builtin.len_ #[82] 3 #[t54]) fun t55=>bf .geq 3 t2 t55 fun t56=>K19 [t56] w18) (K19 [undef] w18)) (fun s20 _d21 w22=>
 zb t46 tr_ (s20.getD 0 undef) fun t57=>zc t57 (lo w22 57 t4 fun t58=>so w22 57 t6 t58 fun w23=>pq w23 (zt 57 t6) fun r24=>K (.tuple #[r24,(i6 0),fa_]) w23) (fl w22 t4 57 3 3 fun t61=>px 22 t0 t61 fun t62=>fl w22 t62 84 1 82 fun t64=>px 82 t64 t2 fun t66=>fl w22 t66 86 1 57 fun t68=>so w22 57 t6 t68 fun w25=>pq w25 (zt 57 t6) fun r26=>K (.tuple #[r26,(i6 0),tr_]) w25))))
theorem adc {t0 t1 t2 : Value} {w : World} {K : VW} (h : JZ t0 t1 t2 w K) : zd prog vm #[t0,t1,t2] w K:=
 okC false (.s (.r (rz 4 0 10)) (.s (.s (.r (rz 2 0 0)) (.c (.s (.b (.s (.r (rz 4 0 4)) (.c (.s (.r (rz 7 0 580)) (.n)) (.s (.r (ra 4 0 4 (.grp 23 true (ri 2 4 4) [25] (rz 2 6 0)))) (.c (.s (.r (rz 7 0 580)) (.n)) (.s (.r (rz 4 0 4)) (.c (.s (.r (rz 7 0 580)) (.n)) (.n)))))))) (.s (.r (rz 4 0 9)) (.n))) (.n))) (.s (.s (.r (ra 4 0 4 (.grp 43 false (ri 2 4 0) [45] (ra 2 6 0 (.grp 47 false (ri 9 8 4160) [56] (rz 1 17 0)))))) (.c (.s (.r (rz 4 0 9)) (.n)) (.n))) (.s (.r (rz 13 0 2360336)) (.n))))) func142 rfl (by kernel_rfl) (by kernel_rfl) h
def vK (t0 t1 t2 t3 : Value) (w : World) (K : VW) : Prop:=
 pw w (Instr.box 57 t0) fun t4 w1=>
 bt .lss 3 t2 (i6 1) fun t10=>za (fun K2=>gIf t10 false (fl w1 t4 57 0 55 fun t13=>bt .neq 55 t13 (Value.int .u8 4) fun t14=>K2 [t14] w1) (K2 [undef] w1)) (fun s3 _d4 w5=>
 za (fun K6=>gIf (s3.getD 0 undef) true (fl w5 t4 57 1 4 fun t17=>K6 [t17] w5) (K6 [undef] w5)) (fun s7 _d8 w9=>
 za (fun K10=>gIf (s7.getD 0 undef) false (fl w9 t4 57 2 3 fun t20=>bt .neq 3 t20 (i6 0) fun t21=>K10 [t21] w9) (K10 [undef] w9)) (fun s11 _d12 w13=>
 za (fun K14=>gIf (s3.getD 0 undef) true (zb (s7.getD 0 undef) tr_ (s11.getD 0 undef) fun t22=>K14 [t22] w13) (K14 [undef] w13)) (fun s15 _d16 w17=>
 za (fun K18=>gIf t10 false (zb (s3.getD 0 undef) (s15.getD 0 undef) fa_ fun t23=>K18 [t23] w17) (K18 [undef] w17)) (fun s19 _d20 w21=>
 zb t10 tr_ (s19.getD 0 undef) fun t24=>za (fun K22=>gIf t24 false (fl w21 t4 57 0 55 fun t27=>bt .neq 55 t27 (Value.int .u8 5) fun t28=>K22 [t28] w21) (K22 [undef] w21)) (fun s23 _d24 w25=>
 za (fun K26=>gIf (s23.getD 0 undef) true (fl w25 t4 57 3 3 fun t31=>bt .neq 3 t31 (i6 0) fun t32=>K26 [t32] w25) (K26 [undef] w25)) (fun s27 _d28 w29=>
 za (fun K30=>gIf t24 false (zb (s23.getD 0 undef) (s27.getD 0 undef) fa_ fun t33=>K30 [t33] w29) (K30 [undef] w29)) (fun s31 _d32 w33=>
 zb t24 tr_ (s31.getD 0 undef) fun t34=>zc t34 (K fa_ w33) (fl w33 t4 57 0 55 fun t36=>za (fun K34=>
 bt .eql 55 t36 (Value.int .u8 1) fun t38=>zc t38 (K34 [t38] w33) (bt .eql 55 t36 (Value.int .u8 2) fun t39=>K34 [t39] w33)) (fun s35 _d36 w37=>
 zc (s35.getD 0 undef) (fl w37 t4 57 4 29 fun t41=>pp (Builtin.len_ #[29] 3 #[t41]) fun t42=>bt .eql 3 t42 (i6 0) fun t43=>K t43 w37) (bt .eql 55 t36 (Value.int .u8 5) fun t45=>zc t45 (fl w37 t4 57 4 29 fun t47=>pp (Builtin.len_ #[29] 3 #[t47]) fun t48=>bt .eql 3 t48 (i6 0) fun t49=>za (fun K38=>gIf t49 true (fl w37 t4 57 3 3 fun t52=>bt .geq 3 t52 (i6 0) fun t53=>K38 [t53] w37) (K38 [undef] w37)) (fun s39 _d40 w41=>
 zb t49 (s39.getD 0 undef) fa_ fun t54=>za (fun K42=>gIf t54 true (fl w41 t4 57 3 3 fun t57=>bf .lss 3 t57 t1 fun t59=>K42 [t59] w41) (K42 [undef] w41)) (fun s43 _d44 w45=>
 zb t54 (s43.getD 0 undef) fa_ fun t60=>K t60 w45))) (bt .eql 55 t36 (Value.int .u8 3) fun t62=>zc t62 (fl w37 t4 57 4 29 fun t64=>pp (Builtin.len_ #[29] 3 #[t64]) fun t65=>bt .eql 3 t65 (i6 1) fun t66=>za (fun K46=>gIf t66 true (fl w37 t4 57 4 29 fun t69=>xl w37 29 t69 (i6 0) 57 fun t71=>bt .sub 3 t2 (i6 1) fun t74=>ca yY #[t71,t1,t74,t3] w37 fun t76 w50=>
 K46 [t76] w50) (K46 [undef] w37)) (fun s47 _d48 w49=>
 zb t66 (s47.getD 0 undef) fa_ fun t77=>K t77 w49)) (bt .eql 55 t36 (Value.int .u8 4) fun t79=>zc t79 (za (fun K51=>gIf t3 true (fl w37 t4 57 4 29 fun t83=>pp (Builtin.len_ #[29] 3 #[t83]) fun t84=>bt .eql 3 t84 (i6 1) fun t85=>K51 [t85] w37) (K51 [undef] w37)) (fun s52 _d53 w54=>
 zb t3 (s52.getD 0 undef) fa_ fun t86=>za (fun K55=>gIf t86 true (fl w54 t4 57 2 3 fun t89=>bt .geq 3 t89 (i6 (-1)) fun t90=>K55 [t90] w54) (K55 [undef] w54)) (fun s56 _d57 w58=>
 zb t86 (s56.getD 0 undef) fa_ fun t91=>za (fun K59=>gIf t91 true (fl w58 t4 57 4 29 fun t94=>xl w58 29 t94 (i6 0) 57 fun t96=>bt .sub 3 t2 (i6 1) fun t99=>ca yY #[t96,t1,t99,t3] w58 fun t101 w63=>
 K59 [t101] w63) (K59 [undef] w58)) (fun s60 _d61 w62=>
 zb t91 (s60.getD 0 undef) fa_ fun t102=>K t102 w62)))) (K fa_ w37))))))))))))))
theorem Y2 {t0 t1 t2 t3 : Value} {w : World} {K : VW} (h : vK t0 t1 t2 t3 w K) : zd prog yY #[t0,t1,t2,t3] w K:=
 okC false (.s (.r (rz 2 0 2)) (.s (.s (.r (ra 3 0 0 (.grp 11 false (ri 4 3 4) [15] (.grp 15 true (ri 3 7 4) [18] (.grp 18 false (ri 3 10 4) [21] (.grp 15 true (ri 1 13 0) [22] (.grp 11 false (ri 1 14 0) [23] (ra 2 15 0 (.grp 25 false (ri 4 17 4) [29] (.grp 29 true (ri 3 21 4) [32] (.grp 25 false (ri 1 24 0) [33] (rz 1 25 0)))))))))))) (.c (.s (.r (rz 1 0 0)) (.n)) (.n))) (.s (.s (.r (rz 2 0 4)) (.b (.j [37] (.s (.r (rz 2 0 0)) (.c (.n) (.r (rz 2 0 0)))) (.c (.s (.r (rz 5 0 4)) (.n)) (.s (.r (rz 2 0 0)) (.c (.s (.r (ra 5 0 4 (.grp 50 true (ri 3 5 4) [53] (ra 2 8 0 (.grp 55 true (ri 4 10 4) [59] (rz 2 14 0)))))) (.n)) (.s (.r (rz 2 0 0)) (.c (.s (.r (ra 5 0 4 (.grp 67 true (ri 9 5 131140) [76] (rz 2 14 0)))) (.n)) (.s (.r (rz 2 0 0)) (.c (.s (.r (ra 2 0 0 (.grp 81 true (ri 4 2 4) [85] (ra 2 6 0 (.grp 87 true (ri 3 8 4) [90] (ra 2 11 0 (.grp 92 true (ri 9 13 131140) [101] (rz 2 22 0)))))))) (.n)) (.n))))))))))) (.s (.r (rz 1 0 0)) (.n))))) func155 rfl (by kernel_rfl) (by kernel_rfl) h
def Xy (t0 t1 : Value) (w : World) (K : VW) : Prop:=
 pw w (Instr.alloc 192 true (.tuple #[])) fun t5 w1=>
 zn [(i6 0)] w1 (fun s3 _d4 w5 K2=>
 pp (Builtin.len_ #[22] 3 #[t0]) fun t11=>bf .leq 3 (s3.getD 0 undef) t11 fun t12=>zc t12 (zn [(i6 0)] w5 (fun s7 _d8 w9 K6=>
 pp (Builtin.len_ #[22] 3 #[t0]) fun t17=>bf .lss 3 (s7.getD 0 undef) t17 fun t18=>zc t18 (zn [(i6 0)] w9 (fun s11 _d12 w13 K10=>
 px 22 t0 (s7.getD 0 undef) fun t24=>fl w13 t24 84 1 82 fun t26=>pp (Builtin.len_ #[82] 3 #[t26]) fun t27=>bf .lss 3 (s11.getD 0 undef) t27 fun t28=>za (fun K14=>gIf t28 true (bf .eql 3 (s7.getD 0 undef) t1 fun t32=>K14 [t32] w13) (K14 [undef] w13)) (fun s15 _d16 w17=>
 za (fun K18=>gIf (s15.getD 0 undef) false (xl w17 192 t5 (s7.getD 0 undef) 4 fun t36=>K18 [t36] w17) (K18 [undef] w17)) (fun s19 _d20 w21=>
 za (fun K22=>gIf t28 true (zb (s15.getD 0 undef) tr_ (s19.getD 0 undef) fun t37=>K22 [t37] w21) (K22 [undef] w21)) (fun s23 _d24 w25=>
 zb t28 (s23.getD 0 undef) fa_ fun t38=>zc t38 (za (fun K26=>
 px 22 t0 (s7.getD 0 undef) fun t43=>fl w25 t43 84 1 82 fun t45=>px 82 t45 (s11.getD 0 undef) fun t47=>pf 86 t47 1 fun t48=>fl w25 t48 57 0 55 fun t50=>bt .eql 55 t50 (Value.int .u8 5) fun t51=>zc t51 (px 22 t0 (s7.getD 0 undef) fun t54=>fl w25 t54 84 1 82 fun t56=>px 82 t56 (s11.getD 0 undef) fun t58=>pf 86 t58 1 fun t59=>fl w25 t59 57 3 3 fun t61=>px 192 t5 t61 fun t62=>so w25 4 t62 tr_ fun w30=>K26 [] w30) (K26 [] w25)) (fun _s27 _d28 w29=>
 bt .add 3 (s11.getD 0 undef) (i6 1) fun t40=>K10 [t40] w29)) (bt .add 3 (s7.getD 0 undef) (i6 1) fun t20=>K6 [t20] w25)))))) (bt .add 3 (s3.getD 0 undef) (i6 1) fun t14=>K2 [t14] w9))) (xl w5 192 t5 t1 4 fun t65=>K t65 w5))
theorem aat {t0 t1 : Value} {w : World} {K : VW} (h : Xy t0 t1 w K) : zd prog vu #[t0,t1] w K:=
 okC false (.s (.r (rz 1 0 0)) (.s (.r (rz 1 0 2)) (.s (.s (.r (rz 1 0 0)) (.b (.lp [6] (.s (.s (.r (rz 4 0 0)) (.c (.n) (.n))) (.s (.b (.s (.r (rz 1 0 0)) (.b (.lp [7] (.s (.s (.r (rz 4 0 0)) (.c (.n) (.n))) (.s (.b (.s (.r (rz 1 0 0)) (.b (.lp [8] (.s (.s (.r (ra 9 0 1024 (.grp 29 true (ri 4 9 0) [33] (.grp 33 false (ri 3 13 16) [36] (.grp 29 true (ri 1 16 0) [37] (rz 1 17 0)))))) (.c (.n) (.n))) (.j [] (.b (.s (.r (rz 11 0 262400)) (.c (.r (rz 12 0 8651008)) (.n)))) (.r (rz 3 0 0)))))))) (.r (rz 3 0 0)))))))) (.r (rz 3 0 0))))))) (.s (.r (rz 4 0 16)) (.n))))) func156 rfl (by kernel_rfl) (by kernel_rfl) h
def Z4 (t0 t1 : Value) (w : World) (K : VW) : Prop:=
 pw w (Instr.box 57 t1) fun t3 w1=>
 fl w1 t3 57 0 55 fun t8=>bt .neq 55 t8 (Value.int .u8 5) fun t9=>zc t9 (K (i6 1) w1) (zn [(i6 0),(i6 0)] w1 (fun s3 _d4 w5 K2=>
 fl w5 t3 57 3 3 fun t13=>px 22 t0 t13 fun t14=>fl w5 t14 84 1 82 fun t16=>pp (Builtin.len_ #[82] 3 #[t16]) fun t17=>bf .lss 3 (s3.getD 1 undef) t17 fun t18=>za (fun K6=>gIf t18 true (bt .leq 3 (s3.getD 0 undef) (i6 16) fun t21=>K6 [t21] w5) (K6 [undef] w5)) (fun s7 _d8 w9=>
 zb t18 (s7.getD 0 undef) fa_ fun t22=>zc t22 (fl w9 t3 57 3 3 fun t29=>px 22 t0 t29 fun t30=>fl w9 t30 84 1 82 fun t32=>px 82 t32 (s3.getD 1 undef) fun t34=>fl w9 t34 86 1 57 fun t36=>ca jB #[t0,t36] w9 fun t37 w10=>
 bf .add 3 (s3.getD 0 undef) t37 fun t38=>bt .add 3 (s3.getD 1 undef) (i6 1) fun t24=>K2 [t38,t24] w10) (K (s3.getD 0 undef) w9))))
theorem Qi {t0 t1 : Value} {w : World} {K : VW} (h : Z4 t0 t1 w K) : zd prog jB #[t0,t1] w K:=
 okC false (.s (.r (rz 2 0 2)) (.s (.s (.r (rz 3 0 4)) (.c (.s (.r (rz 1 0 0)) (.n)) (.n))) (.s (.r (rz 1 0 0)) (.s (.s (.r (rz 1 0 0)) (.b (.lp [5,6] (.s (.s (.r (ra 10 0 4160 (.grp 19 true (ri 2 10 0) [21] (rz 1 12 0)))) (.c (.n) (.n))) (.s (.b (.r (rz 15 0 37765376))) (.r (rz 3 0 0))))))) (.s (.r (rz 2 0 0)) (.n)))))) func157 rfl (by kernel_rfl) (by kernel_rfl) h
def abm (t0 t1 t2 : Value) (w : World) (K : VW) : Prop:=
 pw w (Instr.box 25 t0) fun t3 w1=>
 lo w1 25 t3 fun t7=>ca XB #[t7] w1 fun t8 w2=>
 za (fun K3=>gIf t8 true (bt .geq 3 t1 (i6 0) fun t11=>K3 [t11] w2) (K3 [undef] w2)) (fun s4 _d5 w6=>
 zb t8 (s4.getD 0 undef) fa_ fun t12=>za (fun K7=>gIf t12 true (fl w6 t3 25 1 23 fun t16=>pp (Builtin.len_ #[23] 3 #[t16]) fun t17=>bf .lss 3 t1 t17 fun t18=>K7 [t18] w6) (K7 [undef] w6)) (fun s8 _d9 w10=>
 zb t12 (s8.getD 0 undef) fa_ fun t19=>za (fun K11=>gIf t19 true (fl w10 t3 25 1 23 fun t23=>px 23 t23 t1 fun t25=>fl w10 t25 33 6 31 fun t27=>pp (Builtin.len_ #[31] 3 #[t27]) fun t28=>bf .lss 3 t2 t28 fun t29=>K11 [t29] w10) (K11 [undef] w10)) (fun s12 _d13 w14=>
 zb t19 (s12.getD 0 undef) fa_ fun t30=>K t30 w14)))
theorem ae5 {t0 t1 t2 : Value} {w : World} {K : VW} (h : abm t0 t1 t2 w K) : zd prog Yj #[t0,t1,t2] w K:=
 okC false (.s (.r (rz 2 0 2)) (.s (.r (ra 3 0 9 (.grp 9 true (ri 2 3 0) [11] (ra 2 5 0 (.grp 13 true (ri 5 7 16) [18] (ra 2 12 0 (.grp 20 true (ri 9 14 4112) [29] (rz 2 23 0)))))))) (.n))) func14 rfl (by kernel_rfl) (by kernel_rfl) h
def VV (t0 : Value) (w : World) (K : VW) : Prop:=
 pw w (Instr.box 25 t0) fun t1 w1=>
 lo w1 25 t1 fun t7=>ca ZP #[t7] w1 fun t8 w2=>
 pe t8 0 fun _t9=>pe t8 1 fun _t10=>pe t8 2 fun t11=>bt .eql 3 t11 (i6 0) fun t13=>K t13 w2
theorem aeB {t0 : Value} {w : World} {K : VW} (h : VV t0 w K) : zd prog XB #[t0] w K:=
 okC false (.s (.r (rz 2 0 2)) (.s (.r (rz 9 0 9)) (.s (.r (rz 3 0 0)) (.n)))) func54 rfl (by kernel_rfl) (by kernel_rfl) h
def Q3 (t0 : Value) (w : World) (K : VW) : Prop:=
 pw w (Instr.box 25 t0) fun t1 w1=>
 fl w1 t1 25 0 22 fun t10=>ca qC #[t10] w1 fun t11 w2=>
 pp (Op.unary .not t11) fun t12=>za (fun K3=>gIf t12 false (fl w2 t1 25 1 23 fun t15=>pp (Builtin.len_ #[23] 3 #[t15]) fun t16=>bt .lss 3 t16 (i6 1) fun t17=>K3 [t17] w2) (K3 [undef] w2)) (fun s4 _d5 w6=>
 zb t12 tr_ (s4.getD 0 undef) fun t18=>za (fun K7=>gIf t18 false (fl w6 t1 25 1 23 fun t21=>pp (Builtin.len_ #[23] 3 #[t21]) fun t22=>bt .gtr 3 t22 (i6 32) fun t23=>K7 [t23] w6) (K7 [undef] w6)) (fun s8 _d9 w10=>
 zb t18 tr_ (s8.getD 0 undef) fun t24=>za (fun K11=>gIf t24 false (fl w10 t1 25 2 3 fun t27=>bt .lss 3 t27 (i6 0) fun t28=>K11 [t28] w10) (K11 [undef] w10)) (fun s12 _d13 w14=>
 zb t24 tr_ (s12.getD 0 undef) fun t29=>za (fun K15=>gIf t29 false (fl w14 t1 25 2 3 fun t32=>fl w14 t1 25 1 23 fun t34=>pp (Builtin.len_ #[23] 3 #[t34]) fun t35=>bf .geq 3 t32 t35 fun t36=>K15 [t36] w14) (K15 [undef] w14)) (fun s16 _d17 w18=>
 zb t29 tr_ (s16.getD 0 undef) fun t37=>zc t37 (K (.tuple #[(i6 (-1)),(i6 (-1)),(i6 100)]) w18) (zn [(i6 0)] w18 (fun s20 _d21 w22 K19=>
 fl w22 t1 25 1 23 fun t40=>pp (Builtin.len_ #[23] 3 #[t40]) fun t41=>bf .lss 3 (s20.getD 0 undef) t41 fun t42=>zc t42 (lo w22 25 t1 fun t45=>ca Yz #[t45,(s20.getD 0 undef)] w22 fun t47 w23=>
 pp (Op.unary .not t47) fun t48=>zc t48 (K (.tuple #[(s20.getD 0 undef),(i6 (-1)),(i6 100)]) w23) (bt .add 3 (s20.getD 0 undef) (i6 1) fun t44=>K19 [t44] w23)) (zn [(i6 0)] w22 (fun s25 _d26 w27 K24=>
 fl w27 t1 25 1 23 fun t52=>pp (Builtin.len_ #[23] 3 #[t52]) fun t53=>bf .lss 3 (s25.getD 0 undef) t53 fun t54=>zc t54 (lo w27.drew 25 t1 fun t57=>fl w27.drew t1 25 1 23 fun t59=>xl w27.drew 23 t59 (s25.getD 0 undef) 33 fun t62=>pp (Instr.build 130 #[(0,t57),(1,t62)]) fun t63=>pw w27.drew (Instr.box 130 t63) fun t64 w28=>
 zn [(i6 0)] w28 (fun s30 _d31 w32 K29=>
 fl w32 t1 25 1 23 fun t67=>px 23 t67 (s25.getD 0 undef) fun t69=>fl w32 t69 33 6 31 fun t71=>pp (Builtin.len_ #[31] 3 #[t71]) fun t72=>bf .lss 3 (s30.getD 0 undef) t72 fun t73=>zc t73 (fl w32 t1 25 1 23 fun t78=>px 23 t78 (s25.getD 0 undef) fun t80=>fl w32 t80 33 6 31 fun t82=>xl w32 31 t82 (s30.getD 0 undef) 44 fun t85=>ca qi #[t64,t85] w32 fun t86 w33=>
 pp (Op.unary .not t86) fun t87=>zc t87 (K (.tuple #[(s25.getD 0 undef),(s30.getD 0 undef),(i6 100)]) w33) (bt .add 3 (s30.getD 0 undef) (i6 1) fun t75=>K29 [t75] w33)) (bt .add 3 (s25.getD 0 undef) (i6 1) fun t56=>K24 [t56] w32))) (K (.tuple #[(i6 0),(i6 0),(i6 0)]) w27)))))))))
theorem ab8 {t0 : Value} {w : World} {K : VW} (h : Q3 t0 w K) : zd prog ZP #[t0] w K:=
 okC false (.s (.r (rz 4 0 2)) (.s (.s (.r (ra 5 0 36 (.grp 13 false (ri 4 5 4) [17] (ra 2 9 0 (.grp 19 false (ri 4 11 4) [23] (ra 2 15 0 (.grp 25 false (ri 3 17 4) [28] (ra 2 20 0 (.grp 30 false (ri 6 22 68) [36] (rz 1 28 0)))))))))) (.c (.s (.r (rz 3 0 0)) (.n)) (.n))) (.s (.s (.r (rz 1 0 0)) (.b (.lp [5] (.s (.s (.r (rz 5 0 16)) (.c (.n) (.n))) (.s (.b (.s (.r (rz 4 0 33)) (.c (.s (.r (rz 4 0 0)) (.n)) (.n)))) (.r (rz 3 0 0))))))) (.s (.s (.r (rz 1 0 0)) (.b (.lp [6] (.s (.s (.r (rz 5 0 16)) (.c (.n) (.n))) (.s (.b (.s (.r (rz 9 0 33809)) (.s (.r (rz 1 0 0)) (.b (.lp [8] (.s (.s (.r (rz 9 0 4112)) (.c (.n) (.n))) (.s (.b (.s (.r (rz 12 0 2363408)) (.c (.s (.r (rz 5 0 0)) (.n)) (.n)))) (.r (rz 3 0 0))))))))) (.r (rz 3 0 0))))))) (.s (.r (rz 3 0 0)) (.n)))))) func84 rfl (by kernel_rfl) (by kernel_rfl) h
def J0 (t0 t1 : Value) (w : World) (K : VW) : Prop:=
 pw w (Instr.box 25 t0) fun t2 w1=>
 fl w1 t2 25 1 23 fun t20=>xl w1 23 t20 t1 33 fun t23=>pw w1 (Instr.alloc 33 true (.tuple #[])) fun t5 w2=>
 so w2 33 t5 t23 fun w3=>fl w3 t5 33 1 3 fun t25=>bt .lss 3 t25 (i6 0) fun t26=>za (fun K4=>gIf t26 false (fl w3 t5 33 1 3 fun t29=>bt .gtr 3 t29 (i6 8) fun t30=>K4 [t30] w3) (K4 [undef] w3)) (fun s5 _d6 w7=>
 zb t26 tr_ (s5.getD 0 undef) fun t31=>za (fun K8=>gIf t31 false (fl w7 t5 33 3 3 fun t34=>bt .lss 3 t34 (i6 0) fun t35=>K8 [t35] w7) (K8 [undef] w7)) (fun s9 _d10 w11=>
 zb t31 tr_ (s9.getD 0 undef) fun t36=>za (fun K12=>gIf t36 false (fl w11 t5 33 3 3 fun t39=>bt .gtr 3 t39 (i6 8) fun t40=>K12 [t40] w11) (K12 [undef] w11)) (fun s13 _d14 w15=>
 zb t36 tr_ (s13.getD 0 undef) fun t41=>za (fun K16=>gIf t41 false (fl w15 t5 33 4 29 fun t44=>pp (Builtin.len_ #[29] 3 #[t44]) fun t45=>fl w15 t5 33 3 3 fun t47=>bf .leq 3 t45 t47 fun t48=>K16 [t48] w15) (K16 [undef] w15)) (fun s17 _d18 w19=>
 zb t41 tr_ (s17.getD 0 undef) fun t49=>za (fun K20=>gIf t49 false (fl w19 t5 33 4 29 fun t52=>pp (Builtin.len_ #[29] 3 #[t52]) fun t53=>bt .gtr 3 t53 (i6 512) fun t54=>K20 [t54] w19) (K20 [undef] w19)) (fun s21 _d22 w23=>
 zb t49 tr_ (s21.getD 0 undef) fun t55=>za (fun K24=>gIf t55 false (fl w23 t5 33 5 30 fun t58=>pp (Builtin.len_ #[30] 3 #[t58]) fun t59=>fl w23 t5 33 4 29 fun t61=>pp (Builtin.len_ #[29] 3 #[t61]) fun t62=>bf .neq 3 t59 t62 fun t63=>K24 [t63] w23) (K24 [undef] w23)) (fun s25 _d26 w27=>
 zb t55 tr_ (s25.getD 0 undef) fun t64=>zc t64 (K fa_ w27) (zn [(i6 0)] w27 (fun s29 _d30 w31 K28=>
 fl w31 t5 33 4 29 fun t67=>pp (Builtin.len_ #[29] 3 #[t67]) fun t68=>bf .lss 3 (s29.getD 0 undef) t68 fun t69=>zc t69 (fl w31.drew t5 33 4 29 fun t73=>xl w31.drew 29 t73 (s29.getD 0 undef) 57 fun t76=>fl w31.drew t2 25 0 22 fun t78=>pp (Builtin.len_ #[22] 3 #[t78]) fun t79=>ca yY #[t76,t79,(i6 48),tr_] w31.drew fun t80 w32=>
 pp (Op.unary .not t80) fun t81=>zc t81 (K fa_ w32) (fl w32 t5 33 4 29 fun t83=>xl w32 29 t83 (s29.getD 0 undef) 57 fun t86=>ca qB #[t86] w32 fun t87 w33=>
 zn [(i6 0)] w33 (fun s35 _d36 w37 K34=>
 pp (Builtin.len_ #[67] 3 #[t87]) fun t90=>bf .lss 3 (s35.getD 0 undef) t90 fun t91=>zc t91 (xl w37.drew 67 t87 (s35.getD 0 undef) 3 fun t97=>fl w37.drew t5 33 1 3 fun t99=>bf .geq 3 t97 t99 fun t100=>za (fun K38=>gIf t100 false (fl w37.drew t5 33 3 3 fun t104=>bf .leq 3 (s29.getD 0 undef) t104 fun t105=>K38 [t105] w37.drew) (K38 [undef] w37.drew)) (fun s39 _d40 w41=>
 za (fun K42=>gIf (s39.getD 0 undef) true (xl w41 67 t87 (s35.getD 0 undef) 3 fun t110=>bt .lss 3 t110 (i6 0) fun t111=>K42 [t111] w41) (K42 [undef] w41)) (fun s43 _d44 w45=>
 za (fun K46=>gIf t100 false (zb (s39.getD 0 undef) (s43.getD 0 undef) fa_ fun t112=>K46 [t112] w45) (K46 [undef] w45)) (fun s47 _d48 w49=>
 zb t100 tr_ (s47.getD 0 undef) fun t113=>zc t113 (K fa_ w49) (bt .add 3 (s35.getD 0 undef) (i6 1) fun t93=>K34 [t93] w49))))) (bt .add 3 (s29.getD 0 undef) (i6 1) fun t71=>K28 [t71] w37)))) (pw w31 (Instr.alloc 208 true (.tuple #[])) fun t9 w50=>
 pw w50 (Instr.alloc 208 true (.tuple #[])) fun t10 w51=>
 zn [(i6 0)] w51 (fun s53 _d54 w55 K52=>
 fl w55 t5 33 3 3 fun t116=>bf .leq 3 (s53.getD 0 undef) t116 fun t117=>zc t117 (fl w55 t5 33 4 29 fun t121=>xl w55 29 t121 (s53.getD 0 undef) 57 fun t124=>ca YA #[t124,t9] w55 fun _t125 w56=>
 bt .add 3 (s53.getD 0 undef) (i6 1) fun t119=>K52 [t119] w56) (zn [(i6 0)] w55 (fun s58 _d59 w60 K57=>
 fl w60 t5 33 2 28 fun t128=>pp (Builtin.len_ #[28] 3 #[t128]) fun t129=>bf .lss 3 (s58.getD 0 undef) t129 fun t130=>zc t130 (fl w60 t5 33 2 28 fun t134=>xl w60 28 t134 (s58.getD 0 undef) 101 fun t137=>pw w60 (Instr.alloc 101 true (.tuple #[])) fun t13 w61=>
 so w61 101 t13 t137 fun w62=>fl w62 t13 101 0 3 fun t139=>bt .lss 3 t139 (i6 0) fun t140=>za (fun K63=>gIf t140 false (fl w62 t13 101 0 3 fun t143=>fl w62 t5 33 1 3 fun t145=>bf .geq 3 t143 t145 fun t146=>K63 [t146] w62) (K63 [undef] w62)) (fun s64 _d65 w66=>
 zb t140 tr_ (s64.getD 0 undef) fun t147=>za (fun K67=>gIf t147 false (fl w66 t13 101 1 3 fun t150=>bt .lss 3 t150 (i6 0) fun t151=>K67 [t151] w66) (K67 [undef] w66)) (fun s68 _d69 w70=>
 zb t147 tr_ (s68.getD 0 undef) fun t152=>za (fun K71=>gIf t152 false (fl w70 t13 101 1 3 fun t155=>fl w70 t5 33 1 3 fun t157=>bf .geq 3 t155 t157 fun t158=>K71 [t158] w70) (K71 [undef] w70)) (fun s72 _d73 w74=>
 zb t152 tr_ (s72.getD 0 undef) fun t159=>za (fun K75=>gIf t159 false (fl w74 t13 101 0 3 fun t162=>fl w74 t13 101 1 3 fun t164=>bf .eql 3 t162 t164 fun t165=>K75 [t165] w74) (K75 [undef] w74)) (fun s76 _d77 w78=>
 zb t159 tr_ (s76.getD 0 undef) fun t166=>zc t166 (K fa_ w78) (bt .gtr 3 (s58.getD 0 undef) (i6 0) fun t168=>za (fun K79=>gIf t168 true (fl w78.drew t5 33 2 28 fun t171=>bt .sub 3 (s58.getD 0 undef) (i6 1) fun t173=>px 28 t171 t173 fun t174=>fl w78.drew t174 101 0 3 fun t176=>fl w78.drew t13 101 0 3 fun t178=>bf .gtr 3 t176 t178 fun t179=>K79 [t179] w78.drew) (K79 [undef] w78.drew)) (fun s80 _d81 w82=>
 za (fun K83=>gIf (s80.getD 0 undef) false (fl w82 t5 33 2 28 fun t182=>bt .sub 3 (s58.getD 0 undef) (i6 1) fun t184=>px 28 t182 t184 fun t185=>fl w82 t185 101 0 3 fun t187=>fl w82 t13 101 0 3 fun t189=>bf .eql 3 t187 t189 fun t190=>K83 [t190] w82) (K83 [undef] w82)) (fun s84 _d85 w86=>
 za (fun K87=>gIf (s84.getD 0 undef) true (fl w86 t5 33 2 28 fun t193=>bt .sub 3 (s58.getD 0 undef) (i6 1) fun t195=>px 28 t193 t195 fun t196=>fl w86 t196 101 1 3 fun t198=>fl w86 t13 101 1 3 fun t200=>bf .geq 3 t198 t200 fun t201=>K87 [t201] w86) (K87 [undef] w86)) (fun s88 _d89 w90=>
 za (fun K91=>gIf (s80.getD 0 undef) false (zb (s84.getD 0 undef) (s88.getD 0 undef) fa_ fun t202=>K91 [t202] w90) (K91 [undef] w90)) (fun s92 _d93 w94=>
 za (fun K95=>gIf t168 true (zb (s80.getD 0 undef) tr_ (s92.getD 0 undef) fun t203=>K95 [t203] w94) (K95 [undef] w94)) (fun s96 _d97 w98=>
 zb t168 (s96.getD 0 undef) fa_ fun t204=>zc t204 (K fa_ w98) (fl w98.drew t13 101 0 3 fun t206=>fl w98.drew t13 101 1 3 fun t208=>px 208 t10 t206 fun t209=>px 207 t209 t208 fun t210=>so w98.drew 4 t210 tr_ fun w99=>bt .add 3 (s58.getD 0 undef) (i6 1) fun t132=>K57 [t132] w99)))))))))))) (zn [(i6 0)] w60 (fun s101 _d102 w103 K100=>
 fl w103 t5 33 1 3 fun t213=>bf .lss 3 (s101.getD 0 undef) t213 fun t214=>zc t214 (zn [(i6 0)] w103 (fun s105 _d106 w107 K104=>
 fl w107 t5 33 1 3 fun t219=>bf .lss 3 (s105.getD 0 undef) t219 fun t220=>zc t220 (bf .neq 3 (s101.getD 0 undef) (s105.getD 0 undef) fun t225=>za (fun K108=>gIf t225 true (px 208 t9 (s101.getD 0 undef) fun t229=>xl w107 207 t229 (s105.getD 0 undef) 4 fun t231=>K108 [t231] w107) (K108 [undef] w107)) (fun s109 _d110 w111=>
 zb t225 (s109.getD 0 undef) fa_ fun t232=>za (fun K112=>gIf t232 true (px 208 t10 (s101.getD 0 undef) fun t236=>xl w111 207 t236 (s105.getD 0 undef) 4 fun t238=>pp (Op.unary .not t238) fun t239=>K112 [t239] w111) (K112 [undef] w111)) (fun s113 _d114 w115=>
 zb t232 (s113.getD 0 undef) fa_ fun t240=>zc t240 (K fa_ w115) (zn [(i6 0)] w115 (fun s117 _d118 w119 K116=>
 fl w119 t5 33 1 3 fun t243=>bf .lss 3 (s117.getD 0 undef) t243 fun t244=>zc t244 (bf .neq 3 (s101.getD 0 undef) (s117.getD 0 undef) fun t249=>za (fun K120=>gIf t249 true (px 208 t10 (s101.getD 0 undef) fun t253=>xl w119 207 t253 (s105.getD 0 undef) 4 fun t255=>K120 [t255] w119) (K120 [undef] w119)) (fun s121 _d122 w123=>
 zb t249 (s121.getD 0 undef) fa_ fun t256=>za (fun K124=>gIf t256 true (px 208 t10 (s105.getD 0 undef) fun t260=>xl w123 207 t260 (s117.getD 0 undef) 4 fun t262=>K124 [t262] w123) (K124 [undef] w123)) (fun s125 _d126 w127=>
 zb t256 (s125.getD 0 undef) fa_ fun t263=>za (fun K128=>gIf t263 true (px 208 t10 (s101.getD 0 undef) fun t267=>xl w127 207 t267 (s117.getD 0 undef) 4 fun t269=>pp (Op.unary .not t269) fun t270=>K128 [t270] w127) (K128 [undef] w127)) (fun s129 _d130 w131=>
 zb t263 (s129.getD 0 undef) fa_ fun t271=>zc t271 (K fa_ w131) (bt .add 3 (s117.getD 0 undef) (i6 1) fun t246=>K116 [t246] w131))))) (bt .add 3 (s105.getD 0 undef) (i6 1) fun t222=>K104 [t222] w119)))))) (bt .add 3 (s101.getD 0 undef) (i6 1) fun t216=>K100 [t216] w107))) (zn [(i6 0),(i6 0)] w103 (fun s133 _d134 w135 K132=>
 fl w135 t5 33 6 31 fun t274=>pp (Builtin.len_ #[31] 3 #[t274]) fun t275=>bf .lss 3 (s133.getD 1 undef) t275 fun t276=>za (fun K136=>gIf t276 true (bt .leq 3 (s133.getD 1 undef) (i6 1024) fun t279=>K136 [t279] w135) (K136 [undef] w135)) (fun s137 _d138 w139=>
 zb t276 (s137.getD 0 undef) fa_ fun t280=>zc t280 (za (fun K140=>
 fl w139 t5 33 6 31 fun t284=>px 31 t284 (s133.getD 1 undef) fun t286=>fl w139 t286 44 0 35 fun t288=>bt .eql 35 t288 (Value.int .u8 4) fun t289=>zc t289 (bt .add 3 (s133.getD 0 undef) (i6 1) fun t291=>K140 [t291] w139) (K140 [(s133.getD 0 undef)] w139)) (fun s141 _d142 w143=>
 bt .add 3 (s133.getD 1 undef) (i6 1) fun t282=>K132 [(s141.getD 0 undef),t282] w143)) (fl w139 t5 33 6 31 fun t293=>pp (Builtin.len_ #[31] 3 #[t293]) fun t294=>bt .lss 3 t294 (i6 1) fun t295=>za (fun K144=>gIf t295 false (fl w139 t5 33 6 31 fun t298=>pp (Builtin.len_ #[31] 3 #[t298]) fun t299=>bt .gtr 3 t299 (i6 1024) fun t300=>K144 [t300] w139) (K144 [undef] w139)) (fun s145 _d146 w147=>
 zb t295 tr_ (s145.getD 0 undef) fun t301=>za (fun K148=>gIf t301 false (bt .gtr 3 (s133.getD 0 undef) (i6 256) fun t304=>K148 [t304] w147) (K148 [undef] w147)) (fun s149 _d150 w151=>
 zb t301 tr_ (s149.getD 0 undef) fun t305=>zc t305 (K fa_ w151) (fl w151 t2 25 2 3 fun t308=>bf .neq 3 t1 t308 fun t309=>za (fun K152=>gIf t309 false (fl w151 t5 33 1 3 fun t312=>bt .eql 3 t312 (i6 0) fun t313=>K152 [t313] w151) (K152 [undef] w151)) (fun s153 _d154 w155=>
 za (fun K156=>gIf (s153.getD 0 undef) true (fl w155 t5 33 3 3 fun t316=>bt .eql 3 t316 (i6 0) fun t317=>K156 [t317] w155) (K156 [undef] w155)) (fun s157 _d158 w159=>
 za (fun K160=>gIf t309 false (zb (s153.getD 0 undef) (s157.getD 0 undef) fa_ fun t318=>K160 [t318] w159) (K160 [undef] w159)) (fun s161 _d162 w163=>
 za (fun K164=>gIf (s161.getD 0 undef) true (fl w163 t5 33 4 29 fun t321=>px 29 t321 (i6 0) fun t322=>fl w163 t322 57 0 55 fun t324=>bt .eql 55 t324 (Value.int .u8 1) fun t325=>K164 [t325] w163) (K164 [undef] w163)) (fun s165 _d166 w167=>
 za (fun K168=>gIf t309 false (zb (s161.getD 0 undef) (s165.getD 0 undef) fa_ fun t326=>K168 [t326] w167) (K168 [undef] w167)) (fun s169 _d170 w171=>
 zb t309 tr_ (s169.getD 0 undef) fun t327=>K t327 w171))))))))))))))))))))))))))
theorem ade {t0 t1 : Value} {w : World} {K : VW} (h : J0 t0 t1 w K) : zd prog Yz #[t0,t1] w K:=
 okC false (.s (.r (rz 2 0 2)) (.s (.r (rz 7 0 10500)) (.s (.s (.r (ra 4 0 4 (.grp 27 false (ri 3 4 4) [30] (ra 2 7 0 (.grp 32 false (ri 3 9 4) [35] (ra 2 12 0 (.grp 37 false (ri 3 14 4) [40] (ra 2 17 0 (.grp 42 false (ri 6 19 260) [48] (ra 2 25 0 (.grp 50 false (ri 4 27 4) [54] (ra 2 31 0 (.grp 56 false (ri 7 33 260) [63] (rz 1 40 0)))))))))))))) (.c (.s (.r (rz 1 0 0)) (.n)) (.n))) (.s (.s (.r (rz 1 0 0)) (.b (.lp [6] (.s (.s (.r (rz 5 0 16)) (.c (.n) (.n))) (.s (.b (.s (.s (.r (rz 10 0 135428)) (.c (.s (.r (rz 1 0 0)) (.n)) (.n))) (.s (.r (rz 7 0 2308)) (.s (.r (rz 1 0 0)) (.b (.lp [8] (.s (.s (.r (rz 4 0 0)) (.c (.n) (.n))) (.s (.b (.s (.r (ra 8 0 1088 (.grp 101 false (ri 5 8 16) [106] (.grp 106 true (ri 5 13 64) [111] (.grp 101 false (ri 1 18 0) [112] (rz 1 19 0)))))) (.c (.s (.r (rz 1 0 0)) (.n)) (.n)))) (.r (rz 3 0 0)))))))))) (.r (rz 3 0 0))))))) (.s (.r (rz 2 0 10)) (.s (.s (.r (rz 1 0 0)) (.b (.lp [11] (.s (.s (.r (rz 4 0 16)) (.c (.n) (.n))) (.s (.b (.r (rz 6 0 2308))) (.r (rz 3 0 0))))))) (.s (.s (.r (rz 1 0 0)) (.b (.lp [12] (.s (.s (.r (rz 5 0 16)) (.c (.n) (.n))) (.s (.b (.s (.r (rz 7 0 10500)) (.s (.s (.r (ra 4 0 4 (.grp 141 false (ri 5 4 68) [146] (ra 2 9 0 (.grp 148 false (ri 3 11 4) [151] (ra 2 14 0 (.grp 153 false (ri 5 16 68) [158] (ra 2 21 0 (.grp 160 false (ri 5 23 68) [165] (rz 1 28 0)))))))))) (.c (.s (.r (rz 1 0 0)) (.n)) (.n))) (.s (.s (.r (ra 3 0 0 (.grp 169 true (ri 11 3 69636) [180] (.grp 180 false (ri 11 14 69636) [191] (.grp 191 true (ri 10 25 69636) [201] (.grp 180 false (ri 1 35 0) [202] (.grp 169 true (ri 1 36 0) [203] (rz 1 37 0)))))))) (.c (.s (.r (rz 1 0 0)) (.n)) (.n))) (.r (rz 7 0 8260)))))) (.r (rz 3 0 0))))))) (.s (.s (.r (rz 1 0 0)) (.b (.lp [14] (.s (.s (.r (rz 4 0 16)) (.c (.n) (.n))) (.s (.b (.s (.r (rz 1 0 0)) (.b (.lp [15] (.s (.s (.r (rz 4 0 16)) (.c (.n) (.n))) (.s (.b (.s (.s (.r (ra 4 0 0 (.grp 226 true (ri 5 4 256) [231] (ra 2 9 0 (.grp 233 true (ri 6 11 256) [239] (rz 1 17 0)))))) (.c (.s (.r (rz 1 0 0)) (.n)) (.n))) (.s (.r (rz 1 0 0)) (.b (.lp [16] (.s (.s (.r (rz 4 0 16)) (.c (.n) (.n))) (.s (.b (.s (.r (ra 4 0 0 (.grp 250 true (ri 5 4 256) [255] (ra 2 9 0 (.grp 257 true (ri 5 11 256) [262] (ra 2 16 0 (.grp 264 true (ri 6 18 256) [270] (rz 1 24 0)))))))) (.c (.s (.r (rz 1 0 0)) (.n)) (.n)))) (.r (rz 3 0 0))))))))) (.r (rz 3 0 0)))))))) (.r (rz 3 0 0))))))) (.s (.r (rz 1 0 0)) (.s (.s (.r (rz 1 0 0)) (.b (.lp [17,18] (.s (.s (.r (ra 6 0 16 (.grp 277 true (ri 2 6 0) [279] (rz 1 8 0)))) (.c (.n) (.n))) (.j [17] (.b (.s (.r (rz 7 0 1028)) (.c (.r (rz 3 0 0)) (.n)))) (.r (rz 3 0 0))))))) (.s (.s (.r (ra 5 0 4 (.grp 296 false (ri 4 5 4) [300] (ra 2 9 0 (.grp 302 false (ri 2 11 0) [304] (rz 1 13 0)))))) (.c (.s (.r (rz 1 0 0)) (.n)) (.n))) (.s (.r (ra 5 0 16 (.grp 310 false (ri 4 5 4) [314] (.grp 314 true (ri 3 9 4) [317] (.grp 310 false (ri 2 12 0) [319] (.grp 319 true (ri 6 14 260) [325] (.grp 310 false (ri 1 20 0) [326] (rz 2 21 0)))))))) (.n))))))))))))) func122 rfl (by kernel_rfl) (by kernel_rfl) h
def vV (t0 t1 : Value) (w : World) (K : VW) : Prop:=
 pw w (Instr.box 44 t1) fun t3 w1=>
 fa t0 130 1 fun t23=>fl w1 t23 33 6 31 fun t25=>pp (Builtin.len_ #[31] 3 #[t25]) fun t26=>fl w1 t3 44 12 3 fun t28=>bt .lss 3 t28 (i6 0) fun t29=>za (fun K2=>gIf t29 false (fl w1 t3 44 0 35 fun t32=>bt .eql 35 t32 (Value.int .u8 14) fun t33=>K2 [t33] w1) (K2 [undef] w1)) (fun s3 _d4 w5=>
 za (fun K6=>gIf (s3.getD 0 undef) true (fl w5 t3 44 10 3 fun t36=>bt .neq 3 t36 (i6 0) fun t37=>K6 [t37] w5) (K6 [undef] w5)) (fun s7 _d8 w9=>
 za (fun K10=>gIf t29 false (zb (s3.getD 0 undef) (s7.getD 0 undef) fa_ fun t38=>K10 [t38] w9) (K10 [undef] w9)) (fun s11 _d12 w13=>
 zb t29 tr_ (s11.getD 0 undef) fun t39=>za (fun K14=>gIf t39 false (fl w13 t3 44 0 35 fun t42=>bt .neq 35 t42 (Value.int .u8 14) fun t43=>K14 [t43] w13) (K14 [undef] w13)) (fun s15 _d16 w17=>
 za (fun K18=>gIf (s15.getD 0 undef) true (fl w17 t3 44 10 3 fun t46=>bt .lss 3 t46 (i6 0) fun t47=>K18 [t47] w17) (K18 [undef] w17)) (fun s19 _d20 w21=>
 za (fun K22=>gIf (s19.getD 0 undef) false (fl w21 t3 44 10 3 fun t50=>bf .geq 3 t50 t26 fun t52=>K22 [t52] w21) (K22 [undef] w21)) (fun s23 _d24 w25=>
 za (fun K26=>gIf (s15.getD 0 undef) true (zb (s19.getD 0 undef) tr_ (s23.getD 0 undef) fun t53=>K26 [t53] w25) (K26 [undef] w25)) (fun s27 _d28 w29=>
 za (fun K30=>gIf t39 false (zb (s15.getD 0 undef) (s27.getD 0 undef) fa_ fun t54=>K30 [t54] w29) (K30 [undef] w29)) (fun s31 _d32 w33=>
 zb t39 tr_ (s31.getD 0 undef) fun t55=>zc t55 (K fa_ w33) (fl w33 t3 44 1 38 fun t59=>ca jJ #[t0,t59] w33 fun t60 w34=>
 pe t60 0 fun t61=>pe t60 1 fun t62=>pw w34 (Instr.alloc 57 true (.tuple #[])) fun t6 w35=>
 so w35 57 t6 t61 fun w36=>fl w36 t3 44 2 41 fun t66=>ca yM #[t0,t66] w36 fun t67 w37=>
 pe t67 0 fun t68=>pe t67 1 fun t69=>pw w37 (Instr.alloc 57 true (.tuple #[])) fun t8 w38=>
 so w38 57 t8 t68 fun w39=>fl w39 t3 44 3 41 fun t73=>ca yM #[t0,t73] w39 fun t74 w40=>
 pe t74 0 fun t75=>pe t74 1 fun t76=>pw w40 (Instr.alloc 57 true (.tuple #[])) fun t10 w41=>
 so w41 57 t10 t75 fun w42=>fl w42 t3 44 6 38 fun t80=>ca yn #[t0,t80] w42 fun t81 w43=>
 pe t81 0 fun t82=>pe t81 1 fun t83=>pe t81 2 fun t84=>pw w43 (Instr.alloc 57 true (.tuple #[])) fun t12 w44=>
 so w44 57 t12 t82 fun w45=>fl w45 t3 44 0 35 fun t86=>bt .eql 35 t86 (Value.int .u8 1) fun t88=>zc t88 (lo w45 44 t3 fun t89=>ca zN #[t89,(Value.string { data:=#[84,65] })] w45 fun t90 w46=>
 za (fun K47=>gIf t90 true (K47 [t62] w46) (K47 [undef] w46)) (fun s48 _d49 w50=>
 zb t90 (s48.getD 0 undef) fa_ fun t93=>za (fun K51=>gIf t93 true (K51 [t69] w50) (K51 [undef] w50)) (fun s52 _d53 w54=>
 zb t93 (s52.getD 0 undef) fa_ fun t96=>za (fun K55=>gIf t96 true (lo w54 57 t8 fun t98=>lo w54 57 t6 fun t99=>ca yI #[t98,t99] w54 fun t100 w59=>
 K55 [t100] w59) (K55 [undef] w54)) (fun s56 _d57 w58=>
 zb t96 (s56.getD 0 undef) fa_ fun t101=>K t101 w58)))) (bt .eql 35 t86 (Value.int .u8 2) fun t103=>zc t103 (lo w45 44 t3 fun t104=>ca zN #[t104,(Value.string { data:=#[84,65,66,83] })] w45 fun t105 w60=>
 pp (Op.unary .not t105) fun t106=>za (fun K61=>gIf t106 false (pp (Op.unary .not t62) fun t109=>K61 [t109] w60) (K61 [undef] w60)) (fun s62 _d63 w64=>
 zb t106 tr_ (s62.getD 0 undef) fun t110=>za (fun K65=>gIf t110 false (pp (Op.unary .not t69) fun t113=>K65 [t113] w64) (K65 [undef] w64)) (fun s66 _d67 w68=>
 zb t110 tr_ (s66.getD 0 undef) fun t114=>za (fun K69=>gIf t114 false (pp (Op.unary .not t76) fun t117=>K69 [t117] w68) (K69 [undef] w68)) (fun s70 _d71 w72=>
 zb t114 tr_ (s70.getD 0 undef) fun t118=>zc t118 (K fa_ w72) (fl w72 t3 44 5 9 fun t120=>ca YB #[t120] w72 fun t121 w73=>
 zc t121 (lo w73 57 t6 fun t122=>ca zK #[t122,(Value.int .u8 1)] w73 fun t123 w74=>
 za (fun K75=>gIf t123 true (lo w74 57 t8 fun t125=>ca zK #[t125,(Value.int .u8 1)] w74 fun t126 w79=>
 K75 [t126] w79) (K75 [undef] w74)) (fun s76 _d77 w78=>
 zb t123 (s76.getD 0 undef) fa_ fun t127=>za (fun K80=>gIf t127 true (lo w78 57 t10 fun t129=>ca zK #[t129,(Value.int .u8 1)] w78 fun t130 w84=>
 K80 [t130] w84) (K80 [undef] w78)) (fun s81 _d82 w83=>
 zb t127 (s81.getD 0 undef) fa_ fun t131=>K t131 w83))) (lo w73 57 t8 fun t132=>ca zK #[t132,(Value.int .u8 1)] w73 fun t133 w85=>
 za (fun K86=>gIf t133 true (lo w85 57 t10 fun t135=>ca zK #[t135,(Value.int .u8 1)] w85 fun t136 w90=>
 K86 [t136] w90) (K86 [undef] w85)) (fun s87 _d88 w89=>
 zb t133 (s87.getD 0 undef) fa_ fun t137=>za (fun K91=>gIf t137 false (fl w89 t3 44 5 9 fun t140=>bt .eql 9 t140 (Value.string { data:=#[61,61] }) fun t141=>K91 [t141] w89) (K91 [undef] w89)) (fun s92 _d93 w94=>
 za (fun K95=>gIf (s92.getD 0 undef) false (fl w94 t3 44 5 9 fun t144=>bt .eql 9 t144 (Value.string { data:=#[33,61] }) fun t145=>K95 [t145] w94) (K95 [undef] w94)) (fun s96 _d97 w98=>
 za (fun K99=>gIf t137 false (zb (s92.getD 0 undef) tr_ (s96.getD 0 undef) fun t146=>K99 [t146] w98) (K99 [undef] w98)) (fun s100 _d101 w102=>
 za (fun K103=>gIf (s100.getD 0 undef) true (lo w102 57 t8 fun t148=>ca zK #[t148,(Value.int .u8 2)] w102 fun t149 w107=>
 K103 [t149] w107) (K103 [undef] w102)) (fun s104 _d105 w106=>
 za (fun K108=>gIf t137 false (zb (s100.getD 0 undef) (s104.getD 0 undef) fa_ fun t150=>K108 [t150] w106) (K108 [undef] w106)) (fun s109 _d110 w111=>
 za (fun K112=>gIf (s109.getD 0 undef) true (lo w111 57 t10 fun t152=>ca zK #[t152,(Value.int .u8 2)] w111 fun t153 w116=>
 K112 [t153] w116) (K112 [undef] w111)) (fun s113 _d114 w115=>
 za (fun K117=>gIf t137 false (zb (s109.getD 0 undef) (s113.getD 0 undef) fa_ fun t154=>K117 [t154] w115) (K117 [undef] w115)) (fun s118 _d119 w120=>
 zb t137 tr_ (s118.getD 0 undef) fun t155=>fl w120 t3 44 5 9 fun t157=>ca Zd #[t157] w120 fun t158 w121=>
 za (fun K122=>gIf t158 true (lo w121 57 t6 fun t160=>ca zK #[t160,(Value.int .u8 2)] w121 fun t161 w126=>
 K122 [t161] w126) (K122 [undef] w121)) (fun s123 _d124 w125=>
 zb t158 (s123.getD 0 undef) fa_ fun t162=>za (fun K127=>gIf t162 true (K127 [t155] w125) (K127 [undef] w125)) (fun s128 _d129 w130=>
 zb t162 (s128.getD 0 undef) fa_ fun t165=>K t165 w130)))))))))))))))) (bt .eql 35 t86 (Value.int .u8 3) fun t167=>zc t167 (lo w45 44 t3 fun t168=>ca zN #[t168,(Value.string { data:=#[84,65,83] })] w45 fun t169 w131=>
 za (fun K132=>gIf t169 true (K132 [t62] w131) (K132 [undef] w131)) (fun s133 _d134 w135=>
 zb t169 (s133.getD 0 undef) fa_ fun t172=>za (fun K136=>gIf t172 true (K136 [t69] w135) (K136 [undef] w135)) (fun s137 _d138 w139=>
 zb t172 (s137.getD 0 undef) fa_ fun t175=>za (fun K140=>gIf t175 true (fl w139 t3 44 5 9 fun t178=>bt .eql 9 t178 (Value.string { data:=#[45] }) fun t179=>K140 [t179] w139) (K140 [undef] w139)) (fun s141 _d142 w143=>
 za (fun K144=>gIf (s141.getD 0 undef) true (lo w143 57 t6 fun t181=>ca zK #[t181,(Value.int .u8 1)] w143 fun t182 w148=>
 K144 [t182] w148) (K144 [undef] w143)) (fun s145 _d146 w147=>
 za (fun K149=>gIf t175 true (zb (s141.getD 0 undef) (s145.getD 0 undef) fa_ fun t183=>K149 [t183] w147) (K149 [undef] w147)) (fun s150 _d151 w152=>
 za (fun K153=>gIf (s150.getD 0 undef) true (lo w152 57 t8 fun t185=>ca zK #[t185,(Value.int .u8 1)] w152 fun t186 w157=>
 K153 [t186] w157) (K153 [undef] w152)) (fun s154 _d155 w156=>
 za (fun K158=>gIf t175 true (zb (s150.getD 0 undef) (s154.getD 0 undef) fa_ fun t187=>K158 [t187] w156) (K158 [undef] w156)) (fun s159 _d160 w161=>
 za (fun K162=>gIf (s159.getD 0 undef) false (fl w161 t3 44 5 9 fun t190=>bt .eql 9 t190 (Value.string { data:=#[33] }) fun t191=>K162 [t191] w161) (K162 [undef] w161)) (fun s163 _d164 w165=>
 za (fun K166=>gIf (s163.getD 0 undef) true (lo w165 57 t6 fun t193=>ca zK #[t193,(Value.int .u8 2)] w165 fun t194 w170=>
 K166 [t194] w170) (K166 [undef] w165)) (fun s167 _d168 w169=>
 za (fun K171=>gIf (s159.getD 0 undef) false (zb (s163.getD 0 undef) (s167.getD 0 undef) fa_ fun t195=>K171 [t195] w169) (K171 [undef] w169)) (fun s172 _d173 w174=>
 za (fun K175=>gIf (s172.getD 0 undef) true (lo w174 57 t8 fun t197=>ca zK #[t197,(Value.int .u8 2)] w174 fun t198 w179=>
 K175 [t198] w179) (K175 [undef] w174)) (fun s176 _d177 w178=>
 za (fun K180=>gIf (s159.getD 0 undef) false (zb (s172.getD 0 undef) (s176.getD 0 undef) fa_ fun t199=>K180 [t199] w178) (K180 [undef] w178)) (fun s181 _d182 w183=>
 za (fun K184=>gIf t175 true (zb (s159.getD 0 undef) tr_ (s181.getD 0 undef) fun t200=>K184 [t200] w183) (K184 [undef] w183)) (fun s185 _d186 w187=>
 zb t175 (s185.getD 0 undef) fa_ fun t201=>K t201 w187)))))))))))))) (bt .eql 35 t86 (Value.int .u8 4) fun t203=>zc t203 (lo w45.drew 44 t3 fun t204=>ca zN #[t204,(Value.string { data:=#[84,70,77] })] w45.drew fun t205 w188=>
 za (fun K189=>gIf t205 true (K189 [t62] w188) (K189 [undef] w188)) (fun s190 _d191 w192=>
 zb t205 (s190.getD 0 undef) fa_ fun t208=>za (fun K193=>gIf t208 true (K193 [t84] w192) (K193 [undef] w192)) (fun s194 _d195 w196=>
 zb t208 (s194.getD 0 undef) fa_ fun t211=>za (fun K197=>gIf t211 true (lo w196 57 t6 fun t213=>ca zK #[t213,(Value.int .u8 4)] w196 fun t214 w201=>
 K197 [t214] w201) (K197 [undef] w196)) (fun s198 _d199 w200=>
 zb t211 (s198.getD 0 undef) fa_ fun t215=>za (fun K202=>gIf t215 true (fl w200 t6 57 1 4 fun t218=>fl w200 t3 44 7 4 fun t220=>bf .eql 4 t218 t220 fun t221=>K202 [t221] w200) (K202 [undef] w200)) (fun s203 _d204 w205=>
 zb t215 (s203.getD 0 undef) fa_ fun t222=>za (fun K206=>gIf t222 true (fl w205 t6 57 4 29 fun t225=>xl w205 29 t225 (i6 0) 57 fun t227=>lo w205 57 t12 fun t228=>ca yI #[t227,t228] w205 fun t229 w210=>
 K206 [t229] w210) (K206 [undef] w205)) (fun s207 _d208 w209=>
 zb t222 (s207.getD 0 undef) fa_ fun t230=>za (fun K211=>gIf t230 true (fl w209 t3 44 7 4 fun t233=>pp (Op.unary .not t233) fun t234=>K211 [t234] w209) (K211 [undef] w209)) (fun s212 _d213 w214=>
 za (fun K215=>gIf (s212.getD 0 undef) false (ca ky #[t83] w214 fun t237 w219=>
 bt .lss 3 t237 (i6 3) fun t238=>K215 [t238] w219) (K215 [undef] w214)) (fun s216 _d217 w218=>
 za (fun K220=>gIf t230 true (zb (s212.getD 0 undef) tr_ (s216.getD 0 undef) fun t239=>K220 [t239] w218) (K220 [undef] w218)) (fun s221 _d222 w223=>
 zb t230 (s221.getD 0 undef) fa_ fun t240=>K t240 w223))))))))) (bt .eql 35 t86 (Value.int .u8 5) fun t242=>zc t242 (lo w45.drew 44 t3 fun t243=>ca zN #[t243,(Value.string { data:=#[84,65] })] w45.drew fun t244 w224=>
 za (fun K225=>gIf t244 true (K225 [t62] w224) (K225 [undef] w224)) (fun s226 _d227 w228=>
 zb t244 (s226.getD 0 undef) fa_ fun t247=>za (fun K229=>gIf t247 true (K229 [t69] w228) (K229 [undef] w228)) (fun s230 _d231 w232=>
 zb t247 (s230.getD 0 undef) fa_ fun t250=>za (fun K233=>gIf t250 true (lo w232 57 t6 fun t252=>ca zK #[t252,(Value.int .u8 3)] w232 fun t253 w237=>
 K233 [t253] w237) (K233 [undef] w232)) (fun s234 _d235 w236=>
 zb t250 (s234.getD 0 undef) fa_ fun t254=>za (fun K238=>gIf t254 true (fl w236 t6 57 4 29 fun t257=>xl w236 29 t257 (i6 0) 57 fun t259=>lo w236 57 t8 fun t260=>ca yI #[t259,t260] w236 fun t261 w242=>
 K238 [t261] w242) (K238 [undef] w236)) (fun s239 _d240 w241=>
 zb t254 (s239.getD 0 undef) fa_ fun t262=>K t262 w241))))) (bt .eql 35 t86 (Value.int .u8 6) fun t264=>zc t264 (lo w45 44 t3 fun t265=>ca zN #[t265,(Value.string { data:=#[84,76,85] })] w45 fun t266 w243=>
 pp (Op.unary .not t266) fun t267=>za (fun K244=>gIf t267 false (pp (Op.unary .not t62) fun t270=>K244 [t270] w243) (K244 [undef] w243)) (fun s245 _d246 w247=>
 zb t267 tr_ (s245.getD 0 undef) fun t271=>za (fun K248=>gIf t271 false (lo w247 57 t6 fun t273=>ca zK #[t273,(Value.int .u8 5)] w247 fun t274 w252=>
 pp (Op.unary .not t274) fun t275=>K248 [t275] w252) (K248 [undef] w247)) (fun s249 _d250 w251=>
 zb t271 tr_ (s249.getD 0 undef) fun t276=>za (fun K253=>gIf t276 false (fl w251 t6 57 3 3 fun t279=>fl w251 t3 44 9 3 fun t281=>bf .neq 3 t279 t281 fun t282=>K253 [t282] w251) (K253 [undef] w251)) (fun s254 _d255 w256=>
 zb t276 tr_ (s254.getD 0 undef) fun t283=>zc t283 (K fa_ w256) (fa t0 130 0 fun t287=>fl w256.drew t287 25 0 22 fun t289=>lo w256.drew 57 t6 fun t290=>ca Zc #[t289,t290] w256.drew fun t291 w257=>
 pe t291 0 fun t292=>pe t291 1 fun _t293=>fl w257 t3 44 4 42 fun t296=>ca xZ #[t0,t296,t292] w257 fun t298 w258=>
 K t298 w258))))) (bt .eql 35 t86 (Value.int .u8 7) fun t300=>zc t300 (lo w45.drew 44 t3 fun t301=>ca zN #[t301,(Value.string { data:=#[84,76,78] })] w45.drew fun t302 w259=>
 pp (Op.unary .not t302) fun t303=>za (fun K260=>gIf t303 false (pp (Op.unary .not t62) fun t306=>K260 [t306] w259) (K260 [undef] w259)) (fun s261 _d262 w263=>
 zb t303 tr_ (s261.getD 0 undef) fun t307=>za (fun K264=>gIf t307 false (fl w263 t3 44 8 3 fun t310=>bt .lss 3 t310 (i6 0) fun t311=>K264 [t311] w263) (K264 [undef] w263)) (fun s265 _d266 w267=>
 zb t307 tr_ (s265.getD 0 undef) fun t312=>za (fun K268=>gIf t312 false (fl w267 t3 44 8 3 fun t315=>fa t0 130 0 fun t318=>fl w267 t318 25 1 23 fun t320=>pp (Builtin.len_ #[23] 3 #[t320]) fun t321=>bf .geq 3 t315 t321 fun t322=>K268 [t322] w267) (K268 [undef] w267)) (fun s269 _d270 w271=>
 zb t312 tr_ (s269.getD 0 undef) fun t323=>zc t323 (K fa_ w271) (fa t0 130 0 fun t326=>fl w271.drew t326 25 1 23 fun t328=>fl w271.drew t3 44 8 3 fun t330=>xl w271.drew 23 t328 t330 33 fun t332=>pw w271.drew (Instr.alloc 33 true (.tuple #[])) fun t18 w272=>
 Ext w271.drew w272∧
 so w272 33 t18 t332 fun w273=>fl w273.drew t3 44 4 42 fun t335=>fl w273.drew t18 33 4 29 fun t337=>fl w273.drew t18 33 3 3 fun t339=>bt .add 3 t339 (i6 1) fun t340=>pp (Instr.sliceAt 29 t337 (some (i6 1)) (some t340) none) fun t341=>ca xZ #[t0,t335,t341] w273.drew fun t342 w274=>
 za (fun K275=>gIf t342 true (lo w274 57 t6 fun t344=>fl w274 t18 33 4 29 fun t346=>xl w274 29 t346 (i6 0) 57 fun t348=>ca yI #[t344,t348] w274 fun t349 w279=>
 K275 [t349] w279) (K275 [undef] w274)) (fun s276 _d277 w278=>
 zb t342 (s276.getD 0 undef) fa_ fun t350=>K t350 w278)))))) (bt .eql 35 t86 (Value.int .u8 8) fun t352=>zc t352 (lo w45 44 t3 fun t353=>ca zN #[t353,(Value.string { data:=#[84] })] w45 fun t354 w280=>
 za (fun K281=>gIf t354 true (K281 [t62] w280) (K281 [undef] w280)) (fun s282 _d283 w284=>
 zb t354 (s282.getD 0 undef) fa_ fun t357=>za (fun K285=>gIf t357 true (lo w284 57 t6 fun t359=>ca zK #[t359,(Value.int .u8 1)] w284 fun t360 w289=>
 K285 [t360] w289) (K285 [undef] w284)) (fun s286 _d287 w288=>
 zb t357 (s286.getD 0 undef) fa_ fun t361=>K t361 w288))) (bt .eql 35 t86 (Value.int .u8 9) fun t363=>zc t363 (lo w45 44 t3 fun t364=>ca zN #[t364,(Value.string { data:=#[65] })] w45 fun t365 w290=>
 za (fun K291=>gIf t365 true (K291 [t69] w290) (K291 [undef] w290)) (fun s292 _d293 w294=>
 zb t365 (s292.getD 0 undef) fa_ fun t368=>za (fun K295=>gIf t368 true (lo w294 57 t8 fun t370=>ca zK #[t370,(Value.int .u8 1)] w294 fun t371 w299=>
 K295 [t371] w299) (K295 [undef] w294)) (fun s296 _d297 w298=>
 zb t368 (s296.getD 0 undef) fa_ fun t372=>K t372 w298))) (bt .eql 35 t86 (Value.int .u8 10) fun t374=>zc t374 (fa t0 130 0 fun t378=>fl w45.drew t378 25 0 22 fun t380=>lo w45.drew 57 t12 fun t381=>ca ZN #[t380,t381] w45.drew fun t382 w300=>
 pe t382 0 fun t383=>pe t382 1 fun _t384=>lo w300 44 t3 fun t385=>ca zN #[t385,(Value.string { data:=#[70] })] w300 fun t386 w301=>
 za (fun K302=>gIf t386 true (K302 [t84] w301) (K302 [undef] w301)) (fun s303 _d304 w305=>
 zb t386 (s303.getD 0 undef) fa_ fun t389=>za (fun K306=>gIf t389 true (K306 [t383] w305) (K306 [undef] w305)) (fun s307 _d308 w309=>
 zb t389 (s307.getD 0 undef) fa_ fun t392=>za (fun K310=>gIf t392 true (ca ky #[t83] w309 fun t395 w314=>
 bt .lss 3 t395 (i6 2) fun t396=>K310 [t396] w314) (K310 [undef] w309)) (fun s311 _d312 w313=>
 zb t392 (s311.getD 0 undef) fa_ fun t397=>K t397 w313)))) (bt .eql 35 t86 (Value.int .u8 11) fun t399=>zc t399 (lo w45 44 t3 fun t400=>ca zN #[t400,(Value.string { data:=#[70] })] w45 fun t401 w315=>
 za (fun K316=>gIf t401 true (K316 [t84] w315) (K316 [undef] w315)) (fun s317 _d318 w319=>
 zb t401 (s317.getD 0 undef) fa_ fun t404=>za (fun K320=>gIf t404 true (pf 44 t3 6 fun t406=>fl w319 t406 38 0 3 fun t408=>bt .gtr 3 t408 (i6 0) fun t409=>K320 [t409] w319) (K320 [undef] w319)) (fun s321 _d322 w323=>
 zb t404 (s321.getD 0 undef) fa_ fun t410=>za (fun K324=>gIf t410 true (pf 44 t3 6 fun t412=>fl w323 t412 38 1 36 fun t414=>pp (Builtin.len_ #[36] 3 #[t414]) fun t415=>bt .eql 3 t415 (i6 0) fun t416=>K324 [t416] w323) (K324 [undef] w323)) (fun s325 _d326 w327=>
 zb t410 (s325.getD 0 undef) fa_ fun t417=>K t417 w327)))) (bt .eql 35 t86 (Value.int .u8 12) fun t419=>zc t419 (lo w45 44 t3 fun t420=>ca zN #[t420,(Value.string { data:=#[65,69] })] w45 fun t421 w328=>
 za (fun K329=>gIf t421 true (K329 [t69] w328) (K329 [undef] w328)) (fun s330 _d331 w332=>
 zb t421 (s330.getD 0 undef) fa_ fun t424=>za (fun K333=>gIf t424 true (lo w332 57 t8 fun t426=>ca zK #[t426,(Value.int .u8 2)] w332 fun t427 w337=>
 K333 [t427] w337) (K333 [undef] w332)) (fun s334 _d335 w336=>
 zb t424 (s334.getD 0 undef) fa_ fun t428=>za (fun K338=>gIf t428 true (fl w336 t3 44 11 3 fun t431=>bt .geq 3 t431 (i6 0) fun t432=>K338 [t432] w336) (K338 [undef] w336)) (fun s339 _d340 w341=>
 zb t428 (s339.getD 0 undef) fa_ fun t433=>za (fun K342=>gIf t433 true (fl w341 t3 44 11 3 fun t436=>bf .lss 3 t436 t26 fun t438=>K342 [t438] w341) (K342 [undef] w341)) (fun s343 _d344 w345=>
 zb t433 (s343.getD 0 undef) fa_ fun t439=>K t439 w345))))) (za (fun K346=>
 bt .eql 35 t86 (Value.int .u8 13) fun t441=>zc t441 (K346 [t441] w45) (bt .eql 35 t86 (Value.int .u8 14) fun t442=>K346 [t442] w45)) (fun s347 _d348 w349=>
 zc (s347.getD 0 undef) (lo w349 44 t3 fun t443=>ca zN #[t443,(Value.string { data:=#[] })] w349 fun t444 w350=>
 K t444 w350) (K fa_ w349)))))))))))))))))))))))
theorem QD {t0 t1 : Value} {w : World} {K : VW} (h : vV t0 t1 w K) : zd prog qi #[t0,t1] w K:=
 okC false (.s (.r (rz 2 0 2)) (.s (.r (rz 7 0 256)) (.s (.s (.r (ra 4 0 4 (.grp 30 false (ri 4 4 4) [34] (.grp 34 true (ri 3 8 4) [37] (.grp 30 false (ri 1 11 0) [38] (ra 2 12 0 (.grp 40 false (ri 4 14 4) [44] (.grp 44 true (ri 4 18 4) [48] (.grp 48 false (ri 4 22 4) [52] (.grp 44 true (ri 1 26 0) [53] (.grp 40 false (ri 1 27 0) [54] (rz 1 28 0)))))))))))) (.c (.s (.r (rz 1 0 0)) (.n)) (.n))) (.s (.r (rz 10 0 163984)) (.s (.r (rz 10 0 163984)) (.s (.r (rz 10 0 163984)) (.s (.r (rz 12 0 655504)) (.s (.s (.r (rz 2 0 4)) (.b (.s (.r (rz 2 0 0)) (.c (.s (.r (ra 3 0 9 (.grp 91 true (ri 1 3 0) [92] (ra 2 4 0 (.grp 94 true (ri 1 6 0) [95] (ra 2 7 0 (.grp 97 true (ri 3 9 37) [100] (rz 2 12 0)))))))) (.n)) (.s (.r (rz 2 0 0)) (.c (.s (.s (.r (ra 4 0 9 (.grp 107 false (ri 2 4 0) [109] (ra 2 6 0 (.grp 111 false (ri 2 8 0) [113] (ra 2 10 0 (.grp 115 false (ri 2 12 0) [117] (rz 1 14 0)))))))) (.c (.s (.r (rz 1 0 0)) (.n)) (.n))) (.s (.s (.r (rz 3 0 36)) (.c (.s (.r (ra 3 0 9 (.grp 124 true (ri 2 3 9) [126] (ra 2 5 0 (.grp 128 true (ri 2 7 9) [130] (rz 2 9 0)))))) (.n)) (.n))) (.s (.r (ra 3 0 9 (.grp 134 true (ri 2 3 9) [136] (ra 2 5 0 (.grp 138 false (ri 4 7 4) [142] (.grp 142 false (ri 3 11 4) [145] (.grp 138 false (ri 2 14 0) [147] (.grp 147 true (ri 2 16 9) [149] (.grp 138 false (ri 2 18 0) [151] (.grp 151 true (ri 2 20 9) [153] (.grp 138 false (ri 1 22 0) [154] (rz 2 23 0)))))))))))) (.s (.r (ra 4 0 36 (.grp 159 true (ri 2 4 9) [161] (ra 2 6 0 (.grp 163 true (ri 1 8 0) [164] (rz 2 9 0)))))) (.n))))) (.s (.r (rz 2 0 0)) (.c (.s (.r (ra 3 0 9 (.grp 170 true (ri 1 3 0) [171] (ra 2 4 0 (.grp 173 true (ri 1 6 0) [174] (ra 2 7 0 (.grp 176 true (ri 4 9 4) [180] (.grp 180 true (ri 2 13 9) [182] (.grp 176 true (ri 2 15 0) [184] (.grp 184 true (ri 2 17 9) [186] (.grp 176 true (ri 2 19 0) [188] (.grp 188 false (ri 4 21 4) [192] (.grp 192 true (ri 2 25 9) [194] (.grp 188 false (ri 2 27 0) [196] (.grp 196 true (ri 2 29 9) [198] (.grp 188 false (ri 1 31 0) [199] (.grp 176 true (ri 1 32 0) [200] (rz 2 33 0)))))))))))))))))) (.n)) (.s (.r (rz 2 0 0)) (.c (.s (.r (ra 3 0 9 (.grp 206 true (ri 1 3 0) [207] (ra 2 4 0 (.grp 209 true (ri 1 6 0) [210] (ra 2 7 0 (.grp 212 true (ri 2 9 9) [214] (ra 2 11 0 (.grp 216 true (ri 5 13 68) [221] (ra 2 18 0 (.grp 223 true (ri 6 20 2372) [229] (ra 2 26 0 (.grp 231 true (ri 4 28 4) [235] (.grp 235 false (ri 3 32 8) [238] (.grp 231 true (ri 1 35 0) [239] (rz 2 36 0)))))))))))))))) (.n)) (.s (.r (rz 2 0 0)) (.c (.s (.r (ra 3 0 9 (.grp 245 true (ri 1 3 0) [246] (ra 2 4 0 (.grp 248 true (ri 1 6 0) [249] (ra 2 7 0 (.grp 251 true (ri 2 9 9) [253] (ra 2 11 0 (.grp 255 true (ri 6 13 2372) [261] (rz 2 19 0)))))))))) (.n)) (.s (.r (rz 2 0 0)) (.c (.s (.s (.r (ra 4 0 9 (.grp 268 false (ri 2 4 0) [270] (ra 2 6 0 (.grp 272 false (ri 3 8 9) [275] (ra 2 11 0 (.grp 277 false (ri 5 13 68) [282] (rz 1 18 0)))))))) (.c (.s (.r (rz 1 0 0)) (.n)) (.n))) (.s (.r (rz 12 0 9472)) (.s (.r (rz 6 0 528)) (.n)))) (.s (.r (rz 2 0 0)) (.c (.s (.s (.r (ra 4 0 9 (.grp 304 false (ri 2 4 0) [306] (ra 2 6 0 (.grp 308 false (ri 3 8 4) [311] (ra 2 11 0 (.grp 313 false (ri 9 13 4100) [322] (rz 1 22 0)))))))) (.c (.s (.r (rz 1 0 0)) (.n)) (.n))) (.s (.r (rz 11 0 2953472)) (.s (.r (ra 11 0 528656 (.grp 343 true (ri 6 11 2321) [349] (rz 2 17 0)))) (.n)))) (.s (.r (rz 2 0 0)) (.c (.s (.r (ra 3 0 9 (.grp 355 true (ri 1 3 0) [356] (ra 2 4 0 (.grp 358 true (ri 2 6 9) [360] (rz 2 8 0)))))) (.n)) (.s (.r (rz 2 0 0)) (.c (.s (.r (ra 3 0 9 (.grp 366 true (ri 1 3 0) [367] (ra 2 4 0 (.grp 369 true (ri 2 6 9) [371] (rz 2 8 0)))))) (.n)) (.s (.r (rz 2 0 0)) (.c (.s (.r (rz 12 0 9472)) (.s (.r (ra 3 0 9 (.grp 387 true (ri 1 3 0) [388] (ra 2 4 0 (.grp 390 true (ri 1 6 0) [391] (ra 2 7 0 (.grp 393 true (ri 3 9 8) [396] (rz 2 12 0)))))))) (.n))) (.s (.r (rz 2 0 0)) (.c (.s (.r (ra 3 0 9 (.grp 402 true (ri 1 3 0) [403] (ra 2 4 0 (.grp 405 true (ri 4 6 16) [409] (ra 2 10 0 (.grp 411 true (ri 5 12 16) [416] (rz 2 17 0)))))))) (.n)) (.s (.r (rz 2 0 0)) (.c (.s (.r (ra 3 0 9 (.grp 422 true (ri 1 3 0) [423] (ra 2 4 0 (.grp 425 true (ri 2 6 9) [427] (ra 2 8 0 (.grp 429 true (ri 3 10 4) [432] (ra 2 13 0 (.grp 434 true (ri 4 15 4) [438] (rz 2 19 0)))))))))) (.n)) (.j [440] (.s (.r (rz 2 0 0)) (.c (.n) (.r (rz 2 0 0)))) (.c (.s (.r (rz 3 0 9)) (.n)) (.n))))))))))))))))))))))))))))) (.s (.r (rz 1 0 0)) (.n)))))))))) func123 rfl (by kernel_rfl) (by kernel_rfl) h
def J1 (t0 t1 : Value) (w : World) (K : VW) : Prop:=
 pw w (Instr.box 57 t0) fun t2 w1=>
 lo w1 57 t2 fun t7=>ca qB #[t7] w1 fun t8 w2=>
 zn [(i6 0)] w2 (fun s4 _d5 w6 K3=>
 pp (Builtin.len_ #[67] 3 #[t8]) fun t11=>bf .lss 3 (s4.getD 0 undef) t11 fun t12=>zc t12 (bt .add 3 (s4.getD 0 undef) (i6 1) fun t16=>zn [t16] w6 (fun s8 _d9 w10 K7=>
 pp (Builtin.len_ #[67] 3 #[t8]) fun t19=>bf .lss 3 (s8.getD 0 undef) t19 fun t20=>zc t20 (xl w10.drew 67 t8 (s8.getD 0 undef) 3 fun t27=>xl w10.drew 67 t8 (s4.getD 0 undef) 3 fun t31=>VY t1 fun t32=>px 208 t32 t27 fun t33=>px 207 t33 t31 fun t34=>so w10.drew 4 t34 tr_ fun w11=>bt .add 3 (s8.getD 0 undef) (i6 1) fun t22=>K7 [t22] w11) (bt .add 3 (s4.getD 0 undef) (i6 1) fun t14=>K3 [t14] w10))) (K (.tuple #[]) w6))
theorem adf {t0 t1 : Value} {w : World} {K : VW} (h : J1 t0 t1 w K) : zd prog YA #[t0,t1] w K:=
 okC false (.s (.r (rz 1 0 2)) (.s (.r (rz 3 0 9)) (.s (.r (rz 1 0 0)) (.b (.lp [5] (.s (.s (.r (rz 4 0 0)) (.c (.n) (.n))) (.s (.b (.s (.r (rz 3 0 0)) (.b (.lp [6] (.s (.s (.r (rz 4 0 0)) (.c (.n) (.n))) (.s (.b (.r (rz 13 0 33620224))) (.r (rz 3 0 0)))))))) (.r (rz 3 0 0))))))))) func159 rfl (by kernel_rfl) (by kernel_rfl) h
def Y3 (t0 t1 : Value) (w : World) (K : VW) : Prop:=
 pw w (Instr.box 38 t1) fun t3 w1=>
 pw w1 (Instr.alloc 57 true (.tuple #[])) fun t4 w2=>
 lo w2 38 t3 fun t11=>ca yn #[t0,t11] w2 fun t12 w3=>
 pe t12 0 fun t13=>pe t12 1 fun t14=>pe t12 2 fun t15=>pw w3 (Instr.alloc 57 true (.tuple #[])) fun t6 w4=>
 so w4 57 t6 t13 fun w5=>lo w5.drew 57 t6 fun t16=>za (fun K6=>gIf t15 true (ca ky #[t14] w5.drew fun t20 w10=>
 Ext w5.drew w10∧
 bt .lss 3 t20 (i6 3) fun t21=>K6 [t21] w10) (K6 [undef] w5.drew)) (fun s7 _d8 w9=>
 zb t15 (s7.getD 0 undef) fa_ fun t22=>so w9 57 t4 t16 fun w11=>pq w11 (zt 57 t4) fun r12=>K (.tuple #[r12,t22]) w11)
theorem VC {t0 t1 : Value} {w : World} {K : VW} (h : Y3 t0 t1 w K) : zd prog jJ #[t0,t1] w K:=
 okC false (.s (.r (rz 3 0 10)) (.s (.r (rz 11 0 163876)) (.s (.r (ra 3 0 1 (.grp 18 true (ri 3 3 12) [21] (rz 3 6 8)))) (.n)))) func160 rfl (by kernel_rfl) (by kernel_rfl) h
def j5 (t0 t1 : Value) (w : World) (K : VW) : Prop:=
 pw w (Instr.box 41 t1) fun t3 w1=>
 pw w1 (Instr.alloc 57 true (.tuple #[])) fun t4 w2=>
 fl w2 t3 41 0 39 fun t10=>bt .eql 39 t10 (Value.int .u8 1) fun t12=>zc t12 (pp (Instr.build 57 #[(0,(Value.int .u8 1))]) fun t13=>fl w2 t3 41 2 38 fun t15=>ca yy #[t15] w2 fun t16 w3=>
 so w3 57 t4 t13 fun w4=>pq w4 (zt 57 t4) fun r5=>K (.tuple #[r5,t16]) w4) (bt .eql 39 t10 (Value.int .u8 2) fun t18=>zc t18 (pp (Instr.build 57 #[(0,(Value.int .u8 2))]) fun t19=>fl w2.drew t3 41 2 38 fun t21=>ca yy #[t21] w2.drew fun t22 w6=>
 za (fun K7=>gIf t22 true (fl w6 t3 41 1 2 fun t25=>bt .eql 2 t25 (i6 0) fun t26=>K7 [t26] w6) (K7 [undef] w6)) (fun s8 _d9 w10=>
 za (fun K11=>gIf (s8.getD 0 undef) false (pf 41 t3 1 fun t28=>K11 [t28] w10) (K11 [undef] w10)) (fun s12 _d13 w14=>
 ((za (fun K15=>gIf (s8.getD 0 undef) false (pw w14 (Instr.loadAt 2 (s12.getD 0 undef)) fun t29 w19=>
 bt .eql 2 t29 (i6 1) fun t30=>K15 [t30] w19) (K15 [undef] w14)) (fun s16 _d17 w18=>
 za (fun K20=>gIf t22 true (zb (s8.getD 0 undef) tr_ (s16.getD 0 undef) fun t31=>K20 [t31] w18) (K20 [undef] w18)) (fun s21 _d22 w23=>
 zb t22 (s21.getD 0 undef) fa_ fun t32=>so w23 57 t4 t19 fun w24=>pq w24 (zt 57 t4) fun r25=>K (.tuple #[r25,t32]) w24)))∧
 (so w14 57 t4 t19 fun w26=>za (fun K27=>gIf (s8.getD 0 undef) false (pw w26 (Instr.loadAt 2 (s12.getD 0 undef)) fun t29_32 w31=>
 bt .eql 2 t29_32 (i6 1) fun t30_33=>K27 [t30_33] w31) (K27 [undef] w26)) (fun s28 _d29 w30=>
 za (fun K34=>gIf t22 true (zb (s8.getD 0 undef) tr_ (s28.getD 0 undef) fun t31_38=>K34 [t31_38] w30) (K34 [undef] w30)) (fun s35 _d36 w37=>
 zb t22 (s35.getD 0 undef) fa_ fun t32_39=>pq w37 (zt 57 t4) fun r40=>K (.tuple #[r40,t32_39]) w37))))))) (za (fun K41=>
 bt .eql 39 t10 (Value.int .u8 3) fun t34=>zc t34 (K41 [t34] w2) (bt .eql 39 t10 (Value.int .u8 4) fun t35=>K41 [t35] w2)) (fun s42 _d43 w44=>
 zc (s42.getD 0 undef) (fl w44 t3 41 2 38 fun t39=>ca yn #[t0,t39] w44 fun t40 w45=>
 pe t40 0 fun t41=>pe t40 1 fun t42=>pe t40 2 fun t43=>pw w45 (Instr.alloc 57 true (.tuple #[])) fun t6 w46=>
 so w46 57 t6 t41 fun w47=>pp (Op.unary .not t43) fun t45=>za (fun K48=>gIf t45 false (fl w47 t3 41 1 2 fun t48=>bt .neq 2 t48 (i6 0) fun t49=>K48 [t49] w47) (K48 [undef] w47)) (fun s49 _d50 w51=>
 zb t45 tr_ (s49.getD 0 undef) fun t50=>zc t50 (lo w51 57 t6 fun t51=>so w51 57 t4 t51 fun w52=>pq w52 (zt 57 t4) fun r53=>K (.tuple #[r53,fa_]) w52) (fl w51 t3 41 0 39 fun t53=>bt .eql 39 t53 (Value.int .u8 3) fun t54=>zc t54 (lo w51.drew 57 t6 fun t55=>lo w51.drew 57 t6 fun t56=>ca qX #[t56] w51.drew fun t57 w54=>
 Ext w51.drew w54∧
 so w54 57 t4 t55 fun w55=>pq w55 (zt 57 t4) fun r56=>K (.tuple #[r56,t57]) w55) (lo w51.drew 57 t6 fun t58=>lo w51.drew 57 t6 fun t59=>ca qX #[t59] w51.drew fun t60 w57=>
 Ext w51.drew w57∧
 pp (Op.unary .not t60) fun t61=>za (fun K58=>gIf t61 true (ca ky #[t42] w57 fun t64 w62=>
 Ext w57 w62∧
 bt .lss 3 t64 (i6 2) fun t65=>K58 [t65] w62) (K58 [undef] w57)) (fun s59 _d60 w61=>
 zb t61 (s59.getD 0 undef) fa_ fun t66=>so w61 57 t4 t58 fun w63=>pq w63 (zt 57 t4) fun r64=>K (.tuple #[r64,t66]) w63))))) (pp (Instr.build 57 #[]) fun t67=>so w44 57 t4 t67 fun w65=>pq w65 (zt 57 t4) fun r66=>K (.tuple #[r66,fa_]) w65))))
theorem XN {t0 t1 : Value} {w : World} {K : VW} (h : j5 t0 t1 w K) : zd prog yM #[t0,t1] w K:=
 okC false (.s (.r (rz 3 0 10)) (.s (.s (.r (rz 2 0 4)) (.b (.s (.r (rz 2 0 0)) (.c (.s (.r (rz 6 0 656)) (.n)) (.s (.r (rz 2 0 0)) (.c (.s (.r (ra 5 0 144 (.grp 23 true (ri 4 5 4) [27] (.grp 27 false (ri 1 9 0) [28] (.bth (.grp 27 false (ri 2 10 2) [30] (.grp 23 true (ri 1 12 0) [31] (rz 3 13 8))) (ra 1 14 2 (.grp 27 false (ri 2 10 2) [30] (.grp 23 true (ri 1 12 0) [31] (ra 1 13 0 (rz 1 15 0)))))))))) (.n)) (.j [33] (.s (.r (rz 2 0 0)) (.c (.n) (.r (rz 2 0 0)))) (.c (.s (.r (rz 12 0 655504)) (.s (.s (.r (ra 3 0 0 (.grp 46 false (ri 3 3 4) [49] (rz 1 6 0)))) (.c (.s (.r (rz 3 0 9)) (.n)) (.n))) (.s (.s (.r (rz 3 0 4)) (.c (.s (.r (rz 5 0 181)) (.n)) (.n))) (.s (.r (ra 5 0 53 (.grp 62 true (ri 3 5 12) [65] (rz 3 8 8)))) (.n))))) (.n))))))))) (.s (.r (rz 3 0 8)) (.n)))) func161 rfl (by kernel_rfl) (by kernel_rfl) h
def ZI (t0 t1 : Value) (w : World) (K : VW) : Prop:=
 pw w (Instr.box 38 t1) fun t3 w1=>
 pw w1 (Instr.alloc 57 true (.tuple #[])) fun t4 w2=>
 fl w2.drew t3 38 0 3 fun t8=>bt .lss 3 t8 (i6 0) fun t9=>za (fun K3=>gIf t9 false (fl w2.drew t3 38 0 3 fun t12=>fa t0 130 1 fun t15=>fl w2.drew t15 33 4 29 fun t17=>pp (Builtin.len_ #[29] 3 #[t17]) fun t18=>bf .geq 3 t12 t18 fun t19=>K3 [t19] w2.drew) (K3 [undef] w2.drew)) (fun s4 _d5 w6=>
 zb t9 tr_ (s4.getD 0 undef) fun t20=>zc t20 (pp (Instr.build 57 #[]) fun t21=>so w6 57 t4 t21 fun w7=>pq w7 (zt 57 t4) fun r8=>K (.tuple #[r8,(Value.slice Option.none 0 0),fa_]) w7) (fa t0 130 0 fun t24=>fl w6.drew t24 25 0 22 fun t26=>fa t0 130 1 fun t29=>fl w6.drew t29 33 4 29 fun t31=>fl w6.drew t3 38 0 3 fun t33=>fl w6.drew t3 38 0 3 fun t35=>bt .add 3 t35 (i6 1) fun t36=>pp (Instr.sliceAt 29 t31 (some t33) (some t36) none) fun t37=>fl w6.drew t3 38 1 36 fun t39=>pp (Instr.build 38 #[(1,t39)]) fun t40=>ca Yy #[t26,t37,t40] w6.drew fun t41 w9=>
 pe t41 0 fun t42=>pe t41 1 fun t43=>pe t41 2 fun t44=>so w9 57 t4 t42 fun w10=>pq w10 (zt 57 t4) fun r11=>K (.tuple #[r11,t43,t44]) w10))
theorem Jc {t0 t1 : Value} {w : World} {K : VW} (h : ZI t0 t1 w K) : zd prog yn #[t0,t1] w K:=
 okC false (.s (.r (rz 4 0 10)) (.s (.s (.r (ra 4 0 4 (.grp 10 false (ri 9 4 4100) [19] (rz 1 13 0)))) (.c (.s (.r (rz 4 0 8)) (.n)) (.n))) (.s (.r (rz 26 0 141304495603968)) (.n)))) func74 rfl (by kernel_rfl) (by kernel_rfl) h
def J2 (t0 t1 : Value) (w : World) (K : VW) : Prop:=
 pw w (Instr.box 44 t0) fun t2 w1=>
 zn [tr_,(i6 0)] w1 (fun s3 _d4 w5 K2=>
 bt .lss 3 (s3.getD 1 undef) (i6 10) fun t11=>zc t11 (za (fun K6=>
 pp (Instr.index 9 (Value.string { data:=#[84,65,66,76,70,83,78,85,77,69] }) (s3.getD 1 undef)) fun t15=>zn [fa_,(i6 0)] w5 (fun s11 _d12 w13 K10=>
 pp (Builtin.len_ #[9] 3 #[t1]) fun t18=>bf .lss 3 (s11.getD 1 undef) t18 fun t19=>zc t19 (za (fun K14=>gIf (s11.getD 0 undef) false (pp (Instr.index 9 t1 (s11.getD 1 undef)) fun t26=>bf .eql 5 t26 t15 fun t28=>K14 [t28] w13) (K14 [undef] w13)) (fun s15 _d16 w17=>
 zb (s11.getD 0 undef) tr_ (s15.getD 0 undef) fun t29=>bt .add 3 (s11.getD 1 undef) (i6 1) fun t21=>K10 [t29,t21] w17)) (zc (s11.getD 0 undef) (K6 [(s3.getD 0 undef)] w13) (bt .eql 5 t15 (Value.int .u8 84) fun t33=>zc t33 (za (fun K18=>gIf (s3.getD 0 undef) true (fl w13 t2 44 1 38 fun t37=>ca yy #[t37] w13 fun t38 w22=>
 K18 [t38] w22) (K18 [undef] w13)) (fun s19 _d20 w21=>
 zb (s3.getD 0 undef) (s19.getD 0 undef) fa_ fun t39=>K6 [t39] w21)) (bt .eql 5 t15 (Value.int .u8 65) fun t41=>zc t41 (za (fun K23=>gIf (s3.getD 0 undef) true (fl w13 t2 44 2 41 fun t45=>ca xO #[t45] w13 fun t46 w27=>
 K23 [t46] w27) (K23 [undef] w13)) (fun s24 _d25 w26=>
 zb (s3.getD 0 undef) (s24.getD 0 undef) fa_ fun t47=>K6 [t47] w26)) (bt .eql 5 t15 (Value.int .u8 66) fun t49=>zc t49 (za (fun K28=>gIf (s3.getD 0 undef) true (fl w13 t2 44 3 41 fun t53=>ca xO #[t53] w13 fun t54 w32=>
 K28 [t54] w32) (K28 [undef] w13)) (fun s29 _d30 w31=>
 zb (s3.getD 0 undef) (s29.getD 0 undef) fa_ fun t55=>K6 [t55] w31)) (bt .eql 5 t15 (Value.int .u8 76) fun t57=>zc t57 (za (fun K33=>gIf (s3.getD 0 undef) true (fl w13 t2 44 4 42 fun t61=>pp (Builtin.len_ #[42] 3 #[t61]) fun t62=>bt .eql 3 t62 (i6 0) fun t63=>K33 [t63] w13) (K33 [undef] w13)) (fun s34 _d35 w36=>
 zb (s3.getD 0 undef) (s34.getD 0 undef) fa_ fun t64=>K6 [t64] w36)) (bt .eql 5 t15 (Value.int .u8 70) fun t66=>zc t66 (za (fun K37=>gIf (s3.getD 0 undef) true (fl w13 t2 44 6 38 fun t70=>ca yy #[t70] w13 fun t71 w41=>
 K37 [t71] w41) (K37 [undef] w13)) (fun s38 _d39 w40=>
 zb (s3.getD 0 undef) (s38.getD 0 undef) fa_ fun t72=>K6 [t72] w40)) (bt .eql 5 t15 (Value.int .u8 83) fun t74=>zc t74 (za (fun K42=>gIf (s3.getD 0 undef) true (fl w13 t2 44 5 9 fun t78=>bt .eql 9 t78 (Value.string { data:=#[] }) fun t79=>K42 [t79] w13) (K42 [undef] w13)) (fun s43 _d44 w45=>
 zb (s3.getD 0 undef) (s43.getD 0 undef) fa_ fun t80=>K6 [t80] w45)) (bt .eql 5 t15 (Value.int .u8 78) fun t82=>zc t82 (za (fun K46=>gIf (s3.getD 0 undef) true (fl w13 t2 44 8 3 fun t86=>bt .eql 3 t86 (i6 0) fun t87=>K46 [t87] w13) (K46 [undef] w13)) (fun s47 _d48 w49=>
 zb (s3.getD 0 undef) (s47.getD 0 undef) fa_ fun t88=>K6 [t88] w49)) (bt .eql 5 t15 (Value.int .u8 85) fun t90=>zc t90 (za (fun K50=>gIf (s3.getD 0 undef) true (fl w13 t2 44 9 3 fun t94=>bt .eql 3 t94 (i6 0) fun t95=>K50 [t95] w13) (K50 [undef] w13)) (fun s51 _d52 w53=>
 zb (s3.getD 0 undef) (s51.getD 0 undef) fa_ fun t96=>K6 [t96] w53)) (bt .eql 5 t15 (Value.int .u8 77) fun t98=>zc t98 (za (fun K54=>gIf (s3.getD 0 undef) true (fl w13 t2 44 7 4 fun t102=>pp (Op.unary .not t102) fun t103=>K54 [t103] w13) (K54 [undef] w13)) (fun s55 _d56 w57=>
 zb (s3.getD 0 undef) (s55.getD 0 undef) fa_ fun t104=>K6 [t104] w57)) (bt .eql 5 t15 (Value.int .u8 69) fun t106=>zc t106 (za (fun K58=>gIf (s3.getD 0 undef) true (fl w13 t2 44 11 3 fun t110=>bt .eql 3 t110 (i6 0) fun t111=>K58 [t111] w13) (K58 [undef] w13)) (fun s59 _d60 w61=>
 zb (s3.getD 0 undef) (s59.getD 0 undef) fa_ fun t112=>K6 [t112] w61)) (K6 [(s3.getD 0 undef)] w13)))))))))))))) (fun s7 _d8 w9=>
 bt .add 3 (s3.getD 1 undef) (i6 1) fun t13=>K2 [(s7.getD 0 undef),t13] w9)) (K (s3.getD 0 undef) w5))
theorem adg {t0 t1 : Value} {w : World} {K : VW} (h : J2 t0 t1 w K) : zd prog zN #[t0,t1] w K:=
 okC false (.s (.r (rz 2 0 2)) (.s (.r (rz 1 0 0)) (.s (.s (.r (rz 1 0 0)) (.b (.lp [5,6] (.s (.s (.r (rz 2 0 0)) (.c (.n) (.n))) (.j [5] (.b (.s (.r (rz 3 0 0)) (.s (.r (rz 1 0 0)) (.s (.s (.r (rz 1 0 0)) (.b (.lp [8,9] (.s (.s (.r (rz 4 0 0)) (.c (.n) (.n))) (.s (.b (.r (ra 2 0 0 (.grp 23 false (ri 5 2 0) [28] (rz 2 7 0))))) (.r (rz 3 0 0))))))) (.s (.s (.r (rz 1 0 0)) (.c (.n) (.n))) (.s (.r (rz 1 0 0)) (.b (.s (.r (rz 2 0 0)) (.c (.r (ra 2 0 0 (.grp 35 true (ri 3 2 36) [38] (rz 2 5 0)))) (.s (.r (rz 2 0 0)) (.c (.r (ra 2 0 0 (.grp 43 true (ri 3 2 36) [46] (rz 2 5 0)))) (.s (.r (rz 2 0 0)) (.c (.r (ra 2 0 0 (.grp 51 true (ri 3 2 36) [54] (rz 2 5 0)))) (.s (.r (rz 2 0 0)) (.c (.r (ra 2 0 0 (.grp 59 true (ri 4 2 4) [63] (rz 2 6 0)))) (.s (.r (rz 2 0 0)) (.c (.r (ra 2 0 0 (.grp 68 true (ri 3 2 36) [71] (rz 2 5 0)))) (.s (.r (rz 2 0 0)) (.c (.r (ra 2 0 0 (.grp 76 true (ri 3 2 4) [79] (rz 2 5 0)))) (.s (.r (rz 2 0 0)) (.c (.r (ra 2 0 0 (.grp 84 true (ri 3 2 4) [87] (rz 2 5 0)))) (.s (.r (rz 2 0 0)) (.c (.r (ra 2 0 0 (.grp 92 true (ri 3 2 4) [95] (rz 2 5 0)))) (.s (.r (rz 2 0 0)) (.c (.r (ra 2 0 0 (.grp 100 true (ri 3 2 4) [103] (rz 2 5 0)))) (.s (.r (rz 2 0 0)) (.c (.r (ra 2 0 0 (.grp 108 true (ri 3 2 4) [111] (rz 2 5 0)))) (.n)))))))))))))))))))))))))))) (.r (rz 3 0 0))))))) (.s (.r (rz 2 0 0)) (.n))))) func162 rfl (by kernel_rfl) (by kernel_rfl) h
def Q4 (t0 t1 : Value) (w : World) (K : VW) : Prop:=
 pw w (Instr.box 57 t0) fun t2 w1=>
 pw w1 (Instr.box 57 t1) fun t3 w2=>
 fl w2 t2 57 0 55 fun t6=>fl w2 t3 57 0 55 fun t8=>bf .neq 55 t6 t8 fun t9=>za (fun K3=>gIf t9 false (fl w2 t2 57 1 4 fun t12=>fl w2 t3 57 1 4 fun t14=>bf .neq 4 t12 t14 fun t15=>K3 [t15] w2) (K3 [undef] w2)) (fun s4 _d5 w6=>
 zb t9 tr_ (s4.getD 0 undef) fun t16=>za (fun K7=>gIf t16 false (fl w6 t2 57 3 3 fun t19=>fl w6 t3 57 3 3 fun t21=>bf .neq 3 t19 t21 fun t22=>K7 [t22] w6) (K7 [undef] w6)) (fun s8 _d9 w10=>
 zb t16 tr_ (s8.getD 0 undef) fun t23=>za (fun K11=>gIf t23 false (fl w10 t2 57 4 29 fun t26=>pp (Builtin.len_ #[29] 3 #[t26]) fun t27=>fl w10 t3 57 4 29 fun t29=>pp (Builtin.len_ #[29] 3 #[t29]) fun t30=>bf .neq 3 t27 t30 fun t31=>K11 [t31] w10) (K11 [undef] w10)) (fun s12 _d13 w14=>
 zb t23 tr_ (s12.getD 0 undef) fun t32=>zc t32 (K fa_ w14) (fl w14.drew t2 57 4 29 fun t34=>pp (Builtin.len_ #[29] 3 #[t34]) fun t35=>bt .eql 3 t35 (i6 0) fun t36=>za (fun K15=>gIf t36 false (fl w14.drew t2 57 4 29 fun t39=>xl w14.drew 29 t39 (i6 0) 57 fun t41=>fl w14.drew t3 57 4 29 fun t43=>xl w14.drew 29 t43 (i6 0) 57 fun t45=>ca yI #[t41,t45] w14.drew fun t46 w19=>
 K15 [t46] w19) (K15 [undef] w14.drew)) (fun s16 _d17 w18=>
 zb t36 tr_ (s16.getD 0 undef) fun t47=>K t47 w18)))))
theorem ab9 {t0 t1 : Value} {w : World} {K : VW} (h : Q4 t0 t1 w K) : zd prog yI #[t0,t1] w K:=
 okC false (.s (.r (rz 3 0 10)) (.s (.s (.r (ra 6 0 68 (.grp 10 false (ri 5 6 68) [15] (ra 2 11 0 (.grp 17 false (ri 5 13 68) [22] (ra 2 18 0 (.grp 24 false (ri 7 20 260) [31] (rz 1 27 0)))))))) (.c (.s (.r (rz 1 0 0)) (.n)) (.n))) (.s (.r (ra 5 0 4 (.grp 37 false (ri 9 5 148548) [46] (rz 2 14 0)))) (.n)))) func163 rfl (by kernel_rfl) (by kernel_rfl) h
def J3 (t0 : Value) (w : World) (K : VW) : Prop:=
 bt .eql 9 t0 (Value.string { data:=#[43] }) fun t4=>za (fun K1=>gIf t4 false (bt .eql 9 t0 (Value.string { data:=#[45] }) fun t7=>K1 [t7] w) (K1 [undef] w)) (fun s2 _d3 w4=>
 zb t4 tr_ (s2.getD 0 undef) fun t8=>za (fun K5=>gIf t8 false (bt .eql 9 t0 (Value.string { data:=#[42] }) fun t11=>K5 [t11] w4) (K5 [undef] w4)) (fun s6 _d7 w8=>
 zb t8 tr_ (s6.getD 0 undef) fun t12=>za (fun K9=>gIf t12 false (bt .eql 9 t0 (Value.string { data:=#[47] }) fun t15=>K9 [t15] w8) (K9 [undef] w8)) (fun s10 _d11 w12=>
 zb t12 tr_ (s10.getD 0 undef) fun t16=>za (fun K13=>gIf t16 false (bt .eql 9 t0 (Value.string { data:=#[37] }) fun t19=>K13 [t19] w12) (K13 [undef] w12)) (fun s14 _d15 w16=>
 zb t16 tr_ (s14.getD 0 undef) fun t20=>K t20 w16))))
theorem adh {t0 : Value} {w : World} {K : VW} (h : J3 t0 w K) : zd prog YB #[t0] w K:=
 okC false (.s (.r (rz 1 0 0)) (.s (.r (ra 3 0 0 (.grp 5 false (ri 2 3 0) [7] (ra 2 5 0 (.grp 9 false (ri 2 7 0) [11] (ra 2 9 0 (.grp 13 false (ri 2 11 0) [15] (ra 2 13 0 (.grp 17 false (ri 2 15 0) [19] (rz 2 17 0)))))))))) (.n))) func164 rfl (by kernel_rfl) (by kernel_rfl) h
def abn (t0 t1 : Value) (w : World) (K : VW) : Prop:=
 pw w (Instr.box 57 t0) fun t2 w1=>
 fl w1 t2 57 0 55 fun t6=>bf .eql 55 t6 t1 fun t8=>K t8 w1
theorem ae6 {t0 t1 : Value} {w : World} {K : VW} (h : abn t0 t1 w K) : zd prog zK #[t0,t1] w K:=
 okC false (.s (.r (rz 2 0 2)) (.s (.r (rz 5 0 4)) (.n))) func165 rfl (by kernel_rfl) (by kernel_rfl) h
def Qj (t0 : Value) (w : World) (K : VW) : Prop:=
 bt .eql 9 t0 (Value.string { data:=#[61,61] }) fun t4=>za (fun K1=>gIf t4 false (bt .eql 9 t0 (Value.string { data:=#[33,61] }) fun t7=>K1 [t7] w) (K1 [undef] w)) (fun s2 _d3 w4=>
 zb t4 tr_ (s2.getD 0 undef) fun t8=>za (fun K5=>gIf t8 false (bt .eql 9 t0 (Value.string { data:=#[60] }) fun t11=>K5 [t11] w4) (K5 [undef] w4)) (fun s6 _d7 w8=>
 zb t8 tr_ (s6.getD 0 undef) fun t12=>za (fun K9=>gIf t12 false (bt .eql 9 t0 (Value.string { data:=#[60,61] }) fun t15=>K9 [t15] w8) (K9 [undef] w8)) (fun s10 _d11 w12=>
 zb t12 tr_ (s10.getD 0 undef) fun t16=>za (fun K13=>gIf t16 false (bt .eql 9 t0 (Value.string { data:=#[62] }) fun t19=>K13 [t19] w12) (K13 [undef] w12)) (fun s14 _d15 w16=>
 zb t16 tr_ (s14.getD 0 undef) fun t20=>za (fun K17=>gIf t20 false (bt .eql 9 t0 (Value.string { data:=#[62,61] }) fun t23=>K17 [t23] w16) (K17 [undef] w16)) (fun s18 _d19 w20=>
 zb t20 tr_ (s18.getD 0 undef) fun t24=>K t24 w20)))))
theorem abo {t0 : Value} {w : World} {K : VW} (h : Qj t0 w K) : zd prog Zd #[t0] w K:=
 okC false (.s (.r (rz 1 0 0)) (.s (.r (ra 3 0 0 (.grp 5 false (ri 2 3 0) [7] (ra 2 5 0 (.grp 9 false (ri 2 7 0) [11] (ra 2 9 0 (.grp 13 false (ri 2 11 0) [15] (ra 2 13 0 (.grp 17 false (ri 2 15 0) [19] (ra 2 17 0 (.grp 21 false (ri 2 19 0) [23] (rz 2 21 0)))))))))))) (.n))) func166 rfl (by kernel_rfl) (by kernel_rfl) h
def J4 (t0 : Value) (w : World) (K : VW) : Prop:=
 zn [(i6 0),(i6 0)] w (fun s2 _d3 w4 K1=>
 pp (Builtin.len_ #[67] 3 #[t0]) fun t7=>bf .lss 3 (s2.getD 1 undef) t7 fun t8=>zc t8 (za (fun K5=>
 xl w4 67 t0 (s2.getD 1 undef) 3 fun t14=>bf .gtr 3 t14 (s2.getD 0 undef) fun t16=>zc t16 (xl w4 67 t0 (s2.getD 1 undef) 3 fun t20=>K5 [t20] w4) (K5 [(s2.getD 0 undef)] w4)) (fun s6 _d7 w8=>
 bt .add 3 (s2.getD 1 undef) (i6 1) fun t10=>K1 [(s6.getD 0 undef),t10] w8)) (K (s2.getD 0 undef) w4))
theorem adi {t0 : Value} {w : World} {K : VW} (h : J4 t0 w K) : zd prog ky #[t0] w K:=
 okC false (.s (.r (rz 1 0 0)) (.s (.r (rz 1 0 0)) (.s (.s (.r (rz 1 0 0)) (.b (.lp [3,4] (.s (.s (.r (rz 4 0 0)) (.c (.n) (.n))) (.j [3] (.b (.s (.r (rz 6 0 64)) (.c (.r (rz 5 0 64)) (.n)))) (.r (rz 3 0 0))))))) (.s (.r (rz 2 0 0)) (.n))))) func167 rfl (by kernel_rfl) (by kernel_rfl) h
def ZJ (t0 t1 t2 : Value) (w : World) (K : VW) : Prop:=
 pp (Builtin.len_ #[42] 3 #[t1]) fun t11=>pp (Builtin.len_ #[29] 3 #[t2]) fun t13=>bf .neq 3 t11 t13 fun t14=>zc t14 (K fa_ w) (zn [(i6 0)] w (fun s2 _d3 w4 K1=>
 pp (Builtin.len_ #[42] 3 #[t1]) fun t17=>bf .lss 3 (s2.getD 0 undef) t17 fun t18=>zc t18 (xl w4 42 t1 (s2.getD 0 undef) 41 fun t26=>ca yM #[t0,t26] w4 fun t27 w5=>
 pe t27 0 fun t28=>pe t27 1 fun t29=>pw w5 (Instr.alloc 57 true (.tuple #[])) fun t8 w6=>
 so w6 57 t8 t28 fun w7=>pp (Op.unary .not t29) fun t31=>za (fun K8=>gIf t31 false (lo w7.drew 57 t8 fun t33=>xl w7.drew 29 t2 (s2.getD 0 undef) 57 fun t37=>ca yI #[t33,t37] w7.drew fun t38 w12=>
 pp (Op.unary .not t38) fun t39=>K8 [t39] w12) (K8 [undef] w7.drew)) (fun s9 _d10 w11=>
 zb t31 tr_ (s9.getD 0 undef) fun t40=>zc t40 (K fa_ w11) (bt .add 3 (s2.getD 0 undef) (i6 1) fun t20=>K1 [t20] w11))) (K tr_ w4)))
theorem Jd {t0 t1 t2 : Value} {w : World} {K : VW} (h : ZJ t0 t1 t2 w K) : zd prog xZ #[t0,t1,t2] w K:=
 okC false (.s (.r (rz 1 0 0)) (.s (.s (.r (rz 5 0 0)) (.c (.s (.r (rz 1 0 0)) (.n)) (.n))) (.s (.s (.r (rz 1 0 0)) (.b (.lp [7] (.s (.s (.r (rz 4 0 0)) (.c (.n) (.n))) (.s (.b (.s (.r (rz 12 0 2623744)) (.s (.r (ra 3 0 0 (.grp 32 false (ri 7 3 2305) [39] (rz 1 10 0)))) (.c (.s (.r (rz 1 0 0)) (.n)) (.n))))) (.r (rz 3 0 0))))))) (.s (.r (rz 1 0 0)) (.n))))) func169 rfl (by kernel_rfl) (by kernel_rfl) h
def Yg (t0 : Value) (w : World) (K : VW) : Prop:=
 pw w (Instr.box 38 t0) fun t1 w1=>
 fl w1 t1 38 0 3 fun t4=>bt .eql 3 t4 (i6 0) fun t5=>za (fun K2=>gIf t5 true (fl w1 t1 38 1 36 fun t8=>pp (Builtin.len_ #[36] 3 #[t8]) fun t9=>bt .eql 3 t9 (i6 0) fun t10=>K2 [t10] w1) (K2 [undef] w1)) (fun s3 _d4 w5=>
 zb t5 (s3.getD 0 undef) fa_ fun t11=>K t11 w5)
theorem J5 {t0 : Value} {w : World} {K : VW} (h : Yg t0 w K) : zd prog yy #[t0] w K:=
 okC false (.s (.r (rz 2 0 2)) (.s (.r (ra 4 0 4 (.grp 6 true (ri 4 4 4) [10] (rz 2 8 0)))) (.n))) func188 rfl (by kernel_rfl) (by kernel_rfl) h
def vW (t0 : Value) (w : World) (K : VW) : Prop:=
 pw w (Instr.box 41 t0) fun t1 w1=>
 fl w1 t1 41 0 39 fun t4=>bt .eql 39 t4 (Value.int .u8 0) fun t5=>za (fun K2=>gIf t5 true (fl w1 t1 41 1 2 fun t8=>bt .eql 2 t8 (i6 0) fun t9=>K2 [t9] w1) (K2 [undef] w1)) (fun s3 _d4 w5=>
 zb t5 (s3.getD 0 undef) fa_ fun t10=>za (fun K6=>gIf t10 true (fl w5 t1 41 2 38 fun t13=>ca yy #[t13] w5 fun t14 w10=>
 K6 [t14] w10) (K6 [undef] w5)) (fun s7 _d8 w9=>
 zb t10 (s7.getD 0 undef) fa_ fun t15=>K t15 w9))
theorem QE {t0 : Value} {w : World} {K : VW} (h : vW t0 w K) : zd prog xO #[t0] w K:=
 okC false (.s (.r (rz 2 0 2)) (.s (.r (ra 4 0 4 (.grp 6 true (ri 3 4 4) [9] (ra 2 7 0 (.grp 11 true (ri 3 9 36) [14] (rz 2 12 0)))))) (.n))) func190 rfl (by kernel_rfl) (by kernel_rfl) h
end Go.Proofs.Tryz
end
section
namespace Go.Sh
theorem aca {w : World} {b g m c : Bool} {A1 : (List Value→World→Prop)→Prop} {A2 A3 : (List Value→World→Prop)→World→Prop} {Z : Value→World→Prop}
  (h1 : ∀ K : List Value→World→Prop,K [.bool g] w→A1 K) (h2 : ∀ K : List Value→World→Prop,K [.bool m] w→A2 K w) (h3 : ∀ K : List Value→World→Prop,K [.bool c] w→A3 K w)
  (hZ : Z (.bool (b||(g&&(m||c)))) w) :
  za (fun K=>gIf (.bool b) false (A1 K) (K [undef] w)) fun s3 _ w5=>
   za (fun K=>gIf (s3.getD 0 undef) true (A2 K w5) (K [undef] w5)) fun s7 _ w9=>
    za (fun K=>gIf (s7.getD 0 undef) false (A3 K w9) (K [undef] w9)) fun s11 _ w13=>
     za (fun K=>gIf (s3.getD 0 undef) true (zb (s7.getD 0 undef) (.bool true) (s11.getD 0 undef) fun t=>K [t] w13) (K [undef] w13)) fun s15 _ w17=>
      za (fun K=>gIf (.bool b) false (zb (s3.getD 0 undef) (s15.getD 0 undef) (.bool false) fun t=>K [t] w17) (K [undef] w17)) fun s19 _ w21=>
       zb (.bool b) (.bool true) (s19.getD 0 undef) fun t=>Z t w21:=by
 cases b<;>cases g<;>cases m<;>cases c <;>
  (iterate 5 (intro K hK;first|refine hK _ _ fun _=>?_|refine h1 _ (hK _ _ fun _=>?_)|refine h2 _ (hK _ _ fun _=>?_)|refine h3 _ (hK _ _ fun _=>?_)|refine ⟨_,rfl,hK _ _ fun _=>?_⟩)) <;>
  exact ⟨_,rfl,by simpa using hZ⟩
end Go.Sh
namespace Go.Proofs
open Go.Sh
set_option maxRecDepth 100000
set_option linter.unusedSimpArgs false
set_option linter.unusedVariables false
def mtB (s : Int) (n : Nat) (refs : Bool) (t : TyD) : Bool:=zz s n t&&(refs||decide (t.regs.length=0))
def QF (s : Int) (n : Nat) (refs : Bool) (t : TyD) : Bool:=match t.of with|u::_=>mtB s n refs u|[]=>false
theorem afr {s : Int} {n : Nat} {refs : Bool} : ∀ {t : TyD} {h : 0<t.of.length},QF s n refs t=mtB s n refs t.of[0]
 |.mk _ _ _ _ (_::_),_=>rfl
 |.mk _ _ _ _ [],h=>absurd h (Nat.not_lt_zero _)
theorem ahC (s : Int) (n : Nat) (refs : Bool) (t : TyD) : mtB s (n+1) refs t =
  if ((decide (t.k≠4)&&(t.m||decide (t.re≠0)))||(decide (t.k≠5)&&decide (t.st≠0)))=true then false
  else if t.k=1∨t.k=2 then decide (t.of.length=0)
  else if t.k=5 then (decide (t.of.length=0)&&decide (0≤t.st))&&decide (t.st<s)
  else if t.k=3 then decide (t.of.length=1)&&QF s n refs t
  else if t.k=4 then ((refs&&decide (t.of.length=1))&&decide (-1≤t.re))&&QF s n refs t
  else false:=by
 have hreg0 : t.of = []→t.k≠4→t.regs = []:=fun ho hk=>by rw [aac ho,if_neg hk]
 rw [mtB,xE]
 cases hof : t.of with
 |nil=>
  have hi : inB s n t=false:=by rw [inB,hof]
  have hi2 : QF s n refs t=false:=by rw [QF,hof]
  rw [hi,hi2]
  by_cases h4 : t.k=4
  ·simp [h4]
  ·rw [hreg0 hof h4]
   by_cases h12 : t.k=1∨t.k=2
   ·rw [if_pos h12,if_pos h12]
    have h5 : ¬ t.k=5:=by omega
    by_cases hm : t.m=true<;>by_cases hr : t.re=0<;>by_cases hs : t.st=0<;>simp [hm,hr,hs,h4,h5]
   ·rw [if_neg h12,if_neg h12]
    by_cases h5 : t.k=5
    ·by_cases hm : t.m=true<;>by_cases hr : t.re=0<;>simp [hm,hr,h4,h5]
    ·simp [h5,h4]
 |cons u l=>
  have hi : inB s n t=zz s n u:=by rw [inB,hof]
  have hi2 : QF s n refs t=mtB s n refs u:=by rw [QF,hof]
  rw [hi,hi2,mtB]
  by_cases h12 : t.k=1∨t.k=2
  ·rw [if_pos h12,if_pos h12];simp
  rw [if_neg h12,if_neg h12]
  by_cases h5 : t.k=5
  ·simp [h5]
  rw [if_neg h5,if_neg h5]
  cases l with
  |cons x l=>simp
  |nil=>
   rw [aad hof]
   by_cases h3 : t.k=3
   ·have h4 : ¬ t.k=4:=by omega
    by_cases hm : t.m=true<;>by_cases hr : t.re=0<;>by_cases hs : t.st=0<;>simp [hm,hr,hs,h3,h4]
   ·rw [if_neg h3,if_neg h3]
    by_cases h4 : t.k=4
    ·by_cases hs : t.st=0<;>cases refs<;>by_cases hr : -1≤t.re<;>simp [hs,hr,h4,h5]
    ·simp [h4]
theorem aeC (s : Int) (n : Nat) (t : TyD) : mtB s n true t=zz s n t:=by rw [mtB,Bool.true_or,Bool.and_true]
set_option maxHeartbeats 1000000 in
theorem vL : ∀ (n : Nat) {t : TyD} {refs : Bool} {w : World} {r : Gh} {v : Value} {s : Int} {K : Value→World→Prop},n≤1000→Holds r w→TyG r v t→
  (∀ w',Ext w w'→K (.bool (mtB s n refs t)) w')→zd Tryz.prog Tryz.yY #[v,.int .i64 s,.int .i64 (n : Int),.bool refs] w K:=by
 intro n
 induction n with
 |zero=>
  intro t refs w r v s K _ hr hv h
  refine Tryz.Y2 ?_
  unfold Tryz.vK
  obtain ⟨p,cap,rfl,_,_,hof⟩:=hv
  have S:=St.start hr
  refine S.box fun b2 w1 S=>?_
  refine gg_ ?_
  refine aca (g:=decide (t.k≠4)) (m:=t.m) (c:=decide (t.re≠0)) (fun K hK=>by refine gg_ ?_;exact hK) (fun K hK=>by refine gg_ ?_;exact hK) (fun K hK=>by refine gg_ ?_;exact hK) ?_
  refine Zh (g:=decide (t.k≠5)) (c:=decide (t.st≠0)) (fun _ K hK=>by refine gg_ ?_;exact hK) (fun _ K hK=>by refine gg_ ?_;exact hK) ?_
  refine c_t (by simp) ?_
  exact h _ S.ext
 |succ n ih=>
  intro t refs w r v s K hn hr hv h
  refine Tryz.Y2 ?_
  unfold Tryz.vK
  obtain ⟨p,cap,rfl,_,_,hof⟩:=hv
  have S:=St.start hr
  refine S.box fun b2 w1 S=>?_
  have S : StX noX w r w1 [.cell b2 (tyL t p cap) 57]:=S
  refine gg_ ?_
  refine aca (g:=decide (t.k≠4)) (m:=t.m) (c:=decide (t.re≠0)) (fun K hK=>by refine gg_ ?_;exact hK) (fun K hK=>by refine gg_ ?_;exact hK) (fun K hK=>by refine gg_ ?_;exact hK) ?_
  refine Zh (g:=decide (t.k≠5)) (c:=decide (t.st≠0)) (fun _ K hK=>by refine gg_ ?_;exact hK) (fun _ K hK=>by refine gg_ ?_;exact hK) ?_
  rw [decide_eq_false (show ¬ ((n+1 : Nat) : Int)<1 by omega),Bool.false_or]
  rw [ahC] at h
  refine c_b (fun hbad=>?_) (fun hok=>?_)
  ·rw [if_pos hbad] at h;exact h _ S.ext
  rw [if_neg (by rw [hok];decide)] at h
  refine gg_ ?_
  intro K11 hK11
  refine gg_ ?_
  refine kK (c:=decide (t.k=2)) (hK11 _ _ fun _=>?_) fun _ hk=>?_
  rotate_left
  ·refine gg_ ?_;exact hk
  simp only [List.getD_cons_zero]
  refine c_b (fun h12=>?_) (fun h12=>?_)
  ·have h12 : t.k=1∨t.k=2:=by simpa using h12
   rw [if_pos h12] at h
   refine gg_ ?_
   rw [decide_eq_decide.2 (kO t.of.length)]
   exact h _ S.ext
  have h12 : ¬ (t.k=1∨t.k=2):=by simpa using h12
  rw [if_neg h12] at h
  refine gg_ ?_
  refine zh (fun h5=>?_) (fun h5=>?_)
  ·rw [if_pos h5] at h
   refine gg_ ?_
   refine zg (c:=decide (0≤t.st)) (fun _ K2 hK2=>by refine gg_ ?_;exact hK2) ?_
   refine zg (c:=decide (t.st<s)) (fun _ K2 hK2=>by refine gg_ ?_;exact hK2) ?_
   rw [decide_eq_decide.2 (kO t.of.length)]
   exact h _ S.ext
  rw [if_neg h5] at h
  refine gg_ ?_
  refine zh (fun h3=>?_) (fun h3=>?_)
  ·rw [if_pos h3] at h
   refine gg_ ?_
   refine zm (c:=QF s n refs t) (fun hb K2 hK2=>?_) fun w5 e5=>?_
   ·have hlen : t.of.length=1:=by simpa [j1] using hb
    refine gg_ ?_
    obtain ⟨b,off,c,rfl,hc,hcell,ht⟩:=kC S hof (i:=0) (by omega)
    refine gg_ ?_
    refine zq (n:=5) hc (by simpa using hcell) ?_
    refine gg_ ?_
    rw [show ((n+1 : Nat) : Int) - 1=(n : Int) by omega]
    refine ih (by omega) S.holds ht fun w6 e6=>?_
    rw [← afr]
    exact hK2 _ e6
   rw [decide_eq_decide.2 (j1 t.of.length)]
   exact h _ (S.go e5).ext
  rw [if_neg h3] at h
  refine gg_ ?_
  refine zh (fun h4=>?_) (fun h4=>?_)
  ·rw [if_pos h4] at h
   refine zg (c:=decide (t.of.length=1)) (fun _ K2 hK2=>by refine gg_ ?_;rw [decide_eq_decide.2 (j1 t.of.length)];exact hK2) ?_
   refine zg (c:=decide (-1≤t.re)) (fun _ K2 hK2=>by refine gg_ ?_;exact hK2) ?_
   refine zm (c:=QF s n refs t) (fun hb K2 hK2=>?_) fun w5 e5=>?_
   ·have hlen : t.of.length=1:=by
     simp only [Bool.and_eq_true,decide_eq_true_eq] at hb;exact hb.1.2
    refine gg_ ?_
    obtain ⟨b,off,c,rfl,hc,hcell,ht⟩:=kC S hof (i:=0) (by omega)
    refine gg_ ?_
    refine zq (n:=5) hc (by simpa using hcell) ?_
    refine gg_ ?_
    rw [show ((n+1 : Nat) : Int) - 1=(n : Int) by omega]
    refine ih (by omega) S.holds ht fun w6 e6=>?_
    rw [← afr]
    exact hK2 _ e6
   exact h _ (S.go e5).ext
  rw [if_neg h4] at h
  exact h _ S.ext
end Go.Proofs
end
section
namespace Go.Sh
theorem aih {w : World} {b g c : Bool} {A1 : (List Value→World→Prop)→Prop} {A2 : (List Value→World→Prop)→World→Prop} {Z : Value→World→Prop}
  (h1 : ∀ K : List Value→World→Prop,K [.bool g] w→A1 K) (h2 : ∀ K : List Value→World→Prop,K [.bool c] w→A2 K w) (hZ : Z (.bool (b&&(g||c))) w) :
  za (fun K=>gIf (.bool b) true (A1 K) (K [undef] w)) fun s15 _ w17=>
   za (fun K=>gIf (s15.getD 0 undef) false (A2 K w17) (K [undef] w17)) fun s19 _ w21=>
    za (fun K=>gIf (.bool b) true (zb (s15.getD 0 undef) (.bool true) (s19.getD 0 undef) fun t=>K [t] w21) (K [undef] w21)) fun s23 _ w25=>
     zb (.bool b) (s23.getD 0 undef) (.bool false) fun t=>Z t w25:=by
 cases b<;>cases g<;>cases c <;>
  (iterate 3 (intro K hK;first|refine hK _ _ fun _=>?_|refine h1 _ (hK _ _ fun _=>?_)|refine h2 _ (hK _ _ fun _=>?_)|refine ⟨_,rfl,hK _ _ fun _=>?_⟩)) <;>
  exact ⟨_,rfl,by simpa using hZ⟩
end Go.Sh
namespace Go.Proofs
open Go.Sh
set_option maxRecDepth 100000
set_option linter.unusedSimpArgs false
set_option linter.unusedVariables false
theorem adj {ss : List StD} {p : Option Addr} {cap : Nat} (hg : xQ ss) (hac : ∀ k,¬ Rch ss k k) : ∀ (m : Nat) {t : TyD} {w : World} {r : Gh} {v : Value} {K : Value→World→Prop},m≤100→rkT ss t≤m→zz ss.length 48 t=true→ss.length≤32→(∀ k,(ze ss k).length≤8)→
  Holds r w→StG r p ss→TyG r v t→(∀ (n : Nat) w',Ext w w'→n≤17*m+1→(n=wF ss m t∨(16<n∧16<wF ss m t))→K (.int .i64 (n : Int)) w')→zd Tryz.prog Tryz.jB #[.slice p ss.length cap,v] w K:=by
 intro m
 induction m with
 |zero=>
  intro t w r v K _ hrk hl h32 h8 hr hs hv h
  have h5 : ¬ t.k=5:=fun h=>by unfold rkT at hrk;rw [if_pos h] at hrk;omega
  refine Tryz.Qi ?_
  unfold Tryz.Z4
  obtain ⟨p1,cap1,rfl,_⟩:=hv
  have S:=St.start hr
  refine S.box fun b3 w1 S=>?_
  refine gg_ ?_
  refine zh (fun _=>?_) (fun hn=>absurd (by omega) h5)
  exact h 1 _ S.ext (by omega) (.inl (by rw [wF]))
 |succ m ih=>
  intro t w r v K hm hrk hl h32 h8 hr hs hv h
  refine Tryz.Qi ?_
  unfold Tryz.Z4
  obtain ⟨p1,cap1,rfl,_⟩:=hv
  have S:=St.start hr
  refine S.box fun b3 w1 S=>?_
  refine gg_ ?_
  refine zh (fun hn=>?_) (fun h5=>?_)
  ·exact h 1 _ S.ext (by omega) (.inl (by rw [wF,if_neg (by omega)]))
  have h5 : t.k=5:=by omega
  obtain ⟨hst0,hst1,_⟩:=qY hl h5
  have hlt : t.st.toNat<ss.length:=by omega
  obtain ⟨b,off,q,capq,rfl,hcell,_,_,hf⟩:=xP hs hlt
  have htl : ze ss t.st=ss[t.st.toNat].fs.map (·.2):=by
   rw [← yA hlt];simp only [ze,Int.toNat_natCast]
  have hlen : (ze ss t.st).length=ss[t.st.toNat].fs.length:=by rw [htl,List.length_map]
  have h88:=h8 t.st
  refine zi (ι:=Nat × Nat) (fun i=>[.int .i64 (i.2 : Nat),.int .i64 (i.1 : Nat)]) (fun i w'=>i.1≤(ze ss t.st).length∧i.2≤17*(m+1)+1∧(i.2=ya (((ze ss t.st).take i.1).map (wF ss m))∨(16<i.2∧16<ya (((ze ss t.st).take i.1).map (wF ss m))))∧St w r w' _)
   (fun i=>(ze ss t.st).length - i.1) (0,0) rfl ⟨Nat.zero_le _,Nat.zero_le _,.inl (by simp [ya]),S⟩ ?_
  clear S
  rintro ⟨i,n⟩ d w2 ⟨hi,hnb,hn,S⟩ K6 hK6
  simp only at hi hnb hn S ⊢
  simp only [List.getD_cons_zero,List.getD_cons_succ]
  refine gg_ ?_
  refine zp (S.at hcell) ?_
  refine gg_ ?_
  have hle : ya (((ze ss t.st).take i).map (wF ss m))≤wF ss (m+1) t:=by
   rw [wF,if_pos h5];exact abR _ _ _
  refine zg (c:=decide (n≤16)) (fun _ K2 hK2=>?_) ?_
  ·refine gg_ ?_
   rw [show decide ((n : Int)≤16)=decide (n≤16) from decide_eq_decide.2 (by omega)]
   exact hK2
  refine c_b (fun hlt2=>?_) (fun hge=>?_)
  ·obtain ⟨hlt2,hsm⟩ : i<ss[t.st.toNat].fs.length∧n≤16:=by
    simp only [Bool.and_eq_true,decide_eq_true_eq] at hlt2;omega
   have hlt3 : i<(ze ss t.st).length:=by omega
   have hn : n=ya (((ze ss t.st).take i).map (wF ss m)):=by omega
   obtain ⟨b2,off2,c,rfl,hcl,hcc,hty⟩:=kP hf hlt2
   refine gg_ ?_
   refine zp (S.at hcell) ?_
   refine gg_ ?_
   refine zq (n:=5) (c:=c) hcl (fun j v hj=>by
    have:=S.at (hcc (j+1) v (by simpa using hj))
    rw [Int.toNat_natCast,Nat.add_assoc _ 1 j,Nat.add_comm 1 j];exact this) ?_
   have hel : (ze ss t.st)[i]=ss[t.st.toNat].fs[i].2:=by simp only [htl,List.getElem_map]
   have hmem : ss[t.st.toNat].fs[i].2 ∈ ze ss t.st:=by rw [← hel];exact List.getElem_mem hlt3
   have hrk2:=aaW hg hac h5 hmem
   refine ih (by omega) (by omega) (hg _ _ hmem) h32 h8 S.holds hs hty fun x w5 e5 hxb hx=>?_
   have S:=S.go e5
   have hst:=Jw (wF ss m) hlt3
   rw [hel] at hst
   refine gg_ ?_
   rw [show ((n : Int)+(x : Int))=((n+x : Nat) : Int) by omega,show ((i : Int)+1)=((i+1 : Nat) : Int) by omega]
   exact hK6 (i+1,n+x) _ ⟨hlt3,by simp only;omega,by simp only;omega,S⟩ (by simp only;omega)
  ·refine h n _ S.ext hnb ?_
   by_cases hie : i=(ze ss t.st).length
   ·rw [hie,List.take_length] at hn
    rw [wF,if_pos h5];exact hn
   ·have h1 : ¬ n≤16:=by
     intro hc
     rw [decide_eq_true hc,Bool.and_true,decide_eq_false_iff_not] at hge
     omega
    exact .inr ⟨by omega,by omega⟩
theorem afV : ∀ (l : List Bool) (L : Nat),(∀ j,l.getD j false=true→j<L)→l.length≤cf l+L
 |[],L,_=>Nat.zero_le _
 |b::l,0,h=>by
  have hb : b=false:=by
   cases b
   ·rfl
   ·exact absurd (h 0 rfl) (Nat.lt_irrefl 0)
  have:=afV l 0 fun j hj=>absurd (h (j+1) (by simpa using hj)) (Nat.not_lt_zero _)
  rw [hb,cf,List.length_cons]
  simp only [Bool.false_eq_true,if_false]
  omega
 |b::l,L+1,h=>by
  have:=afV l L fun j hj=>Nat.lt_of_succ_lt_succ (h (j+1) (by simpa using hj))
  rw [cf,List.length_cons]
  omega
def Shut (ss : List StD) (k : Nat) (met : List Bool) : Prop:=∀ b : Nat,b<ss.length→(b=k∨mt met b=true)→∀ t ∈ ze ss b,t.k=5→mt met t.st=true
theorem ahD {ss : List StD} {k : Nat} {met : List Bool} (hg : xQ ss) (hk : k<ss.length) (h : Shut ss k met) {j : Int} (hr : Rch ss k j) : mt met j=true:=by
 induction hr with
 |one e=>obtain ⟨t,ht,h5,rfl⟩:=e;exact h k hk (.inl rfl) t ht h5
 |@more x j hr e ih=>
  obtain ⟨t,ht,h5,rfl⟩:=e
  have hin:=aaU hg hr
  have hx : ((x.toNat : Nat) : Int)=x:=by omega
  exact h x.toNat (by omega) (.inr (by rw [hx];exact ih)) t (by rw [hx];exact ht) h5
theorem acb {met : List Bool} {j : Int} (h : mt met j=true) : met.set j.toNat true=met:=by
 unfold mt at h
 rw [List.getD_eq_getElem?_getD] at h
 by_cases hl : j.toNat<met.length
 ·rw [List.getElem?_eq_getElem hl] at h
  have h : met[j.toNat]=true:=h
  rw [← h,List.set_getElem_self]
 ·rw [List.getElem?_eq_none (by omega)] at h;cases h
set_option maxHeartbeats 1000000 in
theorem abp {ss : List StD} {p : Option Addr} {cap k : Nat} (hg : xQ ss) (h32 : ss.length≤32) (hk : k<ss.length) (h8 : ∀ k,(ze ss k).length≤8) {w : World} {r : Gh} {K : Value→World→Prop} (hr : Holds r w) (hs : StG r p ss)
  (h : ∀ w',Ext w w'→K (.bool (qj ss k)) w') : zd Tryz.prog Tryz.vu #[.slice p ss.length cap,.int .i64 (k : Nat)] w K:=by
 refine Tryz.aat ?_
 unfold Tryz.Xy
 have S:=St.start hr
 refine S.al fun b5 w1 S=>?_
 have S : StX noX w r w1 [.cell b5 (zZ (List.replicate 32 false)) 192]:=S
 have hno : ∀ j : Nat,mt (List.replicate 32 false) j=true→False:=fun j hj=>by
  unfold mt at hj;rw [List.getD_eq_getElem?_getD,List.getElem?_replicate] at hj
  split at hj<;>cases hj
 refine zi (ι:=Nat × List Bool) (fun i=>[.int .i64 (i.1 : Nat)]) (fun i w'=>i.1≤ss.length+1∧i.2.length=32∧(∀ j : Nat,mt i.2 j=true→Rch ss k j)∧(Shut ss k i.2∨cf i.2+i.1≤32)∧StX noX w r w' [.cell b5 (zZ i.2) 192])
  (fun i=>ss.length+1 - i.1) (0,List.replicate 32 false) rfl ⟨Nat.zero_le _,rfl,fun j hj=>(hno j hj).elim,.inr (show cf (List.replicate 32 false)+0≤32 by decide),S⟩ ?_
 clear S
 rintro ⟨R,met⟩ d w2 ⟨hR,hl32,hsnd,hcl,S⟩ K2 hK2
 simp only at hR hl32 hsnd hcl S ⊢
 rw [List.getD_cons_zero]
 refine gg_ ?_
 refine zh (fun hlt=>?_) (fun hge=>?_)
 rotate_left
 ·have hRe : R=ss.length+1:=by omega
  have hsh : Shut ss k met:=by
   refine hcl.resolve_right fun hc=>?_
   have:=afV met ss.length fun j hj=>by
    have h1 : mt met j=true:=by unfold mt;rw [Int.toNat_natCast];exact hj
    have:=aaU hg (hsnd j h1)
    omega
   omega
  refine gg_ ?_
  refine S.ld (b:=b5) (v:=.bool (mt met (k : Int))) ?_ (by rw [Nat.zero_add,Nat.mul_one];exact YU (by omega))
  rw [Vk (b:=mt met (k : Int)) (fun hb=>hsnd k hb) fun hr=>ahD hg hk hsh hr]
  exact h _ S.ext
 have hlt : R≤ss.length:=by omega
 refine zi (ι:=Nat × List Bool) (fun i=>[.int .i64 (i.1 : Nat)]) (fun i w'=>i.1≤ss.length∧i.2.length=32∧(∀ j : Nat,mt i.2 j=true→Rch ss k j)∧cf i.2≤cf met∧(cf i.2=cf met→∀ b : Nat,b<i.1→(b=k∨mt i.2 b=true)→∀ t ∈ ze ss b,t.k=5→mt i.2 t.st=true)∧(Shut ss k met→i.2=met)∧StX noX w r w' [.cell b5 (zZ i.2) 192])
  (fun i=>ss.length - i.1) (0,met) rfl ⟨Nat.zero_le _,hl32,hsnd,Nat.le_refl _,fun _ b hb=>absurd hb (Nat.not_lt_zero _),fun _=>rfl,S⟩ ?_
 clear S
 rintro ⟨b,m1⟩ d w3 ⟨hb,hl1,hsnd1,hc1,hsh1,hfx1,S⟩ K6 hK6
 simp only at hb hl1 hsnd1 hc1 hsh1 hfx1 S ⊢
 rw [List.getD_cons_zero]
 refine gg_ ?_
 refine zh (fun hlt2=>?_) (fun hge2=>?_)
 rotate_left
 ·have hbe : b=ss.length:=by omega
  refine gg_ ?_
  rw [show ((R : Int)+1)=((R+1 : Nat) : Int) by omega]
  refine hK2 (R+1,m1) _ ⟨by simp only;omega,hl1,hsnd1,?_,S⟩ (by simp only;omega)
  rcases hcl with hcl|hcl
  ·rw [hfx1 hcl];exact .inl hcl
  ·by_cases hce : cf m1=cf met
   ·exact .inl fun b' hb'=>hsh1 hce b' (by omega)
   ·exact .inr (by simp only;omega)
 have hlt2 : b<ss.length:=by omega
 obtain ⟨bs,os,q,capf,rfl,hcs,_,_,hf⟩:=xP hs hlt2
 have htl:=yA hlt2
 have hlen : (ze ss (b : Int)).length=ss[b].fs.length:=by rw [htl,List.length_map]
 have h88:=h8 b
 refine zi (ι:=Nat × List Bool) (fun i=>[.int .i64 (i.1 : Nat)]) (fun i w'=>i.1≤(ze ss (b : Int)).length∧i.2.length=32∧(∀ j : Nat,mt i.2 j=true→Rch ss k j)∧cf i.2≤cf met∧(cf i.2=cf met→∀ b' : Nat,b'<b→(b'=k∨mt i.2 b'=true)→∀ t ∈ ze ss b',t.k=5→mt i.2 t.st=true)∧
   (cf i.2=cf met→∀ t ∈ (ze ss (b : Int)).take i.1,t.k=5→mt i.2 t.st=true)∧(Shut ss k met→i.2=met)∧StX noX w r w' [.cell b5 (zZ i.2) 192])
  (fun i=>(ze ss (b : Int)).length - i.1) (0,m1) rfl ⟨Nat.zero_le _,hl1,hsnd1,hc1,hsh1,fun _ t ht=>by simp at ht,hfx1,S⟩ ?_
 clear S
 rintro ⟨i,m2⟩ d w4 ⟨hi,hl2,hsnd2,hc2,hsh2,hrow2,hfx2,S⟩ K10 hK10
 simp only at hi hl2 hsnd2 hc2 hsh2 hrow2 hfx2 S ⊢
 rw [List.getD_cons_zero]
 refine gg_ ?_
 refine zp (by rw [Int.toNat_natCast];exact S.at hcs) ?_
 refine gg_ ?_
 refine aih (g:=decide ((b : Int)=(k : Int))) (c:=mt m2 (b : Int)) (fun K hK=>by refine gg_ ?_;exact hK) (fun K hK=>?_) ?_
 ·refine gg_ ?_
  refine S.ld (b:=b5) (v:=.bool (mt m2 (b : Int))) ?_ (by rw [Nat.zero_add,Nat.mul_one];exact YU (by omega))
  exact hK
 refine c_b (fun hgo=>?_) (fun hno=>?_)
 rotate_left
 ·refine gg_ ?_
  rw [show ((b : Int)+1)=((b+1 : Nat) : Int) by omega]
  refine hK6 (b+1,m2) _ ⟨hlt2,hl2,hsnd2,hc2,fun hce b' hb' hor t ht h5=>?_,hfx2,S⟩ (by simp only;omega)
  have hb' : b'<b+1:=hb'
  by_cases hbb : b'=b
  ·subst hbb
   by_cases hie : i=(ze ss (b' : Int)).length
   ·refine hrow2 hce t ?_ h5
    rw [hie,List.take_length];exact ht
   ·exfalso
    have hor : b'=k∨mt m2 (b' : Int)=true:=hor
    rw [decide_eq_true (show (i : Int)<(ss[b'].fs.length : Int) by omega),Bool.true_and,Bool.or_eq_false_iff,decide_eq_false_iff_not] at hno
    rcases hor with rfl|hor
    ·exact hno.1 rfl
    ·rw [hno.2] at hor;cases hor
  ·exact hsh2 hce b' (by omega) hor t ht h5
 simp only [Bool.and_eq_true,Bool.or_eq_true,decide_eq_true_eq] at hgo
 obtain ⟨hil,hor⟩:=hgo
 have hlt3 : i<ss[b].fs.length:=by omega
 have hlt4 : i<(ze ss (b : Int)).length:=by omega
 have hel : (ze ss (b : Int))[i]=ss[b].fs[i].2:=by simp only [htl,List.getElem_map]
 obtain ⟨b2,off2,c,rfl,hcl2,hcc,hty⟩:=kP hf hlt3
 obtain ⟨pt,capt,rfl,_⟩:=YT hty
 have lk : Ob r fun w=>w.cell? ⟨b2,off2+i*6+1,none⟩=some (.int .u8 ss[b].fs[i].2.k):=hcc 1 _ rfl
 have ls : Ob r fun w=>w.cell? ⟨b2,off2+i*6+4,none⟩=some (.int .i64 ss[b].fs[i].2.st):=hcc 4 _ rfl
 have hst:=List.take_succ_eq_append_getElem hlt4
 have hmem : (ze ss (b : Int))[i] ∈ ze ss (b : Int):=List.getElem_mem hlt4
 rw [hel] at hst hmem
 generalize ss[b].fs[i].2=u at lk ls hst hmem
 have hgo2 : ∀ {m3 : List Bool} {w9 : World},m3.length=32→(∀ j : Nat,mt m3 j=true→Rch ss k j)→cf m3≤cf m2→(cf m3=cf m2→m3=m2)→(cf m3=cf met→u.k=5→mt m3 u.st=true)→(Shut ss k met→m3=met)→StX noX w r w9 [.cell b5 (zZ m3) 192]→K10 [.int .i64 ((i+1 : Nat) : Int)] w9:=fun h1 h2 h3 h4 h5 h6 S=>by
  refine hK10 (i+1,_) _ ⟨hlt4,h1,h2,by simp only;omega,fun hce=>?_,fun hce t ht htk=>?_,h6,S⟩ (by simp only;omega)
  ·rw [h4 (by simp only at hce;omega)];exact hsh2 (by simp only at hce;omega)
  ·simp only at hce ht ⊢
   rw [hst,List.mem_append,List.mem_singleton] at ht
   rcases ht with ht|rfl
   ·rw [h4 (by omega)];exact hrow2 (by omega) t ht htk
   ·exact h5 hce htk
 refine zu (fun _ w'=>∃ m3 : List Bool,m3.length=32∧(∀ j : Nat,mt m3 j=true→Rch ss k j)∧cf m3≤cf m2∧(cf m3=cf m2→m3=m2)∧(cf m3=cf met→u.k=5→mt m3 u.st=true)∧(Shut ss k met→m3=met)∧StX noX w r w' [.cell b5 (zZ m3) 192]) (fun K11 hK11=>?_) ?_
 rotate_left
 ·rintro _ w5 ⟨m3,h1,h2,h3,h4,h5,h6,S⟩ d5
  refine gg_ ?_
  rw [show ((i : Int)+1)=((i+1 : Nat) : Int) by omega]
  exact hgo2 h1 h2 h3 h4 h5 h6 S
 refine gg_ ?_
 refine zp (by rw [Int.toNat_natCast];exact S.at hcs) ?_
 refine gg_ ?_
 refine zp (by rw [Int.toNat_natCast];exact S.at lk) ?_
 refine gg_ ?_
 refine zh (fun h5=>?_) (fun h5=>?_)
 rotate_left
 ·exact hK11 _ _ ⟨m2,hl2,hsnd2,Nat.le_refl _,fun _=>rfl,fun _ hh=>absurd (by omega) h5,hfx2,S⟩
 have h5 : u.k=5:=by omega
 have hkid : Kid ss (b : Int) u.st:=⟨u,hmem,h5,rfl⟩
 have hin:=vA hg hkid
 have hrk : Rch ss k u.st:=by
  rcases hor with hor|hor
  ·have : b=k:=by omega
   subst this;exact .one hkid
  ·exact .more (hsnd2 b hor) hkid
 refine gg_ ?_
 refine zp (by rw [Int.toNat_natCast];exact S.at hcs) ?_
 refine gg_ ?_
 refine zp (by rw [Int.toNat_natCast];exact S.at ls) ?_
 refine gg_ ?_
 refine S.st (b:=b5) (fun w7 S=>?_) (by rw [Jz];omega)
 have e1 : (zZ m2).set (0+u.st.toNat*1) (.bool true)=zZ (m2.set u.st.toNat true):=by
  rw [Nat.zero_add,Nat.mul_one,zZ,zZ,List.map_set]
 rw [e1] at S
 have hms : ∀ j : Int,0≤j→mt (m2.set u.st.toNat true) j=(decide (j=u.st)||mt m2 j):=fun j hj=>aea hin.1 hj (by omega)
 refine hK11 _ _ ⟨m2.set u.st.toNat true,by rw [List.length_set];exact hl2,fun j hj=>?_,?_,fun hce=>?_,fun _ _=>?_,fun hsh=>?_,S⟩
 ·rw [hms j (by omega),Bool.or_eq_true,decide_eq_true_eq] at hj
  rcases hj with hj|hj
  ·rw [hj];exact hrk
  ·exact hsnd2 j hj
 ·cases hm : mt m2 u.st with
  |true=>rw [acb hm];exact Nat.le_refl _
  |false=>
   have:=Jy (l:=m2) (i:=u.st.toNat) (by
    unfold mt at hm
    rw [List.getD_eq_getElem?_getD,List.getElem?_eq_getElem (by omega)] at hm
    rw [List.getElem?_eq_getElem (by omega)]
    simpa using hm)
   omega
 ·cases hm : mt m2 u.st with
  |true=>exact acb hm
  |false=>
   have:=Jy (l:=m2) (i:=u.st.toNat) (by
    unfold mt at hm
    rw [List.getD_eq_getElem?_getD,List.getElem?_eq_getElem (by omega)] at hm
    rw [List.getElem?_eq_getElem (by omega)]
    simpa using hm)
   omega
 ·rw [hms _ hin.1];simp
 ·have hm2:=hfx2 hsh
  have hmt : mt met u.st=true:=hsh b hlt2 (by
   rcases hor with hor|hor
   ·exact .inl (by omega)
   ·rw [← hm2];exact .inr hor) u hmem h5
  rw [hm2,acb hmt]
end Go.Proofs
end
section
namespace Go.Proofs
open Go.Sh
set_option maxRecDepth 100000
set_option linter.unusedSimpArgs false
set_option linter.unusedVariables false
set_option maxHeartbeats 1000000 in
theorem Xz {ss : List StD} {p : Option Addr} {cap : Nat} {w : World} {r : Gh} {K : Value→World→Prop} (hr : Holds r w) (hs : StG r p ss)
  (h : ∀ w',Ext w w'→K (.bool (decide ((zw ss).2=0))) w') : zd Tryz.prog Tryz.qC #[.slice p ss.length cap] w K:=by
 refine Tryz.aas ?_
 unfold Tryz.Xx
 have S:=St.start hr
 refine gg_ ?_
 refine c_b (fun hbig=>?_) (fun hsm=>?_)
 ·have hbig : 32<ss.length:=by have:=of_decide_eq_true hbig;omega
  rw [zw,if_pos hbig] at h
  exact h _ S.ext
 have hsm : ¬ 32<ss.length:=by have:=of_decide_eq_false hsm;omega
 rw [zw,if_neg hsm] at h
 refine zi (ι:=Nat) (fun i=>[.int .i64 (i : Nat)]) (fun i w'=>i≤ss.length∧(∀ j,j<i→xb ss j=false)∧StX noX w r w' []) (fun i=>ss.length - i) 0 rfl ⟨Nat.zero_le _,fun j hj=>by omega,S⟩ ?_
 clear S
 rintro i d w1 ⟨hi,hb,S⟩ K1 hK1
 rw [List.getD_cons_zero]
 refine gg_ ?_
 refine c_b (fun hlt=>?_) (fun hge=>?_)
 ·have hlt : i<ss.length:=by simpa using hlt
  have hbadd : xb ss i=true→∀ w',Ext w w'→K (.bool false) w':=fun hbd w' e=>by
   have hf:=qS hlt hbd hb
   have:=h w' e
   rw [hf,if_pos hlt] at this
   exact this
  obtain ⟨b,off,q,capq,rfl,hcell,hq0,hqc,hf⟩:=xP hs hlt
  have hlen:=ZD hlt
  have htl:=yA hlt
  refine gg_ ?_
  refine zp (by rw [Int.toNat_natCast];exact S.at hcell) ?_
  refine gg_ ?_
  refine zf (c:=decide (8<(ze ss i).length)) (fun _ K2 hK2=>?_) ?_
  ·refine gg_ ?_
   refine zp (by rw [Int.toNat_natCast];exact S.at hcell) ?_
   refine gg_ ?_
   rw [show decide ((8 : Int)<(ss[i].fs.length : Int))=decide (8<(ze ss i).length) from decide_eq_decide.2 (by omega)]
   exact hK2
  rw [show decide ((ss[i].fs.length : Int)<1)=decide ((ze ss i).length<1) from decide_eq_decide.2 (by omega)]
  refine c_b (fun hl=>?_) (fun hl=>?_)
  ·refine hbadd ?_ _ S.ext
   rw [xb,hl];rfl
  have hl8 : (ze ss (i : Int)).length≤8:=by
   simp only [Bool.or_eq_false_iff,decide_eq_false_iff_not] at hl;omega
  refine zi (ι:=Nat) (fun k=>[.int .i64 (k : Nat)]) (fun k w'=>k≤(ze ss i).length∧(((ze ss i).take k).any fun t=>!zz ss.length 48 t||decide (0<t.regs.length))=false∧StX noX w r w' []) (fun k=>(ze ss i).length - k) 0 rfl ⟨Nat.zero_le _,by simp,S⟩ ?_
  clear S
  rintro k d w2 ⟨hk,hno,S⟩ K9 hK9
  rw [List.getD_cons_zero]
  refine gg_ ?_
  refine zp (by rw [Int.toNat_natCast];exact S.at hcell) ?_
  refine gg_ ?_
  refine c_b (fun hlt2=>?_) (fun hge2=>?_)
  ·have hlt2 : k<ss[i].fs.length:=by simpa using hlt2
   have hlt3 : k<(ze ss i).length:=by omega
   have hel : (ze ss i)[k]=ss[i].fs[k].2:=by simp only [htl,List.getElem_map]
   obtain ⟨b2,off2,c,rfl,hcl,hcc,hty⟩:=kP hf hlt2
   refine gg_ ?_
   refine zp (by rw [Int.toNat_natCast];exact S.at hcell) ?_
   refine gg_ ?_
   refine zq (n:=5) (c:=c) hcl (fun j v hj=>by
    have:=S.at (hcc (j+1) v (by simpa using hj))
    rw [Int.toNat_natCast,Nat.add_assoc _ 1 j,Nat.add_comm 1 j];exact this) ?_
   refine gg_ ?_
   refine vL 48 (by decide) S.holds hty fun w3 e3=>?_
   have S:=S.go e3
   refine gg_ ?_
   have hmt : mtB ss.length 48 false ss[i].fs[k].2 = !(!zz ss.length 48 ss[i].fs[k].2||decide (0<ss[i].fs[k].2.regs.length)):=by
    rw [mtB,Bool.false_or,Bool.not_or,Bool.not_not,← decide_not]
    congr 1
    exact decide_eq_decide.2 (by omega)
   rw [hmt,Bool.not_not]
   refine c_b (fun hy=>?_) (fun hn=>?_)
   ·refine hbadd ?_ _ S.ext
    have : ((ze ss i).any fun t=>!zz ss.length 48 t||decide (0<t.regs.length))=true:=List.any_eq_true.2 ⟨_,List.getElem_mem hlt3,by rw [hel];exact hy⟩
    rw [xb,this,Bool.or_true]
   ·refine gg_ ?_
    rw [show ((k : Int)+1)=((k+1 : Nat) : Int) by omega]
    refine hK9 (k+1) _ ⟨hlt3,?_,S⟩ (by omega)
    rw [List.take_succ_eq_append_getElem hlt3,List.any_append,hno,hel]
    simp only [List.any_cons,List.any_nil,Bool.false_or,Bool.or_false]
    exact hn
  ·have hie : k=(ze ss i).length:=by
    have : ¬ k<ss[i].fs.length:=by simpa using hge2
    omega
   rw [hie,List.take_length] at hno
   refine gg_ ?_
   rw [show ((i : Int)+1)=((i+1 : Nat) : Int) by omega]
   refine hK1 (i+1) _ ⟨hlt,fun j hj=>?_,S⟩ (by omega)
   by_cases hji : j=i
   ·rw [hji,xb,hl,hno];rfl
   ·exact hb j (by omega)
 have hie : i=ss.length:=by
  have : ¬ i<ss.length:=by simpa using hge
  omega
 rw [hie] at hb
 have h1 : ¬ xu ss.length (xb ss)<ss.length:=by rw [qR hb];omega
 rw [if_neg h1] at h
 have hgd:=X6 hb
 refine zi (ι:=Nat) (fun i=>[.int .i64 (i : Nat)]) (fun i w'=>i≤ss.length∧(∀ j,j<i→qj ss j=false)∧StX noX w r w' []) (fun i=>ss.length - i) 0 rfl ⟨Nat.zero_le _,fun j hj=>by omega,S⟩ ?_
 clear S hie hge hi
 rintro i d w5 ⟨hi,hb2,S⟩ K1 hK1
 rw [List.getD_cons_zero]
 refine gg_ ?_
 refine c_b (fun hlt=>?_) (fun hge=>?_)
 ·have hlt : i<ss.length:=by simpa using hlt
  refine abp hgd (by omega) hlt (xT hb) S.holds hs fun w6 e6=>?_
  have S:=S.go e6
  refine c_b (fun hy=>?_) (fun hn=>?_)
  ·have hf:=qS hlt hy hb2
   rw [hf,if_pos hlt] at h
   exact h _ S.ext
  ·refine gg_ ?_
   rw [show ((i : Int)+1)=((i+1 : Nat) : Int) by omega]
   refine hK1 (i+1) _ ⟨hlt,fun j hj=>?_,S⟩ (by omega)
   by_cases hji : j=i
   ·rw [hji];exact hn
   ·exact hb2 j (by omega)
 have hie : i=ss.length:=by
  have : ¬ i<ss.length:=by simpa using hge
  omega
 rw [hie] at hb2
 have h2 : ¬ xu ss.length (qj ss)<ss.length:=by rw [qR hb2];omega
 rw [if_neg h2] at h
 have hac:=Vj hgd hb2
 refine zi (ι:=Nat) (fun i=>[.int .i64 (i : Nat)]) (fun i w'=>i≤ss.length∧(∀ j,j<i→Zf ss j=false)∧StX noX w r w' []) (fun i=>ss.length - i) 0 rfl ⟨Nat.zero_le _,fun j hj=>by omega,S⟩ ?_
 clear S hie hge hi
 rintro i d w5 ⟨hi,hb3,S⟩ K1 hK1
 rw [List.getD_cons_zero]
 refine gg_ ?_
 refine c_b (fun hlt=>?_) (fun hge=>?_)
 ·have hlt : i<ss.length:=by simpa using hlt
  refine zx (cs:=#[.int .u8 5,.bool false,.int .i64 0,.int .i64 i,.slice none 0 0]) (by kernel_rfl) ?_
  refine adj hgd hac 40 (t:=.mk 5 false 0 i []) (by decide) (by have:=aaV ss (.mk 5 false 0 i []);omega) ?_ (by omega) (xT hb) S.holds hs (yh (r:=r)) fun x w9 e9 _ hx=>?_
  ·rw [xE]
   simp [TyD.k,TyD.m,TyD.re,TyD.of,TyD.st]
   omega
  have S:=S.go e9
  refine gg_ ?_
  rw [show decide ((x : Int) > 16)=decide (16<wF ss 40 (.mk 5 false 0 i [])) from decide_eq_decide.2 (by omega)]
  refine c_b (fun hy=>?_) (fun hn=>?_)
  ·have hf:=qS (p:=Zf ss) hlt hy hb3
   rw [hf,if_pos hlt] at h
   exact h _ S.ext
  ·refine gg_ ?_
   rw [show ((i : Int)+1)=((i+1 : Nat) : Int) by omega]
   refine hK1 (i+1) _ ⟨hlt,fun j hj=>?_,S⟩ (by omega)
   by_cases hji : j=i
   ·rw [hji];exact hn
   ·exact hb3 j (by omega)
 have hie : i=ss.length:=by
  have : ¬ i<ss.length:=by simpa using hge
  omega
 rw [hie] at hb3
 have h3 : ¬ xu ss.length (Zf ss)<ss.length:=by rw [qR hb3];omega
 rw [if_neg h3] at h
 exact h _ S.ext
theorem adk {ss : List StD} {tys : List TyD} {p q : Option Addr} {cap capt : Nat} {w : World} {r : Gh} {K : Value→World→Prop} (hr : Holds r w) (hs : StG r p ss) (ht : TysG r q tys) (htl : tys.length≤maxLen)
  (h : ∀ w',Ext w w'→K (.bool (decide ((zw ss).2=0)&&tys.all fun t=>zY ss t)) w') : zd Tryz.prog Tryz.ZO #[.slice p ss.length cap,.slice q tys.length capt] w K:=by
 refine Tryz.ab7 ?_
 unfold Tryz.Q2
 have S:=St.start hr
 have htl' : tys.length≤9223372036854775807:=htl
 refine Xz S.holds hs fun w1 e1=>?_
 have S:=S.go e1
 refine gp_ ?_
 by_cases hst : (zw ss).2=0
 ·rw [decide_eq_true hst] at h ⊢
  refine c_f rfl ?_
  refine zi (ι:=Nat) (fun i=>[.int .i64 (i : Nat)]) (fun i w'=>i≤tys.length∧((tys.take i).all fun t=>zY ss t)=true∧StX noX w r w' []) (fun i=>tys.length - i) 0 rfl ⟨Nat.zero_le _,by simp,S⟩ ?_
  clear S
  rintro i d w2 ⟨hi,hall,S⟩ K2 hK2
  rw [List.getD_cons_zero]
  refine gg_ ?_
  refine zh (fun hlt=>?_) (fun hge=>?_)
  ·have hlt : i<tys.length:=by omega
   obtain ⟨b,off,c,rfl,hc,hcell,hto⟩:=ht i hlt
   obtain ⟨q2,cap2,rfl,ht2⟩:=y6 hto
   refine gg_ ?_
   refine zq (n:=5) hc (fun j v hj=>by rw [Int.toNat_natCast];exact S.at (hcell j v hj)) ?_
   refine gg_ ?_
   refine vL 48 (by decide) S.holds ht2 fun w3 e3=>?_
   have S:=S.go e3
   rw [aeC]
   refine gg_ ?_
   have hm : zY ss tys[i]=zz ss.length 48 tys[i]:=by rw [zY,decide_eq_true hst,Bool.true_and]
   refine c_b (fun hb=>?_) (fun hb=>?_)
   ·have hf : (tys.all fun t=>zY ss t)=false:=by
     rw [List.all_eq_false]
     exact ⟨tys[i],List.getElem_mem hlt,by rw [hm];simpa using hb⟩
    have:=h _ S.ext
    rw [hf,Bool.and_false] at this
    exact this
   ·refine gg_ ?_
    rw [show ((i : Int)+1)=((i+1 : Nat) : Int) by omega]
    refine hK2 (i+1) _ ⟨hlt,?_,S⟩ (by omega)
    rw [List.take_succ_eq_append_getElem hlt,List.all_append,hall]
    simp only [List.all_cons,List.all_nil,Bool.true_and,Bool.and_true]
    rw [hm];simpa using hb
  ·have hie : i=tys.length:=by omega
   rw [hie,List.take_length] at hall
   have:=h _ S.ext
   rw [hall,Bool.and_true] at this
   exact this
 ·rw [decide_eq_false hst] at h ⊢
  refine c_t rfl ?_
  exact h _ S.ext
end Go.Proofs
end
section
namespace Go.Proofs
open Go.Sh
set_option maxRecDepth 100000
set_option linter.unusedSimpArgs false
set_option linter.unusedVariables false
theorem J6 {ss : List StD} {t : TyD} {k : Int} {p q : Option Addr} {cap ct : Nat} {w : World} {r : Gh} {K : Value→World→Prop} (hft : Fine ss t) (hr : Holds r w) (hs : StG r p ss) (htt : TyG r (tyV t q ct) t)
  (h : ∀ t' q' c' (n : Int) (ok : Bool) w',Ext w w'→TyG r (tyV t' q' c') t'→(ok=true→yd ss t k=some (t',n))→(ok=false→yd ss t k=none)→K (.tuple #[tyV t' q' c',.int .i64 n,.bool ok]) w') :
  zd Tryz.prog Tryz.vm #[.slice p ss.length cap,tyV t q ct,.int .i64 k] w K:=by
 refine Tryz.adc ?_
 unfold Tryz.JZ
 have S:=St.start hr
 refine S.box fun b4 w1 S=>?_
 have S : StX noX w r w1 [.cell b4 (tyL t q ct) 57]:=S
 refine S.al fun b6 w2 S=>?_
 have down : (t.k=3∨t.k=4)→∃ uu,t.of = [uu]:=by
  intro hk
  rcases hft.cases with ⟨_,h1⟩|⟨uu,h1,_⟩
  ·omega
  ·exact ⟨uu,h1⟩
 have hinn : ∀ {hw : Int},k = -1→((t.k=3∧hw=1)∨(t.k=4∧hw=if t.m then 2 else 3))→∀ {uu : TyD},t.of = [uu]→yd ss t k=some (uu,hw):=fun hk1 h34 uu hof=>by
  rcases h34 with ⟨h1,h2⟩|⟨h1,h2⟩
  ·rw [yd,if_pos ⟨hk1,h1⟩,hof,h2];rfl
  ·rw [yd,if_neg (by omega),if_pos ⟨hk1,h1⟩,hof,h2];rfl
 have stay : ∀ {w3 : World} {L : List Asr},yd ss t k=none→StX noX w r w3 (.cell b6 aa7 57 :: .cell b4 (tyL t q ct) 57::L)→
   opQ Tryz.prog w3 (Instr.loadAt 57 (.pointer (some ⟨b4,0,none⟩))) fun v=>opU Tryz.prog w3 (Instr.storeAt 57 (.pointer (some ⟨b6,0,none⟩)) v) fun w4=>opQ Tryz.prog w4 (zt 57 (.pointer (some ⟨b6,0,none⟩))) fun v'=>K (.tuple #[v',.int .i64 0,.bool false]) w4:=by
  intro w3 L hn S
  refine S.ldB (b:=b4) ?_ rfl
  refine S.stB (b:=b6) fun w4 S=>?_
  refine S.ceB (b:=b6) ?_ rfl
  exact h _ _ _ 0 false _ S.ext htt (fun hh=>by cases hh) fun _=>hn
 refine gg_ ?_
 refine zh (fun hk1=>?_) (fun hk1=>?_)
 ·refine gg_ ?_
  refine zh (fun h3=>?_) (fun h3=>?_)
  ·obtain ⟨uu,hof⟩:=down (.inl h3)
   obtain ⟨bo,oo,q2,cap2,rfl,ht2,hcc⟩:=Zr htt hof
   have hl1 : t.of.length=1:=by rw [hof];rfl
   refine gg_ ?_
   refine zq (n:=5) (c:=tyL uu q2 cap2) rfl (fun j v hj=>by simpa using S.at (hcc j v hj)) ?_
   refine S.stB (b:=b6) fun w3 S=>?_
   refine S.ceB (b:=b6) ?_ rfl
   exact h _ _ _ 1 true _ S.ext ht2 (fun _=>hinn hk1 (.inl ⟨h3,rfl⟩) hof) fun hh=>by cases hh
  refine gg_ ?_
  refine zg (c:=t.m) (fun _ K2 hK2=>by refine gg_ ?_;exact hK2) ?_
  refine c_b (fun hM=>?_) (fun hM=>?_)
  ·have hM : t.k=4∧t.m=true:=by simpa using hM
   obtain ⟨uu,hof⟩:=down (.inr hM.1)
   obtain ⟨bo,oo,q2,cap2,rfl,ht2,hcc⟩:=Zr htt hof
   have hl1 : t.of.length=1:=by rw [hof];rfl
   refine gg_ ?_
   refine zq (n:=5) (c:=tyL uu q2 cap2) rfl (fun j v hj=>by simpa using S.at (hcc j v hj)) ?_
   refine S.stB (b:=b6) fun w3 S=>?_
   refine S.ceB (b:=b6) ?_ rfl
   exact h _ _ _ 2 true _ S.ext ht2 (fun _=>hinn hk1 (.inr ⟨hM.1,by rw [hM.2];rfl⟩) hof) fun hh=>by cases hh
  refine gg_ ?_
  refine zh (fun h4=>?_) (fun h4=>?_)
  ·have hm : t.m=false:=by
    cases e : t.m
    ·rfl
    ·rw [e,decide_eq_true h4] at hM;cases hM
   obtain ⟨uu,hof⟩:=down (.inr h4)
   obtain ⟨bo,oo,q2,cap2,rfl,ht2,hcc⟩:=Zr htt hof
   have hl1 : t.of.length=1:=by rw [hof];rfl
   refine gg_ ?_
   refine zq (n:=5) (c:=tyL uu q2 cap2) rfl (fun j v hj=>by simpa using S.at (hcc j v hj)) ?_
   refine S.stB (b:=b6) fun w3 S=>?_
   refine S.ceB (b:=b6) ?_ rfl
   exact h _ _ _ 3 true _ S.ext ht2 (fun _=>hinn hk1 (.inr ⟨h4,by rw [hm];rfl⟩) hof) fun hh=>by cases hh
  ·exact stay (by rw [yd,if_neg (by omega),if_neg (by omega),if_neg (by omega)]) S
 ·refine gg_ ?_
  refine zf (c:=decide (k<0)) (fun _ K2 hK2=>by refine gg_ ?_;exact hK2) ?_
  refine zf (c:=decide (((ze ss t.st).length : Int)≤k)) (fun h5 K2 hK2=>?_) ?_
  ·have h5 : t.k=5∧0≤k:=by simpa using h5
   obtain ⟨hst0,hst1⟩:=hft.st h5.1
   have hslt : t.st.toNat<ss.length:=by omega
   obtain ⟨b,off,q9,capq,rfl,hcell9,_,_,hfl⟩:=xP hs hslt
   have hlen : (ze ss t.st).length=ss[t.st.toNat].fs.length:=by
    rw [← ZD hslt];simp only [ze,Int.toNat_natCast]
   refine gg_ ?_
   refine zp (S.at hcell9) ?_
   refine gg_ ?_
   rw [← hlen]
   exact hK2
  refine c_b (fun hX=>?_) (fun hX=>?_)
  ·refine stay ?_ S
   rw [yd,if_neg (by omega),if_neg (by omega)]
   split
   ·rename_i h5
    have h50:=h5.1
    rw [List.getElem?_eq_none]
    ·rfl
    ·have : ((ze ss t.st).length : Int)≤k:=by
      simp only [Bool.or_eq_true,decide_eq_true_eq] at hX;omega
     omega
   ·rfl
  ·have hX : (t.k=5∧0≤k)∧k<(ze ss t.st).length:=by
    simp only [Bool.or_eq_false_iff,decide_eq_false_iff_not] at hX;omega
   obtain ⟨⟨hk5,hk0⟩,hkl⟩:=hX
   obtain ⟨hst0,hst1⟩:=hft.st hk5
   have hslt : t.st.toNat<ss.length:=by omega
   obtain ⟨b,off,q9,capq,rfl,hcell9,_,_,hfl⟩:=xP hs hslt
   have htl2 : ze ss t.st=ss[t.st.toNat].fs.map (·.2):=by
    rw [← yA hslt];simp only [ze,Int.toNat_natCast]
   have hkf : k.toNat<ss[t.st.toNat].fs.length:=by
    rw [htl2,List.length_map] at hkl;omega
   obtain ⟨b10,off9,c9,rfl,hc9,hcell8,ht9⟩:=kP hfl hkf
   obtain ⟨q2,cap2,rfl,ht2⟩:=y6 ht9
   refine gg_ ?_
   refine zp (S.at hcell9) ?_
   refine gg_ ?_
   refine zq (n:=5) (c:=tyL _ q2 cap2) rfl (fun j v hj=>by have:=S.at (hcell8 (j+1) v hj);rwa [show off9+k.toNat*6+(j+1)=off9+k.toNat*6+1+j by omega] at this) ?_
   refine S.stB (b:=b6) fun w3 S=>?_
   refine S.ceB (b:=b6) ?_ rfl
   refine h _ _ _ 0 true _ S.ext ht2 (fun _=>?_) fun hh=>by cases hh
   rw [yd,if_neg (by omega),if_neg (by omega),if_pos ⟨hk0,hk5⟩,htl2,List.getElem?_map,List.getElem?_eq_getElem hkf];rfl
set_option maxHeartbeats 2000000 in
theorem aeD {ss : List StD} {tys : List TyD} {p : PlD} {c : List Value} {p0 q : Option Addr} {cap0 capt : Nat} {w : World} {r : Gh} {K : Value→World→Prop} (hr : Holds r w) (hs : StG r p0 ss) (ht : TysG r q tys) (htl : tys.length≤maxLen) (hp : PlG r c p)
  (hN : ∀ w',vG ss tys p=none→Ext w w'→K (.tuple #[afM,.slice none 0 0,.bool false]) w')
  (hS : ∀ t g q cap vg s w',vG ss tys p=some (t,g)→Ext w w'→New w s w'→TyG r (tyV t q cap) t→SlG 1 s xM vg g→K (.tuple #[tyV t q cap,vg,.bool true]) w') :
  zd Tryz.prog Tryz.Yy #[.slice p0 ss.length cap0,.slice q tys.length capt,.agg c.toArray] w K:=by
 obtain ⟨v,rfl,hl⟩:=hp
 obtain ⟨qs,caps,rfl,_,_⟩:=hl.sl.shape
 have hbl:=hl.lt
 have htl' : tys.length≤9223372036854775807:=htl
 refine Tryz.adb ?_
 unfold Tryz.JY
 have S:=St.start hr
 refine S.box fun b5 w1 S=>?_
 refine S.al fun b6 w3 S=>?_
 have S : StX noX w r w3 [.cell b6 aa7 57,.cell b5 [.int .i64 p.l,.slice qs p.ps.length caps] 38]:=S
 refine gg_ ?_
 refine zf (c:=decide ((tys.length : Int)≤p.l)) (fun _ K2 hK2=>by refine gg_ ?_;exact hK2) ?_
 refine zf (c:=decide (8<p.ps.length)) (fun _ K2 hK2=>?_) ?_
 ·refine gg_ ?_
  rw [show decide ((8 : Int)<(p.ps.length : Int))=decide (8<p.ps.length) from decide_eq_decide.2 (by omega)]
  exact hK2
 refine ym (c:=!(decide ((zw ss).2=0)&&tys.all fun t=>zY ss t)) (fun _ K2 hK2=>?_) fun w4 e4=>?_
 ·refine adk S.holds hs ht htl fun w6 e6=>?_
  refine gp_ ?_
  exact hK2 _ e6
 have S:=S.go e4
 have hO : ZF ss tys p = !(((decide (p.l<0)||decide ((tys.length : Int)≤p.l))||decide (8<p.ps.length)) || !(decide ((zw ss).2=0)&&tys.all fun t=>zY ss t)):=by
  rw [ZF]
  simp only [Bool.not_or,Bool.not_not]
  congr 1
  rw [← decide_not,← decide_not,← decide_not]
  congr 1
  ·congr 1<;>exact decide_eq_decide.2 (by omega)
  ·exact decide_eq_decide.2 (by omega)
 refine c_b (fun hbad=>?_) (fun hgood=>?_)
 ·rw [hbad] at hO
  refine zx (cs:=#[.int .u8 0,.bool false,.int .i64 0,.int .i64 0,.slice none 0 0]) (by kernel_rfl) ?_
  refine S.stB (b:=b6) fun w4 S=>?_
  refine S.ceB (b:=b6) ?_ rfl
  exact hN _ (agA hO) S.ext
 rw [hgood] at hO
 have hO : ZF ss tys p=true:=hO
 have hO2:=hO
 simp only [ZF,Bool.and_eq_true,decide_eq_true_eq,List.all_eq_true] at hO2
 obtain ⟨⟨⟨hl0,hl1⟩,hl8⟩,hst,hmay⟩:=hO2
 obtain ⟨h32,_,hg,_⟩:=xF hst
 have hlt0 : p.l.toNat<tys.length:=by omega
 have hW : vG ss tys p=zQ ss p.ps tys[p.l.toNat]:=by
  rw [vG,if_pos hO,List.getD_eq_getElem?_getD,List.getElem?_eq_getElem hlt0];rfl
 rw [hW] at hN hS
 obtain ⟨bt,ot,ct,rfl,hct,hcell,htc⟩:=ht p.l.toNat hlt0
 have hfi : Fine ss tys[p.l.toNat]:=(YV (hmay _ (List.getElem_mem hlt0))).2
 generalize tys[p.l.toNat]=t0 at hN hS htc hfi
 obtain ⟨q0,cap1,rfl,ht0⟩:=y6 htc
 clear hgood hbl
 refine gg_ ?_
 refine zq (n:=5) hct (fun j v hj=>S.at (hcell j v hj)) ?_
 refine S.al fun b9 w7 S=>?_
 refine S.stB (b:=b9) fun w7 S=>?_
 have S:=S.ownNil 3 1
 refine zi (ι:=Nat × Value × TyD × Option Addr × Nat × List Int) (fun i=>[i.2.1,.int .i64 (i.1 : Nat)]) (fun i w'=>i.1≤p.ps.length∧zQ ss (p.ps.take i.1) t0=some (i.2.2.1,i.2.2.2.2.2)∧TyG r (tyV i.2.2.1 i.2.2.2.1 i.2.2.2.2.1) i.2.2.1∧
  StX noX w r w' [.row i.2.1 3 1 i.1 (ints i.2.2.2.2.2),.cell b9 (tyL i.2.2.1 i.2.2.2.1 i.2.2.2.2.1) 57,.cell b6 aa7 57,.cell b5 [.int .i64 p.l,.slice qs p.ps.length caps] 38]) (fun i=>p.ps.length - i.1) (0,.slice none 0 0,t0,q0,cap1,[]) rfl ⟨Nat.zero_le _,rfl,ht0,S⟩ ?_
 clear S
 rintro ⟨i,vg,t,q,cap,g⟩ d w8 ⟨hi,hw,htt,S⟩ K6 hK6
 simp only at hi hw htt S ⊢
 simp only [List.getD_cons_zero,List.getD_cons_succ]
 have hft : Fine ss t:=abb hg hfi hw
 have hgl : g.length=(p.ps.take i).length:=JP hw
 rw [List.length_take] at hgl
 refine gg_ ?_
 refine zh (fun hlt=>?_) (fun hge=>?_)
 rotate_left
 ·have hie : i=p.ps.length:=by omega
  rw [hie,List.take_length] at hw
  refine S.ldB (b:=b9) ?_ rfl
  refine S.stB (b:=b6) fun w9 S=>?_
  refine S.ceB (b:=b6) ?_ rfl
  obtain ⟨s,S,hsl,_,hab⟩:=S.doneRow (l:=g) (R:=xM) (sz:=1) ⟨by rw [qQ,Nat.mul_one],fun j hj=>by
   show _=_
   rw [Nat.mul_one,ints,← List.map_drop,← List.map_take,List.drop_eq_getElem_cons hj];rfl⟩ (by decide) (by omega)
  exact hS _ _ _ _ _ s _ hw S.ext (S.newOf fun b o ho=>(hab b o ho).resolve_right id) htt hsl
 have hlt : i<p.ps.length:=by omega
 obtain ⟨k,hke⟩ : ∃ k,p.ps[i]=k:=⟨_,rfl⟩
 obtain ⟨bs,os,cs,rfl,hcs,hck,hcl⟩:=hl.sl.get (by decide) hlt
 rw [hke] at hck
 obtain ⟨rfl,hin⟩:=hck
 have hstep : zQ ss (p.ps.take (i+1)) t0=(yd ss t k).map fun s=>(s.1,g ++ [s.2]):=by
  rw [List.take_succ_eq_append_getElem hlt,aa9,hw,hke];rfl
 have hbadk : yd ss t k=none→zQ ss p.ps t0=none:=fun e=>by
  have:=aba (m:=p.ps.drop (i+1)) (hstep.trans (by rw [e];rfl))
  rwa [List.take_append_drop] at this
 refine zu (fun s w'=>∃ b12 t' q' c' n ok,s = [.pointer (some ⟨b12,0,none⟩),.int .i64 n,.bool ok]∧TyG r (tyV t' q' c') t'∧(ok=true→yd ss t k=some (t',n))∧(ok=false→yd ss t k=none)∧
  StX noX w r w' [.cell b12 (tyL t' q' c') 57,.row vg 3 1 i (ints g),.cell b9 (tyL t q cap) 57,.cell b6 aa7 57,.cell b5 [.int .i64 p.l,.slice (some ⟨bs,os,none⟩) p.ps.length caps] 38]) (fun K24 hK24=>?_) ?_
 ·have S:=S.go (Ext.drew _)
  refine S.ldB (b:=b9) ?_ rfl
  refine gg_ ?_
  refine zp (v:=.int .i64 k) (by simpa using S.at (hcl 0 _ rfl)) ?_
  refine And.intro ?_ ?_
  ·refine J6 hft S.holds hs htt fun t' q' c' n ok w9 e9 ht' h1 h2=>?_
   have S:=S.go e9
   refine gS_ ?_
   refine S.alU fun b12 w10 S=>?_
   refine S.stB (b:=b12) fun w11 S=>?_
   exact hK24 _ _ ⟨b12,t',q',c',n,ok,rfl,ht',h1,h2,S⟩
  ·refine S.alU fun b12 w10 S=>?_
   refine J6 hft S.holds hs htt fun t' q' c' n ok w9 e9 ht' h1 h2=>?_
   have S:=S.go e9
   refine gS_ ?_
   refine S.stB (b:=b12) fun w11 S=>?_
   exact hK24 _ _ ⟨b12,t',q',c',n,ok,rfl,ht',h1,h2,S⟩
 clear S
 rintro _ w12 ⟨b12,t',q',c',n,ok,rfl,ht',h1,h2,S⟩ d12
 simp only [List.getD_cons_zero,List.getD_cons_succ]
 refine gp_ ?_
 cases ok with
 |false=>
  refine c_t rfl ?_
  refine zx (cs:=#[.int .u8 0,.bool false,.int .i64 0,.int .i64 0,.slice none 0 0]) (by kernel_rfl) ?_
  refine S.stB (b:=b6) fun w13 S=>?_
  refine S.ceB (b:=b6) ?_ rfl
  exact hN _ (hbadk (h2 rfl)) S.ext
 |true=>
  refine c_f rfl ?_
  refine S.ldB (b:=b12) ?_ rfl
  refine S.stB (b:=b9) fun w13 S=>?_
  refine S.lit (e:=3) (cs:=[.int .i64 n]) (by kernel_rfl) fun b14 w14 S=>?_
  refine S.ap (m':=1) (Sl.blk (S.blk b14)) (fun v15 w15 S=>?_) (by omega)
  have S:=(S.drop b14).drop b12
  have hins : ints g ++ [.int .i64 n]=ints (g ++ [n]):=by rw [ints,ints,List.map_append];rfl
  rw [hins] at S
  refine gg_ ?_
  rw [show ((i : Int)+1)=((i+1 : Nat) : Int) by omega]
  exact hK6 (i+1,v15,t',q',c',g ++ [n]) _ ⟨hlt,hstep.trans (by rw [h1 rfl];rfl),ht',S⟩ (by show p.ps.length - (i+1)<p.ps.length - i;omega)
end Go.Proofs
end
section
namespace Go.Proofs
open Go.Sh
set_option maxRecDepth 100000
set_option linter.unusedSimpArgs false
set_option linter.unusedVariables false
theorem xC {p : PlD} {c : List Value} {w : World} {r : Gh} {K : Value→World→Prop} (hr : Holds r w) (hp : PlG r c p)
  (h : ∀ w',Ext w w'→K (.bool (yS p)) w') : zd Tryz.prog Tryz.yy #[.agg c.toArray] w K:=by
 refine Tryz.J5 ?_
 unfold Tryz.Yg
 obtain ⟨v,rfl,hl⟩:=hp
 obtain ⟨qs,caps,rfl,_,_⟩:=hl.sl.shape
 have S:=St.start hr
 refine S.box fun b1 w1 S=>?_
 have S : StX noX w r w1 [.cell b1 [.int .i64 p.l,.slice qs p.ps.length caps] 38]:=S
 refine gg_ ?_
 refine zg (c:=decide (p.ps.length=0)) (fun _ K2 hK2=>?_) ?_
 ·refine gg_ ?_
  rw [decide_eq_decide.2 (kO p.ps.length)]
  exact hK2
 exact h _ S.ext
theorem vX {o : OpD} {c : List Value} {w : World} {r : Gh} {K : Value→World→Prop} (hr : Holds r w) (ho : OpG r c o)
  (h : ∀ w',Ext w w'→K (.bool (jE o)) w') : zd Tryz.prog Tryz.xO #[.agg c.toArray] w K:=by
 refine Tryz.QE ?_
 unfold Tryz.vW
 obtain ⟨v,rfl,hl⟩:=ho
 obtain ⟨qs,caps,rfl,_,_⟩:=hl.sl.shape
 have S:=St.start hr
 refine S.box fun b1 w1 S=>?_
 have S : StX noX w r w1 [.cell b1 [.int .u8 o.k,.int .i64 o.n,.int .i64 o.pl.l,.slice qs o.pl.ps.length caps] 41]:=S
 refine gg_ ?_
 refine zg (c:=decide (o.n=0)) (fun _ K2 hK2=>by refine gg_ ?_;exact hK2) ?_
 refine zm (c:=yS o.pl) (fun _ K2 hK2=>?_) fun w5 e5=>?_
 ·refine gg_ ?_
  refine S.ldN (b:=b1) ?_
  refine xC (p:=o.pl) S.holds ⟨_,rfl,hl⟩ fun w6 e6=>hK2 _ e6
 exact h _ (S.go e5).ext
theorem zT {t : TyD} {q : Option Addr} {cap : Nat} {k : Int} {w : World} {r : Gh} {K : Value→World→Prop} (hr : Holds r w)
  (h : ∀ w',Ext w w'→K (.bool (isK t k)) w') : zd Tryz.prog Tryz.zK #[tyV t q cap,.int .u8 k] w K:=by
 refine Tryz.ae6 ?_
 unfold Tryz.abn
 have S:=St.start hr
 refine S.box fun b1 w1 S=>?_
 have S : StX noX w r w1 [.cell b1 (tyL t q cap) 57]:=S
 refine gg_ ?_
 exact h _ S.ext
theorem aeE {s : ByteArray} {w : World} {K : Value→World→Prop}
  (h : K (.bool (yc s [[43],[45],[42],[47],[37]])) w) : zd Tryz.prog Tryz.YB #[.string s] w K:=by
 refine Tryz.adh ?_
 unfold Tryz.J3
 refine gg_ ?_
 refine zf (c:=s.toList == [45]) (fun _ K2 hK2=>by refine gg_ ?_;exact hK2) ?_
 refine zf (c:=s.toList == [42]) (fun _ K2 hK2=>by refine gg_ ?_;exact hK2) ?_
 refine zf (c:=s.toList == [47]) (fun _ K2 hK2=>by refine gg_ ?_;exact hK2) ?_
 refine zf (c:=s.toList == [37]) (fun _ K2 hK2=>by refine gg_ ?_;exact hK2) ?_
 have e : ((((s.toList == [43])||(s.toList == [45]))||(s.toList == [42]))||(s.toList == [47])||(s.toList == [37]))=yc s [[43],[45],[42],[47],[37]]:=by
  simp only [yc,List.any_cons,List.any_nil,Bool.or_false,Bool.or_assoc]
 rw [← e] at h
 exact h
theorem acd {s : ByteArray} {w : World} {K : Value→World→Prop}
  (h : K (.bool (yc s [[61,61],[33,61],[60],[60,61],[62],[62,61]])) w) : zd Tryz.prog Tryz.Zd #[.string s] w K:=by
 refine Tryz.abo ?_
 unfold Tryz.Qj
 refine gg_ ?_
 refine zf (c:=s.toList == [33,61]) (fun _ K2 hK2=>by refine gg_ ?_;exact hK2) ?_
 refine zf (c:=s.toList == [60]) (fun _ K2 hK2=>by refine gg_ ?_;exact hK2) ?_
 refine zf (c:=s.toList == [60,61]) (fun _ K2 hK2=>by refine gg_ ?_;exact hK2) ?_
 refine zf (c:=s.toList == [62]) (fun _ K2 hK2=>by refine gg_ ?_;exact hK2) ?_
 refine zf (c:=s.toList == [62,61]) (fun _ K2 hK2=>by refine gg_ ?_;exact hK2) ?_
 have e : (((((s.toList == [61,61])||(s.toList == [33,61]))||(s.toList == [60]))||(s.toList == [60,61])||(s.toList == [62]))||(s.toList == [62,61]))=yc s [[61,61],[33,61],[60],[60,61],[62],[62,61]]:=by
  simp only [yc,List.any_cons,List.any_nil,Bool.or_false,Bool.or_assoc]
 rw [← e] at h
 exact h
def yD (m : Int) : List Int→Int
 |[]=>m
 |k::l=>yD (max m k) l
theorem abq (k : Int) : ∀ (l : List Int) (m : Int),yD m (l ++ [k])=max (yD m l) k
 |[],m=>rfl
 |x::l,m=>by rw [List.cons_append,yD,yD,abq k l]
theorem vM {l : List Int} {v : Value} {w : World} {r : Gh} {K : Value→World→Prop} (hr : Holds r w) (hl : SlG 1 r xM v l) (hb : l.length≤1000000)
  (h : ∀ w',Ext w w'→K (.int .i64 (yD 0 l)) w') : zd Tryz.prog Tryz.ky #[v] w K:=by
 refine Tryz.adi ?_
 unfold Tryz.J4
 obtain ⟨p,cap,rfl,_,_⟩:=hl.shape
 have S:=St.start hr
 refine zi (ι:=Nat) (fun i=>[.int .i64 (yD 0 (l.take i)),.int .i64 (i : Nat)]) (fun i w'=>i≤l.length∧StX noX w r w' []) (fun i=>l.length - i) 0 rfl ⟨Nat.zero_le _,S⟩ ?_
 clear S
 rintro i d w2 ⟨hi,S⟩ K1 hK1
 simp only [List.getD_cons_zero,List.getD_cons_succ]
 refine gg_ ?_
 refine zh (fun hlt=>?_) (fun hge=>?_)
 ·have hlt : i<l.length:=by omega
  have hs : yD 0 (l.take (i+1))=max (yD 0 (l.take i)) l[i]:=by rw [List.take_succ_eq_append_getElem hlt,abq]
  obtain ⟨b,off,c,rfl,hc,hcc,hcell⟩:=hl.get (by decide) hlt
  obtain rfl : c=_:=hcc
  have hx : Ob r fun w=>w.cell? ⟨b,off+i,none⟩=some (.int .i64 l[i]):=by simpa using hcell 0 _ rfl
  refine zu (fun s w'=>s = [.int .i64 (yD 0 (l.take (i+1)))]∧w'=w2) (fun K5 hK5=>?_) ?_
  rotate_left
  ·rintro _ _ ⟨rfl,rfl⟩ d3
   rw [List.getD_cons_zero]
   refine gg_ ?_
   rw [show ((i : Int)+1)=((i+1 : Nat) : Int) by omega]
   exact hK1 (i+1) _ ⟨hlt,S⟩ (by omega)
  refine gg_ ?_
  refine zp (by simpa using S.at hx) ?_
  refine gg_ ?_
  refine zh (fun hgt=>?_) (fun hle=>?_)
  ·refine gg_ ?_
   refine zp (by simpa using S.at hx) ?_
   exact hK5 _ _ ⟨by rw [hs,Int.max_eq_right (by omega)],rfl⟩
  ·exact hK5 _ _ ⟨by rw [hs,Int.max_eq_left (by omega)],rfl⟩
 ·have hie : i=l.length:=by omega
  rw [hie,List.take_length]
  exact h _ S.ext
theorem Q5 {s s' : Int} : ∀ (n : Nat) {a b : TyD} {w : World} {r : Gh} {va vb : Value} {K : Value→World→Prop},zz s n a=true→zz s' n b=true→Holds r w→TyG r va a→TyG r vb b→
  (∀ w',Ext w w'→K (.bool (xt yf n a b)) w')→zd Tryz.prog Tryz.yI #[va,vb] w K:=by
 intro n
 induction n with
 |zero=>intro a b w r va vb K h;cases h
 |succ n ih=>
  intro a b w r va vb K ha hb hr hva hvb h
  refine Tryz.ab9 ?_
  unfold Tryz.Q4
  have hva0:=hva
  have hvb0:=hvb
  obtain ⟨p1,cap1,rfl,_⟩:=hva
  obtain ⟨p2,cap2,rfl,_⟩:=hvb
  have S:=St.start hr
  refine S.box fun b2 w1 S=>?_
  refine S.box fun b3 w2 S=>?_
  have S : StX noX w r w2 [.cell b3 (tyL b p2 cap2) 57,.cell b2 (tyL a p1 cap1) 57]:=S
  refine gg_ ?_
  refine zf (c:=!(a.m == b.m)) (fun _ K2 hK2=>by refine gg_ ?_;exact hK2) ?_
  refine zf (c:=decide (a.st≠b.st)) (fun _ K2 hK2=>by refine gg_ ?_;exact hK2) ?_
  refine zf (c:=decide (a.of.length≠b.of.length)) (fun _ K2 hK2=>?_) ?_
  ·refine gg_ ?_
   rw [show decide ((a.of.length : Int)≠(b.of.length : Int))=decide (a.of.length≠b.of.length) from decide_eq_decide.2 (by omega)]
   exact hK2
  have key : a.k=b.k→a.of.length=b.of.length:=fun hk=>by
   rcases zS ha with ⟨h1,h2⟩|⟨u,h1,_,h2⟩<;>rcases zS hb with ⟨h3,h4⟩|⟨x,h3,_,h4⟩<;>rw [h1,h3]<;>first|rfl|omega
  refine c_b (fun hbad=>?_) (fun hok=>?_)
  ·have:=h _ S.ext
   rw [Ju] at this
   ·exact this
   ·simp only [Bool.or_eq_true,decide_eq_true_eq,yf,Bool.not_true] at hbad ⊢
    rcases hbad with (hh|hh)|hh
    ·exact .inl (.inl hh)
    ·exact .inl (.inr hh)
    ·exact .inl (.inl (.inl fun hk=>hh (key hk)))
  have hflat : (!(decide (a.k≠b.k) || !(a.m == b.m)||decide (a.st≠b.st) || !yf a.re b.re))=true:=by
   simp only [Bool.or_eq_false_iff] at hok
   rw [hok.1.1.1,hok.1.1.2,hok.1.2];rfl
  have hk : a.k=b.k:=by
   simp only [Bool.or_eq_false_iff,decide_eq_false_iff_not] at hok;omega
  have S:=S.go (Ext.drew _)
  rcases zS ha with ⟨ho,hk2⟩|⟨u,ho,hu,hk2⟩
  ·have hl0 : a.of.length=0:=by rw [ho];rfl
   rw [Qp ho,hflat] at h
   refine gg_ ?_
   refine ym (c:=true) (fun hb=>?_) fun w5 e5=>?_
   ·exfalso;simp [hl0] at hb
   rw [Bool.or_true]
   exact h _ (S.go e5).ext
  ·have hob : ∃ x,b.of = [x]∧zz s' n x=true:=by
    rcases zS hb with ⟨h3,h4⟩|⟨x,h3,h5,h4⟩
    ·omega
    ·exact ⟨x,h3,h5⟩
   obtain ⟨x,hox,hx⟩:=hob
   have hl1 : a.of.length=1:=by rw [ho];rfl
   have hl2 : b.of.length=1:=by rw [hox];rfl
   obtain ⟨bo,oo,q3,cap3,rfl,hc3,ht3⟩:=Zr hva0 ho
   obtain ⟨bx,ox,q4,cap4,rfl,hc4,ht4⟩:=Zr hvb0 hox
   rw [Qq ho hox,hflat,Bool.true_and] at h
   refine gg_ ?_
   refine ym (c:=xt yf n u x) (fun _ K2 hK2=>?_) fun w5 e5=>?_
   ·refine gg_ ?_
    refine zq (n:=5) (c:=tyL u q3 cap3) rfl (fun j v hj=>by simpa using S.at (ht3 j v hj)) ?_
    refine gg_ ?_
    refine zq (n:=5) (c:=tyL x q4 cap4) rfl (fun j v hj=>by simpa using S.at (ht4 j v hj)) ?_
    exact ih hu hx S.holds hc3 hc4 fun w6 e6=>hK2 _ e6
   rw [show decide ((a.of.length : Int)=0)=false by rw [hl1];rfl,Bool.false_or]
   exact h _ (S.go e5).ext
end Go.Proofs
end
section
namespace Go.Proofs
open Go.Sh
set_option maxRecDepth 100000
set_option linter.unusedSimpArgs false
set_option linter.unusedVariables false
def zW : List UInt8:=[84,65,66,76,70,83,78,85,77,69]
def abr (p : PtD) : List Bool:=[yS p.to,jE p.a,jE p.b,decide (p.args.length=0),yS p.fr,p.sign.toList == [],decide (p.fn=0),decide (p.st=0),!p.mu,decide (p.el=0)]
def qw (has : List UInt8) (c : Int) : Bool:=has.any fun x=>decide ((x.toNat : Int)=c)
def thR (p : PtD) (has : List UInt8) (i : Nat) : Bool:=qw has (zO zW i)||(abr p).getD i true
def jf (p : PtD) (has : List UInt8) (n : Nat) : Bool:=(List.range n).all (thR p has)
theorem afW (p : PtD) (has : List UInt8) (n : Nat) : jf p has (n+1)=(jf p has n&&thR p has n):=by
 rw [jf,List.range_succ,List.all_append];simp [jf]
theorem ahE {p : PtD} {h : aah} {L : List UInt8} (e0 : qw L 84=h.to) (e1 : qw L 65=h.a) (e2 : qw L 66=h.b) (e3 : qw L 76=h.args) (e4 : qw L 70=h.fr) (e5 : qw L 83=h.sign) (e6 : qw L 78=h.fn) (e7 : qw L 85=h.st) (e8 : qw L 77=h.mu) (e9 : qw L 69=h.el) : jf p L 10=zC p h:=by
 have r10 : List.range 10 = [0,1,2,3,4,5,6,7,8,9]:=rfl
 have b0 : zO zW 0=84:=rfl
 have b1 : zO zW 1=65:=rfl
 have b2 : zO zW 2=66:=rfl
 have b3 : zO zW 3=76:=rfl
 have b4 : zO zW 4=70:=rfl
 have b5 : zO zW 5=83:=rfl
 have b6 : zO zW 6=78:=rfl
 have b7 : zO zW 7=85:=rfl
 have b8 : zO zW 8=77:=rfl
 have b9 : zO zW 9=69:=rfl
 rw [jf,r10]
 simp only [List.all_cons,List.all_nil,Bool.and_true,thR,b0,b1,b2,b3,b4,b5,b6,b7,b8,b9,e0,e1,e2,e3,e4,e5,e6,e7,e8,e9,abr,List.getD_cons_zero,List.getD_cons_succ,zC,qE,id]
 ac_rfl
set_option maxHeartbeats 4000000 in
theorem aeF {p : PtD} {has : List UInt8} {c : List Value} {w : World} {r : Gh} {K : Value→World→Prop} (hr : Holds r w) (hp : PtG r c p) (hh : has.length≤100)
  (h : ∀ w',Ext w w'→K (.bool (jf p has 10)) w') : zd Tryz.prog Tryz.zN #[.agg c.toArray,.string (bs has)] w K:=by
 refine Tryz.adg ?_
 unfold Tryz.J2
 obtain ⟨q1,q2,q3,q4,q5,c1,c2,c3,c4,c5,rfl,hp0⟩:=yj hp
 obtain ⟨_,_,_,_,_,hE,k1,k2,k3,k4,k5⟩:=hp0
 cases hE
 have S:=St.start hr
 refine S.box fun b1 w1 S=>?_
 have S : StX noX w r w1 [.cell b1 (ptL p q1 q2 q3 q4 q5 c1 c2 c3 c4 c5) 44]:=S
 refine zi (ι:=Nat) (fun i=>[.bool (jf p has i),.int .i64 (i : Nat)]) (fun i w'=>i≤10∧StX noX w r w' [.cell b1 (ptL p q1 q2 q3 q4 q5 c1 c2 c3 c4 c5) 44]) (fun i=>10 - i) 0 rfl ⟨Nat.zero_le _,S⟩ ?_
 clear S
 rintro i d w2 ⟨hi,S⟩ K2 hK2
 simp only [List.getD_cons_zero,List.getD_cons_succ]
 refine gg_ ?_
 refine zh (fun hlt=>?_) (fun hge=>?_)
 rotate_left
 ·have hie : i=10:=by omega
  rw [hie];exact h _ S.ext
 have hlt : i<10:=by omega
 refine zu (fun s w'=>s = [.bool (jf p has (i+1))]∧StX noX w r w' [.cell b1 (ptL p q1 q2 q3 q4 q5 c1 c2 c3 c4 c5) 44]) (fun K6 hK6=>?_) ?_
 rotate_left
 ·clear S
  rintro _ w3 ⟨rfl,S⟩ d3
  rw [List.getD_cons_zero]
  refine gg_ ?_
  rw [show ((i : Int)+1)=((i+1 : Nat) : Int) by omega]
  exact hK2 (i+1) _ ⟨hlt,S⟩ (by omega)
 have hcl : zW.length=10:=rfl
 show opP Tryz.prog (Instr.index 9 (.string (bs zW)) _) _
 refine gg_ ?_
 rw [Int.toNat_natCast]
 refine zi (ι:=Nat) (fun k=>[.bool (qw (has.take k) (zO zW i)),.int .i64 (k : Nat)]) (fun k w'=>k≤has.length∧StX noX w r w' [.cell b1 (ptL p q1 q2 q3 q4 q5 c1 c2 c3 c4 c5) 44]) (fun k=>has.length - k) 0 rfl ⟨Nat.zero_le _,S⟩ ?_
 clear S
 rintro k d w4 ⟨hk,S⟩ K10 hK10
 simp only [List.getD_cons_zero,List.getD_cons_succ]
 refine gg_ ?_
 refine zh (fun hlt2=>?_) (fun hge2=>?_)
 ·have hlt2 : k<has.length:=by omega
  have hs : qw (has.take (k+1)) (zO zW i)=(qw (has.take k) (zO zW i)||decide (zO has k=zO zW i)):=by
   rw [qw,List.take_succ_eq_append_getElem hlt2,List.any_append]
   simp only [List.any_cons,List.any_nil,Bool.or_false]
   have : zO has k=(has[k].toNat : Int):=by rw [zO,List.getD_eq_getElem?_getD,List.getElem?_eq_getElem hlt2];rfl
   rw [this];rfl
  refine zf (c:=decide (zO has k=zO zW i)) (fun _ K2 hK2=>?_) ?_
  ·refine gg_ ?_
   rw [Int.toNat_natCast]
   exact hK2
  rw [← hs]
  refine gg_ ?_
  rw [show ((k : Int)+1)=((k+1 : Nat) : Int) by omega]
  exact hK10 (k+1) _ ⟨hlt2,S⟩ (by omega)
 have hke : k=has.length:=by omega
 rw [hke,List.take_length]
 have hth : jf p has (i+1)=(jf p has i&&(qw has (zO zW i)||(abr p).getD i true)):=afW p has i
 refine c_b (fun hin=>?_) (fun hno=>?_)
 ·rw [hin,Bool.true_or,Bool.and_true] at hth
  exact hK6 _ _ ⟨by rw [hth],S⟩
 rw [hno,Bool.false_or] at hth
 clear hno hK10 hge2 hke hk
 have fin : ∀ {w9 : World},Ext w4 w9→K6 [.bool (jf p has i&&(abr p).getD i true)] w9:=fun e=>hK6 _ _ ⟨by rw [hth],S.go e⟩
 clear hK6 hth
 have hpto : PlG r [.int .i64 p.to.l,.slice q1 p.to.ps.length c1] p.to:=⟨_,rfl,k1⟩
 have hpfr : PlG r [.int .i64 p.fr.l,.slice q5 p.fr.ps.length c5] p.fr:=⟨_,rfl,k5⟩
 have hoa : OpG r [.int .u8 p.a.k,.int .i64 p.a.n,.int .i64 p.a.pl.l,.slice q2 p.a.pl.ps.length c2] p.a:=⟨_,rfl,k2⟩
 have hob : OpG r [.int .u8 p.b.k,.int .i64 p.b.n,.int .i64 p.b.pl.l,.slice q3 p.b.pl.ps.length c3] p.b:=⟨_,rfl,k3⟩
 have hi10 : i=0∨i=1∨i=2∨i=3∨i=4∨i=5∨i=6∨i=7∨i=8∨i=9:=by omega
 rcases hi10 with rfl|rfl|rfl|rfl|rfl|rfl|rfl|rfl|rfl|rfl
 ·rw [show zO zW 0=84 from rfl]
  refine gg_ ?_
  refine c_t (by decide) ?_
  refine zm (c:=yS p.to) (fun _ K9 hK9=>?_) fun w9 e9=>fin e9
  refine gg_ ?_
  refine S.ldN (b:=b1) ?_
  exact xC S.holds hpto fun w6 e6=>hK9 _ e6
 ·rw [show zO zW 1=65 from rfl]
  iterate 1 (refine gg_ ?_;refine c_f (by decide) ?_)
  refine gg_ ?_
  refine c_t (by decide) ?_
  refine zm (c:=jE p.a) (fun _ K9 hK9=>?_) fun w9 e9=>fin e9
  refine gg_ ?_
  refine S.ldN (b:=b1) ?_
  exact vX S.holds hoa fun w6 e6=>hK9 _ e6
 ·rw [show zO zW 2=66 from rfl]
  iterate 2 (refine gg_ ?_;refine c_f (by decide) ?_)
  refine gg_ ?_
  refine c_t (by decide) ?_
  refine zm (c:=jE p.b) (fun _ K9 hK9=>?_) fun w9 e9=>fin e9
  refine gg_ ?_
  refine S.ldN (b:=b1) ?_
  exact vX S.holds hob fun w6 e6=>hK9 _ e6
 ·rw [show zO zW 3=76 from rfl]
  iterate 3 (refine gg_ ?_;refine c_f (by decide) ?_)
  refine gg_ ?_
  refine c_t (by decide) ?_
  refine zg (c:=decide (p.args.length=0)) (fun _ K9 hK9=>?_) (fin (Ext.refl _))
  refine gg_ ?_
  rw [decide_eq_decide.2 (kO p.args.length)]
  exact hK9
 ·rw [show zO zW 4=70 from rfl]
  iterate 4 (refine gg_ ?_;refine c_f (by decide) ?_)
  refine gg_ ?_
  refine c_t (by decide) ?_
  refine zm (c:=yS p.fr) (fun _ K9 hK9=>?_) fun w9 e9=>fin e9
  refine gg_ ?_
  refine S.ldN (b:=b1) ?_
  exact xC S.holds hpfr fun w6 e6=>hK9 _ e6
 ·rw [show zO zW 5=83 from rfl]
  iterate 5 (refine gg_ ?_;refine c_f (by decide) ?_)
  refine gg_ ?_
  refine c_t (by decide) ?_
  refine zg (c:=p.sign.toList == []) (fun _ K9 hK9=>?_) (fin (Ext.refl _))
  refine gg_ ?_
  exact hK9
 ·rw [show zO zW 6=78 from rfl]
  iterate 6 (refine gg_ ?_;refine c_f (by decide) ?_)
  refine gg_ ?_
  refine c_t (by decide) ?_
  refine zg (c:=decide (p.fn=0)) (fun _ K9 hK9=>?_) (fin (Ext.refl _))
  refine gg_ ?_
  exact hK9
 ·rw [show zO zW 7=85 from rfl]
  iterate 7 (refine gg_ ?_;refine c_f (by decide) ?_)
  refine gg_ ?_
  refine c_t (by decide) ?_
  refine zg (c:=decide (p.st=0)) (fun _ K9 hK9=>?_) (fin (Ext.refl _))
  refine gg_ ?_
  exact hK9
 ·rw [show zO zW 8=77 from rfl]
  iterate 8 (refine gg_ ?_;refine c_f (by decide) ?_)
  refine gg_ ?_
  refine c_t (by decide) ?_
  refine zg (c:=!p.mu) (fun _ K9 hK9=>?_) (fin (Ext.refl _))
  refine gg_ ?_
  exact hK9
 ·rw [show zO zW 9=69 from rfl]
  iterate 9 (refine gg_ ?_;refine c_f (by decide) ?_)
  refine gg_ ?_
  refine c_t (by decide) ?_
  refine zg (c:=decide (p.el=0)) (fun _ K9 hK9=>?_) (fin (Ext.refl _))
  refine gg_ ?_
  exact hK9
end Go.Proofs
end
section
namespace Go.Proofs
open Go.Sh
set_option maxRecDepth 100000
set_option linter.unusedSimpArgs false
set_option linter.unusedVariables false
abbrev asL (u : UnD) (g : GrD) (p0 : Option Addr) (cap0 : Nat) (qf : Option Addr) (capf : Nat) (q1 : Option Addr) (c1 : Nat) (q2 : Option Addr) (c2 : Nat) (q3 : Option Addr) (c3 : Nat) (q4 : Option Addr) (c4 : Nat) : List Value:=
 [.slice p0 u.ss.length cap0,.slice qf u.fs.length capf,.int .i64 u.mn,.string g.name,.int .i64 g.lv,.slice q1 g.outs.length c1,.int .i64 g.pn,.slice q2 g.tys.length c2,.slice q3 g.nms.length c3,.slice q4 g.pts.length c4]
def AsP (r : Gh) (b : Nat) (u : UnD) (g : GrD) : Prop:=∃ p0 cap0 qf capf q1 c1 q2 c2 q3 c3 q4 c4,(Ob r fun w=>Blk w b (asL u g p0 cap0 qf capf q1 c1 q2 c2 q3 c3 q4 c4) 130)∧
 UnG r (.agg #[.slice p0 u.ss.length cap0,.slice qf u.fs.length capf,.int .i64 u.mn]) u∧GrG r [.string g.name,.int .i64 g.lv,.slice q1 g.outs.length c1,.int .i64 g.pn,.slice q2 g.tys.length c2,.slice q3 g.nms.length c3,.slice q4 g.pts.length c4] g
theorem AsP.up {r s : Gh} {b : Nat} {u : UnD} {g : GrD} (h : AsP r b u g) [l : Le r s] : AsP s b u g:=by
 obtain ⟨p0,cap0,qf,capf,q1,c1,q2,c2,q3,c3,q4,c4,h1,h2,h3⟩:=h
 exact ⟨p0,cap0,qf,capf,q1,c1,q2,c2,q3,c3,q4,c4,h1.up,h2.up,h3.up⟩
theorem aau {ss : List StD} : ∀ (l : List Int) (t : TyD) (m : Int),0≤m→goG ss l (t,m)=(zQ ss l t).map fun x=>(x.1,yD m x.2)
 |[],t,m,_=>rfl
 |k::l,t,m,hm=>by
  have hs : stepG ss (t,m) k=(yd ss t k).map fun s=>(s.1,max m s.2):=by
   unfold stepG yd
   split
   ·cases t.of.head?<;>rfl
   split
   ·cases t.of.head?<;>rfl
   split
   ·cases (ze ss t.st)[k.toNat]? with
    |none=>rfl
    |some u=>show some (u,m)=some (u,max m 0);rw [Int.max_eq_left hm]
   ·rfl
  rw [goG,zQ,hs]
  cases h1 : yd ss t k with
  |none=>rfl
  |some s=>
   show goG ss l (s.1,max m s.2)=((zQ ss l s.1).map _).map _
   rw [aau l s.1 (max m s.2) (by omega),Option.map_map]
   rfl
theorem J7 {ss : List StD} {t : TyD} {ps : List Int} (hst : (zw ss).2=0) (hm : zY ss t=true) : vG ss [t] ⟨0,ps⟩=if ps.length≤8 then zQ ss ps t else none:=by
 have e : ZF ss [t] ⟨0,ps⟩=decide (ps.length≤8):=by
  simp [ZF,hst,hm]
 rw [vG,e]
 by_cases h : ps.length≤8
 ·rw [if_pos (decide_eq_true h),if_pos h];rfl
 ·rw [if_neg (by simpa using h),if_neg h]
theorem J8 {ss : List StD} {tys : List TyD} {p : PlD} (hst : (zw ss).2=0) (hf : xx ss tys) : (zj ss tys p).2.2=true↔0≤p.l∧∃ (hl : p.l.toNat<tys.length) (x : TyD × List Int),vG ss [tys[p.l.toNat]] ⟨0,p.ps⟩=some x∧zj ss tys p=(x.1,yD 0 x.2,true):=by
 constructor
 ·intro ho
  have h8:=vI ho
  unfold zj at ho ⊢
  cases hb : (if p.l<0 then none else tys[p.l.toNat]?).bind fun t=>goG ss p.ps (t,0) with
  |none=>rw [hb] at ho;cases ho
  |some s=>
   split at hb
   ·cases hb
   ·rename_i hl0
    cases ht : tys[p.l.toNat]? with
    |none=>rw [ht] at hb;cases hb
    |some t=>
     rw [ht] at hb
     have hb : goG ss p.ps (t,0)=some s:=hb
     obtain ⟨hlt,rfl⟩:=List.getElem?_eq_some_iff.1 ht
     rw [aau _ _ _ (Int.le_refl _)] at hb
     cases hw : zQ ss p.ps tys[p.l.toNat] with
     |none=>rw [hw] at hb;cases hb
     |some x=>
      rw [hw] at hb
      have hb : (x.1,yD 0 x.2)=s:=Option.some.inj hb
      refine ⟨by omega,hlt,x,?_,?_⟩
      ·rw [J7 hst (by rw [zY,decide_eq_true hst,Bool.true_and];exact hf.all _ (List.getElem_mem hlt)),if_pos h8,hw]
      ·rw [← hb]
       show (x.1,yD 0 x.2,decide (p.ps.length≤8))=_
       rw [decide_eq_true h8]
 ·rintro ⟨_,_,x,_,h⟩;rw [h]
theorem aii {tys : List TyD} {i : Nat} (hi : i<tys.length) : (tys.drop i).take 1 = [tys[i]]:=by
 rw [List.drop_eq_getElem_cons hi];rfl
set_option maxHeartbeats 1000000 in
theorem vN {u : UnD} {g : GrD} {p : PlD} {bx : Nat} {c : List Value} {w : World} {r : Gh} {K : Value→World→Prop} (hr : Holds r w) (hx : AsP r bx u g) (hst : (zw u.ss).2=0) (hf : xx u.ss g.tys) (hp : PlG r c p)
  (hN : ∀ w',(zj u.ss g.tys p).2.2=false→Ext w w'→K (.tuple #[afM,.slice none 0 0,.bool false]) w')
  (hS : ∀ t how q cap vg s w',zj u.ss g.tys p=(t,yD 0 how,true)→Ext w w'→New w s w'→TyG r (tyV t q cap) t→SlG 1 s xM vg how→how.length≤8→K (.tuple #[tyV t q cap,vg,.bool true]) w') :
  zd Tryz.prog Tryz.yn #[.pointer (some ⟨bx,0,none⟩),.agg c.toArray] w K:=by
 refine Tryz.Jc ?_
 unfold Tryz.ZI
 obtain ⟨p0,cap0,qf,capf,q1,c1,q2,c2,q3,c3,q4,c4,hB,hu,hg⟩:=hx
 obtain ⟨_,_,_,hE,_,_,hss,_,_⟩:=hu
 cases hE
 obtain ⟨_,_,_,_,hE,_,ht,_,_⟩:=hg
 cases hE
 obtain ⟨_,_,hE,_,hct2⟩:=ht.sl.shape
 cases hE
 have htl:=ht.few
 have htl' : g.tys.length≤9223372036854775807:=htl
 obtain ⟨v,rfl,hl⟩:=hp
 obtain ⟨qs,caps,rfl,hqs,hcs⟩:=hl.sl.shape
 have S:=St.start hr
 refine S.box fun b3 w1 S=>?_
 have S : StX noX w r w1 [.cell b3 [.int .i64 p.l,.slice qs p.ps.length caps] 38]:=S
 refine S.al fun b4 w2 S=>?_
 have S:=S.go (Ext.drew _)
 have ld : ∀ {w9 : World} {L : List Asr} {i : Nat} {v : Value},StX noX w r w9 L→(asL u g p0 cap0 qf capf q1 c1 q2 c2 q3 c3 q4 c4)[i]? = some v→w9.cell? ⟨bx,i,none⟩=some v:=fun S hi=>by
  rw [(S.at hB).cell];exact hi
 refine gg_ ?_
 refine zf (c:=decide ((g.tys.length : Int)≤p.l)) (fun _ K2 hK2=>?_) ?_
 ·refine gg_ ?_
  refine zp (ld (i:=7) S rfl) ?_
  refine gg_ ?_
  exact hK2
 refine c_b (fun hbad=>?_) (fun hok=>?_)
 ·have hno : (zj u.ss g.tys p).2.2=false:=by
   cases hh : (zj u.ss g.tys p).2.2 with
   |false=>rfl
   |true=>
    obtain ⟨h1,h2,_⟩:=(J8 hst hf).1 hh
    simp only [Bool.or_eq_true,decide_eq_true_eq] at hbad;omega
  refine zx (cs:=#[.int .u8 0,.bool false,.int .i64 0,.int .i64 0,.slice none 0 0]) (by kernel_rfl) ?_
  refine S.stB (b:=b4) fun w4 S=>?_
  refine S.ceB (b:=b4) ?_ rfl
  exact hN _ hno S.ext
 simp only [Bool.or_eq_false_iff,decide_eq_false_iff_not] at hok
 have hlt : p.l.toNat<g.tys.length:=by omega
 have S:=S.go (Ext.drew _)
 refine gg_ ?_
 refine zp (ld (i:=0) S rfl) ?_
 refine gg_ ?_
 refine zp (ld (i:=7) S rfl) ?_
 refine gg_ ?_
 have hlen : (p.l+1).toNat - p.l.toNat = [g.tys[p.l.toNat]].length:=by show _=1;omega
 have hsub:=(Qe ht.sl).sub (a:=p.l.toNat) (n:=1) (cap:=c2) hct2
 rw [aii hlt] at hsub
 rw [hlen]
 generalize (if c2=p.l.toNat then q2 else q2.map (·.add (p.l.toNat*5)))=qx at hsub ⊢
 have hp2 : PlG r [.int .i64 0,.slice qs p.ps.length caps] ⟨0,p.ps⟩:=⟨_,rfl,hl⟩
 refine aeD (p:=⟨0,p.ps⟩) S.holds hss hsub (by simp [maxLen]) hp2 (fun w5 hn e5=>?_) fun t how q cap vg s w5 hs e5 n5 htt hsl=>?_
 ·have hno : (zj u.ss g.tys p).2.2=false:=by
   cases hh : (zj u.ss g.tys p).2.2 with
   |false=>rfl
   |true=>
    obtain ⟨h1,h2,x,h3,_⟩:=(J8 hst hf).1 hh
    rw [hn] at h3;cases h3
  have S:=S.go e5
  refine gS_ ?_
  refine S.stB (b:=b4) fun w6 S=>?_
  refine S.ceB (b:=b4) ?_ rfl
  exact hN _ hno S.ext
 ·obtain ⟨S,d5,a5⟩:=S.tell e5 n5
  have hm : zY u.ss g.tys[p.l.toNat]=true:=by rw [zY,decide_eq_true hst,Bool.true_and];exact hf.all _ (List.getElem_mem hlt)
  have hs':=hs
  rw [J7 hst hm] at hs'
  have h8 : p.ps.length≤8:=by
   refine Classical.byContradiction fun hc=>?_
   rw [if_neg hc] at hs';cases hs'
  rw [if_pos h8] at hs'
  have hw:=JP hs'
  have hsp : zj u.ss g.tys p=(t,yD 0 how,true):=by
   unfold zj
   rw [if_neg (by omega),List.getElem?_eq_getElem hlt]
   show (match goG u.ss p.ps (g.tys[p.l.toNat],0) with|some s=>(s.1,s.2,decide (p.ps.length≤8))|none=>(zD,0,false))=_
   rw [aau _ _ _ (Int.le_refl _),hs']
   show (t,yD 0 how,decide (p.ps.length≤8))=_
   rw [decide_eq_true h8]
  refine gS_ ?_
  refine S.stB (b:=b4) fun w6 S=>?_
  refine S.ceB (b:=b4) ?_ rfl
  exact hS t how _ _ _ s _ hsp S.ext (S.newOf a5) htt hsl (by rw [hw];exact h8)
theorem afX {u : UnD} {g : GrD} {p : PlD} {bx : Nat} {c : List Value} {w : World} {r : Gh} {K : Value→World→Prop} (hr : Holds r w) (hx : AsP r bx u g) (hst : (zw u.ss).2=0) (hf : xx u.ss g.tys) (hp : PlG r c p)
  (h : ∀ t q cap w',((zj u.ss g.tys p).2.2=true→t=(zj u.ss g.tys p).1)→Ext w w'→TyG r (tyV t q cap) t→K (.tuple #[tyV t q cap,.bool ((zj u.ss g.tys p).2.2&&decide ((zj u.ss g.tys p).2.1<3))]) w') :
  zd Tryz.prog Tryz.jJ #[.pointer (some ⟨bx,0,none⟩),.agg c.toArray] w K:=by
 refine Tryz.VC ?_
 unfold Tryz.Y3
 obtain ⟨v,rfl,hl⟩:=hp
 obtain ⟨qs,caps,rfl,_,_⟩:=hl.sl.shape
 have S:=St.start hr
 refine S.box fun b3 w1 S=>?_
 have S : StX noX w r w1 [.cell b3 [.int .i64 p.l,.slice qs p.ps.length caps] 38]:=S
 refine S.al fun b4 w2 S=>?_
 refine S.ldB (b:=b3) ?_ rfl
 refine vN (p:=p) S.holds hx hst hf ⟨_,rfl,hl⟩ (fun w3 hno e3=>?_) fun t how q cap vg s w3 hsp e3 n3 htt hsl h8=>?_
 ·have S:=S.go e3
  rw [hno] at h
  refine gS_ ?_
  refine S.al fun b6 w4 S=>?_
  refine S.stB (b:=b6) fun w5 S=>?_
  have S:=S.go (Ext.drew _)
  refine S.ldB (b:=b6) ?_ rfl
  refine zm (c:=true) (fun hh=>by cases hh) fun w6 e6=>?_
  have S:=S.go e6
  refine S.stB (b:=b4) fun w7 S=>?_
  refine S.ceB (b:=b4) ?_ rfl
  exact h zD none 0 _ (fun hh=>by cases hh) S.ext yh
 ·obtain ⟨S,d3,a3⟩:=S.tell e3 n3
  rw [hsp] at h
  refine gS_ ?_
  refine S.al fun b6 w4 S=>?_
  refine S.stB (b:=b6) fun w5 S=>?_
  have S:=S.go (Ext.drew _)
  refine S.ldB (b:=b6) ?_ rfl
  refine zm (c:=decide (yD 0 how<3)) (fun _ K2 hK2=>?_) fun w6 e6=>?_
  ·refine vM S.holds (hsl.cells (s:=r.or s)) (by omega) fun w7 e7=>⟨e7,?_⟩
   refine gp_ ?_
   exact hK2 _ e7
  have S:=S.go e6
  refine S.stB (b:=b4) fun w7 S=>?_
  refine S.ceB (b:=b4) ?_ rfl
  exact h t q cap _ (fun _=>rfl) S.ext htt
end Go.Proofs
end
section
namespace Go.Proofs
open Go.Sh
set_option maxRecDepth 100000
set_option linter.unusedSimpArgs false
set_option linter.unusedVariables false
set_option maxHeartbeats 2000000 in
theorem vO {u : UnD} {g : GrD} {o : OpD} {bx : Nat} {c : List Value} {w : World} {r : Gh} {K : Value→World→Prop} (hr : Holds r w) (hx : AsP r bx u g) (hst : (zw u.ss).2=0) (hf : xx u.ss g.tys) (ho : OpG r c o)
  (h : ∀ t q cap w',((zr u.ss g.tys o).2=true→t=(zr u.ss g.tys o).1)→Ext w w'→TyG r (tyV t q cap) t→K (.tuple #[tyV t q cap,.bool (zr u.ss g.tys o).2]) w') :
  zd Tryz.prog Tryz.yM #[.pointer (some ⟨bx,0,none⟩),.agg c.toArray] w K:=by
 refine Tryz.XN ?_
 unfold Tryz.j5
 obtain ⟨v,rfl,hl⟩:=ho
 obtain ⟨qs,caps,rfl,_,_⟩:=hl.sl.shape
 have hpl : PlG r [.int .i64 o.pl.l,.slice qs o.pl.ps.length caps] o.pl:=⟨_,rfl,hl⟩
 have S:=St.start hr
 refine S.box fun b3 w1 S=>?_
 have S : StX noX w r w1 [.cell b3 [.int .u8 o.k,.int .i64 o.n,.int .i64 o.pl.l,.slice qs o.pl.ps.length caps] 41]:=S
 refine S.al fun b4 w2 S=>?_
 refine gg_ ?_
 refine zh (fun h1=>?_) (fun h1=>?_)
 ·rw [zr,if_pos h1] at h
  refine zx (cs:=#[.int .u8 1,.bool false,.int .i64 0,.int .i64 0,.slice none 0 0]) (by kernel_rfl) ?_
  refine gg_ ?_
  refine S.ldN (b:=b3) ?_
  refine xC S.holds hpl fun w3 e3=>?_
  have S:=S.go e3
  refine S.stB (b:=b4) fun w4 S=>?_
  refine S.ceB (b:=b4) ?_ rfl
  exact h ab0 none 0 _ (fun _=>rfl) S.ext yh
 refine gg_ ?_
 refine zh (fun h2=>?_) (fun h2=>?_)
 ·rw [zr,if_neg h1,if_pos h2] at h
  refine zx (cs:=#[.int .u8 2,.bool false,.int .i64 0,.int .i64 0,.slice none 0 0]) (by kernel_rfl) ?_
  have S:=S.go (Ext.drew _)
  refine gg_ ?_
  refine S.ldN (b:=b3) ?_
  refine xC S.holds hpl fun w3 e3=>?_
  have S:=S.go e3
  have fin : ∀ {w4 : World} {L : List Asr} {b : Bool},b=(yS o.pl&&(decide (o.n=0)||decide (o.n=1)))→StX noX w r w4 (.cell b4 [.int .u8 2,.bool false,.int .i64 0,.int .i64 0,.slice none 0 0] 57::L)→K (.tuple #[tyV Vm none 0,.bool b]) w4:=fun hb S=>by
   rw [hb];exact h Vm none 0 _ (fun _=>rfl) S.ext yh
  cases hz : yS o.pl with
  |false=>
   rw [hz] at fin
   (intro K9 hK9;refine gd_ ?_;refine hK9 _ _ fun _=>?_;clear hK9 K9)
   (intro K9 hK9;refine gd_ ?_;refine hK9 _ _ fun _=>?_;clear hK9 K9)
   refine ⟨?_,?_⟩
   ·(intro K9 hK9;refine gd_ ?_;refine hK9 _ _ fun _=>?_;clear hK9 K9)
    (intro K9 hK9;refine gd_ ?_;refine hK9 _ _ fun _=>?_;clear hK9 K9)
    refine gd_ ?_
    refine S.stB (b:=b4) fun w10 S=>?_
    refine S.ceB (b:=b4) ?_ rfl
    exact fin rfl S
   ·refine S.stB (b:=b4) fun w10 S=>?_
    (intro K9 hK9;refine gd_ ?_;refine hK9 _ _ fun _=>?_;clear hK9 K9)
    (intro K9 hK9;refine gd_ ?_;refine hK9 _ _ fun _=>?_;clear hK9 K9)
    refine gd_ ?_
    exact fin rfl S
  |true=>
   rw [hz] at fin
   refine zu (fun s w'=>s = [.bool (decide (o.n=0))]∧w'=w3) (fun K9 hK9=>?_) ?_
   ·refine gd_ ?_
    exact hK9 _ _ ⟨rfl,rfl⟩
   rintro _ w3 ⟨rfl,rfl⟩ d1
   simp only [List.getD_cons_zero]
   by_cases hn : o.n=0
   ·rw [decide_eq_true hn]
    rw [decide_eq_true hn] at fin
    (intro K9 hK9;refine gd_ ?_;refine hK9 _ _ fun _=>?_;clear hK9 K9)
    refine ⟨?_,?_⟩
    ·(intro K9 hK9;refine gd_ ?_;refine hK9 _ _ fun _=>?_;clear hK9 K9)
     (intro K9 hK9;refine gd_ ?_;refine hK9 _ _ fun _=>?_;clear hK9 K9)
     refine gd_ ?_
     refine S.stB (b:=b4) fun w10 S=>?_
     refine S.ceB (b:=b4) ?_ rfl
     exact fin rfl S
    ·refine S.stB (b:=b4) fun w10 S=>?_
     (intro K9 hK9;refine gd_ ?_;refine hK9 _ _ fun _=>?_;clear hK9 K9)
     (intro K9 hK9;refine gd_ ?_;refine hK9 _ _ fun _=>?_;clear hK9 K9)
     refine gd_ ?_
     exact fin rfl S
   ·rw [decide_eq_false hn]
    rw [decide_eq_false hn] at fin
    (intro K9 hK9;refine gd_ ?_;refine hK9 _ _ fun _=>?_;clear hK9 K9)
    refine ⟨?_,?_⟩
    ·refine zu (fun s w'=>s = [.bool (decide (o.n=1))]∧w'=w3) (fun K9 hK9=>?_) ?_
     ·refine gd_ ?_
      refine w_q ?_
      refine gd_ ?_
      exact hK9 _ _ ⟨rfl,rfl⟩
     rintro _ _ ⟨rfl,rfl⟩ d1
     (intro K9 hK9;refine gd_ ?_;refine hK9 _ _ fun _=>?_;clear hK9 K9)
     refine gd_ ?_
     refine S.stB (b:=b4) fun w10 S=>?_
     refine S.ceB (b:=b4) ?_ rfl
     exact fin (by simp) S
    ·refine S.stB (b:=b4) fun w10 S=>?_
     refine zu (fun s w'=>s = [.bool (decide (o.n=1))]∧w'=w10) (fun K9 hK9=>?_) ?_
     ·refine gd_ ?_
      refine w_q ?_
      refine gd_ ?_
      exact hK9 _ _ ⟨rfl,rfl⟩
     rintro _ _ ⟨rfl,rfl⟩ d1
     (intro K9 hK9;refine gd_ ?_;refine hK9 _ _ fun _=>?_;clear hK9 K9)
     refine gd_ ?_
     exact fin (by simp) S
 intro K41 hK41
 refine gg_ ?_
 refine kK (c:=decide (o.k=4)) (hK41 _ _ fun _=>?_) fun _ hk=>?_
 rotate_left
 ·refine gg_ ?_;exact hk
 simp only [List.getD_cons_zero]
 refine c_b (fun h34=>?_) (fun h34=>?_)
 rotate_left
 ·have h34 : ¬ o.k=3∧¬ o.k=4:=by simpa using h34
  rw [zr,if_neg h1,if_neg h2,if_neg h34.1,if_neg h34.2] at h
  refine zx (cs:=#[.int .u8 0,.bool false,.int .i64 0,.int .i64 0,.slice none 0 0]) (by kernel_rfl) ?_
  refine S.stB (b:=b4) fun w10 S=>?_
  refine S.ceB (b:=b4) ?_ rfl
  exact h zD none 0 _ (fun hh=>by cases hh) S.ext yh
 have h34 : o.k=3∨o.k=4:=by simpa using h34
 have hop : zr u.ss g.tys o=if o.k=3 then ((zj u.ss g.tys o.pl).1,((zj u.ss g.tys o.pl).2.2&&decide (o.n=0))&&xS (zj u.ss g.tys o.pl).1)
   else ((zj u.ss g.tys o.pl).1,(((zj u.ss g.tys o.pl).2.2&&decide (o.n=0)) && !xS (zj u.ss g.tys o.pl).1)&&decide ((zj u.ss g.tys o.pl).2.1<2)):=by
  rw [zr,if_neg h1,if_neg h2]
  by_cases h3 : o.k=3
  ·rw [if_pos h3,if_pos h3]
  ·rw [if_neg h3,if_neg h3,if_pos (by omega)]
 refine gg_ ?_
 refine S.ldN (b:=b3) ?_
 refine vN (p:=o.pl) S.holds hx hst hf hpl (fun w3 hno e3=>?_) fun t how q cap vg s w3 hsp e3 n3 htt hsl h8=>?_
 ·have S:=S.go e3
  have hz : (zr u.ss g.tys o).2=false:=by
   rw [hop];split<;>simp [hno]
  rw [hz] at h
  refine gS_ ?_
  refine S.al fun b6 w4 S=>?_
  refine S.stB (b:=b6) fun w5 S=>?_
  refine gp_ ?_
  refine zf (c:=true) (fun hh=>by cases hh) ?_
  refine c_t rfl ?_
  refine S.ldB (b:=b6) ?_ rfl
  refine S.stB (b:=b4) fun w7 S=>?_
  refine S.ceB (b:=b4) ?_ rfl
  exact h zD none 0 _ (fun hh=>by cases hh) S.ext yh
 obtain ⟨S,d3,a3⟩:=S.tell e3 n3
 rw [hsp] at hop
 simp only [Bool.true_and] at hop
 refine gS_ ?_
 refine S.al fun b6 w4 S=>?_
 refine S.stB (b:=b6) fun w5 S=>?_
 refine gp_ ?_
 refine zf (c:=decide (o.n≠0)) (fun _ K2 hK2=>by refine gg_ ?_;exact hK2) ?_
 rw [show ((!true)||decide (o.n≠0))=decide (o.n≠0) by simp]
 refine zh (fun hn=>?_) (fun hn=>?_)
 ·have hz : (zr u.ss g.tys o).2=false:=by
   rw [hop];split<;>simp [hn]
  rw [hz] at h
  refine S.ldB (b:=b6) ?_ rfl
  refine S.stB (b:=b4) fun w7 S=>?_
  refine S.ceB (b:=b4) ?_ rfl
  exact h t q cap _ (fun hh=>by cases hh) S.ext htt
 have hn : o.n=0:=by omega
 rw [decide_eq_true hn] at hop
 simp only [Bool.true_and] at hop
 refine gg_ ?_
 refine zh (fun h3=>?_) (fun h3=>?_)
 ·rw [if_pos h3] at hop
  rw [hop] at h
  have S:=S.go (Ext.drew _)
  refine S.ldB (b:=b6) ?_ rfl
  refine S.ldB (b:=b6) ?_ rfl
  refine X7 S.holds htt.up fun w6 e6=>⟨e6,?_⟩
  have S:=S.go e6
  refine S.stB (b:=b4) fun w7 S=>?_
  refine S.ceB (b:=b4) ?_ rfl
  exact h t q cap _ (fun _=>rfl) S.ext htt
 ·rw [if_neg h3] at hop
  rw [hop] at h
  have S:=S.go (Ext.drew _)
  refine S.ldB (b:=b6) ?_ rfl
  refine S.ldB (b:=b6) ?_ rfl
  refine X7 S.holds htt.up fun w6 e6=>⟨e6,?_⟩
  have S:=S.go e6
  refine gp_ ?_
  refine zm (c:=decide (yD 0 how<2)) (fun _ K2 hK2=>?_) fun w7 e7=>?_
  ·refine vM S.holds (hsl.cells (s:=r.or s)) (by omega) fun w7 e7=>⟨e7,?_⟩
   refine gp_ ?_
   exact hK2 _ e7
  have S:=S.go e7
  refine S.stB (b:=b4) fun w7 S=>?_
  refine S.ceB (b:=b4) ?_ rfl
  exact h t q cap _ (fun _=>rfl) S.ext htt
theorem abs {ss : List StD} {tys : List TyD} (hf : xx ss tys) {o : OpD} (h : (zr ss tys o).2=true) : isB (zr ss tys o).1=true:=by
 by_cases hk : o.k=3∨o.k=4
 ·unfold zr at h ⊢
  rw [if_neg (by omega),if_neg (by omega)] at h ⊢
  rcases hk with hk|hk
  ·rw [if_pos hk] at h ⊢
   simp only [Bool.and_eq_true] at h
   exact (x7 hf h.1.1).is hf.few
  ·rw [if_neg (by omega),if_pos hk] at h ⊢
   simp only [Bool.and_eq_true] at h
   exact (x7 hf h.1.1.1).is hf.few
 ·unfold zr at h ⊢
  by_cases h1 : o.k=1
  ·rw [if_pos h1];rfl
  by_cases h2 : o.k=2
  ·rw [if_neg h1,if_pos h2];rfl
  ·rw [if_neg h1,if_neg h2,if_neg (by omega),if_neg (by omega)] at h;cases h
theorem abt {ss : List StD} {tys : List TyD} : ∀ {l : List OpD} {ts : List TyD} (i : Nat) (hi : i<l.length) (hj : i<ts.length),yT ss tys (l.take (i+1)) (ts.take (i+1))=(yT ss tys (l.take i) (ts.take i)&&((zr ss tys l[i]).2&&zI yf (zr ss tys l[i]).1 ts[i]))
 |[],_,i,hi,_=>absurd hi (Nat.not_lt_zero _)
 |_::_,[],i,_,hj=>absurd hj (Nat.not_lt_zero _)
 |o::l,t::r,0,hi,hj=>by
  rw [List.take_succ_cons,List.take_succ_cons,kR]
  simp [yT]
 |o::l,t::r,i+1,hi,hj=>by
  rw [List.take_succ_cons,List.take_succ_cons,kR,abt i (by simpa using hi) (by simpa using hj),List.take_succ_cons,List.take_succ_cons,kR]
  simp only [List.getElem_cons_succ,Bool.and_assoc]
theorem ahF {ss : List StD} {tys : List TyD} {l : List OpD} {ts : List TyD} {i : Nat} (hi : i<l.length) (hj : i<ts.length) (h : ((zr ss tys l[i]).2&&zI yf (zr ss tys l[i]).1 ts[i])=false) : yT ss tys l ts=false:=by
 cases ha : yT ss tys l ts with
 |false=>rfl
 |true=>
  exfalso
  have key : ∀ {l : List OpD} {ts : List TyD} (i : Nat) (hi : i<l.length) (hj : i<ts.length),yT ss tys l ts=true→((zr ss tys l[i]).2&&zI yf (zr ss tys l[i]).1 ts[i])=true:=by
   intro l
   induction l with
   |nil=>intro ts i hi;exact absurd hi (Nat.not_lt_zero _)
   |cons o l ih=>
    intro ts i hi hj ha
    cases ts with
    |nil=>exact absurd hj (Nat.not_lt_zero _)
    |cons t r=>
     rw [kR,Bool.and_eq_true] at ha
     cases i with
     |zero=>exact ha.1
     |succ i=>exact ih i (by simpa using hi) (by simpa using hj) ha.2
  rw [key i hi hj ha] at h;cases h
set_option maxHeartbeats 1000000 in
theorem J9 {u : UnD} {g : GrD} {l : List OpD} {ts : List TyD} {bx : Nat} {p q : Option Addr} {cp cq : Nat} {w : World} {r : Gh} {K : Value→World→Prop} (hr : Holds r w) (hx : AsP r bx u g) (hst : (zw u.ss).2=0) (hf : xx u.ss g.tys)
  (hl : SlG 4 r (OpG r) (.slice p l.length cp) l) (hb : l.length≤maxLen) (ht : TysG r q ts) (htb : ts.length≤maxLen) (hts : ∀ t ∈ ts,isB t=true)
  (h : ∀ w',Ext w w'→K (.bool (yT u.ss g.tys l ts)) w') : zd Tryz.prog Tryz.xZ #[.pointer (some ⟨bx,0,none⟩),.slice p l.length cp,.slice q ts.length cq] w K:=by
 refine Tryz.Jd ?_
 unfold Tryz.ZJ
 have S:=St.start hr
 have hb' : l.length≤9223372036854775807:=hb
 refine gg_ ?_
 refine zh (fun hne=>?_) (fun heq=>?_)
 ·have:=h _ S.ext
  rw [JO (by omega)] at this
  exact this
 have heq : l.length=ts.length:=by omega
 refine zi (ι:=Nat) (fun i=>[.int .i64 (i : Nat)]) (fun i w'=>i≤l.length∧yT u.ss g.tys (l.take i) (ts.take i)=true∧StX noX w r w' []) (fun i=>l.length - i) 0 rfl ⟨Nat.zero_le _,rfl,S⟩ ?_
 clear S
 rintro i d w2 ⟨hi,hall,S⟩ K1 hK1
 rw [List.getD_cons_zero]
 refine gg_ ?_
 refine zh (fun hlt=>?_) (fun hge=>?_)
 ·have hlt : i<l.length:=by omega
  have hlt2 : i<ts.length:=by omega
  obtain ⟨bo,oo,co,rfl,hco,hoc,hocell⟩:=hl.get (by decide) hlt
  obtain ⟨bt,ot,ct,rfl,hct,htcell,htc⟩:=ht i hlt2
  obtain ⟨qt,ct2,rfl,htt⟩:=y6 htc
  refine gg_ ?_
  refine zq (n:=4) hco (fun j v hj=>by rw [Int.toNat_natCast];exact S.at (hocell j v hj)) ?_
  refine vO S.holds hx hst hf hoc fun t q cap w3 hte e3 ht3=>?_
  have S:=S.go e3
  refine gS_ ?_
  refine S.al fun b8 w4 S=>?_
  refine S.stB (b:=b8) fun w5 S=>?_
  refine gp_ ?_
  have S0:=S
  have S:=S.go (Ext.drew _)
  refine ym (c:=!zI yf (zr u.ss g.tys l[i]).1 ts[i]) (fun hok K2 hK2=>?_) fun w6 e6=>?_
  ·have hok : (zr u.ss g.tys l[i]).2=true:=by simpa using hok
   obtain rfl:=hte hok
   refine S.ldB (b:=b8) ?_ rfl
   refine gg_ ?_
   refine zq (n:=5) hct (fun j v hj=>by rw [Int.toNat_natCast];exact S.at (htcell j v hj)) ?_
   have hB:=abs hf hok
   have hB2:=hts _ (List.getElem_mem hlt2)
   refine Q5 48 hB hB2 S.holds ht3.up htt.up fun w7 e7=>?_
   refine gp_ ?_
   have ea : xt yf 48 (zr u.ss g.tys l[i]).1 ts[i]=zI yf (zr u.ss g.tys l[i]).1 ts[i]:=by rw [zI,hB,hB2];rfl
   rw [ea]
   exact hK2 _ e7
  have S:=S.go e6
  refine c_b (fun hbad=>?_) (fun hgood=>?_)
  ·have:=h _ S.ext
   rw [ahF hlt hlt2 (by revert hbad;cases (zr u.ss g.tys l[i]).2<;>cases (zI yf (zr u.ss g.tys l[i]).1 ts[i])<;>simp)] at this
   exact this
  ·refine gg_ ?_
   rw [show ((i : Int)+1)=((i+1 : Nat) : Int) by omega]
   refine hK1 (i+1) _ ⟨hlt,?_,S.tl⟩ (by omega)
   rw [abt i hlt hlt2,hall,Bool.true_and]
   simpa using hgood
 ·have hie : i=l.length:=by omega
  have:=h _ S.ext
  rw [hie,List.take_length,heq,List.take_length] at hall
  rw [hall] at this
  exact this
end Go.Proofs
end
section
namespace Go.Sh
theorem ai2 {w : World} {b e n x y : Bool} {A1 : (List Value→World→Prop)→Prop} {A2 A3 A4 : (List Value→World→Prop)→World→Prop} {Z : Value→World→Prop}
  (h1 : ∀ K : List Value→World→Prop,(∀ w',Ext w w'→K [.bool e] w')→A1 K) (h2 : ∀ (K : List Value→World→Prop) w1,Ext w w1→(∀ w',Ext w w'→K [.bool n] w')→A2 K w1)
  (h3 : ∀ (K : List Value→World→Prop) w1,Ext w w1→(∀ w',Ext w w'→K [.bool x] w')→A3 K w1) (h4 : ∀ (K : List Value→World→Prop) w1,Ext w w1→(∀ w',Ext w w'→K [.bool y] w')→A4 K w1)
  (hZ : ∀ w',Ext w w'→Z (.bool (b||(((e||n)&&x)&&y))) w') :
  za (fun K=>gIf (.bool b) false (A1 K) (K [undef] w)) fun s92 _ w94=>
   za (fun K=>gIf (s92.getD 0 undef) false (A2 K w94) (K [undef] w94)) fun s96 _ w98=>
    za (fun K=>gIf (.bool b) false (zb (s92.getD 0 undef) (.bool true) (s96.getD 0 undef) fun t=>K [t] w98) (K [undef] w98)) fun s100 _ w102=>
     za (fun K=>gIf (s100.getD 0 undef) true (A3 K w102) (K [undef] w102)) fun s104 _ w106=>
      za (fun K=>gIf (.bool b) false (zb (s100.getD 0 undef) (s104.getD 0 undef) (.bool false) fun t=>K [t] w106) (K [undef] w106)) fun s109 _ w111=>
       za (fun K=>gIf (s109.getD 0 undef) true (A4 K w111) (K [undef] w111)) fun s113 _ w115=>
        za (fun K=>gIf (.bool b) false (zb (s109.getD 0 undef) (s113.getD 0 undef) (.bool false) fun t=>K [t] w115) (K [undef] w115)) fun s118 _ w120=>
         zb (.bool b) (.bool true) (s118.getD 0 undef) fun t=>Z t w120:=by
 cases b<;>cases e<;>cases n<;>cases x<;>cases y <;>
  (iterate 7 (intro K hK;first|refine hK _ _ fun _=>?_|(refine h1 _ fun w1 e1=>hK _ _ fun _=>?_)|(refine h2 _ _ (by first|assumption|exact Ext.refl _) fun w1 e1=>hK _ _ fun _=>?_)|(refine h3 _ _ (by first|assumption|exact Ext.refl _) fun w1 e1=>hK _ _ fun _=>?_)|(refine h4 _ _ (by first|assumption|exact Ext.refl _) fun w1 e1=>hK _ _ fun _=>?_)|refine ⟨_,rfl,hK _ _ fun _=>?_⟩)) <;>
  exact ⟨_,rfl,by simpa using hZ _ (by first|assumption|exact Ext.refl _)⟩
theorem aij {w : World} {b m x y o u v : Bool} {A1 : (List Value→World→Prop)→Prop} {A2 A3 A4 A5 A6 : (List Value→World→Prop)→World→Prop} {Z : Value→World→Prop}
  (h1 : ∀ K : List Value→World→Prop,(∀ w',Ext w w'→K [.bool m] w')→A1 K) (h2 : ∀ (K : List Value→World→Prop) w1,Ext w w1→(∀ w',Ext w w'→K [.bool x] w')→A2 K w1)
  (h3 : ∀ (K : List Value→World→Prop) w1,Ext w w1→(∀ w',Ext w w'→K [.bool y] w')→A3 K w1) (h4 : ∀ (K : List Value→World→Prop) w1,Ext w w1→(∀ w',Ext w w'→K [.bool o] w')→A4 K w1)
  (h5 : ∀ (K : List Value→World→Prop) w1,Ext w w1→(∀ w',Ext w w'→K [.bool u] w')→A5 K w1) (h6 : ∀ (K : List Value→World→Prop) w1,Ext w w1→(∀ w',Ext w w'→K [.bool v] w')→A6 K w1)
  (hZ : ∀ w',Ext w w'→Z (.bool (b&&(((m&&x)&&y)||((o&&u)&&v)))) w') :
  za (fun K=>gIf (.bool b) true (A1 K) (K [undef] w)) fun s141 _ w143=>
   za (fun K=>gIf (s141.getD 0 undef) true (A2 K w143) (K [undef] w143)) fun s145 _ w147=>
    za (fun K=>gIf (.bool b) true (zb (s141.getD 0 undef) (s145.getD 0 undef) (.bool false) fun t=>K [t] w147) (K [undef] w147)) fun s150 _ w152=>
     za (fun K=>gIf (s150.getD 0 undef) true (A3 K w152) (K [undef] w152)) fun s154 _ w156=>
      za (fun K=>gIf (.bool b) true (zb (s150.getD 0 undef) (s154.getD 0 undef) (.bool false) fun t=>K [t] w156) (K [undef] w156)) fun s159 _ w161=>
       za (fun K=>gIf (s159.getD 0 undef) false (A4 K w161) (K [undef] w161)) fun s163 _ w165=>
        za (fun K=>gIf (s163.getD 0 undef) true (A5 K w165) (K [undef] w165)) fun s167 _ w169=>
         za (fun K=>gIf (s159.getD 0 undef) false (zb (s163.getD 0 undef) (s167.getD 0 undef) (.bool false) fun t=>K [t] w169) (K [undef] w169)) fun s172 _ w174=>
          za (fun K=>gIf (s172.getD 0 undef) true (A6 K w174) (K [undef] w174)) fun s176 _ w178=>
           za (fun K=>gIf (s159.getD 0 undef) false (zb (s172.getD 0 undef) (s176.getD 0 undef) (.bool false) fun t=>K [t] w178) (K [undef] w178)) fun s181 _ w183=>
            za (fun K=>gIf (.bool b) true (zb (s159.getD 0 undef) (.bool true) (s181.getD 0 undef) fun t=>K [t] w183) (K [undef] w183)) fun s185 _ w187=>
             zb (.bool b) (s185.getD 0 undef) (.bool false) fun t=>Z t w187:=by
 cases b<;>cases m<;>cases x<;>cases y<;>cases o<;>cases u<;>cases v <;>
  (iterate 11 (intro K hK;first|refine hK _ _ fun _=>?_|(refine h1 _ fun w1 e1=>hK _ _ fun _=>?_)|(refine h2 _ _ (by first|assumption|exact Ext.refl _) fun w1 e1=>hK _ _ fun _=>?_)|(refine h3 _ _ (by first|assumption|exact Ext.refl _) fun w1 e1=>hK _ _ fun _=>?_)|(refine h4 _ _ (by first|assumption|exact Ext.refl _) fun w1 e1=>hK _ _ fun _=>?_)|(refine h5 _ _ (by first|assumption|exact Ext.refl _) fun w1 e1=>hK _ _ fun _=>?_)|(refine h6 _ _ (by first|assumption|exact Ext.refl _) fun w1 e1=>hK _ _ fun _=>?_)|refine ⟨_,rfl,hK _ _ fun _=>?_⟩)) <;>
  exact ⟨_,rfl,by simpa using hZ _ (by first|assumption|exact Ext.refl _)⟩
theorem afs {w : World} {b m x : Bool} {A1 : (List Value→World→Prop)→Prop} {A2 : (List Value→World→Prop)→World→Prop} {Z : Value→World→Prop}
  (h1 : ∀ K : List Value→World→Prop,K [.bool m] w→A1 K) (h2 : b=true→∀ K : List Value→World→Prop,(∀ w',Ext w w'→K [.bool x] w')→A2 K w) (hZ : ∀ w',Ext w w'→Z (.bool (b&&(m||x))) w') :
  za (fun K=>gIf (.bool b) true (A1 K) (K [undef] w)) fun s212 _ w214=>
   za (fun K=>gIf (s212.getD 0 undef) false (A2 K w214) (K [undef] w214)) fun s216 _ w218=>
    za (fun K=>gIf (.bool b) true (zb (s212.getD 0 undef) (.bool true) (s216.getD 0 undef) fun t=>K [t] w218) (K [undef] w218)) fun s221 _ w223=>
     zb (.bool b) (s221.getD 0 undef) (.bool false) fun t=>Z t w223:=by
 cases b<;>cases m<;>cases x <;>
  (iterate 3 (intro K hK;first|refine hK _ _ fun _=>?_|refine h1 _ (hK _ _ fun _=>?_)|(refine h2 rfl _ fun w1 e1=>hK _ _ fun _=>?_)|refine ⟨_,rfl,hK _ _ fun _=>?_⟩)) <;>
  exact ⟨_,rfl,by simpa using hZ _ (by first|assumption|exact Ext.refl _)⟩
end Go.Sh
namespace Go.Proofs
open Go.Sh
set_option maxRecDepth 100000
set_option linter.unusedSimpArgs false
set_option linter.unusedVariables false
theorem aeG : ∀ (l : List Int) (m : Int),(m≤3)→(∀ x ∈ l,x≤3)→yD m l≤3
 |[],m,h,_=>h
 |k::l,m,h,hl=>aeG l _ (by have:=hl k List.mem_cons_self;omega) fun x hx=>hl x (List.mem_cons_of_mem _ hx)
theorem aeH {ss : List StD} : ∀ (l : List Int) (t : TyD) {x : TyD × List Int},zQ ss l t=some x→∀ k ∈ x.2,k≤3
 |[],t,x,h=>by cases h;intro k hk;cases hk
 |k::l,t,x,h=>by
  rw [zQ] at h
  cases hs : yd ss t k with
  |none=>rw [hs] at h;cases h
  |some s=>
   rw [hs] at h
   have h : (zQ ss l s.1).map (fun x=>(x.1,s.2::x.2))=some x:=h
   cases hw : zQ ss l s.1 with
   |none=>rw [hw] at h;cases h
   |some y=>
    rw [hw] at h
    cases h
    intro j hj
    rcases List.mem_cons.1 hj with rfl|hj
    ·unfold yd at hs
     split at hs
     ·cases ho : t.of.head? with
      |none=>rw [ho] at hs;cases hs
      |some u=>rw [ho] at hs;cases hs;show (1 : Int)≤3;decide
     split at hs
     ·cases ho : t.of.head? with
      |none=>rw [ho] at hs;cases hs
      |some u=>rw [ho] at hs;cases hs;show (if t.m then (2 : Int) else 3)≤3;split<;>decide
     split at hs
     ·cases ho : (ze ss t.st)[k.toNat]? with
      |none=>rw [ho] at hs;cases hs
      |some u=>rw [ho] at hs;cases hs;show (0 : Int)≤3;decide
     ·cases hs
    ·exact aeH l s.1 hw j hj
theorem agN {ss : List StD} {tys : List TyD} {p : PlD} (hst : (zw ss).2=0) (hf : xx ss tys) (h : (zj ss tys p).2.2=true) : (zj ss tys p).2.1≤3:=by
 have h8:=vI h
 obtain ⟨h0,hl,x,h1,h2⟩:=(J8 hst hf).1 h
 rw [J7 hst (by rw [zY,decide_eq_true hst,Bool.true_and];exact hf.all _ (List.getElem_mem hl)),if_pos h8] at h1
 rw [h2]
 exact aeG _ _ (by decide) (aeH _ _ h1)
theorem adl {u : UnD} {g : GrD} {p : PlD} {bx : Nat} {c : List Value} {w : World} {r : Gh} {K : Value→World→Prop} (hr : Holds r w) (hx : AsP r bx u g) (hst : (zw u.ss).2=0) (hf : xx u.ss g.tys) (hp : PlG r c p)
  (h : ∀ t how q cap vg s w',((zj u.ss g.tys p).2.2=true→zj u.ss g.tys p=(t,yD 0 how,true))→Ext w w'→New w s w'→TyG r (tyV t q cap) t→SlG 1 s xM vg how→how.length≤8→K (.tuple #[tyV t q cap,vg,.bool (zj u.ss g.tys p).2.2]) w') :
  zd Tryz.prog Tryz.yn #[.pointer (some ⟨bx,0,none⟩),.agg c.toArray] w K:=by
 refine vN hr hx hst hf hp (fun w' hno e=>?_) fun t how q cap vg s w' hsp e n htt hsl h8=>?_
 ·have:=h zD [] none 0 (.slice none 0 0) nothing w' (fun hh=>by rw [hno] at hh;cases hh) e New.nothing yh SlG.nil (Nat.zero_le _)
  rw [hno] at this
  exact this
 ·have:=h t how q cap vg s w' (fun _=>hsp) e n htt hsl h8
  rw [hsp] at this
  exact this
end Go.Proofs
end
section
namespace Go.Proofs
open Go.Sh
set_option maxRecDepth 100000
set_option linter.unusedSimpArgs false
set_option linter.unusedVariables false
theorem ahG {p : PtD} {h : aah} {L : List UInt8} (e : ([84,65,66,76,70,83,78,85,77,69] : List Int).map (qw L) = [h.to,h.a,h.b,h.args,h.fr,h.sign,h.fn,h.st,h.mu,h.el]) : jf p L 10=zC p h:=by
 simp only [List.map_cons,List.map_nil,List.cons.injEq,and_true] at e
 obtain ⟨e0,e1,e2,e3,e4,e5,e6,e7,e8,e9⟩:=e
 exact ahE e0 e1 e2 e3 e4 e5 e6 e7 e8 e9
theorem xo {p : PtD} {f : aah} {has : List UInt8} {c : List Value} {w : World} {r : Gh} {K : Value→World→Prop} (e : ([84,65,66,76,70,83,78,85,77,69] : List Int).map (qw has) = [f.to,f.a,f.b,f.args,f.fr,f.sign,f.fn,f.st,f.mu,f.el]) (hh : has.length≤100) (hr : Holds r w) (hp : PtG r c p)
  (h : ∀ w',Ext w w'→K (.bool (zC p f)) w') : zd Tryz.prog Tryz.zN #[.agg c.toArray,.string (bs has)] w K:=by
 refine aeF hr hp hh fun w' e'=>?_
 rw [ahG e]
 exact h _ e'
theorem ai3 {s : ByteArray} {t1 t2 i x : Bool} : (yc s [[61,61],[33,61],[60],[60,61],[62],[62,61]]&&t2&&(i||((s.toList == [61,61]||s.toList == [33,61])&&x))) =
  (if yc s [[60],[60,61],[62],[62,61]]=true then t2&&i else if yc s [[61,61],[33,61]]=true then t2&&(i||x) else false):=by
 have hx : ∀ a b : List UInt8,a≠b→(s.toList == a)=true→(s.toList == b)=false:=fun a b hab h=>by
  rw [beq_iff_eq] at h
  rw [h]
  exact beq_eq_false_iff_ne.2 hab
 simp only [yc,List.any_cons,List.any_nil,Bool.or_false]
 by_cases h1 : (s.toList == [61,61])=true
 ·rw [hx _ [60] (by decide) h1,hx _ [60,61] (by decide) h1,hx _ [62] (by decide) h1,hx _ [62,61] (by decide) h1,h1]
  simp
 by_cases h2 : (s.toList == [33,61])=true
 ·rw [hx _ [60] (by decide) h2,hx _ [60,61] (by decide) h2,hx _ [62] (by decide) h2,hx _ [62,61] (by decide) h2,h2]
  simp
 rw [Bool.not_eq_true] at h1 h2
 rw [h1,h2]
 simp only [Bool.false_or,Bool.false_and,Bool.or_false,Bool.false_eq_true,if_false]
 by_cases h3 : ((s.toList == [60])||((s.toList == [60,61])||((s.toList == [62])||(s.toList == [62,61]))))=true
 ·rw [if_pos h3,h3,Bool.true_and]
 ·rw [if_neg h3]
  rw [Bool.not_eq_true] at h3
  rw [h3];rfl
theorem ajB {s : ByteArray} {b t1 a1 t2 a2 : Bool} : (b&&(((s.toList == [45]&&t1)&&a1)||((s.toList == [33]&&t2)&&a2)))=(b&&(if yc s [[45]]=true then t1&&a1 else if yc s [[33]]=true then t2&&a2 else false)):=by
 congr 1
 simp only [yc,List.any_cons,List.any_nil,Bool.or_false]
 by_cases h1 : (s.toList == [45])=true
 ·have h2 : (s.toList == [33])=false:=by
   rw [beq_iff_eq] at h1;rw [h1];rfl
  rw [if_pos h1,h1,h2];simp
 ·rw [if_neg h1]
  rw [Bool.not_eq_true] at h1
  rw [h1]
  by_cases h2 : (s.toList == [33])=true
  ·rw [if_pos h2,h2];simp
  ·rw [if_neg h2];rw [Bool.not_eq_true] at h2;rw [h2];simp
set_option maxHeartbeats 8000000 in
theorem adm {u : UnD} {g : GrD} {p : PtD} {bx : Nat} {c : List Value} {w : World} {r : Gh} {K : Value→World→Prop} (hr : Holds r w) (hx : AsP r bx u g) (hst : (zw u.ss).2=0) (hf : xx u.ss g.tys)
  (hfs : ∀ f ∈ u.fs,0≤f.pn∧f.pn<f.tys.length∧xx u.ss f.tys) (hp : PtG r c p)
  (h : ∀ w',Ext w w'→K (.bool (zP u g p)) w') : zd Tryz.prog Tryz.qi #[.pointer (some ⟨bx,0,none⟩),.agg c.toArray] w K:=by
 refine Tryz.QD ?_
 unfold Tryz.vV
 have hx0:=hx
 obtain ⟨p0,cap0,qf,capf,q1,c1,q2,c2,q3,c3,q4,c4,hB,hu,hg⟩:=hx
 obtain ⟨_,_,_,hE,_,_,hss,hsl,hfn⟩:=hu
 cases hE
 have hfl : u.fs.length≤9223372036854775807:=hfn.few
 obtain ⟨_,_,_,_,hE,_,_,_,hpts⟩:=hg
 cases hE
 have hpl : g.pts.length≤9223372036854775807:=hpts.few
 obtain ⟨z1,z2,z3,z4,z5,d1,d2,d3,d4,d5,rfl,hp0⟩:=yj hp
 obtain ⟨_,_,_,_,_,hE,k1,k2,k3,k4,k5⟩:=id hp0
 cases hE
 have hpto : PlG r [.int .i64 p.to.l,.slice z1 p.to.ps.length d1] p.to:=⟨_,rfl,k1⟩
 have hpfr : PlG r [.int .i64 p.fr.l,.slice z5 p.fr.ps.length d5] p.fr:=⟨_,rfl,k5⟩
 have hoa : OpG r [.int .u8 p.a.k,.int .i64 p.a.n,.int .i64 p.a.pl.l,.slice z2 p.a.pl.ps.length d2] p.a:=⟨_,rfl,k2⟩
 have hob : OpG r [.int .u8 p.b.k,.int .i64 p.b.n,.int .i64 p.b.pl.l,.slice z3 p.b.pl.ps.length d3] p.b:=⟨_,rfl,k3⟩
 have S:=St.start hr
 refine S.box fun b3 w1 S=>?_
 have S : StX noX w r w1 [.cell b3 (ptL p z1 z2 z3 z4 z5 d1 d2 d3 d4 d5) 44]:=S
 have ld : ∀ {q : Gh} {w9 : World} {L : List Asr} {i : Nat} {v : Value} [Le r q],StX noX w q w9 L→(asL u g p0 cap0 qf capf q1 c1 q2 c2 q3 c3 q4 c4)[i]? = some v→w9.cell? ⟨bx,i,none⟩=some v:=fun S hi=>by
  rw [(S.at hB).cell];exact hi
 refine gg_ ?_
 refine zp (ld (i:=9) S rfl) ?_
 refine gg_ ?_
 refine Zh (g:=decide (p.op=14)) (c:=decide (p.nx≠0)) (fun _ K2 hK2=>by refine gg_ ?_;exact hK2) (fun _ K2 hK2=>by refine gg_ ?_;exact hK2) ?_
 refine aca (g:=decide (p.op≠14)) (m:=decide (p.nx<0)) (c:=decide ((g.pts.length : Int)≤p.nx)) (fun K2 hK2=>by refine gg_ ?_;exact hK2) (fun K2 hK2=>by refine gg_ ?_;exact hK2) (fun K2 hK2=>by refine gg_ ?_;exact hK2) ?_
 have hbad : ((decide (p.tx<0)||(decide (p.op=14)&&decide (p.nx≠0)))||(decide (p.op≠14)&&(decide (p.nx<0)||decide ((g.pts.length : Int)≤p.nx)))) =
   ((decide (p.tx<0)||(!decide (p.op=14) && !XI g p.nx))||(decide (p.op=14) && !decide (p.nx=0))):=by
  have e1 : (!XI g p.nx)=(decide (p.nx<0)||decide ((g.pts.length : Int)≤p.nx)):=by
   rw [XI,Bool.not_and,← decide_not,← decide_not]
   congr 1<;>exact decide_eq_decide.2 (by omega)
  rw [e1,← decide_not,← decide_not]
  show ((decide (p.tx<0)||(decide (p.op=14)&&decide (¬ p.nx=0)))||(decide (¬ p.op=14)&&(decide (p.nx<0)||decide ((g.pts.length : Int)≤p.nx))))=_
  ac_rfl
 rw [hbad]
 refine c_b (fun hc=>?_) (fun hc=>?_)
 ·have:=h _ S.ext
  rw [zP,hc] at this
  exact this
 rw [zP,hc] at h
 simp only [Bool.not_false,Bool.true_and] at h
 clear hbad hc
 refine gg_ ?_
 refine S.ldN (b:=b3) ?_
 refine afX (p:=p.to) S.holds hx0 hst hf hpto fun tt qt ct w2 htt e2 ht2=>?_
 have S:=S.go e2
 refine gS_ ?_
 refine S.al fun b6 w3 S=>?_
 refine S.stB (b:=b6) fun w4 S=>?_
 refine gg_ ?_
 refine S.ldN (b:=b3) ?_
 refine vO (o:=p.a) S.holds hx0 hst hf hoa fun ta qa ca w5 hta e5 ht5=>?_
 have S:=S.go e5
 refine gS_ ?_
 refine S.al fun b8 w6 S=>?_
 refine S.stB (b:=b8) fun w7 S=>?_
 refine gg_ ?_
 refine S.ldN (b:=b3) ?_
 refine vO (o:=p.b) S.holds hx0 hst hf hob fun tb qb cb w8 htb e8 ht8=>?_
 have S:=S.go e8
 refine gS_ ?_
 refine S.al fun b10 w9 S=>?_
 refine S.stB (b:=b10) fun w10 S=>?_
 refine gg_ ?_
 refine S.ldN (b:=b3) ?_
 refine adl (p:=p.fr) S.holds hx0 hst hf hpfr fun tf how qr cr vg s w11 htf e11 n11 ht11 hhow hh8=>?_
 obtain ⟨S,dd,ad⟩:=S.tell e11 n11
 obtain ⟨vgp,vgc,rfl,_,_⟩:=hhow.shape
 refine gS_ ?_
 refine S.al fun b12 w12 S=>?_
 refine S.stB (b:=b12) fun w13 S=>?_
 have S : StX noX w (r.or s) w13 [.cell b12 (tyL tf qr cr) 57,.cell b10 (tyL tb qb cb) 57,.cell b8 (tyL ta qa ca) 57,.cell b6 (tyL tt qt ct) 57,.cell b3 (ptL p z1 z2 z3 z4 z5 d1 d2 d3 d4 d5) 44]:=S
 have hpr : PtG (r.or s) (ptL p z1 z2 z3 z4 z5 d1 d2 d3 d4 d5) p:=hp0.up
 have ht2 : TyG (r.or s) (tyV tt qt ct) tt:=ht2.up
 have ht5 : TyG (r.or s) (tyV ta qa ca) ta:=ht5.up
 have ht8 : TyG (r.or s) (tyV tb qb cb) tb:=ht8.up
 have ht11 : TyG (r.or s) (tyV tf qr cr) tf:=ht11.up
 have hhow : SlG 1 (r.or s) xM (.slice vgp how.length vgc) how:=hhow.cells
 have hBto : (zj u.ss g.tys p.to).2.2=true→isB (zj u.ss g.tys p.to).1=true:=fun ho=>(x7 hf ho).is hf.few
 have hBa : (zr u.ss g.tys p.a).2=true→isB (zr u.ss g.tys p.a).1=true:=abs hf
 have hBf : (zj u.ss g.tys p.fr).2.2=true→isB (zj u.ss g.tys p.fr).1=true:=fun ho=>(x7 hf ho).is hf.few
 have ali : ∀ {a b : TyD} {va vb : Value} {w9 : World} {L : List Asr} {K9 : Value→World→Prop},isB a=true→isB b=true→StX noX w (r.or s) w9 L→TyG (r.or s) va a→TyG (r.or s) vb b→(∀ w',Ext w9 w'→K9 (.bool (zI yf a b)) w')→zd Tryz.prog Tryz.yI #[va,vb] w9 K9:=fun ha hb S hva hvb hk=>by
  refine Q5 48 ha hb S.holds hva hvb fun w' e'=>?_
  have:=hk w' e'
  rw [zI,ha,hb] at this
  exact this
 refine gg_ ?_
 refine zh (fun hop=>?_) (fun hop=>?_)
 ·rw [ptG] at h
  simp only [hop,Int.reduceEq,if_false,if_true] at h
  refine S.ldB (b:=b3) ?_ rfl
  refine xo (f:={ to:=true,a:=true }) (by decide) (by decide) S.holds hpr fun w14 e14=>?_
  have S:=S.go e14
  refine zg (c:=(zj u.ss g.tys p.to).2.2&&decide ((zj u.ss g.tys p.to).2.1<3)) (fun _ K2 hK2=>hK2) ?_
  refine zg (c:=(zr u.ss g.tys p.a).2) (fun _ K2 hK2=>hK2) ?_
  refine zm (c:=zI yf (zr u.ss g.tys p.a).1 (zj u.ss g.tys p.to).1) (fun hb K2 hK2=>?_) fun w15 e15=>h _ (S.go e15).ext
  simp only [Bool.and_eq_true] at hb
  obtain rfl:=htt hb.1.2.1
  obtain rfl:=hta hb.2
  refine S.ldB (b:=b8) ?_ rfl
  refine S.ldB (b:=b6) ?_ rfl
  exact ali (hBa hb.2) (hBto hb.1.2.1) S ht5 ht2 fun w' e'=>hK2 _ e'
 refine gg_ ?_
 refine zh (fun hop=>?_) (fun hop=>?_)
 ·rw [ptG] at h
  simp only [hop,Int.reduceEq,if_false,if_true] at h
  refine S.ldB (b:=b3) ?_ rfl
  refine xo (f:={ to:=true,a:=true,b:=true,sign:=true }) (by decide) (by decide) S.holds hpr fun w14 e14=>?_
  have S:=S.go e14
  refine gg_ ?_
  refine zf (c:=!((zj u.ss g.tys p.to).2.2&&decide ((zj u.ss g.tys p.to).2.1<3))) (fun _ K2 hK2=>by refine gg_ ?_;exact hK2) ?_
  refine zf (c:=!(zr u.ss g.tys p.a).2) (fun _ K2 hK2=>by refine gg_ ?_;exact hK2) ?_
  refine zf (c:=!(zr u.ss g.tys p.b).2) (fun _ K2 hK2=>by refine gg_ ?_;exact hK2) ?_
  refine c_b (fun hc=>?_) (fun hc=>?_)
  ·rw [bb4 hc,Bool.false_and] at h
   exact h _ S.ext
  rw [aiO hc,Bool.true_and] at h
  simp only [Bool.or_eq_false_iff,Bool.not_eq_false',Bool.and_eq_true] at hc
  obtain ⟨⟨⟨_,hto,_⟩,ha2⟩,hb2⟩:=hc
  obtain rfl:=htt hto
  obtain rfl:=hta ha2
  obtain rfl:=htb hb2
  refine gg_ ?_
  refine aeE ?_
  refine c_b (fun hs=>?_) (fun hs=>?_)
  ·rw [if_pos hs] at h
   refine S.ldB (b:=b6) ?_ rfl
   refine zT S.holds fun w15 e15=>?_
   have S:=S.go e15
   refine zm (c:=isK (zr u.ss g.tys p.a).1 1) (fun _ K2 hK2=>?_) fun w16 e16=>?_
   ·refine S.ldB (b:=b8) ?_ rfl
    exact zT S.holds fun w' e'=>hK2 _ e'
   have S:=S.go e16
   refine zm (c:=isK (zr u.ss g.tys p.b).1 1) (fun _ K2 hK2=>?_) fun w17 e17=>?_
   ·refine S.ldB (b:=b10) ?_ rfl
    exact zT S.holds fun w' e'=>hK2 _ e'
   have:=h _ (S.go e17).ext
   rw [← Bool.and_assoc] at this
   exact this
  rw [if_neg (by rw [hs];decide)] at h
  refine S.ldB (b:=b8) ?_ rfl
  refine zT S.holds fun w15 e15=>?_
  have S:=S.go e15
  refine zm (c:=isK (zr u.ss g.tys p.b).1 1) (fun _ K2 hK2=>?_) fun w16 e16=>?_
  ·refine S.ldB (b:=b10) ?_ rfl
   exact zT S.holds fun w' e'=>hK2 _ e'
  have S:=S.go e16
  refine ai2 (e:=p.sign.toList == [61,61]) (n:=p.sign.toList == [33,61]) (x:=isK (zr u.ss g.tys p.a).1 2) (y:=isK (zr u.ss g.tys p.b).1 2) (fun K2 hK2=>?_) (fun K2 w1 e1 hK2=>?_) (fun K2 w1 e1 hK2=>?_) (fun K2 w1 e1 hK2=>?_) fun w17 e17=>?_
  ·refine gg_ ?_
   exact hK2 _ (Ext.refl _)
  ·have S:=S.go e1
   refine gg_ ?_
   exact hK2 _ (by first|exact e1|exact Ext.refl _)
  ·have S:=S.go e1
   refine S.ldB (b:=b8) ?_ rfl
   exact zT S.holds fun w' e'=>hK2 _ (e1.trans e')
  ·have S:=S.go e1
   refine S.ldB (b:=b10) ?_ rfl
   exact zT S.holds fun w' e'=>hK2 _ (e1.trans e')
  have S:=S.go e17
  refine gg_ ?_
  refine acd ?_
  refine zm (c:=isK (zj u.ss g.tys p.to).1 2) (fun _ K2 hK2=>?_) fun w18 e18=>?_
  ·refine S.ldB (b:=b6) ?_ rfl
   exact zT S.holds fun w' e'=>hK2 _ e'
  have S:=S.go e18
  refine zg (c:=(isK (zr u.ss g.tys p.a).1 1&&isK (zr u.ss g.tys p.b).1 1)||(((p.sign.toList == [61,61]||p.sign.toList == [33,61])&&isK (zr u.ss g.tys p.a).1 2)&&isK (zr u.ss g.tys p.b).1 2)) (fun _ K2 hK2=>hK2) ?_
  have:=h _ S.ext
  rw [← ai3 (t1:=true),← Bool.and_assoc ((p.sign.toList == [61,61])||(p.sign.toList == [33,61]))] at this
  exact this
 refine gg_ ?_
 refine zh (fun hop=>?_) (fun hop=>?_)
 ·rw [ptG] at h
  simp only [hop,Int.reduceEq,if_false,if_true] at h
  refine S.ldB (b:=b3) ?_ rfl
  refine xo (f:={ to:=true,a:=true,sign:=true }) (by decide) (by decide) S.holds hpr fun w14 e14=>?_
  have S:=S.go e14
  refine zg (c:=(zj u.ss g.tys p.to).2.2&&decide ((zj u.ss g.tys p.to).2.1<3)) (fun _ K2 hK2=>hK2) ?_
  refine zg (c:=(zr u.ss g.tys p.a).2) (fun _ K2 hK2=>hK2) ?_
  rw [← ajB] at h
  cases hb : ((zC p { to:=true,a:=true,sign:=true } && ((zj u.ss g.tys p.to).2.2&&decide ((zj u.ss g.tys p.to).2.1<3)))&&(zr u.ss g.tys p.a).2) with
  |false=>
   rw [hb,Bool.false_and] at h
   (intro K9 hK9;refine gd_ ?_;refine hK9 _ _ fun _=>?_;clear hK9 K9)
   (intro K9 hK9;refine gd_ ?_;refine hK9 _ _ fun _=>?_;clear hK9 K9)
   (intro K9 hK9;refine gd_ ?_;refine hK9 _ _ fun _=>?_;clear hK9 K9)
   (intro K9 hK9;refine gd_ ?_;refine hK9 _ _ fun _=>?_;clear hK9 K9)
   (intro K9 hK9;refine gd_ ?_;refine hK9 _ _ fun _=>?_;clear hK9 K9)
   (intro K9 hK9;refine gd_ ?_;refine hK9 _ _ fun _=>?_;clear hK9 K9)
   (intro K9 hK9;refine gd_ ?_;refine hK9 _ _ fun _=>?_;clear hK9 K9)
   (intro K9 hK9;refine gd_ ?_;refine hK9 _ _ fun _=>?_;clear hK9 K9)
   (intro K9 hK9;refine gd_ ?_;refine hK9 _ _ fun _=>?_;clear hK9 K9)
   (intro K9 hK9;refine gd_ ?_;refine hK9 _ _ fun _=>?_;clear hK9 K9)
   (intro K9 hK9;refine gd_ ?_;refine hK9 _ _ fun _=>?_;clear hK9 K9)
   refine gd_ ?_
   exact h _ S.ext
  |true=>
   rw [hb] at h
   simp only [Bool.and_eq_true] at hb
   obtain rfl:=htt hb.1.2.1
   obtain rfl:=hta hb.2
   refine aij (m:=p.sign.toList == [45]) (x:=isK (zj u.ss g.tys p.to).1 1) (y:=isK (zr u.ss g.tys p.a).1 1) (o:=p.sign.toList == [33]) (u:=isK (zj u.ss g.tys p.to).1 2) (v:=isK (zr u.ss g.tys p.a).1 2) (fun K2 hK2=>?_) (fun K2 w1 e1 hK2=>?_) (fun K2 w1 e1 hK2=>?_) (fun K2 w1 e1 hK2=>?_) (fun K2 w1 e1 hK2=>?_) (fun K2 w1 e1 hK2=>?_) fun w17 e17=>h _ (S.go e17).ext
   ·refine gg_ ?_
    exact hK2 _ (Ext.refl _)
   ·have S:=S.go e1
    refine S.ldB (b:=b6) ?_ rfl
    exact zT S.holds fun w' e'=>hK2 _ (e1.trans e')
   ·have S:=S.go e1
    refine S.ldB (b:=b8) ?_ rfl
    exact zT S.holds fun w' e'=>hK2 _ (e1.trans e')
   ·have S:=S.go e1
    refine gg_ ?_
    exact hK2 _ (by first|exact e1|exact Ext.refl _)
   ·have S:=S.go e1
    refine S.ldB (b:=b6) ?_ rfl
    exact zT S.holds fun w' e'=>hK2 _ (e1.trans e')
   ·have S:=S.go e1
    refine S.ldB (b:=b8) ?_ rfl
    exact zT S.holds fun w' e'=>hK2 _ (e1.trans e')
 have h8 : ∀ k,(ze u.ss k).length≤8:=xT (xF hst).2.1
 have h32:=hf.few
 have inn : ∀ {t : TyD} {q : Option Addr} {cap : Nat},TyG (r.or s) (tyV t q cap) t→(∃ k,t.k=k∧(k=3∨k=4))→Fine u.ss t→∃ uu bo oo q2 cap2,t.of = [uu]∧q=some ⟨bo,oo,none⟩∧isB uu=true∧TyG (r.or s) (tyV uu q2 cap2) uu∧∀ j v,(tyL uu q2 cap2)[j]? = some v→Ob (r.or s) fun w=>w.cell? ⟨bo,oo+j,none⟩=some v:=fun ht hk hfi=>by
  obtain ⟨k,hk1,hk2⟩:=hk
  rcases hfi.cases with ⟨_,h1⟩|⟨uu,h1,h2,_⟩
  ·omega
  ·obtain ⟨bo,oo,q2,cap2,rfl,ht2,hcc⟩:=Zr ht h1
   exact ⟨uu,bo,oo,q2,cap2,h1,rfl,h2.is h32,ht2,hcc⟩
 refine gg_ ?_
 refine zh (fun hop=>?_) (fun hop=>?_)
 ·rw [ptG] at h
  simp only [hop,Int.reduceEq,if_false,if_true] at h
  have S:=S.go (Ext.drew _)
  refine S.ldB (b:=b3) ?_ rfl
  refine xo (f:={ to:=true,fr:=true,mu:=true }) (by decide) (by decide) S.holds hpr fun w14 e14=>?_
  have S:=S.go e14
  refine zg (c:=(zj u.ss g.tys p.to).2.2&&decide ((zj u.ss g.tys p.to).2.1<3)) (fun _ K2 hK2=>hK2) ?_
  refine zg (c:=(zj u.ss g.tys p.fr).2.2) (fun _ K2 hK2=>hK2) ?_
  refine zm (c:=isK (zj u.ss g.tys p.to).1 4) (fun hb K2 hK2=>?_) fun w15 e15=>?_
  ·simp only [Bool.and_eq_true] at hb
   obtain rfl:=htt hb.1.2.1
   refine S.ldB (b:=b6) ?_ rfl
   exact zT S.holds fun w' e'=>hK2 _ e'
  have S:=S.go e15
  refine zg (c:=(zj u.ss g.tys p.to).1.m == p.mu) (fun hb K2 hK2=>?_) ?_
  ·simp only [Bool.and_eq_true] at hb
   obtain rfl:=htt hb.1.1.2.1
   refine gg_ ?_
   exact hK2
  refine zm (c:=zI yf ((zj u.ss g.tys p.to).1.of.headD zD) (zj u.ss g.tys p.fr).1) (fun hb K2 hK2=>?_) fun w16 e16=>?_
  ·simp only [Bool.and_eq_true] at hb
   have hto:=hb.1.1.1.2.1
   have hfr:=hb.1.1.2
   have hk4 : (zj u.ss g.tys p.to).1.k=4:=by have:=hb.1.2;simpa [isK] using this
   obtain rfl:=htt hto
   have hff:=htf hfr
   have htfe : (zj u.ss g.tys p.fr).1=tf:=by rw [hff]
   have hBf:=hBf hfr
   rw [htfe] at hBf hK2
   obtain ⟨uu,bo,oo,q2,cap2,hof,rfl,hBu,htu,hcc⟩:=inn ht2 ⟨_,hk4,.inr rfl⟩ (x7 hf hto)
   rw [hof] at hK2
   have hl1 : (zj u.ss g.tys p.to).1.of.length=1:=by rw [hof];rfl
   refine gg_ ?_
   refine zq (n:=5) (c:=tyL uu q2 cap2) rfl (fun j v hj=>by simpa using S.at (hcc j v hj)) ?_
   refine S.ldB (b:=b12) ?_ rfl
   exact ali hBu hBf S htu ht11 fun w' e'=>hK2 _ e'
  have S:=S.go e16
  refine afs (m:=!p.mu) (x:=decide (yD 0 how<3)) (fun K2 hK2=>by refine gg_ ?_;exact hK2) (fun _ K2 hK2=>?_) fun w17 e17=>?_
  ·refine vM S.holds hhow (by omega) fun w7 e7=>?_
   refine gp_ ?_
   exact hK2 _ e7
  have:=h _ (S.go e17).ext
  rw [Bool.beq_eq_decide_eq,Bool.and_assoc]
  cases hfr : (zj u.ss g.tys p.fr).2.2 with
  |false=>
   rw [hfr] at this
   simp only [Bool.and_false,Bool.false_and] at this ⊢
   exact this
  |true=>
   have hm3:=agN hst hf hfr
   have hff:=htf hfr
   have e1 : (zj u.ss g.tys p.fr).2.1=yD 0 how:=by rw [hff]
   rw [e1] at hm3
   rw [hfr,e1] at this
   have e2 : (!(p.mu&&decide (yD 0 how=3)))=(!p.mu||decide (yD 0 how<3)):=by
    rw [Bool.not_and,← decide_not]
    congr 1
    exact decide_eq_decide.2 (by omega)
   rw [e2] at this
   exact this
 refine gg_ ?_
 refine zh (fun hop=>?_) (fun hop=>?_)
 ·rw [ptG] at h
  simp only [hop,Int.reduceEq,if_false,if_true] at h
  have S:=S.go (Ext.drew _)
  refine S.ldB (b:=b3) ?_ rfl
  refine xo (f:={ to:=true,a:=true }) (by decide) (by decide) S.holds hpr fun w14 e14=>?_
  have S:=S.go e14
  refine zg (c:=(zj u.ss g.tys p.to).2.2&&decide ((zj u.ss g.tys p.to).2.1<3)) (fun _ K2 hK2=>hK2) ?_
  refine zg (c:=(zr u.ss g.tys p.a).2) (fun _ K2 hK2=>hK2) ?_
  refine zm (c:=isK (zj u.ss g.tys p.to).1 3) (fun hb K2 hK2=>?_) fun w15 e15=>?_
  ·simp only [Bool.and_eq_true] at hb
   obtain rfl:=htt hb.1.2.1
   refine S.ldB (b:=b6) ?_ rfl
   exact zT S.holds fun w' e'=>hK2 _ e'
  have S:=S.go e15
  refine zm (c:=zI yf ((zj u.ss g.tys p.to).1.of.headD zD) (zr u.ss g.tys p.a).1) (fun hb K2 hK2=>?_) fun w16 e16=>h _ (S.go e16).ext
  simp only [Bool.and_eq_true] at hb
  have hto:=hb.1.1.2.1
  have ha2:=hb.1.2
  have hk3 : (zj u.ss g.tys p.to).1.k=3:=by have:=hb.2;simpa [isK] using this
  obtain rfl:=htt hto
  obtain rfl:=hta ha2
  obtain ⟨uu,bo,oo,q2,cap2,hof,rfl,hBu,htu,hcc⟩:=inn ht2 ⟨_,hk3,.inl rfl⟩ (x7 hf hto)
  rw [hof] at hK2
  have hl1 : (zj u.ss g.tys p.to).1.of.length=1:=by rw [hof];rfl
  refine gg_ ?_
  refine zq (n:=5) (c:=tyL uu q2 cap2) rfl (fun j v hj=>by simpa using S.at (hcc j v hj)) ?_
  refine S.ldB (b:=b8) ?_ rfl
  exact ali hBu (hBa ha2) S htu ht5 fun w' e'=>hK2 _ e'
 refine gg_ ?_
 refine zh (fun hop=>?_) (fun hop=>?_)
 ·rw [ptG] at h
  simp only [hop,Int.reduceEq,if_false,if_true] at h
  refine S.ldB (b:=b3) ?_ rfl
  refine xo (f:={ to:=true,args:=true,st:=true }) (by decide) (by decide) S.holds hpr fun w14 e14=>?_
  have S:=S.go e14
  refine gg_ ?_
  refine zf (c:=!((zj u.ss g.tys p.to).2.2&&decide ((zj u.ss g.tys p.to).2.1<3))) (fun _ K2 hK2=>by refine gg_ ?_;exact hK2) ?_
  refine ym (c:=!isK (zj u.ss g.tys p.to).1 5) (fun hb K2 hK2=>?_) fun w15 e15=>?_
  ·simp only [Bool.or_eq_false_iff,Bool.not_eq_false',Bool.and_eq_true] at hb
   obtain rfl:=htt hb.2.1
   refine S.ldB (b:=b6) ?_ rfl
   refine zT S.holds fun w' e'=>?_
   refine gp_ ?_
   exact hK2 _ e'
  have S:=S.go e15
  refine zf (c:=decide ((zj u.ss g.tys p.to).1.st≠p.st)) (fun hb K2 hK2=>?_) ?_
  ·simp only [Bool.or_eq_false_iff,Bool.not_eq_false',Bool.and_eq_true] at hb
   obtain rfl:=htt hb.1.2.1
   refine gg_ ?_
   exact hK2
  refine c_b (fun hc=>?_) (fun hc=>?_)
  ·rw [bb3 hc,Bool.false_and] at h
   exact h _ S.ext
  rw [aiP hc,Bool.true_and] at h
  simp only [Bool.or_eq_false_iff,Bool.not_eq_false',Bool.and_eq_true,decide_eq_false_iff_not] at hc
  obtain ⟨⟨⟨_,hto,_⟩,hk5⟩,hste⟩:=hc
  obtain rfl:=htt hto
  have S:=S.go (Ext.drew _)
  refine gg_ ?_
  refine zp (ld (i:=0) S rfl) ?_
  refine S.ldB (b:=b6) ?_ rfl
  refine abT S.holds hss.up (by omega) (fun k=>by have:=h8 k;omega) ht2 fun qx cx sn w16 e16 n16 hts=>?_
  obtain ⟨S,_,_⟩:=S.tell e16 n16
  refine gS_ ?_
  refine gg_ ?_
  have hfb : ∀ t ∈ (yi u.ss (zj u.ss g.tys p.to).1).1,isB t=true:=fun t ht=>by
   rw [yi] at ht
   split at ht
   ·exact Fine.is (ss:=u.ss) (hf.good _ t ht) h32
   ·cases ht
  have hfl8 : (yi u.ss (zj u.ss g.tys p.to).1).1.length≤8:=by
   rw [yi]
   split
   ·exact h8 _
   ·simp
  refine J9 (l:=p.args) S.holds hx0.up hst hf (k4.sl.up' inferInstance fun c x hx=>OpG.up hx) k4.few (TysG.up hts) (by simp only [maxLen];omega) hfb fun w17 e17=>?_
  exact h _ (S.go e17).ext
 refine gg_ ?_
 refine zh (fun hop=>?_) (fun hop=>?_)
 ·rw [ptG] at h
  simp only [hop,Int.reduceEq,if_false,if_true] at h
  have S:=S.go (Ext.drew _)
  refine S.ldB (b:=b3) ?_ rfl
  refine xo (f:={ to:=true,args:=true,fn:=true }) (by decide) (by decide) S.holds hpr fun w14 e14=>?_
  have S:=S.go e14
  refine gg_ ?_
  refine zf (c:=!((zj u.ss g.tys p.to).2.2&&decide ((zj u.ss g.tys p.to).2.1<3))) (fun _ K2 hK2=>by refine gg_ ?_;exact hK2) ?_
  refine zf (c:=decide (p.fn<0)) (fun _ K2 hK2=>by refine gg_ ?_;exact hK2) ?_
  refine zf (c:=decide ((u.fs.length : Int)≤p.fn)) (fun _ K2 hK2=>?_) ?_
  ·refine gg_ ?_
   refine zp (ld (i:=1) S rfl) ?_
   refine gg_ ?_
   exact hK2
  refine c_b (fun hc=>?_) (fun hc=>?_)
  ·rw [bb5 hc,Bool.false_and] at h
   exact h _ S.ext
  rw [aiQ hc,Bool.true_and] at h
  simp only [Bool.or_eq_false_iff,Bool.not_eq_false',Bool.and_eq_true,decide_eq_false_iff_not] at hc
  obtain ⟨⟨⟨_,hto,_⟩,hfn0⟩,hfn1⟩:=hc
  obtain rfl:=htt hto
  have hltf : p.fn.toNat<u.fs.length:=by omega
  rw [List.getElem?_eq_getElem hltf] at h
  dsimp only at h
  obtain ⟨hpn0,hpn1,hff⟩:=hfs _ (List.getElem_mem hltf)
  obtain ⟨bf,of,cf,rfl,hcf,hgc,hfo⟩:=hfn.sl.get (by decide) hltf
  generalize u.fs[p.fn.toNat]=f at h hpn0 hpn1 hff hgc
  obtain ⟨vo,vt,vn,vp,rfl,m1,m2,m3,m4⟩:=hgc
  obtain ⟨qo,capo,rfl,_,_⟩:=m1.sl.shape
  obtain ⟨qt2,capt2,rfl,_,hct2⟩:=m2.sl.shape
  obtain ⟨qn,capn,rfl,_,_⟩:=m3.sl.shape
  obtain ⟨qp,capp,rfl,_,_⟩:=m4.sl.shape
  have hml:=m2.few
  have hml' : f.tys.length≤9223372036854775807:=hml
  have S:=S.go (Ext.drew _)
  refine gg_ ?_
  refine zp (ld (i:=1) S rfl) ?_
  refine gg_ ?_
  refine zq (n:=7) hcf (fun j v hj=>S.at (hfo j v hj)) ?_
  refine S.alU fun b18 w15 S=>?_
  refine S.stB (b:=b18) fun w16 S=>?_
  have S:=S.go (Ext.drew _)
  refine gg_ ?_
  have hlen : (f.pn+1).toNat - (1 : Int).toNat=((f.tys.drop 1).take f.pn.toNat).length:=by rw [List.length_take,List.length_drop];omega
  rw [hlen]
  have hsub:=(Qe m2.sl).sub (a:=(1 : Int).toNat) (n:=f.pn.toNat) (cap:=capt2) hct2
  have hlst : (f.tys.drop (1 : Int).toNat).take f.pn.toNat=(f.tys.drop 1).take f.pn.toNat:=rfl
  rw [hlst] at hsub
  generalize (if capt2=(1 : Int).toNat then qt2 else qt2.map (·.add ((1 : Int).toNat*5)))=qs2 at hsub ⊢
  have hpb : ∀ t ∈ (f.tys.drop 1).take f.pn.toNat,isB t=true:=fun t ht=>(hff.all t (List.mem_of_mem_drop (List.mem_of_mem_take ht))).is h32
  refine J9 (l:=p.args) S.holds hx0.up hst hf (k4.sl.up' inferInstance fun c x hx=>OpG.up hx) k4.few (TysG.up hsub) (by rw [List.length_take,List.length_drop];omega) hpb fun w17 e17=>?_
  have S:=S.go e17
  have hpos : 0<f.tys.length:=by omega
  have hhd : f.tys.headD zD=f.tys[0]:=by rw [List.headD_eq_head?_getD,List.head?_eq_getElem?,List.getElem?_eq_getElem hpos,Option.getD_some]
  rw [hhd] at h
  refine zm (c:=zI yf (zj u.ss g.tys p.to).1 f.tys[0]) (fun _ K2 hK2=>?_) fun w18 e18=>?_
  ·obtain ⟨bt,ot,ct3,rfl,hct3,htc,hto3⟩:=Qe m2.sl 0 hpos
   obtain ⟨q9,cap9,rfl,ht9⟩:=y6 hto3
   refine S.ldB (b:=b6) ?_ rfl
   refine gg_ ?_
   refine zq (n:=5) hct3 (fun j v hj=>by simpa using S.at (htc j v hj)) ?_
   exact ali (hBto hto) ((hff.all _ (List.getElem_mem hpos)).is h32) S ht2 ht9.up fun w' e'=>hK2 _ e'
  have:=h _ (S.go e18).ext
  rw [Bool.and_comm] at this
  exact this
 refine gg_ ?_
 refine zh (fun hop=>?_) (fun hop=>?_)
 ·rw [ptG] at h
  simp only [hop,Int.reduceEq,if_false,if_true] at h
  refine S.ldB (b:=b3) ?_ rfl
  refine xo (f:={ to:=true }) (by decide) (by decide) S.holds hpr fun w14 e14=>?_
  have S:=S.go e14
  refine zg (c:=(zj u.ss g.tys p.to).2.2&&decide ((zj u.ss g.tys p.to).2.1<3)) (fun _ K2 hK2=>hK2) ?_
  refine zm (c:=isK (zj u.ss g.tys p.to).1 1) (fun hb K2 hK2=>?_) fun w15 e15=>h _ (S.go e15).ext
  simp only [Bool.and_eq_true] at hb
  obtain rfl:=htt hb.2.1
  refine S.ldB (b:=b6) ?_ rfl
  exact zT S.holds fun w' e'=>hK2 _ e'
 refine gg_ ?_
 refine zh (fun hop=>?_) (fun hop=>?_)
 ·rw [ptG] at h
  simp only [hop,Int.reduceEq,if_false,if_true] at h
  refine S.ldB (b:=b3) ?_ rfl
  refine xo (f:={ a:=true }) (by decide) (by decide) S.holds hpr fun w14 e14=>?_
  have S:=S.go e14
  refine zg (c:=(zr u.ss g.tys p.a).2) (fun _ K2 hK2=>hK2) ?_
  refine zm (c:=isK (zr u.ss g.tys p.a).1 1) (fun hb K2 hK2=>?_) fun w15 e15=>h _ (S.go e15).ext
  simp only [Bool.and_eq_true] at hb
  obtain rfl:=hta hb.2
  refine S.ldB (b:=b8) ?_ rfl
  exact zT S.holds fun w' e'=>hK2 _ e'
 refine gg_ ?_
 refine zh (fun hop=>?_) (fun hop=>?_)
 ·rw [ptG] at h
  simp only [hop,Int.reduceEq,if_false,if_true] at h
  have S:=S.go (Ext.drew _)
  refine gg_ ?_
  refine zp (ld (i:=0) S rfl) ?_
  refine S.ldB (b:=b12) ?_ rfl
  refine acW S.holds hss.up (by omega) (fun k=>by have:=h8 k;omega) ht11 fun w14 e14=>?_
  have S:=S.go e14
  refine gS_ ?_
  refine S.ldB (b:=b3) ?_ rfl
  refine xo (f:={ fr:=true }) (by decide) (by decide) S.holds hpr fun w15 e15=>?_
  have S:=S.go e15
  refine zg (c:=(zj u.ss g.tys p.fr).2.2) (fun _ K2 hK2=>hK2) ?_
  refine zg (c:=(k0 u.ss tf).1) (fun _ K2 hK2=>hK2) ?_
  refine zm (c:=decide (yD 0 how<2)) (fun _ K2 hK2=>?_) fun w16 e16=>?_
  ·refine vM S.holds hhow (by omega) fun w7 e7=>?_
   refine gp_ ?_
   exact hK2 _ e7
  have:=h _ (S.go e16).ext
  cases hfr : (zj u.ss g.tys p.fr).2.2 with
  |false=>
   rw [hfr] at this
   simp only [Bool.and_false,Bool.false_and] at this ⊢
   exact this
  |true=>
   rw [htf hfr] at this
   exact this
 refine gg_ ?_
 refine zh (fun hop=>?_) (fun hop=>?_)
 ·rw [ptG] at h
  simp only [hop,Int.reduceEq,if_false,if_true] at h
  refine S.ldB (b:=b3) ?_ rfl
  refine xo (f:={ fr:=true }) (by decide) (by decide) S.holds hpr fun w14 e14=>?_
  have S:=S.go e14
  refine zg (c:=(zj u.ss g.tys p.fr).2.2) (fun _ K2 hK2=>hK2) ?_
  refine zg (c:=decide (0<p.fr.l)) (fun _ K2 hK2=>by refine gg_ ?_;exact hK2) ?_
  refine zg (c:=decide (p.fr.ps.length=0)) (fun _ K2 hK2=>?_) (h _ S.ext)
  refine gg_ ?_
  rw [decide_eq_decide.2 (kO p.fr.ps.length)]
  exact hK2
 refine gg_ ?_
 refine zh (fun hop=>?_) (fun hop=>?_)
 ·rw [ptG] at h
  simp only [hop,Int.reduceEq,if_false,if_true] at h
  refine S.ldB (b:=b3) ?_ rfl
  refine xo (f:={ a:=true,el:=true }) (by decide) (by decide) S.holds hpr fun w14 e14=>?_
  have S:=S.go e14
  refine zg (c:=(zr u.ss g.tys p.a).2) (fun _ K2 hK2=>hK2) ?_
  refine zm (c:=isK (zr u.ss g.tys p.a).1 2) (fun hb K2 hK2=>?_) fun w15 e15=>?_
  ·simp only [Bool.and_eq_true] at hb
   obtain rfl:=hta hb.2
   refine S.ldB (b:=b8) ?_ rfl
   exact zT S.holds fun w' e'=>hK2 _ e'
  have S:=S.go e15
  refine zg (c:=decide (0≤p.el)) (fun _ K2 hK2=>by refine gg_ ?_;exact hK2) ?_
  refine zg (c:=decide (p.el<(g.pts.length : Int))) (fun _ K2 hK2=>by refine gg_ ?_;exact hK2) ?_
  have:=h _ S.ext
  rw [XI,← Bool.and_assoc] at this
  exact this
 intro K11 hK11
 refine gg_ ?_
 refine kK (c:=decide (p.op=14)) (hK11 _ _ fun _=>?_) fun _ hk=>?_
 rotate_left
 ·refine gg_ ?_;exact hk
 simp only [List.getD_cons_zero]
 rw [ptG] at h
 rw [if_neg (by omega),if_neg (by omega),if_neg (by omega),if_neg (by omega),if_neg (by omega),if_neg (by omega),if_neg (by omega),if_neg (by omega),if_neg (by omega),if_neg (by omega),if_neg (by omega),if_neg (by omega)] at h
 refine c_b (fun hh=>?_) (fun hh=>?_)
 ·have hh : p.op=13∨p.op=14:=by simpa using hh
  rw [if_pos hh] at h
  refine S.ldB (b:=b3) ?_ rfl
  refine xo (f:={}) (by decide) (by decide) S.holds hpr fun w14 e14=>?_
  exact h _ (S.go e14).ext
 ·have hh : ¬ (p.op=13∨p.op=14):=by simpa using hh
  rw [if_neg hh] at h
  exact h _ S.ext
end Go.Proofs
end
