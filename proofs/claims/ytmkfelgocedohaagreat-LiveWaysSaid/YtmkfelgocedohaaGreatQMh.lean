/-
  Shallow readings of functions. Made by a program (wip/gen/gen.py) out of the translation; the kernel checks each equality.
  A condition of the kind 'b, or c and d'.
  Contracts of loanwordref14: deref, Used, Ends, less.
  Contracts of loanwordref01: May, List.
  Contract of loanwordref14: Rows.
  Contract of loanwordref14: Why.
  Contracts: the example of law 14.
  Contracts of loanwordlaw14: fits, same, inside; live.Of once more, of what stays.
  Plain: rows of one's own are closed; what is told of the example of law 14.
  Contract of loanwordlaw14: awake.
  Contract of loanwordlaw14: LiveWays.
-/
import Derived.Test.YtmkfelgocedohaaGreatQMf
import Derived.Test.YtmkfelgocedohaaGreatQMc
import Derived.Test.YtmkfelgocedohaaGreatQMb
import Derived.Test.YtmkfelgocedohaaGreatQMg
import Derived.Test.YtmkfelgocedohaaGreatQMd
section
namespace Go.Proofs.Tryz
open Go.Sh
set_option maxRecDepth 100000
def QT (t0 : Value) (w : World) (K : VW) : Prop:=
 pw w (Instr.box 81 t0) fun t1 w1=>
 zo [(i6 0)] w1 (fun s3 _d4 w5 K2=>
 fl w5 t1 81 1 79 fun t6=>pp (Builtin.len_ #[79] 3 #[t6]) fun t7=>bf .lss 3 (s3.getD 0 undef) t7 fun t8=>zc t8 (fl w5 t1 81 1 79 fun t12=>xl w5 79 t12 (s3.getD 0 undef) 153 fun t15=>bt .eql 153 t15 (i6 (-1)) fun t16=>zc t16 (K tr_ w5) (bt .add 3 (s3.getD 0 undef) (i6 1) fun t10=>K2 [t10] w5)) (K fa_ w5))
theorem acS {t0 : Value} {w : World} {K : VW} (h : QT t0 w K) : zd prog ZP #[t0] w K:=
 okC false (.s (.r (rz 2 0 2)) (.s (.s (.r (rz 1 0 0)) (.b (.lp [3] (.s (.s (.r (rz 5 0 16)) (.c (.n) (.n))) (.s (.b (.s (.r (rz 6 0 260)) (.c (.s (.r (rz 1 0 0)) (.n)) (.n)))) (.r (rz 3 0 0))))))) (.s (.r (rz 1 0 0)) (.n)))) func83 rfl (by kernel_rfl) (by kernel_rfl) h
def J4 (t0 t1 : Value) (w : World) (K : VW) : Prop:=
 pw w (Instr.box 87 t0) fun t2 w1=>
 lo w1 87 t2 fun t7=>ca jB #[t7] w1 fun t8 w2=>
 zo [(i6 0)] w2 (fun s4 _d5 w6 K3=>
 pp (Builtin.len_ #[85] 3 #[t8]) fun t11=>bf .lss 3 (s4.getD 0 undef) t11 fun t12=>zc t12 (px 85 t8 (s4.getD 0 undef) fun t17=>fl w6 t17 84 0 82 fun t19=>bt .eql 82 t19 (Value.int .u8 3) fun t20=>za (fun K7=>gIf t20 false (px 85 t8 (s4.getD 0 undef) fun t24=>fl w6 t24 84 0 82 fun t26=>bt .eql 82 t26 (Value.int .u8 4) fun t27=>K7 [t27] w6) (K7 [undef] w6)) (fun s8 _d9 w10=>
 zb t20 tr_ (s8.getD 0 undef) fun t28=>za (fun K11=>gIf t28 true (px 85 t8 (s4.getD 0 undef) fun t32=>pf 84 t32 2 fun t33=>fl w10 t33 81 0 3 fun t35=>bf .eql 3 t35 t1 fun t37=>K11 [t37] w10) (K11 [undef] w10)) (fun s12 _d13 w14=>
 zb t28 (s12.getD 0 undef) fa_ fun t38=>zc t38 (K tr_ w14) (bt .add 3 (s4.getD 0 undef) (i6 1) fun t14=>K3 [t14] w14)))) (fl w6 t2 87 0 78 fun t40=>bt .eql 78 t40 (Value.int .u8 4) fun t41=>za (fun K15=>gIf t41 true (pf 87 t2 6 fun t43=>fl w6 t43 81 0 3 fun t45=>bf .eql 3 t45 t1 fun t47=>K15 [t47] w6) (K15 [undef] w6)) (fun s16 _d17 w18=>
 zb t41 (s16.getD 0 undef) fa_ fun t48=>za (fun K19=>gIf t48 false (fl w18 t2 87 0 78 fun t51=>bt .eql 78 t51 (Value.int .u8 14) fun t52=>K19 [t52] w18) (K19 [undef] w18)) (fun s20 _d21 w22=>
 za (fun K23=>gIf (s20.getD 0 undef) true (bt .eql 3 t1 (i6 0) fun t55=>K23 [t55] w22) (K23 [undef] w22)) (fun s24 _d25 w26=>
 za (fun K27=>gIf t48 false (zb (s20.getD 0 undef) (s24.getD 0 undef) fa_ fun t56=>K27 [t56] w26) (K27 [undef] w26)) (fun s28 _d29 w30=>
 zb t48 tr_ (s28.getD 0 undef) fun t57=>zc t57 (K tr_ w30) (lo w30 87 t2 fun t58=>ca qh #[t58] w30 fun t59 w31=>
 za (fun K32=>gIf t59 true (fl w31 t2 87 1 81 fun t62=>ca ZP #[t62] w31 fun t63 w36=>
 K32 [t63] w36) (K32 [undef] w31)) (fun s33 _d34 w35=>
 zb t59 (s33.getD 0 undef) fa_ fun t64=>za (fun K37=>gIf t64 true (pf 87 t2 1 fun t66=>fl w35 t66 81 0 3 fun t68=>bf .eql 3 t68 t1 fun t70=>K37 [t70] w35) (K37 [undef] w35)) (fun s38 _d39 w40=>
 zb t64 (s38.getD 0 undef) fa_ fun t71=>K t71 w40)))))))))
theorem aea {t0 t1 : Value} {w : World} {K : VW} (h : J4 t0 t1 w K) : zd prog qD #[t0,t1] w K:=
 okC false (.s (.r (rz 2 0 2)) (.s (.r (rz 3 0 9)) (.s (.s (.r (rz 1 0 0)) (.b (.lp [6] (.s (.s (.r (rz 4 0 0)) (.c (.n) (.n))) (.s (.b (.s (.r (ra 7 0 256 (.grp 21 false (ri 6 7 256) [27] (ra 2 13 0 (.grp 29 true (ri 8 15 1024) [37] (rz 1 23 0)))))) (.c (.s (.r (rz 1 0 0)) (.n)) (.n)))) (.r (rz 3 0 0))))))) (.s (.s (.r (ra 4 0 4 (.grp 42 true (ri 5 4 16) [47] (ra 2 9 0 (.grp 49 false (ri 4 11 4) [53] (.grp 53 true (ri 2 15 0) [55] (.grp 49 false (ri 1 17 0) [56] (rz 1 18 0)))))))) (.c (.s (.r (rz 1 0 0)) (.n)) (.n))) (.s (.r (ra 3 0 9 (.grp 60 true (ri 3 3 36) [63] (ra 2 6 0 (.grp 65 true (ri 5 8 16) [70] (rz 2 13 0)))))) (.n)))))) func44 rfl (by kernel_rfl) (by kernel_rfl) h
def J5 (t0 t1 : Value) (w : World) (K : VW) : Prop:=
 pw w (Instr.box 87 t0) fun t2 w1=>
 lo w1 87 t2 fun t7=>ca qh #[t7] w1 fun t8 w2=>
 za (fun K3=>gIf t8 true (pf 87 t2 1 fun t10=>fl w2 t10 81 1 79 fun t12=>pp (Builtin.len_ #[79] 3 #[t12]) fun t13=>bt .eql 3 t13 (i6 0) fun t14=>K3 [t14] w2) (K3 [undef] w2)) (fun s4 _d5 w6=>
 zb t8 (s4.getD 0 undef) fa_ fun t15=>za (fun K7=>gIf t15 true (pf 87 t2 1 fun t17=>fl w6 t17 81 0 3 fun t19=>bf .eql 3 t19 t1 fun t21=>K7 [t21] w6) (K7 [undef] w6)) (fun s8 _d9 w10=>
 zb t15 (s8.getD 0 undef) fa_ fun t22=>fl w10 t2 87 0 78 fun t24=>bt .eql 78 t24 (Value.int .u8 11) fun t25=>za (fun K11=>gIf t25 true (pf 87 t2 6 fun t27=>fl w10 t27 81 0 3 fun t29=>bf .eql 3 t29 t1 fun t31=>K11 [t31] w10) (K11 [undef] w10)) (fun s12 _d13 w14=>
 zb t25 (s12.getD 0 undef) fa_ fun t32=>za (fun K15=>gIf t22 false (K15 [t32] w14) (K15 [undef] w14)) (fun s16 _d17 w18=>
 zb t22 tr_ (s16.getD 0 undef) fun t36=>za (fun K19=>gIf t36 true (lo w18 87 t2 fun t38=>ca qD #[t38,t1] w18 fun t40 w23=>
 pp (Op.unary .not t40) fun t41=>K19 [t41] w23) (K19 [undef] w18)) (fun s20 _d21 w22=>
 zb t36 (s20.getD 0 undef) fa_ fun t42=>K t42 w22)))))
theorem aeb {t0 t1 : Value} {w : World} {K : VW} (h : J5 t0 t1 w K) : zd prog qE #[t0,t1] w K:=
 okC false (.s (.r (rz 2 0 2)) (.s (.r (ra 3 0 9 (.grp 9 true (ri 5 3 16) [14] (ra 2 8 0 (.grp 16 true (ri 5 10 16) [21] (rz 2 15 0)))))) (.s (.r (ra 4 0 4 (.grp 26 true (ri 5 4 16) [31] (rz 2 9 0)))) (.s (.r (ra 2 0 0 (.grp 34 false (ri 1 2 0) [35] (ra 2 3 0 (.grp 37 true (ri 4 5 33) [41] (rz 2 9 0)))))) (.n))))) func45 rfl (by kernel_rfl) (by kernel_rfl) h
def V6 (t0 t1 t2 : Value) (w : World) (K : VW) : Prop:=
 pw w (Instr.box 38 t0) fun t3 w1=>
 zo [(Value.slice Option.none 0 0),(i6 0)] w1 (fun s3 _d4 w5 K2=>
 fl w5 t3 38 6 36 fun t16=>pp (Builtin.len_ #[36] 3 #[t16]) fun t17=>bf .lss 3 (s3.getD 1 undef) t17 fun t18=>zc t18 (za (fun K6=>
 fl w5 t3 38 6 36 fun t22=>xl w5 36 t22 (s3.getD 1 undef) 87 fun t25=>ca qE #[t25,t1] w5 fun t27 w10=>
 zc t27 (pw w10 (Instr.buildSlice 28 1 #[(0,(s3.getD 1 undef))]) fun t30 w11=>
 pw w11 (Builtin.append_ #[28,28] 28 #[(s3.getD 0 undef),t30]) fun t31 w12=>
 K6 [t31] w12) (K6 [(s3.getD 0 undef)] w10)) (fun s7 _d8 w9=>
 bt .add 3 (s3.getD 1 undef) (i6 1) fun t20=>K2 [(s7.getD 0 undef),t20] w9)) (zo [(Value.slice Option.none 0 0),(i6 0)] w5 (fun s14 _d15 w16 K13=>
 fl w16 t3 38 6 36 fun t34=>pp (Builtin.len_ #[36] 3 #[t34]) fun t35=>bf .lss 3 (s14.getD 1 undef) t35 fun t36=>zc t36 (za (fun K17=>
 fl w16 t3 38 6 36 fun t40=>xl w16 36 t40 (s14.getD 1 undef) 87 fun t43=>ca qD #[t43,t1] w16 fun t45 w21=>
 pp (Op.unary .not t45) fun t46=>za (fun K22=>gIf t46 false (bf .neq 3 (s14.getD 1 undef) t2 fun t50=>K22 [t50] w21) (K22 [undef] w21)) (fun s23 _d24 w25=>
 za (fun K26=>gIf (s23.getD 0 undef) true (fl w25 t3 38 6 36 fun t53=>xl w25 36 t53 t2 87 fun t56=>ca qE #[t56,t1] w25 fun t58 w30=>
 K26 [t58] w30) (K26 [undef] w25)) (fun s27 _d28 w29=>
 za (fun K31=>gIf t46 false (zb (s23.getD 0 undef) (s27.getD 0 undef) fa_ fun t59=>K31 [t59] w29) (K31 [undef] w29)) (fun s32 _d33 w34=>
 zb t46 tr_ (s32.getD 0 undef) fun t60=>zc t60 (K17 [(s14.getD 0 undef)] w34) (lo w34 38 t3 fun t62=>ca Xt #[t62,t2,(s14.getD 1 undef),(s3.getD 0 undef)] w34 fun t66 w35=>
 pe t66 0 fun t67=>pe t66 1 fun t68=>za (fun K36=>gIf t68 true (bt .eql 28 (s14.getD 0 undef) (Value.slice Option.none 0 0) fun t72=>K36 [t72] w35) (K36 [undef] w35)) (fun s37 _d38 w39=>
 za (fun K40=>gIf (s37.getD 0 undef) false (pp (Builtin.len_ #[28] 3 #[t67]) fun t75=>pp (Builtin.len_ #[28] 3 #[(s14.getD 0 undef)]) fun t77=>bf .lss 3 t75 t77 fun t78=>K40 [t78] w39) (K40 [undef] w39)) (fun s41 _d42 w43=>
 za (fun K44=>gIf t68 true (zb (s37.getD 0 undef) tr_ (s41.getD 0 undef) fun t79=>K44 [t79] w43) (K44 [undef] w43)) (fun s45 _d46 w47=>
 za (fun K48=>gIf (s45.getD 0 undef) false (pp (Builtin.len_ #[28] 3 #[t67]) fun t82=>pp (Builtin.len_ #[28] 3 #[(s14.getD 0 undef)]) fun t84=>bf .eql 3 t82 t84 fun t85=>K48 [t85] w47) (K48 [undef] w47)) (fun s49 _d50 w51=>
 za (fun K52=>gIf (s49.getD 0 undef) true (ca YE #[t67,(s14.getD 0 undef)] w51 fun t89 w56=>
 K52 [t89] w56) (K52 [undef] w51)) (fun s53 _d54 w55=>
 za (fun K57=>gIf (s45.getD 0 undef) false (zb (s49.getD 0 undef) (s53.getD 0 undef) fa_ fun t90=>K57 [t90] w55) (K57 [undef] w55)) (fun s58 _d59 w60=>
 za (fun K61=>gIf t68 true (zb (s45.getD 0 undef) tr_ (s58.getD 0 undef) fun t91=>K61 [t91] w60) (K61 [undef] w60)) (fun s62 _d63 w64=>
 zb t68 (s62.getD 0 undef) fa_ fun t92=>zc t92 (K17 [t67] w64) (K17 [(s14.getD 0 undef)] w64))))))))))))) (fun s18 _d19 w20=>
 bt .add 3 (s14.getD 1 undef) (i6 1) fun t38=>K13 [(s18.getD 0 undef),t38] w20)) (bt .neq 28 (s14.getD 0 undef) (Value.slice Option.none 0 0) fun t96=>K (.tuple #[(s14.getD 0 undef),t96]) w16))))
theorem afI {t0 t1 t2 : Value} {w : World} {K : VW} (h : V6 t0 t1 t2 w K) : zd prog XF #[t0,t1,t2] w K:=
 okC false (.s (.r (rz 3 0 2)) (.s (.r (rz 1 0 0)) (.s (.s (.r (rz 1 0 0)) (.b (.lp [8,9] (.s (.s (.r (rz 5 0 16)) (.c (.n) (.n))) (.j [8] (.b (.s (.r (rz 7 0 8452)) (.c (.r (rz 5 0 160)) (.n)))) (.r (rz 3 0 0))))))) (.s (.r (rz 1 0 0)) (.s (.s (.r (rz 1 0 0)) (.b (.lp [10,11] (.s (.s (.r (rz 5 0 16)) (.c (.n) (.n))) (.j [10] (.b (.s (.s (.r (ra 9 0 8452 (.grp 47 false (ri 4 9 0) [51] (.grp 51 true (ri 7 13 8452) [58] (.grp 47 false (ri 1 20 0) [59] (rz 1 21 0)))))) (.c (.n) (.n))) (.s (.r (rz 10 0 513)) (.s (.r (ra 2 0 0 (.grp 70 true (ri 3 2 0) [73] (.grp 73 false (ri 5 5 0) [78] (.grp 70 true (ri 2 10 0) [80] (.grp 80 false (ri 6 12 0) [86] (.grp 86 true (ri 3 18 32) [89] (.grp 80 false (ri 1 21 0) [90] (.grp 70 true (ri 1 22 0) [91] (rz 1 23 0)))))))))) (.c (.r (rz 2 0 0)) (.n)))))) (.r (rz 3 0 0))))))) (.s (.r (rz 5 0 0)) (.n))))))) func48 rfl (by kernel_rfl) (by kernel_rfl) h
def J6 (t0 t1 : Value) (w : World) (K : VW) : Prop:=
 zo [(i6 0)] w (fun s2 _d3 w4 K1=>
 pp (Builtin.len_ #[28] 3 #[t0]) fun t8=>bf .lss 3 (s2.getD 0 undef) t8 fun t9=>zc t9 (xl w4.drew 28 t0 (s2.getD 0 undef) 3 fun t15=>xl w4.drew 28 t1 (s2.getD 0 undef) 3 fun t19=>bf .neq 3 t15 t19 fun t20=>zc t20 (xl w4.drew.drew 28 t0 (s2.getD 0 undef) 3 fun t24=>xl w4.drew.drew 28 t1 (s2.getD 0 undef) 3 fun t28=>bf .lss 3 t24 t28 fun t29=>K t29 w4.drew.drew) (bt .add 3 (s2.getD 0 undef) (i6 1) fun t11=>K1 [t11] w4.drew)) (K fa_ w4))
theorem aec {t0 t1 : Value} {w : World} {K : VW} (h : J6 t0 t1 w K) : zd prog YE #[t0,t1] w K:=
 okC false (.s (.r (rz 1 0 0)) (.s (.s (.r (rz 1 0 0)) (.b (.lp [5] (.s (.s (.r (rz 4 0 0)) (.c (.n) (.n))) (.s (.b (.s (.r (rz 9 0 16448)) (.c (.s (.r (rz 10 0 16448)) (.n)) (.n)))) (.r (rz 3 0 0))))))) (.s (.r (rz 1 0 0)) (.n)))) func92 rfl (by kernel_rfl) (by kernel_rfl) h
def YN (t0 t1 t2 t3 t4 : Value) (w : World) (K : VW) : Prop:=
 pw w (Instr.box 25 t0) fun t5 w1=>
 lo w1 25 t5 fun t30=>ca YG #[t30] w1 fun t31 w2=>
 pp (Op.unary .not t31) fun t32=>za (fun K3=>gIf t32 false (pp (Builtin.len_ #[63] 3 #[t4]) fun t35=>bt .gtr 3 t35 (i6 600) fun t36=>K3 [t36] w2) (K3 [undef] w2)) (fun s4 _d5 w6=>
 zb t32 tr_ (s4.getD 0 undef) fun t37=>zc t37 (ca yY #[] w6 fun t38 w7=>
 K t38 w7) (zo [(i6 0)] w6 (fun s9 _d10 w11 K8=>
 pp (Builtin.len_ #[63] 3 #[t4]) fun t41=>bf .lss 3 (s9.getD 0 undef) t41 fun t42=>zc t42 (px 63 t4 (s9.getD 0 undef) fun t47=>fl w11 t47 72 1 70 fun t49=>pp (Builtin.len_ #[70] 3 #[t49]) fun t50=>bt .gtr 3 t50 (i6 100) fun t51=>zc t51 (ca yY #[] w11 fun t52 w12=>
 K t52 w12) (bt .add 3 (s9.getD 0 undef) (i6 1) fun t44=>K8 [t44] w11)) (lo w11 25 t5 fun t54=>ca Z9 #[t54,t1,t2,t3] w11 fun t58 w13=>
 pe t58 0 fun t59=>pe t58 1 fun t60=>pe t58 2 fun t61=>lo w13 25 t5 fun t63=>ca jx #[t63,t1,t4] w13 fun t66 w14=>
 pe t66 0 fun t67=>pe t66 1 fun t68=>pe t66 2 fun t69=>pe t66 3 fun t70=>lo w14 25 t5 fun t71=>ca Qb #[t71,t1,(i6 (-1))] w14 fun t73 w15=>
 pp (Op.unary .not t73) fun t74=>zc t74 (pp (Builtin.len_ #[28] 3 #[t59]) fun t76=>bt .eql 3 t76 (i6 0) fun t77=>za (fun K16=>gIf t77 true (pp (Op.unary .not t60) fun t80=>K16 [t80] w15) (K16 [undef] w15)) (fun s17 _d18 w19=>
 zb t77 (s17.getD 0 undef) fa_ fun t81=>za (fun K20=>gIf t81 true (bt .eql 29 t61 (i6 2) fun t84=>K20 [t84] w19) (K20 [undef] w19)) (fun s21 _d22 w23=>
 zb t81 (s21.getD 0 undef) fa_ fun t85=>za (fun K24=>gIf t85 true (bt .eql 3 t67 (i6 0) fun t88=>K24 [t88] w23) (K24 [undef] w23)) (fun s25 _d26 w27=>
 zb t85 (s25.getD 0 undef) fa_ fun t89=>za (fun K28=>gIf t89 true (bt .eql 3 t68 (i6 0) fun t92=>K28 [t92] w27) (K28 [undef] w27)) (fun s29 _d30 w31=>
 zb t89 (s29.getD 0 undef) fa_ fun t93=>za (fun K32=>gIf t93 true (pp (Op.unary .not t69) fun t96=>K32 [t96] w31) (K32 [undef] w31)) (fun s33 _d34 w35=>
 zb t93 (s33.getD 0 undef) fa_ fun t97=>za (fun K36=>gIf t97 true (bt .eql 29 t70 (i6 2) fun t100=>K36 [t100] w35) (K36 [undef] w35)) (fun s37 _d38 w39=>
 zb t97 (s37.getD 0 undef) fa_ fun t101=>za (fun K40=>gIf t101 true (ca yY #[] w39 fun t103 w44=>
 K40 [t103] w44) (K40 [undef] w39)) (fun s41 _d42 w43=>
 zb t101 (s41.getD 0 undef) fa_ fun t104=>K t104 w43)))))))) (fl w15 t5 25 1 23 fun t106=>xl w15 23 t106 t1 38 fun t109=>pw w15 (Instr.alloc 38 true (.tuple #[])) fun t19 w45=>
 so w45 38 t19 t109 fun w46=>za (fun K47=>
 bt .lss 3 t2 (i6 0) fun t111=>za (fun K51=>gIf t111 false (fl w46 t19 38 4 34 fun t115=>pp (Builtin.len_ #[34] 3 #[t115]) fun t116=>bf .geq 3 t2 t116 fun t117=>K51 [t117] w46) (K51 [undef] w46)) (fun s52 _d53 w54=>
 zb t111 tr_ (s52.getD 0 undef) fun t118=>za (fun K55=>gIf t118 false (bt .lss 3 t3 (i6 0) fun t121=>K55 [t121] w54) (K55 [undef] w54)) (fun s56 _d57 w58=>
 zb t118 tr_ (s56.getD 0 undef) fun t122=>za (fun K59=>gIf t122 false (fl w58 t19 38 6 36 fun t126=>pp (Builtin.len_ #[36] 3 #[t126]) fun t127=>bf .geq 3 t3 t127 fun t128=>K59 [t128] w58) (K59 [undef] w58)) (fun s60 _d61 w62=>
 zb t122 tr_ (s60.getD 0 undef) fun t129=>zc t129 (pp (Builtin.len_ #[28] 3 #[t59]) fun t131=>bt .neq 3 t131 (i6 0) fun t132=>za (fun K63=>gIf t132 false (K63 [t60] w62) (K63 [undef] w62)) (fun s64 _d65 w66=>
 zb t132 tr_ (s64.getD 0 undef) fun t135=>za (fun K67=>gIf t135 false (bt .neq 29 t61 (i6 2) fun t138=>K67 [t138] w66) (K67 [undef] w66)) (fun s68 _d69 w70=>
 zb t135 tr_ (s68.getD 0 undef) fun t139=>zc t139 (K fa_ w70) (K47 [] w70)))) (lo w62 38 t19 fun t141=>ca XF #[t141,t2,t3] w62 fun t144 w71=>
 pe t144 0 fun t145=>pe t144 1 fun t146=>bf .neq 4 t60 t146 fun t149=>za (fun K72=>gIf t149 false (bt .neq 29 t61 (i6 0) fun t152=>K72 [t152] w71) (K72 [undef] w71)) (fun s73 _d74 w75=>
 zb t149 tr_ (s73.getD 0 undef) fun t153=>za (fun K76=>gIf t153 false (pp (Builtin.len_ #[28] 3 #[t59]) fun t156=>pp (Builtin.len_ #[28] 3 #[t145]) fun t158=>bf .neq 3 t156 t158 fun t159=>K76 [t159] w75) (K76 [undef] w75)) (fun s77 _d78 w79=>
 zb t153 tr_ (s77.getD 0 undef) fun t160=>zc t160 (K fa_ w79) (zo [(i6 0)] w79 (fun s81 _d82 w83 K80=>
 pp (Builtin.len_ #[28] 3 #[t59]) fun t163=>bf .lss 3 (s81.getD 0 undef) t163 fun t164=>zc t164 (xl w83.drew 28 t59 (s81.getD 0 undef) 3 fun t170=>xl w83.drew 28 t145 (s81.getD 0 undef) 3 fun t174=>bf .neq 3 t170 t174 fun t175=>zc t175 (K fa_ w83.drew) (bt .add 3 (s81.getD 0 undef) (i6 1) fun t166=>K80 [t166] w83.drew)) (K47 [] w83)))))))))) (fun _s48 _d49 w50=>
 pp (Builtin.len_ #[63] 3 #[t4]) fun t177=>fl w50 t19 38 4 34 fun t179=>pp (Builtin.len_ #[34] 3 #[t179]) fun t180=>bf .neq 3 t177 t180 fun t181=>zo [t181,(i6 0)] w50 (fun s85 _d86 w87 K84=>
 pp (Builtin.len_ #[63] 3 #[t4]) fun t184=>bf .lss 3 (s85.getD 1 undef) t184 fun t185=>zc t185 (za (fun K88=>gIf (s85.getD 0 undef) false (xl w87.drew 63 t4 (s85.getD 1 undef) 72 fun t193=>ca XG #[t193] w87.drew fun t194 w92=>
 pp (Op.unary .not t194) fun t195=>K88 [t195] w92) (K88 [undef] w87.drew)) (fun s89 _d90 w91=>
 zb (s85.getD 0 undef) tr_ (s89.getD 0 undef) fun t196=>za (fun K93=>gIf t196 false (px 63 t4 (s85.getD 1 undef) fun t200=>fl w91 t200 72 0 3 fun t202=>fl w91 t19 38 6 36 fun t204=>pp (Builtin.len_ #[36] 3 #[t204]) fun t205=>bf .neq 3 t202 t205 fun t206=>K93 [t206] w91) (K93 [undef] w91)) (fun s94 _d95 w96=>
 zb t196 tr_ (s94.getD 0 undef) fun t207=>bt .add 3 (s85.getD 1 undef) (i6 1) fun t187=>K84 [t207,t187] w96))) (zc (s85.getD 0 undef) (bt .eql 3 t67 (i6 0) fun t210=>za (fun K97=>gIf t210 true (bt .eql 3 t68 (i6 0) fun t213=>K97 [t213] w87) (K97 [undef] w87)) (fun s98 _d99 w100=>
 zb t210 (s98.getD 0 undef) fa_ fun t214=>za (fun K101=>gIf t214 true (pp (Op.unary .not t69) fun t217=>K101 [t217] w100) (K101 [undef] w100)) (fun s102 _d103 w104=>
 zb t214 (s102.getD 0 undef) fa_ fun t218=>za (fun K105=>gIf t218 true (bt .eql 29 t70 (i6 2) fun t221=>K105 [t221] w104) (K105 [undef] w104)) (fun s106 _d107 w108=>
 zb t218 (s106.getD 0 undef) fa_ fun t222=>za (fun K109=>gIf t222 true (ca yY #[] w108 fun t224 w113=>
 K109 [t224] w113) (K109 [undef] w108)) (fun s110 _d111 w112=>
 zb t222 (s110.getD 0 undef) fa_ fun t225=>K t225 w112))))) (zo [(i6 0)] w87 (fun s115 _d116 w117 K114=>
 pp (Builtin.len_ #[63] 3 #[t4]) fun t228=>bf .lss 3 (s115.getD 0 undef) t228 fun t229=>zc t229 (zo [(i6 0)] w117 (fun s119 _d120 w121 K118=>
 fl w121 t19 38 6 36 fun t234=>pp (Builtin.len_ #[36] 3 #[t234]) fun t235=>bf .lss 3 (s119.getD 0 undef) t235 fun t236=>zc t236 (fl w121 t19 38 6 36 fun t240=>xl w121 36 t240 (s119.getD 0 undef) 87 fun t243=>ca qD #[t243,(s115.getD 0 undef)] w121 fun t245 w122=>
 lo w122 38 t19 fun t246=>ca qv #[t246,(s119.getD 0 undef)] w122 fun t248 w123=>
 zo [t245,(i6 0)] w123 (fun s125 _d126 w127 K124=>
 pp (Builtin.len_ #[28] 3 #[t248]) fun t251=>bf .lss 3 (s125.getD 1 undef) t251 fun t252=>za (fun K128=>gIf t252 true (fl w127 t19 38 6 36 fun t255=>xl w127 36 t255 (s119.getD 0 undef) 87 fun t258=>ca qE #[t258,(s115.getD 0 undef)] w127 fun t260 w132=>
 pp (Op.unary .not t260) fun t261=>K128 [t261] w132) (K128 [undef] w127)) (fun s129 _d130 w131=>
 zb t252 (s129.getD 0 undef) fa_ fun t262=>zc t262 (za (fun K133=>gIf (s125.getD 0 undef) false (xl w131.drew 63 t4 (s115.getD 0 undef) 72 fun t270=>xl w131.drew 28 t248 (s125.getD 1 undef) 3 fun t274=>ca Ya #[t270,t274] w131.drew fun t275 w137=>
 K133 [t275] w137) (K133 [undef] w131.drew)) (fun s134 _d135 w136=>
 zb (s125.getD 0 undef) tr_ (s134.getD 0 undef) fun t276=>bt .add 3 (s125.getD 1 undef) (i6 1) fun t264=>K124 [t276,t264] w136)) (za (fun K138=>gIf (s125.getD 0 undef) true (xl w131 63 t4 (s115.getD 0 undef) 72 fun t282=>ca Ya #[t282,(s119.getD 0 undef)] w131 fun t284 w142=>
 pp (Op.unary .not t284) fun t285=>K138 [t285] w142) (K138 [undef] w131)) (fun s139 _d140 w141=>
 zb (s125.getD 0 undef) (s139.getD 0 undef) fa_ fun t286=>zc t286 (bf .eql 3 t67 (s115.getD 0 undef) fun t289=>za (fun K143=>gIf t289 true (bf .eql 3 t68 (s119.getD 0 undef) fun t293=>K143 [t293] w141) (K143 [undef] w141)) (fun s144 _d145 w146=>
 zb t289 (s144.getD 0 undef) fa_ fun t294=>za (fun K147=>gIf t294 true (pp (Op.unary .not t69) fun t297=>K147 [t297] w146) (K147 [undef] w146)) (fun s148 _d149 w150=>
 zb t294 (s148.getD 0 undef) fa_ fun t298=>za (fun K151=>gIf t298 true (bt .eql 29 t70 (i6 0) fun t301=>K151 [t301] w150) (K151 [undef] w150)) (fun s152 _d153 w154=>
 zb t298 (s152.getD 0 undef) fa_ fun t302=>za (fun K155=>gIf t302 true (ca yY #[] w154 fun t304 w159=>
 K155 [t304] w159) (K155 [undef] w154)) (fun s156 _d157 w158=>
 zb t302 (s156.getD 0 undef) fa_ fun t305=>K t305 w158))))) (bt .add 3 (s119.getD 0 undef) (i6 1) fun t238=>K118 [t238] w141)))))) (bt .add 3 (s115.getD 0 undef) (i6 1) fun t231=>K114 [t231] w121))) (bt .eql 3 t67 (i6 0) fun t307=>za (fun K160=>gIf t307 true (bt .eql 3 t68 (i6 0) fun t310=>K160 [t310] w117) (K160 [undef] w117)) (fun s161 _d162 w163=>
 zb t307 (s161.getD 0 undef) fa_ fun t311=>za (fun K164=>gIf t311 true (K164 [t69] w163) (K164 [undef] w163)) (fun s165 _d166 w167=>
 zb t311 (s165.getD 0 undef) fa_ fun t314=>za (fun K168=>gIf t314 true (bt .eql 29 t70 (i6 0) fun t317=>K168 [t317] w167) (K168 [undef] w167)) (fun s169 _d170 w171=>
 zb t314 (s169.getD 0 undef) fa_ fun t318=>za (fun K172=>gIf t318 true (ca yY #[] w171 fun t320 w176=>
 K172 [t320] w176) (K172 [undef] w171)) (fun s173 _d174 w175=>
 zb t318 (s173.getD 0 undef) fa_ fun t321=>K t321 w175)))))))))))))))
theorem VE {t0 t1 t2 t3 t4 : Value} {w : World} {K : VW} (h : YN t0 t1 t2 t3 t4 w K) : zd prog YF #[t0,t1,t2,t3,t4] w K:=
 okC false (.s (.r (rz 2 0 2)) (.s (.s (.r (ra 4 0 9 (.grp 33 false (ri 3 4 0) [36] (rz 1 7 0)))) (.c (.s (.r (rz 2 0 2)) (.n)) (.n))) (.s (.s (.r (rz 1 0 0)) (.b (.lp [11] (.s (.s (.r (rz 4 0 0)) (.c (.n) (.n))) (.s (.b (.s (.r (rz 7 0 256)) (.c (.s (.r (rz 2 0 2)) (.n)) (.n)))) (.r (rz 3 0 0))))))) (.s (.r (rz 12 0 513)) (.s (.r (rz 13 0 129)) (.s (.s (.r (rz 4 0 33)) (.c (.s (.r (ra 4 0 0 (.grp 78 true (ri 2 4 0) [80] (ra 2 6 0 (.grp 82 true (ri 2 8 0) [84] (ra 2 10 0 (.grp 86 true (ri 2 12 0) [88] (ra 2 14 0 (.grp 90 true (ri 2 16 0) [92] (ra 2 18 0 (.grp 94 true (ri 2 20 0) [96] (ra 2 22 0 (.grp 98 true (ri 2 24 0) [100] (ra 2 26 0 (.grp 102 true (ri 1 28 2) [103] (rz 2 29 0)))))))))))))))) (.n)) (.n))) (.s (.r (rz 7 0 10500)) (.j [] (.s (.r (ra 3 0 0 (.grp 112 false (ri 5 3 16) [117] (ra 2 8 0 (.grp 119 false (ri 2 10 0) [121] (ra 2 12 0 (.grp 123 false (ri 5 14 16) [128] (rz 1 19 0)))))))) (.c (.s (.r (ra 4 0 0 (.grp 133 false (ri 1 4 0) [134] (ra 2 5 0 (.grp 136 false (ri 2 7 0) [138] (rz 1 9 0)))))) (.c (.s (.r (rz 1 0 0)) (.n)) (.n))) (.s (.r (rz 9 0 129)) (.s (.s (.r (ra 4 0 0 (.grp 150 false (ri 2 4 0) [152] (ra 2 6 0 (.grp 154 false (ri 5 8 0) [159] (rz 1 13 0)))))) (.c (.s (.r (rz 1 0 0)) (.n)) (.n))) (.s (.r (rz 1 0 0)) (.b (.lp [22] (.s (.s (.r (rz 4 0 0)) (.c (.n) (.n))) (.s (.b (.s (.r (rz 9 0 16448)) (.c (.s (.r (rz 1 0 0)) (.n)) (.n)))) (.r (rz 3 0 0))))))))))) (.s (.r (rz 7 0 64)) (.s (.s (.r (rz 1 0 0)) (.b (.lp [23,24] (.s (.s (.r (rz 4 0 0)) (.c (.n) (.n))) (.s (.b (.r (ra 2 0 0 (.grp 189 false (ri 6 2 576) [195] (ra 2 8 0 (.grp 197 false (ri 9 10 4352) [206] (rz 2 19 0))))))) (.r (rz 3 0 0))))))) (.s (.s (.r (rz 1 0 0)) (.c (.s (.r (ra 3 0 0 (.grp 211 true (ri 2 3 0) [213] (ra 2 5 0 (.grp 215 true (ri 2 7 0) [217] (ra 2 9 0 (.grp 219 true (ri 2 11 0) [221] (ra 2 13 0 (.grp 223 true (ri 1 15 2) [224] (rz 2 16 0)))))))))) (.n)) (.n))) (.s (.s (.r (rz 1 0 0)) (.b (.lp [25] (.s (.s (.r (rz 4 0 0)) (.c (.n) (.n))) (.s (.b (.s (.r (rz 1 0 0)) (.b (.lp [26] (.s (.s (.r (rz 5 0 16)) (.c (.n) (.n))) (.s (.b (.s (.r (rz 8 0 8452)) (.s (.r (rz 4 0 33)) (.s (.s (.r (rz 1 0 0)) (.b (.lp [27,29] (.s (.s (.r (ra 5 0 0 (.grp 253 true (ri 8 5 8452) [261] (rz 1 13 0)))) (.c (.n) (.n))) (.s (.b (.r (ra 2 0 0 (.grp 266 false (ri 9 2 147520) [275] (rz 2 11 0))))) (.r (rz 3 0 0))))))) (.s (.r (ra 2 0 0 (.grp 278 true (ri 7 2 2112) [285] (rz 1 9 0)))) (.c (.s (.r (ra 4 0 0 (.grp 290 true (ri 3 4 0) [293] (ra 2 7 0 (.grp 295 true (ri 2 9 0) [297] (ra 2 11 0 (.grp 299 true (ri 2 13 0) [301] (ra 2 15 0 (.grp 303 true (ri 1 17 2) [304] (rz 2 18 0)))))))))) (.n)) (.n))))))) (.r (rz 3 0 0)))))))) (.r (rz 3 0 0))))))) (.s (.r (ra 3 0 0 (.grp 308 true (ri 2 3 0) [310] (ra 2 5 0 (.grp 312 true (ri 1 7 0) [313] (ra 2 8 0 (.grp 315 true (ri 2 10 0) [317] (ra 2 12 0 (.grp 319 true (ri 1 14 2) [320] (rz 2 15 0)))))))))) (.n)))))))))))))) func8 rfl (by kernel_rfl) (by kernel_rfl) h
def J7 (t0 : Value) (w : World) (K : VW) : Prop:=
 pw w (Instr.box 25 t0) fun t1 w1=>
 fl w1 t1 25 0 22 fun t7=>pp (Builtin.len_ #[22] 3 #[t7]) fun t8=>bt .gtr 3 t8 (i6 40) fun t9=>za (fun K2=>gIf t9 false (fl w1 t1 25 1 23 fun t12=>pp (Builtin.len_ #[23] 3 #[t12]) fun t13=>bt .gtr 3 t13 (i6 40) fun t14=>K2 [t14] w1) (K2 [undef] w1)) (fun s3 _d4 w5=>
 zb t9 tr_ (s3.getD 0 undef) fun t15=>zc t15 (K fa_ w5) (zo [(i6 0)] w5 (fun s7 _d8 w9 K6=>
 fl w9 t1 25 0 22 fun t18=>pp (Builtin.len_ #[22] 3 #[t18]) fun t19=>bf .lss 3 (s7.getD 0 undef) t19 fun t20=>zc t20 (fl w9 t1 25 0 22 fun t24=>px 22 t24 (s7.getD 0 undef) fun t26=>fl w9 t26 95 1 93 fun t28=>pp (Builtin.len_ #[93] 3 #[t28]) fun t29=>bt .gtr 3 t29 (i6 20) fun t30=>zc t30 (K fa_ w9) (bt .add 3 (s7.getD 0 undef) (i6 1) fun t22=>K6 [t22] w9)) (zo [(i6 0),(i6 0)] w9 (fun s11 _d12 w13 K10=>
 fl w13 t1 25 1 23 fun t33=>pp (Builtin.len_ #[23] 3 #[t33]) fun t34=>bf .lss 3 (s11.getD 1 undef) t34 fun t35=>zc t35 (fl w13.drew t1 25 1 23 fun t40=>px 23 t40 (s11.getD 1 undef) fun t42=>fl w13.drew t42 38 6 36 fun t44=>pp (Builtin.len_ #[36] 3 #[t44]) fun t45=>fl w13.drew t1 25 1 23 fun t47=>px 23 t47 (s11.getD 1 undef) fun t49=>fl w13.drew t49 38 4 34 fun t51=>pp (Builtin.len_ #[34] 3 #[t51]) fun t52=>bf .add 3 t45 t52 fun t53=>bf .add 3 (s11.getD 0 undef) t53 fun t54=>fl w13.drew t1 25 1 23 fun t56=>px 23 t56 (s11.getD 1 undef) fun t58=>fl w13.drew t58 38 6 36 fun t60=>pp (Builtin.len_ #[36] 3 #[t60]) fun t61=>bt .gtr 3 t61 (i6 150) fun t62=>za (fun K14=>gIf t62 false (fl w13.drew t1 25 1 23 fun t65=>px 23 t65 (s11.getD 1 undef) fun t67=>fl w13.drew t67 38 4 34 fun t69=>pp (Builtin.len_ #[34] 3 #[t69]) fun t70=>bt .gtr 3 t70 (i6 150) fun t71=>K14 [t71] w13.drew) (K14 [undef] w13.drew)) (fun s15 _d16 w17=>
 zb t62 tr_ (s15.getD 0 undef) fun t72=>za (fun K18=>gIf t72 false (bt .gtr 3 t54 (i6 600) fun t75=>K18 [t75] w17) (K18 [undef] w17)) (fun s19 _d20 w21=>
 zb t72 tr_ (s19.getD 0 undef) fun t76=>zc t76 (K fa_ w21) (bt .add 3 (s11.getD 1 undef) (i6 1) fun t37=>K10 [t54,t37] w21)))) (K tr_ w13))))))
theorem aed {t0 : Value} {w : World} {K : VW} (h : J7 t0 w K) : zd prog YG #[t0] w K:=
 okC false (.s (.r (rz 2 0 2)) (.s (.s (.r (ra 5 0 4 (.grp 10 false (ri 4 5 4) [14] (rz 1 9 0)))) (.c (.s (.r (rz 1 0 0)) (.n)) (.n))) (.s (.r (rz 1 0 0)) (.s (.s (.r (rz 1 0 0)) (.b (.lp [4] (.s (.s (.r (rz 5 0 16)) (.c (.n) (.n))) (.s (.b (.s (.r (rz 8 0 1028)) (.c (.s (.r (rz 1 0 0)) (.n)) (.n)))) (.r (rz 3 0 0))))))) (.s (.s (.r (rz 1 0 0)) (.b (.lp [3,5] (.s (.s (.r (rz 5 0 16)) (.c (.n) (.n))) (.s (.b (.s (.r (rz 18 0 67375120)) (.s (.r (ra 9 0 1028 (.grp 63 false (ri 8 9 1028) [71] (ra 2 17 0 (.grp 73 false (ri 2 19 0) [75] (rz 1 21 0)))))) (.c (.s (.r (rz 1 0 0)) (.n)) (.n))))) (.r (rz 3 0 0))))))) (.s (.r (rz 1 0 0)) (.n))))))) func34 rfl (by kernel_rfl) (by kernel_rfl) h
def QU (w : World) (K : VW) : Prop:=
 ca YH #[] w fun t18 w1=>
 pw w1 (Instr.alloc 25 true (.tuple #[])) fun t1 w2=>
 so w2 25 t1 t18 fun w3=>lo w3 25 t1 fun t20=>ca Xl #[t20,(i6 0)] w3 fun t21 w4=>
 pe t21 0 fun t22=>pe t21 1 fun t23=>lo w4 25 t1 fun t25=>ca JS #[t25,(i6 0),(i6 1)] w4 fun t26 w5=>
 pe t26 0 fun t27=>pe t26 1 fun t28=>lo w5 25 t1 fun t30=>ca XD #[t30,(i6 0),(i6 2)] w5 fun t31 w6=>
 pe t31 0 fun t32=>pe t31 1 fun t33=>lo w6 25 t1 fun t35=>ca XE #[t35,(i6 0),(i6 0)] w6 fun t36 w7=>
 pe t36 0 fun t37=>pe t36 1 fun t38=>pe t36 2 fun t39=>lo w7 25 t1 fun t41=>ca Z9 #[t41,(i6 0),(i6 2),(i6 1)] w7 fun t42 w8=>
 pe t42 0 fun t43=>pe t42 1 fun t44=>pe t42 2 fun t45=>lo w8 25 t1 fun t47=>ca jx #[t47,(i6 0),t22] w8 fun t49 w9=>
 pe t49 0 fun _t50=>pe t49 1 fun _t51=>pe t49 2 fun t52=>pe t49 3 fun t53=>bt .eql 29 t23 (i6 0) fun t55=>za (fun K10=>gIf t55 true (pp (Builtin.len_ #[63] 3 #[t22]) fun t58=>bt .eql 3 t58 (i6 3) fun t59=>K10 [t59] w9) (K10 [undef] w9)) (fun s11 _d12 w13=>
 zb t55 (s11.getD 0 undef) fa_ fun t60=>za (fun K14=>gIf t60 true (px 63 t22 (i6 2) fun t63=>fl w13 t63 72 0 3 fun t65=>bt .eql 3 t65 (i6 4) fun t66=>K14 [t66] w13) (K14 [undef] w13)) (fun s15 _d16 w17=>
 zb t60 (s15.getD 0 undef) fa_ fun t67=>za (fun K18=>gIf t67 true (bt .eql 29 t28 (i6 0) fun t70=>K18 [t70] w17) (K18 [undef] w17)) (fun s19 _d20 w21=>
 zb t67 (s19.getD 0 undef) fa_ fun t71=>za (fun K22=>gIf t71 true (pp (Builtin.len_ #[28] 3 #[t27]) fun t74=>bt .eql 3 t74 (i6 2) fun t75=>K22 [t75] w21) (K22 [undef] w21)) (fun s23 _d24 w25=>
 zb t71 (s23.getD 0 undef) fa_ fun t76=>za (fun K26=>gIf t76 true (xl w25 28 t27 (i6 0) 3 fun t80=>bt .eql 3 t80 (i6 0) fun t81=>K26 [t81] w25) (K26 [undef] w25)) (fun s27 _d28 w29=>
 zb t76 (s27.getD 0 undef) fa_ fun t82=>za (fun K30=>gIf t82 true (xl w29 28 t27 (i6 1) 3 fun t86=>bt .eql 3 t86 (i6 2) fun t87=>K30 [t87] w29) (K30 [undef] w29)) (fun s31 _d32 w33=>
 zb t82 (s31.getD 0 undef) fa_ fun t88=>za (fun K34=>gIf t88 true (bt .eql 29 t33 (i6 0) fun t91=>K34 [t91] w33) (K34 [undef] w33)) (fun s35 _d36 w37=>
 zb t88 (s35.getD 0 undef) fa_ fun t92=>za (fun K38=>gIf t92 true (pp (Builtin.len_ #[28] 3 #[t32]) fun t95=>bt .eql 3 t95 (i6 1) fun t96=>K38 [t96] w37) (K38 [undef] w37)) (fun s39 _d40 w41=>
 zb t92 (s39.getD 0 undef) fa_ fun t97=>za (fun K42=>gIf t97 true (xl w41 28 t32 (i6 0) 3 fun t101=>bt .eql 3 t101 (i6 2) fun t102=>K42 [t102] w41) (K42 [undef] w41)) (fun s43 _d44 w45=>
 zb t97 (s43.getD 0 undef) fa_ fun t103=>za (fun K46=>gIf t103 true (bt .eql 3 t37 (i6 2) fun t106=>K46 [t106] w45) (K46 [undef] w45)) (fun s47 _d48 w49=>
 zb t103 (s47.getD 0 undef) fa_ fun t107=>za (fun K50=>gIf t107 true (K50 [t38] w49) (K50 [undef] w49)) (fun s51 _d52 w53=>
 zb t107 (s51.getD 0 undef) fa_ fun t110=>za (fun K54=>gIf t110 true (bt .eql 29 t39 (i6 0) fun t113=>K54 [t113] w53) (K54 [undef] w53)) (fun s55 _d56 w57=>
 zb t110 (s55.getD 0 undef) fa_ fun t114=>za (fun K58=>gIf t114 true (K58 [t44] w57) (K58 [undef] w57)) (fun s59 _d60 w61=>
 zb t114 (s59.getD 0 undef) fa_ fun t117=>za (fun K62=>gIf t117 true (pp (Builtin.len_ #[28] 3 #[t43]) fun t120=>bt .eql 3 t120 (i6 2) fun t121=>K62 [t121] w61) (K62 [undef] w61)) (fun s63 _d64 w65=>
 zb t117 (s63.getD 0 undef) fa_ fun t122=>za (fun K66=>gIf t122 true (bt .eql 29 t45 (i6 0) fun t125=>K66 [t125] w65) (K66 [undef] w65)) (fun s67 _d68 w69=>
 zb t122 (s67.getD 0 undef) fa_ fun t126=>za (fun K70=>gIf t126 true (K70 [t52] w69) (K70 [undef] w69)) (fun s71 _d72 w73=>
 zb t126 (s71.getD 0 undef) fa_ fun t129=>za (fun K74=>gIf t129 true (bt .eql 29 t53 (i6 0) fun t132=>K74 [t132] w73) (K74 [undef] w73)) (fun s75 _d76 w77=>
 zb t129 (s75.getD 0 undef) fa_ fun t133=>K t133 w77)))))))))))))))))
theorem acT {w : World} {K : VW} (h : QU  w K) : zd prog yY #[] w K:=
 okC false (.s (.r (rz 1 0 0)) (.s (.r (rz 3 0 42)) (.s (.r (rz 7 0 9)) (.s (.r (rz 7 0 9)) (.s (.r (rz 7 0 9)) (.s (.r (rz 9 0 9)) (.s (.r (rz 9 0 9)) (.s (.r (rz 12 0 33)) (.s (.r (ra 3 0 0 (.grp 56 true (ri 3 3 0) [59] (ra 2 6 0 (.grp 61 true (ri 5 8 64) [66] (ra 2 13 0 (.grp 68 true (ri 2 15 0) [70] (ra 2 17 0 (.grp 72 true (ri 3 19 0) [75] (ra 2 22 0 (.grp 77 true (ri 4 24 16) [81] (ra 2 28 0 (.grp 83 true (ri 4 30 16) [87] (ra 2 34 0 (.grp 89 true (ri 2 36 0) [91] (ra 2 38 0 (.grp 93 true (ri 3 40 0) [96] (ra 2 43 0 (.grp 98 true (ri 4 45 16) [102] (ra 2 49 0 (.grp 104 true (ri 2 51 0) [106] (ra 2 53 0 (.grp 108 true (ri 1 55 0) [109] (ra 2 56 0 (.grp 111 true (ri 2 58 0) [113] (ra 2 60 0 (.grp 115 true (ri 1 62 0) [116] (ra 2 63 0 (.grp 118 true (ri 3 65 0) [121] (ra 2 68 0 (.grp 123 true (ri 2 70 0) [125] (ra 2 72 0 (.grp 127 true (ri 1 74 0) [128] (ra 2 75 0 (.grp 130 true (ri 2 77 0) [132] (rz 2 79 0)))))))))))))))))))))))))))))))))))) (.n)))))))))) func35 rfl (by kernel_rfl) (by kernel_rfl) h
def J8 (w : World) (K : VW) : Prop:=
 pw w (Instr.alloc 25 true (.tuple #[])) fun t0 w1=>
 pw w1 (Instr.buildSlice 79 1 #[(0,(i6 (-1)))]) fun t2 w2=>
 pp (Instr.build 81 #[(0,(i6 2)),(1,t2)]) fun t3=>pw w2 (Instr.alloc 81 true (.tuple #[])) fun t1 w3=>
 so w3 81 t1 t3 fun w4=>pp (Instr.build 81 #[(0,(i6 2))]) fun t9=>pp (Instr.build 81 #[(0,(i6 1))]) fun t10=>pp (Instr.build 87 #[(0,(Value.int .u8 4)),(1,t9),(6,t10),(7,tr_),(10,(i6 1))]) fun t11=>pp (Instr.build 81 #[(0,(i6 1))]) fun t12=>lo w4.drew 81 t1 fun t15=>pp (Instr.build 87 #[(0,(Value.int .u8 14))]) fun t18=>((ca xz #[] w4.drew fun t4 w5=>
 Ext w4.drew w5∧
 ((ca xz #[] w5 fun t5 w6=>
 Ext w5 w6∧
 ((ca kT #[tr_] w6 fun t6 w7=>
 Ext w6 w7∧
 ((pw w7 (Instr.buildSlice 34 3 #[(0,t4),(1,t5),(2,t6)]) fun t7 w8=>
 Ext w7 w8∧
 ((pw w8 (Instr.makeSlice 35 (i6 3) (i6 3)) fun t8 w9=>
 Ext w8 w9∧
 ca zt #[(i6 2)] w9 fun t13 w10=>
 Ext w9 w10∧
 pp (Instr.build 87 #[(0,(Value.int .u8 1)),(1,t12),(2,t13),(10,(i6 2))]) fun t14=>ca zt #[(i6 3)] w10 fun t16 w11=>
 Ext w10 w11∧
 pp (Instr.build 87 #[(0,(Value.int .u8 1)),(1,t15),(2,t16),(10,(i6 3))]) fun t17=>pw w11 (Instr.buildSlice 36 4 #[(0,t11),(1,t14),(2,t17),(3,t18)]) fun t19 w12=>
 pp (Instr.build 38 #[(4,t7),(5,t8),(6,t19)]) fun t20=>pw w12 (Instr.buildSlice 23 1 #[(0,t20)]) fun t21 w13=>
 pp (Instr.build 25 #[(1,t21)]) fun t22=>so w13 25 t0 t22 fun w14=>pq w14 (zn 25 t0) fun r15=>K r15 w14)∧
 (ca zt #[(i6 2)] w8 fun t13_17 w16=>
 Ext w8 w16∧
 pp (Instr.build 87 #[(0,(Value.int .u8 1)),(1,t12),(2,t13_17),(10,(i6 2))]) fun t14_18=>((pw w16 (Instr.makeSlice 35 (i6 3) (i6 3)) fun t8_20 w19=>
 Ext w16 w19∧
 ca zt #[(i6 3)] w19 fun t16_22 w21=>
 Ext w19 w21∧
 pp (Instr.build 87 #[(0,(Value.int .u8 1)),(1,t15),(2,t16_22),(10,(i6 3))]) fun t17_23=>pw w21 (Instr.buildSlice 36 4 #[(0,t11),(1,t14_18),(2,t17_23),(3,t18)]) fun t19_25 w24=>
 pp (Instr.build 38 #[(4,t7),(5,t8_20),(6,t19_25)]) fun t20_26=>pw w24 (Instr.buildSlice 23 1 #[(0,t20_26)]) fun t21_28 w27=>
 pp (Instr.build 25 #[(1,t21_28)]) fun t22_29=>so w27 25 t0 t22_29 fun w30=>pq w30 (zn 25 t0) fun r31=>K r31 w30)∧
 (ca zt #[(i6 3)] w16 fun t16_33 w32=>
 Ext w16 w32∧
 pp (Instr.build 87 #[(0,(Value.int .u8 1)),(1,t15),(2,t16_33),(10,(i6 3))]) fun t17_34=>((pw w32 (Instr.makeSlice 35 (i6 3) (i6 3)) fun t8_36 w35=>
 Ext w32 w35∧
 pw w35 (Instr.buildSlice 36 4 #[(0,t11),(1,t14_18),(2,t17_34),(3,t18)]) fun t19_38 w37=>
 pp (Instr.build 38 #[(4,t7),(5,t8_36),(6,t19_38)]) fun t20_39=>pw w37 (Instr.buildSlice 23 1 #[(0,t20_39)]) fun t21_41 w40=>
 pp (Instr.build 25 #[(1,t21_41)]) fun t22_42=>so w40 25 t0 t22_42 fun w43=>pq w43 (zn 25 t0) fun r44=>K r44 w43)∧
 (pw w32 (Instr.buildSlice 36 4 #[(0,t11),(1,t14_18),(2,t17_34),(3,t18)]) fun t19_46 w45=>
 pw w45 (Instr.makeSlice 35 (i6 3) (i6 3)) fun t8_48 w47=>
 Ext w45 w47∧
 pp (Instr.build 38 #[(4,t7),(5,t8_48),(6,t19_46)]) fun t20_49=>pw w47 (Instr.buildSlice 23 1 #[(0,t20_49)]) fun t21_51 w50=>
 pp (Instr.build 25 #[(1,t21_51)]) fun t22_52=>so w50 25 t0 t22_52 fun w53=>pq w53 (zn 25 t0) fun r54=>K r54 w53)))))))∧
 (((pw w7 (Instr.makeSlice 35 (i6 3) (i6 3)) fun t8_56 w55=>
 Ext w7 w55∧
 ((pw w55 (Instr.buildSlice 34 3 #[(0,t4),(1,t5),(2,t6)]) fun t7_58 w57=>
 Ext w55 w57∧
 ca zt #[(i6 2)] w57 fun t13_60 w59=>
 Ext w57 w59∧
 pp (Instr.build 87 #[(0,(Value.int .u8 1)),(1,t12),(2,t13_60),(10,(i6 2))]) fun t14_61=>ca zt #[(i6 3)] w59 fun t16_63 w62=>
 Ext w59 w62∧
 pp (Instr.build 87 #[(0,(Value.int .u8 1)),(1,t15),(2,t16_63),(10,(i6 3))]) fun t17_64=>pw w62 (Instr.buildSlice 36 4 #[(0,t11),(1,t14_61),(2,t17_64),(3,t18)]) fun t19_66 w65=>
 pp (Instr.build 38 #[(4,t7_58),(5,t8_56),(6,t19_66)]) fun t20_67=>pw w65 (Instr.buildSlice 23 1 #[(0,t20_67)]) fun t21_69 w68=>
 pp (Instr.build 25 #[(1,t21_69)]) fun t22_70=>so w68 25 t0 t22_70 fun w71=>pq w71 (zn 25 t0) fun r72=>K r72 w71)∧
 (ca zt #[(i6 2)] w55 fun t13_74 w73=>
 Ext w55 w73∧
 pp (Instr.build 87 #[(0,(Value.int .u8 1)),(1,t12),(2,t13_74),(10,(i6 2))]) fun t14_75=>((pw w73 (Instr.buildSlice 34 3 #[(0,t4),(1,t5),(2,t6)]) fun t7_77 w76=>
 Ext w73 w76∧
 ca zt #[(i6 3)] w76 fun t16_79 w78=>
 Ext w76 w78∧
 pp (Instr.build 87 #[(0,(Value.int .u8 1)),(1,t15),(2,t16_79),(10,(i6 3))]) fun t17_80=>pw w78 (Instr.buildSlice 36 4 #[(0,t11),(1,t14_75),(2,t17_80),(3,t18)]) fun t19_82 w81=>
 pp (Instr.build 38 #[(4,t7_77),(5,t8_56),(6,t19_82)]) fun t20_83=>pw w81 (Instr.buildSlice 23 1 #[(0,t20_83)]) fun t21_85 w84=>
 pp (Instr.build 25 #[(1,t21_85)]) fun t22_86=>so w84 25 t0 t22_86 fun w87=>pq w87 (zn 25 t0) fun r88=>K r88 w87)∧
 (ca zt #[(i6 3)] w73 fun t16_90 w89=>
 Ext w73 w89∧
 pp (Instr.build 87 #[(0,(Value.int .u8 1)),(1,t15),(2,t16_90),(10,(i6 3))]) fun t17_91=>((pw w89 (Instr.buildSlice 34 3 #[(0,t4),(1,t5),(2,t6)]) fun t7_93 w92=>
 Ext w89 w92∧
 pw w92 (Instr.buildSlice 36 4 #[(0,t11),(1,t14_75),(2,t17_91),(3,t18)]) fun t19_95 w94=>
 pp (Instr.build 38 #[(4,t7_93),(5,t8_56),(6,t19_95)]) fun t20_96=>pw w94 (Instr.buildSlice 23 1 #[(0,t20_96)]) fun t21_98 w97=>
 pp (Instr.build 25 #[(1,t21_98)]) fun t22_99=>so w97 25 t0 t22_99 fun w100=>pq w100 (zn 25 t0) fun r101=>K r101 w100)∧
 (pw w89 (Instr.buildSlice 36 4 #[(0,t11),(1,t14_75),(2,t17_91),(3,t18)]) fun t19_103 w102=>
 pw w102 (Instr.buildSlice 34 3 #[(0,t4),(1,t5),(2,t6)]) fun t7_105 w104=>
 Ext w102 w104∧
 pp (Instr.build 38 #[(4,t7_105),(5,t8_56),(6,t19_103)]) fun t20_106=>pw w104 (Instr.buildSlice 23 1 #[(0,t20_106)]) fun t21_108 w107=>
 pp (Instr.build 25 #[(1,t21_108)]) fun t22_109=>so w107 25 t0 t22_109 fun w110=>pq w110 (zn 25 t0) fun r111=>K r111 w110)))))))∧
 (ca zt #[(i6 2)] w7 fun t13_113 w112=>
 Ext w7 w112∧
 pp (Instr.build 87 #[(0,(Value.int .u8 1)),(1,t12),(2,t13_113),(10,(i6 2))]) fun t14_114=>((pw w112 (Instr.buildSlice 34 3 #[(0,t4),(1,t5),(2,t6)]) fun t7_116 w115=>
 Ext w112 w115∧
 ((pw w115 (Instr.makeSlice 35 (i6 3) (i6 3)) fun t8_118 w117=>
 Ext w115 w117∧
 ca zt #[(i6 3)] w117 fun t16_120 w119=>
 Ext w117 w119∧
 pp (Instr.build 87 #[(0,(Value.int .u8 1)),(1,t15),(2,t16_120),(10,(i6 3))]) fun t17_121=>pw w119 (Instr.buildSlice 36 4 #[(0,t11),(1,t14_114),(2,t17_121),(3,t18)]) fun t19_123 w122=>
 pp (Instr.build 38 #[(4,t7_116),(5,t8_118),(6,t19_123)]) fun t20_124=>pw w122 (Instr.buildSlice 23 1 #[(0,t20_124)]) fun t21_126 w125=>
 pp (Instr.build 25 #[(1,t21_126)]) fun t22_127=>so w125 25 t0 t22_127 fun w128=>pq w128 (zn 25 t0) fun r129=>K r129 w128)∧
 (ca zt #[(i6 3)] w115 fun t16_131 w130=>
 Ext w115 w130∧
 pp (Instr.build 87 #[(0,(Value.int .u8 1)),(1,t15),(2,t16_131),(10,(i6 3))]) fun t17_132=>((pw w130 (Instr.makeSlice 35 (i6 3) (i6 3)) fun t8_134 w133=>
 Ext w130 w133∧
 pw w133 (Instr.buildSlice 36 4 #[(0,t11),(1,t14_114),(2,t17_132),(3,t18)]) fun t19_136 w135=>
 pp (Instr.build 38 #[(4,t7_116),(5,t8_134),(6,t19_136)]) fun t20_137=>pw w135 (Instr.buildSlice 23 1 #[(0,t20_137)]) fun t21_139 w138=>
 pp (Instr.build 25 #[(1,t21_139)]) fun t22_140=>so w138 25 t0 t22_140 fun w141=>pq w141 (zn 25 t0) fun r142=>K r142 w141)∧
 (pw w130 (Instr.buildSlice 36 4 #[(0,t11),(1,t14_114),(2,t17_132),(3,t18)]) fun t19_144 w143=>
 pw w143 (Instr.makeSlice 35 (i6 3) (i6 3)) fun t8_146 w145=>
 Ext w143 w145∧
 pp (Instr.build 38 #[(4,t7_116),(5,t8_146),(6,t19_144)]) fun t20_147=>pw w145 (Instr.buildSlice 23 1 #[(0,t20_147)]) fun t21_149 w148=>
 pp (Instr.build 25 #[(1,t21_149)]) fun t22_150=>so w148 25 t0 t22_150 fun w151=>pq w151 (zn 25 t0) fun r152=>K r152 w151)))))∧
 (((pw w112 (Instr.makeSlice 35 (i6 3) (i6 3)) fun t8_154 w153=>
 Ext w112 w153∧
 ((pw w153 (Instr.buildSlice 34 3 #[(0,t4),(1,t5),(2,t6)]) fun t7_156 w155=>
 Ext w153 w155∧
 ca zt #[(i6 3)] w155 fun t16_158 w157=>
 Ext w155 w157∧
 pp (Instr.build 87 #[(0,(Value.int .u8 1)),(1,t15),(2,t16_158),(10,(i6 3))]) fun t17_159=>pw w157 (Instr.buildSlice 36 4 #[(0,t11),(1,t14_114),(2,t17_159),(3,t18)]) fun t19_161 w160=>
 pp (Instr.build 38 #[(4,t7_156),(5,t8_154),(6,t19_161)]) fun t20_162=>pw w160 (Instr.buildSlice 23 1 #[(0,t20_162)]) fun t21_164 w163=>
 pp (Instr.build 25 #[(1,t21_164)]) fun t22_165=>so w163 25 t0 t22_165 fun w166=>pq w166 (zn 25 t0) fun r167=>K r167 w166)∧
 (ca zt #[(i6 3)] w153 fun t16_169 w168=>
 Ext w153 w168∧
 pp (Instr.build 87 #[(0,(Value.int .u8 1)),(1,t15),(2,t16_169),(10,(i6 3))]) fun t17_170=>((pw w168 (Instr.buildSlice 34 3 #[(0,t4),(1,t5),(2,t6)]) fun t7_172 w171=>
 Ext w168 w171∧
 pw w171 (Instr.buildSlice 36 4 #[(0,t11),(1,t14_114),(2,t17_170),(3,t18)]) fun t19_174 w173=>
 pp (Instr.build 38 #[(4,t7_172),(5,t8_154),(6,t19_174)]) fun t20_175=>pw w173 (Instr.buildSlice 23 1 #[(0,t20_175)]) fun t21_177 w176=>
 pp (Instr.build 25 #[(1,t21_177)]) fun t22_178=>so w176 25 t0 t22_178 fun w179=>pq w179 (zn 25 t0) fun r180=>K r180 w179)∧
 (pw w168 (Instr.buildSlice 36 4 #[(0,t11),(1,t14_114),(2,t17_170),(3,t18)]) fun t19_182 w181=>
 pw w181 (Instr.buildSlice 34 3 #[(0,t4),(1,t5),(2,t6)]) fun t7_184 w183=>
 Ext w181 w183∧
 pp (Instr.build 38 #[(4,t7_184),(5,t8_154),(6,t19_182)]) fun t20_185=>pw w183 (Instr.buildSlice 23 1 #[(0,t20_185)]) fun t21_187 w186=>
 pp (Instr.build 25 #[(1,t21_187)]) fun t22_188=>so w186 25 t0 t22_188 fun w189=>pq w189 (zn 25 t0) fun r190=>K r190 w189)))))∧
 (ca zt #[(i6 3)] w112 fun t16_192 w191=>
 Ext w112 w191∧
 pp (Instr.build 87 #[(0,(Value.int .u8 1)),(1,t15),(2,t16_192),(10,(i6 3))]) fun t17_193=>((pw w191 (Instr.buildSlice 34 3 #[(0,t4),(1,t5),(2,t6)]) fun t7_195 w194=>
 Ext w191 w194∧
 ((pw w194 (Instr.makeSlice 35 (i6 3) (i6 3)) fun t8_197 w196=>
 Ext w194 w196∧
 pw w196 (Instr.buildSlice 36 4 #[(0,t11),(1,t14_114),(2,t17_193),(3,t18)]) fun t19_199 w198=>
 pp (Instr.build 38 #[(4,t7_195),(5,t8_197),(6,t19_199)]) fun t20_200=>pw w198 (Instr.buildSlice 23 1 #[(0,t20_200)]) fun t21_202 w201=>
 pp (Instr.build 25 #[(1,t21_202)]) fun t22_203=>so w201 25 t0 t22_203 fun w204=>pq w204 (zn 25 t0) fun r205=>K r205 w204)∧
 (pw w194 (Instr.buildSlice 36 4 #[(0,t11),(1,t14_114),(2,t17_193),(3,t18)]) fun t19_207 w206=>
 pw w206 (Instr.makeSlice 35 (i6 3) (i6 3)) fun t8_209 w208=>
 Ext w206 w208∧
 pp (Instr.build 38 #[(4,t7_195),(5,t8_209),(6,t19_207)]) fun t20_210=>pw w208 (Instr.buildSlice 23 1 #[(0,t20_210)]) fun t21_212 w211=>
 pp (Instr.build 25 #[(1,t21_212)]) fun t22_213=>so w211 25 t0 t22_213 fun w214=>pq w214 (zn 25 t0) fun r215=>K r215 w214)))∧
 (((pw w191 (Instr.makeSlice 35 (i6 3) (i6 3)) fun t8_217 w216=>
 Ext w191 w216∧
 ((pw w216 (Instr.buildSlice 34 3 #[(0,t4),(1,t5),(2,t6)]) fun t7_219 w218=>
 Ext w216 w218∧
 pw w218 (Instr.buildSlice 36 4 #[(0,t11),(1,t14_114),(2,t17_193),(3,t18)]) fun t19_221 w220=>
 pp (Instr.build 38 #[(4,t7_219),(5,t8_217),(6,t19_221)]) fun t20_222=>pw w220 (Instr.buildSlice 23 1 #[(0,t20_222)]) fun t21_224 w223=>
 pp (Instr.build 25 #[(1,t21_224)]) fun t22_225=>so w223 25 t0 t22_225 fun w226=>pq w226 (zn 25 t0) fun r227=>K r227 w226)∧
 (pw w216 (Instr.buildSlice 36 4 #[(0,t11),(1,t14_114),(2,t17_193),(3,t18)]) fun t19_229 w228=>
 pw w228 (Instr.buildSlice 34 3 #[(0,t4),(1,t5),(2,t6)]) fun t7_231 w230=>
 Ext w228 w230∧
 pp (Instr.build 38 #[(4,t7_231),(5,t8_217),(6,t19_229)]) fun t20_232=>pw w230 (Instr.buildSlice 23 1 #[(0,t20_232)]) fun t21_234 w233=>
 pp (Instr.build 25 #[(1,t21_234)]) fun t22_235=>so w233 25 t0 t22_235 fun w236=>pq w236 (zn 25 t0) fun r237=>K r237 w236)))∧
 (pw w191 (Instr.buildSlice 36 4 #[(0,t11),(1,t14_114),(2,t17_193),(3,t18)]) fun t19_239 w238=>
 ((pw w238 (Instr.buildSlice 34 3 #[(0,t4),(1,t5),(2,t6)]) fun t7_241 w240=>
 Ext w238 w240∧
 pw w240 (Instr.makeSlice 35 (i6 3) (i6 3)) fun t8_243 w242=>
 Ext w240 w242∧
 pp (Instr.build 38 #[(4,t7_241),(5,t8_243),(6,t19_239)]) fun t20_244=>pw w242 (Instr.buildSlice 23 1 #[(0,t20_244)]) fun t21_246 w245=>
 pp (Instr.build 25 #[(1,t21_246)]) fun t22_247=>so w245 25 t0 t22_247 fun w248=>pq w248 (zn 25 t0) fun r249=>K r249 w248)∧
 (pw w238 (Instr.makeSlice 35 (i6 3) (i6 3)) fun t8_251 w250=>
 Ext w238 w250∧
 pw w250 (Instr.buildSlice 34 3 #[(0,t4),(1,t5),(2,t6)]) fun t7_253 w252=>
 Ext w250 w252∧
 pp (Instr.build 38 #[(4,t7_253),(5,t8_251),(6,t19_239)]) fun t20_254=>pw w252 (Instr.buildSlice 23 1 #[(0,t20_254)]) fun t21_256 w255=>
 pp (Instr.build 25 #[(1,t21_256)]) fun t22_257=>so w255 25 t0 t22_257 fun w258=>pq w258 (zn 25 t0) fun r259=>K r259 w258)))))))))))))))∧
 (pw w6 (Instr.makeSlice 35 (i6 3) (i6 3)) fun t8_261 w260=>
 Ext w6 w260∧
 ca kT #[tr_] w260 fun t6_263 w262=>
 Ext w260 w262∧
 ((pw w262 (Instr.buildSlice 34 3 #[(0,t4),(1,t5),(2,t6_263)]) fun t7_265 w264=>
 Ext w262 w264∧
 ca zt #[(i6 2)] w264 fun t13_267 w266=>
 Ext w264 w266∧
 pp (Instr.build 87 #[(0,(Value.int .u8 1)),(1,t12),(2,t13_267),(10,(i6 2))]) fun t14_268=>ca zt #[(i6 3)] w266 fun t16_270 w269=>
 Ext w266 w269∧
 pp (Instr.build 87 #[(0,(Value.int .u8 1)),(1,t15),(2,t16_270),(10,(i6 3))]) fun t17_271=>pw w269 (Instr.buildSlice 36 4 #[(0,t11),(1,t14_268),(2,t17_271),(3,t18)]) fun t19_273 w272=>
 pp (Instr.build 38 #[(4,t7_265),(5,t8_261),(6,t19_273)]) fun t20_274=>pw w272 (Instr.buildSlice 23 1 #[(0,t20_274)]) fun t21_276 w275=>
 pp (Instr.build 25 #[(1,t21_276)]) fun t22_277=>so w275 25 t0 t22_277 fun w278=>pq w278 (zn 25 t0) fun r279=>K r279 w278)∧
 (ca zt #[(i6 2)] w262 fun t13_281 w280=>
 Ext w262 w280∧
 pp (Instr.build 87 #[(0,(Value.int .u8 1)),(1,t12),(2,t13_281),(10,(i6 2))]) fun t14_282=>((pw w280 (Instr.buildSlice 34 3 #[(0,t4),(1,t5),(2,t6_263)]) fun t7_284 w283=>
 Ext w280 w283∧
 ca zt #[(i6 3)] w283 fun t16_286 w285=>
 Ext w283 w285∧
 pp (Instr.build 87 #[(0,(Value.int .u8 1)),(1,t15),(2,t16_286),(10,(i6 3))]) fun t17_287=>pw w285 (Instr.buildSlice 36 4 #[(0,t11),(1,t14_282),(2,t17_287),(3,t18)]) fun t19_289 w288=>
 pp (Instr.build 38 #[(4,t7_284),(5,t8_261),(6,t19_289)]) fun t20_290=>pw w288 (Instr.buildSlice 23 1 #[(0,t20_290)]) fun t21_292 w291=>
 pp (Instr.build 25 #[(1,t21_292)]) fun t22_293=>so w291 25 t0 t22_293 fun w294=>pq w294 (zn 25 t0) fun r295=>K r295 w294)∧
 (ca zt #[(i6 3)] w280 fun t16_297 w296=>
 Ext w280 w296∧
 pp (Instr.build 87 #[(0,(Value.int .u8 1)),(1,t15),(2,t16_297),(10,(i6 3))]) fun t17_298=>((pw w296 (Instr.buildSlice 34 3 #[(0,t4),(1,t5),(2,t6_263)]) fun t7_300 w299=>
 Ext w296 w299∧
 pw w299 (Instr.buildSlice 36 4 #[(0,t11),(1,t14_282),(2,t17_298),(3,t18)]) fun t19_302 w301=>
 pp (Instr.build 38 #[(4,t7_300),(5,t8_261),(6,t19_302)]) fun t20_303=>pw w301 (Instr.buildSlice 23 1 #[(0,t20_303)]) fun t21_305 w304=>
 pp (Instr.build 25 #[(1,t21_305)]) fun t22_306=>so w304 25 t0 t22_306 fun w307=>pq w307 (zn 25 t0) fun r308=>K r308 w307)∧
 (pw w296 (Instr.buildSlice 36 4 #[(0,t11),(1,t14_282),(2,t17_298),(3,t18)]) fun t19_310 w309=>
 pw w309 (Instr.buildSlice 34 3 #[(0,t4),(1,t5),(2,t6_263)]) fun t7_312 w311=>
 Ext w309 w311∧
 pp (Instr.build 38 #[(4,t7_312),(5,t8_261),(6,t19_310)]) fun t20_313=>pw w311 (Instr.buildSlice 23 1 #[(0,t20_313)]) fun t21_315 w314=>
 pp (Instr.build 25 #[(1,t21_315)]) fun t22_316=>so w314 25 t0 t22_316 fun w317=>pq w317 (zn 25 t0) fun r318=>K r318 w317)))))))))∧
 (pw w5 (Instr.makeSlice 35 (i6 3) (i6 3)) fun t8_320 w319=>
 Ext w5 w319∧
 ca xz #[] w319 fun t5_322 w321=>
 Ext w319 w321∧
 ca kT #[tr_] w321 fun t6_324 w323=>
 Ext w321 w323∧
 ((pw w323 (Instr.buildSlice 34 3 #[(0,t4),(1,t5_322),(2,t6_324)]) fun t7_326 w325=>
 Ext w323 w325∧
 ca zt #[(i6 2)] w325 fun t13_328 w327=>
 Ext w325 w327∧
 pp (Instr.build 87 #[(0,(Value.int .u8 1)),(1,t12),(2,t13_328),(10,(i6 2))]) fun t14_329=>ca zt #[(i6 3)] w327 fun t16_331 w330=>
 Ext w327 w330∧
 pp (Instr.build 87 #[(0,(Value.int .u8 1)),(1,t15),(2,t16_331),(10,(i6 3))]) fun t17_332=>pw w330 (Instr.buildSlice 36 4 #[(0,t11),(1,t14_329),(2,t17_332),(3,t18)]) fun t19_334 w333=>
 pp (Instr.build 38 #[(4,t7_326),(5,t8_320),(6,t19_334)]) fun t20_335=>pw w333 (Instr.buildSlice 23 1 #[(0,t20_335)]) fun t21_337 w336=>
 pp (Instr.build 25 #[(1,t21_337)]) fun t22_338=>so w336 25 t0 t22_338 fun w339=>pq w339 (zn 25 t0) fun r340=>K r340 w339)∧
 (ca zt #[(i6 2)] w323 fun t13_342 w341=>
 Ext w323 w341∧
 pp (Instr.build 87 #[(0,(Value.int .u8 1)),(1,t12),(2,t13_342),(10,(i6 2))]) fun t14_343=>((pw w341 (Instr.buildSlice 34 3 #[(0,t4),(1,t5_322),(2,t6_324)]) fun t7_345 w344=>
 Ext w341 w344∧
 ca zt #[(i6 3)] w344 fun t16_347 w346=>
 Ext w344 w346∧
 pp (Instr.build 87 #[(0,(Value.int .u8 1)),(1,t15),(2,t16_347),(10,(i6 3))]) fun t17_348=>pw w346 (Instr.buildSlice 36 4 #[(0,t11),(1,t14_343),(2,t17_348),(3,t18)]) fun t19_350 w349=>
 pp (Instr.build 38 #[(4,t7_345),(5,t8_320),(6,t19_350)]) fun t20_351=>pw w349 (Instr.buildSlice 23 1 #[(0,t20_351)]) fun t21_353 w352=>
 pp (Instr.build 25 #[(1,t21_353)]) fun t22_354=>so w352 25 t0 t22_354 fun w355=>pq w355 (zn 25 t0) fun r356=>K r356 w355)∧
 (ca zt #[(i6 3)] w341 fun t16_358 w357=>
 Ext w341 w357∧
 pp (Instr.build 87 #[(0,(Value.int .u8 1)),(1,t15),(2,t16_358),(10,(i6 3))]) fun t17_359=>((pw w357 (Instr.buildSlice 34 3 #[(0,t4),(1,t5_322),(2,t6_324)]) fun t7_361 w360=>
 Ext w357 w360∧
 pw w360 (Instr.buildSlice 36 4 #[(0,t11),(1,t14_343),(2,t17_359),(3,t18)]) fun t19_363 w362=>
 pp (Instr.build 38 #[(4,t7_361),(5,t8_320),(6,t19_363)]) fun t20_364=>pw w362 (Instr.buildSlice 23 1 #[(0,t20_364)]) fun t21_366 w365=>
 pp (Instr.build 25 #[(1,t21_366)]) fun t22_367=>so w365 25 t0 t22_367 fun w368=>pq w368 (zn 25 t0) fun r369=>K r369 w368)∧
 (pw w357 (Instr.buildSlice 36 4 #[(0,t11),(1,t14_343),(2,t17_359),(3,t18)]) fun t19_371 w370=>
 pw w370 (Instr.buildSlice 34 3 #[(0,t4),(1,t5_322),(2,t6_324)]) fun t7_373 w372=>
 Ext w370 w372∧
 pp (Instr.build 38 #[(4,t7_373),(5,t8_320),(6,t19_371)]) fun t20_374=>pw w372 (Instr.buildSlice 23 1 #[(0,t20_374)]) fun t21_376 w375=>
 pp (Instr.build 25 #[(1,t21_376)]) fun t22_377=>so w375 25 t0 t22_377 fun w378=>pq w378 (zn 25 t0) fun r379=>K r379 w378)))))))))∧
 (pw w4.drew (Instr.makeSlice 35 (i6 3) (i6 3)) fun t8_381 w380=>
 Ext w4.drew w380∧
 ca xz #[] w380 fun t4_383 w382=>
 Ext w380 w382∧
 ca xz #[] w382 fun t5_385 w384=>
 Ext w382 w384∧
 ca kT #[tr_] w384 fun t6_387 w386=>
 Ext w384 w386∧
 ((pw w386 (Instr.buildSlice 34 3 #[(0,t4_383),(1,t5_385),(2,t6_387)]) fun t7_389 w388=>
 Ext w386 w388∧
 ca zt #[(i6 2)] w388 fun t13_391 w390=>
 Ext w388 w390∧
 pp (Instr.build 87 #[(0,(Value.int .u8 1)),(1,t12),(2,t13_391),(10,(i6 2))]) fun t14_392=>ca zt #[(i6 3)] w390 fun t16_394 w393=>
 Ext w390 w393∧
 pp (Instr.build 87 #[(0,(Value.int .u8 1)),(1,t15),(2,t16_394),(10,(i6 3))]) fun t17_395=>pw w393 (Instr.buildSlice 36 4 #[(0,t11),(1,t14_392),(2,t17_395),(3,t18)]) fun t19_397 w396=>
 pp (Instr.build 38 #[(4,t7_389),(5,t8_381),(6,t19_397)]) fun t20_398=>pw w396 (Instr.buildSlice 23 1 #[(0,t20_398)]) fun t21_400 w399=>
 pp (Instr.build 25 #[(1,t21_400)]) fun t22_401=>so w399 25 t0 t22_401 fun w402=>pq w402 (zn 25 t0) fun r403=>K r403 w402)∧
 (ca zt #[(i6 2)] w386 fun t13_405 w404=>
 Ext w386 w404∧
 pp (Instr.build 87 #[(0,(Value.int .u8 1)),(1,t12),(2,t13_405),(10,(i6 2))]) fun t14_406=>((pw w404 (Instr.buildSlice 34 3 #[(0,t4_383),(1,t5_385),(2,t6_387)]) fun t7_408 w407=>
 Ext w404 w407∧
 ca zt #[(i6 3)] w407 fun t16_410 w409=>
 Ext w407 w409∧
 pp (Instr.build 87 #[(0,(Value.int .u8 1)),(1,t15),(2,t16_410),(10,(i6 3))]) fun t17_411=>pw w409 (Instr.buildSlice 36 4 #[(0,t11),(1,t14_406),(2,t17_411),(3,t18)]) fun t19_413 w412=>
 pp (Instr.build 38 #[(4,t7_408),(5,t8_381),(6,t19_413)]) fun t20_414=>pw w412 (Instr.buildSlice 23 1 #[(0,t20_414)]) fun t21_416 w415=>
 pp (Instr.build 25 #[(1,t21_416)]) fun t22_417=>so w415 25 t0 t22_417 fun w418=>pq w418 (zn 25 t0) fun r419=>K r419 w418)∧
 (ca zt #[(i6 3)] w404 fun t16_421 w420=>
 Ext w404 w420∧
 pp (Instr.build 87 #[(0,(Value.int .u8 1)),(1,t15),(2,t16_421),(10,(i6 3))]) fun t17_422=>((pw w420 (Instr.buildSlice 34 3 #[(0,t4_383),(1,t5_385),(2,t6_387)]) fun t7_424 w423=>
 Ext w420 w423∧
 pw w423 (Instr.buildSlice 36 4 #[(0,t11),(1,t14_406),(2,t17_422),(3,t18)]) fun t19_426 w425=>
 pp (Instr.build 38 #[(4,t7_424),(5,t8_381),(6,t19_426)]) fun t20_427=>pw w425 (Instr.buildSlice 23 1 #[(0,t20_427)]) fun t21_429 w428=>
 pp (Instr.build 25 #[(1,t21_429)]) fun t22_430=>so w428 25 t0 t22_430 fun w431=>pq w431 (zn 25 t0) fun r432=>K r432 w431)∧
 (pw w420 (Instr.buildSlice 36 4 #[(0,t11),(1,t14_406),(2,t17_422),(3,t18)]) fun t19_434 w433=>
 pw w433 (Instr.buildSlice 34 3 #[(0,t4_383),(1,t5_385),(2,t6_387)]) fun t7_436 w435=>
 Ext w433 w435∧
 pp (Instr.build 38 #[(4,t7_436),(5,t8_381),(6,t19_434)]) fun t20_437=>pw w435 (Instr.buildSlice 23 1 #[(0,t20_437)]) fun t21_439 w438=>
 pp (Instr.build 25 #[(1,t21_439)]) fun t22_440=>so w438 25 t0 t22_440 fun w441=>pq w441 (zn 25 t0) fun r442=>K r442 w441))))))))
theorem aee {w : World} {K : VW} (h : J8  w K) : zd prog YH #[] w K:=
 okC false (.s (.r (rz 1 0 2)) (.s (.r (rz 4 0 162)) (.s (.r (ra 4 5 0 (ra 1 11 1 (ra 1 14 0 (.alt 0 .u (.alt 1 .u (.alt 2 .u (.alt 3 .u (.alt 4 .u (ra 2 9 3 (ra 2 12 3 (rz 5 15 546))) (ra 2 9 3 (.alt 4 .u (ra 2 12 3 (rz 5 15 546)) (ra 2 12 3 (.alt 4 .u (rz 5 15 546) (ra 1 15 2 (ra 1 4 3 (rz 4 16 136)))))))) (.alt 4 .u (.alt 3 .u (ra 2 9 3 (ra 2 12 3 (rz 5 15 546))) (ra 2 9 3 (.alt 3 .u (ra 2 12 3 (rz 5 15 546)) (ra 2 12 3 (.alt 3 .u (rz 5 15 546) (ra 1 15 2 (ra 1 3 3 (rz 4 16 136)))))))) (ra 2 9 3 (.alt 3 .u (.alt 4 .u (ra 2 12 3 (rz 5 15 546)) (ra 2 12 3 (.alt 4 .u (rz 5 15 546) (ra 1 15 2 (ra 1 4 3 (rz 4 16 136)))))) (.alt 4 .u (.alt 3 .u (ra 2 12 3 (rz 5 15 546)) (ra 2 12 3 (.alt 3 .u (rz 5 15 546) (ra 1 15 2 (ra 1 3 3 (rz 4 16 136)))))) (ra 2 12 3 (.alt 3 .u (.alt 4 .u (rz 5 15 546) (ra 1 15 2 (ra 1 4 3 (rz 4 16 136)))) (.alt 4 .u (.alt 3 .u (rz 5 15 546) (ra 1 15 2 (ra 1 3 3 (rz 4 16 136)))) (ra 1 15 2 (.alt 3 .u (ra 1 4 3 (rz 4 16 136)) (ra 1 4 3 (ra 1 3 3 (rz 4 16 136))))))))))))) (ra 1 4 3 (ra 1 2 3 (.alt 3 .u (ra 2 9 3 (ra 2 12 3 (rz 5 15 546))) (ra 2 9 3 (.alt 3 .u (ra 2 12 3 (rz 5 15 546)) (ra 2 12 3 (.alt 3 .u (rz 5 15 546) (ra 1 15 2 (ra 1 3 3 (rz 4 16 136))))))))))) (ra 1 4 3 (ra 2 1 15 (.alt 3 .u (ra 2 9 3 (ra 2 12 3 (rz 5 15 546))) (ra 2 9 3 (.alt 3 .u (ra 2 12 3 (rz 5 15 546)) (ra 2 12 3 (.alt 3 .u (rz 5 15 546) (ra 1 15 2 (ra 1 3 3 (rz 4 16 136))))))))))) (ra 1 4 3 (ra 3 0 63 (.alt 3 .u (ra 2 9 3 (ra 2 12 3 (rz 5 15 546))) (ra 2 9 3 (.alt 3 .u (ra 2 12 3 (rz 5 15 546)) (ra 2 12 3 (.alt 3 .u (rz 5 15 546) (ra 1 15 2 (ra 1 3 3 (rz 4 16 136))))))))))))))) (.n)))) func72 rfl (by kernel_rfl) (by kernel_rfl) h
def V7 (w : World) (K : VW) : Prop:=
 pw w (Instr.alloc 138 true (.tuple #[])) fun t0 w1=>
 pp (Instr.build 138 #[(0,(Value.int .u8 1))]) fun t1=>so w1 138 t0 t1 fun w2=>pq w2 (zn 138 t0) fun r3=>K r3 w2
theorem afJ {w : World} {K : VW} (h : V7  w K) : zd prog xz #[] w K:=
 okC false (.s (.r (rz 1 0 2)) (.s (.r (rz 2 0 8)) (.n))) func105 rfl (by kernel_rfl) (by kernel_rfl) h
def V8 (t0 : Value) (w : World) (K : VW) : Prop:=
 pw w (Instr.alloc 138 true (.tuple #[])) fun t2 w1=>
 ca xz #[] w1 fun t4 w2=>
 pw w2 (Instr.buildSlice 34 1 #[(0,t4)]) fun t5 w3=>
 pp (Instr.build 138 #[(0,(Value.int .u8 4)),(1,t0),(2,(i6 (-1))),(4,t5)]) fun t6=>so w3 138 t2 t6 fun w4=>pq w4 (zn 138 t2) fun r5=>K r5 w4
theorem afK {t0 : Value} {w : World} {K : VW} (h : V8 t0 w K) : zd prog kT #[t0] w K:=
 okC false (.s (.r (rz 1 0 2)) (.s (.r (rz 5 0 552)) (.n))) func106 rfl (by kernel_rfl) (by kernel_rfl) h
def V9 (t0 : Value) (w : World) (K : VW) : Prop:=
 pw w (Instr.alloc 84 true (.tuple #[])) fun t2 w1=>
 pp (Instr.build 84 #[(0,(Value.int .u8 1)),(1,t0)]) fun t4=>so w1 84 t2 t4 fun w2=>pq w2 (zn 84 t2) fun r3=>K r3 w2
theorem afL {t0 : Value} {w : World} {K : VW} (h : V9 t0 w K) : zd prog zt #[t0] w K:=
 okC false (.s (.r (rz 1 0 2)) (.s (.r (rz 3 0 32)) (.n))) func107 rfl (by kernel_rfl) (by kernel_rfl) h
end Go.Proofs.Tryz
end
section
namespace Go.Sh
section
variable {w : World} {b c d : Bool} {A1 : (List Value→World→Prop)→Prop} {A2 : (List Value→World→Prop)→World→Prop} {Z : Value→World→Prop}
theorem agN (R : World→Prop) (h1 : b=false→∀ K : List Value→World→Prop,K [.bool c] w→A1 K) (h2 : b=false→c=true→∀ K : List Value→World→Prop,(∀ w',R w'→K [.bool d] w')→A2 K w)
  (hR : R w) (hZ : ∀ w',R w'→Z (.bool (b||(c&&d))) w') :
  za (fun K=>gIf (.bool b) false (A1 K) (K [undef] w)) fun s20 _d w22=>
  za (fun K=>gIf (s20.getD 0 undef) true (A2 K w22) (K [undef] w22)) fun s24 _d w26=>
  za (fun K=>gIf (.bool b) false (zb (s20.getD 0 undef) (s24.getD 0 undef) (.bool false) fun t=>K [t] w26) (K [undef] w26)) fun s28 _d w30=>
  zb (.bool b) (.bool true) (s28.getD 0 undef) fun t=>Z t w30:=by
 cases b with
 |true=>
  intro K hK;refine hK _ _ fun _=>?_
  intro K hK;refine hK _ _ fun _=>?_
  intro K hK;refine hK _ _ fun _=>?_
  exact ⟨true,rfl,hZ _ hR⟩
 |false=>
 intro K hK;refine h1 rfl _ (hK _ _ fun _=>?_);clear hK K
 cases c with
 |false=>
  intro K hK;refine hK _ _ fun _=>?_
  intro K hK;refine ⟨false,rfl,hK _ _ fun _=>?_⟩
  exact ⟨false,rfl,hZ _ hR⟩
 |true=>
  intro K hK;refine h2 rfl rfl _ fun w' hw'=>hK _ _ fun _=>?_;clear hK K
  intro K hK;refine ⟨true,rfl,hK _ _ fun _=>?_⟩
  exact ⟨false,rfl,hZ _ hw'⟩
end
end Go.Sh
end
section
namespace Go.Proofs
open Go.Sh Go.RowKit
set_option maxRecDepth 100000
set_option linter.unusedSimpArgs false
set_option linter.unusedVariables false
theorem agc {p : PlD} {c : List Value} {w : World} {r : Gh} {K : Value→World→Prop} (hr : Holds r w) (hp : PlG r c p)
  (h : ∀ w',Ext w w'→K (.bool (decide (-1 ∈ p.ps))) w') : zd Tryz.prog Tryz.ZP #[.agg c.toArray] w K:=by
 refine Tryz.acS ?_
 unfold Tryz.QT
 obtain ⟨v,rfl,hl⟩:=hp
 obtain ⟨qs,caps,rfl,_,_⟩:=hl.sl.shape
 have hf : p.ps.length≤9223372036854775807:=hl.few
 have S:=St.start hr
 refine S.box fun b1 w1 S=>?_
 have S : StX noX w r w1 [.cell b1 [.int .i64 p.l,.slice qs p.ps.length caps] 81]:=S
 refine zi (ι:=Nat) (fun i=>[.int .i64 (i : Nat)]) (fun i w'=>i≤p.ps.length∧-1 ∉ p.ps.take i∧StX noX w r w' [.cell b1 [.int .i64 p.l,.slice qs p.ps.length caps] 81]) (fun i=>p.ps.length - i) 0 rfl ⟨Nat.zero_le _,by simp,S⟩ ?_
 repeat clear S
 rintro i d w5 ⟨hi,hn,S⟩ K2 hK2
 simp only [List.getD_cons_zero]
 refine gg_ ?_
 refine zk (fun hlt=>?_) (fun hge=>?_)
 ·have hlt : i<p.ps.length:=by omega
  obtain ⟨b,off,rfl,_,hc⟩:=agH hl.sl hlt
  refine gg_ ?_
  refine zg (by rw [Int.toNat_natCast];exact S.at hc) ?_
  refine gg_ ?_
  refine zk (fun he=>?_) (fun he=>?_)
  ·rw [decide_eq_true (show -1 ∈ p.ps by rw [← he];exact List.getElem_mem hlt)] at h
   exact h _ S.ext
  ·refine gp_ ?_
   refine hK2 (i+1) _ ⟨hlt,?_,S⟩ (by omega)
   rw [List.take_succ_eq_append_getElem hlt,List.mem_append,List.mem_singleton]
   exact fun h=>h.elim hn fun e=>he e.symm
 ·have hie : i=p.ps.length:=by omega
  subst hie
  rw [List.take_length] at hn
  rw [decide_eq_false hn] at h
  exact h _ S.ext
theorem ahr {p : PtD} {x : Int} : Qr p x=(((refOps p).any fun o=>kZ o&&decide (o.pl.l=x))||(((decide (p.op=4)&&decide (p.fr.l=x))||(decide (p.op=14)&&decide (x=0)))||((xC p&&decide (-1 ∈ p.to.ps))&&decide (p.to.l=x)))):=rfl
set_option maxHeartbeats 2000000 in
theorem Qy {p : PtD} {x : Int} {c : List Value} {w : World} {r : Gh} {K : Value→World→Prop} (hr : Holds r w) (hp : PtG r c p) (hb : p.args.length≤1000)
  (h : ∀ w',Ext w w'→K (.bool (Qr p x)) w') : zd Tryz.prog Tryz.qD #[.agg c.toArray,.int .i64 x] w K:=by
 refine Tryz.aea ?_
 unfold Tryz.J4
 obtain ⟨z1,z2,z3,z4,z5,t1,t2,t3,t4,t5,rfl,hp0⟩:=yN hp
 obtain ⟨kto,ka,kb,kl,kf⟩:=Qm hp0
 have S:=St.start hr
 refine S.box fun b2 w1 S=>?_
 have S : StX noX w r w1 [.cell b2 (ptL p z1 z2 z3 z4 z5 t1 t2 t3 t4 t5) 87]:=S
 refine S.ldB (b:=b2) ?_ rfl
 refine aaH S.holds hp0.up hb fun v8 s w2 e2 n2 h8=>?_
 obtain ⟨S,_,a2⟩:=S.tell e2 n2
 have hol : (refOps p).length≤1002:=by
  rw [refOps,List.length_append,List.length_append]
  have h1 : (if p.a.k≠0 then [p.a] else []).length≤1:=by split<;>simp
  have h2 : (if p.b.k≠0 then [p.b] else []).length≤1:=by split<;>simp
  omega
 rw [ahr] at h
 generalize refOps p=ops at h8 hol h
 obtain ⟨q8,c8,rfl,_,_⟩:=h8.shape
 refine zi (ι:=Nat) (fun i=>[.int .i64 (i : Nat)]) (fun i w'=>i≤ops.length∧((ops.take i).any fun o=>kZ o&&decide (o.pl.l=x))=false∧StX noX w (r.or s) w' [.cell b2 (ptL p z1 z2 z3 z4 z5 t1 t2 t3 t4 t5) 87]) (fun i=>ops.length - i) 0 rfl ⟨Nat.zero_le _,by simp,S⟩ ?_
 repeat clear S
 rintro i d w6 ⟨hi,hn,S⟩ K3 hK3
 simp only [List.getD_cons_zero]
 refine gg_ ?_
 refine zk (fun hlt=>?_) (fun hge=>?_)
 ·have hlt : i<ops.length:=by omega
  obtain ⟨bo,oo,co,hqo,hcl,hoc,hoo⟩:=h8.get (by decide) hlt
  have ht : ((ops.take (i+1)).any fun o=>kZ o&&decide (o.pl.l=x))=(((ops.take i).any fun o=>kZ o&&decide (o.pl.l=x))||(kZ ops[i]&&decide (ops[i].pl.l=x))):=by
   rw [List.take_succ_eq_append_getElem hlt,List.any_append];simp only [List.any_cons,List.any_nil,Bool.or_false]
  have hall : (kZ ops[i]&&decide (ops[i].pl.l=x))=true→(ops.any fun o=>kZ o&&decide (o.pl.l=x))=true:=fun hh=>List.any_eq_true.2 ⟨_,List.getElem_mem hlt,hh⟩
  generalize ops[i]=o at hoc ht hall
  obtain ⟨qo,ko,rfl⟩:=acz hoc
  cases hqo
  refine gg_ ?_
  refine zg (by rw [Int.toNat_natCast];exact S.at (hoo 0 _ rfl)) ?_
  refine gg_ ?_
  refine zj (c:=decide (o.k=4)) (fun _ K2 hK2=>?_) ?_
  ·refine gg_ ?_
   refine zg (by rw [Int.toNat_natCast];exact S.at (hoo 0 _ rfl)) ?_
   refine gg_ ?_
   exact hK2
  have hpl : kZ o=(decide (o.k=3)||decide (o.k=4)):=rfl
  rw [← hpl]
  refine zf (c:=decide (o.pl.l=x)) (fun _ K2 hK2=>?_) ?_
  ·refine gg_ ?_
   refine zg (by rw [Int.toNat_natCast];exact S.at (hoo 2 _ rfl)) ?_
   refine gg_ ?_
   exact hK2
  refine c_b (fun hb=>?_) (fun hb=>?_)
  ·rw [hall hb,Bool.true_or] at h
   exact h _ S.ext
  ·refine gp_ ?_
   refine hK3 (i+1) _ ⟨hlt,?_,S⟩ (by omega)
   rw [ht,hn,hb];rfl
 have hie : i=ops.length:=by omega
 subst hie
 rw [List.take_length] at hn
 rw [hn,Bool.false_or] at h
 clear hK3 K3 hge hi d h8
 refine gg_ ?_
 refine zf (c:=decide (p.fr.l=x)) (fun _ K2 hK2=>by refine gg_ ?_;exact hK2) ?_
 refine agN (c:=decide (p.op=14)) (d:=decide (x=0)) (fun w'=>w'=w6) (fun _ K2 hK2=>by refine gg_ ?_;exact hK2) (fun _ _ K2 hK2=>by refine gg_ ?_;exact hK2 _ rfl) rfl ?_
 rintro _ rfl
 refine c_b (fun hb=>?_) (fun hb=>?_)
 ·rw [hb,Bool.true_or] at h
  exact h _ S.ext
 rw [hb,Bool.false_or] at h
 refine S.ldB (b:=b2) ?_ rfl
 refine Xk S.holds hp0.up fun w31 e31=>?_
 have S:=S.go e31
 have hasg : (decide (1≤p.op)&&decide (p.op≤8))=xC p:=rfl
 rw [hasg]
 refine zr (c:=decide (-1 ∈ p.to.ps)) (fun _ K2 hK2=>?_) fun w35 e35=>?_
 ·refine gg_ ?_
  refine S.ldN (b:=b2) (vs:=[.int .i64 p.to.l,.slice z1 p.to.ps.length t1]) ?_
  refine agc S.holds (p:=p.to) kto.up fun w36 e36=>?_
  exact hK2 _ e36
 have S:=S.go e35
 refine zf (c:=decide (p.to.l=x)) (fun _ K2 hK2=>by refine gg_ ?_;exact hK2) ?_
 exact h _ S.ext
set_option maxHeartbeats 2000000 in
theorem Qz {p : PtD} {x : Int} {c : List Value} {w : World} {r : Gh} {K : Value→World→Prop} (hr : Holds r w) (hp : PtG r c p) (hb : p.args.length≤1000)
  (h : ∀ w',Ext w w'→K (.bool (ael p x)) w') : zd Tryz.prog Tryz.qE #[.agg c.toArray,.int .i64 x] w K:=by
 refine Tryz.aeb ?_
 unfold Tryz.J5
 obtain ⟨z1,z2,z3,z4,z5,t1,t2,t3,t4,t5,rfl,hp0⟩:=yN hp
 obtain ⟨kto,ka,kb,kl,kf⟩:=Qm hp0
 have S:=St.start hr
 refine S.box fun b2 w1 S=>?_
 have S : StX noX w r w1 [.cell b2 (ptL p z1 z2 z3 z4 z5 t1 t2 t3 t4 t5) 87]:=S
 refine S.ldB (b:=b2) ?_ rfl
 refine Xk S.holds hp0.up fun w2 e2=>?_
 have S:=S.go e2
 have hasg : (decide (1≤p.op)&&decide (p.op≤8))=xC p:=rfl
 rw [hasg]
 refine zf (c:=decide (p.to.ps.length=0)) (fun _ K2 hK2=>?_) ?_
 ·refine gg_ ?_
  have e : decide ((p.to.ps.length : Int)=0)=decide (p.to.ps.length=0):=by rw [decide_eq_decide];omega
  rw [e]
  exact hK2
 refine zf (c:=decide (p.to.l=x)) (fun _ K2 hK2=>by refine gg_ ?_;exact hK2) ?_
 refine gg_ ?_
 refine zf (c:=decide (p.fr.l=x)) (fun _ K2 hK2=>by refine gg_ ?_;exact hK2) ?_
 refine zj (c:=decide (p.op=11)&&decide (p.fr.l=x)) (fun _ K2 hK2=>hK2) ?_
 refine zr (c:=!Qr p x) (fun _ K2 hK2=>?_) fun w22 e22=>?_
 ·refine S.ldB (b:=b2) ?_ rfl
  refine Qy S.holds hp0.up hb fun w23 e23=>?_
  refine gp_ ?_
  exact hK2 _ e23
 exact h _ (S.go e22).ext
theorem ahs {a b : List Int} {va vb : Value} {w : World} {r : Gh} {K : Value→World→Prop} (hr : Holds r w) (ha : SlG 1 r zH va a) (hb : SlG 1 r zH vb b) (hl : a.length=b.length) (hf : a.length≤1000000)
  (h : ∀ w',Ext w w'→K (.bool (ltB a b)) w') : zd Tryz.prog Tryz.YE #[va,vb] w K:=by
 refine Tryz.aec ?_
 unfold Tryz.J6
 obtain ⟨pa,ca,rfl,_,_⟩:=ha.shape
 obtain ⟨pb,cb,rfl,_,_⟩:=hb.shape
 have S:=St.start hr
 refine zi (ι:=Nat) (fun i=>[.int .i64 (i : Nat)]) (fun i w'=>i≤a.length∧a.take i=b.take i∧StX noX w r w' []) (fun i=>a.length - i) 0 rfl ⟨Nat.zero_le _,by simp,S⟩ ?_
 repeat clear S
 rintro i d w4 ⟨hi,he,S⟩ K1 hK1
 rw [List.getD_cons_zero]
 refine gg_ ?_
 refine zk (fun hlt=>?_) (fun hge=>?_)
 ·have hlt : i<a.length:=by omega
  have hltb : i<b.length:=by omega
  obtain ⟨b1,o1,rfl,_,g1⟩:=zY ha hlt
  obtain ⟨b2,o2,rfl,_,g2⟩:=zY hb hltb
  have S:=S.go (Ext.drew _)
  refine gg_ ?_
  refine zg (by rw [Int.toNat_natCast];exact S.at g1) ?_
  refine gg_ ?_
  refine zg (by rw [Int.toNat_natCast];exact S.at g2) ?_
  refine gg_ ?_
  refine zk (fun hne=>?_) (fun hz=>?_)
  ·have S:=S.go (Ext.drew _)
   refine gg_ ?_
   refine zg (by rw [Int.toNat_natCast];exact S.at g1) ?_
   refine gg_ ?_
   refine zg (by rw [Int.toNat_natCast];exact S.at g2) ?_
   refine gg_ ?_
   rw [aip he hlt hltb hne] at h
   exact h _ S.ext
  ·have hz : a[i]=b[i]:=Decidable.not_not.1 hz
   refine gg_ ?_
   refine hK1 (i+1) _ ⟨hlt,?_,S⟩ (by omega)
   rw [List.take_succ_eq_append_getElem hlt,List.take_succ_eq_append_getElem hltb,he,hz]
 ·have hie : i=a.length:=by omega
  subst hie
  rw [agK he hl] at h
  exact h _ S.ext
end Go.Proofs
end
section
namespace Go.Proofs
open Go.Sh Go.RowKit Go.BM
set_option maxRecDepth 100000
set_option linter.unusedSimpArgs false
set_option linter.unusedVariables false
theorem ais {W : Int} {ws : List (BitVec 64)} {c : List Value} {w : World} {r : Gh} {K : Value→World→Prop} (hr : Holds r w) (hx : RwbC r c (W,ws))
  (h : ∀ w',Ext w w'→K (.bool (BM.mayB W ws)) w') : zd Tryz.prog Tryz.XG #[.agg c.toArray] w K:=by
 refine Tryz.afy ?_
 unfold Tryz.V3
 obtain ⟨p,cap,rfl,hS⟩:=hx
 have hfew : ws.length≤9223372036854775807:=hS.few
 have S:=St.start hr
 refine S.box fun b1 w1 S=>?_
 have S : StX noX w r w1 [.cell b1 [.int .i64 W,.slice p ws.length cap] 72]:=S
 refine gg_ ?_
 refine zj (c:=decide (1032<W)) (fun _ K2 hK2=>by refine gg_ ?_;exact hK2) ?_
 refine zj (c:=decide ((ws.length : Int)≠(W+63) / 64)) (fun hb K2 hK2=>?_) ?_
 ·simp only [Bool.or_eq_false_iff,decide_eq_false_iff_not] at hb
  refine gg_ ?_
  exact hK2
 refine c_b (fun hb=>?_) (fun hb=>?_)
 ·rw [BM.mayB_false (fun hm=>by
   simp only [Bool.or_eq_true,decide_eq_true_eq] at hb
   have:=hm.1;have:=hm.2.1;have:=hm.2.2.1
   omega)] at h
  exact h _ S.ext
 simp only [Bool.or_eq_false_iff,decide_eq_false_iff_not,Decidable.not_not] at hb
 obtain ⟨⟨h0,h1⟩,h2⟩:=hb
 obtain ⟨k,rfl⟩ : ∃ k : Nat,W=(k : Int):=⟨W.toNat,by omega⟩
 refine gg_ ?_
 refine zi (ι:=Nat) (fun i=>[.int .i64 (i : Nat)]) (fun i w'=>k≤i∧i≤64*ws.length∧(∀ j,k≤j→j<i→bit ws j=false)∧StX noX w r w' [.cell b1 [.int .i64 k,.slice p ws.length cap] 72]) (fun i=>64*ws.length - i) k rfl ⟨Nat.le_refl _,by omega,fun j h1 h2=>by omega,S⟩ ?_
 repeat clear S
 rintro i d w13 ⟨hki,hi,hz,S⟩ K10 hK10
 rw [List.getD_cons_zero]
 refine gg_ ?_
 refine zk (fun hlt=>?_) (fun hge=>?_)
 ·have hlt : i<64*ws.length:=by omega
  have hlt2 : i / 64<ws.length:=by omega
  obtain ⟨b2,o2,rfl,_,hc⟩:=ab0 hS.sl hlt2
  have hB : bit ws i=decide (((ws[i / 64] >>> (i % 64)) &&& BitVec.ofInt 64 1).toNat=(1 : Int)):=by
   rw [bit,List.getD_eq_getElem?_getD,List.getElem?_eq_getElem hlt2,Option.getD_some,Bool.eq_iff_iff,decide_eq_true_eq,Xr]
  have hzn : bit ws i=false→∀ j,k≤j→j<i+1→bit ws j=false:=fun hh j h1 h2=>by
   rcases Nat.lt_or_ge j i with h3|h3
   ·exact hz j h1 h3
   ·rw [show j=i by omega];exact hh
  have hmb : bit ws i=true→BM.mayB k ws=false:=fun hh=>BM.mayB_false fun hm=>by
   rw [hm.2.2.2 i (by omega) hlt] at hh;cases hh
  rw [hB] at hzn hmb
  generalize ws[i / 64]=x at hc hzn hmb
  refine gg_ ?_
  refine zg (by rw [show ((i : Int) / 64).toNat=i / 64 by omega];exact S.at hc) ?_
  refine gg_ ?_
  rw [show ((i : Int) % 64).toNat=i % 64 by omega]
  refine c_b (fun hb=>?_) (fun hb=>?_)
  ·rw [hmb hb] at h
   exact h _ S.ext
  ·refine gp_ ?_
   exact hK10 (i+1) _ ⟨by omega,hlt,hzn hb,S⟩ (by omega)
 ·have hie : i=64*ws.length:=by omega
  rw [BM.mayB_true ⟨by omega,by omega,by omega,fun j h1 h2=>hz j (by omega) (by omega)⟩] at h
  exact h _ S.ext
end Go.Proofs
end
section
namespace Go.Proofs
open Go.Sh Go.RowKit
set_option maxRecDepth 100000
set_option linter.unusedSimpArgs false
set_option linter.unusedVariables false
theorem agO {g : GrD} {q x : Int} {p : PtD} (hF : LkF g) (hp : g.pts[q.toNat]? = some p) : Qr p x=decide (Usd g x q):=by
 obtain ⟨u,hu⟩:=hF.pt
 rw [afm (hu p (List.mem_of_getElem? hp)),decide_eq_decide,Usd,aaJ,hp]
theorem acU {g : GrD} {q x : Int} {p : PtD} (hF : LkF g) (hp : g.pts[q.toNat]? = some p) : ael p x=decide (zD g x q):=by
 obtain ⟨u,hu⟩:=hF.pt
 rw [ajp (hu p (List.mem_of_getElem? hp)),decide_eq_decide,zD,JO,hp]
def isJ (g : GrD) (x q : Int) (m : List Bool) (j : Nat) : Bool:=decide (Usd g x q)||(!decide (zD g x q)&&((nxt (zh g) q).take j).any fun p=>mk' m p)
theorem ajP {g : GrD} {x q : Int} {m : List Bool} : isJ g x q m 0=decide (Usd g x q):=by simp [isJ]
theorem ajQ {g : GrD} {x q : Int} {m : List Bool} {j : Nat} (hj : j<(nxt (zh g) q).length) (hE : decide (zD g x q)=false) : isJ g x q m (j+1)=(isJ g x q m j||mk' m (nxt (zh g) q)[j]):=by
 rw [isJ,isJ,hE,List.take_succ_eq_append_getElem hj,List.any_append]
 simp [Bool.or_assoc]
theorem akO {g : GrD} {x q : Int} {m : List Bool} {j : Nat} (h : (decide (j<(nxt (zh g) q).length) && !decide (zD g x q))=false) : isJ g x q m j=xx g x m q:=by
 rw [isJ,xx]
 cases hE : decide (zD g x q) with
 |true=>rfl
 |false=>
  rw [hE,Bool.not_false,Bool.and_true,decide_eq_false_iff_not] at h
  rw [List.take_of_length_le (by omega)]
end Go.Proofs
end
section
namespace Go.Proofs
open Go.Sh Go.RowKit
set_option maxRecDepth 100000
set_option linter.unusedSimpArgs false
set_option linter.unusedVariables false
def ajR : Value→Bool|.slice p _ _=>p.isNone|_=>true
theorem alD {n : zz} {q p : Int} {W w : List Int} (h : wayE n q p W=some w) : w≠[]:=by
 obtain ⟨r,rfl,hr⟩:=(jW.1 h).1
 simp
theorem akP {s : Gh} {v : Value} {l : List Int} (h : SlG 1 s zH v l) (hl : l≠[]) : ajR v=false:=by
 obtain ⟨p,cap,rfl,h1,h2⟩:=h.shape
 have:=List.length_pos_iff.2 hl
 cases p with
 |none=>have:=h1 rfl;omega
 |some _=>rfl
theorem akQ {o : Option (List Int)} {w : List Int} {b : Bool} (hb : b = !o.isSome) : (b||(decide (((w.length : Nat) : Int)<((o.getD []).length : Nat))||(decide (((w.length : Nat) : Int)=((o.getD []).length : Nat))&&ltB w (o.getD []))))=afp o w:=by
 rw [hb];exact aiq
set_option maxHeartbeats 4000000 in
theorem ait {g : GrD} {x q : Int} {c : List Value} {w : World} {r : Gh} {K : Value→World→Prop} (hr : Holds r w) (hg : GrG r c g) (hF : LkF g) (hqN : isN (zh g) q)
  (h : ∀ v' s w',Ext w w'→New w s w'→SlG 1 s zH v' ((ZN g x q).getD [])→K (.tuple #[v',.bool (ZN g x q).isSome]) w') : zd Tryz.prog Tryz.XF #[.agg c.toArray,.int .i64 x,.int .i64 q] w K:=by
 refine Tryz.afI ?_
 unfold Tryz.V6
 obtain ⟨x1,x2,x3,x4,y1,y2,y3,y4,rfl,hg1⟩:=jT hg
 obtain ⟨_,_,_,_,hEE,m1,m2,m3,m4⟩:=id hg1
 cases hEE
 have hnf:=hF.net.few
 have hgl:=zS (g:=g)
 have hok:=hF.net.ok
 have q0:=hqN.1;have q1:=hqN.2
 have hlq : q.toNat<g.pts.length:=by omega
 have hpq : g.pts[q.toNat]? = some g.pts[q.toNat]:=List.getElem?_eq_getElem hlq
 have hpqm:=List.getElem_mem hlq
 obtain ⟨bq,oq,cq,hqp,hcq,hqc,hqo⟩:=m4.sl.get (by decide) hlq
 cases hqp
 have hargq:=hF.args _ hpqm
 have henq:=acU (x:=x) hF hpq
 generalize g.pts[q.toNat]=pq at hqc hargq henq
 have S:=St.start hr
 refine S.box fun b3 w1 S=>?_
 have S:=S.ownNil 3 1
 have S : StX noX w r w1 [.row (.slice none 0 0) 3 1 (yI (zD g x) 0).length (ints (yI (zD g x) 0)),.cell b3 (grL g x1 x2 x3 (some ⟨bq,oq,none⟩) y1 y2 y3 y4) 38]:=S
 refine zi (ι:=Nat × Value) (fun i=>[i.2,.int .i64 (i.1 : Nat)]) (fun i w'=>i.1≤g.pts.length∧StX noX w r w' [.row i.2 3 1 (yI (zD g x) i.1).length (ints (yI (zD g x) i.1)),.cell b3 (grL g x1 x2 x3 (some ⟨bq,oq,none⟩) y1 y2 y3 y4) 38]) (fun i=>g.pts.length - i.1) (0,.slice none 0 0) rfl ⟨Nat.zero_le _,S⟩ ?_
 repeat clear S
 rintro ⟨i,ve⟩ d w5 ⟨hi,S⟩ K2 hK2
 simp only at hi S ⊢
 simp only [List.getD_cons_zero,List.getD_cons_succ]
 refine gg_ ?_
 refine zk (fun hlt=>?_) (fun hge=>?_)
 ·have hlt : i<g.pts.length:=by omega
  have hp : g.pts[((i : Nat) : Int).toNat]? = some g.pts[i]:=by rw [Int.toNat_natCast];exact List.getElem?_eq_getElem hlt
  have hpm:=List.getElem_mem hlt
  obtain ⟨bp,op,cp,hqp,hcp,hpc,hpo⟩:=m4.sl.get (by decide) hlt
  cases hqp
  have hargs:=hF.args _ hpm
  have hen:=acU (x:=x) hF hp
  generalize g.pts[i]=p at hpc hargs hen
  obtain ⟨z1,z2,z3,z4,z5,t1,t2,t3,t4,t5,rfl,hp0⟩:=yN hpc
  have hef:=aaT (P:=zD g x) (i:=i)
  have hnE:=Xq (P:=zD g x) (i:=i)
  refine zp (fun y w'=>∃ ve',y = [ve']∧StX noX w r w' [.row ve' 3 1 (yI (zD g x) (i+1)).length (ints (yI (zD g x) (i+1))),.cell b3 (grL g x1 x2 x3 (some ⟨bq,oq,none⟩) y1 y2 y3 y4) 38]) (fun K6 hK6=>?_) ?_
  ·refine gg_ ?_
   refine zq (n:=21) hcp (fun j v hj=>by rw [Int.toNat_natCast];exact S.at (hpo j v hj)) ?_
   refine Qz S.holds hpc.up hargs fun w10 e10=>?_
   have S:=S.go e10
   rw [hen]
   refine zk (fun hE=>?_) (fun hE=>?_)
   ·rw [if_pos (show zD g x i from hE)] at hnE
    refine S.lit (e:=3) (cs:=[.int .i64 (i : Nat)]) (by kernel_rfl) fun b9 w9 S=>?_
    refine S.ap (v:=ve) (m':=1) (Sl.blk (S.blk b9)) (fun v4 w10 S=>?_) (by omega)
    refine hK6 _ _ ⟨v4,rfl,?_⟩
    rw [hnE,List.length_append,yX]
    exact S.drop b9
   ·rw [if_neg (show ¬ zD g x i from hE),List.append_nil] at hnE
    refine hK6 _ _ ⟨ve,rfl,?_⟩
    rw [hnE]
    exact S
  repeat clear S
  rintro _ w9 ⟨ve',rfl,S⟩ d
  rw [List.getD_cons_zero]
  refine gg_ ?_
  exact hK2 (i+1,ve') _ ⟨hlt,S⟩ (by show g.pts.length - (i+1)<g.pts.length - i;omega)
 have hie : i=(zh g).length:=by omega
 clear hK2 K2 hge hi d
 subst hie
 rw [Qx] at S
 have hWf : (ptsW g (zD g x)).length≤(zh g).length:=aaM
 have hWN : ∀ y ∈ ptsW g (zD g x),isN (zh g) y:=fun y hy=>(aaL.1 hy).1
 rw [ZN] at h
 generalize ptsW g (zD g x)=W at S h hWf hWN
 obtain ⟨sE,T,hsE,_,_⟩:=S.doneRow yk (by decide) rfl
 repeat clear S
 have S:=T.new (Ext.refl _) New.nothing
 clear T
 refine zi (ι:=Nat × Value × Gh) (fun i=>[i.2.1,.int .i64 (i.1 : Nat)])
  (fun i w'=>i.1≤g.pts.length∧StX noX w ((r.or sE).or i.2.2) w' [.cell b3 (grL g x1 x2 x3 (some ⟨bq,oq,none⟩) y1 y2 y3 y4) 38]∧Above w i.2.2∧ajR i.2.1 = !((yI (Usd g x) i.1).foldl (x9 (zh g) W q (decide (zD g x q))) none).isSome∧SlG 1 i.2.2 zH i.2.1 (((yI (Usd g x) i.1).foldl (x9 (zh g) W q (decide (zD g x q))) none).getD []))
  (fun i=>g.pts.length - i.1) (0,.slice none 0 0,nothing) rfl ⟨Nat.zero_le _,S,Above.no,rfl,SlG.nil⟩ ?_
 repeat clear S
 rintro ⟨i,v1,τ⟩ d w16 ⟨hi,S,hτ,hnl,hv1⟩ K13 hK13
 simp only at hi S hτ hnl hv1 ⊢
 simp only [List.getD_cons_zero,List.getD_cons_succ]
 refine gg_ ?_
 refine zk (fun hlt=>?_) (fun hge=>?_)
 ·have hlt : i<g.pts.length:=by omega
  have hiN : isN (zh g) (i : Int):=⟨by omega,by omega⟩
  have hp : g.pts[((i : Nat) : Int).toNat]? = some g.pts[i]:=by rw [Int.toNat_natCast];exact List.getElem?_eq_getElem hlt
  have hpm:=List.getElem_mem hlt
  obtain ⟨bp,op,cp,hqp,hcp,hpc,hpo⟩:=m4.sl.get (by decide) hlt
  cases hqp
  have hargs:=hF.args _ hpm
  have hus:=agO (x:=x) hF hp
  generalize g.pts[i]=p at hpc hargs hus
  have hnU:=Xq (P:=Usd g x) (i:=i)
  have hK13:=fun v1 τ w' (S : StX noX w ((r.or sE).or τ) w' [.cell b3 (grL g x1 x2 x3 (some ⟨bq,oq,none⟩) y1 y2 y3 y4) 38]) (hτ : Above w τ) hn hv=>hK13 (i+1,v1,τ) w' ⟨hlt,S,hτ,hn,hv⟩ (by show g.pts.length - (i+1)<g.pts.length - i;omega)
  simp only at hK13
  rw [hnU,List.foldl_append] at hK13
  generalize (yI (Usd g x) i).foldl (x9 (zh g) W q (decide (zD g x q))) none=o at hK13 hv1 hnl
  generalize hO : (if Usd g x (i : Int) then [(i : Int)] else []).foldl (x9 (zh g) W q (decide (zD g x q))) o=o' at hK13
  obtain ⟨z1,z2,z3,z4,z5,t1,t2,t3,t4,t5,rfl,hp0⟩:=yN hpc
  obtain ⟨u1,u2,u3,u4,u5,k1,k2,k3,k4,k5,rfl,hq0⟩:=yN hqc
  refine zp (fun y w'=>∃ v' τ',y = [v']∧StX noX w ((r.or sE).or τ') w' [.cell b3 (grL g x1 x2 x3 (some ⟨bq,oq,none⟩) y1 y2 y3 y4) 38]∧Above w τ'∧ajR v' = !o'.isSome∧SlG 1 τ' zH v' (o'.getD [])) (fun K17 hK17=>?_) ?_
  ·refine gg_ ?_
   refine zq (n:=21) hcp (fun j v hj=>by rw [Int.toNat_natCast];exact S.at (hpo j v hj)) ?_
   refine Qy S.holds hpc.up hargs fun w21 e21=>?_
   have S:=S.go e21
   rw [hus]
   refine gp_ ?_
   refine agN (c:=decide ((i : Int)≠q)) (d:=decide (zD g x q)) (fun w'=>Ext w21 w') (fun _ K2 hK2=>by refine gg_ ?_;exact hK2) (fun _ _ K2 hK2=>?_) (Ext.refl _) fun w34 e34=>?_
   ·refine gg_ ?_
    refine zq (n:=21) hcq (fun j v hj=>S.at (hqo j v hj)) ?_
    refine Qz S.holds hqc.up hargq fun w30 e30=>?_
    rw [henq]
    exact hK2 _ e30
   have S:=S.go e34
   refine c_b (fun hb=>?_) (fun hb=>?_)
   ·have hoo : o'=o:=by
     rw [← hO]
     by_cases hU : Usd g x (i : Int)
     ·rw [decide_eq_true hU,Bool.not_true,Bool.false_or] at hb
      rw [if_pos hU,List.foldl_cons,List.foldl_nil,adz hb]
     ·rw [if_neg hU];rfl
    subst hoo
    exact hK17 _ _ ⟨v1,τ,rfl,S,hτ,hnl,hv1⟩
   rw [Bool.or_eq_false_iff,Bool.not_eq_false',decide_eq_true_eq] at hb
   obtain ⟨hU,hb⟩:=hb
   rw [if_pos hU,List.foldl_cons,List.foldl_nil,acP hb] at hO
   refine S.ldB (b:=b3) ?_ rfl
   refine aih S.holds hg1.up hF.net hqN hiN hsE.cells hWN (by omega) fun v7 s7 w7 e7 n7 h7=>?_
   obtain ⟨S,_,a7⟩:=S.tell e7 n7
   have hwf:=acJ hok aen (W:=W) (t:=(i : Int)) hqN
   have hne : (wayE (zh g) q (i : Int) W).isSome=true→(wayE (zh g) q (i : Int) W).getD []≠[]:=fun hs=>by
    obtain ⟨l,hl⟩:=Option.isSome_iff_exists.1 hs
    rw [hl];exact alD hl
   obtain ⟨p7,c7,rfl,_,_⟩:=h7.shape
   obtain ⟨p1,c1,rfl,_,_⟩:=hv1.shape
   have hnl : p1.isNone = !o.isSome:=hnl
   generalize wayE (zh g) q (i : Int) W=y at h7 hwf hO hne
   refine gP_ ?_
   refine gP_ ?_
   refine akb (i:=y.isSome) (f:=p1.isNone) (l:=decide ((((y.getD []).length : Nat) : Int)<((o.getD []).length : Nat))) (e:=decide ((((y.getD []).length : Nat) : Int)=((o.getD []).length : Nat))) (x:=ltB (y.getD []) (o.getD [])) (fun w'=>Ext w7 w') (fun _ K hK=>?_) (fun _ _ K hK=>?_) (fun _ _ _ K hK=>?_) (fun _ _ _ he K hK=>?_) (Ext.refl _) fun w64 e64=>?_
   ·refine gp_ ?_
    exact hK
   ·refine gg_ ?_
    exact hK
   ·refine gg_ ?_
    exact hK
   ·refine ahs S.holds h7.cells hv1.cells (by have:=of_decide_eq_true he;omega) (by omega) fun w56 e56=>?_
    exact hK _ e56
   have S:=S.go e64
   rw [akQ hnl]
   refine c_b (fun hb=>?_) (fun hb=>?_)
   ·rw [if_pos hb] at hO
    have hys : y.isSome=true:=by simp at hb;exact hb.1
    subst hO
    exact hK17 _ _ ⟨_,s7,rfl,S.less (fun b o h=>h.elim (fun h=>.inl (.inl h)) .inr) (List.Sublist.refl _),a7,by rw [akP h7 (hne hys),hys];rfl,h7⟩
   ·rw [if_neg (by rw [hb];decide)] at hO
    subst hO
    exact hK17 _ _ ⟨_,τ,rfl,S.less (fun b o h=>.inl h) (List.Sublist.refl _),hτ,hnl,hv1⟩
  repeat clear S
  rintro _ w20 ⟨v',τ',rfl,S,hτ',hn',hv'⟩ d
  rw [List.getD_cons_zero]
  refine gp_ ?_
  exact hK13 v' τ' _ S hτ' hn' hv'
 have hie : i=(zh g).length:=by omega
 subst hie
 rw [Qx] at hv1 hnl
 obtain ⟨p1,c1,rfl,_,_⟩:=hv1.shape
 have hnl : p1.isNone = !((ptsW g (Usd g x)).foldl (x9 (zh g) W q (decide (zD g x q))) none).isSome:=hnl
 refine gg_ ?_
 rw [hnl,Bool.not_not]
 exact h _ τ _ S.ext (StX.newOf (q:=τ) S hτ) hv1
end Go.Proofs
end
section
namespace Go.Proofs
open Go.Sh
set_option maxRecDepth 100000
set_option linter.unusedSimpArgs false
set_option linter.unusedVariables false
theorem aaa {w : World} {K : Value→World→Prop} (h : ∀ w',Ext w w'→K alr w') : zd Tryz.prog Tryz.xz #[] w K:=by
 refine Tryz.afJ ?_
 unfold Tryz.V7
 have S : StX noX w nothing w []:=St.start (fun _ _ h=>h.elim)
 refine S.al fun b0 w1 S=>?_
 refine zy (cs:=Yz.toArray) (by kernel_rfl) ?_
 refine S.stB (b:=b0) fun w2 S=>?_
 refine S.ceB (b:=b0) ?_ rfl
 exact h _ S.ext
theorem agd {n : Int} {w : World} {K : Value→World→Prop} (h : ∀ w',Ext w w'→K (als n) w') : zd Tryz.prog Tryz.zt #[.int .i64 n] w K:=by
 refine Tryz.afL ?_
 unfold Tryz.V9
 have S : StX noX w nothing w []:=St.start (fun _ _ h=>h.elim)
 refine S.al fun b0 w1 S=>?_
 refine zy (cs:=#[.int .u8 1,.int .i64 n,.int .i64 0,.slice none 0 0]) (by kernel_rfl) ?_
 refine S.stB (b:=b0) fun w2 S=>?_
 refine S.ceB (b:=b0) ?_ rfl
 exact h _ S.ext
theorem age {m : Bool} {w : World} {K : Value→World→Prop} (h : ∀ q cap sn w',Ext w w'→New w sn w'→TyG sn (tyV (.mk 4 m (-1) 0 [jC]) q cap) (.mk 4 m (-1) 0 [jC])→K (tyV (.mk 4 m (-1) 0 [jC]) q cap) w') : zd Tryz.prog Tryz.kT #[.bool m] w K:=by
 refine Tryz.afK ?_
 unfold Tryz.V8
 have S : StX noX w nothing w []:=St.start (fun _ _ h=>h.elim)
 refine S.al fun b2 w1 S=>?_
 refine aaa fun w2 e2=>?_
 have S:=S.go e2
 refine S.lit (e:=138) (cs:=Yz) (by kernel_rfl) fun b5 w3 S=>?_
 refine zy (cs:=#[.int .u8 4,.bool m,.int .i64 (-1),.int .i64 0,.slice (some ⟨b5,0,none⟩) 1 1]) (by kernel_rfl) ?_
 refine S.stB (b:=b2) fun w4 S=>?_
 refine S.ceB (b:=b2) ?_ rfl
 obtain ⟨S,_,ha⟩:=S.litNew b5 (sz:=5) (R:=TyC nothing) (l:=[jC]) (by exact (yr (c:=Yz) rfl (show TyC nothing Yz jC from Yy))) (by decide)
 exact h (some ⟨b5,0,none⟩) 1 (nothing.or (Go.Sh.one b5 Yz 138)) _ S.ext (S.newOf (Above.no.or' ha)) (ahM (u:=jC) (v:=alr) Yy)
set_option maxHeartbeats 8000000 in
theorem afM {w : World} {K : Value→World→Prop} (h : ∀ v s w',Ext w w'→New w s w'→UnG s v xL→K v w') : zd Tryz.prog Tryz.YH #[] w K:=by
 refine Tryz.aee ?_
 unfold Tryz.J8
 have S : StX noX w nothing w []:=St.start (fun _ _ h=>h.elim)
 refine S.al fun b0 w1 S=>?_
 refine S.lit (e:=153) (cs:=[.int .i64 (-1)]) (by kernel_rfl) fun b2 w2 S=>?_
 refine zy (cs:=#[.int .i64 2,.slice (some ⟨b2,0,none⟩) 1 1]) (by kernel_rfl) ?_
 refine S.al fun b1 w3 S=>?_
 refine S.stB (b:=b1) fun w4 S=>?_
 have S:=S.go (Ext.drew _)
 refine zy (cs:=#[.int .i64 2,.slice none 0 0]) (by kernel_rfl) ?_
 refine zy (cs:=#[.int .i64 1,.slice none 0 0]) (by kernel_rfl) ?_
 refine zy (cs:=hl0.toArray) (by kernel_rfl) ?_
 refine zy (cs:=#[.int .i64 1,.slice none 0 0]) (by kernel_rfl) ?_
 refine S.ldB (b:=b1) ?_ rfl
 refine zy (cs:=hl3.toArray) (by kernel_rfl) ?_
 have S:=S.drop b1
 have fin : ∀ {w9 : World} {b7 b8 b19 b21 : Nat} {q6 : Option Addr} {c6 : Nat} {sn : Gh} {M M1 M2 M3 M4 M5 : List Asr} (S : StX noX w (nothing.or sn) w9 M)
   [ZH b7 M (Yz++(Yz++tyL Jt q6 c6)) 138 M1] [ZH b8 M1 [.string ByteArray.empty,.string ByteArray.empty,.string ByteArray.empty] 9 M2] [ZH b2 M2 [.int .i64 (-1)] 153 M3]
   [ZH b19 M3 (hl0++(hl1++(hl2 b2++hl3))) 87 M4] [ZH b21 M4 [.string ByteArray.empty,.int .i64 0,.slice none 0 0,.int .i64 0,.slice (some ⟨b7,0,none⟩) 3 3,.slice (some ⟨b8,0,none⟩) 3 3,.slice (some ⟨b19,0,none⟩) 4 4] 38 M5],
   Above w sn→TyG sn (tyV Jt q6 c6) Jt→K (.agg #[.slice none 0 0,.slice (some ⟨b21,0,none⟩) 1 1,.int .i64 0]) w9:=by
  intro w9 b7 b8 b19 b21 q6 c6 sn M M1 M2 M3 M4 M5 S _ _ _ _ _ ha ht
  obtain ⟨S,h7,a7⟩:=S.litNew b7 (sz:=5) (R:=TyC sn) (l:=[jC,jC,Jt]) (by exact (yG rfl Yy (yG rfl Yy (yr rfl ht)))) (by decide)
  obtain ⟨S,h8,a8⟩:=S.litNew b8 (sz:=1) (R:=ai2) (l:=[ByteArray.empty,ByteArray.empty,ByteArray.empty]) (by exact (yG (c:=[.string ByteArray.empty]) rfl rfl (yG (c:=[.string ByteArray.empty]) rfl rfl (yr rfl rfl)))) (by decide)
  obtain ⟨S,h2,a2⟩:=S.litNew b2 (sz:=1) (R:=ZJ) (l:=[-1]) (by exact (yr rfl ⟨rfl,by unfold acv;omega⟩)) (by decide)
  have hz : ∀ {r : Gh} {α : Type} {sz : Nat} {R : List Value→α→Prop},SlB sz r R (.slice none 0 0) ([] : List α):=aku
  obtain ⟨S,h19,a19⟩:=S.litNew b19 (sz:=21) (R:=PtG (Go.Sh.one b2 [.int .i64 (-1)] 153)) (l:=[hp0,hp1,hp2,hp3])
   (by exact (yG rfl ⟨_,_,_,_,_,rfl,hz,hz,hz,hz,hz⟩ (yG rfl ⟨_,_,_,_,_,rfl,hz,hz,hz,hz,hz⟩ (yG rfl ⟨_,_,_,_,_,rfl,X2 h2,hz,hz,hz,hz⟩ (yr rfl ⟨_,_,_,_,_,rfl,hz,hz,hz,hz,hz⟩))))) (by decide)
  obtain ⟨S,h21,a21⟩:=S.litNew b21 (sz:=7) (R:=GrG (((((nothing.or sn).or (Go.Sh.one b7 (Yz++(Yz++tyL Jt q6 c6)) 138)).or (Go.Sh.one b8 [.string ByteArray.empty,.string ByteArray.empty,.string ByteArray.empty] 9)).or (Go.Sh.one b2 [.int .i64 (-1)] 153)).or (Go.Sh.one b19 (hl0++(hl1++(hl2 b2++hl3))) 87))) (l:=[zB])
   (by exact (yr rfl ⟨_,_,_,_,rfl,hz,X2 (h7.up' inferInstance fun c x hx=>TyG.up hx),X2 h8.cells,X2 (h19.up' inferInstance fun c x hx=>PtG.up hx)⟩)) (by decide)
  exact h _ _ _ S.ext (S.newOf (((((Above.no.or' ha).or' a7).or' a8).or' a2).or' a19 |>.or' a21)) ⟨none,0,_,rfl,fun _=>rfl,Nat.zero_le _,trivial,Nat.zero_le _,X2 (h21.up' inferInstance fun c x hx=>GrG.up hx)⟩
 repeat' (first
  |(with_reducible refine aaa fun w9 e9=>⟨e9,?_⟩;have S:=S.go e9)
  |(with_reducible refine agd fun w9 e9=>⟨e9,?_⟩;have S:=S.go e9)
  |(with_reducible refine age fun q6 c6 sn w9 e9 n9 t9=>⟨e9,?_⟩;obtain ⟨S,d9,a9⟩:=S.tell e9 n9)
  |(with_reducible refine S.litU (t:=34) (e:=138) (cs:=Yz++(Yz++tyL Jt q6 c6)) (by kernel_rfl) fun b7 w9 S=>?_)
  |(with_reducible refine S.mkSU (by decide) (by decide) fun b8 w9 S=>?_)
  |(with_reducible refine zy (t:=87) (parts:=#[(0,.int .u8 1),(1,.agg #[.int .i64 1,.slice none 0 0]),(2,als 2),(10,.int .i64 2)]) (cs:=hl1.toArray) (by kernel_rfl) ?_)
  |(with_reducible refine zy (t:=87) (cs:=(hl2 b2).toArray) (by kernel_rfl) ?_)
  |(with_reducible refine S.lit (t:=36) (e:=87) (cs:=hl0++(hl1++(hl2 b2++hl3))) (by kernel_rfl) fun b19 w9 S=>?_)
  |(with_reducible refine zy (t:=38) (cs:=#[.string ByteArray.empty,.int .i64 0,.slice none 0 0,.int .i64 0,.slice (some ⟨b7,0,none⟩) 3 3,.slice (some ⟨b8,0,none⟩) 3 3,.slice (some ⟨b19,0,none⟩) 4 4]) (by kernel_rfl) ?_)
  |(with_reducible refine S.lit (t:=23) (e:=38) (cs:=[.string ByteArray.empty,.int .i64 0,.slice none 0 0,.int .i64 0,.slice (some ⟨b7,0,none⟩) 3 3,.slice (some ⟨b8,0,none⟩) 3 3,.slice (some ⟨b19,0,none⟩) 4 4]) (by kernel_rfl) fun b21 w9 S=>?_)
  |(with_reducible refine zy (t:=25) (cs:=#[.slice none 0 0,.slice (some ⟨b21,0,none⟩) 1 1,.int .i64 0]) (by kernel_rfl) ?_)
  |(with_reducible refine And.intro ?_ ?_)
  |(refine S.stB (b:=b0) fun w9 S=>?_;refine S.ceB (b:=b0) ?_ rfl;exact fin (b7:=b7) (b8:=b8) (b19:=b19) (b21:=b21) S a9 t9)
)
end Go.Proofs
end
section
namespace Go.Proofs
open Go.Sh Go.RowKit Go.BM
set_option maxRecDepth 100000
set_option linter.unusedSimpArgs false
set_option linter.unusedVariables false
theorem afN {u : UnD} {v : Value} {w : World} {r : Gh} {K : Value→World→Prop} (hr : Holds r w) (hu : UnG r v u) (h : ∀ (b : Bool) w',Ext w w'→K (.bool b) w') : zd Tryz.prog Tryz.YG #[v] w K:=by
 refine Tryz.aed ?_
 unfold Tryz.J7
 obtain ⟨p0,cap0,vf,rfl,_,_,hst,hsl,hfn⟩:=hu
 obtain ⟨qf,capf,rfl,_,_⟩:=hfn.sl.shape
 have hfl : u.fs.length≤9223372036854775807:=hfn.few
 have hsl' : u.ss.length≤9223372036854775807:=hsl
 have S:=St.start hr
 refine S.box fun b1 w1 S=>?_
 have S : StX noX w r w1 [.cell b1 [.slice p0 u.ss.length cap0,.slice qf u.fs.length capf,.int .i64 u.mn] 25]:=S
 refine gg_ ?_
 refine zj (c:=decide (40<(u.fs.length : Int))) (fun _ K2 hK2=>by refine gg_ ?_;exact hK2) ?_
 refine c_b (fun _=>h _ _ S.ext) (fun _=>?_)
 refine zi (ι:=Nat) (fun i=>[.int .i64 (i : Nat)]) (fun i w'=>i≤u.ss.length∧StX noX w r w' _) (fun i=>u.ss.length - i) 0 rfl ⟨Nat.zero_le _,S⟩ ?_
 clear S
 rintro i d w2 ⟨hi,S⟩ K6 hK6
 rw [List.getD_cons_zero]
 refine gg_ ?_
 refine zk (fun hlt=>?_) (fun hge=>?_)
 ·have hlt : i<u.ss.length:=by omega
  obtain ⟨b,off,q,capq,rfl,hcell,_,_,_⟩:=xK hst hlt
  refine gg_ ?_
  refine zg (by rw [Int.toNat_natCast];exact S.at hcell) ?_
  refine gg_ ?_
  refine c_b (fun _=>h _ _ S.ext) (fun _=>?_)
  refine gg_ ?_
  rw [show ((i : Int)+1)=((i+1 : Nat) : Int) by omega]
  exact hK6 (i+1) _ ⟨hlt,S⟩ (by omega)
 refine zi (ι:=Nat × Int) (fun i=>[.int .i64 i.2,.int .i64 (i.1 : Nat)]) (fun i w'=>i.1≤u.fs.length∧StX noX w r w' _) (fun i=>u.fs.length - i.1) (0,0) rfl ⟨Nat.zero_le _,S⟩ ?_
 clear S hK6 K6 hge hi
 rintro ⟨i,n⟩ d w3 ⟨hi,S⟩ K7 hK7
 simp only at hi S ⊢
 simp only [List.getD_cons_zero,List.getD_cons_succ]
 refine gg_ ?_
 refine zk (fun hlt=>?_) (fun hge=>h _ _ S.ext)
 have hlt : i<u.fs.length:=by omega
 obtain ⟨bf,of,cf,rfl,hcf,hgc,hfo⟩:=hfn.sl.get (by decide) hlt
 generalize u.fs[i]=g at hgc
 obtain ⟨vo,vt,vn,vp,rfl,h1,h2,h3,h4⟩:=id hgc
 obtain ⟨qt,capt,rfl,_,hct⟩:=h2.sl.shape
 obtain ⟨qp,capp,rfl,_,_⟩:=h4.sl.shape
 have S:=S.go (Ext.drew _)
 have l4 : Ob r fun w=>w.cell? ⟨bf,of+i*7+4,none⟩=some (.slice qt g.tys.length capt):=hfo 4 _ rfl
 have l6 : Ob r fun w=>w.cell? ⟨bf,of+i*7+6,none⟩=some (.slice qp g.pts.length capp):=hfo 6 _ rfl
 refine gg_ ?_
 refine zg (by rw [Int.toNat_natCast];exact S.at l6) ?_
 refine gg_ ?_
 refine zg (by rw [Int.toNat_natCast];exact S.at l4) ?_
 refine gp_ ?_
 refine ah4 fun x=>?_
 refine ah4 fun y=>?_
 refine gg_ ?_
 refine zg (by rw [Int.toNat_natCast];exact S.at l6) ?_
 refine gg_ ?_
 refine zj (c:=decide (150<(g.tys.length : Int))) (fun _ K2 hK2=>?_) ?_
 ·refine gg_ ?_
  refine zg (by rw [Int.toNat_natCast];exact S.at l4) ?_
  refine gg_ ?_
  exact hK2
 refine zj (c:=decide (600<y)) (fun _ K2 hK2=>by refine gg_ ?_;exact hK2) ?_
 refine c_b (fun _=>h _ _ S.ext) (fun _=>?_)
 refine gg_ ?_
 rw [show ((i : Int)+1)=((i+1 : Nat) : Int) by omega]
 exact hK7 (i+1,y) _ ⟨hlt,S⟩ (by show u.fs.length - (i+1)<u.fs.length - i;omega)
noncomputable def qI (g : GrD) : List y7:=(lvR g).map fun m=>((m.length : Nat),xo m)
theorem YO {g : GrD} : (qI g).length=g.tys.length:=by rw [qI,List.length_map,vY]
theorem akR {b : Nat} {s : Gh} {m : List Bool} (h : Ob s fun w=>Blk w b (wcs (xo m)) 76) (hm : m.length≤1032) : SlB 1 s WdC (.slice (some ⟨b,0,none⟩) (xo m).length (xo m).length) (xo m):=by
 refine ⟨⟨_,_,rfl,(fun h=>by cases h),Nat.le_refl _,fun i hi=>⟨[u64 (xo m)[i]],rfl,fun j v hj=>?_,rfl⟩⟩,by rw [afr,maxLen];omega⟩
 obtain rfl : j=0:=by
  have:=(List.getElem?_eq_some_iff.1 hj).1
  simp at this;omega
 refine ⟨b,0,rfl,fun w hw=>?_⟩
 have B:=h w hw
 show w.cell? ⟨b,0+i*1+0,none⟩=some v
 rw [show 0+i*1+0=i by omega,B.cell,wcs,List.getElem?_map,List.getElem?_eq_getElem hi]
 cases hj;rfl
theorem ajS {g : GrD} {bs : List Nat} {v : Value} {s s2 : Gh} (hbl : bs.length=g.tys.length) (hn : (zh g).length≤1032) (hv : SlG 2 s (ahq (zh g).length) v bs)
  (hs2 : ∀ i (h1 : i<bs.length) (h2 : i<(lvR g).length),Ob s2 fun w=>Blk w bs[i] (wcs (xo (lvR g)[i])) 76) : SlG 2 (s.or s2) (RwbC (s.or s2)) v (qI g):=by
 obtain ⟨p,cap,rfl,h2,h3,h4⟩:=hv
 have hol:=YO (g:=g)
 have hrl:=vY (g:=g)
 refine ⟨p,cap,by rw [hbl,hol],h2,by omega,fun i hi=>?_⟩
 have hib : i<bs.length:=by omega
 have hir : i<(lvR g).length:=by omega
 obtain ⟨c,h5,h6,h7⟩:=h4 i hib
 refine ⟨c,h5,h6.up inferInstance,?_⟩
 have hml : (lvR g)[i].length=(zh g).length:=by rw [YM,qT]
 have ho : (qI g)[i]=((((lvR g)[i].length : Nat) : Int),xo (lvR g)[i]):=by simp [qI]
 have hB:=hs2 i hib hir
 rw [ho]
 generalize (lvR g)[i]=m at hB hml
 have hw : (xo m).length=((zh g).length+63) / 64:=by rw [afr,hml]
 refine ⟨some ⟨bs[i],0,none⟩,(xo m).length,?_,(akR hB (by omega)).cells⟩
 show c = [.int .i64 ((m.length : Nat) : Int),.slice (some ⟨bs[i],0,none⟩) (xo m).length (xo m).length]
 rw [show c=rwL (zh g).length bs[i] from h7,hw,hml]
theorem aht {u : UnD} {n : Int} {v : Value} {w : World} {r : Gh} {K : Value→World→Prop} (hr : Holds r w) (hu : UnG r v u)
  (h : ∀ v' s w',Ext w w'→New w s w'→(fnE u n=0→∃ g,u.fs[n.toNat]? = some g∧netU u n=zh g∧SlG 2 s (RwbC s) v' (qI g))→(fnE u n≠0→v' = .slice none 0 0)→K (.tuple #[v',.int .i64 (fnE u n)]) w') : zd Tryz.prog Tryz.Xl #[v,.int .i64 n] w K:=by
 refine aio hr hu fun v' bs s w' e hE hN=>?_
 by_cases h0 : fnE u n=0
 ·obtain ⟨g,h1,h2,h3,ha,T,hv⟩:=hE h0
  have hF:=kI h0 h1
  have hnf:=hF.net.few
  obtain ⟨s2,T2,ha2,hs2⟩:=StX.frzCells (e:=76) (C:=fun m=>wcs (xo m)) (bs:=bs) (R:=lvR g) (L:=[]) (by rw [h3,vY]) (by rw [List.append_nil];exact T)
  have ha2 : Above w s2:=fun b o ho=>(ha2 b o ho).resolve_right id
  exact h v' (s.or s2) w' e (StX.newOf (q:=s.or s2) T2.reGh (ha.or' ha2)) (fun _=>⟨g,h1,h2,ajS h3 (by omega) hv hs2⟩) fun hh=>absurd h0 hh
 ·exact h v' nothing w' e New.nothing (fun hh=>absurd hh h0) hN
end Go.Proofs
end
section
namespace Go.Proofs
open Go.Sh Go.RowKit Go.BM
set_option maxRecDepth 100000
set_option linter.unusedSimpArgs false
set_option linter.unusedVariables false
theorem akS {g : GrD} {i : Nat} (h : i<g.tys.length) : (qI g).getD i (0,[])=((((lvM g i).length : Nat) : Int),xo (lvM g i)):=by
 have h2 : i<(lvR g).length:=by rw [vY];exact h
 rw [qI,List.getD_eq_getElem?_getD,List.getElem?_map,List.getElem?_eq_getElem h2,YM];rfl
theorem alE {g : GrD} (hF : LkF g) : J2 g (qI g)=true:=by
 have hnf:=hF.net.few
 have hgl:=zS (g:=g)
 rw [J2,decide_eq_true YO,Bool.true_and,Bool.not_eq_true',Bool.eq_false_iff]
 intro hc
 obtain ⟨x,hx,hb⟩:=List.any_eq_true.1 hc
 rw [qI,List.mem_map] at hx
 obtain ⟨m,hm,rfl⟩:=hx
 rw [lvR,List.mem_map] at hm
 obtain ⟨i,_,rfl⟩:=hm
 have hl:=qT (g:=g) (x:=(i : Nat))
 rw [ZR,BM.mayB_true (ajw (by omega))] at hb
 simp only [Bool.not_true,Bool.false_or,decide_eq_true_eq] at hb
 exact hb (by show (((lvM g (i : Nat)).length : Nat) : Int)=_;omega)
theorem akT {g : GrD} (hF : LkF g) {y p : Nat} (hy : y<g.tys.length) (hp : p<g.pts.length) : jG g (qI g) y p=false:=by
 have hnf:=hF.net.few
 have hgl:=zS (g:=g)
 have hl:=qT (g:=g) (x:=(y : Nat))
 have hM : k6 g ((qI g).getD y (0,[]))=lvM g y:=by
  rw [akS hy]
  show JP g.pts.length (xo (lvM g y))=_
  rw [← hgl,← hl]
  exact ajz (by omega)
 rw [jG,hM,acQ]
 cases hm : xx g y (lvM g y) p with
 |false=>rfl
 |true=>
  rw [af2 hF.net.ok ⟨by omega,by omega⟩ hm];rfl
theorem akU {g : GrD} (hF : LkF g) : aaW g (qI g)=none:=by
 rw [aaW,YO]
 exact acR fun y hy p hp=>akT hF hy hp
theorem ajT {u : UnD} {n : Int} {g : GrD} (h : fnE u n=0) (hg : u.fs[n.toNat]? = some g) : aaX u n (qI g) = .tuple #[.int .i64 0,.int .i64 0,.bool true,.int .i64 0]:=by
 have hF:=kI h hg
 have hok : okC u n (qI g)=true:=by
  rw [okC,h,decide_eq_true rfl,Bool.true_and]
  simp only [hg]
  exact alE hF
 have hcl : XJ u n (qI g)=none:=by
  rw [XJ]
  simp only [hg]
  exact akU hF
 rw [aaX,if_pos hok,hcl];rfl
def n4 : zz:=[[1],[2],[3],[]]
theorem YP : zh zB=n4:=by kernel_rfl
theorem Vp : fnE xL 0=0:=by rw [fnE,aaB.2 ajd];rfl
theorem aiu : netU xL 0=n4:=YP
theorem ama : xM n4:=fun l hl x hx=>by
 have hl : l ∈ [[(1 : Int)],[2],[3],[]]:=hl
 simp only [List.mem_cons,List.not_mem_nil,or_false] at hl
 rcases hl with rfl|rfl|rfl|rfl<;>simp only [List.mem_cons,List.not_mem_nil,or_false] at hx
 all_goals subst hx;exact ⟨by decide,by decide⟩
theorem amb {x : Int} (hx : isN n4 x) : x=0∨x=1∨x=2∨x=3:=by
 have:=hx.1;have h2 : x<4:=hx.2
 omega
theorem YQ {x : Int} (h0 : 0≤x) (h1 : x<4) : isN (zh zB) x:=by rw [YP];exact ⟨h0,h1⟩
theorem vZ {q : Int} (h0 : 0≤q) (h1 : q<4) : okQ xL 0 q=true:=by
 rw [okQ,Vp,aiu,decide_eq_true (show isN n4 q from ⟨h0,h1⟩)];rfl
theorem hand_ok : xM (zh zB):=by rw [YP];exact ama
theorem J9 {x : Int} {m : List Bool} (h : (xx zB x m 0=true→mk' m 0=true)∧(xx zB x m 1=true→mk' m 1=true)∧(xx zB x m 2=true→mk' m 2=true)∧(xx zB x m 3=true→mk' m 3=true)) :
  ∀ q,isN (zh zB) q→xx zB x m q=true→mk' m q=true:=fun q hq=>by
 rw [YP] at hq
 rcases amb hq with rfl|rfl|rfl|rfl
 ·exact h.1
 ·exact h.2.1
 ·exact h.2.2.1
 ·exact h.2.2.2
theorem ajU : lvM zB 0 = [true,true,true,true]:=by
 have h:=Rnd.start (g:=zB) (x:=0)
 have h:=h.set hand_ok (q:=3) (YQ (by decide) (by decide)) (by kernel_rfl)
 have h:=h.set hand_ok (q:=2) (YQ (by decide) (by decide)) (by kernel_rfl)
 have h:=h.set hand_ok (q:=1) (YQ (by decide) (by decide)) (by kernel_rfl)
 have h:=h.set hand_ok (q:=0) (YQ (by decide) (by decide)) (by kernel_rfl)
 exact (h.end (J9 ⟨fun _=>by kernel_rfl,fun _=>by kernel_rfl,fun _=>by kernel_rfl,fun _=>by kernel_rfl⟩)).symm
theorem ajV : lvM zB 1 = [true,false,false,false]:=by
 have h:=Rnd.start (g:=zB) (x:=1)
 have h:=h.set hand_ok (q:=0) (YQ (by decide) (by decide)) (by kernel_rfl)
 have e1 : xx zB 1 (x8 (List.replicate (zh zB).length false) 0) 1=false:=by kernel_rfl
 have e2 : xx zB 1 (x8 (List.replicate (zh zB).length false) 0) 2=false:=by kernel_rfl
 have e3 : xx zB 1 (x8 (List.replicate (zh zB).length false) 0) 3=false:=by kernel_rfl
 exact (h.end (J9 ⟨fun _=>by kernel_rfl,(fun hh=>by rw [e1] at hh;cases hh),(fun hh=>by rw [e2] at hh;cases hh),(fun hh=>by rw [e3] at hh;cases hh)⟩)).symm
theorem ajW : lvM zB 2 = [false,true,true,false]:=by
 have h:=Rnd.start (g:=zB) (x:=2)
 have h:=h.set hand_ok (q:=2) (YQ (by decide) (by decide)) (by kernel_rfl)
 have h:=h.set hand_ok (q:=1) (YQ (by decide) (by decide)) (by kernel_rfl)
 have e1 : xx zB 2 (x8 (x8 (List.replicate (zh zB).length false) 2) 1) 0=false:=by kernel_rfl
 have e2 : xx zB 2 (x8 (x8 (List.replicate (zh zB).length false) 2) 1) 3=false:=by kernel_rfl
 exact (h.end (J9 ⟨(fun hh=>by rw [e1] at hh;cases hh),fun _=>by kernel_rfl,fun _=>by kernel_rfl,(fun hh=>by rw [e2] at hh;cases hh)⟩)).symm
theorem aiv : ajv zB 1 = [0,2]:=by
 have : jd zB 1 = [mk' (lvM zB 0) 1,mk' (lvM zB 1) 1,mk' (lvM zB 2) 1]:=rfl
 rw [ajv,this,ajU,ajV,ajW]
 decide
theorem ajX : wayE n4 1 2 [0]=some [1,2]:=by
 refine jW.2 ⟨⟨[2],rfl,⟨.inl rfl,by decide⟩,rfl⟩,?_⟩
 rintro _ ⟨r,rfl,hp⟩
 cases r with
 |nil=>exact absurd (show (1 : Int)=2 from hp) (by decide)
 |cons y r=>
  refine ⟨by simp,fun hl=>?_⟩
  have : r = []:=List.eq_nil_of_length_eq_zero (by simpa using hl)
  subst this
  obtain rfl : y=2:=hp.2
  exact .inl rfl
theorem ajY : ZN zB 2 1=some [1,2]:=by
 have e1 : ptsW zB (Usd zB 2) = [2]:=by kernel_rfl
 have e2 : ptsW zB (zD zB 2) = [0]:=by kernel_rfl
 have e3 : decide (zD zB 2 1)=false:=by kernel_rfl
 rw [ZN,e1,e2,e3,YP,List.foldl_cons,List.foldl_nil,acP (by decide),ajX]
 rfl
theorem adA : aaU xL 0 2 1=some [1,2]:=ajY
theorem afO : okY xL 0 2 1=true:=by
 rw [okY,vZ (by decide) (by decide)]
 rfl
end Go.Proofs
end
section
namespace Go.Proofs
open Go.Sh Go.RowKit Go.BM
set_option maxRecDepth 100000
set_option linter.unusedSimpArgs false
set_option linter.unusedVariables false
theorem ajZ : usL zB 2 = [2]:=by
 refine abP aho (by decide) fun x=>?_
 have e : aaJ zB 2 = [2]:=by kernel_rfl
 rw [akK,e]
theorem aj0 : ((xL.fs[(0 : Int).toNat]?.bind fun g=>JO g 0))=some 2:=by kernel_rfl
theorem aaY : xL.fs[(0 : Int).toNat]? = some zB:=rfl
set_option maxHeartbeats 4000000 in
theorem xS {w : World} {K : Value→World→Prop} (h : ∀ w',Ext w w'→K (.bool true) w') : zd Tryz.prog Tryz.yY #[] w K:=by
 refine Tryz.acT ?_
 unfold Tryz.QU
 have S : StX noX w nothing w []:=St.start (fun _ _ h=>h.elim)
 refine afM fun v2 s2 w2 e2 n2 hu=>?_
 obtain ⟨S,_,_⟩:=S.tell e2 n2
 refine S.al fun b0 w3 S=>?_
 obtain ⟨p0,cap0,vf,rfl,_,_,_,_,hfn⟩:=id hu
 obtain ⟨qf,capf,rfl,_,_⟩:=hfn.sl.shape
 refine S.stB (b:=b0) fun w4 S=>?_
 have S:=S.to s2
 have S : StX noX w s2 w4 [.cell b0 [.slice p0 0 cap0,.slice qf 1 capf,.int .i64 0] 25]:=S
 have hu : UnG s2 (.agg #[.slice p0 0 cap0,.slice qf 1 capf,.int .i64 0]) xL:=hu
 refine S.ldB (b:=b0) ?_ rfl
 refine aht S.holds hu fun v5 s5 w5 e5 n5 h5 _=>?_
 obtain ⟨g,hg,_,h5⟩:=h5 Vp
 obtain rfl : zB=g:=Option.some.inj hg
 rw [Vp]
 obtain ⟨S,_,_⟩:=S.tell e5 n5
 obtain ⟨p5,cp5,hv5,_,_⟩:=h5.shape
 subst hv5
 obtain ⟨b5,o5,c5,rfl,_,hc5,g5⟩:=h5.get (i:=2) (by decide) (by rw [YO];decide)
 obtain ⟨q5,k5,rfl,_⟩:=hc5
 have g5 : Ob s5 fun w=>w.cell? ⟨b5,o5+2*2+0,none⟩=some (.int .i64 4):=g5 0 _ rfl
 have hol : (qI zB).length=3:=YO
 rw [hol]
 rw [hol] at h5
 refine gS_ ?_
 refine S.ldB (b:=b0) ?_ rfl
 refine aik S.holds hu.up fun v6 s6 w6 e6 n6 h6=>?_
 rw [vZ (by decide) (by decide),if_pos rfl] at h6
 rw [vZ (by decide) (by decide),if_pos rfl]
 simp only [aaY,aiv] at h6
 obtain ⟨S,_,_⟩:=S.tell e6 n6
 obtain ⟨p6,cp6,rfl,_,_⟩:=h6.shape
 obtain ⟨b6,o6,rfl,_,g60⟩:=zY h6 (i:=0) (by decide)
 obtain ⟨b62,o62,hp6,_,g61⟩:=zY h6 (i:=1) (by decide)
 cases hp6
 refine gS_ ?_
 refine S.ldB (b:=b0) ?_ rfl
 refine agb S.holds hu.up fun v7 s7 w7 e7 n7 h7=>?_
 rw [vZ (by decide) (by decide),if_pos rfl] at h7
 rw [vZ (by decide) (by decide),if_pos rfl]
 simp only [aaY,ajZ] at h7
 obtain ⟨S,_,_⟩:=S.tell e7 n7
 obtain ⟨p7,cp7,rfl,_,_⟩:=h7.shape
 obtain ⟨b7,o7,rfl,_,g7⟩:=zY h7 (i:=0) (by decide)
 refine gS_ ?_
 refine S.ldB (b:=b0) ?_ rfl
 refine aga S.holds hu.up fun w8 e8=>?_
 have S:=S.go e8
 rw [vZ (by decide) (by decide),if_pos rfl,if_pos rfl,aj0]
 refine gS_ ?_
 refine S.ldB (b:=b0) ?_ rfl
 refine ab7 S.holds hu.up fun v9 s9 w9 e9 n9 h9=>?_
 rw [afO,if_pos rfl,adA] at h9
 rw [afO,if_pos rfl,adA]
 have h9 : SlG 1 s9 zH v9 [1,2]:=h9
 obtain ⟨S,_,_⟩:=S.tell e9 n9
 obtain ⟨p9,cp9,rfl,_,_⟩:=h9.shape
 refine gS_ ?_
 refine S.ldB (b:=b0) ?_ rfl
 refine QS S.holds hu.up (h5.up' inferInstance fun _ _ h=>h.up) (by rw [hol];decide) fun w10 e10=>?_
 rw [ajT Vp aaY]
 have S:=S.go e10
 refine gS_ ?_
 refine zf (c:=true) (fun _ K2 hK2=>by refine gg_ ?_;exact hK2) ?_
 refine zf (c:=true) (fun _ K2 hK2=>?_) ?_
 ·refine gg_ ?_
  refine zg (v:=.int .i64 4) (by simpa using S.at g5) ?_
  refine gg_ ?_
  exact hK2
 refine zf (c:=true) (fun _ K2 hK2=>by refine gg_ ?_;exact hK2) ?_
 refine zf (c:=true) (fun _ K2 hK2=>by refine gg_ ?_;exact hK2) ?_
 refine zf (c:=true) (fun _ K2 hK2=>?_) ?_
 ·refine gg_ ?_
  refine s_c (by simp) ?_
  refine zg (v:=.int .i64 0) (by simpa using S.at g60) ?_
  refine gg_ ?_
  exact hK2
 refine zf (c:=true) (fun _ K2 hK2=>?_) ?_
 ·refine gg_ ?_
  refine s_c (by simp) ?_
  refine zg (v:=.int .i64 2) (by simpa using S.at g61) ?_
  refine gg_ ?_
  exact hK2
 refine zf (c:=true) (fun _ K2 hK2=>by refine gg_ ?_;exact hK2) ?_
 refine zf (c:=true) (fun _ K2 hK2=>by refine gg_ ?_;exact hK2) ?_
 refine zf (c:=true) (fun _ K2 hK2=>?_) ?_
 ·refine gg_ ?_
  refine s_c (by simp) ?_
  refine zg (v:=.int .i64 2) (by simpa using S.at g7) ?_
  refine gg_ ?_
  exact hK2
 refine zf (c:=true) (fun _ K2 hK2=>by refine gg_ ?_;exact hK2) ?_
 refine zf (c:=true) (fun _ K2 hK2=>hK2) ?_
 refine zf (c:=true) (fun _ K2 hK2=>by refine gg_ ?_;exact hK2) ?_
 refine zf (c:=true) (fun _ K2 hK2=>hK2) ?_
 refine zf (c:=true) (fun _ K2 hK2=>by refine gg_ ?_;exact hK2) ?_
 refine zf (c:=true) (fun _ K2 hK2=>by refine gg_ ?_;exact hK2) ?_
 refine zf (c:=true) (fun _ K2 hK2=>hK2) ?_
 refine zf (c:=true) (fun _ K2 hK2=>by refine gg_ ?_;exact hK2) ?_
 exact h _ S.ext
end Go.Proofs
end
section
namespace Go.Proofs
open Go.Sh Go.RowKit Go.BM
set_option maxRecDepth 100000
set_option linter.unusedSimpArgs false
set_option linter.unusedVariables false
theorem akV (u : UnD) (n : Int) (R : List y7) : ∃ (a b : Int) (is : Bool) (f : Int),aaX u n R = .tuple #[.int .i64 a,.int .i64 b,.bool is,.int .i64 f]∧(okC u n R=false→a=0∧b=0∧is=false∧f=2)∧
  (okC u n R=true→f=0∧(XJ u n R=none→a=0∧b=0∧is=true)∧∀ x p,XJ u n R=some (x,p)→a=(x : Int)∧b=(p : Int)∧is=false):=by
 rw [aaX]
 cases okC u n R with
 |false=>exact ⟨0,0,false,2,rfl,fun _=>⟨rfl,rfl,rfl,rfl⟩,(fun h=>by cases h)⟩
 |true=>
  refine ⟨_,_,_,0,rfl,(fun h=>by cases h),fun _=>⟨rfl,fun h=>?_,fun x p h=>?_⟩⟩
  ·rw [h];exact ⟨rfl,rfl,rfl⟩
  ·rw [h];exact ⟨rfl,rfl,rfl⟩
theorem alF {u : UnD} {n x q : Int} {g : GrD} (h : fnE u n=0) (hg : u.fs[n.toNat]? = some g) (hnu : netU u n=zh g) : okY u n x q = !(((decide (x<0)||decide ((g.tys.length : Int)≤x))||decide (q<0))||decide ((g.pts.length : Int)≤q)):=by
 rw [okY,aaR h hnu,hg,Bool.eq_iff_iff]
 simp only [Bool.and_eq_true,decide_eq_true_eq,Bool.not_eq_true',Bool.or_eq_false_iff,decide_eq_false_iff_not,isN,zS]
 omega
theorem aiw {u : UnD} {n x q : Int} (h : fnE u n≠0) : okY u n x q=false:=by
 rw [okY,okQ,decide_eq_true h];rfl
theorem alG {u : UnD} {n : Int} {R : List y7} (h : fnE u n≠0) : okC u n R=false:=by
 rw [okC,decide_eq_false h];rfl
noncomputable def YR (g : GrD) (R : List y7) (i : Nat) : Bool:=decide ((R.length : Int)≠(g.tys.length : Nat))||(R.take i).any (ZR g)
theorem aix {g : GrD} {R : List y7} : YR g R 0=decide ((R.length : Int)≠(g.tys.length : Nat)):=by simp [YR]
theorem aiy {g : GrD} {R : List y7} {i : Nat} (h : i<R.length) : YR g R (i+1)=((YR g R i || !BM.mayB R[i].1 R[i].2)||decide (R[i].1≠g.pts.length)):=by
 rw [YR,YR,List.take_succ_eq_append_getElem h,List.any_append]
 simp only [List.any_cons,List.any_nil,Bool.or_false,ZR,Bool.or_assoc]
theorem aj1 {g : GrD} {R : List y7} : YR g R R.length = !J2 g R:=by
 rw [YR,J2,List.take_length,Bool.not_and,Bool.not_not]
 congr 1
 rw [← decide_not,decide_eq_decide];omega
theorem aiz {u : UnD} {n : Int} {g : GrD} {R : List y7} (h : fnE u n=0) (hg : u.fs[n.toNat]? = some g) : okC u n R=J2 g R:=by
 rw [okC,decide_eq_true h,Bool.true_and];simp only [hg]
theorem akW {u : UnD} {n : Int} {g : GrD} {R : List y7} (hg : u.fs[n.toNat]? = some g) : XJ u n R=aaW g R:=by rw [XJ];simp only [hg]
set_option maxHeartbeats 8000000 in
theorem aaZ {u : UnD} {n x q : Int} {R : List y7} {v vr : Value} {w : World} {r : Gh} {K : Value→World→Prop} (hr : Holds r w) (hu : UnG r v u) (hR : SlG 2 r (RwbC r) vr R)
  (h : ∀ w',Ext w w'→K (.bool true) w') : zd Tryz.prog Tryz.YF #[v,.int .i64 n,.int .i64 x,.int .i64 q,vr] w K:=by
 refine Tryz.VE ?_
 unfold Tryz.YN
 have hu0:=hu
 obtain ⟨p0,cap0,vf,rfl,_,_,hst,hsl,hfn⟩:=hu
 obtain ⟨qf,capf,rfl,_,_⟩:=hfn.sl.shape
 have hR0:=hR
 obtain ⟨pr,cr,rfl,_,_⟩:=hR.shape
 have hfl : u.fs.length≤9223372036854775807:=hfn.few
 have S:=St.start hr
 refine S.box fun b5 w1 S=>?_
 have S : StX noX w r w1 [.cell b5 [.slice p0 u.ss.length cap0,.slice qf u.fs.length capf,.int .i64 u.mn] 25]:=S
 refine S.ldB (b:=b5) ?_ rfl
 refine afN S.holds hu0 fun y w2 e2=>?_
 have S:=S.go e2
 refine gp_ ?_
 refine zj (c:=decide (600<(R.length : Int))) (fun _ K2 hK2=>by refine gg_ ?_;exact hK2) ?_
 refine c_b (fun _=>xS fun w3 e3=>h _ (S.go e3).ext) (fun hsm=>?_)
 have hsm : R.length≤600:=by
  simp only [Bool.or_eq_false_iff,decide_eq_false_iff_not] at hsm
  omega
 refine zi (ι:=Nat) (fun i=>[.int .i64 (i : Nat)]) (fun i w'=>i≤R.length∧(∀ x ∈ R.take i,x.2.length≤100)∧StX noX w r w' [.cell b5 [.slice p0 u.ss.length cap0,.slice qf u.fs.length capf,.int .i64 u.mn] 25]) (fun i=>R.length - i) 0 rfl ⟨Nat.zero_le _,by simp,S⟩ ?_
 repeat clear S
 rintro i d w11 ⟨hi,hWl,S⟩ K8 hK8
 rw [List.getD_cons_zero]
 refine gp_ ?_
 refine gp_ ?_
 refine zk (fun hlt=>?_) (fun hge=>?_)
 ·have hlt : i<R.length:=by omega
  obtain ⟨b,off,c,rfl,hcl,hcR,hcell⟩:=hR.get (by decide) hlt
  have htk : ∀ (hx : R[i].2.length≤100),∀ x ∈ R.take (i+1),x.2.length≤100:=fun hx y hy=>by
   rw [List.take_succ_eq_append_getElem hlt,List.mem_append,List.mem_singleton] at hy
   rcases hy with hy|rfl
   ·exact hWl y hy
   ·exact hx
  generalize R[i]=rw at hcR htk
  obtain ⟨pw,cw,rfl,hS⟩:=hcR
  have hfew : rw.2.length≤9223372036854775807:=hS.few
  refine gg_ ?_
  refine zg (by rw [Int.toNat_natCast];exact S.at (hcell 1 _ rfl)) ?_
  refine gg_ ?_
  refine zk (fun _=>xS fun w3 e3=>h _ (S.go e3).ext) (fun hsm2=>?_)
  refine gg_ ?_
  exact hK8 (i+1) _ ⟨hlt,htk (by omega),S⟩ (by omega)
 have hie : i=R.length:=by omega
 clear hK8 K8 hge hi d
 subst hie
 rw [List.take_length] at hWl
 refine S.ldB (b:=b5) ?_ rfl
 refine ab7 S.holds hu0 fun v58 s58 w13 e13 n13 h58=>?_
 obtain ⟨S,_,_⟩:=S.tell e13 n13
 refine gS_ ?_
 refine S.ldB (b:=b5) ?_ rfl
 refine QS S.holds hu0.up (hR0.up' inferInstance fun _ _ h=>h.up) (by omega) fun w14 e14=>?_
 have S:=S.go e14
 obtain ⟨ca,cb,cis,cf,hV,hV0,hV1⟩:=akV u n R
 rw [hV]
 clear hV
 refine gS_ ?_
 refine S.ldB (b:=b5) ?_ rfl
 refine ahd S.holds hu0.up fun w15 e15=>?_
 have S:=S.go e15
 rw [akI]
 refine gp_ ?_
 refine c_b (fun hb=>?_) (fun hb=>?_)
 ·have hne : fnE u n≠0:=by simpa using hb
  obtain ⟨rfl,rfl,rfl,rfl⟩:=hV0 (alG hne)
  rw [aiw hne,if_neg (by decide)] at h58
  rw [aiw hne,if_neg (by decide)]
  obtain ⟨p58,c58,rfl,_,_⟩:=h58.shape
  simp only [List.length_nil]
  refine gg_ ?_
  refine zf (c:=true) (fun _ K2 hK2=>by refine gg_ ?_;exact hK2) ?_
  refine zf (c:=true) (fun _ K2 hK2=>by refine gg_ ?_;exact hK2) ?_
  refine zf (c:=true) (fun _ K2 hK2=>by refine gg_ ?_;exact hK2) ?_
  refine zf (c:=true) (fun _ K2 hK2=>by refine gg_ ?_;exact hK2) ?_
  refine zf (c:=true) (fun _ K2 hK2=>by refine gg_ ?_;exact hK2) ?_
  refine zf (c:=true) (fun _ K2 hK2=>by refine gg_ ?_;exact hK2) ?_
  refine zr (c:=true) (fun _ K2 hK2=>xS fun w8 e8=>hK2 _ e8) fun w8 e8=>?_
  have:=h _ (S.go e8).ext
  simpa using this
 have hE0 : fnE u n=0:=by simpa using hb
 obtain ⟨bf,of,g,x1,x2,x3,x4,y1,y2,y3,y4,hqf,hgi,hnu,hFn,hn0,hn1,hg,hfo⟩:=ajK hfn hE0
 cases hqf
 have hF:=kI hE0 hgi
 have hnf:=hF.net.few
 have hmf:=hF.loc.few
 have hok:=hF.net.ok
 have hgl:=zS (g:=g)
 obtain ⟨_,_,_,_,hEE,m1,m2,m3,m4⟩:=id hg
 cases hEE
 refine gg_ ?_
 refine zq (n:=7) rfl (fun j v hj=>S.at (hfo j v hj)) ?_
 refine S.al fun b19 w45 S=>?_
 refine S.stB (b:=b19) fun w46 S=>?_
 have S : StX noX w (r.or s58) w46 [.cell b19 (grL g x1 x2 x3 x4 y1 y2 y3 y4) 38,.cell b5 [.slice p0 u.ss.length cap0,.slice (some ⟨bf,of,none⟩) u.fs.length capf,.int .i64 u.mn] 25]:=S
 have hYe:=alF (x:=x) (q:=q) hE0 hgi hnu
 refine zp (fun _ w'=>Ext w46 w') (fun K47 hK47=>?_) ?_
 ·refine gg_ ?_
  refine zj (c:=decide ((g.tys.length : Int)≤x)) (fun _ K2 hK2=>by refine gg_ ?_;exact hK2) ?_
  refine zj (c:=decide (q<0)) (fun _ K2 hK2=>by refine gg_ ?_;exact hK2) ?_
  refine zj (c:=decide ((g.pts.length : Int)≤q)) (fun _ K2 hK2=>by refine gg_ ?_;exact hK2) ?_
  refine c_b (fun hb=>?_) (fun hb=>?_)
  ·rw [hb,Bool.not_true] at hYe
   rw [hYe,if_neg (by decide)] at h58
   rw [hYe,if_neg (by decide)]
   obtain ⟨p58,c58,rfl,_,_⟩:=h58.shape
   simp only [List.length_nil]
   refine gg_ ?_
   refine zj (c:=false) (fun _ K2 hK2=>by refine gg_ ?_;exact hK2) ?_
   refine zj (c:=false) (fun _ K2 hK2=>by refine gg_ ?_;exact hK2) ?_
   refine c_f (by simp) ?_
   exact hK47 _ _ (Ext.refl _)
  ·rw [hb,Bool.not_false] at hYe
   rw [hYe,if_pos rfl] at h58
   rw [hYe,if_pos rfl,Bool.true_and]
   have hWu : aaU u n x q=ZN g x q:=by rw [aaU,hgi]
   rw [hWu] at h58 ⊢
   simp only [Bool.or_eq_false_iff,decide_eq_false_iff_not] at hb
   have hqN : isN (zh g) q:=⟨by omega,by omega⟩
   refine S.ldB (b:=b19) ?_ rfl
   refine ait S.holds hg.up hF hqN fun v144 s144 w71 e71 n71 h144=>?_
   obtain ⟨S,_,_⟩:=S.tell e71 n71
   generalize (ZN g x q).isSome=bo at *
   generalize hWL : (ZN g x q).getD []=WL at *
   have hwl : WL.length≤1000000:=by
    rw [← hWL]
    cases hwy : ZN g x q with
    |none=>exact Nat.zero_le _
    |some y=>
     rcases afq hwy with hc|⟨p,hp,hc⟩
     ·cases hc
     ·have:=acJ hok aen (W:=ptsW g (zD g x)) (t:=p) hqN
      rw [hc] at this
      have : y.length≤(zh g).length:=this
      exact Nat.le_trans this (by omega)
   obtain ⟨p58,c58,rfl,_,_⟩:=h58.shape
   obtain ⟨p144,c144,rfl,_,_⟩:=h144.shape
   refine gS_ ?_
   refine zj (c:=false) (fun _ K2 hK2=>by refine gg_ ?_;exact hK2) ?_
   refine zj (c:=false) (fun _ K2 hK2=>by refine gg_ ?_;simpa using hK2) ?_
   refine c_f (by simp) ?_
   refine zi (ι:=Nat) (fun i=>[.int .i64 (i : Nat)]) (fun i w'=>i≤WL.length∧Ext w71 w') (fun i=>WL.length - i) 0 rfl ⟨Nat.zero_le _,Ext.refl _⟩ ?_
   rintro i d w83 ⟨hi,e83⟩ K80 hK80
   have S:=S.go e83
   rw [List.getD_cons_zero]
   refine gg_ ?_
   refine zk (fun hlt=>?_) (fun hge=>?_)
   ·have hlt : i<WL.length:=by omega
    obtain ⟨ba,oa,rfl,_,ga⟩:=zY h58 hlt
    obtain ⟨bb,ob,rfl,_,gb⟩:=zY h144 hlt
    have S:=S.go (Ext.drew _)
    refine gg_ ?_
    refine zg (by rw [Int.toNat_natCast];exact S.at ga) ?_
    refine gg_ ?_
    refine zg (by rw [Int.toNat_natCast];exact S.at gb) ?_
    refine gg_ ?_
    refine c_f (by simp) ?_
    refine gg_ ?_
    exact hK80 (i+1) _ ⟨hlt,e83.trans (Ext.drew _)⟩ (by omega)
   ·exact hK47 _ _ (e71.trans e83)
 rintro _ w50 e50 d50
 have S:=S.go e50
 clear hYe h58 d50 e50
 have S:=S.to r
 refine gg_ ?_
 rw [← aix]
 refine zi (ι:=Nat) (fun i=>[.bool (YR g R i),.int .i64 (i : Nat)]) (fun i w'=>i≤R.length∧StX noX w r w' [.cell b19 (grL g x1 x2 x3 x4 y1 y2 y3 y4) 38,.cell b5 [.slice p0 u.ss.length cap0,.slice (some ⟨bf,of,none⟩) u.fs.length capf,.int .i64 u.mn] 25]) (fun i=>R.length - i) 0 rfl ⟨Nat.zero_le _,S⟩ ?_
 repeat clear S
 rintro i d w87 ⟨hi,S⟩ K84 hK84
 simp only [List.getD_cons_zero,List.getD_cons_succ]
 refine gp_ ?_
 refine gp_ ?_
 refine zk (fun hlt=>?_) (fun hge=>?_)
 ·have hlt : i<R.length:=by omega
  obtain ⟨bR,oR,cR,hpr,hcl,hcR,hcell⟩:=hR0.get (by decide) hlt
  subst hpr
  have hnx:=aiy (g:=g) hlt
  generalize R[i]=rw at hcR hnx
  obtain ⟨W,ws⟩:=rw
  have hcR0:=hcR
  obtain ⟨pw,cw,rfl,hS⟩:=hcR
  have S:=S.go (Ext.drew _)
  refine yJ (c:=!BM.mayB W ws) (fun _ K2 hK2=>?_) fun w91 e91=>?_
  ·refine gg_ ?_
   refine zq (n:=2) rfl (fun j v hj=>by rw [Int.toNat_natCast];exact S.at (hcell j v hj)) ?_
   refine ais S.holds hcR0 fun w92 e92=>?_
   refine gp_ ?_
   exact hK2 _ e92
  have S:=S.go e91
  refine zj (c:=decide (W≠g.pts.length)) (fun _ K2 hK2=>?_) ?_
  ·refine gg_ ?_
   refine zg (by rw [Int.toNat_natCast];exact S.at (hcell 0 _ rfl)) ?_
   refine gg_ ?_
   exact hK2
  refine gp_ ?_
  have hnx : YR g R (i+1)=((YR g R i || !BM.mayB W ws)||decide (W≠g.pts.length)):=hnx
  rw [← hnx]
  exact hK84 (i+1) _ ⟨hlt,S⟩ (by omega)
 have hie : i=R.length:=by omega
 clear hK84 K84 hge hi d
 subst hie
 rw [aj1,← aiz hE0 hgi]
 refine c_b (fun hb=>?_) (fun hb=>?_)
 ·obtain ⟨rfl,rfl,rfl,rfl⟩:=hV0 (by simpa using hb)
  refine gg_ ?_
  refine zf (c:=true) (fun _ K2 hK2=>by refine gg_ ?_;exact hK2) ?_
  refine zf (c:=true) (fun _ K2 hK2=>by refine gg_ ?_;exact hK2) ?_
  refine zf (c:=true) (fun _ K2 hK2=>by refine gg_ ?_;exact hK2) ?_
  refine zr (c:=true) (fun _ K2 hK2=>xS fun w8 e8=>hK2 _ e8) fun w8 e8=>?_
  have:=h _ (S.go e8).ext
  simpa using this
 have hokC : okC u n R=true:=by simpa using hb
 obtain ⟨rfl,hVn,hVs⟩:=hV1 hokC
 rw [akW hgi] at hVn hVs
 rw [aiz hE0 hgi,J2,Bool.and_eq_true,decide_eq_true_eq,Bool.not_eq_true'] at hokC
 obtain ⟨hRl,hbad⟩:=hokC
 clear hV0 hV1 hb
 refine zi (ι:=Nat) (fun i=>[.int .i64 (i : Nat)]) (fun i w'=>i≤R.length∧(∀ y<i,∀ p<g.pts.length,jG g R y p=false)∧StX noX w r w' [.cell b19 (grL g x1 x2 x3 x4 y1 y2 y3 y4) 38,.cell b5 [.slice p0 u.ss.length cap0,.slice (some ⟨bf,of,none⟩) u.fs.length capf,.int .i64 u.mn] 25]) (fun i=>R.length - i) 0 rfl ⟨Nat.zero_le _,fun y hy=>absurd hy (Nat.not_lt_zero _),S⟩ ?_
 repeat clear S
 rintro i d w117 ⟨hi,hpre,S⟩ K114 hK114
 rw [List.getD_cons_zero]
 refine gp_ ?_
 refine gp_ ?_
 refine zk (fun hlt=>?_) (fun hge=>?_)
 ·have hlt : i<R.length:=by omega
  obtain ⟨bR,oR,cR,hpr,hcl,hcR,hcell⟩:=hR0.get (by decide) hlt
  subst hpr
  have hbk : ZR g R[i]=false:=by
   rw [Bool.eq_false_iff];intro hc;rw [List.any_eq_true.2 ⟨_,List.getElem_mem hlt,hc⟩] at hbad;cases hbad
  have hgD : R.getD i (0,[])=R[i]:=by rw [List.getD_eq_getElem?_getD,List.getElem?_eq_getElem hlt];rfl
  have hcI : ∀ p,jG g R i p=acQ g i (k6 g R[i]) p:=fun p=>by rw [jG,hgD]
  have hwf:=hWl _ (List.getElem_mem hlt)
  generalize R[i]=rw at hcR hbk hcI hwf
  obtain ⟨W,ws⟩:=rw
  have hcR0:=hcR
  obtain ⟨pw,cw,rfl,hS⟩:=hcR
  rw [ZR,Bool.or_eq_false_iff,Bool.not_eq_false',decide_eq_false_iff_not,Decidable.not_not] at hbk
  obtain ⟨hmay,hW⟩:=hbk
  have hmay : BM.May W ws:=by
   by_cases hM : BM.May W ws
   ·exact hM
   ·rw [BM.mayB_false hM] at hmay;cases hmay
  have hW : W=(g.pts.length : Int):=hW
  have hwl : (ws.length : Int)=(W+63) / 64:=hmay.2.2.1
  have hwf : ws.length≤100:=hwf
  have hmk : ∀ y : Int,isN (zh g) y→mk' (k6 g (W,ws)) y=bit ws y.toNat:=fun y hy=>agB hy.1 (by have:=hy.2;omega)
  refine zi (ι:=Nat) (fun i=>[.int .i64 (i : Nat)]) (fun q w'=>q≤g.pts.length∧(∀ p<q,jG g R i p=false)∧StX noX w r w' [.cell b19 (grL g x1 x2 x3 x4 y1 y2 y3 y4) 38,.cell b5 [.slice p0 u.ss.length cap0,.slice (some ⟨bf,of,none⟩) u.fs.length capf,.int .i64 u.mn] 25]) (fun q=>g.pts.length - q) 0 rfl ⟨Nat.zero_le _,fun y hy=>absurd hy (Nat.not_lt_zero _),S⟩ ?_
  repeat clear S
  rintro q d w121 ⟨hq,hpreq,S⟩ K118 hK118
  rw [List.getD_cons_zero]
  refine gg_ ?_
  refine zk (fun hltq=>?_) (fun hgeq=>?_)
  ·have hltq : q<g.pts.length:=by omega
   have hqN : isN (zh g) (q : Int):=⟨by omega,by omega⟩
   have hp : g.pts[(q : Int).toNat]? = some g.pts[q]:=by rw [Int.toNat_natCast];exact List.getElem?_eq_getElem hltq
   have hpm:=List.getElem_mem hltq
   obtain ⟨bp,op,cp,hqp,hcp,hpc,hpo⟩:=m4.sl.get (by decide) hltq
   have hargs:=hF.args _ hpm
   have hus:=agO (x:=(i : Nat)) hF hp
   have hen:=acU (x:=(i : Nat)) hF hp
   generalize g.pts[q]=p at hpc hargs hus hen
   obtain ⟨z1,z2,z3,z4,z5,t1,t2,t3,t4,t5,rfl,hp0⟩:=yN hpc
   subst hqp
   refine gg_ ?_
   refine zq (n:=21) hcp (fun j v hj=>by rw [Int.toNat_natCast];exact S.at (hpo j v hj)) ?_
   refine Qy S.holds hpc.up hargs fun w122 e122=>?_
   have S:=S.go e122
   rw [hus]
   refine S.ldB (b:=b19) ?_ rfl
   refine Qv S.holds hg.up hqN fun vN sN w20 e20 n20 hN=>?_
   obtain ⟨S,_,a20⟩:=S.tell e20 n20
   have hnN : ∀ y ∈ nxt (zh g) (q : Int),isN (zh g) y:=fun y hy=>qC hok hy
   have hnfew : (nxt (zh g) (q : Int)).length≤2:=by rw [JM hqN];exact hF.net.nar _ (List.getElem_mem _)
   obtain ⟨pN,cN,rfl,_,_⟩:=hN.shape
   rw [← ajP (m:=k6 g (W,ws))]
   refine zi (ι:=Nat) (fun j=>[.bool (isJ g (i : Nat) (q : Nat) (k6 g (W,ws)) j),.int .i64 (j : Nat)]) (fun j w'=>j≤(nxt (zh g) (q : Int)).length∧StX noX w (r.or sN) w' [.cell b19 (grL g x1 x2 x3 (some ⟨bp,op,none⟩) y1 y2 y3 y4) 38,.cell b5 [.slice p0 u.ss.length cap0,.slice (some ⟨bf,of,none⟩) u.fs.length capf,.int .i64 u.mn] 25]) (fun j=>(nxt (zh g) (q : Int)).length - j) 0 rfl ⟨Nat.zero_le _,S⟩ ?_
   repeat clear S
   rintro j d w127 ⟨hj,S⟩ K124 hK124
   simp only [List.getD_cons_zero,List.getD_cons_succ]
   refine gg_ ?_
   refine zr (c:=!decide (zD g (i : Nat) (q : Nat))) (fun _ K25 hK25=>?_) fun w28 e28=>?_
   ·refine gg_ ?_
    refine zq (n:=21) hcp (fun j v hj=>by rw [Int.toNat_natCast];exact S.at (hpo j v hj)) ?_
    refine Qz S.holds hpc.up hargs fun w29 e29=>?_
    rw [hen]
    refine gp_ ?_
    exact hK25 _ e29
   have S:=S.go e28
   have hje : decide ((j : Int)<((nxt (zh g) (q : Int)).length : Nat))=decide (j<(nxt (zh g) (q : Int)).length):=by rw [decide_eq_decide];omega
   rw [hje]
   refine c_b (fun hb=>?_) (fun hb=>?_)
   ·rw [Bool.and_eq_true,decide_eq_true_eq,Bool.not_eq_true'] at hb
    obtain ⟨hjl,hE⟩:=hb
    have hnx:=ajQ (m:=k6 g (W,ws)) hjl hE
    obtain ⟨bn,on,hpn,_,hcn⟩:=zY hN hjl
    cases hpn
    have hyN:=hnN _ (List.getElem_mem hjl)
    generalize (nxt (zh g) (q : Int))[j]=y at hnx hcn hyN
    have y0:=hyN.1;have y1:=hyN.2
    have S:=S.go (Ext.drew _)
    refine yJ (c:=mk' (k6 g (W,ws)) y) (fun _ K2 hK2=>?_) fun w136 e136=>?_
    ·refine gg_ ?_
     refine zq (n:=2) rfl (fun j v hj=>by rw [Int.toNat_natCast];exact S.at (hcell j v hj)) ?_
     refine gg_ ?_
     refine zg (by rw [Int.toNat_natCast];exact S.at hcn) ?_
     refine ab1 S.holds hcR0.up y0 (by omega) (by omega) fun w137 e137=>?_
     rw [← hmk y hyN]
     exact hK2 _ e137
    have S:=S.go e136
    refine gp_ ?_
    rw [← hnx]
    exact hK124 (j+1) _ ⟨hjl,S⟩ (by omega)
   ·rw [akO hb]
    have S : StX noX w r w28 [.cell b19 (grL g x1 x2 x3 (some ⟨bp,op,none⟩) y1 y2 y3 y4) 38,.cell b5 [.slice p0 u.ss.length cap0,.slice (some ⟨bf,of,none⟩) u.fs.length capf,.int .i64 u.mn] 25]:=S.to r
    clear hK124 K124 hb hje
    refine zr (c:=!mk' (k6 g (W,ws)) (q : Nat)) (fun _ K2 hK2=>?_) fun w141 e141=>?_
    ·refine gg_ ?_
     refine zq (n:=2) rfl (fun j v hj=>by rw [Int.toNat_natCast];exact S.at (hcell j v hj)) ?_
     refine ab1 S.holds hcR0 hqN.1 (by omega) (by omega) fun w137 e137=>?_
     rw [← hmk _ hqN]
     refine gp_ ?_
     exact hK2 _ e137
    have S:=S.go e141
    have hcc : (xx g (i : Nat) (k6 g (W,ws)) (q : Nat) && !mk' (k6 g (W,ws)) (q : Nat))=jG g R i q:=by rw [hcI,acQ]
    rw [hcc]
    refine c_b (fun hb=>?_) (fun hb=>?_)
    ·have e:=air (b:=jG g R) hlt hltq hpre hpreq hb
     obtain ⟨rfl,rfl,rfl⟩:=hVs i q (by rw [aaW,e])
     refine gg_ ?_
     refine zf (c:=true) (fun _ K2 hK2=>by refine gg_ ?_;simpa using hK2) ?_
     refine zf (c:=true) (fun _ K2 hK2=>by refine gg_ ?_;exact hK2) ?_
     refine zf (c:=true) (fun _ K2 hK2=>by refine gg_ ?_;exact hK2) ?_
     refine zr (c:=true) (fun _ K2 hK2=>xS fun w8 e8=>hK2 _ e8) fun w8 e8=>?_
     have:=h _ (S.go e8).ext
     simpa using this
    ·refine gp_ ?_
     exact hK118 (q+1) _ ⟨hltq,fun p hp=>by
      rcases Nat.lt_or_ge p q with h|h
      ·exact hpreq p h
      ·rw [show p=q by omega];exact hb,S⟩ (by omega)
  ·have hqe : q=g.pts.length:=by omega
   subst hqe
   refine gp_ ?_
   exact hK114 (i+1) _ ⟨hlt,fun y hy=>by
    rcases Nat.lt_or_ge y i with h|h
    ·exact hpre y h
    ·rw [show y=i by omega];exact hpreq,S⟩ (by omega)
 ·have hie : i=R.length:=by omega
  subst hie
  obtain ⟨rfl,rfl,rfl⟩:=hVn (acR hpre)
  refine gg_ ?_
  refine zf (c:=true) (fun _ K2 hK2=>by refine gg_ ?_;exact hK2) ?_
  refine zf (c:=true) (fun _ K2 hK2=>hK2) ?_
  refine zf (c:=true) (fun _ K2 hK2=>by refine gg_ ?_;exact hK2) ?_
  refine zr (c:=true) (fun _ K2 hK2=>xS fun w8 e8=>hK2 _ e8) fun w8 e8=>?_
  have:=h _ (S.go e8).ext
  simpa using this
end Go.Proofs
end
