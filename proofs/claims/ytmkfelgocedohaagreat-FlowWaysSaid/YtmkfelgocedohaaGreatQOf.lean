/-
  Shallow readings of functions. Made by a program (wip/gen/gen.py) out of the translation; the kernel checks each equality.
  Contracts of flow: a net is told of a program; has, before, marked, reached.
  Contracts of flow: the net of a program; what is reached.
  Plain: the walk from point 0 (deep first) as steps of a machine; what is left behind.
  Plain: what the walk leaves behind: each point that is reached once; edges back; who lies above comes ahead.
  Contract of flow: the walk.
  Plain: shortest ways, the first of them by number; found level by level.
  Plain: a round of levels; the way that is found.
  Plain: the document's shortest way: how far it is to the end, then always the least that comes nearer.
  Plain: where one goes round: what reaches a point without going through another one.
  Plain: who lies above whom is a chain; right above.
  Plain: places in the order; two small nets, reckoned.
  Contract of flow: who lies above whom. Rows of marks in memory.
  Contract of flow: (net).above.
  Contracts of flow: Before, Reach, Above, Order, Back. Made by a program (wip/gen/flowc.py).
  Contracts of flow: Is, Right.
-/
import Derived.Test.YtmkfelgocedohaaGreatQOb
import Derived.Test.YtmkfelgocedohaaGreatQOe
section
namespace Go.Proofs.Tryz
open Go.Sh
set_option maxRecDepth 100000
def Qy (t0 t1 t2 : Value) (w : World) (K : VW) : Prop:=
 pw w (Instr.box 25 t0) fun t3 w1=>
 lo w1 25 t3 fun t11=>ca xh #[t11,t1] w1 fun t13 w2=>
 pe t13 0 fun t14=>pe t13 1 fun t15=>bt .neq 29 t15 (i6 0) fun t17=>za (fun K3=>gIf t17 false (pw w2 (Instr.buildSlice 28 1 #[(0,t2)]) fun t21 w7=>
 ca yy #[t14,t21] w7 fun t22 w8=>
 pp (Op.unary .not t22) fun t23=>K3 [t23] w8) (K3 [undef] w2)) (fun s4 _d5 w6=>
 zb t17 tr_ (s4.getD 0 undef) fun t24=>zc t24 (K (.tuple #[(Value.slice Option.none 0 0),(i6 2)]) w6) (ca xu #[t14,t2] w6 fun t27 w9=>
 K (.tuple #[t27,(i6 0)]) w9))
theorem ab0 {t0 t1 t2 : Value} {w : World} {K : VW} (h : Qy t0 t1 t2 w K) : zd prog jx #[t0,t1,t2] w K:=
 okC false (.s (.r (rz 3 0 2)) (.s (.r (rz 8 0 33)) (.s (.s (.r (ra 3 0 0 (.grp 18 false (ri 5 3 160) [23] (rz 1 8 0)))) (.c (.s (.r (rz 2 0 0)) (.n)) (.n))) (.s (.r (rz 5 0 32)) (.n))))) func14 rfl (by kernel_rfl) (by kernel_rfl) h
def Jt (t0 t1 t2 : Value) (w : World) (K : VW) : Prop:=
 pw w (Instr.box 25 t0) fun t3 w1=>
 lo w1 25 t3 fun t11=>ca xh #[t11,t1] w1 fun t13 w2=>
 pe t13 0 fun t14=>pe t13 1 fun t15=>bt .neq 29 t15 (i6 0) fun t17=>za (fun K3=>gIf t17 false (pw w2 (Instr.buildSlice 28 1 #[(0,t2)]) fun t21 w7=>
 ca yy #[t14,t21] w7 fun t22 w8=>
 pp (Op.unary .not t22) fun t23=>K3 [t23] w8) (K3 [undef] w2)) (fun s4 _d5 w6=>
 zb t17 tr_ (s4.getD 0 undef) fun t24=>zc t24 (K (.tuple #[(Value.slice Option.none 0 0),(i6 2)]) w6) (ca qv #[t14,t2,(Value.func (.func 60) #[] #[])] w6 fun t27 w9=>
 ca y8 #[t27] w9 fun t28 w10=>
 K (.tuple #[t28,(i6 0)]) w10))
theorem adv {t0 t1 t2 : Value} {w : World} {K : VW} (h : Jt t0 t1 t2 w K) : zd prog j7 #[t0,t1,t2] w K:=
 okC false (.s (.r (rz 3 0 2)) (.s (.r (rz 8 0 33)) (.s (.s (.r (ra 3 0 0 (.grp 18 false (ri 5 3 160) [23] (rz 1 8 0)))) (.c (.s (.r (rz 2 0 0)) (.n)) (.n))) (.s (.r (rz 6 0 160)) (.n))))) func15 rfl (by kernel_rfl) (by kernel_rfl) h
def Ju (t0 t1 t2 : Value) (w : World) (K : VW) : Prop:=
 pw w (Instr.box 25 t0) fun t3 w1=>
 lo w1 25 t3 fun t11=>ca xh #[t11,t1] w1 fun t13 w2=>
 pe t13 0 fun t14=>pe t13 1 fun t15=>bt .neq 29 t15 (i6 0) fun t17=>za (fun K3=>gIf t17 false (pw w2 (Instr.buildSlice 28 1 #[(0,t2)]) fun t21 w7=>
 ca yy #[t14,t21] w7 fun t22 w8=>
 pp (Op.unary .not t22) fun t23=>K3 [t23] w8) (K3 [undef] w2)) (fun s4 _d5 w6=>
 zb t17 tr_ (s4.getD 0 undef) fun t24=>zc t24 (K (.tuple #[(Value.slice Option.none 0 0),(i6 2)]) w6) (ca xF #[t14] w6 fun t26 w9=>
 xl w9 67 t26 t2 75 fun t29=>ca y8 #[t29] w9 fun t30 w10=>
 K (.tuple #[t30,(i6 0)]) w10))
theorem adw {t0 t1 t2 : Value} {w : World} {K : VW} (h : Ju t0 t1 t2 w K) : zd prog j8 #[t0,t1,t2] w K:=
 okC false (.s (.r (rz 3 0 2)) (.s (.r (rz 8 0 33)) (.s (.s (.r (ra 3 0 0 (.grp 18 false (ri 5 3 160) [23] (rz 1 8 0)))) (.c (.s (.r (rz 2 0 0)) (.n)) (.n))) (.s (.r (rz 8 0 2312)) (.n))))) func16 rfl (by kernel_rfl) (by kernel_rfl) h
def VE (t0 t1 t2 t3 : Value) (w : World) (K : VW) : Prop:=
 pw w (Instr.box 25 t0) fun t4 w1=>
 lo w1 25 t4 fun t19=>ca xh #[t19,t1] w1 fun t21 w2=>
 pe t21 0 fun t22=>pe t21 1 fun t23=>bt .neq 29 t23 (i6 0) fun t25=>za (fun K3=>gIf t25 false (pw w2 (Instr.buildSlice 28 2 #[(0,t2),(1,t3)]) fun t30 w7=>
 ca yy #[t22,t30] w7 fun t31 w8=>
 pp (Op.unary .not t31) fun t32=>K3 [t32] w8) (K3 [undef] w2)) (fun s4 _d5 w6=>
 zb t25 tr_ (s4.getD 0 undef) fun t33=>za (fun K9=>gIf t33 false (xl w6 98 t22 t2 28 fun t38=>ca z8 #[t38,t3] w6 fun t40 w13=>
 pp (Op.unary .not t40) fun t41=>K9 [t41] w13) (K9 [undef] w6)) (fun s10 _d11 w12=>
 zb t33 tr_ (s10.getD 0 undef) fun t42=>zc t42 (K (.tuple #[(Value.slice Option.none 0 0),(i6 2)]) w12) (ca xF #[t22] w12 fun t44 w14=>
 xl w14 67 t44 t2 75 fun t47=>bt .eql 75 t47 (Value.slice Option.none 0 0) fun t49=>za (fun K15=>gIf t49 false (xl w14 75 t47 t3 4 fun t54=>pp (Op.unary .not t54) fun t55=>K15 [t55] w14) (K15 [undef] w14)) (fun s16 _d17 w18=>
 zb t49 tr_ (s16.getD 0 undef) fun t56=>zc t56 (K (.tuple #[(Value.slice Option.none 0 0),(i6 2)]) w18) (pp (Builtin.len_ #[98] 3 #[t22]) fun t58=>pw w18 (Instr.makeSlice 75 t58 t58) fun t59 w19=>
 px 75 t59 t3 fun t64=>so w19 4 t64 tr_ fun w20=>px 75 t59 t2 fun t65=>so w20 4 t65 tr_ fun w21=>pw w21 (Instr.buildSlice 28 1 #[(0,t2)]) fun t67 w22=>
 zm [t67] w22 (fun s24 _d25 w26 K23=>
 pp (Builtin.len_ #[28] 3 #[(s24.getD 0 undef)]) fun t69=>bt .gtr 3 t69 (i6 0) fun t70=>zc t70 (xl w26 28 (s24.getD 0 undef) (i6 0) 3 fun t73=>pp (Instr.sliceAt 28 (s24.getD 0 undef) (some (i6 1)) none none) fun t75=>bf .eql 3 t73 t3 fun t78=>zc t78 (K23 [t75] w26) (ca xu #[t22,t73] w26 fun t81 w27=>
 pp (Builtin.len_ #[28] 3 #[t81]) fun t82=>zm [t75,(i6 0)] w27 (fun s29 _d30 w31 K28=>
 bf .lss 3 (s29.getD 1 undef) t82 fun t84=>zc t84 (za (fun K32=>
 xl w31 28 t81 (s29.getD 1 undef) 3 fun t86=>xl w31 75 t59 t86 4 fun t90=>pp (Op.unary .not t90) fun t91=>zc t91 (px 75 t59 t86 fun t94=>so w31 4 t94 tr_ fun w36=>pw w36 (Instr.buildSlice 28 1 #[(0,t86)]) fun t97 w37=>
 pw w37 (Builtin.append_ #[28,28] 28 #[(s29.getD 0 undef),t97]) fun t98 w38=>
 K32 [t98] w38) (K32 [(s29.getD 0 undef)] w31)) (fun s33 _d34 w35=>
 bt .add 3 (s29.getD 1 undef) (i6 1) fun t99=>K28 [(s33.getD 0 undef),t99] w35)) (K23 [(s29.getD 0 undef)] w31)))) (ca y8 #[t59] w26 fun t101 w39=>
 K (.tuple #[t101,(i6 0)]) w39)))))))
theorem aeI {t0 t1 t2 t3 : Value} {w : World} {K : VW} (h : VE t0 t1 t2 t3 w K) : zd prog Zg #[t0,t1,t2,t3] w K:=
 okC false (.s (.r (rz 3 0 2)) (.s (.r (rz 8 0 33)) (.s (.s (.r (ra 3 0 0 (.grp 26 false (ri 6 3 640) [32] (ra 2 9 0 (.grp 34 false (ri 7 11 2112) [41] (rz 1 18 0)))))) (.c (.s (.r (rz 2 0 0)) (.n)) (.n))) (.s (.s (.r (rz 6 0 264)) (.s (.r (ra 3 0 0 (.grp 50 false (ri 5 3 64) [55] (rz 1 8 0)))) (.c (.s (.r (rz 2 0 0)) (.n)) (.n)))) (.s (.r (rz 4 0 32)) (.s (.r (rz 8 0 34816)) (.s (.r (rz 3 0 8)) (.s (.b (.lp [14] (.s (.s (.r (rz 3 0 0)) (.c (.n) (.n))) (.b (.s (.r (rz 4 0 16)) (.s (.r (rz 3 0 0)) (.s (.s (.r (rz 3 0 0)) (.c (.n) (.n))) (.s (.r (rz 5 0 32)) (.b (.lp [14,83] (.s (.r (rz 1 0 0)) (.s (.c (.n) (.n)) (.j [14] (.b (.s (.r (rz 3 0 4)) (.s (.r (rz 5 0 64)) (.c (.s (.r (rz 4 0 128)) (.r (rz 5 0 160))) (.n))))) (.r (rz 2 0 0))))))))))))))) (.s (.r (rz 4 0 8)) (.n)))))))))) func22 rfl (by kernel_rfl) (by kernel_rfl) h
def Jv (t0 t1 : Value) (w : World) (K : VW) : Prop:=
 pw w (Instr.box 25 t0) fun t2 w1=>
 lo w1 25 t2 fun t11=>ca xh #[t11,t1] w1 fun t13 w2=>
 pe t13 0 fun t14=>pe t13 1 fun t15=>bt .neq 29 t15 (i6 0) fun t17=>zc t17 (K (.tuple #[(Value.slice Option.none 0 0),t15]) w2) (ca xY #[t14] w2 fun t21 w3=>
 pe t21 0 fun t22=>pe t21 1 fun _t23=>K (.tuple #[t22,t15]) w3)
theorem adx {t0 t1 : Value} {w : World} {K : VW} (h : Jv t0 t1 w K) : zd prog j9 #[t0,t1] w K:=
 okC false (.s (.r (rz 3 0 2)) (.s (.r (rz 8 0 33)) (.s (.s (.r (rz 2 0 0)) (.c (.s (.r (rz 3 0 0)) (.n)) (.n))) (.s (.r (rz 7 0 8)) (.s (.r (rz 4 0 0)) (.n)))))) func24 rfl (by kernel_rfl) (by kernel_rfl) h
def VF (t0 t1 : Value) (w : World) (K : VW) : Prop:=
 pw w (Instr.box 25 t0) fun t2 w1=>
 lo w1 25 t2 fun t11=>ca xh #[t11,t1] w1 fun t13 w2=>
 pe t13 0 fun t14=>pe t13 1 fun t15=>bt .neq 29 t15 (i6 0) fun t17=>zc t17 (K (.tuple #[(Value.slice Option.none 0 0),t15]) w2) (ca xY #[t14] w2 fun t21 w3=>
 pe t21 0 fun _t22=>pe t21 1 fun t23=>K (.tuple #[t23,t15]) w3)
theorem aeJ {t0 t1 : Value} {w : World} {K : VW} (h : VF t0 t1 w K) : zd prog Zh #[t0,t1] w K:=
 okC false (.s (.r (rz 3 0 2)) (.s (.r (rz 8 0 33)) (.s (.s (.r (rz 2 0 0)) (.c (.s (.r (rz 3 0 0)) (.n)) (.n))) (.s (.r (rz 7 0 8)) (.s (.r (rz 4 0 0)) (.n)))))) func25 rfl (by kernel_rfl) (by kernel_rfl) h
def Jw (t0 t1 : Value) (w : World) (K : VW) : Prop:=
 pw w (Instr.box 25 t0) fun t2 w1=>
 lo w1 25 t2 fun t16=>ca xh #[t16,t1] w1 fun t18 w2=>
 pe t18 0 fun t19=>pe t18 1 fun t20=>bt .neq 29 t20 (i6 0) fun t22=>zc t22 (K (.tuple #[(Value.slice Option.none 0 0),t20]) w2) (ca xF #[t19] w2 fun t25 w3=>
 pw w3 (Instr.buildSlice 28 1 #[(0,(i6 (-1)))]) fun t26 w4=>
 pp (Builtin.len_ #[98] 3 #[t19]) fun t28=>ca xQ #[t26,t28] w4 fun t29 w5=>
 pp (Builtin.len_ #[67] 3 #[t25]) fun t31=>zm [(i6 0)] w5 (fun s7 _d8 w9 K6=>
 bf .lss 3 (s7.getD 0 undef) t31 fun t33=>zc t33 (xl w9 67 t25 (s7.getD 0 undef) 75 fun t36=>ca y8 #[t36] w9 fun t38 w10=>
 pp (Builtin.len_ #[28] 3 #[t38]) fun t40=>zm [(i6 0)] w10 (fun s12 _d13 w14 K11=>
 bf .lss 3 (s12.getD 0 undef) t40 fun t42=>zc t42 (za (fun K15=>
 xl w14 28 t38 (s12.getD 0 undef) 3 fun t44=>bf .neq 3 t44 (s7.getD 0 undef) fun t47=>za (fun K19=>gIf t47 true (xl w14 67 t25 t44 75 fun t52=>ca y8 #[t52] w14 fun t53 w23=>
 pp (Builtin.len_ #[28] 3 #[t53]) fun t54=>pp (Builtin.len_ #[28] 3 #[t38]) fun t56=>bt .sub 3 t56 (i6 1) fun t57=>bf .eql 3 t54 t57 fun t58=>K19 [t58] w23) (K19 [undef] w14)) (fun s20 _d21 w22=>
 zb t47 (s20.getD 0 undef) fa_ fun t59=>zc t59 (px 28 t29 (s7.getD 0 undef) fun t63=>so w22 3 t63 t44 fun w24=>K15 [] w24) (K15 [] w22))) (fun _s16 _d17 w18=>
 bt .add 3 (s12.getD 0 undef) (i6 1) fun t64=>K11 [t64] w18)) (bt .add 3 (s7.getD 0 undef) (i6 1) fun t65=>K6 [t65] w14))) (K (.tuple #[t29,(i6 0)]) w9)))
theorem ady {t0 t1 : Value} {w : World} {K : VW} (h : Jw t0 t1 w K) : zd prog vc #[t0,t1] w K:=
 okC false (.s (.r (rz 3 0 2)) (.s (.r (rz 8 0 33)) (.s (.s (.r (rz 2 0 0)) (.c (.s (.r (rz 3 0 0)) (.n)) (.n))) (.s (.r (rz 3 0 8)) (.s (.r (rz 5 0 130)) (.s (.s (.r (rz 3 0 0)) (.b (.lp [32] (.s (.r (rz 1 0 0)) (.s (.c (.n) (.n)) (.s (.b (.s (.r (rz 5 0 16)) (.s (.r (rz 3 0 8)) (.s (.r (rz 3 0 0)) (.b (.lp [41] (.s (.r (rz 1 0 0)) (.s (.c (.n) (.n)) (.j [] (.b (.s (.r (rz 3 0 4)) (.s (.r (ra 4 0 0 (.grp 48 true (ri 10 4 576) [58] (rz 1 14 0)))) (.c (.r (rz 5 0 512)) (.n))))) (.r (rz 2 0 0))))))))))) (.r (rz 2 0 0)))))))) (.s (.r (rz 3 0 0)) (.n)))))))) func26 rfl (by kernel_rfl) (by kernel_rfl) h
def abh (t0 t1 t2 t3 t4 : Value) (w : World) (K : VW) : Prop:=
 pw w (Instr.box 25 t0) fun t5 w1=>
 lo w1 25 t5 fun t23=>ca xh #[t23,t1] w1 fun t25 w2=>
 pe t25 0 fun t26=>pe t25 1 fun t27=>bt .neq 29 t27 (i6 0) fun t29=>za (fun K3=>gIf t29 false (pw w2 (Instr.buildSlice 28 2 #[(0,t2),(1,t3)]) fun t34 w7=>
 ca yy #[t26,t34] w7 fun t35 w8=>
 pp (Op.unary .not t35) fun t36=>K3 [t36] w8) (K3 [undef] w2)) (fun s4 _d5 w6=>
 zb t29 tr_ (s4.getD 0 undef) fun t37=>za (fun K9=>gIf t37 false (ca yy #[t26,t4] w6 fun t41 w13=>
 pp (Op.unary .not t41) fun t42=>K9 [t42] w13) (K9 [undef] w6)) (fun s10 _d11 w12=>
 zb t37 tr_ (s10.getD 0 undef) fun t43=>zc t43 (K (.tuple #[(Value.slice Option.none 0 0),fa_,(i6 2)]) w12) (pw w12 (Instr.makeMap 114 none) fun t44 w14=>
 pw w14 (Instr.buildSlice 28 1 #[(0,t2)]) fun t47 w15=>
 pu w15 (Instr.mapUpdate 114 t44 t2 t47) fun w16=>pw w16 (Instr.buildSlice 28 1 #[(0,t2)]) fun t50 w17=>
 zm [t50] w17 (fun s19 _d20 w21 K18=>
 pp (Builtin.len_ #[28] 3 #[(s19.getD 0 undef)]) fun t52=>bt .gtr 3 t52 (i6 0) fun t53=>za (fun K22=>gIf t53 true (pq w21 (Instr.lookup 114 t44 t3 false) fun t57=>bt .eql 28 t57 (Value.slice Option.none 0 0) fun t58=>K22 [t58] w21) (K22 [undef] w21)) (fun s23 _d24 w25=>
 zb t53 (s23.getD 0 undef) fa_ fun t59=>zc t59 (pp (Builtin.len_ #[28] 3 #[(s19.getD 0 undef)]) fun t61=>zm [(Value.slice Option.none 0 0),(i6 0)] w25 (fun s27 _d28 w29 K26=>
 bf .lss 3 (s27.getD 1 undef) t61 fun t63=>zc t63 (za (fun K30=>
 xl w29 28 (s19.getD 0 undef) (s27.getD 1 undef) 3 fun t65=>bf .neq 3 t65 t2 fun t68=>za (fun K34=>gIf t68 true (ca z8 #[t4,t65] w29 fun t72 w38=>
 K34 [t72] w38) (K34 [undef] w29)) (fun s35 _d36 w37=>
 zb t68 (s35.getD 0 undef) fa_ fun t73=>zc t73 (K30 [(s27.getD 0 undef)] w37) (xl w37 98 t26 t65 28 fun t77=>ca ka #[t77] w37 fun t78 w39=>
 ca jG #[t78] w39 fun _t80 w40=>
 pp (Builtin.len_ #[28] 3 #[t78]) fun t82=>zm [(s27.getD 0 undef),(i6 0)] w40 (fun s42 _d43 w44 K41=>
 bf .lss 3 (s42.getD 1 undef) t82 fun t84=>zc t84 (za (fun K45=>
 xl w44 28 t78 (s42.getD 1 undef) 3 fun t86=>pq w44 (Instr.lookup 114 t44 t86 false) fun t89=>bt .eql 28 t89 (Value.slice Option.none 0 0) fun t90=>zc t90 (pq w44 (Instr.lookup 114 t44 t65 false) fun t95=>ca ka #[t95] w44 fun t96 w49=>
 pw w49 (Instr.buildSlice 28 1 #[(0,t86)]) fun t98 w50=>
 pw w50 (Builtin.append_ #[28,28] 28 #[t96,t98]) fun t99 w51=>
 pu w51 (Instr.mapUpdate 114 t44 t86 t99) fun w52=>pw w52 (Instr.buildSlice 28 1 #[(0,t86)]) fun t102 w53=>
 pw w53 (Builtin.append_ #[28,28] 28 #[(s42.getD 0 undef),t102]) fun t103 w54=>
 K45 [t103] w54) (K45 [(s42.getD 0 undef)] w44)) (fun s46 _d47 w48=>
 bt .add 3 (s42.getD 1 undef) (i6 1) fun t104=>K41 [(s46.getD 0 undef),t104] w48)) (K30 [(s42.getD 0 undef)] w44))))) (fun s31 _d32 w33=>
 bt .add 3 (s27.getD 1 undef) (i6 1) fun t105=>K26 [(s31.getD 0 undef),t105] w33)) (K18 [(s27.getD 0 undef)] w29))) (pq w25.drew (Instr.lookup 114 t44 t3 false) fun t109=>pq w25.drew (Instr.lookup 114 t44 t3 false) fun t112=>bt .neq 28 t112 (Value.slice Option.none 0 0) fun t113=>K (.tuple #[t109,t113,(i6 0)]) w25.drew))))))
theorem afs {t0 t1 t2 t3 t4 : Value} {w : World} {K : VW} (h : abh t0 t1 t2 t3 t4 w K) : zd prog Z9 #[t0,t1,t2,t3,t4] w K:=
 okC false (.s (.r (rz 4 0 2)) (.s (.r (rz 8 0 33)) (.s (.s (.r (ra 3 0 0 (.grp 30 false (ri 6 3 640) [36] (ra 2 9 0 (.grp 38 false (ri 4 11 32) [42] (rz 1 15 0)))))) (.c (.s (.r (rz 3 0 0)) (.n)) (.n))) (.s (.r (rz 7 0 642)) (.s (.r (rz 3 0 8)) (.s (.b (.lp [15] (.s (.s (.r (ra 4 0 0 (.grp 54 true (ri 4 4 16) [58] (rz 1 8 0)))) (.c (.n) (.n))) (.b (.s (.r (rz 1 0 0)) (.s (.s (.r (rz 3 0 0)) (.b (.lp [16,62] (.s (.r (rz 1 0 0)) (.s (.c (.n) (.n)) (.j [16] (.b (.s (.r (rz 3 0 4)) (.s (.s (.r (ra 4 0 0 (.grp 69 true (ri 3 4 32) [72] (rz 1 7 0)))) (.c (.n) (.n))) (.s (.r (rz 6 0 576)) (.s (.r (rz 2 0 8)) (.s (.r (rz 3 0 0)) (.b (.lp [16,83] (.s (.r (rz 1 0 0)) (.s (.c (.n) (.n)) (.j [16] (.b (.s (.r (rz 3 0 4)) (.s (.r (rz 4 0 16)) (.c (.s (.r (rz 10 0 690432)) (.r (rz 5 0 160))) (.n))))) (.r (rz 2 0 0))))))))))))) (.r (rz 2 0 0)))))))) (.r (rz 2 0 0)))))))) (.s (.r (rz 10 0 1040)) (.n)))))))) func29 rfl (by kernel_rfl) (by kernel_rfl) h
def acN (t0 t1 t2 : Value) (w : World) (K : VW) : Prop:=
 pw w (Instr.box 25 t0) fun t3 w1=>
 lo w1 25 t3 fun t13=>ca xh #[t13,t1] w1 fun t15 w2=>
 pe t15 0 fun t16=>pe t15 1 fun t17=>bt .neq 29 t17 (i6 0) fun t19=>zc t19 (K (.tuple #[(i6 0),fa_,t17]) w2) (pp (Builtin.len_ #[28] 3 #[t2]) fun t22=>zm [(i6 0)] w2 (fun s4 _d5 w6 K3=>
 bf .lss 3 (s4.getD 0 undef) t22 fun t24=>zc t24 (xl w6 28 t2 (s4.getD 0 undef) 3 fun t27=>pw w6 (Instr.buildSlice 28 1 #[(0,t27)]) fun t30 w7=>
 ca yy #[t16,t30] w7 fun t31 w8=>
 pp (Op.unary .not t31) fun t32=>za (fun K9=>gIf t32 false (bt .gtr 3 (s4.getD 0 undef) (i6 0) fun t35=>K9 [t35] w8) (K9 [undef] w8)) (fun s10 _d11 w12=>
 za (fun K13=>gIf (s10.getD 0 undef) true (bt .sub 3 (s4.getD 0 undef) (i6 1) fun t40=>xl w12 28 t2 t40 3 fun t42=>xl w12 98 t16 t42 28 fun t44=>ca z8 #[t44,t27] w12 fun t46 w17=>
 pp (Op.unary .not t46) fun t47=>K13 [t47] w17) (K13 [undef] w12)) (fun s14 _d15 w16=>
 za (fun K18=>gIf t32 false (zb (s10.getD 0 undef) (s14.getD 0 undef) fa_ fun t48=>K18 [t48] w16) (K18 [undef] w16)) (fun s19 _d20 w21=>
 zb t32 tr_ (s19.getD 0 undef) fun t49=>zc t49 (K (.tuple #[(s4.getD 0 undef),fa_,(i6 0)]) w21) (bt .add 3 (s4.getD 0 undef) (i6 1) fun t51=>K3 [t51] w21))))) (pp (Builtin.len_ #[28] 3 #[t2]) fun t53=>bt .gtr 3 t53 (i6 0) fun t54=>K (.tuple #[(i6 0),t54,(i6 0)]) w6)))
theorem agw {t0 t1 t2 : Value} {w : World} {K : VW} (h : acN t0 t1 t2 w K) : zd prog YY #[t0,t1,t2] w K:=
 okC false (.s (.r (rz 4 0 2)) (.s (.r (rz 8 0 33)) (.s (.s (.r (rz 2 0 0)) (.c (.s (.r (rz 4 0 0)) (.n)) (.n))) (.s (.s (.r (rz 3 0 0)) (.b (.lp [23] (.s (.r (rz 1 0 0)) (.s (.c (.n) (.n)) (.s (.b (.s (.r (rz 5 0 16)) (.s (.r (ra 6 0 160 (.grp 33 false (ri 3 6 0) [36] (.grp 36 true (ri 11 9 541696) [47] (.grp 33 false (ri 1 20 0) [48] (rz 1 21 0)))))) (.c (.s (.r (rz 4 0 0)) (.n)) (.n))))) (.r (rz 2 0 0)))))))) (.s (.r (rz 6 0 0)) (.n)))))) func30 rfl (by kernel_rfl) (by kernel_rfl) h
def acO (t0 t1 : Value) (w : World) (K : VW) : Prop:=
 pw w (Instr.box 25 t0) fun t2 w1=>
 bt .lss 3 t1 (i6 0) fun t10=>za (fun K2=>gIf t10 false (fl w1 t2 25 1 23 fun t14=>pp (Builtin.len_ #[23] 3 #[t14]) fun t15=>bf .geq 3 t1 t15 fun t16=>K2 [t16] w1) (K2 [undef] w1)) (fun s3 _d4 w5=>
 zb t10 tr_ (s3.getD 0 undef) fun t17=>za (fun K6=>gIf t17 false (lo w5 25 t2 fun t19=>ca Xn #[t19] w5 fun t20 w10=>
 pp (Op.unary .not t20) fun t21=>K6 [t21] w10) (K6 [undef] w5)) (fun s7 _d8 w9=>
 zb t17 tr_ (s7.getD 0 undef) fun t22=>zc t22 (K (.tuple #[(Value.slice Option.none 0 0),(i6 2)]) w9) (fl w9 t2 25 1 23 fun t24=>px 23 t24 t1 fun t26=>fl w9 t26 38 6 36 fun t28=>pp (Builtin.len_ #[36] 3 #[t28]) fun t29=>zm [(Value.slice Option.none 0 0),(i6 0)] w9 (fun s12 _d13 w14 K11=>
 bf .lss 3 (s12.getD 1 undef) t29 fun t31=>zc t31 (za (fun K15=>
 xl w14 36 t28 (s12.getD 1 undef) 87 fun t33=>pw w14 (Instr.alloc 87 true (.tuple #[])) fun t8 w19=>
 so w19 87 t8 t33 fun w20=>fl w20 t8 87 0 78 fun t42=>bt .eql 78 t42 (Value.int .u8 14) fun t43=>zc t43 (pw w20 (Instr.buildSlice 98 1 #[(0,(Value.slice Option.none 0 0))]) fun t45 w21=>
 pw w21 (Builtin.append_ #[98,98] 98 #[(s12.getD 0 undef),t45]) fun t46 w22=>
 K15 [t46] w22) (fl w20 t8 87 0 78 fun t49=>bt .eql 78 t49 (Value.int .u8 12) fun t50=>za (fun K23=>gIf t50 true (fl w20 t8 87 11 3 fun t53=>fl w20 t8 87 10 3 fun t55=>bf .neq 3 t53 t55 fun t56=>K23 [t56] w20) (K23 [undef] w20)) (fun s24 _d25 w26=>
 zb t50 (s24.getD 0 undef) fa_ fun t57=>zc t57 (fl w26 t8 87 10 3 fun t60=>fl w26 t8 87 11 3 fun t62=>pw w26 (Instr.buildSlice 28 2 #[(0,t60),(1,t62)]) fun t63 w27=>
 pw w27 (Instr.buildSlice 98 1 #[(0,t63)]) fun t64 w28=>
 pw w28 (Builtin.append_ #[98,98] 98 #[(s12.getD 0 undef),t64]) fun t65 w29=>
 K15 [t65] w29) (fl w26 t8 87 10 3 fun t36=>pw w26 (Instr.buildSlice 28 1 #[(0,t36)]) fun t37 w30=>
 pw w30 (Instr.buildSlice 98 1 #[(0,t37)]) fun t38 w31=>
 pw w31 (Builtin.append_ #[98,98] 98 #[(s12.getD 0 undef),t38]) fun t39 w32=>
 K15 [t39] w32)))) (fun s16 _d17 w18=>
 bt .add 3 (s12.getD 1 undef) (i6 1) fun t66=>K11 [(s16.getD 0 undef),t66] w18)) (K (.tuple #[(s12.getD 0 undef),(i6 0)]) w14)))))
theorem agx {t0 t1 : Value} {w : World} {K : VW} (h : acO t0 t1 w K) : zd prog xh #[t0,t1] w K:=
 okC false (.s (.r (rz 3 0 2)) (.s (.s (.r (ra 3 0 0 (.grp 11 false (ri 5 3 16) [16] (ra 2 8 0 (.grp 18 false (ri 3 10 9) [21] (rz 1 13 0)))))) (.c (.s (.r (rz 2 0 0)) (.n)) (.n))) (.s (.r (rz 1 0 0)) (.s (.s (.r (rz 8 0 1028)) (.b (.lp [6,30] (.s (.r (rz 1 0 0)) (.s (.c (.n) (.n)) (.j [6] (.b (.s (.r (rz 4 0 164)) (.b (.s (.r (rz 4 0 4)) (.c (.r (rz 4 0 40)) (.s (.r (ra 4 0 4 (.grp 51 true (ri 5 4 68) [56] (rz 2 9 0)))) (.c (.r (rz 9 0 43280)) (.r (rz 7 0 2704))))))))) (.r (rz 2 0 0)))))))) (.s (.r (rz 3 0 0)) (.n)))))) func55 rfl (by kernel_rfl) (by kernel_rfl) h
def XS (t0 t1 : Value) (w : World) (K : VW) : Prop:=
 pw w (Instr.box 98 t0) fun t2 w1=>
 pp (Instr.makeFunc (.func 96) #[] #[t2]) fun t6=>ca ys #[t1,t6] w1 fun t7 w2=>
 pp (Op.unary .not t7) fun t8=>K t8 w2
theorem abi {t0 t1 : Value} {w : World} {K : VW} (h : XS t0 t1 w K) : zd prog yy #[t0,t1] w K:=
 okC false (.s (.r (rz 2 0 2)) (.s (.r (rz 5 0 32)) (.n))) func56 rfl (by kernel_rfl) (by kernel_rfl) h
def Z4 (t0 t1 : Value) (w : World) (K : VW) : Prop:=
 pp (Builtin.len_ #[98] 3 #[t0]) fun t9=>zm [(Value.slice Option.none 0 0),(i6 0)] w (fun s2 _d3 w4 K1=>
 bf .lss 3 (s2.getD 1 undef) t9 fun t11=>zc t11 (za (fun K5=>
 xl w4 98 t0 (s2.getD 1 undef) 28 fun t14=>ca z8 #[t14,t1] w4 fun t17 w9=>
 zc t17 (pw w9 (Instr.buildSlice 28 1 #[(0,(s2.getD 1 undef))]) fun t20 w10=>
 pw w10 (Builtin.append_ #[28,28] 28 #[(s2.getD 0 undef),t20]) fun t21 w11=>
 K5 [t21] w11) (K5 [(s2.getD 0 undef)] w9)) (fun s6 _d7 w8=>
 bt .add 3 (s2.getD 1 undef) (i6 1) fun t22=>K1 [(s6.getD 0 undef),t22] w8)) (K (s2.getD 0 undef) w4))
theorem Jy {t0 t1 : Value} {w : World} {K : VW} (h : Z4 t0 t1 w K) : zd prog xu #[t0,t1] w K:=
 okC false (.s (.r (rz 1 0 0)) (.s (.r (rz 1 0 0)) (.s (.s (.r (rz 3 0 0)) (.b (.lp [5,10] (.s (.r (rz 1 0 0)) (.s (.c (.n) (.n)) (.j [5] (.b (.s (.r (rz 5 0 16)) (.s (.r (rz 3 0 32)) (.c (.r (rz 5 0 160)) (.n))))) (.r (rz 2 0 0)))))))) (.s (.r (rz 2 0 0)) (.n))))) func57 rfl (by kernel_rfl) (by kernel_rfl) h
def Qz (t0 : Value) (w : World) (K : VW) : Prop:=
 pp (Builtin.len_ #[75] 3 #[t0]) fun t7=>zm [(Value.slice Option.none 0 0),(i6 0)] w (fun s2 _d3 w4 K1=>
 bf .lss 3 (s2.getD 1 undef) t7 fun t9=>zc t9 (za (fun K5=>
 xl w4 75 t0 (s2.getD 1 undef) 4 fun t12=>zc t12 (pw w4 (Instr.buildSlice 28 1 #[(0,(s2.getD 1 undef))]) fun t16 w9=>
 pw w9 (Builtin.append_ #[28,28] 28 #[(s2.getD 0 undef),t16]) fun t17 w10=>
 K5 [t17] w10) (K5 [(s2.getD 0 undef)] w4)) (fun s6 _d7 w8=>
 bt .add 3 (s2.getD 1 undef) (i6 1) fun t18=>K1 [(s6.getD 0 undef),t18] w8)) (K (s2.getD 0 undef) w4))
theorem ab1 {t0 : Value} {w : World} {K : VW} (h : Qz t0 w K) : zd prog y8 #[t0] w K:=
 okC false (.s (.r (rz 1 0 0)) (.s (.r (rz 1 0 0)) (.s (.s (.r (rz 3 0 0)) (.b (.lp [3,8] (.s (.r (rz 1 0 0)) (.s (.c (.n) (.n)) (.j [3] (.b (.s (.r (rz 5 0 16)) (.s (.r (rz 1 0 0)) (.c (.r (rz 5 0 160)) (.n))))) (.r (rz 2 0 0)))))))) (.s (.r (rz 2 0 0)) (.n))))) func58 rfl (by kernel_rfl) (by kernel_rfl) h
def ZA (t0 t1 t2 : Value) (w : World) (K : VW) : Prop:=
 pp (Builtin.len_ #[98] 3 #[t0]) fun t13=>pw w (Instr.makeSlice 75 t13 t13) fun t14 w1=>
 pw w1 (Instr.buildSlice 28 1 #[(0,t1)]) fun t16 w2=>
 px 75 t14 t1 fun t19=>so w2 4 t19 tr_ fun w3=>zm [t16] w3 (fun s5 _d6 w7 K4=>
 pp (Builtin.len_ #[28] 3 #[(s5.getD 0 undef)]) fun t21=>bt .gtr 3 t21 (i6 0) fun t22=>zc t22 (xl w7 28 (s5.getD 0 undef) (i6 0) 3 fun t25=>pp (Instr.sliceAt 28 (s5.getD 0 undef) (some (i6 1)) none none) fun t27=>cv t2 #[t25] w7 fun t30 w8=>
 za (fun K9=>gIf t30 true (bf .neq 3 t25 t1 fun t34=>K9 [t34] w8) (K9 [undef] w8)) (fun s10 _d11 w12=>
 zb t30 (s10.getD 0 undef) fa_ fun t35=>zc t35 (K4 [t27] w12) (xl w12 98 t0 t25 28 fun t39=>pp (Builtin.len_ #[28] 3 #[t39]) fun t40=>zm [t27,(i6 0)] w12 (fun s14 _d15 w16 K13=>
 bf .lss 3 (s14.getD 1 undef) t40 fun t42=>zc t42 (za (fun K17=>
 xl w16 28 t39 (s14.getD 1 undef) 3 fun t44=>xl w16 75 t14 t44 4 fun t48=>pp (Op.unary .not t48) fun t49=>zc t49 (px 75 t14 t44 fun t52=>so w16 4 t52 tr_ fun w21=>pw w21 (Instr.buildSlice 28 1 #[(0,t44)]) fun t55 w22=>
 pw w22 (Builtin.append_ #[28,28] 28 #[(s14.getD 0 undef),t55]) fun t56 w23=>
 K17 [t56] w23) (K17 [(s14.getD 0 undef)] w16)) (fun s18 _d19 w20=>
 bt .add 3 (s14.getD 1 undef) (i6 1) fun t57=>K13 [(s18.getD 0 undef),t57] w20)) (K4 [(s14.getD 0 undef)] w16))))) (K t14 w7))
theorem QM {t0 t1 t2 : Value} {w : World} {K : VW} (h : ZA t0 t1 t2 w K) : zd prog qv #[t0,t1,t2] w K:=
 okC false (.s (.r (rz 1 0 0)) (.s (.r (rz 4 0 32)) (.s (.r (rz 3 0 8)) (.s (.r (rz 4 0 128)) (.s (.b (.lp [8] (.s (.s (.r (rz 3 0 0)) (.c (.n) (.n))) (.b (.s (.r (rz 4 0 16)) (.s (.r (rz 3 0 0)) (.s (.s (.r (ra 4 0 32 (.grp 31 true (ri 3 4 0) [34] (rz 1 7 0)))) (.c (.n) (.n))) (.s (.r (rz 6 0 64)) (.b (.lp [8,41] (.s (.r (rz 1 0 0)) (.s (.c (.n) (.n)) (.j [8] (.b (.s (.r (rz 3 0 4)) (.s (.r (rz 5 0 64)) (.c (.s (.r (rz 4 0 128)) (.r (rz 5 0 160))) (.n))))) (.r (rz 2 0 0))))))))))))))) (.s (.r (rz 2 0 0)) (.n))))))) func59 rfl (by kernel_rfl) (by kernel_rfl) h
def Jz (_t0 : Value) (w : World) (K : VW) : Prop:=
 K fa_ w
theorem adz {t0 : Value} {w : World} {K : VW} (h : Jz t0 w K) : zd prog QU #[t0] w K:=
 okC false (.s (.r (rz 1 0 0)) (.s (.r (rz 1 0 0)) (.n))) func60 rfl (by kernel_rfl) (by kernel_rfl) h
def YJ (t0 : Value) (w : World) (K : VW) : Prop:=
 ca xY #[t0] w fun t19 w1=>
 pe t19 0 fun t20=>pe t19 1 fun _t21=>pp (Builtin.len_ #[98] 3 #[t0]) fun t23=>pw w1 (Instr.makeSlice 67 t23 t23) fun t24 w2=>
 pp (Builtin.len_ #[28] 3 #[t20]) fun t26=>zm [(i6 0)] w2 (fun s4 _d5 w6 K3=>
 bf .lss 3 (s4.getD 0 undef) t26 fun t28=>zc t28 (xl w6 28 t20 (s4.getD 0 undef) 3 fun t30=>bt .neq 3 t30 (i6 0) fun t34=>pw w6 (Instr.buildSlice 75 1 #[(0,t34)]) fun t35 w7=>
 pp (Builtin.len_ #[98] 3 #[t0]) fun t37=>ca yT #[t35,t37] w7 fun t38 w8=>
 px 67 t24 t30 fun t39=>so w8 75 t39 t38 fun w9=>bt .add 3 (s4.getD 0 undef) (i6 1) fun t40=>K3 [t40] w9) (xl w6 67 t24 (i6 0) 75 fun t43=>px 75 t43 (i6 0) fun t44=>so w6 4 t44 tr_ fun w10=>pp (Builtin.len_ #[98] 3 #[t0]) fun t46=>pw w10 (Instr.makeSlice 97 t46 t46) fun t47 w11=>
 pp (Builtin.len_ #[98] 3 #[t0]) fun t49=>zm [(i6 0)] w11 (fun s13 _d14 w15 K12=>
 bf .lss 3 (s13.getD 0 undef) t49 fun t51=>zc t51 (ca xu #[t0,(s13.getD 0 undef)] w15 fun t57 w16=>
 px 97 t47 (s13.getD 0 undef) fun t58=>so w16 28 t58 t57 fun w17=>bt .add 3 (s13.getD 0 undef) (i6 1) fun t59=>K12 [t59] w17) (zm [tr_] w15 (fun s19 _d20 w21 K18=>
 zc (s19.getD 0 undef) (pp (Instr.sliceAt 28 t20 (some (i6 1)) none none) fun t62=>pp (Builtin.len_ #[28] 3 #[t62]) fun t63=>zm [fa_,(i6 0)] w21 (fun s23 _d24 w25 K22=>
 bf .lss 3 (s23.getD 1 undef) t63 fun t65=>zc t65 (za (fun K26=>
 xl w25 28 t62 (s23.getD 1 undef) 3 fun t67=>pw w25 (Instr.buildSlice 75 1 #[(0,tr_)]) fun t68 w30=>
 pp (Builtin.len_ #[98] 3 #[t0]) fun t70=>ca yT #[t68,t70] w30 fun t71 w31=>
 xl w31 97 t47 t67 28 fun t75=>pp (Builtin.len_ #[28] 3 #[t75]) fun t76=>zm [(i6 0)] w31 (fun s33 _d34 w35 K32=>
 bf .lss 3 (s33.getD 0 undef) t76 fun t78=>zc t78 (xl w35 28 t75 (s33.getD 0 undef) 3 fun t80=>pp (Builtin.len_ #[75] 3 #[t71]) fun t82=>zm [(i6 0)] w35 (fun s37 _d38 w39 K36=>
 bf .lss 3 (s37.getD 0 undef) t82 fun t84=>zc t84 (xl w39 75 t71 (s37.getD 0 undef) 4 fun t91=>za (fun K40=>gIf t91 true (xl w39 67 t24 t80 75 fun t96=>bt .eql 75 t96 (Value.slice Option.none 0 0) fun t97=>K40 [t97] w39) (K40 [undef] w39)) (fun s41 _d42 w43=>
 za (fun K44=>gIf (s41.getD 0 undef) false (xl w43 67 t24 t80 75 fun t102=>xl w43 75 t102 (s37.getD 0 undef) 4 fun t105=>K44 [t105] w43) (K44 [undef] w43)) (fun s45 _d46 w47=>
 za (fun K48=>gIf t91 true (zb (s41.getD 0 undef) tr_ (s45.getD 0 undef) fun t106=>K48 [t106] w47) (K48 [undef] w47)) (fun s49 _d50 w51=>
 zb t91 (s49.getD 0 undef) fa_ fun t107=>px 75 t71 (s37.getD 0 undef) fun t108=>so w51 4 t108 t107 fun w52=>bt .add 3 (s37.getD 0 undef) (i6 1) fun t109=>K36 [t109] w52)))) (bt .add 3 (s33.getD 0 undef) (i6 1) fun t110=>K32 [t110] w39))) (px 75 t71 t67 fun t113=>so w35 4 t113 tr_ fun w53=>xl w53 67 t24 t67 75 fun t118=>ca xG #[t71,t118] w53 fun t119 w54=>
 pp (Op.unary .not t119) fun t120=>zc t120 (px 67 t24 t67 fun t124=>so w54 75 t124 t71 fun w55=>K26 [tr_] w55) (K26 [(s23.getD 0 undef)] w54)))) (fun s27 _d28 w29=>
 bt .add 3 (s23.getD 1 undef) (i6 1) fun t125=>K22 [(s27.getD 0 undef),t125] w29)) (K18 [(s23.getD 0 undef)] w25))) (K t24 w21))))))
theorem Vj {t0 : Value} {w : World} {K : VW} (h : YJ t0 w K) : zd prog xF #[t0] w K:=
 okC false (.s (.r (rz 1 0 0)) (.b (.s (.r (rz 7 0 8)) (.s (.r (rz 4 0 32)) (.s (.s (.r (rz 3 0 0)) (.b (.lp [27] (.s (.r (rz 1 0 0)) (.s (.c (.n) (.n)) (.s (.b (.s (.r (rz 3 0 4)) (.r (rz 10 0 557568)))) (.r (rz 2 0 0)))))))) (.s (.r (rz 5 0 528)) (.s (.r (rz 4 0 32)) (.s (.s (.r (rz 3 0 0)) (.b (.lp [50] (.s (.r (rz 1 0 0)) (.s (.c (.n) (.n)) (.s (.b (.s (.r (rz 2 0 0)) (.r (rz 7 0 8704)))) (.r (rz 2 0 0)))))))) (.s (.n) (.s (.s (.r (rz 1 0 0)) (.b (.lp [10] (.s (.s (.r (rz 1 0 0)) (.c (.n) (.n))) (.b (.s (.r (rz 1 0 0)) (.s (.s (.r (rz 4 0 0)) (.b (.lp [10,64] (.s (.r (rz 1 0 0)) (.s (.c (.n) (.n)) (.j [10] (.b (.s (.r (rz 3 0 4)) (.s (.r (rz 5 0 130)) (.s (.s (.r (rz 6 0 64)) (.b (.lp [77] (.s (.r (rz 1 0 0)) (.s (.c (.n) (.n)) (.s (.b (.s (.r (rz 3 0 4)) (.s (.r (rz 3 0 0)) (.b (.lp [83] (.s (.r (rz 1 0 0)) (.s (.c (.n) (.n)) (.s (.b (.s (.r (rz 2 0 0)) (.r (ra 7 0 1024 (.grp 92 true (ri 6 7 64) [98] (.grp 98 false (ri 7 13 4160) [105] (.grp 92 true (ri 1 20 0) [106] (rz 3 21 32)))))))) (.r (rz 2 0 0)))))))))) (.r (rz 2 0 0)))))))) (.s (.r (rz 4 0 128)) (.s (.r (rz 7 0 2304)) (.c (.s (.r (rz 5 0 512)) (.r (rz 1 0 0))) (.n)))))))) (.r (rz 2 0 0)))))))) (.n)))))))) (.s (.r (rz 2 0 0)) (.n)))))))))))) func61 rfl (by kernel_rfl) (by kernel_rfl) h
def Xk (t0 : Value) (w : World) (K : VW) : Prop:=
 pp (Builtin.len_ #[98] 3 #[t0]) fun t9=>pw w (Instr.makeSlice 28 t9 t9) fun t10 w1=>
 pp (Instr.build 145 #[]) fun t11=>pw w1 (Instr.buildSlice 146 1 #[(0,t11)]) fun t12 w2=>
 px 28 t10 (i6 0) fun t14=>so w2 3 t14 (i6 1) fun w3=>zm [(Value.slice Option.none 0 0),(Value.slice Option.none 0 0),t12] w3 (fun s5 _d6 w7 K4=>
 pp (Builtin.len_ #[146] 3 #[(s5.getD 2 undef)]) fun t16=>bt .gtr 3 t16 (i6 0) fun t17=>zc t17 (pp (Builtin.len_ #[146] 3 #[(s5.getD 2 undef)]) fun t20=>bt .sub 3 t20 (i6 1) fun t21=>px 146 (s5.getD 2 undef) t21 fun t22=>ff w7.drew t22 145 1 3 fun t26=>ff w7.drew t22 145 0 3 fun t31=>xl w7.drew 98 t0 t31 28 fun t33=>pp (Builtin.len_ #[28] 3 #[t33]) fun t34=>bf .eql 3 t26 t34 fun t35=>zc t35 (ff w7.drew t22 145 0 3 fun t40=>px 28 t10 t40 fun t41=>so w7.drew 3 t41 (i6 2) fun w8=>ff w8 t22 145 0 3 fun t46=>pw w8 (Instr.buildSlice 28 1 #[(0,t46)]) fun t47 w9=>
 pw w9 (Builtin.append_ #[28,28] 28 #[(s5.getD 0 undef),t47]) fun t48 w10=>
 pp (Builtin.len_ #[146] 3 #[(s5.getD 2 undef)]) fun t51=>bt .sub 3 t51 (i6 1) fun t52=>pp (Instr.sliceAt 146 (s5.getD 2 undef) none (some t52) none) fun t53=>K4 [t48,(s5.getD 1 undef),t53] w10) (ff w7.drew.drew t22 145 0 3 fun t58=>xl w7.drew.drew 98 t0 t58 28 fun t60=>ff w7.drew.drew t22 145 1 3 fun t64=>xl w7.drew.drew 28 t60 t64 3 fun t66=>ff w7.drew.drew t22 145 1 3 fun t70=>bt .add 3 t70 (i6 1) fun t71=>fa t22 145 1 fun t73=>so w7.drew.drew 3 t73 t71 fun w11=>xl w11 28 t10 t66 3 fun t77=>bt .eql 3 t77 (i6 1) fun t79=>zc t79 (ff w11 t22 145 0 3 fun t84=>pp (Instr.build 52 #[(0,t84),(1,t66)]) fun t86=>pw w11 (Instr.buildSlice 46 1 #[(0,t86)]) fun t87 w12=>
 pw w12 (Builtin.append_ #[46,46] 46 #[(s5.getD 1 undef),t87]) fun t88 w13=>
 K4 [(s5.getD 0 undef),t88,(s5.getD 2 undef)] w13) (bt .eql 3 t77 (i6 0) fun t90=>zc t90 (px 28 t10 t66 fun t93=>so w11 3 t93 (i6 1) fun w14=>pp (Instr.build 145 #[(0,t66)]) fun t96=>pw w14 (Instr.buildSlice 146 1 #[(0,t96)]) fun t97 w15=>
 pw w15 (Builtin.append_ #[146,146] 146 #[(s5.getD 2 undef),t97]) fun t98 w16=>
 K4 [(s5.getD 0 undef),(s5.getD 1 undef),t98] w16) (K4 [(s5.getD 0 undef),(s5.getD 1 undef),(s5.getD 2 undef)] w11)))) (ca qy #[(s5.getD 0 undef)] w7 fun _t100 w17=>
 K (.tuple #[(s5.getD 0 undef),(s5.getD 1 undef)]) w17))
theorem aaf {t0 : Value} {w : World} {K : VW} (h : Xk t0 w K) : zd prog xY #[t0] w K:=
 okC false (.s (.r (rz 2 0 0)) (.s (.r (rz 4 0 32)) (.s (.r (rz 3 0 8)) (.s (.r (rz 3 0 32)) (.s (.b (.lp [2,3,5] (.s (.s (.r (rz 3 0 0)) (.c (.n) (.n))) (.b (.s (.r (rz 6 0 0)) (.s (.s (.r (rz 13 0 1114176)) (.c (.s (.r (rz 7 0 8448)) (.s (.r (rz 8 0 10496)) (.s (.r (rz 6 0 0)) (.n)))) (.n))) (.s (.r (rz 14 0 17830144)) (.s (.r (rz 8 0 32832)) (.s (.r (rz 4 0 64)) (.b (.s (.r (rz 2 0 0)) (.c (.r (rz 10 0 164096)) (.s (.r (rz 2 0 0)) (.c (.s (.r (rz 4 0 128)) (.r (rz 6 0 640))) (.n))))))))))))))) (.s (.r (rz 2 0 8)) (.s (.r (rz 4 0 0)) (.n)))))))) func67 rfl (by kernel_rfl) (by kernel_rfl) h
def YK (t0 t1 : Value) (w : World) (K : VW) : Prop:=
 bt .lss 3 t0 (i6 0) fun t5=>za (fun K1=>gIf t5 false (lo w 98 t1 fun t8=>pp (Builtin.len_ #[98] 3 #[t8]) fun t9=>bf .geq 3 t0 t9 fun t10=>K1 [t10] w) (K1 [undef] w)) (fun s2 _d3 w4=>
 zb t5 tr_ (s2.getD 0 undef) fun t11=>K t11 w4)
theorem Vk {t0 t1 : Value} {w : World} {K : VW} (h : YK t0 t1 w K) : zd prog VP #[t0,t1] w K:=
 okC false (.s (.r (rz 1 0 0)) (.s (.r (ra 3 0 0 (.grp 6 false (ri 4 3 4) [10] (rz 2 7 0)))) (.n))) func96 rfl (by kernel_rfl) (by kernel_rfl) h
end Go.Proofs.Tryz
end
section
namespace Go.Proofs
open Go.Sh Go.RowKit
set_option maxRecDepth 100000
set_option linter.unusedSimpArgs false
set_option linter.unusedVariables false
theorem vX {r : Gh} {p : Option Addr} {k cap : Nat} {n : zg} (h : NetG r (.slice p k cap) n) {i : Nat} (hi : i<n.length) : ∃ b off v,p=some ⟨b,off,none⟩∧k=n.length∧(Ob r fun w=>w.cell? ⟨b,off+i,none⟩=some v)∧SlB 1 r zu v n[i]:=by
 obtain ⟨p',cap',e,_,_⟩:=h.sl.shape
 obtain ⟨b,off,c,hE,hc,hcc,hcl⟩:=h.sl.get (by decide) hi
 obtain ⟨v,rfl,hv⟩:=hcc
 cases e
 cases hE
 refine ⟨b,off,v,rfl,rfl,?_,hv⟩
 have:=hcl 0 _ rfl
 rwa [show off+i*1+0=off+i by omega] at this
theorem Qc {n : zg} {l : List Int} {v u : Value} {w : World} {r : Gh} {K : Value→World→Prop} (hr : Holds r w) (hn : NetG r v n) (hl : SlG 1 r zu u l) (hf : l.length≤1000000)
  (h : ∀ w',Ext w w'→K (.bool (decide (∀ x ∈ l,isN n x))) w') : zd Tryz.prog Tryz.yy #[v,u] w K:=by
 refine Tryz.abi ?_
 unfold Tryz.XS
 obtain ⟨p,cap,rfl,_,_⟩:=hn.sl.shape
 obtain ⟨q,cap',rfl,_,_⟩:=hl.shape
 have S:=St.start hr
 refine S.box fun b2 w1 S=>?_
 have S : StX noX w r w1 [.cell b2 [.slice p n.length cap] 98]:=S
 refine gp_ ?_
 have hsl : Sl w1 q (ints l):=fun i v hv=>by
  have hi : i<l.length:=by
   have:=(List.getElem?_eq_some_iff.1 hv).1
   rwa [zI] at this
  obtain ⟨b,off,rfl,_,hc⟩:=zE hl hi
  rw [ints,List.getElem?_map,List.getElem?_eq_getElem hi] at hv
  cases hv
  exact ⟨b,off,rfl,S.at hc⟩
 refine vH (f:=fun x=>!decide (isN n x)) (fun x K hK=>?_) hsl (by omega) ?_
 ·refine adK (by kernel_rfl) ?_
  refine Tryz.Vk ?_
  unfold Tryz.YK
  refine gg_ ?_
  refine zk (c:=decide ((n.length : Int)≤x)) (fun _ K2 hK2=>by refine gg_ ?_;exact hK2) ?_
  have e : (decide (x<0)||decide ((n.length : Int)≤x)) = !decide (isN n x):=by
   by_cases hx : isN n x
   ·have h1:=hx.1;have h2:=hx.2
    rw [decide_eq_true hx,decide_eq_false (by omega),decide_eq_false (by omega)];rfl
   ·rw [decide_eq_false hx]
    by_cases h1 : x<0
    ·rw [decide_eq_true h1];rfl
    ·have h2 : (n.length : Int)≤x:=by
      refine Int.not_lt.1 fun h2=>hx ⟨by omega,h2⟩
     rw [decide_eq_true h2,Bool.or_true];rfl
  rw [e];exact hK
 refine gp_ ?_
 have:=h _ S.ext
 have e : (decide (∀ x ∈ l,isN n x)) = !(l.any fun x=>!decide (isN n x)):=by
  rw [Bool.eq_iff_iff]
  simp
 rwa [e] at this
theorem aeK {m : List Bool} {i : Nat} (hi : i<m.length) : mkd (m.take (i+1))=mkd (m.take i)++(if m[i]=true then [(i : Int)] else []):=by
 have hl : (m.take (i+1)).length=i+1:=by rw [List.length_take];omega
 have hl' : (m.take i).length=i:=by rw [List.length_take];omega
 rw [mkd,mkd,hl,hl',List.range_succ,List.filter_append,List.map_append]
 congr 1
 ·congr 1
  refine List.filter_congr fun x hx=>?_
  have:=List.mem_range.1 hx
  rw [List.getD_eq_getElem?_getD,List.getD_eq_getElem?_getD,List.getElem?_take,List.getElem?_take,if_pos (by omega),if_pos this]
 ·have e : (m.take (i+1)).getD i false=m[i]:=by
   rw [List.getD_eq_getElem?_getD,List.getElem?_take,if_pos (by omega),List.getElem?_eq_getElem hi];rfl
  cases hm : m[i] with
  |true=>rw [List.filter_cons_of_pos (by rw [e,hm])];simp
  |false=>rw [List.filter_cons_of_neg (by rw [e,hm];simp)];simp
theorem ab2 {m : List Bool} : (mkd m).length≤m.length:=by
 rw [mkd,List.length_map];exact Nat.le_trans (List.length_filter_le _ _) (by simp)
theorem yo {l : List Int} {x : Int} : ints (l ++ [x])=ints l ++ [.int .i64 x]:=by simp [ints]
theorem Qd {m : List Bool} {v : Value} {w : World} {r : Gh} {K : Value→World→Prop} (hr : Holds r w) (hm : SlG 1 r xr v m) (hf : m.length≤1000000)
  (h : ∀ v' s w',Ext w w'→New w s w'→SlG 1 s zu v' (mkd m)→K v' w') : zd Tryz.prog Tryz.y8 #[v] w K:=by
 refine Tryz.ab1 ?_
 unfold Tryz.Qz
 obtain ⟨p,cap,rfl,_,_⟩:=hm.shape
 have S:=St.start hr
 have S:=S.ownNil 3 1
 refine gp_ ?_
 refine zh (ι:=Nat × Value) (fun i=>[i.2,.int .i64 (i.1 : Nat)]) (fun i w'=>i.1≤m.length∧StX noX w r w' [.row i.2 3 1 (mkd (m.take i.1)).length (ints (mkd (m.take i.1)))]) (fun i=>m.length - i.1) (0,.slice none 0 0) rfl ⟨Nat.zero_le _,S⟩ ?_
 repeat clear S
 rintro ⟨i,vp⟩ d w1 ⟨hi,S⟩ K1 hK1
 simp only at hi S ⊢
 simp only [List.getD_cons_zero,List.getD_cons_succ]
 refine gp_ ?_
 refine zj (fun hlt=>?_) (fun hge=>?_)
 ·have hlt : i<m.length:=by omega
  obtain ⟨b,off,rfl,_,hc⟩:=jU hm hlt
  have hsn:=aeK hlt
  have hml : (mkd (m.take i)).length≤1000000:=Nat.le_trans ab2 (by rw [List.length_take];omega)
  refine zp (fun s w'=>∃ vq,s = [vq]∧StX noX w r w' [.row vq 3 1 (mkd (m.take (i+1))).length (ints (mkd (m.take (i+1))))]) (fun K5 hK5=>?_) ?_
  ·refine gg_ ?_
   refine zi (by rw [Int.toNat_natCast];exact S.at hc) ?_
   refine c_b (fun hb=>?_) (fun hb=>?_)
   ·refine S.lit (e:=3) (cs:=[.int .i64 (i : Nat)]) (by kernel_rfl) fun b2 w2 S=>?_
    refine S.ap (m':=1) (Sl.blk (S.blk b2)) (fun v4 w3 S=>?_) (by omega)
    have S:=S.drop b2
    refine hK5 _ _ ⟨v4,rfl,?_⟩
    rw [hsn,if_pos hb,yo,List.length_append];exact S
   ·refine hK5 _ _ ⟨vp,rfl,?_⟩
    rw [hsn,if_neg (by rw [hb];simp),List.append_nil];exact S
  rintro s w2 ⟨vq,rfl,S⟩ d
  simp only [List.getD_cons_zero]
  refine gp_ ?_
  exact hK1 (i+1,vq) _ ⟨hlt,S⟩ (by show m.length - (i+1)<m.length - i;omega)
 have hie : i=m.length:=by omega
 subst hie
 rw [List.take_length] at S
 obtain ⟨s,T,hs,_,hab⟩:=S.doneRow zS (by decide) rfl
 exact h _ s _ T.ext (StX.newOf (q:=s) T fun b o ho=>(hab b o ho).resolve_right id) hs
theorem aeL {n : zg} {q : Int} {i : Nat} (hi : i<n.length) : befN (n.take (i+1)) q=befN (n.take i) q++(if q ∈ n[i] then [(i : Int)] else []):=by
 have hl : (n.take (i+1)).length=i+1:=by rw [List.length_take];omega
 have hl' : (n.take i).length=i:=by rw [List.length_take];omega
 rw [befN,befN,hl,hl',List.range_succ,List.filter_append,List.map_append]
 congr 1
 ·congr 1
  refine List.filter_congr fun x hx=>?_
  have:=List.mem_range.1 hx
  rw [List.getD_eq_getElem?_getD,List.getD_eq_getElem?_getD,List.getElem?_take,List.getElem?_take,if_pos (by omega),if_pos this]
 ·have e : (n.take (i+1)).getD i []=n[i]:=by
   rw [List.getD_eq_getElem?_getD,List.getElem?_take,if_pos (by omega),List.getElem?_eq_getElem hi];rfl
  by_cases hm : q ∈ n[i]
  ·rw [List.filter_cons_of_pos (by rw [e,List.contains_iff_mem];exact hm),if_pos hm];simp
  ·rw [List.filter_cons_of_neg (by rw [e,List.contains_iff_mem];exact hm),if_neg hm];simp
theorem XT {n : zg} {q : Int} : (befN n q).length≤n.length:=by
 rw [befN,List.length_map];exact Nat.le_trans (List.length_filter_le _ _) (by simp)
theorem aag {n : zg} {q : Int} {v : Value} {w : World} {r : Gh} {K : Value→World→Prop} (hr : Holds r w) (hn : NetG r v n) (hf : n.length≤1000000)
  (h : ∀ v' s w',Ext w w'→New w s w'→SlG 1 s zu v' (befN n q)→K v' w') : zd Tryz.prog Tryz.xu #[v,.int .i64 q] w K:=by
 refine Tryz.Jy ?_
 unfold Tryz.Z4
 obtain ⟨p,cap,rfl,_,_⟩:=hn.sl.shape
 have S:=St.start hr
 have S:=S.ownNil 3 1
 refine gp_ ?_
 refine zh (ι:=Nat × Value) (fun i=>[i.2,.int .i64 (i.1 : Nat)]) (fun i w'=>i.1≤n.length∧StX noX w r w' [.row i.2 3 1 (befN (n.take i.1) q).length (ints (befN (n.take i.1) q))]) (fun i=>n.length - i.1) (0,.slice none 0 0) rfl ⟨Nat.zero_le _,S⟩ ?_
 repeat clear S
 rintro ⟨i,vp⟩ d w1 ⟨hi,S⟩ K1 hK1
 simp only at hi S ⊢
 simp only [List.getD_cons_zero,List.getD_cons_succ]
 refine gp_ ?_
 refine zj (fun hlt=>?_) (fun hge=>?_)
 ·have hlt : i<n.length:=by omega
  obtain ⟨b,off,u,rfl,_,hc,hu⟩:=vX hn hlt
  have hsn:=aeL (q:=q) hlt
  have hml : (befN (n.take i) q).length≤1000000:=Nat.le_trans XT (by rw [List.length_take];omega)
  refine zp (fun s w'=>∃ vq,s = [vq]∧StX noX w r w' [.row vq 3 1 (befN (n.take (i+1)) q).length (ints (befN (n.take (i+1)) q))]) (fun K5 hK5=>?_) ?_
  ·refine gg_ ?_
   refine zi (by rw [Int.toNat_natCast];exact S.at hc) ?_
   refine qX S.holds hu.sl hu.few ?_
   refine zj (fun hb=>?_) (fun hb=>?_)
   ·refine S.lit (e:=3) (cs:=[.int .i64 (i : Nat)]) (by kernel_rfl) fun b2 w2 S=>?_
    refine S.ap (m':=1) (Sl.blk (S.blk b2)) (fun v4 w3 S=>?_) (by omega)
    have S:=S.drop b2
    refine hK5 _ _ ⟨v4,rfl,?_⟩
    rw [hsn,if_pos hb,yo,List.length_append];exact S
   ·refine hK5 _ _ ⟨vp,rfl,?_⟩
    rw [hsn,if_neg hb,List.append_nil];exact S
  rintro s w2 ⟨vq,rfl,S⟩ d
  simp only [List.getD_cons_zero]
  refine gp_ ?_
  exact hK1 (i+1,vq) _ ⟨hlt,S⟩ (by show n.length - (i+1)<n.length - i;omega)
 have hie : i=n.length:=by omega
 subst hie
 rw [List.take_length] at S
 obtain ⟨s,T,hs,_,hab⟩:=S.doneRow zS (by decide) rfl
 exact h _ s _ T.ext (StX.newOf (q:=s) T fun b o ho=>(hab b o ho).resolve_right id) hs
end Go.Proofs
end
section
namespace Go.Proofs
open Go.Sh Go.RowKit
set_option maxRecDepth 100000
set_option linter.unusedSimpArgs false
set_option linter.unusedVariables false
set_option maxHeartbeats 1000000 in
theorem x7 {u : UnD} {n : Int} {v : Value} {w : World} {r : Gh} {K : Value→World→Prop} (hr : Holds r w) (hu : UnG r v u)
  (h : ∀ v' s w',Ext w w'→New w s w'→(fnE u n=0→∃ hn : n.toNat<u.fs.length,NetG s v' (netG u.fs[n.toNat]))→K (.tuple #[v',.int .i64 (fnE u n)]) w') : zd Tryz.prog Tryz.xh #[v,.int .i64 n] w K:=by
 refine Tryz.agx ?_
 unfold Tryz.acO
 have hu0:=hu
 obtain ⟨p0,cap0,vf,rfl,_,_,hst,hsl,hfn⟩:=hu
 obtain ⟨qf,capf,rfl,_,_⟩:=hfn.sl.shape
 have S:=St.start hr
 refine S.box fun b2 w1 S=>?_
 have S : StX noX w r w1 [.cell b2 [.slice p0 u.ss.length cap0,.slice qf u.fs.length capf,.int .i64 u.mn] 25]:=S
 refine gp_ ?_
 refine zk (c:=decide ((u.fs.length : Int)≤n)) (fun _ K2 hK2=>by refine gg_ ?_;exact hK2) ?_
 refine xf (c:=!ZR u) (fun _ K2 hK2=>?_) fun w5 e5=>?_
 ·refine S.ldB (b:=b2) ?_ rfl
  refine afj S.holds hu0 fun w5 e5=>?_
  refine gp_ ?_
  exact hK2 _ e5
 have S:=S.go e5
 refine c_b (fun hbad=>?_) (fun hgood=>?_)
 ·have hE : fnE u n=2:=by rw [fnE,if_pos hbad]
  rw [hE] at h
  exact h _ nothing _ S.ext New.nothing (fun h=>by cases h)
 have hE : fnE u n=0:=by rw [fnE,if_neg (by rw [hgood];simp)]
 rw [hE] at h
 obtain ⟨hM,hn0,hlt⟩:=aeu hE
 simp only [Bool.or_eq_false_iff,decide_eq_false_iff_not,Bool.not_eq_false'] at hgood
 obtain ⟨⟨_,hn1⟩,_⟩:=hgood
 obtain ⟨bf,of,cf,hqE,hcf,hgc,hfo⟩:=hfn.sl.get (by decide) hlt
 cases hqE
 have hp24:=(hM.hd hlt).pt1024
 generalize hg : u.fs[n.toNat]=g at hgc hp24
 obtain ⟨x1,x2,x3,x4,y1,y2,y3,y4,rfl,hg0⟩:=xC hgc
 obtain ⟨_,_,_,_,hEE,m1,m2,m3,m4⟩:=id hg0
 cases hEE
 refine gg_ ?_
 refine zi (S.at (hfo 6 _ rfl)) ?_
 refine gg_ ?_
 have S:=S.ownNil 28 1
 refine zh (ι:=Nat × Value × Gh × List Value) (fun i=>[i.2.1,.int .i64 (i.1 : Nat)])
  (fun i w'=>i.1≤g.pts.length∧Above w i.2.2.1∧RowOf 1 (RowC i.2.2.1) i.2.2.2 ((netG g).take i.1)∧StX noX w (r.or i.2.2.1) w' [.row i.2.1 28 1 i.1 i.2.2.2,.cell b2 [.slice p0 u.ss.length cap0,.slice (some ⟨bf,of,none⟩) u.fs.length capf,.int .i64 u.mn] 25])
  (fun i=>g.pts.length - i.1) (0,.slice none 0 0,nothing,[]) rfl ⟨Nat.zero_le _,Above.no,by simpa using RowOf.nil,S.to _⟩ ?_
 repeat clear S
 rintro ⟨i,vr,s,xs⟩ d w6 ⟨hi,ha,hR,S⟩ K11 hK11
 simp only at hi ha hR S ⊢
 simp only [List.getD_cons_zero,List.getD_cons_succ]
 refine gg_ ?_
 refine zj (fun hlt2=>?_) (fun hge=>?_)
 ·have hlt2 : i<g.pts.length:=by omega
  have hil : i<(netG g).length:=by rw [yj];exact hlt2
  obtain ⟨bp,op,cp,hqp,hcp,hpc,hpo⟩:=m4.sl.get (by decide) hlt2
  cases hqp
  have hni : (netG g)[i]=xM g.pts[i]:=by simp [netG]
  have htk : (netG g).take (i+1)=(netG g).take i ++ [xM g.pts[i]]:=by rw [List.take_succ_eq_append_getElem hil,hni]
  generalize g.pts[i]=p at hpc htk
  obtain ⟨z1,z2,z3,z4,z5,t1,t2,t3,t4,t5,rfl,hp0⟩:=XP hpc
  refine zp (fun x w'=>∃ vq s' xs',x = [vq]∧Above w s'∧RowOf 1 (RowC s') xs' ((netG g).take (i+1))∧StX noX w (r.or s') w' [.row vq 28 1 (i+1) xs',.cell b2 [.slice p0 u.ss.length cap0,.slice (some ⟨bf,of,none⟩) u.fs.length capf,.int .i64 u.mn] 25]) (fun K15 hK15=>?_) ?_
  ·refine gg_ ?_
   refine zt (n:=21) hcp (fun j v hj=>by rw [Int.toNat_natCast];exact S.at (hpo j v hj)) ?_
   refine S.al fun b8 w7 S=>?_
   refine S.stB (b:=b8) fun w8 S=>?_
   have S : StX noX w (r.or s) w8 [.cell b8 (ptL p z1 z2 z3 z4 z5 t1 t2 t3 t4 t5) 87,.row vr 28 1 i xs,.cell b2 [.slice p0 u.ss.length cap0,.slice (some ⟨bf,of,none⟩) u.fs.length capf,.int .i64 u.mn] 25]:=S
   refine gg_ ?_
   refine zj (fun h14=>?_) (fun h14=>?_)
   ·have hnp : xM p = []:=by rw [xM,if_pos h14]
    have S:=S.drop b8
    refine S.lit (e:=28) (cs:=[.slice none 0 0]) (by kernel_rfl) fun b9 w9 S=>?_
    refine S.ap (v:=vr) (m':=1) (Sl.blk (S.blk b9)) (fun v4 w10 S=>?_) (by omega)
    refine hK15 _ _ ⟨v4,s,xs ++ [.slice none 0 0],rfl,ha,?_,S.drop b9⟩
    rw [htk,hnp]
    exact hR.snoc rfl ⟨_,rfl,SlG.nil,Nat.zero_le _⟩
   ·refine gg_ ?_
    refine zf (c:=decide (p.el≠p.nx)) (fun _ K2 hK2=>by refine gg_ ?_;exact hK2) ?_
    refine c_b (fun hc=>?_) (fun hc=>?_)
    ·simp only [Bool.and_eq_true,decide_eq_true_eq] at hc
     have hnp : xM p = [p.nx,p.el]:=by rw [xM,if_neg h14,if_pos ⟨hc.1,fun e=>hc.2 e.symm⟩]
     refine gg_ ?_
     have S:=S.drop b8
     refine S.lit (e:=3) (cs:=[.int .i64 p.nx,.int .i64 p.el]) (by kernel_rfl) fun b9 w9 S=>?_
     obtain ⟨S,hs,hb9⟩:=S.litNew b9 (sz:=1) (R:=zu) (l:=[p.nx,p.el]) (kF (c:=[.int .i64 p.nx]) rfl rfl (zZ rfl rfl)) (by decide)
     refine S.lit (e:=28) (cs:=[.slice (some ⟨b9,0,none⟩) 2 2]) (by kernel_rfl) fun b10 w10 S=>?_
     refine S.ap (v:=vr) (m':=1) (Sl.blk (S.blk b10)) (fun v4 w11 S=>?_) (by omega)
     refine hK15 _ _ ⟨v4,s.or (Go.Sh.one b9 [.int .i64 p.nx,.int .i64 p.el] 3),_,rfl,ha.or' hb9,?_,(S.drop b10).reGh⟩
     rw [htk,hnp]
     exact (hR.mono fun _ _ h=>RowC.up h).snoc rfl ⟨_,rfl,(show SlG 1 (Go.Sh.one b9 [.int .i64 p.nx,.int .i64 p.el] 3) zu _ _ from hs).cells,show (2 : Nat)≤maxLen by decide⟩
    ·have hnp : xM p = [p.nx]:=by
      simp only [Bool.and_eq_false_iff,decide_eq_false_iff_not] at hc
      rw [xM,if_neg h14,if_neg (by rintro ⟨h1,h2⟩;rcases hc with hc|hc;exact hc h1;exact hc fun e=>h2 e.symm)]
     refine gg_ ?_
     have S:=S.drop b8
     refine S.lit (e:=3) (cs:=[.int .i64 p.nx]) (by kernel_rfl) fun b9 w9 S=>?_
     obtain ⟨S,hs,hb9⟩:=S.litNew b9 (sz:=1) (R:=zu) (l:=[p.nx]) (zZ rfl rfl) (by decide)
     refine S.lit (e:=28) (cs:=[.slice (some ⟨b9,0,none⟩) 1 1]) (by kernel_rfl) fun b10 w10 S=>?_
     refine S.ap (v:=vr) (m':=1) (Sl.blk (S.blk b10)) (fun v4 w11 S=>?_) (by omega)
     refine hK15 _ _ ⟨v4,s.or (Go.Sh.one b9 [.int .i64 p.nx] 3),_,rfl,ha.or' hb9,?_,(S.drop b10).reGh⟩
     rw [htk,hnp]
     exact (hR.mono fun _ _ h=>RowC.up h).snoc rfl ⟨_,rfl,hs.cells,show (1 : Nat)≤maxLen by decide⟩
  rintro x w9 ⟨vq,s',xs',rfl,ha',hR',S⟩ d
  simp only [List.getD_cons_zero]
  refine gp_ ?_
  exact hK11 (i+1,vq,s',xs') _ ⟨hlt2,ha',hR',S⟩ (by show g.pts.length - (i+1)<g.pts.length - i;omega)
 have hie : i=g.pts.length:=by omega
 subst hie
 rw [← yj,List.take_length] at hR
 rw [← yj] at S
 obtain ⟨s2,T,hs,_,hab⟩:=S.doneRow hR (by decide) rfl
 refine h _ (s.or s2) _ T.ext (StX.newOf (q:=s.or s2) T.reGh (ha.or' fun b o ho=>(hab b o ho).resolve_right id)) fun _=>⟨hlt,?_⟩
 rw [hg]
 exact ⟨hs.up' inferInstance fun _ _ h=>RowC.up h,by rw [yj];exact Nat.le_trans hp24 (by decide)⟩
theorem y7 {m : List Bool} {q : Int} (h : 0≤q) : (bls m).set (0+q.toNat) (.bool true)=bls (zy m q):=by
 rw [Nat.zero_add,bls,bls,zy,List.map_set]
theorem aeM {m : List Bool} {q : Int} (h : q.toNat<m.length) : (bls m)[0+q.toNat]? = some (.bool (mk' m q)):=by
 rw [Nat.zero_add,bls,List.getElem?_map,mk',List.getD_eq_getElem?_getD,List.getElem?_eq_getElem h];rfl
theorem kv {k : Nat} : List.replicate k (Value.bool false)=bls (List.replicate k false):=by simp [bls]
set_option maxHeartbeats 1000000 in
theorem ahk {n : zg} {q : Int} {v : Value} {w : World} {r : Gh} {K : Value→World→Prop} (hr : Holds r w) (hn : NetG r v n) (hok : ym n) (hq : isN n q) (hf : n.length≤100000)
  (h : ∀ v' s w',Ext w w'→New w s w'→SlG 1 s xr v' (xP n zT q)→K v' w') : zd Tryz.prog Tryz.qv #[v,.int .i64 q,.func (.func Tryz.QU) #[] #[]] w K:=by
 refine Tryz.QM ?_
 unfold Tryz.ZA
 obtain ⟨p,cap,rfl,_,_⟩:=hn.sl.shape
 have q0:=hq.1;have q1:=hq.2
 have S:=St.start hr
 refine gp_ ?_
 refine S.mkS (by omega) (by omega) fun b14 w1 S=>?_
 rw [Int.toNat_natCast] at S ⊢
 rw [kv] at S
 refine S.lit (e:=3) (cs:=[.int .i64 q]) (by kernel_rfl) fun b16 w2 S=>?_
 have S:=S.toRow 1 1 rfl (by decide)
 have S:=S.toQue (.slice (some ⟨b16,0,none⟩) 1 1)
 refine gp_ ?_
 refine S.st (b:=b14) (fun w3 S=>?_) (by rw [yI,List.length_replicate];omega)
 have S : StX noX w r w3 [.que (.slice (some ⟨b16,0,none⟩) 1 1) 3 1 1 (ints [q]),.cell b14 (bls (zy (List.replicate n.length false) q)) 4]:=by
  rw [← y7 q0];exact S
 have hB:=Bfs.start (stop:=zT) hq
 refine zh (ι:=Value × List Bool × List Int) (fun i=>[i.1]) (fun i w'=>Bfs n zT q noE i.2.1 i.2.2∧2*off i.2.1+i.2.2.length≤2*n.length+1∧StX noX w r w' [.que i.1 3 1 i.2.2.length (ints i.2.2),.cell b14 (bls i.2.1) 4])
  (fun i=>2*off i.2.1+i.2.2.length) (.slice (some ⟨b16,0,none⟩) 1 1,zy (List.replicate n.length false) q,[q]) rfl ⟨hB,?_,S⟩ ?_
 ·have:=abw (m:=List.replicate n.length false) (q:=q) (by rw [List.length_replicate];omega) (by rw [mk',List.getD_eq_getElem?_getD,List.getElem?_replicate];split<;>rfl)
  rw [afA] at this
  simp only [List.length_singleton];omega
 repeat clear S
 clear hB
 rintro ⟨vq,m,qs⟩ d w4 ⟨hB,hms,S⟩ K4 hK4
 simp only at hB hms S ⊢
 rw [List.getD_cons_zero]
 obtain ⟨pq,capq,rfl,hp0,hcq,_,hsl⟩:=S.queS vq
 refine gP_ ?_
 refine gP_ ?_
 refine c_b (fun hpos=>?_) (fun hz=>?_)
 ·have hpos : 0<qs.length:=by simpa using hpos
  cases qs with
  |nil=>simp at hpos
  |cons x qs=>
   obtain ⟨bq,oq,rfl,hcell⟩:=jQ hsl hpos
   obtain ⟨hx,_,_⟩:=hB.todo x List.mem_cons_self
   have x0:=hx.1;have x1:=hx.2
   refine gP_ ?_
   refine zi (by simpa using hcell) ?_
   refine S.loQ (by omega) (by omega) hpos fun v' S=>?_
   have S : StX noX w r w4 [.que v' 3 1 qs.length (ints qs),.cell b14 (bls m) 4]:=S
   refine aiN (by kernel_rfl) ?_
   refine Tryz.adz ?_
   unfold Tryz.Jz
   refine zf (c:=false) (fun h=>by cases h) ?_
   refine c_f (by rfl) ?_
   have hxl : x.toNat<n.length:=by omega
   obtain ⟨bn,on,u,rfl,_,hcn,hu⟩:=vX hn hxl
   have hnx : nxt n x=n[x.toNat]:=xV hx
   obtain ⟨pu,capu,rfl,_,_⟩:=hu.sl.shape
   have huf : n[x.toNat].length≤9223372036854775807:=hu.few
   refine gg_ ?_
   refine zi (S.at hcn) ?_
   refine gg_ ?_
   have hB2:=hB.go hok (.inr id)
   rw [hnx] at hB2
   have hl2 : ∀ y ∈ n[x.toNat],isN n y:=hok _ (List.getElem_mem hxl)
   generalize n[x.toNat]=l at hu huf hB2 hl2
   have hvis : ∀ k,k≤l.length→_:=fun k (hk : k≤l.length)=>QO (n:=n) (l:=l.take k) (m:=m) (qs:=qs) hB.len fun y hy=>hl2 y (List.mem_of_mem_take hy)
   have hqs : qs.length≤2*n.length:=by simp only [List.length_cons] at hms;omega
   refine zh (ι:=Nat × Value) (fun i=>[i.2,.int .i64 (i.1 : Nat)]) (fun i w'=>i.1≤l.length∧StX noX w r w' [.que i.2 3 1 ((l.take i.1).foldl zo (m,qs)).2.length (ints ((l.take i.1).foldl zo (m,qs)).2),.cell b14 (bls ((l.take i.1).foldl zo (m,qs)).1) 4])
    (fun i=>l.length - i.1) (0,v') rfl ⟨Nat.zero_le _,S⟩ ?_
   repeat clear S
   rintro ⟨k,vq2⟩ d w5 ⟨hk,S⟩ K13 hK13
   simp only at hk S ⊢
   simp only [List.getD_cons_zero,List.getD_cons_succ]
   obtain ⟨g1,g2,g3,_,_,_⟩:=hvis k hk
   refine gg_ ?_
   refine zj (fun hlt=>?_) (fun hge=>?_)
   ·have hlt : k<l.length:=by omega
    obtain ⟨bu,ou,rfl,_,hcu⟩:=zE hu.sl hlt
    have hst : (l.take (k+1)).foldl zo (m,qs)=zo ((l.take k).foldl zo (m,qs)) l[k]:=by
     rw [List.take_succ_eq_append_getElem hlt,List.foldl_append];rfl
    have hy:=hl2 l[k] (List.getElem_mem hlt)
    have y0:=hy.1;have y1:=hy.2
    generalize l[k]=y at hcu hst y0 y1
    generalize (l.take k).foldl zo (m,qs)=st at hst S g1 g2 g3
    obtain ⟨m2,qs2⟩:=st
    simp only at S g1 g2 g3
    have ho : off m2≤n.length:=by rw [← g1];exact List.countP_le_length
    refine zp (fun s w'=>∃ v2,s = [v2]∧StX noX w r w' [.que v2 3 1 (zo (m2,qs2) y).2.length (ints (zo (m2,qs2) y).2),.cell b14 (bls (zo (m2,qs2) y).1) 4]) (fun K17 hK17=>?_) ?_
    ·refine gg_ ?_
     refine zi (by rw [Int.toNat_natCast];exact S.at hcu) ?_
     refine gg_ ?_
     refine S.ld (b:=b14) ?_ (aeM (by omega))
     refine gp_ ?_
     refine c_b (fun hm=>?_) (fun hm=>?_)
     ·have hm : mk' m2 y=false:=by simpa using hm
      have e : zo (m2,qs2) y=(zy m2 y,qs2 ++ [y]):=by rw [zo,if_neg (by rw [hm];simp)]
      refine gp_ ?_
      refine S.st (b:=b14) (fun w7 S=>?_) (by rw [yI];omega)
      have S : StX noX w r w7 [.que vq2 3 1 qs2.length (ints qs2),.cell b14 (bls (zy m2 y)) 4]:=by
       rw [← y7 y0];exact S
      refine S.lit (e:=3) (cs:=[.int .i64 y]) (by kernel_rfl) fun b49 w8 S=>?_
      refine S.apQ (m:=1) (Sl.blk (S.blk b49)) (fun v50 w9 S=>?_) (by omega)
      refine hK17 _ _ ⟨v50,rfl,?_⟩
      rw [e,List.length_append,yo]
      exact S.drop b49
     ·have hm : mk' m2 y=true:=by simpa using hm
      have e : zo (m2,qs2) y=(m2,qs2):=by rw [zo,if_pos hm]
      refine hK17 _ _ ⟨vq2,rfl,?_⟩
      rw [e];exact S
    rintro s w6 ⟨v2,rfl,S⟩ d
    simp only [List.getD_cons_zero]
    refine gp_ ?_
    refine hK13 (k+1,v2) _ ⟨hlt,?_⟩ (by show l.length - (k+1)<l.length - k;omega)
    show StX noX w r w6 [.que v2 3 1 ((l.take (k+1)).foldl zo (m,qs)).2.length (ints ((l.take (k+1)).foldl zo (m,qs)).2),.cell b14 (bls ((l.take (k+1)).foldl zo (m,qs)).1) 4]
    rw [hst];exact S
   have hke : k=l.length:=by omega
   subst hke
   rw [List.take_length] at S g1 g2 g3
   simp only [List.length_cons] at hms
   refine hK4 (vq2,_,_) _ ⟨hB2,by show 2*off (l.foldl zo (m,qs)).1+(l.foldl zo (m,qs)).2.length≤2*n.length+1;omega,S⟩ ?_
   show 2*off (l.foldl zo (m,qs)).1+(l.foldl zo (m,qs)).2.length<2*off m+(x::qs).length
   rw [List.length_cons];omega
 have hqs0 : qs = []:=by
  cases qs with
  |nil=>rfl
  |cons x qs=>simp at hz
 subst hqs0
 have hm:=hB.end hok hq
 subst hm
 have S:=S.tl
 obtain ⟨S,hs,ha⟩:=S.litNew b14 (sz:=1) (R:=xr) (l:=xP n zT q) xm (by decide)
 rw [yN] at hs
 exact h _ _ _ S.ext (S.newOf ha) hs
end Go.Proofs
end
section
namespace Go.Proofs
set_option linter.unusedVariables false
set_option linter.unusedSimpArgs false
structure DfS where
 st : List Int
 out : List Int
 back : List (Int × Int)
abbrev CfD:=DfS × List (Int × Int)
def stA (s : DfS) (q : Int) : Int:=s.st.getD q.toNat 0
def zA (s : DfS) (p : Int) : DfS:=⟨s.st.set p.toNat 1,s.out,s.back⟩
def leave (s : DfS) (q : Int) : DfS:=⟨s.st.set q.toNat 2,s.out ++ [q],s.back⟩
def xw (s : DfS) (q p : Int) : DfS:=⟨s.st,s.out,s.back ++ [(q,p)]⟩
def y9 (n : zg) : CfD→Option CfD
 |(_,[])=>none
 |(s,(q,i)::r)=>
  if (nxt n q).length≤i.toNat then some (leave s q,r)
  else if stA s ((nxt n q).getD i.toNat 0)=1 then some (xw s q ((nxt n q).getD i.toNat 0),(q,i+1)::r)
  else if stA s ((nxt n q).getD i.toNat 0)=0 then some (zA s ((nxt n q).getD i.toNat 0),((nxt n q).getD i.toNat 0,0)::(q,i+1)::r)
  else some (s,(q,i+1)::r)
def xA (n : zg) : Nat→CfD→Option CfD
 |0,c=>some c
 |k+1,c=>(xA n k c).bind (y9 n)
def Mst (n : zg) (a b : CfD) : Prop:=∃ k,xA n k a=some b
theorem Mst.refl {n : zg} {a : CfD} : Mst n a a:=⟨0,rfl⟩
theorem Mst.tail {n : zg} {a b c : CfD} (h : Mst n a b) (k : y9 n b=some c) : Mst n a c:=by
 obtain ⟨m,h⟩:=h
 exact ⟨m+1,by rw [xA,h];exact k⟩
theorem Mst.trans {n : zg} {a b c : CfD} (h : Mst n a b) (k : Mst n b c) : Mst n a c:=by
 obtain ⟨m,k⟩:=k
 induction m generalizing c with
 |zero=>cases k;exact h
 |succ m ih=>
  rw [xA] at k
  cases hb : xA n m b with
  |none=>rw [hb] at k;cases k
  |some d=>rw [hb] at k;exact (ih hb).tail k
theorem abj {n : zg} {a : CfD} : ∀ {k m : Nat},k≤m→xA n k a=none→xA n m a=none:=by
 intro k m h
 induction h with
 |refl=>exact id
 |step _ ih=>intro h0;rw [xA,ih h0];rfl
theorem Mst.one {n : zg} {a : CfD} {s s' : DfS} (h : Mst n a (s,[])) (h' : Mst n a (s',[])) : s=s':=by
 obtain ⟨k,h⟩:=h
 obtain ⟨m,h'⟩:=h'
 have hk : xA n (k+1) a=none:=by rw [xA,h];rfl
 have hm : xA n (m+1) a=none:=by rw [xA,h'];rfl
 rcases Nat.lt_trichotomy k m with hlt|rfl|hlt
 ·rw [abj hlt hk] at h';cases h'
 ·rw [h] at h';cases h';rfl
 ·rw [abj hlt hm] at h;cases h
theorem aft {n : zg} {c d : CfD} {r : List (Int × Int)} (h : y9 n c=some d) : y9 n (c.1,c.2++r)=some (d.1,d.2++r):=by
 obtain ⟨s,l⟩:=c
 cases l with
 |nil=>cases h
 |cons x l=>
  obtain ⟨q,i⟩:=x
  simp only [y9,List.cons_append] at h ⊢
  split at h
  ·rename_i h1;cases h;rw [if_pos h1]
  rename_i h1
  rw [if_neg h1]
  split at h
  ·rename_i h2;cases h;rw [if_pos h2];rfl
  rename_i h2
  rw [if_neg h2]
  split at h
  ·rename_i h3;cases h;rw [if_pos h3];rfl
  ·rename_i h3;cases h;rw [if_neg h3];rfl
theorem Mst.frame {n : zg} {c d : CfD} {r : List (Int × Int)} (h : Mst n c d) : Mst n (c.1,c.2++r) (d.1,d.2++r):=by
 obtain ⟨k,h⟩:=h
 induction k generalizing d with
 |zero=>cases h;exact .refl
 |succ k ih=>
  rw [xA] at h
  cases hb : xA n k c with
  |none=>rw [hb] at h;cases h
  |some e=>rw [hb] at h;exact (ih hb).tail (aft h)
def yK (n : zg) (s : DfS) : Nat:=((List.range n.length).map fun (i : Nat)=>if s.st.getD i 0=0 then (n.getD i []).length+1 else 0).sum
def cfW (n : zg) (c : CfD) : Nat:=yK n c.1+(c.2.map fun x=>(nxt n x.1).length+1 - x.2.toNat).sum
structure Dfs (n : zg) (c : CfD) : Prop where
 len : c.1.st.length=n.length
 stack : ∀ x ∈ c.2,isN n x.1∧0≤x.2∧x.2.toNat≤(nxt n x.1).length∧stA c.1 x.1=1
 nodup : (c.2.map Prod.fst).Nodup
theorem kU {s : List Int} {o : List Int} {b : List (Int × Int)} {p x v : Int} (hp : 0≤p) (hp2 : p<s.length) (hx : 0≤x) : stA ⟨s.set p.toNat v,o,b⟩ x=if x=p then v else s.getD x.toNat 0:=by
 rw [stA,List.getD_eq_getElem?_getD,List.getElem?_set]
 by_cases h : x=p
 ·subst h;rw [if_pos rfl,if_pos rfl,if_pos (by omega)];rfl
 ·rw [if_neg (by omega),if_neg h,List.getD_eq_getElem?_getD]
theorem ahl {l : List Nat} {f g : Nat→Nat} (h : ∀ i ∈ l,f i≤g i) : (l.map f).sum≤(l.map g).sum:=by
 induction l with
 |nil=>exact Nat.le_refl _
 |cons a l ih=>
  have:=h a List.mem_cons_self
  have:=ih fun i hi=>h i (List.mem_cons_of_mem _ hi)
  simp only [List.map_cons,List.sum_cons];omega
theorem aip {l : List Nat} {f g : Nat→Nat} {k w : Nat} (hk : k ∈ l) (hn : l.Nodup) (h : ∀ i ∈ l,i≠k→f i≤g i) (hw : f k+w≤g k) : (l.map f).sum+w≤(l.map g).sum:=by
 induction l with
 |nil=>cases hk
 |cons a l ih=>
  simp only [List.map_cons,List.sum_cons]
  have hn':=List.nodup_cons.1 hn
  rcases List.mem_cons.1 hk with rfl|hk
  ·have:=ahl (l:=l) (f:=f) (g:=g) fun i hi=>h i (List.mem_cons_of_mem _ hi) fun e=>hn'.1 (e ▸ hi)
   omega
  ·have:=h a List.mem_cons_self fun e=>hn'.1 (e ▸ hk)
   have:=ih hk hn'.2 fun i hi=>h i (List.mem_cons_of_mem _ hi)
   omega
theorem aah {n : zg} {s s' : DfS} (h : ∀ i,s'.st.getD i 0=0→s.st.getD i 0=0) : yK n s'≤yK n s:=by
 refine ahl fun i _=>?_
 split
 ·rename_i h0;rw [if_pos (h i h0)];omega
 ·exact Nat.zero_le _
theorem Qe {n : zg} {s : DfS} {p : Int} (hl : s.st.length=n.length) (hp : isN n p) (h0 : stA s p=0) : yK n (zA s p)+((nxt n p).length+1)≤yK n s:=by
 have p0:=hp.1;have p1:=hp.2
 refine aip (k:=p.toNat) (List.mem_range.2 (by omega)) List.nodup_range (fun i hi hne=>?_) ?_
 ·have : (zA s p).st.getD i 0=s.st.getD i 0:=by
   rw [zA,List.getD_eq_getElem?_getD,List.getElem?_set_ne (by omega),List.getD_eq_getElem?_getD]
  rw [this];exact Nat.le_refl _
 ·have e1 : (zA s p).st.getD p.toNat 0=1:=by
   rw [zA,List.getD_eq_getElem?_getD,List.getElem?_set_self (by omega)];rfl
  have e2 : s.st.getD p.toNat 0=0:=h0
  rw [e1,e2,if_neg (by omega),if_pos rfl]
  show 0+((n.getD p.toNat []).length+1)≤_
  omega
theorem aai {l : List Int} {i : Nat} (h : i<l.length) : l.getD i 0 ∈ l:=by
 rw [List.getD_eq_getElem?_getD,List.getElem?_eq_getElem h];exact List.getElem_mem h
theorem Dfs.step {n : zg} (hn : ym n) {c d : CfD} (h : Dfs n c) (k : y9 n c=some d) : Dfs n d∧cfW n d<cfW n c:=by
 obtain ⟨s,l⟩:=c
 cases l with
 |nil=>cases k
 |cons x l=>
  obtain ⟨q,i⟩:=x
  obtain ⟨hq,hi0,hi1,hq1⟩:=h.stack (q,i) List.mem_cons_self
  have hl:=h.len
  have hrest : ∀ x ∈ l,isN n x.1∧0≤x.2∧x.2.toNat≤(nxt n x.1).length∧stA s x.1=1:=fun x hx=>h.stack x (List.mem_cons_of_mem _ hx)
  have q0 : 0≤q:=hq.1
  have q1 : q<s.st.length:=by rw [hl];exact hq.2
  dsimp only at hi0 hi1 hl hq1
  have hnd : q ∉ l.map Prod.fst∧(l.map Prod.fst).Nodup:=List.nodup_cons.1 h.nodup
  simp only [y9] at k
  split at k
  ·cases k
   rename_i h1
   refine ⟨⟨by simp only [leave,List.length_set];exact hl,fun x hx=>?_,hnd.2⟩,?_⟩
   ·obtain ⟨a,b,c,d⟩:=hrest x hx
    refine ⟨a,b,c,?_⟩
    have hne : x.1≠q:=fun e=>hnd.1 (List.mem_map.2 ⟨x,hx,e⟩)
    rw [leave,kU q0 q1 a.1,if_neg hne]
    exact d
   ·have : yK n (leave s q)≤yK n s:=aah fun j hj=>by
     rw [leave,List.getD_eq_getElem?_getD,List.getElem?_set] at hj
     split at hj
     ·rename_i e
      subst e
      rw [if_pos (by omega)] at hj
      cases hj
     ·rw [List.getD_eq_getElem?_getD];exact hj
    simp only [cfW,List.map_cons,List.sum_cons]
    omega
  rename_i h1
  have hp:=yu hn (aai (l:=nxt n q) (i:=i.toNat) (by omega))
  generalize hpe : (nxt n q).getD i.toNat 0=p at k hp
  have p0 : 0≤p:=hp.1
  have p1 : p<s.st.length:=by rw [hl];exact hp.2
  have hi2 : (i+1).toNat=i.toNat+1:=by omega
  split at k
  ·cases k
   refine ⟨⟨hl,fun x hx=>?_,h.nodup⟩,?_⟩
   ·rcases List.mem_cons.1 hx with rfl|hx
    ·exact ⟨hq,by show 0≤i+1;omega,by show (i+1).toNat≤(nxt n q).length;omega,hq1⟩
    ·exact hrest x hx
   ·simp only [cfW,List.map_cons,List.sum_cons,hi2]
    have : yK n (xw s q p)=yK n s:=rfl
    omega
  rename_i h2
  split at k
  ·rename_i h3
   cases k
   have hst : ∀ x,isN n x→stA s x=1→stA (zA s p) x=1:=fun x hx h=>by
    rw [zA,kU p0 p1 hx.1]
    split
    ·rfl
    ·exact h
   refine ⟨⟨by simp only [zA,List.length_set];exact hl,fun x hx=>?_,List.nodup_cons.2 ⟨fun hm=>?_,List.nodup_cons.2 hnd⟩⟩,?_⟩
   ·rcases List.mem_cons.1 hx with rfl|hx
    ·exact ⟨hp,Int.le_refl _,Nat.zero_le _,by rw [zA,kU p0 p1 p0,if_pos rfl]⟩
    rcases List.mem_cons.1 hx with rfl|hx
    ·exact ⟨hq,by show 0≤i+1;omega,by show (i+1).toNat≤(nxt n q).length;omega,hst q hq hq1⟩
    ·obtain ⟨a,b,c,d⟩:=hrest x hx
     exact ⟨a,b,c,hst _ a d⟩
   ·rcases List.mem_cons.1 hm with e|hm
    ·have e : p=q:=e
     rw [e,hq1] at h3;cases h3
    ·obtain ⟨x,hx,e⟩:=List.mem_map.1 hm
     have:=(hrest x hx).2.2.2
     rw [e,h3] at this;cases this
   ·have:=Qe hl hp h3
    simp only [cfW,List.map_cons,List.sum_cons,hi2,Int.toNat_zero]
    omega
  ·cases k
   refine ⟨⟨hl,fun x hx=>?_,h.nodup⟩,?_⟩
   ·rcases List.mem_cons.1 hx with rfl|hx
    ·exact ⟨hq,by show 0≤i+1;omega,by show (i+1).toNat≤(nxt n q).length;omega,hq1⟩
    ·exact hrest x hx
   ·simp only [cfW,List.map_cons,List.sum_cons,hi2]
    omega
end Go.Proofs
end
section
namespace Go.Proofs
set_option linter.unusedVariables false
set_option linter.unusedSimpArgs false
def Bfr (l : List Int) (p q : Int) : Prop:=p ∈ l.takeWhile fun y=>decide (y≠q)
theorem ahm {q : Int} : ∀ {l r : List Int},q ∈ l→(l++r).takeWhile (fun y=>decide (y≠q))=l.takeWhile fun y=>decide (y≠q)
 |a::l,r,h=>by
  by_cases e : a=q
  ·simp [e]
  ·rw [List.cons_append,List.takeWhile_cons_of_pos (by simpa using e),List.takeWhile_cons_of_pos (by simpa using e),ahm ((List.mem_cons.1 h).resolve_left fun h=>e h.symm)]
theorem ahn {q : Int} : ∀ {l : List Int},q ∉ l→(l ++ [q]).takeWhile (fun y=>decide (y≠q))=l
 |[],_=>by simp
 |a::l,h=>by
  have h' : q≠a∧q ∉ l:=by simpa using h
  rw [List.cons_append,List.takeWhile_cons_of_pos (by simpa using fun e=>h'.1 e.symm),ahn h'.2]
theorem Bfr.old {l r : List Int} {p q : Int} (h : q ∈ l) : Bfr (l++r) p q↔Bfr l p q:=by rw [Bfr,Bfr,ahm h]
theorem Bfr.new {l : List Int} {p q : Int} (h : q ∉ l) : Bfr (l ++ [q]) p q↔p ∈ l:=by rw [Bfr,ahn h]
def PathS (n : zg) : List (Int × Int)→Prop
 |[]=>True
 |[x]=>x.1=0
 |x::y::r=>x.1 ∈ nxt n y.1∧PathS n (y::r)
theorem PathS.tl {n : zg} {x : Int × Int} {r : List (Int × Int)} (h : PathS n (x::r)) : PathS n r:=by
 cases r with
 |nil=>trivial
 |cons y r=>exact h.2
theorem PathS.cut {n : zg} {a : Int} : ∀ {l : List (Int × Int)} {x : Int × Int},PathS n (x::l)→a ∉ (x::l).map Prod.fst→Rchd n (· = a) 0 x.1
 |[],x,h,_=>by have h : x.1=0:=h;rw [h];exact .base
 |y::l,x,h,hn=>by
  have hn' : a≠x.1∧a ∉ (y::l).map Prod.fst:=by rw [List.map_cons,List.mem_cons,not_or] at hn;exact hn
  have:=PathS.cut h.2 hn'.2
  exact .step this (.inr fun e=>hn'.2 (e ▸ List.mem_cons_self)) h.1
structure Ord (n : zg) (c : CfD) : Prop where
 base : Dfs n c
 tri : ∀ x,isN n x→stA c.1 x=0∨stA c.1 x=1∨stA c.1 x=2
 gray : ∀ x,isN n x→(stA c.1 x=1↔x ∈ c.2.map Prod.fst)
 outN : ∀ x ∈ c.1.out,isN n x
 black : ∀ x,isN n x→(stA c.1 x=2↔x ∈ c.1.out)
 onodup : c.1.out.Nodup
 reach : ∀ x,isN n x→stA c.1 x≠0→Rchd n zT 0 x
 path : PathS n c.2
 bk : ∀ q ∈ c.1.out,∀ p ∈ nxt n q,stA c.1 p≠0∧((q,p) ∈ c.1.back↔¬ Bfr c.1.out p q)
 gr : ∀ A q i B,c.2=A++(q,i)::B→∀ p ∈ (nxt n q).take i.toNat,stA c.1 p≠0∧((q,p) ∈ c.1.back↔p ∈ q::B.map Prod.fst)
 bex : ∀ e ∈ c.1.back,isN n e.1∧stA c.1 e.1≠0∧e.2 ∈ nxt n e.1∧∀ i,(e.1,i) ∈ c.2→e.2 ∈ (nxt n e.1).take i.toNat
 bnodup : c.1.back.Nodup
 dom : ∀ q ∈ c.1.out,∀ a,Dom n a q→¬ Bfr c.1.out a q
theorem aiq {l : List Int} {i : Int} (hi : 0≤i) (h : i.toNat<l.length) : l.take (i+1).toNat=l.take i.toNat ++ [l.getD i.toNat 0]:=by
 rw [show (i+1).toNat=i.toNat+1 by omega,List.take_succ_eq_append_getElem h,List.getD_eq_getElem?_getD,List.getElem?_eq_getElem h];rfl
theorem aho {l : List Int} {k : Nat} (hn : l.Nodup) (h : k<l.length) : l.getD k 0 ∉ l.take k:=by
 rw [List.getD_eq_getElem?_getD,List.getElem?_eq_getElem h,Option.getD_some]
 intro hm
 obtain ⟨j,hj,e⟩:=List.getElem_of_mem hm
 rw [List.getElem_take] at e
 rw [List.length_take] at hj
 exact List.pairwise_iff_getElem.1 hn j k (by omega) h (by omega) e
theorem Ord.step {n : zg} (hn : ym n) (hnd : ∀ q,(nxt n q).Nodup) {c d : CfD} (h : Ord n c) (k : y9 n c=some d) : Ord n d:=by
 have hb:=(h.base.step hn k).1
 obtain ⟨s,l⟩:=c
 cases l with
 |nil=>cases k
 |cons x l=>
  obtain ⟨q,i⟩:=x
  obtain ⟨hq,hi0,hi1,hq1⟩:=h.base.stack (q,i) List.mem_cons_self
  have hl:=h.base.len
  have q0 : 0≤q:=hq.1
  have q1 : q<s.st.length:=by rw [hl];exact hq.2
  dsimp only at hi0 hi1 hl hq1
  have hdup : q ∉ l.map Prod.fst∧(l.map Prod.fst).Nodup:=List.nodup_cons.1 h.base.nodup
  have htop:=h.gr [] q i l rfl
  simp only [y9] at k
  split at k
  ·rename_i h1
   cases k
   have hst : ∀ x,0≤x→stA (leave s q) x=if x=q then 2 else stA s x:=fun x hx=>by rw [leave,kU q0 q1 hx];rfl
   have hqo : q ∉ s.out:=fun hm=>by
    have:=(h.black q hq).2 hm
    dsimp only at this;omega
   have hne0 : ∀ x,0≤x→(stA (leave s q) x≠0↔stA s x≠0):=fun x hx=>by
    rw [hst x hx]
    split
    ·rename_i e;subst e;simp [hq1]
    ·rfl
   have htk : (nxt n q).take i.toNat=nxt n q:=List.take_of_length_le h1
   rw [htk] at htop
   have hdq : ∀ a,Dom n a q→a ∉ s.out:=fun a ha hm=>by
    have haN:=h.outN a hm
    have ha2:=(h.black a haN).2 hm
    dsimp only at ha2
    have hang : a ∉ (q::l.map Prod.fst):=fun hm'=>by
     have:=(h.gray a haN).2 hm'
     dsimp only at this;omega
    rcases ha with e|e|ha
    ·subst e;exact hqo hm
    ·subst e
     have : ∀ {l : List (Int × Int)} {x : Int × Int},PathS n (x::l)→(0 : Int) ∈ (x::l).map Prod.fst:=by
      intro l
      induction l with
      |nil=>intro x hx;have hx : x.1=0:=hx;simp [hx]
      |cons y l ih=>intro x hx;exact List.mem_cons_of_mem _ (ih hx.2)
     exact hang (this h.path)
    ·exact ha (PathS.cut h.path hang)
   refine ⟨hb,fun x hx=>?_,fun x hx=>?_,fun x hx=>?_,fun x hx=>?_,?_,fun x hx h0=>h.reach x hx ((hne0 x hx.1).1 h0),h.path.tl,fun y hy p hp=>?_,fun A y j B e p hp=>?_,fun e he=>?_,h.bnodup,fun y hy a ha=>?_⟩
   ·rw [hst x hx.1]
    split
    ·exact .inr (.inr rfl)
    ·exact h.tri x hx
   ·rw [hst x hx.1]
    by_cases e : x=q
    ·subst e;rw [if_pos rfl]
     exact ⟨fun h=>(by cases h),fun hm=>absurd hm hdup.1⟩
    ·rw [if_neg e]
     have:=h.gray x hx
     simp only [List.map_cons,List.mem_cons,e,false_or] at this
     exact this
   ·rcases List.mem_append.1 hx with hx|hx
    ·exact h.outN x hx
    ·rw [List.mem_singleton.1 hx];exact hq
   ·rw [hst x hx.1]
    show _↔x ∈ s.out ++ [q]
    rw [List.mem_append,List.mem_singleton]
    by_cases e : x=q
    ·subst e;simp
    ·rw [if_neg e]
     have:=h.black x hx
     dsimp only at this
     rw [this];simp [e]
   ·exact List.nodup_append.2 ⟨h.onodup,by simp,fun x hx y hy=>by rw [List.mem_singleton.1 hy];intro e;subst e;exact hqo hx⟩
   ·have hpN:=yu hn hp
    rw [hne0 p hpN.1]
    rcases List.mem_append.1 hy with hy|hy
    ·have:=h.bk y hy p hp
     refine ⟨this.1,?_⟩
     show (y,p) ∈ s.back↔¬ Bfr (s.out ++ [q]) p y
     rw [Bfr.old hy];exact this.2
    ·obtain rfl:=List.mem_singleton.1 hy
     have:=htop p hp
     refine ⟨this.1,?_⟩
     show (y,p) ∈ s.back↔¬ Bfr (s.out ++ [y]) p y
     rw [Bfr.new hqo,this.2]
     have hg:=h.gray p hpN
     have hbl:=h.black p hpN
     have h0:=this.1
     have ht:=h.tri p hpN
     dsimp only at hg hbl h0 ht
     rw [← hbl]
     simp only [List.map_cons] at hg
     rw [← hg]
     omega
   ·have e : l=A++(y,j)::B:=e
    have:=h.gr ((q,i)::A) y j B (by rw [e];rfl) p hp
    rw [hne0 p (yu hn (List.mem_of_mem_take hp)).1]
    exact this
   ·obtain ⟨a1,a2,a3,a4⟩:=h.bex e he
    exact ⟨a1,(hne0 _ a1.1).2 a2,a3,fun j hj=>a4 j (List.mem_cons_of_mem _ hj)⟩
   ·rcases List.mem_append.1 hy with hy|hy
    ·show ¬ Bfr (s.out ++ [q]) a y
     rw [Bfr.old hy];exact h.dom y hy a ha
    ·obtain rfl:=List.mem_singleton.1 hy
     show ¬ Bfr (s.out ++ [y]) a y
     rw [Bfr.new hqo];exact hdq a ha
  rename_i h1
  have hlt : i.toNat<(nxt n q).length:=by omega
  have hpm:=aai (l:=nxt n q) (i:=i.toNat) hlt
  have hp:=yu hn hpm
  have htk:=aiq hi0 hlt
  have hnt:=aho (hnd q) hlt
  generalize hpe : (nxt n q).getD i.toNat 0=p at k hp htk hnt hpm
  have p0 : 0≤p:=hp.1
  have p1 : p<s.st.length:=by rw [hl];exact hp.2
  have hnb : (q,p) ∉ s.back:=fun hm=>hnt ((h.bex _ hm).2.2.2 i List.mem_cons_self)
  have hpth : ∀ j,PathS n ((q,j)::l):=fun j=>by
   have:=h.path
   cases l with
   |nil=>exact this
   |cons y l=>exact this
  split at k
  ·rename_i h2
   cases k
   have hpg : p ∈ q::l.map Prod.fst:=(h.gray p hp).1 h2
   refine ⟨hb,h.tri,h.gray,h.outN,h.black,h.onodup,h.reach,hpth _,fun y hy z hz=>?_,fun A y j B e z hz=>?_,fun e he=>?_,?_,h.dom⟩
   ·have:=h.bk y hy z hz
    refine ⟨this.1,Iff.trans ?_ this.2⟩
    show (y,z) ∈ s.back ++ [(q,p)]↔_
    rw [List.mem_append,List.mem_singleton]
    refine ⟨fun hm=>hm.resolve_right fun e=>?_,.inl⟩
    have : y=q:=congrArg Prod.fst e
    subst this
    have:=(h.black y hq).2 hy
    dsimp only at this;omega
   ·show stA s z≠0∧((y,z) ∈ s.back ++ [(q,p)]↔_)
    rw [List.mem_append,List.mem_singleton]
    cases A with
    |nil=>
     simp only [List.nil_append,List.cons.injEq,Prod.mk.injEq] at e
     obtain ⟨⟨rfl,rfl⟩,rfl⟩:=e
     rw [htk,List.mem_append,List.mem_singleton] at hz
     rcases hz with hz|rfl
     ·have:=htop z hz
      refine ⟨this.1,Iff.trans ?_ this.2⟩
      refine ⟨fun hm=>hm.resolve_right fun e=>?_,.inl⟩
      have : z=p:=congrArg Prod.snd e
      subst this;exact hnt hz
     ·exact ⟨by rw [h2];decide,fun _=>hpg,fun _=>.inr rfl⟩
    |cons x A=>
     simp only [List.cons_append,List.cons.injEq] at e
     have:=h.gr ((q,i)::A) y j B (by show (q,i)::l=_;rw [e.2];rfl) z hz
     refine ⟨this.1,Iff.trans ?_ this.2⟩
     refine ⟨fun hm=>hm.resolve_right fun e'=>?_,.inl⟩
     have hy : y=q:=congrArg Prod.fst e'
     exact hdup.1 (List.mem_map.2 ⟨(y,j),by rw [e.2];simp,hy⟩)
   ·show isN n e.1∧stA s e.1≠0∧_
    rcases List.mem_append.1 he with he|he
    ·obtain ⟨a1,a2,a3,a4⟩:=h.bex e he
     refine ⟨a1,a2,a3,fun j hj=>?_⟩
     rcases List.mem_cons.1 hj with hj|hj
     ·have e1 : e.1=q:=congrArg Prod.fst hj
      have e2 : j=i+1:=congrArg Prod.snd hj
      rw [e2,e1,htk]
      exact List.mem_append_left _ (by have:=a4 i (by rw [e1];exact List.mem_cons_self);rwa [e1] at this)
     ·exact a4 j (List.mem_cons_of_mem _ hj)
    ·obtain rfl:=List.mem_singleton.1 he
     refine ⟨hq,by show stA s q≠0;rw [hq1];decide,hpm,fun j hj=>?_⟩
     rcases List.mem_cons.1 hj with hj|hj
     ·have e2 : j=i+1:=congrArg Prod.snd hj
      rw [e2]
      show p ∈ (nxt n q).take _
      rw [htk];simp
     ·exact absurd (List.mem_map.2 ⟨(q,j),hj,rfl⟩) hdup.1
   ·exact List.nodup_append.2 ⟨h.bnodup,by simp,fun x hx y hy=>by rw [List.mem_singleton.1 hy];intro e;subst e;exact hnb hx⟩
  rename_i h2
  split at k
  ·rename_i h3
   cases k
   have hst : ∀ x,0≤x→stA (zA s p) x=if x=p then 1 else stA s x:=fun x hx=>by rw [zA,kU p0 p1 hx];rfl
   have hne0 : ∀ x,0≤x→stA s x≠0→stA (zA s p) x≠0:=fun x hx hh=>by
    rw [hst x hx]
    split
    ·decide
    ·exact hh
   have hpng : p ∉ q::l.map Prod.fst:=fun hm=>by
    have:=(h.gray p hp).2 hm
    dsimp only at this;omega
   have hpo : p ∉ s.out:=fun hm=>by
    have:=(h.black p hp).2 hm
    dsimp only at this;omega
   refine ⟨hb,fun x hx=>?_,fun x hx=>?_,h.outN,fun x hx=>?_,h.onodup,fun x hx h0=>?_,⟨hpm,hpth _⟩,fun y hy z hz=>?_,fun A y j B e z hz=>?_,fun e he=>?_,h.bnodup,h.dom⟩
   ·rw [hst x hx.1]
    split
    ·exact .inr (.inl rfl)
    ·exact h.tri x hx
   ·rw [hst x hx.1]
    by_cases e : x=p
    ·subst e;simp
    ·rw [if_neg e]
     have:=h.gray x hx
     simp only [List.map_cons,List.mem_cons] at this ⊢
     rw [this];simp [e]
   ·rw [hst x hx.1]
    by_cases e : x=p
    ·subst e;rw [if_pos rfl]
     exact ⟨fun h=>(by cases h),fun hm=>absurd hm hpo⟩
    ·rw [if_neg e];exact h.black x hx
   ·rw [hst x hx.1] at h0
    by_cases e : x=p
    ·subst e
     exact .step (h.reach q hq (by show stA s q≠0;rw [hq1];decide)) (.inr id) hpm
    ·rw [if_neg e] at h0;exact h.reach x hx h0
   ·have:=h.bk y hy z hz
    exact ⟨hne0 z (yu hn hz).1 this.1,this.2⟩
   ·cases A with
    |nil=>
     simp only [List.nil_append,List.cons.injEq,Prod.mk.injEq] at e
     obtain ⟨⟨rfl,rfl⟩,rfl⟩:=e
     simp at hz
    |cons x A=>
     simp only [List.cons_append,List.cons.injEq] at e
     obtain ⟨rfl,e⟩:=e
     cases A with
     |nil=>
      simp only [List.nil_append,List.cons.injEq,Prod.mk.injEq] at e
      obtain ⟨⟨rfl,rfl⟩,rfl⟩:=e
      rw [htk,List.mem_append,List.mem_singleton] at hz
      rcases hz with hz|rfl
      ·have:=htop z hz
       exact ⟨hne0 z (yu hn (List.mem_of_mem_take hz)).1 this.1,this.2⟩
      ·refine ⟨by rw [hst z p0,if_pos rfl];decide,fun hm=>absurd hm hnb,fun hm=>absurd hm hpng⟩
     |cons y' A=>
      simp only [List.cons_append,List.cons.injEq] at e
      have:=h.gr ((q,i)::A) y j B (by show (q,i)::l=_;rw [e.2];rfl) z hz
      exact ⟨hne0 z (yu hn (List.mem_of_mem_take hz)).1 this.1,this.2⟩
   ·obtain ⟨a1,a2,a3,a4⟩:=h.bex e he
    refine ⟨a1,hne0 _ a1.1 a2,a3,fun j hj=>?_⟩
    rcases List.mem_cons.1 hj with hj|hj
    ·have e1 : e.1=p:=congrArg Prod.fst hj
     rw [e1] at a2
     exact absurd h3 a2
    rcases List.mem_cons.1 hj with hj|hj
    ·have e1 : e.1=q:=congrArg Prod.fst hj
     have e2 : j=i+1:=congrArg Prod.snd hj
     rw [e2,e1,htk]
     exact List.mem_append_left _ (by have:=a4 i (by rw [e1];exact List.mem_cons_self);rwa [e1] at this)
    ·exact a4 j (List.mem_cons_of_mem _ hj)
  ·rename_i h3
   cases k
   have ht:=h.tri p hp
   have hbl:=h.black p hp
   dsimp only at ht hbl
   have hp2 : stA s p=2:=by omega
   have hpng : p ∉ q::l.map Prod.fst:=fun hm=>by
    have:=(h.gray p hp).2 hm
    dsimp only at this;omega
   refine ⟨hb,h.tri,h.gray,h.outN,h.black,h.onodup,h.reach,hpth _,h.bk,fun A y j B e z hz=>?_,fun e he=>?_,h.bnodup,h.dom⟩
   ·cases A with
    |nil=>
     simp only [List.nil_append,List.cons.injEq,Prod.mk.injEq] at e
     obtain ⟨⟨rfl,rfl⟩,rfl⟩:=e
     rw [htk,List.mem_append,List.mem_singleton] at hz
     rcases hz with hz|rfl
     ·exact htop z hz
     ·exact ⟨h3,fun hm=>absurd hm hnb,fun hm=>absurd hm hpng⟩
    |cons x A=>
     simp only [List.cons_append,List.cons.injEq] at e
     exact h.gr ((q,i)::A) y j B (by show (q,i)::l=_;rw [e.2];rfl) z hz
   ·obtain ⟨a1,a2,a3,a4⟩:=h.bex e he
    refine ⟨a1,a2,a3,fun j hj=>?_⟩
    rcases List.mem_cons.1 hj with hj|hj
    ·have e1 : e.1=q:=congrArg Prod.fst hj
     have e2 : j=i+1:=congrArg Prod.snd hj
     rw [e2,e1,htk]
     exact List.mem_append_left _ (by have:=a4 i (by rw [e1];exact List.mem_cons_self);rwa [e1] at this)
    ·exact a4 j (List.mem_cons_of_mem _ hj)
def yb (n : zg) : DfS:=⟨List.replicate n.length 0,[],[]⟩
theorem afR {k i : Nat} : (List.replicate k (0 : Int)).getD i 0=0:=by
 rw [List.getD_eq_getElem?_getD,List.getElem?_replicate];split<;>rfl
theorem Ord.start {n : zg} (h0 : 0<n.length) : Ord n (zA (yb n) 0,[(0,0)]):=by
 have hz : isN n 0:=⟨Int.le_refl _,by omega⟩
 have hst : ∀ x,0≤x→stA (zA (yb n) 0) x=if x=0 then 1 else 0:=fun x hx=>by
  rw [zA,kU (Int.le_refl _) (by simp [yb];omega) hx]
  split
  ·rfl
  ·exact afR
 refine ⟨⟨by simp [zA,yb],fun x hx=>?_,by simp⟩,fun x hx=>?_,fun x hx=>?_,fun x hx=>(by cases hx),fun x hx=>?_,.nil,fun x hx hh=>?_,rfl,fun q hq=>(by cases hq),fun A q i B e p hp=>?_,fun e he=>(by cases he),.nil,fun q hq=>(by cases hq)⟩
 ·obtain rfl:=List.mem_singleton.1 hx
  exact ⟨hz,Int.le_refl _,Nat.zero_le _,by rw [hst 0 (Int.le_refl _)];rfl⟩
 ·rw [hst x hx.1];split<;>simp
 ·rw [hst x hx.1]
  by_cases e : x=0
  ·simp [e]
  ·simp [e]
 ·rw [hst x hx.1]
  refine ⟨fun hh=>?_,fun hm=>by cases hm⟩
  split at hh<;>cases hh
 ·rw [hst x hx.1] at hh
  by_cases e : x=0
  ·rw [e];exact .base
  ·rw [if_neg e] at hh;exact absurd rfl hh
 ·have : i=0:=by
   cases A with
   |nil=>simp only [List.nil_append,List.cons.injEq,Prod.mk.injEq] at e;exact e.1.2.symm
   |cons x A=>simp at e
  subst this
  simp at hp
theorem Ord.go {n : zg} (hn : ym n) (hnd : ∀ q,(nxt n q).Nodup) {c d : CfD} (h : Ord n c) (k : Mst n c d) : Ord n d:=by
 obtain ⟨m,k⟩:=k
 induction m generalizing d with
 |zero=>cases k;exact h
 |succ m ih=>
  rw [xA] at k
  cases hb : xA n m c with
  |none=>rw [hb] at k;cases k
  |some e=>rw [hb] at k;exact (ih hb).step hn hnd k
structure abk (n : zg) (o : List Int) (b : List (Int × Int)) : Prop where
 nodup : o.Nodup
 mem : ∀ x,x ∈ o↔isN n x∧Rchd n zT 0 x
 back : ∀ q ∈ o,∀ p ∈ nxt n q,((q,p) ∈ b↔¬ Bfr o.reverse p q)
 edge : ∀ e ∈ b,e.1 ∈ o∧e.2 ∈ nxt n e.1
 bnodup : b.Nodup
 dom : ∀ q ∈ o,∀ a,Dom n a q→¬ Bfr o.reverse a q
theorem aeN {n : zg} (hn : ym n) (hnd : ∀ q,(nxt n q).Nodup) (h0 : 0<n.length) {s : DfS} (k : Mst n (zA (yb n) 0,[(0,0)]) (s,[])) : abk n s.out.reverse s.back:=by
 have h:=(Ord.start h0).go hn hnd k
 have hz : isN n 0:=⟨Int.le_refl _,by omega⟩
 have hbw : ∀ x,isN n x→stA s x≠0→stA s x=2:=fun x hx hh=>by
  have:=h.tri x hx
  have hg:=h.gray x hx
  dsimp only at this hg
  simp only [List.map_nil,List.not_mem_nil,iff_false] at hg
  omega
 have hz0 : stA s 0≠0:=by
  have : ∀ (m : Nat) (d : CfD),xA n m (zA (yb n) 0,[(0,0)])=some d→stA d.1 0≠0:=by
   intro m
   induction m with
   |zero=>intro d hd;cases hd;show stA (zA (yb n) 0) 0≠0;rw [zA,kU (Int.le_refl _) (by simp [yb];omega) (Int.le_refl _),if_pos rfl];decide
   |succ m ih=>
    intro d hd
    rw [xA] at hd
    cases hb : xA n m (zA (yb n) 0,[(0,0)]) with
    |none=>rw [hb] at hd;cases hd
    |some e=>
     rw [hb] at hd
     have he:=ih e hb
     have hO:=(Ord.start h0).go hn hnd ⟨m,hb⟩
     obtain ⟨s',l⟩:=e
     cases l with
     |nil=>cases hd
     |cons x l=>
      obtain ⟨q,i⟩:=x
      obtain ⟨hq,hi0,hi1,hq1⟩:=hO.base.stack (q,i) List.mem_cons_self
      have hl:=hO.base.len
      dsimp only at hl hi0 hi1
      simp only [Option.bind_some,y9] at hd
      split at hd
      ·cases hd
       show stA (leave s' q) 0≠0
       rw [leave,kU hq.1 (by rw [hl];exact hq.2) (Int.le_refl _)]
       split
       ·decide
       ·exact he
      split at hd
      ·cases hd;exact he
      split at hd
      ·rename_i h1 _ _
       cases hd
       have hp:=yu hn (aai (l:=nxt n q) (i:=i.toNat) (by omega))
       show stA (zA s' _) 0≠0
       rw [zA,kU hp.1 (by rw [hl];exact hp.2) (Int.le_refl _)]
       split
       ·decide
       ·exact he
      ·cases hd;exact he
  obtain ⟨m,k⟩:=k
  exact this m _ k
 have hall : ∀ x,Rchd n zT 0 x→stA s x≠0:=fun x hx=>by
  induction hx with
  |base=>exact hz0
  |step hr _ hp ih=>
   have hqN:=hr.isN hn hz
   have hqo:=(h.black _ hqN).1 (hbw _ hqN ih)
   exact (h.bk _ hqo _ hp).1
 refine ⟨by rw [List.Nodup,List.pairwise_reverse];exact h.onodup.imp fun h e=>h e.symm,fun x=>?_,fun q hq p hp=>?_,fun e he=>?_,h.bnodup,fun q hq a ha=>?_⟩
 ·rw [List.mem_reverse]
  constructor
  ·intro hm
   have hx:=h.outN x hm
   have h2:=(h.black x hx).2 hm
   dsimp only at h2
   exact ⟨hx,h.reach x hx (by show stA s x≠0;rw [h2];decide)⟩
  ·rintro ⟨hx,hr⟩
   exact (h.black x hx).1 (hbw x hx (hall x hr))
 ·rw [List.reverse_reverse]
  exact (h.bk q (List.mem_reverse.1 hq) p hp).2
 ·obtain ⟨a1,a2,a3,_⟩:=h.bex e he
  exact ⟨List.mem_reverse.2 ((h.black _ a1).1 (hbw _ a1 a2)),a3⟩
 ·rw [List.reverse_reverse]
  exact h.dom q (List.mem_reverse.1 hq) a ha
end Go.Proofs
end
section
namespace Go.Proofs
open Go.Sh Go.RowKit
set_option maxRecDepth 100000
set_option linter.unusedSimpArgs false
set_option linter.unusedVariables false
def ab3 (n : zg) : Prop:=∀ l ∈ n,l.length≤2
theorem acP {n : zg} (h : ab3 n) (s : DfS) : yK n s≤3*n.length:=by
 have key : ∀ l : List Nat,(l.map fun (i : Nat)=>if s.st.getD i 0=0 then (n.getD i []).length+1 else 0).sum≤3*l.length:=by
  intro l
  induction l with
  |nil=>simp
  |cons a l ih=>
   have ha : (n.getD a []).length≤2:=by
    rw [List.getD_eq_getElem?_getD]
    cases hx : n[a]? with
    |none=>simp
    |some x=>exact h x (List.mem_of_getElem? hx)
   simp only [List.map_cons,List.sum_cons,List.length_cons]
   split<;>omega
 have:=key (List.range n.length)
 rwa [List.length_range] at this
theorem acQ {l : List (Int × Int)} : RowOf 2 X2 (zX l) l:=⟨Xc l,fun i hi=>by
 induction l generalizing i with
 |nil=>simp at hi
 |cons p l ih=>
  cases i with
  |zero=>rfl
  |succ i=>
   have:=ih i (by simpa using hi)
   have e : (zX (p::l)).drop ((i+1)*2)=(zX l).drop (i*2):=by
    rw [show (i+1)*2=i*2+2 by omega,show zX (p::l) = .int .i64 p.1 :: .int .i64 p.2::zX l from rfl];rfl
   rw [e];exact this⟩
theorem kG {l : List (Int × Int)} {p : Int × Int} : zX (l ++ [p])=zX l ++ [.int .i64 p.1,.int .i64 p.2]:=by rw [aef];rfl
theorem aj2 {c : List Value} {l : List (Int × Int)} {q i : Int} {m : Nat} (h : c.take (m*2)=zX (l ++ [(q,i)])) (hm : m=l.length+1) : c[l.length*2]? = some (.int .i64 q)∧c[l.length*2+1]? = some (.int .i64 i):=by
 have e : ∀ j,j<m*2→c[j]? = (zX (l ++ [(q,i)]))[j]?:=fun j hj=>by rw [← h,List.getElem?_take,if_pos hj]
 have hl:=Xc l
 rw [e _ (by omega),e _ (by omega),kG,List.getElem?_append_right (by omega),List.getElem?_append_right (by omega),hl]
 simp
theorem ajc {c : List Value} {l : List (Int × Int)} {q i j : Int} {m : Nat} (h : c.take (m*2)=zX (l ++ [(q,i)])) (hm : m=l.length+1) : (c.set (l.length*2+1) (.int .i64 j)).take (m*2)=zX (l ++ [(q,j)]):=by
 have hl:=Xc l
 rw [List.take_set,h,kG,kG,List.set_append_right _ _ (by omega),hl,show l.length*2+1 - l.length*2=1 by omega]
 rfl
theorem ajd {c : List Value} {l : List (Int × Int)} {x : Int × Int} {m : Nat} (h : c.take (m*2)=zX (l ++ [x])) (hm : m=l.length+1) : c.take (l.length*2)=zX l:=by
 have e : c.take (l.length*2)=(c.take (m*2)).take (l.length*2):=by rw [List.take_take,Nat.min_eq_left (by omega)]
 rw [e,h,kG,List.take_left' (Xc l)]
theorem ZB {l : List Int} {q v : Int} (h : 0≤q) : (ints l).set (0+q.toNat) (.int .i64 v)=ints (l.set q.toNat v):=by
 rw [Nat.zero_add,ints,ints,List.map_set]
theorem ahp {s : DfS} {q : Int} (h : q.toNat<s.st.length) : (ints s.st)[0+q.toNat]? = some (.int .i64 (stA s q)):=by
 rw [Nat.zero_add,ints,List.getElem?_map,stA,List.getD_eq_getElem?_getD,List.getElem?_eq_getElem h];rfl
theorem afu {n : zg} {s : DfS} {q i : Int} {r : List (Int × Int)} (h : (nxt n q).length≤i.toNat) : y9 n (s,(q,i)::r)=some (leave s q,r):=by rw [y9,if_pos h]
theorem agy {n : zg} {s : DfS} {q i p : Int} {r : List (Int × Int)} (h : ¬ (nxt n q).length≤i.toNat) (hp : (nxt n q).getD i.toNat 0=p) (h1 : stA s p=1) : y9 n (s,(q,i)::r)=some (xw s q p,(q,i+1)::r):=by
 rw [y9,if_neg h,hp,if_pos h1]
theorem agz {n : zg} {s : DfS} {q i p : Int} {r : List (Int × Int)} (h : ¬ (nxt n q).length≤i.toNat) (hp : (nxt n q).getD i.toNat 0=p) (h1 : ¬ stA s p=1) (h0 : stA s p=0) : y9 n (s,(q,i)::r)=some (zA s p,(p,0)::(q,i+1)::r):=by
 rw [y9,if_neg h,hp,if_neg h1,if_pos h0]
theorem agA {n : zg} {s : DfS} {q i p : Int} {r : List (Int × Int)} (h : ¬ (nxt n q).length≤i.toNat) (hp : (nxt n q).getD i.toNat 0=p) (h1 : ¬ stA s p=1) (h0 : ¬ stA s p=0) : y9 n (s,(q,i)::r)=some (s,(q,i+1)::r):=by
 rw [y9,if_neg h,hp,if_neg h1,if_neg h0]
theorem ahq {n : zg} (h0 : 0<n.length) : Dfs n (zA (yb n) 0,[(0,0)]):=by
 have hz : isN n 0:=⟨Int.le_refl _,by omega⟩
 refine ⟨by simp [zA,yb],fun x hx=>?_,by simp⟩
 obtain rfl:=List.mem_singleton.1 hx
 refine ⟨hz,Int.le_refl _,Nat.zero_le _,?_⟩
 rw [zA,kU (Int.le_refl _) (by simp [yb];omega) (Int.le_refl _),if_pos rfl]
set_option maxHeartbeats 2000000 in
theorem aeO {n : zg} {v : Value} {w : World} {r : Gh} {K : Value→World→Prop} (hr : Holds r w) (hn : NetG r v n) (hok : ym n) (hnar : ab3 n) (h0 : 0<n.length) (hf : n.length≤100000)
  (h : ∀ v1 v2 s w' st,Ext w w'→New w s w'→Mst n (zA (yb n) 0,[(0,0)]) (st,[])→SlG 1 s zu v1 st.out.reverse→SlG 2 s X2 v2 st.back→K (.tuple #[v1,v2]) w') : zd Tryz.prog Tryz.xY #[v] w K:=by
 refine Tryz.aaf ?_
 unfold Tryz.Xk
 obtain ⟨p,cap,rfl,_,_⟩:=hn.sl.shape
 have S:=St.start hr
 refine gp_ ?_
 refine S.mkS (by omega) (by omega) fun b10 w1 S=>?_
 rw [Int.toNat_natCast] at S ⊢
 have e0 : List.replicate n.length (Value.int .i64 0)=ints (List.replicate n.length 0):=by simp [ints]
 rw [e0] at S
 refine zC (cs:=#[.int .i64 0,.int .i64 0]) (by kernel_rfl) ?_
 refine S.lit (e:=145) (cs:=[.int .i64 0,.int .i64 0]) (by kernel_rfl) fun b12 w2 S=>?_
 have S:=S.toRow 1 2 rfl (by decide)
 refine gp_ ?_
 refine S.st (b:=b10) (fun w3 S=>?_) (by rw [zI,List.length_replicate];simpa using h0)
 have S:=(S.ownNil 52 2).ownNil 3 1
 have S : StX noX w r w3 [.row (.slice none 0 0) 3 1 0 [],.row (.slice none 0 0) 52 2 0 [],.row (.slice (some ⟨b12,0,none⟩) 1 1) 145 2 1 [.int .i64 0,.int .i64 0],.cell b10 (ints (zA (yb n) 0).st) 3]:=by
  have e : (ints (List.replicate n.length 0)).set (0+Int.toNat 0) (.int .i64 1)=ints (zA (yb n) 0).st:=ZB (Int.le_refl 0)
  rw [← e];exact S
 have hD:=ahq h0
 have hw0 : cfW n (zA (yb n) 0,[(0,0)])≤3*n.length+3:=by
  have h1:=acP hnar (zA (yb n) 0)
  have h2 : (nxt n 0).length≤2:=by
   rw [xV ⟨Int.le_refl _,by omega⟩];exact hnar _ (List.getElem_mem _)
  simp only [cfW,List.map_cons,List.map_nil,List.sum_cons,List.sum_nil]
  omega
 refine zh (ι:=Value × Value × Value × CfD) (fun i=>[i.1,i.2.1,i.2.2.1]) (fun i w'=>Dfs n i.2.2.2∧Mst n (zA (yb n) 0,[(0,0)]) i.2.2.2∧i.2.2.2.2.length+i.2.2.2.1.out.length+i.2.2.2.1.back.length+cfW n i.2.2.2≤3*n.length+4∧
   StX noX w r w' [.row i.1 3 1 i.2.2.2.1.out.length (ints i.2.2.2.1.out),.row i.2.1 52 2 i.2.2.2.1.back.length (zX i.2.2.2.1.back),.row i.2.2.1 145 2 i.2.2.2.2.length (zX i.2.2.2.2.reverse),.cell b10 (ints i.2.2.2.1.st) 3])
  (fun i=>cfW n i.2.2.2) (.slice none 0 0,.slice none 0 0,.slice (some ⟨b12,0,none⟩) 1 1,(zA (yb n) 0,[(0,0)])) rfl ⟨hD,.refl,by simp only [zA,yb,List.length_singleton,List.length_nil];simp only [zA,yb] at hw0;omega,S⟩ ?_
 repeat clear S
 clear hD hw0
 rintro ⟨vo,vb,vs,⟨s,stk⟩⟩ d w4 ⟨hD,hM,hB,S⟩ K4 hK4
 simp only at hD hM hB S ⊢
 simp only [List.getD_cons_zero,List.getD_cons_succ]
 have hsl:=hD.len
 dsimp only at hsl
 cases stk with
 |nil=>
  obtain ⟨pv,capv,rfl,_⟩:=S.rowS vs
  refine gp_ ?_
  refine gp_ ?_
  refine c_f (by simp) ?_
  have hol : s.out.length<4611686018427387904:=by omega
  refine adu S hol fun w5 S=>?_
  rw [show s.out.length=s.out.reverse.length from List.length_reverse.symm] at S
  obtain ⟨s1,T,h1,_,ha1⟩:=S.doneRow zS (by decide) rfl
  obtain ⟨s2,U,h2,_,ha2⟩:=T.doneRow acQ (by decide) rfl
  exact h _ _ (s1.or s2) _ s U.ext (StX.newOf (q:=s1.or s2) U.reGh (Above.or' (fun b o ho=>(ha1 b o ho).resolve_right id) fun b o ho=>(ha2 b o ho).resolve_right id)) hM (h1.up' inferInstance fun _ _ h=>h) (h2.up' inferInstance fun _ _ h=>h)
 |cons x rest=>
  obtain ⟨q,i⟩:=x
  obtain ⟨hqN,hi0,hi1,_⟩:=hD.stack (q,i) List.mem_cons_self
  have q0:=hqN.1;have q1:=hqN.2
  dsimp only at q0 q1 hi0 hi1
  have hlr : ((q,i)::rest).length=rest.length+1:=rfl
  rw [List.reverse_cons] at S
  obtain ⟨bs,caps,cs,rfl,hc1,hc2,hc3,hc4,S⟩:=S.rowCellM vs (by simp)
  have hrl : rest.length=rest.reverse.length:=List.length_reverse.symm
  obtain ⟨ht1,ht2⟩:=aj2 hc4 (by rw [hlr,hrl])
  rw [← hrl] at ht1 ht2
  rw [hlr] at hc1 hB ⊢
  have hbig : rest.length+1≤1000000:=by omega
  refine gp_ ?_
  refine gp_ ?_
  refine c_t (by simp) ?_
  have S:=S.go (Ext.drew _)
  refine gp_ ?_
  refine gp_ ?_
  refine gp_ ?_
  refine n_some ?_
  refine gp_ ?_
  have ei : 0+((((rest.length+1 : Nat) : Int) - 1).toNat*2)=rest.length*2:=by omega
  rw [ei]
  refine S.ld (b:=bs) ?_ (by simpa using ht2)
  refine n_some ?_
  refine gp_ ?_
  refine S.ld (b:=bs) ?_ (by simpa using ht1)
  obtain ⟨bn,on,u,hpE,_,hcn,hu⟩:=vX hn (i:=q.toNat) (by omega)
  subst hpE
  have hnx : nxt n q=n[q.toNat]:=xV hqN
  obtain ⟨pu,capu,rfl,_,_⟩:=hu.sl.shape
  have hul : n[q.toNat].length≤2:=hnar _ (List.getElem_mem _)
  rw [hnx] at hi1
  refine gp_ ?_
  refine zi (S.at hcn) ?_
  refine gp_ ?_
  refine gp_ ?_
  refine zj (fun he=>?_) (fun hne=>?_)
  ·have hle : (nxt n q).length≤i.toNat:=by rw [hnx];omega
   have hs:=afu (s:=s) (r:=rest) hle
   obtain ⟨hD',hW'⟩:=hD.step hok hs
   refine n_some ?_
   refine gp_ ?_
   refine S.ld (b:=bs) ?_ (by simpa using ht1)
   refine gp_ ?_
   refine S.st (b:=b10) (fun w5 S=>?_) (by rw [zI];omega)
   rw [ZB q0] at S
   refine n_some ?_
   refine gp_ ?_
   refine S.ld (b:=bs) ?_ (by simpa using ht1)
   refine S.lit (e:=3) (cs:=[.int .i64 q]) (by kernel_rfl) fun b20 w6 S=>?_
   refine S.ap (v:=vo) (m':=1) (Sl.blk (S.blk b20)) (fun v4 w7 S=>?_) (by omega)
   have S:=S.drop b20
   refine gp_ ?_
   refine gp_ ?_
   refine gp_ ?_
   have S:=S.cellRowM (b:=bs) rest.length 2 caps hc3 (by omega) hc2
   rw [hrl,ajd hc4 (by rw [hlr,hrl]),← hrl] at S
   rw [show (((rest.length+1 : Nat) : Int) - 1).toNat=rest.length by omega]
   refine hK4 (v4,vb,_,(leave s q,rest)) _ ⟨hD',hM.tail hs,?_,?_⟩ hW'
   ·simp only [leave,List.length_append,List.length_singleton] at hW' ⊢
    omega
   ·simp only [leave,List.length_append,List.length_singleton,yo]
    exact S
  have S:=S.go (Ext.drew _)
  have hnle : ¬ (nxt n q).length≤i.toNat:=by rw [hnx];omega
  have hilt : i.toNat<n[q.toNat].length:=by omega
  obtain ⟨bu,ou,rfl,_,hcu⟩:=zE hu.sl hilt
  have hpd : (nxt n q).getD i.toNat 0=n[q.toNat][i.toNat]:=by rw [hnx,List.getD_eq_getElem?_getD,List.getElem?_eq_getElem hilt];rfl
  have hpN : isN n n[q.toNat][i.toNat]:=hok _ (List.getElem_mem _) _ (List.getElem_mem hilt)
  generalize n[q.toNat][i.toNat]=y at hcu hpd hpN
  have y0:=hpN.1;have y1:=hpN.2
  refine n_some ?_
  refine gp_ ?_
  refine S.ld (b:=bs) ?_ (by simpa using ht1)
  refine gp_ ?_
  refine zi (S.at hcn) ?_
  refine n_some ?_
  refine gp_ ?_
  refine S.ld (b:=bs) ?_ (by simpa using ht2)
  refine gp_ ?_
  refine zi (S.at hcu) ?_
  refine n_some ?_
  refine gp_ ?_
  refine S.ld (b:=bs) ?_ (by simpa using ht2)
  refine gp_ ?_
  refine n_some ?_
  refine gp_ ?_
  refine S.st (b:=bs) (fun w5 S=>?_) (by rw [hc3];omega)
  have hts:=ajc (j:=i+1) hc4 (by rw [hlr,hrl])
  rw [← hrl] at hts
  have hq2 : (cs.set (rest.length*2+1) (.int .i64 (i+1)))[rest.length*2]? = some (.int .i64 q):=by
   rw [List.getElem?_set_ne (by omega)];exact ht1
  have hc5 : (cs.set (rest.length*2+1) (.int .i64 (i+1))).length=caps*2:=by rw [List.length_set];exact hc3
  generalize cs.set (rest.length*2+1) (.int .i64 (i+1))=cs2 at S hts hq2 hc5
  have e3 : zX (rest.reverse ++ [(q,i+1)])=zX ((q,i+1)::rest).reverse:=by rw [List.reverse_cons]
  rw [hlr,e3] at hts
  refine gp_ ?_
  refine S.ld (b:=b10) ?_ (ahp (by omega))
  refine gp_ ?_
  refine zj (fun h1=>?_) (fun h1=>?_)
  ·have hs:=agy (r:=rest) hnle hpd h1
   obtain ⟨hD',hW'⟩:=hD.step hok hs
   refine n_some ?_
   refine gp_ ?_
   refine S.ld (b:=bs) ?_ (by simpa using hq2)
   refine zC (cs:=#[.int .i64 q,.int .i64 y]) (by kernel_rfl) ?_
   refine S.lit (e:=52) (cs:=[.int .i64 q,.int .i64 y]) (by kernel_rfl) fun b20 w6 S=>?_
   refine S.ap (v:=vb) (m':=1) (Sl.blk (S.blk b20)) (fun v4 w7 S=>?_) (by omega)
   have S:=S.drop b20
   have S:=S.cellRowM (b:=bs) (rest.length+1) 2 caps hc5 hc1 hc2
   rw [hts] at S
   refine hK4 (vo,v4,_,(xw s q y,(q,i+1)::rest)) _ ⟨hD',hM.tail hs,?_,?_⟩ hW'
   ·simp only [xw,List.length_append,List.length_cons,List.length_nil] at hW' ⊢
    omega
   ·simp only [xw,List.length_append,List.length_singleton,kG]
    exact S
  refine gp_ ?_
  refine zj (fun h0'=>?_) (fun h0'=>?_)
  ·have hs:=agz (r:=rest) hnle hpd h1 h0'
   obtain ⟨hD',hW'⟩:=hD.step hok hs
   refine gp_ ?_
   refine S.st (b:=b10) (fun w6 S=>?_) (by rw [zI];omega)
   rw [ZB y0] at S
   refine zC (cs:=#[.int .i64 y,.int .i64 0]) (by kernel_rfl) ?_
   have S:=S.cellRowM (b:=bs) (rest.length+1) 2 caps hc5 hc1 hc2
   rw [hts] at S
   refine S.lit (e:=145) (cs:=[.int .i64 y,.int .i64 0]) (by kernel_rfl) fun b20 w7 S=>?_
   refine S.ap (v:=.slice (some ⟨bs,0,none⟩) (rest.length+1) caps) (m':=1) (Sl.blk (S.blk b20)) (fun v4 w8 S=>?_) (by omega)
   have S:=S.drop b20
   refine hK4 (vo,vb,v4,(zA s y,(y,0)::(q,i+1)::rest)) _ ⟨hD',hM.tail hs,?_,?_⟩ hW'
   ·simp only [zA,List.length_cons] at hW' ⊢
    omega
   ·have e4 : zX ((y,0)::(q,i+1)::rest).reverse=zX ((q,i+1)::rest).reverse ++ [.int .i64 y,.int .i64 0]:=by rw [List.reverse_cons,kG]
    simp only [zA]
    rw [e4]
    exact S
  ·have hs:=agA (r:=rest) hnle hpd h1 h0'
   obtain ⟨hD',hW'⟩:=hD.step hok hs
   have S:=S.cellRowM (b:=bs) (rest.length+1) 2 caps hc5 hc1 hc2
   rw [hts] at S
   refine hK4 (vo,vb,_,(s,(q,i+1)::rest)) _ ⟨hD',hM.tail hs,?_,S⟩ hW'
   simp only [List.length_cons] at hW' ⊢
   omega
end Go.Proofs
end
section
namespace Go.Proofs
set_option linter.unusedVariables false
set_option linter.unusedSimpArgs false
def ltL : List Int→List Int→Prop
 |x::a,y::b=>x<y∨(x=y∧ltL a b)
 |_,_=>False
def leL (a b : List Int) : Prop:=a=b∨ltL a b
theorem afS : ∀ {a : List Int},¬ ltL a a
 |[],h=>h
 |x::a,h=>by
  rcases h with h|⟨_,h⟩
  ·omega
  ·exact afS h
theorem JA : ∀ {a b c : List Int},ltL a b→ltL b c→ltL a c
 |x::a,y::b,z::c,h,k=>by
  rcases h with h|⟨rfl,h⟩
  ·rcases k with k|⟨rfl,k⟩
   ·exact .inl (by omega)
   ·exact .inl h
  ·rcases k with k|⟨rfl,k⟩
   ·exact .inl k
   ·exact .inr ⟨rfl,JA h k⟩
theorem leL.refl {a : List Int} : leL a a:=.inl rfl
theorem acR {a b c : List Int} (h : leL a b) (k : leL b c) : leL a c:=by
 rcases h with rfl|h
 ·exact k
 rcases k with rfl|k
 ·exact .inr h
 ·exact .inr (JA h k)
theorem air {a b : List Int} (h : leL a b) (k : leL b a) : a=b:=by
 rcases h with rfl|h
 ·rfl
 rcases k with rfl|k
 ·rfl
 ·exact absurd (JA h k) afS
theorem J4 : ∀ {a b x y : List Int},ltL a b→a.length=b.length→ltL (a++x) (b++y)
 |x::a,y::b,_,_,h,hl=>by
  rcases h with h|⟨rfl,h⟩
  ·exact .inl h
  ·exact .inr ⟨rfl,J4 h (by simpa using hl)⟩
theorem ab4 : ∀ {a x y : List Int},ltL x y→ltL (a++x) (a++y)
 |[],_,_,h=>h
 |z::a,_,_,h=>.inr ⟨rfl,ab4 h⟩
theorem afT {a b x : List Int} (h : leL a b) (hl : a.length=b.length) : leL (a++x) (b++x):=by
 rcases h with rfl|h
 ·exact .inl rfl
 ·exact .inr (J4 h hl)
def Stp (n : zg) (W : List Int) (s q p : Int) : Prop:=(q=s∨q ∉ W)∧p ∈ nxt n q
def Pth (n : zg) (W : List Int) (s : Int) : Int→List Int→Int→Prop
 |x,[],t=>x=t
 |x,y::r,t=>Stp n W s x y∧Pth n W s y r t
theorem Pth.app {n : zg} {W : List Int} {s : Int} : ∀ {a b : List Int} {x t : Int},Pth n W s x (a++b) t↔∃ m,Pth n W s x a m∧Pth n W s m b t
 |[],b,x,t=>⟨fun h=>⟨x,rfl,h⟩,fun ⟨m,h,k⟩=>by have h : x=m:=h;rw [h];exact k⟩
 |y::a,b,x,t=>by
  rw [List.cons_append,Pth,Pth.app (a:=a)]
  constructor
  ·rintro ⟨h,m,h1,h2⟩;exact ⟨m,⟨h,h1⟩,h2⟩
  ·rintro ⟨m,⟨h,h1⟩,h2⟩;exact ⟨h,m,h1,h2⟩
def Vw (n : zg) (W : List Int) (s : Int) (w : List Int) (p : Int) : Prop:=∃ r,w=s::r∧Pth n W s s r p
theorem Vw.base {n : zg} {W : List Int} {s : Int} : Vw n W s [s] s:=⟨[],rfl,rfl⟩
theorem Vw.snoc {n : zg} {W : List Int} {s q p : Int} {w : List Int} (h : Vw n W s w q) (k : Stp n W s q p) : Vw n W s (w ++ [p]) p:=by
 obtain ⟨r,rfl,h⟩:=h
 exact ⟨r ++ [p],rfl,Pth.app.2 ⟨q,h,k,rfl⟩⟩
theorem Vw.last {n : zg} {W : List Int} {s p : Int} {w : List Int} (h : Vw n W s w p) : (w = [s]∧p=s)∨∃ u q,w=u ++ [p]∧Vw n W s u q∧Stp n W s q p:=by
 obtain ⟨r,rfl,h⟩:=h
 rcases List.eq_nil_or_concat r with rfl|⟨u,y,rfl⟩
 ·exact .inl ⟨rfl,Eq.symm h⟩
 ·rw [List.concat_eq_append] at h ⊢
  obtain ⟨m,h1,h2,h3⟩:=Pth.app.1 h
  have h3 : y=p:=h3
  subst h3
  exact .inr ⟨s::u,m,rfl,⟨u,rfl,h1⟩,h2⟩
theorem Vw.pos {n : zg} {W : List Int} {s p : Int} {w : List Int} (h : Vw n W s w p) : 1≤w.length:=by
 obtain ⟨r,rfl,_⟩:=h;simp
def MinW (n : zg) (W : List Int) (s p : Int) (w : List Int) : Prop:=Vw n W s w p∧∀ w',Vw n W s w' p→w.length≤w'.length∧(w'.length=w.length→leL w w')
theorem MinW.one {n : zg} {W : List Int} {s p : Int} {w w' : List Int} (h : MinW n W s p w) (k : MinW n W s p w') : w=w':=by
 have h1:=h.2 w' k.1
 have h2:=k.2 w h.1
 have hl : w'.length=w.length:=by omega
 exact air (h1.2 hl) (h2.2 hl.symm)
abbrev zU:=List (Int × List Int)
def getW (M : zU) (p : Int) : List Int:=(M.lookup p).getD []
theorem jC {M : zU} {p : Int} {w : List Int} : (M.map Prod.fst).Nodup→((p,w) ∈ M↔M.lookup p=some w):=by
 induction M with
 |nil=>intro _;simp
 |cons x M ih=>
  intro h
  obtain ⟨y,v⟩:=x
  have h':=List.nodup_cons.1 h
  have ih:=ih h'.2
  rw [List.lookup_cons,List.mem_cons]
  by_cases e : p=y
  ·subst e
   rw [show (p == p)=true by simp]
   simp only [Option.some.injEq,Prod.mk.injEq,true_and]
   constructor
   ·rintro (e|hm)
    ·exact e.symm
    ·exact absurd (List.mem_map.2 ⟨(p,w),hm,rfl⟩) h'.1
   ·rintro e;exact .inl e.symm
  ·rw [show (p == y)=false by simpa using e]
   simp only [Prod.mk.injEq,e,false_and,false_or]
   exact ih
theorem ais {M : zU} {p q : Int} {w : List Int} : (M ++ [(q,w)]).lookup p=(M.lookup p).or (if p=q then some w else none):=by
 induction M with
 |nil=>
  rw [List.nil_append,List.lookup_cons]
  by_cases e : p=q
  ·simp [e]
  ·rw [show (p == q)=false by simpa using e];simp [e]
 |cons x M ih=>
  obtain ⟨y,v⟩:=x
  rw [List.cons_append,List.lookup_cons,List.lookup_cons,ih]
  split<;>rfl
def yi (wq : List Int) (st : zU × List Int) (p : Int) : zU × List Int:=if (st.1.lookup p).isSome then st else (st.1 ++ [(p,wq ++ [p])],st.2 ++ [p])
structure Fw (n : zg) (W : List Int) (s : Int) (k : Nat) (M : zU) (L : List Int) : Prop where
 min : ∀ p w,(p,w) ∈ M→isN n p∧MinW n W s p w∧w.length≤k+1
 nod : (M.map Prod.fst).Nodup
 all : ∀ p w,Vw n W s w p→w.length≤k+1→(M.lookup p).isSome=true
 lev : ∀ p,p ∈ L↔∃ w,(p,w) ∈ M∧w.length=k+1
 srt : L.Pairwise fun p p'=>ltL (getW M p) (getW M p')
theorem Fw.start {n : zg} {W : List Int} {s : Int} (hs : isN n s) : Fw n W s 0 [(s,[s])] [s]:=by
 refine ⟨fun p w h=>?_,by simp,fun p w h hl=>?_,fun p=>?_,by simp⟩
 ·simp only [List.mem_singleton,Prod.mk.injEq] at h
  obtain ⟨rfl,rfl⟩:=h
  refine ⟨hs,⟨.base,fun w' h'=>⟨h'.pos,fun hl=>?_⟩⟩,Nat.le_refl _⟩
  obtain ⟨r,rfl,_⟩:=h'
  have : r = []:=by simpa using hl
  subst this;exact .refl
 ·rcases h.last with ⟨_,rfl⟩|⟨u,q,rfl,h,_⟩
  ·simp
  ·have:=h.pos
   rw [List.length_append,List.length_singleton] at hl
   omega
 ·rw [List.mem_singleton]
  constructor
  ·rintro rfl;exact ⟨[p],by simp,rfl⟩
  ·rintro ⟨w,h,_⟩
   simp only [List.mem_singleton,Prod.mk.injEq] at h
   exact h.1
structure Md (n : zg) (W : List Int) (s : Int) (M0 : zU) (L : List Int) (cur : List Int→Prop) (M : zU) (nx : List Int) : Prop where
 app : ∃ N : zU,M=M0++N∧nx=N.map Prod.fst
 new : ∀ p w,(p,w) ∈ M→(p,w) ∈ M0∨(M0.lookup p=none∧(∃ q ∈ L,Stp n W s q p∧w=getW M0 q ++ [p])∧(∀ q ∈ L,Stp n W s q p→leL w (getW M0 q ++ [p])))
 nod : (M.map Prod.fst).Nodup
 srt : nx.Pairwise fun p p'=>ltL (getW M p) (getW M p')
 less : ∀ p ∈ nx,∀ x,cur x→ltL (getW M p) x
theorem ab5 {M : zU} {p : Int} {w : List Int} (hn : (M.map Prod.fst).Nodup) (h : (p,w) ∈ M) : getW M p=w:=by rw [getW,(jC hn).1 h];rfl
theorem ahr {M : zU} {p : Int} (h : M.lookup p=none) : p ∉ M.map Prod.fst:=by
 intro hm
 obtain ⟨⟨y,w⟩,hx,e⟩:=List.mem_map.1 hm
 have e : y=p:=e
 subst e
 rw [List.lookup_eq_none_iff] at h
 have:=h _ hx
 simp at this
theorem acS {M : zU} {p : Int} (h : (M.lookup p).isSome=true) : ∃ w,(p,w) ∈ M:=by
 induction M with
 |nil=>cases h
 |cons x M ih=>
  obtain ⟨y,v⟩:=x
  rw [List.lookup_cons] at h
  by_cases e : p=y
  ·subst e;exact ⟨v,List.mem_cons_self⟩
  ·rw [show (p == y)=false by simpa using e] at h
   obtain ⟨w,hw⟩:=ih h
   exact ⟨w,List.mem_cons_of_mem _ hw⟩
theorem Md.mono {n : zg} {W : List Int} {s : Int} {M0 : zU} {L : List Int} {cur cur' : List Int→Prop} {M : zU} {nx : List Int} (h : Md n W s M0 L cur M nx) (hc : ∀ x,cur' x→cur x) : Md n W s M0 L cur' M nx:=
 ⟨h.app,h.new,h.nod,h.srt,fun p hp x hx=>h.less p hp x (hc x hx)⟩
theorem ahs {M : zU} {N : zU} {p : Int} (h : (M.lookup p).isSome=true) : getW (M++N) p=getW M p:=by
 rw [getW,getW,List.lookup_append]
 cases hm : M.lookup p with
 |none=>rw [hm] at h;cases h
 |some w=>rfl
theorem aiP {M N : zU} {p : Int} (h : (M.lookup p).isSome=true) : ((M++N).lookup p).isSome=true:=by
 rw [List.lookup_append]
 cases hm : M.lookup p with
 |none=>rw [hm] at h;cases h
 |some w=>rfl
theorem Md.add {n : zg} {W : List Int} {s q p : Int} {M0 : zU} {L : List Int} {M : zU} {nx : List Int} {cur : List Int→Prop} (h : Md n W s M0 L cur M nx) (hc : cur (getW M0 q ++ [p]))
  (hq : q ∈ L) (hst : Stp n W s q p) (hmin : M.lookup p=none→∀ q' ∈ L,Stp n W s q' p→leL (getW M0 q ++ [p]) (getW M0 q' ++ [p])) :
  Md n W s M0 L (fun x=>cur x∧ltL (getW M0 q ++ [p]) x) (yi (getW M0 q) (M,nx) p).1 (yi (getW M0 q) (M,nx) p).2∧((yi (getW M0 q) (M,nx) p).1.lookup p).isSome=true∧(∀ x,(M.lookup x).isSome=true→((yi (getW M0 q) (M,nx) p).1.lookup x).isSome=true):=by
 rw [yi]
 cases hl : M.lookup p with
 |some w=>
  simp only [hl,Option.isSome_some,if_true]
  exact ⟨h.mono fun x hx=>hx.1,trivial,fun x hx=>hx⟩
 |none=>
  simp only [Option.isSome_none,Bool.false_eq_true,if_false,hl]
  have hnp:=ahr hl
  have hnodM : ((M ++ [(p,getW M0 q ++ [p])]).map Prod.fst).Nodup:=by
   rw [List.map_append,List.nodup_append]
   refine ⟨h.nod,by simp,fun a ha b hb=>?_⟩
   simp only [List.map_cons,List.map_nil,List.mem_singleton] at hb
   subst hb
   intro e;subst e;exact hnp ha
  have hM0 : M0.lookup p=none:=by
   obtain ⟨N,e,_⟩:=h.app
   rw [e,List.lookup_append,Option.or_eq_none_iff] at hl
   exact hl.1
  have hold : ∀ x ∈ nx,getW (M ++ [(p,getW M0 q ++ [p])]) x=getW M x:=fun x hx=>by
   obtain ⟨N,e,e2⟩:=h.app
   rw [e2] at hx
   obtain ⟨⟨y,w⟩,hy,e3⟩:=List.mem_map.1 hx
   have e3 : y=x:=e3
   subst e3
   have hyM : (y,w) ∈ M:=by rw [e];exact List.mem_append_right _ hy
   exact ahs (by rw [(jC h.nod).1 hyM];rfl)
  have hnew : getW (M ++ [(p,getW M0 q ++ [p])]) p=getW M0 q ++ [p]:=ab5 hnodM (by simp)
  refine ⟨⟨?_,fun p' w hm=>?_,hnodM,?_,fun p' hp' x hx=>?_⟩,?_,fun x hx=>aiP hx⟩
  ·obtain ⟨N,e,e2⟩:=h.app
   exact ⟨N ++ [(p,getW M0 q ++ [p])],by rw [e,List.append_assoc],by rw [e2];simp⟩
  ·rcases List.mem_append.1 hm with hm|hm
   ·exact h.new p' w hm
   ·simp only [List.mem_singleton,Prod.mk.injEq] at hm
    obtain ⟨rfl,rfl⟩:=hm
    exact .inr ⟨hM0,⟨q,hq,hst,rfl⟩,hmin hl⟩
  ·rw [List.pairwise_append]
   refine ⟨?_,by simp,fun a ha b hb=>?_⟩
   ·exact h.srt.imp_of_mem fun ha hb hh=>by rw [hold _ ha,hold _ hb];exact hh
   ·rw [List.mem_singleton.1 hb,hold a ha,hnew]
    exact h.less a ha _ hc
  ·rcases List.mem_append.1 hp' with hp'|hp'
   ·rw [hold p' hp'];exact h.less p' hp' x hx.1
   ·rw [List.mem_singleton.1 hp',hnew];exact hx.2
  ·rw [ais,if_pos rfl,hl];rfl
theorem Md.adds {n : zg} {W : List Int} {s q : Int} {M0 : zU} {L : List Int} (hq : q ∈ L) : ∀ {l : List Int} {M : zU} {nx : List Int} {cur : List Int→Prop},Md n W s M0 L cur M nx→(∀ p ∈ l,Stp n W s q p)→l.Pairwise (·≤·)→(∀ p ∈ l,cur (getW M0 q ++ [p])∨(M.lookup p).isSome=true)→
  (∀ p ∈ l,M.lookup p=none→∀ q' ∈ L,Stp n W s q' p→leL (getW M0 q ++ [p]) (getW M0 q' ++ [p]))→
  Md n W s M0 L (fun x=>cur x∧∀ p ∈ l,ltL (getW M0 q ++ [p]) x) (l.foldl (yi (getW M0 q)) (M,nx)).1 (l.foldl (yi (getW M0 q)) (M,nx)).2∧(∀ p ∈ l,((l.foldl (yi (getW M0 q)) (M,nx)).1.lookup p).isSome=true)∧
  (∀ x,(M.lookup x).isSome=true→((l.foldl (yi (getW M0 q)) (M,nx)).1.lookup x).isSome=true)
 |[],M,nx,cur,h,_,_,_,_=>⟨h.mono fun x hx=>hx.1,by simp,fun x hx=>hx⟩
 |p::l,M,nx,cur,h,hst,hs,hc,hmin=>by
  have hs':=List.pairwise_cons.1 hs
  rw [List.foldl_cons]
  have key : Md n W s M0 L (fun x=>cur x∧ltL (getW M0 q ++ [p]) x) (yi (getW M0 q) (M,nx) p).1 (yi (getW M0 q) (M,nx) p).2∧((yi (getW M0 q) (M,nx) p).1.lookup p).isSome=true∧(∀ x,(M.lookup x).isSome=true→((yi (getW M0 q) (M,nx) p).1.lookup x).isSome=true):=by
   rcases hc p List.mem_cons_self with hcp|hl
   ·exact h.add hcp hq (hst p List.mem_cons_self) (hmin p List.mem_cons_self)
   ·rw [yi]
    simp only [hl,if_true]
    exact ⟨h.mono fun x hx=>hx.1,trivial,fun x hx=>hx⟩
  obtain ⟨h1,h2,h3⟩:=key
  obtain ⟨k1,k2,k3⟩:=Md.adds hq (l:=l) h1 (fun x hx=>hst x (List.mem_cons_of_mem _ hx)) hs'.2 (fun x hx=>by
   rcases hc x (List.mem_cons_of_mem _ hx) with hcx|hlx
   ·have hle:=hs'.1 x hx
    by_cases e : x=p
    ·subst e;exact .inr h2
    ·exact .inl ⟨hcx,ab4 (.inl (by omega))⟩
   ·exact .inr (h3 x hlx)) (fun x hx hl=>hmin x (List.mem_cons_of_mem _ hx) (by
    cases hm : M.lookup x with
    |none=>rfl
    |some w=>have:=h3 x (by rw [hm];rfl);rw [hl] at this;cases this))
  refine ⟨k1.mono fun x hx=>⟨⟨hx.1,hx.2 p List.mem_cons_self⟩,fun y hy=>hx.2 y (List.mem_cons_of_mem _ hy)⟩,fun x hx=>?_,fun x hx=>k3 x (h3 x hx)⟩
  rcases List.mem_cons.1 hx with rfl|hx
  ·exact k3 _ h2
  ·exact k2 x hx
end Go.Proofs
end
section
namespace Go.Proofs
set_option linter.unusedVariables false
set_option linter.unusedSimpArgs false
def rndW (n : zg) (so : List Int→List Int) (W : List Int) (s : Int) (M : zU) (L : List Int) (st : zU × List Int) : zU × List Int:=
 L.foldl (fun st q=>if q≠s∧q ∈ W then st else (so (nxt n q)).foldl (yi (getW M q)) st) st
def abl (so : List Int→List Int) : Prop:=∀ l,(so l).Pairwise (·≤·)∧∀ x,x ∈ so l↔x ∈ l
theorem Fw.lenL {n : zg} {W : List Int} {s : Int} {k : Nat} {M : zU} {L : List Int} (h : Fw n W s k M L) {q : Int} (hq : q ∈ L) : (q,getW M q) ∈ M∧(getW M q).length=k+1:=by
 obtain ⟨w,hw,hl⟩:=(h.lev q).1 hq
 rw [ab5 h.nod hw];exact ⟨hw,hl⟩
theorem Fw.rnd {n : zg} {so : List Int→List Int} (hso : abl so) {W : List Int} {s : Int} {k : Nat} {M0 : zU} {L : List Int} (h : Fw n W s k M0 L) : ∀ {rest : List Int} {M : zU} {nx : List Int},(∃ done,L=done++rest∧∀ q ∈ done,∀ p,Stp n W s q p→(M.lookup p).isSome=true)→
  Md n W s M0 L (fun x=>∃ q ∈ rest,∃ p,x=getW M0 q ++ [p]) M nx→(∀ x,(M0.lookup x).isSome=true→(M.lookup x).isSome=true)→
  Md n W s M0 L (fun _=>False) (rndW n so W s M0 rest (M,nx)).1 (rndW n so W s M0 rest (M,nx)).2∧∀ q ∈ L,∀ p,Stp n W s q p→((rndW n so W s M0 rest (M,nx)).1.lookup p).isSome=true
 |[],M,nx,hd,hm,_=>by
  obtain ⟨done,e,hd⟩:=hd
  rw [List.append_nil] at e
  subst e
  exact ⟨hm.mono fun x hx=>hx.elim,hd⟩
 |q::rest,M,nx,hd,hm,h0=>by
  obtain ⟨done,e,hd⟩:=hd
  have hqL : q ∈ L:=by rw [e];simp
  have hsrt : ∀ q' ∈ rest,ltL (getW M0 q) (getW M0 q'):=fun q' hq'=>by
   have:=h.srt
   rw [e,List.pairwise_append] at this
   exact (List.pairwise_cons.1 this.2.1).1 q' hq'
  have hlen : ∀ q' ∈ L,(getW M0 q').length=k+1:=fun q' hq'=>(h.lenL hq').2
  have e' : L=(done ++ [q])++rest:=by rw [e];simp
  have hrL : ∀ q' ∈ rest,q' ∈ L:=fun q' hq'=>by rw [e];simp [hq']
  rw [rndW,List.foldl_cons]
  by_cases hsk : q≠s∧q ∈ W
  ·rw [if_pos hsk]
   refine Fw.rnd hso h (rest:=rest) ⟨done ++ [q],e',fun q' hq' p hp=>?_⟩ (hm.mono fun x ⟨q',hq',p,e⟩=>⟨q',List.mem_cons_of_mem _ hq',p,e⟩) h0
   rcases List.mem_append.1 hq' with hq'|hq'
   ·exact hd q' hq' p hp
   ·obtain rfl:=List.mem_singleton.1 hq'
    rcases hp.1 with h1|h1
    ·exact absurd h1 hsk.1
    ·exact absurd hsk.2 h1
  ·rw [if_neg hsk]
   have hst : ∀ p ∈ so (nxt n q),Stp n W s q p:=fun p hp=>by
    refine ⟨?_,((hso _).2 p).1 hp⟩
    by_cases e1 : q=s
    ·exact .inl e1
    ·exact .inr fun hw=>hsk ⟨e1,hw⟩
   obtain ⟨k1,k2,k3⟩:=Md.adds hqL (l:=so (nxt n q)) hm hst (hso _).1 (fun p hp=>.inl ⟨q,List.mem_cons_self,p,rfl⟩) fun p hp hl q' hq' hst'=>by
    rw [e] at hq'
    rcases List.mem_append.1 hq' with hq'|hq'
    ·have:=hd q' hq' p hst'
     rw [hl] at this;cases this
    rcases List.mem_cons.1 hq' with rfl|hq'
    ·exact .refl
    ·exact afT (.inr (hsrt q' hq')) (by rw [hlen q hqL,hlen q' (hrL q' hq')])
   refine Fw.rnd hso h (rest:=rest) ⟨done ++ [q],e',fun q' hq' p hp=>?_⟩ (k1.mono fun x ⟨q',hq',p,e⟩=>⟨⟨q',List.mem_cons_of_mem _ hq',p,e⟩,fun p' hp'=>?_⟩) fun x hx=>k3 x (h0 x hx)
   ·rcases List.mem_append.1 hq' with hq'|hq'
    ·exact k3 p (hd q' hq' p hp)
    ·obtain rfl:=List.mem_singleton.1 hq'
     exact k2 p (((hso _).2 p).2 hp.2)
   ·rw [e]
    exact J4 (hsrt q' hq') (by rw [hlen q hqL,hlen q' (hrL q' hq')])
theorem Fw.next {n : zg} (hn : ym n) {so : List Int→List Int} (hso : abl so) {W : List Int} {s : Int} {k : Nat} {M : zU} {L : List Int} (h : Fw n W s k M L) :
  Fw n W s (k+1) (rndW n so W s M L (M,[])).1 (rndW n so W s M L (M,[])).2∧M.length+(rndW n so W s M L (M,[])).2.length=(rndW n so W s M L (M,[])).1.length:=by
 obtain ⟨hm,hall⟩:=Fw.rnd hso h (rest:=L) (M:=M) (nx:=[]) ⟨[],rfl,fun q hq=>by cases hq⟩ ⟨⟨[],by simp,rfl⟩,fun p w hp=>.inl hp,h.nod,.nil,fun p hp=>by cases hp⟩ fun x hx=>hx
 generalize (rndW n so W s M L (M,[])).1=M' at *
 generalize (rndW n so W s M L (M,[])).2=nx at *
 obtain ⟨N,eN,eN2⟩:=hm.app
 have hlast : ∀ p w,Vw n W s w p→w.length≤k+2→M.lookup p=none→∃ u q,w=u ++ [p]∧Vw n W s u q∧Stp n W s q p∧q ∈ L∧u.length=k+1∧leL (getW M q) u:=fun p w hw hl hno=>by
  rcases hw.last with ⟨rfl,rfl⟩|⟨u,q,rfl,hu,hst⟩
  ·have:=h.all _ _ hw (by simp);rw [hno] at this;cases this
  ·rw [List.length_append,List.length_singleton] at hl
   obtain ⟨wq,hwq⟩:=acS (h.all q u hu (by omega))
   obtain ⟨_,hmq,hlq⟩:=h.min q wq hwq
   have h1:=hmq.2 u hu
   have hlt : ¬ wq.length≤k:=fun hle=>by
    have:=h.all p (wq ++ [p]) (hmq.1.snoc hst) (by rw [List.length_append,List.length_singleton];omega)
    rw [hno] at this;cases this
   have hul : u.length=k+1:=by omega
   refine ⟨u,q,rfl,hu,hst,(h.lev q).2 ⟨wq,hwq,by omega⟩,hul,?_⟩
   rw [ab5 h.nod hwq]
   exact h1.2 (by omega)
 have hNnew : ∀ p w,(p,w) ∈ N→M.lookup p=none∧w.length=k+2:=fun p w hp=>by
  have hpM : (p,w) ∈ M':=by rw [eN];exact List.mem_append_right _ hp
  have hno : M.lookup p=none:=by
   cases hl : M.lookup p with
   |none=>rfl
   |some v=>
    have h1:=(jC h.nod).2 hl
    have h2:=hm.nod
    rw [eN,List.map_append,List.nodup_append] at h2
    exact absurd rfl (h2.2.2 p (List.mem_map.2 ⟨_,h1,rfl⟩) p (List.mem_map.2 ⟨_,hp,rfl⟩))
  rcases hm.new p w hpM with h1|⟨_,⟨q,hq,hst,rfl⟩,_⟩
  ·rw [(jC h.nod).1 h1] at hno;cases hno
  ·exact ⟨hno,by rw [List.length_append,(h.lenL hq).2];rfl⟩
 refine ⟨⟨fun p w hp=>?_,hm.nod,fun p w hw hl=>?_,fun p=>?_,hm.srt⟩,by rw [eN,eN2];simp⟩
 ·rcases hm.new p w hp with h1|⟨hno,⟨q,hq,hst,rfl⟩,hle⟩
  ·obtain ⟨a,b,c⟩:=h.min p w h1
   exact ⟨a,b,by omega⟩
  ·obtain ⟨hqM,hql⟩:=h.lenL hq
   obtain ⟨hqN,hqm,_⟩:=h.min q _ hqM
   have hl2 : (getW M q ++ [p]).length=k+2:=by rw [List.length_append,hql];rfl
   refine ⟨yu hn hst.2,⟨hqm.1.snoc hst,fun w' hw'=>?_⟩,by omega⟩
   have hge : k+2≤w'.length:=by
    refine Nat.le_of_not_lt fun hlt=>?_
    have:=h.all p w' hw' (by omega)
    rw [hno] at this;cases this
   refine ⟨by omega,fun he=>?_⟩
   obtain ⟨u,q',rfl,hu,hst',hq',hul,hlu⟩:=hlast p w' hw' (by omega) hno
   exact acR (hle q' hq' hst') (afT hlu (by rw [(h.lenL hq').2,hul]))
 ·cases hno : M.lookup p with
  |some v=>rw [eN];exact aiP (by rw [hno];rfl)
  |none=>
   obtain ⟨u,q,rfl,hu,hst,hq,_,_⟩:=hlast p w hw hl hno
   exact hall q hq p hst
 ·rw [eN2]
  constructor
  ·intro hp
   obtain ⟨⟨y,w⟩,hy,e⟩:=List.mem_map.1 hp
   have e : y=p:=e
   subst e
   exact ⟨w,by rw [eN];exact List.mem_append_right _ hy,(hNnew y w hy).2⟩
  ·rintro ⟨w,hw,hl⟩
   rw [eN] at hw
   rcases List.mem_append.1 hw with hw|hw
   ·have:=(h.min p w hw).2.2;omega
   ·exact List.mem_map.2 ⟨_,hw,rfl⟩
theorem Fw.few {n : zg} {W : List Int} {s : Int} {k : Nat} {M : zU} {L : List Int} (h : Fw n W s k M L) : M.length≤n.length:=by
 have hsub : ∀ x ∈ (M.map Prod.fst).map Int.toNat,x ∈ List.range n.length:=fun x hx=>by
  obtain ⟨p,hp,rfl⟩:=List.mem_map.1 hx
  obtain ⟨⟨y,w⟩,hy,rfl⟩:=List.mem_map.1 hp
  have:=(h.min y w hy).1
  have h0:=this.1;have h1:=this.2
  exact List.mem_range.2 (by show y.toNat<_;omega)
 have hnd : ((M.map Prod.fst).map Int.toNat).Nodup:=by
  rw [List.Nodup,List.pairwise_map]
  refine h.nod.imp_of_mem fun {a b} ha hb hab e=>?_
  obtain ⟨⟨y,w⟩,hy,rfl⟩:=List.mem_map.1 ha
  obtain ⟨⟨z,v⟩,hz,rfl⟩:=List.mem_map.1 hb
  have h1:=(h.min y w hy).1.1
  have h2:=(h.min z v hz).1.1
  dsimp only at e hab
  omega
 have : ∀ {a b : List Nat},a.Nodup→(∀ x ∈ a,x ∈ b)→a.length≤b.length:=by
  intro a
  induction a with
  |nil=>intro b _ _;exact Nat.zero_le _
  |cons x a ih=>
   intro b hn hs
   have hn':=List.nodup_cons.1 hn
   have hx:=hs x List.mem_cons_self
   have:=ih (b:=b.erase x) hn'.2 fun y hy=>by
    have hne : y≠x:=fun e=>hn'.1 (e ▸ hy)
    exact (List.mem_erase_of_ne hne).2 (hs y (List.mem_cons_of_mem _ hy))
   rw [List.length_erase_of_mem hx] at this
   have hp : 0<b.length:=List.length_pos_of_mem hx
   rw [List.length_cons];omega
 have:=this hnd hsub
 simpa using this
theorem Fw.end {n : zg} {W : List Int} {s : Int} {k : Nat} {M : zU} (h : Fw n W s k M []) {p : Int} {w : List Int} (hw : Vw n W s w p) : (M.lookup p).isSome=true:=by
 obtain ⟨m,hm⟩ : ∃ m,w.length=m:=⟨_,rfl⟩
 induction m generalizing p w with
 |zero=>have:=hw.pos;omega
 |succ m ih=>
  rcases hw.last with ⟨rfl,rfl⟩|⟨u,q,rfl,hu,hst⟩
  ·exact h.all _ _ hw (by simp)
  ·rw [List.length_append,List.length_singleton] at hm
   obtain ⟨wq,hwq⟩:=acS (ih hu (by omega))
   obtain ⟨_,hmq,hlq⟩:=h.min q wq hwq
   have hne : wq.length≠k+1:=fun e=>by
    have:=(h.lev q).2 ⟨wq,hwq,e⟩
    cases this
   exact h.all p (wq ++ [p]) (hmq.1.snoc hst) (by rw [List.length_append,List.length_singleton];omega)
noncomputable def jD (n : zg) (s t : Int) (W : List Int) : Option (List Int):=by
 classical exact if h : ∃ w,MinW n W s t w then some h.choose else none
theorem Xl {n : zg} {W : List Int} {s t : Int} {w : List Int} : jD n s t W=some w↔MinW n W s t w:=by
 rw [jD]
 constructor
 ·intro h
  split at h
  ·rename_i hx;cases h;exact hx.choose_spec
  ·cases h
 ·intro h
  rw [dif_pos ⟨w,h⟩]
  congr 1
  exact MinW.one (Exists.choose_spec (⟨w,h⟩ : ∃ w,MinW n W s t w)) h
theorem acT {n : zg} {W : List Int} {s t : Int} (h : ∀ w,¬ Vw n W s w t) : jD n s t W=none:=by
 cases hw : jD n s t W with
 |none=>rfl
 |some w=>exact absurd (Xl.1 hw).1 (h w)
theorem Fw.found {n : zg} {W : List Int} {s t : Int} {k : Nat} {M : zU} {L : List Int} (h : Fw n W s k M L) (he : L = []∨(M.lookup t).isSome=true) : M.lookup t=jD n s t W:=by
 cases hl : M.lookup t with
 |some w=>exact (Xl.2 (h.min t w ((jC h.nod).2 hl)).2.1).symm
 |none=>
  rcases he with rfl|he
  ·refine (acT fun w hw=>?_).symm
   have:=h.end hw
   rw [hl] at this;cases this
  ·rw [hl] at he;cases he
end Go.Proofs
end
section
namespace Go.Proofs
set_option linter.unusedVariables false
set_option linter.unusedSimpArgs false
def faA (far : List Int) (x : Int) : Int:=far.getD x.toNat (-1)
theorem J5 {far : List Int} {x y v : Int} (hx : 0≤x) (hx2 : x<far.length) (hy : 0≤y) : faA (far.set x.toNat v) y=if y=x then v else faA far y:=by
 rw [faA,List.getD_eq_getElem?_getD,List.getElem?_set]
 by_cases h : y=x
 ·subst h;rw [if_pos rfl,if_pos rfl,if_pos (by omega)];rfl
 ·rw [if_neg (by omega),if_neg h,faA,List.getD_eq_getElem?_getD]
def xN (W : List Int) (s : Int) (y : Int) (st : List Int × List Int) (x : Int) : List Int × List Int:=
 if faA st.1 x<0∧(x ∉ W∨x=s) then (st.1.set x.toNat (faA st.1 y+1),if x=s then st.2 else st.2 ++ [x]) else st
structure Bk (n : zg) (W : List Int) (s t : Int) (far todo : List Int) (m : Int) (P : Int→Int→Prop) : Prop where
 len : far.length=n.length
 td : ∀ x ∈ todo,isN n x∧x≠s∧0≤faA far x
 inn : ∀ x,isN n x→0≤faA far x→x=s∨x ∈ todo
 val : ∀ x,isN n x→-1≤faA far x
 snd : ∀ x,isN n x→0<faA far x→(x=s∨x ∉ W)∧∃ y ∈ todo,y ∈ nxt n x∧faA far y+1=faA far x
 zer : ∀ x,isN n x→faA far x=0→x=t
 tt : t ∈ todo∧faA far t=0
 srt : todo.Pairwise fun a b=>faA far a≤faA far b
 lim : ∀ x,isN n x→faA far x≤m+1
 cls : ∀ y x,P y x→y ∈ todo∧(isN n x→(x=s∨x ∉ W)→0≤faA far x∧faA far x≤faA far y+1)
theorem Bk.start {n : zg} {W : List Int} {s t : Int} (ht : isN n t) (hs : t≠s) : Bk n W s t ((List.replicate n.length (-1)).set t.toNat 0) [t] 0 (fun _ _=>False):=by
 have e : ∀ x,isN n x→faA ((List.replicate n.length (-1)).set t.toNat 0) x=if x=t then 0 else -1:=fun x hx=>by
  rw [J5 ht.1 (by rw [List.length_replicate];exact ht.2) hx.1]
  split
  ·rfl
  ·rw [faA,List.getD_eq_getElem?_getD,List.getElem?_replicate];split<;>rfl
 refine ⟨by simp,fun x hx=>?_,fun x hx h=>?_,fun x hx=>?_,fun x hx h=>?_,fun x hx h=>?_,⟨by simp,by rw [e t ht,if_pos rfl]⟩,by simp,fun x hx=>?_,fun y x h=>h.elim⟩
 ·obtain rfl:=List.mem_singleton.1 hx
  exact ⟨ht,hs,by rw [e x ht,if_pos rfl];decide⟩
 ·rw [e x hx] at h
  split at h
  ·rename_i h';subst h';exact .inr (by simp)
  ·omega
 ·rw [e x hx];split<;>omega
 ·rw [e x hx] at h;split at h<;>omega
 ·rw [e x hx] at h
  split at h
  ·assumption
  ·omega
 ·rw [e x hx];split<;>omega
theorem ab6 : ∀ {far : List Int} {k : Nat} {v : Int} (hk : k<far.length),far[k]<0→¬ v<0→(far.set k v).countP (fun v=>decide (v<0))+1=far.countP (fun v=>decide (v<0))
 |[],k,v,hk,_,_=>by simp at hk
 |a::l,0,v,hk,h,hv=>by
  simp only [List.getElem_cons_zero] at h
  simp [h,hv]
 |a::l,k+1,v,hk,h,hv=>by
  simp only [List.getElem_cons_succ,List.length_cons] at h hk
  have:=ab6 (far:=l) (k:=k) (v:=v) (by omega) h hv
  simp only [List.set_cons_succ,List.countP_cons]
  omega
theorem Bk.put {n : zg} {W : List Int} {s t : Int} {far todo : List Int} {m : Int} {P : Int→Int→Prop} (h : Bk n W s t far todo m P) {x y : Int} (hy : y ∈ todo) (hm : faA far y=m) (hx : isN n x) (he : y ∈ nxt n x) :
  Bk n W s t (xN W s y (far,todo) x).1 (xN W s y (far,todo) x).2 m (fun y' x'=>P y' x'∨(y'=y∧x'=x))∧faA (xN W s y (far,todo) x).1 y=m∧todo <+: (xN W s y (far,todo) x).2∧
  (xN W s y (far,todo) x).1.countP (fun v=>decide (v<0))+(xN W s y (far,todo) x).2.length≤far.countP (fun v=>decide (v<0))+todo.length:=by
 rw [xN]
 dsimp only
 split
 ·rename_i hc
  obtain ⟨hc1,hc2⟩:=hc
  have x0:=hx.1
  have x1 : x<far.length:=by rw [h.len];exact hx.2
  have hset : ∀ z,0≤z→faA (far.set x.toNat (faA far y+1)) z=if z=x then m+1 else faA far z:=fun z hz=>by rw [J5 x0 x1 hz,hm]
  have hxt : ∀ z ∈ todo,z≠x:=fun z hz e=>by have:=(h.td z hz).2.2;rw [e] at this;omega
  have hold : ∀ z ∈ todo,faA (far.set x.toNat (faA far y+1)) z=faA far z:=fun z hz=>by rw [hset z (h.td z hz).1.1,if_neg (hxt z hz)]
  have hm0 : 0≤m:=by rw [← hm];exact (h.td y hy).2.2
  have hmem : ∀ z,z ∈ (if x=s then todo else todo ++ [x])↔z ∈ todo∨(z=x∧x≠s):=fun z=>by
   split
   ·rename_i e;simp [e]
   ·rename_i e;simp [e]
  refine ⟨⟨by rw [List.length_set];exact h.len,fun z hz=>?_,fun z hz h0=>?_,fun z hz=>?_,fun z hz h0=>?_,fun z hz h0=>?_,⟨(hmem t).2 (.inl h.tt.1),by rw [hold t h.tt.1];exact h.tt.2⟩,?_,fun z hz=>?_,fun y' x' hp=>?_⟩,by rw [hold y hy];exact hm,?_,?_⟩
  ·rcases (hmem z).1 hz with hz|⟨rfl,hz⟩
   ·rw [hold z hz];exact h.td z hz
   ·exact ⟨hx,hz,by rw [hset z x0,if_pos rfl];omega⟩
  ·rw [hset z hz.1] at h0
   by_cases e : z=x
   ·by_cases es : x=s
    ·exact .inl (e.trans es)
    ·exact .inr ((hmem z).2 (.inr ⟨e,es⟩))
   ·rw [if_neg e] at h0
    rcases h.inn z hz h0 with h1|h1
    ·exact .inl h1
    ·exact .inr ((hmem z).2 (.inl h1))
  ·rw [hset z hz.1]
   split
   ·omega
   ·exact h.val z hz
  ·rw [hset z hz.1] at h0 ⊢
   by_cases e : z=x
   ·subst e
    rw [if_pos rfl]
    exact ⟨hc2.symm,y,(hmem y).2 (.inl hy),he,by rw [hold y hy,hm]⟩
   ·rw [if_neg e] at h0 ⊢
    obtain ⟨a,y',b,c,d⟩:=h.snd z hz h0
    exact ⟨a,y',(hmem y').2 (.inl b),c,by rw [hold y' b];exact d⟩
  ·rw [hset z hz.1] at h0
   split at h0
   ·omega
   ·exact h.zer z hz h0
  ·have hs1 : todo.Pairwise fun a b=>faA (far.set x.toNat (faA far y+1)) a≤faA (far.set x.toNat (faA far y+1)) b:=h.srt.imp_of_mem fun ha hb hh=>by rw [hold _ ha,hold _ hb];exact hh
   split
   ·exact hs1
   ·rw [List.pairwise_append]
    refine ⟨hs1,by simp,fun a ha b hb=>?_⟩
    rw [List.mem_singleton.1 hb,hold a ha,hset x x0,if_pos rfl]
    exact h.lim a (h.td a ha).1
  ·rw [hset z hz.1]
   split
   ·exact Int.le_refl _
   ·exact h.lim z hz
  ·rcases hp with hp|⟨rfl,rfl⟩
   ·obtain ⟨a,b⟩:=h.cls y' x' hp
    refine ⟨(hmem y').2 (.inl a),fun hx' hel=>?_⟩
    obtain ⟨b1,b2⟩:=b hx' hel
    have : x'≠x:=fun e=>by rw [e] at b1;omega
    rw [hset x' hx'.1,if_neg this,hold y' a]
    exact ⟨b1,b2⟩
   ·refine ⟨(hmem y').2 (.inl hy),fun hx' hel=>?_⟩
    rw [hset x' x0,if_pos rfl,hold y' hy];omega
  ·split
   ·exact List.prefix_refl _
   ·exact List.prefix_append _ _
  ·have hcnt : (far.set x.toNat (faA far y+1)).countP (fun v=>decide (v<0))+1=far.countP (fun v=>decide (v<0)):=by
    have hgx : far[x.toNat]'(by omega)<0:=by
     have:=hc1
     rwa [faA,List.getD_eq_getElem?_getD,List.getElem?_eq_getElem (by omega),Option.getD_some] at this
    exact ab6 (by omega) hgx (by omega)
   split
   ·dsimp only;omega
   ·dsimp only;rw [List.length_append,List.length_singleton];omega
 ·rename_i hc
  refine ⟨{ h with cls:=fun y' x' hp=>?_ },hm,List.prefix_refl _,Nat.le_refl _⟩
  rcases hp with hp|⟨rfl,rfl⟩
  ·exact h.cls y' x' hp
  ·refine ⟨hy,fun hx' hel=>?_⟩
   have h1:=h.lim x' hx
   have : ¬ faA far x'<0:=fun hlt=>hc ⟨hlt,hel.symm⟩
   dsimp only
   omega
theorem Bk.next {n : zg} {W : List Int} {s t : Int} {far todo : List Int} {m m' : Int} {P : Int→Int→Prop} (h : Bk n W s t far todo m P) (hm : m≤m') : Bk n W s t far todo m' P:=
 { h with lim:=fun x hx=>by have:=h.lim x hx;omega }
theorem Bk.less {n : zg} {W : List Int} {s t : Int} {far todo : List Int} {m : Int} {P Q : Int→Int→Prop} (h : Bk n W s t far todo m P) (hq : ∀ y x,Q y x→P y x) : Bk n W s t far todo m Q:=
 { h with cls:=fun y x hp=>h.cls y x (hq y x hp) }
structure FarD (n : zg) (W : List Int) (s t : Int) (far : List Int) : Prop where
 val : ∀ x,isN n x→-1≤faA far x
 snd : ∀ x,isN n x→0<faA far x→(x=s∨x ∉ W)∧∃ y,y≠s∧y ∈ nxt n x∧faA far y+1=faA far x
 zer : ∀ x,isN n x→(faA far x=0↔x=t)
 cls : ∀ y x,isN n x→isN n y→y ∈ nxt n x→y≠s→0≤faA far y→(x=s∨x ∉ W)→0≤faA far x∧faA far x≤faA far y+1
theorem Bk.far {n : zg} {W : List Int} {s t : Int} {far todo : List Int} {m : Int} {P : Int→Int→Prop} (h : Bk n W s t far todo m P) (hP : ∀ y ∈ todo,∀ x,isN n x→y ∈ nxt n x→P y x) : FarD n W s t far:=
 ⟨h.val,fun x hx h0=>by
   obtain ⟨a,y,b,c,d⟩:=h.snd x hx h0
   exact ⟨a,y,(h.td y b).2.1,c,d⟩,
  fun x hx=>⟨h.zer x hx,fun e=>by rw [e];exact h.tt.2⟩,
  fun y x hx hy he hs h0 hel=>(h.cls y x (hP y ((h.inn y hy h0).resolve_left hs) x hx he)).2 hx hel⟩
theorem Pth.end1 {n : zg} {W : List Int} {s : Int} : ∀ {r : List Int} {x t t' : Int},Pth n W s x r t→Pth n W s x r t'→t=t'
 |[],x,t,t',h,k=>Eq.trans (Eq.symm h) k
 |y::r,x,t,t',h,k=>Pth.end1 h.2 k.2
theorem FarD.le {n : zg} (hn : ym n) {W : List Int} {s t : Int} {far : List Int} (h : FarD n W s t far) : ∀ {r : List Int} {x : Int},isN n x→Pth n W s x r t→s ∉ r→0≤faA far x∧faA far x≤r.length
 |[],x,hx,hp,_=>by
  have hp : x=t:=hp
  have:=(h.zer x hx).2 hp
  simp only [List.length_nil];omega
 |y::r,x,hx,hp,hs=>by
  rw [List.mem_cons,not_or] at hs
  have hy:=yu hn hp.1.2
  obtain ⟨a,b⟩:=FarD.le hn h hy hp.2 hs.2
  have:=h.cls y x hx hy hp.1.2 (fun e=>hs.1 e.symm) a hp.1.1
  simp only [List.length_cons];omega
theorem Pth.short {n : zg} {W : List Int} {s t : Int} : ∀ (k : Nat) {r : List Int},r.length≤k→Pth n W s s r t→∃ r',Pth n W s s r' t∧s ∉ r'∧r'.length≤r.length∧(s ∈ r→r'.length<r.length):=by
 intro k
 induction k with
 |zero=>
  intro r hr h
  have : r = []:=List.length_eq_zero_iff.1 (by omega)
  subst this
  exact ⟨[],h,by simp,Nat.le_refl _,fun h=>by cases h⟩
 |succ k ih=>
  intro r hr h
  by_cases hs : s ∈ r
  ·obtain ⟨a,b,rfl⟩:=List.append_of_mem hs
   obtain ⟨m,h1,h2⟩:=Pth.app.1 h
   simp only [List.length_append,List.length_cons] at hr
   obtain ⟨r',k1,k2,k3,_⟩:=ih (r:=b) (by omega) h2.2
   refine ⟨r',k1,k2,?_,fun _=>?_⟩<;>(simp only [List.length_append,List.length_cons];omega)
  ·exact ⟨r,h,hs,Nat.le_refl _,fun h=>absurd h hs⟩
theorem FarD.low {n : zg} (hn : ym n) {W : List Int} {s t : Int} {far : List Int} (h : FarD n W s t far) (hs : isN n s) {w : List Int} (hw : Vw n W s w t) : 0≤faA far s∧faA far s+1≤w.length∧((w.length : Int)=faA far s+1→s ∉ w.tail):=by
 obtain ⟨r,rfl,hp⟩:=hw
 obtain ⟨r',k1,k2,k3,k4⟩:=Pth.short r.length (Nat.le_refl _) hp
 obtain ⟨a,b⟩:=h.le hn hs k1 k2
 simp only [List.length_cons,List.tail_cons]
 refine ⟨a,by omega,fun e hm=>?_⟩
 have:=k4 hm
 omega
def bestF (far : List Int) (s at' : Int) (l : List Int) (b : Int) : Int:=l.foldl (fun b x=>if faA far x=faA far at' - 1∧x≠s∧(b<0∨x<b) then x else b) b
theorem afU {far : List Int} {s at' : Int} : ∀ {l : List Int} {b : Int},(∀ x ∈ l,0≤x)→(0≤b→bestF far s at' l b≤b)∧(0≤b→0≤bestF far s at' l b)∧((bestF far s at' l b=b)∨(bestF far s at' l b ∈ l∧faA far (bestF far s at' l b)=faA far at' - 1∧bestF far s at' l b≠s))∧
  (∀ x ∈ l,faA far x=faA far at' - 1→x≠s→0≤bestF far s at' l b∧bestF far s at' l b≤x)
 |[],b,_=>⟨fun _=>Int.le_refl _,id,.inl rfl,fun x hx=>by cases hx⟩
 |y::l,b,h=>by
  have ih:=afU (far:=far) (s:=s) (at':=at') (l:=l) (b:=if faA far y=faA far at' - 1∧y≠s∧(b<0∨y<b) then y else b) fun x hx=>h x (List.mem_cons_of_mem _ hx)
  have hy:=h y List.mem_cons_self
  have e : bestF far s at' (y::l) b=bestF far s at' l (if faA far y=faA far at' - 1∧y≠s∧(b<0∨y<b) then y else b):=rfl
  rw [e]
  generalize hr : bestF far s at' l (if faA far y=faA far at' - 1∧y≠s∧(b<0∨y<b) then y else b)=res at ih
  obtain ⟨i1,i2,i3,i4⟩:=ih
  by_cases hc : faA far y=faA far at' - 1∧y≠s∧(b<0∨y<b)
  ·rw [if_pos hc] at i1 i2 i3
   have j1:=i1 hy
   have j2:=i2 hy
   refine ⟨fun hb=>by have:=hc.2.2;omega,fun _=>j2,?_,fun x hx h1 h2=>?_⟩
   ·rcases i3 with e|⟨a,b,c⟩
    ·exact .inr ⟨by rw [e];exact List.mem_cons_self,by rw [e];exact hc.1,by rw [e];exact hc.2.1⟩
    ·exact .inr ⟨List.mem_cons_of_mem _ a,b,c⟩
   ·rcases List.mem_cons.1 hx with rfl|hx
    ·exact ⟨j2,j1⟩
    ·exact i4 x hx h1 h2
  ·rw [if_neg hc] at i1 i2 i3
   refine ⟨i1,i2,?_,fun x hx h1 h2=>?_⟩
   ·rcases i3 with e|⟨a,b,c⟩
    ·exact .inl e
    ·exact .inr ⟨List.mem_cons_of_mem _ a,b,c⟩
   ·rcases List.mem_cons.1 hx with rfl|hx
    ·have hb : 0≤b∧b≤x:=by
      refine Decidable.byContradiction fun hn=>hc ⟨h1,h2,?_⟩
      omega
     exact ⟨i2 hb.1,Int.le_trans (i1 hb.1) hb.2⟩
    ·exact i4 x hx h1 h2
structure Grd (n : zg) (W : List Int) (s t : Int) (far : List Int) (a : Int) (way : List Int) : Prop where
 at' : isN n a∧0≤faA far a
 vw : Vw n W s way a
 len : (way.length : Int)+faA far a=faA far s+1
 le : ∀ w',Vw n W s w' t→(w'.length : Int)=faA far s+1→leL way (w'.take way.length)
theorem Grd.start {n : zg} {W : List Int} {s t : Int} {far : List Int} (hs : isN n s) (h0 : 0≤faA far s) : Grd n W s t far s [s]:=
 ⟨⟨hs,h0⟩,.base,by simp only [List.length_singleton];omega,fun w' hw' _=>by obtain ⟨r,rfl,_⟩:=hw';exact .inl rfl⟩
theorem Grd.go {n : zg} (hn : ym n) {W : List Int} {s t : Int} {far : List Int} (hf : FarD n W s t far) (hs : isN n s) {a : Int} {way : List Int} (h : Grd n W s t far a way) (hat : a≠t) :
  Grd n W s t far (bestF far s a (nxt n a) (-1)) (way ++ [bestF far s a (nxt n a) (-1)])∧faA far (bestF far s a (nxt n a) (-1))+1=faA far a:=by
 have haz : 0<faA far a:=by
  have h1:=h.at'.2
  have h2 : faA far a≠0:=fun e=>hat ((hf.zer a h.at'.1).1 e)
  omega
 obtain ⟨hel,y,hys,hyn,hyf⟩:=hf.snd a h.at'.1 haz
 obtain ⟨_,_,b3,b4⟩:=afU (far:=far) (s:=s) (at':=a) (l:=nxt n a) (b:=-1) fun x hx=>(yu hn hx).1
 generalize bestF far s a (nxt n a) (-1)=b at b3 b4
 have hb0:=(b4 y hyn (by omega) hys).1
 obtain ⟨c1,c2,c3⟩:=b3.resolve_left fun e=>by omega
 have hbN:=yu hn c1
 refine ⟨⟨⟨hbN,by omega⟩,h.vw.snoc ⟨hel,c1⟩,by rw [List.length_append,List.length_singleton];have:=h.len;omega,fun w' hw' hl=>?_⟩,by omega⟩
 have hle:=h.le w' hw' hl
 have hlen:=h.len
 have hlt : way.length<w'.length:=by omega
 rw [List.length_append,List.length_singleton,List.take_succ_eq_append_getElem hlt]
 rcases hle with e|hle
 ·refine acR (b:=way ++ [w'[way.length]]) ?_ (by rw [← e];exact .inl rfl)
  obtain ⟨_,_,hns⟩:=hf.low hn hs hw'
  have hns:=hns hl
  obtain ⟨r,rfl,hp⟩:=hw'
  obtain ⟨ra,rfl,hpa⟩:=h.vw
  have hra : ra=r.take ra.length:=by
   simp only [List.length_cons,List.take_succ_cons,List.cons.injEq,true_and] at e
   exact e
  simp only [List.length_cons,List.tail_cons,List.getElem_cons_succ] at *
  have hrl : ra.length<r.length:=by omega
  have hsplit : r=ra++r[ra.length]::r.drop (ra.length+1):=by
   conv=>lhs;rw [← List.take_append_drop ra.length r,← hra,List.drop_eq_getElem_cons hrl]
  have hp2:=hp
  rw [hsplit] at hp2
  obtain ⟨m,h1,h2,h3⟩:=Pth.app.1 hp2
  have:=Pth.end1 h1 hpa
  subst this
  have hv : r[ra.length]≠s:=fun e=>hns (by rw [← e];exact List.getElem_mem hrl)
  have hvN:=yu hn h2.2
  obtain ⟨d1,d2⟩:=hf.le hn hvN h3 (fun hm=>hns (List.mem_of_mem_drop hm))
  rw [List.length_drop] at d2
  have d3:=hf.cls _ m h.at'.1 hvN h2.2 hv d1 hel
  have:=(b4 _ h2.2 (by omega) hv).2
  by_cases e2 : b=r[ra.length]
  ·rw [e2];exact .inl rfl
  ·exact .inr (ab4 (.inl (by omega)))
 ·exact .inr (J4 hle (by rw [List.length_take];omega))
theorem Grd.end {n : zg} (hn : ym n) {W : List Int} {s t : Int} {far : List Int} (hf : FarD n W s t far) (hs : isN n s) (ht : isN n t) {way : List Int} (h : Grd n W s t far t way) : jD n s t W=some way:=by
 have hl:=h.len
 rw [(hf.zer t ht).2 rfl] at hl
 refine Xl.2 ⟨h.vw,fun w' hw'=>?_⟩
 obtain ⟨_,h2,_⟩:=hf.low hn hs hw'
 refine ⟨by omega,fun e=>?_⟩
 have:=h.le w' hw' (by omega)
 rwa [List.take_of_length_le (by omega)] at this
theorem FarD.none {n : zg} (hn : ym n) {W : List Int} {s t : Int} {far : List Int} (hf : FarD n W s t far) (hs : isN n s) (h : faA far s<0) : jD n s t W=none:=
 acT fun w hw=>by have:=(hf.low hn hs hw).1;omega
theorem aht {n : zg} {W : List Int} {s : Int} : jD n s s W=some [s]:=by
 refine Xl.2 ⟨.base,fun w' h'=>⟨h'.pos,fun hl=>?_⟩⟩
 obtain ⟨r,rfl,_⟩:=h'
 have : r = []:=by simpa using hl
 subst this;exact .refl
end Go.Proofs
end
section
namespace Go.Proofs
set_option linter.unusedVariables false
set_option linter.unusedSimpArgs false
def kb (n : zg) : zg:=(List.range n.length).map fun i=>befN n (i : Nat)
theorem vY {n : zg} : (kb n).length=n.length:=by simp [kb]
theorem afV {n : zg} {q : Int} (hq : isN n q) : nxt (kb n) q=befN n q:=by
 have h0:=hq.1;have h1:=hq.2
 rw [nxt,kb,List.getD_eq_getElem?_getD,List.getElem?_map,List.getElem?_range (by omega)]
 simp [Int.toNat_of_nonneg h0]
theorem jV {n : zg} {q : Int} : isN (kb n) q↔isN n q:=by rw [isN,isN,vY]
theorem afW {n : zg} {p q : Int} (hq : isN n q) : p ∈ nxt (kb n) q↔isN n p∧q ∈ nxt n p:=by rw [afV hq,qY]
theorem aeP {n : zg} : ym (kb n):=fun l hl x hx=>by
 obtain ⟨i,hi,rfl⟩:=List.mem_map.1 hl
 exact jV.2 (qY.1 hx).1
theorem afX {n : zg} {stop : Int→Prop} {q q' x : Int} (h : Rchd n stop q' x) (he : q' ∈ nxt n q) (hs : ¬ stop q') : Rchd n stop q x:=by
 induction h with
 |base=>exact .step .base (.inl rfl) he
 |step h hq hp ih=>
  refine .step ih (.inr ?_) hp
  rcases hq with rfl|hq
  ·exact hs
  ·exact hq
theorem aje {n : zg} (hn : ym n) {to p q : Int} (hpN : isN n p) (hp : p≠to) (h : Rchd n (· = to) p q) (hq : q≠to) : Rchd (kb n) (· = to) q p:=by
 induction h with
 |base=>exact .base
 |@step y z h hy hz ih=>
  have hyt : y≠to:=by
   rcases hy with rfl|hy
   ·exact hp
   ·exact hy
  exact afX (ih hyt) ((afW (yu hn hz)).2 ⟨h.isN hn hpN,hz⟩) hyt
theorem ajf {n : zg} {to p q : Int} (hpN : isN n p) (hp : p≠to) (h : Rchd (kb n) (· = to) p q) (hq : q≠to) : Rchd n (· = to) q p:=by
 induction h with
 |base=>exact .base
 |@step y z h hy hz ih=>
  have hyt : y≠to:=by
   rcases hy with rfl|hy
   ·exact hp
   ·exact hy
  have hyN : isN n y:=jV.1 (h.isN aeP (jV.2 hpN))
  exact afX (ih hyt) ((afW hyN).1 hz).2 hyt
noncomputable def vB (n : zg) (s to : Int) : List Bool:=by
 classical exact (List.range n.length).map fun (i : Nat)=>decide ((i : Int)=to∨(s≠to∧(i : Int)≠to∧Rchd n (· = to) i s))
theorem qG {n : zg} {s to : Int} : (vB n s to).length=n.length:=by simp [vB]
theorem J6 {n : zg} {s to x : Int} (hx : isN n x) : mk' (vB n s to) x=true↔x=to∨(s≠to∧x≠to∧Rchd n (· = to) x s):=by
 have h0:=hx.1;have h1:=hx.2
 rw [mk',vB,List.getD_eq_getElem?_getD,List.getElem?_map,List.getElem?_range (by omega)]
 simp [Int.toNat_of_nonneg h0]
theorem ajg {n : zg} (hn : ym n) {s to : Int} {m : List Bool} (hs : isN n s) (hst : s≠to) (h : Bfs (kb n) (· = to) s (· = to) m []) : m=vB n s to:=by
 refine qj (by rw [h.len,vY,qG]) fun x h0 h1=>?_
 have hx : isN n x:=⟨h0,by rw [← vY,← h.len];exact h1⟩
 rw [Bool.eq_iff_iff,h.done aeP (jV.2 hs) h0,J6 hx]
 constructor
 ·rintro (e|hr)
  ·exact .inl e
  ·by_cases e : x=to
   ·exact .inl e
   ·exact .inr ⟨hst,e,ajf hs hst hr e⟩
 ·rintro (e|⟨_,e,hr⟩)
  ·exact .inl e
  ·exact .inr (aje hn hx e hr hst)
theorem ahu {n : zg} {s to : Int} (hs : isN n s) (ht : isN n to) (hst : s≠to) : Bfs (kb n) (· = to) s (· = to) (zy (zy (List.replicate n.length false) to) s) [s]:=by
 have e : ∀ x : Int,0≤x→mk' (zy (zy (List.replicate n.length false) to) s) x=(decide (x=s)||decide (x=to)):=fun x hx=>by
  rw [xt hs.1 (by rw [zG,List.length_replicate];exact hs.2) hx,xt ht.1 (by rw [List.length_replicate];exact ht.2) hx]
  have : mk' (List.replicate n.length false) x=false:=by
   rw [mk',List.getD_eq_getElem?_getD,List.getElem?_replicate]
   split<;>rfl
  rw [this,Bool.or_false]
 refine ⟨by rw [zG,zG,List.length_replicate,vY],by rw [e s hs.1];simp,fun x h0 hx=>by rw [e x h0];simp [hx],fun x hx=>?_,fun x h0 hx=>?_,fun x h0 hx hn=>?_⟩
 ·obtain rfl:=List.mem_singleton.1 hx
  exact ⟨jV.2 hs,by rw [e _ hs.1];simp,.base⟩
 ·rw [e x h0,Bool.or_eq_true,decide_eq_true_eq,decide_eq_true_eq] at hx
  rcases hx with rfl|hx
  ·exact .inr .base
  ·exact .inl hx
 ·rw [e x h0,Bool.or_eq_true,decide_eq_true_eq,decide_eq_true_eq] at hx
  rcases hx with rfl|rfl
  ·exact absurd List.mem_cons_self hn
  ·exact .inl ⟨fun e=>hst e.symm,rfl⟩
theorem ait {n : zg} {s : Int} (hs : isN n s) : zy (zy (List.replicate n.length false) s) s=vB n s s:=by
 refine qj (by rw [zG,zG,List.length_replicate,qG]) fun x h0 h1=>?_
 rw [zG,zG,List.length_replicate] at h1
 rw [Bool.eq_iff_iff,J6 ⟨h0,h1⟩,xt hs.1 (by rw [zG,List.length_replicate];exact hs.2) h0,xt hs.1 (by rw [List.length_replicate];exact hs.2) h0]
 have : mk' (List.replicate n.length false) x=false:=by
  rw [mk',List.getD_eq_getElem?_getD,List.getElem?_replicate]
  split<;>rfl
 rw [this]
 simp
end Go.Proofs
end
section
namespace Go.Proofs
set_option linter.unusedVariables false
set_option linter.unusedSimpArgs false
theorem aaj {n : zg} {a : Int} : Dom n a a:=.inl rfl
theorem aeQ {n : zg} {a : Int} (h : Dom n a 0) : a=0:=by
 rcases h with h|h|h
 ·exact h
 ·exact h
 ·exact absurd .base h
noncomputable def abvL (n : zg) (q : Int) : List Int:=match ku n q with|some m=>mkd m|none=>[]
theorem kc {n : zg} {q x : Int} : x ∈ abvL n q↔Rchd n zT 0 q∧isN n x∧Dom n x q:=by
 rw [abvL]
 cases h : ku n q with
 |none=>
  simp only [List.not_mem_nil,false_iff]
  rintro ⟨hr,_⟩
  obtain ⟨m,hm⟩:=afQ hr
  rw [h] at hm;cases hm
 |some m=>
  obtain ⟨hr,hl,hd⟩:=Js h
  simp only
  rw [abx]
  constructor
  ·rintro ⟨h0,hk⟩
   have hx : isN n x:=⟨h0,by have:=akk hk;omega⟩
   exact ⟨hr,hx,(hd x hx).1 hk⟩
  ·rintro ⟨_,hx,hdx⟩
   exact ⟨hx.1,(hd x hx).2 hdx⟩
theorem Zm {n : zg} {q : Int} : (abvL n q).Pairwise (· < ·):=by
 rw [abvL]
 split
 ·exact af8
 ·exact .nil
theorem abm {n : zg} {q : Int} : (abvL n q).Nodup:=Zm.imp fun h e=>by omega
theorem ab7 : ∀ {a b : List Int},a.Nodup→(∀ x ∈ a,x ∈ b)→a.length≤b.length
 |[],b,_,_=>Nat.zero_le _
 |x::a,b,hn,hs=>by
  have hn':=List.nodup_cons.1 hn
  have hx:=hs x List.mem_cons_self
  have:=ab7 (a:=a) (b:=b.erase x) hn'.2 fun y hy=>by
   have hne : y≠x:=fun e=>hn'.1 (e ▸ hy)
   exact (List.mem_erase_of_ne hne).2 (hs y (List.mem_cons_of_mem _ hy))
  rw [List.length_erase_of_mem hx] at this
  have hp : 0<b.length:=List.length_pos_of_mem hx
  rw [List.length_cons];omega
noncomputable def yP (n : zg) (q : Int) : Int:=(abvL n q).foldl (fun b p=>if p≠q∧((abvL n p).length : Int)=((abvL n q).length : Int) - 1 then p else b) (-1)
end Go.Proofs
end
section
namespace Go.Proofs
set_option linter.unusedVariables false
set_option linter.unusedSimpArgs false
theorem ajh {o : List Int} (hn : o.Nodup) {i j : Nat} (hi : i<o.length) (hj : j<o.length) : Bfr o.reverse o[j] o[i]↔i<j:=by
 have e : o=o.take i++o[i]::o.drop (i+1):=by
  conv=>lhs;rw [← List.take_append_drop i o,List.drop_eq_getElem_cons hi]
 have hq : o[i] ∉ o.drop (i+1):=fun hm=>by
  obtain ⟨k,hk,ek⟩:=List.getElem_of_mem hm
  rw [List.getElem_drop] at ek
  rw [List.length_drop] at hk
  exact List.pairwise_iff_getElem.1 hn i (i+1+k) hi (by omega) (by omega) ek.symm
 have e2 : o.reverse=(o.drop (i+1)).reverse++o[i]::(o.take i).reverse:=by
  conv=>lhs;rw [e]
  simp
 have e3 : o.reverse.takeWhile (fun y=>decide (y≠o[i]))=(o.drop (i+1)).reverse:=by
  rw [e2,List.takeWhile_append_of_pos (by
   intro a ha
   simp only [decide_eq_true_eq]
   intro h;subst h;exact hq (List.mem_reverse.1 ha))]
  simp
 rw [Bfr,e3,List.mem_reverse]
 constructor
 ·intro hm
  obtain ⟨k,hk,ek⟩:=List.getElem_of_mem hm
  rw [List.getElem_drop] at ek
  rw [List.length_drop] at hk
  refine Nat.lt_of_not_le fun hle=>?_
  exact List.pairwise_iff_getElem.1 hn j (i+1+k) hj (by omega) (by omega) ek.symm
 ·intro hlt
  rw [List.mem_iff_getElem]
  refine ⟨j - (i+1),by rw [List.length_drop];omega,?_⟩
  rw [List.getElem_drop]
  congr 1;omega
def ab8 (n : zg) (o : List Int) : List (Int × Int):=o.flatMap fun q=>(nxt n q).map fun p=>(q,p)
theorem acU {n : zg} (hnd : ∀ q,(nxt n q).Nodup) : ∀ {o : List Int},o.Nodup→(ab8 n o).Nodup
 |[],_=>.nil
 |q::o,h=>by
  have h':=List.nodup_cons.1 h
  rw [ab8,List.flatMap_cons,List.nodup_append]
  refine ⟨?_,acU hnd h'.2,fun a ha b hb=>?_⟩
  ·rw [List.Nodup,List.pairwise_map]
   exact (hnd q).imp fun h e=>h (congrArg Prod.snd e)
  ·obtain ⟨p,hp,rfl⟩:=List.mem_map.1 ha
   obtain ⟨q',hq',hb⟩:=List.mem_flatMap.1 hb
   obtain ⟨p',_,rfl⟩:=List.mem_map.1 hb
   intro e
   have : q=q':=congrArg Prod.fst e
   subst this;exact h'.1 hq'
theorem aak : ∀ {a b : List (Int × Int)},a.Nodup→(∀ x ∈ a,x ∈ b)→a.length≤b.length
 |[],b,_,_=>Nat.zero_le _
 |x::a,b,hn,hs=>by
  have hn':=List.nodup_cons.1 hn
  have hx:=hs x List.mem_cons_self
  have:=aak (a:=a) (b:=b.erase x) hn'.2 fun y hy=>by
   have hne : y≠x:=fun e=>hn'.1 (e ▸ hy)
   exact (List.mem_erase_of_ne hne).2 (hs y (List.mem_cons_of_mem _ hy))
  rw [List.length_erase_of_mem hx] at this
  have hp : 0<b.length:=List.length_pos_of_mem hx
  rw [List.length_cons];omega
theorem agB {n : zg} (hnd : ∀ q,(nxt n q).Nodup) {o : List Int} {b : List (Int × Int)} (h : abk n o b) : ((ab8 n o).filter fun e=>decide (e ∈ b)).length=b.length:=by
 refine Nat.le_antisymm (aak ((acU hnd h.nodup).filter _) fun x hx=>?_) (aak h.bnodup fun x hx=>?_)
 ·have:=(List.mem_filter.1 hx).2
  simpa using this
 ·rw [List.mem_filter]
  obtain ⟨h1,h2⟩:=h.edge x hx
  exact ⟨List.mem_flatMap.2 ⟨x.1,h1,List.mem_map.2 ⟨x.2,h2,rfl⟩⟩,by simpa using hx⟩
def n3 : zg:=[[1],[2],[]]
def n1 : zg:=[[0],[]]
theorem kH : ym n3:=by
 intro l hl x hx
 simp only [n3,List.mem_cons,List.not_mem_nil,or_false] at hl
 rcases hl with rfl|rfl|rfl
 ·obtain rfl:=List.mem_singleton.1 hx;exact ⟨by decide,by decide⟩
 ·obtain rfl:=List.mem_singleton.1 hx;exact ⟨by decide,by decide⟩
 ·cases hx
theorem aj3 : befN n3 2 = [1]:=by decide
theorem aj4 : xP n3 zT 1 = [false,true,true]:=by
 have h:=Bfs.start (n:=n3) (stop:=zT) (s:=1) ⟨by decide,by decide⟩
 have h:=h.go kH (.inl rfl)
 have h:=h.go kH (.inr id)
 exact (h.end kH ⟨by decide,by decide⟩).symm
theorem aji : xP n3 zT 0 = [true,true,true]:=by
 have h:=Bfs.start (n:=n3) (stop:=zT) (s:=0) ⟨by decide,by decide⟩
 have h:=h.go kH (.inl rfl)
 have h:=h.go kH (.inr id)
 have h:=h.go kH (.inr id)
 exact (h.end kH ⟨by decide,by decide⟩).symm
theorem aj5 : xP n3 (· = 1) 0 = [true,true,false]:=by
 have h:=Bfs.start (n:=n3) (stop:=(· = 1)) (s:=0) ⟨by decide,by decide⟩
 have h:=h.go kH (.inl rfl)
 have h:=h.skip ⟨by decide,rfl⟩
 exact (h.end kH ⟨by decide,by decide⟩).symm
theorem JB (x : Int) (hx : isN n3 x) : Rchd n3 zT 0 x:=(kQ hx).1 (by
 rw [aji]
 have:=hx.1;have h2 : x<3:=hx.2
 rcases (show x=0∨x=1∨x=2 by omega) with rfl|rfl|rfl<;>rfl)
theorem aj6 : Dom n3 1 2:=.inr (.inr fun h=>by
 have:=(kQ (n:=n3) (stop:=(· = 1)) (s:=0) (x:=2) ⟨by decide,by decide⟩).2 h
 rw [aj5] at this;cases this)
theorem JC : abvL n3 0 = [0]:=by
 have h : ∀ x ∈ abvL n3 0,x=0:=fun x hx=>aeQ (kc.1 hx).2.2
 have h0 : (0 : Int) ∈ abvL n3 0:=kc.2 ⟨.base,⟨by decide,by decide⟩,aaj⟩
 have hn:=abm (n:=n3) (q:=0)
 cases e : abvL n3 0 with
 |nil=>rw [e] at h0;cases h0
 |cons a l=>
  rw [e] at h hn
  have ha:=h a List.mem_cons_self
  cases l with
  |nil=>rw [ha]
  |cons b l=>
   have hb:=h b (by simp)
   rw [ha,hb] at hn
   simp at hn
theorem Ye : ∀ {l m : List Int},l.Pairwise (· < ·)→m.Pairwise (· < ·)→(∀ x,x ∈ l↔x ∈ m)→l=m
 |[],[],_,_,_=>rfl
 |[],y::m,_,_,h=>absurd ((h y).2 List.mem_cons_self) (by simp)
 |x::l,[],_,_,h=>absurd ((h x).1 List.mem_cons_self) (by simp)
 |x::l,y::m,hl,hm,h=>by
  have hl':=List.pairwise_cons.1 hl
  have hm':=List.pairwise_cons.1 hm
  have hxy : x=y:=by
   rcases List.mem_cons.1 ((h x).1 List.mem_cons_self) with e|h1
   ·exact e
   rcases List.mem_cons.1 ((h y).2 List.mem_cons_self) with e|h2
   ·exact e.symm
   have:=hl'.1 y h2;have:=hm'.1 x h1;omega
  subst hxy
  rw [Ye hl'.2 hm'.2 fun z=>?_]
  constructor
  ·intro hz
   rcases List.mem_cons.1 ((h z).1 (List.mem_cons_of_mem _ hz)) with e|hz'
   ·have:=hl'.1 z hz;omega
   ·exact hz'
  ·intro hz
   rcases List.mem_cons.1 ((h z).2 (List.mem_cons_of_mem _ hz)) with e|hz'
   ·have:=hm'.1 z hz;omega
   ·exact hz'
theorem J7 {x : Int} (hx : isN n3 x) : x=0∨x=1∨x=2:=by
 have:=hx.1;have h2 : x<3:=hx.2
 omega
theorem ajj : xP n3 (· = 2) 0 = [true,true,true]:=by
 have h:=Bfs.start (n:=n3) (stop:=(· = 2)) (s:=0) ⟨by decide,by decide⟩
 have h:=h.go kH (.inl rfl)
 have h:=h.go kH (.inr (by decide))
 have h:=h.skip ⟨by decide,rfl⟩
 exact (h.end kH ⟨by decide,by decide⟩).symm
theorem ahv : abvL n3 1 = [0,1]:=by
 refine Ye Zm (by decide) fun x=>?_
 rw [kc]
 constructor
 ·rintro ⟨_,hx,hd⟩
  rcases J7 hx with rfl|rfl|rfl
  ·decide
  ·decide
  ·exfalso
   rcases hd with e|e|hd
   ·exact absurd e (by decide)
   ·exact absurd e (by decide)
   ·exact hd ((kQ (n:=n3) (stop:=(· = 2)) (s:=0) (x:=1) ⟨by decide,by decide⟩).1 (by rw [ajj];rfl))
 ·intro h
  simp only [List.mem_cons,List.not_mem_nil,or_false] at h
  rcases h with rfl|rfl
  ·exact ⟨JB _ ⟨by decide,by decide⟩,⟨by decide,by decide⟩,.inr (.inl rfl)⟩
  ·exact ⟨JB _ ⟨by decide,by decide⟩,⟨by decide,by decide⟩,aaj⟩
theorem JD : abvL n3 2 = [0,1,2]:=by
 refine Ye Zm (by decide) fun x=>?_
 rw [kc]
 constructor
 ·rintro ⟨_,hx,hd⟩
  rcases J7 hx with rfl|rfl|rfl<;>decide
 ·intro h
  simp only [List.mem_cons,List.not_mem_nil,or_false] at h
  rcases h with rfl|rfl|rfl
  ·exact ⟨JB _ ⟨by decide,by decide⟩,⟨by decide,by decide⟩,.inr (.inl rfl)⟩
  ·exact ⟨JB _ ⟨by decide,by decide⟩,⟨by decide,by decide⟩,aj6⟩
  ·exact ⟨JB _ ⟨by decide,by decide⟩,⟨by decide,by decide⟩,aaj⟩
theorem ahw : yP n3 0 = -1:=by rw [yP,JC];simp
theorem ahx : yP n3 2=1:=by
 rw [yP,JD]
 simp [JC,ahv,JD]
theorem ajk : Mst n3 (zA (yb n3) 0,[(0,0)]) (⟨[2,2,2],[2,1,0],[]⟩,[]):=⟨5,rfl⟩
theorem ajl : Mst n1 (zA (yb n1) 0,[(0,0)]) (⟨[2,0],[0],[(0,0)]⟩,[]):=⟨2,rfl⟩
theorem ahy : jD n3 0 2 []=some [0,1,2]:=by
 have hs : isN n3 0:=⟨by decide,by decide⟩
 have hf : FarD n3 [] 0 2 [2,1,0]:=by
  have h:=Bk.start (n:=n3) (W:=[]) (s:=0) (t:=2) ⟨by decide,by decide⟩ (by decide)
  refine ⟨fun x hx=>?_,fun x hx h0=>?_,fun x hx=>?_,fun y x hx hy he hs h0 hel=>?_⟩
  ·rcases J7 hx with rfl|rfl|rfl<;>decide
  ·rcases J7 hx with rfl|rfl|rfl
   ·exact ⟨.inl rfl,1,by decide,by decide,by decide⟩
   ·exact ⟨.inr (by simp),2,by decide,by decide,by decide⟩
   ·exact absurd h0 (by decide)
  ·rcases J7 hx with rfl|rfl|rfl<;>decide
  ·rcases J7 hx with rfl|rfl|rfl
   ·obtain rfl : y=1:=by simpa [nxt,n3] using he
    decide
   ·obtain rfl : y=2:=by simpa [nxt,n3] using he
    decide
   ·simp [nxt,n3] at he
 have h:=Grd.start (n:=n3) (W:=[]) (t:=2) (far:=[2,1,0]) hs (by decide)
 have h:=(h.go kH hf hs (by decide)).1
 have h:=(h.go kH hf hs (by decide)).1
 exact h.end kH hf hs ⟨by decide,by decide⟩
end Go.Proofs
end
section
namespace Go.Sh
theorem ab9 {w : World} {b m x : Bool} {A1 : (List Value→World→Prop)→Prop} {A2 : (List Value→World→Prop)→World→Prop} {Z : Value→World→Prop}
  (h1 : ∀ K : List Value→World→Prop,K [.bool m] w→A1 K) (h2 : m=false→∀ K : List Value→World→Prop,K [.bool x] w→A2 K w) (hZ : Z (.bool (b&&(m||x))) w) :
  za (fun K=>gIf (.bool b) true (A1 K) (K [undef] w)) fun s212 _ w214=>
   za (fun K=>gIf (s212.getD 0 undef) false (A2 K w214) (K [undef] w214)) fun s216 _ w218=>
    za (fun K=>gIf (.bool b) true (zb (s212.getD 0 undef) (.bool true) (s216.getD 0 undef) fun t=>K [t] w218) (K [undef] w218)) fun s221 _ w223=>
     zb (.bool b) (s221.getD 0 undef) (.bool false) fun t=>Z t w223:=by
 cases b<;>cases m<;>cases x <;>
  (iterate 3 (intro K hK;first|refine hK _ _ fun _=>?_|refine h1 _ (hK _ _ fun _=>?_)|(refine h2 rfl _ (hK _ _ fun _=>?_))|refine ⟨_,rfl,hK _ _ fun _=>?_⟩)) <;>
  exact ⟨_,rfl,by simpa using hZ⟩
end Go.Sh
namespace Go.Proofs
open Go.Sh Go.RowKit
set_option maxRecDepth 100000
set_option linter.unusedSimpArgs false
set_option linter.unusedVariables false
def k0 (R : yH) (m : List Bool) (p : Int) : List Bool:=m.mapIdx fun i b=>b&&rwH R p (i : Nat)
theorem aal {R : yH} {m : List Bool} {p : Int} : (k0 R m p).length=m.length:=by simp [k0]
theorem ajm {R : yH} {m : List Bool} {p x : Int} (h0 : 0≤x) (h1 : x<m.length) : mk' (k0 R m p) x=(mk' m x&&rwH R p x):=by
 rw [mk',mk',k0,List.getD_eq_getElem?_getD,List.getD_eq_getElem?_getD,List.getElem?_mapIdx,List.getElem?_eq_getElem (by omega)]
 simp [Int.toNat_of_nonneg h0]
theorem Xm {R : yH} : ∀ {l : List Int} {m : List Bool},(l.foldl (k0 R) m).length=m.length
 |[],_=>rfl
 |p::l,m=>by rw [List.foldl_cons,Xm,aal]
theorem aeR {R : yH} {x : Int} (h0 : 0≤x) : ∀ {l : List Int} {m : List Bool},x<m.length→mk' (l.foldl (k0 R) m) x=(mk' m x&&l.all fun p=>rwH R p x)
 |[],m,h=>by simp
 |p::l,m,h=>by
  rw [List.foldl_cons,aeR h0 (by rw [aal];exact h),ajm h0 h,List.all_cons,Bool.and_assoc]
theorem aj7 {n : zg} {R : yH} {q : Int} (hq : isN n q) : zy ((befN n q).foldl (k0 R) (List.replicate n.length true)) q=rwF n R q:=by
 have hl : ((befN n q).foldl (k0 R) (List.replicate n.length true)).length=n.length:=by rw [Xm,List.length_replicate]
 refine qj (by rw [zG,hl,Yg]) fun x h0 h1=>?_
 rw [zG,hl] at h1
 rw [xt hq.1 (by rw [hl];exact hq.2) h0,aeR h0 (by rw [List.length_replicate];exact h1),Bool.eq_iff_iff,abg ⟨h0,h1⟩]
 have e : mk' (List.replicate n.length true) x=true:=by
  rw [mk',List.getD_eq_getElem?_getD,List.getElem?_replicate,if_pos (by omega)];rfl
 rw [e,Bool.true_and,Bool.or_eq_true,decide_eq_true_eq,List.all_eq_true]
theorem agC {n : zg} {o : List Int} {b : List (Int × Int)} (h : abk n o b) (h0 : 0<n.length) : ∃ hl : 0<o.length,o[0]=0:=by
 have hz : (0 : Int) ∈ o:=(h.mem 0).2 ⟨⟨Int.le_refl _,by omega⟩,.base⟩
 obtain ⟨j,hj,e⟩:=List.getElem_of_mem hz
 refine ⟨by omega,?_⟩
 by_cases hj0 : j=0
 ·subst hj0;exact e
 ·exfalso
  have:=h.dom o[0] (List.getElem_mem (by omega)) 0 (.inr (.inl rfl))
  rw [← e] at this
  exact this ((ajh h.nodup (i:=0) (j:=j) (by omega) hj).2 (by omega))
def RwC (r : Gh) (c : List Value) (o : Option (List Bool)) : Prop:=∃ u,c = [u]∧(o=none→u = .slice none 0 0)∧∀ m,o=some m→SlG 1 r xr u m
theorem RwC.up {r s : Gh} {c : List Value} {o : Option (List Bool)} (h : RwC r c o) [le : Le r s] : RwC s c o:=by
 obtain ⟨u,h1,h2,h3⟩:=h;exact ⟨u,h1,h2,fun m hm=>(h3 m hm).cells⟩
structure RwS (n : zg) (o : List Int) (i : Nat) (s : Gh) (c : List Value) (M : List Asr) : Prop where
 len : c.length=n.length
 one : i=0→M = []
 zero : 0<i→∃ b,M = [.cell b (bls (List.replicate n.length false)) 4]∧c[0]? = some (.slice (some ⟨b,0,none⟩) n.length n.length)
 oth : ∀ q : Int,isN n q→q≠0→∃ u,c[q.toNat]? = some u∧RwC s [u] (if q ∈ o.take i then some (List.replicate n.length true) else none)
theorem RwS.start {n : zg} {o : List Int} {s : Gh} : RwS n o 0 s (List.replicate n.length (.slice none 0 0)) []:=
 ⟨List.length_replicate,fun _=>rfl,fun h=>absurd h (Nat.lt_irrefl _),fun q hq _=>⟨.slice none 0 0,by rw [List.getElem?_replicate,if_pos (by have:=hq.1;have:=hq.2;omega)],_,rfl,fun _=>rfl,fun m hm=>by simp at hm⟩⟩
theorem RwS.first {n : zg} {o : List Int} {s : Gh} {c : List Value} {M : List Asr} (h : RwS n o 0 s c M) (hn : 0<n.length) (hl : 0<o.length) (ho : o[0]=0) (hnd : o.Nodup) (b : Nat) :
  RwS n o 1 s (c.set 0 (.slice (some ⟨b,0,none⟩) n.length n.length)) [.cell b (bls (List.replicate n.length false)) 4]:=by
 refine ⟨by rw [List.length_set];exact h.len,fun h=>absurd h (by decide),fun _=>⟨b,rfl,by rw [List.getElem?_set_self (by rw [h.len];exact hn)]⟩,fun q hq hq0=>?_⟩
 obtain ⟨u,h1,h2⟩:=h.oth q hq hq0
 refine ⟨u,by rw [List.getElem?_set_ne (by have:=hq.1;omega)];exact h1,?_⟩
 have e : o.take 1 = [0]:=by
  cases o with
  |nil=>simp at hl
  |cons a l=>simp only [List.getElem_cons_zero] at ho;rw [ho];rfl
 rw [e,if_neg (by simpa using hq0)]
 rw [List.take_zero,if_neg (by simp)] at h2
 exact h2
theorem RwS.next {n : zg} {o : List Int} {i : Nat} {s s' : Gh} {c : List Value} {M : List Asr} (h : RwS n o i s c M) [Le s s'] (hi : 0<i) (hil : i<o.length) (hq : isN n o[i]) (hq0 : o[i]≠0) {u : Value} (hu : SlG 1 s' xr u (List.replicate n.length true)) :
  RwS n o (i+1) s' (c.set o[i].toNat u) M:=by
 have q0:=hq.1;have q1:=hq.2
 refine ⟨by rw [List.length_set];exact h.len,fun h=>by omega,fun _=>?_,fun q hq' hq0'=>?_⟩
 ·obtain ⟨b,h1,h2⟩:=h.zero hi
  exact ⟨b,h1,by rw [List.getElem?_set_ne (by omega)];exact h2⟩
 ·have hm : q ∈ o.take (i+1)↔q ∈ o.take i∨q=o[i]:=by rw [List.take_succ_eq_append_getElem hil,List.mem_append,List.mem_singleton]
  by_cases e : q=o[i]
  ·refine ⟨u,by rw [e,List.getElem?_set_self (by rw [h.len];omega)],u,rfl,fun hh=>?_,fun m hh=>?_⟩
   ·rw [if_pos (hm.2 (.inr e))] at hh;cases hh
   ·rw [if_pos (hm.2 (.inr e))] at hh;cases hh;exact hu
  ·obtain ⟨u',h1,h2⟩:=h.oth q hq' hq0'
   have h3:=hq'.1
   refine ⟨u',by rw [List.getElem?_set_ne (by omega)];exact h1,?_⟩
   have h4 : (if q ∈ o.take (i+1) then some (List.replicate n.length true) else none)=(if q ∈ o.take i then some (List.replicate n.length true) else none):=by
    by_cases h5 : q ∈ o.take i
    ·rw [if_pos h5,if_pos (hm.2 (.inl h5))]
    ·rw [if_neg h5,if_neg fun h6=>(hm.1 h6).elim h5 e]
   rw [h4];exact h2.up
noncomputable def rows0 (n : zg) (o : List Int) : yH:=(List.range n.length).map fun (i : Nat)=>if i=0 then some (zy (List.replicate n.length false) 0) else if (i : Int) ∈ o then some (List.replicate n.length true) else none
theorem aam {n : zg} {o : List Int} {q : Int} (hq : isN n q) : rwA (rows0 n o) q=if q=0 then some (zy (List.replicate n.length false) 0) else if q ∈ o then some (List.replicate n.length true) else none:=by
 have h0:=hq.1;have h1:=hq.2
 rw [rwA,rows0,List.getD_eq_getElem?_getD,List.getElem?_map,List.getElem?_range (by omega)]
 simp only [Option.map_some,Option.getD_some,Int.toNat_of_nonneg h0]
 by_cases e : q=0
 ·rw [if_pos (by omega),if_pos e]
 ·rw [if_neg (by omega),if_neg e]
theorem ahz {n : zg} {o : List Int} {b : List (Int × Int)} (h : abk n o b) (h0 : 0<n.length) : Abv n (rows0 n o):=by
 refine Abv.start h0 (by simp [rows0]) ?_ fun q hq hq0=>?_
 ·rw [aam ⟨Int.le_refl _,by omega⟩,if_pos rfl]
 ·rw [aam hq,if_neg hq0]
  refine ⟨fun hr=>if_pos ((h.mem q).2 ⟨hq,hr⟩),fun hr=>if_neg fun hm=>hr ((h.mem q).1 hm).2⟩
theorem RwS.done {n : zg} {o : List Int} {s s' : Gh} {c : List Value} {M : List Asr} (h : RwS n o o.length s c M) [Le s s'] (hn : 0<n.length) {u : Value} (hu : c[0]? = some u) (hu0 : SlG 1 s' xr u (zy (List.replicate n.length false) 0)) : RowOf 1 (RwC s') c (rows0 n o):=by
 have hl : (rows0 n o).length=n.length:=by simp [rows0]
 refine ⟨by rw [h.len,hl,Nat.mul_one],fun j hj=>?_⟩
 have hjn : isN n (j : Int):=⟨Int.natCast_nonneg j,by omega⟩
 have e : (rows0 n o)[j]=rwA (rows0 n o) (j : Int):=by
  rw [rwA,Int.toNat_natCast,List.getD_eq_getElem?_getD,List.getElem?_eq_getElem hj];rfl
 have hjc : j<c.length:=by rw [h.len];omega
 have e2 : (c.drop (j*1)).take 1 = [c[j]]:=by
  rw [Nat.mul_one,List.drop_eq_getElem_cons hjc];rfl
 rw [e,e2,aam hjn]
 by_cases hj0 : (j : Int)=0
 ·have hj0' : j=0:=by omega
  subst hj0'
  rw [if_pos hj0]
  rw [List.getElem?_eq_getElem hjc] at hu
  cases hu
  exact ⟨_,rfl,fun h=>(by cases h),fun m hm=>by cases hm;exact hu0⟩
 ·rw [if_neg hj0]
  obtain ⟨v,h1,h2⟩:=h.oth j hjn hj0
  rw [List.take_length] at h2
  rw [Int.toNat_natCast,List.getElem?_eq_getElem hjc] at h1
  cases h1
  exact h2.up
theorem ahA {r : Gh} {c : List Value} {R : yH} (h : RowOf 1 (RwC r) c R) {q : Int} (hq : q.toNat<R.length) : ∃ u,c[q.toNat]? = some u∧RwC r [u] (rwA R q):=by
 have h2:=h.2 q.toNat hq
 have hl:=h.1
 have hc : q.toNat<c.length:=by omega
 rw [Nat.mul_one,List.drop_eq_getElem_cons hc,List.take_succ_cons,List.take_zero] at h2
 refine ⟨_,List.getElem?_eq_getElem hc,?_⟩
 rw [rwA,List.getD_eq_getElem?_getD,List.getElem?_eq_getElem hq];exact h2
theorem ajn {r s : Gh} {c : List Value} {R : yH} (h : RowOf 1 (RwC r) c R) [Le r s] {q : Int} {u : Value} {o : Option (List Bool)} (hu : RwC s [u] o) : RowOf 1 (RwC s) (c.set q.toNat u) (R.set q.toNat o):=by
 refine ⟨by rw [List.length_set,List.length_set];exact h.1,fun j hj=>?_⟩
 rw [List.length_set] at hj
 have hl:=h.1
 have hjc : j<c.length:=by omega
 have h2:=h.2 j hj
 rw [Nat.mul_one,List.drop_eq_getElem_cons hjc,List.take_succ_cons,List.take_zero] at h2
 rw [Nat.mul_one,List.drop_eq_getElem_cons (by rw [List.length_set];exact hjc),List.take_succ_cons,List.take_zero]
 by_cases e : q.toNat=j
 ·subst e
  rw [List.getElem_set_self,List.getElem_set_self];exact hu
 ·rw [List.getElem_set_ne e,List.getElem_set_ne e];exact h2.up
end Go.Proofs
end
section
namespace Go.Proofs
open Go.Sh Go.RowKit
set_option maxRecDepth 100000
set_option linter.unusedSimpArgs false
set_option linter.unusedVariables false
def aj8 (s : Gh) (v : Value) (R : yH) : Prop:=SlG 1 s (RwC s) v R
def aiu (n : zg) (o : List Int) (k : Nat) (R : yH) : Prop:=∀ j (hj : j<o.length),1≤j→j≤k→rwA R o[j]=some (rwF n R o[j])
theorem aeS {r : Gh} {u : Value} {o : Option (List Bool)} (h : RwC r [u] o) (hp : ∀ m,o=some m→0<m.length) : ∃ pp k cp,u = .slice pp k cp∧pp.isNone=o.isNone∧∀ m,o=some m→k=m.length∧∀ (i : Nat) (hi : i<m.length),∃ b off,pp=some ⟨b,off,none⟩∧Ob r fun w=>w.cell? ⟨b,off+i,none⟩=some (.bool m[i]):=by
 obtain ⟨u',e,h1,h2⟩:=h
 cases e
 cases o with
 |none=>exact ⟨none,0,0,h1 rfl,rfl,fun m hm=>by cases hm⟩
 |some m=>
  have hm:=h2 m rfl
  obtain ⟨pp,cp,rfl,_,_⟩:=hm.shape
  obtain ⟨b,off,rfl,_,_⟩:=jU hm (hp m rfl)
  refine ⟨_,_,_,rfl,rfl,fun m' e=>?_⟩
  cases e
  refine ⟨rfl,fun i hi=>?_⟩
  obtain ⟨b',off',hE,_,hc⟩:=jU hm hi
  exact ⟨b',off',hE,hc⟩
theorem aj9 {a m : List Bool} {i : Nat} (hl : a.length=m.length) (hi : i<m.length) : (bls (a.take i++m.drop i))[0+i]? = some (.bool m[i]):=by
 rw [Nat.zero_add,bls,List.getElem?_map,List.getElem?_append_right (by rw [List.length_take];omega),List.length_take,Nat.min_eq_left (by omega),Nat.sub_self,List.getElem?_drop,Nat.add_zero,List.getElem?_eq_getElem hi];rfl
theorem ajo {a m : List Bool} {i : Nat} (hl : a.length=m.length) (hi : i<m.length) : (bls (a.take i++m.drop i)).set (0+i) (.bool (a[i]'(by omega)))=bls (a.take (i+1)++m.drop (i+1)):=by
 have hia : i<a.length:=by omega
 have e1 : (a.take i).length=i:=by rw [List.length_take];omega
 rw [Nat.zero_add,bls,bls,← List.map_set,List.set_append_right _ _ (by omega),e1,Nat.sub_self,List.drop_eq_getElem_cons hi,List.set_cons_zero,List.take_succ_eq_append_getElem hia,List.append_assoc];rfl
set_option maxHeartbeats 4000000 in
theorem aca {n : zg} {v : Value} {w : World} {r : Gh} {K : Value→World→Prop} (hr : Holds r w) (hn : NetG r v n) (hok : ym n) (hnar : ab3 n) (hnd : ∀ q,(nxt n q).Nodup) (h0 : 0<n.length) (hf : n.length≤100000)
  (h : ∀ v' s w' R,Ext w w'→New w s w'→aj8 s v' R→R.length=n.length→(∀ q,isN n q→rwA R q=ku n q)→K v' w') : zd Tryz.prog Tryz.xF #[v] w K:=by
 refine Tryz.Vj ?_
 unfold Tryz.YJ
 have hn0:=hn
 obtain ⟨p,cap,rfl,_,_⟩:=hn.sl.shape
 have S:=St.start hr
 refine aeO hr hn hok hnar h0 hf fun vo vb so w1 st e1 n1 hM ho hb=>?_
 obtain ⟨S,_,ha1⟩:=S.tell e1 n1
 have hW:=aeN hok hnd h0 hM
 generalize st.out.reverse=o at ho hW
 generalize st.back=bk at hb hW
 clear hb hM
 obtain ⟨hol,hoz⟩:=agC hW h0
 have holen : o.length≤n.length:=by
  have:=ab7 (a:=o) (b:=(List.range n.length).map Int.ofNat) hW.nodup fun x hx=>by
   have hx':=((hW.mem x).1 hx).1
   have h1:=hx'.1;have h2:=hx'.2
   exact List.mem_map.2 ⟨x.toNat,List.mem_range.2 (by omega),Int.toNat_of_nonneg h1⟩
  simpa using this
 have hoN : ∀ (i : Nat) (hi : i<o.length),isN n o[i]:=fun i hi=>((hW.mem _).1 (List.getElem_mem hi)).1
 have hon0 : ∀ (i : Nat) (hi : i<o.length),0<i→o[i]≠0:=fun i hi hi0 e=>List.pairwise_iff_getElem.1 hW.nodup 0 i hol hi hi0 (hoz.trans e.symm)
 obtain ⟨po,capo,rfl,_,hcapo⟩:=ho.shape
 refine gg_ ?_
 refine S.mkS (by omega) (by omega) fun b24 w2 S=>?_
 rw [Int.toNat_natCast] at S ⊢
 refine gg_ ?_
 refine zh (ι:=Nat × Gh × List Value × List Asr) (fun i=>[.int .i64 (i.1 : Nat)]) (fun i w'=>i.1≤o.length∧Above w i.2.1∧RwS n o i.1 i.2.1 i.2.2.1 i.2.2.2∧StX noX w ((r.or so).or i.2.1) w' (.cell b24 i.2.2.1 75::i.2.2.2))
  (fun i=>o.length - i.1) (0,nothing,List.replicate n.length (.slice none 0 0),[]) rfl ⟨Nat.zero_le _,Above.no,RwS.start,S.to _⟩ ?_
 repeat clear S
 rintro ⟨i,s,c,M⟩ d w3 ⟨hi,ha,hR,S⟩ K3 hK3
 simp only at hi ha hR S ⊢
 rw [List.getD_cons_zero]
 refine gg_ ?_
 refine zj (fun hlt=>?_) (fun hge=>?_)
 ·have hlt : i<o.length:=by omega
  obtain ⟨bo,oo,hpo,_,hco⟩:=zE ho hlt
  subst hpo
  have hqN:=hoN i hlt
  have q0:=hqN.1;have q1:=hqN.2
  refine gg_ ?_
  refine zi (by rw [Int.toNat_natCast];exact S.at hco) ?_
  refine gg_ ?_
  refine S.lit (e:=4) (cs:=[.bool (decide (o[i]≠0))]) (by kernel_rfl) fun b35 w4 S=>?_
  refine gg_ ?_
  refine Qx (sb:=b35) (z:=decide (o[i]≠0)) S (by omega) hf fun b38 w5 S=>?_
  have S:=S.drop b35
  refine gg_ ?_
  refine S.st (b:=b24) (fun w6 S=>?_) (by rw [hR.len];omega)
  rw [Nat.zero_add] at S
  refine gp_ ?_
  by_cases hi0 : i=0
  ·subst hi0
   have hM:=hR.one rfl
   subst hM
   have hz : o[0]=0:=hoz
   refine hK3 (1,s,_,_) _ ⟨hlt,ha,hR.first h0 hol hoz hW.nodup b38,?_⟩ (by show o.length - 1<o.length - 0;omega)
   have S:=S.swap
   rw [hz] at S
   simpa [bls] using S
  ·have hq0:=hon0 i hlt (by omega)
   rw [decide_eq_true hq0] at S
   have e2 : List.replicate n.length (Value.bool true)=bls (List.replicate n.length true):=by simp [bls]
   rw [e2] at S
   obtain ⟨S,hs,hb38⟩:=S.litNew b38 (sz:=1) (R:=xr) (l:=List.replicate n.length true) xm (by decide)
   rw [List.length_replicate] at hs
   refine hK3 (i+1,s.or (Go.Sh.one b38 (bls (List.replicate n.length true)) 4),_,M) _ ⟨hlt,ha.or' hb38,hR.next (by omega) hlt hqN hq0 hs.cells,S.reGh⟩ (by show o.length - (i+1)<o.length - i;omega)
 have hie : i=o.length:=by omega
 subst hie
 clear hK3
 obtain ⟨b0,rfl,hc0⟩:=hR.zero hol
 refine gg_ ?_
 refine S.ld (b:=b24) ?_ (by simpa using hc0)
 refine gg_ ?_
 refine S.st (b:=b0) (fun w4 S=>?_) (by rw [yI,List.length_replicate];simpa using h0)
 have S : StX noX w ((r.or so).or s) w4 [.cell b0 (bls (zy (List.replicate n.length false) 0)) 4,.cell b24 c 75]:=by
  have e : (bls (List.replicate n.length false)).set (0+Int.toNat 0) (.bool true)=bls (zy (List.replicate n.length false) 0):=y7 (Int.le_refl 0)
  rw [← e];exact S.swap
 obtain ⟨S,hs0,hb0⟩:=S.litNew b0 (sz:=1) (R:=xr) (l:=zy (List.replicate n.length false) 0) xm (by decide)
 rw [zG,List.length_replicate] at hs0
 have hR0:=hR.done (s':=s.or (Go.Sh.one b0 (bls (zy (List.replicate n.length false) 0)) 4)) h0 hc0 hs0.cells
 have hA0:=ahz hW h0
 have ha0:=ha.or' hb0
 have S:=S.reGh
 clear hR ha hs0 hc0 hb0
 generalize s.or (Go.Sh.one b0 (bls (zy (List.replicate n.length false) 0)) 4)=sR at S hR0 ha0
 generalize rows0 n o=R0 at hR0 hA0
 refine gg_ ?_
 refine S.mkS (by omega) (by omega) fun b47 w5 S=>?_
 rw [Int.toNat_natCast] at S ⊢
 refine gg_ ?_
 have hrl:=vY (n:=n)
 have hrv : ∀ (i : Nat) (hi : i<(kb n).length),(kb n)[i]=befN n (i : Nat):=fun i hi=>by simp [kb]
 refine zh (ι:=Nat × Gh × List Value) (fun i=>[.int .i64 (i.1 : Nat)]) (fun i w'=>i.1≤n.length∧Above w i.2.1∧RowOf 1 (RowC i.2.1) i.2.2 ((kb n).take i.1)∧StX noX w (((r.or so).or sR).or i.2.1) w' [.cell b47 (i.2.2++List.replicate (n.length - i.1) (.slice none 0 0)) 28,.cell b24 c 75])
  (fun i=>n.length - i.1) (0,nothing,[]) rfl ⟨Nat.zero_le _,Above.no,by simpa using RowOf.nil,S.to _⟩ ?_
 repeat clear S
 rintro ⟨i,sB,cB⟩ d w6 ⟨hi,haB,hRB,S⟩ K12 hK12
 simp only at hi haB hRB S ⊢
 rw [List.getD_cons_zero]
 have hcBl : cB.length=i:=by
  have:=hRB.1
  rw [List.length_take,Nat.mul_one] at this;omega
 refine gg_ ?_
 refine zj (fun hlt=>?_) (fun hge=>?_)
 ·have hlt : i<n.length:=by omega
  refine aag S.holds hn0.up (by omega) fun v' s' w7 e7 n7 hv'=>?_
  obtain ⟨S,_,ha7⟩:=S.tell e7 n7
  obtain ⟨pv,cv,rfl,_,_⟩:=hv'.shape
  refine gg_ ?_
  refine S.st (b:=b47) (fun w8 S=>?_) (by rw [List.length_append,List.length_replicate];omega)
  refine gp_ ?_
  refine hK12 (i+1,sB.or s',cB ++ [.slice pv (befN n (i : Nat)).length cv]) _ ⟨hlt,haB.or' ha7,?_,?_⟩ (by show n.length - (i+1)<n.length - i;omega)
  ·rw [List.take_succ_eq_append_getElem (by omega),hrv]
   exact (hRB.mono fun _ _ h=>RowC.up h).snoc rfl ⟨_,rfl,hv'.cells,Nat.le_trans XT (Nat.le_trans hf (by decide))⟩
  ·have e : (cB++List.replicate (n.length - i) (Value.slice none 0 0)).set (0+((i : Nat) : Int).toNat) (.slice pv (befN n (i : Nat)).length cv)=(cB ++ [.slice pv (befN n (i : Nat)).length cv])++List.replicate (n.length - (i+1)) (.slice none 0 0):=by
    rw [Nat.zero_add,Int.toNat_natCast,List.set_append_right _ _ (by omega),hcBl,Nat.sub_self,show n.length - i=(n.length - (i+1))+1 by omega,List.replicate_succ,List.set_cons_zero,List.append_assoc];rfl
   have S:=S.reGh
   rw [e] at S;exact S
 have hie : i=n.length:=by omega
 subst hie
 clear hK12
 rw [Nat.sub_self,List.replicate_zero,List.append_nil] at S
 rw [← hrl,List.take_length] at hRB
 obtain ⟨S,hsB,hb47⟩:=S.litNew b47 (sz:=1) (R:=RowC sB) (l:=kb n) hRB (by decide)
 have hB : NetG (sB.or (Go.Sh.one b47 cB 28)) (.slice (some ⟨b47,0,none⟩) n.length n.length) (kb n):=by
  rw [hrl] at hsB
  exact ⟨hsB.up' inferInstance fun _ _ h=>RowC.up h,by rw [hrl];exact Nat.le_trans hf (by decide)⟩
 have haB':=haB.or' hb47
 have S:=S.reGh
 clear hsB hRB haB hb47
 generalize sB.or (Go.Sh.one b47 cB 28)=sN at S hB haB'
 refine zh (ι:=Bool × Gh × List Value × yH) (fun i=>[.bool i.1]) (fun i w'=>Abv n i.2.2.2∧Above w i.2.1∧RowOf 1 (RwC i.2.1) i.2.2.1 i.2.2.2∧(i.1=false→aiu n o o.length i.2.2.2)∧StX noX w (((r.or so).or sN).or i.2.1) w' [.cell b24 i.2.2.1 75])
  (fun i=>2*rwW i.2.2.2+i.1.toNat) (true,sR,c,R0) rfl ⟨hA0,ha0,hR0,(fun h=>by cases h),S.less (fun b o x=>x.elim (fun x=>x.elim (fun x=>.inl (.inl x)) .inr) fun x=>.inl (.inr x)) (List.Sublist.refl _)⟩ ?_
 repeat clear S
 clear hA0 ha0 hR0
 rintro ⟨ch,s,c,R⟩ d w7 ⟨hA,ha,hR,hF,S⟩ K18 hK18
 simp only at hA ha hR hF S ⊢
 rw [List.getD_cons_zero]
 have hcl : c.length=n.length:=by
  have:=hR.1
  rw [Nat.mul_one,hA.len] at this;exact this
 refine c_b (fun hch=>?_) (fun hch=>?_)
 ·subst hch
  clear hF
  refine gg_ ?_
  refine zh (ι:=Bool × Nat × Gh × List Value × yH) (fun i=>[.bool i.1,.int .i64 (i.2.1 : Nat)]) (fun i w'=>i.2.1+1≤o.length∧Abv n i.2.2.2.2∧Above w i.2.2.1∧RowOf 1 (RwC i.2.2.1) i.2.2.2.1 i.2.2.2.2∧rwW i.2.2.2.2≤rwW R∧(i.1=true→rwW i.2.2.2.2<rwW R)∧(i.1=false→i.2.2.2.2=R∧aiu n o i.2.1 R)∧StX noX w (((r.or so).or sN).or i.2.2.1) w' [.cell b24 i.2.2.2.1 75])
   (fun i=>o.length - i.2.1) (false,0,s,c,R) rfl ⟨by show 0+1≤_;omega,hA,ha,hR,Nat.le_refl _,(fun h=>by cases h),(fun _=>⟨rfl,fun j hj h1 h2=>by dsimp only at h2;omega⟩),S⟩ ?_
  repeat clear S
  clear hA ha hR hcl
  rintro ⟨ch,k,s,c,R'⟩ d w8 ⟨hk,hA,ha,hR,hw1,hw2,hw3,S⟩ K22 hK22
  simp only at hk hA ha hR hw1 hw2 hw3 S ⊢
  simp only [List.getD_cons_zero,List.getD_cons_succ]
  have hcl : c.length=n.length:=by
   have:=hR.1
   rw [Nat.mul_one,hA.len] at this;exact this
  refine gg_ ?_
  refine zj (fun hlt=>?_) (fun hge=>?_)
  ·have hlt : k+1<o.length:=by omega
   obtain ⟨bo,oo,hpo,_,hco⟩:=zE ho hlt
   subst hpo
   have hqN:=hoN (k+1) hlt
   have hq0:=hon0 (k+1) hlt (by omega)
   have hrq : Rchd n zT 0 o[k+1]:=((hW.mem _).1 (List.getElem_mem hlt)).2
   obtain ⟨q,hq⟩ : ∃ q,q=o[k+1]:=⟨_,rfl⟩
   rw [← hq] at hqN hq0 hrq hco
   have q0:=hqN.1;have q1:=hqN.2
   obtain ⟨mq,hmq⟩:=Option.isSome_iff_exists.1 ((hA.some' _ hqN).2 hrq)
   obtain ⟨hA2,hW2,hW3⟩:=hA.turn hok hqN hq0 hmq
   have hrow:=aj7 (R:=R') hqN
   obtain ⟨uq,hcq,hrwc⟩:=ahA hR (q:=q) (by rw [hA.len];omega)
   rw [hmq] at hrwc
   have huq : SlG 1 s xr uq mq:=by obtain ⟨u',e,_,h2⟩:=hrwc;cases e;exact h2 mq rfl
   refine zp (fun x w'=>∃ ch' s' c' R2,x = [.bool ch']∧Abv n R2∧Above w s'∧RowOf 1 (RwC s') c' R2∧rwW R2≤rwW R∧(ch'=true→rwW R2<rwW R)∧(ch'=false→R2=R∧aiu n o (k+1) R)∧StX noX w (((r.or so).or sN).or s') w' [.cell b24 c' 75]) (fun K26 hK26=>?_) ?_
   ·rw [if_neg (show ¬ capo=Int.toNat 1 by omega),Option.map_some,xc]
    refine gg_ ?_
    refine zi (by rw [Int.toNat_natCast,show oo+Int.toNat 1*1+k=oo+(k+1) by omega];exact S.at hco) ?_
    refine gg_ ?_
    refine S.lit (e:=4) (cs:=[.bool true]) (by kernel_rfl) fun b68 w9 S=>?_
    refine gg_ ?_
    refine Qx (sb:=b68) (z:=true) S (by omega) hf fun b71 w10 S=>?_
    have S:=S.drop b68
    have e2 : List.replicate n.length (Value.bool true)=bls (List.replicate n.length true):=by simp [bls]
    rw [e2] at S
    obtain ⟨_,_,ub,hE,_,hcb,hub⟩:=vX hB (i:=q.toNat) (by rw [hrl];omega)
    cases hE
    have hbe : (kb n)[q.toNat]'(by rw [hrl];omega)=befN n q:=by rw [hrv,Int.toNat_of_nonneg q0]
    rw [hbe] at hub
    obtain ⟨pb,capb,rfl,_,_⟩:=hub.sl.shape
    have hbl : (befN n q).length≤100000:=Nat.le_trans XT hf
    refine gg_ ?_
    refine zi (S.at hcb) ?_
    refine gg_ ?_
    have hbm : ∀ x ∈ befN n q,isN n x:=fun x hx=>(qY.1 hx).1
    generalize befN n q=l at hub hbl hrow hbm
    refine zh (ι:=Nat) (fun j=>[.int .i64 (j : Nat)]) (fun j w'=>j≤l.length∧StX noX w (((r.or so).or sN).or s) w' [.cell b71 (bls ((l.take j).foldl (k0 R') (List.replicate n.length true))) 4,.cell b24 c 75])
     (fun j=>l.length - j) 0 rfl ⟨Nat.zero_le _,S⟩ ?_
    repeat clear S
    rintro j d w11 ⟨hj,S⟩ K32 hK32
    rw [List.getD_cons_zero]
    refine gg_ ?_
    refine zj (fun hltj=>?_) (fun hgej=>?_)
    ·have hltj : j<l.length:=by omega
     obtain ⟨bl,ol,hpb,_,hcl'⟩:=zE hub.sl hltj
     subst hpb
     have hml : ((l.take j).foldl (k0 R') (List.replicate n.length true)).length=n.length:=by rw [Xm,List.length_replicate]
     have htj : (l.take (j+1)).foldl (k0 R') (List.replicate n.length true)=k0 R' ((l.take j).foldl (k0 R') (List.replicate n.length true)) l[j]:=by
      rw [List.take_succ_eq_append_getElem hltj,List.foldl_append];rfl
     have hxN:=hbm l[j] (List.getElem_mem hltj)
     generalize (l.take j).foldl (k0 R') (List.replicate n.length true)=m at hml htj S
     generalize l[j]=x at hcl' htj hxN
     have x0:=hxN.1;have x1:=hxN.2
     obtain ⟨ux,hcx,hrx⟩:=ahA hR (q:=x) (by rw [hA.len];omega)
     obtain ⟨pp,kk,cp,rfl,hnone,hsome⟩:=aeS hrx fun m' hm'=>by rw [hA.rows x m' hm'];exact h0
     have hal : (k0 R' m x).length=m.length:=aal
     refine gg_ ?_
     refine zi (by rw [Int.toNat_natCast];exact S.at hcl') ?_
     refine gg_ ?_
     refine zh (ι:=Nat) (fun i=>[.int .i64 (i : Nat)]) (fun i w'=>i≤n.length∧StX noX w (((r.or so).or sN).or s) w' [.cell b71 (bls ((k0 R' m x).take i++m.drop i)) 4,.cell b24 c 75])
      (fun i=>n.length - i) 0 rfl ⟨Nat.zero_le _,by simpa using S⟩ ?_
     repeat clear S
     rintro i d w12 ⟨hi,S⟩ K36 hK36
     rw [List.getD_cons_zero]
     refine gg_ ?_
     refine zj (fun hlti=>?_) (fun hgei=>?_)
     ·have hlti : i<n.length:=by omega
      have him : i<m.length:=by omega
      refine gg_ ?_
      refine S.ld (b:=b71) ?_ (by rw [Int.toNat_natCast];exact aj9 hal him)
      have hv : (k0 R' m x)[i]'(by omega)=(m[i]&&((rwA R' x).isNone||(match rwA R' x with|some m'=>m'.getD i false|none=>false))):=by
       simp only [k0,List.getElem_mapIdx,rwH]
       congr 1
       cases rwA R' x with
       |none=>rfl
       |some m'=>simp [mk']
      refine ab9 (b:=m[i]) (m:=(rwA R' x).isNone) (x:=match rwA R' x with|some m'=>m'.getD i false|none=>false) (fun K hK=>?_) (fun hno K hK=>?_) ?_
      ·refine gg_ ?_
       refine S.ld (b:=b24) ?_ (by rw [Nat.zero_add];exact hcx)
       refine gg_ ?_
       rw [hnone];exact hK
      ·obtain ⟨m',hm'⟩ : ∃ m',rwA R' x=some m':=by
        cases hx : rwA R' x with
        |none=>rw [hx] at hno;cases hno
        |some m'=>exact ⟨m',rfl⟩
       obtain ⟨hkk,hcm⟩:=hsome m' hm'
       have hml':=hA.rows x m' hm'
       obtain ⟨bx,ox,hpp,hcm⟩:=hcm i (by omega)
       subst hpp
       subst hkk
       refine gg_ ?_
       refine S.ld (b:=b24) ?_ (by rw [Nat.zero_add];exact hcx)
       refine gg_ ?_
       refine zi (by rw [Int.toNat_natCast];exact S.at hcm) ?_
       rw [hm'] at hK
       simp only [List.getD_eq_getElem?_getD,List.getElem?_eq_getElem (show i<m'.length by omega),Option.getD_some] at hK
       exact hK
      rw [← hv]
      refine gg_ ?_
      refine S.st (b:=b71) (fun w13 S=>?_) (by rw [yI,List.length_append,List.length_take,List.length_drop];omega)
      rw [Int.toNat_natCast,ajo hal him] at S
      refine gg_ ?_
      exact hK36 (i+1) _ ⟨hlti,S⟩ (by omega)
     have hie : i=n.length:=by omega
     subst hie
     rw [List.take_of_length_le (by omega),List.drop_of_length_le (by omega),List.append_nil,← htj] at S
     refine gg_ ?_
     exact hK32 (j+1) _ ⟨hltj,S⟩ (by omega)
    have hje : j=l.length:=by omega
    subst hje
    rw [List.take_length] at S
    clear hK32
    refine gg_ ?_
    refine S.st (b:=b71) (fun w12 S=>?_) (by rw [yI,Xm,List.length_replicate];omega)
    have S : StX noX w (((r.or so).or sN).or s) w12 [.cell b71 (bls (rwF n R' q)) 4,.cell b24 c 75]:=by
     rw [← hrow,← y7 q0];exact S
    refine gg_ ?_
    refine S.ld (b:=b24) ?_ (by rw [Nat.zero_add];exact hcq)
    obtain ⟨S,hs71,hb71⟩:=S.litNew b71 (sz:=1) (R:=xr) (l:=rwF n R' q) xm (by decide)
    rw [Yg] at hs71
    refine aeG S.holds hs71.cells huq.cells (by rw [Yg];exact Nat.le_trans hf (by decide)) fun w13 e13=>?_
    have S:=S.go e13
    refine gg_ ?_
    refine c_b (fun hne=>?_) (fun heq=>?_)
    ·have hne : rwF n R' q≠mq:=by simpa using hne
     refine gg_ ?_
     refine S.st (b:=b24) (fun w14 S=>?_) (by rw [hcl];omega)
     rw [Nat.zero_add] at S
     have hlt3:=hW3 hne
     exact hK26 _ _ ⟨true,s.or (Go.Sh.one b71 (bls (rwF n R' q)) 4),_,_,rfl,hA2,ha.or' hb71,ajn hR ⟨_,rfl,(fun h=>by cases h),fun m hm=>by cases hm;exact hs71.cells⟩,by omega,fun _=>by omega,(fun h=>by cases h),S.reGh⟩
    ·have heq : rwF n R' q=mq:=by simpa using heq
     refine hK26 _ _ ⟨ch,s,c,R',rfl,hA,ha,hR,hw1,hw2,fun hch=>?_,S.to _⟩
     obtain ⟨e,hf'⟩:=hw3 hch
     subst e
     refine ⟨rfl,fun j hj h1 h2=>?_⟩
     by_cases hjk : j≤k
     ·exact hf' j hj h1 hjk
     ·have hje : j=k+1:=by omega
      subst hje
      rw [← hq,hmq,heq]
   ·rintro x w9 ⟨ch',s',c',R2,rfl,i1,i2,i3,i4,i5,i6,S⟩ d
    simp only [List.getD_cons_zero]
    refine gg_ ?_
    exact hK22 (ch',k+1,s',c',R2) _ ⟨by show k+1+1≤_;omega,i1,i2,i3,i4,i5,i6,S⟩ (by show o.length - (k+1)<o.length - k;omega)
  have hke : k+1=o.length:=by omega
  refine hK18 (ch,s,c,R') _ ⟨hA,ha,hR,fun hch=>?_,S⟩ ?_
  ·obtain ⟨e,hf'⟩:=hw3 hch
   subst e
   intro j hj h1 h2
   exact hf' j hj h1 (by omega)
  ·show 2*rwW R'+ch.toNat<2*rwW R+true.toNat
   cases ch with
   |true=>have:=hw2 rfl;simp only [Bool.toNat_true];omega
   |false=>simp only [Bool.toNat_true,Bool.toNat_false];omega
 have hF:=hF hch
 have hRl:=hA.len
 obtain ⟨S,hs,hb24⟩:=S.litNew b24 (sz:=1) (R:=RwC s) (l:=R) hR (by decide)
 rw [hRl] at hs
 refine h _ (s.or (Go.Sh.one b24 c 75)) _ R S.ext (StX.newOf (q:=s.or (Go.Sh.one b24 c 75)) S.reGh (ha.or' hb24)) (hs.up' inferInstance fun _ _ h=>RwC.up h) hRl fun q hq=>hA.end hok h0 (fun q hq hq0 hr=>?_) hq
 obtain ⟨j,hj,e⟩:=List.getElem_of_mem ((hW.mem q).2 ⟨hq,hr⟩)
 have hj0 : j≠0:=fun e0=>hq0 (by subst e0;rw [← e,hoz])
 have:=hF j hj (by omega) (by omega)
 rwa [e] at this
end Go.Proofs
end
section
namespace Go.Proofs
open Go.Sh Go.RowKit
set_option maxRecDepth 100000
set_option linter.unusedSimpArgs false
set_option linter.unusedVariables false
def netU (u : UnD) (n : Int) : zg:=match u.fs[n.toNat]? with|some g=>netG g|none=>[]
noncomputable def okQ (u : UnD) (n q : Int) : Bool:=!(decide (fnE u n≠0) || !decide (isN (netU u n) q))
theorem afY {u : UnD} {n : Int} (h : fnE u n≠0) : fnE u n=2:=by
 rw [fnE] at h ⊢
 split
 ·rfl
 ·rename_i hc;rw [if_neg hc] at h;exact absurd rfl h
structure vZ (n : zg) : Prop where
 ok : ym n
 nd : ∀ q,(nxt n q).Nodup
 nar : ab3 n
 pos : 0<n.length
 few : n.length≤1024
theorem z7 {u : UnD} {n : Int} (h : fnE u n=0) : ∃ hlt : n.toNat<u.fs.length,netU u n=netG u.fs[n.toNat]∧vZ (netU u n):=by
 obtain ⟨hM,hn0,hlt⟩:=aeu h
 have e : netU u n=netG u.fs[n.toNat]:=by rw [netU,List.getElem?_eq_getElem hlt]
 refine ⟨hlt,e,?_⟩
 rw [e]
 obtain ⟨h1,h2⟩:=aii hM hlt
 exact ⟨ai4 hM (List.getElem_mem hlt),fun q=>agr,fun l hl=>by obtain ⟨p,_,rfl⟩:=List.mem_map.1 hl;exact ahg,h1,h2⟩
set_option maxHeartbeats 1000000 in
theorem QA {u : UnD} {n q : Int} {v : Value} {w : World} {r : Gh} {K : Value→World→Prop} (hr : Holds r w) (hu : UnG r v u)
  (h : ∀ v' s w',Ext w w'→New w s w'→SlG 1 s zu v' (if okQ u n q=true then befN (netU u n) q else [])→K (.tuple #[v',.int .i64 (if okQ u n q=true then 0 else 2)]) w') : zd Tryz.prog Tryz.jx #[v,.int .i64 n,.int .i64 q] w K:=by
 refine Tryz.ab0 ?_
 unfold Tryz.Qy
 have hu0:=hu
 obtain ⟨p0,cap0,vf,rfl,_,_,hst,hsl,hfn⟩:=hu
 obtain ⟨qf,capf,rfl,_,_⟩:=hfn.sl.shape
 have S:=St.start hr
 refine S.box fun b3 w1 S=>?_
 have S : StX noX w r w1 [.cell b3 [.slice p0 u.ss.length cap0,.slice qf u.fs.length capf,.int .i64 u.mn] 25]:=S
 refine S.ldB (b:=b3) ?_ rfl
 refine x7 S.holds hu0 fun vn sn w2 e2 n2 hnet=>?_
 obtain ⟨S,_,a2⟩:=S.tell e2 n2
 have S:=S.tl
 refine gS_ ?_
 refine xH (c:=!decide (isN (netU u n) q)) (fun w'=>StX noX w (r.or sn) w' []) (fun _=>S) (fun hb K2 hK2=>?_) fun w3 S=>?_
 ·have hE : fnE u n=0:=by simpa using hb
  obtain ⟨hlt,he,hF⟩:=z7 hE
  obtain ⟨_,hN⟩:=hnet hE
  rw [← he] at hN
  refine S.lit (e:=3) (cs:=[.int .i64 q]) (by kernel_rfl) fun b5 w3 S=>?_
  obtain ⟨S,hs5,_⟩:=S.litNew b5 (sz:=1) (R:=zu) (l:=[q]) (zZ rfl rfl) (by decide)
  refine Qc S.holds hN.up (show SlG 1 _ zu (.slice (some ⟨b5,0,none⟩) 1 1) [q] from hs5.cells) (by simp) fun w4 e4=>?_
  have S:=S.go e4
  refine gp_ ?_
  have e : decide (∀ x ∈ [q],isN (netU u n) x)=decide (isN (netU u n) q):=by rw [decide_eq_decide];simp
  rw [e]
  exact hK2 _ (S.to _)
 have hok : okQ u n q = !(decide (fnE u n≠0) || !decide (isN (netU u n) q)):=rfl
 refine c_b (fun hb=>?_) (fun hb=>?_)
 ·rw [hb] at hok
  rw [hok] at h
  exact h _ nothing _ S.ext New.nothing SlG.nil
 rw [hb] at hok
 rw [hok] at h
 simp only [Bool.or_eq_false_iff,decide_eq_false_iff_not,Decidable.not_not,Bool.not_eq_false',decide_eq_true_eq] at hb
 obtain ⟨hE,hqN⟩:=hb
 obtain ⟨hlt,he,hF⟩:=z7 hE
 obtain ⟨_,hN⟩:=hnet hE
 rw [← he] at hN
 have hfew:=hF.few
 refine aag S.holds hN.up (by omega) fun v' s w4 e4 n4 hs=>?_
 obtain ⟨S,_,a4⟩:=S.tell e4 n4
 exact h _ (sn.or s) _ S.ext (StX.newOf S.reGh (a2.or' a4)) hs.cells
set_option maxHeartbeats 1000000 in
theorem JE {u : UnD} {n q : Int} {v : Value} {w : World} {r : Gh} {K : Value→World→Prop} (hr : Holds r w) (hu : UnG r v u)
  (h : ∀ v' s w',Ext w w'→New w s w'→SlG 1 s zu v' (if okQ u n q=true then mkd (xP (netU u n) zT q) else [])→K (.tuple #[v',.int .i64 (if okQ u n q=true then 0 else 2)]) w') : zd Tryz.prog Tryz.j7 #[v,.int .i64 n,.int .i64 q] w K:=by
 refine Tryz.adv ?_
 unfold Tryz.Jt
 have hu0:=hu
 obtain ⟨p0,cap0,vf,rfl,_,_,hst,hsl,hfn⟩:=hu
 obtain ⟨qf,capf,rfl,_,_⟩:=hfn.sl.shape
 have S:=St.start hr
 refine S.box fun b3 w1 S=>?_
 have S : StX noX w r w1 [.cell b3 [.slice p0 u.ss.length cap0,.slice qf u.fs.length capf,.int .i64 u.mn] 25]:=S
 refine S.ldB (b:=b3) ?_ rfl
 refine x7 S.holds hu0 fun vn sn w2 e2 n2 hnet=>?_
 obtain ⟨S,_,a2⟩:=S.tell e2 n2
 have S:=S.tl
 refine gS_ ?_
 refine xH (c:=!decide (isN (netU u n) q)) (fun w'=>StX noX w (r.or sn) w' []) (fun _=>S) (fun hb K2 hK2=>?_) fun w3 S=>?_
 ·have hE : fnE u n=0:=by simpa using hb
  obtain ⟨hlt,he,hF⟩:=z7 hE
  obtain ⟨_,hN⟩:=hnet hE
  rw [← he] at hN
  refine S.lit (e:=3) (cs:=[.int .i64 q]) (by kernel_rfl) fun b5 w3 S=>?_
  obtain ⟨S,hs5,_⟩:=S.litNew b5 (sz:=1) (R:=zu) (l:=[q]) (zZ rfl rfl) (by decide)
  refine Qc S.holds hN.up (show SlG 1 _ zu (.slice (some ⟨b5,0,none⟩) 1 1) [q] from hs5.cells) (by simp) fun w4 e4=>?_
  have S:=S.go e4
  refine gp_ ?_
  have e : decide (∀ x ∈ [q],isN (netU u n) x)=decide (isN (netU u n) q):=by rw [decide_eq_decide];simp
  rw [e]
  exact hK2 _ (S.to _)
 have hok : okQ u n q = !(decide (fnE u n≠0) || !decide (isN (netU u n) q)):=rfl
 refine c_b (fun hb=>?_) (fun hb=>?_)
 ·rw [hb] at hok
  rw [hok] at h
  exact h _ nothing _ S.ext New.nothing SlG.nil
 rw [hb] at hok
 rw [hok] at h
 simp only [Bool.or_eq_false_iff,decide_eq_false_iff_not,Decidable.not_not,Bool.not_eq_false',decide_eq_true_eq] at hb
 obtain ⟨hE,hqN⟩:=hb
 obtain ⟨hlt,he,hF⟩:=z7 hE
 obtain ⟨_,hN⟩:=hnet hE
 rw [← he] at hN
 have hfew:=hF.few
 refine ahk S.holds hN.up hF.ok hqN (by omega) fun v1 s1 w4 e4 n4 hs1=>?_
 obtain ⟨S,_,a4⟩:=S.tell e4 n4
 refine Qd S.holds hs1.cells (by rw [yN];omega) fun v' s w5 e5 n5 hs=>?_
 obtain ⟨S,_,a5⟩:=S.tell e5 n5
 exact h _ (sn.or (s1.or s)) _ S.ext (StX.newOf (S.to (r.or (sn.or (s1.or s)))) (a2.or' (a4.or' a5))) hs.cells
def mkO (o : Option (List Bool)) : List Int:=match o with|some m=>mkd m|none=>[]
theorem Za {n : zg} {q : Int} : abvL n q=mkO (ku n q):=by
 unfold abvL mkO
 cases ku n q<;>rfl
theorem YL {s : Gh} {o : Option (List Bool)} {u : Value} {w : World} {r : Gh} {K : Value→World→Prop} (hr : Holds r w) (hm : RwC r [u] o) (hf : ∀ m,o=some m→m.length≤1000000)
  (h : ∀ v' s w',Ext w w'→New w s w'→SlG 1 s zu v' (mkO o)→K v' w') : zd Tryz.prog Tryz.y8 #[u] w K:=by
 obtain ⟨u',e,h1,h2⟩:=hm
 cases e
 cases o with
 |some m=>exact Qd hr (h2 m rfl) (hf m rfl) h
 |none=>
  rw [h1 rfl]
  exact Qd (m:=[]) hr SlG.nil (by simp) h
theorem J8 {n : zg} {R : yH} {s : Gh} {v' : Value} (h : aj8 s v' R) {q : Int} (hq : q.toNat<R.length) : ∃ p cap b off u,v' = .slice p R.length cap∧p=some ⟨b,off,none⟩∧(Ob s fun w=>w.cell? ⟨b,off+q.toNat,none⟩=some u)∧RwC s [u] (rwA R q):=by
 obtain ⟨p,cap,rfl,_,_⟩:=h.shape
 obtain ⟨b,off,c,rfl,hc,⟨u,rfl,h1,h2⟩,hcl⟩:=h.get (by decide) hq
 refine ⟨_,cap,b,off,u,rfl,rfl,?_,u,rfl,?_,?_⟩
 ·have:=hcl 0 _ rfl
  rwa [show off+q.toNat*1+0=off+q.toNat by omega] at this
 ·intro e
  refine h1 ?_
  rw [rwA,List.getD_eq_getElem?_getD,List.getElem?_eq_getElem hq] at e;exact e
 ·intro m e
  refine h2 m ?_
  rw [rwA,List.getD_eq_getElem?_getD,List.getElem?_eq_getElem hq] at e;exact e
theorem Zb {n : zg} {q : Int} {m : List Bool} (h : ku n q=some m) : m.length=n.length:=(Js h).2.1
set_option maxHeartbeats 1000000 in
theorem JF {u : UnD} {n q : Int} {v : Value} {w : World} {r : Gh} {K : Value→World→Prop} (hr : Holds r w) (hu : UnG r v u)
  (h : ∀ v' s w',Ext w w'→New w s w'→SlG 1 s zu v' (if okQ u n q=true then abvL (netU u n) q else [])→K (.tuple #[v',.int .i64 (if okQ u n q=true then 0 else 2)]) w') : zd Tryz.prog Tryz.j8 #[v,.int .i64 n,.int .i64 q] w K:=by
 refine Tryz.adw ?_
 unfold Tryz.Ju
 have hu0:=hu
 obtain ⟨p0,cap0,vf,rfl,_,_,hst,hsl,hfn⟩:=hu
 obtain ⟨qf,capf,rfl,_,_⟩:=hfn.sl.shape
 have S:=St.start hr
 refine S.box fun b3 w1 S=>?_
 have S : StX noX w r w1 [.cell b3 [.slice p0 u.ss.length cap0,.slice qf u.fs.length capf,.int .i64 u.mn] 25]:=S
 refine S.ldB (b:=b3) ?_ rfl
 refine x7 S.holds hu0 fun vn sn w2 e2 n2 hnet=>?_
 obtain ⟨S,_,a2⟩:=S.tell e2 n2
 have S:=S.tl
 refine gS_ ?_
 refine xH (c:=!decide (isN (netU u n) q)) (fun w'=>StX noX w (r.or sn) w' []) (fun _=>S) (fun hb K2 hK2=>?_) fun w3 S=>?_
 ·have hE : fnE u n=0:=by simpa using hb
  obtain ⟨hlt,he,hF⟩:=z7 hE
  obtain ⟨_,hN⟩:=hnet hE
  rw [← he] at hN
  refine S.lit (e:=3) (cs:=[.int .i64 q]) (by kernel_rfl) fun b5 w3 S=>?_
  obtain ⟨S,hs5,_⟩:=S.litNew b5 (sz:=1) (R:=zu) (l:=[q]) (zZ rfl rfl) (by decide)
  refine Qc S.holds hN.up (show SlG 1 _ zu (.slice (some ⟨b5,0,none⟩) 1 1) [q] from hs5.cells) (by simp) fun w4 e4=>?_
  have S:=S.go e4
  refine gp_ ?_
  have e : decide (∀ x ∈ [q],isN (netU u n) x)=decide (isN (netU u n) q):=by rw [decide_eq_decide];simp
  rw [e]
  exact hK2 _ (S.to _)
 have hok : okQ u n q = !(decide (fnE u n≠0) || !decide (isN (netU u n) q)):=rfl
 refine c_b (fun hb=>?_) (fun hb=>?_)
 ·rw [hb] at hok
  rw [hok] at h
  exact h _ nothing _ S.ext New.nothing SlG.nil
 rw [hb] at hok
 rw [hok] at h
 simp only [Bool.or_eq_false_iff,decide_eq_false_iff_not,Decidable.not_not,Bool.not_eq_false',decide_eq_true_eq] at hb
 obtain ⟨hE,hqN⟩:=hb
 obtain ⟨hlt,he,hF⟩:=z7 hE
 obtain ⟨_,hN⟩:=hnet hE
 rw [← he] at hN
 have hfew:=hF.few
 refine aca S.holds hN.up hF.ok hF.nar hF.nd hF.pos (by omega) fun v1 s1 w4 R e4 n4 hR hRl hRa=>?_
 obtain ⟨S,_,a4⟩:=S.tell e4 n4
 have q0:=hqN.1;have q1:=hqN.2
 obtain ⟨pR,capR,bR,oR,uq,rfl,rfl,hcR,hrw⟩:=J8 (n:=netU u n) hR (q:=q) (by rw [hRl];omega)
 rw [hRa q hqN] at hrw
 rw [hRl]
 refine gg_ ?_
 refine zi (S.at hcR) ?_
 refine YL (s:=s1) S.holds hrw.up (fun m hm=>by rw [Zb hm];omega) fun v' s w5 e5 n5 hs=>?_
 obtain ⟨S,_,a5⟩:=S.tell e5 n5
 exact h _ (sn.or (s1.or s)) _ S.ext (StX.newOf (S.to (r.or (sn.or (s1.or s)))) (a2.or' (a4.or' a5))) (by show SlG 1 (sn.or (s1.or s)) zu v' (abvL (netU u n) q);rw [Za];exact hs.cells)
set_option maxHeartbeats 1000000 in
theorem JG {u : UnD} {n : Int} {v : Value} {w : World} {r : Gh} {K : Value→World→Prop} (hr : Holds r w) (hu : UnG r v u)
  (h : ∀ v' s w' o b,Ext w w'→New w s w'→(fnE u n=0→∃ st,Mst (netU u n) (zA (yb (netU u n)) 0,[(0,0)]) (st,[])∧o=st.out.reverse∧b=st.back)→(fnE u n≠0→o = []∧b = [])→SlG 1 s zu v' o→K (.tuple #[v',.int .i64 (fnE u n)]) w') : zd Tryz.prog Tryz.j9 #[v,.int .i64 n] w K:=by
 refine Tryz.adx ?_
 unfold Tryz.Jv
 have hu0:=hu
 obtain ⟨p0,cap0,vf,rfl,_,_,hst,hsl,hfn⟩:=hu
 obtain ⟨qf,capf,rfl,_,_⟩:=hfn.sl.shape
 have S:=St.start hr
 refine S.box fun b3 w1 S=>?_
 have S : StX noX w r w1 [.cell b3 [.slice p0 u.ss.length cap0,.slice qf u.fs.length capf,.int .i64 u.mn] 25]:=S
 refine S.ldB (b:=b3) ?_ rfl
 refine x7 S.holds hu0 fun vn sn w2 e2 n2 hnet=>?_
 obtain ⟨S,_,a2⟩:=S.tell e2 n2
 have S:=S.tl
 refine gS_ ?_
 refine zj (fun hne=>?_) (fun heq=>?_)
 ·exact h _ nothing _ [] [] S.ext New.nothing (fun e=>absurd e hne) (fun _=>⟨rfl,rfl⟩) SlG.nil
 have hE : fnE u n=0:=by omega
 obtain ⟨hlt,he,hF⟩:=z7 hE
 obtain ⟨_,hN⟩:=hnet hE
 rw [← he] at hN
 have hfew:=hF.few
 refine aeO S.holds hN.up hF.ok hF.nar hF.pos (by omega) fun v1 v2 s w4 st e4 n4 hM ho hb=>?_
 obtain ⟨S,_,a4⟩:=S.tell e4 n4
 refine gS_ ?_
 exact h _ (sn.or s) _ st.out.reverse st.back S.ext (StX.newOf S.reGh (a2.or' a4)) (fun _=>⟨st,hM,rfl,rfl⟩) (fun hn=>absurd hE hn) ho.cells
set_option maxHeartbeats 1000000 in
theorem VG {u : UnD} {n : Int} {v : Value} {w : World} {r : Gh} {K : Value→World→Prop} (hr : Holds r w) (hu : UnG r v u)
  (h : ∀ v' s w' o b,Ext w w'→New w s w'→(fnE u n=0→∃ st,Mst (netU u n) (zA (yb (netU u n)) 0,[(0,0)]) (st,[])∧o=st.out.reverse∧b=st.back)→(fnE u n≠0→o = []∧b = [])→SlG 2 s X2 v' b→K (.tuple #[v',.int .i64 (fnE u n)]) w') : zd Tryz.prog Tryz.Zh #[v,.int .i64 n] w K:=by
 refine Tryz.aeJ ?_
 unfold Tryz.VF
 have hu0:=hu
 obtain ⟨p0,cap0,vf,rfl,_,_,hst,hsl,hfn⟩:=hu
 obtain ⟨qf,capf,rfl,_,_⟩:=hfn.sl.shape
 have S:=St.start hr
 refine S.box fun b3 w1 S=>?_
 have S : StX noX w r w1 [.cell b3 [.slice p0 u.ss.length cap0,.slice qf u.fs.length capf,.int .i64 u.mn] 25]:=S
 refine S.ldB (b:=b3) ?_ rfl
 refine x7 S.holds hu0 fun vn sn w2 e2 n2 hnet=>?_
 obtain ⟨S,_,a2⟩:=S.tell e2 n2
 have S:=S.tl
 refine gS_ ?_
 refine zj (fun hne=>?_) (fun heq=>?_)
 ·exact h _ nothing _ [] [] S.ext New.nothing (fun e=>absurd e hne) (fun _=>⟨rfl,rfl⟩) SlG.nil
 have hE : fnE u n=0:=by omega
 obtain ⟨hlt,he,hF⟩:=z7 hE
 obtain ⟨_,hN⟩:=hnet hE
 rw [← he] at hN
 have hfew:=hF.few
 refine aeO S.holds hN.up hF.ok hF.nar hF.pos (by omega) fun v1 v2 s w4 st e4 n4 hM ho hb=>?_
 obtain ⟨S,_,a4⟩:=S.tell e4 n4
 refine gS_ ?_
 exact h _ (sn.or s) _ st.out.reverse st.back S.ext (StX.newOf S.reGh (a2.or' a4)) (fun _=>⟨st,hM,rfl,rfl⟩) (fun hn=>absurd hE hn) hb.cells
end Go.Proofs
end
section
namespace Go.Sh
theorem aka {w : World} {b n x : Bool} {A0 : (List Value→World→Prop)→Prop} {A1 : (List Value→World→Prop)→World→Prop} {Z : Value→World→Prop}
  (h0 : b=false→∀ K : List Value→World→Prop,K [.bool n] w→A0 K) (h1 : b=false→n=true→∀ K : List Value→World→Prop,K [.bool x] w→A1 K w) (hZ : Z (.bool (b||(n&&x))) w) :
  za (fun K=>gIf (.bool b) false (A0 K) (K [undef] w)) fun s135 _ w137=>
   za (fun K=>gIf (s135.getD 0 undef) true (A1 K w137) (K [undef] w137)) fun s139 _ w141=>
    za (fun K=>gIf (.bool b) false (zb (s135.getD 0 undef) (s139.getD 0 undef) (.bool false) fun t=>K [t] w141) (K [undef] w141)) fun s152 _ w154=>
     zb (.bool b) (.bool true) (s152.getD 0 undef) fun t=>Z t w154:=by
 cases b with
 |true=>
  intro K hK
  refine hK _ _ fun _=>?_
  intro K hK
  refine hK _ _ fun _=>?_
  intro K hK
  refine hK _ _ fun _=>?_
  exact ⟨_,rfl,by simpa using hZ⟩
 |false=>
  intro K hK
  refine h0 rfl _ (hK _ _ fun _=>?_)
  cases n with
  |false=>
   intro K hK
   refine hK _ _ fun _=>?_
   intro K hK
   refine ⟨_,rfl,hK _ _ fun _=>?_⟩
   exact ⟨_,rfl,by simpa using hZ⟩
  |true=>
   intro K hK
   refine h1 rfl rfl _ (hK _ _ fun _=>?_)
   intro K hK
   refine ⟨_,rfl,hK _ _ fun _=>?_⟩
   exact ⟨_,rfl,by simpa using hZ⟩
end Go.Sh
namespace Go.Proofs
open Go.Sh Go.RowKit
set_option maxRecDepth 100000
set_option linter.unusedSimpArgs false
set_option linter.unusedVariables false
theorem ajp {n : zg} {q : Int} : decide (∀ x ∈ [q],isN n x)=decide (isN n q):=by rw [decide_eq_decide];simp
def vC (n : zg) (l : List Int) (i : Nat) : Bool:=!decide (isN n (l.getD i 0))||(decide (0<i) && !decide (l.getD i 0 ∈ nxt n (l.getD (i - 1) 0)))
def isW (n : zg) (l : List Int) : Int × Bool:=match (List.range l.length).find? (vC n l) with|some i=>(((i : Nat) : Int),false)|none=>(0,decide (0<l.length))
theorem afZ {n : zg} {l : List Int} {i : Nat} (hi : i<l.length) (h : ∀ j,j<i→vC n l j=false) (hb : vC n l i=true) : isW n l=(((i : Nat) : Int),false):=by
 have : (List.range l.length).find? (vC n l)=some i:=by
  rw [List.find?_range_eq_some]
  exact ⟨hb,List.mem_range.2 hi,fun j hj=>by rw [h j hj];rfl⟩
 unfold isW;rw [this]
theorem aeT {n : zg} {l : List Int} (h : ∀ j,j<l.length→vC n l j=false) : isW n l=(0,decide (0<l.length)):=by
 have : (List.range l.length).find? (vC n l)=none:=by
  rw [List.find?_eq_none]
  intro j hj
  rw [h j (List.mem_range.1 hj)];simp
 unfold isW;rw [this]
set_option maxHeartbeats 1000000 in
theorem acV {u : UnD} {n : Int} {v : Value} {w : World} {r : Gh} {K : Value→World→Prop} (hr : Holds r w) (hu : UnG r v u)
  {l : List Int} {vl : Value} (hl : SlG 1 r zu vl l) (hlf : l.length≤1000000)
  (h : ∀ w',Ext w w'→K (if fnE u n=0 then .tuple #[.int .i64 (isW (netU u n) l).1,.bool (isW (netU u n) l).2,.int .i64 0] else .tuple #[.int .i64 0,.bool false,.int .i64 2]) w') : zd Tryz.prog Tryz.YY #[v,.int .i64 n,vl] w K:=by
 refine Tryz.agw ?_
 unfold Tryz.acN
 have hu0:=hu
 obtain ⟨p0,cap0,vf,rfl,_,_,hst,hsl,hfn⟩:=hu
 obtain ⟨qf,capf,rfl,_,_⟩:=hfn.sl.shape
 have S:=St.start hr
 refine S.box fun b3 w1 S=>?_
 have S : StX noX w r w1 [.cell b3 [.slice p0 u.ss.length cap0,.slice qf u.fs.length capf,.int .i64 u.mn] 25]:=S
 refine S.ldB (b:=b3) ?_ rfl
 refine x7 S.holds hu0 fun vn sn w2 e2 n2 hnet=>?_
 obtain ⟨S,_,a2⟩:=S.tell e2 n2
 have S:=S.tl
 refine gS_ ?_
 refine zj (fun hne=>?_) (fun heq=>?_)
 ·have:=h _ S.ext
  rw [if_neg hne] at this
  rw [afY hne];exact this
 have hE : fnE u n=0:=by omega
 rw [if_pos hE] at h
 obtain ⟨hlt,he,hF⟩:=z7 hE
 obtain ⟨_,hN⟩:=hnet hE
 rw [← he] at hN
 have hfew:=hF.few
 obtain ⟨pl,capl,rfl,_,_⟩:=hl.shape
 refine gp_ ?_
 refine zh (ι:=Nat) (fun i=>[.int .i64 (i : Nat)]) (fun i w'=>i≤l.length∧(∀ j,j<i→vC (netU u n) l j=false)∧StX noX w (r.or sn) w' []) (fun i=>l.length - i) 0 rfl ⟨Nat.zero_le _,fun j hj=>by omega,S⟩ ?_
 repeat clear S
 rintro i d w3 ⟨hi,hbf,S⟩ K3 hK3
 rw [List.getD_cons_zero]
 refine gp_ ?_
 refine zj (fun hlti=>?_) (fun hge=>?_)
 ·have hlti : i<l.length:=by omega
  obtain ⟨bl,ol,rfl,_,hcl⟩:=zE hl hlti
  have hgi : l.getD i 0=l[i]:=by rw [List.getD_eq_getElem?_getD,List.getElem?_eq_getElem hlti];rfl
  refine gg_ ?_
  refine zi (by rw [Int.toNat_natCast];exact S.at hcl) ?_
  refine S.lit (e:=3) (cs:=[.int .i64 l[i]]) (by kernel_rfl) fun b5 w4 S=>?_
  obtain ⟨S,hs5,_⟩:=S.litNew b5 (sz:=1) (R:=zu) (l:=[l[i]]) (zZ rfl rfl) (by decide)
  refine Qc S.holds hN.up (show SlG 1 _ zu (.slice (some ⟨b5,0,none⟩) 1 1) [l[i]] from hs5.cells) (by simp) fun w5 e5=>?_
  have S : StX noX w (r.or sn) w5 []:=(S.go e5).to _
  rw [ajp]
  refine gp_ ?_
  refine aka (n:=decide (0<i)) (x:=!decide (l[i] ∈ nxt (netU u n) (l.getD (i - 1) 0))) (fun _ K2 hK2=>?_) (fun _ hi0 K2 hK2=>?_) ?_
  ·refine gp_ ?_
   have e1 : decide ((0 : Int)<(i : Nat))=decide (0<i):=by rw [decide_eq_decide];omega
   rw [e1];exact hK2
  ·have hi0 : 0<i:=by simpa using hi0
   obtain ⟨bl',ol',hE',_,hcl'⟩:=zE hl (i:=i - 1) (by omega)
   cases hE'
   have hgp : l.getD (i - 1) 0=l[i - 1]:=by rw [List.getD_eq_getElem?_getD,List.getElem?_eq_getElem (by omega)];rfl
   have hpN : isN (netU u n) l[i - 1]:=by
    have:=hbf (i - 1) (by omega)
    rw [vC,Bool.or_eq_false_iff,hgp] at this
    simpa using this.1
   have p0:=hpN.1;have p1:=hpN.2
   obtain ⟨pn,capn,rfl,_,_⟩:=hN.sl.shape
   obtain ⟨bn,on,un,rfl,_,hcn,hun⟩:=vX hN (i:=l[i - 1].toNat) (by omega)
   rw [hgp,xV hpN] at hK2
   refine gg_ ?_
   refine zi (by rw [show (((i : Nat) : Int) - 1).toNat=i - 1 by omega];exact S.at hcl') ?_
   refine gg_ ?_
   refine zi (S.at hcn) ?_
   refine qX S.holds hun.sl.cells hun.few ?_
   refine gp_ ?_
   exact hK2
  have hbw : vC (netU u n) l i=(!decide (isN (netU u n) l[i])||(decide (0<i) && !decide (l[i] ∈ nxt (netU u n) (l.getD (i - 1) 0)))):=by rw [vC,hgi]
  rw [← hbw]
  refine c_b (fun hb=>?_) (fun hb=>?_)
  ·have:=h _ S.ext
   rwa [afZ hlti hbf hb] at this
  ·refine gp_ ?_
   refine hK3 (i+1) _ ⟨hlti,fun j hj=>?_,S⟩ (by omega)
   by_cases hji : j=i
   ·subst hji;exact hb
   ·exact hbf j (by omega)
 have hie : i=l.length:=by omega
 subst hie
 refine gg_ ?_
 have:=h _ S.ext
 rw [aeT hbf] at this
 have e1 : decide ((0 : Int)<(l.length : Nat))=decide (0<l.length):=by rw [decide_eq_decide];omega
 rw [e1];exact this
end Go.Proofs
end
