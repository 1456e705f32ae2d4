/-
  Contracts and plain laws that the last text leans on.
-/
import Derived.Test.YtaadilcboiiopaaGreatQCb
import Derived.Test.YtaadilcboiiopaaGreatQCc
import Derived.Test.YtaadilcboiiopaaGreatQCd
set_option maxRecDepth 100000
set_option maxHeartbeats 8000000
set_option linter.unusedVariables false
set_option linter.unusedSimpArgs false
namespace Go.Proofs.Tryz
open Go.Sh
section
variable {t0 t1 t2:Value} {w:World} {K:VW}
def aaf(t0 t1 t2:Value)(w:World)(K:VW):Prop:=
 pw w (Instr.box 59 t2) λt5 w1=>
 pw w1 (Instr.alloc 112 true (.tuple #[])) λt6 w2=>
 fl w2 t5 59 0 3 λt16=>bt .lss 3 t16 (i6 0) λt17=>za (λK3=>gIf t17 false (fl w2 t5 59 0 3 λt20=>pp (Builtin.len_ #[70] 3 #[t1]) λt22=>bf .geq 3 t20 t22 λt23=>K3 [t23] w2) (K3 [u_] w2)) (λs4 _d5 w6=>
 zb t17 tr_ (s4.getD 0 u_) λt24=>za (λK7=>gIf t24 false (fl w6 t5 59 1 57 λt27=>pp (Builtin.len_ #[57] 3 #[t27]) λt28=>bt .gtr 3 t28 (i6 8) λt29=>K7 [t29] w6) (K7 [u_] w6)) (λs8 _d9 w10=>
 zb t24 tr_ (s8.getD 0 u_) λt30=>za (λK11=>gIf t30 false (ca YH #[t0,t1] w10 λt34 w15=>
 pp (Op.unary .not t34) λt35=>K11 [t35] w15) (K11 [u_] w10)) (λs12 _d13 w14=>
 zb t30 tr_ (s12.getD 0 u_) λt36=>zc t36 (pp (Instr.build 112 #[]) λt37=>so w14 112 t6 t37 λw16=>pq w16 (zk 112 t6) λr17=>K (.tuple #[r17,(Value.slice Option.none 0 0),fa_]) w16) (fl w14 t5 59 0 3 λt40=>xl w14 70 t1 t40 112 λt42=>pw w14 (Instr.alloc 112 true (.tuple #[])) λt9 w18=>
 so w18 112 t9 t42 λw19=>zo [(Value.slice Option.none 0 0),(i6 0)] w19 (λs21 _d22 w23 K20=>
 fl w23 t5 59 1 57 λt45=>pp (Builtin.len_ #[57] 3 #[t45]) λt46=>bf .lss 3 (s21.getD 1 u_) t46 λt47=>zc t47 (za (λK24=>
 lo w23.drew 112 t9 λt52=>fl w23.drew t5 59 1 57 λt54=>xl w23.drew 57 t54 (s21.getD 1 u_) 76 λt57=>((ca Zj #[t0,t52,t57] w23.drew λt58 w28=>
 pe t58 0 λt59=>pe t58 1 λt60=>pe t58 2 λt61=>pw w28 (Instr.alloc 112 true (.tuple #[])) λt12 w29=>
 Ext w28 w29∧
 so w29 112 t12 t59 λw30=>K24 [t12,t60,t61] w30)∧
 (pw w23.drew (Instr.alloc 112 true (.tuple #[])) λt12_32 w31=>
 Ext w23.drew w31∧
 ca Zj #[t0,t52,t57] w31 λt58_34 w33=>
 pe t58_34 0 λt59_35=>pe t58_34 1 λt60_36=>pe t58_34 2 λt61_37=>so w33 112 t12_32 t59_35 λw38=>K24 [t12_32,t60_36,t61_37] w38))) (λs25 _d26 w27=>
 pp (Op.unary .not (s25.getD 2 u_)) λt63=>zc t63 (pp (Instr.build 112 #[]) λt64=>so w27 112 t6 t64 λw39=>pq w39 (zk 112 t6) λr40=>K (.tuple #[r40,(Value.slice Option.none 0 0),fa_]) w39) (lo w27 112 (s25.getD 0 u_) λt65=>so w27 112 t9 t65 λw41=>pw w41 (Instr.buildSlice 26 1 #[(0,(s25.getD 1 u_))]) λt68 w42=>
 pw w42 (Builtin.append_ #[26,26] 26 #[(s21.getD 0 u_),t68]) λt69 w43=>
 bt .add 3 (s21.getD 1 u_) (i6 1) λt49=>K20 [t69,t49] w43))) (lo w23 112 t9 λt70=>so w23 112 t6 t70 λw44=>pq w44 (zk 112 t6) λr45=>K (.tuple #[r45,(s21.getD 0 u_),tr_]) w44))))))
theorem afz(h:aaf t0 t1 t2 w K):zd prog Xp #[t0,t1,t2] w K:=
 okC false (.s (.r (rz 4 0 10)) (.s (.s (.r (ra 4 0 4 (.grp 18 false (ri 5 4 4) [23] (ra 2 9 0 (.grp 25 false (ri 4 11 4) [29] (ra 2 15 0 (.grp 31 false (ri 4 17 32) [35] (rz 1 21 0)))))))) (.c (.s (.r (rz 4 0 8)) (.n)) (.n))) (.s (.r (rz 7 0 10512)) (.s (.r (rz 1 0 0)) (.s (.s (.r (rz 1 0 0)) (.b (.lp [10,11] (.s (.s (.r (rz 5 0 16)) (.c (.n) (.n))) (.s (.b (.j [12,13,14] (.r (ra 7 0 4164 (.alt 7 .l (rz 8 8 2816) (ra 1 12 3 (ra 5 7 2 (rz 3 13 2)))))) (.s (.s (.r (rz 2 0 0)) (.c (.s (.r (rz 4 0 8)) (.n)) (.n))) (.s (.r (rz 2 0 9)) (.r (rz 5 0 160)))))) (.r (rz 3 0 0))))))) (.s (.r (rz 5 0 33)) (.n))))))) func123 rfl (by kernel_rfl) (by kernel_rfl) h
def Qo(t0:Value)(w:World)(K:VW):Prop:=
 pp (Builtin.len_ #[22] 3 #[t0]) λt8=>bt .gtr 3 t8 (i6 32) λt9=>zc t9 (K fa_ w) (zo [(i6 0)] w (λs2 _d3 w4 K1=>
 pp (Builtin.len_ #[22] 3 #[t0]) λt12=>bf .lss 3 (s2.getD 0 u_) t12 λt13=>zc t13 (px 22 t0 (s2.getD 0 u_) λt18=>fl w4 t18 68 1 66 λt20=>pp (Builtin.len_ #[66] 3 #[t20]) λt21=>bt .lss 3 t21 (i6 1) λt22=>za (λK5=>gIf t22 false (px 22 t0 (s2.getD 0 u_) λt26=>fl w4 t26 68 1 66 λt28=>pp (Builtin.len_ #[66] 3 #[t28]) λt29=>bt .gtr 3 t29 (i6 8) λt30=>K5 [t30] w4) (K5 [u_] w4)) (λs6 _d7 w8=>
 zb t22 tr_ (s6.getD 0 u_) λt31=>zc t31 (K fa_ w8) (zo [(i6 0)] w8 (λs10 _d11 w12 K9=>
 px 22 t0 (s2.getD 0 u_) λt35=>fl w12 t35 68 1 66 λt37=>pp (Builtin.len_ #[66] 3 #[t37]) λt38=>bf .lss 3 (s10.getD 0 u_) t38 λt39=>zc t39 (px 22 t0 (s2.getD 0 u_) λt44=>fl w12 t44 68 1 66 λt46=>px 66 t46 (s10.getD 0 u_) λt48=>fl w12 t48 161 1 112 λt50=>pp (Builtin.len_ #[22] 3 #[t0]) λt52=>ca xf #[t50,t52,(i6 48),fa_] w12 λt53 w13=>
 pp (Op.unary .not t53) λt54=>zc t54 (K fa_ w13) (bt .add 3 (s10.getD 0 u_) (i6 1) λt41=>K9 [t41] w13)) (bt .add 3 (s2.getD 0 u_) (i6 1) λt15=>K1 [t15] w12))))) (zo [(i6 0)] w4 (λs15 _d16 w17 K14=>
 pp (Builtin.len_ #[22] 3 #[t0]) λt57=>bf .lss 3 (s15.getD 0 u_) t57 λt58=>zc t58 (ca Zk #[t0,(s15.getD 0 u_)] w17 λt63 w18=>
 zc t63 (K fa_ w18) (bt .add 3 (s15.getD 0 u_) (i6 1) λt60=>K14 [t60] w18)) (zo [(i6 0)] w17 (λs20 _d21 w22 K19=>
 pp (Builtin.len_ #[22] 3 #[t0]) λt66=>bf .lss 3 (s20.getD 0 u_) t66 λt67=>zc t67 (pp (Instr.build 112 #[(0,(Value.int .u8 5)),(3,(s20.getD 0 u_))]) λt72=>ca vh #[t0,t72] w22 λt73 w23=>
 bt .gtr 3 t73 (i6 16) λt74=>zc t74 (K fa_ w23) (bt .add 3 (s20.getD 0 u_) (i6 1) λt69=>K19 [t69] w23)) (K tr_ w22)))))))
theorem acn(h:Qo t0 w K):zd prog jh #[t0] w K:=
 okC false (.s (.r (rz 1 0 0)) (.s (.s (.r (rz 3 0 0)) (.c (.s (.r (rz 1 0 0)) (.n)) (.n))) (.s (.s (.r (rz 1 0 0)) (.b (.lp [3] (.s (.s (.r (rz 4 0 0)) (.c (.n) (.n))) (.s (.b (.s (.s (.r (ra 8 0 256 (.grp 23 false (ri 7 8 256) [30] (rz 1 15 0)))) (.c (.s (.r (rz 1 0 0)) (.n)) (.n))) (.s (.r (rz 1 0 0)) (.b (.lp [4] (.s (.s (.r (rz 8 0 1024)) (.c (.n) (.n))) (.s (.b (.s (.r (rz 13 0 8454400)) (.c (.s (.r (rz 1 0 0)) (.n)) (.n)))) (.r (rz 3 0 0))))))))) (.r (rz 3 0 0))))))) (.s (.s (.r (rz 1 0 0)) (.b (.lp [5] (.s (.s (.r (rz 4 0 0)) (.c (.n) (.n))) (.s (.b (.s (.r (rz 3 0 32)) (.c (.s (.r (rz 1 0 0)) (.n)) (.n)))) (.r (rz 3 0 0))))))) (.s (.s (.r (rz 1 0 0)) (.b (.lp [6] (.s (.s (.r (rz 4 0 0)) (.c (.n) (.n))) (.s (.b (.s (.r (rz 5 0 128)) (.c (.s (.r (rz 1 0 0)) (.n)) (.n)))) (.r (rz 3 0 0))))))) (.s (.r (rz 1 0 0)) (.n))))))) func120 rfl (by kernel_rfl) (by kernel_rfl) h
def Vr(t0 t1:Value)(w:World)(K:VW):Prop:=
 ca jh #[t0] w λt7 w1=>
 pp (Op.unary .not t7) λt8=>zc t8 (K fa_ w1) (zo [(i6 0)] w1 (λs3 _d4 w5 K2=>
 pp (Builtin.len_ #[70] 3 #[t1]) λt11=>bf .lss 3 (s3.getD 0 u_) t11 λt12=>zc t12 (xl w5 70 t1 (s3.getD 0 u_) 112 λt18=>pp (Builtin.len_ #[22] 3 #[t0]) λt20=>ca xf #[t18,t20,(i6 48),tr_] w5 λt21 w6=>
 pp (Op.unary .not t21) λt22=>zc t22 (K fa_ w6) (bt .add 3 (s3.getD 0 u_) (i6 1) λt14=>K2 [t14] w6)) (K tr_ w5)))
theorem aei(h:Vr t0 t1 w K):zd prog YH #[t0,t1] w K:=
 okC false (.s (.r (rz 1 0 0)) (.s (.s (.r (rz 3 0 8)) (.c (.s (.r (rz 1 0 0)) (.n)) (.n))) (.s (.s (.r (rz 1 0 0)) (.b (.lp [5] (.s (.s (.r (rz 4 0 0)) (.c (.n) (.n))) (.s (.b (.s (.r (rz 8 0 8256)) (.c (.s (.r (rz 1 0 0)) (.n)) (.n)))) (.r (rz 3 0 0))))))) (.s (.r (rz 1 0 0)) (.n))))) func167 rfl (by kernel_rfl) (by kernel_rfl) h
def aag(t0 t1 t2:Value)(w:World)(K:VW):Prop:=
 pw w (Instr.box 112 t1) λt4 w1=>
 pw w1 (Instr.alloc 112 true (.tuple #[])) λt6 w2=>
 bt .eql 76 t2 (i6 (-1)) λt10=>zc t10 (fl w2 t4 112 0 110 λt13=>bt .eql 110 t13 (Value.int .u8 3) λt14=>zc t14 (fl w2 t4 112 4 70 λt16=>xl w2 70 t16 (i6 0) 112 λt18=>so w2 112 t6 t18 λw3=>pq w3 (zk 112 t6) λr4=>K (.tuple #[r4,(i6 1),tr_]) w3) (fl w2 t4 112 0 110 λt21=>bt .eql 110 t21 (Value.int .u8 4) λt22=>za (λK5=>gIf t22 true (fl w2 t4 112 1 4 λt25=>K5 [t25] w2) (K5 [u_] w2)) (λs6 _d7 w8=>
 zb t22 (s6.getD 0 u_) fa_ λt26=>zc t26 (fl w8 t4 112 4 70 λt28=>xl w8 70 t28 (i6 0) 112 λt30=>so w8 112 t6 t30 λw9=>pq w9 (zk 112 t6) λr10=>K (.tuple #[r10,(i6 2),tr_]) w9) (fl w8 t4 112 0 110 λt33=>bt .eql 110 t33 (Value.int .u8 4) λt34=>zc t34 (fl w8 t4 112 4 70 λt36=>xl w8 70 t36 (i6 0) 112 λt38=>so w8 112 t6 t38 λw11=>pq w11 (zk 112 t6) λr12=>K (.tuple #[r12,(i6 3),tr_]) w11) (lo w8 112 t4 λt39=>so w8 112 t6 t39 λw13=>pq w13 (zk 112 t6) λr14=>K (.tuple #[r14,(i6 0),fa_]) w13))))) (fl w2 t4 112 0 110 λt41=>bt .neq 110 t41 (Value.int .u8 5) λt42=>za (λK15=>gIf t42 false (bt .lss 76 t2 (i6 0) λt45=>K15 [t45] w2) (K15 [u_] w2)) (λs16 _d17 w18=>
 zb t42 tr_ (s16.getD 0 u_) λt46=>za (λK19=>gIf t46 false (fl w18 t4 112 3 3 λt51=>px 22 t0 t51 λt52=>fl w18 t52 68 1 66 λt54=>pp (Builtin.len_ #[66] 3 #[t54]) λt55=>bf .geq 3 t2 t55 λt56=>K19 [t56] w18) (K19 [u_] w18)) (λs20 _d21 w22=>
 zb t46 tr_ (s20.getD 0 u_) λt57=>zc t57 (lo w22 112 t4 λt58=>so w22 112 t6 t58 λw23=>pq w23 (zk 112 t6) λr24=>K (.tuple #[r24,(i6 0),fa_]) w23) (fl w22 t4 112 3 3 λt61=>px 22 t0 t61 λt62=>fl w22 t62 68 1 66 λt64=>px 66 t64 t2 λt66=>fl w22 t66 161 1 112 λt68=>so w22 112 t6 t68 λw25=>pq w25 (zk 112 t6) λr26=>K (.tuple #[r26,(i6 0),tr_]) w25))))
theorem afA(h:aag t0 t1 t2 w K):zd prog Zj #[t0,t1,t2] w K:=
 okC false (.s (.r (rz 4 0 10)) (.s (.s (.r (rz 2 0 0)) (.c (.s (.b (.s (.r (rz 4 0 4)) (.c (.s (.r (rz 7 0 580)) (.n)) (.s (.r (ra 4 0 4 (.grp 23 true (ri 2 4 4) [25] (rz 2 6 0)))) (.c (.s (.r (rz 7 0 580)) (.n)) (.s (.r (rz 4 0 4)) (.c (.s (.r (rz 7 0 580)) (.n)) (.n)))))))) (.s (.r (rz 4 0 9)) (.n))) (.n))) (.s (.s (.r (ra 4 0 4 (.grp 43 false (ri 2 4 0) [45] (ra 2 6 0 (.grp 47 false (ri 9 8 4160) [56] (rz 1 17 0)))))) (.c (.s (.r (rz 4 0 9)) (.n)) (.n))) (.s (.r (rz 13 0 2360336)) (.n))))) func168 rfl (by kernel_rfl) (by kernel_rfl) h
def Zw(t0 t1 t2 t3:Value)(w:World)(K:VW):Prop:=
 pw w (Instr.box 112 t0) λt4 w1=>
 bt .lss 3 t2 (i6 1) λt10=>za (λK2=>gIf t10 false (fl w1 t4 112 0 110 λt13=>bt .neq 110 t13 (Value.int .u8 4) λt14=>K2 [t14] w1) (K2 [u_] w1)) (λs3 _d4 w5=>
 za (λK6=>gIf (s3.getD 0 u_) true (fl w5 t4 112 1 4 λt17=>K6 [t17] w5) (K6 [u_] w5)) (λs7 _d8 w9=>
 za (λK10=>gIf (s7.getD 0 u_) false (fl w9 t4 112 2 3 λt20=>bt .neq 3 t20 (i6 0) λt21=>K10 [t21] w9) (K10 [u_] w9)) (λs11 _d12 w13=>
 za (λK14=>gIf (s3.getD 0 u_) true (zb (s7.getD 0 u_) tr_ (s11.getD 0 u_) λt22=>K14 [t22] w13) (K14 [u_] w13)) (λs15 _d16 w17=>
 za (λK18=>gIf t10 false (zb (s3.getD 0 u_) (s15.getD 0 u_) fa_ λt23=>K18 [t23] w17) (K18 [u_] w17)) (λs19 _d20 w21=>
 zb t10 tr_ (s19.getD 0 u_) λt24=>za (λK22=>gIf t24 false (fl w21 t4 112 0 110 λt27=>bt .neq 110 t27 (Value.int .u8 5) λt28=>K22 [t28] w21) (K22 [u_] w21)) (λs23 _d24 w25=>
 za (λK26=>gIf (s23.getD 0 u_) true (fl w25 t4 112 3 3 λt31=>bt .neq 3 t31 (i6 0) λt32=>K26 [t32] w25) (K26 [u_] w25)) (λs27 _d28 w29=>
 za (λK30=>gIf t24 false (zb (s23.getD 0 u_) (s27.getD 0 u_) fa_ λt33=>K30 [t33] w29) (K30 [u_] w29)) (λs31 _d32 w33=>
 zb t24 tr_ (s31.getD 0 u_) λt34=>zc t34 (K fa_ w33) (fl w33 t4 112 0 110 λt36=>za (λK34=>
 bt .eql 110 t36 (Value.int .u8 1) λt38=>zc t38 (K34 [t38] w33) (bt .eql 110 t36 (Value.int .u8 2) λt39=>K34 [t39] w33)) (λs35 _d36 w37=>
 zc (s35.getD 0 u_) (fl w37 t4 112 4 70 λt41=>pp (Builtin.len_ #[70] 3 #[t41]) λt42=>bt .eql 3 t42 (i6 0) λt43=>K t43 w37) (bt .eql 110 t36 (Value.int .u8 5) λt45=>zc t45 (fl w37 t4 112 4 70 λt47=>pp (Builtin.len_ #[70] 3 #[t47]) λt48=>bt .eql 3 t48 (i6 0) λt49=>za (λK38=>gIf t49 true (fl w37 t4 112 3 3 λt52=>bt .geq 3 t52 (i6 0) λt53=>K38 [t53] w37) (K38 [u_] w37)) (λs39 _d40 w41=>
 zb t49 (s39.getD 0 u_) fa_ λt54=>za (λK42=>gIf t54 true (fl w41 t4 112 3 3 λt57=>bf .lss 3 t57 t1 λt59=>K42 [t59] w41) (K42 [u_] w41)) (λs43 _d44 w45=>
 zb t54 (s43.getD 0 u_) fa_ λt60=>K t60 w45))) (bt .eql 110 t36 (Value.int .u8 3) λt62=>zc t62 (fl w37 t4 112 4 70 λt64=>pp (Builtin.len_ #[70] 3 #[t64]) λt65=>bt .eql 3 t65 (i6 1) λt66=>za (λK46=>gIf t66 true (fl w37 t4 112 4 70 λt69=>xl w37 70 t69 (i6 0) 112 λt71=>bt .sub 3 t2 (i6 1) λt74=>ca xf #[t71,t1,t74,t3] w37 λt76 w50=>
 K46 [t76] w50) (K46 [u_] w37)) (λs47 _d48 w49=>
 zb t66 (s47.getD 0 u_) fa_ λt77=>K t77 w49)) (bt .eql 110 t36 (Value.int .u8 4) λt79=>zc t79 (za (λK51=>gIf t3 true (fl w37 t4 112 4 70 λt83=>pp (Builtin.len_ #[70] 3 #[t83]) λt84=>bt .eql 3 t84 (i6 1) λt85=>K51 [t85] w37) (K51 [u_] w37)) (λs52 _d53 w54=>
 zb t3 (s52.getD 0 u_) fa_ λt86=>za (λK55=>gIf t86 true (fl w54 t4 112 2 3 λt89=>bt .geq 3 t89 (i6 (-1)) λt90=>K55 [t90] w54) (K55 [u_] w54)) (λs56 _d57 w58=>
 zb t86 (s56.getD 0 u_) fa_ λt91=>za (λK59=>gIf t91 true (fl w58 t4 112 4 70 λt94=>xl w58 70 t94 (i6 0) 112 λt96=>bt .sub 3 t2 (i6 1) λt99=>ca xf #[t96,t1,t99,t3] w58 λt101 w63=>
 K59 [t101] w63) (K59 [u_] w58)) (λs60 _d61 w62=>
 zb t91 (s60.getD 0 u_) fa_ λt102=>K t102 w62)))) (K fa_ w37))))))))))))))
theorem XQ{t3:Value}(h:Zw t0 t1 t2 t3 w K):zd prog xf #[t0,t1,t2,t3] w K:=
 okC false (.s (.r (rz 2 0 2)) (.s (.s (.r (ra 3 0 0 (.grp 11 false (ri 4 3 4) [15] (.grp 15 true (ri 3 7 4) [18] (.grp 18 false (ri 3 10 4) [21] (.grp 15 true (ri 1 13 0) [22] (.grp 11 false (ri 1 14 0) [23] (ra 2 15 0 (.grp 25 false (ri 4 17 4) [29] (.grp 29 true (ri 3 21 4) [32] (.grp 25 false (ri 1 24 0) [33] (rz 1 25 0)))))))))))) (.c (.s (.r (rz 1 0 0)) (.n)) (.n))) (.s (.s (.r (rz 2 0 4)) (.b (.j [37] (.s (.r (rz 2 0 0)) (.c (.n) (.r (rz 2 0 0)))) (.c (.s (.r (rz 5 0 4)) (.n)) (.s (.r (rz 2 0 0)) (.c (.s (.r (ra 5 0 4 (.grp 50 true (ri 3 5 4) [53] (ra 2 8 0 (.grp 55 true (ri 4 10 4) [59] (rz 2 14 0)))))) (.n)) (.s (.r (rz 2 0 0)) (.c (.s (.r (ra 5 0 4 (.grp 67 true (ri 9 5 131140) [76] (rz 2 14 0)))) (.n)) (.s (.r (rz 2 0 0)) (.c (.s (.r (ra 2 0 0 (.grp 81 true (ri 4 2 4) [85] (ra 2 6 0 (.grp 87 true (ri 3 8 4) [90] (ra 2 11 0 (.grp 92 true (ri 9 13 131140) [101] (rz 2 22 0)))))))) (.n)) (.n))))))))))) (.s (.r (rz 1 0 0)) (.n))))) func151 rfl (by kernel_rfl) (by kernel_rfl) h
def Qp(t0 t1:Value)(w:World)(K:VW):Prop:=
 pw w (Instr.alloc 247 true (.tuple #[])) λt5 w1=>
 zo [(i6 0)] w1 (λs3 _d4 w5 K2=>
 pp (Builtin.len_ #[22] 3 #[t0]) λt11=>bf .leq 3 (s3.getD 0 u_) t11 λt12=>zc t12 (zo [(i6 0)] w5 (λs7 _d8 w9 K6=>
 pp (Builtin.len_ #[22] 3 #[t0]) λt17=>bf .lss 3 (s7.getD 0 u_) t17 λt18=>zc t18 (zo [(i6 0)] w9 (λs11 _d12 w13 K10=>
 px 22 t0 (s7.getD 0 u_) λt24=>fl w13 t24 68 1 66 λt26=>pp (Builtin.len_ #[66] 3 #[t26]) λt27=>bf .lss 3 (s11.getD 0 u_) t27 λt28=>za (λK14=>gIf t28 true (bf .eql 3 (s7.getD 0 u_) t1 λt32=>K14 [t32] w13) (K14 [u_] w13)) (λs15 _d16 w17=>
 za (λK18=>gIf (s15.getD 0 u_) false (xl w17 247 t5 (s7.getD 0 u_) 4 λt36=>K18 [t36] w17) (K18 [u_] w17)) (λs19 _d20 w21=>
 za (λK22=>gIf t28 true (zb (s15.getD 0 u_) tr_ (s19.getD 0 u_) λt37=>K22 [t37] w21) (K22 [u_] w21)) (λs23 _d24 w25=>
 zb t28 (s23.getD 0 u_) fa_ λt38=>zc t38 (za (λK26=>
 px 22 t0 (s7.getD 0 u_) λt43=>fl w25 t43 68 1 66 λt45=>px 66 t45 (s11.getD 0 u_) λt47=>pf 161 t47 1 λt48=>fl w25 t48 112 0 110 λt50=>bt .eql 110 t50 (Value.int .u8 5) λt51=>zc t51 (px 22 t0 (s7.getD 0 u_) λt54=>fl w25 t54 68 1 66 λt56=>px 66 t56 (s11.getD 0 u_) λt58=>pf 161 t58 1 λt59=>fl w25 t59 112 3 3 λt61=>px 247 t5 t61 λt62=>so w25 4 t62 tr_ λw30=>K26 [] w30) (K26 [] w25)) (λ_s27 _d28 w29=>
 bt .add 3 (s11.getD 0 u_) (i6 1) λt40=>K10 [t40] w29)) (bt .add 3 (s7.getD 0 u_) (i6 1) λt20=>K6 [t20] w25)))))) (bt .add 3 (s3.getD 0 u_) (i6 1) λt14=>K2 [t14] w9))) (xl w5 247 t5 t1 4 λt65=>K t65 w5))
theorem aco(h:Qp t0 t1 w K):zd prog Zk #[t0,t1] w K:=
 okC false (.s (.r (rz 1 0 0)) (.s (.r (rz 1 0 2)) (.s (.s (.r (rz 1 0 0)) (.b (.lp [6] (.s (.s (.r (rz 4 0 0)) (.c (.n) (.n))) (.s (.b (.s (.r (rz 1 0 0)) (.b (.lp [7] (.s (.s (.r (rz 4 0 0)) (.c (.n) (.n))) (.s (.b (.s (.r (rz 1 0 0)) (.b (.lp [8] (.s (.s (.r (ra 9 0 1024 (.grp 29 true (ri 4 9 0) [33] (.grp 33 false (ri 3 13 16) [36] (.grp 29 true (ri 1 16 0) [37] (rz 1 17 0)))))) (.c (.n) (.n))) (.j [] (.b (.s (.r (rz 11 0 262400)) (.c (.r (rz 12 0 8651008)) (.n)))) (.r (rz 3 0 0)))))))) (.r (rz 3 0 0)))))))) (.r (rz 3 0 0))))))) (.s (.r (rz 4 0 16)) (.n))))) func152 rfl (by kernel_rfl) (by kernel_rfl) h
def YT(t0 t1:Value)(w:World)(K:VW):Prop:=
 pw w (Instr.box 112 t1) λt3 w1=>
 fl w1 t3 112 0 110 λt8=>bt .neq 110 t8 (Value.int .u8 5) λt9=>zc t9 (K (i6 1) w1) (zo [(i6 0),(i6 0)] w1 (λs3 _d4 w5 K2=>
 fl w5 t3 112 3 3 λt13=>px 22 t0 t13 λt14=>fl w5 t14 68 1 66 λt16=>pp (Builtin.len_ #[66] 3 #[t16]) λt17=>bf .lss 3 (s3.getD 1 u_) t17 λt18=>za (λK6=>gIf t18 true (bt .leq 3 (s3.getD 0 u_) (i6 16) λt21=>K6 [t21] w5) (K6 [u_] w5)) (λs7 _d8 w9=>
 zb t18 (s7.getD 0 u_) fa_ λt22=>zc t22 (fl w9 t3 112 3 3 λt29=>px 22 t0 t29 λt30=>fl w9 t30 68 1 66 λt32=>px 66 t32 (s3.getD 1 u_) λt34=>fl w9 t34 161 1 112 λt36=>ca vh #[t0,t36] w9 λt37 w10=>
 bf .add 3 (s3.getD 0 u_) t37 λt38=>bt .add 3 (s3.getD 1 u_) (i6 1) λt24=>K2 [t38,t24] w10) (K (s3.getD 0 u_) w9))))
theorem Jp(h:YT t0 t1 w K):zd prog vh #[t0,t1] w K:=
 okC false (.s (.r (rz 2 0 2)) (.s (.s (.r (rz 3 0 4)) (.c (.s (.r (rz 1 0 0)) (.n)) (.n))) (.s (.r (rz 1 0 0)) (.s (.s (.r (rz 1 0 0)) (.b (.lp [5,6] (.s (.s (.r (ra 10 0 4160 (.grp 19 true (ri 2 10 0) [21] (rz 1 12 0)))) (.c (.n) (.n))) (.s (.b (.r (rz 15 0 37765376))) (.r (rz 3 0 0))))))) (.s (.r (rz 2 0 0)) (.n)))))) func153 rfl (by kernel_rfl) (by kernel_rfl) h
def adm(t0 t1 t2:Value)(w:World)(K:VW):Prop:=
 pw w (Instr.box 25 t0) λt3 w1=>
 lo w1 25 t3 λt7=>ca QC #[t7] w1 λt8 w2=>
 za (λK3=>gIf t8 true (bt .geq 3 t1 (i6 0) λt11=>K3 [t11] w2) (K3 [u_] w2)) (λs4 _d5 w6=>
 zb t8 (s4.getD 0 u_) fa_ λt12=>za (λK7=>gIf t12 true (fl w6 t3 25 1 23 λt16=>pp (Builtin.len_ #[23] 3 #[t16]) λt17=>bf .lss 3 t1 t17 λt18=>K7 [t18] w6) (K7 [u_] w6)) (λs8 _d9 w10=>
 zb t12 (s8.getD 0 u_) fa_ λt19=>za (λK11=>gIf t19 true (fl w10 t3 25 1 23 λt23=>px 23 t23 t1 λt25=>fl w10 t25 74 6 72 λt27=>pp (Builtin.len_ #[72] 3 #[t27]) λt28=>bf .lss 3 t2 t28 λt29=>K11 [t29] w10) (K11 [u_] w10)) (λs12 _d13 w14=>
 zb t19 (s12.getD 0 u_) fa_ λt30=>K t30 w14)))
theorem ahG(h:adm t0 t1 t2 w K):zd prog JI #[t0,t1,t2] w K:=
 okC false (.s (.r (rz 2 0 2)) (.s (.r (ra 3 0 9 (.grp 9 true (ri 2 3 0) [11] (ra 2 5 0 (.grp 13 true (ri 5 7 16) [18] (ra 2 12 0 (.grp 20 true (ri 9 14 4112) [29] (rz 2 23 0)))))))) (.n))) func34 rfl (by kernel_rfl) (by kernel_rfl) h
def abD(t0:Value)(w:World)(K:VW):Prop:=
 pw w (Instr.box 25 t0) λt1 w1=>
 lo w1 25 t1 λt7=>ca YI #[t7] w1 λt8 w2=>
 pe t8 0 λ_t9=>pe t8 1 λ_t10=>pe t8 2 λt11=>bt .eql 3 t11 (i6 0) λt13=>K t13 w2
theorem agN(h:abD t0 w K):zd prog QC #[t0] w K:=
 okC false (.s (.r (rz 2 0 2)) (.s (.r (rz 9 0 9)) (.s (.r (rz 3 0 0)) (.n)))) func62 rfl (by kernel_rfl) (by kernel_rfl) h
def Vs(t0:Value)(w:World)(K:VW):Prop:=
 pw w (Instr.box 25 t0) λt1 w1=>
 fl w1 t1 25 0 22 λt10=>ca jh #[t10] w1 λt11 w2=>
 pp (Op.unary .not t11) λt12=>za (λK3=>gIf t12 false (fl w2 t1 25 1 23 λt15=>pp (Builtin.len_ #[23] 3 #[t15]) λt16=>bt .lss 3 t16 (i6 1) λt17=>K3 [t17] w2) (K3 [u_] w2)) (λs4 _d5 w6=>
 zb t12 tr_ (s4.getD 0 u_) λt18=>za (λK7=>gIf t18 false (fl w6 t1 25 1 23 λt21=>pp (Builtin.len_ #[23] 3 #[t21]) λt22=>bt .gtr 3 t22 (i6 32) λt23=>K7 [t23] w6) (K7 [u_] w6)) (λs8 _d9 w10=>
 zb t18 tr_ (s8.getD 0 u_) λt24=>za (λK11=>gIf t24 false (fl w10 t1 25 2 3 λt27=>bt .lss 3 t27 (i6 0) λt28=>K11 [t28] w10) (K11 [u_] w10)) (λs12 _d13 w14=>
 zb t24 tr_ (s12.getD 0 u_) λt29=>za (λK15=>gIf t29 false (fl w14 t1 25 2 3 λt32=>fl w14 t1 25 1 23 λt34=>pp (Builtin.len_ #[23] 3 #[t34]) λt35=>bf .geq 3 t32 t35 λt36=>K15 [t36] w14) (K15 [u_] w14)) (λs16 _d17 w18=>
 zb t29 tr_ (s16.getD 0 u_) λt37=>zc t37 (K (.tuple #[(i6 (-1)),(i6 (-1)),(i6 100)]) w18) (zo [(i6 0)] w18 (λs20 _d21 w22 K19=>
 fl w22 t1 25 1 23 λt40=>pp (Builtin.len_ #[23] 3 #[t40]) λt41=>bf .lss 3 (s20.getD 0 u_) t41 λt42=>zc t42 (lo w22 25 t1 λt45=>ca Xq #[t45,(s20.getD 0 u_)] w22 λt47 w23=>
 pp (Op.unary .not t47) λt48=>zc t48 (K (.tuple #[(s20.getD 0 u_),(i6 (-1)),(i6 100)]) w23) (bt .add 3 (s20.getD 0 u_) (i6 1) λt44=>K19 [t44] w23)) (zo [(i6 0)] w22 (λs25 _d26 w27 K24=>
 fl w27 t1 25 1 23 λt52=>pp (Builtin.len_ #[23] 3 #[t52]) λt53=>bf .lss 3 (s25.getD 0 u_) t53 λt54=>zc t54 (lo w27.drew 25 t1 λt57=>fl w27.drew t1 25 1 23 λt59=>xl w27.drew 23 t59 (s25.getD 0 u_) 74 λt62=>pp (Instr.build 149 #[(0,t57),(1,t62)]) λt63=>pw w27.drew (Instr.box 149 t63) λt64 w28=>
 zo [(i6 0)] w28 (λs30 _d31 w32 K29=>
 fl w32 t1 25 1 23 λt67=>px 23 t67 (s25.getD 0 u_) λt69=>fl w32 t69 74 6 72 λt71=>pp (Builtin.len_ #[72] 3 #[t71]) λt72=>bf .lss 3 (s30.getD 0 u_) t72 λt73=>zc t73 (fl w32 t1 25 1 23 λt78=>px 23 t78 (s25.getD 0 u_) λt80=>fl w32 t80 74 6 72 λt82=>xl w32 72 t82 (s30.getD 0 u_) 94 λt85=>ca qY #[t64,t85] w32 λt86 w33=>
 pp (Op.unary .not t86) λt87=>zc t87 (K (.tuple #[(s25.getD 0 u_),(s30.getD 0 u_),(i6 100)]) w33) (bt .add 3 (s30.getD 0 u_) (i6 1) λt75=>K29 [t75] w33)) (bt .add 3 (s25.getD 0 u_) (i6 1) λt56=>K24 [t56] w32))) (K (.tuple #[(i6 0),(i6 0),(i6 0)]) w27)))))))))
theorem aej(h:Vs t0 w K):zd prog YI #[t0] w K:=
 okC false (.s (.r (rz 4 0 2)) (.s (.s (.r (ra 5 0 36 (.grp 13 false (ri 4 5 4) [17] (ra 2 9 0 (.grp 19 false (ri 4 11 4) [23] (ra 2 15 0 (.grp 25 false (ri 3 17 4) [28] (ra 2 20 0 (.grp 30 false (ri 6 22 68) [36] (rz 1 28 0)))))))))) (.c (.s (.r (rz 3 0 0)) (.n)) (.n))) (.s (.s (.r (rz 1 0 0)) (.b (.lp [5] (.s (.s (.r (rz 5 0 16)) (.c (.n) (.n))) (.s (.b (.s (.r (rz 4 0 33)) (.c (.s (.r (rz 4 0 0)) (.n)) (.n)))) (.r (rz 3 0 0))))))) (.s (.s (.r (rz 1 0 0)) (.b (.lp [6] (.s (.s (.r (rz 5 0 16)) (.c (.n) (.n))) (.s (.b (.s (.r (rz 9 0 33809)) (.s (.r (rz 1 0 0)) (.b (.lp [8] (.s (.s (.r (rz 9 0 4112)) (.c (.n) (.n))) (.s (.b (.s (.r (rz 12 0 2363408)) (.c (.s (.r (rz 5 0 0)) (.n)) (.n)))) (.r (rz 3 0 0))))))))) (.r (rz 3 0 0))))))) (.s (.r (rz 3 0 0)) (.n)))))) func90 rfl (by kernel_rfl) (by kernel_rfl) h
def aah(t0 t1:Value)(w:World)(K:VW):Prop:=
 pw w (Instr.box 25 t0) λt2 w1=>
 fl w1 t2 25 1 23 λt20=>xl w1 23 t20 t1 74 λt23=>pw w1 (Instr.alloc 74 true (.tuple #[])) λt5 w2=>
 so w2 74 t5 t23 λw3=>fl w3 t5 74 1 3 λt25=>bt .lss 3 t25 (i6 0) λt26=>za (λK4=>gIf t26 false (fl w3 t5 74 1 3 λt29=>bt .gtr 3 t29 (i6 8) λt30=>K4 [t30] w3) (K4 [u_] w3)) (λs5 _d6 w7=>
 zb t26 tr_ (s5.getD 0 u_) λt31=>za (λK8=>gIf t31 false (fl w7 t5 74 3 3 λt34=>bt .lss 3 t34 (i6 0) λt35=>K8 [t35] w7) (K8 [u_] w7)) (λs9 _d10 w11=>
 zb t31 tr_ (s9.getD 0 u_) λt36=>za (λK12=>gIf t36 false (fl w11 t5 74 3 3 λt39=>bt .gtr 3 t39 (i6 8) λt40=>K12 [t40] w11) (K12 [u_] w11)) (λs13 _d14 w15=>
 zb t36 tr_ (s13.getD 0 u_) λt41=>za (λK16=>gIf t41 false (fl w15 t5 74 4 70 λt44=>pp (Builtin.len_ #[70] 3 #[t44]) λt45=>fl w15 t5 74 3 3 λt47=>bf .leq 3 t45 t47 λt48=>K16 [t48] w15) (K16 [u_] w15)) (λs17 _d18 w19=>
 zb t41 tr_ (s17.getD 0 u_) λt49=>za (λK20=>gIf t49 false (fl w19 t5 74 4 70 λt52=>pp (Builtin.len_ #[70] 3 #[t52]) λt53=>bt .gtr 3 t53 (i6 512) λt54=>K20 [t54] w19) (K20 [u_] w19)) (λs21 _d22 w23=>
 zb t49 tr_ (s21.getD 0 u_) λt55=>za (λK24=>gIf t55 false (fl w23 t5 74 5 71 λt58=>pp (Builtin.len_ #[71] 3 #[t58]) λt59=>fl w23 t5 74 4 70 λt61=>pp (Builtin.len_ #[70] 3 #[t61]) λt62=>bf .neq 3 t59 t62 λt63=>K24 [t63] w23) (K24 [u_] w23)) (λs25 _d26 w27=>
 zb t55 tr_ (s25.getD 0 u_) λt64=>zc t64 (K fa_ w27) (zo [(i6 0)] w27 (λs29 _d30 w31 K28=>
 fl w31 t5 74 4 70 λt67=>pp (Builtin.len_ #[70] 3 #[t67]) λt68=>bf .lss 3 (s29.getD 0 u_) t68 λt69=>zc t69 (fl w31.drew t5 74 4 70 λt73=>xl w31.drew 70 t73 (s29.getD 0 u_) 112 λt76=>fl w31.drew t2 25 0 22 λt78=>pp (Builtin.len_ #[22] 3 #[t78]) λt79=>ca xf #[t76,t79,(i6 48),tr_] w31.drew λt80 w32=>
 pp (Op.unary .not t80) λt81=>zc t81 (K fa_ w32) (fl w32 t5 74 4 70 λt83=>xl w32 70 t83 (s29.getD 0 u_) 112 λt86=>ca jg #[t86] w32 λt87 w33=>
 zo [(i6 0)] w33 (λs35 _d36 w37 K34=>
 pp (Builtin.len_ #[26] 3 #[t87]) λt90=>bf .lss 3 (s35.getD 0 u_) t90 λt91=>zc t91 (xl w37.drew 26 t87 (s35.getD 0 u_) 3 λt97=>fl w37.drew t5 74 1 3 λt99=>bf .geq 3 t97 t99 λt100=>za (λK38=>gIf t100 false (fl w37.drew t5 74 3 3 λt104=>bf .leq 3 (s29.getD 0 u_) t104 λt105=>K38 [t105] w37.drew) (K38 [u_] w37.drew)) (λs39 _d40 w41=>
 za (λK42=>gIf (s39.getD 0 u_) true (xl w41 26 t87 (s35.getD 0 u_) 3 λt110=>bt .lss 3 t110 (i6 0) λt111=>K42 [t111] w41) (K42 [u_] w41)) (λs43 _d44 w45=>
 za (λK46=>gIf t100 false (zb (s39.getD 0 u_) (s43.getD 0 u_) fa_ λt112=>K46 [t112] w45) (K46 [u_] w45)) (λs47 _d48 w49=>
 zb t100 tr_ (s47.getD 0 u_) λt113=>zc t113 (K fa_ w49) (bt .add 3 (s35.getD 0 u_) (i6 1) λt93=>K34 [t93] w49))))) (bt .add 3 (s29.getD 0 u_) (i6 1) λt71=>K28 [t71] w37)))) (pw w31 (Instr.alloc 204 true (.tuple #[])) λt9 w50=>
 pw w50 (Instr.alloc 204 true (.tuple #[])) λt10 w51=>
 zo [(i6 0)] w51 (λs53 _d54 w55 K52=>
 fl w55 t5 74 3 3 λt116=>bf .leq 3 (s53.getD 0 u_) t116 λt117=>zc t117 (fl w55 t5 74 4 70 λt121=>xl w55 70 t121 (s53.getD 0 u_) 112 λt124=>ca Xr #[t124,t9] w55 λ_t125 w56=>
 bt .add 3 (s53.getD 0 u_) (i6 1) λt119=>K52 [t119] w56) (zo [(i6 0)] w55 (λs58 _d59 w60 K57=>
 fl w60 t5 74 2 69 λt128=>pp (Builtin.len_ #[69] 3 #[t128]) λt129=>bf .lss 3 (s58.getD 0 u_) t129 λt130=>zc t130 (fl w60 t5 74 2 69 λt134=>xl w60 69 t134 (s58.getD 0 u_) 208 λt137=>pw w60 (Instr.alloc 208 true (.tuple #[])) λt13 w61=>
 so w61 208 t13 t137 λw62=>fl w62 t13 208 0 3 λt139=>bt .lss 3 t139 (i6 0) λt140=>za (λK63=>gIf t140 false (fl w62 t13 208 0 3 λt143=>fl w62 t5 74 1 3 λt145=>bf .geq 3 t143 t145 λt146=>K63 [t146] w62) (K63 [u_] w62)) (λs64 _d65 w66=>
 zb t140 tr_ (s64.getD 0 u_) λt147=>za (λK67=>gIf t147 false (fl w66 t13 208 1 3 λt150=>bt .lss 3 t150 (i6 0) λt151=>K67 [t151] w66) (K67 [u_] w66)) (λs68 _d69 w70=>
 zb t147 tr_ (s68.getD 0 u_) λt152=>za (λK71=>gIf t152 false (fl w70 t13 208 1 3 λt155=>fl w70 t5 74 1 3 λt157=>bf .geq 3 t155 t157 λt158=>K71 [t158] w70) (K71 [u_] w70)) (λs72 _d73 w74=>
 zb t152 tr_ (s72.getD 0 u_) λt159=>za (λK75=>gIf t159 false (fl w74 t13 208 0 3 λt162=>fl w74 t13 208 1 3 λt164=>bf .eql 3 t162 t164 λt165=>K75 [t165] w74) (K75 [u_] w74)) (λs76 _d77 w78=>
 zb t159 tr_ (s76.getD 0 u_) λt166=>zc t166 (K fa_ w78) (bt .gtr 3 (s58.getD 0 u_) (i6 0) λt168=>za (λK79=>gIf t168 true (fl w78.drew t5 74 2 69 λt171=>bt .sub 3 (s58.getD 0 u_) (i6 1) λt173=>px 69 t171 t173 λt174=>fl w78.drew t174 208 0 3 λt176=>fl w78.drew t13 208 0 3 λt178=>bf .gtr 3 t176 t178 λt179=>K79 [t179] w78.drew) (K79 [u_] w78.drew)) (λs80 _d81 w82=>
 za (λK83=>gIf (s80.getD 0 u_) false (fl w82 t5 74 2 69 λt182=>bt .sub 3 (s58.getD 0 u_) (i6 1) λt184=>px 69 t182 t184 λt185=>fl w82 t185 208 0 3 λt187=>fl w82 t13 208 0 3 λt189=>bf .eql 3 t187 t189 λt190=>K83 [t190] w82) (K83 [u_] w82)) (λs84 _d85 w86=>
 za (λK87=>gIf (s84.getD 0 u_) true (fl w86 t5 74 2 69 λt193=>bt .sub 3 (s58.getD 0 u_) (i6 1) λt195=>px 69 t193 t195 λt196=>fl w86 t196 208 1 3 λt198=>fl w86 t13 208 1 3 λt200=>bf .geq 3 t198 t200 λt201=>K87 [t201] w86) (K87 [u_] w86)) (λs88 _d89 w90=>
 za (λK91=>gIf (s80.getD 0 u_) false (zb (s84.getD 0 u_) (s88.getD 0 u_) fa_ λt202=>K91 [t202] w90) (K91 [u_] w90)) (λs92 _d93 w94=>
 za (λK95=>gIf t168 true (zb (s80.getD 0 u_) tr_ (s92.getD 0 u_) λt203=>K95 [t203] w94) (K95 [u_] w94)) (λs96 _d97 w98=>
 zb t168 (s96.getD 0 u_) fa_ λt204=>zc t204 (K fa_ w98) (fl w98.drew t13 208 0 3 λt206=>fl w98.drew t13 208 1 3 λt208=>px 204 t10 t206 λt209=>px 203 t209 t208 λt210=>so w98.drew 4 t210 tr_ λw99=>bt .add 3 (s58.getD 0 u_) (i6 1) λt132=>K57 [t132] w99)))))))))))) (zo [(i6 0)] w60 (λs101 _d102 w103 K100=>
 fl w103 t5 74 1 3 λt213=>bf .lss 3 (s101.getD 0 u_) t213 λt214=>zc t214 (zo [(i6 0)] w103 (λs105 _d106 w107 K104=>
 fl w107 t5 74 1 3 λt219=>bf .lss 3 (s105.getD 0 u_) t219 λt220=>zc t220 (bf .neq 3 (s101.getD 0 u_) (s105.getD 0 u_) λt225=>za (λK108=>gIf t225 true (px 204 t9 (s101.getD 0 u_) λt229=>xl w107 203 t229 (s105.getD 0 u_) 4 λt231=>K108 [t231] w107) (K108 [u_] w107)) (λs109 _d110 w111=>
 zb t225 (s109.getD 0 u_) fa_ λt232=>za (λK112=>gIf t232 true (px 204 t10 (s101.getD 0 u_) λt236=>xl w111 203 t236 (s105.getD 0 u_) 4 λt238=>pp (Op.unary .not t238) λt239=>K112 [t239] w111) (K112 [u_] w111)) (λs113 _d114 w115=>
 zb t232 (s113.getD 0 u_) fa_ λt240=>zc t240 (K fa_ w115) (zo [(i6 0)] w115 (λs117 _d118 w119 K116=>
 fl w119 t5 74 1 3 λt243=>bf .lss 3 (s117.getD 0 u_) t243 λt244=>zc t244 (bf .neq 3 (s101.getD 0 u_) (s117.getD 0 u_) λt249=>za (λK120=>gIf t249 true (px 204 t10 (s101.getD 0 u_) λt253=>xl w119 203 t253 (s105.getD 0 u_) 4 λt255=>K120 [t255] w119) (K120 [u_] w119)) (λs121 _d122 w123=>
 zb t249 (s121.getD 0 u_) fa_ λt256=>za (λK124=>gIf t256 true (px 204 t10 (s105.getD 0 u_) λt260=>xl w123 203 t260 (s117.getD 0 u_) 4 λt262=>K124 [t262] w123) (K124 [u_] w123)) (λs125 _d126 w127=>
 zb t256 (s125.getD 0 u_) fa_ λt263=>za (λK128=>gIf t263 true (px 204 t10 (s101.getD 0 u_) λt267=>xl w127 203 t267 (s117.getD 0 u_) 4 λt269=>pp (Op.unary .not t269) λt270=>K128 [t270] w127) (K128 [u_] w127)) (λs129 _d130 w131=>
 zb t263 (s129.getD 0 u_) fa_ λt271=>zc t271 (K fa_ w131) (bt .add 3 (s117.getD 0 u_) (i6 1) λt246=>K116 [t246] w131))))) (bt .add 3 (s105.getD 0 u_) (i6 1) λt222=>K104 [t222] w119)))))) (bt .add 3 (s101.getD 0 u_) (i6 1) λt216=>K100 [t216] w107))) (zo [(i6 0),(i6 0)] w103 (λs133 _d134 w135 K132=>
 fl w135 t5 74 6 72 λt274=>pp (Builtin.len_ #[72] 3 #[t274]) λt275=>bf .lss 3 (s133.getD 1 u_) t275 λt276=>za (λK136=>gIf t276 true (bt .leq 3 (s133.getD 1 u_) (i6 1024) λt279=>K136 [t279] w135) (K136 [u_] w135)) (λs137 _d138 w139=>
 zb t276 (s137.getD 0 u_) fa_ λt280=>zc t280 (za (λK140=>
 fl w139 t5 74 6 72 λt284=>px 72 t284 (s133.getD 1 u_) λt286=>fl w139 t286 94 0 92 λt288=>bt .eql 92 t288 (Value.int .u8 4) λt289=>zc t289 (bt .add 3 (s133.getD 0 u_) (i6 1) λt291=>K140 [t291] w139) (K140 [(s133.getD 0 u_)] w139)) (λs141 _d142 w143=>
 bt .add 3 (s133.getD 1 u_) (i6 1) λt282=>K132 [(s141.getD 0 u_),t282] w143)) (fl w139 t5 74 6 72 λt293=>pp (Builtin.len_ #[72] 3 #[t293]) λt294=>bt .lss 3 t294 (i6 1) λt295=>za (λK144=>gIf t295 false (fl w139 t5 74 6 72 λt298=>pp (Builtin.len_ #[72] 3 #[t298]) λt299=>bt .gtr 3 t299 (i6 1024) λt300=>K144 [t300] w139) (K144 [u_] w139)) (λs145 _d146 w147=>
 zb t295 tr_ (s145.getD 0 u_) λt301=>za (λK148=>gIf t301 false (bt .gtr 3 (s133.getD 0 u_) (i6 256) λt304=>K148 [t304] w147) (K148 [u_] w147)) (λs149 _d150 w151=>
 zb t301 tr_ (s149.getD 0 u_) λt305=>zc t305 (K fa_ w151) (fl w151 t2 25 2 3 λt308=>bf .neq 3 t1 t308 λt309=>za (λK152=>gIf t309 false (fl w151 t5 74 1 3 λt312=>bt .eql 3 t312 (i6 0) λt313=>K152 [t313] w151) (K152 [u_] w151)) (λs153 _d154 w155=>
 za (λK156=>gIf (s153.getD 0 u_) true (fl w155 t5 74 3 3 λt316=>bt .eql 3 t316 (i6 0) λt317=>K156 [t317] w155) (K156 [u_] w155)) (λs157 _d158 w159=>
 za (λK160=>gIf t309 false (zb (s153.getD 0 u_) (s157.getD 0 u_) fa_ λt318=>K160 [t318] w159) (K160 [u_] w159)) (λs161 _d162 w163=>
 za (λK164=>gIf (s161.getD 0 u_) true (fl w163 t5 74 4 70 λt321=>px 70 t321 (i6 0) λt322=>fl w163 t322 112 0 110 λt324=>bt .eql 110 t324 (Value.int .u8 1) λt325=>K164 [t325] w163) (K164 [u_] w163)) (λs165 _d166 w167=>
 za (λK168=>gIf t309 false (zb (s161.getD 0 u_) (s165.getD 0 u_) fa_ λt326=>K168 [t326] w167) (K168 [u_] w167)) (λs169 _d170 w171=>
 zb t309 tr_ (s169.getD 0 u_) λt327=>K t327 w171))))))))))))))))))))))))))
theorem afB(h:aah t0 t1 w K):zd prog Xq #[t0,t1] w K:=
 okC false (.s (.r (rz 2 0 2)) (.s (.r (rz 7 0 10500)) (.s (.s (.r (ra 4 0 4 (.grp 27 false (ri 3 4 4) [30] (ra 2 7 0 (.grp 32 false (ri 3 9 4) [35] (ra 2 12 0 (.grp 37 false (ri 3 14 4) [40] (ra 2 17 0 (.grp 42 false (ri 6 19 260) [48] (ra 2 25 0 (.grp 50 false (ri 4 27 4) [54] (ra 2 31 0 (.grp 56 false (ri 7 33 260) [63] (rz 1 40 0)))))))))))))) (.c (.s (.r (rz 1 0 0)) (.n)) (.n))) (.s (.s (.r (rz 1 0 0)) (.b (.lp [6] (.s (.s (.r (rz 5 0 16)) (.c (.n) (.n))) (.s (.b (.s (.s (.r (rz 10 0 135428)) (.c (.s (.r (rz 1 0 0)) (.n)) (.n))) (.s (.r (rz 7 0 2308)) (.s (.r (rz 1 0 0)) (.b (.lp [8] (.s (.s (.r (rz 4 0 0)) (.c (.n) (.n))) (.s (.b (.s (.r (ra 8 0 1088 (.grp 101 false (ri 5 8 16) [106] (.grp 106 true (ri 5 13 64) [111] (.grp 101 false (ri 1 18 0) [112] (rz 1 19 0)))))) (.c (.s (.r (rz 1 0 0)) (.n)) (.n)))) (.r (rz 3 0 0)))))))))) (.r (rz 3 0 0))))))) (.s (.r (rz 2 0 10)) (.s (.s (.r (rz 1 0 0)) (.b (.lp [11] (.s (.s (.r (rz 4 0 16)) (.c (.n) (.n))) (.s (.b (.r (rz 6 0 2308))) (.r (rz 3 0 0))))))) (.s (.s (.r (rz 1 0 0)) (.b (.lp [12] (.s (.s (.r (rz 5 0 16)) (.c (.n) (.n))) (.s (.b (.s (.r (rz 7 0 10500)) (.s (.s (.r (ra 4 0 4 (.grp 141 false (ri 5 4 68) [146] (ra 2 9 0 (.grp 148 false (ri 3 11 4) [151] (ra 2 14 0 (.grp 153 false (ri 5 16 68) [158] (ra 2 21 0 (.grp 160 false (ri 5 23 68) [165] (rz 1 28 0)))))))))) (.c (.s (.r (rz 1 0 0)) (.n)) (.n))) (.s (.s (.r (ra 3 0 0 (.grp 169 true (ri 11 3 69636) [180] (.grp 180 false (ri 11 14 69636) [191] (.grp 191 true (ri 10 25 69636) [201] (.grp 180 false (ri 1 35 0) [202] (.grp 169 true (ri 1 36 0) [203] (rz 1 37 0)))))))) (.c (.s (.r (rz 1 0 0)) (.n)) (.n))) (.r (rz 7 0 8260)))))) (.r (rz 3 0 0))))))) (.s (.s (.r (rz 1 0 0)) (.b (.lp [14] (.s (.s (.r (rz 4 0 16)) (.c (.n) (.n))) (.s (.b (.s (.r (rz 1 0 0)) (.b (.lp [15] (.s (.s (.r (rz 4 0 16)) (.c (.n) (.n))) (.s (.b (.s (.s (.r (ra 4 0 0 (.grp 226 true (ri 5 4 256) [231] (ra 2 9 0 (.grp 233 true (ri 6 11 256) [239] (rz 1 17 0)))))) (.c (.s (.r (rz 1 0 0)) (.n)) (.n))) (.s (.r (rz 1 0 0)) (.b (.lp [16] (.s (.s (.r (rz 4 0 16)) (.c (.n) (.n))) (.s (.b (.s (.r (ra 4 0 0 (.grp 250 true (ri 5 4 256) [255] (ra 2 9 0 (.grp 257 true (ri 5 11 256) [262] (ra 2 16 0 (.grp 264 true (ri 6 18 256) [270] (rz 1 24 0)))))))) (.c (.s (.r (rz 1 0 0)) (.n)) (.n)))) (.r (rz 3 0 0))))))))) (.r (rz 3 0 0)))))))) (.r (rz 3 0 0))))))) (.s (.r (rz 1 0 0)) (.s (.s (.r (rz 1 0 0)) (.b (.lp [17,18] (.s (.s (.r (ra 6 0 16 (.grp 277 true (ri 2 6 0) [279] (rz 1 8 0)))) (.c (.n) (.n))) (.j [17] (.b (.s (.r (rz 7 0 1028)) (.c (.r (rz 3 0 0)) (.n)))) (.r (rz 3 0 0))))))) (.s (.s (.r (ra 5 0 4 (.grp 296 false (ri 4 5 4) [300] (ra 2 9 0 (.grp 302 false (ri 2 11 0) [304] (rz 1 13 0)))))) (.c (.s (.r (rz 1 0 0)) (.n)) (.n))) (.s (.r (ra 5 0 16 (.grp 310 false (ri 4 5 4) [314] (.grp 314 true (ri 3 9 4) [317] (.grp 310 false (ri 2 12 0) [319] (.grp 319 true (ri 6 14 260) [325] (.grp 310 false (ri 1 20 0) [326] (rz 2 21 0)))))))) (.n))))))))))))) func121 rfl (by kernel_rfl) (by kernel_rfl) h
def ZJ(t0 t1:Value)(w:World)(K:VW):Prop:=
 pw w (Instr.box 94 t1) λt3 w1=>
 fa t0 149 1 λt23=>fl w1 t23 74 6 72 λt25=>pp (Builtin.len_ #[72] 3 #[t25]) λt26=>fl w1 t3 94 12 3 λt28=>bt .lss 3 t28 (i6 0) λt29=>za (λK2=>gIf t29 false (fl w1 t3 94 0 92 λt32=>bt .eql 92 t32 (Value.int .u8 14) λt33=>K2 [t33] w1) (K2 [u_] w1)) (λs3 _d4 w5=>
 za (λK6=>gIf (s3.getD 0 u_) true (fl w5 t3 94 10 3 λt36=>bt .neq 3 t36 (i6 0) λt37=>K6 [t37] w5) (K6 [u_] w5)) (λs7 _d8 w9=>
 za (λK10=>gIf t29 false (zb (s3.getD 0 u_) (s7.getD 0 u_) fa_ λt38=>K10 [t38] w9) (K10 [u_] w9)) (λs11 _d12 w13=>
 zb t29 tr_ (s11.getD 0 u_) λt39=>za (λK14=>gIf t39 false (fl w13 t3 94 0 92 λt42=>bt .neq 92 t42 (Value.int .u8 14) λt43=>K14 [t43] w13) (K14 [u_] w13)) (λs15 _d16 w17=>
 za (λK18=>gIf (s15.getD 0 u_) true (fl w17 t3 94 10 3 λt46=>bt .lss 3 t46 (i6 0) λt47=>K18 [t47] w17) (K18 [u_] w17)) (λs19 _d20 w21=>
 za (λK22=>gIf (s19.getD 0 u_) false (fl w21 t3 94 10 3 λt50=>bf .geq 3 t50 t26 λt52=>K22 [t52] w21) (K22 [u_] w21)) (λs23 _d24 w25=>
 za (λK26=>gIf (s15.getD 0 u_) true (zb (s19.getD 0 u_) tr_ (s23.getD 0 u_) λt53=>K26 [t53] w25) (K26 [u_] w25)) (λs27 _d28 w29=>
 za (λK30=>gIf t39 false (zb (s15.getD 0 u_) (s27.getD 0 u_) fa_ λt54=>K30 [t54] w29) (K30 [u_] w29)) (λs31 _d32 w33=>
 zb t39 tr_ (s31.getD 0 u_) λt55=>zc t55 (K fa_ w33) (fl w33 t3 94 1 59 λt59=>ca vu #[t0,t59] w33 λt60 w34=>
 pe t60 0 λt61=>pe t60 1 λt62=>pw w34 (Instr.alloc 112 true (.tuple #[])) λt6 w35=>
 so w35 112 t6 t61 λw36=>fl w36 t3 94 2 61 λt66=>ca y7 #[t0,t66] w36 λt67 w37=>
 pe t67 0 λt68=>pe t67 1 λt69=>pw w37 (Instr.alloc 112 true (.tuple #[])) λt8 w38=>
 so w38 112 t8 t68 λw39=>fl w39 t3 94 3 61 λt73=>ca y7 #[t0,t73] w39 λt74 w40=>
 pe t74 0 λt75=>pe t74 1 λt76=>pw w40 (Instr.alloc 112 true (.tuple #[])) λt10 w41=>
 so w41 112 t10 t75 λw42=>fl w42 t3 94 6 59 λt80=>ca yC #[t0,t80] w42 λt81 w43=>
 pe t81 0 λt82=>pe t81 1 λt83=>pe t81 2 λt84=>pw w43 (Instr.alloc 112 true (.tuple #[])) λt12 w44=>
 so w44 112 t12 t82 λw45=>fl w45 t3 94 0 92 λt86=>bt .eql 92 t86 (Value.int .u8 1) λt88=>zc t88 (lo w45 94 t3 λt89=>ca zW #[t89,(Value.string { data:=#[84,65] })] w45 λt90 w46=>
 za (λK47=>gIf t90 true (K47 [t62] w46) (K47 [u_] w46)) (λs48 _d49 w50=>
 zb t90 (s48.getD 0 u_) fa_ λt93=>za (λK51=>gIf t93 true (K51 [t69] w50) (K51 [u_] w50)) (λs52 _d53 w54=>
 zb t93 (s52.getD 0 u_) fa_ λt96=>za (λK55=>gIf t96 true (lo w54 112 t8 λt98=>lo w54 112 t6 λt99=>ca yV #[t98,t99] w54 λt100 w59=>
 K55 [t100] w59) (K55 [u_] w54)) (λs56 _d57 w58=>
 zb t96 (s56.getD 0 u_) fa_ λt101=>K t101 w58)))) (bt .eql 92 t86 (Value.int .u8 2) λt103=>zc t103 (lo w45 94 t3 λt104=>ca zW #[t104,(Value.string { data:=#[84,65,66,83] })] w45 λt105 w60=>
 pp (Op.unary .not t105) λt106=>za (λK61=>gIf t106 false (pp (Op.unary .not t62) λt109=>K61 [t109] w60) (K61 [u_] w60)) (λs62 _d63 w64=>
 zb t106 tr_ (s62.getD 0 u_) λt110=>za (λK65=>gIf t110 false (pp (Op.unary .not t69) λt113=>K65 [t113] w64) (K65 [u_] w64)) (λs66 _d67 w68=>
 zb t110 tr_ (s66.getD 0 u_) λt114=>za (λK69=>gIf t114 false (pp (Op.unary .not t76) λt117=>K69 [t117] w68) (K69 [u_] w68)) (λs70 _d71 w72=>
 zb t114 tr_ (s70.getD 0 u_) λt118=>zc t118 (K fa_ w72) (fl w72 t3 94 5 9 λt120=>ca Xs #[t120] w72 λt121 w73=>
 zc t121 (lo w73 112 t6 λt122=>ca zO #[t122,(Value.int .u8 1)] w73 λt123 w74=>
 za (λK75=>gIf t123 true (lo w74 112 t8 λt125=>ca zO #[t125,(Value.int .u8 1)] w74 λt126 w79=>
 K75 [t126] w79) (K75 [u_] w74)) (λs76 _d77 w78=>
 zb t123 (s76.getD 0 u_) fa_ λt127=>za (λK80=>gIf t127 true (lo w78 112 t10 λt129=>ca zO #[t129,(Value.int .u8 1)] w78 λt130 w84=>
 K80 [t130] w84) (K80 [u_] w78)) (λs81 _d82 w83=>
 zb t127 (s81.getD 0 u_) fa_ λt131=>K t131 w83))) (lo w73 112 t8 λt132=>ca zO #[t132,(Value.int .u8 1)] w73 λt133 w85=>
 za (λK86=>gIf t133 true (lo w85 112 t10 λt135=>ca zO #[t135,(Value.int .u8 1)] w85 λt136 w90=>
 K86 [t136] w90) (K86 [u_] w85)) (λs87 _d88 w89=>
 zb t133 (s87.getD 0 u_) fa_ λt137=>za (λK91=>gIf t137 false (fl w89 t3 94 5 9 λt140=>bt .eql 9 t140 (Value.string { data:=#[61,61] }) λt141=>K91 [t141] w89) (K91 [u_] w89)) (λs92 _d93 w94=>
 za (λK95=>gIf (s92.getD 0 u_) false (fl w94 t3 94 5 9 λt144=>bt .eql 9 t144 (Value.string { data:=#[33,61] }) λt145=>K95 [t145] w94) (K95 [u_] w94)) (λs96 _d97 w98=>
 za (λK99=>gIf t137 false (zb (s92.getD 0 u_) tr_ (s96.getD 0 u_) λt146=>K99 [t146] w98) (K99 [u_] w98)) (λs100 _d101 w102=>
 za (λK103=>gIf (s100.getD 0 u_) true (lo w102 112 t8 λt148=>ca zO #[t148,(Value.int .u8 2)] w102 λt149 w107=>
 K103 [t149] w107) (K103 [u_] w102)) (λs104 _d105 w106=>
 za (λK108=>gIf t137 false (zb (s100.getD 0 u_) (s104.getD 0 u_) fa_ λt150=>K108 [t150] w106) (K108 [u_] w106)) (λs109 _d110 w111=>
 za (λK112=>gIf (s109.getD 0 u_) true (lo w111 112 t10 λt152=>ca zO #[t152,(Value.int .u8 2)] w111 λt153 w116=>
 K112 [t153] w116) (K112 [u_] w111)) (λs113 _d114 w115=>
 za (λK117=>gIf t137 false (zb (s109.getD 0 u_) (s113.getD 0 u_) fa_ λt154=>K117 [t154] w115) (K117 [u_] w115)) (λs118 _d119 w120=>
 zb t137 tr_ (s118.getD 0 u_) λt155=>fl w120 t3 94 5 9 λt157=>ca ZS #[t157] w120 λt158 w121=>
 za (λK122=>gIf t158 true (lo w121 112 t6 λt160=>ca zO #[t160,(Value.int .u8 2)] w121 λt161 w126=>
 K122 [t161] w126) (K122 [u_] w121)) (λs123 _d124 w125=>
 zb t158 (s123.getD 0 u_) fa_ λt162=>za (λK127=>gIf t162 true (K127 [t155] w125) (K127 [u_] w125)) (λs128 _d129 w130=>
 zb t162 (s128.getD 0 u_) fa_ λt165=>K t165 w130)))))))))))))))) (bt .eql 92 t86 (Value.int .u8 3) λt167=>zc t167 (lo w45 94 t3 λt168=>ca zW #[t168,(Value.string { data:=#[84,65,83] })] w45 λt169 w131=>
 za (λK132=>gIf t169 true (K132 [t62] w131) (K132 [u_] w131)) (λs133 _d134 w135=>
 zb t169 (s133.getD 0 u_) fa_ λt172=>za (λK136=>gIf t172 true (K136 [t69] w135) (K136 [u_] w135)) (λs137 _d138 w139=>
 zb t172 (s137.getD 0 u_) fa_ λt175=>za (λK140=>gIf t175 true (fl w139 t3 94 5 9 λt178=>bt .eql 9 t178 (Value.string { data:=#[45] }) λt179=>K140 [t179] w139) (K140 [u_] w139)) (λs141 _d142 w143=>
 za (λK144=>gIf (s141.getD 0 u_) true (lo w143 112 t6 λt181=>ca zO #[t181,(Value.int .u8 1)] w143 λt182 w148=>
 K144 [t182] w148) (K144 [u_] w143)) (λs145 _d146 w147=>
 za (λK149=>gIf t175 true (zb (s141.getD 0 u_) (s145.getD 0 u_) fa_ λt183=>K149 [t183] w147) (K149 [u_] w147)) (λs150 _d151 w152=>
 za (λK153=>gIf (s150.getD 0 u_) true (lo w152 112 t8 λt185=>ca zO #[t185,(Value.int .u8 1)] w152 λt186 w157=>
 K153 [t186] w157) (K153 [u_] w152)) (λs154 _d155 w156=>
 za (λK158=>gIf t175 true (zb (s150.getD 0 u_) (s154.getD 0 u_) fa_ λt187=>K158 [t187] w156) (K158 [u_] w156)) (λs159 _d160 w161=>
 za (λK162=>gIf (s159.getD 0 u_) false (fl w161 t3 94 5 9 λt190=>bt .eql 9 t190 (Value.string { data:=#[33] }) λt191=>K162 [t191] w161) (K162 [u_] w161)) (λs163 _d164 w165=>
 za (λK166=>gIf (s163.getD 0 u_) true (lo w165 112 t6 λt193=>ca zO #[t193,(Value.int .u8 2)] w165 λt194 w170=>
 K166 [t194] w170) (K166 [u_] w165)) (λs167 _d168 w169=>
 za (λK171=>gIf (s159.getD 0 u_) false (zb (s163.getD 0 u_) (s167.getD 0 u_) fa_ λt195=>K171 [t195] w169) (K171 [u_] w169)) (λs172 _d173 w174=>
 za (λK175=>gIf (s172.getD 0 u_) true (lo w174 112 t8 λt197=>ca zO #[t197,(Value.int .u8 2)] w174 λt198 w179=>
 K175 [t198] w179) (K175 [u_] w174)) (λs176 _d177 w178=>
 za (λK180=>gIf (s159.getD 0 u_) false (zb (s172.getD 0 u_) (s176.getD 0 u_) fa_ λt199=>K180 [t199] w178) (K180 [u_] w178)) (λs181 _d182 w183=>
 za (λK184=>gIf t175 true (zb (s159.getD 0 u_) tr_ (s181.getD 0 u_) λt200=>K184 [t200] w183) (K184 [u_] w183)) (λs185 _d186 w187=>
 zb t175 (s185.getD 0 u_) fa_ λt201=>K t201 w187)))))))))))))) (bt .eql 92 t86 (Value.int .u8 4) λt203=>zc t203 (lo w45.drew 94 t3 λt204=>ca zW #[t204,(Value.string { data:=#[84,70,77] })] w45.drew λt205 w188=>
 za (λK189=>gIf t205 true (K189 [t62] w188) (K189 [u_] w188)) (λs190 _d191 w192=>
 zb t205 (s190.getD 0 u_) fa_ λt208=>za (λK193=>gIf t208 true (K193 [t84] w192) (K193 [u_] w192)) (λs194 _d195 w196=>
 zb t208 (s194.getD 0 u_) fa_ λt211=>za (λK197=>gIf t211 true (lo w196 112 t6 λt213=>ca zO #[t213,(Value.int .u8 4)] w196 λt214 w201=>
 K197 [t214] w201) (K197 [u_] w196)) (λs198 _d199 w200=>
 zb t211 (s198.getD 0 u_) fa_ λt215=>za (λK202=>gIf t215 true (fl w200 t6 112 1 4 λt218=>fl w200 t3 94 7 4 λt220=>bf .eql 4 t218 t220 λt221=>K202 [t221] w200) (K202 [u_] w200)) (λs203 _d204 w205=>
 zb t215 (s203.getD 0 u_) fa_ λt222=>za (λK206=>gIf t222 true (fl w205 t6 112 4 70 λt225=>xl w205 70 t225 (i6 0) 112 λt227=>lo w205 112 t12 λt228=>ca yV #[t227,t228] w205 λt229 w210=>
 K206 [t229] w210) (K206 [u_] w205)) (λs207 _d208 w209=>
 zb t222 (s207.getD 0 u_) fa_ λt230=>za (λK211=>gIf t230 true (fl w209 t3 94 7 4 λt233=>pp (Op.unary .not t233) λt234=>K211 [t234] w209) (K211 [u_] w209)) (λs212 _d213 w214=>
 za (λK215=>gIf (s212.getD 0 u_) false (ca kV #[t83] w214 λt237 w219=>
 bt .lss 3 t237 (i6 3) λt238=>K215 [t238] w219) (K215 [u_] w214)) (λs216 _d217 w218=>
 za (λK220=>gIf t230 true (zb (s212.getD 0 u_) tr_ (s216.getD 0 u_) λt239=>K220 [t239] w218) (K220 [u_] w218)) (λs221 _d222 w223=>
 zb t230 (s221.getD 0 u_) fa_ λt240=>K t240 w223))))))))) (bt .eql 92 t86 (Value.int .u8 5) λt242=>zc t242 (lo w45.drew 94 t3 λt243=>ca zW #[t243,(Value.string { data:=#[84,65] })] w45.drew λt244 w224=>
 za (λK225=>gIf t244 true (K225 [t62] w224) (K225 [u_] w224)) (λs226 _d227 w228=>
 zb t244 (s226.getD 0 u_) fa_ λt247=>za (λK229=>gIf t247 true (K229 [t69] w228) (K229 [u_] w228)) (λs230 _d231 w232=>
 zb t247 (s230.getD 0 u_) fa_ λt250=>za (λK233=>gIf t250 true (lo w232 112 t6 λt252=>ca zO #[t252,(Value.int .u8 3)] w232 λt253 w237=>
 K233 [t253] w237) (K233 [u_] w232)) (λs234 _d235 w236=>
 zb t250 (s234.getD 0 u_) fa_ λt254=>za (λK238=>gIf t254 true (fl w236 t6 112 4 70 λt257=>xl w236 70 t257 (i6 0) 112 λt259=>lo w236 112 t8 λt260=>ca yV #[t259,t260] w236 λt261 w242=>
 K238 [t261] w242) (K238 [u_] w236)) (λs239 _d240 w241=>
 zb t254 (s239.getD 0 u_) fa_ λt262=>K t262 w241))))) (bt .eql 92 t86 (Value.int .u8 6) λt264=>zc t264 (lo w45 94 t3 λt265=>ca zW #[t265,(Value.string { data:=#[84,76,85] })] w45 λt266 w243=>
 pp (Op.unary .not t266) λt267=>za (λK244=>gIf t267 false (pp (Op.unary .not t62) λt270=>K244 [t270] w243) (K244 [u_] w243)) (λs245 _d246 w247=>
 zb t267 tr_ (s245.getD 0 u_) λt271=>za (λK248=>gIf t271 false (lo w247 112 t6 λt273=>ca zO #[t273,(Value.int .u8 5)] w247 λt274 w252=>
 pp (Op.unary .not t274) λt275=>K248 [t275] w252) (K248 [u_] w247)) (λs249 _d250 w251=>
 zb t271 tr_ (s249.getD 0 u_) λt276=>za (λK253=>gIf t276 false (fl w251 t6 112 3 3 λt279=>fl w251 t3 94 9 3 λt281=>bf .neq 3 t279 t281 λt282=>K253 [t282] w251) (K253 [u_] w251)) (λs254 _d255 w256=>
 zb t276 tr_ (s254.getD 0 u_) λt283=>zc t283 (K fa_ w256) (fa t0 149 0 λt287=>fl w256.drew t287 25 0 22 λt289=>lo w256.drew 112 t6 λt290=>ca ZR #[t289,t290] w256.drew λt291 w257=>
 pe t291 0 λt292=>pe t291 1 λ_t293=>fl w257 t3 94 4 53 λt296=>ca kF #[t0,t296,t292] w257 λt298 w258=>
 K t298 w258))))) (bt .eql 92 t86 (Value.int .u8 7) λt300=>zc t300 (lo w45.drew 94 t3 λt301=>ca zW #[t301,(Value.string { data:=#[84,76,78] })] w45.drew λt302 w259=>
 pp (Op.unary .not t302) λt303=>za (λK260=>gIf t303 false (pp (Op.unary .not t62) λt306=>K260 [t306] w259) (K260 [u_] w259)) (λs261 _d262 w263=>
 zb t303 tr_ (s261.getD 0 u_) λt307=>za (λK264=>gIf t307 false (fl w263 t3 94 8 3 λt310=>bt .lss 3 t310 (i6 0) λt311=>K264 [t311] w263) (K264 [u_] w263)) (λs265 _d266 w267=>
 zb t307 tr_ (s265.getD 0 u_) λt312=>za (λK268=>gIf t312 false (fl w267 t3 94 8 3 λt315=>fa t0 149 0 λt318=>fl w267 t318 25 1 23 λt320=>pp (Builtin.len_ #[23] 3 #[t320]) λt321=>bf .geq 3 t315 t321 λt322=>K268 [t322] w267) (K268 [u_] w267)) (λs269 _d270 w271=>
 zb t312 tr_ (s269.getD 0 u_) λt323=>zc t323 (K fa_ w271) (fa t0 149 0 λt326=>fl w271.drew t326 25 1 23 λt328=>fl w271.drew t3 94 8 3 λt330=>xl w271.drew 23 t328 t330 74 λt332=>pw w271.drew (Instr.alloc 74 true (.tuple #[])) λt18 w272=>
 Ext w271.drew w272∧
 so w272 74 t18 t332 λw273=>fl w273.drew t3 94 4 53 λt335=>fl w273.drew t18 74 4 70 λt337=>fl w273.drew t18 74 3 3 λt339=>bt .add 3 t339 (i6 1) λt340=>pp (Instr.sliceAt 70 t337 (some (i6 1)) (some t340) none) λt341=>ca kF #[t0,t335,t341] w273.drew λt342 w274=>
 za (λK275=>gIf t342 true (lo w274 112 t6 λt344=>fl w274 t18 74 4 70 λt346=>xl w274 70 t346 (i6 0) 112 λt348=>ca yV #[t344,t348] w274 λt349 w279=>
 K275 [t349] w279) (K275 [u_] w274)) (λs276 _d277 w278=>
 zb t342 (s276.getD 0 u_) fa_ λt350=>K t350 w278)))))) (bt .eql 92 t86 (Value.int .u8 8) λt352=>zc t352 (lo w45 94 t3 λt353=>ca zW #[t353,(Value.string { data:=#[84] })] w45 λt354 w280=>
 za (λK281=>gIf t354 true (K281 [t62] w280) (K281 [u_] w280)) (λs282 _d283 w284=>
 zb t354 (s282.getD 0 u_) fa_ λt357=>za (λK285=>gIf t357 true (lo w284 112 t6 λt359=>ca zO #[t359,(Value.int .u8 1)] w284 λt360 w289=>
 K285 [t360] w289) (K285 [u_] w284)) (λs286 _d287 w288=>
 zb t357 (s286.getD 0 u_) fa_ λt361=>K t361 w288))) (bt .eql 92 t86 (Value.int .u8 9) λt363=>zc t363 (lo w45 94 t3 λt364=>ca zW #[t364,(Value.string { data:=#[65] })] w45 λt365 w290=>
 za (λK291=>gIf t365 true (K291 [t69] w290) (K291 [u_] w290)) (λs292 _d293 w294=>
 zb t365 (s292.getD 0 u_) fa_ λt368=>za (λK295=>gIf t368 true (lo w294 112 t8 λt370=>ca zO #[t370,(Value.int .u8 1)] w294 λt371 w299=>
 K295 [t371] w299) (K295 [u_] w294)) (λs296 _d297 w298=>
 zb t368 (s296.getD 0 u_) fa_ λt372=>K t372 w298))) (bt .eql 92 t86 (Value.int .u8 10) λt374=>zc t374 (fa t0 149 0 λt378=>fl w45.drew t378 25 0 22 λt380=>lo w45.drew 112 t12 λt381=>ca YG #[t380,t381] w45.drew λt382 w300=>
 pe t382 0 λt383=>pe t382 1 λ_t384=>lo w300 94 t3 λt385=>ca zW #[t385,(Value.string { data:=#[70] })] w300 λt386 w301=>
 za (λK302=>gIf t386 true (K302 [t84] w301) (K302 [u_] w301)) (λs303 _d304 w305=>
 zb t386 (s303.getD 0 u_) fa_ λt389=>za (λK306=>gIf t389 true (K306 [t383] w305) (K306 [u_] w305)) (λs307 _d308 w309=>
 zb t389 (s307.getD 0 u_) fa_ λt392=>za (λK310=>gIf t392 true (ca kV #[t83] w309 λt395 w314=>
 bt .lss 3 t395 (i6 2) λt396=>K310 [t396] w314) (K310 [u_] w309)) (λs311 _d312 w313=>
 zb t392 (s311.getD 0 u_) fa_ λt397=>K t397 w313)))) (bt .eql 92 t86 (Value.int .u8 11) λt399=>zc t399 (lo w45 94 t3 λt400=>ca zW #[t400,(Value.string { data:=#[70] })] w45 λt401 w315=>
 za (λK316=>gIf t401 true (K316 [t84] w315) (K316 [u_] w315)) (λs317 _d318 w319=>
 zb t401 (s317.getD 0 u_) fa_ λt404=>za (λK320=>gIf t404 true (pf 94 t3 6 λt406=>fl w319 t406 59 0 3 λt408=>bt .gtr 3 t408 (i6 0) λt409=>K320 [t409] w319) (K320 [u_] w319)) (λs321 _d322 w323=>
 zb t404 (s321.getD 0 u_) fa_ λt410=>za (λK324=>gIf t410 true (pf 94 t3 6 λt412=>fl w323 t412 59 1 57 λt414=>pp (Builtin.len_ #[57] 3 #[t414]) λt415=>bt .eql 3 t415 (i6 0) λt416=>K324 [t416] w323) (K324 [u_] w323)) (λs325 _d326 w327=>
 zb t410 (s325.getD 0 u_) fa_ λt417=>K t417 w327)))) (bt .eql 92 t86 (Value.int .u8 12) λt419=>zc t419 (lo w45 94 t3 λt420=>ca zW #[t420,(Value.string { data:=#[65,69] })] w45 λt421 w328=>
 za (λK329=>gIf t421 true (K329 [t69] w328) (K329 [u_] w328)) (λs330 _d331 w332=>
 zb t421 (s330.getD 0 u_) fa_ λt424=>za (λK333=>gIf t424 true (lo w332 112 t8 λt426=>ca zO #[t426,(Value.int .u8 2)] w332 λt427 w337=>
 K333 [t427] w337) (K333 [u_] w332)) (λs334 _d335 w336=>
 zb t424 (s334.getD 0 u_) fa_ λt428=>za (λK338=>gIf t428 true (fl w336 t3 94 11 3 λt431=>bt .geq 3 t431 (i6 0) λt432=>K338 [t432] w336) (K338 [u_] w336)) (λs339 _d340 w341=>
 zb t428 (s339.getD 0 u_) fa_ λt433=>za (λK342=>gIf t433 true (fl w341 t3 94 11 3 λt436=>bf .lss 3 t436 t26 λt438=>K342 [t438] w341) (K342 [u_] w341)) (λs343 _d344 w345=>
 zb t433 (s343.getD 0 u_) fa_ λt439=>K t439 w345))))) (za (λK346=>
 bt .eql 92 t86 (Value.int .u8 13) λt441=>zc t441 (K346 [t441] w45) (bt .eql 92 t86 (Value.int .u8 14) λt442=>K346 [t442] w45)) (λs347 _d348 w349=>
 zc (s347.getD 0 u_) (lo w349 94 t3 λt443=>ca zW #[t443,(Value.string { data:=#[] })] w349 λt444 w350=>
 K t444 w350) (K fa_ w349)))))))))))))))))))))))
theorem JY(h:ZJ t0 t1 w K):zd prog qY #[t0,t1] w K:=
 okC false (.s (.r (rz 2 0 2)) (.s (.r (rz 7 0 256)) (.s (.s (.r (ra 4 0 4 (.grp 30 false (ri 4 4 4) [34] (.grp 34 true (ri 3 8 4) [37] (.grp 30 false (ri 1 11 0) [38] (ra 2 12 0 (.grp 40 false (ri 4 14 4) [44] (.grp 44 true (ri 4 18 4) [48] (.grp 48 false (ri 4 22 4) [52] (.grp 44 true (ri 1 26 0) [53] (.grp 40 false (ri 1 27 0) [54] (rz 1 28 0)))))))))))) (.c (.s (.r (rz 1 0 0)) (.n)) (.n))) (.s (.r (rz 10 0 163984)) (.s (.r (rz 10 0 163984)) (.s (.r (rz 10 0 163984)) (.s (.r (rz 12 0 655504)) (.s (.s (.r (rz 2 0 4)) (.b (.s (.r (rz 2 0 0)) (.c (.s (.r (ra 3 0 9 (.grp 91 true (ri 1 3 0) [92] (ra 2 4 0 (.grp 94 true (ri 1 6 0) [95] (ra 2 7 0 (.grp 97 true (ri 3 9 37) [100] (rz 2 12 0)))))))) (.n)) (.s (.r (rz 2 0 0)) (.c (.s (.s (.r (ra 4 0 9 (.grp 107 false (ri 2 4 0) [109] (ra 2 6 0 (.grp 111 false (ri 2 8 0) [113] (ra 2 10 0 (.grp 115 false (ri 2 12 0) [117] (rz 1 14 0)))))))) (.c (.s (.r (rz 1 0 0)) (.n)) (.n))) (.s (.s (.r (rz 3 0 36)) (.c (.s (.r (ra 3 0 9 (.grp 124 true (ri 2 3 9) [126] (ra 2 5 0 (.grp 128 true (ri 2 7 9) [130] (rz 2 9 0)))))) (.n)) (.n))) (.s (.r (ra 3 0 9 (.grp 134 true (ri 2 3 9) [136] (ra 2 5 0 (.grp 138 false (ri 4 7 4) [142] (.grp 142 false (ri 3 11 4) [145] (.grp 138 false (ri 2 14 0) [147] (.grp 147 true (ri 2 16 9) [149] (.grp 138 false (ri 2 18 0) [151] (.grp 151 true (ri 2 20 9) [153] (.grp 138 false (ri 1 22 0) [154] (rz 2 23 0)))))))))))) (.s (.r (ra 4 0 36 (.grp 159 true (ri 2 4 9) [161] (ra 2 6 0 (.grp 163 true (ri 1 8 0) [164] (rz 2 9 0)))))) (.n))))) (.s (.r (rz 2 0 0)) (.c (.s (.r (ra 3 0 9 (.grp 170 true (ri 1 3 0) [171] (ra 2 4 0 (.grp 173 true (ri 1 6 0) [174] (ra 2 7 0 (.grp 176 true (ri 4 9 4) [180] (.grp 180 true (ri 2 13 9) [182] (.grp 176 true (ri 2 15 0) [184] (.grp 184 true (ri 2 17 9) [186] (.grp 176 true (ri 2 19 0) [188] (.grp 188 false (ri 4 21 4) [192] (.grp 192 true (ri 2 25 9) [194] (.grp 188 false (ri 2 27 0) [196] (.grp 196 true (ri 2 29 9) [198] (.grp 188 false (ri 1 31 0) [199] (.grp 176 true (ri 1 32 0) [200] (rz 2 33 0)))))))))))))))))) (.n)) (.s (.r (rz 2 0 0)) (.c (.s (.r (ra 3 0 9 (.grp 206 true (ri 1 3 0) [207] (ra 2 4 0 (.grp 209 true (ri 1 6 0) [210] (ra 2 7 0 (.grp 212 true (ri 2 9 9) [214] (ra 2 11 0 (.grp 216 true (ri 5 13 68) [221] (ra 2 18 0 (.grp 223 true (ri 6 20 2372) [229] (ra 2 26 0 (.grp 231 true (ri 4 28 4) [235] (.grp 235 false (ri 3 32 8) [238] (.grp 231 true (ri 1 35 0) [239] (rz 2 36 0)))))))))))))))) (.n)) (.s (.r (rz 2 0 0)) (.c (.s (.r (ra 3 0 9 (.grp 245 true (ri 1 3 0) [246] (ra 2 4 0 (.grp 248 true (ri 1 6 0) [249] (ra 2 7 0 (.grp 251 true (ri 2 9 9) [253] (ra 2 11 0 (.grp 255 true (ri 6 13 2372) [261] (rz 2 19 0)))))))))) (.n)) (.s (.r (rz 2 0 0)) (.c (.s (.s (.r (ra 4 0 9 (.grp 268 false (ri 2 4 0) [270] (ra 2 6 0 (.grp 272 false (ri 3 8 9) [275] (ra 2 11 0 (.grp 277 false (ri 5 13 68) [282] (rz 1 18 0)))))))) (.c (.s (.r (rz 1 0 0)) (.n)) (.n))) (.s (.r (rz 12 0 9472)) (.s (.r (rz 6 0 528)) (.n)))) (.s (.r (rz 2 0 0)) (.c (.s (.s (.r (ra 4 0 9 (.grp 304 false (ri 2 4 0) [306] (ra 2 6 0 (.grp 308 false (ri 3 8 4) [311] (ra 2 11 0 (.grp 313 false (ri 9 13 4100) [322] (rz 1 22 0)))))))) (.c (.s (.r (rz 1 0 0)) (.n)) (.n))) (.s (.r (rz 11 0 2953472)) (.s (.r (ra 11 0 528656 (.grp 343 true (ri 6 11 2321) [349] (rz 2 17 0)))) (.n)))) (.s (.r (rz 2 0 0)) (.c (.s (.r (ra 3 0 9 (.grp 355 true (ri 1 3 0) [356] (ra 2 4 0 (.grp 358 true (ri 2 6 9) [360] (rz 2 8 0)))))) (.n)) (.s (.r (rz 2 0 0)) (.c (.s (.r (ra 3 0 9 (.grp 366 true (ri 1 3 0) [367] (ra 2 4 0 (.grp 369 true (ri 2 6 9) [371] (rz 2 8 0)))))) (.n)) (.s (.r (rz 2 0 0)) (.c (.s (.r (rz 12 0 9472)) (.s (.r (ra 3 0 9 (.grp 387 true (ri 1 3 0) [388] (ra 2 4 0 (.grp 390 true (ri 1 6 0) [391] (ra 2 7 0 (.grp 393 true (ri 3 9 8) [396] (rz 2 12 0)))))))) (.n))) (.s (.r (rz 2 0 0)) (.c (.s (.r (ra 3 0 9 (.grp 402 true (ri 1 3 0) [403] (ra 2 4 0 (.grp 405 true (ri 4 6 16) [409] (ra 2 10 0 (.grp 411 true (ri 5 12 16) [416] (rz 2 17 0)))))))) (.n)) (.s (.r (rz 2 0 0)) (.c (.s (.r (ra 3 0 9 (.grp 422 true (ri 1 3 0) [423] (ra 2 4 0 (.grp 425 true (ri 2 6 9) [427] (ra 2 8 0 (.grp 429 true (ri 3 10 4) [432] (ra 2 13 0 (.grp 434 true (ri 4 15 4) [438] (rz 2 19 0)))))))))) (.n)) (.j [440] (.s (.r (rz 2 0 0)) (.c (.n) (.r (rz 2 0 0)))) (.c (.s (.r (rz 3 0 9)) (.n)) (.n))))))))))))))))))))))))))))) (.s (.r (rz 1 0 0)) (.n)))))))))) func122 rfl (by kernel_rfl) (by kernel_rfl) h
def aai(t0 t1:Value)(w:World)(K:VW):Prop:=
 pw w (Instr.box 112 t0) λt2 w1=>
 lo w1 112 t2 λt7=>ca jg #[t7] w1 λt8 w2=>
 zo [(i6 0)] w2 (λs4 _d5 w6 K3=>
 pp (Builtin.len_ #[26] 3 #[t8]) λt11=>bf .lss 3 (s4.getD 0 u_) t11 λt12=>zc t12 (bt .add 3 (s4.getD 0 u_) (i6 1) λt16=>zo [t16] w6 (λs8 _d9 w10 K7=>
 pp (Builtin.len_ #[26] 3 #[t8]) λt19=>bf .lss 3 (s8.getD 0 u_) t19 λt20=>zc t20 (xl w10.drew 26 t8 (s8.getD 0 u_) 3 λt27=>xl w10.drew 26 t8 (s4.getD 0 u_) 3 λt31=>abU t1 λt32=>px 204 t32 t27 λt33=>px 203 t33 t31 λt34=>so w10.drew 4 t34 tr_ λw11=>bt .add 3 (s8.getD 0 u_) (i6 1) λt22=>K7 [t22] w11) (bt .add 3 (s4.getD 0 u_) (i6 1) λt14=>K3 [t14] w10))) (K (.tuple #[]) w6))
theorem afC(h:aai t0 t1 w K):zd prog Xr #[t0,t1] w K:=
 okC false (.s (.r (rz 1 0 2)) (.s (.r (rz 3 0 9)) (.s (.r (rz 1 0 0)) (.b (.lp [5] (.s (.s (.r (rz 4 0 0)) (.c (.n) (.n))) (.s (.b (.s (.r (rz 3 0 0)) (.b (.lp [6] (.s (.s (.r (rz 4 0 0)) (.c (.n) (.n))) (.s (.b (.r (rz 13 0 33620224))) (.r (rz 3 0 0)))))))) (.r (rz 3 0 0))))))))) func155 rfl (by kernel_rfl) (by kernel_rfl) h
def XR(t0 t1:Value)(w:World)(K:VW):Prop:=
 pw w (Instr.box 59 t1) λt3 w1=>
 pw w1 (Instr.alloc 112 true (.tuple #[])) λt4 w2=>
 lo w2 59 t3 λt11=>ca yC #[t0,t11] w2 λt12 w3=>
 pe t12 0 λt13=>pe t12 1 λt14=>pe t12 2 λt15=>pw w3 (Instr.alloc 112 true (.tuple #[])) λt6 w4=>
 so w4 112 t6 t13 λw5=>lo w5.drew 112 t6 λt16=>za (λK6=>gIf t15 true (ca kV #[t14] w5.drew λt20 w10=>
 Ext w5.drew w10∧
 bt .lss 3 t20 (i6 3) λt21=>K6 [t21] w10) (K6 [u_] w5.drew)) (λs7 _d8 w9=>
 zb t15 (s7.getD 0 u_) fa_ λt22=>so w9 112 t4 t16 λw11=>pq w11 (zk 112 t4) λr12=>K (.tuple #[r12,t22]) w11)
theorem abe(h:XR t0 t1 w K):zd prog vu #[t0,t1] w K:=
 okC false (.s (.r (rz 3 0 10)) (.s (.r (rz 11 0 163876)) (.s (.r (ra 3 0 1 (.grp 18 true (ri 3 3 12) [21] (rz 3 6 8)))) (.n)))) func156 rfl (by kernel_rfl) (by kernel_rfl) h
def vW(t0 t1:Value)(w:World)(K:VW):Prop:=
 pw w (Instr.box 61 t1) λt3 w1=>
 pw w1 (Instr.alloc 112 true (.tuple #[])) λt4 w2=>
 fl w2 t3 61 0 56 λt10=>bt .eql 56 t10 (Value.int .u8 1) λt12=>zc t12 (pp (Instr.build 112 #[(0,(Value.int .u8 1))]) λt13=>fl w2 t3 61 2 59 λt15=>ca yN #[t15] w2 λt16 w3=>
 so w3 112 t4 t13 λw4=>pq w4 (zk 112 t4) λr5=>K (.tuple #[r5,t16]) w4) (bt .eql 56 t10 (Value.int .u8 2) λt18=>zc t18 (pp (Instr.build 112 #[(0,(Value.int .u8 2))]) λt19=>fl w2.drew t3 61 2 59 λt21=>ca yN #[t21] w2.drew λt22 w6=>
 za (λK7=>gIf t22 true (fl w6 t3 61 1 2 λt25=>bt .eql 2 t25 (i6 0) λt26=>K7 [t26] w6) (K7 [u_] w6)) (λs8 _d9 w10=>
 za (λK11=>gIf (s8.getD 0 u_) false (pf 61 t3 1 λt28=>K11 [t28] w10) (K11 [u_] w10)) (λs12 _d13 w14=>
 ((za (λK15=>gIf (s8.getD 0 u_) false (pw w14 (Instr.loadAt 2 (s12.getD 0 u_)) λt29 w19=>
 bt .eql 2 t29 (i6 1) λt30=>K15 [t30] w19) (K15 [u_] w14)) (λs16 _d17 w18=>
 za (λK20=>gIf t22 true (zb (s8.getD 0 u_) tr_ (s16.getD 0 u_) λt31=>K20 [t31] w18) (K20 [u_] w18)) (λs21 _d22 w23=>
 zb t22 (s21.getD 0 u_) fa_ λt32=>so w23 112 t4 t19 λw24=>pq w24 (zk 112 t4) λr25=>K (.tuple #[r25,t32]) w24)))∧
 (so w14 112 t4 t19 λw26=>za (λK27=>gIf (s8.getD 0 u_) false (pw w26 (Instr.loadAt 2 (s12.getD 0 u_)) λt29_32 w31=>
 bt .eql 2 t29_32 (i6 1) λt30_33=>K27 [t30_33] w31) (K27 [u_] w26)) (λs28 _d29 w30=>
 za (λK34=>gIf t22 true (zb (s8.getD 0 u_) tr_ (s28.getD 0 u_) λt31_38=>K34 [t31_38] w30) (K34 [u_] w30)) (λs35 _d36 w37=>
 zb t22 (s35.getD 0 u_) fa_ λt32_39=>pq w37 (zk 112 t4) λr40=>K (.tuple #[r40,t32_39]) w37))))))) (za (λK41=>
 bt .eql 56 t10 (Value.int .u8 3) λt34=>zc t34 (K41 [t34] w2) (bt .eql 56 t10 (Value.int .u8 4) λt35=>K41 [t35] w2)) (λs42 _d43 w44=>
 zc (s42.getD 0 u_) (fl w44 t3 61 2 59 λt39=>ca yC #[t0,t39] w44 λt40 w45=>
 pe t40 0 λt41=>pe t40 1 λt42=>pe t40 2 λt43=>pw w45 (Instr.alloc 112 true (.tuple #[])) λt6 w46=>
 so w46 112 t6 t41 λw47=>pp (Op.unary .not t43) λt45=>za (λK48=>gIf t45 false (fl w47 t3 61 1 2 λt48=>bt .neq 2 t48 (i6 0) λt49=>K48 [t49] w47) (K48 [u_] w47)) (λs49 _d50 w51=>
 zb t45 tr_ (s49.getD 0 u_) λt50=>zc t50 (lo w51 112 t6 λt51=>so w51 112 t4 t51 λw52=>pq w52 (zk 112 t4) λr53=>K (.tuple #[r53,fa_]) w52) (fl w51 t3 61 0 56 λt53=>bt .eql 56 t53 (Value.int .u8 3) λt54=>zc t54 (lo w51.drew 112 t6 λt55=>lo w51.drew 112 t6 λt56=>ca jB #[t56] w51.drew λt57 w54=>
 Ext w51.drew w54∧
 so w54 112 t4 t55 λw55=>pq w55 (zk 112 t4) λr56=>K (.tuple #[r56,t57]) w55) (lo w51.drew 112 t6 λt58=>lo w51.drew 112 t6 λt59=>ca jB #[t59] w51.drew λt60 w57=>
 Ext w51.drew w57∧
 pp (Op.unary .not t60) λt61=>za (λK58=>gIf t61 true (ca kV #[t42] w57 λt64 w62=>
 Ext w57 w62∧
 bt .lss 3 t64 (i6 2) λt65=>K58 [t65] w62) (K58 [u_] w57)) (λs59 _d60 w61=>
 zb t61 (s59.getD 0 u_) fa_ λt66=>so w61 112 t4 t58 λw63=>pq w63 (zk 112 t4) λr64=>K (.tuple #[r64,t66]) w63))))) (pp (Instr.build 112 #[]) λt67=>so w44 112 t4 t67 λw65=>pq w65 (zk 112 t4) λr66=>K (.tuple #[r66,fa_]) w65))))
theorem QR(h:vW t0 t1 w K):zd prog y7 #[t0,t1] w K:=
 okC false (.s (.r (rz 3 0 10)) (.s (.s (.r (rz 2 0 4)) (.b (.s (.r (rz 2 0 0)) (.c (.s (.r (rz 6 0 656)) (.n)) (.s (.r (rz 2 0 0)) (.c (.s (.r (ra 5 0 144 (.grp 23 true (ri 4 5 4) [27] (.grp 27 false (ri 1 9 0) [28] (.bth (.grp 27 false (ri 2 10 2) [30] (.grp 23 true (ri 1 12 0) [31] (rz 3 13 8))) (ra 1 14 2 (.grp 27 false (ri 2 10 2) [30] (.grp 23 true (ri 1 12 0) [31] (ra 1 13 0 (rz 1 15 0)))))))))) (.n)) (.j [33] (.s (.r (rz 2 0 0)) (.c (.n) (.r (rz 2 0 0)))) (.c (.s (.r (rz 12 0 655504)) (.s (.s (.r (ra 3 0 0 (.grp 46 false (ri 3 3 4) [49] (rz 1 6 0)))) (.c (.s (.r (rz 3 0 9)) (.n)) (.n))) (.s (.s (.r (rz 3 0 4)) (.c (.s (.r (rz 5 0 181)) (.n)) (.n))) (.s (.r (ra 5 0 53 (.grp 62 true (ri 3 5 12) [65] (rz 3 8 8)))) (.n))))) (.n))))))))) (.s (.r (rz 3 0 8)) (.n)))) func157 rfl (by kernel_rfl) (by kernel_rfl) h
def Yu(t0 t1:Value)(w:World)(K:VW):Prop:=
 pw w (Instr.box 59 t1) λt3 w1=>
 pw w1 (Instr.alloc 112 true (.tuple #[])) λt4 w2=>
 fl w2.drew t3 59 0 3 λt8=>bt .lss 3 t8 (i6 0) λt9=>za (λK3=>gIf t9 false (fl w2.drew t3 59 0 3 λt12=>fa t0 149 1 λt15=>fl w2.drew t15 74 4 70 λt17=>pp (Builtin.len_ #[70] 3 #[t17]) λt18=>bf .geq 3 t12 t18 λt19=>K3 [t19] w2.drew) (K3 [u_] w2.drew)) (λs4 _d5 w6=>
 zb t9 tr_ (s4.getD 0 u_) λt20=>zc t20 (pp (Instr.build 112 #[]) λt21=>so w6 112 t4 t21 λw7=>pq w7 (zk 112 t4) λr8=>K (.tuple #[r8,(Value.slice Option.none 0 0),fa_]) w7) (fa t0 149 0 λt24=>fl w6.drew t24 25 0 22 λt26=>fa t0 149 1 λt29=>fl w6.drew t29 74 4 70 λt31=>fl w6.drew t3 59 0 3 λt33=>fl w6.drew t3 59 0 3 λt35=>bt .add 3 t35 (i6 1) λt36=>pp (Instr.sliceAt 70 t31 (some t33) (some t36) none) λt37=>fl w6.drew t3 59 1 57 λt39=>pp (Instr.build 59 #[(1,t39)]) λt40=>ca Xp #[t26,t37,t40] w6.drew λt41 w9=>
 pe t41 0 λt42=>pe t41 1 λt43=>pe t41 2 λt44=>so w9 112 t4 t42 λw10=>pq w10 (zk 112 t4) λr11=>K (.tuple #[r11,t43,t44]) w10))
theorem VE(h:Yu t0 t1 w K):zd prog yC #[t0,t1] w K:=
 okC false (.s (.r (rz 4 0 10)) (.s (.s (.r (ra 4 0 4 (.grp 10 false (ri 9 4 4100) [19] (rz 1 13 0)))) (.c (.s (.r (rz 4 0 8)) (.n)) (.n))) (.s (.r (rz 26 0 141304495603968)) (.n)))) func95 rfl (by kernel_rfl) (by kernel_rfl) h
def aaj(t0 t1:Value)(w:World)(K:VW):Prop:=
 pw w (Instr.box 94 t0) λt2 w1=>
 zo [tr_,(i6 0)] w1 (λs3 _d4 w5 K2=>
 bt .lss 3 (s3.getD 1 u_) (i6 10) λt11=>zc t11 (za (λK6=>
 pp (Instr.index 9 (Value.string { data:=#[84,65,66,76,70,83,78,85,77,69] }) (s3.getD 1 u_)) λt15=>zo [fa_,(i6 0)] w5 (λs11 _d12 w13 K10=>
 pp (Builtin.len_ #[9] 3 #[t1]) λt18=>bf .lss 3 (s11.getD 1 u_) t18 λt19=>zc t19 (za (λK14=>gIf (s11.getD 0 u_) false (pp (Instr.index 9 t1 (s11.getD 1 u_)) λt26=>bf .eql 5 t26 t15 λt28=>K14 [t28] w13) (K14 [u_] w13)) (λs15 _d16 w17=>
 zb (s11.getD 0 u_) tr_ (s15.getD 0 u_) λt29=>bt .add 3 (s11.getD 1 u_) (i6 1) λt21=>K10 [t29,t21] w17)) (zc (s11.getD 0 u_) (K6 [(s3.getD 0 u_)] w13) (bt .eql 5 t15 (Value.int .u8 84) λt33=>zc t33 (za (λK18=>gIf (s3.getD 0 u_) true (fl w13 t2 94 1 59 λt37=>ca yN #[t37] w13 λt38 w22=>
 K18 [t38] w22) (K18 [u_] w13)) (λs19 _d20 w21=>
 zb (s3.getD 0 u_) (s19.getD 0 u_) fa_ λt39=>K6 [t39] w21)) (bt .eql 5 t15 (Value.int .u8 65) λt41=>zc t41 (za (λK23=>gIf (s3.getD 0 u_) true (fl w13 t2 94 2 61 λt45=>ca kr #[t45] w13 λt46 w27=>
 K23 [t46] w27) (K23 [u_] w13)) (λs24 _d25 w26=>
 zb (s3.getD 0 u_) (s24.getD 0 u_) fa_ λt47=>K6 [t47] w26)) (bt .eql 5 t15 (Value.int .u8 66) λt49=>zc t49 (za (λK28=>gIf (s3.getD 0 u_) true (fl w13 t2 94 3 61 λt53=>ca kr #[t53] w13 λt54 w32=>
 K28 [t54] w32) (K28 [u_] w13)) (λs29 _d30 w31=>
 zb (s3.getD 0 u_) (s29.getD 0 u_) fa_ λt55=>K6 [t55] w31)) (bt .eql 5 t15 (Value.int .u8 76) λt57=>zc t57 (za (λK33=>gIf (s3.getD 0 u_) true (fl w13 t2 94 4 53 λt61=>pp (Builtin.len_ #[53] 3 #[t61]) λt62=>bt .eql 3 t62 (i6 0) λt63=>K33 [t63] w13) (K33 [u_] w13)) (λs34 _d35 w36=>
 zb (s3.getD 0 u_) (s34.getD 0 u_) fa_ λt64=>K6 [t64] w36)) (bt .eql 5 t15 (Value.int .u8 70) λt66=>zc t66 (za (λK37=>gIf (s3.getD 0 u_) true (fl w13 t2 94 6 59 λt70=>ca yN #[t70] w13 λt71 w41=>
 K37 [t71] w41) (K37 [u_] w13)) (λs38 _d39 w40=>
 zb (s3.getD 0 u_) (s38.getD 0 u_) fa_ λt72=>K6 [t72] w40)) (bt .eql 5 t15 (Value.int .u8 83) λt74=>zc t74 (za (λK42=>gIf (s3.getD 0 u_) true (fl w13 t2 94 5 9 λt78=>bt .eql 9 t78 (Value.string { data:=#[] }) λt79=>K42 [t79] w13) (K42 [u_] w13)) (λs43 _d44 w45=>
 zb (s3.getD 0 u_) (s43.getD 0 u_) fa_ λt80=>K6 [t80] w45)) (bt .eql 5 t15 (Value.int .u8 78) λt82=>zc t82 (za (λK46=>gIf (s3.getD 0 u_) true (fl w13 t2 94 8 3 λt86=>bt .eql 3 t86 (i6 0) λt87=>K46 [t87] w13) (K46 [u_] w13)) (λs47 _d48 w49=>
 zb (s3.getD 0 u_) (s47.getD 0 u_) fa_ λt88=>K6 [t88] w49)) (bt .eql 5 t15 (Value.int .u8 85) λt90=>zc t90 (za (λK50=>gIf (s3.getD 0 u_) true (fl w13 t2 94 9 3 λt94=>bt .eql 3 t94 (i6 0) λt95=>K50 [t95] w13) (K50 [u_] w13)) (λs51 _d52 w53=>
 zb (s3.getD 0 u_) (s51.getD 0 u_) fa_ λt96=>K6 [t96] w53)) (bt .eql 5 t15 (Value.int .u8 77) λt98=>zc t98 (za (λK54=>gIf (s3.getD 0 u_) true (fl w13 t2 94 7 4 λt102=>pp (Op.unary .not t102) λt103=>K54 [t103] w13) (K54 [u_] w13)) (λs55 _d56 w57=>
 zb (s3.getD 0 u_) (s55.getD 0 u_) fa_ λt104=>K6 [t104] w57)) (bt .eql 5 t15 (Value.int .u8 69) λt106=>zc t106 (za (λK58=>gIf (s3.getD 0 u_) true (fl w13 t2 94 11 3 λt110=>bt .eql 3 t110 (i6 0) λt111=>K58 [t111] w13) (K58 [u_] w13)) (λs59 _d60 w61=>
 zb (s3.getD 0 u_) (s59.getD 0 u_) fa_ λt112=>K6 [t112] w61)) (K6 [(s3.getD 0 u_)] w13)))))))))))))) (λs7 _d8 w9=>
 bt .add 3 (s3.getD 1 u_) (i6 1) λt13=>K2 [(s7.getD 0 u_),t13] w9)) (K (s3.getD 0 u_) w5))
theorem afD(h:aaj t0 t1 w K):zd prog zW #[t0,t1] w K:=
 okC false (.s (.r (rz 2 0 2)) (.s (.r (rz 1 0 0)) (.s (.s (.r (rz 1 0 0)) (.b (.lp [5,6] (.s (.s (.r (rz 2 0 0)) (.c (.n) (.n))) (.j [5] (.b (.s (.r (rz 3 0 0)) (.s (.r (rz 1 0 0)) (.s (.s (.r (rz 1 0 0)) (.b (.lp [8,9] (.s (.s (.r (rz 4 0 0)) (.c (.n) (.n))) (.s (.b (.r (ra 2 0 0 (.grp 23 false (ri 5 2 0) [28] (rz 2 7 0))))) (.r (rz 3 0 0))))))) (.s (.s (.r (rz 1 0 0)) (.c (.n) (.n))) (.s (.r (rz 1 0 0)) (.b (.s (.r (rz 2 0 0)) (.c (.r (ra 2 0 0 (.grp 35 true (ri 3 2 36) [38] (rz 2 5 0)))) (.s (.r (rz 2 0 0)) (.c (.r (ra 2 0 0 (.grp 43 true (ri 3 2 36) [46] (rz 2 5 0)))) (.s (.r (rz 2 0 0)) (.c (.r (ra 2 0 0 (.grp 51 true (ri 3 2 36) [54] (rz 2 5 0)))) (.s (.r (rz 2 0 0)) (.c (.r (ra 2 0 0 (.grp 59 true (ri 4 2 4) [63] (rz 2 6 0)))) (.s (.r (rz 2 0 0)) (.c (.r (ra 2 0 0 (.grp 68 true (ri 3 2 36) [71] (rz 2 5 0)))) (.s (.r (rz 2 0 0)) (.c (.r (ra 2 0 0 (.grp 76 true (ri 3 2 4) [79] (rz 2 5 0)))) (.s (.r (rz 2 0 0)) (.c (.r (ra 2 0 0 (.grp 84 true (ri 3 2 4) [87] (rz 2 5 0)))) (.s (.r (rz 2 0 0)) (.c (.r (ra 2 0 0 (.grp 92 true (ri 3 2 4) [95] (rz 2 5 0)))) (.s (.r (rz 2 0 0)) (.c (.r (ra 2 0 0 (.grp 100 true (ri 3 2 4) [103] (rz 2 5 0)))) (.s (.r (rz 2 0 0)) (.c (.r (ra 2 0 0 (.grp 108 true (ri 3 2 4) [111] (rz 2 5 0)))) (.n)))))))))))))))))))))))))))) (.r (rz 3 0 0))))))) (.s (.r (rz 2 0 0)) (.n))))) func158 rfl (by kernel_rfl) (by kernel_rfl) h
def Vt(t0 t1:Value)(w:World)(K:VW):Prop:=
 pw w (Instr.box 112 t0) λt2 w1=>
 pw w1 (Instr.box 112 t1) λt3 w2=>
 fl w2 t2 112 0 110 λt6=>fl w2 t3 112 0 110 λt8=>bf .neq 110 t6 t8 λt9=>za (λK3=>gIf t9 false (fl w2 t2 112 1 4 λt12=>fl w2 t3 112 1 4 λt14=>bf .neq 4 t12 t14 λt15=>K3 [t15] w2) (K3 [u_] w2)) (λs4 _d5 w6=>
 zb t9 tr_ (s4.getD 0 u_) λt16=>za (λK7=>gIf t16 false (fl w6 t2 112 3 3 λt19=>fl w6 t3 112 3 3 λt21=>bf .neq 3 t19 t21 λt22=>K7 [t22] w6) (K7 [u_] w6)) (λs8 _d9 w10=>
 zb t16 tr_ (s8.getD 0 u_) λt23=>za (λK11=>gIf t23 false (fl w10 t2 112 4 70 λt26=>pp (Builtin.len_ #[70] 3 #[t26]) λt27=>fl w10 t3 112 4 70 λt29=>pp (Builtin.len_ #[70] 3 #[t29]) λt30=>bf .neq 3 t27 t30 λt31=>K11 [t31] w10) (K11 [u_] w10)) (λs12 _d13 w14=>
 zb t23 tr_ (s12.getD 0 u_) λt32=>zc t32 (K fa_ w14) (fl w14.drew t2 112 4 70 λt34=>pp (Builtin.len_ #[70] 3 #[t34]) λt35=>bt .eql 3 t35 (i6 0) λt36=>za (λK15=>gIf t36 false (fl w14.drew t2 112 4 70 λt39=>xl w14.drew 70 t39 (i6 0) 112 λt41=>fl w14.drew t3 112 4 70 λt43=>xl w14.drew 70 t43 (i6 0) 112 λt45=>ca yV #[t41,t45] w14.drew λt46 w19=>
 K15 [t46] w19) (K15 [u_] w14.drew)) (λs16 _d17 w18=>
 zb t36 tr_ (s16.getD 0 u_) λt47=>K t47 w18)))))
theorem aek(h:Vt t0 t1 w K):zd prog yV #[t0,t1] w K:=
 okC false (.s (.r (rz 3 0 10)) (.s (.s (.r (ra 6 0 68 (.grp 10 false (ri 5 6 68) [15] (ra 2 11 0 (.grp 17 false (ri 5 13 68) [22] (ra 2 18 0 (.grp 24 false (ri 7 20 260) [31] (rz 1 27 0)))))))) (.c (.s (.r (rz 1 0 0)) (.n)) (.n))) (.s (.r (ra 5 0 4 (.grp 37 false (ri 9 5 148548) [46] (rz 2 14 0)))) (.n)))) func159 rfl (by kernel_rfl) (by kernel_rfl) h
def aak(t0:Value)(w:World)(K:VW):Prop:=
 bt .eql 9 t0 (Value.string { data:=#[43] }) λt4=>za (λK1=>gIf t4 false (bt .eql 9 t0 (Value.string { data:=#[45] }) λt7=>K1 [t7] w) (K1 [u_] w)) (λs2 _d3 w4=>
 zb t4 tr_ (s2.getD 0 u_) λt8=>za (λK5=>gIf t8 false (bt .eql 9 t0 (Value.string { data:=#[42] }) λt11=>K5 [t11] w4) (K5 [u_] w4)) (λs6 _d7 w8=>
 zb t8 tr_ (s6.getD 0 u_) λt12=>za (λK9=>gIf t12 false (bt .eql 9 t0 (Value.string { data:=#[47] }) λt15=>K9 [t15] w8) (K9 [u_] w8)) (λs10 _d11 w12=>
 zb t12 tr_ (s10.getD 0 u_) λt16=>za (λK13=>gIf t16 false (bt .eql 9 t0 (Value.string { data:=#[37] }) λt19=>K13 [t19] w12) (K13 [u_] w12)) (λs14 _d15 w16=>
 zb t16 tr_ (s14.getD 0 u_) λt20=>K t20 w16))))
theorem afE(h:aak t0 w K):zd prog Xs #[t0] w K:=
 okC false (.s (.r (rz 1 0 0)) (.s (.r (ra 3 0 0 (.grp 5 false (ri 2 3 0) [7] (ra 2 5 0 (.grp 9 false (ri 2 7 0) [11] (ra 2 9 0 (.grp 13 false (ri 2 11 0) [15] (ra 2 13 0 (.grp 17 false (ri 2 15 0) [19] (rz 2 17 0)))))))))) (.n))) func160 rfl (by kernel_rfl) (by kernel_rfl) h
def adn(t0 t1:Value)(w:World)(K:VW):Prop:=
 pw w (Instr.box 112 t0) λt2 w1=>
 fl w1 t2 112 0 110 λt6=>bf .eql 110 t6 t1 λt8=>K t8 w1
theorem ahH(h:adn t0 t1 w K):zd prog zO #[t0,t1] w K:=
 okC false (.s (.r (rz 2 0 2)) (.s (.r (rz 5 0 4)) (.n))) func161 rfl (by kernel_rfl) (by kernel_rfl) h
def Jq(t0:Value)(w:World)(K:VW):Prop:=
 bt .eql 9 t0 (Value.string { data:=#[61,61] }) λt4=>za (λK1=>gIf t4 false (bt .eql 9 t0 (Value.string { data:=#[33,61] }) λt7=>K1 [t7] w) (K1 [u_] w)) (λs2 _d3 w4=>
 zb t4 tr_ (s2.getD 0 u_) λt8=>za (λK5=>gIf t8 false (bt .eql 9 t0 (Value.string { data:=#[60] }) λt11=>K5 [t11] w4) (K5 [u_] w4)) (λs6 _d7 w8=>
 zb t8 tr_ (s6.getD 0 u_) λt12=>za (λK9=>gIf t12 false (bt .eql 9 t0 (Value.string { data:=#[60,61] }) λt15=>K9 [t15] w8) (K9 [u_] w8)) (λs10 _d11 w12=>
 zb t12 tr_ (s10.getD 0 u_) λt16=>za (λK13=>gIf t16 false (bt .eql 9 t0 (Value.string { data:=#[62] }) λt19=>K13 [t19] w12) (K13 [u_] w12)) (λs14 _d15 w16=>
 zb t16 tr_ (s14.getD 0 u_) λt20=>za (λK17=>gIf t20 false (bt .eql 9 t0 (Value.string { data:=#[62,61] }) λt23=>K17 [t23] w16) (K17 [u_] w16)) (λs18 _d19 w20=>
 zb t20 tr_ (s18.getD 0 u_) λt24=>K t24 w20)))))
theorem ado(h:Jq t0 w K):zd prog ZS #[t0] w K:=
 okC false (.s (.r (rz 1 0 0)) (.s (.r (ra 3 0 0 (.grp 5 false (ri 2 3 0) [7] (ra 2 5 0 (.grp 9 false (ri 2 7 0) [11] (ra 2 9 0 (.grp 13 false (ri 2 11 0) [15] (ra 2 13 0 (.grp 17 false (ri 2 15 0) [19] (ra 2 17 0 (.grp 21 false (ri 2 19 0) [23] (rz 2 21 0)))))))))))) (.n))) func162 rfl (by kernel_rfl) (by kernel_rfl) h
def aal(t0:Value)(w:World)(K:VW):Prop:=
 zo [(i6 0),(i6 0)] w (λs2 _d3 w4 K1=>
 pp (Builtin.len_ #[26] 3 #[t0]) λt7=>bf .lss 3 (s2.getD 1 u_) t7 λt8=>zc t8 (za (λK5=>
 xl w4 26 t0 (s2.getD 1 u_) 3 λt14=>bf .gtr 3 t14 (s2.getD 0 u_) λt16=>zc t16 (xl w4 26 t0 (s2.getD 1 u_) 3 λt20=>K5 [t20] w4) (K5 [(s2.getD 0 u_)] w4)) (λs6 _d7 w8=>
 bt .add 3 (s2.getD 1 u_) (i6 1) λt10=>K1 [(s6.getD 0 u_),t10] w8)) (K (s2.getD 0 u_) w4))
theorem afF(h:aal t0 w K):zd prog kV #[t0] w K:=
 okC false (.s (.r (rz 1 0 0)) (.s (.r (rz 1 0 0)) (.s (.s (.r (rz 1 0 0)) (.b (.lp [3,4] (.s (.s (.r (rz 4 0 0)) (.c (.n) (.n))) (.j [3] (.b (.s (.r (rz 6 0 64)) (.c (.r (rz 5 0 64)) (.n)))) (.r (rz 3 0 0))))))) (.s (.r (rz 2 0 0)) (.n))))) func163 rfl (by kernel_rfl) (by kernel_rfl) h
def Yv(t0 t1 t2:Value)(w:World)(K:VW):Prop:=
 pp (Builtin.len_ #[53] 3 #[t1]) λt11=>pp (Builtin.len_ #[70] 3 #[t2]) λt13=>bf .neq 3 t11 t13 λt14=>zc t14 (K fa_ w) (zo [(i6 0)] w (λs2 _d3 w4 K1=>
 pp (Builtin.len_ #[53] 3 #[t1]) λt17=>bf .lss 3 (s2.getD 0 u_) t17 λt18=>zc t18 (xl w4 53 t1 (s2.getD 0 u_) 61 λt26=>ca y7 #[t0,t26] w4 λt27 w5=>
 pe t27 0 λt28=>pe t27 1 λt29=>pw w5 (Instr.alloc 112 true (.tuple #[])) λt8 w6=>
 so w6 112 t8 t28 λw7=>pp (Op.unary .not t29) λt31=>za (λK8=>gIf t31 false (lo w7.drew 112 t8 λt33=>xl w7.drew 70 t2 (s2.getD 0 u_) 112 λt37=>ca yV #[t33,t37] w7.drew λt38 w12=>
 pp (Op.unary .not t38) λt39=>K8 [t39] w12) (K8 [u_] w7.drew)) (λs9 _d10 w11=>
 zb t31 tr_ (s9.getD 0 u_) λt40=>zc t40 (K fa_ w11) (bt .add 3 (s2.getD 0 u_) (i6 1) λt20=>K1 [t20] w11))) (K tr_ w4)))
theorem VF(h:Yv t0 t1 t2 w K):zd prog kF #[t0,t1,t2] w K:=
 okC false (.s (.r (rz 1 0 0)) (.s (.s (.r (rz 5 0 0)) (.c (.s (.r (rz 1 0 0)) (.n)) (.n))) (.s (.s (.r (rz 1 0 0)) (.b (.lp [7] (.s (.s (.r (rz 4 0 0)) (.c (.n) (.n))) (.s (.b (.s (.r (rz 12 0 2623744)) (.s (.r (ra 3 0 0 (.grp 32 false (ri 7 3 2305) [39] (rz 1 10 0)))) (.c (.s (.r (rz 1 0 0)) (.n)) (.n))))) (.r (rz 3 0 0))))))) (.s (.r (rz 1 0 0)) (.n))))) func165 rfl (by kernel_rfl) (by kernel_rfl) h
def Y3(t0:Value)(w:World)(K:VW):Prop:=
 pw w (Instr.box 59 t0) λt1 w1=>
 fl w1 t1 59 0 3 λt4=>bt .eql 3 t4 (i6 0) λt5=>za (λK2=>gIf t5 true (fl w1 t1 59 1 57 λt8=>pp (Builtin.len_ #[57] 3 #[t8]) λt9=>bt .eql 3 t9 (i6 0) λt10=>K2 [t10] w1) (K2 [u_] w1)) (λs3 _d4 w5=>
 zb t5 (s3.getD 0 u_) fa_ λt11=>K t11 w5)
theorem aam(h:Y3 t0 w K):zd prog yN #[t0] w K:=
 okC false (.s (.r (rz 2 0 2)) (.s (.r (ra 4 0 4 (.grp 6 true (ri 4 4 4) [10] (rz 2 8 0)))) (.n))) func192 rfl (by kernel_rfl) (by kernel_rfl) h
def ZK(t0:Value)(w:World)(K:VW):Prop:=
 pw w (Instr.box 61 t0) λt1 w1=>
 fl w1 t1 61 0 56 λt4=>bt .eql 56 t4 (Value.int .u8 0) λt5=>za (λK2=>gIf t5 true (fl w1 t1 61 1 2 λt8=>bt .eql 2 t8 (i6 0) λt9=>K2 [t9] w1) (K2 [u_] w1)) (λs3 _d4 w5=>
 zb t5 (s3.getD 0 u_) fa_ λt10=>za (λK6=>gIf t10 true (fl w5 t1 61 2 59 λt13=>ca yN #[t13] w5 λt14 w10=>
 K6 [t14] w10) (K6 [u_] w5)) (λs7 _d8 w9=>
 zb t10 (s7.getD 0 u_) fa_ λt15=>K t15 w9))
theorem JZ(h:ZK t0 w K):zd prog kr #[t0] w K:=
 okC false (.s (.r (rz 2 0 2)) (.s (.r (ra 4 0 4 (.grp 6 true (ri 3 4 4) [9] (ra 2 7 0 (.grp 11 true (ri 3 9 36) [14] (rz 2 12 0)))))) (.n))) func194 rfl (by kernel_rfl) (by kernel_rfl) h
end
end Go.Proofs.Tryz
namespace Go.Sh
theorem ael{w:World}{b g m c:Bool}{A1:(List Value→World→Prop)→Prop}{A2 A3:(List Value→World→Prop)→World→Prop}{Z:Value→World→Prop}
  (h1:∀K:List Value→World→Prop,K [.bool g] w→A1 K) (h2:∀K:List Value→World→Prop,K [.bool m] w→A2 K w) (h3:∀K:List Value→World→Prop,K [.bool c] w→A3 K w)
  (hZ:Z (.bool (b||(g&&(m||c)))) w):
  za (λK=>gIf (.bool b) false (A1 K) (K [u_] w)) λs3 _ w5=>
   za (λK=>gIf (s3.getD 0 u_) true (A2 K w5) (K [u_] w5)) λs7 _ w9=>
    za (λK=>gIf (s7.getD 0 u_) false (A3 K w9) (K [u_] w9)) λs11 _ w13=>
     za (λK=>gIf (s3.getD 0 u_) true (zb (s7.getD 0 u_) (.bool true) (s11.getD 0 u_) λt=>K [t] w13) (K [u_] w13)) λs15 _ w17=>
      za (λK=>gIf (.bool b) false (zb (s3.getD 0 u_) (s15.getD 0 u_) (.bool false) λt=>K [t] w17) (K [u_] w17)) λs19 _ w21=>
       zb (.bool b) (.bool true) (s19.getD 0 u_) λt=>Z t w21:=by
 cases b<;>cases g<;>cases m<;>cases c <;>
  (iterate 5 (intro K hK;first|refine hK _ _ λ_=>?_|refine h1 _ (hK _ _ λ_=>?_)|refine h2 _ (hK _ _ λ_=>?_)|refine h3 _ (hK _ _ λ_=>?_)|refine ⟨_,rfl,hK _ _ λ_=>?_⟩)) <;>
  exact⟨_,rfl,by simpa using hZ⟩
end Go.Sh
namespace Go.Proofs
open Go.Sh
def mtB(s:Int)(n:Nat)(refs:Bool)(t:TyD):Bool:=zE s n t&&(refs||decide (t.regs.length=0))
def J0(s:Int)(n:Nat)(refs:Bool)(t:TyD):Bool:=match t.of with|u::_=>mtB s n refs u|[]=>false
theorem ah2{s:Int}{n:Nat}{refs:Bool}:∀{t:TyD}{h:0<t.of.length},J0 s n refs t=mtB s n refs t.of[0]
 |.mk _ _ _ _ (_::_),_=>rfl
 |.mk _ _ _ _ [],h=>absurd h (Nat.not_lt_zero _)
theorem akO(s:Int)(n:Nat)(refs:Bool)(t:TyD):mtB s (n+1) refs t =
  if((decide (t.k≠4)&&(t.m||decide (t.re≠0)))||(decide (t.k≠5)&&decide (t.st≠0)))=true then false
  else if t.k=1∨t.k=2 then decide (t.of.length=0)
  else if t.k=5 then(decide (t.of.length=0)&&decide (0≤t.st))&&decide (t.st<s)
  else if t.k=3 then decide (t.of.length=1)&&J0 s n refs t
  else if t.k=4 then((refs&&decide (t.of.length=1))&&decide (-1≤t.re))&&J0 s n refs t
  else false:=by
 have hreg0:t.of=[]→t.k≠4→t.regs=[]:=λho hk=>by rw[ab9 ho,if_neg hk]
 rw[mtB,xS]
 cases hof:t.of with
 |nil=>
  have hi:inB s n t=false:=by rw[inB,hof]
  have hi2:J0 s n refs t=false:=by rw[J0,hof]
  rw[hi,hi2]
  by_cases h4:t.k=4
  ·simp[h4]
  ·rw[hreg0 hof h4]
   by_cases h12:t.k=1∨t.k=2
   ·rw[if_pos h12,if_pos h12]
    have h5:¬t.k=5:=by omega
    by_cases hm:t.m=true<;>by_cases hr:t.re=0<;>by_cases hs:t.st=0<;>simp [hm,hr,hs,h4,h5]
   ·rw[if_neg h12,if_neg h12]
    by_cases h5:t.k=5
    ·by_cases hm:t.m=true<;>by_cases hr:t.re=0<;>simp [hm,hr,h4,h5]
    ·simp[h5,h4]
 |cons u l=>
  have hi:inB s n t=zE s n u:=by rw[inB,hof]
  have hi2:J0 s n refs t=mtB s n refs u:=by rw[J0,hof]
  rw[hi,hi2,mtB]
  by_cases h12:t.k=1∨t.k=2
  ·rw[if_pos h12,if_pos h12];simp
  rw[if_neg h12,if_neg h12]
  by_cases h5:t.k=5
  ·simp[h5]
  rw[if_neg h5,if_neg h5]
  cases l with
  |cons x l=>simp
  |nil=>
   rw[aca hof]
   by_cases h3:t.k=3
   ·have h4:¬t.k=4:=by omega
    by_cases hm:t.m=true<;>by_cases hr:t.re=0<;>by_cases hs:t.st=0<;>simp [hm,hr,hs,h3,h4]
   ·rw[if_neg h3,if_neg h3]
    by_cases h4:t.k=4
    ·by_cases hs:t.st=0<;>cases refs<;>by_cases hr: -1≤t.re<;>simp [hs,hr,h4,h5]
    ·simp[h4]
theorem agO(s:Int)(n:Nat)(t:TyD):mtB s n true t=zE s n t:=by rw[mtB,Bool.true_or,Bool.and_true]
theorem Zx:∀(n:Nat){t:TyD}{refs:Bool}{w:World}{r:Gh}{v:Value}{s:Int}{K:Value→World→Prop},n≤1000→Holds r w→TyG r v t→
  (∀w',Ext w w'→K (.bool (mtB s n refs t)) w')→zd Tryz.prog Tryz.xf #[v,.int .i64 s,.int .i64 (n:Int),.bool refs] w K:=by
 intro n
 induction n with
 |zero=>
  intro t refs w r v s K _ hr hv h
  refine Tryz.XQ ?_
  unfold Tryz.Zw
  obtain⟨p,cap,rfl,_,_,hof⟩:=hv
  have S:=St.start hr
  refine S.box λb2 w1 S=>?_
  refine gg_ ?_
  refine ael (g:=decide (t.k≠4)) (m:=t.m) (c:=decide (t.re≠0)) (λK hK=>by refine gg_ ?_;exact hK) (λK hK=>by refine gg_ ?_;exact hK) (λK hK=>by refine gg_ ?_;exact hK) ?_
  refine ZZ (g:=decide (t.k≠5)) (c:=decide (t.st≠0)) (λ_ K hK=>by refine gg_ ?_;exact hK) (λ_ K hK=>by refine gg_ ?_;exact hK) ?_
  refine c_t (by simp) ?_
  exact h _ S.ext
 |succ n ih=>
  intro t refs w r v s K hn hr hv h
  refine Tryz.XQ ?_
  unfold Tryz.Zw
  obtain⟨p,cap,rfl,_,_,hof⟩:=hv
  have S:=St.start hr
  refine S.box λb2 w1 S=>?_
  have S:StX noX w r w1 [.cell b2 (tyL t p cap) 112]:=S
  refine gg_ ?_
  refine ael (g:=decide (t.k≠4)) (m:=t.m) (c:=decide (t.re≠0)) (λK hK=>by refine gg_ ?_;exact hK) (λK hK=>by refine gg_ ?_;exact hK) (λK hK=>by refine gg_ ?_;exact hK) ?_
  refine ZZ (g:=decide (t.k≠5)) (c:=decide (t.st≠0)) (λ_ K hK=>by refine gg_ ?_;exact hK) (λ_ K hK=>by refine gg_ ?_;exact hK) ?_
  rw[decide_eq_false (show¬((n+1:Nat):Int)<1 by omega),Bool.false_or]
  rw[akO]at h
  refine c_b (λhbad=>?_) (λhok=>?_)
  ·rw[if_pos hbad]at h;exact h _ S.ext
  rw[if_neg (by rw[hok];decide)]at h
  refine gg_ ?_
  intro K11 hK11
  refine gg_ ?_
  refine qu (c:=decide (t.k=2)) (hK11 _ _ λ_=>?_) λ_ hk=>?_
  rotate_left
  ·refine gg_ ?_;exact hk
  simp only[gdz]
  refine c_b (λh12=>?_) (λh12=>?_)
  ·have h12:t.k=1∨t.k=2:=by simpa using h12
   rw[if_pos h12]at h
   refine gg_ ?_
   rw[decide_eq_decide.2 (qB t.of.length)]
   exact h _ S.ext
  have h12:¬(t.k=1∨t.k=2):=by simpa using h12
  rw[if_neg h12]at h
  refine gg_ ?_
  refine zf (λh5=>?_) (λh5=>?_)
  ·rw[if_pos h5]at h
   refine gg_ ?_
   refine zi (c:=decide (0≤t.st)) (λ_ K2 hK2=>by refine gg_ ?_;exact hK2) ?_
   refine zi (c:=decide (t.st<s)) (λ_ K2 hK2=>by refine gg_ ?_;exact hK2) ?_
   rw[decide_eq_decide.2 (qB t.of.length)]
   exact h _ S.ext
  rw[if_neg h5]at h
  refine gg_ ?_
  refine zf (λh3=>?_) (λh3=>?_)
  ·rw[if_pos h3]at h
   refine gg_ ?_
   refine zt (c:=J0 s n refs t) (λhb K2 hK2=>?_) λw5 e5=>?_
   ·have hlen:t.of.length=1:=by simpa [vP]using hb
    refine gg_ ?_
    obtain⟨b,off,c,rfl,hc,hcell,ht⟩:=vO S hof (i:=0) (by omega)
    refine gg_ ?_
    refine zp (n:=5) hc (by simpa using hcell) ?_
    refine gg_ ?_
    rw[show ((n+1:Nat):Int)-1=(n:Int)by omega]
    refine ih (by omega) S.holds ht λw6 e6=>?_
    rw[← ah2]
    exact hK2 _ e6
   rw[decide_eq_decide.2 (vP t.of.length)]
   exact h _ (S.go e5).ext
  rw[if_neg h3]at h
  refine gg_ ?_
  refine zf (λh4=>?_) (λh4=>?_)
  ·rw[if_pos h4]at h
   refine zi (c:=decide (t.of.length=1)) (λ_ K2 hK2=>by refine gg_ ?_;rw[decide_eq_decide.2 (vP t.of.length)];exact hK2) ?_
   refine zi (c:=decide (-1≤t.re)) (λ_ K2 hK2=>by refine gg_ ?_;exact hK2) ?_
   refine zt (c:=J0 s n refs t) (λhb K2 hK2=>?_) λw5 e5=>?_
   ·have hlen:t.of.length=1:=by
     simp only[gba,gdt]at hb;exact hb.1.2
    refine gg_ ?_
    obtain⟨b,off,c,rfl,hc,hcell,ht⟩:=vO S hof (i:=0) (by omega)
    refine gg_ ?_
    refine zp (n:=5) hc (by simpa using hcell) ?_
    refine gg_ ?_
    rw[show ((n+1:Nat):Int)-1=(n:Int)by omega]
    refine ih (by omega) S.holds ht λw6 e6=>?_
    rw[← ah2]
    exact hK2 _ e6
   exact h _ (S.go e5).ext
  rw[if_neg h4]at h
  exact h _ S.ext
end Go.Proofs
namespace Go.Sh
theorem alE{w:World}{b g c:Bool}{A1:(List Value→World→Prop)→Prop}{A2:(List Value→World→Prop)→World→Prop}{Z:Value→World→Prop}
  (h1:∀K:List Value→World→Prop,K [.bool g] w→A1 K) (h2:∀K:List Value→World→Prop,K [.bool c] w→A2 K w) (hZ:Z (.bool (b&&(g||c))) w):
  za (λK=>gIf (.bool b) true (A1 K) (K [u_] w)) λs15 _ w17=>
   za (λK=>gIf (s15.getD 0 u_) false (A2 K w17) (K [u_] w17)) λs19 _ w21=>
    za (λK=>gIf (.bool b) true (zb (s15.getD 0 u_) (.bool true) (s19.getD 0 u_) λt=>K [t] w21) (K [u_] w21)) λs23 _ w25=>
     zb (.bool b) (s23.getD 0 u_) (.bool false) λt=>Z t w25:=by
 cases b<;>cases g<;>cases c <;>
  (iterate 3 (intro K hK;first|refine hK _ _ λ_=>?_|refine h1 _ (hK _ _ λ_=>?_)|refine h2 _ (hK _ _ λ_=>?_)|refine ⟨_,rfl,hK _ _ λ_=>?_⟩)) <;>
  exact⟨_,rfl,by simpa using hZ⟩
end Go.Sh
namespace Go.Proofs
open Go.Sh
theorem afG{ss:List StD}{p:Option Addr}{cap:Nat}(hg:kx ss)(hac:∀k,¬Rch ss k k):∀(m:Nat){t:TyD}{w:World}{r:Gh}{v:Value}{K:Value→World→Prop},m≤100→rkT ss t≤m→zE ss.length 48 t=true→ss.length≤32→(∀k,(ze ss k).length≤8)→
  Holds r w→StG r p ss→TyG r v t→(∀(n:Nat) w',Ext w w'→n≤17*m+1→(n=wF ss m t∨(16<n∧16<wF ss m t))→K (.int .i64 (n:Int)) w')→zd Tryz.prog Tryz.vh #[.slice p ss.length cap,v] w K:=by
 intro m
 induction m with
 |zero=>
  intro t w r v K _ hrk hl h32 h8 hr hs hv h
  have h5:¬t.k=5:=λh=>by unfold rkT at hrk;rw[if_pos h]at hrk;omega
  refine Tryz.Jp ?_
  unfold Tryz.YT
  obtain⟨p1,cap1,rfl,_⟩:=hv
  have S:=St.start hr
  refine S.box λb3 w1 S=>?_
  refine gg_ ?_
  refine zf (λ_=>?_) (λhn=>absurd (by omega) h5)
  exact h 1 _ S.ext (by omega) (.inl (by rw[wF]))
 |succ m ih=>
  intro t w r v K hm hrk hl h32 h8 hr hs hv h
  refine Tryz.Jp ?_
  unfold Tryz.YT
  obtain⟨p1,cap1,rfl,_⟩:=hv
  have S:=St.start hr
  refine S.box λb3 w1 S=>?_
  refine gg_ ?_
  refine zf (λhn=>?_) (λh5=>?_)
  ·exact h 1 _ S.ext (by omega) (.inl (by rw[wF,if_neg (by omega)]))
  have h5:t.k=5:=by omega
  obtain⟨hst0,hst1,_⟩:=jC hl h5
  have hlt:t.st.toNat<ss.length:=by omega
  obtain⟨b,off,q,capq,rfl,hcell,_,_,hf⟩:=xK hs hlt
  have htl:ze ss t.st=ss[t.st.toNat].fs.map (·.2):=by
   rw[← yD hlt];simp only[ze,tnc]
  have hlen:(ze ss t.st).length=ss[t.st.toNat].fs.length:=by rw[htl,List.length_map]
  have h88:=h8 t.st
  refine zh (ι:=Nat×Nat) (λi=>[.int .i64 (i.2:Nat),.int .i64 (i.1:Nat)]) (λi w'=>i.1≤(ze ss t.st).length∧i.2≤17*(m+1)+1∧(i.2=yl (((ze ss t.st).take i.1).map (wF ss m))∨(16<i.2∧16<yl (((ze ss t.st).take i.1).map (wF ss m))))∧St w r w' _)
   (λi=>(ze ss t.st).length-i.1) (0,0) rfl ⟨gzl _,gzl _,.inl (by simp[yl]),S⟩ ?_
  clear S
  rintro⟨i,n⟩ d w2 ⟨hi,hnb,hn,S⟩ K6 hK6
  simp only at hi hnb hn S⊢
  simp only[gdz,gds]
  refine gg_ ?_
  refine zg (S.at hcell) ?_
  refine gg_ ?_
  have hle:yl (((ze ss t.st).take i).map (wF ss m))≤wF ss (m+1) t:=by
   rw[wF,if_pos h5];exact aea _ _ _
  refine zi (c:=decide (n≤16)) (λ_ K2 hK2=>?_) ?_
  ·refine gg_ ?_
   rw[show decide ((n:Int)≤16)=decide (n≤16)from decide_eq_decide.2 (by omega)]
   exact hK2
  refine c_b (λhlt2=>?_) (λhge=>?_)
  ·obtain⟨hlt2,hsm⟩:i<ss[t.st.toNat].fs.length∧n≤16:=by
    simp only[gba,gdt]at hlt2;omega
   have hlt3:i<(ze ss t.st).length:=by omega
   have hn:n=yl (((ze ss t.st).take i).map (wF ss m)):=by omega
   obtain⟨b2,off2,c,rfl,hcl,hcc,hty⟩:=qC hf hlt2
   refine gg_ ?_
   refine zg (S.at hcell) ?_
   refine gg_ ?_
   refine zp (n:=5) (c:=c) hcl (λj v hj=>by
    have:=S.at (hcc (j+1) v (by simpa using hj))
    rw[tnc,Nat.add_assoc _ 1 j,Nat.add_comm 1 j];exact this) ?_
   have hel:(ze ss t.st)[i]=ss[t.st.toNat].fs[i].2:=by simp only[htl,List.getElem_map]
   have hmem:ss[t.st.toNat].fs[i].2∈ze ss t.st:=by rw[← hel];exact gem hlt3
   have hrk2:=ac6 hg hac h5 hmem
   refine ih (by omega) (by omega) (hg _ _ hmem) h32 h8 S.holds hs hty λx w5 e5 hxb hx=>?_
   have S:=S.go e5
   have hst:=VZ (wF ss m) hlt3
   rw[hel]at hst
   refine gg_ ?_
   rw[show ((n:Int)+(x:Int))=((n+x:Nat):Int)by omega,show ((i:Int)+1)=((i+1:Nat):Int)by omega]
   exact hK6 (i+1,n+x) _ ⟨hlt3,by simp only;omega,by simp only;omega,S⟩ (by simp only;omega)
  ·refine h n _ S.ext hnb ?_
   by_cases hie:i=(ze ss t.st).length
   ·rw[hie,List.take_length]at hn
    rw[wF,if_pos h5];exact hn
   ·have h1:¬n≤16:=by
     intro hc
     rw[gde hc,Bool.and_true,decide_eq_false_iff_not]at hge
     omega
    exact .inr ⟨by omega,by omega⟩
theorem aiM:∀(l:List Bool)(L:Nat),(∀j,l.getD j false=true→j<L)→l.length≤cf l+L
 |[],L,_=>gzl _
 |b::l,0,h=>by
  have hb:b=false:=by
   cases b
   ·rfl
   ·exact absurd (h 0 rfl) (Nat.lt_irrefl 0)
  have:=aiM l 0 λj hj=>absurd (h (j+1) (by simpa using hj)) (Nat.not_lt_zero _)
  rw[hb,cf,List.length_cons]
  simp only[Bool.false_eq_true,if_false]
  omega
 |b::l,L+1,h=>by
  have:=aiM l L λj hj=>Nat.lt_of_succ_lt_succ (h (j+1) (by simpa using hj))
  rw[cf,List.length_cons]
  omega
def Shut(ss:List StD)(k:Nat)(met:List Bool):Prop:=∀b:Nat,b<ss.length→(b=k∨mt met b=true)→∀t∈ze ss b,t.k=5→mt met t.st=true
theorem akP{ss:List StD}{k:Nat}{met:List Bool}(hg:kx ss)(hk:k<ss.length)(h:Shut ss k met){j:Int}(hr:Rch ss k j):mt met j=true:=by
 induction hr with
 |one e=>obtain ⟨t,ht,h5,rfl⟩:=e;exact h k hk (.inl rfl) t ht h5
 |@more x j hr e ih=>
  obtain⟨t,ht,h5,rfl⟩:=e
  have hin:=ac4 hg hr
  have hx:((x.toNat:Nat):Int)=x:=by omega
  exact h x.toNat (by omega) (.inr (by rw[hx];exact ih)) t (by rw[hx];exact ht) h5
theorem aem{met:List Bool}{j:Int}(h:mt met j=true):met.set j.toNat true=met:=by
 unfold mt at h
 rw[ggd]at h
 by_cases hl:j.toNat<met.length
 ·rw[gqg hl]at h
  have h:met[j.toNat]=true:=h
  rw[← h,List.set_getElem_self]
 ·rw[List.getElem?_eq_none (by omega)]at h;cases h
theorem adp{ss:List StD}{p:Option Addr}{cap k:Nat}(hg:kx ss)(h32:ss.length≤32)(hk:k<ss.length)(h8:∀k,(ze ss k).length≤8){w:World}{r:Gh}{K:Value→World→Prop}(hr:Holds r w)(hs:StG r p ss)
  (h:∀w',Ext w w'→K (.bool (qZ ss k)) w'):zd Tryz.prog Tryz.Zk #[.slice p ss.length cap,.int .i64 (k:Nat)] w K:=by
 refine Tryz.aco ?_
 unfold Tryz.Qp
 have S:=St.start hr
 refine S.al λb5 w1 S=>?_
 have S:StX noX w r w1 [.cell b5 (yg (List.replicate 32 false)) 247]:=S
 have hno:∀j:Nat,mt (List.replicate 32 false) j=true→False:=λj hj=>by
  unfold mt at hj;rw[ggd,List.getElem?_replicate]at hj
  split at hj<;>cases hj
 refine zh (ι:=Nat×List Bool) (λi=>[.int .i64 (i.1:Nat)]) (λi w'=>i.1≤ss.length+1∧i.2.length=32∧(∀j:Nat,mt i.2 j=true→Rch ss k j)∧(Shut ss k i.2∨cf i.2+i.1≤32)∧StX noX w r w' [.cell b5 (yg i.2) 247])
  (λi=>ss.length+1-i.1) (0,List.replicate 32 false) rfl ⟨gzl _,rfl,λj hj=>(hno j hj).elim,.inr (show cf (List.replicate 32 false)+0≤32 by decide),S⟩ ?_
 clear S
 rintro⟨R,met⟩ d w2 ⟨hR,hl32,hsnd,hcl,S⟩ K2 hK2
 simp only at hR hl32 hsnd hcl S⊢
 rw[gdz]
 refine gg_ ?_
 refine zf (λhlt=>?_) (λhge=>?_)
 rotate_left
 ·have hRe:R=ss.length+1:=by omega
  have hsh:Shut ss k met:=by
   refine hcl.resolve_right λhc=>?_
   have:=aiM met ss.length λj hj=>by
    have h1:mt met j=true:=by unfold mt;rw[tnc];exact hj
    have:=ac4 hg (hsnd j h1)
    omega
   omega
  refine gg_ ?_
  refine S.ld (b:=b5) (v:=.bool (mt met (k:Int))) ?_ (by rw[Nat.zero_add,Nat.mul_one];exact XJ (by omega))
  rw[aaW (b:=mt met (k:Int)) (λhb=>hsnd k hb) λhr=>akP hg hk hsh hr]
  exact h _ S.ext
 have hlt:R≤ss.length:=by omega
 refine zh (ι:=Nat×List Bool) (λi=>[.int .i64 (i.1:Nat)]) (λi w'=>i.1≤ss.length∧i.2.length=32∧(∀j:Nat,mt i.2 j=true→Rch ss k j)∧cf i.2≤cf met∧(cf i.2=cf met→∀b:Nat,b<i.1→(b=k∨mt i.2 b=true)→∀t∈ze ss b,t.k=5→mt i.2 t.st=true)∧(Shut ss k met→i.2=met)∧StX noX w r w' [.cell b5 (yg i.2) 247])
  (λi=>ss.length-i.1) (0,met) rfl ⟨gzl _,hl32,hsnd,Nat.le_refl _,λ_ b hb=>absurd hb (Nat.not_lt_zero _),λ_=>rfl,S⟩ ?_
 clear S
 rintro⟨b,m1⟩ d w3 ⟨hb,hl1,hsnd1,hc1,hsh1,hfx1,S⟩ K6 hK6
 simp only at hb hl1 hsnd1 hc1 hsh1 hfx1 S⊢
 rw[gdz]
 refine gg_ ?_
 refine zf (λhlt2=>?_) (λhge2=>?_)
 rotate_left
 ·have hbe:b=ss.length:=by omega
  refine gg_ ?_
  rw[show ((R:Int)+1)=((R+1:Nat):Int)by omega]
  refine hK2 (R+1,m1) _ ⟨by simp only;omega,hl1,hsnd1,?_,S⟩ (by simp only;omega)
  rcases hcl with hcl|hcl
  ·rw[hfx1 hcl];exact .inl hcl
  ·by_cases hce:cf m1=cf met
   ·exact .inl λb' hb'=>hsh1 hce b' (by omega)
   ·exact .inr (by simp only;omega)
 have hlt2:b<ss.length:=by omega
 obtain⟨bs,os,q,capf,rfl,hcs,_,_,hf⟩:=xK hs hlt2
 have htl:=yD hlt2
 have hlen:(ze ss (b:Int)).length=ss[b].fs.length:=by rw[htl,List.length_map]
 have h88:=h8 b
 refine zh (ι:=Nat×List Bool) (λi=>[.int .i64 (i.1:Nat)]) (λi w'=>i.1≤(ze ss (b:Int)).length∧i.2.length=32∧(∀j:Nat,mt i.2 j=true→Rch ss k j)∧cf i.2≤cf met∧(cf i.2=cf met→∀b':Nat,b'<b→(b'=k∨mt i.2 b'=true)→∀t∈ze ss b',t.k=5→mt i.2 t.st=true)∧
   (cf i.2=cf met→∀t∈(ze ss (b:Int)).take i.1,t.k=5→mt i.2 t.st=true)∧(Shut ss k met→i.2=met)∧StX noX w r w' [.cell b5 (yg i.2) 247])
  (λi=>(ze ss (b:Int)).length-i.1) (0,m1) rfl ⟨gzl _,hl1,hsnd1,hc1,hsh1,λ_ t ht=>by simp at ht,hfx1,S⟩ ?_
 clear S
 rintro⟨i,m2⟩ d w4 ⟨hi,hl2,hsnd2,hc2,hsh2,hrow2,hfx2,S⟩ K10 hK10
 simp only at hi hl2 hsnd2 hc2 hsh2 hrow2 hfx2 S⊢
 rw[gdz]
 refine gg_ ?_
 refine zg (by rw[tnc];exact S.at hcs) ?_
 refine gg_ ?_
 refine alE (g:=decide ((b:Int)=(k:Int))) (c:=mt m2 (b:Int)) (λK hK=>by refine gg_ ?_;exact hK) (λK hK=>?_) ?_
 ·refine gg_ ?_
  refine S.ld (b:=b5) (v:=.bool (mt m2 (b:Int))) ?_ (by rw[Nat.zero_add,Nat.mul_one];exact XJ (by omega))
  exact hK
 refine c_b (λhgo=>?_) (λhno=>?_)
 rotate_left
 ·refine gg_ ?_
  rw[show ((b:Int)+1)=((b+1:Nat):Int)by omega]
  refine hK6 (b+1,m2) _ ⟨hlt2,hl2,hsnd2,hc2,λhce b' hb' hor t ht h5=>?_,hfx2,S⟩ (by simp only;omega)
  have hb':b'<b+1:=hb'
  by_cases hbb:b'=b
  ·subst hbb
   by_cases hie:i=(ze ss (b':Int)).length
   ·refine hrow2 hce t ?_ h5
    rw[hie,List.take_length];exact ht
   ·exfalso
    have hor:b'=k∨mt m2 (b':Int)=true:=hor
    rw[gde (show(i:Int)<(ss[b'].fs.length:Int)by omega),Bool.true_and,Bool.or_eq_false_iff,decide_eq_false_iff_not]at hno
    rcases hor with rfl|hor
    ·exact hno.1 rfl
    ·rw[hno.2]at hor;cases hor
  ·exact hsh2 hce b' (by omega) hor t ht h5
 simp only[gba,Bool.or_eq_true,gdt]at hgo
 obtain⟨hil,hor⟩:=hgo
 have hlt3:i<ss[b].fs.length:=by omega
 have hlt4:i<(ze ss (b:Int)).length:=by omega
 have hel:(ze ss (b:Int))[i]=ss[b].fs[i].2:=by simp only[htl,List.getElem_map]
 obtain⟨b2,off2,c,rfl,hcl2,hcc,hty⟩:=qC hf hlt3
 obtain⟨pt,capt,rfl,_⟩:=XI hty
 have lk:Ob r λw=>w.cell? ⟨b2,off2+i*6+1,none⟩=some (.int .u8 ss[b].fs[i].2.k):=hcc 1 _ rfl
 have ls:Ob r λw=>w.cell? ⟨b2,off2+i*6+4,none⟩=some (.int .i64 ss[b].fs[i].2.st):=hcc 4 _ rfl
 have hst:=List.take_succ_eq_append_getElem hlt4
 have hmem:(ze ss (b:Int))[i]∈ze ss (b:Int):=gem hlt4
 rw[hel]at hst hmem
 generalize ss[b].fs[i].2=u at lk ls hst hmem
 have hgo2:∀{m3:List Bool}{w9:World},m3.length=32→(∀j:Nat,mt m3 j=true→Rch ss k j)→cf m3≤cf m2→(cf m3=cf m2→m3=m2)→(cf m3=cf met→u.k=5→mt m3 u.st=true)→(Shut ss k met→m3=met)→StX noX w r w9 [.cell b5 (yg m3) 247]→K10 [.int .i64 ((i+1:Nat):Int)] w9:=λh1 h2 h3 h4 h5 h6 S=>by
  refine hK10 (i+1,_) _ ⟨hlt4,h1,h2,by simp only;omega,λhce=>?_,λhce t ht htk=>?_,h6,S⟩ (by simp only;omega)
  ·rw[h4 (by simp only at hce;omega)];exact hsh2 (by simp only at hce;omega)
  ·simp only at hce ht⊢
   rw[hst,List.mem_append,List.mem_singleton]at ht
   rcases ht with ht|rfl
   ·rw[h4 (by omega)];exact hrow2 (by omega) t ht htk
   ·exact h5 hce htk
 refine zn (λ_ w'=>∃m3:List Bool,m3.length=32∧(∀j:Nat,mt m3 j=true→Rch ss k j)∧cf m3≤cf m2∧(cf m3=cf m2→m3=m2)∧(cf m3=cf met→u.k=5→mt m3 u.st=true)∧(Shut ss k met→m3=met)∧StX noX w r w' [.cell b5 (yg m3) 247]) (λK11 hK11=>?_) ?_
 rotate_left
 ·rintro _ w5 ⟨m3,h1,h2,h3,h4,h5,h6,S⟩ d5
  refine gg_ ?_
  rw[show ((i:Int)+1)=((i+1:Nat):Int)by omega]
  exact hgo2 h1 h2 h3 h4 h5 h6 S
 refine gg_ ?_
 refine zg (by rw[tnc];exact S.at hcs) ?_
 refine gg_ ?_
 refine zg (by rw[tnc];exact S.at lk) ?_
 refine gg_ ?_
 refine zf (λh5=>?_) (λh5=>?_)
 rotate_left
 ·exact hK11 _ _ ⟨m2,hl2,hsnd2,Nat.le_refl _,λ_=>rfl,λ_ hh=>absurd (by omega) h5,hfx2,S⟩
 have h5:u.k=5:=by omega
 have hkid:Kid ss (b:Int) u.st:=⟨u,hmem,h5,rfl⟩
 have hin:=Zr hg hkid
 have hrk:Rch ss k u.st:=by
  rcases hor with hor|hor
  ·have :b=k:=by omega
   subst this;exact .one hkid
  ·exact .more (hsnd2 b hor) hkid
 refine gg_ ?_
 refine zg (by rw[tnc];exact S.at hcs) ?_
 refine gg_ ?_
 refine zg (by rw[tnc];exact S.at ls) ?_
 refine gg_ ?_
 refine S.st (b:=b5) (λw7 S=>?_) (by rw[V1];omega)
 have e1:(yg m2).set (0+u.st.toNat*1) (.bool true)=yg (m2.set u.st.toNat true):=by
  rw[Nat.zero_add,Nat.mul_one,yg,yg,List.map_set]
 rw[e1]at S
 have hms:∀j:Int,0≤j→mt (m2.set u.st.toNat true) j=(decide (j=u.st)||mt m2 j):=λj hj=>agx hin.1 hj (by omega)
 refine hK11 _ _ ⟨m2.set u.st.toNat true,by rw[List.length_set];exact hl2,λj hj=>?_,?_,λhce=>?_,λ_ _=>?_,λhsh=>?_,S⟩
 ·rw[hms j (by omega),Bool.or_eq_true,gdt]at hj
  rcases hj with hj|hj
  ·rw[hj];exact hrk
  ·exact hsnd2 j hj
 ·cases hm:mt m2 u.st with
  |true=>rw [aem hm];exact Nat.le_refl _
  |false=>
   have:=V0 (l:=m2) (i:=u.st.toNat) (by
    unfold mt at hm
    rw[ggd,gqg (by omega)]at hm
    rw[gqg (by omega)]
    simpa using hm)
   omega
 ·cases hm:mt m2 u.st with
  |true=>exact aem hm
  |false=>
   have:=V0 (l:=m2) (i:=u.st.toNat) (by
    unfold mt at hm
    rw[ggd,gqg (by omega)]at hm
    rw[gqg (by omega)]
    simpa using hm)
   omega
 ·rw[hms _ hin.1];simp
 ·have hm2:=hfx2 hsh
  have hmt:mt met u.st=true:=hsh b hlt2 (by
   rcases hor with hor|hor
   ·exact .inl (by omega)
   ·rw[← hm2];exact .inr hor) u hmem h5
  rw[hm2,aem hmt]
section
variable {w:World} {K:Value→World→Prop} {r:Gh} {ss:List StD} {c:List Value} {tys ts:List TyD} {q:Option Addr} {p:PlD} {u:UnD} {g:GrD} {cap bx:Nat} {t:TyD} {o:OpD} {s:ByteArray} {l:List OpD}
theorem Qq{p:Option Addr}{cap:Nat}{K:Value→World→Prop}(hr:Holds r w)(hs:StG r p ss)
  (h:∀w',Ext w w'→K (.bool (decide ((zw ss).2=0))) w'):zd Tryz.prog Tryz.jh #[.slice p ss.length cap] w K:=by
 refine Tryz.acn ?_
 unfold Tryz.Qo
 have S:=St.start hr
 refine gg_ ?_
 refine c_b (λhbig=>?_) (λhsm=>?_)
 ·have hbig:32<ss.length:=by have:=of_decide_eq_true hbig;omega
  rw[zw,if_pos hbig]at h
  exact h _ S.ext
 have hsm:¬32<ss.length:=by have:=of_decide_eq_false hsm;omega
 rw[zw,if_neg hsm]at h
 refine zh (ι:=Nat) (λi=>[.int .i64 (i:Nat)]) (λi w'=>i≤ss.length∧(∀j,j<i→xx ss j=false)∧StX noX w r w' []) (λi=>ss.length-i) 0 rfl ⟨gzl _,λj hj=>by omega,S⟩ ?_
 clear S
 rintro i d w1 ⟨hi,hb,S⟩ K1 hK1
 rw[gdz]
 refine gg_ ?_
 refine c_b (λhlt=>?_) (λhge=>?_)
 ·have hlt:i<ss.length:=by simpa using hlt
  have hbadd:xx ss i=true→∀w',Ext w w'→K (.bool false) w':=λhbd w' e=>by
   have hf:=jt hlt hbd hb
   have:=h w' e
   rw[hf,if_pos hlt]at this
   exact this
  obtain⟨b,off,q,capq,rfl,hcell,hq0,hqc,hf⟩:=xK hs hlt
  have hlen:=vQ hlt
  have htl:=yD hlt
  refine gg_ ?_
  refine zg (by rw[tnc];exact S.at hcell) ?_
  refine gg_ ?_
  refine zj (c:=decide (8<(ze ss i).length)) (λ_ K2 hK2=>?_) ?_
  ·refine gg_ ?_
   refine zg (by rw[tnc];exact S.at hcell) ?_
   refine gg_ ?_
   rw[show decide ((8:Int)<(ss[i].fs.length:Int))=decide (8<(ze ss i).length)from decide_eq_decide.2 (by omega)]
   exact hK2
  rw[show decide ((ss[i].fs.length:Int)<1)=decide ((ze ss i).length<1)from decide_eq_decide.2 (by omega)]
  refine c_b (λhl=>?_) (λhl=>?_)
  ·refine hbadd ?_ _ S.ext
   rw[xx,hl];rfl
  have hl8:(ze ss (i:Int)).length≤8:=by
   simp only[Bool.or_eq_false_iff,decide_eq_false_iff_not]at hl;omega
  refine zh (ι:=Nat) (λk=>[.int .i64 (k:Nat)]) (λk w'=>k≤(ze ss i).length∧(((ze ss i).take k).any λt=>!zE ss.length 48 t||decide (0<t.regs.length))=false∧StX noX w r w' []) (λk=>(ze ss i).length-k) 0 rfl ⟨gzl _,by simp,S⟩ ?_
  clear S
  rintro k d w2 ⟨hk,hno,S⟩ K9 hK9
  rw[gdz]
  refine gg_ ?_
  refine zg (by rw[tnc];exact S.at hcell) ?_
  refine gg_ ?_
  refine c_b (λhlt2=>?_) (λhge2=>?_)
  ·have hlt2:k<ss[i].fs.length:=by simpa using hlt2
   have hlt3:k<(ze ss i).length:=by omega
   have hel:(ze ss i)[k]=ss[i].fs[k].2:=by simp only[htl,List.getElem_map]
   obtain⟨b2,off2,c,rfl,hcl,hcc,hty⟩:=qC hf hlt2
   refine gg_ ?_
   refine zg (by rw[tnc];exact S.at hcell) ?_
   refine gg_ ?_
   refine zp (n:=5) (c:=c) hcl (λj v hj=>by
    have:=S.at (hcc (j+1) v (by simpa using hj))
    rw[tnc,Nat.add_assoc _ 1 j,Nat.add_comm 1 j];exact this) ?_
   refine gg_ ?_
   refine Zx 48 (by decide) S.holds hty λw3 e3=>?_
   have S:=S.go e3
   refine gg_ ?_
   have hmt:mtB ss.length 48 false ss[i].fs[k].2 = !(!zE ss.length 48 ss[i].fs[k].2||decide (0<ss[i].fs[k].2.regs.length)):=by
    rw[mtB,Bool.false_or,Bool.not_or,Bool.not_not,← decide_not]
    congr 1
    exact decide_eq_decide.2 (by omega)
   rw[hmt,Bool.not_not]
   refine c_b (λhy=>?_) (λhn=>?_)
   ·refine hbadd ?_ _ S.ext
    have :((ze ss i).any λt=>!zE ss.length 48 t||decide (0<t.regs.length))=true:=List.any_eq_true.2 ⟨_,gem hlt3,by rw[hel];exact hy⟩
    rw[xx,this,Bool.or_true]
   ·refine gg_ ?_
    rw[show ((k:Int)+1)=((k+1:Nat):Int)by omega]
    refine hK9 (k+1) _ ⟨hlt3,?_,S⟩ (by omega)
    rw[List.take_succ_eq_append_getElem hlt3,List.any_append,hno,hel]
    simp only[List.any_cons,List.any_nil,Bool.false_or,Bool.or_false]
    exact hn
  ·have hie:k=(ze ss i).length:=by
    have :¬k<ss[i].fs.length:=by simpa using hge2
    omega
   rw[hie,List.take_length]at hno
   refine gg_ ?_
   rw[show ((i:Int)+1)=((i+1:Nat):Int)by omega]
   refine hK1 (i+1) _ ⟨hlt,λj hj=>?_,S⟩ (by omega)
   by_cases hji:j=i
   ·rw[hji,xx,hl,hno];rfl
   ·exact hb j (by omega)
 have hie:i=ss.length:=by
  have :¬i<ss.length:=by simpa using hge
  omega
 rw[hie]at hb
 have h1:¬xG ss.length (xx ss)<ss.length:=by rw[js hb];omega
 rw[if_neg h1]at h
 have hgd:=Jf hb
 refine zh (ι:=Nat) (λi=>[.int .i64 (i:Nat)]) (λi w'=>i≤ss.length∧(∀j,j<i→qZ ss j=false)∧StX noX w r w' []) (λi=>ss.length-i) 0 rfl ⟨gzl _,λj hj=>by omega,S⟩ ?_
 clear S hie hge hi
 rintro i d w5 ⟨hi,hb2,S⟩ K1 hK1
 rw[gdz]
 refine gg_ ?_
 refine c_b (λhlt=>?_) (λhge=>?_)
 ·have hlt:i<ss.length:=by simpa using hlt
  refine adp hgd (by omega) hlt (kA hb) S.holds hs λw6 e6=>?_
  have S:=S.go e6
  refine c_b (λhy=>?_) (λhn=>?_)
  ·have hf:=jt hlt hy hb2
   rw[hf,if_pos hlt]at h
   exact h _ S.ext
  ·refine gg_ ?_
   rw[show ((i:Int)+1)=((i+1:Nat):Int)by omega]
   refine hK1 (i+1) _ ⟨hlt,λj hj=>?_,S⟩ (by omega)
   by_cases hji:j=i
   ·rw[hji];exact hn
   ·exact hb2 j (by omega)
 have hie:i=ss.length:=by
  have :¬i<ss.length:=by simpa using hge
  omega
 rw[hie]at hb2
 have h2:¬xG ss.length (qZ ss)<ss.length:=by rw[js hb2];omega
 rw[if_neg h2]at h
 have hac:=aaV hgd hb2
 refine zh (ι:=Nat) (λi=>[.int .i64 (i:Nat)]) (λi w'=>i≤ss.length∧(∀j,j<i→ZY ss j=false)∧StX noX w r w' []) (λi=>ss.length-i) 0 rfl ⟨gzl _,λj hj=>by omega,S⟩ ?_
 clear S hie hge hi
 rintro i d w5 ⟨hi,hb3,S⟩ K1 hK1
 rw[gdz]
 refine gg_ ?_
 refine c_b (λhlt=>?_) (λhge=>?_)
 ·have hlt:i<ss.length:=by simpa using hlt
  refine zy (cs:=#[.int .u8 5,.bool false,.int .i64 0,.int .i64 i,.slice none 0 0]) (by kernel_rfl) ?_
  refine afG hgd hac 40 (t:=.mk 5 false 0 i []) (by decide) (by have:=ac5 ss (.mk 5 false 0 i []);omega) ?_ (by omega) (kA hb) S.holds hs (xJ (r:=r)) λx w9 e9 _ hx=>?_
  ·rw[xS]
   simp[TyD.k,TyD.m,TyD.re,TyD.of,TyD.st]
   omega
  have S:=S.go e9
  refine gg_ ?_
  rw[show decide ((x:Int)>16)=decide (16<wF ss 40 (.mk 5 false 0 i []))from decide_eq_decide.2 (by omega)]
  refine c_b (λhy=>?_) (λhn=>?_)
  ·have hf:=jt (p:=ZY ss) hlt hy hb3
   rw[hf,if_pos hlt]at h
   exact h _ S.ext
  ·refine gg_ ?_
   rw[show ((i:Int)+1)=((i+1:Nat):Int)by omega]
   refine hK1 (i+1) _ ⟨hlt,λj hj=>?_,S⟩ (by omega)
   by_cases hji:j=i
   ·rw[hji];exact hn
   ·exact hb3 j (by omega)
 have hie:i=ss.length:=by
  have :¬i<ss.length:=by simpa using hge
  omega
 rw[hie]at hb3
 have h3:¬xG ss.length (ZY ss)<ss.length:=by rw[js hb3];omega
 rw[if_neg h3]at h
 exact h _ S.ext
theorem afH{p:Option Addr}{cap capt:Nat}{K:Value→World→Prop}(hr:Holds r w)(hs:StG r p ss)(ht:TysG r q tys)(htl:tys.length≤maxLen)
  (h:∀w',Ext w w'→K (.bool (decide ((zw ss).2=0)&&tys.all λt=>zP ss t)) w'):zd Tryz.prog Tryz.YH #[.slice p ss.length cap,.slice q tys.length capt] w K:=by
 refine Tryz.aei ?_
 unfold Tryz.Vr
 have S:=St.start hr
 have htl':tys.length≤9223372036854775807:=htl
 refine Qq S.holds hs λw1 e1=>?_
 have S:=S.go e1
 refine gp_ ?_
 by_cases hst:(zw ss).2=0
 ·rw[gde hst]at h⊢
  refine c_f rfl ?_
  refine zh (ι:=Nat) (λi=>[.int .i64 (i:Nat)]) (λi w'=>i≤tys.length∧((tys.take i).all λt=>zP ss t)=true∧StX noX w r w' []) (λi=>tys.length-i) 0 rfl ⟨gzl _,by simp,S⟩ ?_
  clear S
  rintro i d w2 ⟨hi,hall,S⟩ K2 hK2
  rw[gdz]
  refine gg_ ?_
  refine zf (λhlt=>?_) (λhge=>?_)
  ·have hlt:i<tys.length:=by omega
   obtain⟨b,off,c,rfl,hc,hcell,hto⟩:=ht i hlt
   obtain⟨q2,cap2,rfl,ht2⟩:=yJ hto
   refine gg_ ?_
   refine zp (n:=5) hc (λj v hj=>by rw[tnc];exact S.at (hcell j v hj)) ?_
   refine gg_ ?_
   refine Zx 48 (by decide) S.holds ht2 λw3 e3=>?_
   have S:=S.go e3
   rw[agO]
   refine gg_ ?_
   have hm:zP ss tys[i]=zE ss.length 48 tys[i]:=by rw[zP,gde hst,Bool.true_and]
   refine c_b (λhb=>?_) (λhb=>?_)
   ·have hf:(tys.all λt=>zP ss t)=false:=by
     rw[List.all_eq_false]
     exact⟨tys[i],gem hlt,by rw[hm];simpa using hb⟩
    have:=h _ S.ext
    rw[hf,Bool.and_false]at this
    exact this
   ·refine gg_ ?_
    rw[show ((i:Int)+1)=((i+1:Nat):Int)by omega]
    refine hK2 (i+1) _ ⟨hlt,?_,S⟩ (by omega)
    rw[List.take_succ_eq_append_getElem hlt,List.all_append,hall]
    simp only[List.all_cons,List.all_nil,Bool.true_and,Bool.and_true]
    rw[hm];simpa using hb
  ·have hie:i=tys.length:=by omega
   rw[hie,List.take_length]at hall
   have:=h _ S.ext
   rw[hall,Bool.and_true]at this
   exact this
 ·rw[decide_eq_false hst]at h⊢
  refine c_t rfl ?_
  exact h _ S.ext
theorem aan{k:Int}{p:Option Addr}{cap ct:Nat}{K:Value→World→Prop}(hft:Fine ss t)(hr:Holds r w)(hs:StG r p ss)(htt:TyG r (tyV t q ct) t)
  (h:∀t' q' c' (n:Int) (ok:Bool) w',Ext w w'→TyG r (tyV t' q' c') t'→(ok=true→zT ss t k=some (t',n))→(ok=false→zT ss t k=none)→K (.tuple #[tyV t' q' c',.int .i64 n,.bool ok]) w'):
  zd Tryz.prog Tryz.Zj #[.slice p ss.length cap,tyV t q ct,.int .i64 k] w K:=by
 refine Tryz.afA ?_
 unfold Tryz.aag
 have S:=St.start hr
 refine S.box λb4 w1 S=>?_
 have S:StX noX w r w1 [.cell b4 (tyL t q ct) 112]:=S
 refine S.al λb6 w2 S=>?_
 have down:(t.k=3∨t.k=4)→∃uu,t.of=[uu]:=by
  intro hk
  rcases hft.cases with⟨_,h1⟩|⟨uu,h1,_⟩
  ·omega
  ·exact⟨uu,h1⟩
 have hinn:∀{hw:Int},k = -1→((t.k=3∧hw=1)∨(t.k=4∧hw=if t.m then 2 else 3))→∀{uu:TyD},t.of=[uu]→zT ss t k=some (uu,hw):=λhk1 h34 uu hof=>by
  rcases h34 with⟨h1,h2⟩|⟨h1,h2⟩
  ·rw[zT,if_pos ⟨hk1,h1⟩,hof,h2];rfl
  ·rw[zT,if_neg (by omega),if_pos ⟨hk1,h1⟩,hof,h2];rfl
 have stay:∀{w3:World}{L:List Asr},zT ss t k=none→StX noX w r w3 (.cell b6 aaY 112::.cell b4 (tyL t q ct) 112::L)→
   opQ Tryz.prog w3 (Instr.loadAt 112 (.pointer (some ⟨b4,0,none⟩))) λv=>opU Tryz.prog w3 (Instr.storeAt 112 (.pointer (some ⟨b6,0,none⟩)) v) λw4=>opQ Tryz.prog w4 (zk 112 (.pointer (some ⟨b6,0,none⟩))) λv'=>K (.tuple #[v',.int .i64 0,.bool false]) w4:=by
  intro w3 L hn S
  refine S.ldB (b:=b4) ?_ rfl
  refine S.stB (b:=b6) λw4 S=>?_
  refine S.ceB (b:=b6) ?_ rfl
  exact h _ _ _ 0 false _ S.ext htt (λhh=>by cases hh) λ_=>hn
 refine gg_ ?_
 refine zf (λhk1=>?_) (λhk1=>?_)
 ·refine gg_ ?_
  refine zf (λh3=>?_) (λh3=>?_)
  ·obtain⟨uu,hof⟩:=down (.inl h3)
   obtain⟨bo,oo,q2,cap2,rfl,ht2,hcc⟩:=Zu htt hof
   have hl1:t.of.length=1:=by rw[hof];rfl
   refine gg_ ?_
   refine zp (n:=5) (c:=tyL uu q2 cap2) rfl (λj v hj=>by simpa using S.at (hcc j v hj)) ?_
   refine S.stB (b:=b6) λw3 S=>?_
   refine S.ceB (b:=b6) ?_ rfl
   exact h _ _ _ 1 true _ S.ext ht2 (λ_=>hinn hk1 (.inl ⟨h3,rfl⟩) hof) λhh=>by cases hh
  refine gg_ ?_
  refine zi (c:=t.m) (λ_ K2 hK2=>by refine gg_ ?_;exact hK2) ?_
  refine c_b (λhM=>?_) (λhM=>?_)
  ·have hM:t.k=4∧t.m=true:=by simpa using hM
   obtain⟨uu,hof⟩:=down (.inr hM.1)
   obtain⟨bo,oo,q2,cap2,rfl,ht2,hcc⟩:=Zu htt hof
   have hl1:t.of.length=1:=by rw[hof];rfl
   refine gg_ ?_
   refine zp (n:=5) (c:=tyL uu q2 cap2) rfl (λj v hj=>by simpa using S.at (hcc j v hj)) ?_
   refine S.stB (b:=b6) λw3 S=>?_
   refine S.ceB (b:=b6) ?_ rfl
   exact h _ _ _ 2 true _ S.ext ht2 (λ_=>hinn hk1 (.inr ⟨hM.1,by rw[hM.2];rfl⟩) hof) λhh=>by cases hh
  refine gg_ ?_
  refine zf (λh4=>?_) (λh4=>?_)
  ·have hm:t.m=false:=by
    cases e:t.m
    ·rfl
    ·rw[e,gde h4]at hM;cases hM
   obtain⟨uu,hof⟩:=down (.inr h4)
   obtain⟨bo,oo,q2,cap2,rfl,ht2,hcc⟩:=Zu htt hof
   have hl1:t.of.length=1:=by rw[hof];rfl
   refine gg_ ?_
   refine zp (n:=5) (c:=tyL uu q2 cap2) rfl (λj v hj=>by simpa using S.at (hcc j v hj)) ?_
   refine S.stB (b:=b6) λw3 S=>?_
   refine S.ceB (b:=b6) ?_ rfl
   exact h _ _ _ 3 true _ S.ext ht2 (λ_=>hinn hk1 (.inr ⟨h4,by rw[hm];rfl⟩) hof) λhh=>by cases hh
  ·exact stay (by rw[zT,if_neg (by omega),if_neg (by omega),if_neg (by omega)]) S
 ·refine gg_ ?_
  refine zj (c:=decide (k<0)) (λ_ K2 hK2=>by refine gg_ ?_;exact hK2) ?_
  refine zj (c:=decide (((ze ss t.st).length:Int)≤k)) (λh5 K2 hK2=>?_) ?_
  ·have h5:t.k=5∧0≤k:=by simpa using h5
   obtain⟨hst0,hst1⟩:=hft.st h5.1
   have hslt:t.st.toNat<ss.length:=by omega
   obtain⟨b,off,q9,capq,rfl,hcell9,_,_,hfl⟩:=xK hs hslt
   have hlen:(ze ss t.st).length=ss[t.st.toNat].fs.length:=by
    rw[← vQ hslt];simp only[ze,tnc]
   refine gg_ ?_
   refine zg (S.at hcell9) ?_
   refine gg_ ?_
   rw[← hlen]
   exact hK2
  refine c_b (λhX=>?_) (λhX=>?_)
  ·refine stay ?_ S
   rw[zT,if_neg (by omega),if_neg (by omega)]
   split
   ·rename_i h5
    have h50:=h5.1
    rw[List.getElem?_eq_none]
    ·rfl
    ·have :((ze ss t.st).length:Int)≤k:=by
      simp only[Bool.or_eq_true,gdt]at hX;omega
     omega
   ·rfl
  ·have hX:(t.k=5∧0≤k)∧k<(ze ss t.st).length:=by
    simp only[Bool.or_eq_false_iff,decide_eq_false_iff_not]at hX;omega
   obtain⟨⟨hk5,hk0⟩,hkl⟩:=hX
   obtain⟨hst0,hst1⟩:=hft.st hk5
   have hslt:t.st.toNat<ss.length:=by omega
   obtain⟨b,off,q9,capq,rfl,hcell9,_,_,hfl⟩:=xK hs hslt
   have htl2:ze ss t.st=ss[t.st.toNat].fs.map (·.2):=by
    rw[← yD hslt];simp only[ze,tnc]
   have hkf:k.toNat<ss[t.st.toNat].fs.length:=by
    rw[htl2,List.length_map]at hkl;omega
   obtain⟨b10,off9,c9,rfl,hc9,hcell8,ht9⟩:=qC hfl hkf
   obtain⟨q2,cap2,rfl,ht2⟩:=yJ ht9
   refine gg_ ?_
   refine zg (S.at hcell9) ?_
   refine gg_ ?_
   refine zp (n:=5) (c:=tyL _ q2 cap2) rfl (λj v hj=>by have:=S.at (hcell8 (j+1) v hj);rwa[show off9+k.toNat*6+(j+1)=off9+k.toNat*6+1+j by omega]at this) ?_
   refine S.stB (b:=b6) λw3 S=>?_
   refine S.ceB (b:=b6) ?_ rfl
   refine h _ _ _ 0 true _ S.ext ht2 (λ_=>?_) λhh=>by cases hh
   rw[zT,if_neg (by omega),if_neg (by omega),if_pos ⟨hk0,hk5⟩,htl2,List.getElem?_map,gqg hkf];rfl
theorem agP{p0:Option Addr}{cap0 capt:Nat}{K:Value→World→Prop}(hr:Holds r w)(hs:StG r p0 ss)(ht:TysG r q tys)(htl:tys.length≤maxLen)(hp:PlG r c p)
  (hN:∀w',zL ss tys p=none→Ext w w'→K (.tuple #[af6,.slice none 0 0,.bool false]) w')
  (hS:∀t g q cap vg s w',zL ss tys p=some (t,g)→Ext w w'→New w s w'→TyG r (tyV t q cap) t→SlG 1 s zQ vg g→K (.tuple #[tyV t q cap,vg,.bool true]) w'):
  zd Tryz.prog Tryz.Xp #[.slice p0 ss.length cap0,.slice q tys.length capt,.agg c.toArray] w K:=by
 obtain⟨v,rfl,hl⟩:=hp
 obtain⟨qs,caps,rfl,_,_⟩:=hl.sl.shape
 have hbl:=hl.lt
 have htl':tys.length≤9223372036854775807:=htl
 refine Tryz.afz ?_
 unfold Tryz.aaf
 have S:=St.start hr
 refine S.box λb5 w1 S=>?_
 refine S.al λb6 w3 S=>?_
 have S:StX noX w r w3 [.cell b6 aaY 112,.cell b5 [.int .i64 p.l,.slice qs p.ps.length caps] 59]:=S
 refine gg_ ?_
 refine zj (c:=decide ((tys.length:Int)≤p.l)) (λ_ K2 hK2=>by refine gg_ ?_;exact hK2) ?_
 refine zj (c:=decide (8<p.ps.length)) (λ_ K2 hK2=>?_) ?_
 ·refine gg_ ?_
  rw[show decide ((8:Int)<(p.ps.length:Int))=decide (8<p.ps.length)from decide_eq_decide.2 (by omega)]
  exact hK2
 refine x8 (c:=!(decide ((zw ss).2=0)&&tys.all λt=>zP ss t)) (λ_ K2 hK2=>?_) λw4 e4=>?_
 ·refine afH S.holds hs ht htl λw6 e6=>?_
  refine gp_ ?_
  exact hK2 _ e6
 have S:=S.go e4
 have hO:yT ss tys p = !(((decide (p.l<0)||decide ((tys.length:Int)≤p.l))||decide (8<p.ps.length)) || !(decide ((zw ss).2=0)&&tys.all λt=>zP ss t)):=by
  rw[yT]
  simp only[Bool.not_or,Bool.not_not]
  congr 1
  rw[← decide_not,← decide_not,← decide_not]
  congr 1
  ·congr 1<;>exact decide_eq_decide.2 (by omega)
  ·exact decide_eq_decide.2 (by omega)
 refine c_b (λhbad=>?_) (λhgood=>?_)
 ·rw[hbad]at hO
  refine zy (cs:=#[.int .u8 0,.bool false,.int .i64 0,.int .i64 0,.slice none 0 0]) (by kernel_rfl) ?_
  refine S.stB (b:=b6) λw4 S=>?_
  refine S.ceB (b:=b6) ?_ rfl
  exact hN _ (V7 hO) S.ext
 rw[hgood]at hO
 have hO:yT ss tys p=true:=hO
 have hO2:=hO
 simp only[yT,gba,gdt,List.all_eq_true]at hO2
 obtain⟨⟨⟨hl0,hl1⟩,hl8⟩,hst,hmay⟩:=hO2
 obtain⟨h32,_,hg,_⟩:=xT hst
 have hlt0:p.l.toNat<tys.length:=by omega
 have hW:zL ss tys p=zH ss p.ps tys[p.l.toNat]:=by
  rw[zL,if_pos hO,ggd,gqg hlt0];rfl
 rw[hW]at hN hS
 obtain⟨bt,ot,ct,rfl,hct,hcell,htc⟩:=ht p.l.toNat hlt0
 have hfi:Fine ss tys[p.l.toNat]:=(Ys (hmay _ (gem hlt0))).2
 generalize tys[p.l.toNat]=t0 at hN hS htc hfi
 obtain⟨q0,cap1,rfl,ht0⟩:=yJ htc
 clear hgood hbl
 refine gg_ ?_
 refine zp (n:=5) hct (λj v hj=>S.at (hcell j v hj)) ?_
 refine S.al λb9 w7 S=>?_
 refine S.stB (b:=b9) λw7 S=>?_
 have S:=S.ownNil 3 1
 refine zh (ι:=Nat×Value×TyD×Option Addr×Nat×List Int) (λi=>[i.2.1,.int .i64 (i.1:Nat)]) (λi w'=>i.1≤p.ps.length∧zH ss (p.ps.take i.1) t0=some (i.2.2.1,i.2.2.2.2.2)∧TyG r (tyV i.2.2.1 i.2.2.2.1 i.2.2.2.2.1) i.2.2.1∧
  StX noX w r w' [.row i.2.1 3 1 i.1 (ints i.2.2.2.2.2),.cell b9 (tyL i.2.2.1 i.2.2.2.1 i.2.2.2.2.1) 112,.cell b6 aaY 112,.cell b5 [.int .i64 p.l,.slice qs p.ps.length caps] 59]) (λi=>p.ps.length-i.1) (0,.slice none 0 0,t0,q0,cap1,[]) rfl ⟨gzl _,rfl,ht0,S⟩ ?_
 clear S
 rintro⟨i,vg,t,q,cap,g⟩ d w8 ⟨hi,hw,htt,S⟩ K6 hK6
 simp only at hi hw htt S⊢
 simp only[gdz,gds]
 have hft:Fine ss t:=JT hg hfi hw
 have hgl:g.length=(p.ps.take i).length:=Yt hw
 rw[List.length_take]at hgl
 refine gg_ ?_
 refine zf (λhlt=>?_) (λhge=>?_)
 rotate_left
 ·have hie:i=p.ps.length:=by omega
  rw[hie,List.take_length]at hw
  refine S.ldB (b:=b9) ?_ rfl
  refine S.stB (b:=b6) λw9 S=>?_
  refine S.ceB (b:=b6) ?_ rfl
  obtain⟨s,S,hsl,_,hab⟩:=S.doneRow (l:=g) (R:=zQ) (sz:=1) ⟨by rw[kN,Nat.mul_one],λj hj=>by
   show _=_
   rw[Nat.mul_one,ints,← List.map_drop,← List.map_take,List.drop_eq_getElem_cons hj];rfl⟩ (by decide) (by omega)
  exact hS _ _ _ _ _ s _ hw S.ext (S.newOf λb o ho=>(hab b o ho).resolve_right id) htt hsl
 have hlt:i<p.ps.length:=by omega
 obtain⟨k,hke⟩:∃k,p.ps[i]=k:=⟨_,rfl⟩
 obtain⟨bs,os,cs,rfl,hcs,hck,hcl⟩:=hl.sl.get (by decide) hlt
 rw[hke]at hck
 obtain⟨rfl,hin⟩:=hck
 have hstep:zH ss (p.ps.take (i+1)) t0=(zT ss t k).map λs=>(s.1,g++[s.2]):=by
  rw[List.take_succ_eq_append_getElem hlt,JR,hw,hke];rfl
 have hbadk:zT ss t k=none→zH ss p.ps t0=none:=λe=>by
  have:=JS (m:=p.ps.drop (i+1)) (hstep.trans (by rw[e];rfl))
  rwa[List.take_append_drop]at this
 refine zn (λs w'=>∃b12 t' q' c' n ok,s=[.pointer (some ⟨b12,0,none⟩),.int .i64 n,.bool ok]∧TyG r (tyV t' q' c') t'∧(ok=true→zT ss t k=some (t',n))∧(ok=false→zT ss t k=none)∧
  StX noX w r w' [.cell b12 (tyL t' q' c') 112,.row vg 3 1 i (ints g),.cell b9 (tyL t q cap) 112,.cell b6 aaY 112,.cell b5 [.int .i64 p.l,.slice (some ⟨bs,os,none⟩) p.ps.length caps] 59]) (λK24 hK24=>?_) ?_
 ·have S:=S.go (Ext.drew _)
  refine S.ldB (b:=b9) ?_ rfl
  refine gg_ ?_
  refine zg (v:=.int .i64 k) (by simpa using S.at (hcl 0 _ rfl)) ?_
  refine And.intro ?_ ?_
  ·refine aan hft S.holds hs htt λt' q' c' n ok w9 e9 ht' h1 h2=>?_
   have S:=S.go e9
   refine gS_ ?_
   refine S.alU λb12 w10 S=>?_
   refine S.stB (b:=b12) λw11 S=>?_
   exact hK24 _ _ ⟨b12,t',q',c',n,ok,rfl,ht',h1,h2,S⟩
  ·refine S.alU λb12 w10 S=>?_
   refine aan hft S.holds hs htt λt' q' c' n ok w9 e9 ht' h1 h2=>?_
   have S:=S.go e9
   refine gS_ ?_
   refine S.stB (b:=b12) λw11 S=>?_
   exact hK24 _ _ ⟨b12,t',q',c',n,ok,rfl,ht',h1,h2,S⟩
 clear S
 rintro _ w12 ⟨b12,t',q',c',n,ok,rfl,ht',h1,h2,S⟩ d12
 simp only[gdz,gds]
 refine gp_ ?_
 cases ok with
 |false=>
  refine c_t rfl ?_
  refine zy (cs:=#[.int .u8 0,.bool false,.int .i64 0,.int .i64 0,.slice none 0 0]) (by kernel_rfl) ?_
  refine S.stB (b:=b6) λw13 S=>?_
  refine S.ceB (b:=b6) ?_ rfl
  exact hN _ (hbadk (h2 rfl)) S.ext
 |true=>
  refine c_f rfl ?_
  refine S.ldB (b:=b12) ?_ rfl
  refine S.stB (b:=b9) λw13 S=>?_
  refine S.lit (e:=3) (cs:=[.int .i64 n]) (by kernel_rfl) λb14 w14 S=>?_
  refine S.ap (m':=1) (Sl.blk (S.blk b14)) (λv15 w15 S=>?_) (by omega)
  have S:=(S.drop b14).drop b12
  have hins:ints g++[.int .i64 n]=ints (g++[n]):=by rw[ints,ints,List.map_append];rfl
  rw[hins]at S
  refine gg_ ?_
  rw[show ((i:Int)+1)=((i+1:Nat):Int)by omega]
  exact hK6 (i+1,v15,t',q',c',g++[n]) _ ⟨hlt,hstep.trans (by rw[h1 rfl];rfl),ht',S⟩ (by show p.ps.length-(i+1)<p.ps.length-i;omega)
theorem xQ{K:Value→World→Prop}(hr:Holds r w)(hp:PlG r c p)
  (h:∀w',Ext w w'→K (.bool (xp p)) w'):zd Tryz.prog Tryz.yN #[.agg c.toArray] w K:=by
 refine Tryz.aam ?_
 unfold Tryz.Y3
 obtain⟨v,rfl,hl⟩:=hp
 obtain⟨qs,caps,rfl,_,_⟩:=hl.sl.shape
 have S:=St.start hr
 refine S.box λb1 w1 S=>?_
 have S:StX noX w r w1 [.cell b1 [.int .i64 p.l,.slice qs p.ps.length caps] 59]:=S
 refine gg_ ?_
 refine zi (c:=decide (p.ps.length=0)) (λ_ K2 hK2=>?_) ?_
 ·refine gg_ ?_
  rw[decide_eq_decide.2 (qB p.ps.length)]
  exact hK2
 exact h _ S.ext
theorem ZL{K:Value→World→Prop}(hr:Holds r w)(ho:OpG r c o)
  (h:∀w',Ext w w'→K (.bool (vi o)) w'):zd Tryz.prog Tryz.kr #[.agg c.toArray] w K:=by
 refine Tryz.JZ ?_
 unfold Tryz.ZK
 obtain⟨v,rfl,hl⟩:=ho
 obtain⟨qs,caps,rfl,_,_⟩:=hl.sl.shape
 have S:=St.start hr
 refine S.box λb1 w1 S=>?_
 have S:StX noX w r w1 [.cell b1 [.int .u8 o.k,.int .i64 o.n,.int .i64 o.pl.l,.slice qs o.pl.ps.length caps] 61]:=S
 refine gg_ ?_
 refine zi (c:=decide (o.n=0)) (λ_ K2 hK2=>by refine gg_ ?_;exact hK2) ?_
 refine zt (c:=xp o.pl) (λ_ K2 hK2=>?_) λw5 e5=>?_
 ·refine gg_ ?_
  refine S.ldN (b:=b1) ?_
  refine xQ (p:=o.pl) S.holds ⟨_,rfl,hl⟩ λw6 e6=>hK2 _ e6
 exact h _ (S.go e5).ext
theorem yb{t:TyD}{q:Option Addr}{cap:Nat}{k:Int}{K:Value→World→Prop}(hr:Holds r w)
  (h:∀w',Ext w w'→K (.bool (isK t k)) w'):zd Tryz.prog Tryz.zO #[tyV t q cap,.int .u8 k] w K:=by
 refine Tryz.ahH ?_
 unfold Tryz.adn
 have S:=St.start hr
 refine S.box λb1 w1 S=>?_
 have S:StX noX w r w1 [.cell b1 (tyL t q cap) 112]:=S
 refine gg_ ?_
 exact h _ S.ext
theorem agQ{s:ByteArray}{w:World}{K:Value→World→Prop}
  (h:K (.bool (yo s [[43],[45],[42],[47],[37]])) w):zd Tryz.prog Tryz.Xs #[.string s] w K:=by
 refine Tryz.afE ?_
 unfold Tryz.aak
 refine gg_ ?_
 refine zj (c:=s.toList == [45]) (λ_ K2 hK2=>by refine gg_ ?_;exact hK2) ?_
 refine zj (c:=s.toList == [42]) (λ_ K2 hK2=>by refine gg_ ?_;exact hK2) ?_
 refine zj (c:=s.toList == [47]) (λ_ K2 hK2=>by refine gg_ ?_;exact hK2) ?_
 refine zj (c:=s.toList == [37]) (λ_ K2 hK2=>by refine gg_ ?_;exact hK2) ?_
 have e:((((s.toList == [43])||(s.toList == [45]))||(s.toList == [42]))||(s.toList == [47])||(s.toList == [37]))=yo s [[43],[45],[42],[47],[37]]:=by
  simp only[yo,List.any_cons,List.any_nil,Bool.or_false,Bool.or_assoc]
 rw[← e]at h
 exact h
theorem aen{s:ByteArray}{w:World}{K:Value→World→Prop}
  (h:K (.bool (yo s [[61,61],[33,61],[60],[60,61],[62],[62,61]])) w):zd Tryz.prog Tryz.ZS #[.string s] w K:=by
 refine Tryz.ado ?_
 unfold Tryz.Jq
 refine gg_ ?_
 refine zj (c:=s.toList == [33,61]) (λ_ K2 hK2=>by refine gg_ ?_;exact hK2) ?_
 refine zj (c:=s.toList == [60]) (λ_ K2 hK2=>by refine gg_ ?_;exact hK2) ?_
 refine zj (c:=s.toList == [60,61]) (λ_ K2 hK2=>by refine gg_ ?_;exact hK2) ?_
 refine zj (c:=s.toList == [62]) (λ_ K2 hK2=>by refine gg_ ?_;exact hK2) ?_
 refine zj (c:=s.toList == [62,61]) (λ_ K2 hK2=>by refine gg_ ?_;exact hK2) ?_
 have e:(((((s.toList == [61,61])||(s.toList == [33,61]))||(s.toList == [60]))||(s.toList == [60,61])||(s.toList == [62]))||(s.toList == [62,61]))=yo s [[61,61],[33,61],[60],[60,61],[62],[62,61]]:=by
  simp only[yo,List.any_cons,List.any_nil,Bool.or_false,Bool.or_assoc]
 rw[← e]at h
 exact h
def yK(m:Int):List Int→Int
 |[]=>m
 |k::l=>yK (max m k) l
theorem adq(k:Int):∀(l:List Int)(m:Int),yK m (l++[k])=max (yK m l) k
 |[],m=>rfl
 |x::l,m=>by rw[List.cons_append,yK,yK,adq k l]
theorem Zy{l:List Int}{v:Value}{K:Value→World→Prop}(hr:Holds r w)(hl:SlG 1 r zQ v l)(hb:l.length≤1000000)
  (h:∀w',Ext w w'→K (.int .i64 (yK 0 l)) w'):zd Tryz.prog Tryz.kV #[v] w K:=by
 refine Tryz.afF ?_
 unfold Tryz.aal
 obtain⟨p,cap,rfl,_,_⟩:=hl.shape
 have S:=St.start hr
 refine zh (ι:=Nat) (λi=>[.int .i64 (yK 0 (l.take i)),.int .i64 (i:Nat)]) (λi w'=>i≤l.length∧StX noX w r w' []) (λi=>l.length-i) 0 rfl ⟨gzl _,S⟩ ?_
 clear S
 rintro i d w2 ⟨hi,S⟩ K1 hK1
 simp only[gdz,gds]
 refine gg_ ?_
 refine zf (λhlt=>?_) (λhge=>?_)
 ·have hlt:i<l.length:=by omega
  have hs:yK 0 (l.take (i+1))=max (yK 0 (l.take i)) l[i]:=by rw[List.take_succ_eq_append_getElem hlt,adq]
  obtain⟨b,off,c,rfl,hc,hcc,hcell⟩:=hl.get (by decide) hlt
  obtain rfl:c=_:=hcc
  have hx:Ob r λw=>w.cell? ⟨b,off+i,none⟩=some (.int .i64 l[i]):=by simpa using hcell 0 _ rfl
  refine zn (λs w'=>s=[.int .i64 (yK 0 (l.take (i+1)))]∧w'=w2) (λK5 hK5=>?_) ?_
  rotate_left
  ·rintro _ _ ⟨rfl,rfl⟩ d3
   rw[gdz]
   refine gg_ ?_
   rw[show ((i:Int)+1)=((i+1:Nat):Int)by omega]
   exact hK1 (i+1) _ ⟨hlt,S⟩ (by omega)
  refine gg_ ?_
  refine zg (by simpa using S.at hx) ?_
  refine gg_ ?_
  refine zf (λhgt=>?_) (λhle=>?_)
  ·refine gg_ ?_
   refine zg (by simpa using S.at hx) ?_
   exact hK5 _ _ ⟨by rw[hs,Int.max_eq_right (by omega)],rfl⟩
  ·exact hK5 _ _ ⟨by rw[hs,Int.max_eq_left (by omega)],rfl⟩
 ·have hie:i=l.length:=by omega
  rw[hie,List.take_length]
  exact h _ S.ext
theorem Vu{s s':Int}:∀(n:Nat){a b:TyD}{w:World}{r:Gh}{va vb:Value}{K:Value→World→Prop},zE s n a=true→zE s' n b=true→Holds r w→TyG r va a→TyG r vb b→
  (∀w',Ext w w'→K (.bool (kH yr n a b)) w')→zd Tryz.prog Tryz.yV #[va,vb] w K:=by
 intro n
 induction n with
 |zero=>intro a b w r va vb K h;cases h
 |succ n ih=>
  intro a b w r va vb K ha hb hr hva hvb h
  refine Tryz.aek ?_
  unfold Tryz.Vt
  have hva0:=hva
  have hvb0:=hvb
  obtain⟨p1,cap1,rfl,_⟩:=hva
  obtain⟨p2,cap2,rfl,_⟩:=hvb
  have S:=St.start hr
  refine S.box λb2 w1 S=>?_
  refine S.box λb3 w2 S=>?_
  have S:StX noX w r w2 [.cell b3 (tyL b p2 cap2) 112,.cell b2 (tyL a p1 cap1) 112]:=S
  refine gg_ ?_
  refine zj (c:=!(a.m == b.m)) (λ_ K2 hK2=>by refine gg_ ?_;exact hK2) ?_
  refine zj (c:=decide (a.st≠b.st)) (λ_ K2 hK2=>by refine gg_ ?_;exact hK2) ?_
  refine zj (c:=decide (a.of.length≠b.of.length)) (λ_ K2 hK2=>?_) ?_
  ·refine gg_ ?_
   rw[show decide ((a.of.length:Int)≠(b.of.length:Int))=decide (a.of.length≠b.of.length)from decide_eq_decide.2 (by omega)]
   exact hK2
  have key:a.k=b.k→a.of.length=b.of.length:=λhk=>by
   rcases yz ha with⟨h1,h2⟩|⟨u,h1,_,h2⟩<;>rcases yz hb with⟨h3,h4⟩|⟨x,h3,_,h4⟩<;>rw [h1,h3]<;>first|rfl|omega
  refine c_b (λhbad=>?_) (λhok=>?_)
  ·have:=h _ S.ext
   rw[VY]at this
   ·exact this
   ·simp only[Bool.or_eq_true,gdt,yr,Bool.not_true]at hbad⊢
    rcases hbad with(hh|hh)|hh
    ·exact .inl (.inl hh)
    ·exact .inl (.inr hh)
    ·exact .inl (.inl (.inl λhk=>hh (key hk)))
  have hflat:(!(decide (a.k≠b.k) || !(a.m == b.m)||decide (a.st≠b.st) || !yr a.re b.re))=true:=by
   simp only[Bool.or_eq_false_iff]at hok
   rw[hok.1.1.1,hok.1.1.2,hok.1.2];rfl
  have hk:a.k=b.k:=by
   simp only[Bool.or_eq_false_iff,decide_eq_false_iff_not]at hok;omega
  have S:=S.go (Ext.drew _)
  rcases yz ha with⟨ho,hk2⟩|⟨u,ho,hu,hk2⟩
  ·have hl0:a.of.length=0:=by rw[ho];rfl
   rw[ac1 ho,hflat]at h
   refine gg_ ?_
   refine x8 (c:=true) (λhb=>?_) λw5 e5=>?_
   ·exfalso;simp[hl0]at hb
   rw[Bool.or_true]
   exact h _ (S.go e5).ext
  ·have hob:∃x,b.of=[x]∧zE s' n x=true:=by
    rcases yz hb with⟨h3,h4⟩|⟨x,h3,h5,h4⟩
    ·omega
    ·exact⟨x,h3,h5⟩
   obtain⟨x,hox,hx⟩:=hob
   have hl1:a.of.length=1:=by rw[ho];rfl
   have hl2:b.of.length=1:=by rw[hox];rfl
   obtain⟨bo,oo,q3,cap3,rfl,hc3,ht3⟩:=Zu hva0 ho
   obtain⟨bx,ox,q4,cap4,rfl,hc4,ht4⟩:=Zu hvb0 hox
   rw[ac2 ho hox,hflat,Bool.true_and]at h
   refine gg_ ?_
   refine x8 (c:=kH yr n u x) (λ_ K2 hK2=>?_) λw5 e5=>?_
   ·refine gg_ ?_
    refine zp (n:=5) (c:=tyL u q3 cap3) rfl (λj v hj=>by simpa using S.at (ht3 j v hj)) ?_
    refine gg_ ?_
    refine zp (n:=5) (c:=tyL x q4 cap4) rfl (λj v hj=>by simpa using S.at (ht4 j v hj)) ?_
    exact ih hu hx S.holds hc3 hc4 λw6 e6=>hK2 _ e6
   rw[show decide ((a.of.length:Int)=0)=false by rw[hl1];rfl,Bool.false_or]
   exact h _ (S.go e5).ext
def yf:List UInt8:=[84,65,66,76,70,83,78,85,77,69]
def adr(p:PtD):List Bool:=[xp p.to,vi p.a,vi p.b,decide (p.args.length=0),xp p.fr,p.sign.toList == [],decide (p.fn=0),decide (p.st=0),!p.mu,decide (p.el=0)]
def jc(has:List UInt8)(c:Int):Bool:=has.any λx=>decide ((x.toNat:Int)=c)
def thR(p:PtD)(has:List UInt8)(i:Nat):Bool:=jc has (z7 yf i)||(adr p).getD i true
def jJ(p:PtD)(has:List UInt8)(n:Nat):Bool:=(List.range n).all (thR p has)
theorem aiN(p:PtD)(has:List UInt8)(n:Nat):jJ p has (n+1)=(jJ p has n&&thR p has n):=by
 rw[jJ,List.range_succ,List.all_append];simp[jJ]
theorem akQ{p:PtD}{h:acd}{L:List UInt8}(e0:jc L 84=h.to)(e1:jc L 65=h.a)(e2:jc L 66=h.b)(e3:jc L 76=h.args)(e4:jc L 70=h.fr)(e5:jc L 83=h.sign)(e6:jc L 78=h.fn)(e7:jc L 85=h.st)(e8:jc L 77=h.mu)(e9:jc L 69=h.el):jJ p L 10=zG p h:=by
 have r10:List.range 10=[0,1,2,3,4,5,6,7,8,9]:=rfl
 have b0:z7 yf 0=84:=rfl
 have b1:z7 yf 1=65:=rfl
 have b2:z7 yf 2=66:=rfl
 have b3:z7 yf 3=76:=rfl
 have b4:z7 yf 4=70:=rfl
 have b5:z7 yf 5=83:=rfl
 have b6:z7 yf 6=78:=rfl
 have b7:z7 yf 7=85:=rfl
 have b8:z7 yf 8=77:=rfl
 have b9:z7 yf 9=69:=rfl
 rw[jJ,r10]
 simp only[List.all_cons,List.all_nil,Bool.and_true,thR,b0,b1,b2,b3,b4,b5,b6,b7,b8,b9,e0,e1,e2,e3,e4,e5,e6,e7,e8,e9,adr,gdz,gds,zG,qE,id]
 ac_rfl
theorem agR{p:PtD}{has:List UInt8}{K:Value→World→Prop}(hr:Holds r w)(hp:PtG r c p)(hh:has.length≤100)
  (h:∀w',Ext w w'→K (.bool (jJ p has 10)) w'):zd Tryz.prog Tryz.zW #[.agg c.toArray,.string (bs has)] w K:=by
 refine Tryz.afD ?_
 unfold Tryz.aaj
 obtain⟨q1,q2,q3,q4,q5,c1,c2,c3,c4,c5,rfl,hp0⟩:=xZ hp
 obtain⟨_,_,_,_,_,hE,k1,k2,k3,k4,k5⟩:=hp0
 cases hE
 have S:=St.start hr
 refine S.box λb1 w1 S=>?_
 have S:StX noX w r w1 [.cell b1 (ptL p q1 q2 q3 q4 q5 c1 c2 c3 c4 c5) 94]:=S
 refine zh (ι:=Nat) (λi=>[.bool (jJ p has i),.int .i64 (i:Nat)]) (λi w'=>i≤10∧StX noX w r w' [.cell b1 (ptL p q1 q2 q3 q4 q5 c1 c2 c3 c4 c5) 94]) (λi=>10-i) 0 rfl ⟨gzl _,S⟩ ?_
 clear S
 rintro i d w2 ⟨hi,S⟩ K2 hK2
 simp only[gdz,gds]
 refine gg_ ?_
 refine zf (λhlt=>?_) (λhge=>?_)
 rotate_left
 ·have hie:i=10:=by omega
  rw[hie];exact h _ S.ext
 have hlt:i<10:=by omega
 refine zn (λs w'=>s=[.bool (jJ p has (i+1))]∧StX noX w r w' [.cell b1 (ptL p q1 q2 q3 q4 q5 c1 c2 c3 c4 c5) 94]) (λK6 hK6=>?_) ?_
 rotate_left
 ·clear S
  rintro _ w3 ⟨rfl,S⟩ d3
  rw[gdz]
  refine gg_ ?_
  rw[show ((i:Int)+1)=((i+1:Nat):Int)by omega]
  exact hK2 (i+1) _ ⟨hlt,S⟩ (by omega)
 have hcl:yf.length=10:=rfl
 show opP Tryz.prog (Instr.index 9 (.string (bs yf)) _) _
 refine gg_ ?_
 rw[tnc]
 refine zh (ι:=Nat) (λk=>[.bool (jc (has.take k) (z7 yf i)),.int .i64 (k:Nat)]) (λk w'=>k≤has.length∧StX noX w r w' [.cell b1 (ptL p q1 q2 q3 q4 q5 c1 c2 c3 c4 c5) 94]) (λk=>has.length-k) 0 rfl ⟨gzl _,S⟩ ?_
 clear S
 rintro k d w4 ⟨hk,S⟩ K10 hK10
 simp only[gdz,gds]
 refine gg_ ?_
 refine zf (λhlt2=>?_) (λhge2=>?_)
 ·have hlt2:k<has.length:=by omega
  have hs:jc (has.take (k+1)) (z7 yf i)=(jc (has.take k) (z7 yf i)||decide (z7 has k=z7 yf i)):=by
   rw[jc,List.take_succ_eq_append_getElem hlt2,List.any_append]
   simp only[List.any_cons,List.any_nil,Bool.or_false]
   have :z7 has k=(has[k].toNat:Int):=by rw[z7,ggd,gqg hlt2];rfl
   rw[this];rfl
  refine zj (c:=decide (z7 has k=z7 yf i)) (λ_ K2 hK2=>?_) ?_
  ·refine gg_ ?_
   rw[tnc]
   exact hK2
  rw[← hs]
  refine gg_ ?_
  rw[show ((k:Int)+1)=((k+1:Nat):Int)by omega]
  exact hK10 (k+1) _ ⟨hlt2,S⟩ (by omega)
 have hke:k=has.length:=by omega
 rw[hke,List.take_length]
 have hth:jJ p has (i+1)=(jJ p has i&&(jc has (z7 yf i)||(adr p).getD i true)):=aiN p has i
 refine c_b (λhin=>?_) (λhno=>?_)
 ·rw[hin,Bool.true_or,Bool.and_true]at hth
  exact hK6 _ _ ⟨by rw[hth],S⟩
 rw[hno,Bool.false_or]at hth
 clear hno hK10 hge2 hke hk
 have fin:∀{w9:World},Ext w4 w9→K6 [.bool (jJ p has i&&(adr p).getD i true)] w9:=λe=>hK6 _ _ ⟨by rw[hth],S.go e⟩
 clear hK6 hth
 have hpto:PlG r [.int .i64 p.to.l,.slice q1 p.to.ps.length c1] p.to:=⟨_,rfl,k1⟩
 have hpfr:PlG r [.int .i64 p.fr.l,.slice q5 p.fr.ps.length c5] p.fr:=⟨_,rfl,k5⟩
 have hoa:OpG r [.int .u8 p.a.k,.int .i64 p.a.n,.int .i64 p.a.pl.l,.slice q2 p.a.pl.ps.length c2] p.a:=⟨_,rfl,k2⟩
 have hob:OpG r [.int .u8 p.b.k,.int .i64 p.b.n,.int .i64 p.b.pl.l,.slice q3 p.b.pl.ps.length c3] p.b:=⟨_,rfl,k3⟩
 have hi10:i=0∨i=1∨i=2∨i=3∨i=4∨i=5∨i=6∨i=7∨i=8∨i=9:=by omega
 rcases hi10 with rfl|rfl|rfl|rfl|rfl|rfl|rfl|rfl|rfl|rfl
 ·rw[show z7 yf 0=84 from rfl]
  refine gg_ ?_
  refine c_t (by decide) ?_
  refine zt (c:=xp p.to) (λ_ K9 hK9=>?_) λw9 e9=>fin e9
  refine gg_ ?_
  refine S.ldN (b:=b1) ?_
  exact xQ S.holds hpto λw6 e6=>hK9 _ e6
 ·rw[show z7 yf 1=65 from rfl]
  iterate 1 (refine gg_ ?_;refine c_f (by decide) ?_)
  refine gg_ ?_
  refine c_t (by decide) ?_
  refine zt (c:=vi p.a) (λ_ K9 hK9=>?_) λw9 e9=>fin e9
  refine gg_ ?_
  refine S.ldN (b:=b1) ?_
  exact ZL S.holds hoa λw6 e6=>hK9 _ e6
 ·rw[show z7 yf 2=66 from rfl]
  iterate 2 (refine gg_ ?_;refine c_f (by decide) ?_)
  refine gg_ ?_
  refine c_t (by decide) ?_
  refine zt (c:=vi p.b) (λ_ K9 hK9=>?_) λw9 e9=>fin e9
  refine gg_ ?_
  refine S.ldN (b:=b1) ?_
  exact ZL S.holds hob λw6 e6=>hK9 _ e6
 ·rw[show z7 yf 3=76 from rfl]
  iterate 3 (refine gg_ ?_;refine c_f (by decide) ?_)
  refine gg_ ?_
  refine c_t (by decide) ?_
  refine zi (c:=decide (p.args.length=0)) (λ_ K9 hK9=>?_) (fin (Ext.refl _))
  refine gg_ ?_
  rw[decide_eq_decide.2 (qB p.args.length)]
  exact hK9
 ·rw[show z7 yf 4=70 from rfl]
  iterate 4 (refine gg_ ?_;refine c_f (by decide) ?_)
  refine gg_ ?_
  refine c_t (by decide) ?_
  refine zt (c:=xp p.fr) (λ_ K9 hK9=>?_) λw9 e9=>fin e9
  refine gg_ ?_
  refine S.ldN (b:=b1) ?_
  exact xQ S.holds hpfr λw6 e6=>hK9 _ e6
 ·rw[show z7 yf 5=83 from rfl]
  iterate 5 (refine gg_ ?_;refine c_f (by decide) ?_)
  refine gg_ ?_
  refine c_t (by decide) ?_
  refine zi (c:=p.sign.toList == []) (λ_ K9 hK9=>?_) (fin (Ext.refl _))
  refine gg_ ?_
  exact hK9
 ·rw[show z7 yf 6=78 from rfl]
  iterate 6 (refine gg_ ?_;refine c_f (by decide) ?_)
  refine gg_ ?_
  refine c_t (by decide) ?_
  refine zi (c:=decide (p.fn=0)) (λ_ K9 hK9=>?_) (fin (Ext.refl _))
  refine gg_ ?_
  exact hK9
 ·rw[show z7 yf 7=85 from rfl]
  iterate 7 (refine gg_ ?_;refine c_f (by decide) ?_)
  refine gg_ ?_
  refine c_t (by decide) ?_
  refine zi (c:=decide (p.st=0)) (λ_ K9 hK9=>?_) (fin (Ext.refl _))
  refine gg_ ?_
  exact hK9
 ·rw[show z7 yf 8=77 from rfl]
  iterate 8 (refine gg_ ?_;refine c_f (by decide) ?_)
  refine gg_ ?_
  refine c_t (by decide) ?_
  refine zi (c:=!p.mu) (λ_ K9 hK9=>?_) (fin (Ext.refl _))
  refine gg_ ?_
  exact hK9
 ·rw[show z7 yf 9=69 from rfl]
  iterate 9 (refine gg_ ?_;refine c_f (by decide) ?_)
  refine gg_ ?_
  refine c_t (by decide) ?_
  refine zi (c:=decide (p.el=0)) (λ_ K9 hK9=>?_) (fin (Ext.refl _))
  refine gg_ ?_
  exact hK9
abbrev asL(u:UnD)(g:GrD)(p0:Option Addr)(cap0:Nat)(qf:Option Addr)(capf:Nat)(q1:Option Addr)(c1:Nat)(q2:Option Addr)(c2:Nat)(q3:Option Addr)(c3:Nat)(q4:Option Addr)(c4:Nat):List Value:=
 [.slice p0 u.ss.length cap0,.slice qf u.fs.length capf,.int .i64 u.mn,.string g.name,.int .i64 g.lv,.slice q1 g.outs.length c1,.int .i64 g.pn,.slice q2 g.tys.length c2,.slice q3 g.nms.length c3,.slice q4 g.pts.length c4]
def AsP(r:Gh)(b:Nat)(u:UnD)(g:GrD):Prop:=∃p0 cap0 qf capf q1 c1 q2 c2 q3 c3 q4 c4,(Ob r λw=>Blk w b (asL u g p0 cap0 qf capf q1 c1 q2 c2 q3 c3 q4 c4) 149)∧
 UnG r (.agg #[.slice p0 u.ss.length cap0,.slice qf u.fs.length capf,.int .i64 u.mn]) u∧GrG r [.string g.name,.int .i64 g.lv,.slice q1 g.outs.length c1,.int .i64 g.pn,.slice q2 g.tys.length c2,.slice q3 g.nms.length c3,.slice q4 g.pts.length c4] g
theorem AsP.up{s:Gh}{b:Nat}(h:AsP r b u g)[l:Le r s]:AsP s b u g:=by
 obtain⟨p0,cap0,qf,capf,q1,c1,q2,c2,q3,c3,q4,c4,h1,h2,h3⟩:=h
 exact⟨p0,cap0,qf,capf,q1,c1,q2,c2,q3,c3,q4,c4,h1.up,h2.up,h3.up⟩
theorem J1{ss:List StD}:∀(l:List Int)(t:TyD)(m:Int),0≤m→goG ss l (t,m)=(zH ss l t).map λx=>(x.1,yK m x.2)
 |[],t,m,_=>rfl
 |k::l,t,m,hm=>by
  have hs:stepG ss (t,m) k=(zT ss t k).map λs=>(s.1,max m s.2):=by
   unfold stepG zT
   split
   ·cases t.of.head?<;>rfl
   split
   ·cases t.of.head?<;>rfl
   split
   ·cases(ze ss t.st)[k.toNat]? with
    |none=>rfl
    |some u=>show some (u,m)=some (u,max m 0);rw[Int.max_eq_left hm]
   ·rfl
  rw[goG,zH,hs]
  cases h1:zT ss t k with
  |none=>rfl
  |some s=>
   show goG ss l (s.1,max m s.2)=((zH ss l s.1).map _).map _
   rw[J1 l s.1 (max m s.2) (by omega),Option.map_map]
   rfl
theorem Qr{ps:List Int}(hst:(zw ss).2=0)(hm:zP ss t=true):zL ss [t] ⟨0,ps⟩=if ps.length≤8 then zH ss ps t else none:=by
 have e:yT ss [t] ⟨0,ps⟩=decide (ps.length≤8):=by
  simp[yT,hst,hm]
 rw[zL,e]
 by_cases h:ps.length≤8
 ·rw[if_pos (gde h),if_pos h];rfl
 ·rw[if_neg (by simpa using h),if_neg h]
theorem Qs(hst:(zw ss).2=0)(hf:yQ ss tys):(zm ss tys p).2.2=true↔0≤p.l∧∃(hl:p.l.toNat<tys.length)(x:TyD×List Int),zL ss [tys[p.l.toNat]] ⟨0,p.ps⟩=some x∧zm ss tys p=(x.1,yK 0 x.2,true):=by
 constructor
 ·intro ho
  have h8:=adl ho
  unfold zm at ho⊢
  cases hb:(if p.l<0 then none else tys[p.l.toNat]?).bind λt=>goG ss p.ps (t,0)with
  |none=>rw [hb]at ho;cases ho
  |some s=>
   split at hb
   ·cases hb
   ·rename_i hl0
    cases ht:tys[p.l.toNat]? with
    |none=>rw [ht]at hb;cases hb
    |some t=>
     rw[ht]at hb
     have hb:goG ss p.ps (t,0)=some s:=hb
     obtain⟨hlt,rfl⟩:=List.getElem?_eq_some_iff.1 ht
     rw[J1 _ _ _ (Int.le_refl _)]at hb
     cases hw:zH ss p.ps tys[p.l.toNat]with
     |none=>rw [hw]at hb;cases hb
     |some x=>
      rw[hw]at hb
      have hb:(x.1,yK 0 x.2)=s:=Option.some.inj hb
      refine⟨by omega,hlt,x,?_,?_⟩
      ·rw[Qr hst (by rw[zP,gde hst,Bool.true_and];exact hf.all _ (gem hlt)),if_pos h8,hw]
      ·rw[← hb]
       show(x.1,yK 0 x.2,decide (p.ps.length≤8))=_
       rw[gde h8]
 ·rintro⟨_,_,x,_,h⟩;rw[h]
theorem ah3{i:Nat}(hi:i<tys.length):(tys.drop i).take 1=[tys[i]]:=by
 rw[List.drop_eq_getElem_cons hi];rfl
theorem Zz{K:Value→World→Prop}(hr:Holds r w)(hx:AsP r bx u g)(hst:(zw u.ss).2=0)(hf:yQ u.ss g.tys)(hp:PlG r c p)
  (hN:∀w',(zm u.ss g.tys p).2.2=false→Ext w w'→K (.tuple #[af6,.slice none 0 0,.bool false]) w')
  (hS:∀t how q cap vg s w',zm u.ss g.tys p=(t,yK 0 how,true)→Ext w w'→New w s w'→TyG r (tyV t q cap) t→SlG 1 s zQ vg how→how.length≤8→p.ps.length≤8∧zH u.ss p.ps (g.tys.getD p.l.toNat yc)=some (t,how)→K (.tuple #[tyV t q cap,vg,.bool true]) w'):
  zd Tryz.prog Tryz.yC #[.pointer (some ⟨bx,0,none⟩),.agg c.toArray] w K:=by
 refine Tryz.VE ?_
 unfold Tryz.Yu
 obtain⟨p0,cap0,qf,capf,q1,c1,q2,c2,q3,c3,q4,c4,hB,hu,hg⟩:=hx
 obtain⟨_,_,_,hE,_,_,hss,_,_⟩:=hu
 cases hE
 obtain⟨_,_,_,_,hE,_,ht,_,_⟩:=hg
 cases hE
 obtain⟨_,_,hE,_,hct2⟩:=ht.sl.shape
 cases hE
 have htl:=ht.few
 have htl':g.tys.length≤9223372036854775807:=htl
 obtain⟨v,rfl,hl⟩:=hp
 obtain⟨qs,caps,rfl,hqs,hcs⟩:=hl.sl.shape
 have S:=St.start hr
 refine S.box λb3 w1 S=>?_
 have S:StX noX w r w1 [.cell b3 [.int .i64 p.l,.slice qs p.ps.length caps] 59]:=S
 refine S.al λb4 w2 S=>?_
 have S:=S.go (Ext.drew _)
 have ld:∀{w9:World}{L:List Asr}{i:Nat}{v:Value},StX noX w r w9 L→(asL u g p0 cap0 qf capf q1 c1 q2 c2 q3 c3 q4 c4)[i]? = some v→w9.cell? ⟨bx,i,none⟩=some v:=λS hi=>by
  rw[(S.at hB).cell];exact hi
 refine gg_ ?_
 refine zj (c:=decide ((g.tys.length:Int)≤p.l)) (λ_ K2 hK2=>?_) ?_
 ·refine gg_ ?_
  refine zg (ld (i:=7) S rfl) ?_
  refine gg_ ?_
  exact hK2
 refine c_b (λhbad=>?_) (λhok=>?_)
 ·have hno:(zm u.ss g.tys p).2.2=false:=by
   cases hh:(zm u.ss g.tys p).2.2 with
   |false=>rfl
   |true=>
    obtain⟨h1,h2,_⟩:=(Qs hst hf).1 hh
    simp only[Bool.or_eq_true,gdt]at hbad;omega
  refine zy (cs:=#[.int .u8 0,.bool false,.int .i64 0,.int .i64 0,.slice none 0 0]) (by kernel_rfl) ?_
  refine S.stB (b:=b4) λw4 S=>?_
  refine S.ceB (b:=b4) ?_ rfl
  exact hN _ hno S.ext
 simp only[Bool.or_eq_false_iff,decide_eq_false_iff_not]at hok
 have hlt:p.l.toNat<g.tys.length:=by omega
 have S:=S.go (Ext.drew _)
 refine gg_ ?_
 refine zg (ld (i:=0) S rfl) ?_
 refine gg_ ?_
 refine zg (ld (i:=7) S rfl) ?_
 refine gg_ ?_
 have hlen:(p.l+1).toNat-p.l.toNat=[g.tys[p.l.toNat]].length:=by show _=1;omega
 have hsub:=(Z0 ht.sl).sub (a:=p.l.toNat) (n:=1) (cap:=c2) hct2
 rw[ah3 hlt]at hsub
 rw[hlen]
 generalize (if c2=p.l.toNat then q2 else q2.map (·.add (p.l.toNat*5)))=qx at hsub⊢
 have hp2:PlG r [.int .i64 0,.slice qs p.ps.length caps] ⟨0,p.ps⟩:=⟨_,rfl,hl⟩
 refine agP (p:=⟨0,p.ps⟩) S.holds hss hsub (by simp[maxLen]) hp2 (λw5 hn e5=>?_) λt how q cap vg s w5 hs e5 n5 htt hsl=>?_
 ·have hno:(zm u.ss g.tys p).2.2=false:=by
   cases hh:(zm u.ss g.tys p).2.2 with
   |false=>rfl
   |true=>
    obtain⟨h1,h2,x,h3,_⟩:=(Qs hst hf).1 hh
    rw[hn]at h3;cases h3
  have S:=S.go e5
  refine gS_ ?_
  refine S.stB (b:=b4) λw6 S=>?_
  refine S.ceB (b:=b4) ?_ rfl
  exact hN _ hno S.ext
 ·obtain⟨S,d5,a5⟩:=S.tell e5 n5
  have hm:zP u.ss g.tys[p.l.toNat]=true:=by rw[zP,gde hst,Bool.true_and];exact hf.all _ (gem hlt)
  have hs':=hs
  rw[Qr hst hm]at hs'
  have h8:p.ps.length≤8:=by
   refine Classical.byContradiction λhc=>?_
   rw[if_neg hc]at hs';cases hs'
  rw[if_pos h8]at hs'
  have hw:=Yt hs'
  have hsp:zm u.ss g.tys p=(t,yK 0 how,true):=by
   unfold zm
   rw[if_neg (by omega),gqg hlt]
   show(match goG u.ss p.ps (g.tys[p.l.toNat],0) with|some s=>(s.1,s.2,decide (p.ps.length≤8))|none=>(yc,0,false))=_
   rw[J1 _ _ _ (Int.le_refl _),hs']
   show(t,yK 0 how,decide (p.ps.length≤8))=_
   rw[gde h8]
  refine gS_ ?_
  refine S.stB (b:=b4) λw6 S=>?_
  refine S.ceB (b:=b4) ?_ rfl
  exact hS t how _ _ _ s _ hsp S.ext (S.newOf a5) htt hsl (by rw[hw];exact h8) ⟨h8,by rw[ggd,gqg hlt];exact hs'⟩
theorem aiO{K:Value→World→Prop}(hr:Holds r w)(hx:AsP r bx u g)(hst:(zw u.ss).2=0)(hf:yQ u.ss g.tys)(hp:PlG r c p)
  (h:∀t q cap w',((zm u.ss g.tys p).2.2=true→t=(zm u.ss g.tys p).1)→Ext w w'→TyG r (tyV t q cap) t→K (.tuple #[tyV t q cap,.bool ((zm u.ss g.tys p).2.2&&decide ((zm u.ss g.tys p).2.1<3))]) w'):
  zd Tryz.prog Tryz.vu #[.pointer (some ⟨bx,0,none⟩),.agg c.toArray] w K:=by
 refine Tryz.abe ?_
 unfold Tryz.XR
 obtain⟨v,rfl,hl⟩:=hp
 obtain⟨qs,caps,rfl,_,_⟩:=hl.sl.shape
 have S:=St.start hr
 refine S.box λb3 w1 S=>?_
 have S:StX noX w r w1 [.cell b3 [.int .i64 p.l,.slice qs p.ps.length caps] 59]:=S
 refine S.al λb4 w2 S=>?_
 refine S.ldB (b:=b3) ?_ rfl
 refine Zz (p:=p) S.holds hx hst hf ⟨_,rfl,hl⟩ (λw3 hno e3=>?_) λt how q cap vg s w3 hsp e3 n3 htt hsl h8 _=>?_
 ·have S:=S.go e3
  rw[hno]at h
  refine gS_ ?_
  refine S.al λb6 w4 S=>?_
  refine S.stB (b:=b6) λw5 S=>?_
  have S:=S.go (Ext.drew _)
  refine S.ldB (b:=b6) ?_ rfl
  refine zt (c:=true) (λhh=>by cases hh) λw6 e6=>?_
  have S:=S.go e6
  refine S.stB (b:=b4) λw7 S=>?_
  refine S.ceB (b:=b4) ?_ rfl
  exact h yc none 0 _ (λhh=>by cases hh) S.ext xJ
 ·obtain⟨S,d3,a3⟩:=S.tell e3 n3
  rw[hsp]at h
  refine gS_ ?_
  refine S.al λb6 w4 S=>?_
  refine S.stB (b:=b6) λw5 S=>?_
  have S:=S.go (Ext.drew _)
  refine S.ldB (b:=b6) ?_ rfl
  refine zt (c:=decide (yK 0 how<3)) (λ_ K2 hK2=>?_) λw6 e6=>?_
  ·refine Zy S.holds (hsl.cells (s:=r.or s)) (by omega) λw7 e7=>⟨e7,?_⟩
   refine gp_ ?_
   exact hK2 _ e7
  have S:=S.go e6
  refine S.stB (b:=b4) λw7 S=>?_
  refine S.ceB (b:=b4) ?_ rfl
  exact h t q cap _ (λ_=>rfl) S.ext htt
theorem ZA{K:Value→World→Prop}(hr:Holds r w)(hx:AsP r bx u g)(hst:(zw u.ss).2=0)(hf:yQ u.ss g.tys)(ho:OpG r c o)
  (h:∀t q cap w',((zr u.ss g.tys o).2=true→t=(zr u.ss g.tys o).1)→Ext w w'→TyG r (tyV t q cap) t→K (.tuple #[tyV t q cap,.bool (zr u.ss g.tys o).2]) w'):
  zd Tryz.prog Tryz.y7 #[.pointer (some ⟨bx,0,none⟩),.agg c.toArray] w K:=by
 refine Tryz.QR ?_
 unfold Tryz.vW
 obtain⟨v,rfl,hl⟩:=ho
 obtain⟨qs,caps,rfl,_,_⟩:=hl.sl.shape
 have hpl:PlG r [.int .i64 o.pl.l,.slice qs o.pl.ps.length caps] o.pl:=⟨_,rfl,hl⟩
 have S:=St.start hr
 refine S.box λb3 w1 S=>?_
 have S:StX noX w r w1 [.cell b3 [.int .u8 o.k,.int .i64 o.n,.int .i64 o.pl.l,.slice qs o.pl.ps.length caps] 61]:=S
 refine S.al λb4 w2 S=>?_
 refine gg_ ?_
 refine zf (λh1=>?_) (λh1=>?_)
 ·rw[zr,if_pos h1]at h
  refine zy (cs:=#[.int .u8 1,.bool false,.int .i64 0,.int .i64 0,.slice none 0 0]) (by kernel_rfl) ?_
  refine gg_ ?_
  refine S.ldN (b:=b3) ?_
  refine xQ S.holds hpl λw3 e3=>?_
  have S:=S.go e3
  refine S.stB (b:=b4) λw4 S=>?_
  refine S.ceB (b:=b4) ?_ rfl
  exact h kZ none 0 _ (λ_=>rfl) S.ext xJ
 refine gg_ ?_
 refine zf (λh2=>?_) (λh2=>?_)
 ·rw[zr,if_neg h1,if_pos h2]at h
  refine zy (cs:=#[.int .u8 2,.bool false,.int .i64 0,.int .i64 0,.slice none 0 0]) (by kernel_rfl) ?_
  have S:=S.go (Ext.drew _)
  refine gg_ ?_
  refine S.ldN (b:=b3) ?_
  refine xQ S.holds hpl λw3 e3=>?_
  have S:=S.go e3
  have fin:∀{w4:World}{L:List Asr}{b:Bool},b=(xp o.pl&&(decide (o.n=0)||decide (o.n=1)))→StX noX w r w4 (.cell b4 [.int .u8 2,.bool false,.int .i64 0,.int .i64 0,.slice none 0 0] 112::L)→K (.tuple #[tyV aaX none 0,.bool b]) w4:=λhb S=>by
   rw[hb];exact h aaX none 0 _ (λ_=>rfl) S.ext xJ
  cases hz:xp o.pl with
  |false=>
   rw[hz]at fin
   (intro K9 hK9;refine gd_ ?_;refine hK9 _ _ λ_=>?_;clear hK9 K9)
   (intro K9 hK9;refine gd_ ?_;refine hK9 _ _ λ_=>?_;clear hK9 K9)
   refine⟨?_,?_⟩
   ·(intro K9 hK9;refine gd_ ?_;refine hK9 _ _ λ_=>?_;clear hK9 K9)
    (intro K9 hK9;refine gd_ ?_;refine hK9 _ _ λ_=>?_;clear hK9 K9)
    refine gd_ ?_
    refine S.stB (b:=b4) λw10 S=>?_
    refine S.ceB (b:=b4) ?_ rfl
    exact fin rfl S
   ·refine S.stB (b:=b4) λw10 S=>?_
    (intro K9 hK9;refine gd_ ?_;refine hK9 _ _ λ_=>?_;clear hK9 K9)
    (intro K9 hK9;refine gd_ ?_;refine hK9 _ _ λ_=>?_;clear hK9 K9)
    refine gd_ ?_
    exact fin rfl S
  |true=>
   rw[hz]at fin
   refine zn (λs w'=>s=[.bool (decide (o.n=0))]∧w'=w3) (λK9 hK9=>?_) ?_
   ·refine gd_ ?_
    exact hK9 _ _ ⟨rfl,rfl⟩
   rintro _ w3 ⟨rfl,rfl⟩ d1
   simp only[gdz]
   by_cases hn:o.n=0
   ·rw[gde hn]
    rw[gde hn]at fin
    (intro K9 hK9;refine gd_ ?_;refine hK9 _ _ λ_=>?_;clear hK9 K9)
    refine⟨?_,?_⟩
    ·(intro K9 hK9;refine gd_ ?_;refine hK9 _ _ λ_=>?_;clear hK9 K9)
     (intro K9 hK9;refine gd_ ?_;refine hK9 _ _ λ_=>?_;clear hK9 K9)
     refine gd_ ?_
     refine S.stB (b:=b4) λw10 S=>?_
     refine S.ceB (b:=b4) ?_ rfl
     exact fin rfl S
    ·refine S.stB (b:=b4) λw10 S=>?_
     (intro K9 hK9;refine gd_ ?_;refine hK9 _ _ λ_=>?_;clear hK9 K9)
     (intro K9 hK9;refine gd_ ?_;refine hK9 _ _ λ_=>?_;clear hK9 K9)
     refine gd_ ?_
     exact fin rfl S
   ·rw[decide_eq_false hn]
    rw[decide_eq_false hn]at fin
    (intro K9 hK9;refine gd_ ?_;refine hK9 _ _ λ_=>?_;clear hK9 K9)
    refine⟨?_,?_⟩
    ·refine zn (λs w'=>s=[.bool (decide (o.n=1))]∧w'=w3) (λK9 hK9=>?_) ?_
     ·refine gd_ ?_
      refine w_q ?_
      refine gd_ ?_
      exact hK9 _ _ ⟨rfl,rfl⟩
     rintro _ _ ⟨rfl,rfl⟩ d1
     (intro K9 hK9;refine gd_ ?_;refine hK9 _ _ λ_=>?_;clear hK9 K9)
     refine gd_ ?_
     refine S.stB (b:=b4) λw10 S=>?_
     refine S.ceB (b:=b4) ?_ rfl
     exact fin (by simp) S
    ·refine S.stB (b:=b4) λw10 S=>?_
     refine zn (λs w'=>s=[.bool (decide (o.n=1))]∧w'=w10) (λK9 hK9=>?_) ?_
     ·refine gd_ ?_
      refine w_q ?_
      refine gd_ ?_
      exact hK9 _ _ ⟨rfl,rfl⟩
     rintro _ _ ⟨rfl,rfl⟩ d1
     (intro K9 hK9;refine gd_ ?_;refine hK9 _ _ λ_=>?_;clear hK9 K9)
     refine gd_ ?_
     exact fin (by simp) S
 intro K41 hK41
 refine gg_ ?_
 refine qu (c:=decide (o.k=4)) (hK41 _ _ λ_=>?_) λ_ hk=>?_
 rotate_left
 ·refine gg_ ?_;exact hk
 simp only[gdz]
 refine c_b (λh34=>?_) (λh34=>?_)
 rotate_left
 ·have h34:¬o.k=3∧¬o.k=4:=by simpa using h34
  rw[zr,if_neg h1,if_neg h2,if_neg h34.1,if_neg h34.2]at h
  refine zy (cs:=#[.int .u8 0,.bool false,.int .i64 0,.int .i64 0,.slice none 0 0]) (by kernel_rfl) ?_
  refine S.stB (b:=b4) λw10 S=>?_
  refine S.ceB (b:=b4) ?_ rfl
  exact h yc none 0 _ (λhh=>by cases hh) S.ext xJ
 have h34:o.k=3∨o.k=4:=by simpa using h34
 have hop:zr u.ss g.tys o=if o.k=3 then((zm u.ss g.tys o.pl).1,((zm u.ss g.tys o.pl).2.2&&decide (o.n=0))&&kz (zm u.ss g.tys o.pl).1)
   else((zm u.ss g.tys o.pl).1,(((zm u.ss g.tys o.pl).2.2&&decide (o.n=0)) && !kz (zm u.ss g.tys o.pl).1)&&decide ((zm u.ss g.tys o.pl).2.1<2)):=by
  rw[zr,if_neg h1,if_neg h2]
  by_cases h3:o.k=3
  ·rw[if_pos h3,if_pos h3]
  ·rw[if_neg h3,if_neg h3,if_pos (by omega)]
 refine gg_ ?_
 refine S.ldN (b:=b3) ?_
 refine Zz (p:=o.pl) S.holds hx hst hf hpl (λw3 hno e3=>?_) λt how q cap vg s w3 hsp e3 n3 htt hsl h8 _=>?_
 ·have S:=S.go e3
  have hz:(zr u.ss g.tys o).2=false:=by
   rw[hop];split<;>simp [hno]
  rw[hz]at h
  refine gS_ ?_
  refine S.al λb6 w4 S=>?_
  refine S.stB (b:=b6) λw5 S=>?_
  refine gp_ ?_
  refine zj (c:=true) (λhh=>by cases hh) ?_
  refine c_t rfl ?_
  refine S.ldB (b:=b6) ?_ rfl
  refine S.stB (b:=b4) λw7 S=>?_
  refine S.ceB (b:=b4) ?_ rfl
  exact h yc none 0 _ (λhh=>by cases hh) S.ext xJ
 obtain⟨S,d3,a3⟩:=S.tell e3 n3
 rw[hsp]at hop
 simp only[Bool.true_and]at hop
 refine gS_ ?_
 refine S.al λb6 w4 S=>?_
 refine S.stB (b:=b6) λw5 S=>?_
 refine gp_ ?_
 refine zj (c:=decide (o.n≠0)) (λ_ K2 hK2=>by refine gg_ ?_;exact hK2) ?_
 rw[show ((!true)||decide (o.n≠0))=decide (o.n≠0)by simp]
 refine zf (λhn=>?_) (λhn=>?_)
 ·have hz:(zr u.ss g.tys o).2=false:=by
   rw[hop];split<;>simp [hn]
  rw[hz]at h
  refine S.ldB (b:=b6) ?_ rfl
  refine S.stB (b:=b4) λw7 S=>?_
  refine S.ceB (b:=b4) ?_ rfl
  exact h t q cap _ (λhh=>by cases hh) S.ext htt
 have hn:o.n=0:=by omega
 rw[gde hn]at hop
 simp only[Bool.true_and]at hop
 refine gg_ ?_
 refine zf (λh3=>?_) (λh3=>?_)
 ·rw[if_pos h3]at hop
  rw[hop]at h
  have S:=S.go (Ext.drew _)
  refine S.ldB (b:=b6) ?_ rfl
  refine S.ldB (b:=b6) ?_ rfl
  refine Jg S.holds htt.up λw6 e6=>⟨e6,?_⟩
  have S:=S.go e6
  refine S.stB (b:=b4) λw7 S=>?_
  refine S.ceB (b:=b4) ?_ rfl
  exact h t q cap _ (λ_=>rfl) S.ext htt
 ·rw[if_neg h3]at hop
  rw[hop]at h
  have S:=S.go (Ext.drew _)
  refine S.ldB (b:=b6) ?_ rfl
  refine S.ldB (b:=b6) ?_ rfl
  refine Jg S.holds htt.up λw6 e6=>⟨e6,?_⟩
  have S:=S.go e6
  refine gp_ ?_
  refine zt (c:=decide (yK 0 how<2)) (λ_ K2 hK2=>?_) λw7 e7=>?_
  ·refine Zy S.holds (hsl.cells (s:=r.or s)) (by omega) λw7 e7=>⟨e7,?_⟩
   refine gp_ ?_
   exact hK2 _ e7
  have S:=S.go e7
  refine S.stB (b:=b4) λw7 S=>?_
  refine S.ceB (b:=b4) ?_ rfl
  exact h t q cap _ (λ_=>rfl) S.ext htt
theorem ads(hf:yQ ss tys)(h:(zr ss tys o).2=true):isB (zr ss tys o).1=true:=by
 by_cases hk:o.k=3∨o.k=4
 ·unfold zr at h⊢
  rw[if_neg (by omega),if_neg (by omega)]at h⊢
  rcases hk with hk|hk
  ·rw[if_pos hk]at h⊢
   simp only[gba]at h
   exact(ju hf h.1.1).is hf.few
  ·rw[if_neg (by omega),if_pos hk]at h⊢
   simp only[gba]at h
   exact(ju hf h.1.1.1).is hf.few
 ·unfold zr at h⊢
  by_cases h1:o.k=1
  ·rw[if_pos h1];rfl
  by_cases h2:o.k=2
  ·rw[if_neg h1,if_pos h2];rfl
  ·rw[if_neg h1,if_neg h2,if_neg (by omega),if_neg (by omega)]at h;cases h
theorem adt{ss:List StD}{tys:List TyD}:∀{l:List OpD}{ts:List TyD}(i:Nat)(hi:i<l.length)(hj:i<ts.length),xg ss tys (l.take (i+1)) (ts.take (i+1))=(xg ss tys (l.take i) (ts.take i)&&((zr ss tys l[i]).2&&zY yr (zr ss tys l[i]).1 ts[i]))
 |[],_,i,hi,_=>absurd hi (Nat.not_lt_zero _)
 |_::_,[],i,_,hj=>absurd hj (Nat.not_lt_zero _)
 |o::l,t::r,0,hi,hj=>by
  rw[List.take_succ_cons,List.take_succ_cons,qG]
  simp[xg]
 |o::l,t::r,i+1,hi,hj=>by
  rw[List.take_succ_cons,List.take_succ_cons,qG,adt i (by simpa using hi) (by simpa using hj),List.take_succ_cons,List.take_succ_cons,qG]
  simp only[List.getElem_cons_succ,Bool.and_assoc]
theorem akR{i:Nat}(hi:i<l.length)(hj:i<ts.length)(h:((zr ss tys l[i]).2&&zY yr (zr ss tys l[i]).1 ts[i])=false):xg ss tys l ts=false:=by
 cases ha:xg ss tys l ts with
 |false=>rfl
 |true=>
  exfalso
  have key:∀{l:List OpD}{ts:List TyD}(i:Nat)(hi:i<l.length)(hj:i<ts.length),xg ss tys l ts=true→((zr ss tys l[i]).2&&zY yr (zr ss tys l[i]).1 ts[i])=true:=by
   intro l
   induction l with
   |nil=>intro ts i hi;exact absurd hi (Nat.not_lt_zero _)
   |cons o l ih=>
    intro ts i hi hj ha
    cases ts with
    |nil=>exact absurd hj (Nat.not_lt_zero _)
    |cons t r=>
     rw[qG,gba]at ha
     cases i with
     |zero=>exact ha.1
     |succ i=>exact ih i (by simpa using hi) (by simpa using hj) ha.2
  rw[key i hi hj ha]at h;cases h
theorem aao{l:List OpD}{ts:List TyD}{p q:Option Addr}{cp cq:Nat}{K:Value→World→Prop}(hr:Holds r w)(hx:AsP r bx u g)(hst:(zw u.ss).2=0)(hf:yQ u.ss g.tys)
  (hl:SlG 4 r (OpG r) (.slice p l.length cp) l) (hb:l.length≤maxLen) (ht:TysG r q ts) (htb:ts.length≤maxLen) (hts:∀t∈ts,isB t=true)
  (h:∀w',Ext w w'→K (.bool (xg u.ss g.tys l ts)) w'):zd Tryz.prog Tryz.kF #[.pointer (some ⟨bx,0,none⟩),.slice p l.length cp,.slice q ts.length cq] w K:=by
 refine Tryz.VF ?_
 unfold Tryz.Yv
 have S:=St.start hr
 have hb':l.length≤9223372036854775807:=hb
 refine gg_ ?_
 refine zf (λhne=>?_) (λheq=>?_)
 ·have:=h _ S.ext
  rw[V4 (by omega)]at this
  exact this
 have heq:l.length=ts.length:=by omega
 refine zh (ι:=Nat) (λi=>[.int .i64 (i:Nat)]) (λi w'=>i≤l.length∧xg u.ss g.tys (l.take i) (ts.take i)=true∧StX noX w r w' []) (λi=>l.length-i) 0 rfl ⟨gzl _,rfl,S⟩ ?_
 clear S
 rintro i d w2 ⟨hi,hall,S⟩ K1 hK1
 rw[gdz]
 refine gg_ ?_
 refine zf (λhlt=>?_) (λhge=>?_)
 ·have hlt:i<l.length:=by omega
  have hlt2:i<ts.length:=by omega
  obtain⟨bo,oo,co,rfl,hco,hoc,hocell⟩:=hl.get (by decide) hlt
  obtain⟨bt,ot,ct,rfl,hct,htcell,htc⟩:=ht i hlt2
  obtain⟨qt,ct2,rfl,htt⟩:=yJ htc
  refine gg_ ?_
  refine zp (n:=4) hco (λj v hj=>by rw[tnc];exact S.at (hocell j v hj)) ?_
  refine ZA S.holds hx hst hf hoc λt q cap w3 hte e3 ht3=>?_
  have S:=S.go e3
  refine gS_ ?_
  refine S.al λb8 w4 S=>?_
  refine S.stB (b:=b8) λw5 S=>?_
  refine gp_ ?_
  have S0:=S
  have S:=S.go (Ext.drew _)
  refine x8 (c:=!zY yr (zr u.ss g.tys l[i]).1 ts[i]) (λhok K2 hK2=>?_) λw6 e6=>?_
  ·have hok:(zr u.ss g.tys l[i]).2=true:=by simpa using hok
   obtain rfl:=hte hok
   refine S.ldB (b:=b8) ?_ rfl
   refine gg_ ?_
   refine zp (n:=5) hct (λj v hj=>by rw[tnc];exact S.at (htcell j v hj)) ?_
   have hB:=ads hf hok
   have hB2:=hts _ (gem hlt2)
   refine Vu 48 hB hB2 S.holds ht3.up htt.up λw7 e7=>?_
   refine gp_ ?_
   have ea:kH yr 48 (zr u.ss g.tys l[i]).1 ts[i]=zY yr (zr u.ss g.tys l[i]).1 ts[i]:=by rw[zY,hB,hB2];rfl
   rw[ea]
   exact hK2 _ e7
  have S:=S.go e6
  refine c_b (λhbad=>?_) (λhgood=>?_)
  ·have:=h _ S.ext
   rw[akR hlt hlt2 (by revert hbad;cases(zr u.ss g.tys l[i]).2<;>cases (zY yr (zr u.ss g.tys l[i]).1 ts[i])<;>simp)]at this
   exact this
  ·refine gg_ ?_
   rw[show ((i:Int)+1)=((i+1:Nat):Int)by omega]
   refine hK1 (i+1) _ ⟨hlt,?_,S.tl⟩ (by omega)
   rw[adt i hlt hlt2,hall,Bool.true_and]
   simpa using hgood
 ·have hie:i=l.length:=by omega
  have:=h _ S.ext
  rw[hie,List.take_length,heq,List.take_length]at hall
  rw[hall]at this
  exact this
end
end Go.Proofs
namespace Go.Sh
theorem amq{w:World}{b e n x y:Bool}{A1:(List Value→World→Prop)→Prop}{A2 A3 A4:(List Value→World→Prop)→World→Prop}{Z:Value→World→Prop}
  (h1:∀K:List Value→World→Prop,(∀w',Ext w w'→K [.bool e] w')→A1 K) (h2:∀(K:List Value→World→Prop) w1,Ext w w1→(∀w',Ext w w'→K [.bool n] w')→A2 K w1)
  (h3:∀(K:List Value→World→Prop) w1,Ext w w1→(∀w',Ext w w'→K [.bool x] w')→A3 K w1) (h4:∀(K:List Value→World→Prop) w1,Ext w w1→(∀w',Ext w w'→K [.bool y] w')→A4 K w1)
  (hZ:∀w',Ext w w'→Z (.bool (b||(((e||n)&&x)&&y))) w'):
  za (λK=>gIf (.bool b) false (A1 K) (K [u_] w)) λs92 _ w94=>
   za (λK=>gIf (s92.getD 0 u_) false (A2 K w94) (K [u_] w94)) λs96 _ w98=>
    za (λK=>gIf (.bool b) false (zb (s92.getD 0 u_) (.bool true) (s96.getD 0 u_) λt=>K [t] w98) (K [u_] w98)) λs100 _ w102=>
     za (λK=>gIf (s100.getD 0 u_) true (A3 K w102) (K [u_] w102)) λs104 _ w106=>
      za (λK=>gIf (.bool b) false (zb (s100.getD 0 u_) (s104.getD 0 u_) (.bool false) λt=>K [t] w106) (K [u_] w106)) λs109 _ w111=>
       za (λK=>gIf (s109.getD 0 u_) true (A4 K w111) (K [u_] w111)) λs113 _ w115=>
        za (λK=>gIf (.bool b) false (zb (s109.getD 0 u_) (s113.getD 0 u_) (.bool false) λt=>K [t] w115) (K [u_] w115)) λs118 _ w120=>
         zb (.bool b) (.bool true) (s118.getD 0 u_) λt=>Z t w120:=by
 cases b<;>cases e<;>cases n<;>cases x<;>cases y <;>
  (iterate 7 (intro K hK;first|refine hK _ _ λ_=>?_|(refine h1 _ λw1 e1=>hK _ _ λ_=>?_)|(refine h2 _ _ (by first|assumption|exact Ext.refl _) λw1 e1=>hK _ _ λ_=>?_)|(refine h3 _ _ (by first|assumption|exact Ext.refl _) λw1 e1=>hK _ _ λ_=>?_)|(refine h4 _ _ (by first|assumption|exact Ext.refl _) λw1 e1=>hK _ _ λ_=>?_)|refine ⟨_,rfl,hK _ _ λ_=>?_⟩)) <;>
  exact⟨_,rfl,by simpa using hZ _ (by first|assumption|exact Ext.refl _)⟩
theorem alF{w:World}{b m x y o u v:Bool}{A1:(List Value→World→Prop)→Prop}{A2 A3 A4 A5 A6:(List Value→World→Prop)→World→Prop}{Z:Value→World→Prop}
  (h1:∀K:List Value→World→Prop,(∀w',Ext w w'→K [.bool m] w')→A1 K) (h2:∀(K:List Value→World→Prop) w1,Ext w w1→(∀w',Ext w w'→K [.bool x] w')→A2 K w1)
  (h3:∀(K:List Value→World→Prop) w1,Ext w w1→(∀w',Ext w w'→K [.bool y] w')→A3 K w1) (h4:∀(K:List Value→World→Prop) w1,Ext w w1→(∀w',Ext w w'→K [.bool o] w')→A4 K w1)
  (h5:∀(K:List Value→World→Prop) w1,Ext w w1→(∀w',Ext w w'→K [.bool u] w')→A5 K w1) (h6:∀(K:List Value→World→Prop) w1,Ext w w1→(∀w',Ext w w'→K [.bool v] w')→A6 K w1)
  (hZ:∀w',Ext w w'→Z (.bool (b&&(((m&&x)&&y)||((o&&u)&&v)))) w'):
  za (λK=>gIf (.bool b) true (A1 K) (K [u_] w)) λs141 _ w143=>
   za (λK=>gIf (s141.getD 0 u_) true (A2 K w143) (K [u_] w143)) λs145 _ w147=>
    za (λK=>gIf (.bool b) true (zb (s141.getD 0 u_) (s145.getD 0 u_) (.bool false) λt=>K [t] w147) (K [u_] w147)) λs150 _ w152=>
     za (λK=>gIf (s150.getD 0 u_) true (A3 K w152) (K [u_] w152)) λs154 _ w156=>
      za (λK=>gIf (.bool b) true (zb (s150.getD 0 u_) (s154.getD 0 u_) (.bool false) λt=>K [t] w156) (K [u_] w156)) λs159 _ w161=>
       za (λK=>gIf (s159.getD 0 u_) false (A4 K w161) (K [u_] w161)) λs163 _ w165=>
        za (λK=>gIf (s163.getD 0 u_) true (A5 K w165) (K [u_] w165)) λs167 _ w169=>
         za (λK=>gIf (s159.getD 0 u_) false (zb (s163.getD 0 u_) (s167.getD 0 u_) (.bool false) λt=>K [t] w169) (K [u_] w169)) λs172 _ w174=>
          za (λK=>gIf (s172.getD 0 u_) true (A6 K w174) (K [u_] w174)) λs176 _ w178=>
           za (λK=>gIf (s159.getD 0 u_) false (zb (s172.getD 0 u_) (s176.getD 0 u_) (.bool false) λt=>K [t] w178) (K [u_] w178)) λs181 _ w183=>
            za (λK=>gIf (.bool b) true (zb (s159.getD 0 u_) (.bool true) (s181.getD 0 u_) λt=>K [t] w183) (K [u_] w183)) λs185 _ w187=>
             zb (.bool b) (s185.getD 0 u_) (.bool false) λt=>Z t w187:=by
 cases b<;>cases m<;>cases x<;>cases y<;>cases o<;>cases u<;>cases v <;>
  (iterate 11 (intro K hK;first|refine hK _ _ λ_=>?_|(refine h1 _ λw1 e1=>hK _ _ λ_=>?_)|(refine h2 _ _ (by first|assumption|exact Ext.refl _) λw1 e1=>hK _ _ λ_=>?_)|(refine h3 _ _ (by first|assumption|exact Ext.refl _) λw1 e1=>hK _ _ λ_=>?_)|(refine h4 _ _ (by first|assumption|exact Ext.refl _) λw1 e1=>hK _ _ λ_=>?_)|(refine h5 _ _ (by first|assumption|exact Ext.refl _) λw1 e1=>hK _ _ λ_=>?_)|(refine h6 _ _ (by first|assumption|exact Ext.refl _) λw1 e1=>hK _ _ λ_=>?_)|refine ⟨_,rfl,hK _ _ λ_=>?_⟩)) <;>
  exact⟨_,rfl,by simpa using hZ _ (by first|assumption|exact Ext.refl _)⟩
theorem alG{w:World}{b m x:Bool}{A1:(List Value→World→Prop)→Prop}{A2:(List Value→World→Prop)→World→Prop}{Z:Value→World→Prop}
  (h1:∀K:List Value→World→Prop,K [.bool m] w→A1 K) (h2:b=true→∀K:List Value→World→Prop,(∀w',Ext w w'→K [.bool x] w')→A2 K w) (hZ:∀w',Ext w w'→Z (.bool (b&&(m||x))) w'):
  za (λK=>gIf (.bool b) true (A1 K) (K [u_] w)) λs212 _ w214=>
   za (λK=>gIf (s212.getD 0 u_) false (A2 K w214) (K [u_] w214)) λs216 _ w218=>
    za (λK=>gIf (.bool b) true (zb (s212.getD 0 u_) (.bool true) (s216.getD 0 u_) λt=>K [t] w218) (K [u_] w218)) λs221 _ w223=>
     zb (.bool b) (s221.getD 0 u_) (.bool false) λt=>Z t w223:=by
 cases b<;>cases m<;>cases x <;>
  (iterate 3 (intro K hK;first|refine hK _ _ λ_=>?_|refine h1 _ (hK _ _ λ_=>?_)|(refine h2 rfl _ λw1 e1=>hK _ _ λ_=>?_)|refine ⟨_,rfl,hK _ _ λ_=>?_⟩)) <;>
  exact⟨_,rfl,by simpa using hZ _ (by first|assumption|exact Ext.refl _)⟩
end Go.Sh
namespace Go.Proofs
open Go.Sh
theorem agS:∀(l:List Int)(m:Int),(m≤3)→(∀x∈l,x≤3)→yK m l≤3
 |[],m,h,_=>h
 |k::l,m,h,hl=>agS l _ (by have:=hl k List.mem_cons_self;omega) λx hx=>hl x (List.mem_cons_of_mem _ hx)
theorem agT{ss:List StD}:∀(l:List Int)(t:TyD){x:TyD×List Int},zH ss l t=some x→∀k∈x.2,k≤3
 |[],t,x,h=>by cases h;intro k hk;cases hk
 |k::l,t,x,h=>by
  rw[zH]at h
  cases hs:zT ss t k with
  |none=>rw [hs]at h;cases h
  |some s=>
   rw[hs]at h
   have h:(zH ss l s.1).map (λx=>(x.1,s.2::x.2))=some x:=h
   cases hw:zH ss l s.1 with
   |none=>rw [hw]at h;cases h
   |some y=>
    rw[hw]at h
    cases h
    intro j hj
    rcases List.mem_cons.1 hj with rfl|hj
    ·unfold zT at hs
     split at hs
     ·cases ho:t.of.head? with
      |none=>rw [ho]at hs;cases hs
      |some u=>rw [ho]at hs;cases hs;show(1:Int)≤3;decide
     split at hs
     ·cases ho:t.of.head? with
      |none=>rw [ho]at hs;cases hs
      |some u=>rw [ho]at hs;cases hs;show(if t.m then(2:Int)else 3)≤3;split<;>decide
     split at hs
     ·cases ho:(ze ss t.st)[k.toNat]? with
      |none=>rw [ho]at hs;cases hs
      |some u=>rw [ho]at hs;cases hs;show(0:Int)≤3;decide
     ·cases hs
    ·exact agT l s.1 hw j hj
theorem ajN{ss:List StD}{tys:List TyD}{p:PlD}(hst:(zw ss).2=0)(hf:yQ ss tys)(h:(zm ss tys p).2.2=true):(zm ss tys p).2.1≤3:=by
 have h8:=adl h
 obtain⟨h0,hl,x,h1,h2⟩:=(Qs hst hf).1 h
 rw[Qr hst (by rw[zP,gde hst,Bool.true_and];exact hf.all _ (gem hl)),if_pos h8]at h1
 rw[h2]
 exact agS _ _ (by decide) (agT _ _ h1)
theorem afI{u:UnD}{g:GrD}{p:PlD}{bx:Nat}{c:List Value}{w:World}{r:Gh}{K:Value→World→Prop}(hr:Holds r w)(hx:AsP r bx u g)(hst:(zw u.ss).2=0)(hf:yQ u.ss g.tys)(hp:PlG r c p)
  (h:∀t how q cap vg s w',((zm u.ss g.tys p).2.2=true→zm u.ss g.tys p=(t,yK 0 how,true))→Ext w w'→New w s w'→TyG r (tyV t q cap) t→SlG 1 s zQ vg how→how.length≤8→K (.tuple #[tyV t q cap,vg,.bool (zm u.ss g.tys p).2.2]) w'):
  zd Tryz.prog Tryz.yC #[.pointer (some ⟨bx,0,none⟩),.agg c.toArray] w K:=by
 refine Zz hr hx hst hf hp (λw' hno e=>?_) λt how q cap vg s w' hsp e n htt hsl h8 _=>?_
 ·have:=h yc [] none 0 (.slice none 0 0) nothing w' (λhh=>by rw[hno]at hh;cases hh) e New.nothing xJ SlG.nil (gzl _)
  rw[hno]at this
  exact this
 ·have:=h t how q cap vg s w' (λ_=>hsp) e n htt hsl h8
  rw[hsp]at this
  exact this
section
variable {p:PtD} {c:List Value} {K:Value→World→Prop} {s:ByteArray}
theorem akS{h:acd}{L:List UInt8}(e:([84,65,66,76,70,83,78,85,77,69]:List Int).map (jc L)=[h.to,h.a,h.b,h.args,h.fr,h.sign,h.fn,h.st,h.mu,h.el]):jJ p L 10=zG p h:=by
 simp only[List.map_cons,List.map_nil,List.cons.injEq,and_true]at e
 obtain⟨e0,e1,e2,e3,e4,e5,e6,e7,e8,e9⟩:=e
 exact akQ e0 e1 e2 e3 e4 e5 e6 e7 e8 e9
theorem xy{f:acd}{has:List UInt8}{w:World}{r:Gh}{K:Value→World→Prop}(e:([84,65,66,76,70,83,78,85,77,69]:List Int).map (jc has)=[f.to,f.a,f.b,f.args,f.fr,f.sign,f.fn,f.st,f.mu,f.el])(hh:has.length≤100)(hr:Holds r w)(hp:PtG r c p)
  (h:∀w',Ext w w'→K (.bool (zG p f)) w'):zd Tryz.prog Tryz.zW #[.agg c.toArray,.string (bs has)] w K:=by
 refine agR hr hp hh λw' e'=>?_
 rw[akS e]
 exact h _ e'
theorem amr{t1 t2 i x:Bool}:(yo s [[61,61],[33,61],[60],[60,61],[62],[62,61]]&&t2&&(i||((s.toList == [61,61]||s.toList == [33,61])&&x))) =
  (if yo s [[60],[60,61],[62],[62,61]]=true then t2&&i else if yo s [[61,61],[33,61]]=true then t2&&(i||x)else false):=by
 have hx:∀a b:List UInt8,a≠b→(s.toList == a)=true→(s.toList == b)=false:=λa b hab h=>by
  rw[beq_iff_eq]at h
  rw[h]
  exact beq_eq_false_iff_ne.2 hab
 simp only[yo,List.any_cons,List.any_nil,Bool.or_false]
 by_cases h1:(s.toList == [61,61])=true
 ·rw[hx _ [60] (by decide) h1,hx _ [60,61] (by decide) h1,hx _ [62] (by decide) h1,hx _ [62,61] (by decide) h1,h1]
  simp
 by_cases h2:(s.toList == [33,61])=true
 ·rw[hx _ [60] (by decide) h2,hx _ [60,61] (by decide) h2,hx _ [62] (by decide) h2,hx _ [62,61] (by decide) h2,h2]
  simp
 rw[Bool.not_eq_true]at h1 h2
 rw[h1,h2]
 simp only[Bool.false_or,Bool.false_and,Bool.or_false,Bool.false_eq_true,if_false]
 by_cases h3:((s.toList == [60])||((s.toList == [60,61])||((s.toList == [62])||(s.toList == [62,61]))))=true
 ·rw[if_pos h3,h3,Bool.true_and]
 ·rw[if_neg h3]
  rw[Bool.not_eq_true]at h3
  rw[h3];rfl
theorem am8{b t1 a1 t2 a2:Bool}:(b&&(((s.toList == [45]&&t1)&&a1)||((s.toList == [33]&&t2)&&a2)))=(b&&(if yo s [[45]]=true then t1&&a1 else if yo s [[33]]=true then t2&&a2 else false)):=by
 congr 1
 simp only[yo,List.any_cons,List.any_nil,Bool.or_false]
 by_cases h1:(s.toList == [45])=true
 ·have h2:(s.toList == [33])=false:=by
   rw[beq_iff_eq]at h1;rw[h1];rfl
  rw[if_pos h1,h1,h2];simp
 ·rw[if_neg h1]
  rw[Bool.not_eq_true]at h1
  rw[h1]
  by_cases h2:(s.toList == [33])=true
  ·rw[if_pos h2,h2];simp
  ·rw[if_neg h2];rw[Bool.not_eq_true]at h2;rw[h2];simp
theorem afJ{u:UnD}{g:GrD}{p:PtD}{bx:Nat}{c:List Value}{w:World}{r:Gh}{K:Value→World→Prop}(hr:Holds r w)(hx:AsP r bx u g)(hst:(zw u.ss).2=0)(hf:yQ u.ss g.tys)
  (hfs:∀f∈u.fs,0≤f.pn∧f.pn<f.tys.length∧yQ u.ss f.tys) (hp:PtG r c p)
  (h:∀w',Ext w w'→K (.bool (yw u g p)) w'):zd Tryz.prog Tryz.qY #[.pointer (some ⟨bx,0,none⟩),.agg c.toArray] w K:=by
 refine Tryz.JY ?_
 unfold Tryz.ZJ
 have hx0:=hx
 obtain⟨p0,cap0,qf,capf,q1,c1,q2,c2,q3,c3,q4,c4,hB,hu,hg⟩:=hx
 obtain⟨_,_,_,hE,_,_,hss,hsl,hfn⟩:=hu
 cases hE
 have hfl:u.fs.length≤9223372036854775807:=hfn.few
 obtain⟨_,_,_,_,hE,_,_,_,hpts⟩:=hg
 cases hE
 have hpl:g.pts.length≤9223372036854775807:=hpts.few
 obtain⟨z1,z2,z3,z4,z5,d1,d2,d3,d4,d5,rfl,hp0⟩:=xZ hp
 obtain⟨_,_,_,_,_,hE,k1,k2,k3,k4,k5⟩:=id hp0
 cases hE
 have hpto:PlG r [.int .i64 p.to.l,.slice z1 p.to.ps.length d1] p.to:=⟨_,rfl,k1⟩
 have hpfr:PlG r [.int .i64 p.fr.l,.slice z5 p.fr.ps.length d5] p.fr:=⟨_,rfl,k5⟩
 have hoa:OpG r [.int .u8 p.a.k,.int .i64 p.a.n,.int .i64 p.a.pl.l,.slice z2 p.a.pl.ps.length d2] p.a:=⟨_,rfl,k2⟩
 have hob:OpG r [.int .u8 p.b.k,.int .i64 p.b.n,.int .i64 p.b.pl.l,.slice z3 p.b.pl.ps.length d3] p.b:=⟨_,rfl,k3⟩
 have S:=St.start hr
 refine S.box λb3 w1 S=>?_
 have S:StX noX w r w1 [.cell b3 (ptL p z1 z2 z3 z4 z5 d1 d2 d3 d4 d5) 94]:=S
 have ld:∀{q:Gh}{w9:World}{L:List Asr}{i:Nat}{v:Value}[Le r q],StX noX w q w9 L→(asL u g p0 cap0 qf capf q1 c1 q2 c2 q3 c3 q4 c4)[i]? = some v→w9.cell? ⟨bx,i,none⟩=some v:=λS hi=>by
  rw[(S.at hB).cell];exact hi
 refine gg_ ?_
 refine zg (ld (i:=9) S rfl) ?_
 refine gg_ ?_
 refine ZZ (g:=decide (p.op=14)) (c:=decide (p.nx≠0)) (λ_ K2 hK2=>by refine gg_ ?_;exact hK2) (λ_ K2 hK2=>by refine gg_ ?_;exact hK2) ?_
 refine ael (g:=decide (p.op≠14)) (m:=decide (p.nx<0)) (c:=decide ((g.pts.length:Int)≤p.nx)) (λK2 hK2=>by refine gg_ ?_;exact hK2) (λK2 hK2=>by refine gg_ ?_;exact hK2) (λK2 hK2=>by refine gg_ ?_;exact hK2) ?_
 have hbad:((decide (p.tx<0)||(decide (p.op=14)&&decide (p.nx≠0)))||(decide (p.op≠14)&&(decide (p.nx<0)||decide ((g.pts.length:Int)≤p.nx)))) =
   ((decide (p.tx<0)||(!decide (p.op=14) && !QN g p.nx))||(decide (p.op=14) && !decide (p.nx=0))):=by
  have e1:(!QN g p.nx)=(decide (p.nx<0)||decide ((g.pts.length:Int)≤p.nx)):=by
   rw[QN,Bool.not_and,← decide_not,← decide_not]
   congr 1<;>exact decide_eq_decide.2 (by omega)
  rw[e1,← decide_not,← decide_not]
  show((decide (p.tx<0)||(decide (p.op=14)&&decide (¬p.nx=0)))||(decide (¬p.op=14)&&(decide (p.nx<0)||decide ((g.pts.length:Int)≤p.nx))))=_
  ac_rfl
 rw[hbad]
 refine c_b (λhc=>?_) (λhc=>?_)
 ·have:=h _ S.ext
  rw[yw,hc]at this
  exact this
 rw[yw,hc]at h
 simp only[Bool.not_false,Bool.true_and]at h
 clear hbad hc
 refine gg_ ?_
 refine S.ldN (b:=b3) ?_
 refine aiO (p:=p.to) S.holds hx0 hst hf hpto λtt qt ct w2 htt e2 ht2=>?_
 have S:=S.go e2
 refine gS_ ?_
 refine S.al λb6 w3 S=>?_
 refine S.stB (b:=b6) λw4 S=>?_
 refine gg_ ?_
 refine S.ldN (b:=b3) ?_
 refine ZA (o:=p.a) S.holds hx0 hst hf hoa λta qa ca w5 hta e5 ht5=>?_
 have S:=S.go e5
 refine gS_ ?_
 refine S.al λb8 w6 S=>?_
 refine S.stB (b:=b8) λw7 S=>?_
 refine gg_ ?_
 refine S.ldN (b:=b3) ?_
 refine ZA (o:=p.b) S.holds hx0 hst hf hob λtb qb cb w8 htb e8 ht8=>?_
 have S:=S.go e8
 refine gS_ ?_
 refine S.al λb10 w9 S=>?_
 refine S.stB (b:=b10) λw10 S=>?_
 refine gg_ ?_
 refine S.ldN (b:=b3) ?_
 refine afI (p:=p.fr) S.holds hx0 hst hf hpfr λtf how qr cr vg s w11 htf e11 n11 ht11 hhow hh8=>?_
 obtain⟨S,dd,ad⟩:=S.tell e11 n11
 obtain⟨vgp,vgc,rfl,_,_⟩:=hhow.shape
 refine gS_ ?_
 refine S.al λb12 w12 S=>?_
 refine S.stB (b:=b12) λw13 S=>?_
 have S:StX noX w (r.or s) w13 [.cell b12 (tyL tf qr cr) 112,.cell b10 (tyL tb qb cb) 112,.cell b8 (tyL ta qa ca) 112,.cell b6 (tyL tt qt ct) 112,.cell b3 (ptL p z1 z2 z3 z4 z5 d1 d2 d3 d4 d5) 94]:=S
 have hpr:PtG (r.or s) (ptL p z1 z2 z3 z4 z5 d1 d2 d3 d4 d5) p:=hp0.up
 have ht2:TyG (r.or s) (tyV tt qt ct) tt:=ht2.up
 have ht5:TyG (r.or s) (tyV ta qa ca) ta:=ht5.up
 have ht8:TyG (r.or s) (tyV tb qb cb) tb:=ht8.up
 have ht11:TyG (r.or s) (tyV tf qr cr) tf:=ht11.up
 have hhow:SlG 1 (r.or s) zQ (.slice vgp how.length vgc) how:=hhow.cells
 have hBto:(zm u.ss g.tys p.to).2.2=true→isB (zm u.ss g.tys p.to).1=true:=λho=>(ju hf ho).is hf.few
 have hBa:(zr u.ss g.tys p.a).2=true→isB (zr u.ss g.tys p.a).1=true:=ads hf
 have hBf:(zm u.ss g.tys p.fr).2.2=true→isB (zm u.ss g.tys p.fr).1=true:=λho=>(ju hf ho).is hf.few
 have ali:∀{a b:TyD}{va vb:Value}{w9:World}{L:List Asr}{K9:Value→World→Prop},isB a=true→isB b=true→StX noX w (r.or s) w9 L→TyG (r.or s) va a→TyG (r.or s) vb b→(∀w',Ext w9 w'→K9 (.bool (zY yr a b)) w')→zd Tryz.prog Tryz.yV #[va,vb] w9 K9:=λha hb S hva hvb hk=>by
  refine Vu 48 ha hb S.holds hva hvb λw' e'=>?_
  have:=hk w' e'
  rw[zY,ha,hb]at this
  exact this
 refine gg_ ?_
 refine zf (λhop=>?_) (λhop=>?_)
 ·rw[ptG]at h
  simp only[hop,Int.reduceEq,if_false,if_true]at h
  refine S.ldB (b:=b3) ?_ rfl
  refine xy (f:={ to:=true,a:=true }) (by decide) (by decide) S.holds hpr λw14 e14=>?_
  have S:=S.go e14
  refine zi (c:=(zm u.ss g.tys p.to).2.2&&decide ((zm u.ss g.tys p.to).2.1<3)) (λ_ K2 hK2=>hK2) ?_
  refine zi (c:=(zr u.ss g.tys p.a).2) (λ_ K2 hK2=>hK2) ?_
  refine zt (c:=zY yr (zr u.ss g.tys p.a).1 (zm u.ss g.tys p.to).1) (λhb K2 hK2=>?_) λw15 e15=>h _ (S.go e15).ext
  simp only[gba]at hb
  obtain rfl:=htt hb.1.2.1
  obtain rfl:=hta hb.2
  refine S.ldB (b:=b8) ?_ rfl
  refine S.ldB (b:=b6) ?_ rfl
  exact ali (hBa hb.2) (hBto hb.1.2.1) S ht5 ht2 λw' e'=>hK2 _ e'
 refine gg_ ?_
 refine zf (λhop=>?_) (λhop=>?_)
 ·rw[ptG]at h
  simp only[hop,Int.reduceEq,if_false,if_true]at h
  refine S.ldB (b:=b3) ?_ rfl
  refine xy (f:={ to:=true,a:=true,b:=true,sign:=true }) (by decide) (by decide) S.holds hpr λw14 e14=>?_
  have S:=S.go e14
  refine gg_ ?_
  refine zj (c:=!((zm u.ss g.tys p.to).2.2&&decide ((zm u.ss g.tys p.to).2.1<3))) (λ_ K2 hK2=>by refine gg_ ?_;exact hK2) ?_
  refine zj (c:=!(zr u.ss g.tys p.a).2) (λ_ K2 hK2=>by refine gg_ ?_;exact hK2) ?_
  refine zj (c:=!(zr u.ss g.tys p.b).2) (λ_ K2 hK2=>by refine gg_ ?_;exact hK2) ?_
  refine c_b (λhc=>?_) (λhc=>?_)
  ·rw[bb4 hc,Bool.false_and]at h
   exact h _ S.ext
  rw[amj hc,Bool.true_and]at h
  simp only[Bool.or_eq_false_iff,Bool.not_eq_false',gba]at hc
  obtain⟨⟨⟨_,hto,_⟩,ha2⟩,hb2⟩:=hc
  obtain rfl:=htt hto
  obtain rfl:=hta ha2
  obtain rfl:=htb hb2
  refine gg_ ?_
  refine agQ ?_
  refine c_b (λhs=>?_) (λhs=>?_)
  ·rw[if_pos hs]at h
   refine S.ldB (b:=b6) ?_ rfl
   refine yb S.holds λw15 e15=>?_
   have S:=S.go e15
   refine zt (c:=isK (zr u.ss g.tys p.a).1 1) (λ_ K2 hK2=>?_) λw16 e16=>?_
   ·refine S.ldB (b:=b8) ?_ rfl
    exact yb S.holds λw' e'=>hK2 _ e'
   have S:=S.go e16
   refine zt (c:=isK (zr u.ss g.tys p.b).1 1) (λ_ K2 hK2=>?_) λw17 e17=>?_
   ·refine S.ldB (b:=b10) ?_ rfl
    exact yb S.holds λw' e'=>hK2 _ e'
   have:=h _ (S.go e17).ext
   rw[← Bool.and_assoc]at this
   exact this
  rw[if_neg (by rw[hs];decide)]at h
  refine S.ldB (b:=b8) ?_ rfl
  refine yb S.holds λw15 e15=>?_
  have S:=S.go e15
  refine zt (c:=isK (zr u.ss g.tys p.b).1 1) (λ_ K2 hK2=>?_) λw16 e16=>?_
  ·refine S.ldB (b:=b10) ?_ rfl
   exact yb S.holds λw' e'=>hK2 _ e'
  have S:=S.go e16
  refine amq (e:=p.sign.toList == [61,61]) (n:=p.sign.toList == [33,61]) (x:=isK (zr u.ss g.tys p.a).1 2) (y:=isK (zr u.ss g.tys p.b).1 2) (λK2 hK2=>?_) (λK2 w1 e1 hK2=>?_) (λK2 w1 e1 hK2=>?_) (λK2 w1 e1 hK2=>?_) λw17 e17=>?_
  ·refine gg_ ?_
   exact hK2 _ (Ext.refl _)
  ·have S:=S.go e1
   refine gg_ ?_
   exact hK2 _ (by first|exact e1|exact Ext.refl _)
  ·have S:=S.go e1
   refine S.ldB (b:=b8) ?_ rfl
   exact yb S.holds λw' e'=>hK2 _ (e1.trans e')
  ·have S:=S.go e1
   refine S.ldB (b:=b10) ?_ rfl
   exact yb S.holds λw' e'=>hK2 _ (e1.trans e')
  have S:=S.go e17
  refine gg_ ?_
  refine aen ?_
  refine zt (c:=isK (zm u.ss g.tys p.to).1 2) (λ_ K2 hK2=>?_) λw18 e18=>?_
  ·refine S.ldB (b:=b6) ?_ rfl
   exact yb S.holds λw' e'=>hK2 _ e'
  have S:=S.go e18
  refine zi (c:=(isK (zr u.ss g.tys p.a).1 1&&isK (zr u.ss g.tys p.b).1 1)||(((p.sign.toList == [61,61]||p.sign.toList == [33,61])&&isK (zr u.ss g.tys p.a).1 2)&&isK (zr u.ss g.tys p.b).1 2)) (λ_ K2 hK2=>hK2) ?_
  have:=h _ S.ext
  rw[← amr (t1:=true),← Bool.and_assoc ((p.sign.toList == [61,61])||(p.sign.toList == [33,61]))]at this
  exact this
 refine gg_ ?_
 refine zf (λhop=>?_) (λhop=>?_)
 ·rw[ptG]at h
  simp only[hop,Int.reduceEq,if_false,if_true]at h
  refine S.ldB (b:=b3) ?_ rfl
  refine xy (f:={ to:=true,a:=true,sign:=true }) (by decide) (by decide) S.holds hpr λw14 e14=>?_
  have S:=S.go e14
  refine zi (c:=(zm u.ss g.tys p.to).2.2&&decide ((zm u.ss g.tys p.to).2.1<3)) (λ_ K2 hK2=>hK2) ?_
  refine zi (c:=(zr u.ss g.tys p.a).2) (λ_ K2 hK2=>hK2) ?_
  rw[← am8]at h
  cases hb:((zG p { to:=true,a:=true,sign:=true } && ((zm u.ss g.tys p.to).2.2&&decide ((zm u.ss g.tys p.to).2.1<3)))&&(zr u.ss g.tys p.a).2)with
  |false=>
   rw[hb,Bool.false_and]at h
   (intro K9 hK9;refine gd_ ?_;refine hK9 _ _ λ_=>?_;clear hK9 K9)
   (intro K9 hK9;refine gd_ ?_;refine hK9 _ _ λ_=>?_;clear hK9 K9)
   (intro K9 hK9;refine gd_ ?_;refine hK9 _ _ λ_=>?_;clear hK9 K9)
   (intro K9 hK9;refine gd_ ?_;refine hK9 _ _ λ_=>?_;clear hK9 K9)
   (intro K9 hK9;refine gd_ ?_;refine hK9 _ _ λ_=>?_;clear hK9 K9)
   (intro K9 hK9;refine gd_ ?_;refine hK9 _ _ λ_=>?_;clear hK9 K9)
   (intro K9 hK9;refine gd_ ?_;refine hK9 _ _ λ_=>?_;clear hK9 K9)
   (intro K9 hK9;refine gd_ ?_;refine hK9 _ _ λ_=>?_;clear hK9 K9)
   (intro K9 hK9;refine gd_ ?_;refine hK9 _ _ λ_=>?_;clear hK9 K9)
   (intro K9 hK9;refine gd_ ?_;refine hK9 _ _ λ_=>?_;clear hK9 K9)
   (intro K9 hK9;refine gd_ ?_;refine hK9 _ _ λ_=>?_;clear hK9 K9)
   refine gd_ ?_
   exact h _ S.ext
  |true=>
   rw[hb]at h
   simp only[gba]at hb
   obtain rfl:=htt hb.1.2.1
   obtain rfl:=hta hb.2
   refine alF (m:=p.sign.toList == [45]) (x:=isK (zm u.ss g.tys p.to).1 1) (y:=isK (zr u.ss g.tys p.a).1 1) (o:=p.sign.toList == [33]) (u:=isK (zm u.ss g.tys p.to).1 2) (v:=isK (zr u.ss g.tys p.a).1 2) (λK2 hK2=>?_) (λK2 w1 e1 hK2=>?_) (λK2 w1 e1 hK2=>?_) (λK2 w1 e1 hK2=>?_) (λK2 w1 e1 hK2=>?_) (λK2 w1 e1 hK2=>?_) λw17 e17=>h _ (S.go e17).ext
   ·refine gg_ ?_
    exact hK2 _ (Ext.refl _)
   ·have S:=S.go e1
    refine S.ldB (b:=b6) ?_ rfl
    exact yb S.holds λw' e'=>hK2 _ (e1.trans e')
   ·have S:=S.go e1
    refine S.ldB (b:=b8) ?_ rfl
    exact yb S.holds λw' e'=>hK2 _ (e1.trans e')
   ·have S:=S.go e1
    refine gg_ ?_
    exact hK2 _ (by first|exact e1|exact Ext.refl _)
   ·have S:=S.go e1
    refine S.ldB (b:=b6) ?_ rfl
    exact yb S.holds λw' e'=>hK2 _ (e1.trans e')
   ·have S:=S.go e1
    refine S.ldB (b:=b8) ?_ rfl
    exact yb S.holds λw' e'=>hK2 _ (e1.trans e')
 have h8:∀k,(ze u.ss k).length≤8:=kA (xT hst).2.1
 have h32:=hf.few
 have inn:∀{t:TyD}{q:Option Addr}{cap:Nat},TyG (r.or s) (tyV t q cap) t→(∃k,t.k=k∧(k=3∨k=4))→Fine u.ss t→∃uu bo oo q2 cap2,t.of=[uu]∧q=some ⟨bo,oo,none⟩∧isB uu=true∧TyG (r.or s) (tyV uu q2 cap2) uu∧∀j v,(tyL uu q2 cap2)[j]? = some v→Ob (r.or s) λw=>w.cell? ⟨bo,oo+j,none⟩=some v:=λht hk hfi=>by
  obtain⟨k,hk1,hk2⟩:=hk
  rcases hfi.cases with⟨_,h1⟩|⟨uu,h1,h2,_⟩
  ·omega
  ·obtain⟨bo,oo,q2,cap2,rfl,ht2,hcc⟩:=Zu ht h1
   exact⟨uu,bo,oo,q2,cap2,h1,rfl,h2.is h32,ht2,hcc⟩
 refine gg_ ?_
 refine zf (λhop=>?_) (λhop=>?_)
 ·rw[ptG]at h
  simp only[hop,Int.reduceEq,if_false,if_true]at h
  have S:=S.go (Ext.drew _)
  refine S.ldB (b:=b3) ?_ rfl
  refine xy (f:={ to:=true,fr:=true,mu:=true }) (by decide) (by decide) S.holds hpr λw14 e14=>?_
  have S:=S.go e14
  refine zi (c:=(zm u.ss g.tys p.to).2.2&&decide ((zm u.ss g.tys p.to).2.1<3)) (λ_ K2 hK2=>hK2) ?_
  refine zi (c:=(zm u.ss g.tys p.fr).2.2) (λ_ K2 hK2=>hK2) ?_
  refine zt (c:=isK (zm u.ss g.tys p.to).1 4) (λhb K2 hK2=>?_) λw15 e15=>?_
  ·simp only[gba]at hb
   obtain rfl:=htt hb.1.2.1
   refine S.ldB (b:=b6) ?_ rfl
   exact yb S.holds λw' e'=>hK2 _ e'
  have S:=S.go e15
  refine zi (c:=(zm u.ss g.tys p.to).1.m == p.mu) (λhb K2 hK2=>?_) ?_
  ·simp only[gba]at hb
   obtain rfl:=htt hb.1.1.2.1
   refine gg_ ?_
   exact hK2
  refine zt (c:=zY yr ((zm u.ss g.tys p.to).1.of.headD yc) (zm u.ss g.tys p.fr).1) (λhb K2 hK2=>?_) λw16 e16=>?_
  ·simp only[gba]at hb
   have hto:=hb.1.1.1.2.1
   have hfr:=hb.1.1.2
   have hk4:(zm u.ss g.tys p.to).1.k=4:=by have:=hb.1.2;simpa [isK]using this
   obtain rfl:=htt hto
   have hff:=htf hfr
   have htfe:(zm u.ss g.tys p.fr).1=tf:=by rw[hff]
   have hBf:=hBf hfr
   rw[htfe]at hBf hK2
   obtain⟨uu,bo,oo,q2,cap2,hof,rfl,hBu,htu,hcc⟩:=inn ht2 ⟨_,hk4,.inr rfl⟩ (ju hf hto)
   rw[hof]at hK2
   have hl1:(zm u.ss g.tys p.to).1.of.length=1:=by rw[hof];rfl
   refine gg_ ?_
   refine zp (n:=5) (c:=tyL uu q2 cap2) rfl (λj v hj=>by simpa using S.at (hcc j v hj)) ?_
   refine S.ldB (b:=b12) ?_ rfl
   exact ali hBu hBf S htu ht11 λw' e'=>hK2 _ e'
  have S:=S.go e16
  refine alG (m:=!p.mu) (x:=decide (yK 0 how<3)) (λK2 hK2=>by refine gg_ ?_;exact hK2) (λ_ K2 hK2=>?_) λw17 e17=>?_
  ·refine Zy S.holds hhow (by omega) λw7 e7=>?_
   refine gp_ ?_
   exact hK2 _ e7
  have:=h _ (S.go e17).ext
  rw[Bool.beq_eq_decide_eq,Bool.and_assoc]
  cases hfr:(zm u.ss g.tys p.fr).2.2 with
  |false=>
   rw[hfr]at this
   simp only[Bool.and_false,Bool.false_and]at this⊢
   exact this
  |true=>
   have hm3:=ajN hst hf hfr
   have hff:=htf hfr
   have e1:(zm u.ss g.tys p.fr).2.1=yK 0 how:=by rw[hff]
   rw[e1]at hm3
   rw[hfr,e1]at this
   have e2:(!(p.mu&&decide (yK 0 how=3)))=(!p.mu||decide (yK 0 how<3)):=by
    rw[Bool.not_and,← decide_not]
    congr 1
    exact decide_eq_decide.2 (by omega)
   rw[e2]at this
   exact this
 refine gg_ ?_
 refine zf (λhop=>?_) (λhop=>?_)
 ·rw[ptG]at h
  simp only[hop,Int.reduceEq,if_false,if_true]at h
  have S:=S.go (Ext.drew _)
  refine S.ldB (b:=b3) ?_ rfl
  refine xy (f:={ to:=true,a:=true }) (by decide) (by decide) S.holds hpr λw14 e14=>?_
  have S:=S.go e14
  refine zi (c:=(zm u.ss g.tys p.to).2.2&&decide ((zm u.ss g.tys p.to).2.1<3)) (λ_ K2 hK2=>hK2) ?_
  refine zi (c:=(zr u.ss g.tys p.a).2) (λ_ K2 hK2=>hK2) ?_
  refine zt (c:=isK (zm u.ss g.tys p.to).1 3) (λhb K2 hK2=>?_) λw15 e15=>?_
  ·simp only[gba]at hb
   obtain rfl:=htt hb.1.2.1
   refine S.ldB (b:=b6) ?_ rfl
   exact yb S.holds λw' e'=>hK2 _ e'
  have S:=S.go e15
  refine zt (c:=zY yr ((zm u.ss g.tys p.to).1.of.headD yc) (zr u.ss g.tys p.a).1) (λhb K2 hK2=>?_) λw16 e16=>h _ (S.go e16).ext
  simp only[gba]at hb
  have hto:=hb.1.1.2.1
  have ha2:=hb.1.2
  have hk3:(zm u.ss g.tys p.to).1.k=3:=by have:=hb.2;simpa [isK]using this
  obtain rfl:=htt hto
  obtain rfl:=hta ha2
  obtain⟨uu,bo,oo,q2,cap2,hof,rfl,hBu,htu,hcc⟩:=inn ht2 ⟨_,hk3,.inl rfl⟩ (ju hf hto)
  rw[hof]at hK2
  have hl1:(zm u.ss g.tys p.to).1.of.length=1:=by rw[hof];rfl
  refine gg_ ?_
  refine zp (n:=5) (c:=tyL uu q2 cap2) rfl (λj v hj=>by simpa using S.at (hcc j v hj)) ?_
  refine S.ldB (b:=b8) ?_ rfl
  exact ali hBu (hBa ha2) S htu ht5 λw' e'=>hK2 _ e'
 refine gg_ ?_
 refine zf (λhop=>?_) (λhop=>?_)
 ·rw[ptG]at h
  simp only[hop,Int.reduceEq,if_false,if_true]at h
  refine S.ldB (b:=b3) ?_ rfl
  refine xy (f:={ to:=true,args:=true,st:=true }) (by decide) (by decide) S.holds hpr λw14 e14=>?_
  have S:=S.go e14
  refine gg_ ?_
  refine zj (c:=!((zm u.ss g.tys p.to).2.2&&decide ((zm u.ss g.tys p.to).2.1<3))) (λ_ K2 hK2=>by refine gg_ ?_;exact hK2) ?_
  refine x8 (c:=!isK (zm u.ss g.tys p.to).1 5) (λhb K2 hK2=>?_) λw15 e15=>?_
  ·simp only[Bool.or_eq_false_iff,Bool.not_eq_false',gba]at hb
   obtain rfl:=htt hb.2.1
   refine S.ldB (b:=b6) ?_ rfl
   refine yb S.holds λw' e'=>?_
   refine gp_ ?_
   exact hK2 _ e'
  have S:=S.go e15
  refine zj (c:=decide ((zm u.ss g.tys p.to).1.st≠p.st)) (λhb K2 hK2=>?_) ?_
  ·simp only[Bool.or_eq_false_iff,Bool.not_eq_false',gba]at hb
   obtain rfl:=htt hb.1.2.1
   refine gg_ ?_
   exact hK2
  refine c_b (λhc=>?_) (λhc=>?_)
  ·rw[bb3 hc,Bool.false_and]at h
   exact h _ S.ext
  rw[amk hc,Bool.true_and]at h
  simp only[Bool.or_eq_false_iff,Bool.not_eq_false',gba,decide_eq_false_iff_not]at hc
  obtain⟨⟨⟨_,hto,_⟩,hk5⟩,hste⟩:=hc
  obtain rfl:=htt hto
  have S:=S.go (Ext.drew _)
  refine gg_ ?_
  refine zg (ld (i:=0) S rfl) ?_
  refine S.ldB (b:=b6) ?_ rfl
  refine aec S.holds hss.up (by omega) (λk=>by have:=h8 k;omega) ht2 λqx cx sn w16 e16 n16 hts=>?_
  obtain⟨S,_,_⟩:=S.tell e16 n16
  refine gS_ ?_
  refine gg_ ?_
  have hfb:∀t∈(yy u.ss (zm u.ss g.tys p.to).1).1,isB t=true:=λt ht=>by
   rw[yy]at ht
   split at ht
   ·exact Fine.is (ss:=u.ss) (hf.good _ t ht) h32
   ·cases ht
  have hfl8:(yy u.ss (zm u.ss g.tys p.to).1).1.length≤8:=by
   rw[yy]
   split
   ·exact h8 _
   ·simp
  refine aao (l:=p.args) S.holds hx0.up hst hf (k4.sl.up' inferInstance λc x hx=>OpG.up hx) k4.few (TysG.up hts) (by simp only[maxLen];omega) hfb λw17 e17=>?_
  exact h _ (S.go e17).ext
 refine gg_ ?_
 refine zf (λhop=>?_) (λhop=>?_)
 ·rw[ptG]at h
  simp only[hop,Int.reduceEq,if_false,if_true]at h
  have S:=S.go (Ext.drew _)
  refine S.ldB (b:=b3) ?_ rfl
  refine xy (f:={ to:=true,args:=true,fn:=true }) (by decide) (by decide) S.holds hpr λw14 e14=>?_
  have S:=S.go e14
  refine gg_ ?_
  refine zj (c:=!((zm u.ss g.tys p.to).2.2&&decide ((zm u.ss g.tys p.to).2.1<3))) (λ_ K2 hK2=>by refine gg_ ?_;exact hK2) ?_
  refine zj (c:=decide (p.fn<0)) (λ_ K2 hK2=>by refine gg_ ?_;exact hK2) ?_
  refine zj (c:=decide ((u.fs.length:Int)≤p.fn)) (λ_ K2 hK2=>?_) ?_
  ·refine gg_ ?_
   refine zg (ld (i:=1) S rfl) ?_
   refine gg_ ?_
   exact hK2
  refine c_b (λhc=>?_) (λhc=>?_)
  ·rw[bb5 hc,Bool.false_and]at h
   exact h _ S.ext
  rw[aml hc,Bool.true_and]at h
  simp only[Bool.or_eq_false_iff,Bool.not_eq_false',gba,decide_eq_false_iff_not]at hc
  obtain⟨⟨⟨_,hto,_⟩,hfn0⟩,hfn1⟩:=hc
  obtain rfl:=htt hto
  have hltf:p.fn.toNat<u.fs.length:=by omega
  rw[gqg hltf]at h
  dsimp only at h
  obtain⟨hpn0,hpn1,hff⟩:=hfs _ (gem hltf)
  obtain⟨bf,of,cf,rfl,hcf,hgc,hfo⟩:=hfn.sl.get (by decide) hltf
  generalize u.fs[p.fn.toNat]=f at h hpn0 hpn1 hff hgc
  obtain⟨vo,vt,vn,vp,rfl,m1,m2,m3,m4⟩:=hgc
  obtain⟨qo,capo,rfl,_,_⟩:=m1.sl.shape
  obtain⟨qt2,capt2,rfl,_,hct2⟩:=m2.sl.shape
  obtain⟨qn,capn,rfl,_,_⟩:=m3.sl.shape
  obtain⟨qp,capp,rfl,_,_⟩:=m4.sl.shape
  have hml:=m2.few
  have hml':f.tys.length≤9223372036854775807:=hml
  have S:=S.go (Ext.drew _)
  refine gg_ ?_
  refine zg (ld (i:=1) S rfl) ?_
  refine gg_ ?_
  refine zp (n:=7) hcf (λj v hj=>S.at (hfo j v hj)) ?_
  refine S.alU λb18 w15 S=>?_
  refine S.stB (b:=b18) λw16 S=>?_
  have S:=S.go (Ext.drew _)
  refine gg_ ?_
  have hlen:(f.pn+1).toNat-(1:Int).toNat=((f.tys.drop 1).take f.pn.toNat).length:=by rw[List.length_take,List.length_drop];omega
  rw[hlen]
  have hsub:=(Z0 m2.sl).sub (a:=(1:Int).toNat) (n:=f.pn.toNat) (cap:=capt2) hct2
  have hlst:(f.tys.drop (1:Int).toNat).take f.pn.toNat=(f.tys.drop 1).take f.pn.toNat:=rfl
  rw[hlst]at hsub
  generalize (if capt2=(1:Int).toNat then qt2 else qt2.map (·.add ((1:Int).toNat*5)))=qs2 at hsub⊢
  have hpb:∀t∈(f.tys.drop 1).take f.pn.toNat,isB t=true:=λt ht=>(hff.all t (List.mem_of_mem_drop (List.mem_of_mem_take ht))).is h32
  refine aao (l:=p.args) S.holds hx0.up hst hf (k4.sl.up' inferInstance λc x hx=>OpG.up hx) k4.few (TysG.up hsub) (by rw[List.length_take,List.length_drop];omega) hpb λw17 e17=>?_
  have S:=S.go e17
  have hpos:0<f.tys.length:=by omega
  have hhd:f.tys.headD yc=f.tys[0]:=by rw[List.headD_eq_head?_getD,List.head?_eq_getElem?,gqg hpos,Option.getD_some]
  rw[hhd]at h
  refine zt (c:=zY yr (zm u.ss g.tys p.to).1 f.tys[0]) (λ_ K2 hK2=>?_) λw18 e18=>?_
  ·obtain⟨bt,ot,ct3,rfl,hct3,htc,hto3⟩:=Z0 m2.sl 0 hpos
   obtain⟨q9,cap9,rfl,ht9⟩:=yJ hto3
   refine S.ldB (b:=b6) ?_ rfl
   refine gg_ ?_
   refine zp (n:=5) hct3 (λj v hj=>by simpa using S.at (htc j v hj)) ?_
   exact ali (hBto hto) ((hff.all _ (gem hpos)).is h32) S ht2 ht9.up λw' e'=>hK2 _ e'
  have:=h _ (S.go e18).ext
  rw[Bool.and_comm]at this
  exact this
 refine gg_ ?_
 refine zf (λhop=>?_) (λhop=>?_)
 ·rw[ptG]at h
  simp only[hop,Int.reduceEq,if_false,if_true]at h
  refine S.ldB (b:=b3) ?_ rfl
  refine xy (f:={ to:=true }) (by decide) (by decide) S.holds hpr λw14 e14=>?_
  have S:=S.go e14
  refine zi (c:=(zm u.ss g.tys p.to).2.2&&decide ((zm u.ss g.tys p.to).2.1<3)) (λ_ K2 hK2=>hK2) ?_
  refine zt (c:=isK (zm u.ss g.tys p.to).1 1) (λhb K2 hK2=>?_) λw15 e15=>h _ (S.go e15).ext
  simp only[gba]at hb
  obtain rfl:=htt hb.2.1
  refine S.ldB (b:=b6) ?_ rfl
  exact yb S.holds λw' e'=>hK2 _ e'
 refine gg_ ?_
 refine zf (λhop=>?_) (λhop=>?_)
 ·rw[ptG]at h
  simp only[hop,Int.reduceEq,if_false,if_true]at h
  refine S.ldB (b:=b3) ?_ rfl
  refine xy (f:={ a:=true }) (by decide) (by decide) S.holds hpr λw14 e14=>?_
  have S:=S.go e14
  refine zi (c:=(zr u.ss g.tys p.a).2) (λ_ K2 hK2=>hK2) ?_
  refine zt (c:=isK (zr u.ss g.tys p.a).1 1) (λhb K2 hK2=>?_) λw15 e15=>h _ (S.go e15).ext
  simp only[gba]at hb
  obtain rfl:=hta hb.2
  refine S.ldB (b:=b8) ?_ rfl
  exact yb S.holds λw' e'=>hK2 _ e'
 refine gg_ ?_
 refine zf (λhop=>?_) (λhop=>?_)
 ·rw[ptG]at h
  simp only[hop,Int.reduceEq,if_false,if_true]at h
  have S:=S.go (Ext.drew _)
  refine gg_ ?_
  refine zg (ld (i:=0) S rfl) ?_
  refine S.ldB (b:=b12) ?_ rfl
  refine afs S.holds hss.up (by omega) (λk=>by have:=h8 k;omega) ht11 λw14 e14=>?_
  have S:=S.go e14
  refine gS_ ?_
  refine S.ldB (b:=b3) ?_ rfl
  refine xy (f:={ fr:=true }) (by decide) (by decide) S.holds hpr λw15 e15=>?_
  have S:=S.go e15
  refine zi (c:=(zm u.ss g.tys p.fr).2.2) (λ_ K2 hK2=>hK2) ?_
  refine zi (c:=(qN u.ss tf).1) (λ_ K2 hK2=>hK2) ?_
  refine zt (c:=decide (yK 0 how<2)) (λ_ K2 hK2=>?_) λw16 e16=>?_
  ·refine Zy S.holds hhow (by omega) λw7 e7=>?_
   refine gp_ ?_
   exact hK2 _ e7
  have:=h _ (S.go e16).ext
  cases hfr:(zm u.ss g.tys p.fr).2.2 with
  |false=>
   rw[hfr]at this
   simp only[Bool.and_false,Bool.false_and]at this⊢
   exact this
  |true=>
   rw[htf hfr]at this
   exact this
 refine gg_ ?_
 refine zf (λhop=>?_) (λhop=>?_)
 ·rw[ptG]at h
  simp only[hop,Int.reduceEq,if_false,if_true]at h
  refine S.ldB (b:=b3) ?_ rfl
  refine xy (f:={ fr:=true }) (by decide) (by decide) S.holds hpr λw14 e14=>?_
  have S:=S.go e14
  refine zi (c:=(zm u.ss g.tys p.fr).2.2) (λ_ K2 hK2=>hK2) ?_
  refine zi (c:=decide (0<p.fr.l)) (λ_ K2 hK2=>by refine gg_ ?_;exact hK2) ?_
  refine zi (c:=decide (p.fr.ps.length=0)) (λ_ K2 hK2=>?_) (h _ S.ext)
  refine gg_ ?_
  rw[decide_eq_decide.2 (qB p.fr.ps.length)]
  exact hK2
 refine gg_ ?_
 refine zf (λhop=>?_) (λhop=>?_)
 ·rw[ptG]at h
  simp only[hop,Int.reduceEq,if_false,if_true]at h
  refine S.ldB (b:=b3) ?_ rfl
  refine xy (f:={ a:=true,el:=true }) (by decide) (by decide) S.holds hpr λw14 e14=>?_
  have S:=S.go e14
  refine zi (c:=(zr u.ss g.tys p.a).2) (λ_ K2 hK2=>hK2) ?_
  refine zt (c:=isK (zr u.ss g.tys p.a).1 2) (λhb K2 hK2=>?_) λw15 e15=>?_
  ·simp only[gba]at hb
   obtain rfl:=hta hb.2
   refine S.ldB (b:=b8) ?_ rfl
   exact yb S.holds λw' e'=>hK2 _ e'
  have S:=S.go e15
  refine zi (c:=decide (0≤p.el)) (λ_ K2 hK2=>by refine gg_ ?_;exact hK2) ?_
  refine zi (c:=decide (p.el<(g.pts.length:Int))) (λ_ K2 hK2=>by refine gg_ ?_;exact hK2) ?_
  have:=h _ S.ext
  rw[QN,← Bool.and_assoc]at this
  exact this
 intro K11 hK11
 refine gg_ ?_
 refine qu (c:=decide (p.op=14)) (hK11 _ _ λ_=>?_) λ_ hk=>?_
 rotate_left
 ·refine gg_ ?_;exact hk
 simp only[gdz]
 rw[ptG]at h
 rw[if_neg (by omega),if_neg (by omega),if_neg (by omega),if_neg (by omega),if_neg (by omega),if_neg (by omega),if_neg (by omega),if_neg (by omega),if_neg (by omega),if_neg (by omega),if_neg (by omega),if_neg (by omega)]at h
 refine c_b (λhh=>?_) (λhh=>?_)
 ·have hh:p.op=13∨p.op=14:=by simpa using hh
  rw[if_pos hh]at h
  refine S.ldB (b:=b3) ?_ rfl
  refine xy (f:={}) (by decide) (by decide) S.holds hpr λw14 e14=>?_
  exact h _ (S.go e14).ext
 ·have hh:¬(p.op=13∨p.op=14):=by simpa using hh
  rw[if_neg hh]at h
  exact h _ S.ext
end
end Go.Proofs
