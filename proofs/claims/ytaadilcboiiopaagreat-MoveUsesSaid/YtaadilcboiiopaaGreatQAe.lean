/-
  Contracts and plain laws that the last text leans on.
-/
import Derived.Test.YtaadilcboiiopaaGreatQAb
import Derived.Test.YtaadilcboiiopaaGreatQAd
import Derived.Test.YtaadilcboiiopaaGreatQAa
import Derived.WideKeyRuns
import Derived.Maps.RangeRun
import Derived.Shelf.SlSortCmp.WholeK
import Derived.Test.YtaadilcboiiopaaGreatProg
import Derived.KernelRfl
set_option maxRecDepth 100000
set_option maxHeartbeats 8000000
set_option linter.unusedVariables false
set_option linter.unusedSimpArgs false
namespace Go.Proofs.Tryz
open Go.Sh
section
variable {t0 t1 t2 t3:Value} {w:World} {K:VW}
def aa4(t0 t1 t2:Value)(w:World)(K:VW):Prop:=
 pw w (Instr.box 25 t0) λt3 w1=>
 bt .lss 3 t1 (i6 0) λt16=>za (λK2=>gIf t16 false (fl w1 t3 25 1 23 λt20=>pp (Builtin.len_ #[23] 3 #[t20]) λt21=>bf .geq 3 t1 t21 λt22=>K2 [t22] w1) (K2 [u_] w1)) (λs3 _d4 w5=>
 zd t16 tr_ (s3.getD 0 u_) λt23=>za (λK6=>gIf t23 false (fl w5 t3 25 1 23 λt27=>px 23 t27 t1 λt29=>fl w5 t29 74 6 72 λt31=>pp (Builtin.len_ #[72] 3 #[t31]) λt32=>bf .geq 3 t2 t32 λt33=>K6 [t33] w5) (K6 [u_] w5)) (λs7 _d8 w9=>
 zd t23 tr_ (s7.getD 0 u_) λt34=>za (λK10=>gIf t34 false (lo w9 25 t3 λt36=>ca j3 #[t36] w9 λt37 w14=>
 pp (Op.unary .not t37) λt38=>K10 [t38] w14) (K10 [u_] w9)) (λs11 _d12 w13=>
 zd t34 tr_ (s11.getD 0 u_) λt39=>zc t39 (K (.tuple #[(Value.pointer Option.none),(i6 2)]) w13) (za (λK15=>
 lo w13.drew 25 t3 λt40=>fl w13.drew t3 25 1 23 λt42=>xl w13.drew 23 t42 t1 74 λt45=>pp (Instr.build 90 #[(0,t40),(1,t45)]) λt46=>((pw w13.drew (Instr.box 90 t46) λt47 w19=>
 pw w19 (Instr.alloc 78 true (.tuple #[])) λt8 w20=>
 Ext w19 w20∧
 so w20 78 t8 t47 λw21=>K15 [t8] w21)∧
 (pw w13.drew (Instr.alloc 78 true (.tuple #[])) λt8_23 w22=>
 Ext w13.drew w22∧
 pw w22 (Instr.box 90 t46) λt47_25 w24=>
 so w24 78 t8_23 t47_25 λw26=>K15 [t8_23] w26))) (λs16 _d17 w18=>
 pp (Instr.makeFunc (.func 71) #[] #[(s16.getD 0 u_)]) λt48=>lo w18 78 (s16.getD 0 u_) λt49=>fa t49 90 1 λt51=>fl w18 t51 74 4 70 λt53=>pp (Builtin.len_ #[70] 3 #[t53]) λt54=>zw [(i6 0)] w18 (λs28 _d29 w30 K27=>
 bf .lss 3 (s28.getD 0 u_) t54 λt56=>zc t56 (pp (Instr.build 59 #[(0,(s28.getD 0 u_))]) λt60=>cv t48 #[t60] w30 λ_t61 w31=>
 bt .add 3 (s28.getD 0 u_) (i6 1) λt62=>K27 [t62] w31) (lo w30 78 (s16.getD 0 u_) λt63=>fa t63 90 1 λt65=>fl w30 t65 74 6 72 λt67=>pp (Builtin.len_ #[72] 3 #[t67]) λt68=>zw [(i6 0)] w30 (λs33 _d34 w35 K32=>
 bf .lss 3 (s33.getD 0 u_) t68 λt70=>zc t70 (za (λK36=>
 xl w35 72 t67 (s33.getD 0 u_) 94 λt72=>pw w35 (Instr.alloc 94 true (.tuple #[])) λt12 w40=>
 so w40 94 t12 t72 λw41=>lo w41 94 t12 λt73=>ca y9 #[t73] w41 λt74 w42=>
 pp (Builtin.len_ #[53] 3 #[t74]) λt75=>zw [(i6 0)] w42 (λs44 _d45 w46 K43=>
 bf .lss 3 (s44.getD 0 u_) t75 λt77=>zc t77 (xl w46 53 t74 (s44.getD 0 u_) 61 λt79=>pw w46 (Instr.alloc 61 true (.tuple #[])) λt14 w47=>
 so w47 61 t14 t79 λw48=>fl w48 t14 61 2 59 λt82=>cv t48 #[t82] w48 λ_t83 w49=>
 bt .add 3 (s44.getD 0 u_) (i6 1) λt84=>K43 [t84] w49) (za (λK50=>
 fl w46 t12 94 0 92 λt86=>bt .eql 92 t86 (Value.int .u8 4) λt87=>za (λK54=>gIf t87 false (fl w46 t12 94 0 92 λt90=>bt .eql 92 t90 (Value.int .u8 10) λt91=>K54 [t91] w46) (K54 [u_] w46)) (λs55 _d56 w57=>
 zd t87 tr_ (s55.getD 0 u_) λt92=>za (λK58=>gIf t92 false (fl w57 t12 94 0 92 λt95=>bt .eql 92 t95 (Value.int .u8 11) λt96=>K58 [t96] w57) (K58 [u_] w57)) (λs59 _d60 w61=>
 zd t92 tr_ (s59.getD 0 u_) λt97=>zc t97 (fl w61 t12 94 6 59 λt100=>cv t48 #[t100] w61 λ_t101 w62=>
 K50 [] w62) (K50 [] w61)))) (λ_s51 _d52 w53=>
 lo w53 94 t12 λt102=>ca xQ #[t102] w53 λt103 w63=>
 zc t103 (fl w63 t12 94 1 59 λt106=>cv t48 #[t106] w63 λ_t107 w64=>
 K36 [] w64) (K36 [] w63))))) (λ_s37 _d38 w39=>
 bt .add 3 (s33.getD 0 u_) (i6 1) λt108=>K32 [t108] w39)) (lo w35 78 (s16.getD 0 u_) λt109=>ff w35 t109 90 2 37 λt112=>ca yY #[t112,(Value.func (.func 49) #[] #[])] w35 λ_t113 w65=>
 za (λK66=>
 lo w65.drew 78 (s16.getD 0 u_) λt115=>ff w65.drew t115 90 2 37 λt118=>((pw w65.drew (Instr.loadAt 78 (s16.getD 0 u_)) λt114 w70=>
 Ext w65.drew w70∧
 ca zL #[t118,(Value.func (.func 59) #[] #[])] w70 λt119 w71=>
 fa t114 90 2 λt121=>so w71 37 t121 t119 λw72=>K66 [] w72)∧
 (ca zL #[t118,(Value.func (.func 59) #[] #[])] w65.drew λt119_74 w73=>
 pw w73 (Instr.loadAt 78 (s16.getD 0 u_)) λt114_76 w75=>
 Ext w73 w75∧
 fa t114_76 90 2 λt121_78=>so w75 37 t121_78 t119_74 λw79=>K66 [] w79))) (λ_s67 _d68 w69=>
 lo w69 78 (s16.getD 0 u_) λt122=>ff w69 t122 90 2 37 λt125=>pp (Builtin.len_ #[37] 3 #[t125]) λt126=>bt .gtr 3 t126 (i6 256) λt127=>zc t127 (K (.tuple #[(Value.pointer Option.none),(i6 5)]) w69) (lo w69 78 (s16.getD 0 u_) λt128=>K (.tuple #[t128,(i6 0)]) w69)))))))))))
theorem aea(h:aa4 t0 t1 t2 w K):zb prog xZ #[t0,t1,t2] w K:=
 okC false (.s (.r (rz 3 0 2)) (.s (.s (.r (ra 3 0 0 (.grp 17 false (ri 5 3 16) [22] (ra 2 8 0 (.grp 24 false (ri 9 10 4112) [33] (ra 2 19 0 (.grp 35 false (ri 3 21 9) [38] (rz 1 24 0)))))))) (.c (.s (.r (rz 2 0 0)) (.n)) (.n))) (.j [8] (.r (ra 7 0 1041 (.alt 7 .l (rz 2 8 11) (ra 1 8 3 (ra 1 7 2 (rz 1 9 2)))))) (.s (.r (rz 2 0 0)) (.s (.s (.r (rz 7 0 257)) (.b (.lp [55] (.s (.r (rz 1 0 0)) (.s (.c (.n) (.n)) (.s (.b (.s (.r (rz 2 0 0)) (.r (rz 4 0 128)))) (.r (rz 2 0 0)))))))) (.s (.s (.r (rz 7 0 257)) (.b (.lp [69] (.s (.r (rz 1 0 0)) (.s (.c (.n) (.n)) (.j [] (.b (.s (.r (rz 4 0 164)) (.s (.s (.r (rz 4 0 9)) (.b (.lp [76] (.s (.r (rz 1 0 0)) (.s (.c (.n) (.n)) (.s (.b (.s (.r (rz 4 0 164)) (.r (rz 4 0 144)))) (.r (rz 2 0 0)))))))) (.j [] (.s (.r (ra 4 0 4 (.grp 88 false (ri 3 4 4) [91] (ra 2 7 0 (.grp 93 false (ri 3 9 4) [96] (rz 1 12 0)))))) (.c (.r (rz 4 0 144)) (.n))) (.s (.r (rz 2 0 9)) (.c (.r (rz 4 0 144)) (.n))))))) (.r (rz 2 0 0)))))))) (.s (.r (rz 5 0 577)) (.j [] (.r (ra 4 1 65 (.alt 0 .u (rz 4 5 130) (ra 1 5 2 (ra 1 0 3 (rz 3 6 32)))))) (.s (.s (.r (rz 6 0 65)) (.c (.s (.r (rz 2 0 0)) (.n)) (.n))) (.s (.r (rz 3 0 1)) (.n))))))))))) func41 rfl (by kernel_rfl) (by kernel_rfl) h
def Jo(t0 t1:Value)(w:World)(K:VW):Prop:=
 pw w (Instr.box 59 t0) λt2 w1=>
 lo w1 78 t1 λt6=>lo w1 59 t2 λt7=>ca yU #[t6,t7] w1 λt8 w2=>
 pe t8 0 λt9=>pe t8 1 λ_t10=>pw w2 (Instr.alloc 59 true (.tuple #[])) λt3 w3=>
 so w3 59 t3 t9 λw4=>lo w4.drew 78 t1 λt12=>ff w4.drew t12 90 2 37 λt15=>lo w4.drew 59 t3 λt16=>((pw w4.drew (Instr.loadAt 78 t1) λt11 w5=>
 Ext w4.drew w5∧
 ca xj #[t16] w5 λt17 w6=>
 Ext w5 w6∧
 pw w6 (Builtin.append_ #[37,37] 37 #[t15,t17]) λt18 w7=>
 fa t11 90 2 λt20=>so w7 37 t20 t18 λw8=>K (.tuple #[]) w8)∧
 (ca xj #[t16] w4.drew λt17_10 w9=>
 Ext w4.drew w9∧
 ((pw w9 (Instr.loadAt 78 t1) λt11_12 w11=>
 Ext w9 w11∧
 pw w11 (Builtin.append_ #[37,37] 37 #[t15,t17_10]) λt18_14 w13=>
 fa t11_12 90 2 λt20_16=>so w13 37 t20_16 t18_14 λw17=>K (.tuple #[]) w17)∧
 (pw w9 (Builtin.append_ #[37,37] 37 #[t15,t17_10]) λt18_19 w18=>
 pw w18 (Instr.loadAt 78 t1) λt11_21 w20=>
 Ext w18 w20∧
 fa t11_21 90 2 λt20_23=>so w20 37 t20_23 t18_19 λw24=>K (.tuple #[]) w24))))
theorem acn(h:Jo t0 t1 w K):zb prog Jb #[t0,t1] w K:=
 okC false (.s (.r (rz 1 0 2)) (.s (.r (rz 9 0 40997)) (.r (ra 5 1 321 (.alt 0 .u (rz 5 6 523) (ra 1 6 3 (.alt 0 .u (rz 4 7 130) (ra 1 7 2 (ra 1 0 3 (rz 3 8 32)))))))))) func71 rfl (by kernel_rfl) (by kernel_rfl) h
def Yf(t0:Value)(w:World)(K:VW):Prop:=
 pw w (Instr.box 94 t0) λt1 w1=>
 fl w1 t1 94 2 61 λt4=>fl w1 t1 94 3 61 λt6=>pw w1 (Instr.buildSlice 53 2 #[(0,t4),(1,t6)]) λt7 w2=>
 fl w2 t1 94 4 53 λt9=>pw w2 (Builtin.append_ #[53,53] 53 #[t7,t9]) λt10 w3=>
 ca zy #[t10,(Value.func (.func 89) #[] #[])] w3 λt11 w4=>
 K t11 w4
theorem JZ(h:Yf t0 w K):zb prog y9 #[t0] w K:=
 okC false (.s (.r (rz 2 0 2)) (.s (.r (rz 10 0 168516)) (.n))) func60 rfl (by kernel_rfl) (by kernel_rfl) h
def Zc(t0:Value)(w:World)(K:VW):Prop:=
 pw w (Instr.box 61 t0) λt1 w1=>
 fl w1 t1 61 0 56 λt4=>bt .neq 56 t4 (Value.int .u8 3) λt5=>za (λK2=>gIf t5 true (fl w1 t1 61 0 56 λt8=>bt .neq 56 t8 (Value.int .u8 4) λt9=>K2 [t9] w1) (K2 [u_] w1)) (λs3 _d4 w5=>
 zd t5 (s3.getD 0 u_) fa_ λt10=>K t10 w5)
theorem Qm(h:Zc t0 w K):zb prog vW #[t0] w K:=
 okC false (.s (.r (rz 2 0 2)) (.s (.r (ra 4 0 4 (.grp 6 true (ri 3 4 4) [9] (rz 2 7 0)))) (.n))) func89 rfl (by kernel_rfl) (by kernel_rfl) h
def YU(t0:Value)(w:World)(K:VW):Prop:=
 pw w (Instr.box 94 t0) λt1 w1=>
 fl w1 t1 94 0 92 λt4=>bt .geq 92 t4 (Value.int .u8 1) λt5=>za (λK2=>gIf t5 true (fl w1 t1 94 0 92 λt8=>bt .leq 92 t8 (Value.int .u8 8) λt9=>K2 [t9] w1) (K2 [u_] w1)) (λs3 _d4 w5=>
 zd t5 (s3.getD 0 u_) fa_ λt10=>K t10 w5)
theorem VM(h:YU t0 w K):zb prog xQ #[t0] w K:=
 okC false (.s (.r (rz 2 0 2)) (.s (.r (ra 4 0 4 (.grp 6 true (ri 3 4 4) [9] (rz 2 7 0)))) (.n))) func61 rfl (by kernel_rfl) (by kernel_rfl) h
def ZR(t0 t1:Value)(w:World)(K:VW):Prop:=
 pw w (Instr.box 59 t1) λt3 w1=>
 pw w1 (Instr.alloc 59 true (.tuple #[])) λt4 w2=>
 fl w2 t3 59 1 57 λt9=>pp (Builtin.len_ #[57] 3 #[t9]) λt10=>bt .eql 3 t10 (i6 0) λt11=>zc t11 (lo w2 59 t3 λt12=>so w2 59 t4 t12 λw3=>pq w3 (zf 59 t4) λr4=>K (.tuple #[r4,tr_]) w3) (za (λK5=>
 fa t0 90 0 λt16=>fl w2.drew t16 25 0 22 λt18=>fa t0 90 1 λt21=>fl w2.drew t21 74 4 70 λt23=>fl w2.drew t3 59 0 3 λt25=>fl w2.drew t3 59 0 3 λt27=>bt .add 3 t27 (i6 1) λt28=>pp (Instr.sliceAt 70 t23 (some t25) (some t28) none) λt29=>fl w2.drew t3 59 1 57 λt31=>pp (Instr.build 59 #[(1,t31)]) λt32=>((ca jq #[t18,t29,t32] w2.drew λt33 w9=>
 pe t33 0 λt34=>pe t33 1 λ_t35=>pw w9 (Instr.alloc 59 true (.tuple #[])) λt6 w10=>
 Ext w9 w10∧
 so w10 59 t6 t34 λw11=>K5 [t6] w11)∧
 (pw w2.drew (Instr.alloc 59 true (.tuple #[])) λt6_13 w12=>
 Ext w2.drew w12∧
 ca jq #[t18,t29,t32] w12 λt33_15 w14=>
 pe t33_15 0 λt34_16=>pe t33_15 1 λ_t35_17=>so w14 59 t6_13 t34_16 λw18=>K5 [t6_13] w18))) (λs6 _d7 w8=>
 fl w8 t3 59 0 3 λt37=>pf 59 (s6.getD 0 u_) 0 λt38=>so w8 3 t38 t37 λw19=>lo w19.drew 59 (s6.getD 0 u_) λt39=>pf 59 (s6.getD 0 u_) 1 λt40=>pf 59 t3 1 λt43=>((pw w19.drew (Instr.loadAt 57 t40) λt41 w20=>
 Ext w19.drew w20∧
 pp (Builtin.len_ #[57] 3 #[t41]) λt42=>((pw w20 (Instr.loadAt 57 t43) λt44 w21=>
 Ext w20 w21∧
 pp (Builtin.len_ #[57] 3 #[t44]) λt45=>bf .eql 3 t42 t45 λt46=>so w21 59 t4 t39 λw22=>pq w22 (zf 59 t4) λr23=>K (.tuple #[r23,t46]) w22)∧
 (so w20 59 t4 t39 λw24=>pw w24 (Instr.loadAt 57 t43) λt44_26 w25=>
 Ext w24 w25∧
 pp (Builtin.len_ #[57] 3 #[t44_26]) λt45_27=>bf .eql 3 t42 t45_27 λt46_28=>pq w25 (zf 59 t4) λr29=>K (.tuple #[r29,t46_28]) w25)))∧
 (((pw w19.drew (Instr.loadAt 57 t43) λt44_31 w30=>
 Ext w19.drew w30∧
 pp (Builtin.len_ #[57] 3 #[t44_31]) λt45_32=>((pw w30 (Instr.loadAt 57 t40) λt41_34 w33=>
 Ext w30 w33∧
 pp (Builtin.len_ #[57] 3 #[t41_34]) λt42_35=>bf .eql 3 t42_35 t45_32 λt46_36=>so w33 59 t4 t39 λw37=>pq w37 (zf 59 t4) λr38=>K (.tuple #[r38,t46_36]) w37)∧
 (so w30 59 t4 t39 λw39=>pw w39 (Instr.loadAt 57 t40) λt41_41 w40=>
 Ext w39 w40∧
 pp (Builtin.len_ #[57] 3 #[t41_41]) λt42_42=>bf .eql 3 t42_42 t45_32 λt46_43=>pq w40 (zf 59 t4) λr44=>K (.tuple #[r44,t46_43]) w40)))∧
 (so w19.drew 59 t4 t39 λw45=>((pw w45 (Instr.loadAt 57 t40) λt41_47 w46=>
 Ext w45 w46∧
 pp (Builtin.len_ #[57] 3 #[t41_47]) λt42_48=>pw w46 (Instr.loadAt 57 t43) λt44_50 w49=>
 Ext w46 w49∧
 pp (Builtin.len_ #[57] 3 #[t44_50]) λt45_51=>bf .eql 3 t42_48 t45_51 λt46_52=>pq w49 (zf 59 t4) λr53=>K (.tuple #[r53,t46_52]) w49)∧
 (pw w45 (Instr.loadAt 57 t43) λt44_55 w54=>
 Ext w45 w54∧
 pp (Builtin.len_ #[57] 3 #[t44_55]) λt45_56=>pw w54 (Instr.loadAt 57 t40) λt41_58 w57=>
 Ext w54 w57∧
 pp (Builtin.len_ #[57] 3 #[t41_58]) λt42_59=>bf .eql 3 t42_59 t45_56 λt46_60=>pq w57 (zf 59 t4) λr61=>K (.tuple #[r61,t46_60]) w57))))))))
theorem Q2(h:ZR t0 t1 w K):zb prog yU #[t0,t1] w K:=
 okC false (.s (.r (rz 3 0 10)) (.s (.s (.r (rz 4 0 4)) (.c (.s (.r (rz 3 0 9)) (.n)) (.n))) (.j [6] (.r (ra 19 0 17251434752 (.alt 19 .l (rz 6 20 704) (ra 1 23 3 (ra 4 19 2 (rz 2 24 2)))))) (.s (.r (rz 4 0 132)) (.s (.r (ra 2 0 1 (ra 1 4 0 (.alt 2 .u (ra 1 3 0 (.alt 5 .u (rz 4 6 32) (ra 1 8 2 (ra 3 5 3 (rz 1 9 0))))) (.alt 5 .u (ra 1 6 0 (.alt 2 .u (ra 1 3 0 (rz 3 7 8)) (ra 1 8 2 (ra 2 2 3 (ra 1 7 0 (rz 1 9 0)))))) (ra 1 8 2 (.alt 2 .u (ra 1 3 0 (ra 3 5 3 (rz 1 9 0))) (ra 2 5 3 (ra 2 2 3 (ra 1 7 0 (rz 1 9 0))))))))))) (.n)))))) func47 rfl (by kernel_rfl) (by kernel_rfl) h
def Zd(t0 t1 t2:Value)(w:World)(K:VW):Prop:=
 pw w (Instr.box 59 t1) λt4 w1=>
 ff w1 t0 90 2 37 λt11=>pp (Builtin.len_ #[37] 3 #[t11]) λt12=>zw [(i6 0)] w1 (λs3 _d4 w5 K2=>
 bf .lss 3 (s3.getD 0 u_) t12 λt14=>zc t14 (za (λK6=>
 xl w5 37 t11 (s3.getD 0 u_) 59 λt17=>pw w5 (Instr.alloc 59 true (.tuple #[])) λt7 w10=>
 so w10 59 t7 t17 λw11=>lo w11 59 t4 λt18=>lo w11 59 t7 λt19=>ca yT #[t18,t19] w11 λt20 w12=>
 zc t20 (cv t2 #[(s3.getD 0 u_)] w12 λ_t23 w13=>
 K6 [] w13) (K6 [] w12)) (λ_s7 _d8 w9=>
 bt .add 3 (s3.getD 0 u_) (i6 1) λt24=>K2 [t24] w9)) (K (.tuple #[]) w5))
theorem Qn(h:Zd t0 t1 t2 w K):zb prog zK #[t0,t1,t2] w K:=
 okC false (.s (.r (rz 1 0 2)) (.s (.r (rz 6 0 64)) (.b (.lp [13] (.s (.r (rz 1 0 0)) (.s (.c (.n) (.n)) (.j [] (.b (.s (.r (rz 6 0 2192)) (.s (.r (rz 3 0 37)) (.c (.r (rz 3 0 32)) (.n))))) (.r (rz 2 0 0))))))))) func42 rfl (by kernel_rfl) (by kernel_rfl) h
def YV(t0 t1:Value)(w:World)(K:VW):Prop:=
 pq w (Instr.lookup 82 t0 t1 false) λt6=>bt .add 3 t6 (i6 1) λt7=>pu w (Instr.mapUpdate 82 t0 t1 t7) λw1=>K (.tuple #[]) w1
theorem VN(h:YV t0 t1 w K):zb prog yx #[t0,t1] w K:=
 okC false (.r (rz 5 0 528)) func31 rfl (by kernel_rfl) (by kernel_rfl) h
def Yg(t0 t1:Value)(w:World)(K:VW):Prop:=
 pw w (Builtin.delete_ #[82,3] 0 #[t0,t1]) λ_ w1=>
 K (.tuple #[]) w1
theorem J0(h:Yg t0 t1 w K):zb prog kG #[t0,t1] w K:=
 okC false (.r (rz 3 0 32)) func33 rfl (by kernel_rfl) (by kernel_rfl) h
def Yh(t0:Value)(w:World)(K:VW):Prop:=
 pw w (Instr.range 82 t0) λt6 w1=>
 zw [(Value.slice Option.none 0 0)] w1 (λs3 _d4 w5 K2=>
 pw w5 (Instr.next t6 false 0) λt7 w6=>
 pe t7 0 λt8=>zc t8 (pw w6 (Instr.entry t6) λt9 w7=>
 pe t9 0 λt10=>pw w7 (Instr.buildSlice 26 1 #[(0,t10)]) λt13 w8=>
 pw w8 (Builtin.append_ #[26,26] 26 #[(s3.getD 0 u_),t13]) λt14 w9=>
 K2 [t14] w9) (ca qS #[(s3.getD 0 u_)] w6 λ_t16 w10=>
 K (s3.getD 0 u_) w10))
theorem J1(h:Yh t0 w K):zb prog zX #[t0] w K:=
 okC false (.s (.r (rz 1 0 0)) (.s (.r (rz 1 0 0)) (.s (.s (.r (rz 2 0 8)) (.b (.lp [3] (.s (.r (rz 2 0 2)) (.s (.c (.n) (.n)) (.b (.s (.r (rz 3 0 2)) (.r (rz 5 0 160))))))))) (.s (.r (rz 2 0 8)) (.s (.r (rz 2 0 0)) (.n)))))) func28 rfl (by kernel_rfl) (by kernel_rfl) h
def Qo(t0 t1:Value)(w:World)(K:VW):Prop:=
 pw w (Instr.box 25 t0) λt2 w1=>
 lo w1 25 t2 λt9=>ca xZ #[t9,t1,(i6 (-1))] w1 λt11 w2=>
 pe t11 0 λt12=>pe t11 1 λt13=>bt .neq 29 t13 (i6 0) λt15=>zc t15 (K (.tuple #[(Value.slice Option.none 0 0),t13]) w2) (ff w2 t12 90 2 37 λt20=>K (.tuple #[t20,t13]) w2)
theorem abu(h:Qo t0 t1 w K):zb prog jt #[t0,t1] w K:=
 okC false (.s (.r (rz 3 0 2)) (.s (.r (rz 8 0 33)) (.s (.s (.r (rz 2 0 0)) (.c (.s (.r (rz 3 0 0)) (.n)) (.n))) (.s (.r (rz 7 0 64)) (.n))))) func20 rfl (by kernel_rfl) (by kernel_rfl) h
def Jp(t0 t1 t2:Value)(w:World)(K:VW):Prop:=
 pw w (Instr.box 25 t0) λt3 w1=>
 pw w1 (Instr.box 59 t2) λt5 w2=>
 lo w2 25 t3 λt15=>ca xZ #[t15,t1,(i6 (-1))] w2 λt17 w3=>
 pe t17 0 λt18=>pe t17 1 λt19=>bt .neq 29 t19 (i6 0) λt21=>zc t21 (K (.tuple #[(i6 0),t19]) w3) (fl w3.drew t3 25 0 22 λt24=>fa t18 90 1 λt27=>fl w3.drew t27 74 4 70 λt29=>lo w3.drew 59 t5 λt30=>ca Ym #[t24,t29,t30] w3.drew λt31 w4=>
 pp (Op.unary .not t31) λt32=>zc t32 (K (.tuple #[(i6 0),(i6 2)]) w4) (lo w4 59 t5 λt35=>ca yU #[t18,t35] w4 λt36 w5=>
 pe t36 0 λt37=>pe t36 1 λ_t38=>pw w5 (Instr.alloc 59 true (.tuple #[])) λt10 w6=>
 so w6 59 t10 t37 λw7=>ff w7.drew t18 90 2 37 λt43=>lo w7.drew 59 t10 λt44=>ca zE #[t43,t44,(Value.func (.func 49) #[] #[])] w7.drew λt45 w8=>
 pe t45 0 λt46=>pe t45 1 λt47=>pp (Op.unary .not t47) λt49=>zc t49 (K (.tuple #[(i6 0),(i6 2)]) w8) (K (.tuple #[t46,t19]) w8)))
theorem aco(h:Jp t0 t1 t2 w K):zb prog j5 #[t0,t1,t2] w K:=
 okC false (.s (.r (rz 4 0 10)) (.s (.r (rz 8 0 33)) (.s (.s (.r (rz 2 0 0)) (.c (.s (.r (rz 3 0 0)) (.n)) (.n))) (.s (.s (.r (rz 10 0 151556)) (.c (.s (.r (rz 2 0 0)) (.n)) (.n))) (.s (.r (rz 9 0 40996)) (.s (.r (rz 11 0 2368)) (.s (.s (.r (rz 2 0 0)) (.c (.s (.r (rz 2 0 0)) (.n)) (.n))) (.s (.r (rz 4 0 0)) (.n))))))))) func22 rfl (by kernel_rfl) (by kernel_rfl) h
def Qp(t0 t1 t2:Value)(w:World)(K:VW):Prop:=
 pw w (Instr.box 25 t0) λt3 w1=>
 lo w1 25 t3 λt12=>ca xZ #[t12,t1,(i6 (-1))] w1 λt14 w2=>
 pe t14 0 λt15=>pe t14 1 λt16=>bt .neq 29 t16 (i6 0) λt18=>zc t18 (K (.tuple #[(Value.slice Option.none 0 0),t16]) w2) (bt .lss 3 t2 (i6 0) λt21=>za (λK3=>gIf t21 false (ff w2 t15 90 2 37 λt27=>pp (Builtin.len_ #[37] 3 #[t27]) λt28=>bf .geq 3 t2 t28 λt29=>K3 [t29] w2) (K3 [u_] w2)) (λs4 _d5 w6=>
 zd t21 tr_ (s4.getD 0 u_) λt30=>zc t30 (K (.tuple #[(Value.slice Option.none 0 0),(i6 2)]) w6) (pw w6 (Instr.makeMap 82 none) λt31 w7=>
 ff w7 t15 90 2 37 λt36=>xl w7 37 t36 t2 59 λt39=>pp (Instr.makeFunc (.func 31) #[t31] #[]) λt41=>ca zK #[t15,t39,t41] w7 λ_t42 w8=>
 ca zX #[t31] w8 λt44 w9=>
 K (.tuple #[t44,t16]) w9)))
theorem abv(h:Qp t0 t1 t2 w K):zb prog ju #[t0,t1,t2] w K:=
 okC false (.s (.r (rz 3 0 2)) (.s (.r (rz 8 0 33)) (.s (.s (.r (rz 2 0 0)) (.c (.s (.r (rz 3 0 0)) (.n)) (.n))) (.s (.s (.r (ra 3 0 0 (.grp 22 false (ri 7 3 256) [29] (rz 1 10 0)))) (.c (.s (.r (rz 2 0 0)) (.n)) (.n))) (.s (.r (rz 2 0 2)) (.s (.r (rz 11 0 2113792)) (.s (.r (rz 5 0 8)) (.n)))))))) func17 rfl (by kernel_rfl) (by kernel_rfl) h
def Qq(t0 t1:Value)(w:World)(K:VW):Prop:=
 pw w (Instr.box 25 t0) λt2 w1=>
 lo w1 25 t2 λt11=>ca xZ #[t11,t1,(i6 (-1))] w1 λt13 w2=>
 pe t13 0 λt14=>pe t13 1 λt15=>bt .neq 29 t15 (i6 0) λt17=>zc t17 (K (.tuple #[(Value.slice Option.none 0 0),t15]) w2) (pw w2 (Instr.makeMap 82 none) λt19 w3=>
 fa t14 90 1 λt22=>fl w3 t22 74 4 70 λt24=>pp (Builtin.len_ #[70] 3 #[t24]) λt25=>zw [(i6 0)] w3 (λs5 _d6 w7 K4=>
 bf .lss 3 (s5.getD 0 u_) t25 λt27=>zc t27 (za (λK8=>
 bt .eql 3 (s5.getD 0 u_) (i6 0) λt30=>za (λK12=>gIf t30 false (fa t14 90 1 λt35=>fl w7 t35 74 3 3 λt37=>bf .gtr 3 (s5.getD 0 u_) t37 λt38=>K12 [t38] w7) (K12 [u_] w7)) (λs13 _d14 w15=>
 zd t30 tr_ (s13.getD 0 u_) λt39=>zc t39 (pp (Instr.build 59 #[(0,(s5.getD 0 u_))]) λt42=>pp (Instr.makeFunc (.func 31) #[t19] #[]) λt44=>ca zK #[t14,t42,t44] w15 λ_t45 w16=>
 K8 [] w16) (K8 [] w15))) (λ_s9 _d10 w11=>
 bt .add 3 (s5.getD 0 u_) (i6 1) λt46=>K4 [t46] w11)) (ca zX #[t19] w7 λt48 w17=>
 K (.tuple #[t48,t15]) w17)))
theorem abw(h:Qq t0 t1 w K):zb prog Zw #[t0,t1] w K:=
 okC false (.s (.r (rz 3 0 2)) (.s (.r (rz 8 0 33)) (.s (.s (.r (rz 2 0 0)) (.c (.s (.r (rz 3 0 0)) (.n)) (.n))) (.s (.r (rz 2 0 2)) (.s (.s (.r (rz 7 0 256)) (.b (.lp [26] (.s (.r (rz 1 0 0)) (.s (.c (.n) (.n)) (.j [] (.b (.s (.r (rz 2 0 0)) (.s (.r (ra 3 0 0 (.grp 31 false (ri 7 3 1024) [38] (rz 1 10 0)))) (.c (.r (rz 6 0 2048)) (.n))))) (.r (rz 2 0 0)))))))) (.s (.r (rz 5 0 8)) (.n))))))) func25 rfl (by kernel_rfl) (by kernel_rfl) h
def Ze(t0 t1 t2 t3:Value)(w:World)(K:VW):Prop:=
 pw w (Instr.box 117 t2) λt6 w1=>
 pw w1 (Instr.box 117 t3) λt7 w2=>
 fa t0 90 1 λt18=>fl w2 t18 74 6 72 λt20=>xl w2 72 t20 t1 94 λt23=>pw w2 (Instr.alloc 94 true (.tuple #[])) λt8 w3=>
 so w3 94 t8 t23 λw4=>lo w4 94 t8 λt24=>ca y9 #[t24] w4 λt25 w5=>
 pp (Builtin.len_ #[53] 3 #[t25]) λt26=>zw [(Value.slice Option.none 0 0),(i6 0)] w5 (λs7 _d8 w9 K6=>
 bf .lss 3 (s7.getD 1 u_) t26 λt28=>zc t28 (za (λK10=>
 xl w9 53 t25 (s7.getD 1 u_) 61 λt30=>pw w9 (Instr.alloc 61 true (.tuple #[])) λt11 w14=>
 so w14 61 t11 t30 λw15=>fl w15 t11 61 0 56 λt32=>bt .eql 56 t32 (Value.int .u8 4) λt33=>zc t33 (pp (Instr.makeFunc (.func 84) #[] #[t6,t11]) λt35=>pw w15 (Instr.buildSlice 141 1 #[(0,t35)]) λt36 w16=>
 pw w16 (Builtin.append_ #[141,141] 141 #[(s7.getD 0 u_),t36]) λt37 w17=>
 K10 [t37] w17) (K10 [(s7.getD 0 u_)] w15)) (λs11 _d12 w13=>
 bt .add 3 (s7.getD 1 u_) (i6 1) λt38=>K6 [(s11.getD 0 u_),t38] w13)) (za (λK18=>
 fl w9 t8 94 0 92 λt40=>bt .eql 92 t40 (Value.int .u8 10) λt41=>za (λK22=>gIf t41 false (fl w9 t8 94 0 92 λt44=>bt .eql 92 t44 (Value.int .u8 11) λt45=>K22 [t45] w9) (K22 [u_] w9)) (λs23 _d24 w25=>
 zd t41 tr_ (s23.getD 0 u_) λt46=>zc t46 (pp (Instr.makeFunc (.func 85) #[] #[t6,t8]) λt48=>pw w25 (Instr.buildSlice 141 1 #[(0,t48)]) λt49 w26=>
 pw w26 (Builtin.append_ #[141,141] 141 #[(s7.getD 0 u_),t49]) λt50 w27=>
 K18 [t50] w27) (K18 [(s7.getD 0 u_)] w25))) (λs19 _d20 w21=>
 za (λK28=>
 fl w21 t8 94 1 59 λt54=>ca yU #[t0,t54] w21 λt55 w32=>
 pe t55 0 λt56=>pe t55 1 λt57=>pw w32 (Instr.alloc 59 true (.tuple #[])) λt12 w33=>
 so w33 59 t12 t56 λw34=>lo w34 94 t8 λt58=>ca xQ #[t58] w34 λt59 w35=>
 za (λK36=>gIf t59 true (K36 [t57] w35) (K36 [u_] w35)) (λs37 _d38 w39=>
 zd t59 (s37.getD 0 u_) fa_ λt62=>zc t62 (pp (Instr.makeFunc (.func 86) #[] #[t7,t8]) λt64=>pw w39 (Instr.buildSlice 141 1 #[(0,t64)]) λt65 w40=>
 pw w40 (Builtin.append_ #[141,141] 141 #[(s19.getD 0 u_),t65]) λt66 w41=>
 K28 [t66] w41) (K28 [(s19.getD 0 u_)] w39))) (λs29 _d30 w31=>
 pp (Builtin.len_ #[141] 3 #[(s29.getD 0 u_)]) λt68=>zw [(i6 0)] w31 (λs43 _d44 w45 K42=>
 bf .lss 3 (s43.getD 0 u_) t68 λt70=>zc t70 (xl w45 141 (s29.getD 0 u_) (s43.getD 0 u_) 1 λt72=>cv t72 #[] w45 λ_t74 w46=>
 bt .add 3 (s43.getD 0 u_) (i6 1) λt75=>K42 [t75] w46) (K (.tuple #[]) w45))))))
theorem Qr(h:Ze t0 t1 t2 t3 w K):zb prog qj #[t0,t1,t2,t3] w K:=
 okC false (.s (.r (rz 2 0 10)) (.s (.r (rz 10 0 672000)) (.s (.r (rz 1 0 0)) (.s (.s (.r (rz 4 0 9)) (.b (.lp [9,27] (.s (.r (rz 1 0 0)) (.s (.c (.n) (.n)) (.j [9] (.b (.s (.r (rz 4 0 164)) (.s (.r (rz 3 0 4)) (.c (.r (rz 5 0 160)) (.n))))) (.r (rz 2 0 0)))))))) (.j [9] (.s (.r (ra 4 0 4 (.grp 42 false (ri 3 4 4) [45] (rz 1 7 0)))) (.c (.r (rz 5 0 160)) (.n))) (.j [9] (.s (.r (rz 10 0 163984)) (.s (.r (ra 3 0 9 (.grp 60 true (ri 1 3 0) [61] (rz 1 4 0)))) (.c (.r (rz 5 0 160)) (.n)))) (.s (.r (rz 3 0 0)) (.b (.lp [69] (.s (.r (rz 1 0 0)) (.s (.c (.n) (.n)) (.s (.b (.s (.r (rz 3 0 4)) (.r (rz 2 0 8)))) (.r (rz 2 0 0)))))))))))))) func54 rfl (by kernel_rfl) (by kernel_rfl) h
def jI(t0 t1:Value)(w:World)(K:VW):Prop:=
 lo w 117 t0 λt2=>fl w t1 61 2 59 λt4=>cv t2 #[t4] w λ_t5 w1=>
 K (.tuple #[]) w1
theorem Xi(h:jI t0 t1 w K):zb prog xr #[t0,t1] w K:=
 okC false (.r (rz 4 0 145)) func84 rfl (by kernel_rfl) (by kernel_rfl) h
def jJ(t0 t1:Value)(w:World)(K:VW):Prop:=
 lo w 117 t0 λt2=>fl w t1 94 6 59 λt4=>cv t2 #[t4] w λ_t5 w1=>
 K (.tuple #[]) w1
theorem Xj(h:jJ t0 t1 w K):zb prog xt #[t0,t1] w K:=
 okC false (.r (rz 4 0 145)) func85 rfl (by kernel_rfl) (by kernel_rfl) h
def jK(t0 t1:Value)(w:World)(K:VW):Prop:=
 lo w 117 t0 λt2=>fl w t1 94 1 59 λt4=>cv t2 #[t4] w λ_t5 w1=>
 K (.tuple #[]) w1
theorem Xk(h:jK t0 t1 w K):zb prog xu #[t0,t1] w K:=
 okC false (.r (rz 4 0 145)) func86 rfl (by kernel_rfl) (by kernel_rfl) h
def ZS(t0 t1:Value)(w:World)(K:VW):Prop:=
 pw w (Instr.box 78 t0) λt2 w1=>
 pw w1 (Instr.alloc 82 true (.tuple #[])) λt4 w2=>
 pw w2 (Instr.alloc 82 true (.tuple #[])) λt5 w3=>
 pw w3 (Instr.makeMap 82 none) λt6 w4=>
 pw w4 (Instr.makeMap 82 none) λt7 w5=>
 so w5 82 t4 t6 λw6=>so w6 82 t5 t7 λw7=>lo w7 78 t2 λt8=>pp (Instr.makeFunc (.func 55) #[] #[t2,t4,t5]) λt10=>pp (Instr.makeFunc (.func 56) #[] #[t2,t4,t5]) λt11=>ca qj #[t8,t1,t10,t11] w7 λ_t12 w8=>
 lo w8.drew 82 t4 λt13=>((pw w8.drew (Instr.loadAt 82 t5) λt14 w9=>
 Ext w8.drew w9∧
 so w9 82 t4 t13 λw10=>so w10 82 t5 t14 λw11=>pq w11 (zf 82 t4) λr12=>pq w11 (zf 82 t5) λr13=>K (.tuple #[r12,r13]) w11)∧
 (so w8.drew 82 t4 t13 λw14=>pw w14 (Instr.loadAt 82 t5) λt14_16 w15=>
 Ext w14 w15∧
 so w15 82 t5 t14_16 λw17=>pq w17 (zf 82 t4) λr18=>pq w17 (zf 82 t5) λr19=>K (.tuple #[r18,r19]) w17))
theorem Q3(h:ZS t0 t1 w K):zb prog ka #[t0,t1] w K:=
 okC false (.s (.r (rz 3 0 42)) (.s (.r (rz 4 0 170)) (.s (.r (rz 5 0 513)) (.s (.r (ra 1 0 1 (.alt 1 .u (rz 2 2 10) (ra 1 2 2 (ra 1 1 3 (rz 1 3 2)))))) (.n))))) func27 rfl (by kernel_rfl) (by kernel_rfl) h
def vD(t0 t1 t2 t3:Value)(w:World)(K:VW):Prop:=
 pw w (Instr.box 59 t0) λt4 w1=>
 lo w1 78 t1 λt5=>lo w1 59 t4 λt6=>lo w1 82 t2 λt7=>pp (Instr.makeFunc (.func 31) #[t7] #[]) λt8=>ca zK #[t5,t6,t8] w1 λ_t9 w2=>
 lo w2 78 t1 λt10=>lo w2 59 t4 λt11=>lo w2 82 t3 λt12=>pp (Instr.makeFunc (.func 33) #[t12] #[]) λt13=>ca zK #[t10,t11,t13] w2 λ_t14 w3=>
 K (.tuple #[]) w3
theorem XL(h:vD t0 t1 t2 t3 w K):zb prog kN #[t0,t1,t2,t3] w K:=
 okC false (.s (.r (rz 1 0 2)) (.s (.r (rz 5 0 533)) (.r (rz 5 0 533)))) func55 rfl (by kernel_rfl) (by kernel_rfl) h
def vE(t0 t1 t2 t3:Value)(w:World)(K:VW):Prop:=
 pw w (Instr.box 59 t0) λt4 w1=>
 lo w1 78 t1 λt5=>lo w1 59 t4 λt6=>lo w1 82 t2 λt7=>pp (Instr.makeFunc (.func 33) #[t7] #[]) λt8=>ca zK #[t5,t6,t8] w1 λ_t9 w2=>
 lo w2 78 t1 λt10=>lo w2 59 t4 λt11=>lo w2 82 t3 λt12=>pp (Instr.makeFunc (.func 31) #[t12] #[]) λt13=>ca zK #[t10,t11,t13] w2 λ_t14 w3=>
 K (.tuple #[]) w3
theorem XM(h:vE t0 t1 t2 t3 w K):zb prog kO #[t0,t1,t2,t3] w K:=
 okC false (.s (.r (rz 1 0 2)) (.s (.r (rz 5 0 533)) (.r (rz 5 0 533)))) func56 rfl (by kernel_rfl) (by kernel_rfl) h
def aa5(t0 t1 t2:Value)(w:World)(K:VW):Prop:=
 pw w (Instr.box 25 t0) λt3 w1=>
 bt .lss 3 t2 (i6 0) λt9=>zc t9 (K (.tuple #[(Value.pointer Option.none),(i6 2)]) w1) (lo w1 25 t3 λt10=>ca xZ #[t10,t1,t2] w1 λt13 w2=>
 pe t13 0 λt14=>pe t13 1 λt15=>K (.tuple #[t14,t15]) w2)
theorem aeb(h:aa5 t0 t1 t2 w K):zb prog qW #[t0,t1,t2] w K:=
 okC false (.s (.r (rz 3 0 2)) (.s (.s (.r (rz 2 0 0)) (.c (.s (.r (rz 2 0 0)) (.n)) (.n))) (.s (.r (rz 8 0 129)) (.n)))) func26 rfl (by kernel_rfl) (by kernel_rfl) h
def Jq(t0 t1 t2:Value)(w:World)(K:VW):Prop:=
 pw w (Instr.box 25 t0) λt3 w1=>
 lo w1 25 t3 λt13=>ca qW #[t13,t1,t2] w1 λt16 w2=>
 pe t16 0 λt17=>pe t16 1 λt18=>bt .neq 29 t18 (i6 0) λt20=>zc t20 (K (.tuple #[(Value.slice Option.none 0 0),(Value.slice Option.none 0 0),t18]) w2) (ca ka #[t17,t2] w2 λt25 w3=>
 pe t25 0 λt26=>pe t25 1 λt27=>ca zX #[t26] w3 λt29 w4=>
 ca zX #[t27] w4 λt31 w5=>
 K (.tuple #[t29,t31,t18]) w5)
theorem acp(h:Jq t0 t1 t2 w K):zb prog Yn #[t0,t1,t2] w K:=
 okC false (.s (.r (rz 4 0 2)) (.s (.r (rz 9 0 129)) (.s (.s (.r (rz 2 0 0)) (.c (.s (.r (rz 4 0 0)) (.n)) (.n))) (.s (.r (rz 8 0 32)) (.s (.r (rz 8 0 136)) (.n)))))) func8 rfl (by kernel_rfl) (by kernel_rfl) h
def ZT(t0 t1 t2:Value)(w:World)(K:VW):Prop:=
 pw w (Instr.box 78 t0) λt3 w1=>
 pw w1 (Instr.box 88 t2) λt5 w2=>
 lo w2 78 t3 λt11=>fa t11 90 1 λt13=>fl w2 t13 74 6 72 λt15=>xl w2 72 t15 t1 94 λt18=>pw w2 (Instr.alloc 94 true (.tuple #[])) λt6 w3=>
 so w3 94 t6 t18 λw4=>pw w4 (Instr.makeMap 82 none) λt19 w5=>
 pw w5 (Instr.alloc 82 true (.tuple #[])) λt7 w6=>
 so w6 82 t7 t19 λw7=>pp (Instr.makeFunc (.func 58) #[] #[t3,t5,t7]) λt20=>lo w7 94 t6 λt21=>ca y9 #[t21] w7 λt22 w8=>
 pp (Builtin.len_ #[53] 3 #[t22]) λt23=>zw [(i6 0)] w8 (λs10 _d11 w12 K9=>
 bf .lss 3 (s10.getD 0 u_) t23 λt25=>zc t25 (za (λK13=>
 xl w12 53 t22 (s10.getD 0 u_) 61 λt27=>pw w12 (Instr.alloc 61 true (.tuple #[])) λt10 w17=>
 so w17 61 t10 t27 λw18=>fl w18 t10 61 2 59 λt30=>cv t20 #[t30,fa_] w18 λ_t31 w19=>
 fl w19 t10 61 0 56 λt33=>bt .eql 56 t33 (Value.int .u8 4) λt34=>zc t34 (lo w19 78 t3 λt35=>fl w19 t10 61 2 59 λt37=>lo w19 82 t7 λt38=>pp (Instr.makeFunc (.func 31) #[t38] #[]) λt39=>ca zK #[t35,t37,t39] w19 λ_t40 w20=>
 K13 [] w20) (K13 [] w19)) (λ_s14 _d15 w16=>
 bt .add 3 (s10.getD 0 u_) (i6 1) λt41=>K9 [t41] w16)) (za (λK21=>
 fl w12 t6 94 0 92 λt44=>bt .eql 92 t44 (Value.int .u8 4) λt45=>zc t45 (fl w12 t6 94 6 59 λt48=>cv t20 #[t48,fa_] w12 λ_t49 w25=>
 K21 [] w25) (fl w12 t6 94 0 92 λt52=>bt .eql 92 t52 (Value.int .u8 14) λt53=>zc t53 (pp (Instr.build 59 #[]) λt55=>cv t20 #[t55,fa_] w12 λ_t56 w26=>
 K21 [] w26) (K21 [] w12))) (λ_s22 _d23 w24=>
 lo w24 94 t6 λt57=>ca xQ #[t57] w24 λt58 w27=>
 zc t58 (fl w27 t6 94 1 59 λt61=>cv t20 #[t61,tr_] w27 λ_t62 w28=>
 K (.tuple #[]) w28) (K (.tuple #[]) w27))))
theorem Q4(h:ZT t0 t1 t2 w K):zb prog kb #[t0,t1,t2] w K:=
 okC false (.s (.r (rz 2 0 10)) (.s (.r (rz 10 0 672001)) (.s (.r (rz 3 0 42)) (.s (.r (rz 2 0 0)) (.s (.s (.r (rz 4 0 9)) (.b (.lp [24] (.s (.r (rz 1 0 0)) (.s (.c (.n) (.n)) (.j [] (.b (.s (.r (rz 4 0 164)) (.s (.r (rz 4 0 144)) (.s (.r (rz 3 0 4)) (.c (.r (rz 6 0 2129)) (.n)))))) (.r (rz 2 0 0)))))))) (.j [] (.b (.s (.r (rz 4 0 4)) (.c (.r (rz 4 0 144)) (.s (.r (rz 4 0 4)) (.c (.r (rz 3 0 32)) (.n)))))) (.s (.r (rz 2 0 9)) (.c (.r (rz 4 0 144)) (.n))))))))) func29 rfl (by kernel_rfl) (by kernel_rfl) h
def vF(t0 t1 t2 t3 t4:Value)(w:World)(K:VW):Prop:=
 pw w (Instr.box 59 t0) λt5 w1=>
 lo w1 78 t2 λt13=>lo w1 59 t5 λt14=>ca yU #[t13,t14] w1 λt15 w2=>
 pe t15 0 λt16=>pe t15 1 λt17=>pw w2 (Instr.alloc 59 true (.tuple #[])) λt7 w3=>
 so w3 59 t7 t16 λw4=>lo w4 78 t2 λt18=>ff w4 t18 90 2 37 λt21=>pp (Builtin.len_ #[37] 3 #[t21]) λt22=>zw [(i6 0)] w4 (λs6 _d7 w8 K5=>
 bf .lss 3 (s6.getD 0 u_) t22 λt24=>zc t24 (za (λK9=>
 xl w8 37 t21 (s6.getD 0 u_) 59 λt27=>pw w8 (Instr.alloc 59 true (.tuple #[])) λt10 w13=>
 so w13 59 t10 t27 λw14=>za (λK15=>gIf t17 true (lo w14 59 t10 λt30=>lo w14 59 t5 λt31=>ca jr #[t30,t31] w14 λt32 w19=>
 K15 [t32] w19) (K15 [u_] w14)) (λs16 _d17 w18=>
 zd t17 (s16.getD 0 u_) fa_ λt33=>lo w18 59 t10 λt34=>lo w18 59 t7 λt35=>ca yT #[t34,t35] w18 λt36 w20=>
 za (λK21=>gIf t36 true (K21 [t1] w20) (K21 [u_] w20)) (λs22 _d23 w24=>
 za (λK25=>gIf (s22.getD 0 u_) true (K25 [t33] w24) (K25 [u_] w24)) (λs26 _d27 w28=>
 za (λK29=>gIf t36 true (zd (s22.getD 0 u_) (s26.getD 0 u_) fa_ λt41=>pp (Op.unary .not t41) λt42=>K29 [t42] w28) (K29 [u_] w28)) (λs30 _d31 w32=>
 zd t36 (s30.getD 0 u_) fa_ λt43=>za (λK33=>gIf t43 false (pp (Op.unary .not t1) λt46=>K33 [t46] w32) (K33 [u_] w32)) (λs34 _d35 w36=>
 za (λK37=>gIf (s34.getD 0 u_) true (K37 [t17] w36) (K37 [u_] w36)) (λs38 _d39 w40=>
 za (λK41=>gIf t43 false (zd (s34.getD 0 u_) (s38.getD 0 u_) fa_ λt49=>K41 [t49] w40) (K41 [u_] w40)) (λs42 _d43 w44=>
 za (λK45=>gIf (s42.getD 0 u_) true (lo w44 59 t5 λt51=>lo w44 59 t10 λt52=>ca yT #[t51,t52] w44 λt53 w49=>
 K45 [t53] w49) (K45 [u_] w44)) (λs46 _d47 w48=>
 za (λK50=>gIf t43 false (zd (s42.getD 0 u_) (s46.getD 0 u_) fa_ λt54=>K50 [t54] w48) (K50 [u_] w48)) (λs51 _d52 w53=>
 zd t43 tr_ (s51.getD 0 u_) λt55=>zc t55 (lo w53 88 t3 λt56=>lo w53 82 t4 λt58=>cv t56 #[(s6.getD 0 u_),t58] w53 λ_t59 w54=>
 K9 [] w54) (K9 [] w53))))))))))) (λ_s10 _d11 w12=>
 bt .add 3 (s6.getD 0 u_) (i6 1) λt60=>K5 [t60] w12)) (K (.tuple #[]) w8))
theorem XN{t4:Value}(h:vF t0 t1 t2 t3 t4 w K):zb prog vw #[t0,t1,t2,t3,t4] w K:=
 okC false (.s (.r (rz 1 0 2)) (.s (.r (rz 9 0 40997)) (.s (.r (rz 6 0 65)) (.b (.lp [23] (.s (.r (rz 1 0 0)) (.s (.c (.n) (.n)) (.j [] (.b (.s (.r (rz 6 0 2192)) (.s (.r (ra 2 0 0 (.grp 29 true (ri 3 2 37) [32] (rz 2 5 0)))) (.s (.r (ra 4 0 37 (.grp 37 true (ri 2 4 0) [39] (.grp 39 true (ri 1 6 0) [40] (.grp 37 true (ri 2 7 0) [42] (ra 2 9 0 (.grp 44 false (ri 3 11 0) [47] (.grp 47 true (ri 1 14 0) [48] (.grp 44 false (ri 2 15 0) [50] (.grp 50 true (ri 3 17 37) [53] (.grp 44 false (ri 1 20 0) [54] (rz 1 21 0)))))))))))) (.c (.r (rz 4 0 145)) (.n)))))) (.r (rz 2 0 0)))))))))) func58 rfl (by kernel_rfl) (by kernel_rfl) h
def Jr(t0 t1 t2:Value)(w:World)(K:VW):Prop:=
 pw w (Instr.box 25 t0) λt3 w1=>
 lo w1 25 t3 λt12=>ca qW #[t12,t1,t2] w1 λt15 w2=>
 pe t15 0 λt16=>pe t15 1 λt17=>bt .neq 29 t17 (i6 0) λt19=>zc t19 (K (.tuple #[(Value.slice Option.none 0 0),t17]) w2) (pw w2 (Instr.makeMap 82 none) λt21 w3=>
 pw w3 (Instr.alloc 82 true (.tuple #[])) λt10 w4=>
 so w4 82 t10 t21 λw5=>pp (Instr.makeFunc (.func 30) #[] #[t10]) λt24=>ca kb #[t16,t2,t24] w5 λ_t25 w6=>
 lo w6 82 t10 λt26=>ca zX #[t26] w6 λt27 w7=>
 K (.tuple #[t27,t17]) w7)
theorem acq(h:Jr t0 t1 t2 w K):zb prog j6 #[t0,t1,t2] w K:=
 okC false (.s (.r (rz 3 0 2)) (.s (.r (rz 9 0 129)) (.s (.s (.r (rz 2 0 0)) (.c (.s (.r (rz 3 0 0)) (.n)) (.n))) (.s (.r (rz 3 0 42)) (.s (.r (rz 4 0 128)) (.s (.r (rz 5 0 9)) (.n))))))) func9 rfl (by kernel_rfl) (by kernel_rfl) h
def XA(t0 _t1 t2:Value)(w:World)(K:VW):Prop:=
 lo w 82 t2 λt5=>ca yx #[t5,t0] w λ_t7 w1=>
 K (.tuple #[]) w1
theorem aaA(h:XA t0 t1 t2 w K):zb prog vN #[t0,t1,t2] w K:=
 okC false (.r (rz 3 0 33)) func30 rfl (by kernel_rfl) (by kernel_rfl) h
def Qs(t0 t1 t2:Value)(w:World)(K:VW):Prop:=
 pw w (Instr.box 25 t0) λt3 w1=>
 lo w1 25 t3 λt13=>ca qW #[t13,t1,t2] w1 λt16 w2=>
 pe t16 0 λt17=>pe t16 1 λt18=>bt .neq 29 t18 (i6 0) λt20=>zc t20 (K (.tuple #[(i6 0),fa_,t18]) w2) (pw w2 (Instr.makeMap 82 none) λt22 w3=>
 pw w3 (Instr.alloc 82 true (.tuple #[])) λt10 w4=>
 so w4 82 t10 t22 λw5=>pp (Instr.makeFunc (.func 32) #[] #[t10]) λt25=>ca kb #[t17,t2,t25] w5 λ_t26 w6=>
 lo w6 82 t10 λt27=>ca zX #[t27] w6 λt28 w7=>
 pp (Builtin.len_ #[26] 3 #[t28]) λt30=>bt .gtr 3 t30 (i6 0) λt31=>zc t31 (xl w7 26 t28 (i6 0) 3 λt34=>K (.tuple #[t34,tr_,t18]) w7) (K (.tuple #[(i6 0),fa_,t18]) w7))
theorem abx(h:Qs t0 t1 t2 w K):zb prog Zx #[t0,t1,t2] w K:=
 okC false (.s (.r (rz 4 0 2)) (.s (.r (rz 9 0 129)) (.s (.s (.r (rz 2 0 0)) (.c (.s (.r (rz 4 0 0)) (.n)) (.n))) (.s (.r (rz 3 0 42)) (.s (.r (rz 4 0 128)) (.s (.s (.r (rz 3 0 9)) (.s (.r (rz 3 0 0)) (.c (.s (.r (rz 7 0 16)) (.n)) (.n)))) (.s (.r (rz 4 0 0)) (.n)))))))) func10 rfl (by kernel_rfl) (by kernel_rfl) h
def YW(t0 t1 t2:Value)(w:World)(K:VW):Prop:=
 pq w (Instr.lookup 82 t1 t0 false) λt7=>bt .gtr 3 t7 (i6 0) λt8=>zc t8 (lo w 82 t2 λt9=>ca yx #[t9,t0] w λ_t11 w1=>
 K (.tuple #[]) w1) (K (.tuple #[]) w)
theorem VO(h:YW t0 t1 t2 w K):zb prog jN #[t0,t1,t2] w K:=
 okC false (.s (.r (rz 4 0 16)) (.c (.r (rz 3 0 33)) (.n))) func32 rfl (by kernel_rfl) (by kernel_rfl) h
def XB(t0 t1 t2 t3:Value)(w:World)(K:VW):Prop:=
 pw w (Instr.box 25 t0) λt4 w1=>
 lo w1 25 t4 λt20=>ca qW #[t20,t1,t2] w1 λt23 w2=>
 pe t23 0 λt24=>pe t23 1 λt25=>bt .neq 29 t25 (i6 0) λt27=>zc t27 (K (.tuple #[(Value.slice Option.none 0 0),t25]) w2) (pw w2 (Instr.makeMap 82 none) λt29 w3=>
 pp (Builtin.len_ #[26] 3 #[t3]) λt31=>zw [(i6 0)] w3 (λs5 _d6 w7 K4=>
 bf .lss 3 (s5.getD 0 u_) t31 λt33=>zc t33 (xl w7 26 t3 (s5.getD 0 u_) 3 λt36=>bt .lss 3 t36 (i6 0) λt38=>za (λK8=>gIf t38 false (ff w7 t24 90 2 37 λt44=>pp (Builtin.len_ #[37] 3 #[t44]) λt45=>bf .geq 3 t36 t45 λt46=>K8 [t46] w7) (K8 [u_] w7)) (λs9 _d10 w11=>
 zd t38 tr_ (s9.getD 0 u_) λt47=>za (λK12=>gIf t47 false (bt .gtr 3 (s5.getD 0 u_) (i6 0) λt50=>K12 [t50] w11) (K12 [u_] w11)) (λs13 _d14 w15=>
 za (λK16=>gIf (s13.getD 0 u_) true (bt .sub 3 (s5.getD 0 u_) (i6 1) λt54=>xl w15 26 t3 t54 3 λt56=>bf .geq 3 t56 t36 λt58=>K16 [t58] w15) (K16 [u_] w15)) (λs17 _d18 w19=>
 za (λK20=>gIf t47 false (zd (s13.getD 0 u_) (s17.getD 0 u_) fa_ λt59=>K20 [t59] w19) (K20 [u_] w19)) (λs21 _d22 w23=>
 zd t47 tr_ (s21.getD 0 u_) λt60=>zc t60 (K (.tuple #[(Value.slice Option.none 0 0),(i6 2)]) w23) (ca yx #[t29,t36] w23 λ_t63 w24=>
 bt .add 3 (s5.getD 0 u_) (i6 1) λt64=>K4 [t64] w24)))))) (ca ka #[t24,t2] w7 λt68 w25=>
 pe t68 0 λt69=>pe t68 1 λt70=>pw w25 (Instr.range 82 t69) λt72 w26=>
 zw [] w26 (λ_s28 _d29 w30 K27=>
 pw w30 (Instr.next t72 false 0) λt73 w31=>
 pe t73 0 λt74=>zc t74 (pw w31 (Instr.entry t72) λt75 w32=>
 pe t75 0 λt76=>ca yx #[t29,t76] w32 λ_t79 w33=>
 K27 [] w33) (pw w31 (Instr.range 82 t70) λt81 w34=>
 zw [] w34 (λ_s36 _d37 w38 K35=>
 pw w38 (Instr.next t81 false 0) λt82 w39=>
 pe t82 0 λt83=>zc t83 (pw w39 (Instr.entry t81) λt84 w40=>
 pe t84 0 λt85=>ca kG #[t29,t85] w40 λ_t88 w41=>
 K35 [] w41) (ca zX #[t29] w39 λt90 w42=>
 K (.tuple #[t90,t25]) w42)))))))
theorem aaB(h:XB t0 t1 t2 t3 w K):zb prog vO #[t0,t1,t2,t3] w K:=
 okC false (.s (.r (rz 3 0 2)) (.s (.r (rz 9 0 129)) (.s (.s (.r (rz 2 0 0)) (.c (.s (.r (rz 3 0 0)) (.n)) (.n))) (.s (.r (rz 2 0 2)) (.s (.s (.r (rz 3 0 0)) (.b (.lp [32] (.s (.r (rz 1 0 0)) (.s (.c (.n) (.n)) (.s (.b (.s (.r (rz 5 0 16)) (.s (.s (.r (ra 3 0 0 (.grp 39 false (ri 7 3 256) [46] (ra 2 10 0 (.grp 48 false (ri 3 12 0) [51] (.grp 51 true (ri 7 15 256) [58] (.grp 48 false (ri 1 22 0) [59] (rz 1 23 0)))))))) (.c (.s (.r (rz 2 0 0)) (.n)) (.n))) (.r (rz 3 0 32))))) (.r (rz 2 0 0)))))))) (.s (.r (rz 8 0 32)) (.s (.s (.r (rz 2 0 8)) (.b (.lp [] (.s (.r (rz 2 0 2)) (.s (.c (.n) (.n)) (.b (.s (.r (rz 3 0 2)) (.r (rz 3 0 32))))))))) (.s (.s (.r (rz 2 0 8)) (.b (.lp [] (.s (.r (rz 2 0 2)) (.s (.c (.n) (.n)) (.b (.s (.r (rz 3 0 2)) (.r (rz 3 0 32))))))))) (.s (.r (rz 5 0 8)) (.n)))))))))) func11 rfl (by kernel_rfl) (by kernel_rfl) h
def YX(t0:Value)(w:World)(K:VW):Prop:=
 bt .geq 3 t0 (i6 2) λt4=>K t4 w
theorem VP(h:YX t0 w K):zb prog YD #[t0] w K:=
 okC false (.s (.r (rz 1 0 0)) (.s (.r (rz 3 0 0)) (.n))) func106 rfl (by kernel_rfl) (by kernel_rfl) h
def yJ(t0 t1:Value)(w:World)(K:VW):Prop:=
 pp (Builtin.len_ #[37] 3 #[t0]) λt9=>bt .lss 3 t9 (i6 2) λt10=>zc t10 (K t0 w) (zw [(i6 1)] w (λs2 _d3 w4 K1=>
 pp (Builtin.len_ #[37] 3 #[t0]) λt14=>bf .lss 3 (s2.getD 0 u_) t14 λt15=>zc t15 (xl w4.drew 37 t0 (s2.getD 0 u_) 59 λt22=>bt .sub 3 (s2.getD 0 u_) (i6 1) λt25=>xl w4.drew 37 t0 t25 59 λt27=>cv t1 #[t22,t27] w4.drew λt28 w5=>
 zc t28 (pp (Instr.sliceAt 37 t0 (some (s2.getD 0 u_)) none none) λt31=>zw [(s2.getD 0 u_),(i6 1)] w5 (λs7 _d8 w9 K6=>
 pp (Builtin.len_ #[37] 3 #[t31]) λt34=>bf .lss 3 (s7.getD 1 u_) t34 λt35=>zc t35 (za (λK10=>
 xl w9.drew 37 t31 (s7.getD 1 u_) 59 λt42=>bt .sub 3 (s7.getD 1 u_) (i6 1) λt45=>xl w9.drew 37 t31 t45 59 λt47=>cv t1 #[t42,t47] w9.drew λt48 w14=>
 pp (Op.unary .not t48) λt49=>zc t49 (xl w14 37 t31 (s7.getD 1 u_) 59 λt55=>px 37 t0 (s7.getD 0 u_) λt56=>so w14 59 t56 t55 λw15=>bt .add 3 (s7.getD 0 u_) (i6 1) λt58=>K10 [t58] w15) (K10 [(s7.getD 0 u_)] w14)) (λs11 _d12 w13=>
 bt .add 3 (s7.getD 1 u_) (i6 1) λt37=>K6 [(s11.getD 0 u_),t37] w13)) (pp (Instr.sliceAt 37 t0 (some (s7.getD 0 u_)) none none) λt61=>pw w9 (Builtin.clear_ #[37] 0 #[t61]) λ_ w16=>
 pp (Instr.sliceAt 37 t0 none (some (s7.getD 0 u_)) none) λt64=>K t64 w16))) (bt .add 3 (s2.getD 0 u_) (i6 1) λt17=>K1 [t17] w5)) (K t0 w4)))
theorem xX(h:yJ t0 t1 w K):zb prog zL #[t0,t1] w K:=
 okC false (.s (.r (rz 1 0 0)) (.s (.s (.r (rz 3 0 0)) (.c (.s (.r (rz 2 0 0)) (.n)) (.n))) (.s (.s (.r (rz 1 0 0)) (.b (.lp [5] (.s (.s (.r (rz 4 0 0)) (.c (.n) (.n))) (.s (.b (.s (.r (rz 11 0 2359552)) (.c (.s (.r (rz 4 0 0)) (.s (.s (.r (rz 1 0 0)) (.b (.lp [5,7] (.s (.s (.r (rz 4 0 0)) (.c (.n) (.n))) (.j [5] (.b (.s (.r (rz 12 0 2359552)) (.c (.s (.r (rz 8 0 33792)) (.r (rz 3 0 0))) (.n)))) (.r (rz 3 0 0))))))) (.s (.r (rz 4 0 128)) (.s (.r (rz 4 0 0)) (.n))))) (.n)))) (.r (rz 3 0 0))))))) (.s (.r (rz 2 0 0)) (.n))))) func74 rfl (by kernel_rfl) (by kernel_rfl) h
def zY(t0 t1 t2:Value)(w:World)(K:VW):Prop:=
 pw w (Instr.box 59 t1) λt4 w1=>
 pp (Builtin.len_ #[37] 3 #[t0]) λt13=>zw [(i6 0),t13] w1 (λs3 _d4 w5 K2=>
 bf .lss 3 (s3.getD 0 u_) (s3.getD 1 u_) λt17=>zc t17 (bf .add 3 (s3.getD 0 u_) (s3.getD 1 u_) λt20=>pp (convert 3 137 t20) λt21=>bt .shr 137 t21 (Value.int .u64 1) λt22=>pp (convert 137 3 t22) λt23=>xl w5.drew 37 t0 t23 59 λt28=>lo w5.drew 59 t4 λt29=>cv t2 #[t28,t29] w5.drew λt30 w6=>
 bt .lss 3 t30 (i6 0) λt31=>zc t31 (bt .add 3 t23 (i6 1) λt33=>K2 [t33,(s3.getD 1 u_)] w6) (K2 [(s3.getD 0 u_),t23] w6)) (bf .lss 3 (s3.getD 0 u_) t13 λt38=>za (λK7=>gIf t38 true (xl w5.drew 37 t0 (s3.getD 0 u_) 59 λt44=>lo w5.drew 59 t4 λt45=>cv t2 #[t44,t45] w5.drew λt46 w11=>
 bt .eql 3 t46 (i6 0) λt47=>K7 [t47] w11) (K7 [u_] w5.drew)) (λs8 _d9 w10=>
 zd t38 (s8.getD 0 u_) fa_ λt48=>K (.tuple #[(s3.getD 0 u_),t48]) w10)))
theorem yW(h:zY t0 t1 t2 w K):zb prog zE #[t0,t1,t2] w K:=
 okC false (.s (.r (rz 3 0 2)) (.s (.r (rz 3 0 0)) (.s (.r (rz 3 0 0)) (.s (.b (.lp [9,10] (.s (.s (.r (rz 3 0 0)) (.c (.n) (.n))) (.b (.s (.r (rz 7 0 0)) (.s (.r (rz 8 0 9472)) (.c (.r (rz 3 0 0)) (.r (rz 2 0 0))))))))) (.s (.r (ra 5 0 0 (.grp 39 true (ri 8 5 9472) [47] (rz 3 13 0)))) (.n)))))) func48 rfl (by kernel_rfl) (by kernel_rfl) h
end
end Go.Proofs.Tryz
namespace Go.Proofs
open Go.Sh Go.RowKit
section
section
variable {σ:Type} {X:Nat→Prop} {w0:World} {r ρ:Gh} {fv:Value} {Lc:σ→List Asr} {J:σ→List CnD→Prop} {u:UnD} {g:GrD} {q a:Int} {b5 b6 b8 b9 b10:Nat}
theorem aa6{P:Program}{t e:TypeId}{n:Nat}{p:Option Addr}{len cap:Nat}{kd:IntKind}{i:Int}{K:Value→Prop}(h:slT P t=some (e,n))(h0:0≤i)(h1:i≤cap)
  (k:K (.slice p i.toNat i.toNat)):opP P (Instr.sliceAt t (.slice p len cap) none (some (.int kd i)) (some (.int kd i))) K:=by
 refine yB (λw=>?_) k
 unfold slT at h
 cases hu:P.underlying t with
 |none=>rw [hu]at h;cases h
 |some d=>
  rw[hu]at h
  cases d<;>first|cases h|skip
  rename_i e'
  simp only[Option.map_eq_some_iff,Prod.mk.injEq]at h
  obtain⟨m,hs,rfl,rfl⟩:=h
  cases p with
  |none=>simp [Instr.sliceAt,Instr.slice,Instr.sliceBounds,Instr.sliceBound,asIntOf,Sem.run_bind,zr hu,Result.andThen,Sem.run,pure,h0,h1,Int.max_eq_left h0,zM hs]
  |some a=>simp [Instr.sliceAt,Instr.slice,Instr.sliceBounds,Instr.sliceBound,asIntOf,Sem.run_bind,zr hu,Result.andThen,Sem.run,pure,h0,h1,Int.max_eq_left h0,zM hs,Addr.add]
theorem acr{ρ:Gh}{q1:Option Addr}{c1 n:Nat}{ps:List Int}(h:SlB 1 ρ yN (.slice q1 ps.length c1) ps)(hn:n≤ps.length):SlB 1 ρ yN (.slice q1 n n) (ps.take n):=by
 obtain⟨⟨p',cap',hE,h2,h3,h4⟩,h5⟩:=h
 cases hE
 have hl:(ps.take n).length=n:=by rw[List.length_take];omega
 refine⟨⟨q1,n,by rw[hl],λe=>?_,by omega,λi hi=>?_⟩,by omega⟩
 ·have:=h2 e;omega
 ·obtain⟨c,k1,k2,k3⟩:=h4 i (by omega)
  exact⟨c,k1,k2,by rw[List.getElem_take];exact k3⟩
end
end
end Go.Proofs
namespace Go.Sh
open Go.RowKit Go.MapKept
def Born(l:List MapEntry)(c:Nat):Prop:=l.Pairwise (λa b=>a.born<b.born)∧∀m∈l,m.born<c
theorem Born.nil{c:Nat}:Born [] c:=⟨.nil,λm hm=>by cases hm⟩
theorem Born.push{l:List MapEntry}{c:Nat}{k v:Value}(h:Born l c):Born (l++[{ key:=k,val:=v,born:=c }]) (c+1):=by
 refine⟨List.pairwise_append.2 ⟨h.1,List.pairwise_singleton _ _,λa ha b hb=>?_⟩,λm hm=>?_⟩
 ·rw[List.mem_singleton.1 hb];exact h.2 a ha
 ·rw[List.mem_append,List.mem_singleton]at hm
  rcases hm with hm|rfl
  ·have:=h.2 m hm;omega
  ·exact Nat.lt_succ_self c
theorem Born.mod{l:List MapEntry}{c j:Nat}{f:MapEntry→MapEntry}(h:Born l c)(hf:∀m,(f m).born=m.born):Born (l.modify j f) c:=by
 have e:(l.modify j f).map (·.born)=l.map (·.born):=by
  refine List.ext_getElem (by simp) λi h1 h2=>?_
  simp only[List.getElem_map,List.getElem_modify]
  split
  ·exact hf _
  ·rfl
 have key:∀{l:List MapEntry},l.Pairwise (λa b=>a.born<b.born)↔(l.map (·.born)).Pairwise (· < ·):=fun {l}=>List.pairwise_map.symm
 refine⟨key.2 (by rw[e];exact key.1 h.1),λm hm=>?_⟩
 have :m.born∈(l.modify j f).map (·.born):=List.mem_map.2 ⟨m,hm,rfl⟩
 rw[e]at this
 obtain⟨m',hm',he⟩:=List.mem_map.1 this
 have:=h.2 m' hm'
 omega
end Go.Sh
namespace Go.Proofs
open Go.Sh
theorem Yi{ss:List StD}{tys:List TyD}{p:PlD}{x:TyD×List Int}(h:zO ss tys p=some x):x.2.length=p.ps.length:=by
 unfold zO at h
 split at h
 ·exact Qb h
 ·cases h
end Go.Proofs
namespace Go.Proofs.Tryz
open Go.Sh
def xp(t0 t1:Value)(w:World)(K:VW):Prop:=
 pp (Builtin.len_ #[57] 3 #[t0]) λt7=>pp (Builtin.len_ #[57] 3 #[t1]) λt9=>bf .neq 3 t7 t9 λt10=>zc t10 (K fa_ w) (pp (Builtin.len_ #[57] 3 #[t0]) λt12=>zw [(i6 0)] w (λs2 _d3 w4 K1=>
 bf .lss 3 (s2.getD 0 u_) t12 λt14=>zc t14 (xl w4.drew 57 t0 (s2.getD 0 u_) 76 λt19=>xl w4.drew 57 t1 (s2.getD 0 u_) 76 λt23=>bf .neq 76 t19 t23 λt24=>zc t24 (K fa_ w4.drew) (bt .add 3 (s2.getD 0 u_) (i6 1) λt25=>K1 [t25] w4.drew)) (K tr_ w4)))
theorem qD{t0 t1:Value}{w:World}{K:VW}(h:xp t0 t1 w K):zb prog yu #[t0,t1] w K:=
 okC false (.s (.r (rz 1 0 0)) (.s (.s (.r (rz 5 0 0)) (.c (.s (.r (rz 1 0 0)) (.n)) (.n))) (.s (.s (.r (rz 3 0 0)) (.b (.lp [13] (.s (.r (rz 1 0 0)) (.s (.c (.n) (.n)) (.s (.b (.s (.r (rz 2 0 0)) (.s (.r (rz 9 0 16448)) (.c (.s (.r (rz 1 0 0)) (.n)) (.n))))) (.r (rz 2 0 0)))))))) (.s (.r (rz 1 0 0)) (.n))))) func50 rfl (by kernel_rfl) (by kernel_rfl) h
end Go.Proofs.Tryz
namespace Go.Proofs
open Go.Sh Go.RowKit
section
def prefP(p q:PlD):Bool:=decide (p.l=q.l)&&(decide (p.ps.length≤q.ps.length)&&decide (p.ps=q.ps.take p.ps.length))
theorem ac3{l m:List Int}{v vm:Value}{w:World}{r:Gh}{K:Value→World→Prop}(hr:Holds r w)(hl:SlB 1 r yN v l)(hm:SlB 1 r yN vm m)(h:∀w',Ext w w'→K (.bool (decide (l=m))) w'):zb Tryz.prog Tryz.yu #[v,vm] w K:=by
 refine Tryz.qD ?_
 unfold Tryz.xp
 have hlf:=hl.lt
 have hmf:=hm.lt
 obtain⟨p,cap,rfl,_,_⟩:=hl.sl.shape
 obtain⟨pm,cm,rfl,_,_⟩:=hm.sl.shape
 have S:=St.start hr
 refine gg_ ?_
 refine zh (λhne=>?_) (λheq=>?_)
 ·have:=h _ S.ext
  have hn:¬l=m:=λe=>hne (by rw[e])
  rwa[decide_eq_false hn]at this
 have heq:l.length=m.length:=by omega
 refine gg_ ?_
 refine zj (ι:=Nat) (λi=>[.int .i64 (i:Nat)]) (λi w'=>i≤l.length∧(∀k (h1:k<l.length) (h2:k<m.length),k<i→l[k]=m[k])∧StX noX w r w' []) (λi=>l.length-i) 0 rfl ⟨gzl _,λk _ _ h0=>absurd h0 (Nat.not_lt_zero _),S⟩ ?_
 repeat clear S
 rintro i d w6 ⟨hi,hno,S⟩ K4 hK4
 rw[gdz]
 refine gp_ ?_
 refine zh (λhlt=>?_) (λhge=>?_)
 ·have hlt:i<l.length:=by omega
  have hlt2:i<m.length:=by omega
  have S:=S.go (Ext.drew _)
  obtain⟨b,off,hE,_,hc⟩:=adn hl.sl hlt
  obtain⟨b2,off2,hE2,_,hc2⟩:=adn hm.sl hlt2
  subst hE
  subst hE2
  refine gg_ ?_
  refine zi (by rw[tnc];exact S.at hc) ?_
  refine gg_ ?_
  refine zi (by rw[tnc];exact S.at hc2) ?_
  refine gp_ ?_
  refine zh (λhb=>?_) (λhb=>?_)
  ·have:=h _ S.ext
   have hne:¬l=m:=λe=>by subst e;exact hb rfl
   rwa[decide_eq_false hne]at this
  ·refine gp_ ?_
   refine hK4 (i+1) _ ⟨hlt,λk h1 h2 hk=>?_,S⟩ (by omega)
   rcases Nat.lt_or_ge k i with h|h
   ·exact hno k h1 h2 h
   ·obtain rfl:k=i:=by omega
    exact Decidable.not_not.1 hb
 ·have hil:i=l.length:=by omega
  have:=h _ S.ext
  have hy:l=m:=List.ext_getElem heq λk h1 h2=>hno k h1 h2 (by omega)
  rwa[gde hy]at this
theorem k7{p q:PlD}{c d:List Value}{w:World}{r:Gh}{K:Value→World→Prop}(hr:Holds r w)(hp:PlG r c p)(hq:PlG r d q)(h:∀w',Ext w w'→K (.bool (prefP p q)) w'):zb Tryz.prog Tryz.yT #[.agg c.toArray,.agg d.toArray] w K:=by
 refine Tryz.VD ?_
 unfold Tryz.YQ
 obtain⟨v,rfl,hl⟩:=hp
 obtain⟨v2,rfl,hm⟩:=hq
 have hl0:=hl;have hm0:=hm
 have hlf:=hl.lt
 have hmf:=hm.lt
 obtain⟨x,cx,rfl,_,_⟩:=hl.sl.shape
 obtain⟨y,cy,rfl,_,hcy⟩:=hm.sl.shape
 have S:=St.start hr
 refine S.box λb2 w1 S=>?_
 refine S.box λb3 w2 S=>?_
 have S:=S.go (Ext.drew _)
 have S:StX noX w r _ [.cell b3 [.int .i64 q.l,.slice y q.ps.length cy] 59,.cell b2 [.int .i64 p.l,.slice x p.ps.length cx] 59]:=S
 refine gg_ ?_
 refine zo (c:=decide ((p.ps.length:Int)≤(q.ps.length:Int))) (λ_ K2 hK2=>by refine gg_ ?_;exact hK2) ?_
 refine zU (c:=decide (p.ps=q.ps.take p.ps.length)) (λhb K2 hK2=>?_) λw4 e4=>?_
 ·simp only[gba,gdt]at hb
  refine gg_ ?_
  refine aa6 (e:=76) (n:=1) (p:=y) (i:=(p.ps.length:Int)) (by kernel_rfl) (by omega) (by omega) ?_
  rw[tnc]
  refine ac3 S.holds hl0 (acr hm0 (by omega)) λw4 e4=>hK2 _ e4
 have:=h _ (S.go e4).ext
 rwa[prefP,show decide (p.ps.length≤q.ps.length)=decide ((p.ps.length:Int)≤(q.ps.length:Int))by rw[decide_eq_decide];omega,← Bool.and_assoc]at this
section
variable {ss:List StD} {tys:List TyD} {p q:PlD} {d:Int}
theorem jW(hst:(zA ss).2=0)(hf:xO ss tys)(h0:0≤p.l)(hl:p.l.toNat<tys.length):zO ss tys p=if p.ps.length≤8 then zG ss p.ps tys[p.l.toNat]else none:=by
 have hall:(tys.all λt=>yC ss t)=true:=List.all_eq_true.2 λt ht=>by
  rw[yC,gde hst,Bool.true_and];exact hf.all _ ht
 have hg:tys.getD p.l.toNat yq=tys[p.l.toNat]:=by rw[ggd,gqg hl];rfl
 have ho:y8 ss tys p=decide (p.ps.length≤8):=by
  rw[y8,gde h0,gde (show p.l<tys.length by omega),gde hst,hall];simp
 rw[zO,ho,hg]
 by_cases h:p.ps.length≤8
 ·rw[if_pos (gde h),if_pos h]
 ·rw[if_neg (by simpa using h),if_neg h]
theorem ZU(hst:(zA ss).2=0)(hf:xO ss tys)(h0:0≤p.l)(hl:p.l.toNat<tys.length):zO ss [tys[p.l.toNat]] ⟨0,p.ps⟩=zO ss tys p:=by
 rw[jW hst hf h0 hl]
 exact aa3 hst (by rw[yC,gde hst,Bool.true_and];exact hf.all _ (gem hl))
theorem J2(h:(zO ss tys p).isSome=true):0≤p.l∧p.l.toNat<tys.length:=by
 unfold zO at h
 split at h
 ·rename_i ho
  simp only[y8,gba,gdt]at ho
  exact⟨ho.1.1.1,by omega⟩
 ·cases h
theorem Zn(hst:(zA ss).2=0)(hf:xO ss tys):(zC ss tys p).2.2=(zO ss tys p).isSome:=by
 rw[Bool.eq_iff_iff,afi hst hf]
 constructor
 ·rintro⟨h0,hl,x,hx,_⟩
  rw[← ZU hst hf h0 hl,hx];rfl
 ·intro h
  obtain⟨h0,hl⟩:=J2 h
  obtain⟨x,hx⟩:=Option.isSome_iff_exists.1 h
  refine⟨h0,hl,x,by rw[ZU hst hf h0 hl,hx],?_⟩
  rw[jW hst hf h0 hl]at hx
  split at hx
  ·rename_i h8
   unfold zC
   rw[if_neg (by omega),gqg hl]
   show(match goG ss p.ps (tys[p.l.toNat],0) with|some s=>(s.1,s.2,decide (p.ps.length≤8))|none=>(yq,0,false))=_
   rw[JY _ _ _ (Int.le_refl _),hx]
   show(x.1,QO 0 x.2,decide (p.ps.length≤8))=_
   rw[gde h8]
  ·cases hx
end
def jX(p:PlD)(n:Nat):PlD:=⟨p.l,p.ps.take n⟩
def qu(p:PlD):List PlD:=(List.range (p.ps.length+1)).map (jX p)
def holdN(l:List Int):Nat:=(l.takeWhile λk=>decide (k<2)).length
noncomputable def heldW(ss:List StD)(tys:List TyD)(p:PlD):PlD:=match zO ss tys p with
 |some x=>jX p (holdN x.2)
 |none=>p
theorem Xl{l:List Int}:holdN l≤l.length:=(List.takeWhile_sublist _).length_le
theorem J3{p:PlD}:(qu p).length=p.ps.length+1:=by simp[qu]
theorem agf{l:List Int}{i:Nat}(hi:i<l.length)(h:∀x∈l.take i,x<2)(h2:2≤l[i]):holdN l=i:=by
 have e:l=l.take i++l[i]::l.drop (i+1):=by rw[← List.drop_eq_getElem_cons hi,List.take_append_drop]
 have e2:l.takeWhile (λk=>decide (k<2))=l.take i:=by
  conv=>lhs;rw[e]
  rw[List.takeWhile_append_of_pos (λx hx=>gde (h x hx)),List.takeWhile_cons_of_neg (by simpa using h2),List.append_nil]
 rw[holdN,e2,List.length_take];omega
theorem afl{l:List Int}(h:∀x∈l,x<2):holdN l=l.length:=by
 have:=List.takeWhile_append_of_pos (l₁:=l) (l₂:=[]) (p:=λk:Int=>decide (k<2)) λx hx=>gde (h x hx)
 rw[List.append_nil,List.takeWhile_nil,List.append_nil]at this
 rw[holdN,this]
theorem Js{p:PlD}{c:List Value}{n:Int}{w:World}{r:Gh}{K:Value→World→Prop}(hr:Holds r w)(hp:PlG r c p)(h0:0≤n)(hn:n≤p.ps.length)(hb:p.ps.length≤1000000)
  (h:∀v s w',Ext w w'→New w s w'→SlB 1 s yN v (p.ps.take n.toNat)→K (.agg #[.int .i64 p.l,v]) w'):zb Tryz.prog Tryz.j4 #[.agg c.toArray,.int .i64 n] w K:=by
 refine Tryz.ace ?_
 unfold Tryz.Jj
 obtain⟨v,rfl,hl⟩:=hp
 obtain⟨qs,caps,rfl,_,hcap⟩:=hl.sl.shape
 have S:=St.start hr
 refine S.box λb1 w1 S=>?_
 have S:StX noX w r w1 [.cell b1 [.int .i64 p.l,.slice qs p.ps.length caps] 59]:=S
 refine S.al λb2 w2 S=>?_
 have S:=S.go (Ext.drew _)
 refine gg_ ?_
 refine aa6 (e:=76) (n:=1) (p:=qs) (i:=n) (by kernel_rfl) (by omega) (by omega) ?_
 have hlt:(p.ps.take n.toNat).length=n.toNat:=by rw[List.length_take];omega
 have hs:=acr hl (n:=n.toNat) (by omega)
 rw[← hlt]at hs⊢
 refine Jl (l:=p.ps.take n.toNat) S.holds (by rw[hlt]at hs⊢;exact hs) (by omega) λv3 s w3 e3 n3 h3=>⟨e3,?_⟩
 obtain⟨S,d3,a3⟩:=S.tell e3 n3
 obtain⟨q3,c3,rfl,_,_⟩:=h3.sl.shape
 refine zu (cs:=#[.int .i64 p.l,.slice q3 (p.ps.take n.toNat).length c3]) (by kernel_rfl) ?_
 refine S.stB (b:=b2) λw4 S=>?_
 refine S.ceB (b:=b2) ?_ rfl
 exact h _ s _ S.ext (S.newOf a3) h3
theorem J4{p:PlD}{c:List Value}{w:World}{r:Gh}{K:Value→World→Prop}(hr:Holds r w)(hp:PlG r c p)(hb:p.ps.length≤100000)
  (h:∀v s xs w',Above w s→StX noX w (r.or s) w' [.row v 59 2 (qu p).length xs]→RowOf 2 (PlG s) xs (qu p)→K v w'):zb Tryz.prog Tryz.xj #[.agg c.toArray] w K:=by
 refine Tryz.QZ ?_
 unfold Tryz.ZM
 have hp0:=hp
 obtain⟨v,rfl,hl⟩:=hp
 obtain⟨qs,caps,rfl,_,hcap⟩:=hl.sl.shape
 have S:=St.start hr
 refine S.box λb1 w1 S=>?_
 have S:StX noX w r w1 [.cell b1 [.int .i64 p.l,.slice qs p.ps.length caps] 59]:=S
 refine gg_ ?_
 have S:=(S.ownNil 59 2).less (q:=r.or nothing) (λb o h=>Or.elim h id λh=>h.elim) (List.Sublist.refl _)
 refine zj (ι:=Nat×Value) (λi=>[i.2,.int .i64 (i.1:Nat)]) (λi w'=>i.1≤p.ps.length+1∧∃s xs,Above w s∧RowOf 2 (PlG s) xs ((List.range i.1).map (jX p))∧StX noX w (r.or s) w' [.row i.2 59 2 i.1 xs,.cell b1 [.int .i64 p.l,.slice qs p.ps.length caps] 59]) (λi=>p.ps.length+1-i.1) (0,.slice none 0 0) rfl ⟨gzl _,nothing,[],Above.no,RowOf.nil,S⟩ ?_
 clear S
 rintro⟨i,v⟩ d w5 ⟨hi,s,xs,ha,hx,S⟩ K2 hK2
 simp only at hi hx S⊢
 simp only[gdz,gds]
 refine gp_ ?_
 refine zh (λhlt=>?_) (λhge=>?_)
 ·have hlt:i<p.ps.length+1:=by omega
  refine S.ldB (b:=b1) ?_ rfl
  refine Js S.holds (PlG.up hp0) (by omega) (by omega) (by omega) λv3 s3 w3 e3 n3 h3=>?_
  obtain⟨S,_,a3⟩:=S.tell e3 n3
  have S:=S.reGh
  rw[tnc]at h3
  obtain⟨q3,c3,rfl,_,_⟩:=h3.sl.shape
  refine S.lit (e:=59) (cs:=[.int .i64 p.l,.slice q3 (p.ps.take i).length c3]) (by kernel_rfl) λb4 w4 S=>?_
  refine S.ap (v:=v) (m':=1) (Sl.blk (S.blk b4)) (λv5 w5 S=>?_) (by omega)
  have S:=S.drop b4
  refine gp_ ?_
  rw[show ((i:Int)+1)=((i+1:Nat):Int)by omega]
  refine hK2 (i+1,v5) _ ⟨hlt,s.or s3,_,ha.or' a3,?_,S⟩ (by show p.ps.length+1-(i+1)<p.ps.length+1-i;omega)
  rw[List.range_succ,List.map_append]
  exact(hx.mono λc x hx=>PlG.up hx).snoc rfl ⟨_,rfl,h3.cells⟩
 ·obtain rfl:i=p.ps.length+1:=by omega
  exact h v s xs _ ha (by rw[J3];exact S.d2) hx
abbrev ahJ:Value:=.func (.func Tryz.YD) #[] #[]
theorem J5{l:List Int}{v:Value}{w:World}{r:Gh}{K:Value→World→Prop}(hr:Holds r w)(hl:SlG 1 r kB v l)(hf:l.length≤maxLen)
  (h:K (.int .i64 (if holdN l=l.length then -1 else(holdN l:Int))) w):zb Tryz.prog Tryz.z7 #[v,ahJ] w K:=by
 refine Tryz.x6 ?_
 unfold Tryz.xd
 obtain⟨p,cap,rfl,_,_⟩:=hl.shape
 have hf:l.length≤9223372036854775807:=hf
 refine gp_ ?_
 refine zj (ι:=Nat) (λi=>[.int .i64 (i:Nat)]) (λi w'=>w'=w∧i≤l.length∧∀x∈l.take i,x<2) (λi=>l.length-i) 0 rfl ⟨rfl,gzl _,by simp⟩ ?_
 rintro i d w' ⟨rfl,hi,hn⟩ K1 hK1
 rw[gdz]
 refine gp_ ?_
 refine zh (λhlt=>?_) (λhge=>?_)
 ·have hlt:i<l.length:=by omega
  obtain⟨b,off,rfl,_,hc⟩:=kx hl hlt
  refine gp_ ?_
  refine zi (by rw[tnc];exact hc _ hr) ?_
  refine abD (by kernel_rfl) ?_
  refine Tryz.VP ?_
  unfold Tryz.YX
  refine gp_ ?_
  refine zh (λh2=>?_) (λh2=>?_)
  ·rw[agf hlt hn h2,if_neg (by omega)]at h;exact h
  ·refine gp_ ?_
   refine hK1 (i+1) _ ⟨rfl,hlt,λx hx=>?_⟩ (by omega)
   rw[List.take_succ_eq_append_getElem hlt,List.mem_append,List.mem_singleton]at hx
   rcases hx with hx|rfl
   ·exact hn x hx
   ·omega
 ·have :i=l.length:=by omega
  subst this
  rw[List.take_length]at hn
  rw[if_pos (afl hn)]at h
  exact h
theorem Qt{ss:List StD}{tys:List TyD}{p:PlD}{x:TyD×List Int}{c:List Value}{p0 q:Option Addr}{cap0 capt:Nat}{w:World}{r:Gh}{K:Value→World→Prop}(hr:Holds r w)(hs:StG r p0 ss)(ht:TysG r q tys)(htl:tys.length≤maxLen)(hp:PlG r c p)(hx:zO ss tys p=some x)
  (h:∀v s w',Ext w w'→New w s w'→SlB 1 s yN v (p.ps.take (holdN x.2))→K (.tuple #[.agg #[.int .i64 p.l,v],.int .i64 0]) w'):
  zb Tryz.prog Tryz.jq #[.slice p0 ss.length cap0,.slice q tys.length capt,.agg c.toArray] w K:=by
 refine Tryz.abo ?_
 unfold Tryz.X7
 have hp0:=hp
 obtain⟨v,rfl,hl⟩:=hp
 obtain⟨qs,caps,rfl,_,hcap⟩:=hl.sl.shape
 have hlen:=Yi hx
 have hb8:p.ps.length≤8:=by
  unfold zO at hx
  split at hx
  ·rename_i ho
   simp only[y8,gba,gdt]at ho
   exact ho.1.2
  ·cases hx
 have S:=St.start hr
 refine S.box λb5 w1 S=>?_
 have S:StX noX w r w1 [.cell b5 [.int .i64 p.l,.slice qs p.ps.length caps] 59]:=S
 refine S.al λb6 w2 S=>?_
 refine S.ldB (b:=b5) ?_ rfl
 refine Qc S.holds hs ht htl hp0 (λw3 hn _=>by rw[hx]at hn;cases hn) λt g qa ca vg s w3 hg e3 n3 h4 hsg=>?_
 obtain⟨S,_,a3⟩:=S.tell e3 n3
 rw[hx]at hg
 cases hg
 simp only at hlen h
 obtain⟨pg,cg,rfl,_,hcg⟩:=hsg.shape
 refine gS_ ?_
 refine S.al λb8 w4 S=>?_
 refine S.stB (b:=b8) λw5 S=>?_
 refine gp_ ?_
 refine c_f rfl ?_
 have hsg2:SlG 1 (r.or s) kB (.slice pg g.length cg) g:=hsg.cells
 refine J5 S.holds hsg2 (by rw[maxLen];omega) ?_
 refine zs (λy w'=>y=[.int .i64 (holdN g)]∧w'=w5) (λK9 hK9=>?_) ?_
 ·refine gp_ ?_
  have hle:=Xl (l:=g)
  by_cases he:holdN g=g.length
  ·rw[if_pos he]
   refine c_t (by decide) ?_
   refine gp_ ?_
   exact hK9 _ _ ⟨by rw[he],rfl⟩
  ·rw[if_neg he]
   refine c_f (decide_eq_false (by omega)) ?_
   exact hK9 _ _ ⟨rfl,rfl⟩
 ·rintro _ w12 ⟨rfl,rfl⟩ d
  rw[gdz]
  refine S.ldB (b:=b5) ?_ rfl
  have hle:=Xl (l:=g)
  refine Js S.holds (PlG.up hp0) (by omega) (by omega) (by omega) λv13 s2 w13 e13 n13 h13=>?_
  obtain⟨S,_,a13⟩:=S.tell e13 n13
  rw[tnc]at h13
  obtain⟨q3,c3,rfl,_,_⟩:=h13.sl.shape
  refine S.stB (b:=b6) λw14 S=>?_
  refine S.ceB (b:=b6) ?_ rfl
  exact h _ s2 _ S.ext (S.newOf a13) h13
end
end Go.Proofs
namespace Go.Proofs
open Go.Sh
section
variable {l:List OpD} {c:List Value} {w:World} {r:Gh} {K:Value→World→Prop} {L:List Asr}
def agh(keep:OpD→Bool)(fv:Value):Prop:=∀{o:OpD}{c:List Value}{w0 w:World}{r:Gh}{L:List Asr}{K:Value→World→Prop},StX noX w0 r w L→OpG r c o→(∀w',StX noX w0 r w' L→K (.bool (!keep o)) w')→zx Tryz.prog fv #[.agg c.toArray] w K
def k8(o:OpD):Bool:=decide (o.k=3)||decide (o.k=4)
def zk(p:PtD):List OpD:=(p.a::p.b::p.args).filter k8
theorem aiM:agh k8 (.func (.func Tryz.vW) #[] #[]):=fun {o c w0 w r L K} S ho h=>by
 refine abD (by kernel_rfl) ?_
 refine Tryz.Qm ?_
 unfold Tryz.Zc
 obtain⟨q,k,rfl⟩:=je ho
 refine S.box λb1 w1 S=>?_
 have S:StX noX w0 r w1 (.cell b1 [.int .u8 o.k,.int .i64 o.n,.int .i64 o.pl.l,.slice q o.pl.ps.length k] 61::L):=S
 refine gg_ ?_
 refine zo (c:=decide (o.k≠4)) (λ_ K2 hK2=>by refine gg_ ?_;exact hK2) ?_
 have:=h _ S.tl
 have e:(!k8 o)=(decide (o.k≠3)&&decide (o.k≠4)):=by
  by_cases h3:o.k=3<;>by_cases h4:o.k=4<;>simp [k8,h3,h4]
 rwa[e]at this
theorem acs{keep:OpD→Bool}{o:OpD}(h:keep o=false):[o].filter keep=[]:=by simp[h]
theorem afm{keep:OpD→Bool}{o:OpD}(h:keep o=true):[o].filter keep=[o]:=by simp[h]
theorem Yw{keep:OpD→Bool}(h:∀o∈l,keep o=true):l.filter keep=l:=List.filter_eq_self.2 h
theorem VQ{keep:OpD→Bool}{fv:Value}(hfv:agh keep fv){b n cap:Nat}{w0:World}{K:Value→World→Prop}(S:StX noX w0 r w (.cell b c 61::L))(hn:n=l.length)(hb:n≤1000000)
  (hrow:∀(i:Nat)(hi:i<l.length),OpG r (yE c i) l[i])
  (h:∀(i:Int) w',StX noX w0 r w' (.cell b c 61::L)→(i = -1∧(∀o∈l,keep o=true))∨(∃j:Nat,i=j∧∃hj:j<l.length,keep l[j]=false∧∀o∈l.take j,keep o=true)→K (.int .i64 i) w'):
  zb Tryz.prog Tryz.zH #[.slice (some ⟨b,0,none⟩) n cap,fv] w K:=by
 subst hn
 refine Tryz.yr ?_
 unfold Tryz.zV
 refine gp_ ?_
 refine zj (ι:=Nat) (λi=>[.int .i64 (i:Nat)]) (λi w'=>i≤l.length∧(∀o∈l.take i,keep o=true)∧StX noX w0 r w' (.cell b c 61::L)) (λi=>l.length-i) 0 rfl ⟨gzl _,by simp,S⟩ ?_
 clear S
 rintro i d w' ⟨hi,hno,S⟩ K6 hK6
 rw[gdz]
 refine gp_ ?_
 refine zh (λhlt=>?_) (λhge=>?_)
 ·have hlt:i<l.length:=by omega
  have hr:=hrow i hlt
  refine s_c (by omega) ?_
  rw[show 0+((i:Nat):Int).toNat*4=i*4 by omega]
  refine S.ldN (b:=b) (vs:=yE c i) ?_ rfl (zZ hr)
  refine hfv S hr λw2 S=>?_
  refine c_b (λhk=>?_) (λhk=>?_)
  ·exact h _ _ S (.inr ⟨i,rfl,hlt,by simpa using hk,hno⟩)
  ·refine gp_ ?_
   rw[show ((i:Int)+1)=((i+1:Nat):Int)by omega]
   refine hK6 (i+1) _ ⟨hlt,λo ho=>?_,S⟩ (by omega)
   rw[List.take_succ_eq_append_getElem hlt,List.mem_append]at ho
   rcases ho with ho|ho
   ·exact hno o ho
   ·rw[List.mem_singleton.1 ho];simpa using hk
 ·have hie:i=l.length:=by omega
  rw[hie,List.take_length]at hno
  exact h _ _ S (.inl ⟨rfl,hno⟩)
theorem J6{keep:OpD→Bool}{fv:Value}(hfv:agh keep fv){b n cap:Nat}{w0:World}{K:Value→World→Prop}(S:StX noX w0 r w (.cell b c 61::L))(hn:n=l.length)(hb:n≤1000000)(hnc:n≤cap)(hc:c.length=cap*4)
  (hrow:∀(i:Nat)(hi:i<l.length),OpG r (yE c i) l[i])
  (h:∀c' w',StX noX w0 r w' (.cell b c' 61::L)→c'.length=cap*4→RowOf 4 (OpG r) (c'.take ((l.filter keep).length*4)) (l.filter keep)→K (.slice (some ⟨b,0,none⟩) (l.filter keep).length cap) w'):
  zb Tryz.prog Tryz.zy #[.slice (some ⟨b,0,none⟩) n cap,fv] w K:=by
 subst hn
 refine Tryz.yn ?_
 unfold Tryz.zS
 have hrow0:∀k,k≤l.length→RowOf 4 (OpG r) (c.take (k*4)) (l.take k):=λk hk=>⟨by rw[List.length_take,List.length_take];omega,λi hi=>by
  rw[List.length_take]at hi
  rw[List.getElem_take,List.drop_take,List.take_take,Nat.min_eq_left (by omega)]
  exact hrow i (by omega)⟩
 refine VQ hfv S rfl hb hrow λi0 w1 S hi0=>?_
 refine gp_ ?_
 rcases hi0 with⟨rfl,hall⟩|⟨j,rfl,hj,hjk,hbef⟩
 ·refine c_t (by decide) ?_
  have:=h c w1 S hc (by rw[Yw hall];have:=hrow0 l.length (Nat.le_refl _);rwa[List.take_length]at this)
  rw[Yw hall]at this
  exact this
 refine c_f (decide_eq_false (by omega)) ?_
 refine gp_ ?_
 have hf0:(l.take j).filter keep=l.take j:=Yw hbef
 have hf1:(l.take (j+1)).filter keep=l.take j:=by
  rw[List.take_succ_eq_append_getElem hj,List.filter_append,hf0,acs hjk,List.append_nil]
 refine zj (ι:=Nat×Nat×List Value) (λi=>[.int .i64 (i.1:Nat),.int .i64 (i.2.1:Nat)]) (λi w'=>i.1<i.2.1∧i.2.1≤l.length∧i.1=((l.take i.2.1).filter keep).length∧i.2.2.length=cap*4∧RowOf 4 (OpG r) (i.2.2.take (i.1*4)) ((l.take i.2.1).filter keep)∧
  (∀(m:Nat)(hm:m<l.length),i.2.1≤m→OpG r (yE i.2.2 m) l[m])∧StX noX w0 r w' (.cell b i.2.2 61::L)) (λi=>l.length-i.2.1) (j,j+1,c) (by simp) ⟨by simp,hj,by rw[hf1,List.length_take];omega,hc,by rw[hf1];exact hrow0 j (by omega),λm hm _=>hrow m hm,S⟩ ?_
 clear S
 rintro⟨i,k,c1⟩ d w2 ⟨hik,hk,hie,hc1,hr1,hrest,S⟩ K2 hK2
 simp only at hik hk hie hc1 hr1 hrest S⊢
 simp only[gdz,gds]
 refine gp_ ?_
 refine gp_ ?_
 refine zh (λhlt=>?_) (λhge=>?_)
 ·have hlt:k<l.length:=by omega
  have hrk:=hrest k hlt (Nat.le_refl _)
  have hs:l.take (k+1)=l.take k++[l[k]]:=List.take_succ_eq_append_getElem hlt
  refine zs (λs w'=>∃i' c',s=[.int .i64 (i':Nat)]∧i'<k+1∧i'=((l.take (k+1)).filter keep).length∧c'.length=cap*4∧RowOf 4 (OpG r) (c'.take (i'*4)) ((l.take (k+1)).filter keep)∧
   (∀(m:Nat)(hm:m<l.length),k+1≤m→OpG r (yE c' m) l[m])∧StX noX w0 r w' (.cell b c' 61::L)) (λK6 hK6=>?_) ?_
  rotate_left
  ·rintro _ w3 ⟨i',c',rfl,g1,g2,g3,g4,g5,S⟩ d3
   rw[gdz]
   refine gp_ ?_
   rw[show ((k:Int)+1)=((k+1:Nat):Int)by omega]
   exact hK2 (i',k+1,c') _ ⟨g1,hlt,g2,g3,g4,g5,S⟩ (by show l.length-(k+1)<l.length-k;omega)
  refine s_c (by omega) ?_
  rw[show 0+((k:Nat):Int).toNat*4=k*4 by omega]
  refine S.ldN (b:=b) (vs:=yE c1 k) ?_ rfl (zZ hrk)
  refine S.al λb7 w3 S=>?_
  refine S.stB (b:=b7) (cs:=(yE c1 k).toArray) (λw4 S=>?_) rfl (by simpa using zZ hrk) (by simpa using jT hrk)
  have S:StX noX w0 r w4 (.cell b7 (yE c1 k) 61::.cell b c1 61::L):=S
  refine S.ldB (b:=b7) ?_ (zZ hrk)
  refine hfv S hrk λw5 S=>?_
  refine gp_ ?_
  cases hk0:keep l[k]
  ·refine c_f rfl ?_
   have hfe:(l.take (k+1)).filter keep=(l.take k).filter keep:=by
    rw[hs,List.filter_append,acs hk0,List.append_nil]
   refine hK6 _ _ ⟨i,c1,rfl,by omega,by rw[hfe];exact hie,hc1,by rw[hfe];exact hr1,λm hm hkm=>hrest m hm (by omega),S.tl⟩
  ·refine c_t rfl ?_
   have hfe:(l.take (k+1)).filter keep=(l.take k).filter keep++[l[k]]:=by
    rw[hs,List.filter_append,afm hk0]
   refine S.ldB (b:=b7) ?_ (zZ hrk)
   refine s_c (by omega) ?_
   rw[show 0+((i:Nat):Int).toNat*4=i*4 by omega]
   refine S.stN (b:=b) (cs:=(yE c1 k).toArray) (λw6 S=>?_) (by omega) (by simpa using zZ hrk) (by simpa using jT hrk)
   have S:StX noX w0 r w6 (.cell b7 (yE c1 k) 61::.cell b (c1.take (i*4)++yE c1 k++c1.drop (i*4+4)) 61::L):=S
   refine gp_ ?_
   rw[show ((i:Int)+1)=((i+1:Nat):Int)by omega]
   refine hK6 _ _ ⟨i+1,c1.take (i*4)++yE c1 k++c1.drop (i*4+4),rfl,by omega,by rw[hfe,gla,← hie];rfl,?_,?_,λm hm hkm=>?_,S.tl⟩
   ·rw[gla,gla,List.length_take,List.length_drop,zZ hrk];omega
   ·rw[aaz (by omega) (zZ hrk),hfe]
    exact hr1.snoc (zZ hrk) hrk
   ·rw[aay (by omega) (zZ hrk) (by omega)]
    exact hrest m hm (by omega)
 ·have hke:k=l.length:=by omega
  rw[hke,List.take_length]at hie hr1
  refine s_c (by omega) ?_
  rw[if_neg (by omega),Option.map_some,yS,tnc,Nat.zero_add]
  refine S.clr (b:=b) (by
   have e:(List.length [Value.int .u8 0,Value.int .i64 0,Value.int .i64 0,Value.slice none 0 0])=4:=rfl
   rw[e];omega) (by simp[Value.oneCell']) λc2 w3 hc2 ht2 S=>?_
  refine s_c (by omega) ?_
  rw[tnc,hie]
  exact h c2 w3 S (by omega) (by rw[← hie,ht2];exact hr1)
theorem VR{p:PtD}{K:Value→World→Prop}(hr:Holds r w)(hp:PtG r c p)(hb:p.args.length≤1000)
  (h:∀b cap c' w',StX noX w r w' [.cell b c' 61]→c'.length=cap*4→(zk p).length≤cap→RowOf 4 (OpG r) (c'.take ((zk p).length*4)) (zk p)→K (.slice (some ⟨b,0,none⟩) (zk p).length cap) w'):
  zb Tryz.prog Tryz.y9 #[.agg c.toArray] w K:=by
 refine Tryz.JZ ?_
 unfold Tryz.Yf
 obtain⟨q1,q2,q3,q4,q5,c1,c2,c3,c4,c5,rfl,hp0⟩:=jd hp
 obtain⟨_,_,_,_,_,hE,k1,k2,k3,k4,k5⟩:=hp0
 cases hE
 have S:=St.start hr
 refine S.box λb1 w1 S=>?_
 have S:StX noX w r w1 [.cell b1 (ptL p q1 q2 q3 q4 q5 c1 c2 c3 c4 c5) 94]:=S
 have hoa:OpG r [.int .u8 p.a.k,.int .i64 p.a.n,.int .i64 p.a.pl.l,.slice q2 p.a.pl.ps.length c2] p.a:=⟨_,rfl,k2⟩
 have hob:OpG r [.int .u8 p.b.k,.int .i64 p.b.n,.int .i64 p.b.pl.l,.slice q3 p.b.pl.ps.length c3] p.b:=⟨_,rfl,k3⟩
 refine gg_ ?_
 refine S.ldN (b:=b1) ?_
 refine gg_ ?_
 refine S.ldN (b:=b1) ?_
 refine S.lit (e:=61) (cs:=[.int .u8 p.a.k,.int .i64 p.a.n,.int .i64 p.a.pl.l,.slice q2 p.a.pl.ps.length c2]++[.int .u8 p.b.k,.int .i64 p.b.n,.int .i64 p.b.pl.l,.slice q3 p.b.pl.ps.length c3]) (by kernel_rfl) λb8 w2 S=>?_
 have S:=S.cellRow (n:=2) (cap:=2) (sz:=4) (Nat.le_refl _) rfl (by simp[maxLen])
 obtain⟨xs,hxr,hxs⟩:=QN (by decide) k4.sl
 obtain⟨_,_,hE,hq4,_⟩:=k4.sl.shape
 cases hE
 refine gg_ ?_
 refine S.ap (v:=.slice (some ⟨b8,0,none⟩) 2 2) (S.at hxs) (λv3 w3 S=>?_) (by omega) hxr.1 hq4 (jC hxr (by decide) λc x hx=>jT hx)
 obtain⟨b9,cap9,c9,rfl,hc9,hcl9,htk9,S⟩:=S.rowCell v3 (by omega)
 have hlen:(p.a::p.b::p.args).length=2+p.args.length:=by simp;omega
 have hrw:RowOf 4 (OpG r) (c9.take ((2+p.args.length)*4)) (p.a::p.b::p.args):=by
  rw[htk9]
  exact yI (c:=[.int .u8 p.a.k,.int .i64 p.a.n,.int .i64 p.a.pl.l,.slice q2 p.a.pl.ps.length c2]) rfl hoa (yI (c:=[.int .u8 p.b.k,.int .i64 p.b.n,.int .i64 p.b.pl.l,.slice q3 p.b.pl.ps.length c3]) rfl hob hxr)
 refine J6 aiM (l:=p.a::p.b::p.args) (L:=[.cell b1 (ptL p q1 q2 q3 q4 q5 c1 c2 c3 c4 c5) 94]) S hlen.symm (by omega) hc9 hcl9 (λi hi=>?_) λc' w4 S hc' hrow=>?_
 ·have:=hrw.2 i hi
  rw[List.drop_take,List.take_take,Nat.min_eq_left (by omega)]at this
  exact this
 have hle:(zk p).length≤cap9:=by
  have:=List.length_filter_le k8 (p.a::p.b::p.args)
  show((p.a::p.b::p.args).filter k8).length≤cap9
  omega
 exact h b9 cap9 c' w4 (S.less (λ_ _ h=>h) (.cons_cons _ (List.nil_sublist _))) hc' hle hrow
end
end Go.Proofs
namespace Go.Sh
open Go.RowKit Go.MapKept
section
abbrev inV(x:Int):Value:=.int .i64 x
def Yx(x:Int)(v:Value):List (Int×Value)→List (Int×Value)
 |[]=>[(x,v)]
 |y::M=>if x=y.1 then(x,v)::M else y::Yx x v M
theorem afn{x:Int}{l:List MapEntry}{M:List (Int×Value)}(h:EntsI l M):∀{i:Nat},
  (Instr.findNow (.int .i64) (inV x) l i=some none∧M.lookup x=none∧∀v,Yx x v M=M++[(x,v)])∨
  ∃j v0,Instr.findNow (.int .i64) (inV x) l i=some (some (i+j,v0))∧M.lookup x=some v0∧(∃m,l[j]? = some m∧m.key=inV x)∧∀v,EntsI (l.modify j λe=>{ e with val:=v }) (Yx x v M):=by
 induction h with
 |nil=>intro i;exact .inl ⟨rfl,rfl,λv=>rfl⟩
 |@cons m y l M hm h ih=>
  intro i
  obtain⟨hkey,hv⟩:=hm
  obtain⟨y1,y2⟩:=y
  simp only at hkey hv
  by_cases hx:x=y1
  ·subst hx
   refine .inr ⟨0,m.val,?_,?_,⟨m,rfl,hkey⟩,λv=>?_⟩
   ·rw[Instr.findNow,hkey];simp[Instr.sameNow]
   ·rw[List.lookup_cons,show (x == x)=true by simp,hv]
   ·rw[Yx,if_pos rfl]
    exact .cons ⟨hkey,rfl⟩ h
  ·have hb:(x == y1)=false:=by simpa using hx
   rcases ih (i:=i+1)with⟨h1,h2,h3⟩|⟨j,v0,h1,h2,h3,h4⟩
   ·refine .inl ⟨?_,?_,λv=>?_⟩
    ·rw[Instr.findNow,hkey];simp[Instr.sameNow,hb,h1]
    ·rw[List.lookup_cons,hb];exact h2
    ·rw[Yx,if_neg hx,h3];rfl
   ·refine .inr ⟨j+1,v0,?_,?_,?_,λv=>?_⟩
    ·rw[Instr.findNow,hkey];simp[Instr.sameNow,hb,h1,Nat.add_assoc,Nat.add_comm 1 j]
    ·rw[List.lookup_cons,hb];exact h2
    ·simpa using h3
    ·rw[Yx,if_neg hx]
     exact .cons ⟨hkey,hv⟩ (h4 v)
def kC(M:List (Int×Value))(o:Obj):Prop:=∃es c,o=.map es c∧EntsI es.toList M∧Born es.toList c
section
variable {P:Program} {X:Nat→Prop} {w0 w:World} {r:Gh} {L:List Asr} {t k e:TypeId} {b:Nat} {M:List (Int×Value)} {f:Asr→List Asr}
theorem StX.mkMapJ(S:StX X w0 r w L){K:Value→World→Prop}(h:∀b w',StX X w0 r w' (.obj b (kC [])::L)→K (.map (some b)) w'):opW P w (Instr.makeMap t none) K:=
 S.mkMap λb w' S'=>h b w' ⟨S'.x,S'.holds,λx hx=>by
  rcases List.mem_cons.1 hx with rfl|hx
  ·obtain⟨o,h1,h2,rfl⟩:=S'.has _ List.mem_cons_self
   exact⟨_,h1,h2,_,_,rfl,.nil,.nil⟩
  ·exact S'.has x (List.mem_cons_of_mem _ hx),λx hx=>by
  rcases List.mem_cons.1 hx with rfl|hx
  ·exact S'.mine (.obj b (· = .map #[] 0)) List.mem_cons_self
  ·exact S'.mine x (List.mem_cons_of_mem _ hx),by
  have:=S'.apart
  rw[List.pairwise_cons]at this⊢
  exact this⟩
theorem aec{P:Program}{w:World}(x:Int):(Instr.keyThatStays (inV x) (inV x)).run P w=.ok (inV x) w:=by
 have e:Instr.sameBits 10000 (inV x) (inV x)=true:=by simp[Instr.sameBits]
 simp[Instr.keyThatStays,e,Sem.run,pure]
theorem StX.mapGetJ(S:StX X w0 r w L){x:Int}{z:Value}[h0:xo b L (kC M) f](ht:mpI P t=some (k,e))(hz:zr1 P e=some z){K:Value→Prop}(h:K ((M.lookup x).getD z)):
  opQ P w (Instr.lookup t (.map (some b)) (inV x) false) K:=by
 obtain⟨ht,hk⟩:=Xh ht
 obtain⟨p,q,e1,e2⟩:=h0.h
 obtain⟨o,hb,_,es,c,rfl,hE,_⟩:=S.has (.obj b (kC M)) (by rw[e1];simp)
 obtain⟨o,h1,h2⟩:=afk (x:=x) (kd:=.i64) hE (i:=0)
 refine⟨_,λw' ex=>?_,h⟩
 have hb':w'.heap[b]? = some (.map es c):=(ex.block b (Array.getElem?_eq_some_iff.1 hb).1).trans hb
 have hf:=run_findKey (w:=w') hk h1
 rw[← h2]
 cases o with
 |none=>simp [Instr.lookup,run_underlying ht,MapKept.run_getObj_map hb',run_checkKey (w:=w') hk (k:=inV x) rfl _ 9999,hf,aa1 hz,Result.andThen]
 |some y=>simp [Instr.lookup,run_underlying ht,MapKept.run_getObj_map hb',run_checkKey (w:=w') hk (k:=inV x) rfl _ 9999,hf,Result.andThen]
theorem StX.objK{Q:Obj→Prop}(S:StX X w0 r w L)(b:Nat)[h0:xo b L Q f]:∃o,Q o∧StX X w0 r w (f (.obj b (· = o))):=by
 obtain⟨p,q,e1,e2⟩:=h0.h
 obtain⟨o,hb,hn,hQ⟩:=S.has (.obj b Q) (by rw[e1];simp)
 refine⟨o,hQ,?_⟩
 rw[e2]
 rw[e1]at S
 exact S.turn (x:=.obj b Q) (y:=.obj b (· = o)) (.refl _ _) ⟨o,hb,hn,rfl⟩ λk hk=>.inl hk
theorem StX.objW{Q Q':Obj→Prop}(S:StX X w0 r w L)(b:Nat)[h0:xo b L Q f](h:∀o,Q o→Q' o):StX X w0 r w (f (.obj b Q')):=by
 obtain⟨p,q,e1,e2⟩:=h0.h
 obtain⟨o,hb,hn,hQ⟩:=S.has (.obj b Q) (by rw[e1];simp)
 rw[e2]
 rw[e1]at S
 exact S.turn (x:=.obj b Q) (y:=.obj b Q') (.refl _ _) ⟨o,hb,hn,h o hQ⟩ λk hk=>.inl hk
variable {es:Array MapEntry} {c c0:Nat} {seen:Array Nat}
theorem StX.rangeJ(S:StX X w0 r w L)[h0:xo b L (· = .map es c) f](ht:mpI P t=some (k,e)){K:Value→World→Prop}
  (h:∀bi w',StX X w0 r w' (.obj bi (· = .mapIter (some b) c #[] c)::L)→K (.pointer (some ⟨bi,0,none⟩)) w'):opW P w (Instr.range t (.map (some b))) K:=by
 obtain⟨ht,_⟩:=Xh ht
 obtain⟨p,q,e1,_⟩:=h0.h
 obtain⟨o,hb,_,rfl⟩:=S.has (.obj b (· = .map es c)) (by rw[e1];simp)
 refine⟨.pointer (some ⟨w.heap.size,0,none⟩),{ w with heap:=w.heap.push (.mapIter (some b) c #[] c) },run_range_map w t k e b es c ht hb,h _ _ (S.addO ?_ (Nat.le_refl _) ?_ rfl)⟩
 ·exact⟨rfl,rfl,rfl,by simp,λb hb=>by simp[Array.getElem?_push,Nat.ne_of_lt hb]⟩
 ·simp
theorem StX.nextJ{bi:Nat}{f':Asr→List Asr}{ty:TypeId}(S:StX X w0 r w L)[h0:xo b L (· = .map es c) f][h1:xo bi L (· = .mapIter (some b) c seen c0) f'](hB:Born es.toList c)(hc:c≤c0){K:Value→World→Prop}
  (k0:(∀m∈es.toList,seen.contains m.born=true)→K (.tuple #[.bool false]) w)
  (k1:∀m∈es.toList,seen.contains m.born=false→∀w',StX X w0 r w' (f' (.obj bi (· = .mapIter (some b) c (seen.push m.born) c)))→K (.tuple #[.bool true,m.key,m.val]) w'):
  opW P w (Instr.next (.pointer (some ⟨bi,0,none⟩)) false ty) K:=by
 obtain⟨p,q,e1,_⟩:=h0.h
 obtain⟨o,hb,_,rfl⟩:=S.has (.obj b (· = .map es c)) (by rw[e1];simp)
 obtain⟨p',q',e3,e4⟩:=h1.h
 obtain⟨o,hi,_,rfl⟩:=S.has (.obj bi (· = .mapIter (some b) c seen c0)) (by rw[e3];simp)
 rcases run_next_at (P:=P) w ty bi b c c0 seen es c hi hb hB.2 hc with⟨h2,h3⟩|⟨m,hm,w1,hw,h3⟩
 ·refine⟨_,_,h3,k0 λm hm=>?_⟩
  cases hs:seen.contains m.born with
  |true=>rfl
  |false=>
   have :m∈leftOf es seen:=by
    unfold leftOf
    rw[Array.mem_filter]
    exact⟨by simpa using hm,by rw[hs];rfl⟩
   rw[Array.size_eq_zero_iff]at h2
   rw[h2]at this
   exact absurd this (by simp)
 ·have hm2:m∈es.toList∧seen.contains m.born=false:=by
   have hm:m∈leftOf es seen:=by simpa using hm
   unfold leftOf at hm
   rw[Array.mem_filter]at hm
   exact⟨by simpa using hm.1,by simpa using hm.2⟩
  refine⟨_,_,h3,k1 m hm2.1 hm2.2 _ ?_⟩
  have hS:StX X w0 r w1 L:=by
   rcases hw with rfl|rfl
   ·exact S
   ·exact S.go (Ext.drew _)
  have hi1:w1.heap[bi]? = some (.mapIter (some b) c seen c0):=by
   rcases hw with rfl|rfl
   ·exact hi
   ·exact hi
  obtain⟨a1,a2⟩:=heap_set hi1 (o':=.mapIter (some b) c (seen.push m.born) c)
  rw[e4]
  rw[e3]at hS
  exact hS.turn (x:=.obj bi (· = .mapIter (some b) c seen c0)) (y:=.obj bi (· = .mapIter (some b) c (seen.push m.born) c)) ⟨rfl,rfl,rfl,by simp[ChangeMaps.setBlock],λk _ hk=>a2 k hk⟩ ⟨_,a1,rfl,rfl⟩ λk hk=>.inl hk
theorem StX.entryJ{bi:Nat}{f':Asr→List Asr}{m:MapEntry}(S:StX X w0 r w L)[h0:xo b L (· = .map es c) f][h1:xo bi L (· = .mapIter (some b) c (seen.push m.born) c) f'](hB:Born es.toList c)(hm:m∈es.toList){K:Value→World→Prop}
  (h:K (.tuple #[m.key,m.val]) w):opW P w (Instr.entry (.pointer (some ⟨bi,0,none⟩))) K:=by
 obtain⟨p,q,e1,_⟩:=h0.h
 obtain⟨o,hb,_,rfl⟩:=S.has (.obj b (· = .map es c)) (by rw[e1];simp)
 obtain⟨p',q',e3,e4⟩:=h1.h
 obtain⟨o,hi,_,rfl⟩:=S.has (.obj bi (· = .mapIter (some b) c (seen.push m.born) c)) (by rw[e3];simp)
 exact⟨_,_,run_entry_at w bi b c seen es c m hi hb hm (List.pairwise_map.2 (hB.1.imp λh=>Nat.ne_of_lt h)),h⟩
theorem StX.mapSetJ(S:StX X w0 r w L){x:Int}{v:Value}[h0:xo b L (kC M) f](ht:mpI P t=some (k,e)){K:World→Prop}
  (h:∀w',StX X w0 r w' (f (.obj b (kC (Yx x v M))))→K w'):opU P w (Instr.mapUpdate t (.map (some b)) (inV x) v) K:=by
 obtain⟨ht,hk⟩:=Xh ht
 obtain⟨p,q,e1,e2⟩:=h0.h
 obtain⟨o,hb,_,es,c,rfl,hE,hB⟩:=S.has (.obj b (kC M)) (by rw[e1];simp)
 rcases afn (x:=x) hE (i:=0)with⟨h1,h2,h3⟩|⟨j,v0,h1,h2,⟨m,h3,h5⟩,h4⟩
 ·have hf:=run_findKey (w:=w) hk h1
  refine⟨{ w with heap:=w.heap.setIfInBounds b (.map (es.push { key:=inV x,val:=v,born:=c }) (c+1)) },?_,h _ ?_⟩
  ·simp[Instr.mapUpdate,run_underlying ht,MapKept.run_getObj_map hb,run_checkKey (w:=w) hk (k:=inV x) rfl false 9999,hf,MapKept.run_setObj_map _ hb,Result.andThen]
  ·obtain⟨a1,a2⟩:=heap_set hb (o':=.map (es.push { key:=inV x,val:=v,born:=c }) (c+1))
   rw[e2]
   rw[e1]at S
   exact S.turn (x:=.obj b (kC M)) (y:=.obj b (kC (Yx x v M))) ⟨rfl,rfl,rfl,by simp,λk _ hk=>a2 k hk⟩ ⟨_,a1,rfl,_,_,rfl,by rw[Array.toList_push,h3];exact hE.snoc ⟨rfl,rfl⟩,by rw[Array.toList_push];exact hB.push⟩ λk hk=>.inl hk
 ·rw[Nat.zero_add]at h1
  have hf:=run_findKey (w:=w) hk h1
  have hj:es[j]? = some m:=by rw[← Array.getElem?_toList];exact h3
  have hkey:((es[j]?).map (·.key)).getD (inV x)=inV x:=by rw[hj];exact h5
  have hmod:(es.modify j λe=>{ e with key:=inV x,val:=v })=es.modify j λe=>{ e with val:=v }:=by
   apply Array.ext'
   rw[Array.toList_modify,Array.toList_modify]
   refine List.ext_getElem (by simp) λi h1 h2=>?_
   rw[List.getElem_modify,List.getElem_modify]
   split
   ·rename_i hji
    subst hji
    obtain⟨hlt,rfl⟩:=List.getElem?_eq_some_iff.1 h3
    rw[h5]
   ·rfl
  refine⟨{ w with heap:=w.heap.setIfInBounds b (.map (es.modify j λe=>{ e with val:=v }) c) },?_,h _ ?_⟩
  ·simp[Instr.mapUpdate,run_underlying ht,MapKept.run_getObj_map hb,run_checkKey (w:=w) hk (k:=inV x) rfl false 9999,hf,hkey,aec,hmod,MapKept.run_setObj_map _ hb,Result.andThen]
  ·obtain⟨a1,a2⟩:=heap_set hb (o':=.map (es.modify j λe=>{ e with val:=v }) c)
   rw[e2]
   rw[e1]at S
   exact S.turn (x:=.obj b (kC M)) (y:=.obj b (kC (Yx x v M))) ⟨rfl,rfl,rfl,by simp,λk _ hk=>a2 k hk⟩ ⟨_,a1,rfl,_,_,rfl,by rw[Array.toList_modify];exact h4 v,by rw[Array.toList_modify];exact hB.mod λ_=>rfl⟩ λk hk=>.inl hk
def Yy(x:Int):List (Int×Value)→List (Int×Value)
 |[]=>[]
 |y::M=>if x=y.1 then M else y::Yy x M
theorem afo{x:Int}{l:List MapEntry}{M:List (Int×Value)}(h:EntsI l M):∀{i:Nat},
  (Instr.findNow (.int .i64) (inV x) l i=some none∧Yy x M=M)∨∃j v0,Instr.findNow (.int .i64) (inV x) l i=some (some (i+j,v0))∧EntsI (l.eraseIdx j) (Yy x M):=by
 induction h with
 |nil=>intro i;exact .inl ⟨rfl,rfl⟩
 |@cons m y l M hm h ih=>
  intro i
  obtain⟨hkey,hv⟩:=hm
  obtain⟨y1,y2⟩:=y
  simp only at hkey hv
  by_cases hx:x=y1
  ·subst hx
   refine .inr ⟨0,m.val,?_,?_⟩
   ·rw[Instr.findNow,hkey];simp[Instr.sameNow]
   ·rw[Yy,if_pos rfl];exact h
  ·have hb:(x == y1)=false:=by simpa using hx
   rcases ih (i:=i+1)with⟨h1,h2⟩|⟨j,v0,h1,h2⟩
   ·refine .inl ⟨?_,?_⟩
    ·rw[Instr.findNow,hkey];simp[Instr.sameNow,hb,h1]
    ·rw[Yy,if_neg hx,h2]
   ·refine .inr ⟨j+1,v0,?_,?_⟩
    ·rw[Instr.findNow,hkey];simp[Instr.sameNow,hb,h1,Nat.add_assoc,Nat.add_comm 1 j]
    ·rw[Yy,if_neg hx]
     exact .cons ⟨hkey,hv⟩ h2
theorem Born.erase{l:List MapEntry}{c j:Nat}(h:Born l c):Born (l.eraseIdx j) c:=
 ⟨h.1.sublist (List.eraseIdx_sublist ..),λm hm=>h.2 m ((List.eraseIdx_sublist ..).subset hm)⟩
theorem StX.delJ{ty:TypeId}(S:StX X w0 r w L){x:Int}[h0:xo b L (kC M) f](ht:mpI P t=some (k,e)){K:Value→World→Prop}
  (h:∀w',StX X w0 r w' (f (.obj b (kC (Yy x M))))→K (.tuple #[]) w'):opW P w (Builtin.delete_ #[t,k] ty #[.map (some b),inV x]) K:=by
 obtain⟨ht,hk⟩:=Xh ht
 obtain⟨p,q,e1,e2⟩:=h0.h
 obtain⟨o,hb,_,es,c,rfl,hE,hB⟩:=S.has (.obj b (kC M)) (by rw[e1];simp)
 rcases afo (x:=x) hE (i:=0)with⟨h1,h2⟩|⟨j,v0,h1,h2⟩
 ·have hf:=run_findKey (w:=w) hk h1
  refine⟨.tuple #[],{ w with heap:=w.heap.setIfInBounds b (.map es c) },?_,h _ ?_⟩
  ·simp[Builtin.delete_,run_underlying ht,MapKept.run_getObj_map hb,run_checkKey (w:=w) hk (k:=inV x) rfl _ 9999,hf,MapKept.run_setObj_map _ hb,Result.andThen]
  ·obtain⟨a1,a2⟩:=heap_set hb (o':=.map es c)
   rw[e2]
   rw[e1]at S
   exact S.turn (x:=.obj b (kC M)) (y:=.obj b (kC (Yy x M))) ⟨rfl,rfl,rfl,by simp,λk _ hk=>a2 k hk⟩ ⟨_,a1,rfl,_,_,rfl,by rw[h2];exact hE,hB⟩ λk hk=>.inl hk
 ·rw[Nat.zero_add]at h1
  have hf:=run_findKey (w:=w) hk h1
  refine⟨.tuple #[],{ w with heap:=w.heap.setIfInBounds b (.map (es.eraseIdxIfInBounds j) c) },?_,h _ ?_⟩
  ·simp[Builtin.delete_,run_underlying ht,MapKept.run_getObj_map hb,run_checkKey (w:=w) hk (k:=inV x) rfl _ 9999,hf,MapKept.run_setObj_map _ hb,Result.andThen]
  ·obtain⟨a1,a2⟩:=heap_set hb (o':=.map (es.eraseIdxIfInBounds j) c)
   have el:(es.eraseIdxIfInBounds j).toList=es.toList.eraseIdx j:=by simp
   rw[e2]
   rw[e1]at S
   exact S.turn (x:=.obj b (kC M)) (y:=.obj b (kC (Yy x M))) ⟨rfl,rfl,rfl,by simp,λk _ hk=>a2 k hk⟩ ⟨_,a1,rfl,_,_,rfl,by rw[el];exact h2,by rw[el];exact hB.erase⟩ λk hk=>.inl hk
end
end
end Go.Sh
namespace Go.Proofs
open Go.Sh Go.RowKit
section
abbrev ya:=List (Int×Int)
def cnV(M:ya):List (Int×Value):=M.map λx=>(x.1,Value.int .i64 x.2)
def qO(x v:Int):ya→ya
 |[]=>[(x,v)]
 |y::M=>if x=y.1 then(x,v)::M else y::qO x v M
def jE(x:Int):ya→ya
 |[]=>[]
 |y::M=>if x=y.1 then M else y::jE x M
def cnt(M:ya)(x:Int):Int:=(M.lookup x).getD 0
theorem ado{x v:Int}:∀{M:ya},Yx x (.int .i64 v) (cnV M)=cnV (qO x v M)
 |[]=>rfl
 |y::M=>by
  have ih:=ado (x:=x) (v:=v) (M:=M)
  rw[qO]
  show(if x=y.1 then _ else _)=_
  by_cases h:x=y.1
  ·rw[if_pos h,if_pos h];rfl
  ·rw[if_neg h,if_neg h];exact congrArg _ ih
theorem adp{x:Int}:∀{M:ya},Yy x (cnV M)=cnV (jE x M)
 |[]=>rfl
 |y::M=>by
  have ih:=adp (x:=x) (M:=M)
  rw[jE]
  show(if x=y.1 then _ else _)=_
  by_cases h:x=y.1
  ·rw[if_pos h,if_pos h];rfl
  ·rw[if_neg h,if_neg h];exact congrArg _ ih
theorem aaC{x:Int}:∀{M:ya},(((cnV M).lookup x).getD (.int .i64 0))=.int .i64 (cnt M x)
 |[]=>rfl
 |y::M=>by
  have ih:=aaC (x:=x) (M:=M)
  show(((y.1,Value.int .i64 y.2)::cnV M).lookup x).getD _=_
  rw[cnt,List.lookup_cons,List.lookup_cons]
  cases x == y.1 with
  |true=>rfl
  |false=>exact ih
theorem Xm{x v:Int}:∀{M:ya},∀z,z∈(qO x v M).map (·.1)↔z=x∨z∈M.map (·.1)
 |[],z=>by simp[qO]
 |y::M,z=>by
  rw[qO]
  by_cases h:x=y.1
  ·rw[if_pos h];subst h;simp
  ·rw[if_neg h,List.map_cons,List.mem_cons,Xm,List.map_cons,List.mem_cons]
   exact⟨λhh=>hh.elim (λe=>.inr (.inl e)) λhh=>hh.elim .inl λe=>.inr (.inr e),λhh=>hh.elim (λe=>.inr (.inl e)) λhh=>hh.elim .inl λe=>.inr (.inr e)⟩
theorem aa7{x v:Int}:∀{M:ya},(M.map (·.1)).Nodup→((qO x v M).map (·.1)).Nodup
 |[],_=>by simp[qO]
 |y::M,h=>by
  rw[List.map_cons,List.nodup_cons]at h
  rw[qO]
  by_cases hx:x=y.1
  ·rw[if_pos hx];subst hx
   rw[List.map_cons,List.nodup_cons];exact h
  ·rw[if_neg hx,List.map_cons,List.nodup_cons]
   refine⟨λhm=>?_,aa7 h.2⟩
   rcases(Xm _).1 hm with e|e
   ·exact hx e.symm
   ·exact h.1 e
theorem Xn{x:Int}:∀{M:ya},(M.map (·.1)).Nodup→∀z,z∈(jE x M).map (·.1)↔z≠x∧z∈M.map (·.1)
 |[],_,z=>by simp[jE]
 |y::M,h,z=>by
  rw[List.map_cons,List.nodup_cons]at h
  rw[jE]
  by_cases hx:x=y.1
  ·rw[if_pos hx,List.map_cons,List.mem_cons]
   subst hx
   exact⟨λhz=>⟨λe=>h.1 (e▸hz),.inr hz⟩,λhz=>hz.2.resolve_left hz.1⟩
  ·rw[if_neg hx,List.map_cons,List.mem_cons,Xn h.2,List.map_cons,List.mem_cons]
   exact⟨λhh=>hh.elim (λe=>⟨λe2=>hx (e2.symm.trans e),.inl e⟩) λhh=>⟨hh.1,.inr hh.2⟩,λhh=>hh.2.elim .inl λe=>.inr ⟨hh.1,e⟩⟩
theorem aa8{x:Int}:∀{M:ya},(M.map (·.1)).Nodup→((jE x M).map (·.1)).Nodup
 |[],_=>by simp[jE]
 |y::M,h=>by
  have h0:=h
  rw[List.map_cons,List.nodup_cons]at h
  rw[jE]
  by_cases hx:x=y.1
  ·rw[if_pos hx];exact h.2
  ·rw[if_neg hx,List.map_cons,List.nodup_cons]
   exact⟨λhm=>h.1 ((Xn h.2 _).1 hm).2,aa8 h.2⟩
theorem acu{l m:List Int}(hl:l.Nodup)(hm:m.Nodup)(h:∀x,x∈l↔x∈m):xb l=xb m:=by
 have key:∀l:List Int,l.Nodup→(xb l).Pairwise (· < ·):=λl hl=>by
  have h1:=List.pairwise_mergeSort (le:=λx y:Int=>decide (x≤y)) (by intro a b c h1 h2;simp only[gdt]at *;omega) (by intro a b;simp only[Bool.or_eq_true,gdt];omega) l
  have h2:(xb l).Nodup:=(List.mergeSort_perm l _).nodup_iff.2 hl
  refine(List.pairwise_and_iff.2 ⟨h1,h2⟩).imp λh=>?_
  have h3:=h.1;have h4:=h.2
  simp only[gdt]at h3
  omega
 exact VL (key l hl) (key m hm) λx=>by rw[xb,xb,List.mem_mergeSort,List.mem_mergeSort];exact h x
def yF(m:MapEntry):Int:=match m.key with|.int .i64 x=>x|_=>0
theorem acv{l:List MapEntry}{M:ya}(h:EntsI l (cnV M)):l.map yF=M.map (·.1)∧∀m∈l,m.key=.int .i64 (yF m):=by
 induction l generalizing M with
 |nil=>
  cases M with
  |nil=>exact ⟨rfl,λm hm=>by cases hm⟩
  |cons y M=>cases h
 |cons m l ih=>
  cases M with
  |nil=>cases h
  |cons y M=>
   cases h with
   |cons hm h=>
    obtain⟨h1,h2⟩:=ih h
    have hk:m.key=.int .i64 y.1:=hm.1
    have hn:yF m=y.1:=by rw[yF,hk]
    refine⟨by rw[List.map_cons,List.map_cons,h1,hn],λz hz=>?_⟩
    rcases List.mem_cons.1 hz with rfl|hz
    ·rw[hn];exact hk
    ·exact h2 z hz
theorem YY{α β:Type}{f:α→β}:∀{l:List α},(l.map f).Nodup→∀{a b:α},a∈l→b∈l→f a=f b→a=b
 |[],_,a,b,ha,_,_=>by cases ha
 |x::l,h,a,b,ha,hb,he=>by
  rw[List.map_cons,List.nodup_cons]at h
  rcases List.mem_cons.1 ha with e1|h1
  ·rcases List.mem_cons.1 hb with e2|h2
   ·rw[e1,e2]
   ·exact absurd (by rw[← e1,he];exact List.mem_map_of_mem h2) h.1
  ·rcases List.mem_cons.1 hb with e2|h2
   ·exact absurd (by rw[← e2,← he];exact List.mem_map_of_mem h1) h.1
   ·exact YY h.2 h1 h2 he
theorem Qu:∀{a b:List Int},a.Nodup→(∀x∈a,x∈b)→a.length≤b.length
 |[],b,_,_=>gzl _
 |x::a,b,hn,hs=>by
  have hn':=List.nodup_cons.1 hn
  have hx:=hs x List.mem_cons_self
  have:=Qu (a:=a) (b:=b.erase x) hn'.2 λy hy=>by
   have hne:y≠x:=λe=>hn'.1 (e▸hy)
   exact(List.mem_erase_of_ne hne).2 (hs y (List.mem_cons_of_mem _ hy))
  rw[List.length_erase_of_mem hx]at this
  have hp:0<b.length:=List.length_pos_of_mem hx
  rw[List.length_cons];omega
abbrev zF(M:ya):Obj→Prop:=kC (cnV M)
theorem mpS:mpI Tryz.prog 82=some (3,3):=by kernel_rfl
theorem ahK:zr1 Tryz.prog 3=some (.int .i64 0):=by kernel_rfl
section
variable {X:Nat→Prop} {w0 w:World} {r:Gh} {L:List Asr} {b:Nat} {M:ya} {f:Asr→List Asr} {K:Value→World→Prop}
theorem vG{x:Int}(S:StX X w0 r w L)[h0:xo b L (zF M) f](hb: -9223372036854775808≤cnt M x+1∧cnt M x+1≤9223372036854775807)(h:∀w',StX X w0 r w' (f (.obj b (zF (qO x (cnt M x+1) M))))→K (.tuple #[]) w'):
  zb Tryz.prog Tryz.yx #[.map (some b),.int .i64 x] w K:=by
 refine Tryz.VN ?_
 unfold Tryz.YV
 refine S.mapGetJ mpS ahK ?_
 rw[aaC]
 refine adN (by omega) ?_
 refine S.mapSetJ mpS λw1 S=>?_
 rw[ado]at S
 exact h _ S
theorem VS{x:Int}(S:StX X w0 r w L)[h0:xo b L (zF M) f](h:∀w',StX X w0 r w' (f (.obj b (zF (jE x M))))→K (.tuple #[]) w'):
  zb Tryz.prog Tryz.kG #[.map (some b),.int .i64 x] w K:=by
 refine Tryz.J0 ?_
 unfold Tryz.Yg
 refine S.delJ mpS λw1 S=>?_
 rw[adp]at S
 exact h _ S
theorem aed(S:StX X w0 r w L)[h0:xo b L (zF M) f](hM:(M.map (·.1)).Nodup)(hf:M.length≤1000000)
  (h:∀v w',StX X w0 r w' (.row v 3 1 M.length (ints (xb (M.map (·.1))))::f (.obj b (zF M)))→K v w'):zb Tryz.prog Tryz.zX #[.map (some b)] w K:=by
 refine Tryz.J1 ?_
 unfold Tryz.Yh
 obtain⟨o,hQ,S⟩:=S.objK b
 obtain⟨es,c,rfl,hE,hB⟩:=hQ
 obtain⟨hk1,hk2⟩:=acv hE
 have hlen:es.toList.length=M.length:=by
  have:=congrArg List.length hk1
  simpa using this
 haveI h1:xo b (f (.obj b (· = .map es c))) (· = .map es c) f:=⟨by
  obtain⟨p,q,_,e2⟩:=h0.h
  exact⟨p,q,e2 _,e2⟩⟩
 refine S.rangeJ mpS λbi w1 S=>?_
 have S:=S.ownNil 3 1
 refine zj (ι:=Value×List MapEntry×Array Nat×Nat) (λi=>[i.1]) (λi w'=>(∀m∈i.2.1,m∈es.toList)∧(i.2.1.map yF).Nodup∧c≤i.2.2.2∧(∀n,i.2.2.1.contains n=true↔n∈i.2.1.map (·.born))∧StX X w0 r w' (.row i.1 3 1 i.2.1.length (ints (i.2.1.map yF))::.obj bi (· = .mapIter (some b) c i.2.2.1 i.2.2.2)::f (.obj b (· = .map es c)))) (λi=>M.length-i.2.1.length) (.slice none 0 0,[],#[],c) rfl ⟨λm hm=>(by cases hm),List.nodup_nil,Nat.le_refl _,λn=>(by simp),S⟩ ?_
 clear S
 rintro⟨v,H,seen,c0⟩ d w5 ⟨hm,hnd,hc,hs,S⟩ K2 hK2
 simp only at hm hnd hc hs S⊢
 rw[gdz]
 have hmk:∀x∈H.map yF,x∈M.map (·.1):=λx hx=>by
  obtain⟨m,hmH,rfl⟩:=List.mem_map.1 hx
  rw[← hk1];exact List.mem_map_of_mem (hm m hmH)
 have hHl:H.length≤M.length:=by
  have:=Qu hnd hmk
  simpa using this
 refine S.nextJ hB hc (λhall=>?_) λm hme hns w6 S=>?_
 ·refine Y2 (v:=.bool false) rfl ?_
  refine c_f rfl ?_
  refine abt (l:=H.map yF) (by rw[List.length_map];exact S) (by rw[List.length_map];omega) λw10 S=>?_
  have hiff:∀x,x∈H.map yF↔x∈M.map (·.1):=λx=>⟨hmk x,λhx=>by
   rw[← hk1]at hx
   obtain⟨m,hme,rfl⟩:=List.mem_map.1 hx
   have hb:=(hs m.born).1 (hall m hme)
   obtain⟨m',hm',he⟩:=List.mem_map.1 hb
   have hinj:(es.toList.map (·.born)).Nodup:=List.pairwise_map.2 (hB.1.imp λh=>Nat.ne_of_lt h)
   have:=YY hinj (hm m' hm') hme he
   rw[← this];exact List.mem_map_of_mem hm'⟩
  rw[acu hnd hM hiff]at S
  have hle:(H.map yF).length=M.length:=by
   have h1:=Qu hnd hmk
   have h2:=Qu hM λx hx=>(hiff x).2 hx
   simp only[List.length_map]at h1 h2⊢
   omega
  rw[hle]at S
  have S:=S.d2
  refine h v _ ?_
  exact S.objW b (λo e=>⟨es,c,e,hE,hB⟩)
 ·refine gp_ ?_
  refine c_t rfl ?_
  refine S.entryJ hB hme ?_
  rw[hk2 m hme]
  refine gp_ ?_
  refine S.lit (e:=3) (cs:=[.int .i64 (yF m)]) (by kernel_rfl) λb13 w8 S=>?_
  refine S.ap (v:=v) (m':=1) (Sl.blk (S.blk b13)) (λv14 w9 S=>?_) (by omega)
  have S:=S.drop b13
  have hkn:yF m∉H.map yF:=λhx=>by
   obtain⟨m',hm',he⟩:=List.mem_map.1 hx
   have hj:(es.toList.map yF).Nodup:=by rw[hk1];exact hM
   have:=YY hj (hm m' hm') hme he
   subst this
   have:=(hs m'.born).2 (List.mem_map_of_mem hm')
   rw[hns]at this;cases this
  have hnd2:((H++[m]).map yF).Nodup:=by
   rw[List.map_append,List.nodup_append]
   exact⟨hnd,by simp,λa ha b hb=>by rw[List.map_singleton,List.mem_singleton]at hb;rintro rfl;exact hkn (hb▸ha)⟩
  have hmem2:∀z∈H++[m],z∈es.toList:=λz hz=>by
   rcases List.mem_append.1 hz with hz|hz
   ·exact hm z hz
   ·rw[List.mem_singleton]at hz;rw[hz];exact hme
  have hl2:(H++[m]).length≤M.length:=by
   have:=Qu hnd2 (b:=M.map (·.1)) λx hx=>by
    obtain⟨z,hz,rfl⟩:=List.mem_map.1 hx
    rw[← hk1];exact List.mem_map_of_mem (hmem2 z hz)
   simpa using this
  rw[gla,gls]at hl2
  refine hK2 (v14,H++[m],seen.push m.born,c) _ ⟨hmem2,hnd2,Nat.le_refl _,λn=>?_,?_⟩ (by show M.length-(H++[m]).length<M.length-H.length;rw[gla,gls];omega)
  ·show(seen.push m.born).contains n=true↔n∈(H++[m]).map (·.born)
   rw[List.map_append,List.mem_append,← hs n]
   simp only[Array.contains_push,Bool.or_eq_true,beq_iff_eq,List.map_singleton,List.mem_singleton]
  ·show StX X w0 r w9 (.row v14 3 1 (H++[m]).length (ints ((H++[m]).map yF))::.obj bi (· = .mapIter (some b) c (seen.push m.born) c)::f (.obj b (· = .map es c)))
   rw[gla,List.map_append,List.map_singleton,ints,List.map_append]
   exact S
end
theorem jf{ss:List StD}{tys:List TyD}{p:PlD}(h:p.ps=[]):heldW ss tys p=p:=by
 unfold heldW
 split
 ·rw[jX,h,List.take_nil,← h]
 ·rfl
theorem aaD{ss:List StD}{tys:List TyD}{p:PlD}:(heldW ss tys p).l=p.l:=by
 unfold heldW
 split<;>rfl
def OkP(u:UnD)(g:GrD)(p:PlD):Prop:=p.ps=[]∨(zO u.ss g.tys p).isSome=true
theorem OkP.few{u:UnD}{g:GrD}{p:PlD}(h:OkP u g p):p.ps.length≤8:=by
 rcases h with h|h
 ·rw[h];exact gzl _
 ·unfold zO at h
  split at h
  ·rename_i ho
   simp only[y8,gba,gdt]at ho
   exact ho.1.2
  ·cases h
noncomputable def wholeP(u:UnD)(g:GrD)(p:PlD):Bool:=decide ((heldW u.ss g.tys p).ps.length=p.ps.length)
theorem jY{p:PtD}{c:List Value}{w:World}{r:Gh}{K:Value→World→Prop}(hr:Holds r w)(hp:PtG r c p)(h:∀w',Ext w w'→K (.bool (decide (1≤p.op)&&decide (p.op≤8))) w'):zb Tryz.prog Tryz.xQ #[.agg c.toArray] w K:=by
 refine Tryz.VM ?_
 unfold Tryz.YU
 obtain⟨x1,x2,x3,x4,x5,y1,y2,y3,y4,y5,rfl,hpg0⟩:=jd hp
 have S:=St.start hr
 refine S.box λb1 w1 S=>?_
 have S:StX noX w r w1 [.cell b1 (ptL p x1 x2 x3 x4 x5 y1 y2 y3 y4 y5) 94]:=S
 refine gg_ ?_
 refine zo (c:=decide (p.op≤8)) (λ_ K2 hK2=>by refine gg_ ?_;exact hK2) ?_
 exact h _ S.ext
theorem vh{u:UnD}{g:GrD}{p:PlD}{c:List Value}{b:Nat}{p0 qt:Option Addr}{cap0 capt:Nat}{w:World}{r:Gh}{K:Value→World→Prop}(hr:Holds r w)
  (hX:∀w',Ext w w'→w'.cell? ⟨b,0,none⟩=some (.slice p0 u.ss.length cap0)∧w'.cell? ⟨b,7,none⟩=some (.slice qt g.tys.length capt)) (hst:StG r p0 u.ss) (hty:SlB 5 r (TyC r) (.slice qt g.tys.length capt) g.tys)
  (hs:(zA u.ss).2=0) (hf:xO u.ss g.tys) (hp:PlG r c p) (hok:OkP u g p)
  (h:∀v s w',Ext w w'→New w s w'→SlB 1 (r.or s) yN v (heldW u.ss g.tys p).ps→K (.tuple #[.agg #[.int .i64 p.l,v],.bool (wholeP u g p)]) w'):
  zb Tryz.prog Tryz.yU #[.pointer (some ⟨b,0,none⟩),.agg c.toArray] w K:=by
 refine Tryz.Q2 ?_
 unfold Tryz.ZR
 have hp0:=hp
 obtain⟨v,rfl,hl⟩:=hp
 obtain⟨qs,caps,rfl,_,hcap⟩:=hl.sl.shape
 have S:=St.start hr
 refine S.box λb3 w1 S=>?_
 have S:StX noX w r w1 [.cell b3 [.int .i64 p.l,.slice qs p.ps.length caps] 59]:=S
 refine S.al λb4 w2 S=>?_
 have h8:=hok.few
 refine gg_ ?_
 refine zh (λh0=>?_) (λh0=>?_)
 ·have hn:p.ps=[]:=List.eq_nil_of_length_eq_zero (by omega)
  refine S.ldB (b:=b3) ?_ rfl
  refine S.stB (b:=b4) λw3 S=>?_
  refine S.ceB (b:=b4) ?_ rfl
  have:=h (.slice qs p.ps.length caps) nothing _ S.ext New.nothing (by rw[jf hn];exact hl.cells)
  rw[wholeP,jf hn,gde rfl]at this
  exact this
 have hok:(zO u.ss g.tys p).isSome=true:=hok.resolve_left λe=>h0 (by rw[e];rfl)
 obtain⟨hg0,hlt⟩:=J2 hok
 obtain⟨x,hx⟩:=Option.isSome_iff_exists.1 hok
 have hx1:=(ZU hs hf hg0 hlt).trans hx
 have hle:=Xl (l:=x.2)
 have hxl:=Yi hx
 have hhe:heldW u.ss g.tys p=jX p (holdN x.2):=by rw[heldW,hx]
 have hwh:wholeP u g p=decide (((p.ps.take (holdN x.2)).length:Int)=(p.ps.length:Int)):=by
  rw[wholeP,hhe,decide_eq_decide];show(p.ps.take (holdN x.2)).length=_↔_;omega
 rw[hwh,hhe]at h
 obtain⟨_,_,hE,_,hct⟩:=hty.sl.shape
 cases hE
 have htf:g.tys.length≤9223372036854775807:=hty.few
 have S:=S.go (Ext.drew _)
 refine zs (λy w'=>∃b6 s v,y=[.pointer (some ⟨b6,0,none⟩)]∧Above w s∧SlB 1 s yN v (p.ps.take (holdN x.2))∧StX noX w (r.or s) w' [.cell b6 [.int .i64 0,v] 59,.cell b4 [.int .i64 0,.slice none 0 0] 59,.cell b3 [.int .i64 p.l,.slice qs p.ps.length caps] 59]) (λK5 hK5=>?_) ?_
 ·obtain⟨hX0,hX7⟩:=hX _ S.ext
  refine gg_ ?_
  refine zi hX0 ?_
  refine gg_ ?_
  refine zi hX7 ?_
  refine gg_ ?_
  have hlen:(p.l+1).toNat-p.l.toNat=[g.tys[p.l.toNat]].length:=by show _=1;omega
  have hsub:=(QL hty.sl).sub (a:=p.l.toNat) (n:=1) (cap:=capt) hct
  rw[agZ hlt]at hsub
  rw[hlen]
  generalize (if capt=p.l.toNat then qt else qt.map (·.add (p.l.toNat*5)))=qy at hsub⊢
  refine⟨?_,?_⟩
  ·refine Qt (p:=⟨0,p.ps⟩) (c:=[.int .i64 0,.slice qs p.ps.length caps]) S.holds hst hsub (by simp[maxLen]) ⟨_,rfl,hl⟩ hx1 λv s w9 e9 n9 h9=>?_
   obtain⟨S,_,a9⟩:=S.tell e9 n9
   obtain⟨q3,c3,rfl,_,_⟩:=h9.sl.shape
   refine gS_ ?_
   refine S.alU λb6 w10 S=>?_
   refine S.stB (b:=b6) λw11 S=>?_
   exact hK5 _ _ ⟨b6,s,_,rfl,a9,h9,S⟩
  ·refine S.alU λb6 w10 S=>?_
   refine Qt (p:=⟨0,p.ps⟩) (c:=[.int .i64 0,.slice qs p.ps.length caps]) S.holds hst hsub (by simp[maxLen]) ⟨_,rfl,hl⟩ hx1 λv s w9 e9 n9 h9=>?_
   obtain⟨S,_,a9⟩:=S.tell e9 n9
   obtain⟨q3,c3,rfl,_,_⟩:=h9.sl.shape
   refine gS_ ?_
   refine S.stB (b:=b6) λw11 S=>?_
   exact hK5 _ _ ⟨b6,s,_,rfl,a9,h9,S⟩
 ·repeat clear S
  rintro _ w8 ⟨b6,s,v,rfl,ha,hv,S⟩ d
  rw[gdz]
  obtain⟨q3,c3,rfl,_,_⟩:=hv.sl.shape
  refine gg_ ?_
  refine S.st (b:=b6) (λw9 S=>?_) (by simp)
  have S:StX noX w (r.or s) w9 [.cell b6 [.int .i64 p.l,.slice q3 (p.ps.take (holdN x.2)).length c3] 59,.cell b4 [.int .i64 0,.slice none 0 0] 59,.cell b3 [.int .i64 p.l,.slice qs p.ps.length caps] 59]:=S
  have S:=S.go (Ext.drew _)
  refine S.ldB (b:=b6) ?_ rfl
  have fin:∀w5,StX noX w (r.or s) w5 [.cell b6 [.int .i64 p.l,.slice q3 (p.ps.take (holdN x.2)).length c3] 59,.cell b4 [.int .i64 p.l,.slice q3 (p.ps.take (holdN x.2)).length c3] 59,.cell b3 [.int .i64 p.l,.slice qs p.ps.length caps] 59]→
   K (.tuple #[.agg #[.int .i64 p.l,.slice q3 (p.ps.take (holdN x.2)).length c3],.bool (decide (((p.ps.take (holdN x.2)).length:Int)=(p.ps.length:Int)))]) w5:=λw5 S=>h _ s _ S.ext (S.newOf ha) hv.cells
  clear hX h hx hx1
  repeat' (first
   |(first|((with_reducible refine p_id ?_);first|refine s_p ?_|refine s_c (by omega) ?_)|((with_reducible refine q_id ?_);first|refine S.ld ?_|refine S.ldB ?_|refine S.ce ?_|refine S.ceB ?_|refine s_q ?_|refine s_qc (by omega) ?_)|with_reducible refine n_some ?_|rw [gdz]|rw [gds])
   |(refine S.stB (b:=b4) λw10 S=>?_)
   |(refine S.ceB (b:=b4) ?_ rfl)
   |exact fin _ S
   |refine Yl ?_
   |refine And.intro ?_ ?_)
theorem Zf{p:PlD}{c:List Value}{w:World}{r:Gh}{K:Value→World→Prop}(hr:Holds r w)(hp:PlG r c p)(hb:p.ps.length≤100000)
  (h:∀v s w',Ext w w'→New w s w'→SlG 2 s (PlG s) v (qu p)→K v w'):zb Tryz.prog Tryz.xj #[.agg c.toArray] w K:=by
 refine J4 hr hp hb λv s xs w' ha S hx=>?_
 obtain⟨s2,S,h2,_,a2⟩:=S.doneRow (l:=qu p) (R:=PlG s) (sz:=2) hx (by decide) rfl
 exact h v (s.or s2) w' S.ext (S.reGh.newOf (ha.or' λb o ho=>(a2 b o ho).resolve_right id)) (h2.up' inferInstance λc x hx=>PlG.up hx)
abbrev mkL(u:UnD)(g:GrD)(p0:Option Addr)(cap0:Nat)(vf vo:Value)(qt:Option Addr)(capt:Nat)(vn vp v:Value):List Value:=
 [.slice p0 u.ss.length cap0,vf,.int .i64 u.mn,.string g.name,.int .i64 g.lv,vo,.int .i64 g.pn,.slice qt g.tys.length capt,vn,vp,v]
theorem aaE{r:Gh}{c:List Value}{p:PlD}(h:PlG r c p):∀u∈c,u.oneCell'=true:=by
 obtain⟨v,rfl,hl⟩:=h
 obtain⟨q,k,rfl,_⟩:=hl.sl.shape
 simp[Value.oneCell']
theorem afp{α:Type}{sz:Nat}{R:List Value→α→Prop}{xs ys:List Value}{l m:List α}(h:RowOf sz R xs l)(k:RowOf sz R ys m):RowOf sz R (xs++ys) (l++m):=by
 refine⟨by rw[gla,gla,h.1,k.1,Nat.add_mul],λj hj=>?_⟩
 rw[gla]at hj
 rcases Nat.lt_or_ge j l.length with hl|hl
 ·have hm:j*sz+sz≤xs.length:=by rw[h.1,← Nat.succ_mul];exact Nat.mul_le_mul_right _ hl
  rw[List.getElem_append_left hl,List.drop_append_of_le_length (by omega),List.take_append_of_le_length (by rw[List.length_drop];omega)]
  exact h.2 j hl
 ·have e:j*sz=xs.length+(j-l.length)*sz:=by rw[h.1,← Nat.add_mul];congr 1;omega
  rw[List.getElem_append_right hl,e,List.drop_append,List.drop_of_length_le (by omega),List.nil_append]
  rw[show xs.length+(j-l.length)*sz-xs.length=(j-l.length)*sz by omega]
  exact k.2 _ (by omega)
section
variable {u:UnD} {g:GrD} {p0 qt:Option Addr} {cap0 capt bx b8:Nat} {vf vo vn vp v:Value} {w0 w:World} {r:Gh} {M:List Asr} {K:Value→World→Prop}
abbrev agD(b8:Nat):Value:=.func (.func Tryz.Jb) #[] #[.pointer (some ⟨b8,0,none⟩)]
abbrev mkJ(u:UnD)(g:GrD)(p0:Option Addr)(cap0:Nat)(vf vo:Value)(qt:Option Addr)(capt:Nat)(vn vp:Value)(bx b8:Nat)(M:List Asr)(v:Value)(n:Nat)(xs:List Value):List Asr:=
 .row v 59 2 n xs::.cell bx (mkL u g p0 cap0 vf vo qt capt vn vp v) 90::.cell b8 [.pointer (some ⟨bx,0,none⟩)] 78::M
theorem aiq{p:PlD}{c xs:List Value}{ps:List PlD}(S:StX noX w0 r w (mkJ u g p0 cap0 vf vo qt capt vn vp bx b8 M v ps.length xs))
  (hst:StG r p0 u.ss) (hty:SlB 5 r (TyC r) (.slice qt g.tys.length capt) g.tys) (hs:(zA u.ss).2=0) (hf:xO u.ss g.tys) (hp:PlG r c p) (hok:OkP u g p) (hx:RowOf 2 (PlG r) xs ps) (hb:ps.length≤100000000)
  (h:∀s v' xs' w',Above w0 s→StX noX w0 (r.or s) w' (mkJ u g p0 cap0 vf vo qt capt vn vp bx b8 M v' (ps++qu (heldW u.ss g.tys p)).length xs')→RowOf 2 (PlG (r.or s)) xs' (ps++qu (heldW u.ss g.tys p))→K (.tuple #[]) w'):
  zx Tryz.prog (agD b8) #[.agg c.toArray] w K:=by
 refine Vu (by kernel_rfl) ?_
 refine Tryz.acn ?_
 unfold Tryz.Jo
 have hp0:=hp
 obtain⟨vv,rfl,hl⟩:=hp
 obtain⟨qs,caps,rfl,_,hcap⟩:=hl.sl.shape
 obtain⟨pv,cv,rfl,_⟩:=S.rowS v
 refine S.box λb2 w1 S=>?_
 have S:StX noX w0 r w1 (.cell b2 [.int .i64 p.l,.slice qs p.ps.length caps] 59::mkJ u g p0 cap0 vf vo qt capt vn vp bx b8 M (.slice pv ps.length cv) ps.length xs):=S
 refine gg_ ?_
 have hX:∀w',Ext w1 w'→w'.cell? ⟨bx,0,none⟩=some (.slice p0 u.ss.length cap0)∧w'.cell? ⟨bx,7,none⟩=some (.slice qt g.tys.length capt):=λw' e=>by
  have B:=(S.blk bx).ext e
  exact⟨by rw[B.cell];rfl,by rw[B.cell];rfl⟩
 refine vh S.holds hX hst hty hs hf hp0 hok λv1 s1 w2 e2 n2 h2=>?_
 clear hX
 obtain⟨S,_,a1⟩:=S.tell e2 n2
 have hl':(heldW u.ss g.tys p).l=p.l:=aaD
 have h8:(heldW u.ss g.tys p).ps.length≤8:=by
  have:=hok.few
  unfold heldW
  split
  ·show(p.ps.take _).length≤8
   rw[List.length_take];omega
  ·exact this
 generalize heldW u.ss g.tys p=hd at *
 have hpd:PlG (r.or s1) [.int .i64 p.l,v1] hd:=⟨_,by rw[hl'],h2⟩
 obtain⟨q1,k1,rfl,_,_⟩:=h2.sl.shape
 refine gS_ ?_
 refine S.al λb3 w3 S=>?_
 refine S.stB (b:=b3) λw4 S=>?_
 have S:StX noX w0 (r.or s1) w4 (.cell b3 [.int .i64 p.l,.slice q1 hd.ps.length k1] 59::.cell b2 [.int .i64 p.l,.slice qs p.ps.length caps] 59::mkJ u g p0 cap0 vf vo qt capt vn vp bx b8 M (.slice pv ps.length cv) ps.length xs):=S
 have S:=S.go (Ext.drew _)
 refine gg_ ?_
 have hpf:(qu hd).length≤9:=by rw[J3];omega
 have fin:∀s5 v7 xs5 w8,Above w0 s5→RowOf 2 (PlG s5) xs5 (qu hd)→StX noX w0 ((r.or s1).or s5) w8 (.cell b3 [.int .i64 p.l,.slice q1 hd.ps.length k1] 59::.cell b2 [.int .i64 p.l,.slice qs p.ps.length caps] 59::mkJ u g p0 cap0 vf vo qt capt vn vp bx b8 M v7 (ps.length+(qu hd).length) (xs++xs5))→K (.tuple #[]) w8:=λs5 v7 xs5 w8 a5 hx5 S=>by
  refine h (s1.or s5) v7 (xs++xs5) w8 (a1.or' a5) ?_ ?_
  ·rw[gla];exact S.reGh.tl.tl
  ·exact afp (hx.mono λc x hx=>PlG.up hx) (hx5.mono λc x hx=>PlG.up (l:=⟨λb o ho=>.inr (.inr ho)⟩) hx)
 clear h
 refine⟨Yl (S.ld (b:=b8) ?_),?_⟩
 ·refine Zf S.holds hpd (by omega) λv5 s5 w5 e5 n5 h5=>⟨e5,?_⟩
  obtain⟨S,_,a5⟩:=S.tell e5 n5
  obtain⟨pp5,c5,rfl,hp5,_⟩:=h5.shape
  obtain⟨xs5,hx5,hs5⟩:=QN (by decide) h5
  refine S.ap (v:=.slice pv ps.length cv) (S.at hs5) (λv7 w7 S=>?_) (by omega) hx5.1 hp5 (jC hx5 (by decide) λc x hx=>aaE hx)
  obtain⟨p7,c7,rfl,_⟩:=S.rowS v7
  refine gg_ ?_
  refine S.st (b:=bx) (λw8 S=>?_) (by simp)
  exact fin s5 _ xs5 _ a5 hx5 S
 ·refine Zf S.holds hpd (by omega) λv5 s5 w5 e5 n5 h5=>⟨e5,?_⟩
  obtain⟨S,_,a5⟩:=S.tell e5 n5
  obtain⟨pp5,c5,rfl,hp5,_⟩:=h5.shape
  obtain⟨xs5,hx5,hs5⟩:=QN (by decide) h5
  refine⟨Yl (S.ld (b:=b8) ?_),?_⟩
  ·refine S.ap (v:=.slice pv ps.length cv) (S.at hs5) (λv7 w7 S=>?_) (by omega) hx5.1 hp5 (jC hx5 (by decide) λc x hx=>aaE hx)
   obtain⟨p7,c7,rfl,_⟩:=S.rowS v7
   refine gg_ ?_
   refine S.st (b:=bx) (λw8 S=>?_) (by simp)
   exact fin s5 _ xs5 _ a5 hx5 S
  ·refine S.ap (v:=.slice pv ps.length cv) (S.at hs5) (λv7 w7 S=>?_) (by omega) hx5.1 hp5 (jC hx5 (by decide) λc x hx=>aaE hx)
   obtain⟨p7,c7,rfl,_⟩:=S.rowS v7
   refine Yl (S.ld (b:=b8) ?_)
   refine gg_ ?_
   refine S.st (b:=bx) (λw8 S=>?_) (by simp)
   exact fin s5 _ xs5 _ a5 hx5 S
end
end
end Go.Proofs
namespace Go.Sh
open Go.RowKit
section
section
variable {P:Program} {X:Nat→Prop} {w0 w:World} {r:Gh} {L:List Asr} {t:TypeId}
theorem StX.boxE(S:StX X w0 r w L){K:Value→World→Prop}{v:Value}(h:StX X w0 r (w.alloc (.cells v.cells.toList.toArray t)) (.cell w.heap.size v.cells.toList t::L)→K (.pointer (some ⟨w.heap.size,0,none⟩)) (w.alloc (.cells v.cells.toList.toArray t))):opW P w (Instr.box t v) K:=by
 obtain⟨h1,h2,h3⟩:=kr w v.cells.toList t
 exact⟨_,_,by simp[Instr.box,newVar,newRow,newObj,Sem.run_bind,Sem.run,pure,Result.andThen],h (S.add h1 (by omega) h3)⟩
theorem ahL{K:Value→World→Prop}{e:TypeId}{len:Nat}{parts:Array (Nat×Value)}{cs:List Value}(hT:JD P t len parts=some (e,cs))
  (h:K (.slice (some ⟨w.heap.size,0,none⟩) len len) (w.alloc (.cells cs.toArray e))):
  opW P w (Instr.buildSlice t len parts) K:=by
 unfold JD at hT
 cases hu:P.underlying t with
 |none=>rw [hu]at hT;cases hT
 |some d=>
  rw[hu]at hT
  cases d<;>first|(cases hT;done)|skip
  rename_i e'
  simp only[Option.bind_eq_some_iff]at hT
  obtain⟨n,hn,hT⟩:=hT
  split at hT
  ·cases hT
  rename_i hbig
  simp only[Option.bind_eq_some_iff,Option.map_eq_some_iff,Prod.mk.injEq]at hT
  obtain⟨zero,hzero,cs',hfill,rfl,rfl⟩:=hT
  refine⟨_,_,?_,h⟩
  have hnew:∀cs:Array Value,(do pure (Value.slice (some (← newRow e' cs)) len len):Sem Value).run P w=.ok (.slice (some ⟨w.heap.size,0,none⟩) len len) (w.alloc (.cells cs e')):=λcs=>by
   simp only[Sem.run_bind,newRow,newObj,Sem.run,pure,Result.andThen];rfl
  have hcs:cs'.toList.toArray=cs':=by simp
  rw[hcs]
  by_cases h0:len*n=0
  ·rw[if_pos h0]at hzero
   cases hzero
   have :(Instr.buildSlice t len parts).run P w=(do pure (Value.slice (some (← newRow e' cs')) len len):Sem Value).run P w:=by
    simp only[Instr.buildSlice,Sem.run_bind,zr hu,Result.andThen,zM hn,hbig,if_false]
    rw[if_pos h0]
    simp only[Sem.run_bind,Sem.run_pure,Result.andThen]
    rw[hfill]
    rfl
   rw[this];exact hnew cs'
  ·rw[if_neg h0]at hzero
   simp only[Option.map_eq_some_iff]at hzero
   obtain⟨zl,hzl,rfl⟩:=hzero
   obtain⟨zv,hzv,hzr⟩:=Zt hzl
   have hzc:zl.toArray=zv.cells:=by rw[← hzv]
   rw[hzc]at hfill
   have :(Instr.buildSlice t len parts).run P w=(do pure (Value.slice (some (← newRow e' cs')) len len):Sem Value).run P w:=by
    simp only[Instr.buildSlice,Sem.run_bind,zr hu,Result.andThen,zM hn,hbig,if_false]
    rw[if_neg h0]
    simp only[Sem.run_bind,Sem.run_pure,Result.andThen,hzr]
    rw[hfill]
    rfl
   rw[this];exact hnew cs'
theorem aee{α:Type}[Inhabited α]{enc:α→Value}{w':World}{g q:Nat}{c:List Value}{e:TypeId}{d:Array α}{os:Array Obj}(B:Blk w g c e)(hd:d.size≤c.length)
  (hw:w'=Sort.grow (Sort.putRow enc (Sort.ahead w q) g 0 d) os):ExtBut (· = g) w w'∧Blk w' g (d.toList.map enc++c.drop d.size) e:=by
 subst hw
 have hg:g<w.heap.size:=(Array.getElem?_eq_some_iff.1 B).1
 have hput:∀k,(Sort.putRow enc (Sort.ahead w q) g 0 d).heap[k]? = if g=k then(w.heap[k]?).map (Sort.onCells (Sort.putCells enc 0 d))else w.heap[k]?:=λk=>by
  simp only[Sort.putRow,Sort.mapBlock,Array.getElem?_modify]
  split<;>rfl
 have hsz:(Sort.putRow enc (Sort.ahead w q) g 0 d).heap.size=w.heap.size:=by simp[Sort.ahead]
 refine⟨⟨rfl,rfl,rfl,by simp only[Sort.grow,Array.size_append,hsz];omega,λk hk hne=>?_⟩,?_⟩
 ·show((Sort.putRow enc (Sort.ahead w q) g 0 d).heap++os)[k]? = _
  rw[Array.getElem?_append_left (by rw[hsz];exact hk),hput,if_neg (λh=>hne h.symm)]
 ·show((Sort.putRow enc (Sort.ahead w q) g 0 d).heap++os)[g]? = _
  rw[Array.getElem?_append_left (by rw[hsz];exact hg),hput,if_pos rfl,B,Option.map_some]
  simp only[Sort.onCells]
  congr 2
  apply Array.ext_getElem?
  intro i
  simp only[Sort.putCells,Array.getElem?_mapIdx,List.getElem?_toArray,List.getElem?_append,List.length_map,Array.length_toList,List.getElem?_map,List.getElem?_drop,gzl,true_and,Nat.zero_add,Nat.sub_zero]
  by_cases hi:i<d.size
  ·rw[if_pos hi,gqg (by omega),Option.map_some,if_pos hi,Array.getElem?_toList,Array.getElem?_eq_getElem hi,getElem!_pos d i hi];rfl
  ·rw[if_neg hi,show d.size+(i-d.size)=i by omega]
   cases h:c[i]? with
   |none=>rfl
   |some x=>rw [Option.map_some,if_neg hi]
end
end
end Go.Sh
namespace Go.Proofs
open Go.Sh Go.RowKit
def xx:List Int→List Int→Int
 |[],[]=>0
 |[],_::_=>-1
 |_::_,[]=>1
 |x::l,y::m=>if x=y then xx l m else xn x y
def yd(p q:PlD):Int:=if p.l=q.l then xx p.ps q.ps else xn p.l q.l
theorem acw{x y:Int}:xn y x = - xn x y:=by
 unfold xn
 by_cases h1:x<y
 ·rw[if_neg (by omega),if_pos h1,if_pos h1];rfl
 ·by_cases h2:y<x
  ·rw[if_pos h2,if_neg h1,if_pos h2]
  ·rw[if_neg h2,if_neg h1,if_neg h1,if_neg h2];rfl
theorem jg{x y:Int}:xn x y<0↔x<y:=by
 unfold xn
 by_cases h1:x<y
 ·rw[if_pos h1];exact⟨λ_=>h1,λ_=>by decide⟩
 ·rw[if_neg h1]
  refine⟨λh=>?_,λh=>absurd h h1⟩
  split at h
  ·exact absurd h (by decide)
  ·exact absurd h (by decide)
theorem acx:∀{l m:List Int},xx m l = - xx l m
 |[],[]=>rfl
 |[],_::_=>rfl
 |_::_,[]=>rfl
 |x::l,y::m=>by
  rw[xx,xx]
  by_cases h:x=y
  ·rw[if_pos h,if_pos h.symm];exact acx
  ·rw[if_neg h,if_neg (λe=>h e.symm)];exact acw
theorem aa9:∀{l m:List Int},xx l m=0↔l=m
 |[],[]=>⟨λ_=>rfl,λ_=>rfl⟩
 |[],_::_=>⟨λh=>absurd h (by decide:¬(-1:Int)=0),λh=>by cases h⟩
 |_::_,[]=>⟨λh=>absurd h (by decide:¬(1:Int)=0),λh=>by cases h⟩
 |x::l,y::m=>by
  rw[xx]
  by_cases h:x=y
  ·rw[if_pos h,aa9,h];simp
  ·rw[if_neg h,xG]
   exact⟨λe=>absurd e h,λe=>by cases e;rfl⟩
theorem VT:∀{l m n:List Int},xx l m<0→xx m n<0→xx l n<0
 |[],_,[],h1,h2=>by
  rename_i m
  cases m with
  |nil=>exact absurd h1 (by decide)
  |cons y m=>exact absurd h2 (by decide:¬(1:Int)<0)
 |[],_,_::_,_,_=>by show(-1:Int)<0;decide
 |x::l,[],n,h1,_=>absurd h1 (by decide:¬(1:Int)<0)
 |x::l,y::m,[],_,h2=>absurd h2 (by decide:¬(1:Int)<0)
 |x::l,y::m,z::n,h1,h2=>by
  rw[xx]at h1 h2⊢
  by_cases e1:x=y
  ·subst e1
   rw[if_pos rfl]at h1
   by_cases e2:x=z
   ·rw[if_pos e2]at h2⊢;exact VT h1 h2
   ·rw[if_neg e2]at h2⊢;exact h2
  ·rw[if_neg e1,jg]at h1
   by_cases e2:y=z
   ·subst e2;rw[if_neg e1,jg];exact h1
   ·rw[if_neg e2,jg]at h2
    rw[if_neg (by omega),jg];omega
theorem jZ{p q:PlD}:yd q p = - yd p q:=by
 unfold yd
 by_cases h:p.l=q.l
 ·rw[if_pos h,if_pos h.symm];exact acx
 ·rw[if_neg h,if_neg (λe=>h e.symm)];exact acw
theorem x8{p q:PlD}:yd p q=0↔p=q:=by
 unfold yd
 rw[PlD.eq_iff]
 by_cases h:p.l=q.l
 ·rw[if_pos h,aa9];exact⟨λe=>⟨h,e⟩,λe=>e.2⟩
 ·rw[if_neg h,xG];exact⟨λe=>absurd e h,λe=>e.1⟩
theorem qc{p q s:PlD}(h1:yd p q<0)(h2:yd q s<0):yd p s<0:=by
 unfold yd at *
 by_cases e1:p.l=q.l
 ·rw[if_pos e1]at h1
  by_cases e2:q.l=s.l
  ·rw[if_pos e2]at h2;rw[if_pos (e1.trans e2)];exact VT h1 h2
  ·rw[if_neg e2]at h2;rw[if_neg (by omega),e1];exact h2
 ·rw[if_neg e1,jg]at h1
  by_cases e2:q.l=s.l
  ·rw[if_neg (by omega),jg];omega
  ·rw[if_neg e2,jg]at h2;rw[if_neg (by omega),jg];omega
theorem ac4{p q s:PlD}(h1:¬yd p q<0)(h2:¬yd q s<0):¬yd p s<0:=λh=>by
 have n1:=jZ (p:=p) (q:=q)
 have n2:=jZ (p:=q) (q:=s)
 have n3:=jZ (p:=p) (q:=s)
 by_cases e1:yd p q=0
 ·rw[x8]at e1;subst e1;exact h2 h
 by_cases e2:yd q s=0
 ·rw[x8]at e2;subst e2;exact h1 h
 have:=qc (p:=s) (q:=q) (s:=p) (by omega) (by omega)
 omega
theorem Q5{l m:List Int}{va vb:Value}{w:World}{r:Gh}{K:Value→World→Prop}(hr:Holds r w)(ha:SlB 1 r yN va l)(hb:SlB 1 r yN vb m)
  (h:K (.int .i64 (xx l m)) w):zb Tryz.prog Tryz.zT #[va,vb] w K:=by
 refine Tryz.xa ?_
 unfold Tryz.yj
 obtain⟨pa,ca,rfl,_,_⟩:=ha.sl.shape
 obtain⟨pb,cb,rfl,_,_⟩:=hb.sl.shape
 have hla:l.length≤9223372036854775807:=ha.few
 refine gp_ ?_
 refine zj (ι:=Nat) (λi=>[.int .i64 (i:Nat)]) (λi w'=>i≤l.length∧i≤m.length∧xx (l.drop i) (m.drop i)=xx l m∧w'=w) (λi=>l.length-i) 0 rfl ⟨gzl _,gzl _,rfl,rfl⟩ ?_
 rintro i d w4 ⟨hi,him,htk,rfl⟩ K1 hK1
 rw[gdz]
 refine gp_ ?_
 refine zh (λhlt=>?_) (λhge=>?_)
 ·have hlt:i<l.length:=by omega
  obtain⟨ba,oa,c,rfl,hcl,⟨rfl,_⟩,hca⟩:=ha.sl.get (by decide) hlt
  refine gp_ ?_
  refine zi (v:=.int .i64 l[i]) (by simpa using hca 0 _ rfl _ hr) ?_
  refine gp_ ?_
  refine gp_ ?_
  rw[List.drop_eq_getElem_cons hlt]at htk
  refine zh (λhbig=>?_) (λhsm=>?_)
  ·rw[List.drop_of_length_le (l:=m) (by omega)]at htk
   rw[← htk]at h
   exact h
  have hlt2:i<m.length:=by omega
  obtain⟨bb,ob,d,rfl,hdl,⟨rfl,_⟩,hcb⟩:=hb.sl.get (by decide) hlt2
  rw[List.drop_eq_getElem_cons hlt2,xx]at htk
  refine gp_ ?_
  refine zi (v:=.int .i64 m[i]) (by simpa using hcb 0 _ rfl _ hr) ?_
  refine YT ?_
  refine gp_ ?_
  refine zh (λhne=>?_) (λheq=>?_)
  ·rw[if_neg (λe=>hne (xG.2 e))]at htk
   rw[htk];exact h
  ·have he:l[i]=m[i]:=xG.1 (Decidable.not_not.1 heq)
   rw[if_pos he]at htk
   refine gp_ ?_
   exact hK1 (i+1) _ ⟨hlt,hlt2,htk,rfl⟩ (by omega)
 have hie:i=l.length:=by omega
 subst hie
 rw[List.drop_length]at htk
 refine gp_ ?_
 refine gp_ ?_
 refine gp_ ?_
 refine zh (λh1=>?_) (λh1=>?_)
 ·rw[List.drop_eq_getElem_cons (by omega)]at htk
  rw[← htk]at h
  exact h
 ·rw[List.drop_of_length_le (by omega)]at htk
  rw[← htk]at h
  exact h
theorem afq{x y:Int}{b:Nat}{w:World}{K:Value→World→Prop}(h0:w.cell? ⟨b,0,none⟩=some (.int .i64 x))(h1:w.cell? ⟨b,1,none⟩=some (.int .i64 y))
  (h:K (.int .i64 (if x≠0 then x else y)) w):zb Tryz.prog Tryz.js #[.slice (some ⟨b,0,none⟩) 2 2] w K:=by
 refine Tryz.Xy ?_
 unfold Tryz.ZQ
 refine gp_ ?_
 refine zj (ι:=Nat) (λi=>[.int .i64 (i:Nat)]) (λi w'=>i≤2∧(0<i→x=0)∧(1<i→y=0)∧w'=w) (λi=>2-i) 0 rfl ⟨by decide,λh=>absurd h (by decide),λh=>absurd h (by decide),rfl⟩ ?_
 rintro i d w4 ⟨hi,hx,hy,rfl⟩ K1 hK1
 rw[gdz]
 refine gp_ ?_
 refine zh (λhlt=>?_) (λhge=>?_)
 ·have hi2:i=0∨i=1:=by omega
  rcases hi2 with rfl|rfl
  ·refine gp_ ?_
   refine zi (v:=.int .i64 x) (by simpa using h0) ?_
   refine gp_ ?_
   refine zh (λhne=>?_) (λheq=>?_)
   ·rwa[if_pos hne]at h
   refine gp_ ?_
   exact hK1 1 _ ⟨by decide,λ_=>by omega,λh=>absurd h (by decide),rfl⟩ (by decide)
  ·refine gp_ ?_
   refine zi (v:=.int .i64 y) (by simpa using h1) ?_
   refine gp_ ?_
   refine zh (λhne=>?_) (λheq=>?_)
   ·rwa[if_neg (by have:=hx (by decide);omega)]at h
   refine gp_ ?_
   exact hK1 2 _ ⟨by decide,λ_=>hx (by decide),λ_=>by omega,rfl⟩ (by decide)
 have hie:i=2:=by omega
 subst hie
 rwa[if_neg (by have:=hx (by decide);omega),hy (by decide)]at h
theorem YZ{p q:PlD}{c d:List Value}{w:World}{r:Gh}{K:Value→World→Prop}(hr:Holds r w)(hp:PlG r c p)(hq:PlG r d q)
  (h:∀os,K (.int .i64 (yd p q)) (Sort.grow (w.drewN 1) os)):zb Tryz.prog Tryz.yp #[.agg c.toArray,.agg d.toArray] w K:=by
 refine Tryz.YR ?_
 unfold Tryz.vT
 obtain⟨v,rfl,hv⟩:=hp
 obtain⟨u,rfl,hu⟩:=hq
 obtain⟨pa,ca,rfl,_,_⟩:=hv.sl.shape
 obtain⟨pb,cb,rfl,_,_⟩:=hu.sl.shape
 have S:=St.start hr
 refine S.boxE λS=>?_
 refine S.boxE λS=>?_
 generalize hw2:(w.alloc _).alloc _=w2 at S⊢
 have hg2:∃os,w2=Sort.grow w os:=⟨_,by rw[← hw2,Sort.alloc_eq_grow,Sort.alloc_eq_grow,Sort.grow_grow]⟩
 clear hw2
 obtain⟨os2,rfl⟩:=hg2
 generalize w.heap.size=b2 at S⊢
 generalize (World.heap (w.alloc _)).size=b3 at S⊢
 have S:StX noX w r _ [.cell b3 [.int .i64 q.l,.slice pb q.ps.length cb] 59,.cell b2 [.int .i64 p.l,.slice pa p.ps.length ca] 59]:=S
 have S:=S.go (Ext.drew _)
 refine gg_ ?_
 refine Xz ⟨Ext.refl _,?_⟩
 refine Q5 S.holds hv hu ?_
 refine ahL (e:=3) (cs:=[.int .i64 (xn p.l q.l),.int .i64 (xx p.ps q.ps)]) (by kernel_rfl) ?_
 obtain⟨h1,h2,h3⟩:=kr (Sort.grow w os2).drew [.int .i64 (xn p.l q.l),.int .i64 (xx p.ps q.ps)] 3
 refine afq (by rw[h3.cell];rfl) (by rw[h3.cell];rfl) ?_
 have:=h (os2++#[.cells #[.int .i64 (xn p.l q.l),.int .i64 (xx p.ps q.ps)] 3])
 have e:yd p q=if xn p.l q.l≠0 then xn p.l q.l else xx p.ps q.ps:=by
  unfold yd
  by_cases h:p.l=q.l
  ·rw[if_pos h,if_neg (by rw[Decidable.not_not];exact xG.2 h)]
  ·rw[if_neg h,if_pos (λe=>h (xG.1 e))]
 rw[← e,Sort.alloc_eq_grow]
 have e2:Sort.grow (Sort.grow w os2).drew #[.cells #[.int .i64 (xn p.l q.l),.int .i64 (xx p.ps q.ps)] 3]=Sort.grow (w.drewN 1) (os2++#[.cells #[.int .i64 (xn p.l q.l),.int .i64 (xx p.ps q.ps)] 3]):=by
  rw[← Sort.grow_grow];rfl
 rw[e2]
 exact this
end Go.Proofs
namespace Go.Proofs
open Go.Shelf
def Tryz.aef:Go.Shelf.Ren:=⟨fun|6=>73|15=>88|14=>98|28=>118|29=>119|20=>126|21=>127|22=>128|23=>129|24=>130|25=>131|26=>132|27=>133|46=>184|47=>147|48=>148|49=>185|50=>186|57=>208|n=>n,fun|22=>37|24=>59|25=>108|3=>3|39=>137|0=>0|53=>174|55=>176|4=>4|46=>167|45=>166|50=>106|5=>5|9=>9|66=>196|70=>200|76=>248|77=>249|n=>n,fun|n=>n⟩
theorem Tryz.ahM:Go.Proofs.SlLaysF0.n6 Tryz.prog Tryz.aef:={
 mixed:=by kernel_rfl
 f6:=⟨Tryz.f73.name,by decide,Tryz.func73.trans (congrArg some (by kernel_rfl))⟩
 f14:=⟨Tryz.f98.name,by decide,Tryz.func98.trans (congrArg some (by kernel_rfl))⟩
 f15:=Tryz.func88.trans (congrArg some (by kernel_rfl))
 f20:=⟨Tryz.f126.name,by decide,Tryz.func126.trans (congrArg some (by kernel_rfl))⟩
 f21:=⟨Tryz.f127.name,by decide,Tryz.func127.trans (congrArg some (by kernel_rfl))⟩
 f22:=⟨Tryz.f128.name,by decide,Tryz.func128.trans (congrArg some (by kernel_rfl))⟩
 f23:=⟨Tryz.f129.name,by decide,Tryz.func129.trans (congrArg some (by kernel_rfl))⟩
 f24:=⟨Tryz.f130.name,by decide,Tryz.func130.trans (congrArg some (by kernel_rfl))⟩
 f25:=⟨Tryz.f131.name,by decide,Tryz.func131.trans (congrArg some (by kernel_rfl))⟩
 f26:=⟨Tryz.f132.name,by decide,Tryz.func132.trans (congrArg some (by kernel_rfl))⟩
 f27:=⟨Tryz.f133.name,by decide,Tryz.func133.trans (congrArg some (by kernel_rfl))⟩
 f28:=Tryz.func118.trans (congrArg some (by kernel_rfl))
 f29:=Tryz.func119.trans (congrArg some (by kernel_rfl))
 f46:=⟨Tryz.f184.name,by decide,Tryz.func184.trans (congrArg some (by kernel_rfl))⟩
 f47:=Tryz.func147.trans (congrArg some (by kernel_rfl))
 f48:=Tryz.func148.trans (congrArg some (by kernel_rfl))
 f49:=⟨Tryz.f185.name,by decide,Tryz.func185.trans (congrArg some (by kernel_rfl))⟩
 f50:=⟨Tryz.f186.name,by decide,Tryz.func186.trans (congrArg some (by kernel_rfl))⟩
 f57:=⟨Tryz.f208.name,by decide,Tryz.func208.trans (congrArg some (by kernel_rfl))⟩
 t0:=Tryz.underlying0
 a0:=Tryz.isAgg0
 z0:=Tryz.sizeOf0
 v0:=Tryz.zeroValue0
 t3:=Tryz.underlying3
 a3:=Tryz.isAgg3
 z3:=Tryz.sizeOf3
 v3:=Tryz.zeroValue3
 t4:=Tryz.underlying4
 a4:=Tryz.isAgg4
 z4:=Tryz.sizeOf4
 v4:=Tryz.zeroValue4
 t5:=Tryz.underlying5
 a5:=Tryz.isAgg5
 z5:=Tryz.sizeOf5
 v5:=Tryz.zeroValue5
 t9:=Tryz.underlying9
 a9:=Tryz.isAgg9
 z9:=Tryz.sizeOf9
 v9:=Tryz.zeroValue9
 t22:=Tryz.underlying37
 a22:=Tryz.isAgg37
 z22:=Tryz.sizeOf37
 v22:=Tryz.zeroValue37
 t25:=Tryz.underlying108
 a25:=Tryz.isAgg108
 z25:=Tryz.sizeOf108
 v25:=Tryz.zeroValue108
 t39:=Tryz.underlying137
 a39:=Tryz.isAgg137
 z39:=Tryz.sizeOf137
 v39:=Tryz.zeroValue137
 t45:=Tryz.underlying166
 a45:=Tryz.isAgg166
 z45:=Tryz.sizeOf166
 v45:=Tryz.zeroValue166
 t46:=Tryz.underlying167
 a46:=Tryz.isAgg167
 z46:=Tryz.sizeOf167
 v46:=Tryz.zeroValue167
 t50:=Tryz.underlying106
 a50:=Tryz.isAgg106
 z50:=Tryz.sizeOf106
 v50:=Tryz.zeroValue106
 t53:=Tryz.underlying174
 a53:=Tryz.isAgg174
 z53:=Tryz.sizeOf174
 v53:=Tryz.zeroValue174
 t55:=Tryz.underlying176
 a55:=Tryz.isAgg176
 z55:=Tryz.sizeOf176
 v55:=Tryz.zeroValue176
 t66:=Tryz.underlying196
 a66:=Tryz.isAgg196
 z66:=Tryz.sizeOf196
 v66:=Tryz.zeroValue196
 t70:=Tryz.underlying200
 a70:=Tryz.isAgg200
 z70:=Tryz.sizeOf200
 v70:=Tryz.zeroValue200
 t76:=Tryz.underlying248
 a76:=Tryz.isAgg248
 z76:=Tryz.sizeOf248
 v76:=Tryz.zeroValue248
 t77:=Tryz.underlying249
 a77:=Tryz.isAgg249
 z77:=Tryz.sizeOf249
 v77:=Tryz.zeroValue249 }
end Go.Proofs
namespace Go.Proofs
open Go.Sh Go.RowKit
section
abbrev PlX(r:Gh):={x:List Value×PlD // PlG r x.1 x.2}
instance aiS {r:Gh}:Inhabited (PlX r):=⟨⟨([.int .i64 0,.slice none 0 0],⟨0,[]⟩),⟨_,rfl,yV⟩⟩⟩
def yv{r:Gh}(x:PlX r):List Value:=x.1.1
theorem acz{r:Gh}(x:PlX r):(yv x).length=2:=by
 obtain⟨v,h,_⟩:=x.2
 rw[yv,h];rfl
theorem agi{r:Gh}(x:PlX r):∀v∈yv x,v.oneCell'=true:=by
 obtain⟨v,h,h1⟩:=x.2
 obtain⟨q,k,rfl,_⟩:=h1.sl.shape
 rw[yv,h];simp[Value.oneCell']
theorem aiN{r:Gh}:Sort.SWO (ltOf λx y:PlX r=>yd x.1.2 y.1.2) where
 irrefl x:=decide_eq_false (by show¬yd x.1.2 x.1.2<0;rw[x8.2 rfl];decide)
 trans x y z h1 h2:=gde (qc (of_decide_eq_true h1) (of_decide_eq_true h2))
 ntrans x y z h1 h2:=decide_eq_false (ac4 (of_decide_eq_false h1) (of_decide_eq_false h2))
theorem air{r:Gh}{d:Array (PlX r)}:RowOf 2 (PlG r) (Sort.flatK yv 2 d).toList (d.toList.map λx=>x.1.2):=by
 have hs:=Sort.size_flatK yv 2 d
 refine⟨by simp,λj hj=>?_⟩
 have hj:j<d.size:=by simpa using hj
 have e:((Sort.flatK yv 2 d).toList.drop (j*2)).take 2=yv d[j]:=by
  have hl:=acz d[j]
  apply List.ext_getElem
  ·rw[List.length_take,List.length_drop,hl];simp;omega
  ·intro k h1 h2
   rw[hl]at h2
   rw[List.getElem_take,List.getElem_drop,Array.getElem_toList]
   have:=Sort.get_flatK yv 2 d (j*2+k) (by omega)
   rw[getElem!_pos (Sort.flatK yv 2 d) _ (by rw[hs];omega)]at this
   rw[this,show (j*2+k)/2=j by omega,show (j*2+k)%2=k by omega,getElem!_pos d j hj,getElem!_pos _ k (by omega)]
 rw[e]
 have:=d[j].2
 simpa [yv]using this
theorem aeg{v:Value}{ps:List PlD}{xs:List Value}{X:Nat→Prop}{w0 w:World}{r:Gh}{L:List Asr}{K:Value→World→Prop}(S:StX X w0 r w (.row v 59 2 ps.length xs::L))(hx:RowOf 2 (PlG r) xs ps)(h0:0<ps.length)(hl:ps.length<4611686018427387904)
  (h:∀w' xs' ps',ps'.Perm ps→ps'.Pairwise (λp q=>yd p q≤0)→RowOf 2 (PlG r) xs' ps'→StX X w0 r w' (.row v 59 2 ps'.length xs'::L)→K (.tuple #[]) w'):zb Tryz.prog Tryz.yY #[v,.func (.func Tryz.yp) #[] #[]] w K:=by
 have hr:w.ownsRow 0 59 2 v ps.length xs:=S.has _ (List.mem_cons_self ..)
 rcases qR hr with⟨rfl,h1,h2⟩|⟨g,cap,c,rfl,hg,B,hn,hm,hcl,ht⟩
 ·omega
 have hxl:xs.length=ps.length*2:=hx.1
 obtain⟨d,hd1,hd2,hd3⟩:∃d:Array (PlX r),d.size=ps.length∧(Sort.flatK yv 2 d).toList=xs∧(d.toList.map λx=>x.1.2)=ps:=by
  refine⟨Array.ofFn (n:=ps.length) λi=>⟨((xs.drop (i.1*2)).take 2,ps[i.1]),hx.2 i.1 i.2⟩,by simp,?_,?_⟩
  ·apply List.ext_getElem
   ·simp[hxl]
   ·intro t h1 h2
    have ht2:t<ps.length*2:=by omega
    have:=Sort.get_flatK yv 2 (Array.ofFn (n:=ps.length) λi=>(⟨((xs.drop (i.1*2)).take 2,ps[i.1]),hx.2 i.1 i.2⟩:PlX r)) t (by simpa using ht2)
    rw[getElem!_pos _ _ (by simpa using ht2)]at this
    rw[Array.getElem_toList,this,getElem!_pos _ (t/2) (by simp;omega)]
    simp only[Array.getElem_ofFn,yv]
    rw[getElem!_pos _ _ (by rw[List.length_take,List.length_drop];omega),List.getElem_take,List.getElem_drop]
    congr 1;omega
  ·apply List.ext_getElem
   ·simp
   ·intro t h1 h2
    simp
 have hfs:=Sort.size_flatK yv 2 d
 have hcell:∀j,j<ps.length*2→w.cell? ⟨g,j,none⟩=some (Sort.flatK yv 2 d)[j]!:=λj hj=>by
  have h1:(c.take (ps.length*2))[j]? = some (Sort.flatK yv 2 d)[j]!:=by
   rw[ht,← hd2,Array.getElem?_toList,Array.getElem?_eq_getElem (by omega),getElem!_pos _ _ (by omega)]
  rw[List.getElem?_take,if_pos hj]at h1
  rw[B.cell];exact h1
 have hfz:∀j,w.frozen? ⟨g,j,none⟩=false:=λj=>B.unfrozen j
 have hgl:=(Array.getElem?_eq_some_iff.1 B).1
 have turn:∀(w':World)(m:Nat)(os:Array Obj)(dk:Array (PlX r)),dk.size=d.size→w'=sortWorldK yv 2 w g 0 m dk os→
   StX X w0 r w' (.row (.slice (some ⟨g,0,none⟩) ps.length cap) 59 2 ps.length (Sort.flatK yv 2 dk).toList::L):=λw' m os dk hs hw=>by
  have hks:=Sort.size_flatK yv 2 dk
  obtain⟨hE,hB⟩:=aee (enc:=id) (d:=Sort.flatK yv 2 dk) (w':=w') (q:=m) (os:=os) B (by omega) hw
  refine S.turn (p:=[]) (x:=.row (.slice (some ⟨g,0,none⟩) ps.length cap) 59 2 ps.length xs) (y:=.row (.slice (some ⟨g,0,none⟩) ps.length cap) 59 2 ps.length (Sort.flatK yv 2 dk).toList) ?_ ?_ λk hk=>.inl hk
  ·exact hE.mono λk _ hk=>by subst hk;rfl
  ·have:=jj (base:=0) (e:=59) (size:=2) (n:=ps.length) (cap:=cap) (gzl _) hB hn hm (by simp;omega)
   have e:((Sort.flatK yv 2 dk).toList.map id++c.drop (Sort.flatK yv 2 dk).size).take (ps.length*2)=(Sort.flatK yv 2 dk).toList:=by
    have hlk:(Sort.flatK yv 2 dk).toList.length=dk.size*2:=by rw[Array.length_toList (xs:=Sort.flatK yv 2 dk)];exact hks
    rw[List.map_id,List.take_append_of_le_length (by omega)]
    exact List.take_of_length_le (by omega)
   rwa[e]at this
 have hcmp:CmpLays Tryz.prog Tryz.yp #[] yv 2 (λx y:PlX r=>yd x.1.2 y.1.2) g 0 d.size w:=λm os dk hs x y=>by
  have T:=turn _ m os dk hs rfl
  have:=YZ (K:=λv w'=>v=.int .i64 (yd x.1.2 y.1.2)∧∃os',w'=Sort.grow ((sortWorldK yv 2 w g 0 m dk os).drewN 1) os') T.holds x.2 y.2 λos'=>⟨rfl,os',rfl⟩
  exact Calls.mono this λe w' ⟨v,h1,h2,os',h3⟩=>⟨by rw[h1,h2],1,os',h3⟩
 have hH:Sort.HoldsK yv 2 w g 0 d:=λj hj=>by
  rw[hfs,hd1]at hj
  exact⟨by rw[Nat.zero_add];exact hcell j hj,hfz _⟩
 have key:=AnyQ.slices_SortFunc Tryz.ahM 2 Tryz.isAgg59 Tryz.sizeOf59 yv acz agi (λx y:PlX r=>yd x.1.2 y.1.2) aiN Tryz.yp #[] g 0 cap d w (λargs w=>kK (by kernel_rfl) args w) hcmp hH hgl (by omega)
 rw[hd1]at key
 refine Calls.mono key ?_
 rintro e w' ⟨rfl,d',n,os,hp,hs,hw⟩
 have hsz:d'.size=d.size:=hp.1
 have T:=turn w' n os d' hsz hw
 have e1:(d'.toList.map λx=>x.1.2).length=ps.length:=by simp;omega
 refine⟨_,rfl,h w' _ (d'.toList.map λx=>x.1.2) ?_ ?_ air (by rw[e1];exact T)⟩
 ·have h3:=hp.2.2
  rw[← hd3]
  refine List.Perm.map _ ?_
  have a1:d'.extract 0 ps.length=d':=by rw[← hd1,← hsz];simp
  have a2:d.extract 0 ps.length=d:=by rw[← hd1];simp
  rwa[a1,a2]at h3
 ·rw[List.pairwise_map,List.pairwise_iff_getElem]
  intro i j hi hj hij
  have h3:=of_decide_eq_false (hs i j (gzl _) hij (by simp at hj;omega))
  simp only[Array.length_toList]at hi hj
  rw[getElem!_pos d' i hi,getElem!_pos d' j hj]at h3
  simp only[Array.getElem_toList]
  have h3:¬yd d'[j].1.2 d'[i].1.2<0:=h3
  have:=jZ (p:=d'[i].1.2) (q:=d'[j].1.2)
  omega
def j0(l:List PlD):Prop:=l.Pairwise λp q=>yd p q<0
def LeP(l:List PlD):Prop:=l.Pairwise λp q=>yd p q≤0
def Yz(p:PlD):List PlD→List PlD
 |[]=>[p]
 |q::l=>if yd q p<0 then q::Yz p l else if yd q p=0 then q::l else p::q::l
theorem vH{p:PlD}:yd p p=0:=x8.2 rfl
theorem acA{p q s:PlD}(h1:yd p q≤0)(h2:yd q s<0):yd p s<0:=by
 rcases Int.lt_or_eq_of_le h1 with h|h
 ·exact qc h h2
 ·rw[x8.1 h];exact h2
theorem aaF{p:PlD}:∀{l:List PlD}{x:PlD},x∈Yz p l↔x=p∨x∈l
 |[],x=>by simp[Yz]
 |q::l,x=>by
  rw[Yz]
  split
  ·rw[List.mem_cons,aaF,List.mem_cons]
   exact⟨λh=>h.elim (λh=>.inr (.inl h)) λh=>h.elim .inl λh=>.inr (.inr h),λh=>h.elim (λh=>.inr (.inl h)) λh=>h.elim .inl λh=>.inr (.inr h)⟩
  ·split
   ·rename_i h
    rw[x8]at h
    subst h
    rw[List.mem_cons]
    exact⟨λh=>.inr h,λh=>h.elim .inl id⟩
   ·rw[List.mem_cons]
theorem adq{p:PlD}:∀{l:List PlD},j0 l→j0 (Yz p l)
 |[],_=>List.pairwise_singleton _ _
 |q::l,h=>by
  have h0:=h
  obtain⟨h1,h2⟩:=List.pairwise_cons.1 h
  rw[Yz]
  split
  ·rename_i hq
   refine List.pairwise_cons.2 ⟨λx hx=>?_,adq h2⟩
   rcases aaF.1 hx with rfl|hx
   ·exact hq
   ·exact h1 x hx
  ·rename_i hq
   split
   ·exact h0
   ·rename_i hz
    have hpq:yd p q<0:=by have:=jZ (p:=q) (q:=p);omega
    refine List.pairwise_cons.2 ⟨λx hx=>?_,h0⟩
    rcases List.mem_cons.1 hx with rfl|hx
    ·exact hpq
    ·exact qc hpq (h1 x hx)
theorem adr:∀{l m:List PlD},j0 l→j0 m→(∀x,x∈l↔x∈m)→l=m
 |[],[],_,_,_=>rfl
 |[],y::m,_,_,h=>absurd ((h y).2 List.mem_cons_self) (by simp)
 |x::l,[],_,_,h=>absurd ((h x).1 List.mem_cons_self) (by simp)
 |x::l,y::m,hl,hm,h=>by
  obtain⟨a1,a2⟩:=List.pairwise_cons.1 hl
  obtain⟨b1,b2⟩:=List.pairwise_cons.1 hm
  have hxy:x=y:=by
   rcases List.mem_cons.1 ((h x).1 List.mem_cons_self)with e|h1
   ·exact e
   rcases List.mem_cons.1 ((h y).2 List.mem_cons_self)with e|h2
   ·exact e.symm
   have k1:=b1 x h1
   have k2:=a1 y h2
   have:=jZ (p:=x) (q:=y)
   omega
  subst hxy
  refine congrArg _ (adr a2 b2 λz=>⟨λhz=>?_,λhz=>?_⟩)
  ·rcases List.mem_cons.1 ((h z).1 (List.mem_cons_of_mem _ hz))with e|hz'
   ·subst e
    have:=a1 z hz
    rw[vH]at this
    omega
   ·exact hz'
  ·rcases List.mem_cons.1 ((h z).2 (List.mem_cons_of_mem _ hz))with e|hz'
   ·subst e
    have:=b1 z hz
    rw[vH]at this
    omega
   ·exact hz'
def aaG(l:List PlD):List PlD:=l.foldl (λm p=>Yz p m) []
theorem J7:∀{l m:List PlD},j0 m→j0 (l.foldl (λm p=>Yz p m) m)∧∀x,x∈l.foldl (λm p=>Yz p m) m↔x∈l∨x∈m
 |[],m,h=>⟨h,λx=>by simp⟩
 |p::l,m,h=>by
  obtain⟨h1,h2⟩:=J7 (l:=l) (m:=Yz p m) (adq h)
  refine⟨h1,λx=>?_⟩
  rw[List.foldl_cons,h2,aaF,List.mem_cons]
  exact⟨λh=>h.elim (λh=>.inl (.inr h)) λh=>h.elim (λh=>.inl (.inl h)) .inr,λh=>h.elim (λh=>h.elim (λh=>.inr (.inl h)) .inl) λh=>.inr (.inr h)⟩
theorem ads{l:List PlD}:j0 (aaG l):=(J7 List.Pairwise.nil).1
theorem adt{l:List PlD}{x:PlD}:x∈aaG l↔x∈l:=by
 rw[aaG,(J7 List.Pairwise.nil).2];simp
theorem ahN{l q:List PlD}(h:j0 q)(hm:∀x,x∈q↔x∈l):q=aaG l:=adr h ads λx=>(hm x).trans adt.symm
def RlP(q l:List PlD):Prop:=j0 q∧∀x,x∈q↔x∈l
theorem adu{q l:List PlD}{t:Nat}(h:RlP q (l.take t))(ht:t<l.length)(h0:0<t)(he:l[t]=l[t-1]):RlP q (l.take (t+1)):=⟨h.1,λx=>by
 rw[h.2,List.take_succ_eq_append_getElem ht,List.mem_append,List.mem_singleton]
 refine⟨.inl,λhx=>hx.elim id λhx=>?_⟩
 rw[hx,he]
 exact List.mem_take_iff_getElem.2 ⟨t-1,by omega,rfl⟩⟩
theorem afr{q l:List PlD}{t:Nat}(hl:LeP l)(h:RlP q (l.take t))(ht:t<l.length)(h0:0<t)(he:l[t]≠l[t-1]):RlP (q++[l[t]]) (l.take (t+1)):=by
 have hp:=List.pairwise_iff_getElem.1 hl
 refine⟨List.pairwise_append.2 ⟨h.1,List.pairwise_singleton _ _,λx hx y hy=>?_⟩,λx=>by rw[List.mem_append,h.2,List.take_succ_eq_append_getElem ht,List.mem_append]⟩
 rw[List.mem_singleton.1 hy]
 obtain⟨j,hj,rfl⟩:=List.mem_take_iff_getElem.1 ((h.2 x).1 hx)
 have h1:=hp (t-1) t (by omega) ht (by omega)
 have h2:yd l[t-1] l[t]<0:=by
  rcases Int.lt_or_eq_of_le h1 with h|h
  ·exact h
  ·exact absurd (x8.1 h).symm he
 rcases Nat.lt_or_ge j (t-1)with hlt|hge
 ·exact acA (hp j (t-1) (by omega) (by omega) hlt) h2
 ·obtain rfl:j=t-1:=by omega
  exact h2
abbrev qP(c:List Value)(i:Nat):List Value:=(c.drop (i*2)).take 2
theorem xV{r:Gh}{c:List Value}{p:PlD}(h:PlG r c p):c.length=2:=by obtain⟨v,rfl,_⟩:=h;rfl
theorem ahO{r:Gh}{c:List Value}{p:PlD}(h:PlG r c p):∀u∈c,u.oneCell'=true:=by
 obtain⟨v,rfl,hl⟩:=h
 obtain⟨q,k,rfl,_⟩:=hl.sl.shape
 simp[Value.oneCell']
theorem ag0{c cs:List Value}{i m:Nat}(hc:i*2+2≤c.length)(hl:cs.length=2)(hm:i<m):qP (c.take (i*2)++cs++c.drop (i*2+2)) m=qP c m:=by
 have e:(c.take (i*2)++cs++c.drop (i*2+2)).drop (m*2)=c.drop (m*2):=by
  rw[List.drop_append,List.drop_of_length_le (by rw[gla,List.length_take,hl];omega),List.nil_append,gla,List.length_take,hl,List.drop_drop]
  congr 1;omega
 rw[qP,e]
theorem agj{c cs:List Value}{i:Nat}(hc:i*2+2≤c.length)(hl:cs.length=2):(c.take (i*2)++cs++c.drop (i*2+2)).take ((i+1)*2)=c.take (i*2)++cs:=by
 rw[List.take_append_of_le_length (by rw[gla,List.length_take,hl];omega),List.take_of_length_le (by rw[gla,List.length_take,hl];omega)]
abbrev afs:Value:=.func (.func Tryz.jr) #[] #[]
theorem aft{p q:PlD}{c d:List Value}{X:Nat→Prop}{w0 w:World}{r:Gh}{L:List Asr}{K:Value→World→Prop}(S:StX X w0 r w L)(hp:PlG r c p)(hq:PlG r d q)(h:∀w',StX X w0 r w' L→K (.bool (eqb p q)) w'):zx Tryz.prog afs #[.agg c.toArray,.agg d.toArray] w K:=
 abF (by kernel_rfl) (Ql S.holds hp hq λw' e=>h w' (S.go e))
theorem XC{ps:List PlD}{b n cap:Nat}{c:List Value}{X:Nat→Prop}{w0 w:World}{r:Gh}{L:List Asr}{K:Value→World→Prop}(S:StX X w0 r w (.cell b c 59::L))(hn:n=ps.length)(hb:n≤1000000000)(hnc:n≤cap)(hc:c.length=cap*2)(hs:LeP ps)
  (hrow:∀(i:Nat)(hi:i<ps.length),PlG r (qP c i) ps[i])
  (h:∀q c' w',RlP q ps→q.length≤cap→StX X w0 r w' (.cell b c' 59::L)→c'.length=cap*2→RowOf 2 (PlG r) (c'.take (q.length*2)) q→K (.slice (some ⟨b,0,none⟩) q.length cap) w'):
  zb Tryz.prog Tryz.zL #[.slice (some ⟨b,0,none⟩) n cap,afs] w K:=by
 subst hn
 refine Tryz.xX ?_
 unfold Tryz.yJ
 have hrow0:∀k,k≤ps.length→RowOf 2 (PlG r) (c.take (k*2)) (ps.take k):=λk hk=>⟨by rw[List.length_take,List.length_take];omega,λi hi=>by
  rw[List.length_take]at hi
  rw[List.getElem_take,List.drop_take,List.take_take,Nat.min_eq_left (by omega)]
  exact hrow i (by omega)⟩
 have hall:RlP ps ps→∀w',StX X w0 r w' (.cell b c 59::L)→K (.slice (some ⟨b,0,none⟩) ps.length cap) w':=λhr w' S=>
  h ps c w' hr hnc S hc (by have:=hrow0 ps.length (Nat.le_refl _);rwa[List.take_length]at this)
 have h1:RlP (ps.take 1) (ps.take 1):=⟨by
  cases ps with
  |nil=>exact List.Pairwise.nil
  |cons x l=>exact List.pairwise_singleton _ _,λx=>Iff.rfl⟩
 refine gp_ ?_
 refine gp_ ?_
 refine zh (λhlt=>?_) (λhge=>?_)
 ·refine hall ?_ w S
  rw[List.take_of_length_le (by omega)]at h1
  exact h1
 refine zj (ι:=Nat) (λi=>[.int .i64 (i:Nat)]) (λi w'=>1≤i∧i≤ps.length∧RlP (ps.take i) (ps.take i)∧StX X w0 r w' (.cell b c 59::L)) (λi=>ps.length-i) 1 rfl ⟨Nat.le_refl _,by omega,h1,S⟩ ?_
 clear S
 rintro k d w4 ⟨hk1,hk2,hr,S⟩ K1 hK1
 rw[gdz]
 refine gp_ ?_
 refine gp_ ?_
 refine zh (λhlt=>?_) (λhge=>?_)
 rotate_left
 ·rw[List.take_of_length_le (by omega)]at hr
  exact hall hr w4 S
 have hlt:k<ps.length:=by omega
 have S:=S.go (Ext.drew _)
 refine s_c (by omega) ?_
 rw[show 0+((k:Nat):Int).toNat*2=k*2 by omega]
 refine S.ldN (b:=b) (vs:=qP c k) ?_ rfl (xV (hrow k hlt))
 refine gp_ ?_
 refine s_c (by omega) ?_
 rw[show 0+((k:Int)-1).toNat*2=(k-1)*2 by omega]
 refine S.ldN (b:=b) (vs:=qP c (k-1)) ?_ rfl (xV (hrow (k-1) (by omega)))
 refine aft S (hrow k hlt) (hrow (k-1) (by omega)) λw5 S=>?_
 refine c_b (λhe=>?_) (λhne=>?_)
 rotate_left
 ·have hne:ps[k]≠ps[k-1]:=λe=>by rw[e,acm]at hne;cases hne
  refine gp_ ?_
  refine hK1 (k+1) _ ⟨by omega,hlt,?_,S⟩ (by omega)
  have:=afr hs hr hlt (by omega) hne
  rw[← List.take_succ_eq_append_getElem hlt]at this
  exact this
 have he:=jV.1 he
 clear hK1 hall
 refine gp_ ?_
 rw[if_neg (by omega),Option.map_some,yS,tnc,Nat.zero_add]
 have hr2:=adu hr hlt (by omega) he
 refine zj (ι:=Nat×Nat×List PlD×List Value) (λi=>[.int .i64 (i.1:Nat),.int .i64 (i.2.1:Nat)]) (λi w'=>1≤i.2.1∧i.1+1≤k+i.2.1∧k+i.2.1≤ps.length∧i.2.2.1.length=i.1∧RlP i.2.2.1 (ps.take (k+i.2.1))∧i.2.2.2.length=cap*2∧RowOf 2 (PlG r) (i.2.2.2.take (i.1*2)) i.2.2.1∧
  (∀(m:Nat)(hm:m<ps.length),k+i.2.1≤m+1→PlG r (qP i.2.2.2 m) ps[m])∧StX X w0 r w' (.cell b i.2.2.2 59::L)) (λi=>ps.length-i.2.1) (k,1,ps.take k,c) (by simp) ⟨Nat.le_refl _,Nat.le_refl _,hlt,by rw[List.length_take];omega,hr2,hc,hrow0 k (by omega),λm hm _=>hrow m hm,S⟩ ?_
 clear S hr hr2
 rintro⟨i,t,q,c1⟩ d9 w9 ⟨ht,hit,hkt,hq,hr,hc1,hx,hrest,S⟩ K6 hK6
 simp only at ht hit hkt hq hr hc1 hx hrest S⊢
 simp only[gdz,gds]
 refine gp_ ?_
 refine gp_ ?_
 refine zh (λhlt2=>?_) (λhge2=>?_)
 ·have hlt2:k+t<ps.length:=by omega
  have hg1:=hrest (k+t) hlt2 (by omega)
  have hg2:=hrest (k+t-1) (by omega) (by omega)
  have S:=S.go (Ext.drew _)
  refine zs (λs w'=>∃i' q' c',s=[.int .i64 (i':Nat)]∧i'≤k+t∧q'.length=i'∧RlP q' (ps.take (k+t+1))∧c'.length=cap*2∧RowOf 2 (PlG r) (c'.take (i'*2)) q'∧
   (∀(m:Nat)(hm:m<ps.length),k+t≤m→PlG r (qP c' m) ps[m])∧StX X w0 r w' (.cell b c' 59::L)) (λK10 hK10=>?_) ?_
  rotate_left
  ·clear S
   rintro _ w13 ⟨i',q',c',rfl,g1,g2,g3,g4,g5,g6,S⟩ d13
   rw[gdz]
   refine gp_ ?_
   rw[show ((t:Int)+1)=((t+1:Nat):Int)by omega]
   exact hK6 (i',t+1,q',c') _ ⟨by show 1≤t+1;omega,by show i'+1≤k+(t+1);omega,by show k+(t+1)≤ps.length;omega,g2,g3,g4,g5,λm hm hkm=>g6 m hm (by change k+(t+1)≤m+1 at hkm;omega),S⟩ (by show ps.length-(t+1)<ps.length-t;omega)
  refine s_c (by omega) ?_
  rw[show k*2+((t:Nat):Int).toNat*2=(k+t)*2 by omega]
  refine S.ldN (b:=b) (vs:=qP c1 (k+t)) ?_ rfl (xV hg1)
  refine gp_ ?_
  refine s_c (by omega) ?_
  rw[show k*2+((t:Int)-1).toNat*2=(k+t-1)*2 by omega]
  refine S.ldN (b:=b) (vs:=qP c1 (k+t-1)) ?_ rfl (xV hg2)
  refine aft S hg1 hg2 λw14 S=>?_
  refine gp_ ?_
  by_cases he2:ps[k+t]=ps[k+t-1]
  ·refine c_f (by rw[he2,acm];rfl) ?_
   exact hK10 _ _ ⟨i,q,c1,rfl,by omega,hq,adu hr hlt2 (by omega) he2,hc1,hx,λm hm hkm=>hrest m hm (by omega),S⟩
  ·refine c_t (by rw[afh he2];rfl) ?_
   refine s_c (by omega) ?_
   rw[show k*2+((t:Nat):Int).toNat*2=(k+t)*2 by omega]
   refine S.ldN (b:=b) (vs:=qP c1 (k+t)) ?_ rfl (xV hg1)
   refine s_c (by omega) ?_
   rw[show 0+((i:Nat):Int).toNat*2=i*2 by omega]
   refine S.stN (b:=b) (cs:=(qP c1 (k+t)).toArray) (λw15 S=>?_) (by omega) (by simpa using xV hg1) (by simpa using ahO hg1)
   have S:StX X w0 r w15 (.cell b (c1.take (i*2)++qP c1 (k+t)++c1.drop (i*2+2)) 59::L):=S
   refine gp_ ?_
   rw[show ((i:Int)+1)=((i+1:Nat):Int)by omega]
   refine hK10 _ _ ⟨i+1,q++[ps[k+t]],c1.take (i*2)++qP c1 (k+t)++c1.drop (i*2+2),rfl,by omega,by rw[gla,hq];rfl,afr hs hr hlt2 (by omega) he2,?_,?_,λm hm hkm=>?_,S⟩
   ·rw[gla,gla,List.length_take,List.length_drop,xV hg1];omega
   ·rw[agj (by omega) (xV hg1)]
    exact hx.snoc (xV hg1) hg1
   ·rw[ag0 (by omega) (xV hg1) (by omega)]
    exact hrest m hm (by omega)
 ·have hke:k+t=ps.length:=by omega
  rw[hke,List.take_length]at hr
  refine s_c (by omega) ?_
  rw[if_neg (by omega),Option.map_some,yS,tnc,Nat.zero_add]
  refine S.clr (b:=b) (by
   have e:(List.length [Value.int .i64 0,Value.slice none 0 0])=2:=rfl
   rw[e];omega) (by simp[Value.oneCell']) λc2 w16 hc2 ht2 S=>?_
  refine s_c (by omega) ?_
  rw[tnc]
  subst hq
  exact h q c2 w16 hr (by omega) S (by omega) (by rw[ht2];exact hx)
def xq(p:PtD):List PlD:=(zk p).map (·.pl)++((if(p.op=4∨p.op=10)∨p.op=11 then [p.fr]else [])++(if(decide (1≤p.op)&&decide (p.op≤8))=true then [p.to]else []))
noncomputable def addL(u:UnD)(g:GrD)(l:List PlD):List PlD:=l.flatMap λp=>qu (heldW u.ss g.tys p)
def locsL(n:Nat):List PlD:=(List.range n).map λi:Nat=>⟨(i:Int),[]⟩
noncomputable def zg(u:UnD)(g:GrD):List PlD:=aaG (addL u g (locsL g.tys.length++g.pts.flatMap xq))
theorem aba{u:UnD}{g:GrD}{l:List PlD}{p:PlD}:addL u g (l++[p])=addL u g l++qu (heldW u.ss g.tys p):=by
 rw[addL,List.flatMap_append,List.flatMap_singleton];rfl
theorem agk{u:UnD}{g:GrD}{p:PlD}(h:OkP u g p):(heldW u.ss g.tys p).ps.length≤8:=by
 have:=h.few
 unfold heldW
 split
 ·show(p.ps.take _).length≤8
  rw[List.length_take];omega
 ·exact this
theorem J8{u:UnD}{g:GrD}:∀{l:List PlD},(∀p∈l,OkP u g p)→(addL u g l).length≤9*l.length
 |[],_=>gzl _
 |p::l,h=>by
  have ih:=J8 (l:=l) λx hx=>h x (List.mem_cons_of_mem _ hx)
  have:=agk (h p List.mem_cons_self)
  rw[addL,List.flatMap_cons,gla,J3,List.length_cons]
  change _+(addL u g l).length≤_
  omega
structure FnM(u:UnD)(fn:Int)(g:GrD):Prop where
 may:MayU u
 at':u.fs[fn.toNat]? = some g
 fn0:0≤fn
 head:HeadU u fn.toNat g
 pts:∀p∈g.pts,yo u g p=true
theorem fnM{u:UnD}{fn q:Int}{g:GrD}(hi:isU u fn q=true)(hg:u.fs[fn.toNat]? = some g):FnM u fn g:=by
 obtain⟨hM,hf0,hlt,_,_⟩:=ZO hi
 have hge:=(List.getElem?_eq_some_iff.1 hg).2
 have hH:=hM.hd hlt
 have hpt:=hM.pts _ (gem hlt)
 rw[hge]at hH hpt
 exact⟨hM,hg,hf0,hH,hpt⟩
theorem FnM.fine{u:UnD}{fn:Int}{g:GrD}(F:FnM u fn g):xO u.ss g.tys:=F.head.fine F.may.ok
theorem FnM.to{u:UnD}{fn:Int}{g:GrD}(F:FnM u fn g){p:PtD}(hp:p∈g.pts):OkP u g p.to:=by
 have h:=F.pts p hp
 by_cases ho:1≤p.op∧p.op≤8
 ·right
  rw[← Zn F.may.ok F.fine]
  exact agb h ho
 ·left
  have h2:=jS h
  have hr:=Yv h2
  have hz:xN p.to=true:=by
   have hc:p.op=9∨p.op=10∨p.op=11∨p.op=12∨p.op=13∨p.op=14:=by omega
   cases hf:xN p.to with
   |true=>rfl
   |false=>
    rw[ptG]at h2
    rcases hc with hc|hc|hc|hc|hc|hc<;>simp [hc,hf,zz,kH]at h2
  rw[xN,gba,gdt,gdt]at hz
  exact List.eq_nil_of_length_eq_zero hz.2
theorem FnM.oper{u:UnD}{fn:Int}{g:GrD}(F:FnM u fn g){p:PtD}(hp:p∈g.pts){o:OpD}(ho:o∈zk p):(zC u.ss g.tys o.pl).2.2=true:=by
 rw[zk,List.mem_filter,k8,Bool.or_eq_true,gdt,gdt]at ho
 have hg:=aa2 (F.pts p hp) o (by
  rw[opersG,List.mem_filter,yk,gdt]
  exact⟨ho.1,by omega⟩)
 exact(afg hg ho.2).1
theorem FnM.pls{u:UnD}{fn:Int}{g:GrD}(F:FnM u fn g){p:PtD}(hp:p∈g.pts):∀x∈xq p,OkP u g x:=λx hx=>by
 rw[xq,List.mem_append,List.mem_append]at hx
 rcases hx with hx|hx|hx
 ·obtain⟨o,ho,rfl⟩:=List.mem_map.1 hx
  right;rw[← Zn F.may.ok F.fine];exact F.oper hp ho
 ·split at hx
  ·rename_i ho
   rw[List.mem_singleton.1 hx]
   right;rw[← Zn F.may.ok F.fine];exact age (F.pts p hp) (by omega)
  ·cases hx
 ·split at hx
  ·rw[List.mem_singleton.1 hx];exact F.to hp
  ·cases hx
theorem adv{p:PtD}(h:p.args.length≤1000):(xq p).length≤1004:=by
 have h1:=List.length_filter_le k8 (p.a::p.b::p.args)
 have h2:(if(p.op=4∨p.op=10)∨p.op=11 then [p.fr]else []).length≤1:=by split<;>simp
 have h3:(if(decide (1≤p.op)&&decide (p.op≤8))=true then [p.to]else []).length≤1:=by split<;>simp
 rw[xq,gla,gla,List.length_map]
 change (zk p).length≤_ at h1
 simp only[List.length_cons]at h1
 omega
structure LkM(r:Gh)(b:Nat)(u:UnD)(g:GrD)(ps:List PlD):Prop where
 ss:∃p0 cap0,(Ob r λw=>w.cell? ⟨b,0,none⟩=some (.slice p0 u.ss.length cap0))∧StG r p0 u.ss
 pn:Ob r λw=>w.cell? ⟨b,6,none⟩=some (.int .i64 g.pn)
 tys:∃p cap,(Ob r λw=>w.cell? ⟨b,7,none⟩=some (.slice p g.tys.length cap))∧SlB 5 r (TyC r) (.slice p g.tys.length cap) g.tys
 pts:∃p cap,(Ob r λw=>w.cell? ⟨b,9,none⟩=some (.slice p g.pts.length cap))∧SlB 21 r (PtG r) (.slice p g.pts.length cap) g.pts
 pth:∃p cap,(Ob r λw=>w.cell? ⟨b,10,none⟩=some (.slice p ps.length cap))∧SlG 2 r (PlG r) (.slice p ps.length cap) ps
theorem LkM.up{r s:Gh}{b:Nat}{u:UnD}{g:GrD}{ps:List PlD}(h:LkM r b u g ps)[l:Le r s]:LkM s b u g ps:=by
 obtain⟨⟨p0,c0,h1,h2⟩,h5,⟨p2,c2,h6,h7⟩,⟨p3,c3,h8,h9⟩,⟨p4,c4,h11,h12⟩⟩:=h
 exact⟨⟨p0,c0,h1.up,RepS.up h2⟩,h5.up,⟨p2,c2,h6.up,h7.up' l λ_ _ h=>TyG.up h⟩,⟨p3,c3,h8.up,h9.up' l λ_ _ h=>PtG.up h⟩,⟨p4,c4,h11.up,h12.up' l λ_ _ h=>PlG.up h⟩⟩
theorem qQ{p:PtD}{c:List Value}{w:World}{r:Gh}{K:Value→World→Prop}(hr:Holds r w)(hp:PtG r c p)(hb:p.args.length≤1000)
  (h:∀v s w',Ext w w'→New w s w'→SlG 4 (r.or s) (OpG (r.or s)) v (zk p)→K v w'):zb Tryz.prog Tryz.y9 #[.agg c.toArray] w K:=by
 refine VR hr hp hb λb cap c' w' S hc hcap hrow=>?_
 obtain⟨S,a⟩:=StX.frzNew S b
 refine h _ (Go.Sh.one b c' 61) w' S.ext (S.newOf a) ?_
 have hk:Holds (r.or (Go.Sh.one b c' 61)) w':=S.holds
 refine RowOf.sl (xs:=c'.take ((zk p).length*4)) (hrow.mono λc x hx=>OpG.up hx) (by simp) hcap (λw k=>?_) (by decide) ⟨w',hk⟩
 exact(Sl.blk (yK (b:=b) (c:=c') (T:=61) w (k.le (h:=inferInstance)))).take _
section
variable {u:UnD} {g:GrD} {p0 qt:Option Addr} {cap0 capt bx b8:Nat} {vf vo vn vp:Value} {w0 w:World} {r:Gh} {M:List Asr} {K:Value→World→Prop}
def MvJ(u:UnD)(g:GrD)(p0:Option Addr)(cap0:Nat)(vf vo:Value)(qt:Option Addr)(capt:Nat)(vn vp:Value)(bx b8:Nat)(w0:World)(r:Gh)(M:List Asr)(l:List PlD)(w:World):Prop:=
 ∃s v xs,Above w0 s∧RowOf 2 (PlG (r.or s)) xs (addL u g l)∧StX noX w0 (r.or s) w (mkJ u g p0 cap0 vf vo qt capt vn vp bx b8 M v (addL u g l).length xs)
theorem VU{l:List PlD}{p:PlD}{c:List Value}(J:MvJ u g p0 cap0 vf vo qt capt vn vp bx b8 w0 r M l w)
  (hst:StG r p0 u.ss) (hty:SlB 5 r (TyC r) (.slice qt g.tys.length capt) g.tys) (hs:(zA u.ss).2=0) (hf:xO u.ss g.tys) (hp:∀s,Above w0 s→Holds (r.or s) w→PlG (r.or s) c p) (hok:OkP u g p) (hl:∀x∈l,OkP u g x) (hb:l.length≤2000000)
  (h:∀w',MvJ u g p0 cap0 vf vo qt capt vn vp bx b8 w0 r M (l++[p]) w'→K (.tuple #[]) w'):zx Tryz.prog (agD b8) #[.agg c.toArray] w K:=by
 obtain⟨s,v,xs,ha,hx,S⟩:=J
 have hfew:=J8 hl
 refine aiq (r:=r.or s) S hst.up (hty.up' inferInstance λ_ _ h=>TyG.up h) hs hf (hp s ha S.holds) hok hx (by omega) λs2 v2 xs2 w2 a2 S2 hx2=>h w2 ⟨s.or s2,v2,xs2,ha.or' a2,?_,?_⟩
 ·rw[aba];exact hx2.mono λc x hx=>PlG.up (l:=⟨λb o ho=>Or.elim ho (λho=>Or.elim ho .inl λho=>.inr (.inl ho)) λho=>.inr (.inr ho)⟩) hx
 ·rw[aba];exact S2.reGh
end
theorem adw{u:UnD}{fn q:Int}:isU u fn q = !(((decide (fn<0)||decide (fn≥(u.fs.length:Int)))||decide (q≥((u.fs[fn.toNat]?.map λg=>(g.pts.length:Int)).getD 0))) || !X5 u):=by
 rw[isU]
 by_cases h1:fn<0
 ·rw[gde h1,decide_eq_false (show¬0≤fn by omega)];rfl
 by_cases h2:fn≥(u.fs.length:Int)
 ·rw[gde h2,decide_eq_false (show¬fn<(u.fs.length:Int)by omega),Bool.and_false,Bool.or_true];rfl
 rw[decide_eq_false h1,decide_eq_false h2,gde (show 0≤fn by omega),gde (show fn<(u.fs.length:Int)by omega)]
 generalize ((u.fs[fn.toNat]?.map λg=>(g.pts.length:Int)).getD 0)=m
 by_cases h3:q≥m
 ·rw[gde h3,decide_eq_false (show¬q<m by omega)];simp
 ·rw[decide_eq_false h3,gde (show q<m by omega)];simp
section
variable {u:UnD} {g:GrD} {p0 qt:Option Addr} {cap0 capt bx b8:Nat} {vf vo vn vp:Value} {w0 w:World} {r s s2:Gh} {M:List Asr} {l:List PlD}
theorem MvJ.back(ha:Above w0 s)(ha2:Above w0 s2)(J:MvJ u g p0 cap0 vf vo qt capt vn vp bx b8 w0 ((r.or s).or s2) M l w):MvJ u g p0 cap0 vf vo qt capt vn vp bx b8 w0 r [] l w:=by
 obtain⟨s',v,xs,a',hx,S⟩:=J
 refine⟨(s.or s2).or s',v,xs,(ha.or' ha2).or' a',hx.mono λc x hx=>PlG.up (l:=⟨λb o ho=>?_⟩) hx,S.less (λb o ho=>?_) (.cons_cons _ (.cons_cons _ (.cons_cons _ (List.nil_sublist _))))⟩
 ·rcases ho with((h|h)|h)|h
  ·exact .inl h
  ·exact .inr (.inl (.inl h))
  ·exact .inr (.inl (.inr h))
  ·exact .inr (.inr h)
 ·rcases ho with h|(h|h)|h
  ·exact .inl (.inl (.inl h))
  ·exact .inl (.inl (.inr h))
  ·exact .inl (.inr h)
  ·exact .inr h
end
theorem aeh{u:UnD}{fn q:Int}{v:Value}{w:World}{r:Gh}{K:Value→World→Prop}(hr:Holds r w)(hu:UnG r v u)
  (h0:isU u fn q=false→∀w',Ext w w'→K (.tuple #[.pointer none,.int .i64 2]) w')
  (h1:isU u fn q=true→∀(g:GrD),u.fs[fn.toNat]? = some g→(256<(zg u g).length→∀w',Ext w w'→K (.tuple #[.pointer none,.int .i64 5]) w')∧
   ((zg u g).length≤256→∀s bx gb cap c p0 cap0 vf vo qt capt vn vp w',Above w s→GrG r [.string g.name,.int .i64 g.lv,vo,.int .i64 g.pn,.slice qt g.tys.length capt,vn,vp] g→UnG r (.agg #[.slice p0 u.ss.length cap0,vf,.int .i64 u.mn]) u→
    StX noX w (r.or s) w' [.cell bx (mkL u g p0 cap0 vf vo qt capt vn vp (.slice (some ⟨gb,0,none⟩) (zg u g).length cap)) 90,.cell gb c 59]→(zg u g).length≤cap→RowOf 2 (PlG (r.or s)) (c.take ((zg u g).length*2)) (zg u g)→
    K (.tuple #[.pointer (some ⟨bx,0,none⟩),.int .i64 0]) w')):zb Tryz.prog Tryz.xZ #[v,.int .i64 fn,.int .i64 q] w K:=by
 refine Tryz.aea ?_
 unfold Tryz.aa4
 have hu0:=hu
 obtain⟨p0,cap0,vf,rfl,_,_,hst,hsl,hfn⟩:=hu
 obtain⟨qf,capf,rfl,_,_⟩:=hfn.sl.shape
 have hfl:u.fs.length≤9223372036854775807:=hfn.few
 have S:=St.start hr
 refine S.box λb3 w1 S=>?_
 have S:StX noX w r w1 [.cell b3 [.slice p0 u.ss.length cap0,.slice qf u.fs.length capf,.int .i64 u.mn] 25]:=S
 refine gp_ ?_
 refine zq (c:=decide (fn≥(u.fs.length:Int))) (λ_ K2 hK2=>by refine gg_ ?_;exact hK2) ?_
 refine zq (c:=decide (q≥((u.fs[fn.toNat]?.map λg=>(g.pts.length:Int)).getD 0))) (λhb K2 hK2=>?_) ?_
 ·simp only[Bool.or_eq_false_iff,decide_eq_false_iff_not]at hb
  have hlt:fn.toNat<u.fs.length:=by omega
  obtain⟨bf,of,cf,hqE,hcf,hgc,hfo⟩:=hfn.sl.get (by decide) hlt
  cases hqE
  rw[gqg hlt]at hK2
  obtain⟨x1,x2,x3,x4,y1,y2,y3,y4,rfl,hg0⟩:=QM hgc
  refine gg_ ?_
  refine zi (S.at (hfo 6 _ rfl)) ?_
  refine gg_ ?_
  exact hK2
 refine qw (c:=!X5 u) (λ_ K2 hK2=>?_) λw5 e5=>?_
 ·refine S.ldB (b:=b3) ?_ rfl
  refine Jk S.holds hu0 λw5 e5=>?_
  refine gp_ ?_
  exact hK2 _ e5
 have S:=S.go e5
 refine c_b (λhbad=>?_) (λhgood=>?_)
 ·exact h0 (by rw[adw,hbad];rfl) _ S.ext
 have hi:isU u fn q=true:=by rw[adw,hgood];rfl
 clear h0 hgood
 obtain⟨_,hf0,hlt,_,_⟩:=ZO hi
 have hgi:u.fs[fn.toNat]? = some u.fs[fn.toNat]:=gqg hlt
 have F:=fnM hi hgi
 obtain⟨h5,h1⟩:=h1 hi _ hgi
 obtain⟨bf,of,cf,hqE,hcf,hgc,hfo⟩:=hfn.sl.get (by decide) hlt
 cases hqE
 generalize u.fs[fn.toNat]=g at hgc h1 h5 F hgi
 obtain⟨x1,x2,x3,x4,y1,y2,y3,y4,rfl,hg0⟩:=QM hgc
 obtain⟨_,_,_,_,hEE,m1,m2,m3,m4⟩:=id hg0
 cases hEE
 have hs:=F.may.ok
 have hf:=F.fine
 have hH:=F.head
 have hp24:=hH.pt1024
 have ht512:=hH.ty512
 have ht1:0<g.tys.length:=by have:=hH.pn0;have:=hH.pn1;omega
 have harg:∀p∈g.pts,p.args.length≤1000:=λp hp=>jU F.may (F.pts p hp)
 have hpls:∀x∈g.pts.flatMap xq,OkP u g x:=λx hx=>by
  obtain⟨p,hp,hx⟩:=List.mem_flatMap.1 hx
  exact F.pls hp x hx
 have hloc:∀n,∀x∈locsL n,OkP u g x:=λn x hx=>by
  obtain⟨i,_,rfl⟩:=List.mem_map.1 hx
  exact .inl rfl
 have S:=S.go (Ext.drew _)
 refine zs (λy w'=>∃b8 bx,y=[.pointer (some ⟨b8,0,none⟩)]∧MvJ u g p0 cap0 (.slice (some ⟨bf,of,none⟩) u.fs.length capf) (.slice x1 g.outs.length y1) x2 y2 (.slice x3 g.nms.length y3) (.slice x4 g.pts.length y4) bx b8 w r [] [] w') (λK15 hK15=>?_) ?_
 ·refine S.ldB (b:=b3) ?_ rfl
  refine gg_ ?_
  refine zt (n:=7) hcf (λj v hj=>by simpa using S.at (hfo j v hj)) ?_
  refine zu (cs:=(mkL u g p0 cap0 (.slice (some ⟨bf,of,none⟩) u.fs.length capf) (.slice x1 g.outs.length y1) x2 y2 (.slice x3 g.nms.length y3) (.slice x4 g.pts.length y4) (.slice none 0 0)).toArray) (by kernel_rfl) ?_
  have fin:∀b8 bx w',StX noX w r w' [.cell bx (mkL u g p0 cap0 (.slice (some ⟨bf,of,none⟩) u.fs.length capf) (.slice x1 g.outs.length y1) x2 y2 (.slice x3 g.nms.length y3) (.slice x4 g.pts.length y4) (.slice none 0 0)) 90,.cell b8 [.pointer (some ⟨bx,0,none⟩)] 78]→K15 [.pointer (some ⟨b8,0,none⟩)] w':=λb8 bx w' S=>by
   have S:=S.ownNil 59 2
   refine hK15 _ _ ⟨b8,bx,rfl,nothing,.slice none 0 0,[],Above.no,RowOf.nil,?_⟩
   exact S.to (r.or nothing)
  refine⟨?_,?_⟩
  ·refine S.box λbx w19 S=>?_
   refine S.alU λb8 w20 S=>?_
   refine S.st (b:=b8) (λw21 S=>?_) (by simp)
   have S:StX noX w r w21 [.cell b8 [.pointer (some ⟨bx,0,none⟩)] 78,.cell bx (mkL u g p0 cap0 (.slice (some ⟨bf,of,none⟩) u.fs.length capf) (.slice x1 g.outs.length y1) x2 y2 (.slice x3 g.nms.length y3) (.slice x4 g.pts.length y4) (.slice none 0 0)) 90,.cell b3 [.slice p0 u.ss.length cap0,.slice (some ⟨bf,of,none⟩) u.fs.length capf,.int .i64 u.mn] 25]:=S
   exact fin b8 bx w21 ((S.permO (.swap _ _ _)).less (λ_ _ h=>h) (.cons_cons _ (.cons_cons _ (List.nil_sublist _))))
  ·refine S.alU λb8 w20 S=>?_
   refine S.box λbx w19 S=>?_
   refine S.st (b:=b8) (λw21 S=>?_) (by simp)
   have S:StX noX w r w21 [.cell bx (mkL u g p0 cap0 (.slice (some ⟨bf,of,none⟩) u.fs.length capf) (.slice x1 g.outs.length y1) x2 y2 (.slice x3 g.nms.length y3) (.slice x4 g.pts.length y4) (.slice none 0 0)) 90,.cell b8 [.pointer (some ⟨bx,0,none⟩)] 78,.cell b3 [.slice p0 u.ss.length cap0,.slice (some ⟨bf,of,none⟩) u.fs.length capf,.int .i64 u.mn] 25]:=S
   exact fin b8 bx w21 (S.less (λ_ _ h=>h) (.cons_cons _ (.cons_cons _ (List.nil_sublist _))))
 repeat clear S
 clear e5
 rintro _ w18 ⟨b8,bx,rfl,J⟩ d
 rw[gdz]
 generalize (Value.slice (some ⟨bf,of,none⟩) u.fs.length capf)=vf at *
 refine gp_ ?_
 obtain⟨s,v,xs,ha,hx,S⟩:=J
 refine gg_ ?_
 refine zj (ι:=Nat) (λi=>[.int .i64 (i:Nat)]) (λi w'=>i≤g.tys.length∧MvJ u g p0 cap0 vf (.slice x1 g.outs.length y1) x2 y2 (.slice x3 g.nms.length y3) (.slice x4 g.pts.length y4) bx b8 w r [] (locsL i) w') (λi=>g.tys.length-i) 0 rfl ⟨gzl _,s,v,xs,ha,hx,S⟩ ?_
 clear S hx ha
 rintro i d5 w5 ⟨hi,J⟩ K2 hK2
 rw[gdz]
 refine gp_ ?_
 refine zh (λhlt=>?_) (λhge=>?_)
 ·have hlt:i<g.tys.length:=by omega
  refine zu (cs:=#[.int .i64 (i:Nat),.slice none 0 0]) (by kernel_rfl) ?_
  refine VU J hst m2 hs hf (p:=⟨(i:Nat),[]⟩) (c:=[.int .i64 (i:Nat),.slice none 0 0]) (λs ha hh=>⟨_,rfl,yV⟩) (.inl rfl) (hloc i) (by simp[locsL];omega) λw6 J=>?_
  refine gp_ ?_
  rw[show ((i:Int)+1)=((i+1:Nat):Int)by omega]
  refine hK2 (i+1) _ ⟨hlt,?_⟩ (by omega)
  have e:locsL (i+1)=locsL i++[⟨(i:Nat),[]⟩]:=by rw[locsL,List.range_succ,List.map_append];rfl
  rw[e];exact J
 obtain rfl:i=g.tys.length:=by omega
 clear hK2 K2 hge hi
 obtain⟨s,v,xs,ha,hx,S⟩:=J
 refine gg_ ?_
 have hlq:∀q,q≤g.pts.length→((g.pts.take q).flatMap xq).length≤1004*q:=λq hq=>by
  induction q with
  |zero=>simp
  |succ q ih=>
   have:=adv (harg _ (gem (show q<g.pts.length by omega)))
   have:=ih (by omega)
   rw[List.take_succ_eq_append_getElem (by omega),List.flatMap_append,List.flatMap_singleton,gla]
   omega
 have hall:∀q,∀x∈locsL g.tys.length++(g.pts.take q).flatMap xq,OkP u g x:=λq x hx=>by
  rcases List.mem_append.1 hx with hx|hx
  ·exact hloc _ x hx
  ·obtain⟨p,hp,hx⟩:=List.mem_flatMap.1 hx
   exact hpls x (List.mem_flatMap.2 ⟨p,List.mem_of_mem_take hp,hx⟩)
 refine zj (ι:=Nat) (λi=>[.int .i64 (i:Nat)]) (λi w'=>i≤g.pts.length∧MvJ u g p0 cap0 vf (.slice x1 g.outs.length y1) x2 y2 (.slice x3 g.nms.length y3) (.slice x4 g.pts.length y4) bx b8 w r [] (locsL g.tys.length++(g.pts.take i).flatMap xq) w') (λi=>g.pts.length-i) 0 rfl ⟨gzl _,s,v,xs,ha,by simpa using hx,by simpa using S⟩ ?_
 clear S hx ha
 rintro i d6 w6 ⟨hi,J⟩ K2 hK2
 rw[gdz]
 refine gp_ ?_
 refine zh (λhlt=>?_) (λhge=>?_)
 ·have hlt:i<g.pts.length:=by omega
  refine zs (λy w'=>y=[]∧MvJ u g p0 cap0 vf (.slice x1 g.outs.length y1) x2 y2 (.slice x3 g.nms.length y3) (.slice x4 g.pts.length y4) bx b8 w r [] (locsL g.tys.length++(g.pts.take (i+1)).flatMap xq) w') (λK36 hK36=>?_) ?_
  rotate_left
  ·clear J
   rintro _ w7 ⟨rfl,J⟩ d7
   refine gp_ ?_
   rw[show ((i:Int)+1)=((i+1:Nat):Int)by omega]
   exact hK2 (i+1) _ ⟨hlt,J⟩ (by omega)
  clear hK2 K2
  obtain⟨s,v,xs,ha,hx,S⟩:=J
  obtain⟨bq,oq,cq,hqE2,hcq,hpc,hpo⟩:=m4.sl.get (by decide) hlt
  cases hqE2
  have hpm:=gem hlt
  have hargs:=harg _ hpm
  have hokp:=F.pls hpm
  have hokl:=hall i
  have hbl:(locsL g.tys.length++(g.pts.take i).flatMap xq).length≤1900000:=by
   have:=hlq i (by omega)
   have h2:(locsL g.tys.length).length=g.tys.length:=by simp[locsL]
   rw[gla,h2];omega
  rw[List.take_succ_eq_append_getElem hlt,List.flatMap_append,List.flatMap_singleton,← List.append_assoc]at hK36
  have hpfew:=adv hargs
  generalize locsL g.tys.length++(g.pts.take i).flatMap xq=l at *
  generalize g.pts[i]=p at *
  refine gp_ ?_
  refine zt (n:=21) hcq (λj v hj=>by simpa using S.at (hpo j v hj)) ?_
  obtain⟨q1,q2,q3,q4,q5,c1,c2,c3,c4,c5,rfl,hp0⟩:=jd hpc
  refine S.al λb12 w7 S=>?_
  refine S.stB (b:=b12) λw8 S=>?_
  have S:StX noX w (r.or s) w8 (.cell b12 (ptL p q1 q2 q3 q4 q5 c1 c2 c3 c4 c5) 94::mkJ u g p0 cap0 vf (.slice x1 g.outs.length y1) x2 y2 (.slice x3 g.nms.length y3) (.slice (some ⟨bq,oq,none⟩) g.pts.length y4) bx b8 [] v (addL u g l).length xs):=S
  refine S.ldB (b:=b12) ?_
  refine qQ S.holds (PtG.up hp0) hargs λv9 s2 w9 e9 n9 h9=>?_
  obtain⟨S,_,a9⟩:=S.tell e9 n9
  obtain⟨q9,k9,rfl,_,_⟩:=h9.shape
  have S:StX noX w ((r.or s).or s2) w9 (mkJ u g p0 cap0 vf (.slice x1 g.outs.length y1) x2 y2 (.slice x3 g.nms.length y3) (.slice (some ⟨bq,oq,none⟩) g.pts.length y4) bx b8 [.cell b12 (ptL p q1 q2 q3 q4 q5 c1 c2 c3 c4 c5) 94] v (addL u g l).length xs):=S.permO (List.perm_append_comm (l₁:=mkJ u g p0 cap0 vf (.slice x1 g.outs.length y1) x2 y2 (.slice x3 g.nms.length y3) (.slice (some ⟨bq,oq,none⟩) g.pts.length y4) bx b8 [] v (addL u g l).length xs) (l₂:=[.cell b12 (ptL p q1 q2 q3 q4 q5 c1 c2 c3 c4 c5) 94]))
  have hst':StG ((r.or s).or s2) p0 u.ss:=RepS.up hst
  have m2':SlB 5 ((r.or s).or s2) (TyC ((r.or s).or s2)) (.slice x2 g.tys.length y2) g.tys:=m2.up' inferInstance λ_ _ h=>TyG.up h
  have hp1:PtG ((r.or s).or s2) (ptL p q1 q2 q3 q4 q5 c1 c2 c3 c4 c5) p:=PtG.up hp0
  obtain⟨_,_,_,_,_,hE,k1,k2,k3,k4,k5⟩:=id hp1
  cases hE
  have hol:(zk p).length≤1002:=by
   have h1:=List.length_filter_le k8 (p.a::p.b::p.args)
   change (zk p).length≤_ at h1
   simp only[List.length_cons]at h1
   omega
  refine gp_ ?_
  refine zj (ι:=Nat) (λj=>[.int .i64 (j:Nat)]) (λj w'=>j≤(zk p).length∧MvJ u g p0 cap0 vf (.slice x1 g.outs.length y1) x2 y2 (.slice x3 g.nms.length y3) (.slice (some ⟨bq,oq,none⟩) g.pts.length y4) bx b8 w ((r.or s).or s2) [.cell b12 (ptL p q1 q2 q3 q4 q5 c1 c2 c3 c4 c5) 94] (l++((zk p).take j).map (·.pl)) w') (λj=>(zk p).length-j) 0 rfl ⟨gzl _,nothing,v,xs,Above.no,by rw[List.take_zero,List.map_nil,List.append_nil];exact hx.mono λc x hx=>PlG.up hx,by rw[List.take_zero,List.map_nil,List.append_nil];exact S.to _⟩ ?_
  clear S
  rintro j dj wj ⟨hj,J⟩ K43 hK43
  rw[gdz]
  refine gp_ ?_
  refine zh (λhlt2=>?_) (λhge2=>?_)
  ·have hlt2:j<(zk p).length:=by omega
   obtain⟨s',v',xs',ha',hx',S⟩:=J
   obtain⟨bo,oo,co,hoE,hco,hoc,hoo⟩:=h9.get (by decide) hlt2
   cases hoE
   have hoko:=hokp _ (List.mem_append_left _ (List.mem_map_of_mem (gem hlt2)))
   have hokj:∀x∈l++((zk p).take j).map (·.pl),OkP u g x:=λx hx=>by
    rcases List.mem_append.1 hx with hx|hx
    ·exact hokl x hx
    ·obtain⟨o,ho,rfl⟩:=List.mem_map.1 hx
     exact hokp _ (List.mem_append_left _ (List.mem_map_of_mem (List.mem_of_mem_take ho)))
   have hbj:(l++((zk p).take j).map (·.pl)).length≤1950000:=by rw[gla,List.length_map,List.length_take];omega
   have hKj:=hK43 (j+1)
   rw[List.take_succ_eq_append_getElem hlt2,List.map_append,← List.append_assoc]at hKj
   generalize (zk p)[j]=o at *
   generalize l++((zk p).take j).map (·.pl)=lj at *
   refine gp_ ?_
   refine zt (n:=4) hco (λj v hj=>by simpa using S.at (hoo j v hj)) ?_
   obtain⟨qo,ko,rfl⟩:=je hoc
   refine S.al λb14 w10 S=>?_
   refine S.stB (b:=b14) λw11 S=>?_
   have S:StX noX w (((r.or s).or s2).or s') w11 (.cell b14 [.int .u8 o.k,.int .i64 o.n,.int .i64 o.pl.l,.slice qo o.pl.ps.length ko] 61::mkJ u g p0 cap0 vf (.slice x1 g.outs.length y1) x2 y2 (.slice x3 g.nms.length y3) (.slice (some ⟨bq,oq,none⟩) g.pts.length y4) bx b8 [.cell b12 (ptL p q1 q2 q3 q4 q5 c1 c2 c3 c4 c5) 94] v' (addL u g lj).length xs'):=S
   refine gg_ ?_
   refine S.ldN (b:=b14) ?_
   obtain⟨_,hoE,hopl⟩:=id hoc
   cases hoE
   refine VU ⟨s',v',xs',ha',hx',S.tl⟩ hst' m2' hs hf (p:=o.pl) (c:=[.int .i64 o.pl.l,.slice qo o.pl.ps.length ko]) (λ_ _ _=>PlG.up (⟨_,rfl,hopl⟩:PlG ((r.or s).or s2) _ o.pl)) hoko hokj (by omega) λw12 J=>?_
   refine gp_ ?_
   rw[show ((j:Int)+1)=((j+1:Nat):Int)by omega]
   exact hKj _ ⟨hlt2,J⟩ (by omega)
  obtain rfl:j=(zk p).length:=by omega
  clear hK43 K43 hge2 hj
  rw[List.take_length]at J
  have hok1:∀x∈l++(zk p).map (·.pl),OkP u g x:=λx hx=>(List.mem_append.1 hx).elim (hokl x) λhx=>hokp _ (List.mem_append_left _ hx)
  have hb1:(l++(zk p).map (·.pl)).length≤1950000:=by rw[gla,List.length_map];omega
  rw[xq,← List.append_assoc,← List.append_assoc]at hK36
  have hokf:(p.op=4∨p.op=10)∨p.op=11→OkP u g p.fr:=λh=>hokp _ (by rw[xq,if_pos h];simp)
  have hokt:(decide (1≤p.op)&&decide (p.op≤8))=true→OkP u g p.to:=λh=>hokp _ (by rw[xq,if_pos h];simp)
  generalize l++(zk p).map (·.pl)=l1 at *
  obtain⟨s',v',xs',ha',hx',S⟩:=J
  refine zs (λy w'=>y=[]∧MvJ u g p0 cap0 vf (.slice x1 g.outs.length y1) x2 y2 (.slice x3 g.nms.length y3) (.slice (some ⟨bq,oq,none⟩) g.pts.length y4) bx b8 w ((r.or s).or s2) [.cell b12 (ptL p q1 q2 q3 q4 q5 c1 c2 c3 c4 c5) 94] (l1++(if(p.op=4∨p.op=10)∨p.op=11 then [p.fr]else [])) w') (λK50 hK50=>?_) ?_
  ·refine gg_ ?_
   refine zq (c:=decide (p.op=10)) (λ_ K2 hK2=>by refine gg_ ?_;exact hK2) ?_
   refine zq (c:=decide (p.op=11)) (λ_ K2 hK2=>by refine gg_ ?_;exact hK2) ?_
   rw[show (decide (p.op=4)||decide (p.op=10)||decide (p.op=11))=decide ((p.op=4∨p.op=10)∨p.op=11)by simp only[Bool.decide_or]]
   refine zh (λho=>?_) (λho=>?_)
   ·rw[if_pos ho]at hK50
    refine gg_ ?_
    refine S.ldN (b:=b12) ?_
    refine VU ⟨s',v',xs',ha',hx',S⟩ hst' m2' hs hf (p:=p.fr) (c:=[.int .i64 p.fr.l,.slice q5 p.fr.ps.length c5]) (λ_ _ _=>PlG.up (⟨_,rfl,k5⟩:PlG ((r.or s).or s2) _ p.fr)) (hokf ho) hok1 (by omega) λw12 J=>?_
    exact hK50 _ _ ⟨rfl,J⟩
   ·rw[if_neg ho,List.append_nil]at hK50
    exact hK50 _ _ ⟨rfl,s',v',xs',ha',hx',S⟩
  have hok2:∀x∈l1++(if(p.op=4∨p.op=10)∨p.op=11 then [p.fr]else []),OkP u g x:=λx hx=>(List.mem_append.1 hx).elim (hok1 x) λhx=>by
   split at hx
   ·rename_i ho;rw[List.mem_singleton.1 hx];exact hokf ho
   ·cases hx
  have hb2:(l1++(if(p.op=4∨p.op=10)∨p.op=11 then [p.fr]else [])).length≤1960000:=by
   rw[gla];split<;>simp<;>omega
  generalize l1++(if(p.op=4∨p.op=10)∨p.op=11 then [p.fr]else [])=l2 at *
  clear S hx' ha'
  rintro _ w13 ⟨rfl,s',v',xs',ha',hx',S⟩ d13
  refine S.ldB (b:=b12) ?_
  refine jY S.holds (PtG.up hp1) λw14 e14=>?_
  have S:=S.go e14
  refine c_b (λho=>?_) (λho=>?_)
  ·rw[if_pos ho]at hK36
   refine gg_ ?_
   refine S.ldN (b:=b12) ?_
   refine VU ⟨s',v',xs',ha',hx',S⟩ hst' m2' hs hf (p:=p.to) (c:=[.int .i64 p.to.l,.slice q1 p.to.ps.length c1]) (λ_ _ _=>PlG.up (⟨_,rfl,k1⟩:PlG ((r.or s).or s2) _ p.to)) (hokt ho) hok2 (by omega) λw15 J=>?_
   exact hK36 _ _ ⟨rfl,J.back ha a9⟩
  ·rw[if_neg (by rw[ho];decide),List.append_nil]at hK36
   exact hK36 _ _ ⟨rfl,MvJ.back ha a9 ⟨s',v',xs',ha',hx',S⟩⟩
 obtain rfl:i=g.pts.length:=by omega
 clear hK2 K2 hge hi
 rw[List.take_length]at J
 have hlall:=hlq g.pts.length (Nat.le_refl _)
 have hall:=hall g.pts.length
 rw[List.take_length]at hlall hall
 obtain⟨s,v,xs,ha,hx,S⟩:=J
 have hfew:=J8 hall
 have hpos:0<(addL u g (locsL g.tys.length++g.pts.flatMap xq)).length:=by
  have :(⟨0,[]⟩:PlD)∈addL u g (locsL g.tys.length++g.pts.flatMap xq):=by
   refine List.mem_flatMap.2 ⟨⟨0,[]⟩,List.mem_append_left _ (List.mem_map.2 ⟨0,List.mem_range.2 ht1,rfl⟩),?_⟩
   rw[jf rfl]
   exact List.mem_map.2 ⟨0,List.mem_range.2 (Nat.succ_pos _),rfl⟩
  exact List.length_pos_of_mem this
 rw[gla]at hfew
 have hll:(locsL g.tys.length).length=g.tys.length:=by simp[locsL]
 have hth:zg u g=aaG (addL u g (locsL g.tys.length++g.pts.flatMap xq)):=rfl
 generalize addL u g (locsL g.tys.length++g.pts.flatMap xq)=aL at *
 refine gg_ ?_
 refine aeg S hx hpos (by omega) λw7 xs7 ps7 hp7 hs7 hx7 S=>?_
 have hl7:=hp7.length_eq
 rw[hl7]at S
 obtain⟨gb,cap,c7,rfl,hcap,hc7,ht7,S⟩:=S.rowCell v (by omega)
 have hrl:∀q,RlP q ps7→q=zg u g:=λq hq=>by
  rw[hth]
  exact ahN hq.1 λx=>(hq.2 x).trans hp7.mem_iff
 have hrow7:∀(j:Nat)(hj:j<ps7.length),PlG (r.or s) (qP c7 j) ps7[j]:=λj hj=>by
  have:=hx7.2 j hj
  rw[← ht7,List.drop_take,List.take_take,Nat.min_eq_left (by rw[← hl7];have :(j+1)*2≤ps7.length*2:=Nat.mul_le_mul_right _ hj;omega)]at this
  exact this
 have S:=S.go (Ext.drew _)
 refine zs (λy w'=>y=[]∧∃c',c'.length=cap*2∧(zg u g).length≤cap∧RowOf 2 (PlG (r.or s)) (c'.take ((zg u g).length*2)) (zg u g)∧StX noX w (r.or s) w' [.cell gb c' 59,.cell bx (mkL u g p0 cap0 vf (.slice x1 g.outs.length y1) x2 y2 (.slice x3 g.nms.length y3) (.slice x4 g.pts.length y4) (.slice (some ⟨gb,0,none⟩) (zg u g).length cap)) 90,.cell b8 [.pointer (some ⟨bx,0,none⟩)] 78]) (λK66 hK66=>?_) ?_
 ·refine gg_ ?_
  refine⟨?_,?_⟩
  ·refine Yl (S.ld (b:=b8) ?_)
   refine XC S (ps:=ps7) (by omega) (by omega) hcap hc7 hs7 hrow7 λq c8 w8 hq hqc S hc8 hx8=>?_
   obtain rfl:=hrl q hq
   refine gg_ ?_
   refine S.st (b:=bx) (λw9 S=>?_) (by simp)
   exact hK66 _ _ ⟨rfl,c8,hc8,hqc,hx8,S⟩
  ·refine XC S (ps:=ps7) (by omega) (by omega) hcap hc7 hs7 hrow7 λq c8 w8 hq hqc S hc8 hx8=>?_
   obtain rfl:=hrl q hq
   refine Yl (S.ld (b:=b8) ?_)
   refine gg_ ?_
   refine S.st (b:=bx) (λw9 S=>?_) (by simp)
   exact hK66 _ _ ⟨rfl,c8,hc8,hqc,hx8,S⟩
 clear S hx hx7 hrow7 hc7 ht7 hs7 hp7 hrl
 rintro _ w10 ⟨rfl,c8,hc8,hqc,hx8,S⟩ d10
 refine gg_ ?_
 refine zh (λh256=>?_) (λh256=>?_)
 ·exact h5 (by omega) _ S.ext
 refine gg_ ?_
 refine h1 (by omega) s bx gb cap c8 p0 cap0 vf (.slice x1 g.outs.length y1) x2 y2 (.slice x3 g.nms.length y3) (.slice x4 g.pts.length y4) w10 ha hg0 hu0 ?_ hqc hx8
 exact(S.permO (.swap _ _ _)).less (λ_ _ h=>h) (.cons_cons _ (.cons_cons _ (List.nil_sublist _)))
def xW(f:Nat→Bool)(i:Nat)(b:Bool):Nat→Bool:=λj=>if j=i then b else f j
def zB:Nat→Bool:=λ_=>false
def risI(n:Nat)(f:Nat→Bool):List Int:=((List.range n).filter f).map λi:Nat=>(i:Int)
theorem QP{n:Nat}{f:Nat→Bool}{x:Int}:x∈risI n f↔∃i:Nat,x=i∧i<n∧f i=true:=by
 rw[risI,List.mem_map]
 constructor
 ·rintro⟨i,hi,rfl⟩
  rw[List.mem_filter,List.mem_range]at hi
  exact⟨i,rfl,hi⟩
 ·rintro⟨i,rfl,hi⟩
  exact⟨i,by rw[List.mem_filter,List.mem_range];exact hi,rfl⟩
theorem ag1{n:Nat}{f:Nat→Bool}:(risI n f).Pairwise (· < ·):=by
 rw[risI,List.pairwise_map]
 exact(List.pairwise_lt_range.filter f).imp λh=>by omega
theorem adx{n:Nat}{f:Nat→Bool}:(risI n f).length≤n:=by
 rw[risI,List.length_map]
 have:=List.length_filter_le f (List.range n)
 rwa[List.length_range]at this
theorem jh{n:Nat}{f g:Nat→Bool}(h:∀i,i<n→f i=g i):risI n f=risI n g:=by
 rw[risI,risI,List.filter_congr λi hi=>h i (List.mem_range.1 hi)]
theorem ac5{l:List Int}(h:l.Pairwise (· < ·)):xb l=l:=by
 rw[xb]
 exact List.mergeSort_of_pairwise (h.imp λh=>by simp only[gdt];omega)
structure SetF(n B:Nat)(M:ya)(f:Nat→Bool):Prop where
 nodup:(M.map (·.1)).Nodup
 mem:∀x:Int,x∈M.map (·.1)↔∃i:Nat,x=i∧i<n∧f i=true
 cnt:∀x:Int,0≤cnt M x∧cnt M x≤B∧(0<cnt M x↔x∈M.map (·.1))
theorem SetF.none{n:Nat}:SetF n 0 [] zB:=⟨List.nodup_nil,λx=>by simp[zB],λx=>by simp[Go.Proofs.cnt]⟩
theorem SetF.mono{n B C:Nat}{M:ya}{f:Nat→Bool}(h:SetF n B M f)(hB:B≤C):SetF n C M f:=⟨h.nodup,h.mem,λx=>⟨(h.cnt x).1,by have:=(h.cnt x).2.1;omega,(h.cnt x).2.2⟩⟩
theorem SetF.len{n B:Nat}{M:ya}{f:Nat→Bool}(h:SetF n B M f):M.length≤n:=by
 have:=Qu h.nodup (b:=(List.range n).map λi:Nat=>(i:Int)) λx hx=>by
  obtain⟨i,rfl,hi,_⟩:=(h.mem x).1 hx
  exact List.mem_map.2 ⟨i,List.mem_range.2 hi,rfl⟩
 simpa using this
theorem SetF.list{n B:Nat}{M:ya}{f:Nat→Bool}(h:SetF n B M f):xb (M.map (·.1))=risI n f:=by
 have ha:(risI n f).Pairwise (· < ·):=ag1
 rw[← ac5 ha]
 refine acu h.nodup (ha.imp λh=>by omega) λx=>?_
 rw[h.mem,QP]
theorem SetF.keys{n B:Nat}{M:ya}{f:Nat→Bool}(h:SetF n B M f):M.length=(risI n f).length:=by
 have:=congrArg List.length h.list
 rw[xb,List.length_mergeSort,List.length_map]at this
 exact this
theorem acB{x v z:Int}:∀{M:ya},(qO x v M).lookup z=if z=x then some v else M.lookup z
 |[]=>by
  rw[qO,List.lookup_cons]
  by_cases h:z=x
  ·rw[if_pos h];simp[h]
  ·have e:(z == x)=false:=by simpa using h
   rw[if_neg h,e]<;>rfl
 |y::M=>by
  rw[qO]
  by_cases hx:x=y.1
  ·rw[if_pos hx,List.lookup_cons]
   by_cases h:z=x
   ·rw[if_pos h];simp[h]
   ·have e:(z == x)=false:=by simpa using h
    have e2:(z == y.1)=false:=by rw[← hx];exact e
    rw[if_neg h,e,List.lookup_cons,e2]
  ·rw[if_neg hx,List.lookup_cons,List.lookup_cons]
   by_cases h:z=y.1
   ·have e:(z == y.1)=true:=by simpa using h
    rw[e,if_neg (λhh=>hx (hh.symm.trans h))]
   ·have e:(z == y.1)=false:=by simpa using h
    rw[e]
    exact acB
theorem agl{x v z:Int}{M:ya}:cnt (qO x v M) z=if z=x then v else cnt M z:=by
 rw[cnt,acB]
 split<;>rfl
theorem abb{x:Int}:∀{M:ya},x∉M.map (·.1)→cnt M x=0
 |[],_=>rfl
 |y::M,h=>by
  rw[List.map_cons,List.mem_cons,not_or]at h
  rw[cnt,List.lookup_cons,show (x == y.1)=false by simpa using h.1]
  exact abb h.2
theorem acC{x z:Int}:∀{M:ya},(M.map (·.1)).Nodup→cnt (jE x M) z=if z=x then 0 else cnt M z
 |[],_=>by rw[jE];split<;>rfl
 |y::M,h=>by
  rw[List.map_cons,List.nodup_cons]at h
  rw[jE]
  by_cases hx:x=y.1
  ·rw[if_pos hx]
   by_cases hz:z=x
   ·rw[if_pos hz,hz,hx];exact abb h.1
   ·rw[if_neg hz,cnt,cnt,List.lookup_cons,show (z == y.1)=false by rw[← hx];simpa using hz]
  ·rw[if_neg hx]
   have ih:=acC (x:=x) (z:=z) h.2
   rw[cnt]at ih
   rw[cnt,cnt,List.lookup_cons,List.lookup_cons]
   by_cases hz:z=y.1
   ·rw[show (z == y.1)=true by simpa using hz,if_neg (λe=>hx (e.symm.trans hz))]
   ·rw[show (z == y.1)=false by simpa using hz]
    exact ih
theorem SetF.put{n B i:Nat}{M:ya}{f:Nat→Bool}(h:SetF n B M f)(hi:i<n):SetF n (B+1) (qO i (Go.Proofs.cnt M i+1) M) (xW f i true):=by
 refine⟨aa7 h.nodup,λx=>?_,λx=>?_⟩
 ·rw[Xm,h.mem]
  constructor
  ·rintro(rfl|⟨j,rfl,hj,hf⟩)
   ·exact⟨i,rfl,hi,by simp[xW]⟩
   ·exact⟨j,rfl,hj,by
    unfold xW
    split
    ·rfl
    ·exact hf⟩
  ·rintro⟨j,rfl,hj,hf⟩
   by_cases e:j=i
   ·subst e;exact .inl rfl
   ·rw[xW,if_neg e]at hf;exact .inr ⟨j,rfl,hj,hf⟩
 ·obtain⟨h1,h2,h3⟩:=h.cnt x
  obtain⟨h4,h5,h6⟩:=h.cnt i
  rw[agl,Xm]
  by_cases e:x=i
  ·rw[if_pos e];exact⟨by omega,by omega,λ_=>.inl e,λ_=>by omega⟩
  ·rw[if_neg e];exact⟨h1,by omega,λhh=>.inr (h3.1 hh),λhh=>h3.2 (hh.resolve_left e)⟩
theorem SetF.take{n B i:Nat}{M:ya}{f:Nat→Bool}(h:SetF n B M f):SetF n B (jE i M) (xW f i false):=by
 refine⟨aa8 h.nodup,λx=>?_,λx=>?_⟩
 ·rw[Xn h.nodup,h.mem]
  constructor
  ·rintro⟨hne,j,rfl,hj,hf⟩
   exact⟨j,rfl,hj,by rw[xW,if_neg (by omega)];exact hf⟩
  ·rintro⟨j,rfl,hj,hf⟩
   unfold xW at hf
   split at hf
   ·cases hf
   ·rename_i e;exact⟨by omega,j,rfl,hj,hf⟩
 ·obtain⟨h1,h2,h3⟩:=h.cnt x
  rw[acC h.nodup,Xn h.nodup]
  by_cases e:x=i
  ·rw[if_pos e];exact⟨by omega,by omega,λhh=>by omega,λhh=>absurd e hh.1⟩
  ·rw[if_neg e];exact⟨h1,h2,λhh=>⟨e,h3.1 hh⟩,λhh=>h3.2 hh.2⟩
theorem SetF.congr{n B:Nat}{M:ya}{f g:Nat→Bool}(h:SetF n B M f)(hg:∀i,i<n→f i=g i):SetF n B M g:=
 ⟨h.nodup,λx=>by
  rw[h.mem]
  exact⟨λ⟨i,a,b,c⟩=>⟨i,a,b,(hg i b)▸c⟩,λ⟨i,a,b,c⟩=>⟨i,a,b,(hg i b).symm▸c⟩⟩,h.cnt⟩
theorem SetF.has{n B i:Nat}{M:ya}{f:Nat→Bool}(h:SetF n B M f)(hi:i<n):decide (0<Go.Proofs.cnt M i)=f i:=by
 rw[Bool.eq_iff_iff,gdt,(h.cnt i).2.2,h.mem]
 exact⟨λ⟨j,e,_,hj⟩=>by obtain rfl:i=j:=by omega
                       exact hj,λhf=>⟨i,rfl,hi,hf⟩⟩
abbrev abH:PlD:=⟨0,[]⟩
abbrev pthAt(ps:List PlD)(i:Nat):PlD:=ps.getD i abH
def yX(ps:List PlD)(p:PlD)(b:Bool)(f:Nat→Bool):Nat→Bool:=λi=>if prefP p (pthAt ps i)=true then b else f i
noncomputable def yZ(u:UnD)(g:GrD)(p:PtD):List (Bool×PlD):=
 ((zk p).filter λo=>decide (o.k=4)).map (λo=>(true,o.pl))++((if p.op=10∨p.op=11 then [(true,p.fr)]else [])++(if(decide (1≤p.op)&&decide (p.op≤8))=true∧wholeP u g p.to=true then [(false,p.to)]else []))
def doF(ps:List PlD)(a:(Nat→Bool)×(Nat→Bool))(s:Bool×PlD):(Nat→Bool)×(Nat→Bool):=(yX ps s.2 s.1 a.1,yX ps s.2 (!s.1) a.2)
noncomputable def xv(u:UnD)(g:GrD)(ps:List PlD)(p:PtD):(Nat→Bool)×(Nat→Bool):=(yZ u g p).foldl (doF ps) (zB,zB)
noncomputable def useF(u:UnD)(g:GrD)(ps:List PlD)(x:PlD)(laid:Bool):Nat→Bool:=λi=>
 (prefP (pthAt ps i) (heldW u.ss g.tys x) && !(laid&&(wholeP u g x&&eqb (pthAt ps i) x)))||(!laid&&wholeP u g x&&prefP x (pthAt ps i))
def abI(p:PtD):List (PlD×Bool×Bool):=
 (zk p).map (λo=>(o.pl,false,decide (o.k=4)))++((if p.op=4 then [(p.fr,false,false)]else if p.op=14 then [(abH,false,false)]else [])++(if(decide (1≤p.op)&&decide (p.op≤8))=true then [(p.to,true,false)]else []))
structure UsF where
 all:Nat→Bool
 again:Nat→Bool
 lost:Nat→Bool
noncomputable def usF(u:UnD)(g:GrD)(ps:List PlD)(a:UsF)(x:PlD×Bool×Bool):UsF:=
 ⟨λi=>a.all i||useF u g ps x.1 x.2.1 i,λi=>a.again i||(useF u g ps x.1 x.2.1 i&&a.lost i),if x.2.2=true then yX ps x.1 true a.lost else a.lost⟩
noncomputable def yA(u:UnD)(g:GrD)(ps:List PlD)(p:PtD):UsF:=(abI p).foldl (usF u g ps) ⟨zB,zB,zB⟩
def VV(n:Nat)(f:Nat→Bool):Option Int:=(risI n f).head?
def YA(l:List Int):Nat→Bool:=λi=>decide ((i:Int)∈l)
noncomputable def aei(u:UnD)(g:GrD)(ps:List PlD)(p:PtD)(a:Nat→Bool):Nat→Bool:=λi=>(a i||(xv u g ps p).1 i) && !(xv u g ps p).2 i
noncomputable def ofE(u:UnD)(fn q:Int):Int:=if isU u fn q=false then 2 else match u.fs[fn.toNat]? with
 |some g=>if 256<(zg u g).length then 5 else 0
 |none=>2
end
end Go.Proofs
