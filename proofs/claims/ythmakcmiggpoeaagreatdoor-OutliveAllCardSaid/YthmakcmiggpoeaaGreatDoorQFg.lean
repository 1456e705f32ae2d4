/-
  Contracts and plain laws that the last text leans on.
-/
import Derived.Test.YthmakcmiggpoeaaGreatDoorQFb
import Derived.Test.YthmakcmiggpoeaaGreatDoorQFf
import Derived.Test.YthmakcmiggpoeaaGreatDoorQFe
import Derived.WideKeyRuns
import Derived.Test.YthmakcmiggpoeaaGreatDoorQFd
set_option maxRecDepth 100000
set_option maxHeartbeats 8000000
set_option linter.unusedVariables false
set_option linter.unusedSimpArgs false
section
namespace Go.Proofs.Tryz
open Go.Sh
variable {t0 t1 t2 t3:Value} {w:World} {K:VW}
def X1(t0 t1:Value)(w:World)(K:VW):Prop:=
 pw w (Instr.box 43 t0) λt2 w1=>
 pw w1 (Instr.box 43 t1) λt3 w2=>
 lo w2 43 t2 λt12=>ca jv #[t12] w2 λt13 w3=>
 pe t13 0 λt14=>pe t13 1 λt15=>pw w3 (Instr.alloc 43 true (.tuple #[])) λt6 w4=>
 so w4 43 t6 t14 λw5=>lo w5 43 t3 λt17=>ca jv #[t17] w5 λt18 w6=>
 pe t18 0 λt19=>pe t18 1 λt20=>pw w6 (Instr.alloc 43 true (.tuple #[])) λt8 w7=>
 so w7 43 t8 t19 λw8=>bt .neq 29 t15 (i6 0) λt22=>za (λK9=>gIf t22 false (bt .neq 29 t20 (i6 0) λt25=>K9 [t25] w8) (K9 [u_] w8)) (λs10 _d11 w12=>
 zb t22 tr_ (s10.getD 0 u_) λt26=>zc t26 (K (.tuple #[(Value.slice Option.none 0 0),(i6 2)]) w12) (lo w12 43 t2 λt27=>lo w12 43 t3 λt28=>ca y7 #[t27,t28] w12 λt29 w13=>
 pp (Op.unary .not t29) λt30=>zc t30 (K (.tuple #[(Value.slice Option.none 0 0),(i6 150)]) w13) (pw w13 (Instr.alloc 28 true (.tuple #[])) λt10 w14=>
 lo w14.drew 43 t2 λt31=>lo w14.drew 43 t3 λt32=>ca kx #[t10] w14.drew λt33 w15=>
 Ext w14.drew w15∧
 ca yA #[t31,t32,fa_,t33] w15 λ_t34 w16=>
 lo w16 28 t10 λt35=>K (.tuple #[t35,(i6 0)]) w16)))
theorem abJ(h:X1 t0 t1 w K):zd prog vG #[t0,t1] w K:=
 okC false (.s (.r (rz 4 0 10)) (.s (.r (rz 8 0 10249)) (.s (.r (rz 8 0 10249)) (.s (.s (.r (ra 3 0 0 (.grp 23 false (ri 2 3 0) [25] (rz 1 5 0)))) (.c (.s (.r (rz 2 0 0)) (.n)) (.n))) (.s (.s (.r (rz 4 0 37)) (.c (.s (.r (rz 2 0 0)) (.n)) (.n))) (.s (.r (rz 1 0 2)) (.s (.r (rz 4 0 181)) (.s (.r (rz 3 0 1)) (.n))))))))) func19 rfl (by kernel_rfl) (by kernel_rfl) h
def QV(t0 t1 t2 t3:Value)(w:World)(K:VW):Prop:=
 pw w (Instr.box 43 t0) λt4 w1=>
 pw w1 (Instr.box 43 t1) λt5 w2=>
 za (λK3=>
 fl w2 t4 43 0 40 λt9=>bt .eql 40 t9 (Value.int .u8 4) λt10=>zc t10 (fl w2 t4 43 2 3 λt13=>fl w2 t5 43 2 3 λt15=>cv t3 #[t13,t15] w2 λ_t16 w7=>
 zc t2 (fl w7 t5 43 2 3 λt20=>fl w7 t4 43 2 3 λt22=>cv t3 #[t20,t22] w7 λ_t23 w8=>
 K3 [] w8) (K3 [] w7)) (K3 [] w2)) (λ_s4 _d5 w6=>
 fl w6 t4 43 4 41 λt25=>pp (Builtin.len_ #[41] 3 #[t25]) λt26=>bt .gtr 3 t26 (i6 0) λt27=>zc t27 (fl w6.drew t4 43 4 41 λt29=>xl w6.drew 41 t29 (i6 0) 43 λt31=>fl w6.drew t5 43 4 41 λt33=>xl w6.drew 41 t33 (i6 0) 43 λt35=>za (λK9=>gIf t2 false (fl w6.drew t4 43 1 4 λt39=>K9 [t39] w6.drew) (K9 [u_] w6.drew)) (λs10 _d11 w12=>
 zb t2 tr_ (s10.getD 0 u_) λt40=>ca yA #[t31,t35,t40,t3] w12 λ_t42 w13=>
 K (.tuple #[]) w13)) (K (.tuple #[]) w6))
theorem acS(h:QV t0 t1 t2 t3 w K):zd prog yA #[t0,t1,t2,t3] w K:=
 okC false (.s (.r (rz 2 0 10)) (.j [] (.s (.r (rz 3 0 4)) (.c (.s (.r (rz 6 0 2320)) (.s (.r (rz 1 0 0)) (.c (.r (rz 6 0 2320)) (.n)))) (.n))) (.s (.r (rz 4 0 4)) (.c (.r (ra 10 0 17476 (ra 1 13 0 (.grp 37 false (ri 2 10 4) [39] (ra 1 12 0 (rz 1 14 2)))))) (.n))))) func57 rfl (by kernel_rfl) (by kernel_rfl) h
def QW(t0:Value)(w:World)(K:VW):Prop:=
 pw w (Instr.box 126 t0) λt1 w1=>
 pp (Instr.makeFunc (.func 111) #[] #[t1]) λt3=>K t3 w1
theorem acT(h:QW t0 w K):zd prog kx #[t0] w K:=
 okC false (.s (.r (rz 2 0 2)) (.s (.r (rz 2 0 0)) (.n))) func50 rfl (by kernel_rfl) (by kernel_rfl) h
def Xt(t0 t1 t2:Value)(w:World)(K:VW):Prop:=
 lo w.drew 126 t2 λt6=>vk t6 λt7=>lo w.drew 28 t7 λt8=>pp (Instr.build 36 #[(0,t0),(1,t1)]) λt11=>((pw w.drew (Instr.loadAt 126 t2) λt5 w1=>
 Ext w.drew w1∧
 pw w1 (Instr.buildSlice 28 1 #[(0,t11)]) λt12 w2=>
 Ext w1 w2∧
 pw w2 (Builtin.append_ #[28,28] 28 #[t8,t12]) λt13 w3=>
 vk t5 λt14=>so w3 28 t14 t13 λw4=>K (.tuple #[]) w4)∧
 (pw w.drew (Instr.buildSlice 28 1 #[(0,t11)]) λt12_6 w5=>
 Ext w.drew w5∧
 ((pw w5 (Instr.loadAt 126 t2) λt5_8 w7=>
 Ext w5 w7∧
 pw w7 (Builtin.append_ #[28,28] 28 #[t8,t12_6]) λt13_10 w9=>
 vk t5_8 λt14_11=>so w9 28 t14_11 t13_10 λw12=>K (.tuple #[]) w12)∧
 (pw w5 (Builtin.append_ #[28,28] 28 #[t8,t12_6]) λt13_14 w13=>
 pw w13 (Instr.loadAt 126 t2) λt5_16 w15=>
 Ext w13 w15∧
 vk t5_16 λt14_17=>so w15 28 t14_17 t13_14 λw18=>K (.tuple #[]) w18))))
theorem aaF(h:Xt t0 t1 t2 w K):zd prog yv #[t0,t1,t2] w K:=
 okC false (.r (ra 6 1 17 (.alt 0 .u (rz 4 7 139) (ra 1 7 3 (.alt 0 .u (rz 3 8 34) (ra 1 8 2 (ra 1 0 3 (rz 2 9 8)))))))) func111 rfl (by kernel_rfl) (by kernel_rfl) h
def X2(t0 t1 t2 t3 t4:Value)(w:World)(K:VW):Prop:=
 pw w (Instr.box 25 t0) λt5 w1=>
 pw w1 (Instr.box 74 t1) λt6 w2=>
 pw w2 (Instr.box 96 t2) λt7 w3=>
 pw w3 (Instr.box 3 t3) λt8 w4=>
 pw w4 (Instr.box 124 t4) λt9 w5=>
 pp (Instr.makeFunc (.func 112) #[] #[t5,t6]) λt21=>pw w5 (Instr.alloc 190 true (.tuple #[])) λt10 w6=>
 so w6 190 t10 t21 λw7=>pp (Instr.makeFunc (.func 114) #[] #[t10,t9]) λt22=>fl w7 t7 96 0 90 λt24=>bt .eql 90 t24 (Value.int .u8 1) λt26=>zc t26 (fl w7.drew t7 96 2 93 λt29=>lo w7.drew 190 t10 λt30=>fl w7.drew t7 96 1 80 λt32=>cv t30 #[t32] w7.drew λt33 w8=>
 Ext w7.drew w8∧
 cv t22 #[t29,t33] w8 λ_t34 w9=>
 K (.tuple #[]) w9) (bt .eql 90 t24 (Value.int .u8 5) λt36=>zc t36 (fl w7.drew t7 96 2 93 λt39=>lo w7.drew 190 t10 λt40=>fl w7.drew t7 96 1 80 λt42=>cv t40 #[t42] w7.drew λt43 w10=>
 Ext w7.drew w10∧
 pp (Instr.field 43 t43 4) λt44=>xl w10 41 t44 (i6 0) 43 λt46=>cv t22 #[t39,t46] w10 λ_t47 w11=>
 K (.tuple #[]) w11) (bt .eql 90 t24 (Value.int .u8 4) λt49=>zc t49 (lo w7 190 t10 λt50=>fl w7 t7 96 6 80 λt52=>cv t50 #[t52] w7 λt53 w12=>
 pw w12 (Instr.alloc 43 true (.tuple #[])) λt12 w13=>
 so w13 43 t12 t53 λw14=>za (λK15=>
 fl w14.drew t7 96 7 4 λt55=>fl w14.drew t6 74 4 55 λt57=>lo w14.drew 3 t8 λt58=>xl w14.drew 55 t57 t58 3 λt60=>lo w14.drew 43 t12 λt61=>lo w14.drew 190 t10 λt64=>fl w14.drew t7 96 1 80 λt66=>lo w14.drew 124 t9 λt68=>((pw w14.drew (Instr.buildSlice 41 1 #[(0,t61)]) λt62 w19=>
 Ext w14.drew w19∧
 pp (Instr.build 43 #[(0,(Value.int .u8 4)),(1,t55),(2,t60),(4,t62)]) λt63=>cv t64 #[t66] w19 λt67 w20=>
 Ext w19 w20∧
 ca yA #[t63,t67,fa_,t68] w20 λ_t69 w21=>
 K15 [] w21)∧
 (cv t64 #[t66] w14.drew λt67_23 w22=>
 Ext w14.drew w22∧
 pw w22 (Instr.buildSlice 41 1 #[(0,t61)]) λt62_25 w24=>
 Ext w22 w24∧
 pp (Instr.build 43 #[(0,(Value.int .u8 4)),(1,t55),(2,t60),(4,t62_25)]) λt63_26=>ca yA #[t63_26,t67_23,fa_,t68] w24 λ_t69_28 w27=>
 K15 [] w27))) (λ_s16 _d17 w18=>
 pf 96 t7 6 λt70=>fl w18 t70 80 1 78 λt72=>pp (Builtin.len_ #[78] 3 #[t72]) λt73=>bt .sub 3 t73 (i6 1) λt74=>zp [t74] w18 (λs30 _d31 w32 K29=>
 bt .geq 3 (s30.getD 0 u_) (i6 0) λt76=>zc t76 (za (λK33=>
 za (λK37=>
 lo w32.drew 190 t10 λt79=>pf 96 t7 6 λt80=>fl w32.drew t80 80 0 3 λt82=>pf 96 t7 6 λt83=>fl w32.drew t83 80 1 78 λt85=>pp (Instr.sliceAt 78 t85 none (some (s30.getD 0 u_)) (some (s30.getD 0 u_))) λt88=>pp (Instr.build 80 #[(0,t82),(1,t88)]) λt89=>((cv t79 #[t89] w32.drew λt90 w41=>
 pw w41 (Instr.alloc 43 true (.tuple #[])) λt14 w42=>
 Ext w41 w42∧
 so w42 43 t14 t90 λw43=>K37 [t14] w43)∧
 (pw w32.drew (Instr.alloc 43 true (.tuple #[])) λt14_45 w44=>
 Ext w32.drew w44∧
 cv t79 #[t89] w44 λt90_47 w46=>
 so w46 43 t14_45 t90_47 λw48=>K37 [t14_45] w48))) (λs38 _d39 w40=>
 fl w40 (s38.getD 0 u_) 43 0 40 λt92=>bt .neq 40 t92 (Value.int .u8 4) λt93=>zc t93 (K33 [] w40) (lo w40.drew 124 t9 λt94=>fl w40.drew (s38.getD 0 u_) 43 2 3 λt96=>fl w40.drew t6 74 4 55 λt98=>lo w40.drew 3 t8 λt99=>xl w40.drew 55 t98 t99 3 λt101=>cv t94 #[t96,t101] w40.drew λ_t102 w49=>
 fl w49 (s38.getD 0 u_) 43 1 4 λt104=>pp (Op.unary .not t104) λt105=>zc t105 (K (.tuple #[]) w49) (K33 [] w49)))) (λ_s34 _d35 w36=>
 bt .sub 3 (s30.getD 0 u_) (i6 1) λt78=>K29 [t78] w36)) (K (.tuple #[]) w32)))) (bt .eql 90 t24 (Value.int .u8 7) λt107=>zc t107 (fl w7 t5 25 1 23 λt109=>fl w7 t7 96 8 3 λt111=>xl w7 23 t109 t111 101 λt113=>pw w7 (Instr.alloc 101 true (.tuple #[])) λt15 w50=>
 so w50 101 t15 t113 λw51=>pp (Instr.makeFunc (.func 115) #[] #[t6,t8]) λt114=>fl w51 t7 96 4 94 λt116=>pp (Builtin.len_ #[94] 3 #[t116]) λt117=>zp [(i6 0)] w51 (λs53 _d54 w55 K52=>
 bf .lss 3 (s53.getD 0 u_) t117 λt119=>zc t119 (xl w55 94 t116 (s53.getD 0 u_) 93 λt122=>pw w55 (Instr.alloc 93 true (.tuple #[])) λt18 w56=>
 so w56 93 t18 t122 λw57=>lo w57.drew 93 t18 λt124=>fl w57.drew t15 101 4 41 λt127=>bt .add 3 (s53.getD 0 u_) (i6 1) λt129=>xl w57.drew 41 t127 t129 43 λt131=>cv t114 #[t131] w57.drew λt132 w58=>
 Ext w57.drew w58∧
 cv t22 #[t124,t132] w58 λ_t133 w59=>
 bt .add 3 (s53.getD 0 u_) (i6 1) λt134=>K52 [t134] w59) (fl w55.drew t15 101 4 41 λt137=>xl w55.drew 41 t137 (i6 0) 43 λt139=>lo w55.drew 190 t10 λt141=>fl w55.drew t7 96 1 80 λt143=>lo w55.drew 124 t9 λt145=>cv t114 #[t139] w55.drew λt140 w60=>
 Ext w55.drew w60∧
 cv t141 #[t143] w60 λt144 w61=>
 Ext w60 w61∧
 ca yA #[t140,t144,fa_,t145] w61 λ_t146 w62=>
 fl w62 t15 101 2 97 λt148=>pp (Builtin.len_ #[97] 3 #[t148]) λt149=>zp [(i6 0)] w62 (λs64 _d65 w66 K63=>
 bf .lss 3 (s64.getD 0 u_) t149 λt151=>zc t151 (xl w66 97 t148 (s64.getD 0 u_) 194 λt153=>pw w66 (Instr.alloc 194 true (.tuple #[])) λt20 w67=>
 so w67 194 t20 t153 λw68=>lo w68.drew 124 t9 λt154=>fl w68.drew t6 74 4 55 λt156=>lo w68.drew 3 t8 λt157=>xl w68.drew 55 t156 t157 3 λt159=>fl w68.drew t20 194 0 3 λt161=>bf .add 3 t159 t161 λt162=>fl w68.drew t6 74 4 55 λt164=>lo w68.drew 3 t8 λt165=>xl w68.drew 55 t164 t165 3 λt167=>fl w68.drew t20 194 1 3 λt169=>bf .add 3 t167 t169 λt170=>cv t154 #[t162,t170] w68.drew λ_t171 w69=>
 bt .add 3 (s64.getD 0 u_) (i6 1) λt172=>K63 [t172] w69) (K (.tuple #[]) w66))))) (K (.tuple #[]) w7))))
theorem abK{t4:Value}(h:X2 t0 t1 t2 t3 t4 w K):zd prog qJ #[t0,t1,t2,t3,t4] w K:=
 okC false (.s (.r (rz 5 0 682)) (.s (.r (rz 3 0 40)) (.s (.r (rz 2 0 0)) (.s (.r (rz 2 0 4)) (.b (.s (.r (rz 2 0 0)) (.c (.r (rz 8 0 46160)) (.s (.r (rz 2 0 0)) (.c (.r (rz 11 0 2372688)) (.s (.r (rz 2 0 0)) (.c (.s (.r (rz 6 0 2705)) (.j [] (.r (ra 8 0 20804 (ra 3 10 17 (ra 1 14 1 (.alt 8 .u (ra 1 9 0 (ra 1 13 3 (rz 1 15 2))) (ra 1 13 3 (ra 2 8 3 (rz 1 15 2)))))))) (.s (.r (rz 6 0 16)) (.b (.lp [13] (.s (.s (.r (rz 2 0 0)) (.c (.n) (.n))) (.j [] (.b (.j [14] (.r (ra 11 0 4161 (.alt 11 .l (rz 2 12 11) (ra 1 12 3 (ra 1 11 2 (rz 1 13 2)))))) (.s (.s (.r (rz 3 0 4)) (.c (.n) (.n))) (.s (.r (rz 9 0 148753)) (.s (.r (rz 3 0 4)) (.c (.n) (.n))))))) (.r (rz 3 0 0))))))))) (.s (.r (rz 2 0 0)) (.c (.s (.r (rz 8 0 42052)) (.s (.r (rz 2 0 0)) (.s (.s (.r (rz 4 0 4)) (.b (.lp [118] (.s (.r (rz 1 0 0)) (.s (.c (.n) (.n)) (.s (.b (.s (.r (rz 6 0 2192)) (.r (rz 11 0 2949380)))) (.r (rz 2 0 0)))))))) (.s (.r (ra 5 0 272 (ra 3 6 17 (ra 1 10 1 (ra 1 5 3 (ra 1 9 3 (rz 1 11 2))))))) (.s (.r (rz 4 0 4)) (.b (.lp [150] (.s (.r (rz 1 0 0)) (.s (.c (.n) (.n)) (.s (.b (.s (.r (rz 4 0 164)) (.r (rz 18 0 35505849425)))) (.r (rz 2 0 0)))))))))))) (.n)))))))))))))) func51 rfl (by kernel_rfl) (by kernel_rfl) h
def Yt(t0 t1 t2:Value)(w:World)(K:VW):Prop:=
 pw w (Instr.box 80 t0) λt3 w1=>
 pw w1 (Instr.alloc 43 true (.tuple #[])) λt4 w2=>
 za (λK3=>
 fl w2.drew t1 25 0 22 λt9=>fl w2.drew t2 74 3 41 λt11=>fl w2.drew t3 80 0 3 λt13=>fl w2.drew t3 80 0 3 λt15=>bt .add 3 t15 (i6 1) λt16=>pp (Instr.sliceAt 41 t11 (some t13) (some t16) none) λt17=>fl w2.drew t3 80 1 78 λt19=>pp (Instr.build 80 #[(1,t19)]) λt20=>((ca vA #[t9,t17,t20] w2.drew λt21 w7=>
 pe t21 0 λt22=>pe t21 1 λ_t23=>pw w7 (Instr.alloc 43 true (.tuple #[])) λt5 w8=>
 Ext w7 w8∧
 so w8 43 t5 t22 λw9=>K3 [t5] w9)∧
 (pw w2.drew (Instr.alloc 43 true (.tuple #[])) λt5_11 w10=>
 Ext w2.drew w10∧
 ca vA #[t9,t17,t20] w10 λt21_13 w12=>
 pe t21_13 0 λt22_14=>pe t21_13 1 λ_t23_15=>so w12 43 t5_11 t22_14 λw16=>K3 [t5_11] w16))) (λs4 _d5 w6=>
 lo w6 43 (s4.getD 0 u_) λt24=>so w6 43 t4 t24 λw17=>pq w17 (zf 43 t4) λr18=>K r18 w17)
theorem VZ(h:Yt t0 t1 t2 w K):zd prog Yn #[t0,t1,t2] w K:=
 okC false (.s (.r (rz 2 0 10)) (.j [5] (.r (ra 13 0 4211780 (.alt 13 .l (rz 6 14 704) (ra 1 17 3 (ra 4 13 2 (rz 2 18 2)))))) (.s (.r (rz 2 0 9)) (.n)))) func112 rfl (by kernel_rfl) (by kernel_rfl) h
def Yu(t0 t1 t2 t3:Value)(w:World)(K:VW):Prop:=
 pw w (Instr.box 93 t0) λt4 w1=>
 pw w1 (Instr.box 43 t1) λt5 w2=>
 fl w2 t4 93 0 91 λt7=>bt .eql 91 t7 (Value.int .u8 3) λt8=>za (λK3=>gIf t8 false (fl w2 t4 93 0 91 λt11=>bt .eql 91 t11 (Value.int .u8 4) λt12=>K3 [t12] w2) (K3 [u_] w2)) (λs4 _d5 w6=>
 zb t8 tr_ (s4.getD 0 u_) λt13=>zc t13 (lo w6.drew 190 t2 λt14=>fl w6.drew t4 93 2 80 λt16=>lo w6.drew 43 t5 λt18=>lo w6.drew 124 t3 λt19=>cv t14 #[t16] w6.drew λt17 w7=>
 Ext w6.drew w7∧
 ca yA #[t17,t18,fa_,t19] w7 λ_t20 w8=>
 K (.tuple #[]) w8) (K (.tuple #[]) w6))
theorem V0(h:Yu t0 t1 t2 t3 w K):zd prog js #[t0,t1,t2,t3] w K:=
 okC false (.s (.r (rz 2 0 10)) (.s (.r (ra 4 0 4 (.grp 9 false (ri 3 4 4) [12] (rz 1 7 0)))) (.c (.r (ra 3 0 17 (ra 2 4 5 (ra 1 3 3 (rz 1 6 2))))) (.n)))) func114 rfl (by kernel_rfl) (by kernel_rfl) h
def Yv(t0 t1 t2:Value)(w:World)(K:VW):Prop:=
 pw w (Instr.box 43 t0) λt3 w1=>
 pw w1 (Instr.alloc 43 true (.tuple #[])) λt4 w2=>
 lo w2 43 t3 λt7=>ca yZ #[t7] w2 λt8 w3=>
 pp (Builtin.len_ #[55] 3 #[t8]) λt10=>zp [(i6 0)] w3 (λs5 _d6 w7 K4=>
 bf .lss 3 (s5.getD 0 u_) t10 λt12=>zc t12 (xl w7.drew 55 t8 (s5.getD 0 u_) 3 λt17=>fl w7.drew t1 74 4 55 λt19=>lo w7.drew 3 t2 λt20=>xl w7.drew 55 t19 t20 3 λt22=>pp (Builtin.max_ #[3,3] 3 #[t22,(i6 0)]) λt23=>bf .add 3 t17 t23 λt24=>px 55 t8 (s5.getD 0 u_) λt25=>so w7.drew 3 t25 t24 λw8=>bt .add 3 (s5.getD 0 u_) (i6 1) λt26=>K4 [t26] w8) (lo w7 43 t3 λt28=>ca vx #[t28,t8] w7 λt30 w9=>
 pe t30 0 λt31=>pe t30 1 λ_t32=>so w9 43 t3 t31 λw10=>lo w10 43 t3 λt33=>so w10 43 t4 t33 λw11=>pq w11 (zf 43 t4) λr12=>K r12 w11))
theorem V1(h:Yv t0 t1 t2 w K):zd prog jt #[t0,t1,t2] w K:=
 okC false (.s (.r (rz 2 0 10)) (.s (.r (rz 3 0 9)) (.s (.s (.r (rz 3 0 0)) (.b (.lp [11] (.s (.r (rz 1 0 0)) (.s (.c (.n) (.n)) (.s (.b (.s (.r (rz 2 0 0)) (.r (rz 13 0 33625152)))) (.r (rz 2 0 0)))))))) (.s (.r (rz 7 0 8225)) (.s (.r (rz 2 0 9)) (.n)))))) func115 rfl (by kernel_rfl) (by kernel_rfl) h
def V2(t0 t1 t2:Value)(w:World)(K:VW):Prop:=
 pw w (Instr.box 25 t0) λt3 w1=>
 lo w1 25 t3 λt12=>ca ZE #[t12,t1] w1 λt14 w2=>
 pe t14 0 λt15=>pe t14 1 λt16=>pw w2 (Instr.alloc 74 true (.tuple #[])) λt8 w3=>
 so w3 74 t8 t15 λw4=>bt .eql 29 t16 (i6 2) λt18=>za (λK5=>gIf t18 false (bt .lss 3 t1 (i6 0) λt21=>K5 [t21] w4) (K5 [u_] w4)) (λs6 _d7 w8=>
 zb t18 tr_ (s6.getD 0 u_) λt22=>za (λK9=>gIf t22 false (fl w8 t3 25 1 23 λt26=>pp (Builtin.len_ #[23] 3 #[t26]) λt27=>bf .geq 3 t1 t27 λt28=>K9 [t28] w8) (K9 [u_] w8)) (λs10 _d11 w12=>
 zb t22 tr_ (s10.getD 0 u_) λt29=>za (λK13=>gIf t29 false (bt .lss 3 t2 (i6 0) λt32=>K13 [t32] w12) (K13 [u_] w12)) (λs14 _d15 w16=>
 zb t29 tr_ (s14.getD 0 u_) λt33=>za (λK17=>gIf t33 false (fl w16 t3 25 1 23 λt37=>px 23 t37 t1 λt39=>fl w16 t39 101 6 99 λt41=>pp (Builtin.len_ #[99] 3 #[t41]) λt42=>bf .geq 3 t2 t42 λt43=>K17 [t43] w16) (K17 [u_] w16)) (λs18 _d19 w20=>
 zb t33 tr_ (s18.getD 0 u_) λt44=>zc t44 (K (.tuple #[(Value.slice Option.none 0 0),(i6 2)]) w20) (bt .neq 29 t16 (i6 0) λt46=>zc t46 (K (.tuple #[(Value.slice Option.none 0 0),t16]) w20) (pw w20 (Instr.alloc 28 true (.tuple #[])) λt10 w21=>
 lo w21.drew 25 t3 λt48=>lo w21.drew 74 t8 λt49=>fl w21.drew t3 25 1 23 λt51=>px 23 t51 t1 λt53=>fl w21.drew t53 101 6 99 λt55=>xl w21.drew 99 t55 t2 96 λt58=>ca kx #[t10] w21.drew λt60 w22=>
 Ext w21.drew w22∧
 ca qJ #[t48,t49,t58,t2,t60] w22 λ_t61 w23=>
 lo w23 28 t10 λt62=>K (.tuple #[t62,t16]) w23))))))
theorem ae4(h:V2 t0 t1 t2 w K):zd prog vH #[t0,t1,t2] w K:=
 okC false (.s (.r (rz 3 0 2)) (.s (.r (rz 9 0 40993)) (.s (.s (.r (ra 3 0 0 (.grp 19 false (ri 2 3 0) [21] (ra 2 5 0 (.grp 23 false (ri 5 7 16) [28] (ra 2 12 0 (.grp 30 false (ri 2 14 0) [32] (ra 2 16 0 (.grp 34 false (ri 9 18 4112) [43] (rz 1 27 0)))))))))) (.c (.s (.r (rz 2 0 0)) (.n)) (.n))) (.s (.s (.r (rz 2 0 0)) (.c (.s (.r (rz 3 0 0)) (.n)) (.n))) (.s (.r (rz 1 0 2)) (.s (.r (rz 14 0 185614405)) (.s (.r (rz 4 0 1)) (.n)))))))) func16 rfl (by kernel_rfl) (by kernel_rfl) h
def V3(t0 t1:Value)(w:World)(K:VW):Prop:=
 pw w (Instr.box 25 t0) λt2 w1=>
 lo w1 25 t2 λt14=>ca ZE #[t14,t1] w1 λt16 w2=>
 pe t16 0 λt17=>pe t16 1 λt18=>pw w2 (Instr.alloc 74 true (.tuple #[])) λt6 w3=>
 so w3 74 t6 t17 λw4=>bt .neq 29 t18 (i6 0) λt20=>zc t20 (K (.tuple #[(Value.slice Option.none 0 0),t18]) w4) (pw w4 (Instr.alloc 28 true (.tuple #[])) λt8 w5=>
 pw w5 (Instr.makeMap 122 none) λt22 w6=>
 pw w6 (Instr.alloc 122 true (.tuple #[])) λt9 w7=>
 so w7 122 t9 t22 λw8=>ca kx #[t8] w8 λt23 w9=>
 pw w9 (Instr.alloc 124 true (.tuple #[])) λt10 w10=>
 so w10 124 t10 t23 λw11=>fl w11 t2 25 1 23 λt25=>px 23 t25 t1 λt27=>fl w11 t27 101 6 99 λt29=>pp (Builtin.len_ #[99] 3 #[t29]) λt30=>zp [(i6 0)] w11 (λs13 _d14 w15 K12=>
 bf .lss 3 (s13.getD 0 u_) t30 λt32=>zc t32 (xl w15 99 t29 (s13.getD 0 u_) 96 λt35=>pw w15 (Instr.alloc 96 true (.tuple #[])) λt12 w16=>
 so w16 96 t12 t35 λw17=>lo w17 25 t2 λt36=>lo w17 74 t6 λt37=>lo w17 96 t12 λt38=>pp (Instr.makeFunc (.func 52) #[] #[t9,t10]) λt40=>ca qJ #[t36,t37,t38,(s13.getD 0 u_),t40] w17 λ_t41 w18=>
 bt .add 3 (s13.getD 0 u_) (i6 1) λt42=>K12 [t42] w18) (lo w15 28 t8 λt43=>K (.tuple #[t43,t18]) w15)))
theorem ae5(h:V3 t0 t1 w K):zd prog ky #[t0,t1] w K:=
 okC false (.s (.r (rz 3 0 2)) (.s (.r (rz 9 0 40993)) (.s (.s (.r (rz 2 0 0)) (.c (.s (.r (rz 3 0 0)) (.n)) (.n))) (.s (.r (rz 1 0 2)) (.s (.r (rz 3 0 42)) (.s (.r (rz 3 0 42)) (.s (.s (.r (rz 8 0 1028)) (.b (.lp [31] (.s (.r (rz 1 0 0)) (.s (.c (.n) (.n)) (.s (.b (.s (.r (rz 6 0 2192)) (.r (rz 6 0 2069)))) (.r (rz 2 0 0)))))))) (.s (.r (rz 4 0 1)) (.n))))))))) func13 rfl (by kernel_rfl) (by kernel_rfl) h
def QX(t0 t1 t2 t3:Value)(w:World)(K:VW):Prop:=
 pp (Instr.build 36 #[(0,t0),(1,t1)]) λt9=>pw w (Instr.alloc 36 true (.tuple #[])) λt6 w1=>
 so w1 36 t6 t9 λw2=>za (λK3=>
 bf .neq 3 t0 t1 λt12=>za (λK7=>gIf t12 true (lo w2 122 t2 λt14=>lo w2 36 t6 λt15=>pq w2 (Instr.lookup 122 t14 t15 false) λt16=>bt .eql 3 t16 (i6 0) λt17=>K7 [t17] w2) (K7 [u_] w2)) (λs8 _d9 w10=>
 zb t12 (s8.getD 0 u_) fa_ λt18=>zc t18 (lo w10 124 t3 λt19=>cv t19 #[t0,t1] w10 λ_t22 w11=>
 K3 [] w11) (K3 [] w10))) (λ_s4 _d5 w6=>
 lo w6.drew 122 t2 λt23=>lo w6.drew 36 t6 λt24=>((pw w6.drew (Instr.lookup 122 t23 t24 false) λt25 w12=>
 bt .add 3 t25 (i6 1) λt26=>pw w12 (Instr.mapEntry 122 t23 t24) λt27 w13=>
 pe t27 1 λt28=>pu w13 (Instr.entryStore 122 t23 t28 t26) λw14=>K (.tuple #[]) w14)∧
 (pw w6.drew (Instr.mapEntry 122 t23 t24) λt27_16 w15=>
 pe t27_16 1 λt28_17=>pw w15 (Instr.lookup 122 t23 t24 false) λt25_19 w18=>
 bt .add 3 t25_19 (i6 1) λt26_20=>pu w18 (Instr.entryStore 122 t23 t28_17 t26_20) λw21=>K (.tuple #[]) w21)))
theorem acU(h:QX t0 t1 t2 t3 w K):zd prog Qt #[t0,t1,t2,t3] w K:=
 okC false (.s (.r (rz 5 0 640)) (.j [] (.s (.r (ra 4 0 0 (.grp 13 true (ri 4 4 21) [17] (rz 1 8 0)))) (.c (.r (rz 4 0 129)) (.n))) (.r (ra 2 0 5 (.alt 2 .l (rz 4 3 136) (ra 2 4 2 (ra 2 2 2 (rz 1 6 2)))))))) func52 rfl (by kernel_rfl) (by kernel_rfl) h
def Xu(t0 t1:Value)(w:World)(K:VW):Prop:=
 pw w (Instr.box 44 t1) λt3 w1=>
 lo w1 44 t3 λt13=>pp (Instr.makeFunc (.func 62) #[] #[t3]) λt14=>ca yr #[t13,t14] w1 λt15 w2=>
 za (λK3=>gIf t15 false (lo w2 44 t3 λt18=>pp (Builtin.len_ #[44] 3 #[t18]) λt19=>ca kR #[t0,t19] w2 λt20 w7=>
 pp (Op.unary .not t20) λt21=>K3 [t21] w7) (K3 [u_] w2)) (λs4 _d5 w6=>
 zb t15 tr_ (s4.getD 0 u_) λt22=>zc t22 (K (.tuple #[(i6 0),(i6 0),fa_,(i6 2)]) w6) (pp (Builtin.len_ #[28] 3 #[t0]) λt24=>zp [(i6 0)] w6 (λs9 _d10 w11 K8=>
 bf .lss 3 (s9.getD 0 u_) t24 λt26=>zc t26 (xl w11 28 t0 (s9.getD 0 u_) 36 λt29=>pw w11 (Instr.alloc 36 true (.tuple #[])) λt9 w12=>
 so w12 36 t9 t29 λw13=>lo w13.drew 44 t3 λt31=>fl w13.drew t9 36 0 3 λt33=>xl w13.drew 44 t31 t33 48 λt35=>lo w13.drew 44 t3 λt36=>fl w13.drew t9 36 1 3 λt38=>xl w13.drew 44 t36 t38 48 λt40=>ca Y1 #[t35,t40] w13.drew λt41 w14=>
 pe t41 0 λt42=>pe t41 1 λt43=>pe t41 2 λ_t44=>zc t43 (K (.tuple #[(s9.getD 0 u_),t42,fa_,(i6 0)]) w14) (bt .add 3 (s9.getD 0 u_) (i6 1) λt48=>K8 [t48] w14)) (K (.tuple #[(i6 0),(i6 0),tr_,(i6 0)]) w11))))
theorem aaG(h:Xu t0 t1 w K):zd prog jQ #[t0,t1] w K:=
 okC false (.s (.r (rz 5 0 2)) (.s (.s (.r (ra 4 0 33 (.grp 16 false (ri 5 4 132) [21] (rz 1 9 0)))) (.c (.s (.r (rz 4 0 0)) (.n)) (.n))) (.s (.s (.r (rz 3 0 0)) (.b (.lp [25] (.s (.r (rz 1 0 0)) (.s (.c (.n) (.n)) (.s (.b (.s (.r (rz 6 0 2192)) (.s (.r (rz 18 0 2376977)) (.s (.r (rz 1 0 0)) (.c (.s (.r (rz 6 0 0)) (.n)) (.n)))))) (.r (rz 2 0 0)))))))) (.s (.r (rz 4 0 0)) (.n))))) func21 rfl (by kernel_rfl) (by kernel_rfl) h
def Z1(t0 t1:Value)(w:World)(K:VW):Prop:=
 pw w (Instr.box 48 t0) λt2 w1=>
 lo w1.drew 48 t2 λt4=>ca jc #[t4] w1.drew λt5 w2=>
 pp (Op.unary .not t5) λt6=>za (λK3=>gIf t6 false (fl w2 t2 48 0 3 λt9=>lo w2 44 t1 λt10=>px 44 t10 (i6 0) λt11=>fl w2 t11 48 0 3 λt13=>bf .neq 3 t9 t13 λt14=>K3 [t14] w2) (K3 [u_] w2)) (λs4 _d5 w6=>
 zb t6 tr_ (s4.getD 0 u_) λt15=>K t15 w6)
theorem J4(h:Z1 t0 t1 w K):zd prog ZP #[t0,t1] w K:=
 okC false (.s (.r (rz 2 0 2)) (.s (.r (ra 4 0 9 (.grp 7 false (ri 7 4 1044) [14] (rz 2 11 0)))) (.n))) func62 rfl (by kernel_rfl) (by kernel_rfl) h
def Xv(t0 t1:Value)(w:World)(K:VW):Prop:=
 pw w (Instr.box 3 t1) λt3 w1=>
 pp (Instr.makeFunc (.func 127) #[] #[t3]) λt6=>ca zT #[t0,t6] w1 λt7 w2=>
 pp (Op.unary .not t7) λt8=>K t8 w2
theorem aaH(h:Xv t0 t1 w K):zd prog kR #[t0,t1] w K:=
 okC false (.s (.r (rz 2 0 2)) (.s (.r (rz 5 0 32)) (.n))) func64 rfl (by kernel_rfl) (by kernel_rfl) h
def Z2(t0 t1:Value)(w:World)(K:VW):Prop:=
 pw w (Instr.box 36 t0) λt2 w1=>
 fl w1 t2 36 0 3 λt5=>fl w1 t2 36 1 3 λt7=>pp (Builtin.min_ #[3,3] 3 #[t5,t7]) λt8=>bt .lss 3 t8 (i6 0) λt9=>za (λK2=>gIf t9 false (fl w1 t2 36 0 3 λt12=>fl w1 t2 36 1 3 λt14=>pp (Builtin.max_ #[3,3] 3 #[t12,t14]) λt15=>lo w1 3 t1 λt16=>bf .geq 3 t15 t16 λt17=>K2 [t17] w1) (K2 [u_] w1)) (λs3 _d4 w5=>
 zb t9 tr_ (s3.getD 0 u_) λt18=>K t18 w5)
theorem J5(h:Z2 t0 t1 w K):zd prog ZQ #[t0,t1] w K:=
 okC false (.s (.r (rz 2 0 2)) (.s (.r (ra 7 0 68 (.grp 10 false (ri 7 7 1092) [17] (rz 2 14 0)))) (.n))) func127 rfl (by kernel_rfl) (by kernel_rfl) h
def QY(t0 t1 t2:Value)(w:World)(K:VW):Prop:=
 bt .lss 3 t1 (i6 0) λt13=>za (λK1=>gIf t13 false (bt .gtr 3 t1 (i6 512) λt16=>K1 [t16] w) (K1 [u_] w)) (λs2 _d3 w4=>
 zb t13 tr_ (s2.getD 0 u_) λt17=>za (λK5=>gIf t17 false (bt .lss 3 t2 (i6 0) λt20=>K5 [t20] w4) (K5 [u_] w4)) (λs6 _d7 w8=>
 zb t17 tr_ (s6.getD 0 u_) λt21=>za (λK9=>gIf t21 false (bf .geq 3 t2 t1 λt25=>K9 [t25] w8) (K9 [u_] w8)) (λs10 _d11 w12=>
 zb t21 tr_ (s10.getD 0 u_) λt26=>za (λK13=>gIf t26 false (ca kR #[t0,t1] w12 λt30 w17=>
 pp (Op.unary .not t30) λt31=>K13 [t31] w17) (K13 [u_] w12)) (λs14 _d15 w16=>
 zb t26 tr_ (s14.getD 0 u_) λt32=>zc t32 (K (.tuple #[(Value.slice Option.none 0 0),(i6 2)]) w16) (pw w16 (Instr.buildSlice 55 1 #[(0,t2)]) λt34 w18=>
 zp [t34,(i6 0)] w18 (λs20 _d21 w22 K19=>
 pp (Builtin.len_ #[55] 3 #[(s20.getD 0 u_)]) λt37=>bf .lss 3 (s20.getD 1 u_) t37 λt38=>zc t38 (pp (Builtin.len_ #[28] 3 #[t0]) λt42=>zp [(s20.getD 0 u_),(i6 0)] w22 (λs24 _d25 w26 K23=>
 bf .lss 3 (s24.getD 1 u_) t42 λt44=>zc t44 (za (λK27=>
 xl w26 28 t0 (s24.getD 1 u_) 36 λt46=>pw w26 (Instr.alloc 36 true (.tuple #[])) λt11 w31=>
 so w31 36 t11 t46 λw32=>fl w32.drew t11 36 1 3 λt48=>xl w32.drew 55 (s24.getD 0 u_) (s20.getD 1 u_) 3 λt52=>bf .eql 3 t48 t52 λt53=>za (λK33=>gIf t53 true (fl w32.drew t11 36 0 3 λt57=>ca xC #[(s24.getD 0 u_),t57] w32.drew λt58 w37=>
 pp (Op.unary .not t58) λt59=>K33 [t59] w37) (K33 [u_] w32.drew)) (λs34 _d35 w36=>
 zb t53 (s34.getD 0 u_) fa_ λt60=>zc t60 (fl w36 t11 36 0 3 λt63=>pw w36 (Instr.buildSlice 55 1 #[(0,t63)]) λt64 w38=>
 pw w38 (Builtin.append_ #[55,55] 55 #[(s24.getD 0 u_),t64]) λt65 w39=>
 K27 [t65] w39) (K27 [(s24.getD 0 u_)] w36))) (λs28 _d29 w30=>
 bt .add 3 (s24.getD 1 u_) (i6 1) λt66=>K23 [(s28.getD 0 u_),t66] w30)) (bt .add 3 (s20.getD 1 u_) (i6 1) λt40=>K19 [(s24.getD 0 u_),t40] w26))) (ca jX #[(s20.getD 0 u_)] w22 λ_t68 w40=>
 K (.tuple #[(s20.getD 0 u_),(i6 0)]) w40)))))))
theorem acV(h:QY t0 t1 t2 w K):zd prog Zm #[t0,t1,t2] w K:=
 okC false (.s (.r (rz 2 0 0)) (.s (.s (.r (ra 3 0 0 (.grp 14 false (ri 2 3 0) [16] (ra 2 5 0 (.grp 18 false (ri 2 7 0) [20] (ra 2 9 0 (.grp 22 false (ri 3 11 0) [25] (ra 2 14 0 (.grp 27 false (ri 4 16 32) [31] (rz 1 20 0)))))))))) (.c (.s (.r (rz 2 0 0)) (.n)) (.n))) (.s (.r (rz 3 0 8)) (.s (.s (.r (rz 1 0 0)) (.b (.lp [8,9] (.s (.s (.r (rz 4 0 0)) (.c (.n) (.n))) (.s (.b (.s (.r (rz 3 0 0)) (.b (.lp [8,43] (.s (.r (rz 1 0 0)) (.s (.c (.n) (.n)) (.j [8] (.b (.s (.r (rz 4 0 164)) (.s (.r (ra 8 0 1028 (.grp 54 true (ri 5 8 144) [59] (rz 1 13 0)))) (.c (.r (rz 6 0 656)) (.n))))) (.r (rz 2 0 0))))))))) (.r (rz 3 0 0))))))) (.s (.r (rz 2 0 8)) (.s (.r (rz 3 0 0)) (.n))))))) func23 rfl (by kernel_rfl) (by kernel_rfl) h
def yq(t0 t1:Value)(w:World)(K:VW):Prop:=
 ca zX #[t0,t1] w λt7 w1=>
 bt .geq 3 t7 (i6 0) λt8=>K t8 w1
theorem xz(h:yq t0 t1 w K):zd prog zT #[t0,t1] w K:=
 okC false (.s (.r (rz 1 0 0)) (.s (.r (rz 5 0 32)) (.n))) func126 rfl (by kernel_rfl) (by kernel_rfl) h
def yz(t0 t1:Value)(w:World)(K:VW):Prop:=
 pp (Builtin.len_ #[28] 3 #[t0]) λt7=>zp [(i6 0)] w (λs2 _d3 w4 K1=>
 bf .lss 3 (s2.getD 0 u_) t7 λt9=>zc t9 (xl w4 28 t0 (s2.getD 0 u_) 36 λt15=>cv t1 #[t15] w4 λt16 w5=>
 zc t16 (K (s2.getD 0 u_) w5) (bt .add 3 (s2.getD 0 u_) (i6 1) λt18=>K1 [t18] w5)) (K (i6 (-1)) w4))
theorem xI(h:yz t0 t1 w K):zd prog zX #[t0,t1] w K:=
 okC false (.s (.r (rz 1 0 0)) (.s (.s (.r (rz 3 0 0)) (.b (.lp [8] (.s (.r (rz 1 0 0)) (.s (.c (.n) (.n)) (.s (.b (.s (.r (rz 2 0 0)) (.s (.r (rz 6 0 2304)) (.c (.s (.r (rz 2 0 0)) (.n)) (.n))))) (.r (rz 2 0 0)))))))) (.s (.r (rz 1 0 0)) (.n)))) func170 rfl (by kernel_rfl) (by kernel_rfl) h
end Go.Proofs.Tryz
end
section
namespace Go.Proofs
open Go.Sh Go.RowKit
abbrev CnC(c:List Value)(x:CnD):Prop:=ahZ c x
def cns(l:List CnD):List Value:=l.flatMap λx=>[.int .i64 x.1,.int .i64 x.2]
theorem Xw{l:List CnD}{x:CnD}:cns (l++[x])=cns l++[.int .i64 x.1,.int .i64 x.2]:=by simp[cns]
theorem QZ:∀{l:List CnD},(cns l).length=l.length*2
 |[]=>rfl
 |x::l=>by
  have :cns (x::l)=.int .i64 x.1::.int .i64 x.2::cns l:=rfl
  rw[this,List.length_cons,List.length_cons,QZ,List.length_cons];omega
theorem ke{l:List CnD}:RowOf 2 CnC (cns l) l:=
 adN (P:=λl=>RowOf 2 CnC (cns l) l) RowOf.nil (λl x ih=>by rw[Xw];exact ih.snoc rfl rfl) l
theorem Z3{r:Gh}{p:Option Addr}{n cap:Nat}{l:List CnD}(h:SlG 2 r CnC (.slice p n cap) l){i:Nat}(hi:i<l.length):∃b off,p=some ⟨b,off,none⟩∧n=l.length∧(Ob r λw=>w.cell? ⟨b,off+i*2,none⟩=some (.int .i64 l[i].1))∧(Ob r λw=>w.cell? ⟨b,off+i*2+1,none⟩=some (.int .i64 l[i].2))∧∀j v,[Value.int .i64 l[i].1,.int .i64 l[i].2][j]? = some v→Ob r λw=>w.cell? ⟨b,off+i*2+j,none⟩=some v:=by
 have hl:=h.len
 obtain⟨b,off,c,hE,hc,hcc,hcl⟩:=h.get (by decide) hi
 obtain rfl:c=_:=hcc
 exact⟨b,off,hE,hl,hcl 0 _ rfl,hcl 1 _ rfl,hcl⟩
theorem k6{α:Type}{A M:List α}{x y:α}:(A++x::y::M).Perm (x::y::(A++M)):=List.perm_middle.trans (List.Perm.cons _ List.perm_middle)
def Tk{σ:Type}(X:Nat→Prop)(w0:World)(r:Gh)(fv:Value)(Lc:σ→List Asr)(J:σ→List CnD→Prop):Prop:=
 ∀(s:σ)(l:List CnD)(a b:Int)(r':Gh)(M:List Asr)(w:World)(K:Value→World→Prop)(_:Le r r'),J s l→l.length<1000000→StX X w0 r' w (Lc s++M)→
  (∀s' v w',J s' (l++[(a,b)])→StX X w0 r' w' (Lc s'++M)→K v w')→zC Tryz.prog fv #[.int .i64 a,.int .i64 b] w K
section
variable {σ:Type} {X:Nat→Prop} {w0:World} {r:Gh} {fv:Value} {Lc:σ→List Asr} {J:σ→List CnD→Prop}
theorem Tk.up{q:Gh}(h:Tk X w0 r fv Lc J)(le:Le r q):Tk X w0 q fv Lc J:=λs l a b r' M w K le2 hJ hl S hK=>h s l a b r' M w K ⟨λb o ho=>le2.le b o (le.le b o ho)⟩ hJ hl S hK
abbrev xb(both:Bool)(t u:TyD):List CnD:=if t.k=4 then(t.re,u.re)::(if both=true then [(u.re,t.re)]else [])else []
theorem jn(hT:Tk X w0 r fv Lc J){s0:Int}:∀(n:Nat){t u:TyD}{both:Bool}{r':Gh}{s:σ}{l:List CnD}{M:List Asr}{w:World}{vt vu:Value}{K:Value→World→Prop}[Le r r'],
  zr s0 n t=true→zr s0 n u=true→bare t=bare u→J s l→l.length+2*n≤1000000→TyG r' vt t→TyG r' vu u→StX X w0 r' w (Lc s++M)→
  (∀s' w',J s' (l++flowN both n t u)→StX X w0 r' w' (Lc s'++M)→K (.tuple #[]) w')→zd Tryz.prog Tryz.yA #[vt,vu,.bool both,fv] w K:=by
 intro n
 induction n with
 |zero=>intro t u both r' s l M w vt vu K _ h;cases h
 |succ n ih=>
  intro t u both r' s l M w vt vu K le ht hu hb hJ hl gt gu S h
  refine Tryz.acS ?_
  unfold Tryz.QV
  obtain⟨p1,cap1,rfl,_,_,hof⟩:=gt
  obtain⟨p2,cap2,rfl,_,_,huf⟩:=gu
  refine S.box λb4 w1 S=>?_
  refine S.box λb5 w2 S=>?_
  have S:StX X w0 r' w2 (.cell b5 (tyL u p2 cap2) 43::.cell b4 (tyL t p1 cap1) 43::(Lc s++M)):=S
  refine zo (λx w'=>∃s',x=[]∧J s' (l++xb both t u)∧StX X w0 r' w' (.cell b5 (tyL u p2 cap2) 43::.cell b4 (tyL t p1 cap1) 43::(Lc s'++M))) (λK3 hK3=>?_) ?_
  ·refine gg_ ?_
   refine zj (λhk=>?_) (λhk=>?_)
   ·refine gg_ ?_
    refine hT s l t.re u.re r' _ _ _ le hJ (by omega) (S.permO k6) λs1 _ w7 hJ1 S=>?_
    have S:StX X w0 r' w7 (.cell b5 (tyL u p2 cap2) 43::.cell b4 (tyL t p1 cap1) 43::(Lc s1++M)):=S.permO k6.symm
    refine c_b (λhb=>?_) (λhb=>?_)
    ·refine gg_ ?_
     refine hT s1 _ u.re t.re r' _ _ _ le hJ1 (by rw[List.length_append,List.length_singleton];omega) (S.permO k6) λs2 _ w8 hJ2 S=>?_
     have S:StX X w0 r' w8 (.cell b5 (tyL u p2 cap2) 43::.cell b4 (tyL t p1 cap1) 43::(Lc s2++M)):=S.permO k6.symm
     exact hK3 _ _ ⟨s2,rfl,by rw[xb,if_pos hk,if_pos hb];simpa using hJ2,S⟩
    ·exact hK3 _ _ ⟨s1,rfl,by rw[xb,if_pos hk,if_neg (by rw[hb];decide)];exact hJ1,S⟩
   ·exact hK3 _ _ ⟨s,rfl,by rw[xb,if_neg hk,List.append_nil];exact hJ,S⟩
  repeat clear S
  rintro _ w6 ⟨s1,rfl,hJ1,S⟩ d
  refine gg_ ?_
  rcases ZZ ht hu hb with⟨h1,h2,h3⟩|⟨x,y,h1,h2,h3,h4,h5⟩
  ·refine c_f (by rw[h1];rfl) ?_
   refine h s1 _ ?_ S.tl.tl
   rw[VT h1 h3]
   rwa[xb,if_neg h3]at hJ1
  ·have l1:t.of.length=1:=by rw[h1];rfl
   have l2:u.of.length=1:=by rw[h2];rfl
   obtain⟨ba,oa,rfl,c,hc,hcell,hx⟩:=NdG.of hof (i:=0) (by omega)
   obtain⟨bb,ob,rfl,c',hc',hcell',hy⟩:=NdG.of huf (i:=0) (by omega)
   have hx:TyG r' (.agg c.toArray) x:=by simpa [h1]using hx
   have hy:TyG r' (.agg c'.toArray) y:=by simpa [h2]using hy
   refine c_t (by rw[l1];rfl) ?_
   have S:=S.go (Ext.drew _)
   refine gg_ ?_
   refine zn (n:=5) hc (λj v hj=>by simpa using S.at (hcell j v hj)) ?_
   refine gg_ ?_
   refine zn (n:=5) hc' (λj v hj=>by simpa using S.at (hcell' j v hj)) ?_
   refine zk (c:=t.m) (λ_ K2 hK2=>by refine gg_ ?_;exact hK2) ?_
   have hfl:(xb both t u).length≤2:=by
    rw[xb]
    split
    ·split<;>simp
    ·simp
   refine ih h3 h4 h5 hJ1 (by rw[List.length_append];omega) hx hy (S.permO k6) λs2 w13 hJ2 S=>?_
   have S:StX X w0 r' w13 (.cell b5 (tyL u (some ⟨bb,ob,none⟩) cap2) 43::.cell b4 (tyL t (some ⟨ba,oa,none⟩) cap1) 43::(Lc s2++M)):=S.permO k6.symm
   refine h s2 _ ?_ S.tl.tl
   rw[XZ h1 h2,← List.append_assoc]
   exact hJ2
abbrev lsL(b:Nat)(s:Value×List CnD):List Asr:=[.row s.1 36 2 s.2.length (cns s.2),.cell b [s.1] 28]
theorem aj7{b b1:Nat}(h1:Ob r λw=>w.cell? ⟨b1,0,none⟩=some (.pointer (some ⟨b,0,none⟩))):
  Tk X w0 r (.func (.func Tryz.yv) #[] #[.pointer (some ⟨b1,0,none⟩)]) (lsL b) (λs l=>s.2=l):=by
 intro s l x y r' M w K le hJ hl S hK
 obtain⟨v,l'⟩:=s
 obtain rfl:l'=l:=hJ
 refine aku (by kernel_rfl) ?_
 refine Tryz.aaF ?_
 unfold Tryz.Xt
 have S:=S.go (Ext.drew _)
 have S:StX X w0 r' _ (.row v 36 2 l'.length (cns l')::.cell b [v] 28::M):=S
 have h1:Ob r' λw=>w.cell? ⟨b1,0,none⟩=some (.pointer (some ⟨b,0,none⟩)):=λw hw=>h1 w (hw.le (h:=le))
 refine zg (S.at h1) ?_
 refine n_some ?_
 refine S.ld (b:=b) ?_
 refine gp_ ?_
 have hap:∀{b2:Nat}{w1:World}{K2:Value→World→Prop},StX X w0 r' w1 (.cell b2 [.int .i64 x,.int .i64 y] 36::.row v 36 2 l'.length (cns l')::.cell b [v] 28::M)→
   (∀v4 w2,StX X w0 r' w2 (.row v4 36 2 (l'.length+1) (cns (l'++[(x,y)]))::.cell b [v] 28::M)→K2 v4 w2)→
   opW Tryz.prog w1 (Builtin.append_ #[28,28] 28 #[v,.slice (some ⟨b2,0,none⟩) 1 1]) K2:=fun {b2 w1 K2} S h=>by
  refine S.ap (v:=v) (m':=1) (Sl.blk (S.blk b2)) (λv4 w2 S=>?_) (by omega)
  refine h v4 w2 ?_
  rw[Xw]
  exact S.tl
 have fin:∀{v4:Value}{w2:World},StX X w0 r' w2 (.row v4 36 2 (l'.length+1) (cns (l'++[(x,y)]))::.cell b [v] 28::M)→
   vk (.pointer (some ⟨b,0,none⟩)) λt14=>opU Tryz.prog w2 (Instr.storeAt 28 t14 v4) λw3=>K (.tuple #[]) w3:=fun {v4 w2} S=>by
  refine n_some ?_
  refine S.st (b:=b) (λw3 S=>?_) (by simp) (S.row1 v4)
  refine hK (v4,l'++[(x,y)]) _ _ rfl ?_
  show StX X w0 r' w3 (.row v4 36 2 (l'++[(x,y)]).length (cns (l'++[(x,y)]))::.cell b [v4] 28::M)
  rw[List.length_append,List.length_singleton]
  exact S
 refine⟨?_,?_⟩
 ·refine abh (zg (S.at h1) ?_)
  refine S.litU (e:=36) (cs:=[.int .i64 x,.int .i64 y]) (by kernel_rfl) λb2 w2 S=>?_
  refine hap S λv4 w3 S=>fin S
 ·refine S.litU (e:=36) (cs:=[.int .i64 x,.int .i64 y]) (by kernel_rfl) λb2 w2 S=>?_
  refine⟨?_,?_⟩
  ·refine abh (zg (S.at h1) ?_)
   refine hap S λv4 w3 S=>fin S
  ·refine hap S λv4 w3 S=>?_
   refine abh (zg (S.at h1) ?_)
   exact fin S
end
theorem ZA{b:Nat}{w:World}{r:Gh}{X:Nat→Prop}{w0:World}{L:List Asr}{K:Value→World→Prop}(S:StX X w0 r w L)
  (h:∀b1 w',Ext w w'→StX X w0 (r.or (Go.Sh.one b1 [.pointer (some ⟨b,0,none⟩)] 126)) w' L→K (.func (.func Tryz.yv) #[] #[.pointer (some ⟨b1,0,none⟩)]) w'):
  zd Tryz.prog Tryz.kx #[.pointer (some ⟨b,0,none⟩)] w K:=by
 refine Tryz.acT ?_
 unfold Tryz.QW
 refine akq λb1 w1 hb e _ B=>?_
 refine gp_ ?_
 have S:=S.add e (by omega) B
 exact h b1 w1 e (StX.frz S)
theorem adT{X:Nat→Prop}{w0:World}{q:Gh}{b b1:Nat}[Le (Go.Sh.one b1 [.pointer (some ⟨b,0,none⟩)] 126) q]:
  Tk X w0 q (.func (.func Tryz.yv) #[] #[.pointer (some ⟨b1,0,none⟩)]) (lsL b) (λs l=>s.2=l):=aj7 (xP (c:=[.pointer (some ⟨b,0,none⟩)]) (T:=126) rfl)
def Jp(t u:TyD):List CnD×Int:=if !(isB t&&isB u)then([],2)else if zJ zZ t u=true then(kc false t u,0)else([],150)
theorem acW{t u:TyD}{vt vu:Value}{w:World}{r:Gh}{K:Value→World→Prop}(hr:Holds r w)(ht:TyG r vt t)(hu:TyG r vu u)
  (h:∀v' s w',Ext w w'→New w s w'→SlG 2 s CnC v' (Jp t u).1→K (.tuple #[v',.int .i64 (Jp t u).2]) w'):zd Tryz.prog Tryz.vG #[vt,vu] w K:=by
 refine Tryz.abJ ?_
 unfold Tryz.X1
 have ht0:=ht;have hu0:=hu
 obtain⟨p1,cap1,rfl,_⟩:=ht
 obtain⟨p2,cap2,rfl,_⟩:=hu
 have S:=St.start hr
 refine S.box λb2 w1 S=>?_
 refine S.box λb3 w2 S=>?_
 have S:StX noX w r w2 [.cell b3 (tyL u p2 cap2) 43,.cell b2 (tyL t p1 cap1) 43]:=S
 refine S.ldB (b:=b2) ?_ rfl
 refine Qj S.holds ht0 λv1 s1 w3 e3 n3 h1 _=>?_
 generalize hE1:(if isB t=true then(0:Int)else 2)=e1
 obtain⟨S,_,_⟩:=S.tell e3 n3
 obtain⟨p3,cap3,rfl,_⟩:=h1
 refine gS_ ?_
 refine S.al λb6 w4 S=>?_
 refine S.stB (b:=b6) λw5 S=>?_
 refine S.ldB (b:=b3) ?_ rfl
 refine Qj S.holds hu0.up λv2 s2 w6 e6 n6 h2 _=>?_
 generalize hE2:(if isB u=true then(0:Int)else 2)=e2
 obtain⟨S,_,_⟩:=S.tell e6 n6
 obtain⟨p4,cap4,rfl,_⟩:=h2
 refine gS_ ?_
 refine S.al λb8 w7 S=>?_
 refine S.stB (b:=b8) λw8 S=>?_
 refine gp_ ?_
 refine zk (c:=decide (e2≠0)) (λ_ K2 hK2=>by refine gp_ ?_;exact hK2) ?_
 have S:StX noX w r w8 [.cell b3 (tyL u p2 cap2) 43,.cell b2 (tyL t p1 cap1) 43]:=S.less (λb o h=>.inl (.inl h)) (.cons _ (.cons _ (List.Sublist.refl _)))
 refine c_b (λhb=>?_) (λhb=>?_)
 ·have e:Jp t u=([],2):=by
   rw[Jp,if_pos]
   cases hx:isB t<;>cases hy:isB u<;>first|rfl|(exfalso;rw[hx]at hE1;rw[hy]at hE2;subst hE1;subst hE2;exact absurd hb (by decide))
  rw[e]at h
  exact h _ nothing _ S.ext New.nothing SlG.nil
 have hBt:isB t=true:=by
  cases hx:isB t with
  |true=>rfl
  |false=>rw [hx]at hE1;subst hE1;simp at hb
 have hBu:isB u=true:=by
  cases hx:isB u with
  |true=>rfl
  |false=>rw [hx]at hE2;subst hE2;simp at hb
 refine S.ldB (b:=b2) ?_ rfl
 refine S.ldB (b:=b3) ?_ rfl
 refine xS S.holds ht0 hu0 λw13 e13=>?_
 have S:=S.go e13
 refine gp_ ?_
 refine c_b (λha=>?_) (λha=>?_)
 ·have e:Jp t u=([],150):=by
   rw[Jp,hBt,hBu,if_neg (by decide),if_neg]
   simpa using ha
  rw[e]at h
  exact h _ nothing _ S.ext New.nothing SlG.nil
 have ha:zJ zZ t u=true:=by simpa using ha
 have e:Jp t u=(kc false t u,0):=by rw[Jp,hBt,hBu,if_neg (by decide),if_pos ha]
 rw[e]at h
 refine S.al λb10 w14 S=>?_
 have S:=S.go (Ext.drew _)
 refine S.ldB (b:=b2) ?_ rfl
 refine S.ldB (b:=b3) ?_ rfl
 refine ZA (b:=b10) S λb11 w15 e15 S=>⟨e15,?_⟩
 have S:=S.ownNil 36 2
 have S:StX noX w (r.or (Go.Sh.one b11 [.pointer (some ⟨b10,0,none⟩)] 126)) w15 (lsL b10 (.slice none 0 0,[])++[.cell b3 (tyL u p2 cap2) 43,.cell b2 (tyL t p1 cap1) 43]):=S
 refine jn (adT (q:=r.or (Go.Sh.one b11 [.pointer (some ⟨b10,0,none⟩)] 126)) (b:=b10)) 48 hBt hBu ((aia hBt hBu).1 ha) (s:=(.slice none 0 0,[])) (l:=[]) rfl (by decide) ht0.up hu0.up S λs2 w16 hJ S=>?_
 obtain⟨v,l⟩:=s2
 rw[List.nil_append]at hJ
 have hJ:l=flowN false 48 t u:=hJ
 have S:StX noX w _ w16 [.row v 36 2 l.length (cns l),.cell b10 [v] 28,.cell b3 (tyL u p2 cap2) 43,.cell b2 (tyL t p1 cap1) 43]:=S
 refine S.ld (b:=b10) ?_
 obtain⟨s3,T,hs,_,ha3⟩:=S.doneRow (l:=l) ke (by decide) rfl
 rw[hJ]at hs
 exact h _ s3 _ T.ext (StX.newOf (q:=s3) T λb o ho=>(ha3 b o ho).resolve_right id) hs
structure PntG(q:Gh)(b5 b6:Nat)(ss:List StD)(tys:List TyD)(rgs:List Int):Prop where
 pss:∃p0 cap0,(Ob q λw=>w.cell? ⟨b5,0,none⟩=some (.slice p0 ss.length cap0))∧StG q p0 ss
 pts:∃q1 c1,(Ob q λw=>w.cell? ⟨b6,3,none⟩=some (.slice q1 tys.length c1))∧SlG 5 q (TyC q) (.slice q1 tys.length c1) tys
 few:tys.length≤1000000
 ats:∃q2 c2,(Ob q λw=>w.cell? ⟨b6,4,none⟩=some (.slice q2 rgs.length c2))∧SlG 1 q xD (.slice q2 rgs.length c2) rgs
theorem PntG.up{q q':Gh}{b5 b6:Nat}{ss:List StD}{tys:List TyD}{rgs:List Int}(h:PntG q b5 b6 ss tys rgs)[le:Le q q']:PntG q' b5 b6 ss tys rgs:=by
 obtain⟨⟨p0,cap0,h1,h2⟩,⟨q1,c1,h3,h4⟩,h5,q2,c2,h6,h7⟩:=h
 exact⟨⟨p0,cap0,h1.up,RepS.up h2⟩,⟨q1,c1,h3.up,h4.up' le λ_ _ h=>TyG.up h⟩,h5,q2,c2,h6.up,h7.cells⟩
abbrev Jq(b5 b6:Nat):Value:=.func (.func Tryz.Yn) #[] #[.pointer (some ⟨b5,0,none⟩),.pointer (some ⟨b6,0,none⟩)]
theorem aa5{ss:List StD}{tys:List TyD}{rgs:List Int}{p:PlD}{b5 b6:Nat}{c:List Value}{w:World}{r:Gh}{K:Value→World→Prop}(hr:Holds r w)(hP:PntG r b5 b6 ss tys rgs)(hp:PlG r c p)(h0:0≤p.l)(h1:p.l.toNat<tys.length)
  (h:∀p' cap' s w',Ext w w'→New w s w'→TyG s (tyV (yl ss tys p) p' cap') (yl ss tys p)→K (tyV (yl ss tys p) p' cap') w'):zC Tryz.prog (Jq b5 b6) #[.agg c.toArray] w K:=by
 refine aak (by kernel_rfl) ?_
 refine Tryz.VZ ?_
 unfold Tryz.Yt
 obtain⟨⟨p0,cap0,hU,hss⟩,⟨q1,c1,hR,hty⟩,htl,_⟩:=hP
 obtain⟨v,rfl,hl⟩:=hp
 obtain⟨qs,caps,rfl,hqs,hcs⟩:=hl.sl.shape
 obtain⟨_,_,hE,_,hct2⟩:=hty.shape
 cases hE
 have S:=St.start hr
 refine S.box λb3 w1 S=>?_
 refine S.al λb4 w2 S=>?_
 have S:=S.go (Ext.drew _)
 have S:StX noX w r _ [.cell b4 yT 43,.cell b3 [.int .i64 p.l,.slice qs p.ps.length caps] 80]:=S
 have hT:yl ss tys p=(yE ss [tys[p.l.toNat]] ⟨0,p.ps⟩).1:=by rw[yl,List.getD_eq_getElem?_getD,gqg h1];rfl
 rw[hT]at h
 refine zo (λx w'=>∃b s p' cap',x=[.pointer (some ⟨b,0,none⟩)]∧TyG s (tyV (yE ss [tys[p.l.toNat]] ⟨0,p.ps⟩).1 p' cap') (yE ss [tys[p.l.toNat]] ⟨0,p.ps⟩).1∧Above w s∧
  StX noX w (r.or s) w' [.cell b (tyL (yE ss [tys[p.l.toNat]] ⟨0,p.ps⟩).1 p' cap') 43,.cell b4 yT 43,.cell b3 [.int .i64 p.l,.slice qs p.ps.length caps] 80]) (λK3 hK3=>?_) ?_
 ·refine gg_ ?_
  refine zg (S.at hU) ?_
  refine gg_ ?_
  refine zg (S.at hR) ?_
  refine gg_ ?_
  have hlen:(p.l+1).toNat-p.l.toNat=[tys[p.l.toNat]].length:=by show _=1;omega
  have hsub:=(kD hty).sub (a:=p.l.toNat) (n:=1) (cap:=c1) hct2
  rw[ahy h1]at hsub
  rw[hlen]
  generalize (if c1=p.l.toNat then q1 else q1.map (·.add (p.l.toNat*5)))=qx at hsub⊢
  have hp2:PlG r [.int .i64 0,.slice qs p.ps.length caps] ⟨0,p.ps⟩:=⟨_,rfl,hl⟩
  refine⟨?_,?_⟩
  ·refine VE (p:=⟨0,p.ps⟩) S.holds hss hsub (by simp[maxLen]) hp2 λv' sn w7 e7 n7 ht _=>?_
   obtain⟨S,_,ha⟩:=S.tell e7 n7
   have ht0:=ht
   obtain⟨p',cap',rfl,_⟩:=ht
   refine gS_ ?_
   refine S.alU λb5' w8 S=>?_
   refine S.stB (b:=b5') λw9 S=>?_
   exact hK3 _ _ ⟨b5',sn,p',cap',rfl,ht0,ha,S⟩
  ·refine S.alU λb5' w10 S=>?_
   refine VE (p:=⟨0,p.ps⟩) S.holds hss hsub (by simp[maxLen]) hp2 λv' sn w7 e7 n7 ht _=>?_
   obtain⟨S,_,ha⟩:=S.tell e7 n7
   have ht0:=ht
   obtain⟨p',cap',rfl,_⟩:=ht
   refine gS_ ?_
   refine S.stB (b:=b5') λw9 S=>?_
   exact hK3 _ _ ⟨b5',sn,p',cap',rfl,ht0,ha,S⟩
 repeat clear S
 rintro _ w6 ⟨b,s,p',cap',rfl,ht,ha,S⟩ d
 rw[gdz]
 refine S.ldB (b:=b) ?_ rfl
 refine S.stB (b:=b4) λw17 S=>?_
 refine S.ceB (b:=b4) ?_ rfl
 exact h p' cap' s _ S.ext (S.newOf ha) ht
section
variable {σ:Type} {X:Nat→Prop} {w0:World} {r:Gh} {fv:Value} {Lc:σ→List Asr} {J:σ→List CnD→Prop} {ss:List StD} {tys:List TyD} {rgs:List Int} {b5 b6 b9 b10:Nat}
def Two(t u:TyD):Prop:=isB t=true∧isB u=true∧bare t=bare u
theorem ae6(hT:Tk X w0 r fv Lc J)(hP:PntG r b5 b6 ss tys rgs)(h10:Ob r λw=>w.cell? ⟨b10,0,none⟩=some (Jq b5 b6))(h9:Ob r λw=>w.cell? ⟨b9,0,none⟩=some fv)
  {o:OpD} {t:TyD} {c:List Value} {vt:Value} {s:σ} {l:List CnD} {r':Gh} {M:List Asr} {w:World} {K:Value→World→Prop} [le:Le r r'] (ho:OpG r' c o) (ht:TyG r' vt t)
  (hg:kE o=true→(0≤o.pl.l∧o.pl.l.toNat<tys.length)∧Two (yl ss tys o.pl) t) (hJ:J s l) (hl:l.length≤999900) (S:StX X w0 r' w (Lc s++M))
  (h:∀s' w',J s' (l++flO ss tys o t)→StX X w0 r' w' (Lc s'++M)→K (.tuple #[]) w'):
  zC Tryz.prog (.func (.func Tryz.js) #[] #[.pointer (some ⟨b10,0,none⟩),.pointer (some ⟨b9,0,none⟩)]) #[.agg c.toArray,vt] w K:=by
 refine akv (by kernel_rfl) ?_
 refine Tryz.V0 ?_
 unfold Tryz.Yu
 obtain⟨v,rfl,hpl⟩:=ho
 obtain⟨qs,caps,rfl,_,_⟩:=hpl.sl.shape
 have ht0:=ht
 obtain⟨p1,cap1,rfl,_⟩:=ht
 refine S.box λb4 w1 S=>?_
 refine S.box λb5' w2 S=>?_
 have S:StX X w0 r' w2 (.cell b5' (tyL t p1 cap1) 43::.cell b4 [.int .u8 o.k,.int .i64 o.n,.int .i64 o.pl.l,.slice qs o.pl.ps.length caps] 93::(Lc s++M)):=S
 refine gg_ ?_
 refine zk (c:=decide (o.k=4)) (λ_ K2 hK2=>by refine gg_ ?_;exact hK2) ?_
 refine c_b (λhb=>?_) (λhb=>?_)
 ·have hpl':kE o=true:=hb
  obtain⟨⟨g0,g1⟩,gB,gB2,gb⟩:=hg hpl'
  have S:=S.go (Ext.drew _)
  refine zg (S.at (h10.up (s:=r'))) ?_
  refine gg_ ?_
  refine S.ldN (b:=b4) (vs:=[.int .i64 o.pl.l,.slice qs o.pl.ps.length caps]) ?_
  refine S.ldB (b:=b5') ?_ rfl
  refine zg (S.at (h9.up (s:=r'))) ?_
  refine aa5 S.holds (hP.up (q':=r')) (c:=[.int .i64 o.pl.l,.slice qs o.pl.ps.length caps]) (p:=o.pl) ⟨_,rfl,hpl⟩ g0 g1 λp' cap' s7 w7 e7 n7 h7=>⟨e7,?_⟩
  obtain⟨S,_,_⟩:=S.tell e7 n7
  have hf:=Zy 48 (both:=false) (t:=yl ss tys o.pl) (u:=t)
  refine jn (r':=r'.or s7) (hT.up le) 48 gB gB2 gb hJ (by omega) (TyG.up h7) (TyG.up ht0) (S.permO k6) λs2 w8 hJ2 S=>?_
  refine h s2 _ ?_ (StX.tl (StX.tl (((S.permO k6.symm).less (λb o h=>.inl h) (List.Sublist.refl _)))))
  rw[flO,if_pos hpl']
  exact hJ2
 ·refine h s _ ?_ S.tl.tl
  have hno:¬kE o=true:=by rw[kE,hb];decide
  rw[flO,if_neg hno,List.append_nil];exact hJ
end
theorem agx{ss:List StD}{tys:List TyD}{rgs:List Int}{t:TyD}{a q:Int}{b5 b6 b8:Nat}{v:Value}{w:World}{r:Gh}{K:Value→World→Prop}(hr:Holds r w)(hP:PntG r b5 b6 ss tys rgs)(h8:Ob r λw=>w.cell? ⟨b8,0,none⟩=some (.int .i64 q))
  (hq0:0≤q) (hq:q.toNat<rgs.length) (ha:rgs[q.toNat]=a) (hB:isB t=true) (hreg:∀x∈t.regs,0≤x∧x<8) (ha2: -1≤a∧a≤1000000) (hv:TyG r v t)
  (h:∀p' cap' s w',Ext w w'→New w s w'→TyG s (tyV (instT (max a 0) t) p' cap') (instT (max a 0) t)→K (tyV (instT (max a 0) t) p' cap') w'):
  zC Tryz.prog (.func (.func Tryz.jt) #[] #[.pointer (some ⟨b6,0,none⟩),.pointer (some ⟨b8,0,none⟩)]) #[v] w K:=by
 refine aak (by kernel_rfl) ?_
 refine Tryz.V1 ?_
 unfold Tryz.Yv
 obtain⟨_,_,_,q2,c2,hA,hAs⟩:=hP
 have hv0:=hv
 obtain⟨p1,cap1,rfl,_⟩:=hv
 have S:=St.start hr
 refine S.box λb3 w1 S=>?_
 refine S.al λb4 w2 S=>?_
 have S:StX noX w r w2 [.cell b4 yT 43,.cell b3 (tyL t p1 cap1) 43]:=S
 refine S.ldB (b:=b3) ?_ rfl
 have hrT:regsT t=t.regs:=by rw[regsT,hB];rfl
 refine xZ S.holds hv0 λv' w3 e3 h3=>?_
 have S:=S.take e3 h3
 rw[hrT]at S
 obtain⟨p3,cap3,rfl,_⟩:=S.rowS v'
 have hrf:t.regs.length≤48:=kK hB
 have hit:instT (max a 0) t=t.lay (t.regs.map λk=>max a 0+k):=by rw[instT,hrT]
 rw[hit]at h
 obtain⟨zs,hzs,hzl,hzi,hlow⟩:∃zs:List Int,zs=(t.regs.map λk=>max a 0+k)∧zs.length=t.regs.length∧(∀i (h:i<t.regs.length) (h2:i<zs.length),zs[i]=t.regs[i]+max a 0)∧∀x∈zs,-1≤x:=
  ⟨_,rfl,List.length_map _,λi h h2=>by rw[List.getElem_map];omega,λx hx=>by
   obtain⟨k,hk,rfl⟩:=List.mem_map.1 hx
   have:=(hreg k hk).1
   omega⟩
 rw[← hzs]at h
 clear hzs hit
 have S:StX noX w r w3 [.row (.slice p3 t.regs.length cap3) 3 1 t.regs.length (ints (zs.take 0++t.regs.drop 0)),.cell b4 yT 43,.cell b3 (tyL t p1 cap1) 43]:=S
 refine gg_ ?_
 refine zi (ι:=Nat) (λi=>[.int .i64 (i:Nat)]) (λi w'=>i≤t.regs.length∧StX noX w r w' [.row (.slice p3 t.regs.length cap3) 3 1 t.regs.length (ints (zs.take i++t.regs.drop i)),.cell b4 yT 43,.cell b3 (tyL t p1 cap1) 43]) (λi=>t.regs.length-i) 0 rfl ⟨Nat.zero_le _,S⟩ ?_
 repeat clear S
 rintro i d w7 ⟨hi,S⟩ K4 hK4
 rw[gdz]
 refine gp_ ?_
 refine zj (λhlt=>?_) (λhge=>?_)
 ·have hlt:i<t.regs.length:=by omega
  have S:=S.go (Ext.drew _)
  obtain⟨bb,c,hpb,hct,hcl,T,hback⟩:=StX.atRow S (by omega)
  obtain⟨ba,oa,hpa,_,hca⟩:=vi hAs hq
  repeat clear S
  subst hpb
  subst hpa
  have S:=T
  rw[ha]at hca
  have hci:c[0+((i:Nat):Int).toNat]? = some (.int .i64 t.regs[i]):=by
   rw[Nat.zero_add,tnc]
   have h3:(c.take t.regs.length)[i]? = some (.int .i64 t.regs[i]):=by
    rw[hct,ints,List.getElem?_map,ahE (by omega) hlt];rfl
   rwa[List.getElem?_take,if_pos hlt]at h3
  have hri:=hreg _ (List.getElem_mem hlt)
  have hri2:=hzi i hlt (by omega)
  refine gg_ ?_
  refine S.ld (b:=bb) (v:=.int .i64 t.regs[i]) ?_ hci
  refine gg_ ?_
  refine zg (S.at hA) ?_
  refine zg (S.at h8) ?_
  refine gg_ ?_
  refine zg (S.at hca) ?_
  refine gg_ ?_
  refine S.st (b:=bb) (λw8 S=>?_) (List.getElem?_eq_some_iff.1 hci).1
  have S:=hback _ _ (List.length_set ..) S
  have he:(c.set (0+((i:Nat):Int).toNat) (.int .i64 (t.regs[i]+max a 0))).take t.regs.length=ints (zs.take (i+1)++t.regs.drop (i+1)):=by
   rw[Nat.zero_add,tnc,List.take_set,hct,ints,ints,← List.map_set,← hri2,agu (by omega) hlt]
  rw[he]at S
  refine gg_ ?_
  exact hK4 (i+1) _ ⟨hlt,S⟩ (by omega)
 ·have hie:i=t.regs.length:=by omega
  subst hie
  rw[List.take_of_length_le (by omega),List.drop_length,List.append_nil]at S
  obtain⟨s2,S,hs,_,ha3⟩:=S.doneRow (l:=zs) Qq (by decide) (by omega)
  refine S.ldB (b:=b3) ?_ rfl
  rw[← hzl]at hs
  rw[← hzl]
  refine Vn S.holds hv0.up (ahw (s:=r.or s2) hs.cells) (by omega) λv9 sn w9 e9 n9 h9 _=>?_
  obtain⟨S,_,ha9⟩:=S.tell e9 n9
  have hAn:vI t zs=(t.lay zs,0):=by
   rw[vI,if_pos]
   rw[YG,hB,decide_eq_true hzl.symm,Bool.true_and,Bool.true_and,Bool.not_eq_true',List.any_eq_false]
   intro x hx
   have:=hlow x hx
   simp;omega
  rw[hAn]at h9
  have h90:=h9
  obtain⟨p9,cap9,rfl,_⟩:=h9
  refine gS_ ?_
  refine S.stB (b:=b3) λw10 S=>?_
  refine S.ldB (b:=b3) ?_ rfl
  refine S.stB (b:=b4) λw11 S=>?_
  refine S.ceB (b:=b4) ?_ rfl
  exact h p9 cap9 sn _ S.ext (S.newOf ha9) h90
noncomputable abbrev tyD(u:UnD)(g:GrD)(p:PlD):TyD:=yl u.ss (allD u g).tys p
theorem ahF{ss:List StD}{tys:List TyD}{o:OpD}(h:(zt ss tys o).2=true)(hp:kE o=true):(zm ss tys o.pl).2.2=true∧(zt ss tys o).1=(zm ss tys o.pl).1:=by
 rw[kE,Bool.or_eq_true,decide_eq_true_eq,decide_eq_true_eq]at hp
 rw[zt]at h⊢
 rcases hp with hk|hk
 ·rw[if_neg (by omega),if_neg (by omega),if_pos hk]at h⊢
  simp only[Bool.and_eq_true]at h
  exact⟨h.1.1,rfl⟩
 ·rw[if_neg (by omega),if_neg (by omega),if_neg (by omega),if_pos hk]at h⊢
  simp only[Bool.and_eq_true]at h
  exact⟨h.1.1.1,rfl⟩
structure V4(u:UnD)(g:GrD)(p:PlD):Prop where
 l0:0≤p.l
 l1:p.l.toNat<(allD u g).tys.length
 is:isB (tyD u g p)=true
 bare:bare (tyD u g p)=bare (zm u.ss g.tys p).1
 all:yE u.ss (allD u g).tys p=(tyD u g p,0)
def adU(u:UnD)(g:GrD)(o:OpD)(t:TyD):Prop:=kE o=true→(0≤o.pl.l∧o.pl.l.toNat<(allD u g).tys.length)∧Two (tyD u g o.pl) t
section
variable {u:UnD} {g:GrD} {fn:Nat} {p:PtD}
theorem abL(hM:MayU u)(hH:HeadU u fn g){p:PlD}(ho:(zm u.ss g.tys p).2.2=true):V4 u g p:=by
 obtain⟨h2,_,h3,h4⟩:=alV (n:=0) hM hH ho
 have hl:=aj2 ho
 exact⟨hl.1,by rw[(yj).1];omega,h3,h4,h2⟩
theorem aj8(hM:MayU u)(hH:HeadU u fn g){o:OpD}{t:TyD}(ho:(zt u.ss g.tys o).2=true)(ht:isB t=true)(hb:bare t=bare (zt u.ss g.tys o).1):adU u g o t:=λhp=>by
 obtain⟨h1,h2⟩:=ahF ho hp
 have h:=abL hM hH h1
 exact⟨⟨h.l0,h.l1⟩,h.is,ht,by rw[h.bare,hb,h2]⟩
theorem agy(hM:MayU u)(hH:HeadU u fn g)(hp:zL u g p=true)(hop:p.op=1):V4 u g p.to∧adU u g p.a (tyD u g p.to):=by
 have h2:=jT hp
 rw[ptG]at h2
 simp only[hop,Int.reduceEq,if_false,if_true,Bool.and_eq_true,decide_eq_true_eq,isK]at h2
 obtain⟨⟨⟨_,hto,_⟩,ha⟩,hal⟩:=h2
 have h:=abL hM hH hto
 exact⟨h,aj8 hM hH ha h.is (by rw[h.bare];exact(qy hal).2.2.symm)⟩
theorem ahG(hM:MayU u)(hH:HeadU u fn g){p:PlD}(ho:(zm u.ss g.tys p).2.2=true):isB (zm u.ss g.tys p).1=true:=
 (kL (hH.fine hM.ok) ho).is (hH.fine hM.ok).few
theorem agz(hM:MayU u)(hH:HeadU u fn g)(hp:zL u g p=true)(hop:p.op=5):V4 u g p.to∧∃y,(tyD u g p.to).of=[y]∧adU u g p.a y:=by
 have h2:=jT hp
 rw[ptG]at h2
 simp only[hop,Int.reduceEq,if_false,if_true,Bool.and_eq_true,decide_eq_true_eq,isK]at h2
 obtain⟨⟨⟨⟨_,hto,_⟩,ha⟩,hk⟩,hal⟩:=h2
 have h:=abL hM hH hto
 refine⟨h,?_⟩
 have hs:=ahG hM hH hto
 rcases ZZ (n:=47) h.is hs h.bare with⟨h1,h3,h4⟩|⟨x,y,h1,h3,h4,h5,h6⟩
 ·rw[h3]at hal
  have:=(qy hal).1
  cases this
 ·rw[h3]at hal
  have hal:=(qy hal).2.2
  exact⟨x,h1,aj8 hM hH ha (XT h4 (by decide) (Int.le_refl _)) (by rw[h6];exact hal)⟩
theorem acX{a:Int}(hM:MayU u)(hH:HeadU u fn g)(hp:zL u g p=true)(hop:p.op=4)(ha: -1≤a):V4 u g p.to∧V4 u g p.fr∧(zm u.ss g.tys p.fr).2.2=true∧Two (.mk 4 p.mu a 0 [tyD u g p.fr]) (tyD u g p.to):=by
 have h2:=jT hp
 rw[ptG]at h2
 simp only[hop,Int.reduceEq,if_false,if_true,Bool.and_eq_true,decide_eq_true_eq,isK]at h2
 obtain⟨⟨⟨⟨⟨_,hto,_⟩,hfr⟩,hk⟩,hm⟩,hal,_⟩:=h2
 have h:=abL hM hH hto
 have hf:=abL hM hH hfr
 refine⟨h,hf,hfr,?_⟩
 have hs:=ahG hM hH hto
 obtain⟨k1,k2,k3⟩:=VU h.bare
 rcases ZZ (n:=47) h.is hs h.bare with⟨h1,h3,h4⟩|⟨x,y,h1,h3,h4,h5,h6⟩
 ·omega
 ·rw[h3]at hal
  have hal:=(qy hal).2.2
  have hb:bare (tyD u g p.to)=bare (.mk 4 p.mu a 0 [tyD u g p.fr]):=by
   refine adF (u:=x) (x:=tyD u g p.fr) (by rw[k1];exact hk) (by rw[k2];exact hm) ?_ (λh=>absurd (by rw[k1];exact hk) h) h1 rfl (by rw[h6,hf.bare];exact hal)
   show(tyD u g p.to).st=0
   have:=h.is
   rw[isB,ym,if_neg (by omega),if_neg (by omega),if_neg (by omega),if_pos (by omega)]at this
   simp only[Bool.and_eq_true,decide_eq_true_eq]at this
   omega
  refine⟨aiX 48 h.is hb (λh=>absurd rfl h) (λz hz=>?_) (λ_=>ha),h.is,hb.symm⟩
  cases hz;exact⟨48,hf.is⟩
structure amA(u:UnD)(g:GrD)(p:PtD)(a:Int)(f:GrD):Prop where
 to:V4 u g p.to
 fn0:0≤p.fn
 get:u.fs[p.fn.toNat]? = some f
 len:p.args.length=f.pn.toNat
 tys:f.pn.toNat+1≤f.tys.length
 pn8:f.pn.toNat≤8
 is:∀j (h:j<f.tys.length),j≤f.pn.toNat→isB f.tys[j]=true∧∀x∈f.tys[j].regs,0≤x∧x<8∧x<f.lv
 arg:∀i (h:i<p.args.length) (h2:i+1<f.tys.length),adU u g p.args[i] (instT (max a 0) f.tys[i+1])
 ans:∀h:0<f.tys.length,Two (instT (max a 0) f.tys[0]) (tyD u g p.to)
 head:HeadU u p.fn.toNat f
theorem acY{a:Int}(hM:MayU u)(hH:HeadU u fn g)(hp:zL u g p=true)(hop:p.op=7):∃f,amA u g p a f:=by
 have hpc:=vN hp hop
 have hltf:p.fn.toNat<u.fs.length:=by omega
 have h2:=jT hp
 rw[ptG]at h2
 simp only[hop,Int.reduceEq,if_false,if_true,Bool.and_eq_true,decide_eq_true_eq,gqg hltf]at h2
 obtain⟨⟨⟨_,hto,_⟩,_⟩,hal,hargs⟩:=h2
 obtain⟨hlen,hat⟩:=abB hargs
 have hHf:=hM.hd hltf
 have hff:=hHf.fine hM.ok
 have h:=abL hM hH hto
 have hget:u.fs[p.fn.toNat]? = some u.fs[p.fn.toNat]:=gqg hltf
 generalize u.fs[p.fn.toNat]=f at hHf hff hal hlen hat hget
 have hpn1:=hHf.pn1
 have hpn0:=hHf.pn0
 have hpn8:=hHf.pn8
 have hlv8:=hHf.lv8
 have his:∀j (h:j<f.tys.length),j≤f.pn.toNat→isB f.tys[j]=true∧∀x∈f.tys[j].regs,0≤x∧x<8∧x<f.lv:=λj hj hjp=>by
  have hB:=(hff.all _ (List.getElem_mem hj)).is hff.few
  have hrT:regsT f.tys[j]=f.tys[j].regs:=by rw[regsT,hB];rfl
  have hr:=Xk hHf.tys hj (by omega)
  rw[hrT]at hr
  refine⟨hB,λx hx=>?_⟩
  have:=hr x hx
  omega
 have hins:∀j (h:j<f.tys.length),j≤f.pn.toNat→isB (instT (max a 0) f.tys[j])=true∧bare (instT (max a 0) f.tys[j])=bare f.tys[j]:=λj hj hjp=>by
  obtain⟨hB,hr⟩:=his j hj hjp
  exact aiZ hB (λx hx=>(hr x hx).1) λ_=>by omega
 rw[List.length_take,List.length_drop]at hlen
 have hlen2:p.args.length=f.pn.toNat:=by omega
 refine⟨f,h,hpc.1,hget,hlen2,by omega,by omega,his,λi hi h2=>?_,λh0=>?_,hHf⟩
 ·obtain⟨h3,h4⟩:=hat i hi (by rw[List.length_take,List.length_drop];omega)
  have h4:=(qy h4).2.2
  simp only[List.getElem_take,List.getElem_drop]at h4
  obtain⟨h5,h6⟩:=hins (i+1) h2 (by omega)
  refine aj8 hM hH h3 h5 ?_
  rw[h6,h4]
  congr 2
  omega
 ·obtain⟨h5,h6⟩:=hins 0 h0 (by omega)
  have hhd:f.tys.headD zA=f.tys[0]:=by rw[List.headD_eq_head?_getD,List.head?_eq_getElem?,gqg h0,Option.getD_some]
  rw[hhd]at hal
  exact⟨h5,h.is,by rw[h6,h.bare];exact(qy hal).2.2.symm⟩
end
def fvU(P:Program)(t:TypeId)(i:Nat):Option Nat:=match P.underlying t with
 |some (.struct fs)=>(fs[i]?).bind λf=>match P.underlying f.type with
  |some (.slice _)=>some f.offset
  |some (.int _)=>some f.offset
  |_=>none
 |_=>none
theorem amP{P:Program}{t:TypeId}{i k:Nat}{cs:Array Value}{v:Value}{K:Value→Prop}(h:fvU P t i=some k)(hc:cs[k]? = some v)(hk:K v):opP P (Instr.field t (.agg cs) i) K:=by
 refine yb (λw=>?_) hk
 unfold fvU at h
 cases hu:P.underlying t with
 |none=>rw [hu]at h;cases h
 |some d=>
  rw[hu]at h
  cases d<;>first|cases h|skip
  rename_i fs
  simp only at h
  cases hf:fs[i]? with
  |none=>rw [hf]at h;cases h
  |some f=>
   rw[hf]at h
   simp only[Option.bind_some]at h
   cases hs:P.underlying f.type with
   |none=>rw [hs]at h;cases h
   |some m=>
    rw[hs]at h
    cases m<;>first|cases h|skip
    all_goals
     simp[Instr.field,asAgg,part,isAgg,Sem.run_bind,zw hu,zw hs,Result.andThen,hf,Sem.run,pure,hc]
structure PnW{σ:Type}(X:Nat→Prop)(w0:World)(r ρ:Gh)(fv:Value)(Lc:σ→List Asr)(J:σ→List CnD→Prop)(u:UnD)(g:GrD)(q a:Int)(b5 b6 b8 b9 b10:Nat):Prop where
 tk:Tk X w0 r fv Lc J
 le:Le r ρ
 isF:∃f x y,fv=.func f x y
 p:PntG ρ b5 b6 u.ss (allD u g).tys (allD u g).at'
 h8:Ob ρ λw=>w.cell? ⟨b8,0,none⟩=some (.int .i64 q)
 h9:Ob ρ λw=>w.cell? ⟨b9,0,none⟩=some fv
 h10:Ob ρ λw=>w.cell? ⟨b10,0,none⟩=some (Jq b5 b6)
 q0:0≤q
 q1:q.toNat<(allD u g).at'.length
 at':(allD u g).at'[q.toNat]=a
 a0: -1≤a
 a1:a≤1000000
 fns:∃pf cf,(Ob ρ λw=>w.cell? ⟨b5,1,none⟩=some (.slice pf u.fs.length cf))∧SlG 7 ρ (GrG ρ) (.slice pf u.fs.length cf) u.fs
abbrev rhoP(r':Gh)(b5 b6 b8 b9 b10:Nat)(cu cd:List Value)(q:Int)(fv:Value):Gh:=(((((r'.or (Go.Sh.one b5 cu 25)).or (Go.Sh.one b6 cd 74)).or (Go.Sh.one b8 [.int .i64 q] 3)).or (Go.Sh.one b9 [fv] 124)).or (Go.Sh.one b10 [Jq b5 b6] 190))
abbrev aj9(b9 b10:Nat):Value:=.func (.func Tryz.js) #[] #[.pointer (some ⟨b10,0,none⟩),.pointer (some ⟨b9,0,none⟩)]
section
variable {σ:Type} {X:Nat→Prop} {w0:World} {r ρ:Gh} {fv:Value} {Lc:σ→List Asr} {J:σ→List CnD→Prop} {u:UnD} {g:GrD} {q a:Int} {b5 b6 b8 b9 b10:Nat}
theorem PnW.typ(W:PnW X w0 r ρ fv Lc J u g q a b5 b6 b8 b9 b10){q':Gh}[le:Le ρ q']{c:List Value}{p:PlD}{w:World}{K:Value→World→Prop}(hr:Holds q' w)(hp:PlG q' c p)(h0:0≤p.l)(h1:p.l.toNat<(allD u g).tys.length)
  (h:∀p' cap' s w',Ext w w'→New w s w'→TyG s (tyV (tyD u g p) p' cap') (tyD u g p)→K (tyV (tyD u g p) p' cap') w'):zC Tryz.prog (Jq b5 b6) #[.agg c.toArray] w K:=
 aa5 hr (W.p.up (q':=q')) hp h0 h1 h
theorem PnW.flows(W:PnW X w0 r ρ fv Lc J u g q a b5 b6 b8 b9 b10){q':Gh}[le:Le ρ q']{o:OpD}{t:TyD}{c:List Value}{vt:Value}{s:σ}{l:List CnD}{M:List Asr}{w:World}{K:Value→World→Prop}(ho:OpG q' c o)(ht:TyG q' vt t)
  (hg:adU u g o t) (hJ:J s l) (hl:l.length≤999900) (S:StX X w0 q' w (Lc s++M)) (h:∀s' w',J s' (l++flO u.ss (allD u g).tys o t)→StX X w0 q' w' (Lc s'++M)→K (.tuple #[]) w'):zC Tryz.prog (aj9 b9 b10) #[.agg c.toArray,vt] w K:=
 ae6 (W.tk.up W.le) W.p W.h10 W.h9 (le:=le) ho ht hg hJ hl S h
theorem PnW.inst(W:PnW X w0 r ρ fv Lc J u g q a b5 b6 b8 b9 b10){q':Gh}[le:Le ρ q']{t:TyD}{v:Value}{w:World}{K:Value→World→Prop}(hr:Holds q' w)(hB:isB t=true)(hreg:∀x∈t.regs,0≤x∧x<8)(hv:TyG q' v t)
  (h:∀p' cap' s w',Ext w w'→New w s w'→TyG s (tyV (instT (max a 0) t) p' cap') (instT (max a 0) t)→K (tyV (instT (max a 0) t) p' cap') w'):
  zC Tryz.prog (.func (.func Tryz.jt) #[] #[.pointer (some ⟨b6,0,none⟩),.pointer (some ⟨b8,0,none⟩)]) #[v] w K:=
 agx hr (W.p.up (q':=q')) (W.h8.up (s:=q')) W.q0 W.q1 W.at' hB hreg ⟨W.a0,W.a1⟩ hv h
theorem PnW.use(W:PnW X w0 r ρ fv Lc J u g q a b5 b6 b8 b9 b10){s:σ}{l:List CnD}{M:List Asr}{w:World}{K:Value→World→Prop}{p:PtD}{fn:Nat}{ca cb:List Value}(hM:MayU u)(hH:HeadU u fn g)(hp:zL u g p=true)(hop:p.op=1)
  (hto:PlG ρ ca p.to) (ha:OpG ρ cb p.a) (hJ:J s l) (hl:l.length≤998000) (S:StX X w0 ρ w (Lc s++M)) (h:∀s' w',J s' (l++ptCn u (allD u g).tys p a)→StX X w0 ρ w' (Lc s'++M)→K (.tuple #[]) w'):
  zC Tryz.prog (Jq b5 b6) #[.agg ca.toArray] w λt w8=>Ext w w8∧zC Tryz.prog (aj9 b9 b10) #[.agg cb.toArray,t] w8 K:=by
 obtain⟨k1,k2⟩:=agy hM hH hp hop
 refine W.typ S.holds hto k1.l0 k1.l1 λp' cap' s7 w7 e7 n7 h7=>⟨e7,?_⟩
 obtain⟨S,_,_⟩:=S.tell e7 n7
 refine W.flows (q':=ρ.or s7) (OpG.up ha) (TyG.up h7) k2 hJ (by omega) S λs2 w8 hJ2 S=>?_
 refine h s2 _ ?_ (S.less (λb o h=>.inl h) (List.Sublist.refl _))
 rw[ptCn,if_pos hop]
 exact hJ2
theorem PnW.box(W:PnW X w0 r ρ fv Lc J u g q a b5 b6 b8 b9 b10){s:σ}{l:List CnD}{M:List Asr}{w:World}{K:Value→World→Prop}{p:PtD}{fn:Nat}{ca cb:List Value}(hM:MayU u)(hH:HeadU u fn g)(hp:zL u g p=true)(hop:p.op=5)
  (hto:PlG ρ ca p.to) (ha:OpG ρ cb p.a) (hJ:J s l) (hl:l.length≤998000) (S:StX X w0 ρ w (Lc s++M)) (h:∀s' w',J s' (l++ptCn u (allD u g).tys p a)→StX X w0 ρ w' (Lc s'++M)→K (.tuple #[]) w'):
  zC Tryz.prog (Jq b5 b6) #[.agg ca.toArray] w λt w8=>Ext w w8∧opP Tryz.prog (Instr.field 43 t 4) λt44=>Tryz.xl w8 41 t44 (.int .i64 0) 43 λt46=>zC Tryz.prog (aj9 b9 b10) #[.agg cb.toArray,t46] w8 K:=by
 obtain⟨k1,y,k2,k3⟩:=agz hM hH hp hop
 refine W.typ S.holds hto k1.l0 k1.l1 λp' cap' s7 w7 e7 n7 h7=>⟨e7,?_⟩
 obtain⟨S,_,_⟩:=S.tell e7 n7
 have h70:=h7
 obtain⟨p1,cap1,hE,_,_,hof⟩:=h7
 cases hE
 have l1:(tyD u g p.to).of.length=1:=by rw[k2];rfl
 obtain⟨ba,oa,rfl,c,hc,hcell,hx⟩:=NdG.of hof (i:=0) (by omega)
 have hx:TyG s7 (.agg c.toArray) y:=by simpa [k2]using hx
 refine amP (k:=4) (v:=.slice (some ⟨ba,oa,none⟩) (tyD u g p.to).of.length cap') (by kernel_rfl) rfl ?_
 refine gg_ ?_
 refine zn (n:=5) hc (λj v hj=>by simpa using S.at ((hcell j v hj).up (s:=ρ.or s7))) ?_
 refine W.flows (q':=ρ.or s7) (OpG.up ha) (TyG.up hx) k3 hJ (by omega) S λs2 w8 hJ2 S=>?_
 refine h s2 _ ?_ (S.less (λb o h=>.inl h) (List.Sublist.refl _))
 rw[ptCn,if_neg (by omega),if_pos hop,k2]
 exact hJ2
theorem ai9{P:Program}{t e:TypeId}{n:Nat}{p:Option Addr}{len cap:Nat}{kd:IntKind}{i:Int}{K:Value→Prop}(h:slT P t=some (e,n))(h0:0≤i)(h1:i≤cap)
  (k:K (.slice p i.toNat i.toNat)):opP P (Instr.sliceAt t (.slice p len cap) none (some (.int kd i)) (some (.int kd i))) K:=by
 refine yb (λw=>?_) k
 unfold slT at h
 cases hu:P.underlying t with
 |none=>rw [hu]at h;cases h
 |some d=>
  rw[hu]at h
  cases d<;>first|cases h|skip
  rename_i e'
  simp only[Option.map_eq_some_iff,Prod.mk.injEq]at h
  obtain⟨m,hs,rfl,rfl⟩:=h
  cases p with
  |none=>simp [Instr.sliceAt,Instr.slice,Instr.sliceBounds,Instr.sliceBound,asIntOf,Sem.run_bind,zw hu,Result.andThen,Sem.run,pure,h0,h1,Int.max_eq_left h0,yc hs]
  |some a=>simp [Instr.sliceAt,Instr.slice,Instr.sliceBounds,Instr.sliceBound,asIntOf,Sem.run_bind,zw hu,Result.andThen,Sem.run,pure,h0,h1,Int.max_eq_left h0,yc hs,Addr.add]
theorem aka{ρ:Gh}{q1:Option Addr}{c1 n:Nat}{ps:List Int}(h:SlB 1 ρ Zt (.slice q1 ps.length c1) ps)(hn:n≤ps.length):SlB 1 ρ Zt (.slice q1 n n) (ps.take n):=by
 obtain⟨⟨p',cap',hE,h2,h3,h4⟩,h5⟩:=h
 cases hE
 have hl:(ps.take n).length=n:=by rw[List.length_take];omega
 refine⟨⟨q1,n,by rw[hl],λe=>?_,by omega,λi hi=>?_⟩,by omega⟩
 ·have:=h2 e;omega
 ·obtain⟨c,k1,k2,k3⟩:=h4 i (by omega)
  exact⟨c,k1,k2,by rw[List.getElem_take];exact k3⟩
theorem afi{α:Type}{A M:List α}{x y z:α}:(A++x::y::z::M).Perm (x::y::z::(A++M)):=List.perm_middle.trans (List.Perm.cons _ k6)
theorem PnW.brw(W:PnW X w0 r ρ fv Lc J u g q a b5 b6 b8 b9 b10){s:σ}{l:List CnD}{M:List Asr}{w:World}{K:Value→World→Prop}{p:PlD}{cs:List Value}{q5:Option Addr}{c5 b7:Nat}
  (h0:0≤p.l) (h1:p.l.toNat<(allD u g).tys.length) (h8:p.ps.length≤8) (hpl:SlB 1 ρ Zt (.slice q5 p.ps.length c5) p.ps) (hL:cs[13]? = some (.int .i64 p.l)) (hS:cs[14]? = some (.slice q5 p.ps.length c5))
  (hJ:J s l) (hl:l.length≤999900) (S:StX X w0 ρ w (.cell b7 cs 96::(Lc s++M)))
  (h:∀s' w',J s' (l++xy (λn=>tyD u g ⟨p.l,p.ps.take n⟩) a p.ps.length)→StX X w0 ρ w' (Lc s'++M)→K (.tuple #[]) w'):
  zp [.int .i64 ((p.ps.length:Int)-1)] w (λs30 _d31 w32 K29=>
 Tryz.bt .geq 3 (s30.getD 0 u_) (.int .i64 0) λt76=>zc t76 (za (λK33=>
 za (λK37=>
 Tryz.lo w32.drew 190 (.pointer (some ⟨b10,0,none⟩)) λt79=>Tryz.pf 96 (.pointer (some ⟨b7,0,none⟩)) 6 λt80=>Tryz.fl w32.drew t80 80 0 3 λt82=>Tryz.pf 96 (.pointer (some ⟨b7,0,none⟩)) 6 λt83=>Tryz.fl w32.drew t83 80 1 78 λt85=>Tryz.pp (Instr.sliceAt 78 t85 none (some (s30.getD 0 u_)) (some (s30.getD 0 u_))) λt88=>Tryz.pp (Instr.build 80 #[(0,t82),(1,t88)]) λt89=>((Tryz.cv t79 #[t89] w32.drew λt90 w41=>
 Tryz.pw w41 (Instr.alloc 43 true (.tuple #[])) λt14 w42=>
 Ext w41 w42∧
 Tryz.so w42 43 t14 t90 λw43=>K37 [t14] w43)∧
 (Tryz.pw w32.drew (Instr.alloc 43 true (.tuple #[])) λt14_45 w44=>
 Ext w32.drew w44∧
 Tryz.cv t79 #[t89] w44 λt90_47 w46=>
 Tryz.so w46 43 t14_45 t90_47 λw48=>K37 [t14_45] w48))) (λs38 _d39 w40=>
 Tryz.fl w40 (s38.getD 0 u_) 43 0 40 λt92=>Tryz.bt .neq 40 t92 (Value.int .u8 4) λt93=>zc t93 (K33 [] w40) (Tryz.lo w40.drew 124 (.pointer (some ⟨b9,0,none⟩)) λt94=>Tryz.fl w40.drew (s38.getD 0 u_) 43 2 3 λt96=>Tryz.fl w40.drew (.pointer (some ⟨b6,0,none⟩)) 74 4 55 λt98=>Tryz.lo w40.drew 3 (.pointer (some ⟨b8,0,none⟩)) λt99=>Tryz.xl w40.drew 55 t98 t99 3 λt101=>Tryz.cv t94 #[t96,t101] w40.drew λ_t102 w49=>
 Tryz.fl w49 (s38.getD 0 u_) 43 1 4 λt104=>Tryz.pp (Op.unary .not t104) λt105=>zc t105 (K (.tuple #[]) w49) (K33 [] w49)))) (λ_s34 _d35 w36=>
 Tryz.bt .sub 3 (s30.getD 0 u_) (.int .i64 1) λt78=>K29 [t78] w36)) (K (.tuple #[]) w32)):=by
 obtain⟨_,_,_,q2,c2,hA,hAs⟩:=W.p
 obtain⟨ba,oa,hpa,_,hca⟩:=vi hAs W.q1
 subst hpa
 rw[W.at']at hca
 have ha0:=W.a0
 have ha1:=W.a1
 have hq0:=W.q0
 have hq1:=W.q1
 refine zi (ι:=Nat) (λm=>[.int .i64 ((m:Int)-1)]) (λm w'=>m≤p.ps.length∧∃s pre,pre++xy (λn=>tyD u g ⟨p.l,p.ps.take n⟩) a m=xy (λn=>tyD u g ⟨p.l,p.ps.take n⟩) a p.ps.length∧J s (l++pre)∧StX X w0 ρ w' (.cell b7 cs 96::(Lc s++M))) id p.ps.length rfl ⟨Nat.le_refl _,s,[],rfl,by rwa[List.append_nil],S⟩ ?_
 repeat clear S
 rintro m d w7 ⟨hm,s,pre,hpre,hJ,S⟩ K4 hK4
 rw[gdz]
 refine gp_ ?_
 refine zj (λhge=>?_) (λhlt=>?_)
 ·obtain⟨n,rfl⟩:∃n,m=n+1:=⟨m-1,by omega⟩
  have hni:((n+1:Nat):Int)-1=(n:Int):=by omega
  rw[hni]
  have hprel:pre.length≤8:=by
   have h2:=congrArg List.length hpre
   rw[List.length_append]at h2
   have:=Jm (f:=λn=>tyD u g ⟨p.l,p.ps.take n⟩) (a:=a) (n:=p.ps.length)
   omega
  have hcap:p.ps.length≤c5:=by
   obtain⟨_,_,hE,_,h3,_⟩:=hpl.sl
   cases hE;exact h3
  refine zo (λx w'=>x=[]∧∃s pre,pre++xy (λn=>tyD u g ⟨p.l,p.ps.take n⟩) a n=xy (λn=>tyD u g ⟨p.l,p.ps.take n⟩) a p.ps.length∧J s (l++pre)∧StX X w0 ρ w' (.cell b7 cs 96::(Lc s++M))) (λK3 hK3=>?_) ?_
  ·refine zo (λx w'=>∃b s7 p' cap',x=[.pointer (some ⟨b,0,none⟩)]∧StX X w0 (ρ.or s7) w' (.cell b (tyL (tyD u g ⟨p.l,p.ps.take n⟩) p' cap') 43::.cell b7 cs 96::(Lc s++M))) (λK5 hK5=>?_) ?_
   ·have S:=S.go (Ext.drew _)
    refine zg (S.at W.h10) ?_
    refine gp_ ?_
    refine gp_ ?_
    refine S.ld (b:=b7) (v:=.int .i64 p.l) ?_ hL
    refine gp_ ?_
    refine gp_ ?_
    refine S.ld (b:=b7) (v:=.slice q5 p.ps.length c5) ?_ hS
    refine ai9 (e:=84) (n:=1) (p:=q5) (i:=(n:Int)) (by kernel_rfl) (by omega) (by omega) ?_
    rw[tnc]
    refine zq (cs:=#[.int .i64 p.l,.slice q5 n n]) (by kernel_rfl) ?_
    have hpp:PlG ρ [.int .i64 p.l,.slice q5 n n] ⟨p.l,p.ps.take n⟩:=⟨_,rfl,aka hpl (by omega)⟩
    refine⟨?_,?_⟩
    ·refine W.typ S.holds hpp h0 h1 λp' cap' s7 w8 e8 n8 h8'=>?_
     obtain⟨S,_,_⟩:=S.tell e8 n8
     refine S.alU λb w9 S=>?_
     refine S.stB (b:=b) λw10 S=>?_
     exact hK5 _ _ ⟨b,s7,p',cap',rfl,S⟩
    ·refine S.alU λb w9 S=>?_
     refine W.typ S.holds hpp h0 h1 λp' cap' s7 w8 e8 n8 h8'=>?_
     obtain⟨S,_,_⟩:=S.tell e8 n8
     refine S.stB (b:=b) λw10 S=>?_
     exact hK5 _ _ ⟨b,s7,p',cap',rfl,S⟩
   ·repeat clear S
    rintro _ w8 ⟨b,s7,p',cap',rfl,S⟩ d
    rw[gdz]
    have S:StX X w0 ρ w8 (.cell b (tyL (tyD u g ⟨p.l,p.ps.take n⟩) p' cap') 43::.cell b7 cs 96::(Lc s++M)):=S.less (λb o h=>.inl h) (List.Sublist.refl _)
    refine gg_ ?_
    refine zj (λhk=>?_) (λhk=>?_)
    ·refine hK3 _ _ ⟨rfl,s,pre,?_,hJ,S.tl⟩
     rw[← hpre,xy,if_pos (by simpa using hk)]
    ·have hk:(tyD u g ⟨p.l,p.ps.take n⟩).k=4:=by omega
     have S:=S.go (Ext.drew _)
     refine zg (S.at W.h9) ?_
     refine gg_ ?_
     refine zg (S.at hA) ?_
     refine zg (S.at W.h8) ?_
     refine gg_ ?_
     refine zg (S.at hca) ?_
     refine W.tk s _ _ _ ρ _ _ _ W.le hJ (by rw[List.length_append];omega) (S.permO k6) λs1 _ w9 hJ1 S=>?_
     have S:StX X w0 ρ w9 (.cell b (tyL (tyD u g ⟨p.l,p.ps.take n⟩) p' cap') 43::.cell b7 cs 96::(Lc s1++M)):=S.permO k6.symm
     rw[List.append_assoc]at hJ1
     refine gg_ ?_
     rw[xy,if_neg (by omega)]at hpre
     refine c_b (λhb=>?_) (λhb=>?_)
     ·have hb:(tyD u g ⟨p.l,p.ps.take n⟩).m=false:=by simpa using hb
      refine h s1 _ ?_ S.tl.tl
      rw[if_neg (by rw[hb];decide)]at hpre
      rw[← hpre];exact hJ1
     ·have hb:(tyD u g ⟨p.l,p.ps.take n⟩).m=true:=by simpa using hb
      rw[if_pos hb]at hpre
      exact hK3 _ _ ⟨rfl,s1,_,by rw[List.append_assoc];exact hpre,hJ1,S.tl⟩
  ·repeat clear S
   rintro _ w8 ⟨rfl,s,pre,hpre,hJ,S⟩ d
   refine gp_ ?_
   exact hK4 n _ ⟨by omega,s,pre,hpre,hJ,S⟩ (by show n<n+1;omega)
 ·obtain rfl:m=0:=by omega
  rw[xy,List.append_nil]at hpre
  rw[hpre]at hJ
  exact h s _ hJ S.tl
theorem ZJ{α β:Type}{n:Nat}{f:α→List β}(h:∀x,(f x).length≤n):∀l:List α,(l.flatMap f).length≤n*l.length
 |[]=>Nat.zero_le _
 |x::l=>by
  have h1:=h x
  have h2:=ZJ h l
  rw[List.flatMap_cons,List.length_append,List.length_cons,Nat.mul_add,Nat.mul_one]
  omega
theorem kG{α β:Type}{f:α→List β}{l:List α}{i:Nat}(h:i<l.length):(l.take (i+1)).flatMap f=(l.take i).flatMap f++f l[i]:=by
 rw[← List.take_append_getElem h,List.flatMap_append,List.flatMap_singleton]
theorem X3{r':Gh}[le:Le r r']{s:σ}{l:List CnD}{M:List Asr}{w:World}{K:Value→World→Prop}{p:PtD}{fn:Nat}{vu vd:Value}{c:List Value}(hT:Tk X w0 r fv Lc J)(hM:MayU u)(hH:HeadU u fn g)(hp:zL u g p=true)(hfv:∃f x y,fv=.func f x y)
  (hu:UnG r' vu u) (hd:RgG r' vd (allD u g)) (hpt:PtG r' c p) (hq0:0≤q) (hq1:q.toNat<(allD u g).at'.length) (hat:(allD u g).at'[q.toNat]=a) (ha0: -1≤a) (ha1:a≤1000000)
  (hJ:J s l) (hl:l.length≤998000) (S:StX X w0 r' w (Lc s++M)) (h:∀s' w',J s' (l++ptCn u (allD u g).tys p a)→StX X w0 r' w' (Lc s'++M)→K (.tuple #[]) w'):
  zd Tryz.prog Tryz.qJ #[vu,vd,.agg c.toArray,.int .i64 q,fv] w K:=by
 refine Tryz.abK ?_
 unfold Tryz.X2
 obtain⟨p0,cap0,vf,rfl,hn0,hc0,hss,hsl,hfs⟩:=hu
 obtain⟨pf,cf,rfl,hnf,hcf⟩:=hfs.sl.shape
 obtain⟨vl,va,rfl,htys,hats⟩:=hd
 obtain⟨q1,c1,rfl,hn1,hc1⟩:=htys.shape
 obtain⟨q2,c2,rfl,hn2,hc2⟩:=hats.shape
 obtain⟨x1,x2,x3,x4,x5,y1,y2,y3,y4,y5,rfl,hpt⟩:=qw hpt
 obtain⟨ff,fa,fb,rfl⟩:=hfv
 refine S.box λb5 w1 S=>?_
 refine S.box λb6 w2 S=>?_
 refine S.box λb7 w3 S=>?_
 refine S.box λb8 w4 S=>?_
 refine S.box λb9 w5 S=>?_
 refine gp_ ?_
 refine S.al λb10 w6 S=>?_
 refine S.stB (b:=b10) λw7 S=>?_
 refine gp_ ?_
 have S:StX X w0 r' w7 (.cell b10 [Jq b5 b6] 190::.cell b9 [.func ff fa fb] 124::.cell b8 [.int .i64 q] 3::.cell b7 (ptL p x1 x2 x3 x4 x5 y1 y2 y3 y4 y5) 96::.cell b6 (rgL (allD u g).lv (allD u g).pt (allD u g).ct (.slice q1 (allD u g).tys.length c1) (.slice q2 (allD u g).at'.length c2)) 74 ::
  .cell b5 [.slice p0 u.ss.length cap0,.slice pf u.fs.length cf,.int .i64 u.mn] 25::(Lc s++M)):=S
 have S:StX X w0 (rhoP r' b5 b6 b8 b9 b10 [.slice p0 u.ss.length cap0,.slice pf u.fs.length cf,.int .i64 u.mn] (rgL (allD u g).lv (allD u g).pt (allD u g).ct (.slice q1 (allD u g).tys.length c1) (.slice q2 (allD u g).at'.length c2)) q (.func ff fa fb)) w7 (.cell b7 (ptL p x1 x2 x3 x4 x5 y1 y2 y3 y4 y5) 96::(Lc s++M)):=((((S.frzAt b5).frzAt b6).frzAt b8).frzAt b9).frzAt b10
 have hback:∀{w':World}{L:List Asr},StX X w0 (rhoP r' b5 b6 b8 b9 b10 [.slice p0 u.ss.length cap0,.slice pf u.fs.length cf,.int .i64 u.mn] (rgL (allD u g).lv (allD u g).pt (allD u g).ct (.slice q1 (allD u g).tys.length c1) (.slice q2 (allD u g).at'.length c2)) q (.func ff fa fb)) w' L→StX X w0 r' w' L:=λS=>S.less (λb o h=>.inl (.inl (.inl (.inl (.inl h))))) (List.Sublist.refl _)
 have hle:Le r' (rhoP r' b5 b6 b8 b9 b10 [.slice p0 u.ss.length cap0,.slice pf u.fs.length cf,.int .i64 u.mn] (rgL (allD u g).lv (allD u g).pt (allD u g).ct (.slice q1 (allD u g).tys.length c1) (.slice q2 (allD u g).at'.length c2)) q (.func ff fa fb)):=inferInstance
 have W:PnW X w0 r (rhoP r' b5 b6 b8 b9 b10 [.slice p0 u.ss.length cap0,.slice pf u.fs.length cf,.int .i64 u.mn] (rgL (allD u g).lv (allD u g).pt (allD u g).ct (.slice q1 (allD u g).tys.length c1) (.slice q2 (allD u g).at'.length c2)) q (.func ff fa fb)) (.func ff fa fb) Lc J u g q a b5 b6 b8 b9 b10:=by
  refine⟨hT,⟨λb o ho=>hle.le b o (le.le b o ho)⟩,⟨_,_,_,rfl⟩,⟨⟨p0,cap0,?_,RepS.up hss⟩,⟨q1,c1,?_,htys.up' hle λ_ _ h=>TyG.up h⟩,?_,q2,c2,?_,hats.cells⟩,?_,?_,?_,hq0,hq1,hat,ha0,ha1,pf,cf,?_,hfs.sl.up' hle λ_ _ h=>GrG.up h⟩
  ·exact xP (c:=[.slice p0 u.ss.length cap0,.slice pf u.fs.length cf,.int .i64 u.mn]) (T:=25) rfl
  ·exact xP (c:=rgL (allD u g).lv (allD u g).pt (allD u g).ct (.slice q1 (allD u g).tys.length c1) (.slice q2 (allD u g).at'.length c2)) (T:=74) rfl
  ·rw[(yj).1];have:=hH.ty512;omega
  ·exact xP (c:=rgL (allD u g).lv (allD u g).pt (allD u g).ct (.slice q1 (allD u g).tys.length c1) (.slice q2 (allD u g).at'.length c2)) (T:=74) rfl
  ·exact xP (c:=[.int .i64 q]) (T:=3) rfl
  ·exact xP (c:=[.func ff fa fb]) (T:=124) rfl
  ·exact xP (c:=[Jq b5 b6]) (T:=190) rfl
  ·exact xP (c:=[.slice p0 u.ss.length cap0,.slice pf u.fs.length cf,.int .i64 u.mn]) (T:=25) rfl
 generalize rhoP r' b5 b6 b8 b9 b10 [.slice p0 u.ss.length cap0,.slice pf u.fs.length cf,.int .i64 u.mn] (rgL (allD u g).lv (allD u g).pt (allD u g).ct (.slice q1 (allD u g).tys.length c1) (.slice q2 (allD u g).at'.length c2)) q (.func ff fa fb)=ρ at S hback hle W
 obtain⟨kto,ka0,kb,kargs,kfr⟩:=agc hpt
 have kto:PlG ρ _ p.to:=PlG.up kto
 have ka:OpG ρ _ p.a:=OpG.up ka0
 have kfr:PlG ρ _ p.fr:=PlG.up kfr
 have fin:∀s' w',J s' (l++ptCn u (allD u g).tys p a)→StX X w0 ρ w' (.cell b7 (ptL p x1 x2 x3 x4 x5 y1 y2 y3 y4 y5) 96::(Lc s'++M))→K (.tuple #[]) w':=λs' w' hJ S=>h s' w' hJ (hback S.tl)
 refine gg_ ?_
 refine zj (λho=>?_) (λho1=>?_)
 ·have S:=S.go (Ext.drew _)
  refine gg_ ?_
  refine S.ldN (b:=b7) (vs:=[.int .u8 p.a.k,.int .i64 p.a.n,.int .i64 p.a.pl.l,.slice x2 p.a.pl.ps.length y2]) ?_
  refine zg (S.at W.h10) ?_
  refine gg_ ?_
  refine S.ldN (b:=b7) (vs:=[.int .i64 p.to.l,.slice x1 p.to.ps.length y1]) ?_
  exact W.use (K:=λ_ w9=>K (.tuple #[]) w9) hM hH hp ho kto ka hJ hl (S.permO List.perm_middle) λs' w' hJ S=>fin s' w' hJ (S.permO List.perm_middle.symm)
 refine gg_ ?_
 refine zj (λho=>?_) (λho5=>?_)
 ·have S:=S.go (Ext.drew _)
  refine gg_ ?_
  refine S.ldN (b:=b7) (vs:=[.int .u8 p.a.k,.int .i64 p.a.n,.int .i64 p.a.pl.l,.slice x2 p.a.pl.ps.length y2]) ?_
  refine zg (S.at W.h10) ?_
  refine gg_ ?_
  refine S.ldN (b:=b7) (vs:=[.int .i64 p.to.l,.slice x1 p.to.ps.length y1]) ?_
  exact W.box (K:=λ_ w9=>K (.tuple #[]) w9) hM hH hp ho kto ka hJ hl (S.permO List.perm_middle) λs' w' hJ S=>fin s' w' hJ (S.permO List.perm_middle.symm)
 refine gg_ ?_
 refine zj (λho=>?_) (λho4=>?_)
 ·obtain⟨k1,k2,k3,k4⟩:=acX (a:=a) hM hH hp ho ha0
  obtain⟨_,_,_,qA,cA,hA,hAs⟩:=W.p
  obtain⟨ba,oa,hpa,_,hca⟩:=vi hAs hq1
  subst hpa
  rw[hat]at hca
  refine zg (S.at W.h10) ?_
  refine gg_ ?_
  refine S.ldN (b:=b7) (vs:=[.int .i64 p.fr.l,.slice x5 p.fr.ps.length y5]) ?_
  refine W.typ S.holds kfr k2.l0 k2.l1 λp6 cap6 s6 w8 e8 n8 h6=>?_
  obtain⟨S,_,_⟩:=S.tell e8 n8
  refine S.al λb12 w9 S=>?_
  refine S.stB (b:=b12) λw10 S=>?_
  refine zo (λx w'=>∃s',x=[]∧J s' (l++kc false (.mk 4 p.mu a 0 [tyD u g p.fr]) (tyD u g p.to))∧StX X w0 ρ w' (.cell b7 (ptL p x1 x2 x3 x4 x5 y1 y2 y3 y4 y5) 96::(Lc s'++M))) (λK3 hK3=>?_) ?_
  ·have S:=S.go (Ext.drew _)
   have S:StX X w0 (ρ.or s6) _ (.cell b12 (tyL (tyD u g p.fr) p6 cap6) 43::.cell b7 (ptL p x1 x2 x3 x4 x5 y1 y2 y3 y4 y5) 96::(Lc s++M)):=S
   have hfl:∀{s8:Gh}{b14:Nat}{w11:World}{v8:Value},TyG s8 v8 (tyD u g p.to)→StX X w0 (((ρ.or s6).or s8).or (Go.Sh.one b14 (tyL (tyD u g p.fr) p6 cap6) 43)) w11 (.cell b12 (tyL (tyD u g p.fr) p6 cap6) 43::.cell b7 (ptL p x1 x2 x3 x4 x5 y1 y2 y3 y4 y5) 96::(Lc s++M))→
     zd Tryz.prog Tryz.yA #[.agg #[.int .u8 4,.bool p.mu,.int .i64 a,.int .i64 0,.slice (some ⟨b14,0,none⟩) 1 1],v8,.bool false,.func ff fa fb] w11 λ_ w21=>K3 [] w21:=fun {s8 b14 w11 v8} h8 S=>by
    have h4:TyG (((ρ.or s6).or s8).or (Go.Sh.one b14 (tyL (tyD u g p.fr) p6 cap6) 43)) (.agg #[.int .u8 4,.bool p.mu,.int .i64 a,.int .i64 0,.slice (some ⟨b14,0,none⟩) 1 1]) (.mk 4 p.mu a 0 [tyD u g p.fr]):=
     haveI:Le (s6.or (Go.Sh.one b14 (tyL (tyD u g p.fr) p6 cap6) 43)) (((ρ.or s6).or s8).or (Go.Sh.one b14 (tyL (tyD u g p.fr) p6 cap6) 43)):=⟨λb o ho=>Or.elim ho (λh=>.inl (.inl (.inr h))) .inr⟩
     have t1:TyG (s6.or (Go.Sh.one b14 (tyL (tyD u g p.fr) p6 cap6) 43)) (.agg #[.int .u8 4,.bool p.mu,.int .i64 a,.int .i64 0,.slice (some ⟨b14,0,none⟩) 1 1]) (.mk 4 p.mu a 0 [tyD u g p.fr]):=Xe h6
     TyG.up t1
    have leG:Le ρ (((ρ.or s6).or s8).or (Go.Sh.one b14 (tyL (tyD u g p.fr) p6 cap6) 43)):=inferInstance
    refine jn (r':=((ρ.or s6).or s8).or (Go.Sh.one b14 (tyL (tyD u g p.fr) p6 cap6) 43)) (hT.up W.le) 48 k4.1 k4.2.1 k4.2.2 hJ (by omega) h4 (TyG.up h8) (S.permO k6) λs2 w13 hJ2 S=>?_
    exact hK3 _ _ ⟨s2,rfl,hJ2,((S.permO k6.symm).less (λb o h=>.inl (.inl (.inl h))) (List.Sublist.refl _)).tl⟩
   refine gg_ ?_
   refine zg (S.at hA) ?_
   refine zg (S.at W.h8) ?_
   refine gg_ ?_
   refine zg (S.at hca) ?_
   refine S.ldB (b:=b12) ?_ rfl
   refine zg (S.at W.h10) ?_
   refine gg_ ?_
   refine S.ldN (b:=b7) (vs:=[.int .i64 p.to.l,.slice x1 p.to.ps.length y1]) ?_
   refine zg (S.at W.h9) ?_
   refine⟨?_,?_⟩
   ·refine S.litU (Xj (c:=tyL (tyD u g p.fr) p6 cap6) h6) λb14 w11 S=>?_
    refine zq (cs:=#[.int .u8 4,.bool p.mu,.int .i64 a,.int .i64 0,.slice (some ⟨b14,0,none⟩) 1 1]) (by kernel_rfl) ?_
    refine W.typ S.holds (PlG.up kto) k1.l0 k1.l1 λp8 cap8 s8 w12 e12 n12 h8=>⟨e12,?_⟩
    obtain⟨S,_,_⟩:=S.tell e12 n12
    exact hfl h8 (S.frzAt b14)
   ·refine W.typ S.holds (PlG.up kto) k1.l0 k1.l1 λp8 cap8 s8 w12 e12 n12 h8=>⟨e12,?_⟩
    obtain⟨S,_,_⟩:=S.tell e12 n12
    refine S.litU (Xj (c:=tyL (tyD u g p.fr) p6 cap6) h6) λb14 w11 S=>?_
    refine zq (cs:=#[.int .u8 4,.bool p.mu,.int .i64 a,.int .i64 0,.slice (some ⟨b14,0,none⟩) 1 1]) (by kernel_rfl) ?_
    exact hfl h8 (S.frzAt b14)
  ·repeat clear S
   rintro _ w8 ⟨s,rfl,hJ,S⟩ d
   have h8:p.fr.ps.length≤8:=by
    unfold zm at k3
    split at k3
    ·simpa using k3
    ·cases k3
   obtain⟨_,hE,hst⟩:=kfr
   cases hE
   have hf:=Z0 (both:=false) (t:=.mk 4 p.mu a 0 [tyD u g p.fr]) (u:=tyD u g p.to)
   refine gg_ ?_
   refine W.brw (p:=p.fr) (K:=λ_ w9=>K (.tuple #[]) w9) (cs:=ptL p x1 x2 x3 x4 x5 y1 y2 y3 y4 y5) k2.l0 k2.l1 h8 hst rfl rfl hJ (by rw[List.length_append];omega) S λs' w' hJ S=>h s' _ ?_ (hback S)
   rw[ptCn,if_neg ho1,if_neg ho5,if_pos ho,← List.append_assoc]
   exact hJ
 refine gg_ ?_
 refine zj (λho=>?_) (λho7=>?_)
 ·obtain⟨f,k⟩:=acY (a:=a) hM hH hp ho
  obtain⟨_,_,_,qA,cA,hA,hAs⟩:=W.p
  obtain⟨ba,oa,hpa,_,hca⟩:=vi hAs hq1
  subst hpa
  rw[hat]at hca
  obtain⟨pF,cF,hF,hFs⟩:=W.fns
  have hltf:p.fn.toNat<u.fs.length:=(List.getElem?_eq_some_iff.1 k.get).1
  have hfe:u.fs[p.fn.toNat]=f:=(List.getElem?_eq_some_iff.1 k.get).2
  obtain⟨bf,of,cg,rfl,hcg,hgc,hfo⟩:=hFs.get (by decide) hltf
  rw[hfe]at hgc
  obtain⟨vo,vt,vn,vp,rfl,m1,m2,m3,m4⟩:=hgc
  obtain⟨qo,capo,rfl,_,_⟩:=m1.sl.shape
  obtain⟨qt,capt,rfl,_,hct2⟩:=m2.sl.shape
  obtain⟨qn,capn,rfl,_,_⟩:=m3.sl.shape
  obtain⟨qp,capp,rfl,_,_⟩:=m4.sl.shape
  have k0:=k.fn0
  have kt:=k.tys
  have kl:=k.len
  have k8:=k.pn8
  have hHf:=k.head
  have hos:=abF hHf.outs hHf.lv8
  have h512:=hHf.ty512
  have kargs:SlG 4 ρ (OpG ρ) (.slice x4 p.args.length y4) p.args:=kargs.sl.up' hle λ_ _ h=>OpG.up h
  refine gp_ ?_
  refine zg (S.at hF) ?_
  refine gg_ ?_
  refine zn (n:=7) hcg (λj v hj=>S.at (hfo j v hj)) ?_
  refine S.al λb15 w8 S=>?_
  refine S.stB (b:=b15) λw9 S=>?_
  refine gp_ ?_
  refine gg_ ?_
  have S:StX X w0 ρ w9 (.cell b15 [.string f.name,.int .i64 f.lv,.slice qo f.outs.length capo,.int .i64 f.pn,.slice qt f.tys.length capt,.slice qn f.nms.length capn,.slice qp f.pts.length capp] 101::.cell b7 (ptL p x1 x2 x3 x4 x5 y1 y2 y3 y4 y5) 96::(Lc s++M)):=S
  have hzl:(p.args.zip (f.tys.drop 1)).length=p.args.length:=by rw[List.length_zip,List.length_drop];omega
  refine zi (ι:=Nat) (λi=>[.int .i64 (i:Nat)]) (λi w'=>i≤p.args.length∧∃s',J s' (l++((p.args.zip (f.tys.drop 1)).take i).flatMap λx=>flO u.ss (allD u g).tys x.1 (instT (max a 0) x.2))∧StX X w0 ρ w' (.cell b15 [.string f.name,.int .i64 f.lv,.slice qo f.outs.length capo,.int .i64 f.pn,.slice qt f.tys.length capt,.slice qn f.nms.length capn,.slice qp f.pts.length capp] 101::.cell b7 (ptL p x1 x2 x3 x4 x5 y1 y2 y3 y4 y5) 96::(Lc s'++M))) (λi=>p.args.length-i) 0 rfl ⟨Nat.zero_le _,s,by rw[List.take_zero,List.flatMap_nil,List.append_nil];exact hJ,S⟩ ?_
  repeat clear S
  rintro i d w10 ⟨hi,s,hJ,S⟩ K4 hK4
  rw[gdz]
  have hfew:=ZJ (n:=96) (f:=λx:OpD×TyD=>flO u.ss (allD u g).tys x.1 (instT (max a 0) x.2)) (λx=>QS) ((p.args.zip (f.tys.drop 1)).take i)
  rw[List.length_take,hzl,Nat.min_eq_left hi]at hfew
  refine gp_ ?_
  refine zj (λhlt=>?_) (λhge=>?_)
  ·have hlt:i<p.args.length:=by omega
   have hi2:i+1<f.tys.length:=by omega
   obtain⟨bo,oo,co,hE,hco,hop,hoc⟩:=kargs.get (by decide) hlt
   rw[hE]
   obtain⟨va2,rfl,hsteps⟩:=id hop
   obtain⟨qa,capa,rfl,_,_⟩:=hsteps.sl.shape
   refine gg_ ?_
   refine zn (n:=4) hco (λj v hj=>by simpa using S.at (hoc j v hj)) ?_
   refine S.al λb18 w11 S=>?_
   refine S.stB (b:=b18) λw12 S=>?_
   have S:=S.go (Ext.drew _)
   have S:StX X w0 ρ w12.drew (.cell b18 [.int .u8 p.args[i].k,.int .i64 p.args[i].n,.int .i64 p.args[i].pl.l,.slice qa p.args[i].pl.ps.length capa] 93::.cell b15 [.string f.name,.int .i64 f.lv,.slice qo f.outs.length capo,.int .i64 f.pn,.slice qt f.tys.length capt,.slice qn f.nms.length capn,.slice qp f.pts.length capp] 101::.cell b7 (ptL p x1 x2 x3 x4 x5 y1 y2 y3 y4 y5) 96::(Lc s++M)):=S
   refine S.ldN (b:=b18) (vs:=[.int .u8 p.args[i].k,.int .i64 p.args[i].n,.int .i64 p.args[i].pl.l,.slice qa p.args[i].pl.ps.length capa]) ?_
   obtain⟨bt,ot,ct,hE2,hct,hty,htc⟩:=m2.sl.get (by decide) hi2
   obtain⟨hB,hreg⟩:=k.is (i+1) hi2 (by omega)
   have hti:((i:Int)+1).toNat=i+1:=by omega
   subst hE2
   refine gg_ ?_
   rw[hti]
   refine zn (n:=5) hct (λj v hj=>by simpa using S.at (htc j v hj)) ?_
   refine W.inst S.holds (t:=f.tys[i+1]) hB (λx hx=>⟨(hreg x hx).1,(hreg x hx).2.1⟩) hty λp' cap' sn w13 e13 n13 h13=>⟨e13,?_⟩
   obtain⟨S,_,_⟩:=S.tell e13 n13
   refine W.flows (q':=ρ.or sn) (OpG.up hop) (TyG.up h13) (k.arg i hlt hi2) hJ (by rw[List.length_append];omega) (S.permO afi) λs2 w14 hJ2 S=>?_
   refine gp_ ?_
   refine hK4 (i+1) _ ⟨by omega,s2,?_,((S.permO afi.symm).less (λb o h=>.inl h) (List.Sublist.refl _)).tl⟩ (by omega)
   rw[kG (by omega),← List.append_assoc]
   rw[List.getElem_zip]
   rw[List.getElem_drop]
   have hc1:1+i=i+1:=Nat.add_comm 1 i
   simp only[hc1]
   exact hJ2
  ·obtain rfl:i=p.args.length:=by omega
   rw[List.take_of_length_le (by omega)]at hJ hfew
   generalize hl1:((p.args.zip (f.tys.drop 1)).flatMap λx=>flO u.ss (allD u g).tys x.1 (instT (max a 0) x.2))=l1 at hJ hfew
   have hi2:0<f.tys.length:=by omega
   obtain⟨bt,ot,ct,hE2,hct,hty,htc⟩:=m2.sl.get (by decide) hi2
   obtain⟨hB,hreg⟩:=k.is 0 hi2 (by omega)
   obtain⟨z1,z2,z3⟩:=k.ans hi2
   subst hE2
   have S:=S.go (Ext.drew _)
   refine gg_ ?_
   refine zn (n:=5) hct (λj v hj=>by simpa using S.at (htc j v hj)) ?_
   refine zg (S.at W.h10) ?_
   refine gg_ ?_
   refine S.ldN (b:=b7) (vs:=[.int .i64 p.to.l,.slice x1 p.to.ps.length y1]) ?_
   refine zg (S.at W.h9) ?_
   refine W.inst S.holds (t:=f.tys[0]) hB (λx hx=>⟨(hreg x hx).1,(hreg x hx).2.1⟩) hty λp' cap' sn w13 e13 n13 h13=>⟨e13,?_⟩
   obtain⟨S,_,_⟩:=S.tell e13 n13
   refine W.typ S.holds (PlG.up kto) k.to.l0 k.to.l1 λp8 cap8 s8 w12 e12 n12 h8=>⟨e12,?_⟩
   obtain⟨S,_,_⟩:=S.tell e12 n12
   have leG:Le ρ ((ρ.or sn).or s8):=inferInstance
   refine jn (r':=(ρ.or sn).or s8) (hT.up W.le) 48 z1 z2 z3 hJ (by rw[List.length_append];omega) (TyG.up h13) (TyG.up h8) (S.permO k6) λs2 w14 hJ2 S=>?_
   have S:StX X w0 ρ w14 (.cell b15 [.string f.name,.int .i64 f.lv,.slice qo f.outs.length capo,.int .i64 f.pn,.slice (some ⟨bt,ot,none⟩) f.tys.length capt,.slice qn f.nms.length capn,.slice qp f.pts.length capp] 101::.cell b7 (ptL p x1 x2 x3 x4 x5 y1 y2 y3 y4 y5) 96::(Lc s2++M)):=(S.permO k6.symm).less (λb o h=>.inl (.inl h)) (List.Sublist.refl _)
   have hf:=Z0 (both:=false) (t:=instT (max a 0) f.tys[0]) (u:=tyD u g p.to)
   have hl2:l1.length+(kc false (instT (max a 0) f.tys[0]) (tyD u g p.to)).length≤900:=by omega
   have hJ2:J s2 (l++(l1++kc false (instT (max a 0) f.tys[0]) (tyD u g p.to))):=by rw[← List.append_assoc];exact hJ2
   rw[← List.length_append]at hl2
   have hres:l1++kc false (instT (max a 0) f.tys[0]) (tyD u g p.to)++(f.outs.map λo=>(a+o.1,a+o.2))=ptCn u (allD u g).tys p a:=by
    have hhd:f.tys.headD zA=f.tys[0]:=by rw[List.headD_eq_head?_getD,List.head?_eq_getElem?,gqg hi2,Option.getD_some]
    rw[ptCn,if_neg ho1,if_neg ho5,if_neg ho4,if_pos ho,k.get]
    dsimp only
    rw[hl1,hhd]
   rw[← hres]at fin
   generalize l1++kc false (instT (max a 0) f.tys[0]) (tyD u g p.to)=l2 at hJ2 hl2 fin
   refine gg_ ?_
   clear hJ
   refine zi (ι:=Nat) (λi=>[.int .i64 (i:Nat)]) (λi w'=>i≤f.outs.length∧∃s',J s' (l++(l2++(f.outs.take i).map λo=>(a+o.1,a+o.2)))∧StX X w0 ρ w' (.cell b15 [.string f.name,.int .i64 f.lv,.slice qo f.outs.length capo,.int .i64 f.pn,.slice (some ⟨bt,ot,none⟩) f.tys.length capt,.slice qn f.nms.length capn,.slice qp f.pts.length capp] 101::.cell b7 (ptL p x1 x2 x3 x4 x5 y1 y2 y3 y4 y5) 96::(Lc s'++M))) (λi=>f.outs.length-i) 0 rfl ⟨Nat.zero_le _,s2,by rw[List.take_zero,List.map_nil,List.append_nil];exact hJ2,S⟩ ?_
   repeat clear S
   rintro i d w15 ⟨hi,s,hJ,S⟩ K5 hK5
   rw[gdz]
   refine gp_ ?_
   refine zj (λhlt=>?_) (λhge=>?_)
   ·have hlt:i<f.outs.length:=by omega
    obtain⟨bo,oo,co,hE,hco,hcc,hoc⟩:=m1.sl.get (by decide) hlt
    obtain rfl:co=_:=hcc
    have hin:yK f.lv f.outs[i]=true:=by
     have:=hHf.outs
     simp only[xR,Bool.and_eq_true,List.all_eq_true]at this
     exact this.1.1 _ (List.getElem_mem hlt)
    have hlv:=hHf.lv8
    simp only[yK,Bool.not_eq_true',Bool.or_eq_false_iff,decide_eq_false_iff_not]at hin
    rw[hE]
    refine gg_ ?_
    refine zn (n:=2) hco (λj v hj=>by simpa using S.at (hoc j v hj)) ?_
    refine S.al λb20 w16 S=>?_
    refine S.stB (b:=b20) λw17 S=>?_
    have S:=S.go (Ext.drew _)
    have S:StX X w0 ρ w17.drew (.cell b20 [.int .i64 f.outs[i].1,.int .i64 f.outs[i].2] 194::.cell b15 [.string f.name,.int .i64 f.lv,.slice qo f.outs.length capo,.int .i64 f.pn,.slice (some ⟨bt,ot,none⟩) f.tys.length capt,.slice qn f.nms.length capn,.slice qp f.pts.length capp] 101::.cell b7 (ptL p x1 x2 x3 x4 x5 y1 y2 y3 y4 y5) 96::(Lc s++M)):=S
    refine zg (S.at W.h9) ?_
    refine gg_ ?_
    refine zg (S.at hA) ?_
    refine zg (S.at W.h8) ?_
    refine gg_ ?_
    refine zg (S.at hca) ?_
    refine gg_ ?_
    refine zg (S.at hA) ?_
    refine zg (S.at W.h8) ?_
    refine gg_ ?_
    refine zg (S.at hca) ?_
    refine gg_ ?_
    refine W.tk s _ _ _ ρ _ _ _ W.le hJ (by rw[List.length_append,List.length_append,List.length_map,List.length_take];omega) (S.permO afi) λs1 _ w9 hJ1 S=>?_
    refine gp_ ?_
    refine hK5 (i+1) _ ⟨by omega,s1,?_,(S.permO afi.symm).tl⟩ (by omega)
    rw[← List.take_append_getElem hlt,List.map_append,List.map_singleton,← List.append_assoc l2,← List.append_assoc l]
    exact hJ1
   ·obtain rfl:i=f.outs.length:=by omega
    rw[List.take_length]at hJ
    exact fin s _ hJ S.tl
 ·refine fin s _ ?_ S
  rw[ptCn,if_neg ho1,if_neg ho5,if_neg ho4,if_neg ho7,List.append_nil]
  exact hJ
end
theorem adV{f:CnD→Bool}{fv v:Value}{w:World}{r:Gh}{l:List CnD}{K:Value→World→Prop}(hr:Holds r w)(hl:SlG 2 r CnC v l)(hb:l.length≤1000000000)
  (hf:∀x∈l,∀(w:World)(K:Value→World→Prop),Holds r w→(∀w',Ext w w'→K (.bool (f x)) w')→zC Tryz.prog fv #[.agg #[.int .i64 x.1,.int .i64 x.2]] w K)
  (h:∀(i:Int) w',Ext w w'→(0≤i↔l.any f=true)→K (.int .i64 i) w'):zd Tryz.prog Tryz.zX #[v,fv] w K:=by
 refine Tryz.xI ?_
 unfold Tryz.yz
 obtain⟨p,cap,rfl,_,_⟩:=hl.shape
 have S:=St.start hr
 refine gP_ ?_
 refine zi (ι:=Nat) (λi=>[.int .i64 i]) (λi w'=>i≤l.length∧(l.take i).any f=false∧StX noX w r w' []) (λi=>l.length-i) 0 rfl ⟨Nat.zero_le _,by simp,S⟩ ?_
 clear S
 rintro i d w' ⟨hi,hn,S⟩ K6 hK6
 simp only[gdz]
 refine gP_ ?_
 refine zj (λhlt=>?_) (λhge=>?_)
 ·have hlt:i<l.length:=by omega
  obtain⟨b,off,rfl,_,_,_,hcell⟩:=Z3 hl hlt
  refine gP_ ?_
  refine zn (n:=2) rfl (λj v hj=>by rw[tnc];exact S.at (hcell j v hj)) ?_
  refine hf _ (List.getElem_mem hlt) _ _ S.holds λw2 e2=>?_
  have S:=S.go e2
  have ht:(l.take (i+1)).any f=((l.take i).any f||f l[i]):=by
   rw[List.take_succ_eq_append_getElem hlt,List.any_append];simp only[List.any_cons,List.any_nil,Bool.or_false]
  refine c_b (λhy=>?_) (λhno=>?_)
  ·exact h _ _ S.ext ⟨λ_=>List.any_eq_true.2 ⟨l[i],List.getElem_mem hlt,hy⟩,λ_=>Int.natCast_nonneg _⟩
  ·refine gP_ ?_
   refine hK6 (i+1) _ ⟨hlt,?_,S⟩ (by omega)
   rw[ht,hn,hno];rfl
 ·have :i=l.length:=by omega
  subst this
  rw[List.take_length]at hn
  exact h _ _ S.ext ⟨λh=>by omega,λh=>by rw[hn]at h;cases h⟩
theorem aaI{f:CnD→Bool}{fv v:Value}{w:World}{r:Gh}{l:List CnD}{K:Value→World→Prop}(hr:Holds r w)(hl:SlG 2 r CnC v l)(hb:l.length≤1000000000)
  (hf:∀x∈l,∀(w:World)(K:Value→World→Prop),Holds r w→(∀w',Ext w w'→K (.bool (f x)) w')→zC Tryz.prog fv #[.agg #[.int .i64 x.1,.int .i64 x.2]] w K)
  (h:∀w',Ext w w'→K (.bool (l.any f)) w'):zd Tryz.prog Tryz.zT #[v,fv] w K:=by
 refine Tryz.xz ?_
 unfold Tryz.yq
 refine adV hr hl hb hf λi w' e hi=>?_
 refine gP_ ?_
 have e2:decide (i≥0)=l.any f:=by
  by_cases hh:l.any f=true
  ·rw[hh];exact decide_eq_true (hi.2 hh)
  ·rw[Bool.eq_false_iff.2 hh];exact decide_eq_false λh=>hh (hi.1 h)
 rw[e2];exact h _ e
def aij(n:Int)(c:CnD):Bool:=decide (min c.1 c.2<0)||decide (max c.1 c.2≥n)
def Js(l:List CnD)(n:Int):Bool:=!(l.any (aij n))
theorem aik{n:Int}{b1:Nat}{x:CnD}{w:World}{r:Gh}{K:Value→World→Prop}(hr:Holds r w)(h1:Ob r λw=>w.cell? ⟨b1,0,none⟩=some (.int .i64 n))(h:∀w',Ext w w'→K (.bool (aij n x)) w'):
  zC Tryz.prog (.func (.func Tryz.ZQ) #[] #[.pointer (some ⟨b1,0,none⟩)]) #[.agg #[.int .i64 x.1,.int .i64 x.2]] w K:=by
 refine Q7 (by kernel_rfl) ?_
 refine Tryz.J5 ?_
 unfold Tryz.Z2
 have S:=St.start hr
 refine S.box λb2 w1 S=>?_
 have S:StX noX w r w1 [.cell b2 [.int .i64 x.1,.int .i64 x.2] 36]:=S
 refine gg_ ?_
 refine zk (c:=decide (max x.1 x.2≥n)) (λ_ K2 hK2=>by refine gg_ ?_;refine zg (S.at h1) ?_;refine gg_ ?_;exact hK2) ?_
 exact h _ S.ext
theorem Xx{n:Int}{v:Value}{w:World}{r:Gh}{l:List CnD}{K:Value→World→Prop}(hr:Holds r w)(hl:SlG 2 r CnC v l)(hb:l.length≤1000000000)
  (h:∀w',Ext w w'→K (.bool (Js l n)) w'):zd Tryz.prog Tryz.kR #[v,.int .i64 n] w K:=by
 refine Tryz.aaH ?_
 unfold Tryz.Xv
 obtain⟨p,cap,rfl,_,_⟩:=hl.shape
 have S:=St.start hr
 refine S.box λb3 w1 S=>?_
 have S:StX noX w r w1 [.cell b3 [.int .i64 n] 3]:=S
 have S:=S.frzAt b3
 refine gp_ ?_
 refine aaI (f:=aij n) S.holds hl.cells hb (λx _ w K hr h=>?_) λw2 e2=>?_
 ·exact aik hr (xP (c:=[.int .i64 n]) (T:=3) rfl) h
 ·have S:=S.go e2
  refine gp_ ?_
  exact h _ S.ext
noncomputable def atD(u:UnD)(fn q:Int):List CnD×Int:=
 if((zN (zM u fn (-1))).2=2∨fn<0∨(u.fs.length:Int)≤fn)∨q<0 then([],2)else match u.fs[fn.toNat]? with
 |none=>([],2)
 |some g=>match g.pts[q.toNat]? with
  |none=>([],2)
  |some p=>if (zN (zM u fn (-1))).2≠0 then([],(zN (zM u fn (-1))).2)else(ptCn u (allD u g).tys p ((allD u g).at'.getD q.toNat 0),0)
theorem Jt{u:UnD}{fn:Int}(h:(zN (zM u fn (-1))).2=0):MayU u∧0≤fn∧∃hlt:fn.toNat<u.fs.length,(zN (zM u fn (-1))).1=allD u u.fs[fn.toNat]∧(allD u u.fs[fn.toNat]).ct≤512:=by
 obtain⟨h1,h2,h3⟩:=af9 h
 have hU:isU u fn (-1)=true:=by
  cases hi:isU u fn (-1)with
  |true=>rfl
  |false=>rw [zM,hi]at h1;cases h1
 obtain⟨hM,hf0,hlt,_,hT⟩:=jS hU
 rw[hT]at h2 h3
 exact⟨hM,hf0,hlt,by rw[hT];exact h2,h3⟩
theorem ZB{u:UnD}{g:GrD}{fn:Nat}(hM:MayU u)(hlt:fn<u.fs.length)(hct:(allD u u.fs[fn]).ct≤512){i:Nat}(h:i<(allD u u.fs[fn]).at'.length): -1≤(allD u u.fs[fn]).at'[i]∧(allD u u.fs[fn]).at'[i]≤1000000:=by
 have hH:=hM.hd hlt
 have hN:=λp hp=>hM.ptN (List.getElem_mem hlt) (p:=p) hp
 have hi:i<u.fs[fn].pts.length:=by rw[(yj).2]at h;exact h
 have e:(allD u u.fs[fn]).at'[i]=(atK u u.fs[fn].pts (u.fs[fn].lv+zI u.fs[fn].tys))[i]'(by rw[kB];exact hi):=rfl
 rw[e,VB hi]
 split
 ·omega
 ·have h1:=kZ (u:=u) (l:=u.fs[fn].pts) (λp hp=>(hN p hp).1) i
  have h3:=xx u.fs[fn].tys
  have h4:=hH.lv0
  have h5:u.fs[fn].lv+zI u.fs[fn].tys+atC u u.fs[fn].pts≤512:=hct
  omega
theorem V5{u:UnD}{fn q:Int}{v:Value}{w:World}{r:Gh}{K:Value→World→Prop}(hr:Holds r w)(hu:UnG r v u)
  (h:∀v' s w',Ext w w'→New w s w'→SlG 2 s CnC v' (atD u fn q).1→K (.tuple #[v',.int .i64 (atD u fn q).2]) w'):zd Tryz.prog Tryz.vH #[v,.int .i64 fn,.int .i64 q] w K:=by
 refine Tryz.ae4 ?_
 unfold Tryz.V2
 have hu0:=hu
 obtain⟨p0,cap0,vf,rfl,_,_,hst,hsl,hfn⟩:=hu
 obtain⟨qf,capf,rfl,_,_⟩:=hfn.sl.shape
 have S:=St.start hr
 refine S.box λb3 w1 S=>?_
 have S:StX noX w r w1 [.cell b3 [.slice p0 u.ss.length cap0,.slice qf u.fs.length capf,.int .i64 u.mn] 25]:=S
 refine S.ldB (b:=b3) ?_ rfl
 refine aaZ S.holds hu0 λv3 s w4 e4 n4 hd=>?_
 obtain⟨S,_,_⟩:=S.tell e4 n4
 have hE:atD u fn q=if ((zN (zM u fn (-1))).2=2∨fn<0∨(u.fs.length:Int)≤fn)∨q<0 then([],2)else match u.fs[fn.toNat]? with
  |none=>([],2)
  |some g=>match g.pts[q.toNat]? with
   |none=>([],2)
   |some p=>if (zN (zM u fn (-1))).2≠0 then([],(zN (zM u fn (-1))).2)else(ptCn u (allD u g).tys p ((allD u g).at'.getD q.toNat 0),0):=rfl
 have hfs:=Jt (u:=u) (fn:=fn)
 generalize (zN (zM u fn (-1))).2=e at hE hfs⊢
 generalize (zN (zM u fn (-1))).1=d at hd hfs
 obtain⟨q1,c1,q2,c2,rfl,g1,g2⟩:=hd.shape
 refine gS_ ?_
 refine S.al λb8 w5 S=>?_
 refine S.stB (b:=b8) λw6 S=>?_
 refine gp_ ?_
 have S:StX noX w (r.or s) w6 [.cell b8 (rgL d.lv d.pt d.ct (.slice q1 d.tys.length c1) (.slice q2 d.at'.length c2)) 74,.cell b3 [.slice p0 u.ss.length cap0,.slice qf u.fs.length capf,.int .i64 u.mn] 25]:=S
 refine zk (c:=decide (fn<0)) (λ_ K2 hK2=>by refine gg_ ?_;exact hK2) ?_
 refine zk (c:=decide (fn≥(u.fs.length:Int))) (λ_ K2 hK2=>by refine gg_ ?_;exact hK2) ?_
 refine zk (c:=decide (q<0)) (λ_ K2 hK2=>by refine gg_ ?_;exact hK2) ?_
 refine zk (c:=decide (q≥((((u.fs[fn.toNat]?.map λg=>g.pts.length).getD 0:Nat)):Int))) (λhb K2 hK2=>?_) ?_
 ·simp only[Bool.or_eq_false_iff,decide_eq_false_iff_not]at hb
  obtain⟨⟨⟨_,hb1⟩,hb2⟩,hb3⟩:=hb
  have hlt:fn.toNat<u.fs.length:=by omega
  rw[gqg hlt,Option.map_some,Option.getD_some]at hK2
  obtain⟨bf,of,cf,hqE,hcf,hgc,hfo⟩:=hfn.sl.get (by decide) hlt
  generalize u.fs[fn.toNat]=g at hgc hK2
  obtain⟨vo,vt,vn,vp,rfl,m1,m2,m3,m4⟩:=hgc
  obtain⟨qp,capp,rfl,_,_⟩:=m4.sl.shape
  subst hqE
  refine gg_ ?_
  refine zg (v:=.slice qp g.pts.length capp) (by simpa using S.at ((hfo 6 _ rfl).up (s:=r.or s))) ?_
  refine gg_ ?_
  exact hK2
 refine c_b (λhbad=>?_) (λhgood=>?_)
 ·have hE:atD u fn q=([],2):=by
   rw[hE]
   simp only[Bool.or_eq_true,decide_eq_true_eq]at hbad
   by_cases hc:(e=2∨fn<0∨(u.fs.length:Int)≤fn)∨q<0
   ·rw[if_pos hc]
   ·rw[if_neg hc]
    rw[not_or,not_or,not_or]at hc
    have hlt:fn.toNat<u.fs.length:=by omega
    rw[gqg hlt]at hbad⊢
    rw[Option.map_some,Option.getD_some]at hbad
    have :u.fs[fn.toNat].pts[q.toNat]? = none:=List.getElem?_eq_none (by omega)
    simp only[this]
  rw[hE]at h
  exact h _ nothing _ S.ext New.nothing SlG.nil
 simp only[Bool.or_eq_false_iff,decide_eq_false_iff_not]at hgood
 obtain⟨⟨⟨⟨hb0,hb1⟩,hb2⟩,hb3⟩,hb4⟩:=hgood
 have hlt:fn.toNat<u.fs.length:=by omega
 rw[gqg hlt,Option.map_some,Option.getD_some]at hb4
 have hltp:q.toNat<u.fs[fn.toNat].pts.length:=by omega
 rw[if_neg (by omega),gqg hlt]at hE
 dsimp only at hE
 rw[gqg hltp]at hE
 dsimp only at hE
 refine gp_ ?_
 refine zj (λhne=>?_) (λheq=>?_)
 ·rw[if_pos hne]at hE
  rw[hE]at h
  exact h _ nothing _ S.ext New.nothing SlG.nil
 have heq:e=0:=by omega
 subst heq
 obtain⟨hM,_,_,hdE,hct⟩:=hfs rfl
 subst hdE
 rw[if_neg (by omega)]at hE
 rw[hE]at h
 have hH:=hM.hd hlt
 have hpt:=hM.pts _ (List.getElem_mem hlt) _ (List.getElem_mem hltp)
 have hql:q.toNat<(allD u u.fs[fn.toNat]).at'.length:=by rw[(yj).2];exact hltp
 have hrg:=ZB (g:=u.fs[fn.toNat]) hM hlt hct hql
 have hga:(allD u u.fs[fn.toNat]).at'.getD q.toNat 0=(allD u u.fs[fn.toNat]).at'[q.toNat]:=by rw[List.getD_eq_getElem?_getD,gqg hql,Option.getD_some]
 rw[hga]at h
 obtain⟨bf,of,cf,hqE,hcf,hgc,hfo⟩:=hfn.sl.get (by decide) hlt
 have hp24:=hH.pt1024
 generalize u.fs[fn.toNat]=g at hgc hltp hH hpt hql hrg h hb4 hd g1 g2 S hct hp24
 obtain⟨vo,vt,vn,vp,rfl,m1,m2,m3,m4⟩:=hgc
 obtain⟨qp,capp,rfl,_,_⟩:=m4.sl.shape
 obtain⟨bp,op,cp,hpE,hcp,hpg,hpo⟩:=m4.sl.get (by decide) hltp
 obtain⟨x1,x2,x3,x4,x5,y1,y2,y3,y4,y5,rfl,hpg0⟩:=qw hpg
 cases hqE
 refine S.al λb10 w7 S=>?_
 have S:=S.go (Ext.drew _)
 refine S.ldB (b:=b3) ?_ rfl
 refine S.ldB (b:=b8) ?_ rfl
 refine gg_ ?_
 refine zg (v:=.slice qp g.pts.length capp) (by simpa using S.at ((hfo 6 _ rfl).up (s:=r.or s))) ?_
 rw[hpE]
 refine gg_ ?_
 refine zn (n:=21) hcp (λj v hj=>by simpa using S.at ((hpo j v hj).up (s:=r.or s))) ?_
 refine ZA (b:=b10) S λb11 w8 e8 S=>⟨e8,?_⟩
 have S:=S.ownNil 36 2
 generalize hρ:(r.or s).or (Go.Sh.one b11 [.pointer (some ⟨b10,0,none⟩)] 126)=ρ at S
 have l1:Le r ρ:=by rw[← hρ];infer_instance
 have l2:Le s ρ:=by rw[← hρ];infer_instance
 have l3:Le (Go.Sh.one b11 [.pointer (some ⟨b10,0,none⟩)] 126) ρ:=by rw[← hρ];infer_instance
 have S:StX noX w ρ w8 (lsL b10 (.slice none 0 0,[])++[.cell b8 (rgL (allD u g).lv (allD u g).pt (allD u g).ct (.slice q1 (allD u g).tys.length c1) (.slice q2 (allD u g).at'.length c2)) 74,.cell b3 [.slice p0 u.ss.length cap0,.slice (some ⟨bf,of,none⟩) u.fs.length capf,.int .i64 u.mn] 25]):=S
 refine X3 (fn:=fn.toNat) (p:=g.pts[q.toNat]) (u:=u) (g:=g) (q:=q) (adT (q:=ρ) (b:=b10) (X:=noX) (w0:=w)) hM hH hpt ⟨_,_,_,rfl⟩ (UnG.up hu0) (RgG.up hd) (PtG.up hpg0) (by omega) hql rfl hrg.1 hrg.2 (s:=(.slice none 0 0,[])) (l:=[]) rfl (by decide) S λs2 w9 hJ S=>?_
 obtain⟨v,l⟩:=s2
 rw[List.nil_append]at hJ
 have hJ:l=_:=hJ
 have S:StX noX w ρ w9 [.row v 36 2 l.length (cns l),.cell b10 [v] 28,.cell b8 (rgL (allD u g).lv (allD u g).pt (allD u g).ct (.slice q1 (allD u g).tys.length c1) (.slice q2 (allD u g).at'.length c2)) 74,.cell b3 [.slice p0 u.ss.length cap0,.slice (some ⟨bf,of,none⟩) u.fs.length capf,.int .i64 u.mn] 25]:=S
 refine S.ld (b:=b10) ?_
 obtain⟨s3,T,hs,_,ha3⟩:=S.doneRow (l:=l) ke (by decide) rfl
 rw[hJ]at hs
 exact h _ s3 _ T.ext (StX.newOf (q:=s3) T λb o ho=>(ha3 b o ho).resolve_right id) hs
end Go.Proofs
end
section
namespace Go.Sh
open Go.RowKit Go.MapKept
abbrev PrK:=Int×Int
abbrev prV(x:PrK):Value:=.agg #[.int .i64 x.1,.int .i64 x.2]
def mpP(P:Program)(t:TypeId):Option (TypeId×TypeId):=match P.underlying t with
 |some (.map k e)=>if Zf P k=true then some (k,e)else none
 |_=>none
theorem agA{P:Program}{t k e:TypeId}(h:mpP P t=some (k,e)):P.underlying t=some (.map k e)∧Zf P k=true:=by
 unfold mpP at h
 split at h
 ·rename_i k' e' h1
  split at h
  ·rename_i h2
   cases h;exact⟨h1,h2⟩
  ·cases h
 ·cases h
theorem acZ {P : Program} {k : TypeId} (h : Zf P k = true) : ∃ fs f g k1 k2, P.underlying k = some (.struct fs) ∧ fs.toList = [f, g] ∧ f.name ≠ "_" ∧ g.name ≠ "_" ∧ f.offset = 0 ∧ g.offset = 1 ∧ P.underlying f.type = some (.int k1) ∧ P.underlying g.type = some (.int k2) := by
 unfold Zf at h
 simp only[Bool.and_eq_true,Bool.not_eq_true']at h
 obtain⟨⟨h1,h2⟩,h3⟩:=h
 cases hu:P.underlying k with
 |none=>rw [hu]at h3;cases h3
 |some d=>
  rw[hu]at h3
  cases d<;>first|(cases h3;done)|skip
  rename_i fs
  simp only at h3
  split at h3
  ·rename_i f g hl
   simp only[Bool.and_eq_true,bne_iff_ne,ne_eq]at h3
   obtain⟨⟨⟨⟨⟨n1,n2⟩,o1⟩,o2⟩,t1⟩,t2⟩:=h3
   have s1:∃k,P.underlying f.type=some (.int k):=by
    revert t1;cases P.underlying f.type with
    |none=>intro h;cases h
    |some d=>cases d<;>first|(intro h;cases h;done)|(intro _;exact⟨_,rfl⟩)
   have s2:∃k,P.underlying g.type=some (.int k):=by
    revert t2;cases P.underlying g.type with
    |none=>intro h;cases h
    |some d=>cases d<;>first|(intro h;cases h;done)|(intro _;exact⟨_,rfl⟩)
   obtain⟨k1,s1⟩:=s1
   obtain⟨k2,s2⟩:=s2
   exact⟨fs,f,g,k1,k2,rfl,hl,n1,n2,Nat.eq_of_beq_eq_true o1,Nat.eq_of_beq_eq_true o2,s1,s2⟩
  ·cases h3
theorem V6{P:Program}{w:World}{t:TypeId}{kd j:IntKind}{a:Int}(h:P.underlying t=some (.int kd))(em:Bool)(n:Nat):(Instr.checkKey em (n+1) t (.int j a)).run P w=.ok () w:=by
 unfold Instr.checkKey
 simp only[Sem.run_bind,run_underlying h,Result.andThen]
 rfl
theorem YO{P:Program}{w:World}{k:TypeId}(h:Zf P k=true)(x:PrK)(em:Bool)(n:Nat):(Instr.checkKey em (n+2) k (prV x)).run P w=.ok () w:=by
 obtain⟨fs,f,g,k1,k2,hu,hl,n1,n2,o1,o2,s1,s2⟩:=acZ h
 unfold Instr.checkKey
 simp only[Sem.run_bind,run_underlying hu,Result.andThen]
 rw[← Array.forIn_toList,hl]
 simp[n1,n2,o1,o2,Sem.run_bind,Zg s1 (x:=.int .i64 x.1) (k:=0) (cs:=#[.int .i64 x.1,.int .i64 x.2]) rfl,Zg s2 (x:=.int .i64 x.2) (k:=1) (cs:=#[.int .i64 x.1,.int .i64 x.2]) rfl,Result.andThen,V6 s1,V6 s2,Sem.run,pure]
theorem amB{P:Program}{k:TypeId}(h:Zf P k=true)(x y:PrK)(w:World):(Op.equal k (prV x) (prV y)).run P w=.ok (decide (x=y)) w:=by
 have e:decide (x=y)=(decide (x.1=y.1)&&decide (x.2=y.2)):=by
  rw[Bool.eq_iff_iff,Bool.and_eq_true,decide_eq_true_eq,decide_eq_true_eq,decide_eq_true_eq,Prod.ext_iff]
 rw[e]
 exact adh h w
def alZ(m:MapEntry)(x:PrK×Value):Prop:=m.key=prV x.1∧m.val=x.2
inductive EntsP:List MapEntry→List (PrK×Value)→Prop
 |nil:EntsP [] []
 |cons {m:MapEntry} {x:PrK×Value} {l:List MapEntry} {M:List (PrK×Value)}:alZ m x→EntsP l M→EntsP (m::l) (x::M)
theorem EntsP.snoc{l:List MapEntry}{M:List (PrK×Value)}{m:MapEntry}{x:PrK×Value}(h:EntsP l M)(hm:alZ m x):EntsP (l++[m]) (M++[x]):=by
 induction h with
 |nil=>exact .cons hm .nil
 |cons h _ ih=>exact .cons h ih
def k7(x:PrK)(v:Value):List (PrK×Value)→List (PrK×Value)
 |[]=>[(x,v)]
 |y::M=>if x=y.1 then(x,v)::M else y::k7 x v M
theorem aet{x z:PrK}{v:Value}:∀{M:List (PrK×Value)},(k7 x v M).lookup z=if z=x then some v else M.lookup z
 |[]=>by
  rw[k7,List.lookup_cons]
  by_cases h:z=x
  ·rw[if_pos h];simp[h]
  ·have e:(z == x)=false:=by simpa using h
   rw[if_neg h,e]<;>rfl
 |y::M=>by
  rw[k7]
  by_cases hx:x=y.1
  ·rw[if_pos hx,List.lookup_cons]
   by_cases h:z=x
   ·rw[if_pos h];simp[h]
   ·have e:(z == x)=false:=by simpa using h
    have e2:(z == y.1)=false:=by rw[← hx];exact e
    rw[if_neg h,e,List.lookup_cons,e2]
  ·rw[if_neg hx,List.lookup_cons,List.lookup_cons]
   by_cases h:z=y.1
   ·have e:(z == y.1)=true:=by simpa using h
    rw[e,if_neg (λhh=>hx (hh.symm.trans h))]
   ·have e:(z == y.1)=false:=by simpa using h
    rw[e]
    exact aet
def Born(l:List MapEntry)(c:Nat):Prop:=l.Pairwise (λa b=>a.born<b.born)∧∀m∈l,m.born<c
theorem Born.nil{c:Nat}:Born [] c:=⟨.nil,λm hm=>by cases hm⟩
theorem Born.push{l:List MapEntry}{c:Nat}{k v:Value}(h:Born l c):Born (l++[{ key:=k,val:=v,born:=c }]) (c+1):=by
 refine⟨List.pairwise_append.2 ⟨h.1,List.pairwise_singleton _ _,λa ha b hb=>?_⟩,λm hm=>?_⟩
 ·rw[List.mem_singleton.1 hb];exact h.2 a ha
 ·rw[List.mem_append,List.mem_singleton]at hm
  rcases hm with hm|rfl
  ·have:=h.2 m hm;omega
  ·exact Nat.lt_succ_self c
theorem Born.mod{l:List MapEntry}{c j:Nat}{f:MapEntry→MapEntry}(h:Born l c)(hf:∀m,(f m).born=m.born):Born (l.modify j f) c:=by
 have e:(l.modify j f).map (·.born)=l.map (·.born):=by
  refine List.ext_getElem (by simp) λi h1 h2=>?_
  simp only[List.getElem_map,List.getElem_modify]
  split
  ·exact hf _
  ·rfl
 have key:∀{l:List MapEntry},l.Pairwise (λa b=>a.born<b.born)↔(l.map (·.born)).Pairwise (· < ·):=fun {l}=>List.pairwise_map.symm
 refine⟨key.2 (by rw[e];exact key.1 h.1),λm hm=>?_⟩
 have :m.born∈(l.modify j f).map (·.born):=List.mem_map.2 ⟨m,hm,rfl⟩
 rw[e]at this
 obtain⟨m',hm',he⟩:=List.mem_map.1 this
 have:=h.2 m' hm'
 omega
theorem Born.find{l:List MapEntry}{c j:Nat}{m:MapEntry}(h:Born l c)(hj:l[j]? = some m):l.findIdx? (λe=>(e.born:Int) == (m.born:Int))=some j:=by
 obtain⟨hlt,rfl⟩:=List.getElem?_eq_some_iff.1 hj
 rw[List.findIdx?_eq_some_iff_getElem]
 refine⟨hlt,by simp,λi hi=>?_⟩
 have:=List.pairwise_iff_getElem.1 h.1 i j (by omega) hlt hi
 simp;omega
def k9(M:List (PrK×Value))(o:Obj):Prop:=∃es c,o=.map es c∧EntsP es.toList M∧Born es.toList c
def V7(M:List (PrK×Value))(x:PrK)(z:Value)(n:Nat)(o:Obj):Prop:=∃es c j M1,o=.map es c∧Born es.toList c∧(∃m,es.toList[j]? = some m∧m.born=n)∧EntsP es.toList M1∧(∀y,(M1.lookup y).getD z=(M.lookup y).getD z)∧∀v,EntsP (es.toList.modify j λe=>{ e with val:=v }) (k7 x v M)
theorem aeu{P:Program}{k:TypeId}{w:World}{x:PrK}(hk:Zf P k=true){l:List MapEntry}{M:List (PrK×Value)}(h:EntsP l M):∀{i:Nat},
  ((Instr.findAsking k (prV x) l i).run P w=.ok none w∧M.lookup x=none∧∀v,k7 x v M=M++[(x,v)])∨
  ∃j v0,(Instr.findAsking k (prV x) l i).run P w=.ok (some (i+j,v0)) w∧M.lookup x=some v0∧(∃m,l[j]? = some m∧m.key=prV x)∧∀v,EntsP (l.modify j λe=>{ e with key:=prV x,val:=v }) (k7 x v M):=by
 induction h with
 |nil=>intro i;exact .inl ⟨by simp[Instr.findAsking],rfl,λv=>rfl⟩
 |@cons m y l M hm h ih=>
  intro i
  obtain⟨hkey,hv⟩:=hm
  obtain⟨y1,y2⟩:=y
  simp only at hkey hv
  have hq:=amB hk x y1 w
  by_cases hx:x=y1
  ·subst hx
   rw[decide_eq_true rfl]at hq
   refine .inr ⟨0,m.val,?_,?_,⟨m,rfl,hkey⟩,λv=>?_⟩
   ·rw[Instr.findAsking,hkey];simp[hq]
   ·rw[List.lookup_cons,show (x == x)=true by simp,hv]
   ·rw[k7,if_pos rfl]
    exact .cons ⟨rfl,rfl⟩ h
  ·rw[decide_eq_false hx]at hq
   have hb:(x == y1)=false:=by simpa using hx
   rcases ih (i:=i+1)with⟨h1,h2,h3⟩|⟨j,v0,h1,h2,h3,h4⟩
   ·refine .inl ⟨?_,?_,λv=>?_⟩
    ·rw[Instr.findAsking,hkey];simp[hq,h1]
    ·rw[List.lookup_cons,hb];exact h2
    ·rw[k7,if_neg hx,h3];rfl
   ·refine .inr ⟨j+1,v0,?_,?_,?_,λv=>?_⟩
    ·rw[Instr.findAsking,hkey];simp[hq,h1,Nat.add_assoc,Nat.add_comm 1 j]
    ·rw[List.lookup_cons,hb];exact h2
    ·simpa using h3
    ·rw[k7,if_neg hx]
     exact .cons ⟨hkey,hv⟩ (h4 v)
theorem X4{P:Program}{k:TypeId}{w:World}(hk:Zf P k=true){x:Value}{es:List MapEntry}:(Instr.findKey k x es).run P w=(Instr.findAsking k x es).run P w:=by
 obtain⟨fs,_,_,_,_,hu,_⟩:=acZ hk
 exact run_findKey_eq w (by rw[hu]) x es
theorem aja{P:Program}{w:World}(x:PrK):(Instr.keyThatStays (prV x) (prV x)).run P w=.ok (prV x) w:=by
 have e:Instr.sameBits 10000 (prV x) (prV x)=true:=by simp[Instr.sameBits]
 simp[Instr.keyThatStays,e,Sem.run,pure]
theorem ac0{x z:PrK}{v:Value}:∀{M:List (PrK×Value)},M.lookup x=none→((M++[(x,v)]).lookup z)=if z=x then some v else M.lookup z
 |[],_=>by
  rw[List.nil_append,List.lookup_cons]
  by_cases h:z=x
  ·rw[if_pos h];simp[h]
  ·have e:(z == x)=false:=by simpa using h
   rw[if_neg h,e]<;>rfl
 |y::M,hn=>by
  rw[List.lookup_cons]at hn
  have hxy:(x == y.1)=false:=by
   cases hb:(x == y.1)with
   |false=>rfl
   |true=>rw [hb]at hn;cases hn
  rw[hxy]at hn
  rw[List.cons_append,List.lookup_cons,List.lookup_cons,ac0 hn]
  by_cases h:z=x
  ·subst h;rw[hxy,if_pos rfl]
  ·rw[if_neg h,if_neg h]
theorem EntsP.mod{x:PrK}{v:Value}:∀{l:List MapEntry}{M:List (PrK×Value)}{j:Nat}{m:MapEntry},l[j]? = some m→m.key=prV x→EntsP (l.modify j λe=>{ e with key:=prV x,val:=v }) M→EntsP (l.modify j λe=>{ e with val:=v }) M
 |l,M,j,m,hj,hk,h=>by
  have e:(l.modify j λe=>{ e with key:=prV x,val:=v })=l.modify j λe=>{ e with val:=v }:=by
   refine List.ext_getElem (by simp) λi h1 h2=>?_
   simp only[List.getElem_modify]
   split
   ·rename_i hji
    subst hji
    obtain⟨hlt,rfl⟩:=List.getElem?_eq_some_iff.1 hj
    simp only[hk]
   ·rfl
  rwa[e]at h
theorem akb{x:Value}{es:Array MapEntry}{j:Nat}{m:MapEntry}(hj:es.toList[j]? = some m)(hk:m.key=x):(es.modify j λe=>{ e with key:=x })=es:=by
 apply Array.ext'
 rw[Array.toList_modify]
 refine List.ext_getElem (by simp) λi h1 h2=>?_
 rw[List.getElem_modify]
 split
 ·rename_i hji
  subst hji
  obtain⟨hlt,rfl⟩:=List.getElem?_eq_some_iff.1 hj
  subst hk
  rfl
 ·rfl
section
variable {P:Program} {X:Nat→Prop} {w0 w:World} {r:Gh} {L:List Asr} {t k e:TypeId} {b:Nat} {M:List (PrK×Value)} {f:Asr→List Asr}
theorem StX.mkMapP(S:StX X w0 r w L){K:Value→World→Prop}(h:∀b w',StX X w0 r w' (.obj b (k9 [])::L)→K (.map (some b)) w'):opW P w (Instr.makeMap t none) K:=
 S.mkMap λb w' S'=>h b w' ⟨S'.x,S'.holds,λx hx=>by
  rcases List.mem_cons.1 hx with rfl|hx
  ·obtain⟨o,h1,h2,rfl⟩:=S'.has _ List.mem_cons_self
   exact⟨_,h1,h2,_,_,rfl,.nil,.nil⟩
  ·exact S'.has x (List.mem_cons_of_mem _ hx),λx hx=>by
  rcases List.mem_cons.1 hx with rfl|hx
  ·exact S'.mine (.obj b (· = .map #[] 0)) List.mem_cons_self
  ·exact S'.mine x (List.mem_cons_of_mem _ hx),by
  have:=S'.apart
  rw[List.pairwise_cons]at this⊢
  exact this⟩
theorem StX.mapEntP(S:StX X w0 r w L){x:PrK}{z:Value}[h0:abH b L (k9 M) f](ht:mpP P t=some (k,e))(hz:zr1 P e=some z){K:Value→World→Prop}
  (h:∀v n w',StX X w0 r w' (f (.obj b (V7 M x z n)))→K (.tuple #[v,.int .i64 (n:Nat)]) w'):opW P w (Instr.mapEntry t (.map (some b)) (prV x)) K:=by
 obtain⟨ht,hk⟩:=agA ht
 obtain⟨p,q,e1,e2⟩:=h0.h
 obtain⟨o,hb,_,es,c,rfl,hE,hB⟩:=S.has (.obj b (k9 M)) (by rw[e1];simp)
 rcases aeu (P:=P) (w:=w) (x:=x) hk hE (i:=0)with⟨h1,h2,h3⟩|⟨j,v0,h1,h2,⟨m,h3,h5⟩,h4⟩
 ·have hf:=(X4 (w:=w) (x:=prV x) hk (es:=es.toList)).trans h1
  refine⟨.tuple #[z,.int .i64 (c:Nat)],{ w with heap:=w.heap.setIfInBounds b (.map (es.push { key:=prV x,val:=z,born:=c }) (c+1)) },?_,h z c _ ?_⟩
  ·simp[Instr.mapEntry,run_underlying ht,MapKept.run_getObj_map hb,YO (w:=w) hk x false 9998,hf,VF hz,MapKept.run_setObj_map _ hb,Result.andThen,goInt]
  ·obtain⟨a1,a2⟩:=heap_set hb (o':=.map (es.push { key:=prV x,val:=z,born:=c }) (c+1))
   rw[e2]
   rw[e1]at S
   refine S.turn (x:=.obj b (k9 M)) (y:=.obj b (V7 M x z c)) ⟨rfl,rfl,rfl,by simp,λk _ hk=>a2 k hk⟩ ⟨_,a1,rfl,_,_,es.toList.length,M++[(x,z)],rfl,?_,?_,?_,λy=>?_,λv=>?_⟩ λk hk=>.inl hk
   ·rw[Array.toList_push];exact hB.push
   ·exact⟨{ key:=prV x,val:=z,born:=c },by rw[Array.toList_push,List.getElem?_append_right (Nat.le_refl _),Nat.sub_self];rfl,rfl⟩
   ·rw[Array.toList_push];exact hE.snoc ⟨rfl,rfl⟩
   ·rw[ac0 h2]
    by_cases hy:y=x
    ·rw[if_pos hy,hy,h2];rfl
    ·rw[if_neg hy]
   ·rw[Array.toList_push,h3]
    have em:(es.toList++[{ key:=prV x,val:=z,born:=c:MapEntry }]).modify es.toList.length (λe=>{ e with val:=v })=es.toList++[{ key:=prV x,val:=v,born:=c }]:=by
     refine List.ext_getElem (by simp) λi h1 h2=>?_
     rw[List.getElem_modify]
     by_cases hi:i<es.toList.length
     ·rw[if_neg (by omega),List.getElem_append_left hi,List.getElem_append_left hi]
     ·have hi2:i=es.toList.length:=by rw[List.length_append,List.length_singleton]at h2;omega
      subst hi2
      rw[if_pos rfl,List.getElem_append_right (Nat.le_refl _),List.getElem_append_right (Nat.le_refl _)]
      simp
    rw[em]
    exact hE.snoc ⟨rfl,rfl⟩
 ·have hf:=(X4 (w:=w) (x:=prV x) hk (es:=es.toList)).trans h1
  rw[Nat.zero_add]at hf
  have hj:es[j]? = some m:=by rw[← Array.getElem?_toList];exact h3
  have hkey:((es[j]?).map (·.key)).getD (prV x)=prV x:=by rw[hj];exact h5
  have hborn:(Option.map (λx:MapEntry=>(x.born:Int)) es[j]?).getD 0=(m.born:Int):=by rw[hj];rfl
  have hsame:=akb (x:=prV x) h3 h5
  refine⟨.tuple #[v0,.int .i64 (m.born:Nat)],{ w with heap:=w.heap.setIfInBounds b (.map es c) },?_,h v0 m.born _ ?_⟩
  ·simp[Instr.mapEntry,run_underlying ht,MapKept.run_getObj_map hb,YO (w:=w) hk x false 9998,hf,hkey,aja,hsame,hborn,MapKept.run_setObj_map _ hb,Result.andThen,goInt]
  ·obtain⟨a1,a2⟩:=heap_set hb (o':=.map es c)
   rw[e2]
   rw[e1]at S
   refine S.turn (x:=.obj b (k9 M)) (y:=.obj b (V7 M x z m.born)) ⟨rfl,rfl,rfl,by simp,λk _ hk=>a2 k hk⟩ ⟨_,a1,rfl,_,_,j,M,rfl,hB,⟨m,h3,rfl⟩,hE,λy=>rfl,λv=>EntsP.mod h3 h5 (h4 v)⟩ λk hk=>.inl hk
theorem StX.entSetP(S:StX X w0 r w L){x:PrK}{z v:Value}{n:Nat}[h0:abH b L (V7 M x z n) f]{K:World→Prop}
  (h:∀w',StX X w0 r w' (f (.obj b (k9 (k7 x v M))))→K w'):opU P w (Instr.entryStore t (.map (some b)) (.int .i64 (n:Nat)) v) K:=by
 obtain⟨p,q,e1,e2⟩:=h0.h
 obtain⟨o,hb,_,es,c,j,M1,rfl,hB,⟨m,hm,hn⟩,hE,hl,hv⟩:=S.has (.obj b (V7 M x z n)) (by rw[e1];simp)
 subst hn
 have hf:es.findIdx? (λe=>(e.born:Int) == (m.born:Int))=some j:=by
  have:=hB.find hm
  rwa[← List.findIdx?_toArray,Array.toArray_toList]at this
 refine⟨{ w with heap:=w.heap.setIfInBounds b (.map (es.modify j λe=>{ e with val:=v }) c) },?_,h _ ?_⟩
 ·simp[Instr.entryStore,MapKept.run_getObj_map hb,asInt,asIntOf,Sem.run,pure,hf,MapKept.run_setObj_map _ hb,Result.andThen]
 ·obtain⟨a1,a2⟩:=heap_set hb (o':=.map (es.modify j λe=>{ e with val:=v }) c)
  rw[e2]
  rw[e1]at S
  exact S.turn (x:=.obj b (V7 M x z m.born)) (y:=.obj b (k9 (k7 x v M))) ⟨rfl,rfl,rfl,by simp,λk _ hk=>a2 k hk⟩ ⟨_,a1,rfl,_,_,rfl,by rw[Array.toList_modify];exact hv v,by rw[Array.toList_modify];exact hB.mod λ_=>rfl⟩ λk hk=>.inl hk
theorem aev{w':World}{x:PrK}{z:Value}{es:Array MapEntry}{c:Nat}{M1:List (PrK×Value)}(hb:w'.heap[b]? = some (.map es c))(hE:EntsP es.toList M1)(ht:mpP P t=some (k,e))(hz:zr1 P e=some z):
  (Instr.lookup t (.map (some b)) (prV x) false).run P w'=.ok ((M1.lookup x).getD z) w':=by
 obtain⟨ht,hk⟩:=agA ht
 rcases aeu (P:=P) (w:=w') (x:=x) hk hE (i:=0)with⟨h1,h2,h3⟩|⟨j,v0,h1,h2,_⟩
 ·have hf:=(X4 (w:=w') (x:=prV x) hk (es:=es.toList)).trans h1
  rw[h2]
  simp[Instr.lookup,run_underlying ht,MapKept.run_getObj_map hb,YO (w:=w') hk x _ 9998,hf,VF hz,Result.andThen]
 ·have hf:=(X4 (w:=w') (x:=prV x) hk (es:=es.toList)).trans h1
  rw[h2]
  simp[Instr.lookup,run_underlying ht,MapKept.run_getObj_map hb,YO (w:=w') hk x _ 9998,hf,Result.andThen]
theorem StX.mapGetP(S:StX X w0 r w L){x:PrK}{z:Value}[h0:abH b L (k9 M) f](ht:mpP P t=some (k,e))(hz:zr1 P e=some z){K:Value→Prop}(h:K ((M.lookup x).getD z)):
  opQ P w (Instr.lookup t (.map (some b)) (prV x) false) K:=by
 obtain⟨p,q,e1,e2⟩:=h0.h
 obtain⟨o,hb,_,es,c,rfl,hE,_⟩:=S.has (.obj b (k9 M)) (by rw[e1];simp)
 exact⟨_,λw' ex=>aev ((ex.block b (Array.getElem?_eq_some_iff.1 hb).1).trans hb) hE ht hz,h⟩
theorem StX.mapGetE(S:StX X w0 r w L){x y:PrK}{z:Value}{n:Nat}[h0:abH b L (V7 M y z n) f](ht:mpP P t=some (k,e))(hz:zr1 P e=some z){K:Value→Prop}(h:K ((M.lookup x).getD z)):
  opQ P w (Instr.lookup t (.map (some b)) (prV x) false) K:=by
 obtain⟨p,q,e1,e2⟩:=h0.h
 obtain⟨o,hb,_,es,c,j,M1,rfl,_,_,hE,hl,_⟩:=S.has (.obj b (V7 M y z n)) (by rw[e1];simp)
 refine⟨_,λw' ex=>aev ((ex.block b (Array.getElem?_eq_some_iff.1 hb).1).trans hb) hE ht hz,?_⟩
 rw[hl];exact h
end
end Go.Sh
end
section
namespace Go.Proofs
open Go.Sh Go.RowKit
theorem mpC:mpP Tryz.prog 122=some (36,3):=by kernel_rfl
theorem agB:zr1 Tryz.prog 3=some (.int .i64 0):=by kernel_rfl
abbrev OfS:=(Value×List CnD)×List (PrK×Value)
abbrev ofL(b8 bm:Nat)(s:OfS):List Asr:=lsL b8 s.1++[.obj bm (k9 s.2)]
def ofJ(s:OfS)(l:List CnD):Prop:=s.1.2=ddL l∧∀x,(s.2.lookup x).getD (.int .i64 0)=.int .i64 (l.count x:Nat)
theorem ak4{v:Value}:ofJ ((v,[]),[]) []:=⟨rfl,λx=>rfl⟩
theorem akc{v v':Value}{acc acc':List CnD}{M:List (PrK×Value)}{l:List CnD}{x:CnD}(h:ofJ ((v,acc),M) l)(ha:acc'=ddF acc x):ofJ ((v',acc'),k7 x (.int .i64 ((l.count x:Int)+1)) M) (l++[x]):=by
 obtain⟨h1,h2⟩:=h
 refine⟨?_,λy=>?_⟩
 ·show acc'=_
  rw[Jn,ha]
  have h1:acc=ddL l:=h1
  rw[h1]
 ·show((k7 x _ M).lookup y).getD _=_
  rw[aet,List.count_append,List.count_singleton]
  by_cases hy:y=x
  ·subst hy
   rw[if_pos rfl,Option.getD_some,if_pos (by simp)]
   congr 1
  ·rw[if_neg hy,if_neg (by simpa usingλh=>hy h.symm),Nat.add_zero]
   exact h2 y
section
variable {X:Nat→Prop} {w0:World} {r:Gh}
theorem al0{b8 b9 b10 bm:Nat}{fv:Value}(h9:Ob r λw=>w.cell? ⟨b9,0,none⟩=some (.map (some bm)))(h10:Ob r λw=>w.cell? ⟨b10,0,none⟩=some fv)(hT:Tk X w0 r fv (lsL b8) (λs l=>s.2=l)):
  Tk X w0 r (.func (.func Tryz.Qt) #[] #[.pointer (some ⟨b9,0,none⟩),.pointer (some ⟨b10,0,none⟩)]) (ofL b8 bm) ofJ:=by
 intro s l x y r' M w K le hJ hl S hK
 obtain⟨⟨v,acc⟩,Mp⟩:=s
 refine akv (by kernel_rfl) ?_
 refine Tryz.acU ?_
 unfold Tryz.QX
 have hcnt:((Mp.lookup (x,y)).getD (.int .i64 0))=.int .i64 (l.count (x,y):Nat):=hJ.2 (x,y)
 have hcl:l.count (x,y)≤l.length:=List.count_le_length
 have hacc:acc=ddL l:=hJ.1
 have hal:acc.length≤l.length:=by rw[hacc];exact adO
 have h9:Ob r' λw=>w.cell? ⟨b9,0,none⟩=some (.map (some bm)):=h9.up
 have h10:Ob r' λw=>w.cell? ⟨b10,0,none⟩=some fv:=h10.up
 refine zq (cs:=#[.int .i64 x,.int .i64 y]) (by kernel_rfl) ?_
 refine S.al λb6 w1 S=>?_
 refine S.stB (b:=b6) λw2 S=>?_
 have S:StX X w0 r' w2 (.cell b6 [.int .i64 x,.int .i64 y] 36::.row v 36 2 acc.length (cns acc)::.cell b8 [v] 28::.obj bm (k9 Mp)::M):=S
 refine zo (λz w'=>∃v' acc',z=[]∧acc'=ddF acc (x,y)∧StX X w0 r' w' (.cell b6 [.int .i64 x,.int .i64 y] 36::.row v' 36 2 acc'.length (cns acc')::.cell b8 [v'] 28::.obj bm (k9 Mp)::M)) (λK3 hK3=>?_) ?_
 ·refine gp_ ?_
  refine zh (c:=decide ((l.count (x,y):Int)=0)) (λhb K2 hK2=>?_) ?_
  ·refine zg (S.at h9) ?_
   refine S.ldN (b:=b6) (vs:=[.int .i64 x,.int .i64 y]) ?_
   refine S.mapGetP (x:=(x,y)) mpC agB ?_
   rw[hcnt]
   refine gp_ ?_
   exact hK2
  have hdd:(!(decide (x=y))&&decide ((l.count (x,y):Int)=0))=true↔¬((x,y).1=(x,y).2∨(x,y)∈acc):=by
   rw[Bool.and_eq_true,Bool.not_eq_true',decide_eq_false_iff_not,decide_eq_true_eq,not_or,hacc,akW]
   constructor
   ·rintro⟨h1,h2⟩
    refine⟨h1,λh=>?_⟩
    have:=List.count_pos_iff.2 h.1
    omega
   ·rintro⟨h1,h2⟩
    refine⟨h1,?_⟩
    have :(x,y)∉l:=λh=>h2 ⟨h,h1⟩
    rw[List.count_eq_zero_of_not_mem this];rfl
  refine c_b (λhb=>?_) (λhb=>?_)
  ·refine zg (S.at h10) ?_
   have S:StX X w0 r' w2 (lsL b8 (v,acc)++(.cell b6 [.int .i64 x,.int .i64 y] 36::.obj bm (k9 Mp)::M)):=(S.permO (List.perm_middle (l₁:=[_,_])))
   refine hT (v,acc) acc x y r' _ _ _ le rfl (by omega) S λs1 _ w3 hJ1 S=>?_
   obtain⟨v1,acc1⟩:=s1
   have hJ1:acc1=acc++[(x,y)]:=hJ1
   have S:StX X w0 r' w3 (.cell b6 [.int .i64 x,.int .i64 y] 36::(lsL b8 (v1,acc1)++(.obj bm (k9 Mp)::M))):=S.permO (List.perm_middle (l₁:=[_,_])).symm
   refine hK3 _ _ ⟨v1,acc1,rfl,?_,S⟩
   rw[ddF,if_neg (hdd.1 (by simpa using hb))];exact hJ1
  ·refine hK3 _ _ ⟨v,acc,rfl,?_,S⟩
   rw[ddF,if_pos]
   refine Classical.byContradiction λhn=>?_
   have:=hdd.2 hn
   rw[← decide_not]at this
   rw[this]at hb;cases hb
 ·repeat clear S
  rintro _ w6 ⟨v',acc',rfl,hacc',S⟩ d
  have S:=S.go (Ext.drew _)
  refine zg (S.at h9) ?_
  refine S.ldN (b:=b6) (vs:=[.int .i64 x,.int .i64 y]) ?_
  have fin:∀{w':World},StX X w0 r' w' (.cell b6 [.int .i64 x,.int .i64 y] 36::.row v' 36 2 acc'.length (cns acc')::.cell b8 [v'] 28::.obj bm (k9 (k7 (x,y) (.int .i64 ((l.count (x,y):Int)+1)) Mp))::M)→K (.tuple #[]) w':=fun {w'} S=>
   hK ((v',acc'),_) _ _ (akc hJ hacc') S.tl
  refine⟨?_,?_⟩
  ·refine ah3 ?_
   refine S.mapGetP (x:=(x,y)) mpC agB ?_
   rw[hcnt]
   refine gp_ ?_
   refine S.mapEntP (x:=(x,y)) mpC agB λv2 n2 w7 S=>?_
   refine gp_ ?_
   refine S.entSetP λw8 S=>?_
   exact fin S
  ·refine S.mapEntP (x:=(x,y)) mpC agB λv2 n2 w7 S=>?_
   refine gp_ ?_
   refine ah3 ?_
   refine S.mapGetE (x:=(x,y)) mpC agB ?_
   rw[hcnt]
   refine gp_ ?_
   refine S.entSetP λw8 S=>?_
   exact fin S
end
theorem agC{u:UnD}{g:GrD}{fn:Nat}{p:PtD}{a:Int}(hM:MayU u)(hH:HeadU u fn g)(hp:zL u g p=true)(ha: -1≤a):(ptCn u (allD u g).tys p a).length≤928:=by
 rw[ptCn]
 split
 ·have:=QS (ss:=u.ss) (tys:=(allD u g).tys) (o:=p.a) (t:=yl u.ss (allD u g).tys p.to);omega
 split
 ·have:=QS (ss:=u.ss) (tys:=(allD u g).tys) (o:=p.a) (t:=(yl u.ss (allD u g).tys p.to).of.headD zA);omega
 split
 ·rename_i ho
  obtain⟨_,_,k3,_⟩:=acX (a:=a) hM hH hp ho ha
  have h8:p.fr.ps.length≤8:=by
   unfold zm at k3
   split at k3
   ·simpa using k3
   ·cases k3
  have h1:=Z0 (both:=false) (t:=.mk 4 p.mu a 0 [yl u.ss (allD u g).tys p.fr]) (u:=yl u.ss (allD u g).tys p.to)
  have h2:=Jm (f:=λn=>yl u.ss (allD u g).tys ⟨p.fr.l,p.fr.ps.take n⟩) (a:=a) (n:=p.fr.ps.length)
  rw[List.length_append];omega
 split
 ·rename_i ho
  obtain⟨f,k⟩:=acY (a:=a) hM hH hp ho
  rw[k.get]
  dsimp only
  have h1:=ZJ (n:=96) (f:=λx:OpD×TyD=>flO u.ss (allD u g).tys x.1 (instT (max a 0) x.2)) (λx=>QS) (p.args.zip (f.tys.drop 1))
  have h2:=Z0 (both:=false) (t:=instT (max a 0) (f.tys.headD zA)) (u:=yl u.ss (allD u g).tys p.to)
  have h3:=abF k.head.outs k.head.lv8
  have h4:=k.len
  have h5:=k.pn8
  rw[List.length_zip]at h1
  rw[List.length_append,List.length_append,List.length_map]
  omega
 ·exact Nat.zero_le _
noncomputable def cnU(u:UnD)(g:GrD):List CnD:=(g.pts.zip (allD u g).at').flatMap λx=>ptCn u (allD u g).tys x.1 x.2
noncomputable def ofD(u:UnD)(fn:Int):List CnD×Int:=
 if(zN (zM u fn (-1))).2≠0 then([],(zN (zM u fn (-1))).2)else match u.fs[fn.toNat]? with
 |none=>([],0)
 |some g=>(ddL (cnU u g),0)
theorem adW{u:UnD}{g:GrD}{fn:Nat}(hM:MayU u)(hH:HeadU u fn g)(hpt:∀p∈g.pts,zL u g p=true)(hrg:∀i (h:i<(allD u g).at'.length),-1≤(allD u g).at'[i]):∀n:Nat,((g.pts.zip (allD u g).at').take n).length≤n∧(((g.pts.zip (allD u g).at').take n).flatMap λx=>ptCn u (allD u g).tys x.1 x.2).length≤928*n:=by
 intro n
 refine⟨List.length_take_le _ _,?_⟩
 induction n with
 |zero=>simp
 |succ n ih=>
  by_cases hn:n<(g.pts.zip (allD u g).at').length
  ·rw[kG hn,List.length_append]
   have hn2:=hn
   rw[List.length_zip]at hn2
   have:=agC (a:=(allD u g).at'[n]'(by omega)) hM hH (hpt (g.pts[n]'(by omega)) (List.getElem_mem _)) (hrg n (by omega))
   rw[List.getElem_zip]
   dsimp only
   omega
  ·rw[List.take_of_length_le (by omega)]at ih⊢
   omega
theorem JR{u:UnD}{fn:Int}{v:Value}{w:World}{r:Gh}{K:Value→World→Prop}(hr:Holds r w)(hu:UnG r v u)
  (h:∀v' w',Ext w w'→w'.ownsRow w.heap.size 36 2 v' (ofD u fn).1.length (cns (ofD u fn).1)→K (.tuple #[v',.int .i64 (ofD u fn).2]) w'):zd Tryz.prog Tryz.ky #[v,.int .i64 fn] w K:=by
 refine Tryz.ae5 ?_
 unfold Tryz.V3
 have hu0:=hu
 obtain⟨p0,cap0,vf,rfl,_,_,hst,hsl,hfn⟩:=hu
 obtain⟨qf,capf,rfl,_,_⟩:=hfn.sl.shape
 have S:=St.start hr
 refine S.box λb2 w1 S=>?_
 have S:StX noX w r w1 [.cell b2 [.slice p0 u.ss.length cap0,.slice qf u.fs.length capf,.int .i64 u.mn] 25]:=S
 refine S.ldB (b:=b2) ?_ rfl
 refine aaZ S.holds hu0 λv3 s w4 e4 n4 hd=>?_
 obtain⟨S,_,_⟩:=S.tell e4 n4
 have hE:ofD u fn=if (zN (zM u fn (-1))).2≠0 then([],(zN (zM u fn (-1))).2)else match u.fs[fn.toNat]? with
  |none=>([],0)
  |some g=>(ddL (cnU u g),0):=rfl
 have hfs:=Jt (u:=u) (fn:=fn)
 generalize (zN (zM u fn (-1))).2=e at hE hfs⊢
 generalize (zN (zM u fn (-1))).1=d at hd hfs
 obtain⟨q1,c1,q2,c2,rfl,g1,g2⟩:=hd.shape
 refine gS_ ?_
 refine S.al λb6 w5 S=>?_
 refine S.stB (b:=b6) λw6 S=>?_
 refine gp_ ?_
 refine zj (λhne=>?_) (λheq=>?_)
 ·rw[if_pos hne]at hE
  rw[hE]at h
  have S:=S.ownNil 36 2
  exact h _ _ S.ext (S.give (.slice none 0 0))
 have heq:e=0:=by omega
 subst heq
 obtain⟨hM,hf0,hlt,hdE,hct⟩:=hfs rfl
 subst hdE
 rw[if_neg (by omega),gqg hlt]at hE
 rw[hE]at h
 have hH:=hM.hd hlt
 have hpt:=hM.pts _ (List.getElem_mem hlt)
 have hrg:=λ(i:Nat) (hi:i<(allD u u.fs[fn.toNat]).at'.length)=>ZB (g:=u.fs[fn.toNat]) hM hlt hct hi
 obtain⟨bf,of,cf,hqE,hcf,hgc,hfo⟩:=hfn.sl.get (by decide) hlt
 have hp24:=hH.pt1024
 generalize u.fs[fn.toNat]=g at hgc hH hpt hrg h hd g1 g2 S hct hp24
 have hlen:(allD u g).at'.length=g.pts.length:=(yj).2
 obtain⟨vo,vt,vn,vp,rfl,m1,m2,m3,m4⟩:=hgc
 obtain⟨qp,capp,rfl,_,_⟩:=m4.sl.shape
 cases hqE
 refine S.al λb8 w7 S=>?_
 refine S.mkMapP λbm w8 S=>?_
 refine S.al λb9 w9 S=>?_
 refine S.stB (b:=b9) λw10 S=>?_
 refine ZA (b:=b8) S λb11 w11 e11 S=>?_
 refine S.al λb10 w12 S=>?_
 refine S.stB (b:=b10) λw13 S=>?_
 have S:StX noX w ((r.or s).or (Go.Sh.one b11 [.pointer (some ⟨b8,0,none⟩)] 126)) w13 [.cell b10 [.func (.func Tryz.yv) #[] #[.pointer (some ⟨b11,0,none⟩)]] 124,.cell b9 [.map (some bm)] 122,.obj bm (k9 []),.cell b8 [.slice none 0 0] 28,
  .cell b6 (rgL (allD u g).lv (allD u g).pt (allD u g).ct (.slice q1 (allD u g).tys.length c1) (.slice q2 (allD u g).at'.length c2)) 74,.cell b2 [.slice p0 u.ss.length cap0,.slice (some ⟨bf,of,none⟩) u.fs.length capf,.int .i64 u.mn] 25]:=S
 have S:=(S.frzAt b10).frzAt b9
 have S:=S.ownNil 36 2
 generalize hρ:((((r.or s).or (Go.Sh.one b11 [.pointer (some ⟨b8,0,none⟩)] 126)).or (Go.Sh.one b10 [.func (.func Tryz.yv) #[] #[.pointer (some ⟨b11,0,none⟩)]] 124)).or (Go.Sh.one b9 [.map (some bm)] 122))=ρ at S
 have l1:Le r ρ:=by rw[← hρ];infer_instance
 have l2:Le s ρ:=by rw[← hρ];infer_instance
 have l3:Le (Go.Sh.one b11 [.pointer (some ⟨b8,0,none⟩)] 126) ρ:=by rw[← hρ];infer_instance
 have l4:Le (Go.Sh.one b10 [.func (.func Tryz.yv) #[] #[.pointer (some ⟨b11,0,none⟩)]] 124) ρ:=by rw[← hρ];infer_instance
 have l5:Le (Go.Sh.one b9 [.map (some bm)] 122) ρ:=by rw[← hρ];infer_instance
 have hT:=al0 (X:=noX) (w0:=w) (r:=ρ) (b8:=b8) (b9:=b9) (b10:=b10) (bm:=bm) (xP (c:=[.map (some bm)]) (T:=122) rfl) (xP (c:=[.func (.func Tryz.yv) #[] #[.pointer (some ⟨b11,0,none⟩)]]) (T:=124) rfl) (adT (q:=ρ) (b:=b8) (X:=noX) (w0:=w))
 have S:StX noX w ρ w13 (ofL b8 bm ((.slice none 0 0,[]),[])++[.cell b6 (rgL (allD u g).lv (allD u g).pt (allD u g).ct (.slice q1 (allD u g).tys.length c1) (.slice q2 (allD u g).at'.length c2)) 74,.cell b2 [.slice p0 u.ss.length cap0,.slice (some ⟨bf,of,none⟩) u.fs.length capf,.int .i64 u.mn] 25]):=S.permO (.cons _ (.swap _ _ _))
 have S:StX noX w ρ w13 [.row (.slice none 0 0) 36 2 0 [],.cell b8 [.slice none 0 0] 28,.obj bm (k9 []),.cell b6 (rgL (allD u g).lv (allD u g).pt (allD u g).ct (.slice q1 (allD u g).tys.length c1) (.slice q2 (allD u g).at'.length c2)) 74,.cell b2 [.slice p0 u.ss.length cap0,.slice (some ⟨bf,of,none⟩) u.fs.length capf,.int .i64 u.mn] 25]:=S
 refine gg_ ?_
 refine zg (v:=.slice qp g.pts.length capp) (by simpa using S.at ((hfo 6 _ rfl).up (s:=ρ))) ?_
 refine gg_ ?_
 have hzl:(g.pts.zip (allD u g).at').length=g.pts.length:=by rw[List.length_zip];omega
 refine zi (ι:=Nat) (λi=>[.int .i64 (i:Nat)]) (λi w'=>i≤g.pts.length∧∃s:OfS,ofJ s (((g.pts.zip (allD u g).at').take i).flatMap λx=>ptCn u (allD u g).tys x.1 x.2)∧StX noX w ρ w' (ofL b8 bm s++[.cell b6 (rgL (allD u g).lv (allD u g).pt (allD u g).ct (.slice q1 (allD u g).tys.length c1) (.slice q2 (allD u g).at'.length c2)) 74,.cell b2 [.slice p0 u.ss.length cap0,.slice (some ⟨bf,of,none⟩) u.fs.length capf,.int .i64 u.mn] 25])) (λi=>g.pts.length-i) 0 rfl ⟨Nat.zero_le _,((.slice none 0 0,[]),[]),ak4,S⟩ ?_
 repeat clear S
 rintro i dd w14 ⟨hi,so,hJ,S⟩ K4 hK4
 rw[gdz]
 have hfew:=(adW hM hH hpt (λi hi=>(hrg i hi).1) i).2
 refine gp_ ?_
 refine zj (λhlti=>?_) (λhge=>?_)
 ·have hlti:i<g.pts.length:=by omega
  obtain⟨bp,op,cp,hpE,hcp,hpg,hpo⟩:=m4.sl.get (by decide) hlti
  obtain⟨x1,x2,x3,x4,x5,y1,y2,y3,y4,y5,rfl,hpg0⟩:=qw hpg
  rw[hpE]
  refine gg_ ?_
  refine zn (n:=21) hcp (λj v hj=>by simpa using S.at ((hpo j v hj).up (s:=ρ))) ?_
  refine S.al λb12 w15 S=>?_
  refine S.stB (b:=b12) λw16 S=>?_
  have S:StX noX w ρ w16 [.cell b12 (ptL g.pts[i] x1 x2 x3 x4 x5 y1 y2 y3 y4 y5) 96,.row so.1.1 36 2 so.1.2.length (cns so.1.2),.cell b8 [so.1.1] 28,.obj bm (k9 so.2),.cell b6 (rgL (allD u g).lv (allD u g).pt (allD u g).ct (.slice q1 (allD u g).tys.length c1) (.slice q2 (allD u g).at'.length c2)) 74,.cell b2 [.slice p0 u.ss.length cap0,.slice (some ⟨bf,of,none⟩) u.fs.length capf,.int .i64 u.mn] 25]:=S
  refine S.ldB (b:=b2) ?_ rfl
  refine S.ldB (b:=b6) ?_ rfl
  refine S.ldB (b:=b12) ?_ rfl
  refine gp_ ?_
  have S:StX noX w ρ w16 (ofL b8 bm so++(.cell b12 (ptL g.pts[i] x1 x2 x3 x4 x5 y1 y2 y3 y4 y5) 96::[.cell b6 (rgL (allD u g).lv (allD u g).pt (allD u g).ct (.slice q1 (allD u g).tys.length c1) (.slice q2 (allD u g).at'.length c2)) 74,.cell b2 [.slice p0 u.ss.length cap0,.slice (some ⟨bf,of,none⟩) u.fs.length capf,.int .i64 u.mn] 25])):=S.permO (List.perm_middle (l₁:=ofL b8 bm so))
  have hii:((i:Nat):Int).toNat=i:=tnc i
  refine X3 (fn:=fn.toNat) (p:=g.pts[i]) (u:=u) (g:=g) (q:=(i:Int)) (a:=(allD u g).at'[i]'(by omega)) hT hM hH (hpt _ (List.getElem_mem hlti)) ⟨_,_,_,rfl⟩ (UnG.up hu0) (RgG.up hd) (PtG.up hpg0) (by omega) (by rw[hii];omega) (by simp only[hii]) (hrg i (by omega)).1 (hrg i (by omega)).2 hJ (by omega) S λs2 w17 hJ2 S=>?_
  refine gp_ ?_
  refine hK4 (i+1) _ ⟨hlti,s2,?_,(S.permO (List.perm_middle (l₁:=ofL b8 bm s2)).symm).tl⟩ (by omega)
  rw[kG (by omega),List.getElem_zip]
  exact hJ2
 ·obtain rfl:i=g.pts.length:=by omega
  rw[List.take_of_length_le (by omega)]at hJ
  obtain⟨⟨v,l⟩,Mp⟩:=so
  have hl:l=ddL (cnU u g):=hJ.1
  have S:StX noX w ρ w14 [.row v 36 2 l.length (cns l),.cell b8 [v] 28,.obj bm (k9 Mp),.cell b6 (rgL (allD u g).lv (allD u g).pt (allD u g).ct (.slice q1 (allD u g).tys.length c1) (.slice q2 (allD u g).at'.length c2)) 74,.cell b2 [.slice p0 u.ss.length cap0,.slice (some ⟨bf,of,none⟩) u.fs.length capf,.int .i64 u.mn] 25]:=S
  refine S.ld (b:=b8) ?_
  rw[hl]at S
  exact h _ _ S.ext (S.give v)
theorem V8{u:UnD}{fn:Int}{v:Value}{w:World}{r:Gh}{K:Value→World→Prop}(hr:Holds r w)(hu:UnG r v u)
  (h:∀v' s w',Ext w w'→New w s w'→SlG 2 s CnC v' (ofD u fn).1→K (.tuple #[v',.int .i64 (ofD u fn).2]) w'):zd Tryz.prog Tryz.ky #[v,.int .i64 fn] w K:=by
 refine JR hr hu λv' w' e hw=>?_
 have S:=(St.start hr).take e hw
 obtain⟨s3,T,hs,_,ha3⟩:=S.doneRow (l:=(ofD u fn).1) ke (by decide) rfl
 exact h _ s3 _ T.ext (StX.newOf (q:=s3) T λb o ho=>(ha3 b o ho).resolve_right id) hs
theorem ajb{l:List CnD}{n:Int}:Js l n=VV l n:=by
 rw[Bool.eq_iff_iff,Xr,Js,Bool.not_eq_true',List.any_eq_false]
 refine forall_congr' λc=>forall_congr' λhc=>?_
 rw[aij,Bool.or_eq_true,decide_eq_true_eq,decide_eq_true_eq]
 omega
noncomputable def frD(l:List CnD)(ct a:Int):List Int×Int:=if (((ct<0∨512<ct)∨a<0)∨ct≤a)∨Js l ct=false then([],2)else(upL l ct.toNat a,0)
theorem ak5{l:List CnD}{n:Nat}{a:Int}{out:List Int}(hl:VV l n=true)(h:UpS l n a out out.length):jl out=upL l n a:=by
 refine Jl ?_ acL λx=>?_
 ·have hp:(jl out).Pairwise (λa b=>decide (a≤b)=true):=List.pairwise_mergeSort (λa b c h1 h2=>by simp only[decide_eq_true_eq]at *;omega) (λa b=>by simp only[Bool.or_eq_true,decide_eq_true_eq];omega) out
  have hn:(jl out).Nodup:=(List.mergeSort_perm out _).nodup_iff.2 h.nd
  rw[List.pairwise_iff_getElem]at hp⊢
  intro i j hi hj hij
  have h1:=hp i j hi hj hij
  have h2:=(List.pairwise_iff_getElem.1 hn) i j hi hj hij
  simp only[decide_eq_true_eq]at h1
  omega
 ·rw[← h.end hl]
  exact List.mem_mergeSort
theorem adX{l:List CnD}{ct a:Int}{v:Value}{w:World}{r:Gh}{K:Value→World→Prop}(hr:Holds r w)(hl:SlG 2 r CnC v l)(hb:l.length≤1000000)
  (h:∀v' s w',Ext w w'→New w s w'→SlG 1 s xD v' (frD l ct a).1→K (.tuple #[v',.int .i64 (frD l ct a).2]) w'):zd Tryz.prog Tryz.Zm #[v,.int .i64 ct,.int .i64 a] w K:=by
 refine Tryz.acV ?_
 unfold Tryz.QY
 have S:=St.start hr
 obtain⟨p,cap,rfl,_,_⟩:=hl.shape
 have hE:frD l ct a=if (((ct<0∨512<ct)∨a<0)∨ct≤a)∨Js l ct=false then([],2)else(upL l ct.toNat a,0):=rfl
 refine gp_ ?_
 refine zk (c:=decide (ct>512)) (λ_ K2 hK2=>by refine gp_ ?_;exact hK2) ?_
 refine zk (c:=decide (a<0)) (λ_ K2 hK2=>by refine gp_ ?_;exact hK2) ?_
 refine zk (c:=decide (a≥ct)) (λ_ K2 hK2=>by refine gp_ ?_;exact hK2) ?_
 refine yO (c:=!Js l ct) (λ_ K2 hK2=>?_) λw5 e5=>?_
 ·refine Xx S.holds hl (by omega) λw5 e5=>?_
  refine gp_ ?_
  exact hK2 _ e5
 have S:=S.go e5
 refine c_b (λhbad=>?_) (λhgood=>?_)
 ·have hE:frD l ct a=([],2):=by
   rw[hE,if_pos]
   simp only[Bool.or_eq_true,decide_eq_true_eq,Bool.not_eq_true']at hbad
   exact hbad
  rw[hE]at h
  exact h _ nothing _ S.ext New.nothing SlG.nil
 simp only[Bool.or_eq_false_iff,decide_eq_false_iff_not,Bool.not_eq_false']at hgood
 obtain⟨⟨⟨⟨k1,k2⟩,k3⟩,k4⟩,k5⟩:=hgood
 have hE:frD l ct a=(upL l ct.toNat a,0):=by rw[hE,if_neg];rw[k5];simp;omega
 rw[hE]at h
 obtain⟨n,rfl⟩:∃n:Nat,ct=(n:Int):=⟨ct.toNat,by omega⟩
 rw[tnc]at h
 rw[ajb]at k5
 clear hE
 refine S.lit (e:=3) (cs:=[.int .i64 a]) (by kernel_rfl) λb6 w6 S=>?_
 have S:StX noX w r w6 [.row (.slice (some ⟨b6,0,none⟩) 1 1) 3 1 1 (ints [a])]:=S.toRow 1 1 rfl (by decide)
 refine zi (ι:=(Value×List Int)×Nat) (λi=>[i.1.1,.int .i64 (i.2:Nat)]) (λi w'=>UpS l n a i.1.2 i.2∧StX noX w r w' [.row i.1.1 3 1 i.1.2.length (ints i.1.2)]) (λi=>n-i.2) ((.slice (some ⟨b6,0,none⟩) 1 1,[a]),0) rfl ⟨UpS.start (by omega),S⟩ ?_
 repeat clear S
 rintro⟨⟨v,out⟩,i⟩ d w7 ⟨hU,S⟩ K4 hK4
 simp only[gdz,gds]
 have hU:UpS l n a out i:=hU
 have S:StX noX w r w7 [.row v 3 1 out.length (ints out)]:=S
 have hfew:=hU.few
 have hile:=hU.le
 obtain⟨pv,capv,hv,_⟩:=S.rowS v
 rw[hv]
 refine gp_ ?_
 refine gp_ ?_
 rw[← hv]
 refine zj (λhlt=>?_) (λhge=>?_)
 ·have hlt:i<out.length:=by omega
  refine gp_ ?_
  refine zi (ι:=(Value×List Int)×Nat) (λj=>[j.1.1,.int .i64 (j.2:Nat)]) (λj w'=>UpS l n a j.1.2 i∧i<j.1.2.length∧j.2≤l.length∧(∀k (hk:k<l.length),k<j.2→j.1.2[i]? = some l[k].2→l[k].1∈j.1.2)∧StX noX w r w' [.row j.1.1 3 1 j.1.2.length (ints j.1.2)]) (λj=>l.length-j.2) ((v,out),0) rfl ⟨hU,hlt,Nat.zero_le _,λk hk h0=>absurd h0 (Nat.not_lt_zero _),S⟩ ?_
  repeat clear S
  clear hv hfew hile hlt hU
  rintro⟨⟨v,out⟩,j⟩ d w8 ⟨hU,hlt,hjl,hdn,S⟩ K5 hK5
  simp only[gdz,gds]
  have hU:UpS l n a out i:=hU
  have hlt:i<out.length:=hlt
  have hjl:j≤l.length:=hjl
  have hdn:∀k (hk:k<l.length),k<j→out[i]? = some l[k].2→l[k].1∈out:=hdn
  have S:StX noX w r w8 [.row v 3 1 out.length (ints out)]:=S
  have hfew:=hU.few
  refine gp_ ?_
  refine zj (λhltj=>?_) (λhgej=>?_)
  ·have hltj:j<l.length:=by omega
   have hjx:=Xr.1 k5 _ (List.getElem_mem hltj)
   refine zo (λx w'=>∃v' out',x=[v']∧UpS l n a out' i∧i<out'.length∧(∀k (hk:k<l.length),k<j+1→out'[i]? = some l[k].2→l[k].1∈out')∧StX noX w r w' [.row v' 3 1 out'.length (ints out')]) (λK3 hK3=>?_) ?_
   ·obtain⟨b,off,hpE,_,_,_,hcell⟩:=Z3 hl hltj
    rw[hpE]
    refine gg_ ?_
    refine zn (n:=2) rfl (λj v hj=>by rw[tnc];exact S.at (hcell j v hj)) ?_
    refine S.al λb11 w9 S=>?_
    refine S.stB (b:=b11) λw10 S=>?_
    have S:=S.go (Ext.drew _)
    have S:StX noX w r w10.drew [.cell b11 [.int .i64 l[j].1,.int .i64 l[j].2] 36,.row v 3 1 out.length (ints out)]:=S
    obtain⟨s,T,hs,_,_⟩:=(S.permO (.swap _ _ _)).doneRow (l:=out) Qq (by decide) rfl
    obtain⟨pv,capv,hv,_⟩:=hs.shape
    have hs0:=hs
    rw[hv]at hs0
    obtain⟨bo,oo,hpo,_,hco⟩:=vi hs0 hlt
    refine gg_ ?_
    rw[hv,hpo]
    refine gp_ ?_
    refine zg (v:=.int .i64 out[i]) (by simpa using T.at (hco.up (s:=r.or s))) ?_
    rw[← hpo,← hv]
    refine gp_ ?_
    refine zh (c:=!decide (l[j].1∈out)) (λhb K2 hK2=>?_) ?_
    ·refine gg_ ?_
     refine adQ T.holds hs.cells (by simp only[maxLen];omega) ?_
     refine gp_ ?_
     exact hK2
    refine c_b (λhb=>?_) (λhb=>?_)
    ·simp only[Bool.and_eq_true,decide_eq_true_eq,Bool.not_eq_true',decide_eq_false_iff_not]at hb
     obtain⟨hb1,hb2⟩:=hb
     have hU2:=hU.add k5 (List.getElem_mem hltj) (by rw[hb1];exact List.getElem_mem hlt) hb2
     refine gg_ ?_
     refine S.lit (e:=3) (cs:=[.int .i64 l[j].1]) (by kernel_rfl) λb12 w12 S=>?_
     refine S.ap (v:=v) (m':=1) (Sl.blk (S.blk b12)) (λv4 w13 S=>?_) (by omega)
     refine hK3 _ _ ⟨v4,out++[l[j].1],rfl,hU2,by rw[List.length_append];omega,λk hk hkj hx=>?_,?_⟩
     ·rw[List.getElem?_append_left hlt]at hx
      rcases Nat.lt_or_ge k j with h1|h1
      ·exact List.mem_append_left _ (hdn k hk h1 hx)
      ·obtain rfl:k=j:=by omega
       exact List.mem_append_right _ (List.mem_singleton.2 rfl)
     ·have hi2:ints (out++[l[j].1])=ints out++[.int .i64 l[j].1]:=by rw[ints,List.map_append];rfl
      rw[hi2,List.length_append,List.length_singleton]
      exact S.tl.tl
    ·refine hK3 _ _ ⟨v,out,rfl,hU,hlt,λk hk hkj hx=>?_,S.tl⟩
     rcases Nat.lt_or_ge k j with h1|h1
     ·exact hdn k hk h1 hx
     ·obtain rfl:k=j:=by omega
      rw[gqg hlt]at hx
      have hx:out[i]=l[k].2:=by simpa using hx
      rw[hx]at hb
      simpa using hb
   ·repeat clear S
    rintro _ w9 ⟨v',out',rfl,hU',hlt',hdn',S⟩ d
    rw[gdz]
    refine gp_ ?_
    exact hK5 ((v',out'),j+1) _ ⟨hU',hlt',hltj,hdn',S⟩ (by show l.length-(j+1)<l.length-j;omega)
  ·obtain rfl:j=l.length:=by omega
   have hn:=hU.next hlt λc hc hx=>by
    obtain⟨k,hk,rfl⟩:=List.getElem_of_mem hc
    exact hdn k hk hk hx
   refine gp_ ?_
   exact hK4 ((v,out),i+1) _ ⟨hn,S⟩ (by show n-(i+1)<n-i;omega)
 ·obtain rfl:i=out.length:=by omega
  refine ae0 S (by show out.length<4611686018427387904;omega) λw9 S=>?_
  obtain⟨s,T,hs,_,ha⟩:=S.doneRow (l:=jl out) Qq (by decide) (by rw[ZY])
  rw[ak5 k5 hU]at hs
  exact h _ s _ T.ext (StX.newOf (q:=s) T λb o ho=>(ha b o ho).resolve_right id) hs
noncomputable def Ju(R:List ki)(x:ki):Bool:=!(BM.mayB x.1 x.2)||decide (x.1≠(R.headD (0,[])).1)
def agD(R:List ki)(a:Int):ki:=R.getD a.toNat (0,[])
def Jv(R:List ki)(c:CnD):List Nat:=lackL (agD R c.1).1 (agD R c.1).2 (agD R c.2).2
theorem ahH{R:List ki}{a:Int}(h:a.toNat<R.length):agD R a=R[a.toNat]:=by
 rw[agD,List.getD_eq_getElem?_getD,gqg h,Option.getD_some]
theorem ail{R:List ki}{b3:Nat}{p:Option Addr}{cap:Nat}{x:ki}{c:List Value}{w:World}{r:Gh}{K:Value→World→Prop}(hr:Holds r w)(h3:Ob r λw=>w.cell? ⟨b3,0,none⟩=some (.slice p R.length cap))(hR:SlG 2 r (RwbC r) (.slice p R.length cap) R)(hn:R≠[])
  (hx:RwbC r c x) (h:∀w',Ext w w'→K (.bool (Ju R x)) w'):zC Tryz.prog (.func (.func Tryz.ZP) #[] #[.pointer (some ⟨b3,0,none⟩)]) #[.agg c.toArray] w K:=by
 refine Q7 (by kernel_rfl) ?_
 refine Tryz.J4 ?_
 unfold Tryz.Z1
 have hx0:=hx
 obtain⟨q,capq,rfl,_⟩:=hx
 have hl0:0<R.length:=List.length_pos_iff.2 hn
 have S:=St.start hr
 refine S.box λb2 w1 S=>?_
 have S:=S.go (Ext.drew _)
 have S:StX noX w r _ [.cell b2 [.int .i64 x.1,.slice q x.2.length capq] 48]:=S
 refine S.ldB (b:=b2) ?_ rfl
 refine YN (W:=x.1) (ws:=x.2) S.holds hx0 λw3 e3=>?_
 have S:=S.go e3
 refine gp_ ?_
 have hh:(R.headD (0,[])).1=R[0].1:=by rw[List.headD_eq_head?_getD,List.head?_eq_getElem?,gqg hl0,Option.getD_some]
 refine zk (c:=decide (x.1≠(R.headD (0,[])).1)) (λ_ K2 hK2=>?_) ?_
 ·obtain⟨b,off,c,hE,hcl,hcR,hcell⟩:=hR.get (by decide) hl0
  obtain⟨pw,cw,rfl,_⟩:=hcR
  rw[hh]at hK2
  refine gg_ ?_
  refine zg (S.at h3) ?_
  rw[hE]
  refine gg_ ?_
  refine zg (v:=.int .i64 R[0].1) (by simpa using S.at (hcell 0 _ rfl)) ?_
  refine gp_ ?_
  exact hK2
 exact h _ S.ext
theorem abM{R:List ki}{l:List CnD}{v vr:Value}{w:World}{r:Gh}{K:Value→World→Prop}(hr:Holds r w)(hl:SlG 2 r CnC v l)(hb:l.length≤1000000)(hR:SlG 2 r (RwbC r) vr R)(hRb:R.length≤1000000)(hT:TabG r)
  (h1:R.any (Ju R)=true∨Js l R.length=false→∀w',Ext w w'→K (.tuple #[.int .i64 0,.int .i64 0,.bool false,.int .i64 2]) w')
  (h2:R.any (Ju R)=false→VV l R.length=true→∀(i:Nat)(hi:i<l.length),(∀k (hk:k<l.length),k<i→Jv R l[k]=[])→Jv R l[i]≠[]→∀w',Ext w w'→K (.tuple #[.int .i64 (i:Nat),.int .i64 ((Jv R l[i]).headD 0:Nat),.bool false,.int .i64 0]) w')
  (h3:R.any (Ju R)=false→VV l R.length=true→(∀k (hk:k<l.length),Jv R l[k]=[])→∀w',Ext w w'→K (.tuple #[.int .i64 0,.int .i64 0,.bool true,.int .i64 0]) w'):
  zd Tryz.prog Tryz.jQ #[v,vr] w K:=by
 refine Tryz.aaG ?_
 unfold Tryz.Xu
 obtain⟨p,cap,rfl,_,_⟩:=hl.shape
 obtain⟨pr,capr,rfl,_,_⟩:=hR.shape
 have S:=St.start hr
 refine S.box λb3 w1 S=>?_
 have S:StX noX w r w1 [.cell b3 [.slice pr R.length capr] 44]:=S
 have S:=S.frzAt b3
 have hT:TabG (r.or (Go.Sh.one b3 [.slice pr R.length capr] 44)):=hT.up
 have hl:SlG 2 (r.or (Go.Sh.one b3 [.slice pr R.length capr] 44)) CnC (.slice p l.length cap) l:=hl.cells
 have hR:SlG 2 (r.or (Go.Sh.one b3 [.slice pr R.length capr] 44)) (RwbC (r.or (Go.Sh.one b3 [.slice pr R.length capr] 44))) (.slice pr R.length capr) R:=hR.up' inferInstance λ_ _ h=>h.up
 have hc3:Ob (r.or (Go.Sh.one b3 [.slice pr R.length capr] 44)) λw=>w.cell? ⟨b3,0,none⟩=some (.slice pr R.length capr):=xP (c:=[.slice pr R.length capr]) (T:=44) rfl
 generalize r.or (Go.Sh.one b3 [.slice pr R.length capr] 44)=ρ at S hT hl hR hc3
 refine zg (S.at hc3) ?_
 refine gp_ ?_
 refine VX (f:=Ju R) S.holds hR (by omega) (λx hx c w K hr hc h=>ail hr hc3 hR (List.ne_nil_of_mem hx) hc h) λw2 e2=>?_
 have S:=S.go e2
 refine yO (c:=!Js l R.length) (λ_ K2 hK2=>?_) λw5 e5=>?_
 ·refine zg (S.at hc3) ?_
  refine gp_ ?_
  refine Xx S.holds hl (by omega) λw5 e5=>?_
  refine gp_ ?_
  exact hK2 _ e5
 have S:=S.go e5
 refine c_b (λhbad=>?_) (λhgood=>?_)
 ·refine h1 ?_ _ S.ext
  simpa using hbad
 simp only[Bool.or_eq_false_iff,Bool.not_eq_false']at hgood
 obtain⟨k1,k2⟩:=hgood
 rw[ajb]at k2
 clear h1
 refine gg_ ?_
 refine zi (ι:=Nat) (λi=>[.int .i64 (i:Nat)]) (λi w'=>i≤l.length∧(∀k (hk:k<l.length),k<i→Jv R l[k]=[])∧StX noX w ρ w' []) (λi=>l.length-i) 0 rfl ⟨Nat.zero_le _,λk hk h0=>absurd h0 (Nat.not_lt_zero _),S⟩ ?_
 repeat clear S
 rintro i d w6 ⟨hi,hno,S⟩ K4 hK4
 rw[gdz]
 refine gp_ ?_
 refine zj (λhlt=>?_) (λhge=>?_)
 ·have hlt:i<l.length:=by omega
  have hix:=Xr.1 k2 _ (List.getElem_mem hlt)
  obtain⟨b,off,hpE,_,_,_,hcell⟩:=Z3 hl hlt
  rw[hpE]
  refine gg_ ?_
  refine zn (n:=2) rfl (λj v hj=>by rw[tnc];exact S.at (hcell j v hj)) ?_
  refine S.al λb9 w7 S=>?_
  refine S.stB (b:=b9) λw8 S=>?_
  have S:=S.go (Ext.drew _)
  have S:StX noX w ρ w8.drew [.cell b9 [.int .i64 l[i].1,.int .i64 l[i].2] 36]:=S
  have ha:l[i].1.toNat<R.length:=by omega
  have hb2:l[i].2.toNat<R.length:=by omega
  obtain⟨ba,oa,ca,hEa,_,hca,hcella⟩:=hR.get (by decide) ha
  obtain⟨bb,ob,cb,hEb,_,hcb,hcellb⟩:=hR.get (by decide) hb2
  have hca0:=hca
  have hcb0:=hcb
  obtain⟨pa,wa,rfl,_⟩:=hca
  obtain⟨pb,wb,rfl,_⟩:=hcb
  refine zg (S.at hc3) ?_
  refine gg_ ?_
  rw[hEa]
  refine gg_ ?_
  refine zn (n:=2) rfl (λj v hj=>S.at (hcella j v hj)) ?_
  refine zg (S.at hc3) ?_
  refine gg_ ?_
  rw[hEb]
  refine gg_ ?_
  refine zn (n:=2) rfl (λj v hj=>S.at (hcellb j v hj)) ?_
  have hma:∀x∈R,BM.mayB x.1 x.2=true∧x.1=(R.headD (0,[])).1:=λx hx=>by
   have:=List.any_eq_false.1 k1 x hx
   rw[Ju]at this
   simpa using this
  obtain⟨m1,m2⟩:=hma _ (List.getElem_mem ha)
  obtain⟨m3,m4⟩:=hma _ (List.getElem_mem hb2)
  refine agw S.holds hca0 hcb0 hT (λhn=>absurd ⟨m1,m3,by rw[m2,m4]⟩ hn) λ_ _ _ w9 e9=>?_
  have S:=S.go e9
  have hlk:lackL R[l[i].1.toNat].1 R[l[i].1.toNat].2 R[l[i].2.toNat].2=Jv R l[i]:=by rw[Jv,ahH ha,ahH hb2]
  rw[hlk]
  unfold agv
  refine gS_ ?_
  refine c_b (λhy=>?_) (λhn=>?_)
  ·exact h2 k1 k2 i hlt hno (by intro e;rw[e]at hy;cases hy) _ S.ext
  ·refine gp_ ?_
   refine hK4 (i+1) _ ⟨hlt,λk hk hki=>?_,S.tl⟩ (by omega)
   rcases Nat.lt_or_ge k i with h|h
   ·exact hno k hk h
   ·obtain rfl:k=i:=by omega
    simpa using hn
 ·obtain rfl:i=l.length:=by omega
  exact h3 k1 k2 (λk hk=>hno k hk hk) _ S.ext
end Go.Proofs
end
section
namespace Go.Proofs.Tryz
open Go.Sh
variable {t0 t1 t2:Value} {w:World} {K:VW}
def JS(t0 t1 t2:Value)(w:World)(K:VW):Prop:=
 pw w (Instr.box 43 t0) λt3 w1=>
 pw w1 (Instr.box 43 t1) λt4 w2=>
 za (λK3=>
 fl w2 t3 43 0 40 λt9=>bt .eql 40 t9 (Value.int .u8 4) λt10=>zc t10 (fl w2 t3 43 2 3 λt13=>fl w2 t4 43 2 3 λt15=>pp (Instr.build 36 #[(0,t13),(1,t15)]) λt16=>pw w2 (Instr.buildSlice 28 1 #[(0,t16)]) λt17 w7=>
 pw w7 (Builtin.append_ #[28,28] 28 #[(Value.slice Option.none 0 0),t17]) λt18 w8=>
 za (λK9=>
 zc t2 (fl w8 t4 43 2 3 λt22=>fl w8 t3 43 2 3 λt24=>pp (Instr.build 36 #[(0,t22),(1,t24)]) λt25=>pw w8 (Instr.buildSlice 28 1 #[(0,t25)]) λt26 w13=>
 pw w13 (Builtin.append_ #[28,28] 28 #[t18,t26]) λt27 w14=>
 K9 [t27] w14) (K9 [t18] w8)) (λs10 _d11 w12=>
 za (λK15=>gIf t2 false (fl w12 t3 43 1 4 λt31=>K15 [t31] w12) (K15 [u_] w12)) (λs16 _d17 w18=>
 zb t2 tr_ (s16.getD 0 u_) λt32=>K3 [t32,(s10.getD 0 u_)] w18))) (K3 [t2,(Value.slice Option.none 0 0)] w2)) (λs4 _d5 w6=>
 za (λK19=>
 fl w6 t3 43 4 41 λt34=>pp (Builtin.len_ #[41] 3 #[t34]) λt35=>bt .gtr 3 t35 (i6 0) λt36=>zc t36 (fl w6.drew t3 43 4 41 λt39=>xl w6.drew 41 t39 (i6 0) 43 λt41=>fl w6.drew t4 43 4 41 λt43=>xl w6.drew 41 t43 (i6 0) 43 λt45=>ca yS #[t41,t45,(s4.getD 0 u_)] w6.drew λt47 w23=>
 pw w23 (Builtin.append_ #[28,28] 28 #[(s4.getD 1 u_),t47]) λt48 w24=>
 K19 [t48] w24) (K19 [(s4.getD 1 u_)] w6)) (λs20 _d21 w22=>
 K (s20.getD 0 u_) w22))
theorem adY(h:JS t0 t1 t2 w K):zd prog yS #[t0,t1,t2] w K:=
 okC false (.s (.r (rz 3 0 10)) (.s (.r (rz 1 0 0)) (.j [2,7] (.s (.r (rz 3 0 4)) (.c (.s (.r (rz 9 0 41232)) (.j [7] (.s (.r (rz 1 0 0)) (.c (.r (rz 9 0 41232)) (.n))) (.r (ra 2 0 0 (.grp 29 false (ri 2 2 4) [31] (rz 2 4 0)))))) (.n))) (.j [7] (.s (.r (rz 4 0 4)) (.c (.r (rz 13 0 10555664)) (.n))) (.s (.r (rz 2 0 0)) (.n)))))) func60 rfl (by kernel_rfl) (by kernel_rfl) h
def X5(t0 t1 t2:Value)(w:World)(K:VW):Prop:=
 pw w (Instr.box 25 t0) λt3 w1=>
 pw w1 (Instr.box 74 t1) λt4 w2=>
 pw w2 (Instr.box 93 t2) λt5 w3=>
 pw w3 (Instr.alloc 43 true (.tuple #[])) λt6 w4=>
 fl w4 t5 93 0 91 λt12=>bt .neq 91 t12 (Value.int .u8 3) λt13=>za (λK5=>gIf t13 true (fl w4 t5 93 0 91 λt16=>bt .neq 91 t16 (Value.int .u8 4) λt17=>K5 [t17] w4) (K5 [u_] w4)) (λs6 _d7 w8=>
 zb t13 (s6.getD 0 u_) fa_ λt18=>zc t18 (pp (Instr.build 43 #[]) λt19=>so w8 43 t6 t19 λw9=>pq w9 (zf 43 t6) λr10=>K (.tuple #[r10,fa_]) w9) (lo w8 25 t3 λt21=>lo w8 74 t4 λt22=>fl w8 t5 93 2 80 λt24=>ca yP #[t21,t22,t24] w8 λt25 w11=>
 pe t25 0 λt26=>pe t25 1 λ_t27=>pe t25 2 λt28=>pw w11 (Instr.alloc 43 true (.tuple #[])) λt8 w12=>
 so w12 43 t8 t26 λw13=>lo w13 43 t8 λt29=>so w13 43 t6 t29 λw14=>pq w14 (zf 43 t6) λr15=>K (.tuple #[r15,t28]) w14))
theorem abN(h:X5 t0 t1 t2 w K):zd prog xt #[t0,t1,t2] w K:=
 okC false (.s (.r (rz 5 0 170)) (.s (.s (.r (ra 4 0 4 (.grp 14 true (ri 3 4 4) [17] (rz 1 7 0)))) (.c (.s (.r (rz 3 0 8)) (.n)) (.n))) (.s (.r (rz 13 0 2622021)) (.s (.r (rz 4 0 33)) (.n))))) func119 rfl (by kernel_rfl) (by kernel_rfl) h
def ac1(t0 t1 t2 t3:Value)(w:World)(K:VW):Prop:=
 pw w (Instr.box 25 t0) λt4 w1=>
 pw w1 (Instr.box 74 t3) λt7 w2=>
 fl w2 t4 25 1 23 λt33=>px 23 t33 t1 λt35=>fl w2 t35 101 6 99 λt37=>xl w2 99 t37 t2 96 λt40=>pw w2 (Instr.alloc 96 true (.tuple #[])) λt9 w3=>
 so w3 96 t9 t40 λw4=>lo w4 25 t4 λt42=>lo w4 74 t7 λt43=>fl w4 t9 96 1 80 λt45=>ca yP #[t42,t43,t45] w4 λt46 w5=>
 pe t46 0 λt47=>pe t46 1 λ_t48=>pe t46 2 λ_t49=>pw w5 (Instr.alloc 43 true (.tuple #[])) λt10 w6=>
 so w6 43 t10 t47 λw7=>za (λK8=>
 fl w7 t9 96 0 90 λt51=>bt .eql 90 t51 (Value.int .u8 1) λt53=>zc t53 (lo w7 25 t4 λt55=>lo w7 74 t7 λt56=>fl w7 t9 96 2 93 λt58=>ca xt #[t55,t56,t58] w7 λt59 w12=>
 pe t59 0 λt60=>pe t59 1 λt61=>pw w12 (Instr.alloc 43 true (.tuple #[])) λt14 w13=>
 so w13 43 t14 t60 λw14=>zc t61 (lo w14 43 t14 λt63=>lo w14 43 t10 λt64=>ca yS #[t63,t64,fa_] w14 λt65 w15=>
 K8 [t65] w15) (K8 [(Value.slice Option.none 0 0)] w14)) (bt .eql 90 t51 (Value.int .u8 5) λt67=>zc t67 (lo w7 25 t4 λt69=>lo w7 74 t7 λt70=>fl w7 t9 96 2 93 λt72=>ca xt #[t69,t70,t72] w7 λt73 w16=>
 pe t73 0 λt74=>pe t73 1 λt75=>pw w16 (Instr.alloc 43 true (.tuple #[])) λt16 w17=>
 so w17 43 t16 t74 λw18=>zc t75 (lo w18.drew 43 t16 λt77=>fl w18.drew t10 43 4 41 λt79=>xl w18.drew 41 t79 (i6 0) 43 λt81=>ca yS #[t77,t81,fa_] w18.drew λt82 w19=>
 K8 [t82] w19) (K8 [(Value.slice Option.none 0 0)] w18)) (bt .eql 90 t51 (Value.int .u8 4) λt84=>zc t84 (lo w7.drew 25 t4 λt85=>lo w7.drew 74 t7 λt88=>lo w7.drew 43 t10 λt90=>ca jP #[t85,t1,t2,t88] w7.drew λt89 w20=>
 Ext w7.drew w20∧
 ca yS #[t89,t90,fa_] w20 λt91 w21=>
 lo w21 25 t4 λt93=>lo w21 74 t7 λt94=>fl w21 t9 96 6 80 λt96=>ca yP #[t93,t94,t96] w21 λt97 w22=>
 pe t97 0 λt98=>pe t97 1 λt99=>pe t97 2 λ_t100=>pw w22 (Instr.alloc 43 true (.tuple #[])) λt18 w23=>
 so w23 43 t18 t98 λw24=>pp (Builtin.len_ #[55] 3 #[t99]) λt102=>bt .sub 3 t102 (i6 1) λt103=>zp [t91,t103] w24 (λs26 _d27 w28 K25=>
 bt .geq 3 (s26.getD 1 u_) (i6 0) λt105=>zc t105 (za (λK29=>
 xl w28 55 t99 (s26.getD 1 u_) 3 λt111=>bt .lss 3 t111 (i6 2) λt112=>zc t112 (K29 [(s26.getD 0 u_)] w28) (za (λK33=>
 lo w28.drew 25 t4 λt114=>lo w28.drew 74 t7 λt115=>pf 96 t9 6 λt116=>fl w28.drew t116 80 0 3 λt118=>pf 96 t9 6 λt119=>fl w28.drew t119 80 1 78 λt121=>pp (Instr.sliceAt 78 t121 none (some (s26.getD 1 u_)) none) λt123=>pp (Instr.build 80 #[(0,t118),(1,t123)]) λt124=>((ca yP #[t114,t115,t124] w28.drew λt125 w37=>
 pe t125 0 λt126=>pe t125 1 λ_t127=>pe t125 2 λ_t128=>pw w37 (Instr.alloc 43 true (.tuple #[])) λt22 w38=>
 Ext w37 w38∧
 so w38 43 t22 t126 λw39=>K33 [t22] w39)∧
 (pw w28.drew (Instr.alloc 43 true (.tuple #[])) λt22_41 w40=>
 Ext w28.drew w40∧
 ca yP #[t114,t115,t124] w40 λt125_43 w42=>
 pe t125_43 0 λt126_44=>pe t125_43 1 λ_t127_45=>pe t125_43 2 λ_t128_46=>so w42 43 t22_41 t126_44 λw47=>K33 [t22_41] w47))) (λs34 _d35 w36=>
 fl w36.drew (s34.getD 0 u_) 43 2 3 λt131=>fl w36.drew t7 74 4 55 λt133=>xl w36.drew 55 t133 t2 3 λt136=>pp (Instr.build 36 #[(0,t131),(1,t136)]) λt137=>pw w36.drew (Instr.buildSlice 28 1 #[(0,t137)]) λt138 w48=>
 pw w48 (Builtin.append_ #[28,28] 28 #[(s26.getD 0 u_),t138]) λt139 w49=>
 xl w49 55 t99 (s26.getD 1 u_) 3 λt143=>bt .eql 3 t143 (i6 3) λt144=>zc t144 (K8 [t139] w49) (K29 [t139] w49)))) (λs30 _d31 w32=>
 bt .sub 3 (s26.getD 1 u_) (i6 1) λt107=>K25 [(s30.getD 0 u_),t107] w32)) (K8 [(s26.getD 0 u_)] w28))) (bt .eql 90 t51 (Value.int .u8 7) λt146=>zc t146 (lo w7 25 t4 λt148=>lo w7 74 t7 λt151=>ca Zn #[t148,t1,t2,t151] w7 λt152 w50=>
 pe t152 0 λt153=>pe t152 1 λt154=>pw w50 (Instr.alloc 43 true (.tuple #[])) λt26 w51=>
 so w51 43 t26 t154 λw52=>zp [(Value.slice Option.none 0 0),(i6 0)] w52 (λs54 _d55 w56 K53=>
 fl w56 t9 96 4 94 λt157=>pp (Builtin.len_ #[94] 3 #[t157]) λt158=>bf .lss 3 (s54.getD 1 u_) t158 λt159=>zc t159 (za (λK57=>
 za (λK61=>
 lo w56.drew 25 t4 λt163=>lo w56.drew 74 t7 λt164=>fl w56.drew t9 96 4 94 λt166=>xl w56.drew 94 t166 (s54.getD 1 u_) 93 λt169=>((ca xt #[t163,t164,t169] w56.drew λt170 w65=>
 pe t170 0 λt171=>pe t170 1 λt172=>pw w65 (Instr.alloc 43 true (.tuple #[])) λt28 w66=>
 Ext w65 w66∧
 so w66 43 t28 t171 λw67=>K61 [t28,t172] w67)∧
 (pw w56.drew (Instr.alloc 43 true (.tuple #[])) λt28_69 w68=>
 Ext w56.drew w68∧
 ca xt #[t163,t164,t169] w68 λt170_71 w70=>
 pe t170_71 0 λt171_72=>pe t170_71 1 λt172_73=>so w70 43 t28_69 t171_72 λw74=>K61 [t28_69,t172_73] w74))) (λs62 _d63 w64=>
 zc (s62.getD 1 u_) (lo w64.drew 43 (s62.getD 0 u_) λt175=>xl w64.drew 41 t153 (s54.getD 1 u_) 43 λt179=>ca yS #[t175,t179,fa_] w64.drew λt180 w75=>
 pw w75 (Builtin.append_ #[28,28] 28 #[(s54.getD 0 u_),t180]) λt181 w76=>
 K57 [t181] w76) (K57 [(s54.getD 0 u_)] w64))) (λs58 _d59 w60=>
 bt .add 3 (s54.getD 1 u_) (i6 1) λt161=>K53 [(s58.getD 0 u_),t161] w60)) (lo w56 43 t26 λt183=>lo w56 43 t10 λt184=>ca yS #[t183,t184,fa_] w56 λt185 w77=>
 pw w77 (Builtin.append_ #[28,28] 28 #[(s54.getD 0 u_),t185]) λt186 w78=>
 fl w78 t4 25 1 23 λt188=>fl w78 t9 96 8 3 λt190=>xl w78 23 t188 t190 101 λt192=>pw w78 (Instr.alloc 101 true (.tuple #[])) λt30 w79=>
 so w79 101 t30 t192 λw80=>zp [t186,(i6 0)] w80 (λs82 _d83 w84 K81=>
 fl w84 t30 101 2 97 λt195=>pp (Builtin.len_ #[97] 3 #[t195]) λt196=>bf .lss 3 (s82.getD 1 u_) t196 λt197=>zc t197 (fl w84.drew t7 74 4 55 λt202=>xl w84.drew 55 t202 t2 3 λt205=>fl w84.drew t30 101 2 97 λt207=>px 97 t207 (s82.getD 1 u_) λt209=>fl w84.drew t209 194 0 3 λt211=>bf .add 3 t205 t211 λt212=>fl w84.drew t7 74 4 55 λt214=>xl w84.drew 55 t214 t2 3 λt217=>fl w84.drew t30 101 2 97 λt219=>px 97 t219 (s82.getD 1 u_) λt221=>fl w84.drew t221 194 1 3 λt223=>bf .add 3 t217 t223 λt224=>pp (Instr.build 36 #[(0,t212),(1,t224)]) λt225=>pw w84.drew (Instr.buildSlice 28 1 #[(0,t225)]) λt226 w85=>
 pw w85 (Builtin.append_ #[28,28] 28 #[(s82.getD 0 u_),t226]) λt227 w86=>
 bt .add 3 (s82.getD 1 u_) (i6 1) λt199=>K81 [t227,t199] w86) (K8 [(s82.getD 0 u_)] w84))))) (K8 [(Value.slice Option.none 0 0)] w7))))) (λs9 _d10 w11=>
 K (s9.getD 0 u_) w11)
theorem ahc{t3:Value}(h:ac1 t0 t1 t2 t3 w K):zd prog YC #[t0,t1,t2,t3] w K:=
 okC false (.s (.r (rz 3 0 10)) (.s (.r (rz 11 0 2688004)) (.s (.r (rz 13 0 2622021)) (.s (.r (rz 1 0 0)) (.j [13] (.s (.r (rz 2 0 4)) (.b (.s (.r (rz 2 0 0)) (.c (.s (.r (rz 11 0 655941)) (.s (.r (rz 1 0 0)) (.c (.r (rz 4 0 37)) (.n)))) (.s (.r (rz 2 0 0)) (.c (.s (.r (rz 11 0 655941)) (.s (.r (rz 1 0 0)) (.c (.r (rz 7 0 2321)) (.n)))) (.s (.r (rz 2 0 0)) (.c (.s (.r (ra 4 0 65 (ra 1 5 1 (ra 1 4 3 (rz 2 6 2))))) (.s (.r (rz 13 0 2622021)) (.s (.r (rz 4 0 0)) (.b (.lp [13,21] (.s (.s (.r (rz 2 0 0)) (.c (.n) (.n))) (.j [13] (.b (.s (.s (.r (rz 5 0 64)) (.c (.n) (.n))) (.j [22] (.r (ra 11 0 16645 (.alt 11 .l (rz 8 12 2816) (ra 1 16 3 (ra 5 11 2 (rz 3 17 2)))))) (.s (.r (rz 12 0 2638096)) (.s (.r (rz 5 0 64)) (.c (.n) (.n))))))) (.r (rz 3 0 0))))))))) (.s (.r (rz 2 0 0)) (.c (.s (.r (rz 11 0 2228801)) (.s (.s (.r (rz 1 0 0)) (.b (.lp [13,27] (.s (.s (.r (rz 5 0 16)) (.c (.n) (.n))) (.j [13] (.b (.j [28,29] (.r (ra 7 0 4165 (.alt 7 .l (rz 6 8 704) (ra 1 11 3 (ra 4 7 2 (rz 2 12 2)))))) (.s (.r (rz 1 0 0)) (.c (.r (rz 9 0 41988)) (.n))))) (.r (rz 3 0 0))))))) (.s (.r (rz 6 0 660)) (.s (.r (rz 8 0 42052)) (.s (.r (rz 1 0 0)) (.b (.lp [13,31] (.s (.s (.r (rz 5 0 16)) (.c (.n) (.n))) (.s (.b (.r (rz 29 0 45106657348305936))) (.r (rz 3 0 0))))))))))) (.n))))))))))) (.s (.r (rz 2 0 0)) (.n))))))) func55 rfl (by kernel_rfl) (by kernel_rfl) h
def Q0(t0 t1 t2 t3:Value)(w:World)(K:VW):Prop:=
 pw w (Instr.box 25 t0) λt4 w1=>
 pw w1 (Instr.box 74 t3) λt7 w2=>
 pw w2 (Instr.alloc 43 true (.tuple #[])) λt9 w3=>
 lo w3 25 t4 λt10=>lo w3 74 t7 λt13=>ca Zl #[t10,t1,t2,t13] w3 λt14 w4=>
 pe t14 0 λt15=>pe t14 1 λt16=>so w4 43 t9 t16 λw5=>pq w5 (zf 43 t9) λr6=>K (.tuple #[t15,r6]) w5
theorem ac2{t3:Value}(h:Q0 t0 t1 t2 t3 w K):zd prog Zn #[t0,t1,t2,t3] w K:=
 okC false (.s (.r (rz 4 0 138)) (.s (.r (rz 9 0 131649)) (.n))) func121 rfl (by kernel_rfl) (by kernel_rfl) h
def aa6(t0 t1 t2:Value)(w:World)(K:VW):Prop:=
 pw w (Instr.box 25 t0) λt3 w1=>
 pw w1 (Instr.box 74 t2) λt5 w2=>
 fl w2 t5 74 2 3 λt14=>pw w2 (Instr.makeSlice 195 t14 t14) λt15 w3=>
 zp [(i6 0)] w3 (λs5 _d6 w7 K4=>
 fl w7 t5 74 2 3 λt18=>bf .lss 3 (s5.getD 0 u_) t18 λt19=>zc t19 (fl w7 t5 74 2 3 λt25=>pw w7 (Instr.makeSlice 144 t25 t25) λt26 w8=>
 px 195 t15 (s5.getD 0 u_) λt27=>so w8 144 t27 t26 λw9=>bt .add 3 (s5.getD 0 u_) (i6 1) λt21=>K4 [t21] w9) (zp [(Value.slice Option.none 0 0),(i6 0)] w7 (λs11 _d12 w13 K10=>
 fl w13 t3 25 1 23 λt30=>px 23 t30 t1 λt32=>fl w13 t32 101 6 99 λt34=>pp (Builtin.len_ #[99] 3 #[t34]) λt35=>bf .lss 3 (s11.getD 1 u_) t35 λt36=>zc t36 (lo w13 25 t3 λt39=>lo w13 74 t5 λt42=>ca YC #[t39,t1,(s11.getD 1 u_),t42] w13 λt43 w14=>
 zp [(s11.getD 0 u_),(i6 0)] w14 (λs16 _d17 w18 K15=>
 pp (Builtin.len_ #[28] 3 #[t43]) λt46=>bf .lss 3 (s16.getD 1 u_) t46 λt47=>zc t47 (za (λK19=>
 px 28 t43 (s16.getD 1 u_) λt52=>fl w18.drew t52 36 0 3 λt54=>px 28 t43 (s16.getD 1 u_) λt57=>fl w18.drew t57 36 1 3 λt59=>bf .neq 3 t54 t59 λt60=>za (λK23=>gIf t60 true (px 28 t43 (s16.getD 1 u_) λt65=>fl w18.drew t65 36 0 3 λt67=>xl w18.drew 195 t15 t67 144 λt69=>px 28 t43 (s16.getD 1 u_) λt72=>fl w18.drew t72 36 1 3 λt74=>xl w18.drew 144 t69 t74 4 λt76=>pp (Op.unary .not t76) λt77=>K23 [t77] w18.drew) (K23 [u_] w18.drew)) (λs24 _d25 w26=>
 zb t60 (s24.getD 0 u_) fa_ λt78=>zc t78 (px 28 t43 (s16.getD 1 u_) λt82=>fl w26.drew t82 36 0 3 λt84=>xl w26.drew 195 t15 t84 144 λt86=>px 28 t43 (s16.getD 1 u_) λt89=>fl w26.drew t89 36 1 3 λt91=>px 144 t86 t91 λt92=>so w26.drew 4 t92 tr_ λw27=>xl w27 28 t43 (s16.getD 1 u_) 36 λt97=>pw w27 (Instr.buildSlice 28 1 #[(0,t97)]) λt98 w28=>
 pw w28 (Builtin.append_ #[28,28] 28 #[(s16.getD 0 u_),t98]) λt99 w29=>
 K19 [t99] w29) (K19 [(s16.getD 0 u_)] w26))) (λs20 _d21 w22=>
 bt .add 3 (s16.getD 1 u_) (i6 1) λt49=>K15 [(s20.getD 0 u_),t49] w22)) (bt .add 3 (s11.getD 1 u_) (i6 1) λt38=>K10 [(s16.getD 0 u_),t38] w18))) (K (s11.getD 0 u_) w13))))
theorem agE(h:aa6 t0 t1 t2 w K):zd prog Qc #[t0,t1,t2] w K:=
 okC false (.s (.r (rz 3 0 10)) (.s (.r (rz 1 0 0)) (.s (.r (rz 4 0 36)) (.s (.s (.r (rz 1 0 0)) (.b (.lp [9] (.s (.s (.r (rz 4 0 16)) (.c (.n) (.n))) (.s (.b (.r (rz 7 0 8768))) (.r (rz 3 0 0))))))) (.s (.s (.r (rz 1 0 0)) (.b (.lp [7,10] (.s (.s (.r (rz 9 0 4112)) (.c (.n) (.n))) (.s (.b (.s (.r (rz 6 0 577)) (.s (.r (rz 1 0 0)) (.b (.lp [7,12] (.s (.s (.r (rz 4 0 0)) (.c (.n) (.n))) (.j [7] (.b (.s (.r (ra 12 0 262400 (.grp 61 true (ri 16 12 285230080) [77] (rz 1 28 0)))) (.c (.s (.r (rz 15 0 553665536)) (.r (rz 8 0 10496))) (.n)))) (.r (rz 3 0 0))))))))) (.r (rz 3 0 0))))))) (.s (.r (rz 2 0 0)) (.n))))))) func53 rfl (by kernel_rfl) (by kernel_rfl) h
def ac3(t0 t1:Value)(w:World)(K:VW):Prop:=
 pw w (Instr.box 25 t0) λt2 w1=>
 lo w1 25 t2 λt9=>ca YA #[t9,t1,(i6 (-1))] w1 λt11 w2=>
 pe t11 0 λt12=>pe t11 1 λt13=>pw w2 (Instr.alloc 74 true (.tuple #[])) λt6 w3=>
 so w3 74 t6 t12 λw4=>bt .neq 3 t13 (i6 0) λt15=>zc t15 (K (.tuple #[(Value.slice Option.none 0 0),t13]) w4) (lo w4 25 t2 λt17=>lo w4 74 t6 λt19=>ca Qc #[t17,t1,t19] w4 λt20 w5=>
 K (.tuple #[t20,(i6 0)]) w5)
theorem ahd(h:ac3 t0 t1 w K):zd prog Q3 #[t0,t1] w K:=
 okC false (.s (.r (rz 3 0 2)) (.s (.r (rz 9 0 40993)) (.s (.s (.r (rz 2 0 0)) (.c (.s (.r (rz 3 0 0)) (.n)) (.n))) (.s (.r (rz 6 0 145)) (.n))))) func14 rfl (by kernel_rfl) (by kernel_rfl) h
def aa7(t0 t1 t2:Value)(w:World)(K:VW):Prop:=
 pw w (Instr.box 25 t0) λt3 w1=>
 bt .lss 3 t2 (i6 0) λt11=>za (λK2=>gIf t11 false (lo w1 25 t3 λt13=>ca Yz #[t13,t1,t2] w1 λt16 w6=>
 pp (Op.unary .not t16) λt17=>K2 [t17] w6) (K2 [u_] w1)) (λs3 _d4 w5=>
 zb t11 tr_ (s3.getD 0 u_) λt18=>zc t18 (K (.tuple #[(Value.slice Option.none 0 0),(i6 2)]) w5) (lo w5 25 t3 λt20=>ca YA #[t20,t1,t2] w5 λt23 w7=>
 pe t23 0 λt24=>pe t23 1 λt25=>pw w7 (Instr.alloc 74 true (.tuple #[])) λt8 w8=>
 so w8 74 t8 t24 λw9=>bt .neq 3 t25 (i6 0) λt27=>zc t27 (K (.tuple #[(Value.slice Option.none 0 0),t25]) w9) (lo w9 25 t3 λt29=>lo w9 74 t8 λt32=>ca YC #[t29,t1,t2,t32] w9 λt33 w10=>
 K (.tuple #[t33,(i6 0)]) w10)))
theorem agF(h:aa7 t0 t1 t2 w K):zd prog Qd #[t0,t1,t2] w K:=
 okC false (.s (.r (rz 3 0 2)) (.s (.s (.r (ra 3 0 0 (.grp 12 false (ri 5 3 129) [17] (rz 1 8 0)))) (.c (.s (.r (rz 2 0 0)) (.n)) (.n))) (.s (.r (rz 10 0 163969)) (.s (.s (.r (rz 2 0 0)) (.c (.s (.r (rz 3 0 0)) (.n)) (.n))) (.s (.r (rz 7 0 577)) (.n)))))) func17 rfl (by kernel_rfl) (by kernel_rfl) h
end Go.Proofs.Tryz
end
section
namespace Go.Proofs
open Go.Sh Go.RowKit
variable {l:List CnD}
theorem abO:∀u∈cns l,u.oneCell'=true:=λu hu=>by
 rw[cns,List.mem_flatMap]at hu
 obtain⟨x,_,hx⟩:=hu
 simp only[List.mem_cons,List.not_mem_nil,or_false]at hx
 rcases hx with rfl|rfl<;>rfl
theorem agG{r:Gh}{w:World}{p:Option Addr}{n cap:Nat}(hr:Holds r w)(h:SlG 2 r CnC (.slice p n cap) l):Sl w p (cns l):=λi v hv=>by
 have hi:i<l.length*2:=by
  have:=(List.getElem?_eq_some_iff.1 hv).1
  rw[QZ]at this;exact this
 have hk:i/2<l.length:=by omega
 obtain⟨b,off,hE,_,_,_,hc⟩:=Z3 h hk
 refine⟨b,off,hE,?_⟩
 have h2:((cns l).drop (i/2*2)).take 2=[.int .i64 l[i/2].1,.int .i64 l[i/2].2]:=ke.2 (i/2) hk
 have h3:(((cns l).drop (i/2*2)).take 2)[i%2]? = some v:=by
  rw[List.getElem?_take,if_pos (by omega),List.getElem?_drop,show i/2*2+i%2=i by omega];exact hv
 rw[h2]at h3
 have:=hc (i%2) v h3 w hr
 rwa[show off+i/2*2+i%2=off+i by omega]at this
theorem ak6{s:Int}{n:Nat}{t:TyD}(h:zr s n t=true)(hk:t.k≠4):t.m=false:=by
 cases n with
 |zero=>cases h
 |succ n=>
  rw[ym]at h
  split at h
  ·simp only[Bool.and_eq_true,Bool.not_eq_true']at h;exact h.1.1.1
  split at h
  ·simp only[Bool.and_eq_true,Bool.not_eq_true']at h;exact h.1.1.1.1
  split at h
  ·simp only[Bool.and_eq_true,Bool.not_eq_true']at h;exact h.1.1.1
  ·first|cases h|(rw[if_neg hk]at h;cases h)
theorem jo{s0:Int}:∀(n:Nat){t u:TyD}{both:Bool}{r:Gh}{w:World}{vt vu:Value}{K:Value→World→Prop},n≤1000→zr s0 n t=true→zr s0 n u=true→bare t=bare u→Holds r w→TyG r vt t→TyG r vu u→
  (∀v' w',Ext w w'→w'.ownsRow w.heap.size 36 2 v' (flowN both n t u).length (cns (flowN both n t u))→K v' w')→zd Tryz.prog Tryz.yS #[vt,vu,.bool both] w K:=by
 intro n
 induction n with
 |zero=>intro t u both r w vt vu K _ h;cases h
 |succ n ih=>
  intro t u both r w vt vu K hn ht hu hb hr gt gu h
  refine Tryz.adY ?_
  unfold Tryz.JS
  obtain⟨p1,cap1,rfl,_,_,hof⟩:=gt
  obtain⟨p2,cap2,rfl,_,_,huf⟩:=gu
  have S:=St.start hr
  refine S.box λb3 w1 S=>?_
  refine S.box λb4 w2 S=>?_
  have S:=S.ownNil 36 2
  have S:StX noX w r w2 [.row (.slice none 0 0) 36 2 0 [],.cell b4 (tyL u p2 cap2) 43,.cell b3 (tyL t p1 cap1) 43]:=S
  refine zo (λx w'=>∃v',x=[.bool (both||t.m),v']∧StX noX w r w' [.row v' 36 2 (xb both t u).length (cns (xb both t u)),.cell b4 (tyL u p2 cap2) 43,.cell b3 (tyL t p1 cap1) 43]) (λK3 hK3=>?_) ?_
  ·refine gg_ ?_
   refine zj (λhk=>?_) (λhk=>?_)
   ·refine gg_ ?_
    refine S.lit (e:=36) (cs:=[.int .i64 t.re,.int .i64 u.re]) (by kernel_rfl) λb7 w7 S=>?_
    refine S.ap (v:=.slice none 0 0) (m':=1) (Sl.blk (S.blk b7)) (λv8 w8 S=>?_) (by omega)
    have S:StX noX w r w8 [.row v8 36 2 1 (cns [(t.re,u.re)]),.cell b4 (tyL u p2 cap2) 43,.cell b3 (tyL t p1 cap1) 43]:=S.tl
    refine zo (λx w'=>∃v',x=[v']∧StX noX w r w' [.row v' 36 2 (xb both t u).length (cns (xb both t u)),.cell b4 (tyL u p2 cap2) 43,.cell b3 (tyL t p1 cap1) 43]) (λK4 hK4=>?_) ?_
    ·refine c_b (λhbo=>?_) (λhbo=>?_)
     ·refine gg_ ?_
      refine S.lit (e:=36) (cs:=[.int .i64 u.re,.int .i64 t.re]) (by kernel_rfl) λb9 w9 S=>?_
      refine S.ap (v:=v8) (m':=1) (Sl.blk (S.blk b9)) (λv10 w10 S=>?_) (by omega)
      have e:xb both t u=[(t.re,u.re),(u.re,t.re)]:=by rw[xb,if_pos hk,if_pos hbo]
      refine hK4 _ _ ⟨v10,rfl,?_⟩
      rw[e]
      exact S.tl
     ·have e:xb both t u=[(t.re,u.re)]:=by rw[xb,if_pos hk,if_neg (by rw[hbo];decide)]
      refine hK4 _ _ ⟨v8,rfl,?_⟩
      rw[e]
      exact S
    ·repeat clear S
     rintro _ w9 ⟨v',rfl,S⟩ d
     refine zk (c:=t.m) (λ_ K2 hK2=>by refine gg_ ?_;exact hK2) ?_
     exact hK3 _ _ ⟨v',rfl,S⟩
   ·have e:xb both t u=[]:=by rw[xb,if_neg hk]
    refine hK3 _ _ ⟨.slice none 0 0,by rw[ak6 ht hk,Bool.or_false],?_⟩
    rw[e]
    exact S
  repeat clear S
  rintro _ w6 ⟨v6,rfl,S⟩ d
  simp only[gdz,gds]
  have hf1:(xb both t u).length≤2:=by
   rw[xb]
   split
   ·split<;>simp
   ·simp
  refine zo (λx w'=>∃v',x=[v']∧StX noX w r w' [.row v' 36 2 (flowN both (n+1) t u).length (cns (flowN both (n+1) t u)),.cell b4 (tyL u p2 cap2) 43,.cell b3 (tyL t p1 cap1) 43]) (λK3 hK3=>?_) ?_
  ·refine gg_ ?_
   rcases ZZ ht hu hb with⟨h1,h2,h3⟩|⟨x,y,h1,h2,h3,h4,h5⟩
   ·refine c_f (by rw[h1];rfl) ?_
    refine hK3 _ _ ⟨v6,rfl,?_⟩
    rw[VT h1 h3]
    rwa[xb,if_neg h3]at S
   ·have l1:t.of.length=1:=by rw[h1];rfl
    have l2:u.of.length=1:=by rw[h2];rfl
    obtain⟨ba,oa,rfl,c,hc,hcell,hx⟩:=NdG.of hof (i:=0) (by omega)
    obtain⟨bb,ob,rfl,c',hc',hcell',hy⟩:=NdG.of huf (i:=0) (by omega)
    have hx:TyG r (.agg c.toArray) x:=by simpa [h1]using hx
    have hy:TyG r (.agg c'.toArray) y:=by simpa [h2]using hy
    refine c_t (by rw[l1];rfl) ?_
    have S:=S.go (Ext.drew _)
    refine gg_ ?_
    refine zn (n:=5) hc (λj v hj=>by simpa using S.at (hcell j v hj)) ?_
    refine gg_ ?_
    refine zn (n:=5) hc' (λj v hj=>by simpa using S.at (hcell' j v hj)) ?_
    refine ih (by omega) h3 h4 h5 S.holds hx hy λv9 w9 e9 h9=>?_
    obtain⟨s9,T,h9,_,_⟩:=(S.take e9 h9).doneRow (l:=flowN (both||t.m) n x y) ke (by decide) rfl
    have hfw:=Zy n (both:=both||t.m) (t:=x) (u:=y)
    obtain⟨p9,cap9,rfl,hp9,_⟩:=h9.shape
    have hsl:=agG (T.holds.le (h:=inferInstance)) h9
    refine T.ap (v:=v6) (m':=(flowN (both||t.m) n x y).length) hsl (λv10 w10 S=>?_) (by omega) QZ hp9 abO
    refine hK3 _ _ ⟨v10,rfl,?_⟩
    have S:StX noX w r w10 _:=S.less (λb o h=>.inl h) (List.Sublist.refl _)
    have ec:cns (flowN both (n+1) t u)=cns (xb both t u)++cns (flowN (both||t.m) n x y):=by
     rw[XZ h1 h2,cns,cns,cns,List.flatMap_append]
    have el:(flowN both (n+1) t u).length=(xb both t u).length+(flowN (both||t.m) n x y).length:=by
     rw[XZ h1 h2,List.length_append]
    rw[ec,el]
    exact S
  ·repeat clear S
   rintro _ w9 ⟨v',rfl,S⟩ d
   rw[gdz]
   exact h _ _ S.ext (S.give v')
theorem JT{s0:Int}(n:Nat){t u:TyD}{both:Bool}{r:Gh}{w:World}{vt vu:Value}{K:Value→World→Prop}(hn:n≤1000)(ht:zr s0 n t=true)(hu:zr s0 n u=true)(hb:bare t=bare u)(hr:Holds r w)(gt:TyG r vt t)(gu:TyG r vu u)
  (h:∀v' s w',Ext w w'→New w s w'→SlG 2 s CnC v' (flowN both n t u)→K v' w'):zd Tryz.prog Tryz.yS #[vt,vu,.bool both] w K:=
 jo n hn ht hu hb hr gt gu λv' w' e hw=>by
  obtain⟨s3,T,hs,_,ha3⟩:=((St.start hr).take e hw).doneRow (l:=flowN both n t u) ke (by decide) rfl
  exact h _ s3 _ T.ext (StX.newOf (q:=s3) T λb o ho=>(ha3 b o ho).resolve_right id) hs
end Go.Proofs
end
section
namespace Go.Proofs
open Go.Sh
theorem ak7{s:Int}{f:Int→Int}:∀(n:Nat){t:TyD},zr s n t=true→t.lay (t.regs.map f)=t.mapR f:=by
 intro n
 induction n with
 |zero=>intro t h;cases h
 |succ n ih=>
  intro t h
  rcases zE h with⟨ho,hk⟩|⟨u,ho,hu,hk⟩
  ·rw[Zq ho,Zu ho,if_neg (by omega),if_neg (by omega)]
  ·rw[qv ho,Zv ho,xw ho,← ih hu]
   by_cases h4:t.k=4
   ·simp[h4]
   ·simp[h4]
theorem agH{t:TyD}{a:Int}(hB:isB t=true):instT a t=t.mapR λk=>a+k:=by
 rw[instT,regsT,hB,if_pos rfl]
 exact ak7 48 hB
theorem JU{a:Int}:∀(n:Nat){t:TyD}{w:World}{r:Gh}{v:Value}{K:Value→World→Prop},t.ht≤n→isB t=true→(∀x∈t.regs,0≤x∧x<8)→(t.regs≠[]→0≤a∧a≤1000)→Holds r w→TyG r v t→
  (∀v' sn w',Ext w w'→New w sn w'→TyG sn v' (t.mapR λk=>a+k)→K v' w')→zd Tryz.prog Tryz.qd #[v,.int .i64 a] w K:=by
 intro n
 induction n with
 |zero=>intro t w r v K h;cases t;simp[TyD.ht]at h
 |succ n ih=>
  intro t w r v K hn hB hreg ha hr hv h
  obtain⟨p,cap,rfl,hp,hc,hof⟩:=hv
  refine Tryz.adJ ?_
  unfold Tryz.JO
  have S:=St.start hr
  refine S.box λb1 w1 S=>?_
  have S:StX noX w r w1 [.cell b1 (tyL t p cap) 43]:=S
  refine S.al λb2 w2 S=>?_
  refine gg_ ?_
  refine S.al λb3 w3 S=>?_
  refine S.stB (b:=b3) λw4 S=>?_
  refine gg_ ?_
  refine S.st (b:=b3) λw5 S=>?_
  refine zo (λ_ w'=>StX noX w r w' [.cell b3 [.int .u8 t.k,.bool t.m,.int .i64 (if t.k=4 then a+t.re else t.re),.int .i64 t.st,.slice none 0 0] 43,.cell b2 yT 43,.cell b1 [.int .u8 t.k,.bool t.m,.int .i64 t.re,.int .i64 t.st,.slice p t.of.length cap] 43]) (λK3 hK3=>?_) ?_
  ·refine gg_ ?_
   refine zj (λhk=>?_) (λhk=>?_)
   ·have hm:=ajC hk
    have:=hreg _ hm
    have:=ha (List.ne_nil_of_mem hm)
    refine gg_ ?_
    refine S.st (b:=b3) λw3 S=>?_
    refine hK3 [] _ ?_
    rw[if_pos hk];exact S
   ·refine hK3 [] _ ?_
    rw[if_neg hk];exact S
  clear S
  rintro _ w6 S d6
  rcases aee hB with ho|⟨u,ho,hu⟩
  ·have hl:t.of.length=0:=by rw[ho];rfl
   rw[Zu ho]at h
   generalize (if t.k=4 then a+t.re else t.re)=re' at S h
   refine zo (λ_ w'=>w'=w6) (λK3 hK3=>?_) ?_
   ·refine gg_ ?_
    refine c_f (by simp[hl]) ?_
    exact hK3 [] _ rfl
   rintro _ _ rfl d7
   refine S.ldB (b:=b3) ?_ rfl
   refine S.stB (b:=b2) λw7 S=>?_
   refine S.ceB (b:=b2) ?_ rfl
   exact h _ nothing _ S.ext New.nothing yp
  ·obtain⟨ba,oa,rfl,c,hc1,hcell,ht⟩:=NdG.of hof (i:=0) (by rw[ho];exact Nat.one_pos)
   have ht:TyG r (.agg c.toArray) u:=by simpa [ho]using ht
   have hl:t.of.length=1:=by rw[ho];rfl
   rw[alE ho]at h
   generalize (if t.k=4 then a+t.re else t.re)=re' at S h
   rw[hl]at S
   refine zo (λ_ w'=>∃b9 sn c',StX noX w (r.or (sn.or (Go.Sh.one b9 c' 43))) w' [.cell b3 [.int .u8 t.k,.bool t.m,.int .i64 re',.int .i64 t.st,.slice (some ⟨b9,0,none⟩) 1 1] 43,.cell b2 yT 43,.cell b1 [.int .u8 t.k,.bool t.m,.int .i64 t.re,.int .i64 t.st,.slice (some ⟨ba,oa,none⟩) 1 cap] 43]∧
    TyG sn (.agg c'.toArray) (u.mapR λk=>a+k)∧Above w (sn.or (Go.Sh.one b9 c' 43))) (λK3 hK3=>?_) ?_
   ·refine gg_ ?_
    refine c_t (by decide) ?_
    refine gg_ ?_
    refine zn (n:=5) hc1 (λj v hj=>by simpa using S.at (hcell j v hj)) ?_
    refine ih (by have:=TyD.ht_of (t:=t) (u:=u) (by rw[ho];exact List.mem_singleton.2 rfl);omega) hu (λx hx=>hreg x (afV ho hx)) (λhne=>ha (by
     obtain⟨x,hx⟩:=List.exists_mem_of_ne_nil _ hne
     exact List.ne_nil_of_mem (afV ho hx))) S.holds ht λv' sn w13 e13 n13 hv'=>?_
    obtain⟨S,dx,ax⟩:=S.tell e13 n13
    obtain⟨c',rfl,hc',_⟩:=hv'.rep
    refine S.lit (Xj hv') λb9 w14 S=>?_
    have hm:=S.mine (.cell b9 c' 43) (by simp) b9 rfl
    refine gp_ ?_
    refine S.st (b:=b3) λw15 S=>?_
    refine hK3 [] _ ⟨b9,sn,c',(S.frzAt b9).reGh,hv',?_⟩
    rintro b o (hb|⟨rfl,_⟩)
    ·exact ax b o hb
    ·exact hm.1.resolve_right id
   clear S
   rintro _ w7 ⟨b9,sn,c',S,hv',hab⟩ d7
   refine S.ldB (b:=b3) ?_ rfl
   refine S.stB (b:=b2) λw8 S=>?_
   refine S.ceB (b:=b2) ?_ rfl
   exact h _ (sn.or (Go.Sh.one b9 c' 43)) _ S.ext (S.newOf hab) (Xe hv')
theorem abP:∀(n:Nat){t:TyD}{c:Int}{w:World}{r:Gh}{v:Value}{K:Value→World→Prop},t.ht≤n→isB t=true→0≤c→c+n≤1000000→Holds r w→TyG r v t→
  (∀v' sn w',Ext w w'→New w sn w'→TyG sn v' (t.lay (yC t.regs c))→K (.tuple #[v',.int .i64 (c+z6 t.regs)]) w')→zd Tryz.prog Tryz.kQ #[v,.int .i64 c] w K:=by
 intro n
 induction n with
 |zero=>intro t c w r v K h;cases t;simp[TyD.ht]at h
 |succ n ih=>
  intro t c w r v K hn hB hc0 hcn hr hv h
  obtain⟨p,cap,rfl,hp,hc,hof⟩:=hv
  refine Tryz.aaD ?_
  unfold Tryz.Xp
  have hlow:t.k=4→-1≤t.re:=λhk=>ady (n:=47) hB hk
  have S:=St.start hr
  refine S.box λb1 w1 S=>?_
  have S:StX noX w r w1 [.cell b1 (tyL t p cap) 43]:=S
  refine S.al λb2 w2 S=>?_
  refine gg_ ?_
  refine S.al λb3 w3 S=>?_
  refine S.stB (b:=b3) λw4 S=>?_
  refine gg_ ?_
  refine S.st (b:=b3) λw5 S=>?_
  refine zo (λs w'=>s=[.int .i64 (if t.k=4∧t.re = -1 then c+1 else c)]∧StX noX w r w' [.cell b3 [.int .u8 t.k,.bool t.m,.int .i64 (if t.k=4∧t.re = -1 then c else t.re),.int .i64 t.st,.slice none 0 0] 43,.cell b2 yT 43,.cell b1 [.int .u8 t.k,.bool t.m,.int .i64 t.re,.int .i64 t.st,.slice p t.of.length cap] 43]) (λK3 hK3=>?_) ?_
  ·refine gg_ ?_
   refine zh (c:=decide (t.re = -1)) (λ_ K2 hK2=>by refine gg_ ?_;exact hK2) ?_
   refine c_b (λhk=>?_) (λhk=>?_)
   ·have hk:t.k=4∧t.re = -1:=by simpa using hk
    refine gg_ ?_
    refine S.st (b:=b3) λw3 S=>?_
    refine gg_ ?_
    refine hK3 _ _ ⟨?_,?_⟩
    ·rw[if_pos hk]
    ·rw[if_pos hk];exact S
   ·have hk:¬(t.k=4∧t.re = -1):=by simpa using hk
    refine hK3 _ _ ⟨?_,?_⟩
    ·rw[if_neg hk]
    ·rw[if_neg hk];exact S
  clear S
  rintro _ w6 ⟨rfl,S⟩ d6
  simp only[gdz]
  rcases aee hB with ho|⟨u,ho,hu⟩
  ·have hl:t.of.length=0:=by rw[ho];rfl
   have hk4:¬t.k=4:=ajB hB ho
   rw[Zq ho,Zr ho,if_neg hk4,if_neg hk4]at h
   rw[if_neg (λhh=>hk4 hh.1)]at S
   rw[if_neg (λhh=>hk4 hh.1)]
   refine zo (λs w'=>s=[.int .i64 c]∧w'=w6) (λK3 hK3=>?_) ?_
   ·refine gg_ ?_
    refine c_f (by simp[hl]) ?_
    exact hK3 _ _ ⟨rfl,rfl⟩
   rintro _ _ ⟨rfl,rfl⟩ d7
   refine S.ldB (b:=b3) ?_ rfl
   refine S.stB (b:=b2) λw7 S=>?_
   refine S.ceB (b:=b2) ?_ rfl
   have:=h _ nothing _ S.ext New.nothing yp
   rw[z6,Int.add_zero]at this
   exact this
  ·obtain⟨ba,oa,rfl,cc,hc1,hcell,ht⟩:=NdG.of hof (i:=0) (by rw[ho];exact Nat.one_pos)
   have ht:TyG r (.agg cc.toArray) u:=by simpa [ho]using ht
   have hl:t.of.length=1:=by rw[ho];rfl
   have hlay:t.lay (yC t.regs c)=.mk t.k t.m (if t.k=4∧t.re = -1 then c else t.re) t.st [u.lay (yC u.regs (if t.k=4∧t.re = -1 then c+1 else c))]∧c+z6 t.regs=(if t.k=4∧t.re = -1 then c+1 else c)+z6 u.regs:=by
    rw[qv ho,xw ho]
    by_cases h4:t.k=4
    ·have:=hlow h4
     by_cases h1:t.re = -1
     ·simp[h4,h1,yC,z6];omega
     ·have hre:¬t.re<0:=by omega
      simp[h4,h1,yC,z6,hre]
    ·simp[h4]
   rw[hlay.1,hlay.2]at h
   generalize (if t.k=4∧t.re = -1 then c else t.re)=re' at S h
   generalize hc2:(if t.k=4∧t.re = -1 then c+1 else c)=c2 at h⊢
   have hc2b:0≤c2∧c2+n≤1000000:=by split at hc2<;>omega
   rw[hl]at S
   refine zo (λs w'=>s=[.int .i64 (c2+z6 u.regs)]∧∃b9 sn c',StX noX w (r.or (sn.or (Go.Sh.one b9 c' 43))) w' [.cell b3 [.int .u8 t.k,.bool t.m,.int .i64 re',.int .i64 t.st,.slice (some ⟨b9,0,none⟩) 1 1] 43,.cell b2 yT 43,.cell b1 [.int .u8 t.k,.bool t.m,.int .i64 t.re,.int .i64 t.st,.slice (some ⟨ba,oa,none⟩) 1 cap] 43]∧
    TyG sn (.agg c'.toArray) (u.lay (yC u.regs c2))∧Above w (sn.or (Go.Sh.one b9 c' 43))) (λK3 hK3=>?_) ?_
   ·refine gg_ ?_
    refine c_t (by decide) ?_
    refine S.al λb7 w7 S=>?_
    refine gg_ ?_
    refine zn (n:=5) hc1 (λj v hj=>by simpa using S.at (hcell j v hj)) ?_
    refine ih (by have:=TyD.ht_of (t:=t) (u:=u) (by rw[ho];exact List.mem_singleton.2 rfl);omega) hu hc2b.1 hc2b.2 S.holds ht λv' sn w13 e13 n13 hv'=>?_
    obtain⟨S,dx,ax⟩:=S.tell e13 n13
    obtain⟨q',cap',rfl,_⟩:=id hv'
    refine gS_ ?_
    refine S.stB (b:=b7) λw14 S=>?_
    refine S.ldB (b:=b7) ?_ rfl
    refine S.lit (Xj (c:=tyL (u.lay (yC u.regs c2)) q' cap') hv') λb9 w15 S=>?_
    have hm:=S.mine (.cell b9 (tyL (u.lay (yC u.regs c2)) q' cap') 43) (by simp) b9 rfl
    refine gp_ ?_
    refine S.st (b:=b3) λw16 S=>?_
    refine hK3 _ _ ⟨rfl,b9,sn,_,((S.frzAt b9).drop b7).reGh,hv',?_⟩
    rintro b o (hb|⟨rfl,_⟩)
    ·exact ax b o hb
    ·exact hm.1.resolve_right id
   clear S
   rintro _ w7 ⟨rfl,b9,sn,c',S,hv',hab⟩ d7
   refine S.ldB (b:=b3) ?_ rfl
   refine S.stB (b:=b2) λw8 S=>?_
   refine S.ceB (b:=b2) ?_ rfl
   exact h _ (sn.or (Go.Sh.one b9 c' 43)) _ S.ext (S.newOf hab) (Xe hv')
theorem ahe{u:UnD}{fn:Int}{v:Value}{w:World}{r:Gh}{K:Value→World→Prop}(hM:MayU u)(hf0:0≤fn)(hlt:fn.toNat<u.fs.length)(hr:Holds r w)(hu:UnG r v u)
  (h:∀v' s w',Ext w w'→New w s w'→RgG s v' (allD u u.fs[fn.toNat])→K v' w'):zd Tryz.prog Tryz.X8 #[v,.int .i64 fn] w K:=by
 refine Tryz.age ?_
 unfold Tryz.aa1
 obtain⟨p0,cap0,vf,rfl,_,_,hst,hsl,hfn⟩:=hu
 obtain⟨qf,capf,rfl,_,_⟩:=hfn.sl.shape
 have hfl:u.fs.length≤9223372036854775807:=hfn.few
 obtain⟨bf,of,cf,rfl,hcf,hgc,hfo⟩:=hfn.sl.get (by decide) hlt
 have hH:=hM.hd hlt
 have hgm:=List.getElem_mem hlt
 have hfin:=hH.fine hM.ok
 have hptN:=λp hp=>hM.ptN hgm (p:=p) hp
 have hpg:=hM.pts _ hgm
 generalize u.fs[fn.toNat]=g at h hgc hH hgm hfin hptN hpg
 obtain⟨vo,vt,vn,vp,rfl,h1,h2,h3,h4⟩:=id hgc
 obtain⟨qo,capo,rfl,_,_⟩:=h1.sl.shape
 obtain⟨qt,capt,rfl,_,hct⟩:=h2.sl.shape
 obtain⟨qn,capn,rfl,_,_⟩:=h3.sl.shape
 obtain⟨qp,capp,rfl,_,_⟩:=h4.sl.shape
 have hlv0:=hH.lv0;have hlv8:=hH.lv8;have hty:=hH.ty512;have hp1024:=hH.pt1024
 have hloc0:=xx g.tys
 have hloc1:=aaq g.tys
 have hat0:=kZ (u:=u) (l:=g.pts) (λp hp=>(hptN p hp).1) g.pts.length
 rw[List.take_length]at hat0
 have hat1:=af6 (u:=u) (l:=g.pts) λp hp=>(hptN p hp).2
 have S:=St.start hr
 refine S.box λb2 w1 S=>?_
 have S:StX noX w r w1 [.cell b2 [.slice p0 u.ss.length cap0,.slice (some ⟨bf,of,none⟩) u.fs.length capf,.int .i64 u.mn] 25]:=S
 refine S.al λb4 w2 S=>?_
 refine gg_ ?_
 refine zn (n:=7) hcf (λj v hj=>S.at (hfo j v hj)) ?_
 refine S.al λb5 w3 S=>?_
 refine S.stB (b:=b5) λw4 S=>?_
 refine gg_ ?_
 refine S.al λb6 w5 S=>?_
 refine S.stB (b:=b6) λw6 S=>?_
 refine gg_ ?_
 have S:=(S.ownNil 3 1).ownNil 43 5
 have S:StX noX w (r.or nothing) w6 [.row (.slice none 0 0) 43 5 0 [],.row (.slice none 0 0) 3 1 0 [],.cell b6 (rgL g.lv g.pts.length 0 (.slice none 0 0) (.slice none 0 0)) 74,.cell b5 [.string g.name,.int .i64 g.lv,.slice qo g.outs.length capo,.int .i64 g.pn,.slice qt g.tys.length capt,.slice qn g.nms.length capn,.slice qp g.pts.length capp] 101,
  .cell b4 rgZ 74,.cell b2 [.slice p0 u.ss.length cap0,.slice (some ⟨bf,of,none⟩) u.fs.length capf,.int .i64 u.mn] 25]:=S.to _
 refine zi (ι:=Nat×Value×Gh×List Value) (λi=>[.int .i64 (g.lv+zI (g.tys.take i.1)),.int .i64 (i.1:Nat)]) (λi w'=>i.1≤g.tys.length∧RowOf 5 (TyC i.2.2.1) i.2.2.2 ((xO g.tys g.lv).take i.1)∧Above w i.2.2.1∧
  StX noX w (r.or i.2.2.1) w' [.row i.2.1 43 5 i.1 i.2.2.2,.row (.slice none 0 0) 3 1 0 [],.cell b6 (rgL g.lv g.pts.length 0 i.2.1 (.slice none 0 0)) 74,.cell b5 [.string g.name,.int .i64 g.lv,.slice qo g.outs.length capo,.int .i64 g.pn,.slice qt g.tys.length capt,.slice qn g.nms.length capn,.slice qp g.pts.length capp] 101,
   .cell b4 rgZ 74,.cell b2 [.slice p0 u.ss.length cap0,.slice (some ⟨bf,of,none⟩) u.fs.length capf,.int .i64 u.mn] 25]) (λi=>g.tys.length-i.1) (0,.slice none 0 0,nothing,[]) (by simp[zI]) ⟨Nat.zero_le _,by simpa using RowOf.nil,Above.no,S⟩ ?_
 clear S
 rintro⟨i,vl,s',xs⟩ d w7 ⟨hi,hrow,hab,S⟩ K7 hK7
 simp only at hi hrow hab S⊢
 simp only[gdz,gds]
 refine gg_ ?_
 refine zj (λhlt2=>?_) (λhge=>?_)
 ·have hlt2:i<g.tys.length:=by omega
  obtain⟨bt,ot,ct,rfl,hct2,htc,hcell⟩:=h2.sl.get (by decide) hlt2
  obtain⟨q2,cap2,rfl,ht2⟩:=ye htc
  have hfi:Fine u.ss g.tys[i]:=hfin.all _ (List.getElem_mem hlt2)
  have hB:=hfi.is hfin.few
  have hrT:regsT g.tys[i]=g.tys[i].regs:=by rw[regsT,hB];rfl
  have hl0:=xx (g.tys.take i)
  have hl1:=aaq (g.tys.take i)
  rw[List.length_take]at hl1
  have hkt:=VA hlt2
  rw[hrT]at hkt
  have hht:g.tys[i].ht≤48:=Vk hB
  refine S.al λb9 w8 S=>?_
  refine gg_ ?_
  refine zn (n:=5) hct2 (λj v hj=>by rw[tnc];exact S.at (hcell j v hj)) ?_
  refine abP 48 hht hB (by omega) (by omega) S.holds ht2.up λv' sn w9 e9 n9 hv'=>?_
  obtain⟨S,d9,a9⟩:=S.tell e9 n9
  obtain⟨q6,cap6,rfl,_⟩:=id hv'
  refine gS_ ?_
  refine S.stB (b:=b9) λw10 S=>?_
  refine gg_ ?_
  refine S.lit (Xj (c:=tyL (g.tys[i].lay (yC g.tys[i].regs (g.lv+zI (g.tys.take i)))) q6 cap6) hv') λb15 w14 S=>?_
  refine S.ap (m':=1) (Sl.blk (S.blk b15)) (λv15 w15 S=>?_) (by omega)
  have S:=((S.drop b15).drop b9).reGh
  refine gg_ ?_
  have hvo:=S.row1 v15
  refine S.st (b:=b6) (λw16 S=>?_) (by simp) hvo
  refine gg_ ?_
  rw[show ((i:Int)+1)=((i+1:Nat):Int)by omega,show g.lv+zI (g.tys.take i)+z6 g.tys[i].regs=g.lv+zI (g.tys.take (i+1))by rw[hkt];omega]
  refine hK7 (i+1,v15,s'.or sn,xs++tyL (g.tys[i].lay (yC g.tys[i].regs (g.lv+zI (g.tys.take i)))) q6 cap6) _ ⟨hlt2,?_,hab.or' a9,S⟩ (by show g.tys.length-(i+1)<g.tys.length-i;omega)
  show RowOf 5 (TyC (s'.or sn)) (xs++tyL _ q6 cap6) ((xO g.tys g.lv).take (i+1))
  rw[List.take_succ_eq_append_getElem (by rw[kh];exact hlt2),aap hlt2,hrT]
  exact(hrow.mono λc x hx=>TyG.up hx).snoc rfl (TyG.up hv')
 have hie:i=g.tys.length:=by omega
 subst hie
 rw[List.take_length]at *
 have hlk:(xO g.tys g.lv).take g.tys.length=xO g.tys g.lv:=List.take_of_length_le (by rw[kh];exact Nat.le_refl _)
 rw[hlk]at hrow
 clear hK7 K7 hge hi
 generalize hbase:g.lv+zI g.tys=base
 have hb0:0≤base∧base≤8+48*512:=by omega
 have key:∀q,atC u (g.pts.take q)≤8*1024∧0≤atC u (g.pts.take q):=λq=>by
  have e1:=af6 (u:=u) (l:=g.pts.take q) λp hp=>(hptN p (List.mem_of_mem_take hp)).2
  have e2:=(kZ (u:=u) (l:=g.pts) (λp hp=>(hptN p hp).1) q).1
  rw[List.length_take]at e1
  omega
 refine zi (ι:=Nat×Value) (λi=>[.int .i64 (base+atC u (g.pts.take i.1)),.int .i64 (i.1:Nat)]) (λi w'=>i.1≤g.pts.length∧StX noX w (r.or s') w' [.row i.2 3 1 i.1 (ints ((atK u g.pts base).take i.1)),.row vl 43 5 g.tys.length xs,.cell b6 (rgL g.lv g.pts.length 0 vl i.2) 74,.cell b5 [.string g.name,.int .i64 g.lv,.slice qo g.outs.length capo,.int .i64 g.pn,.slice qt g.tys.length capt,.slice qn g.nms.length capn,.slice qp g.pts.length capp] 101,
   .cell b4 rgZ 74,.cell b2 [.slice p0 u.ss.length cap0,.slice (some ⟨bf,of,none⟩) u.fs.length capf,.int .i64 u.mn] 25]) (λi=>g.pts.length-i.1) (0,.slice none 0 0) (by simp[atC]) ⟨Nat.zero_le _,by
    have:=S.swap
    simpa [ints]using this⟩ ?_
 clear S
 rintro⟨q,va⟩ d w20 ⟨hq,S⟩ K17 hK17
 simp only at hq S⊢
 simp only[gdz,gds]
 have hkq:=key q
 refine gg_ ?_
 refine zj (λhlt2=>?_) (λhge=>?_)
 ·have hlt2:q<g.pts.length:=by omega
  obtain⟨bp,op,cp,rfl,hcp,hpc,hpo⟩:=h4.sl.get (by decide) hlt2
  obtain⟨x1,x2,x3,x4,x5,y1,y2,y3,y4,y5,rfl,_⟩:=qw hpc
  have hNi:=hptN g.pts[q] (List.getElem_mem hlt2)
  have hpt:=hpg g.pts[q] (List.getElem_mem hlt2)
  have htk:=abx (u:=u) hlt2
  have hati:=VB (u:=u) (c:=base) hlt2
  have hlen:q<(atK u g.pts base).length:=by rw[kB];exact hlt2
  have lop:Ob r λw=>w.cell? ⟨bp,op+q*21,none⟩=some (.int .u8 g.pts[q].op):=by simpa using hpo 0 _ rfl
  have lfn:Ob r λw=>w.cell? ⟨bp,op+q*21+16,none⟩=some (.int .i64 g.pts[q].fn):=hpo 16 _ rfl
  have hins:ints ((atK u g.pts base).take (q+1))=ints ((atK u g.pts base).take q)++[.int .i64 (if ptN u g.pts[q]=0 then -1 else base+atC u (g.pts.take q))]:=by
   rw[List.take_succ_eq_append_getElem hlen,hati,ints,ints,List.map_append];rfl
  generalize g.pts[q]=p at hNi hpt htk lop lfn hins
  refine zo (λs w'=>s=[.int .i64 (if p.op=4 then 1 else 0)]∧w'=w20) (λK9 hK9=>?_) ?_
  ·refine gg_ ?_
   refine zg (by simpa using S.at lop) ?_
   refine gg_ ?_
   refine zj (λho=>hK9 _ _ ⟨by rw[if_pos ho],rfl⟩) (λho=>hK9 _ _ ⟨by rw[if_neg ho],rfl⟩)
  rintro _ w20 ⟨rfl,rfl⟩ d18
  refine zo (λs w'=>s=[.int .i64 (ptN u p)]∧Ext w20 w') (λK9 hK9=>?_) ?_
  ·refine gg_ ?_
   refine zg (by simpa using S.at lop) ?_
   refine gg_ ?_
   refine zj (λho=>?_) (λho=>?_)
   ·have hcc:=vN hpt ho
    have hlt3:p.fn.toNat<u.fs.length:=by omega
    obtain⟨bf2,of2,cf2,hbe,hcf2,hgc2,hfo2⟩:=hfn.sl.get (by decide) hlt3
    cases hbe
    obtain⟨vo',vt',vn',vp',rfl,_⟩:=hgc2
    have S:=S.go (Ext.drew _)
    refine gg_ ?_
    refine zg (by simpa using S.at lfn) ?_
    refine gg_ ?_
    refine zg (v:=.int .i64 u.fs[p.fn.toNat].lv) (by simpa using S.at (hfo2 1 _ rfl)) ?_
    refine hK9 _ _ ⟨by rw[ptN,if_neg (by omega),if_pos ho,adx,gqg hlt3],Ext.drew _⟩
   ·refine hK9 _ _ ⟨by rw[ptN,if_neg ho],Ext.refl _⟩
  rintro _ w21 ⟨rfl,e21⟩ d19
  have S:=S.go e21
  simp only[gdz]
  refine zo (λ_ w'=>∃va',StX noX w (r.or s') w' [.row va' 3 1 (q+1) (ints ((atK u g.pts base).take (q+1))),.row vl 43 5 g.tys.length xs,.cell b6 (rgL g.lv g.pts.length 0 vl va') 74,.cell b5 [.string g.name,.int .i64 g.lv,.slice qo g.outs.length capo,.int .i64 g.pn,.slice qt g.tys.length capt,.slice qn g.nms.length capn,.slice (some ⟨bp,op,none⟩) g.pts.length capp] 101,
   .cell b4 rgZ 74,.cell b2 [.slice p0 u.ss.length cap0,.slice (some ⟨bf,of,none⟩) u.fs.length capf,.int .i64 u.mn] 25]) (λK29 hK29=>?_) ?_
  ·refine gg_ ?_
   refine zj (λhz=>?_) (λhz=>?_)
   ·rw[if_pos hz]at hins
    refine gg_ ?_
    refine S.lit (e:=3) (cs:=[.int .i64 (-1)]) (by kernel_rfl) λb15 w14 S=>?_
    refine S.ap (m':=1) (Sl.blk (S.blk b15)) (λv15 w15 S=>?_) (by omega)
    have S:=S.drop b15
    have hvo:=S.row1 v15
    refine gg_ ?_
    refine S.st (b:=b6) (λw16 S=>?_) (by simp) hvo
    rw[← hins]at S
    exact hK29 [] _ ⟨v15,S⟩
   ·rw[if_neg hz]at hins
    refine gg_ ?_
    refine S.lit (e:=3) (cs:=[.int .i64 (base+atC u (g.pts.take q))]) (by kernel_rfl) λb15 w14 S=>?_
    refine S.ap (m':=1) (Sl.blk (S.blk b15)) (λv15 w15 S=>?_) (by omega)
    have S:=S.drop b15
    have hvo:=S.row1 v15
    refine gg_ ?_
    refine S.st (b:=b6) (λw16 S=>?_) (by simp) hvo
    rw[← hins]at S
    exact hK29 [] _ ⟨v15,S⟩
  clear S
  rintro _ w22 ⟨va',S⟩ d22
  refine gg_ ?_
  rw[show ((q:Int)+1)=((q+1:Nat):Int)by omega,show base+atC u (g.pts.take q)+ptN u p=base+atC u (g.pts.take (q+1))by rw[htk];omega]
  exact hK17 (q+1,va') _ ⟨hlt2,S⟩ (by show g.pts.length-(q+1)<g.pts.length-q;omega)
 have hqe:q=g.pts.length:=by omega
 subst hqe
 have hak:(atK u g.pts base).take g.pts.length=atK u g.pts base:=List.take_of_length_le (by rw[kB];exact Nat.le_refl _)
 rw[hak]at S
 rw[List.take_length]
 obtain⟨pl,cl,rfl,_⟩:=S.rowS vl
 obtain⟨pa,ca,rfl,_⟩:=S.rowS va
 refine gg_ ?_
 refine S.st (b:=b6) λw23 S=>?_
 refine S.ldB (b:=b6) ?_ rfl
 refine S.stB (b:=b4) λw24 S=>?_
 refine S.ceB (b:=b4) ?_ rfl
 have hrA:RowOf 1 xD (ints (atK u g.pts base)) (atK u g.pts base):=⟨by rw[xf,Nat.mul_one],λj hj=>by
  show _=_
  rw[Nat.mul_one,ints,← List.map_drop,← List.map_take,List.drop_eq_getElem_cons hj];rfl⟩
 have hal:(atK u g.pts base).length=g.pts.length:=kB _ _ _
 have hll:(xO g.tys g.lv).length=g.tys.length:=kh _ _
 obtain⟨s2,S,hsA,_,habA⟩:=S.doneRow hrA (by decide) hal.symm
 obtain⟨s3,S,hsL,_,habL⟩:=S.doneRow hrow (by decide) hll.symm
 have habA:Above w s2:=λb o ho=>(habA b o ho).resolve_right id
 have habL:Above w s3:=λb o ho=>(habL b o ho).resolve_right id
 have hgA:SlG 1 ((s'.or s2).or s3) xD (.slice pa g.pts.length ca) (allD u g).at':=by
  have:=hsA.cells (s:=(s'.or s2).or s3)
  rw[← hbase]at this
  exact this
 have hgL:SlG 5 ((s'.or s2).or s3) (TyC ((s'.or s2).or s3)) (.slice pl g.tys.length cl) (allD u g).tys:=hsL.up' inferInstance λc x hx=>TyG.up hx
 have hN:New w ((s'.or s2).or s3) w24:=StX.newOf (q:=(s'.or s2).or s3) S ((hab.or' habA).or' habL)
 have hv:(.agg ((rgL g.lv g.pts.length 0 (.slice pl g.tys.length cl) (.slice pa g.pts.length ca)).set 2 (.int .i64 (base+atC u g.pts))).toArray:Value)=.agg #[.int .i64 (allD u g).lv,.int .i64 (allD u g).pt,.int .i64 (allD u g).ct,.slice pl g.tys.length cl,.slice pa g.pts.length ca]:=by
  rw[← hbase];rfl
 have:=h _ _ _ S.ext hN ⟨_,_,rfl,hgL,hgA⟩
 rw[← hv]at this
 exact this
end Go.Proofs
end
