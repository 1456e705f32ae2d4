/-
  Shallow readings of functions. Made by a program (wip/gen/gen.py) out of the translation; the kernel checks each equality.
  Shallow readings of functions. Made by a program (wip/gen/gen.py) out of the translation; the kernel checks each equality.
  Shallow readings of functions. Made by a program (wip/gen/gen.py) out of the translation; the kernel checks each equality.
  Types as data: what a value of api.Type tells; typeFits.
  Contracts: which types may be (package types, the document's answer).
  Contracts: types that are alike, the same.
  Contracts: the regions of a type.
  Contracts: Regions, of both sides; which regions one type asks of another (pure).
  Contracts: what one type asks of another.
  Contracts: Asks, of both sides.
  Contracts: Asks, the document's.
  Contracts: the text of a type, of both sides. Itoa of small numbers.
  Contracts: the text of a type, the document's; Itoa of small numbers; Copies.
  Contracts: Structs, May, Words where there are no structs (what awake asks).
  Arithmetic of unsigned numbers, told by whole numbers where nothing runs over.
  A slice of one's own that need not begin where its block does: a queue.
  Further steps: values that are arrays, shifts and joins of numbers, structs of numbers compared; conditions put together.
  Contracts: the reader of types' texts: comes, take.
  Contracts: the reader of types' texts: digits.
  What is read of bytes, byte by byte: readers as data; how far they go. No program in sight.
  Contracts: the reader of types' texts: kind, ref.
  Contracts: the reader of types' texts: ref.
  Contracts: the reader of types' texts: kind.
  Contracts: types.Read.
  Contracts: the document's reader of types' texts: next, word, number.
  Contracts: the document's reader of types' texts: number.
  Contracts: the document's reader of types' texts: reference, kind.
  Contracts: the document's reader of types' texts: Read.
  Contracts: equal (of what is alike), spoil.
  Contracts: a type's nodes as one's own cells; own, Own.
  Contracts: walk that turns regions; Number, Anew.
  Contracts: Anew of types.
  Contracts: laid, Number, Anew of the document's answer.
  Structs as data; what stands in what: the plain laws.
  Contracts: words, endless, first of package types.
-/
import Derived.Test.YtngfnikkdhbajaaGreatQUb
import Derived.Test.YtngfnikkdhbajaaGreatQUa
import Derived.ArgAppend
section
namespace Go.Proofs.Tryz
open Go.Sh
set_option maxRecDepth 100000
def Jh (t0 : Value) (w : World) (K : VW) : Prop:=
 pw w (Instr.box 31 t0) fun t1 w1=>
 pw w1 (Instr.alloc 31 true (.tuple #[])) fun t2 w2=>
 lo w2 31 t1 fun t4=>ca xe #[t4] w2 fun t5 w3=>
 pp (Op.unary .not t5) fun t6=>zc t6 (pp (Instr.build 31 #[]) fun t7=>so w3 31 t2 t7 fun w4=>pq w4 (zf 31 t2) fun r5=>K (.tuple #[r5,(i6 2)]) w4) (lo w3 31 t1 fun t8=>ca kf #[t8] w3 fun t9 w6=>
 so w6 31 t2 t9 fun w7=>pq w7 (zf 31 t2) fun r8=>K (.tuple #[r8,(i6 0)]) w7)
theorem acj {t0 : Value} {w : World} {K : VW} (h : Jh t0 w K) : ze prog qd #[t0] w K:=
 okC false (.s (.r (rz 3 0 10)) (.s (.s (.r (rz 3 0 9)) (.c (.s (.r (rz 3 0 8)) (.n)) (.n))) (.s (.r (rz 4 0 41)) (.n)))) func33 rfl (by kernel_rfl) (by kernel_rfl) h
def Z1 (t0 : Value) (w : World) (K : VW) : Prop:=
 pw w (Instr.box 31 t0) fun t1 w1=>
 lo w1 31 t1 fun t3=>ca xe #[t3] w1 fun t4 w2=>
 pp (Op.unary .not t4) fun t5=>zc t5 (K (Value.slice Option.none 0 0) w2) (lo w2 31 t1 fun t6=>ca ku #[t6] w2 fun t7 w3=>
 K t7 w3)
theorem JJ {t0 : Value} {w : World} {K : VW} (h : Z1 t0 w K) : ze prog yI #[t0] w K:=
 okC false (.s (.r (rz 2 0 2)) (.s (.s (.r (rz 3 0 9)) (.c (.s (.r (rz 1 0 0)) (.n)) (.n))) (.s (.r (rz 3 0 9)) (.n)))) func35 rfl (by kernel_rfl) (by kernel_rfl) h
def X6 (t0 t1 : Value) (w : World) (K : VW) : Prop:=
 pw w (Instr.box 31 t0) fun t2 w1=>
 pw w1 (Instr.box 39 t1) fun t3 w2=>
 pw w2 (Instr.alloc 31 true (.tuple #[])) fun t4 w3=>
 lo w3.drew 31 t2 fun t7=>ca xe #[t7] w3.drew fun t8 w4=>
 pp (Op.unary .not t8) fun t9=>za (fun K5=>gIf t9 false (lo w4 31 t2 fun t11=>lo w4 39 t3 fun t14=>pp (Builtin.len_ #[39] 3 #[t14]) fun t15=>ca yI #[t11] w4 fun t12 w9=>
 Ext w4 w9∧
 pp (Builtin.len_ #[39] 3 #[t12]) fun t13=>bf .neq 3 t13 t15 fun t16=>K5 [t16] w9) (K5 [undef] w4)) (fun s6 _d7 w8=>
 zb t9 tr_ (s6.getD 0 undef) fun t17=>za (fun K10=>gIf t17 false (lo w8 39 t3 fun t19=>ca zP #[t19,(Value.func (.func 56) #[] #[])] w8 fun t20 w14=>
 K10 [t20] w14) (K10 [undef] w8)) (fun s11 _d12 w13=>
 zb t17 tr_ (s11.getD 0 undef) fun t21=>zc t21 (pp (Instr.build 31 #[]) fun t22=>so w13 31 t4 t22 fun w15=>pq w15 (zf 31 t4) fun r16=>K (.tuple #[r16,(i6 2)]) w15) (lo w13 31 t2 fun t23=>ca kf #[t23] w13 fun t24 w17=>
 so w17 31 t2 t24 fun w18=>pw w18 (Instr.alloc 3 true (.tuple #[])) fun t6 w19=>
 so w19 3 t6 (i6 0) fun w20=>pp (Instr.makeFunc (.func 58) #[] #[t3,t6]) fun t25=>ca xF #[t2,t25] w20 fun _t26 w21=>
 lo w21 31 t2 fun t27=>so w21 31 t4 t27 fun w22=>pq w22 (zf 31 t4) fun r23=>K (.tuple #[r23,(i6 0)]) w22)))
theorem abu {t0 t1 : Value} {w : World} {K : VW} (h : X6 t0 t1 w K) : ze prog Zl #[t0,t1] w K:=
 okC false (.s (.r (rz 4 0 42)) (.s (.s (.r (ra 4 0 9 (.grp 10 false [(4,.q),(7,.q),(8,.p),(5,.u),(6,.p),(9,.p)] [16] (ra 2 10 0 (.grp 18 false (ri 2 12 9) [20] (rz 1 14 0)))))) (.c (.s (.r (rz 3 0 8)) (.n)) (.n))) (.s (.r (rz 3 0 41)) (.s (.r (rz 2 0 10)) (.s (.r (rz 2 0 8)) (.s (.r (rz 3 0 9)) (.n))))))) func42 rfl (by kernel_rfl) (by kernel_rfl) h
def Ji (t0 : Value) (w : World) (K : VW) : Prop:=
 pw w (Instr.box 31 t0) fun t1 w1=>
 lo w1 31 t1 fun t3=>ca xG #[t3,(i6 32),(i6 48)] w1 fun t4 w2=>
 K t4 w2
theorem ack {t0 : Value} {w : World} {K : VW} (h : Ji t0 w K) : ze prog xe #[t0] w K:=
 okC false (.s (.r (rz 2 0 2)) (.s (.r (rz 3 0 9)) (.n))) func48 rfl (by kernel_rfl) (by kernel_rfl) h
def Jj (t0 : Value) (w : World) (K : VW) : Prop:=
 pw w (Instr.box 31 t0) fun t1 w1=>
 pw w1 (Instr.alloc 31 true (.tuple #[])) fun t2 w2=>
 za (fun K3=>
 fl w2 t1 31 4 29 fun t4=>pp (Builtin.len_ #[29] 3 #[t4]) fun t5=>bt .gtr 3 t5 (i6 0) fun t6=>zc t6 (fl w2 t1 31 4 29 fun t8=>xl w2 29 t8 (i6 0) 31 fun t10=>ca kf #[t10] w2 fun t11 w7=>
 pw w7 (Instr.buildSlice 29 1 #[(0,t11)]) fun t12 w8=>
 pf 31 t1 4 fun t13=>so w8 29 t13 t12 fun w9=>K3 [] w9) (pf 31 t1 4 fun t14=>so w2 29 t14 (Value.slice Option.none 0 0) fun w10=>K3 [] w10)) (fun _s4 _d5 w6=>
 lo w6 31 t1 fun t15=>so w6 31 t2 t15 fun w11=>pq w11 (zf 31 t2) fun r12=>K r12 w11)
theorem acl {t0 : Value} {w : World} {K : VW} (h : Jj t0 w K) : ze prog kf #[t0] w K:=
 okC false (.s (.r (rz 2 0 10)) (.j [] (.s (.r (rz 4 0 4)) (.c (.r (rz 8 0 35396)) (.r (rz 2 0 8)))) (.s (.r (rz 2 0 9)) (.n)))) func49 rfl (by kernel_rfl) (by kernel_rfl) h
def Z2 (t0 : Value) (w : World) (K : VW) : Prop:=
 pw w (Instr.box 31 t0) fun t1 w1=>
 pw w1 (Instr.alloc 39 true (.tuple #[])) fun t3 w2=>
 pp (Instr.makeFunc (.func 66) #[] #[t3]) fun t4=>ca xF #[t1,t4] w2 fun _t5 w3=>
 lo w3 39 t3 fun t6=>K t6 w3
theorem JK {t0 : Value} {w : World} {K : VW} (h : Z2 t0 w K) : ze prog ku #[t0] w K:=
 okC false (.s (.r (rz 2 0 2)) (.s (.r (rz 1 0 2)) (.s (.r (rz 2 0 8)) (.s (.r (rz 2 0 1)) (.n))))) func51 rfl (by kernel_rfl) (by kernel_rfl) h
def Z3 (t0 : Value) (w : World) (K : VW) : Prop:=
 pw w (Instr.box 22 t0) fun t1 w1=>
 lo w1 22 t1 fun t9=>pp (Builtin.len_ #[22] 3 #[t9]) fun t10=>pw w1 (Instr.alloc 3 true (.tuple #[])) fun t4 w2=>
 so w2 3 t4 t10 fun w3=>lo w3 3 t4 fun t11=>bt .gtr 3 t11 (i6 32) fun t12=>zc t12 (K (.tuple #[(i6 32),(i6 2)]) w3) (pp (Instr.makeFunc (.func 67) #[] #[t1,t4]) fun t13=>pp (Instr.makeFunc (.func 70) #[] #[t1]) fun t14=>pp (Instr.makeFunc (.func 72) #[] #[t1]) fun t15=>pw w3 (Instr.buildSlice 125 3 #[(0,t13),(1,t14),(2,t15)]) fun t16 w4=>
 pp (Builtin.len_ #[125] 3 #[t16]) fun t18=>zt [(i6 0)] w4 (fun s6 _d7 w8 K5=>
 bf .lss 3 (s6.getD 0 undef) t18 fun t20=>zc t20 (xl w8 125 t16 (s6.getD 0 undef) 90 fun t22=>lo w8 3 t4 fun t23=>ca vv #[t23,t22] w8 fun t25 w9=>
 lo w9 3 t4 fun t27=>bf .lss 3 t25 t27 fun t28=>zc t28 (K (.tuple #[t25,(i6 2)]) w9) (bt .add 3 (s6.getD 0 undef) (i6 1) fun t30=>K5 [t30] w9)) (K (.tuple #[(i6 0),(i6 0)]) w8)))
theorem JL {t0 : Value} {w : World} {K : VW} (h : Z3 t0 w K) : ze prog xr #[t0] w K:=
 okC false (.s (.r (rz 3 0 2)) (.s (.r (rz 4 0 161)) (.s (.s (.r (rz 2 0 1)) (.c (.s (.r (rz 2 0 0)) (.n)) (.n))) (.s (.r (rz 5 0 128)) (.s (.s (.r (rz 3 0 0)) (.b (.lp [19] (.s (.r (rz 1 0 0)) (.s (.c (.n) (.n)) (.s (.b (.s (.r (rz 3 0 4)) (.s (.r (rz 4 0 33)) (.s (.r (rz 3 0 4)) (.c (.s (.r (rz 3 0 0)) (.n)) (.n)))))) (.r (rz 2 0 0)))))))) (.s (.r (rz 2 0 0)) (.n))))))) func52 rfl (by kernel_rfl) (by kernel_rfl) h
def Jk (t0 t1 : Value) (w : World) (K : VW) : Prop:=
 pw w (Instr.box 31 t1) fun t3 w1=>
 ca xr #[t0] w1 fun t9 w2=>
 pe t9 0 fun _t10=>pe t9 1 fun t11=>bt .eql 32 t11 (i6 0) fun t13=>za (fun K3=>gIf t13 true (lo w2 31 t3 fun t15=>pp (Builtin.len_ #[22] 3 #[t0]) fun t17=>ca xG #[t15,t17,(i6 48)] w2 fun t18 w7=>
 K3 [t18] w7) (K3 [undef] w2)) (fun s4 _d5 w6=>
 zb t13 (s4.getD 0 undef) fa_ fun t19=>K t19 w6)
theorem acm {t0 t1 : Value} {w : World} {K : VW} (h : Jk t0 t1 w K) : ze prog kg #[t0,t1] w K:=
 okC false (.s (.r (rz 2 0 2)) (.s (.r (rz 7 0 8)) (.s (.r (ra 3 0 0 (.grp 14 true (ri 4 3 129) [18] (rz 2 7 0)))) (.n)))) func55 rfl (by kernel_rfl) (by kernel_rfl) h
def YL (t0 : Value) (w : World) (K : VW) : Prop:=
 bt .lss 3 t0 (i6 (-1)) fun t4=>K t4 w
theorem Vv {t0 : Value} {w : World} {K : VW} (h : YL t0 w K) : ze prog YE #[t0] w K:=
 okC false (.s (.r (rz 1 0 0)) (.s (.r (rz 3 0 0)) (.n))) func56 rfl (by kernel_rfl) (by kernel_rfl) h
def Zz (t0 t1 : Value) (w : World) (K : VW) : Prop:=
 za (fun K1=>
 ff w t0 31 0 28 fun t7=>bt .eql 28 t7 (Value.int .u8 4) fun t8=>zc t8 (cv t1 #[t0] w fun _t11 w5=>
 K1 [] w5) (K1 [] w)) (fun _s2 _d3 w4=>
 ff w4 t0 31 4 29 fun t15=>pp (Builtin.len_ #[29] 3 #[t15]) fun t16=>bt .gtr 3 t16 (i6 0) fun t17=>zc t17 (ff w4 t0 31 4 29 fun t21=>px 29 t21 (i6 0) fun t22=>ca xF #[t22,t1] w4 fun _t24 w6=>
 K (.tuple #[]) w6) (K (.tuple #[]) w4))
theorem Xw {t0 t1 : Value} {w : World} {K : VW} (h : Zz t0 t1 w K) : ze prog xF #[t0,t1] w K:=
 okC false (.j [] (.s (.r (rz 5 0 64)) (.c (.r (rz 3 0 32)) (.n))) (.s (.r (rz 6 0 64)) (.c (.r (rz 7 0 8256)) (.n)))) func57 rfl (by kernel_rfl) (by kernel_rfl) h
def YM (t0 t1 t2 : Value) (w : World) (K : VW) : Prop:=
 lo w 39 t1 fun t5=>lo w 3 t2 fun t6=>xl w 39 t5 t6 3 fun t8=>fa t0 31 2 fun t10=>so w 3 t10 t8 fun w1=>lo w1 3 t2 fun t11=>bt .add 3 t11 (i6 1) fun t12=>so w1 3 t2 t12 fun w2=>K (.tuple #[]) w2
theorem Vw {t0 t1 t2 : Value} {w : World} {K : VW} (h : YM t0 t1 t2 w K) : ze prog aaj #[t0,t1,t2] w K:=
 okC false (.s (.r (rz 8 0 33044)) (.r (rz 3 0 33))) func58 rfl (by kernel_rfl) (by kernel_rfl) h
def ZA (t0 t1 t2 : Value) (w : World) (K : VW) : Prop:=
 pw w (Instr.box 31 t0) fun t3 w1=>
 bt .eql 3 t2 (i6 0) fun t10=>zc t10 (K fa_ w1) (fl w1 t3 31 4 29 fun t12=>pp (Builtin.len_ #[29] 3 #[t12]) fun t13=>bt .eql 3 t13 (i6 1) fun t14=>za (fun K2=>gIf t14 true (fl w1 t3 31 4 29 fun t17=>xl w1 29 t17 (i6 0) 31 fun t19=>bt .sub 3 t2 (i6 1) fun t22=>ca xG #[t19,t1,t22] w1 fun t23 w6=>
 K2 [t23] w6) (K2 [undef] w1)) (fun s3 _d4 w5=>
 zb t14 (s3.getD 0 undef) fa_ fun t24=>fl w5 t3 31 1 4 fun t26=>pp (Op.unary .not t26) fun t27=>za (fun K7=>gIf t27 true (fl w5 t3 31 2 3 fun t30=>bt .eql 3 t30 (i6 0) fun t31=>K7 [t31] w5) (K7 [undef] w5)) (fun s8 _d9 w10=>
 zb t27 (s8.getD 0 undef) fa_ fun t32=>fl w10 t3 31 0 28 fun t34=>za (fun K11=>
 bt .eql 28 t34 (Value.int .u8 1) fun t36=>zc t36 (K11 [t36] w10) (bt .eql 28 t34 (Value.int .u8 2) fun t37=>K11 [t37] w10)) (fun s12 _d13 w14=>
 zc (s12.getD 0 undef) (za (fun K15=>gIf t32 true (fl w14 t3 31 3 3 fun t41=>bt .eql 3 t41 (i6 0) fun t42=>K15 [t42] w14) (K15 [undef] w14)) (fun s16 _d17 w18=>
 zb t32 (s16.getD 0 undef) fa_ fun t43=>za (fun K19=>gIf t43 true (fl w18 t3 31 4 29 fun t46=>pp (Builtin.len_ #[29] 3 #[t46]) fun t47=>bt .eql 3 t47 (i6 0) fun t48=>K19 [t48] w18) (K19 [undef] w18)) (fun s20 _d21 w22=>
 zb t43 (s20.getD 0 undef) fa_ fun t49=>K t49 w22))) (bt .eql 28 t34 (Value.int .u8 5) fun t51=>zc t51 (za (fun K23=>gIf t32 true (fl w14 t3 31 4 29 fun t55=>pp (Builtin.len_ #[29] 3 #[t55]) fun t56=>bt .eql 3 t56 (i6 0) fun t57=>K23 [t57] w14) (K23 [undef] w14)) (fun s24 _d25 w26=>
 zb t32 (s24.getD 0 undef) fa_ fun t58=>za (fun K27=>gIf t58 true (fl w26 t3 31 3 3 fun t61=>bt .geq 3 t61 (i6 0) fun t62=>K27 [t62] w26) (K27 [undef] w26)) (fun s28 _d29 w30=>
 zb t58 (s28.getD 0 undef) fa_ fun t63=>za (fun K31=>gIf t63 true (fl w30 t3 31 3 3 fun t66=>bf .lss 3 t66 t1 fun t68=>K31 [t68] w30) (K31 [undef] w30)) (fun s32 _d33 w34=>
 zb t63 (s32.getD 0 undef) fa_ fun t69=>K t69 w34)))) (bt .eql 28 t34 (Value.int .u8 3) fun t71=>zc t71 (za (fun K35=>gIf t32 true (fl w14 t3 31 3 3 fun t75=>bt .eql 3 t75 (i6 0) fun t76=>K35 [t76] w14) (K35 [undef] w14)) (fun s36 _d37 w38=>
 zb t32 (s36.getD 0 undef) fa_ fun t77=>za (fun K39=>gIf t77 true (K39 [t24] w38) (K39 [undef] w38)) (fun s40 _d41 w42=>
 zb t77 (s40.getD 0 undef) fa_ fun t80=>K t80 w42))) (bt .eql 28 t34 (Value.int .u8 4) fun t82=>zc t82 (fl w14 t3 31 2 3 fun t84=>bt .geq 3 t84 (i6 (-1)) fun t85=>za (fun K43=>gIf t85 true (fl w14 t3 31 3 3 fun t88=>bt .eql 3 t88 (i6 0) fun t89=>K43 [t89] w14) (K43 [undef] w14)) (fun s44 _d45 w46=>
 zb t85 (s44.getD 0 undef) fa_ fun t90=>za (fun K47=>gIf t90 true (K47 [t24] w46) (K47 [undef] w46)) (fun s48 _d49 w50=>
 zb t90 (s48.getD 0 undef) fa_ fun t93=>K t93 w50))) (K fa_ w14))))))))
theorem Xx {t0 t1 t2 : Value} {w : World} {K : VW} (h : ZA t0 t1 t2 w K) : ze prog xG #[t0,t1,t2] w K:=
 okC false (.s (.r (rz 2 0 2)) (.s (.s (.r (rz 2 0 0)) (.c (.s (.r (rz 1 0 0)) (.n)) (.n))) (.s (.r (ra 5 0 4 (.grp 15 true (ri 8 5 32836) [23] (rz 2 13 0)))) (.s (.r (ra 4 0 4 (.grp 28 true (ri 3 4 4) [31] (rz 2 7 0)))) (.s (.s (.r (rz 2 0 4)) (.b (.j [35] (.s (.r (rz 2 0 0)) (.c (.n) (.r (rz 2 0 0)))) (.c (.s (.r (ra 2 0 0 (.grp 39 true (ri 3 2 4) [42] (ra 2 5 0 (.grp 44 true (ri 4 7 4) [48] (rz 2 11 0)))))) (.n)) (.s (.r (rz 2 0 0)) (.c (.s (.r (ra 2 0 0 (.grp 53 true (ri 4 2 4) [57] (ra 2 6 0 (.grp 59 true (ri 3 8 4) [62] (ra 2 11 0 (.grp 64 true (ri 4 13 4) [68] (rz 2 17 0)))))))) (.n)) (.s (.r (rz 2 0 0)) (.c (.s (.r (ra 2 0 0 (.grp 73 true (ri 3 2 4) [76] (ra 2 5 0 (.grp 78 true (ri 1 7 0) [79] (rz 2 8 0)))))) (.n)) (.s (.r (rz 2 0 0)) (.c (.s (.r (ra 4 0 4 (.grp 86 true (ri 3 4 4) [89] (ra 2 7 0 (.grp 91 true (ri 1 9 0) [92] (rz 2 10 0)))))) (.n)) (.n))))))))))) (.s (.r (rz 1 0 0)) (.n))))))) func65 rfl (by kernel_rfl) (by kernel_rfl) h
def vP (t0 t1 : Value) (w : World) (K : VW) : Prop:=
 lo w.drew 39 t1 fun t3=>ff w.drew t0 31 2 3 fun t7=>pw w.drew (Instr.buildSlice 39 1 #[(0,t7)]) fun t8 w1=>
 Ext w.drew w1∧
 pw w1 (Builtin.append_ #[39,39] 39 #[t3,t8]) fun t9 w2=>
 so w2 39 t1 t9 fun w3=>K (.tuple #[]) w3
theorem X7 {t0 t1 : Value} {w : World} {K : VW} (h : vP t0 t1 w K) : ze prog k6 #[t0,t1] w K:=
 okC false (.r (rz 8 0 44289)) func66 rfl (by kernel_rfl) (by kernel_rfl) h
def vQ (t0 t1 t2 : Value) (w : World) (K : VW) : Prop:=
 lo w 22 t1 fun t6=>px 22 t6 t0 fun t8=>fl w t8 64 1 62 fun t10=>pp (Builtin.len_ #[62] 3 #[t10]) fun t12=>bt .lss 3 t12 (i6 1) fun t13=>za (fun K1=>gIf t13 false (pp (Builtin.len_ #[62] 3 #[t10]) fun t16=>bt .gtr 3 t16 (i6 8) fun t17=>K1 [t17] w) (K1 [undef] w)) (fun s2 _d3 w4=>
 zb t13 tr_ (s2.getD 0 undef) fun t18=>za (fun K5=>gIf t18 false (pp (Instr.makeFunc (.func 69) #[] #[t2]) fun t21=>ca zN #[t10,t21] w4 fun t22 w9=>
 K5 [t22] w9) (K5 [undef] w4)) (fun s6 _d7 w8=>
 zb t18 tr_ (s6.getD 0 undef) fun t23=>K t23 w8))
theorem X8 {t0 t1 t2 : Value} {w : World} {K : VW} (h : vQ t0 t1 t2 w K) : ze prog xA #[t0,t1,t2] w K:=
 okC false (.s (.r (rz 1 0 0)) (.s (.r (rz 6 0 257)) (.s (.r (ra 4 0 0 (.grp 14 false (ri 3 4 0) [17] (ra 2 7 0 (.grp 19 false (ri 3 9 32) [22] (rz 2 12 0)))))) (.n)))) func67 rfl (by kernel_rfl) (by kernel_rfl) h
def jA (t0 t1 : Value) (w : World) (K : VW) : Prop:=
 pw w (Instr.box 105 t0) fun t2 w1=>
 fl w1 t2 105 1 31 fun t5=>lo w1 3 t1 fun t6=>ca xG #[t5,t6,(i6 48)] w1 fun t7 w2=>
 pp (Op.unary .not t7) fun t8=>za (fun K3=>gIf t8 false (fl w2 t2 105 1 31 fun t11=>ca ku #[t11] w2 fun t12 w7=>
 pp (Builtin.len_ #[39] 3 #[t12]) fun t13=>bt .gtr 3 t13 (i6 0) fun t14=>K3 [t14] w7) (K3 [undef] w2)) (fun s4 _d5 w6=>
 zb t8 tr_ (s4.getD 0 undef) fun t15=>K t15 w6)
theorem Xb {t0 t1 : Value} {w : World} {K : VW} (h : jA t0 t1 w K) : ze prog XJ #[t0,t1] w K:=
 okC false (.s (.r (rz 2 0 2)) (.s (.r (ra 6 0 148 (.grp 9 false (ri 5 6 36) [14] (rz 2 11 0)))) (.n))) func69 rfl (by kernel_rfl) (by kernel_rfl) h
def vR (t0 t1 : Value) (w : World) (K : VW) : Prop:=
 lo w 22 t1 fun t4=>ca ja #[t4,t0] w fun t6 w1=>
 K t6 w1
theorem X9 {t0 t1 : Value} {w : World} {K : VW} (h : vR t0 t1 w K) : ze prog xB #[t0,t1] w K:=
 okC false (.s (.r (rz 1 0 0)) (.s (.r (rz 4 0 33)) (.n))) func70 rfl (by kernel_rfl) (by kernel_rfl) h
def Z4 (t0 t1 : Value) (w : World) (K : VW) : Prop:=
 pw w (Instr.alloc 151 true (.tuple #[])) fun t5 w1=>
 pw w1 (Instr.buildSlice 39 1 #[(0,t1)]) fun t11 w2=>
 zt [t11] w2 (fun s4 _d5 w6 K3=>
 pp (Builtin.len_ #[39] 3 #[(s4.getD 0 undef)]) fun t13=>bt .gtr 3 t13 (i6 0) fun t14=>zc t14 (xl w6 39 (s4.getD 0 undef) (i6 0) 3 fun t17=>pp (Instr.sliceAt 39 (s4.getD 0 undef) (some (i6 1)) none none) fun t19=>px 22 t0 t17 fun t22=>fl w6 t22 64 1 62 fun t24=>pp (Builtin.len_ #[62] 3 #[t24]) fun t25=>zt [t19,(i6 0)] w6 (fun s8 _d9 w10 K7=>
 bf .lss 3 (s8.getD 1 undef) t25 fun t27=>zc t27 (za (fun K11=>
 xl w10 62 t24 (s8.getD 1 undef) 105 fun t29=>pw w10 (Instr.alloc 105 true (.tuple #[])) fun t9 w15=>
 so w15 105 t9 t29 fun w16=>pf 105 t9 1 fun t30=>fl w16 t30 31 0 28 fun t32=>bt .neq 28 t32 (Value.int .u8 5) fun t33=>za (fun K17=>gIf t33 false (pf 105 t9 1 fun t35=>fl w16 t35 31 3 3 fun t37=>xl w16 151 t5 t37 4 fun t39=>K17 [t39] w16) (K17 [undef] w16)) (fun s18 _d19 w20=>
 zb t33 tr_ (s18.getD 0 undef) fun t40=>zc t40 (K11 [(s8.getD 0 undef)] w20) (pf 105 t9 1 fun t41=>fl w20 t41 31 3 3 fun t43=>px 151 t5 t43 fun t44=>so w20 4 t44 tr_ fun w21=>pf 105 t9 1 fun t46=>fl w21 t46 31 3 3 fun t48=>pw w21 (Instr.buildSlice 39 1 #[(0,t48)]) fun t49 w22=>
 pw w22 (Builtin.append_ #[39,39] 39 #[(s8.getD 0 undef),t49]) fun t50 w23=>
 K11 [t50] w23))) (fun s12 _d13 w14=>
 bt .add 3 (s8.getD 1 undef) (i6 1) fun t51=>K7 [(s12.getD 0 undef),t51] w14)) (K3 [(s8.getD 0 undef)] w10))) (xl w6 151 t5 t1 4 fun t54=>K t54 w6))
theorem JM {t0 t1 : Value} {w : World} {K : VW} (h : Z4 t0 t1 w K) : ze prog ja #[t0,t1] w K:=
 okC false (.s (.r (rz 1 0 0)) (.s (.r (rz 1 0 2)) (.s (.r (rz 3 0 8)) (.s (.b (.lp [6] (.s (.s (.r (rz 3 0 0)) (.c (.n) (.n))) (.b (.s (.r (rz 4 0 16)) (.s (.r (rz 3 0 0)) (.s (.r (rz 7 0 256)) (.b (.lp [6,26] (.s (.r (rz 1 0 0)) (.s (.c (.n) (.n)) (.j [6] (.b (.s (.r (rz 4 0 164)) (.s (.s (.r (ra 5 0 16 (.grp 34 false (ri 5 5 272) [39] (rz 1 10 0)))) (.c (.n) (.n))) (.s (.r (rz 5 0 528)) (.r (rz 7 0 2624)))))) (.r (rz 2 0 0)))))))))))))) (.s (.r (rz 4 0 16)) (.n)))))) func71 rfl (by kernel_rfl) (by kernel_rfl) h
def vS (t0 t1 : Value) (w : World) (K : VW) : Prop:=
 lo w 22 t1 fun t4=>pp (Instr.build 31 #[(0,(Value.int .u8 5)),(3,t0)]) fun t6=>ca qk #[t4,t6] w fun t7 w1=>
 bt .gtr 3 t7 (i6 16) fun t8=>K t8 w1
theorem Qa {t0 t1 : Value} {w : World} {K : VW} (h : vS t0 t1 w K) : ze prog xC #[t0,t1] w K:=
 okC false (.s (.r (rz 1 0 0)) (.s (.r (rz 6 0 129)) (.n))) func72 rfl (by kernel_rfl) (by kernel_rfl) h
def vE (t0 t1 : Value) (w : World) (K : VW) : Prop:=
 pw w (Instr.box 31 t1) fun t3 w1=>
 fl w1 t3 31 0 28 fun t9=>bt .neq 28 t9 (Value.int .u8 5) fun t10=>zc t10 (K (i6 1) w1) (fl w1 t3 31 3 3 fun t13=>px 22 t0 t13 fun t14=>fl w1 t14 64 1 62 fun t16=>pp (Builtin.len_ #[62] 3 #[t16]) fun t17=>zt [(i6 0),(i6 0)] w1 (fun s3 _d4 w5 K2=>
 bf .lss 3 (s3.getD 1 undef) t17 fun t19=>zc t19 (xl w5 62 t16 (s3.getD 1 undef) 105 fun t21=>pw w5 (Instr.alloc 105 true (.tuple #[])) fun t7 w6=>
 so w6 105 t7 t21 fun w7=>fl w7 t7 105 1 31 fun t25=>ca qk #[t0,t25] w7 fun t26 w8=>
 bf .add 3 (s3.getD 0 undef) t26 fun t27=>bt .gtr 3 t27 (i6 16) fun t29=>zc t29 (K (i6 17) w8) (bt .add 3 (s3.getD 1 undef) (i6 1) fun t30=>K2 [t27,t30] w8)) (K (s3.getD 0 undef) w5)))
theorem YN {t0 t1 : Value} {w : World} {K : VW} (h : vE t0 t1 w K) : ze prog qk #[t0,t1] w K:=
 okC false (.s (.r (rz 2 0 2)) (.s (.s (.r (rz 3 0 4)) (.c (.s (.r (rz 1 0 0)) (.n)) (.n))) (.s (.r (rz 1 0 0)) (.s (.s (.r (rz 8 0 1040)) (.b (.lp [5,18] (.s (.r (rz 1 0 0)) (.s (.c (.n) (.n)) (.s (.b (.s (.r (rz 4 0 164)) (.s (.r (rz 7 0 576)) (.s (.r (rz 2 0 0)) (.c (.s (.r (rz 1 0 0)) (.n)) (.n)))))) (.r (rz 2 0 0)))))))) (.s (.r (rz 2 0 0)) (.n)))))) func73 rfl (by kernel_rfl) (by kernel_rfl) h
def Xy (t0 t1 : Value) (w : World) (K : VW) : Prop:=
 zt [(i6 0)] w (fun s2 _d3 w4 K1=>
 bf .lss 3 (s2.getD 0 undef) t0 fun t8=>zc t8 (cv t1 #[(s2.getD 0 undef)] w4 fun t12 w5=>
 zc t12 (K (s2.getD 0 undef) w5) (bt .add 3 (s2.getD 0 undef) (i6 1) fun t14=>K1 [t14] w5)) (K t0 w4))
theorem aar {t0 t1 : Value} {w : World} {K : VW} (h : Xy t0 t1 w K) : ze prog vv #[t0,t1] w K:=
 okC false (.s (.r (rz 1 0 0)) (.s (.s (.r (rz 2 0 0)) (.b (.lp [7] (.s (.r (rz 1 0 0)) (.s (.c (.n) (.n)) (.s (.b (.s (.r (rz 2 0 0)) (.s (.r (rz 3 0 32)) (.c (.s (.r (rz 2 0 0)) (.n)) (.n))))) (.r (rz 2 0 0)))))))) (.s (.r (rz 2 0 0)) (.n)))) func74 rfl (by kernel_rfl) (by kernel_rfl) h
def Xz (t0 t1 : Value) (w : World) (K : VW) : Prop:=
 pw w (Instr.box 31 t0) fun t2 w1=>
 pw w1 (Instr.box 31 t1) fun t3 w2=>
 lo w2 31 t2 fun t5=>ca xe #[t5] w2 fun t6 w3=>
 za (fun K4=>gIf t6 true (lo w3 31 t3 fun t8=>ca xe #[t8] w3 fun t9 w8=>
 K4 [t9] w8) (K4 [undef] w3)) (fun s5 _d6 w7=>
 zb t6 (s5.getD 0 undef) fa_ fun t10=>za (fun K9=>gIf t10 true (lo w7 31 t2 fun t12=>lo w7 31 t3 fun t13=>ca qm #[t12,t13,(Value.func (.func 122) #[] #[])] w7 fun t14 w13=>
 K9 [t14] w13) (K9 [undef] w7)) (fun s10 _d11 w12=>
 zb t10 (s10.getD 0 undef) fa_ fun t15=>K t15 w12))
theorem aas {t0 t1 : Value} {w : World} {K : VW} (h : Xz t0 t1 w K) : ze prog y6 #[t0,t1] w K:=
 okC false (.s (.r (rz 3 0 10)) (.s (.r (ra 3 0 9 (.grp 7 true (ri 2 3 9) [9] (ra 2 5 0 (.grp 11 true (ri 3 7 37) [14] (rz 2 10 0)))))) (.n))) func112 rfl (by kernel_rfl) (by kernel_rfl) h
def YO (t0 t1 : Value) (w : World) (K : VW) : Prop:=
 pw w (Instr.box 31 t1) fun t3 w1=>
 lo w1 31 t3 fun t10=>ca kg #[t0,t10] w1 fun t11 w2=>
 pp (Op.unary .not t11) fun t12=>za (fun K3=>gIf t12 false (fl w2 t3 31 0 28 fun t15=>bt .neq 28 t15 (Value.int .u8 5) fun t16=>K3 [t16] w2) (K3 [undef] w2)) (fun s4 _d5 w6=>
 zb t12 tr_ (s4.getD 0 undef) fun t17=>zc t17 (K (.tuple #[(Value.slice Option.none 0 0),(i6 2)]) w6) (fl w6 t3 31 3 3 fun t20=>px 22 t0 t20 fun t21=>fl w6 t21 64 1 62 fun t23=>pp (Builtin.len_ #[62] 3 #[t23]) fun t24=>zt [(Value.slice Option.none 0 0),(i6 0)] w6 (fun s8 _d9 w10 K7=>
 bf .lss 3 (s8.getD 1 undef) t24 fun t26=>zc t26 (xl w10 62 t23 (s8.getD 1 undef) 105 fun t28=>pw w10 (Instr.alloc 105 true (.tuple #[])) fun t8 w11=>
 so w11 105 t8 t28 fun w12=>fl w12 t8 105 1 31 fun t31=>ca kf #[t31] w12 fun t32 w13=>
 pw w13 (Instr.buildSlice 29 1 #[(0,t32)]) fun t33 w14=>
 pw w14 (Builtin.append_ #[29,29] 29 #[(s8.getD 0 undef),t33]) fun t34 w15=>
 bt .add 3 (s8.getD 1 undef) (i6 1) fun t35=>K7 [t34,t35] w15) (K (.tuple #[(s8.getD 0 undef),(i6 0)]) w10))))
theorem Vx {t0 t1 : Value} {w : World} {K : VW} (h : YO t0 t1 w K) : ze prog jI #[t0,t1] w K:=
 okC false (.s (.r (rz 3 0 2)) (.s (.s (.r (ra 5 0 36 (.grp 13 false (ri 3 5 4) [16] (rz 1 8 0)))) (.c (.s (.r (rz 2 0 0)) (.n)) (.n))) (.s (.r (rz 1 0 0)) (.s (.s (.r (rz 8 0 1040)) (.b (.lp [6,25] (.s (.r (rz 1 0 0)) (.s (.c (.n) (.n)) (.s (.b (.s (.r (rz 4 0 164)) (.r (rz 7 0 2704)))) (.r (rz 2 0 0)))))))) (.s (.r (rz 3 0 0)) (.n)))))) func114 rfl (by kernel_rfl) (by kernel_rfl) h
def XA (t0 t1 : Value) (w : World) (K : VW) : Prop:=
 pw w (Instr.box 31 t1) fun t3 w1=>
 lo w1 31 t3 fun t7=>ca kg #[t0,t7] w1 fun t8 w2=>
 pp (Op.unary .not t8) fun t9=>zc t9 (K (.tuple #[fa_,(i6 2)]) w2) (lo w2 31 t3 fun t11=>ca qu #[t0,t11] w2 fun t12 w3=>
 K (.tuple #[t12,(i6 0)]) w3)
theorem aat {t0 t1 : Value} {w : World} {K : VW} (h : XA t0 t1 w K) : ze prog vw #[t0,t1] w K:=
 okC false (.s (.r (rz 3 0 2)) (.s (.s (.r (rz 4 0 36)) (.c (.s (.r (rz 2 0 0)) (.n)) (.n))) (.s (.r (rz 5 0 36)) (.n)))) func115 rfl (by kernel_rfl) (by kernel_rfl) h
def YP (t0 : Value) (w : World) (K : VW) : Prop:=
 pw w (Instr.box 31 t0) fun t1 w1=>
 lo w1 31 t1 fun t3=>ca xe #[t3] w1 fun t4 w2=>
 pp (Op.unary .not t4) fun t5=>zc t5 (K fa_ w2) (fl w2 t1 31 0 28 fun t7=>za (fun K3=>
 bt .eql 28 t7 (Value.int .u8 1) fun t9=>zc t9 (K3 [t9] w2) (bt .eql 28 t7 (Value.int .u8 2) fun t10=>K3 [t10] w2)) (fun s4 _d5 w6=>
 zc (s4.getD 0 undef) (K tr_ w6) (bt .eql 28 t7 (Value.int .u8 4) fun t12=>zc t12 (fl w6 t1 31 1 4 fun t14=>pp (Op.unary .not t14) fun t15=>K t15 w6) (K fa_ w6))))
theorem Vy {t0 : Value} {w : World} {K : VW} (h : YP t0 w K) : ze prog kN #[t0] w K:=
 okC false (.s (.r (rz 2 0 2)) (.s (.s (.r (rz 3 0 9)) (.c (.s (.r (rz 1 0 0)) (.n)) (.n))) (.s (.s (.r (rz 2 0 4)) (.b (.j [8] (.s (.r (rz 2 0 0)) (.c (.n) (.r (rz 2 0 0)))) (.c (.s (.r (rz 1 0 0)) (.n)) (.s (.r (rz 2 0 0)) (.c (.s (.r (rz 4 0 4)) (.n)) (.n))))))) (.s (.r (rz 1 0 0)) (.n))))) func120 rfl (by kernel_rfl) (by kernel_rfl) h
def XB (t0 t1 t2 : Value) (w : World) (K : VW) : Prop:=
 pw w (Instr.box 31 t0) fun t3 w1=>
 pw w1 (Instr.box 31 t1) fun t4 w2=>
 fl w2 t3 31 0 28 fun t8=>fl w2 t4 31 0 28 fun t10=>bf .neq 28 t8 t10 fun t11=>za (fun K3=>gIf t11 false (fl w2 t3 31 1 4 fun t14=>fl w2 t4 31 1 4 fun t16=>bf .neq 4 t14 t16 fun t17=>K3 [t17] w2) (K3 [undef] w2)) (fun s4 _d5 w6=>
 zb t11 tr_ (s4.getD 0 undef) fun t18=>za (fun K7=>gIf t18 false (fl w6 t3 31 3 3 fun t21=>fl w6 t4 31 3 3 fun t23=>bf .neq 3 t21 t23 fun t24=>K7 [t24] w6) (K7 [undef] w6)) (fun s8 _d9 w10=>
 zb t18 tr_ (s8.getD 0 undef) fun t25=>za (fun K11=>gIf t25 false (fl w10 t3 31 2 3 fun t29=>fl w10 t4 31 2 3 fun t31=>cv t2 #[t29,t31] w10 fun t32 w15=>
 pp (Op.unary .not t32) fun t33=>K11 [t33] w15) (K11 [undef] w10)) (fun s12 _d13 w14=>
 zb t25 tr_ (s12.getD 0 undef) fun t34=>zc t34 (K fa_ w14) (fl w14.drew t3 31 4 29 fun t36=>pp (Builtin.len_ #[29] 3 #[t36]) fun t37=>bt .eql 3 t37 (i6 0) fun t38=>za (fun K16=>gIf t38 false (fl w14.drew t3 31 4 29 fun t41=>xl w14.drew 29 t41 (i6 0) 31 fun t43=>fl w14.drew t4 31 4 29 fun t45=>xl w14.drew 29 t45 (i6 0) 31 fun t47=>ca qm #[t43,t47,t2] w14.drew fun t49 w20=>
 K16 [t49] w20) (K16 [undef] w14.drew)) (fun s17 _d18 w19=>
 zb t38 tr_ (s17.getD 0 undef) fun t50=>K t50 w19)))))
theorem aau {t0 t1 t2 : Value} {w : World} {K : VW} (h : XB t0 t1 t2 w K) : ze prog qm #[t0,t1,t2] w K:=
 okC false (.s (.r (rz 3 0 10)) (.s (.s (.r (ra 6 0 68 (.grp 12 false (ri 5 6 68) [17] (ra 2 11 0 (.grp 19 false (ri 5 13 68) [24] (ra 2 18 0 (.grp 26 false (ri 7 20 2320) [33] (rz 1 27 0)))))))) (.c (.s (.r (rz 1 0 0)) (.n)) (.n))) (.s (.r (ra 5 0 4 (.grp 39 false (ri 10 5 541764) [49] (rz 2 15 0)))) (.n)))) func121 rfl (by kernel_rfl) (by kernel_rfl) h
def Z5 (_t0 _t1 : Value) (w : World) (K : VW) : Prop:=
 K tr_ w
theorem JN {t0 t1 : Value} {w : World} {K : VW} (h : Z5 t0 t1 w K) : ze prog ZX #[t0,t1] w K:=
 okC false (.s (.r (rz 1 0 0)) (.s (.r (rz 1 0 0)) (.n))) func122 rfl (by kernel_rfl) (by kernel_rfl) h
def vF (t0 t1 : Value) (w : World) (K : VW) : Prop:=
 pw w (Instr.box 22 t0) fun t2 w1=>
 pw w1 (Instr.box 31 t1) fun t3 w2=>
 fl w2 t3 31 0 28 fun t6=>bt .eql 28 t6 (Value.int .u8 3) fun t8=>zc t8 (K tr_ w2) (bt .eql 28 t6 (Value.int .u8 5) fun t10=>zc t10 (lo w2 22 t2 fun t11=>fl w2 t3 31 3 3 fun t13=>px 22 t11 t13 fun t14=>fl w2 t14 64 1 62 fun t16=>pp (Instr.makeFunc (.func 131) #[] #[t2]) fun t17=>ca zN #[t16,t17] w2 fun t18 w3=>
 K t18 w3) (K fa_ w2))
theorem YQ {t0 t1 : Value} {w : World} {K : VW} (h : vF t0 t1 w K) : ze prog qu #[t0,t1] w K:=
 okC false (.s (.r (rz 3 0 10)) (.s (.s (.r (rz 2 0 4)) (.b (.s (.r (rz 2 0 0)) (.c (.s (.r (rz 1 0 0)) (.n)) (.s (.r (rz 2 0 0)) (.c (.s (.r (rz 9 0 33809)) (.n)) (.n))))))) (.s (.r (rz 1 0 0)) (.n)))) func125 rfl (by kernel_rfl) (by kernel_rfl) h
def Z6 (t0 t1 : Value) (w : World) (K : VW) : Prop:=
 pw w (Instr.box 105 t0) fun t2 w1=>
 lo w1 22 t1 fun t4=>fl w1 t2 105 1 31 fun t6=>ca qu #[t4,t6] w1 fun t7 w2=>
 K t7 w2
theorem JO {t0 t1 : Value} {w : World} {K : VW} (h : Z6 t0 t1 w K) : ze prog Vl #[t0,t1] w K:=
 okC false (.s (.r (rz 2 0 2)) (.s (.r (rz 5 0 145)) (.n))) func131 rfl (by kernel_rfl) (by kernel_rfl) h
end Go.Proofs.Tryz
end
section
namespace Go.Proofs.Tryz
open Go.Sh
set_option maxRecDepth 100000
def ZB (t0 t1 : Value) (w : World) (K : VW) : Prop:=
 pw w (Instr.box 31 t0) fun t2 w1=>
 pw w1 (Instr.box 31 t1) fun t3 w2=>
 fl w2 t2 31 0 28 fun t7=>fl w2 t3 31 0 28 fun t9=>bf .neq 28 t7 t9 fun t10=>za (fun K3=>gIf t10 false (fl w2 t2 31 1 4 fun t13=>fl w2 t3 31 1 4 fun t15=>bf .neq 4 t13 t15 fun t16=>K3 [t16] w2) (K3 [undef] w2)) (fun s4 _d5 w6=>
 zb t10 tr_ (s4.getD 0 undef) fun t17=>za (fun K7=>gIf t17 false (fl w6 t2 31 2 3 fun t20=>fl w6 t3 31 2 3 fun t22=>bf .neq 3 t20 t22 fun t23=>K7 [t23] w6) (K7 [undef] w6)) (fun s8 _d9 w10=>
 zb t17 tr_ (s8.getD 0 undef) fun t24=>za (fun K11=>gIf t24 false (fl w10 t2 31 3 3 fun t27=>fl w10 t3 31 3 3 fun t29=>bf .neq 3 t27 t29 fun t30=>K11 [t30] w10) (K11 [undef] w10)) (fun s12 _d13 w14=>
 zb t24 tr_ (s12.getD 0 undef) fun t31=>za (fun K15=>gIf t31 false (fl w14 t2 31 4 29 fun t34=>pp (Builtin.len_ #[29] 3 #[t34]) fun t35=>fl w14 t3 31 4 29 fun t37=>pp (Builtin.len_ #[29] 3 #[t37]) fun t38=>bf .neq 3 t35 t38 fun t39=>K15 [t39] w14) (K15 [undef] w14)) (fun s16 _d17 w18=>
 zb t31 tr_ (s16.getD 0 undef) fun t40=>zc t40 (K fa_ w18) (zt [(i6 0)] w18 (fun s20 _d21 w22 K19=>
 fl w22 t2 31 4 29 fun t43=>pp (Builtin.len_ #[29] 3 #[t43]) fun t44=>bf .lss 3 (s20.getD 0 undef) t44 fun t45=>zc t45 (fl w22.drew t2 31 4 29 fun t49=>xl w22.drew 29 t49 (s20.getD 0 undef) 31 fun t52=>fl w22.drew t3 31 4 29 fun t54=>xl w22.drew 29 t54 (s20.getD 0 undef) 31 fun t57=>ca z6 #[t52,t57] w22.drew fun t58 w23=>
 pp (Op.unary .not t58) fun t59=>zc t59 (K fa_ w23) (bt .add 3 (s20.getD 0 undef) (i6 1) fun t47=>K19 [t47] w23)) (K tr_ w22)))))))
theorem Q2 {t0 t1 : Value} {w : World} {K : VW} (h : ZB t0 t1 w K) : ze prog z6 #[t0,t1] w K:=
 okC false (.s (.r (rz 3 0 10)) (.s (.s (.r (ra 6 0 68 (.grp 11 false (ri 5 6 68) [16] (ra 2 11 0 (.grp 18 false (ri 5 13 68) [23] (ra 2 18 0 (.grp 25 false (ri 5 20 68) [30] (ra 2 25 0 (.grp 32 false (ri 7 27 260) [39] (rz 1 34 0)))))))))) (.c (.s (.r (rz 1 0 0)) (.n)) (.n))) (.s (.s (.r (rz 1 0 0)) (.b (.lp [5] (.s (.s (.r (rz 5 0 16)) (.c (.n) (.n))) (.s (.b (.s (.r (rz 12 0 2363652)) (.c (.s (.r (rz 1 0 0)) (.n)) (.n)))) (.r (rz 3 0 0))))))) (.s (.r (rz 1 0 0)) (.n))))) func9 rfl (by kernel_rfl) (by kernel_rfl) h
def Vz (t0 : Value) (w : World) (K : VW) : Prop:=
 pw w (Instr.box 31 t0) fun t1 w1=>
 lo w1 31 t1 fun t3=>ca xi #[t3,(i6 32),(i6 48)] w1 fun t4 w2=>
 K t4 w2
theorem ada {t0 : Value} {w : World} {K : VW} (h : Vz t0 w K) : ze prog vX #[t0] w K:=
 okC false (.s (.r (rz 2 0 2)) (.s (.r (rz 3 0 9)) (.n))) func96 rfl (by kernel_rfl) (by kernel_rfl) h
def ZC (t0 t1 t2 : Value) (w : World) (K : VW) : Prop:=
 pw w (Instr.box 31 t0) fun t3 w1=>
 bt .lss 3 t2 (i6 1) fun t8=>zc t8 (K fa_ w1) (fl w1 t3 31 0 28 fun t10=>za (fun K2=>
 bt .eql 28 t10 (Value.int .u8 1) fun t12=>zc t12 (K2 [t12] w1) (bt .eql 28 t10 (Value.int .u8 2) fun t13=>K2 [t13] w1)) (fun s3 _d4 w5=>
 zc (s3.getD 0 undef) (fl w5 t3 31 1 4 fun t15=>pp (Op.unary .not t15) fun t16=>za (fun K6=>gIf t16 true (fl w5 t3 31 2 3 fun t19=>bt .eql 3 t19 (i6 0) fun t20=>K6 [t20] w5) (K6 [undef] w5)) (fun s7 _d8 w9=>
 zb t16 (s7.getD 0 undef) fa_ fun t21=>za (fun K10=>gIf t21 true (fl w9 t3 31 3 3 fun t24=>bt .eql 3 t24 (i6 0) fun t25=>K10 [t25] w9) (K10 [undef] w9)) (fun s11 _d12 w13=>
 zb t21 (s11.getD 0 undef) fa_ fun t26=>za (fun K14=>gIf t26 true (fl w13 t3 31 4 29 fun t29=>pp (Builtin.len_ #[29] 3 #[t29]) fun t30=>bt .eql 3 t30 (i6 0) fun t31=>K14 [t31] w13) (K14 [undef] w13)) (fun s15 _d16 w17=>
 zb t26 (s15.getD 0 undef) fa_ fun t32=>K t32 w17)))) (bt .eql 28 t10 (Value.int .u8 5) fun t34=>zc t34 (fl w5 t3 31 1 4 fun t36=>pp (Op.unary .not t36) fun t37=>za (fun K18=>gIf t37 true (fl w5 t3 31 2 3 fun t40=>bt .eql 3 t40 (i6 0) fun t41=>K18 [t41] w5) (K18 [undef] w5)) (fun s19 _d20 w21=>
 zb t37 (s19.getD 0 undef) fa_ fun t42=>za (fun K22=>gIf t42 true (fl w21 t3 31 3 3 fun t45=>bt .geq 3 t45 (i6 0) fun t46=>K22 [t46] w21) (K22 [undef] w21)) (fun s23 _d24 w25=>
 zb t42 (s23.getD 0 undef) fa_ fun t47=>za (fun K26=>gIf t47 true (fl w25 t3 31 3 3 fun t50=>bf .lss 3 t50 t1 fun t52=>K26 [t52] w25) (K26 [undef] w25)) (fun s27 _d28 w29=>
 zb t47 (s27.getD 0 undef) fa_ fun t53=>za (fun K30=>gIf t53 true (fl w29 t3 31 4 29 fun t56=>pp (Builtin.len_ #[29] 3 #[t56]) fun t57=>bt .eql 3 t57 (i6 0) fun t58=>K30 [t58] w29) (K30 [undef] w29)) (fun s31 _d32 w33=>
 zb t53 (s31.getD 0 undef) fa_ fun t59=>K t59 w33))))) (bt .eql 28 t10 (Value.int .u8 3) fun t61=>zc t61 (fl w5 t3 31 1 4 fun t63=>pp (Op.unary .not t63) fun t64=>za (fun K34=>gIf t64 true (fl w5 t3 31 2 3 fun t67=>bt .eql 3 t67 (i6 0) fun t68=>K34 [t68] w5) (K34 [undef] w5)) (fun s35 _d36 w37=>
 zb t64 (s35.getD 0 undef) fa_ fun t69=>za (fun K38=>gIf t69 true (fl w37 t3 31 3 3 fun t72=>bt .eql 3 t72 (i6 0) fun t73=>K38 [t73] w37) (K38 [undef] w37)) (fun s39 _d40 w41=>
 zb t69 (s39.getD 0 undef) fa_ fun t74=>za (fun K42=>gIf t74 true (fl w41 t3 31 4 29 fun t77=>pp (Builtin.len_ #[29] 3 #[t77]) fun t78=>bt .eql 3 t78 (i6 1) fun t79=>K42 [t79] w41) (K42 [undef] w41)) (fun s43 _d44 w45=>
 zb t74 (s43.getD 0 undef) fa_ fun t80=>za (fun K46=>gIf t80 true (fl w45 t3 31 4 29 fun t83=>xl w45 29 t83 (i6 0) 31 fun t85=>bt .sub 3 t2 (i6 1) fun t88=>ca xi #[t85,t1,t88] w45 fun t89 w50=>
 K46 [t89] w50) (K46 [undef] w45)) (fun s47 _d48 w49=>
 zb t80 (s47.getD 0 undef) fa_ fun t90=>K t90 w49))))) (bt .eql 28 t10 (Value.int .u8 4) fun t92=>zc t92 (fl w5 t3 31 2 3 fun t94=>bt .geq 3 t94 (i6 (-1)) fun t95=>za (fun K51=>gIf t95 true (fl w5 t3 31 3 3 fun t98=>bt .eql 3 t98 (i6 0) fun t99=>K51 [t99] w5) (K51 [undef] w5)) (fun s52 _d53 w54=>
 zb t95 (s52.getD 0 undef) fa_ fun t100=>za (fun K55=>gIf t100 true (fl w54 t3 31 4 29 fun t103=>pp (Builtin.len_ #[29] 3 #[t103]) fun t104=>bt .eql 3 t104 (i6 1) fun t105=>K55 [t105] w54) (K55 [undef] w54)) (fun s56 _d57 w58=>
 zb t100 (s56.getD 0 undef) fa_ fun t106=>za (fun K59=>gIf t106 true (fl w58 t3 31 4 29 fun t109=>xl w58 29 t109 (i6 0) 31 fun t111=>bt .sub 3 t2 (i6 1) fun t114=>ca xi #[t111,t1,t114] w58 fun t115 w63=>
 K59 [t115] w63) (K59 [undef] w58)) (fun s60 _d61 w62=>
 zb t106 (s60.getD 0 undef) fa_ fun t116=>K t116 w62)))) (K fa_ w5))))))
theorem XC {t0 t1 t2 : Value} {w : World} {K : VW} (h : ZC t0 t1 t2 w K) : ze prog xi #[t0,t1,t2] w K:=
 okC false (.s (.r (rz 2 0 2)) (.s (.s (.r (rz 2 0 0)) (.c (.s (.r (rz 1 0 0)) (.n)) (.n))) (.s (.s (.r (rz 2 0 4)) (.b (.j [11] (.s (.r (rz 2 0 0)) (.c (.n) (.r (rz 2 0 0)))) (.c (.s (.r (ra 4 0 4 (.grp 17 true (ri 3 4 4) [20] (ra 2 7 0 (.grp 22 true (ri 3 9 4) [25] (ra 2 12 0 (.grp 27 true (ri 4 14 4) [31] (rz 2 18 0)))))))) (.n)) (.s (.r (rz 2 0 0)) (.c (.s (.r (ra 4 0 4 (.grp 38 true (ri 3 4 4) [41] (ra 2 7 0 (.grp 43 true (ri 3 9 4) [46] (ra 2 12 0 (.grp 48 true (ri 4 14 4) [52] (ra 2 18 0 (.grp 54 true (ri 4 20 4) [58] (rz 2 24 0)))))))))) (.n)) (.s (.r (rz 2 0 0)) (.c (.s (.r (ra 4 0 4 (.grp 65 true (ri 3 4 4) [68] (ra 2 7 0 (.grp 70 true (ri 3 9 4) [73] (ra 2 12 0 (.grp 75 true (ri 4 14 4) [79] (ra 2 18 0 (.grp 81 true (ri 8 20 32836) [89] (rz 2 28 0)))))))))) (.n)) (.s (.r (rz 2 0 0)) (.c (.s (.r (ra 4 0 4 (.grp 96 true (ri 3 4 4) [99] (ra 2 7 0 (.grp 101 true (ri 4 9 4) [105] (ra 2 13 0 (.grp 107 true (ri 8 15 32836) [115] (rz 2 23 0)))))))) (.n)) (.n))))))))))) (.s (.r (rz 1 0 0)) (.n))))) func116 rfl (by kernel_rfl) (by kernel_rfl) h
def Z7 (t0 : Value) (w : World) (K : VW) : Prop:=
 pw w (Instr.box 31 t0) fun t1 w1=>
 lo w1 31 t1 fun t4=>ca vX #[t4] w1 fun t5 w2=>
 pp (Op.unary .not t5) fun t6=>zc t6 (K (Value.slice Option.none 0 0) w2) (zt [(Value.slice Option.none 0 0)] w2 (fun s4 _d5 w6 K3=>
 fl w6 t1 31 0 28 fun t8=>bt .eql 28 t8 (Value.int .u8 4) fun t9=>za (fun K7=>gIf t9 false (fl w6 t1 31 0 28 fun t12=>bt .eql 28 t12 (Value.int .u8 3) fun t13=>K7 [t13] w6) (K7 [undef] w6)) (fun s8 _d9 w10=>
 zb t9 tr_ (s8.getD 0 undef) fun t14=>zc t14 (za (fun K11=>
 fl w10 t1 31 0 28 fun t16=>bt .eql 28 t16 (Value.int .u8 4) fun t17=>zc t17 (fl w10 t1 31 2 3 fun t20=>pw w10 (Instr.buildSlice 39 1 #[(0,t20)]) fun t21 w15=>
 pw w15 (Builtin.append_ #[39,39] 39 #[(s4.getD 0 undef),t21]) fun t22 w16=>
 K11 [t22] w16) (K11 [(s4.getD 0 undef)] w10)) (fun s12 _d13 w14=>
 fl w14 t1 31 4 29 fun t24=>xl w14 29 t24 (i6 0) 31 fun t26=>so w14 31 t1 t26 fun w17=>K3 [(s12.getD 0 undef)] w17)) (K (s4.getD 0 undef) w10))))
theorem JP {t0 : Value} {w : World} {K : VW} (h : Z7 t0 w K) : ze prog kx #[t0] w K:=
 okC false (.s (.r (rz 2 0 2)) (.s (.s (.r (rz 3 0 9)) (.c (.s (.r (rz 1 0 0)) (.n)) (.n))) (.s (.r (rz 1 0 0)) (.s (.b (.lp [3] (.s (.s (.r (ra 4 0 4 (.grp 10 false (ri 3 4 4) [13] (rz 1 7 0)))) (.c (.n) (.n))) (.b (.j [3] (.s (.r (rz 3 0 4)) (.c (.r (rz 6 0 656)) (.n))) (.r (rz 5 0 580))))))) (.s (.r (rz 2 0 0)) (.n)))))) func79 rfl (by kernel_rfl) (by kernel_rfl) h
def YR (t0 t1 : Value) (w : World) (K : VW) : Prop:=
 pw w (Instr.box 31 t1) fun t3 w1=>
 lo w1 31 t3 fun t10=>ca j0 #[t0,t10] w1 fun t11 w2=>
 pp (Op.unary .not t11) fun t12=>za (fun K3=>gIf t12 false (fl w2 t3 31 0 28 fun t15=>bt .neq 28 t15 (Value.int .u8 5) fun t16=>K3 [t16] w2) (K3 [undef] w2)) (fun s4 _d5 w6=>
 zb t12 tr_ (s4.getD 0 undef) fun t17=>zc t17 (K (.tuple #[(Value.slice Option.none 0 0),(i6 2)]) w6) (fl w6 t3 31 3 3 fun t20=>px 22 t0 t20 fun t21=>fl w6 t21 64 1 62 fun t23=>zt [(Value.slice Option.none 0 0),(i6 0)] w6 (fun s8 _d9 w10 K7=>
 pp (Builtin.len_ #[62] 3 #[t23]) fun t26=>bf .lss 3 (s8.getD 1 undef) t26 fun t27=>zc t27 (px 62 t23 (s8.getD 1 undef) fun t33=>fl w10 t33 105 1 31 fun t35=>ca j1 #[t35] w10 fun t36 w11=>
 pw w11 (Instr.buildSlice 29 1 #[(0,t36)]) fun t37 w12=>
 pw w12 (Builtin.append_ #[29,29] 29 #[(s8.getD 0 undef),t37]) fun t38 w13=>
 bt .add 3 (s8.getD 1 undef) (i6 1) fun t29=>K7 [t38,t29] w13) (K (.tuple #[(s8.getD 0 undef),(i6 0)]) w10))))
theorem VA {t0 t1 : Value} {w : World} {K : VW} (h : YR t0 t1 w K) : ze prog jN #[t0,t1] w K:=
 okC false (.s (.r (rz 3 0 2)) (.s (.s (.r (ra 5 0 36 (.grp 13 false (ri 3 5 4) [16] (rz 1 8 0)))) (.c (.s (.r (rz 2 0 0)) (.n)) (.n))) (.s (.r (rz 1 0 0)) (.s (.r (rz 7 0 1040)) (.s (.s (.r (rz 1 0 0)) (.b (.lp [6,8] (.s (.s (.r (rz 4 0 0)) (.c (.n) (.n))) (.s (.b (.r (rz 10 0 173056))) (.r (rz 3 0 0))))))) (.s (.r (rz 3 0 0)) (.n))))))) func90 rfl (by kernel_rfl) (by kernel_rfl) h
def XD (t0 t1 : Value) (w : World) (K : VW) : Prop:=
 pw w (Instr.box 31 t1) fun t3 w1=>
 lo w1 31 t3 fun t7=>ca j0 #[t0,t7] w1 fun t8 w2=>
 pp (Op.unary .not t8) fun t9=>zc t9 (K (.tuple #[fa_,(i6 2)]) w2) (lo w2 31 t3 fun t11=>ca qv #[t0,t11] w2 fun t12 w3=>
 K (.tuple #[t12,(i6 0)]) w3)
theorem aav {t0 t1 : Value} {w : World} {K : VW} (h : XD t0 t1 w K) : ze prog vA #[t0,t1] w K:=
 okC false (.s (.r (rz 3 0 2)) (.s (.s (.r (rz 4 0 36)) (.c (.s (.r (rz 2 0 0)) (.n)) (.n))) (.s (.r (rz 5 0 36)) (.n)))) func92 rfl (by kernel_rfl) (by kernel_rfl) h
def YS (t0 : Value) (w : World) (K : VW) : Prop:=
 pw w (Instr.box 31 t0) fun t1 w1=>
 lo w1 31 t1 fun t3=>ca vX #[t3] w1 fun t4 w2=>
 za (fun K3=>gIf t4 true (fl w2 t1 31 0 28 fun t7=>bt .eql 28 t7 (Value.int .u8 1) fun t8=>K3 [t8] w2) (K3 [undef] w2)) (fun s4 _d5 w6=>
 za (fun K7=>gIf (s4.getD 0 undef) false (fl w6 t1 31 0 28 fun t11=>bt .eql 28 t11 (Value.int .u8 2) fun t12=>K7 [t12] w6) (K7 [undef] w6)) (fun s8 _d9 w10=>
 za (fun K11=>gIf t4 true (zb (s4.getD 0 undef) tr_ (s8.getD 0 undef) fun t13=>K11 [t13] w10) (K11 [undef] w10)) (fun s12 _d13 w14=>
 za (fun K15=>gIf (s12.getD 0 undef) false (fl w14 t1 31 0 28 fun t16=>bt .eql 28 t16 (Value.int .u8 4) fun t17=>K15 [t17] w14) (K15 [undef] w14)) (fun s16 _d17 w18=>
 za (fun K19=>gIf (s16.getD 0 undef) true (fl w18 t1 31 1 4 fun t20=>pp (Op.unary .not t20) fun t21=>K19 [t21] w18) (K19 [undef] w18)) (fun s20 _d21 w22=>
 za (fun K23=>gIf (s12.getD 0 undef) false (zb (s16.getD 0 undef) (s20.getD 0 undef) fa_ fun t22=>K23 [t22] w22) (K23 [undef] w22)) (fun s24 _d25 w26=>
 za (fun K27=>gIf t4 true (zb (s12.getD 0 undef) tr_ (s24.getD 0 undef) fun t23=>K27 [t23] w26) (K27 [undef] w26)) (fun s28 _d29 w30=>
 zb t4 (s28.getD 0 undef) fa_ fun t24=>K t24 w30)))))))
theorem VB {t0 : Value} {w : World} {K : VW} (h : YS t0 w K) : ze prog kO #[t0] w K:=
 okC false (.s (.r (rz 2 0 2)) (.s (.r (ra 3 0 9 (.grp 5 true (ri 4 3 4) [9] (.grp 9 false (ri 3 7 4) [12] (.grp 5 true (ri 2 10 0) [14] (.grp 14 false (ri 4 12 4) [18] (.grp 18 true (ri 3 16 4) [21] (.grp 14 false (ri 1 19 0) [22] (.grp 5 true (ri 1 20 0) [23] (rz 2 21 0)))))))))) (.n))) func98 rfl (by kernel_rfl) (by kernel_rfl) h
def Jl (t0 t1 : Value) (w : World) (K : VW) : Prop:=
 pw w (Instr.box 31 t1) fun t3 w1=>
 ca jf #[t0] w1 fun t9 w2=>
 pe t9 0 fun _t10=>pe t9 1 fun t11=>bt .eql 3 t11 (i6 0) fun t13=>za (fun K3=>gIf t13 true (lo w2 31 t3 fun t15=>pp (Builtin.len_ #[22] 3 #[t0]) fun t17=>ca xi #[t15,t17,(i6 48)] w2 fun t18 w7=>
 K3 [t18] w7) (K3 [undef] w2)) (fun s4 _d5 w6=>
 zb t13 (s4.getD 0 undef) fa_ fun t19=>K t19 w6)
theorem acn {t0 t1 : Value} {w : World} {K : VW} (h : Jl t0 t1 w K) : ze prog j0 #[t0,t1] w K:=
 okC false (.s (.r (rz 2 0 2)) (.s (.r (rz 7 0 8)) (.s (.r (ra 3 0 0 (.grp 14 true (ri 4 3 129) [18] (rz 2 7 0)))) (.n)))) func100 rfl (by kernel_rfl) (by kernel_rfl) h
def Jm (t0 : Value) (w : World) (K : VW) : Prop:=
 pw w (Instr.box 31 t0) fun t1 w1=>
 pw w1 (Instr.alloc 31 true (.tuple #[])) fun t2 w2=>
 fl w2 t1 31 4 29 fun t6=>pf 31 t1 4 fun t7=>so w2 29 t7 (Value.slice Option.none 0 0) fun w3=>zt [(i6 0)] w3 (fun s5 _d6 w7 K4=>
 pp (Builtin.len_ #[29] 3 #[t6]) fun t10=>bf .lss 3 (s5.getD 0 undef) t10 fun t11=>zc t11 (fl w7.drew t1 31 4 29 fun t15=>xl w7.drew 29 t6 (s5.getD 0 undef) 31 fun t19=>ca j1 #[t19] w7.drew fun t20 w8=>
 Ext w7.drew w8∧
 pw w8 (Instr.buildSlice 29 1 #[(0,t20)]) fun t21 w9=>
 Ext w8 w9∧
 pw w9 (Builtin.append_ #[29,29] 29 #[t15,t21]) fun t22 w10=>
 pf 31 t1 4 fun t23=>so w10 29 t23 t22 fun w11=>bt .add 3 (s5.getD 0 undef) (i6 1) fun t13=>K4 [t13] w11) (lo w7 31 t1 fun t24=>so w7 31 t2 t24 fun w12=>pq w12 (zf 31 t2) fun r13=>K r13 w12))
theorem aco {t0 : Value} {w : World} {K : VW} (h : Jm t0 w K) : ze prog j1 #[t0] w K:=
 okC false (.s (.r (rz 2 0 10)) (.s (.r (rz 3 0 4)) (.s (.r (rz 2 0 8)) (.s (.s (.r (rz 1 0 0)) (.b (.lp [4] (.s (.s (.r (rz 4 0 0)) (.c (.n) (.n))) (.s (.b (.r (rz 11 0 2290692))) (.r (rz 3 0 0))))))) (.s (.r (rz 2 0 9)) (.n)))))) func101 rfl (by kernel_rfl) (by kernel_rfl) h
def vG (t0 t1 : Value) (w : World) (K : VW) : Prop:=
 pw w (Instr.box 31 t1) fun t3 w1=>
 fl w1 t3 31 0 28 fun t8=>bt .neq 28 t8 (Value.int .u8 5) fun t9=>zc t9 (fl w1 t3 31 0 28 fun t11=>bt .eql 28 t11 (Value.int .u8 3) fun t12=>K t12 w1) (fl w1 t3 31 3 3 fun t15=>px 22 t0 t15 fun t16=>fl w1 t16 64 1 62 fun t18=>zt [(i6 0)] w1 (fun s3 _d4 w5 K2=>
 pp (Builtin.len_ #[62] 3 #[t18]) fun t21=>bf .lss 3 (s3.getD 0 undef) t21 fun t22=>zc t22 (px 62 t18 (s3.getD 0 undef) fun t28=>fl w5 t28 105 1 31 fun t30=>ca qv #[t0,t30] w5 fun t31 w6=>
 zc t31 (K tr_ w6) (bt .add 3 (s3.getD 0 undef) (i6 1) fun t24=>K2 [t24] w6)) (K fa_ w5)))
theorem YT {t0 t1 : Value} {w : World} {K : VW} (h : vG t0 t1 w K) : ze prog qv #[t0,t1] w K:=
 okC false (.s (.r (rz 2 0 2)) (.s (.s (.r (rz 3 0 4)) (.c (.s (.r (rz 4 0 4)) (.n)) (.n))) (.s (.r (rz 7 0 1040)) (.s (.s (.r (rz 1 0 0)) (.b (.lp [6] (.s (.s (.r (rz 4 0 0)) (.c (.n) (.n))) (.s (.b (.s (.r (rz 7 0 9216)) (.c (.s (.r (rz 1 0 0)) (.n)) (.n)))) (.r (rz 3 0 0))))))) (.s (.r (rz 1 0 0)) (.n)))))) func102 rfl (by kernel_rfl) (by kernel_rfl) h
def Z8 (t0 : Value) (w : World) (K : VW) : Prop:=
 pp (Builtin.len_ #[22] 3 #[t0]) fun t10=>bt .gtr 3 t10 (i6 32) fun t11=>zc t11 (K (.tuple #[(i6 32),(i6 2)]) w) (zt [(i6 0)] w (fun s2 _d3 w4 K1=>
 pp (Builtin.len_ #[22] 3 #[t0]) fun t14=>bf .lss 3 (s2.getD 0 undef) t14 fun t15=>zc t15 (px 22 t0 (s2.getD 0 undef) fun t20=>fl w4 t20 64 1 62 fun t22=>pp (Builtin.len_ #[62] 3 #[t22]) fun t24=>bt .lss 3 t24 (i6 1) fun t25=>za (fun K5=>gIf t25 false (pp (Builtin.len_ #[62] 3 #[t22]) fun t28=>bt .gtr 3 t28 (i6 8) fun t29=>K5 [t29] w4) (K5 [undef] w4)) (fun s6 _d7 w8=>
 zb t25 tr_ (s6.getD 0 undef) fun t30=>zc t30 (K (.tuple #[(s2.getD 0 undef),(i6 2)]) w8) (zt [(i6 0)] w8 (fun s10 _d11 w12 K9=>
 pp (Builtin.len_ #[62] 3 #[t22]) fun t34=>bf .lss 3 (s10.getD 0 undef) t34 fun t35=>zc t35 (px 62 t22 (s10.getD 0 undef) fun t40=>fl w12 t40 105 1 31 fun t42=>pp (Builtin.len_ #[22] 3 #[t0]) fun t44=>ca xi #[t42,t44,(i6 48)] w12 fun t45 w13=>
 pp (Op.unary .not t45) fun t46=>za (fun K14=>gIf t46 false (px 62 t22 (s10.getD 0 undef) fun t50=>fl w13 t50 105 1 31 fun t52=>ca qw #[t52] w13 fun t53 w18=>
 pp (Op.unary .not t53) fun t54=>K14 [t54] w18) (K14 [undef] w13)) (fun s15 _d16 w17=>
 zb t46 tr_ (s15.getD 0 undef) fun t55=>zc t55 (K (.tuple #[(s2.getD 0 undef),(i6 2)]) w17) (bt .add 3 (s10.getD 0 undef) (i6 1) fun t37=>K9 [t37] w17))) (bt .add 3 (s2.getD 0 undef) (i6 1) fun t17=>K1 [t17] w12))))) (zt [(i6 0)] w4 (fun s20 _d21 w22 K19=>
 pp (Builtin.len_ #[22] 3 #[t0]) fun t59=>bf .lss 3 (s20.getD 0 undef) t59 fun t60=>zc t60 (ca jg #[t0,(s20.getD 0 undef)] w22 fun t65 w23=>
 zc t65 (K (.tuple #[(s20.getD 0 undef),(i6 2)]) w23) (bt .add 3 (s20.getD 0 undef) (i6 1) fun t62=>K19 [t62] w23)) (zt [(i6 0)] w22 (fun s25 _d26 w27 K24=>
 pp (Builtin.len_ #[22] 3 #[t0]) fun t69=>bf .lss 3 (s25.getD 0 undef) t69 fun t70=>zc t70 (pp (Instr.build 31 #[(0,(Value.int .u8 5)),(3,(s25.getD 0 undef))]) fun t75=>ca qy #[t0,t75,(i6 16)] w27 fun t76 w28=>
 bt .gtr 3 t76 (i6 16) fun t77=>zc t77 (K (.tuple #[(s25.getD 0 undef),(i6 2)]) w28) (bt .add 3 (s25.getD 0 undef) (i6 1) fun t72=>K24 [t72] w28)) (K (.tuple #[(i6 0),(i6 0)]) w27)))))))
theorem JQ {t0 : Value} {w : World} {K : VW} (h : Z8 t0 w K) : ze prog jf #[t0] w K:=
 okC false (.s (.r (rz 2 0 0)) (.s (.s (.r (rz 3 0 0)) (.c (.s (.r (rz 2 0 0)) (.n)) (.n))) (.s (.s (.r (rz 1 0 0)) (.b (.lp [4] (.s (.s (.r (rz 4 0 0)) (.c (.n) (.n))) (.s (.b (.s (.r (rz 6 0 256)) (.s (.s (.r (ra 4 0 0 (.grp 26 false (ri 3 4 0) [29] (rz 1 7 0)))) (.c (.s (.r (rz 3 0 0)) (.n)) (.n))) (.s (.r (rz 1 0 0)) (.b (.lp [6] (.s (.s (.r (rz 4 0 0)) (.c (.n) (.n))) (.s (.b (.s (.r (ra 10 0 33024 (.grp 47 false (ri 7 10 2304) [54] (rz 1 17 0)))) (.c (.s (.r (rz 3 0 0)) (.n)) (.n)))) (.r (rz 3 0 0)))))))))) (.r (rz 3 0 0))))))) (.s (.s (.r (rz 1 0 0)) (.b (.lp [7] (.s (.s (.r (rz 4 0 0)) (.c (.n) (.n))) (.s (.b (.s (.r (rz 3 0 32)) (.c (.s (.r (rz 3 0 0)) (.n)) (.n)))) (.r (rz 3 0 0))))))) (.s (.s (.r (rz 1 0 0)) (.b (.lp [8] (.s (.s (.r (rz 4 0 0)) (.c (.n) (.n))) (.s (.b (.s (.r (rz 5 0 128)) (.c (.s (.r (rz 3 0 0)) (.n)) (.n)))) (.r (rz 3 0 0))))))) (.s (.r (rz 2 0 0)) (.n))))))) func117 rfl (by kernel_rfl) (by kernel_rfl) h
def XE (t0 : Value) (w : World) (K : VW) : Prop:=
 pw w (Instr.box 31 t0) fun t1 w1=>
 fl w1 t1 31 0 28 fun t4=>bt .neq 28 t4 (Value.int .u8 4) fun t5=>za (fun K2=>gIf t5 true (fl w1 t1 31 0 28 fun t8=>bt .neq 28 t8 (Value.int .u8 3) fun t9=>K2 [t9] w1) (K2 [undef] w1)) (fun s3 _d4 w5=>
 za (fun K6=>gIf (s3.getD 0 undef) false (fl w5 t1 31 4 29 fun t12=>xl w5 29 t12 (i6 0) 31 fun t14=>ca qw #[t14] w5 fun t15 w10=>
 K6 [t15] w10) (K6 [undef] w5)) (fun s7 _d8 w9=>
 za (fun K11=>gIf t5 true (zb (s3.getD 0 undef) tr_ (s7.getD 0 undef) fun t16=>K11 [t16] w9) (K11 [undef] w9)) (fun s12 _d13 w14=>
 zb t5 (s12.getD 0 undef) fa_ fun t17=>K t17 w14)))
theorem aaw {t0 : Value} {w : World} {K : VW} (h : XE t0 w K) : ze prog qw #[t0] w K:=
 okC false (.s (.r (rz 2 0 2)) (.s (.r (ra 4 0 4 (.grp 6 true (ri 4 4 4) [10] (.grp 10 false (ri 5 8 580) [15] (.grp 6 true (ri 1 13 0) [16] (rz 2 14 0)))))) (.n))) func126 rfl (by kernel_rfl) (by kernel_rfl) h
def Z9 (t0 t1 : Value) (w : World) (K : VW) : Prop:=
 pp (Builtin.len_ #[22] 3 #[t0]) fun t12=>pw w (Instr.makeSlice 174 t12 t12) fun t13 w1=>
 pw w1 (Instr.buildSlice 39 1 #[(0,t1)]) fun t16 w2=>
 pw w2 (Builtin.append_ #[39,39] 39 #[(Value.slice Option.none 0 0),t16]) fun t17 w3=>
 zt [t17,(i6 0)] w3 (fun s5 _d6 w7 K4=>
 pp (Builtin.len_ #[39] 3 #[(s5.getD 0 undef)]) fun t20=>bf .lss 3 (s5.getD 1 undef) t20 fun t21=>zc t21 (xl w7 39 (s5.getD 0 undef) (s5.getD 1 undef) 3 fun t28=>px 22 t0 t28 fun t29=>fl w7 t29 64 1 62 fun t31=>zt [(s5.getD 0 undef),(i6 0)] w7 (fun s9 _d10 w11 K8=>
 pp (Builtin.len_ #[62] 3 #[t31]) fun t34=>bf .lss 3 (s9.getD 1 undef) t34 fun t35=>zc t35 (za (fun K12=>
 px 62 t31 (s9.getD 1 undef) fun t40=>fl w11 t40 105 1 31 fun t42=>pw w11 (Instr.alloc 31 true (.tuple #[])) fun t10 w16=>
 so w16 31 t10 t42 fun w17=>fl w17 t10 31 0 28 fun t44=>bt .neq 28 t44 (Value.int .u8 5) fun t45=>zc t45 (K12 [(s9.getD 0 undef)] w17) (fl w17 t10 31 3 3 fun t47=>bf .eql 3 t47 t1 fun t49=>zc t49 (K tr_ w17) (fl w17 t10 31 3 3 fun t52=>xl w17 174 t13 t52 4 fun t54=>pp (Op.unary .not t54) fun t55=>zc t55 (fl w17 t10 31 3 3 fun t58=>px 174 t13 t58 fun t59=>so w17 4 t59 tr_ fun w18=>fl w18 t10 31 3 3 fun t62=>pw w18 (Instr.buildSlice 39 1 #[(0,t62)]) fun t63 w19=>
 pw w19 (Builtin.append_ #[39,39] 39 #[(s9.getD 0 undef),t63]) fun t64 w20=>
 K12 [t64] w20) (K12 [(s9.getD 0 undef)] w17)))) (fun s13 _d14 w15=>
 bt .add 3 (s9.getD 1 undef) (i6 1) fun t37=>K8 [(s13.getD 0 undef),t37] w15)) (bt .add 3 (s5.getD 1 undef) (i6 1) fun t23=>K4 [(s9.getD 0 undef),t23] w11))) (K fa_ w7))
theorem JR {t0 t1 : Value} {w : World} {K : VW} (h : Z9 t0 t1 w K) : ze prog jg #[t0,t1] w K:=
 okC false (.s (.r (rz 1 0 0)) (.s (.r (rz 1 0 0)) (.s (.r (rz 4 0 32)) (.s (.r (rz 5 0 160)) (.s (.s (.r (rz 1 0 0)) (.b (.lp [5,7] (.s (.s (.r (rz 4 0 0)) (.c (.n) (.n))) (.s (.b (.s (.r (rz 9 0 16640)) (.s (.r (rz 1 0 0)) (.b (.lp [5,9] (.s (.s (.r (rz 4 0 0)) (.c (.n) (.n))) (.j [5] (.b (.s (.r (rz 7 0 10496)) (.s (.s (.r (rz 3 0 4)) (.c (.n) (.n))) (.s (.s (.r (rz 4 0 4)) (.c (.s (.r (rz 1 0 0)) (.n)) (.n))) (.s (.r (rz 6 0 272)) (.c (.s (.r (rz 5 0 528)) (.r (rz 6 0 656))) (.n))))))) (.r (rz 3 0 0))))))))) (.r (rz 3 0 0))))))) (.s (.r (rz 1 0 0)) (.n))))))) func127 rfl (by kernel_rfl) (by kernel_rfl) h
def vH (t0 t1 t2 : Value) (w : World) (K : VW) : Prop:=
 pw w (Instr.box 31 t1) fun t4 w1=>
 fl w1 t4 31 0 28 fun t11=>bt .neq 28 t11 (Value.int .u8 5) fun t12=>zc t12 (K (i6 1) w1) (fl w1 t4 31 3 3 fun t15=>px 22 t0 t15 fun t16=>fl w1 t16 64 1 62 fun t18=>zt [(i6 0),(i6 0)] w1 (fun s3 _d4 w5 K2=>
 pp (Builtin.len_ #[62] 3 #[t18]) fun t21=>bf .lss 3 (s3.getD 1 undef) t21 fun t22=>za (fun K6=>gIf t22 true (bf .leq 3 (s3.getD 0 undef) t2 fun t26=>K6 [t26] w5) (K6 [undef] w5)) (fun s7 _d8 w9=>
 zb t22 (s7.getD 0 undef) fa_ fun t27=>zc t27 (px 62 t18 (s3.getD 1 undef) fun t34=>fl w9 t34 105 1 31 fun t36=>bf .sub 3 t2 (s3.getD 0 undef) fun t39=>ca qy #[t0,t36,t39] w9 fun t40 w10=>
 bf .add 3 (s3.getD 0 undef) t40 fun t41=>bt .add 3 (s3.getD 1 undef) (i6 1) fun t29=>K2 [t41,t29] w10) (K (s3.getD 0 undef) w9))))
theorem YU {t0 t1 t2 : Value} {w : World} {K : VW} (h : vH t0 t1 t2 w K) : ze prog qy #[t0,t1,t2] w K:=
 okC false (.s (.r (rz 2 0 2)) (.s (.s (.r (rz 3 0 4)) (.c (.s (.r (rz 1 0 0)) (.n)) (.n))) (.s (.r (rz 1 0 0)) (.s (.r (rz 7 0 1040)) (.s (.s (.r (rz 1 0 0)) (.b (.lp [7,9] (.s (.s (.r (ra 5 0 0 (.grp 23 true (ri 3 5 0) [26] (rz 1 8 0)))) (.c (.n) (.n))) (.s (.b (.r (rz 13 0 2101248))) (.r (rz 3 0 0))))))) (.s (.r (rz 2 0 0)) (.n))))))) func128 rfl (by kernel_rfl) (by kernel_rfl) h
end Go.Proofs.Tryz
end
section
namespace Go.Proofs.Tryz
open Go.Sh
set_option maxRecDepth 100000
def jB (t0 t1 t2 : Value) (w : World) (K : VW) : Prop:=
 pw w (Instr.box 25 t0) fun t3 w1=>
 lo w1 25 t3 fun t18=>ca Zn #[t18] w1 fun t19 w2=>
 pp (Op.unary .not t19) fun t20=>zc t20 (ca y7 #[] w2 fun t21 w3=>
 K t21 w3) (lo w2 25 t3 fun t23=>ca xD #[t23,t1,t2] w2 fun t26 w4=>
 pe t26 0 fun t27=>pe t26 1 fun t28=>pw w4 (Instr.alloc 31 true (.tuple #[])) fun t7 w5=>
 so w5 31 t7 t27 fun w6=>lo w6 25 t3 fun t30=>ca kv #[t30,t1,t2] w6 fun t33 w7=>
 pe t33 0 fun t34=>pe t33 1 fun t35=>pe t33 2 fun t36=>pw w7 (Instr.alloc 31 true (.tuple #[])) fun t10 w8=>
 so w8 31 t10 t35 fun w9=>bt .lss 3 t2 (i6 0) fun t38=>za (fun K10=>gIf t38 false (lo w9 25 t3 fun t40=>ca vY #[t40,t1,t2] w9 fun t43 w14=>
 pp (Op.unary .not t43) fun t44=>K10 [t44] w14) (K10 [undef] w9)) (fun s11 _d12 w13=>
 zb t38 tr_ (s11.getD 0 undef) fun t45=>zc t45 (bt .eql 32 t28 (i6 2) fun t47=>za (fun K15=>gIf t47 true (bt .eql 32 t36 (i6 2) fun t50=>K15 [t50] w13) (K15 [undef] w13)) (fun s16 _d17 w18=>
 zb t47 (s16.getD 0 undef) fa_ fun t51=>za (fun K19=>gIf t51 true (pp (Builtin.len_ #[29] 3 #[t34]) fun t54=>bt .eql 3 t54 (i6 0) fun t55=>K19 [t55] w18) (K19 [undef] w18)) (fun s20 _d21 w22=>
 zb t51 (s20.getD 0 undef) fa_ fun t56=>za (fun K23=>gIf t56 true (lo w22 31 t7 fun t58=>pp (Instr.build 31 #[]) fun t59=>ca z6 #[t58,t59] w22 fun t60 w27=>
 K23 [t60] w27) (K23 [undef] w22)) (fun s24 _d25 w26=>
 zb t56 (s24.getD 0 undef) fa_ fun t61=>za (fun K28=>gIf t61 true (lo w26 31 t10 fun t63=>pp (Instr.build 31 #[]) fun t64=>ca z6 #[t63,t64] w26 fun t65 w32=>
 K28 [t65] w32) (K28 [undef] w26)) (fun s29 _d30 w31=>
 zb t61 (s29.getD 0 undef) fa_ fun t66=>za (fun K33=>gIf t66 true (ca y7 #[] w31 fun t68 w37=>
 K33 [t68] w37) (K33 [undef] w31)) (fun s34 _d35 w36=>
 zb t66 (s34.getD 0 undef) fa_ fun t69=>K t69 w36)))))) (lo w13 25 t3 fun t71=>ca Y7 #[t71,t1,t2] w13 fun t74 w38=>
 pe t74 0 fun t75=>pe t74 1 fun t76=>pw w38 (Instr.alloc 41 true (.tuple #[])) fun t12 w39=>
 so w39 41 t12 t75 fun w40=>bt .neq 3 t76 (i6 0) fun t78=>zc t78 (bf .eql 3 t28 t76 fun t81=>za (fun K41=>gIf t81 true (bf .eql 3 t36 t76 fun t85=>K41 [t85] w40) (K41 [undef] w40)) (fun s42 _d43 w44=>
 zb t81 (s42.getD 0 undef) fa_ fun t86=>za (fun K45=>gIf t86 true (pp (Builtin.len_ #[29] 3 #[t34]) fun t89=>bt .eql 3 t89 (i6 0) fun t90=>K45 [t90] w44) (K45 [undef] w44)) (fun s46 _d47 w48=>
 zb t86 (s46.getD 0 undef) fa_ fun t91=>za (fun K49=>gIf t91 true (ca y7 #[] w48 fun t93 w53=>
 K49 [t93] w53) (K49 [undef] w48)) (fun s50 _d51 w52=>
 zb t91 (s50.getD 0 undef) fa_ fun t94=>K t94 w52)))) (fl w40 t3 25 1 23 fun t96=>px 23 t96 t1 fun t98=>fl w40 t98 58 6 56 fun t100=>px 56 t100 t2 fun t102=>fl w40 t102 53 0 44 fun t104=>za (fun K54=>
 bt .neq 44 t104 (Value.int .u8 4) fun t106=>zc t106 (bt .neq 32 t28 (i6 130) fun t108=>za (fun K58=>gIf t108 false (lo w40 31 t7 fun t110=>pp (Instr.build 31 #[]) fun t111=>ca z6 #[t110,t111] w40 fun t112 w62=>
 pp (Op.unary .not t112) fun t113=>K58 [t113] w62) (K58 [undef] w40)) (fun s59 _d60 w61=>
 zb t108 tr_ (s59.getD 0 undef) fun t114=>zc t114 (K fa_ w61) (K54 [] w61))) (bt .neq 32 t28 (i6 0) fun t116=>za (fun K63=>gIf t116 false (lo w40.drew 31 t7 fun t118=>lo w40.drew 25 t3 fun t119=>lo w40.drew 41 t12 fun t122=>ca qF #[t119,t1,t2,t122] w40.drew fun t123 w67=>
 Ext w40.drew w67∧
 ca z6 #[t118,t123] w67 fun t124 w68=>
 pp (Op.unary .not t124) fun t125=>K63 [t125] w68) (K63 [undef] w40.drew)) (fun s64 _d65 w66=>
 zb t116 tr_ (s64.getD 0 undef) fun t126=>zc t126 (K fa_ w66) (K54 [] w66)))) (fun _s55 _d56 w57=>
 bt .neq 44 t104 (Value.int .u8 7) fun t128=>zc t128 (bt .eql 32 t36 (i6 130) fun t130=>za (fun K69=>gIf t130 true (pp (Builtin.len_ #[29] 3 #[t34]) fun t133=>bt .eql 3 t133 (i6 0) fun t134=>K69 [t134] w57) (K69 [undef] w57)) (fun s70 _d71 w72=>
 zb t130 (s70.getD 0 undef) fa_ fun t135=>za (fun K73=>gIf t135 true (lo w72 31 t10 fun t137=>pp (Instr.build 31 #[]) fun t138=>ca z6 #[t137,t138] w72 fun t139 w77=>
 K73 [t139] w77) (K73 [undef] w72)) (fun s74 _d75 w76=>
 zb t135 (s74.getD 0 undef) fa_ fun t140=>za (fun K78=>gIf t140 true (ca y7 #[] w76 fun t142 w82=>
 K78 [t142] w82) (K78 [undef] w76)) (fun s79 _d80 w81=>
 zb t140 (s79.getD 0 undef) fa_ fun t143=>K t143 w81)))) (lo w57 25 t3 fun t145=>lo w57 41 t12 fun t148=>ca jP #[t145,t1,t2,t148] w57 fun t149 w83=>
 pe t149 0 fun t150=>pe t149 1 fun t151=>pw w83 (Instr.alloc 31 true (.tuple #[])) fun t16 w84=>
 so w84 31 t16 t151 fun w85=>bt .neq 32 t36 (i6 0) fun t153=>za (fun K86=>gIf t153 false (pp (Builtin.len_ #[29] 3 #[t34]) fun t156=>pp (Builtin.len_ #[29] 3 #[t150]) fun t158=>bf .neq 3 t156 t158 fun t159=>K86 [t159] w85) (K86 [undef] w85)) (fun s87 _d88 w89=>
 zb t153 tr_ (s87.getD 0 undef) fun t160=>za (fun K90=>gIf t160 false (lo w89 31 t10 fun t162=>lo w89 31 t16 fun t163=>ca z6 #[t162,t163] w89 fun t164 w94=>
 pp (Op.unary .not t164) fun t165=>K90 [t165] w94) (K90 [undef] w89)) (fun s91 _d92 w93=>
 zb t160 tr_ (s91.getD 0 undef) fun t166=>zc t166 (K fa_ w93) (zt [(i6 0)] w93 (fun s96 _d97 w98 K95=>
 pp (Builtin.len_ #[29] 3 #[t34]) fun t169=>bf .lss 3 (s96.getD 0 undef) t169 fun t170=>zc t170 (xl w98.drew 29 t34 (s96.getD 0 undef) 31 fun t176=>xl w98.drew 29 t150 (s96.getD 0 undef) 31 fun t180=>ca z6 #[t176,t180] w98.drew fun t181 w99=>
 pp (Op.unary .not t181) fun t182=>zc t182 (K fa_ w99) (bt .add 3 (s96.getD 0 undef) (i6 1) fun t172=>K95 [t172] w99)) (ca y7 #[] w98 fun t183 w100=>
 K t183 w100)))))))))))
theorem Xc {t0 t1 t2 : Value} {w : World} {K : VW} (h : jB t0 t1 t2 w K) : ze prog jw #[t0,t1,t2] w K:=
 okC false (.s (.r (rz 2 0 2)) (.s (.s (.r (rz 3 0 9)) (.c (.s (.r (rz 2 0 2)) (.n)) (.n))) (.s (.r (rz 10 0 163969)) (.s (.r (rz 12 0 2228353)) (.s (.s (.r (ra 3 0 0 (.grp 39 false (ri 5 3 129) [44] (rz 1 8 0)))) (.c (.s (.r (ra 3 0 0 (.grp 48 true (ri 2 3 0) [50] (ra 2 5 0 (.grp 52 true (ri 3 7 0) [55] (ra 2 10 0 (.grp 57 true (ri 3 12 33) [60] (ra 2 15 0 (.grp 62 true (ri 3 17 33) [65] (ra 2 20 0 (.grp 67 true (ri 1 22 2) [68] (rz 2 23 0)))))))))))) (.n)) (.n))) (.s (.r (rz 10 0 163969)) (.s (.s (.r (rz 2 0 0)) (.c (.s (.r (ra 4 0 0 (.grp 82 true (ri 3 4 0) [85] (ra 2 7 0 (.grp 87 true (ri 3 9 0) [90] (ra 2 12 0 (.grp 92 true (ri 1 14 2) [93] (rz 2 15 0)))))))) (.n)) (.n))) (.s (.r (rz 11 0 263172)) (.j [] (.s (.r (rz 2 0 0)) (.c (.s (.r (ra 3 0 0 (.grp 109 false (ri 4 3 33) [113] (rz 1 7 0)))) (.c (.s (.r (rz 1 0 0)) (.n)) (.n))) (.s (.r (ra 3 0 0 (.grp 117 false (ri 8 3 11525) [125] (rz 1 11 0)))) (.c (.s (.r (rz 1 0 0)) (.n)) (.n))))) (.s (.s (.r (rz 2 0 0)) (.c (.s (.r (ra 3 0 0 (.grp 131 true (ri 3 3 0) [134] (ra 2 6 0 (.grp 136 true (ri 3 8 33) [139] (ra 2 11 0 (.grp 141 true (ri 1 13 2) [142] (rz 2 14 0)))))))) (.n)) (.n))) (.s (.r (rz 11 0 2228801)) (.s (.s (.r (ra 3 0 0 (.grp 154 false (ri 5 3 0) [159] (ra 2 8 0 (.grp 161 false (ri 4 10 37) [165] (rz 1 14 0)))))) (.c (.s (.r (rz 1 0 0)) (.n)) (.n))) (.s (.s (.r (rz 1 0 0)) (.b (.lp [17] (.s (.s (.r (rz 4 0 0)) (.c (.n) (.n))) (.s (.b (.s (.r (rz 10 0 147520)) (.c (.s (.r (rz 1 0 0)) (.n)) (.n)))) (.r (rz 3 0 0))))))) (.s (.r (rz 2 0 2)) (.n))))))))))))))) func3 rfl (by kernel_rfl) (by kernel_rfl) h
def Qb (t0 : Value) (w : World) (K : VW) : Prop:=
 pw w (Instr.box 25 t0) fun t1 w1=>
 fl w1 t1 25 0 22 fun t7=>pp (Builtin.len_ #[22] 3 #[t7]) fun t8=>bt .gtr 3 t8 (i6 40) fun t9=>za (fun K2=>gIf t9 false (fl w1 t1 25 1 23 fun t12=>pp (Builtin.len_ #[23] 3 #[t12]) fun t13=>bt .gtr 3 t13 (i6 40) fun t14=>K2 [t14] w1) (K2 [undef] w1)) (fun s3 _d4 w5=>
 zb t9 tr_ (s3.getD 0 undef) fun t15=>zc t15 (K fa_ w5) (zt [(i6 0)] w5 (fun s7 _d8 w9 K6=>
 fl w9 t1 25 0 22 fun t18=>pp (Builtin.len_ #[22] 3 #[t18]) fun t19=>bf .lss 3 (s7.getD 0 undef) t19 fun t20=>zc t20 (fl w9 t1 25 0 22 fun t24=>px 22 t24 (s7.getD 0 undef) fun t26=>fl w9 t26 64 1 62 fun t28=>pp (Builtin.len_ #[62] 3 #[t28]) fun t29=>bt .gtr 3 t29 (i6 20) fun t30=>zc t30 (K fa_ w9) (bt .add 3 (s7.getD 0 undef) (i6 1) fun t22=>K6 [t22] w9)) (zt [(i6 0),(i6 0)] w9 (fun s11 _d12 w13 K10=>
 fl w13 t1 25 1 23 fun t33=>pp (Builtin.len_ #[23] 3 #[t33]) fun t34=>bf .lss 3 (s11.getD 1 undef) t34 fun t35=>zc t35 (fl w13.drew t1 25 1 23 fun t40=>px 23 t40 (s11.getD 1 undef) fun t42=>fl w13.drew t42 58 6 56 fun t44=>pp (Builtin.len_ #[56] 3 #[t44]) fun t45=>fl w13.drew t1 25 1 23 fun t47=>px 23 t47 (s11.getD 1 undef) fun t49=>fl w13.drew t49 58 4 29 fun t51=>pp (Builtin.len_ #[29] 3 #[t51]) fun t52=>bf .add 3 t45 t52 fun t53=>bf .add 3 (s11.getD 0 undef) t53 fun t54=>fl w13.drew t1 25 1 23 fun t56=>px 23 t56 (s11.getD 1 undef) fun t58=>fl w13.drew t58 58 6 56 fun t60=>pp (Builtin.len_ #[56] 3 #[t60]) fun t61=>bt .gtr 3 t61 (i6 150) fun t62=>za (fun K14=>gIf t62 false (fl w13.drew t1 25 1 23 fun t65=>px 23 t65 (s11.getD 1 undef) fun t67=>fl w13.drew t67 58 4 29 fun t69=>pp (Builtin.len_ #[29] 3 #[t69]) fun t70=>bt .gtr 3 t70 (i6 150) fun t71=>K14 [t71] w13.drew) (K14 [undef] w13.drew)) (fun s15 _d16 w17=>
 zb t62 tr_ (s15.getD 0 undef) fun t72=>za (fun K18=>gIf t72 false (bt .gtr 3 t54 (i6 600) fun t75=>K18 [t75] w17) (K18 [undef] w17)) (fun s19 _d20 w21=>
 zb t72 tr_ (s19.getD 0 undef) fun t76=>zc t76 (K fa_ w21) (bt .add 3 (s11.getD 1 undef) (i6 1) fun t37=>K10 [t54,t37] w21)))) (K tr_ w13))))))
theorem abv {t0 : Value} {w : World} {K : VW} (h : Qb t0 w K) : ze prog Zn #[t0] w K:=
 okC false (.s (.r (rz 2 0 2)) (.s (.s (.r (ra 5 0 4 (.grp 10 false (ri 4 5 4) [14] (rz 1 9 0)))) (.c (.s (.r (rz 1 0 0)) (.n)) (.n))) (.s (.r (rz 1 0 0)) (.s (.s (.r (rz 1 0 0)) (.b (.lp [4] (.s (.s (.r (rz 5 0 16)) (.c (.n) (.n))) (.s (.b (.s (.r (rz 8 0 1028)) (.c (.s (.r (rz 1 0 0)) (.n)) (.n)))) (.r (rz 3 0 0))))))) (.s (.s (.r (rz 1 0 0)) (.b (.lp [3,5] (.s (.s (.r (rz 5 0 16)) (.c (.n) (.n))) (.s (.b (.s (.r (rz 18 0 67375120)) (.s (.r (ra 9 0 1028 (.grp 63 false (ri 8 9 1028) [71] (ra 2 17 0 (.grp 73 false (ri 2 19 0) [75] (rz 1 21 0)))))) (.c (.s (.r (rz 1 0 0)) (.n)) (.n))))) (.r (rz 3 0 0))))))) (.s (.r (rz 1 0 0)) (.n))))))) func4 rfl (by kernel_rfl) (by kernel_rfl) h
def XF (w : World) (K : VW) : Prop:=
 ca Zo #[] w fun t15 w1=>
 pw w1 (Instr.alloc 25 true (.tuple #[])) fun t1 w2=>
 so w2 25 t1 t15 fun w3=>lo w3 25 t1 fun t17=>ca Yo #[t17,(i6 0)] w3 fun t18 w4=>
 pe t18 0 fun t19=>pe t18 1 fun t20=>pw w4 (Instr.alloc 41 true (.tuple #[])) fun t2 w5=>
 so w5 41 t2 t19 fun w6=>lo w6 25 t1 fun t22=>ca xD #[t22,(i6 0),(i6 0)] w6 fun t23 w7=>
 pe t23 0 fun t24=>pe t23 1 fun t25=>pw w7 (Instr.alloc 31 true (.tuple #[])) fun t4 w8=>
 so w8 31 t4 t24 fun w9=>lo w9 25 t1 fun t27=>ca kv #[t27,(i6 0),(i6 0)] w9 fun t28 w10=>
 pe t28 0 fun _t29=>pe t28 1 fun t30=>pe t28 2 fun t31=>pw w10 (Instr.alloc 31 true (.tuple #[])) fun t7 w11=>
 so w11 31 t7 t30 fun w12=>lo w12 31 t4 fun t33=>pw w12 (Instr.buildSlice 39 2 #[(0,(i6 5)),(1,(i6 7))]) fun t34 w13=>
 ca vz #[t33,t34] w13 fun t35 w14=>
 pe t35 0 fun t36=>pe t35 1 fun t37=>pw w14 (Instr.alloc 31 true (.tuple #[])) fun t9 w15=>
 so w15 31 t9 t36 fun w16=>lo w16 31 t4 fun t39=>ca jJ #[t39] w16 fun t40 w17=>
 pe t40 0 fun t41=>pe t40 1 fun t42=>pw w17 (Instr.alloc 31 true (.tuple #[])) fun t11 w18=>
 so w18 31 t11 t41 fun w19=>lo w19 25 t1 fun t44=>pp (Instr.build 47 #[(0,(i6 2))]) fun t45=>ca jK #[t44,(i6 0),t45] w19 fun t46 w20=>
 pe t46 0 fun t47=>pe t46 1 fun t48=>pw w20 (Instr.alloc 31 true (.tuple #[])) fun t13 w21=>
 so w21 31 t13 t47 fun w22=>bt .eql 32 t20 (i6 0) fun t50=>za (fun K23=>gIf t50 true (fl w22 t2 41 2 3 fun t53=>bt .eql 3 t53 (i6 2) fun t54=>K23 [t54] w22) (K23 [undef] w22)) (fun s24 _d25 w26=>
 zb t50 (s24.getD 0 undef) fa_ fun t55=>za (fun K27=>gIf t55 true (lo w26 41 t2 fun t57=>ca jL #[t57] w26 fun t58 w31=>
 bt .eql 3 t58 (i6 4) fun t59=>K27 [t59] w31) (K27 [undef] w26)) (fun s28 _d29 w30=>
 zb t55 (s28.getD 0 undef) fa_ fun t60=>za (fun K32=>gIf t60 true (fl w30 t2 41 4 39 fun t63=>pp (Builtin.len_ #[39] 3 #[t63]) fun t64=>bt .eql 3 t64 (i6 4) fun t65=>K32 [t65] w30) (K32 [undef] w30)) (fun s33 _d34 w35=>
 zb t60 (s33.getD 0 undef) fa_ fun t66=>za (fun K36=>gIf t66 true (fl w35 t2 41 4 39 fun t69=>xl w35 39 t69 (i6 0) 3 fun t71=>bt .eql 3 t71 (i6 1) fun t72=>K36 [t72] w35) (K36 [undef] w35)) (fun s37 _d38 w39=>
 zb t66 (s37.getD 0 undef) fa_ fun t73=>za (fun K40=>gIf t73 true (fl w39 t2 41 4 39 fun t76=>xl w39 39 t76 (i6 1) 3 fun t78=>bt .eql 3 t78 (i6 (-1)) fun t79=>K40 [t79] w39) (K40 [undef] w39)) (fun s41 _d42 w43=>
 zb t73 (s41.getD 0 undef) fa_ fun t80=>za (fun K44=>gIf t80 true (bt .eql 32 t25 (i6 0) fun t83=>K44 [t83] w43) (K44 [undef] w43)) (fun s45 _d46 w47=>
 zb t80 (s45.getD 0 undef) fa_ fun t84=>za (fun K48=>gIf t84 true (fl w47 t4 31 2 3 fun t87=>bt .eql 3 t87 (i6 1) fun t88=>K48 [t88] w47) (K48 [undef] w47)) (fun s49 _d50 w51=>
 zb t84 (s49.getD 0 undef) fa_ fun t89=>za (fun K52=>gIf t89 true (fl w51 t4 31 1 4 fun t92=>K52 [t92] w51) (K52 [undef] w51)) (fun s53 _d54 w55=>
 zb t89 (s53.getD 0 undef) fa_ fun t93=>za (fun K56=>gIf t93 true (bt .eql 32 t31 (i6 130) fun t96=>K56 [t96] w55) (K56 [undef] w55)) (fun s57 _d58 w59=>
 zb t93 (s57.getD 0 undef) fa_ fun t97=>za (fun K60=>gIf t97 true (bt .eql 32 t37 (i6 0) fun t100=>K60 [t100] w59) (K60 [undef] w59)) (fun s61 _d62 w63=>
 zb t97 (s61.getD 0 undef) fa_ fun t101=>za (fun K64=>gIf t101 true (fl w63 t9 31 2 3 fun t104=>bt .eql 3 t104 (i6 7) fun t105=>K64 [t105] w63) (K64 [undef] w63)) (fun s65 _d66 w67=>
 zb t101 (s65.getD 0 undef) fa_ fun t106=>za (fun K68=>gIf t106 true (bt .eql 32 t42 (i6 0) fun t109=>K68 [t109] w67) (K68 [undef] w67)) (fun s69 _d70 w71=>
 zb t106 (s69.getD 0 undef) fa_ fun t110=>za (fun K72=>gIf t110 true (fl w71 t11 31 2 3 fun t113=>bt .eql 3 t113 (i6 (-1)) fun t114=>K72 [t114] w71) (K72 [undef] w71)) (fun s73 _d74 w75=>
 zb t110 (s73.getD 0 undef) fa_ fun t115=>za (fun K76=>gIf t115 true (bt .eql 32 t48 (i6 0) fun t118=>K76 [t118] w75) (K76 [undef] w75)) (fun s77 _d78 w79=>
 zb t115 (s77.getD 0 undef) fa_ fun t119=>za (fun K80=>gIf t119 true (fl w79 t13 31 2 3 fun t122=>bt .eql 3 t122 (i6 0) fun t123=>K80 [t123] w79) (K80 [undef] w79)) (fun s81 _d82 w83=>
 zb t119 (s81.getD 0 undef) fa_ fun t124=>K t124 w83)))))))))))))))
theorem aax {w : World} {K : VW} (h : XF  w K) : ze prog y7 #[] w K:=
 okC false (.s (.r (rz 1 0 0)) (.s (.r (rz 3 0 42)) (.s (.r (rz 8 0 10249)) (.s (.r (rz 8 0 10249)) (.s (.r (rz 10 0 139273)) (.s (.r (rz 9 0 41001)) (.s (.r (rz 8 0 10249)) (.s (.r (rz 9 0 40993)) (.s (.r (ra 3 0 0 (.grp 51 true (ri 3 3 4) [54] (ra 2 6 0 (.grp 56 true (ri 3 8 9) [59] (ra 2 11 0 (.grp 61 true (ri 4 13 4) [65] (ra 2 17 0 (.grp 67 true (ri 5 19 68) [72] (ra 2 24 0 (.grp 74 true (ri 5 26 68) [79] (ra 2 31 0 (.grp 81 true (ri 2 33 0) [83] (ra 2 35 0 (.grp 85 true (ri 3 37 4) [88] (ra 2 40 0 (.grp 90 true (ri 2 42 4) [92] (ra 2 44 0 (.grp 94 true (ri 2 46 0) [96] (ra 2 48 0 (.grp 98 true (ri 2 50 0) [100] (ra 2 52 0 (.grp 102 true (ri 3 54 4) [105] (ra 2 57 0 (.grp 107 true (ri 2 59 0) [109] (ra 2 61 0 (.grp 111 true (ri 3 63 4) [114] (ra 2 66 0 (.grp 116 true (ri 2 68 0) [118] (ra 2 70 0 (.grp 120 true (ri 3 72 4) [123] (rz 2 75 0)))))))))))))))))))))))))))))))) (.n)))))))))) func5 rfl (by kernel_rfl) (by kernel_rfl) h
def Qc (w : World) (K : VW) : Prop:=
 pw w (Instr.alloc 25 true (.tuple #[])) fun t0 w1=>
 pw w1 (Instr.buildSlice 45 1 #[(0,(i6 (-1)))]) fun t2 w2=>
 pp (Instr.build 47 #[(0,(i6 2)),(1,t2)]) fun t3=>pw w2 (Instr.alloc 47 true (.tuple #[])) fun t1 w3=>
 so w3 47 t1 t3 fun w4=>pp (Instr.build 47 #[(0,(i6 2))]) fun t9=>pp (Instr.build 47 #[(0,(i6 1))]) fun t10=>pp (Instr.build 53 #[(0,(Value.int .u8 4)),(1,t9),(6,t10),(7,tr_),(10,(i6 1))]) fun t11=>pp (Instr.build 47 #[(0,(i6 1))]) fun t12=>lo w4.drew 47 t1 fun t15=>pp (Instr.build 53 #[(0,(Value.int .u8 14))]) fun t18=>((ca xf #[] w4.drew fun t4 w5=>
 Ext w4.drew w5∧
 ((ca xf #[] w5 fun t5 w6=>
 Ext w5 w6∧
 ((ca kh #[tr_] w6 fun t6 w7=>
 Ext w6 w7∧
 ((pw w7 (Instr.buildSlice 29 3 #[(0,t4),(1,t5),(2,t6)]) fun t7 w8=>
 Ext w7 w8∧
 ((pw w8 (Instr.makeSlice 55 (i6 3) (i6 3)) fun t8 w9=>
 Ext w8 w9∧
 ca zu #[(i6 2)] w9 fun t13 w10=>
 Ext w9 w10∧
 pp (Instr.build 53 #[(0,(Value.int .u8 1)),(1,t12),(2,t13),(10,(i6 2))]) fun t14=>ca zu #[(i6 3)] w10 fun t16 w11=>
 Ext w10 w11∧
 pp (Instr.build 53 #[(0,(Value.int .u8 1)),(1,t15),(2,t16),(10,(i6 3))]) fun t17=>pw w11 (Instr.buildSlice 56 4 #[(0,t11),(1,t14),(2,t17),(3,t18)]) fun t19 w12=>
 pp (Instr.build 58 #[(4,t7),(5,t8),(6,t19)]) fun t20=>pw w12 (Instr.buildSlice 23 1 #[(0,t20)]) fun t21 w13=>
 pp (Instr.build 25 #[(1,t21)]) fun t22=>so w13 25 t0 t22 fun w14=>pq w14 (zf 25 t0) fun r15=>K r15 w14)∧
 (ca zu #[(i6 2)] w8 fun t13_17 w16=>
 Ext w8 w16∧
 pp (Instr.build 53 #[(0,(Value.int .u8 1)),(1,t12),(2,t13_17),(10,(i6 2))]) fun t14_18=>((pw w16 (Instr.makeSlice 55 (i6 3) (i6 3)) fun t8_20 w19=>
 Ext w16 w19∧
 ca zu #[(i6 3)] w19 fun t16_22 w21=>
 Ext w19 w21∧
 pp (Instr.build 53 #[(0,(Value.int .u8 1)),(1,t15),(2,t16_22),(10,(i6 3))]) fun t17_23=>pw w21 (Instr.buildSlice 56 4 #[(0,t11),(1,t14_18),(2,t17_23),(3,t18)]) fun t19_25 w24=>
 pp (Instr.build 58 #[(4,t7),(5,t8_20),(6,t19_25)]) fun t20_26=>pw w24 (Instr.buildSlice 23 1 #[(0,t20_26)]) fun t21_28 w27=>
 pp (Instr.build 25 #[(1,t21_28)]) fun t22_29=>so w27 25 t0 t22_29 fun w30=>pq w30 (zf 25 t0) fun r31=>K r31 w30)∧
 (ca zu #[(i6 3)] w16 fun t16_33 w32=>
 Ext w16 w32∧
 pp (Instr.build 53 #[(0,(Value.int .u8 1)),(1,t15),(2,t16_33),(10,(i6 3))]) fun t17_34=>((pw w32 (Instr.makeSlice 55 (i6 3) (i6 3)) fun t8_36 w35=>
 Ext w32 w35∧
 pw w35 (Instr.buildSlice 56 4 #[(0,t11),(1,t14_18),(2,t17_34),(3,t18)]) fun t19_38 w37=>
 pp (Instr.build 58 #[(4,t7),(5,t8_36),(6,t19_38)]) fun t20_39=>pw w37 (Instr.buildSlice 23 1 #[(0,t20_39)]) fun t21_41 w40=>
 pp (Instr.build 25 #[(1,t21_41)]) fun t22_42=>so w40 25 t0 t22_42 fun w43=>pq w43 (zf 25 t0) fun r44=>K r44 w43)∧
 (pw w32 (Instr.buildSlice 56 4 #[(0,t11),(1,t14_18),(2,t17_34),(3,t18)]) fun t19_46 w45=>
 pw w45 (Instr.makeSlice 55 (i6 3) (i6 3)) fun t8_48 w47=>
 Ext w45 w47∧
 pp (Instr.build 58 #[(4,t7),(5,t8_48),(6,t19_46)]) fun t20_49=>pw w47 (Instr.buildSlice 23 1 #[(0,t20_49)]) fun t21_51 w50=>
 pp (Instr.build 25 #[(1,t21_51)]) fun t22_52=>so w50 25 t0 t22_52 fun w53=>pq w53 (zf 25 t0) fun r54=>K r54 w53)))))))∧
 (((pw w7 (Instr.makeSlice 55 (i6 3) (i6 3)) fun t8_56 w55=>
 Ext w7 w55∧
 ((pw w55 (Instr.buildSlice 29 3 #[(0,t4),(1,t5),(2,t6)]) fun t7_58 w57=>
 Ext w55 w57∧
 ca zu #[(i6 2)] w57 fun t13_60 w59=>
 Ext w57 w59∧
 pp (Instr.build 53 #[(0,(Value.int .u8 1)),(1,t12),(2,t13_60),(10,(i6 2))]) fun t14_61=>ca zu #[(i6 3)] w59 fun t16_63 w62=>
 Ext w59 w62∧
 pp (Instr.build 53 #[(0,(Value.int .u8 1)),(1,t15),(2,t16_63),(10,(i6 3))]) fun t17_64=>pw w62 (Instr.buildSlice 56 4 #[(0,t11),(1,t14_61),(2,t17_64),(3,t18)]) fun t19_66 w65=>
 pp (Instr.build 58 #[(4,t7_58),(5,t8_56),(6,t19_66)]) fun t20_67=>pw w65 (Instr.buildSlice 23 1 #[(0,t20_67)]) fun t21_69 w68=>
 pp (Instr.build 25 #[(1,t21_69)]) fun t22_70=>so w68 25 t0 t22_70 fun w71=>pq w71 (zf 25 t0) fun r72=>K r72 w71)∧
 (ca zu #[(i6 2)] w55 fun t13_74 w73=>
 Ext w55 w73∧
 pp (Instr.build 53 #[(0,(Value.int .u8 1)),(1,t12),(2,t13_74),(10,(i6 2))]) fun t14_75=>((pw w73 (Instr.buildSlice 29 3 #[(0,t4),(1,t5),(2,t6)]) fun t7_77 w76=>
 Ext w73 w76∧
 ca zu #[(i6 3)] w76 fun t16_79 w78=>
 Ext w76 w78∧
 pp (Instr.build 53 #[(0,(Value.int .u8 1)),(1,t15),(2,t16_79),(10,(i6 3))]) fun t17_80=>pw w78 (Instr.buildSlice 56 4 #[(0,t11),(1,t14_75),(2,t17_80),(3,t18)]) fun t19_82 w81=>
 pp (Instr.build 58 #[(4,t7_77),(5,t8_56),(6,t19_82)]) fun t20_83=>pw w81 (Instr.buildSlice 23 1 #[(0,t20_83)]) fun t21_85 w84=>
 pp (Instr.build 25 #[(1,t21_85)]) fun t22_86=>so w84 25 t0 t22_86 fun w87=>pq w87 (zf 25 t0) fun r88=>K r88 w87)∧
 (ca zu #[(i6 3)] w73 fun t16_90 w89=>
 Ext w73 w89∧
 pp (Instr.build 53 #[(0,(Value.int .u8 1)),(1,t15),(2,t16_90),(10,(i6 3))]) fun t17_91=>((pw w89 (Instr.buildSlice 29 3 #[(0,t4),(1,t5),(2,t6)]) fun t7_93 w92=>
 Ext w89 w92∧
 pw w92 (Instr.buildSlice 56 4 #[(0,t11),(1,t14_75),(2,t17_91),(3,t18)]) fun t19_95 w94=>
 pp (Instr.build 58 #[(4,t7_93),(5,t8_56),(6,t19_95)]) fun t20_96=>pw w94 (Instr.buildSlice 23 1 #[(0,t20_96)]) fun t21_98 w97=>
 pp (Instr.build 25 #[(1,t21_98)]) fun t22_99=>so w97 25 t0 t22_99 fun w100=>pq w100 (zf 25 t0) fun r101=>K r101 w100)∧
 (pw w89 (Instr.buildSlice 56 4 #[(0,t11),(1,t14_75),(2,t17_91),(3,t18)]) fun t19_103 w102=>
 pw w102 (Instr.buildSlice 29 3 #[(0,t4),(1,t5),(2,t6)]) fun t7_105 w104=>
 Ext w102 w104∧
 pp (Instr.build 58 #[(4,t7_105),(5,t8_56),(6,t19_103)]) fun t20_106=>pw w104 (Instr.buildSlice 23 1 #[(0,t20_106)]) fun t21_108 w107=>
 pp (Instr.build 25 #[(1,t21_108)]) fun t22_109=>so w107 25 t0 t22_109 fun w110=>pq w110 (zf 25 t0) fun r111=>K r111 w110)))))))∧
 (ca zu #[(i6 2)] w7 fun t13_113 w112=>
 Ext w7 w112∧
 pp (Instr.build 53 #[(0,(Value.int .u8 1)),(1,t12),(2,t13_113),(10,(i6 2))]) fun t14_114=>((pw w112 (Instr.buildSlice 29 3 #[(0,t4),(1,t5),(2,t6)]) fun t7_116 w115=>
 Ext w112 w115∧
 ((pw w115 (Instr.makeSlice 55 (i6 3) (i6 3)) fun t8_118 w117=>
 Ext w115 w117∧
 ca zu #[(i6 3)] w117 fun t16_120 w119=>
 Ext w117 w119∧
 pp (Instr.build 53 #[(0,(Value.int .u8 1)),(1,t15),(2,t16_120),(10,(i6 3))]) fun t17_121=>pw w119 (Instr.buildSlice 56 4 #[(0,t11),(1,t14_114),(2,t17_121),(3,t18)]) fun t19_123 w122=>
 pp (Instr.build 58 #[(4,t7_116),(5,t8_118),(6,t19_123)]) fun t20_124=>pw w122 (Instr.buildSlice 23 1 #[(0,t20_124)]) fun t21_126 w125=>
 pp (Instr.build 25 #[(1,t21_126)]) fun t22_127=>so w125 25 t0 t22_127 fun w128=>pq w128 (zf 25 t0) fun r129=>K r129 w128)∧
 (ca zu #[(i6 3)] w115 fun t16_131 w130=>
 Ext w115 w130∧
 pp (Instr.build 53 #[(0,(Value.int .u8 1)),(1,t15),(2,t16_131),(10,(i6 3))]) fun t17_132=>((pw w130 (Instr.makeSlice 55 (i6 3) (i6 3)) fun t8_134 w133=>
 Ext w130 w133∧
 pw w133 (Instr.buildSlice 56 4 #[(0,t11),(1,t14_114),(2,t17_132),(3,t18)]) fun t19_136 w135=>
 pp (Instr.build 58 #[(4,t7_116),(5,t8_134),(6,t19_136)]) fun t20_137=>pw w135 (Instr.buildSlice 23 1 #[(0,t20_137)]) fun t21_139 w138=>
 pp (Instr.build 25 #[(1,t21_139)]) fun t22_140=>so w138 25 t0 t22_140 fun w141=>pq w141 (zf 25 t0) fun r142=>K r142 w141)∧
 (pw w130 (Instr.buildSlice 56 4 #[(0,t11),(1,t14_114),(2,t17_132),(3,t18)]) fun t19_144 w143=>
 pw w143 (Instr.makeSlice 55 (i6 3) (i6 3)) fun t8_146 w145=>
 Ext w143 w145∧
 pp (Instr.build 58 #[(4,t7_116),(5,t8_146),(6,t19_144)]) fun t20_147=>pw w145 (Instr.buildSlice 23 1 #[(0,t20_147)]) fun t21_149 w148=>
 pp (Instr.build 25 #[(1,t21_149)]) fun t22_150=>so w148 25 t0 t22_150 fun w151=>pq w151 (zf 25 t0) fun r152=>K r152 w151)))))∧
 (((pw w112 (Instr.makeSlice 55 (i6 3) (i6 3)) fun t8_154 w153=>
 Ext w112 w153∧
 ((pw w153 (Instr.buildSlice 29 3 #[(0,t4),(1,t5),(2,t6)]) fun t7_156 w155=>
 Ext w153 w155∧
 ca zu #[(i6 3)] w155 fun t16_158 w157=>
 Ext w155 w157∧
 pp (Instr.build 53 #[(0,(Value.int .u8 1)),(1,t15),(2,t16_158),(10,(i6 3))]) fun t17_159=>pw w157 (Instr.buildSlice 56 4 #[(0,t11),(1,t14_114),(2,t17_159),(3,t18)]) fun t19_161 w160=>
 pp (Instr.build 58 #[(4,t7_156),(5,t8_154),(6,t19_161)]) fun t20_162=>pw w160 (Instr.buildSlice 23 1 #[(0,t20_162)]) fun t21_164 w163=>
 pp (Instr.build 25 #[(1,t21_164)]) fun t22_165=>so w163 25 t0 t22_165 fun w166=>pq w166 (zf 25 t0) fun r167=>K r167 w166)∧
 (ca zu #[(i6 3)] w153 fun t16_169 w168=>
 Ext w153 w168∧
 pp (Instr.build 53 #[(0,(Value.int .u8 1)),(1,t15),(2,t16_169),(10,(i6 3))]) fun t17_170=>((pw w168 (Instr.buildSlice 29 3 #[(0,t4),(1,t5),(2,t6)]) fun t7_172 w171=>
 Ext w168 w171∧
 pw w171 (Instr.buildSlice 56 4 #[(0,t11),(1,t14_114),(2,t17_170),(3,t18)]) fun t19_174 w173=>
 pp (Instr.build 58 #[(4,t7_172),(5,t8_154),(6,t19_174)]) fun t20_175=>pw w173 (Instr.buildSlice 23 1 #[(0,t20_175)]) fun t21_177 w176=>
 pp (Instr.build 25 #[(1,t21_177)]) fun t22_178=>so w176 25 t0 t22_178 fun w179=>pq w179 (zf 25 t0) fun r180=>K r180 w179)∧
 (pw w168 (Instr.buildSlice 56 4 #[(0,t11),(1,t14_114),(2,t17_170),(3,t18)]) fun t19_182 w181=>
 pw w181 (Instr.buildSlice 29 3 #[(0,t4),(1,t5),(2,t6)]) fun t7_184 w183=>
 Ext w181 w183∧
 pp (Instr.build 58 #[(4,t7_184),(5,t8_154),(6,t19_182)]) fun t20_185=>pw w183 (Instr.buildSlice 23 1 #[(0,t20_185)]) fun t21_187 w186=>
 pp (Instr.build 25 #[(1,t21_187)]) fun t22_188=>so w186 25 t0 t22_188 fun w189=>pq w189 (zf 25 t0) fun r190=>K r190 w189)))))∧
 (ca zu #[(i6 3)] w112 fun t16_192 w191=>
 Ext w112 w191∧
 pp (Instr.build 53 #[(0,(Value.int .u8 1)),(1,t15),(2,t16_192),(10,(i6 3))]) fun t17_193=>((pw w191 (Instr.buildSlice 29 3 #[(0,t4),(1,t5),(2,t6)]) fun t7_195 w194=>
 Ext w191 w194∧
 ((pw w194 (Instr.makeSlice 55 (i6 3) (i6 3)) fun t8_197 w196=>
 Ext w194 w196∧
 pw w196 (Instr.buildSlice 56 4 #[(0,t11),(1,t14_114),(2,t17_193),(3,t18)]) fun t19_199 w198=>
 pp (Instr.build 58 #[(4,t7_195),(5,t8_197),(6,t19_199)]) fun t20_200=>pw w198 (Instr.buildSlice 23 1 #[(0,t20_200)]) fun t21_202 w201=>
 pp (Instr.build 25 #[(1,t21_202)]) fun t22_203=>so w201 25 t0 t22_203 fun w204=>pq w204 (zf 25 t0) fun r205=>K r205 w204)∧
 (pw w194 (Instr.buildSlice 56 4 #[(0,t11),(1,t14_114),(2,t17_193),(3,t18)]) fun t19_207 w206=>
 pw w206 (Instr.makeSlice 55 (i6 3) (i6 3)) fun t8_209 w208=>
 Ext w206 w208∧
 pp (Instr.build 58 #[(4,t7_195),(5,t8_209),(6,t19_207)]) fun t20_210=>pw w208 (Instr.buildSlice 23 1 #[(0,t20_210)]) fun t21_212 w211=>
 pp (Instr.build 25 #[(1,t21_212)]) fun t22_213=>so w211 25 t0 t22_213 fun w214=>pq w214 (zf 25 t0) fun r215=>K r215 w214)))∧
 (((pw w191 (Instr.makeSlice 55 (i6 3) (i6 3)) fun t8_217 w216=>
 Ext w191 w216∧
 ((pw w216 (Instr.buildSlice 29 3 #[(0,t4),(1,t5),(2,t6)]) fun t7_219 w218=>
 Ext w216 w218∧
 pw w218 (Instr.buildSlice 56 4 #[(0,t11),(1,t14_114),(2,t17_193),(3,t18)]) fun t19_221 w220=>
 pp (Instr.build 58 #[(4,t7_219),(5,t8_217),(6,t19_221)]) fun t20_222=>pw w220 (Instr.buildSlice 23 1 #[(0,t20_222)]) fun t21_224 w223=>
 pp (Instr.build 25 #[(1,t21_224)]) fun t22_225=>so w223 25 t0 t22_225 fun w226=>pq w226 (zf 25 t0) fun r227=>K r227 w226)∧
 (pw w216 (Instr.buildSlice 56 4 #[(0,t11),(1,t14_114),(2,t17_193),(3,t18)]) fun t19_229 w228=>
 pw w228 (Instr.buildSlice 29 3 #[(0,t4),(1,t5),(2,t6)]) fun t7_231 w230=>
 Ext w228 w230∧
 pp (Instr.build 58 #[(4,t7_231),(5,t8_217),(6,t19_229)]) fun t20_232=>pw w230 (Instr.buildSlice 23 1 #[(0,t20_232)]) fun t21_234 w233=>
 pp (Instr.build 25 #[(1,t21_234)]) fun t22_235=>so w233 25 t0 t22_235 fun w236=>pq w236 (zf 25 t0) fun r237=>K r237 w236)))∧
 (pw w191 (Instr.buildSlice 56 4 #[(0,t11),(1,t14_114),(2,t17_193),(3,t18)]) fun t19_239 w238=>
 ((pw w238 (Instr.buildSlice 29 3 #[(0,t4),(1,t5),(2,t6)]) fun t7_241 w240=>
 Ext w238 w240∧
 pw w240 (Instr.makeSlice 55 (i6 3) (i6 3)) fun t8_243 w242=>
 Ext w240 w242∧
 pp (Instr.build 58 #[(4,t7_241),(5,t8_243),(6,t19_239)]) fun t20_244=>pw w242 (Instr.buildSlice 23 1 #[(0,t20_244)]) fun t21_246 w245=>
 pp (Instr.build 25 #[(1,t21_246)]) fun t22_247=>so w245 25 t0 t22_247 fun w248=>pq w248 (zf 25 t0) fun r249=>K r249 w248)∧
 (pw w238 (Instr.makeSlice 55 (i6 3) (i6 3)) fun t8_251 w250=>
 Ext w238 w250∧
 pw w250 (Instr.buildSlice 29 3 #[(0,t4),(1,t5),(2,t6)]) fun t7_253 w252=>
 Ext w250 w252∧
 pp (Instr.build 58 #[(4,t7_253),(5,t8_251),(6,t19_239)]) fun t20_254=>pw w252 (Instr.buildSlice 23 1 #[(0,t20_254)]) fun t21_256 w255=>
 pp (Instr.build 25 #[(1,t21_256)]) fun t22_257=>so w255 25 t0 t22_257 fun w258=>pq w258 (zf 25 t0) fun r259=>K r259 w258)))))))))))))))∧
 (pw w6 (Instr.makeSlice 55 (i6 3) (i6 3)) fun t8_261 w260=>
 Ext w6 w260∧
 ca kh #[tr_] w260 fun t6_263 w262=>
 Ext w260 w262∧
 ((pw w262 (Instr.buildSlice 29 3 #[(0,t4),(1,t5),(2,t6_263)]) fun t7_265 w264=>
 Ext w262 w264∧
 ca zu #[(i6 2)] w264 fun t13_267 w266=>
 Ext w264 w266∧
 pp (Instr.build 53 #[(0,(Value.int .u8 1)),(1,t12),(2,t13_267),(10,(i6 2))]) fun t14_268=>ca zu #[(i6 3)] w266 fun t16_270 w269=>
 Ext w266 w269∧
 pp (Instr.build 53 #[(0,(Value.int .u8 1)),(1,t15),(2,t16_270),(10,(i6 3))]) fun t17_271=>pw w269 (Instr.buildSlice 56 4 #[(0,t11),(1,t14_268),(2,t17_271),(3,t18)]) fun t19_273 w272=>
 pp (Instr.build 58 #[(4,t7_265),(5,t8_261),(6,t19_273)]) fun t20_274=>pw w272 (Instr.buildSlice 23 1 #[(0,t20_274)]) fun t21_276 w275=>
 pp (Instr.build 25 #[(1,t21_276)]) fun t22_277=>so w275 25 t0 t22_277 fun w278=>pq w278 (zf 25 t0) fun r279=>K r279 w278)∧
 (ca zu #[(i6 2)] w262 fun t13_281 w280=>
 Ext w262 w280∧
 pp (Instr.build 53 #[(0,(Value.int .u8 1)),(1,t12),(2,t13_281),(10,(i6 2))]) fun t14_282=>((pw w280 (Instr.buildSlice 29 3 #[(0,t4),(1,t5),(2,t6_263)]) fun t7_284 w283=>
 Ext w280 w283∧
 ca zu #[(i6 3)] w283 fun t16_286 w285=>
 Ext w283 w285∧
 pp (Instr.build 53 #[(0,(Value.int .u8 1)),(1,t15),(2,t16_286),(10,(i6 3))]) fun t17_287=>pw w285 (Instr.buildSlice 56 4 #[(0,t11),(1,t14_282),(2,t17_287),(3,t18)]) fun t19_289 w288=>
 pp (Instr.build 58 #[(4,t7_284),(5,t8_261),(6,t19_289)]) fun t20_290=>pw w288 (Instr.buildSlice 23 1 #[(0,t20_290)]) fun t21_292 w291=>
 pp (Instr.build 25 #[(1,t21_292)]) fun t22_293=>so w291 25 t0 t22_293 fun w294=>pq w294 (zf 25 t0) fun r295=>K r295 w294)∧
 (ca zu #[(i6 3)] w280 fun t16_297 w296=>
 Ext w280 w296∧
 pp (Instr.build 53 #[(0,(Value.int .u8 1)),(1,t15),(2,t16_297),(10,(i6 3))]) fun t17_298=>((pw w296 (Instr.buildSlice 29 3 #[(0,t4),(1,t5),(2,t6_263)]) fun t7_300 w299=>
 Ext w296 w299∧
 pw w299 (Instr.buildSlice 56 4 #[(0,t11),(1,t14_282),(2,t17_298),(3,t18)]) fun t19_302 w301=>
 pp (Instr.build 58 #[(4,t7_300),(5,t8_261),(6,t19_302)]) fun t20_303=>pw w301 (Instr.buildSlice 23 1 #[(0,t20_303)]) fun t21_305 w304=>
 pp (Instr.build 25 #[(1,t21_305)]) fun t22_306=>so w304 25 t0 t22_306 fun w307=>pq w307 (zf 25 t0) fun r308=>K r308 w307)∧
 (pw w296 (Instr.buildSlice 56 4 #[(0,t11),(1,t14_282),(2,t17_298),(3,t18)]) fun t19_310 w309=>
 pw w309 (Instr.buildSlice 29 3 #[(0,t4),(1,t5),(2,t6_263)]) fun t7_312 w311=>
 Ext w309 w311∧
 pp (Instr.build 58 #[(4,t7_312),(5,t8_261),(6,t19_310)]) fun t20_313=>pw w311 (Instr.buildSlice 23 1 #[(0,t20_313)]) fun t21_315 w314=>
 pp (Instr.build 25 #[(1,t21_315)]) fun t22_316=>so w314 25 t0 t22_316 fun w317=>pq w317 (zf 25 t0) fun r318=>K r318 w317)))))))))∧
 (pw w5 (Instr.makeSlice 55 (i6 3) (i6 3)) fun t8_320 w319=>
 Ext w5 w319∧
 ca xf #[] w319 fun t5_322 w321=>
 Ext w319 w321∧
 ca kh #[tr_] w321 fun t6_324 w323=>
 Ext w321 w323∧
 ((pw w323 (Instr.buildSlice 29 3 #[(0,t4),(1,t5_322),(2,t6_324)]) fun t7_326 w325=>
 Ext w323 w325∧
 ca zu #[(i6 2)] w325 fun t13_328 w327=>
 Ext w325 w327∧
 pp (Instr.build 53 #[(0,(Value.int .u8 1)),(1,t12),(2,t13_328),(10,(i6 2))]) fun t14_329=>ca zu #[(i6 3)] w327 fun t16_331 w330=>
 Ext w327 w330∧
 pp (Instr.build 53 #[(0,(Value.int .u8 1)),(1,t15),(2,t16_331),(10,(i6 3))]) fun t17_332=>pw w330 (Instr.buildSlice 56 4 #[(0,t11),(1,t14_329),(2,t17_332),(3,t18)]) fun t19_334 w333=>
 pp (Instr.build 58 #[(4,t7_326),(5,t8_320),(6,t19_334)]) fun t20_335=>pw w333 (Instr.buildSlice 23 1 #[(0,t20_335)]) fun t21_337 w336=>
 pp (Instr.build 25 #[(1,t21_337)]) fun t22_338=>so w336 25 t0 t22_338 fun w339=>pq w339 (zf 25 t0) fun r340=>K r340 w339)∧
 (ca zu #[(i6 2)] w323 fun t13_342 w341=>
 Ext w323 w341∧
 pp (Instr.build 53 #[(0,(Value.int .u8 1)),(1,t12),(2,t13_342),(10,(i6 2))]) fun t14_343=>((pw w341 (Instr.buildSlice 29 3 #[(0,t4),(1,t5_322),(2,t6_324)]) fun t7_345 w344=>
 Ext w341 w344∧
 ca zu #[(i6 3)] w344 fun t16_347 w346=>
 Ext w344 w346∧
 pp (Instr.build 53 #[(0,(Value.int .u8 1)),(1,t15),(2,t16_347),(10,(i6 3))]) fun t17_348=>pw w346 (Instr.buildSlice 56 4 #[(0,t11),(1,t14_343),(2,t17_348),(3,t18)]) fun t19_350 w349=>
 pp (Instr.build 58 #[(4,t7_345),(5,t8_320),(6,t19_350)]) fun t20_351=>pw w349 (Instr.buildSlice 23 1 #[(0,t20_351)]) fun t21_353 w352=>
 pp (Instr.build 25 #[(1,t21_353)]) fun t22_354=>so w352 25 t0 t22_354 fun w355=>pq w355 (zf 25 t0) fun r356=>K r356 w355)∧
 (ca zu #[(i6 3)] w341 fun t16_358 w357=>
 Ext w341 w357∧
 pp (Instr.build 53 #[(0,(Value.int .u8 1)),(1,t15),(2,t16_358),(10,(i6 3))]) fun t17_359=>((pw w357 (Instr.buildSlice 29 3 #[(0,t4),(1,t5_322),(2,t6_324)]) fun t7_361 w360=>
 Ext w357 w360∧
 pw w360 (Instr.buildSlice 56 4 #[(0,t11),(1,t14_343),(2,t17_359),(3,t18)]) fun t19_363 w362=>
 pp (Instr.build 58 #[(4,t7_361),(5,t8_320),(6,t19_363)]) fun t20_364=>pw w362 (Instr.buildSlice 23 1 #[(0,t20_364)]) fun t21_366 w365=>
 pp (Instr.build 25 #[(1,t21_366)]) fun t22_367=>so w365 25 t0 t22_367 fun w368=>pq w368 (zf 25 t0) fun r369=>K r369 w368)∧
 (pw w357 (Instr.buildSlice 56 4 #[(0,t11),(1,t14_343),(2,t17_359),(3,t18)]) fun t19_371 w370=>
 pw w370 (Instr.buildSlice 29 3 #[(0,t4),(1,t5_322),(2,t6_324)]) fun t7_373 w372=>
 Ext w370 w372∧
 pp (Instr.build 58 #[(4,t7_373),(5,t8_320),(6,t19_371)]) fun t20_374=>pw w372 (Instr.buildSlice 23 1 #[(0,t20_374)]) fun t21_376 w375=>
 pp (Instr.build 25 #[(1,t21_376)]) fun t22_377=>so w375 25 t0 t22_377 fun w378=>pq w378 (zf 25 t0) fun r379=>K r379 w378)))))))))∧
 (pw w4.drew (Instr.makeSlice 55 (i6 3) (i6 3)) fun t8_381 w380=>
 Ext w4.drew w380∧
 ca xf #[] w380 fun t4_383 w382=>
 Ext w380 w382∧
 ca xf #[] w382 fun t5_385 w384=>
 Ext w382 w384∧
 ca kh #[tr_] w384 fun t6_387 w386=>
 Ext w384 w386∧
 ((pw w386 (Instr.buildSlice 29 3 #[(0,t4_383),(1,t5_385),(2,t6_387)]) fun t7_389 w388=>
 Ext w386 w388∧
 ca zu #[(i6 2)] w388 fun t13_391 w390=>
 Ext w388 w390∧
 pp (Instr.build 53 #[(0,(Value.int .u8 1)),(1,t12),(2,t13_391),(10,(i6 2))]) fun t14_392=>ca zu #[(i6 3)] w390 fun t16_394 w393=>
 Ext w390 w393∧
 pp (Instr.build 53 #[(0,(Value.int .u8 1)),(1,t15),(2,t16_394),(10,(i6 3))]) fun t17_395=>pw w393 (Instr.buildSlice 56 4 #[(0,t11),(1,t14_392),(2,t17_395),(3,t18)]) fun t19_397 w396=>
 pp (Instr.build 58 #[(4,t7_389),(5,t8_381),(6,t19_397)]) fun t20_398=>pw w396 (Instr.buildSlice 23 1 #[(0,t20_398)]) fun t21_400 w399=>
 pp (Instr.build 25 #[(1,t21_400)]) fun t22_401=>so w399 25 t0 t22_401 fun w402=>pq w402 (zf 25 t0) fun r403=>K r403 w402)∧
 (ca zu #[(i6 2)] w386 fun t13_405 w404=>
 Ext w386 w404∧
 pp (Instr.build 53 #[(0,(Value.int .u8 1)),(1,t12),(2,t13_405),(10,(i6 2))]) fun t14_406=>((pw w404 (Instr.buildSlice 29 3 #[(0,t4_383),(1,t5_385),(2,t6_387)]) fun t7_408 w407=>
 Ext w404 w407∧
 ca zu #[(i6 3)] w407 fun t16_410 w409=>
 Ext w407 w409∧
 pp (Instr.build 53 #[(0,(Value.int .u8 1)),(1,t15),(2,t16_410),(10,(i6 3))]) fun t17_411=>pw w409 (Instr.buildSlice 56 4 #[(0,t11),(1,t14_406),(2,t17_411),(3,t18)]) fun t19_413 w412=>
 pp (Instr.build 58 #[(4,t7_408),(5,t8_381),(6,t19_413)]) fun t20_414=>pw w412 (Instr.buildSlice 23 1 #[(0,t20_414)]) fun t21_416 w415=>
 pp (Instr.build 25 #[(1,t21_416)]) fun t22_417=>so w415 25 t0 t22_417 fun w418=>pq w418 (zf 25 t0) fun r419=>K r419 w418)∧
 (ca zu #[(i6 3)] w404 fun t16_421 w420=>
 Ext w404 w420∧
 pp (Instr.build 53 #[(0,(Value.int .u8 1)),(1,t15),(2,t16_421),(10,(i6 3))]) fun t17_422=>((pw w420 (Instr.buildSlice 29 3 #[(0,t4_383),(1,t5_385),(2,t6_387)]) fun t7_424 w423=>
 Ext w420 w423∧
 pw w423 (Instr.buildSlice 56 4 #[(0,t11),(1,t14_406),(2,t17_422),(3,t18)]) fun t19_426 w425=>
 pp (Instr.build 58 #[(4,t7_424),(5,t8_381),(6,t19_426)]) fun t20_427=>pw w425 (Instr.buildSlice 23 1 #[(0,t20_427)]) fun t21_429 w428=>
 pp (Instr.build 25 #[(1,t21_429)]) fun t22_430=>so w428 25 t0 t22_430 fun w431=>pq w431 (zf 25 t0) fun r432=>K r432 w431)∧
 (pw w420 (Instr.buildSlice 56 4 #[(0,t11),(1,t14_406),(2,t17_422),(3,t18)]) fun t19_434 w433=>
 pw w433 (Instr.buildSlice 29 3 #[(0,t4_383),(1,t5_385),(2,t6_387)]) fun t7_436 w435=>
 Ext w433 w435∧
 pp (Instr.build 58 #[(4,t7_436),(5,t8_381),(6,t19_434)]) fun t20_437=>pw w435 (Instr.buildSlice 23 1 #[(0,t20_437)]) fun t21_439 w438=>
 pp (Instr.build 25 #[(1,t21_439)]) fun t22_440=>so w438 25 t0 t22_440 fun w441=>pq w441 (zf 25 t0) fun r442=>K r442 w441))))))))
theorem abw {w : World} {K : VW} (h : Qc  w K) : ze prog Zo #[] w K:=
 okC false (.s (.r (rz 1 0 2)) (.s (.r (rz 4 0 162)) (.s (.r (ra 4 5 0 (ra 1 11 1 (ra 1 14 0 (.alt 0 .u (.alt 1 .u (.alt 2 .u (.alt 3 .u (.alt 4 .u (ra 2 9 3 (ra 2 12 3 (rz 5 15 546))) (ra 2 9 3 (.alt 4 .u (ra 2 12 3 (rz 5 15 546)) (ra 2 12 3 (.alt 4 .u (rz 5 15 546) (ra 1 15 2 (ra 1 4 3 (rz 4 16 136)))))))) (.alt 4 .u (.alt 3 .u (ra 2 9 3 (ra 2 12 3 (rz 5 15 546))) (ra 2 9 3 (.alt 3 .u (ra 2 12 3 (rz 5 15 546)) (ra 2 12 3 (.alt 3 .u (rz 5 15 546) (ra 1 15 2 (ra 1 3 3 (rz 4 16 136)))))))) (ra 2 9 3 (.alt 3 .u (.alt 4 .u (ra 2 12 3 (rz 5 15 546)) (ra 2 12 3 (.alt 4 .u (rz 5 15 546) (ra 1 15 2 (ra 1 4 3 (rz 4 16 136)))))) (.alt 4 .u (.alt 3 .u (ra 2 12 3 (rz 5 15 546)) (ra 2 12 3 (.alt 3 .u (rz 5 15 546) (ra 1 15 2 (ra 1 3 3 (rz 4 16 136)))))) (ra 2 12 3 (.alt 3 .u (.alt 4 .u (rz 5 15 546) (ra 1 15 2 (ra 1 4 3 (rz 4 16 136)))) (.alt 4 .u (.alt 3 .u (rz 5 15 546) (ra 1 15 2 (ra 1 3 3 (rz 4 16 136)))) (ra 1 15 2 (.alt 3 .u (ra 1 4 3 (rz 4 16 136)) (ra 1 4 3 (ra 1 3 3 (rz 4 16 136))))))))))))) (ra 1 4 3 (ra 1 2 3 (.alt 3 .u (ra 2 9 3 (ra 2 12 3 (rz 5 15 546))) (ra 2 9 3 (.alt 3 .u (ra 2 12 3 (rz 5 15 546)) (ra 2 12 3 (.alt 3 .u (rz 5 15 546) (ra 1 15 2 (ra 1 3 3 (rz 4 16 136))))))))))) (ra 1 4 3 (ra 2 1 15 (.alt 3 .u (ra 2 9 3 (ra 2 12 3 (rz 5 15 546))) (ra 2 9 3 (.alt 3 .u (ra 2 12 3 (rz 5 15 546)) (ra 2 12 3 (.alt 3 .u (rz 5 15 546) (ra 1 15 2 (ra 1 3 3 (rz 4 16 136))))))))))) (ra 1 4 3 (ra 3 0 63 (.alt 3 .u (ra 2 9 3 (ra 2 12 3 (rz 5 15 546))) (ra 2 9 3 (.alt 3 .u (ra 2 12 3 (rz 5 15 546)) (ra 2 12 3 (.alt 3 .u (rz 5 15 546) (ra 1 15 2 (ra 1 3 3 (rz 4 16 136))))))))))))))) (.n)))) func13 rfl (by kernel_rfl) (by kernel_rfl) h
def Jn (w : World) (K : VW) : Prop:=
 pw w (Instr.alloc 31 true (.tuple #[])) fun t0 w1=>
 pp (Instr.build 31 #[(0,(Value.int .u8 1))]) fun t1=>so w1 31 t0 t1 fun w2=>pq w2 (zf 31 t0) fun r3=>K r3 w2
theorem acp {w : World} {K : VW} (h : Jn  w K) : ze prog xf #[] w K:=
 okC false (.s (.r (rz 1 0 2)) (.s (.r (rz 2 0 8)) (.n))) func28 rfl (by kernel_rfl) (by kernel_rfl) h
def Jo (t0 : Value) (w : World) (K : VW) : Prop:=
 pw w (Instr.alloc 31 true (.tuple #[])) fun t2 w1=>
 ca xf #[] w1 fun t4 w2=>
 pw w2 (Instr.buildSlice 29 1 #[(0,t4)]) fun t5 w3=>
 pp (Instr.build 31 #[(0,(Value.int .u8 4)),(1,t0),(2,(i6 (-1))),(4,t5)]) fun t6=>so w3 31 t2 t6 fun w4=>pq w4 (zf 31 t2) fun r5=>K r5 w4
theorem acq {t0 : Value} {w : World} {K : VW} (h : Jo t0 w K) : ze prog kh #[t0] w K:=
 okC false (.s (.r (rz 1 0 2)) (.s (.r (rz 5 0 552)) (.n))) func29 rfl (by kernel_rfl) (by kernel_rfl) h
def Jp (t0 : Value) (w : World) (K : VW) : Prop:=
 pw w (Instr.alloc 50 true (.tuple #[])) fun t2 w1=>
 pp (Instr.build 50 #[(0,(Value.int .u8 1)),(1,t0)]) fun t4=>so w1 50 t2 t4 fun w2=>pq w2 (zf 50 t2) fun r3=>K r3 w2
theorem acr {t0 : Value} {w : World} {K : VW} (h : Jp t0 w K) : ze prog zu #[t0] w K:=
 okC false (.s (.r (rz 1 0 2)) (.s (.r (rz 3 0 32)) (.n))) func30 rfl (by kernel_rfl) (by kernel_rfl) h
end Go.Proofs.Tryz
end
section
namespace Go.Proofs
open Go.Sh
set_option maxRecDepth 100000
inductive TyD where
 |mk (k : Int) (m : Bool) (re st : Int) (of : List TyD)
namespace TyD
def k : TyD→Int|mk k _ _ _ _=>k
def m : TyD→Bool|mk _ m _ _ _=>m
def re : TyD→Int|mk _ _ re _ _=>re
def st : TyD→Int|mk _ _ _ st _=>st
def of : TyD→List TyD|mk _ _ _ _ of=>of
mutual
def dat : TyD→Dat
 |mk k m re st of=>.agg [.int .u8 k,.bool m,.int .i64 re,.int .i64 st,.sl 5 (dats of)]
def dats : List TyD→List Dat
 |[]=>[]
 |t::l=>dat t::dats l
end
theorem dats_map : ∀ l : List TyD,dats l=l.map dat
 |[]=>rfl
 |t::l=>by rw [dats,dats_map l];rfl
mutual
def ht : TyD→Nat
 |mk _ _ _ _ of=>hts of+1
def hts : List TyD→Nat
 |[]=>0
 |t::l=>max (ht t) (hts l)
end
theorem afD : ∀ {l : List TyD} {t : TyD},t ∈ l→ht t≤hts l
 |x::l,t,h=>by
  rcases List.mem_cons.1 h with rfl|h
  ·exact Nat.le_max_left _ _
  ·exact Nat.le_trans (afD h) (Nat.le_max_right _ _)
theorem ht_of {t u : TyD} (h : u ∈ t.of) : ht u<ht t:=by
 cases t with|mk k m re st of=>exact Nat.lt_succ_of_le (afD h)
end TyD
def TyG (r : Gh) (v : Value) (t : TyD) : Prop:=
 ∃ p cap,v = .agg #[.int .u8 t.k,.bool t.m,.int .i64 t.re,.int .i64 t.st,.slice p t.of.length cap]∧(p=none→cap=0)∧t.of.length≤cap∧RepS r 5 p 0 (TyD.dats t.of)
theorem TyG.up {r s : Gh} {v : Value} {t : TyD} (h : TyG r v t) [l : Le r s] : TyG s v t:=by
 obtain ⟨p,cap,h1,h2,h3,h4⟩:=h;exact ⟨p,cap,h1,h2,h3,h4.up⟩
theorem TyG.of_rep {r : Gh} {c : List Value} {t : TyD} (h : Rep r t.dat c) : TyG r (.agg c.toArray) t:=by
 cases t with
 |mk k m re st of=>
  obtain ⟨a1,b1,rfl,h1,a2,b2,rfl,h2,a3,b3,rfl,h3,a4,b4,rfl,h4,a5,b5,rfl,h5,h6⟩:=h
  obtain rfl : a1=_:=h1
  obtain rfl : a2=_:=h2
  obtain rfl : a3=_:=h3
  obtain rfl : a4=_:=h4
  obtain rfl : b5 = []:=h6
  obtain ⟨p,cap,rfl,q1,q2,q3⟩:=h5
  rw [TyD.dats_map,List.length_map] at q2
  refine ⟨p,cap,?_,q1,q2,q3⟩
  rw [TyD.dats_map,List.length_map];rfl
theorem TyG.rep {r : Gh} {v : Value} {t : TyD} (h : TyG r v t) : ∃ c,v = .agg c.toArray∧c.length=5∧Rep r t.dat c:=by
 obtain ⟨p,cap,rfl,h2,h3,h4⟩:=h
 refine ⟨_,rfl,rfl,?_⟩
 cases t with
 |mk k m re st of=>
  refine ⟨[_],_,rfl,rfl,[_],_,rfl,rfl,[_],_,rfl,rfl,[_],_,rfl,rfl,[_],[],rfl,⟨p,cap,?_,h2,?_,h4⟩,rfl⟩
  ·rw [TyD.dats_map,List.length_map];rfl
  ·rw [TyD.dats_map,List.length_map];exact h3
theorem ki {X : Nat→Prop} {w0 w : World} {r q : Gh} {L : List Asr} (S : StX X w0 r w L) {p : Option Addr} {of : List TyD} (h : RepS q 5 p 0 (TyD.dats of)) [l : Le q r] {i : Nat} (hi : i<of.length) :
  ∃ (b off : Nat) (c : List Value),p=some ⟨b,off,none⟩∧c.length=5∧(∀ j v,c[j]? = some v→w.cell? ⟨b,off+i*5+j,none⟩=some v)∧TyG q (.agg c.toArray) of[i]:=by
 rw [TyD.dats_map] at h
 obtain ⟨b,off,c,h1,h2,h3,h4⟩:=RepS.at S h (i:=i) (by simpa using hi) (by decide)
 rw [List.getElem_map] at h4
 exact ⟨b,off,c,h1,h2,h3,TyG.of_rep h4⟩
end Go.Proofs
end
section
namespace Go.Proofs
open Go.Sh
set_option maxRecDepth 100000
def zy (structs : Int) : Nat→TyD→Bool
 |0,_=>false
 |n+1,t=>
  let inn:=decide (t.of.length=1)&&(match t.of with|u::_=>zy structs n u|[]=>false)
  let bare:=!t.m&&decide (t.re=0)
  if t.k=1∨t.k=2 then bare&&decide (t.st=0)&&decide (t.of.length=0)
  else if t.k=5 then bare&&decide (t.of.length=0)&&decide (0≤t.st)&&decide (t.st<structs)
  else if t.k=3 then bare&&decide (t.st=0)&&inn
  else if t.k=4 then decide (-1≤t.re)&&decide (t.st=0)&&inn
  else false
def inB (structs : Int) (n : Nat) (t : TyD) : Bool:=match t.of with|u::_=>zy structs n u|[]=>false
theorem acs {structs : Int} {n : Nat} : ∀ {t : TyD} {h : 0<t.of.length},inB structs n t=zy structs n t.of[0]
 |.mk _ _ _ _ (_::_),_=>rfl
 |.mk _ _ _ _ [],h=>absurd h (Nat.not_lt_zero _)
theorem xU (n : Nat) : ((n : Int)=0)↔n=0:=by omega
theorem qT (n : Nat) : ((n : Int)=1)↔n=1:=by omega
theorem ZD : ∀ (n : Nat) {t : TyD} {w : World} {r : Gh} {v : Value} {structs : Int} {K : Value→World→Prop},n≤1000→Holds r w→TyG r v t→
  (∀ w',Ext w w'→K (.bool (zy structs n t)) w')→ze Tryz.prog Tryz.xG #[v,.int .i64 structs,.int .i64 (n : Int)] w K:=by
 intro n
 induction n with
 |zero=>
  intro t w r v structs K _ hr hv h
  refine Tryz.Xx ?_
  unfold Tryz.ZA
  have S:=St.start hr
  refine S.box fun b2 w1 S=>?_
  refine gG_ ?_
  exact h _ S.ext
 |succ n ih=>
  intro t w r v structs K hn hr hv h
  refine Tryz.Xx ?_
  unfold Tryz.ZA
  obtain ⟨p,cap,rfl,_,_,hof⟩:=hv
  have S:=St.start hr
  refine S.box fun b2 w1 S=>?_
  refine gG_ ?_
  refine zs (c:=inB structs n t) (fun hb K2 hK2=>?_) fun w5 e5=>?_
  ·have hlen : t.of.length=1:=by simpa [qT] using hb
   refine gG_ ?_
   obtain ⟨b,off,c,rfl,hc,hcell,ht⟩:=ki S hof (i:=0) (by omega)
   refine gG_ ?_
   refine zq (n:=5) hc (by simpa using hcell) ?_
   refine gG_ ?_
   rw [show ((n+1 : Nat) : Int) - 1=(n : Int) by omega]
   refine ih (by omega) S.holds ht fun w6 e6=>?_
   rw [← acs]
   exact hK2 _ e6
  have S:=S.go e5
  refine gG_ ?_
  refine yn (fun K2 hK2=>by refine gG_ ?_;exact hK2) ?_
  refine gG_ ?_
  intro K11 hK11
  refine gG_ ?_
  refine xR (c:=decide (t.k=2)) (hK11 _ _ fun _=>?_) fun _ hk=>?_
  rotate_left
  ·refine gG_ ?_;exact hk
  simp only [List.getD_cons_zero]
  have hu : zy structs (n+1) t=(if t.k=1∨t.k=2 then (!t.m&&decide (t.re=0))&&decide (t.st=0)&&decide (t.of.length=0)
   else if t.k=5 then (!t.m&&decide (t.re=0))&&decide (t.of.length=0)&&decide (0≤t.st)&&decide (t.st<structs)
   else if t.k=3 then (!t.m&&decide (t.re=0))&&decide (t.st=0)&&(decide (t.of.length=1)&&inB structs n t)
   else if t.k=4 then decide (-1≤t.re)&&decide (t.st=0)&&(decide (t.of.length=1)&&inB structs n t)
   else false):=rfl
  rw [hu] at h
  refine c_b (fun h12=>?_) (fun h12=>?_)
  ·have h12 : t.k=1∨t.k=2:=by simpa using h12
   rw [if_pos h12] at h
   refine yn (fun K2 hK2=>by refine gG_ ?_;exact hK2) ?_
   refine yn (fun K2 hK2=>by refine gG_ ?_;exact hK2) ?_
   rw [decide_eq_decide.2 (xU t.of.length)]
   exact h _ S.ext
  have h12 : ¬ (t.k=1∨t.k=2):=by simpa using h12
  rw [if_neg h12] at h
  refine gG_ ?_
  refine zj (fun h5=>?_) (fun h5=>?_)
  ·rw [if_pos h5] at h
   refine yn (fun K2 hK2=>by refine gG_ ?_;exact hK2) ?_
   refine yn (fun K2 hK2=>by refine gG_ ?_;exact hK2) ?_
   refine yn (fun K2 hK2=>by refine gG_ ?_;exact hK2) ?_
   rw [decide_eq_decide.2 (xU t.of.length)]
   exact h _ S.ext
  rw [if_neg h5] at h
  refine gG_ ?_
  refine zj (fun h3=>?_) (fun h3=>?_)
  ·rw [if_pos h3] at h
   refine yn (fun K2 hK2=>by refine gG_ ?_;exact hK2) ?_
   refine yn (fun K2 hK2=>hK2) ?_
   rw [decide_eq_decide.2 (qT t.of.length)]
   exact h _ S.ext
  rw [if_neg h3] at h
  refine gG_ ?_
  refine zj (fun h4=>?_) (fun h4=>?_)
  ·rw [if_pos h4] at h
   refine gG_ ?_
   refine yn (fun K2 hK2=>by refine gG_ ?_;exact hK2) ?_
   refine yn (fun K2 hK2=>hK2) ?_
   rw [decide_eq_decide.2 (qT t.of.length)]
   exact h _ S.ext
  rw [if_neg h4] at h
  exact h _ S.ext
theorem yU (structs : Int) (n : Nat) (t : TyD) : zy structs (n+1) t=(if t.k=1∨t.k=2 then (!t.m&&decide (t.re=0))&&decide (t.st=0)&&decide (t.of.length=0)
   else if t.k=5 then (!t.m&&decide (t.re=0))&&decide (t.of.length=0)&&decide (0≤t.st)&&decide (t.st<structs)
   else if t.k=3 then (!t.m&&decide (t.re=0))&&decide (t.st=0)&&(decide (t.of.length=1)&&inB structs n t)
   else if t.k=4 then decide (-1≤t.re)&&decide (t.st=0)&&(decide (t.of.length=1)&&inB structs n t)
   else false):=rfl
theorem ZE : ∀ (n : Nat) {t : TyD} {w : World} {r : Gh} {v : Value} {structs : Int} {K : Value→World→Prop},n≤1000→Holds r w→TyG r v t→
  (∀ w',Ext w w'→K (.bool (zy structs n t)) w')→ze Tryz.prog Tryz.xi #[v,.int .i64 structs,.int .i64 (n : Int)] w K:=by
 intro n
 induction n with
 |zero=>
  intro t w r v structs K _ hr hv h
  refine Tryz.XC ?_
  unfold Tryz.ZC
  have S:=St.start hr
  refine S.box fun b2 w1 S=>?_
  refine gG_ ?_
  exact h _ S.ext
 |succ n ih=>
  intro t w r v structs K hn hr hv h
  refine Tryz.XC ?_
  unfold Tryz.ZC
  obtain ⟨p,cap,rfl,_,_,hof⟩:=hv
  have S:=St.start hr
  refine S.box fun b2 w1 S=>?_
  refine gG_ ?_
  intro K11 hK11
  refine gG_ ?_
  refine xR (c:=decide (t.k=2)) (hK11 _ _ fun _=>?_) fun _ hk=>?_
  rotate_left
  ·refine gG_ ?_;exact hk
  simp only [List.getD_cons_zero]
  rw [yU] at h
  refine c_b (fun h12=>?_) (fun h12=>?_)
  ·have h12 : t.k=1∨t.k=2:=by simpa using h12
   rw [if_pos h12] at h
   refine gG_ ?_
   refine yn (fun K2 hK2=>by refine gG_ ?_;exact hK2) ?_
   refine yn (fun K2 hK2=>by refine gG_ ?_;exact hK2) ?_
   refine yn (fun K2 hK2=>by refine gG_ ?_;exact hK2) ?_
   rw [decide_eq_decide.2 (xU t.of.length)]
   exact h _ S.ext
  have h12 : ¬ (t.k=1∨t.k=2):=by simpa using h12
  rw [if_neg h12] at h
  refine gG_ ?_
  refine zj (fun h5=>?_) (fun h5=>?_)
  ·rw [if_pos h5] at h
   refine gG_ ?_
   refine yn (fun K2 hK2=>by refine gG_ ?_;exact hK2) ?_
   refine yn (fun K2 hK2=>by refine gG_ ?_;exact hK2) ?_
   refine yn (fun K2 hK2=>by refine gG_ ?_;exact hK2) ?_
   refine yn (fun K2 hK2=>by refine gG_ ?_;exact hK2) ?_
   rw [decide_eq_decide.2 (xU t.of.length)]
   have:=h _ S.ext
   simpa only [Bool.and_comm,Bool.and_left_comm,Bool.and_assoc] using this
  rw [if_neg h5] at h
  refine gG_ ?_
  refine zj (fun h3=>?_) (fun h3=>?_)
  ·rw [if_pos h3] at h
   refine gG_ ?_
   refine yn (fun K2 hK2=>by refine gG_ ?_;exact hK2) ?_
   refine yn (fun K2 hK2=>by refine gG_ ?_;exact hK2) ?_
   refine yn (fun K2 hK2=>by refine gG_ ?_;exact hK2) ?_
   refine zs (c:=inB structs n t) (fun hb K2 hK2=>?_) fun w5 e5=>?_
   ·have hlen : t.of.length=1:=by simp only [Bool.and_eq_true,decide_eq_true_eq] at hb;omega
    refine gG_ ?_
    obtain ⟨b,off,c,rfl,hc,hcell,ht⟩:=ki S hof (i:=0) (by omega)
    refine gG_ ?_
    refine zq (n:=5) hc (by simpa using hcell) ?_
    refine gG_ ?_
    rw [show ((n+1 : Nat) : Int) - 1=(n : Int) by omega]
    refine ih (by omega) S.holds ht fun w6 e6=>?_
    rw [← acs]
    exact hK2 _ e6
   have S:=S.go e5
   rw [decide_eq_decide.2 (qT t.of.length)]
   have:=h _ S.ext
   simpa only [Bool.and_assoc] using this
  rw [if_neg h3] at h
  refine gG_ ?_
  refine zj (fun h4=>?_) (fun h4=>?_)
  ·rw [if_pos h4] at h
   refine gG_ ?_
   refine yn (fun K2 hK2=>by refine gG_ ?_;exact hK2) ?_
   refine yn (fun K2 hK2=>by refine gG_ ?_;exact hK2) ?_
   refine zs (c:=inB structs n t) (fun hb K2 hK2=>?_) fun w5 e5=>?_
   ·have hlen : t.of.length=1:=by simp only [Bool.and_eq_true,decide_eq_true_eq] at hb;omega
    refine gG_ ?_
    obtain ⟨b,off,c,rfl,hc,hcell,ht⟩:=ki S hof (i:=0) (by omega)
    refine gG_ ?_
    refine zq (n:=5) hc (by simpa using hcell) ?_
    refine gG_ ?_
    rw [show ((n+1 : Nat) : Int) - 1=(n : Int) by omega]
    refine ih (by omega) S.holds ht fun w6 e6=>?_
    rw [← acs]
    exact hK2 _ e6
   have S:=S.go e5
   rw [decide_eq_decide.2 (qT t.of.length)]
   have:=h _ S.ext
   simpa only [Bool.and_assoc] using this
  rw [if_neg h4] at h
  exact h _ S.ext
def isB (t : TyD) : Bool:=zy 32 48 t
theorem kj {t : TyD} {w : World} {r : Gh} {v : Value} {K : Value→World→Prop} (hr : Holds r w) (hv : TyG r v t) (h : ∀ w',Ext w w'→K (.bool (isB t)) w') : ze Tryz.prog Tryz.xe #[v] w K:=by
 refine Tryz.ack ?_
 unfold Tryz.Ji
 have hv0:=hv
 obtain ⟨p,cap,rfl,_⟩:=hv
 have S:=St.start hr
 refine S.box fun b2 w1 S=>?_
 refine gG_ ?_
 exact ZD 48 (by decide) S.holds hv0 fun w2 e2=>h _ (S.go e2).ext
theorem VC {t : TyD} {w : World} {r : Gh} {v : Value} {K : Value→World→Prop} (hr : Holds r w) (hv : TyG r v t) (h : ∀ w',Ext w w'→K (.bool (isB t)) w') : ze Tryz.prog Tryz.vX #[v] w K:=by
 refine Tryz.ada ?_
 unfold Tryz.Vz
 have hv0:=hv
 obtain ⟨p,cap,rfl,_⟩:=hv
 have S:=St.start hr
 refine S.box fun b2 w1 S=>?_
 refine gG_ ?_
 exact ZE 48 (by decide) S.holds hv0 fun w2 e2=>h _ (S.go e2).ext
end Go.Proofs
end
section
namespace Go.Proofs
open Go.Sh
set_option maxRecDepth 100000
theorem zF {s : Int} {n : Nat} {t : TyD} (h : zy s (n+1) t=true) : (t.of = []∧(t.k=1∨t.k=2∨t.k=5))∨∃ u,t.of = [u]∧zy s n u=true∧(t.k=3∨t.k=4):=by
 rw [yU] at h
 have one : ∀ {b : Bool},(b&&(decide (t.of.length=1)&&inB s n t))=true→∃ u,t.of = [u]∧zy s n u=true:=by
  intro b hb
  simp only [Bool.and_eq_true,decide_eq_true_eq] at hb
  obtain ⟨_,hl,hi⟩:=hb
  cases t with
  |mk k m re st of=>
   cases of with
   |nil=>cases hl
   |cons u l=>
    cases l with
    |nil=>exact ⟨u,rfl,hi⟩
    |cons x l=>cases hl
 split at h
 ·rename_i hk
  simp only [Bool.and_eq_true,decide_eq_true_eq] at h
  exact .inl ⟨List.eq_nil_of_length_eq_zero h.2,hk.elim .inl fun h=>.inr (.inl h)⟩
 split at h
 ·rename_i hk
  simp only [Bool.and_eq_true,decide_eq_true_eq] at h
  exact .inl ⟨List.eq_nil_of_length_eq_zero h.1.1.2,.inr (.inr hk)⟩
 split at h
 ·rename_i hk
  obtain ⟨u,h1,h2⟩:=one h
  exact .inr ⟨u,h1,h2,.inl hk⟩
 split at h
 ·rename_i hk
  obtain ⟨u,h1,h2⟩:=one h
  exact .inr ⟨u,h1,h2,.inr hk⟩
 ·cases h
def xv (f : Int→Int→Bool) : Nat→TyD→TyD→Bool
 |0,_,_=>false
 |n+1,a,b=>!(decide (a.k≠b.k) || !(a.m == b.m)||decide (a.st≠b.st) || !f a.re b.re)&&(decide (a.of.length=0)||(match a.of,b.of with|u::_,x::_=>xv f n u x|_,_=>false))
theorem VD {f : Int→Int→Bool} {n : Nat} {a b : TyD} (h : a.of = []) : xv f (n+1) a b = !(decide (a.k≠b.k) || !(a.m == b.m)||decide (a.st≠b.st) || !f a.re b.re):=by
 rw [xv,h];simp
theorem VE {f : Int→Int→Bool} {n : Nat} {a b u x : TyD} (h : a.of = [u]) (h2 : b.of = [x]) : xv f (n+1) a b=(!(decide (a.k≠b.k) || !(a.m == b.m)||decide (a.st≠b.st) || !f a.re b.re)&&xv f n u x):=by
 rw [xv,h,h2];simp
theorem Qd {f : Int→Int→Bool} {n : Nat} {a b : TyD} (h : (decide (a.k≠b.k) || !(a.m == b.m)||decide (a.st≠b.st) || !f a.re b.re)=true) : xv f (n+1) a b=false:=by
 rw [xv,h];simp
theorem abx {f : Int→Int→Bool} {fv : Value} (hf : ∀ (x y : Int) (w : World) (K : Value→World→Prop),K (.bool (f x y)) w→zJ Tryz.prog fv #[.int .i64 x,.int .i64 y] w K) {s : Int} :
  ∀ (n : Nat) {a b : TyD} {w : World} {r : Gh} {va vb : Value} {K : Value→World→Prop},Holds r w→TyG r va a→TyG r vb b→zy s n a=true→zy s n b=true→
  (∀ w',Ext w w'→K (.bool (xv f n a b)) w')→ze Tryz.prog Tryz.qm #[va,vb,fv] w K:=by
 intro n
 induction n with
 |zero=>intro a b w r va vb K _ _ _ h;cases h
 |succ n ih=>
  intro a b w r va vb K hr hva hvb ha hb h
  refine Tryz.aau ?_
  unfold Tryz.XB
  obtain ⟨p,cap,rfl,_,_,hofa⟩:=hva
  obtain ⟨q,cap',rfl,_,_,hofb⟩:=hvb
  have S:=St.start hr
  refine S.box fun b3 w1 S=>?_
  refine S.box fun b4 w2 S=>?_
  refine gG_ ?_
  refine abT (fun K2 hK2=>by refine gG_ ?_;exact hK2) ?_
  refine abT (fun K2 hK2=>by refine gG_ ?_;exact hK2) ?_
  refine abT (c:=!f a.re b.re) (fun K2 hK2=>?_) ?_
  ·refine gG_ ?_
   refine hf _ _ _ _ ?_
   refine gG_ ?_
   exact hK2
  refine c_b (fun hne=>?_) (fun heq=>?_)
  ·rw [Qd hne] at h
   exact h _ S.ext
  have S:=S.go (Ext.drew _)
  refine gG_ ?_
  have hk : a.k=b.k:=by
   simp only [Bool.or_eq_false_iff,decide_eq_false_iff_not,Classical.not_not] at heq
   exact heq.1.1.1
  rcases zF ha with ⟨hof,hka⟩|⟨u,hof,hu,hka⟩
  ·rw [VD hof,heq] at h
   refine agh (fun _=>?_) (fun hn=>absurd (by rw [hof];rfl) hn)
   exact h _ S.ext
  ·rcases zF hb with ⟨_,hkb⟩|⟨x,hofx,hx,hkb⟩
   ·exfalso;omega
   rw [VE hof hofx,heq] at h
   have hla : 0<a.of.length:=by rw [hof];exact Nat.one_pos
   have hlb : 0<b.of.length:=by rw [hofx];exact Nat.one_pos
   refine agh (fun hn=>by omega) (fun _=>?_)
   intro K2 hK2
   obtain ⟨ba,oa,ca,rfl,hca,hcella,hta⟩:=ki S hofa hla
   obtain ⟨bb,ob,cb,rfl,hcb,hcellb,htb⟩:=ki S hofb hlb
   have hau : a.of[0]=u:=by simp [hof]
   have hbx : b.of[0]=x:=by simp [hofx]
   rw [hau] at hta;rw [hbx] at htb
   refine gG_ ?_
   refine zq (n:=5) hca (by simpa using hcella) ?_
   refine gG_ ?_
   refine zq (n:=5) hcb (by simpa using hcellb) ?_
   refine gG_ ?_
   refine ih S.holds hta htb hu hx fun w5 e5=>?_
   refine hK2 _ _ ?_
   simpa using h _ (S.go e5).ext
def zR (f : Int→Int→Bool) (a b : TyD) : Bool:=(isB a&&isB b)&&xv f 48 a b
def yd (_ _ : Int) : Bool:=true
theorem afK (x y : Int) (w : World) (K : Value→World→Prop) (hk : K (.bool (yd x y)) w) : zJ Tryz.prog (.func (.func Tryz.ZX) #[] #[]) #[.int .i64 x,.int .i64 y] w K:=by
 refine xZ (by kernel_rfl) ?_
 refine Tryz.JN (t0:=.int .i64 x) (t1:=.int .i64 y) ?_
 unfold Tryz.Z5
 exact hk
theorem x8 {a b : TyD} {w : World} {r : Gh} {va vb : Value} {K : Value→World→Prop} (hr : Holds r w) (ha : TyG r va a) (hb : TyG r vb b)
  (h : ∀ w',Ext w w'→K (.bool (zR yd a b)) w') : ze Tryz.prog Tryz.y6 #[va,vb] w K:=by
 refine Tryz.aas ?_
 unfold Tryz.Xz
 have ha0:=ha;have hb0:=hb
 obtain ⟨p,cap,rfl,_⟩:=ha
 obtain ⟨q,cap',rfl,_⟩:=hb
 have S:=St.start hr
 refine S.box fun b2 w1 S=>?_
 refine S.box fun b3 w2 S=>?_
 refine gG_ ?_
 refine kj S.holds ha0 fun w3 e3=>?_
 have S:=S.go e3
 refine zs (c:=isB b) (fun _ K2 hK2=>?_) fun w4 e4=>?_
 ·refine gG_ ?_
  exact kj S.holds hb0 fun w4 e4=>hK2 _ e4
 have S:=S.go e4
 refine zs (c:=xv yd 48 a b) (fun hab K2 hK2=>?_) fun w5 e5=>h _ (S.go e5).ext
 simp only [Bool.and_eq_true] at hab
 refine gG_ ?_
 refine abx (f:=yd) (s:=32) afK 48 S.holds ha0 hb0 hab.1 hab.2 fun w5 e5=>?_
 exact hK2 _ e5
end Go.Proofs
end
section
namespace Go.Proofs
open Go.Sh
set_option maxRecDepth 100000
namespace TyD
mutual
def chain : TyD→List TyD
 |mk k m re st of=>mk k m re st of::chains of
def chains : List TyD→List TyD
 |[]=>[]
 |t::_=>chain t
end
theorem chain_eq : ∀ t : TyD,t.chain=t::chains t.of
 |mk _ _ _ _ _=>rfl
def regsL (l : List TyD) : List Int:=(l.filter fun u=>decide (u.k=4)).map re
def regs (t : TyD) : List Int:=regsL t.chain
theorem regs_eq (t : TyD) : t.regs=(if t.k=4 then [t.re] else [])++regsL (chains t.of):=by
 rw [regs,chain_eq,regsL,List.filter_cons]
 by_cases h : t.k=4
 ·simp only [h,decide_true,if_true];rfl
 ·simp only [h,decide_false,if_false];rfl
theorem chains_eq {l : List TyD} (h : 0<l.length) : chains l=chain l[0]:=by
 cases l with
 |nil=>cases h
 |cons t l=>rfl
end TyD
def ints (l : List Int) : List Value:=l.map (.int .i64)
theorem y9 (l : List Int) : (ints l).length=l.length:=List.length_map ..
def NdG (r : Gh) (b off : Nat) (t : TyD) : Prop:=∃ c : List Value,c.length=5∧(∀ j v,c[j]? = some v→Ob r fun w=>w.cell? ⟨b,off+j,none⟩=some v)∧TyG r (.agg c.toArray) t
theorem NdG.of {r : Gh} {p : Option Addr} {of : List TyD} (h : RepS r 5 p 0 (TyD.dats of)) {i : Nat} (hi : i<of.length) : ∃ b off,p=some ⟨b,off,none⟩∧NdG r b (off+i*5) of[i]:=by
 rw [TyD.dats_map] at h
 obtain ⟨c,h1,h2,h3⟩:=h.get (i:=i) (List.getElem?_eq_getElem (by simpa using hi))
 obtain ⟨b,off,rfl,_⟩:=h2 0 c[0] (List.getElem?_eq_getElem (by omega))
 rw [List.getElem_map] at h3
 refine ⟨b,off,rfl,c,h1,fun j v hj=>?_,TyG.of_rep h3⟩
 obtain ⟨b',off',hp,ho⟩:=h2 j v hj
 cases hp
 rwa [Nat.zero_add] at ho
theorem Q3 {X : Nat→Prop} {w0 w : World} {r q : Gh} {L : List Asr} {bl b off : Nat} {v : Value} {n : Nat} {xs : List Value} {t : TyD} {K : Value→World→Prop}
  (S : StX X w0 r w (.cell bl [v] 39 :: .row v 3 1 n xs::L)) (hn : NdG q b off t) [Le q r] (hl : n<1000000000)
  (h : ∀ v' w',StX X w0 r w' (.cell bl [v'] 39 :: .row v' 3 1 (n+1) (xs ++ [.int .i64 t.re])::L)→K (.tuple #[]) w') :
  ze Tryz.prog Tryz.k6 #[.pointer (some ⟨b,off,none⟩),.pointer (some ⟨bl,0,none⟩)] w K:=by
 refine Tryz.X7 ?_
 unfold Tryz.vP
 obtain ⟨c,hc,hcell,p,cap,hv,_,_,hof⟩:=hn
 cases hv
 have S:=S.go (Ext.drew _)
 refine gG_ ?_
 refine zm (S.at (hcell 2 _ rfl)) ?_
 refine S.litU (e:=3) (cs:=[.int .i64 t.re]) (by kernel_rfl) fun b3 w3 S=>?_
 refine S.ap (Sl.blk (S.blk b3)) (fun v4 w4 S=>?_) (by omega)
 refine S.st (h1:=S.row1 v4) fun w5 S=>?_
 exact h _ _ S.tl
theorem Q4 : ∀ (k : Nat) {t : TyD} {X : Nat→Prop} {w0 w : World} {r q : Gh} {L : List Asr} {bl b off : Nat} {v : Value} {n : Nat} {xs : List Value} {K : Value→World→Prop} [Le q r],t.ht≤k→
  StX X w0 r w (.cell bl [v] 39 :: .row v 3 1 n xs::L)→NdG q b off t→n+k<1000000000→
  (∀ v' w',StX X w0 r w' (.cell bl [v'] 39 :: .row v' 3 1 (n+t.regs.length) (xs++ints t.regs)::L)→K (.tuple #[]) w')→
  ze Tryz.prog Tryz.xF #[.pointer (some ⟨b,off,none⟩),.func (.func Tryz.k6) #[] #[.pointer (some ⟨bl,0,none⟩)]] w K:=by
 intro k
 induction k with
 |zero=>intro t X w0 w r q L bl b off v n xs K _ ht;exfalso;cases t with|mk k m re st of=>exact absurd ht (Nat.not_succ_le_zero _)
 |succ k ih=>
  intro t X w0 w r q L bl b off v n xs K _ ht S hn hk h
  refine Tryz.Xw ?_
  unfold Tryz.Zz
  have hn0:=hn
  obtain ⟨c,hc,hcell,p,cap,hv,_,_,hof⟩:=hn
  cases hv
  refine zp (fun _ w'=>∃ v',StX X w0 r w' (.cell bl [v'] 39 :: .row v' 3 1 (n+(if t.k=4 then 1 else 0)) (xs++(if t.k=4 then [.int .i64 t.re] else []))::L)) (fun K2 hK2=>?_) ?_
  ·refine gG_ ?_
   refine zm (S.at (hcell 0 _ rfl)) ?_
   refine gG_ ?_
   refine zj (fun h4=>?_) (fun h4=>hK2 _ _ ⟨v,by simpa [h4] using S⟩)
   refine xZ (by kernel_rfl) ?_
   show ze _ _ #[_,_] _ _
   refine Q3 S hn0 (by omega) fun v' w' S=>hK2 _ _ ⟨v',by simpa [h4] using S⟩
  ·rintro s w' ⟨v',S⟩ d
   refine gG_ ?_
   refine zm (S.at (hcell 4 _ rfl)) ?_
   refine gG_ ?_
   refine zj (fun hlen=>?_) (fun hlen=>?_)
   ·have hlen : 0<t.of.length:=by omega
    obtain ⟨b2,off2,rfl,hn2⟩:=NdG.of hof hlen
    refine gG_ ?_
    refine zm (S.at (hcell 4 _ rfl)) ?_
    refine gG_ ?_
    have hh:=TyD.ht_of (List.getElem_mem hlen)
    refine ih (t:=t.of[0]) (by omega) S hn2 (by split<;>omega) fun v3 w3 S=>h v3 w3 ?_
    have h1 : t.regs=(if t.k=4 then [t.re] else [])++t.of[0].regs:=by rw [TyD.regs_eq,TyD.chains_eq hlen];rfl
    rw [h1]
    have e1 : n+(if t.k=4 then 1 else 0)+t.of[0].regs.length=n+((if t.k=4 then [t.re] else [])++t.of[0].regs).length:=by split<;>simp<;>omega
    have e2 : xs++(if t.k=4 then [.int .i64 t.re] else [])++ints t.of[0].regs=xs++ints ((if t.k=4 then [t.re] else [])++t.of[0].regs):=by split<;>simp [ints]
    rwa [e1,e2] at S
   ·have hz : t.of = []:=List.eq_nil_of_length_eq_zero (by omega)
    have h1 : t.regs=(if t.k=4 then [t.re] else []):=by rw [TyD.regs_eq,hz];simp [TyD.chains,TyD.regsL]
    refine h v' _ ?_
    rw [h1]
    have e1 : (if t.k=4 then [t.re] else []).length=(if t.k=4 then 1 else 0):=by split<;>rfl
    have e2 : ints (if t.k=4 then [t.re] else [])=(if t.k=4 then [.int .i64 t.re] else []):=by split<;>rfl
    rwa [e1,e2]
end Go.Proofs
end
section
namespace Go.Proofs
open Go.Sh
set_option maxRecDepth 100000
theorem ae1 {b : Nat} {v : Value} {t : TyD} {r : Gh} {T : TypeId} (h : TyG r v t) : NdG (r.or (one b v.cells.toList T)) b 0 t:=by
 obtain ⟨c,rfl,hc,hr⟩:=h.rep
 refine ⟨c,hc,fun j x hj w hw=>?_,(TyG.of_rep hr).up⟩
 have B:=yR (b:=b) (c:=(Value.agg c.toArray).cells.toList) (T:=T) w (hw.le (h:=inferInstance))
 show w.cell? ⟨b,0+j,none⟩=some x
 rw [Nat.zero_add,B.cell]
 exact hj
theorem aa2 : ∀ (n : Nat) {t : TyD},t.ht≤n→t.chain.length≤n:=by
 intro n
 induction n with
 |zero=>intro t h;cases t with|mk k m re st of=>exact absurd h (Nat.not_succ_le_zero _)
 |succ n ih=>
  intro t h
  rw [TyD.chain_eq,List.length_cons]
  cases hof : t.of with
  |nil=>exact Nat.succ_le_succ (Nat.zero_le _)
  |cons u l=>
   have : u.ht<t.ht:=TyD.ht_of (by rw [hof];exact List.mem_cons_self ..)
   exact Nat.succ_le_succ (ih (t:=u) (by omega))
theorem ae2 (t : TyD) : t.regs.length≤t.ht:=by
 rw [TyD.regs,TyD.regsL,List.length_map]
 exact Nat.le_trans (List.length_filter_le _ _) (aa2 _ (Nat.le_refl _))
theorem QO : ∀ {n : Nat} {s : Int} {t : TyD},zy s n t=true→t.ht≤n
 |0,_,_,h=>by cases h
 |n+1,s,t,h=>by
  cases t with
  |mk k m re st of=>
   rcases zF h with ⟨hof,_⟩|⟨u,hof,hu,_⟩
   ·cases hof;exact Nat.succ_le_succ (Nat.zero_le _)
   ·cases hof
    refine Nat.succ_le_succ ?_
    show max u.ht 0≤n
    rw [Nat.max_zero];exact QO hu
theorem Qe {t : TyD} (h : isB t=true) : t.ht≤48:=QO h
theorem aa3 {s : Int} {n : Nat} {t : TyD} (h : zy s (n+1) t=true) : (t.k≠4∧t.k≠3∧t.of = []∧t.regs = [])∨∃ u,t.of = [u]∧zy s n u=true∧(t.k=3∨t.k=4)∧t.regs=(if t.k=4 then [t.re] else [])++u.regs:=by
 rcases zF h with ⟨hof,hk⟩|⟨u,hof,hu,hk⟩
 ·have h4 : t.k≠4:=by omega
  refine .inl ⟨h4,by omega,hof,?_⟩
  rw [TyD.regs_eq,hof,if_neg h4];rfl
 ·refine .inr ⟨u,hof,hu,hk,?_⟩
  rw [TyD.regs_eq,hof];rfl
theorem Ya {t : TyD} {w : World} {r : Gh} {v : Value} {K : Value→World→Prop} (hr : Holds r w) (hv : TyG r v t) (ht : t.ht≤1000000)
  (h : ∀ v' w',Ext w w'→w'.ownsRow w.heap.size 3 1 v' t.regs.length (ints t.regs)→K v' w') : ze Tryz.prog Tryz.ku #[v] w K:=by
 refine Tryz.JK ?_
 unfold Tryz.Z2
 have S:=St.start hr
 refine S.box fun b1 w1 S=>?_
 have S:=S.frz
 refine S.al fun b3 w3 S=>?_
 refine gG_ ?_
 have S:=(S.ownNil 3 1).swap
 refine Q4 t.ht (Nat.le_refl _) S (ae1 (T:=31) hv) (by omega) fun v' w' S=>?_
 refine S.ld ?_
 rw [Nat.zero_add,List.nil_append] at S
 exact h v' w' S.ext (S.give v')
def regsT (t : TyD) : List Int:=if isB t then t.regs else []
theorem xw {t : TyD} {w : World} {r : Gh} {v : Value} {K : Value→World→Prop} (hr : Holds r w) (hv : TyG r v t)
  (h : ∀ v' w',Ext w w'→w'.ownsRow w.heap.size 3 1 v' (regsT t).length (ints (regsT t))→K v' w') : ze Tryz.prog Tryz.yI #[v] w K:=by
 refine Tryz.JJ ?_
 unfold Tryz.Z1
 have hv0:=hv
 obtain ⟨p,cap,rfl,_⟩:=hv
 have S:=St.start hr
 refine S.box fun b1 w1 S=>?_
 refine gG_ ?_
 refine kj S.holds hv0 fun w2 e2=>?_
 have S:=S.go e2
 refine gG_ ?_
 refine c_b (fun hn=>?_) (fun hb=>?_)
 ·have hb : isB t=false:=by simpa using hn
  refine h _ _ S.ext ?_
  rw [regsT,hb]
  exact World.ownsRow_nil _ _ _ _
 have hb : isB t=true:=by simpa using hb
 refine gG_ ?_
 have e02:=S.ext
 refine Ya S.holds hv0 (by have:=Qe hb;omega) fun v3 w3 e3 ho=>?_
 have S:=S.take e3 ho
 refine h _ _ S.ext ?_
 rw [regsT,hb]
 exact S.give v3
theorem Yb {t : TyD} {w : World} {r : Gh} {v : Value} {K : Value→World→Prop} (hr : Holds r w) (hv : TyG r v t)
  (h : ∀ v' w',Ext w w'→w'.ownsRow w.heap.size 3 1 v' (regsT t).length (ints (regsT t))→K v' w') : ze Tryz.prog Tryz.kx #[v] w K:=by
 refine Tryz.JP ?_
 unfold Tryz.Z7
 have hv0:=hv
 obtain ⟨p,cap,rfl,_⟩:=hv
 have S:=St.start hr
 refine S.box fun b1 w1 S=>?_
 refine gG_ ?_
 refine VC S.holds hv0 fun w2 e2=>?_
 have S:=S.go e2
 refine gG_ ?_
 refine c_b (fun hn=>?_) (fun hb=>?_)
 ·have hb : isB t=false:=by simpa using hn
  refine h _ _ S.ext ?_
  rw [regsT,hb]
  exact World.ownsRow_nil _ _ _ _
 have hb : isB t=true:=by simpa using hb
 have hreg : regsT t=t.regs:=by rw [regsT,hb];rfl
 rw [hreg] at h
 have hlen:=Nat.le_trans (ae2 t) (Qe hb)
 obtain ⟨c1,hc1,hc15,hrep⟩:=hv0.rep
 rw [show (Value.agg #[.int .u8 t.k,.bool t.m,.int .i64 t.re,.int .i64 t.st,.slice p t.of.length cap]).cells.toList=c1 by rw [hc1];rfl] at S
 refine zk (ι:=TyD × Value × List Int × List Value × Nat) (fun i=>[i.2.1])
  (fun i w'=>zy 32 i.2.2.2.2 i.1=true∧t.regs=i.2.2.1++i.1.regs∧i.2.2.2.1.length=5∧TyG r (.agg i.2.2.2.1.toArray) i.1∧St w r w' [.row i.2.1 3 1 i.2.2.1.length (ints i.2.2.1),.cell b1 i.2.2.2.1 31])
  (fun i=>i.2.2.2.2) (t,.slice none 0 0,[],c1,48) rfl ⟨hb,rfl,hc15,hc1 ▸ hv0,S.ownNil 3 1⟩ ?_
 clear S
 rintro ⟨u,v4,ds,c,n⟩ d w4 ⟨hu,hds,hc,hty,S⟩ K6 hK6
 simp only at hu hds hc hty S ⊢
 obtain ⟨n,rfl⟩ : ∃ m,n=m+1:=by cases n with|zero=>cases hu|succ n=>exact ⟨n,rfl⟩
 obtain ⟨p,cap,hcv,_,_,hof⟩:=hty
 have hcv : c = [.int .u8 u.k,.bool u.m,.int .i64 u.re,.int .i64 u.st,.slice p u.of.length cap]:=by
  have:=Value.agg.inj hcv;exact List.toArray_inj this
 subst hcv
 refine gG_ ?_
 refine abT (fun K2 hK2=>by refine gG_ ?_;exact hK2) ?_
 refine c_b (fun hk=>?_) (fun hk=>?_)
 ·rcases aa3 hu with ⟨h4,h3,_⟩|⟨x,hofx,hx,hk34,hrg⟩
  ·exfalso;simp [h4,h3] at hk
  rw [hrg,← List.append_assoc] at hds
  have hl : 0<u.of.length:=by rw [hofx];exact Nat.one_pos
  have hux : u.of[0]=x:=by simp [hofx]
  refine zp (fun s w'=>∃ v',s = [v']∧St w r w' [.row v' 3 1 (ds++(if u.k=4 then [u.re] else [])).length (ints (ds++(if u.k=4 then [u.re] else []))),.cell b1 [.int .u8 u.k,.bool u.m,.int .i64 u.re,.int .i64 u.st,.slice p u.of.length cap] 31]) (fun K2 hK2=>?_) ?_
  ·refine gG_ ?_
   refine zj (fun h4=>?_) (fun h4=>hK2 _ _ ⟨v4,rfl,by simpa [h4] using S⟩)
   have hlen2 : ds.length≤48:=by
    have:=congrArg List.length hds
    simp only [List.length_append] at this
    omega
   refine gG_ ?_
   refine S.lit (e:=3) (cs:=[.int .i64 u.re]) (by kernel_rfl) fun b3 w3 S=>?_
   refine S.ap (Sl.blk (S.blk b3)) (fun v5 w5 S=>?_) (by omega)
   refine hK2 _ _ ⟨v5,rfl,?_⟩
   simpa [h4,ints] using S.tl
  ·rintro s w7 ⟨v5,rfl,S⟩ d7
   refine gG_ ?_
   obtain ⟨ba,oa,ca,rfl,hca,hcella,hta⟩:=ki S hof hl
   rw [hux] at hta
   refine gG_ ?_
   refine zq (n:=5) hca (by simpa using hcella) ?_
   have h1 : ∀ y ∈ ca.toArray.toList,y.oneCell'=true:=by
    obtain ⟨p9,cap9,hv9,_⟩:=hta
    rw [Value.agg.inj hv9];simp [Value.oneCell']
   refine S.stB (hc:=by simpa using hca) (h1:=h1) fun w8 S=>?_
   exact hK6 (x,v5,ds++(if u.k=4 then [u.re] else []),ca,n) _ ⟨hx,hds,hca,hta,S⟩ (Nat.lt_succ_self _)
 ·rcases aa3 hu with ⟨h4,h3,hofx,hrg⟩|⟨x,hofx,hx,hk34,hrg⟩
  ·rw [hrg,List.append_nil] at hds
   refine h _ _ S.ext ?_
   rw [hds]
   exact S.give v4
  ·exfalso;rcases hk34 with h|h<;>simp [h] at hk
end Go.Proofs
end
section
namespace Go.Proofs
open Go.Sh
set_option maxRecDepth 100000
theorem VF {f : Int→Bool} {fv : Value} (hf : ∀ (x : Int) (w : World) (K : Value→World→Prop),K (.bool (f x)) w→zJ Tryz.prog fv #[.int .i64 x] w K) {w : World} {p : Option Addr} {l : List Int} {cap : Nat} {K : Value→World→Prop}
  (hl : Sl w p (ints l)) (hb : l.length≤1000000000) (h : ∀ i : Int,(0≤i↔l.any f=true)→K (.int .i64 i) w) : ze Tryz.prog Tryz.yz #[.slice p l.length cap,fv] w K:=by
 refine Tryz.xM ?_
 unfold Tryz.y8
 refine gP_ ?_
 refine zk (ι:=Nat) (fun i=>[.int .i64 i]) (fun i w'=>w'=w∧i≤l.length∧(l.take i).any f=false) (fun i=>l.length - i) 0 rfl ⟨rfl,Nat.zero_le _,by simp⟩ ?_
 rintro i d w' ⟨rfl,hi,hn⟩ K6 hK6
 simp only [List.getD_cons_zero]
 refine gP_ ?_
 refine zj (fun hlt=>?_) (fun hge=>?_)
 ·have hlt : i<l.length:=by omega
  obtain ⟨b,off,rfl,hc⟩:=hl.at (i:=i) (by rw [y9];exact hlt)
  refine gP_ ?_
  have hv : (ints l)[i]'(by rw [y9];exact hlt) = .int .i64 l[i]:=by simp [ints]
  rw [hv] at hc
  refine zm (by simpa using hc) ?_
  refine hf _ _ _ ?_
  have ht : (l.take (i+1)).any f=((l.take i).any f||f l[i]):=by
   rw [List.take_succ_eq_append_getElem hlt,List.any_append];simp only [List.any_cons,List.any_nil,Bool.or_false]
  refine c_b (fun hy=>?_) (fun hno=>?_)
  ·refine h _ ⟨fun _=>?_,fun _=>Int.natCast_nonneg _⟩
   exact List.any_eq_true.2 ⟨l[i],List.getElem_mem hlt,hy⟩
  ·refine gP_ ?_
   refine hK6 (i+1) _ ⟨rfl,hlt,?_⟩ (by omega)
   rw [ht,hn,hno];rfl
 ·have : i=l.length:=by omega
  subst this
  rw [List.take_length] at hn
  exact h _ ⟨fun h=>by omega,fun h=>by rw [hn] at h;cases h⟩
theorem Qf {f : Int→Bool} {fv : Value} (hf : ∀ (x : Int) (w : World) (K : Value→World→Prop),K (.bool (f x)) w→zJ Tryz.prog fv #[.int .i64 x] w K) {w : World} {p : Option Addr} {l : List Int} {cap : Nat} {K : Value→World→Prop}
  (hl : Sl w p (ints l)) (hb : l.length≤1000000000) (h : K (.bool (l.any f)) w) : ze Tryz.prog Tryz.zP #[.slice p l.length cap,fv] w K:=by
 refine Tryz.xu ?_
 unfold Tryz.yO
 refine VF hf hl hb fun i hi=>?_
 refine gP_ ?_
 have e : decide (i≥0)=l.any f:=by
  by_cases hh : l.any f=true
  ·rw [hh];exact decide_eq_true (hi.2 hh)
  ·rw [Bool.eq_false_iff.2 hh];exact decide_eq_false fun h=>hh (hi.1 h)
 rw [e];exact h
end Go.Proofs
end
section
namespace Go.Proofs
open Go.Sh
set_option maxRecDepth 100000
theorem Jq (a b : List Int) : ints (a++b)=ints a++ints b:=List.map_append ..
theorem ZF {r : Gh} {c : List Value} {t : TyD} (h : TyG r (.agg c.toArray) t) : ∃ p cap,c = [.int .u8 t.k,.bool t.m,.int .i64 t.re,.int .i64 t.st,.slice p t.of.length cap]∧RepS r 5 p 0 (TyD.dats t.of):=by
 obtain ⟨p,cap,hv,_,_,hof⟩:=h
 exact ⟨p,cap,List.toArray_inj (Value.agg.inj hv),hof⟩
theorem adu {r : Gh} {c : List Value} {t : TyD} (h : TyG r (.agg c.toArray) t) : ∀ y ∈ c.toArray.toList,y.oneCell'=true:=by
 obtain ⟨p,cap,rfl,_⟩:=ZF h
 simp [Value.oneCell']
end Go.Proofs
end
section
namespace Go.Proofs
open Go.Sh
set_option maxRecDepth 100000
end Go.Proofs
end
section
namespace Go.Proofs
open Go.Sh
set_option maxRecDepth 100000
end Go.Proofs
end
section
namespace Go.Proofs
open Go.Sh
set_option maxRecDepth 100000
def xo (t : TyD) : Bool:=isB t&&((decide (t.k=1)||decide (t.k=2))||(decide (t.k=4) && !t.m))
theorem YV {t : TyD} {w : World} {r : Gh} {v : Value} {K : Value→World→Prop} (hr : Holds r w) (hv : TyG r v t)
  (h : ∀ w',Ext w w'→K (.bool (xo t)) w') : ze Tryz.prog Tryz.kN #[v] w K:=by
 refine Tryz.Vy ?_
 unfold Tryz.YP
 have hv0:=hv
 obtain ⟨p,cap,rfl,_⟩:=hv
 have S:=St.start hr
 refine S.box fun b1 w1 S=>?_
 refine gG_ ?_
 refine kj S.holds hv0 fun w2 e2=>?_
 have S:=S.go e2
 refine gG_ ?_
 refine c_b (fun hn=>?_) (fun hb=>?_)
 ·have hb : isB t=false:=by simpa using hn
  rw [xo,hb] at h;exact h _ S.ext
 have hb : isB t=true:=by simpa using hb
 rw [xo,hb,Bool.true_and] at h
 refine gG_ ?_
 intro K11 hK11
 refine gG_ ?_
 refine xR (c:=decide (t.k=2)) (hK11 _ _ fun _=>?_) fun _ hk=>?_
 rotate_left
 ·refine gG_ ?_;exact hk
 simp only [List.getD_cons_zero]
 refine c_b (fun h12=>?_) (fun h12=>?_)
 ·rw [h12,Bool.true_or] at h;exact h _ S.ext
 rw [h12,Bool.false_or] at h
 refine gG_ ?_
 refine zj (fun h4=>?_) (fun h4=>?_)
 ·rw [show decide (t.k=4)=true from decide_eq_true h4,Bool.true_and] at h
  refine gG_ ?_
  exact h _ S.ext
 ·rw [show decide (t.k=4)=false from decide_eq_false h4,Bool.false_and] at h
  exact h _ S.ext
end Go.Proofs
end
section
namespace Go.Proofs
open Go.Sh
set_option maxRecDepth 100000
end Go.Proofs
end
section
namespace Go.Sh
open Go.RowKit
set_option linter.unusedSimpArgs false
set_option linter.unusedVariables false
section
variable {P : Program} {t s : TypeId} {c : Bool} {k : IntKind} {m a b : Int}
end
end Go.Sh
end
section
namespace Go.Sh
open Go.RowKit
theorem g_TT {A B : Prop} (a : A) : gIf (.bool true) true A B:=a
theorem g_FF {A B : Prop} (a : A) : gIf (.bool false) false A B:=a
theorem g_TF {A B : Prop} (b : B) : gIf (.bool true) false A B:=b
theorem g_FT {A B : Prop} (b : B) : gIf (.bool false) true A B:=b
section
variable {w : World} {A : (List Value→World→Prop)→Prop} {Z : Value→World→Prop} {b c : Bool}
theorem agk (R : World→Prop) (h0 : b=true→R w) (hA : b=false→∀ K : List Value→World→Prop,(∀ w',R w'→K [.bool c] w')→A K) (hZ : ∀ w',R w'→Z (.bool (b||c)) w') :
  za (fun K=>gIf (.bool b) false (A K) (K [undef] w)) fun s _ w'=>zb (.bool b) (.bool true) (s.getD 0 undef) fun t=>Z t w':=by
 intro K hK
 cases b with
 |true=>exact hK _ _ fun _=>⟨true,rfl,by simpa using hZ w (h0 rfl)⟩
 |false=>exact hA rfl K fun w' e=>hK _ _ fun _=>⟨false,rfl,by simpa using hZ w' e⟩
end
theorem g_UU {want : Bool} {A B : Prop} (b : B) : gIf undef want A B:=b
section
variable {P : Program} {w : World} {t e : TypeId} {size n m : Nat} {v : Value} {xs news : List Value}
theorem Que.of_row {base : Nat} (h : w.ownsRow base e size v n xs) : Que w e size v n xs:=by
 refine ⟨h.1,?_⟩
 rcases qK h with ⟨rfl,rfl,rfl⟩|⟨g,cap,c,rfl,hb,B,h1,h2,h3,h4⟩
 ·exact .inl ⟨rfl,rfl⟩
 ·exact .inr ⟨g,0,cap,c,rfl,B,h1,h2,by omega,by rw [List.drop_zero];exact h4⟩
theorem Que.shape (h : Que w e size v n xs) : ∃ p cap,v = .slice p n cap∧(p=none→cap=0)∧n≤cap∧xs.length=n*size∧Sl w p xs:=by
 obtain ⟨hl,⟨rfl,rfl⟩|⟨g,off,cap,c,rfl,B,h1,h2,h3,h4⟩⟩:=h
 ·have hx : xs = []:=by simpa using hl
  subst hx
  exact ⟨none,0,rfl,fun _=>rfl,Nat.le_refl _,hl,Sl.nil _ _⟩
 ·refine ⟨_,cap,rfl,by simp,h1,hl,fun i v hv=>⟨g,off,rfl,?_⟩⟩
  rw [B.cell]
  rw [← h4,List.getElem?_take] at hv
  split at hv
  ·rwa [List.getElem?_drop] at hv
  ·cases hv
theorem aej {K : Value→World→Prop} {ty : TypeId} {bytes : Nat} {a : Addr} {c : Nat}
  (hT : apT P t=some (e,size,bytes)) (hown : Que w e size v n xs) (hs : Sl w (some a) news) (hl : news.length=m*size) (h1 : ∀ u ∈ news,u.oneCell'=true)
  (hb : (n+m)*bytes≤140737488355328)
  (h : ∀ v' w',Que w' e size v' (n+m) (xs++news)→ExtBut (fun k=>v.ownBlock=some k) w w'→(v'.ownBlock=v.ownBlock∨v'.ownBlock=some w.heap.size)→K v' w') :
  opW P w (Builtin.append_ #[t,t] ty #[v,.slice (some a) m c]) K:=by
 rcases hown with ⟨hxl,⟨rfl,rfl⟩|⟨g,off,cap,cur,rfl,B,h2,h3,h4,h5⟩⟩
 ·have hx : xs = []:=by simpa using hxl
  subst hx
  exact ab9 hT (World.ownsRow_nil w 0 e size) hs hl (by simp) h1 hb (Nat.zero_le _) fun v' w' h6 h7 h8 _=>h v' w' (.of_row h6) h7 h8
 unfold apT at hT
 cases hu : P.underlying t with
 |none=>rw [hu] at hT;cases hT
 |some d=>
  rw [hu] at hT
  cases d<;>first|(cases hT;done)|skip
  rename_i e'
  simp only [Option.bind_eq_some_iff] at hT
  obtain ⟨i,hi,hT⟩:=hT
  cases hz : i.zero with
  |none=>rw [hz] at hT;cases hT
  |some z=>
   rw [hz] at hT
   simp only at hT
   split at hT
   ·rename_i hc
    obtain ⟨hzs,hsz,hbp⟩:=hc
    simp only [Option.some.injEq,Prod.mk.injEq] at hT
    obtain ⟨rfl,rfl,rfl⟩:=hT
    have hnews : ∀ j u,news[j]? = some u→w.cell? (a.add j)=some u:=fun j u hj=>by obtain ⟨b,off,hp,hc⟩:=hs j u hj;cases hp;rw [xQ];exact hc
    have hlen : (xs++news).length=(n+m)*i.size:=by rw [List.length_append,hxl,hl,Nat.add_mul]
    by_cases hroom : n+m≤cap
    ·have hmul : (n+m)*i.size≤cap*i.size:=Nat.mul_le_mul_right _ hroom
     have hfit : off+n*i.size+news.length≤cur.length:=by rw [hl];rw [Nat.add_mul] at hmul;omega
     have hf:=run_firstCells_some (P:=P) w i.size m a m c news hl hnews
     have hst:=run_storeCells_at P g (off+n*i.size) e' news 0 cur.toArray w B (by simpa using hfit) h1
     simp only [Nat.add_zero] at hst
     obtain ⟨f1,f2,f3⟩:=XR B (cur.take (off+n*i.size)++news++cur.drop (off+n*i.size+news.length))
     refine ⟨_,_,by simp [Builtin.append_,run_underlying hu,sizeOf,typeInfo,hi,Builtin.lenOf,hroom,hf,Addr.add_lit,hst],h _ _ ⟨hlen,.inr ⟨g,off,cap,_,rfl,f3,hroom,h3,?_,?_⟩⟩ (f1.mono fun k _ hk=>by cases hk;rfl) (.inl rfl)⟩
     ·simp only [List.length_append,List.length_take,List.length_drop];omega
     ·rw [← hlen,List.append_assoc,List.drop_append_of_le_length (by rw [List.length_take];omega),List.drop_take,show off+n*i.size - off=n*i.size by omega,h5,← List.append_assoc,List.take_left']
      rfl
    ·have h63 : n+m≤maxLen:=by
      have : (n+m)*1≤(n+m)*i.bytes:=Nat.mul_le_mul_left _ hbp
      simp only [maxLen];omega
     obtain ⟨v',w',hr,ho,hg⟩:=run_append_arg_grows (P:=P) w t ty e' i z i.size i.bytes hu hi hz rfl rfl hzs hsz ⟨g,off,none⟩ n cap xs hxl (fun j u hj=>by
      rw [xQ,B.cell]
      rw [← h5,List.getElem?_take] at hj
      split at hj
      ·rwa [List.getElem?_drop] at hj
      ·cases hj) a m c news hl hnews (by omega) h63 hb
     refine ⟨v',w',hr,h v' w' (.of_row ho) ⟨hg.os,hg.tape,hg.output,hg.size,fun k hk _=>hg.block k hk (by simp)⟩ ?_⟩
     have hr2:=run_append_grow (P:=P) w t ty e' i z hu hi hz ⟨g,off,none⟩ n cap xs hxl (fun j u hj=>by
      rw [xQ,B.cell]
      rw [← h5,List.getElem?_take] at hj
      split at hj
      ·rwa [List.getElem?_drop] at hj
      ·cases hj) a m c news hl hnews (by omega) (by simp only [maxLen] at h63;omega) (growslice_fits (by omega) hb)
     rw [hr] at hr2
     injection hr2 with e1 e2
     rw [e1];exact .inr rfl
   ·cases hT
theorem Que.drop {g off cap i : Nat} (h : Que w e size (.slice (some ⟨g,off,none⟩) n cap) n xs) (hi : i≤n) :
  Que w e size (.slice (if cap=i then some ⟨g,off,none⟩ else (some (⟨g,off,none⟩ : Addr)).map (·.add (i*size))) (n - i) (cap - i)) (n - i) (xs.drop (i*size)):=by
 obtain ⟨hl,⟨h0,_⟩|⟨g',off',cap',c,hv,B,h1,h2,h3,h4⟩⟩:=h
 ·cases h0
 cases hv
 refine ⟨by rw [List.length_drop,hl,Nat.sub_mul],.inr ?_⟩
 by_cases hc : cap=i
 ·rw [if_pos hc]
  have : n - i=0:=by omega
  refine ⟨g,off,cap - i,c,rfl,B,by omega,by omega,?_,?_⟩
  ·have : (cap - i)*size=0:=by rw [show cap - i=0 by omega,Nat.zero_mul]
   omega
  ·rw [this,Nat.zero_mul,List.take_zero,eq_comm,List.drop_eq_nil_iff,hl]
   exact Nat.mul_le_mul_right _ (by omega)
 ·rw [if_neg hc]
  refine ⟨g,off+i*size,cap - i,c,by simp only [Option.map_some,xQ],B,by omega,by omega,?_,?_⟩
  ·have : i*size≤cap*size:=Nat.mul_le_mul_right _ (by omega)
   rw [Nat.sub_mul];omega
  ·rw [← h4,List.drop_take,List.drop_drop,Nat.sub_mul]
end
theorem afE {P : Program} {w : World} {f : FuncId} {K : Value→World→Prop} {x0 : Value} (he : xq P f=true) (h : ze P f #[x0] w K) : zJ P (.func (.func f) #[] #[]) #[x0] w K:=xZ he h
theorem Xd {P : Program} {w : World} {f : FuncId} {K : Value→World→Prop} {x0 c0 : Value} (he : xq P f=true) (h : ze P f #[x0,c0] w K) : zJ P (.func (.func f) #[] #[c0]) #[x0] w K:=xZ he h
theorem QP {P : Program} {w : World} {f : FuncId} {K : Value→World→Prop} {x0 c0 c1 : Value} (he : xq P f=true) (h : ze P f #[x0,c0,c1] w K) : zJ P (.func (.func f) #[] #[c0,c1]) #[x0] w K:=xZ he h
theorem agT {P : Program} {w : World} {f : FuncId} {K : Value→World→Prop} {x0 x1 : Value} (he : xq P f=true) (h : ze P f #[x0,x1] w K) : zJ P (.func (.func f) #[] #[]) #[x0,x1] w K:=xZ he h
theorem agU {P : Program} {w : World} {f : FuncId} {K : Value→World→Prop} {x0 x1 c0 : Value} (he : xq P f=true) (h : ze P f #[x0,x1,c0] w K) : zJ P (.func (.func f) #[] #[c0]) #[x0,x1] w K:=xZ he h
class Xe (v : Value) (L : List Asr) (e : outParam TypeId) (sz n : outParam Nat) (xs : outParam (List Value)) (f : outParam (Asr→List Asr)) : Prop where
 h : ∃ p q,L=p ++ .que v e sz n xs::q∧∀ y,f y=p++y::q
instance {v : Value} {e : TypeId} {sz n : Nat} {xs : List Value} {L : List Asr} : Xe v (.que v e sz n xs::L) e sz n xs fun y=>y::L:=⟨[],L,rfl,fun _=>rfl⟩
instance (priority:=low) {v : Value} {e : TypeId} {sz n : Nat} {xs : List Value} {x : Asr} {L : List Asr} {f : Asr→List Asr} [h : Xe v L e sz n xs f] : Xe v (x::L) e sz n xs fun y=>x::f y:=⟨by
 obtain ⟨p,q,h1,h2⟩:=h.h
 exact ⟨x::p,q,by rw [h1];rfl,fun c'=>by rw [h2];rfl⟩⟩
section
variable {P : Program} {X : Nat→Prop} {w0 w : World} {r : Gh} {L : List Asr} {t e : TypeId} {sz n m : Nat} {v : Value} {xs news : List Value} {g : Asr→List Asr}
theorem StX.que (S : StX X w0 r w L) (v : Value) [h : Xe v L e sz n xs g] : Que w e sz v n xs:=by
 obtain ⟨pp,qq,h2,h3⟩:=h.h
 exact S.has (.que v e sz n xs) (by rw [h2];simp)
theorem StX.queS (S : StX X w0 r w L) (v : Value) [h : Xe v L e sz n xs g] : ∃ p cap,v = .slice p n cap∧(p=none→cap=0)∧n≤cap∧xs.length=n*sz∧Sl w p xs:=
 (S.que v (h:=h)).shape
theorem StX.toQue (S : StX X w0 r w L) (v : Value) [h : kt v L e sz n xs g] : StX X w0 r w (g (.que v e sz n xs)):=by
 obtain ⟨pp,qq,h2,h3⟩:=h.h
 have hr:=S.has (.row v e sz n xs) (by rw [h2];simp)
 rw [h3]
 rw [h2] at S
 exact S.turn (x:=.row v e sz n xs) (y:=.que v e sz n xs) (ExtBut.refl _ _) (Que.of_row hr) fun k hk=>.inl hk
theorem StX.apQ (S : StX X w0 r w L) {ty : TypeId} {by' cap : Nat} {a : Addr} [h : Xe v L e sz n xs g] [z : ApT P t e sz by'] {K : Value→World→Prop}
  (hs : Sl w (some a) news) (k : ∀ v' w',StX X w0 r w' (g (.que v' e sz (n+m) (xs++news)))→K v' w')
  (hb : (n+m)*by'≤140737488355328) (hl : news.length=m*sz:=by simp) (h1 : ∀ u ∈ news,u.oneCell'=true:=by simp [Value.oneCell']) : opW P w (Builtin.append_ #[t,t] ty #[v,.slice (some a) m cap]) K:=by
 obtain ⟨pp,qq,h2,h3⟩:=h.h
 have hr:=S.has (.que v e sz n xs) (by rw [h2];simp)
 refine aej z.h hr hs hl h1 hb fun v' w' h4 h5 h6=>k v' w' ?_
 rw [h3]
 rw [h2] at S
 refine S.turn (x:=.que v e sz n xs) (y:=.que v' e sz (n+m) (xs++news)) h5 h4 fun j hj=>?_
 rw [Asr.dom] at hj
 rcases h6 with h6|h6
 ·rw [h6] at hj;exact .inl hj
 ·rw [h6] at hj;cases hj;exact .inr (Nat.le_refl _)
theorem StX.loQ (S : StX X w0 r w L) {e' : TypeId} {kd : IntKind} {i : Int} [h : Xe v L e sz n xs g] [z : SlT P t e' sz] {K : Value→Prop}
  (h0 : 0≤i) (hi : i≤n) (hn : 0<n) (k : ∀ v',StX X w0 r w (g (.que v' e sz (n - i.toNat) (xs.drop (i.toNat*sz))))→K v') : opP P (Instr.sliceAt t v (some (.int kd i)) none none) K:=by
 obtain ⟨pp,qq,h2,h3⟩:=h.h
 have hr:=S.has (.que v e sz n xs) (by rw [h2];simp)
 have hr0:=hr
 rcases hr.2 with ⟨rfl,h4⟩|⟨gb,off,cap,c,rfl,_⟩
 ·omega
 refine aa0 z.h h0 hi (k _ ?_)
 rw [h3]
 rw [h2] at S
 refine S.turn (x:=.que (.slice (some ⟨gb,off,none⟩) n cap) e sz n xs) (y:=.que _ e sz _ _) (ExtBut.refl _ _) (Que.drop hr0 (by omega)) fun j hj=>.inl ?_
 simp only [Asr.dom] at hj ⊢
 split at hj
 ·exact hj
 ·simp only [Option.map_some,xQ] at hj;exact hj
end
theorem StX.mkS {P : Program} {X : Nat→Prop} {w0 w : World} {r : Gh} {L : List Asr} {t e : TypeId} {bytes : Nat} {kl : IntKind} {n : Int} {z : Value} (S : StX X w0 r w L) [hT : ApT P t e 1 bytes] [hz : ZrT P e [z]] {K : Value→World→Prop} (h0 : 0≤n) (hb : (bytes : Int)*n≤281474976710656)
  (h : ∀ b w',StX X w0 r w' (.cell b (List.replicate n.toNat z) e::L)→K (.slice (some ⟨b,0,none⟩) n.toNat n.toNat) w') : opW P w (Instr.makeSlice t (.int kl n) (.int kl n)) K:=
 aeg hT.h hz.h h0 hb fun b w' hb e _ B=>h b w' (S.add e (by omega) B)
class vI (b : Nat) (L : List Asr) (c : outParam (List Value)) (T : outParam TypeId) (M : outParam (List Asr)) : Prop where
 h : L.Perm (.cell b c T::M)
instance {b : Nat} {c : List Value} {T : TypeId} {L : List Asr} : vI b (.cell b c T::L) c T L:=⟨.refl _⟩
instance (priority:=low) {b : Nat} {c : List Value} {T : TypeId} {x : Asr} {L M : List Asr} [h : vI b L c T M] : vI b (x::L) c T (x::M):=⟨(h.h.cons x).trans (.swap _ _ _)⟩
theorem StX.permO {X : Nat→Prop} {w0 w : World} {r : Gh} {L M : List Asr} (S : StX X w0 r w L) (h : M.Perm L) : StX X w0 r w M:=
 ⟨S.x,S.holds,fun x hx=>S.has x (h.subset hx),fun x hx=>S.mine x (h.subset hx),h.symm.pairwise S.apart fun hab k hb ha=>hab k ha hb⟩
theorem StX.frzAt {X : Nat→Prop} {w0 w : World} {r : Gh} {L M : List Asr} (S : StX X w0 r w L) (b : Nat) {c : List Value} {T : TypeId} [h : vI b L c T M] : StX X w0 (r.or (one b c T)) w M:=
 (S.permO h.h.symm).frz
theorem StX.drop {X : Nat→Prop} {w0 w : World} {r : Gh} {L M : List Asr} (S : StX X w0 r w L) (b : Nat) {c : List Value} {T : TypeId} [h : vI b L c T M] : StX X w0 r w M:=
 (S.permO h.h.symm).tl
end Go.Sh
end
section
namespace Go.Sh
open Go.RowKit
set_option linter.unusedSimpArgs false
set_option linter.unusedVariables false
theorem zg {w : World} {A : (List Value→World→Prop)→Prop} {Z : Value→World→Prop} {b c : Bool} (hA : b=true→∀ K : List Value→World→Prop,K [.bool c] w→A K) (hZ : Z (.bool (b&&c)) w) :
  za (fun K=>gIf (.bool b) true (A K) (K [undef] w)) fun s _ w'=>zb (.bool b) (s.getD 0 undef) (.bool false) fun t=>Z t w':=by
 intro K hK
 cases b with
 |true=>exact hA rfl K (hK _ _ fun _=>⟨true,rfl,by simpa using hZ⟩)
 |false=>exact hK _ _ fun _=>⟨false,rfl,by simpa using hZ⟩
theorem zh {w : World} {A : (List Value→World→Prop)→Prop} {Z : Value→World→Prop} {b c : Bool} (hA : b=false→∀ K : List Value→World→Prop,K [.bool c] w→A K) (hZ : Z (.bool (b||c)) w) :
  za (fun K=>gIf (.bool b) false (A K) (K [undef] w)) fun s _ w'=>zb (.bool b) (.bool true) (s.getD 0 undef) fun t=>Z t w':=by
 intro K hK
 cases b with
 |true=>exact hK _ _ fun _=>⟨true,rfl,by simpa using hZ⟩
 |false=>exact hA rfl K (hK _ _ fun _=>⟨false,rfl,by simpa using hZ⟩)
section
variable {P : Program} {w : World} {t : TypeId} {c : Bool} {K : Value→Prop}
end
end Go.Sh
namespace Go.Sh
section
variable {P : Program} {w : World} {f : FuncId} {K : Value→World→Prop} {Kp : List PanicEntry→World→Prop}
end
end Go.Sh
end
section
namespace Go.Proofs
open Go.Sh
set_option maxRecDepth 100000
section
variable {X : Nat→Prop} {w0 w : World} {r : Gh} {L : List Asr} {rb : Nat} {s p : List UInt8} {a : Nat} {K : Value→World→Prop} {Kp : List PanicEntry→World→Prop}
end
end Go.Proofs
end
section
namespace Go.Proofs
open Go.Sh
set_option maxRecDepth 100000
section
variable {X : Nat→Prop} {w0 w : World} {r : Gh} {L : List Asr} {rb : Nat} {s : List UInt8} {a : Nat} {K : Value→World→Prop} {Kp : List PanicEntry→World→Prop}
end
end Go.Proofs
end
section
namespace Go.Proofs
open Go.Sh
set_option linter.unusedVariables false
set_option linter.unusedSimpArgs false
namespace Gr
variable {α β : Type}
end Gr
end Go.Proofs
end
section
namespace Go.Proofs
open Go.Sh
set_option maxRecDepth 100000
inductive k9 : Gh→Value→TyD→Prop
 |nil {sn : Gh} {v : Value} {k re st : Int} {m : Bool} : k9 sn v (.mk k m re st [])
 |one {sn : Gh} {b : Nat} {c : List Value} {k re st : Int} {m : Bool} {u : TyD} (no : ∀ o,¬ sn b o) (hc : c.length=5) (ht : TyG sn (.agg c.toArray) u) (h : k9 sn (.agg c.toArray) u) :
  k9 (sn.or (one b c 31)) (.agg #[.int .u8 k,.bool m,.int .i64 re,.int .i64 st,.slice (some ⟨b,0,none⟩) 1 1]) (.mk k m re st [u])
theorem vi {r : Gh} {v : Value} {u : TyD} {b : Nat} {k re st : Int} {m : Bool} (h : TyG r v u) :
  TyG (r.or (one b v.cells.toList 31)) (.agg #[.int .u8 k,.bool m,.int .i64 re,.int .i64 st,.slice (some ⟨b,0,none⟩) 1 1]) (.mk k m re st [u]):=by
 obtain ⟨c,rfl,hc,hr⟩:=h.rep
 refine ⟨_,1,rfl,by simp,Nat.le_refl _,?_⟩
 refine ⟨⟨c,hc,fun j x hj=>⟨b,0,rfl,fun w hw=>?_⟩,hr.up⟩,trivial⟩
 have B:=yR (b:=b) (c:=(Value.agg c.toArray).cells.toList) (T:=31) w (hw.le (h:=inferInstance))
 show w.cell? ⟨b,0+0*5+j,none⟩=some x
 rw [show 0+0*5+j=j by omega,B.cell]
 exact hj
theorem zI {r : Gh} {k re st : Int} {m : Bool} : TyG r (.agg #[.int .u8 k,.bool m,.int .i64 re,.int .i64 st,.slice none 0 0]) (.mk k m re st []):=
 ⟨none,0,rfl,fun _=>rfl,Nat.le_refl _,trivial⟩
section
variable {X : Nat→Prop} {w0 w : World} {r : Gh} {L : List Asr} {rb : Nat} {s p : List UInt8} {a : Nat} {K : Value→World→Prop} {Kp : List PanicEntry→World→Prop}
end
end Go.Proofs
end
section
namespace Go.Proofs
open Go.Sh
set_option maxRecDepth 100000
set_option linter.unusedSimpArgs false
section
variable {X : Nat→Prop} {w0 w : World} {r : Gh} {L : List Asr} {rb : Nat} {s p : List UInt8} {a : Nat} {K : Value→World→Prop} {Kp : List PanicEntry→World→Prop}
end
end Go.Proofs
end
section
namespace Go.Proofs
open Go.Sh
set_option maxRecDepth 100000
set_option linter.unusedSimpArgs false
end Go.Proofs
end
section
namespace Go.Proofs
open Go.Sh
set_option maxRecDepth 100000
set_option linter.unusedSimpArgs false
def zr : TyD:=.mk 0 false 0 0 []
end Go.Proofs
end
section
namespace Go.Proofs
open Go.Sh
set_option maxRecDepth 100000
set_option linter.unusedSimpArgs false
section
variable {X : Nat→Prop} {w0 w : World} {r : Gh} {L : List Asr} {rb : Nat} {s p : List UInt8} {a : Nat} {st : Bool} {K : Value→World→Prop}
end
end Go.Proofs
end
section
namespace Go.Proofs
open Go.Sh
set_option maxRecDepth 100000
set_option linter.unusedSimpArgs false
section
variable {X : Nat→Prop} {w0 w : World} {r : Gh} {L : List Asr} {rb : Nat} {s p : List UInt8} {a : Nat} {st : Bool} {K : Value→World→Prop}
end
end Go.Proofs
end
section
namespace Go.Proofs
open Go.Sh
set_option maxRecDepth 100000
set_option linter.unusedSimpArgs false
theorem _root_.Go.Sh.StX.perm {X : Nat→Prop} {w0 w : World} {r : Gh} {L M : List Asr} (S : StX X w0 r w L) (hp : L.Perm M) : StX X w0 r w M:=
 ⟨S.x,S.holds,fun z hz=>S.has z (hp.mem_iff.2 hz),fun z hz=>S.mine z (hp.mem_iff.2 hz),(List.Perm.pairwise_iff (fun h k h1 h2=>h k h2 h1) hp).1 S.apart⟩
section
variable {X : Nat→Prop} {w0 w : World} {r : Gh} {L : List Asr} {rb : Nat} {s p : List UInt8} {a : Nat} {K : Value→World→Prop}
end
end Go.Proofs
end
section
namespace Go.Proofs
open Go.Sh
set_option maxRecDepth 100000
set_option linter.unusedSimpArgs false
set_option linter.unusedVariables false
end Go.Proofs
end
section
namespace Go.Proofs
open Go.Sh
set_option maxRecDepth 100000
set_option linter.unusedSimpArgs false
set_option linter.unusedVariables false
mutual
def TyD.few : TyD→Prop
 |.mk _ _ _ _ of=>of.length≤3∧TyD.fews of
def TyD.fews : List TyD→Prop
 |[]=>True
 |t::l=>TyD.few t∧TyD.fews l
end
theorem TyD.fews_mem : ∀ {l : List TyD},TyD.fews l→∀ t ∈ l,t.few
 |[],_,t,h=>by cases h
 |x::l,h,t,ht=>by
  rcases List.mem_cons.1 ht with rfl|ht
  ·exact h.1
  ·exact TyD.fews_mem h.2 t ht
theorem TyD.few_of {t : TyD} (h : t.few) : t.of.length≤3∧∀ u ∈ t.of,u.few:=by
 cases t with|mk k m re st of=>exact ⟨h.1,TyD.fews_mem h.2⟩
end Go.Proofs
end
section
namespace Go.Proofs
open Go.Sh
set_option maxRecDepth 100000
set_option linter.unusedSimpArgs false
set_option linter.unusedVariables false
inductive ChnL : List Value→TyD→List Asr→Prop
 |nil {k re st : Int} {m : Bool} : ChnL [.int .u8 k,.bool m,.int .i64 re,.int .i64 st,.slice none 0 0] (.mk k m re st []) []
 |one {b : Nat} {c : List Value} {k re st : Int} {m : Bool} {u : TyD} {L : List Asr} (h : ChnL c u L) :
  ChnL [.int .u8 k,.bool m,.int .i64 re,.int .i64 st,.slice (some ⟨b,0,none⟩) 1 1] (.mk k m re st [u]) (.cell b c 31::L)
theorem ChnL.len {c : List Value} {t : TyD} {L : List Asr} (h : ChnL c t L) : c.length=5:=by cases h<;>rfl
theorem ChnL.ones {c : List Value} {t : TyD} {L : List Asr} (h : ChnL c t L) : ∀ u ∈ c,u.oneCell'=true:=by
 cases h<;>simp [Value.oneCell']
theorem ChnL.frz {X : Nat→Prop} {w0 w : World} {c : List Value} {t : TyD} {N : List Asr} (h : ChnL c t N) : ∀ {r : Gh} {L : List Asr},StX X w0 r w (N++L)→
  ∃ sn,StX X w0 (r.or sn) w L∧TyG sn (.agg c.toArray) t∧k9 sn (.agg c.toArray) t∧(∀ b o,sn b o→w0.heap.size≤b∨X b):=by
 induction h with
 |nil=>
  intro r L S
  exact ⟨nothing,S.to _,zI,.nil,fun _ _ h=>h.elim⟩
 |@one b c k re st m u N hu ih=>
  intro r L S
  have S : StX X w0 r w (N++(.cell b c 31::L)):=S.perm List.perm_middle.symm
  obtain ⟨sn,S,ht,hg,hf⟩:=ih S
  have hm:=S.mine (.cell b c 31) (by simp) b rfl
  have S:=S.frz
  refine ⟨sn.or (Go.Sh.one b c 31),S.to _,vi ht,.one (fun o ho=>hm.2 o (.inr ho)) hu.len ht hg,fun b' o ho=>?_⟩
  rcases ho with ho|⟨rfl,_⟩
  ·exact hf b' o ho
  ·exact hm.1
section
variable {X : Nat→Prop} {w0 w : World} {r : Gh} {L : List Asr}
theorem Yx {s : Int} : ∀ (n : Nat) {t : TyD} {w : World} {r : Gh} {L : List Asr} {v : Value} {K : Value→World→Prop},n≤1000→zy s n t=true→StX X w0 r w L→TyG r v t→
  (∀ c N w',ChnL c t N→StX X w0 r w' (N++L)→K (.agg c.toArray) w')→ze Tryz.prog Tryz.kf #[v] w K:=by
 intro n
 induction n with
 |zero=>intro t w r L v K _ h;cases h
 |succ n ih=>
  intro t w r L v K hn hl S hv h
  refine Tryz.acl ?_
  unfold Tryz.Jj
  obtain ⟨p,cap,rfl,_,_,hof⟩:=hv
  refine S.box fun b1 w1 S=>?_
  have S : StX X w0 r w1 (.cell b1 [.int .u8 t.k,.bool t.m,.int .i64 t.re,.int .i64 t.st,.slice p t.of.length cap] 31::L):=S
  refine S.al fun b2 w2 S=>?_
  refine zp (fun _ w'=>∃ q m N,ChnL [.int .u8 t.k,.bool t.m,.int .i64 t.re,.int .i64 t.st,.slice q m m] t N∧StX X w0 r w' (N++(.cell b2 [.int .u8 0,.bool false,.int .i64 0,.int .i64 0,.slice none 0 0] 31 :: .cell b1 [.int .u8 t.k,.bool t.m,.int .i64 t.re,.int .i64 t.st,.slice q m m] 31::L))) (fun K2 hK2=>?_) ?_
  ·have he : t = .mk t.k t.m t.re t.st t.of:=by cases t;rfl
   refine gG_ ?_
   rcases zF hl with ⟨ho,_⟩|⟨u,ho,hu,_⟩
   ·refine c_f (by rw [ho];rfl) ?_
    refine gG_ ?_
    refine S.st fun w3 S=>?_
    refine hK2 [] _ ⟨none,0,[],?_,S⟩
    have : ChnL [.int .u8 t.k,.bool t.m,.int .i64 t.re,.int .i64 t.st,.slice none 0 0] (.mk t.k t.m t.re t.st []) []:=.nil
    rw [ho] at he
    rw [← he] at this
    exact this
   ·have hlen : t.of.length=1:=by rw [ho];rfl
    obtain ⟨ba,oa,rfl,c,hc,hcell,ht⟩:=NdG.of hof (i:=0) (by omega)
    have ht : TyG r (.agg c.toArray) u:=by simpa [ho] using ht
    refine c_t (by rw [hlen];rfl) ?_
    refine gG_ ?_
    refine zq (n:=5) hc (fun j v hj=>by simpa using S.at (hcell j v hj)) ?_
    refine ih (by omega) hu S ht fun c' N w3 hch S=>?_
    refine S.lit (e:=31) (cs:=c') (by
     cases hch<;>kernel_rfl) fun b9 w4 S=>?_
    have S : StX X w0 r w4 (.cell b1 [.int .u8 t.k,.bool t.m,.int .i64 t.re,.int .i64 t.st,.slice (some ⟨ba,oa,none⟩) t.of.length cap] 31::(.cell b9 c' 31::N++(.cell b2 [.int .u8 0,.bool false,.int .i64 0,.int .i64 0,.slice none 0 0] 31::L))):=S.perm (by
     refine (List.Perm.cons _ ?_).trans (.swap _ _ _)
     refine (List.perm_append_comm_assoc N [_] _).trans ?_
     refine (List.Perm.append_left [_] ((List.perm_append_comm_assoc N [_] _))).trans ?_
     refine (List.Perm.swap _ _ _).trans ?_
     refine List.Perm.cons _ ?_
     exact (List.perm_append_comm_assoc [_] N L))
    refine gG_ ?_
    refine S.st fun w5 S=>?_
    have hch' : ChnL [.int .u8 t.k,.bool t.m,.int .i64 t.re,.int .i64 t.st,.slice (some ⟨b9,0,none⟩) 1 1] (.mk t.k t.m t.re t.st [u]) (.cell b9 c' 31::N):=.one hch
    rw [ho] at he
    rw [← he] at hch'
    refine hK2 [] _ ⟨_,_,_,hch',S.perm ?_⟩
    have:=List.perm_middle (a:=Asr.cell b1 [.int .u8 t.k,.bool t.m,.int .i64 t.re,.int .i64 t.st,.slice (some ⟨b9,0,none⟩) 1 1] 31) (l₁:=.cell b9 c' 31::N ++ [.cell b2 [.int .u8 0,.bool false,.int .i64 0,.int .i64 0,.slice none 0 0] 31]) (l₂:=L)
    simpa using this.symm
  rintro _ w6 ⟨q,m,N,hch,S⟩ d6
  have S : StX X w0 r w6 (.cell b2 [.int .u8 0,.bool false,.int .i64 0,.int .i64 0,.slice none 0 0] 31 :: .cell b1 [.int .u8 t.k,.bool t.m,.int .i64 t.re,.int .i64 t.st,.slice q m m] 31::(N++L)):=S.perm (by
   refine (List.perm_append_comm_assoc N [_] _).trans ?_
   exact List.Perm.cons _ (List.perm_append_comm_assoc N [_] _))
  refine gG_ ?_
  refine S.stB fun w7 S=>?_
  refine gG_ ?_
  exact h _ N _ hch S.tl.tl
theorem Yy {t : TyD} {w : World} {r : Gh} {v : Value} {K : Value→World→Prop} (hr : Holds r w) (hv : TyG r v t)
  (h : ∀ v' sn w',Ext w w'→New w sn w'→TyG sn v' (if isB t then t else zr)→k9 sn v' (if isB t then t else zr)→K (.tuple #[v',.int .i64 (if isB t then 0 else 2)]) w') : ze Tryz.prog Tryz.qd #[v] w K:=by
 refine Tryz.acj ?_
 unfold Tryz.Jh
 have hv0:=hv
 obtain ⟨p,cap,rfl,_⟩:=hv
 have S:=St.start hr
 refine S.box fun b1 w1 S=>?_
 refine S.al fun b2 w2 S=>?_
 refine gG_ ?_
 refine kj S.holds hv0 fun w3 e3=>?_
 have S:=S.go e3
 refine gG_ ?_
 refine c_b (fun hn=>?_) (fun hn=>?_)
 ·have hn : isB t=false:=by simpa using hn
  rw [hn] at h
  refine zo (cs:=#[.int .u8 0,.bool false,.int .i64 0,.int .i64 0,.slice none 0 0]) (by kernel_rfl) ?_
  refine S.stB fun w4 S=>?_
  refine gG_ ?_
  exact h _ nothing _ S.ext New.nothing zI .nil
 ·have hn : isB t=true:=by simpa using hn
  rw [hn] at h
  refine gG_ ?_
  refine Yx 48 (by decide) hn S hv0 fun c N w4 hch S=>?_
  obtain ⟨sn,S,ht,hg,hf⟩:=hch.frz S
  have hl:=hch.len
  have hone:=hch.ones
  refine S.stB (cs:=c.toArray) (fun w5 S=>?_) rfl (by simpa using hl) (by simpa using hone)
  refine S.ceB ?_ hl
  exact h _ sn _ S.ext ⟨S.holds.le (h:=inferInstance),fun b o hb=>(hf b o hb).elim id fun h=>h.elim⟩ ht hg
end
end Go.Proofs
end
section
namespace Go.Proofs
open Go.Sh
set_option maxRecDepth 100000
set_option linter.unusedSimpArgs false
set_option linter.unusedVariables false
mutual
def TyD.lay : List Int→TyD→TyD
 |l,.mk k m re st of=>.mk k m (if k=4 then l.headD 0 else re) st (TyD.lays (if k=4 then l.tail else l) of)
def TyD.lays : List Int→List TyD→List TyD
 |_,[]=>[]
 |l,t::r=>TyD.lay l t::TyD.lays l r
end
theorem aa4 {c : List Value} {t : TyD} {N : List Asr} (h : ChnL c t N) :
  (t.of = []∧N = []∧c = [.int .u8 t.k,.bool t.m,.int .i64 t.re,.int .i64 t.st,.slice none 0 0])∨
  ∃ b cu u N',t.of = [u]∧N = .cell b cu 31::N'∧c = [.int .u8 t.k,.bool t.m,.int .i64 t.re,.int .i64 t.st,.slice (some ⟨b,0,none⟩) 1 1]∧ChnL cu u N':=by
 cases h with
 |nil=>exact .inl ⟨rfl,rfl,rfl⟩
 |one h=>exact .inr ⟨_,_,_,_,rfl,rfl,rfl,h⟩
theorem Zg {t : TyD} {l : List Int} (h : t.of = []) : t.lay l = .mk t.k t.m (if t.k=4 then l.headD 0 else t.re) t.st []:=by
 cases t with|mk k m re st of=>cases h;rfl
theorem kP {t u : TyD} {l : List Int} (h : t.of = [u]) : t.lay l = .mk t.k t.m (if t.k=4 then l.headD 0 else t.re) t.st [u.lay (if t.k=4 then l.tail else l)]:=by
 cases t with|mk k m re st of=>cases h;rfl
theorem ZG {t : TyD} (h : t.of = []) : t.regs=if t.k=4 then [t.re] else []:=by
 rw [TyD.regs_eq,h];simp [TyD.chains,TyD.regsL]
theorem kH {t u : TyD} (h : t.of = [u]) : t.regs=(if t.k=4 then [t.re] else [])++u.regs:=by
 rw [TyD.regs_eq,h];rfl
theorem adv {α : Type} (a b : α) (C D M : List α) : (a::(C++((b::D)++M))).Perm (b::(C++(D++(a::M)))):=by
 have h1 : (C++((b::D)++M)).Perm (b::(C++(D++M))):=List.perm_middle
 have h2 : (a::(C++(D++M))).Perm (C++(D++(a::M))):=by
  rw [← List.append_assoc,← List.append_assoc];exact List.perm_middle.symm
 exact ((h1.cons a).trans (.swap _ _ _)).trans (h2.cons b)
theorem acu {s : Int} {fv : Value} {l : List Int} {Lc : Nat→List Asr} {X : Nat→Prop} {w0 : World} {r : Gh}
  (hf : ∀ (i : Nat) (hi : i<l.length) {b : Nat} {k re st : Int} {m : Bool} {v : Value} {M : List Asr} {w : World} {K : Value→World→Prop},StX X w0 r w (.cell b [.int .u8 k,.bool m,.int .i64 re,.int .i64 st,v] 31::(Lc i++M))→
   (∀ w',StX X w0 r w' (.cell b [.int .u8 k,.bool m,.int .i64 l[i],.int .i64 st,v] 31::(Lc (i+1)++M))→K (.tuple #[]) w')→zJ Tryz.prog fv #[.pointer (some ⟨b,0,none⟩)] w K) :
  ∀ (n : Nat) {t : TyD} {c : List Value} {N : List Asr} {b i : Nat} {M : List Asr} {w : World} {K : Value→World→Prop},zy s n t=true→ChnL c t N→i+t.regs.length≤l.length→
   StX X w0 r w (.cell b c 31::(Lc i++(N++M)))→
   (∀ c' N' w',ChnL c' (t.lay (l.drop i)) N'→StX X w0 r w' (.cell b c' 31::(Lc (i+t.regs.length)++(N'++M)))→K (.tuple #[]) w')→
   ze Tryz.prog Tryz.xF #[.pointer (some ⟨b,0,none⟩),fv] w K:=by
 intro n
 induction n with
 |zero=>intro t c N b i M w K h;cases h
 |succ n ih=>
  intro t c N b i M w K hl hch hi S h
  refine Tryz.Xw ?_
  unfold Tryz.Zz
  obtain ⟨q,len,hce⟩ : ∃ q len,c = [.int .u8 t.k,.bool t.m,.int .i64 t.re,.int .i64 t.st,.slice q len len]:=by
   rcases aa4 hch with ⟨_,_,hc⟩|⟨_,_,_,_,_,_,hc,_⟩
   ·exact ⟨_,_,hc⟩
   ·exact ⟨_,_,hc⟩
  subst hce
  have hhead : ∀ j,i=j→j<l.length→(l.drop i).headD 0=l.getD j 0:=by
   intro j hj hlt
   subst hj
   rw [List.drop_eq_getElem_cons hlt,List.headD_cons,List.getD_eq_getElem?_getD,List.getElem?_eq_getElem hlt];rfl
  refine zp (fun _ w'=>StX X w0 r w' (.cell b [.int .u8 t.k,.bool t.m,.int .i64 (if t.k=4 then (l.drop i).headD 0 else t.re),.int .i64 t.st,.slice q len len] 31::(Lc (if t.k=4 then i+1 else i)++(N++M)))) (fun K2 hK2=>?_) ?_
  ·refine gG_ ?_
   refine zj (fun h4=>?_) (fun h4=>?_)
   ·have h4 : t.k=4:=by omega
    have hlt : i<l.length:=by
     have : 0<t.regs.length:=by
      rw [TyD.regs_eq,if_pos h4];simp
     omega
    refine hf i hlt S fun w1 S=>?_
    refine hK2 [] _ ?_
    rw [if_pos h4,if_pos h4,hhead i rfl hlt,List.getD_eq_getElem?_getD,List.getElem?_eq_getElem hlt]
    exact S
   ·have h4 : ¬ t.k=4:=by omega
    refine hK2 [] _ ?_
    rw [if_neg h4,if_neg h4]
    exact S
  clear S
  rintro _ w1 S d1
  refine gG_ ?_
  rcases aa4 hch with ⟨ho,rfl,hc⟩|⟨b',cu,u,N',ho,rfl,hc,hu⟩
  ·injection hc with _ hc;injection hc with _ hc;injection hc with _ hc;injection hc with _ hc;injection hc with hc _
   cases hc
   refine gG_ ?_
   have e1 : i+t.regs.length=if t.k=4 then i+1 else i:=by
    rw [ZG ho];split<;>rfl
   refine h _ [] w1 ?_ (by rw [e1];exact S)
   rw [Zg ho]
   exact .nil
  ·injection hc with _ hc;injection hc with _ hc;injection hc with _ hc;injection hc with _ hc;injection hc with hc _
   cases hc
   refine gG_ ?_
   have hlu : zy s n u=true:=by
    rcases zF hl with ⟨hx,_⟩|⟨y,hy,hly,_⟩
    ·rw [ho] at hx;cases hx
    ·rw [ho] at hy;cases hy;exact hly
   have hreg:=congrArg List.length (kH ho)
   rw [List.length_append] at hreg
   have hk4 : (if t.k=4 then [t.re] else ([] : List Int)).length=if t.k=4 then 1 else 0:=by split<;>rfl
   rw [hk4] at hreg
   have e1 : i+t.regs.length=(if t.k=4 then i+1 else i)+u.regs.length:=by
    rw [hreg];split<;>omega
   have e2 : l.drop (if t.k=4 then i+1 else i)=if t.k=4 then (l.drop i).tail else l.drop i:=by
    split
    ·rw [List.tail_drop]
    ·rfl
   have S' : StX X w0 r w1 (.cell b' cu 31::(Lc (if t.k=4 then i+1 else i)++(N'++(.cell b [.int .u8 t.k,.bool t.m,.int .i64 (if t.k=4 then (l.drop i).headD 0 else t.re),.int .i64 t.st,.slice (some ⟨b',0,none⟩) 1 1] 31::M)))):=S.perm (adv _ _ _ _ _)
   refine c_t (by simp) ?_
   refine gG_ ?_
   refine ih (i:=if t.k=4 then i+1 else i) hlu hu (by omega) S' fun c' N'' w2 hch' S=>?_
   rw [e2] at hch'
   have hone:=ChnL.one (b:=b') (k:=t.k) (re:=if t.k=4 then (l.drop i).headD 0 else t.re) (st:=t.st) (m:=t.m) hch'
   rw [← kP ho] at hone
   refine h _ _ w2 hone ?_
   rw [e1]
   exact S.perm (adv _ _ _ _ _).symm
theorem xO {t : TyD} (h : isB t=true) : t.regs.length≤48:=by
 have h1:=aa2 48 (QO h)
 rw [TyD.regs,TyD.regsL,List.length_map]
 exact Nat.le_trans (List.length_filter_le _ _) h1
end Go.Proofs
end
section
namespace Go.Proofs
open Go.Sh
set_option maxRecDepth 100000
set_option linter.unusedSimpArgs false
set_option linter.unusedVariables false
def Yc (t : TyD) (l : List Int) : Bool:=(isB t&&decide (t.regs.length=l.length)) && !(l.any fun x=>decide (x < -1))
def Za (t : TyD) (l : List Int) : TyD × Int:=if Yc t l then (t.lay l,0) else (zr,2)
theorem afL (x : Int) (w : World) (K : Value→World→Prop) (hk : K (.bool (decide (x < -1))) w) : zJ Tryz.prog (.func (.func Tryz.YE) #[] #[]) #[.int .i64 x] w K:=by
 refine xZ (by kernel_rfl) ?_
 refine Tryz.Vv (t0:=.int .i64 x) ?_
 unfold Tryz.YL
 refine gP_ ?_
 exact hk
theorem kQ {w : World} {p : Option Addr} {l : List Int} (h : Sl w p (ints l)) {i : Nat} (hi : i<l.length) : ∃ b off,p=some ⟨b,off,none⟩∧w.cell? ⟨b,off+i,none⟩=some (.int .i64 l[i]):=by
 obtain ⟨b,off,hp,hc⟩:=h.at (i:=i) (by rw [y9];exact hi)
 refine ⟨b,off,hp,?_⟩
 rw [hc];simp [ints]
theorem acv {t : TyD} {l : List Int} {p : Option Addr} {cap : Nat} {w : World} {r : Gh} {v : Value} {K : Value→World→Prop} (hr : Holds r w) (hv : TyG r v t) (hl : Ob r fun w=>Sl w p (ints l)) (hb : l.length≤1000)
  (h : ∀ v' sn w',Ext w w'→New w sn w'→TyG sn v' (Za t l).1→k9 sn v' (Za t l).1→K (.tuple #[v',.int .i64 (Za t l).2]) w') : ze Tryz.prog Tryz.Zl #[v,.slice p l.length cap] w K:=by
 refine Tryz.abu ?_
 unfold Tryz.X6
 have hv0:=hv
 obtain ⟨p1,cap1,rfl,_⟩:=hv
 have S:=St.start hr
 refine S.box fun b2 w1 S=>?_
 refine S.box fun b3 w2 S=>?_
 refine S.al fun b4 w3 S=>?_
 have S:=S.go (Ext.drew _)
 refine gG_ ?_
 refine kj S.holds hv0 fun w4 e4=>?_
 have S:=S.go e4
 refine gG_ ?_
 refine yw (c:=decide (t.regs.length≠l.length)) (fun hB K2 hK2=>?_) fun w9 e9=>?_
 ·have hB : isB t=true:=by simpa using hB
  refine gG_ ?_
  refine xw S.holds hv0 fun v5 w5 e5 o5=>⟨e5,?_⟩
  obtain ⟨p5,cap5,rfl,_⟩:=j8 o5
  refine gG_ ?_
  have:=hK2 _ e5
  rw [regsT,if_pos hB]
  have e1 : decide (((t.regs.length : Nat) : Int)≠((l.length : Nat) : Int))=decide (t.regs.length≠l.length):=decide_eq_decide.2 (by omega)
  rw [e1];exact this
 have S:=S.go e9
 refine zh (c:=l.any fun x=>decide (x < -1)) (fun _ K2 hK2=>?_) ?_
 ·refine gG_ ?_
  refine Qf (f:=fun x=>decide (x < -1)) afL (S.at hl) (by omega) ?_
  exact hK2
 have hnb : ((!isB t||decide (t.regs.length≠l.length))||l.any fun x=>decide (x < -1)) = !Yc t l:=by
  rw [Yc]
  cases isB t<;>cases l.any (fun x=>decide (x < -1))<;>simp
 rw [hnb]
 refine c_b (fun hn=>?_) (fun hn=>?_)
 ·have hn : Yc t l=false:=by simpa using hn
  have hT : Za t l=(zr,2):=by rw [Za,hn];rfl
  rw [hT] at h
  refine zo (cs:=#[.int .u8 0,.bool false,.int .i64 0,.int .i64 0,.slice none 0 0]) (by kernel_rfl) ?_
  refine S.stB fun w5 S=>?_
  refine gG_ ?_
  exact h _ nothing _ S.ext New.nothing zI .nil
 ·have hn : Yc t l=true:=by simpa using hn
  have hT : Za t l=(t.lay l,0):=by rw [Za,if_pos hn]
  rw [hT] at h
  rw [Yc,Bool.and_eq_true,Bool.and_eq_true,decide_eq_true_eq] at hn
  obtain ⟨⟨hB,hlen⟩,_⟩:=hn
  refine gG_ ?_
  refine Yx 48 (by decide) hB S hv0 fun c N w5 hch S=>?_
  have S : StX noX w r w5 (.cell b2 [.int .u8 t.k,.bool t.m,.int .i64 t.re,.int .i64 t.st,.slice p1 t.of.length cap1] 31::([.cell b3 [.slice p l.length cap] 39]++(N ++ [.cell b4 [.int .u8 0,.bool false,.int .i64 0,.int .i64 0,.slice none 0 0] 31]))):=S.perm (by
   refine (List.Perm.append_left N (List.Perm.swap _ _ _ |>.trans (List.Perm.cons _ (List.Perm.swap _ _ _)))).trans ?_
   refine (List.Perm.append_left N (List.Perm.swap _ _ _)).trans ?_
   refine List.perm_middle.trans (List.Perm.cons _ ?_)
   refine List.perm_middle.trans ?_
   exact List.Perm.refl _)
  have hcl:=hch.len
  have hone:=hch.ones
  refine S.stB (b:=b2) (cs:=c.toArray) (fun w6 S=>?_) rfl (by simpa using hcl) (by simpa using hone)
  refine S.al fun b6 w7 S=>?_
  refine S.st (b:=b6) fun w8 S=>?_
  refine gP_ ?_
  have S : StX noX w r w8 (.cell b2 c 31::([.cell b6 [.int .i64 ((0 : Nat) : Int)] 3,.cell b3 [.slice p l.length cap] 39]++(N ++ [.cell b4 [.int .u8 0,.bool false,.int .i64 0,.int .i64 0,.slice none 0 0] 31]))):=S.perm (List.Perm.swap _ _ _)
  refine acu (s:=32) (l:=l) (Lc:=fun i=>[.cell b6 [.int .i64 (i : Nat)] 3,.cell b3 [.slice p l.length cap] 39]) ?_ 48 (i:=0) hB hch (by omega) (M:=[.cell b4 [.int .u8 0,.bool false,.int .i64 0,.int .i64 0,.slice none 0 0] 31]) S fun c' N' w9 hch' S=>?_
  ·intro i hi b k re st m v M w K S h
   refine xZ (by kernel_rfl) ?_
   refine Tryz.Vw (t0:=.pointer (some ⟨b,0,none⟩)) (t1:=.pointer (some ⟨b3,0,none⟩)) (t2:=.pointer (some ⟨b6,0,none⟩)) ?_
   unfold Tryz.YM
   have S : StX noX _ r _ (.cell b [.int .u8 k,.bool m,.int .i64 re,.int .i64 st,v] 31 :: .cell b6 [.int .i64 (i : Nat)] 3 :: .cell b3 [.slice p l.length cap] 39::M):=S
   obtain ⟨bp,op,rfl,hcell⟩:=kQ (S.at hl) hi
   refine gG_ ?_
   refine zm (by simpa using hcell) ?_
   refine gG_ ?_
   refine S.st fun w1 S=>?_
   refine gG_ ?_
   refine S.st (b:=b6) fun w2 S=>?_
   refine h _ ?_
   rw [show ((i : Nat) : Int)+1=((i+1 : Nat) : Int) by omega] at S
   exact S
  rw [List.drop_zero] at hch'
  have S : StX noX w r w9 (.cell b2 c' 31 :: .cell b4 [.int .u8 0,.bool false,.int .i64 0,.int .i64 0,.slice none 0 0] 31::N'):=(S.less (fun _ _ h=>h) (.cons_cons _ (List.sublist_append_right _ _))).perm (by
   refine List.Perm.cons _ ?_
   show (N' ++ [_]).Perm ([_]++N')
   exact List.perm_append_comm)
  have hl':=hch'.len
  have hone':=hch'.ones
  refine S.ldB (b:=b2) ?_ hl'
  refine S.stB (b:=b4) (cs:=c'.toArray) (fun w8 S=>?_) rfl (by simpa using hl') (by simpa using hone')
  refine S.ceB (b:=b4) ?_ hl'
  have S : StX noX w r w8 (N' ++ []):=by rw [List.append_nil];exact S.tl.tl
  obtain ⟨sn,S,ht,hg,hf⟩:=hch'.frz S
  exact h _ sn _ S.ext ⟨S.holds.le (h:=inferInstance),fun b o hb=>(hf b o hb).elim id fun h=>h.elim⟩ ht hg
end Go.Proofs
end
section
namespace Go.Proofs
open Go.Sh
set_option maxRecDepth 100000
set_option linter.unusedSimpArgs false
set_option linter.unusedVariables false
end Go.Proofs
end
section
namespace Go.Proofs
open Go.Sh
set_option maxRecDepth 100000
set_option linter.unusedSimpArgs false
set_option linter.unusedVariables false
structure StD where
 name : ByteArray
 fs : List (ByteArray × TyD)
def acw (f : ByteArray × TyD) : Dat:=.agg [.str f.1,f.2.dat]
def StD.dat (s : StD) : Dat:=.agg [.str s.name,.sl 6 (s.fs.map acw)]
def FlG (r : Gh) (p : Option Addr) (fs : List (ByteArray × TyD)) : Prop:=RepS r 6 p 0 (fs.map acw)
def StG (r : Gh) (p : Option Addr) (ss : List StD) : Prop:=RepS r 2 p 0 (ss.map StD.dat)
theorem StG.up {r s : Gh} {p : Option Addr} {ss : List StD} (h : StG r p ss) [l : Le r s] : StG s p ss:=RepS.up' l h
theorem xV {r : Gh} {p : Option Addr} {fs : List (ByteArray × TyD)} (h : FlG r p fs) {k : Nat} (hk : k<fs.length) : ∃ b off c,p=some ⟨b,off,none⟩∧c.length=5∧
  (∀ j v,(Value.string fs[k].1::c)[j]? = some v→Ob r fun w=>w.cell? ⟨b,off+k*6+j,none⟩=some v)∧TyG r (.agg c.toArray) fs[k].2:=by
 obtain ⟨c,h1,h2,h3⟩:=RepS.get h (i:=k) (d:=acw fs[k]) (by rw [List.getElem?_map,List.getElem?_eq_getElem hk];rfl)
 obtain ⟨a1,b1,rfl,e1,a2,b2,rfl,e2,e3⟩:=h3
 obtain rfl : a1=_:=e1
 obtain rfl : b2 = []:=e3
 rw [List.append_nil] at h1 h2
 obtain ⟨b,off,rfl,_⟩:=h2 0 _ rfl
 refine ⟨b,off,a2,rfl,by simpa using h1,fun j v hj=>?_,TyG.of_rep e2⟩
 obtain ⟨b',off',hp,ho⟩:=h2 j v hj
 cases hp
 rwa [Nat.zero_add] at ho
theorem yZ {r : Gh} {p : Option Addr} {ss : List StD} (h : StG r p ss) {i : Nat} (hi : i<ss.length) : ∃ b off q cap,p=some ⟨b,off,none⟩∧
  (Ob r fun w=>w.cell? ⟨b,off+i*2+1,none⟩=some (.slice q ss[i].fs.length cap))∧(q=none→cap=0)∧ss[i].fs.length≤cap∧FlG r q ss[i].fs:=by
 obtain ⟨c,h1,h2,h3⟩:=RepS.get h (i:=i) (d:=StD.dat ss[i]) (by rw [List.getElem?_map,List.getElem?_eq_getElem hi];rfl)
 obtain ⟨a1,b1,rfl,e1,a2,b2,rfl,e2,e3⟩:=h3
 obtain rfl : a1=_:=e1
 obtain rfl : b2 = []:=e3
 obtain ⟨q,cap,rfl,hq,hc,hf⟩:=e2
 rw [List.length_map] at hc h2
 obtain ⟨b,off,rfl,_⟩:=h2 0 _ rfl
 obtain ⟨b',off',hp,ho⟩:=h2 1 (.slice q ss[i].fs.length cap) (by rfl)
 cases hp
 rw [Nat.zero_add] at ho
 exact ⟨b,off,q,cap,rfl,ho,hq,hc,hf⟩
def zd (ss : List StD) (k : Int) : List TyD:=match ss[k.toNat]? with|some s=>s.fs.map (·.2)|none=>[]
def Kid (ss : List StD) (k j : Int) : Prop:=∃ t ∈ zd ss k,t.k=5∧t.st=j
inductive Rch (ss : List StD) : Int→Int→Prop
 |one {k j : Int} : Kid ss k j→Rch ss k j
 |more {k j i : Int} : Rch ss k j→Kid ss j i→Rch ss k i
theorem Rch.trans {ss : List StD} {a b c : Int} (h : Rch ss a b) (k : Rch ss b c) : Rch ss a c:=by
 induction k with
 |one e=>exact .more h e
 |more _ e ih=>exact .more ih e
def xj (ss : List StD) : Prop:=∀ k,∀ t ∈ zd ss k,zy ss.length 48 t=true
theorem kR {n : Int} {m : Nat} {t : TyD} (h : zy n (m+1) t=true) (hk : t.k=5) : 0≤t.st∧t.st<n∧t.of = []:=by
 rw [yU] at h
 rw [if_neg (by omega),if_pos hk] at h
 simp only [Bool.and_eq_true,decide_eq_true_eq] at h
 exact ⟨h.1.2,h.2,List.eq_nil_of_length_eq_zero h.1.1.2⟩
theorem jl {ss : List StD} (hg : xj ss) {k j : Int} (h : Kid ss k j) : 0≤j∧j<ss.length:=by
 obtain ⟨t,ht,h5,rfl⟩:=h
 have:=kR (hg k t ht) h5
 exact ⟨this.1,this.2.1⟩
theorem VG {ss : List StD} (hg : xj ss) {k j : Int} (h : Rch ss k j) : 0≤j∧j<ss.length:=by
 cases h with
 |one h=>exact jl hg h
 |more _ h=>exact jl hg h
open Classical in
noncomputable def rkS (ss : List StD) (k : Int) : Nat:=(List.range ss.length).countP fun j : Nat=>decide (Rch ss k (j : Int))
noncomputable def rkT (ss : List StD) (t : TyD) : Nat:=if t.k=5 then rkS ss t.st+1 else 0
open Classical in
theorem VH (ss : List StD) (t : TyD) : rkT ss t≤ss.length+1:=by
 unfold rkT rkS
 split
 ·have:=List.countP_le_length (p:=fun j : Nat=>decide (Rch ss t.st (j : Int))) (l:=List.range ss.length)
  rw [List.length_range] at this
  omega
 ·omega
theorem aa5 {p q : Nat→Bool} : ∀ {l : List Nat},(∀ x ∈ l,p x=true→q x=true)→(∃ x ∈ l,p x=false∧q x=true)→l.countP p<l.countP q
 |[],_,h=>by obtain ⟨x,hx,_⟩:=h;cases hx
 |a::l,h1,h2=>by
  rw [List.countP_cons,List.countP_cons]
  have hle : l.countP p≤l.countP q:=List.countP_mono_left fun x hx=>h1 x (List.mem_cons_of_mem _ hx)
  have ha:=h1 a List.mem_cons_self
  by_cases hex : ∃ x ∈ l,p x=false∧q x=true
  ·have:=aa5 (fun x hx=>h1 x (List.mem_cons_of_mem _ hx)) hex
   cases hp : p a<;>cases hq : q a<;>simp_all<;>omega
  ·obtain ⟨x,hx,hx1,hx2⟩:=h2
   rcases List.mem_cons.1 hx with rfl|hx
   ·rw [hx1,hx2];simp;omega
   ·exact absurd ⟨x,hx,hx1,hx2⟩ hex
open Classical in
theorem VI {ss : List StD} (hg : xj ss) (hac : ∀ k,¬ Rch ss k k) {t u : TyD} (h5 : t.k=5) (hu : u ∈ zd ss t.st) : rkT ss u<rkT ss t:=by
 unfold rkT
 rw [if_pos h5]
 split
 ·rename_i hu5
  have hk : Kid ss t.st u.st:=⟨u,hu,hu5,rfl⟩
  have hin:=jl hg hk
  have:=aa5 (p:=fun j : Nat=>decide (Rch ss u.st (j : Int))) (q:=fun j : Nat=>decide (Rch ss t.st (j : Int))) (l:=List.range ss.length)
   (fun x _ hx=>decide_eq_true (Rch.trans (.one hk) (of_decide_eq_true hx)))
   ⟨u.st.toNat,List.mem_range.2 (by omega),decide_eq_false (by rw [Int.toNat_of_nonneg hin.1];exact hac _),decide_eq_true (by rw [Int.toNat_of_nonneg hin.1];exact .one hk)⟩
  unfold rkS
  omega
 ·omega
def z8 : List Nat→Nat
 |[]=>0
 |x::l=>x+z8 l
theorem Yz : ∀ (a b : List Nat),z8 (a++b)=z8 a+z8 b
 |[],b=>by simp [z8]
 |x::a,b=>by simp only [List.cons_append,z8,Yz a b];omega
def wF (ss : List StD) : Nat→TyD→Nat
 |0,_=>1
 |m+1,t=>if t.k=5 then z8 ((zd ss t.st).map (wF ss m)) else 1
def dF (ss : List StD) : Nat→TyD→Bool
 |0,t=>decide (t.k=3)
 |m+1,t=>if t.k=5 then (zd ss t.st).any (dF ss m) else decide (t.k=3)
def yX (n : Nat) (p : Nat→Bool) : Nat:=((List.range n).find? p).getD n
theorem kI {n : Nat} {p : Nat→Bool} (h : ∀ j,j<n→p j=false) : yX n p=n:=by
 rw [yX,List.find?_eq_none.2 (by intro x hx;rw [h x (List.mem_range.1 hx)];decide)];rfl
theorem kJ {n i : Nat} {p : Nat→Bool} (hi : i<n) (hp : p i=true) (h : ∀ j,j<i→p j=false) : yX n p=i:=by
 have : (List.range n).find? p=some i:=by
  rw [List.find?_range_eq_some]
  exact ⟨hp,List.mem_range.2 hi,fun j hj=>by rw [h j hj];rfl⟩
 rw [yX,this];rfl
theorem kS {n : Nat} {p : Nat→Bool} (h : ¬ yX n p<n) : ∀ j,j<n→p j=false:=by
 intro j hj
 by_cases hp : ∀ j,j<n→p j=false
 ·exact hp j hj
 ·exfalso
  apply h
  unfold yX
  cases hf : (List.range n).find? p with
  |none=>
   exfalso;apply hp
   intro j hj
   have:=List.find?_eq_none.1 hf j (List.mem_range.2 hj)
   simpa using this
  |some x=>exact List.mem_range.1 (List.mem_of_find?_eq_some hf)
def yS (ss : List StD) (k : Nat) : Bool:=
 (decide ((zd ss k).length<1)||decide (8<(zd ss k).length))||(zd ss k).any fun t=>!zy ss.length 48 t||decide (0<t.regs.length)
open Classical in
noncomputable def ko (ss : List StD) (k : Nat) : Bool:=decide (Rch ss k k)
def jR (ss : List StD) (k : Nat) : Bool:=decide (16<wF ss 40 (.mk 5 false 0 k []))
noncomputable def zz (ss : List StD) : Int × Int:=
 if 32<ss.length then (32,2)
 else if yX ss.length (yS ss)<ss.length then (yX ss.length (yS ss),2)
 else if yX ss.length (ko ss)<ss.length then (yX ss.length (ko ss),2)
 else if yX ss.length (jR ss)<ss.length then (yX ss.length (jR ss),2)
 else (0,0)
theorem yi {ss : List StD} {i : Nat} (hi : i<ss.length) : zd ss i=ss[i].fs.map (·.2):=by
 rw [zd,Int.toNat_natCast,List.getElem?_eq_getElem hi]
theorem qU {ss : List StD} {i : Nat} (hi : i<ss.length) : (zd ss i).length=ss[i].fs.length:=by
 rw [yi hi,List.length_map]
theorem aa6 {ss : List StD} {k : Int} (h : ¬ k.toNat<ss.length) : zd ss k = []:=by
 rw [zd,List.getElem?_eq_none (by omega)]
theorem YW {ss : List StD} (h : ∀ k,k<ss.length→yS ss k=false) : xj ss:=by
 intro k t ht
 by_cases hk : k.toNat<ss.length
 ·have:=h k.toNat hk
  have e : zd ss (k.toNat : Int)=zd ss k:=by rw [zd,zd,Int.toNat_natCast]
  rw [yS,e,Bool.or_eq_false_iff] at this
  have:=List.any_eq_false.1 this.2 t ht
  simp only [Bool.or_eq_true,Bool.not_eq_true',not_or] at this
  simpa using this.1
 ·rw [aa6 hk] at ht;cases ht
theorem QQ {ss : List StD} (hg : xj ss) (h : ∀ k,k<ss.length→ko ss k=false) : ∀ k,¬ Rch ss k k:=by
 intro k hk
 have hin:=VG hg hk
 have:=h k.toNat (by omega)
 rw [ko,decide_eq_false_iff_not,Int.toNat_of_nonneg hin.1] at this
 exact this hk
theorem xb {ss : List StD} (h : (zz ss).2=0) : ss.length≤32∧(∀ k,k<ss.length→yS ss k=false)∧xj ss∧(∀ k,¬ Rch ss k k)∧(∀ k,k<ss.length→jR ss k=false)∧zz ss=(0,0):=by
 unfold zz at h ⊢
 split at h
 ·cases h
 split at h
 ·cases h
 split at h
 ·cases h
 split at h
 ·cases h
 rename_i h1 h2 h3 h4
 have g:=YW (kS h2)
 refine ⟨by omega,kS h2,g,QQ g (kS h3),kS h4,?_⟩
 rw [if_neg h1,if_neg h2,if_neg h3,if_neg h4]
end Go.Proofs
end
section
namespace Go.Proofs
open Go.Sh
set_option maxRecDepth 100000
set_option linter.unusedSimpArgs false
set_option linter.unusedVariables false
theorem Qg {α : Type} (f : α→Nat) {l : List α} {i : Nat} (hi : i<l.length) : z8 ((l.take (i+1)).map f)=z8 ((l.take i).map f)+f l[i]:=by
 rw [List.take_succ_eq_append_getElem hi,List.map_append,Yz];simp [z8]
theorem aay {α : Type} (f : α→Nat) (l : List α) (i : Nat) : z8 ((l.take i).map f)≤z8 (l.map f):=by
 have:=congrArg (fun l=>z8 (l.map f)) (List.take_append_drop i l)
 simp only [List.map_append,Yz] at this
 rw [← this]
 exact Nat.le_add_right _ _
theorem JS {r : Gh} {c : List Value} {s : ByteArray} {t : TyD} (h : TyG r (.agg c.toArray) t) : ∀ u ∈ (Value.string s::c).toArray.toList,u.oneCell'=true:=by
 intro u hu
 rcases List.mem_cons.1 (by simpa using hu) with rfl|hu
 ·rfl
 ·exact adu h u (by simpa using hu)
theorem _root_.Go.Sh.StX.fty {X : Nat→Prop} {w0 w : World} {r : Gh} {L : List Asr} {f : List Value→List Asr} {T : TypeId} {b : Nat} {s : ByteArray} {c : List Value} (S : StX X w0 r w L) [h : At b L (.string s::c) T f] (hc : c.length=5) {K : Value→Prop} (k : K (.agg c.toArray)) :
  opQ Tryz.prog w (Instr.loadAt 31 (.pointer (some ⟨b,0+1,none⟩))) K:=
 S.ldN (h:=h) (n:=5) (vs:=c) k (by rw [List.drop_succ_cons,List.drop_zero,List.take_of_length_le (by omega)]) hc
theorem aby {ss : List StD} {p : Option Addr} {cap : Nat} (hg : xj ss) (hac : ∀ k,¬ Rch ss k k) : ∀ (m : Nat) {t : TyD} {w : World} {r : Gh} {v : Value} {K : Value→World→Prop},m≤100→rkT ss t≤m→zy ss.length 48 t=true→ss.length≤32→(∀ k,(zd ss k).length≤8)→
  Holds r w→StG r p ss→TyG r v t→(∀ w',Ext w w'→K (.int .i64 (min (wF ss m t) 17 : Nat)) w')→ze Tryz.prog Tryz.qk #[.slice p ss.length cap,v] w K:=by
 intro m
 induction m with
 |zero=>
  intro t w r v K _ hrk hl h32 h8 hr hs hv h
  have h5 : ¬ t.k=5:=fun h=>by unfold rkT at hrk;rw [if_pos h] at hrk;omega
  refine Tryz.YN ?_
  unfold Tryz.vE
  obtain ⟨p1,cap1,rfl,_⟩:=hv
  have S:=St.start hr
  refine S.box fun b3 w1 S=>?_
  refine gG_ ?_
  refine zj (fun _=>h _ S.ext) (fun hn=>absurd (by omega) h5)
 |succ m ih=>
  intro t w r v K hm hrk hl h32 h8 hr hs hv h
  refine Tryz.YN ?_
  unfold Tryz.vE
  obtain ⟨p1,cap1,rfl,_⟩:=hv
  have S:=St.start hr
  refine S.box fun b3 w1 S=>?_
  refine gG_ ?_
  refine zj (fun hn=>?_) (fun h5=>?_)
  ·rw [wF,if_neg (by omega)] at h
   exact h _ S.ext
  have h5 : t.k=5:=by omega
  obtain ⟨hst0,hst1,_⟩:=kR hl h5
  have hlt : t.st.toNat<ss.length:=by omega
  obtain ⟨b,off,q,capq,rfl,hcell,_,_,hf⟩:=yZ hs hlt
  refine gG_ ?_
  refine zm (S.at hcell) ?_
  have htl : zd ss t.st=ss[t.st.toNat].fs.map (·.2):=by
   rw [← yi hlt];simp only [zd,Int.toNat_natCast]
  have hlen : (zd ss t.st).length=ss[t.st.toNat].fs.length:=by rw [htl,List.length_map]
  have h88:=h8 t.st
  refine gG_ ?_
  refine zk (ι:=Nat) (fun i=>[.int .i64 (z8 (((zd ss t.st).take i).map (wF ss m)) : Nat),.int .i64 i]) (fun i w'=>i≤(zd ss t.st).length∧z8 (((zd ss t.st).take i).map (wF ss m))≤16∧St w r w' _)
   (fun i=>(zd ss t.st).length - i) 0 rfl ⟨Nat.zero_le _,by simp [z8],S⟩ ?_
  clear S
  rintro i d w2 ⟨hi,hsum,S⟩ K6 hK6
  rw [List.getD_cons_zero,List.getD_cons_succ,List.getD_cons_zero]
  refine gG_ ?_
  refine c_b (fun hlt2=>?_) (fun hge=>?_)
  ·have hlt2 : i<ss[t.st.toNat].fs.length:=by simpa using hlt2
   have hlt3 : i<(zd ss t.st).length:=by omega
   obtain ⟨b2,off2,c,rfl,hcl,hcc,hty⟩:=xV hf hlt2
   refine gG_ ?_
   refine zq (n:=6) (c:=.string ss[t.st.toNat].fs[i].1::c) (by simp [hcl]) (fun j v hj=>by rw [Int.toNat_natCast];exact S.at (hcc j v hj)) ?_
   refine S.al fun b7 w3 S=>?_
   refine S.stB (cs:=(Value.string ss[t.st.toNat].fs[i].1::c).toArray) (fun w4 S=>?_) rfl (by simp [hcl]) (JS hty)
   refine gP_ ?_
   refine S.fty hcl ?_
   have hel : (zd ss t.st)[i]=ss[t.st.toNat].fs[i].2:=by simp only [htl,List.getElem_map]
   have hmem : ss[t.st.toNat].fs[i].2 ∈ zd ss t.st:=by rw [← hel];exact List.getElem_mem hlt3
   have hrk2:=VI hg hac h5 hmem
   refine ih (by omega) (by omega) (hg _ _ hmem) h32 h8 S.holds hs hty fun w5 e5=>?_
   have S:=(S.go e5).tl
   have hst:=Qg (wF ss m) hlt3
   rw [hel] at hst
   refine gP_ ?_
   refine gP_ ?_
   have htot : z8 (((zd ss t.st).take (i+1)).map (wF ss m))≤wF ss (m+1) t:=by
    rw [wF,if_pos h5];exact aay _ _ _
   refine c_b (fun hbig=>?_) (fun hsm=>?_)
   ·have hbig : 16<z8 (((zd ss t.st).take i).map (wF ss m))+min (wF ss m ss[t.st.toNat].fs[i].2) 17:=by
     have:=of_decide_eq_true hbig;omega
    have e : min (wF ss (m+1) t) 17=17:=by omega
    rw [e] at h
    exact h _ S.ext
   ·have hsm : ¬ 16<z8 (((zd ss t.st).take i).map (wF ss m))+min (wF ss m ss[t.st.toNat].fs[i].2) 17:=by
     have:=of_decide_eq_false hsm;omega
    refine gP_ ?_
    have e : (z8 (((zd ss t.st).take i).map (wF ss m)) : Int)+((min (wF ss m ss[t.st.toNat].fs[i].2) 17 : Nat) : Int)=(z8 (((zd ss t.st).take (i+1)).map (wF ss m)) : Nat):=by omega
    rw [e,show ((i : Int)+1)=((i+1 : Nat) : Int) by omega]
    exact hK6 (i+1) _ ⟨hlt3,by omega,S⟩ (by omega)
  ·have hie : i=(zd ss t.st).length:=by
    have : ¬ i<ss[t.st.toNat].fs.length:=by simpa using hge
    omega
   rw [hie,List.take_length] at hsum ⊢
   have e : min (wF ss (m+1) t) 17=z8 ((zd ss t.st).map (wF ss m)):=by
    rw [wF,if_pos h5];omega
   rw [e] at h
   exact h _ S.ext
def mt (met : List Bool) (j : Int) : Bool:=met.getD j.toNat false
def cf : List Bool→Nat
 |[]=>0
 |b::l=>(if b then 0 else 1)+cf l
theorem Qh : ∀ {l : List Bool} {i : Nat},l[i]? = some false→cf (l.set i true)+1=cf l
 |[],i,h=>by simp at h
 |b::l,0,h=>by
  simp only [List.getElem?_cons_zero,Option.some.injEq] at h
  subst h
  simp [cf];omega
 |b::l,i+1,h=>by
  have:=Qh (l:=l) (i:=i) (by simpa using h)
  simp only [List.set_cons_succ,cf];omega
theorem acx {met : List Bool} {i j : Int} (hi : 0≤i) (hj : 0≤j) (hlt : i.toNat<met.length) : mt (met.set i.toNat true) j=(decide (j=i)||mt met j):=by
 unfold mt
 rw [List.getD_eq_getElem?_getD,List.getD_eq_getElem?_getD,List.getElem?_set]
 by_cases h : i.toNat=j.toNat
 ·have : j=i:=by omega
  subst this
  simp [hlt]
 ·have : ¬ j=i:=fun e=>h (by rw [e])
  rw [if_neg h];simp [this]
structure QI (ss : List StD) (k : Int) (N : Nat) (W : List Int) (met : List Bool) (x : Option (Int × Nat)) : Prop where
 len : met.length=N
 dom : ss.length≤N
 rng : ∀ y ∈ W,0≤y∧y<ss.length
 s1 : ∀ j,0≤j→mt met j=true→Rch ss k j
 s2 : ∀ y ∈ W,y=k∨mt met y=true
 s3 : ∀ y,0≤y→(y=k∨mt met y=true)→y ∉ W→(∀ q,x=some q→y≠q.1)→∀ j,Kid ss y j→mt met j=true
 s4 : ∀ q,x=some q→(q.1=k∨Rch ss k q.1)∧∀ t ∈ (zd ss q.1).take q.2,t.k=5→mt met t.st=true
theorem QI.start {ss : List StD} {k : Int} {N : Nat} (hd : ss.length≤N) (h0 : 0≤k) (h1 : k<ss.length) : QI ss k N [k] (List.replicate N false) none:=by
 have hm : ∀ j,mt (List.replicate N false) j=false:=fun j=>by
  unfold mt;rw [List.getD_eq_getElem?_getD,List.getElem?_replicate];split<;>rfl
 refine ⟨List.length_replicate,hd,by simp;omega,fun j _ h=>?_,by simp,fun y _ h hn=>?_,fun q h=>by cases h⟩
 ·rw [hm] at h;cases h
 ·rcases h with rfl|h
  ·simp at hn
  ·rw [hm] at h;cases h
theorem QI.pop {ss : List StD} {k x : Int} {N : Nat} {W : List Int} {met : List Bool} (h : QI ss k N (x::W) met none) : QI ss k N W met (some (x,0)):=by
 have hx:=h.rng x List.mem_cons_self
 refine ⟨h.len,h.dom,fun y hy=>h.rng y (List.mem_cons_of_mem _ hy),h.s1,fun y hy=>h.s2 y (List.mem_cons_of_mem _ hy),fun y hy hk hn hx j hj=>?_,fun q hq=>?_⟩
 ·refine h.s3 y hy hk ?_ (fun q hq=>by cases hq) j hj
  intro hm
  rcases List.mem_cons.1 hm with rfl|hm
  ·exact hx _ rfl rfl
  ·exact hn hm
 ·cases hq
  refine ⟨(h.s2 x List.mem_cons_self).imp id (h.s1 x hx.1),by simp⟩
theorem QI.skip {ss : List StD} {k x : Int} {N i : Nat} {W : List Int} {met : List Bool} (h : QI ss k N W met (some (x,i))) (hi : i<(zd ss x).length) (hs : (zd ss x)[i].k=5→mt met (zd ss x)[i].st=true) : QI ss k N W met (some (x,i+1)):=by
 refine ⟨h.len,h.dom,h.rng,h.s1,h.s2,fun y hy hk hn hx j hj=>h.s3 y hy hk hn (fun q hq=>by cases hq;exact hx (x,i+1) rfl) j hj,fun q hq=>?_⟩
 cases hq
 have:=h.s4 _ rfl
 refine ⟨this.1,fun t ht h5=>?_⟩
 simp only at ht
 rw [List.take_succ_eq_append_getElem hi,List.mem_append,List.mem_singleton] at ht
 rcases ht with ht|rfl
 ·exact this.2 t ht h5
 ·exact hs h5
theorem QI.push {ss : List StD} {k x : Int} {N i : Nat} {W : List Int} {met : List Bool} (hg : xj ss) (h : QI ss k N W met (some (x,i))) (hi : i<(zd ss x).length) (h5 : (zd ss x)[i].k=5) :
  QI ss k N (W ++ [(zd ss x)[i].st]) (met.set (zd ss x)[i].st.toNat true) (some (x,i+1)):=by
 have hk : Kid ss x (zd ss x)[i].st:=⟨_,List.getElem_mem hi,h5,rfl⟩
 have hin:=jl hg hk
 have hd:=h.dom
 have hlen:=h.len
 have hms : ∀ j,0≤j→mt (met.set (zd ss x)[i].st.toNat true) j=(decide (j=(zd ss x)[i].st)||mt met j):=fun j hj=>acx hin.1 hj (by omega)
 refine ⟨by rw [List.length_set];exact h.len,h.dom,fun y hy=>?_,fun j hj hm=>?_,fun y hy=>?_,fun y hy hyk hn hx j hj=>?_,fun q hq=>?_⟩
 ·rcases List.mem_append.1 hy with hy|hy
  ·exact h.rng y hy
  ·rw [List.mem_singleton.1 hy];exact hin
 ·rw [hms j hj,Bool.or_eq_true,decide_eq_true_eq] at hm
  rcases hm with rfl|hm
  ·rcases (h.s4 _ rfl).1 with hx|hx
   ·have hx : x=k:=hx
    rw [← hx];exact .one hk
   ·exact .more hx hk
  ·exact h.s1 j hj hm
 ·rcases List.mem_append.1 hy with hy|hy
  ·refine (h.s2 y hy).imp id fun hm=>?_
   rw [hms y (h.rng y hy).1,hm,Bool.or_true]
  ·rw [List.mem_singleton.1 hy,hms _ hin.1];simp
 ·have hj0:=(jl hg hj).1
  rw [hms j hj0]
  rw [hms y hy,Bool.or_eq_true,decide_eq_true_eq] at hyk
  have hnw : y ∉ W:=fun hm=>hn (List.mem_append_left _ hm)
  have hne : y≠(zd ss x)[i].st:=fun e=>hn (by rw [e];exact List.mem_append_right _ List.mem_cons_self)
  rw [h.s3 y hy (hyk.imp id fun hh=>hh.resolve_left hne) hnw (fun q hq=>by cases hq;exact hx (x,i+1) rfl) j hj,Bool.or_true]
 ·cases hq
  have:=h.s4 _ rfl
  refine ⟨this.1,fun t ht h5'=>?_⟩
  simp only at ht
  rw [List.take_succ_eq_append_getElem hi,List.mem_append,List.mem_singleton] at ht
  rcases ht with ht|rfl
  ·have ht0:=(jl hg (k:=x) ⟨t,List.mem_of_mem_take ht,h5',rfl⟩).1
   rw [hms _ ht0,this.2 t ht h5',Bool.or_true]
  ·rw [hms _ hin.1];simp
theorem QI.done {ss : List StD} {k x : Int} {N i : Nat} {W : List Int} {met : List Bool} (h : QI ss k N W met (some (x,i))) (hi : (zd ss x).length≤i) : QI ss k N W met none:=by
 refine ⟨h.len,h.dom,h.rng,h.s1,h.s2,fun y hy hk hn _ j hj=>?_,fun q hq=>by cases hq⟩
 by_cases hyx : y=x
 ·subst hyx
  obtain ⟨t,ht,h5,rfl⟩:=hj
  have:=(h.s4 _ rfl).2 t (by simp only;rw [List.take_of_length_le hi];exact ht) h5
  exact this
 ·exact h.s3 y hy hk hn (fun q hq=>by cases hq;exact hyx) j hj
theorem QI.all {ss : List StD} {k : Int} {N : Nat} {met : List Bool} (hg : xj ss) (h0 : 0≤k) (h : QI ss k N [] met none) {j : Int} (hr : Rch ss k j) : mt met j=true:=by
 induction hr with
 |one e=>exact h.s3 k h0 (.inl rfl) (by simp) (fun q hq=>by cases hq) _ e
 |more hr e ih=>exact h.s3 _ (VG hg hr).1 (.inr ih) (by simp) (fun q hq=>by cases hq) _ e
open Classical in
theorem QR {ss : List StD} {k : Nat} {b : Bool} (h1 : b=true→Rch ss k k) (h2 : Rch ss k k→b=true) : b=ko ss k:=by
 rw [ko]
 by_cases hr : Rch ss k k
 ·rw [decide_eq_true hr];exact h2 hr
 ·rw [decide_eq_false hr]
  cases b
  ·rfl
  ·exact absurd (h1 rfl) hr
def z7 (l : List Bool) : List Value:=l.map .bool
theorem Qi (l : List Bool) : (z7 l).length=l.length:=List.length_map ..
theorem ZH {l : List Bool} {j : Int} (h : j.toNat<l.length) : (z7 l)[j.toNat]? = some (.bool (mt l j)):=by
 unfold z7 mt
 rw [List.getElem?_map,List.getD_eq_getElem?_getD,List.getElem?_eq_getElem h];rfl
theorem VJ {ss : List StD} {p : Option Addr} {cap k : Nat} (hg : xj ss) (h32 : ss.length≤32) (hk : k<ss.length) (h8 : ∀ k,(zd ss k).length≤8) {w : World} {r : Gh} {K : Value→World→Prop} (hr : Holds r w) (hs : StG r p ss)
  (h : ∀ w',Ext w w'→K (.bool (ko ss k)) w') : ze Tryz.prog Tryz.ja #[.slice p ss.length cap,.int .i64 k] w K:=by
 refine Tryz.JM ?_
 unfold Tryz.Z4
 have S:=St.start hr
 refine S.al fun b5 w1 S=>?_
 refine S.lit (e:=3) (cs:=[.int .i64 k]) (by kernel_rfl) fun b11 w2 S=>?_
 have S:=S.toRow 1 1 rfl (by decide)
 have S:=S.toQue (.slice (some ⟨b11,0,none⟩) 1 1)
 have S : StX noX w r w2 [.que (.slice (some ⟨b11,0,none⟩) 1 1) 3 1 [(k : Int)].length (ints [(k : Int)]),.cell b5 (z7 (List.replicate 32 false)) 151]:=S
 refine zk (ι:=List Int × List Bool × Value) (fun i=>[i.2.2]) (fun i w'=>QI ss k 32 i.1 i.2.1 none∧2*cf i.2.1+i.1.length≤65∧StX noX w r w' [.que i.2.2 3 1 i.1.length (ints i.1),.cell b5 (z7 i.2.1) 151])
  (fun i=>2*cf i.2.1+i.1.length) ([(k : Int)],List.replicate 32 false,_) rfl ⟨QI.start h32 (by omega) (by omega),(show 2*cf (List.replicate 32 false)+1≤65 by decide),S⟩ ?_
 clear S
 rintro ⟨W,met,vq⟩ d w3 ⟨hq,h65,S⟩ K3 hK3
 simp only at hq h65 S ⊢
 rw [List.getD_cons_zero]
 obtain ⟨pq,capq,rfl,hp0,hcq,_,hsl⟩:=S.queS vq
 refine gP_ ?_
 refine gP_ ?_
 refine c_b (fun hpos=>?_) (fun hz=>?_)
 ·have hpos : 0<W.length:=by simpa using hpos
  cases W with
  |nil=>simp at hpos
  |cons x W=>
   obtain ⟨bq,oq,rfl,hcell⟩:=kQ hsl hpos
   have hx:=hq.rng x List.mem_cons_self
   refine gP_ ?_
   refine zm (by simpa using hcell) ?_
   refine S.loQ (by omega) (by omega) hpos fun v' S=>?_
   have S : StX noX w r w3 [.que v' 3 1 W.length (ints W),.cell b5 (z7 met) 151]:=S
   have hxn : x.toNat<ss.length:=by omega
   obtain ⟨bs',os',q,capf,rfl,hcs,_,_,hf⟩:=yZ hs hxn
   refine gP_ ?_
   refine gP_ ?_
   refine zm (S.at hcs) ?_
   refine gP_ ?_
   have htl : zd ss x=ss[x.toNat].fs.map (·.2):=by
    rw [← yi hxn];simp only [zd,Int.toNat_natCast]
   have hlen : (zd ss x).length=ss[x.toNat].fs.length:=by rw [htl,List.length_map]
   have h88:=h8 x
   refine zk (ι:=Nat × List Int × List Bool × Value) (fun i=>[i.2.2.2,.int .i64 i.1]) (fun i w'=>i.1≤(zd ss x).length∧QI ss k 32 i.2.1 i.2.2.1 (some (x,i.1))∧2*cf i.2.2.1+i.2.1.length≤2*cf met+W.length∧
    StX noX w r w' [.que i.2.2.2 3 1 i.2.1.length (ints i.2.1),.cell b5 (z7 i.2.2.1) 151]) (fun i=>(zd ss x).length - i.1) (0,W,met,v') rfl ⟨Nat.zero_le _,hq.pop,Nat.le_refl _,S⟩ ?_
   clear S
   rintro ⟨i,W',met',vq'⟩ d w4 ⟨hi,hq',hme,S⟩ K7 hK7
   simp only at hi hq' hme S ⊢
   rw [List.getD_cons_zero,List.getD_cons_succ,List.getD_cons_zero]
   refine gP_ ?_
   refine c_b (fun hlt2=>?_) (fun hge=>?_)
   ·have hlt2 : i<ss[x.toNat].fs.length:=by simpa using hlt2
    have hlt3 : i<(zd ss x).length:=by omega
    have hel : (zd ss x)[i]=ss[x.toNat].fs[i].2:=by simp only [htl,List.getElem_map]
    refine zp (fun s w'=>∃ W2 met2 v2,s = [v2]∧QI ss k 32 W2 met2 (some (x,i+1))∧2*cf met2+W2.length≤2*cf met'+W'.length∧StX noX w r w' [.que v2 3 1 W2.length (ints W2),.cell b5 (z7 met2) 151]) (fun K11 hK11=>?_) ?_
    ·obtain ⟨b2,off2,c,rfl,hcl,hcc,hty⟩:=xV hf hlt2
     refine gP_ ?_
     refine zq (n:=6) (c:=.string ss[x.toNat].fs[i].1::c) (by simp [hcl]) (fun j v hj=>by rw [Int.toNat_natCast];exact S.at (hcc j v hj)) ?_
     refine S.al fun b9 w5 S=>?_
     refine S.stB (cs:=(Value.string ss[x.toNat].fs[i].1::c).toArray) (fun w6 S=>?_) rfl (by simp [hcl]) (JS hty)
     obtain ⟨pt,capt,rfl,_⟩:=ZF hty
     have S : StX noX w r w6 [.cell b9 [.string ss[x.toNat].fs[i].1,.int .u8 ss[x.toNat].fs[i].2.k,.bool ss[x.toNat].fs[i].2.m,.int .i64 ss[x.toNat].fs[i].2.re,.int .i64 ss[x.toNat].fs[i].2.st,.slice pt ss[x.toNat].fs[i].2.of.length capt] 105,.que vq' 3 1 W'.length (ints W'),.cell b5 (z7 met') 151]:=S
     refine gG_ ?_
     rw [← hel]
     by_cases h5 : (zd ss x)[i].k=5
     ·have hkid : Kid ss x (zd ss x)[i].st:=⟨_,List.getElem_mem hlt3,h5,rfl⟩
      have hin:=jl hg hkid
      have hml:=hq'.len
      refine zh (c:=mt met' (zd ss x)[i].st) (fun _ K2 hK2=>?_) ?_
      ·refine gG_ ?_
       rw [← hel]
       refine gP_ ?_
       refine S.ld (b:=b5) ?_ (by rw [Nat.zero_add,Nat.mul_one];exact ZH (by omega))
       exact hK2
      rw [show decide ((zd ss x)[i].k≠5)=false by simp [h5],Bool.false_or]
      refine c_b (fun hm=>?_) (fun hm=>?_)
      ·exact hK11 _ _ ⟨W',met',vq',rfl,hq'.skip hlt3 fun _=>hm,Nat.le_refl _,S.tl⟩
      ·refine gG_ ?_
       rw [← hel]
       refine gP_ ?_
       refine S.st (b:=b5) (fun w7 S=>?_) (by rw [Qi];omega)
       refine gG_ ?_
       rw [← hel]
       refine S.lit (e:=3) (cs:=[.int .i64 (zd ss x)[i].st]) (by kernel_rfl) fun b49 w8 S=>?_
       simp only [List.length_cons] at h65
       refine S.apQ (m:=1) (Sl.blk (S.blk b49)) (fun v50 w9 S=>?_) (by omega)
       have hset : mt met' (zd ss x)[i].st=false:=hm
       have hcf:=Qh (l:=met') (i:=(zd ss x)[i].st.toNat) (by
        unfold mt at hset
        rw [List.getD_eq_getElem?_getD,List.getElem?_eq_getElem (by omega)] at hset
        rw [List.getElem?_eq_getElem (by omega)]
        simpa using hset)
       refine hK11 _ _ ⟨W' ++ [(zd ss x)[i].st],met'.set (zd ss x)[i].st.toNat true,v50,rfl,hq'.push hg hlt3 h5,by rw [List.length_append,List.length_singleton];omega,?_⟩
       have e1 : (z7 met').set (0+(zd ss x)[i].st.toNat*1) (.bool true)=z7 (met'.set (zd ss x)[i].st.toNat true):=by
        rw [Nat.zero_add,Nat.mul_one,z7,z7,List.map_set]
       rw [e1] at S
       rw [List.length_append,Jq]
       exact S.tl.tl
     ·refine zh (c:=true) (fun hn=>absurd hn (by simp [h5])) ?_
      rw [Bool.or_true]
      refine c_t rfl ?_
      exact hK11 _ _ ⟨W',met',vq',rfl,hq'.skip hlt3 fun e=>absurd e h5,Nat.le_refl _,S.tl⟩
    ·rintro _ w5 ⟨W2,met2,v2,rfl,hq2,hme2,S⟩ d5
     rw [List.getD_cons_zero]
     refine gP_ ?_
     rw [show ((i : Int)+1)=((i+1 : Nat) : Int) by omega]
     exact hK7 (i+1,W2,met2,v2) _ ⟨hlt3,hq2,by simp only;omega,S⟩ (by simp only;omega)
   ·have hge : (zd ss x).length≤i:=by
     have : ¬ i<ss[x.toNat].fs.length:=by simpa using hge
     omega
    exact hK3 (W',met',vq') _ ⟨hq'.done hge,by simp only [List.length_cons] at h65 ⊢;omega,S⟩ (by simp only [List.length_cons];omega)
 ·have hz : W = []:=List.eq_nil_of_length_eq_zero (by
   have : ¬ 0<W.length:=by simpa using hz
   omega)
  subst hz
  have hml:=hq.len
  refine gP_ ?_
  refine S.ld (b:=b5) ?_ (by rw [Nat.zero_add,Nat.mul_one];exact ZH (by omega))
  have e : mt met (k : Int)=ko ss k:=QR (hq.s1 _ (by omega)) (hq.all hg (by omega))
  rw [e]
  exact h _ S.ext
end Go.Proofs
end
