/-
  Contracts and plain laws that the last text leans on.
-/
import Derived.Test.YthmakcmiggpoeaaGreatDoorQGb
import Derived.Test.YthmakcmiggpoeaaGreatDoorQGd
import Derived.ChangeKeysEq
import Derived.WideKeyRuns
set_option maxRecDepth 100000
set_option maxHeartbeats 8000000
set_option linter.unusedVariables false
set_option linter.unusedSimpArgs false
section
namespace Go.Proofs.Tryz
open Go.Sh
variable {t0:Value} {w:World} {K:VW}
def QY(t0:Value)(w:World)(K:VW):Prop:=
 pw w (Instr.box 48 t0) λt1 w1=>
 fl w1 t1 48 0 3 λt5=>bt .lss 3 t5 (i6 0) λt6=>za (λK2=>gIf t6 false (fl w1 t1 48 0 3 λt9=>bt .gtr 3 t9 (i6 1032) λt10=>K2 [t10] w1) (K2 [u_] w1)) (λs3 _d4 w5=>
 zb t6 tr_ (s3.getD 0 u_) λt11=>za (λK6=>gIf t11 false (fl w5 t1 48 1 46 λt14=>pp (Builtin.len_ #[46] 3 #[t14]) λt15=>fl w5 t1 48 0 3 λt17=>bt .add 3 t17 (i6 63) λt18=>bt .quo 3 t18 (i6 64) λt19=>bf .neq 3 t15 t19 λt20=>K6 [t20] w5) (K6 [u_] w5)) (λs7 _d8 w9=>
 zb t11 tr_ (s7.getD 0 u_) λt21=>zc t21 (K fa_ w9) (fl w9 t1 48 0 3 λt23=>zx [t23] w9 (λs11 _d12 w13 K10=>
 fl w13 t1 48 1 46 λt26=>pp (Builtin.len_ #[46] 3 #[t26]) λt27=>bt .mul 3 (i6 64) t27 λt28=>bf .lss 3 (s11.getD 0 u_) t28 λt29=>zc t29 (fl w13 t1 48 1 46 λt33=>bt .quo 3 (s11.getD 0 u_) (i6 64) λt35=>xl w13 46 t33 t35 205 λt37=>bt .rem 3 (s11.getD 0 u_) (i6 64) λt39=>bf .shr 205 t37 t39 λt40=>bt .and 205 t40 (Value.int .u64 1) λt41=>bt .eql 205 t41 (Value.int .u64 1) λt42=>zc t42 (K fa_ w13) (bt .add 3 (s11.getD 0 u_) (i6 1) λt31=>K10 [t31] w13)) (K tr_ w13)))))
theorem acv(h:QY t0 w K):zd prog Z7 #[t0] w K:=
 okC false (.s (.r (rz 2 0 2)) (.s (.s (.r (ra 4 0 4 (.grp 7 false (ri 3 4 4) [10] (ra 2 7 0 (.grp 12 false (ri 8 9 260) [20] (rz 1 17 0)))))) (.c (.s (.r (rz 1 0 0)) (.n)) (.n))) (.s (.s (.r (rz 3 0 4)) (.b (.lp [3] (.s (.s (.r (rz 6 0 16)) (.c (.n) (.n))) (.s (.b (.s (.r (rz 11 0 1028)) (.c (.s (.r (rz 1 0 0)) (.n)) (.n)))) (.r (rz 3 0 0))))))) (.s (.r (rz 1 0 0)) (.n))))) func66 rfl (by kernel_rfl) (by kernel_rfl) h
def Vp(t0 t1:Value)(w:World)(K:VW):Prop:=
 pw w (Instr.box 48 t0) λt2 w1=>
 fl w1 t2 48 1 46 λt6=>bt .quo 3 t1 (i6 64) λt8=>xl w1 46 t6 t8 205 λt10=>bt .rem 3 t1 (i6 64) λt12=>bf .shr 205 t10 t12 λt13=>bt .and 205 t13 (Value.int .u64 1) λt14=>bt .eql 205 t14 (Value.int .u64 1) λt15=>K t15 w1
theorem ac6{t1:Value}(h:Vp t0 t1 w K):zd prog vG #[t0,t1] w K:=
 okC false (.s (.r (rz 2 0 2)) (.s (.r (rz 12 0 1028)) (.n))) func129 rfl (by kernel_rfl) (by kernel_rfl) h
def Vq(t0:Value)(w:World)(K:VW):Prop:=
 pw w (Instr.box 48 t0) λt1 w1=>
 fl w1 t1 48 0 3 λt4=>bt .lss 3 t4 (i6 0) λt5=>za (λK2=>gIf t5 false (fl w1 t1 48 0 3 λt8=>bt .gtr 3 t8 (i6 1032) λt9=>K2 [t9] w1) (K2 [u_] w1)) (λs3 _d4 w5=>
 zb t5 tr_ (s3.getD 0 u_) λt10=>za (λK6=>gIf t10 false (fl w5 t1 48 1 46 λt13=>pp (Builtin.len_ #[46] 3 #[t13]) λt14=>fl w5 t1 48 0 3 λt16=>bt .add 3 t16 (i6 63) λt17=>bt .quo 3 t17 (i6 64) λt18=>bf .neq 3 t14 t18 λt19=>K6 [t19] w5) (K6 [u_] w5)) (λs7 _d8 w9=>
 zb t10 tr_ (s7.getD 0 u_) λt20=>zc t20 (K fa_ w9) (fl w9.drew t1 48 0 3 λt22=>bt .rem 3 t22 (i6 64) λt23=>bt .eql 3 t23 (i6 0) λt24=>za (λK10=>gIf t24 false (fl w9.drew t1 48 1 46 λt27=>fl w9.drew t1 48 1 46 λt29=>pp (Builtin.len_ #[46] 3 #[t29]) λt30=>bt .sub 3 t30 (i6 1) λt31=>xl w9.drew 46 t27 t31 205 λt33=>fl w9.drew t1 48 0 3 λt35=>bt .rem 3 t35 (i6 64) λt36=>bf .shr 205 t33 t36 λt37=>bt .eql 205 t37 (Value.int .u64 0) λt38=>K10 [t38] w9.drew) (K10 [u_] w9.drew)) (λs11 _d12 w13=>
 zb t24 tr_ (s11.getD 0 u_) λt39=>K t39 w13))))
theorem ac7(h:Vq t0 w K):zd prog kM #[t0] w K:=
 okC false (.s (.r (rz 2 0 2)) (.s (.s (.r (ra 4 0 4 (.grp 6 false (ri 3 4 4) [9] (ra 2 7 0 (.grp 11 false (ri 8 9 260) [19] (rz 1 17 0)))))) (.c (.s (.r (rz 1 0 0)) (.n)) (.n))) (.s (.r (ra 5 0 4 (.grp 25 false (ri 13 5 278596) [38] (rz 2 18 0)))) (.n)))) func63 rfl (by kernel_rfl) (by kernel_rfl) h
def Xq(t0 t1:Value)(w:World)(K:VW):Prop:=
 pw w (Instr.box 48 t0) λt2 w1=>
 pw w1 (Instr.box 48 t1) λt3 w2=>
 zx [(i6 0)] w2 (λs4 _d5 w6 K3=>
 fl w6 t2 48 0 3 λt9=>bf .lss 3 (s4.getD 0 u_) t9 λt10=>zc t10 (lo w6 48 t3 λt13=>ca vG #[t13,(s4.getD 0 u_)] w6 λt15 w7=>
 za (λK8=>gIf t15 true (lo w7 48 t2 λt17=>ca vG #[t17,(s4.getD 0 u_)] w7 λt19 w12=>
 pp (Op.unary .not t19) λt20=>K8 [t20] w12) (K8 [u_] w7)) (λs9 _d10 w11=>
 zb t15 (s9.getD 0 u_) fa_ λt21=>zc t21 (K (.tuple #[(s4.getD 0 u_),tr_]) w11) (bt .add 3 (s4.getD 0 u_) (i6 1) λt12=>K3 [t12] w11))) (K (.tuple #[(i6 0),fa_]) w6))
theorem aaj{t1:Value}(h:Xq t0 t1 w K):zd prog j5 #[t0,t1] w K:=
 okC false (.s (.r (rz 4 0 10)) (.s (.s (.r (rz 1 0 0)) (.b (.lp [6] (.s (.s (.r (rz 4 0 16)) (.c (.n) (.n))) (.s (.b (.s (.r (ra 4 0 33 (.grp 16 true (ri 4 4 33) [20] (rz 1 8 0)))) (.c (.s (.r (rz 3 0 0)) (.n)) (.n)))) (.r (rz 3 0 0))))))) (.s (.r (rz 2 0 0)) (.n)))) func67 rfl (by kernel_rfl) (by kernel_rfl) h
end Go.Proofs.Tryz
end
section
namespace Go.Proofs
open Go.Sh Go.RowKit Go.BM
variable {r:Gh} {c:List Value} {ws:List (BitVec 64)} {K:Value→World→Prop}
def WdC(c:List Value)(x:BitVec 64):Prop:=c=[u64 x]
def RwbC(r:Gh)(c:List Value)(x:Int×List (BitVec 64)):Prop:=∃p cap,c=[.int .i64 x.1,.slice p x.2.length cap]∧SlB 1 r WdC (.slice p x.2.length cap) x.2
theorem RwbC.up{s:Gh}{x:Int×List (BitVec 64)}(h:RwbC r c x)[le:Le r s]:RwbC s c x:=by
 obtain⟨p,cap,h1,h2⟩:=h;exact⟨p,cap,h1,h2.cells⟩
theorem YI{p:Option Addr}{n cap:Nat}{l:List (BitVec 64)}(h:SlG 1 r WdC (.slice p n cap) l){i:Nat}(hi:i<l.length):∃b off,p=some ⟨b,off,none⟩∧n=l.length∧Ob r λw=>w.cell? ⟨b,off+i,none⟩=some (u64 l[i]):=aeU (V:=u64) h hi
theorem vS{W:Int}{w:World}{K:Value→World→Prop}(hr:Holds r w)(hx:RwbC r c (W,ws))
  (h:∀w',Ext w w'→K (.bool (BM.mayB W ws)) w'):zd Tryz.prog Tryz.kM #[.agg c.toArray] w K:=by
 refine Tryz.ac7 ?_
 unfold Tryz.Vq
 obtain⟨p,cap,rfl,hS⟩:=hx
 have hfew:ws.length≤9223372036854775807:=hS.few
 have S:=St.start hr
 refine S.box λb1 w1 S=>?_
 have S:StX noX w r w1 [.cell b1 [.int .i64 W,.slice p ws.length cap] 48]:=S
 refine gg_ ?_
 refine zi (c:=decide (1032<W)) (λ_ K2 hK2=>by refine gg_ ?_;exact hK2) ?_
 refine zi (c:=decide ((ws.length:Int)≠(W+63)/64)) (λhb K2 hK2=>?_) ?_
 ·simp only[Bool.or_eq_false_iff,decide_eq_false_iff_not]at hb
  refine gg_ ?_
  exact hK2
 refine c_b (λhb=>?_) (λhb=>?_)
 ·rw[BM.mayB_false (λhm=>by
   simp only[Bool.or_eq_true,decide_eq_true_eq]at hb
   have:=hm.1;have:=hm.2.1;have:=hm.2.2.1
   omega)]at h
  exact h _ S.ext
 simp only[Bool.or_eq_false_iff,decide_eq_false_iff_not,Decidable.not_not]at hb
 obtain⟨⟨h0,h1⟩,h2⟩:=hb
 have S:=S.go (Ext.drew _)
 refine gg_ ?_
 by_cases h3:W%64=0
 ·rw[decide_eq_true h3]
  refine zi (c:=true) (λhc=>by cases hc) ?_
  rw[BM.mayB_true (afN (by omega) (by omega) h2 h3)]at h
  exact h _ S.ext
 rw[decide_eq_false h3]
 have hlt:ws.length-1<ws.length:=by omega
 obtain⟨b2,o2,rfl,_,hc⟩:=YI hS.sl hlt
 have hz:(((ws[ws.length-1] >>> (W%64).toNat).toNat:Int)=0)↔BM.May W ws:=by
  rw[afM (by omega) (by omega) h2 h3 hlt]
  constructor
  ·intro hz;apply BitVec.eq_of_toNat_eq;have h9:(ws[ws.length-1] >>> (W%64).toNat).toNat=0:=by omega
   rw[h9];rfl
  ·intro hz;rw[hz];rfl
 have hE:BM.mayB W ws=decide (((ws[ws.length-1] >>> (W%64).toNat).toNat:Int)=0):=by unfold BM.mayB;simp only[← hz]
 rw[hE]at h
 generalize ws[ws.length-1]=x at hc h
 refine zi (c:=decide (((x >>> (W%64).toNat).toNat:Int)=0)) (λ_ K2 hK2=>?_) ?_
 ·refine gg_ ?_
  refine zh (by rw[show ((ws.length:Int)-1).toNat=ws.length-1 by omega];exact S.at hc) ?_
  refine gg_ ?_
  exact hK2
 exact h _ S.ext
theorem Vr{W:Int}{k:Int}{w:World}{K:Value→World→Prop}(hr:Holds r w)(hx:RwbC r c (W,ws))(hk:0≤k)(hk2:k<64*ws.length)(hl:ws.length≤100000)
  (h:∀w',Ext w w'→K (.bool (bit ws k.toNat)) w'):zd Tryz.prog Tryz.vG #[.agg c.toArray,.int .i64 k] w K:=by
 refine Tryz.ac6 ?_
 unfold Tryz.Vp
 obtain⟨p,cap,rfl,hS⟩:=hx
 have hfew:ws.length≤9223372036854775807:=hS.few
 have S:=St.start hr
 refine S.box λb1 w1 S=>?_
 have S:StX noX w r w1 [.cell b1 [.int .i64 W,.slice p ws.length cap] 48]:=S
 have hlt:k.toNat/64<ws.length:=by omega
 obtain⟨b2,o2,rfl,_,hc⟩:=YI hS.sl hlt
 have hB:bit ws k.toNat=decide (((ws[k.toNat/64] >>> (k.toNat%64)) &&& BitVec.ofInt 64 1).toNat=(1:Int)):=by
  rw[bit,List.getD_eq_getElem?_getD,gqg hlt,Option.getD_some,Bool.eq_iff_iff,decide_eq_true_eq,QX]
 rw[hB]at h
 generalize ws[k.toNat/64]=x at hc h
 refine gg_ ?_
 refine zh (by rw[show (k/64).toNat=k.toNat/64 by omega];exact S.at hc) ?_
 refine gg_ ?_
 rw[show (k%64).toNat=k.toNat%64 by omega]
 exact h _ S.ext
end Go.Proofs
end
section
namespace Go.Proofs
open Go.Sh Go.RowKit
end Go.Proofs
end
section
namespace Go.Sh
end Go.Sh
namespace Go.Proofs
open Go.Sh Go.RowKit
set_option maxRecDepth 100000
end Go.Proofs
end
section
namespace Go.Proofs
open Go.Sh Go.RowKit
end Go.Proofs
end
section
namespace Go.Proofs.Tryz
open Go.Sh
end Go.Proofs.Tryz
end
section
namespace Go.Proofs
open Go.Sh Go.RowKit
end Go.Proofs
end
section
namespace Go.Sh
end Go.Sh
namespace Go.Proofs
open Go.Sh Go.RowKit
set_option maxRecDepth 100000
end Go.Proofs
end
section
namespace Go.Proofs
open Go.Sh Go.RowKit
end Go.Proofs
end
section
namespace Go.Proofs
end Go.Proofs
end
section
namespace Go.Proofs
open Go.Sh Go.RowKit
end Go.Proofs
end
section
namespace Go.Proofs.Tryz
open Go.Sh
end Go.Proofs.Tryz
end
section
namespace Go.Proofs
open Go.Sh Go.RowKit
end Go.Proofs
end
section
namespace Go.Proofs
open Go.Sh
end Go.Proofs
end
section
namespace Go.Sh
open Go.RowKit Go.MapKept
class JE(b:Nat)(L:List Asr)(Q:outParam (Obj→Prop))(f:outParam (Asr→List Asr)):Prop where
 h:∃p q,L=p++.obj b Q::q∧∀y,f y=p++y::q
instance {b:Nat} {Q:Obj→Prop} {L:List Asr}:JE b (.obj b Q::L) Q λy=>y::L:=⟨[],L,rfl,λ_=>rfl⟩
instance (priority:=low) {b:Nat} {Q:Obj→Prop} {x:Asr} {L:List Asr} {f:Asr→List Asr} [h:JE b L Q f]:JE b (x::L) Q λy=>x::f y:=⟨by
 obtain⟨p,q,h1,h2⟩:=h.h
 exact⟨x::p,q,by rw[h1];rfl,λc'=>by rw[h2];rfl⟩⟩
section
variable {P:Program} {X:Nat→Prop} {w0 w:World} {r:Gh} {L:List Asr} {t k e:TypeId} {b:Nat} {M:List (Int×Value)} {f:Asr→List Asr}
end
end Go.Sh
end
section
namespace Go.Proofs
open Go.Sh Go.RowKit
end Go.Proofs
end
section
namespace Go.Proofs
open Go.Sh
end Go.Proofs
end
section
namespace Go.Proofs
open Go.Sh Go.RowKit
end Go.Proofs
end
section
namespace Go.Sh
section
variable {P:Program} {t:TypeId} {c:Bool} {a b a' b':Int} {i j:IntKind}
end
end Go.Sh
end
section
namespace Go.Proofs
open Go.Sh
end Go.Proofs
end
section
namespace Go.Proofs
open Go.Sh Go.RowKit
end Go.Proofs
end
section
namespace Go.Sh
open Go.RowKit
section
variable {P:Program} {X:Nat→Prop} {w0 w w':World} {r:Gh} {L:List Asr}
end
end Go.Sh
end
section
namespace Go.Proofs
open Go.Sh Go.RowKit
end Go.Proofs
end
section
namespace Go.Proofs
open Go.Sh Go.RowKit Go.BM
abbrev wcs(ws:List (BitVec 64)):List Value:=ws.map u64
end Go.Proofs
end
section
namespace Go.Sh
section
variable {w:World} {i f l e x:Bool} {A1:(List Value→World→Prop)→Prop} {A2 A4 A5:(List Value→World→Prop)→World→Prop} {Z:Value→World→Prop}
end
end Go.Sh
end
section
namespace Go.Proofs
open Go.Sh Go.RowKit
end Go.Proofs
end
section
namespace Go.Proofs
open Go.Sh Go.RowKit Go.BM
variable {K:Value→World→Prop}
abbrev yr:=Int×List (BitVec 64)
theorem Vs{f:yr→Bool}{fv v:Value}{w:World}{r:Gh}{l:List yr}{K:Value→World→Prop}(hr:Holds r w)(hl:SlG 2 r (RwbC r) v l)(hb:l.length≤1000000000)
  (hf:∀x∈l,∀(c:List Value)(w:World)(K:Value→World→Prop),Holds r w→RwbC r c x→(∀w',Ext w w'→K (.bool (f x)) w')→zu Tryz.prog fv #[.agg c.toArray] w K)
  (h:∀(i:Int) w',Ext w w'→(0≤i↔l.any f=true)→K (.int .i64 i) w'):zd Tryz.prog Tryz.yi #[v,fv] w K:=by
 refine Tryz.kV ?_
 unfold Tryz.yV
 obtain⟨p,cap,rfl,_,_⟩:=hl.shape
 have S:=St.start hr
 refine gP_ ?_
 refine zk (ι:=Nat) (λi=>[.int .i64 i]) (λi w'=>i≤l.length∧(l.take i).any f=false∧StX noX w r w' []) (λi=>l.length-i) 0 rfl ⟨Nat.zero_le _,by simp,S⟩ ?_
 clear S
 rintro i d w' ⟨hi,hn,S⟩ K6 hK6
 simp only[gdz]
 refine gP_ ?_
 refine zj (λhlt=>?_) (λhge=>?_)
 ·have hlt:i<l.length:=by omega
  obtain⟨b,off,c,rfl,hcl,hcR,hcell⟩:=hl.get (by decide) hlt
  have hcR0:=hcR
  obtain⟨pw,cw,rfl,_⟩:=hcR
  refine gP_ ?_
  refine zt (n:=2) rfl (λj v hj=>by rw[tnc];exact S.at (hcell j v hj)) ?_
  refine hf _ (List.getElem_mem hlt) _ _ _ S.holds hcR0 λw2 e2=>?_
  have S:=S.go e2
  have ht:(l.take (i+1)).any f=((l.take i).any f||f l[i]):=by
   rw[List.take_succ_eq_append_getElem hlt,List.any_append];simp only[List.any_cons,List.any_nil,Bool.or_false]
  refine c_b (λhy=>?_) (λhno=>?_)
  ·exact h _ _ S.ext ⟨λ_=>List.any_eq_true.2 ⟨l[i],List.getElem_mem hlt,hy⟩,λ_=>Int.natCast_nonneg _⟩
  ·refine gP_ ?_
   refine hK6 (i+1) _ ⟨hlt,?_,S⟩ (by omega)
   rw[ht,hn,hno];rfl
 ·have :i=l.length:=by omega
  subst this
  rw[List.take_length]at hn
  exact h _ _ S.ext ⟨λh=>by omega,λh=>by rw[hn]at h;cases h⟩
theorem X7{f:yr→Bool}{fv v:Value}{w:World}{r:Gh}{l:List yr}{K:Value→World→Prop}(hr:Holds r w)(hl:SlG 2 r (RwbC r) v l)(hb:l.length≤1000000000)
  (hf:∀x∈l,∀(c:List Value)(w:World)(K:Value→World→Prop),Holds r w→RwbC r c x→(∀w',Ext w w'→K (.bool (f x)) w')→zu Tryz.prog fv #[.agg c.toArray] w K)
  (h:∀w',Ext w w'→K (.bool (l.any f)) w'):zd Tryz.prog Tryz.z6 #[v,fv] w K:=by
 refine Tryz.ki ?_
 unfold Tryz.yM
 refine Vs hr hl hb hf λi w' e hi=>?_
 refine gP_ ?_
 have e2:decide (i≥0)=l.any f:=by
  by_cases hh:l.any f=true
  ·rw[hh];exact decide_eq_true (hi.2 hh)
  ·rw[Bool.eq_false_iff.2 hh];exact decide_eq_false λh=>hh (hi.1 h)
 rw[e2];exact h _ e
end Go.Proofs
end
section
namespace Go.Proofs.Tryz
open Go.Sh
variable {t0 t1:Value} {w:World} {K:VW}
def Vt(t0:Value)(w:World)(K:VW):Prop:=
 pw w (Instr.box 48 t0) λt1 w1=>
 pw w1 (Instr.alloc 48 true (.tuple #[])) λt2 w2=>
 lo w2 48 t1 λt4=>ca kM #[t4] w2 λt5 w3=>
 pp (Op.unary .not t5) λt6=>zc t6 (pp (Instr.build 48 #[]) λt7=>so w3 48 t2 t7 λw4=>pq w4 (ze 48 t2) λr5=>K (.tuple #[r5,(i6 2)]) w4) (fl w3.drew t1 48 0 3 λt9=>fl w3.drew t1 48 1 46 λt11=>ca yL #[t11] w3.drew λt12 w6=>
 Ext w3.drew w6∧
 pp (Instr.build 48 #[(0,t9),(1,t12)]) λt13=>so w6 48 t2 t13 λw7=>pq w7 (ze 48 t2) λr8=>K (.tuple #[r8,(i6 0)]) w7)
theorem ac8(h:Vt t0 w K):zd prog vH #[t0] w K:=
 okC false (.s (.r (rz 3 0 10)) (.s (.s (.r (rz 3 0 9)) (.c (.s (.r (rz 3 0 8)) (.n)) (.n))) (.s (.r (rz 8 0 9028)) (.n)))) func158 rfl (by kernel_rfl) (by kernel_rfl) h
def QZ(t0:Value)(w:World)(K:VW):Prop:=
 pw w (Instr.box 48 t0) λt1 w1=>
 lo w1 48 t1 λt5=>ca vH #[t5] w1 λt6 w2=>
 pe t6 0 λt7=>pe t6 1 λt8=>pw w2 (Instr.alloc 29 true (.tuple #[])) λt3 w3=>
 so w3 48 t1 t7 λw4=>so w4 29 t3 t8 λw5=>pp (Instr.makeFunc (.func 159) #[] #[t3,t1]) λt9=>K t9 w5
theorem acw(h:QZ t0 w K):zd prog Z8 #[t0] w K:=
 okC false (.s (.r (rz 2 0 2)) (.s (.r (rz 8 0 43017)) (.s (.r (rz 2 0 0)) (.n)))) func103 rfl (by kernel_rfl) (by kernel_rfl) h
def vh(t0 t1 t2:Value)(w:World)(K:VW):Prop:=
 lo w 29 t1 λt6=>bt .neq 29 t6 (i6 0) λt7=>zc t7 (K (.tuple #[]) w) (fl w t2 48 1 46 λt9=>pp (Builtin.len_ #[46] 3 #[t9]) λt10=>zx [(i6 0)] w (λs2 _d3 w4 K1=>
 bf .lss 3 (s2.getD 0 u_) t10 λt12=>zc t12 (xl w4 46 t9 (s2.getD 0 u_) 205 λt15=>zx [t15] w4 (λs6 _d7 w8 K5=>
 bt .neq 205 (s6.getD 0 u_) (Value.int .u64 0) λt17=>zc t17 (bt .mul 3 (i6 64) (s2.getD 0 u_) λt24=>ca yO #[(s6.getD 0 u_)] w8 λt26 w9=>
 bf .add 3 t24 t26 λt27=>cv t0 #[t27] w9 λt28 w10=>
 pp (Op.unary .not t28) λt29=>zc t29 (K (.tuple #[]) w10) (bt .sub 205 (s6.getD 0 u_) (Value.int .u64 1) λt20=>bf .and 205 (s6.getD 0 u_) t20 λt21=>K5 [t21] w10)) (bt .add 3 (s2.getD 0 u_) (i6 1) λt30=>K1 [t30] w8))) (K (.tuple #[]) w4)))
theorem YJ{t2:Value}(h:vh t0 t1 t2 w K):zd prog Xe #[t0,t1,t2] w K:=
 okC false (.s (.s (.r (rz 2 0 1)) (.c (.n) (.n))) (.s (.r (rz 4 0 4)) (.b (.lp [11] (.s (.r (rz 1 0 0)) (.s (.c (.n) (.n)) (.s (.b (.s (.r (rz 5 0 16)) (.b (.lp [5] (.s (.s (.r (rz 2 0 0)) (.c (.n) (.n))) (.s (.b (.s (.r (rz 8 0 8704)) (.c (.n) (.n)))) (.r (rz 5 0 0)))))))) (.r (rz 2 0 0))))))))) func159 rfl (by kernel_rfl) (by kernel_rfl) h
def Q0(t0 t1 t2:Value)(w:World)(K:VW):Prop:=
 pw w (Instr.box 48 t0) λt3 w1=>
 pw w1 (Instr.box 48 t1) λt4 w2=>
 pw w2 (Instr.alloc 48 true (.tuple #[])) λt6 w3=>
 lo w3 48 t3 λt11=>ca kM #[t11] w3 λt12 w4=>
 pp (Op.unary .not t12) λt13=>za (λK5=>gIf t13 false (lo w4 48 t4 λt15=>ca kM #[t15] w4 λt16 w9=>
 pp (Op.unary .not t16) λt17=>K5 [t17] w9) (K5 [u_] w4)) (λs6 _d7 w8=>
 zb t13 tr_ (s6.getD 0 u_) λt18=>za (λK10=>gIf t18 false (fl w8 t3 48 0 3 λt21=>fl w8 t4 48 0 3 λt23=>bf .neq 3 t21 t23 λt24=>K10 [t24] w8) (K10 [u_] w8)) (λs11 _d12 w13=>
 zb t18 tr_ (s11.getD 0 u_) λt25=>zc t25 (pp (Instr.build 48 #[]) λt26=>so w13 48 t6 t26 λw14=>pq w14 (ze 48 t6) λr15=>K (.tuple #[r15,(i6 2)]) w14) (lo w13 48 t3 λt28=>ca vH #[t28] w13 λt29 w16=>
 pe t29 0 λt30=>pe t29 1 λt31=>pw w16 (Instr.alloc 48 true (.tuple #[])) λt8 w17=>
 so w17 48 t8 t30 λw18=>fl w18 t8 48 1 46 λt33=>pp (Builtin.len_ #[46] 3 #[t33]) λt34=>zx [(i6 0)] w18 (λs20 _d21 w22 K19=>
 bf .lss 3 (s20.getD 0 u_) t34 λt36=>zc t36 (fl w22.drew t8 48 1 46 λt40=>px 46 t40 (s20.getD 0 u_) λt42=>fl w22.drew t4 48 1 46 λt44=>xl w22.drew 46 t44 (s20.getD 0 u_) 205 λt47=>cv t2 #[t42,t47] w22.drew λ_t48 w23=>
 bt .add 3 (s20.getD 0 u_) (i6 1) λt49=>K19 [t49] w23) (lo w22 48 t8 λt50=>so w22 48 t6 t50 λw24=>pq w24 (ze 48 t6) λr25=>K (.tuple #[r25,t31]) w24)))))
theorem acx{t2:Value}(h:Q0 t0 t1 t2 w K):zd prog Z9 #[t0,t1,t2] w K:=
 okC false (.s (.r (rz 4 0 42)) (.s (.s (.r (ra 4 0 9 (.grp 14 false (ri 3 4 9) [17] (ra 2 7 0 (.grp 19 false (ri 5 9 68) [24] (rz 1 14 0)))))) (.c (.s (.r (rz 3 0 8)) (.n)) (.n))) (.s (.r (rz 8 0 10249)) (.s (.s (.r (rz 4 0 4)) (.b (.lp [35] (.s (.r (rz 1 0 0)) (.s (.c (.n) (.n)) (.s (.b (.s (.r (rz 2 0 0)) (.r (rz 11 0 2363408)))) (.r (rz 2 0 0)))))))) (.s (.r (rz 4 0 33)) (.n)))))) func171 rfl (by kernel_rfl) (by kernel_rfl) h
def Q2(t0 t1:Value)(w:World)(K:VW):Prop:=
 pw w (Instr.box 48 t0) λt2 w1=>
 pw w1 (Instr.box 48 t1) λt3 w2=>
 pw w2 (Instr.alloc 48 true (.tuple #[])) λt4 w3=>
 lo w3 48 t2 λt6=>lo w3 48 t3 λt7=>ca Z9 #[t6,t7,(Value.func (.func 172) #[] #[])] w3 λt8 w4=>
 pe t8 0 λt9=>pe t8 1 λt10=>so w4 48 t4 t9 λw5=>pq w5 (ze 48 t4) λr6=>K (.tuple #[r6,t10]) w5
theorem acz(h:Q2 t0 t1 w K):zd prog Ya #[t0,t1] w K:=
 okC false (.s (.r (rz 4 0 42)) (.s (.r (rz 7 0 2085)) (.n))) func128 rfl (by kernel_rfl) (by kernel_rfl) h
def Xr(t0 t1:Value)(w:World)(K:VW):Prop:=
 jq t0 λt5=>lo w 205 t5 λt6=>bf .andNot 205 t6 t1 λt8=>jq t0 λt9=>so w 205 t9 t8 λw1=>K (.tuple #[]) w1
theorem aak(h:Xr t0 t1 w K):zd prog Xf #[t0,t1] w K:=
 okC false (.r (rz 7 0 8208)) func172 rfl (by kernel_rfl) (by kernel_rfl) h
def X8(t0 t1:Value)(w:World)(K:VW):Prop:=
 pw w (Instr.box 48 t0) λt2 w1=>
 NC w w1∧
 pw w1 (Instr.box 48 t1) λt3 w2=>
 NC w1 w2∧
 pw w2 (Instr.alloc 3 true (.tuple #[])) λt4 w3=>
 NC w2 w3∧
 pw w3 (Instr.alloc 4 true (.tuple #[])) λt5 w4=>
 NC w3 w4∧
 pw w4 (Instr.alloc 29 true (.tuple #[])) λt6 w5=>
 NC w4 w5∧
 lo w5 48 t3 λt10=>lo w5 48 t2 λt11=>ca Ya #[t10,t11] w5 λt12 w6=>
 NC w5 w6∧
 pe t12 0 λt13=>pe t12 1 λt14=>pw w6 (Instr.alloc 48 true (.tuple #[])) λt7 w7=>
 NC w6 w7∧
 so w7 48 t7 t13 λw8=>NC w7 w8∧
 so w8 29 t6 t14 λw9=>NC w8 w9∧
 lo w9 29 t6 λt15=>bt .neq 29 t15 (i6 0) λt16=>zc t16 (((pw w9.drew (Instr.loadAt 29 t6) λt17 w10=>
 NC w9.drew w10∧
 so w10 3 t4 (i6 0) λw11=>NC w10 w11∧
 so w11 4 t5 fa_ λw12=>NC w11 w12∧
 so w12 29 t6 t17 λw13=>NC w12 w13∧
 ∀w14,Shuts w.heap.size w13 w14→pq w14 (ze 3 t4) λr15=>pq w14 (ze 4 t5) λr16=>pq w14 (ze 29 t6) λr17=>K (.tuple #[r15,r16,r17]) w14)∧
 (so w9.drew 3 t4 (i6 0) λw18=>NC w9.drew w18∧
 ((pw w18 (Instr.loadAt 29 t6) λt17_20 w19=>
 NC w18 w19∧
 so w19 4 t5 fa_ λw21=>NC w19 w21∧
 so w21 29 t6 t17_20 λw22=>NC w21 w22∧
 ∀w23,Shuts w.heap.size w22 w23→pq w23 (ze 3 t4) λr24=>pq w23 (ze 4 t5) λr25=>pq w23 (ze 29 t6) λr26=>K (.tuple #[r24,r25,r26]) w23)∧
 (so w18 4 t5 fa_ λw27=>NC w18 w27∧
 pw w27 (Instr.loadAt 29 t6) λt17_29 w28=>
 NC w27 w28∧
 so w28 29 t6 t17_29 λw30=>NC w28 w30∧
 ∀w31,Shuts w.heap.size w30 w31→pq w31 (ze 3 t4) λr32=>pq w31 (ze 4 t5) λr33=>pq w31 (ze 29 t6) λr34=>K (.tuple #[r32,r33,r34]) w31))))) (lo w9 48 t7 λt18=>ca Z8 #[t18] w9 λt19 w35=>
 NC w9 w35∧
 JM prog 1 t19 w35 (λx36 w37 S38 KR39=>
 (Ext w37 w37∧∀w40,Nl w35.heap.size w37 w40→
 so w40 3 t4 (x36.getD 0 u_) λw41=>NC w40 w41∧
 so w41 4 t5 tr_ λw42=>NC w41 w42∧
 so w42 29 t6 (i6 0) λw43=>NC w42 w43∧
 (ExtBut S38 w40 w43∧KR39 .ret w43))) (λw44=>
 so w44 3 t4 (i6 0) λw45=>NC w44 w45∧
 so w45 4 t5 fa_ λw46=>NC w45 w46∧
 so w46 29 t6 (i6 0) λw47=>NC w46 w47∧
 ∀w48,Shuts w.heap.size w47 w48→pq w48 (ze 3 t4) λr49=>pq w48 (ze 4 t5) λr50=>pq w48 (ze 29 t6) λr51=>K (.tuple #[r49,r50,r51]) w48) (λw52=>
 ∀w53,Shuts w.heap.size w52 w53→pq w53 (ze 3 t4) λr54=>pq w53 (ze 4 t5) λr55=>pq w53 (ze 29 t6) λr56=>K (.tuple #[r54,r55,r56]) w53) [])
theorem abi(h:X8 t0 t1 w K):zd prog Zd #[t0,t1] w K:=
 okC true (.s (.r (rz 5 0 682)) (.s (.r (rz 9 0 172069)) (.s (.s (.r (rz 2 0 1)) (.c (.s (.r (.alt 0 .l (rz 3 1 42) (ra 1 1 2 (.alt 0 .l (rz 2 2 10) (ra 1 2 2 (ra 1 0 2 (rz 1 3 2))))))) (.n)) (.n))) (.s (.s (.r (rz 2 0 9)) (.b (.rf [] (.r (rz 1 0 0)) (.b (.s (.r (rz 4 0 168)) (.n)))))) (.s (.r (rz 3 0 42)) (.n)))))) func65 rfl (by kernel_rfl) (by kernel_rfl) h
def xE(t0:Value)(w:World)(K:VW):Prop:=
 bt .eql 46 t0 (Value.slice Option.none 0 0) λt4=>zc t4 (K (Value.slice Option.none 0 0) w) (pw w (Instr.buildSlice 46 0 #[]) λt5 w1=>
 pw w1 (Builtin.append_ #[46,46] 46 #[t5,t0]) λt7 w2=>
 K t7 w2)
theorem jk(h:xE t0 w K):zd prog yL #[t0] w K:=
 okC false (.s (.r (rz 1 0 0)) (.s (.s (.r (rz 2 0 0)) (.c (.s (.r (rz 1 0 0)) (.n)) (.n))) (.s (.r (rz 4 0 34)) (.n)))) func201 rfl (by kernel_rfl) (by kernel_rfl) h
def xI(t0:Value)(w:World)(K:VW):Prop:=
 bt .eql 205 t0 (Value.int .u64 0) λt4=>zc t4 (K (i6 64) w) (pp (Op.unary .neg t0) λt7=>bf .and 205 t0 t7 λt8=>bt .mul 205 t8 (Value.int .u64 285870213051353865) λt9=>bt .shr 205 t9 (Value.int .u64 58) λt10=>xl w 275 (Value.pointer (some ⟨0,0,none⟩)) t10 5 λt12=>pp (convert 5 3 t12) λt13=>K t13 w)
theorem jE(h:xI t0 w K):zd prog yO #[t0] w K:=
 okC false (.s (.r (rz 1 0 0)) (.s (.s (.r (rz 2 0 0)) (.c (.s (.r (rz 1 0 0)) (.n)) (.n))) (.s (.r (rz 10 0 16384)) (.n)))) func160 rfl (by kernel_rfl) (by kernel_rfl) h
end Go.Proofs.Tryz
end
section
namespace Go.Proofs
open Go.Sh Go.RowKit Go.BM
variable {w:World} {r:Gh} {ws:List (BitVec 64)} {K:Value→World→Prop} {x y:yr} {cap i:Nat} {p:Option Addr} {W:Int} {c cx cy:List Value} {α:Type} {L:List Asr}
theorem StX.atRow{X:Nat→Prop}{w0:World}{e:TypeId}{n:Nat}{xs:List Value}(S:StX X w0 r w (.row (.slice p n cap) e 1 n xs::L))(hn:n≠0):
  ∃b c,p=some ⟨b,0,none⟩∧c.take n=xs∧n≤c.length∧StX X w0 r w (.cell b c e::L)∧∀c' w',c'.length=c.length→StX X w0 r w' (.cell b c' e::L)→StX X w0 r w' (.row (.slice p n cap) e 1 n (c'.take n)::L):=by
 have hr:w.ownsRow 0 e 1 (.slice p n cap) n xs:=S.has _ (List.mem_cons_self ..)
 rcases x6 hr with⟨h0,h1,_⟩|⟨b,cap',c,hv,hb,B,hle,hm,hc,ht⟩
 ·exact absurd h1 hn
 cases hv
 rw[Nat.mul_one]at hc ht
 refine⟨b,c,rfl,ht,by omega,S.turn (p:=[]) (x:=.row _ e 1 n xs) (y:=.cell b c e) (ExtBut.refl _ _) B λk hk=>.inl (by cases hk;rfl),λc' w' hl S'=>?_⟩
 have B':Blk w' b c' e:=S'.has _ (List.mem_cons_self ..)
 refine S'.turn (p:=[]) (x:=.cell b c' e) (y:=.row _ e 1 n (c'.take n)) (ExtBut.refl _ _) ?_ λk hk=>.inl (by cases hk;rfl)
 have:=qU (base:=0) (size:=1) (Nat.zero_le _) B' hle hm (by rw[hl,hc,Nat.mul_one])
 rwa[Nat.mul_one]at this
theorem jX(h:BM.mayB W ws=true):BM.May W ws:=Classical.byContradiction λhn=>by rw[BM.mayB_false hn]at h;cases h
theorem acA{a m:List α}(ha:i<a.length)(hm:i<m.length):(a.take i++m.drop i).set i a[i]=a.take (i+1)++m.drop (i+1):=by
 rw[List.set_append_right _ _ (by rw[List.length_take];omega),List.length_take,Nat.min_eq_left (by omega),Nat.sub_self,List.drop_eq_getElem_cons hm,List.set_cons_zero,List.take_succ_eq_append_getElem ha,List.append_assoc];rfl
theorem adA{a m:List α}(ha:i≤a.length)(hm:i<m.length):(a.take i++m.drop i)[i]? = some m[i]:=by
 rw[List.getElem?_append_right (by rw[List.length_take];omega),List.length_take,Nat.min_eq_left ha,Nat.sub_self,List.getElem?_drop,Nat.add_zero,gqg hm]
theorem aal:(wcs ws).length=ws.length:=List.length_map _
theorem afQ(ws:List (BitVec 64)):∀u∈wcs ws,u.oneCell'=true:=λu hu=>by
 obtain⟨x,_,rfl⟩:=List.mem_map.1 hu;rfl
theorem aaU:RowOf 1 WdC (wcs ws) ws:=⟨by rw[aal,Nat.mul_one],λj hj=>by
 rw[Nat.mul_one,wcs,← List.map_drop,← List.map_take,List.drop_eq_getElem_cons hj];rfl⟩
theorem aeV{n:Nat}(h:SlG 1 r WdC (.slice p n cap) ws):Ob r λw=>Sl w p (wcs ws):=λw hw i v hi=>by
 have hlt:i<ws.length:=by
  have:=(List.getElem?_eq_some_iff.1 hi).1
  rwa[aal]at this
 obtain⟨b,off,hp,_,hc⟩:=YI h hlt
 have hv:v=u64 ws[i]:=by
  rw[wcs,List.getElem?_map,gqg hlt]at hi
  exact(Option.some.inj hi).symm
 subst hv
 exact⟨b,off,hp,hc w hw⟩
theorem ac9{K:Value→World→Prop}(hr:Holds r w)(hl:SlB 1 r WdC (.slice p ws.length cap) ws)(hb:ws.length≤1000000)
  (h:∀v' w',Ext w w'→w'.ownsRow w.heap.size 205 1 v' ws.length (wcs ws)→K v' w'):zd Tryz.prog Tryz.yL #[.slice p ws.length cap] w K:=by
 refine Tryz.jk ?_
 unfold Tryz.xE
 have S:=St.start hr
 obtain⟨_,_,hE,hp,_⟩:=hl.sl.shape
 cases hE
 refine afh (e:=205) (n:=1) (by kernel_rfl) ?_
 refine c_b (λhn=>?_) (λhn=>?_)
 ·have hws:ws=[]:=by
   cases ws with
   |nil=>rfl
   |cons a l=>
    obtain⟨b,off,hb,_⟩:=(S.at (aeV hl.sl)) 0 (u64 a) rfl
    rw[hb]at hn;cases hn
  subst hws
  have S:=S.ownNil 205 1
  exact h _ _ S.ext (S.give (.slice none 0 0))
 refine S.lit (e:=205) (cs:=[]) (by kernel_rfl) λb w1 S=>?_
 have S:=S.toRow 0 1 rfl (by decide)
 refine S.ap (v:=.slice (some ⟨b,0,none⟩) 0 0) (S.at (aeV hl.sl)) (λv2 w2 S=>?_) (by omega) (by rw[aal,Nat.mul_one]) hp (afQ _)
 rw[Nat.zero_add,List.nil_append]at S
 exact h _ _ S.ext (S.give v2)
abbrev afR:Value:=.agg #[.int .i64 0,.slice none 0 0]
theorem Vu{K:Value→World→Prop}(hr:Holds r w)(hx:RwbC r c x)
  (h1:BM.mayB x.1 x.2=false→∀w',Ext w w'→K (.tuple #[afR,.int .i64 2]) w')
  (h2:BM.mayB x.1 x.2=true→∀v' w',Ext w w'→w'.ownsRow w.heap.size 205 1 v' x.2.length (wcs x.2)→K (.tuple #[.agg #[.int .i64 x.1,v'],.int .i64 0]) w'):zd Tryz.prog Tryz.vH #[.agg c.toArray] w K:=by
 refine Tryz.ac8 ?_
 unfold Tryz.Vt
 have hx0:=hx
 obtain⟨W,ws⟩:=x
 simp only at h1 h2
 obtain⟨p,cap,rfl,hS⟩:=hx
 have S:=St.start hr
 refine S.box λb1 w1 S=>?_
 refine S.al λb2 w2 S=>?_
 have S:StX noX w r w2 [.cell b2 [.int .i64 0,.slice none 0 0] 48,.cell b1 [.int .i64 W,.slice p ws.length cap] 48]:=S
 refine S.ldB (b:=b1) ?_ rfl
 refine vS S.holds hx0 λw3 e3=>?_
 have S:=S.go e3
 refine gp_ ?_
 refine c_b (λhm=>?_) (λhm=>?_)
 ·refine zp (cs:=#[.int .i64 0,.slice none 0 0]) (by kernel_rfl) ?_
  refine S.stB (b:=b2) λw4 S=>?_
  refine S.ceB (b:=b2) ?_ rfl
  exact h1 (by simpa using hm) _ S.ext
 have hm:BM.mayB W ws=true:=by simpa using hm
 have hM:BM.May W ws:=jX hm
 have hl:ws.length≤1000000:=by have:=hM.2.1;have:=hM.2.2.1;omega
 have S:=S.go (Ext.drew _)
 refine gg_ ?_
 refine ac9 S.holds hS hl λv4 w4 e4 h4=>⟨e4,?_⟩
 have S:=S.take e4 h4
 obtain⟨p4,cap4,rfl,_⟩:=S.rowS v4
 refine zp (cs:=#[.int .i64 W,.slice p4 ws.length cap4]) (by kernel_rfl) ?_
 refine S.stB (b:=b2) λw5 S=>?_
 refine S.ceB (b:=b2) ?_ rfl
 exact h2 hm _ _ S.ext (S.give (.slice p4 ws.length cap4))
def agk(f:Value)(g:BitVec 64→BitVec 64→BitVec 64):Prop:=
 ∀(X:Nat→Prop)(w0 w:World)(r:Gh)(L:List Asr)(b i:Nat)(c:List Value)(T:TypeId)(x y:BitVec 64)(K:Value→World→Prop),StX X w0 r w (.cell b c T::L)→c[i]? = some (u64 x)→
  (∀v w',StX X w0 r w' (.cell b (c.set i (u64 (g x y))) T::L)→K v w')→zu Tryz.prog f #[.pointer (some ⟨b,i,none⟩),u64 y] w K
theorem ahD:agk (.func (.func Tryz.Xf) #[] #[]) (λx y=>x &&& ~~~ y):=by
 intro X w0 w r L b i c T x y K S hc h
 refine xi (by kernel_rfl) (Tryz.aak (t0:=.pointer (some ⟨b,i,none⟩)) (t1:=u64 y) ?_)
 unfold Tryz.Xr
 refine n_some (S.ld (b:=b) (v:=u64 x) ?_ hc)
 refine gp_ ?_
 refine n_some (S.st (b:=b) (λw' S=>?_) (List.getElem?_eq_some_iff.1 hc).1)
 exact h _ _ S
theorem ada{fv:Value}{g:BitVec 64→BitVec 64→BitVec 64}{K:Value→World→Prop}(hr:Holds r w)(hx:RwbC r cx x)(hy:RwbC r cy y)(hf:agk fv g)
  (h1:¬(BM.mayB x.1 x.2=true∧BM.mayB y.1 y.2=true∧x.1=y.1)→∀w',Ext w w'→K (.tuple #[afR,.int .i64 2]) w')
  (h2:BM.mayB x.1 x.2=true→BM.mayB y.1 y.2=true→x.1=y.1→∀p cap s w',Ext w w'→New w s w'→kx s→SlB 1 s WdC (.slice p (List.zipWith g x.2 y.2).length cap) (List.zipWith g x.2 y.2)→K (.tuple #[.agg #[.int .i64 x.1,.slice p (List.zipWith g x.2 y.2).length cap],.int .i64 0]) w'):
  zd Tryz.prog Tryz.Z9 #[.agg cx.toArray,.agg cy.toArray,fv] w K:=by
 refine Tryz.acx ?_
 unfold Tryz.Q0
 have hx0:=hx;have hy0:=hy
 obtain⟨W,ws⟩:=x
 obtain⟨V,vs⟩:=y
 simp only at h1 h2
 obtain⟨p,cap,rfl,hS⟩:=hx
 obtain⟨q,caq,rfl,hQ⟩:=hy
 simp only at hS hQ
 have S:=St.start hr
 refine S.box λb3 w1 S=>?_
 refine S.box λb4 w2 S=>?_
 refine S.al λb6 w3 S=>?_
 have S:StX noX w r w3 [.cell b6 [.int .i64 0,.slice none 0 0] 48,.cell b4 [.int .i64 V,.slice q vs.length caq] 48,.cell b3 [.int .i64 W,.slice p ws.length cap] 48]:=S
 refine S.ldB (b:=b3) ?_ rfl
 refine vS S.holds hx0 λw4 e4=>?_
 have S:=S.go e4
 refine gp_ ?_
 refine y8 (c:=!BM.mayB V vs) (λ_ K2 hK2=>?_) λw5 e5=>?_
 ·refine S.ldB (b:=b4) ?_ rfl
  refine vS S.holds hy0 λw9 e9=>?_
  refine gp_ ?_
  exact hK2 _ e9
 have S:=S.go e5
 refine zi (c:=decide (W≠V)) (λ_ K2 hK2=>by refine gg_ ?_;exact hK2) ?_
 refine c_b (λhb=>?_) (λhb=>?_)
 ·refine zp (cs:=#[.int .i64 0,.slice none 0 0]) (by kernel_rfl) ?_
  refine S.stB (b:=b6) λw14 S=>?_
  refine S.ceB (b:=b6) ?_ rfl
  refine h1 ?_ _ S.ext
  rintro⟨h3,h4,h5⟩
  rw[h3,h4,h5]at hb
  simp at hb
 simp only[Bool.or_eq_false_iff,Bool.not_eq_false',decide_eq_false_iff_not,Decidable.not_not]at hb
 obtain⟨⟨hmx,hmy⟩,rfl⟩:=hb
 have hMx:BM.May W ws:=jX hmx
 have hMy:BM.May W vs:=jX hmy
 have hlen:vs.length=ws.length:=by have:=hMx.2.2.1;have:=hMy.2.2.1;omega
 have hl:ws.length≤1000000:=by have:=hMx.2.1;have:=hMx.2.2.1;omega
 refine S.ldB (b:=b3) ?_ rfl
 refine Vu S.holds hx0 (λhn=>by rw[hmx]at hn;cases hn) λ_ v5 w16 e16 h16=>?_
 have S:=S.take e16 h16
 simp only at S
 obtain⟨p5,cap5,rfl,_⟩:=S.rowS v5
 refine gS_ ?_
 refine S.al λb8 w17 S=>?_
 refine S.stB (b:=b8) λw18 S=>?_
 have hzl:(List.zipWith g ws vs).length=ws.length:=by rw[List.length_zipWith];omega
 generalize hz:List.zipWith g ws vs=zs at h2 hzl
 have hzi:∀i (h:i<ws.length),zs[i]'(by omega)=g ws[i] (vs[i]'(by omega)):=λi h=>by subst hz;simp
 have S:StX noX w r w18 [.row (.slice p5 ws.length cap5) 205 1 ws.length (wcs (zs.take 0++ws.drop 0)),.cell b8 [.int .i64 W,.slice p5 ws.length cap5] 48,.cell b6 [.int .i64 0,.slice none 0 0] 48,.cell b4 [.int .i64 W,.slice q vs.length caq] 48,.cell b3 [.int .i64 W,.slice p ws.length cap] 48]:=S.swap
 refine gg_ ?_
 refine zk (ι:=Nat) (λi=>[.int .i64 (i:Nat)]) (λi w'=>i≤ws.length∧StX noX w r w' [.row (.slice p5 ws.length cap5) 205 1 ws.length (wcs (zs.take i++ws.drop i)),.cell b8 [.int .i64 W,.slice p5 ws.length cap5] 48,.cell b6 [.int .i64 0,.slice none 0 0] 48,.cell b4 [.int .i64 W,.slice q vs.length caq] 48,.cell b3 [.int .i64 W,.slice p ws.length cap] 48]) (λi=>ws.length-i) 0 rfl ⟨Nat.zero_le _,S⟩ ?_
 repeat clear S
 rintro i d w22 ⟨hi,S⟩ K19 hK19
 rw[gdz]
 refine gp_ ?_
 refine zj (λhlt=>?_) (λhge=>?_)
 ·have hlt:i<ws.length:=by omega
  have S:=S.go (Ext.drew _)
  obtain⟨b5,c,hp5,hct,hcl,S,hback⟩:=StX.atRow S (by omega)
  subst hp5
  obtain⟨by',oy,hpy,_,hyc⟩:=YI hQ.sl (i:=i) (by omega)
  subst hpy
  refine gg_ ?_
  refine zh (by rw[tnc];exact S.at hyc) ?_
  have hci:c[0+((i:Nat):Int).toNat]? = some (u64 ws[i]):=by
   rw[Nat.zero_add,tnc]
   have h3:(c.take ws.length)[i]? = some (u64 ws[i]):=by
    rw[hct,wcs,List.getElem?_map,adA (by omega) hlt];rfl
   rwa[List.getElem?_take,if_pos hlt]at h3
  refine hf _ _ _ _ _ _ _ _ _ ws[i] (vs[i]'(by omega)) _ S hci λ_ w23 S=>?_
  have S:=hback _ _ (List.length_set ..) S
  have he:(c.set (0+((i:Nat):Int).toNat) (u64 (g ws[i] (vs[i]'(by omega))))).take ws.length=wcs (zs.take (i+1)++ws.drop (i+1)):=by
   rw[Nat.zero_add,tnc,List.take_set,hct,wcs,wcs,← List.map_set,← hzi i hlt,acA (by omega) hlt]
  rw[he]at S
  refine gg_ ?_
  exact hK19 (i+1) _ ⟨hlt,S⟩ (by omega)
 ·have hie:i=ws.length:=by omega
  subst hie
  rw[List.take_of_length_le (by omega),List.drop_length,List.append_nil]at S
  refine S.ldB (b:=b8) ?_ rfl
  refine S.stB (b:=b6) λw24 S=>?_
  refine S.ceB (b:=b6) ?_ rfl
  obtain⟨s,T,hs,hnb,ha⟩:=S.doneRow (l:=zs) aaU (by decide) (by omega)
  rw[← hzl]
  rw[← hzl]at hs
  exact h2 hmx hmy rfl _ _ s _ T.ext (StX.newOf (q:=s) T λb o ho=>(ha b o ho).resolve_right id) ⟨λb o ho=>by obtain⟨c,rfl⟩:=hnb b o ho;rfl⟩ ⟨hs,by rw[maxLen];omega⟩
theorem adb{K:Value→World→Prop}(hr:Holds r w)(hx:RwbC r cx x)(hy:RwbC r cy y)
  (h1:¬(BM.mayB x.1 x.2=true∧BM.mayB y.1 y.2=true∧x.1=y.1)→∀w',Ext w w'→K (.tuple #[afR,.int .i64 2]) w')
  (h2:BM.mayB x.1 x.2=true→BM.mayB y.1 y.2=true→x.1=y.1→∀c' s w',Ext w w'→New w s w'→kx s→RwbC s c' (x.1,List.zipWith (λx y=>x &&& ~~~ y) x.2 y.2)→K (.tuple #[.agg c'.toArray,.int .i64 0]) w'):
  zd Tryz.prog Tryz.Ya #[.agg cx.toArray,.agg cy.toArray] w K:=by
 refine Tryz.acz ?_
 unfold Tryz.Q2
 have hx0:=hx;have hy0:=hy
 obtain⟨p,cap,rfl,hS⟩:=hx
 obtain⟨q,caq,rfl,hQ⟩:=hy
 have S:=St.start hr
 refine S.box λb2 w1 S=>?_
 refine S.box λb3 w2 S=>?_
 refine S.al λb4 w3 S=>?_
 have S:StX noX w r w3 [.cell b4 [.int .i64 0,.slice none 0 0] 48,.cell b3 [.int .i64 y.1,.slice q y.2.length caq] 48,.cell b2 [.int .i64 x.1,.slice p x.2.length cap] 48]:=S
 refine S.ldB (b:=b2) ?_ rfl
 refine S.ldB (b:=b3) ?_ rfl
 refine ada S.holds hx0 hy0 ahD (λhn w4 e4=>?_) λhmx hmy he p4 cap4 s4 w4 e4 n4 hnb h4=>?_
 ·have S:=S.go e4
  refine gS_ ?_
  refine S.stB (b:=b4) λw5 S=>?_
  refine S.ceB (b:=b4) ?_ rfl
  exact h1 hn _ S.ext
 ·obtain⟨S,_,ha⟩:=S.tell e4 n4
  refine gS_ ?_
  refine S.stB (b:=b4) λw5 S=>?_
  refine S.ceB (b:=b4) ?_ rfl
  exact h2 hmx hmy he [.int .i64 x.1,.slice p4 _ cap4] s4 _ S.ext (StX.newOf (q:=s4) S ha) hnb ⟨p4,cap4,rfl,h4⟩
def Tab(w:World):Prop:=∀j,j<64→w.cell? ⟨0,j,none⟩=some (.int .u8 (Lib.deBruijn64tab.getD j 0:Nat))
def TabG(r:Gh):Prop:=Ob r Tab∧∃o,r 0 o
theorem TabG.up{s:Gh}(h:TabG r)[le:Le r s]:TabG s:=⟨h.1.up,h.2.imp λo=>le.le 0 o⟩
theorem QD{x:BitVec 64}{t:Nat}(hT:Tab w)(hx:x≠0#64)(ht:t<64)(ha:(x &&& -x).toNat=2 ^ t)(h:K (.int .i64 t) w):
  zd Tryz.prog Tryz.yO #[u64 x] w K:=by
 refine Tryz.jE ?_
 unfold Tryz.xI
 refine af8 ?_
 refine zj (λh0=>absurd (BitVec.eq_of_toNat_eq (by have :(0#64).toNat=0:=rfl;omega)) hx) (λh0=>?_)
 refine agu (VJ ?_)
 rw[abK]
 refine ahg 285870213051353865 rfl ?_
 refine ahf 58 rfl ?_
 have hta:=afO ht ha
 generalize ((x &&& -x)*BitVec.ofNat 64 285870213051353865) >>> 58=z at hta⊢
 refine abP (l:=64) (e:=5) (n:=1) (by kernel_rfl) (by omega) (by omega) ?_
 have hc:=hT _ hta.1
 rw[hta.2]at hc
 refine zh (v:=.int .u8 (t:Int)) (by rw[show 0+Int.toNat (z.toNat:Int)*1=z.toNat by omega];exact hc) ?_
 refine agv (k1:=.u8) (by kernel_rfl) (by kernel_rfl) (by omega) h
abbrev JF(k:Nat):List Value:=[.int .i64 (k:Int)]
noncomputable def Y9(W:Int)(ws:List (BitVec 64)):List Nat:=if BM.mayB W ws then Zz ws else []
theorem aaV(h:BM.May W ws):Y9 W ws=Zz ws:=by simp[Y9,BM.mayB_true h]
theorem aeW(h:BM.mayB W ws=false):Y9 W ws=[]:=by simp[Y9,h]
theorem afS{l:List α}{k:Nat}{x:α}{r:List α}(h:l.drop k=x::r):l[k]? = some x∧l.drop (k+1)=r:=by
 constructor
 ·have :(l.drop k)[0]? = some x:=by rw[h];rfl
  rwa[List.getElem?_drop,Nat.add_zero]at this
 ·rw[← List.drop_drop,h];rfl
theorem StX.frzNew{w0:World}{M:List Asr}{T:TypeId}(S:StX noX w0 r w L)(b:Nat)[h:jx b L c T M]:StX noX w0 (r.or (Go.Sh.one b c T)) w M∧Above w0 (Go.Sh.one b c T):=
 ⟨S.frzAt b,λk o ho=>by
  obtain⟨rfl,_⟩:=ho
  exact((S.permO h.h.symm).mine _ List.mem_cons_self k rfl).1.resolve_right id⟩
theorem xe{q:Gh}{b:Nat}{T:TypeId}{v:Value}[Le (Go.Sh.one b c T) q](h:c[i]? = some v):Ob q λw=>w.cell? ⟨b,i,none⟩=some v:=λw hw=>by
 have B:Blk w b c T:=xx w (hw.le (h:=inferInstance))
 show w.cell? ⟨b,i,none⟩=some v
 rw[B.cell];exact h
theorem aeX{q:Gh}{b1 b3:Nat}{D0:Nat→Prop}{w2:World}(B3:Ob q λw=>w.cell? ⟨b3,0,none⟩=some (.int .i64 0))(B1:Ob q λw=>w.cell? ⟨b1,1,none⟩=some (.slice p ws.length cap))
  (hw:SlG 1 q WdC (.slice p ws.length cap) ws) (hl:ws.length≤100000) (hT:TabG q) (hD:∀b,D0 b→∀o,¬q b o) (h2:Holds q w2):
  abt Tryz.prog (.func (.func Tryz.Xe) #[] #[.pointer (some ⟨b3,0,none⟩),.pointer (some ⟨b1,0,none⟩)]) w2 ((Zz ws).map JF) D0:=by
 refine⟨_,_,rfl,by kernel_rfl,λl W J Jx hW hlw hlt hJ hJx hround hJ0=>?_⟩
 generalize hxs:(Zz ws).map JF=xs at hround
 refine Calls.mono (Tryz.YJ (t0:=.func (.yield l) #[] #[]) (t1:=.pointer (some ⟨b3,0,none⟩)) (t2:=.pointer (some ⟨b1,0,none⟩)) (K:=λ_ W'=>(∃D,J xs.length D W')∨Jx W') ?_) (λe W' hh=>by obtain⟨v,he,hk⟩:=hh;exact⟨⟨v,he⟩,hk⟩)
 unfold Tryz.vh
 have hq:=h2.ext hW
 refine zh (B3 _ hq) ?_
 refine gp_ ?_
 refine c_f rfl ?_
 refine gg_ ?_
 refine zh (B1 _ hq) ?_
 refine gg_ ?_
 refine zk (ι:=Nat) (λi=>[.int .i64 i])
  (λi w'=>i≤ws.length∧Holds q w'∧∃k D,xs.drop k=(kI i (ws.drop i)).map JF∧k≤xs.length∧J k D w'∧∀b,D b→∀o,¬q b o)
  (λi=>ws.length-i) 0 rfl ⟨Nat.zero_le _,hq,0,D0,by rw[← hxs];rfl,Nat.zero_le _,hJ0,hD⟩ ?_
 rintro i d w7 ⟨hi,hq7,k,D,hdrop,hkl,hJk,hDk⟩ K8 hK8
 simp only[gdz]
 refine gp_ ?_
 refine zj (λhlt=>?_) (λhge=>?_)
 ·have hlt:i<ws.length:=by omega
  obtain⟨bw,ow,hpw,_,hcw⟩:=YI hw hlt
  subst hpw
  refine gg_ ?_
  refine zh (by rw[tnc];exact hcw _ hq7) ?_
  rw[abg hlt,List.map_append,List.map_map]at hdrop
  refine zk (ι:=BitVec 64) (λx=>[u64 x])
   (λx w'=>Holds q w'∧∃k D,xs.drop k=(vR x).map (JF ∘ (64*i + ·))++(kI (i+1) (ws.drop (i+1))).map JF∧k≤xs.length∧J k D w'∧∀b,D b→∀o,¬q b o)
   (λx=>(vR x).length) ws[i] rfl ⟨hq7,k,D,hdrop,hkl,hJk,hDk⟩ ?_
  clear hdrop hkl hJk hDk hq7 k D
  rintro x d w8 ⟨hq8,k,D,hdrop,hkl,hJk,hDk⟩ K9 hK9
  simp only[gdz]
  refine af9 ?_
  refine zj (λhx=>?_) (λhx=>?_)
  ·have hx:x≠0#64:=by rintro rfl;exact hx rfl
   obtain⟨t,ht,hlow,hwb⟩:=agQ hx
   refine gp_ ?_
   refine QD (hT.1 _ hq8) hx ht hlow ?_
   refine gp_ ?_
   refine ags ?_
   rw[hwb,List.map_cons,List.cons_append]at hdrop
   have hd:=afS hdrop
   have hkk:k<xs.length:=(List.getElem?_eq_some_iff.1 hd.1).1
   refine YieldC.mono (hround k _ D w8 hd.1 hJk) ?_
   rintro e w9 ⟨bb,rfl,x9,hJb⟩
   refine⟨_,rfl,?_⟩
   refine gp_ ?_
   refine c_b (λhbb=>?_) (λhbb=>?_)
   ·have hbb:bb=false:=by simpa using hbb
    subst hbb
    exact .inr hJb
   ·have hbb:bb=true:=by simpa using hbb
    subst hbb
    obtain⟨D2,hD2,hJ2⟩:=hJb
    refine gp_ ?_
    refine VJ ?_
    rw[abK]
    refine hK9 _ _ ⟨hq8.but x9 ?_,k+1,D2,hd.2,hkk,hJ2,?_⟩ (by rw[hwb];exact Nat.lt_succ_self _)
    ·rintro b o hb (hn|rfl)
     ·exact hDk b hn o hb
     ·have:=h2.lt hb;omega
    ·intro b hb o ho
     rcases hD2 b hb with h|⟨h,_⟩
     ·exact hDk b h o ho
     ·have:=hq8.lt ho;omega
  ·have hx:x=0#64:=BitVec.eq_of_toNat_eq (by have :(0#64).toNat=0:=rfl;omega)
   subst hx
   refine gg_ ?_
   rw[aea,List.map_nil,List.nil_append]at hdrop
   exact hK8 (i+1) w8 ⟨hlt,hq8,k,D,hdrop,hkl,hJk,hDk⟩ (by omega)
 ·have hi':i=ws.length:=by omega
  subst hi'
  rw[List.drop_length]at hdrop
  have :k=xs.length:=by
   have h1:(xs.drop k).length=0:=by rw[hdrop];rfl
   rw[List.length_drop]at h1;omega
  subst this
  exact .inl ⟨D,hJk⟩
theorem adc{K:Value→World→Prop}(hr:Holds r w)(hx:RwbC r c x)(hT:TabG r)
  (h:∀g s w',Ext w w'→New w s w'→kx s→(∀(D:Nat→Prop)(w2:World),(∀b,D b→∀o,¬(r.or s) b o)→Holds (r.or s) w2→abt Tryz.prog g w2 ((Y9 x.1 x.2).map JF) D)→K g w'):zd Tryz.prog Tryz.Z8 #[.agg c.toArray] w K:=by
 refine Tryz.acw ?_
 unfold Tryz.QZ
 have hx0:=hx
 obtain⟨W,ws⟩:=x
 simp only at h
 obtain⟨p,cap,rfl,hS⟩:=hx
 have S:=St.start hr
 refine S.box λb1 w1 S=>?_
 have S:StX noX w r w1 [.cell b1 [.int .i64 W,.slice p ws.length cap] 48]:=S
 refine S.ldB (b:=b1) ?_ rfl
 refine Vu S.holds hx0 (λhm w2 e2=>?_) (λhm v2 w2 e2 h2=>?_)
 ·have S:=S.go e2
  refine gS_ ?_
  refine S.al λb3 w3 S=>?_
  refine S.stB (b:=b1) λw4 S=>?_
  refine S.st (b:=b3) λw5 S=>?_
  refine gp_ ?_
  have S:StX noX w r w5 [.cell b3 [.int .i64 2] 29,.cell b1 [.int .i64 0,.slice none 0 0] 48]:=S
  obtain⟨S,a3⟩:=StX.frzNew S b3
  rw[aeW hm]at h
  refine h _ _ _ S.ext (S.newOf a3) inferInstance λD w6 hD h6=>⟨_,_,rfl,by kernel_rfl,λl W1 J Jx hW hl hlt hJ hJx hround hJ0=>?_⟩
  refine Calls.mono (Tryz.YJ (t0:=.func (.yield l) #[] #[]) (t1:=.pointer (some ⟨b3,0,none⟩)) (t2:=.pointer (some ⟨b1,0,none⟩)) (K:=λ_ W'=>(∃D,J 0 D W')∨Jx W') ?_) (λe W' hh=>by obtain⟨v,he,hk⟩:=hh;exact⟨⟨v,he⟩,hk⟩)
  unfold Tryz.vh
  refine zh (xe (q:=r.or (Go.Sh.one b3 [.int .i64 2] 29)) (c:=[.int .i64 2]) (T:=29) (v:=.int .i64 2) rfl _ (h6.ext hW)) ?_
  refine gp_ ?_
  exact c_t rfl (.inl ⟨D,hJ0⟩)
 ·have S:=S.take e2 h2
  simp only at S
  have hM:BM.May W ws:=jX hm
  have hl:ws.length≤100000:=by have:=hM.2.1;have:=hM.2.2.1;omega
  obtain⟨p2,cap2,rfl,_⟩:=S.rowS v2
  refine gS_ ?_
  refine S.al λb3 w3 S=>?_
  refine S.stB (b:=b1) λw4 S=>?_
  refine S.st (b:=b3) λw5 S=>?_
  refine gp_ ?_
  have S:StX noX w r w5 [.cell b3 [.int .i64 0] 29,.row (.slice p2 ws.length cap2) 205 1 ws.length (wcs ws),.cell b1 [.int .i64 W,.slice p2 ws.length cap2] 48]:=S
  obtain⟨S,a3⟩:=StX.frzNew S b3
  obtain⟨s2,S,hw,hnb,a2⟩:=S.doneRow (l:=ws) aaU (by decide) rfl
  obtain⟨S,a1⟩:=StX.frzNew S b1
  have a2:Above w s2:=λb o ho=>(a2 b o ho).resolve_right id
  have nb2:kx s2:=⟨λb o ho=>by obtain⟨c,rfl⟩:=hnb b o ho;rfl⟩
  have S:StX noX w (r.or (((Go.Sh.one b3 [.int .i64 0] 29).or s2).or (Go.Sh.one b1 [.int .i64 W,.slice p2 ws.length cap2] 48))) w5 []:=S.less (by
   rintro b o (h|(h|h)|h)
   ·exact .inl (.inl (.inl h))
   ·exact .inl (.inl (.inr h))
   ·exact .inl (.inr h)
   ·exact .inr h) (List.Sublist.refl _)
  rw[aaV hM]at h
  refine h _ _ _ S.ext (S.newOf ((a3.or' a2).or' a1)) inferInstance λD w6 hD h6=>?_
  exact aeX (xe (c:=[.int .i64 0]) (T:=29) rfl) (xe (c:=[.int .i64 W,.slice p2 ws.length cap2]) (T:=48) rfl) hw.cells hl hT.up hD h6
def lackL(W:Int)(ws vs:List (BitVec 64)):List Nat:=(List.range W.toNat).filter λk=>bit vs k && !bit ws k
theorem aeY{vs:List (BitVec 64)}(h:BM.May W ws)(h':BM.May W vs):Y9 W (List.zipWith (λx y=>x &&& ~~~ y) vs ws)=lackL W ws vs:=by
 have hl:vs.length=ws.length:=by have:=h.2.2.1;have:=h'.2.2.1;omega
 have hz:(0:BitVec 64) &&& ~~~ 0=0:=by decide
 have hm:=agR (g:=λx y=>x &&& ~~~ y) (h:=λa b=>a && !b) acs hz rfl h' h
 rw[aaV hm,aeb hm,lackL]
 apply List.filter_congr
 intro k _
 exact adx (h:=λa b=>a && !b) acs hz hl k
def acB(l:List Nat):Value:=.tuple #[.int .i64 ((l.headD 0:Nat):Int),.bool (!l.isEmpty),.int .i64 0]
theorem afT{P:Program}{s:Sem Value}(h:opQ P w s λv=>K v w):opW P w s λv w'=>NC w w'∧K v w':=w_q (by
 obtain⟨v,h1,h2⟩:=h
 exact⟨v,h1,NC.of_ext (Ext.refl w),h2⟩)
theorem acC{K:Value→World→Prop}(hr:Holds r w)(hx:RwbC r cx x)(hy:RwbC r cy y)(hT:TabG r)
  (h1:¬(BM.mayB x.1 x.2=true∧BM.mayB y.1 y.2=true∧x.1=y.1)→∀w',Ext w w'→K (.tuple #[.int .i64 0,.bool false,.int .i64 2]) w')
  (h2:BM.mayB x.1 x.2=true→BM.mayB y.1 y.2=true→x.1=y.1→∀w',Ext w w'→K (acB (lackL x.1 x.2 y.2)) w'):zd Tryz.prog Tryz.Zd #[.agg cx.toArray,.agg cy.toArray] w K:=by
 refine Tryz.abi ?_
 unfold Tryz.X8
 have hx0:=hx;have hy0:=hy
 obtain⟨p,cap,rfl,hS⟩:=hx
 obtain⟨q,caq,rfl,hQ⟩:=hy
 have S:=St.start hr
 have hlow:=S.low
 refine S.boxN λb2 w1 _ S=>?_
 refine S.boxN λb3 w2 _ S=>?_
 refine S.alN λb4 w3 _ S=>?_
 refine S.alN λb5 w4 _ S=>?_
 refine S.alN λb6 w5 _ S=>?_
 have S:StX noX w r w5 [.cell b6 [.int .i64 0] 29,.cell b5 [.bool false] 4,.cell b4 [.int .i64 0] 3,.cell b3 [.int .i64 y.1,.slice q y.2.length caq] 48,.cell b2 [.int .i64 x.1,.slice p x.2.length cap] 48]:=S
 refine S.ldB (b:=b3) ?_ rfl
 refine S.ldB (b:=b2) ?_ rfl
 refine adb S.holds hy0 hx0 (λhn w6 e6=>⟨NC.of_ext e6,?_⟩) λhmy hmx he c6 s6 w6 e6 n6 nb6 h6=>⟨NC.of_ext e6,?_⟩
 ·have S:=S.go e6
  refine gS_ ?_
  refine S.alN λb7 w7 _ S=>?_
  refine S.stBN (b:=b7) λw8 S=>?_
  refine S.stN' (b:=b6) λw9 S=>?_
  refine S.ld (b:=b6) ?_
  refine gp_ ?_
  refine c_t rfl ?_
  have S:=S.go (Ext.drew _)
  have fin:∀W,StX noX w r W [.cell b7 [.int .i64 0,.slice none 0 0] 48,.cell b6 [.int .i64 2] 29,.cell b5 [.bool false] 4,.cell b4 [.int .i64 0] 3,.cell b3 [.int .i64 y.1,.slice q y.2.length caq] 48,.cell b2 [.int .i64 x.1,.slice p x.2.length cap] 48]→
    ∀W',Shuts w.heap.size W W'→opQ Tryz.prog W' (ze 3 (.pointer (some ⟨b4,0,none⟩))) λr15=>opQ Tryz.prog W' (ze 4 (.pointer (some ⟨b5,0,none⟩))) λr16=>opQ Tryz.prog W' (ze 29 (.pointer (some ⟨b6,0,none⟩))) λr17=>K (.tuple #[r15,r16,r17]) W':=λW S W' e=>by
   have S:=S.shut e
   refine S.ce (b:=b4) ?_
   refine S.ce (b:=b5) ?_
   refine S.ce (b:=b6) ?_
   exact h1 (λhh=>hn ⟨hh.2.1,hh.1,hh.2.2.symm⟩) _ S.ext
  refine⟨?_,?_⟩
  ·refine afT (S.ld (b:=b6) ?_)
   refine S.stN' (b:=b4) λw11 S=>?_
   refine S.stN' (b:=b5) λw12 S=>?_
   refine S.stN' (b:=b6) λw13 S=>?_
   exact fin _ S
  ·refine S.stN' (b:=b4) λw18 S=>?_
   refine⟨?_,?_⟩
   ·refine afT (S.ld (b:=b6) ?_)
    refine S.stN' (b:=b5) λw12 S=>?_
    refine S.stN' (b:=b6) λw13 S=>?_
    exact fin _ S
   ·refine S.stN' (b:=b5) λw12 S=>?_
    refine afT (S.ld (b:=b6) ?_)
    refine S.stN' (b:=b6) λw13 S=>?_
    exact fin _ S
 ·obtain⟨S,_,_⟩:=S.tell e6 n6
  have h6':=h6
  obtain⟨p6,cap6,rfl,h6S⟩:=h6
  refine gS_ ?_
  refine S.alN λb7 w7 _ S=>?_
  refine S.stBN (b:=b7) λw8 S=>?_
  refine S.stN' (b:=b6) λw9 S=>?_
  refine S.ld (b:=b6) ?_
  refine gp_ ?_
  refine c_f rfl ?_
  refine S.ldB (b:=b7) ?_ rfl
  refine adc S.holds (RwbC.up h6') hT.up λg s w10 e10 n10 nb10 hI=>⟨NC.of_ext e10,?_⟩
  obtain⟨S,_,_⟩:=S.tell e10 n10
  have S:StX noX w ((r.or s6).or s) w10 [.cell b6 [.int .i64 0] 29,.cell b5 [.bool false] 4,.cell b4 [.int .i64 0] 3]:=S.less (λ_ _ h=>h) (.cons _ (.cons_cons _ (.cons_cons _ (.cons_cons _ (List.nil_sublist _)))))
  have hE:Y9 y.1 (List.zipWith (λx y=>x &&& ~~~ y) y.2 x.2)=lackL x.1 x.2 y.2:=by
   rw[he];exact aeY (jX hmx) (he▸jX hmy)
  simp only at hI
  rw[hE]at hI
  have hk:=h2 hmx hmy he.symm
  generalize lackL x.1 x.2 y.2=l at hI hk
  have hw10:=S.x.size
  have hlow':Low w.heap.size ((r.or s6).or s):=inferInstance
  have hlow10:=S.low
  have fin:∀(k:Int)(is:Bool),acB l=.tuple #[.int .i64 k,.bool is,.int .i64 0]→∀W,StX noX w ((r.or s6).or s) W [.cell b6 [.int .i64 0] 29,.cell b5 [.bool is] 4,.cell b4 [.int .i64 k] 3]→
    ∀W',Shuts w.heap.size W W'→opQ Tryz.prog W' (ze 3 (.pointer (some ⟨b4,0,none⟩))) λr15=>opQ Tryz.prog W' (ze 4 (.pointer (some ⟨b5,0,none⟩))) λr16=>opQ Tryz.prog W' (ze 29 (.pointer (some ⟨b6,0,none⟩))) λr17=>K (.tuple #[r15,r16,r17]) W':=λk is hv W S W' e=>by
   have S:=S.shut e
   refine S.ce (b:=b4) ?_
   refine S.ce (b:=b5) ?_
   refine S.ce (b:=b6) ?_
   have:=hk _ S.ext
   rwa[hv]at this
  refine agw (l.map JF) (XG [.cell b6 [.int .i64 0] 29,.cell b5 [.bool false] 4,.cell b4 [.int .i64 0] 3])
   (λW=>StX noX w ((r.or s6).or s) W [.cell b6 [.int .i64 0] 29,.cell b5 [.bool false] 4,.cell b4 [.int .i64 0] 3])
   (λW=>StX noX w ((r.or s6).or s) W [.cell b6 [.int .i64 0] 29,.cell b5 [.bool true] 4,.cell b4 [.int .i64 ((l.headD 0:Nat):Int)] 3])
   (afi S) (hI _ _ (λb hb o ho=>?_) S.holds) ?_ ?_ ?_ S ?_ ?_ ?_
  ·obtain⟨x,hx,hd⟩:=vY.1 hb
   exact(S.mine x hx b hd).2 o ho
  ·intro y hy
   obtain⟨z,_,rfl⟩:=List.mem_map.1 hy
   rfl
  ·intro W W' S e;exact S.nl e hw10
  ·intro W W' S e;exact S.nl e hw10
  ·rintro x36 r36 W hxs S KR hKR
   refine⟨.refl _,λW9 e9=>?_⟩
   have S:=S.nl e9 hw10
   cases l with
   |nil=>cases hxs
   |cons k l=>
    cases hxs
    simp only[gdz]
    have R:=S.part
    refine R.stN' (b:=b4) λw10 R=>?_
    refine R.stN' (b:=b5) λw11 R=>?_
    refine R.stN' (b:=b6) λw12 R=>?_
    have S2:=S.whole R λ_ h=>h
    exact⟨R.x,hKR _ S2⟩
  ·intro hxs W S
   have hl:l=[]:=List.map_eq_nil_iff.1 hxs
   subst hl
   refine S.stN' (b:=b4) λw11 S=>?_
   refine S.stN' (b:=b5) λw12 S=>?_
   refine S.stN' (b:=b6) λw13 S=>?_
   exact fin 0 false rfl _ S
  ·intro x36 r36 hxs W S
   cases l with
   |nil=>cases hxs
   |cons k l=>exact fin k true rfl _ S
end Go.Proofs
end
section
namespace Go.Proofs.Tryz
open Go.Sh
variable {t0 t1 t2 t3:Value} {w:World} {K:VW}
def Z1(t0 t1:Value)(w:World)(K:VW):Prop:=
 pw w (Instr.box 43 t0) λt2 w1=>
 pw w1 (Instr.box 43 t1) λt3 w2=>
 lo w2 43 t2 λt12=>ca qc #[t12] w2 λt13 w3=>
 pe t13 0 λt14=>pe t13 1 λt15=>pw w3 (Instr.alloc 43 true (.tuple #[])) λt6 w4=>
 so w4 43 t6 t14 λw5=>lo w5 43 t3 λt17=>ca qc #[t17] w5 λt18 w6=>
 pe t18 0 λt19=>pe t18 1 λt20=>pw w6 (Instr.alloc 43 true (.tuple #[])) λt8 w7=>
 so w7 43 t8 t19 λw8=>bt .neq 29 t15 (i6 0) λt22=>za (λK9=>gIf t22 false (bt .neq 29 t20 (i6 0) λt25=>K9 [t25] w8) (K9 [u_] w8)) (λs10 _d11 w12=>
 zb t22 tr_ (s10.getD 0 u_) λt26=>zc t26 (K (.tuple #[(Value.slice Option.none 0 0),(i6 2)]) w12) (lo w12 43 t2 λt27=>lo w12 43 t3 λt28=>ca yC #[t27,t28] w12 λt29 w13=>
 pp (Op.unary .not t29) λt30=>zc t30 (K (.tuple #[(Value.slice Option.none 0 0),(i6 150)]) w13) (pw w13 (Instr.alloc 28 true (.tuple #[])) λt10 w14=>
 lo w14.drew 43 t2 λt31=>lo w14.drew 43 t3 λt32=>ca xA #[t10] w14.drew λt33 w15=>
 Ext w14.drew w15∧
 ca ye #[t31,t32,fa_,t33] w15 λ_t34 w16=>
 lo w16 28 t10 λt35=>K (.tuple #[t35,(i6 0)]) w16)))
theorem JG(h:Z1 t0 t1 w K):zd prog km #[t0,t1] w K:=
 okC false (.s (.r (rz 4 0 10)) (.s (.r (rz 8 0 10249)) (.s (.r (rz 8 0 10249)) (.s (.s (.r (ra 3 0 0 (.grp 23 false (ri 2 3 0) [25] (rz 1 5 0)))) (.c (.s (.r (rz 2 0 0)) (.n)) (.n))) (.s (.s (.r (rz 4 0 37)) (.c (.s (.r (rz 2 0 0)) (.n)) (.n))) (.s (.r (rz 1 0 2)) (.s (.r (rz 4 0 181)) (.s (.r (rz 3 0 1)) (.n))))))))) func19 rfl (by kernel_rfl) (by kernel_rfl) h
def YK(t0 t1 t2 t3:Value)(w:World)(K:VW):Prop:=
 pw w (Instr.box 43 t0) λt4 w1=>
 pw w1 (Instr.box 43 t1) λt5 w2=>
 za (λK3=>
 fl w2 t4 43 0 40 λt9=>bt .eql 40 t9 (Value.int .u8 4) λt10=>zc t10 (fl w2 t4 43 2 3 λt13=>fl w2 t5 43 2 3 λt15=>cv t3 #[t13,t15] w2 λ_t16 w7=>
 zc t2 (fl w7 t5 43 2 3 λt20=>fl w7 t4 43 2 3 λt22=>cv t3 #[t20,t22] w7 λ_t23 w8=>
 K3 [] w8) (K3 [] w7)) (K3 [] w2)) (λ_s4 _d5 w6=>
 fl w6 t4 43 4 41 λt25=>pp (Builtin.len_ #[41] 3 #[t25]) λt26=>bt .gtr 3 t26 (i6 0) λt27=>zc t27 (fl w6.drew t4 43 4 41 λt29=>xl w6.drew 41 t29 (i6 0) 43 λt31=>fl w6.drew t5 43 4 41 λt33=>xl w6.drew 41 t33 (i6 0) 43 λt35=>za (λK9=>gIf t2 false (fl w6.drew t4 43 1 4 λt39=>K9 [t39] w6.drew) (K9 [u_] w6.drew)) (λs10 _d11 w12=>
 zb t2 tr_ (s10.getD 0 u_) λt40=>ca ye #[t31,t35,t40,t3] w12 λ_t42 w13=>
 K (.tuple #[]) w13)) (K (.tuple #[]) w6))
theorem Vv(h:YK t0 t1 t2 t3 w K):zd prog ye #[t0,t1,t2,t3] w K:=
 okC false (.s (.r (rz 2 0 10)) (.j [] (.s (.r (rz 3 0 4)) (.c (.s (.r (rz 6 0 2320)) (.s (.r (rz 1 0 0)) (.c (.r (rz 6 0 2320)) (.n)))) (.n))) (.s (.r (rz 4 0 4)) (.c (.r (ra 10 0 17476 (ra 1 13 0 (.grp 37 false (ri 2 10 4) [39] (ra 1 12 0 (rz 1 14 2)))))) (.n))))) func57 rfl (by kernel_rfl) (by kernel_rfl) h
def YL(t0:Value)(w:World)(K:VW):Prop:=
 pw w (Instr.box 126 t0) λt1 w1=>
 pp (Instr.makeFunc (.func 111) #[] #[t1]) λt3=>K t3 w1
theorem Vw(h:YL t0 w K):zd prog xA #[t0] w K:=
 okC false (.s (.r (rz 2 0 2)) (.s (.r (rz 2 0 0)) (.n))) func50 rfl (by kernel_rfl) (by kernel_rfl) h
def ZA(t0 t1 t2:Value)(w:World)(K:VW):Prop:=
 lo w.drew 126 t2 λt6=>jq t6 λt7=>lo w.drew 28 t7 λt8=>pp (Instr.build 36 #[(0,t0),(1,t1)]) λt11=>((pw w.drew (Instr.loadAt 126 t2) λt5 w1=>
 Ext w.drew w1∧
 pw w1 (Instr.buildSlice 28 1 #[(0,t11)]) λt12 w2=>
 Ext w1 w2∧
 pw w2 (Builtin.append_ #[28,28] 28 #[t8,t12]) λt13 w3=>
 jq t5 λt14=>so w3 28 t14 t13 λw4=>K (.tuple #[]) w4)∧
 (pw w.drew (Instr.buildSlice 28 1 #[(0,t11)]) λt12_6 w5=>
 Ext w.drew w5∧
 ((pw w5 (Instr.loadAt 126 t2) λt5_8 w7=>
 Ext w5 w7∧
 pw w7 (Builtin.append_ #[28,28] 28 #[t8,t12_6]) λt13_10 w9=>
 jq t5_8 λt14_11=>so w9 28 t14_11 t13_10 λw12=>K (.tuple #[]) w12)∧
 (pw w5 (Builtin.append_ #[28,28] 28 #[t8,t12_6]) λt13_14 w13=>
 pw w13 (Instr.loadAt 126 t2) λt5_16 w15=>
 Ext w13 w15∧
 jq t5_16 λt14_17=>so w15 28 t14_17 t13_14 λw18=>K (.tuple #[]) w18))))
theorem QE(h:ZA t0 t1 t2 w K):zd prog ya #[t0,t1,t2] w K:=
 okC false (.r (ra 6 1 17 (.alt 0 .u (rz 4 7 139) (ra 1 7 3 (.alt 0 .u (rz 3 8 34) (ra 1 8 2 (ra 1 0 3 (rz 2 9 8)))))))) func111 rfl (by kernel_rfl) (by kernel_rfl) h
def Z2(t0 t1 t2 t3 t4:Value)(w:World)(K:VW):Prop:=
 pw w (Instr.box 25 t0) λt5 w1=>
 pw w1 (Instr.box 74 t1) λt6 w2=>
 pw w2 (Instr.box 96 t2) λt7 w3=>
 pw w3 (Instr.box 3 t3) λt8 w4=>
 pw w4 (Instr.box 124 t4) λt9 w5=>
 pp (Instr.makeFunc (.func 112) #[] #[t5,t6]) λt21=>pw w5 (Instr.alloc 190 true (.tuple #[])) λt10 w6=>
 so w6 190 t10 t21 λw7=>pp (Instr.makeFunc (.func 114) #[] #[t10,t9]) λt22=>fl w7 t7 96 0 90 λt24=>bt .eql 90 t24 (Value.int .u8 1) λt26=>zc t26 (fl w7.drew t7 96 2 93 λt29=>lo w7.drew 190 t10 λt30=>fl w7.drew t7 96 1 80 λt32=>cv t30 #[t32] w7.drew λt33 w8=>
 Ext w7.drew w8∧
 cv t22 #[t29,t33] w8 λ_t34 w9=>
 K (.tuple #[]) w9) (bt .eql 90 t24 (Value.int .u8 5) λt36=>zc t36 (fl w7.drew t7 96 2 93 λt39=>lo w7.drew 190 t10 λt40=>fl w7.drew t7 96 1 80 λt42=>cv t40 #[t42] w7.drew λt43 w10=>
 Ext w7.drew w10∧
 pp (Instr.field 43 t43 4) λt44=>xl w10 41 t44 (i6 0) 43 λt46=>cv t22 #[t39,t46] w10 λ_t47 w11=>
 K (.tuple #[]) w11) (bt .eql 90 t24 (Value.int .u8 4) λt49=>zc t49 (lo w7 190 t10 λt50=>fl w7 t7 96 6 80 λt52=>cv t50 #[t52] w7 λt53 w12=>
 pw w12 (Instr.alloc 43 true (.tuple #[])) λt12 w13=>
 so w13 43 t12 t53 λw14=>za (λK15=>
 fl w14.drew t7 96 7 4 λt55=>fl w14.drew t6 74 4 55 λt57=>lo w14.drew 3 t8 λt58=>xl w14.drew 55 t57 t58 3 λt60=>lo w14.drew 43 t12 λt61=>lo w14.drew 190 t10 λt64=>fl w14.drew t7 96 1 80 λt66=>lo w14.drew 124 t9 λt68=>((pw w14.drew (Instr.buildSlice 41 1 #[(0,t61)]) λt62 w19=>
 Ext w14.drew w19∧
 pp (Instr.build 43 #[(0,(Value.int .u8 4)),(1,t55),(2,t60),(4,t62)]) λt63=>cv t64 #[t66] w19 λt67 w20=>
 Ext w19 w20∧
 ca ye #[t63,t67,fa_,t68] w20 λ_t69 w21=>
 K15 [] w21)∧
 (cv t64 #[t66] w14.drew λt67_23 w22=>
 Ext w14.drew w22∧
 pw w22 (Instr.buildSlice 41 1 #[(0,t61)]) λt62_25 w24=>
 Ext w22 w24∧
 pp (Instr.build 43 #[(0,(Value.int .u8 4)),(1,t55),(2,t60),(4,t62_25)]) λt63_26=>ca ye #[t63_26,t67_23,fa_,t68] w24 λ_t69_28 w27=>
 K15 [] w27))) (λ_s16 _d17 w18=>
 pf 96 t7 6 λt70=>fl w18 t70 80 1 78 λt72=>pp (Builtin.len_ #[78] 3 #[t72]) λt73=>bt .sub 3 t73 (i6 1) λt74=>zx [t74] w18 (λs30 _d31 w32 K29=>
 bt .geq 3 (s30.getD 0 u_) (i6 0) λt76=>zc t76 (za (λK33=>
 za (λK37=>
 lo w32.drew 190 t10 λt79=>pf 96 t7 6 λt80=>fl w32.drew t80 80 0 3 λt82=>pf 96 t7 6 λt83=>fl w32.drew t83 80 1 78 λt85=>pp (Instr.sliceAt 78 t85 none (some (s30.getD 0 u_)) (some (s30.getD 0 u_))) λt88=>pp (Instr.build 80 #[(0,t82),(1,t88)]) λt89=>((cv t79 #[t89] w32.drew λt90 w41=>
 pw w41 (Instr.alloc 43 true (.tuple #[])) λt14 w42=>
 Ext w41 w42∧
 so w42 43 t14 t90 λw43=>K37 [t14] w43)∧
 (pw w32.drew (Instr.alloc 43 true (.tuple #[])) λt14_45 w44=>
 Ext w32.drew w44∧
 cv t79 #[t89] w44 λt90_47 w46=>
 so w46 43 t14_45 t90_47 λw48=>K37 [t14_45] w48))) (λs38 _d39 w40=>
 fl w40 (s38.getD 0 u_) 43 0 40 λt92=>bt .neq 40 t92 (Value.int .u8 4) λt93=>zc t93 (K33 [] w40) (lo w40.drew 124 t9 λt94=>fl w40.drew (s38.getD 0 u_) 43 2 3 λt96=>fl w40.drew t6 74 4 55 λt98=>lo w40.drew 3 t8 λt99=>xl w40.drew 55 t98 t99 3 λt101=>cv t94 #[t96,t101] w40.drew λ_t102 w49=>
 fl w49 (s38.getD 0 u_) 43 1 4 λt104=>pp (Op.unary .not t104) λt105=>zc t105 (K (.tuple #[]) w49) (K33 [] w49)))) (λ_s34 _d35 w36=>
 bt .sub 3 (s30.getD 0 u_) (i6 1) λt78=>K29 [t78] w36)) (K (.tuple #[]) w32)))) (bt .eql 90 t24 (Value.int .u8 7) λt107=>zc t107 (fl w7 t5 25 1 23 λt109=>fl w7 t7 96 8 3 λt111=>xl w7 23 t109 t111 101 λt113=>pw w7 (Instr.alloc 101 true (.tuple #[])) λt15 w50=>
 so w50 101 t15 t113 λw51=>pp (Instr.makeFunc (.func 115) #[] #[t6,t8]) λt114=>fl w51 t7 96 4 94 λt116=>pp (Builtin.len_ #[94] 3 #[t116]) λt117=>zx [(i6 0)] w51 (λs53 _d54 w55 K52=>
 bf .lss 3 (s53.getD 0 u_) t117 λt119=>zc t119 (xl w55 94 t116 (s53.getD 0 u_) 93 λt122=>pw w55 (Instr.alloc 93 true (.tuple #[])) λt18 w56=>
 so w56 93 t18 t122 λw57=>lo w57.drew 93 t18 λt124=>fl w57.drew t15 101 4 41 λt127=>bt .add 3 (s53.getD 0 u_) (i6 1) λt129=>xl w57.drew 41 t127 t129 43 λt131=>cv t114 #[t131] w57.drew λt132 w58=>
 Ext w57.drew w58∧
 cv t22 #[t124,t132] w58 λ_t133 w59=>
 bt .add 3 (s53.getD 0 u_) (i6 1) λt134=>K52 [t134] w59) (fl w55.drew t15 101 4 41 λt137=>xl w55.drew 41 t137 (i6 0) 43 λt139=>lo w55.drew 190 t10 λt141=>fl w55.drew t7 96 1 80 λt143=>lo w55.drew 124 t9 λt145=>cv t114 #[t139] w55.drew λt140 w60=>
 Ext w55.drew w60∧
 cv t141 #[t143] w60 λt144 w61=>
 Ext w60 w61∧
 ca ye #[t140,t144,fa_,t145] w61 λ_t146 w62=>
 fl w62 t15 101 2 97 λt148=>pp (Builtin.len_ #[97] 3 #[t148]) λt149=>zx [(i6 0)] w62 (λs64 _d65 w66 K63=>
 bf .lss 3 (s64.getD 0 u_) t149 λt151=>zc t151 (xl w66 97 t148 (s64.getD 0 u_) 194 λt153=>pw w66 (Instr.alloc 194 true (.tuple #[])) λt20 w67=>
 so w67 194 t20 t153 λw68=>lo w68.drew 124 t9 λt154=>fl w68.drew t6 74 4 55 λt156=>lo w68.drew 3 t8 λt157=>xl w68.drew 55 t156 t157 3 λt159=>fl w68.drew t20 194 0 3 λt161=>bf .add 3 t159 t161 λt162=>fl w68.drew t6 74 4 55 λt164=>lo w68.drew 3 t8 λt165=>xl w68.drew 55 t164 t165 3 λt167=>fl w68.drew t20 194 1 3 λt169=>bf .add 3 t167 t169 λt170=>cv t154 #[t162,t170] w68.drew λ_t171 w69=>
 bt .add 3 (s64.getD 0 u_) (i6 1) λt172=>K63 [t172] w69) (K (.tuple #[]) w66))))) (K (.tuple #[]) w7))))
theorem JH{t4:Value}(h:Z2 t0 t1 t2 t3 t4 w K):zd prog ko #[t0,t1,t2,t3,t4] w K:=
 okC false (.s (.r (rz 5 0 682)) (.s (.r (rz 3 0 40)) (.s (.r (rz 2 0 0)) (.s (.r (rz 2 0 4)) (.b (.s (.r (rz 2 0 0)) (.c (.r (rz 8 0 46160)) (.s (.r (rz 2 0 0)) (.c (.r (rz 11 0 2372688)) (.s (.r (rz 2 0 0)) (.c (.s (.r (rz 6 0 2705)) (.j [] (.r (ra 8 0 20804 (ra 3 10 17 (ra 1 14 1 (.alt 8 .u (ra 1 9 0 (ra 1 13 3 (rz 1 15 2))) (ra 1 13 3 (ra 2 8 3 (rz 1 15 2)))))))) (.s (.r (rz 6 0 16)) (.b (.lp [13] (.s (.s (.r (rz 2 0 0)) (.c (.n) (.n))) (.j [] (.b (.j [14] (.r (ra 11 0 4161 (.alt 11 .l (rz 2 12 11) (ra 1 12 3 (ra 1 11 2 (rz 1 13 2)))))) (.s (.s (.r (rz 3 0 4)) (.c (.n) (.n))) (.s (.r (rz 9 0 148753)) (.s (.r (rz 3 0 4)) (.c (.n) (.n))))))) (.r (rz 3 0 0))))))))) (.s (.r (rz 2 0 0)) (.c (.s (.r (rz 8 0 42052)) (.s (.r (rz 2 0 0)) (.s (.s (.r (rz 4 0 4)) (.b (.lp [118] (.s (.r (rz 1 0 0)) (.s (.c (.n) (.n)) (.s (.b (.s (.r (rz 6 0 2192)) (.r (rz 11 0 2949380)))) (.r (rz 2 0 0)))))))) (.s (.r (ra 5 0 272 (ra 3 6 17 (ra 1 10 1 (ra 1 5 3 (ra 1 9 3 (rz 1 11 2))))))) (.s (.r (rz 4 0 4)) (.b (.lp [150] (.s (.r (rz 1 0 0)) (.s (.c (.n) (.n)) (.s (.b (.s (.r (rz 4 0 164)) (.r (rz 18 0 35505849425)))) (.r (rz 2 0 0)))))))))))) (.n)))))))))))))) func51 rfl (by kernel_rfl) (by kernel_rfl) h
def vA(t0 t1 t2:Value)(w:World)(K:VW):Prop:=
 pw w (Instr.box 80 t0) λt3 w1=>
 pw w1 (Instr.alloc 43 true (.tuple #[])) λt4 w2=>
 za (λK3=>
 fl w2.drew t1 25 0 22 λt9=>fl w2.drew t2 74 3 41 λt11=>fl w2.drew t3 80 0 3 λt13=>fl w2.drew t3 80 0 3 λt15=>bt .add 3 t15 (i6 1) λt16=>pp (Instr.sliceAt 41 t11 (some t13) (some t16) none) λt17=>fl w2.drew t3 80 1 78 λt19=>pp (Instr.build 80 #[(1,t19)]) λt20=>((ca qY #[t9,t17,t20] w2.drew λt21 w7=>
 pe t21 0 λt22=>pe t21 1 λ_t23=>pw w7 (Instr.alloc 43 true (.tuple #[])) λt5 w8=>
 Ext w7 w8∧
 so w8 43 t5 t22 λw9=>K3 [t5] w9)∧
 (pw w2.drew (Instr.alloc 43 true (.tuple #[])) λt5_11 w10=>
 Ext w2.drew w10∧
 ca qY #[t9,t17,t20] w10 λt21_13 w12=>
 pe t21_13 0 λt22_14=>pe t21_13 1 λ_t23_15=>so w12 43 t5_11 t22_14 λw16=>K3 [t5_11] w16))) (λs4 _d5 w6=>
 lo w6 43 (s4.getD 0 u_) λt24=>so w6 43 t4 t24 λw17=>pq w17 (ze 43 t4) λr18=>K r18 w17)
theorem X9(h:vA t0 t1 t2 w K):zd prog vv #[t0,t1,t2] w K:=
 okC false (.s (.r (rz 2 0 10)) (.j [5] (.r (ra 13 0 4211780 (.alt 13 .l (rz 6 14 704) (ra 1 17 3 (ra 4 13 2 (rz 2 18 2)))))) (.s (.r (rz 2 0 9)) (.n)))) func112 rfl (by kernel_rfl) (by kernel_rfl) h
def vB(t0 t1 t2 t3:Value)(w:World)(K:VW):Prop:=
 pw w (Instr.box 93 t0) λt4 w1=>
 pw w1 (Instr.box 43 t1) λt5 w2=>
 fl w2 t4 93 0 91 λt7=>bt .eql 91 t7 (Value.int .u8 3) λt8=>za (λK3=>gIf t8 false (fl w2 t4 93 0 91 λt11=>bt .eql 91 t11 (Value.int .u8 4) λt12=>K3 [t12] w2) (K3 [u_] w2)) (λs4 _d5 w6=>
 zb t8 tr_ (s4.getD 0 u_) λt13=>zc t13 (lo w6.drew 190 t2 λt14=>fl w6.drew t4 93 2 80 λt16=>lo w6.drew 43 t5 λt18=>lo w6.drew 124 t3 λt19=>cv t14 #[t16] w6.drew λt17 w7=>
 Ext w6.drew w7∧
 ca ye #[t17,t18,fa_,t19] w7 λ_t20 w8=>
 K (.tuple #[]) w8) (K (.tuple #[]) w6))
theorem Qa(h:vB t0 t1 t2 t3 w K):zd prog k6 #[t0,t1,t2,t3] w K:=
 okC false (.s (.r (rz 2 0 10)) (.s (.r (ra 4 0 4 (.grp 9 false (ri 3 4 4) [12] (rz 1 7 0)))) (.c (.r (ra 3 0 17 (ra 2 4 5 (ra 1 3 3 (rz 1 6 2))))) (.n)))) func114 rfl (by kernel_rfl) (by kernel_rfl) h
def vC(t0 t1 t2:Value)(w:World)(K:VW):Prop:=
 pw w (Instr.box 43 t0) λt3 w1=>
 pw w1 (Instr.alloc 43 true (.tuple #[])) λt4 w2=>
 lo w2 43 t3 λt7=>ca yA #[t7] w2 λt8 w3=>
 pp (Builtin.len_ #[55] 3 #[t8]) λt10=>zx [(i6 0)] w3 (λs5 _d6 w7 K4=>
 bf .lss 3 (s5.getD 0 u_) t10 λt12=>zc t12 (xl w7.drew 55 t8 (s5.getD 0 u_) 3 λt17=>fl w7.drew t1 74 4 55 λt19=>lo w7.drew 3 t2 λt20=>xl w7.drew 55 t19 t20 3 λt22=>pp (Builtin.max_ #[3,3] 3 #[t22,(i6 0)]) λt23=>bf .add 3 t17 t23 λt24=>px 55 t8 (s5.getD 0 u_) λt25=>so w7.drew 3 t25 t24 λw8=>bt .add 3 (s5.getD 0 u_) (i6 1) λt26=>K4 [t26] w8) (lo w7 43 t3 λt28=>ca qV #[t28,t8] w7 λt30 w9=>
 pe t30 0 λt31=>pe t30 1 λ_t32=>so w9 43 t3 t31 λw10=>lo w10 43 t3 λt33=>so w10 43 t4 t33 λw11=>pq w11 (ze 43 t4) λr12=>K r12 w11))
theorem Qb(h:vC t0 t1 t2 w K):zd prog k7 #[t0,t1,t2] w K:=
 okC false (.s (.r (rz 2 0 10)) (.s (.r (rz 3 0 9)) (.s (.s (.r (rz 3 0 0)) (.b (.lp [11] (.s (.r (rz 1 0 0)) (.s (.c (.n) (.n)) (.s (.b (.s (.r (rz 2 0 0)) (.r (rz 13 0 33625152)))) (.r (rz 2 0 0)))))))) (.s (.r (rz 7 0 8225)) (.s (.r (rz 2 0 9)) (.n)))))) func115 rfl (by kernel_rfl) (by kernel_rfl) h
def Qc(t0 t1 t2:Value)(w:World)(K:VW):Prop:=
 pw w (Instr.box 25 t0) λt3 w1=>
 lo w1 25 t3 λt12=>ca jH #[t12,t1] w1 λt14 w2=>
 pe t14 0 λt15=>pe t14 1 λt16=>pw w2 (Instr.alloc 74 true (.tuple #[])) λt8 w3=>
 so w3 74 t8 t15 λw4=>bt .eql 29 t16 (i6 2) λt18=>za (λK5=>gIf t18 false (bt .lss 3 t1 (i6 0) λt21=>K5 [t21] w4) (K5 [u_] w4)) (λs6 _d7 w8=>
 zb t18 tr_ (s6.getD 0 u_) λt22=>za (λK9=>gIf t22 false (fl w8 t3 25 1 23 λt26=>pp (Builtin.len_ #[23] 3 #[t26]) λt27=>bf .geq 3 t1 t27 λt28=>K9 [t28] w8) (K9 [u_] w8)) (λs10 _d11 w12=>
 zb t22 tr_ (s10.getD 0 u_) λt29=>za (λK13=>gIf t29 false (bt .lss 3 t2 (i6 0) λt32=>K13 [t32] w12) (K13 [u_] w12)) (λs14 _d15 w16=>
 zb t29 tr_ (s14.getD 0 u_) λt33=>za (λK17=>gIf t33 false (fl w16 t3 25 1 23 λt37=>px 23 t37 t1 λt39=>fl w16 t39 101 6 99 λt41=>pp (Builtin.len_ #[99] 3 #[t41]) λt42=>bf .geq 3 t2 t42 λt43=>K17 [t43] w16) (K17 [u_] w16)) (λs18 _d19 w20=>
 zb t33 tr_ (s18.getD 0 u_) λt44=>zc t44 (K (.tuple #[(Value.slice Option.none 0 0),(i6 2)]) w20) (bt .neq 29 t16 (i6 0) λt46=>zc t46 (K (.tuple #[(Value.slice Option.none 0 0),t16]) w20) (pw w20 (Instr.alloc 28 true (.tuple #[])) λt10 w21=>
 lo w21.drew 25 t3 λt48=>lo w21.drew 74 t8 λt49=>fl w21.drew t3 25 1 23 λt51=>px 23 t51 t1 λt53=>fl w21.drew t53 101 6 99 λt55=>xl w21.drew 99 t55 t2 96 λt58=>ca xA #[t10] w21.drew λt60 w22=>
 Ext w21.drew w22∧
 ca ko #[t48,t49,t58,t2,t60] w22 λ_t61 w23=>
 lo w23 28 t10 λt62=>K (.tuple #[t62,t16]) w23))))))
theorem abj(h:Qc t0 t1 t2 w K):zd prog Ze #[t0,t1,t2] w K:=
 okC false (.s (.r (rz 3 0 2)) (.s (.r (rz 9 0 40993)) (.s (.s (.r (ra 3 0 0 (.grp 19 false (ri 2 3 0) [21] (ra 2 5 0 (.grp 23 false (ri 5 7 16) [28] (ra 2 12 0 (.grp 30 false (ri 2 14 0) [32] (ra 2 16 0 (.grp 34 false (ri 9 18 4112) [43] (rz 1 27 0)))))))))) (.c (.s (.r (rz 2 0 0)) (.n)) (.n))) (.s (.s (.r (rz 2 0 0)) (.c (.s (.r (rz 3 0 0)) (.n)) (.n))) (.s (.r (rz 1 0 2)) (.s (.r (rz 14 0 185614405)) (.s (.r (rz 4 0 1)) (.n)))))))) func16 rfl (by kernel_rfl) (by kernel_rfl) h
def Qd(t0 t1:Value)(w:World)(K:VW):Prop:=
 pw w (Instr.box 25 t0) λt2 w1=>
 lo w1 25 t2 λt14=>ca jH #[t14,t1] w1 λt16 w2=>
 pe t16 0 λt17=>pe t16 1 λt18=>pw w2 (Instr.alloc 74 true (.tuple #[])) λt6 w3=>
 so w3 74 t6 t17 λw4=>bt .neq 29 t18 (i6 0) λt20=>zc t20 (K (.tuple #[(Value.slice Option.none 0 0),t18]) w4) (pw w4 (Instr.alloc 28 true (.tuple #[])) λt8 w5=>
 pw w5 (Instr.makeMap 122 none) λt22 w6=>
 pw w6 (Instr.alloc 122 true (.tuple #[])) λt9 w7=>
 so w7 122 t9 t22 λw8=>ca xA #[t8] w8 λt23 w9=>
 pw w9 (Instr.alloc 124 true (.tuple #[])) λt10 w10=>
 so w10 124 t10 t23 λw11=>fl w11 t2 25 1 23 λt25=>px 23 t25 t1 λt27=>fl w11 t27 101 6 99 λt29=>pp (Builtin.len_ #[99] 3 #[t29]) λt30=>zx [(i6 0)] w11 (λs13 _d14 w15 K12=>
 bf .lss 3 (s13.getD 0 u_) t30 λt32=>zc t32 (xl w15 99 t29 (s13.getD 0 u_) 96 λt35=>pw w15 (Instr.alloc 96 true (.tuple #[])) λt12 w16=>
 so w16 96 t12 t35 λw17=>lo w17 25 t2 λt36=>lo w17 74 t6 λt37=>lo w17 96 t12 λt38=>pp (Instr.makeFunc (.func 52) #[] #[t9,t10]) λt40=>ca ko #[t36,t37,t38,(s13.getD 0 u_),t40] w17 λ_t41 w18=>
 bt .add 3 (s13.getD 0 u_) (i6 1) λt42=>K12 [t42] w18) (lo w15 28 t8 λt43=>K (.tuple #[t43,t18]) w15)))
theorem abk(h:Qd t0 t1 w K):zd prog qZ #[t0,t1] w K:=
 okC false (.s (.r (rz 3 0 2)) (.s (.r (rz 9 0 40993)) (.s (.s (.r (rz 2 0 0)) (.c (.s (.r (rz 3 0 0)) (.n)) (.n))) (.s (.r (rz 1 0 2)) (.s (.r (rz 3 0 42)) (.s (.r (rz 3 0 42)) (.s (.s (.r (rz 8 0 1028)) (.b (.lp [31] (.s (.r (rz 1 0 0)) (.s (.c (.n) (.n)) (.s (.b (.s (.r (rz 6 0 2192)) (.r (rz 6 0 2069)))) (.r (rz 2 0 0)))))))) (.s (.r (rz 4 0 1)) (.n))))))))) func13 rfl (by kernel_rfl) (by kernel_rfl) h
def YM(t0 t1 t2 t3:Value)(w:World)(K:VW):Prop:=
 pp (Instr.build 36 #[(0,t0),(1,t1)]) λt9=>pw w (Instr.alloc 36 true (.tuple #[])) λt6 w1=>
 so w1 36 t6 t9 λw2=>za (λK3=>
 bf .neq 3 t0 t1 λt12=>za (λK7=>gIf t12 true (lo w2 122 t2 λt14=>lo w2 36 t6 λt15=>pq w2 (Instr.lookup 122 t14 t15 false) λt16=>bt .eql 3 t16 (i6 0) λt17=>K7 [t17] w2) (K7 [u_] w2)) (λs8 _d9 w10=>
 zb t12 (s8.getD 0 u_) fa_ λt18=>zc t18 (lo w10 124 t3 λt19=>cv t19 #[t0,t1] w10 λ_t22 w11=>
 K3 [] w11) (K3 [] w10))) (λ_s4 _d5 w6=>
 lo w6.drew 122 t2 λt23=>lo w6.drew 36 t6 λt24=>((pw w6.drew (Instr.lookup 122 t23 t24 false) λt25 w12=>
 bt .add 3 t25 (i6 1) λt26=>pw w12 (Instr.mapEntry 122 t23 t24) λt27 w13=>
 pe t27 1 λt28=>pu w13 (Instr.entryStore 122 t23 t28 t26) λw14=>K (.tuple #[]) w14)∧
 (pw w6.drew (Instr.mapEntry 122 t23 t24) λt27_16 w15=>
 pe t27_16 1 λt28_17=>pw w15 (Instr.lookup 122 t23 t24 false) λt25_19 w18=>
 bt .add 3 t25_19 (i6 1) λt26_20=>pu w18 (Instr.entryStore 122 t23 t28_17 t26_20) λw21=>K (.tuple #[]) w21)))
theorem Vx(h:YM t0 t1 t2 t3 w K):zd prog Yp #[t0,t1,t2,t3] w K:=
 okC false (.s (.r (rz 5 0 640)) (.j [] (.s (.r (ra 4 0 0 (.grp 13 true (ri 4 4 21) [17] (rz 1 8 0)))) (.c (.r (rz 4 0 129)) (.n))) (.r (ra 2 0 5 (.alt 2 .l (rz 4 3 136) (ra 2 4 2 (ra 2 2 2 (rz 1 6 2)))))))) func52 rfl (by kernel_rfl) (by kernel_rfl) h
def ZB(t0 t1:Value)(w:World)(K:VW):Prop:=
 pw w (Instr.box 44 t1) λt3 w1=>
 lo w1 44 t3 λt13=>pp (Instr.makeFunc (.func 62) #[] #[t3]) λt14=>ca z6 #[t13,t14] w1 λt15 w2=>
 za (λK3=>gIf t15 false (lo w2 44 t3 λt18=>pp (Builtin.len_ #[44] 3 #[t18]) λt19=>ca xK #[t0,t19] w2 λt20 w7=>
 pp (Op.unary .not t20) λt21=>K3 [t21] w7) (K3 [u_] w2)) (λs4 _d5 w6=>
 zb t15 tr_ (s4.getD 0 u_) λt22=>zc t22 (K (.tuple #[(i6 0),(i6 0),fa_,(i6 2)]) w6) (pp (Builtin.len_ #[28] 3 #[t0]) λt24=>zx [(i6 0)] w6 (λs9 _d10 w11 K8=>
 bf .lss 3 (s9.getD 0 u_) t24 λt26=>zc t26 (xl w11 28 t0 (s9.getD 0 u_) 36 λt29=>pw w11 (Instr.alloc 36 true (.tuple #[])) λt9 w12=>
 so w12 36 t9 t29 λw13=>lo w13.drew 44 t3 λt31=>fl w13.drew t9 36 0 3 λt33=>xl w13.drew 44 t31 t33 48 λt35=>lo w13.drew 44 t3 λt36=>fl w13.drew t9 36 1 3 λt38=>xl w13.drew 44 t36 t38 48 λt40=>ca Zd #[t35,t40] w13.drew λt41 w14=>
 pe t41 0 λt42=>pe t41 1 λt43=>pe t41 2 λ_t44=>zc t43 (K (.tuple #[(s9.getD 0 u_),t42,fa_,(i6 0)]) w14) (bt .add 3 (s9.getD 0 u_) (i6 1) λt48=>K8 [t48] w14)) (K (.tuple #[(i6 0),(i6 0),tr_,(i6 0)]) w11))))
theorem QF(h:ZB t0 t1 w K):zd prog xa #[t0,t1] w K:=
 okC false (.s (.r (rz 5 0 2)) (.s (.s (.r (ra 4 0 33 (.grp 16 false (ri 5 4 132) [21] (rz 1 9 0)))) (.c (.s (.r (rz 4 0 0)) (.n)) (.n))) (.s (.s (.r (rz 3 0 0)) (.b (.lp [25] (.s (.r (rz 1 0 0)) (.s (.c (.n) (.n)) (.s (.b (.s (.r (rz 6 0 2192)) (.s (.r (rz 18 0 2376977)) (.s (.r (rz 1 0 0)) (.c (.s (.r (rz 6 0 0)) (.n)) (.n)))))) (.r (rz 2 0 0)))))))) (.s (.r (rz 4 0 0)) (.n))))) func21 rfl (by kernel_rfl) (by kernel_rfl) h
def jY(t0 t1:Value)(w:World)(K:VW):Prop:=
 pw w (Instr.box 48 t0) λt2 w1=>
 lo w1.drew 48 t2 λt4=>ca kM #[t4] w1.drew λt5 w2=>
 pp (Op.unary .not t5) λt6=>za (λK3=>gIf t6 false (fl w2 t2 48 0 3 λt9=>lo w2 44 t1 λt10=>px 44 t10 (i6 0) λt11=>fl w2 t11 48 0 3 λt13=>bf .neq 3 t9 t13 λt14=>K3 [t14] w2) (K3 [u_] w2)) (λs4 _d5 w6=>
 zb t6 tr_ (s4.getD 0 u_) λt15=>K t15 w6)
theorem Xz(h:jY t0 t1 w K):zd prog jR #[t0,t1] w K:=
 okC false (.s (.r (rz 2 0 2)) (.s (.r (ra 4 0 9 (.grp 7 false (ri 7 4 1044) [14] (rz 2 11 0)))) (.n))) func62 rfl (by kernel_rfl) (by kernel_rfl) h
def ZC(t0 t1:Value)(w:World)(K:VW):Prop:=
 pw w (Instr.box 3 t1) λt3 w1=>
 pp (Instr.makeFunc (.func 127) #[] #[t3]) λt6=>ca zG #[t0,t6] w1 λt7 w2=>
 pp (Op.unary .not t7) λt8=>K t8 w2
theorem QG(h:ZC t0 t1 w K):zd prog xK #[t0,t1] w K:=
 okC false (.s (.r (rz 2 0 2)) (.s (.r (rz 5 0 32)) (.n))) func64 rfl (by kernel_rfl) (by kernel_rfl) h
def jZ(t0 t1:Value)(w:World)(K:VW):Prop:=
 pw w (Instr.box 36 t0) λt2 w1=>
 fl w1 t2 36 0 3 λt5=>fl w1 t2 36 1 3 λt7=>pp (Builtin.min_ #[3,3] 3 #[t5,t7]) λt8=>bt .lss 3 t8 (i6 0) λt9=>za (λK2=>gIf t9 false (fl w1 t2 36 0 3 λt12=>fl w1 t2 36 1 3 λt14=>pp (Builtin.max_ #[3,3] 3 #[t12,t14]) λt15=>lo w1 3 t1 λt16=>bf .geq 3 t15 t16 λt17=>K2 [t17] w1) (K2 [u_] w1)) (λs3 _d4 w5=>
 zb t9 tr_ (s3.getD 0 u_) λt18=>K t18 w5)
theorem XA(h:jZ t0 t1 w K):zd prog jS #[t0,t1] w K:=
 okC false (.s (.r (rz 2 0 2)) (.s (.r (ra 7 0 68 (.grp 10 false (ri 7 7 1092) [17] (rz 2 14 0)))) (.n))) func127 rfl (by kernel_rfl) (by kernel_rfl) h
def YN(t0 t1 t2:Value)(w:World)(K:VW):Prop:=
 bt .lss 3 t1 (i6 0) λt13=>za (λK1=>gIf t13 false (bt .gtr 3 t1 (i6 512) λt16=>K1 [t16] w) (K1 [u_] w)) (λs2 _d3 w4=>
 zb t13 tr_ (s2.getD 0 u_) λt17=>za (λK5=>gIf t17 false (bt .lss 3 t2 (i6 0) λt20=>K5 [t20] w4) (K5 [u_] w4)) (λs6 _d7 w8=>
 zb t17 tr_ (s6.getD 0 u_) λt21=>za (λK9=>gIf t21 false (bf .geq 3 t2 t1 λt25=>K9 [t25] w8) (K9 [u_] w8)) (λs10 _d11 w12=>
 zb t21 tr_ (s10.getD 0 u_) λt26=>za (λK13=>gIf t26 false (ca xK #[t0,t1] w12 λt30 w17=>
 pp (Op.unary .not t30) λt31=>K13 [t31] w17) (K13 [u_] w12)) (λs14 _d15 w16=>
 zb t26 tr_ (s14.getD 0 u_) λt32=>zc t32 (K (.tuple #[(Value.slice Option.none 0 0),(i6 2)]) w16) (pw w16 (Instr.buildSlice 55 1 #[(0,t2)]) λt34 w18=>
 zx [t34,(i6 0)] w18 (λs20 _d21 w22 K19=>
 pp (Builtin.len_ #[55] 3 #[(s20.getD 0 u_)]) λt37=>bf .lss 3 (s20.getD 1 u_) t37 λt38=>zc t38 (pp (Builtin.len_ #[28] 3 #[t0]) λt42=>zx [(s20.getD 0 u_),(i6 0)] w22 (λs24 _d25 w26 K23=>
 bf .lss 3 (s24.getD 1 u_) t42 λt44=>zc t44 (za (λK27=>
 xl w26 28 t0 (s24.getD 1 u_) 36 λt46=>pw w26 (Instr.alloc 36 true (.tuple #[])) λt11 w31=>
 so w31 36 t11 t46 λw32=>fl w32.drew t11 36 1 3 λt48=>xl w32.drew 55 (s24.getD 0 u_) (s20.getD 1 u_) 3 λt52=>bf .eql 3 t48 t52 λt53=>za (λK33=>gIf t53 true (fl w32.drew t11 36 0 3 λt57=>ca yW #[(s24.getD 0 u_),t57] w32.drew λt58 w37=>
 pp (Op.unary .not t58) λt59=>K33 [t59] w37) (K33 [u_] w32.drew)) (λs34 _d35 w36=>
 zb t53 (s34.getD 0 u_) fa_ λt60=>zc t60 (fl w36 t11 36 0 3 λt63=>pw w36 (Instr.buildSlice 55 1 #[(0,t63)]) λt64 w38=>
 pw w38 (Builtin.append_ #[55,55] 55 #[(s24.getD 0 u_),t64]) λt65 w39=>
 K27 [t65] w39) (K27 [(s24.getD 0 u_)] w36))) (λs28 _d29 w30=>
 bt .add 3 (s24.getD 1 u_) (i6 1) λt66=>K23 [(s28.getD 0 u_),t66] w30)) (bt .add 3 (s20.getD 1 u_) (i6 1) λt40=>K19 [(s24.getD 0 u_),t40] w26))) (ca qE #[(s20.getD 0 u_)] w22 λ_t68 w40=>
 K (.tuple #[(s20.getD 0 u_),(i6 0)]) w40)))))))
theorem Vy(h:YN t0 t1 t2 w K):zd prog kN #[t0,t1,t2] w K:=
 okC false (.s (.r (rz 2 0 0)) (.s (.s (.r (ra 3 0 0 (.grp 14 false (ri 2 3 0) [16] (ra 2 5 0 (.grp 18 false (ri 2 7 0) [20] (ra 2 9 0 (.grp 22 false (ri 3 11 0) [25] (ra 2 14 0 (.grp 27 false (ri 4 16 32) [31] (rz 1 20 0)))))))))) (.c (.s (.r (rz 2 0 0)) (.n)) (.n))) (.s (.r (rz 3 0 8)) (.s (.s (.r (rz 1 0 0)) (.b (.lp [8,9] (.s (.s (.r (rz 4 0 0)) (.c (.n) (.n))) (.s (.b (.s (.r (rz 3 0 0)) (.b (.lp [8,43] (.s (.r (rz 1 0 0)) (.s (.c (.n) (.n)) (.j [8] (.b (.s (.r (rz 4 0 164)) (.s (.r (ra 8 0 1028 (.grp 54 true (ri 5 8 144) [59] (rz 1 13 0)))) (.c (.r (rz 6 0 656)) (.n))))) (.r (rz 2 0 0))))))))) (.r (rz 3 0 0))))))) (.s (.r (rz 2 0 8)) (.s (.r (rz 3 0 0)) (.n))))))) func23 rfl (by kernel_rfl) (by kernel_rfl) h
def zZ(t0 t1:Value)(w:World)(K:VW):Prop:=
 ca zJ #[t0,t1] w λt7 w1=>
 bt .geq 3 t7 (i6 0) λt8=>K t8 w1
theorem yT(h:zZ t0 t1 w K):zd prog zG #[t0,t1] w K:=
 okC false (.s (.r (rz 1 0 0)) (.s (.r (rz 5 0 32)) (.n))) func126 rfl (by kernel_rfl) (by kernel_rfl) h
def yd(t0 t1:Value)(w:World)(K:VW):Prop:=
 pp (Builtin.len_ #[28] 3 #[t0]) λt7=>zx [(i6 0)] w (λs2 _d3 w4 K1=>
 bf .lss 3 (s2.getD 0 u_) t7 λt9=>zc t9 (xl w4 28 t0 (s2.getD 0 u_) 36 λt15=>cv t1 #[t15] w4 λt16 w5=>
 zc t16 (K (s2.getD 0 u_) w5) (bt .add 3 (s2.getD 0 u_) (i6 1) λt18=>K1 [t18] w5)) (K (i6 (-1)) w4))
theorem y6(h:yd t0 t1 w K):zd prog zJ #[t0,t1] w K:=
 okC false (.s (.r (rz 1 0 0)) (.s (.s (.r (rz 3 0 0)) (.b (.lp [8] (.s (.r (rz 1 0 0)) (.s (.c (.n) (.n)) (.s (.b (.s (.r (rz 2 0 0)) (.s (.r (rz 6 0 2304)) (.c (.s (.r (rz 2 0 0)) (.n)) (.n))))) (.r (rz 2 0 0)))))))) (.s (.r (rz 1 0 0)) (.n)))) func170 rfl (by kernel_rfl) (by kernel_rfl) h
end Go.Proofs.Tryz
end
section
namespace Go.Proofs
open Go.Sh Go.RowKit
abbrev CnC(c:List Value)(x:CnD):Prop:=afp c x
def cns(l:List CnD):List Value:=l.flatMap λx=>[.int .i64 x.1,.int .i64 x.2]
theorem acD{l:List CnD}{x:CnD}:cns (l++[x])=cns l++[.int .i64 x.1,.int .i64 x.2]:=by simp[cns]
theorem aam:∀{l:List CnD},(cns l).length=l.length*2
 |[]=>rfl
 |x::l=>by
  have :cns (x::l)=.int .i64 x.1::.int .i64 x.2::cns l:=rfl
  rw[this,List.length_cons,List.length_cons,aam,List.length_cons];omega
theorem qR{l:List CnD}:RowOf 2 CnC (cns l) l:=
 aah (P:=λl=>RowOf 2 CnC (cns l) l) RowOf.nil (λl x ih=>by rw[acD];exact ih.snoc rfl rfl) l
theorem kJ{r:Gh}{p:Option Addr}{n cap:Nat}{l:List CnD}(h:SlG 2 r CnC (.slice p n cap) l){i:Nat}(hi:i<l.length):∃b off,p=some ⟨b,off,none⟩∧n=l.length∧(Ob r λw=>w.cell? ⟨b,off+i*2,none⟩=some (.int .i64 l[i].1))∧(Ob r λw=>w.cell? ⟨b,off+i*2+1,none⟩=some (.int .i64 l[i].2))∧∀j v,[Value.int .i64 l[i].1,.int .i64 l[i].2][j]? = some v→Ob r λw=>w.cell? ⟨b,off+i*2+j,none⟩=some v:=by
 have hl:=h.len
 obtain⟨b,off,c,hE,hc,hcc,hcl⟩:=h.get (by decide) hi
 obtain rfl:c=_:=hcc
 exact⟨b,off,hE,hl,hcl 0 _ rfl,hcl 1 _ rfl,hcl⟩
theorem xP{α:Type}{A M:List α}{x y:α}:(A++x::y::M).Perm (x::y::(A++M)):=List.perm_middle.trans (List.Perm.cons _ List.perm_middle)
def Tk{σ:Type}(X:Nat→Prop)(w0:World)(r:Gh)(fv:Value)(Lc:σ→List Asr)(J:σ→List CnD→Prop):Prop:=
 ∀(s:σ)(l:List CnD)(a b:Int)(r':Gh)(M:List Asr)(w:World)(K:Value→World→Prop)(_:Le r r'),J s l→l.length<1000000→StX X w0 r' w (Lc s++M)→
  (∀s' v w',J s' (l++[(a,b)])→StX X w0 r' w' (Lc s'++M)→K v w')→zu Tryz.prog fv #[.int .i64 a,.int .i64 b] w K
section
variable {σ:Type} {X:Nat→Prop} {w0:World} {r:Gh} {fv:Value} {Lc:σ→List Asr} {J:σ→List CnD→Prop}
theorem Tk.up{q:Gh}(h:Tk X w0 r fv Lc J)(le:Le r q):Tk X w0 q fv Lc J:=λs l a b r' M w K le2 hJ hl S hK=>h s l a b r' M w K ⟨λb o ho=>le2.le b o (le.le b o ho)⟩ hJ hl S hK
abbrev yF(both:Bool)(t u:TyD):List CnD:=if t.k=4 then(t.re,u.re)::(if both=true then [(u.re,t.re)]else [])else []
theorem kW(hT:Tk X w0 r fv Lc J){s0:Int}:∀(n:Nat){t u:TyD}{both:Bool}{r':Gh}{s:σ}{l:List CnD}{M:List Asr}{w:World}{vt vu:Value}{K:Value→World→Prop}[Le r r'],
  zw s0 n t=true→zw s0 n u=true→bare t=bare u→J s l→l.length+2*n≤1000000→TyG r' vt t→TyG r' vu u→StX X w0 r' w (Lc s++M)→
  (∀s' w',J s' (l++yu both n t u)→StX X w0 r' w' (Lc s'++M)→K (.tuple #[]) w')→zd Tryz.prog Tryz.ye #[vt,vu,.bool both,fv] w K:=by
 intro n
 induction n with
 |zero=>intro t u both r' s l M w vt vu K _ h;cases h
 |succ n ih=>
  intro t u both r' s l M w vt vu K le ht hu hb hJ hl gt gu S h
  refine Tryz.Vv ?_
  unfold Tryz.YK
  obtain⟨p1,cap1,rfl,_,_,hof⟩:=gt
  obtain⟨p2,cap2,rfl,_,_,huf⟩:=gu
  refine S.box λb4 w1 S=>?_
  refine S.box λb5 w2 S=>?_
  have S:StX X w0 r' w2 (.cell b5 (tyL u p2 cap2) 43::.cell b4 (tyL t p1 cap1) 43::(Lc s++M)):=S
  refine zr (λx w'=>∃s',x=[]∧J s' (l++yF both t u)∧StX X w0 r' w' (.cell b5 (tyL u p2 cap2) 43::.cell b4 (tyL t p1 cap1) 43::(Lc s'++M))) (λK3 hK3=>?_) ?_
  ·refine gg_ ?_
   refine zj (λhk=>?_) (λhk=>?_)
   ·refine gg_ ?_
    refine hT s l t.re u.re r' _ _ _ le hJ (by omega) (S.permO xP) λs1 _ w7 hJ1 S=>?_
    have S:StX X w0 r' w7 (.cell b5 (tyL u p2 cap2) 43::.cell b4 (tyL t p1 cap1) 43::(Lc s1++M)):=S.permO xP.symm
    refine c_b (λhb=>?_) (λhb=>?_)
    ·refine gg_ ?_
     refine hT s1 _ u.re t.re r' _ _ _ le hJ1 (by rw[List.length_append,List.length_singleton];omega) (S.permO xP) λs2 _ w8 hJ2 S=>?_
     have S:StX X w0 r' w8 (.cell b5 (tyL u p2 cap2) 43::.cell b4 (tyL t p1 cap1) 43::(Lc s2++M)):=S.permO xP.symm
     exact hK3 _ _ ⟨s2,rfl,by rw[yF,if_pos hk,if_pos hb];simpa using hJ2,S⟩
    ·exact hK3 _ _ ⟨s1,rfl,by rw[yF,if_pos hk,if_neg (by rw[hb];decide)];exact hJ1,S⟩
   ·exact hK3 _ _ ⟨s,rfl,by rw[yF,if_neg hk,List.append_nil];exact hJ,S⟩
  repeat clear S
  rintro _ w6 ⟨s1,rfl,hJ1,S⟩ d
  refine gg_ ?_
  rcases ZZ ht hu hb with⟨h1,h2,h3⟩|⟨x,y,h1,h2,h3,h4,h5⟩
  ·refine c_f (by rw[h1];rfl) ?_
   refine h s1 _ ?_ S.tl.tl
   rw[aaR h1 h3]
   rwa[yF,if_neg h3]at hJ1
  ·have l1:t.of.length=1:=by rw[h1];rfl
   have l2:u.of.length=1:=by rw[h2];rfl
   obtain⟨ba,oa,rfl,c,hc,hcell,hx⟩:=NdG.of hof (i:=0) (by omega)
   obtain⟨bb,ob,rfl,c',hc',hcell',hy⟩:=NdG.of huf (i:=0) (by omega)
   have hx:TyG r' (.agg c.toArray) x:=by simpa [h1]using hx
   have hy:TyG r' (.agg c'.toArray) y:=by simpa [h2]using hy
   refine c_t (by rw[l1];rfl) ?_
   have S:=S.go (Ext.drew _)
   refine gg_ ?_
   refine zt (n:=5) hc (λj v hj=>by simpa using S.at (hcell j v hj)) ?_
   refine gg_ ?_
   refine zt (n:=5) hc' (λj v hj=>by simpa using S.at (hcell' j v hj)) ?_
   refine zi (c:=t.m) (λ_ K2 hK2=>by refine gg_ ?_;exact hK2) ?_
   have hfl:(yF both t u).length≤2:=by
    rw[yF]
    split
    ·split<;>simp
    ·simp
   refine ih h3 h4 h5 hJ1 (by rw[List.length_append];omega) hx hy (S.permO xP) λs2 w13 hJ2 S=>?_
   have S:StX X w0 r' w13 (.cell b5 (tyL u (some ⟨bb,ob,none⟩) cap2) 43::.cell b4 (tyL t (some ⟨ba,oa,none⟩) cap1) 43::(Lc s2++M)):=S.permO xP.symm
   refine h s2 _ ?_ S.tl.tl
   rw[X5 h1 h2,← List.append_assoc]
   exact hJ2
abbrev lsL(b:Nat)(s:Value×List CnD):List Asr:=[.row s.1 36 2 s.2.length (cns s.2),.cell b [s.1] 28]
theorem afU{b b1:Nat}(h1:Ob r λw=>w.cell? ⟨b1,0,none⟩=some (.pointer (some ⟨b,0,none⟩))):
  Tk X w0 r (.func (.func Tryz.ya) #[] #[.pointer (some ⟨b1,0,none⟩)]) (lsL b) (λs l=>s.2=l):=by
 intro s l x y r' M w K le hJ hl S hK
 obtain⟨v,l'⟩:=s
 obtain rfl:l'=l:=hJ
 refine age (by kernel_rfl) ?_
 refine Tryz.QE ?_
 unfold Tryz.ZA
 have S:=S.go (Ext.drew _)
 have S:StX X w0 r' _ (.row v 36 2 l'.length (cns l')::.cell b [v] 28::M):=S
 have h1:Ob r' λw=>w.cell? ⟨b1,0,none⟩=some (.pointer (some ⟨b,0,none⟩)):=λw hw=>h1 w (hw.le (h:=le))
 refine zh (S.at h1) ?_
 refine n_some ?_
 refine S.ld (b:=b) ?_
 refine gp_ ?_
 have hap:∀{b2:Nat}{w1:World}{K2:Value→World→Prop},StX X w0 r' w1 (.cell b2 [.int .i64 x,.int .i64 y] 36::.row v 36 2 l'.length (cns l')::.cell b [v] 28::M)→
   (∀v4 w2,StX X w0 r' w2 (.row v4 36 2 (l'.length+1) (cns (l'++[(x,y)]))::.cell b [v] 28::M)→K2 v4 w2)→
   opW Tryz.prog w1 (Builtin.append_ #[28,28] 28 #[v,.slice (some ⟨b2,0,none⟩) 1 1]) K2:=fun {b2 w1 K2} S h=>by
  refine S.ap (v:=v) (m':=1) (Sl.blk (S.blk b2)) (λv4 w2 S=>?_) (by omega)
  refine h v4 w2 ?_
  rw[acD]
  exact S.tl
 have fin:∀{v4:Value}{w2:World},StX X w0 r' w2 (.row v4 36 2 (l'.length+1) (cns (l'++[(x,y)]))::.cell b [v] 28::M)→
   jq (.pointer (some ⟨b,0,none⟩)) λt14=>opU Tryz.prog w2 (Instr.storeAt 28 t14 v4) λw3=>K (.tuple #[]) w3:=fun {v4 w2} S=>by
  refine n_some ?_
  refine S.st (b:=b) (λw3 S=>?_) (by simp) (S.row1 v4)
  refine hK (v4,l'++[(x,y)]) _ _ rfl ?_
  show StX X w0 r' w3 (.row v4 36 2 (l'++[(x,y)]).length (cns (l'++[(x,y)]))::.cell b [v4] 28::M)
  rw[List.length_append,List.length_singleton]
  exact S
 refine⟨?_,?_⟩
 ·refine Jd (zh (S.at h1) ?_)
  refine S.litU (e:=36) (cs:=[.int .i64 x,.int .i64 y]) (by kernel_rfl) λb2 w2 S=>?_
  refine hap S λv4 w3 S=>fin S
 ·refine S.litU (e:=36) (cs:=[.int .i64 x,.int .i64 y]) (by kernel_rfl) λb2 w2 S=>?_
  refine⟨?_,?_⟩
  ·refine Jd (zh (S.at h1) ?_)
   refine hap S λv4 w3 S=>fin S
  ·refine hap S λv4 w3 S=>?_
   refine Jd (zh (S.at h1) ?_)
   exact fin S
end
theorem jF{b:Nat}{w:World}{r:Gh}{X:Nat→Prop}{w0:World}{L:List Asr}{K:Value→World→Prop}(S:StX X w0 r w L)
  (h:∀b1 w',Ext w w'→StX X w0 (r.or (Go.Sh.one b1 [.pointer (some ⟨b,0,none⟩)] 126)) w' L→K (.func (.func Tryz.ya) #[] #[.pointer (some ⟨b1,0,none⟩)]) w'):
  zd Tryz.prog Tryz.xA #[.pointer (some ⟨b,0,none⟩)] w K:=by
 refine Tryz.Vw ?_
 unfold Tryz.YL
 refine aga λb1 w1 hb e _ B=>?_
 refine gp_ ?_
 have S:=S.add e (by omega) B
 exact h b1 w1 e (StX.frz S)
theorem aan{X:Nat→Prop}{w0:World}{q:Gh}{b b1:Nat}[Le (Go.Sh.one b1 [.pointer (some ⟨b,0,none⟩)] 126) q]:
  Tk X w0 q (.func (.func Tryz.ya) #[] #[.pointer (some ⟨b1,0,none⟩)]) (lsL b) (λs l=>s.2=l):=afU (xe (c:=[.pointer (some ⟨b,0,none⟩)]) (T:=126) rfl)
def xQ(t u:TyD):List CnD×Int:=if !(isB t&&isB u)then([],2)else if zQ yb t u=true then(kp false t u,0)else([],150)
theorem Z3{t u:TyD}{vt vu:Value}{w:World}{r:Gh}{K:Value→World→Prop}(hr:Holds r w)(ht:TyG r vt t)(hu:TyG r vu u)
  (h:∀v' s w',Ext w w'→New w s w'→SlG 2 s CnC v' (xQ t u).1→K (.tuple #[v',.int .i64 (xQ t u).2]) w'):zd Tryz.prog Tryz.km #[vt,vu] w K:=by
 refine Tryz.JG ?_
 unfold Tryz.Z1
 have ht0:=ht;have hu0:=hu
 obtain⟨p1,cap1,rfl,_⟩:=ht
 obtain⟨p2,cap2,rfl,_⟩:=hu
 have S:=St.start hr
 refine S.box λb2 w1 S=>?_
 refine S.box λb3 w2 S=>?_
 have S:StX noX w r w2 [.cell b3 (tyL u p2 cap2) 43,.cell b2 (tyL t p1 cap1) 43]:=S
 refine S.ldB (b:=b2) ?_ rfl
 refine Yg S.holds ht0 λv1 s1 w3 e3 n3 h1 _=>?_
 generalize hE1:(if isB t=true then(0:Int)else 2)=e1
 obtain⟨S,_,_⟩:=S.tell e3 n3
 obtain⟨p3,cap3,rfl,_⟩:=h1
 refine gS_ ?_
 refine S.al λb6 w4 S=>?_
 refine S.stB (b:=b6) λw5 S=>?_
 refine S.ldB (b:=b3) ?_ rfl
 refine Yg S.holds hu0.up λv2 s2 w6 e6 n6 h2 _=>?_
 generalize hE2:(if isB u=true then(0:Int)else 2)=e2
 obtain⟨S,_,_⟩:=S.tell e6 n6
 obtain⟨p4,cap4,rfl,_⟩:=h2
 refine gS_ ?_
 refine S.al λb8 w7 S=>?_
 refine S.stB (b:=b8) λw8 S=>?_
 refine gp_ ?_
 refine zi (c:=decide (e2≠0)) (λ_ K2 hK2=>by refine gp_ ?_;exact hK2) ?_
 have S:StX noX w r w8 [.cell b3 (tyL u p2 cap2) 43,.cell b2 (tyL t p1 cap1) 43]:=S.less (λb o h=>.inl (.inl h)) (.cons _ (.cons _ (List.Sublist.refl _)))
 refine c_b (λhb=>?_) (λhb=>?_)
 ·have e:xQ t u=([],2):=by
   rw[xQ,if_pos]
   cases hx:isB t<;>cases hy:isB u<;>first|rfl|(exfalso;rw[hx]at hE1;rw[hy]at hE2;subst hE1;subst hE2;exact absurd hb (by decide))
  rw[e]at h
  exact h _ nothing _ S.ext New.nothing SlG.nil
 have hBt:isB t=true:=by
  cases hx:isB t with
  |true=>rfl
  |false=>rw [hx]at hE1;subst hE1;simp at hb
 have hBu:isB u=true:=by
  cases hx:isB u with
  |true=>rfl
  |false=>rw [hx]at hE2;subst hE2;simp at hb
 refine S.ldB (b:=b2) ?_ rfl
 refine S.ldB (b:=b3) ?_ rfl
 refine xg S.holds ht0 hu0 λw13 e13=>?_
 have S:=S.go e13
 refine gp_ ?_
 refine c_b (λha=>?_) (λha=>?_)
 ·have e:xQ t u=([],150):=by
   rw[xQ,hBt,hBu,if_neg (by decide),if_neg]
   simpa using ha
  rw[e]at h
  exact h _ nothing _ S.ext New.nothing SlG.nil
 have ha:zQ yb t u=true:=by simpa using ha
 have e:xQ t u=(kp false t u,0):=by rw[xQ,hBt,hBu,if_neg (by decide),if_pos ha]
 rw[e]at h
 refine S.al λb10 w14 S=>?_
 have S:=S.go (Ext.drew _)
 refine S.ldB (b:=b2) ?_ rfl
 refine S.ldB (b:=b3) ?_ rfl
 refine jF (b:=b10) S λb11 w15 e15 S=>⟨e15,?_⟩
 have S:=S.ownNil 36 2
 have S:StX noX w (r.or (Go.Sh.one b11 [.pointer (some ⟨b10,0,none⟩)] 126)) w15 (lsL b10 (.slice none 0 0,[])++[.cell b3 (tyL u p2 cap2) 43,.cell b2 (tyL t p1 cap1) 43]):=S
 refine kW (aan (q:=r.or (Go.Sh.one b11 [.pointer (some ⟨b10,0,none⟩)] 126)) (b:=b10)) 48 hBt hBu ((Vm hBt hBu).1 ha) (s:=(.slice none 0 0,[])) (l:=[]) rfl (by decide) ht0.up hu0.up S λs2 w16 hJ S=>?_
 obtain⟨v,l⟩:=s2
 rw[List.nil_append]at hJ
 have hJ:l=yu false 48 t u:=hJ
 have S:StX noX w _ w16 [.row v 36 2 l.length (cns l),.cell b10 [v] 28,.cell b3 (tyL u p2 cap2) 43,.cell b2 (tyL t p1 cap1) 43]:=S
 refine S.ld (b:=b10) ?_
 obtain⟨s3,T,hs,_,ha3⟩:=S.doneRow (l:=l) qR (by decide) rfl
 rw[hJ]at hs
 exact h _ s3 _ T.ext (StX.newOf (q:=s3) T λb o ho=>(ha3 b o ho).resolve_right id) hs
structure PntG(q:Gh)(b5 b6:Nat)(ss:List StD)(tys:List TyD)(rgs:List Int):Prop where
 pss:∃p0 cap0,(Ob q λw=>w.cell? ⟨b5,0,none⟩=some (.slice p0 ss.length cap0))∧StG q p0 ss
 pts:∃q1 c1,(Ob q λw=>w.cell? ⟨b6,3,none⟩=some (.slice q1 tys.length c1))∧SlG 5 q (TyC q) (.slice q1 tys.length c1) tys
 few:tys.length≤1000000
 ats:∃q2 c2,(Ob q λw=>w.cell? ⟨b6,4,none⟩=some (.slice q2 rgs.length c2))∧SlG 1 q kD (.slice q2 rgs.length c2) rgs
theorem PntG.up{q q':Gh}{b5 b6:Nat}{ss:List StD}{tys:List TyD}{rgs:List Int}(h:PntG q b5 b6 ss tys rgs)[le:Le q q']:PntG q' b5 b6 ss tys rgs:=by
 obtain⟨⟨p0,cap0,h1,h2⟩,⟨q1,c1,h3,h4⟩,h5,q2,c2,h6,h7⟩:=h
 exact⟨⟨p0,cap0,h1.up,RepS.up h2⟩,⟨q1,c1,h3.up,h4.up' le λ_ _ h=>TyG.up h⟩,h5,q2,c2,h6.up,h7.cells⟩
abbrev Xa(b5 b6:Nat):Value:=.func (.func Tryz.vv) #[] #[.pointer (some ⟨b5,0,none⟩),.pointer (some ⟨b6,0,none⟩)]
theorem Q3{ss:List StD}{tys:List TyD}{rgs:List Int}{p:PlD}{b5 b6:Nat}{c:List Value}{w:World}{r:Gh}{K:Value→World→Prop}(hr:Holds r w)(hP:PntG r b5 b6 ss tys rgs)(hp:PlG r c p)(h0:0≤p.l)(h1:p.l.toNat<tys.length)
  (h:∀p' cap' s w',Ext w w'→New w s w'→TyG s (tyV (yq ss tys p) p' cap') (yq ss tys p)→K (tyV (yq ss tys p) p' cap') w'):zu Tryz.prog (Xa b5 b6) #[.agg c.toArray] w K:=by
 refine Qp (by kernel_rfl) ?_
 refine Tryz.X9 ?_
 unfold Tryz.vA
 obtain⟨⟨p0,cap0,hU,hss⟩,⟨q1,c1,hR,hty⟩,htl,_⟩:=hP
 obtain⟨v,rfl,hl⟩:=hp
 obtain⟨qs,caps,rfl,hqs,hcs⟩:=hl.sl.shape
 obtain⟨_,_,hE,_,hct2⟩:=hty.shape
 cases hE
 have S:=St.start hr
 refine S.box λb3 w1 S=>?_
 refine S.al λb4 w2 S=>?_
 have S:=S.go (Ext.drew _)
 have S:StX noX w r _ [.cell b4 qw 43,.cell b3 [.int .i64 p.l,.slice qs p.ps.length caps] 80]:=S
 have hT:yq ss tys p=(yB ss [tys[p.l.toNat]] ⟨0,p.ps⟩).1:=by rw[yq,List.getD_eq_getElem?_getD,gqg h1];rfl
 rw[hT]at h
 refine zr (λx w'=>∃b s p' cap',x=[.pointer (some ⟨b,0,none⟩)]∧TyG s (tyV (yB ss [tys[p.l.toNat]] ⟨0,p.ps⟩).1 p' cap') (yB ss [tys[p.l.toNat]] ⟨0,p.ps⟩).1∧Above w s∧
  StX noX w (r.or s) w' [.cell b (tyL (yB ss [tys[p.l.toNat]] ⟨0,p.ps⟩).1 p' cap') 43,.cell b4 qw 43,.cell b3 [.int .i64 p.l,.slice qs p.ps.length caps] 80]) (λK3 hK3=>?_) ?_
 ·refine gg_ ?_
  refine zh (S.at hU) ?_
  refine gg_ ?_
  refine zh (S.at hR) ?_
  refine gg_ ?_
  have hlen:(p.l+1).toNat-p.l.toNat=[tys[p.l.toNat]].length:=by show _=1;omega
  have hsub:=(V7 hty).sub (a:=p.l.toNat) (n:=1) (cap:=c1) hct2
  rw[agK h1]at hsub
  rw[hlen]
  generalize (if c1=p.l.toNat then q1 else q1.map (·.add (p.l.toNat*5)))=qx at hsub⊢
  have hp2:PlG r [.int .i64 0,.slice qs p.ps.length caps] ⟨0,p.ps⟩:=⟨_,rfl,hl⟩
  refine⟨?_,?_⟩
  ·refine X2 (p:=⟨0,p.ps⟩) S.holds hss hsub (by simp[maxLen]) hp2 λv' sn w7 e7 n7 ht _=>?_
   obtain⟨S,_,ha⟩:=S.tell e7 n7
   have ht0:=ht
   obtain⟨p',cap',rfl,_⟩:=ht
   refine gS_ ?_
   refine S.alU λb5' w8 S=>?_
   refine S.stB (b:=b5') λw9 S=>?_
   exact hK3 _ _ ⟨b5',sn,p',cap',rfl,ht0,ha,S⟩
  ·refine S.alU λb5' w10 S=>?_
   refine X2 (p:=⟨0,p.ps⟩) S.holds hss hsub (by simp[maxLen]) hp2 λv' sn w7 e7 n7 ht _=>?_
   obtain⟨S,_,ha⟩:=S.tell e7 n7
   have ht0:=ht
   obtain⟨p',cap',rfl,_⟩:=ht
   refine gS_ ?_
   refine S.stB (b:=b5') λw9 S=>?_
   exact hK3 _ _ ⟨b5',sn,p',cap',rfl,ht0,ha,S⟩
 repeat clear S
 rintro _ w6 ⟨b,s,p',cap',rfl,ht,ha,S⟩ d
 rw[gdz]
 refine S.ldB (b:=b) ?_ rfl
 refine S.stB (b:=b4) λw17 S=>?_
 refine S.ceB (b:=b4) ?_ rfl
 exact h p' cap' s _ S.ext (S.newOf ha) ht
section
variable {σ:Type} {X:Nat→Prop} {w0:World} {r:Gh} {fv:Value} {Lc:σ→List Asr} {J:σ→List CnD→Prop} {ss:List StD} {tys:List TyD} {rgs:List Int} {b5 b6 b9 b10:Nat}
def Two(t u:TyD):Prop:=isB t=true∧isB u=true∧bare t=bare u
theorem abl(hT:Tk X w0 r fv Lc J)(hP:PntG r b5 b6 ss tys rgs)(h10:Ob r λw=>w.cell? ⟨b10,0,none⟩=some (Xa b5 b6))(h9:Ob r λw=>w.cell? ⟨b9,0,none⟩=some fv)
  {o:OpD} {t:TyD} {c:List Value} {vt:Value} {s:σ} {l:List CnD} {r':Gh} {M:List Asr} {w:World} {K:Value→World→Prop} [le:Le r r'] (ho:OpG r' c o) (ht:TyG r' vt t)
  (hg:X6 o=true→(0≤o.pl.l∧o.pl.l.toNat<tys.length)∧Two (yq ss tys o.pl) t) (hJ:J s l) (hl:l.length≤999900) (S:StX X w0 r' w (Lc s++M))
  (h:∀s' w',J s' (l++flO ss tys o t)→StX X w0 r' w' (Lc s'++M)→K (.tuple #[]) w'):
  zu Tryz.prog (.func (.func Tryz.k6) #[] #[.pointer (some ⟨b10,0,none⟩),.pointer (some ⟨b9,0,none⟩)]) #[.agg c.toArray,vt] w K:=by
 refine agf (by kernel_rfl) ?_
 refine Tryz.Qa ?_
 unfold Tryz.vB
 obtain⟨v,rfl,hpl⟩:=ho
 obtain⟨qs,caps,rfl,_,_⟩:=hpl.sl.shape
 have ht0:=ht
 obtain⟨p1,cap1,rfl,_⟩:=ht
 refine S.box λb4 w1 S=>?_
 refine S.box λb5' w2 S=>?_
 have S:StX X w0 r' w2 (.cell b5' (tyL t p1 cap1) 43::.cell b4 [.int .u8 o.k,.int .i64 o.n,.int .i64 o.pl.l,.slice qs o.pl.ps.length caps] 93::(Lc s++M)):=S
 refine gg_ ?_
 refine zi (c:=decide (o.k=4)) (λ_ K2 hK2=>by refine gg_ ?_;exact hK2) ?_
 refine c_b (λhb=>?_) (λhb=>?_)
 ·have hpl':X6 o=true:=hb
  obtain⟨⟨g0,g1⟩,gB,gB2,gb⟩:=hg hpl'
  have S:=S.go (Ext.drew _)
  refine zh (S.at (h10.up (s:=r'))) ?_
  refine gg_ ?_
  refine S.ldN (b:=b4) (vs:=[.int .i64 o.pl.l,.slice qs o.pl.ps.length caps]) ?_
  refine S.ldB (b:=b5') ?_ rfl
  refine zh (S.at (h9.up (s:=r'))) ?_
  refine Q3 S.holds (hP.up (q':=r')) (c:=[.int .i64 o.pl.l,.slice qs o.pl.ps.length caps]) (p:=o.pl) ⟨_,rfl,hpl⟩ g0 g1 λp' cap' s7 w7 e7 n7 h7=>⟨e7,?_⟩
  obtain⟨S,_,_⟩:=S.tell e7 n7
  have hf:=JA 48 (both:=false) (t:=yq ss tys o.pl) (u:=t)
  refine kW (r':=r'.or s7) (hT.up le) 48 gB gB2 gb hJ (by omega) (TyG.up h7) (TyG.up ht0) (S.permO xP) λs2 w8 hJ2 S=>?_
  refine h s2 _ ?_ (StX.tl (StX.tl (((S.permO xP.symm).less (λb o h=>.inl h) (List.Sublist.refl _)))))
  rw[flO,if_pos hpl']
  exact hJ2
 ·refine h s _ ?_ S.tl.tl
  have hno:¬X6 o=true:=by rw[X6,hb];decide
  rw[flO,if_neg hno,List.append_nil];exact hJ
end
theorem acE{ss:List StD}{tys:List TyD}{rgs:List Int}{t:TyD}{a q:Int}{b5 b6 b8:Nat}{v:Value}{w:World}{r:Gh}{K:Value→World→Prop}(hr:Holds r w)(hP:PntG r b5 b6 ss tys rgs)(h8:Ob r λw=>w.cell? ⟨b8,0,none⟩=some (.int .i64 q))
  (hq0:0≤q) (hq:q.toNat<rgs.length) (ha:rgs[q.toNat]=a) (hB:isB t=true) (hreg:∀x∈t.regs,0≤x∧x<8) (ha2: -1≤a∧a≤1000000) (hv:TyG r v t)
  (h:∀p' cap' s w',Ext w w'→New w s w'→TyG s (tyV (yk (max a 0) t) p' cap') (yk (max a 0) t)→K (tyV (yk (max a 0) t) p' cap') w'):
  zu Tryz.prog (.func (.func Tryz.k7) #[] #[.pointer (some ⟨b6,0,none⟩),.pointer (some ⟨b8,0,none⟩)]) #[v] w K:=by
 refine Qp (by kernel_rfl) ?_
 refine Tryz.Qb ?_
 unfold Tryz.vC
 obtain⟨_,_,_,q2,c2,hA,hAs⟩:=hP
 have hv0:=hv
 obtain⟨p1,cap1,rfl,_⟩:=hv
 have S:=St.start hr
 refine S.box λb3 w1 S=>?_
 refine S.al λb4 w2 S=>?_
 have S:StX noX w r w2 [.cell b4 qw 43,.cell b3 (tyL t p1 cap1) 43]:=S
 refine S.ldB (b:=b3) ?_ rfl
 have hrT:zy t=t.regs:=by rw[zy,hB];rfl
 refine xn S.holds hv0 λv' w3 e3 h3=>?_
 have S:=S.take e3 h3
 rw[hrT]at S
 obtain⟨p3,cap3,rfl,_⟩:=S.rowS v'
 have hrf:t.regs.length≤48:=qO hB
 have hit:yk (max a 0) t=t.lay (t.regs.map λk=>max a 0+k):=by rw[yk,hrT]
 rw[hit]at h
 obtain⟨zs,hzs,hzl,hzi,hlow⟩:∃zs:List Int,zs=(t.regs.map λk=>max a 0+k)∧zs.length=t.regs.length∧(∀i (h:i<t.regs.length) (h2:i<zs.length),zs[i]=t.regs[i]+max a 0)∧∀x∈zs,-1≤x:=
  ⟨_,rfl,List.length_map _,λi h h2=>by rw[List.getElem_map];omega,λx hx=>by
   obtain⟨k,hk,rfl⟩:=List.mem_map.1 hx
   have:=(hreg k hk).1
   omega⟩
 rw[← hzs]at h
 clear hzs hit
 have S:StX noX w r w3 [.row (.slice p3 t.regs.length cap3) 3 1 t.regs.length (ints (zs.take 0++t.regs.drop 0)),.cell b4 qw 43,.cell b3 (tyL t p1 cap1) 43]:=S
 refine gg_ ?_
 refine zk (ι:=Nat) (λi=>[.int .i64 (i:Nat)]) (λi w'=>i≤t.regs.length∧StX noX w r w' [.row (.slice p3 t.regs.length cap3) 3 1 t.regs.length (ints (zs.take i++t.regs.drop i)),.cell b4 qw 43,.cell b3 (tyL t p1 cap1) 43]) (λi=>t.regs.length-i) 0 rfl ⟨Nat.zero_le _,S⟩ ?_
 repeat clear S
 rintro i d w7 ⟨hi,S⟩ K4 hK4
 rw[gdz]
 refine gp_ ?_
 refine zj (λhlt=>?_) (λhge=>?_)
 ·have hlt:i<t.regs.length:=by omega
  have S:=S.go (Ext.drew _)
  obtain⟨bb,c,hpb,hct,hcl,T,hback⟩:=StX.atRow S (by omega)
  obtain⟨ba,oa,hpa,_,hca⟩:=qQ hAs hq
  repeat clear S
  subst hpb
  subst hpa
  have S:=T
  rw[ha]at hca
  have hci:c[0+((i:Nat):Int).toNat]? = some (.int .i64 t.regs[i]):=by
   rw[Nat.zero_add,tnc]
   have h3:(c.take t.regs.length)[i]? = some (.int .i64 t.regs[i]):=by
    rw[hct,ints,List.getElem?_map,adA (by omega) hlt];rfl
   rwa[List.getElem?_take,if_pos hlt]at h3
  have hri:=hreg _ (List.getElem_mem hlt)
  have hri2:=hzi i hlt (by omega)
  refine gg_ ?_
  refine S.ld (b:=bb) (v:=.int .i64 t.regs[i]) ?_ hci
  refine gg_ ?_
  refine zh (S.at hA) ?_
  refine zh (S.at h8) ?_
  refine gg_ ?_
  refine zh (S.at hca) ?_
  refine gg_ ?_
  refine S.st (b:=bb) (λw8 S=>?_) (List.getElem?_eq_some_iff.1 hci).1
  have S:=hback _ _ (List.length_set ..) S
  have he:(c.set (0+((i:Nat):Int).toNat) (.int .i64 (t.regs[i]+max a 0))).take t.regs.length=ints (zs.take (i+1)++t.regs.drop (i+1)):=by
   rw[Nat.zero_add,tnc,List.take_set,hct,ints,ints,← List.map_set,← hri2,acA (by omega) hlt]
  rw[he]at S
  refine gg_ ?_
  exact hK4 (i+1) _ ⟨hlt,S⟩ (by omega)
 ·have hie:i=t.regs.length:=by omega
  subst hie
  rw[List.take_of_length_le (by omega),List.drop_length,List.append_nil]at S
  obtain⟨s2,S,hs,_,ha3⟩:=S.doneRow (l:=zs) jM (by decide) (by omega)
  refine S.ldB (b:=b3) ?_ rfl
  rw[← hzl]at hs
  rw[← hzl]
  refine XQ S.holds hv0.up (ads (s:=r.or s2) hs.cells) (by omega) λv9 sn w9 e9 n9 h9 _=>?_
  obtain⟨S,_,ha9⟩:=S.tell e9 n9
  have hAn:ja t zs=(t.lay zs,0):=by
   rw[ja,if_pos]
   rw[vM,hB,decide_eq_true hzl.symm,Bool.true_and,Bool.true_and,Bool.not_eq_true',List.any_eq_false]
   intro x hx
   have:=hlow x hx
   simp;omega
  rw[hAn]at h9
  have h90:=h9
  obtain⟨p9,cap9,rfl,_⟩:=h9
  refine gS_ ?_
  refine S.stB (b:=b3) λw10 S=>?_
  refine S.ldB (b:=b3) ?_ rfl
  refine S.stB (b:=b4) λw11 S=>?_
  refine S.ceB (b:=b4) ?_ rfl
  exact h p9 cap9 sn _ S.ext (S.newOf ha9) h90
noncomputable abbrev tyD(u:UnD)(g:GrD)(p:PlD):TyD:=yq u.ss (zf u g).tys p
theorem agT{ss:List StD}{tys:List TyD}{o:OpD}(h:(z7 ss tys o).2=true)(hp:X6 o=true):(zz ss tys o.pl).2.2=true∧(z7 ss tys o).1=(zz ss tys o.pl).1:=by
 rw[X6,Bool.or_eq_true,decide_eq_true_eq,decide_eq_true_eq]at hp
 rw[z7]at h⊢
 rcases hp with hk|hk
 ·rw[if_neg (by omega),if_neg (by omega),if_pos hk]at h⊢
  simp only[Bool.and_eq_true]at h
  exact⟨h.1.1,rfl⟩
 ·rw[if_neg (by omega),if_neg (by omega),if_neg (by omega),if_pos hk]at h⊢
  simp only[Bool.and_eq_true]at h
  exact⟨h.1.1.1,rfl⟩
structure aao(u:UnD)(g:GrD)(p:PlD):Prop where
 l0:0≤p.l
 l1:p.l.toNat<(zf u g).tys.length
 is:isB (tyD u g p)=true
 bare:bare (tyD u g p)=bare (zz u.ss g.tys p).1
 all:yB u.ss (zf u g).tys p=(tyD u g p,0)
def acF(u:UnD)(g:GrD)(o:OpD)(t:TyD):Prop:=X6 o=true→(0≤o.pl.l∧o.pl.l.toNat<(zf u g).tys.length)∧Two (tyD u g o.pl) t
section
variable {u:UnD} {g:GrD} {fn:Nat} {p:PtD}
theorem aap(hM:MayU u)(hH:HeadU u fn g){p:PlD}(ho:(zz u.ss g.tys p).2.2=true):aao u g p:=by
 obtain⟨h2,_,h3,h4⟩:=ahC (n:=0) hM hH ho
 have hl:=afP ho
 exact⟨hl.1,by rw[(Zx).1];omega,h3,h4,h2⟩
theorem afV(hM:MayU u)(hH:HeadU u fn g){o:OpD}{t:TyD}(ho:(z7 u.ss g.tys o).2=true)(ht:isB t=true)(hb:bare t=bare (z7 u.ss g.tys o).1):acF u g o t:=λhp=>by
 obtain⟨h1,h2⟩:=agT ho hp
 have h:=aap hM hH h1
 exact⟨⟨h.l0,h.l1⟩,h.is,ht,by rw[h.bare,hb,h2]⟩
theorem ahE(hM:MayU u)(hH:HeadU u fn g)(hp:zV u g p=true)(hop:p.op=1):aao u g p.to∧acF u g p.a (tyD u g p.to):=by
 have h2:=Y7 hp
 rw[ptG]at h2
 simp only[hop,Int.reduceEq,if_false,if_true,Bool.and_eq_true,decide_eq_true_eq,isK]at h2
 obtain⟨⟨⟨_,hto,_⟩,ha⟩,hal⟩:=h2
 have h:=aap hM hH hto
 exact⟨h,afV hM hH ha h.is (by rw[h.bare];exact(kf hal).2.2.symm)⟩
theorem adB(hM:MayU u)(hH:HeadU u fn g){p:PlD}(ho:(zz u.ss g.tys p).2.2=true):isB (zz u.ss g.tys p).1=true:=
 (aaI (hH.fine hM.ok) ho).is (hH.fine hM.ok).few
theorem ahF(hM:MayU u)(hH:HeadU u fn g)(hp:zV u g p=true)(hop:p.op=5):aao u g p.to∧∃y,(tyD u g p.to).of=[y]∧acF u g p.a y:=by
 have h2:=Y7 hp
 rw[ptG]at h2
 simp only[hop,Int.reduceEq,if_false,if_true,Bool.and_eq_true,decide_eq_true_eq,isK]at h2
 obtain⟨⟨⟨⟨_,hto,_⟩,ha⟩,hk⟩,hal⟩:=h2
 have h:=aap hM hH hto
 refine⟨h,?_⟩
 have hs:=adB hM hH hto
 rcases ZZ (n:=47) h.is hs h.bare with⟨h1,h3,h4⟩|⟨x,y,h1,h3,h4,h5,h6⟩
 ·rw[h3]at hal
  have:=(kf hal).1
  cases this
 ·rw[h3]at hal
  have hal:=(kf hal).2.2
  exact⟨x,h1,afV hM hH ha (XU h4 (by decide) (Int.le_refl _)) (by rw[h6];exact hal)⟩
theorem aeZ{a:Int}(hM:MayU u)(hH:HeadU u fn g)(hp:zV u g p=true)(hop:p.op=4)(ha: -1≤a):aao u g p.to∧aao u g p.fr∧(zz u.ss g.tys p.fr).2.2=true∧Two (.mk 4 p.mu a 0 [tyD u g p.fr]) (tyD u g p.to):=by
 have h2:=Y7 hp
 rw[ptG]at h2
 simp only[hop,Int.reduceEq,if_false,if_true,Bool.and_eq_true,decide_eq_true_eq,isK]at h2
 obtain⟨⟨⟨⟨⟨_,hto,_⟩,hfr⟩,hk⟩,hm⟩,hal,_⟩:=h2
 have h:=aap hM hH hto
 have hf:=aap hM hH hfr
 refine⟨h,hf,hfr,?_⟩
 have hs:=adB hM hH hto
 obtain⟨k1,k2,k3⟩:=aaS h.bare
 rcases ZZ (n:=47) h.is hs h.bare with⟨h1,h3,h4⟩|⟨x,y,h1,h3,h4,h5,h6⟩
 ·omega
 ·rw[h3]at hal
  have hal:=(kf hal).2.2
  have hb:bare (tyD u g p.to)=bare (.mk 4 p.mu a 0 [tyD u g p.fr]):=by
   refine aag (u:=x) (x:=tyD u g p.fr) (by rw[k1];exact hk) (by rw[k2];exact hm) ?_ (λh=>absurd (by rw[k1];exact hk) h) h1 rfl (by rw[h6,hf.bare];exact hal)
   show(tyD u g p.to).st=0
   have:=h.is
   rw[isB,yo,if_neg (by omega),if_neg (by omega),if_neg (by omega),if_pos (by omega)]at this
   simp only[Bool.and_eq_true,decide_eq_true_eq]at this
   omega
  refine⟨aeQ 48 h.is hb (λh=>absurd rfl h) (λz hz=>?_) (λ_=>ha),h.is,hb.symm⟩
  cases hz;exact⟨48,hf.is⟩
structure aif(u:UnD)(g:GrD)(p:PtD)(a:Int)(f:GrD):Prop where
 to:aao u g p.to
 fn0:0≤p.fn
 get:u.fs[p.fn.toNat]? = some f
 len:p.args.length=f.pn.toNat
 tys:f.pn.toNat+1≤f.tys.length
 pn8:f.pn.toNat≤8
 is:∀j (h:j<f.tys.length),j≤f.pn.toNat→isB f.tys[j]=true∧∀x∈f.tys[j].regs,0≤x∧x<8∧x<f.lv
 arg:∀i (h:i<p.args.length) (h2:i+1<f.tys.length),acF u g p.args[i] (yk (max a 0) f.tys[i+1])
 ans:∀h:0<f.tys.length,Two (yk (max a 0) f.tys[0]) (tyD u g p.to)
 head:HeadU u p.fn.toNat f
theorem ae0{a:Int}(hM:MayU u)(hH:HeadU u fn g)(hp:zV u g p=true)(hop:p.op=7):∃f,aif u g p a f:=by
 have hpc:=Y6 hp hop
 have hltf:p.fn.toNat<u.fs.length:=by omega
 have h2:=Y7 hp
 rw[ptG]at h2
 simp only[hop,Int.reduceEq,if_false,if_true,Bool.and_eq_true,decide_eq_true_eq,gqg hltf]at h2
 obtain⟨⟨⟨_,hto,_⟩,_⟩,hal,hargs⟩:=h2
 obtain⟨hlen,hat⟩:=aco hargs
 have hHf:=hM.hd hltf
 have hff:=hHf.fine hM.ok
 have h:=aap hM hH hto
 have hget:u.fs[p.fn.toNat]? = some u.fs[p.fn.toNat]:=gqg hltf
 generalize u.fs[p.fn.toNat]=f at hHf hff hal hlen hat hget
 have hpn1:=hHf.pn1
 have hpn0:=hHf.pn0
 have hpn8:=hHf.pn8
 have hlv8:=hHf.lv8
 have his:∀j (h:j<f.tys.length),j≤f.pn.toNat→isB f.tys[j]=true∧∀x∈f.tys[j].regs,0≤x∧x<8∧x<f.lv:=λj hj hjp=>by
  have hB:=(hff.all _ (List.getElem_mem hj)).is hff.few
  have hrT:zy f.tys[j]=f.tys[j].regs:=by rw[zy,hB];rfl
  have hr:=Jt hHf.tys hj (by omega)
  rw[hrT]at hr
  refine⟨hB,λx hx=>?_⟩
  have:=hr x hx
  omega
 have hins:∀j (h:j<f.tys.length),j≤f.pn.toNat→isB (yk (max a 0) f.tys[j])=true∧bare (yk (max a 0) f.tys[j])=bare f.tys[j]:=λj hj hjp=>by
  obtain⟨hB,hr⟩:=his j hj hjp
  exact aeS hB (λx hx=>(hr x hx).1) λ_=>by omega
 rw[List.length_take,List.length_drop]at hlen
 have hlen2:p.args.length=f.pn.toNat:=by omega
 refine⟨f,h,hpc.1,hget,hlen2,by omega,by omega,his,λi hi h2=>?_,λh0=>?_,hHf⟩
 ·obtain⟨h3,h4⟩:=hat i hi (by rw[List.length_take,List.length_drop];omega)
  have h4:=(kf h4).2.2
  simp only[List.getElem_take,List.getElem_drop]at h4
  obtain⟨h5,h6⟩:=hins (i+1) h2 (by omega)
  refine afV hM hH h3 h5 ?_
  rw[h6,h4]
  congr 2
  omega
 ·obtain⟨h5,h6⟩:=hins 0 h0 (by omega)
  have hhd:f.tys.headD zB=f.tys[0]:=by rw[List.headD_eq_head?_getD,List.head?_eq_getElem?,gqg h0,Option.getD_some]
  rw[hhd]at hal
  exact⟨h5,h.is,by rw[h6,h.bare];exact(kf hal).2.2.symm⟩
end
def fvU(P:Program)(t:TypeId)(i:Nat):Option Nat:=match P.underlying t with
 |some (.struct fs)=>(fs[i]?).bind λf=>match P.underlying f.type with
  |some (.slice _)=>some f.offset
  |some (.int _)=>some f.offset
  |_=>none
 |_=>none
theorem aiu{P:Program}{t:TypeId}{i k:Nat}{cs:Array Value}{v:Value}{K:Value→Prop}(h:fvU P t i=some k)(hc:cs[k]? = some v)(hk:K v):opP P (Instr.field t (.agg cs) i) K:=by
 refine zT (λw=>?_) hk
 unfold fvU at h
 cases hu:P.underlying t with
 |none=>rw [hu]at h;cases h
 |some d=>
  rw[hu]at h
  cases d<;>first|cases h|skip
  rename_i fs
  simp only at h
  cases hf:fs[i]? with
  |none=>rw [hf]at h;cases h
  |some f=>
   rw[hf]at h
   simp only[Option.bind_some]at h
   cases hs:P.underlying f.type with
   |none=>rw [hs]at h;cases h
   |some m=>
    rw[hs]at h
    cases m<;>first|cases h|skip
    all_goals
     simp[Instr.field,asAgg,part,isAgg,Sem.run_bind,zq hu,zq hs,Result.andThen,hf,Sem.run,pure,hc]
structure PnW{σ:Type}(X:Nat→Prop)(w0:World)(r ρ:Gh)(fv:Value)(Lc:σ→List Asr)(J:σ→List CnD→Prop)(u:UnD)(g:GrD)(q a:Int)(b5 b6 b8 b9 b10:Nat):Prop where
 tk:Tk X w0 r fv Lc J
 le:Le r ρ
 isF:∃f x y,fv=.func f x y
 p:PntG ρ b5 b6 u.ss (zf u g).tys (zf u g).at'
 h8:Ob ρ λw=>w.cell? ⟨b8,0,none⟩=some (.int .i64 q)
 h9:Ob ρ λw=>w.cell? ⟨b9,0,none⟩=some fv
 h10:Ob ρ λw=>w.cell? ⟨b10,0,none⟩=some (Xa b5 b6)
 q0:0≤q
 q1:q.toNat<(zf u g).at'.length
 at':(zf u g).at'[q.toNat]=a
 a0: -1≤a
 a1:a≤1000000
 fns:∃pf cf,(Ob ρ λw=>w.cell? ⟨b5,1,none⟩=some (.slice pf u.fs.length cf))∧SlG 7 ρ (GrG ρ) (.slice pf u.fs.length cf) u.fs
abbrev rhoP(r':Gh)(b5 b6 b8 b9 b10:Nat)(cu cd:List Value)(q:Int)(fv:Value):Gh:=(((((r'.or (Go.Sh.one b5 cu 25)).or (Go.Sh.one b6 cd 74)).or (Go.Sh.one b8 [.int .i64 q] 3)).or (Go.Sh.one b9 [fv] 124)).or (Go.Sh.one b10 [Xa b5 b6] 190))
abbrev afW(b9 b10:Nat):Value:=.func (.func Tryz.k6) #[] #[.pointer (some ⟨b10,0,none⟩),.pointer (some ⟨b9,0,none⟩)]
section
variable {σ:Type} {X:Nat→Prop} {w0:World} {r ρ:Gh} {fv:Value} {Lc:σ→List Asr} {J:σ→List CnD→Prop} {u:UnD} {g:GrD} {q a:Int} {b5 b6 b8 b9 b10:Nat}
theorem PnW.typ(W:PnW X w0 r ρ fv Lc J u g q a b5 b6 b8 b9 b10){q':Gh}[le:Le ρ q']{c:List Value}{p:PlD}{w:World}{K:Value→World→Prop}(hr:Holds q' w)(hp:PlG q' c p)(h0:0≤p.l)(h1:p.l.toNat<(zf u g).tys.length)
  (h:∀p' cap' s w',Ext w w'→New w s w'→TyG s (tyV (tyD u g p) p' cap') (tyD u g p)→K (tyV (tyD u g p) p' cap') w'):zu Tryz.prog (Xa b5 b6) #[.agg c.toArray] w K:=
 Q3 hr (W.p.up (q':=q')) hp h0 h1 h
theorem PnW.flows(W:PnW X w0 r ρ fv Lc J u g q a b5 b6 b8 b9 b10){q':Gh}[le:Le ρ q']{o:OpD}{t:TyD}{c:List Value}{vt:Value}{s:σ}{l:List CnD}{M:List Asr}{w:World}{K:Value→World→Prop}(ho:OpG q' c o)(ht:TyG q' vt t)
  (hg:acF u g o t) (hJ:J s l) (hl:l.length≤999900) (S:StX X w0 q' w (Lc s++M)) (h:∀s' w',J s' (l++flO u.ss (zf u g).tys o t)→StX X w0 q' w' (Lc s'++M)→K (.tuple #[]) w'):zu Tryz.prog (afW b9 b10) #[.agg c.toArray,vt] w K:=
 abl (W.tk.up W.le) W.p W.h10 W.h9 (le:=le) ho ht hg hJ hl S h
theorem PnW.inst(W:PnW X w0 r ρ fv Lc J u g q a b5 b6 b8 b9 b10){q':Gh}[le:Le ρ q']{t:TyD}{v:Value}{w:World}{K:Value→World→Prop}(hr:Holds q' w)(hB:isB t=true)(hreg:∀x∈t.regs,0≤x∧x<8)(hv:TyG q' v t)
  (h:∀p' cap' s w',Ext w w'→New w s w'→TyG s (tyV (yk (max a 0) t) p' cap') (yk (max a 0) t)→K (tyV (yk (max a 0) t) p' cap') w'):
  zu Tryz.prog (.func (.func Tryz.k7) #[] #[.pointer (some ⟨b6,0,none⟩),.pointer (some ⟨b8,0,none⟩)]) #[v] w K:=
 acE hr (W.p.up (q':=q')) (W.h8.up (s:=q')) W.q0 W.q1 W.at' hB hreg ⟨W.a0,W.a1⟩ hv h
theorem PnW.use(W:PnW X w0 r ρ fv Lc J u g q a b5 b6 b8 b9 b10){s:σ}{l:List CnD}{M:List Asr}{w:World}{K:Value→World→Prop}{p:PtD}{fn:Nat}{ca cb:List Value}(hM:MayU u)(hH:HeadU u fn g)(hp:zV u g p=true)(hop:p.op=1)
  (hto:PlG ρ ca p.to) (ha:OpG ρ cb p.a) (hJ:J s l) (hl:l.length≤998000) (S:StX X w0 ρ w (Lc s++M)) (h:∀s' w',J s' (l++yx u (zf u g).tys p a)→StX X w0 ρ w' (Lc s'++M)→K (.tuple #[]) w'):
  zu Tryz.prog (Xa b5 b6) #[.agg ca.toArray] w λt w8=>Ext w w8∧zu Tryz.prog (afW b9 b10) #[.agg cb.toArray,t] w8 K:=by
 obtain⟨k1,k2⟩:=ahE hM hH hp hop
 refine W.typ S.holds hto k1.l0 k1.l1 λp' cap' s7 w7 e7 n7 h7=>⟨e7,?_⟩
 obtain⟨S,_,_⟩:=S.tell e7 n7
 refine W.flows (q':=ρ.or s7) (OpG.up ha) (TyG.up h7) k2 hJ (by omega) S λs2 w8 hJ2 S=>?_
 refine h s2 _ ?_ (S.less (λb o h=>.inl h) (List.Sublist.refl _))
 rw[yx,if_pos hop]
 exact hJ2
theorem PnW.box(W:PnW X w0 r ρ fv Lc J u g q a b5 b6 b8 b9 b10){s:σ}{l:List CnD}{M:List Asr}{w:World}{K:Value→World→Prop}{p:PtD}{fn:Nat}{ca cb:List Value}(hM:MayU u)(hH:HeadU u fn g)(hp:zV u g p=true)(hop:p.op=5)
  (hto:PlG ρ ca p.to) (ha:OpG ρ cb p.a) (hJ:J s l) (hl:l.length≤998000) (S:StX X w0 ρ w (Lc s++M)) (h:∀s' w',J s' (l++yx u (zf u g).tys p a)→StX X w0 ρ w' (Lc s'++M)→K (.tuple #[]) w'):
  zu Tryz.prog (Xa b5 b6) #[.agg ca.toArray] w λt w8=>Ext w w8∧opP Tryz.prog (Instr.field 43 t 4) λt44=>Tryz.xl w8 41 t44 (.int .i64 0) 43 λt46=>zu Tryz.prog (afW b9 b10) #[.agg cb.toArray,t46] w8 K:=by
 obtain⟨k1,y,k2,k3⟩:=ahF hM hH hp hop
 refine W.typ S.holds hto k1.l0 k1.l1 λp' cap' s7 w7 e7 n7 h7=>⟨e7,?_⟩
 obtain⟨S,_,_⟩:=S.tell e7 n7
 have h70:=h7
 obtain⟨p1,cap1,hE,_,_,hof⟩:=h7
 cases hE
 have l1:(tyD u g p.to).of.length=1:=by rw[k2];rfl
 obtain⟨ba,oa,rfl,c,hc,hcell,hx⟩:=NdG.of hof (i:=0) (by omega)
 have hx:TyG s7 (.agg c.toArray) y:=by simpa [k2]using hx
 refine aiu (k:=4) (v:=.slice (some ⟨ba,oa,none⟩) (tyD u g p.to).of.length cap') (by kernel_rfl) rfl ?_
 refine gg_ ?_
 refine zt (n:=5) hc (λj v hj=>by simpa using S.at ((hcell j v hj).up (s:=ρ.or s7))) ?_
 refine W.flows (q':=ρ.or s7) (OpG.up ha) (TyG.up hx) k3 hJ (by omega) S λs2 w8 hJ2 S=>?_
 refine h s2 _ ?_ (S.less (λb o h=>.inl h) (List.Sublist.refl _))
 rw[yx,if_neg (by omega),if_pos hop,k2]
 exact hJ2
theorem ae1{P:Program}{t e:TypeId}{n:Nat}{p:Option Addr}{len cap:Nat}{kd:IntKind}{i:Int}{K:Value→Prop}(h:slT P t=some (e,n))(h0:0≤i)(h1:i≤cap)
  (k:K (.slice p i.toNat i.toNat)):opP P (Instr.sliceAt t (.slice p len cap) none (some (.int kd i)) (some (.int kd i))) K:=by
 refine zT (λw=>?_) k
 unfold slT at h
 cases hu:P.underlying t with
 |none=>rw [hu]at h;cases h
 |some d=>
  rw[hu]at h
  cases d<;>first|cases h|skip
  rename_i e'
  simp only[Option.map_eq_some_iff,Prod.mk.injEq]at h
  obtain⟨m,hs,rfl,rfl⟩:=h
  cases p with
  |none=>simp [Instr.sliceAt,Instr.slice,Instr.sliceBounds,Instr.sliceBound,asIntOf,Sem.run_bind,zq hu,Result.andThen,Sem.run,pure,h0,h1,Int.max_eq_left h0,zO hs]
  |some a=>simp [Instr.sliceAt,Instr.slice,Instr.sliceBounds,Instr.sliceBound,asIntOf,Sem.run_bind,zq hu,Result.andThen,Sem.run,pure,h0,h1,Int.max_eq_left h0,zO hs,Addr.add]
theorem afX{ρ:Gh}{q1:Option Addr}{c1 n:Nat}{ps:List Int}(h:SlB 1 ρ Yi (.slice q1 ps.length c1) ps)(hn:n≤ps.length):SlB 1 ρ Yi (.slice q1 n n) (ps.take n):=by
 obtain⟨⟨p',cap',hE,h2,h3,h4⟩,h5⟩:=h
 cases hE
 have hl:(ps.take n).length=n:=by rw[List.length_take];omega
 refine⟨⟨q1,n,by rw[hl],λe=>?_,by omega,λi hi=>?_⟩,by omega⟩
 ·have:=h2 e;omega
 ·obtain⟨c,k1,k2,k3⟩:=h4 i (by omega)
  exact⟨c,k1,k2,by rw[List.getElem_take];exact k3⟩
theorem aby{α:Type}{A M:List α}{x y z:α}:(A++x::y::z::M).Perm (x::y::z::(A++M)):=List.perm_middle.trans (List.Perm.cons _ xP)
theorem PnW.brw(W:PnW X w0 r ρ fv Lc J u g q a b5 b6 b8 b9 b10){s:σ}{l:List CnD}{M:List Asr}{w:World}{K:Value→World→Prop}{p:PlD}{cs:List Value}{q5:Option Addr}{c5 b7:Nat}
  (h0:0≤p.l) (h1:p.l.toNat<(zf u g).tys.length) (h8:p.ps.length≤8) (hpl:SlB 1 ρ Yi (.slice q5 p.ps.length c5) p.ps) (hL:cs[13]? = some (.int .i64 p.l)) (hS:cs[14]? = some (.slice q5 p.ps.length c5))
  (hJ:J s l) (hl:l.length≤999900) (S:StX X w0 ρ w (.cell b7 cs 96::(Lc s++M)))
  (h:∀s' w',J s' (l++jD (λn=>tyD u g ⟨p.l,p.ps.take n⟩) a p.ps.length)→StX X w0 ρ w' (Lc s'++M)→K (.tuple #[]) w'):
  zx [.int .i64 ((p.ps.length:Int)-1)] w (λs30 _d31 w32 K29=>
 Tryz.bt .geq 3 (s30.getD 0 u_) (.int .i64 0) λt76=>zc t76 (za (λK33=>
 za (λK37=>
 Tryz.lo w32.drew 190 (.pointer (some ⟨b10,0,none⟩)) λt79=>Tryz.pf 96 (.pointer (some ⟨b7,0,none⟩)) 6 λt80=>Tryz.fl w32.drew t80 80 0 3 λt82=>Tryz.pf 96 (.pointer (some ⟨b7,0,none⟩)) 6 λt83=>Tryz.fl w32.drew t83 80 1 78 λt85=>Tryz.pp (Instr.sliceAt 78 t85 none (some (s30.getD 0 u_)) (some (s30.getD 0 u_))) λt88=>Tryz.pp (Instr.build 80 #[(0,t82),(1,t88)]) λt89=>((Tryz.cv t79 #[t89] w32.drew λt90 w41=>
 Tryz.pw w41 (Instr.alloc 43 true (.tuple #[])) λt14 w42=>
 Ext w41 w42∧
 Tryz.so w42 43 t14 t90 λw43=>K37 [t14] w43)∧
 (Tryz.pw w32.drew (Instr.alloc 43 true (.tuple #[])) λt14_45 w44=>
 Ext w32.drew w44∧
 Tryz.cv t79 #[t89] w44 λt90_47 w46=>
 Tryz.so w46 43 t14_45 t90_47 λw48=>K37 [t14_45] w48))) (λs38 _d39 w40=>
 Tryz.fl w40 (s38.getD 0 u_) 43 0 40 λt92=>Tryz.bt .neq 40 t92 (Value.int .u8 4) λt93=>zc t93 (K33 [] w40) (Tryz.lo w40.drew 124 (.pointer (some ⟨b9,0,none⟩)) λt94=>Tryz.fl w40.drew (s38.getD 0 u_) 43 2 3 λt96=>Tryz.fl w40.drew (.pointer (some ⟨b6,0,none⟩)) 74 4 55 λt98=>Tryz.lo w40.drew 3 (.pointer (some ⟨b8,0,none⟩)) λt99=>Tryz.xl w40.drew 55 t98 t99 3 λt101=>Tryz.cv t94 #[t96,t101] w40.drew λ_t102 w49=>
 Tryz.fl w49 (s38.getD 0 u_) 43 1 4 λt104=>Tryz.pp (Op.unary .not t104) λt105=>zc t105 (K (.tuple #[]) w49) (K33 [] w49)))) (λ_s34 _d35 w36=>
 Tryz.bt .sub 3 (s30.getD 0 u_) (.int .i64 1) λt78=>K29 [t78] w36)) (K (.tuple #[]) w32)):=by
 obtain⟨_,_,_,q2,c2,hA,hAs⟩:=W.p
 obtain⟨ba,oa,hpa,_,hca⟩:=qQ hAs W.q1
 subst hpa
 rw[W.at']at hca
 have ha0:=W.a0
 have ha1:=W.a1
 have hq0:=W.q0
 have hq1:=W.q1
 refine zk (ι:=Nat) (λm=>[.int .i64 ((m:Int)-1)]) (λm w'=>m≤p.ps.length∧∃s pre,pre++jD (λn=>tyD u g ⟨p.l,p.ps.take n⟩) a m=jD (λn=>tyD u g ⟨p.l,p.ps.take n⟩) a p.ps.length∧J s (l++pre)∧StX X w0 ρ w' (.cell b7 cs 96::(Lc s++M))) id p.ps.length rfl ⟨Nat.le_refl _,s,[],rfl,by rwa[List.append_nil],S⟩ ?_
 repeat clear S
 rintro m d w7 ⟨hm,s,pre,hpre,hJ,S⟩ K4 hK4
 rw[gdz]
 refine gp_ ?_
 refine zj (λhge=>?_) (λhlt=>?_)
 ·obtain⟨n,rfl⟩:∃n,m=n+1:=⟨m-1,by omega⟩
  have hni:((n+1:Nat):Int)-1=(n:Int):=by omega
  rw[hni]
  have hprel:pre.length≤8:=by
   have h2:=congrArg List.length hpre
   rw[List.length_append]at h2
   have:=JB (f:=λn=>tyD u g ⟨p.l,p.ps.take n⟩) (a:=a) (n:=p.ps.length)
   omega
  have hcap:p.ps.length≤c5:=by
   obtain⟨_,_,hE,_,h3,_⟩:=hpl.sl
   cases hE;exact h3
  refine zr (λx w'=>x=[]∧∃s pre,pre++jD (λn=>tyD u g ⟨p.l,p.ps.take n⟩) a n=jD (λn=>tyD u g ⟨p.l,p.ps.take n⟩) a p.ps.length∧J s (l++pre)∧StX X w0 ρ w' (.cell b7 cs 96::(Lc s++M))) (λK3 hK3=>?_) ?_
  ·refine zr (λx w'=>∃b s7 p' cap',x=[.pointer (some ⟨b,0,none⟩)]∧StX X w0 (ρ.or s7) w' (.cell b (tyL (tyD u g ⟨p.l,p.ps.take n⟩) p' cap') 43::.cell b7 cs 96::(Lc s++M))) (λK5 hK5=>?_) ?_
   ·have S:=S.go (Ext.drew _)
    refine zh (S.at W.h10) ?_
    refine gp_ ?_
    refine gp_ ?_
    refine S.ld (b:=b7) (v:=.int .i64 p.l) ?_ hL
    refine gp_ ?_
    refine gp_ ?_
    refine S.ld (b:=b7) (v:=.slice q5 p.ps.length c5) ?_ hS
    refine ae1 (e:=84) (n:=1) (p:=q5) (i:=(n:Int)) (by kernel_rfl) (by omega) (by omega) ?_
    rw[tnc]
    refine zp (cs:=#[.int .i64 p.l,.slice q5 n n]) (by kernel_rfl) ?_
    have hpp:PlG ρ [.int .i64 p.l,.slice q5 n n] ⟨p.l,p.ps.take n⟩:=⟨_,rfl,afX hpl (by omega)⟩
    refine⟨?_,?_⟩
    ·refine W.typ S.holds hpp h0 h1 λp' cap' s7 w8 e8 n8 h8'=>?_
     obtain⟨S,_,_⟩:=S.tell e8 n8
     refine S.alU λb w9 S=>?_
     refine S.stB (b:=b) λw10 S=>?_
     exact hK5 _ _ ⟨b,s7,p',cap',rfl,S⟩
    ·refine S.alU λb w9 S=>?_
     refine W.typ S.holds hpp h0 h1 λp' cap' s7 w8 e8 n8 h8'=>?_
     obtain⟨S,_,_⟩:=S.tell e8 n8
     refine S.stB (b:=b) λw10 S=>?_
     exact hK5 _ _ ⟨b,s7,p',cap',rfl,S⟩
   ·repeat clear S
    rintro _ w8 ⟨b,s7,p',cap',rfl,S⟩ d
    rw[gdz]
    have S:StX X w0 ρ w8 (.cell b (tyL (tyD u g ⟨p.l,p.ps.take n⟩) p' cap') 43::.cell b7 cs 96::(Lc s++M)):=S.less (λb o h=>.inl h) (List.Sublist.refl _)
    refine gg_ ?_
    refine zj (λhk=>?_) (λhk=>?_)
    ·refine hK3 _ _ ⟨rfl,s,pre,?_,hJ,S.tl⟩
     rw[← hpre,jD,if_pos (by simpa using hk)]
    ·have hk:(tyD u g ⟨p.l,p.ps.take n⟩).k=4:=by omega
     have S:=S.go (Ext.drew _)
     refine zh (S.at W.h9) ?_
     refine gg_ ?_
     refine zh (S.at hA) ?_
     refine zh (S.at W.h8) ?_
     refine gg_ ?_
     refine zh (S.at hca) ?_
     refine W.tk s _ _ _ ρ _ _ _ W.le hJ (by rw[List.length_append];omega) (S.permO xP) λs1 _ w9 hJ1 S=>?_
     have S:StX X w0 ρ w9 (.cell b (tyL (tyD u g ⟨p.l,p.ps.take n⟩) p' cap') 43::.cell b7 cs 96::(Lc s1++M)):=S.permO xP.symm
     rw[List.append_assoc]at hJ1
     refine gg_ ?_
     rw[jD,if_neg (by omega)]at hpre
     refine c_b (λhb=>?_) (λhb=>?_)
     ·have hb:(tyD u g ⟨p.l,p.ps.take n⟩).m=false:=by simpa using hb
      refine h s1 _ ?_ S.tl.tl
      rw[if_neg (by rw[hb];decide)]at hpre
      rw[← hpre];exact hJ1
     ·have hb:(tyD u g ⟨p.l,p.ps.take n⟩).m=true:=by simpa using hb
      rw[if_pos hb]at hpre
      exact hK3 _ _ ⟨rfl,s1,_,by rw[List.append_assoc];exact hpre,hJ1,S.tl⟩
  ·repeat clear S
   rintro _ w8 ⟨rfl,s,pre,hpre,hJ,S⟩ d
   refine gp_ ?_
   exact hK4 n _ ⟨by omega,s,pre,hpre,hJ,S⟩ (by show n<n+1;omega)
 ·obtain rfl:m=0:=by omega
  rw[jD,List.append_nil]at hpre
  rw[hpre]at hJ
  exact h s _ hJ S.tl
theorem Yl{α β:Type}{n:Nat}{f:α→List β}(h:∀x,(f x).length≤n):∀l:List α,(l.flatMap f).length≤n*l.length
 |[]=>Nat.zero_le _
 |x::l=>by
  have h1:=h x
  have h2:=Yl h l
  rw[List.flatMap_cons,List.length_append,List.length_cons,Nat.mul_add,Nat.mul_one]
  omega
theorem ZD{α β:Type}{f:α→List β}{l:List α}{i:Nat}(h:i<l.length):(l.take (i+1)).flatMap f=(l.take i).flatMap f++f l[i]:=by
 rw[← List.take_append_getElem h,List.flatMap_append,List.flatMap_singleton]
theorem Z4{r':Gh}[le:Le r r']{s:σ}{l:List CnD}{M:List Asr}{w:World}{K:Value→World→Prop}{p:PtD}{fn:Nat}{vu vd:Value}{c:List Value}(hT:Tk X w0 r fv Lc J)(hM:MayU u)(hH:HeadU u fn g)(hp:zV u g p=true)(hfv:∃f x y,fv=.func f x y)
  (hu:UnG r' vu u) (hd:RgG r' vd (zf u g)) (hpt:PtG r' c p) (hq0:0≤q) (hq1:q.toNat<(zf u g).at'.length) (hat:(zf u g).at'[q.toNat]=a) (ha0: -1≤a) (ha1:a≤1000000)
  (hJ:J s l) (hl:l.length≤998000) (S:StX X w0 r' w (Lc s++M)) (h:∀s' w',J s' (l++yx u (zf u g).tys p a)→StX X w0 r' w' (Lc s'++M)→K (.tuple #[]) w'):
  zd Tryz.prog Tryz.ko #[vu,vd,.agg c.toArray,.int .i64 q,fv] w K:=by
 refine Tryz.JH ?_
 unfold Tryz.Z2
 obtain⟨p0,cap0,vf,rfl,hn0,hc0,hss,hsl,hfs⟩:=hu
 obtain⟨pf,cf,rfl,hnf,hcf⟩:=hfs.sl.shape
 obtain⟨vl,va,rfl,htys,hats⟩:=hd
 obtain⟨q1,c1,rfl,hn1,hc1⟩:=htys.shape
 obtain⟨q2,c2,rfl,hn2,hc2⟩:=hats.shape
 obtain⟨x1,x2,x3,x4,x5,y1,y2,y3,y4,y5,rfl,hpt⟩:=aae hpt
 obtain⟨ff,fa,fb,rfl⟩:=hfv
 refine S.box λb5 w1 S=>?_
 refine S.box λb6 w2 S=>?_
 refine S.box λb7 w3 S=>?_
 refine S.box λb8 w4 S=>?_
 refine S.box λb9 w5 S=>?_
 refine gp_ ?_
 refine S.al λb10 w6 S=>?_
 refine S.stB (b:=b10) λw7 S=>?_
 refine gp_ ?_
 have S:StX X w0 r' w7 (.cell b10 [Xa b5 b6] 190::.cell b9 [.func ff fa fb] 124::.cell b8 [.int .i64 q] 3::.cell b7 (ptL p x1 x2 x3 x4 x5 y1 y2 y3 y4 y5) 96::.cell b6 (rgL (zf u g).lv (zf u g).pt (zf u g).ct (.slice q1 (zf u g).tys.length c1) (.slice q2 (zf u g).at'.length c2)) 74 ::
  .cell b5 [.slice p0 u.ss.length cap0,.slice pf u.fs.length cf,.int .i64 u.mn] 25::(Lc s++M)):=S
 have S:StX X w0 (rhoP r' b5 b6 b8 b9 b10 [.slice p0 u.ss.length cap0,.slice pf u.fs.length cf,.int .i64 u.mn] (rgL (zf u g).lv (zf u g).pt (zf u g).ct (.slice q1 (zf u g).tys.length c1) (.slice q2 (zf u g).at'.length c2)) q (.func ff fa fb)) w7 (.cell b7 (ptL p x1 x2 x3 x4 x5 y1 y2 y3 y4 y5) 96::(Lc s++M)):=((((S.frzAt b5).frzAt b6).frzAt b8).frzAt b9).frzAt b10
 have hback:∀{w':World}{L:List Asr},StX X w0 (rhoP r' b5 b6 b8 b9 b10 [.slice p0 u.ss.length cap0,.slice pf u.fs.length cf,.int .i64 u.mn] (rgL (zf u g).lv (zf u g).pt (zf u g).ct (.slice q1 (zf u g).tys.length c1) (.slice q2 (zf u g).at'.length c2)) q (.func ff fa fb)) w' L→StX X w0 r' w' L:=λS=>S.less (λb o h=>.inl (.inl (.inl (.inl (.inl h))))) (List.Sublist.refl _)
 have hle:Le r' (rhoP r' b5 b6 b8 b9 b10 [.slice p0 u.ss.length cap0,.slice pf u.fs.length cf,.int .i64 u.mn] (rgL (zf u g).lv (zf u g).pt (zf u g).ct (.slice q1 (zf u g).tys.length c1) (.slice q2 (zf u g).at'.length c2)) q (.func ff fa fb)):=inferInstance
 have W:PnW X w0 r (rhoP r' b5 b6 b8 b9 b10 [.slice p0 u.ss.length cap0,.slice pf u.fs.length cf,.int .i64 u.mn] (rgL (zf u g).lv (zf u g).pt (zf u g).ct (.slice q1 (zf u g).tys.length c1) (.slice q2 (zf u g).at'.length c2)) q (.func ff fa fb)) (.func ff fa fb) Lc J u g q a b5 b6 b8 b9 b10:=by
  refine⟨hT,⟨λb o ho=>hle.le b o (le.le b o ho)⟩,⟨_,_,_,rfl⟩,⟨⟨p0,cap0,?_,RepS.up hss⟩,⟨q1,c1,?_,htys.up' hle λ_ _ h=>TyG.up h⟩,?_,q2,c2,?_,hats.cells⟩,?_,?_,?_,hq0,hq1,hat,ha0,ha1,pf,cf,?_,hfs.sl.up' hle λ_ _ h=>GrG.up h⟩
  ·exact xe (c:=[.slice p0 u.ss.length cap0,.slice pf u.fs.length cf,.int .i64 u.mn]) (T:=25) rfl
  ·exact xe (c:=rgL (zf u g).lv (zf u g).pt (zf u g).ct (.slice q1 (zf u g).tys.length c1) (.slice q2 (zf u g).at'.length c2)) (T:=74) rfl
  ·rw[(Zx).1];have:=hH.ty512;omega
  ·exact xe (c:=rgL (zf u g).lv (zf u g).pt (zf u g).ct (.slice q1 (zf u g).tys.length c1) (.slice q2 (zf u g).at'.length c2)) (T:=74) rfl
  ·exact xe (c:=[.int .i64 q]) (T:=3) rfl
  ·exact xe (c:=[.func ff fa fb]) (T:=124) rfl
  ·exact xe (c:=[Xa b5 b6]) (T:=190) rfl
  ·exact xe (c:=[.slice p0 u.ss.length cap0,.slice pf u.fs.length cf,.int .i64 u.mn]) (T:=25) rfl
 generalize rhoP r' b5 b6 b8 b9 b10 [.slice p0 u.ss.length cap0,.slice pf u.fs.length cf,.int .i64 u.mn] (rgL (zf u g).lv (zf u g).pt (zf u g).ct (.slice q1 (zf u g).tys.length c1) (.slice q2 (zf u g).at'.length c2)) q (.func ff fa fb)=ρ at S hback hle W
 obtain⟨kto,ka0,kb,kargs,kfr⟩:=afJ hpt
 have kto:PlG ρ _ p.to:=PlG.up kto
 have ka:OpG ρ _ p.a:=OpG.up ka0
 have kfr:PlG ρ _ p.fr:=PlG.up kfr
 have fin:∀s' w',J s' (l++yx u (zf u g).tys p a)→StX X w0 ρ w' (.cell b7 (ptL p x1 x2 x3 x4 x5 y1 y2 y3 y4 y5) 96::(Lc s'++M))→K (.tuple #[]) w':=λs' w' hJ S=>h s' w' hJ (hback S.tl)
 refine gg_ ?_
 refine zj (λho=>?_) (λho1=>?_)
 ·have S:=S.go (Ext.drew _)
  refine gg_ ?_
  refine S.ldN (b:=b7) (vs:=[.int .u8 p.a.k,.int .i64 p.a.n,.int .i64 p.a.pl.l,.slice x2 p.a.pl.ps.length y2]) ?_
  refine zh (S.at W.h10) ?_
  refine gg_ ?_
  refine S.ldN (b:=b7) (vs:=[.int .i64 p.to.l,.slice x1 p.to.ps.length y1]) ?_
  exact W.use (K:=λ_ w9=>K (.tuple #[]) w9) hM hH hp ho kto ka hJ hl (S.permO List.perm_middle) λs' w' hJ S=>fin s' w' hJ (S.permO List.perm_middle.symm)
 refine gg_ ?_
 refine zj (λho=>?_) (λho5=>?_)
 ·have S:=S.go (Ext.drew _)
  refine gg_ ?_
  refine S.ldN (b:=b7) (vs:=[.int .u8 p.a.k,.int .i64 p.a.n,.int .i64 p.a.pl.l,.slice x2 p.a.pl.ps.length y2]) ?_
  refine zh (S.at W.h10) ?_
  refine gg_ ?_
  refine S.ldN (b:=b7) (vs:=[.int .i64 p.to.l,.slice x1 p.to.ps.length y1]) ?_
  exact W.box (K:=λ_ w9=>K (.tuple #[]) w9) hM hH hp ho kto ka hJ hl (S.permO List.perm_middle) λs' w' hJ S=>fin s' w' hJ (S.permO List.perm_middle.symm)
 refine gg_ ?_
 refine zj (λho=>?_) (λho4=>?_)
 ·obtain⟨k1,k2,k3,k4⟩:=aeZ (a:=a) hM hH hp ho ha0
  obtain⟨_,_,_,qA,cA,hA,hAs⟩:=W.p
  obtain⟨ba,oa,hpa,_,hca⟩:=qQ hAs hq1
  subst hpa
  rw[hat]at hca
  refine zh (S.at W.h10) ?_
  refine gg_ ?_
  refine S.ldN (b:=b7) (vs:=[.int .i64 p.fr.l,.slice x5 p.fr.ps.length y5]) ?_
  refine W.typ S.holds kfr k2.l0 k2.l1 λp6 cap6 s6 w8 e8 n8 h6=>?_
  obtain⟨S,_,_⟩:=S.tell e8 n8
  refine S.al λb12 w9 S=>?_
  refine S.stB (b:=b12) λw10 S=>?_
  refine zr (λx w'=>∃s',x=[]∧J s' (l++kp false (.mk 4 p.mu a 0 [tyD u g p.fr]) (tyD u g p.to))∧StX X w0 ρ w' (.cell b7 (ptL p x1 x2 x3 x4 x5 y1 y2 y3 y4 y5) 96::(Lc s'++M))) (λK3 hK3=>?_) ?_
  ·have S:=S.go (Ext.drew _)
   have S:StX X w0 (ρ.or s6) _ (.cell b12 (tyL (tyD u g p.fr) p6 cap6) 43::.cell b7 (ptL p x1 x2 x3 x4 x5 y1 y2 y3 y4 y5) 96::(Lc s++M)):=S
   have hfl:∀{s8:Gh}{b14:Nat}{w11:World}{v8:Value},TyG s8 v8 (tyD u g p.to)→StX X w0 (((ρ.or s6).or s8).or (Go.Sh.one b14 (tyL (tyD u g p.fr) p6 cap6) 43)) w11 (.cell b12 (tyL (tyD u g p.fr) p6 cap6) 43::.cell b7 (ptL p x1 x2 x3 x4 x5 y1 y2 y3 y4 y5) 96::(Lc s++M))→
     zd Tryz.prog Tryz.ye #[.agg #[.int .u8 4,.bool p.mu,.int .i64 a,.int .i64 0,.slice (some ⟨b14,0,none⟩) 1 1],v8,.bool false,.func ff fa fb] w11 λ_ w21=>K3 [] w21:=fun {s8 b14 w11 v8} h8 S=>by
    have h4:TyG (((ρ.or s6).or s8).or (Go.Sh.one b14 (tyL (tyD u g p.fr) p6 cap6) 43)) (.agg #[.int .u8 4,.bool p.mu,.int .i64 a,.int .i64 0,.slice (some ⟨b14,0,none⟩) 1 1]) (.mk 4 p.mu a 0 [tyD u g p.fr]):=
     haveI:Le (s6.or (Go.Sh.one b14 (tyL (tyD u g p.fr) p6 cap6) 43)) (((ρ.or s6).or s8).or (Go.Sh.one b14 (tyL (tyD u g p.fr) p6 cap6) 43)):=⟨λb o ho=>Or.elim ho (λh=>.inl (.inl (.inr h))) .inr⟩
     have t1:TyG (s6.or (Go.Sh.one b14 (tyL (tyD u g p.fr) p6 cap6) 43)) (.agg #[.int .u8 4,.bool p.mu,.int .i64 a,.int .i64 0,.slice (some ⟨b14,0,none⟩) 1 1]) (.mk 4 p.mu a 0 [tyD u g p.fr]):=J3 h6
     TyG.up t1
    have leG:Le ρ (((ρ.or s6).or s8).or (Go.Sh.one b14 (tyL (tyD u g p.fr) p6 cap6) 43)):=inferInstance
    refine kW (r':=((ρ.or s6).or s8).or (Go.Sh.one b14 (tyL (tyD u g p.fr) p6 cap6) 43)) (hT.up W.le) 48 k4.1 k4.2.1 k4.2.2 hJ (by omega) h4 (TyG.up h8) (S.permO xP) λs2 w13 hJ2 S=>?_
    exact hK3 _ _ ⟨s2,rfl,hJ2,((S.permO xP.symm).less (λb o h=>.inl (.inl (.inl h))) (List.Sublist.refl _)).tl⟩
   refine gg_ ?_
   refine zh (S.at hA) ?_
   refine zh (S.at W.h8) ?_
   refine gg_ ?_
   refine zh (S.at hca) ?_
   refine S.ldB (b:=b12) ?_ rfl
   refine zh (S.at W.h10) ?_
   refine gg_ ?_
   refine S.ldN (b:=b7) (vs:=[.int .i64 p.to.l,.slice x1 p.to.ps.length y1]) ?_
   refine zh (S.at W.h9) ?_
   refine⟨?_,?_⟩
   ·refine S.litU (aeB (c:=tyL (tyD u g p.fr) p6 cap6) h6) λb14 w11 S=>?_
    refine zp (cs:=#[.int .u8 4,.bool p.mu,.int .i64 a,.int .i64 0,.slice (some ⟨b14,0,none⟩) 1 1]) (by kernel_rfl) ?_
    refine W.typ S.holds (PlG.up kto) k1.l0 k1.l1 λp8 cap8 s8 w12 e12 n12 h8=>⟨e12,?_⟩
    obtain⟨S,_,_⟩:=S.tell e12 n12
    exact hfl h8 (S.frzAt b14)
   ·refine W.typ S.holds (PlG.up kto) k1.l0 k1.l1 λp8 cap8 s8 w12 e12 n12 h8=>⟨e12,?_⟩
    obtain⟨S,_,_⟩:=S.tell e12 n12
    refine S.litU (aeB (c:=tyL (tyD u g p.fr) p6 cap6) h6) λb14 w11 S=>?_
    refine zp (cs:=#[.int .u8 4,.bool p.mu,.int .i64 a,.int .i64 0,.slice (some ⟨b14,0,none⟩) 1 1]) (by kernel_rfl) ?_
    exact hfl h8 (S.frzAt b14)
  ·repeat clear S
   rintro _ w8 ⟨s,rfl,hJ,S⟩ d
   have h8:p.fr.ps.length≤8:=by
    unfold zz at k3
    split at k3
    ·simpa using k3
    ·cases k3
   obtain⟨_,hE,hst⟩:=kfr
   cases hE
   have hf:=qP (both:=false) (t:=.mk 4 p.mu a 0 [tyD u g p.fr]) (u:=tyD u g p.to)
   refine gg_ ?_
   refine W.brw (p:=p.fr) (K:=λ_ w9=>K (.tuple #[]) w9) (cs:=ptL p x1 x2 x3 x4 x5 y1 y2 y3 y4 y5) k2.l0 k2.l1 h8 hst rfl rfl hJ (by rw[List.length_append];omega) S λs' w' hJ S=>h s' _ ?_ (hback S)
   rw[yx,if_neg ho1,if_neg ho5,if_pos ho,← List.append_assoc]
   exact hJ
 refine gg_ ?_
 refine zj (λho=>?_) (λho7=>?_)
 ·obtain⟨f,k⟩:=ae0 (a:=a) hM hH hp ho
  obtain⟨_,_,_,qA,cA,hA,hAs⟩:=W.p
  obtain⟨ba,oa,hpa,_,hca⟩:=qQ hAs hq1
  subst hpa
  rw[hat]at hca
  obtain⟨pF,cF,hF,hFs⟩:=W.fns
  have hltf:p.fn.toNat<u.fs.length:=(List.getElem?_eq_some_iff.1 k.get).1
  have hfe:u.fs[p.fn.toNat]=f:=(List.getElem?_eq_some_iff.1 k.get).2
  obtain⟨bf,of,cg,rfl,hcg,hgc,hfo⟩:=hFs.get (by decide) hltf
  rw[hfe]at hgc
  obtain⟨vo,vt,vn,vp,rfl,m1,m2,m3,m4⟩:=hgc
  obtain⟨qo,capo,rfl,_,_⟩:=m1.sl.shape
  obtain⟨qt,capt,rfl,_,hct2⟩:=m2.sl.shape
  obtain⟨qn,capn,rfl,_,_⟩:=m3.sl.shape
  obtain⟨qp,capp,rfl,_,_⟩:=m4.sl.shape
  have k0:=k.fn0
  have kt:=k.tys
  have kl:=k.len
  have k8:=k.pn8
  have hHf:=k.head
  have hos:=acq hHf.outs hHf.lv8
  have h512:=hHf.ty512
  have kargs:SlG 4 ρ (OpG ρ) (.slice x4 p.args.length y4) p.args:=kargs.sl.up' hle λ_ _ h=>OpG.up h
  refine gp_ ?_
  refine zh (S.at hF) ?_
  refine gg_ ?_
  refine zt (n:=7) hcg (λj v hj=>S.at (hfo j v hj)) ?_
  refine S.al λb15 w8 S=>?_
  refine S.stB (b:=b15) λw9 S=>?_
  refine gp_ ?_
  refine gg_ ?_
  have S:StX X w0 ρ w9 (.cell b15 [.string f.name,.int .i64 f.lv,.slice qo f.outs.length capo,.int .i64 f.pn,.slice qt f.tys.length capt,.slice qn f.nms.length capn,.slice qp f.pts.length capp] 101::.cell b7 (ptL p x1 x2 x3 x4 x5 y1 y2 y3 y4 y5) 96::(Lc s++M)):=S
  have hzl:(p.args.zip (f.tys.drop 1)).length=p.args.length:=by rw[List.length_zip,List.length_drop];omega
  refine zk (ι:=Nat) (λi=>[.int .i64 (i:Nat)]) (λi w'=>i≤p.args.length∧∃s',J s' (l++((p.args.zip (f.tys.drop 1)).take i).flatMap λx=>flO u.ss (zf u g).tys x.1 (yk (max a 0) x.2))∧StX X w0 ρ w' (.cell b15 [.string f.name,.int .i64 f.lv,.slice qo f.outs.length capo,.int .i64 f.pn,.slice qt f.tys.length capt,.slice qn f.nms.length capn,.slice qp f.pts.length capp] 101::.cell b7 (ptL p x1 x2 x3 x4 x5 y1 y2 y3 y4 y5) 96::(Lc s'++M))) (λi=>p.args.length-i) 0 rfl ⟨Nat.zero_le _,s,by rw[List.take_zero,List.flatMap_nil,List.append_nil];exact hJ,S⟩ ?_
  repeat clear S
  rintro i d w10 ⟨hi,s,hJ,S⟩ K4 hK4
  rw[gdz]
  have hfew:=Yl (n:=96) (f:=λx:OpD×TyD=>flO u.ss (zf u g).tys x.1 (yk (max a 0) x.2)) (λx=>Qu) ((p.args.zip (f.tys.drop 1)).take i)
  rw[List.length_take,hzl,Nat.min_eq_left hi]at hfew
  refine gp_ ?_
  refine zj (λhlt=>?_) (λhge=>?_)
  ·have hlt:i<p.args.length:=by omega
   have hi2:i+1<f.tys.length:=by omega
   obtain⟨bo,oo,co,hE,hco,hop,hoc⟩:=kargs.get (by decide) hlt
   rw[hE]
   obtain⟨va2,rfl,hsteps⟩:=id hop
   obtain⟨qa,capa,rfl,_,_⟩:=hsteps.sl.shape
   refine gg_ ?_
   refine zt (n:=4) hco (λj v hj=>by simpa using S.at (hoc j v hj)) ?_
   refine S.al λb18 w11 S=>?_
   refine S.stB (b:=b18) λw12 S=>?_
   have S:=S.go (Ext.drew _)
   have S:StX X w0 ρ w12.drew (.cell b18 [.int .u8 p.args[i].k,.int .i64 p.args[i].n,.int .i64 p.args[i].pl.l,.slice qa p.args[i].pl.ps.length capa] 93::.cell b15 [.string f.name,.int .i64 f.lv,.slice qo f.outs.length capo,.int .i64 f.pn,.slice qt f.tys.length capt,.slice qn f.nms.length capn,.slice qp f.pts.length capp] 101::.cell b7 (ptL p x1 x2 x3 x4 x5 y1 y2 y3 y4 y5) 96::(Lc s++M)):=S
   refine S.ldN (b:=b18) (vs:=[.int .u8 p.args[i].k,.int .i64 p.args[i].n,.int .i64 p.args[i].pl.l,.slice qa p.args[i].pl.ps.length capa]) ?_
   obtain⟨bt,ot,ct,hE2,hct,hty,htc⟩:=m2.sl.get (by decide) hi2
   obtain⟨hB,hreg⟩:=k.is (i+1) hi2 (by omega)
   have hti:((i:Int)+1).toNat=i+1:=by omega
   subst hE2
   refine gg_ ?_
   rw[hti]
   refine zt (n:=5) hct (λj v hj=>by simpa using S.at (htc j v hj)) ?_
   refine W.inst S.holds (t:=f.tys[i+1]) hB (λx hx=>⟨(hreg x hx).1,(hreg x hx).2.1⟩) hty λp' cap' sn w13 e13 n13 h13=>⟨e13,?_⟩
   obtain⟨S,_,_⟩:=S.tell e13 n13
   refine W.flows (q':=ρ.or sn) (OpG.up hop) (TyG.up h13) (k.arg i hlt hi2) hJ (by rw[List.length_append];omega) (S.permO aby) λs2 w14 hJ2 S=>?_
   refine gp_ ?_
   refine hK4 (i+1) _ ⟨by omega,s2,?_,((S.permO aby.symm).less (λb o h=>.inl h) (List.Sublist.refl _)).tl⟩ (by omega)
   rw[ZD (by omega),← List.append_assoc]
   rw[List.getElem_zip]
   rw[List.getElem_drop]
   have hc1:1+i=i+1:=Nat.add_comm 1 i
   simp only[hc1]
   exact hJ2
  ·obtain rfl:i=p.args.length:=by omega
   rw[List.take_of_length_le (by omega)]at hJ hfew
   generalize hl1:((p.args.zip (f.tys.drop 1)).flatMap λx=>flO u.ss (zf u g).tys x.1 (yk (max a 0) x.2))=l1 at hJ hfew
   have hi2:0<f.tys.length:=by omega
   obtain⟨bt,ot,ct,hE2,hct,hty,htc⟩:=m2.sl.get (by decide) hi2
   obtain⟨hB,hreg⟩:=k.is 0 hi2 (by omega)
   obtain⟨z1,z2,z3⟩:=k.ans hi2
   subst hE2
   have S:=S.go (Ext.drew _)
   refine gg_ ?_
   refine zt (n:=5) hct (λj v hj=>by simpa using S.at (htc j v hj)) ?_
   refine zh (S.at W.h10) ?_
   refine gg_ ?_
   refine S.ldN (b:=b7) (vs:=[.int .i64 p.to.l,.slice x1 p.to.ps.length y1]) ?_
   refine zh (S.at W.h9) ?_
   refine W.inst S.holds (t:=f.tys[0]) hB (λx hx=>⟨(hreg x hx).1,(hreg x hx).2.1⟩) hty λp' cap' sn w13 e13 n13 h13=>⟨e13,?_⟩
   obtain⟨S,_,_⟩:=S.tell e13 n13
   refine W.typ S.holds (PlG.up kto) k.to.l0 k.to.l1 λp8 cap8 s8 w12 e12 n12 h8=>⟨e12,?_⟩
   obtain⟨S,_,_⟩:=S.tell e12 n12
   have leG:Le ρ ((ρ.or sn).or s8):=inferInstance
   refine kW (r':=(ρ.or sn).or s8) (hT.up W.le) 48 z1 z2 z3 hJ (by rw[List.length_append];omega) (TyG.up h13) (TyG.up h8) (S.permO xP) λs2 w14 hJ2 S=>?_
   have S:StX X w0 ρ w14 (.cell b15 [.string f.name,.int .i64 f.lv,.slice qo f.outs.length capo,.int .i64 f.pn,.slice (some ⟨bt,ot,none⟩) f.tys.length capt,.slice qn f.nms.length capn,.slice qp f.pts.length capp] 101::.cell b7 (ptL p x1 x2 x3 x4 x5 y1 y2 y3 y4 y5) 96::(Lc s2++M)):=(S.permO xP.symm).less (λb o h=>.inl (.inl h)) (List.Sublist.refl _)
   have hf:=qP (both:=false) (t:=yk (max a 0) f.tys[0]) (u:=tyD u g p.to)
   have hl2:l1.length+(kp false (yk (max a 0) f.tys[0]) (tyD u g p.to)).length≤900:=by omega
   have hJ2:J s2 (l++(l1++kp false (yk (max a 0) f.tys[0]) (tyD u g p.to))):=by rw[← List.append_assoc];exact hJ2
   rw[← List.length_append]at hl2
   have hres:l1++kp false (yk (max a 0) f.tys[0]) (tyD u g p.to)++(f.outs.map λo=>(a+o.1,a+o.2))=yx u (zf u g).tys p a:=by
    have hhd:f.tys.headD zB=f.tys[0]:=by rw[List.headD_eq_head?_getD,List.head?_eq_getElem?,gqg hi2,Option.getD_some]
    rw[yx,if_neg ho1,if_neg ho5,if_neg ho4,if_pos ho,k.get]
    dsimp only
    rw[hl1,hhd]
   rw[← hres]at fin
   generalize l1++kp false (yk (max a 0) f.tys[0]) (tyD u g p.to)=l2 at hJ2 hl2 fin
   refine gg_ ?_
   clear hJ
   refine zk (ι:=Nat) (λi=>[.int .i64 (i:Nat)]) (λi w'=>i≤f.outs.length∧∃s',J s' (l++(l2++(f.outs.take i).map λo=>(a+o.1,a+o.2)))∧StX X w0 ρ w' (.cell b15 [.string f.name,.int .i64 f.lv,.slice qo f.outs.length capo,.int .i64 f.pn,.slice (some ⟨bt,ot,none⟩) f.tys.length capt,.slice qn f.nms.length capn,.slice qp f.pts.length capp] 101::.cell b7 (ptL p x1 x2 x3 x4 x5 y1 y2 y3 y4 y5) 96::(Lc s'++M))) (λi=>f.outs.length-i) 0 rfl ⟨Nat.zero_le _,s2,by rw[List.take_zero,List.map_nil,List.append_nil];exact hJ2,S⟩ ?_
   repeat clear S
   rintro i d w15 ⟨hi,s,hJ,S⟩ K5 hK5
   rw[gdz]
   refine gp_ ?_
   refine zj (λhlt=>?_) (λhge=>?_)
   ·have hlt:i<f.outs.length:=by omega
    obtain⟨bo,oo,co,hE,hco,hcc,hoc⟩:=m1.sl.get (by decide) hlt
    obtain rfl:co=_:=hcc
    have hin:yR f.lv f.outs[i]=true:=by
     have:=hHf.outs
     simp only[jK,Bool.and_eq_true,List.all_eq_true]at this
     exact this.1.1 _ (List.getElem_mem hlt)
    have hlv:=hHf.lv8
    simp only[yR,Bool.not_eq_true',Bool.or_eq_false_iff,decide_eq_false_iff_not]at hin
    rw[hE]
    refine gg_ ?_
    refine zt (n:=2) hco (λj v hj=>by simpa using S.at (hoc j v hj)) ?_
    refine S.al λb20 w16 S=>?_
    refine S.stB (b:=b20) λw17 S=>?_
    have S:=S.go (Ext.drew _)
    have S:StX X w0 ρ w17.drew (.cell b20 [.int .i64 f.outs[i].1,.int .i64 f.outs[i].2] 194::.cell b15 [.string f.name,.int .i64 f.lv,.slice qo f.outs.length capo,.int .i64 f.pn,.slice (some ⟨bt,ot,none⟩) f.tys.length capt,.slice qn f.nms.length capn,.slice qp f.pts.length capp] 101::.cell b7 (ptL p x1 x2 x3 x4 x5 y1 y2 y3 y4 y5) 96::(Lc s++M)):=S
    refine zh (S.at W.h9) ?_
    refine gg_ ?_
    refine zh (S.at hA) ?_
    refine zh (S.at W.h8) ?_
    refine gg_ ?_
    refine zh (S.at hca) ?_
    refine gg_ ?_
    refine zh (S.at hA) ?_
    refine zh (S.at W.h8) ?_
    refine gg_ ?_
    refine zh (S.at hca) ?_
    refine gg_ ?_
    refine W.tk s _ _ _ ρ _ _ _ W.le hJ (by rw[List.length_append,List.length_append,List.length_map,List.length_take];omega) (S.permO aby) λs1 _ w9 hJ1 S=>?_
    refine gp_ ?_
    refine hK5 (i+1) _ ⟨by omega,s1,?_,(S.permO aby.symm).tl⟩ (by omega)
    rw[← List.take_append_getElem hlt,List.map_append,List.map_singleton,← List.append_assoc l2,← List.append_assoc l]
    exact hJ1
   ·obtain rfl:i=f.outs.length:=by omega
    rw[List.take_length]at hJ
    exact fin s _ hJ S.tl
 ·refine fin s _ ?_ S
  rw[yx,if_neg ho1,if_neg ho5,if_neg ho4,if_neg ho7,List.append_nil]
  exact hJ
end
theorem aaq{f:CnD→Bool}{fv v:Value}{w:World}{r:Gh}{l:List CnD}{K:Value→World→Prop}(hr:Holds r w)(hl:SlG 2 r CnC v l)(hb:l.length≤1000000000)
  (hf:∀x∈l,∀(w:World)(K:Value→World→Prop),Holds r w→(∀w',Ext w w'→K (.bool (f x)) w')→zu Tryz.prog fv #[.agg #[.int .i64 x.1,.int .i64 x.2]] w K)
  (h:∀(i:Int) w',Ext w w'→(0≤i↔l.any f=true)→K (.int .i64 i) w'):zd Tryz.prog Tryz.zJ #[v,fv] w K:=by
 refine Tryz.y6 ?_
 unfold Tryz.yd
 obtain⟨p,cap,rfl,_,_⟩:=hl.shape
 have S:=St.start hr
 refine gP_ ?_
 refine zk (ι:=Nat) (λi=>[.int .i64 i]) (λi w'=>i≤l.length∧(l.take i).any f=false∧StX noX w r w' []) (λi=>l.length-i) 0 rfl ⟨Nat.zero_le _,by simp,S⟩ ?_
 clear S
 rintro i d w' ⟨hi,hn,S⟩ K6 hK6
 simp only[gdz]
 refine gP_ ?_
 refine zj (λhlt=>?_) (λhge=>?_)
 ·have hlt:i<l.length:=by omega
  obtain⟨b,off,rfl,_,_,_,hcell⟩:=kJ hl hlt
  refine gP_ ?_
  refine zt (n:=2) rfl (λj v hj=>by rw[tnc];exact S.at (hcell j v hj)) ?_
  refine hf _ (List.getElem_mem hlt) _ _ S.holds λw2 e2=>?_
  have S:=S.go e2
  have ht:(l.take (i+1)).any f=((l.take i).any f||f l[i]):=by
   rw[List.take_succ_eq_append_getElem hlt,List.any_append];simp only[List.any_cons,List.any_nil,Bool.or_false]
  refine c_b (λhy=>?_) (λhno=>?_)
  ·exact h _ _ S.ext ⟨λ_=>List.any_eq_true.2 ⟨l[i],List.getElem_mem hlt,hy⟩,λ_=>Int.natCast_nonneg _⟩
  ·refine gP_ ?_
   refine hK6 (i+1) _ ⟨hlt,?_,S⟩ (by omega)
   rw[ht,hn,hno];rfl
 ·have :i=l.length:=by omega
  subst this
  rw[List.take_length]at hn
  exact h _ _ S.ext ⟨λh=>by omega,λh=>by rw[hn]at h;cases h⟩
theorem QH{f:CnD→Bool}{fv v:Value}{w:World}{r:Gh}{l:List CnD}{K:Value→World→Prop}(hr:Holds r w)(hl:SlG 2 r CnC v l)(hb:l.length≤1000000000)
  (hf:∀x∈l,∀(w:World)(K:Value→World→Prop),Holds r w→(∀w',Ext w w'→K (.bool (f x)) w')→zu Tryz.prog fv #[.agg #[.int .i64 x.1,.int .i64 x.2]] w K)
  (h:∀w',Ext w w'→K (.bool (l.any f)) w'):zd Tryz.prog Tryz.zG #[v,fv] w K:=by
 refine Tryz.yT ?_
 unfold Tryz.zZ
 refine aaq hr hl hb hf λi w' e hi=>?_
 refine gP_ ?_
 have e2:decide (i≥0)=l.any f:=by
  by_cases hh:l.any f=true
  ·rw[hh];exact decide_eq_true (hi.2 hh)
  ·rw[Bool.eq_false_iff.2 hh];exact decide_eq_false λh=>hh (hi.1 h)
 rw[e2];exact h _ e
def Ym(n:Int)(c:CnD):Bool:=decide (min c.1 c.2<0)||decide (max c.1 c.2≥n)
def xR(l:List CnD)(n:Int):Bool:=!(l.any (Ym n))
theorem aec{n:Int}{b1:Nat}{x:CnD}{w:World}{r:Gh}{K:Value→World→Prop}(hr:Holds r w)(h1:Ob r λw=>w.cell? ⟨b1,0,none⟩=some (.int .i64 n))(h:∀w',Ext w w'→K (.bool (Ym n x)) w'):
  zu Tryz.prog (.func (.func Tryz.jS) #[] #[.pointer (some ⟨b1,0,none⟩)]) #[.agg #[.int .i64 x.1,.int .i64 x.2]] w K:=by
 refine YW (by kernel_rfl) ?_
 refine Tryz.XA ?_
 unfold Tryz.jZ
 have S:=St.start hr
 refine S.box λb2 w1 S=>?_
 have S:StX noX w r w1 [.cell b2 [.int .i64 x.1,.int .i64 x.2] 36]:=S
 refine gg_ ?_
 refine zi (c:=decide (max x.1 x.2≥n)) (λ_ K2 hK2=>by refine gg_ ?_;refine zh (S.at h1) ?_;refine gg_ ?_;exact hK2) ?_
 exact h _ S.ext
theorem ZE{n:Int}{v:Value}{w:World}{r:Gh}{l:List CnD}{K:Value→World→Prop}(hr:Holds r w)(hl:SlG 2 r CnC v l)(hb:l.length≤1000000000)
  (h:∀w',Ext w w'→K (.bool (xR l n)) w'):zd Tryz.prog Tryz.xK #[v,.int .i64 n] w K:=by
 refine Tryz.QG ?_
 unfold Tryz.ZC
 obtain⟨p,cap,rfl,_,_⟩:=hl.shape
 have S:=St.start hr
 refine S.box λb3 w1 S=>?_
 have S:StX noX w r w1 [.cell b3 [.int .i64 n] 3]:=S
 have S:=S.frzAt b3
 refine gp_ ?_
 refine QH (f:=Ym n) S.holds hl.cells hb (λx _ w K hr h=>?_) λw2 e2=>?_
 ·exact aec hr (xe (c:=[.int .i64 n]) (T:=3) rfl) h
 ·have S:=S.go e2
  refine gp_ ?_
  exact h _ S.ext
noncomputable def atD(u:UnD)(fn q:Int):List CnD×Int:=
 if((ym (yv u fn (-1))).2=2∨fn<0∨(u.fs.length:Int)≤fn)∨q<0 then([],2)else match u.fs[fn.toNat]? with
 |none=>([],2)
 |some g=>match g.pts[q.toNat]? with
  |none=>([],2)
  |some p=>if (ym (yv u fn (-1))).2≠0 then([],(ym (yv u fn (-1))).2)else(yx u (zf u g).tys p ((zf u g).at'.getD q.toNat 0),0)
theorem acG{u:UnD}{fn:Int}(h:(ym (yv u fn (-1))).2=0):MayU u∧0≤fn∧∃hlt:fn.toNat<u.fs.length,(ym (yv u fn (-1))).1=zf u u.fs[fn.toNat]∧(zf u u.fs[fn.toNat]).ct≤512:=by
 obtain⟨h1,h2,h3⟩:=ahy h
 have hU:isU u fn (-1)=true:=by
  cases hi:isU u fn (-1)with
  |true=>rfl
  |false=>rw [yv,hi]at h1;cases h1
 obtain⟨hM,hf0,hlt,_,hT⟩:=afD hU
 rw[hT]at h2 h3
 exact⟨hM,hf0,hlt,by rw[hT];exact h2,h3⟩
theorem acH{u:UnD}{g:GrD}{fn:Nat}(hM:MayU u)(hlt:fn<u.fs.length)(hct:(zf u u.fs[fn]).ct≤512){i:Nat}(h:i<(zf u u.fs[fn]).at'.length): -1≤(zf u u.fs[fn]).at'[i]∧(zf u u.fs[fn]).at'[i]≤1000000:=by
 have hH:=hM.hd hlt
 have hN:=λp hp=>hM.ptN (List.getElem_mem hlt) (p:=p) hp
 have hi:i<u.fs[fn].pts.length:=by rw[(Zx).2]at h;exact h
 have e:(zf u u.fs[fn]).at'[i]=(atK u u.fs[fn].pts (u.fs[fn].lv+zU u.fs[fn].tys))[i]'(by rw[YC];exact hi):=rfl
 rw[e,ahv hi]
 split
 ·omega
 ·have h1:=ace (u:=u) (l:=u.fs[fn].pts) (λp hp=>(hN p hp).1) i
  have h3:=Zv u.fs[fn].tys
  have h4:=hH.lv0
  have h5:u.fs[fn].lv+zU u.fs[fn].tys+atC u u.fs[fn].pts≤512:=hct
  omega
theorem acI{u:UnD}{fn q:Int}{v:Value}{w:World}{r:Gh}{K:Value→World→Prop}(hr:Holds r w)(hu:UnG r v u)
  (h:∀v' s w',Ext w w'→New w s w'→SlG 2 s CnC v' (atD u fn q).1→K (.tuple #[v',.int .i64 (atD u fn q).2]) w'):zd Tryz.prog Tryz.Ze #[v,.int .i64 fn,.int .i64 q] w K:=by
 refine Tryz.abj ?_
 unfold Tryz.Qc
 have hu0:=hu
 obtain⟨p0,cap0,vf,rfl,_,_,hst,hsl,hfn⟩:=hu
 obtain⟨qf,capf,rfl,_,_⟩:=hfn.sl.shape
 have S:=St.start hr
 refine S.box λb3 w1 S=>?_
 have S:StX noX w r w1 [.cell b3 [.slice p0 u.ss.length cap0,.slice qf u.fs.length capf,.int .i64 u.mn] 25]:=S
 refine S.ldB (b:=b3) ?_ rfl
 refine QW S.holds hu0 λv3 s w4 e4 n4 hd=>?_
 obtain⟨S,_,_⟩:=S.tell e4 n4
 have hE:atD u fn q=if ((ym (yv u fn (-1))).2=2∨fn<0∨(u.fs.length:Int)≤fn)∨q<0 then([],2)else match u.fs[fn.toNat]? with
  |none=>([],2)
  |some g=>match g.pts[q.toNat]? with
   |none=>([],2)
   |some p=>if (ym (yv u fn (-1))).2≠0 then([],(ym (yv u fn (-1))).2)else(yx u (zf u g).tys p ((zf u g).at'.getD q.toNat 0),0):=rfl
 have hfs:=acG (u:=u) (fn:=fn)
 generalize (ym (yv u fn (-1))).2=e at hE hfs⊢
 generalize (ym (yv u fn (-1))).1=d at hd hfs
 obtain⟨q1,c1,q2,c2,rfl,g1,g2⟩:=hd.shape
 refine gS_ ?_
 refine S.al λb8 w5 S=>?_
 refine S.stB (b:=b8) λw6 S=>?_
 refine gp_ ?_
 have S:StX noX w (r.or s) w6 [.cell b8 (rgL d.lv d.pt d.ct (.slice q1 d.tys.length c1) (.slice q2 d.at'.length c2)) 74,.cell b3 [.slice p0 u.ss.length cap0,.slice qf u.fs.length capf,.int .i64 u.mn] 25]:=S
 refine zi (c:=decide (fn<0)) (λ_ K2 hK2=>by refine gg_ ?_;exact hK2) ?_
 refine zi (c:=decide (fn≥(u.fs.length:Int))) (λ_ K2 hK2=>by refine gg_ ?_;exact hK2) ?_
 refine zi (c:=decide (q<0)) (λ_ K2 hK2=>by refine gg_ ?_;exact hK2) ?_
 refine zi (c:=decide (q≥((((u.fs[fn.toNat]?.map λg=>g.pts.length).getD 0:Nat)):Int))) (λhb K2 hK2=>?_) ?_
 ·simp only[Bool.or_eq_false_iff,decide_eq_false_iff_not]at hb
  obtain⟨⟨⟨_,hb1⟩,hb2⟩,hb3⟩:=hb
  have hlt:fn.toNat<u.fs.length:=by omega
  rw[gqg hlt,Option.map_some,Option.getD_some]at hK2
  obtain⟨bf,of,cf,hqE,hcf,hgc,hfo⟩:=hfn.sl.get (by decide) hlt
  generalize u.fs[fn.toNat]=g at hgc hK2
  obtain⟨vo,vt,vn,vp,rfl,m1,m2,m3,m4⟩:=hgc
  obtain⟨qp,capp,rfl,_,_⟩:=m4.sl.shape
  subst hqE
  refine gg_ ?_
  refine zh (v:=.slice qp g.pts.length capp) (by simpa using S.at ((hfo 6 _ rfl).up (s:=r.or s))) ?_
  refine gg_ ?_
  exact hK2
 refine c_b (λhbad=>?_) (λhgood=>?_)
 ·have hE:atD u fn q=([],2):=by
   rw[hE]
   simp only[Bool.or_eq_true,decide_eq_true_eq]at hbad
   by_cases hc:(e=2∨fn<0∨(u.fs.length:Int)≤fn)∨q<0
   ·rw[if_pos hc]
   ·rw[if_neg hc]
    rw[not_or,not_or,not_or]at hc
    have hlt:fn.toNat<u.fs.length:=by omega
    rw[gqg hlt]at hbad⊢
    rw[Option.map_some,Option.getD_some]at hbad
    have :u.fs[fn.toNat].pts[q.toNat]? = none:=List.getElem?_eq_none (by omega)
    simp only[this]
  rw[hE]at h
  exact h _ nothing _ S.ext New.nothing SlG.nil
 simp only[Bool.or_eq_false_iff,decide_eq_false_iff_not]at hgood
 obtain⟨⟨⟨⟨hb0,hb1⟩,hb2⟩,hb3⟩,hb4⟩:=hgood
 have hlt:fn.toNat<u.fs.length:=by omega
 rw[gqg hlt,Option.map_some,Option.getD_some]at hb4
 have hltp:q.toNat<u.fs[fn.toNat].pts.length:=by omega
 rw[if_neg (by omega),gqg hlt]at hE
 dsimp only at hE
 rw[gqg hltp]at hE
 dsimp only at hE
 refine gp_ ?_
 refine zj (λhne=>?_) (λheq=>?_)
 ·rw[if_pos hne]at hE
  rw[hE]at h
  exact h _ nothing _ S.ext New.nothing SlG.nil
 have heq:e=0:=by omega
 subst heq
 obtain⟨hM,_,_,hdE,hct⟩:=hfs rfl
 subst hdE
 rw[if_neg (by omega)]at hE
 rw[hE]at h
 have hH:=hM.hd hlt
 have hpt:=hM.pts _ (List.getElem_mem hlt) _ (List.getElem_mem hltp)
 have hql:q.toNat<(zf u u.fs[fn.toNat]).at'.length:=by rw[(Zx).2];exact hltp
 have hrg:=acH (g:=u.fs[fn.toNat]) hM hlt hct hql
 have hga:(zf u u.fs[fn.toNat]).at'.getD q.toNat 0=(zf u u.fs[fn.toNat]).at'[q.toNat]:=by rw[List.getD_eq_getElem?_getD,gqg hql,Option.getD_some]
 rw[hga]at h
 obtain⟨bf,of,cf,hqE,hcf,hgc,hfo⟩:=hfn.sl.get (by decide) hlt
 have hp24:=hH.pt1024
 generalize u.fs[fn.toNat]=g at hgc hltp hH hpt hql hrg h hb4 hd g1 g2 S hct hp24
 obtain⟨vo,vt,vn,vp,rfl,m1,m2,m3,m4⟩:=hgc
 obtain⟨qp,capp,rfl,_,_⟩:=m4.sl.shape
 obtain⟨bp,op,cp,hpE,hcp,hpg,hpo⟩:=m4.sl.get (by decide) hltp
 obtain⟨x1,x2,x3,x4,x5,y1,y2,y3,y4,y5,rfl,hpg0⟩:=aae hpg
 cases hqE
 refine S.al λb10 w7 S=>?_
 have S:=S.go (Ext.drew _)
 refine S.ldB (b:=b3) ?_ rfl
 refine S.ldB (b:=b8) ?_ rfl
 refine gg_ ?_
 refine zh (v:=.slice qp g.pts.length capp) (by simpa using S.at ((hfo 6 _ rfl).up (s:=r.or s))) ?_
 rw[hpE]
 refine gg_ ?_
 refine zt (n:=21) hcp (λj v hj=>by simpa using S.at ((hpo j v hj).up (s:=r.or s))) ?_
 refine jF (b:=b10) S λb11 w8 e8 S=>⟨e8,?_⟩
 have S:=S.ownNil 36 2
 generalize hρ:(r.or s).or (Go.Sh.one b11 [.pointer (some ⟨b10,0,none⟩)] 126)=ρ at S
 have l1:Le r ρ:=by rw[← hρ];infer_instance
 have l2:Le s ρ:=by rw[← hρ];infer_instance
 have l3:Le (Go.Sh.one b11 [.pointer (some ⟨b10,0,none⟩)] 126) ρ:=by rw[← hρ];infer_instance
 have S:StX noX w ρ w8 (lsL b10 (.slice none 0 0,[])++[.cell b8 (rgL (zf u g).lv (zf u g).pt (zf u g).ct (.slice q1 (zf u g).tys.length c1) (.slice q2 (zf u g).at'.length c2)) 74,.cell b3 [.slice p0 u.ss.length cap0,.slice (some ⟨bf,of,none⟩) u.fs.length capf,.int .i64 u.mn] 25]):=S
 refine Z4 (fn:=fn.toNat) (p:=g.pts[q.toNat]) (u:=u) (g:=g) (q:=q) (aan (q:=ρ) (b:=b10) (X:=noX) (w0:=w)) hM hH hpt ⟨_,_,_,rfl⟩ (UnG.up hu0) (RgG.up hd) (PtG.up hpg0) (by omega) hql rfl hrg.1 hrg.2 (s:=(.slice none 0 0,[])) (l:=[]) rfl (by decide) S λs2 w9 hJ S=>?_
 obtain⟨v,l⟩:=s2
 rw[List.nil_append]at hJ
 have hJ:l=_:=hJ
 have S:StX noX w ρ w9 [.row v 36 2 l.length (cns l),.cell b10 [v] 28,.cell b8 (rgL (zf u g).lv (zf u g).pt (zf u g).ct (.slice q1 (zf u g).tys.length c1) (.slice q2 (zf u g).at'.length c2)) 74,.cell b3 [.slice p0 u.ss.length cap0,.slice (some ⟨bf,of,none⟩) u.fs.length capf,.int .i64 u.mn] 25]:=S
 refine S.ld (b:=b10) ?_
 obtain⟨s3,T,hs,_,ha3⟩:=S.doneRow (l:=l) qR (by decide) rfl
 rw[hJ]at hs
 exact h _ s3 _ T.ext (StX.newOf (q:=s3) T λb o ho=>(ha3 b o ho).resolve_right id) hs
end Go.Proofs
end
section
namespace Go.Sh
open Go.RowKit Go.MapKept
abbrev PrK:=Int×Int
abbrev prV(x:PrK):Value:=.agg #[.int .i64 x.1,.int .i64 x.2]
def mpP(P:Program)(t:TypeId):Option (TypeId×TypeId):=match P.underlying t with
 |some (.map k e)=>if js P k=true then some (k,e)else none
 |_=>none
theorem acJ{P:Program}{t k e:TypeId}(h:mpP P t=some (k,e)):P.underlying t=some (.map k e)∧js P k=true:=by
 unfold mpP at h
 split at h
 ·rename_i k' e' h1
  split at h
  ·rename_i h2
   cases h;exact⟨h1,h2⟩
  ·cases h
 ·cases h
theorem Vz {P : Program} {k : TypeId} (h : js P k = true) : ∃ fs f g k1 k2, P.underlying k = some (.struct fs) ∧ fs.toList = [f, g] ∧ f.name ≠ "_" ∧ g.name ≠ "_" ∧ f.offset = 0 ∧ g.offset = 1 ∧ P.underlying f.type = some (.int k1) ∧ P.underlying g.type = some (.int k2) := by
 unfold js at h
 simp only[Bool.and_eq_true,Bool.not_eq_true']at h
 obtain⟨⟨h1,h2⟩,h3⟩:=h
 cases hu:P.underlying k with
 |none=>rw [hu]at h3;cases h3
 |some d=>
  rw[hu]at h3
  cases d<;>first|(cases h3;done)|skip
  rename_i fs
  simp only at h3
  split at h3
  ·rename_i f g hl
   simp only[Bool.and_eq_true,bne_iff_ne,ne_eq]at h3
   obtain⟨⟨⟨⟨⟨n1,n2⟩,o1⟩,o2⟩,t1⟩,t2⟩:=h3
   have s1:∃k,P.underlying f.type=some (.int k):=by
    revert t1;cases P.underlying f.type with
    |none=>intro h;cases h
    |some d=>cases d<;>first|(intro h;cases h;done)|(intro _;exact⟨_,rfl⟩)
   have s2:∃k,P.underlying g.type=some (.int k):=by
    revert t2;cases P.underlying g.type with
    |none=>intro h;cases h
    |some d=>cases d<;>first|(intro h;cases h;done)|(intro _;exact⟨_,rfl⟩)
   obtain⟨k1,s1⟩:=s1
   obtain⟨k2,s2⟩:=s2
   exact⟨fs,f,g,k1,k2,rfl,hl,n1,n2,Nat.eq_of_beq_eq_true o1,Nat.eq_of_beq_eq_true o2,s1,s2⟩
  ·cases h3
theorem Qe{P:Program}{w:World}{t:TypeId}{kd j:IntKind}{a:Int}(h:P.underlying t=some (.int kd))(em:Bool)(n:Nat):(Instr.checkKey em (n+1) t (.int j a)).run P w=.ok () w:=by
 unfold Instr.checkKey
 simp only[Sem.run_bind,run_underlying h,Result.andThen]
 rfl
theorem vT{P:Program}{w:World}{k:TypeId}(h:js P k=true)(x:PrK)(em:Bool)(n:Nat):(Instr.checkKey em (n+2) k (prV x)).run P w=.ok () w:=by
 obtain⟨fs,f,g,k1,k2,hu,hl,n1,n2,o1,o2,s1,s2⟩:=Vz h
 unfold Instr.checkKey
 simp only[Sem.run_bind,run_underlying hu,Result.andThen]
 rw[← Array.forIn_toList,hl]
 simp[n1,n2,o1,o2,Sem.run_bind,jt s1 (x:=.int .i64 x.1) (k:=0) (cs:=#[.int .i64 x.1,.int .i64 x.2]) rfl,jt s2 (x:=.int .i64 x.2) (k:=1) (cs:=#[.int .i64 x.1,.int .i64 x.2]) rfl,Result.andThen,Qe s1,Qe s2,Sem.run,pure]
theorem aig{P:Program}{k:TypeId}(h:js P k=true)(x y:PrK)(w:World):(Op.equal k (prV x) (prV y)).run P w=.ok (decide (x=y)) w:=by
 have e:decide (x=y)=(decide (x.1=y.1)&&decide (x.2=y.2)):=by
  rw[Bool.eq_iff_iff,Bool.and_eq_true,decide_eq_true_eq,decide_eq_true_eq,decide_eq_true_eq,Prod.ext_iff]
 rw[e]
 exact VO h w
def ahG(m:MapEntry)(x:PrK×Value):Prop:=m.key=prV x.1∧m.val=x.2
inductive EntsP:List MapEntry→List (PrK×Value)→Prop
 |nil:EntsP [] []
 |cons {m:MapEntry} {x:PrK×Value} {l:List MapEntry} {M:List (PrK×Value)}:ahG m x→EntsP l M→EntsP (m::l) (x::M)
theorem EntsP.snoc{l:List MapEntry}{M:List (PrK×Value)}{m:MapEntry}{x:PrK×Value}(h:EntsP l M)(hm:ahG m x):EntsP (l++[m]) (M++[x]):=by
 induction h with
 |nil=>exact .cons hm .nil
 |cons h _ ih=>exact .cons h ih
def xS(x:PrK)(v:Value):List (PrK×Value)→List (PrK×Value)
 |[]=>[(x,v)]
 |y::M=>if x=y.1 then(x,v)::M else y::xS x v M
theorem aaW{x z:PrK}{v:Value}:∀{M:List (PrK×Value)},(xS x v M).lookup z=if z=x then some v else M.lookup z
 |[]=>by
  rw[xS,List.lookup_cons]
  by_cases h:z=x
  ·rw[if_pos h];simp[h]
  ·have e:(z == x)=false:=by simpa using h
   rw[if_neg h,e]<;>rfl
 |y::M=>by
  rw[xS]
  by_cases hx:x=y.1
  ·rw[if_pos hx,List.lookup_cons]
   by_cases h:z=x
   ·rw[if_pos h];simp[h]
   ·have e:(z == x)=false:=by simpa using h
    have e2:(z == y.1)=false:=by rw[← hx];exact e
    rw[if_neg h,e,List.lookup_cons,e2]
  ·rw[if_neg hx,List.lookup_cons,List.lookup_cons]
   by_cases h:z=y.1
   ·have e:(z == y.1)=true:=by simpa using h
    rw[e,if_neg (λhh=>hx (hh.symm.trans h))]
   ·have e:(z == y.1)=false:=by simpa using h
    rw[e]
    exact aaW
def Born(l:List MapEntry)(c:Nat):Prop:=l.Pairwise (λa b=>a.born<b.born)∧∀m∈l,m.born<c
theorem Born.nil{c:Nat}:Born [] c:=⟨.nil,λm hm=>by cases hm⟩
theorem Born.push{l:List MapEntry}{c:Nat}{k v:Value}(h:Born l c):Born (l++[{ key:=k,val:=v,born:=c }]) (c+1):=by
 refine⟨List.pairwise_append.2 ⟨h.1,List.pairwise_singleton _ _,λa ha b hb=>?_⟩,λm hm=>?_⟩
 ·rw[List.mem_singleton.1 hb];exact h.2 a ha
 ·rw[List.mem_append,List.mem_singleton]at hm
  rcases hm with hm|rfl
  ·have:=h.2 m hm;omega
  ·exact Nat.lt_succ_self c
theorem Born.mod{l:List MapEntry}{c j:Nat}{f:MapEntry→MapEntry}(h:Born l c)(hf:∀m,(f m).born=m.born):Born (l.modify j f) c:=by
 have e:(l.modify j f).map (·.born)=l.map (·.born):=by
  refine List.ext_getElem (by simp) λi h1 h2=>?_
  simp only[List.getElem_map,List.getElem_modify]
  split
  ·exact hf _
  ·rfl
 have key:∀{l:List MapEntry},l.Pairwise (λa b=>a.born<b.born)↔(l.map (·.born)).Pairwise (· < ·):=fun {l}=>List.pairwise_map.symm
 refine⟨key.2 (by rw[e];exact key.1 h.1),λm hm=>?_⟩
 have :m.born∈(l.modify j f).map (·.born):=List.mem_map.2 ⟨m,hm,rfl⟩
 rw[e]at this
 obtain⟨m',hm',he⟩:=List.mem_map.1 this
 have:=h.2 m' hm'
 omega
theorem Born.find{l:List MapEntry}{c j:Nat}{m:MapEntry}(h:Born l c)(hj:l[j]? = some m):l.findIdx? (λe=>(e.born:Int) == (m.born:Int))=some j:=by
 obtain⟨hlt,rfl⟩:=List.getElem?_eq_some_iff.1 hj
 rw[List.findIdx?_eq_some_iff_getElem]
 refine⟨hlt,by simp,λi hi=>?_⟩
 have:=List.pairwise_iff_getElem.1 h.1 i j (by omega) hlt hi
 simp;omega
def xT(M:List (PrK×Value))(o:Obj):Prop:=∃es c,o=.map es c∧EntsP es.toList M∧Born es.toList c
def Qf(M:List (PrK×Value))(x:PrK)(z:Value)(n:Nat)(o:Obj):Prop:=∃es c j M1,o=.map es c∧Born es.toList c∧(∃m,es.toList[j]? = some m∧m.born=n)∧EntsP es.toList M1∧(∀y,(M1.lookup y).getD z=(M.lookup y).getD z)∧∀v,EntsP (es.toList.modify j λe=>{ e with val:=v }) (xS x v M)
theorem aaX{P:Program}{k:TypeId}{w:World}{x:PrK}(hk:js P k=true){l:List MapEntry}{M:List (PrK×Value)}(h:EntsP l M):∀{i:Nat},
  ((Instr.findAsking k (prV x) l i).run P w=.ok none w∧M.lookup x=none∧∀v,xS x v M=M++[(x,v)])∨
  ∃j v0,(Instr.findAsking k (prV x) l i).run P w=.ok (some (i+j,v0)) w∧M.lookup x=some v0∧(∃m,l[j]? = some m∧m.key=prV x)∧∀v,EntsP (l.modify j λe=>{ e with key:=prV x,val:=v }) (xS x v M):=by
 induction h with
 |nil=>intro i;exact .inl ⟨by simp[Instr.findAsking],rfl,λv=>rfl⟩
 |@cons m y l M hm h ih=>
  intro i
  obtain⟨hkey,hv⟩:=hm
  obtain⟨y1,y2⟩:=y
  simp only at hkey hv
  have hq:=aig hk x y1 w
  by_cases hx:x=y1
  ·subst hx
   rw[decide_eq_true rfl]at hq
   refine .inr ⟨0,m.val,?_,?_,⟨m,rfl,hkey⟩,λv=>?_⟩
   ·rw[Instr.findAsking,hkey];simp[hq]
   ·rw[List.lookup_cons,show (x == x)=true by simp,hv]
   ·rw[xS,if_pos rfl]
    exact .cons ⟨rfl,rfl⟩ h
  ·rw[decide_eq_false hx]at hq
   have hb:(x == y1)=false:=by simpa using hx
   rcases ih (i:=i+1)with⟨h1,h2,h3⟩|⟨j,v0,h1,h2,h3,h4⟩
   ·refine .inl ⟨?_,?_,λv=>?_⟩
    ·rw[Instr.findAsking,hkey];simp[hq,h1]
    ·rw[List.lookup_cons,hb];exact h2
    ·rw[xS,if_neg hx,h3];rfl
   ·refine .inr ⟨j+1,v0,?_,?_,?_,λv=>?_⟩
    ·rw[Instr.findAsking,hkey];simp[hq,h1,Nat.add_assoc,Nat.add_comm 1 j]
    ·rw[List.lookup_cons,hb];exact h2
    ·simpa using h3
    ·rw[xS,if_neg hx]
     exact .cons ⟨hkey,hv⟩ (h4 v)
theorem Z5{P:Program}{k:TypeId}{w:World}(hk:js P k=true){x:Value}{es:List MapEntry}:(Instr.findKey k x es).run P w=(Instr.findAsking k x es).run P w:=by
 obtain⟨fs,_,_,_,_,hu,_⟩:=Vz hk
 exact run_findKey_eq w (by rw[hu]) x es
theorem ae2{P:Program}{w:World}(x:PrK):(Instr.keyThatStays (prV x) (prV x)).run P w=.ok (prV x) w:=by
 have e:Instr.sameBits 10000 (prV x) (prV x)=true:=by simp[Instr.sameBits]
 simp[Instr.keyThatStays,e,Sem.run,pure]
theorem VA{x z:PrK}{v:Value}:∀{M:List (PrK×Value)},M.lookup x=none→((M++[(x,v)]).lookup z)=if z=x then some v else M.lookup z
 |[],_=>by
  rw[List.nil_append,List.lookup_cons]
  by_cases h:z=x
  ·rw[if_pos h];simp[h]
  ·have e:(z == x)=false:=by simpa using h
   rw[if_neg h,e]<;>rfl
 |y::M,hn=>by
  rw[List.lookup_cons]at hn
  have hxy:(x == y.1)=false:=by
   cases hb:(x == y.1)with
   |false=>rfl
   |true=>rw [hb]at hn;cases hn
  rw[hxy]at hn
  rw[List.cons_append,List.lookup_cons,List.lookup_cons,VA hn]
  by_cases h:z=x
  ·subst h;rw[hxy,if_pos rfl]
  ·rw[if_neg h,if_neg h]
theorem EntsP.mod{x:PrK}{v:Value}:∀{l:List MapEntry}{M:List (PrK×Value)}{j:Nat}{m:MapEntry},l[j]? = some m→m.key=prV x→EntsP (l.modify j λe=>{ e with key:=prV x,val:=v }) M→EntsP (l.modify j λe=>{ e with val:=v }) M
 |l,M,j,m,hj,hk,h=>by
  have e:(l.modify j λe=>{ e with key:=prV x,val:=v })=l.modify j λe=>{ e with val:=v }:=by
   refine List.ext_getElem (by simp) λi h1 h2=>?_
   simp only[List.getElem_modify]
   split
   ·rename_i hji
    subst hji
    obtain⟨hlt,rfl⟩:=List.getElem?_eq_some_iff.1 hj
    simp only[hk]
   ·rfl
  rwa[e]at h
theorem afY{x:Value}{es:Array MapEntry}{j:Nat}{m:MapEntry}(hj:es.toList[j]? = some m)(hk:m.key=x):(es.modify j λe=>{ e with key:=x })=es:=by
 apply Array.ext'
 rw[Array.toList_modify]
 refine List.ext_getElem (by simp) λi h1 h2=>?_
 rw[List.getElem_modify]
 split
 ·rename_i hji
  subst hji
  obtain⟨hlt,rfl⟩:=List.getElem?_eq_some_iff.1 hj
  subst hk
  rfl
 ·rfl
section
variable {P:Program} {X:Nat→Prop} {w0 w:World} {r:Gh} {L:List Asr} {t k e:TypeId} {b:Nat} {M:List (PrK×Value)} {f:Asr→List Asr}
theorem StX.mkMapP(S:StX X w0 r w L){K:Value→World→Prop}(h:∀b w',StX X w0 r w' (.obj b (xT [])::L)→K (.map (some b)) w'):opW P w (Instr.makeMap t none) K:=
 S.mkMap λb w' S'=>h b w' ⟨S'.x,S'.holds,λx hx=>by
  rcases List.mem_cons.1 hx with rfl|hx
  ·obtain⟨o,h1,h2,rfl⟩:=S'.has _ List.mem_cons_self
   exact⟨_,h1,h2,_,_,rfl,.nil,.nil⟩
  ·exact S'.has x (List.mem_cons_of_mem _ hx),λx hx=>by
  rcases List.mem_cons.1 hx with rfl|hx
  ·exact S'.mine (.obj b (· = .map #[] 0)) List.mem_cons_self
  ·exact S'.mine x (List.mem_cons_of_mem _ hx),by
  have:=S'.apart
  rw[List.pairwise_cons]at this⊢
  exact this⟩
theorem StX.mapEntP(S:StX X w0 r w L){x:PrK}{z:Value}[h0:JE b L (xT M) f](ht:mpP P t=some (k,e))(hz:zr1 P e=some z){K:Value→World→Prop}
  (h:∀v n w',StX X w0 r w' (f (.obj b (Qf M x z n)))→K (.tuple #[v,.int .i64 (n:Nat)]) w'):opW P w (Instr.mapEntry t (.map (some b)) (prV x)) K:=by
 obtain⟨ht,hk⟩:=acJ ht
 obtain⟨p,q,e1,e2⟩:=h0.h
 obtain⟨o,hb,_,es,c,rfl,hE,hB⟩:=S.has (.obj b (xT M)) (by rw[e1];simp)
 rcases aaX (P:=P) (w:=w) (x:=x) hk hE (i:=0)with⟨h1,h2,h3⟩|⟨j,v0,h1,h2,⟨m,h3,h5⟩,h4⟩
 ·have hf:=(Z5 (w:=w) (x:=prV x) hk (es:=es.toList)).trans h1
  refine⟨.tuple #[z,.int .i64 (c:Nat)],{ w with heap:=w.heap.setIfInBounds b (.map (es.push { key:=prV x,val:=z,born:=c }) (c+1)) },?_,h z c _ ?_⟩
  ·simp[Instr.mapEntry,run_underlying ht,MapKept.run_getObj_map hb,vT (w:=w) hk x false 9998,hf,X3 hz,MapKept.run_setObj_map _ hb,Result.andThen,goInt]
  ·obtain⟨a1,a2⟩:=heap_set hb (o':=.map (es.push { key:=prV x,val:=z,born:=c }) (c+1))
   rw[e2]
   rw[e1]at S
   refine S.turn (x:=.obj b (xT M)) (y:=.obj b (Qf M x z c)) ⟨rfl,rfl,rfl,by simp,λk _ hk=>a2 k hk⟩ ⟨_,a1,rfl,_,_,es.toList.length,M++[(x,z)],rfl,?_,?_,?_,λy=>?_,λv=>?_⟩ λk hk=>.inl hk
   ·rw[Array.toList_push];exact hB.push
   ·exact⟨{ key:=prV x,val:=z,born:=c },by rw[Array.toList_push,List.getElem?_append_right (Nat.le_refl _),Nat.sub_self];rfl,rfl⟩
   ·rw[Array.toList_push];exact hE.snoc ⟨rfl,rfl⟩
   ·rw[VA h2]
    by_cases hy:y=x
    ·rw[if_pos hy,hy,h2];rfl
    ·rw[if_neg hy]
   ·rw[Array.toList_push,h3]
    have em:(es.toList++[{ key:=prV x,val:=z,born:=c:MapEntry }]).modify es.toList.length (λe=>{ e with val:=v })=es.toList++[{ key:=prV x,val:=v,born:=c }]:=by
     refine List.ext_getElem (by simp) λi h1 h2=>?_
     rw[List.getElem_modify]
     by_cases hi:i<es.toList.length
     ·rw[if_neg (by omega),List.getElem_append_left hi,List.getElem_append_left hi]
     ·have hi2:i=es.toList.length:=by rw[List.length_append,List.length_singleton]at h2;omega
      subst hi2
      rw[if_pos rfl,List.getElem_append_right (Nat.le_refl _),List.getElem_append_right (Nat.le_refl _)]
      simp
    rw[em]
    exact hE.snoc ⟨rfl,rfl⟩
 ·have hf:=(Z5 (w:=w) (x:=prV x) hk (es:=es.toList)).trans h1
  rw[Nat.zero_add]at hf
  have hj:es[j]? = some m:=by rw[← Array.getElem?_toList];exact h3
  have hkey:((es[j]?).map (·.key)).getD (prV x)=prV x:=by rw[hj];exact h5
  have hborn:(Option.map (λx:MapEntry=>(x.born:Int)) es[j]?).getD 0=(m.born:Int):=by rw[hj];rfl
  have hsame:=afY (x:=prV x) h3 h5
  refine⟨.tuple #[v0,.int .i64 (m.born:Nat)],{ w with heap:=w.heap.setIfInBounds b (.map es c) },?_,h v0 m.born _ ?_⟩
  ·simp[Instr.mapEntry,run_underlying ht,MapKept.run_getObj_map hb,vT (w:=w) hk x false 9998,hf,hkey,ae2,hsame,hborn,MapKept.run_setObj_map _ hb,Result.andThen,goInt]
  ·obtain⟨a1,a2⟩:=heap_set hb (o':=.map es c)
   rw[e2]
   rw[e1]at S
   refine S.turn (x:=.obj b (xT M)) (y:=.obj b (Qf M x z m.born)) ⟨rfl,rfl,rfl,by simp,λk _ hk=>a2 k hk⟩ ⟨_,a1,rfl,_,_,j,M,rfl,hB,⟨m,h3,rfl⟩,hE,λy=>rfl,λv=>EntsP.mod h3 h5 (h4 v)⟩ λk hk=>.inl hk
theorem StX.entSetP(S:StX X w0 r w L){x:PrK}{z v:Value}{n:Nat}[h0:JE b L (Qf M x z n) f]{K:World→Prop}
  (h:∀w',StX X w0 r w' (f (.obj b (xT (xS x v M))))→K w'):opU P w (Instr.entryStore t (.map (some b)) (.int .i64 (n:Nat)) v) K:=by
 obtain⟨p,q,e1,e2⟩:=h0.h
 obtain⟨o,hb,_,es,c,j,M1,rfl,hB,⟨m,hm,hn⟩,hE,hl,hv⟩:=S.has (.obj b (Qf M x z n)) (by rw[e1];simp)
 subst hn
 have hf:es.findIdx? (λe=>(e.born:Int) == (m.born:Int))=some j:=by
  have:=hB.find hm
  rwa[← List.findIdx?_toArray,Array.toArray_toList]at this
 refine⟨{ w with heap:=w.heap.setIfInBounds b (.map (es.modify j λe=>{ e with val:=v }) c) },?_,h _ ?_⟩
 ·simp[Instr.entryStore,MapKept.run_getObj_map hb,asInt,asIntOf,Sem.run,pure,hf,MapKept.run_setObj_map _ hb,Result.andThen]
 ·obtain⟨a1,a2⟩:=heap_set hb (o':=.map (es.modify j λe=>{ e with val:=v }) c)
  rw[e2]
  rw[e1]at S
  exact S.turn (x:=.obj b (Qf M x z m.born)) (y:=.obj b (xT (xS x v M))) ⟨rfl,rfl,rfl,by simp,λk _ hk=>a2 k hk⟩ ⟨_,a1,rfl,_,_,rfl,by rw[Array.toList_modify];exact hv v,by rw[Array.toList_modify];exact hB.mod λ_=>rfl⟩ λk hk=>.inl hk
theorem aaY{w':World}{x:PrK}{z:Value}{es:Array MapEntry}{c:Nat}{M1:List (PrK×Value)}(hb:w'.heap[b]? = some (.map es c))(hE:EntsP es.toList M1)(ht:mpP P t=some (k,e))(hz:zr1 P e=some z):
  (Instr.lookup t (.map (some b)) (prV x) false).run P w'=.ok ((M1.lookup x).getD z) w':=by
 obtain⟨ht,hk⟩:=acJ ht
 rcases aaX (P:=P) (w:=w') (x:=x) hk hE (i:=0)with⟨h1,h2,h3⟩|⟨j,v0,h1,h2,_⟩
 ·have hf:=(Z5 (w:=w') (x:=prV x) hk (es:=es.toList)).trans h1
  rw[h2]
  simp[Instr.lookup,run_underlying ht,MapKept.run_getObj_map hb,vT (w:=w') hk x _ 9998,hf,X3 hz,Result.andThen]
 ·have hf:=(Z5 (w:=w') (x:=prV x) hk (es:=es.toList)).trans h1
  rw[h2]
  simp[Instr.lookup,run_underlying ht,MapKept.run_getObj_map hb,vT (w:=w') hk x _ 9998,hf,Result.andThen]
theorem StX.mapGetP(S:StX X w0 r w L){x:PrK}{z:Value}[h0:JE b L (xT M) f](ht:mpP P t=some (k,e))(hz:zr1 P e=some z){K:Value→Prop}(h:K ((M.lookup x).getD z)):
  opQ P w (Instr.lookup t (.map (some b)) (prV x) false) K:=by
 obtain⟨p,q,e1,e2⟩:=h0.h
 obtain⟨o,hb,_,es,c,rfl,hE,_⟩:=S.has (.obj b (xT M)) (by rw[e1];simp)
 exact⟨_,λw' ex=>aaY ((ex.block b (Array.getElem?_eq_some_iff.1 hb).1).trans hb) hE ht hz,h⟩
theorem StX.mapGetE(S:StX X w0 r w L){x y:PrK}{z:Value}{n:Nat}[h0:JE b L (Qf M y z n) f](ht:mpP P t=some (k,e))(hz:zr1 P e=some z){K:Value→Prop}(h:K ((M.lookup x).getD z)):
  opQ P w (Instr.lookup t (.map (some b)) (prV x) false) K:=by
 obtain⟨p,q,e1,e2⟩:=h0.h
 obtain⟨o,hb,_,es,c,j,M1,rfl,_,_,hE,hl,_⟩:=S.has (.obj b (Qf M y z n)) (by rw[e1];simp)
 refine⟨_,λw' ex=>aaY ((ex.block b (Array.getElem?_eq_some_iff.1 hb).1).trans hb) hE ht hz,?_⟩
 rw[hl];exact h
end
end Go.Sh
end
section
namespace Go.Proofs
open Go.Sh Go.RowKit
theorem mpC:mpP Tryz.prog 122=some (36,3):=by kernel_rfl
theorem acK:zr1 Tryz.prog 3=some (.int .i64 0):=by kernel_rfl
abbrev OfS:=(Value×List CnD)×List (PrK×Value)
abbrev ofL(b8 bm:Nat)(s:OfS):List Asr:=lsL b8 s.1++[.obj bm (xT s.2)]
def ofJ(s:OfS)(l:List CnD):Prop:=s.1.2=ddL l∧∀x,(s.2.lookup x).getD (.int .i64 0)=.int .i64 (l.count x:Nat)
theorem agU{v:Value}:ofJ ((v,[]),[]) []:=⟨rfl,λx=>rfl⟩
theorem afZ{v v':Value}{acc acc':List CnD}{M:List (PrK×Value)}{l:List CnD}{x:CnD}(h:ofJ ((v,acc),M) l)(ha:acc'=ddF acc x):ofJ ((v',acc'),xS x (.int .i64 ((l.count x:Int)+1)) M) (l++[x]):=by
 obtain⟨h1,h2⟩:=h
 refine⟨?_,λy=>?_⟩
 ·show acc'=_
  rw[JC,ha]
  have h1:acc=ddL l:=h1
  rw[h1]
 ·show((xS x _ M).lookup y).getD _=_
  rw[aaW,List.count_append,List.count_singleton]
  by_cases hy:y=x
  ·subst hy
   rw[if_pos rfl,Option.getD_some,if_pos (by simp)]
   congr 1
  ·rw[if_neg hy,if_neg (by simpa usingλh=>hy h.symm),Nat.add_zero]
   exact h2 y
section
variable {X:Nat→Prop} {w0:World} {r:Gh}
theorem ahH{b8 b9 b10 bm:Nat}{fv:Value}(h9:Ob r λw=>w.cell? ⟨b9,0,none⟩=some (.map (some bm)))(h10:Ob r λw=>w.cell? ⟨b10,0,none⟩=some fv)(hT:Tk X w0 r fv (lsL b8) (λs l=>s.2=l)):
  Tk X w0 r (.func (.func Tryz.Yp) #[] #[.pointer (some ⟨b9,0,none⟩),.pointer (some ⟨b10,0,none⟩)]) (ofL b8 bm) ofJ:=by
 intro s l x y r' M w K le hJ hl S hK
 obtain⟨⟨v,acc⟩,Mp⟩:=s
 refine agf (by kernel_rfl) ?_
 refine Tryz.Vx ?_
 unfold Tryz.YM
 have hcnt:((Mp.lookup (x,y)).getD (.int .i64 0))=.int .i64 (l.count (x,y):Nat):=hJ.2 (x,y)
 have hcl:l.count (x,y)≤l.length:=List.count_le_length
 have hacc:acc=ddL l:=hJ.1
 have hal:acc.length≤l.length:=by rw[hacc];exact agO
 have h9:Ob r' λw=>w.cell? ⟨b9,0,none⟩=some (.map (some bm)):=h9.up
 have h10:Ob r' λw=>w.cell? ⟨b10,0,none⟩=some fv:=h10.up
 refine zp (cs:=#[.int .i64 x,.int .i64 y]) (by kernel_rfl) ?_
 refine S.al λb6 w1 S=>?_
 refine S.stB (b:=b6) λw2 S=>?_
 have S:StX X w0 r' w2 (.cell b6 [.int .i64 x,.int .i64 y] 36::.row v 36 2 acc.length (cns acc)::.cell b8 [v] 28::.obj bm (xT Mp)::M):=S
 refine zr (λz w'=>∃v' acc',z=[]∧acc'=ddF acc (x,y)∧StX X w0 r' w' (.cell b6 [.int .i64 x,.int .i64 y] 36::.row v' 36 2 acc'.length (cns acc')::.cell b8 [v'] 28::.obj bm (xT Mp)::M)) (λK3 hK3=>?_) ?_
 ·refine gp_ ?_
  refine zo (c:=decide ((l.count (x,y):Int)=0)) (λhb K2 hK2=>?_) ?_
  ·refine zh (S.at h9) ?_
   refine S.ldN (b:=b6) (vs:=[.int .i64 x,.int .i64 y]) ?_
   refine S.mapGetP (x:=(x,y)) mpC acK ?_
   rw[hcnt]
   refine gp_ ?_
   exact hK2
  have hdd:(!(decide (x=y))&&decide ((l.count (x,y):Int)=0))=true↔¬((x,y).1=(x,y).2∨(x,y)∈acc):=by
   rw[Bool.and_eq_true,Bool.not_eq_true',decide_eq_false_iff_not,decide_eq_true_eq,not_or,hacc,agN]
   constructor
   ·rintro⟨h1,h2⟩
    refine⟨h1,λh=>?_⟩
    have:=List.count_pos_iff.2 h.1
    omega
   ·rintro⟨h1,h2⟩
    refine⟨h1,?_⟩
    have :(x,y)∉l:=λh=>h2 ⟨h,h1⟩
    rw[List.count_eq_zero_of_not_mem this];rfl
  refine c_b (λhb=>?_) (λhb=>?_)
  ·refine zh (S.at h10) ?_
   have S:StX X w0 r' w2 (lsL b8 (v,acc)++(.cell b6 [.int .i64 x,.int .i64 y] 36::.obj bm (xT Mp)::M)):=(S.permO (List.perm_middle (l₁:=[_,_])))
   refine hT (v,acc) acc x y r' _ _ _ le rfl (by omega) S λs1 _ w3 hJ1 S=>?_
   obtain⟨v1,acc1⟩:=s1
   have hJ1:acc1=acc++[(x,y)]:=hJ1
   have S:StX X w0 r' w3 (.cell b6 [.int .i64 x,.int .i64 y] 36::(lsL b8 (v1,acc1)++(.obj bm (xT Mp)::M))):=S.permO (List.perm_middle (l₁:=[_,_])).symm
   refine hK3 _ _ ⟨v1,acc1,rfl,?_,S⟩
   rw[ddF,if_neg (hdd.1 (by simpa using hb))];exact hJ1
  ·refine hK3 _ _ ⟨v,acc,rfl,?_,S⟩
   rw[ddF,if_pos]
   refine Classical.byContradiction λhn=>?_
   have:=hdd.2 hn
   rw[← decide_not]at this
   rw[this]at hb;cases hb
 ·repeat clear S
  rintro _ w6 ⟨v',acc',rfl,hacc',S⟩ d
  have S:=S.go (Ext.drew _)
  refine zh (S.at h9) ?_
  refine S.ldN (b:=b6) (vs:=[.int .i64 x,.int .i64 y]) ?_
  have fin:∀{w':World},StX X w0 r' w' (.cell b6 [.int .i64 x,.int .i64 y] 36::.row v' 36 2 acc'.length (cns acc')::.cell b8 [v'] 28::.obj bm (xT (xS (x,y) (.int .i64 ((l.count (x,y):Int)+1)) Mp))::M)→K (.tuple #[]) w':=fun {w'} S=>
   hK ((v',acc'),_) _ _ (afZ hJ hacc') S.tl
  refine⟨?_,?_⟩
  ·refine adZ ?_
   refine S.mapGetP (x:=(x,y)) mpC acK ?_
   rw[hcnt]
   refine gp_ ?_
   refine S.mapEntP (x:=(x,y)) mpC acK λv2 n2 w7 S=>?_
   refine gp_ ?_
   refine S.entSetP λw8 S=>?_
   exact fin S
  ·refine S.mapEntP (x:=(x,y)) mpC acK λv2 n2 w7 S=>?_
   refine gp_ ?_
   refine adZ ?_
   refine S.mapGetE (x:=(x,y)) mpC acK ?_
   rw[hcnt]
   refine gp_ ?_
   refine S.entSetP λw8 S=>?_
   exact fin S
end
end Go.Proofs
end
