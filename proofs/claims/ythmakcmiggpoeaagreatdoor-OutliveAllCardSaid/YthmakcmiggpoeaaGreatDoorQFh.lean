/-
  Contracts and plain laws that the last text leans on.
-/
import Derived.Test.YthmakcmiggpoeaaGreatDoorQFg
import Derived.Test.YthmakcmiggpoeaaGreatDoorQFb
import Derived.Test.YthmakcmiggpoeaaGreatDoorQFd
import Derived.Test.YthmakcmiggpoeaaGreatDoorQFf
set_option maxRecDepth 100000
set_option maxHeartbeats 8000000
set_option linter.unusedVariables false
set_option linter.unusedSimpArgs false
section
namespace Go.Proofs
open Go.Sh
variable {K:Value→World→Prop}
theorem ac4{u:UnD}{fn q:Int}{v:Value}{w:World}{r:Gh}{K:Value→World→Prop}(hr:Holds r w)(hu:UnG r v u)
  (h:∀v' s w',Ext w w'→New w s w'→RgG s v' (zN (zM u fn q)).1→K (.tuple #[v',.int .i64 (zN (zM u fn q)).2]) w'):zd Tryz.prog Tryz.YA #[v,.int .i64 fn,.int .i64 q] w K:=by
 refine Tryz.ag2 ?_
 unfold Tryz.acD
 have hu0:=hu
 obtain⟨p0,cap0,vf,rfl,_,_,hst,hsl,hfn⟩:=hu
 obtain⟨qf,capf,rfl,_,_⟩:=hfn.sl.shape
 have S:=St.start hr
 refine S.box λb3 w1 S=>?_
 have S:StX noX w r w1 [.cell b3 [.slice p0 u.ss.length cap0,.slice qf u.fs.length capf,.int .i64 u.mn] 25]:=S
 refine S.al λb6 w2 S=>?_
 refine S.ldB (b:=b3) ?_ rfl
 refine acK S.holds hu0 λw3 e3=>?_
 have S:=S.go e3
 refine gp_ ?_
 refine c_b (λhc=>?_) (λhc=>?_)
 ·have hc:isU u fn q=false:=by simpa using hc
  have hz:zN (zM u fn q)=(jy,2):=by rw[alK hc];rfl
  rw[hz]at h
  refine zq (cs:=rgZ.toArray) (by kernel_rfl) ?_
  refine S.stB (b:=b6) λw4 S=>?_
  refine S.ceB (b:=b6) ?_ rfl
  exact h _ nothing _ S.ext New.nothing RgG.zero
 have hc:isU u fn q=true:=by simpa using hc
 obtain⟨hM,hf0,hlt,hql,hT⟩:=jS hc
 rw[hT]at h
 refine S.ldB (b:=b3) ?_ rfl
 refine ahe hM hf0 hlt S.holds hu0 λv' s w4 e4 n4 hd=>?_
 obtain⟨S,d4,a4⟩:=S.tell e4 n4
 have hd0:=hd
 obtain⟨q1,c1,q2,c2,rfl,g1,g2⟩:=hd.shape
 refine S.al λb8 w5 S=>?_
 refine S.stB (b:=b8) λw6 S=>?_
 generalize allD u u.fs[fn.toNat]=rd at h hd0 S
 refine gg_ ?_
 refine zj (λhbig=>?_) (λhsm=>?_)
 ·have hz:zN (rd,0)=(jy,5):=by rw[zN,if_pos rfl,if_pos (show 512<rd.ct by omega)]
  rw[hz]at h
  refine zq (cs:=rgZ.toArray) (by kernel_rfl) ?_
  refine S.stB (b:=b6) λw7 S=>?_
  refine S.ceB (b:=b6) ?_ rfl
  exact h _ nothing _ S.ext New.nothing RgG.zero
 ·have hz:zN (rd,0)=(rd,0):=by rw[zN,if_pos rfl,if_neg (show¬512<rd.ct by omega)]
  rw[hz]at h
  refine S.ldB (b:=b8) ?_ rfl
  refine S.stB (b:=b6) λw7 S=>?_
  refine S.ceB (b:=b6) ?_ rfl
  exact h _ s _ S.ext (S.newOf a4) hd0
theorem vV{u:UnD}{d:RgD}{p:PlD}{c:List Value}{v vd:Value}{w:World}{r:Gh}{K:Value→World→Prop}(hr:Holds r w)(hu:UnG r v u)(hd:RgG r vd d)(hdl:d.tys.length≤maxLen)(hp:PlG r c p){x:TyD×List Int}(hx:zH u.ss d.tys p=some x)
  (h:∀q cap vg w',Ext w w'→TyG r (tyV x.1 q cap) x.1→K (.tuple #[tyV x.1 q cap,vg,.bool true]) w'):zd Tryz.prog Tryz.yP #[v,vd,.agg c.toArray] w K:=by
 refine Tryz.Yi ?_
 unfold Tryz.vQ
 obtain⟨p0,cap0,vf,rfl,_,_,hst,hsl,hfn⟩:=hu
 obtain⟨q1,c1,q2,c2,rfl,g1,g2⟩:=hd.shape
 obtain⟨vq,rfl,hl⟩:=id hp
 obtain⟨qs,caps,rfl,_,_⟩:=hl.sl.shape
 have S:=St.start hr
 refine S.box λb3 w1 S=>?_
 have S:StX noX w r w1 [.cell b3 [.slice p0 u.ss.length cap0,vf,.int .i64 u.mn] 25]:=S
 refine S.box λb4 w2 S=>?_
 refine S.box λb5 w3 S=>?_
 have S:StX noX w r w3 [.cell b5 [.int .i64 p.l,.slice qs p.ps.length caps] 80,.cell b4 (rgL d.lv d.pt d.ct (.slice q1 d.tys.length c1) (.slice q2 d.at'.length c2)) 74,.cell b3 [.slice p0 u.ss.length cap0,vf,.int .i64 u.mn] 25]:=S
 refine S.al λb6 w4 S=>?_
 refine gg_ ?_
 refine vS S.holds hst (kD g1) hdl hp (λw5 hn e5=>by rw[hx]at hn;cases hn) λt how q cap vg s w5 hs e5 n5 htt hsl=>?_
 rw[hx]at hs
 cases hs
 obtain⟨S,d5,a5⟩:=S.tell e5 n5
 obtain⟨_,_,rfl,_,_⟩:=hsl.shape
 refine gS_ ?_
 refine S.stB (b:=b6) λw6 S=>?_
 refine S.ceB (b:=b6) ?_ rfl
 exact h q cap _ _ S.ext htt
end Go.Proofs
end
section
namespace Go.Proofs
open Go.Sh Go.RowKit
variable {c:List Value} {K:Value→World→Prop}
theorem qM{u:UnD}{d:RgD}{o:OpD}{v vd:Value}{w:World}{r:Gh}{K:Value→World→Prop}{x:TyD×List Int}(hr:Holds r w)(hu:UnG r v u)(hd:RgG r vd d)(hdl:d.tys.length≤maxLen)(ho:OpG r c o)(hx:kE o=true→zH u.ss d.tys o.pl=some x)
  (h0:kE o=false→∀w',Ext w w'→K (.tuple #[.agg #[.int .u8 0,.bool false,.int .i64 0,.int .i64 0,.slice none 0 0],.bool false]) w')
  (h1:kE o=true→∀q cap w',Ext w w'→TyG r (tyV x.1 q cap) x.1→K (.tuple #[tyV x.1 q cap,.bool true]) w'):zd Tryz.prog Tryz.xt #[v,vd,.agg c.toArray] w K:=by
 refine Tryz.abN ?_
 unfold Tryz.X5
 have hu0:=hu
 have hd0:=hd
 obtain⟨p0,cap0,vf,rfl,_,_,hst,hsl,hfn⟩:=hu
 obtain⟨qf,capf,rfl,_,_⟩:=hfn.sl.shape
 obtain⟨q1,c1,q2,c2,rfl,_,_⟩:=hd.shape
 obtain⟨vo,rfl,hpl⟩:=ho
 obtain⟨qs,caps,rfl,_,_⟩:=hpl.sl.shape
 have S:=St.start hr
 refine S.box λb3 w1 S=>?_
 refine S.box λb4 w2 S=>?_
 refine S.box λb5 w3 S=>?_
 refine S.al λb6 w4 S=>?_
 have S:StX noX w r w4 [.cell b6 yT 43,.cell b5 [.int .u8 o.k,.int .i64 o.n,.int .i64 o.pl.l,.slice qs o.pl.ps.length caps] 93,.cell b4 (rgL d.lv d.pt d.ct (.slice q1 d.tys.length c1) (.slice q2 d.at'.length c2)) 74,.cell b3 [.slice p0 u.ss.length cap0,.slice qf u.fs.length capf,.int .i64 u.mn] 25]:=S
 refine gg_ ?_
 refine zh (c:=decide (o.k≠4)) (λ_ K2 hK2=>by refine gg_ ?_;exact hK2) ?_
 refine c_b (λhb=>?_) (λhb=>?_)
 ·have hno:kE o=false:=by
   simp only[Bool.and_eq_true,decide_eq_true_eq]at hb
   rw[kE,decide_eq_false (by omega),decide_eq_false (by omega)];rfl
  refine zq (cs:=yT.toArray) (by kernel_rfl) ?_
  refine S.stB (b:=b6) λw5 S=>?_
  refine S.ceB (b:=b6) ?_ rfl
  exact h0 hno _ S.ext
 ·have hyes:kE o=true:=by
   rw[kE]
   cases h3:decide (o.k=3)with
   |true=>rfl
   |false=>
    cases h4:decide (o.k=4)with
    |true=>rfl
    |false=>
     simp only[decide_eq_false_iff_not]at h3 h4
     rw[decide_eq_true h3,decide_eq_true h4]at hb
     cases hb
  refine S.ldB (b:=b3) ?_ rfl
  refine S.ldB (b:=b4) ?_ rfl
  refine gg_ ?_
  refine S.ldN (b:=b5) (vs:=[.int .i64 o.pl.l,.slice qs o.pl.ps.length caps]) ?_
  refine vV S.holds hu0 hd0 hdl (p:=o.pl) ⟨_,rfl,hpl⟩ (hx hyes) λq cap vg w6 e6 t6=>?_
  have S:=S.go e6
  refine gS_ ?_
  refine S.al λb8 w7 S=>?_
  refine S.stB (b:=b8) λw8 S=>?_
  refine S.ldB (b:=b8) ?_ rfl
  refine S.stB (b:=b6) λw9 S=>?_
  refine S.ceB (b:=b6) ?_ rfl
  exact h1 hyes q cap _ S.ext t6
theorem ae7{u:UnD}{d:RgD}{p:PlD}{v vd:Value}{w:World}{r:Gh}{K:Value→World→Prop}(hr:Holds r w)(hu:UnG r v u)(hd:RgG r vd d)(hdl:d.tys.length≤maxLen)(hp:PlG r c p){x:TyD×List Int}(hx:zH u.ss d.tys p=some x)
  (h:∀q cap vg s w',Ext w w'→New w s w'→TyG r (tyV x.1 q cap) x.1→SlG 1 s xD vg x.2→K (.tuple #[tyV x.1 q cap,vg,.bool true]) w'):zd Tryz.prog Tryz.yP #[v,vd,.agg c.toArray] w K:=by
 refine Tryz.Yi ?_
 unfold Tryz.vQ
 obtain⟨p0,cap0,vf,rfl,_,_,hst,hsl,hfn⟩:=hu
 obtain⟨q1,c1,q2,c2,rfl,g1,g2⟩:=hd.shape
 obtain⟨vq,rfl,hl⟩:=id hp
 obtain⟨qs,caps,rfl,_,_⟩:=hl.sl.shape
 have S:=St.start hr
 refine S.box λb3 w1 S=>?_
 have S:StX noX w r w1 [.cell b3 [.slice p0 u.ss.length cap0,vf,.int .i64 u.mn] 25]:=S
 refine S.box λb4 w2 S=>?_
 refine S.box λb5 w3 S=>?_
 have S:StX noX w r w3 [.cell b5 [.int .i64 p.l,.slice qs p.ps.length caps] 80,.cell b4 (rgL d.lv d.pt d.ct (.slice q1 d.tys.length c1) (.slice q2 d.at'.length c2)) 74,.cell b3 [.slice p0 u.ss.length cap0,vf,.int .i64 u.mn] 25]:=S
 refine S.al λb6 w4 S=>?_
 refine gg_ ?_
 refine vS S.holds hst (kD g1) hdl hp (λw5 hn e5=>by rw[hx]at hn;cases hn) λt how q cap vg s w5 hs e5 n5 htt hsl=>?_
 rw[hx]at hs
 cases hs
 obtain⟨S,d5,a5⟩:=S.tell e5 n5
 have hsl0:=hsl
 obtain⟨_,_,rfl,_,_⟩:=hsl.shape
 refine gS_ ?_
 refine S.stB (b:=b6) λw6 S=>?_
 refine S.ceB (b:=b6) ?_ rfl
 exact h q cap _ s _ S.ext (S.newOf a5) htt hsl0
end Go.Proofs
end
section
namespace Go.Proofs
open Go.Sh
variable {K:Value→World→Prop}
theorem abQ{u:UnD}{fn q:Int}{p:PtD}{d:RgD}{v vd:Value}{w:World}{r:Gh}{K:Value→World→Prop}(hr:Holds r w)(hu:UnG r v u)(hd:RgG r vd d)(hdl:d.tys.length≤maxLen)(hf0:0≤fn)(hlt:fn.toNat<u.fs.length)(hq0:0≤q)(hql:q.toNat<u.fs[fn.toNat].pts.length)(hpe:u.fs[fn.toNat].pts[q.toNat]=p)
  (hqd:q.toNat<d.at'.length) {x:TyD×List Int} (hx:zH u.ss d.tys p.fr=some x)
  (h:∀v' s w',Ext w w'→New w s w'→TyG (r.or s) v' (.mk 4 p.mu (atL d.at' q) 0 [x.1])→K v' w'):zd Tryz.prog Tryz.jP #[v,.int .i64 fn,.int .i64 q,vd] w K:=by
 refine Tryz.aaC ?_
 unfold Tryz.Xo
 have hu0:=hu
 have hd0:=hd
 obtain⟨p0,cap0,vf,rfl,_,_,hst,hsl,hfn⟩:=hu
 obtain⟨qf,capf,rfl,_,_⟩:=hfn.sl.shape
 have hfl:u.fs.length≤9223372036854775807:=hfn.few
 obtain⟨bf,of,cf,rfl,hcf,hgc,hfo⟩:=hfn.sl.get (by decide) hlt
 obtain⟨vo,vt,vn,vp,rfl,h1,h2,h3,h4⟩:=id hgc
 obtain⟨qp,capp,rfl,_,_⟩:=h4.sl.shape
 have hptl:u.fs[fn.toNat].pts.length≤9223372036854775807:=h4.few
 have lpts:Ob r λw=>w.cell? ⟨bf,of+fn.toNat*7+6,none⟩=some (.slice qp u.fs[fn.toNat].pts.length capp):=hfo 6 _ rfl
 obtain⟨bp,op,cp,rfl,hcp,hpc,hpo⟩:=h4.sl.get (by decide) hql
 rw[hpe]at hpc
 obtain⟨z1,z2,z3,z4,z5,t1,t2,t3,t4,t5,rfl,hp0⟩:=qw hpc
 obtain⟨_,_,_,_,_,hE,k1,k2,k3,k4,k5⟩:=id hp0
 cases hE
 have hpfr:PlG r [.int .i64 p.fr.l,.slice z5 p.fr.ps.length t5] p.fr:=⟨_,rfl,k5⟩
 obtain⟨q1,c1,q2,c2,rfl,g1,g2⟩:=hd.shape
 have S:=St.start hr
 refine S.box λb4 w1 S=>?_
 have S:StX noX w r w1 [.cell b4 [.slice p0 u.ss.length cap0,.slice (some ⟨bf,of,none⟩) u.fs.length capf,.int .i64 u.mn] 25]:=S
 refine S.box λb7 w2 S=>?_
 have S:StX noX w r w2 [.cell b7 (rgL d.lv d.pt d.ct (.slice q1 d.tys.length c1) (.slice q2 d.at'.length c2)) 74,.cell b4 [.slice p0 u.ss.length cap0,.slice (some ⟨bf,of,none⟩) u.fs.length capf,.int .i64 u.mn] 25]:=S
 refine S.al λb8 w3 S=>?_
 refine gg_ ?_
 refine zg (S.at lpts) ?_
 refine gg_ ?_
 refine zn (n:=21) hcp (λj v hj=>S.at (hpo j v hj)) ?_
 refine S.al λb9 w4 S=>?_
 refine S.stB (b:=b9) λw5 S=>?_
 refine S.ldB (b:=b4) ?_ rfl
 refine S.ldB (b:=b7) ?_ rfl
 refine gg_ ?_
 refine S.ldN (b:=b9) ?_
 refine vV (p:=p.fr) S.holds hu0 hd0 hdl hpfr hx λqx cx vg w6 e6 htx=>?_
 have S:=S.go e6
 refine gS_ ?_
 refine S.al λb10 w7 S=>?_
 refine S.stB (b:=b10) λw8 S=>?_
 have S:=S.go (Ext.drew _)
 obtain⟨ba,oa,hqa,hoa⟩:=akx g2 hqd
 cases hqa
 have hat:d.at'[q.toNat]=atL d.at' q:=by rw[atL,List.getD_eq_getElem?_getD,gqg hqd];rfl
 rw[hat]at hoa
 refine gg_ ?_
 refine zg (v:=.int .i64 (atL d.at' q)) (by simpa using S.at hoa) ?_
 refine S.ldB (b:=b10) ?_ rfl
 refine S.litU (Xj (c:=tyL x.1 qx cx) htx) λb12 w12 S=>?_
 refine zq (cs:=#[.int .u8 4,.bool p.mu,.int .i64 (atL d.at' q),.int .i64 0,.slice (some ⟨b12,0,none⟩) 1 1]) (by kernel_rfl) ?_
 refine S.stB (b:=b8) λw13 S=>?_
 refine S.ceB (b:=b8) ?_ rfl
 have hm:=S.mine (.cell b12 (tyL x.1 qx cx) 43) (by simp) b12 rfl
 have S:=S.frzAt b12
 refine h _ (Go.Sh.one b12 (tyL x.1 qx cx) 43) _ S.ext (S.newOf ?_) (Xe htx)
 rintro b o ⟨rfl,_⟩
 exact hm.1.resolve_right id
theorem adZ{u:UnD}{fn q:Int}{p:PtD}{d:RgD}{v vd:Value}{w:World}{r:Gh}{K:Value→World→Prop}(hM:MayU u)(hr:Holds r w)(hu:UnG r v u)(hd:RgG r vd d)(hf0:0≤fn)(hlt:fn.toNat<u.fs.length)(hq0:0≤q)(hql:q.toNat<u.fs[fn.toNat].pts.length)(hpe:u.fs[fn.toNat].pts[q.toNat]=p)
  (hqd:q.toNat<d.at'.length) (hpf0:0≤p.fn) (hltf:p.fn.toNat<u.fs.length) (hA:u.fs[p.fn.toNat].lv≠0→0≤atL d.at' q∧atL d.at' q≤1000)
  (h:∀vl v' s w',Ext w w'→New w s w'→SlG 5 s (TyC s) vl (((u.fs[p.fn.toNat].tys.drop 1).take u.fs[p.fn.toNat].pn.toNat).map (instT (atL d.at' q)))→TyG s v' (instT (atL d.at' q) (u.fs[p.fn.toNat].tys.headD zA))→K (.tuple #[vl,v']) w'):zd Tryz.prog Tryz.Zl #[v,.int .i64 fn,.int .i64 q,vd] w K:=by
 refine Tryz.acE ?_
 unfold Tryz.QR
 obtain⟨p0,cap0,vf,rfl,_,_,hst,hsl,hfn⟩:=hu
 obtain⟨qf,capf,rfl,_,_⟩:=hfn.sl.shape
 have hfl:u.fs.length≤9223372036854775807:=hfn.few
 obtain⟨bf,of,cf,rfl,hcf,hgc,hfo⟩:=hfn.sl.get (by decide) hlt
 obtain⟨vo,vt,vn,vp,rfl,h1,h2,h3,h4⟩:=id hgc
 obtain⟨qp,capp,rfl,_,_⟩:=h4.sl.shape
 have hptl:u.fs[fn.toNat].pts.length≤9223372036854775807:=h4.few
 have lpts:Ob r λw=>w.cell? ⟨bf,of+fn.toNat*7+6,none⟩=some (.slice qp u.fs[fn.toNat].pts.length capp):=hfo 6 _ rfl
 obtain⟨bp,op,cp,rfl,hcp,hpc,hpo⟩:=h4.sl.get (by decide) hql
 rw[hpe]at hpc
 obtain⟨z1,z2,z3,z4,z5,t1,t2,t3,t4,t5,rfl,hp0⟩:=qw hpc
 have lfn:Ob r λw=>w.cell? ⟨bp,op+q.toNat*21+16,none⟩=some (.int .i64 p.fn):=hpo 16 _ rfl
 have hHf:=hM.hd hltf
 have hff:=hHf.fine hM.ok
 obtain⟨bf2,of2,cf2,hbe,hcf2,hgc2,hfo2⟩:=hfn.sl.get (by decide) hltf
 cases hbe
 generalize u.fs[p.fn.toNat]=f at h hHf hff hgc2 hA
 obtain⟨vo',vt',vn',vp',rfl,m1,m2,m3,m4⟩:=hgc2
 obtain⟨qo',capo',rfl,_,_⟩:=m1.sl.shape
 obtain⟨qt',capt',rfl,_,hct2⟩:=m2.sl.shape
 obtain⟨qn',capn',rfl,_,_⟩:=m3.sl.shape
 obtain⟨qp',capp',rfl,_,_⟩:=m4.sl.shape
 have hml:f.tys.length≤9223372036854775807:=m2.few
 have hpn0:=hHf.pn0;have hpn8:=hHf.pn8;have hpn1:=hHf.pn1;have hlv8:=hHf.lv8
 have htys:=hHf.tys
 obtain⟨q1,c1,q2,c2,rfl,g1,g2⟩:=hd.shape
 obtain⟨ba,oa,hqa,hoa⟩:=akx g2 hqd
 cases hqa
 have hat:d.at'[q.toNat]=atL d.at' q:=by rw[atL,List.getD_eq_getElem?_getD,gqg hqd];rfl
 rw[hat]at hoa
 generalize atL d.at' q=A at h hA hoa
 have hdal:=hqd
 have S:=St.start hr
 refine S.box λb4 w1 S=>?_
 have S:StX noX w r w1 [.cell b4 [.slice p0 u.ss.length cap0,.slice (some ⟨bf,of,none⟩) u.fs.length capf,.int .i64 u.mn] 25]:=S
 refine S.box λb7 w2 S=>?_
 have S:StX noX w r w2 [.cell b7 (rgL d.lv d.pt d.ct (.slice q1 d.tys.length c1) (.slice (some ⟨ba,oa,none⟩) d.at'.length c2)) 74,.cell b4 [.slice p0 u.ss.length cap0,.slice (some ⟨bf,of,none⟩) u.fs.length capf,.int .i64 u.mn] 25]:=S
 refine S.al λb9 w3 S=>?_
 have S:=S.go (Ext.drew _)
 refine gg_ ?_
 refine zg (S.at lpts) ?_
 refine gg_ ?_
 refine zg (S.at lfn) ?_
 refine gg_ ?_
 refine zn (n:=7) hcf2 (λj v hj=>S.at (hfo2 j v hj)) ?_
 refine S.alU λb10 w4 S=>?_
 refine S.stB (b:=b10) λw5 S=>?_
 have hfacts:∀(j:Nat)(hj:j<f.tys.length),(j:Int)≤f.pn→isB f.tys[j]=true∧(∀x∈f.tys[j].regs,0≤x∧x<8)∧(f.tys[j].regs≠[]→0≤A∧A≤1000):=λj hj hjp=>by
  have hB:=(hff.all _ (List.getElem_mem hj)).is hff.few
  have hrT:regsT f.tys[j]=f.tys[j].regs:=by rw[regsT,hB];rfl
  have hr:=Xk htys hj (by omega)
  rw[hrT]at hr
  refine⟨hB,λx hx=>by have:=hr x hx;omega,λhne=>?_⟩
  obtain⟨x,hx⟩:=List.exists_mem_of_ne_nil _ hne
  have:=hr x hx
  exact hA (by omega)
 have hpsl:((f.tys.drop 1).take f.pn.toNat).length=f.pn.toNat:=by rw[List.length_take,List.length_drop];omega
 have S:=S.ownNil 43 5
 have S:StX noX w (r.or nothing) w5 [.row (.slice none 0 0) 43 5 0 [],.cell b10 [.string f.name,.int .i64 f.lv,.slice qo' f.outs.length capo',.int .i64 f.pn,.slice qt' f.tys.length capt',.slice qn' f.nms.length capn',.slice qp' f.pts.length capp'] 101,.cell b9 yT 43,
  .cell b7 (rgL d.lv d.pt d.ct (.slice q1 d.tys.length c1) (.slice (some ⟨ba,oa,none⟩) d.at'.length c2)) 74,.cell b4 [.slice p0 u.ss.length cap0,.slice (some ⟨bf,of,none⟩) u.fs.length capf,.int .i64 u.mn] 25]:=S.to _
 refine zi (ι:=Nat×Value×Gh×List Value) (λi=>[i.2.1,.int .i64 ((i.1:Nat)+1:Int)]) (λi w'=>i.1≤f.pn.toNat∧RowOf 5 (TyC i.2.2.1) i.2.2.2 ((((f.tys.drop 1).take f.pn.toNat).take i.1).map (instT A))∧Above w i.2.2.1∧
  StX noX w (r.or i.2.2.1) w' [.row i.2.1 43 5 i.1 i.2.2.2,.cell b10 [.string f.name,.int .i64 f.lv,.slice qo' f.outs.length capo',.int .i64 f.pn,.slice qt' f.tys.length capt',.slice qn' f.nms.length capn',.slice qp' f.pts.length capp'] 101,.cell b9 yT 43,
  .cell b7 (rgL d.lv d.pt d.ct (.slice q1 d.tys.length c1) (.slice (some ⟨ba,oa,none⟩) d.at'.length c2)) 74,.cell b4 [.slice p0 u.ss.length cap0,.slice (some ⟨bf,of,none⟩) u.fs.length capf,.int .i64 u.mn] 25]) (λi=>f.pn.toNat-i.1) (0,.slice none 0 0,nothing,[]) rfl ⟨Nat.zero_le _,by simpa using RowOf.nil,Above.no,S⟩ ?_
 clear S
 rintro⟨i,vp,s',xs⟩ dd w10 ⟨hi,hrow,hab,S⟩ K6 hK6
 simp only at hi hrow hab S⊢
 simp only[gdz,gds]
 refine gg_ ?_
 refine zj (λhlt2=>?_) (λhge=>?_)
 ·have hlt2:i<f.pn.toNat:=by omega
  have hj:i+1<f.tys.length:=by omega
  obtain⟨bt,ot,ct,rfl,hct3,htc,hto⟩:=kD m2.sl (i+1) hj
  obtain⟨q4,cap4,rfl,ht4⟩:=ye hto
  obtain⟨hB1,hB2,hB3⟩:=hfacts (i+1) hj (by omega)
  have S:=S.go (Ext.drew _)
  refine gg_ ?_
  refine zn (n:=5) hct3 (λj v hj=>by rw[show ((i:Int)+1).toNat=i+1 by omega];exact S.at (htc j v hj)) ?_
  refine gg_ ?_
  refine zg (v:=.int .i64 A) (by simpa using S.at hoa) ?_
  refine JU 48 (Vk hB1) hB1 hB2 hB3 S.holds ht4.up λv5 sn w13 e13 n13 h13=>?_
  rw[← agH hB1]at h13
  obtain⟨S,d13,a13⟩:=S.tell e13 n13
  obtain⟨q6,cap6,rfl,_⟩:=id h13
  refine S.lit (Xj (c:=tyL (instT A f.tys[i+1]) q6 cap6) h13) λb15 w14 S=>?_
  refine S.ap (m':=1) (Sl.blk (S.blk b15)) (λv15 w15 S=>?_) (by omega)
  have S:=(S.drop b15).reGh
  refine gg_ ?_
  rw[show ((i:Int)+1+1)=(((i+1:Nat):Int)+1)by omega]
  refine hK6 (i+1,v15,s'.or sn,xs++tyL (instT A f.tys[i+1]) q6 cap6) _ ⟨hlt2,?_,hab.or' a13,S⟩ (by show f.pn.toNat-(i+1)<f.pn.toNat-i;omega)
  show RowOf 5 (TyC (s'.or sn)) (xs++tyL (instT A f.tys[i+1]) q6 cap6) ((((f.tys.drop 1).take f.pn.toNat).take (i+1)).map (instT A))
  have hel:((f.tys.drop 1).take f.pn.toNat)[i]'(by rw[hpsl];exact hlt2)=f.tys[i+1]:=by
   rw[List.getElem_take,List.getElem_drop];congr 1;omega
  rw[List.take_succ_eq_append_getElem (by rw[hpsl];exact hlt2),List.map_append,hel]
  exact(hrow.mono λc x hx=>TyG.up hx).snoc rfl (TyG.up h13)
 have hie:i=f.pn.toNat:=by omega
 subst hie
 rw[List.take_of_length_le (by rw[hpsl];exact Nat.le_refl _)]at hrow
 obtain⟨s2,S,hsl2,_,hab2⟩:=S.doneRow hrow (by decide) (by rw[List.length_map,hpsl])
 have hab2:Above w s2:=λb o ho=>(hab2 b o ho).resolve_right id
 have hpos:0<f.tys.length:=by omega
 have hhd:f.tys.headD zA=f.tys[0]:=by rw[List.headD_eq_head?_getD,List.head?_eq_getElem?,gqg hpos,Option.getD_some]
 obtain⟨bt,ot,ct,rfl,hct3,htc,hto⟩:=kD m2.sl 0 hpos
 obtain⟨q4,cap4,rfl,ht4⟩:=ye hto
 obtain⟨hB1,hB2,hB3⟩:=hfacts 0 hpos (by omega)
 have S:=S.go (Ext.drew _)
 refine gg_ ?_
 refine zn (n:=5) hct3 (λj v hj=>by simpa using S.at (htc j v hj)) ?_
 refine gg_ ?_
 refine zg (v:=.int .i64 A) (by simpa using S.at hoa) ?_
 refine JU 48 (Vk hB1) hB1 hB2 hB3 S.holds ht4.up λv5 sn w13 e13 n13 h13=>?_
 rw[← agH hB1]at h13
 obtain⟨S,d13,a13⟩:=S.tell e13 n13
 obtain⟨q6,cap6,rfl,_⟩:=id h13
 refine S.stB (b:=b9) λw14 S=>?_
 refine S.ceB (b:=b9) ?_ rfl
 rw[hhd]at h
 exact h _ _ ((s'.or s2).or sn) _ S.ext (StX.newOf (q:=(s'.or s2).or sn) S ((hab.or' hab2).or' a13)) (hsl2.up' inferInstance λc x hx=>TyG.up hx) (TyG.up h13)
end Go.Proofs
end
section
namespace Go.Proofs
open Go.Sh Go.RowKit
theorem ad0{u:UnD}{fn q:Int}{p:PtD}{d:RgD}{v vd:Value}{w:World}{r:Gh}{K:Value→World→Prop}(hM:MayU u)(hr:Holds r w)(hu:UnG r v u)(hd:RgG r vd d)(hf0:0≤fn)(hlt:fn.toNat<u.fs.length)(hq0:0≤q)(hql:q.toNat<u.fs[fn.toNat].pts.length)(hpe:u.fs[fn.toNat].pts[q.toNat]=p)
  (hqd:q.toNat<d.at'.length) (hpf0:0≤p.fn) (hltf:p.fn.toNat<u.fs.length) (hA:u.fs[p.fn.toNat].lv≠0→0≤atL d.at' q∧atL d.at' q≤1000)
  (h:∀vl v' s w',Ext w w'→New w s w'→SlG 5 s (TyC s) vl (((u.fs[p.fn.toNat].tys.drop 1).take u.fs[p.fn.toNat].pn.toNat).map (instT (atL d.at' q)))→TyG s v' (instT (atL d.at' q) (u.fs[p.fn.toNat].tys.headD zA))→K (.tuple #[vl,v']) w'):zd Tryz.prog Tryz.Zn #[v,.int .i64 fn,.int .i64 q,vd] w K:=by
 refine Tryz.ac2 ?_
 unfold Tryz.Q0
 have hu0:=hu
 have hd0:=hd
 obtain⟨p0,cap0,vf,rfl,_,_,hst,hsl,hfn⟩:=hu
 obtain⟨qf,capf,rfl,_,_⟩:=hfn.sl.shape
 obtain⟨q1,c1,q2,c2,rfl,_,_⟩:=hd.shape
 have S:=St.start hr
 refine S.box λb3 w1 S=>?_
 refine S.box λb4 w2 S=>?_
 refine S.al λb9 w3 S=>?_
 have S:StX noX w r w3 [.cell b9 yT 43,.cell b4 (rgL d.lv d.pt d.ct (.slice q1 d.tys.length c1) (.slice q2 d.at'.length c2)) 74,.cell b3 [.slice p0 u.ss.length cap0,.slice qf u.fs.length capf,.int .i64 u.mn] 25]:=S
 refine S.ldB (b:=b3) ?_ rfl
 refine S.ldB (b:=b4) ?_ rfl
 refine adZ (d:=d) hM S.holds hu0 hd0 hf0 hlt hq0 hql hpe hqd hpf0 hltf hA λvl v' s w4 e4 n4 h5 h6=>?_
 obtain⟨S,_,ha⟩:=S.tell e4 n4
 have h60:=h6
 obtain⟨p6,cap6,rfl,_⟩:=h6
 refine gS_ ?_
 refine S.stB (b:=b9) λw5 S=>?_
 refine S.ceB (b:=b9) ?_ rfl
 exact h vl _ s _ S.ext (S.newOf ha) h5 h60
theorem akd{a:Int}{t:TyD}(h:regsT t=[]∨0≤a):instT (max a 0) t=instT a t:=by
 rw[instT,instT]
 rcases h with h|h
 ·rw[h];rfl
 ·rw[show max a 0=a by omega]
end Go.Proofs
end
section
namespace Go.Proofs.Tryz
open Go.Sh
variable {w:World} {K:VW} {t0:Value}
def Z4(t0 t1 t2:Value)(w:World)(K:VW):Prop:=
 pw w (Instr.box 25 t0) λt3 w1=>
 lo w1 25 t3 λt16=>ca Y2 #[t16] w1 λt17 w2=>
 pp (Op.unary .not t17) λt18=>zc t18 (ca jK #[] w2 λt19 w3=>
 K t19 w3) (lo w2 25 t3 λt21=>ca ky #[t21,t1] w2 λt23 w4=>
 pe t23 0 λt24=>pe t23 1 λt25=>lo w4 25 t3 λt27=>ca ky #[t27,t1] w4 λt29 w5=>
 pe t29 0 λt30=>pe t29 1 λ_t31=>lo w5 25 t3 λt33=>ca Q3 #[t33,t1] w5 λt35 w6=>
 pe t35 0 λt36=>pe t35 1 λt37=>bf .neq 3 t25 t37 λt40=>za (λK7=>gIf t40 false (ca qR #[t24,t36] w6 λt44 w11=>
 pp (Op.unary .not t44) λt45=>K7 [t45] w11) (K7 [u_] w6)) (λs8 _d9 w10=>
 zb t40 tr_ (s8.getD 0 u_) λt46=>zc t46 (K fa_ w10) (zp [(i6 0)] w10 (λs13 _d14 w15 K12=>
 pp (Builtin.len_ #[28] 3 #[t24]) λt49=>bf .lss 3 (s13.getD 0 u_) t49 λt50=>zc t50 (pp (Instr.build 36 #[(0,(i6 (-9)))]) λt55=>px 28 t24 (s13.getD 0 u_) λt56=>so w15 36 t56 t55 λw16=>bt .add 3 (s13.getD 0 u_) (i6 1) λt52=>K12 [t52] w16) (lo w15 25 t3 λt58=>ca vH #[t58,t1,t2] w15 λt61 w17=>
 pe t61 0 λt62=>pe t61 1 λt63=>lo w17 25 t3 λt65=>ca Qd #[t65,t1,t2] w17 λt68 w18=>
 pe t68 0 λt69=>pe t68 1 λt70=>bf .eql 3 t63 t70 λt73=>za (λK19=>gIf t73 true (ca qR #[t62,t69] w18 λt77 w23=>
 K19 [t77] w23) (K19 [u_] w18)) (λs20 _d21 w22=>
 zb t73 (s20.getD 0 u_) fa_ λt78=>za (λK24=>gIf t78 true (ca qR #[t30,t36] w22 λt82 w28=>
 K24 [t82] w28) (K24 [u_] w22)) (λs25 _d26 w27=>
 zb t78 (s25.getD 0 u_) fa_ λt83=>za (λK29=>gIf t83 true (ca jK #[] w27 λt85 w33=>
 K29 [t85] w33) (K29 [u_] w27)) (λs30 _d31 w32=>
 zb t83 (s30.getD 0 u_) fa_ λt86=>K t86 w32))))))))
theorem J6{t1 t2:Value}(h:Z4 t0 t1 t2 w K):zd prog ZR #[t0,t1,t2] w K:=
 okC false (.s (.r (rz 2 0 2)) (.s (.s (.r (rz 3 0 9)) (.c (.s (.r (rz 2 0 2)) (.n)) (.n))) (.s (.r (rz 8 0 33)) (.s (.r (rz 8 0 33)) (.s (.r (rz 8 0 33)) (.s (.s (.r (ra 4 0 0 (.grp 41 false (ri 4 4 32) [45] (rz 1 8 0)))) (.c (.s (.r (rz 1 0 0)) (.n)) (.n))) (.s (.s (.r (rz 1 0 0)) (.b (.lp [13] (.s (.s (.r (rz 4 0 0)) (.c (.n) (.n))) (.s (.b (.r (rz 5 0 512))) (.r (rz 3 0 0))))))) (.s (.r (rz 9 0 129)) (.s (.r (rz 9 0 129)) (.s (.r (ra 4 0 0 (.grp 74 true (ri 3 4 32) [77] (ra 2 7 0 (.grp 79 true (ri 3 9 32) [82] (ra 2 12 0 (.grp 84 true (ri 1 14 2) [85] (rz 2 15 0)))))))) (.n))))))))))) func3 rfl (by kernel_rfl) (by kernel_rfl) h
def V9(t0:Value)(w:World)(K:VW):Prop:=
 pw w (Instr.box 25 t0) λt1 w1=>
 fl w1 t1 25 0 22 λt7=>pp (Builtin.len_ #[22] 3 #[t7]) λt8=>bt .gtr 3 t8 (i6 40) λt9=>za (λK2=>gIf t9 false (fl w1 t1 25 1 23 λt12=>pp (Builtin.len_ #[23] 3 #[t12]) λt13=>bt .gtr 3 t13 (i6 40) λt14=>K2 [t14] w1) (K2 [u_] w1)) (λs3 _d4 w5=>
 zb t9 tr_ (s3.getD 0 u_) λt15=>zc t15 (K fa_ w5) (zp [(i6 0)] w5 (λs7 _d8 w9 K6=>
 fl w9 t1 25 0 22 λt18=>pp (Builtin.len_ #[22] 3 #[t18]) λt19=>bf .lss 3 (s7.getD 0 u_) t19 λt20=>zc t20 (fl w9 t1 25 0 22 λt24=>px 22 t24 (s7.getD 0 u_) λt26=>fl w9 t26 117 1 115 λt28=>pp (Builtin.len_ #[115] 3 #[t28]) λt29=>bt .gtr 3 t29 (i6 20) λt30=>zc t30 (K fa_ w9) (bt .add 3 (s7.getD 0 u_) (i6 1) λt22=>K6 [t22] w9)) (zp [(i6 0),(i6 0)] w9 (λs11 _d12 w13 K10=>
 fl w13 t1 25 1 23 λt33=>pp (Builtin.len_ #[23] 3 #[t33]) λt34=>bf .lss 3 (s11.getD 1 u_) t34 λt35=>zc t35 (fl w13.drew t1 25 1 23 λt40=>px 23 t40 (s11.getD 1 u_) λt42=>fl w13.drew t42 101 6 99 λt44=>pp (Builtin.len_ #[99] 3 #[t44]) λt45=>fl w13.drew t1 25 1 23 λt47=>px 23 t47 (s11.getD 1 u_) λt49=>fl w13.drew t49 101 4 41 λt51=>pp (Builtin.len_ #[41] 3 #[t51]) λt52=>bf .add 3 t45 t52 λt53=>bf .add 3 (s11.getD 0 u_) t53 λt54=>fl w13.drew t1 25 1 23 λt56=>px 23 t56 (s11.getD 1 u_) λt58=>fl w13.drew t58 101 6 99 λt60=>pp (Builtin.len_ #[99] 3 #[t60]) λt61=>bt .gtr 3 t61 (i6 150) λt62=>za (λK14=>gIf t62 false (fl w13.drew t1 25 1 23 λt65=>px 23 t65 (s11.getD 1 u_) λt67=>fl w13.drew t67 101 4 41 λt69=>pp (Builtin.len_ #[41] 3 #[t69]) λt70=>bt .gtr 3 t70 (i6 150) λt71=>K14 [t71] w13.drew) (K14 [u_] w13.drew)) (λs15 _d16 w17=>
 zb t62 tr_ (s15.getD 0 u_) λt72=>za (λK18=>gIf t72 false (bt .gtr 3 t54 (i6 600) λt75=>K18 [t75] w17) (K18 [u_] w17)) (λs19 _d20 w21=>
 zb t72 tr_ (s19.getD 0 u_) λt76=>zc t76 (K fa_ w21) (bt .add 3 (s11.getD 1 u_) (i6 1) λt37=>K10 [t54,t37] w21)))) (K tr_ w13))))))
theorem ae8(h:V9 t0 w K):zd prog Y2 #[t0] w K:=
 okC false (.s (.r (rz 2 0 2)) (.s (.s (.r (ra 5 0 4 (.grp 10 false (ri 4 5 4) [14] (rz 1 9 0)))) (.c (.s (.r (rz 1 0 0)) (.n)) (.n))) (.s (.r (rz 1 0 0)) (.s (.s (.r (rz 1 0 0)) (.b (.lp [4] (.s (.s (.r (rz 5 0 16)) (.c (.n) (.n))) (.s (.b (.s (.r (rz 8 0 1028)) (.c (.s (.r (rz 1 0 0)) (.n)) (.n)))) (.r (rz 3 0 0))))))) (.s (.s (.r (rz 1 0 0)) (.b (.lp [3,5] (.s (.s (.r (rz 5 0 16)) (.c (.n) (.n))) (.s (.b (.s (.r (rz 18 0 67375120)) (.s (.r (ra 9 0 1028 (.grp 63 false (ri 8 9 1028) [71] (ra 2 17 0 (.grp 73 false (ri 2 19 0) [75] (rz 1 21 0)))))) (.c (.s (.r (rz 1 0 0)) (.n)) (.n))))) (.r (rz 3 0 0))))))) (.s (.r (rz 1 0 0)) (.n))))))) func11 rfl (by kernel_rfl) (by kernel_rfl) h
def JV(w:World)(K:VW):Prop:=
 ca Y3 #[] w λt14 w1=>
 pw w1 (Instr.alloc 25 true (.tuple #[])) λt1 w2=>
 so w2 25 t1 t14 λw3=>lo w3 25 t1 λt16=>ca ky #[t16,(i6 0)] w3 λt17 w4=>
 pe t17 0 λt18=>pe t17 1 λt19=>lo w4 25 t1 λt21=>ca vH #[t21,(i6 0),(i6 0)] w4 λt22 w5=>
 pe t22 0 λt23=>pe t22 1 λt24=>ca YD #[(i6 1)] w5 λt26 w6=>
 ca YD #[(i6 2)] w6 λt27 w7=>
 ca vG #[t26,t27] w7 λt28 w8=>
 pe t28 0 λt29=>pe t28 1 λt30=>ca Zm #[t18,(i6 2),(i6 0)] w8 λt33 w9=>
 pe t33 0 λt34=>pe t33 1 λt35=>pp (Instr.build 48 #[]) λt38=>pp (Instr.build 48 #[]) λt39=>pw w9 (Instr.buildSlice 44 2 #[(0,t38),(1,t39)]) λt40 w10=>
 ca jQ #[t18,t40] w10 λt41 w11=>
 pe t41 0 λ_t42=>pe t41 1 λ_t43=>pe t41 2 λt44=>pe t41 3 λt45=>bt .eql 29 t19 (i6 0) λt47=>za (λK12=>gIf t47 true (pp (Builtin.len_ #[28] 3 #[t18]) λt50=>bt .eql 3 t50 (i6 1) λt51=>K12 [t51] w11) (K12 [u_] w11)) (λs13 _d14 w15=>
 zb t47 (s13.getD 0 u_) fa_ λt52=>za (λK16=>gIf t52 true (xl w15 28 t18 (i6 0) 36 λt56=>pp (Instr.build 36 #[(0,(i6 1)),(1,(i6 0))]) λt57=>pq w15 (zP .eql 36 false t56 t57) λt58=>K16 [t58] w15) (K16 [u_] w15)) (λs17 _d18 w19=>
 zb t52 (s17.getD 0 u_) fa_ λt59=>za (λK20=>gIf t59 true (bt .eql 29 t24 (i6 0) λt62=>K20 [t62] w19) (K20 [u_] w19)) (λs21 _d22 w23=>
 zb t59 (s21.getD 0 u_) fa_ λt63=>za (λK24=>gIf t63 true (pp (Builtin.len_ #[28] 3 #[t23]) λt66=>bt .eql 3 t66 (i6 1) λt67=>K24 [t67] w23) (K24 [u_] w23)) (λs25 _d26 w27=>
 zb t63 (s25.getD 0 u_) fa_ λt68=>za (λK28=>gIf t68 true (bt .eql 29 t30 (i6 0) λt71=>K28 [t71] w27) (K28 [u_] w27)) (λs29 _d30 w31=>
 zb t68 (s29.getD 0 u_) fa_ λt72=>za (λK32=>gIf t72 true (pp (Builtin.len_ #[28] 3 #[t29]) λt75=>bt .eql 3 t75 (i6 1) λt76=>K32 [t76] w31) (K32 [u_] w31)) (λs33 _d34 w35=>
 zb t72 (s33.getD 0 u_) fa_ λt77=>za (λK36=>gIf t77 true (bt .eql 29 t35 (i6 0) λt80=>K36 [t80] w35) (K36 [u_] w35)) (λs37 _d38 w39=>
 zb t77 (s37.getD 0 u_) fa_ λt81=>za (λK40=>gIf t81 true (pp (Builtin.len_ #[55] 3 #[t34]) λt84=>bt .eql 3 t84 (i6 2) λt85=>K40 [t85] w39) (K40 [u_] w39)) (λs41 _d42 w43=>
 zb t81 (s41.getD 0 u_) fa_ λt86=>za (λK44=>gIf t86 true (K44 [t44] w43) (K44 [u_] w43)) (λs45 _d46 w47=>
 zb t86 (s45.getD 0 u_) fa_ λt89=>za (λK48=>gIf t89 true (bt .eql 29 t45 (i6 0) λt92=>K48 [t92] w47) (K48 [u_] w47)) (λs49 _d50 w51=>
 zb t89 (s49.getD 0 u_) fa_ λt93=>K t93 w51))))))))))
theorem ad1(h:JV  w K):zd prog jK #[] w K:=
 okC false (.s (.r (rz 1 0 0)) (.s (.r (rz 3 0 42)) (.s (.r (rz 7 0 9)) (.s (.r (rz 7 0 9)) (.s (.r (rz 8 0 42)) (.s (.r (rz 7 0 8)) (.s (.r (rz 14 0 640)) (.s (.r (ra 3 0 0 (.grp 48 true (ri 3 3 0) [51] (ra 2 6 0 (.grp 53 true (ri 5 8 272) [58] (ra 2 13 0 (.grp 60 true (ri 2 15 0) [62] (ra 2 17 0 (.grp 64 true (ri 3 19 0) [67] (ra 2 22 0 (.grp 69 true (ri 2 24 0) [71] (ra 2 26 0 (.grp 73 true (ri 3 28 0) [76] (ra 2 31 0 (.grp 78 true (ri 2 33 0) [80] (ra 2 35 0 (.grp 82 true (ri 3 37 0) [85] (ra 2 40 0 (.grp 87 true (ri 1 42 0) [88] (ra 2 43 0 (.grp 90 true (ri 2 45 0) [92] (rz 2 47 0)))))))))))))))))))))) (.n))))))))) func12 rfl (by kernel_rfl) (by kernel_rfl) h
def aaa(t0 t1:Value)(w:World)(K:VW):Prop:=
 pp (Builtin.len_ #[28] 3 #[t0]) λt7=>pp (Builtin.len_ #[28] 3 #[t1]) λt9=>bf .neq 3 t7 t9 λt10=>zc t10 (K fa_ w) (zp [(i6 0)] w (λs2 _d3 w4 K1=>
 pp (Builtin.len_ #[28] 3 #[t0]) λt13=>bf .lss 3 (s2.getD 0 u_) t13 λt14=>zc t14 (xl w4.drew 28 t0 (s2.getD 0 u_) 36 λt20=>xl w4.drew 28 t1 (s2.getD 0 u_) 36 λt24=>pq w4.drew (zP .neq 36 false t20 t24) λt25=>zc t25 (K fa_ w4.drew) (bt .add 3 (s2.getD 0 u_) (i6 1) λt16=>K1 [t16] w4.drew)) (K tr_ w4)))
theorem ae9{t1:Value}(h:aaa t0 t1 w K):zd prog qR #[t0,t1] w K:=
 okC false (.s (.r (rz 1 0 0)) (.s (.s (.r (rz 5 0 0)) (.c (.s (.r (rz 1 0 0)) (.n)) (.n))) (.s (.s (.r (rz 1 0 0)) (.b (.lp [5] (.s (.s (.r (rz 4 0 0)) (.c (.n) (.n))) (.s (.b (.s (.r (rz 9 0 81984)) (.c (.s (.r (rz 1 0 0)) (.n)) (.n)))) (.r (rz 3 0 0))))))) (.s (.r (rz 1 0 0)) (.n))))) func15 rfl (by kernel_rfl) (by kernel_rfl) h
def aab(w:World)(K:VW):Prop:=
 pw w (Instr.alloc 25 true (.tuple #[])) λt0 w1=>
 pw w1 (Instr.buildSlice 78 1 #[(0,(i6 (-1)))]) λt2 w2=>
 pp (Instr.build 80 #[(0,(i6 2)),(1,t2)]) λt3=>pw w2 (Instr.alloc 80 true (.tuple #[])) λt1 w3=>
 so w3 80 t1 t3 λw4=>pp (Instr.build 80 #[(0,(i6 2))]) λt9=>pp (Instr.build 80 #[(0,(i6 1))]) λt10=>pp (Instr.build 96 #[(0,(Value.int .u8 4)),(1,t9),(6,t10),(7,tr_),(10,(i6 1))]) λt11=>pp (Instr.build 80 #[(0,(i6 1))]) λt12=>lo w4.drew 80 t1 λt15=>pp (Instr.build 96 #[(0,(Value.int .u8 14))]) λt18=>((ca xH #[] w4.drew λt4 w5=>
 Ext w4.drew w5∧
 ((ca xH #[] w5 λt5 w6=>
 Ext w5 w6∧
 ((ca kg #[tr_] w6 λt6 w7=>
 Ext w6 w7∧
 ((pw w7 (Instr.buildSlice 41 3 #[(0,t4),(1,t5),(2,t6)]) λt7 w8=>
 Ext w7 w8∧
 ((pw w8 (Instr.makeSlice 98 (i6 3) (i6 3)) λt8 w9=>
 Ext w8 w9∧
 ca zu #[(i6 2)] w9 λt13 w10=>
 Ext w9 w10∧
 pp (Instr.build 96 #[(0,(Value.int .u8 1)),(1,t12),(2,t13),(10,(i6 2))]) λt14=>ca zu #[(i6 3)] w10 λt16 w11=>
 Ext w10 w11∧
 pp (Instr.build 96 #[(0,(Value.int .u8 1)),(1,t15),(2,t16),(10,(i6 3))]) λt17=>pw w11 (Instr.buildSlice 99 4 #[(0,t11),(1,t14),(2,t17),(3,t18)]) λt19 w12=>
 pp (Instr.build 101 #[(4,t7),(5,t8),(6,t19)]) λt20=>pw w12 (Instr.buildSlice 23 1 #[(0,t20)]) λt21 w13=>
 pp (Instr.build 25 #[(1,t21)]) λt22=>so w13 25 t0 t22 λw14=>pq w14 (zf 25 t0) λr15=>K r15 w14)∧
 (ca zu #[(i6 2)] w8 λt13_17 w16=>
 Ext w8 w16∧
 pp (Instr.build 96 #[(0,(Value.int .u8 1)),(1,t12),(2,t13_17),(10,(i6 2))]) λt14_18=>((pw w16 (Instr.makeSlice 98 (i6 3) (i6 3)) λt8_20 w19=>
 Ext w16 w19∧
 ca zu #[(i6 3)] w19 λt16_22 w21=>
 Ext w19 w21∧
 pp (Instr.build 96 #[(0,(Value.int .u8 1)),(1,t15),(2,t16_22),(10,(i6 3))]) λt17_23=>pw w21 (Instr.buildSlice 99 4 #[(0,t11),(1,t14_18),(2,t17_23),(3,t18)]) λt19_25 w24=>
 pp (Instr.build 101 #[(4,t7),(5,t8_20),(6,t19_25)]) λt20_26=>pw w24 (Instr.buildSlice 23 1 #[(0,t20_26)]) λt21_28 w27=>
 pp (Instr.build 25 #[(1,t21_28)]) λt22_29=>so w27 25 t0 t22_29 λw30=>pq w30 (zf 25 t0) λr31=>K r31 w30)∧
 (ca zu #[(i6 3)] w16 λt16_33 w32=>
 Ext w16 w32∧
 pp (Instr.build 96 #[(0,(Value.int .u8 1)),(1,t15),(2,t16_33),(10,(i6 3))]) λt17_34=>((pw w32 (Instr.makeSlice 98 (i6 3) (i6 3)) λt8_36 w35=>
 Ext w32 w35∧
 pw w35 (Instr.buildSlice 99 4 #[(0,t11),(1,t14_18),(2,t17_34),(3,t18)]) λt19_38 w37=>
 pp (Instr.build 101 #[(4,t7),(5,t8_36),(6,t19_38)]) λt20_39=>pw w37 (Instr.buildSlice 23 1 #[(0,t20_39)]) λt21_41 w40=>
 pp (Instr.build 25 #[(1,t21_41)]) λt22_42=>so w40 25 t0 t22_42 λw43=>pq w43 (zf 25 t0) λr44=>K r44 w43)∧
 (pw w32 (Instr.buildSlice 99 4 #[(0,t11),(1,t14_18),(2,t17_34),(3,t18)]) λt19_46 w45=>
 pw w45 (Instr.makeSlice 98 (i6 3) (i6 3)) λt8_48 w47=>
 Ext w45 w47∧
 pp (Instr.build 101 #[(4,t7),(5,t8_48),(6,t19_46)]) λt20_49=>pw w47 (Instr.buildSlice 23 1 #[(0,t20_49)]) λt21_51 w50=>
 pp (Instr.build 25 #[(1,t21_51)]) λt22_52=>so w50 25 t0 t22_52 λw53=>pq w53 (zf 25 t0) λr54=>K r54 w53)))))))∧
 (((pw w7 (Instr.makeSlice 98 (i6 3) (i6 3)) λt8_56 w55=>
 Ext w7 w55∧
 ((pw w55 (Instr.buildSlice 41 3 #[(0,t4),(1,t5),(2,t6)]) λt7_58 w57=>
 Ext w55 w57∧
 ca zu #[(i6 2)] w57 λt13_60 w59=>
 Ext w57 w59∧
 pp (Instr.build 96 #[(0,(Value.int .u8 1)),(1,t12),(2,t13_60),(10,(i6 2))]) λt14_61=>ca zu #[(i6 3)] w59 λt16_63 w62=>
 Ext w59 w62∧
 pp (Instr.build 96 #[(0,(Value.int .u8 1)),(1,t15),(2,t16_63),(10,(i6 3))]) λt17_64=>pw w62 (Instr.buildSlice 99 4 #[(0,t11),(1,t14_61),(2,t17_64),(3,t18)]) λt19_66 w65=>
 pp (Instr.build 101 #[(4,t7_58),(5,t8_56),(6,t19_66)]) λt20_67=>pw w65 (Instr.buildSlice 23 1 #[(0,t20_67)]) λt21_69 w68=>
 pp (Instr.build 25 #[(1,t21_69)]) λt22_70=>so w68 25 t0 t22_70 λw71=>pq w71 (zf 25 t0) λr72=>K r72 w71)∧
 (ca zu #[(i6 2)] w55 λt13_74 w73=>
 Ext w55 w73∧
 pp (Instr.build 96 #[(0,(Value.int .u8 1)),(1,t12),(2,t13_74),(10,(i6 2))]) λt14_75=>((pw w73 (Instr.buildSlice 41 3 #[(0,t4),(1,t5),(2,t6)]) λt7_77 w76=>
 Ext w73 w76∧
 ca zu #[(i6 3)] w76 λt16_79 w78=>
 Ext w76 w78∧
 pp (Instr.build 96 #[(0,(Value.int .u8 1)),(1,t15),(2,t16_79),(10,(i6 3))]) λt17_80=>pw w78 (Instr.buildSlice 99 4 #[(0,t11),(1,t14_75),(2,t17_80),(3,t18)]) λt19_82 w81=>
 pp (Instr.build 101 #[(4,t7_77),(5,t8_56),(6,t19_82)]) λt20_83=>pw w81 (Instr.buildSlice 23 1 #[(0,t20_83)]) λt21_85 w84=>
 pp (Instr.build 25 #[(1,t21_85)]) λt22_86=>so w84 25 t0 t22_86 λw87=>pq w87 (zf 25 t0) λr88=>K r88 w87)∧
 (ca zu #[(i6 3)] w73 λt16_90 w89=>
 Ext w73 w89∧
 pp (Instr.build 96 #[(0,(Value.int .u8 1)),(1,t15),(2,t16_90),(10,(i6 3))]) λt17_91=>((pw w89 (Instr.buildSlice 41 3 #[(0,t4),(1,t5),(2,t6)]) λt7_93 w92=>
 Ext w89 w92∧
 pw w92 (Instr.buildSlice 99 4 #[(0,t11),(1,t14_75),(2,t17_91),(3,t18)]) λt19_95 w94=>
 pp (Instr.build 101 #[(4,t7_93),(5,t8_56),(6,t19_95)]) λt20_96=>pw w94 (Instr.buildSlice 23 1 #[(0,t20_96)]) λt21_98 w97=>
 pp (Instr.build 25 #[(1,t21_98)]) λt22_99=>so w97 25 t0 t22_99 λw100=>pq w100 (zf 25 t0) λr101=>K r101 w100)∧
 (pw w89 (Instr.buildSlice 99 4 #[(0,t11),(1,t14_75),(2,t17_91),(3,t18)]) λt19_103 w102=>
 pw w102 (Instr.buildSlice 41 3 #[(0,t4),(1,t5),(2,t6)]) λt7_105 w104=>
 Ext w102 w104∧
 pp (Instr.build 101 #[(4,t7_105),(5,t8_56),(6,t19_103)]) λt20_106=>pw w104 (Instr.buildSlice 23 1 #[(0,t20_106)]) λt21_108 w107=>
 pp (Instr.build 25 #[(1,t21_108)]) λt22_109=>so w107 25 t0 t22_109 λw110=>pq w110 (zf 25 t0) λr111=>K r111 w110)))))))∧
 (ca zu #[(i6 2)] w7 λt13_113 w112=>
 Ext w7 w112∧
 pp (Instr.build 96 #[(0,(Value.int .u8 1)),(1,t12),(2,t13_113),(10,(i6 2))]) λt14_114=>((pw w112 (Instr.buildSlice 41 3 #[(0,t4),(1,t5),(2,t6)]) λt7_116 w115=>
 Ext w112 w115∧
 ((pw w115 (Instr.makeSlice 98 (i6 3) (i6 3)) λt8_118 w117=>
 Ext w115 w117∧
 ca zu #[(i6 3)] w117 λt16_120 w119=>
 Ext w117 w119∧
 pp (Instr.build 96 #[(0,(Value.int .u8 1)),(1,t15),(2,t16_120),(10,(i6 3))]) λt17_121=>pw w119 (Instr.buildSlice 99 4 #[(0,t11),(1,t14_114),(2,t17_121),(3,t18)]) λt19_123 w122=>
 pp (Instr.build 101 #[(4,t7_116),(5,t8_118),(6,t19_123)]) λt20_124=>pw w122 (Instr.buildSlice 23 1 #[(0,t20_124)]) λt21_126 w125=>
 pp (Instr.build 25 #[(1,t21_126)]) λt22_127=>so w125 25 t0 t22_127 λw128=>pq w128 (zf 25 t0) λr129=>K r129 w128)∧
 (ca zu #[(i6 3)] w115 λt16_131 w130=>
 Ext w115 w130∧
 pp (Instr.build 96 #[(0,(Value.int .u8 1)),(1,t15),(2,t16_131),(10,(i6 3))]) λt17_132=>((pw w130 (Instr.makeSlice 98 (i6 3) (i6 3)) λt8_134 w133=>
 Ext w130 w133∧
 pw w133 (Instr.buildSlice 99 4 #[(0,t11),(1,t14_114),(2,t17_132),(3,t18)]) λt19_136 w135=>
 pp (Instr.build 101 #[(4,t7_116),(5,t8_134),(6,t19_136)]) λt20_137=>pw w135 (Instr.buildSlice 23 1 #[(0,t20_137)]) λt21_139 w138=>
 pp (Instr.build 25 #[(1,t21_139)]) λt22_140=>so w138 25 t0 t22_140 λw141=>pq w141 (zf 25 t0) λr142=>K r142 w141)∧
 (pw w130 (Instr.buildSlice 99 4 #[(0,t11),(1,t14_114),(2,t17_132),(3,t18)]) λt19_144 w143=>
 pw w143 (Instr.makeSlice 98 (i6 3) (i6 3)) λt8_146 w145=>
 Ext w143 w145∧
 pp (Instr.build 101 #[(4,t7_116),(5,t8_146),(6,t19_144)]) λt20_147=>pw w145 (Instr.buildSlice 23 1 #[(0,t20_147)]) λt21_149 w148=>
 pp (Instr.build 25 #[(1,t21_149)]) λt22_150=>so w148 25 t0 t22_150 λw151=>pq w151 (zf 25 t0) λr152=>K r152 w151)))))∧
 (((pw w112 (Instr.makeSlice 98 (i6 3) (i6 3)) λt8_154 w153=>
 Ext w112 w153∧
 ((pw w153 (Instr.buildSlice 41 3 #[(0,t4),(1,t5),(2,t6)]) λt7_156 w155=>
 Ext w153 w155∧
 ca zu #[(i6 3)] w155 λt16_158 w157=>
 Ext w155 w157∧
 pp (Instr.build 96 #[(0,(Value.int .u8 1)),(1,t15),(2,t16_158),(10,(i6 3))]) λt17_159=>pw w157 (Instr.buildSlice 99 4 #[(0,t11),(1,t14_114),(2,t17_159),(3,t18)]) λt19_161 w160=>
 pp (Instr.build 101 #[(4,t7_156),(5,t8_154),(6,t19_161)]) λt20_162=>pw w160 (Instr.buildSlice 23 1 #[(0,t20_162)]) λt21_164 w163=>
 pp (Instr.build 25 #[(1,t21_164)]) λt22_165=>so w163 25 t0 t22_165 λw166=>pq w166 (zf 25 t0) λr167=>K r167 w166)∧
 (ca zu #[(i6 3)] w153 λt16_169 w168=>
 Ext w153 w168∧
 pp (Instr.build 96 #[(0,(Value.int .u8 1)),(1,t15),(2,t16_169),(10,(i6 3))]) λt17_170=>((pw w168 (Instr.buildSlice 41 3 #[(0,t4),(1,t5),(2,t6)]) λt7_172 w171=>
 Ext w168 w171∧
 pw w171 (Instr.buildSlice 99 4 #[(0,t11),(1,t14_114),(2,t17_170),(3,t18)]) λt19_174 w173=>
 pp (Instr.build 101 #[(4,t7_172),(5,t8_154),(6,t19_174)]) λt20_175=>pw w173 (Instr.buildSlice 23 1 #[(0,t20_175)]) λt21_177 w176=>
 pp (Instr.build 25 #[(1,t21_177)]) λt22_178=>so w176 25 t0 t22_178 λw179=>pq w179 (zf 25 t0) λr180=>K r180 w179)∧
 (pw w168 (Instr.buildSlice 99 4 #[(0,t11),(1,t14_114),(2,t17_170),(3,t18)]) λt19_182 w181=>
 pw w181 (Instr.buildSlice 41 3 #[(0,t4),(1,t5),(2,t6)]) λt7_184 w183=>
 Ext w181 w183∧
 pp (Instr.build 101 #[(4,t7_184),(5,t8_154),(6,t19_182)]) λt20_185=>pw w183 (Instr.buildSlice 23 1 #[(0,t20_185)]) λt21_187 w186=>
 pp (Instr.build 25 #[(1,t21_187)]) λt22_188=>so w186 25 t0 t22_188 λw189=>pq w189 (zf 25 t0) λr190=>K r190 w189)))))∧
 (ca zu #[(i6 3)] w112 λt16_192 w191=>
 Ext w112 w191∧
 pp (Instr.build 96 #[(0,(Value.int .u8 1)),(1,t15),(2,t16_192),(10,(i6 3))]) λt17_193=>((pw w191 (Instr.buildSlice 41 3 #[(0,t4),(1,t5),(2,t6)]) λt7_195 w194=>
 Ext w191 w194∧
 ((pw w194 (Instr.makeSlice 98 (i6 3) (i6 3)) λt8_197 w196=>
 Ext w194 w196∧
 pw w196 (Instr.buildSlice 99 4 #[(0,t11),(1,t14_114),(2,t17_193),(3,t18)]) λt19_199 w198=>
 pp (Instr.build 101 #[(4,t7_195),(5,t8_197),(6,t19_199)]) λt20_200=>pw w198 (Instr.buildSlice 23 1 #[(0,t20_200)]) λt21_202 w201=>
 pp (Instr.build 25 #[(1,t21_202)]) λt22_203=>so w201 25 t0 t22_203 λw204=>pq w204 (zf 25 t0) λr205=>K r205 w204)∧
 (pw w194 (Instr.buildSlice 99 4 #[(0,t11),(1,t14_114),(2,t17_193),(3,t18)]) λt19_207 w206=>
 pw w206 (Instr.makeSlice 98 (i6 3) (i6 3)) λt8_209 w208=>
 Ext w206 w208∧
 pp (Instr.build 101 #[(4,t7_195),(5,t8_209),(6,t19_207)]) λt20_210=>pw w208 (Instr.buildSlice 23 1 #[(0,t20_210)]) λt21_212 w211=>
 pp (Instr.build 25 #[(1,t21_212)]) λt22_213=>so w211 25 t0 t22_213 λw214=>pq w214 (zf 25 t0) λr215=>K r215 w214)))∧
 (((pw w191 (Instr.makeSlice 98 (i6 3) (i6 3)) λt8_217 w216=>
 Ext w191 w216∧
 ((pw w216 (Instr.buildSlice 41 3 #[(0,t4),(1,t5),(2,t6)]) λt7_219 w218=>
 Ext w216 w218∧
 pw w218 (Instr.buildSlice 99 4 #[(0,t11),(1,t14_114),(2,t17_193),(3,t18)]) λt19_221 w220=>
 pp (Instr.build 101 #[(4,t7_219),(5,t8_217),(6,t19_221)]) λt20_222=>pw w220 (Instr.buildSlice 23 1 #[(0,t20_222)]) λt21_224 w223=>
 pp (Instr.build 25 #[(1,t21_224)]) λt22_225=>so w223 25 t0 t22_225 λw226=>pq w226 (zf 25 t0) λr227=>K r227 w226)∧
 (pw w216 (Instr.buildSlice 99 4 #[(0,t11),(1,t14_114),(2,t17_193),(3,t18)]) λt19_229 w228=>
 pw w228 (Instr.buildSlice 41 3 #[(0,t4),(1,t5),(2,t6)]) λt7_231 w230=>
 Ext w228 w230∧
 pp (Instr.build 101 #[(4,t7_231),(5,t8_217),(6,t19_229)]) λt20_232=>pw w230 (Instr.buildSlice 23 1 #[(0,t20_232)]) λt21_234 w233=>
 pp (Instr.build 25 #[(1,t21_234)]) λt22_235=>so w233 25 t0 t22_235 λw236=>pq w236 (zf 25 t0) λr237=>K r237 w236)))∧
 (pw w191 (Instr.buildSlice 99 4 #[(0,t11),(1,t14_114),(2,t17_193),(3,t18)]) λt19_239 w238=>
 ((pw w238 (Instr.buildSlice 41 3 #[(0,t4),(1,t5),(2,t6)]) λt7_241 w240=>
 Ext w238 w240∧
 pw w240 (Instr.makeSlice 98 (i6 3) (i6 3)) λt8_243 w242=>
 Ext w240 w242∧
 pp (Instr.build 101 #[(4,t7_241),(5,t8_243),(6,t19_239)]) λt20_244=>pw w242 (Instr.buildSlice 23 1 #[(0,t20_244)]) λt21_246 w245=>
 pp (Instr.build 25 #[(1,t21_246)]) λt22_247=>so w245 25 t0 t22_247 λw248=>pq w248 (zf 25 t0) λr249=>K r249 w248)∧
 (pw w238 (Instr.makeSlice 98 (i6 3) (i6 3)) λt8_251 w250=>
 Ext w238 w250∧
 pw w250 (Instr.buildSlice 41 3 #[(0,t4),(1,t5),(2,t6)]) λt7_253 w252=>
 Ext w250 w252∧
 pp (Instr.build 101 #[(4,t7_253),(5,t8_251),(6,t19_239)]) λt20_254=>pw w252 (Instr.buildSlice 23 1 #[(0,t20_254)]) λt21_256 w255=>
 pp (Instr.build 25 #[(1,t21_256)]) λt22_257=>so w255 25 t0 t22_257 λw258=>pq w258 (zf 25 t0) λr259=>K r259 w258)))))))))))))))∧
 (pw w6 (Instr.makeSlice 98 (i6 3) (i6 3)) λt8_261 w260=>
 Ext w6 w260∧
 ca kg #[tr_] w260 λt6_263 w262=>
 Ext w260 w262∧
 ((pw w262 (Instr.buildSlice 41 3 #[(0,t4),(1,t5),(2,t6_263)]) λt7_265 w264=>
 Ext w262 w264∧
 ca zu #[(i6 2)] w264 λt13_267 w266=>
 Ext w264 w266∧
 pp (Instr.build 96 #[(0,(Value.int .u8 1)),(1,t12),(2,t13_267),(10,(i6 2))]) λt14_268=>ca zu #[(i6 3)] w266 λt16_270 w269=>
 Ext w266 w269∧
 pp (Instr.build 96 #[(0,(Value.int .u8 1)),(1,t15),(2,t16_270),(10,(i6 3))]) λt17_271=>pw w269 (Instr.buildSlice 99 4 #[(0,t11),(1,t14_268),(2,t17_271),(3,t18)]) λt19_273 w272=>
 pp (Instr.build 101 #[(4,t7_265),(5,t8_261),(6,t19_273)]) λt20_274=>pw w272 (Instr.buildSlice 23 1 #[(0,t20_274)]) λt21_276 w275=>
 pp (Instr.build 25 #[(1,t21_276)]) λt22_277=>so w275 25 t0 t22_277 λw278=>pq w278 (zf 25 t0) λr279=>K r279 w278)∧
 (ca zu #[(i6 2)] w262 λt13_281 w280=>
 Ext w262 w280∧
 pp (Instr.build 96 #[(0,(Value.int .u8 1)),(1,t12),(2,t13_281),(10,(i6 2))]) λt14_282=>((pw w280 (Instr.buildSlice 41 3 #[(0,t4),(1,t5),(2,t6_263)]) λt7_284 w283=>
 Ext w280 w283∧
 ca zu #[(i6 3)] w283 λt16_286 w285=>
 Ext w283 w285∧
 pp (Instr.build 96 #[(0,(Value.int .u8 1)),(1,t15),(2,t16_286),(10,(i6 3))]) λt17_287=>pw w285 (Instr.buildSlice 99 4 #[(0,t11),(1,t14_282),(2,t17_287),(3,t18)]) λt19_289 w288=>
 pp (Instr.build 101 #[(4,t7_284),(5,t8_261),(6,t19_289)]) λt20_290=>pw w288 (Instr.buildSlice 23 1 #[(0,t20_290)]) λt21_292 w291=>
 pp (Instr.build 25 #[(1,t21_292)]) λt22_293=>so w291 25 t0 t22_293 λw294=>pq w294 (zf 25 t0) λr295=>K r295 w294)∧
 (ca zu #[(i6 3)] w280 λt16_297 w296=>
 Ext w280 w296∧
 pp (Instr.build 96 #[(0,(Value.int .u8 1)),(1,t15),(2,t16_297),(10,(i6 3))]) λt17_298=>((pw w296 (Instr.buildSlice 41 3 #[(0,t4),(1,t5),(2,t6_263)]) λt7_300 w299=>
 Ext w296 w299∧
 pw w299 (Instr.buildSlice 99 4 #[(0,t11),(1,t14_282),(2,t17_298),(3,t18)]) λt19_302 w301=>
 pp (Instr.build 101 #[(4,t7_300),(5,t8_261),(6,t19_302)]) λt20_303=>pw w301 (Instr.buildSlice 23 1 #[(0,t20_303)]) λt21_305 w304=>
 pp (Instr.build 25 #[(1,t21_305)]) λt22_306=>so w304 25 t0 t22_306 λw307=>pq w307 (zf 25 t0) λr308=>K r308 w307)∧
 (pw w296 (Instr.buildSlice 99 4 #[(0,t11),(1,t14_282),(2,t17_298),(3,t18)]) λt19_310 w309=>
 pw w309 (Instr.buildSlice 41 3 #[(0,t4),(1,t5),(2,t6_263)]) λt7_312 w311=>
 Ext w309 w311∧
 pp (Instr.build 101 #[(4,t7_312),(5,t8_261),(6,t19_310)]) λt20_313=>pw w311 (Instr.buildSlice 23 1 #[(0,t20_313)]) λt21_315 w314=>
 pp (Instr.build 25 #[(1,t21_315)]) λt22_316=>so w314 25 t0 t22_316 λw317=>pq w317 (zf 25 t0) λr318=>K r318 w317)))))))))∧
 (pw w5 (Instr.makeSlice 98 (i6 3) (i6 3)) λt8_320 w319=>
 Ext w5 w319∧
 ca xH #[] w319 λt5_322 w321=>
 Ext w319 w321∧
 ca kg #[tr_] w321 λt6_324 w323=>
 Ext w321 w323∧
 ((pw w323 (Instr.buildSlice 41 3 #[(0,t4),(1,t5_322),(2,t6_324)]) λt7_326 w325=>
 Ext w323 w325∧
 ca zu #[(i6 2)] w325 λt13_328 w327=>
 Ext w325 w327∧
 pp (Instr.build 96 #[(0,(Value.int .u8 1)),(1,t12),(2,t13_328),(10,(i6 2))]) λt14_329=>ca zu #[(i6 3)] w327 λt16_331 w330=>
 Ext w327 w330∧
 pp (Instr.build 96 #[(0,(Value.int .u8 1)),(1,t15),(2,t16_331),(10,(i6 3))]) λt17_332=>pw w330 (Instr.buildSlice 99 4 #[(0,t11),(1,t14_329),(2,t17_332),(3,t18)]) λt19_334 w333=>
 pp (Instr.build 101 #[(4,t7_326),(5,t8_320),(6,t19_334)]) λt20_335=>pw w333 (Instr.buildSlice 23 1 #[(0,t20_335)]) λt21_337 w336=>
 pp (Instr.build 25 #[(1,t21_337)]) λt22_338=>so w336 25 t0 t22_338 λw339=>pq w339 (zf 25 t0) λr340=>K r340 w339)∧
 (ca zu #[(i6 2)] w323 λt13_342 w341=>
 Ext w323 w341∧
 pp (Instr.build 96 #[(0,(Value.int .u8 1)),(1,t12),(2,t13_342),(10,(i6 2))]) λt14_343=>((pw w341 (Instr.buildSlice 41 3 #[(0,t4),(1,t5_322),(2,t6_324)]) λt7_345 w344=>
 Ext w341 w344∧
 ca zu #[(i6 3)] w344 λt16_347 w346=>
 Ext w344 w346∧
 pp (Instr.build 96 #[(0,(Value.int .u8 1)),(1,t15),(2,t16_347),(10,(i6 3))]) λt17_348=>pw w346 (Instr.buildSlice 99 4 #[(0,t11),(1,t14_343),(2,t17_348),(3,t18)]) λt19_350 w349=>
 pp (Instr.build 101 #[(4,t7_345),(5,t8_320),(6,t19_350)]) λt20_351=>pw w349 (Instr.buildSlice 23 1 #[(0,t20_351)]) λt21_353 w352=>
 pp (Instr.build 25 #[(1,t21_353)]) λt22_354=>so w352 25 t0 t22_354 λw355=>pq w355 (zf 25 t0) λr356=>K r356 w355)∧
 (ca zu #[(i6 3)] w341 λt16_358 w357=>
 Ext w341 w357∧
 pp (Instr.build 96 #[(0,(Value.int .u8 1)),(1,t15),(2,t16_358),(10,(i6 3))]) λt17_359=>((pw w357 (Instr.buildSlice 41 3 #[(0,t4),(1,t5_322),(2,t6_324)]) λt7_361 w360=>
 Ext w357 w360∧
 pw w360 (Instr.buildSlice 99 4 #[(0,t11),(1,t14_343),(2,t17_359),(3,t18)]) λt19_363 w362=>
 pp (Instr.build 101 #[(4,t7_361),(5,t8_320),(6,t19_363)]) λt20_364=>pw w362 (Instr.buildSlice 23 1 #[(0,t20_364)]) λt21_366 w365=>
 pp (Instr.build 25 #[(1,t21_366)]) λt22_367=>so w365 25 t0 t22_367 λw368=>pq w368 (zf 25 t0) λr369=>K r369 w368)∧
 (pw w357 (Instr.buildSlice 99 4 #[(0,t11),(1,t14_343),(2,t17_359),(3,t18)]) λt19_371 w370=>
 pw w370 (Instr.buildSlice 41 3 #[(0,t4),(1,t5_322),(2,t6_324)]) λt7_373 w372=>
 Ext w370 w372∧
 pp (Instr.build 101 #[(4,t7_373),(5,t8_320),(6,t19_371)]) λt20_374=>pw w372 (Instr.buildSlice 23 1 #[(0,t20_374)]) λt21_376 w375=>
 pp (Instr.build 25 #[(1,t21_376)]) λt22_377=>so w375 25 t0 t22_377 λw378=>pq w378 (zf 25 t0) λr379=>K r379 w378)))))))))∧
 (pw w4.drew (Instr.makeSlice 98 (i6 3) (i6 3)) λt8_381 w380=>
 Ext w4.drew w380∧
 ca xH #[] w380 λt4_383 w382=>
 Ext w380 w382∧
 ca xH #[] w382 λt5_385 w384=>
 Ext w382 w384∧
 ca kg #[tr_] w384 λt6_387 w386=>
 Ext w384 w386∧
 ((pw w386 (Instr.buildSlice 41 3 #[(0,t4_383),(1,t5_385),(2,t6_387)]) λt7_389 w388=>
 Ext w386 w388∧
 ca zu #[(i6 2)] w388 λt13_391 w390=>
 Ext w388 w390∧
 pp (Instr.build 96 #[(0,(Value.int .u8 1)),(1,t12),(2,t13_391),(10,(i6 2))]) λt14_392=>ca zu #[(i6 3)] w390 λt16_394 w393=>
 Ext w390 w393∧
 pp (Instr.build 96 #[(0,(Value.int .u8 1)),(1,t15),(2,t16_394),(10,(i6 3))]) λt17_395=>pw w393 (Instr.buildSlice 99 4 #[(0,t11),(1,t14_392),(2,t17_395),(3,t18)]) λt19_397 w396=>
 pp (Instr.build 101 #[(4,t7_389),(5,t8_381),(6,t19_397)]) λt20_398=>pw w396 (Instr.buildSlice 23 1 #[(0,t20_398)]) λt21_400 w399=>
 pp (Instr.build 25 #[(1,t21_400)]) λt22_401=>so w399 25 t0 t22_401 λw402=>pq w402 (zf 25 t0) λr403=>K r403 w402)∧
 (ca zu #[(i6 2)] w386 λt13_405 w404=>
 Ext w386 w404∧
 pp (Instr.build 96 #[(0,(Value.int .u8 1)),(1,t12),(2,t13_405),(10,(i6 2))]) λt14_406=>((pw w404 (Instr.buildSlice 41 3 #[(0,t4_383),(1,t5_385),(2,t6_387)]) λt7_408 w407=>
 Ext w404 w407∧
 ca zu #[(i6 3)] w407 λt16_410 w409=>
 Ext w407 w409∧
 pp (Instr.build 96 #[(0,(Value.int .u8 1)),(1,t15),(2,t16_410),(10,(i6 3))]) λt17_411=>pw w409 (Instr.buildSlice 99 4 #[(0,t11),(1,t14_406),(2,t17_411),(3,t18)]) λt19_413 w412=>
 pp (Instr.build 101 #[(4,t7_408),(5,t8_381),(6,t19_413)]) λt20_414=>pw w412 (Instr.buildSlice 23 1 #[(0,t20_414)]) λt21_416 w415=>
 pp (Instr.build 25 #[(1,t21_416)]) λt22_417=>so w415 25 t0 t22_417 λw418=>pq w418 (zf 25 t0) λr419=>K r419 w418)∧
 (ca zu #[(i6 3)] w404 λt16_421 w420=>
 Ext w404 w420∧
 pp (Instr.build 96 #[(0,(Value.int .u8 1)),(1,t15),(2,t16_421),(10,(i6 3))]) λt17_422=>((pw w420 (Instr.buildSlice 41 3 #[(0,t4_383),(1,t5_385),(2,t6_387)]) λt7_424 w423=>
 Ext w420 w423∧
 pw w423 (Instr.buildSlice 99 4 #[(0,t11),(1,t14_406),(2,t17_422),(3,t18)]) λt19_426 w425=>
 pp (Instr.build 101 #[(4,t7_424),(5,t8_381),(6,t19_426)]) λt20_427=>pw w425 (Instr.buildSlice 23 1 #[(0,t20_427)]) λt21_429 w428=>
 pp (Instr.build 25 #[(1,t21_429)]) λt22_430=>so w428 25 t0 t22_430 λw431=>pq w431 (zf 25 t0) λr432=>K r432 w431)∧
 (pw w420 (Instr.buildSlice 99 4 #[(0,t11),(1,t14_406),(2,t17_422),(3,t18)]) λt19_434 w433=>
 pw w433 (Instr.buildSlice 41 3 #[(0,t4_383),(1,t5_385),(2,t6_387)]) λt7_436 w435=>
 Ext w433 w435∧
 pp (Instr.build 101 #[(4,t7_436),(5,t8_381),(6,t19_434)]) λt20_437=>pw w435 (Instr.buildSlice 23 1 #[(0,t20_437)]) λt21_439 w438=>
 pp (Instr.build 25 #[(1,t21_439)]) λt22_440=>so w438 25 t0 t22_440 λw441=>pq w441 (zf 25 t0) λr442=>K r442 w441))))))))
theorem afa(h:aab  w K):zd prog Y3 #[] w K:=
 okC false (.s (.r (rz 1 0 2)) (.s (.r (rz 4 0 162)) (.s (.r (ra 4 5 0 (ra 1 11 1 (ra 1 14 0 (.alt 0 .u (.alt 1 .u (.alt 2 .u (.alt 3 .u (.alt 4 .u (ra 2 9 3 (ra 2 12 3 (rz 5 15 546))) (ra 2 9 3 (.alt 4 .u (ra 2 12 3 (rz 5 15 546)) (ra 2 12 3 (.alt 4 .u (rz 5 15 546) (ra 1 15 2 (ra 1 4 3 (rz 4 16 136)))))))) (.alt 4 .u (.alt 3 .u (ra 2 9 3 (ra 2 12 3 (rz 5 15 546))) (ra 2 9 3 (.alt 3 .u (ra 2 12 3 (rz 5 15 546)) (ra 2 12 3 (.alt 3 .u (rz 5 15 546) (ra 1 15 2 (ra 1 3 3 (rz 4 16 136)))))))) (ra 2 9 3 (.alt 3 .u (.alt 4 .u (ra 2 12 3 (rz 5 15 546)) (ra 2 12 3 (.alt 4 .u (rz 5 15 546) (ra 1 15 2 (ra 1 4 3 (rz 4 16 136)))))) (.alt 4 .u (.alt 3 .u (ra 2 12 3 (rz 5 15 546)) (ra 2 12 3 (.alt 3 .u (rz 5 15 546) (ra 1 15 2 (ra 1 3 3 (rz 4 16 136)))))) (ra 2 12 3 (.alt 3 .u (.alt 4 .u (rz 5 15 546) (ra 1 15 2 (ra 1 4 3 (rz 4 16 136)))) (.alt 4 .u (.alt 3 .u (rz 5 15 546) (ra 1 15 2 (ra 1 3 3 (rz 4 16 136)))) (ra 1 15 2 (.alt 3 .u (ra 1 4 3 (rz 4 16 136)) (ra 1 4 3 (ra 1 3 3 (rz 4 16 136))))))))))))) (ra 1 4 3 (ra 1 2 3 (.alt 3 .u (ra 2 9 3 (ra 2 12 3 (rz 5 15 546))) (ra 2 9 3 (.alt 3 .u (ra 2 12 3 (rz 5 15 546)) (ra 2 12 3 (.alt 3 .u (rz 5 15 546) (ra 1 15 2 (ra 1 3 3 (rz 4 16 136))))))))))) (ra 1 4 3 (ra 2 1 15 (.alt 3 .u (ra 2 9 3 (ra 2 12 3 (rz 5 15 546))) (ra 2 9 3 (.alt 3 .u (ra 2 12 3 (rz 5 15 546)) (ra 2 12 3 (.alt 3 .u (rz 5 15 546) (ra 1 15 2 (ra 1 3 3 (rz 4 16 136))))))))))) (ra 1 4 3 (ra 3 0 63 (.alt 3 .u (ra 2 9 3 (ra 2 12 3 (rz 5 15 546))) (ra 2 9 3 (.alt 3 .u (ra 2 12 3 (rz 5 15 546)) (ra 2 12 3 (.alt 3 .u (rz 5 15 546) (ra 1 15 2 (ra 1 3 3 (rz 4 16 136))))))))))))))) (.n)))) func47 rfl (by kernel_rfl) (by kernel_rfl) h
def ac5(t0:Value)(w:World)(K:VW):Prop:=
 pw w (Instr.alloc 43 true (.tuple #[])) λt2 w1=>
 ca kg #[fa_] w1 λt4 w2=>
 pw w2 (Instr.alloc 43 true (.tuple #[])) λt3 w3=>
 so w3 43 t3 t4 λw4=>pf 43 t3 2 λt6=>so w4 3 t6 t0 λw5=>lo w5 43 t3 λt7=>so w5 43 t2 t7 λw6=>pq w6 (zf 43 t2) λr7=>K r7 w6
theorem ahf(h:ac5 t0 w K):zd prog YD #[t0] w K:=
 okC false (.s (.r (rz 1 0 2)) (.s (.r (rz 3 0 42)) (.s (.r (rz 3 0 32)) (.s (.r (rz 2 0 9)) (.n))))) func48 rfl (by kernel_rfl) (by kernel_rfl) h
def aa8(w:World)(K:VW):Prop:=
 pw w (Instr.alloc 43 true (.tuple #[])) λt0 w1=>
 pp (Instr.build 43 #[(0,(Value.int .u8 1))]) λt1=>so w1 43 t0 t1 λw2=>pq w2 (zf 43 t0) λr3=>K r3 w2
theorem agI(h:aa8  w K):zd prog xH #[] w K:=
 okC false (.s (.r (rz 1 0 2)) (.s (.r (rz 2 0 8)) (.n))) func106 rfl (by kernel_rfl) (by kernel_rfl) h
def aa9(t0:Value)(w:World)(K:VW):Prop:=
 pw w (Instr.alloc 43 true (.tuple #[])) λt2 w1=>
 ca xH #[] w1 λt4 w2=>
 pw w2 (Instr.buildSlice 41 1 #[(0,t4)]) λt5 w3=>
 pp (Instr.build 43 #[(0,(Value.int .u8 4)),(1,t0),(2,(i6 (-1))),(4,t5)]) λt6=>so w3 43 t2 t6 λw4=>pq w4 (zf 43 t2) λr5=>K r5 w4
theorem agJ(h:aa9 t0 w K):zd prog kg #[t0] w K:=
 okC false (.s (.r (rz 1 0 2)) (.s (.r (rz 5 0 552)) (.n))) func107 rfl (by kernel_rfl) (by kernel_rfl) h
def aba(t0:Value)(w:World)(K:VW):Prop:=
 pw w (Instr.alloc 93 true (.tuple #[])) λt2 w1=>
 pp (Instr.build 93 #[(0,(Value.int .u8 1)),(1,t0)]) λt4=>so w1 93 t2 t4 λw2=>pq w2 (zf 93 t2) λr3=>K r3 w2
theorem agK(h:aba t0 w K):zd prog zu #[t0] w K:=
 okC false (.s (.r (rz 1 0 2)) (.s (.r (rz 3 0 32)) (.n))) func108 rfl (by kernel_rfl) (by kernel_rfl) h
end Go.Proofs.Tryz
end
section
namespace Go.Sh
theorem StX.any{X:Nat→Prop}{w0 w:World}{r:Gh}{L:List Asr}(S:StX X w0 r w L):∃σ,σ=r∧StX X w0 σ w L:=⟨r,rfl,S⟩
end Go.Sh
namespace Go.Proofs
open Go.Sh Go.RowKit
set_option maxRecDepth 100000
theorem abb{w:World}{K:Value→World→Prop}(h:∀w',Ext w w'→K alO w'):zd Tryz.prog Tryz.xH #[] w K:=by
 refine Tryz.agI ?_
 unfold Tryz.aa8
 have S:StX noX w nothing w []:=St.start (λ_ _ h=>h.elim)
 refine S.al λb0 w1 S=>?_
 refine zq (cs:=Xl.toArray) (by kernel_rfl) ?_
 refine S.stB (b:=b0) λw2 S=>?_
 refine S.ceB (b:=b0) ?_ rfl
 exact h _ S.ext
theorem ahg{n:Int}{w:World}{K:Value→World→Prop}(h:∀w',Ext w w'→K (alP n) w'):zd Tryz.prog Tryz.zu #[.int .i64 n] w K:=by
 refine Tryz.agK ?_
 unfold Tryz.aba
 have S:StX noX w nothing w []:=St.start (λ_ _ h=>h.elim)
 refine S.al λb0 w1 S=>?_
 refine zq (cs:=#[.int .u8 1,.int .i64 n,.int .i64 0,.slice none 0 0]) (by kernel_rfl) ?_
 refine S.stB (b:=b0) λw2 S=>?_
 refine S.ceB (b:=b0) ?_ rfl
 exact h _ S.ext
theorem abc{m:Bool}{w:World}{K:Value→World→Prop}(h:∀q cap sn w',Ext w w'→New w sn w'→TyG sn (tyV (.mk 4 m (-1) 0 [zV]) q cap) (.mk 4 m (-1) 0 [zV])→K (tyV (.mk 4 m (-1) 0 [zV]) q cap) w'):zd Tryz.prog Tryz.kg #[.bool m] w K:=by
 refine Tryz.agJ ?_
 unfold Tryz.aa9
 have S:StX noX w nothing w []:=St.start (λ_ _ h=>h.elim)
 refine S.al λb2 w1 S=>?_
 refine abb λw2 e2=>?_
 have S:=S.go e2
 refine S.lit (e:=43) (cs:=Xl) (by kernel_rfl) λb5 w3 S=>?_
 refine zq (cs:=#[.int .u8 4,.bool m,.int .i64 (-1),.int .i64 0,.slice (some ⟨b5,0,none⟩) 1 1]) (by kernel_rfl) ?_
 refine S.stB (b:=b2) λw4 S=>?_
 refine S.ceB (b:=b2) ?_ rfl
 obtain⟨S,_,ha⟩:=S.litNew b5 (sz:=5) (R:=TyC nothing) (l:=[zV]) (by exact(qX (c:=Xl) rfl (show TyC nothing Xl zV from Xi))) (by decide)
 exact h (some ⟨b5,0,none⟩) 1 (nothing.or (Go.Sh.one b5 Xl 43)) _ S.ext (S.newOf (Above.no.or' ha)) (Xe (u:=zV) (v:=alO) Xi)
theorem agL{w:World}{K:Value→World→Prop}(h:∀v s w',Ext w w'→New w s w'→UnG s v yo→K v w'):zd Tryz.prog Tryz.Y3 #[] w K:=by
 refine Tryz.afa ?_
 unfold Tryz.aab
 have S:StX noX w nothing w []:=St.start (λ_ _ h=>h.elim)
 refine S.al λb0 w1 S=>?_
 refine S.lit (e:=84) (cs:=[.int .i64 (-1)]) (by kernel_rfl) λb2 w2 S=>?_
 refine zq (cs:=#[.int .i64 2,.slice (some ⟨b2,0,none⟩) 1 1]) (by kernel_rfl) ?_
 refine S.al λb1 w3 S=>?_
 refine S.stB (b:=b1) λw4 S=>?_
 have S:=S.go (Ext.drew _)
 refine zq (cs:=#[.int .i64 2,.slice none 0 0]) (by kernel_rfl) ?_
 refine zq (cs:=#[.int .i64 1,.slice none 0 0]) (by kernel_rfl) ?_
 refine zq (cs:=hl0.toArray) (by kernel_rfl) ?_
 refine zq (cs:=#[.int .i64 1,.slice none 0 0]) (by kernel_rfl) ?_
 refine S.ldB (b:=b1) ?_ rfl
 refine zq (cs:=hl3.toArray) (by kernel_rfl) ?_
 have S:=S.drop b1
 have fin:∀{w9:World}{b7 b8 b19 b21:Nat}{q6:Option Addr}{c6:Nat}{sn:Gh}{M M1 M2 M3 M4 M5:List Asr}(S:StX noX w (nothing.or sn) w9 M)
   [Zp b7 M (Xl++(Xl++tyL VG q6 c6)) 43 M1] [Zp b8 M1 [.string ByteArray.empty,.string ByteArray.empty,.string ByteArray.empty] 9 M2] [Zp b2 M2 [.int .i64 (-1)] 84 M3]
   [Zp b19 M3 (hl0++(hl1++(hl2 b2++hl3))) 96 M4] [Zp b21 M4 [.string ByteArray.empty,.int .i64 0,.slice none 0 0,.int .i64 0,.slice (some ⟨b7,0,none⟩) 3 3,.slice (some ⟨b8,0,none⟩) 3 3,.slice (some ⟨b19,0,none⟩) 4 4] 101 M5],
   Above w sn→TyG sn (tyV VG q6 c6) VG→K (.agg #[.slice none 0 0,.slice (some ⟨b21,0,none⟩) 1 1,.int .i64 0]) w9:=by
  intro w9 b7 b8 b19 b21 q6 c6 sn M M1 M2 M3 M4 M5 S _ _ _ _ _ ha ht
  obtain⟨S,h7,a7⟩:=S.litNew b7 (sz:=5) (R:=TyC sn) (l:=[zV,zV,VG]) (by exact(x7 rfl Xi (x7 rfl Xi (qX rfl ht)))) (by decide)
  obtain⟨S,h8,a8⟩:=S.litNew b8 (sz:=1) (R:=ajA) (l:=[ByteArray.empty,ByteArray.empty,ByteArray.empty]) (by exact(x7 (c:=[.string ByteArray.empty]) rfl rfl (x7 (c:=[.string ByteArray.empty]) rfl rfl (qX rfl rfl)))) (by decide)
  obtain⟨S,h2,a2⟩:=S.litNew b2 (sz:=1) (R:=Zt) (l:=[-1]) (by exact(qX rfl ⟨rfl,by unfold adv;omega⟩)) (by decide)
  have hz:∀{r:Gh}{α:Type}{sz:Nat}{R:List Value→α→Prop},SlB sz r R (.slice none 0 0) ([]:List α):=adC
  obtain⟨S,h19,a19⟩:=S.litNew b19 (sz:=21) (R:=PtG (Go.Sh.one b2 [.int .i64 (-1)] 84)) (l:=[hp0,hp1,hp2,hp3])
   (by exact(x7 rfl ⟨_,_,_,_,_,rfl,hz,hz,hz,hz,hz⟩ (x7 rfl ⟨_,_,_,_,_,rfl,hz,hz,hz,hz,hz⟩ (x7 rfl ⟨_,_,_,_,_,rfl,QO h2,hz,hz,hz,hz⟩ (qX rfl ⟨_,_,_,_,_,rfl,hz,hz,hz,hz,hz⟩))))) (by decide)
  obtain⟨S,h21,a21⟩:=S.litNew b21 (sz:=7) (R:=GrG (((((nothing.or sn).or (Go.Sh.one b7 (Xl++(Xl++tyL VG q6 c6)) 43)).or (Go.Sh.one b8 [.string ByteArray.empty,.string ByteArray.empty,.string ByteArray.empty] 9)).or (Go.Sh.one b2 [.int .i64 (-1)] 84)).or (Go.Sh.one b19 (hl0++(hl1++(hl2 b2++hl3))) 96))) (l:=[x8])
   (by exact(qX rfl ⟨_,_,_,_,rfl,hz,QO (h7.up' inferInstance λc x hx=>TyG.up hx),QO h8.cells,QO (h19.up' inferInstance λc x hx=>PtG.up hx)⟩)) (by decide)
  exact h _ _ _ S.ext (S.newOf (((((Above.no.or' ha).or' a7).or' a8).or' a2).or' a19 |>.or' a21)) ⟨none,0,_,rfl,λ_=>rfl,Nat.zero_le _,trivial,Nat.zero_le _,QO (h21.up' inferInstance λc x hx=>GrG.up hx)⟩
 repeat' (first
  |(with_reducible refine abb λw9 e9=>⟨e9,?_⟩;have S:=S.go e9)
  |(with_reducible refine ahg λw9 e9=>⟨e9,?_⟩;have S:=S.go e9)
  |(with_reducible refine abc λq6 c6 sn w9 e9 n9 t9=>⟨e9,?_⟩;obtain⟨S,d9,a9⟩:=S.tell e9 n9)
  |(with_reducible refine S.litU (t:=41) (e:=43) (cs:=Xl++(Xl++tyL VG q6 c6)) (by kernel_rfl) λb7 w9 S=>?_)
  |(with_reducible refine S.mkSU (by decide) (by decide) λb8 w9 S=>?_)
  |(with_reducible refine zq (t:=96) (parts:=#[(0,.int .u8 1),(1,.agg #[.int .i64 1,.slice none 0 0]),(2,alP 2),(10,.int .i64 2)]) (cs:=hl1.toArray) (by kernel_rfl) ?_)
  |(with_reducible refine zq (t:=96) (cs:=(hl2 b2).toArray) (by kernel_rfl) ?_)
  |(with_reducible refine S.lit (t:=99) (e:=96) (cs:=hl0++(hl1++(hl2 b2++hl3))) (by kernel_rfl) λb19 w9 S=>?_)
  |(with_reducible refine zq (t:=101) (cs:=#[.string ByteArray.empty,.int .i64 0,.slice none 0 0,.int .i64 0,.slice (some ⟨b7,0,none⟩) 3 3,.slice (some ⟨b8,0,none⟩) 3 3,.slice (some ⟨b19,0,none⟩) 4 4]) (by kernel_rfl) ?_)
  |(with_reducible refine S.lit (t:=23) (e:=101) (cs:=[.string ByteArray.empty,.int .i64 0,.slice none 0 0,.int .i64 0,.slice (some ⟨b7,0,none⟩) 3 3,.slice (some ⟨b8,0,none⟩) 3 3,.slice (some ⟨b19,0,none⟩) 4 4]) (by kernel_rfl) λb21 w9 S=>?_)
  |(with_reducible refine zq (t:=25) (cs:=#[.slice none 0 0,.slice (some ⟨b21,0,none⟩) 1 1,.int .i64 0]) (by kernel_rfl) ?_)
  |(with_reducible refine And.intro ?_ ?_)
  |(refine S.stB (b:=b0) λw9 S=>?_;refine S.ceB (b:=b0) ?_ rfl;exact fin (b7:=b7) (b8:=b8) (b19:=b19) (b21:=b21) S a9 t9)
)
theorem ac6{k:Int}{w:World}{K:Value→World→Prop}(h:∀q cap sn w',Ext w w'→New w sn w'→TyG sn (tyV (.mk 4 false k 0 [zV]) q cap) (.mk 4 false k 0 [zV])→K (tyV (.mk 4 false k 0 [zV]) q cap) w'):zd Tryz.prog Tryz.YD #[.int .i64 k] w K:=by
 refine Tryz.ahf ?_
 unfold Tryz.ac5
 have S:StX noX w nothing w []:=St.start (λ_ _ h=>h.elim)
 refine S.al λb2 w1 S=>?_
 refine abc λq cap sn w2 e2 n2 t2=>?_
 obtain⟨S,_,a2⟩:=S.tell e2 n2
 refine S.al λb3 w3 S=>?_
 refine S.stB (b:=b3) λw4 S=>?_
 refine gp_ ?_
 refine S.st (b:=b3) (λw5 S=>?_) (by simp)
 refine S.ldB (b:=b3) ?_ rfl
 refine S.stB (b:=b2) λw6 S=>?_
 refine S.ceB (b:=b2) ?_ rfl
 refine h q cap sn _ S.ext (S.newOf a2) ?_
 obtain⟨p,c,hE,h1,h2,h3⟩:=t2
 cases hE
 exact⟨_,_,rfl,h1,h2,h3⟩
theorem agM{u:UnD}{v:Value}{w:World}{r:Gh}{K:Value→World→Prop}(hr:Holds r w)(hu:UnG r v u)(h:∀(b:Bool) w',Ext w w'→K (.bool b) w'):zd Tryz.prog Tryz.Y2 #[v] w K:=by
 refine Tryz.ae8 ?_
 unfold Tryz.V9
 obtain⟨p0,cap0,vf,rfl,_,_,hst,hsl,hfn⟩:=hu
 obtain⟨qf,capf,rfl,_,_⟩:=hfn.sl.shape
 have hfl:u.fs.length≤9223372036854775807:=hfn.few
 have hsl':u.ss.length≤9223372036854775807:=hsl
 have S:=St.start hr
 refine S.box λb1 w1 S=>?_
 have S:StX noX w r w1 [.cell b1 [.slice p0 u.ss.length cap0,.slice qf u.fs.length capf,.int .i64 u.mn] 25]:=S
 refine gg_ ?_
 refine zk (c:=decide (40<(u.fs.length:Int))) (λ_ K2 hK2=>by refine gg_ ?_;exact hK2) ?_
 refine c_b (λ_=>h _ _ S.ext) (λ_=>?_)
 refine zi (ι:=Nat) (λi=>[.int .i64 (i:Nat)]) (λi w'=>i≤u.ss.length∧StX noX w r w' _) (λi=>u.ss.length-i) 0 rfl ⟨Nat.zero_le _,S⟩ ?_
 clear S
 rintro i d w2 ⟨hi,S⟩ K6 hK6
 rw[gdz]
 refine gg_ ?_
 refine zj (λhlt=>?_) (λhge=>?_)
 ·have hlt:i<u.ss.length:=by omega
  obtain⟨b,off,q,capq,rfl,hcell,_,_,_⟩:=xu hst hlt
  refine gg_ ?_
  refine zg (by rw[tnc];exact S.at hcell) ?_
  refine gg_ ?_
  refine c_b (λ_=>h _ _ S.ext) (λ_=>?_)
  refine gg_ ?_
  rw[show ((i:Int)+1)=((i+1:Nat):Int)by omega]
  exact hK6 (i+1) _ ⟨hlt,S⟩ (by omega)
 refine zi (ι:=Nat×Int) (λi=>[.int .i64 i.2,.int .i64 (i.1:Nat)]) (λi w'=>i.1≤u.fs.length∧StX noX w r w' _) (λi=>u.fs.length-i.1) (0,0) rfl ⟨Nat.zero_le _,S⟩ ?_
 clear S hK6 K6 hge hi
 rintro⟨i,n⟩ d w3 ⟨hi,S⟩ K7 hK7
 simp only at hi S⊢
 simp only[gdz,gds]
 refine gg_ ?_
 refine zj (λhlt=>?_) (λhge=>h _ _ S.ext)
 have hlt:i<u.fs.length:=by omega
 obtain⟨bf,of,cf,rfl,hcf,hgc,hfo⟩:=hfn.sl.get (by decide) hlt
 generalize u.fs[i]=g at hgc
 obtain⟨vo,vt,vn,vp,rfl,h1,h2,h3,h4⟩:=id hgc
 obtain⟨qt,capt,rfl,_,hct⟩:=h2.sl.shape
 obtain⟨qp,capp,rfl,_,_⟩:=h4.sl.shape
 have S:=S.go (Ext.drew _)
 have l4:Ob r λw=>w.cell? ⟨bf,of+i*7+4,none⟩=some (.slice qt g.tys.length capt):=hfo 4 _ rfl
 have l6:Ob r λw=>w.cell? ⟨bf,of+i*7+6,none⟩=some (.slice qp g.pts.length capp):=hfo 6 _ rfl
 refine gg_ ?_
 refine zg (by rw[tnc];exact S.at l6) ?_
 refine gg_ ?_
 refine zg (by rw[tnc];exact S.at l4) ?_
 refine gp_ ?_
 refine aiW λx=>?_
 refine aiW λy=>?_
 refine gg_ ?_
 refine zg (by rw[tnc];exact S.at l6) ?_
 refine gg_ ?_
 refine zk (c:=decide (150<(g.tys.length:Int))) (λ_ K2 hK2=>?_) ?_
 ·refine gg_ ?_
  refine zg (by rw[tnc];exact S.at l4) ?_
  refine gg_ ?_
  exact hK2
 refine zk (c:=decide (600<y)) (λ_ K2 hK2=>by refine gg_ ?_;exact hK2) ?_
 refine c_b (λ_=>h _ _ S.ext) (λ_=>?_)
 refine gg_ ?_
 rw[show ((i:Int)+1)=((i+1:Nat):Int)by omega]
 exact hK7 (i+1,y) _ ⟨hlt,S⟩ (by show u.fs.length-(i+1)<u.fs.length-i;omega)
theorem Xy{l m:List CnD}{v vm:Value}{w:World}{r:Gh}{K:Value→World→Prop}(hr:Holds r w)(hl:SlG 2 r CnC v l)(hm:SlG 2 r CnC vm m)(hlf:l.length≤1000000)(hmf:m.length≤1000000)
  (h:∀w',Ext w w'→K (.bool (decide (l=m))) w'):zd Tryz.prog Tryz.qR #[v,vm] w K:=by
 refine Tryz.ae9 ?_
 unfold Tryz.aaa
 obtain⟨p,cap,rfl,_,_⟩:=hl.shape
 obtain⟨pm,cm,rfl,_,_⟩:=hm.shape
 have S:=St.start hr
 refine gg_ ?_
 refine zj (λhne=>?_) (λheq=>?_)
 ·have:=h _ S.ext
  have hn:¬l=m:=λe=>hne (by rw[e])
  rwa[decide_eq_false hn]at this
 have heq:l.length=m.length:=by omega
 refine zi (ι:=Nat) (λi=>[.int .i64 (i:Nat)]) (λi w'=>i≤l.length∧(∀k (h1:k<l.length) (h2:k<m.length),k<i→l[k]=m[k])∧StX noX w r w' []) (λi=>l.length-i) 0 rfl ⟨Nat.zero_le _,λk _ _ h0=>absurd h0 (Nat.not_lt_zero _),S⟩ ?_
 repeat clear S
 rintro i d w6 ⟨hi,hno,S⟩ K4 hK4
 rw[gdz]
 refine gp_ ?_
 refine gp_ ?_
 refine zj (λhlt=>?_) (λhge=>?_)
 ·have hlt:i<l.length:=by omega
  have hlt2:i<m.length:=by omega
  have S:=S.go (Ext.drew _)
  obtain⟨b,off,hE,_,_,_,hc⟩:=Z3 hl hlt
  obtain⟨b2,off2,hE2,_,_,_,hc2⟩:=Z3 hm hlt2
  subst hE
  subst hE2
  refine gg_ ?_
  refine zn (n:=2) rfl (λj v hj=>by rw[tnc];exact S.at (hc j v hj)) ?_
  refine gg_ ?_
  refine zn (n:=2) rfl (λj v hj=>by rw[tnc];exact S.at (hc2 j v hj)) ?_
  refine gg_ ?_
  have he:(decide (l[i].1=m[i].1)&&decide (l[i].2=m[i].2))=decide (l[i]=m[i]):=by
   rw[Bool.eq_iff_iff,Bool.and_eq_true,decide_eq_true_eq,decide_eq_true_eq,decide_eq_true_eq,Prod.ext_iff]
  rw[he]
  refine c_b (λhb=>?_) (λhb=>?_)
  ·have:=h _ S.ext
   have hne:¬l=m:=λe=>by subst e;simp at hb
   rwa[decide_eq_false hne]at this
  ·refine gg_ ?_
   refine hK4 (i+1) _ ⟨hlt,λk h1 h2 hk=>?_,S⟩ (by omega)
   rcases Nat.lt_or_ge k i with h|h
   ·exact hno k h1 h2 h
   ·obtain rfl:k=i:=by omega
    simpa using hb
 ·have hil:i=l.length:=by omega
  have:=h _ S.ext
  have hy:l=m:=List.ext_getElem heq λk h1 h2=>hno k h1 h2 (by omega)
  rwa[decide_eq_true hy]at this
end Go.Proofs
end
section
namespace Go.Proofs
open Go.Sh Go.RowKit Go.BM
theorem ahI:allD yo x8=⟨0,4,2,[zV,zV,vO 0],[1,-1,-1,-1]⟩:=by kernel_rfl
theorem ahJ:zN (zM yo 0 (-1))=(⟨0,4,2,[zV,zV,vO 0],[1,-1,-1,-1]⟩,0):=by rw[ajP (by decide)];rfl
theorem agN{t:TyD}(ht:mayB [] t=true):(yE [] [t] ⟨0,[]⟩).1=t:=by
 have ho:yi [] [t] ⟨0,[]⟩=true:=by
  rw[yi,hst]
  show(((decide ((0:Int)≤0)&&decide ((0:Int)<1))&&decide (0≤8))&&(true&&(mayB [] t&&true)))=true
  rw[ht];rfl
 rw[yE,zH,if_pos ho];rfl
theorem al1:yl [] [zV,zV,vO 0] (plD 1)=zV:=agN (by rw[hmay];kernel_rfl)
theorem al2:yl [] [zV,zV,vO 0] (plD 2)=vO 0:=agN (by rw[hmay];kernel_rfl)
theorem ajc:ptCn yo [zV,zV,vO 0] hp0 1=[(1,0)]:=by
 rw[ptCn,if_neg (by decide),if_neg (by decide),if_pos (by decide)]
 show kc false (.mk 4 true 1 0 [yl [] _ (plD 1)]) (yl [] _ (plD 2))++[]=_
 rw[al1,al2];rfl
theorem al3:cnU yo x8=[(1,0)]:=by
 have h1:ptCn yo [zV,zV,vO 0] hp1 (-1)=[]:=by rw[ptCn,if_pos (by decide),flO,if_neg (by decide)]
 have h2:ptCn yo [zV,zV,vO 0] hp2 (-1)=[]:=by rw[ptCn,if_pos (by decide),flO,if_neg (by decide)]
 have h3:ptCn yo [zV,zV,vO 0] hp3 (-1)=[]:=by rw[ptCn,if_neg (by decide),if_neg (by decide),if_neg (by decide),if_neg (by decide)]
 rw[cnU,ahI]
 show ptCn yo [zV,zV,vO 0] hp0 1++(ptCn yo [zV,zV,vO 0] hp1 (-1)++(ptCn yo [zV,zV,vO 0] hp2 (-1)++(ptCn yo [zV,zV,vO 0] hp3 (-1)++[])))=_
 rw[ajc,h1,h2,h3];rfl
theorem al4:ofD yo 0=([(1,0)],0):=by
 rw[ofD,ahJ,if_neg (by decide)]
 show(ddL (cnU yo x8),(0:Int))=_
 rw[al3];rfl
theorem al5:atD yo 0 0=([(1,0)],0):=by
 rw[atD,ahJ,if_neg (by decide)]
 show(if(0:Int)≠0 then _ else(ptCn yo (allD yo x8).tys hp0 ((allD yo x8).at'.getD 0 0),(0:Int)))=_
 rw[if_neg (by decide),ahI]
 exact congrArg (·,(0:Int)) ajc
theorem al6:Jp (.mk 4 false 1 0 [zV]) (.mk 4 false 2 0 [zV])=([(1,2)],0):=by kernel_rfl
theorem al7:frD [(1,0)] 2 0=([0,1],0):=by
 rw[frD,if_neg (by decide)]
 congr 1
 refine Jl acL (by decide) λx=>?_
 rw[ahB]
 simp only[List.mem_cons,List.not_mem_nil,or_false]
 constructor
 ·rintro⟨h,_⟩;omega
 ·rintro(rfl|rfl)
  ·exact⟨by decide,.base⟩
  ·exact⟨by decide,.step .base (by simp)⟩
theorem ak8:BM.mayB 0 []=true:=BM.mayB_true ⟨by decide,by decide,by decide,λk _ h=>by simp at h⟩
theorem ak9:([(0,[]),(0,[])]:List ki).any (Ju [(0,[]),(0,[])])=false:=by
 have :Ju [(0,[]),(0,[])] (0,[])=false:=by rw[Ju,ak8];rfl
 simp only[List.any_cons,List.any_nil,this];rfl
theorem JW{w:World}{r:Gh}{K:Value→World→Prop}(hr:Holds r w)(hT:TabG r)(h:∀w',Ext w w'→K (.bool true) w'):zd Tryz.prog Tryz.jK #[] w K:=by
 refine Tryz.ad1 ?_
 unfold Tryz.JV
 have S:=St.start hr
 refine agL λv2 s2 w2 e2 n2 hu=>?_
 obtain⟨S,_,_⟩:=S.tell e2 n2
 refine S.al λb1 w3 S=>?_
 obtain⟨p0,cap0,vf,rfl,_,_,_,_,hfn⟩:=id hu
 obtain⟨qf,capf,rfl,_,_⟩:=hfn.sl.shape
 refine S.stB (b:=b1) λw4 S=>?_
 have S:StX noX w (r.or s2) w4 [.cell b1 [.slice p0 0 cap0,.slice qf 1 capf,.int .i64 0] 25]:=S
 have hu:UnG (r.or s2) (.agg #[.slice p0 0 cap0,.slice qf 1 capf,.int .i64 0]) yo:=UnG.up hu
 have hT:TabG (r.or s2):=hT.up
 generalize r.or s2=ρ at S hu hT
 refine S.ldB (b:=b1) ?_ rfl
 refine V8 S.holds hu λv5 s5 w5 e5 n5 h5=>?_
 rw[al4]at h5⊢
 obtain⟨S,_,_⟩:=S.tell e5 n5
 obtain⟨p5,c5,rfl,_,_⟩:=h5.shape
 refine gp_ ?_
 refine gp_ ?_
 refine S.ldB (b:=b1) ?_ rfl
 refine V5 S.holds hu.up λv6 s6 w6 e6 n6 h6=>?_
 rw[al5]at h6⊢
 obtain⟨S,_,_⟩:=S.tell e6 n6
 obtain⟨p6,c6,rfl,_,_⟩:=h6.shape
 refine gp_ ?_
 refine gp_ ?_
 refine ac6 λq7 c7 s7 w7 e7 n7 t7=>?_
 obtain⟨S,_,_⟩:=S.tell e7 n7
 refine ac6 λq8 c8 s8 w8 e8 n8 t8=>?_
 obtain⟨S,_,_⟩:=S.tell e8 n8
 refine acW S.holds t7.up t8.up λv9 s9 w9 e9 n9 h9=>?_
 rw[al6]at h9⊢
 obtain⟨S,_,_⟩:=S.tell e9 n9
 obtain⟨p9,c9,rfl,_,_⟩:=h9.shape
 refine gp_ ?_
 refine gp_ ?_
 obtain⟨σ,hσ,S⟩:=S.any
 have l5:Le s5 σ:=by rw[hσ];infer_instance
 have l0:Le ρ σ:=by rw[hσ];infer_instance
 clear hσ
 have h5:SlG 2 σ CnC (.slice p5 ([(1,0)]:List CnD).length c5) [(1,0)]:=h5.cells
 refine adX S.holds h5 (by decide) λv10 s10 w10 e10 n10 h10=>?_
 rw[al7]at h10⊢
 obtain⟨S,_,_⟩:=S.tell e10 n10
 obtain⟨p10,c10,rfl,_,_⟩:=h10.shape
 refine gp_ ?_
 refine gp_ ?_
 refine zq (cs:=#[.int .i64 0,.slice none 0 0]) (by kernel_rfl) ?_
 refine zq (cs:=#[.int .i64 0,.slice none 0 0]) (by kernel_rfl) ?_
 refine S.lit (t:=44) (e:=48) (cs:=[.int .i64 0,.slice none 0 0,.int .i64 0,.slice none 0 0]) (by kernel_rfl) λb11 w11 S=>?_
 obtain⟨S,h11,_⟩:=S.litNew b11 (sz:=2) (R:=RwbC nothing) (l:=[(0,[]),(0,[])]) (by exact(x7 (c:=[.int .i64 0,.slice none 0 0]) rfl ⟨none,0,rfl,adC⟩ (qX (c:=[.int .i64 0,.slice none 0 0]) rfl ⟨none,0,rfl,adC⟩))) (by decide)
 obtain⟨τ,hτ,S⟩:=S.any
 have l1:Le σ τ:=by rw[hτ];infer_instance
 have l2:Le ρ τ:=by rw[hτ];exact⟨λb o h=>.inl (.inl (l0.le b o h))⟩
 have l3:Le (Go.Sh.one b11 [.int .i64 0,.slice none 0 0,.int .i64 0,.slice none 0 0] 48) τ:=by rw[hτ];infer_instance
 have h11:=h11.up' l3 λc x h=>RwbC.up (s:=τ) h
 have hT:TabG τ:=hT.up
 have h5:SlG 2 τ CnC (.slice p5 ([(1,0)]:List CnD).length c5) [(1,0)]:=h5.cells
 have hins:Js [((1:Int),(0:Int))] 2=true:=by decide
 refine abM S.holds h5 (by decide) h11 (by decide) hT (λhb=>?_) (λ_ _ i hi _ hne=>?_) λ_ _ _ w12 e12=>?_
 ·exfalso
  rcases hb with hb|hb
  ·rw[ak9]at hb;cases hb
  ·rw[show (([(0,[]),(0,[])]:List ki).length:Int)=2 by rfl,hins]at hb;cases hb
 ·exfalso
  have :i=0:=by have :i<1:=hi;omega
  subst this
  exact hne rfl
 have S:=S.go e12
 obtain⟨bq,oq,hq,_,g1,g2,gg⟩:=Z3 h5 (i:=0) (by decide)
 subst hq
 refine gS_ ?_
 iterate 1 refine zh (c:=true) (λ_ K2 hK2=>by refine gg_ ?_;exact hK2) ?_
 refine zh (c:=true) (λ_ K2 hK2=>?_) ?_
 ·refine gg_ ?_
  refine s_c (by decide) ?_
  refine zn (n:=2) rfl (λj v hj=>by simpa using S.at (gg j v hj)) ?_
  refine zq (cs:=#[.int .i64 1,.int .i64 0]) (by kernel_rfl) ?_
  refine gg_ ?_
  exact hK2
 iterate 6 refine zh (c:=true) (λ_ K2 hK2=>by refine gg_ ?_;exact hK2) ?_
 refine zh (c:=true) (λ_ K2 hK2=>hK2) ?_
 refine zh (c:=true) (λ_ K2 hK2=>by refine gg_ ?_;exact hK2) ?_
 exact h _ S.ext
end Go.Proofs
end
section
namespace Go.Proofs
open Go.Sh Go.RowKit
end Go.Proofs
end
section
namespace Go.Proofs
open Go.Sh
variable {ss:List StD} {p:PlD} {tys:List TyD}
theorem ajd{t:TyD}{k:Int}{s:TyD×Int}(h:zF ss t k=some s):(s.2<2↔t.k≠4)∧(t.k=4→(s.2=3↔t.m=false)):=by
 unfold zF at h
 split at h
 ·rename_i e
  cases ho:t.of.head? with
  |none=>rw [ho]at h;cases h
  |some u=>
   rw[ho]at h;cases h
   have:=e.2
   exact⟨⟨λ_=>by omega,λ_=>show (1:Int)<2 by decide⟩,λh4=>by omega⟩
 split at h
 ·rename_i e
  cases ho:t.of.head? with
  |none=>rw [ho]at h;cases h
  |some u=>
   rw[ho]at h;cases h
   have:=e.2
   cases t.m with
   |true=>exact ⟨⟨λh=>absurd h (show¬(2:Int)<2 by decide),λh=>absurd this h⟩,λ_=>⟨λh=>absurd h (show¬(2:Int)=3 by decide),λh=>by cases h⟩⟩
   |false=>exact ⟨⟨λh=>absurd h (show¬(3:Int)<2 by decide),λh=>absurd this h⟩,λ_=>⟨λ_=>rfl,λ_=>rfl⟩⟩
 split at h
 ·rename_i e
  cases ho:(ze ss t.st)[k.toNat]? with
  |none=>rw [ho]at h;cases h
  |some u=>
   rw[ho]at h;cases h
   have:=e.2
   exact⟨⟨λ_=>by omega,λ_=>show (0:Int)<2 by decide⟩,λh4=>by omega⟩
 ·cases h
theorem agO{ss:List StD}:∀{l:List Int}{t:TyD}{x:TyD×List Int},zD ss l t=some x→∀n,n<l.length→∃y k,zD ss (l.take n) t=some (y,x.2.take n)∧x.2[n]? = some k∧(k<2↔y.k≠4)∧(y.k=4→(k=3↔y.m=false))
 |[],_,_,_,n,h=>absurd h (Nat.not_lt_zero _)
 |k::l,t,x,hw,n,hn=>by
  rw[zD]at hw
  cases hs:zF ss t k with
  |none=>rw [hs]at hw;cases hw
  |some s=>
   rw[hs,Option.bind_some]at hw
   cases hz:zD ss l s.1 with
   |none=>rw [hz]at hw;cases hw
   |some z=>
    rw[hz]at hw;cases hw
    cases n with
    |zero=>exact ⟨t,s.2,rfl,rfl,ajd hs⟩
    |succ n=>
     obtain⟨y,k',h1,h2,h3⟩:=agO hz n (by simpa using hn)
     exact⟨y,k',by rw[List.take_succ_cons,zD,hs,Option.bind_some,h1];rfl,by simpa using h2,h3⟩
theorem ala{x:TyD×List Int}(h:zH ss tys p=some x):yl ss tys p=x.1:=by
 rw[yl,yE,acM (by rw[h];simp),h]
theorem aje{x:TyD×List Int}(h:zH ss tys p=some x){n:Nat}(hn:n<p.ps.length):
  ∃k,zH ss tys ⟨p.l,p.ps.take n⟩=some (yl ss tys ⟨p.l,p.ps.take n⟩,x.2.take n)∧x.2[n]? = some k∧(k<2↔(yl ss tys ⟨p.l,p.ps.take n⟩).k≠4)∧((yl ss tys ⟨p.l,p.ps.take n⟩).k=4→(k=3↔(yl ss tys ⟨p.l,p.ps.take n⟩).m=false)):=by
 have h0:=h
 unfold zH at h
 split at h
 ·rename_i ho
  obtain⟨y,k,h1,h2,h3⟩:=agO h n hn
  have ho2:yi ss tys ⟨p.l,p.ps.take n⟩=true:=by
   rw[yi,Bool.and_eq_true,Bool.and_eq_true,Bool.and_eq_true,decide_eq_true_eq,decide_eq_true_eq,decide_eq_true_eq]at ho⊢
   exact⟨⟨ho.1.1,by show(p.ps.take n).length≤8;rw[List.length_take];omega⟩,ho.2⟩
  have hp:zH ss tys ⟨p.l,p.ps.take n⟩=some (y,x.2.take n):=by rw[zH,if_pos ho2];exact h1
  rw[ala hp]
  exact⟨k,hp,h2,h3⟩
 ·cases h
theorem ZC{u:UnD}{g:GrD}(h:V4 u g p):∃x,zH u.ss (allD u g).tys p=some x∧x.1=tyD u g p:=by
 have:=h.all
 rw[yE]at this
 split at this
 ·rename_i x e
  exact⟨x,e,congrArg Prod.fst this⟩
 ·exact absurd (congrArg Prod.snd this) (show¬(2:Int)=0 by decide)
theorem ajf{x:TyD×List Int}(h:zH ss tys p=some x):x.2.length=p.ps.length:=by
 unfold zH at h
 split at h
 ·exact ZV h
 ·cases h
end Go.Proofs
end
section
namespace Go.Proofs
open Go.Sh Go.RowKit
variable {u:UnD} {g:GrD} {fn:Nat} {p:PtD} {K:Value→World→Prop}
theorem opl{o:OpD}(hM:MayU u)(hH:HeadU u fn g)(h:(zt u.ss g.tys o).2=true)(ho:kE o=true):V4 u g o.pl:=abL hM hH (ahF h ho).1
theorem al8{fn:Nat}(hp:zL u g p=true)(hop:p.op=1):(zt u.ss g.tys p.a).2=true:=by
 have h2:=jT hp
 rw[ptG]at h2
 simp only[hop,Int.reduceEq,if_false,if_true,Bool.and_eq_true,decide_eq_true_eq,isK]at h2
 exact h2.1.2
theorem al9{fn:Nat}(hp:zL u g p=true)(hop:p.op=5):(zt u.ss g.tys p.a).2=true:=by
 have h2:=jT hp
 rw[ptG]at h2
 simp only[hop,Int.reduceEq,if_false,if_true,Bool.and_eq_true,decide_eq_true_eq,isK]at h2
 exact h2.1.1.2
theorem ama(hp:zL u g p=true)(hop:p.op=7):∀i (h:i<p.args.length),(zt u.ss g.tys p.args[i]).2=true:=by
 have hpc:=vN hp hop
 have hltf:p.fn.toNat<u.fs.length:=by omega
 have h2:=jT hp
 rw[ptG]at h2
 simp only[hop,Int.reduceEq,if_false,if_true,Bool.and_eq_true,decide_eq_true_eq,gqg hltf]at h2
 obtain⟨hlen,hat⟩:=abB h2.2.2
 exactλi h=>(hat i h (by omega)).1
theorem aim{o:OpD}(hM:MayU u)(hH:HeadU u fn g)(h:(zt u.ss g.tys o).2=true):∃x:TyD×List Int,(kE o=true→zH u.ss (allD u g).tys o.pl=some x)∧x.1=tyD u g o.pl:=by
 cases ho:kE o with
 |true=>obtain ⟨x,h1,h2⟩:=ZC (opl hM hH h ho);exact⟨x,λ_=>h1,h2⟩
 |false=>exact ⟨(tyD u g o.pl,[]),(λh=>by cases h),rfl⟩
theorem amb{q:Nat}(hH: -1≤(allD u g).ct)(hN:∀p∈g.pts,0≤ptN u p)(hct:(allD u g).ct≤512)(hq:q<g.pts.length):(allD u g).at'[q]'(by rw[(yj).2];exact hq)≤512:=by
 have e:(allD u g).at'[q]'(by rw[(yj).2];exact hq)=(atK u g.pts (g.lv+zI g.tys))[q]'(by rw[kB];exact hq):=rfl
 rw[e,VB hq]
 split
 ·omega
 ·have h1:=kZ (u:=u) (l:=g.pts) hN q
  have h5:g.lv+zI g.tys+atC u g.pts≤512:=hct
  omega
theorem ajg{q:Nat}(hH:HeadU u fn g)(hN:∀p∈g.pts,0≤ptN u p)(hq:q<g.pts.length)(hn:ptN u g.pts[q]≠0):0≤(allD u g).at'[q]'(by rw[(yj).2];exact hq):=by
 have e:(allD u g).at'[q]'(by rw[(yj).2];exact hq)=(atK u g.pts (g.lv+zI g.tys))[q]'(by rw[kB];exact hq):=rfl
 rw[e,VB hq,if_neg hn]
 have h3:=xx g.tys
 have h4:=hH.lv0
 have h5:∀l:List PtD,(∀p∈l,0≤ptN u p)→0≤atC u l:=by
  intro l hl
  induction l with
  |nil=>exact Int.le_refl _
  |cons a l ih=>
   rw[atC]
   have:=hl a (List.mem_cons_self ..)
   have:=ih λp hp=>hl p (List.mem_cons_of_mem _ hp)
   omega
 have:=h5 (g.pts.take q) λp hp=>hN p (List.mem_of_mem_take hp)
 omega
theorem ajh{ρ:Gh}{q1:Option Addr}{c1 n:Nat}{ps:List Int}(h:SlB 1 ρ Zt (.slice q1 ps.length c1) ps)(hn:n≤ps.length):SlB 1 ρ Zt (.slice q1 n c1) (ps.take n):=by
 obtain⟨⟨p',cap',hE,h2,h3,h4⟩,h5⟩:=h
 cases hE
 have hl:(ps.take n).length=n:=by rw[List.length_take];omega
 refine⟨⟨q1,c1,by rw[hl],h2,by omega,λi hi=>?_⟩,by omega⟩
 obtain⟨c,k1,k2,k3⟩:=h4 i (by omega)
 exact⟨c,k1,k2,by rw[List.getElem_take];exact k3⟩
theorem ake{A:List CnD}{c:CnD}:(A++[c]).length=A.length+1:=by simp
theorem ahK{l m:List CnD}:cns (l++m)=cns l++cns m:=List.flatMap_append ..
theorem afb{d:RgD}{p:PlD}{c:List Value}{v vd:Value}{w:World}{r:Gh}{K:Value→World→Prop}(hr:Holds r w)(hu:UnG r v u)(hd:RgG r vd d)(hdl:d.tys.length≤maxLen)(hp:PlG r c p)
  (h:∀t q cap vg b w',Ext w w'→TyG r (tyV t q cap) t→(∀x,zH u.ss d.tys p=some x→t=x.1)→K (.tuple #[tyV t q cap,vg,.bool b]) w'):zd Tryz.prog Tryz.yP #[v,vd,.agg c.toArray] w K:=by
 refine Tryz.Yi ?_
 unfold Tryz.vQ
 obtain⟨p0,cap0,vf,rfl,_,_,hst,hsl,hfn⟩:=hu
 obtain⟨q1,c1,q2,c2,rfl,g1,g2⟩:=hd.shape
 obtain⟨vq,rfl,hl⟩:=id hp
 obtain⟨qs,caps,rfl,_,_⟩:=hl.sl.shape
 have S:=St.start hr
 refine S.box λb3 w1 S=>?_
 have S:StX noX w r w1 [.cell b3 [.slice p0 u.ss.length cap0,vf,.int .i64 u.mn] 25]:=S
 refine S.box λb4 w2 S=>?_
 refine S.box λb5 w3 S=>?_
 have S:StX noX w r w3 [.cell b5 [.int .i64 p.l,.slice qs p.ps.length caps] 80,.cell b4 (rgL d.lv d.pt d.ct (.slice q1 d.tys.length c1) (.slice q2 d.at'.length c2)) 74,.cell b3 [.slice p0 u.ss.length cap0,vf,.int .i64 u.mn] 25]:=S
 refine S.al λb6 w4 S=>?_
 refine gg_ ?_
 refine vS S.holds hst (kD g1) hdl hp (λw5 hn e5=>?_) λt how q cap vg s w5 hs e5 n5 htt hsl=>?_
 ·have S:=S.go e5
  refine gS_ ?_
  refine S.stB (b:=b6) λw6 S=>?_
  refine S.ceB (b:=b6) ?_ rfl
  exact h zA none 0 _ _ _ S.ext yp (λx hx=>by rw[hn]at hx;cases hx)
 ·obtain⟨S,d5,a5⟩:=S.tell e5 n5
  refine gS_ ?_
  refine S.stB (b:=b6) λw6 S=>?_
  refine S.ceB (b:=b6) ?_ rfl
  exact h t q cap _ _ _ S.ext htt (λx hx=>by rw[hs]at hx;cases hx;rfl)
abbrev m15(u:UnD)(g:GrD)(p:PtD)(p0 qf q1 q2 x1 x2 x3 x4 x5:Option Addr)(cap0 capf c1 c2 y1 y2 y3 y4 y5 b4 b7 b9:Nat):List Asr:=
 [.cell b9 (ptL p x1 x2 x3 x4 x5 y1 y2 y3 y4 y5) 96,.cell b7 (rgL (allD u g).lv (allD u g).pt (allD u g).ct (.slice q1 (allD u g).tys.length c1) (.slice q2 (allD u g).at'.length c2)) 74,.cell b4 [.slice p0 u.ss.length cap0,.slice qf u.fs.length capf,.int .i64 u.mn] 25]
theorem ac7{fn q:Int}{v vd:Value}{w:World}{r:Gh}{K:Value→World→Prop}(hM:MayU u)(hr:Holds r w)(hu:UnG r v u)(hd:RgG r vd (allD u g))(hf0:0≤fn)(hlt:fn.toNat<u.fs.length)(hge:u.fs[fn.toNat]=g)(hct:(allD u g).ct≤512)(hq0:0≤q)(hql:q.toNat<g.pts.length)
  (h:∀v' s w',Ext w w'→New w s w'→SlG 2 s CnC v' (ptCn u (allD u g).tys g.pts[q.toNat] (atL (allD u g).at' q))→K v' w'):zd Tryz.prog Tryz.YC #[v,.int .i64 fn,.int .i64 q,vd] w K:=by
 refine Tryz.ahc ?_
 unfold Tryz.ac1
 have hu0:=hu;have hd0:=hd
 obtain⟨p0,cap0,vf,rfl,_,_,hst,hsl,hfn⟩:=hu
 obtain⟨qf,capf,rfl,_,_⟩:=hfn.sl.shape
 obtain⟨q1,c1,q2,c2,rfl,g1,g2⟩:=hd.shape
 have hH:HeadU u fn.toNat g:=by have:=hM.hd hlt;rwa[hge]at this
 have hpt:∀p∈g.pts,zL u g p=true:=by have:=hM.pts _ (List.getElem_mem hlt);rwa[hge]at this
 have hN:∀p∈g.pts,0≤ptN u p:=λp hp=>(hM.ptN (List.getElem_mem hlt) (p:=p) (by rw[hge];exact hp)).1
 have hp:=hpt _ (List.getElem_mem hql)
 have hct0: -1≤(allD u g).ct:=by
  show -1≤g.lv+zI g.tys+atC u g.pts
  have h1:=kZ (u:=u) (l:=g.pts) hN 0
  have h3:=xx g.tys
  have h4:=hH.lv0
  have h5:atC u (g.pts.take 0)=0:=rfl
  omega
 have hdl:(allD u g).tys.length≤maxLen:=by rw[(yj).1,maxLen];have:=hH.ty512;omega
 have hqd:q.toNat<(allD u g).at'.length:=by rw[(yj).2];exact hql
 have hrg: -1≤(allD u g).at'[q.toNat]∧(allD u g).at'[q.toNat]≤1000000:=by
  have:=ZB (g:=g) hM hlt (by rw[hge];exact hct) (i:=q.toNat) (by rw[hge];exact hqd)
  simpa only[hge]using this
 have hpos:=ajg hH hN hql
 have htop:=amb hct0 hN hct hql
 have haE:atL (allD u g).at' q=(allD u g).at'[q.toNat]:=by rw[atL,List.getD_eq_getElem?_getD,gqg hqd,Option.getD_some]
 obtain⟨bf,of,cf,hqE,hcf,hgc,hfo⟩:=hfn.sl.get (by decide) hlt
 have hqlu:q.toNat<u.fs[fn.toNat].pts.length:=by rw[hge];exact hql
 have hpe:u.fs[fn.toNat].pts[q.toNat]=g.pts[q.toNat]:=by simp only[hge]
 rw[hge]at hgc
 obtain⟨vo,vt,vn,vp,rfl,m1,m2,m3,m4⟩:=hgc
 obtain⟨qp,capp,rfl,_,_⟩:=m4.sl.shape
 obtain⟨bp,op,cp,hpE,hcp,hpg,hpo⟩:=m4.sl.get (by decide) hql
 obtain⟨x1,x2,x3,x4,x5,y1,y2,y3,y4,y5,rfl,hpg0⟩:=qw hpg
 generalize g.pts[q.toNat]=p at hp hcp hpg hpg0 hpe hpo hpos h
 cases hqE
 obtain⟨ba,oa,hpa,_,hca⟩:=vi g2 hqd
 subst hpa
 rw[haE]at h
 have hca:Ob r λw=>w.cell? ⟨ba,oa+q.toNat,none⟩=some (.int .i64 (allD u g).at'[q.toNat]):=hca
 generalize ha:(allD u g).at'[q.toNat]=a at h hrg hpos htop hca
 obtain⟨kto,ka,kb,kargs,kfr⟩:=agc hpg0
 have S:=St.start hr
 refine S.box λb4 w1 S=>?_
 refine S.box λb7 w2 S=>?_
 refine gg_ ?_
 refine zg (v:=.slice qp g.pts.length capp) (by simpa using S.at (hfo 6 _ rfl)) ?_
 rw[hpE]
 refine gg_ ?_
 refine zn (n:=21) hcp (λj v hj=>by simpa using S.at (hpo j v hj)) ?_
 refine S.al λb9 w3 S=>?_
 refine S.stB (b:=b9) λw4 S=>?_
 refine S.ldB (b:=b4) ?_ rfl
 refine S.ldB (b:=b7) ?_ rfl
 have S:StX noX w r w4 (m15 u g p p0 (some ⟨bf,of,none⟩) q1 (some ⟨ba,oa,none⟩) x1 x2 x3 x4 x5 cap0 capf c1 c2 y1 y2 y3 y4 y5 b4 b7 b9):=S
 generalize hqf:(some ⟨bf,of,none⟩:Option Addr)=qf at S hu0 hfn
 refine gg_ ?_
 refine S.ldN (b:=b9) (vs:=[.int .i64 p.to.l,.slice x1 p.to.ps.length y1]) ?_
 refine afb S.holds hu0 hd0 hdl kto λtt qt ct vg bo w5 e5 t5 htt=>?_
 have S:=S.go e5
 refine gS_ ?_
 refine S.al λb10 w6 S=>?_
 refine S.stB (b:=b10) λw7 S=>?_
 have S:StX noX w r w7 (.cell b10 (tyL tt qt ct) 43::m15 u g p p0 qf q1 (some ⟨ba,oa,none⟩) x1 x2 x3 x4 x5 cap0 capf c1 c2 y1 y2 y3 y4 y5 b4 b7 b9):=S
 intro K8 hK8
 have fin:∀{v':Value}{w':World}{q':Gh}{L:List Asr},StX noX w q' w' (.row v' 36 2 (ptCn u (allD u g).tys p a).length (cns (ptCn u (allD u g).tys p a))::L)→K8 [v'] w':=fun {v' w' q' L} S=>by
  obtain⟨s,T,hs,_,hs2⟩:=S.doneRow (l:=ptCn u (allD u g).tys p a) ke (by decide) rfl
  exact hK8 _ _ λ_=>h v' s w' T.ext (StX.newOf (q:=s) T λb o ho=>(hs2 b o ho).resolve_right id) hs
 have fin0:∀{w':World}{q':Gh}{L:List Asr},ptCn u (allD u g).tys p a=[]→StX noX w q' w' L→K8 [.slice none 0 0] w':=fun {w' q' L} h0 S=>by
  have S:=S.ownNil 36 2
  refine fin (q':=q') (L:=L) ?_
  rw[h0];exact S
 clear hK8
 refine gg_ ?_
 refine zj (λho=>?_) (λho1=>?_)
 ·obtain⟨k1,k2⟩:=agy hM hH hp ho
  obtain⟨x0,hx0,hx1⟩:=ZC k1
  obtain rfl:tt=tyD u g p.to:=by rw[htt _ hx0,hx1]
  obtain⟨x,hx,hxe⟩:=aim hM hH (al8 (fn:=0) hp ho)
  have hpc:ptCn u (allD u g).tys p a=flO u.ss (allD u g).tys p.a (tyD u g p.to):=by rw[ptCn,if_pos ho]
  refine S.ldB (b:=b4) ?_ rfl
  refine S.ldB (b:=b7) ?_ rfl
  refine gg_ ?_
  refine S.ldN (b:=b9) (vs:=[.int .u8 p.a.k,.int .i64 p.a.n,.int .i64 p.a.pl.l,.slice x2 p.a.pl.ps.length y2]) ?_
  refine qM (x:=x) S.holds hu0 hd0 hdl ka hx (λhn w8 e8=>?_) λhy qa ca w8 e8 ta=>?_
  ·have S:=S.go e8
   refine gS_ ?_
   refine S.al λb14 w9 S=>?_
   refine S.stB (b:=b14) λw10 S=>?_
   refine c_f rfl ?_
   exact fin0 (by rw[hpc,flO,hn,if_neg (by decide)]) S
  ·have S:=S.go e8
   refine gS_ ?_
   refine S.al λb14 w9 S=>?_
   refine S.stB (b:=b14) λw10 S=>?_
   refine c_t rfl ?_
   refine S.ldB (b:=b14) ?_ rfl
   refine S.ldB (b:=b10) ?_ rfl
   obtain⟨_,z1,z2,z3⟩:=k2 hy
   rw[← hxe]at z1 z3
   refine jo 48 (by decide) z1 z2 z3 S.holds ta t5 λv' w11 e11 hw=>?_
   have S:=S.take e11 hw
   have hpc2:ptCn u (allD u g).tys p a=flowN false 48 x.1 (tyD u g p.to):=by rw[hpc,flO,if_pos hy,kc,hxe]
   rw[← hpc2]at S
   exact fin S
 refine gg_ ?_
 refine zj (λho=>?_) (λho5=>?_)
 ·obtain⟨k1,y,k2,k3⟩:=agz hM hH hp ho
  obtain⟨x0,hx0,hx1⟩:=ZC k1
  obtain rfl:tt=tyD u g p.to:=by rw[htt _ hx0,hx1]
  obtain⟨x,hx,hxe⟩:=aim hM hH (al9 (fn:=0) hp ho)
  have hpc:ptCn u (allD u g).tys p a=flO u.ss (allD u g).tys p.a y:=by rw[ptCn,if_neg ho1,if_pos ho,k2];rfl
  refine S.ldB (b:=b4) ?_ rfl
  refine S.ldB (b:=b7) ?_ rfl
  refine gg_ ?_
  refine S.ldN (b:=b9) (vs:=[.int .u8 p.a.k,.int .i64 p.a.n,.int .i64 p.a.pl.l,.slice x2 p.a.pl.ps.length y2]) ?_
  refine qM (x:=x) S.holds hu0 hd0 hdl ka hx (λhn w8 e8=>?_) λhy qa ca w8 e8 ta=>?_
  ·have S:=S.go e8
   refine gS_ ?_
   refine S.al λb14 w9 S=>?_
   refine S.stB (b:=b14) λw10 S=>?_
   refine c_f rfl ?_
   exact fin0 (by rw[hpc,flO,hn,if_neg (by decide)]) S
  ·have S:=S.go e8
   refine gS_ ?_
   refine S.al λb14 w9 S=>?_
   refine S.stB (b:=b14) λw10 S=>?_
   refine c_t rfl ?_
   have S:=S.go (Ext.drew _)
   refine S.ldB (b:=b14) ?_ rfl
   have t50:=t5
   obtain⟨p1,cap1,hE,_,_,hof⟩:=t5
   cases hE
   have l1:(tyD u g p.to).of.length=1:=by rw[k2];rfl
   obtain⟨by',oy,rfl,c,hc,hcell,hyy⟩:=NdG.of hof (i:=0) (by omega)
   have hyy:TyG r (.agg c.toArray) y:=by simpa [k2]using hyy
   refine gg_ ?_
   refine zn (n:=5) hc (λj v hj=>by simpa using S.at (hcell j v hj)) ?_
   obtain⟨_,z1,z2,z3⟩:=k3 hy
   rw[← hxe]at z1 z3
   refine jo 48 (by decide) z1 z2 z3 S.holds ta hyy λv' w11 e11 hw=>?_
   have S:=S.take e11 hw
   have hpc2:ptCn u (allD u g).tys p a=flowN false 48 x.1 y:=by rw[hpc,flO,if_pos hy,kc,hxe]
   rw[← hpc2]at S
   exact fin S
 refine gg_ ?_
 refine zj (λho=>?_) (λho4=>?_)
 ·obtain⟨k1,k2,k3,k4⟩:=acX (a:=a) hM hH hp ho hrg.1
  obtain⟨x0,hx0,hx1⟩:=ZC k1
  obtain rfl:tt=tyD u g p.to:=by rw[htt _ hx0,hx1]
  obtain⟨x,hx,hxe⟩:=ZC k2
  have hpc:ptCn u (allD u g).tys p a=kc false (.mk 4 p.mu a 0 [tyD u g p.fr]) (tyD u g p.to)++xy (λn=>tyD u g ⟨p.fr.l,p.fr.ps.take n⟩) a p.fr.ps.length:=by rw[ptCn,if_neg ho1,if_neg ho5,if_pos ho]
  have h8:p.fr.ps.length≤8:=by
   unfold zm at k3
   split at k3
   ·simpa using k3
   ·cases k3
  have S:=S.go (Ext.drew _)
  refine S.ldB (b:=b4) ?_ rfl
  refine S.ldB (b:=b7) ?_ rfl
  refine S.ldB (b:=b10) ?_ rfl
  refine abQ S.holds hu0 hd0 hdl hf0 hlt hq0 hqlu hpe hqd hx λv8 s8 w8 e8 n8 h8t=>⟨e8,?_⟩
  obtain⟨S,_,_⟩:=S.tell e8 n8
  rw[haE,ha,hxe]at h8t
  refine jo 48 (by decide) k4.1 k4.2.1 k4.2.2 S.holds h8t t5.up λv9 w9 e9 hw=>?_
  have S:=S.take e9 hw
  have S:StX noX w r w9 (.row v9 36 2 _ _::.cell b10 (tyL (tyD u g p.to) qt ct) 43::m15 u g p p0 qf q1 (some ⟨ba,oa,none⟩) x1 x2 x3 x4 x5 cap0 capf c1 c2 y1 y2 y3 y4 y5 b4 b7 b9):=S.less (λb o h=>.inl h) (List.Sublist.refl _)
  change ptCn u (allD u g).tys p a=flowN false 48 (.mk 4 p.mu a 0 [tyD u g p.fr]) (tyD u g p.to)++_ at hpc
  have hffew:=Zy 48 (both:=false) (t:=.mk 4 p.mu a 0 [tyD u g p.fr]) (u:=tyD u g p.to)
  generalize flowN false 48 (.mk 4 p.mu a 0 [tyD u g p.fr]) (tyD u g p.to)=F at S hpc hffew
  refine S.ldB (b:=b4) ?_ rfl
  refine S.ldB (b:=b7) ?_ rfl
  refine gg_ ?_
  refine S.ldN (b:=b9) (vs:=[.int .i64 p.fr.l,.slice x5 p.fr.ps.length y5]) ?_
  refine ae7 S.holds hu0 hd0 hdl kfr hx λqa ca vg sg w10 e10 n10 ta hg=>?_
  obtain⟨S,_,_⟩:=S.tell e10 n10
  obtain⟨pg,cg,rfl,_,_⟩:=hg.shape
  have hgl:x.2.length=p.fr.ps.length:=ajf hx
  refine gS_ ?_
  refine S.al λb18 w11 S=>?_
  refine S.stB (b:=b18) λw12 S=>?_
  refine gp_ ?_
  refine gp_ ?_
  have S:StX noX w (r.or sg) w12 (.row v9 36 2 F.length (cns F)::m15 u g p p0 qf q1 (some ⟨ba,oa,none⟩) x1 x2 x3 x4 x5 cap0 capf c1 c2 y1 y2 y3 y4 y5 b4 b7 b9):=S.less (λ_ _ h=>h) (.cons _ (.cons_cons _ (.cons _ (List.Sublist.refl _))))
  rw[hgl]
  refine zi (ι:=Value×Nat) (λi=>[i.1,.int .i64 ((i.2:Int)-1)]) (λi w'=>i.2≤p.fr.ps.length∧∃pre,pre++xy (λn=>tyD u g ⟨p.fr.l,p.fr.ps.take n⟩) a i.2=xy (λn=>tyD u g ⟨p.fr.l,p.fr.ps.take n⟩) a p.fr.ps.length∧StX noX w (r.or sg) w' (.row i.1 36 2 (F++pre).length (cns (F++pre))::m15 u g p p0 qf q1 (some ⟨ba,oa,none⟩) x1 x2 x3 x4 x5 cap0 capf c1 c2 y1 y2 y3 y4 y5 b4 b7 b9)) (λi=>i.2) (v9,p.fr.ps.length) rfl ⟨Nat.le_refl _,[],rfl,by rw[List.append_nil];exact S⟩ ?_
  repeat clear S
  rintro⟨vo',m⟩ d w13 ⟨hm,pre,hpre,S⟩ K4 hK4
  simp only[gdz,gds]
  have hm:m≤p.fr.ps.length:=hm
  have hpre:pre++xy (λn=>tyD u g ⟨p.fr.l,p.fr.ps.take n⟩) a m=xy (λn=>tyD u g ⟨p.fr.l,p.fr.ps.take n⟩) a p.fr.ps.length:=hpre
  have S:StX noX w (r.or sg) w13 (.row vo' 36 2 (F++pre).length (cns (F++pre))::m15 u g p p0 qf q1 (some ⟨ba,oa,none⟩) x1 x2 x3 x4 x5 cap0 capf c1 c2 y1 y2 y3 y4 y5 b4 b7 b9):=S
  refine gp_ ?_
  refine zj (λhge0=>?_) (λhlt0=>?_)
  ·obtain⟨n,rfl⟩:∃n,m=n+1:=⟨m-1,by omega⟩
   have hni:((n+1:Nat):Int)-1=(n:Int):=by omega
   rw[hni]
   have hprel:pre.length≤8:=by
    have h2:=congrArg List.length hpre
    rw[List.length_append]at h2
    have:=Jm (f:=λn=>tyD u g ⟨p.fr.l,p.fr.ps.take n⟩) (a:=a) (n:=p.fr.ps.length)
    omega
   obtain⟨k,hk1,hk2,hk3,hk4⟩:=aje hx (n:=n) (by omega)
   have hkg:x.2[n]? = some k:=hk2
   have hnl:n<x.2.length:=by omega
   rw[gqg hnl]at hk2
   have hkx:x.2[n]=k:=Option.some.inj hk2
   obtain⟨bg,og,hpg',_,hgg⟩:=vi hg hnl
   rw[hkx]at hgg
   subst hpg'
   have hcap:p.fr.ps.length≤y5:=by
    obtain⟨_,hE5,hst5⟩:=kfr
    cases hE5
    obtain⟨_,_,hE,_,h3,_⟩:=hst5.sl
    cases hE;exact h3
   refine zo (λy w'=>∃vo' pre,y=[vo']∧pre++xy (λn=>tyD u g ⟨p.fr.l,p.fr.ps.take n⟩) a n=xy (λn=>tyD u g ⟨p.fr.l,p.fr.ps.take n⟩) a p.fr.ps.length∧StX noX w (r.or sg) w' (.row vo' 36 2 (F++pre).length (cns (F++pre))::m15 u g p p0 qf q1 (some ⟨ba,oa,none⟩) x1 x2 x3 x4 x5 cap0 capf c1 c2 y1 y2 y3 y4 y5 b4 b7 b9)) (λK3 hK3=>?_) ?_
   ·refine gg_ ?_
    refine zg (by rw[tnc];exact S.at hgg) ?_
    refine gp_ ?_
    refine zj (λhk=>?_) (λhk=>?_)
    ·refine hK3 _ _ ⟨vo',pre,rfl,?_,S⟩
     rw[← hpre,xy,if_pos (hk3.1 hk)]
    ·have hk4':(tyD u g ⟨p.fr.l,p.fr.ps.take n⟩).k=4:=Decidable.byContradiction λhn=>hk (hk3.2 hn)
     refine zo (λy w'=>∃b q' cap',y=[.pointer (some ⟨b,0,none⟩)]∧StX noX w (r.or sg) w' (.cell b (tyL (tyD u g ⟨p.fr.l,p.fr.ps.take n⟩) q' cap') 43::.row vo' 36 2 (F++pre).length (cns (F++pre))::m15 u g p p0 qf q1 (some ⟨ba,oa,none⟩) x1 x2 x3 x4 x5 cap0 capf c1 c2 y1 y2 y3 y4 y5 b4 b7 b9)) (λK5 hK5=>?_) ?_
     ·have S:=S.go (Ext.drew _)
      refine S.ldB (b:=b4) ?_ rfl
      refine S.ldB (b:=b7) ?_ rfl
      refine gp_ ?_
      refine gp_ ?_
      refine S.ld (b:=b9) (v:=.int .i64 p.fr.l) ?_ rfl
      refine gp_ ?_
      refine gp_ ?_
      refine S.ld (b:=b9) (v:=.slice x5 p.fr.ps.length y5) ?_ rfl
      refine gp_ ?_
      rw[tnc]
      refine zq (cs:=#[.int .i64 p.fr.l,.slice x5 n y5]) (by kernel_rfl) ?_
      have hpp:PlG r [.int .i64 p.fr.l,.slice x5 n y5] ⟨p.fr.l,p.fr.ps.take n⟩:=by
       obtain⟨_,hE5,hst5⟩:=kfr
       cases hE5
       exact⟨_,rfl,ajh hst5 (by omega)⟩
      refine⟨?_,?_⟩
      ·refine vV S.holds hu0.up hd0.up hdl (PlG.up hpp) hk1 λq' cap' vg' w14 e14 t14=>?_
       have S:=S.go e14
       refine gS_ ?_
       refine S.alU λb22 w15 S=>?_
       refine S.stB (b:=b22) λw16 S=>?_
       exact hK5 _ _ ⟨b22,q',cap',rfl,S⟩
      ·refine S.alU λb22 w15 S=>?_
       refine vV S.holds hu0.up hd0.up hdl (PlG.up hpp) hk1 λq' cap' vg' w14 e14 t14=>?_
       have S:=S.go e14
       refine gS_ ?_
       refine S.stB (b:=b22) λw16 S=>?_
       exact hK5 _ _ ⟨b22,q',cap',rfl,S⟩
     ·repeat clear S
      rintro _ w14 ⟨b22,q',cap',rfl,S⟩ d
      rw[gdz]
      have S:=S.go (Ext.drew _)
      have S:StX noX w (r.or sg) _ (.cell b22 (tyL (tyD u g ⟨p.fr.l,p.fr.ps.take n⟩) q' cap') 43::.row vo' 36 2 (F++pre).length (cns (F++pre))::m15 u g p p0 qf q1 (some ⟨ba,oa,none⟩) x1 x2 x3 x4 x5 cap0 capf c1 c2 y1 y2 y3 y4 y5 b4 b7 b9):=S
      refine gg_ ?_
      refine zg (S.at (hca.up (s:=r.or sg))) ?_
      refine zq (cs:=#[.int .i64 (tyD u g ⟨p.fr.l,p.fr.ps.take n⟩).re,.int .i64 a]) (by kernel_rfl) ?_
      refine S.lit (e:=36) (cs:=[.int .i64 (tyD u g ⟨p.fr.l,p.fr.ps.take n⟩).re,.int .i64 a]) (by kernel_rfl) λb48 w15 S=>?_
      refine S.ap (v:=vo') (m':=1) (Sl.blk (S.blk b48)) (λv49 w16 S=>?_) (by rw[List.length_append];omega)
      have S:StX noX w (r.or sg) w16 (.row v49 36 2 (F++(pre++[((tyD u g ⟨p.fr.l,p.fr.ps.take n⟩).re,a)])).length (cns (F++(pre++[((tyD u g ⟨p.fr.l,p.fr.ps.take n⟩).re,a)])))::m15 u g p p0 qf q1 (some ⟨ba,oa,none⟩) x1 x2 x3 x4 x5 cap0 capf c1 c2 y1 y2 y3 y4 y5 b4 b7 b9):=by
       rw[← List.append_assoc,Xw,ake]
       exact S.tl.tl
      refine gg_ ?_
      refine zg (by rw[tnc];exact S.at hgg) ?_
      refine gp_ ?_
      rw[xy,if_neg (by omega)]at hpre
      refine zj (λh3=>?_) (λh3=>?_)
      ·rw[if_neg (by rw[(hk4 hk4').1 h3];decide)]at hpre
       rw[← hpre]at hpc
       rw[← hpc]at S
       exact fin S
      ·have hm3:(tyD u g ⟨p.fr.l,p.fr.ps.take n⟩).m=true:=by
        cases hmm:(tyD u g ⟨p.fr.l,p.fr.ps.take n⟩).m with
        |true=>rfl
        |false=>exact absurd ((hk4 hk4').2 hmm) h3
       rw[if_pos hm3]at hpre
       exact hK3 _ _ ⟨v49,_,rfl,by rw[List.append_assoc];exact hpre,S⟩
   ·repeat clear S
    rintro _ w14 ⟨vo',pre,rfl,hpre,S⟩ d
    rw[gdz]
    refine gp_ ?_
    exact hK4 (vo',n) _ ⟨by omega,pre,hpre,S⟩ (by show n<n+1;omega)
  ·obtain rfl:m=0:=by omega
   rw[xy,List.append_nil]at hpre
   rw[← hpre]at hpc
   rw[← hpc]at S
   exact fin S
 refine gg_ ?_
 refine zj (λho=>?_) (λho7=>?_)
 ·obtain⟨f,k⟩:=acY (a:=a) hM hH hp ho
  obtain⟨x0,hx0,hx1⟩:=ZC k.to
  obtain rfl:tt=tyD u g p.to:=by rw[htt _ hx0,hx1]
  have hops:=ama hp ho
  have hltf:p.fn.toNat<u.fs.length:=(List.getElem?_eq_some_iff.1 k.get).1
  have hfe:u.fs[p.fn.toNat]=f:=(List.getElem?_eq_some_iff.1 k.get).2
  have hptn:ptN u p=f.lv:=by rw[ptN,if_neg (by omega),if_pos ho,adx,k.get]
  rw[hptn]at hpos
  have hlv0:=k.head.lv0
  have hmx:∀j (h:j<f.tys.length),j≤f.pn.toNat→instT (max a 0) f.tys[j]=instT a f.tys[j]:=λj hj hjp=>by
   obtain⟨hB,hr⟩:=k.is j hj hjp
   refine akd ?_
   by_cases h0:f.lv=0
   ·left
    rw[regsT,hB,if_pos rfl]
    cases hrr:f.tys[j].regs with
    |nil=>rfl
    |cons z zs=>
     have:=hr z (by rw[hrr];exact List.mem_cons_self ..)
     omega
   ·exact .inr (hpos h0)
  have k0:=k.fn0
  have kt:=k.tys
  have kl:=k.len
  have k8:=k.pn8
  have hhd:∀(h0:0<f.tys.length),f.tys.headD zA=f.tys[0]:=λh0=>by rw[List.headD_eq_head?_getD,List.head?_eq_getElem?,gqg h0,Option.getD_some]
  have ht0:0<f.tys.length:=by omega
  refine S.ldB (b:=b4) ?_ rfl
  refine S.ldB (b:=b7) ?_ rfl
  refine ad0 (d:=allD u g) hM S.holds hu0 hd0 hf0 hlt hq0 hqlu hpe hqd k.fn0 hltf (λhne=>?_) λvl v8 s8 w8 e8 n8 hvl hv8=>?_
  ·rw[hfe]at hne
   rw[haE,ha]
   exact⟨hpos hne,by omega⟩
  simp only[hfe,haE,ha,hhd ht0,← hmx 0 ht0 (Nat.zero_le _)]at hvl hv8
  obtain⟨S,_,_⟩:=S.tell e8 n8
  have hv80:=hv8
  obtain⟨p8,cap8,rfl,_⟩:=hv8
  obtain⟨pl,cl,rfl,_,_⟩:=hvl.shape
  refine gS_ ?_
  refine S.al λb26 w9 S=>?_
  refine S.stB (b:=b26) λw10 S=>?_
  have hpc:ptCn u (allD u g).tys p a=((p.args.zip (f.tys.drop 1)).flatMap λx=>flO u.ss (allD u g).tys x.1 (instT (max a 0) x.2))++kc false (instT (max a 0) f.tys[0]) (tyD u g p.to)++(f.outs.map λo=>(a+o.1,a+o.2)):=by
   rw[ptCn,if_neg ho1,if_neg ho5,if_neg ho4,if_pos ho,k.get]
   dsimp only
   rw[hhd ht0]
  have hzl:(p.args.zip (f.tys.drop 1)).length=p.args.length:=by rw[List.length_zip,List.length_drop];omega
  have hll:(List.map (instT a) ((f.tys.drop 1).take f.pn.toNat)).length=p.args.length:=by rw[List.length_map,List.length_take,List.length_drop];omega
  rw[hll]
  rw[hll]at hvl
  have S:=S.ownNil 36 2
  have S:StX noX w (r.or s8) w10 (.row (.slice none 0 0) 36 2 0 []::.cell b26 (tyL (instT (max a 0) f.tys[0]) p8 cap8) 43::.cell b10 (tyL (tyD u g p.to) qt ct) 43::m15 u g p p0 qf q1 (some ⟨ba,oa,none⟩) x1 x2 x3 x4 x5 cap0 capf c1 c2 y1 y2 y3 y4 y5 b4 b7 b9):=S
  refine zi (ι:=Value×Nat) (λi=>[i.1,.int .i64 (i.2:Nat)]) (λi w'=>i.2≤p.args.length∧StX noX w (r.or s8) w' (.row i.1 36 2 (((p.args.zip (f.tys.drop 1)).take i.2).flatMap λx=>flO u.ss (allD u g).tys x.1 (instT (max a 0) x.2)).length (cns (((p.args.zip (f.tys.drop 1)).take i.2).flatMap λx=>flO u.ss (allD u g).tys x.1 (instT (max a 0) x.2)))::.cell b26 (tyL (instT (max a 0) f.tys[0]) p8 cap8) 43::.cell b10 (tyL (tyD u g p.to) qt ct) 43::m15 u g p p0 qf q1 (some ⟨ba,oa,none⟩) x1 x2 x3 x4 x5 cap0 capf c1 c2 y1 y2 y3 y4 y5 b4 b7 b9)) (λi=>p.args.length-i.2) (.slice none 0 0,0) rfl ⟨Nat.zero_le _,S⟩ ?_
  repeat clear S
  rintro⟨vo',i⟩ d w11 ⟨hi,S⟩ K4 hK4
  simp only[gdz,gds]
  have hi:i≤p.args.length:=hi
  have hfew:=ZJ (n:=96) (f:=λx:OpD×TyD=>flO u.ss (allD u g).tys x.1 (instT (max a 0) x.2)) (λx=>QS) ((p.args.zip (f.tys.drop 1)).take i)
  rw[List.length_take,hzl,Nat.min_eq_left hi]at hfew
  refine gg_ ?_
  refine zj (λhlti=>?_) (λhgei=>?_)
  ·have hlti:i<p.args.length:=by omega
   have hi2:i+1<f.tys.length:=by omega
   have hsn:((p.args.zip (f.tys.drop 1)).take (i+1)).flatMap (λx=>flO u.ss (allD u g).tys x.1 (instT (max a 0) x.2))=((p.args.zip (f.tys.drop 1)).take i).flatMap (λx=>flO u.ss (allD u g).tys x.1 (instT (max a 0) x.2))++flO u.ss (allD u g).tys p.args[i] (instT (max a 0) f.tys[i+1]):=by
    have hc1:1+i=i+1:=Nat.add_comm 1 i
    rw[kG (by omega),List.getElem_zip,List.getElem_drop]
    simp only[hc1]
   have hrow:(List.map (instT a) ((f.tys.drop 1).take f.pn.toNat))[i]'(by omega)=instT (max a 0) f.tys[i+1]:=by
    have hc1:1+i=i+1:=Nat.add_comm 1 i
    rw[List.getElem_map,List.getElem_take,List.getElem_drop,hmx (i+1) hi2 (by omega)]
    simp only[hc1]
   obtain⟨xi,hxi,hxie⟩:=aim hM hH (hops i hlti)
   have hfl:=k.arg i hlti hi2
   obtain⟨bo,oo,co,hE,hco,hop,hoc⟩:=kargs.sl.get (by decide) hlti
   obtain⟨bt,ot,ct',hE2,hct',hty,htc⟩:=hvl.get (by decide) (i:=i) (by omega)
   rw[hrow]at hty
   subst hE2
   subst hE
   generalize ((p.args.zip (f.tys.drop 1)).take i).flatMap (λx=>flO u.ss (allD u g).tys x.1 (instT (max a 0) x.2))=G at S hsn hfew
   generalize instT (max a 0) f.tys[i+1]=ti at hsn hty hfl
   generalize p.args[i]=ai at hop hxi hxie hfl hsn
   obtain⟨va2,rfl,hsteps⟩:=id hop
   obtain⟨qa,capa,rfl,_,_⟩:=hsteps.sl.shape
   refine zo (λy w'=>∃vo',y=[vo']∧StX noX w (r.or s8) w' (.row vo' 36 2 (G++flO u.ss (allD u g).tys ai ti).length (cns (G++flO u.ss (allD u g).tys ai ti))::.cell b26 (tyL (instT (max a 0) f.tys[0]) p8 cap8) 43::.cell b10 (tyL (tyD u g p.to) qt ct) 43::m15 u g p p0 qf q1 (some ⟨ba,oa,none⟩) x1 x2 x3 (some ⟨bo,oo,none⟩) x5 cap0 capf c1 c2 y1 y2 y3 y4 y5 b4 b7 b9)) (λK3 hK3=>?_) ?_
   ·refine zo (λy w'=>∃b t q cap,y=[.pointer (some ⟨b,0,none⟩),.bool (kE ai)]∧(kE ai=true→t=xi.1∧TyG (r.or s8) (tyV t q cap) t)∧StX noX w (r.or s8) w' (.cell b (tyL t q cap) 43::.row vo' 36 2 G.length (cns G)::.cell b26 (tyL (instT (max a 0) f.tys[0]) p8 cap8) 43::.cell b10 (tyL (tyD u g p.to) qt ct) 43::m15 u g p p0 qf q1 (some ⟨ba,oa,none⟩) x1 x2 x3 (some ⟨bo,oo,none⟩) x5 cap0 capf c1 c2 y1 y2 y3 y4 y5 b4 b7 b9)) (λK5 hK5=>?_) ?_
    ·have S:=S.go (Ext.drew _)
     refine S.ldB (b:=b4) ?_ rfl
     refine S.ldB (b:=b7) ?_ rfl
     refine gg_ ?_
     refine zn (n:=4) hco (λj v hj=>by rw[tnc];exact S.at ((hoc j v hj).up (s:=r.or s8))) ?_
     refine⟨?_,?_⟩
     ·refine qM (x:=xi) S.holds hu0.up hd0.up hdl hop.up hxi (λhn w12 e12=>?_) λhy q' cap' w12 e12 t12=>?_
      ·have S:=S.go e12
       refine gS_ ?_
       refine S.alU λb28 w13 S=>?_
       refine S.stB (b:=b28) λw14 S=>?_
       exact hK5 _ _ ⟨b28,zA,none,0,by rw[hn],(λh=>by rw[hn]at h;cases h),S⟩
      ·have S:=S.go e12
       refine gS_ ?_
       refine S.alU λb28 w13 S=>?_
       refine S.stB (b:=b28) λw14 S=>?_
       exact hK5 _ _ ⟨b28,xi.1,q',cap',by rw[hy],λ_=>⟨rfl,t12⟩,S⟩
     ·refine S.alU λb28 w13 S=>?_
      refine qM (x:=xi) S.holds hu0.up hd0.up hdl hop.up hxi (λhn w12 e12=>?_) λhy q' cap' w12 e12 t12=>?_
      ·have S:=S.go e12
       refine gS_ ?_
       refine S.stB (b:=b28) λw14 S=>?_
       exact hK5 _ _ ⟨b28,zA,none,0,by rw[hn],(λh=>by rw[hn]at h;cases h),S⟩
      ·have S:=S.go e12
       refine gS_ ?_
       refine S.stB (b:=b28) λw14 S=>?_
       exact hK5 _ _ ⟨b28,xi.1,q',cap',by rw[hy],λ_=>⟨rfl,t12⟩,S⟩
    ·repeat clear S
     rintro _ w12 ⟨b28,ty,q',cap',rfl,htw,S⟩ d
     simp only[gdz,gds]
     refine c_b (λhy=>?_) (λhn=>?_)
     ·obtain⟨rfl,t12⟩:=htw hy
      have S:=S.go (Ext.drew _)
      have S:StX noX w (r.or s8) _ (.cell b28 (tyL xi.1 q' cap') 43::.row vo' 36 2 G.length (cns G)::.cell b26 (tyL (instT (max a 0) f.tys[0]) p8 cap8) 43::.cell b10 (tyL (tyD u g p.to) qt ct) 43::m15 u g p p0 qf q1 (some ⟨ba,oa,none⟩) x1 x2 x3 (some ⟨bo,oo,none⟩) x5 cap0 capf c1 c2 y1 y2 y3 y4 y5 b4 b7 b9):=S
      refine S.ldB (b:=b28) ?_ rfl
      refine gg_ ?_
      refine zn (n:=5) hct' (λj v hj=>by rw[tnc];exact S.at ((htc j v hj).up (s:=r.or s8))) ?_
      obtain⟨_,z1,z2,z3⟩:=hfl hy
      rw[← hxie]at z1 z3
      refine JT 48 (by decide) z1 z2 z3 S.holds t12 hty.up λv13 s13 w13 e13 n13 h13=>?_
      obtain⟨S,_,_⟩:=S.tell e13 n13
      have hff:=Zy 48 (both:=false) (t:=xi.1) (u:=ti)
      obtain⟨p13,cap13,rfl,hp13,_⟩:=h13.shape
      have hsl:=agG (S.holds.le (h:=inferInstance)) h13
      refine S.ap (v:=vo') (m':=(flowN false 48 xi.1 ti).length) hsl (λv14 w14 S=>?_) (by omega) QZ hp13 abO
      refine hK3 _ _ ⟨v14,rfl,?_⟩
      have e1:flO u.ss (allD u g).tys ai ti=flowN false 48 xi.1 ti:=by rw[flO,if_pos hy,kc,hxie]
      rw[e1,ahK,List.length_append]
      exact StX.tl (S.less (λb o h=>.inl h) (List.Sublist.refl _))
     ·refine hK3 _ _ ⟨vo',rfl,?_⟩
      have e1:flO u.ss (allD u g).tys ai ti=[]:=by rw[flO,if_neg (by rw[hn];decide)]
      rw[e1,List.append_nil]
      exact S.tl
   ·repeat clear S
    rintro _ w12 ⟨v14,rfl,S⟩ d
    rw[gdz]
    refine gp_ ?_
    refine hK4 (v14,i+1) _ ⟨hlti,?_⟩ (by show p.args.length-(i+1)<p.args.length-i;omega)
    show StX noX w (r.or s8) w12 _
    rw[hsn]
    exact S
  ·obtain rfl:i=p.args.length:=by omega
   rw[List.take_of_length_le (by omega)]at S hfew
   generalize ((p.args.zip (f.tys.drop 1)).flatMap λx=>flO u.ss (allD u g).tys x.1 (instT (max a 0) x.2))=G at S hpc hfew
   clear hK4
   have S:StX noX w (r.or s8) w11 (.row vo' 36 2 G.length (cns G)::.cell b26 (tyL (instT (max a 0) f.tys[0]) p8 cap8) 43::.cell b10 (tyL (tyD u g p.to) qt ct) 43::m15 u g p p0 qf q1 (some ⟨ba,oa,none⟩) x1 x2 x3 x4 x5 cap0 capf c1 c2 y1 y2 y3 y4 y5 b4 b7 b9):=S
   refine S.ldB (b:=b26) ?_ rfl
   refine S.ldB (b:=b10) ?_ rfl
   obtain⟨z1,z2,z3⟩:=k.ans ht0
   refine JT 48 (by decide) z1 z2 z3 S.holds hv80.up t5.up λv13 s13 w13 e13 n13 h13=>?_
   obtain⟨S,_,_⟩:=S.tell e13 n13
   have hff:=Zy 48 (both:=false) (t:=instT (max a 0) f.tys[0]) (u:=tyD u g p.to)
   obtain⟨p13,cap13,rfl,hp13,_⟩:=h13.shape
   have hsl:=agG (S.holds.le (h:=inferInstance)) h13
   change ptCn u (allD u g).tys p a=G++flowN false 48 (instT (max a 0) f.tys[0]) (tyD u g p.to)++_ at hpc
   refine S.ap (v:=vo') (m':=(flowN false 48 (instT (max a 0) f.tys[0]) (tyD u g p.to)).length) hsl (λv14 w14 S=>?_) (by omega) QZ hp13 abO
   have S:StX noX w r w14 (.row v14 36 2 (G++flowN false 48 (instT (max a 0) f.tys[0]) (tyD u g p.to)).length (cns (G++flowN false 48 (instT (max a 0) f.tys[0]) (tyD u g p.to)))::m15 u g p p0 qf q1 (some ⟨ba,oa,none⟩) x1 x2 x3 x4 x5 cap0 capf c1 c2 y1 y2 y3 y4 y5 b4 b7 b9):=by
    rw[ahK,List.length_append]
    exact S.less (λb o h=>.inl (.inl h)) (.cons_cons _ (.cons _ (.cons _ (List.Sublist.refl _))))
   generalize hG2:G++flowN false 48 (instT (max a 0) f.tys[0]) (tyD u g p.to)=G2 at S hpc
   have hG2l:G2.length≤900:=by rw[← hG2,List.length_append];omega
   obtain⟨bf2,of2,cf2,hqE2,hcf2,hgc2,hfo2⟩:=hfn.sl.get (by decide) hltf
   rw[hfe]at hgc2
   have hHf:=k.head
   have hos:=abF hHf.outs hHf.lv8
   obtain⟨vo2,vt2,vn2,vp2,rfl,n1,n2,n3,n4⟩:=hgc2
   obtain⟨qo,capo,rfl,_,_⟩:=n1.sl.shape
   obtain⟨qo2,capo2,rfl,_,_⟩:=n2.sl.shape
   obtain⟨qo3,capo3,rfl,_,_⟩:=n3.sl.shape
   obtain⟨qo4,capo4,rfl,_,_⟩:=n4.sl.shape
   subst hqE2
   refine gg_ ?_
   refine zn (n:=7) hcf2 (λj v hj=>by simpa using S.at (hfo2 j v hj)) ?_
   refine S.al λb30 w15 S=>?_
   refine S.stB (b:=b30) λw16 S=>?_
   have S:=S.permO (.swap _ _ _)
   refine zi (ι:=Value×Nat) (λi=>[i.1,.int .i64 (i.2:Nat)]) (λi w'=>i.2≤f.outs.length∧StX noX w r w' (.row i.1 36 2 (G2++(f.outs.take i.2).map λo=>(a+o.1,a+o.2)).length (cns (G2++(f.outs.take i.2).map λo=>(a+o.1,a+o.2)))::_)) (λi=>f.outs.length-i.2) (v14,0) rfl ⟨Nat.zero_le _,by rw[List.take_zero,List.map_nil,List.append_nil];exact S⟩ ?_
   repeat clear S
   rintro⟨vo',i⟩ d w17 ⟨hi,S⟩ K4 hK4
   simp only[gdz,gds]
   have hi:i≤f.outs.length:=hi
   refine gg_ ?_
   refine zj (λhlti=>?_) (λhgei=>?_)
   ·have hlti:i<f.outs.length:=by omega
    obtain⟨bo,oo,co,hE,hco,hcc,hoc⟩:=n1.sl.get (by decide) hlti
    obtain rfl:co=_:=hcc
    have hin:yK f.lv f.outs[i]=true:=by
     have:=hHf.outs
     simp only[xR,Bool.and_eq_true,List.all_eq_true]at this
     exact this.1.1 _ (List.getElem_mem hlti)
    have hlv:=hHf.lv8
    simp only[yK,Bool.not_eq_true',Bool.or_eq_false_iff,decide_eq_false_iff_not]at hin
    subst hE
    have S:=S.go (Ext.drew _)
    refine gg_ ?_
    refine zg (S.at hca) ?_
    refine gg_ ?_
    refine zg (v:=.int .i64 f.outs[i].1) (by simpa using S.at (hoc 0 _ rfl)) ?_
    refine gg_ ?_
    refine zg (S.at hca) ?_
    refine gg_ ?_
    refine zg (v:=.int .i64 f.outs[i].2) (by simpa using S.at (hoc 1 _ rfl)) ?_
    refine gg_ ?_
    refine S.lit (e:=36) (cs:=[.int .i64 (a+f.outs[i].1),.int .i64 (a+f.outs[i].2)]) (by kernel_rfl) λb48 w18 S=>?_
    refine S.ap (v:=vo') (m':=1) (Sl.blk (S.blk b48)) (λv49 w19 S=>?_) (by rw[List.length_append,List.length_map,List.length_take];omega)
    refine gp_ ?_
    refine hK4 (v49,i+1) _ ⟨hlti,?_⟩ (by show f.outs.length-(i+1)<f.outs.length-i;omega)
    show StX noX w r w19 (.row v49 _ 2 (G2++(f.outs.take (i+1)).map λo=>(a+o.1,a+o.2)).length (cns (G2++(f.outs.take (i+1)).map λo=>(a+o.1,a+o.2)))::_)
    rw[← List.take_append_getElem hlti,List.map_append,List.map_singleton,← List.append_assoc G2,Xw,ake]
    exact S.tl
   ·obtain rfl:i=f.outs.length:=by omega
    rw[List.take_length,← hpc]at S
    exact fin S
 ·exact fin0 (by rw[ptCn,if_neg ho1,if_neg ho5,if_neg ho4,if_neg ho7]) S
end Go.Proofs
end
section
namespace Go.Proofs
open Go.Sh Go.RowKit Go.BM
end Go.Proofs
end
section
namespace Go.Proofs.Tryz
open Go.Sh
end Go.Proofs.Tryz
end
section
namespace Go.Sh
end Go.Sh
end
section
namespace Go.Proofs
open Go.Sh Go.RowKit
end Go.Proofs
end
section
namespace Go.Proofs
open Go.Sh Go.RowKit Go.BM
end Go.Proofs
end
section
namespace Go.Proofs
open Go.Sh Go.RowKit
end Go.Proofs
end
section
namespace Go.Proofs
open Go.Sh
variable {n a:Nat} {l:List CnD}
def InC(m:Int)(c:CnD):Prop:=(0≤c.1∧c.1<m)∧0≤c.2∧c.2<m
theorem agP{m a:Int}{f:Nat→TyD}(hf:∀n,RIn m (f n))(ha:0≤a∧a<m):∀n,∀c∈xy f a n,InC m c
 |0,c,hc=>by cases hc
 |n+1,c,hc=>by
  rw[xy]at hc
  split at hc
  ·exact agP hf ha n c hc
  ·rename_i hk
   rcases List.mem_cons.1 hc with rfl|hc
   ·exact⟨hf n _ (by rw[TyD.regs_eq,if_pos (by omega)];simp),ha⟩
   ·split at hc
    ·exact agP hf ha n c hc
    ·cases hc
theorem amC{u:UnD}{g:GrD}{fn:Nat}{q:Nat}(hM:MayU u)(hH:HeadU u fn g)(hN:∀p∈g.pts,0≤ptN u p)(hpt:∀p∈g.pts,zL u g p=true)(hq:q<g.pts.length)(ha: -1≤(allD u g).at'[q]'(by rw[(yj).2];exact hq)):
  ∀c∈ptCn u (allD u g).tys g.pts[q] ((allD u g).at'[q]'(by rw[(yj).2];exact hq)),InC (allD u g).ct c:=by
 have hpos:=ajg hH hN hq
 have hp:=hpt _ (List.getElem_mem hq)
 have hE:(allD u g).ct=g.lv+zI g.tys+atC u g.pts:=rfl
 have hend:ptN u g.pts[q]≠0→(allD u g).at'[q]'(by rw[(yj).2];exact hq)+ptN u g.pts[q]≤(allD u g).ct:=λhn=>by
  have e:(allD u g).at'[q]'(by rw[(yj).2];exact hq)=(atK u g.pts (g.lv+zI g.tys))[q]'(by rw[kB];exact hq):=rfl
  rw[e,VB hq,if_neg hn,hE]
  have h1:=(kZ (u:=u) (l:=g.pts) hN (q+1)).2
  rw[abx hq]at h1
  omega
 have hat:=(kZ (u:=u) (l:=g.pts) hN 0).2
 have h00:atC u (g.pts.take 0)=0:=rfl
 rw[h00]at hat
 have hty:∀p',RIn (allD u g).ct (tyD u g p'):=λp'=>(akX (alW hM hH)).mono (by omega)
 generalize (allD u g).at'[q]'(by rw[(yj).2];exact hq)=a at ha hpos hend
 generalize g.pts[q]=p at hp hpos hend
 intro c hc
 rw[ptCn]at hc
 have hfl:∀{o:OpD}{t:TyD},adU u g o t→RIn (allD u g).ct t→∀c∈flO u.ss (allD u g).tys o t,InC (allD u g).ct c:=fun {o t} hk ht c hc=>by
  rw[flO]at hc
  split at hc
  ·rename_i ho
   obtain⟨_,z1,z2,z3⟩:=hk ho
   exact adP 48 z1 z2 z3 (hty _) ht c hc
  ·cases hc
 split at hc
 ·rename_i ho
  exact hfl (agy hM hH hp ho).2 (hty _) c hc
 split at hc
 ·rename_i ho
  obtain⟨_,y,k2,k3⟩:=agz hM hH hp ho
  have k2':(yl u.ss (allD u g).tys p.to).of=[y]:=k2
  rw[k2']at hc
  exact hfl k3 (λx hx=>hty p.to x (aas (by rw[k2];rfl) x hx)) c hc
 split at hc
 ·rename_i ho
  obtain⟨_,_,_,z1,z2,z3⟩:=acX (a:=a) hM hH hp ho ha
  have hn:ptN u p=1:=by rw[ptN,if_pos ho]
  rw[hn]at hpos hend
  have h1:=hpos (by decide)
  have h2:=hend (by decide)
  rcases List.mem_append.1 hc with hc|hc
  ·refine adP 48 z1 z2 z3 (λx hx=>?_) (hty _) c hc
   rw[xw (u:=tyD u g p.fr) rfl]at hx
   have hx:x∈[a]++(tyD u g p.fr).regs:=hx
   rcases List.mem_append.1 hx with hx|hx
   ·rw[List.mem_singleton.1 hx];show 0≤a∧a<_;omega
   ·exact hty _ x hx
  ·exact agP (λn=>hty _) ⟨h1,by omega⟩ _ c hc
 split at hc
 ·rename_i ho4 ho
  obtain⟨f,k⟩:=acY (a:=a) hM hH hp ho
  have hn:ptN u p=f.lv:=by rw[ptN,if_neg ho4,if_pos ho,adx,k.get]
  rw[hn]at hpos hend
  rw[k.get]at hc
  dsimp only at hc
  have hlv:=k.head.lv0
  have kt:=k.tys
  have kl:=k.len
  have hin:∀j (h:j<f.tys.length),j≤f.pn.toNat→RIn (allD u g).ct (instT (max a 0) f.tys[j]):=λj hj hjp=>by
   obtain⟨hB,hr⟩:=k.is j hj hjp
   have hrT:regsT f.tys[j]=f.tys[j].regs:=by rw[regsT,hB];rfl
   intro x hx
   rw[instT,hrT,Vz 48 hB (List.length_map _)]at hx
   obtain⟨z,hz,rfl⟩:=List.mem_map.1 hx
   have h3:=hr z hz
   have h1:=hpos (by omega)
   have h2:=hend (by omega)
   show 0≤max a 0+z∧max a 0+z<_
   omega
  rcases List.mem_append.1 hc with hc|hc
  ·rcases List.mem_append.1 hc with hc|hc
   ·obtain⟨x,hx,hc⟩:=List.mem_flatMap.1 hc
    obtain⟨i,hi,rfl⟩:=List.getElem_of_mem hx
    rw[List.length_zip,List.length_drop]at hi
    rw[List.getElem_zip,List.getElem_drop]at hc
    have hc1:1+i=i+1:=Nat.add_comm 1 i
    simp only[hc1]at hc
    exact hfl (k.arg i (by omega) (by omega)) (hin (i+1) (by omega) (by omega)) c hc
   ·have h0:0<f.tys.length:=by omega
    have hhd:f.tys.headD zA=f.tys[0]:=by rw[List.headD_eq_head?_getD,List.head?_eq_getElem?,gqg h0,Option.getD_some]
    rw[hhd]at hc
    obtain⟨z1,z2,z3⟩:=k.ans h0
    exact adP 48 z1 z2 z3 (hin 0 h0 (Nat.zero_le _)) (hty _) c hc
  ·obtain⟨o,ho',rfl⟩:=List.mem_map.1 hc
   have hin':yK f.lv o=true:=by
    have:=k.head.outs
    simp only[xR,Bool.and_eq_true,List.all_eq_true]at this
    exact this.1.1 _ ho'
   simp only[yK,Bool.not_eq_true',Bool.or_eq_false_iff,decide_eq_false_iff_not]at hin'
   have h1:=hpos (by omega)
   have h2:=hend (by omega)
   show(0≤a+o.1∧a+o.1<_)∧0≤a+o.2∧a+o.2<_
   omega
 ·cases hc
def jV(n:Nat)(l:List CnD)(a:Nat):List Bool:=(List.range n).map λc:Nat=>decide (((a:Int),(c:Int))∈l)
def qc(n:Nat)(l:List CnD):List (List Bool):=(List.range n).map (jV n l)
theorem kj:(jV n l a).length=n:=by simp[jV]
theorem Xz:(qc n l).length=n:=by simp[qc]
theorem aat(h:a<n):(qc n l)[a]'(by rw[Xz];exact h)=jV n l a:=by simp[qc]
theorem YP{c:Nat}(h:c<n):(jV n l a)[c]'(by rw[kj];exact h)=decide (((a:Int),(c:Int))∈l):=by simp[jV]
theorem akf:jV n [] a=List.replicate n false:=by
 refine List.ext_getElem (by simp[kj]) λi h1 h2=>?_
 rw[YP (by rwa[kj]at h1)];simp
theorem akg{x:CnD}(hx:InC n x):jV n (l++[x]) x.1.toNat=(jV n l x.1.toNat).set x.2.toNat true:=by
 refine List.ext_getElem (by simp[kj]) λi h1 h2=>?_
 rw[kj]at h1
 rw[YP h1,List.getElem_set]
 have h3:=hx.1.1;have h4:=hx.2.1
 split
 ·rename_i e
  rw[decide_eq_true_eq,List.mem_append]
  right
  rw[List.mem_singleton,Prod.ext_iff]
  exact⟨by show((x.1.toNat:Nat):Int)=x.1;omega,by show(i:Int)=x.2;omega⟩
 ·rename_i e
  rw[YP h1,decide_eq_decide,List.mem_append,List.mem_singleton,Prod.ext_iff]
  refine⟨λh=>h.resolve_right λh=>e ?_,.inl⟩
  have :(i:Int)=x.2:=h.2
  omega
theorem akh{x:CnD}(hx:InC n x):qc n (l++[x])=(qc n l).set x.1.toNat ((jV n l x.1.toNat).set x.2.toNat true):=by
 refine List.ext_getElem (by simp[Xz]) λi h1 h2=>?_
 rw[Xz]at h1
 rw[aat h1,List.getElem_set]
 split
 ·rename_i e
  subst e
  exact akg hx
 ·rename_i e
  rw[aat h1]
  refine List.ext_getElem (by simp[kj]) λk h3 h4=>?_
  rw[kj]at h3
  rw[YP h3,YP h3,decide_eq_decide,List.mem_append,List.mem_singleton,Prod.ext_iff]
  refine⟨λh=>h.resolve_right λh=>e ?_,.inl⟩
  have h5:=hx.1.1
  have :(i:Int)=x.1:=h.1
  omega
end Go.Proofs
end
section
namespace Go.Proofs
open Go.Sh Go.RowKit
variable {u:UnD} {fn q:Int} {v:Value} {w:World} {r:Gh} {K:Value→World→Prop}
abbrev slV(n b:Nat):Value:=.slice (some ⟨b,0,none⟩) n n
abbrev jW(bs:List Nat)(Ms:List (List Bool)):List Asr:=List.zipWith (λb m=>Asr.cell b (bls m) 4) bs Ms
theorem aki{α β:Type}{f:α→β}{z:β}{bs:List α}{n:Nat}{b:α}(h:bs.length<n):(bs.map f++List.replicate (n-bs.length) z).set bs.length (f b)=(bs++[b]).map f++List.replicate (n-(bs++[b]).length) z:=by
 obtain⟨k,hk⟩:∃k,n-bs.length=k+1:=⟨n-bs.length-1,by omega⟩
 rw[List.set_append_right _ _ (by simp),List.length_map,Nat.sub_self,hk,List.replicate_succ,List.set_cons_zero,List.map_append,List.append_assoc,List.length_append,List.length_singleton,show n-(bs.length+1)=k by omega]
 rfl
theorem alb{bs:List Nat}{n:Nat}(h:bs.length=n):jW bs (qc n [])=bs.map λb=>Asr.cell b (bls (List.replicate n false)) 4:=by
 refine List.ext_getElem (by simp[jW,Xz,h]) λi h1 h2=>?_
 rw[List.length_map]at h2
 refine Eq.trans List.getElem_zipWith ?_
 rw[List.getElem_map,aat (by omega),akf]
theorem ahh{g:GrD}{vd:Value}{K:Value→World→Prop}(hM:MayU u)(hr:Holds r w)(hu:UnG r v u)(hd:RgG r vd (allD u g))(hf0:0≤fn)(hlt:fn.toNat<u.fs.length)(hge:u.fs[fn.toNat]=g)(hct:(allD u g).ct≤512)
  (h:∀v' s w',Ext w w'→New w s w'→SlG 2 s CnC v' (ddL (cnU u g))→K v' w'):zd Tryz.prog Tryz.Qc #[v,.int .i64 fn,vd] w K:=by
 refine Tryz.agE ?_
 unfold Tryz.aa6
 have hu0:=hu;have hd0:=hd
 obtain⟨p0,cap0,vf,rfl,_,_,hst,hsl,hfn⟩:=hu
 obtain⟨qf,capf,rfl,_,_⟩:=hfn.sl.shape
 obtain⟨q1,c1,q2,c2,rfl,g1,g2⟩:=hd.shape
 have hH:HeadU u fn.toNat g:=by have:=hM.hd hlt;rwa[hge]at this
 have hpt:∀p∈g.pts,zL u g p=true:=by have:=hM.pts _ (List.getElem_mem hlt);rwa[hge]at this
 have hN:∀p∈g.pts,0≤ptN u p:=λp hp=>(hM.ptN (List.getElem_mem hlt) (p:=p) (by rw[hge];exact hp)).1
 have hlen:(allD u g).at'.length=g.pts.length:=(yj).2
 have hp24:=hH.pt1024
 have hrg:∀i (h:i<g.pts.length),-1≤(allD u g).at'[i]'(by omega):=λi h=>by
  have:=(ZB (g:=g) hM hlt (by rw[hge];exact hct) (i:=i) (by rw[hge];omega)).1
  simpa only[hge]using this
 have hin:=λi (h:i<g.pts.length)=>amC hM hH hN hpt h (hrg i h)
 have hcu:=λn=>(adW hM hH hpt (λi hi=>hrg i (by omega)) n).2
 have hct0:0≤(allD u g).ct:=by
  show 0≤g.lv+zI g.tys+atC u g.pts
  have h1:=(kZ (u:=u) (l:=g.pts) hN 0).2
  have h00:atC u (g.pts.take 0)=0:=rfl
  rw[h00]at h1
  have h3:=xx g.tys
  have h4:=hH.lv0
  omega
 obtain⟨bf,of,cf,hqE,hcf,hgc,hfo⟩:=hfn.sl.get (by decide) hlt
 rw[hge]at hgc
 obtain⟨vo,vt,vn,vp,rfl,m1,m2,m3,m4⟩:=hgc
 obtain⟨qp,capp,rfl,_,_⟩:=m4.sl.shape
 have hct2:=hct
 generalize hcE:(allD u g).ct=ct at hct hd0 hin hct0
 obtain⟨n,rfl⟩:∃n:Nat,ct=(n:Int):=⟨ct.toNat,by omega⟩
 have S:=St.start hr
 refine S.box λb3 w1 S=>?_
 refine S.box λb5 w2 S=>?_
 have S:StX noX w r w2 [.cell b5 (rgL (allD u g).lv (allD u g).pt n (.slice q1 (allD u g).tys.length c1) (.slice q2 (allD u g).at'.length c2)) 74,.cell b3 [.slice p0 u.ss.length cap0,.slice qf u.fs.length capf,.int .i64 u.mn] 25]:=S
 refine gg_ ?_
 refine S.mkS (by omega) (by omega) λb15 w3 S=>?_
 rw[tnc]at S⊢
 refine zi (ι:=List Nat) (λbs=>[.int .i64 (bs.length:Nat)]) (λbs w'=>bs.length≤n∧StX noX w r w' (.cell b15 (bs.map (slV n)++List.replicate (n-bs.length) (.slice none 0 0)) 144::.cell b5 (rgL (allD u g).lv (allD u g).pt n (.slice q1 (allD u g).tys.length c1) (.slice q2 (allD u g).at'.length c2)) 74 ::
  .cell b3 [.slice p0 u.ss.length cap0,.slice qf u.fs.length capf,.int .i64 u.mn] 25::bs.map λb=>Asr.cell b (bls (List.replicate n false)) 4)) (λbs=>n-bs.length) [] rfl ⟨Nat.zero_le _,S⟩ ?_
 repeat clear S
 rintro bs d w4 ⟨hi,S⟩ K4 hK4
 rw[gdz]
 refine gg_ ?_
 refine zj (λhlti=>?_) (λhgei=>?_)
 ·have hlti:bs.length<n:=by omega
  refine gg_ ?_
  refine S.mkS (by omega) (by omega) λb26 w5 S=>?_
  rw[tnc]at S⊢
  rw[ak3]at S
  refine gp_ ?_
  refine S.st (b:=b15) (λw6 S=>?_) (by simp;omega)
  refine gp_ ?_
  have e2:((bs.length:Nat):Int)+1=(((bs++[b26]).length:Nat):Int):=by rw[List.length_append,List.length_singleton];omega
  rw[e2]
  refine hK4 (bs++[b26]) _ ⟨by rw[List.length_append,List.length_singleton];omega,S.permO ?_⟩ (by rw[List.length_append,List.length_singleton];omega)
  rw[← aki hlti,Nat.zero_add,tnc,List.map_append,List.map_singleton]
  exact List.perm_append_singleton _ (_::_::_::bs.map _)
 have hbl:bs.length=n:=by omega
 rw[hbl,Nat.sub_self,List.replicate_zero,List.append_nil,← alb hbl]at S
 clear hK4 K4 hgei hi
 have S:=S.ownNil 36 2
 have hzl:(g.pts.zip (allD u g).at').length=g.pts.length:=by rw[List.length_zip];omega
 refine zi (ι:=Value×Nat) (λi=>[i.1,.int .i64 (i.2:Nat)]) (λi w'=>i.2≤g.pts.length∧StX noX w r w' (.row i.1 36 2 (ddL (((g.pts.zip (allD u g).at').take i.2).flatMap λx=>ptCn u (allD u g).tys x.1 x.2)).length (cns (ddL (((g.pts.zip (allD u g).at').take i.2).flatMap λx=>ptCn u (allD u g).tys x.1 x.2))) ::
  .cell b15 (bs.map (slV n)) 144::.cell b5 (rgL (allD u g).lv (allD u g).pt n (.slice q1 (allD u g).tys.length c1) (.slice q2 (allD u g).at'.length c2)) 74::.cell b3 [.slice p0 u.ss.length cap0,.slice qf u.fs.length capf,.int .i64 u.mn] 25 ::
  jW bs (qc n (ddL (((g.pts.zip (allD u g).at').take i.2).flatMap λx=>ptCn u (allD u g).tys x.1 x.2))))) (λi=>g.pts.length-i.2) (.slice none 0 0,0) rfl ⟨Nat.zero_le _,S⟩ ?_
 repeat clear S
 rintro⟨vo',q⟩ d w5 ⟨hq,S⟩ K4 hK4
 simp only[gdz,gds]
 have hq:q≤g.pts.length:=hq
 subst hqE
 refine gg_ ?_
 refine zg (v:=.slice qp g.pts.length capp) (by simpa using S.at (hfo 6 _ rfl)) ?_
 refine gg_ ?_
 refine zj (λhltq=>?_) (λhgeq=>?_)
 ·have hltq:q<g.pts.length:=by omega
  have hpre:=hcu q
  have hnx:=hcu (q+1)
  rw[kG (by omega),List.getElem_zip]at hnx
  have hsn:((g.pts.zip (allD u g).at').take (q+1)).flatMap (λx=>ptCn u (allD u g).tys x.1 x.2)=((g.pts.zip (allD u g).at').take q).flatMap (λx=>ptCn u (allD u g).tys x.1 x.2)++ptCn u (allD u g).tys g.pts[q] ((allD u g).at'[q]'(by omega)):=by
   rw[kG (by omega),List.getElem_zip]
  have hinq:=hin q hltq
  rw[List.length_append]at hnx
  refine S.ldB (b:=b3) ?_ rfl
  refine S.ldB (b:=b5) ?_ rfl
  have hqt:((q:Nat):Int).toNat=q:=tnc q
  refine ac7 (q:=((q:Nat):Int)) hM S.holds hu0 hd0 hf0 hlt hge hct2 (by omega) (by omega) λv6 s6 w6 e6 n6 h6=>?_
  have haE:atL (allD u g).at' ((q:Nat):Int)=(allD u g).at'[q]'(by omega):=by rw[atL,hqt,List.getD_eq_getElem?_getD,gqg (show q<(allD u g).at'.length by omega),Option.getD_some]
  simp only[hqt,haE]at h6
  obtain⟨S,_,_⟩:=S.tell e6 n6
  generalize ptCn u (allD u g).tys g.pts[q] ((allD u g).at'[q]'(by omega))=l at h6 hnx hsn hinq
  generalize ((g.pts.zip (allD u g).at').take q).flatMap (λx=>ptCn u (allD u g).tys x.1 x.2)=A at S hpre hnx hsn
  obtain⟨q6,c6,rfl,_,_⟩:=h6.shape
  have S:StX noX w (r.or s6) w6 (.row vo' 36 2 (ddL (A++l.take 0)).length (cns (ddL (A++l.take 0)))::.cell b15 (bs.map (slV n)) 144::.cell b5 (rgL (allD u g).lv (allD u g).pt n (.slice q1 (allD u g).tys.length c1) (.slice q2 (allD u g).at'.length c2)) 74 ::
   .cell b3 [.slice p0 u.ss.length cap0,.slice (some ⟨bf,of,none⟩) u.fs.length capf,.int .i64 u.mn] 25::jW bs (qc n (ddL (A++l.take 0)))):=by rw[List.take_zero,List.append_nil];exact S
  refine zi (ι:=Value×Nat) (λi=>[i.1,.int .i64 (i.2:Nat)]) (λi w'=>i.2≤l.length∧StX noX w (r.or s6) w' (.row i.1 36 2 (ddL (A++l.take i.2)).length (cns (ddL (A++l.take i.2)))::.cell b15 (bs.map (slV n)) 144::.cell b5 (rgL (allD u g).lv (allD u g).pt n (.slice q1 (allD u g).tys.length c1) (.slice q2 (allD u g).at'.length c2)) 74 ::
   .cell b3 [.slice p0 u.ss.length cap0,.slice (some ⟨bf,of,none⟩) u.fs.length capf,.int .i64 u.mn] 25::jW bs (qc n (ddL (A++l.take i.2))))) (λi=>l.length-i.2) (vo',0) rfl ⟨Nat.zero_le _,S⟩ ?_
  repeat clear S
  rintro⟨vo',i⟩ d w7 ⟨hi,S⟩ K5 hK5
  simp only[gdz,gds]
  have hi:i≤l.length:=hi
  refine gp_ ?_
  refine gp_ ?_
  refine zj (λhlti=>?_) (λhgei=>?_)
  ·have hlti:i<l.length:=by omega
   have hx:=hinq _ (List.getElem_mem hlti)
   obtain⟨bc,oc,hpc,_,hc1,hc2,hcc⟩:=Z3 h6 hlti
   subst hpc
   have hnext:ddL (A++l.take (i+1))=ddF (ddL (A++l.take i)) l[i]:=by rw[← List.take_append_getElem hlti,← List.append_assoc,Jn]
   have hdl:(ddL (A++l.take i)).length≤1000000:=by
    have:=adO (l:=A++l.take i)
    rw[List.length_append,List.length_take]at this
    omega
   have hc1:=hc1.up (s:=r.or s6)
   have hc2:=hc2.up (s:=r.or s6)
   have hcc:∀j v,[Value.int .i64 l[i].1,.int .i64 l[i].2][j]? = some v→Ob (r.or s6) λw=>w.cell? ⟨bc,oc+i*2+j,none⟩=some v:=λj v hj=>(hcc j v hj).up
   have S:StX noX w (r.or s6) w7 (.row vo' 36 2 (ddL (A++l.take i)).length (cns (ddL (A++l.take i)))::.cell b15 (bs.map (slV n)) 144::.cell b5 (rgL (allD u g).lv (allD u g).pt n (.slice q1 (allD u g).tys.length c1) (.slice q2 (allD u g).at'.length c2)) 74 ::
    .cell b3 [.slice p0 u.ss.length cap0,.slice (some ⟨bf,of,none⟩) u.fs.length capf,.int .i64 u.mn] 25::jW bs (qc n (ddL (A++l.take i)))):=S
   generalize ddL (A++l.take i)=D at S hnext hdl
   generalize l[i]=c at hx hc1 hc2 hcc hnext
   have ha:c.1.toNat<bs.length:=by have:=hx.1;omega
   have haM:c.1.toNat<(qc n D).length:=by rw[Xz];have:=hx.1;omega
   have han:c.1.toNat<n:=by omega
   have hbn:c.2.toNat<n:=by have:=hx.2;omega
   have hx10:=hx.1.1
   have hx20:=hx.2.1
   have hmk:mk' (jV n D c.1.toNat) c.2=decide (c∈D):=by
    rw[mk',List.getD_eq_getElem?_getD,gqg (show c.2.toNat<(jV n D c.1.toNat).length by rw[kj];exact hbn),Option.getD_some,YP hbn]
    have :((c.1.toNat:Nat):Int)=c.1∧((c.2.toNat:Nat):Int)=c.2:=by omega
    rw[this.1,this.2]
   obtain⟨P,Q,hsp,hset⟩:=ai4 (f:=λb m=>Asr.cell b (bls m) 4) (us:=bs) (bs:=qc n D) ha haM
   rw[aat han]at hsp
   have hcell:(bs.map (slV n))[0+c.1.toNat]? = some (slV n bs[c.1.toNat]):=by rw[Nat.zero_add,List.getElem?_map,gqg ha];rfl
   refine zo (λy w'=>∃vo',y=[vo']∧StX noX w (r.or s6) w' (.row vo' 36 2 (ddF D c).length (cns (ddF D c))::.cell b15 (bs.map (slV n)) 144::.cell b5 (rgL (allD u g).lv (allD u g).pt n (.slice q1 (allD u g).tys.length c1) (.slice q2 (allD u g).at'.length c2)) 74 ::
    .cell b3 [.slice p0 u.ss.length cap0,.slice (some ⟨bf,of,none⟩) u.fs.length capf,.int .i64 u.mn] 25::jW bs (qc n (ddF D c)))) (λK3 hK3=>?_) ?_
   ·have S:=S.go (Ext.drew _)
    have hB:∀{w':World}{M:List Asr},StX noX w (r.or s6) w' (M++jW bs (qc n D))→Blk w' bs[c.1.toNat] (bls (jV n D c.1.toNat)) 4:=fun {w' M} S=>S.has (.cell bs[c.1.toNat] (bls (jV n D c.1.toNat)) 4) (by rw[jW,hsp];simp)
    refine gg_ ?_
    refine zg (v:=.int .i64 c.1) (by simpa using S.at hc1) ?_
    refine gg_ ?_
    refine zg (v:=.int .i64 c.2) (by simpa using S.at hc2) ?_
    refine gp_ ?_
    refine zh (c:=!decide (c∈D)) (λ_ K2 hK2=>?_) ?_
    ·refine gg_ ?_
     refine zg (v:=.int .i64 c.1) (by simpa using S.at hc1) ?_
     refine gp_ ?_
     refine S.ld (b:=b15) ?_ hcell
     refine gg_ ?_
     refine zg (v:=.int .i64 c.2) (by simpa using S.at hc2) ?_
     refine gp_ ?_
     refine zg (v:=.bool (decide (c∈D))) (by rw[(hB (M:=[_,_,_,_]) S).cell,← hmk];exact alX (by rw[kj];exact hbn)) ?_
     refine gp_ ?_
     exact hK2
    refine c_b (λhy=>?_) (λhn=>?_)
    ·rw[Bool.and_eq_true,decide_eq_true_eq,Bool.not_eq_true',decide_eq_false_iff_not]at hy
     have hdd:ddF D c=D++[c]:=by rw[ddF,if_neg];rintro(h|h);exact hy.1 h;exact hy.2 h
     have S:=S.go (Ext.drew _)
     refine gg_ ?_
     refine zg (v:=.int .i64 c.1) (by simpa using S.at hc1) ?_
     refine gp_ ?_
     refine S.ld (b:=b15) ?_ hcell
     refine gg_ ?_
     refine zg (v:=.int .i64 c.2) (by simpa using S.at hc2) ?_
     refine gp_ ?_
     have S:StX noX w (r.or s6) _ (.row vo' 36 2 D.length (cns D)::.cell b15 (bs.map (slV n)) 144::.cell b5 (rgL (allD u g).lv (allD u g).pt n (.slice q1 (allD u g).tys.length c1) (.slice q2 (allD u g).at'.length c2)) 74 ::
      .cell b3 [.slice p0 u.ss.length cap0,.slice (some ⟨bf,of,none⟩) u.fs.length capf,.int .i64 u.mn] 25::jW bs (qc n D)):=S
     haveI hAt:At bs[c.1.toNat] (.row vo' 36 2 D.length (cns D)::.cell b15 (bs.map (slV n)) 144::.cell b5 (rgL (allD u g).lv (allD u g).pt n (.slice q1 (allD u g).tys.length c1) (.slice q2 (allD u g).at'.length c2)) 74 ::
      .cell b3 [.slice p0 u.ss.length cap0,.slice (some ⟨bf,of,none⟩) u.fs.length capf,.int .i64 u.mn] 25::jW bs (qc n D)) (bls (jV n D c.1.toNat)) 4 (λc'=>(.row vo' 36 2 D.length (cns D)::.cell b15 (bs.map (slV n)) 144::.cell b5 (rgL (allD u g).lv (allD u g).pt n (.slice q1 (allD u g).tys.length c1) (.slice q2 (allD u g).at'.length c2)) 74 ::
      .cell b3 [.slice p0 u.ss.length cap0,.slice (some ⟨bf,of,none⟩) u.fs.length capf,.int .i64 u.mn] 25::P)++.cell bs[c.1.toNat] c' 4::Q):=⟨_,_,by rw[jW,hsp];rfl,λ_=>rfl⟩
     refine S.st (b:=bs[c.1.toNat]) (h:=hAt) (λw9 S=>?_) (by rw[ak1,kj];omega)
     rw[ak2 hx20]at S
     have S:StX noX w (r.or s6) w9 (.row vo' 36 2 D.length (cns D)::.cell b15 (bs.map (slV n)) 144::.cell b5 (rgL (allD u g).lv (allD u g).pt n (.slice q1 (allD u g).tys.length c1) (.slice q2 (allD u g).at'.length c2)) 74 ::
      .cell b3 [.slice p0 u.ss.length cap0,.slice (some ⟨bf,of,none⟩) u.fs.length capf,.int .i64 u.mn] 25::jW bs (qc n (D++[c]))):=by
      rw[akh hx,jW,hset];exact S
     refine gg_ ?_
     refine zn (n:=2) rfl (λj v hj=>by rw[tnc];exact S.at (hcc j v hj)) ?_
     refine S.lit (e:=36) (cs:=[.int .i64 c.1,.int .i64 c.2]) (by kernel_rfl) λb48 w10 S=>?_
     refine S.ap (v:=vo') (m':=1) (Sl.blk (S.blk b48)) (λv49 w11 S=>?_) (by omega)
     refine hK3 _ _ ⟨v49,rfl,?_⟩
     rw[hdd,Xw,ake]
     exact S.tl
    ·refine hK3 _ _ ⟨vo',rfl,?_⟩
     have hdd:ddF D c=D:=by
      rw[ddF,if_pos]
      rw[Bool.and_eq_false_iff,decide_eq_false_iff_not,Bool.not_eq_false',decide_eq_true_eq]at hn
      exact hn.imp_left λh=>Decidable.not_not.1 h
     rw[hdd]
     exact S
   ·repeat clear S
    rintro _ w8 ⟨vo',rfl,S⟩ d
    rw[gdz]
    refine gp_ ?_
    refine hK5 (vo',i+1) _ ⟨hlti,?_⟩ (by show l.length-(i+1)<l.length-i;omega)
    show StX noX w (r.or s6) w8 _
    simp only[hnext]
    exact S
  ·obtain rfl:i=l.length:=by omega
   have S:StX noX w (r.or s6) w7 (.row vo' 36 2 (ddL (A++l.take l.length)).length (cns (ddL (A++l.take l.length)))::.cell b15 (bs.map (slV n)) 144::.cell b5 (rgL (allD u g).lv (allD u g).pt n (.slice q1 (allD u g).tys.length c1) (.slice q2 (allD u g).at'.length c2)) 74 ::
    .cell b3 [.slice p0 u.ss.length cap0,.slice (some ⟨bf,of,none⟩) u.fs.length capf,.int .i64 u.mn] 25::jW bs (qc n (ddL (A++l.take l.length)))):=S
   rw[List.take_length,← hsn]at S
   refine gp_ ?_
   exact hK4 (vo',q+1) _ ⟨hltq,S.less (λb o h=>.inl h) (List.Sublist.refl _)⟩ (by show g.pts.length-(q+1)<g.pts.length-q;omega)
 ·obtain rfl:q=g.pts.length:=by omega
  rw[List.take_of_length_le (by omega)]at S
  obtain⟨s,T,hs,_,hs2⟩:=S.doneRow (l:=ddL (cnU u g)) ke (by decide) rfl
  exact h vo' s _ T.ext (StX.newOf (q:=s) T λb o ho=>(hs2 b o ho).resolve_right id) hs
theorem ain{fn:Int}{K:Value→World→Prop}(hr:Holds r w)(hu:UnG r v u)
  (h:∀v' s w',Ext w w'→New w s w'→SlG 2 s CnC v' (ofD u fn).1→K (.tuple #[v',.int .i64 (ofD u fn).2]) w'):zd Tryz.prog Tryz.Q3 #[v,.int .i64 fn] w K:=by
 refine Tryz.ahd ?_
 unfold Tryz.ac3
 have hu0:=hu
 obtain⟨p0,cap0,vf,rfl,_,_,hst,hsl,hfn⟩:=hu
 obtain⟨qf,capf,rfl,_,_⟩:=hfn.sl.shape
 have S:=St.start hr
 refine S.box λb2 w1 S=>?_
 have S:StX noX w r w1 [.cell b2 [.slice p0 u.ss.length cap0,.slice qf u.fs.length capf,.int .i64 u.mn] 25]:=S
 refine S.ldB (b:=b2) ?_ rfl
 refine ac4 S.holds hu0 λv3 s w4 e4 n4 hd=>?_
 obtain⟨S,_,_⟩:=S.tell e4 n4
 have hE:ofD u fn=if (zN (zM u fn (-1))).2≠0 then([],(zN (zM u fn (-1))).2)else match u.fs[fn.toNat]? with
  |none=>([],0)
  |some g=>(ddL (cnU u g),0):=rfl
 have hfs:=Jt (u:=u) (fn:=fn)
 generalize (zN (zM u fn (-1))).2=e at hE hfs⊢
 generalize (zN (zM u fn (-1))).1=d at hd hfs
 have hd0:=hd
 obtain⟨q1,c1,q2,c2,rfl,g1,g2⟩:=hd.shape
 refine gS_ ?_
 refine S.al λb6 w5 S=>?_
 refine S.stB (b:=b6) λw6 S=>?_
 refine gp_ ?_
 refine zj (λhne=>?_) (λheq=>?_)
 ·rw[if_pos hne]at hE
  rw[hE]at h
  exact h _ nothing _ S.ext New.nothing SlG.nil
 have heq:e=0:=by omega
 subst heq
 obtain⟨hM,hf0,hlt,hdE,hct⟩:=hfs rfl
 subst hdE
 rw[if_neg (by omega),gqg hlt]at hE
 rw[hE]at h
 refine S.ldB (b:=b2) ?_ rfl
 refine S.ldB (b:=b6) ?_ rfl
 refine ahh hM S.holds hu0.up hd0.up hf0 hlt rfl hct λv7 s7 w7 e7 n7 h7=>?_
 obtain⟨S,_,a7⟩:=S.tell e7 n7
 exact h _ s7 _ S.ext (S.newOf a7) h7
theorem amc(h:isU u fn q=true)(h0: -1≤q):isU u fn (-1)=true∧zM u fn q=zM u fn (-1):=by
 obtain⟨hM,hf0,hlt,hq,hT⟩:=jS h
 have h1:isU u fn (-1)=true:=by
  rw[isU]at h⊢
  rw[gqg hlt]at h⊢
  simp only[Bool.and_eq_true,decide_eq_true_eq,Option.map_some,Option.getD_some]at h⊢
  exact⟨h.1,h.2.1,by omega⟩
 obtain⟨_,_,_,_,hT1⟩:=jS h1
 exact⟨h1,hT.trans hT1.symm⟩
theorem ahL(h:q<0∨isU u fn q=false):atD u fn q=([],2):=by
 rw[atD]
 by_cases h0:((zN (zM u fn (-1))).2=2∨fn<0∨(u.fs.length:Int)≤fn)∨q<0
 ·rw[if_pos h0]
 rw[if_neg h0]
 rw[not_or,not_or,not_or]at h0
 have hlt:fn.toNat<u.fs.length:=by omega
 rw[gqg hlt]
 dsimp only
 have h1:isU u fn (-1)=true:=by
  cases hi:isU u fn (-1)with
  |true=>rfl
  |false=>exact absurd (by rw[zM,hi];rfl) h0.1.1
 have h2:=h.resolve_left h0.2
 rw[isU]at h1 h2
 rw[gqg hlt]at h1 h2
 simp only[Bool.and_eq_true,decide_eq_true_eq,Option.map_some,Option.getD_some]at h1
 rw[h1.2.1,decide_eq_true h1.1.1,decide_eq_true h1.1.2]at h2
 simp only[Option.map_some,Option.getD_some,Bool.and_self,Bool.true_and,decide_eq_false_iff_not]at h2
 rw[List.getElem?_eq_none (show u.fs[fn.toNat].pts.length≤q.toNat by omega)]
theorem agQ(h0:0≤q)(h:isU u fn q=true)(hlt:fn.toNat<u.fs.length)(hql:q.toNat<u.fs[fn.toNat].pts.length):
  atD u fn q=if (zN (zM u fn q)).2≠0 then([],(zN (zM u fn q)).2)else(ptCn u (allD u u.fs[fn.toNat]).tys u.fs[fn.toNat].pts[q.toNat] (atL (allD u u.fs[fn.toNat]).at' q),0):=by
 obtain⟨_,hT⟩:=amc h (by omega)
 obtain⟨_,hf0,_,_,hA⟩:=jS h
 have h2:(zN (zM u fn q)).2≠2:=by
  rw[hA,zN,if_pos rfl]
  split
  ·show(5:Int)≠2;decide
  ·show(0:Int)≠2;decide
 rw[atD,← hT,if_neg (by rintro((h|h|h)|h)<;>omega),gqg hlt]
 dsimp only
 rw[gqg hql]
 rfl
theorem ahi{fn q:Int}{K:Value→World→Prop}(hr:Holds r w)(hu:UnG r v u)
  (h:∀v' s w',Ext w w'→New w s w'→SlG 2 s CnC v' (atD u fn q).1→K (.tuple #[v',.int .i64 (atD u fn q).2]) w'):zd Tryz.prog Tryz.Qd #[v,.int .i64 fn,.int .i64 q] w K:=by
 refine Tryz.agF ?_
 unfold Tryz.aa7
 have hu0:=hu
 obtain⟨p0,cap0,vf,rfl,_,_,hst,hsl,hfn⟩:=hu
 obtain⟨qf,capf,rfl,_,_⟩:=hfn.sl.shape
 have S:=St.start hr
 refine S.box λb3 w1 S=>?_
 have S:StX noX w r w1 [.cell b3 [.slice p0 u.ss.length cap0,.slice qf u.fs.length capf,.int .i64 u.mn] 25]:=S
 refine gp_ ?_
 refine yO (c:=!isU u fn q) (λ_ K2 hK2=>?_) λw2 e2=>?_
 ·refine S.ldB (b:=b3) ?_ rfl
  refine acK S.holds hu0 λw2 e2=>?_
  refine gp_ ?_
  exact hK2 _ e2
 have S:=S.go e2
 refine c_b (λhb=>?_) (λhb=>?_)
 ·rw[ahL (by simpa using hb)]at h
  exact h _ nothing _ S.ext New.nothing SlG.nil
 simp only[Bool.or_eq_false_iff,decide_eq_false_iff_not,Bool.not_eq_false']at hb
 obtain⟨hq0,hU⟩:=hb
 obtain⟨hM,hf0,hlt,hql,hA⟩:=jS hU
 rw[agQ (by omega) hU hlt (by omega)]at h
 refine S.ldB (b:=b3) ?_ rfl
 refine ac4 S.holds hu0 λv3 s w4 e4 n4 hd=>?_
 obtain⟨S,_,_⟩:=S.tell e4 n4
 have hfo:=af9 (x:=zM u fn q)
 generalize (zN (zM u fn q)).2=e at h hfo⊢
 generalize (zN (zM u fn q)).1=d at hd hfo
 have hd0:=hd
 obtain⟨q1,c1,q2,c2,rfl,g1,g2⟩:=hd.shape
 refine gS_ ?_
 refine S.al λb6 w5 S=>?_
 refine S.stB (b:=b6) λw6 S=>?_
 refine gp_ ?_
 refine zj (λhne=>?_) (λheq=>?_)
 ·rw[if_pos hne]at h
  exact h _ nothing _ S.ext New.nothing SlG.nil
 have heq:e=0:=by omega
 subst heq
 obtain⟨_,hdE,hct⟩:=hfo rfl
 rw[hA]at hdE hct
 have hdE:d=allD u u.fs[fn.toNat]:=hdE
 have hct:(allD u u.fs[fn.toNat]).ct≤512:=hct
 subst hdE
 rw[if_neg (by omega)]at h
 refine S.ldB (b:=b3) ?_ rfl
 refine S.ldB (b:=b6) ?_ rfl
 refine ac7 hM S.holds hu0.up hd0.up hf0 hlt rfl hct (by omega) (by omega) λv7 s7 w7 e7 n7 h7=>?_
 obtain⟨S,_,a7⟩:=S.tell e7 n7
 exact h _ s7 _ S.ext (S.newOf a7) h7
theorem alc:(ofD u fn).1.length≤1000000:=by
 have hE:ofD u fn=if (zN (zM u fn (-1))).2≠0 then([],(zN (zM u fn (-1))).2)else match u.fs[fn.toNat]? with
  |none=>([],0)
  |some g=>(ddL (cnU u g),0):=rfl
 rw[hE]
 split
 ·exact Nat.zero_le _
 rename_i h0
 obtain⟨hM,hf0,hlt,hdE,hct⟩:=Jt (u:=u) (fn:=fn) (by omega)
 rw[gqg hlt]
 have hH:=hM.hd hlt
 have hpt:=hM.pts _ (List.getElem_mem hlt)
 have hrg:=λ(i:Nat) (hi:i<(allD u u.fs[fn.toNat]).at'.length)=>(ZB (g:=u.fs[fn.toNat]) hM hlt hct hi).1
 have h1:=(adW hM hH hpt hrg u.fs[fn.toNat].pts.length).2
 have hlen:(allD u u.fs[fn.toNat]).at'.length=u.fs[fn.toNat].pts.length:=(yj).2
 rw[List.take_of_length_le (by rw[List.length_zip];omega)]at h1
 have hp24:=hH.pt1024
 have h2:=adO (l:=cnU u u.fs[fn.toNat])
 have h3:(cnU u u.fs[fn.toNat]).length≤928*u.fs[fn.toNat].pts.length:=h1
 show(ddL (cnU u u.fs[fn.toNat])).length≤_
 omega
theorem ald:(atD u fn q).1.length≤1000000:=by
 by_cases hb:q<0∨isU u fn q=false
 ·rw[ahL hb];exact Nat.zero_le _
 rw[not_or,Bool.not_eq_false]at hb
 obtain⟨hM,hf0,hlt,hql,hA⟩:=jS hb.2
 have hq2:q.toNat<u.fs[fn.toNat].pts.length:=by omega
 rw[agQ (by omega) hb.2 hlt hq2]
 split
 ·exact Nat.zero_le _
 rename_i h0
 obtain⟨_,hdE,hct⟩:=af9 (x:=zM u fn q) (by omega)
 rw[hA]at hct
 have hqd:q.toNat<(allD u u.fs[fn.toNat]).at'.length:=by rw[(yj).2];exact hq2
 have hrg:=(ZB (g:=u.fs[fn.toNat]) hM hlt hct hqd).1
 have haE:atL (allD u u.fs[fn.toNat]).at' q=(allD u u.fs[fn.toNat]).at'[q.toNat]:=by rw[atL,List.getD_eq_getElem?_getD,gqg hqd,Option.getD_some]
 have:=agC (a:=(allD u u.fs[fn.toNat]).at'[q.toNat]) hM (hM.hd hlt) (hM.pts _ (List.getElem_mem hlt) _ (List.getElem_mem hq2)) hrg
 rw[haE]
 show(ptCn u (allD u u.fs[fn.toNat]).tys _ _).length≤_
 omega
theorem aac{fn q:Int}{K:Value→World→Prop}(hr:Holds r w)(hu:UnG r v u)(hT:TabG r)
  (h:∀w',Ext w w'→K (.bool true) w'):zd Tryz.prog Tryz.ZR #[v,.int .i64 fn,.int .i64 q] w K:=by
 refine Tryz.J6 ?_
 unfold Tryz.Z4
 have hu0:=hu
 obtain⟨p0,cap0,vf,rfl,_,_,hst,hsl,hfn⟩:=hu
 obtain⟨qf,capf,rfl,_,_⟩:=hfn.sl.shape
 have S:=St.start hr
 refine S.box λb3 w1 S=>?_
 have S:StX noX w r w1 [.cell b3 [.slice p0 u.ss.length cap0,.slice qf u.fs.length capf,.int .i64 u.mn] 25]:=S
 refine S.ldB (b:=b3) ?_ rfl
 refine agM S.holds hu0 λy w2 e2=>?_
 have S:=S.go e2
 refine gp_ ?_
 refine c_b (λ_=>JW S.holds hT λw5 e5=>h _ (S.go e5).ext) (λ_=>?_)
 have hof:=alc (u:=u) (fn:=fn)
 have hat:=ald (u:=u) (fn:=fn) (q:=q)
 refine S.ldB (b:=b3) ?_ rfl
 refine JR S.holds hu0 λva w4 e4 hw4=>?_
 have S:=S.take e4 hw4
 refine gp_ ?_
 refine gp_ ?_
 refine S.ldB (b:=b3) ?_ rfl
 refine V8 S.holds hu0 λvb sb w5 e5 n5 hb=>?_
 obtain⟨S,_,_⟩:=S.tell e5 n5
 refine gp_ ?_
 refine gp_ ?_
 refine S.ldB (b:=b3) ?_ rfl
 refine ain S.holds hu0.up λvc sc w6 e6 n6 hc=>?_
 obtain⟨S,_,_⟩:=S.tell e6 n6
 generalize ofD u fn=od at S hb hc hof⊢
 obtain⟨A,ae⟩:=od
 dsimp only at S hb hc hof⊢
 refine gp_ ?_
 refine gp_ ?_
 refine gp_ ?_
 refine yO (c:=false) (λ_ K2 hK2=>?_) λw7 e7=>?_
 ·obtain⟨sa,T,hsa,_,_⟩:=S.doneRow (l:=A) ke (by decide) rfl
  refine Xy T.holds hsa.cells hc.cells hof hof λw7 e7=>?_
  rw[decide_eq_true rfl]
  refine gp_ ?_
  exact hK2 _ e7
 have S:=S.go e7
 refine c_f (by simp) ?_
 obtain⟨σ,hσ,S⟩:=S.any
 have lb:Le sb σ:=by rw[hσ];infer_instance
 have lc:Le sc σ:=by rw[hσ];infer_instance
 have lr:Le r σ:=by rw[hσ];infer_instance
 clear hσ
 have hu0:UnG σ _ u:=hu0.up
 have hT:TabG σ:=hT.up
 have hb:SlG 2 σ CnC vb A:=hb.cells
 have hc:SlG 2 σ CnC vc A:=hc.cells
 obtain⟨pa,capa,rfl,_⟩:=S.rowS va
 have h0:∃L,StX noX w σ w7 L∧([.cell b3 [.slice p0 u.ss.length cap0,.slice qf u.fs.length capf,.int .i64 u.mn] 25]:List Asr).Sublist L∧
   (A.length≠0→∃b c,pa=some ⟨b,0,none⟩∧A.length≤capa∧c.length=capa*2∧L=[.cell b c 36,.cell b3 [.slice p0 u.ss.length cap0,.slice qf u.fs.length capf,.int .i64 u.mn] 25]):=by
  by_cases hA:A.length=0
  ·exact⟨_,S,.cons _ (List.Sublist.refl _),λh=>absurd hA h⟩
  ·obtain⟨b,cap,c,hv,h1,_,h2,_,T⟩:=S.rowCellM (.slice pa A.length capa) hA
   cases hv
   exact⟨_,T,.cons _ (List.Sublist.refl _),λ_=>⟨b,c,rfl,h1,h2,rfl⟩⟩
 refine zi (ι:=Nat) (λi=>[.int .i64 (i:Nat)]) (λi w'=>i≤A.length∧∃L,StX noX w σ w' L∧([.cell b3 [.slice p0 u.ss.length cap0,.slice qf u.fs.length capf,.int .i64 u.mn] 25]:List Asr).Sublist L∧
   (A.length≠0→∃b c,pa=some ⟨b,0,none⟩∧A.length≤capa∧c.length=capa*2∧L=[.cell b c 36,.cell b3 [.slice p0 u.ss.length cap0,.slice qf u.fs.length capf,.int .i64 u.mn] 25])) (λi=>A.length-i) 0 rfl ⟨Nat.zero_le _,h0⟩ ?_
 clear h0
 repeat clear S
 rintro i d w8 ⟨hi,L,S,hsub,hL⟩ K4 hK4
 rw[gdz]
 refine gp_ ?_
 refine gp_ ?_
 refine zj (λhlt=>?_) (λhge=>?_)
 ·have hlt:i<A.length:=by omega
  obtain⟨b,c,rfl,h1,h2,rfl⟩:=hL (by omega)
  refine zq (cs:=#[.int .i64 (-9),.int .i64 0]) (by kernel_rfl) ?_
  refine gp_ ?_
  refine S.stN (b:=b) (λw9 S=>?_) (by rw[tnc];omega)
  refine gp_ ?_
  refine hK4 (i+1) _ ⟨hlt,_,S,.cons _ (List.Sublist.refl _),λ_=>⟨b,_,rfl,h1,?_,rfl⟩⟩ (by omega)
  rw[tnc,List.length_append,List.length_append,List.length_take,List.length_drop]
  show min (0+i*2) c.length+2+(c.length-(0+i*2+2))=_
  omega
 have S:StX noX w σ w8 [.cell b3 [.slice p0 u.ss.length cap0,.slice qf u.fs.length capf,.int .i64 u.mn] 25]:=S.less (λ_ _ h=>h) hsub
 clear hK4 hL hsub
 refine S.ldB (b:=b3) ?_ rfl
 refine V5 S.holds hu0 λv10 s10 w10 e10 n10 h10=>?_
 obtain⟨S,_,_⟩:=S.tell e10 n10
 refine gp_ ?_
 refine gp_ ?_
 refine S.ldB (b:=b3) ?_ rfl
 refine ahi S.holds hu0.up λv11 s11 w11 e11 n11 h11=>?_
 obtain⟨S,_,_⟩:=S.tell e11 n11
 generalize atD u fn q=ad at h10 h11 hat⊢
 obtain⟨D,de⟩:=ad
 dsimp only at h10 h11 hat⊢
 refine gp_ ?_
 refine gp_ ?_
 refine gp_ ?_
 rw[show decide (de=de)=true by simp]
 refine zy (c:=true) (λ_ K2 hK2=>?_) λw12 e12=>?_
 ·refine Xy S.holds h10.cells h11.cells hat hat λw12 e12=>?_
  rw[decide_eq_true rfl]
  exact hK2 _ e12
 have S:=S.go e12
 refine zy (c:=true) (λ_ K2 hK2=>?_) λw13 e13=>?_
 ·refine Xy S.holds hb.cells hc.cells hof hof λw13 e13=>?_
  rw[decide_eq_true rfl]
  exact hK2 _ e13
 have S:=S.go e13
 refine zy (c:=true) (λ_ K2 hK2=>JW S.holds hT.up λw14 e14=>hK2 _ e14) λw14 e14=>?_
 exact h _ (S.go e14).ext
end Go.Proofs
end
