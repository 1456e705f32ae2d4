/-
  Contracts and plain laws that the last text leans on.
-/
import Derived.Test.YthmakcmiggpoeaaGreatDoorQEh
import Derived.Test.YthmakcmiggpoeaaGreatDoorQEg
import Derived.Test.YthmakcmiggpoeaaGreatDoorQEe
set_option maxRecDepth 100000
set_option maxHeartbeats 8000000
set_option linter.unusedVariables false
set_option linter.unusedSimpArgs false
section
namespace Go.Proofs.YthmakcmiggpoeaaGreatDoor.loanBreaks
open Go.Sh Go.ChangeShapes Go.WideShapes Go.ChangeAt Go.RowKit openG
end Go.Proofs.YthmakcmiggpoeaaGreatDoor.loanBreaks
end
section
namespace Go.Proofs
open Go.Sh Go.RowKit Go.BM
variable {R:List zV}
theorem afa{g:GrD}{x:LnD}{y:zV}(hn:g.pts.length≤1024)(h:X6 g R x y):y.1=g.pts.length∧BM.May y.1 y.2:=by
 obtain⟨h1,D,h2,_,ha,_⟩:=h
 refine⟨h1,?_⟩
 rw[h1,h2]
 have:=J9 (h:=λa b=>a||b) adR (by simp) (W:=(g.pts.length:Int)) D _ (aca (by omega) (by omega)) ha
 rw[tnc]at this
 exact this
theorem JS{u:UnD}{fn:Int}{Q:List zV}{v vR vQ:Value}{w:World}{r:Gh}{K:Value→World→Prop}(hr:Holds r w)(hu:UnG r v u)(hR:SlG 2 r (RwbC r) vR R)(hQ:SlG 2 r (RwbC r) vQ Q)(hT:TabG r)
  (h:∀w',Ext w w'→K (.bool true) w'):zb Tryz.prog Tryz.Zm #[v,.int .i64 fn,vR,vQ] w K:=by
 refine Tryz.Jo ?_
 unfold Tryz.Zw
 obtain⟨p0,cap0,vf,rfl,_,_,_,_,_⟩:=id hu
 obtain⟨pR,cR,rfl,_,_⟩:=hR.shape
 obtain⟨pQ,cQ,rfl,_,_⟩:=hQ.shape
 have S:=St.start hr
 refine S.box λb4 w1 S=>?_
 have S:StX noX w r w1 [.cell b4 [.slice p0 u.ss.length cap0,vf,.int .i64 u.mn] 25]:=S
 refine S.ldB (b:=b4) ?_ rfl
 refine aee S.holds hu λy w2 e2=>?_
 have S:=S.go e2
 refine gp_ ?_
 have awk:∀{W:World}{L:List Asr},StX noX w r W L→zb Tryz.prog Tryz.yG #[] W K:=λS=>jk S.holds hT λw3 e3=>h _ (S.go e3).ext
 refine aim (λx w'=>(x=false→R.length≤600)∧StX noX w r w' [.cell b4 [.slice p0 u.ss.length cap0,vf,.int .i64 u.mn] 25]) (λhb=>⟨λh=>(by cases h),S⟩) (λ_ K3 hK3=>?_) λx w6 ⟨hx,S⟩=>?_
 ·refine YN S.holds hR ?_ λh6 _=>?_
  ·refine gp_ ?_
   exact hK3 true _ ⟨λh=>(by cases h),S⟩
  ·refine gp_ ?_
   exact hK3 false _ ⟨λ_=>h6,S⟩
 refine aim (λx w'=>(x=false→R.length≤600∧Q.length≤600)∧StX noX w r w' [.cell b4 [.slice p0 u.ss.length cap0,vf,.int .i64 u.mn] 25]) (λhb=>⟨λh=>(by cases h),S⟩) (λhxf K3 hK3=>?_) λx2 w11 ⟨hx2,S⟩=>?_
 ·refine YN S.holds hQ ?_ λh6 _=>?_
  ·refine gp_ ?_
   exact hK3 true _ ⟨λh=>(by cases h),S⟩
  ·refine gp_ ?_
   exact hK3 false _ ⟨λ_=>⟨hx hxf,h6⟩,S⟩
 refine c_b (λ_=>awk S) (λhsm=>?_)
 obtain⟨hRf,hQf⟩:=hx2 hsm
 refine S.ldB (b:=b4) ?_ rfl
 refine Qu S.holds hu hR (by omega) (λe w14 he _ e14=>?_) λg F hz hgR v14 s14 Y w14 e14 n14 hY hYl hYr=>?_
 ·have S:=S.go e14
  refine gp_ ?_
  refine gp_ ?_
  refine gp_ ?_
  refine zj (λ_=>?_) (λh0=>absurd he h0)
  refine gg_ ?_
  refine zG (c:=true) (λ_ K2 hK2=>jk S.holds hT λw8 e8=>hK2 _ e8) λw8 e8=>?_
  have:=h _ (S.go e8).ext
  simpa using this
 obtain⟨S,_,_⟩:=S.tell e14 n14
 have hn:=F.head.pt1024
 have hlf:(lkS u fn g).length≤1000000:=Nat.le_trans qm (by omega)
 have hgY:zO Y (lkS u fn g).length g.pts.length=true:=V1 (by rw[hYl]) λy hy=>by
  obtain⟨i,hi,rfl⟩:=List.getElem_of_mem hy
  exact afa hn (hYr i (by omega) hi)
 obtain⟨pY,cY,rfl,_,_⟩:=hY.shape
 have hu1:UnG (r.or s14) (.agg #[.slice p0 u.ss.length cap0,vf,.int .i64 u.mn]) u:=UnG.up hu
 have hR1:SlG 2 (r.or s14) (RwbC (r.or s14)) (.slice pR R.length cR) R:=hR.up' inferInstance λ_ _ h=>RwbC.up h
 have hQ1:SlG 2 (r.or s14) (RwbC (r.or s14)) (.slice pQ Q.length cQ) Q:=hQ.up' inferInstance λ_ _ h=>RwbC.up h
 have hY1:SlG 2 (r.or s14) (RwbC (r.or s14)) (.slice pY Y.length cY) Y:=hY.up' inferInstance λ_ _ h=>RwbC.up h
 have hT1:TabG (r.or s14):=hT.up
 generalize r.or s14=ρ at S hu1 hR1 hQ1 hY1 hT1
 have awk:∀{W:World}{L:List Asr},StX noX w ρ W L→zb Tryz.prog Tryz.yG #[] W K:=λS=>jk S.holds hT1 λw3 e3=>h _ (S.go e3).ext
 refine gp_ ?_
 refine gp_ ?_
 refine gp_ ?_
 refine c_f rfl ?_
 refine S.ldB (b:=b4) ?_ rfl
 have hcls:∀n (hn':n<(lkS u fn g).length),Zi g (lkS u fn g)[n] (R.getD (lkS u fn g)[n].re.toNat (0,[])).2 (Y.getD n (0,[])).2:=λn hn'=>by
  have hy:n<Y.length:=by omega
  have:=ai9 hn F.pts (hYr n hn' hy)
  rw[List.getD_eq_getElem?_getD (l:=Y),gqg hy]
  exact this
 refine Zj S.holds hu1 hR1 hY1 (by omega) (by omega) hT1 (λe w20 he hbad e20=>?_) λg' F' _ _ _ i p ok w20 e20 hok=>?_
 ·exfalso
  have:=hbad g F hz hgR
  rw[hgY]at this;cases this
 obtain rfl:g'=g:=Option.some.inj (F'.at'.symm.trans F.at')
 have hokt:ok=true:=hok.2 hcls
 subst hokt
 have S:=S.go e20
 refine gp_ ?_
 refine gp_ ?_
 refine gp_ ?_
 refine gp_ ?_
 refine S.ldB (b:=b4) ?_ rfl
 refine Zh S.holds hu1 hY1 (by omega) (λe w21 he hbad e21=>?_) λg2 F2 _ _ w21 e21=>?_
 ·exfalso
  have:=hbad g' F hz
  rw[hgY]at this;cases this
 obtain rfl:g2=g':=Option.some.inj (F2.at'.symm.trans F.at')
 have S:=S.go e21
 refine gp_ ?_
 refine gp_ ?_
 refine gp_ ?_
 refine gp_ ?_
 refine gp_ ?_
 refine zm (c:=false) (λ_ K2 hK2=>by refine gg_ ?_;exact hK2) ?_
 refine zm (c:=false) (λ_ K2 hK2=>by refine gg_ ?_;exact hK2) ?_
 refine c_f rfl ?_
 refine S.ldB (b:=b4) ?_ rfl
 refine Zj S.holds hu1 hR1 hQ1 (by omega) (by omega) hT1 (λe w30 he hbad e30=>?_) λg3 F3 _ _ hgQ i3 p3 ok3 w30 e30 hok3=>?_
 ·have S:=S.go e30
  refine gp_ ?_
  refine gp_ ?_
  refine gp_ ?_
  refine gp_ ?_
  refine gp_ ?_
  refine zm (c:=true) (λ_ K2 hK2=>by refine gg_ ?_;exact hK2) ?_
  refine c_b (λ_=>awk S) (λhc=>?_)
  exfalso
  rw[Bool.or_true]at hc;cases hc
 obtain rfl:g3=g2:=Option.some.inj (F3.at'.symm.trans F.at')
 have S:=S.go e30
 refine gp_ ?_
 refine gp_ ?_
 refine gp_ ?_
 refine gp_ ?_
 refine gp_ ?_
 refine zm (c:=!ok3) (λ_ K2 hK2=>by refine gg_ ?_;exact hK2) ?_
 refine c_b (λ_=>awk S) (λhc=>?_)
 have hok3t:ok3=true:=by simpa using hc
 have hcQ:=hok3.1 hok3t
 have hQl:=ZK hgQ
 have hless:∀n (hn':n<(lkS u fn g3).length),∀k,bit (Y.getD n (0,[])).2 k=true→bit (Q.getD n (0,[])).2 k=true:=λn hn' k hk=>by
  have hy:n<Y.length:=by omega
  rw[List.getD_eq_getElem?_getD (l:=Y),gqg hy]at hk
  exact ag4 hn F.pts (hYr n hn' hy) (hcQ n hn') hk
 refine zk (ι:=Nat) (λi=>[.int .i64 (i:Nat)]) (λi w'=>i≤Y.length∧StX noX w ρ w' [.cell b4 [.slice p0 u.ss.length cap0,vf,.int .i64 u.mn] 25]) (λi=>Y.length-i) 0 rfl ⟨Nat.zero_le _,S⟩ ?_
 repeat clear S
 rintro i d w39 ⟨hi,S⟩ K36 hK36
 rw[gdz]
 refine gg_ ?_
 refine zj (λhlt=>?_) (λhge=>?_)
 ·have hlt:i<Y.length:=by omega
  have hlq:i<Q.length:=by have:=hQl.1;omega
  obtain⟨by',oy,cy,hqy,hcy,hyc,hyo⟩:=hY1.get (by decide) hlt
  obtain⟨bq,oq,cq,hqq,hcq,hqc,hqo⟩:=hQ1.get (by decide) hlq
  have hmy:=afa hn (hYr i (by omega) hlt)
  have hmq:=hQl.2 i hlq
  have hl:=hless i (by omega)
  rw[List.getD_eq_getElem?_getD (l:=Y),gqg hlt,List.getD_eq_getElem?_getD (l:=Q),gqg hlq]at hl
  generalize Y[i]=y at hyc hmy hl
  generalize Q[i]=z at hqc hmq hl
  have hyc0:=hyc
  have hqc0:=hqc
  obtain⟨py,cy',rfl,_⟩:=hyc
  obtain⟨pz,cz',rfl,_⟩:=hqc
  cases hqy
  cases hqq
  have S:=S.go (Ext.drew _)
  refine gg_ ?_
  refine zr (n:=2) rfl (λj v hj=>by rw[tnc];exact S.at (hqo j v hj)) ?_
  refine gg_ ?_
  refine zr (n:=2) rfl (λj v hj=>by rw[tnc];exact S.at (hyo j v hj)) ?_
  refine afN S.holds hqc0 hyc0 hT1 (λhno w40 e40=>?_) λ_ _ _ w40 e40=>?_
  ·exact absurd ⟨BM.mayB_true hmq.2,BM.mayB_true hmy.2,hmq.1.trans hmy.1.symm⟩ hno
  have S:=S.go e40
  have hlk:lackL z.1 z.2 y.2=[]:=ah4.2 λk _ hk=>hl k hk
  rw[hlk]
  refine gp_ ?_
  refine gp_ ?_
  refine gp_ ?_
  refine zm (c:=false) (λ_ K2 hK2=>by refine gg_ ?_;exact hK2) ?_
  refine c_f rfl ?_
  refine gg_ ?_
  exact hK36 (i+1) _ ⟨hlt,S⟩ (by omega)
 refine S.ldB (b:=b4) ?_ rfl
 refine Zh S.holds hu1 hQ1 (by omega) (λe w45 he hbad e45=>?_) λg4 F4 _ _ w45 e45=>?_
 ·exfalso
  have:=hbad g3 F hz
  rw[hgQ]at this;cases this
 obtain rfl:g4=g3:=Option.some.inj (F4.at'.symm.trans F.at')
 have S:=S.go e45
 have hfin:((qz u g4 (lkS u fn g4) Y).isNone || !(qz u g4 (lkS u fn g4) Q).isNone)=true:=by
  cases hq:qz u g4 (lkS u fn g4) Q with
  |some _=>simp
  |none=>rw [ah2 (λn hn' k hk=>hless n hn' k hk) hq];rfl
 refine gp_ ?_
 refine gp_ ?_
 refine gp_ ?_
 refine gp_ ?_
 refine gp_ ?_
 refine ai3 (m:=(qz u g4 (lkS u fn g4) Y).isNone) (x:=!(qz u g4 (lkS u fn g4) Q).isNone) (λK2 hK2=>hK2) (λ_ K2 hK2=>by refine gp_ ?_;exact hK2) ?_
 rw[hfin]
 refine zG (c:=true) (λ_ K2 hK2=>jk S.holds hT1 λw8 e8=>hK2 _ e8) λw8 e8=>?_
 have:=h _ (S.go e8).ext
 simpa using this
end Go.Proofs
end
