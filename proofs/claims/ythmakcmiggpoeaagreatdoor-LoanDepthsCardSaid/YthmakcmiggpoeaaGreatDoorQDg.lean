/-
  Contracts and plain laws that the last text leans on.
-/
import Derived.Test.YthmakcmiggpoeaaGreatDoorQDf
set_option maxRecDepth 100000
set_option maxHeartbeats 8000000
set_option linter.unusedVariables false
set_option linter.unusedSimpArgs false
section
namespace Go.Sh
theorem ajz{w:World}{b n m x:Bool}{A0:(List Value→World→Prop)→Prop}{A1 A2:(List Value→World→Prop)→World→Prop}{Z:Value→World→Prop}
  (h0:∀K:List Value→World→Prop,K [.bool n] w→A0 K) (h1:∀K:List Value→World→Prop,K [.bool m] w→A1 K w) (h2:∀K:List Value→World→Prop,K [.bool x] w→A2 K w) (hZ:Z (.bool (b||((n&&m)&&x))) w):
  za (λK=>gIf (.bool b) false (A0 K) (K [u_] w)) λs1 _ w1=>
   za (λK=>gIf (s1.getD 0 u_) true (A1 K w1) (K [u_] w1)) λs2 _ w2=>
    za (λK=>gIf (.bool b) false (zd (s1.getD 0 u_) (s2.getD 0 u_) (.bool false) λt=>K [t] w2) (K [u_] w2)) λs3 _ w3=>
     za (λK=>gIf (s3.getD 0 u_) true (A2 K w3) (K [u_] w3)) λs4 _ w4=>
      za (λK=>gIf (.bool b) false (zd (s3.getD 0 u_) (s4.getD 0 u_) (.bool false) λt=>K [t] w4) (K [u_] w4)) λs5 _ w5=>
       zd (.bool b) (.bool true) (s5.getD 0 u_) λt=>Z t w5:=by
 cases b<;>cases n<;>cases m<;>cases x <;>
  (iterate 5 (intro K hK;first|refine hK _ _ λ_=>?_|refine h0 _ (hK _ _ λ_=>?_)|refine h1 _ (hK _ _ λ_=>?_)|refine h2 _ (hK _ _ λ_=>?_)|refine ⟨_,rfl,hK _ _ λ_=>?_⟩)) <;>
  exact⟨_,rfl,by simpa using hZ⟩
theorem aiI{P:Program}{w:World}{T:TypeId}{y n m a b:Bool}{A:(List Value→World→Prop)→World→Prop}{Z:Value→World→Prop}
  (h1:∀K:List Value→World→Prop,K [.bool m] w→A K w) (hB:∀(x:Bool)(K:Value→Prop),K (.bool (decide (y≠x)))→opP P (zC .neq T false (.bool y) (.bool x)) K) (hZ:Z (.bool (decide (y≠((n||m)&&(a||b))))) w):
  za (λK=>gIf (.bool false) false (K [.bool y,.bool n] w) (K [u_,u_] w)) λs1 _ w1=>
   za (λK=>gIf (s1.getD 1 u_) false (A K w1) (K [u_] w1)) λs2 _ w2=>
    za (λK=>gIf (.bool false) false (zd (s1.getD 1 u_) (.bool true) (s2.getD 0 u_) λt=>K [t] w2) (K [u_] w2)) λs3 _ w3=>
     za (λK=>gIf (s3.getD 0 u_) true (K [.bool a] w3) (K [u_] w3)) λs4 _ w4=>
      za (λK=>gIf (s4.getD 0 u_) false (K [.bool b] w4) (K [u_] w4)) λs5 _ w5=>
       za (λK=>gIf (s3.getD 0 u_) true (zd (s4.getD 0 u_) (.bool true) (s5.getD 0 u_) λt=>K [t] w5) (K [u_] w5)) λs6 _ w6=>
        za (λK=>gIf (.bool false) false (zd (s3.getD 0 u_) (s6.getD 0 u_) (.bool false) λt=>opP P (zC .neq T false (s1.getD 0 u_) t) λt2=>K [t2] w6) (K [u_] w6)) λs7 _ w7=>
         zd (.bool false) (.bool true) (s7.getD 0 u_) λt=>Z t w7:=by
 cases n<;>cases m<;>cases a<;>cases b <;>
  (iterate 7 (intro K hK;first|refine hK _ _ λ_=>?_|refine h1 _ (hK _ _ λ_=>?_)|refine ⟨_,rfl,hK _ _ λ_=>?_⟩|refine ⟨_,rfl,hB _ _ (hK _ _ λ_=>?_)⟩)) <;>
  exact⟨_,rfl,by simpa using hZ⟩
end Go.Sh
namespace Go.Proofs
open Go.Sh Go.RowKit Go.BM
set_option maxRecDepth 100000
section
variable {u:UnD} {fn:Int} {v:Value} {w:World} {r:Gh} {K:Value→World→Prop}
theorem Jb{n:Int}{wr:Bool}{p:PlD}{c:List Value}(hr:Holds r w)(hu:UnG r v u)(hp:PlG r c p)(hT:TabG r)
  (h:∀w',Ext w w'→K (.bool true) w'):zc Tryz.prog Tryz.vI #[v,.int .i64 fn,.int .i64 n,.agg c.toArray,.bool wr] w K:=by
 refine Tryz.Qp ?_
 unfold Tryz.vS
 obtain⟨p0,cap0,vf,rfl,_,_,hst,hsl,hfn⟩:=id hu
 obtain⟨qf,capf,rfl,_,_⟩:=hfn.sl.shape
 obtain⟨vp,rfl,hps⟩:=id hp
 obtain⟨qp,cp,rfl,_,_⟩:=hps.sl.shape
 have hpf:p.ps.length≤9223372036854775807:=hps.few
 have S:=St.start hr
 refine S.box λb5 w1 S=>?_
 refine S.box λb8 w2 S=>?_
 have S:StX noX w r w2 [.cell b8 [.int .i64 p.l,.slice qp p.ps.length cp] 80,.cell b5 [.slice p0 u.ss.length cap0,.slice qf u.fs.length capf,.int .i64 u.mn] 25]:=S
 refine S.ldB (b:=b5) ?_ rfl
 refine adH S.holds hu λy w3 e3=>?_
 have S:=S.go e3
 have awk:∀{W:World}{ρ:Gh}{L:List Asr},StX noX w ρ W L→TabG ρ→zc Tryz.prog Tryz.y7 #[] W K:=λS hT=>Qi S.holds hT λw3 e3=>h _ (S.go e3).ext
 refine gp_ ?_
 refine zn (c:=decide (40<(p.ps.length:Int))) (λ_ K2 hK2=>by refine gg_ ?_;exact hK2) ?_
 refine c_b (λ_=>awk S hT) (λhsm=>?_)
 refine S.ldB (b:=b5) ?_ rfl
 refine aay S.holds hu (λhe w9 e9=>?_) λhz g s pl cl w9 F e9 n9 hls=>?_
 ·have S:=S.go e9
  refine gp_ ?_
  refine gp_ ?_
  refine gp_ ?_
  refine zn (c:=true) (λhb=>?_) ?_
  ·simp only[decide_eq_false_iff_not]at hb;exact absurd he hb
  refine zn (c:=true) (λhb=>by simp at hb) ?_
  refine c_b (λ_=>awk S hT) (λhb=>by simp at hb)
 obtain⟨S,_,_⟩:=S.tell e9 n9
 have hloc:=abf (fn:=fn) F.may F.head F.pts
 have hmay:=aiB F
 have hlf:(lkS u fn g).length≤1000000:=Nat.le_trans qc (by have:=F.head.pt1024;omega)
 refine gp_ ?_
 refine gp_ ?_
 refine gp_ ?_
 refine zn (c:=decide (n<0)) (λ_ K2 hK2=>by refine gg_ ?_;exact hK2) ?_
 refine zn (c:=decide (((lkS u fn g).length:Int)≤n)) (λ_ K2 hK2=>by refine gg_ ?_;exact hK2) ?_
 have hT1:TabG (r.or s):=hT.up
 refine c_b (λ_=>awk S hT1) (λhn=>?_)
 simp only[Bool.or_eq_false_iff,decide_eq_false_iff_not]at hn
 have hn0:0≤n:=by omega
 have hnl:n.toNat<(lkS u fn g).length:=by omega
 have hu1:UnG (r.or s) (.agg #[.slice p0 u.ss.length cap0,.slice qf u.fs.length capf,.int .i64 u.mn]) u:=UnG.up hu
 have hp1:PlG (r.or s) [.int .i64 p.l,.slice qp p.ps.length cp] p:=PlG.up hp
 obtain⟨bx,ox,cx,hqx,hcx,hxc,hxo⟩:=hls.get (by decide) hnl
 cases hqx
 have hlx:=hloc _ (List.getElem_mem hnl)
 have hmx:=hmay _ (List.getElem_mem hnl)
 have hbI:∀d:Int,1≤d→d≤3→jQ u fn n ⟨p,d,wr⟩=(zt u.ss g.tys p).isSome:=λd h1 h3=>by
  rw[jQ,F.at']
  simp only
  rw[decide_eq_true hn0,decide_eq_true (show n<((lkS u fn g).length:Int)by omega),decide_eq_true h1,decide_eq_true h3];simp
 have hbV:∀d:Int,brkV u fn n ⟨p,d,wr⟩=((wr||(lkS u fn g)[n.toNat].mu)&&(yf (lkS u fn g)[n.toNat].pl p||(yT u.ss g.tys p (lkS u fn g)[n.toNat].pl d).1)):=λd=>by
  rw[brkV,F.at']
  simp only
  rw[gqg hnl]
  exact ajs F.may.ok (F.head.fine F.may.ok) hlx.1 hlx.2
 have hxc:=LnG.up (s:=r.or s) hxc
 have hxo:∀j v,cx[j]? = some v→Ob (r.or s) λw=>w.cell? ⟨bx,ox+n.toNat*5+j,none⟩=some v:=λj v hj=>Ob.up (hxo j v hj)
 obtain⟨hltf,hge⟩:=List.getElem?_eq_some_iff.1 F.at'
 obtain⟨bf,of,cf,hqf,hcf,hgc,hfo⟩:=hfn.sl.get (by decide) hltf
 rw[hge]at hgc
 obtain⟨x1,x2,x3,x4,y1,y2,y3,y4,rfl,hg0⟩:=aik hgc
 obtain⟨_,_,_,_,hE4,_,htyg,_,_⟩:=hg0
 cases hE4
 cases hqf
 have hfo4:Ob (r.or s) λw=>w.cell? ⟨bf,of+fn.toNat*7+4,none⟩=some (.slice x2 g.tys.length y2):=Ob.up (hfo 4 _ rfl)
 have hty1:SlB 5 (r.or s) (TyC (r.or s)) (.slice x2 g.tys.length y2) g.tys:=htyg.up' inferInstance λ_ _ h=>TyG.up h
 have hst1:StG (r.or s) p0 u.ss:=RepS.up hst
 have hfuE:fn.toNat<u.fs.length:=hltf
 have hfun0:=F.fn0
 generalize (lkS u fn g)[n.toNat]=x at hxc hxo hlx hmx hbV
 have leρ:Le r (r.or s):=inferInstance
 generalize r.or s=ρ at S hT1 hu1 hp1 hxc hxo hfo4 hty1 hst1 leρ
 have hz2:∀b,yA u fn b=if b=true then 0 else 2:=λb=>by
  rw[yA,hz];simp[F.is]
 have hB:∀{B:Int→Bool},(∀d,B d=((wr||x.mu)&&(yf x.pl p||(yT u.ss g.tys p x.pl d).1)))→∀d d':Int,1≤d→d≤d'→d'≤3→B d=true→B d'=true:=fun {B} hB d d' h1 h2 h3 hb=>by
  rw[hB]at hb⊢
  simp only[Bool.and_eq_true,Bool.or_eq_true (yf x.pl p)]at hb⊢
  exact⟨hb.1,hb.2.imp id λhw=>agA h1 h2 h3 hw⟩
 refine zk (ι:=Bool×Nat) (λi=>[.bool i.1,.int .u8 (i.2:Nat)]) (λi w'=>1≤i.2∧i.2≤4∧(i.1=true→2≤i.2∧brkV u fn n ⟨p,(i.2:Int)-1,wr⟩=true)∧StX noX w ρ w' [.cell b8 [.int .i64 p.l,.slice qp p.ps.length cp] 80,.cell b5 [.slice p0 u.ss.length cap0,.slice (some ⟨bf,of,none⟩) u.fs.length capf,.int .i64 u.mn] 25]) (λi=>4-i.2) (false,1) rfl ⟨Nat.le_refl _,by decide,λh=>(by cases h),S⟩ ?_
 repeat clear S
 rintro⟨was,d⟩ dd w22 ⟨h1d,h4d,hwas,S⟩ K19 hK19
 simp only at h1d h4d hwas S⊢
 simp only[gdz,gds]
 refine gg_ ?_
 refine zj (λhle=>?_) (λ_=>awk S hT1)
 have hd3:(d:Int)≤3:=by omega
 have hd1:(1:Int)≤d:=by omega
 have hwas2:was=true→brkV u fn n ⟨p,d,wr⟩=true:=λhw=>hB (B:=λd=>brkV u fn n ⟨p,d,wr⟩) hbV ((d:Int)-1) d (by have:=(hwas hw).1;omega) (by omega) hd3 (hwas hw).2
 refine S.ldB (b:=b5) ?_ rfl
 refine S.ldB (b:=b8) ?_ rfl
 refine zo (cs:=#[.int .i64 p.l,.slice qp p.ps.length cp,.int .u8 d,.bool wr]) (by kernel_rfl) ?_
 refine Qf S.holds hu1 (a:=⟨p,d,wr⟩) (c:=[.int .i64 p.l,.slice qp p.ps.length cp,.int .u8 d,.bool wr]) ⟨_,rfl,SlB.cells hps⟩ λw23 e23=>?_
 have S:=S.go e23
 rw[hbI d hd1 hd3,hz2]
 have hbVd:=hbV d
 generalize brkV u fn n ⟨p,d,wr⟩=is at *
 cases hpl:(zt u.ss g.tys p).isSome with
 |false=>
  rw[if_neg (by decide)]
  refine gp_ ?_
  refine gp_ ?_
  refine gp_ ?_
  refine c_t rfl ?_
  refine gp_ ?_
  refine zh (c:=true) (λ_ K2 hK2=>by refine gg_ ?_;exact hK2) ?_
  refine zH (c:=true) (λ_ K2 hK2=>Qi S.holds hT1 λw8 e8=>hK2 _ e8) λw8 e8=>?_
  exact h _ (S.go e8).ext
 |true=>
  rw[if_pos rfl]
  refine gp_ ?_
  refine gp_ ?_
  refine gp_ ?_
  refine c_f rfl ?_
  rw[show (decide ((0:Int)=0)&&is)=is by simp]
  refine zh (c:=!is) (λ_ K2 hK2=>by refine gp_ ?_;exact hK2) ?_
  obtain⟨vx,rfl,hxs⟩:=id hxc
  obtain⟨qx,cx',rfl,_,_⟩:=hxs.sl.shape
  have hpx:PlG ρ [.int .i64 x.pl.l,.slice qx x.pl.ps.length cx'] x.pl:=⟨_,rfl,hxs⟩
  refine ajz (n:=is) (m:=!wr) (x:=!x.mu) (λK2 hK2=>hK2) (λK2 hK2=>by refine gp_ ?_;exact hK2) (λK2 hK2=>?_) ?_
  ·refine gg_ ?_
   refine zf (S.at (hxo 3 _ rfl)) ?_
   refine gp_ ?_
   exact hK2
  refine c_b (λhbad=>?_) (λ_=>?_)
  ·exfalso
   rw[Bool.or_eq_true]at hbad
   rcases hbad with hb|hb
   ·cases was with
    |false=>cases hb
    |true=>rw [hwas2 rfl]at hb;cases hb
   ·rw[hbVd]at hb
    cases wr<;>cases hm:x.mu<;>simp [hm]at hb
  have S:=S.go (Ext.drew _)
  refine gg_ ?_
  have ldp:∀{W:World}{L:List Asr}{K':Value→Prop},StX noX w ρ W L→K' (.agg #[.int .i64 x.pl.l,.slice qx x.pl.ps.length cx'])→opQ Tryz.prog W (Instr.loadAt 80 (.pointer (some ⟨bx,ox+n.toNat*5+1,none⟩))) K':=λS k=>zq (n:=2) (c:=[.int .i64 x.pl.l,.slice qx x.pl.ps.length cx']) rfl (λj v hj=>by
   have:=S.at (hxo (1+j) v (by
    rw[Nat.add_comm]
    match j,hj with
    |0,hj=>exact hj
    |1,hj=>exact hj
    |j+2,hj=>exact absurd hj (by simp)))
   rwa[← Nat.add_assoc]at this) k
  refine ldp S ?_
  refine S.ldB (b:=b8) ?_ rfl
  refine xU S.holds hpx hp1 λw57 e57=>?_
  have S:=S.go e57
  have S:=S.go (Ext.drew _)
  refine gg_ ?_
  refine zf (S.at hfo4) ?_
  refine S.ldB (b:=b8) ?_ rfl
  refine gg_ ?_
  refine ldp S ?_
  refine Xl S.holds hst1 (ZC hty1.sl) hty1.few hp1 hpx λw58 e58=>?_
  have S:=S.go e58
  rw[aiA hpl hmx hd1 hd3]
  refine gp_ ?_
  refine gp_ ?_
  refine gp_ ?_
  refine aiI (P:=Tryz.prog) (y:=is) (n:=wr) (m:=x.mu) (a:=yf x.pl p) (b:=(yT u.ss g.tys p x.pl d).1) (λK2 hK2=>?_) (λz K2 hK2=>?_) ?_
  ·refine gg_ ?_
   refine zf (S.at (hxo 3 _ rfl)) ?_
   exact hK2
  ·refine gp_ ?_
   rw[show (!is == z)=decide (is≠z)by cases is<;>cases z<;>rfl]
   exact hK2
  refine c_f (by rw[hbVd];simp) ?_
  refine gg_ ?_
  refine hK19 (is,d+1) _ ⟨by show 1≤d+1;omega,by show d+1≤4;omega,λhi=>⟨by show 2≤d+1;omega,?_⟩,S⟩ (by show 4-(d+1)<4-d;omega)
  show brkV u fn n ⟨p,((d+1:Nat):Int)-1,wr⟩=true
  rw[show ((d+1:Nat):Int)-1=d by omega,hbV,← hbVd]
  exact hi
end
end Go.Proofs
end
