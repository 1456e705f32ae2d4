/-
  The document's answer of layer 13: All, Of, Walk.
  The document's answer of layer 13: Of, Walk.
  The document's answer of layer 13: Borrowed, Called.
  loanwordlaw13.RegionMakes: plain facts of what Borrowed and Called tell.
  Contracts: the operands of a point.
  Shapes: what regions say nothing of; the plain law of RegionShapes.
  loanwordlaw13.RegionMakes: whatever the program, the function, the point: the law returns true.
  Openings: what arguments that are types, programs, lists of numbers tell.
  loanwordlaw13.RegionMakes: whatever the input, the law returns true and the input reads as it did.
-/
import Derived.Test.YtngfnikkdhbajaaGreatQUf
import Derived.Test.YtngfnikkdhbajaaGreatQUd
import Derived.Test.YtngfnikkdhbajaaGreatRows
import Derived.WalkKit
section
namespace Go.Proofs
open Go.Sh
set_option maxRecDepth 100000
set_option linter.unusedSimpArgs false
set_option linter.unusedVariables false
set_option maxHeartbeats 4000000 in
theorem adn {u : UnD} {fn : Int} {v : Value} {w : World} {r : Gh} {K : Value→World→Prop} (hM : MayU u) (hf0 : 0≤fn) (hlt : fn.toNat<u.fs.length) (hr : Holds r w) (hu : UnG r v u)
  (h : ∀ v' s w',Ext w w'→New w s w'→RgG s v' (allD u u.fs[fn.toNat])→K v' w') : ze Tryz.prog Tryz.Yr #[v,.int .i64 fn] w K:=by
 refine Tryz.ach ?_
 unfold Tryz.Jf
 obtain ⟨p0,cap0,vf,rfl,_,_,hst,hsl,hfn⟩:=hu
 obtain ⟨qf,capf,rfl,_,_⟩:=hfn.sl.shape
 have hfl : u.fs.length≤9223372036854775807:=hfn.few
 obtain ⟨bf,of,cf,rfl,hcf,hgc,hfo⟩:=hfn.sl.get (by decide) hlt
 have hH:=hM.hd hlt
 have hgm:=List.getElem_mem hlt
 have hfin:=hH.fine hM.ok
 have hptN:=fun p hp=>hM.ptN hgm (p:=p) hp
 have hpg:=hM.pts _ hgm
 generalize u.fs[fn.toNat]=g at h hgc hH hgm hfin hptN hpg
 obtain ⟨vo,vt,vn,vp,rfl,h1,h2,h3,h4⟩:=id hgc
 obtain ⟨qo,capo,rfl,_,_⟩:=h1.sl.shape
 obtain ⟨qt,capt,rfl,_,hct⟩:=h2.sl.shape
 obtain ⟨qn,capn,rfl,_,_⟩:=h3.sl.shape
 obtain ⟨qp,capp,rfl,_,_⟩:=h4.sl.shape
 have hlv0:=hH.lv0;have hlv8:=hH.lv8;have hty:=hH.ty512;have hp1024:=hH.pt1024
 have hloc0:=qH g.tys
 have hloc1:=QT g.tys
 have hat0:=ZN (u:=u) (l:=g.pts) (fun p hp=>(hptN p hp).1) g.pts.length
 rw [List.take_length] at hat0
 have hat1:=acO (u:=u) (l:=g.pts) fun p hp=>(hptN p hp).2
 have S:=St.start hr
 refine S.box fun b2 w1 S=>?_
 have S : StX noX w r w1 [.cell b2 [.slice p0 u.ss.length cap0,.slice (some ⟨bf,of,none⟩) u.fs.length capf,.int .i64 u.mn] 25]:=S
 refine S.al fun b4 w2 S=>?_
 refine gg_ ?_
 refine zq (n:=7) hcf (fun j v hj=>S.at (hfo j v hj)) ?_
 refine S.al fun b5 w3 S=>?_
 refine S.stB (b:=b5) fun w4 S=>?_
 refine gg_ ?_
 refine S.al fun b6 w5 S=>?_
 refine S.stB (b:=b6) fun w6 S=>?_
 refine gg_ ?_
 have S:=(S.ownNil 3 1).ownNil 31 5
 have S : StX noX w (r.or nothing) w6 [.row (.slice none 0 0) 31 5 0 [],.row (.slice none 0 0) 3 1 0 [],.cell b6 (rgL g.lv g.pts.length 0 (.slice none 0 0) (.slice none 0 0)) 41,.cell b5 [.string g.name,.int .i64 g.lv,.slice qo g.outs.length capo,.int .i64 g.pn,.slice qt g.tys.length capt,.slice qn g.nms.length capn,.slice qp g.pts.length capp] 58,
  .cell b4 rgZ 41,.cell b2 [.slice p0 u.ss.length cap0,.slice (some ⟨bf,of,none⟩) u.fs.length capf,.int .i64 u.mn] 25]:=S.to _
 refine zk (ι:=Nat × Value × Gh × List Value) (fun i=>[.int .i64 (g.lv+zS (g.tys.take i.1)),.int .i64 (i.1 : Nat)]) (fun i w'=>i.1≤g.tys.length∧RowOf 5 (TyC i.2.2.1) i.2.2.2 ((xk g.tys g.lv).take i.1)∧Above w i.2.2.1∧
  StX noX w (r.or i.2.2.1) w' [.row i.2.1 31 5 i.1 i.2.2.2,.row (.slice none 0 0) 3 1 0 [],.cell b6 (rgL g.lv g.pts.length 0 i.2.1 (.slice none 0 0)) 41,.cell b5 [.string g.name,.int .i64 g.lv,.slice qo g.outs.length capo,.int .i64 g.pn,.slice qt g.tys.length capt,.slice qn g.nms.length capn,.slice qp g.pts.length capp] 58,
   .cell b4 rgZ 41,.cell b2 [.slice p0 u.ss.length cap0,.slice (some ⟨bf,of,none⟩) u.fs.length capf,.int .i64 u.mn] 25]) (fun i=>g.tys.length - i.1) (0,.slice none 0 0,nothing,[]) (by simp [zS]) ⟨Nat.zero_le _,by simpa using RowOf.nil,Above.no,S⟩ ?_
 clear S
 rintro ⟨i,vl,s',xs⟩ d w7 ⟨hi,hrow,hab,S⟩ K7 hK7
 simp only at hi hrow hab S ⊢
 simp only [List.getD_cons_zero,List.getD_cons_succ]
 refine gg_ ?_
 refine zj (fun hlt2=>?_) (fun hge=>?_)
 ·have hlt2 : i<g.tys.length:=by omega
  obtain ⟨bt,ot,ct,rfl,hct2,htc,hcell⟩:=h2.sl.get (by decide) hlt2
  obtain ⟨q2,cap2,rfl,ht2⟩:=zV htc
  have hfi : Fine u.ss g.tys[i]:=hfin.all _ (List.getElem_mem hlt2)
  have hB:=hfi.is hfin.few
  have hrT : regsT g.tys[i]=g.tys[i].regs:=by rw [regsT,hB];rfl
  have hl0:=qH (g.tys.take i)
  have hl1:=QT (g.tys.take i)
  rw [List.length_take] at hl1
  have hkt:=aa9 hlt2
  rw [hrT] at hkt
  have hht : g.tys[i].ht≤48:=Qe hB
  refine S.al fun b9 w8 S=>?_
  refine gg_ ?_
  refine zq (n:=5) hct2 (fun j v hj=>by rw [Int.toNat_natCast];exact S.at (hcell j v hj)) ?_
  refine J8 48 hht hB (by omega) (by omega) S.holds ht2.up fun v' sn w9 e9 n9 hv'=>?_
  obtain ⟨S,d9,a9⟩:=S.tell e9 n9
  obtain ⟨q6,cap6,rfl,_⟩:=id hv'
  refine gS_ ?_
  refine S.stB (b:=b9) fun w10 S=>?_
  refine gg_ ?_
  refine S.lit (vm (c:=tyL (g.tys[i].lay (yq g.tys[i].regs (g.lv+zS (g.tys.take i)))) q6 cap6) hv') fun b15 w14 S=>?_
  refine S.ap (m':=1) (Sl.blk (S.blk b15)) (fun v15 w15 S=>?_) (by omega)
  have S:=((S.drop b15).drop b9).reGh
  refine gg_ ?_
  have hvo:=S.row1 v15
  refine S.st (b:=b6) (fun w16 S=>?_) (by simp) hvo
  refine gg_ ?_
  rw [show ((i : Int)+1)=((i+1 : Nat) : Int) by omega,show g.lv+zS (g.tys.take i)+yb g.tys[i].regs=g.lv+zS (g.tys.take (i+1)) by rw [hkt];omega]
  refine hK7 (i+1,v15,s'.or sn,xs++tyL (g.tys[i].lay (yq g.tys[i].regs (g.lv+zS (g.tys.take i)))) q6 cap6) _ ⟨hlt2,?_,hab.or' a9,S⟩ (by show g.tys.length - (i+1)<g.tys.length - i;omega)
  show RowOf 5 (TyC (s'.or sn)) (xs++tyL _ q6 cap6) ((xk g.tys g.lv).take (i+1))
  rw [List.take_succ_eq_append_getElem (by rw [xy];exact hlt2),aaI hlt2,hrT]
  exact (hrow.mono fun c x hx=>TyG.up hx).snoc rfl (TyG.up hv')
 have hie : i=g.tys.length:=by omega
 subst hie
 rw [List.take_length] at *
 have hlk : (xk g.tys g.lv).take g.tys.length=xk g.tys g.lv:=List.take_of_length_le (by rw [xy];exact Nat.le_refl _)
 rw [hlk] at hrow
 clear hK7 K7 hge hi
 generalize hbase : g.lv+zS g.tys=base
 have hb0 : 0≤base∧base≤8+48*512:=by omega
 have key : ∀ q,atC u (g.pts.take q)≤8*1024∧0≤atC u (g.pts.take q):=fun q=>by
  have e1:=acO (u:=u) (l:=g.pts.take q) fun p hp=>(hptN p (List.mem_of_mem_take hp)).2
  have e2:=(ZN (u:=u) (l:=g.pts) (fun p hp=>(hptN p hp).1) q).1
  rw [List.length_take] at e1
  omega
 refine zk (ι:=Nat × Value) (fun i=>[.int .i64 (base+atC u (g.pts.take i.1)),.int .i64 (i.1 : Nat)]) (fun i w'=>i.1≤g.pts.length∧StX noX w (r.or s') w' [.row i.2 3 1 i.1 (ints ((atK u g.pts base).take i.1)),.row vl 31 5 g.tys.length xs,.cell b6 (rgL g.lv g.pts.length 0 vl i.2) 41,.cell b5 [.string g.name,.int .i64 g.lv,.slice qo g.outs.length capo,.int .i64 g.pn,.slice qt g.tys.length capt,.slice qn g.nms.length capn,.slice qp g.pts.length capp] 58,
   .cell b4 rgZ 41,.cell b2 [.slice p0 u.ss.length cap0,.slice (some ⟨bf,of,none⟩) u.fs.length capf,.int .i64 u.mn] 25]) (fun i=>g.pts.length - i.1) (0,.slice none 0 0) (by simp [atC]) ⟨Nat.zero_le _,by
    have:=S.swap
    simpa [ints] using this⟩ ?_
 clear S
 rintro ⟨q,va⟩ d w20 ⟨hq,S⟩ K17 hK17
 simp only at hq S ⊢
 simp only [List.getD_cons_zero,List.getD_cons_succ]
 have hkq:=key q
 refine gg_ ?_
 refine zj (fun hlt2=>?_) (fun hge=>?_)
 ·have hlt2 : q<g.pts.length:=by omega
  obtain ⟨bp,op,cp,rfl,hcp,hpc,hpo⟩:=h4.sl.get (by decide) hlt2
  obtain ⟨x1,x2,x3,x4,x5,y1,y2,y3,y4,y5,rfl,_⟩:=kk hpc
  have hNi:=hptN g.pts[q] (List.getElem_mem hlt2)
  have hpt:=hpg g.pts[q] (List.getElem_mem hlt2)
  have htk:=J0 (u:=u) hlt2
  have hati:=aez (u:=u) (c:=base) hlt2
  have hlen : q<(atK u g.pts base).length:=by rw [jU];exact hlt2
  have lop : Ob r fun w=>w.cell? ⟨bp,op+q*21,none⟩=some (.int .u8 g.pts[q].op):=by simpa using hpo 0 _ rfl
  have lfn : Ob r fun w=>w.cell? ⟨bp,op+q*21+16,none⟩=some (.int .i64 g.pts[q].fn):=hpo 16 _ rfl
  have hins : ints ((atK u g.pts base).take (q+1))=ints ((atK u g.pts base).take q) ++ [.int .i64 (if ptN u g.pts[q]=0 then -1 else base+atC u (g.pts.take q))]:=by
   rw [List.take_succ_eq_append_getElem hlen,hati,ints,ints,List.map_append];rfl
  generalize g.pts[q]=p at hNi hpt htk lop lfn hins
  refine zp (fun s w'=>s = [.int .i64 (if p.op=4 then 1 else 0)]∧w'=w20) (fun K9 hK9=>?_) ?_
  ·refine gg_ ?_
   refine zm (by simpa using S.at lop) ?_
   refine gg_ ?_
   refine zj (fun ho=>hK9 _ _ ⟨by rw [if_pos ho],rfl⟩) (fun ho=>hK9 _ _ ⟨by rw [if_neg ho],rfl⟩)
  rintro _ w20 ⟨rfl,rfl⟩ d18
  refine zp (fun s w'=>s = [.int .i64 (ptN u p)]∧Ext w20 w') (fun K9 hK9=>?_) ?_
  ·refine gg_ ?_
   refine zm (by simpa using S.at lop) ?_
   refine gg_ ?_
   refine zj (fun ho=>?_) (fun ho=>?_)
   ·have hcc:=jr hpt ho
    have hlt3 : p.fn.toNat<u.fs.length:=by omega
    obtain ⟨bf2,of2,cf2,hbe,hcf2,hgc2,hfo2⟩:=hfn.sl.get (by decide) hlt3
    cases hbe
    obtain ⟨vo',vt',vn',vp',rfl,_⟩:=hgc2
    have S:=S.go (Ext.drew _)
    refine gg_ ?_
    refine zm (by simpa using S.at lfn) ?_
    refine gg_ ?_
    refine zm (v:=.int .i64 u.fs[p.fn.toNat].lv) (by simpa using S.at (hfo2 1 _ rfl)) ?_
    refine hK9 _ _ ⟨by rw [ptN,if_neg (by omega),if_pos ho,aaE,List.getElem?_eq_getElem hlt3],Ext.drew _⟩
   ·refine hK9 _ _ ⟨by rw [ptN,if_neg ho],Ext.refl _⟩
  rintro _ w21 ⟨rfl,e21⟩ d19
  have S:=S.go e21
  simp only [List.getD_cons_zero]
  refine zp (fun _ w'=>∃ va',StX noX w (r.or s') w' [.row va' 3 1 (q+1) (ints ((atK u g.pts base).take (q+1))),.row vl 31 5 g.tys.length xs,.cell b6 (rgL g.lv g.pts.length 0 vl va') 41,.cell b5 [.string g.name,.int .i64 g.lv,.slice qo g.outs.length capo,.int .i64 g.pn,.slice qt g.tys.length capt,.slice qn g.nms.length capn,.slice (some ⟨bp,op,none⟩) g.pts.length capp] 58,
   .cell b4 rgZ 41,.cell b2 [.slice p0 u.ss.length cap0,.slice (some ⟨bf,of,none⟩) u.fs.length capf,.int .i64 u.mn] 25]) (fun K29 hK29=>?_) ?_
  ·refine gg_ ?_
   refine zj (fun hz=>?_) (fun hz=>?_)
   ·rw [if_pos hz] at hins
    refine gg_ ?_
    refine S.lit (e:=3) (cs:=[.int .i64 (-1)]) (by kernel_rfl) fun b15 w14 S=>?_
    refine S.ap (m':=1) (Sl.blk (S.blk b15)) (fun v15 w15 S=>?_) (by omega)
    have S:=S.drop b15
    have hvo:=S.row1 v15
    refine gg_ ?_
    refine S.st (b:=b6) (fun w16 S=>?_) (by simp) hvo
    rw [← hins] at S
    exact hK29 [] _ ⟨v15,S⟩
   ·rw [if_neg hz] at hins
    refine gg_ ?_
    refine S.lit (e:=3) (cs:=[.int .i64 (base+atC u (g.pts.take q))]) (by kernel_rfl) fun b15 w14 S=>?_
    refine S.ap (m':=1) (Sl.blk (S.blk b15)) (fun v15 w15 S=>?_) (by omega)
    have S:=S.drop b15
    have hvo:=S.row1 v15
    refine gg_ ?_
    refine S.st (b:=b6) (fun w16 S=>?_) (by simp) hvo
    rw [← hins] at S
    exact hK29 [] _ ⟨v15,S⟩
  clear S
  rintro _ w22 ⟨va',S⟩ d22
  refine gg_ ?_
  rw [show ((q : Int)+1)=((q+1 : Nat) : Int) by omega,show base+atC u (g.pts.take q)+ptN u p=base+atC u (g.pts.take (q+1)) by rw [htk];omega]
  exact hK17 (q+1,va') _ ⟨hlt2,S⟩ (by show g.pts.length - (q+1)<g.pts.length - q;omega)
 have hqe : q=g.pts.length:=by omega
 subst hqe
 have hak : (atK u g.pts base).take g.pts.length=atK u g.pts base:=List.take_of_length_le (by rw [jU];exact Nat.le_refl _)
 rw [hak] at S
 rw [List.take_length]
 obtain ⟨pl,cl,rfl,_⟩:=S.rowS vl
 obtain ⟨pa,ca,rfl,_⟩:=S.rowS va
 refine gg_ ?_
 refine S.st (b:=b6) fun w23 S=>?_
 refine S.ldB (b:=b6) ?_ rfl
 refine S.stB (b:=b4) fun w24 S=>?_
 refine S.ceB (b:=b4) ?_ rfl
 have hrA : RowOf 1 kp (ints (atK u g.pts base)) (atK u g.pts base):=⟨by rw [y9,Nat.mul_one],fun j hj=>by
  show _=_
  rw [Nat.mul_one,ints,← List.map_drop,← List.map_take,List.drop_eq_getElem_cons hj];rfl⟩
 have hal : (atK u g.pts base).length=g.pts.length:=jU _ _ _
 have hll : (xk g.tys g.lv).length=g.tys.length:=xy _ _
 obtain ⟨s2,S,hsA,_,habA⟩:=S.doneRow hrA (by decide) hal.symm
 obtain ⟨s3,S,hsL,_,habL⟩:=S.doneRow hrow (by decide) hll.symm
 have habA : Above w s2:=fun b o ho=>(habA b o ho).resolve_right id
 have habL : Above w s3:=fun b o ho=>(habL b o ho).resolve_right id
 have hgA : SlG 1 ((s'.or s2).or s3) kp (.slice pa g.pts.length ca) (allD u g).at':=by
  have:=hsA.cells (s:=(s'.or s2).or s3)
  rw [← hbase] at this
  exact this
 have hgL : SlG 5 ((s'.or s2).or s3) (TyC ((s'.or s2).or s3)) (.slice pl g.tys.length cl) (allD u g).tys:=hsL.up' inferInstance fun c x hx=>TyG.up hx
 have hN : New w ((s'.or s2).or s3) w24:=StX.newOf (q:=(s'.or s2).or s3) S ((hab.or' habA).or' habL)
 have hv : (.agg ((rgL g.lv g.pts.length 0 (.slice pl g.tys.length cl) (.slice pa g.pts.length ca)).set 2 (.int .i64 (base+atC u g.pts))).toArray : Value) = .agg #[.int .i64 (allD u g).lv,.int .i64 (allD u g).pt,.int .i64 (allD u g).ct,.slice pl g.tys.length cl,.slice pa g.pts.length ca]:=by
  rw [← hbase];rfl
 have:=h _ _ _ S.ext hN ⟨_,_,rfl,hgL,hgA⟩
 rw [← hv] at this
 exact this
end Go.Proofs
end
section
namespace Go.Proofs
open Go.Sh
set_option maxRecDepth 100000
set_option linter.unusedSimpArgs false
set_option linter.unusedVariables false
theorem ad1 {u : UnD} {fn q : Int} {v : Value} {w : World} {r : Gh} {K : Value→World→Prop} (hr : Holds r w) (hu : UnG r v u)
  (h : ∀ v' s w',Ext w w'→New w s w'→RgG s v' (zG (zn u fn q)).1→K (.tuple #[v',.int .i64 (zG (zn u fn q)).2]) w') : ze Tryz.prog Tryz.Y7 #[v,.int .i64 fn,.int .i64 q] w K:=by
 refine Tryz.ac9 ?_
 unfold Tryz.Vr
 have hu0:=hu
 obtain ⟨p0,cap0,vf,rfl,_,_,hst,hsl,hfn⟩:=hu
 obtain ⟨qf,capf,rfl,_,_⟩:=hfn.sl.shape
 have S:=St.start hr
 refine S.box fun b3 w1 S=>?_
 have S : StX noX w r w1 [.cell b3 [.slice p0 u.ss.length cap0,.slice qf u.fs.length capf,.int .i64 u.mn] 25]:=S
 refine S.al fun b6 w2 S=>?_
 refine S.ldB (b:=b3) ?_ rfl
 refine V9 S.holds hu0 fun w3 e3=>?_
 have S:=S.go e3
 refine gp_ ?_
 refine c_b (fun hc=>?_) (fun hc=>?_)
 ·have hc : isU u fn q=false:=by simpa using hc
  have hz : zG (zn u fn q)=(kM,2):=by rw [V3 hc];rfl
  rw [hz] at h
  refine zo (cs:=rgZ.toArray) (by kernel_rfl) ?_
  refine S.stB (b:=b6) fun w4 S=>?_
  refine S.ceB (b:=b6) ?_ rfl
  exact h _ nothing _ S.ext New.nothing RgG.zero
 have hc : isU u fn q=true:=by simpa using hc
 obtain ⟨hM,hf0,hlt,hql,hT⟩:=qJ hc
 rw [hT] at h
 refine S.ldB (b:=b3) ?_ rfl
 refine adn hM hf0 hlt S.holds hu0 fun v' s w4 e4 n4 hd=>?_
 obtain ⟨S,d4,a4⟩:=S.tell e4 n4
 have hd0:=hd
 obtain ⟨q1,c1,q2,c2,rfl,g1,g2⟩:=hd.shape
 refine S.al fun b8 w5 S=>?_
 refine S.stB (b:=b8) fun w6 S=>?_
 generalize allD u u.fs[fn.toNat]=rd at h hd0 S
 refine gg_ ?_
 refine zj (fun hbig=>?_) (fun hsm=>?_)
 ·have hz : zG (rd,0)=(kM,5):=by rw [zG,if_pos rfl,if_pos (show 512<rd.ct by omega)]
  rw [hz] at h
  refine zo (cs:=rgZ.toArray) (by kernel_rfl) ?_
  refine S.stB (b:=b6) fun w7 S=>?_
  refine S.ceB (b:=b6) ?_ rfl
  exact h _ nothing _ S.ext New.nothing RgG.zero
 ·have hz : zG (rd,0)=(rd,0):=by rw [zG,if_pos rfl,if_neg (show ¬ 512<rd.ct by omega)]
  rw [hz] at h
  refine S.ldB (b:=b8) ?_ rfl
  refine S.stB (b:=b6) fun w7 S=>?_
  refine S.ceB (b:=b6) ?_ rfl
  exact h _ s _ S.ext (S.newOf a4) hd0
theorem ac2 {u : UnD} {d : RgD} {p : PlD} {c : List Value} {v vd : Value} {w : World} {r : Gh} {K : Value→World→Prop} (hr : Holds r w) (hu : UnG r v u) (hd : RgG r vd d) (hdl : d.tys.length≤maxLen) (hp : PlG r c p) {x : TyD × List Int} (hx : zW u.ss d.tys p=some x)
  (h : ∀ q cap vg w',Ext w w'→TyG r (tyV x.1 q cap) x.1→K (.tuple #[tyV x.1 q cap,vg,.bool true]) w') : ze Tryz.prog Tryz.Zs #[v,vd,.agg c.toArray] w K:=by
 refine Tryz.abq ?_
 unfold Tryz.X2
 obtain ⟨p0,cap0,vf,rfl,_,_,hst,hsl,hfn⟩:=hu
 obtain ⟨q1,c1,q2,c2,rfl,g1,g2⟩:=hd.shape
 obtain ⟨vq,rfl,hl⟩:=id hp
 obtain ⟨qs,caps,rfl,_,_⟩:=hl.sl.shape
 have S:=St.start hr
 refine S.box fun b3 w1 S=>?_
 have S : StX noX w r w1 [.cell b3 [.slice p0 u.ss.length cap0,vf,.int .i64 u.mn] 25]:=S
 refine S.box fun b4 w2 S=>?_
 refine S.box fun b5 w3 S=>?_
 have S : StX noX w r w3 [.cell b5 [.int .i64 p.l,.slice qs p.ps.length caps] 47,.cell b4 (rgL d.lv d.pt d.ct (.slice q1 d.tys.length c1) (.slice q2 d.at'.length c2)) 41,.cell b3 [.slice p0 u.ss.length cap0,vf,.int .i64 u.mn] 25]:=S
 refine S.al fun b6 w4 S=>?_
 refine gg_ ?_
 refine QB S.holds hst (xg g1) hdl hp (fun w5 hn e5=>by rw [hx] at hn;cases hn) fun t how q cap vg s w5 hs e5 n5 htt hsl=>?_
 rw [hx] at hs
 cases hs
 obtain ⟨S,d5,a5⟩:=S.tell e5 n5
 obtain ⟨_,_,rfl,_,_⟩:=hsl.shape
 refine gS_ ?_
 refine S.stB (b:=b6) fun w6 S=>?_
 refine S.ceB (b:=b6) ?_ rfl
 exact h q cap _ _ S.ext htt
end Go.Proofs
end
section
namespace Go.Proofs
open Go.Sh
set_option maxRecDepth 100000
set_option linter.unusedSimpArgs false
set_option linter.unusedVariables false
set_option maxHeartbeats 1000000 in
theorem J9 {u : UnD} {fn q : Int} {p : PtD} {d : RgD} {v vd : Value} {w : World} {r : Gh} {K : Value→World→Prop} (hr : Holds r w) (hu : UnG r v u) (hd : RgG r vd d) (hdl : d.tys.length≤maxLen) (hf0 : 0≤fn) (hlt : fn.toNat<u.fs.length) (hq0 : 0≤q) (hql : q.toNat<u.fs[fn.toNat].pts.length) (hpe : u.fs[fn.toNat].pts[q.toNat]=p)
  (hqd : q.toNat<d.at'.length) {x : TyD × List Int} (hx : zW u.ss d.tys p.fr=some x)
  (h : ∀ v' s w',Ext w w'→New w s w'→TyG (r.or s) v' (.mk 4 p.mu (atL d.at' q) 0 [x.1])→K v' w') : ze Tryz.prog Tryz.qF #[v,.int .i64 fn,.int .i64 q,vd] w K:=by
 refine Tryz.QY ?_
 unfold Tryz.Zv
 have hu0:=hu
 have hd0:=hd
 obtain ⟨p0,cap0,vf,rfl,_,_,hst,hsl,hfn⟩:=hu
 obtain ⟨qf,capf,rfl,_,_⟩:=hfn.sl.shape
 have hfl : u.fs.length≤9223372036854775807:=hfn.few
 obtain ⟨bf,of,cf,rfl,hcf,hgc,hfo⟩:=hfn.sl.get (by decide) hlt
 obtain ⟨vo,vt,vn,vp,rfl,h1,h2,h3,h4⟩:=id hgc
 obtain ⟨qp,capp,rfl,_,_⟩:=h4.sl.shape
 have hptl : u.fs[fn.toNat].pts.length≤9223372036854775807:=h4.few
 have lpts : Ob r fun w=>w.cell? ⟨bf,of+fn.toNat*7+6,none⟩=some (.slice qp u.fs[fn.toNat].pts.length capp):=hfo 6 _ rfl
 obtain ⟨bp,op,cp,rfl,hcp,hpc,hpo⟩:=h4.sl.get (by decide) hql
 rw [hpe] at hpc
 obtain ⟨z1,z2,z3,z4,z5,t1,t2,t3,t4,t5,rfl,hp0⟩:=kk hpc
 obtain ⟨_,_,_,_,_,hE,k1,k2,k3,k4,k5⟩:=id hp0
 cases hE
 have hpfr : PlG r [.int .i64 p.fr.l,.slice z5 p.fr.ps.length t5] p.fr:=⟨_,rfl,k5⟩
 obtain ⟨q1,c1,q2,c2,rfl,g1,g2⟩:=hd.shape
 have S:=St.start hr
 refine S.box fun b4 w1 S=>?_
 have S : StX noX w r w1 [.cell b4 [.slice p0 u.ss.length cap0,.slice (some ⟨bf,of,none⟩) u.fs.length capf,.int .i64 u.mn] 25]:=S
 refine S.box fun b7 w2 S=>?_
 have S : StX noX w r w2 [.cell b7 (rgL d.lv d.pt d.ct (.slice q1 d.tys.length c1) (.slice q2 d.at'.length c2)) 41,.cell b4 [.slice p0 u.ss.length cap0,.slice (some ⟨bf,of,none⟩) u.fs.length capf,.int .i64 u.mn] 25]:=S
 refine S.al fun b8 w3 S=>?_
 refine gg_ ?_
 refine zm (S.at lpts) ?_
 refine gg_ ?_
 refine zq (n:=21) hcp (fun j v hj=>S.at (hpo j v hj)) ?_
 refine S.al fun b9 w4 S=>?_
 refine S.stB (b:=b9) fun w5 S=>?_
 refine S.ldB (b:=b4) ?_ rfl
 refine S.ldB (b:=b7) ?_ rfl
 refine gg_ ?_
 refine S.ldN (b:=b9) ?_
 refine ac2 (p:=p.fr) S.holds hu0 hd0 hdl hpfr hx fun qx cx vg w6 e6 htx=>?_
 have S:=S.go e6
 refine gS_ ?_
 refine S.al fun b10 w7 S=>?_
 refine S.stB (b:=b10) fun w8 S=>?_
 have S:=S.go (Ext.drew _)
 obtain ⟨ba,oa,hqa,hoa⟩:=afG g2 hqd
 cases hqa
 have hat : d.at'[q.toNat]=atL d.at' q:=by rw [atL,List.getD_eq_getElem?_getD,List.getElem?_eq_getElem hqd];rfl
 rw [hat] at hoa
 refine gg_ ?_
 refine zm (v:=.int .i64 (atL d.at' q)) (by simpa using S.at hoa) ?_
 refine S.ldB (b:=b10) ?_ rfl
 refine S.litU (vm (c:=tyL x.1 qx cx) htx) fun b12 w12 S=>?_
 refine zo (cs:=#[.int .u8 4,.bool p.mu,.int .i64 (atL d.at' q),.int .i64 0,.slice (some ⟨b12,0,none⟩) 1 1]) (by kernel_rfl) ?_
 refine S.stB (b:=b8) fun w13 S=>?_
 refine S.ceB (b:=b8) ?_ rfl
 have hm:=S.mine (.cell b12 (tyL x.1 qx cx) 31) (by simp) b12 rfl
 have S:=S.frzAt b12
 refine h _ (one b12 (tyL x.1 qx cx) 31) _ S.ext (S.newOf ?_) (vi htx)
 rintro b o ⟨rfl,_⟩
 exact hm.1.resolve_right id
set_option maxHeartbeats 2000000 in
theorem aaQ {u : UnD} {fn q : Int} {p : PtD} {d : RgD} {v vd : Value} {w : World} {r : Gh} {K : Value→World→Prop} (hM : MayU u) (hr : Holds r w) (hu : UnG r v u) (hd : RgG r vd d) (hf0 : 0≤fn) (hlt : fn.toNat<u.fs.length) (hq0 : 0≤q) (hql : q.toNat<u.fs[fn.toNat].pts.length) (hpe : u.fs[fn.toNat].pts[q.toNat]=p)
  (hqd : q.toNat<d.at'.length) (hpf0 : 0≤p.fn) (hltf : p.fn.toNat<u.fs.length) (hA : u.fs[p.fn.toNat].lv≠0→0≤atL d.at' q∧atL d.at' q≤1000)
  (h : ∀ vl v' s w',Ext w w'→New w s w'→SlG 5 s (TyC s) vl (((u.fs[p.fn.toNat].tys.drop 1).take u.fs[p.fn.toNat].pn.toNat).map (yg (atL d.at' q)))→TyG s v' (yg (atL d.at' q) (u.fs[p.fn.toNat].tys.headD zr))→K (.tuple #[vl,v']) w') : ze Tryz.prog Tryz.jP #[v,.int .i64 fn,.int .i64 q,vd] w K:=by
 refine Tryz.Vs ?_
 unfold Tryz.YI
 obtain ⟨p0,cap0,vf,rfl,_,_,hst,hsl,hfn⟩:=hu
 obtain ⟨qf,capf,rfl,_,_⟩:=hfn.sl.shape
 have hfl : u.fs.length≤9223372036854775807:=hfn.few
 obtain ⟨bf,of,cf,rfl,hcf,hgc,hfo⟩:=hfn.sl.get (by decide) hlt
 obtain ⟨vo,vt,vn,vp,rfl,h1,h2,h3,h4⟩:=id hgc
 obtain ⟨qp,capp,rfl,_,_⟩:=h4.sl.shape
 have hptl : u.fs[fn.toNat].pts.length≤9223372036854775807:=h4.few
 have lpts : Ob r fun w=>w.cell? ⟨bf,of+fn.toNat*7+6,none⟩=some (.slice qp u.fs[fn.toNat].pts.length capp):=hfo 6 _ rfl
 obtain ⟨bp,op,cp,rfl,hcp,hpc,hpo⟩:=h4.sl.get (by decide) hql
 rw [hpe] at hpc
 obtain ⟨z1,z2,z3,z4,z5,t1,t2,t3,t4,t5,rfl,hp0⟩:=kk hpc
 have lfn : Ob r fun w=>w.cell? ⟨bp,op+q.toNat*21+16,none⟩=some (.int .i64 p.fn):=hpo 16 _ rfl
 have hHf:=hM.hd hltf
 have hff:=hHf.fine hM.ok
 obtain ⟨bf2,of2,cf2,hbe,hcf2,hgc2,hfo2⟩:=hfn.sl.get (by decide) hltf
 cases hbe
 generalize u.fs[p.fn.toNat]=f at h hHf hff hgc2 hA
 obtain ⟨vo',vt',vn',vp',rfl,m1,m2,m3,m4⟩:=hgc2
 obtain ⟨qo',capo',rfl,_,_⟩:=m1.sl.shape
 obtain ⟨qt',capt',rfl,_,hct2⟩:=m2.sl.shape
 obtain ⟨qn',capn',rfl,_,_⟩:=m3.sl.shape
 obtain ⟨qp',capp',rfl,_,_⟩:=m4.sl.shape
 have hml : f.tys.length≤9223372036854775807:=m2.few
 have hpn0:=hHf.pn0;have hpn8:=hHf.pn8;have hpn1:=hHf.pn1;have hlv8:=hHf.lv8
 have htys:=hHf.tys
 obtain ⟨q1,c1,q2,c2,rfl,g1,g2⟩:=hd.shape
 obtain ⟨ba,oa,hqa,hoa⟩:=afG g2 hqd
 cases hqa
 have hat : d.at'[q.toNat]=atL d.at' q:=by rw [atL,List.getD_eq_getElem?_getD,List.getElem?_eq_getElem hqd];rfl
 rw [hat] at hoa
 generalize atL d.at' q=A at h hA hoa
 have hdal:=hqd
 have S:=St.start hr
 refine S.box fun b4 w1 S=>?_
 have S : StX noX w r w1 [.cell b4 [.slice p0 u.ss.length cap0,.slice (some ⟨bf,of,none⟩) u.fs.length capf,.int .i64 u.mn] 25]:=S
 refine S.box fun b7 w2 S=>?_
 have S : StX noX w r w2 [.cell b7 (rgL d.lv d.pt d.ct (.slice q1 d.tys.length c1) (.slice (some ⟨ba,oa,none⟩) d.at'.length c2)) 41,.cell b4 [.slice p0 u.ss.length cap0,.slice (some ⟨bf,of,none⟩) u.fs.length capf,.int .i64 u.mn] 25]:=S
 refine S.al fun b9 w3 S=>?_
 have S:=S.go (Ext.drew _)
 refine gg_ ?_
 refine zm (S.at lpts) ?_
 refine gg_ ?_
 refine zm (S.at lfn) ?_
 refine gg_ ?_
 refine zq (n:=7) hcf2 (fun j v hj=>S.at (hfo2 j v hj)) ?_
 refine S.alU fun b10 w4 S=>?_
 refine S.stB (b:=b10) fun w5 S=>?_
 have hfacts : ∀ (j : Nat) (hj : j<f.tys.length),(j : Int)≤f.pn→isB f.tys[j]=true∧(∀ x ∈ f.tys[j].regs,0≤x∧x<8)∧(f.tys[j].regs≠[]→0≤A∧A≤1000):=fun j hj hjp=>by
  have hB:=(hff.all _ (List.getElem_mem hj)).is hff.few
  have hrT : regsT f.tys[j]=f.tys[j].regs:=by rw [regsT,hB];rfl
  have hr:=ZO htys hj (by omega)
  rw [hrT] at hr
  refine ⟨hB,fun x hx=>by have:=hr x hx;omega,fun hne=>?_⟩
  obtain ⟨x,hx⟩:=List.exists_mem_of_ne_nil _ hne
  have:=hr x hx
  exact hA (by omega)
 have hpsl : ((f.tys.drop 1).take f.pn.toNat).length=f.pn.toNat:=by rw [List.length_take,List.length_drop];omega
 have S:=S.ownNil 31 5
 have S : StX noX w (r.or nothing) w5 [.row (.slice none 0 0) 31 5 0 [],.cell b10 [.string f.name,.int .i64 f.lv,.slice qo' f.outs.length capo',.int .i64 f.pn,.slice qt' f.tys.length capt',.slice qn' f.nms.length capn',.slice qp' f.pts.length capp'] 58,.cell b9 yL 31,
  .cell b7 (rgL d.lv d.pt d.ct (.slice q1 d.tys.length c1) (.slice (some ⟨ba,oa,none⟩) d.at'.length c2)) 41,.cell b4 [.slice p0 u.ss.length cap0,.slice (some ⟨bf,of,none⟩) u.fs.length capf,.int .i64 u.mn] 25]:=S.to _
 refine zk (ι:=Nat × Value × Gh × List Value) (fun i=>[i.2.1,.int .i64 ((i.1 : Nat)+1 : Int)]) (fun i w'=>i.1≤f.pn.toNat∧RowOf 5 (TyC i.2.2.1) i.2.2.2 ((((f.tys.drop 1).take f.pn.toNat).take i.1).map (yg A))∧Above w i.2.2.1∧
  StX noX w (r.or i.2.2.1) w' [.row i.2.1 31 5 i.1 i.2.2.2,.cell b10 [.string f.name,.int .i64 f.lv,.slice qo' f.outs.length capo',.int .i64 f.pn,.slice qt' f.tys.length capt',.slice qn' f.nms.length capn',.slice qp' f.pts.length capp'] 58,.cell b9 yL 31,
  .cell b7 (rgL d.lv d.pt d.ct (.slice q1 d.tys.length c1) (.slice (some ⟨ba,oa,none⟩) d.at'.length c2)) 41,.cell b4 [.slice p0 u.ss.length cap0,.slice (some ⟨bf,of,none⟩) u.fs.length capf,.int .i64 u.mn] 25]) (fun i=>f.pn.toNat - i.1) (0,.slice none 0 0,nothing,[]) rfl ⟨Nat.zero_le _,by simpa using RowOf.nil,Above.no,S⟩ ?_
 clear S
 rintro ⟨i,vp,s',xs⟩ dd w10 ⟨hi,hrow,hab,S⟩ K6 hK6
 simp only at hi hrow hab S ⊢
 simp only [List.getD_cons_zero,List.getD_cons_succ]
 refine gg_ ?_
 refine zj (fun hlt2=>?_) (fun hge=>?_)
 ·have hlt2 : i<f.pn.toNat:=by omega
  have hj : i+1<f.tys.length:=by omega
  obtain ⟨bt,ot,ct,rfl,hct3,htc,hto⟩:=xg m2.sl (i+1) hj
  obtain ⟨q4,cap4,rfl,ht4⟩:=zV hto
  obtain ⟨hB1,hB2,hB3⟩:=hfacts (i+1) hj (by omega)
  have S:=S.go (Ext.drew _)
  refine gg_ ?_
  refine zq (n:=5) hct3 (fun j v hj=>by rw [show ((i : Int)+1).toNat=i+1 by omega];exact S.at (htc j v hj)) ?_
  refine gg_ ?_
  refine zm (v:=.int .i64 A) (by simpa using S.at hoa) ?_
  refine XI 48 (Qe hB1) hB1 hB2 hB3 S.holds ht4.up fun v5 sn w13 e13 n13 h13=>?_
  rw [← J7 hB1] at h13
  obtain ⟨S,d13,a13⟩:=S.tell e13 n13
  obtain ⟨q6,cap6,rfl,_⟩:=id h13
  refine S.lit (vm (c:=tyL (yg A f.tys[i+1]) q6 cap6) h13) fun b15 w14 S=>?_
  refine S.ap (m':=1) (Sl.blk (S.blk b15)) (fun v15 w15 S=>?_) (by omega)
  have S:=(S.drop b15).reGh
  refine gg_ ?_
  rw [show ((i : Int)+1+1)=(((i+1 : Nat) : Int)+1) by omega]
  refine hK6 (i+1,v15,s'.or sn,xs++tyL (yg A f.tys[i+1]) q6 cap6) _ ⟨hlt2,?_,hab.or' a13,S⟩ (by show f.pn.toNat - (i+1)<f.pn.toNat - i;omega)
  show RowOf 5 (TyC (s'.or sn)) (xs++tyL (yg A f.tys[i+1]) q6 cap6) ((((f.tys.drop 1).take f.pn.toNat).take (i+1)).map (yg A))
  have hel : ((f.tys.drop 1).take f.pn.toNat)[i]'(by rw [hpsl];exact hlt2)=f.tys[i+1]:=by
   rw [List.getElem_take,List.getElem_drop];congr 1;omega
  rw [List.take_succ_eq_append_getElem (by rw [hpsl];exact hlt2),List.map_append,hel]
  exact (hrow.mono fun c x hx=>TyG.up hx).snoc rfl (TyG.up h13)
 have hie : i=f.pn.toNat:=by omega
 subst hie
 rw [List.take_of_length_le (by rw [hpsl];exact Nat.le_refl _)] at hrow
 obtain ⟨s2,S,hsl2,_,hab2⟩:=S.doneRow hrow (by decide) (by rw [List.length_map,hpsl])
 have hab2 : Above w s2:=fun b o ho=>(hab2 b o ho).resolve_right id
 have hpos : 0<f.tys.length:=by omega
 have hhd : f.tys.headD zr=f.tys[0]:=by rw [List.headD_eq_head?_getD,List.head?_eq_getElem?,List.getElem?_eq_getElem hpos,Option.getD_some]
 obtain ⟨bt,ot,ct,rfl,hct3,htc,hto⟩:=xg m2.sl 0 hpos
 obtain ⟨q4,cap4,rfl,ht4⟩:=zV hto
 obtain ⟨hB1,hB2,hB3⟩:=hfacts 0 hpos (by omega)
 have S:=S.go (Ext.drew _)
 refine gg_ ?_
 refine zq (n:=5) hct3 (fun j v hj=>by simpa using S.at (htc j v hj)) ?_
 refine gg_ ?_
 refine zm (v:=.int .i64 A) (by simpa using S.at hoa) ?_
 refine XI 48 (Qe hB1) hB1 hB2 hB3 S.holds ht4.up fun v5 sn w13 e13 n13 h13=>?_
 rw [← J7 hB1] at h13
 obtain ⟨S,d13,a13⟩:=S.tell e13 n13
 obtain ⟨q6,cap6,rfl,_⟩:=id h13
 refine S.stB (b:=b9) fun w14 S=>?_
 refine S.ceB (b:=b9) ?_ rfl
 rw [hhd] at h
 exact h _ _ ((s'.or s2).or sn) _ S.ext (StX.newOf (q:=(s'.or s2).or sn) S ((hab.or' hab2).or' a13)) (hsl2.up' inferInstance fun c x hx=>TyG.up hx) (TyG.up h13)
end Go.Proofs
end
section
namespace Go.Proofs
open Go.Sh
set_option maxRecDepth 100000
set_option linter.unusedSimpArgs false
set_option linter.unusedVariables false
theorem QV {u : UnD} {fn q op : Int} (h : q<0∨isU u fn q=false) : atE u fn q op=2:=by
 rw [atE]
 by_cases hq : q<0
 ·rw [if_pos hq]
 ·rw [if_neg hq,V3 (h.resolve_left hq)]
  rfl
theorem QW {u : UnD} {fn q op : Int} (hq : 0≤q) (h : (zG (zn u fn q)).2≠0) : atE u fn q op=(zG (zn u fn q)).2:=by
 rw [atE,if_neg (by omega),if_pos h]
theorem aaa {u : UnD} {fn q op : Int} {p : PtD} (hq : 0≤q) (h : (zG (zn u fn q)).2=0) (hp : jt u fn q=some p) : atE u fn q op=if p.op≠op then 130 else 0:=by
 rw [atE,if_neg (by omega),if_neg (by omega),show (u.fs[fn.toNat]?.bind fun g=>g.pts[q.toNat]?)=some p from hp]
theorem aaR {u : UnD} {fn q : Int} (h : atE u fn q 4≠0) : vL u fn q=(zr,atE u fn q 4):=by rw [vL,if_pos h]
theorem aaS {u : UnD} {fn q : Int} (h : atE u fn q 7≠0) : jX u fn q=([],zr,atE u fn q 7):=by rw [jX,if_pos h]
theorem afu {u : UnD} {fn q : Int} {p : PtD} (h : atE u fn q 4=0) (hp : jt u fn q=some p) {x : TyD × List Int} (hx : zW u.ss (zn u fn q).1.tys p.fr=some x) : vL u fn q=(.mk 4 p.mu (atL (zn u fn q).1.at' q) 0 [x.1],0):=by
 rw [vL,if_neg (by omega),hp]
 dsimp only
 rw [yy,hx]
theorem afv {u : UnD} {fn q : Int} {p : PtD} (h : atE u fn q 7=0) (hp : jt u fn q=some p) (hl : p.fn.toNat<u.fs.length) : jX u fn q=(((u.fs[p.fn.toNat].tys.drop 1).take u.fs[p.fn.toNat].pn.toNat).map (yg (atL (zn u fn q).1.at' q)),yg (atL (zn u fn q).1.at' q) (u.fs[p.fn.toNat].tys.headD zr),0):=by
 rw [jX,if_neg (by omega),hp]
 dsimp only
 rw [List.getElem?_eq_getElem hl]
end Go.Proofs
end
section
namespace Go.Sh
open Go.RowKit
section
variable {P : Program} {X : Nat→Prop} {w0 w : World} {r : Gh} {L : List Asr} {α : Type} {sz n : Nat} {R : List Value→α→Prop} {l : List α} {e : TypeId} {p : Option Addr} {cap : Nat}
end
end Go.Sh
namespace Go.Proofs
open Go.Sh
set_option maxRecDepth 100000
set_option linter.unusedSimpArgs false
set_option linter.unusedVariables false
end Go.Proofs
end
section
namespace Go.Proofs
open Go.Sh
set_option maxRecDepth 100000
set_option linter.unusedSimpArgs false
set_option linter.unusedVariables false
abbrev bare (t : TyD) : TyD:=t.mapR qB
theorem Va {a b : TyD} (h : bare a=bare b) : a.k=b.k∧a.m=b.m∧a.st=b.st∧TyD.mapsR qB a.of=TyD.mapsR qB b.of:=by
 cases a;cases b
 simp only [bare,TyD.mapR,TyD.mk.injEq] at h
 exact ⟨h.1,h.2.1,h.2.2.2.1,h.2.2.2.2⟩
theorem af2 {a b u : TyD} (h : bare a=bare b) (ha : a.of = [u]) : ∃ x,b.of = [x]∧bare u=bare x:=by
 have h4:=(Va h).2.2.2
 rw [ha,TyD.mapsR,TyD.mapsR] at h4
 cases hb : b.of with
 |nil=>rw [hb,TyD.mapsR] at h4;cases h4
 |cons x l=>
  rw [hb,TyD.mapsR] at h4
  simp only [List.cons.injEq] at h4
  cases l with
  |nil=>exact ⟨x,rfl,h4.1⟩
  |cons y l=>rw [TyD.mapsR] at h4;cases h4.2
theorem afw {a b : TyD} (h : bare a=bare b) (ha : a.of = []) : b.of = []:=by
 have h4:=(Va h).2.2.2
 rw [ha,TyD.mapsR] at h4
 cases hb : b.of with
 |nil=>rfl
 |cons x l=>rw [hb,TyD.mapsR] at h4;cases h4
theorem af3 {a b u x : TyD} (hk : a.k=b.k) (hm : a.m=b.m) (hs : a.st=b.st) (hr : a.k≠4→a.re=b.re) (ha : a.of = [u]) (hb : b.of = [x]) (h : bare u=bare x) : bare a=bare b:=by
 show a.mapR qB=b.mapR qB
 rw [ZL ha,ZL hb,hk,hm,hs,show u.mapR qB=x.mapR qB from h]
 by_cases h4 : b.k=4
 ·rw [if_pos h4,if_pos h4];rfl
 ·rw [if_neg h4,if_neg h4,hr (by omega)]
theorem afx {s : Int} : ∀ (n : Nat) {t : TyD} {l : List Int},zy s n t=true→bare (t.lay l)=bare t:=by
 intro n
 induction n with
 |zero=>intro t l h;cases h
 |succ n ih=>
  intro t l h
  obtain ⟨hk1,hk2,hk3⟩:=afF t l
  rcases zF h with ⟨ho,hk⟩|⟨u,ho,hu,hk⟩
  ·show (t.lay l).mapR qB=t.mapR qB
   rw [jT (adS ho),jT ho,hk1,hk2,hk3,if_neg (by omega),if_neg (by omega),Zg ho]
   show TyD.mk _ _ (if t.k=4 then _ else _) _ _=_
   rw [if_neg (by omega)]
  ·refine af3 hk1 hk2 hk3 (fun h4=>?_) (VV ho) ho (ih hu)
   rw [hk1] at h4
   rw [kP ho]
   show (if t.k=4 then _ else _)=_
   rw [if_neg h4]
abbrev abV (s : TyD × Int) : TyD × Int:=(bare s.1,s.2)
theorem ad2 {ss : List StD} {t t' : TyD} {k : Int} (h : bare t=bare t') (hf : Fine ss t) : (zD ss t k).map abV=(zD ss t' k).map abV:=by
 obtain ⟨h1,h2,h3,_⟩:=Va h
 have hin : ∀ n : Int,(t.of.head?.map fun u=>(u,n)).map abV=(t'.of.head?.map fun u=>(u,n)).map abV:=by
  intro n
  rcases hf.cases with ⟨ho,_⟩|⟨u,ho,_⟩
  ·rw [ho,afw h ho]
  ·obtain ⟨x,ho',hx⟩:=af2 h ho
   rw [ho,ho']
   show some (bare u,n)=some (bare x,n)
   rw [hx]
 unfold zD
 rw [← h1,← h2,← h3]
 split
 ·exact hin 1
 split
 ·exact hin _
 split
 ·rfl
 ·rfl
theorem aab {ss : List StD} (hg : xj ss) : ∀ (l : List Int) {t t' : TyD},bare t=bare t'→Fine ss t→(zB ss l t).map (fun x=>bare x.1)=(zB ss l t').map fun x=>bare x.1
 |[],t,t',h,_=>by show some (bare t)=some (bare t');rw [h]
 |k::l,t,t',h,hf=>by
  have hs:=ad2 (k:=k) h hf
  rw [zB,zB]
  cases h1 : zD ss t k with
  |none=>
   rw [h1] at hs
   cases h2 : zD ss t' k with
   |none=>rfl
   |some s'=>rw [h2] at hs;cases hs
  |some s=>
   rw [h1] at hs
   cases h2 : zD ss t' k with
   |none=>rw [h2] at hs;cases hs
   |some s'=>
    rw [h2] at hs
    have hb : bare s.1=bare s'.1:=congrArg Prod.fst (Option.some.inj hs)
    have:=aab hg l hb (VY hg hf h1)
    show ((zB ss l s.1).map _).map _=((zB ss l s'.1).map _).map _
    rw [Option.map_map,Option.map_map]
    exact this
theorem abh {ss : List StD} : ∀ (l : List Int) (t : TyD) (m : Int),(goG ss l (t,m)).map (·.1)=(zB ss l t).map (·.1)
 |[],t,m=>rfl
 |k::l,t,m=>by
  have hs : (stepG ss (t,m) k).map (·.1)=(zD ss t k).map (·.1):=by
   unfold stepG zD
   split
   ·cases t.of.head?<;>rfl
   split
   ·cases t.of.head?<;>rfl
   split
   ·cases (zd ss t.st)[k.toNat]?<;>rfl
   ·rfl
  rw [goG,zB]
  cases h1 : stepG ss (t,m) k with
  |none=>
   rw [h1] at hs
   cases h2 : zD ss t k with
   |none=>rfl
   |some s'=>rw [h2] at hs;cases hs
  |some s=>
   rw [h1] at hs
   cases h2 : zD ss t k with
   |none=>rw [h2] at hs;cases hs
   |some s'=>
    rw [h2] at hs
    have hb : s.1=s'.1:=Option.some.inj hs
    have:=abh (ss:=ss) l s.1 s.2
    show (goG ss l s).map _=((zB ss l s'.1).map _).map _
    rw [Option.map_map,← hb]
    exact this
theorem ad3 {u : UnD} {g : GrD} {fn : Nat} (hM : MayU u) (hH : HeadU u fn g) {p : PlD} (ho : (zi u.ss g.tys p).2.2=true) :
  ∃ x,zW u.ss (xk g.tys g.lv) p=some x∧bare x.1=bare (zi u.ss g.tys p).1:=by
 have hfin:=hH.fine hM.ok
 have h8:=Xp ho
 unfold zi at ho ⊢
 cases hb : (if p.l<0 then none else g.tys[p.l.toNat]?).bind fun t=>goG u.ss p.ps (t,0) with
 |none=>rw [hb] at ho;cases ho
 |some s=>
  split at hb
  ·cases hb
  ·rename_i hl0
   cases ht : g.tys[p.l.toNat]? with
   |none=>rw [ht] at hb;cases hb
   |some t=>
    rw [ht] at hb
    have hb : goG u.ss p.ps (t,0)=some s:=hb
    obtain ⟨hlt,rfl⟩:=List.getElem?_eq_some_iff.1 ht
    have hft : Fine u.ss g.tys[p.l.toNat]:=hfin.all _ (List.getElem_mem hlt)
    have hB:=hft.is hfin.few
    have hlow : ∀ i (hi : i<g.tys.length),∀ x ∈ yq (regsT g.tys[i]) (g.lv+zS (g.tys.take i)),-1≤x:=fun i hi x hx=>by
     obtain ⟨j,hj,rfl⟩:=List.getElem_of_mem hx
     rw [qG] at hj
     rw [aaH hj]
     have:=(Zh ((regsT g.tys[i]).take j)).1
     have:=hH.lv0
     have:=qH (g.tys.take i)
     split<;>omega
    have hmay : ∀ i (hi : i<g.tys.length),zK u.ss (g.tys[i].lay (yq (regsT g.tys[i]) (g.lv+zS (g.tys.take i))))=true:=fun i hi=>by
     have hf:=hfin.all _ (List.getElem_mem hi)
     have hrT : regsT g.tys[i]=g.tys[i].regs:=by rw [regsT,hf.is hfin.few];rfl
     rw [zK,hM.ok]
     have:=afc (l:=yq (regsT g.tys[i]) (g.lv+zS (g.tys.take i))) 48 hf (by rw [qG,hrT];exact Nat.le_refl _) (hlow i hi)
     rw [this];rfl
    have hO : yx u.ss (xk g.tys g.lv) p=true:=by
     simp only [yx,Bool.and_eq_true,decide_eq_true_eq,List.all_eq_true,xy]
     refine ⟨⟨⟨by omega,by omega⟩,h8⟩,hM.ok,fun x hx=>?_⟩
     obtain ⟨i,hi,rfl⟩:=List.getElem_of_mem hx
     rw [xy] at hi
     rw [aaI hi]
     exact hmay i hi
    have hget : (xk g.tys g.lv).getD p.l.toNat zr=g.tys[p.l.toNat].lay (yq (regsT g.tys[p.l.toNat]) (g.lv+zS (g.tys.take p.l.toNat))):=by
     rw [List.getD_eq_getElem?_getD,List.getElem?_eq_getElem (by rw [xy];exact hlt),Option.getD_some,aaI hlt]
    rw [zW,if_pos hO,hget]
    have e1:=aab hfin.good p.ps (afx (l:=yq (regsT g.tys[p.l.toNat]) (g.lv+zS (g.tys.take p.l.toNat))) 48 hB).symm hft
    have e2:=abh (ss:=u.ss) p.ps g.tys[p.l.toNat] 0
    rw [hb] at e2
    cases hw : zB u.ss p.ps g.tys[p.l.toNat] with
    |none=>rw [hw] at e2;cases e2
    |some y=>
     rw [hw] at e1 e2
     have e2 : s.1=y.1:=Option.some.inj e2
     cases hw2 : zB u.ss p.ps (g.tys[p.l.toNat].lay (yq (regsT g.tys[p.l.toNat]) (g.lv+zS (g.tys.take p.l.toNat)))) with
     |none=>rw [hw2] at e1;cases e1
     |some z=>
      rw [hw2] at e1
      have e1 : bare y.1=bare z.1:=Option.some.inj e1
      exact ⟨z,rfl,by show bare z.1=bare s.1;rw [← e1,e2]⟩
end Go.Proofs
end
section
namespace Go.Proofs
open Go.Sh
set_option maxRecDepth 100000
set_option linter.unusedSimpArgs false
set_option linter.unusedVariables false
theorem afy {s : Int} : ∀ (n : Nat) {t : TyD},zy s n t=true→t.few:=by
 intro n
 induction n with
 |zero=>intro t h;cases h
 |succ n ih=>
  intro t h
  cases t with
  |mk k m re st of=>
   rcases zF h with ⟨ho,_⟩|⟨u,ho,hu,_⟩
   ·have ho : of = []:=ho
    subst ho;exact ⟨Nat.zero_le _,trivial⟩
   ·have ho : of = [u]:=ho
    subst ho;exact ⟨by simp,ih hu,trivial⟩
theorem af4 {s : Int} {f : Int→Int} : ∀ (n : Nat) {t : TyD},zy s n t=true→(t.mapR f).few:=by
 intro n
 induction n with
 |zero=>intro t h;cases h
 |succ n ih=>
  intro t h
  rcases zF h with ⟨ho,_⟩|⟨u,ho,hu,_⟩
  ·rw [jT ho];exact ⟨Nat.zero_le _,trivial⟩
  ·rw [ZL ho];exact ⟨by simp,ih hu,trivial⟩
theorem ac3 {a : Int} {t : TyD} (h : isB t=true) : (yg a t).few:=by
 rw [J7 h];exact af4 48 h
set_option maxHeartbeats 4000000 in
theorem XP {u : UnD} {n q : Int} {v : Value} {w : World} {r : Gh} {K : Value→World→Prop} (hr : Holds r w) (hu : UnG r v u)
  (h : ∀ w',Ext w w'→K (.bool true) w') : ze Tryz.prog Tryz.jw #[v,.int .i64 n,.int .i64 q] w K:=by
 refine Tryz.Xc ?_
 unfold Tryz.jB
 have hu0:=hu
 obtain ⟨p0,cap0,vf,rfl,_,_,hst,hsl,hfn⟩:=hu
 obtain ⟨qf,capf,rfl,_,_⟩:=hfn.sl.shape
 have S:=St.start hr
 refine S.box fun b3 w1 S=>?_
 have S : StX noX w r w1 [.cell b3 [.slice p0 u.ss.length cap0,.slice qf u.fs.length capf,.int .i64 u.mn] 25]:=S
 refine S.ldB (b:=b3) ?_ rfl
 refine acX S.holds hu0 fun x w2 e2=>?_
 have S:=S.go e2
 refine gp_ ?_
 refine c_b (fun _=>ka fun w3 e3=>h _ (S.go e3).ext) (fun _=>?_)
 refine S.ldB (b:=b3) ?_ rfl
 refine vV S.holds hu0 fun v7 s7 w4 e4 n4 hb=>?_
 obtain ⟨S,d4,a4⟩:=S.tell e4 n4
 obtain ⟨p7,cap7,rfl,_⟩:=id hb
 refine gS_ ?_
 refine S.al fun b7 w5 S=>?_
 refine S.stB (b:=b7) fun w6 S=>?_
 refine S.ldB (b:=b3) ?_ rfl
 refine Ym S.holds hu0.up fun vl v10 s10 w7 e7 n7 hsl10 hc=>?_
 obtain ⟨S,d7,a7⟩:=S.tell e7 n7
 obtain ⟨p10,cap10,rfl,_⟩:=id hc
 obtain ⟨pl,capl,rfl,_,_⟩:=hsl10.shape
 refine gS_ ?_
 refine S.al fun b10 w8 S=>?_
 refine S.stB (b:=b10) fun w9 S=>?_
 refine gp_ ?_
 refine yw (c:=!isU u n q) (fun _ K2 hK2=>?_) fun w10 e10=>?_
 ·refine S.ldB (b:=b3) ?_ rfl
  refine V9 S.holds hu0.up fun w11 e11=>?_
  refine gp_ ?_
  exact hK2 _ e11
 have S:=S.go e10
 refine c_b (fun hbad=>?_) (fun hok=>?_)
 ·have hbad : q<0∨isU u n q=false:=by
   simp only [Bool.or_eq_true,decide_eq_true_eq,Bool.not_eq_true'] at hbad;exact hbad
  have hB : vL u n q=(zr,2):=by rw [aaR (by rw [QV hbad];decide),QV hbad]
  have hC : jX u n q=([],zr,2):=by rw [aaS (by rw [QV hbad];decide),QV hbad]
  have hzf : TyD.few zr:=⟨Nat.zero_le _,trivial⟩
  rw [hB] at hb S ⊢
  rw [hC] at hc hsl10 S ⊢
  dsimp only at hb hc hsl10 S ⊢
  refine gp_ ?_
  refine zg (c:=true) (fun _ K2 hK2=>by refine gg_ ?_;exact hK2) ?_
  refine zg (c:=true) (fun _ K2 hK2=>by refine gg_ ?_;exact hK2) ?_
  refine zs (c:=true) (fun _ K2 hK2=>?_) fun w11 e11=>?_
  ·refine S.ldB (b:=b7) ?_ rfl
   refine zo (cs:=#[.int .u8 0,.bool false,.int .i64 0,.int .i64 0,.slice none 0 0]) (by kernel_rfl) ?_
   exact yB _ zr (Nat.le_refl _) hzf S.holds hb.up zI fun w12 e12=>hK2 _ e12
  have S:=S.go e11
  refine zs (c:=true) (fun _ K2 hK2=>?_) fun w12 e12=>?_
  ·refine S.ldB (b:=b10) ?_ rfl
   refine zo (cs:=#[.int .u8 0,.bool false,.int .i64 0,.int .i64 0,.slice none 0 0]) (by kernel_rfl) ?_
   exact yB _ zr (Nat.le_refl _) hzf S.holds hc.up zI fun w12 e12=>hK2 _ e12
  have S:=S.go e12
  refine zs (c:=true) (fun _ K2 hK2=>ka fun w13 e13=>hK2 _ e13) fun w14 e14=>?_
  have:=h _ (S.go e14).ext
  simpa using this
 have hok : 0≤q∧isU u n q=true:=by
  simp only [Bool.or_eq_false_iff,decide_eq_false_iff_not,Bool.not_eq_false'] at hok
  exact ⟨by omega,hok.2⟩
 obtain ⟨hq0,hiu⟩:=hok
 refine S.ldB (b:=b3) ?_ rfl
 refine ad1 S.holds hu0.up fun v12 s12 w11 e11 n11 hd=>?_
 obtain ⟨S,d11,a11⟩:=S.tell e11 n11
 have hd0:=hd
 obtain ⟨q1,c1,q2,c2,rfl,g1,g2⟩:=hd.shape
 refine gS_ ?_
 refine S.al fun b12 w12 S=>?_
 refine S.stB (b:=b12) fun w13 S=>?_
 refine gp_ ?_
 refine zj (fun hne=>?_) (fun heq=>?_)
 ·have hB : vL u n q=(zr,(zG (zn u n q)).2):=by rw [aaR (by rw [QW hq0 hne];exact hne),QW hq0 hne]
  have hC : jX u n q=([],zr,(zG (zn u n q)).2):=by rw [aaS (by rw [QW hq0 hne];exact hne),QW hq0 hne]
  rw [hB] at hb S ⊢
  rw [hC] at hc hsl10 S ⊢
  dsimp only at hb hc hsl10 S ⊢
  generalize (zG (zn u n q)).2=e
  refine gp_ ?_
  refine zg (c:=true) (fun _ K2 hK2=>by refine gg_ ?_;simpa using hK2) ?_
  refine zg (c:=true) (fun _ K2 hK2=>by refine gg_ ?_;exact hK2) ?_
  refine zs (c:=true) (fun _ K2 hK2=>ka fun w13 e13=>hK2 _ e13) fun w14 e14=>?_
  have:=h _ (S.go e14).ext
  simpa using this
 have heq : (zG (zn u n q)).2=0:=by omega
 obtain ⟨_,hf1,hct⟩:=aeG heq
 obtain ⟨hM,hf0,hlt,hql,hT⟩:=qJ hiu
 have hqn : q.toNat<u.fs[n.toNat].pts.length:=by omega
 obtain ⟨p,hpe⟩ : ∃ p,u.fs[n.toNat].pts[q.toNat]=p:=⟨_,rfl⟩
 have hpa : jt u n q=some p:=by rw [jt,List.getElem?_eq_getElem hlt,Option.bind_some,List.getElem?_eq_getElem hqn,hpe]
 have hgm:=List.getElem_mem hlt
 have hpg : yj u u.fs[n.toNat] p=true:=hM.pts _ hgm p (by rw [← hpe];exact List.getElem_mem _)
 obtain ⟨bf,of,cf,rfl,hcf,hgc,hfo⟩:=hfn.sl.get (by decide) hlt
 obtain ⟨vo,vt,vn,vp,rfl,m1,m2,m3,m4⟩:=id hgc
 obtain ⟨qp,capp,rfl,_,_⟩:=m4.sl.shape
 have lpts : Ob r fun w=>w.cell? ⟨bf,of+n.toNat*7+6,none⟩=some (.slice qp u.fs[n.toNat].pts.length capp):=hfo 6 _ rfl
 obtain ⟨bp,op,cp,rfl,hcp,hpc,hpo⟩:=m4.sl.get (by decide) hqn
 rw [hpe] at hpc
 obtain ⟨z1,z2,z3,z4,z5,t1,t2,t3,t4,t5,rfl,hp0⟩:=kk hpc
 have lop : Ob r fun w=>w.cell? ⟨bp,op+q.toNat*21,none⟩=some (.int .u8 p.op):=by simpa using hpo 0 _ rfl
 have hfl : u.fs.length≤9223372036854775807:=hfn.few
 have hptl : u.fs[n.toNat].pts.length≤9223372036854775807:=m4.few
 refine gg_ ?_
 refine zm (S.at lpts) ?_
 refine gg_ ?_
 refine zm (S.at lop) ?_
 have hH:=hM.hd hlt
 have hdl : (zn u n q).1.tys.length≤maxLen:=by have:=J5 (u:=u) (fn:=n) (q:=q);simp only [maxLen];omega
 have hqd : q.toNat<(zn u n q).1.at'.length:=by rw [hT,show (allD u u.fs[n.toNat],(0 : Int)).1=allD u u.fs[n.toNat] from rfl,J4.2];exact hqn
 rw [hf1] at hd0
 refine zp (fun _ w'=>Ext w13 w') (fun K54 hK54=>?_) ?_
 ·refine gg_ ?_
  refine zj (fun h4=>?_) (fun h4=>?_)
  ·have hB : vL u n q=(zr,130):=by
    have e : atE u n q 4=130:=by rw [aaa hq0 heq hpa,if_pos h4]
    rw [aaR (by rw [e];decide),e]
   rw [hB] at hb S ⊢
   dsimp only at hb S ⊢
   refine gp_ ?_
   refine yw (c:=false) (fun _ K2 hK2=>?_) fun w14 e14=>?_
   ·refine S.ldB (b:=b7) ?_ rfl
    refine zo (cs:=#[.int .u8 0,.bool false,.int .i64 0,.int .i64 0,.slice none 0 0]) (by kernel_rfl) ?_
    refine yB _ zr (Nat.le_refl _) ⟨Nat.zero_le _,trivial⟩ S.holds hb.up zI fun w12 e12=>?_
    refine gp_ ?_
    exact hK2 _ e12
   exact c_f (by simp) (hK54 [] _ e14)
  ·have h4 : p.op=4:=by omega
   have h2:=afq hpg
   rw [ptG] at h2
   simp only [h4,Int.reduceEq,if_false,if_true,Bool.and_eq_true,decide_eq_true_eq,isK] at h2
   obtain ⟨x,hx,hxb⟩:=ad3 hM hH h2.1.1.1.2
   have hx : zW u.ss (zn u n q).1.tys p.fr=some x:=by rw [hT];exact hx
   obtain ⟨hxf,hx32⟩:=YD hx
   have hB:=afu (by rw [aaa hq0 heq hpa,if_neg (by omega)]) hpa hx
   rw [hB] at hb S ⊢
   dsimp only at hb S ⊢
   refine gp_ ?_
   refine yw (c:=false) (fun _ K2 hK2=>?_) fun w14 e14=>?_
   ·have S:=S.go (Ext.drew _)
    refine S.ldB (b:=b7) ?_ rfl
    refine S.ldB (b:=b3) ?_ rfl
    refine S.ldB (b:=b12) ?_ rfl
    refine J9 (d:=(zn u n q).1) S.holds hu0.up (by rw [hf1];exact hd0.up) hdl hf0 hlt hq0 hqn hpe hqd hx fun v9 s9 w9 e9 n9 h9=>⟨e9,?_⟩
    obtain ⟨S,_,_⟩:=S.tell e9 n9
    have hTf : TyD.few (.mk 4 p.mu (atL (zn u n q).1.at' q) 0 [x.1]):=⟨by simp,afy 48 (hxf.is hx32),trivial⟩
    refine yB _ _ (Nat.le_refl _) hTf S.holds hb.up h9.up fun w15 e15=>?_
    refine gp_ ?_
    exact hK2 _ (e9.trans e15)
   exact c_f (by simp) (hK54 [] _ ((Ext.drew _).trans e14))
 rintro _ w20 e20 d20
 have S:=S.go e20
 refine gg_ ?_
 refine zj (fun h7=>?_) (fun h7=>?_)
 ·have hC : jX u n q=([],zr,130):=by
   have e : atE u n q 7=130:=by rw [aaa hq0 heq hpa,if_pos h7]
   rw [aaS (by rw [e];decide),e]
  rw [hC] at hc hsl10 S ⊢
  dsimp only at hc hsl10 S ⊢
  refine gp_ ?_
  refine zg (c:=true) (fun _ K2 hK2=>by refine gg_ ?_;exact hK2) ?_
  refine zs (c:=true) (fun _ K2 hK2=>?_) fun w11 e11=>?_
  ·refine S.ldB (b:=b10) ?_ rfl
   refine zo (cs:=#[.int .u8 0,.bool false,.int .i64 0,.int .i64 0,.slice none 0 0]) (by kernel_rfl) ?_
   exact yB _ zr (Nat.le_refl _) ⟨Nat.zero_le _,trivial⟩ S.holds hc.up zI fun w12 e12=>hK2 _ e12
  have S:=S.go e11
  refine zs (c:=true) (fun _ K2 hK2=>ka fun w13 e13=>hK2 _ e13) fun w14 e14=>?_
  have:=h _ (S.go e14).ext
  simpa using this
 have h7 : p.op=7:=by omega
 obtain ⟨hpf0,hpfl⟩:=jr hpg h7
 have hltf : p.fn.toNat<u.fs.length:=by omega
 have hptn : ptN u p=u.fs[p.fn.toNat].lv:=by rw [ptN,if_neg (by omega),if_pos h7,aaE,List.getElem?_eq_getElem hltf]
 have hlow:=aeH hiu hq0 hpa
 rw [hptn] at hlow
 have hHf:=hM.hd hltf
 have hA : u.fs[p.fn.toNat].lv≠0→0≤atL (zn u n q).1.at' q∧atL (zn u n q).1.at' q≤1000:=fun hne=>by
  have:=hlow hne;have:=hHf.lv0;omega
 have hC:=afv (by rw [aaa hq0 heq hpa,if_neg (by omega)]) hpa hltf
 rw [hC] at hc hsl10 S ⊢
 dsimp only at hc hsl10 S ⊢
 have hff:=hHf.fine hM.ok
 have hBl : ∀ x ∈ u.fs[p.fn.toNat].tys,isB x=true:=fun x hx=>(hff.all _ hx).is hff.few
 have hpn0:=hHf.pn0;have hpn1:=hHf.pn1
 have hxf : TyD.few (yg (atL (zn u n q).1.at' q) (u.fs[p.fn.toNat].tys.headD zr)):=by
  have hpos : 0<u.fs[p.fn.toNat].tys.length:=by omega
  rw [List.headD_eq_head?_getD,List.head?_eq_getElem?,List.getElem?_eq_getElem hpos,Option.getD_some]
  exact ac3 (hBl _ (List.getElem_mem hpos))
 have hlf : ∀ x ∈ ((u.fs[p.fn.toNat].tys.drop 1).take u.fs[p.fn.toNat].pn.toNat).map (yg (atL (zn u n q).1.at' q)),TyD.few x:=fun x hx=>by
  obtain ⟨y,hy,rfl⟩:=List.mem_map.1 hx
  exact ac3 (hBl y (List.mem_of_mem_drop (List.mem_of_mem_take hy)))
 have hll : (((u.fs[p.fn.toNat].tys.drop 1).take u.fs[p.fn.toNat].pn.toNat).map (yg (atL (zn u n q).1.at' q))).length≤8:=by
  have:=hHf.pn8
  rw [List.length_map,List.length_take,List.length_drop];omega
 refine S.ldB (b:=b3) ?_ rfl
 refine S.ldB (b:=b12) ?_ rfl
 refine aaQ (d:=(zn u n q).1) hM S.holds hu0.up (by rw [hf1];exact hd0.up) hf0 hlt hq0 hqn hpe hqd hpf0 hltf hA fun vl2 v9 s9 w21 e21 n21 hsl2 h9=>?_
 obtain ⟨S,d21,a21⟩:=S.tell e21 n21
 obtain ⟨p9,cap9,rfl,_⟩:=id h9
 obtain ⟨pm,capm,rfl,_,_⟩:=hsl2.shape
 generalize ((u.fs[p.fn.toNat].tys.drop 1).take u.fs[p.fn.toNat].pn.toNat).map (yg (atL (zn u n q).1.at' q))=L at hsl10 hsl2 hlf hll S ⊢
 refine gS_ ?_
 refine S.al fun b16 w22 S=>?_
 refine S.stB (b:=b16) fun w23 S=>?_
 refine gp_ ?_
 refine zh (c:=false) (fun _ K2 hK2=>by refine gg_ ?_;simpa using hK2) ?_
 refine yw (c:=false) (fun _ K2 hK2=>?_) fun w24 e24=>?_
 ·refine S.ldB (b:=b10) ?_ rfl
  refine S.ldB (b:=b16) ?_ rfl
  refine yB _ _ (Nat.le_refl _) hxf S.holds hc.up h9.up fun w12 e12=>?_
  refine gp_ ?_
  exact hK2 _ e12
 have S:=S.go e24
 refine c_f (by simp) ?_
 obtain ⟨r2,hr2,sa,sb⟩ : ∃ r2,Holds r2 w24∧SlG 5 r2 (TyC r2) (.slice pl L.length capl) L∧SlG 5 r2 (TyC r2) (.slice pm L.length capm) L:=
  ⟨_,S.holds,hsl10.up' inferInstance fun c x hx=>TyG.up hx,hsl2.up' inferInstance fun c x hx=>TyG.up hx⟩
 have e0:=S.ext
 clear S
 have S:=St.start hr2
 refine zk (ι:=Nat) (fun i=>[.int .i64 (i : Nat)]) (fun i w'=>i≤L.length∧StX noX w24 r2 w' []) (fun i=>L.length - i) 0 rfl ⟨Nat.zero_le _,S⟩ ?_
 clear S
 rintro i d w27 ⟨hi,S⟩ K6 hK6
 rw [List.getD_cons_zero]
 refine gg_ ?_
 refine zj (fun hlt2=>?_) (fun hge=>?_)
 ·have hlt2 : i<L.length:=by omega
  obtain ⟨ba,oa,ca,hea,hca,hta,hoa⟩:=sa.get (by decide) hlt2
  cases hea
  obtain ⟨bb,ob,cb,heb,hcb,htb,hob⟩:=sb.get (by decide) hlt2
  cases heb
  have S:=S.go (Ext.drew _)
  refine gg_ ?_
  refine zq (n:=5) hca (fun j v hj=>by rw [Int.toNat_natCast];exact S.at (hoa j v hj)) ?_
  refine gg_ ?_
  refine zq (n:=5) hcb (fun j v hj=>by rw [Int.toNat_natCast];exact S.at (hob j v hj)) ?_
  refine yB _ _ (Nat.le_refl _) (hlf _ (List.getElem_mem hlt2)) S.holds hta htb fun w28 e28=>?_
  refine gp_ ?_
  refine c_f (by simp) ?_
  refine gg_ ?_
  exact hK6 (i+1) _ ⟨hlt2,S.go e28⟩ (by omega)
 exact ka fun w3 e3=>h _ (e0.trans (S.go e3).ext)
end Go.Proofs
end
section
namespace Go.Proofs.YtngfnikkdhbajaaGreat.openG
open Go.Sh Go.ChangeShapes Go.WideShapes Go.ChangeAt Go.RowKit
set_option maxRecDepth 100000
set_option linter.unusedSimpArgs false
set_option linter.unusedVariables false
theorem own : ownKnob Tryz.prog.godebug=none:=by kernel_rfl
theorem af5 : laidOutB Tryz.prog=true:=by kernel_rfl
theorem agW : mapsRowed Tryz.prog=true:=by kernel_rfl
theorem ag7 : ((List.range Tryz.prog.types.size).all fun t=>match Tryz.prog.underlying t with|some (.slice e)=>decide (0<Tryz.prog.cellsOf e)|_=>true)=true:=by kernel_rfl
theorem jv : Tryz.prog.underlying 3=some (.int .i64):=by kernel_rfl
theorem ag8 : Tryz.prog.underlying 2=some (.int .i64):=by kernel_rfl
theorem ag9 : Tryz.prog.underlying 82=some (.int .i64):=by kernel_rfl
theorem ad4 : Tryz.prog.underlying 4=some .bool:=by kernel_rfl
theorem aha : Tryz.prog.underlying 9=some .string:=by kernel_rfl
theorem uTk : Tryz.prog.underlying 28=some (.int .u8):=by kernel_rfl
theorem uOk : Tryz.prog.underlying 48=some (.int .u8):=by kernel_rfl
theorem uPo : Tryz.prog.underlying 44=some (.int .u8):=by kernel_rfl
theorem sTy : Tryz.prog.underlying 29=some (.slice 31)∧Tryz.prog.cellsOf 31=5:=⟨by kernel_rfl,by kernel_rfl⟩
theorem sFd : Tryz.prog.underlying 62=some (.slice 105)∧Tryz.prog.cellsOf 105=6:=⟨by kernel_rfl,by kernel_rfl⟩
theorem sSt : Tryz.prog.underlying 22=some (.slice 64)∧Tryz.prog.cellsOf 64=2:=⟨by kernel_rfl,by kernel_rfl⟩
theorem sGr : Tryz.prog.underlying 23=some (.slice 58)∧Tryz.prog.cellsOf 58=7:=⟨by kernel_rfl,by kernel_rfl⟩
theorem sOu : Tryz.prog.underlying 54=some (.slice 134)∧Tryz.prog.cellsOf 134=2:=⟨by kernel_rfl,by kernel_rfl⟩
theorem sSs : Tryz.prog.underlying 55=some (.slice 9)∧Tryz.prog.cellsOf 9=1:=⟨by kernel_rfl,by kernel_rfl⟩
theorem sPt : Tryz.prog.underlying 56=some (.slice 53)∧Tryz.prog.cellsOf 53=21:=⟨by kernel_rfl,by kernel_rfl⟩
theorem sOp : Tryz.prog.underlying 51=some (.slice 50)∧Tryz.prog.cellsOf 50=4:=⟨by kernel_rfl,by kernel_rfl⟩
theorem sSp : Tryz.prog.underlying 45=some (.slice 82)∧Tryz.prog.cellsOf 82=1:=⟨by kernel_rfl,by kernel_rfl⟩
theorem aTy : ∃ fs,Tryz.prog.underlying 31=some (.struct fs)∧fs.toList.map (·.type) = [28,4,3,3,29]:=xx (by kernel_rfl)
theorem aFd : ∃ fs,Tryz.prog.underlying 105=some (.struct fs)∧fs.toList.map (·.type) = [9,31]:=xx (by kernel_rfl)
theorem aSt : ∃ fs,Tryz.prog.underlying 64=some (.struct fs)∧fs.toList.map (·.type) = [9,62]:=xx (by kernel_rfl)
theorem aPl : ∃ fs,Tryz.prog.underlying 47=some (.struct fs)∧fs.toList.map (·.type) = [3,45]:=xx (by kernel_rfl)
theorem aOp : ∃ fs,Tryz.prog.underlying 50=some (.struct fs)∧fs.toList.map (·.type) = [48,2,47]:=xx (by kernel_rfl)
theorem aPt : ∃ fs,Tryz.prog.underlying 53=some (.struct fs)∧fs.toList.map (·.type) = [44,47,50,50,51,9,47,4,3,3,3,3,3]:=xx (by kernel_rfl)
theorem aOu : ∃ fs,Tryz.prog.underlying 134=some (.struct fs)∧fs.toList.map (·.type) = [3,3]:=xx (by kernel_rfl)
theorem aGr : ∃ fs,Tryz.prog.underlying 58=some (.struct fs)∧fs.toList.map (·.type) = [9,3,54,3,29,55,56]:=xx (by kernel_rfl)
theorem aUn : ∃ fs,Tryz.prog.underlying 25=some (.struct fs)∧fs.toList.map (·.type) = [22,23,3]:=xx (by kernel_rfl)
theorem af6 : aeo Tryz.prog [25,22,64,62,105,9,31,28,4,3,29,23,58,54,134,55,56,53,44,
 47,45,82,50,48,2,51]=true:=by kernel_rfl
theorem j5 {α : Type} {f : α→Dat} {G : α→Prop} {d : Dat} {T e : TypeId} {n : Nat} (u : Tryz.prog.underlying T=some (.slice e)∧Tryz.prog.cellsOf e=n) (h : d.ok Tryz.prog T) (hf : ∀ x : Dat,SizeOf.sizeOf x<SizeOf.sizeOf d→x.ok Tryz.prog e→∃ t,x=f t∧G t) :
  ∃ l : List α,d = .sl n (l.map f)∧l.length≤maxLen∧∀ t ∈ l,G t:=by
 obtain ⟨es,rfl,hl,hk⟩:=agn u.1 h
 obtain ⟨l,rfl,hg⟩:=acB (f:=f) (G:=G) es fun x hx=>hf x (by
  have:=List.sizeOf_lt_of_mem hx
  simp only [Dat.sl.sizeOf_spec];omega) (hk x hx)
 exact ⟨l,by rw [u.2],by simpa using hl,hg⟩
theorem agX : ∀ (n : Nat) (d : Dat),SizeOf.sizeOf d≤n→d.ok Tryz.prog 31→∃ t : TyD,d=t.dat:=by
 intro n
 induction n with
 |zero=>intro d h _;cases d<;>simp at h
 |succ n ih=>
  intro d hs h
  obtain ⟨ds,rfl,e0⟩:=kT aTy h
  obtain ⟨d0,ds,rfl,h0,e1⟩:=zA e0
  obtain ⟨d1,ds,rfl,h1,e2⟩:=zA e1
  obtain ⟨d2,ds,rfl,h2,e3⟩:=zA e2
  obtain ⟨d3,ds,rfl,h3,e4⟩:=zA e3
  obtain ⟨d4,ds,rfl,h4,e5⟩:=zA e4
  obtain rfl:=kU e5
  obtain ⟨k,rfl,_⟩:=yu uTk h0
  obtain ⟨m,rfl⟩:=acA ad4 h1
  obtain ⟨re,rfl,_⟩:=yu jv h2
  obtain ⟨st,rfl,_⟩:=yu jv h3
  obtain ⟨l,rfl,_,_⟩:=j5 (f:=TyD.dat) (G:=fun _=>True) sTy h4 fun x hx hk=>by
   obtain ⟨t,ht⟩:=ih x (by
    simp only [Dat.agg.sizeOf_spec,List.cons.sizeOf_spec] at hs
    omega) hk
   exact ⟨t,ht,trivial⟩
  exact ⟨.mk k m re st l,by rw [TyD.dat,TyD.dats_map]⟩
theorem aeL {d : Dat} (h : d.ok Tryz.prog 31) : ∃ t : TyD,d=t.dat∧True:=by
 obtain ⟨t,ht⟩:=agX _ d (Nat.le_refl _) h
 exact ⟨t,ht,trivial⟩
theorem QG {d : Dat} (h : d.ok Tryz.prog 9) : ∃ s : ByteArray,d = .str s∧True:=by
 obtain ⟨s,hs,_⟩:=afO aha h
 exact ⟨s,hs,trivial⟩
theorem af7 {n : Int} (h : (Lit.int .i64 n).wf=true) : aaB n:=by have:=aep h;exact ⟨this.1,by omega⟩
theorem agB {d : Dat} (h : d.ok Tryz.prog 82) : ∃ n : Int,d=Dat.int .i64 n∧aaB n:=by
 obtain ⟨n,hn,hw⟩:=yu ag9 h
 exact ⟨n,hn,af7 hw⟩
theorem agY {d : Dat} (h : d.ok Tryz.prog 105) : ∃ f : ByteArray × TyD,d=acw f∧True:=by
 obtain ⟨ds,rfl,e0⟩:=kT aFd h
 obtain ⟨d0,ds,rfl,h0,e1⟩:=zA e0
 obtain ⟨d1,ds,rfl,h1,e2⟩:=zA e1
 obtain rfl:=kU e2
 obtain ⟨s,rfl,_⟩:=QG h0
 obtain ⟨t,rfl,_⟩:=aeL h1
 exact ⟨(s,t),rfl,trivial⟩
theorem agZ {d : Dat} (h : d.ok Tryz.prog 64) : ∃ s : StD,d=s.dat∧True:=by
 obtain ⟨ds,rfl,e0⟩:=kT aSt h
 obtain ⟨d0,ds,rfl,h0,e1⟩:=zA e0
 obtain ⟨d1,ds,rfl,h1,e2⟩:=zA e1
 obtain rfl:=kU e2
 obtain ⟨s,rfl,_⟩:=QG h0
 obtain ⟨l,rfl,_,_⟩:=j5 (f:=acw) (G:=fun _=>True) sFd h1 fun x _ hk=>agY hk
 exact ⟨⟨s,l⟩,rfl,trivial⟩
theorem ad5 {d : Dat} (h : d.ok Tryz.prog 47) : ∃ p : PlD,d=p.dat∧p.ok:=by
 obtain ⟨ds,rfl,e0⟩:=kT aPl h
 obtain ⟨d0,ds,rfl,h0,e1⟩:=zA e0
 obtain ⟨d1,ds,rfl,h1,e2⟩:=zA e1
 obtain rfl:=kU e2
 obtain ⟨n,rfl,_⟩:=yu jv h0
 obtain ⟨l,rfl,hl,hg⟩:=j5 (f:=Dat.int .i64) (G:=aaB) sSp h1 fun x _ hk=>agB hk
 exact ⟨⟨n,l⟩,rfl,hl,hg⟩
theorem ad6 {d : Dat} (h : d.ok Tryz.prog 50) : ∃ o : OpD,d=o.dat∧o.ok:=by
 obtain ⟨ds,rfl,e0⟩:=kT aOp h
 obtain ⟨d0,ds,rfl,h0,e1⟩:=zA e0
 obtain ⟨d1,ds,rfl,h1,e2⟩:=zA e1
 obtain ⟨d2,ds,rfl,h2,e3⟩:=zA e2
 obtain rfl:=kU e3
 obtain ⟨k,rfl,_⟩:=yu uOk h0
 obtain ⟨n,rfl,_⟩:=yu ag8 h1
 obtain ⟨p,rfl,hp⟩:=ad5 h2
 exact ⟨⟨k,n,p⟩,rfl,hp⟩
theorem ag0 {d : Dat} (h : d.ok Tryz.prog 53) : ∃ p : PtD,d=p.dat∧p.ok:=by
 obtain ⟨ds,rfl,e0⟩:=kT aPt h
 obtain ⟨d0,ds,rfl,h0,e1⟩:=zA e0
 obtain ⟨d1,ds,rfl,h1,e2⟩:=zA e1
 obtain ⟨d2,ds,rfl,h2,e3⟩:=zA e2
 obtain ⟨d3,ds,rfl,h3,e4⟩:=zA e3
 obtain ⟨d4,ds,rfl,h4,e5⟩:=zA e4
 obtain ⟨d5,ds,rfl,h5,e6⟩:=zA e5
 obtain ⟨d6,ds,rfl,h6,e7⟩:=zA e6
 obtain ⟨d7,ds,rfl,h7,e8⟩:=zA e7
 obtain ⟨d8,ds,rfl,h8,e9⟩:=zA e8
 obtain ⟨d9,ds,rfl,h9,e10⟩:=zA e9
 obtain ⟨d10,ds,rfl,h10,e11⟩:=zA e10
 obtain ⟨d11,ds,rfl,h11,e12⟩:=zA e11
 obtain ⟨d12,ds,rfl,h12,e13⟩:=zA e12
 obtain rfl:=kU e13
 obtain ⟨op,rfl,_⟩:=yu uPo h0
 obtain ⟨to,rfl,g1⟩:=ad5 h1
 obtain ⟨a,rfl,g2⟩:=ad6 h2
 obtain ⟨b,rfl,g3⟩:=ad6 h3
 obtain ⟨l,rfl,hl,g4⟩:=j5 (f:=OpD.dat) (G:=OpD.ok) sOp h4 fun x _ hk=>ad6 hk
 obtain ⟨s,rfl,_⟩:=QG h5
 obtain ⟨fr,rfl,g6⟩:=ad5 h6
 obtain ⟨mu,rfl⟩:=acA ad4 h7
 obtain ⟨fn,rfl,_⟩:=yu jv h8
 obtain ⟨st,rfl,_⟩:=yu jv h9
 obtain ⟨nx,rfl,_⟩:=yu jv h10
 obtain ⟨el,rfl,_⟩:=yu jv h11
 obtain ⟨tx,rfl,_⟩:=yu jv h12
 exact ⟨⟨op,to,a,b,l,s,fr,mu,fn,st,nx,el,tx⟩,rfl,g1,g2,g3,⟨hl,g4⟩,g6⟩
theorem ag1 {d : Dat} (h : d.ok Tryz.prog 134) : ∃ x : Int × Int,d=adO x∧True:=by
 obtain ⟨ds,rfl,e0⟩:=kT aOu h
 obtain ⟨d0,ds,rfl,h0,e1⟩:=zA e0
 obtain ⟨d1,ds,rfl,h1,e2⟩:=zA e1
 obtain rfl:=kU e2
 obtain ⟨a,rfl,_⟩:=yu jv h0
 obtain ⟨b,rfl,_⟩:=yu jv h1
 exact ⟨(a,b),rfl,trivial⟩
theorem ag2 {d : Dat} (h : d.ok Tryz.prog 58) : ∃ g : GrD,d=g.dat∧g.ok:=by
 obtain ⟨ds,rfl,e0⟩:=kT aGr h
 obtain ⟨d0,ds,rfl,h0,e1⟩:=zA e0
 obtain ⟨d1,ds,rfl,h1,e2⟩:=zA e1
 obtain ⟨d2,ds,rfl,h2,e3⟩:=zA e2
 obtain ⟨d3,ds,rfl,h3,e4⟩:=zA e3
 obtain ⟨d4,ds,rfl,h4,e5⟩:=zA e4
 obtain ⟨d5,ds,rfl,h5,e6⟩:=zA e5
 obtain ⟨d6,ds,rfl,h6,e7⟩:=zA e6
 obtain rfl:=kU e7
 obtain ⟨s,rfl,_⟩:=QG h0
 obtain ⟨lv,rfl,_⟩:=yu jv h1
 obtain ⟨lo,rfl,g2,_⟩:=j5 (f:=adO) (G:=fun _=>True) sOu h2 fun x _ hk=>ag1 hk
 obtain ⟨pn,rfl,_⟩:=yu jv h3
 obtain ⟨lt,rfl,g4,_⟩:=j5 (f:=TyD.dat) (G:=fun _=>True) sTy h4 fun x _ hk=>aeL hk
 obtain ⟨ln,rfl,g5,_⟩:=j5 (f:=Dat.str) (G:=fun _=>True) sSs h5 fun x _ hk=>QG hk
 obtain ⟨lp,rfl,g6,hp⟩:=j5 (f:=PtD.dat) (G:=PtD.ok) sPt h6 fun x _ hk=>ag0 hk
 exact ⟨⟨s,lv,lo,pn,lt,ln,lp⟩,rfl,g2,g4,g5,g6,hp⟩
theorem ag3 {d : Dat} (h : d.ok Tryz.prog 25) : ∃ u : UnD,d=u.dat∧u.ok:=by
 obtain ⟨ds,rfl,e0⟩:=kT aUn h
 obtain ⟨d0,ds,rfl,h0,e1⟩:=zA e0
 obtain ⟨d1,ds,rfl,h1,e2⟩:=zA e1
 obtain ⟨d2,ds,rfl,h2,e3⟩:=zA e2
 obtain rfl:=kU e3
 obtain ⟨ss,rfl,g0,_⟩:=j5 (f:=StD.dat) (G:=fun _=>True) sSt h0 fun x _ hk=>agZ hk
 obtain ⟨fs,rfl,g1,hg⟩:=j5 (f:=GrD.dat) (G:=GrD.ok) sGr h1 fun x _ hk=>ag2 hk
 obtain ⟨mn,rfl,_⟩:=yu jv h2
 exact ⟨⟨ss,fs,mn⟩,rfl,g0,g1,hg⟩
section
variable {H : Type} {enc : TypeId × Value→H} {W : World} {base : Nat} {v : Value} {d : DataW H} {p : List MemPlace}
theorem af8 (hv : Value.okWide Tryz.prog W .any base 25 v) (h : DataW.Trod enc Tryz.prog W 0 (fun _=>true) true 25 v d p) : ∃ u : UnD,UnG (all W) v u:=by
 obtain ⟨fs,hu,_⟩:=aUn
 obtain ⟨cs,rfl,hsz⟩:=okWide_struct hu hv
 obtain ⟨fuel,hf⟩:=h
 obtain ⟨d,hr,hd⟩:=YA af6 fuel 25 _ _ (by simp) hf
 obtain ⟨u,rfl,hk⟩:=ag3 hd
 exact ⟨u,by simpa [Value.cells] using aes hr hk⟩
theorem ac4 (hv : Value.okWide Tryz.prog W .any base 3 v) (h : DataW.Trod enc Tryz.prog W 0 (fun _=>true) true 3 v d p) : ∃ n : Int,v = .int .i64 n∧-9223372036854775808≤n∧n≤9223372036854775807:=by
 obtain ⟨n,rfl,_,_,hw⟩:=open_int jv hv h
 exact ⟨n,rfl,aep hw⟩
end
noncomputable def QH (os : Os) : World:=World.holding Tryz.prog os ⟨#[],#[],[]⟩
end Go.Proofs.YtngfnikkdhbajaaGreat.openG
end
section
namespace Go.Proofs.YtngfnikkdhbajaaGreat.regionMakes
open Go.Sh Go.ChangeShapes Go.WideShapes Go.ChangeAt Go.RowKit openG
set_option maxRecDepth 100000
set_option linter.unusedVariables false
theorem afz (H : Type) (enc : TypeId × Value→H) (W : World) (base : Nat) (args : Array Value) (ds gs : List (DataW H)) (before : List MemPlace)
  (hval : ∀ (j : Nat) t v,Tryz.f3.params[j]? = some t→args[j]? = some v→Value.okWide Tryz.prog W .any base t v)
  (hW : DataW.Whole enc Tryz.prog Tryz.f3.params.toList Rows.regionMakesSpec.vars false W args.toList ds gs before) :
  Calls Tryz.prog 3 args W fun e W'=>∃ v,e = .returned v∧Rows.regionMakesSpec.post enc Tryz.prog Tryz.f3 false true false false W args v W':=by
 have hW':=hW
 obtain ⟨p,q,hA,hV,rfl,hfz,hnd⟩:=hW
 rw [show Tryz.f3.params.toList = [25,3,3] by kernel_rfl] at hA
 obtain ⟨v0,vs0,d0,ds0,p0,q100,hargs,rfl,rfl,h0,r0⟩:=trodAll_cons hA
 obtain ⟨v1,vs1,d1,ds1,p1,q101,rfl,rfl,rfl,h1,r1⟩:=trodAll_cons r0
 obtain ⟨v2,vs2,d2,ds2,p2,q102,rfl,rfl,rfl,h2,r2⟩:=trodAll_cons r1
 obtain ⟨rfl,rfl,rfl⟩:=trodAll_nil r2
 obtain rfl : args=#[v0,v1,v2]:=by cases args;simp_all
 obtain ⟨rfl,rfl⟩:=trodVars_none hV
 obtain ⟨u0,hu0⟩:=af8 (hval 0 25 v0 (by kernel_rfl) rfl) h0
 obtain ⟨n1,rfl,hi1⟩:=ac4 (hval 1 3 v1 (by kernel_rfl) rfl) h1
 obtain ⟨n2,rfl,hi2⟩:=ac4 (hval 2 3 v2 (by kernel_rfl) rfl) h2
 refine Calls.mono (XP (K:=fun v W'=>v = .bool true∧Ext W W') (aeh W) hu0 fun w' e=>⟨rfl,e⟩) ?_
 rintro e W' ⟨v,he,rfl,hE⟩
 exact ⟨_,he,aem af5 agW ag7 (by rw [show Tryz.f3.params.toList = [25,3,3] by kernel_rfl];decide) rfl (by kernel_rfl) ad4 hW' rfl hE⟩
def wit : Array Value:=#[.agg #[.slice none 0 0,.slice none 0 0,.int .i64 0],.int .i64 0,.int .i64 0]
theorem ag4 (os : Os) {H : Type} (enc : TypeId × Value→H) : ∃ ds places,DataW.whole enc Tryz.prog ((QH os).forCall (fun _ _=>0) ⟨#[],wit,[]⟩).memory Tryz.f3.params.toList Rows.regionMakesSpec.vars false wit.toList 8=some (ds,[],places):=
 ⟨[.agg [.nil,.nil,.lit (.int .i64 0)],.lit (.int .i64 0),.lit (.int .i64 0)],[],by kernel_rfl⟩
theorem afA (os : Os) : laidMet Tryz.prog Rows.regionMakesRow.laid ((QH os).forCall (fun _ _=>0) ⟨#[],wit,[]⟩).memory:=
 laidMet_of_run' 8 (by kernel_rfl) (by kernel_rfl)
theorem agC (os : Os) (started : os.Started) (H : Type) (enc : TypeId × Value→H) (F : Stop.Interp) :
  ReturnsInHanded {} Tryz.checked os 3 .any ((OpenSpec.ofChange Rows.regionMakesSpec).preRow enc Tryz.prog Tryz.f3 Rows.regionMakesRow.domain false Rows.regionMakesRow.laid) (((OpenSpec.ofChange Rows.regionMakesSpec).at F).post enc Tryz.prog Tryz.f3 false true false false):=by
 obtain ⟨ds,places,hx⟩:=ag4 os enc
 refine returnsInHanded_of_row (C:=Tryz.checked) (s:=OpenSpec.ofChange Rows.regionMakesSpec) own started (by kernel_rfl) Tryz.func3
  (witness_row_at (enc:=enc) (C:=Tryz.checked) false (QH os) wit rfl (by kernel_rfl) (by kernel_rfl) (by kernel_rfl)
   (OpenSpec.preRow_of_cond 8 hx (by kernel_rfl) (fun k hk=>by cases hk) (by kernel_rfl) (afA os))) ?_
 intro W base args ds gs before hval hW _ _ _ hL _ _
 exact afz H enc W base args ds gs before hval hW
theorem said : Rows.RegionMakesSaid:=
 OpenClaim.holds_of_cond 3 Tryz.f3 rfl rfl rfl rfl rfl rfl rfl ⟨rfl,rfl,rfl,rfl,rfl⟩ rfl rfl rfl rfl rfl (by kernel_rfl) Tryz.func3 (by kernel_rfl)
  (of_decide_eq_true (by kernel_rfl)) (by unfold Func.isWrapper;first|(rw [if_pos (by decide +kernel)];kernel_rfl)|(rw [if_neg (by decide +kernel)];exact ⟨rfl,rfl⟩))
  (fun os started H enc _ F=>by rw [OpenClaim.pre_eq_preRow];exact agC os started H enc F)
end Go.Proofs.YtngfnikkdhbajaaGreat.regionMakes
end
