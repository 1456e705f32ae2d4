/-
  Contract of live: Why.
  Contract of live: Closed.
  Contract of live: Closed.
  Shallow readings of functions. Made by a program (wip/gen/gen.py) out of the translation; the kernel checks each equality.
  A condition of the kind 'b, or c and d'.
  Contracts of loanwordref14: deref, Used, Ends, less.
  Contracts of loanwordref01: May, List.
  Contract of loanwordref14: Rows.
  Contract of loanwordref14: Why.
  Contracts: the example of law 14.
  Contracts of loanwordlaw14: fits, same, inside; live.Of once more, of what stays.
  Plain: rows of one's own are closed; what is told of the example of law 14.
  Contract of loanwordlaw14: awake.
  loanwordlaw14.LiveSteps: whatever the program, the function, the point: the law returns true.
-/
import Derived.Test.YtmkfelgocedohaaGreatQLe
import Derived.Test.YtmkfelgocedohaaGreatQLd
import Derived.Test.YtmkfelgocedohaaGreatQLc
import Derived.Test.YtmkfelgocedohaaGreatQLb
section
namespace Go.Proofs
open Go.Sh Go.RowKit
set_option maxRecDepth 100000
set_option linter.unusedSimpArgs false
set_option linter.unusedVariables false
noncomputable def QO (u : UnD) (n x q : Int) : Option (List Int):=match u.fs[n.toNat]? with|some g=>QH g x q|none=>none
theorem ag9 {o : Option (List Int)} {w : List Int} : ((!o.isSome)||(decide (((w.length : Nat) : Int)<((o.getD []).length : Nat))||(decide (((w.length : Nat) : Int)=((o.getD []).length : Nat))&&ltB w (o.getD []))))=acS o w:=by
 cases o with
 |none=>rfl
 |some v=>
  show (false||_)=_
  rw [Bool.false_or,acS]
  simp only [Option.getD_some,Int.ofNat_lt,Int.natCast_inj]
theorem ags {u : UnD} {n a b : Int} {W : List Int} (h0 : fnE u n=0) (ha : isN (netU u n) a) (hb : isN (netU u n) b) (hW : ∀ x ∈ W,isN (netU u n) x) : okW u n a b W=true:=by
 rw [okW,h0,show decide ((0 : Int)≠0)=false from rfl,Bool.false_or,decide_eq_true hW,decide_eq_true (show ∀ x ∈ [a,b],isN (netU u n) x by simpa using ⟨ha,hb⟩)]
 rfl
theorem aej {n : zs} {W : List Int} {q : Int} {stop : Bool} {o : Option (List Int)} {p : Int} (h : (decide (p≠q)&&stop)=true) : xg n W q stop o p=o:=by
 rw [xg,if_pos (by simpa using h)]
theorem aci {n : zs} {W : List Int} {q : Int} {stop : Bool} {o : Option (List Int)} {p : Int} (h : (decide (p≠q)&&stop)=false) : xg n W q stop o p=if ((wayE n q p W).isSome&&acS o ((wayE n q p W).getD []))=true then wayE n q p W else o:=by
 rw [xg,if_neg (fun hc=>by rw [hc.2,decide_eq_true hc.1] at h;cases h)]
 cases wayE n q p W with
 |none=>rfl
 |some w=>rfl
set_option maxHeartbeats 4000000 in
theorem Jt {u : UnD} {n x q : Int} {v : Value} {w : World} {r : Gh} {K : Value→World→Prop} (hr : Holds r w) (hu : UnG r v u)
  (h : ∀ v' s w',Ext w w'→New w s w'→SlG 1 s zO v' (if okY u n x q=true then (QO u n x q).getD [] else [])→K (.tuple #[v',.bool (okY u n x q&&(QO u n x q).isSome),.int .i64 (if okY u n x q=true then 0 else 2)]) w') : zd Tryz.prog Tryz.j9 #[v,.int .i64 n,.int .i64 x,.int .i64 q] w K:=by
 refine Tryz.abJ ?_
 unfold Tryz.Jn
 have hu0:=hu
 obtain ⟨p0,cap0,vf,rfl,_,_,hst,hsl,hfn⟩:=hu
 obtain ⟨qf,capf,rfl,_,_⟩:=hfn.sl.shape
 have S:=St.start hr
 refine S.box fun b4 w1 S=>?_
 have S : StX noX w r w1 [.cell b4 [.slice p0 u.ss.length cap0,.slice qf u.fs.length capf,.int .i64 u.mn] 25]:=S
 refine S.box fun b6 w2 S=>?_
 refine S.ldB (b:=b4) ?_ rfl
 refine qv S.holds hu0 fun vx s w3 e3 n3 hg hz=>?_
 obtain ⟨S,_,as3⟩:=S.tell e3 n3
 refine gS_ ?_
 refine S.al fun b11 w4 S=>?_
 have hvx : vx.oneCell'=true:=by
  by_cases hE : fnE u n=0
  ·obtain ⟨g,_,_,hx⟩:=hg hE
   obtain ⟨b,_,_,_,_,_,_,_,_,_,rfl,_⟩:=hx
   rfl
  ·rw [hz hE];rfl
 refine S.st (b:=b11) (fun w5 S=>?_) (by simp) hvx
 have S : StX noX w (r.or s) w5 [.cell b11 [vx] 118,.cell b6 [.int .i64 x] 3,.cell b4 [.slice p0 u.ss.length cap0,.slice qf u.fs.length capf,.int .i64 u.mn] 25]:=S
 have S:=S.go (Ext.drew _)
 refine gp_ ?_
 refine zi (c:=!okQ u n q) (fun hb K2 hK2=>?_) ?_
 ·have hE : fnE u n=0:=by simpa using hb
  obtain ⟨g,hgi,hnu,hx⟩:=hg hE
  refine S.ld (b:=b11) ?_
  refine qI S.holds hx ?_
  refine gp_ ?_
  rw [Yu hE hnu] at hK2
  exact hK2
 refine zi (c:=decide (x<0)) (fun hb K2 hK2=>?_) ?_
 ·refine S.ld (b:=b6) ?_
  refine gg_ ?_
  exact hK2
 refine zi (c:=!(match u.fs[n.toNat]? with|some g=>decide (x<g.tys.length)|none=>false)) (fun hb K2 hK2=>?_) ?_
 ·have hE : fnE u n=0:=by
   simp only [Bool.or_eq_false_iff,decide_eq_false_iff_not,Decidable.not_not] at hb
   exact hb.1.1
  obtain ⟨g,hgi,hnu,hx⟩:=hg hE
  obtain ⟨bl,x1,x2,x3,x4,y1,y2,y3,y4,vn,rfl,hgg,hn,hc⟩:=hx
  refine S.ld (b:=b6) ?_
  refine S.ld (b:=b11) ?_
  refine gg_ ?_
  refine zf (S.at (hc 4 _ rfl)) ?_
  refine gg_ ?_
  have e : decide ((g.tys.length : Int)≤x) = !decide (x<g.tys.length):=by
   rw [← decide_not,decide_eq_decide];omega
  rw [e]
  simp only [hgi] at hK2
  exact hK2
 have hYe : okY u n x q = !(((decide (fnE u n≠0) || !okQ u n q)||decide (x<0)) || !(match u.fs[n.toNat]? with|some g=>decide (x<g.tys.length)|none=>false)):=by
  rw [okY]
  have h1 : okQ u n q=true→decide (fnE u n≠0)=false:=fun h=>by rw [(Z7 h).1];rfl
  cases hq : okQ u n q with
  |false=>simp
  |true=>
   rw [h1 hq]
   cases u.fs[n.toNat]? with
   |none=>simp
   |some g=>
    rw [Bool.eq_iff_iff]
    simp
 refine c_b (fun hb=>?_) (fun hb=>?_)
 ·rw [hb] at hYe
  rw [hYe] at h
  exact h _ nothing _ S.ext New.nothing SlG.nil
 rw [hb] at hYe
 have hok : okQ u n q=true:=by
  simp only [Bool.or_eq_false_iff,Bool.not_eq_false'] at hb
  exact hb.1.1.2
 obtain ⟨hE,hqN⟩:=Z7 hok
 obtain ⟨g,hgi,hnu,hx⟩:=hg hE
 rw [hnu] at hqN
 have hF:=xL hE hgi
 have hnf:=hF.net.few
 have hgl:=zQ (g:=g)
 have hWu : QO u n x q=QH g x q:=by rw [QO,hgi]
 rw [hYe,hWu] at h
 simp only [Bool.not_false,if_true,Bool.true_and] at h
 clear hYe hb hWu hz
 have hbl:=hx
 obtain ⟨bl,x1,x2,x3,x4,y1,y2,y3,y4,vn,rfl,hgg,hn,hc⟩:=hx
 have S:=S.frzAt b11
 have S:=S.frzAt b6
 have h11 : Ob (((r.or s).or (Go.Sh.one b11 [.pointer (some ⟨bl,0,none⟩)] 118)).or (Go.Sh.one b6 [.int .i64 x] 3)) fun w=>w.cell? ⟨b11,0,none⟩=some (.pointer (some ⟨bl,0,none⟩)):=fun w' hw'=>by
  have B : Blk w' b11 [.pointer (some ⟨bl,0,none⟩)] 118:=zH w' (hw'.le (h:=inferInstance))
  exact B.cell 0
 have h6 : Ob (((r.or s).or (Go.Sh.one b11 [.pointer (some ⟨bl,0,none⟩)] 118)).or (Go.Sh.one b6 [.int .i64 x] 3)) fun w=>w.cell? ⟨b6,0,none⟩=some (.int .i64 x):=fun w' hw'=>by
  have B : Blk w' b6 [.int .i64 x] 3:=zH w' (hw'.le (h:=inferInstance))
  exact B.cell 0
 have hx':=hbl.up (s:=((r.or s).or (Go.Sh.one b11 [.pointer (some ⟨bl,0,none⟩)] 118)).or (Go.Sh.one b6 [.int .i64 x] 3))
 have hu1:=hu0.up (s:=((r.or s).or (Go.Sh.one b11 [.pointer (some ⟨bl,0,none⟩)] 118)).or (Go.Sh.one b6 [.int .i64 x] 3))
 have hc6:=(hc 6 _ rfl).up (s:=((r.or s).or (Go.Sh.one b11 [.pointer (some ⟨bl,0,none⟩)] 118)).or (Go.Sh.one b6 [.int .i64 x] 3))
 have S : StX noX w (((r.or s).or (Go.Sh.one b11 [.pointer (some ⟨bl,0,none⟩)] 118)).or (Go.Sh.one b6 [.int .i64 x] 3)) w5.drew [.cell b4 [.slice p0 u.ss.length cap0,.slice qf u.fs.length capf,.int .i64 u.mn] 25]:=S
 have S:=(S.ownNil 3 1).ownNil 3 1
 generalize ((r.or s).or (Go.Sh.one b11 [.pointer (some ⟨bl,0,none⟩)] 118)).or (Go.Sh.one b6 [.int .i64 x] 3)=υ at S h11 h6 hx' hu1 hc6
 have S : StX noX w υ w5.drew [.row (.slice none 0 0) 3 1 (y5 (zz g x) 0).length (ints (y5 (zz g x) 0)),.row (.slice none 0 0) 3 1 (y5 (Usd g x) 0).length (ints (y5 (Usd g x) 0)),.cell b4 [.slice p0 u.ss.length cap0,.slice qf u.fs.length capf,.int .i64 u.mn] 25]:=S
 refine gp_ ?_
 refine zf (S.at h11) ?_
 refine gg_ ?_
 refine zf (S.at hc6) ?_
 refine gg_ ?_
 refine zk (ι:=Nat × Value × Value) (fun i=>[i.2.1,i.2.2,.int .i64 (i.1 : Nat)]) (fun i w'=>i.1≤g.pts.length∧StX noX w υ w' [.row i.2.1 3 1 (y5 (zz g x) i.1).length (ints (y5 (zz g x) i.1)),.row i.2.2 3 1 (y5 (Usd g x) i.1).length (ints (y5 (Usd g x) i.1)),.cell b4 [.slice p0 u.ss.length cap0,.slice qf u.fs.length capf,.int .i64 u.mn] 25]) (fun i=>g.pts.length - i.1) (0,.slice none 0 0,.slice none 0 0) rfl ⟨Nat.zero_le _,S⟩ ?_
 repeat clear S
 rintro ⟨i,ve,vu⟩ d w22 ⟨hi,S⟩ K19 hK19
 simp only at hi S ⊢
 simp only [List.getD_cons_zero,List.getD_cons_succ]
 refine gg_ ?_
 refine zm (fun hlt=>?_) (fun hge=>?_)
 ·have hlt : i<g.pts.length:=by omega
  have hiN : isN (ze g) (i : Int):=⟨by omega,by omega⟩
  obtain ⟨p,hp,hpm,hue,hee⟩:=Ys hiN
  have hef:=abh (P:=zz g x) (i:=i)
  have huf:=abh (P:=Usd g x) (i:=i)
  refine zq (fun y w'=>∃ ve' vu',y = [ve',vu']∧StX noX w υ w' [.row ve' 3 1 (y5 (zz g x) (i+1)).length (ints (y5 (zz g x) (i+1))),.row vu' 3 1 (y5 (Usd g x) (i+1)).length (ints (y5 (Usd g x) (i+1))),.cell b4 [.slice p0 u.ss.length cap0,.slice qf u.fs.length capf,.int .i64 u.mn] 25]) (fun K23 hK23=>?_) ?_
  ·refine zq (fun y w'=>∃ ve',y = [ve']∧StX noX w υ w' [.row ve' 3 1 (y5 (zz g x) (i+1)).length (ints (y5 (zz g x) (i+1))),.row vu 3 1 (y5 (Usd g x) i).length (ints (y5 (Usd g x) i)),.cell b4 [.slice p0 u.ss.length cap0,.slice qf u.fs.length capf,.int .i64 u.mn] 25]) (fun K27 hK27=>?_) ?_
   ·refine ach S.holds hx' h11 h6 hiN.1 hp (hF.args p hpm) fun w31 e31=>?_
    have S:=S.go e31
    rw [← hee]
    rw [VE] at hK27
    refine zm (fun hE=>?_) (fun hE=>?_)
    ·rw [if_pos (show zz g x i from hE)] at hK27
     refine S.lit (e:=3) (cs:=[.int .i64 (i : Nat)]) (by kernel_rfl) fun b9 w9 S=>?_
     refine S.ap (v:=ve) (m':=1) (Sl.blk (S.blk b9)) (fun v4 w10 S=>?_) (by omega)
     refine hK27 _ _ ⟨v4,rfl,?_⟩
     rw [List.length_append,xB]
     exact S.drop b9
    ·rw [if_neg (show ¬ zz g x i from hE),List.append_nil] at hK27
     exact hK27 _ _ ⟨ve,rfl,S⟩
   repeat clear S
   rintro _ w30 ⟨ve',rfl,S⟩ d
   rw [List.getD_cons_zero]
   refine zf (S.at h11) ?_
   refine zf (S.at h6) ?_
   refine ZI S.holds hx' hiN.1 hp (hF.args p hpm) fun w34 e34=>?_
   have S:=S.go e34
   rw [← hue]
   have hnU:=VE (P:=Usd g x) (i:=i)
   refine zm (fun hU=>?_) (fun hU=>?_)
   ·rw [if_pos (show Usd g x i from hU)] at hnU
    refine S.lit (e:=3) (cs:=[.int .i64 (i : Nat)]) (by kernel_rfl) fun b9 w9 S=>?_
    refine S.ap (v:=vu) (m':=1) (Sl.blk (S.blk b9)) (fun v4 w10 S=>?_) (by omega)
    refine hK23 _ _ ⟨ve',v4,rfl,?_⟩
    rw [hnU,List.length_append,xB]
    exact S.drop b9
   ·rw [if_neg (show ¬ Usd g x i from hU),List.append_nil] at hnU
    refine hK23 _ _ ⟨ve',vu,rfl,?_⟩
    rw [hnU]
    exact S
  repeat clear S
  rintro _ w26 ⟨ve',vu',rfl,S⟩ d
  simp only [List.getD_cons_zero,List.getD_cons_succ]
  refine gg_ ?_
  exact hK19 (i+1,ve',vu') _ ⟨hlt,S⟩ (by show g.pts.length - (i+1)<g.pts.length - i;omega)
 have hie : i=(ze g).length:=by omega
 clear hK19 K19 hge hi d
 subst hie
 rw [abi,abi] at S
 have hWf : (ptsW g (zz g x)).length≤(ze g).length:=aaZ
 have hUf : (ptsW g (Usd g x)).length≤(ze g).length:=aaZ
 have hWN : ∀ y ∈ ptsW g (zz g x),isN (ze g) y:=fun y hy=>(qZ.1 hy).1
 have hUN : ∀ y ∈ ptsW g (Usd g x),isN (ze g) y:=fun y hy=>(qZ.1 hy).1
 rw [QH] at h
 obtain ⟨pq,hpq,hpqm,_,heq⟩:=Ys hqN
 generalize ptsW g (zz g x)=W at S h hWf hWN
 generalize ptsW g (Usd g x)=U at S h hUf hUN
 obtain ⟨sE,T,hsE,_,_⟩:=S.doneRow yC (by decide) rfl
 repeat clear S
 obtain ⟨sU,S,hsU,_,_⟩:=T.doneRow yC (by decide) rfl
 clear T
 obtain ⟨pu,cu,rfl,_,_⟩:=hsU.shape
 have S:=S.new (Ext.refl _) New.nothing
 refine gp_ ?_
 refine zk (ι:=Nat × Value × Gh) (fun i=>[i.2.1,.bool ((U.take i.1).foldl (xg (ze g) W q (decide (zz g x q))) none).isSome,.int .i64 (i.1 : Nat)]) (fun i w'=>i.1≤U.length∧StX noX w (((υ.or sE).or sU).or i.2.2) w' [.cell b4 [.slice p0 u.ss.length cap0,.slice qf u.fs.length capf,.int .i64 u.mn] 25]∧Above w i.2.2∧SlG 1 i.2.2 zO i.2.1 (((U.take i.1).foldl (xg (ze g) W q (decide (zz g x q))) none).getD [])) (fun i=>U.length - i.1) (0,.slice none 0 0,nothing) rfl ⟨Nat.zero_le _,S,Above.no,SlG.nil⟩ ?_
 repeat clear S
 rintro ⟨i,v1,τ⟩ d w40 ⟨hi,S,hτ,hv1⟩ K37 hK37
 simp only at hi S hτ hv1 ⊢
 simp only [List.getD_cons_zero,List.getD_cons_succ]
 refine gp_ ?_
 refine zm (fun hlt=>?_) (fun hge=>?_)
 ·have hlt : i<U.length:=by omega
  have hFs : (U.take (i+1)).foldl (xg (ze g) W q (decide (zz g x q))) none=xg (ze g) W q (decide (zz g x q)) ((U.take i).foldl (xg (ze g) W q (decide (zz g x q))) none) U[i]:=by
   rw [List.take_succ_eq_append_getElem hlt,List.foldl_append,List.foldl_cons,List.foldl_nil]
  have hK37:=fun v1 τ w' (S : StX noX w (((υ.or sE).or sU).or τ) w' [.cell b4 [.slice p0 u.ss.length cap0,.slice qf u.fs.length capf,.int .i64 u.mn] 25]) (hτ : Above w τ) hv=>hK37 (i+1,v1,τ) w' ⟨hlt,S,hτ,hv⟩ (by show U.length - (i+1)<U.length - i;omega)
  simp only at hK37
  rw [hFs] at hK37
  have hpN:=hUN _ (List.getElem_mem hlt)
  obtain ⟨bU,oU,hpu,_,gU⟩:=zI hsU hlt
  generalize U[i]=p at hK37 hpN gU
  generalize (U.take i).foldl (xg (ze g) W q (decide (zz g x q))) none=o at hK37 hv1
  rw [hpu]
  refine zq (fun y w'=>∃ v' τ',y = [v',.bool (xg (ze g) W q (decide (zz g x q)) o p).isSome]∧StX noX w (((υ.or sE).or sU).or τ') w' [.cell b4 [.slice p0 u.ss.length cap0,.slice qf u.fs.length capf,.int .i64 u.mn] 25]∧Above w τ'∧SlG 1 τ' zO v' ((xg (ze g) W q (decide (zz g x q)) o p).getD [])) (fun K41 hK41=>?_) ?_
  ·refine gg_ ?_
   refine zf (by rw [Int.toNat_natCast];exact S.at gU) ?_
   refine gp_ ?_
   refine afX (c:=decide (zz g x q)) (fun w'=>Ext w40 w') (Ext.refl w40) (fun _ K2 hK2=>?_) fun w2 e2=>?_
   ·refine ach S.holds hx'.up h11.up h6.up hqN.1 hpq (hF.args pq hpqm) fun w' e'=>?_
    rw [← heq]
    exact hK2 _ e'
   have S:=S.go e2
   refine c_b (fun hb=>?_) (fun hb=>?_)
   ·have e:=aej (n:=ze g) (W:=W) (o:=o) hb
    rw [e] at hK41
    exact hK41 _ _ ⟨v1,τ,rfl,S,hτ,hv1⟩
   have hgo:=aci (n:=ze g) (W:=W) (o:=o) hb
   rw [hgo] at hK41
   clear hgo
   refine S.ldB (b:=b4) ?_ rfl
   have hokW:=ags (u:=u) (n:=n) (a:=q) (b:=p) (W:=W) hE (by rw [hnu];exact hqN) (by rw [hnu];exact hpN) (by rw [hnu];exact hWN)
   refine ac1 S.holds hu1.up hsE.cells (by omega) fun v7 s7 w7 e7 n7 h7=>?_
   rw [hokW,if_pos rfl,hnu,Bool.true_and]
   rw [hokW,if_pos rfl,hnu] at h7
   obtain ⟨S,_,a7⟩:=S.tell e7 n7
   have hwf:=ab7 hF.net.ok V9 (W:=W) (t:=p) hqN
   obtain ⟨p7,c7,rfl,_,_⟩:=h7.shape
   obtain ⟨p1,c1,rfl,_,_⟩:=hv1.shape
   generalize wayE (ze g) q p W=y at h7 hwf hK41
   refine gP_ ?_
   refine gP_ ?_
   refine gP_ ?_
   refine ahA (i:=y.isSome) (f:=!o.isSome) (l:=decide ((((y.getD []).length : Nat) : Int)<((o.getD []).length : Nat))) (e:=decide ((((y.getD []).length : Nat) : Int)=((o.getD []).length : Nat))) (x:=ltB (y.getD []) (o.getD [])) (fun w'=>w'=w7) (fun _ K hK=>?_) (fun _ _ K hK=>?_) (fun _ _ _ K hK=>?_) (fun _ _ _ he K hK=>?_) rfl ?_
   ·refine gp_ ?_
    exact hK
   ·refine gg_ ?_
    exact hK
   ·refine gg_ ?_
    exact hK
   ·refine VY S.holds h7.cells hv1.cells (by have:=of_decide_eq_true he;omega) (by omega) fun c hc=>?_
    refine gP_ ?_
    rw [hc]
    exact hK _ rfl
   rintro _ rfl
   rw [ag9]
   refine c_b (fun hb=>?_) (fun hb=>?_)
   ·rw [if_pos hb,(show y.isSome=true by simp at hb;exact hb.1)] at hK41
    exact hK41 _ _ ⟨_,s7,rfl,S.less (fun b o h=>h.elim (fun h=>.inl (.inl h)) .inr) (List.Sublist.refl _),a7,h7⟩
   ·rw [if_neg (by rw [hb];decide)] at hK41
    exact hK41 _ _ ⟨_,τ,rfl,S.less (fun b o h=>.inl h) (List.Sublist.refl _),hτ,hv1⟩
  rintro _ w44 ⟨v',τ',rfl,S,hτ',hv'⟩ d
  simp only [List.getD_cons_zero,List.getD_cons_succ]
  refine gp_ ?_
  exact hK37 v' τ' _ S hτ' hv'
 have hie : i=U.length:=by omega
 subst hie
 rw [List.take_length] at hv1 ⊢
 refine gg_ ?_
 exact h _ τ _ S.ext (StX.newOf (q:=τ) S hτ) hv1
end Go.Proofs
end
section
namespace Go.Proofs
open Go.Sh Go.RowKit Go.BM
set_option maxRecDepth 100000
set_option linter.unusedSimpArgs false
set_option linter.unusedVariables false
abbrev qc:=Int × List (BitVec 64)
theorem QP {f : Int→Bool} {fv v : Value} {w : World} {r : Gh} {l : List Int} {K : Value→World→Prop} (hr : Holds r w) (hl : SlG 1 r zO v l) (hb : l.length≤1000000000)
  (hf : ∀ x ∈ l,∀ (K : Value→World→Prop),K (.bool (f x)) w→zB Tryz.prog fv #[.int .i64 x] w K) (h : ∀ i : Int,(0≤i↔l.any f=true)→K (.int .i64 i) w) : zd Tryz.prog Tryz.ye #[v,fv] w K:=by
 refine Tryz.xz ?_
 unfold Tryz.yI
 obtain ⟨p,cap,rfl,_,_⟩:=hl.shape
 refine gP_ ?_
 refine zk (ι:=Nat) (fun i=>[.int .i64 i]) (fun i w'=>w'=w∧i≤l.length∧(l.take i).any f=false) (fun i=>l.length - i) 0 rfl ⟨rfl,Nat.zero_le _,by simp⟩ ?_
 rintro i d w' ⟨rfl,hi,hn⟩ K6 hK6
 simp only [List.getD_cons_zero]
 refine gP_ ?_
 refine zm (fun hlt=>?_) (fun hge=>?_)
 ·have hlt : i<l.length:=by omega
  obtain ⟨b,off,rfl,_,hc⟩:=zI hl hlt
  refine gP_ ?_
  refine zf (by rw [Int.toNat_natCast];exact hc _ hr) ?_
  refine hf _ (List.getElem_mem hlt) _ ?_
  have ht : (l.take (i+1)).any f=((l.take i).any f||f l[i]):=by
   rw [List.take_succ_eq_append_getElem hlt,List.any_append];simp only [List.any_cons,List.any_nil,Bool.or_false]
  refine c_b (fun hy=>?_) (fun hno=>?_)
  ·exact h _ ⟨fun _=>List.any_eq_true.2 ⟨l[i],List.getElem_mem hlt,hy⟩,fun _=>Int.natCast_nonneg _⟩
  ·refine gP_ ?_
   refine hK6 (i+1) _ ⟨rfl,hlt,?_⟩ (by omega)
   rw [ht,hn,hno];rfl
 ·have : i=l.length:=by omega
  subst this
  rw [List.take_length] at hn
  exact h _ ⟨fun h=>by omega,fun h=>by rw [hn] at h;cases h⟩
theorem YP {f : Int→Bool} {fv v : Value} {w : World} {r : Gh} {l : List Int} {K : Value→World→Prop} (hr : Holds r w) (hl : SlG 1 r zO v l) (hb : l.length≤1000000000)
  (hf : ∀ x ∈ l,∀ (K : Value→World→Prop),K (.bool (f x)) w→zB Tryz.prog fv #[.int .i64 x] w K) (h : K (.bool (l.any f)) w) : zd Tryz.prog Tryz.zE #[v,fv] w K:=by
 refine Tryz.y9 ?_
 unfold Tryz.yp
 refine QP hr hl hb hf fun i hi=>?_
 refine gP_ ?_
 have e : decide (i≥0)=l.any f:=by
  by_cases hh : l.any f=true
  ·rw [hh];exact decide_eq_true (hi.2 hh)
  ·rw [Bool.eq_false_iff.2 hh];exact decide_eq_false fun h=>hh (hi.1 h)
 rw [e];exact h
theorem Ju {f : qc→Bool} {fv v : Value} {w : World} {r : Gh} {l : List qc} {K : Value→World→Prop} (hr : Holds r w) (hl : SlG 2 r (RwbC r) v l) (hb : l.length≤1000000000)
  (hf : ∀ x ∈ l,∀ (c : List Value) (w : World) (K : Value→World→Prop),Holds r w→RwbC r c x→(∀ w',Ext w w'→K (.bool (f x)) w')→zB Tryz.prog fv #[.agg c.toArray] w K)
  (h : ∀ (i : Int) w',Ext w w'→(0≤i↔l.any f=true)→K (.int .i64 i) w') : zd Tryz.prog Tryz.ya #[v,fv] w K:=by
 refine Tryz.kG ?_
 unfold Tryz.yM
 obtain ⟨p,cap,rfl,_,_⟩:=hl.shape
 have S:=St.start hr
 refine gP_ ?_
 refine zk (ι:=Nat) (fun i=>[.int .i64 i]) (fun i w'=>i≤l.length∧(l.take i).any f=false∧StX noX w r w' []) (fun i=>l.length - i) 0 rfl ⟨Nat.zero_le _,by simp,S⟩ ?_
 clear S
 rintro i d w' ⟨hi,hn,S⟩ K6 hK6
 simp only [List.getD_cons_zero]
 refine gP_ ?_
 refine zm (fun hlt=>?_) (fun hge=>?_)
 ·have hlt : i<l.length:=by omega
  obtain ⟨b,off,c,rfl,hcl,hcR,hcell⟩:=hl.get (by decide) hlt
  have hcR0:=hcR
  obtain ⟨pw,cw,rfl,_⟩:=hcR
  refine gP_ ?_
  refine zF (n:=2) rfl (fun j v hj=>by rw [Int.toNat_natCast];exact S.at (hcell j v hj)) ?_
  refine hf _ (List.getElem_mem hlt) _ _ _ S.holds hcR0 fun w2 e2=>?_
  have S:=S.go e2
  have ht : (l.take (i+1)).any f=((l.take i).any f||f l[i]):=by
   rw [List.take_succ_eq_append_getElem hlt,List.any_append];simp only [List.any_cons,List.any_nil,Bool.or_false]
  refine c_b (fun hy=>?_) (fun hno=>?_)
  ·exact h _ _ S.ext ⟨fun _=>List.any_eq_true.2 ⟨l[i],List.getElem_mem hlt,hy⟩,fun _=>Int.natCast_nonneg _⟩
  ·refine gP_ ?_
   refine hK6 (i+1) _ ⟨hlt,?_,S⟩ (by omega)
   rw [ht,hn,hno];rfl
 ·have : i=l.length:=by omega
  subst this
  rw [List.take_length] at hn
  exact h _ _ S.ext ⟨fun h=>by omega,fun h=>by rw [hn] at h;cases h⟩
theorem Xs {f : qc→Bool} {fv v : Value} {w : World} {r : Gh} {l : List qc} {K : Value→World→Prop} (hr : Holds r w) (hl : SlG 2 r (RwbC r) v l) (hb : l.length≤1000000000)
  (hf : ∀ x ∈ l,∀ (c : List Value) (w : World) (K : Value→World→Prop),Holds r w→RwbC r c x→(∀ w',Ext w w'→K (.bool (f x)) w')→zB Tryz.prog fv #[.agg c.toArray] w K)
  (h : ∀ w',Ext w w'→K (.bool (l.any f)) w') : zd Tryz.prog Tryz.zW #[v,fv] w K:=by
 refine Tryz.xX ?_
 unfold Tryz.yB
 refine Ju hr hl hb hf fun i w' e hi=>?_
 refine gP_ ?_
 have e2 : decide (i≥0)=l.any f:=by
  by_cases hh : l.any f=true
  ·rw [hh];exact decide_eq_true (hi.2 hh)
  ·rw [Bool.eq_false_iff.2 hh];exact decide_eq_false fun h=>hh (hi.1 h)
 rw [e2];exact h _ e
def Yv (g : GrD) (x : qc) : List Bool:=Xi g.pts.length x.2
noncomputable def ac4 (g : GrD) (x : Nat) (m : List Bool) (q : Nat) : Bool:=xf g x m q && !mk' m q
noncomputable def Yw (g : GrD) (R : List qc) (x q : Nat) : Bool:=ac4 g x (Yv g (R.getD x (0,[]))) q
def cls (b : Nat→Nat→Bool) (n k : Nat) : Option (Nat × Nat):=(List.range n).findSome? fun x=>(List.range k).findSome? fun q=>if b x q=true then some (x,q) else none
theorem acj {α : Type} {f : Nat→Option α} : ∀ {n x : Nat} {a : α},x<n→(∀ y<x,f y=none)→f x=some a→(List.range n).findSome? f=some a
 |n,x,a,hx,hb,hf=>by
  have e : List.range n=List.range x++(x::List.range' (x+1) (n - x - 1)):=by
   rw [← List.range'_succ,List.range_eq_range',List.range_eq_range',show n - x - 1+1=n - x by omega]
   have:=List.range'_append_1 (s:=0) (m:=x) (n:=n - x)
   rw [Nat.zero_add] at this
   rw [this];congr 1;omega
  rw [e,List.findSome?_append,List.findSome?_eq_none_iff.2 fun y hy=>hb y (List.mem_range.1 hy),List.findSome?_cons,hf]
  rfl
theorem aha {b : Nat→Nat→Bool} {n k x q : Nat} (hx : x<n) (hq : q<k) (h1 : ∀ y<x,∀ p<k,b y p=false) (h2 : ∀ p<q,b x p=false) (h : b x q=true) : cls b n k=some (x,q):=
 acj hx (fun y hy=>List.findSome?_eq_none_iff.2 fun p hp=>by rw [h1 y hy p (List.mem_range.1 hp)];rfl) (acj hq (fun p hp=>by rw [h2 p hp];rfl) (by rw [h];rfl))
theorem ack {b : Nat→Nat→Bool} {n k : Nat} (h : ∀ y<n,∀ p<k,b y p=false) : cls b n k=none:=
 List.findSome?_eq_none_iff.2 fun y hy=>List.findSome?_eq_none_iff.2 fun p hp=>by rw [h y (List.mem_range.1 hy) p (List.mem_range.1 hp)];rfl
noncomputable def abj (g : GrD) (R : List qc) : Option (Nat × Nat):=cls (Yw g R) R.length g.pts.length
noncomputable def Xt (g : GrD) (x : qc) : Bool:=!BM.mayB x.1 x.2||decide (x.1≠g.pts.length)
noncomputable def ac5 (g : GrD) (R : List qc) : Bool:=decide (R.length=g.tys.length) && !R.any (Xt g)
noncomputable def okC (u : UnD) (n : Int) (R : List qc) : Bool:=decide (fnE u n=0)&&(match u.fs[n.toNat]? with|some g=>ac5 g R|none=>false)
noncomputable def J4 (u : UnD) (n : Int) (R : List qc) : Option (Nat × Nat):=match u.fs[n.toNat]? with|some g=>abj g R|none=>none
noncomputable def abk (u : UnD) (n : Int) (R : List qc) : Value:=if okC u n R=true then .tuple #[.int .i64 (((J4 u n R).getD (0,0)).1 : Nat),.int .i64 (((J4 u n R).getD (0,0)).2 : Nat),.bool (J4 u n R).isNone,.int .i64 0] else .tuple #[.int .i64 0,.int .i64 0,.bool false,.int .i64 2]
theorem Xu {ws : List (BitVec 64)} {k : Int} {b p cap} {w : World} {r : Gh} {K : Value→World→Prop} (hr : Holds r w) (h1 : Ob r fun w=>w.cell? ⟨b,1,none⟩=some (.slice p ws.length cap)) (hS : SlB 1 r WdC (.slice p ws.length cap) ws) (hk : 0≤k) (hk2 : k<64*ws.length) (hl : ws.length≤100000)
  (h : K (.bool (bit ws k.toNat)) w) : zB Tryz.prog (.func (.func Tryz.Zv) #[] #[.pointer (some ⟨b,0,none⟩)]) #[.int .i64 k] w K:=by
 refine Ye (by kernel_rfl) ?_
 refine Tryz.QL ?_
 unfold Tryz.Zx
 have hlt : k.toNat / 64<ws.length:=by omega
 obtain ⟨b2,o2,rfl,_,hc⟩:=aeb hS.sl hlt
 have hB : bit ws k.toNat=decide (((ws[k.toNat / 64] >>> (k.toNat % 64)) &&& BitVec.ofInt 64 1).toNat=(1 : Int)):=by
  rw [bit,List.getD_eq_getElem?_getD,List.getElem?_eq_getElem hlt,Option.getD_some,Bool.eq_iff_iff,decide_eq_true_eq,abx]
 rw [hB] at h
 generalize ws[k.toNat / 64]=x at hc h
 refine gg_ ?_
 refine zf (h1 _ hr) ?_
 refine gg_ ?_
 refine zf (by rw [show (k / 64).toNat=k.toNat / 64 by omega];exact hc _ hr) ?_
 refine gg_ ?_
 rw [show (k % 64).toNat=k.toNat % 64 by omega]
 exact h
theorem abl {g : GrD} {x : qc} {v : Value} {b : Nat} {c : List Value} {w : World} {r : Gh} {K : Value→World→Prop} (hr : Holds r w) (hx : LookG r v g) (h1 : Ob r fun w=>w.cell? ⟨b,0,none⟩=some v) (hc : RwbC r c x)
  (h : ∀ w',Ext w w'→K (.bool (Xt g x)) w') : zB Tryz.prog (.func (.func Tryz.Zu) #[] #[.pointer (some ⟨b,0,none⟩)]) #[.agg c.toArray] w K:=by
 refine Ye (by kernel_rfl) ?_
 refine Tryz.QK ?_
 unfold Tryz.Zw
 obtain ⟨W,ws⟩:=x
 have hc0:=hc
 obtain ⟨p,cap,rfl,hS⟩:=hc
 obtain ⟨bl,x1,x2,x3,x4,y1,y2,y3,y4,vn,rfl,hgg,hn,hcl⟩:=hx
 have S:=St.start hr
 refine S.box fun b2 w1 S=>?_
 have S : StX noX w r w1 [.cell b2 [.int .i64 W,.slice p ws.length cap] 72]:=S
 have S:=S.go (Ext.drew _)
 refine S.ldN (b:=b2) (vs:=[.int .i64 W,.slice p ws.length cap]) ?_
 refine ac0 S.holds hc0.up fun w2 e2=>?_
 have S:=S.go e2
 refine gp_ ?_
 refine zi (c:=decide (W≠g.pts.length)) (fun _ K2 hK2=>?_) ?_
 ·refine gg_ ?_
  refine zf (S.at h1) ?_
  refine gg_ ?_
  refine zf (S.at (hcl 6 _ rfl)) ?_
  refine gg_ ?_
  exact hK2
 exact h _ S.ext
end Go.Proofs
end
section
namespace Go.Proofs
open Go.Sh Go.RowKit Go.BM
set_option maxRecDepth 100000
set_option linter.unusedSimpArgs false
set_option linter.unusedVariables false
theorem ahb {g : GrD} {q : Nat} {p : PtD} (hp : g.pts[q]? = some p) (hq : q<(lkN g).length) : (lkN g)[q]=lkP p:=by
 have h1:=List.getElem?_eq_getElem hq
 have h2 : (lkN g)[q]? = some (lkP p):=by rw [lkN,List.getElem?_map,hp];rfl
 rw [h2] at h1
 exact (Option.some.inj h1).symm
theorem abm {g : GrD} {q : Nat} {p : PtD} (hp : g.pts[q]? = some p) {x : Int} : x ∈ nxt (ze g) (q : Int)↔x ∈ lkP p:=by
 rw [nxt,ze,List.getD_eq_getElem?_getD,List.getElem?_map,Int.toNat_natCast,hp,acd];rfl
theorem agt {g : GrD} {q : Nat} {p : PtD} (hp : g.pts[q]? = some p) {f : Int→Bool} : (lkP p).any f=(nxt (ze g) (q : Int)).any f:=by
 rw [Bool.eq_iff_iff,List.any_eq_true,List.any_eq_true]
 exact ⟨fun ⟨x,h1,h2⟩=>⟨x,(abm hp).2 h1,h2⟩,fun ⟨x,h1,h2⟩=>⟨x,(abm hp).1 h1,h2⟩⟩
theorem agu {p : PtD} : (lkP p).length≤2:=by
 rw [lkP,List.length_append]
 split<;>split<;>simp
set_option maxHeartbeats 4000000 in
theorem VZ {u : UnD} {n : Int} {R : List qc} {v vr : Value} {w : World} {r : Gh} {K : Value→World→Prop} (hr : Holds r w) (hu : UnG r v u) (hR : SlG 2 r (RwbC r) vr R) (hRf : R.length≤1000000)
  (h : ∀ w',Ext w w'→K (abk u n R) w') : zd Tryz.prog Tryz.jM #[v,.int .i64 n,vr] w K:=by
 refine Tryz.J2 ?_
 unfold Tryz.YH
 have hu0:=hu
 obtain ⟨p0,cap0,vf,rfl,_,_,hst,hsl,hfn⟩:=hu
 obtain ⟨qf,capf,rfl,_,_⟩:=hfn.sl.shape
 have hR0:=hR
 obtain ⟨pr,cr,rfl,_,_⟩:=hR.shape
 have S:=St.start hr
 refine S.box fun b3 w1 S=>?_
 have S : StX noX w r w1 [.cell b3 [.slice p0 u.ss.length cap0,.slice qf u.fs.length capf,.int .i64 u.mn] 25]:=S
 refine S.ldB (b:=b3) ?_ rfl
 refine qv S.holds hu0 fun vx s w2 e2 n2 hg hz=>?_
 obtain ⟨S,_,as2⟩:=S.tell e2 n2
 refine gS_ ?_
 refine S.al fun b10 w3 S=>?_
 have hvx : vx.oneCell'=true:=by
  by_cases hE : fnE u n=0
  ·obtain ⟨g,_,_,hx⟩:=hg hE
   obtain ⟨b,_,_,_,_,_,_,_,_,_,rfl,_⟩:=hx
   rfl
  ·rw [hz hE];rfl
 refine S.st (b:=b10) (fun w4 S=>?_) (by simp) hvx
 have S : StX noX w (r.or s) w4 [.cell b10 [vx] 118,.cell b3 [.slice p0 u.ss.length cap0,.slice qf u.fs.length capf,.int .i64 u.mn] 25]:=S
 have S:=(S.frzAt b10).tl
 have h10 : Ob ((r.or s).or (Go.Sh.one b10 [vx] 118)) fun w=>w.cell? ⟨b10,0,none⟩=some vx:=fun w' hw'=>by
  have B : Blk w' b10 [vx] 118:=zH w' (hw'.le (h:=inferInstance))
  exact B.cell 0
 have hg' : fnE u n=0→∃ g,u.fs[n.toNat]? = some g∧netU u n=ze g∧LookG ((r.or s).or (Go.Sh.one b10 [vx] 118)) vx g:=fun hE=>by
  obtain ⟨g,h1,h2,h3⟩:=hg hE
  exact ⟨g,h1,h2,h3.up⟩
 have hR1 : SlG 2 ((r.or s).or (Go.Sh.one b10 [vx] 118)) (RwbC ((r.or s).or (Go.Sh.one b10 [vx] 118))) (.slice pr R.length cr) R:=hR0.up' inferInstance fun _ _ h=>h.up
 clear hg hz hvx
 generalize (r.or s).or (Go.Sh.one b10 [vx] 118)=υ at S h10 hg' hR1
 have T:=S
 repeat clear S
 have S:=T
 clear T
 refine gp_ ?_
 refine zi (c:=!(match u.fs[n.toNat]? with|some g=>decide (R.length=g.tys.length)|none=>false)) (fun hb K2 hK2=>?_) ?_
 ·have hE : fnE u n=0:=by simpa using hb
  obtain ⟨g,hgi,hnu,hx⟩:=hg' hE
  obtain ⟨bl,x1,x2,x3,x4,y1,y2,y3,y4,vn,rfl,hgg,hn,hc⟩:=hx
  refine gg_ ?_
  refine zf (S.at h10) ?_
  refine gg_ ?_
  refine zf (S.at (hc 4 _ rfl)) ?_
  refine gg_ ?_
  simp only [hgi] at hK2
  have e : decide ((R.length : Int)≠(g.tys.length : Nat)) = !decide (R.length=g.tys.length):=by
   rw [← decide_not,decide_eq_decide];omega
  rw [e]
  exact hK2
 refine xk (c:=match u.fs[n.toNat]? with|some g=>R.any (Xt g)|none=>false) (fun hb K2 hK2=>?_) fun w5 e5=>?_
 ·have hE : fnE u n=0:=by
   simp only [Bool.or_eq_false_iff,decide_eq_false_iff_not,Decidable.not_not] at hb
   exact hb.1
  obtain ⟨g,hgi,hnu,hx⟩:=hg' hE
  simp only [hgi] at hK2
  refine gp_ ?_
  refine Xs (f:=Xt g) S.holds hR1 (by omega) (fun x hxm c w K hr hc hK=>abl hr hx h10 hc hK) fun w5 e5=>hK2 _ e5
 have S:=S.go e5
 have hYe : okC u n R = !((decide (fnE u n≠0) || !(match u.fs[n.toNat]? with|some g=>decide (R.length=g.tys.length)|none=>false))||(match u.fs[n.toNat]? with|some g=>R.any (Xt g)|none=>false)):=by
  rw [okC]
  by_cases hE : fnE u n=0
  ·obtain ⟨g,hgi,_⟩:=hg' hE
   simp [hgi,hE,ac5]
  ·simp [hE]
 refine c_b (fun hb=>?_) (fun hb=>?_)
 ·rw [hb] at hYe
  rw [abk,hYe] at h
  exact h _ S.ext
 rw [hb] at hYe
 have hE : fnE u n=0:=by
  simp only [Bool.or_eq_false_iff,decide_eq_false_iff_not,Decidable.not_not] at hb
  exact hb.1.1
 obtain ⟨g,hgi,hnu,hx⟩:=hg' hE
 rw [abk,hYe,J4] at h
 simp only [hgi,Bool.not_false,if_true] at h
 simp only [hgi,Bool.or_eq_false_iff,Bool.not_eq_false',decide_eq_true_eq] at hb
 obtain ⟨⟨_,hRl⟩,hbad⟩:=hb
 have hF:=xL hE hgi
 have hnf:=hF.net.few
 have hmf:=hF.loc.few
 have hgl:=zQ (g:=g)
 have hx0:=hx
 obtain ⟨bl,x1,x2,x3,x4,y1,y2,y3,y4,vn,rfl,hgg,hn,hc⟩:=hx
 refine gp_ ?_
 refine zk (ι:=Nat) (fun i=>[.int .i64 (i : Nat)]) (fun i w'=>i≤R.length∧(∀ y<i,∀ p<g.pts.length,Yw g R y p=false)∧StX noX w υ w' []) (fun i=>R.length - i) 0 rfl ⟨Nat.zero_le _,fun y hy=>absurd hy (Nat.not_lt_zero _),S⟩ ?_
 repeat clear S
 rintro i d w17 ⟨hi,hpre,S⟩ K14 hK14
 rw [List.getD_cons_zero]
 refine gp_ ?_
 refine zm (fun hlt=>?_) (fun hge=>?_)
 ·have hlt : i<R.length:=by omega
  obtain ⟨bR,oR,cR,hpr,hcl,hcR,hcell⟩:=hR1.get (by decide) hlt
  have hok : Xt g R[i]=false:=by
   rw [Bool.eq_false_iff];intro hc;rw [List.any_eq_true.2 ⟨_,List.getElem_mem hlt,hc⟩] at hbad;cases hbad
  have hgD : R.getD i (0,[])=R[i]:=by rw [List.getD_eq_getElem?_getD,List.getElem?_eq_getElem hlt];rfl
  have hcI : ∀ q,Yw g R i q=ac4 g i (Yv g R[i]) q:=fun q=>by rw [Yw,hgD]
  generalize R[i]=x at hcR hok hcI
  obtain ⟨W,ws⟩:=x
  obtain ⟨pw,cw,rfl,hS⟩:=hcR
  cases hpr
  rw [Xt,Bool.or_eq_false_iff,Bool.not_eq_false',decide_eq_false_iff_not,Decidable.not_not] at hok
  obtain ⟨hmay,hW⟩:=hok
  have hmay : BM.May W ws:=by
   by_cases hM : BM.May W ws
   ·exact hM
   ·rw [BM.mayB_false hM] at hmay;cases hmay
  have hW : W=(g.pts.length : Int):=hW
  have hwl : (ws.length : Int)=(W+63) / 64:=hmay.2.2.1
  have hmk : ∀ y : Int,isN (ze g) y→mk' (Yv g (W,ws)) y=bit ws y.toNat:=fun y hy=>agj hy.1 (by have:=hy.2;omega)
  refine gp_ ?_
  refine zF (n:=2) rfl (fun j v hj=>by rw [Int.toNat_natCast];exact S.at (hcell j v hj)) ?_
  refine S.al fun b12 w18 S=>?_
  refine S.stB (b:=b12) fun w19 S=>?_
  have S : StX noX w υ w19 [.cell b12 [.int .i64 W,.slice pw ws.length cw] 72]:=S
  have S:=S.frzAt b12
  have h12 : Ob (υ.or (Go.Sh.one b12 [.int .i64 W,.slice pw ws.length cw] 72)) fun w=>w.cell? ⟨b12,1,none⟩=some (.slice pw ws.length cw):=fun w' hw'=>by
   have B : Blk w' b12 [.int .i64 W,.slice pw ws.length cw] 72:=zH w' (hw'.le (h:=inferInstance))
   exact B.cell 1
  have hS:=hS.cells (s:=υ.or (Go.Sh.one b12 [.int .i64 W,.slice pw ws.length cw] 72))
  have hx1:=hx0.up (s:=υ.or (Go.Sh.one b12 [.int .i64 W,.slice pw ws.length cw] 72))
  have h101:=h10.up (s:=υ.or (Go.Sh.one b12 [.int .i64 W,.slice pw ws.length cw] 72))
  have hc61:=(hc 6 _ rfl).up (s:=υ.or (Go.Sh.one b12 [.int .i64 W,.slice pw ws.length cw] 72))
  have hcv:=(hc 7 _ rfl).up (s:=υ.or (Go.Sh.one b12 [.int .i64 W,.slice pw ws.length cw] 72))
  have hn1:=NetG.up hn (s:=υ.or (Go.Sh.one b12 [.int .i64 W,.slice pw ws.length cw] 72))
  refine gp_ ?_
  refine zf (S.at h101) ?_
  refine gg_ ?_
  refine zf (S.at hc61) ?_
  refine gg_ ?_
  refine zk (ι:=Nat) (fun i=>[.int .i64 (i : Nat)]) (fun q w'=>q≤g.pts.length∧(∀ p<q,Yw g R i p=false)∧StX noX w (υ.or (Go.Sh.one b12 [.int .i64 W,.slice pw ws.length cw] 72)) w' []) (fun q=>g.pts.length - q) 0 rfl ⟨Nat.zero_le _,fun y hy=>absurd hy (Nat.not_lt_zero _),S⟩ ?_
  repeat clear S
  rintro q d w23 ⟨hq,hpreq,S⟩ K20 hK20
  rw [List.getD_cons_zero]
  refine gp_ ?_
  refine zm (fun hltq=>?_) (fun hgeq=>?_)
  ·have hltq : q<g.pts.length:=by omega
   have hqN : isN (ze g) (q : Int):=⟨by omega,by omega⟩
   obtain ⟨p,hp,hpm,hue,hee⟩:=Ys hqN
   have hp' : g.pts[q]? = some p:=by rw [← hp,Int.toNat_natCast]
   have hus : decide (Usd g (i : Nat) (q : Int))=decide ((i : Int) ∈ zC p):=by rw [← hue];rfl
   have hen : decide (zz g (i : Nat) (q : Int))=decide (yF p=some (i : Int)):=by rw [← hee];rfl
   have hnl : q<(lkN g).length:=by rw [XG];omega
   have hat:=ahb hp' hnl
   obtain ⟨pn,cn,hvn,_,_⟩:=hn1.sl.shape
   subst hvn
   obtain ⟨bn,on,vl,rfl,_,hnc,hnv⟩:=Z4 hn1 hnl
   rw [hat] at hnv
   refine zf (S.at h101) ?_
   refine jm S.holds hx1 hqN.1 hp (hF.args p hpm) fun w24 e24=>?_
   have S:=S.go e24
   refine gS_ ?_
   refine zi (c:=decide ((yF p).getD 0≠i)) (fun _ K2 hK2=>by refine gg_ ?_;exact hK2) ?_
   have hEn : (!(yF p).isSome||decide ((yF p).getD 0≠(i : Int))) = !decide (zz g (i : Nat) (q : Int)):=by
    rw [hen]
    cases yF p with
    |none=>rfl
    |some y=>simp
   rw [hEn]
   have hlN : ∀ y ∈ lkP p,isN (ze g) y:=fun y hy=>kU hF.net.ok ((abm hp').2 hy)
   have hlf:=agu (p:=p)
   refine zh (c:=(nxt (ze g) (q : Int)).any fun y=>mk' (Yv g (W,ws)) y) (fun _ K2 hK2=>?_) ?_
   ·refine zf (S.at h101) ?_
    refine gg_ ?_
    refine zf (S.at hcv) ?_
    refine gg_ ?_
    refine zf (by rw [Int.toNat_natCast];exact S.at hnc) ?_
    refine YP (f:=fun y=>mk' (Yv g (W,ws)) y) S.holds hnv.sl (by omega) (fun y hy K hK=>?_) ?_
    ·have hyN:=hlN y hy
     have y0:=hyN.1;have y1:=hyN.2
     refine Xu S.holds h12 hS y0 (by omega) (by omega) ?_
     rw [← hmk y hyN];exact hK
    ·rw [agt hp']
     exact hK2
   refine xk (c:=decide (Usd g (i : Nat) (q : Int))) (fun _ K2 hK2=>?_) fun w37 e37=>?_
   ·refine zf (S.at h101) ?_
    refine ZI S.holds hx1 hqN.1 hp (hF.args p hpm) fun w38 e38=>?_
    rw [← hus]
    exact hK2 _ e38
   have S:=S.go e37
   refine zh (c:=!mk' (Yv g (W,ws)) (q : Int)) (fun _ K2 hK2=>?_) ?_
   ·refine Xu S.holds h12 hS hqN.1 (by omega) (by omega) ?_
    refine gp_ ?_
    rw [hmk _ hqN] at hK2
    exact hK2
   have hcc : ((!decide (zz g (i : Nat) (q : Int))&&((nxt (ze g) (q : Int)).any fun y=>mk' (Yv g (W,ws)) y)||decide (Usd g (i : Nat) (q : Int))) && !mk' (Yv g (W,ws)) (q : Int))=Yw g R i q:=by
    rw [hcI,ac4,xf,Bool.or_comm (decide (Usd g (i : Nat) (q : Int)))]
   rw [hcc]
   refine c_b (fun hb=>?_) (fun hb=>?_)
   ·have e:=aha (b:=Yw g R) hlt hltq hpre hpreq hb
    rw [abj,e] at h
    exact h _ S.ext
   ·refine gp_ ?_
    exact hK20 (q+1) _ ⟨hltq,fun p hp=>by
     rcases Nat.lt_or_ge p q with h|h
     ·exact hpreq p h
     ·rw [show p=q by omega];exact hb,S⟩ (by omega)
  ·have hqe : q=g.pts.length:=by omega
   subst hqe
   refine gp_ ?_
   exact hK14 (i+1) _ ⟨hlt,fun y hy=>by
    rcases Nat.lt_or_ge y i with h|h
    ·exact hpre y h
    ·rw [show y=i by omega];exact hpreq,S.less (fun b o h=>.inl h) (List.Sublist.refl _)⟩ (by omega)
 ·have hie : i=R.length:=by omega
  subst hie
  rw [abj,ack hpre] at h
  exact h _ S.ext
end Go.Proofs
end
section
namespace Go.Proofs.Tryz
open Go.Sh
set_option maxRecDepth 100000
def jZ (t0 t1 t2 : Value) (w : World) (K : VW) : Prop:=
 pw w (Instr.box 25 t0) fun t3 w1=>
 lo w1 25 t3 fun t33=>ca vN #[t33] w1 fun t34 w2=>
 pp (Op.unary .not t34) fun t35=>zc t35 (ca xP #[] w2 fun t36 w3=>
 K t36 w3) (lo w2 25 t3 fun t38=>ca jx #[t38,t1,t2] w2 fun t41 w4=>
 pe t41 0 fun t42=>pe t41 1 fun t43=>bt .neq 29 t43 (i6 0) fun t45=>zc t45 (pp (Builtin.len_ #[28] 3 #[t42]) fun t47=>bt .eql 3 t47 (i6 0) fun t48=>za (fun K5=>gIf t48 true (ca xP #[] w4 fun t50 w9=>
 K5 [t50] w9) (K5 [undef] w4)) (fun s6 _d7 w8=>
 zb t48 (s6.getD 0 undef) fa_ fun t51=>K t51 w8)) (lo w4 25 t3 fun t53=>ca kW #[t53,t1,t2] w4 fun t56 w10=>
 pe t56 0 fun t57=>pe t56 1 fun t58=>lo w10 25 t3 fun t60=>ca jl #[t60,t1,t2] w10 fun t63 w11=>
 pe t63 0 fun t64=>pe t63 1 fun t65=>pe t63 2 fun t66=>lo w11 25 t3 fun t68=>ca vA #[t68,t1,t2] w11 fun t71 w12=>
 pe t71 0 fun t72=>pe t71 1 fun t73=>bt .neq 29 t58 (i6 0) fun t75=>za (fun K13=>gIf t75 false (bt .neq 29 t66 (i6 0) fun t78=>K13 [t78] w12) (K13 [undef] w12)) (fun s14 _d15 w16=>
 zb t75 tr_ (s14.getD 0 undef) fun t79=>za (fun K17=>gIf t79 false (bt .neq 29 t73 (i6 0) fun t82=>K17 [t82] w16) (K17 [undef] w16)) (fun s18 _d19 w20=>
 zb t79 tr_ (s18.getD 0 undef) fun t83=>za (fun K21=>gIf t83 false (fl w20 t3 25 1 23 fun t87=>px 23 t87 t1 fun t89=>fl w20 t89 38 4 34 fun t91=>pp (Builtin.len_ #[34] 3 #[t91]) fun t92=>ca xw #[t57,t92] w20 fun t93 w25=>
 pp (Op.unary .not t93) fun t94=>K21 [t94] w25) (K21 [undef] w20)) (fun s22 _d23 w24=>
 zb t83 tr_ (s22.getD 0 undef) fun t95=>za (fun K26=>gIf t95 false (fl w24 t3 25 1 23 fun t99=>px 23 t99 t1 fun t101=>fl w24 t101 38 4 34 fun t103=>pp (Builtin.len_ #[34] 3 #[t103]) fun t104=>ca xw #[t42,t104] w24 fun t105 w30=>
 pp (Op.unary .not t105) fun t106=>K26 [t106] w30) (K26 [undef] w24)) (fun s27 _d28 w29=>
 zb t95 tr_ (s27.getD 0 undef) fun t107=>zc t107 (K fa_ w29) (fl w29 t3 25 1 23 fun t109=>px 23 t109 t1 fun t111=>fl w29 t111 38 4 34 fun t113=>pp (Builtin.len_ #[34] 3 #[t113]) fun t114=>pw w29 (Instr.makeSlice 28 t114 t114) fun t115 w31=>
 zr [(i6 0)] w31 (fun s33 _d34 w35 K32=>
 pp (Builtin.len_ #[28] 3 #[t57]) fun t118=>bf .lss 3 (s33.getD 0 undef) t118 fun t119=>zc t119 (xl w35 28 t57 (s33.getD 0 undef) 3 fun t126=>xl w35 28 t115 t126 3 fun t128=>bt .add 3 t128 (i6 1) fun t129=>px 28 t115 t126 fun t130=>so w35 3 t130 t129 fun w36=>bt .add 3 (s33.getD 0 undef) (i6 1) fun t121=>K32 [t121] w36) (zr [(i6 0)] w35 (fun s38 _d39 w40 K37=>
 pp (Builtin.len_ #[28] 3 #[t72]) fun t133=>bf .lss 3 (s38.getD 0 undef) t133 fun t134=>zc t134 (lo w40.drew 25 t3 fun t138=>xl w40.drew 28 t72 (s38.getD 0 undef) 3 fun t143=>ca jx #[t138,t1,t143] w40.drew fun t144 w41=>
 pe t144 0 fun t145=>pe t144 1 fun t146=>bt .neq 29 t146 (i6 0) fun t148=>za (fun K42=>gIf t148 false (pp (Builtin.len_ #[28] 3 #[t115]) fun t152=>ca xw #[t145,t152] w41 fun t153 w46=>
 pp (Op.unary .not t153) fun t154=>K42 [t154] w46) (K42 [undef] w41)) (fun s43 _d44 w45=>
 zb t148 tr_ (s43.getD 0 undef) fun t155=>zc t155 (K fa_ w45) (zr [(i6 0)] w45 (fun s48 _d49 w50 K47=>
 pp (Builtin.len_ #[28] 3 #[t145]) fun t158=>bf .lss 3 (s48.getD 0 undef) t158 fun t159=>zc t159 (za (fun K51=>
 pp (Op.unary .not t65) fun t163=>za (fun K55=>gIf t163 false (xl w50 28 t145 (s48.getD 0 undef) 3 fun t168=>bf .neq 3 t168 t64 fun t170=>K55 [t170] w50) (K55 [undef] w50)) (fun s56 _d57 w58=>
 zb t163 tr_ (s56.getD 0 undef) fun t171=>zc t171 (xl w58 28 t145 (s48.getD 0 undef) 3 fun t176=>xl w58 28 t115 t176 3 fun t178=>bt .add 3 t178 (i6 1) fun t179=>px 28 t115 t176 fun t180=>so w58 3 t180 t179 fun w59=>K51 [] w59) (K51 [] w58))) (fun _s52 _d53 w54=>
 bt .add 3 (s48.getD 0 undef) (i6 1) fun t161=>K47 [t161] w54)) (bt .add 3 (s38.getD 0 undef) (i6 1) fun t136=>K37 [t136] w50))))) (zr [(i6 0),(i6 0)] w40 (fun s61 _d62 w63 K60=>
 pp (Builtin.len_ #[28] 3 #[t115]) fun t183=>bf .lss 3 (s61.getD 1 undef) t183 fun t184=>zc t184 (za (fun K64=>
 xl w63 28 t115 (s61.getD 1 undef) 3 fun t190=>bt .gtr 3 t190 (i6 0) fun t191=>zc t191 (bt .add 3 (s61.getD 0 undef) (i6 1) fun t193=>K64 [t193] w63) (K64 [(s61.getD 0 undef)] w63)) (fun s65 _d66 w67=>
 bt .add 3 (s61.getD 1 undef) (i6 1) fun t186=>K60 [(s65.getD 0 undef),t186] w67)) (pp (Builtin.len_ #[28] 3 #[t42]) fun t196=>bf .neq 3 (s61.getD 0 undef) t196 fun t197=>zc t197 (K fa_ w63) (zr [(i6 0)] w63 (fun s69 _d70 w71 K68=>
 pp (Builtin.len_ #[28] 3 #[t42]) fun t200=>bf .lss 3 (s69.getD 0 undef) t200 fun t201=>zc t201 (lo w71.drew 25 t3 fun t205=>xl w71.drew 28 t42 (s69.getD 0 undef) 3 fun t210=>ca j9 #[t205,t1,t210,t2] w71.drew fun t212 w72=>
 pe t212 0 fun t213=>pe t212 1 fun t214=>pe t212 2 fun t215=>xl w72 28 t42 (s69.getD 0 undef) 3 fun t220=>xl w72 28 t115 t220 3 fun t222=>bt .eql 3 t222 (i6 0) fun t223=>za (fun K73=>gIf t223 false (bt .neq 29 t215 (i6 0) fun t226=>K73 [t226] w72) (K73 [undef] w72)) (fun s74 _d75 w76=>
 zb t223 tr_ (s74.getD 0 undef) fun t227=>za (fun K77=>gIf t227 false (pp (Op.unary .not t214) fun t230=>K77 [t230] w76) (K77 [undef] w76)) (fun s78 _d79 w80=>
 zb t227 tr_ (s78.getD 0 undef) fun t231=>za (fun K81=>gIf t231 false (pp (Builtin.len_ #[28] 3 #[t213]) fun t234=>bt .eql 3 t234 (i6 0) fun t235=>K81 [t235] w80) (K81 [undef] w80)) (fun s82 _d83 w84=>
 zb t231 tr_ (s82.getD 0 undef) fun t236=>za (fun K85=>gIf t236 false (xl w84 28 t213 (i6 0) 3 fun t240=>bf .neq 3 t240 t2 fun t242=>K85 [t242] w84) (K85 [undef] w84)) (fun s86 _d87 w88=>
 zb t236 tr_ (s86.getD 0 undef) fun t243=>zc t243 (K fa_ w88) (lo w88 25 t3 fun t245=>ca YW #[t245,t1,t213] w88 fun t248 w89=>
 pe t248 0 fun t249=>pe t248 1 fun t250=>pe t248 2 fun t251=>lo w89.drew 25 t3 fun t253=>pp (Builtin.len_ #[28] 3 #[t213]) fun t257=>bt .sub 3 t257 (i6 1) fun t258=>xl w89.drew 28 t213 t258 3 fun t260=>ca kW #[t253,t1,t260] w89.drew fun t261 w90=>
 pe t261 0 fun t262=>pe t261 1 fun t263=>bt .neq 3 t249 (i6 0) fun t265=>za (fun K91=>gIf t265 false (pp (Op.unary .not t250) fun t268=>K91 [t268] w90) (K91 [undef] w90)) (fun s92 _d93 w94=>
 zb t265 tr_ (s92.getD 0 undef) fun t269=>za (fun K95=>gIf t269 false (bt .neq 29 t251 (i6 0) fun t272=>K95 [t272] w94) (K95 [undef] w94)) (fun s96 _d97 w98=>
 zb t269 tr_ (s96.getD 0 undef) fun t273=>za (fun K99=>gIf t273 false (bt .neq 29 t263 (i6 0) fun t276=>K99 [t276] w98) (K99 [undef] w98)) (fun s100 _d101 w102=>
 zb t273 tr_ (s100.getD 0 undef) fun t277=>zc t277 (K fa_ w102) (zr [fa_,(i6 0)] w102 (fun s104 _d105 w106 K103=>
 pp (Builtin.len_ #[28] 3 #[t262]) fun t280=>bf .lss 3 (s104.getD 1 undef) t280 fun t281=>zc t281 (za (fun K107=>gIf (s104.getD 0 undef) false (xl w106.drew 28 t262 (s104.getD 1 undef) 3 fun t289=>xl w106.drew 28 t42 (s69.getD 0 undef) 3 fun t293=>bf .eql 3 t289 t293 fun t294=>K107 [t294] w106.drew) (K107 [undef] w106.drew)) (fun s108 _d109 w110=>
 zb (s104.getD 0 undef) tr_ (s108.getD 0 undef) fun t295=>bt .add 3 (s104.getD 1 undef) (i6 1) fun t283=>K103 [t295,t283] w110)) (pp (Op.unary .not (s104.getD 0 undef)) fun t297=>zc t297 (K fa_ w106) (bt .add 3 (s69.getD 0 undef) (i6 1) fun t203=>K68 [t203] w106))))))))))))) (ca xP #[] w71 fun t298 w111=>
 K t298 w111))))))))))))))))
theorem Xv {t0 t1 t2 : Value} {w : World} {K : VW} (h : jZ t0 t1 t2 w K) : zd prog jX #[t0,t1,t2] w K:=
 okC false (.s (.r (rz 2 0 2)) (.s (.s (.r (rz 3 0 9)) (.c (.s (.r (rz 2 0 2)) (.n)) (.n))) (.s (.r (rz 9 0 129)) (.s (.s (.r (rz 2 0 0)) (.c (.s (.r (ra 4 0 0 (.grp 49 true (ri 1 4 2) [50] (rz 2 5 0)))) (.n)) (.n))) (.s (.r (rz 9 0 129)) (.s (.r (rz 11 0 129)) (.s (.r (rz 9 0 129)) (.s (.s (.r (ra 3 0 0 (.grp 76 false (ri 2 3 0) [78] (ra 2 5 0 (.grp 80 false (ri 2 7 0) [82] (ra 2 9 0 (.grp 84 false (ri 10 11 135184) [94] (ra 2 21 0 (.grp 96 false (ri 10 23 135184) [106] (rz 1 33 0)))))))))) (.c (.s (.r (rz 1 0 0)) (.n)) (.n))) (.s (.r (rz 9 0 33796)) (.s (.s (.r (rz 1 0 0)) (.b (.lp [16] (.s (.s (.r (rz 4 0 0)) (.c (.n) (.n))) (.s (.b (.r (rz 10 0 528640))) (.r (rz 3 0 0))))))) (.s (.s (.r (rz 1 0 0)) (.b (.lp [17] (.s (.s (.r (rz 4 0 0)) (.c (.n) (.n))) (.s (.b (.s (.r (rz 12 0 9217)) (.s (.s (.r (ra 3 0 0 (.grp 149 false (ri 5 3 128) [154] (rz 1 8 0)))) (.c (.s (.r (rz 1 0 0)) (.n)) (.n))) (.s (.r (rz 1 0 0)) (.b (.lp [20] (.s (.s (.r (rz 4 0 0)) (.c (.n) (.n))) (.j [] (.b (.s (.r (ra 3 0 0 (.grp 164 false (ri 6 3 64) [170] (rz 1 9 0)))) (.c (.r (rz 10 0 528640)) (.n)))) (.r (rz 3 0 0)))))))))) (.r (rz 3 0 0))))))) (.s (.r (rz 1 0 0)) (.s (.s (.r (rz 1 0 0)) (.b (.lp [21,22] (.s (.s (.r (rz 4 0 0)) (.c (.n) (.n))) (.j [21] (.b (.s (.r (rz 5 0 64)) (.c (.r (rz 3 0 0)) (.n)))) (.r (rz 3 0 0))))))) (.s (.s (.r (rz 4 0 0)) (.c (.s (.r (rz 1 0 0)) (.n)) (.n))) (.s (.s (.r (rz 1 0 0)) (.b (.lp [23] (.s (.s (.r (rz 4 0 0)) (.c (.n) (.n))) (.s (.b (.s (.r (rz 15 0 33793)) (.s (.s (.r (ra 9 0 4352 (.grp 224 false (ri 2 9 0) [226] (ra 2 11 0 (.grp 228 false (ri 2 13 0) [230] (ra 2 15 0 (.grp 232 false (ri 3 17 0) [235] (ra 2 20 0 (.grp 237 false (ri 5 22 16) [242] (rz 1 27 0)))))))))) (.c (.s (.r (rz 1 0 0)) (.n)) (.n))) (.s (.r (rz 11 0 129)) (.s (.r (rz 14 0 147457)) (.s (.s (.r (ra 3 0 0 (.grp 266 false (ri 2 3 0) [268] (ra 2 5 0 (.grp 270 false (ri 2 7 0) [272] (ra 2 9 0 (.grp 274 false (ri 2 11 0) [276] (rz 1 13 0)))))))) (.c (.s (.r (rz 1 0 0)) (.n)) (.n))) (.s (.r (rz 1 0 0)) (.s (.s (.r (rz 1 0 0)) (.b (.lp [31,32] (.s (.s (.r (rz 4 0 0)) (.c (.n) (.n))) (.s (.b (.r (ra 2 0 0 (.grp 285 false (ri 9 2 16448) [294] (rz 2 11 0))))) (.r (rz 3 0 0))))))) (.s (.r (rz 2 0 0)) (.c (.s (.r (rz 1 0 0)) (.n)) (.n))))))))))) (.r (rz 3 0 0))))))) (.s (.r (rz 2 0 2)) (.n))))))))))))))))) func11 rfl (by kernel_rfl) (by kernel_rfl) h
def Xw (t0 : Value) (w : World) (K : VW) : Prop:=
 pw w (Instr.box 25 t0) fun t1 w1=>
 fl w1 t1 25 0 22 fun t7=>pp (Builtin.len_ #[22] 3 #[t7]) fun t8=>bt .gtr 3 t8 (i6 40) fun t9=>za (fun K2=>gIf t9 false (fl w1 t1 25 1 23 fun t12=>pp (Builtin.len_ #[23] 3 #[t12]) fun t13=>bt .gtr 3 t13 (i6 40) fun t14=>K2 [t14] w1) (K2 [undef] w1)) (fun s3 _d4 w5=>
 zb t9 tr_ (s3.getD 0 undef) fun t15=>zc t15 (K fa_ w5) (zr [(i6 0)] w5 (fun s7 _d8 w9 K6=>
 fl w9 t1 25 0 22 fun t18=>pp (Builtin.len_ #[22] 3 #[t18]) fun t19=>bf .lss 3 (s7.getD 0 undef) t19 fun t20=>zc t20 (fl w9 t1 25 0 22 fun t24=>px 22 t24 (s7.getD 0 undef) fun t26=>fl w9 t26 95 1 93 fun t28=>pp (Builtin.len_ #[93] 3 #[t28]) fun t29=>bt .gtr 3 t29 (i6 20) fun t30=>zc t30 (K fa_ w9) (bt .add 3 (s7.getD 0 undef) (i6 1) fun t22=>K6 [t22] w9)) (zr [(i6 0),(i6 0)] w9 (fun s11 _d12 w13 K10=>
 fl w13 t1 25 1 23 fun t33=>pp (Builtin.len_ #[23] 3 #[t33]) fun t34=>bf .lss 3 (s11.getD 1 undef) t34 fun t35=>zc t35 (fl w13.drew t1 25 1 23 fun t40=>px 23 t40 (s11.getD 1 undef) fun t42=>fl w13.drew t42 38 6 36 fun t44=>pp (Builtin.len_ #[36] 3 #[t44]) fun t45=>fl w13.drew t1 25 1 23 fun t47=>px 23 t47 (s11.getD 1 undef) fun t49=>fl w13.drew t49 38 4 34 fun t51=>pp (Builtin.len_ #[34] 3 #[t51]) fun t52=>bf .add 3 t45 t52 fun t53=>bf .add 3 (s11.getD 0 undef) t53 fun t54=>fl w13.drew t1 25 1 23 fun t56=>px 23 t56 (s11.getD 1 undef) fun t58=>fl w13.drew t58 38 6 36 fun t60=>pp (Builtin.len_ #[36] 3 #[t60]) fun t61=>bt .gtr 3 t61 (i6 150) fun t62=>za (fun K14=>gIf t62 false (fl w13.drew t1 25 1 23 fun t65=>px 23 t65 (s11.getD 1 undef) fun t67=>fl w13.drew t67 38 4 34 fun t69=>pp (Builtin.len_ #[34] 3 #[t69]) fun t70=>bt .gtr 3 t70 (i6 150) fun t71=>K14 [t71] w13.drew) (K14 [undef] w13.drew)) (fun s15 _d16 w17=>
 zb t62 tr_ (s15.getD 0 undef) fun t72=>za (fun K18=>gIf t72 false (bt .gtr 3 t54 (i6 600) fun t75=>K18 [t75] w17) (K18 [undef] w17)) (fun s19 _d20 w21=>
 zb t72 tr_ (s19.getD 0 undef) fun t76=>zc t76 (K fa_ w21) (bt .add 3 (s11.getD 1 undef) (i6 1) fun t37=>K10 [t54,t37] w21)))) (K tr_ w13))))))
theorem V0 {t0 : Value} {w : World} {K : VW} (h : Xw t0 w K) : zd prog vN #[t0] w K:=
 okC false (.s (.r (rz 2 0 2)) (.s (.s (.r (ra 5 0 4 (.grp 10 false (ri 4 5 4) [14] (rz 1 9 0)))) (.c (.s (.r (rz 1 0 0)) (.n)) (.n))) (.s (.r (rz 1 0 0)) (.s (.s (.r (rz 1 0 0)) (.b (.lp [4] (.s (.s (.r (rz 5 0 16)) (.c (.n) (.n))) (.s (.b (.s (.r (rz 8 0 1028)) (.c (.s (.r (rz 1 0 0)) (.n)) (.n)))) (.r (rz 3 0 0))))))) (.s (.s (.r (rz 1 0 0)) (.b (.lp [3,5] (.s (.s (.r (rz 5 0 16)) (.c (.n) (.n))) (.s (.b (.s (.r (rz 18 0 67375120)) (.s (.r (ra 9 0 1028 (.grp 63 false (ri 8 9 1028) [71] (ra 2 17 0 (.grp 73 false (ri 2 19 0) [75] (rz 1 21 0)))))) (.c (.s (.r (rz 1 0 0)) (.n)) (.n))))) (.r (rz 3 0 0))))))) (.s (.r (rz 1 0 0)) (.n))))))) func34 rfl (by kernel_rfl) (by kernel_rfl) h
def YI (w : World) (K : VW) : Prop:=
 ca vO #[] w fun t18 w1=>
 pw w1 (Instr.alloc 25 true (.tuple #[])) fun t1 w2=>
 so w2 25 t1 t18 fun w3=>lo w3 25 t1 fun t20=>ca Zt #[t20,(i6 0)] w3 fun t21 w4=>
 pe t21 0 fun t22=>pe t21 1 fun t23=>lo w4 25 t1 fun t25=>ca jx #[t25,(i6 0),(i6 1)] w4 fun t26 w5=>
 pe t26 0 fun t27=>pe t26 1 fun t28=>lo w5 25 t1 fun t30=>ca kW #[t30,(i6 0),(i6 2)] w5 fun t31 w6=>
 pe t31 0 fun t32=>pe t31 1 fun t33=>lo w6 25 t1 fun t35=>ca jl #[t35,(i6 0),(i6 0)] w6 fun t36 w7=>
 pe t36 0 fun t37=>pe t36 1 fun t38=>pe t36 2 fun t39=>lo w7 25 t1 fun t41=>ca j9 #[t41,(i6 0),(i6 2),(i6 1)] w7 fun t42 w8=>
 pe t42 0 fun t43=>pe t42 1 fun t44=>pe t42 2 fun t45=>lo w8 25 t1 fun t47=>ca jM #[t47,(i6 0),t22] w8 fun t49 w9=>
 pe t49 0 fun _t50=>pe t49 1 fun _t51=>pe t49 2 fun t52=>pe t49 3 fun t53=>bt .eql 29 t23 (i6 0) fun t55=>za (fun K10=>gIf t55 true (pp (Builtin.len_ #[63] 3 #[t22]) fun t58=>bt .eql 3 t58 (i6 3) fun t59=>K10 [t59] w9) (K10 [undef] w9)) (fun s11 _d12 w13=>
 zb t55 (s11.getD 0 undef) fa_ fun t60=>za (fun K14=>gIf t60 true (px 63 t22 (i6 2) fun t63=>fl w13 t63 72 0 3 fun t65=>bt .eql 3 t65 (i6 4) fun t66=>K14 [t66] w13) (K14 [undef] w13)) (fun s15 _d16 w17=>
 zb t60 (s15.getD 0 undef) fa_ fun t67=>za (fun K18=>gIf t67 true (bt .eql 29 t28 (i6 0) fun t70=>K18 [t70] w17) (K18 [undef] w17)) (fun s19 _d20 w21=>
 zb t67 (s19.getD 0 undef) fa_ fun t71=>za (fun K22=>gIf t71 true (pp (Builtin.len_ #[28] 3 #[t27]) fun t74=>bt .eql 3 t74 (i6 2) fun t75=>K22 [t75] w21) (K22 [undef] w21)) (fun s23 _d24 w25=>
 zb t71 (s23.getD 0 undef) fa_ fun t76=>za (fun K26=>gIf t76 true (xl w25 28 t27 (i6 0) 3 fun t80=>bt .eql 3 t80 (i6 0) fun t81=>K26 [t81] w25) (K26 [undef] w25)) (fun s27 _d28 w29=>
 zb t76 (s27.getD 0 undef) fa_ fun t82=>za (fun K30=>gIf t82 true (xl w29 28 t27 (i6 1) 3 fun t86=>bt .eql 3 t86 (i6 2) fun t87=>K30 [t87] w29) (K30 [undef] w29)) (fun s31 _d32 w33=>
 zb t82 (s31.getD 0 undef) fa_ fun t88=>za (fun K34=>gIf t88 true (bt .eql 29 t33 (i6 0) fun t91=>K34 [t91] w33) (K34 [undef] w33)) (fun s35 _d36 w37=>
 zb t88 (s35.getD 0 undef) fa_ fun t92=>za (fun K38=>gIf t92 true (pp (Builtin.len_ #[28] 3 #[t32]) fun t95=>bt .eql 3 t95 (i6 1) fun t96=>K38 [t96] w37) (K38 [undef] w37)) (fun s39 _d40 w41=>
 zb t92 (s39.getD 0 undef) fa_ fun t97=>za (fun K42=>gIf t97 true (xl w41 28 t32 (i6 0) 3 fun t101=>bt .eql 3 t101 (i6 2) fun t102=>K42 [t102] w41) (K42 [undef] w41)) (fun s43 _d44 w45=>
 zb t97 (s43.getD 0 undef) fa_ fun t103=>za (fun K46=>gIf t103 true (bt .eql 3 t37 (i6 2) fun t106=>K46 [t106] w45) (K46 [undef] w45)) (fun s47 _d48 w49=>
 zb t103 (s47.getD 0 undef) fa_ fun t107=>za (fun K50=>gIf t107 true (K50 [t38] w49) (K50 [undef] w49)) (fun s51 _d52 w53=>
 zb t107 (s51.getD 0 undef) fa_ fun t110=>za (fun K54=>gIf t110 true (bt .eql 29 t39 (i6 0) fun t113=>K54 [t113] w53) (K54 [undef] w53)) (fun s55 _d56 w57=>
 zb t110 (s55.getD 0 undef) fa_ fun t114=>za (fun K58=>gIf t114 true (K58 [t44] w57) (K58 [undef] w57)) (fun s59 _d60 w61=>
 zb t114 (s59.getD 0 undef) fa_ fun t117=>za (fun K62=>gIf t117 true (pp (Builtin.len_ #[28] 3 #[t43]) fun t120=>bt .eql 3 t120 (i6 2) fun t121=>K62 [t121] w61) (K62 [undef] w61)) (fun s63 _d64 w65=>
 zb t117 (s63.getD 0 undef) fa_ fun t122=>za (fun K66=>gIf t122 true (bt .eql 29 t45 (i6 0) fun t125=>K66 [t125] w65) (K66 [undef] w65)) (fun s67 _d68 w69=>
 zb t122 (s67.getD 0 undef) fa_ fun t126=>za (fun K70=>gIf t126 true (K70 [t52] w69) (K70 [undef] w69)) (fun s71 _d72 w73=>
 zb t126 (s71.getD 0 undef) fa_ fun t129=>za (fun K74=>gIf t129 true (bt .eql 29 t53 (i6 0) fun t132=>K74 [t132] w73) (K74 [undef] w73)) (fun s75 _d76 w77=>
 zb t129 (s75.getD 0 undef) fa_ fun t133=>K t133 w77)))))))))))))))))
theorem J5 {w : World} {K : VW} (h : YI  w K) : zd prog xP #[] w K:=
 okC false (.s (.r (rz 1 0 0)) (.s (.r (rz 3 0 42)) (.s (.r (rz 7 0 9)) (.s (.r (rz 7 0 9)) (.s (.r (rz 7 0 9)) (.s (.r (rz 9 0 9)) (.s (.r (rz 9 0 9)) (.s (.r (rz 12 0 33)) (.s (.r (ra 3 0 0 (.grp 56 true (ri 3 3 0) [59] (ra 2 6 0 (.grp 61 true (ri 5 8 64) [66] (ra 2 13 0 (.grp 68 true (ri 2 15 0) [70] (ra 2 17 0 (.grp 72 true (ri 3 19 0) [75] (ra 2 22 0 (.grp 77 true (ri 4 24 16) [81] (ra 2 28 0 (.grp 83 true (ri 4 30 16) [87] (ra 2 34 0 (.grp 89 true (ri 2 36 0) [91] (ra 2 38 0 (.grp 93 true (ri 3 40 0) [96] (ra 2 43 0 (.grp 98 true (ri 4 45 16) [102] (ra 2 49 0 (.grp 104 true (ri 2 51 0) [106] (ra 2 53 0 (.grp 108 true (ri 1 55 0) [109] (ra 2 56 0 (.grp 111 true (ri 2 58 0) [113] (ra 2 60 0 (.grp 115 true (ri 1 62 0) [116] (ra 2 63 0 (.grp 118 true (ri 3 65 0) [121] (ra 2 68 0 (.grp 123 true (ri 2 70 0) [125] (ra 2 72 0 (.grp 127 true (ri 1 74 0) [128] (ra 2 75 0 (.grp 130 true (ri 2 77 0) [132] (rz 2 79 0)))))))))))))))))))))))))))))))))))) (.n)))))))))) func35 rfl (by kernel_rfl) (by kernel_rfl) h
def Z8 (t0 t1 : Value) (w : World) (K : VW) : Prop:=
 zr [(i6 0)] w (fun s2 _d3 w4 K1=>
 pp (Builtin.len_ #[28] 3 #[t0]) fun t8=>bf .lss 3 (s2.getD 0 undef) t8 fun t9=>zc t9 (xl w4 28 t0 (s2.getD 0 undef) 3 fun t15=>bt .lss 3 t15 (i6 0) fun t16=>za (fun K5=>gIf t16 false (xl w4 28 t0 (s2.getD 0 undef) 3 fun t21=>bf .geq 3 t21 t1 fun t23=>K5 [t23] w4) (K5 [undef] w4)) (fun s6 _d7 w8=>
 zb t16 tr_ (s6.getD 0 undef) fun t24=>zc t24 (K fa_ w8) (bt .add 3 (s2.getD 0 undef) (i6 1) fun t11=>K1 [t11] w8))) (K tr_ w4))
theorem Jv {t0 t1 : Value} {w : World} {K : VW} (h : Z8 t0 t1 w K) : zd prog xw #[t0,t1] w K:=
 okC false (.s (.r (rz 1 0 0)) (.s (.s (.r (rz 1 0 0)) (.b (.lp [5] (.s (.s (.r (rz 4 0 0)) (.c (.n) (.n))) (.s (.b (.s (.r (ra 6 0 64 (.grp 17 false (ri 6 6 64) [23] (rz 1 12 0)))) (.c (.s (.r (rz 1 0 0)) (.n)) (.n)))) (.r (rz 3 0 0))))))) (.s (.r (rz 1 0 0)) (.n)))) func53 rfl (by kernel_rfl) (by kernel_rfl) h
def Xx (w : World) (K : VW) : Prop:=
 pw w (Instr.alloc 25 true (.tuple #[])) fun t0 w1=>
 pw w1 (Instr.buildSlice 79 1 #[(0,(i6 (-1)))]) fun t2 w2=>
 pp (Instr.build 81 #[(0,(i6 2)),(1,t2)]) fun t3=>pw w2 (Instr.alloc 81 true (.tuple #[])) fun t1 w3=>
 so w3 81 t1 t3 fun w4=>pp (Instr.build 81 #[(0,(i6 2))]) fun t9=>pp (Instr.build 81 #[(0,(i6 1))]) fun t10=>pp (Instr.build 87 #[(0,(Value.int .u8 4)),(1,t9),(6,t10),(7,tr_),(10,(i6 1))]) fun t11=>pp (Instr.build 81 #[(0,(i6 1))]) fun t12=>lo w4.drew 81 t1 fun t15=>pp (Instr.build 87 #[(0,(Value.int .u8 14))]) fun t18=>((ca yP #[] w4.drew fun t4 w5=>
 Ext w4.drew w5∧
 ((ca yP #[] w5 fun t5 w6=>
 Ext w5 w6∧
 ((ca xV #[tr_] w6 fun t6 w7=>
 Ext w6 w7∧
 ((pw w7 (Instr.buildSlice 34 3 #[(0,t4),(1,t5),(2,t6)]) fun t7 w8=>
 Ext w7 w8∧
 ((pw w8 (Instr.makeSlice 35 (i6 3) (i6 3)) fun t8 w9=>
 Ext w8 w9∧
 ca zn #[(i6 2)] w9 fun t13 w10=>
 Ext w9 w10∧
 pp (Instr.build 87 #[(0,(Value.int .u8 1)),(1,t12),(2,t13),(10,(i6 2))]) fun t14=>ca zn #[(i6 3)] w10 fun t16 w11=>
 Ext w10 w11∧
 pp (Instr.build 87 #[(0,(Value.int .u8 1)),(1,t15),(2,t16),(10,(i6 3))]) fun t17=>pw w11 (Instr.buildSlice 36 4 #[(0,t11),(1,t14),(2,t17),(3,t18)]) fun t19 w12=>
 pp (Instr.build 38 #[(4,t7),(5,t8),(6,t19)]) fun t20=>pw w12 (Instr.buildSlice 23 1 #[(0,t20)]) fun t21 w13=>
 pp (Instr.build 25 #[(1,t21)]) fun t22=>so w13 25 t0 t22 fun w14=>pq w14 (zj 25 t0) fun r15=>K r15 w14)∧
 (ca zn #[(i6 2)] w8 fun t13_17 w16=>
 Ext w8 w16∧
 pp (Instr.build 87 #[(0,(Value.int .u8 1)),(1,t12),(2,t13_17),(10,(i6 2))]) fun t14_18=>((pw w16 (Instr.makeSlice 35 (i6 3) (i6 3)) fun t8_20 w19=>
 Ext w16 w19∧
 ca zn #[(i6 3)] w19 fun t16_22 w21=>
 Ext w19 w21∧
 pp (Instr.build 87 #[(0,(Value.int .u8 1)),(1,t15),(2,t16_22),(10,(i6 3))]) fun t17_23=>pw w21 (Instr.buildSlice 36 4 #[(0,t11),(1,t14_18),(2,t17_23),(3,t18)]) fun t19_25 w24=>
 pp (Instr.build 38 #[(4,t7),(5,t8_20),(6,t19_25)]) fun t20_26=>pw w24 (Instr.buildSlice 23 1 #[(0,t20_26)]) fun t21_28 w27=>
 pp (Instr.build 25 #[(1,t21_28)]) fun t22_29=>so w27 25 t0 t22_29 fun w30=>pq w30 (zj 25 t0) fun r31=>K r31 w30)∧
 (ca zn #[(i6 3)] w16 fun t16_33 w32=>
 Ext w16 w32∧
 pp (Instr.build 87 #[(0,(Value.int .u8 1)),(1,t15),(2,t16_33),(10,(i6 3))]) fun t17_34=>((pw w32 (Instr.makeSlice 35 (i6 3) (i6 3)) fun t8_36 w35=>
 Ext w32 w35∧
 pw w35 (Instr.buildSlice 36 4 #[(0,t11),(1,t14_18),(2,t17_34),(3,t18)]) fun t19_38 w37=>
 pp (Instr.build 38 #[(4,t7),(5,t8_36),(6,t19_38)]) fun t20_39=>pw w37 (Instr.buildSlice 23 1 #[(0,t20_39)]) fun t21_41 w40=>
 pp (Instr.build 25 #[(1,t21_41)]) fun t22_42=>so w40 25 t0 t22_42 fun w43=>pq w43 (zj 25 t0) fun r44=>K r44 w43)∧
 (pw w32 (Instr.buildSlice 36 4 #[(0,t11),(1,t14_18),(2,t17_34),(3,t18)]) fun t19_46 w45=>
 pw w45 (Instr.makeSlice 35 (i6 3) (i6 3)) fun t8_48 w47=>
 Ext w45 w47∧
 pp (Instr.build 38 #[(4,t7),(5,t8_48),(6,t19_46)]) fun t20_49=>pw w47 (Instr.buildSlice 23 1 #[(0,t20_49)]) fun t21_51 w50=>
 pp (Instr.build 25 #[(1,t21_51)]) fun t22_52=>so w50 25 t0 t22_52 fun w53=>pq w53 (zj 25 t0) fun r54=>K r54 w53)))))))∧
 (((pw w7 (Instr.makeSlice 35 (i6 3) (i6 3)) fun t8_56 w55=>
 Ext w7 w55∧
 ((pw w55 (Instr.buildSlice 34 3 #[(0,t4),(1,t5),(2,t6)]) fun t7_58 w57=>
 Ext w55 w57∧
 ca zn #[(i6 2)] w57 fun t13_60 w59=>
 Ext w57 w59∧
 pp (Instr.build 87 #[(0,(Value.int .u8 1)),(1,t12),(2,t13_60),(10,(i6 2))]) fun t14_61=>ca zn #[(i6 3)] w59 fun t16_63 w62=>
 Ext w59 w62∧
 pp (Instr.build 87 #[(0,(Value.int .u8 1)),(1,t15),(2,t16_63),(10,(i6 3))]) fun t17_64=>pw w62 (Instr.buildSlice 36 4 #[(0,t11),(1,t14_61),(2,t17_64),(3,t18)]) fun t19_66 w65=>
 pp (Instr.build 38 #[(4,t7_58),(5,t8_56),(6,t19_66)]) fun t20_67=>pw w65 (Instr.buildSlice 23 1 #[(0,t20_67)]) fun t21_69 w68=>
 pp (Instr.build 25 #[(1,t21_69)]) fun t22_70=>so w68 25 t0 t22_70 fun w71=>pq w71 (zj 25 t0) fun r72=>K r72 w71)∧
 (ca zn #[(i6 2)] w55 fun t13_74 w73=>
 Ext w55 w73∧
 pp (Instr.build 87 #[(0,(Value.int .u8 1)),(1,t12),(2,t13_74),(10,(i6 2))]) fun t14_75=>((pw w73 (Instr.buildSlice 34 3 #[(0,t4),(1,t5),(2,t6)]) fun t7_77 w76=>
 Ext w73 w76∧
 ca zn #[(i6 3)] w76 fun t16_79 w78=>
 Ext w76 w78∧
 pp (Instr.build 87 #[(0,(Value.int .u8 1)),(1,t15),(2,t16_79),(10,(i6 3))]) fun t17_80=>pw w78 (Instr.buildSlice 36 4 #[(0,t11),(1,t14_75),(2,t17_80),(3,t18)]) fun t19_82 w81=>
 pp (Instr.build 38 #[(4,t7_77),(5,t8_56),(6,t19_82)]) fun t20_83=>pw w81 (Instr.buildSlice 23 1 #[(0,t20_83)]) fun t21_85 w84=>
 pp (Instr.build 25 #[(1,t21_85)]) fun t22_86=>so w84 25 t0 t22_86 fun w87=>pq w87 (zj 25 t0) fun r88=>K r88 w87)∧
 (ca zn #[(i6 3)] w73 fun t16_90 w89=>
 Ext w73 w89∧
 pp (Instr.build 87 #[(0,(Value.int .u8 1)),(1,t15),(2,t16_90),(10,(i6 3))]) fun t17_91=>((pw w89 (Instr.buildSlice 34 3 #[(0,t4),(1,t5),(2,t6)]) fun t7_93 w92=>
 Ext w89 w92∧
 pw w92 (Instr.buildSlice 36 4 #[(0,t11),(1,t14_75),(2,t17_91),(3,t18)]) fun t19_95 w94=>
 pp (Instr.build 38 #[(4,t7_93),(5,t8_56),(6,t19_95)]) fun t20_96=>pw w94 (Instr.buildSlice 23 1 #[(0,t20_96)]) fun t21_98 w97=>
 pp (Instr.build 25 #[(1,t21_98)]) fun t22_99=>so w97 25 t0 t22_99 fun w100=>pq w100 (zj 25 t0) fun r101=>K r101 w100)∧
 (pw w89 (Instr.buildSlice 36 4 #[(0,t11),(1,t14_75),(2,t17_91),(3,t18)]) fun t19_103 w102=>
 pw w102 (Instr.buildSlice 34 3 #[(0,t4),(1,t5),(2,t6)]) fun t7_105 w104=>
 Ext w102 w104∧
 pp (Instr.build 38 #[(4,t7_105),(5,t8_56),(6,t19_103)]) fun t20_106=>pw w104 (Instr.buildSlice 23 1 #[(0,t20_106)]) fun t21_108 w107=>
 pp (Instr.build 25 #[(1,t21_108)]) fun t22_109=>so w107 25 t0 t22_109 fun w110=>pq w110 (zj 25 t0) fun r111=>K r111 w110)))))))∧
 (ca zn #[(i6 2)] w7 fun t13_113 w112=>
 Ext w7 w112∧
 pp (Instr.build 87 #[(0,(Value.int .u8 1)),(1,t12),(2,t13_113),(10,(i6 2))]) fun t14_114=>((pw w112 (Instr.buildSlice 34 3 #[(0,t4),(1,t5),(2,t6)]) fun t7_116 w115=>
 Ext w112 w115∧
 ((pw w115 (Instr.makeSlice 35 (i6 3) (i6 3)) fun t8_118 w117=>
 Ext w115 w117∧
 ca zn #[(i6 3)] w117 fun t16_120 w119=>
 Ext w117 w119∧
 pp (Instr.build 87 #[(0,(Value.int .u8 1)),(1,t15),(2,t16_120),(10,(i6 3))]) fun t17_121=>pw w119 (Instr.buildSlice 36 4 #[(0,t11),(1,t14_114),(2,t17_121),(3,t18)]) fun t19_123 w122=>
 pp (Instr.build 38 #[(4,t7_116),(5,t8_118),(6,t19_123)]) fun t20_124=>pw w122 (Instr.buildSlice 23 1 #[(0,t20_124)]) fun t21_126 w125=>
 pp (Instr.build 25 #[(1,t21_126)]) fun t22_127=>so w125 25 t0 t22_127 fun w128=>pq w128 (zj 25 t0) fun r129=>K r129 w128)∧
 (ca zn #[(i6 3)] w115 fun t16_131 w130=>
 Ext w115 w130∧
 pp (Instr.build 87 #[(0,(Value.int .u8 1)),(1,t15),(2,t16_131),(10,(i6 3))]) fun t17_132=>((pw w130 (Instr.makeSlice 35 (i6 3) (i6 3)) fun t8_134 w133=>
 Ext w130 w133∧
 pw w133 (Instr.buildSlice 36 4 #[(0,t11),(1,t14_114),(2,t17_132),(3,t18)]) fun t19_136 w135=>
 pp (Instr.build 38 #[(4,t7_116),(5,t8_134),(6,t19_136)]) fun t20_137=>pw w135 (Instr.buildSlice 23 1 #[(0,t20_137)]) fun t21_139 w138=>
 pp (Instr.build 25 #[(1,t21_139)]) fun t22_140=>so w138 25 t0 t22_140 fun w141=>pq w141 (zj 25 t0) fun r142=>K r142 w141)∧
 (pw w130 (Instr.buildSlice 36 4 #[(0,t11),(1,t14_114),(2,t17_132),(3,t18)]) fun t19_144 w143=>
 pw w143 (Instr.makeSlice 35 (i6 3) (i6 3)) fun t8_146 w145=>
 Ext w143 w145∧
 pp (Instr.build 38 #[(4,t7_116),(5,t8_146),(6,t19_144)]) fun t20_147=>pw w145 (Instr.buildSlice 23 1 #[(0,t20_147)]) fun t21_149 w148=>
 pp (Instr.build 25 #[(1,t21_149)]) fun t22_150=>so w148 25 t0 t22_150 fun w151=>pq w151 (zj 25 t0) fun r152=>K r152 w151)))))∧
 (((pw w112 (Instr.makeSlice 35 (i6 3) (i6 3)) fun t8_154 w153=>
 Ext w112 w153∧
 ((pw w153 (Instr.buildSlice 34 3 #[(0,t4),(1,t5),(2,t6)]) fun t7_156 w155=>
 Ext w153 w155∧
 ca zn #[(i6 3)] w155 fun t16_158 w157=>
 Ext w155 w157∧
 pp (Instr.build 87 #[(0,(Value.int .u8 1)),(1,t15),(2,t16_158),(10,(i6 3))]) fun t17_159=>pw w157 (Instr.buildSlice 36 4 #[(0,t11),(1,t14_114),(2,t17_159),(3,t18)]) fun t19_161 w160=>
 pp (Instr.build 38 #[(4,t7_156),(5,t8_154),(6,t19_161)]) fun t20_162=>pw w160 (Instr.buildSlice 23 1 #[(0,t20_162)]) fun t21_164 w163=>
 pp (Instr.build 25 #[(1,t21_164)]) fun t22_165=>so w163 25 t0 t22_165 fun w166=>pq w166 (zj 25 t0) fun r167=>K r167 w166)∧
 (ca zn #[(i6 3)] w153 fun t16_169 w168=>
 Ext w153 w168∧
 pp (Instr.build 87 #[(0,(Value.int .u8 1)),(1,t15),(2,t16_169),(10,(i6 3))]) fun t17_170=>((pw w168 (Instr.buildSlice 34 3 #[(0,t4),(1,t5),(2,t6)]) fun t7_172 w171=>
 Ext w168 w171∧
 pw w171 (Instr.buildSlice 36 4 #[(0,t11),(1,t14_114),(2,t17_170),(3,t18)]) fun t19_174 w173=>
 pp (Instr.build 38 #[(4,t7_172),(5,t8_154),(6,t19_174)]) fun t20_175=>pw w173 (Instr.buildSlice 23 1 #[(0,t20_175)]) fun t21_177 w176=>
 pp (Instr.build 25 #[(1,t21_177)]) fun t22_178=>so w176 25 t0 t22_178 fun w179=>pq w179 (zj 25 t0) fun r180=>K r180 w179)∧
 (pw w168 (Instr.buildSlice 36 4 #[(0,t11),(1,t14_114),(2,t17_170),(3,t18)]) fun t19_182 w181=>
 pw w181 (Instr.buildSlice 34 3 #[(0,t4),(1,t5),(2,t6)]) fun t7_184 w183=>
 Ext w181 w183∧
 pp (Instr.build 38 #[(4,t7_184),(5,t8_154),(6,t19_182)]) fun t20_185=>pw w183 (Instr.buildSlice 23 1 #[(0,t20_185)]) fun t21_187 w186=>
 pp (Instr.build 25 #[(1,t21_187)]) fun t22_188=>so w186 25 t0 t22_188 fun w189=>pq w189 (zj 25 t0) fun r190=>K r190 w189)))))∧
 (ca zn #[(i6 3)] w112 fun t16_192 w191=>
 Ext w112 w191∧
 pp (Instr.build 87 #[(0,(Value.int .u8 1)),(1,t15),(2,t16_192),(10,(i6 3))]) fun t17_193=>((pw w191 (Instr.buildSlice 34 3 #[(0,t4),(1,t5),(2,t6)]) fun t7_195 w194=>
 Ext w191 w194∧
 ((pw w194 (Instr.makeSlice 35 (i6 3) (i6 3)) fun t8_197 w196=>
 Ext w194 w196∧
 pw w196 (Instr.buildSlice 36 4 #[(0,t11),(1,t14_114),(2,t17_193),(3,t18)]) fun t19_199 w198=>
 pp (Instr.build 38 #[(4,t7_195),(5,t8_197),(6,t19_199)]) fun t20_200=>pw w198 (Instr.buildSlice 23 1 #[(0,t20_200)]) fun t21_202 w201=>
 pp (Instr.build 25 #[(1,t21_202)]) fun t22_203=>so w201 25 t0 t22_203 fun w204=>pq w204 (zj 25 t0) fun r205=>K r205 w204)∧
 (pw w194 (Instr.buildSlice 36 4 #[(0,t11),(1,t14_114),(2,t17_193),(3,t18)]) fun t19_207 w206=>
 pw w206 (Instr.makeSlice 35 (i6 3) (i6 3)) fun t8_209 w208=>
 Ext w206 w208∧
 pp (Instr.build 38 #[(4,t7_195),(5,t8_209),(6,t19_207)]) fun t20_210=>pw w208 (Instr.buildSlice 23 1 #[(0,t20_210)]) fun t21_212 w211=>
 pp (Instr.build 25 #[(1,t21_212)]) fun t22_213=>so w211 25 t0 t22_213 fun w214=>pq w214 (zj 25 t0) fun r215=>K r215 w214)))∧
 (((pw w191 (Instr.makeSlice 35 (i6 3) (i6 3)) fun t8_217 w216=>
 Ext w191 w216∧
 ((pw w216 (Instr.buildSlice 34 3 #[(0,t4),(1,t5),(2,t6)]) fun t7_219 w218=>
 Ext w216 w218∧
 pw w218 (Instr.buildSlice 36 4 #[(0,t11),(1,t14_114),(2,t17_193),(3,t18)]) fun t19_221 w220=>
 pp (Instr.build 38 #[(4,t7_219),(5,t8_217),(6,t19_221)]) fun t20_222=>pw w220 (Instr.buildSlice 23 1 #[(0,t20_222)]) fun t21_224 w223=>
 pp (Instr.build 25 #[(1,t21_224)]) fun t22_225=>so w223 25 t0 t22_225 fun w226=>pq w226 (zj 25 t0) fun r227=>K r227 w226)∧
 (pw w216 (Instr.buildSlice 36 4 #[(0,t11),(1,t14_114),(2,t17_193),(3,t18)]) fun t19_229 w228=>
 pw w228 (Instr.buildSlice 34 3 #[(0,t4),(1,t5),(2,t6)]) fun t7_231 w230=>
 Ext w228 w230∧
 pp (Instr.build 38 #[(4,t7_231),(5,t8_217),(6,t19_229)]) fun t20_232=>pw w230 (Instr.buildSlice 23 1 #[(0,t20_232)]) fun t21_234 w233=>
 pp (Instr.build 25 #[(1,t21_234)]) fun t22_235=>so w233 25 t0 t22_235 fun w236=>pq w236 (zj 25 t0) fun r237=>K r237 w236)))∧
 (pw w191 (Instr.buildSlice 36 4 #[(0,t11),(1,t14_114),(2,t17_193),(3,t18)]) fun t19_239 w238=>
 ((pw w238 (Instr.buildSlice 34 3 #[(0,t4),(1,t5),(2,t6)]) fun t7_241 w240=>
 Ext w238 w240∧
 pw w240 (Instr.makeSlice 35 (i6 3) (i6 3)) fun t8_243 w242=>
 Ext w240 w242∧
 pp (Instr.build 38 #[(4,t7_241),(5,t8_243),(6,t19_239)]) fun t20_244=>pw w242 (Instr.buildSlice 23 1 #[(0,t20_244)]) fun t21_246 w245=>
 pp (Instr.build 25 #[(1,t21_246)]) fun t22_247=>so w245 25 t0 t22_247 fun w248=>pq w248 (zj 25 t0) fun r249=>K r249 w248)∧
 (pw w238 (Instr.makeSlice 35 (i6 3) (i6 3)) fun t8_251 w250=>
 Ext w238 w250∧
 pw w250 (Instr.buildSlice 34 3 #[(0,t4),(1,t5),(2,t6)]) fun t7_253 w252=>
 Ext w250 w252∧
 pp (Instr.build 38 #[(4,t7_253),(5,t8_251),(6,t19_239)]) fun t20_254=>pw w252 (Instr.buildSlice 23 1 #[(0,t20_254)]) fun t21_256 w255=>
 pp (Instr.build 25 #[(1,t21_256)]) fun t22_257=>so w255 25 t0 t22_257 fun w258=>pq w258 (zj 25 t0) fun r259=>K r259 w258)))))))))))))))∧
 (pw w6 (Instr.makeSlice 35 (i6 3) (i6 3)) fun t8_261 w260=>
 Ext w6 w260∧
 ca xV #[tr_] w260 fun t6_263 w262=>
 Ext w260 w262∧
 ((pw w262 (Instr.buildSlice 34 3 #[(0,t4),(1,t5),(2,t6_263)]) fun t7_265 w264=>
 Ext w262 w264∧
 ca zn #[(i6 2)] w264 fun t13_267 w266=>
 Ext w264 w266∧
 pp (Instr.build 87 #[(0,(Value.int .u8 1)),(1,t12),(2,t13_267),(10,(i6 2))]) fun t14_268=>ca zn #[(i6 3)] w266 fun t16_270 w269=>
 Ext w266 w269∧
 pp (Instr.build 87 #[(0,(Value.int .u8 1)),(1,t15),(2,t16_270),(10,(i6 3))]) fun t17_271=>pw w269 (Instr.buildSlice 36 4 #[(0,t11),(1,t14_268),(2,t17_271),(3,t18)]) fun t19_273 w272=>
 pp (Instr.build 38 #[(4,t7_265),(5,t8_261),(6,t19_273)]) fun t20_274=>pw w272 (Instr.buildSlice 23 1 #[(0,t20_274)]) fun t21_276 w275=>
 pp (Instr.build 25 #[(1,t21_276)]) fun t22_277=>so w275 25 t0 t22_277 fun w278=>pq w278 (zj 25 t0) fun r279=>K r279 w278)∧
 (ca zn #[(i6 2)] w262 fun t13_281 w280=>
 Ext w262 w280∧
 pp (Instr.build 87 #[(0,(Value.int .u8 1)),(1,t12),(2,t13_281),(10,(i6 2))]) fun t14_282=>((pw w280 (Instr.buildSlice 34 3 #[(0,t4),(1,t5),(2,t6_263)]) fun t7_284 w283=>
 Ext w280 w283∧
 ca zn #[(i6 3)] w283 fun t16_286 w285=>
 Ext w283 w285∧
 pp (Instr.build 87 #[(0,(Value.int .u8 1)),(1,t15),(2,t16_286),(10,(i6 3))]) fun t17_287=>pw w285 (Instr.buildSlice 36 4 #[(0,t11),(1,t14_282),(2,t17_287),(3,t18)]) fun t19_289 w288=>
 pp (Instr.build 38 #[(4,t7_284),(5,t8_261),(6,t19_289)]) fun t20_290=>pw w288 (Instr.buildSlice 23 1 #[(0,t20_290)]) fun t21_292 w291=>
 pp (Instr.build 25 #[(1,t21_292)]) fun t22_293=>so w291 25 t0 t22_293 fun w294=>pq w294 (zj 25 t0) fun r295=>K r295 w294)∧
 (ca zn #[(i6 3)] w280 fun t16_297 w296=>
 Ext w280 w296∧
 pp (Instr.build 87 #[(0,(Value.int .u8 1)),(1,t15),(2,t16_297),(10,(i6 3))]) fun t17_298=>((pw w296 (Instr.buildSlice 34 3 #[(0,t4),(1,t5),(2,t6_263)]) fun t7_300 w299=>
 Ext w296 w299∧
 pw w299 (Instr.buildSlice 36 4 #[(0,t11),(1,t14_282),(2,t17_298),(3,t18)]) fun t19_302 w301=>
 pp (Instr.build 38 #[(4,t7_300),(5,t8_261),(6,t19_302)]) fun t20_303=>pw w301 (Instr.buildSlice 23 1 #[(0,t20_303)]) fun t21_305 w304=>
 pp (Instr.build 25 #[(1,t21_305)]) fun t22_306=>so w304 25 t0 t22_306 fun w307=>pq w307 (zj 25 t0) fun r308=>K r308 w307)∧
 (pw w296 (Instr.buildSlice 36 4 #[(0,t11),(1,t14_282),(2,t17_298),(3,t18)]) fun t19_310 w309=>
 pw w309 (Instr.buildSlice 34 3 #[(0,t4),(1,t5),(2,t6_263)]) fun t7_312 w311=>
 Ext w309 w311∧
 pp (Instr.build 38 #[(4,t7_312),(5,t8_261),(6,t19_310)]) fun t20_313=>pw w311 (Instr.buildSlice 23 1 #[(0,t20_313)]) fun t21_315 w314=>
 pp (Instr.build 25 #[(1,t21_315)]) fun t22_316=>so w314 25 t0 t22_316 fun w317=>pq w317 (zj 25 t0) fun r318=>K r318 w317)))))))))∧
 (pw w5 (Instr.makeSlice 35 (i6 3) (i6 3)) fun t8_320 w319=>
 Ext w5 w319∧
 ca yP #[] w319 fun t5_322 w321=>
 Ext w319 w321∧
 ca xV #[tr_] w321 fun t6_324 w323=>
 Ext w321 w323∧
 ((pw w323 (Instr.buildSlice 34 3 #[(0,t4),(1,t5_322),(2,t6_324)]) fun t7_326 w325=>
 Ext w323 w325∧
 ca zn #[(i6 2)] w325 fun t13_328 w327=>
 Ext w325 w327∧
 pp (Instr.build 87 #[(0,(Value.int .u8 1)),(1,t12),(2,t13_328),(10,(i6 2))]) fun t14_329=>ca zn #[(i6 3)] w327 fun t16_331 w330=>
 Ext w327 w330∧
 pp (Instr.build 87 #[(0,(Value.int .u8 1)),(1,t15),(2,t16_331),(10,(i6 3))]) fun t17_332=>pw w330 (Instr.buildSlice 36 4 #[(0,t11),(1,t14_329),(2,t17_332),(3,t18)]) fun t19_334 w333=>
 pp (Instr.build 38 #[(4,t7_326),(5,t8_320),(6,t19_334)]) fun t20_335=>pw w333 (Instr.buildSlice 23 1 #[(0,t20_335)]) fun t21_337 w336=>
 pp (Instr.build 25 #[(1,t21_337)]) fun t22_338=>so w336 25 t0 t22_338 fun w339=>pq w339 (zj 25 t0) fun r340=>K r340 w339)∧
 (ca zn #[(i6 2)] w323 fun t13_342 w341=>
 Ext w323 w341∧
 pp (Instr.build 87 #[(0,(Value.int .u8 1)),(1,t12),(2,t13_342),(10,(i6 2))]) fun t14_343=>((pw w341 (Instr.buildSlice 34 3 #[(0,t4),(1,t5_322),(2,t6_324)]) fun t7_345 w344=>
 Ext w341 w344∧
 ca zn #[(i6 3)] w344 fun t16_347 w346=>
 Ext w344 w346∧
 pp (Instr.build 87 #[(0,(Value.int .u8 1)),(1,t15),(2,t16_347),(10,(i6 3))]) fun t17_348=>pw w346 (Instr.buildSlice 36 4 #[(0,t11),(1,t14_343),(2,t17_348),(3,t18)]) fun t19_350 w349=>
 pp (Instr.build 38 #[(4,t7_345),(5,t8_320),(6,t19_350)]) fun t20_351=>pw w349 (Instr.buildSlice 23 1 #[(0,t20_351)]) fun t21_353 w352=>
 pp (Instr.build 25 #[(1,t21_353)]) fun t22_354=>so w352 25 t0 t22_354 fun w355=>pq w355 (zj 25 t0) fun r356=>K r356 w355)∧
 (ca zn #[(i6 3)] w341 fun t16_358 w357=>
 Ext w341 w357∧
 pp (Instr.build 87 #[(0,(Value.int .u8 1)),(1,t15),(2,t16_358),(10,(i6 3))]) fun t17_359=>((pw w357 (Instr.buildSlice 34 3 #[(0,t4),(1,t5_322),(2,t6_324)]) fun t7_361 w360=>
 Ext w357 w360∧
 pw w360 (Instr.buildSlice 36 4 #[(0,t11),(1,t14_343),(2,t17_359),(3,t18)]) fun t19_363 w362=>
 pp (Instr.build 38 #[(4,t7_361),(5,t8_320),(6,t19_363)]) fun t20_364=>pw w362 (Instr.buildSlice 23 1 #[(0,t20_364)]) fun t21_366 w365=>
 pp (Instr.build 25 #[(1,t21_366)]) fun t22_367=>so w365 25 t0 t22_367 fun w368=>pq w368 (zj 25 t0) fun r369=>K r369 w368)∧
 (pw w357 (Instr.buildSlice 36 4 #[(0,t11),(1,t14_343),(2,t17_359),(3,t18)]) fun t19_371 w370=>
 pw w370 (Instr.buildSlice 34 3 #[(0,t4),(1,t5_322),(2,t6_324)]) fun t7_373 w372=>
 Ext w370 w372∧
 pp (Instr.build 38 #[(4,t7_373),(5,t8_320),(6,t19_371)]) fun t20_374=>pw w372 (Instr.buildSlice 23 1 #[(0,t20_374)]) fun t21_376 w375=>
 pp (Instr.build 25 #[(1,t21_376)]) fun t22_377=>so w375 25 t0 t22_377 fun w378=>pq w378 (zj 25 t0) fun r379=>K r379 w378)))))))))∧
 (pw w4.drew (Instr.makeSlice 35 (i6 3) (i6 3)) fun t8_381 w380=>
 Ext w4.drew w380∧
 ca yP #[] w380 fun t4_383 w382=>
 Ext w380 w382∧
 ca yP #[] w382 fun t5_385 w384=>
 Ext w382 w384∧
 ca xV #[tr_] w384 fun t6_387 w386=>
 Ext w384 w386∧
 ((pw w386 (Instr.buildSlice 34 3 #[(0,t4_383),(1,t5_385),(2,t6_387)]) fun t7_389 w388=>
 Ext w386 w388∧
 ca zn #[(i6 2)] w388 fun t13_391 w390=>
 Ext w388 w390∧
 pp (Instr.build 87 #[(0,(Value.int .u8 1)),(1,t12),(2,t13_391),(10,(i6 2))]) fun t14_392=>ca zn #[(i6 3)] w390 fun t16_394 w393=>
 Ext w390 w393∧
 pp (Instr.build 87 #[(0,(Value.int .u8 1)),(1,t15),(2,t16_394),(10,(i6 3))]) fun t17_395=>pw w393 (Instr.buildSlice 36 4 #[(0,t11),(1,t14_392),(2,t17_395),(3,t18)]) fun t19_397 w396=>
 pp (Instr.build 38 #[(4,t7_389),(5,t8_381),(6,t19_397)]) fun t20_398=>pw w396 (Instr.buildSlice 23 1 #[(0,t20_398)]) fun t21_400 w399=>
 pp (Instr.build 25 #[(1,t21_400)]) fun t22_401=>so w399 25 t0 t22_401 fun w402=>pq w402 (zj 25 t0) fun r403=>K r403 w402)∧
 (ca zn #[(i6 2)] w386 fun t13_405 w404=>
 Ext w386 w404∧
 pp (Instr.build 87 #[(0,(Value.int .u8 1)),(1,t12),(2,t13_405),(10,(i6 2))]) fun t14_406=>((pw w404 (Instr.buildSlice 34 3 #[(0,t4_383),(1,t5_385),(2,t6_387)]) fun t7_408 w407=>
 Ext w404 w407∧
 ca zn #[(i6 3)] w407 fun t16_410 w409=>
 Ext w407 w409∧
 pp (Instr.build 87 #[(0,(Value.int .u8 1)),(1,t15),(2,t16_410),(10,(i6 3))]) fun t17_411=>pw w409 (Instr.buildSlice 36 4 #[(0,t11),(1,t14_406),(2,t17_411),(3,t18)]) fun t19_413 w412=>
 pp (Instr.build 38 #[(4,t7_408),(5,t8_381),(6,t19_413)]) fun t20_414=>pw w412 (Instr.buildSlice 23 1 #[(0,t20_414)]) fun t21_416 w415=>
 pp (Instr.build 25 #[(1,t21_416)]) fun t22_417=>so w415 25 t0 t22_417 fun w418=>pq w418 (zj 25 t0) fun r419=>K r419 w418)∧
 (ca zn #[(i6 3)] w404 fun t16_421 w420=>
 Ext w404 w420∧
 pp (Instr.build 87 #[(0,(Value.int .u8 1)),(1,t15),(2,t16_421),(10,(i6 3))]) fun t17_422=>((pw w420 (Instr.buildSlice 34 3 #[(0,t4_383),(1,t5_385),(2,t6_387)]) fun t7_424 w423=>
 Ext w420 w423∧
 pw w423 (Instr.buildSlice 36 4 #[(0,t11),(1,t14_406),(2,t17_422),(3,t18)]) fun t19_426 w425=>
 pp (Instr.build 38 #[(4,t7_424),(5,t8_381),(6,t19_426)]) fun t20_427=>pw w425 (Instr.buildSlice 23 1 #[(0,t20_427)]) fun t21_429 w428=>
 pp (Instr.build 25 #[(1,t21_429)]) fun t22_430=>so w428 25 t0 t22_430 fun w431=>pq w431 (zj 25 t0) fun r432=>K r432 w431)∧
 (pw w420 (Instr.buildSlice 36 4 #[(0,t11),(1,t14_406),(2,t17_422),(3,t18)]) fun t19_434 w433=>
 pw w433 (Instr.buildSlice 34 3 #[(0,t4_383),(1,t5_385),(2,t6_387)]) fun t7_436 w435=>
 Ext w433 w435∧
 pp (Instr.build 38 #[(4,t7_436),(5,t8_381),(6,t19_434)]) fun t20_437=>pw w435 (Instr.buildSlice 23 1 #[(0,t20_437)]) fun t21_439 w438=>
 pp (Instr.build 25 #[(1,t21_439)]) fun t22_440=>so w438 25 t0 t22_440 fun w441=>pq w441 (zj 25 t0) fun r442=>K r442 w441))))))))
theorem V1 {w : World} {K : VW} (h : Xx  w K) : zd prog vO #[] w K:=
 okC false (.s (.r (rz 1 0 2)) (.s (.r (rz 4 0 162)) (.s (.r (ra 4 5 0 (ra 1 11 1 (ra 1 14 0 (.alt 0 .u (.alt 1 .u (.alt 2 .u (.alt 3 .u (.alt 4 .u (ra 2 9 3 (ra 2 12 3 (rz 5 15 546))) (ra 2 9 3 (.alt 4 .u (ra 2 12 3 (rz 5 15 546)) (ra 2 12 3 (.alt 4 .u (rz 5 15 546) (ra 1 15 2 (ra 1 4 3 (rz 4 16 136)))))))) (.alt 4 .u (.alt 3 .u (ra 2 9 3 (ra 2 12 3 (rz 5 15 546))) (ra 2 9 3 (.alt 3 .u (ra 2 12 3 (rz 5 15 546)) (ra 2 12 3 (.alt 3 .u (rz 5 15 546) (ra 1 15 2 (ra 1 3 3 (rz 4 16 136)))))))) (ra 2 9 3 (.alt 3 .u (.alt 4 .u (ra 2 12 3 (rz 5 15 546)) (ra 2 12 3 (.alt 4 .u (rz 5 15 546) (ra 1 15 2 (ra 1 4 3 (rz 4 16 136)))))) (.alt 4 .u (.alt 3 .u (ra 2 12 3 (rz 5 15 546)) (ra 2 12 3 (.alt 3 .u (rz 5 15 546) (ra 1 15 2 (ra 1 3 3 (rz 4 16 136)))))) (ra 2 12 3 (.alt 3 .u (.alt 4 .u (rz 5 15 546) (ra 1 15 2 (ra 1 4 3 (rz 4 16 136)))) (.alt 4 .u (.alt 3 .u (rz 5 15 546) (ra 1 15 2 (ra 1 3 3 (rz 4 16 136)))) (ra 1 15 2 (.alt 3 .u (ra 1 4 3 (rz 4 16 136)) (ra 1 4 3 (ra 1 3 3 (rz 4 16 136))))))))))))) (ra 1 4 3 (ra 1 2 3 (.alt 3 .u (ra 2 9 3 (ra 2 12 3 (rz 5 15 546))) (ra 2 9 3 (.alt 3 .u (ra 2 12 3 (rz 5 15 546)) (ra 2 12 3 (.alt 3 .u (rz 5 15 546) (ra 1 15 2 (ra 1 3 3 (rz 4 16 136))))))))))) (ra 1 4 3 (ra 2 1 15 (.alt 3 .u (ra 2 9 3 (ra 2 12 3 (rz 5 15 546))) (ra 2 9 3 (.alt 3 .u (ra 2 12 3 (rz 5 15 546)) (ra 2 12 3 (.alt 3 .u (rz 5 15 546) (ra 1 15 2 (ra 1 3 3 (rz 4 16 136))))))))))) (ra 1 4 3 (ra 3 0 63 (.alt 3 .u (ra 2 9 3 (ra 2 12 3 (rz 5 15 546))) (ra 2 9 3 (.alt 3 .u (ra 2 12 3 (rz 5 15 546)) (ra 2 12 3 (.alt 3 .u (rz 5 15 546) (ra 1 15 2 (ra 1 3 3 (rz 4 16 136))))))))))))))) (.n)))) func72 rfl (by kernel_rfl) (by kernel_rfl) h
def Qd (w : World) (K : VW) : Prop:=
 pw w (Instr.alloc 138 true (.tuple #[])) fun t0 w1=>
 pp (Instr.build 138 #[(0,(Value.int .u8 1))]) fun t1=>so w1 138 t0 t1 fun w2=>pq w2 (zj 138 t0) fun r3=>K r3 w2
theorem abn {w : World} {K : VW} (h : Qd  w K) : zd prog yP #[] w K:=
 okC false (.s (.r (rz 1 0 2)) (.s (.r (rz 2 0 8)) (.n))) func105 rfl (by kernel_rfl) (by kernel_rfl) h
def Qe (t0 : Value) (w : World) (K : VW) : Prop:=
 pw w (Instr.alloc 138 true (.tuple #[])) fun t2 w1=>
 ca yP #[] w1 fun t4 w2=>
 pw w2 (Instr.buildSlice 34 1 #[(0,t4)]) fun t5 w3=>
 pp (Instr.build 138 #[(0,(Value.int .u8 4)),(1,t0),(2,(i6 (-1))),(4,t5)]) fun t6=>so w3 138 t2 t6 fun w4=>pq w4 (zj 138 t2) fun r5=>K r5 w4
theorem abo {t0 : Value} {w : World} {K : VW} (h : Qe t0 w K) : zd prog xV #[t0] w K:=
 okC false (.s (.r (rz 1 0 2)) (.s (.r (rz 5 0 552)) (.n))) func106 rfl (by kernel_rfl) (by kernel_rfl) h
def Qf (t0 : Value) (w : World) (K : VW) : Prop:=
 pw w (Instr.alloc 84 true (.tuple #[])) fun t2 w1=>
 pp (Instr.build 84 #[(0,(Value.int .u8 1)),(1,t0)]) fun t4=>so w1 84 t2 t4 fun w2=>pq w2 (zj 84 t2) fun r3=>K r3 w2
theorem abp {t0 : Value} {w : World} {K : VW} (h : Qf t0 w K) : zd prog zn #[t0] w K:=
 okC false (.s (.r (rz 1 0 2)) (.s (.r (rz 3 0 32)) (.n))) func107 rfl (by kernel_rfl) (by kernel_rfl) h
end Go.Proofs.Tryz
end
section
namespace Go.Sh
section
variable {w : World} {b c d : Bool} {A1 : (List Value→World→Prop)→Prop} {A2 : (List Value→World→Prop)→World→Prop} {Z : Value→World→Prop}
end
end Go.Sh
end
section
namespace Go.Proofs
open Go.Sh Go.RowKit
set_option maxRecDepth 100000
set_option linter.unusedSimpArgs false
set_option linter.unusedVariables false
end Go.Proofs
end
section
namespace Go.Proofs
open Go.Sh Go.RowKit Go.BM
set_option maxRecDepth 100000
set_option linter.unusedSimpArgs false
set_option linter.unusedVariables false
end Go.Proofs
end
section
namespace Go.Proofs
open Go.Sh Go.RowKit
set_option maxRecDepth 100000
set_option linter.unusedSimpArgs false
set_option linter.unusedVariables false
end Go.Proofs
end
section
namespace Go.Proofs
open Go.Sh Go.RowKit
set_option maxRecDepth 100000
set_option linter.unusedSimpArgs false
set_option linter.unusedVariables false
end Go.Proofs
end
section
namespace Go.Proofs
open Go.Sh
set_option maxRecDepth 100000
set_option linter.unusedSimpArgs false
set_option linter.unusedVariables false
theorem Qg {w : World} {K : Value→World→Prop} (h : ∀ w',Ext w w'→K agZ w') : zd Tryz.prog Tryz.yP #[] w K:=by
 refine Tryz.abn ?_
 unfold Tryz.Qd
 have S : StX noX w nothing w []:=St.start (fun _ _ h=>h.elim)
 refine S.al fun b0 w1 S=>?_
 refine zu (cs:=vK.toArray) (by kernel_rfl) ?_
 refine S.stB (b:=b0) fun w2 S=>?_
 refine S.ceB (b:=b0) ?_ rfl
 exact h _ S.ext
theorem abM {n : Int} {w : World} {K : Value→World→Prop} (h : ∀ w',Ext w w'→K (ag0 n) w') : zd Tryz.prog Tryz.zn #[.int .i64 n] w K:=by
 refine Tryz.abp ?_
 unfold Tryz.Qf
 have S : StX noX w nothing w []:=St.start (fun _ _ h=>h.elim)
 refine S.al fun b0 w1 S=>?_
 refine zu (cs:=#[.int .u8 1,.int .i64 n,.int .i64 0,.slice none 0 0]) (by kernel_rfl) ?_
 refine S.stB (b:=b0) fun w2 S=>?_
 refine S.ceB (b:=b0) ?_ rfl
 exact h _ S.ext
theorem abN {m : Bool} {w : World} {K : Value→World→Prop} (h : ∀ q cap sn w',Ext w w'→New w sn w'→TyG sn (tyV (.mk 4 m (-1) 0 [qF]) q cap) (.mk 4 m (-1) 0 [qF])→K (tyV (.mk 4 m (-1) 0 [qF]) q cap) w') : zd Tryz.prog Tryz.xV #[.bool m] w K:=by
 refine Tryz.abo ?_
 unfold Tryz.Qe
 have S : StX noX w nothing w []:=St.start (fun _ _ h=>h.elim)
 refine S.al fun b2 w1 S=>?_
 refine Qg fun w2 e2=>?_
 have S:=S.go e2
 refine S.lit (e:=138) (cs:=vK) (by kernel_rfl) fun b5 w3 S=>?_
 refine zu (cs:=#[.int .u8 4,.bool m,.int .i64 (-1),.int .i64 0,.slice (some ⟨b5,0,none⟩) 1 1]) (by kernel_rfl) ?_
 refine S.stB (b:=b2) fun w4 S=>?_
 refine S.ceB (b:=b2) ?_ rfl
 obtain ⟨S,_,ha⟩:=S.litNew b5 (sz:=5) (R:=TyC nothing) (l:=[qF]) (by exact (zZ (c:=vK) rfl (show TyC nothing vK qF from vI))) (by decide)
 exact h (some ⟨b5,0,none⟩) 1 (nothing.or (Go.Sh.one b5 vK 138)) _ S.ext (S.newOf (Above.no.or' ha)) (adr (u:=qF) (v:=agZ) vI)
set_option maxHeartbeats 8000000 in
theorem abq {w : World} {K : Value→World→Prop} (h : ∀ v s w',Ext w w'→New w s w'→UnG s v yY→K v w') : zd Tryz.prog Tryz.vO #[] w K:=by
 refine Tryz.V1 ?_
 unfold Tryz.Xx
 have S : StX noX w nothing w []:=St.start (fun _ _ h=>h.elim)
 refine S.al fun b0 w1 S=>?_
 refine S.lit (e:=153) (cs:=[.int .i64 (-1)]) (by kernel_rfl) fun b2 w2 S=>?_
 refine zu (cs:=#[.int .i64 2,.slice (some ⟨b2,0,none⟩) 1 1]) (by kernel_rfl) ?_
 refine S.al fun b1 w3 S=>?_
 refine S.stB (b:=b1) fun w4 S=>?_
 have S:=S.go (Ext.drew _)
 refine zu (cs:=#[.int .i64 2,.slice none 0 0]) (by kernel_rfl) ?_
 refine zu (cs:=#[.int .i64 1,.slice none 0 0]) (by kernel_rfl) ?_
 refine zu (cs:=hl0.toArray) (by kernel_rfl) ?_
 refine zu (cs:=#[.int .i64 1,.slice none 0 0]) (by kernel_rfl) ?_
 refine S.ldB (b:=b1) ?_ rfl
 refine zu (cs:=hl3.toArray) (by kernel_rfl) ?_
 have S:=S.drop b1
 have fin : ∀ {w9 : World} {b7 b8 b19 b21 : Nat} {q6 : Option Addr} {c6 : Nat} {sn : Gh} {M M1 M2 M3 M4 M5 : List Asr} (S : StX noX w (nothing.or sn) w9 M)
   [jF b7 M (vK++(vK++tyL Xb q6 c6)) 138 M1] [jF b8 M1 [.string ByteArray.empty,.string ByteArray.empty,.string ByteArray.empty] 9 M2] [jF b2 M2 [.int .i64 (-1)] 153 M3]
   [jF b19 M3 (hl0++(hl1++(hl2 b2++hl3))) 87 M4] [jF b21 M4 [.string ByteArray.empty,.int .i64 0,.slice none 0 0,.int .i64 0,.slice (some ⟨b7,0,none⟩) 3 3,.slice (some ⟨b8,0,none⟩) 3 3,.slice (some ⟨b19,0,none⟩) 4 4] 38 M5],
   Above w sn→TyG sn (tyV Xb q6 c6) Xb→K (.agg #[.slice none 0 0,.slice (some ⟨b21,0,none⟩) 1 1,.int .i64 0]) w9:=by
  intro w9 b7 b8 b19 b21 q6 c6 sn M M1 M2 M3 M4 M5 S _ _ _ _ _ ha ht
  obtain ⟨S,h7,a7⟩:=S.litNew b7 (sz:=5) (R:=TyC sn) (l:=[qF,qF,Xb]) (by exact (yf rfl vI (yf rfl vI (zZ rfl ht)))) (by decide)
  obtain ⟨S,h8,a8⟩:=S.litNew b8 (sz:=1) (R:=aeI) (l:=[ByteArray.empty,ByteArray.empty,ByteArray.empty]) (by exact (yf (c:=[.string ByteArray.empty]) rfl rfl (yf (c:=[.string ByteArray.empty]) rfl rfl (zZ rfl rfl)))) (by decide)
  obtain ⟨S,h2,a2⟩:=S.litNew b2 (sz:=1) (R:=jI) (l:=[-1]) (by exact (zZ rfl ⟨rfl,by unfold JS;omega⟩)) (by decide)
  have hz : ∀ {r : Gh} {α : Type} {sz : Nat} {R : List Value→α→Prop},SlB sz r R (.slice none 0 0) ([] : List α):=xU
  obtain ⟨S,h19,a19⟩:=S.litNew b19 (sz:=21) (R:=PtG (Go.Sh.one b2 [.int .i64 (-1)] 153)) (l:=[hp0,hp1,hp2,hp3])
   (by exact (yf rfl ⟨_,_,_,_,_,rfl,hz,hz,hz,hz,hz⟩ (yf rfl ⟨_,_,_,_,_,rfl,hz,hz,hz,hz,hz⟩ (yf rfl ⟨_,_,_,_,_,rfl,ZY h2,hz,hz,hz,hz⟩ (zZ rfl ⟨_,_,_,_,_,rfl,hz,hz,hz,hz,hz⟩))))) (by decide)
  obtain ⟨S,h21,a21⟩:=S.litNew b21 (sz:=7) (R:=GrG (((((nothing.or sn).or (Go.Sh.one b7 (vK++(vK++tyL Xb q6 c6)) 138)).or (Go.Sh.one b8 [.string ByteArray.empty,.string ByteArray.empty,.string ByteArray.empty] 9)).or (Go.Sh.one b2 [.int .i64 (-1)] 153)).or (Go.Sh.one b19 (hl0++(hl1++(hl2 b2++hl3))) 87))) (l:=[zt])
   (by exact (zZ rfl ⟨_,_,_,_,rfl,hz,ZY (h7.up' inferInstance fun c x hx=>TyG.up hx),ZY h8.cells,ZY (h19.up' inferInstance fun c x hx=>PtG.up hx)⟩)) (by decide)
  exact h _ _ _ S.ext (S.newOf (((((Above.no.or' ha).or' a7).or' a8).or' a2).or' a19 |>.or' a21)) ⟨none,0,_,rfl,fun _=>rfl,Nat.zero_le _,trivial,Nat.zero_le _,ZY (h21.up' inferInstance fun c x hx=>GrG.up hx)⟩
 repeat' (first
  |(with_reducible refine Qg fun w9 e9=>⟨e9,?_⟩;have S:=S.go e9)
  |(with_reducible refine abM fun w9 e9=>⟨e9,?_⟩;have S:=S.go e9)
  |(with_reducible refine abN fun q6 c6 sn w9 e9 n9 t9=>⟨e9,?_⟩;obtain ⟨S,d9,a9⟩:=S.tell e9 n9)
  |(with_reducible refine S.litU (t:=34) (e:=138) (cs:=vK++(vK++tyL Xb q6 c6)) (by kernel_rfl) fun b7 w9 S=>?_)
  |(with_reducible refine S.mkSU (by decide) (by decide) fun b8 w9 S=>?_)
  |(with_reducible refine zu (t:=87) (parts:=#[(0,.int .u8 1),(1,.agg #[.int .i64 1,.slice none 0 0]),(2,ag0 2),(10,.int .i64 2)]) (cs:=hl1.toArray) (by kernel_rfl) ?_)
  |(with_reducible refine zu (t:=87) (cs:=(hl2 b2).toArray) (by kernel_rfl) ?_)
  |(with_reducible refine S.lit (t:=36) (e:=87) (cs:=hl0++(hl1++(hl2 b2++hl3))) (by kernel_rfl) fun b19 w9 S=>?_)
  |(with_reducible refine zu (t:=38) (cs:=#[.string ByteArray.empty,.int .i64 0,.slice none 0 0,.int .i64 0,.slice (some ⟨b7,0,none⟩) 3 3,.slice (some ⟨b8,0,none⟩) 3 3,.slice (some ⟨b19,0,none⟩) 4 4]) (by kernel_rfl) ?_)
  |(with_reducible refine S.lit (t:=23) (e:=38) (cs:=[.string ByteArray.empty,.int .i64 0,.slice none 0 0,.int .i64 0,.slice (some ⟨b7,0,none⟩) 3 3,.slice (some ⟨b8,0,none⟩) 3 3,.slice (some ⟨b19,0,none⟩) 4 4]) (by kernel_rfl) fun b21 w9 S=>?_)
  |(with_reducible refine zu (t:=25) (cs:=#[.slice none 0 0,.slice (some ⟨b21,0,none⟩) 1 1,.int .i64 0]) (by kernel_rfl) ?_)
  |(with_reducible refine And.intro ?_ ?_)
  |(refine S.stB (b:=b0) fun w9 S=>?_;refine S.ceB (b:=b0) ?_ rfl;exact fin (b7:=b7) (b8:=b8) (b19:=b19) (b21:=b21) S a9 t9)
)
end Go.Proofs
end
section
namespace Go.Proofs
open Go.Sh Go.RowKit Go.BM
set_option maxRecDepth 100000
set_option linter.unusedSimpArgs false
set_option linter.unusedVariables false
theorem abr {u : UnD} {v : Value} {w : World} {r : Gh} {K : Value→World→Prop} (hr : Holds r w) (hu : UnG r v u) (h : ∀ (b : Bool) w',Ext w w'→K (.bool b) w') : zd Tryz.prog Tryz.vN #[v] w K:=by
 refine Tryz.V0 ?_
 unfold Tryz.Xw
 obtain ⟨p0,cap0,vf,rfl,_,_,hst,hsl,hfn⟩:=hu
 obtain ⟨qf,capf,rfl,_,_⟩:=hfn.sl.shape
 have hfl : u.fs.length≤9223372036854775807:=hfn.few
 have hsl' : u.ss.length≤9223372036854775807:=hsl
 have S:=St.start hr
 refine S.box fun b1 w1 S=>?_
 have S : StX noX w r w1 [.cell b1 [.slice p0 u.ss.length cap0,.slice qf u.fs.length capf,.int .i64 u.mn] 25]:=S
 refine gg_ ?_
 refine zi (c:=decide (40<(u.fs.length : Int))) (fun _ K2 hK2=>by refine gg_ ?_;exact hK2) ?_
 refine c_b (fun _=>h _ _ S.ext) (fun _=>?_)
 refine zk (ι:=Nat) (fun i=>[.int .i64 (i : Nat)]) (fun i w'=>i≤u.ss.length∧StX noX w r w' _) (fun i=>u.ss.length - i) 0 rfl ⟨Nat.zero_le _,S⟩ ?_
 clear S
 rintro i d w2 ⟨hi,S⟩ K6 hK6
 rw [List.getD_cons_zero]
 refine gg_ ?_
 refine zm (fun hlt=>?_) (fun hge=>?_)
 ·have hlt : i<u.ss.length:=by omega
  obtain ⟨b,off,q,capq,rfl,hcell,_,_,_⟩:=Zn hst hlt
  refine gg_ ?_
  refine zf (by rw [Int.toNat_natCast];exact S.at hcell) ?_
  refine gg_ ?_
  refine c_b (fun _=>h _ _ S.ext) (fun _=>?_)
  refine gg_ ?_
  rw [show ((i : Int)+1)=((i+1 : Nat) : Int) by omega]
  exact hK6 (i+1) _ ⟨hlt,S⟩ (by omega)
 refine zk (ι:=Nat × Int) (fun i=>[.int .i64 i.2,.int .i64 (i.1 : Nat)]) (fun i w'=>i.1≤u.fs.length∧StX noX w r w' _) (fun i=>u.fs.length - i.1) (0,0) rfl ⟨Nat.zero_le _,S⟩ ?_
 clear S hK6 K6 hge hi
 rintro ⟨i,n⟩ d w3 ⟨hi,S⟩ K7 hK7
 simp only at hi S ⊢
 simp only [List.getD_cons_zero,List.getD_cons_succ]
 refine gg_ ?_
 refine zm (fun hlt=>?_) (fun hge=>h _ _ S.ext)
 have hlt : i<u.fs.length:=by omega
 obtain ⟨bf,of,cf,rfl,hcf,hgc,hfo⟩:=hfn.sl.get (by decide) hlt
 generalize u.fs[i]=g at hgc
 obtain ⟨vo,vt,vn,vp,rfl,h1,h2,h3,h4⟩:=id hgc
 obtain ⟨qt,capt,rfl,_,hct⟩:=h2.sl.shape
 obtain ⟨qp,capp,rfl,_,_⟩:=h4.sl.shape
 have S:=S.go (Ext.drew _)
 have l4 : Ob r fun w=>w.cell? ⟨bf,of+i*7+4,none⟩=some (.slice qt g.tys.length capt):=hfo 4 _ rfl
 have l6 : Ob r fun w=>w.cell? ⟨bf,of+i*7+6,none⟩=some (.slice qp g.pts.length capp):=hfo 6 _ rfl
 refine gg_ ?_
 refine zf (by rw [Int.toNat_natCast];exact S.at l6) ?_
 refine gg_ ?_
 refine zf (by rw [Int.toNat_natCast];exact S.at l4) ?_
 refine gp_ ?_
 refine adW fun x=>?_
 refine adW fun y=>?_
 refine gg_ ?_
 refine zf (by rw [Int.toNat_natCast];exact S.at l6) ?_
 refine gg_ ?_
 refine zi (c:=decide (150<(g.tys.length : Int))) (fun _ K2 hK2=>?_) ?_
 ·refine gg_ ?_
  refine zf (by rw [Int.toNat_natCast];exact S.at l4) ?_
  refine gg_ ?_
  exact hK2
 refine zi (c:=decide (600<y)) (fun _ K2 hK2=>by refine gg_ ?_;exact hK2) ?_
 refine c_b (fun _=>h _ _ S.ext) (fun _=>?_)
 refine gg_ ?_
 rw [show ((i : Int)+1)=((i+1 : Nat) : Int) by omega]
 exact hK7 (i+1,y) _ ⟨hlt,S⟩ (by show u.fs.length - (i+1)<u.fs.length - i;omega)
theorem jc {l : List Int} {n : Int} {v : Value} {w : World} {r : Gh} {K : Value→World→Prop} (hr : Holds r w) (hl : SlG 1 r zO v l) (hf : l.length≤1000000)
  (h : K (.bool (decide (∀ x ∈ l,0≤x∧x<n))) w) : zd Tryz.prog Tryz.xw #[v,.int .i64 n] w K:=by
 refine Tryz.Jv ?_
 unfold Tryz.Z8
 obtain ⟨p,cap,rfl,_,_⟩:=hl.shape
 refine zk (ι:=Nat) (fun i=>[.int .i64 (i : Nat)]) (fun i w'=>w'=w∧i≤l.length∧∀ x ∈ l.take i,0≤x∧x<n) (fun i=>l.length - i) 0 rfl ⟨rfl,Nat.zero_le _,by simp⟩ ?_
 rintro i d w' ⟨rfl,hi,hn⟩ K1 hK1
 simp only [List.getD_cons_zero]
 refine gp_ ?_
 refine gp_ ?_
 refine zm (fun hlt=>?_) (fun hge=>?_)
 ·have hlt : i<l.length:=by omega
  obtain ⟨b,off,rfl,_,hc⟩:=zI hl hlt
  refine gg_ ?_
  refine zf (by rw [Int.toNat_natCast];exact hc _ hr) ?_
  refine gg_ ?_
  refine zi (c:=decide (n≤l[i])) (fun _ K2 hK2=>?_) ?_
  ·refine gg_ ?_
   refine zf (by rw [Int.toNat_natCast];exact hc _ hr) ?_
   refine gg_ ?_
   exact hK2
  refine c_b (fun hb=>?_) (fun hb=>?_)
  ·rw [decide_eq_false (fun hh=>by
    have:=hh _ (List.getElem_mem hlt)
    simp only [Bool.or_eq_true,decide_eq_true_eq] at hb
    omega)] at h
   exact h
  ·refine gp_ ?_
   refine hK1 (i+1) _ ⟨rfl,hlt,fun x hx=>?_⟩ (by omega)
   rw [List.take_succ_eq_append_getElem hlt,List.mem_append,List.mem_singleton] at hx
   rcases hx with hx|rfl
   ·exact hn x hx
   ·simp only [Bool.or_eq_false_iff,decide_eq_false_iff_not] at hb
    omega
 ·have : i=l.length:=by omega
  subst this
  rw [List.take_length] at hn
  rw [decide_eq_true hn] at h
  exact h
noncomputable def ku (g : GrD) : List qc:=(lvR g).map fun m=>((m.length : Nat),yJ m)
theorem vV {g : GrD} : (ku g).length=g.tys.length:=by rw [ku,List.length_map,ja]
theorem agv {b : Nat} {s : Gh} {m : List Bool} (h : Ob s fun w=>Blk w b (wcs (yJ m)) 76) (hm : m.length≤1032) : SlB 1 s WdC (.slice (some ⟨b,0,none⟩) (yJ m).length (yJ m).length) (yJ m):=by
 refine ⟨⟨_,_,rfl,(fun h=>by cases h),Nat.le_refl _,fun i hi=>⟨[u64 (yJ m)[i]],rfl,fun j v hj=>?_,rfl⟩⟩,by rw [aa4,maxLen];omega⟩
 obtain rfl : j=0:=by
  have:=(List.getElem?_eq_some_iff.1 hj).1
  simp at this;omega
 refine ⟨b,0,rfl,fun w hw=>?_⟩
 have B:=h w hw
 show w.cell? ⟨b,0+i*1+0,none⟩=some v
 rw [show 0+i*1+0=i by omega,B.cell,wcs,List.getElem?_map,List.getElem?_eq_getElem hi]
 cases hj;rfl
theorem afq {g : GrD} {bs : List Nat} {v : Value} {s s2 : Gh} (hbl : bs.length=g.tys.length) (hn : (ze g).length≤1032) (hv : SlG 2 s (ac3 (ze g).length) v bs)
  (hs2 : ∀ i (h1 : i<bs.length) (h2 : i<(lvR g).length),Ob s2 fun w=>Blk w bs[i] (wcs (yJ (lvR g)[i])) 76) : SlG 2 (s.or s2) (RwbC (s.or s2)) v (ku g):=by
 obtain ⟨p,cap,rfl,h2,h3,h4⟩:=hv
 have hol:=vV (g:=g)
 have hrl:=ja (g:=g)
 refine ⟨p,cap,by rw [hbl,hol],h2,by omega,fun i hi=>?_⟩
 have hib : i<bs.length:=by omega
 have hir : i<(lvR g).length:=by omega
 obtain ⟨c,h5,h6,h7⟩:=h4 i hib
 refine ⟨c,h5,h6.up inferInstance,?_⟩
 have hml : (lvR g)[i].length=(ze g).length:=by rw [vU,kE]
 have ho : (ku g)[i]=((((lvR g)[i].length : Nat) : Int),yJ (lvR g)[i]):=by simp [ku]
 have hB:=hs2 i hib hir
 rw [ho]
 generalize (lvR g)[i]=m at hB hml
 have hw : (yJ m).length=((ze g).length+63) / 64:=by rw [aa4,hml]
 refine ⟨some ⟨bs[i],0,none⟩,(yJ m).length,?_,(agv hB (by omega)).cells⟩
 show c = [.int .i64 ((m.length : Nat) : Int),.slice (some ⟨bs[i],0,none⟩) (yJ m).length (yJ m).length]
 rw [show c=rwL (ze g).length bs[i] from h7,hw,hml]
theorem ac6 {u : UnD} {n : Int} {v : Value} {w : World} {r : Gh} {K : Value→World→Prop} (hr : Holds r w) (hu : UnG r v u)
  (h : ∀ v' s w',Ext w w'→New w s w'→(fnE u n=0→∃ g,u.fs[n.toNat]? = some g∧netU u n=ze g∧SlG 2 s (RwbC s) v' (ku g))→(fnE u n≠0→v' = .slice none 0 0)→K (.tuple #[v',.int .i64 (fnE u n)]) w') : zd Tryz.prog Tryz.Zt #[v,.int .i64 n] w K:=by
 refine aei hr hu fun v' bs s w' e hE hN=>?_
 by_cases h0 : fnE u n=0
 ·obtain ⟨g,h1,h2,h3,ha,T,hv⟩:=hE h0
  have hF:=xL h0 h1
  have hnf:=hF.net.few
  obtain ⟨s2,T2,ha2,hs2⟩:=StX.frzCells (e:=76) (C:=fun m=>wcs (yJ m)) (bs:=bs) (R:=lvR g) (L:=[]) (by rw [h3,ja]) (by rw [List.append_nil];exact T)
  have ha2 : Above w s2:=fun b o ho=>(ha2 b o ho).resolve_right id
  exact h v' (s.or s2) w' e (StX.newOf (q:=s.or s2) T2.reGh (ha.or' ha2)) (fun _=>⟨g,h1,h2,afq h3 (by omega) hv hs2⟩) fun hh=>absurd h0 hh
 ·exact h v' nothing w' e New.nothing (fun hh=>absurd hh h0) hN
end Go.Proofs
end
section
namespace Go.Proofs
open Go.Sh Go.RowKit Go.BM
set_option maxRecDepth 100000
set_option linter.unusedSimpArgs false
set_option linter.unusedVariables false
theorem agw {g : GrD} {i : Nat} (h : i<g.tys.length) : (ku g).getD i (0,[])=((((lvM g i).length : Nat) : Int),yJ (lvM g i)):=by
 have h2 : i<(lvR g).length:=by rw [ja];exact h
 rw [ku,List.getD_eq_getElem?_getD,List.getElem?_map,List.getElem?_eq_getElem h2,vU];rfl
theorem ahc {g : GrD} (hF : LkF g) : ac5 g (ku g)=true:=by
 have hnf:=hF.net.few
 have hgl:=zQ (g:=g)
 rw [ac5,decide_eq_true vV,Bool.true_and,Bool.not_eq_true',Bool.eq_false_iff]
 intro hc
 obtain ⟨x,hx,hb⟩:=List.any_eq_true.1 hc
 rw [ku,List.mem_map] at hx
 obtain ⟨m,hm,rfl⟩:=hx
 rw [lvR,List.mem_map] at hm
 obtain ⟨i,_,rfl⟩:=hm
 have hl:=kE (g:=g) (x:=(i : Nat))
 rw [Xt,BM.mayB_true (afa (by omega))] at hb
 simp only [Bool.not_true,Bool.false_or,decide_eq_true_eq] at hb
 exact hb (by show (((lvM g (i : Nat)).length : Nat) : Int)=_;omega)
theorem agx {g : GrD} (hF : LkF g) {y p : Nat} (hy : y<g.tys.length) (hp : p<g.pts.length) : Yw g (ku g) y p=false:=by
 have hnf:=hF.net.few
 have hgl:=zQ (g:=g)
 have hl:=kE (g:=g) (x:=(y : Nat))
 have hM : Yv g ((ku g).getD y (0,[]))=lvM g y:=by
  rw [agw hy]
  show Xi g.pts.length (yJ (lvM g y))=_
  rw [← hgl,← hl]
  exact afd (by omega)
 rw [Yw,hM,ac4]
 cases hm : xf g y (lvM g y) p with
 |false=>rfl
 |true=>
  rw [abG hF.net.ok ⟨by omega,by omega⟩ hm];rfl
theorem agy {g : GrD} (hF : LkF g) : abj g (ku g)=none:=by
 rw [abj,vV]
 exact ack fun y hy p hp=>agx hF hy hp
theorem afr {u : UnD} {n : Int} {g : GrD} (h : fnE u n=0) (hg : u.fs[n.toNat]? = some g) : abk u n (ku g) = .tuple #[.int .i64 0,.int .i64 0,.bool true,.int .i64 0]:=by
 have hF:=xL h hg
 have hok : okC u n (ku g)=true:=by
  rw [okC,h,decide_eq_true rfl,Bool.true_and]
  simp only [hg]
  exact ahc hF
 have hcl : J4 u n (ku g)=none:=by
  rw [J4]
  simp only [hg]
  exact agy hF
 rw [abk,if_pos hok,hcl];rfl
def n4 : zs:=[[1],[2],[3],[]]
theorem vW : ze zt=n4:=by kernel_rfl
theorem XH : fnE yY 0=0:=by rw [fnE,aaO.2 aeX];rfl
theorem aek : netU yY 0=n4:=vW
theorem ahB : yw n4:=fun l hl x hx=>by
 have hl : l ∈ [[(1 : Int)],[2],[3],[]]:=hl
 simp only [List.mem_cons,List.not_mem_nil,or_false] at hl
 rcases hl with rfl|rfl|rfl|rfl<;>simp only [List.mem_cons,List.not_mem_nil,or_false] at hx
 all_goals subst hx;exact ⟨by decide,by decide⟩
theorem ahC {x : Int} (hx : isN n4 x) : x=0∨x=1∨x=2∨x=3:=by
 have:=hx.1;have h2 : x<4:=hx.2
 omega
theorem vX {x : Int} (h0 : 0≤x) (h1 : x<4) : isN (ze zt) x:=by rw [vW];exact ⟨h0,h1⟩
theorem jd {q : Int} (h0 : 0≤q) (h1 : q<4) : okQ yY 0 q=true:=by
 rw [okQ,XH,aek,decide_eq_true (show isN n4 q from ⟨h0,h1⟩)];rfl
theorem hand_ok : yw (ze zt):=by rw [vW];exact ahB
theorem Xy {x : Int} {m : List Bool} (h : (xf zt x m 0=true→mk' m 0=true)∧(xf zt x m 1=true→mk' m 1=true)∧(xf zt x m 2=true→mk' m 2=true)∧(xf zt x m 3=true→mk' m 3=true)) :
  ∀ q,isN (ze zt) q→xf zt x m q=true→mk' m q=true:=fun q hq=>by
 rw [vW] at hq
 rcases ahC hq with rfl|rfl|rfl|rfl
 ·exact h.1
 ·exact h.2.1
 ·exact h.2.2.1
 ·exact h.2.2.2
theorem afs : lvM zt 0 = [true,true,true,true]:=by
 have h:=Rnd.start (g:=zt) (x:=0)
 have h:=h.set hand_ok (q:=3) (vX (by decide) (by decide)) (by kernel_rfl)
 have h:=h.set hand_ok (q:=2) (vX (by decide) (by decide)) (by kernel_rfl)
 have h:=h.set hand_ok (q:=1) (vX (by decide) (by decide)) (by kernel_rfl)
 have h:=h.set hand_ok (q:=0) (vX (by decide) (by decide)) (by kernel_rfl)
 exact (h.end (Xy ⟨fun _=>by kernel_rfl,fun _=>by kernel_rfl,fun _=>by kernel_rfl,fun _=>by kernel_rfl⟩)).symm
theorem aft : lvM zt 1 = [true,false,false,false]:=by
 have h:=Rnd.start (g:=zt) (x:=1)
 have h:=h.set hand_ok (q:=0) (vX (by decide) (by decide)) (by kernel_rfl)
 have e1 : xf zt 1 (xt (List.replicate (ze zt).length false) 0) 1=false:=by kernel_rfl
 have e2 : xf zt 1 (xt (List.replicate (ze zt).length false) 0) 2=false:=by kernel_rfl
 have e3 : xf zt 1 (xt (List.replicate (ze zt).length false) 0) 3=false:=by kernel_rfl
 exact (h.end (Xy ⟨fun _=>by kernel_rfl,(fun hh=>by rw [e1] at hh;cases hh),(fun hh=>by rw [e2] at hh;cases hh),(fun hh=>by rw [e3] at hh;cases hh)⟩)).symm
theorem afu : lvM zt 2 = [false,true,true,false]:=by
 have h:=Rnd.start (g:=zt) (x:=2)
 have h:=h.set hand_ok (q:=2) (vX (by decide) (by decide)) (by kernel_rfl)
 have h:=h.set hand_ok (q:=1) (vX (by decide) (by decide)) (by kernel_rfl)
 have e1 : xf zt 2 (xt (xt (List.replicate (ze zt).length false) 2) 1) 0=false:=by kernel_rfl
 have e2 : xf zt 2 (xt (xt (List.replicate (ze zt).length false) 2) 1) 3=false:=by kernel_rfl
 exact (h.end (Xy ⟨(fun hh=>by rw [e1] at hh;cases hh),fun _=>by kernel_rfl,fun _=>by kernel_rfl,(fun hh=>by rw [e2] at hh;cases hh)⟩)).symm
theorem ael : yr zt 1 = [0,2]:=by
 have : yq zt 1 = [mk' (lvM zt 0) 1,mk' (lvM zt 1) 1,mk' (lvM zt 2) 1]:=rfl
 rw [yr,this,afs,aft,afu]
 decide
theorem afv : wayE n4 1 2 [0]=some [1,2]:=by
 refine jw.2 ⟨⟨[2],rfl,⟨.inl rfl,by decide⟩,rfl⟩,?_⟩
 rintro _ ⟨r,rfl,hp⟩
 cases r with
 |nil=>exact absurd (show (1 : Int)=2 from hp) (by decide)
 |cons y r=>
  refine ⟨by simp,fun hl=>?_⟩
  have : r = []:=List.eq_nil_of_length_eq_zero (by simpa using hl)
  subst this
  obtain rfl : y=2:=hp.2
  exact .inl rfl
theorem afw : QH zt 2 1=some [1,2]:=by
 have e1 : ptsW zt (Usd zt 2) = [2]:=by kernel_rfl
 have e2 : ptsW zt (zz zt 2) = [0]:=by kernel_rfl
 have e3 : decide (zz zt 2 1)=false:=by kernel_rfl
 rw [QH,e1,e2,e3,vW,List.foldl_cons,List.foldl_nil,aci (by decide),afv]
 rfl
theorem VF : QO yY 0 2 1=some [1,2]:=afw
theorem abs : okY yY 0 2 1=true:=by
 rw [okY,jd (by decide) (by decide)]
 rfl
end Go.Proofs
end
section
namespace Go.Proofs
open Go.Sh Go.RowKit Go.BM
set_option maxRecDepth 100000
set_option linter.unusedSimpArgs false
set_option linter.unusedVariables false
theorem afx : usL zt 2 = [2]:=by
 refine Jj Yt (by decide) fun x=>?_
 have e : Xh zt 2 = [2]:=by kernel_rfl
 rw [vd,e]
theorem afy : ((yY.fs[(0 : Int).toNat]?.bind fun g=>jJ g 0))=some 2:=by kernel_rfl
theorem QQ : yY.fs[(0 : Int).toNat]? = some zt:=rfl
set_option maxHeartbeats 4000000 in
theorem jO {w : World} {K : Value→World→Prop} (h : ∀ w',Ext w w'→K (.bool true) w') : zd Tryz.prog Tryz.xP #[] w K:=by
 refine Tryz.J5 ?_
 unfold Tryz.YI
 have S : StX noX w nothing w []:=St.start (fun _ _ h=>h.elim)
 refine abq fun v2 s2 w2 e2 n2 hu=>?_
 obtain ⟨S,_,_⟩:=S.tell e2 n2
 refine S.al fun b0 w3 S=>?_
 obtain ⟨p0,cap0,vf,rfl,_,_,_,_,hfn⟩:=id hu
 obtain ⟨qf,capf,rfl,_,_⟩:=hfn.sl.shape
 refine S.stB (b:=b0) fun w4 S=>?_
 have S:=S.to s2
 have S : StX noX w s2 w4 [.cell b0 [.slice p0 0 cap0,.slice qf 1 capf,.int .i64 0] 25]:=S
 have hu : UnG s2 (.agg #[.slice p0 0 cap0,.slice qf 1 capf,.int .i64 0]) yY:=hu
 refine S.ldB (b:=b0) ?_ rfl
 refine ac6 S.holds hu fun v5 s5 w5 e5 n5 h5 _=>?_
 obtain ⟨g,hg,_,h5⟩:=h5 XH
 obtain rfl : zt=g:=Option.some.inj hg
 rw [XH]
 obtain ⟨S,_,_⟩:=S.tell e5 n5
 obtain ⟨p5,cp5,hv5,_,_⟩:=h5.shape
 subst hv5
 obtain ⟨b5,o5,c5,rfl,_,hc5,g5⟩:=h5.get (i:=2) (by decide) (by rw [vV];decide)
 obtain ⟨q5,k5,rfl,_⟩:=hc5
 have g5 : Ob s5 fun w=>w.cell? ⟨b5,o5+2*2+0,none⟩=some (.int .i64 4):=g5 0 _ rfl
 have hol : (ku zt).length=3:=vV
 rw [hol]
 rw [hol] at h5
 refine gS_ ?_
 refine S.ldB (b:=b0) ?_ rfl
 refine Xr S.holds hu.up fun v6 s6 w6 e6 n6 h6=>?_
 rw [jd (by decide) (by decide),if_pos rfl] at h6
 rw [jd (by decide) (by decide),if_pos rfl]
 simp only [QQ,ael] at h6
 obtain ⟨S,_,_⟩:=S.tell e6 n6
 obtain ⟨p6,cp6,rfl,_,_⟩:=h6.shape
 obtain ⟨b6,o6,rfl,_,g60⟩:=zI h6 (i:=0) (by decide)
 obtain ⟨b62,o62,hp6,_,g61⟩:=zI h6 (i:=1) (by decide)
 cases hp6
 refine gS_ ?_
 refine S.ldB (b:=b0) ?_ rfl
 refine ZJ S.holds hu.up fun v7 s7 w7 e7 n7 h7=>?_
 rw [jd (by decide) (by decide),if_pos rfl] at h7
 rw [jd (by decide) (by decide),if_pos rfl]
 simp only [QQ,afx] at h7
 obtain ⟨S,_,_⟩:=S.tell e7 n7
 obtain ⟨p7,cp7,rfl,_,_⟩:=h7.shape
 obtain ⟨b7,o7,rfl,_,g7⟩:=zI h7 (i:=0) (by decide)
 refine gS_ ?_
 refine S.ldB (b:=b0) ?_ rfl
 refine Qb S.holds hu.up fun w8 e8=>?_
 have S:=S.go e8
 rw [jd (by decide) (by decide),if_pos rfl,if_pos rfl,afy]
 refine gS_ ?_
 refine S.ldB (b:=b0) ?_ rfl
 refine Jt S.holds hu.up fun v9 s9 w9 e9 n9 h9=>?_
 rw [abs,if_pos rfl,VF] at h9
 rw [abs,if_pos rfl,VF]
 have h9 : SlG 1 s9 zO v9 [1,2]:=h9
 obtain ⟨S,_,_⟩:=S.tell e9 n9
 obtain ⟨p9,cp9,rfl,_,_⟩:=h9.shape
 refine gS_ ?_
 refine S.ldB (b:=b0) ?_ rfl
 refine VZ S.holds hu.up (h5.up' inferInstance fun _ _ h=>h.up) (by rw [hol];decide) fun w10 e10=>?_
 rw [afr XH QQ]
 have S:=S.go e10
 refine gS_ ?_
 refine zh (c:=true) (fun _ K2 hK2=>by refine gg_ ?_;exact hK2) ?_
 refine zh (c:=true) (fun _ K2 hK2=>?_) ?_
 ·refine gg_ ?_
  refine zf (v:=.int .i64 4) (by simpa using S.at g5) ?_
  refine gg_ ?_
  exact hK2
 refine zh (c:=true) (fun _ K2 hK2=>by refine gg_ ?_;exact hK2) ?_
 refine zh (c:=true) (fun _ K2 hK2=>by refine gg_ ?_;exact hK2) ?_
 refine zh (c:=true) (fun _ K2 hK2=>?_) ?_
 ·refine gg_ ?_
  refine s_c (by simp) ?_
  refine zf (v:=.int .i64 0) (by simpa using S.at g60) ?_
  refine gg_ ?_
  exact hK2
 refine zh (c:=true) (fun _ K2 hK2=>?_) ?_
 ·refine gg_ ?_
  refine s_c (by simp) ?_
  refine zf (v:=.int .i64 2) (by simpa using S.at g61) ?_
  refine gg_ ?_
  exact hK2
 refine zh (c:=true) (fun _ K2 hK2=>by refine gg_ ?_;exact hK2) ?_
 refine zh (c:=true) (fun _ K2 hK2=>by refine gg_ ?_;exact hK2) ?_
 refine zh (c:=true) (fun _ K2 hK2=>?_) ?_
 ·refine gg_ ?_
  refine s_c (by simp) ?_
  refine zf (v:=.int .i64 2) (by simpa using S.at g7) ?_
  refine gg_ ?_
  exact hK2
 refine zh (c:=true) (fun _ K2 hK2=>by refine gg_ ?_;exact hK2) ?_
 refine zh (c:=true) (fun _ K2 hK2=>hK2) ?_
 refine zh (c:=true) (fun _ K2 hK2=>by refine gg_ ?_;exact hK2) ?_
 refine zh (c:=true) (fun _ K2 hK2=>hK2) ?_
 refine zh (c:=true) (fun _ K2 hK2=>by refine gg_ ?_;exact hK2) ?_
 refine zh (c:=true) (fun _ K2 hK2=>by refine gg_ ?_;exact hK2) ?_
 refine zh (c:=true) (fun _ K2 hK2=>hK2) ?_
 refine zh (c:=true) (fun _ K2 hK2=>by refine gg_ ?_;exact hK2) ?_
 exact h _ S.ext
end Go.Proofs
end
section
namespace Go.Proofs
open Go.Sh Go.RowKit
set_option maxRecDepth 100000
set_option linter.unusedSimpArgs false
set_option linter.unusedVariables false
theorem ac7 {n : zs} (hn : yw n) {W : List Int} {q p : Int} {w : List Int} (hq : isN n q) (h : wayE n q p W=some w) : ∃ hl : 0<w.length,w[0]=q∧w[w.length - 1]=p∧isW n w=(0,true):=by
 obtain ⟨r,rfl,hr⟩:=(jw.1 h).1
 obtain ⟨h1,h2,h3⟩:=Pth.edges hn hq hr
 refine ⟨by simp,rfl,?_,?_⟩
 ·rw [← h3,List.getLast_eq_getElem]
 ·rw [aba fun j hj=>?_]
  ·simp
  ·have hj' : j<(q::r).length:=hj
   have e1 : (q::r).getD j 0=(q::r)[j]:=by rw [List.getD_eq_getElem?_getD,List.getElem?_eq_getElem hj'];rfl
   rw [vT,e1,decide_eq_true (h1 _ (List.getElem_mem hj'))]
   cases j with
   |zero=>rfl
   |succ j=>
    have h4:=h2 j (by simpa using hj')
    have e2 : r.getD j 0=(q::r)[j+1]:=by
     rw [List.getD_eq_getElem?_getD,List.getElem?_eq_getElem (by simpa using hj')];rfl
    rw [e2] at h4
    rw [show j+1 - 1=j from rfl,decide_eq_true h4]
    simp
structure Wnt (g : GrD) (W : List Int) (P : Int→Prop) (b : Nat) : Prop where
 len : W.length=g.tys.length
 pos : ∀ x,isL g x→0≤W.getD x.toNat 0∧W.getD x.toNat 0≤b∧(0<W.getD x.toNat 0↔P x)
theorem Wnt.start {g : GrD} : Wnt g (List.replicate g.tys.length 0) (fun _=>False) 0:=⟨List.length_replicate,fun x hx=>by
 have x0:=hx.1;have x1:=hx.2
 rw [List.getD_eq_getElem?_getD,List.getElem?_replicate,if_pos (by omega),Option.getD_some]
 exact ⟨by omega,by omega,fun h=>by omega,fun h=>h.elim⟩⟩
theorem Wnt.mono {g : GrD} {W : List Int} {P Q : Int→Prop} {b c : Nat} (h : Wnt g W P b) (hb : b≤c) (hP : ∀ x,isL g x→(P x↔Q x)) : Wnt g W Q c:=
 ⟨h.len,fun x hx=>⟨(h.pos x hx).1,by have:=(h.pos x hx).2.1;omega,(h.pos x hx).2.2.trans (hP x hx)⟩⟩
theorem Wnt.inc {g : GrD} {W : List Int} {P : Int→Prop} {b : Nat} {x : Int} (h : Wnt g W P b) (hx : isL g x) : Wnt g (W.set x.toNat (W.getD x.toNat 0+1)) (fun y=>P y∨y=x) (b+1):=by
 have x0:=hx.1;have x1:=hx.2;have hl:=h.len
 refine ⟨by rw [List.length_set];exact hl,fun y hy=>?_⟩
 have y0:=hy.1;have y1:=hy.2
 obtain ⟨h1,h2,h3⟩:=h.pos y hy
 by_cases e : y=x
 ·subst e
  have : (W.set y.toNat (W.getD y.toNat 0+1)).getD y.toNat 0=W.getD y.toNat 0+1:=by
   rw [List.getD_eq_getElem?_getD,List.getElem?_set_self (by omega)];rfl
  rw [this]
  exact ⟨by omega,by omega,fun _=>.inr rfl,fun _=>by omega⟩
 ·have : (W.set x.toNat (W.getD x.toNat 0+1)).getD y.toNat 0=W.getD y.toNat 0:=by
   rw [List.getD_eq_getElem?_getD,List.getElem?_set_ne (by omega),List.getD_eq_getElem?_getD]
  rw [this]
  exact ⟨h1,by omega,fun h=>.inl (h3.1 h),fun h=>h3.2 (h.resolve_right e)⟩
def jP (g : GrD) (q : Int) (l : List Int) (x : Int) : Prop:=Usd g x q∨∃ p ∈ l,x ∈ yr g p∧¬ zz g x q
theorem agz {g : GrD} (hok : yw (ze g)) {q x : Int} (hq : isN (ze g) q) (hx : isL g x) : jP g q (nxt (ze g) q) x↔Lvd g x q:=by
 rw [ae9 hq,jP]
 refine or_congr Iff.rfl ⟨?_,?_⟩
 ·rintro ⟨p,hp,h1,h2⟩
  exact ⟨h2,p,hp,((vL (kU hok hp)).1 h1).2⟩
 ·rintro ⟨h2,p,hp,h1⟩
  exact ⟨p,hp,(vL (kU hok hp)).2 ⟨hx,h1⟩,h2⟩
theorem afz {g : GrD} {q x : Int} {l : List Int} {i : Nat} (hi : i<l.length) : jP g q (l.take (i+1)) x↔jP g q (l.take i) x∨(x ∈ yr g l[i]∧¬ zz g x q):=by
 rw [jP,jP,List.take_succ_eq_append_getElem hi,or_assoc]
 refine or_congr Iff.rfl ⟨?_,?_⟩
 ·rintro ⟨p,hp,h⟩
  rcases List.mem_append.1 hp with hp|hp
  ·exact .inl ⟨p,hp,h⟩
  ·rw [List.mem_singleton.1 hp] at h;exact .inr h
 ·rintro (⟨p,hp,h⟩|h)
  ·exact ⟨p,List.mem_append_left _ hp,h⟩
  ·exact ⟨l[i],List.mem_append_right _ (List.mem_singleton.2 rfl),h⟩
theorem abt {α : Type} {l : List α} {k : Nat} (h : k<l.length) {x : α} : x ∈ l.take (k+1)↔x ∈ l.take k∨x=l[k]:=by
 rw [List.take_succ_eq_append_getElem h,List.mem_append,List.mem_singleton]
set_option maxHeartbeats 8000000 in
theorem XT {u : UnD} {n q : Int} {v : Value} {w : World} {r : Gh} {K : Value→World→Prop} (hr : Holds r w) (hu : UnG r v u)
  (h : ∀ w',Ext w w'→K (.bool true) w') : zd Tryz.prog Tryz.jX #[v,.int .i64 n,.int .i64 q] w K:=by
 refine Tryz.Xv ?_
 unfold Tryz.jZ
 have hu0:=hu
 obtain ⟨p0,cap0,vf,rfl,_,_,hst,hsl,hfn⟩:=hu
 obtain ⟨qf,capf,rfl,_,_⟩:=hfn.sl.shape
 have hfl : u.fs.length≤9223372036854775807:=hfn.few
 have S:=St.start hr
 refine S.box fun b3 w1 S=>?_
 have S : StX noX w r w1 [.cell b3 [.slice p0 u.ss.length cap0,.slice qf u.fs.length capf,.int .i64 u.mn] 25]:=S
 refine S.ldB (b:=b3) ?_ rfl
 refine abr S.holds hu0 fun y w2 e2=>?_
 have S:=S.go e2
 refine gp_ ?_
 refine c_b (fun _=>jO fun w3 e3=>h _ (S.go e3).ext) (fun _=>?_)
 refine S.ldB (b:=b3) ?_ rfl
 refine Xr S.holds hu0 fun v42 s42 w4 e4 n4 h42=>?_
 obtain ⟨S,_,_⟩:=S.tell e4 n4
 cases hok : okQ u n q with
 |false=>
  rw [hok,if_neg (by decide)] at h42
  rw [if_neg (by decide)]
  obtain ⟨p42,c42,rfl,_,_⟩:=h42.shape
  refine gS_ ?_
  refine zT (c:=true) (fun _ K2 hK2=>jO fun w8 e8=>hK2 _ e8) fun w8 e8=>?_
  have:=h _ (S.go e8).ext
  simpa using this
 |true=>
 obtain ⟨hE0,hqN⟩:=Z7 hok
 obtain ⟨bf,of,g,x1,x2,x3,x4,y1,y2,y3,y4,hqf,hgi,hnu,hFn,hn0,hn1,hg,hfo⟩:=afl hfn hE0
 cases hqf
 have hF:=xL hE0 hgi
 have hnf:=hF.net.few
 have hmf:=hF.loc.few
 have hokN:=hF.net.ok
 have hgl:=zQ (g:=g)
 have hpn:=ag6 hE0 hqN
 rw [hnu] at hqN hpn
 have q0:=hqN.1;have q1:=hqN.2
 rw [hok,if_pos rfl] at h42
 rw [if_pos rfl]
 simp only [hgi] at h42
 refine gS_ ?_
 refine c_f (by simp) ?_
 have hlv : ∀ x ∈ yr g q,0≤x∧x<(g.tys.length : Int):=fun x hx=>((vL hqN).1 hx).1
 have hlf : (yr g q).length≤g.tys.length:=aa3
 refine S.ldB (b:=b3) ?_ rfl
 refine ZJ S.holds hu0.up fun v56 s56 w10 e10 n10 h56=>?_
 obtain ⟨S,_,_⟩:=S.tell e10 n10
 rw [hok,if_pos rfl] at h56
 rw [hok,if_pos rfl]
 simp only [hgi] at h56
 refine gS_ ?_
 refine S.ldB (b:=b3) ?_ rfl
 refine Qb S.holds hu0.up fun w11 e11=>?_
 have S:=S.go e11
 rw [hok,if_pos rfl,if_pos rfl,hgi,Option.bind_some,Bool.true_and]
 refine gS_ ?_
 refine S.ldB (b:=b3) ?_ rfl
 refine aaT S.holds hu0.up fun v71 s71 w12 e12 n12 h71=>?_
 obtain ⟨S,_,_⟩:=S.tell e12 n12
 rw [hpn.2] at h71
 rw [hpn.1]
 refine gS_ ?_
 obtain ⟨p42,c42,rfl,_,_⟩:=h42.shape
 obtain ⟨p56,c56,rfl,_,_⟩:=h56.shape
 obtain ⟨p71,c71,rfl,_,_⟩:=h71.shape
 have hul : ∀ x ∈ usL g q,isL g x:=fun x hx=>QG hF.loc (vd.1 hx)
 have huf : (usL g q).length≤g.tys.length:=by
  have hs:=Yt (g:=g) (q:=q)
  have hn : (usL g q).Nodup:=hs.imp fun h=>Int.ne_of_lt h
  have:=abe (n:=List.replicate g.tys.length []) hn fun x hx=>⟨(hul x hx).1,by rw [List.length_replicate];exact (hul x hx).2⟩
  rwa [List.length_replicate] at this
 have hnfew : (nxt (ze g) q).length≤2:=by rw [Ji hqN];exact hF.net.nar _ (List.getElem_mem _)
 have hnN : ∀ y ∈ nxt (ze g) q,isN (ze g) y:=fun y hy=>kU hokN hy
 have h42:=h42.cells (s:=((r.or s42).or s56).or s71)
 have h56:=h56.cells (s:=((r.or s42).or s56).or s71)
 have h71:=h71.cells (s:=((r.or s42).or s56).or s71)
 have hu1:=hu0.up (s:=((r.or s42).or s56).or s71)
 have hfo4:=(hfo 4 _ rfl).up (s:=((r.or s42).or s56).or s71)
 generalize ((r.or s42).or s56).or s71=ρ at S h42 h56 h71 hu1 hfo4
 refine zi (c:=false) (fun _ K2 hK2=>by refine gg_ ?_;exact hK2) ?_
 refine zi (c:=false) (fun _ K2 hK2=>by refine gg_ ?_;exact hK2) ?_
 refine zi (c:=false) (fun _ K2 hK2=>?_) ?_
 ·refine gg_ ?_
  refine zf (S.at hfo4) ?_
  refine gg_ ?_
  refine jc S.holds h56 (by omega) ?_
  rw [decide_eq_true (show ∀ x ∈ usL g q,0≤x∧x<(g.tys.length : Int) from hul)]
  refine gp_ ?_
  exact hK2
 refine zi (c:=false) (fun _ K2 hK2=>?_) ?_
 ·refine gg_ ?_
  refine zf (S.at hfo4) ?_
  refine gg_ ?_
  refine jc S.holds h42 (by omega) ?_
  rw [decide_eq_true hlv]
  refine gp_ ?_
  exact hK2
 refine c_f (by simp) ?_
 refine gg_ ?_
 refine zf (S.at hfo4) ?_
 refine gg_ ?_
 refine S.mkS (by omega) (by omega) fun b115 w31 S=>?_
 rw [Int.toNat_natCast] at S ⊢
 have S : StX noX w ρ w31 [.cell b115 (ints (List.replicate g.tys.length 0)) 3,.cell b3 [.slice p0 u.ss.length cap0,.slice (some ⟨bf,of,none⟩) u.fs.length capf,.int .i64 u.mn] 25]:=by
  rw [show ints (List.replicate g.tys.length 0)=List.replicate g.tys.length (.int .i64 0) by simp [ints]];exact S
 refine zk (ι:=Nat × List Int) (fun i=>[.int .i64 (i.1 : Nat)]) (fun i w'=>i.1≤(usL g q).length∧Wnt g i.2 (fun x=>x ∈ (usL g q).take i.1) i.1∧StX noX w ρ w' [.cell b115 (ints i.2) 3,.cell b3 [.slice p0 u.ss.length cap0,.slice (some ⟨bf,of,none⟩) u.fs.length capf,.int .i64 u.mn] 25]) (fun i=>(usL g q).length - i.1) (0,List.replicate g.tys.length 0) rfl ⟨Nat.zero_le _,Wnt.start.mono (Nat.le_refl _) fun x hx=>by simp,S⟩ ?_
 repeat clear S
 rintro ⟨i,W⟩ d w35 ⟨hi,hW,S⟩ K32 hK32
 simp only at hi hW S ⊢
 rw [List.getD_cons_zero]
 refine gp_ ?_
 refine gp_ ?_
 refine zm (fun hlt=>?_) (fun hge=>?_)
 ·have hlt : i<(usL g q).length:=by omega
  obtain ⟨ba,oa,hpa,_,ga⟩:=zI h56 hlt
  have hxl:=hul _ (List.getElem_mem hlt)
  have htm:=fun y=>abt (x:=y) hlt
  generalize (usL g q)[i]=x at ga hxl htm
  subst hpa
  have x0:=hxl.1;have x1':=hxl.2
  have hWl:=hW.len
  obtain ⟨hw1,hw2,_⟩:=hW.pos x hxl
  refine gg_ ?_
  refine zf (by rw [Int.toNat_natCast];exact S.at ga) ?_
  refine gp_ ?_
  refine S.ld (b:=b115) ?_ (Zy (by omega))
  refine gg_ ?_
  refine S.st (b:=b115) (fun w36 S=>?_) (by rw [kk];omega)
  refine gg_ ?_
  refine hK32 (i+1,W.set x.toNat (W.getD x.toNat 0+1)) _ ⟨hlt,(hW.inc hxl).mono (Nat.le_refl _) fun y hy=>(htm y).symm,?_⟩ (by show (usL g q).length - (i+1)<(usL g q).length - i;omega)
  rw [Nat.zero_add,VD] at S
  exact S
 have hie : i=(usL g q).length:=by omega
 clear hK32 K32 hge hi d
 subst hie
 rw [List.take_length] at hW
 have hW : Wnt g W (jP g q ((nxt (ze g) q).take 0)) (512+512*0):=hW.mono (by omega) fun x hx=>by simp [jP,Usd,vd]
 refine zk (ι:=Nat × List Int) (fun i=>[.int .i64 (i.1 : Nat)]) (fun i w'=>i.1≤(nxt (ze g) q).length∧Wnt g i.2 (jP g q ((nxt (ze g) q).take i.1)) (512+512*i.1)∧StX noX w ρ w' [.cell b115 (ints i.2) 3,.cell b3 [.slice p0 u.ss.length cap0,.slice (some ⟨bf,of,none⟩) u.fs.length capf,.int .i64 u.mn] 25]) (fun i=>(nxt (ze g) q).length - i.1) (0,W) rfl ⟨Nat.zero_le _,hW,S⟩ ?_
 repeat clear hW
 repeat clear S
 clear W
 rintro ⟨i,W⟩ d w40 ⟨hi,hW,S⟩ K37 hK37
 simp only at hi hW S ⊢
 rw [List.getD_cons_zero]
 refine gp_ ?_
 refine gp_ ?_
 refine zm (fun hlt=>?_) (fun hge=>?_)
 ·have hlt : i<(nxt (ze g) q).length:=by omega
  obtain ⟨ba,oa,hpa,_,ga⟩:=zI h71 hlt
  have hpN:=hnN _ (List.getElem_mem hlt)
  have hsn:=fun x=>afz (g:=g) (q:=q) (x:=x) hlt
  generalize (nxt (ze g) q)[i]=p at ga hpN hsn
  subst hpa
  have S:=S.go (Ext.drew _)
  refine S.ldB (b:=b3) ?_ rfl
  refine gg_ ?_
  refine zf (by rw [Int.toNat_natCast];exact S.at ga) ?_
  refine Xr S.holds hu1 fun v144 s144 w41 e41 n41 h144=>?_
  obtain ⟨S,_,_⟩:=S.tell e41 n41
  have hokp : okQ u n p=true:=by rw [Yu hE0 hnu,decide_eq_true hpN]
  rw [hokp,if_pos rfl] at h144
  rw [hokp,if_pos rfl]
  simp only [hgi] at h144
  obtain ⟨p144,c144,rfl,_,_⟩:=h144.shape
  have hlvp : ∀ x ∈ yr g p,0≤x∧x<(g.tys.length : Int):=fun x hx=>((vL hpN).1 hx).1
  have hlfp : (yr g p).length≤g.tys.length:=aa3
  refine gS_ ?_
  refine zi (c:=false) (fun _ K2 hK2=>?_) ?_
  ·refine gg_ ?_
   refine jc S.holds h144.cells (by omega) ?_
   rw [decide_eq_true hlvp]
   refine gp_ ?_
   exact hK2
  refine c_f (by simp) ?_
  have hW : Wnt g W (fun x=>jP g q ((nxt (ze g) q).take i) x∨(x ∈ (yr g p).take 0∧¬ zz g x q)) (512+512*i+0):=hW.mono (Nat.le_refl _) fun x hx=>by simp
  refine zk (ι:=Nat × List Int) (fun k=>[.int .i64 (k.1 : Nat)]) (fun k w'=>k.1≤(yr g p).length∧Wnt g k.2 (fun x=>jP g q ((nxt (ze g) q).take i) x∨(x ∈ (yr g p).take k.1∧¬ zz g x q)) (512+512*i+k.1)∧StX noX w (ρ.or s144) w' [.cell b115 (ints k.2) 3,.cell b3 [.slice p0 u.ss.length cap0,.slice (some ⟨bf,of,none⟩) u.fs.length capf,.int .i64 u.mn] 25]) (fun k=>(yr g p).length - k.1) (0,W) rfl ⟨Nat.zero_le _,hW,S⟩ ?_
  repeat clear hW
  repeat clear S
  rintro ⟨k,W⟩ d w50 ⟨hk,hW,S⟩ K47 hK47
  simp only at hk hW S ⊢
  rw [List.getD_cons_zero]
  refine gp_ ?_
  refine gp_ ?_
  refine zm (fun hltk=>?_) (fun hgek=>?_)
  ·have hltk : k<(yr g p).length:=by omega
   obtain ⟨bm,om,hpm,_,gm⟩:=zI h144 hltk
   have hxl:=hlvp _ (List.getElem_mem hltk)
   have htm:=fun y=>abt (x:=y) hltk
   generalize (yr g p)[k]=x at gm hxl htm
   subst hpm
   have x0:=hxl.1;have x1':=hxl.2
   have hWl:=hW.len
   obtain ⟨hw1,hw2,_⟩:=hW.pos x hxl
   have hi2 : i≤2:=by omega
   have hk5 : k≤512:=by omega
   refine zq (fun _ w'=>∃ W',Wnt g W' (fun x=>jP g q ((nxt (ze g) q).take i) x∨(x ∈ (yr g p).take (k+1)∧¬ zz g x q)) (512+512*i+(k+1))∧StX noX w (ρ.or s144) w' [.cell b115 (ints W') 3,.cell b3 [.slice p0 u.ss.length cap0,.slice (some ⟨bf,of,none⟩) u.fs.length capf,.int .i64 u.mn] 25]) (fun K51 hK51=>?_) ?_
   ·refine gp_ ?_
    refine zi (c:=decide (x≠(jJ g q).getD 0)) (fun _ K2 hK2=>?_) ?_
    ·refine gg_ ?_
     refine zf (by rw [Int.toNat_natCast];exact S.at gm) ?_
     refine gg_ ?_
     exact hK2
    have hEn : (!(jJ g q).isSome||decide (x≠(jJ g q).getD 0)) = !decide (zz g x q):=by
     have : decide (zz g x q)=decide (jJ g q=some x):=rfl
     rw [this]
     cases jJ g q with
     |none=>rfl
     |some y=>simp [eq_comm]
    rw [hEn]
    refine c_b (fun hb=>?_) (fun hb=>?_)
    ·have hnE : ¬ zz g x q:=by simpa using hb
     refine gg_ ?_
     refine zf (by rw [Int.toNat_natCast];exact S.at gm) ?_
     refine gp_ ?_
     refine S.ld (b:=b115) ?_ (Zy (by omega))
     refine gg_ ?_
     refine S.st (b:=b115) (fun w36 S=>?_) (by rw [kk];omega)
     refine hK51 _ _ ⟨W.set x.toNat (W.getD x.toNat 0+1),(hW.inc hxl).mono (by omega) fun y hy=>?_,?_⟩
     ·rw [htm y,or_assoc]
      refine or_congr Iff.rfl ⟨?_,?_⟩
      ·rintro (⟨h1,h2⟩|rfl)
       ·exact ⟨.inl h1,h2⟩
       ·exact ⟨.inr rfl,hnE⟩
      ·rintro ⟨h1|h1,h2⟩
       ·exact .inl ⟨h1,h2⟩
       ·exact .inr h1
     ·rw [Nat.zero_add,VD] at S
      exact S
    ·have hEx : zz g x q:=by simpa using hb
     refine hK51 _ _ ⟨W,hW.mono (by omega) fun y hy=>?_,S⟩
     rw [htm y]
     refine or_congr Iff.rfl ⟨fun ⟨h1,h2⟩=>⟨.inl h1,h2⟩,?_⟩
     rintro ⟨h1|rfl,h2⟩
     ·exact ⟨h1,h2⟩
     ·exact absurd hEx h2
   repeat clear S
   rintro _ w54 ⟨W',hW',S⟩ d
   refine gp_ ?_
   exact hK47 (k+1,W') _ ⟨hltk,hW',S⟩ (by show (yr g p).length - (k+1)<(yr g p).length - k;omega)
  ·have hke : k=(yr g p).length:=by omega
   subst hke
   rw [List.take_length] at hW
   refine gp_ ?_
   exact hK37 (i+1,W) _ ⟨hlt,hW.mono (by omega) fun x hx=>(hsn x).symm,S.less (fun b o h=>.inl h) (List.Sublist.refl _)⟩ (by show (nxt (ze g) q).length - (i+1)<(nxt (ze g) q).length - i;omega)
 have hie : i=(nxt (ze g) q).length:=by omega
 clear hK37 K37 hge hi d
 subst hie
 rw [List.take_length] at hW
 have hWl:=hW.len
 have hWp : ∀ x,isL g x→0≤W.getD x.toNat 0∧(0<W.getD x.toNat 0↔Lvd g x q):=fun x hx=>⟨(hW.pos x hx).1,(hW.pos x hx).2.2.trans (agz hokN hqN hx)⟩
 clear hW
 have hcl:=QJ (g:=g) (q:=q)
 refine zk (ι:=Nat) (fun i=>[.int .i64 ((mkd ((yq g q).take i)).length : Nat),.int .i64 (i : Nat)]) (fun i w'=>i≤W.length∧StX noX w ρ w' [.cell b115 (ints W) 3,.cell b3 [.slice p0 u.ss.length cap0,.slice (some ⟨bf,of,none⟩) u.fs.length capf,.int .i64 u.mn] 25]) (fun i=>W.length - i) 0 rfl ⟨Nat.zero_le _,S⟩ ?_
 repeat clear S
 rintro i d w63 ⟨hi,S⟩ K60 hK60
 simp only [List.getD_cons_zero,List.getD_cons_succ]
 refine gp_ ?_
 rw [← hWl]
 refine gp_ ?_
 refine zm (fun hlt=>?_) (fun hge=>?_)
 ·have hlt : i<W.length:=by omega
  have hic : i<(yq g q).length:=by omega
  have hsn:=Yo hic
  have hiL : isL g (i : Int):=⟨by omega,by omega⟩
  obtain ⟨hw1,hw2⟩:=hWp _ hiL
  have hcm : (yq g q)[i]=true↔Lvd g (i : Int) q:=by
   have : (yq g q)[i]=mk' (lvM g i) q:=by simp [yq]
   rw [this,Z1 hqN]
  have hfl : (mkd ((yq g q).take i)).length≤512:=by
   have:=acf (m:=(yq g q).take i)
   rw [List.length_take] at this
   omega
  refine zq (fun y w'=>y = [.int .i64 ((mkd ((yq g q).take (i+1))).length : Nat)]∧StX noX w ρ w' [.cell b115 (ints W) 3,.cell b3 [.slice p0 u.ss.length cap0,.slice (some ⟨bf,of,none⟩) u.fs.length capf,.int .i64 u.mn] 25]) (fun K64 hK64=>?_) ?_
  ·refine gp_ ?_
   refine S.ld (b:=b115) ?_ (Zy (by omega))
   refine gp_ ?_
   refine zm (fun hp=>?_) (fun hp=>?_)
   ·rw [if_pos (hcm.2 (hw2.1 (by omega)))] at hsn
    refine gg_ ?_
    refine hK64 _ _ ⟨?_,S⟩
    rw [hsn,List.length_append,List.length_singleton];rfl
   ·rw [if_neg (fun hc=>hp (by have:=hw2.2 (hcm.1 hc);omega)),List.append_nil] at hsn
    exact hK64 _ _ ⟨by rw [hsn],S⟩
  repeat clear S
  rintro _ w67 ⟨rfl,S⟩ d
  rw [List.getD_cons_zero]
  refine gg_ ?_
  exact hK60 (i+1) _ ⟨hlt,S⟩ (by omega)
 have hie : i=(yq g q).length:=by omega
 clear hK60 K60 hge hi d
 subst hie
 rw [List.take_length]
 refine gg_ ?_
 refine c_f (by simp [yr]) ?_
 refine zk (ι:=Nat) (fun i=>[.int .i64 (i : Nat)]) (fun i w'=>i≤(yr g q).length∧StX noX w ρ w' [.cell b115 (ints W) 3,.cell b3 [.slice p0 u.ss.length cap0,.slice (some ⟨bf,of,none⟩) u.fs.length capf,.int .i64 u.mn] 25]) (fun i=>(yr g q).length - i) 0 rfl ⟨Nat.zero_le _,S⟩ ?_
 repeat clear S
 rintro i d w71 ⟨hi,S⟩ K68 hK68
 rw [List.getD_cons_zero]
 refine gp_ ?_
 refine gp_ ?_
 refine zm (fun hlt=>?_) (fun hge=>?_)
 ·have hlt : i<(yr g q).length:=by omega
  obtain ⟨bl,ol,hpl,_,gl⟩:=zI h42 hlt
  obtain ⟨hxl,hxv⟩:=(vL hqN).1 (List.getElem_mem hlt)
  generalize (yr g q)[i]=x at gl hxl hxv
  subst hpl
  have x0:=hxl.1;have x1':=hxl.2
  obtain ⟨hw1,hw2⟩:=hWp x hxl
  have hw3:=hw2.2 hxv
  have S:=S.go (Ext.drew _)
  refine S.ldB (b:=b3) ?_ rfl
  refine gg_ ?_
  refine zf (by rw [Int.toNat_natCast];exact S.at gl) ?_
  refine Jt S.holds hu1 fun v72 s72 w72 e72 n72 h72=>?_
  obtain ⟨S,_,_⟩:=S.tell e72 n72
  have hY : okY u n x q=true:=by rw [okY,hok,hgi];simp [x0,x1']
  have hWu : QO u n x q=QH g x q:=by rw [QO,hgi]
  obtain ⟨wy,hwy⟩:=Option.isSome_iff_exists.1 (ae8 hokN V9 hxv)
  rw [hY,if_pos rfl,hWu,hwy] at h72
  rw [hY,if_pos rfl,hWu,hwy]
  have h72 : SlG 1 s72 zO v72 wy:=h72
  obtain ⟨p,hpm,hway⟩:=(aa0 hwy).resolve_left (fun h=>by cases h)
  obtain ⟨hpN,hpU⟩:=qZ.1 hpm
  obtain ⟨hwl,hwz,hwe,hwI⟩:=ac7 hokN hqN hway
  have hwf : wy.length≤(ze g).length:=by
   have:=ab7 hokN V9 (W:=ptsW g (zz g x)) (t:=p) hqN
   rw [hway] at this;exact this
  clear hway hwy
  obtain ⟨p72,c72,rfl,_,_⟩:=h72.shape
  obtain ⟨by0,oy0,hpy,_,gy0⟩:=zI h72 hwl
  obtain ⟨byl,oyl,hpy2,_,gyl⟩:=zI h72 (i:=wy.length - 1) (by omega)
  rw [hwz] at gy0
  rw [hwe] at gyl
  subst hpy
  cases hpy2
  refine gS_ ?_
  refine gg_ ?_
  refine zf (by rw [Int.toNat_natCast];exact S.at gl) ?_
  refine gp_ ?_
  refine S.ld (b:=b115) ?_ (Zy (by omega))
  refine gp_ ?_
  refine zi (c:=false) (fun _ K2 hK2=>by refine gg_ ?_;exact hK2) ?_
  refine zi (c:=false) (fun _ K2 hK2=>by refine gg_ ?_;exact hK2) ?_
  refine zi (c:=decide ((wy.length : Int)=0)) (fun _ K2 hK2=>by refine gg_ ?_;exact hK2) ?_
  refine zi (c:=false) (fun _ K2 hK2=>?_) ?_
  ·refine gg_ ?_
   refine zf (S.at gy0) ?_
   refine gg_ ?_
   simpa using hK2
  refine c_f (by rw [decide_eq_false (show ¬ W.getD x.toNat 0=0 by omega),decide_eq_false (show ¬ (wy.length : Int)=0 by omega)];rfl) ?_
  refine S.ldB (b:=b3) ?_ rfl
  refine aec S.holds hu1.up h72.cells (by omega) fun w89 e89=>?_
  rw [if_pos hE0,hnu,hwI]
  have S:=S.go e89
  refine gS_ ?_
  have S:=S.go (Ext.drew _)
  refine S.ldB (b:=b3) ?_ rfl
  refine gg_ ?_
  refine zf (by rw [show ((wy.length : Int) - 1).toNat=wy.length - 1 by omega];exact S.at gyl) ?_
  refine ZJ S.holds hu1.up fun v90 s90 w90 e90 n90 h90=>?_
  obtain ⟨S,_,_⟩:=S.tell e90 n90
  have hokp : okQ u n p=true:=by rw [Yu hE0 hnu,decide_eq_true hpN]
  rw [hokp,if_pos rfl] at h90
  rw [hokp,if_pos rfl]
  simp only [hgi] at h90
  have hxu : x ∈ usL g p:=vd.2 hpU
  have hpl : (usL g p).length≤g.tys.length:=by
   have hs:=Yt (g:=g) (q:=p)
   have hn : (usL g p).Nodup:=hs.imp fun h=>Int.ne_of_lt h
   have:=abe (n:=List.replicate g.tys.length []) hn fun x hx=>⟨(QG hF.loc (vd.1 hx)).1,by rw [List.length_replicate];exact (QG hF.loc (vd.1 hx)).2⟩
   rwa [List.length_replicate] at this
  generalize usL g p=U at h90 hxu hpl
  obtain ⟨p90,c90,rfl,_,_⟩:=h90.shape
  refine gS_ ?_
  refine zi (c:=false) (fun _ K2 hK2=>by refine gg_ ?_;exact hK2) ?_
  refine zi (c:=false) (fun _ K2 hK2=>by refine gg_ ?_;exact hK2) ?_
  refine zi (c:=false) (fun _ K2 hK2=>by refine gg_ ?_;exact hK2) ?_
  refine c_f (by simp) ?_
  refine zk (ι:=Nat) (fun j=>[.bool ((U.take j).any fun y=>decide (y=x)),.int .i64 (j : Nat)]) (fun j w'=>j≤U.length∧StX noX w ((ρ.or s72).or s90) w' [.cell b115 (ints W) 3,.cell b3 [.slice p0 u.ss.length cap0,.slice (some ⟨bf,of,none⟩) u.fs.length capf,.int .i64 u.mn] 25]) (fun j=>U.length - j) 0 rfl ⟨Nat.zero_le _,S⟩ ?_
  repeat clear S
  rintro j d w106 ⟨hj,S⟩ K103 hK103
  simp only [List.getD_cons_zero,List.getD_cons_succ]
  refine gp_ ?_
  refine gp_ ?_
  refine zm (fun hltj=>?_) (fun hgej=>?_)
  ·have hltj : j<U.length:=by omega
   obtain ⟨bu,ou,hpu,_,gu⟩:=zI h90 hltj
   have htj : (U.take (j+1)).any (fun y=>decide (y=x))=((U.take j).any (fun y=>decide (y=x))||decide (U[j]=x)):=by
    rw [List.take_succ_eq_append_getElem hltj,List.any_append];simp only [List.any_cons,List.any_nil,Bool.or_false]
   subst hpu
   have S:=S.go (Ext.drew _)
   refine zi (c:=decide (U[j]=x)) (fun _ K2 hK2=>?_) ?_
   ·refine gg_ ?_
    refine zf (by rw [Int.toNat_natCast];exact S.at gu) ?_
    refine gg_ ?_
    refine zf (by rw [Int.toNat_natCast];exact S.at gl) ?_
    refine gg_ ?_
    exact hK2
   refine gp_ ?_
   rw [← htj]
   exact hK103 (j+1) _ ⟨hltj,S⟩ (by omega)
  ·have hje : j=U.length:=by omega
   subst hje
   rw [List.take_length]
   refine gp_ ?_
   refine c_f (by simpa using hxu) ?_
   refine gp_ ?_
   exact hK68 (i+1) _ ⟨hlt,S.less (fun b o h=>.inl (.inl h)) (List.Sublist.refl _)⟩ (by omega)
 ·exact jO fun w8 e8=>h _ (S.go e8).ext
end Go.Proofs
end
