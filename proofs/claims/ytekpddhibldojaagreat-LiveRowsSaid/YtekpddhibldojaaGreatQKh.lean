/-
  Contracts of loanwordlaw14: fits, same, inside; live.Of once more, of what stays.
  Plain: rows of one's own are closed; what is told of the example of law 14.
  Contract of loanwordlaw14: awake.
  loanwordlaw14.LiveRows: whatever the program, the function, the point: the law returns true.
-/
import Derived.Test.YtekpddhibldojaaGreatQKg
import Derived.Test.YtekpddhibldojaaGreatQKd
import Derived.Test.YtekpddhibldojaaGreatQKf
import Derived.Test.YtekpddhibldojaaGreatQKe
section
namespace Go.Proofs
open Go.Sh Go.RowKit Go.BM
set_option maxRecDepth 100000
set_option linter.unusedSimpArgs false
set_option linter.unusedVariables false
theorem afI {u : UnD} {v : Value} {w : World} {r : Gh} {K : Value→World→Prop} (hr : Holds r w) (hu : UnG r v u) (h : ∀ (b : Bool) w',Ext w w'→K (.bool b) w') : zd Tryz.prog Tryz.YM #[v] w K:=by
 refine Tryz.ad0 ?_
 unfold Tryz.J8
 obtain ⟨p0,cap0,vf,rfl,_,_,hst,hsl,hfn⟩:=hu
 obtain ⟨qf,capf,rfl,_,_⟩:=hfn.sl.shape
 have hfl : u.fs.length≤9223372036854775807:=hfn.few
 have hsl' : u.ss.length≤9223372036854775807:=hsl
 have S:=St.start hr
 refine S.box fun b1 w1 S=>?_
 have S : StX noX w r w1 [.cell b1 [.slice p0 u.ss.length cap0,.slice qf u.fs.length capf,.int .i64 u.mn] 25]:=S
 refine gg_ ?_
 refine zj (c:=decide (40<(u.fs.length : Int))) (fun _ K2 hK2=>by refine gg_ ?_;exact hK2) ?_
 refine c_b (fun _=>h _ _ S.ext) (fun _=>?_)
 refine zi (ι:=Nat) (fun i=>[.int .i64 (i : Nat)]) (fun i w'=>i≤u.ss.length∧StX noX w r w' _) (fun i=>u.ss.length - i) 0 rfl ⟨Nat.zero_le _,S⟩ ?_
 clear S
 rintro i d w2 ⟨hi,S⟩ K6 hK6
 rw [List.getD_cons_zero]
 refine gg_ ?_
 refine zk (fun hlt=>?_) (fun hge=>?_)
 ·have hlt : i<u.ss.length:=by omega
  obtain ⟨b,off,q,capq,rfl,hcell,_,_,_⟩:=xE hst hlt
  refine gg_ ?_
  refine zg (by rw [Int.toNat_natCast];exact S.at hcell) ?_
  refine gg_ ?_
  refine c_b (fun _=>h _ _ S.ext) (fun _=>?_)
  refine gg_ ?_
  rw [show ((i : Int)+1)=((i+1 : Nat) : Int) by omega]
  exact hK6 (i+1) _ ⟨hlt,S⟩ (by omega)
 refine zi (ι:=Nat × Int) (fun i=>[.int .i64 i.2,.int .i64 (i.1 : Nat)]) (fun i w'=>i.1≤u.fs.length∧StX noX w r w' _) (fun i=>u.fs.length - i.1) (0,0) rfl ⟨Nat.zero_le _,S⟩ ?_
 clear S hK6 K6 hge hi
 rintro ⟨i,n⟩ d w3 ⟨hi,S⟩ K7 hK7
 simp only at hi S ⊢
 simp only [List.getD_cons_zero,List.getD_cons_succ]
 refine gg_ ?_
 refine zk (fun hlt=>?_) (fun hge=>h _ _ S.ext)
 have hlt : i<u.fs.length:=by omega
 obtain ⟨bf,of,cf,rfl,hcf,hgc,hfo⟩:=hfn.sl.get (by decide) hlt
 generalize u.fs[i]=g at hgc
 obtain ⟨vo,vt,vn,vp,rfl,h1,h2,h3,h4⟩:=id hgc
 obtain ⟨qt,capt,rfl,_,hct⟩:=h2.sl.shape
 obtain ⟨qp,capp,rfl,_,_⟩:=h4.sl.shape
 have S:=S.go (Ext.drew _)
 have l4 : Ob r fun w=>w.cell? ⟨bf,of+i*7+4,none⟩=some (.slice qt g.tys.length capt):=hfo 4 _ rfl
 have l6 : Ob r fun w=>w.cell? ⟨bf,of+i*7+6,none⟩=some (.slice qp g.pts.length capp):=hfo 6 _ rfl
 refine gg_ ?_
 refine zg (by rw [Int.toNat_natCast];exact S.at l6) ?_
 refine gg_ ?_
 refine zg (by rw [Int.toNat_natCast];exact S.at l4) ?_
 refine gp_ ?_
 refine ah5 fun x=>?_
 refine ah5 fun y=>?_
 refine gg_ ?_
 refine zg (by rw [Int.toNat_natCast];exact S.at l6) ?_
 refine gg_ ?_
 refine zj (c:=decide (150<(g.tys.length : Int))) (fun _ K2 hK2=>?_) ?_
 ·refine gg_ ?_
  refine zg (by rw [Int.toNat_natCast];exact S.at l4) ?_
  refine gg_ ?_
  exact hK2
 refine zj (c:=decide (600<y)) (fun _ K2 hK2=>by refine gg_ ?_;exact hK2) ?_
 refine c_b (fun _=>h _ _ S.ext) (fun _=>?_)
 refine gg_ ?_
 rw [show ((i : Int)+1)=((i+1 : Nat) : Int) by omega]
 exact hK7 (i+1,y) _ ⟨hlt,S⟩ (by show u.fs.length - (i+1)<u.fs.length - i;omega)
theorem agG {m : List Bool} : ∀ {k i : Nat},i+k=m.length→∃ t,mkd m=mkd (m.take i)++t
 |0,i,h=>⟨[],by rw [show i=m.length by omega,List.take_length,List.append_nil]⟩
 |k+1,i,h=>by
  obtain ⟨t,ht⟩:=agG (m:=m) (k:=k) (i:=i+1) (by omega)
  rw [vV (by omega),List.append_assoc] at ht
  exact ⟨_,ht⟩
theorem vz {l : List Int} {m : List Bool} {v vm : Value} {w : World} {r : Gh} {K : Value→World→Prop} (hr : Holds r w) (hl : SlG 1 r zU v l) (hm : SlG 1 r JP vm m) (hmf : m.length≤1000000) (hlf : l.length≤1000000)
  (h : K (.bool (decide (l=mkd m))) w) : zd Tryz.prog Tryz.kp #[v,vm] w K:=by
 refine Tryz.ad1 ?_
 unfold Tryz.J9
 obtain ⟨p,cap,rfl,_,_⟩:=hl.shape
 obtain ⟨pm,cm,rfl,_,_⟩:=hm.shape
 refine zi (ι:=Nat) (fun i=>[.int .i64 ((mkd (m.take i)).length : Nat),.int .i64 (i : Nat)]) (fun i w'=>w'=w∧i≤m.length∧(mkd (m.take i)).length≤l.length∧l.take (mkd (m.take i)).length=mkd (m.take i)) (fun i=>m.length - i) 0 rfl ⟨rfl,Nat.zero_le _,Nat.zero_le _,rfl⟩ ?_
 rintro i d w' ⟨rfl,hi,hn,he⟩ K1 hK1
 simp only [List.getD_cons_zero,List.getD_cons_succ]
 refine gp_ ?_
 refine gp_ ?_
 refine zk (fun hlt=>?_) (fun hge=>?_)
 ·have hlt : i<m.length:=by omega
  obtain ⟨bm,om,rfl,_,gm⟩:=Vn hm hlt
  have hsn:=vV hlt
  obtain ⟨t,ht⟩:=agG (m:=m) (k:=m.length - (i+1)) (i:=i+1) (by omega)
  refine zp (fun y w''=>y = [.int .i64 ((mkd (m.take (i+1))).length : Nat)]∧w''=w'∧(mkd (m.take (i+1))).length≤l.length∧l.take (mkd (m.take (i+1))).length=mkd (m.take (i+1))) (fun K5 hK5=>?_) ?_
  ·refine gg_ ?_
   refine zg (by rw [Int.toNat_natCast];exact gm _ hr) ?_
   refine c_b (fun hb=>?_) (fun hb=>?_)
   ·rw [if_pos hb] at hsn
    generalize mkd (m.take i)=A at hsn hn he
    rw [hsn,List.append_assoc] at ht
    refine gg_ ?_
    by_cases hlA : A.length<l.length
    ·obtain ⟨bl,ol,rfl,_,gl⟩:=yr hl hlA
     refine zj (c:=decide (l[A.length]≠(i : Int))) (fun _ K2 hK2=>?_) ?_
     ·refine gg_ ?_
      refine zg (by rw [Int.toNat_natCast];exact gl _ hr) ?_
      refine gg_ ?_
      exact hK2
     refine c_b (fun hc=>?_) (fun hc=>?_)
     ·rw [Bool.or_eq_true,decide_eq_true_eq,decide_eq_true_eq] at hc
      have hc:=hc.resolve_left (by omega)
      have hne : ¬ l=mkd m:=fun hh=>hc (by
       have h1 : l[A.length]? = some l[A.length]:=List.getElem?_eq_getElem hlA
       have h2 : (mkd m)[A.length]? = some (i : Int):=by rw [ht,List.getElem?_append_right (Nat.le_refl _),Nat.sub_self];rfl
       rw [← hh,h1] at h2
       exact Option.some.inj h2)
      rw [decide_eq_false hne] at h
      exact h
     ·rw [Bool.or_eq_false_iff,decide_eq_false_iff_not,decide_eq_false_iff_not,Decidable.not_not] at hc
      refine gg_ ?_
      refine hK5 _ _ ⟨by rw [hsn,List.length_append,List.length_singleton];rfl,rfl,by rw [hsn,List.length_append,List.length_singleton];omega,?_⟩
      rw [hsn,List.length_append,List.length_singleton,List.take_succ_eq_append_getElem hlA,he,hc.2]
    ·refine zj (c:=false) (fun hc=>by exfalso;simp only [decide_eq_false_iff_not] at hc;omega) ?_
     refine c_t (by simp;omega) ?_
     rw [decide_eq_false (fun hh=>by
      have:=congrArg List.length hh
      rw [ht] at this
      simp only [List.length_append,List.length_singleton] at this
      omega)] at h
     exact h
   ·rw [if_neg (by rw [hb];decide),List.append_nil] at hsn
    refine hK5 _ _ ⟨by rw [hsn],rfl,by rw [hsn];exact hn,by rw [hsn];exact he⟩
  rintro _ _ ⟨rfl,rfl,h1,h2⟩ d
  rw [List.getD_cons_zero]
  refine gp_ ?_
  exact hK1 (i+1) _ ⟨rfl,hlt,h1,h2⟩ (by omega)
 ·have hie : i=m.length:=by omega
  subst hie
  rw [List.take_length] at hn he ⊢
  refine gg_ ?_
  have e : decide (((mkd m).length : Int)=(l.length : Nat))=decide (l=mkd m):=by
   rw [decide_eq_decide]
   constructor
   ·intro hh
    rw [← he,List.take_of_length_le (by omega)]
   ·intro hh;rw [← hh]
  rw [e];exact h
noncomputable def kq (g : GrD) : List jC:=(lvR g).map fun m=>((m.length : Nat),yj m)
theorem vX {g : GrD} : (kq g).length=g.tys.length:=by rw [kq,List.length_map,qS]
theorem agH {b : Nat} {s : Gh} {m : List Bool} (h : Ob s fun w=>Blk w b (wcs (yj m)) 53) (hm : m.length≤1032) : SlB 1 s WdC (.slice (some ⟨b,0,none⟩) (yj m).length (yj m).length) (yj m):=by
 refine ⟨⟨_,_,rfl,(fun h=>by cases h),Nat.le_refl _,fun i hi=>⟨[u64 (yj m)[i]],rfl,fun j v hj=>?_,rfl⟩⟩,by rw [qw,maxLen];omega⟩
 obtain rfl : j=0:=by
  have:=(List.getElem?_eq_some_iff.1 hj).1
  simp at this;omega
 refine ⟨b,0,rfl,fun w hw=>?_⟩
 have B:=h w hw
 show w.cell? ⟨b,0+i*1+0,none⟩=some v
 rw [show 0+i*1+0=i by omega,B.cell,wcs,List.getElem?_map,List.getElem?_eq_getElem hi]
 cases hj;rfl
theorem ajw {g : GrD} {bs : List Nat} {v : Value} {s s2 : Gh} (hbl : bs.length=g.tys.length) (hn : (zh g).length≤1032) (hv : SlG 2 s (ahp (zh g).length) v bs)
  (hs2 : ∀ i (h1 : i<bs.length) (h2 : i<(lvR g).length),Ob s2 fun w=>Blk w bs[i] (wcs (yj (lvR g)[i])) 53) : SlG 2 (s.or s2) (RwbC (s.or s2)) v (kq g):=by
 obtain ⟨p,cap,rfl,h2,h3,h4⟩:=hv
 have hol:=vX (g:=g)
 have hrl:=qS (g:=g)
 refine ⟨p,cap,by rw [hbl,hol],h2,by omega,fun i hi=>?_⟩
 have hib : i<bs.length:=by omega
 have hir : i<(lvR g).length:=by omega
 obtain ⟨c,h5,h6,h7⟩:=h4 i hib
 refine ⟨c,h5,h6.up inferInstance,?_⟩
 have hml : (lvR g)[i].length=(zh g).length:=by rw [qC,xM]
 have ho : (kq g)[i]=((((lvR g)[i].length : Nat) : Int),yj (lvR g)[i]):=by simp [kq]
 have hB:=hs2 i hib hir
 rw [ho]
 generalize (lvR g)[i]=m at hB hml
 have hw : (yj m).length=((zh g).length+63) / 64:=by rw [qw,hml]
 refine ⟨some ⟨bs[i],0,none⟩,(yj m).length,?_,(agH hB (by omega)).cells⟩
 show c = [.int .i64 ((m.length : Nat) : Int),.slice (some ⟨bs[i],0,none⟩) (yj m).length (yj m).length]
 rw [show c=rwL (zh g).length bs[i] from h7,hw,hml]
theorem QB {u : UnD} {n : Int} {v : Value} {w : World} {r : Gh} {K : Value→World→Prop} (hr : Holds r w) (hu : UnG r v u)
  (h : ∀ v' s w',Ext w w'→New w s w'→(fnE u n=0→∃ g,u.fs[n.toNat]? = some g∧netU u n=zh g∧SlG 2 s (RwbC s) v' (kq g))→(fnE u n≠0→v' = .slice none 0 0)→K (.tuple #[v',.int .i64 (fnE u n)]) w') : zd Tryz.prog Tryz.jQ #[v,.int .i64 n] w K:=by
 refine adj hr hu fun v' bs s w' e hE hN=>?_
 by_cases h0 : fnE u n=0
 ·obtain ⟨g,h1,h2,h3,ha,T,hv⟩:=hE h0
  have hF:=kH h0 h1
  have hnf:=hF.net.few
  obtain ⟨s2,T2,ha2,hs2⟩:=StX.frzCells (e:=53) (C:=fun m=>wcs (yj m)) (bs:=bs) (R:=lvR g) (L:=[]) (by rw [h3,qS]) (by rw [List.append_nil];exact T)
  have ha2 : Above w s2:=fun b o ho=>(ha2 b o ho).resolve_right id
  exact h v' (s.or s2) w' e (StX.newOf (q:=s.or s2) T2.reGh (ha.or' ha2)) (fun _=>⟨g,h1,h2,ajw h3 (by omega) hv hs2⟩) fun hh=>absurd h0 hh
 ·exact h v' nothing w' e New.nothing (fun hh=>absurd hh h0) hN
end Go.Proofs
end
section
namespace Go.Proofs
open Go.Sh Go.RowKit Go.BM
set_option maxRecDepth 100000
set_option linter.unusedSimpArgs false
set_option linter.unusedVariables false
theorem aku {g : GrD} {i : Nat} (h : i<g.tys.length) : (kq g).getD i (0,[])=((((lvM g i).length : Nat) : Int),yj (lvM g i)):=by
 have h2 : i<(lvR g).length:=by rw [qS];exact h
 rw [kq,List.getD_eq_getElem?_getD,List.getElem?_map,List.getElem?_eq_getElem h2,qC];rfl
theorem alb {g : GrD} (hF : LkF g) : ahs g (kq g)=true:=by
 have hnf:=hF.net.few
 have hgl:=z6 (g:=g)
 rw [ahs,decide_eq_true vX,Bool.true_and,Bool.not_eq_true',Bool.eq_false_iff]
 intro hc
 obtain ⟨x,hx,hb⟩:=List.any_eq_true.1 hc
 rw [kq,List.mem_map] at hx
 obtain ⟨m,hm,rfl⟩:=hx
 rw [lvR,List.mem_map] at hm
 obtain ⟨i,_,rfl⟩:=hm
 have hl:=xM (g:=g) (x:=(i : Nat))
 rw [J3,BM.mayB_true (afj (by omega))] at hb
 simp only [Bool.not_true,Bool.false_or,decide_eq_true_eq] at hb
 exact hb (by show (((lvM g (i : Nat)).length : Nat) : Int)=_;omega)
theorem akv {g : GrD} (hF : LkF g) {y p : Nat} (hy : y<g.tys.length) (hp : p<g.pts.length) : Qz g (kq g) y p=false:=by
 have hnf:=hF.net.few
 have hgl:=z6 (g:=g)
 have hl:=xM (g:=g) (x:=(y : Nat))
 have hM : Qy g ((kq g).getD y (0,[]))=lvM g y:=by
  rw [aku hy]
  show xZ g.pts.length (yj (lvM g y))=_
  rw [← hgl,← hl]
  exact aaJ (by omega)
 rw [Qz,hM,ahr]
 cases hm : xd g y (lvM g y) p with
 |false=>rfl
 |true=>
  rw [afZ hF.net.ok ⟨by omega,by omega⟩ hm];rfl
theorem akw {g : GrD} (hF : LkF g) : afA g (kq g)=none:=by
 rw [afA,vX]
 exact agF fun y hy p hp=>akv hF hy hp
theorem ajx {u : UnD} {n : Int} {g : GrD} (h : fnE u n=0) (hg : u.fs[n.toNat]? = some g) : afB u n (kq g) = .tuple #[.int .i64 0,.int .i64 0,.bool true,.int .i64 0]:=by
 have hF:=kH h hg
 have hok : okC u n (kq g)=true:=by
  rw [okC,h,decide_eq_true rfl,Bool.true_and]
  simp only [hg]
  exact alb hF
 have hcl : acE u n (kq g)=none:=by
  rw [acE]
  simp only [hg]
  exact akw hF
 rw [afB,if_pos hok,hcl];rfl
def n4 : zK:=[[1],[2],[3],[]]
theorem YT : zh zA=n4:=by kernel_rfl
theorem Vs : fnE xF 0=0:=by rw [fnE,aaC.2 ai1];rfl
theorem ain : netU xF 0=n4:=YT
theorem alG : qP n4:=fun l hl x hx=>by
 have hl : l ∈ [[(1 : Int)],[2],[3],[]]:=hl
 simp only [List.mem_cons,List.not_mem_nil,or_false] at hl
 rcases hl with rfl|rfl|rfl|rfl<;>simp only [List.mem_cons,List.not_mem_nil,or_false] at hx
 all_goals subst hx;exact ⟨by decide,by decide⟩
theorem alH {x : Int} (hx : isN n4 x) : x=0∨x=1∨x=2∨x=3:=by
 have:=hx.1;have h2 : x<4:=hx.2
 omega
theorem YU {x : Int} (h0 : 0≤x) (h1 : x<4) : isN (zh zA) x:=by rw [YT];exact ⟨h0,h1⟩
theorem vY {q : Int} (h0 : 0≤q) (h1 : q<4) : okQ xF 0 q=true:=by
 rw [okQ,Vs,ain,decide_eq_true (show isN n4 q from ⟨h0,h1⟩)];rfl
theorem hand_ok : qP (zh zA):=by rw [YT];exact alG
theorem Vb {x : Int} {m : List Bool} (h : (xd zA x m 0=true→mk' m 0=true)∧(xd zA x m 1=true→mk' m 1=true)∧(xd zA x m 2=true→mk' m 2=true)∧(xd zA x m 3=true→mk' m 3=true)) :
  ∀ q,isN (zh zA) q→xd zA x m q=true→mk' m q=true:=fun q hq=>by
 rw [YT] at hq
 rcases alH hq with rfl|rfl|rfl|rfl
 ·exact h.1
 ·exact h.2.1
 ·exact h.2.2.1
 ·exact h.2.2.2
theorem ajy : lvM zA 0 = [true,true,true,true]:=by
 have h:=Rnd.start (g:=zA) (x:=0)
 have h:=h.set hand_ok (q:=3) (YU (by decide) (by decide)) (by kernel_rfl)
 have h:=h.set hand_ok (q:=2) (YU (by decide) (by decide)) (by kernel_rfl)
 have h:=h.set hand_ok (q:=1) (YU (by decide) (by decide)) (by kernel_rfl)
 have h:=h.set hand_ok (q:=0) (YU (by decide) (by decide)) (by kernel_rfl)
 exact (h.end (Vb ⟨fun _=>by kernel_rfl,fun _=>by kernel_rfl,fun _=>by kernel_rfl,fun _=>by kernel_rfl⟩)).symm
theorem ajz : lvM zA 1 = [true,false,false,false]:=by
 have h:=Rnd.start (g:=zA) (x:=1)
 have h:=h.set hand_ok (q:=0) (YU (by decide) (by decide)) (by kernel_rfl)
 have e1 : xd zA 1 (xH (List.replicate (zh zA).length false) 0) 1=false:=by kernel_rfl
 have e2 : xd zA 1 (xH (List.replicate (zh zA).length false) 0) 2=false:=by kernel_rfl
 have e3 : xd zA 1 (xH (List.replicate (zh zA).length false) 0) 3=false:=by kernel_rfl
 exact (h.end (Vb ⟨fun _=>by kernel_rfl,(fun hh=>by rw [e1] at hh;cases hh),(fun hh=>by rw [e2] at hh;cases hh),(fun hh=>by rw [e3] at hh;cases hh)⟩)).symm
theorem ajA : lvM zA 2 = [false,true,true,false]:=by
 have h:=Rnd.start (g:=zA) (x:=2)
 have h:=h.set hand_ok (q:=2) (YU (by decide) (by decide)) (by kernel_rfl)
 have h:=h.set hand_ok (q:=1) (YU (by decide) (by decide)) (by kernel_rfl)
 have e1 : xd zA 2 (xH (xH (List.replicate (zh zA).length false) 2) 1) 0=false:=by kernel_rfl
 have e2 : xd zA 2 (xH (xH (List.replicate (zh zA).length false) 2) 1) 3=false:=by kernel_rfl
 exact (h.end (Vb ⟨(fun hh=>by rw [e1] at hh;cases hh),fun _=>by kernel_rfl,fun _=>by kernel_rfl,(fun hh=>by rw [e2] at hh;cases hh)⟩)).symm
theorem aio : ahf zA 1 = [0,2]:=by
 have : xx zA 1 = [mk' (lvM zA 0) 1,mk' (lvM zA 1) 1,mk' (lvM zA 2) 1]:=rfl
 rw [ahf,this,ajy,ajz,ajA]
 decide
theorem ajB : wayE n4 1 2 [0]=some [1,2]:=by
 refine JO.2 ⟨⟨[2],rfl,⟨.inl rfl,by decide⟩,rfl⟩,?_⟩
 rintro _ ⟨r,rfl,hp⟩
 cases r with
 |nil=>exact absurd (show (1 : Int)=2 from hp) (by decide)
 |cons y r=>
  refine ⟨by simp,fun hl=>?_⟩
  have : r = []:=List.eq_nil_of_length_eq_zero (by simpa using hl)
  subst this
  obtain rfl : y=2:=hp.2
  exact .inl rfl
theorem ajC : afh zA 2 1=some [1,2]:=by
 have e1 : ptsW zA (Usd zA 2) = [2]:=by kernel_rfl
 have e2 : ptsW zA (z7 zA 2) = [0]:=by kernel_rfl
 have e3 : decide (z7 zA 2 1)=false:=by kernel_rfl
 rw [afh,e1,e2,e3,YT,List.foldl_cons,List.foldl_nil,agD (by decide),ajB]
 rfl
theorem adl : afz xF 0 2 1=some [1,2]:=ajC
theorem afJ : okY xF 0 2 1=true:=by
 rw [okY,vY (by decide) (by decide)]
 rfl
end Go.Proofs
end
section
namespace Go.Proofs
open Go.Sh Go.RowKit Go.BM
set_option maxRecDepth 100000
set_option linter.unusedSimpArgs false
set_option linter.unusedVariables false
theorem ajD : usL zA 2 = [2]:=by
 refine abH abT (by decide) fun x=>?_
 have e : YH zA 2 = [2]:=by kernel_rfl
 rw [agB,e]
theorem ajE : ((xF.fs[(0 : Int).toNat]?.bind fun g=>ZO g 0))=some 2:=by kernel_rfl
theorem aaP : xF.fs[(0 : Int).toNat]? = some zA:=rfl
set_option maxHeartbeats 4000000 in
theorem jt {w : World} {K : Value→World→Prop} (h : ∀ w',Ext w w'→K (.bool true) w') : zd Tryz.prog Tryz.xN #[] w K:=by
 refine Tryz.acG ?_
 unfold Tryz.QV
 have S : StX noX w nothing w []:=St.start (fun _ _ h=>h.elim)
 refine afH fun v2 s2 w2 e2 n2 hu=>?_
 obtain ⟨S,_,_⟩:=S.tell e2 n2
 refine S.al fun b0 w3 S=>?_
 obtain ⟨p0,cap0,vf,rfl,_,_,_,_,hfn⟩:=id hu
 obtain ⟨qf,capf,rfl,_,_⟩:=hfn.sl.shape
 refine S.stB (b:=b0) fun w4 S=>?_
 have S:=S.to s2
 have S : StX noX w s2 w4 [.cell b0 [.slice p0 0 cap0,.slice qf 1 capf,.int .i64 0] 25]:=S
 have hu : UnG s2 (.agg #[.slice p0 0 cap0,.slice qf 1 capf,.int .i64 0]) xF:=hu
 refine S.ldB (b:=b0) ?_ rfl
 refine QB S.holds hu fun v5 s5 w5 e5 n5 h5 _=>?_
 obtain ⟨g,hg,_,h5⟩:=h5 Vs
 obtain rfl : zA=g:=Option.some.inj hg
 rw [Vs]
 obtain ⟨S,_,_⟩:=S.tell e5 n5
 obtain ⟨p5,cp5,hv5,_,_⟩:=h5.shape
 subst hv5
 obtain ⟨b5,o5,c5,rfl,_,hc5,g5⟩:=h5.get (i:=2) (by decide) (by rw [vX];decide)
 obtain ⟨q5,k5,rfl,_⟩:=hc5
 have g5 : Ob s5 fun w=>w.cell? ⟨b5,o5+2*2+0,none⟩=some (.int .i64 4):=g5 0 _ rfl
 have hol : (kq zA).length=3:=vX
 rw [hol]
 rw [hol] at h5
 refine gS_ ?_
 refine S.ldB (b:=b0) ?_ rfl
 refine J1 S.holds hu.up fun v6 s6 w6 e6 n6 h6=>?_
 rw [vY (by decide) (by decide),if_pos rfl] at h6
 rw [vY (by decide) (by decide),if_pos rfl]
 simp only [aaP,aio] at h6
 obtain ⟨S,_,_⟩:=S.tell e6 n6
 obtain ⟨p6,cp6,rfl,_,_⟩:=h6.shape
 obtain ⟨b6,o6,rfl,_,g60⟩:=yr h6 (i:=0) (by decide)
 obtain ⟨b62,o62,hp6,_,g61⟩:=yr h6 (i:=1) (by decide)
 cases hp6
 refine gS_ ?_
 refine S.ldB (b:=b0) ?_ rfl
 refine XI S.holds hu.up fun v7 s7 w7 e7 n7 h7=>?_
 rw [vY (by decide) (by decide),if_pos rfl] at h7
 rw [vY (by decide) (by decide),if_pos rfl]
 simp only [aaP,ajD] at h7
 obtain ⟨S,_,_⟩:=S.tell e7 n7
 obtain ⟨p7,cp7,rfl,_,_⟩:=h7.shape
 obtain ⟨b7,o7,rfl,_,g7⟩:=yr h7 (i:=0) (by decide)
 refine gS_ ?_
 refine S.ldB (b:=b0) ?_ rfl
 refine XH S.holds hu.up fun w8 e8=>?_
 have S:=S.go e8
 rw [vY (by decide) (by decide),if_pos rfl,if_pos rfl,ajE]
 refine gS_ ?_
 refine S.ldB (b:=b0) ?_ rfl
 refine ahq S.holds hu.up fun v9 s9 w9 e9 n9 h9=>?_
 rw [afJ,if_pos rfl,adl] at h9
 rw [afJ,if_pos rfl,adl]
 have h9 : SlG 1 s9 zU v9 [1,2]:=h9
 obtain ⟨S,_,_⟩:=S.tell e9 n9
 obtain ⟨p9,cp9,rfl,_,_⟩:=h9.shape
 refine gS_ ?_
 refine S.ldB (b:=b0) ?_ rfl
 refine adW S.holds hu.up (h5.up' inferInstance fun _ _ h=>h.up) (by rw [hol];decide) fun w10 e10=>?_
 rw [ajx Vs aaP]
 have S:=S.go e10
 refine gS_ ?_
 refine zf (c:=true) (fun _ K2 hK2=>by refine gg_ ?_;exact hK2) ?_
 refine zf (c:=true) (fun _ K2 hK2=>?_) ?_
 ·refine gg_ ?_
  refine zg (v:=.int .i64 4) (by simpa using S.at g5) ?_
  refine gg_ ?_
  exact hK2
 refine zf (c:=true) (fun _ K2 hK2=>by refine gg_ ?_;exact hK2) ?_
 refine zf (c:=true) (fun _ K2 hK2=>by refine gg_ ?_;exact hK2) ?_
 refine zf (c:=true) (fun _ K2 hK2=>?_) ?_
 ·refine gg_ ?_
  refine s_c (by simp) ?_
  refine zg (v:=.int .i64 0) (by simpa using S.at g60) ?_
  refine gg_ ?_
  exact hK2
 refine zf (c:=true) (fun _ K2 hK2=>?_) ?_
 ·refine gg_ ?_
  refine s_c (by simp) ?_
  refine zg (v:=.int .i64 2) (by simpa using S.at g61) ?_
  refine gg_ ?_
  exact hK2
 refine zf (c:=true) (fun _ K2 hK2=>by refine gg_ ?_;exact hK2) ?_
 refine zf (c:=true) (fun _ K2 hK2=>by refine gg_ ?_;exact hK2) ?_
 refine zf (c:=true) (fun _ K2 hK2=>?_) ?_
 ·refine gg_ ?_
  refine s_c (by simp) ?_
  refine zg (v:=.int .i64 2) (by simpa using S.at g7) ?_
  refine gg_ ?_
  exact hK2
 refine zf (c:=true) (fun _ K2 hK2=>by refine gg_ ?_;exact hK2) ?_
 refine zf (c:=true) (fun _ K2 hK2=>hK2) ?_
 refine zf (c:=true) (fun _ K2 hK2=>by refine gg_ ?_;exact hK2) ?_
 refine zf (c:=true) (fun _ K2 hK2=>hK2) ?_
 refine zf (c:=true) (fun _ K2 hK2=>by refine gg_ ?_;exact hK2) ?_
 refine zf (c:=true) (fun _ K2 hK2=>by refine gg_ ?_;exact hK2) ?_
 refine zf (c:=true) (fun _ K2 hK2=>hK2) ?_
 refine zf (c:=true) (fun _ K2 hK2=>by refine gg_ ?_;exact hK2) ?_
 exact h _ S.ext
end Go.Proofs
end
section
namespace Go.Proofs
open Go.Sh Go.RowKit Go.BM
set_option maxRecDepth 100000
set_option linter.unusedSimpArgs false
set_option linter.unusedVariables false
def ZU (g : GrD) (p : PtD) : List Bool:=(List.range g.tys.length).map fun (x : Nat)=>Zh p x
theorem ajF {g : GrD} {p : PtD} : (ZU g p).length=g.tys.length:=by simp [ZU]
theorem agI {g : GrD} {p : PtD} {x : Int} (hx : 0≤x) : mk' (ZU g p) x=true↔x<g.tys.length∧Zh p x=true:=by
 rw [mk',ZU,List.getD_eq_getElem?_getD,List.getElem?_map]
 by_cases h : x.toNat<g.tys.length
 ·rw [List.getElem?_range h]
  simp only [Option.map_some,Option.getD_some,show ((x.toNat : Nat) : Int)=x by omega]
  exact ⟨fun k=>⟨by omega,k⟩,fun k=>k.2⟩
 ·rw [List.getElem?_eq_none (by rw [List.length_range];omega)]
  simp only [Option.map_none,Option.getD_none,Bool.false_eq_true,false_iff]
  rintro ⟨h1,_⟩;omega
def XJ (p : PtD) (i : Nat) : Int:=match yh p with|some x=>if 0≤x∧x<i then x else -1|none=>-1
theorem aip {p : PtD} : XJ p 0 = -1:=by
 rw [XJ];split
 ·rw [if_neg (by omega)]
 ·rfl
theorem aiq {p : PtD} {i : Nat} : XJ p (i+1)=if yh p=some (i : Int) then (i : Int) else XJ p i:=by
 rw [XJ,XJ]
 cases yh p with
 |none=>simp
 |some x=>
  simp only [Option.some.injEq]
  by_cases h : x=i
  ·rw [if_pos h,if_pos (by omega),h]
  ·rw [if_neg h]
   by_cases h2 : 0≤x∧x<i
   ·rw [if_pos h2,if_pos (by omega)]
   ·rw [if_neg h2,if_neg (by omega)]
theorem agJ {u : UnD} {g : GrD} {p : PtD} (h : zR u g p=true) {x : Int} (he : yh p=some x) : isL g x:=by
 have hL : ZN p=some x:=by
  rw [yh] at he
  split at he
  ·rename_i y hy
   split at he
   ·cases he
   ·rw [hy];exact he
  ·cases he
 rw [ZN] at hL
 split at hL
 ·rename_i h11
  cases hL
  exact YI (afc h (.inr (.inr h11)))
 ·split at hL
  ·rename_i hc
   cases hL
   have ha:=hc.1
   rw [xr,Bool.and_eq_true,decide_eq_true_eq,decide_eq_true_eq] at ha
   exact YI (aeT h ha)
  ·cases hL
abbrev afK (bs : List Nat) (WS : List (List (BitVec 64))) : List Asr:=List.zipWith (fun b ws=>Asr.cell b (wcs ws) 53) bs WS
theorem akx {bs : List Nat} {R : yX} : vv bs R=afK bs (R.map yj):=by rw [vv,afK,List.zipWith_map_right]
set_option maxHeartbeats 8000000 in
theorem aaQ {u : UnD} {n q : Int} {v : Value} {w : World} {r : Gh} {K : Value→World→Prop} (hr : Holds r w) (hu : UnG r v u)
  (h : ∀ w',Ext w w'→K (.bool true) w') : zd Tryz.prog Tryz.YL #[v,.int .i64 n,.int .i64 q] w K:=by
 refine Tryz.VH ?_
 unfold Tryz.YS
 have hu0:=hu
 obtain ⟨p0,cap0,vf,rfl,_,_,hst,hsl,hfn⟩:=hu
 obtain ⟨qf,capf,rfl,_,_⟩:=hfn.sl.shape
 have hfl : u.fs.length≤9223372036854775807:=hfn.few
 have S:=St.start hr
 refine S.box fun b3 w1 S=>?_
 have S : StX noX w r w1 [.cell b3 [.slice p0 u.ss.length cap0,.slice qf u.fs.length capf,.int .i64 u.mn] 25]:=S
 refine S.ldB (b:=b3) ?_ rfl
 refine afI S.holds hu0 fun y w2 e2=>?_
 have S:=S.go e2
 refine gp_ ?_
 refine c_b (fun _=>jt fun w3 e3=>h _ (S.go e3).ext) (fun _=>?_)
 refine S.ldB (b:=b3) ?_ rfl
 refine adj S.holds hu0 fun va bs s w4 e4 hT hz=>?_
 by_cases hE : fnE u n=0
 case neg=>
  obtain rfl:=hz hE
  have S:=S.go e4
  have hok : okQ u n q=false:=by rw [okQ,decide_eq_true hE];rfl
  have hE2 : fnE u n=2:=akj hE
  rw [hE2]
  refine gS_ ?_
  refine S.ldB (b:=b3) ?_ rfl
  refine QB S.holds hu0 fun vb sb w5 e5 n5 _ hzb=>?_
  obtain rfl:=hzb hE
  have S:=S.go e5
  rw [hE2]
  refine gS_ ?_
  refine S.ldB (b:=b3) ?_ rfl
  refine J1 S.holds hu0 fun v46 s46 w6 e6 n6 h46=>?_
  have S:=S.go e6
  rw [hok,if_neg (by decide)] at h46
  rw [hok,if_neg (by decide)]
  obtain ⟨p46,c46,rfl,_,_⟩:=h46.shape
  refine gS_ ?_
  refine S.ldB (b:=b3) ?_ rfl
  refine XI S.holds hu0 fun v53 s53 w7 e7 n7 h53=>?_
  have S:=S.go e7
  rw [hok,if_neg (by decide)] at h53
  rw [hok,if_neg (by decide)]
  obtain ⟨p53,c53,rfl,_,_⟩:=h53.shape
  refine gS_ ?_
  refine S.ldB (b:=b3) ?_ rfl
  refine XH S.holds hu0 fun w8 e8=>?_
  have S:=S.go e8
  rw [hok,if_neg (by decide),if_neg (by decide)]
  refine gS_ ?_
  refine S.ldB (b:=b3) ?_ rfl
  refine abE S.holds hu0 fun w9 e9=>?_
  have S:=S.go e9
  rw [agA,decide_eq_false hE]
  refine gp_ ?_
  refine c_t rfl ?_
  refine gg_ ?_
  refine zf (c:=true) (fun _ K2 hK2=>by refine gg_ ?_;exact hK2) ?_
  refine zf (c:=true) (fun _ K2 hK2=>by refine gg_ ?_;exact hK2) ?_
  refine zf (c:=true) (fun _ K2 hK2=>by refine gg_ ?_;exact hK2) ?_
  refine zf (c:=true) (fun _ K2 hK2=>by refine gg_ ?_;exact hK2) ?_
  refine zf (c:=true) (fun _ K2 hK2=>by refine gg_ ?_;exact hK2) ?_
  refine zf (c:=true) (fun _ K2 hK2=>by refine gg_ ?_;exact hK2) ?_
  refine zf (c:=true) (fun _ K2 hK2=>by refine gg_ ?_;exact hK2) ?_
  refine zf (c:=true) (fun _ K2 hK2=>by refine gg_ ?_;exact hK2) ?_
  refine zs (c:=true) (fun _ K2 hK2=>jt fun w8 e8=>hK2 _ e8) fun w8 e8=>?_
  have:=h _ (S.go e8).ext
  simpa using this
 case pos=>
 obtain ⟨g,hgi,hnu,hbl,ha,T,hva⟩:=hT hE
 clear hT hz
 have S:=StX.join S (T.to s) ha
 clear T
 have S : StX noX w (r.or s) w4 (.cell b3 [.slice p0 u.ss.length cap0,.slice qf u.fs.length capf,.int .i64 u.mn] 25::vv bs (lvR g)):=S.permO (List.perm_append_comm (l₁:=[_]))
 rw [hE]
 obtain ⟨pa,ca,rfl,_,_⟩:=hva.shape
 refine gS_ ?_
 refine S.ldB (b:=b3) ?_ rfl
 refine QB S.holds hu0.up fun vb sb w5 e5 n5 hvb _=>?_
 obtain ⟨S,_,_⟩:=S.tell e5 n5
 obtain ⟨g',hgi',_,hvb⟩:=hvb hE
 obtain rfl : g=g':=by rw [hgi] at hgi';exact Option.some.inj hgi'
 rw [hE]
 obtain ⟨pb,cb,rfl,_,_⟩:=hvb.shape
 refine gS_ ?_
 refine S.ldB (b:=b3) ?_ rfl
 refine J1 S.holds hu0.up fun v46 s46 w6 e6 n6 h46=>?_
 obtain ⟨S,_,_⟩:=S.tell e6 n6
 refine gS_ ?_
 refine S.ldB (b:=b3) ?_ rfl
 refine XI S.holds hu0.up fun v53 s53 w7 e7 n7 h53=>?_
 obtain ⟨S,_,_⟩:=S.tell e7 n7
 refine gS_ ?_
 refine S.ldB (b:=b3) ?_ rfl
 refine XH S.holds hu0.up fun w8 e8=>?_
 have S:=S.go e8
 refine gS_ ?_
 refine S.ldB (b:=b3) ?_ rfl
 refine abE S.holds hu0.up fun w9 e9=>?_
 have S:=S.go e9
 rw [agA,decide_eq_true hE]
 refine gp_ ?_
 refine c_f rfl ?_
 obtain ⟨bf,of,g',x1,x2,x3,x4,y1,y2,y3,y4,hqf,hgi2,_,hFn,hn0,hn1,hg,hfo⟩:=ajp hfn hE
 obtain rfl : g=g':=by rw [hgi] at hgi2;exact Option.some.inj hgi2
 cases hqf
 have hF:=kH hE hgi
 have hnf:=hF.net.few
 have hmf:=hF.loc.few
 have hokN:=hF.net.ok
 have hgl:=z6 (g:=g)
 have hRl:=qS (g:=g)
 obtain ⟨_,_,_,_,hEE,m1,m2,m3,m4⟩:=id hg
 cases hEE
 refine gg_ ?_
 refine zq (n:=7) rfl (fun j v hj=>S.at (hfo j v hj)) ?_
 refine S.al fun b18 w47 S=>?_
 refine S.stB (b:=b18) fun w48 S=>?_
 have S : StX noX w ((((r.or s).or sb).or s46).or s53) w48 (.cell b18 (grL g x1 x2 x3 x4 y1 y2 y3 y4) 43 :: .cell b3 [.slice p0 u.ss.length cap0,.slice (some ⟨bf,of,none⟩) u.fs.length capf,.int .i64 u.mn] 25::vv bs (lvR g)):=S
 refine S.ldB (b:=b18) ?_ rfl
 refine ahu S.holds hg.up hF fun vW sW w49 e49 n49 hW=>?_
 obtain ⟨S,_,_⟩:=S.tell e49 n49
 obtain ⟨pW,cW,rfl,_,_⟩:=hW.shape
 have hol:=vX (g:=g)
 refine gg_ ?_
 refine zj (c:=false) (fun _ K2 hK2=>by
  refine gg_ ?_
  rw [decide_eq_false (show ¬ ((bs.length : Int)≠((lvR g).length : Nat)) by omega)]
  exact hK2) ?_
 refine zj (c:=false) (fun _ K2 hK2=>by
  refine gg_ ?_
  rw [decide_eq_false (show ¬ (((kq g).length : Int)≠((lvR g).length : Nat)) by omega)]
  exact hK2) ?_
 refine c_f (by simp) ?_
 rw [akx] at S
 have hva:=hva.cells (s:=((((r.or s).or sb).or s46).or s53).or sW)
 have hvb:=hvb.up' (s:=((((r.or s).or sb).or s46).or s53).or sW) (Q:=RwbC (((((r.or s).or sb).or s46).or s53).or sW)) inferInstance fun _ _ h=>RwbC.up h
 have h46:=h46.cells (s:=((((r.or s).or sb).or s46).or s53).or sW)
 have h53:=h53.cells (s:=((((r.or s).or sb).or s46).or s53).or sW)
 have hW:=hW.up' (s:=((((r.or s).or sb).or s46).or s53).or sW) (Q:=RowBC (((((r.or s).or sb).or s46).or s53).or sW)) inferInstance fun _ _ h=>RowBC.up h
 have hg':=hg.up (s:=((((r.or s).or sb).or s46).or s53).or sW)
 generalize ((((r.or s).or sb).or s46).or s53).or sW=ρ at S hva hvb h46 h53 hW hg'
 refine zi (ι:=Nat × List (List (BitVec 64))) (fun i=>[.int .i64 (i.1 : Nat)]) (fun i w'=>i.1≤bs.length∧i.2.length=bs.length∧(∀ j (h1 : j<i.2.length) (h2 : j<(lvR g).length),i.1≤j→i.2[j]=yj (lvR g)[j])∧StX noX w ρ w' (.cell b18 (grL g x1 x2 x3 x4 y1 y2 y3 y4) 43 :: .cell b3 [.slice p0 u.ss.length cap0,.slice (some ⟨bf,of,none⟩) u.fs.length capf,.int .i64 u.mn] 25::afK bs i.2)) (fun i=>bs.length - i.1) (0,(lvR g).map yj) rfl ⟨Nat.zero_le _,by rw [List.length_map];omega,fun j h1 h2 _=>by simp,S⟩ ?_
 repeat clear S
 rintro ⟨i,WS⟩ d w61 ⟨hi,hWl,hWS,S⟩ K58 hK58
 simp only at hi hWl hWS S ⊢
 rw [List.getD_cons_zero]
 refine gp_ ?_
 refine gp_ ?_
 refine zk (fun hlt=>?_) (fun hge=>?_)
 ·have hlt : i<bs.length:=by omega
  have hiR : i<(lvR g).length:=by omega
  obtain ⟨P,Q,hsp,hset⟩:=adi (f:=fun b ws=>Asr.cell b (wcs ws) 53) (us:=bs) (bs:=WS) hlt (by omega)
  have hws:=hWS i (by omega) hiR (Nat.le_refl _)
  obtain ⟨bh,oh,ch,hpa,hcl,hch,hcell⟩:=hva.get (by decide) hlt
  rw [afK,hsp,hws] at S
  have S : StX noX w ρ w61 (.cell bs[i] (wcs (yj (lvR g)[i])) 53::([.cell b18 (grL g x1 x2 x3 x4 y1 y2 y3 y4) 43,.cell b3 [.slice p0 u.ss.length cap0,.slice (some ⟨bf,of,none⟩) u.fs.length capf,.int .i64 u.mn] 25]++P++Q)):=S.permO (by
   have:=(List.perm_middle (a:=Asr.cell bs[i] (wcs (yj (lvR g)[i])) 53) (l₁:=[.cell b18 (grL g x1 x2 x3 x4 y1 y2 y3 y4) 43,.cell b3 [.slice p0 u.ss.length cap0,.slice (some ⟨bf,of,none⟩) u.fs.length capf,.int .i64 u.mn] 25]++P) (l₂:=Q)).symm
   simpa using this)
  clear hsp hws
  have hml : (lvR g)[i].length=(zh g).length:=by rw [qC,xM]
  obtain ⟨bW,oW,vm,hpW,_,hcW,hvm⟩:=Vr hW hiR
  have hoi : (kq g)[i]'(by omega)=((((lvR g)[i].length : Nat) : Int),yj (lvR g)[i]):=by simp [kq]
  generalize (lvR g)[i]=m at S hml hvm hoi
  have S : StX noX w ρ w61 (.cell bs[i] (wcs (yj m)) 53 :: .cell b18 (grL g x1 x2 x3 x4 y1 y2 y3 y4) 43 :: .cell b3 [.slice p0 u.ss.length cap0,.slice (some ⟨bf,of,none⟩) u.fs.length capf,.int .i64 u.mn] 25::(P++Q)):=S
  generalize hM : P++Q=M at S
  have hbs : bs[i]=bs[i]:=rfl
  have hch : ch=rwL (zh g).length bs[i]:=hch
  subst hch
  generalize bs[i]=bi at S hcell hset
  subst hpa
  have S:=S.go (Ext.drew _)
  have hRw : RwbC (ρ.or (Go.Sh.one bi (wcs (yj m)) 53)) (rwL (zh g).length bi) (((zh g).length : Nat),yj m):=by
   have hw : (yj m).length=((zh g).length+63) / 64:=by rw [qw,hml]
   refine ⟨some ⟨bi,0,none⟩,(yj m).length,by rw [hw],?_⟩
   exact (agH zG (by omega)).cells
  refine gg_ ?_
  refine zq (n:=2) rfl (fun j v hj=>by rw [Int.toNat_natCast];exact S.at (hcell j v hj)) ?_
  refine aim (S.frzAt bi).holds hRw fun w62 e62=>?_
  have S:=S.go e62
  rw [BM.mayB_true (hml ▸ afj (by omega))]
  refine gp_ ?_
  refine zj (c:=false) (fun _ K2 hK2=>?_) ?_
  ·refine gg_ ?_
   refine zg (by rw [Int.toNat_natCast];exact S.at (hcell 0 _ rfl)) ?_
   refine gg_ ?_
   rw [decide_eq_false (show ¬ (((zh g).length : Int)≠(g.pts.length : Nat)) by omega)]
   exact hK2
  refine yP (c:=false) (fun _ K2 hK2=>?_) fun w70 e70=>?_
  ·refine gg_ ?_
   refine zq (n:=2) rfl (fun j v hj=>by rw [Int.toNat_natCast];exact S.at (hcell j v hj)) ?_
   subst hpW
   refine gg_ ?_
   refine zg (by rw [Int.toNat_natCast];exact S.at hcW) ?_
   refine abX (S.frzAt bi).holds hRw (by rw [qw];omega) (by rw [qw];omega) fun v159 s159 w71 e71 n71 h159=>⟨e71,?_⟩
   obtain ⟨S,_,_⟩:=S.tell e71 n71
   rw [← hml,aaJ (by omega)] at h159
   refine vz S.holds h159.cells hvm.sl.cells (by omega) (by have:=Yf (m:=m);omega) ?_
   rw [decide_eq_true rfl]
   refine gp_ ?_
   exact hK2 _ e71
  have S:=S.go e70
  refine c_f rfl ?_
  have hwl : (yj m).length=((zh g).length+63) / 64:=by rw [qw,hml]
  refine zi (ι:=Nat × List (BitVec 64)) (fun j=>[.int .i64 (j.1 : Nat)]) (fun j w'=>j.1≤((zh g).length+63) / 64∧j.2.length=((zh g).length+63) / 64∧StX noX w ρ w' (.cell bi (wcs j.2) 53 :: .cell b18 (grL g x1 x2 x3 x4 y1 y2 y3 y4) 43 :: .cell b3 [.slice p0 u.ss.length cap0,.slice (some ⟨bf,of,none⟩) u.fs.length capf,.int .i64 u.mn] 25::M)) (fun j=>((zh g).length+63) / 64 - j.1) (0,yj m) rfl ⟨Nat.zero_le _,hwl,S⟩ ?_
  repeat clear S
  rintro ⟨j,ws⟩ d w76 ⟨hj,hjl,S⟩ K73 hK73
  simp only at hj hjl S ⊢
  rw [List.getD_cons_zero]
  refine gg_ ?_
  refine zg (by rw [Int.toNat_natCast];exact S.at (hcell 1 _ rfl)) ?_
  refine gg_ ?_
  refine zk (fun hltj=>?_) (fun hgej=>?_)
  ·have hltj : j<ws.length:=by omega
   have S:=S.go (Ext.drew _)
   refine gg_ ?_
   refine zg (by rw [Int.toNat_natCast];exact S.at (hcell 1 _ rfl)) ?_
   refine gg_ ?_
   refine zg (by rw [Int.toNat_natCast];exact S.at (hcell 1 _ rfl)) ?_
   refine gg_ ?_
   refine S.ld (b:=bi) (v:=u64 ws[j]) ?_ (by rw [wcs,List.getElem?_map,Nat.zero_add,Int.toNat_natCast,List.getElem?_eq_getElem hltj];rfl)
   refine ajS ?_
   refine gg_ ?_
   refine S.st (b:=bi) (fun w77 S=>?_) (by simp;omega)
   refine gg_ ?_
   refine hK73 (j+1,ws.set j (~~~ ws[j])) _ ⟨by omega,by rw [List.length_set];exact hjl,?_⟩ (by show ((zh g).length+63) / 64 - (j+1)<((zh g).length+63) / 64 - j;omega)
   have e : (wcs ws).set (0+((j : Nat) : Int).toNat) (u64 (~~~ ws[j]))=wcs (ws.set j (~~~ ws[j])):=by rw [Nat.zero_add,Int.toNat_natCast,wcs,wcs,List.map_set]
   rw [← e];exact S
  ·clear hK73 K73
   obtain ⟨bB,oB,cB,hpB,hclB,hcB,hcellB⟩:=hvb.get (by decide) (i:=i) (by omega)
   rw [hoi] at hcB
   subst hpB
   have S:=S.go (Ext.drew _)
   have S : StX noX w ρ _ ([.cell b18 (grL g x1 x2 x3 x4 y1 y2 y3 y4) 43,.cell b3 [.slice p0 u.ss.length cap0,.slice (some ⟨bf,of,none⟩) u.fs.length capf,.int .i64 u.mn] 25]++(P++Asr.cell bi (wcs ws) 53::Q)):=S.permO (by
    subst hM
    have:=(List.perm_middle (a:=Asr.cell bi (wcs ws) 53) (l₁:=[.cell b18 (grL g x1 x2 x3 x4 y1 y2 y3 y4) 43,.cell b3 [.slice p0 u.ss.length cap0,.slice (some ⟨bf,of,none⟩) u.fs.length capf,.int .i64 u.mn] 25]++P) (l₂:=Q))
    simpa using this)
   rw [← hset ws] at S
   have S : StX noX w ρ _ (.cell b18 (grL g x1 x2 x3 x4 y1 y2 y3 y4) 43 :: .cell b3 [.slice p0 u.ss.length cap0,.slice (some ⟨bf,of,none⟩) u.fs.length capf,.int .i64 u.mn] 25::afK bs (WS.set i ws)):=S
   refine gg_ ?_
   refine zq (n:=2) hclB (fun j v hj=>by rw [Int.toNat_natCast];exact S.at (hcellB j v hj)) ?_
   subst hpW
   refine gg_ ?_
   refine zg (by rw [Int.toNat_natCast];exact S.at hcW) ?_
   refine abX S.holds hcB (by rw [qw];omega) (by rw [qw];omega) fun v197 s197 w78 e78 n78 h197=>⟨e78,?_⟩
   obtain ⟨S,_,_⟩:=S.tell e78 n78
   rw [aaJ (by omega)] at h197
   refine vz S.holds h197.cells hvm.sl.cells (by omega) (by have:=Yf (m:=m);omega) ?_
   rw [decide_eq_true rfl]
   refine gp_ ?_
   refine c_f rfl ?_
   refine gg_ ?_
   refine hK58 (i+1,WS.set i ws) _ ⟨hlt,by rw [List.length_set];exact hWl,fun j h1 h2 hj=>?_,S.less (fun b o h=>.inl h) (List.Sublist.refl _)⟩ (by show bs.length - (i+1)<bs.length - i;omega)
   simp only at hj ⊢
   rw [List.getElem_set_ne (by omega)]
   exact hWS j (by simpa using h1) h2 (by omega)
 ·have S : StX noX w ρ w61 [.cell b18 (grL g x1 x2 x3 x4 y1 y2 y3 y4) 43,.cell b3 [.slice p0 u.ss.length cap0,.slice (some ⟨bf,of,none⟩) u.fs.length capf,.int .i64 u.mn] 25]:=S.less (fun _ _ h=>h) (.cons_cons _ (.cons_cons _ (List.nil_sublist _)))
  clear hWS hWl hK58 K58
  refine gg_ ?_
  refine zj (c:=decide ((g.pts.length : Int)≤q)) (fun _ K2 hK2=>by refine gg_ ?_;exact hK2) ?_
  refine c_b (fun hb=>?_) (fun hb=>?_)
  ·have hok : okQ u n q=false:=by
    rw [Qx hE hnu,decide_eq_false]
    rintro ⟨q0,q1⟩
    simp only [Bool.or_eq_true,decide_eq_true_eq] at hb
    omega
   rw [hok,if_neg (by decide)] at h46 h53
   obtain ⟨p46,c46,rfl,_,_⟩:=h46.shape
   obtain ⟨p53,c53,rfl,_,_⟩:=h53.shape
   rw [hok,if_neg (by decide),if_neg (by decide)]
   refine gg_ ?_
   refine zf (c:=true) (fun _ K2 hK2=>by refine gg_ ?_;exact hK2) ?_
   refine zf (c:=true) (fun _ K2 hK2=>by refine gg_ ?_;exact hK2) ?_
   refine zf (c:=true) (fun _ K2 hK2=>by refine gg_ ?_;exact hK2) ?_
   refine zf (c:=true) (fun _ K2 hK2=>by refine gg_ ?_;exact hK2) ?_
   refine zf (c:=true) (fun _ K2 hK2=>by refine gg_ ?_;exact hK2) ?_
   refine zf (c:=true) (fun _ K2 hK2=>by refine gg_ ?_;exact hK2) ?_
   refine zs (c:=true) (fun _ K2 hK2=>jt fun w8 e8=>hK2 _ e8) fun w8 e8=>?_
   have:=h _ (S.go e8).ext
   simpa using this
  simp only [Bool.or_eq_false_iff,decide_eq_false_iff_not] at hb
  have hq : isN (zh g) q:=⟨by omega,by omega⟩
  have hok : okQ u n q=true:=by rw [Qx hE hnu,decide_eq_true hq]
  rw [hok,if_pos rfl] at h46 h53
  simp only [hgi] at h46 h53
  have hbind : (u.fs[n.toNat]?.bind fun g=>ZO g q)=ZO g q:=by rw [hgi];rfl
  rw [hok,if_pos rfl,if_pos rfl,hbind]
  have S:=S.go (Ext.drew _)
  refine zp (fun x w'=>∃ b1 b2,x = [.slice (some ⟨b1,0,none⟩) g.tys.length g.tys.length,.slice (some ⟨b2,0,none⟩) g.tys.length g.tys.length]∧StX noX w ρ w' [.cell b1 (bls (List.replicate g.tys.length false)) 4,.cell b2 (bls (List.replicate g.tys.length false)) 4,.cell b18 (grL g x1 x2 x3 x4 y1 y2 y3 y4) 43,.cell b3 [.slice p0 u.ss.length cap0,.slice (some ⟨bf,of,none⟩) u.fs.length capf,.int .i64 u.mn] 25]) (fun K113 hK113=>?_) ?_
  ·refine gg_ ?_
   refine ⟨?_,?_⟩
   ·refine S.mkSU (by omega) (by omega) fun ba w117 S=>?_
    refine S.mkSU (by omega) (by omega) fun bc w118 S=>?_
    rw [Int.toNat_natCast,Vp] at S
    rw [Int.toNat_natCast]
    exact hK113 _ _ ⟨ba,bc,rfl,S.swap⟩
   ·refine S.mkSU (by omega) (by omega) fun bc w117 S=>?_
    refine S.mkSU (by omega) (by omega) fun ba w118 S=>?_
    rw [Int.toNat_natCast,Vp] at S
    rw [Int.toNat_natCast]
    exact hK113 _ _ ⟨ba,bc,rfl,S⟩
  repeat clear S
  rintro _ w116 ⟨b1,b2,rfl,S⟩ d
  simp only [List.getD_cons_zero,List.getD_cons_succ]
  have hql : q.toNat<g.pts.length:=by have:=hq.1;have:=hq.2;omega
  obtain ⟨_,_,_,_,hEE,m1,m2,m3,m4⟩:=hg'
  cases hEE
  obtain ⟨bp,op,cp,hqp,hcp,hpc,hpo⟩:=m4.sl.get (by decide) hql
  subst hqp
  have hpi : g.pts[q.toNat]? = some g.pts[q.toNat]:=List.getElem?_eq_getElem hql
  have hba:=hF.args _ (List.getElem_mem hql)
  have heA : ZO g q=yh g.pts[q.toNat]:=by rw [ZO,hpi]
  have huA : YH g q=zF g.pts[q.toNat]:=by rw [YH,hpi]
  obtain ⟨u',hpt⟩:=hF.pt
  have hpt:=hpt _ (List.getElem_mem hql)
  rw [heA]
  generalize g.pts[q.toNat]=p at hpc hba heA huA hpt
  have hcl:=afi (g:=g) (q:=q)
  have hul:=ajF (g:=g) (p:=p)
  have hrl : (List.replicate g.tys.length false).length=g.tys.length:=List.length_replicate
  have hi0 : i=bs.length:=by omega
  clear hi0 hi hge
  have S : StX noX w ρ w116 [.cell b1 (bls ((xx g q).take 0++(List.replicate g.tys.length false).drop 0)) 4,.cell b2 (bls ((ZU g p).take 0++(List.replicate g.tys.length false).drop 0)) 4,.cell b18 (grL g x1 x2 x3 (some ⟨bp,op,none⟩) y1 y2 y3 y4) 43,.cell b3 [.slice p0 u.ss.length cap0,.slice (some ⟨bf,of,none⟩) u.fs.length capf,.int .i64 u.mn] 25]:=S
  refine zi (ι:=Nat) (fun i=>[.int .i64 (XJ p i),.int .i64 (i : Nat)]) (fun i w'=>i≤g.tys.length∧StX noX w ρ w' [.cell b1 (bls ((xx g q).take i++(List.replicate g.tys.length false).drop i)) 4,.cell b2 (bls ((ZU g p).take i++(List.replicate g.tys.length false).drop i)) 4,.cell b18 (grL g x1 x2 x3 (some ⟨bp,op,none⟩) y1 y2 y3 y4) 43,.cell b3 [.slice p0 u.ss.length cap0,.slice (some ⟨bf,of,none⟩) u.fs.length capf,.int .i64 u.mn] 25]) (fun i=>g.tys.length - i) 0 (by rw [aip];rfl) ⟨Nat.zero_le _,S⟩ ?_
  repeat clear S
  rintro i d w126 ⟨hi,S⟩ K123 hK123
  simp only [List.getD_cons_zero,List.getD_cons_succ]
  refine gg_ ?_
  refine zk (fun hlt=>?_) (fun hge=>?_)
  ·have hlt : i<g.tys.length:=by omega
   obtain ⟨bW,oW,vm,hpW,_,hcW,hvm⟩:=Vr hW (i:=i) (by omega)
   subst hpW
   have hcm : (xx g q)[i]'(by omega)=mk' ((lvR g)[i]'(by omega)) q:=by rw [qC];simp [xx]
   have hml : ((lvR g)[i]'(by omega)).length=(zh g).length:=by rw [qC,xM]
   generalize (lvR g)[i]'(by omega)=m at hvm hcm hml
   obtain ⟨pm,cm,rfl,_,_⟩:=hvm.sl.shape
   have q0:=hq.1
   have q1:=hq.2
   obtain ⟨bm,om,hpm,_,gm⟩:=Vn hvm.sl (i:=q.toNat) (by omega)
   have hmq : m[q.toNat]'(by omega)=mk' m q:=by rw [mk',List.getD_eq_getElem?_getD,List.getElem?_eq_getElem (by omega)];rfl
   rw [hmq,← hcm] at gm
   subst hpm
   have hum : (ZU g p)[i]'(by omega)=Zh p i:=by simp [ZU]
   refine zp (fun x w'=>x = [.int .i64 (XJ p (i+1))]∧StX noX w ρ w' [.cell b1 (bls ((xx g q).take (i+1)++(List.replicate g.tys.length false).drop (i+1))) 4,.cell b2 (bls ((ZU g p).take (i+1)++(List.replicate g.tys.length false).drop (i+1))) 4,.cell b18 (grL g x1 x2 x3 (some ⟨bp,op,none⟩) y1 y2 y3 y4) 43,.cell b3 [.slice p0 u.ss.length cap0,.slice (some ⟨bf,of,none⟩) u.fs.length capf,.int .i64 u.mn] 25]) (fun K127 hK127=>?_) ?_
   ·refine gg_ ?_
    refine zg (by rw [Int.toNat_natCast];exact S.at hcW) ?_
    refine gg_ ?_
    refine zg (S.at gm) ?_
    refine gg_ ?_
    refine S.st (b:=b1) (fun w131 S=>?_) (by rw [X6,List.length_append,List.length_take,List.length_drop];omega)
    rw [show 0+((i : Nat) : Int).toNat=0+i by rw [Int.toNat_natCast],agw (by omega) (by omega)] at S
    refine gg_ ?_
    refine zq (n:=21) hcp (fun j v hj=>S.at (hpo j v hj)) ?_
    refine QA S.holds (PtG.up hpc) hba fun w132 e132=>?_
    have S:=S.go e132
    refine gg_ ?_
    rw [← hum]
    refine S.st (b:=b2) (fun w133 S=>?_) (by rw [X6,List.length_append,List.length_take,List.length_drop];omega)
    rw [show 0+((i : Nat) : Int).toNat=0+i by rw [Int.toNat_natCast],agw (by omega) (by omega)] at S
    refine gg_ ?_
    refine zq (n:=21) hcp (fun j v hj=>S.at (hpo j v hj)) ?_
    refine abW S.holds (PtG.up hpc) hba fun w134 e134=>?_
    have S:=S.go e134
    rw [afb hpt]
    have hn:=aiq (p:=p) (i:=i)
    refine zk (fun hh=>?_) (fun hh=>?_)
    ·rw [if_pos hh] at hn
     exact hK127 _ _ ⟨by rw [hn],S⟩
    ·rw [if_neg hh] at hn
     exact hK127 _ _ ⟨by rw [hn],S⟩
   repeat clear S
   rintro _ w130 ⟨rfl,S⟩ d
   rw [List.getD_cons_zero]
   refine gg_ ?_
   exact hK123 (i+1) _ ⟨hlt,S⟩ (by omega)
  ·have hie : i=g.tys.length:=by omega
   subst hie
   clear hK123 K123
   have hend : XJ p g.tys.length=(yh p).getD (-1):=by
    rw [XJ]
    cases he : yh p with
    |none=>rfl
    |some x=>have hx:=agJ hpt he;exact if_pos ⟨hx.1,hx.2⟩
   rw [List.take_of_length_le (by omega),List.take_of_length_le (by omega),List.drop_of_length_le (by omega),List.append_nil,List.append_nil] at S
   obtain ⟨S,hs1,_⟩:=S.litNew b1 (sz:=1) (R:=JP) (l:=xx g q) Xo (by decide)
   obtain ⟨S,hs2,_⟩:=S.litNew b2 (sz:=1) (R:=JP) (l:=ZU g p) Xo (by decide)
   rw [hcl] at hs1
   rw [hul] at hs2
   have hmu : mkd (ZU g p)=usL g q:=abF aha abT fun x=>by
    rw [acv,agB,huA]
    constructor
    ·rintro ⟨x0,hx⟩
     rw [agI x0,Qq hpt] at hx
     exact of_decide_eq_true hx.2
    ·intro hx
     have hl:=ajd hF.loc (q:=q) (x:=x) (by rw [huA];exact hx)
     refine ⟨hl.1,(agI hl.1).2 ⟨hl.2,?_⟩⟩
     rw [Qq hpt];exact decide_eq_true hx
   rw [← hmu] at h53
   rw [ahf] at h46
   refine gg_ ?_
   refine zf (c:=true) (fun _ K2 hK2=>by refine gg_ ?_;exact hK2) ?_
   refine zf (c:=true) (fun _ K2 hK2=>by refine gg_ ?_;exact hK2) ?_
   refine zf (c:=true) (fun _ K2 hK2=>?_) ?_
   ·refine vz S.holds h46.cells hs1.cells (by omega) (by have:=Yf (m:=xx g q);omega) ?_
    rw [decide_eq_true rfl];exact hK2
   refine zf (c:=true) (fun _ K2 hK2=>?_) ?_
   ·refine vz S.holds h53.cells hs2.cells (by omega) (by have:=Yf (m:=ZU g p);omega) ?_
    rw [decide_eq_true rfl];exact hK2
   rw [hend]
   have hx0 : ∀ x,yh p=some x→0≤x:=fun x he=>(agJ hpt he).1
   refine zf (c:=true) (fun _ K2 hK2=>?_) ?_
   ·refine gg_ ?_
    cases he : yh p with
    |none=>exact hK2
    |some x=>
     have:=hx0 x he
     simpa [this] using hK2
   refine zf (c:=true) (fun _ K2 hK2=>?_) ?_
   ·refine gg_ ?_
    cases he : yh p with
    |none=>exact hK2
    |some x=>
     have:=hx0 x he
     have e : max x 0=x:=by omega
     simpa [e] using hK2
   refine zs (c:=true) (fun _ K2 hK2=>jt fun w8 e8=>hK2 _ e8) fun w8 e8=>?_
   have:=h _ (S.go e8).ext
   simpa using this
end Go.Proofs
end
