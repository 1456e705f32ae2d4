/-
  loanwordlaw12.FlowPoints: whatever the program, the function, the points: the law returns true.
  Openings: what arguments that are types, programs, lists of numbers tell.
  loanwordlaw12.FlowPoints: whatever the input, the law returns true and the input reads as it did.
  Arrays of two numbers, compared.
  loanwordlaw12.FlowWhole: whatever the program, the function: the law returns true.
  loanwordlaw12.FlowWhole: whatever the input, the law returns true and the input reads as it did.
  Contract of loanwordref12: Way.
  Plain: what the statements of Flow ask of ways, of what lies above, of the order.
  loanwordlaw12.FlowWays: whatever the program, the function, the points, the list: the law returns true.
  loanwordlaw12.FlowWays: whatever the input, the law returns true and the input reads as it did.
  loanwordlaw12.FlowAbove: whatever the program, the function, the point: the law returns true.
  loanwordlaw12.FlowAbove: whatever the input, the law returns true and the input reads as it did.
  loanwordlaw12.FlowReach: whatever the program, the function, the point: the law returns true.
  loanwordlaw12.FlowReach: whatever the input, the law returns true and the input reads as it did.
  loanwordlaw12.FlowOrder: whatever the program, the function: the law returns true.
  loanwordlaw12.FlowOrder: whatever the input, the law returns true and the input reads as it did.
  The six statements of Flow together.
-/
import Derived.Test.YtmkfelgocedohaaGreatQOg
import Derived.Test.YtmkfelgocedohaaGreatQOe
import Derived.Test.YtmkfelgocedohaaGreatQOc
import Derived.Test.YtmkfelgocedohaaGreatRows
import Derived.WalkKit
import Derived.Test.YtmkfelgocedohaaGreatQOb
import Derived.ChangeKeysEq
import Derived.Test.YtmkfelgocedohaaGreatQOf
section
namespace Go.Proofs
open Go.Sh
set_option maxRecDepth 100000
set_option linter.unusedSimpArgs false
set_option linter.unusedVariables false
theorem aiE {u : UnD} {n : Int} : decide (fnE u n=0)=((decide (0≤n)&&decide (n<u.fs.length))&&ZR u):=by
 rw [fnE]
 cases ZR u with
 |false=>rw [Bool.and_false,if_pos (by simp)];rfl
 |true=>
  by_cases h : 0≤n∧n<u.fs.length
  ·rw [if_neg (by simp;omega),decide_eq_true h.1,decide_eq_true h.2];rfl
  ·rw [if_pos (by simp;omega),Bool.and_true]
   by_cases h1 : 0≤n
   ·rw [decide_eq_true h1,decide_eq_false (fun h2=>h ⟨h1,h2⟩)];rfl
   ·rw [decide_eq_false h1];rfl
theorem aiF {u : UnD} {n : Int} : ((u.fs[n.toNat]?.map fun g=>(g.pts.length : Int)).getD 0)=(netU u n).length:=by
 rw [netU]
 cases u.fs[n.toNat]? with
 |none=>rfl
 |some g=>show (g.pts.length : Int)=(netG g).length;rw [yj]
theorem Vb {u : UnD} {n q : Int} : isU u n q=(decide (fnE u n=0)&&decide (q<(netU u n).length)):=by
 rw [isU,aiF,aiE,Bool.and_assoc,Bool.and_assoc,Bool.and_assoc]
theorem af3 {u : UnD} {n : Int} : isU u n (-1)=decide (fnE u n=0):=by
 rw [Vb,decide_eq_true (show (-1 : Int)<(netU u n).length by omega),Bool.and_true]
theorem acj {u : UnD} {n q : Int} (hq : 0≤q) : isU u n q=okQ u n q:=by
 rw [Vb,okQ,Bool.not_or,Bool.not_not]
 congr 1
 ·rw [← decide_not];simp
 ·rw [decide_eq_decide,isN];omega
theorem ae8 {u : UnD} {n q : Int} (h : okQ u n q=true) : fnE u n=0∧isN (netU u n) q:=by
 rw [okQ] at h
 simp only [Bool.not_eq_true',Bool.or_eq_false_iff,decide_eq_false_iff_not,Bool.not_eq_false',decide_eq_true_eq,Decidable.not_not] at h
 exact h
theorem Qi {u : UnD} {n : Int} {r : Gh} {qf : Option Addr} {capf : Nat} (hfn : SlB 7 r (GrG r) (.slice qf u.fs.length capf) u.fs) (h : fnE u n=0) :
  ∃ b off g x1 x2 x3 x4 y1 y2 y3 y4,qf=some ⟨b,off,none⟩∧u.fs[n.toNat]? = some g∧netU u n=netG g∧vZ (netG g)∧0≤n∧n<u.fs.length∧GrG r (grL g x1 x2 x3 x4 y1 y2 y3 y4) g∧(∀ j v,(grL g x1 x2 x3 x4 y1 y2 y3 y4)[j]? = some v→Ob r fun w=>w.cell? ⟨b,off+n.toNat*7+j,none⟩=some v):=by
 obtain ⟨hlt,he,hF⟩:=z7 h
 obtain ⟨_,hn0,_⟩:=aeu h
 obtain ⟨bf,of,cf,hp,hcf,hgc,hfo⟩:=hfn.sl.get (by decide) hlt
 have hgi : u.fs[n.toNat]? = some u.fs[n.toNat]:=List.getElem?_eq_getElem hlt
 rw [he] at hF
 generalize u.fs[n.toNat]=g at *
 obtain ⟨x1,x2,x3,x4,y1,y2,y3,y4,rfl,hg0⟩:=xC hgc
 exact ⟨bf,of,g,x1,x2,x3,x4,y1,y2,y3,y4,hp,hgi,he,hF,hn0,by omega,hg0,hfo⟩
theorem aap {n : zg} {l : List Int} (hs : l.Nodup) (h : ∀ x ∈ l,isN n x) : l.length≤n.length:=by
 have:=ab7 hs (b:=(List.range n.length).map Int.ofNat) fun x hx=>by
  have:=h x hx
  exact List.mem_map.2 ⟨x.toNat,List.mem_range.2 (by have h1:=this.1;have h2:=this.2;omega),by have h1:=this.1;show ((x.toNat : Nat) : Int)=x;omega⟩
 simpa using this
theorem af4 {m : List Bool} : (mkd m).length≤m.length:=by
 rw [mkd,List.length_map]
 exact Nat.le_trans (List.length_filter_le ..) (by simp)
theorem ajw {n : zg} {q : Int} : (befN n q).length≤n.length:=by
 rw [befN,List.length_map]
 exact Nat.le_trans (List.length_filter_le ..) (by simp)
theorem ajx {n : zg} {q : Int} : (abvL n q).length≤n.length:=aap abm fun x hx=>(kc.1 hx).2.1
set_option maxHeartbeats 4000000 in
theorem JS {u : UnD} {n q t : Int} {v : Value} {w : World} {r : Gh} {K : Value→World→Prop} (hr : Holds r w) (hu : UnG r v u)
  (h : ∀ w',Ext w w'→K (.bool true) w') : zd Tryz.prog Tryz.Zq #[v,.int .i64 n,.int .i64 q,.int .i64 t] w K:=by
 refine Tryz.QN ?_
 unfold Tryz.ZC
 have hu0:=hu
 obtain ⟨p0,cap0,vf,rfl,_,_,hst,hsl,hfn⟩:=hu
 obtain ⟨qf,capf,rfl,_,_⟩:=hfn.sl.shape
 have hfl : u.fs.length≤9223372036854775807:=hfn.few
 have S:=St.start hr
 refine S.box fun b4 w1 S=>?_
 have S : StX noX w r w1 [.cell b4 [.slice p0 u.ss.length cap0,.slice qf u.fs.length capf,.int .i64 u.mn] 25]:=S
 refine S.ldB (b:=b4) ?_ rfl
 refine YO S.holds hu0 fun x w2 e2=>?_
 have S:=S.go e2
 refine gp_ ?_
 refine c_b (fun _=>yl fun w3 e3=>h _ (S.go e3).ext) (fun _=>?_)
 refine S.ldB (b:=b4) ?_ rfl
 refine QA S.holds hu0 fun v5 s5 w5 e5 n5 h5=>?_
 obtain ⟨S,_,_⟩:=S.tell e5 n5
 refine gS_ ?_
 refine S.ldB (b:=b4) ?_ rfl
 refine JE S.holds hu0.up fun v6 s6 w6 e6 n6 h6=>?_
 obtain ⟨S,_,_⟩:=S.tell e6 n6
 refine gS_ ?_
 refine S.ldB (b:=b4) ?_ rfl
 refine JF S.holds hu0.up fun v7 s7 w7 e7 n7 h7=>?_
 obtain ⟨S,_,_⟩:=S.tell e7 n7
 refine gS_ ?_
 refine zp (fun y w'=>StX noX w r w' [.cell b4 [.slice p0 u.ss.length cap0,.slice qf u.fs.length capf,.int .i64 u.mn] 25]) (fun K7 hK7=>?_) ?_
 ·cases hok : okQ u n q with
  |false=>
   have hE : (if okQ u n q=true then (0 : Int) else 2)=2:=by rw [hok];rfl
   rw [hok,if_neg (by decide)] at h5 h6 h7
   rw [hok] at hE
   rw [hE]
   obtain ⟨q5,c5,rfl,_,_⟩:=h5.shape
   obtain ⟨q6,c6,rfl,_,_⟩:=h6.shape
   obtain ⟨q7,c7,rfl,_,_⟩:=h7.shape
   refine gp_ ?_
   refine xH (c:=true) (fun w'=>StX noX w _ w' _) (fun _=>S) (fun hb K2 hK2=>?_) fun w8 S=>?_
   ·refine S.ldB (b:=b4) ?_ rfl
    refine qW S.holds hu0.up fun w8 e8=>?_
    rw [acj (by simpa using hb),hok]
    refine gp_ ?_
    exact hK2 _ (S.go e8)
   refine c_t (by simp) ?_
   simp only [List.length_nil]
   refine gg_ ?_
   refine zk (c:=false) (fun _ K2 hK2=>by refine gg_ ?_;exact hK2) ?_
   refine zk (c:=false) (fun _ K2 hK2=>by refine gg_ ?_;exact hK2) ?_
   refine zk (c:=false) (fun _ K2 hK2=>by refine gg_ ?_;exact hK2) ?_
   refine c_f (by simp) ?_
   exact hK7 _ _ (S.to r)
  |true=>
   obtain ⟨hE0,hqN⟩:=ae8 hok
   have hE : (if okQ u n q=true then (0 : Int) else 2)=0:=by rw [hok];rfl
   rw [hok,if_pos rfl] at h5 h6 h7
   rw [hok] at hE
   rw [hE]
   obtain ⟨bf,of,g,x1,x2,x3,x4,y1,y2,y3,y4,rfl,hgi,hnu,hF,hn0,hn1,hg,hfo⟩:=Qi hfn hE0
   have hfew:=hF.few
   rw [hnu] at h5 h6 h7 hqN
   have hq0:=hqN.1
   refine gp_ ?_
   refine xH (c:=false) (fun w'=>StX noX w _ w' _) (fun _=>S) (fun hb K2 hK2=>?_) fun w8 S=>?_
   ·refine S.ldB (b:=b4) ?_ rfl
    refine qW S.holds hu0.up fun w8 e8=>?_
    rw [acj hq0,hok]
    refine gp_ ?_
    exact hK2 _ (S.go e8)
   refine c_f (by simp;omega) ?_
   refine gg_ ?_
   refine zt (n:=7) rfl (fun j v hj=>S.at (hfo j v hj)) ?_
   refine S.al fun b15 w9 S=>?_
   refine S.stB (b:=b15) fun w10 S=>?_
   have S : StX noX w (((r.or s5).or s6).or s7) w10 [.cell b15 (grL g x1 x2 x3 x4 y1 y2 y3 y4) 38,.cell b4 [.slice p0 u.ss.length cap0,.slice (some ⟨bf,of,none⟩) u.fs.length capf,.int .i64 u.mn] 25]:=S
   refine gp_ ?_
   refine zk (c:=false) (fun _ K2 hK2=>by refine gg_ ?_;exact hK2) ?_
   refine zk (c:=false) (fun _ K2 hK2=>by refine gg_ ?_;exact hK2) ?_
   refine xH (c:=false) (fun w'=>StX noX w (((r.or s5).or s6).or s7) w' _) (fun _=>S) (fun hb K2 hK2=>?_) fun w11 S=>?_
   ·refine S.ldB (b:=b15) ?_ rfl
    refine JL S.holds (hg.up (s:=((r.or s5).or s6).or s7)) hF fun v12 s12 w12 e12 n12 h12=>?_
    obtain ⟨S,_,_⟩:=S.tell e12 n12
    refine xI S.holds h5.cells h12.cells (Nat.le_trans ajw (by omega)) fun w13 e13=>?_
    rw [decide_eq_true rfl]
    refine gp_ ?_
    exact hK2 _ ((S.go e13).to _)
   refine xH (c:=false) (fun w'=>StX noX w (((r.or s5).or s6).or s7) w' _) (fun _=>S) (fun hb K2 hK2=>?_) fun w11 S=>?_
   ·refine S.ldB (b:=b15) ?_ rfl
    refine afx S.holds (hg.up (s:=((r.or s5).or s6).or s7)) hF hqN fun v12 s12 w12 e12 n12 h12=>?_
    obtain ⟨S,_,_⟩:=S.tell e12 n12
    refine xI S.holds h6.cells h12.cells (Nat.le_trans af4 (by rw [yN];omega)) fun w13 e13=>?_
    rw [decide_eq_true rfl]
    refine gp_ ?_
    exact hK2 _ ((S.go e13).to _)
   refine xH (c:=false) (fun w'=>StX noX w (((r.or s5).or s6).or s7) w' _) (fun _=>S) (fun hb K2 hK2=>?_) fun w11 S=>?_
   ·refine S.ldB (b:=b15) ?_ rfl
    refine Xy S.holds (hg.up (s:=((r.or s5).or s6).or s7)) hF hqN fun v12 s12 w12 e12 n12 h12=>?_
    obtain ⟨S,_,_⟩:=S.tell e12 n12
    refine xI S.holds h7.cells h12.cells (Nat.le_trans ajx (by omega)) fun w13 e13=>?_
    rw [decide_eq_true rfl]
    refine gp_ ?_
    exact hK2 _ ((S.go e13).to _)
   refine c_f (by simp) ?_
   exact hK7 _ _ ((S.drop b15).to r)
 repeat clear S
 rintro _ w9 S d
 refine S.ldB (b:=b4) ?_ rfl
 refine VH S.holds hu0 fun v10 s10 w10 e10 n10 h10=>?_
 obtain ⟨S,_,_⟩:=S.tell e10 n10
 refine gS_ ?_
 refine zk (c:=decide (t<0)) (fun _ K2 hK2=>by refine gg_ ?_;exact hK2) ?_
 refine xH (c:=!isU u n q) (fun w'=>StX noX w (r.or s10) w' _) (fun _=>S) (fun hb K2 hK2=>?_) fun w11 S=>?_
 ·refine S.ldB (b:=b4) ?_ rfl
  refine qW S.holds hu0.up fun w8 e8=>?_
  refine gp_ ?_
  exact hK2 _ (S.go e8)
 refine xH (c:=!isU u n t) (fun w'=>StX noX w (r.or s10) w' _) (fun _=>S) (fun hb K2 hK2=>?_) fun w11 S=>?_
 ·refine S.ldB (b:=b4) ?_ rfl
  refine qW S.holds hu0.up fun w8 e8=>?_
  refine gp_ ?_
  exact hK2 _ (S.go e8)
 refine c_b (fun hb=>?_) (fun hb=>?_)
 ·have hL : okL u n q t=false:=by
   refine Bool.eq_false_iff.2 fun hc=>?_
   rw [okL] at hc
   simp only [Bool.not_eq_true',Bool.or_eq_false_iff,decide_eq_false_iff_not,Bool.not_eq_false',decide_eq_true_eq,Decidable.not_not] at hc
   obtain ⟨⟨⟨h1,h2⟩,_⟩,_⟩:=hc
   have hq:=h2 q (by simp)
   have ht:=h2 t (by simp)
   rw [Vb,Vb,decide_eq_true h1,decide_eq_true hq.2,decide_eq_true ht.2,decide_eq_false (show ¬ q<0 by have:=hq.1;omega),decide_eq_false (show ¬ t<0 by have:=ht.1;omega)] at hb
   cases hb
  have hE : (if okL u n q t=true then (0 : Int) else 2)=2:=by rw [hL];rfl
  rw [hL,if_neg (by decide)] at h10
  rw [hE]
  obtain ⟨q5,c5,rfl,_,_⟩:=h10.shape
  simp only [List.length_nil]
  refine gg_ ?_
  refine zf (c:=true) (fun _ K2 hK2=>by refine gg_ ?_;exact hK2) ?_
  refine zq (c:=true) (fun _ K2 hK2=>yl fun w8 e8=>hK2 _ e8) fun w8 e8=>?_
  have:=h _ (S.go e8).ext
  simpa using this
 ·simp only [Bool.or_eq_false_iff,decide_eq_false_iff_not,Bool.not_eq_false'] at hb
  obtain ⟨⟨⟨hq0,ht0⟩,hq⟩,ht⟩:=hb
  rw [acj (by omega)] at hq ht
  obtain ⟨hE0,hqN⟩:=ae8 hq
  obtain ⟨_,htN⟩:=ae8 ht
  have hLR : okL u n q t=okR (netU u n) q t:=by
   rw [okL,okR,hE0,decide_eq_true (show ∀ x ∈ [q,t],isN (netU u n) x by simp [hqN,htN])]
   simp
  obtain ⟨bf,of,g,x1,x2,x3,x4,y1,y2,y3,y4,rfl,hgi,hnu,hF,hn0,hn1,hg,hfo⟩:=Qi hfn hE0
  have hfew:=hF.few
  rw [hLR] at h10 ⊢
  rw [hnu] at h10 hqN htN ⊢
  refine gg_ ?_
  refine zt (n:=7) rfl (fun j v hj=>S.at (hfo j v hj)) ?_
  refine agD S.holds (hg.up (s:=r.or s10)) hF hqN htN fun v12 s12 w12 e12 n12 h12=>?_
  obtain ⟨S,_,_⟩:=S.tell e12 n12
  refine gS_ ?_
  refine xI S.holds h10.cells h12.cells (by split;exact Nat.le_trans af4 (by rw [qG];omega);exact Nat.zero_le _) fun w13 e13=>?_
  have S:=S.go e13
  rw [decide_eq_true rfl]
  generalize okR (netG g) q t=ok
  cases ok with
  |true=>
   rw [if_pos rfl]
   refine zf (c:=true) (fun _ K2 hK2=>by refine gg_ ?_;exact hK2) ?_
   rw [Bool.and_self]
   (intro K9 hK9;refine gd_ ?_;refine hK9 _ _ fun _=>?_;clear hK9 K9)
   (intro K9 hK9;refine gd_ ?_;refine hK9 _ _ fun _=>?_;clear hK9 K9)
   (intro K9 hK9;refine gd_ ?_;refine hK9 _ _ fun _=>?_;clear hK9 K9)
   refine gd_ ?_
   refine zq (c:=true) (fun _ K2 hK2=>yl fun w8 e8=>hK2 _ e8) fun w8 e8=>?_
   exact h _ (S.go e8).ext
  |false=>
   rw [if_neg (by decide)]
   refine zf (c:=true) (fun _ K2 hK2=>by refine gg_ ?_;exact hK2) ?_
   rw [Bool.and_self]
   (intro K9 hK9;refine gd_ ?_;refine hK9 _ _ fun _=>?_;clear hK9 K9)
   (intro K9 hK9;refine gd_ ?_;refine hK9 _ _ fun _=>?_;clear hK9 K9)
   (intro K9 hK9;refine gd_ ?_;refine hK9 _ _ fun _=>?_;clear hK9 K9)
   refine gd_ ?_
   refine zq (c:=true) (fun _ K2 hK2=>yl fun w8 e8=>hK2 _ e8) fun w8 e8=>?_
   exact h _ (S.go e8).ext
end Go.Proofs
end
section
namespace Go.Proofs.YtmkfelgocedohaaGreat.openG
open Go.Sh Go.ChangeShapes Go.WideShapes Go.ChangeAt Go.RowKit
set_option maxRecDepth 100000
set_option linter.unusedSimpArgs false
set_option linter.unusedVariables false
theorem own : ownKnob Tryz.prog.godebug=none:=by kernel_rfl
theorem ack : laidOutB Tryz.prog=true:=by kernel_rfl
theorem agJ : mapsRowed Tryz.prog=true:=by kernel_rfl
theorem aiG : ((List.range Tryz.prog.types.size).all fun t=>match Tryz.prog.underlying t with|some (.slice e)=>decide (0<Tryz.prog.cellsOf e)|_=>true)=true:=by kernel_rfl
theorem jE : Tryz.prog.underlying 3=some (.int .i64):=by kernel_rfl
theorem akO : Tryz.prog.underlying 2=some (.int .i64):=by kernel_rfl
theorem akP : Tryz.prog.underlying 153=some (.int .i64):=by kernel_rfl
theorem abu : Tryz.prog.underlying 4=some .bool:=by kernel_rfl
theorem akQ : Tryz.prog.underlying 9=some .string:=by kernel_rfl
theorem uTk : Tryz.prog.underlying 136=some (.int .u8):=by kernel_rfl
theorem uOk : Tryz.prog.underlying 82=some (.int .u8):=by kernel_rfl
theorem uPo : Tryz.prog.underlying 78=some (.int .u8):=by kernel_rfl
theorem sTy : Tryz.prog.underlying 34=some (.slice 138)∧Tryz.prog.cellsOf 138=5:=⟨by kernel_rfl,by kernel_rfl⟩
theorem sFd : Tryz.prog.underlying 93=some (.slice 195)∧Tryz.prog.cellsOf 195=6:=⟨by kernel_rfl,by kernel_rfl⟩
theorem sSt : Tryz.prog.underlying 22=some (.slice 95)∧Tryz.prog.cellsOf 95=2:=⟨by kernel_rfl,by kernel_rfl⟩
theorem sGr : Tryz.prog.underlying 23=some (.slice 38)∧Tryz.prog.cellsOf 38=7:=⟨by kernel_rfl,by kernel_rfl⟩
theorem sOu : Tryz.prog.underlying 33=some (.slice 204)∧Tryz.prog.cellsOf 204=2:=⟨by kernel_rfl,by kernel_rfl⟩
theorem sSs : Tryz.prog.underlying 35=some (.slice 9)∧Tryz.prog.cellsOf 9=1:=⟨by kernel_rfl,by kernel_rfl⟩
theorem sPt : Tryz.prog.underlying 36=some (.slice 87)∧Tryz.prog.cellsOf 87=21:=⟨by kernel_rfl,by kernel_rfl⟩
theorem sOp : Tryz.prog.underlying 85=some (.slice 84)∧Tryz.prog.cellsOf 84=4:=⟨by kernel_rfl,by kernel_rfl⟩
theorem sSp : Tryz.prog.underlying 79=some (.slice 153)∧Tryz.prog.cellsOf 153=1:=⟨by kernel_rfl,by kernel_rfl⟩
theorem sIn : Tryz.prog.underlying 28=some (.slice 3)∧Tryz.prog.cellsOf 3=1:=⟨by kernel_rfl,by kernel_rfl⟩
theorem aTy : ∃ fs,Tryz.prog.underlying 138=some (.struct fs)∧fs.toList.map (·.type) = [136,4,3,3,34]:=x6 (by kernel_rfl)
theorem aFd : ∃ fs,Tryz.prog.underlying 195=some (.struct fs)∧fs.toList.map (·.type) = [9,138]:=x6 (by kernel_rfl)
theorem aSt : ∃ fs,Tryz.prog.underlying 95=some (.struct fs)∧fs.toList.map (·.type) = [9,93]:=x6 (by kernel_rfl)
theorem aPl : ∃ fs,Tryz.prog.underlying 81=some (.struct fs)∧fs.toList.map (·.type) = [3,79]:=x6 (by kernel_rfl)
theorem aOp : ∃ fs,Tryz.prog.underlying 84=some (.struct fs)∧fs.toList.map (·.type) = [82,2,81]:=x6 (by kernel_rfl)
theorem aPt : ∃ fs,Tryz.prog.underlying 87=some (.struct fs)∧fs.toList.map (·.type) = [78,81,84,84,85,9,81,4,3,3,3,3,3]:=x6 (by kernel_rfl)
theorem aOu : ∃ fs,Tryz.prog.underlying 204=some (.struct fs)∧fs.toList.map (·.type) = [3,3]:=x6 (by kernel_rfl)
theorem aGr : ∃ fs,Tryz.prog.underlying 38=some (.struct fs)∧fs.toList.map (·.type) = [9,3,33,3,34,35,36]:=x6 (by kernel_rfl)
theorem aUn : ∃ fs,Tryz.prog.underlying 25=some (.struct fs)∧fs.toList.map (·.type) = [22,23,3]:=x6 (by kernel_rfl)
theorem ajy : aej Tryz.prog [28,3]=true:=by kernel_rfl
theorem ajz : aej Tryz.prog [25,22,95,93,195,9,138,136,4,3,34,23,38,33,204,35,36,87,78,
 81,79,153,84,82,2,85]=true:=by kernel_rfl
theorem vE {α : Type} {f : α→Dat} {G : α→Prop} {d : Dat} {T e : TypeId} {n : Nat} (u : Tryz.prog.underlying T=some (.slice e)∧Tryz.prog.cellsOf e=n) (h : d.ok Tryz.prog T) (hf : ∀ x : Dat,SizeOf.sizeOf x<SizeOf.sizeOf d→x.ok Tryz.prog e→∃ t,x=f t∧G t) :
  ∃ l : List α,d = .sl n (l.map f)∧l.length≤maxLen∧∀ t ∈ l,G t:=by
 obtain ⟨es,rfl,hl,hk⟩:=ajT u.1 h
 obtain ⟨l,rfl,hg⟩:=ael (f:=f) (G:=G) es fun x hx=>hf x (by
  have:=List.sizeOf_lt_of_mem hx
  simp only [Dat.sl.sizeOf_spec];omega) (hk x hx)
 exact ⟨l,by rw [u.2],by simpa using hl,hg⟩
theorem akF : ∀ (n : Nat) (d : Dat),SizeOf.sizeOf d≤n→d.ok Tryz.prog 138→∃ t : TyD,d=t.dat:=by
 intro n
 induction n with
 |zero=>intro d h _;cases d<;>simp at h
 |succ n ih=>
  intro d hs h
  obtain ⟨ds,rfl,e0⟩:=qQ aTy h
  obtain ⟨d0,ds,rfl,h0,e1⟩:=zx e0
  obtain ⟨d1,ds,rfl,h1,e2⟩:=zx e1
  obtain ⟨d2,ds,rfl,h2,e3⟩:=zx e2
  obtain ⟨d3,ds,rfl,h3,e4⟩:=zx e3
  obtain ⟨d4,ds,rfl,h4,e5⟩:=zx e4
  obtain rfl:=qR e5
  obtain ⟨k,rfl,_⟩:=yA uTk h0
  obtain ⟨m,rfl⟩:=aek abu h1
  obtain ⟨re,rfl,_⟩:=yA jE h2
  obtain ⟨st,rfl,_⟩:=yA jE h3
  obtain ⟨l,rfl,_,_⟩:=vE (f:=TyD.dat) (G:=fun _=>True) sTy h4 fun x hx hk=>by
   obtain ⟨t,ht⟩:=ih x (by
    simp only [Dat.agg.sizeOf_spec,List.cons.sizeOf_spec] at hs
    omega) hk
   exact ⟨t,ht,trivial⟩
  exact ⟨.mk k m re st l,by rw [TyD.dat,TyD.dats_map]⟩
theorem ahJ {d : Dat} (h : d.ok Tryz.prog 138) : ∃ t : TyD,d=t.dat∧True:=by
 obtain ⟨t,ht⟩:=akF _ d (Nat.le_refl _) h
 exact ⟨t,ht,trivial⟩
theorem JT {d : Dat} (h : d.ok Tryz.prog 9) : ∃ s : ByteArray,d = .str s∧True:=by
 obtain ⟨s,hs,_⟩:=aiY akQ h
 exact ⟨s,hs,trivial⟩
theorem ajA {n : Int} (h : (Lit.int .i64 n).wf=true) : aem n:=by have:=ag4 h;exact ⟨this.1,by omega⟩
theorem akg {d : Dat} (h : d.ok Tryz.prog 153) : ∃ n : Int,d=Dat.int .i64 n∧aem n:=by
 obtain ⟨n,hn,hw⟩:=yA akP h
 exact ⟨n,hn,ajA hw⟩
theorem akG {d : Dat} (h : d.ok Tryz.prog 195) : ∃ f : ByteArray × TyD,d=aeg f∧True:=by
 obtain ⟨ds,rfl,e0⟩:=qQ aFd h
 obtain ⟨d0,ds,rfl,h0,e1⟩:=zx e0
 obtain ⟨d1,ds,rfl,h1,e2⟩:=zx e1
 obtain rfl:=qR e2
 obtain ⟨s,rfl,_⟩:=JT h0
 obtain ⟨t,rfl,_⟩:=ahJ h1
 exact ⟨(s,t),rfl,trivial⟩
theorem akH {d : Dat} (h : d.ok Tryz.prog 95) : ∃ s : StD,d=s.dat∧True:=by
 obtain ⟨ds,rfl,e0⟩:=qQ aSt h
 obtain ⟨d0,ds,rfl,h0,e1⟩:=zx e0
 obtain ⟨d1,ds,rfl,h1,e2⟩:=zx e1
 obtain rfl:=qR e2
 obtain ⟨s,rfl,_⟩:=JT h0
 obtain ⟨l,rfl,_,_⟩:=vE (f:=aeg) (G:=fun _=>True) sFd h1 fun x _ hk=>akG hk
 exact ⟨⟨s,l⟩,rfl,trivial⟩
theorem agK {d : Dat} (h : d.ok Tryz.prog 81) : ∃ p : PlD,d=p.dat∧p.ok:=by
 obtain ⟨ds,rfl,e0⟩:=qQ aPl h
 obtain ⟨d0,ds,rfl,h0,e1⟩:=zx e0
 obtain ⟨d1,ds,rfl,h1,e2⟩:=zx e1
 obtain rfl:=qR e2
 obtain ⟨n,rfl,_⟩:=yA jE h0
 obtain ⟨l,rfl,hl,hg⟩:=vE (f:=Dat.int .i64) (G:=aem) sSp h1 fun x _ hk=>akg hk
 exact ⟨⟨n,l⟩,rfl,hl,hg⟩
theorem agL {d : Dat} (h : d.ok Tryz.prog 84) : ∃ o : OpD,d=o.dat∧o.ok:=by
 obtain ⟨ds,rfl,e0⟩:=qQ aOp h
 obtain ⟨d0,ds,rfl,h0,e1⟩:=zx e0
 obtain ⟨d1,ds,rfl,h1,e2⟩:=zx e1
 obtain ⟨d2,ds,rfl,h2,e3⟩:=zx e2
 obtain rfl:=qR e3
 obtain ⟨k,rfl,_⟩:=yA uOk h0
 obtain ⟨n,rfl,_⟩:=yA akO h1
 obtain ⟨p,rfl,hp⟩:=agK h2
 exact ⟨⟨k,n,p⟩,rfl,hp⟩
theorem akI {d : Dat} (h : d.ok Tryz.prog 87) : ∃ p : PtD,d=p.dat∧p.ok:=by
 obtain ⟨ds,rfl,e0⟩:=qQ aPt h
 obtain ⟨d0,ds,rfl,h0,e1⟩:=zx e0
 obtain ⟨d1,ds,rfl,h1,e2⟩:=zx e1
 obtain ⟨d2,ds,rfl,h2,e3⟩:=zx e2
 obtain ⟨d3,ds,rfl,h3,e4⟩:=zx e3
 obtain ⟨d4,ds,rfl,h4,e5⟩:=zx e4
 obtain ⟨d5,ds,rfl,h5,e6⟩:=zx e5
 obtain ⟨d6,ds,rfl,h6,e7⟩:=zx e6
 obtain ⟨d7,ds,rfl,h7,e8⟩:=zx e7
 obtain ⟨d8,ds,rfl,h8,e9⟩:=zx e8
 obtain ⟨d9,ds,rfl,h9,e10⟩:=zx e9
 obtain ⟨d10,ds,rfl,h10,e11⟩:=zx e10
 obtain ⟨d11,ds,rfl,h11,e12⟩:=zx e11
 obtain ⟨d12,ds,rfl,h12,e13⟩:=zx e12
 obtain rfl:=qR e13
 obtain ⟨op,rfl,_⟩:=yA uPo h0
 obtain ⟨to,rfl,g1⟩:=agK h1
 obtain ⟨a,rfl,g2⟩:=agL h2
 obtain ⟨b,rfl,g3⟩:=agL h3
 obtain ⟨l,rfl,hl,g4⟩:=vE (f:=OpD.dat) (G:=OpD.ok) sOp h4 fun x _ hk=>agL hk
 obtain ⟨s,rfl,_⟩:=JT h5
 obtain ⟨fr,rfl,g6⟩:=agK h6
 obtain ⟨mu,rfl⟩:=aek abu h7
 obtain ⟨fn,rfl,_⟩:=yA jE h8
 obtain ⟨st,rfl,_⟩:=yA jE h9
 obtain ⟨nx,rfl,_⟩:=yA jE h10
 obtain ⟨el,rfl,_⟩:=yA jE h11
 obtain ⟨tx,rfl,_⟩:=yA jE h12
 exact ⟨⟨op,to,a,b,l,s,fr,mu,fn,st,nx,el,tx⟩,rfl,g1,g2,g3,⟨hl,g4⟩,g6⟩
theorem akJ {d : Dat} (h : d.ok Tryz.prog 204) : ∃ x : Int × Int,d=agk x∧True:=by
 obtain ⟨ds,rfl,e0⟩:=qQ aOu h
 obtain ⟨d0,ds,rfl,h0,e1⟩:=zx e0
 obtain ⟨d1,ds,rfl,h1,e2⟩:=zx e1
 obtain rfl:=qR e2
 obtain ⟨a,rfl,_⟩:=yA jE h0
 obtain ⟨b,rfl,_⟩:=yA jE h1
 exact ⟨(a,b),rfl,trivial⟩
theorem akK {d : Dat} (h : d.ok Tryz.prog 38) : ∃ g : GrD,d=g.dat∧g.ok:=by
 obtain ⟨ds,rfl,e0⟩:=qQ aGr h
 obtain ⟨d0,ds,rfl,h0,e1⟩:=zx e0
 obtain ⟨d1,ds,rfl,h1,e2⟩:=zx e1
 obtain ⟨d2,ds,rfl,h2,e3⟩:=zx e2
 obtain ⟨d3,ds,rfl,h3,e4⟩:=zx e3
 obtain ⟨d4,ds,rfl,h4,e5⟩:=zx e4
 obtain ⟨d5,ds,rfl,h5,e6⟩:=zx e5
 obtain ⟨d6,ds,rfl,h6,e7⟩:=zx e6
 obtain rfl:=qR e7
 obtain ⟨s,rfl,_⟩:=JT h0
 obtain ⟨lv,rfl,_⟩:=yA jE h1
 obtain ⟨lo,rfl,g2,_⟩:=vE (f:=agk) (G:=fun _=>True) sOu h2 fun x _ hk=>akJ hk
 obtain ⟨pn,rfl,_⟩:=yA jE h3
 obtain ⟨lt,rfl,g4,_⟩:=vE (f:=TyD.dat) (G:=fun _=>True) sTy h4 fun x _ hk=>ahJ hk
 obtain ⟨ln,rfl,g5,_⟩:=vE (f:=Dat.str) (G:=fun _=>True) sSs h5 fun x _ hk=>JT hk
 obtain ⟨lp,rfl,g6,hp⟩:=vE (f:=PtD.dat) (G:=PtD.ok) sPt h6 fun x _ hk=>akI hk
 exact ⟨⟨s,lv,lo,pn,lt,ln,lp⟩,rfl,g2,g4,g5,g6,hp⟩
theorem akL {d : Dat} (h : d.ok Tryz.prog 25) : ∃ u : UnD,d=u.dat∧u.ok:=by
 obtain ⟨ds,rfl,e0⟩:=qQ aUn h
 obtain ⟨d0,ds,rfl,h0,e1⟩:=zx e0
 obtain ⟨d1,ds,rfl,h1,e2⟩:=zx e1
 obtain ⟨d2,ds,rfl,h2,e3⟩:=zx e2
 obtain rfl:=qR e3
 obtain ⟨ss,rfl,g0,_⟩:=vE (f:=StD.dat) (G:=fun _=>True) sSt h0 fun x _ hk=>akH hk
 obtain ⟨fs,rfl,g1,hg⟩:=vE (f:=GrD.dat) (G:=GrD.ok) sGr h1 fun x _ hk=>akK hk
 obtain ⟨mn,rfl,_⟩:=yA jE h2
 exact ⟨⟨ss,fs,mn⟩,rfl,g0,g1,hg⟩
section
variable {H : Type} {enc : TypeId × Value→H} {W : World} {base : Nat} {v : Value} {d : DataW H} {p : List MemPlace}
theorem acl (hv : Value.okWide Tryz.prog W .any base 25 v) (h : DataW.Trod enc Tryz.prog W 0 (fun _=>true) true 25 v d p) : ∃ u : UnD,UnG (all W) v u:=by
 obtain ⟨fs,hu,_⟩:=aUn
 obtain ⟨cs,rfl,hsz⟩:=okWide_struct hu hv
 obtain ⟨fuel,hf⟩:=h
 obtain ⟨d,hr,hd⟩:=Zj ajz fuel 25 _ _ (by simp) hf
 obtain ⟨u,rfl,hk⟩:=akL hd
 exact ⟨u,by simpa [Value.cells] using ag7 hr hk⟩
theorem jF (hv : Value.okWide Tryz.prog W .any base 3 v) (h : DataW.Trod enc Tryz.prog W 0 (fun _=>true) true 3 v d p) : ∃ n : Int,v = .int .i64 n∧-9223372036854775808≤n∧n≤9223372036854775807:=by
 obtain ⟨n,rfl,_,_,hw⟩:=open_int jE hv h
 exact ⟨n,rfl,ag4 hw⟩
theorem ahK (hv : Value.okWide Tryz.prog W .any base 28 v) (h : DataW.Trod enc Tryz.prog W 0 (fun _=>true) true 28 v d p) :
  ∃ q cap l,v = .slice q (List.length l) cap∧(q=none→cap=0)∧l.length≤cap∧(Ob (all W) fun w=>Sl w q (ints l)):=by
 obtain ⟨a0,len,cap,rfl⟩:=Go.WideShapes.okWide_slice sIn.1 hv
 obtain ⟨fuel,hf⟩:=h
 obtain ⟨d,hr,hd⟩:=Zj ajy fuel 28 _ _ (by simp) hf
 obtain ⟨l,rfl,_,_⟩:=vE (f:=Dat.int .i64) (G:=fun _=>True) sIn hd fun x _ hk=>by
  obtain ⟨n,hn,_⟩:=yA jE hk
  exact ⟨n,hn,trivial⟩
 obtain ⟨q,cap',hq,h1,h2,h3⟩:=aff (k:=.i64) (f:=id) (l:=l) hr
 have hq : [Value.slice a0 len cap] = [.slice q l.length cap']:=hq
 injection hq with hq
 exact ⟨q,cap',l,hq,h1,h2,h3⟩
end
noncomputable def x8 (os : Os) : World:=World.holding Tryz.prog os ⟨#[],#[],[]⟩
end Go.Proofs.YtmkfelgocedohaaGreat.openG
end
section
namespace Go.Proofs.YtmkfelgocedohaaGreat.flowPoints
open Go.Sh Go.ChangeShapes Go.WideShapes Go.ChangeAt Go.RowKit openG
set_option maxRecDepth 100000
set_option linter.unusedVariables false
theorem YP (H : Type) (enc : TypeId × Value→H) (W : World) (base : Nat) (args : Array Value) (ds gs : List (DataW H)) (before : List MemPlace)
  (hval : ∀ (j : Nat) t v,Tryz.f3.params[j]? = some t→args[j]? = some v→Value.okWide Tryz.prog W .any base t v)
  (hW : DataW.Whole enc Tryz.prog Tryz.f3.params.toList Rows.flowPointsSpec.vars false W args.toList ds gs before) :
  Calls Tryz.prog 3 args W fun e W'=>∃ v,e = .returned v∧Rows.flowPointsSpec.post enc Tryz.prog Tryz.f3 false true false false W args v W':=by
 have hW':=hW
 obtain ⟨p,q,hA,hV,rfl,hfz,hnd⟩:=hW
 rw [show Tryz.f3.params.toList = [25,3,3,3] by kernel_rfl] at hA
 obtain ⟨v0,vs0,d0,ds0,p0,q100,hargs,rfl,rfl,h0,r0⟩:=trodAll_cons hA
 obtain ⟨v1,vs1,d1,ds1,p1,q101,rfl,rfl,rfl,h1,r1⟩:=trodAll_cons r0
 obtain ⟨v2,vs2,d2,ds2,p2,q102,rfl,rfl,rfl,h2,r2⟩:=trodAll_cons r1
 obtain ⟨v3,vs3,d3,ds3,p3,q103,rfl,rfl,rfl,h3,r3⟩:=trodAll_cons r2
 obtain ⟨rfl,rfl,rfl⟩:=trodAll_nil r3
 obtain rfl : args=#[v0,v1,v2,v3]:=by cases args;simp_all
 obtain ⟨rfl,rfl⟩:=trodVars_none hV
 obtain ⟨u0,hu0⟩:=acl (hval 0 25 v0 (by kernel_rfl) rfl) h0
 obtain ⟨n1,rfl,hi1⟩:=jF (hval 1 3 v1 (by kernel_rfl) rfl) h1
 obtain ⟨n2,rfl,hi2⟩:=jF (hval 2 3 v2 (by kernel_rfl) rfl) h2
 obtain ⟨n3,rfl,hi3⟩:=jF (hval 3 3 v3 (by kernel_rfl) rfl) h3
 refine Calls.mono (JS (K:=fun v W'=>v = .bool true∧Ext W W') (YW W) hu0 fun w' e=>⟨rfl,e⟩) ?_
 rintro e W' ⟨v,he,rfl,hE⟩
 exact ⟨_,he,Q8 ack agJ aiG (by rw [show Tryz.f3.params.toList = [25,3,3,3] by kernel_rfl];decide) rfl (by kernel_rfl) abu hW' rfl hE⟩
def wit : Array Value:=#[.agg #[.slice none 0 0,.slice none 0 0,.int .i64 0],.int .i64 0,.int .i64 0,.int .i64 0]
theorem abv (os : Os) {H : Type} (enc : TypeId × Value→H) : ∃ ds places,DataW.whole enc Tryz.prog ((x8 os).forCall (fun _ _=>0) ⟨#[],wit,[]⟩).memory Tryz.f3.params.toList Rows.flowPointsSpec.vars false wit.toList 8=some (ds,[],places):=
 ⟨[.agg [.nil,.nil,.lit (.int .i64 0)],.lit (.int .i64 0),.lit (.int .i64 0),.lit (.int .i64 0)],[],by kernel_rfl⟩
theorem YQ (os : Os) : laidMet Tryz.prog Rows.flowPointsRow.laid ((x8 os).forCall (fun _ _=>0) ⟨#[],wit,[]⟩).memory:=
 laidMet_of_run' 8 (by kernel_rfl) (by kernel_rfl)
theorem JU (os : Os) (started : os.Started) (H : Type) (enc : TypeId × Value→H) (F : Stop.Interp) :
  ReturnsInHanded {} Tryz.checked os 3 .any ((OpenSpec.ofChange Rows.flowPointsSpec).preRow enc Tryz.prog Tryz.f3 Rows.flowPointsRow.domain false Rows.flowPointsRow.laid) (((OpenSpec.ofChange Rows.flowPointsSpec).at F).post enc Tryz.prog Tryz.f3 false true false false):=by
 obtain ⟨ds,places,hx⟩:=abv os enc
 refine returnsInHanded_of_row (C:=Tryz.checked) (s:=OpenSpec.ofChange Rows.flowPointsSpec) own started (by kernel_rfl) Tryz.func3
  (witness_row_at (enc:=enc) (C:=Tryz.checked) false (x8 os) wit rfl (by kernel_rfl) (by kernel_rfl) (by kernel_rfl)
   (OpenSpec.preRow_of_cond 8 hx (by kernel_rfl) (fun k hk=>by cases hk) (by kernel_rfl) (YQ os))) ?_
 intro W base args ds gs before hval hW _ _ _ hL _ _
 exact YP H enc W base args ds gs before hval hW
theorem said : Rows.FlowPointsSaid:=
 OpenClaim.holds_of_cond 3 Tryz.f3 rfl rfl rfl rfl rfl rfl rfl ⟨rfl,rfl,rfl,rfl,rfl⟩ rfl rfl rfl rfl rfl (by kernel_rfl) Tryz.func3 (by kernel_rfl)
  (of_decide_eq_true (by kernel_rfl)) (by unfold Func.isWrapper;first|(rw [if_pos (by decide +kernel)];kernel_rfl)|(rw [if_neg (by decide +kernel)];exact ⟨rfl,rfl⟩))
  (fun os started H enc _ F=>by rw [OpenClaim.pre_eq_preRow];exact JU os started H enc F)
end Go.Proofs.YtmkfelgocedohaaGreat.flowPoints
end
section
namespace Go.Sh
section
variable {P : Program} {t : TypeId} {c : Bool} {a b a' b' : Int} {i j : IntKind}
def ae9 (P : Program) (t : TypeId) : Bool:=
 !P.eqGuardType P.depth t&&(match P.underlying t with
 |some (.array n e)=>Nat.beq n 2&&(P.info? e).isSome&&Nat.beq (P.cellsOf e) 1&&(match P.underlying e with|some (.int _)=>true|_=>false)
 |_=>false)
class aki (P : Program) (t : TypeId) : Prop where
 h : ae9 P t=true
theorem aiH (h : ae9 P t=true) (w : World) : (Op.equalIn 10000 t (.agg #[.int i a,.int j b]) (.agg #[.int i a',.int j b'])).run P w = .ok (decide (a=a')&&decide (b=b')) w:=by
 unfold ae9 at h
 simp only [Bool.and_eq_true,Bool.not_eq_true'] at h
 obtain ⟨h1,h3⟩:=h
 cases hu : P.underlying t with
 |none=>rw [hu] at h3;cases h3
 |some d=>
  rw [hu] at h3
  cases d<;>first|(cases h3;done)|skip
  rename_i n e
  simp only [Bool.and_eq_true] at h3
  obtain ⟨⟨⟨n2,hi⟩,hc⟩,he⟩:=h3
  have n2:=Nat.eq_of_beq_eq_true n2
  have hc:=Nat.eq_of_beq_eq_true hc
  subst n2
  obtain ⟨inf,hi⟩:=Option.isSome_iff_exists.1 hi
  have s1 : ∃ k,P.underlying e=some (.int k):=by
   revert he;cases P.underlying e with
   |none=>intro h;cases h
   |some d=>cases d<;>first|(intro h;cases h;done)|(intro _;exact ⟨_,rfl⟩)
  obtain ⟨k1,s1⟩:=s1
  rw [run_equalIn_array w 9999 _ _ hu hi,hc,show List.range 2 = [0,1] from rfl]
  simp only [Op.eqItems,Sem.run_bind]
  rw [XX s1 (x:=.int i a) rfl,Result.andThen_ok,XX s1 (x:=.int i a') rfl,Result.andThen_ok,run_equalIn_int w 9998 _ i k1 _ _ s1,Result.andThen_ok]
  by_cases ha : a=a'
  ·subst ha
   simp only [beq_self_eq_true,Bool.not_true,Bool.false_eq_true,if_false,Sem.run_bind,decide_true,Bool.true_and]
   rw [XX s1 (x:=.int j b) rfl,Result.andThen_ok,XX s1 (x:=.int j b') rfl,Result.andThen_ok,run_equalIn_int w 9998 _ j k1 _ _ s1,Result.andThen_ok]
   by_cases hb : b=b'
   ·subst hb;simp [pure]
   ·simp [hb,pure]
  ·simp [ha,pure]
theorem ahL (h : ae9 P t=true) : P.eqGuardType P.depth t=false:=by
 unfold ae9 at h
 simp only [Bool.and_eq_true,Bool.not_eq_true'] at h
 exact h.1
instance [h : aki P t] : PStep P (yp .neq t c (.agg #[.int i a,.int j b]) (.agg #[.int i a',.int j b'])) (.bool (!(decide (a=a')&&decide (b=b')))):=.of fun _ k=>yO (fun w=>by
 rw [ad7 (ahL h.h),run_neq_struct,aiH h.h];rfl) k
end
end Go.Sh
end
section
namespace Go.Proofs
open Go.Sh
set_option maxRecDepth 100000
set_option linter.unusedSimpArgs false
set_option linter.unusedVariables false
instance : aki Tryz.prog 52:=⟨by kernel_rfl⟩
theorem af5 {r : Gh} {p : Option Addr} {m cap : Nat} {l : List (Int × Int)} (h : SlG 2 r X2 (.slice p m cap) l) {i : Nat} (hi : i<l.length) :
  ∃ b off,p=some ⟨b,off,none⟩∧m=l.length∧∀ j v,[Value.int .i64 l[i].1,.int .i64 l[i].2][j]? = some v→Ob r fun w=>w.cell? ⟨b,off+i*2+j,none⟩=some v:=by
 obtain ⟨b,off,c,hp,hc,hcc,hcell⟩:=h.get (by decide) hi
 obtain rfl : c=_:=hcc
 exact ⟨b,off,hp,h.len,hcell⟩
theorem ajB {n : zg} (h : ab3 n) (q : Int) : (nxt n q).length≤2:=by
 rw [nxt,List.getD_eq_getElem?_getD]
 cases hq : n[q.toNat]? with
 |none=>exact Nat.zero_le _
 |some l=>exact h l (List.mem_of_getElem? hq)
theorem af6 {n : zg} (h : ab3 n) : ∀ {o : List Int},(ab8 n o).length≤2*o.length
 |[]=>Nat.le_refl _
 |q::o=>by
  rw [ab8,List.flatMap_cons,List.length_append,List.length_map,List.length_cons]
  have h1:=ajB h q
  have h2 : (o.flatMap fun q=>(nxt n q).map fun p=>(q,p)).length≤2*o.length:=af6 h (o:=o)
  omega
theorem aiI {n : zg} (hF : vZ n) {o : List Int} {b : List (Int × Int)} (h : abk n o b) : b.length≤2048:=by
 have h1:=agB hF.nd h
 have h2:=List.length_filter_le (fun e=>decide (e ∈ b)) (ab8 n o)
 have h3:=af6 hF.nar (o:=o)
 have h4:=aap h.nodup fun x hx=>((h.mem x).1 hx).1
 have:=hF.few
 omega
set_option maxHeartbeats 4000000 in
theorem Vm {u : UnD} {n : Int} {v : Value} {w : World} {r : Gh} {K : Value→World→Prop} (hr : Holds r w) (hu : UnG r v u)
  (h : ∀ w',Ext w w'→K (.bool true) w') : zd Tryz.prog Tryz.ZY #[v,.int .i64 n] w K:=by
 refine Tryz.JM ?_
 unfold Tryz.Z5
 have hu0:=hu
 obtain ⟨p0,cap0,vf,rfl,_,_,hst,hsl,hfn⟩:=hu
 obtain ⟨qf,capf,rfl,_,_⟩:=hfn.sl.shape
 have hfl : u.fs.length≤9223372036854775807:=hfn.few
 have S:=St.start hr
 refine S.box fun b4 w1 S=>?_
 have S : StX noX w r w1 [.cell b4 [.slice p0 u.ss.length cap0,.slice qf u.fs.length capf,.int .i64 u.mn] 25]:=S
 refine S.ldB (b:=b4) ?_ rfl
 refine YO S.holds hu0 fun x w2 e2=>?_
 have S:=S.go e2
 refine gp_ ?_
 refine c_b (fun _=>yl fun w3 e3=>h _ (S.go e3).ext) (fun _=>?_)
 refine S.ldB (b:=b4) ?_ rfl
 refine JG S.holds hu0 fun v5 s5 w5 o5 b5 e5 n5 hk5 hz5 h5=>?_
 obtain ⟨S,_,_⟩:=S.tell e5 n5
 refine gS_ ?_
 refine S.ldB (b:=b4) ?_ rfl
 refine VG S.holds hu0.up fun v6 s6 w6 o6 b6 e6 n6 hk6 hz6 h6=>?_
 obtain ⟨S,_,_⟩:=S.tell e6 n6
 refine gS_ ?_
 refine S.ldB (b:=b4) ?_ rfl
 refine JH S.holds hu0.up fun v7 s7 w7 e7 n7 h7=>?_
 obtain ⟨S,_,_⟩:=S.tell e7 n7
 refine gS_ ?_
 refine S.ldB (b:=b4) ?_ rfl
 refine qW S.holds hu0.up fun w8 e8=>?_
 have S:=S.go e8
 rw [af3]
 refine gp_ ?_
 refine c_b (fun hb=>?_) (fun hb=>?_)
 ·have hne : fnE u n≠0:=by simpa using hb
  obtain ⟨rfl,rfl⟩:=hz5 hne
  obtain ⟨rfl,rfl⟩:=hz6 hne
  rw [if_neg hne] at h7
  rw [afY hne]
  obtain ⟨q5,c5,rfl,_,_⟩:=h5.shape
  obtain ⟨q6,c6,rfl,_,_⟩:=h6.shape
  obtain ⟨q7,c7,rfl,_,_⟩:=h7.shape
  simp only [List.length_nil]
  refine gg_ ?_
  refine zf (c:=true) (fun _ K2 hK2=>by refine gg_ ?_;exact hK2) ?_
  refine zf (c:=true) (fun _ K2 hK2=>by refine gg_ ?_;exact hK2) ?_
  refine zf (c:=true) (fun _ K2 hK2=>by refine gg_ ?_;exact hK2) ?_
  refine zq (c:=true) (fun _ K2 hK2=>yl fun w8 e8=>hK2 _ e8) fun w8 e8=>?_
  have:=h _ (S.go e8).ext
  simpa using this
 have hE0 : fnE u n=0:=by simpa using hb
 obtain ⟨st5,hm5,rfl,rfl⟩:=hk5 hE0
 obtain ⟨st6,hm6,rfl,rfl⟩:=hk6 hE0
 obtain rfl:=hm5.one hm6
 rw [if_pos hE0] at h7
 rw [hE0]
 obtain ⟨bf,of,g,x1,x2,x3,x4,y1,y2,y3,y4,rfl,hgi,hnu,hF,hn0,hn1,hg,hfo⟩:=Qi hfn hE0
 have hfew:=hF.few
 rw [hnu] at h7 hm5
 have hw:=aeN hF.ok hF.nd hF.pos hm5
 have hbf:=aiI hF hw
 have hof : st5.out.reverse.length≤1000000:=by have:=aap hw.nodup fun x hx=>((hw.mem x).1 hx).1;omega
 refine gg_ ?_
 refine zt (n:=7) rfl (fun j v hj=>S.at (hfo j v hj)) ?_
 refine S.al fun b11 w9 S=>?_
 refine S.stB (b:=b11) fun w10 S=>?_
 have S : StX noX w (((r.or s5).or s6).or s7) w10 [.cell b11 (grL g x1 x2 x3 x4 y1 y2 y3 y4) 38,.cell b4 [.slice p0 u.ss.length cap0,.slice (some ⟨bf,of,none⟩) u.fs.length capf,.int .i64 u.mn] 25]:=S
 refine S.ldB (b:=b11) ?_ rfl
 refine agG S.holds (hg.up (s:=((r.or s5).or s6).or s7)) hF fun vo vb s11 w11 st e11 n11 hm ho hb'=>?_
 obtain rfl:=hm5.one hm
 obtain ⟨S,_,_⟩:=S.tell e11 n11
 refine gS_ ?_
 refine zk (c:=false) (fun _ K2 hK2=>by refine gg_ ?_;exact hK2) ?_
 refine zk (c:=false) (fun _ K2 hK2=>by refine gg_ ?_;exact hK2) ?_
 refine xH (c:=false) (fun w'=>StX noX w ((((r.or s5).or s6).or s7).or s11) w' _) (fun _=>S) (fun hb K2 hK2=>?_) fun w12 S=>?_
 ·refine xI S.holds h5.cells ho.cells hof fun w13 e13=>?_
  rw [decide_eq_true rfl]
  refine gp_ ?_
  exact hK2 _ (S.go e13)
 refine xH (c:=false) (fun w'=>StX noX w ((((r.or s5).or s6).or s7).or s11) w' _) (fun _=>S) (fun hb K2 hK2=>?_) fun w12 S=>?_
 ·refine S.ldB (b:=b11) ?_ rfl
  refine afy S.holds (hg.up (s:=(((r.or s5).or s6).or s7).or s11)) hF fun v14 s14 w14 e14 n14 h14=>?_
  obtain ⟨S,_,_⟩:=S.tell e14 n14
  refine xI S.holds h7.cells h14.cells (by simp;omega) fun w13 e13=>?_
  rw [decide_eq_true rfl]
  refine gp_ ?_
  exact hK2 _ ((S.go e13).to _)
 obtain ⟨q6,c6,rfl,_,_⟩:=h6.shape
 obtain ⟨q7,c7,rfl,_,_⟩:=hb'.shape
 refine zk (c:=false) (fun _ K2 hK2=>?_) ?_
 ·refine gg_ ?_
  have:=hK2
  simpa using this
 refine c_f (by simp) ?_
 generalize st5.back=bk at h6 hb' hbf
 have h6:=h6.cells (s:=(((r.or s5).or s6).or s7).or s11)
 have hb':=hb'.cells (s:=(((r.or s5).or s6).or s7).or s11)
 generalize (((r.or s5).or s6).or s7).or s11=r2 at S h6 hb'
 refine zh (ι:=Nat) (fun i=>[.int .i64 (i : Nat)]) (fun i w'=>i≤bk.length∧StX noX w r2 w' _) (fun i=>bk.length - i) 0 rfl ⟨Nat.zero_le _,S⟩ ?_
 repeat clear S
 rintro i d w15 ⟨hi,S⟩ K15 hK15
 rw [List.getD_cons_zero]
 refine gg_ ?_
 refine zj (fun hlt=>?_) (fun hge=>yl fun w16 e16=>h _ (S.go e16).ext)
 have hlt : i<bk.length:=by omega
 have S:=S.go (Ext.drew _)
 obtain ⟨ba,oa,rfl,_,ga⟩:=af5 h6 hlt
 obtain ⟨bb,ob,rfl,_,gb⟩:=af5 hb' hlt
 refine gg_ ?_
 refine zt (n:=2) rfl (fun j v hj=>by rw [Int.toNat_natCast];exact S.at (ga j v hj)) ?_
 refine gg_ ?_
 refine zt (n:=2) rfl (fun j v hj=>by rw [Int.toNat_natCast];exact S.at (gb j v hj)) ?_
 refine gg_ ?_
 refine c_f (by simp) ?_
 refine gg_ ?_
 exact hK15 (i+1) _ ⟨hlt,S⟩ (by omega)
end Go.Proofs
end
section
namespace Go.Proofs.YtmkfelgocedohaaGreat.flowWhole
open Go.Sh Go.ChangeShapes Go.WideShapes Go.ChangeAt Go.RowKit openG
set_option maxRecDepth 100000
set_option linter.unusedVariables false
theorem YP (H : Type) (enc : TypeId × Value→H) (W : World) (base : Nat) (args : Array Value) (ds gs : List (DataW H)) (before : List MemPlace)
  (hval : ∀ (j : Nat) t v,Tryz.f4.params[j]? = some t→args[j]? = some v→Value.okWide Tryz.prog W .any base t v)
  (hW : DataW.Whole enc Tryz.prog Tryz.f4.params.toList Rows.flowWholeSpec.vars false W args.toList ds gs before) :
  Calls Tryz.prog 4 args W fun e W'=>∃ v,e = .returned v∧Rows.flowWholeSpec.post enc Tryz.prog Tryz.f4 false true false false W args v W':=by
 have hW':=hW
 obtain ⟨p,q,hA,hV,rfl,hfz,hnd⟩:=hW
 rw [show Tryz.f4.params.toList = [25,3] by kernel_rfl] at hA
 obtain ⟨v0,vs0,d0,ds0,p0,q100,hargs,rfl,rfl,h0,r0⟩:=trodAll_cons hA
 obtain ⟨v1,vs1,d1,ds1,p1,q101,rfl,rfl,rfl,h1,r1⟩:=trodAll_cons r0
 obtain ⟨rfl,rfl,rfl⟩:=trodAll_nil r1
 obtain rfl : args=#[v0,v1]:=by cases args;simp_all
 obtain ⟨rfl,rfl⟩:=trodVars_none hV
 obtain ⟨u0,hu0⟩:=acl (hval 0 25 v0 (by kernel_rfl) rfl) h0
 obtain ⟨n1,rfl,hi1⟩:=jF (hval 1 3 v1 (by kernel_rfl) rfl) h1
 refine Calls.mono (Vm (K:=fun v W'=>v = .bool true∧Ext W W') (YW W) hu0 fun w' e=>⟨rfl,e⟩) ?_
 rintro e W' ⟨v,he,rfl,hE⟩
 exact ⟨_,he,Q8 ack agJ aiG (by rw [show Tryz.f4.params.toList = [25,3] by kernel_rfl];decide) rfl (by kernel_rfl) abu hW' rfl hE⟩
def wit : Array Value:=#[.agg #[.slice none 0 0,.slice none 0 0,.int .i64 0],.int .i64 0]
theorem abv (os : Os) {H : Type} (enc : TypeId × Value→H) : ∃ ds places,DataW.whole enc Tryz.prog ((x8 os).forCall (fun _ _=>0) ⟨#[],wit,[]⟩).memory Tryz.f4.params.toList Rows.flowWholeSpec.vars false wit.toList 8=some (ds,[],places):=
 ⟨[.agg [.nil,.nil,.lit (.int .i64 0)],.lit (.int .i64 0)],[],by kernel_rfl⟩
theorem YQ (os : Os) : laidMet Tryz.prog Rows.flowWholeRow.laid ((x8 os).forCall (fun _ _=>0) ⟨#[],wit,[]⟩).memory:=
 laidMet_of_run' 8 (by kernel_rfl) (by kernel_rfl)
theorem JU (os : Os) (started : os.Started) (H : Type) (enc : TypeId × Value→H) (F : Stop.Interp) :
  ReturnsInHanded {} Tryz.checked os 4 .any ((OpenSpec.ofChange Rows.flowWholeSpec).preRow enc Tryz.prog Tryz.f4 Rows.flowWholeRow.domain false Rows.flowWholeRow.laid) (((OpenSpec.ofChange Rows.flowWholeSpec).at F).post enc Tryz.prog Tryz.f4 false true false false):=by
 obtain ⟨ds,places,hx⟩:=abv os enc
 refine returnsInHanded_of_row (C:=Tryz.checked) (s:=OpenSpec.ofChange Rows.flowWholeSpec) own started (by kernel_rfl) Tryz.func4
  (witness_row_at (enc:=enc) (C:=Tryz.checked) false (x8 os) wit rfl (by kernel_rfl) (by kernel_rfl) (by kernel_rfl)
   (OpenSpec.preRow_of_cond 8 hx (by kernel_rfl) (fun k hk=>by cases hk) (by kernel_rfl) (YQ os))) ?_
 intro W base args ds gs before hval hW _ _ _ hL _ _
 exact YP H enc W base args ds gs before hval hW
theorem said : Rows.FlowWholeSaid:=
 OpenClaim.holds_of_cond 4 Tryz.f4 rfl rfl rfl rfl rfl rfl rfl ⟨rfl,rfl,rfl,rfl,rfl⟩ rfl rfl rfl rfl rfl (by kernel_rfl) Tryz.func4 (by kernel_rfl)
  (of_decide_eq_true (by kernel_rfl)) (by unfold Func.isWrapper;first|(rw [if_pos (by decide +kernel)];kernel_rfl)|(rw [if_neg (by decide +kernel)];exact ⟨rfl,rfl⟩))
  (fun os started H enc _ F=>by rw [OpenClaim.pre_eq_preRow];exact JU os started H enc F)
end Go.Proofs.YtmkfelgocedohaaGreat.flowWhole
end
section
namespace Go.Proofs
open Go.Sh Go.RowKit
set_option maxRecDepth 100000
set_option linter.unusedSimpArgs false
set_option linter.unusedVariables false
def FarB (n : zg) (far : List Int) : Prop:=∀ x,isN n x→faA far x+(far.countP (fun v=>decide (v<0)) : Nat)≤n.length
theorem FarB.start {n : zg} {t : Int} (ht : isN n t) : FarB n ((List.replicate n.length (-1 : Int)).set t.toNat 0):=fun x hx=>by
 have t0:=ht.1;have t1:=ht.2
 rw [J5 t0 (by rw [List.length_replicate];exact t1) hx.1]
 have h1:=List.countP_le_length (p:=fun v : Int=>decide (v<0)) (l:=(List.replicate n.length (-1 : Int)).set t.toNat 0)
 rw [List.length_set,List.length_replicate] at h1
 have h2 : faA (List.replicate n.length (-1)) x≤0:=by
  rw [faA,List.getD_eq_getElem?_getD,List.getElem?_replicate];split<;>decide
 split<;>omega
theorem FarB.put {n : zg} {W : List Int} {s y x : Int} {far todo : List Int} (h : FarB n far) (hl : far.length=n.length) (hy : isN n y) (hy0 : 0≤faA far y) (hx : isN n x) : FarB n (xN W s y (far,todo) x).1:=by
 rw [xN]
 split
 ·rename_i hc
  have x0:=hx.1;have x1:=hx.2
  have e : faA far x=far[x.toNat]'(by omega):=by rw [faA,List.getD_eq_getElem?_getD,List.getElem?_eq_getElem (by omega)];rfl
  have hk:=ab6 (far:=far) (k:=x.toNat) (v:=faA far y+1) (by omega) (by rw [← e];exact hc.1) (by omega)
  intro z hz
  dsimp only
  rw [J5 x0 (by omega) hz.1]
  have h1:=h y hy
  have h2:=h z hz
  split<;>omega
 ·exact h
theorem ZD {far : List Int} {x : Int} (h : x.toNat<far.length) : (ints far)[0+x.toNat]? = some (.int .i64 (faA far x)):=by
 rw [Nat.zero_add,ints,List.getElem?_map,faA,List.getD_eq_getElem?_getD,List.getElem?_eq_getElem h];rfl
theorem ahM {far : List Int} {s a : Int} {l : List Int} {b x : Int} : bestF far s a (l ++ [x]) b=if faA far x=faA far a - 1∧x≠s∧(bestF far s a l b<0∨x<bestF far s a l b) then x else bestF far s a l b:=by
 rw [bestF,List.foldl_append];rfl
set_option maxHeartbeats 4000000 in
theorem ahN {g : GrD} {s t : Int} {W : List Int} {c : List Value} {vW : Value} {w : World} {r : Gh} {K : Value→World→Prop} (hr : Holds r w) (hg : GrG r c g) (hF : vZ (netG g)) (hs : isN (netG g) s) (ht : isN (netG g) t) (hW : SlG 1 r zu vW W) (hWN : ∀ x ∈ W,isN (netG g) x) (hWf : W.length≤1000000)
  (h : ∀ v' s' w',Ext w w'→New w s' w'→SlG 1 s' zu v' ((jD (netG g) s t W).getD [])→K (.tuple #[v',.bool (jD (netG g) s t W).isSome]) w') : zd Tryz.prog Tryz.Xp #[.agg c.toArray,.int .i64 s,.int .i64 t,vW] w K:=by
 refine Tryz.aeV ?_
 unfold Tryz.VI
 have hg0:=hg
 obtain ⟨x1,x2,x3,x4,y1,y2,y3,y4,rfl,hg1⟩:=xC hg
 obtain ⟨pW,cW,rfl,_,_⟩:=hW.shape
 have hfew:=hF.few
 have hpos:=hF.pos
 have hgl:=yj (g:=g)
 have s0:=hs.1;have s1:=hs.2;have t0:=ht.1;have t1:=ht.2
 have S:=St.start hr
 refine S.box fun b4 w1 S=>?_
 have S : StX noX w r w1 [.cell b4 (grL g x1 x2 x3 x4 y1 y2 y3 y4) 38]:=S
 refine gg_ ?_
 refine S.mkS (by omega) (by omega) fun b26 w2 S=>?_
 rw [Int.toNat_natCast] at S ⊢
 rw [← hgl] at S ⊢
 rw [kv] at S
 refine zh (ι:=Nat × List Bool) (fun i=>[.int .i64 (i.1 : Nat)]) (fun i w'=>i.1≤W.length∧i.2.length=(netG g).length∧(∀ x,isN (netG g) x→(mk' i.2 x=true↔x ∈ W.take i.1))∧StX noX w r w' [.cell b26 (bls i.2) 4,.cell b4 (grL g x1 x2 x3 x4 y1 y2 y3 y4) 38]) (fun i=>W.length - i.1) (0,List.replicate (netG g).length false) rfl ⟨Nat.zero_le _,List.length_replicate,fun x hx=>by rw [abs];simp,S⟩ ?_
 repeat clear S
 rintro ⟨i,m⟩ d w3 ⟨hi,hml,hm,S⟩ K3 hK3
 simp only at hi hml hm S ⊢
 rw [List.getD_cons_zero]
 refine gg_ ?_
 refine zj (fun hlt=>?_) (fun hge=>?_)
 ·have hlt : i<W.length:=by omega
  obtain ⟨bn,on,hpe,_,hcn⟩:=zE hW hlt
  cases hpe
  have hpN:=hWN _ (List.getElem_mem hlt)
  have htk : W.take (i+1)=W.take i ++ [W[i]]:=List.take_succ_eq_append_getElem hlt
  generalize W[i]=p at hcn hpN htk
  have p0:=hpN.1;have p1:=hpN.2
  refine gg_ ?_
  refine zi (by rw [Int.toNat_natCast];exact S.at hcn) ?_
  refine gg_ ?_
  refine S.st (b:=b26) (fun w4 S=>?_) (by rw [yI];omega)
  refine gg_ ?_
  refine hK3 (i+1,zy m p) _ ⟨hlt,by rw [zG];exact hml,fun x hx=>?_,?_⟩ (by show W.length - (i+1)<W.length - i;omega)
  ·rw [xt p0 (by rw [hml];exact p1) hx.1,Bool.or_eq_true,decide_eq_true_eq,hm x hx,htk,List.mem_append,List.mem_singleton]
   exact or_comm
  ·rw [y7 p0] at *;exact S
 have hie : i=W.length:=by omega
 clear hK3
 subst hie
 rw [List.take_length] at hm
 refine gg_ ?_
 refine zj (fun heq=>?_) (fun hne=>?_)
 ·subst heq
  rw [aht] at h
  refine S.lit (e:=3) (cs:=[.int .i64 s]) (by kernel_rfl) fun b43 w4 S=>?_
  have S : StX noX w r w4 [.cell b43 (ints [s]) 3,.cell b26 (bls m) 4,.cell b4 (grL g x1 x2 x3 x4 y1 y2 y3 y4) 38]:=S
  obtain ⟨S,hs1,ha⟩:=S.litNew b43 (sz:=1) (R:=zu) (l:=[s]) zS (by decide)
  exact h _ _ _ S.ext (StX.newOf S ha) hs1.cells
 refine gg_ ?_
 refine S.mkS (by omega) (by omega) fun b47 w4 S=>?_
 rw [Int.toNat_natCast] at S ⊢
 rw [← hgl] at S ⊢
 generalize hnn : netG g=nn at *
 have e0 : List.replicate nn.length (Value.int .i64 0)=ints (List.replicate nn.length 0):=by simp [ints]
 rw [e0] at S
 refine zh (ι:=Nat) (fun i=>[.int .i64 (i : Nat)]) (fun i w'=>i≤nn.length∧StX noX w r w' [.cell b47 (ints (List.replicate i (-1)++List.replicate (nn.length - i) 0)) 3,.cell b26 (bls m) 4,.cell b4 (grL g x1 x2 x3 x4 y1 y2 y3 y4) 38]) (fun i=>nn.length - i) 0 rfl ⟨Nat.zero_le _,by simpa using S⟩ ?_
 repeat clear S
 clear e0
 rintro i d w5 ⟨hi,S⟩ K5 hK5
 rw [List.getD_cons_zero]
 refine gg_ ?_
 refine zj (fun hlt=>?_) (fun hge=>?_)
 ·have hlt : i<nn.length:=by omega
  refine gg_ ?_
  rw [show nn.length - i=(nn.length - (i+1))+1 by omega,List.replicate_succ] at S
  refine S.st (b:=b47) (fun w6 S=>?_) (by rw [zI,List.length_append,List.length_replicate,List.length_cons];omega)
  rw [Int.toNat_natCast,J9 (List.length_replicate)] at S
  refine gg_ ?_
  refine hK5 (i+1) _ ⟨hlt,?_⟩ (by omega)
  have e : List.replicate (i+1) (-1 : Int)++List.replicate (nn.length - (i+1)) 0=List.replicate i (-1)++(-1)::List.replicate (nn.length - (i+1)) 0:=by
   rw [List.replicate_succ',List.append_assoc];rfl
  rw [e]
  exact S
 have hie : i=nn.length:=by omega
 clear hK5
 subst hie
 rw [Nat.sub_self,List.replicate_zero,List.append_nil] at S
 refine gg_ ?_
 refine S.st (b:=b47) (fun w6 S=>?_) (by rw [zI,List.length_replicate];omega)
 rw [ZB t0] at S
 refine S.lit (e:=3) (cs:=[.int .i64 t]) (by kernel_rfl) fun b61 w7 S=>?_
 have S:=S.toRow 1 1 rfl (by decide)
 have hB:=Bk.start (n:=nn) (W:=W) (s:=s) ht (fun e=>hne e.symm)
 have S : StX noX w r w7 [.row (.slice (some ⟨b61,0,none⟩) 1 1) 3 1 1 (ints [t]),.cell b47 (ints ((List.replicate nn.length (-1)).set t.toNat 0)) 3,.cell b26 (bls m) 4,.cell b4 (grL g x1 x2 x3 x4 y1 y2 y3 y4) 38]:=S
 have hC0 : ((List.replicate nn.length (-1 : Int)).set t.toNat 0).countP (fun v=>decide (v<0)) + [t].length≤nn.length+1:=by
  have:=List.countP_le_length (p:=fun v : Int=>decide (v<0)) (l:=(List.replicate nn.length (-1 : Int)).set t.toNat 0)
  rw [List.length_set,List.length_replicate] at this
  simp only [List.length_singleton];omega
 have hD0 : FarB nn ((List.replicate nn.length (-1 : Int)).set t.toNat 0):=FarB.start ht
 refine zh (ι:=Value × Nat × List Int × List Int × Int) (fun i=>[i.1,.int .i64 (i.2.1 : Nat)]) (fun i w'=>i.2.1≤i.2.2.2.1.length∧Bk nn W s t i.2.2.1 i.2.2.2.1 i.2.2.2.2 (fun y x=>y ∈ i.2.2.2.1.take i.2.1∧isN nn x∧y ∈ nxt nn x)∧(∀ y ∈ i.2.2.2.1.drop i.2.1,i.2.2.2.2≤faA i.2.2.1 y)∧i.2.2.1.countP (fun v=>decide (v<0))+i.2.2.2.1.length≤nn.length+1∧FarB nn i.2.2.1∧
   StX noX w r w' [.row i.1 3 1 i.2.2.2.1.length (ints i.2.2.2.1),.cell b47 (ints i.2.2.1) 3,.cell b26 (bls m) 4,.cell b4 (grL g x1 x2 x3 x4 y1 y2 y3 y4) 38])
  (fun i=>nn.length+1 - i.2.1) (.slice (some ⟨b61,0,none⟩) 1 1,0,(List.replicate nn.length (-1)).set t.toNat 0,[t],0) rfl ⟨Nat.zero_le _,hB.less fun y x k=>by simp at k,fun y hy=>by obtain rfl:=List.mem_singleton.1 hy;exact Int.le_of_eq hB.tt.2.symm,hC0,hD0,S⟩ ?_
 repeat clear S
 clear hB hC0 hD0
 rintro ⟨vt,i,far,todo,lv⟩ d w8 ⟨hi,hB,hlv,hC,hD,S⟩ K7 hK7
 simp only at hi hB hlv hC hD S ⊢
 simp only [List.getD_cons_zero,List.getD_cons_succ]
 obtain ⟨pt,capt,rfl,_,_,_,hst⟩:=S.rowS vt
 refine gg_ ?_
 refine zj (fun hlt=>?_) (fun hge=>?_)
 ·have hlt : i<todo.length:=by omega
  obtain ⟨bt,ot,rfl,hct⟩:=hst.at (i:=i) (by rw [zI];exact hlt)
  have hvt : (ints todo)[i]'(by rw [zI];exact hlt) = .int .i64 todo[i]:=by simp [ints]
  rw [hvt] at hct
  have S:=S.go (Ext.drew w8)
  refine S.ldB (b:=b4) ?_ rfl
  refine gg_ ?_
  refine zi (by rw [Int.toNat_natCast,World.cell?_drew];exact hct) ?_
  have hyT : todo[i] ∈ todo:=List.getElem_mem hlt
  have hyN:=(hB.td _ hyT).1
  have hdr : todo.drop i=todo[i]::todo.drop (i+1):=List.drop_eq_getElem_cons hlt
  have hlv' : lv≤faA far todo[i]:=hlv _ (by rw [hdr];exact List.mem_cons_self)
  refine JL S.holds hg0.up (by rw [hnn];exact hF) fun v2 s2 w9 e9 n9 hs2=>?_
  obtain ⟨S,_,a2⟩:=S.tell e9 n9
  rw [hnn] at hs2
  obtain ⟨p2,c2,rfl,_,_⟩:=hs2.shape
  have hbl : ∀ x ∈ befN nn todo[i],isN nn x∧todo[i] ∈ nxt nn x:=fun x hx=>qY.1 hx
  have hbm : ∀ x,isN nn x→todo[i] ∈ nxt nn x→x ∈ befN nn todo[i]:=fun x h1 h2=>qY.2 ⟨h1,h2⟩
  have hbn : (befN nn todo[i]).length≤nn.length:=by
   rw [befN,List.length_map];exact Nat.le_trans (List.length_filter_le _ _) (by simp)
  generalize befN nn todo[i]=l at hs2 hbl hbm hbn
  have hyd : ∀ {todo' : List Int},todo <+: todo'→todo'[i]? = some todo[i]:=fun h=>by
   obtain ⟨e,rfl⟩:=h
   rw [List.getElem?_append_left hlt,List.getElem?_eq_getElem hlt]
  have hB:=hB.next hlv'
  generalize hy : todo[i]=y at *
  have y0:=hyN.1;have y1':=hyN.2
  refine zh (ι:=Value × Nat × List Int × List Int) (fun i=>[i.1,.int .i64 (i.2.1 : Nat)]) (fun k w'=>k.2.1≤l.length∧Bk nn W s t k.2.2.1 k.2.2.2 (faA far y) (fun y' x=>(y' ∈ todo.take i∧isN nn x∧y' ∈ nxt nn x)∨(y'=y∧x ∈ l.take k.2.1))∧faA k.2.2.1 y=faA far y∧todo <+: k.2.2.2∧k.2.2.1.countP (fun v=>decide (v<0))+k.2.2.2.length≤nn.length+1∧FarB nn k.2.2.1∧
    StX noX w (r.or s2) w' [.row k.1 3 1 k.2.2.2.length (ints k.2.2.2),.cell b47 (ints k.2.2.1) 3,.cell b26 (bls m) 4,.cell b4 (grL g x1 x2 x3 x4 y1 y2 y3 y4) 38]) (fun k=>l.length - k.2.1) (.slice (some ⟨bt,ot,none⟩) todo.length capt,0,far,todo) rfl ⟨Nat.zero_le _,hB.less (fun y' x k=>k.elim id fun k=>by simp at k),rfl,List.prefix_refl _,hC,hD,S⟩ ?_
  repeat clear S
  rintro ⟨vt,k,far',todo'⟩ d w10 ⟨hk,hB',hfy,hpre,hC',hD',S⟩ K22 hK22
  simp only at hk hB' hfy hpre hC' hD' S ⊢
  simp only [List.getD_cons_zero,List.getD_cons_succ]
  obtain ⟨pt',capt',rfl,_,_,_,hst'⟩:=S.rowS vt
  refine gg_ ?_
  refine zj (fun hltk=>?_) (fun hgek=>?_)
  ·have hltk : k<l.length:=by omega
   obtain ⟨bn,on,hpe,_,hcn⟩:=zE hs2 hltk
   cases hpe
   have htk : l.take (k+1)=l.take k ++ [l[k]]:=List.take_succ_eq_append_getElem hltk
   have hx:=hbl _ (List.getElem_mem hltk)
   generalize l[k]=x at hcn htk hx
   have x0:=hx.1.1;have x1':=hx.1.2
   have hfl:=hB'.len
   have hput:=hB'.put (x:=x) (y:=y) (hpre.subset hyT) hfy hx.1 hx.2
   refine zp (fun z w'=>∃ vt',z = [vt']∧StX noX w (r.or s2) w' [.row vt' 3 1 (xN W s y (far',todo') x).2.length (ints (xN W s y (far',todo') x).2),.cell b47 (ints (xN W s y (far',todo') x).1) 3,.cell b26 (bls m) 4,.cell b4 (grL g x1 x2 x3 x4 y1 y2 y3 y4) 38]) (fun K26 hK26=>?_) ?_
   ·refine gg_ ?_
    refine zi (by rw [Int.toNat_natCast];exact S.at hcn) ?_
    refine gp_ ?_
    refine S.ld (b:=b47) ?_ (ZD (by omega))
    refine gg_ ?_
    refine ab9 (m:=!mk' m x) (x:=decide (x=s)) (fun K2 hK2=>?_) (fun _ K2 hK2=>?_) ?_
    ·refine gg_ ?_
     refine zi (by rw [Int.toNat_natCast];exact S.at hcn) ?_
     refine gp_ ?_
     refine S.ld (b:=b26) ?_ (aao (by omega))
     refine gg_ ?_
     exact hK2
    ·refine gg_ ?_
     refine zi (by rw [Int.toNat_natCast];exact S.at hcn) ?_
     refine gg_ ?_
     exact hK2
    refine c_b (fun hc=>?_) (fun hc=>?_)
    ·simp only [Bool.and_eq_true,Bool.or_eq_true,decide_eq_true_eq,Bool.not_eq_true'] at hc
     have hc2 : faA far' x<0∧(x ∉ W∨x=s):=⟨hc.1,hc.2.imp (fun k hw=>by rw [(hm x hx.1).2 hw] at k;cases k) id⟩
     have hbs : xN W s y (far',todo') x=(far'.set x.toNat (faA far' y+1),if x=s then todo' else todo' ++ [x]):=by rw [xN];exact if_pos hc2
     rw [hbs] at hK26
     dsimp only at hK26
     have hlt' : i<todo'.length:=Nat.lt_of_lt_of_le hlt hpre.length_le
     obtain ⟨bt',ot',rfl,hct'⟩:=hst'.at (i:=i) (by rw [zI];exact hlt')
     have hyt : todo'[i]=y:=by have:=hyd hpre;rw [List.getElem?_eq_getElem hlt'] at this;exact Option.some.inj this
     have hvt' : (ints todo')[i]'(by rw [zI];exact hlt') = .int .i64 y:=by simp [ints,hyt]
     rw [hvt'] at hct'
     have hb1:=hD' y hyN
     have hb2:=hB'.val y hyN
     have S:=S.go (Ext.drew w10)
     refine gg_ ?_
     refine zi (by rw [Int.toNat_natCast];exact S.at hcn) ?_
     refine gg_ ?_
     refine zi (by rw [Int.toNat_natCast,World.cell?_drew];exact hct') ?_
     refine gp_ ?_
     refine S.ld (b:=b47) ?_ (ZD (by omega))
     refine gg_ ?_
     refine S.st (b:=b47) (fun w11 S=>?_) (by rw [zI];omega)
     rw [ZB x0] at S
     refine gg_ ?_
     refine zi (by rw [Int.toNat_natCast];exact S.at hcn) ?_
     refine gg_ ?_
     refine zj (fun hxs=>?_) (fun hxs=>?_)
     ·rw [if_neg hxs] at hK26
      refine gg_ ?_
      refine zi (by rw [Int.toNat_natCast];exact S.at hcn) ?_
      refine S.lit (e:=3) (cs:=[.int .i64 x]) (by kernel_rfl) fun b5 w12 S=>?_
      refine S.ap (m':=1) (Sl.blk (S.blk b5)) (fun v4 w13 S=>?_) (by omega)
      have S:=S.drop b5
      refine hK26 _ _ ⟨v4,rfl,?_⟩
      rw [yo,List.length_append];exact S
     ·rw [if_pos (by omega)] at hK26
      exact hK26 _ _ ⟨_,rfl,S⟩
    ·have hbs : xN W s y (far',todo') x=(far',todo'):=by
      rw [xN]
      refine if_neg fun k=>?_
      have : (decide (faA far' x<0)&&(!mk' m x||decide (x=s)))=true:=by
       simp only [Bool.and_eq_true,Bool.or_eq_true,decide_eq_true_eq,Bool.not_eq_true']
       exact ⟨k.1,k.2.imp (fun k=>Bool.eq_false_iff.2 fun h2=>k ((hm x hx.1).1 h2)) id⟩
      rw [this] at hc;cases hc
     rw [hbs] at hK26
     exact hK26 _ _ ⟨_,rfl,S⟩
   rintro z w11 ⟨vt',rfl,S⟩ d
   refine gg_ ?_
   have hDn:=hD'.put (W:=W) (s:=s) (todo:=todo') (x:=x) hfl hyN (hB'.td y (hpre.subset hyT)).2.2 hx.1
   obtain ⟨g1,g2,g3,g4⟩:=hput
   refine hK22 (vt',k+1,(xN W s y (far',todo') x).1,(xN W s y (far',todo') x).2) _ ⟨hltk,g1.less fun y' x' h=>?_,g2,hpre.trans g3,Nat.le_trans g4 hC',hDn,S⟩ (by show l.length - (k+1)<l.length - k;omega)
   rcases h with h|⟨rfl,h⟩
   ·exact .inl (.inl h)
   ·rw [htk,List.mem_append,List.mem_singleton] at h
    exact h.elim (fun h=>.inl (.inr ⟨rfl,h⟩)) fun h=>.inr ⟨rfl,h⟩
  have hke : k=l.length:=by omega
  subst hke
  rw [List.take_length] at hB'
  have hlt' : i<todo'.length:=Nat.lt_of_lt_of_le hlt hpre.length_le
  have hyt : todo'[i]=y:=by have:=hyd hpre;rw [List.getElem?_eq_getElem hlt'] at this;exact Option.some.inj this
  have htk2 : todo'.take (i+1)=todo.take i ++ [y]:=by
   obtain ⟨e,rfl⟩:=hpre
   rw [List.take_succ_eq_append_getElem hlt',hyt,List.take_append_of_le_length (by omega)]
  refine gg_ ?_
  refine hK7 (.slice pt' todo'.length capt',i+1,far',todo',faA far y) _ ⟨hlt',hB'.less fun y' x' h=>?_,fun z hz=>?_,hC',hD',S.to _⟩ (by show nn.length+1 - (i+1)<nn.length+1 - i;omega)
  ·rw [htk2,List.mem_append,List.mem_singleton] at h
   obtain ⟨h1|h1,h2,h3⟩:=h
   ·exact .inl ⟨h1,h2,h3⟩
   ·subst h1;exact .inr ⟨rfl,hbm _ h2 h3⟩
  ·have hsr:=hB'.srt
   rw [← List.take_append_drop (i+1) todo',htk2,List.append_assoc,List.pairwise_append] at hsr
   have:=(List.pairwise_append.1 hsr.2.1).2.2 y (List.mem_singleton.2 rfl) z hz
   rw [hfy] at this;exact this
 have hie : i=todo.length:=by omega
 clear hK7
 subst hie
 rw [List.take_length] at hB
 have hF2 : FarD nn W s t far:=hB.far fun y hy x h1 h2=>⟨hy,h1,h2⟩
 have hfl:=hB.len
 refine gg_ ?_
 refine S.ld (b:=b47) ?_ (ZD (by omega))
 refine gg_ ?_
 refine zj (fun hneg=>?_) (fun hpos'=>?_)
 ·rw [hF2.none hF.ok hs hneg] at h
  exact h _ nothing _ S.ext New.nothing SlG.nil
 have hbs:=hD s hs
 have hsn : 0≤faA far s:=by omega
 have hval:=hF2.val
 have S:=S.less (fun _ _ k=>k) (show List.Sublist [.cell b47 (ints far) 3,.cell b4 (grL g x1 x2 x3 x4 y1 y2 y3 y4) 38] _ from .cons _ (.cons_cons _ (.cons _ (List.Sublist.refl _))))
 refine S.lit (e:=3) (cs:=[.int .i64 s]) (by kernel_rfl) fun b139 w9 S=>?_
 have S:=S.toRow 1 1 rfl (by decide)
 have S : StX noX w r w9 [.row (.slice (some ⟨b139,0,none⟩) 1 1) 3 1 [s].length (ints [s]),.cell b47 (ints far) 3,.cell b4 (grL g x1 x2 x3 x4 y1 y2 y3 y4) 38]:=S
 refine zh (ι:=Value × Int × List Int) (fun i=>[i.1,.int .i64 i.2.1]) (fun i w'=>Grd nn W s t far i.2.1 i.2.2∧StX noX w r w' [.row i.1 3 1 i.2.2.length (ints i.2.2),.cell b47 (ints far) 3,.cell b4 (grL g x1 x2 x3 x4 y1 y2 y3 y4) 38]) (fun i=>(faA far i.2.1).toNat) (.slice (some ⟨b139,0,none⟩) 1 1,s,[s]) rfl ⟨Grd.start hs hsn,S⟩ ?_
 repeat clear S
 rintro ⟨vw,a,way⟩ d w10 ⟨hG,S⟩ K46 hK46
 simp only at hG S ⊢
 simp only [List.getD_cons_zero,List.getD_cons_succ]
 refine gg_ ?_
 refine zj (fun hat=>?_) (fun hat=>?_)
 ·have haN:=hG.at'.1
  have ha0:=hG.at'.2
  have hwl:=hG.len
  have a0:=haN.1;have a1:=haN.2
  have hba:=hD a haN
  refine S.ldB (b:=b4) ?_ rfl
  refine qZ S.holds hg0.up (by rw [hnn];exact haN) fun v2 s2 w11 e11 n11 hs2=>?_
  obtain ⟨S,_,a2⟩:=S.tell e11 n11
  rw [hnn] at hs2
  obtain ⟨p2,c2,rfl,_,_⟩:=hs2.shape
  have hgo:=hG.go hF.ok hF2 hs hat
  have hlN : ∀ y ∈ nxt nn a,isN nn y:=fun y hy=>yu hF.ok hy
  have hln : (nxt nn a).length≤2:=by rw [xV haN];exact hF.nar _ (List.getElem_mem _)
  generalize nxt nn a=l at hs2 hgo hlN hln
  refine zh (ι:=Nat × Int) (fun i=>[.int .i64 i.2,.int .i64 (i.1 : Nat)]) (fun k w'=>k.1≤l.length∧k.2=bestF far s a (l.take k.1) (-1)∧StX noX w (r.or s2) w' [.row vw 3 1 way.length (ints way),.cell b47 (ints far) 3,.cell b4 (grL g x1 x2 x3 x4 y1 y2 y3 y4) 38]) (fun k=>l.length - k.1) (0,-1) rfl ⟨Nat.zero_le _,rfl,S⟩ ?_
  repeat clear S
  rintro ⟨k,b⟩ d w12 ⟨hk,hb,S⟩ K51 hK51
  simp only at hk hb S ⊢
  simp only [List.getD_cons_zero,List.getD_cons_succ]
  refine gg_ ?_
  refine zj (fun hltk=>?_) (fun hgek=>?_)
  ·have hltk : k<l.length:=by omega
   obtain ⟨bn,on,hpe,_,hcn⟩:=zE hs2 hltk
   cases hpe
   have htk : l.take (k+1)=l.take k ++ [l[k]]:=List.take_succ_eq_append_getElem hltk
   have hxN:=hlN _ (List.getElem_mem hltk)
   generalize l[k]=x at hcn htk hxN
   have x0:=hxN.1;have x1':=hxN.2
   have hnb : bestF far s a (l.take (k+1)) (-1)=if faA far x=faA far a - 1∧x≠s∧(b<0∨x<b) then x else b:=by rw [htk,ahM,hb]
   refine zp (fun z w'=>z = [.int .i64 (bestF far s a (l.take (k+1)) (-1))]∧StX noX w (r.or s2) w' [.row vw 3 1 way.length (ints way),.cell b47 (ints far) 3,.cell b4 (grL g x1 x2 x3 x4 y1 y2 y3 y4) 38]) (fun K55 hK55=>?_) ?_
   ·rw [hnb] at hK55
    have S:=S.go (Ext.drew w12)
    refine gg_ ?_
    refine zi (by rw [Int.toNat_natCast];exact S.at hcn) ?_
    refine gp_ ?_
    refine S.ld (b:=b47) ?_ (ZD (by omega))
    refine gp_ ?_
    refine S.ld (b:=b47) ?_ (ZD (by omega))
    refine gg_ ?_
    refine zf (c:=decide (x≠s)) (fun _ K2 hK2=>?_) ?_
    ·refine gg_ ?_
     refine zi (by rw [Int.toNat_natCast];exact S.at hcn) ?_
     refine gg_ ?_
     exact hK2
    refine ab9 (m:=decide (b<0)) (x:=decide (x<b)) (fun K2 hK2=>by refine gg_ ?_;exact hK2) (fun _ K2 hK2=>?_) ?_
    ·refine gg_ ?_
     refine zi (by rw [Int.toNat_natCast];exact S.at hcn) ?_
     refine gg_ ?_
     exact hK2
    refine c_b (fun hc=>?_) (fun hc=>?_)
    ·simp only [Bool.and_eq_true,Bool.or_eq_true,decide_eq_true_eq] at hc
     rw [if_pos ⟨hc.1.1,hc.1.2,hc.2⟩] at hK55
     refine gg_ ?_
     refine zi (by rw [Int.toNat_natCast];exact S.at hcn) ?_
     exact hK55 _ _ ⟨rfl,S⟩
    ·rw [if_neg fun k=>by
      have : ((decide (faA far x=faA far a - 1)&&decide (x≠s))&&(decide (b<0)||decide (x<b)))=true:=by
       simp only [Bool.and_eq_true,Bool.or_eq_true,decide_eq_true_eq];exact ⟨⟨k.1,k.2.1⟩,k.2.2⟩
      rw [this] at hc;cases hc] at hK55
     exact hK55 _ _ ⟨rfl,S⟩
   rintro z w13 ⟨rfl,S⟩ d
   refine gg_ ?_
   exact hK51 (k+1,_) _ ⟨hltk,rfl,S⟩ (by show l.length - (k+1)<l.length - k;omega)
  have hke : k=l.length:=by omega
  subst hke
  rw [List.take_length] at hb
  subst hb
  obtain ⟨hG',hdown⟩:=hgo
  generalize bestF far s a l (-1)=bb at hG' hdown S ⊢
  refine S.lit (e:=3) (cs:=[.int .i64 bb]) (by kernel_rfl) fun b5 w13 S=>?_
  refine S.ap (m':=1) (Sl.blk (S.blk b5)) (fun v4 w14 S=>?_) (by omega)
  have S:=S.drop b5
  have hG2:=hG'.at'.2
  refine hK46 (v4,bb,way ++ [bb]) _ ⟨hG',?_⟩ (by show (faA far bb).toNat<(faA far a).toNat;omega)
  rw [yo,List.length_append]
  exact S.to _
 have hat : a=t:=by omega
 subst hat
 rw [hG.end hF.ok hF2 hs ht] at h
 obtain ⟨s9,T,hs9,_,hab⟩:=S.doneRow zS (by decide) rfl
 exact h _ s9 _ T.ext (StX.newOf (q:=s9) T fun b o ho=>(hab b o ho).resolve_right id) hs9
end Go.Proofs
end
section
namespace Go.Proofs
set_option linter.unusedVariables false
set_option linter.unusedSimpArgs false
theorem Fw.runs {n : zg} (hn : ym n) {so : List Int→List Int} (hso : abl so) {W : List Int} {s : Int} : ∀ (m : Nat) {k : Nat} {M : zU} {L : List Int},Fw n W s k M L→k+1≤M.length→n.length - M.length≤m→∃ k M,Fw n W s k M []∧∀ p w,(p,w) ∈ M→w.length≤n.length
 |m,k,M,L,h,hk,hm=>by
  obtain ⟨h2,hl⟩:=h.next hn hso
  have f2:=h2.few
  generalize (rndW n so W s M L (M,[])).1=M' at *
  generalize (rndW n so W s M L (M,[])).2=L' at *
  by_cases e : L' = []
  ·subst e
   refine ⟨_,_,h2,fun p w hp=>?_⟩
   have h3:=(h2.min p w hp).2.2
   have h4 : w.length≠k+1+1:=fun e=>by
    have:=(h2.lev p).2 ⟨w,hp,e⟩
    cases this
   rw [List.length_nil] at hl
   omega
  ·have : 0<L'.length:=List.length_pos_iff.2 e
   cases m with
   |zero=>omega
   |succ m=>exact Fw.runs hn hso m h2 (by omega) (by omega)
theorem ajC {n : zg} (hn : ym n) {so : List Int→List Int} (hso : abl so) {W : List Int} {s t : Int} (hs : isN n s) : ((jD n s t W).getD []).length≤n.length:=by
 cases hw : jD n s t W with
 |none=>exact Nat.zero_le _
 |some w=>
  obtain ⟨k,M,hF,hf⟩:=Fw.runs hn hso n.length (Fw.start (W:=W) hs) (Nat.le_refl _) (by omega)
  rw [← hF.found (.inl rfl)] at hw
  exact hf t w ((jC hF.nod).2 hw)
end Go.Proofs
end
section
namespace Go.Proofs
open Go.Sh Go.RowKit
set_option maxRecDepth 100000
set_option linter.unusedSimpArgs false
set_option linter.unusedVariables false
theorem ahO {α : Type} {sz : Nat} {r : Gh} {R : List Value→α→Prop} {p : Option Addr} {m cap : Nat} {l l' : List α} (h : SlG sz r R (.slice p m cap) (l++l')) : SlG sz r R (.slice p l.length cap) l:=by
 obtain ⟨p',cap',h1,h2,h3,h4⟩:=h
 cases h1
 rw [List.length_append] at h3
 refine ⟨p,cap,rfl,h2,by omega,fun i hi=>?_⟩
 obtain ⟨c,h5,h6,h7⟩:=h4 i (by rw [List.length_append];omega)
 exact ⟨c,h5,h6,by rwa [List.getElem_append_left hi] at h7⟩
theorem akj {u : UnD} {n a b : Int} {W : List Int} (h0 : fnE u n=0) : okW u n a b W=decide ((isN (netU u n) a∧isN (netU u n) b)∧∀ x ∈ W,isN (netU u n) x):=by
 rw [okW,h0,show decide ((0 : Int)≠0)=false from rfl,Bool.false_or]
 by_cases h1 : isN (netU u n) a∧isN (netU u n) b
 ·by_cases h2 : ∀ x ∈ W,isN (netU u n) x
  ·rw [decide_eq_true h2,decide_eq_true (show ∀ x ∈ [a,b],isN (netU u n) x by simpa using h1),decide_eq_true ⟨h1,h2⟩];rfl
  ·rw [decide_eq_false h2,decide_eq_false (show ¬ ((isN (netU u n) a∧isN (netU u n) b)∧∀ x ∈ W,isN (netU u n) x) from fun h=>h2 h.2)];simp
 ·rw [decide_eq_false (show ¬ ∀ x ∈ [a,b],isN (netU u n) x by simpa using h1),decide_eq_false (show ¬ ((isN (netU u n) a∧isN (netU u n) b)∧∀ x ∈ W,isN (netU u n) x) from fun h=>h1 h.1)];simp
def okN (n : zg) (l : List Int) : Bool:=decide (∀ x ∈ l,isN n x)
theorem ajD {n : zg} {l : List Int} {x : Int} : okN n (l ++ [x])=(okN n l&&decide (isN n x)):=by
 rw [okN,okN,Bool.eq_iff_iff,Bool.and_eq_true,decide_eq_true_eq,decide_eq_true_eq,decide_eq_true_eq]
 simp only [List.mem_append,List.mem_singleton]
 exact ⟨fun h=>⟨fun x hx=>h x (.inl hx),h _ (.inr rfl)⟩,fun h x hx=>hx.elim (h.1 x) fun e=>e ▸ h.2⟩
set_option maxHeartbeats 4000000 in
theorem aaq {u : UnD} {n a b : Int} {l : List Int} {v vl : Value} {w : World} {r : Gh} {K : Value→World→Prop} (hr : Holds r w) (hu : UnG r v u) (hl : SlG 1 r zu vl l)
  (h : ∀ w',Ext w w'→K (.bool true) w') : zd Tryz.prog Tryz.Yt #[v,.int .i64 n,.int .i64 a,.int .i64 b,vl] w K:=by
 refine Tryz.Vl ?_
 unfold Tryz.YN
 have hu0:=hu
 obtain ⟨p0,cap0,vf,rfl,_,_,hst,hsl,hfn⟩:=hu
 obtain ⟨qf,capf,rfl,_,_⟩:=hfn.sl.shape
 obtain ⟨pl,cl,rfl,hpl,_⟩:=hl.shape
 have hfl : u.fs.length≤9223372036854775807:=hfn.few
 have S:=St.start hr
 refine S.box fun b4 w1 S=>?_
 have S : StX noX w r w1 [.cell b4 [.slice p0 u.ss.length cap0,.slice qf u.fs.length capf,.int .i64 u.mn] 25]:=S
 refine S.ldB (b:=b4) ?_ rfl
 refine YO S.holds hu0 fun x w2 e2=>?_
 have S:=S.go e2
 refine gp_ ?_
 refine zk (c:=decide (120<(l.length : Int))) (fun _ K2 hK2=>by refine gg_ ?_;exact hK2) ?_
 refine c_b (fun _=>yl fun w3 e3=>h _ (S.go e3).ext) (fun hsm=>?_)
 have hsm : l.length≤120:=by
  simp only [Bool.or_eq_false_iff,decide_eq_false_iff_not] at hsm
  omega
 have S:=S.ownNil 3 1
 refine S.ap (v:=.slice none 0 0) (m':=l.length) (S.at (ai2 hl)) (fun v36 w3 S=>?_) (by omega) (by rw [zI,Nat.mul_one]) hpl (by intro u hu;obtain ⟨x,_,rfl⟩:=List.mem_map.1 hu;rfl)
 refine S.lit (e:=3) (cs:=[.int .i64 77]) (by kernel_rfl) fun b37 w4 S=>?_
 refine S.ap (v:=v36) (m':=1) (Sl.blk (S.blk b37)) (fun v38 w5 S=>?_) (by omega)
 have S:=S.drop b37
 have S : StX noX w r w5 [.row v38 3 1 (l ++ [77]).length (ints (l ++ [77])),.cell b4 [.slice p0 u.ss.length cap0,.slice qf u.fs.length capf,.int .i64 u.mn] 25]:=by
  rw [yo,List.length_append]
  simpa using S
 obtain ⟨so,T,ho,_,_⟩:=S.doneRow zS (by decide) rfl
 repeat clear S
 obtain ⟨po,co,rfl,_,hco⟩:=ho.shape
 have S:=T
 clear T
 rw [List.length_append,List.length_singleton] at hco
 have ho1:=ahO ho
 have S:=S.go (Ext.drew _)
 refine S.ldB (b:=b4) ?_ rfl
 refine gg_ ?_
 rw [Int.toNat_natCast]
 refine abt S.holds hu0.up ho1.cells (by omega) fun v48 s48 w6 e6 n6 h6=>?_
 obtain ⟨S,_,_⟩:=S.tell e6 n6
 refine gS_ ?_
 have S:=S.go (Ext.drew _)
 refine S.ldB (b:=b4) ?_ rfl
 refine gg_ ?_
 rw [Int.toNat_natCast]
 refine acV S.holds hu0.up ho1.cells (by omega) fun w7 e7=>?_
 have S:=S.go e7
 have hr1 : Holds r w7:=S.holds.le
 have ho:=ho.cells (s:=(r.or so).or s48)
 have h6:=h6.cells (s:=(r.or so).or s48)
 have hl':=hl.cells (s:=(r.or so).or s48)
 have hu1:=hu0.up (s:=(r.or so).or s48)
 have hfn1 : SlB 7 ((r.or so).or s48) (GrG ((r.or so).or s48)) (.slice qf u.fs.length capf) u.fs:=hfn.up' inferInstance fun c x hx=>GrG.up hx
 generalize (r.or so).or s48=r2 at S ho h6 hl' hu1 hfn1
 have hIs : ∃ p k e,(if fnE u n=0 then Value.tuple #[.int .i64 (isW (netU u n) l).1,.bool (isW (netU u n) l).2,.int .i64 0] else .tuple #[.int .i64 0,.bool false,.int .i64 2]) = .tuple #[.int .i64 p,.bool k,.int .i64 e]∧(fnE u n=0→p=(isW (netU u n) l).1∧k=(isW (netU u n) l).2∧e=0)∧(fnE u n≠0→p=0∧k=false∧e=2):=by
  by_cases h0 : fnE u n=0
  ·exact ⟨_,_,_,if_pos h0,fun _=>⟨rfl,rfl,rfl⟩,fun h=>absurd h0 h⟩
  ·exact ⟨_,_,_,if_neg h0,fun h=>absurd h h0,fun _=>⟨rfl,rfl,rfl⟩⟩
 obtain ⟨pI,kI,eI,hI,hI0,hI2⟩:=hIs
 rw [hI]
 refine gS_ ?_
 refine zh (ι:=Nat) (fun i=>[.int .i64 (i : Nat)]) (fun i w'=>i≤l.length∧StX noX w r2 w' _) (fun i=>l.length - i) 0 rfl ⟨Nat.zero_le _,S⟩ ?_
 repeat clear S
 rintro i d w8 ⟨hi,S⟩ K8 hK8
 rw [List.getD_cons_zero]
 refine gg_ ?_
 refine zj (fun hlt=>?_) (fun hge=>?_)
 ·have hlt : i<l.length:=by omega
  have S:=S.go (Ext.drew _)
  obtain ⟨bo,oo,hpo,_,go⟩:=zE ho (i:=i) (by rw [List.length_append];omega)
  obtain ⟨bl,ol,hpl',_,gl⟩:=zE hl' hlt
  rw [List.getElem_append_left hlt] at go
  cases hpo
  cases hpl'
  refine gg_ ?_
  refine s_c (by rw [List.length_append];simp;omega) ?_
  refine zi (by rw [Int.toNat_natCast];exact S.at go) ?_
  refine gg_ ?_
  refine zi (by rw [Int.toNat_natCast];exact S.at gl) ?_
  refine gg_ ?_
  refine c_f (by simp) ?_
  refine gg_ ?_
  exact hK8 (i+1) _ ⟨hlt,S⟩ (by omega)
 clear hK8 hge hi K8 d
 refine gg_ ?_
 obtain ⟨bo,oo,hpo,_,go⟩:=zE ho (i:=l.length) (by rw [List.length_append];simp)
 rw [List.getElem_append_right (Nat.le_refl _)] at go
 cases hpo
 refine s_c (by rw [List.length_append];simp;omega) ?_
 refine zi (v:=.int .i64 77) (by rw [Int.toNat_natCast];have:=S.at go;simpa using this) ?_
 refine gg_ ?_
 refine c_f (by simp) ?_
 refine S.ldB (b:=b4) ?_ rfl
 refine qW S.holds hu1 fun w9 e9=>?_
 have S:=S.go e9
 rw [af3]
 refine gp_ ?_
 refine c_b (fun hb=>?_) (fun hb=>?_)
 ·have hne : fnE u n≠0:=by simpa using hb
  obtain ⟨rfl,rfl,rfl⟩:=hI2 hne
  have hW : okW u n a b l=false:=by rw [okW,decide_eq_true hne];rfl
  rw [hW,if_neg (by decide)] at h6
  rw [hW]
  obtain ⟨q6,c6,rfl,_,_⟩:=h6.shape
  simp only [List.length_nil]
  refine gg_ ?_
  refine zf (c:=true) (fun _ K2 hK2=>by refine gg_ ?_;exact hK2) ?_
  refine zf (c:=true) (fun _ K2 hK2=>by refine gg_ ?_;exact hK2) ?_
  refine zf (c:=true) (fun _ K2 hK2=>by refine gg_ ?_;exact hK2) ?_
  refine zf (c:=true) (fun _ K2 hK2=>by refine gg_ ?_;exact hK2) ?_
  refine zf (c:=true) (fun _ K2 hK2=>by refine gg_ ?_;exact hK2) ?_
  refine zq (c:=true) (fun _ K2 hK2=>yl fun w8 e8=>hK2 _ e8) fun w8 e8=>?_
  have:=h _ (S.go e8).ext
  simpa using this
 have hE0 : fnE u n=0:=by simpa using hb
 obtain ⟨rfl,rfl,rfl⟩:=hI0 hE0
 obtain ⟨bf,of,g,x1,x2,x3,x4,y1,y2,y3,y4,hqf,hgi,hnu,hF,hn0,hn1,hg,hfo⟩:=Qi hfn1 hE0
 cases hqf
 have hfew:=hF.few
 have hgl:=yj (g:=g)
 rw [akj hE0] at h6 ⊢
 rw [hnu] at h6 ⊢
 refine gg_ ?_
 refine zt (n:=7) rfl (fun j v hj=>S.at (hfo j v hj)) ?_
 refine S.al fun b19 w10 S=>?_
 refine S.stB (b:=b19) fun w11 S=>?_
 have S : StX noX w r2 w11 [.cell b19 (grL g x1 x2 x3 x4 y1 y2 y3 y4) 38,.cell b4 [.slice p0 u.ss.length cap0,.slice (some ⟨bf,of,none⟩) u.fs.length capf,.int .i64 u.mn] 25]:=S
 refine S.ldB (b:=b19) ?_ rfl
 refine aix S.holds hg hF hl' (by omega) fun w12 e12=>?_
 have S:=S.go e12
 refine gS_ ?_
 refine zk (c:=false) (fun _ K2 hK2=>by
  refine gg_ ?_
  have:=hK2
  simpa using this) ?_
 refine zk (c:=false) (fun _ K2 hK2=>by refine gg_ ?_;exact hK2) ?_
 refine c_f (by simp) ?_
 refine gp_ ?_
 refine zk (c:=decide (b<0)) (fun _ K2 hK2=>by refine gg_ ?_;exact hK2) ?_
 refine zk (c:=decide ((g.pts.length : Int)≤a)) (fun _ K2 hK2=>by refine gg_ ?_;exact hK2) ?_
 refine zk (c:=decide ((g.pts.length : Int)≤b)) (fun _ K2 hK2=>by refine gg_ ?_;exact hK2) ?_
 have hb0 : (((decide (a<0)||decide (b<0))||decide ((g.pts.length : Int)≤a))||decide ((g.pts.length : Int)≤b)) = !decide (isN (netG g) a∧isN (netG g) b):=by
  rw [Bool.eq_iff_iff]
  simp only [Bool.or_eq_true,decide_eq_true_eq,Bool.not_eq_true',decide_eq_false_iff_not,isN,hgl]
  omega
 rw [hb0]
 refine zh (ι:=Nat) (fun i=>[.bool (!decide (isN (netG g) a∧isN (netG g) b) || !okN (netG g) (l.take i)),.int .i64 (i : Nat)]) (fun i w'=>i≤l.length∧StX noX w r2 w' _) (fun i=>l.length - i) 0 (by simp [okN]) ⟨Nat.zero_le _,S⟩ ?_
 repeat clear S
 rintro i d w13 ⟨hi,S⟩ K13 hK13
 simp only [List.getD_cons_zero,List.getD_cons_succ]
 refine gg_ ?_
 refine zj (fun hlt=>?_) (fun hge=>?_)
 ·have hlt : i<l.length:=by omega
  have S:=S.go (Ext.drew _)
  obtain ⟨bl,ol,hpl',_,gl⟩:=zE hl' hlt
  cases hpl'
  refine zk (c:=decide (l[i]<0)) (fun _ K2 hK2=>?_) ?_
  ·refine gg_ ?_
   refine zi (by rw [Int.toNat_natCast];exact S.at gl) ?_
   refine gg_ ?_
   exact hK2
  refine zk (c:=decide ((g.pts.length : Int)≤l[i])) (fun _ K2 hK2=>?_) ?_
  ·refine gg_ ?_
   refine zi (by rw [Int.toNat_natCast];exact S.at gl) ?_
   refine gg_ ?_
   exact hK2
  refine gg_ ?_
  have e : ((!decide (isN (netG g) a∧isN (netG g) b) || !okN (netG g) (l.take i))||decide (l[i]<0)||decide ((g.pts.length : Int)≤l[i]))=(!decide (isN (netG g) a∧isN (netG g) b) || !okN (netG g) (l.take (i+1))):=by
   rw [Bool.or_assoc,Bool.or_assoc]
   congr 1
   have e2 : (decide (l[i]<0)||decide ((g.pts.length : Int)≤l[i])) = !decide (isN (netG g) l[i]):=by
    rw [Bool.eq_iff_iff]
    simp only [Bool.or_eq_true,decide_eq_true_eq,Bool.not_eq_true',decide_eq_false_iff_not,isN,hgl]
    omega
   rw [List.take_succ_eq_append_getElem hlt,ajD,e2,Bool.not_and]
  rw [e]
  exact hK13 (i+1) _ ⟨hlt,S⟩ (by omega)
 have hie : i=l.length:=by omega
 clear hK13 K13 d hge
 subst hie
 rw [List.take_length]
 have e3 : (!decide (isN (netG g) a∧isN (netG g) b) || !okN (netG g) l) = !decide ((isN (netG g) a∧isN (netG g) b)∧∀ x ∈ l,isN (netG g) x):=by
  rw [okN,Bool.eq_iff_iff]
  simp only [Bool.or_eq_true,Bool.not_eq_true',decide_eq_false_iff_not,Decidable.not_and_iff_not_or_not]
 rw [e3]
 refine c_b (fun hb=>?_) (fun hb=>?_)
 ·have hW : decide ((isN (netG g) a∧isN (netG g) b)∧∀ x ∈ l,isN (netG g) x)=false:=by rw [Bool.not_eq_true'] at hb;exact hb
  rw [hW,if_neg (by decide)] at h6
  rw [hW]
  obtain ⟨q6,c6,rfl,_,_⟩:=h6.shape
  simp only [List.length_nil]
  refine gg_ ?_
  refine zf (c:=true) (fun _ K2 hK2=>by refine gg_ ?_;exact hK2) ?_
  refine zf (c:=true) (fun _ K2 hK2=>by refine gg_ ?_;exact hK2) ?_
  refine zq (c:=true) (fun _ K2 hK2=>yl fun w8 e8=>hK2 _ e8) fun w8 e8=>?_
  have:=h _ (S.go e8).ext
  simpa using this
 have hWt : (isN (netG g) a∧isN (netG g) b)∧∀ x ∈ l,isN (netG g) x:=by rw [Bool.not_eq_false'] at hb;exact of_decide_eq_true hb
 rw [decide_eq_true hWt,if_pos rfl] at h6
 rw [decide_eq_true hWt]
 refine S.ldB (b:=b19) ?_ rfl
 refine ahN S.holds hg hF hWt.1.1 hWt.1.2 hl' hWt.2 (by omega) fun v14 s14 w14 e14 n14 h14=>?_
 obtain ⟨S,_,_⟩:=S.tell e14 n14
 refine gS_ ?_
 refine xI S.holds h6.cells h14.cells ?_ fun w15 e15=>?_
 ·have:=ajC hF.ok aiQ (W:=l) (t:=b) hWt.1.1
  omega
 have S:=S.go e15
 rw [decide_eq_true rfl]
 refine zf (c:=true) (fun _ K2 hK2=>by
  refine gg_ ?_
  have:=hK2
  simpa using this) ?_
 refine zf (c:=true) (fun _ K2 hK2=>by refine gg_ ?_;exact hK2) ?_
 refine zq (c:=true) (fun _ K2 hK2=>yl fun w8 e8=>hK2 _ e8) fun w8 e8=>?_
 have:=h _ (S.go e8).ext
 simpa using this
end Go.Proofs
end
section
namespace Go.Proofs.YtmkfelgocedohaaGreat.flowWays
open Go.Sh Go.ChangeShapes Go.WideShapes Go.ChangeAt Go.RowKit openG
set_option maxRecDepth 100000
set_option linter.unusedVariables false
theorem YP (H : Type) (enc : TypeId × Value→H) (W : World) (base : Nat) (args : Array Value) (ds gs : List (DataW H)) (before : List MemPlace)
  (hval : ∀ (j : Nat) t v,Tryz.f5.params[j]? = some t→args[j]? = some v→Value.okWide Tryz.prog W .any base t v)
  (hW : DataW.Whole enc Tryz.prog Tryz.f5.params.toList Rows.flowWaysSpec.vars false W args.toList ds gs before) :
  Calls Tryz.prog 5 args W fun e W'=>∃ v,e = .returned v∧Rows.flowWaysSpec.post enc Tryz.prog Tryz.f5 false true false false W args v W':=by
 have hW':=hW
 obtain ⟨p,q,hA,hV,rfl,hfz,hnd⟩:=hW
 rw [show Tryz.f5.params.toList = [25,3,3,3,28] by kernel_rfl] at hA
 obtain ⟨v0,vs0,d0,ds0,p0,q100,hargs,rfl,rfl,h0,r0⟩:=trodAll_cons hA
 obtain ⟨v1,vs1,d1,ds1,p1,q101,rfl,rfl,rfl,h1,r1⟩:=trodAll_cons r0
 obtain ⟨v2,vs2,d2,ds2,p2,q102,rfl,rfl,rfl,h2,r2⟩:=trodAll_cons r1
 obtain ⟨v3,vs3,d3,ds3,p3,q103,rfl,rfl,rfl,h3,r3⟩:=trodAll_cons r2
 obtain ⟨v4,vs4,d4,ds4,p4,q104,rfl,rfl,rfl,h4,r4⟩:=trodAll_cons r3
 obtain ⟨rfl,rfl,rfl⟩:=trodAll_nil r4
 obtain rfl : args=#[v0,v1,v2,v3,v4]:=by cases args;simp_all
 obtain ⟨rfl,rfl⟩:=trodVars_none hV
 obtain ⟨u0,hu0⟩:=acl (hval 0 25 v0 (by kernel_rfl) rfl) h0
 obtain ⟨n1,rfl,hi1⟩:=jF (hval 1 3 v1 (by kernel_rfl) rfl) h1
 obtain ⟨n2,rfl,hi2⟩:=jF (hval 2 3 v2 (by kernel_rfl) rfl) h2
 obtain ⟨n3,rfl,hi3⟩:=jF (hval 3 3 v3 (by kernel_rfl) rfl) h3
 obtain ⟨q4,cap4,l4,rfl,hn4,hc4,hl4⟩:=ahK (hval 4 28 v4 (by kernel_rfl) rfl) h4
 refine Calls.mono (aaq (K:=fun v W'=>v = .bool true∧Ext W W') (YW W) hu0 (zS.sl hn4 hc4 hl4 (by decide) ⟨W,YW W⟩) fun w' e=>⟨rfl,e⟩) ?_
 rintro e W' ⟨v,he,rfl,hE⟩
 exact ⟨_,he,Q8 ack agJ aiG (by rw [show Tryz.f5.params.toList = [25,3,3,3,28] by kernel_rfl];decide) rfl (by kernel_rfl) abu hW' rfl hE⟩
def wit : Array Value:=#[.agg #[.slice none 0 0,.slice none 0 0,.int .i64 0],.int .i64 0,.int .i64 0,.int .i64 0,.slice none 0 0]
theorem abv (os : Os) {H : Type} (enc : TypeId × Value→H) : ∃ ds places,DataW.whole enc Tryz.prog ((x8 os).forCall (fun _ _=>0) ⟨#[],wit,[]⟩).memory Tryz.f5.params.toList Rows.flowWaysSpec.vars false wit.toList 8=some (ds,[],places):=
 ⟨[.agg [.nil,.nil,.lit (.int .i64 0)],.lit (.int .i64 0),.lit (.int .i64 0),.lit (.int .i64 0),.nil],[],by kernel_rfl⟩
theorem YQ (os : Os) : laidMet Tryz.prog Rows.flowWaysRow.laid ((x8 os).forCall (fun _ _=>0) ⟨#[],wit,[]⟩).memory:=
 laidMet_of_run' 8 (by kernel_rfl) (by kernel_rfl)
theorem JU (os : Os) (started : os.Started) (H : Type) (enc : TypeId × Value→H) (F : Stop.Interp) :
  ReturnsInHanded {} Tryz.checked os 5 .any ((OpenSpec.ofChange Rows.flowWaysSpec).preRow enc Tryz.prog Tryz.f5 Rows.flowWaysRow.domain false Rows.flowWaysRow.laid) (((OpenSpec.ofChange Rows.flowWaysSpec).at F).post enc Tryz.prog Tryz.f5 false true false false):=by
 obtain ⟨ds,places,hx⟩:=abv os enc
 refine returnsInHanded_of_row (C:=Tryz.checked) (s:=OpenSpec.ofChange Rows.flowWaysSpec) own started (by kernel_rfl) Tryz.func5
  (witness_row_at (enc:=enc) (C:=Tryz.checked) false (x8 os) wit rfl (by kernel_rfl) (by kernel_rfl) (by kernel_rfl)
   (OpenSpec.preRow_of_cond 8 hx (by kernel_rfl) (fun k hk=>by cases hk) (by kernel_rfl) (YQ os))) ?_
 intro W base args ds gs before hval hW _ _ _ hL _ _
 exact YP H enc W base args ds gs before hval hW
theorem said : Rows.FlowWaysSaid:=
 OpenClaim.holds_of_cond 5 Tryz.f5 rfl rfl rfl rfl rfl rfl rfl ⟨rfl,rfl,rfl,rfl,rfl⟩ rfl rfl rfl rfl rfl (by kernel_rfl) Tryz.func5 (by kernel_rfl)
  (of_decide_eq_true (by kernel_rfl)) (by unfold Func.isWrapper;first|(rw [if_pos (by decide +kernel)];kernel_rfl)|(rw [if_neg (by decide +kernel)];exact ⟨rfl,rfl⟩))
  (fun os started H enc _ F=>by rw [OpenClaim.pre_eq_preRow];exact JU os started H enc F)
end Go.Proofs.YtmkfelgocedohaaGreat.flowWays
end
section
namespace Go.Proofs
open Go.Sh Go.RowKit
set_option maxRecDepth 100000
set_option linter.unusedSimpArgs false
set_option linter.unusedVariables false
end Go.Proofs
end
section
namespace Go.Proofs.YtmkfelgocedohaaGreat.flowAbove
open Go.Sh Go.ChangeShapes Go.WideShapes Go.ChangeAt Go.RowKit openG
set_option maxRecDepth 100000
set_option linter.unusedVariables false
end Go.Proofs.YtmkfelgocedohaaGreat.flowAbove
end
section
namespace Go.Proofs
open Go.Sh Go.RowKit
set_option maxRecDepth 100000
set_option linter.unusedSimpArgs false
set_option linter.unusedVariables false
end Go.Proofs
end
section
namespace Go.Proofs.YtmkfelgocedohaaGreat.flowReach
open Go.Sh Go.ChangeShapes Go.WideShapes Go.ChangeAt Go.RowKit openG
set_option maxRecDepth 100000
set_option linter.unusedVariables false
end Go.Proofs.YtmkfelgocedohaaGreat.flowReach
end
section
namespace Go.Proofs
open Go.Sh Go.RowKit
set_option maxRecDepth 100000
set_option linter.unusedSimpArgs false
set_option linter.unusedVariables false
end Go.Proofs
end
section
namespace Go.Proofs.YtmkfelgocedohaaGreat.flowOrder
open Go.Sh Go.ChangeShapes Go.WideShapes Go.ChangeAt Go.RowKit openG
set_option maxRecDepth 100000
set_option linter.unusedVariables false
end Go.Proofs.YtmkfelgocedohaaGreat.flowOrder
end
section
namespace Go.Proofs
end Go.Proofs
end
