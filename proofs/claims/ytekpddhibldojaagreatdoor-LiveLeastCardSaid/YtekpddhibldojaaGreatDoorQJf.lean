/-
  Contract of live: Closed.
  Contract of live: Closed.
  Shallow readings of functions. Made by a program (wip/gen/gen.py) out of the translation; the kernel checks each equality.
  A condition of the kind 'b, or c and d'.
  Contracts of loanwordref14: deref, Used, Ends, less.
  Contracts of loanwordref01: May, List.
  Contract of loanwordref14: Rows.
  Contract of loanwordref14: Why.
  Contracts: the example of law 14.
  Contracts of loanwordlaw14: fits, same, inside; live.Of once more, of what stays.
  Plain: rows of one's own are closed; what is told of the example of law 14.
  Contract of loanwordlaw14: awake.
  Contract of loanwordlaw14: LiveWays.
  Shallow readings of functions. Made by a program (wip/gen/gen.py) out of the translation; the kernel checks each equality.
  Contracts of bits: words of one's own, Own, two rows word by word, Less, Or.
  Contracts of bits: the library's table, Each, First, Has.
  loanwordlaw14.LiveLeast: whatever the program, the function, the rows: the law returns true.
-/
import Derived.Test.YtekpddhibldojaaGreatDoorQJe
import Derived.Test.YtekpddhibldojaaGreatDoorQJd
import Derived.Test.YtekpddhibldojaaGreatDoorQJc
import Derived.Test.YtekpddhibldojaaGreatDoorQJb
import Derived.Test.YtekpddhibldojaaGreatDoorQJa
section
namespace Go.Proofs
open Go.Sh Go.RowKit Go.BM
set_option maxRecDepth 100000
set_option linter.unusedSimpArgs false
set_option linter.unusedVariables false
abbrev yk:=Int × List (BitVec 64)
theorem QX {f : Int→Bool} {fv v : Value} {w : World} {r : Gh} {l : List Int} {K : Value→World→Prop} (hr : Holds r w) (hl : SlG 1 r z6 v l) (hb : l.length≤1000000000)
  (hf : ∀ x ∈ l,∀ (K : Value→World→Prop),K (.bool (f x)) w→zB Tryz.prog fv #[.int .i64 x] w K) (h : ∀ i : Int,(0≤i↔l.any f=true)→K (.int .i64 i) w) : zd Tryz.prog Tryz.ye #[v,fv] w K:=by
 refine Tryz.xD ?_
 unfold Tryz.yI
 obtain ⟨p,cap,rfl,_,_⟩:=hl.shape
 refine gP_ ?_
 refine zj (ι:=Nat) (fun i=>[.int .i64 i]) (fun i w'=>w'=w∧i≤l.length∧(l.take i).any f=false) (fun i=>l.length - i) 0 rfl ⟨rfl,Nat.zero_le _,by simp⟩ ?_
 rintro i d w' ⟨rfl,hi,hn⟩ K6 hK6
 simp only [List.getD_cons_zero]
 refine gP_ ?_
 refine zm (fun hlt=>?_) (fun hge=>?_)
 ·have hlt : i<l.length:=by omega
  obtain ⟨b,off,rfl,_,hc⟩:=yi hl hlt
  refine gP_ ?_
  refine zh (by rw [Int.toNat_natCast];exact hc _ hr) ?_
  refine hf _ (List.getElem_mem hlt) _ ?_
  have ht : (l.take (i+1)).any f=((l.take i).any f||f l[i]):=by
   rw [List.take_succ_eq_append_getElem hlt,List.any_append];simp only [List.any_cons,List.any_nil,Bool.or_false]
  refine c_b (fun hy=>?_) (fun hno=>?_)
  ·exact h _ ⟨fun _=>List.any_eq_true.2 ⟨l[i],List.getElem_mem hlt,hy⟩,fun _=>Int.natCast_nonneg _⟩
  ·refine gP_ ?_
   refine hK6 (i+1) _ ⟨rfl,hlt,?_⟩ (by omega)
   rw [ht,hn,hno];rfl
 ·have : i=l.length:=by omega
  subst this
  rw [List.take_length] at hn
  exact h _ ⟨fun h=>by omega,fun h=>by rw [hn] at h;cases h⟩
theorem YO {f : Int→Bool} {fv v : Value} {w : World} {r : Gh} {l : List Int} {K : Value→World→Prop} (hr : Holds r w) (hl : SlG 1 r z6 v l) (hb : l.length≤1000000000)
  (hf : ∀ x ∈ l,∀ (K : Value→World→Prop),K (.bool (f x)) w→zB Tryz.prog fv #[.int .i64 x] w K) (h : K (.bool (l.any f)) w) : zd Tryz.prog Tryz.zG #[v,fv] w K:=by
 refine Tryz.xg ?_
 unfold Tryz.yq
 refine QX hr hl hb hf fun i hi=>?_
 refine gP_ ?_
 have e : decide (i≥0)=l.any f:=by
  by_cases hh : l.any f=true
  ·rw [hh];exact decide_eq_true (hi.2 hh)
  ·rw [Bool.eq_false_iff.2 hh];exact decide_eq_false fun h=>hh (hi.1 h)
 rw [e];exact h
theorem JE {f : yk→Bool} {fv v : Value} {w : World} {r : Gh} {l : List yk} {K : Value→World→Prop} (hr : Holds r w) (hl : SlG 2 r (RwbC r) v l) (hb : l.length≤1000000000)
  (hf : ∀ x ∈ l,∀ (c : List Value) (w : World) (K : Value→World→Prop),Holds r w→RwbC r c x→(∀ w',Ext w w'→K (.bool (f x)) w')→zB Tryz.prog fv #[.agg c.toArray] w K)
  (h : ∀ (i : Int) w',Ext w w'→(0≤i↔l.any f=true)→K (.int .i64 i) w') : zd Tryz.prog Tryz.yb #[v,fv] w K:=by
 refine Tryz.kK ?_
 unfold Tryz.yL
 obtain ⟨p,cap,rfl,_,_⟩:=hl.shape
 have S:=St.start hr
 refine gP_ ?_
 refine zj (ι:=Nat) (fun i=>[.int .i64 i]) (fun i w'=>i≤l.length∧(l.take i).any f=false∧StX noX w r w' []) (fun i=>l.length - i) 0 rfl ⟨Nat.zero_le _,by simp,S⟩ ?_
 clear S
 rintro i d w' ⟨hi,hn,S⟩ K6 hK6
 simp only [List.getD_cons_zero]
 refine gP_ ?_
 refine zm (fun hlt=>?_) (fun hge=>?_)
 ·have hlt : i<l.length:=by omega
  obtain ⟨b,off,c,rfl,hcl,hcR,hcell⟩:=hl.get (by decide) hlt
  have hcR0:=hcR
  obtain ⟨pw,cw,rfl,_⟩:=hcR
  refine gP_ ?_
  refine zH (n:=2) rfl (fun j v hj=>by rw [Int.toNat_natCast];exact S.at (hcell j v hj)) ?_
  refine hf _ (List.getElem_mem hlt) _ _ _ S.holds hcR0 fun w2 e2=>?_
  have S:=S.go e2
  have ht : (l.take (i+1)).any f=((l.take i).any f||f l[i]):=by
   rw [List.take_succ_eq_append_getElem hlt,List.any_append];simp only [List.any_cons,List.any_nil,Bool.or_false]
  refine c_b (fun hy=>?_) (fun hno=>?_)
  ·exact h _ _ S.ext ⟨fun _=>List.any_eq_true.2 ⟨l[i],List.getElem_mem hlt,hy⟩,fun _=>Int.natCast_nonneg _⟩
  ·refine gP_ ?_
   refine hK6 (i+1) _ ⟨hlt,?_,S⟩ (by omega)
   rw [ht,hn,hno];rfl
 ·have : i=l.length:=by omega
  subst this
  rw [List.take_length] at hn
  exact h _ _ S.ext ⟨fun h=>by omega,fun h=>by rw [hn] at h;cases h⟩
theorem Xu {f : yk→Bool} {fv v : Value} {w : World} {r : Gh} {l : List yk} {K : Value→World→Prop} (hr : Holds r w) (hl : SlG 2 r (RwbC r) v l) (hb : l.length≤1000000000)
  (hf : ∀ x ∈ l,∀ (c : List Value) (w : World) (K : Value→World→Prop),Holds r w→RwbC r c x→(∀ w',Ext w w'→K (.bool (f x)) w')→zB Tryz.prog fv #[.agg c.toArray] w K)
  (h : ∀ w',Ext w w'→K (.bool (l.any f)) w') : zd Tryz.prog Tryz.zX #[v,fv] w K:=by
 refine Tryz.x8 ?_
 unfold Tryz.yA
 refine JE hr hl hb hf fun i w' e hi=>?_
 refine gP_ ?_
 have e2 : decide (i≥0)=l.any f:=by
  by_cases hh : l.any f=true
  ·rw [hh];exact decide_eq_true (hi.2 hh)
  ·rw [Bool.eq_false_iff.2 hh];exact decide_eq_false fun h=>hh (hi.1 h)
 rw [e2];exact h _ e
def vX (g : GrD) (x : yk) : List Bool:=Xi g.pts.length x.2
noncomputable def abC (g : GrD) (x : Nat) (m : List Bool) (q : Nat) : Bool:=yQ g x m q && !mk' m q
noncomputable def ZL (g : GrD) (R : List yk) (x q : Nat) : Bool:=abC g x (vX g (R.getD x (0,[]))) q
def cls (b : Nat→Nat→Bool) (n k : Nat) : Option (Nat × Nat):=(List.range n).findSome? fun x=>(List.range k).findSome? fun q=>if b x q=true then some (x,q) else none
theorem acO {α : Type} {f : Nat→Option α} : ∀ {n x : Nat} {a : α},x<n→(∀ y<x,f y=none)→f x=some a→(List.range n).findSome? f=some a
 |n,x,a,hx,hb,hf=>by
  have e : List.range n=List.range x++(x::List.range' (x+1) (n - x - 1)):=by
   rw [← List.range'_succ,List.range_eq_range',List.range_eq_range',show n - x - 1+1=n - x by omega]
   have:=List.range'_append_1 (s:=0) (m:=x) (n:=n - x)
   rw [Nat.zero_add] at this
   rw [this];congr 1;omega
  rw [e,List.findSome?_append,List.findSome?_eq_none_iff.2 fun y hy=>hb y (List.mem_range.1 hy),List.findSome?_cons,hf]
  rfl
theorem ahM {b : Nat→Nat→Bool} {n k x q : Nat} (hx : x<n) (hq : q<k) (h1 : ∀ y<x,∀ p<k,b y p=false) (h2 : ∀ p<q,b x p=false) (h : b x q=true) : cls b n k=some (x,q):=
 acO hx (fun y hy=>List.findSome?_eq_none_iff.2 fun p hp=>by rw [h1 y hy p (List.mem_range.1 hp)];rfl) (acO hq (fun p hp=>by rw [h2 p hp];rfl) (by rw [h];rfl))
theorem acP {b : Nat→Nat→Bool} {n k : Nat} (h : ∀ y<n,∀ p<k,b y p=false) : cls b n k=none:=
 List.findSome?_eq_none_iff.2 fun y hy=>List.findSome?_eq_none_iff.2 fun p hp=>by rw [h y (List.mem_range.1 hy) p (List.mem_range.1 hp)];rfl
theorem afL {b : Nat→Nat→Bool} {n k : Nat} (h : cls b n k=none) {y p : Nat} (hy : y<n) (hp : p<k) : b y p=false:=by
 have h1:=List.findSome?_eq_none_iff.1 h y (List.mem_range.2 hy)
 have h2:=List.findSome?_eq_none_iff.1 h1 p (List.mem_range.2 hp)
 cases hb : b y p with
 |false=>rfl
 |true=>rw [hb] at h2;cases h2
noncomputable def Yq (g : GrD) (R : List yk) : Option (Nat × Nat):=cls (ZL g R) R.length g.pts.length
noncomputable def Yr (g : GrD) (x : yk) : Bool:=!BM.mayB x.1 x.2||decide (x.1≠g.pts.length)
noncomputable def Xv (g : GrD) (R : List yk) : Bool:=decide (R.length=g.tys.length) && !R.any (Yr g)
noncomputable def okC (u : UnD) (n : Int) (R : List yk) : Bool:=decide (fnE u n=0)&&(match u.fs[n.toNat]? with|some g=>Xv g R|none=>false)
noncomputable def ZM (u : UnD) (n : Int) (R : List yk) : Option (Nat × Nat):=match u.fs[n.toNat]? with|some g=>Yq g R|none=>none
noncomputable def QY (u : UnD) (n : Int) (R : List yk) : Value:=if okC u n R=true then .tuple #[.int .i64 (((ZM u n R).getD (0,0)).1 : Nat),.int .i64 (((ZM u n R).getD (0,0)).2 : Nat),.bool (ZM u n R).isNone,.int .i64 0] else .tuple #[.int .i64 0,.int .i64 0,.bool false,.int .i64 2]
theorem Xw {ws : List (BitVec 64)} {k : Int} {b p cap} {w : World} {r : Gh} {K : Value→World→Prop} (hr : Holds r w) (h1 : Ob r fun w=>w.cell? ⟨b,1,none⟩=some (.slice p ws.length cap)) (hS : SlB 1 r WdC (.slice p ws.length cap) ws) (hk : 0≤k) (hk2 : k<64*ws.length) (hl : ws.length≤100000)
  (h : K (.bool (bit ws k.toNat)) w) : zB Tryz.prog (.func (.func Tryz.Zu) #[] #[.pointer (some ⟨b,0,none⟩)]) #[.int .i64 k] w K:=by
 refine Yc (by kernel_rfl) ?_
 refine Tryz.QU ?_
 unfold Tryz.Zw
 have hlt : k.toNat / 64<ws.length:=by omega
 obtain ⟨b2,o2,rfl,_,hc⟩:=Xq hS.sl hlt
 have hB : bit ws k.toNat=decide (((ws[k.toNat / 64] >>> (k.toNat % 64)) &&& BitVec.ofInt 64 1).toNat=(1 : Int)):=by
  rw [bit,List.getD_eq_getElem?_getD,List.getElem?_eq_getElem hlt,Option.getD_some,Bool.eq_iff_iff,decide_eq_true_eq,abU]
 rw [hB] at h
 generalize ws[k.toNat / 64]=x at hc h
 refine gg_ ?_
 refine zh (h1 _ hr) ?_
 refine gg_ ?_
 refine zh (by rw [show (k / 64).toNat=k.toNat / 64 by omega];exact hc _ hr) ?_
 refine gg_ ?_
 rw [show (k % 64).toNat=k.toNat % 64 by omega]
 exact h
theorem abD {g : GrD} {x : yk} {v : Value} {b : Nat} {c : List Value} {w : World} {r : Gh} {K : Value→World→Prop} (hr : Holds r w) (hx : LookG r v g) (h1 : Ob r fun w=>w.cell? ⟨b,0,none⟩=some v) (hc : RwbC r c x)
  (h : ∀ w',Ext w w'→K (.bool (Yr g x)) w') : zB Tryz.prog (.func (.func Tryz.Zt) #[] #[.pointer (some ⟨b,0,none⟩)]) #[.agg c.toArray] w K:=by
 refine Yc (by kernel_rfl) ?_
 refine Tryz.QT ?_
 unfold Tryz.Zv
 obtain ⟨W,ws⟩:=x
 have hc0:=hc
 obtain ⟨p,cap,rfl,hS⟩:=hc
 obtain ⟨bl,x1,x2,x3,x4,y1,y2,y3,y4,vn,rfl,hgg,hn,hcl⟩:=hx
 have S:=St.start hr
 refine S.box fun b2 w1 S=>?_
 have S : StX noX w r w1 [.cell b2 [.int .i64 W,.slice p ws.length cap] 31]:=S
 have S:=S.go (Ext.drew _)
 refine S.ldN (b:=b2) (vs:=[.int .i64 W,.slice p ws.length cap]) ?_
 refine vm S.holds hc0.up fun w2 e2=>?_
 have S:=S.go e2
 refine gp_ ?_
 refine zo (c:=decide (W≠g.pts.length)) (fun _ K2 hK2=>?_) ?_
 ·refine gg_ ?_
  refine zh (S.at h1) ?_
  refine gg_ ?_
  refine zh (S.at (hcl 6 _ rfl)) ?_
  refine gg_ ?_
  exact hK2
 exact h _ S.ext
end Go.Proofs
end
section
namespace Go.Proofs
open Go.Sh Go.RowKit Go.BM
set_option maxRecDepth 100000
set_option linter.unusedSimpArgs false
set_option linter.unusedVariables false
theorem ahN {g : GrD} {q : Nat} {p : PtD} (hp : g.pts[q]? = some p) (hq : q<(lkN g).length) : (lkN g)[q]=lkP p:=by
 have h1:=List.getElem?_eq_getElem hq
 have h2 : (lkN g)[q]? = some (lkP p):=by rw [lkN,List.getElem?_map,hp];rfl
 rw [h2] at h1
 exact (Option.some.inj h1).symm
theorem abE {g : GrD} {q : Nat} {p : PtD} (hp : g.pts[q]? = some p) {x : Int} : x ∈ nxt (ze g) (q : Int)↔x ∈ lkP p:=by
 rw [nxt,ze,List.getD_eq_getElem?_getD,List.getElem?_map,Int.toNat_natCast,hp,acJ];rfl
theorem ag1 {g : GrD} {q : Nat} {p : PtD} (hp : g.pts[q]? = some p) {f : Int→Bool} : (lkP p).any f=(nxt (ze g) (q : Int)).any f:=by
 rw [Bool.eq_iff_iff,List.any_eq_true,List.any_eq_true]
 exact ⟨fun ⟨x,h1,h2⟩=>⟨x,(abE hp).2 h1,h2⟩,fun ⟨x,h1,h2⟩=>⟨x,(abE hp).1 h1,h2⟩⟩
theorem ag2 {p : PtD} : (lkP p).length≤2:=by
 rw [lkP,List.length_append]
 split<;>split<;>simp
set_option maxHeartbeats 4000000 in
theorem jQ {u : UnD} {n : Int} {R : List yk} {v vr : Value} {w : World} {r : Gh} {K : Value→World→Prop} (hr : Holds r w) (hu : UnG r v u) (hR : SlG 2 r (RwbC r) vr R) (hRf : R.length≤1000000)
  (h : ∀ w',Ext w w'→K (QY u n R) w') : zd Tryz.prog Tryz.xS #[v,.int .i64 n,vr] w K:=by
 refine Tryz.Vh ?_
 unfold Tryz.YF
 have hu0:=hu
 obtain ⟨p0,cap0,vf,rfl,_,_,hst,hsl,hfn⟩:=hu
 obtain ⟨qf,capf,rfl,_,_⟩:=hfn.sl.shape
 have hR0:=hR
 obtain ⟨pr,cr,rfl,_,_⟩:=hR.shape
 have S:=St.start hr
 refine S.box fun b3 w1 S=>?_
 have S : StX noX w r w1 [.cell b3 [.slice p0 u.ss.length cap0,.slice qf u.fs.length capf,.int .i64 u.mn] 25]:=S
 refine S.ldB (b:=b3) ?_ rfl
 refine qz S.holds hu0 fun vx s w2 e2 n2 hg hz=>?_
 obtain ⟨S,_,as2⟩:=S.tell e2 n2
 refine gS_ ?_
 refine S.al fun b10 w3 S=>?_
 have hvx : vx.oneCell'=true:=by
  by_cases hE : fnE u n=0
  ·obtain ⟨g,_,_,hx⟩:=hg hE
   obtain ⟨b,_,_,_,_,_,_,_,_,_,rfl,_⟩:=hx
   rfl
  ·rw [hz hE];rfl
 refine S.st (b:=b10) (fun w4 S=>?_) (by simp) hvx
 have S : StX noX w (r.or s) w4 [.cell b10 [vx] 57,.cell b3 [.slice p0 u.ss.length cap0,.slice qf u.fs.length capf,.int .i64 u.mn] 25]:=S
 have S:=(S.frzAt b10).tl
 have h10 : Ob ((r.or s).or (Go.Sh.one b10 [vx] 57)) fun w=>w.cell? ⟨b10,0,none⟩=some vx:=fun w' hw'=>by
  have B : Blk w' b10 [vx] 57:=zF w' (hw'.le (h:=inferInstance))
  exact B.cell 0
 have hg' : fnE u n=0→∃ g,u.fs[n.toNat]? = some g∧netU u n=ze g∧LookG ((r.or s).or (Go.Sh.one b10 [vx] 57)) vx g:=fun hE=>by
  obtain ⟨g,h1,h2,h3⟩:=hg hE
  exact ⟨g,h1,h2,h3.up⟩
 have hR1 : SlG 2 ((r.or s).or (Go.Sh.one b10 [vx] 57)) (RwbC ((r.or s).or (Go.Sh.one b10 [vx] 57))) (.slice pr R.length cr) R:=hR0.up' inferInstance fun _ _ h=>h.up
 clear hg hz hvx
 generalize (r.or s).or (Go.Sh.one b10 [vx] 57)=υ at S h10 hg' hR1
 have T:=S
 repeat clear S
 have S:=T
 clear T
 refine gp_ ?_
 refine zo (c:=!(match u.fs[n.toNat]? with|some g=>decide (R.length=g.tys.length)|none=>false)) (fun hb K2 hK2=>?_) ?_
 ·have hE : fnE u n=0:=by simpa using hb
  obtain ⟨g,hgi,hnu,hx⟩:=hg' hE
  obtain ⟨bl,x1,x2,x3,x4,y1,y2,y3,y4,vn,rfl,hgg,hn,hc⟩:=hx
  refine gg_ ?_
  refine zh (S.at h10) ?_
  refine gg_ ?_
  refine zh (S.at (hc 4 _ rfl)) ?_
  refine gg_ ?_
  simp only [hgi] at hK2
  have e : decide ((R.length : Int)≠(g.tys.length : Nat)) = !decide (R.length=g.tys.length):=by
   rw [← decide_not,decide_eq_decide];omega
  rw [e]
  exact hK2
 refine xp (c:=match u.fs[n.toNat]? with|some g=>R.any (Yr g)|none=>false) (fun hb K2 hK2=>?_) fun w5 e5=>?_
 ·have hE : fnE u n=0:=by
   simp only [Bool.or_eq_false_iff,decide_eq_false_iff_not,Decidable.not_not] at hb
   exact hb.1
  obtain ⟨g,hgi,hnu,hx⟩:=hg' hE
  simp only [hgi] at hK2
  refine gp_ ?_
  refine Xu (f:=Yr g) S.holds hR1 (by omega) (fun x hxm c w K hr hc hK=>abD hr hx h10 hc hK) fun w5 e5=>hK2 _ e5
 have S:=S.go e5
 have hYe : okC u n R = !((decide (fnE u n≠0) || !(match u.fs[n.toNat]? with|some g=>decide (R.length=g.tys.length)|none=>false))||(match u.fs[n.toNat]? with|some g=>R.any (Yr g)|none=>false)):=by
  rw [okC]
  by_cases hE : fnE u n=0
  ·obtain ⟨g,hgi,_⟩:=hg' hE
   simp [hgi,hE,Xv]
  ·simp [hE]
 refine c_b (fun hb=>?_) (fun hb=>?_)
 ·rw [hb] at hYe
  rw [QY,hYe] at h
  exact h _ S.ext
 rw [hb] at hYe
 have hE : fnE u n=0:=by
  simp only [Bool.or_eq_false_iff,decide_eq_false_iff_not,Decidable.not_not] at hb
  exact hb.1.1
 obtain ⟨g,hgi,hnu,hx⟩:=hg' hE
 rw [QY,hYe,ZM] at h
 simp only [hgi,Bool.not_false,if_true] at h
 simp only [hgi,Bool.or_eq_false_iff,Bool.not_eq_false',decide_eq_true_eq] at hb
 obtain ⟨⟨_,hRl⟩,hbad⟩:=hb
 have hF:=xO hE hgi
 have hnf:=hF.net.few
 have hmf:=hF.loc.few
 have hgl:=zR (g:=g)
 have hx0:=hx
 obtain ⟨bl,x1,x2,x3,x4,y1,y2,y3,y4,vn,rfl,hgg,hn,hc⟩:=hx
 refine gp_ ?_
 refine zj (ι:=Nat) (fun i=>[.int .i64 (i : Nat)]) (fun i w'=>i≤R.length∧(∀ y<i,∀ p<g.pts.length,ZL g R y p=false)∧StX noX w υ w' []) (fun i=>R.length - i) 0 rfl ⟨Nat.zero_le _,fun y hy=>absurd hy (Nat.not_lt_zero _),S⟩ ?_
 repeat clear S
 rintro i d w17 ⟨hi,hpre,S⟩ K14 hK14
 rw [List.getD_cons_zero]
 refine gp_ ?_
 refine zm (fun hlt=>?_) (fun hge=>?_)
 ·have hlt : i<R.length:=by omega
  obtain ⟨bR,oR,cR,hpr,hcl,hcR,hcell⟩:=hR1.get (by decide) hlt
  have hok : Yr g R[i]=false:=by
   rw [Bool.eq_false_iff];intro hc;rw [List.any_eq_true.2 ⟨_,List.getElem_mem hlt,hc⟩] at hbad;cases hbad
  have hgD : R.getD i (0,[])=R[i]:=by rw [List.getD_eq_getElem?_getD,List.getElem?_eq_getElem hlt];rfl
  have hcI : ∀ q,ZL g R i q=abC g i (vX g R[i]) q:=fun q=>by rw [ZL,hgD]
  generalize R[i]=x at hcR hok hcI
  obtain ⟨W,ws⟩:=x
  obtain ⟨pw,cw,rfl,hS⟩:=hcR
  cases hpr
  rw [Yr,Bool.or_eq_false_iff,Bool.not_eq_false',decide_eq_false_iff_not,Decidable.not_not] at hok
  obtain ⟨hmay,hW⟩:=hok
  have hmay : BM.May W ws:=by
   by_cases hM : BM.May W ws
   ·exact hM
   ·rw [BM.mayB_false hM] at hmay;cases hmay
  have hW : W=(g.pts.length : Int):=hW
  have hwl : (ws.length : Int)=(W+63) / 64:=hmay.2.2.1
  have hmk : ∀ y : Int,isN (ze g) y→mk' (vX g (W,ws)) y=bit ws y.toNat:=fun y hy=>acG hy.1 (by have:=hy.2;omega)
  refine gp_ ?_
  refine zH (n:=2) rfl (fun j v hj=>by rw [Int.toNat_natCast];exact S.at (hcell j v hj)) ?_
  refine S.al fun b12 w18 S=>?_
  refine S.stB (b:=b12) fun w19 S=>?_
  have S : StX noX w υ w19 [.cell b12 [.int .i64 W,.slice pw ws.length cw] 31]:=S
  have S:=S.frzAt b12
  have h12 : Ob (υ.or (Go.Sh.one b12 [.int .i64 W,.slice pw ws.length cw] 31)) fun w=>w.cell? ⟨b12,1,none⟩=some (.slice pw ws.length cw):=fun w' hw'=>by
   have B : Blk w' b12 [.int .i64 W,.slice pw ws.length cw] 31:=zF w' (hw'.le (h:=inferInstance))
   exact B.cell 1
  have hS:=hS.cells (s:=υ.or (Go.Sh.one b12 [.int .i64 W,.slice pw ws.length cw] 31))
  have hx1:=hx0.up (s:=υ.or (Go.Sh.one b12 [.int .i64 W,.slice pw ws.length cw] 31))
  have h101:=h10.up (s:=υ.or (Go.Sh.one b12 [.int .i64 W,.slice pw ws.length cw] 31))
  have hc61:=(hc 6 _ rfl).up (s:=υ.or (Go.Sh.one b12 [.int .i64 W,.slice pw ws.length cw] 31))
  have hcv:=(hc 7 _ rfl).up (s:=υ.or (Go.Sh.one b12 [.int .i64 W,.slice pw ws.length cw] 31))
  have hn1:=NetG.up hn (s:=υ.or (Go.Sh.one b12 [.int .i64 W,.slice pw ws.length cw] 31))
  refine gp_ ?_
  refine zh (S.at h101) ?_
  refine gg_ ?_
  refine zh (S.at hc61) ?_
  refine gg_ ?_
  refine zj (ι:=Nat) (fun i=>[.int .i64 (i : Nat)]) (fun q w'=>q≤g.pts.length∧(∀ p<q,ZL g R i p=false)∧StX noX w (υ.or (Go.Sh.one b12 [.int .i64 W,.slice pw ws.length cw] 31)) w' []) (fun q=>g.pts.length - q) 0 rfl ⟨Nat.zero_le _,fun y hy=>absurd hy (Nat.not_lt_zero _),S⟩ ?_
  repeat clear S
  rintro q d w23 ⟨hq,hpreq,S⟩ K20 hK20
  rw [List.getD_cons_zero]
  refine gp_ ?_
  refine zm (fun hltq=>?_) (fun hgeq=>?_)
  ·have hltq : q<g.pts.length:=by omega
   have hqN : isN (ze g) (q : Int):=⟨by omega,by omega⟩
   obtain ⟨p,hp,hpm,hue,hee⟩:=Yp hqN
   have hp' : g.pts[q]? = some p:=by rw [← hp,Int.toNat_natCast]
   have hus : decide (Usd g (i : Nat) (q : Int))=decide ((i : Int) ∈ zC p):=by rw [← hue];rfl
   have hen : decide (zW g (i : Nat) (q : Int))=decide (yE p=some (i : Int)):=by rw [← hee];rfl
   have hnl : q<(lkN g).length:=by rw [XK];omega
   have hat:=ahN hp' hnl
   obtain ⟨pn,cn,hvn,_,_⟩:=hn1.sl.shape
   subst hvn
   obtain ⟨bn,on,vl,rfl,_,hnc,hnv⟩:=XJ hn1 hnl
   rw [hat] at hnv
   refine zh (S.at h101) ?_
   refine ju S.holds hx1 hqN.1 hp (hF.args p hpm) fun w24 e24=>?_
   have S:=S.go e24
   refine gS_ ?_
   refine zo (c:=decide ((yE p).getD 0≠i)) (fun _ K2 hK2=>by refine gg_ ?_;exact hK2) ?_
   have hEn : (!(yE p).isSome||decide ((yE p).getD 0≠(i : Int))) = !decide (zW g (i : Nat) (q : Int)):=by
    rw [hen]
    cases yE p with
    |none=>rfl
    |some y=>simp
   rw [hEn]
   have hlN : ∀ y ∈ lkP p,isN (ze g) y:=fun y hy=>Xe hF.net.ok ((abE hp').2 hy)
   have hlf:=ag2 (p:=p)
   refine zi (c:=(nxt (ze g) (q : Int)).any fun y=>mk' (vX g (W,ws)) y) (fun _ K2 hK2=>?_) ?_
   ·refine zh (S.at h101) ?_
    refine gg_ ?_
    refine zh (S.at hcv) ?_
    refine gg_ ?_
    refine zh (by rw [Int.toNat_natCast];exact S.at hnc) ?_
    refine YO (f:=fun y=>mk' (vX g (W,ws)) y) S.holds hnv.sl (by omega) (fun y hy K hK=>?_) ?_
    ·have hyN:=hlN y hy
     have y0:=hyN.1;have y1:=hyN.2
     refine Xw S.holds h12 hS y0 (by omega) (by omega) ?_
     rw [← hmk y hyN];exact hK
    ·rw [ag1 hp']
     exact hK2
   refine xp (c:=decide (Usd g (i : Nat) (q : Int))) (fun _ K2 hK2=>?_) fun w37 e37=>?_
   ·refine zh (S.at h101) ?_
    refine ZJ S.holds hx1 hqN.1 hp (hF.args p hpm) fun w38 e38=>?_
    rw [← hus]
    exact hK2 _ e38
   have S:=S.go e37
   refine zi (c:=!mk' (vX g (W,ws)) (q : Int)) (fun _ K2 hK2=>?_) ?_
   ·refine Xw S.holds h12 hS hqN.1 (by omega) (by omega) ?_
    refine gp_ ?_
    rw [hmk _ hqN] at hK2
    exact hK2
   have hcc : ((!decide (zW g (i : Nat) (q : Int))&&((nxt (ze g) (q : Int)).any fun y=>mk' (vX g (W,ws)) y)||decide (Usd g (i : Nat) (q : Int))) && !mk' (vX g (W,ws)) (q : Int))=ZL g R i q:=by
    rw [hcI,abC,yQ,Bool.or_comm (decide (Usd g (i : Nat) (q : Int)))]
   rw [hcc]
   refine c_b (fun hb=>?_) (fun hb=>?_)
   ·have e:=ahM (b:=ZL g R) hlt hltq hpre hpreq hb
    rw [Yq,e] at h
    exact h _ S.ext
   ·refine gp_ ?_
    exact hK20 (q+1) _ ⟨hltq,fun p hp=>by
     rcases Nat.lt_or_ge p q with h|h
     ·exact hpreq p h
     ·rw [show p=q by omega];exact hb,S⟩ (by omega)
  ·have hqe : q=g.pts.length:=by omega
   subst hqe
   refine gp_ ?_
   exact hK14 (i+1) _ ⟨hlt,fun y hy=>by
    rcases Nat.lt_or_ge y i with h|h
    ·exact hpre y h
    ·rw [show y=i by omega];exact hpreq,S.less (fun b o h=>.inl h) (List.Sublist.refl _)⟩ (by omega)
 ·have hie : i=R.length:=by omega
  subst hie
  rw [Yq,acP hpre] at h
  exact h _ S.ext
end Go.Proofs
end
section
namespace Go.Proofs.Tryz
open Go.Sh
set_option maxRecDepth 100000
def j1 (t0 t1 t2 : Value) (w : World) (K : VW) : Prop:=
 pw w (Instr.box 25 t0) fun t3 w1=>
 lo w1 25 t3 fun t16=>ca vP #[t16] w1 fun t17 w2=>
 pp (Op.unary .not t17) fun t18=>za (fun K3=>gIf t18 false (pp (Builtin.len_ #[26] 3 #[t2]) fun t21=>bt .gtr 3 t21 (i6 600) fun t22=>K3 [t22] w2) (K3 [undef] w2)) (fun s4 _d5 w6=>
 zb t18 tr_ (s4.getD 0 undef) fun t23=>zc t23 (ca xe #[] w6 fun t24 w7=>
 K t24 w7) (zr [(i6 0)] w6 (fun s9 _d10 w11 K8=>
 pp (Builtin.len_ #[26] 3 #[t2]) fun t27=>bf .lss 3 (s9.getD 0 undef) t27 fun t28=>zc t28 (px 26 t2 (s9.getD 0 undef) fun t33=>fl w11 t33 31 1 29 fun t35=>pp (Builtin.len_ #[29] 3 #[t35]) fun t36=>bt .gtr 3 t36 (i6 100) fun t37=>zc t37 (ca xe #[] w11 fun t38 w12=>
 K t38 w12) (bt .add 3 (s9.getD 0 undef) (i6 1) fun t30=>K8 [t30] w11)) (lo w11 25 t3 fun t40=>ca jD #[t40,t1] w11 fun t42 w13=>
 pe t42 0 fun t43=>pe t42 1 fun t44=>bt .neq 32 t44 (i6 0) fun t46=>zc t46 (pp (Builtin.len_ #[26] 3 #[t43]) fun t48=>bt .eql 3 t48 (i6 0) fun t49=>za (fun K14=>gIf t49 true (ca xe #[] w13 fun t51 w18=>
 K14 [t51] w18) (K14 [undef] w13)) (fun s15 _d16 w17=>
 zb t49 (s15.getD 0 undef) fa_ fun t52=>K t52 w17)) (lo w13 25 t3 fun t54=>ca xS #[t54,t1,t43] w13 fun t57 w19=>
 pe t57 0 fun _t58=>pe t57 1 fun _t59=>pe t57 2 fun t60=>pe t57 3 fun t61=>pp (Op.unary .not t60) fun t63=>za (fun K20=>gIf t63 false (bt .neq 32 t61 (i6 0) fun t66=>K20 [t66] w19) (K20 [undef] w19)) (fun s21 _d22 w23=>
 zb t63 tr_ (s21.getD 0 undef) fun t67=>zc t67 (K fa_ w23) (lo w23 25 t3 fun t69=>ca xS #[t69,t1,t2] w23 fun t72 w24=>
 pe t72 0 fun _t73=>pe t72 1 fun _t74=>pe t72 2 fun t75=>pe t72 3 fun _t76=>zr [(i6 0)] w24 (fun s26 _d27 w28 K25=>
 pp (Builtin.len_ #[26] 3 #[t43]) fun t79=>bf .lss 3 (s26.getD 0 undef) t79 fun t80=>za (fun K29=>gIf t80 true (K29 [t75] w28) (K29 [undef] w28)) (fun s30 _d31 w32=>
 zb t80 (s30.getD 0 undef) fa_ fun t83=>zc t83 (xl w32.drew 26 t2 (s26.getD 0 undef) 31 fun t90=>xl w32.drew 26 t43 (s26.getD 0 undef) 31 fun t94=>ca Yo #[t90,t94] w32.drew fun t95 w33=>
 pe t95 0 fun t96=>pe t95 1 fun t97=>pp (Op.unary .not t96) fun t99=>za (fun K34=>gIf t99 false (bt .neq 32 t97 (i6 0) fun t102=>K34 [t102] w33) (K34 [undef] w33)) (fun s35 _d36 w37=>
 zb t99 tr_ (s35.getD 0 undef) fun t103=>zc t103 (K fa_ w37) (bt .add 3 (s26.getD 0 undef) (i6 1) fun t85=>K25 [t85] w37))) (ca xe #[] w32 fun t104 w38=>
 K t104 w38))))))))))
theorem Xx {t0 t1 t2 : Value} {w : World} {K : VW} (h : j1 t0 t1 t2 w K) : zd prog jZ #[t0,t1,t2] w K:=
 okC false (.s (.r (rz 2 0 2)) (.s (.s (.r (ra 4 0 9 (.grp 19 false (ri 3 4 0) [22] (rz 1 7 0)))) (.c (.s (.r (rz 2 0 2)) (.n)) (.n))) (.s (.s (.r (rz 1 0 0)) (.b (.lp [7] (.s (.s (.r (rz 4 0 0)) (.c (.n) (.n))) (.s (.b (.s (.r (rz 7 0 256)) (.c (.s (.r (rz 2 0 2)) (.n)) (.n)))) (.r (rz 3 0 0))))))) (.s (.r (rz 8 0 33)) (.s (.s (.r (rz 2 0 0)) (.c (.s (.r (ra 4 0 0 (.grp 50 true (ri 1 4 2) [51] (rz 2 5 0)))) (.n)) (.n))) (.s (.r (rz 13 0 129)) (.s (.s (.r (ra 3 0 0 (.grp 64 false (ri 2 3 0) [66] (rz 1 5 0)))) (.c (.s (.r (rz 1 0 0)) (.n)) (.n))) (.s (.r (rz 11 0 129)) (.s (.s (.r (rz 1 0 0)) (.b (.lp [13] (.s (.s (.r (ra 5 0 0 (.grp 81 true (ri 1 5 0) [82] (rz 1 6 0)))) (.c (.n) (.n))) (.s (.b (.s (.r (rz 14 0 147520)) (.s (.r (ra 3 0 0 (.grp 100 false (ri 2 3 0) [102] (rz 1 5 0)))) (.c (.s (.r (rz 1 0 0)) (.n)) (.n))))) (.r (rz 3 0 0))))))) (.s (.r (rz 2 0 2)) (.n))))))))))) func3 rfl (by kernel_rfl) (by kernel_rfl) h
def Xy (t0 : Value) (w : World) (K : VW) : Prop:=
 pw w (Instr.box 25 t0) fun t1 w1=>
 fl w1 t1 25 0 22 fun t7=>pp (Builtin.len_ #[22] 3 #[t7]) fun t8=>bt .gtr 3 t8 (i6 40) fun t9=>za (fun K2=>gIf t9 false (fl w1 t1 25 1 23 fun t12=>pp (Builtin.len_ #[23] 3 #[t12]) fun t13=>bt .gtr 3 t13 (i6 40) fun t14=>K2 [t14] w1) (K2 [undef] w1)) (fun s3 _d4 w5=>
 zb t9 tr_ (s3.getD 0 undef) fun t15=>zc t15 (K fa_ w5) (zr [(i6 0)] w5 (fun s7 _d8 w9 K6=>
 fl w9 t1 25 0 22 fun t18=>pp (Builtin.len_ #[22] 3 #[t18]) fun t19=>bf .lss 3 (s7.getD 0 undef) t19 fun t20=>zc t20 (fl w9 t1 25 0 22 fun t24=>px 22 t24 (s7.getD 0 undef) fun t26=>fl w9 t26 42 1 40 fun t28=>pp (Builtin.len_ #[40] 3 #[t28]) fun t29=>bt .gtr 3 t29 (i6 20) fun t30=>zc t30 (K fa_ w9) (bt .add 3 (s7.getD 0 undef) (i6 1) fun t22=>K6 [t22] w9)) (zr [(i6 0),(i6 0)] w9 (fun s11 _d12 w13 K10=>
 fl w13 t1 25 1 23 fun t33=>pp (Builtin.len_ #[23] 3 #[t33]) fun t34=>bf .lss 3 (s11.getD 1 undef) t34 fun t35=>zc t35 (fl w13.drew t1 25 1 23 fun t40=>px 23 t40 (s11.getD 1 undef) fun t42=>fl w13.drew t42 48 6 46 fun t44=>pp (Builtin.len_ #[46] 3 #[t44]) fun t45=>fl w13.drew t1 25 1 23 fun t47=>px 23 t47 (s11.getD 1 undef) fun t49=>fl w13.drew t49 48 4 44 fun t51=>pp (Builtin.len_ #[44] 3 #[t51]) fun t52=>bf .add 3 t45 t52 fun t53=>bf .add 3 (s11.getD 0 undef) t53 fun t54=>fl w13.drew t1 25 1 23 fun t56=>px 23 t56 (s11.getD 1 undef) fun t58=>fl w13.drew t58 48 6 46 fun t60=>pp (Builtin.len_ #[46] 3 #[t60]) fun t61=>bt .gtr 3 t61 (i6 150) fun t62=>za (fun K14=>gIf t62 false (fl w13.drew t1 25 1 23 fun t65=>px 23 t65 (s11.getD 1 undef) fun t67=>fl w13.drew t67 48 4 44 fun t69=>pp (Builtin.len_ #[44] 3 #[t69]) fun t70=>bt .gtr 3 t70 (i6 150) fun t71=>K14 [t71] w13.drew) (K14 [undef] w13.drew)) (fun s15 _d16 w17=>
 zb t62 tr_ (s15.getD 0 undef) fun t72=>za (fun K18=>gIf t72 false (bt .gtr 3 t54 (i6 600) fun t75=>K18 [t75] w17) (K18 [undef] w17)) (fun s19 _d20 w21=>
 zb t72 tr_ (s19.getD 0 undef) fun t76=>zc t76 (K fa_ w21) (bt .add 3 (s11.getD 1 undef) (i6 1) fun t37=>K10 [t54,t37] w21)))) (K tr_ w13))))))
theorem aae {t0 : Value} {w : World} {K : VW} (h : Xy t0 w K) : zd prog vP #[t0] w K:=
 okC false (.s (.r (rz 2 0 2)) (.s (.s (.r (ra 5 0 4 (.grp 10 false (ri 4 5 4) [14] (rz 1 9 0)))) (.c (.s (.r (rz 1 0 0)) (.n)) (.n))) (.s (.r (rz 1 0 0)) (.s (.s (.r (rz 1 0 0)) (.b (.lp [4] (.s (.s (.r (rz 5 0 16)) (.c (.n) (.n))) (.s (.b (.s (.r (rz 8 0 1028)) (.c (.s (.r (rz 1 0 0)) (.n)) (.n)))) (.r (rz 3 0 0))))))) (.s (.s (.r (rz 1 0 0)) (.b (.lp [3,5] (.s (.s (.r (rz 5 0 16)) (.c (.n) (.n))) (.s (.b (.s (.r (rz 18 0 67375120)) (.s (.r (ra 9 0 1028 (.grp 63 false (ri 8 9 1028) [71] (ra 2 17 0 (.grp 73 false (ri 2 19 0) [75] (rz 1 21 0)))))) (.c (.s (.r (rz 1 0 0)) (.n)) (.n))))) (.r (rz 3 0 0))))))) (.s (.r (rz 1 0 0)) (.n))))))) func4 rfl (by kernel_rfl) (by kernel_rfl) h
def YG (w : World) (K : VW) : Prop:=
 ca vQ #[] w fun t18 w1=>
 pw w1 (Instr.alloc 25 true (.tuple #[])) fun t1 w2=>
 so w2 25 t1 t18 fun w3=>lo w3 25 t1 fun t20=>ca jD #[t20,(i6 0)] w3 fun t21 w4=>
 pe t21 0 fun t22=>pe t21 1 fun t23=>lo w4 25 t1 fun t25=>ca Xl #[t25,(i6 0),(i6 1)] w4 fun t26 w5=>
 pe t26 0 fun t27=>pe t26 1 fun t28=>lo w5 25 t1 fun t30=>ca ZE #[t30,(i6 0),(i6 2)] w5 fun t31 w6=>
 pe t31 0 fun t32=>pe t31 1 fun t33=>lo w6 25 t1 fun t35=>ca ZF #[t35,(i6 0),(i6 0)] w6 fun t36 w7=>
 pe t36 0 fun t37=>pe t36 1 fun t38=>pe t36 2 fun t39=>lo w7 25 t1 fun t41=>ca Ym #[t41,(i6 0),(i6 2),(i6 1)] w7 fun t42 w8=>
 pe t42 0 fun t43=>pe t42 1 fun t44=>pe t42 2 fun t45=>lo w8 25 t1 fun t47=>ca xS #[t47,(i6 0),t22] w8 fun t49 w9=>
 pe t49 0 fun _t50=>pe t49 1 fun _t51=>pe t49 2 fun t52=>pe t49 3 fun t53=>bt .eql 32 t23 (i6 0) fun t55=>za (fun K10=>gIf t55 true (pp (Builtin.len_ #[26] 3 #[t22]) fun t58=>bt .eql 3 t58 (i6 3) fun t59=>K10 [t59] w9) (K10 [undef] w9)) (fun s11 _d12 w13=>
 zb t55 (s11.getD 0 undef) fa_ fun t60=>za (fun K14=>gIf t60 true (px 26 t22 (i6 2) fun t63=>fl w13 t63 31 0 3 fun t65=>bt .eql 3 t65 (i6 4) fun t66=>K14 [t66] w13) (K14 [undef] w13)) (fun s15 _d16 w17=>
 zb t60 (s15.getD 0 undef) fa_ fun t67=>za (fun K18=>gIf t67 true (bt .eql 32 t28 (i6 0) fun t70=>K18 [t70] w17) (K18 [undef] w17)) (fun s19 _d20 w21=>
 zb t67 (s19.getD 0 undef) fa_ fun t71=>za (fun K22=>gIf t71 true (pp (Builtin.len_ #[50] 3 #[t27]) fun t74=>bt .eql 3 t74 (i6 2) fun t75=>K22 [t75] w21) (K22 [undef] w21)) (fun s23 _d24 w25=>
 zb t71 (s23.getD 0 undef) fa_ fun t76=>za (fun K26=>gIf t76 true (xl w25 50 t27 (i6 0) 3 fun t80=>bt .eql 3 t80 (i6 0) fun t81=>K26 [t81] w25) (K26 [undef] w25)) (fun s27 _d28 w29=>
 zb t76 (s27.getD 0 undef) fa_ fun t82=>za (fun K30=>gIf t82 true (xl w29 50 t27 (i6 1) 3 fun t86=>bt .eql 3 t86 (i6 2) fun t87=>K30 [t87] w29) (K30 [undef] w29)) (fun s31 _d32 w33=>
 zb t82 (s31.getD 0 undef) fa_ fun t88=>za (fun K34=>gIf t88 true (bt .eql 32 t33 (i6 0) fun t91=>K34 [t91] w33) (K34 [undef] w33)) (fun s35 _d36 w37=>
 zb t88 (s35.getD 0 undef) fa_ fun t92=>za (fun K38=>gIf t92 true (pp (Builtin.len_ #[50] 3 #[t32]) fun t95=>bt .eql 3 t95 (i6 1) fun t96=>K38 [t96] w37) (K38 [undef] w37)) (fun s39 _d40 w41=>
 zb t92 (s39.getD 0 undef) fa_ fun t97=>za (fun K42=>gIf t97 true (xl w41 50 t32 (i6 0) 3 fun t101=>bt .eql 3 t101 (i6 2) fun t102=>K42 [t102] w41) (K42 [undef] w41)) (fun s43 _d44 w45=>
 zb t97 (s43.getD 0 undef) fa_ fun t103=>za (fun K46=>gIf t103 true (bt .eql 3 t37 (i6 2) fun t106=>K46 [t106] w45) (K46 [undef] w45)) (fun s47 _d48 w49=>
 zb t103 (s47.getD 0 undef) fa_ fun t107=>za (fun K50=>gIf t107 true (K50 [t38] w49) (K50 [undef] w49)) (fun s51 _d52 w53=>
 zb t107 (s51.getD 0 undef) fa_ fun t110=>za (fun K54=>gIf t110 true (bt .eql 32 t39 (i6 0) fun t113=>K54 [t113] w53) (K54 [undef] w53)) (fun s55 _d56 w57=>
 zb t110 (s55.getD 0 undef) fa_ fun t114=>za (fun K58=>gIf t114 true (K58 [t44] w57) (K58 [undef] w57)) (fun s59 _d60 w61=>
 zb t114 (s59.getD 0 undef) fa_ fun t117=>za (fun K62=>gIf t117 true (pp (Builtin.len_ #[50] 3 #[t43]) fun t120=>bt .eql 3 t120 (i6 2) fun t121=>K62 [t121] w61) (K62 [undef] w61)) (fun s63 _d64 w65=>
 zb t117 (s63.getD 0 undef) fa_ fun t122=>za (fun K66=>gIf t122 true (bt .eql 32 t45 (i6 0) fun t125=>K66 [t125] w65) (K66 [undef] w65)) (fun s67 _d68 w69=>
 zb t122 (s67.getD 0 undef) fa_ fun t126=>za (fun K70=>gIf t126 true (K70 [t52] w69) (K70 [undef] w69)) (fun s71 _d72 w73=>
 zb t126 (s71.getD 0 undef) fa_ fun t129=>za (fun K74=>gIf t129 true (bt .eql 32 t53 (i6 0) fun t132=>K74 [t132] w73) (K74 [undef] w73)) (fun s75 _d76 w77=>
 zb t129 (s75.getD 0 undef) fa_ fun t133=>K t133 w77)))))))))))))))))
theorem Vj {w : World} {K : VW} (h : YG  w K) : zd prog xe #[] w K:=
 okC false (.s (.r (rz 1 0 0)) (.s (.r (rz 3 0 42)) (.s (.r (rz 7 0 9)) (.s (.r (rz 7 0 9)) (.s (.r (rz 7 0 9)) (.s (.r (rz 9 0 9)) (.s (.r (rz 9 0 9)) (.s (.r (rz 12 0 33)) (.s (.r (ra 3 0 0 (.grp 56 true (ri 3 3 0) [59] (ra 2 6 0 (.grp 61 true (ri 5 8 64) [66] (ra 2 13 0 (.grp 68 true (ri 2 15 0) [70] (ra 2 17 0 (.grp 72 true (ri 3 19 0) [75] (ra 2 22 0 (.grp 77 true (ri 4 24 16) [81] (ra 2 28 0 (.grp 83 true (ri 4 30 16) [87] (ra 2 34 0 (.grp 89 true (ri 2 36 0) [91] (ra 2 38 0 (.grp 93 true (ri 3 40 0) [96] (ra 2 43 0 (.grp 98 true (ri 4 45 16) [102] (ra 2 49 0 (.grp 104 true (ri 2 51 0) [106] (ra 2 53 0 (.grp 108 true (ri 1 55 0) [109] (ra 2 56 0 (.grp 111 true (ri 2 58 0) [113] (ra 2 60 0 (.grp 115 true (ri 1 62 0) [116] (ra 2 63 0 (.grp 118 true (ri 3 65 0) [121] (ra 2 68 0 (.grp 123 true (ri 2 70 0) [125] (ra 2 72 0 (.grp 127 true (ri 1 74 0) [128] (ra 2 75 0 (.grp 130 true (ri 2 77 0) [132] (rz 2 79 0)))))))))))))))))))))))))))))))))))) (.n)))))))))) func5 rfl (by kernel_rfl) (by kernel_rfl) h
def Xz (w : World) (K : VW) : Prop:=
 pw w (Instr.alloc 25 true (.tuple #[])) fun t0 w1=>
 pw w1 (Instr.buildSlice 78 1 #[(0,(i6 (-1)))]) fun t2 w2=>
 pp (Instr.build 80 #[(0,(i6 2)),(1,t2)]) fun t3=>pw w2 (Instr.alloc 80 true (.tuple #[])) fun t1 w3=>
 so w3 80 t1 t3 fun w4=>pp (Instr.build 80 #[(0,(i6 2))]) fun t9=>pp (Instr.build 80 #[(0,(i6 1))]) fun t10=>pp (Instr.build 92 #[(0,(Value.int .u8 4)),(1,t9),(6,t10),(7,tr_),(10,(i6 1))]) fun t11=>pp (Instr.build 80 #[(0,(i6 1))]) fun t12=>lo w4.drew 80 t1 fun t15=>pp (Instr.build 92 #[(0,(Value.int .u8 14))]) fun t18=>((ca yS #[] w4.drew fun t4 w5=>
 Ext w4.drew w5∧
 ((ca yS #[] w5 fun t5 w6=>
 Ext w5 w6∧
 ((ca x6 #[tr_] w6 fun t6 w7=>
 Ext w6 w7∧
 ((pw w7 (Instr.buildSlice 44 3 #[(0,t4),(1,t5),(2,t6)]) fun t7 w8=>
 Ext w7 w8∧
 ((pw w8 (Instr.makeSlice 45 (i6 3) (i6 3)) fun t8 w9=>
 Ext w8 w9∧
 ca zk #[(i6 2)] w9 fun t13 w10=>
 Ext w9 w10∧
 pp (Instr.build 92 #[(0,(Value.int .u8 1)),(1,t12),(2,t13),(10,(i6 2))]) fun t14=>ca zk #[(i6 3)] w10 fun t16 w11=>
 Ext w10 w11∧
 pp (Instr.build 92 #[(0,(Value.int .u8 1)),(1,t15),(2,t16),(10,(i6 3))]) fun t17=>pw w11 (Instr.buildSlice 46 4 #[(0,t11),(1,t14),(2,t17),(3,t18)]) fun t19 w12=>
 pp (Instr.build 48 #[(4,t7),(5,t8),(6,t19)]) fun t20=>pw w12 (Instr.buildSlice 23 1 #[(0,t20)]) fun t21 w13=>
 pp (Instr.build 25 #[(1,t21)]) fun t22=>so w13 25 t0 t22 fun w14=>pq w14 (zf 25 t0) fun r15=>K r15 w14)∧
 (ca zk #[(i6 2)] w8 fun t13_17 w16=>
 Ext w8 w16∧
 pp (Instr.build 92 #[(0,(Value.int .u8 1)),(1,t12),(2,t13_17),(10,(i6 2))]) fun t14_18=>((pw w16 (Instr.makeSlice 45 (i6 3) (i6 3)) fun t8_20 w19=>
 Ext w16 w19∧
 ca zk #[(i6 3)] w19 fun t16_22 w21=>
 Ext w19 w21∧
 pp (Instr.build 92 #[(0,(Value.int .u8 1)),(1,t15),(2,t16_22),(10,(i6 3))]) fun t17_23=>pw w21 (Instr.buildSlice 46 4 #[(0,t11),(1,t14_18),(2,t17_23),(3,t18)]) fun t19_25 w24=>
 pp (Instr.build 48 #[(4,t7),(5,t8_20),(6,t19_25)]) fun t20_26=>pw w24 (Instr.buildSlice 23 1 #[(0,t20_26)]) fun t21_28 w27=>
 pp (Instr.build 25 #[(1,t21_28)]) fun t22_29=>so w27 25 t0 t22_29 fun w30=>pq w30 (zf 25 t0) fun r31=>K r31 w30)∧
 (ca zk #[(i6 3)] w16 fun t16_33 w32=>
 Ext w16 w32∧
 pp (Instr.build 92 #[(0,(Value.int .u8 1)),(1,t15),(2,t16_33),(10,(i6 3))]) fun t17_34=>((pw w32 (Instr.makeSlice 45 (i6 3) (i6 3)) fun t8_36 w35=>
 Ext w32 w35∧
 pw w35 (Instr.buildSlice 46 4 #[(0,t11),(1,t14_18),(2,t17_34),(3,t18)]) fun t19_38 w37=>
 pp (Instr.build 48 #[(4,t7),(5,t8_36),(6,t19_38)]) fun t20_39=>pw w37 (Instr.buildSlice 23 1 #[(0,t20_39)]) fun t21_41 w40=>
 pp (Instr.build 25 #[(1,t21_41)]) fun t22_42=>so w40 25 t0 t22_42 fun w43=>pq w43 (zf 25 t0) fun r44=>K r44 w43)∧
 (pw w32 (Instr.buildSlice 46 4 #[(0,t11),(1,t14_18),(2,t17_34),(3,t18)]) fun t19_46 w45=>
 pw w45 (Instr.makeSlice 45 (i6 3) (i6 3)) fun t8_48 w47=>
 Ext w45 w47∧
 pp (Instr.build 48 #[(4,t7),(5,t8_48),(6,t19_46)]) fun t20_49=>pw w47 (Instr.buildSlice 23 1 #[(0,t20_49)]) fun t21_51 w50=>
 pp (Instr.build 25 #[(1,t21_51)]) fun t22_52=>so w50 25 t0 t22_52 fun w53=>pq w53 (zf 25 t0) fun r54=>K r54 w53)))))))∧
 (((pw w7 (Instr.makeSlice 45 (i6 3) (i6 3)) fun t8_56 w55=>
 Ext w7 w55∧
 ((pw w55 (Instr.buildSlice 44 3 #[(0,t4),(1,t5),(2,t6)]) fun t7_58 w57=>
 Ext w55 w57∧
 ca zk #[(i6 2)] w57 fun t13_60 w59=>
 Ext w57 w59∧
 pp (Instr.build 92 #[(0,(Value.int .u8 1)),(1,t12),(2,t13_60),(10,(i6 2))]) fun t14_61=>ca zk #[(i6 3)] w59 fun t16_63 w62=>
 Ext w59 w62∧
 pp (Instr.build 92 #[(0,(Value.int .u8 1)),(1,t15),(2,t16_63),(10,(i6 3))]) fun t17_64=>pw w62 (Instr.buildSlice 46 4 #[(0,t11),(1,t14_61),(2,t17_64),(3,t18)]) fun t19_66 w65=>
 pp (Instr.build 48 #[(4,t7_58),(5,t8_56),(6,t19_66)]) fun t20_67=>pw w65 (Instr.buildSlice 23 1 #[(0,t20_67)]) fun t21_69 w68=>
 pp (Instr.build 25 #[(1,t21_69)]) fun t22_70=>so w68 25 t0 t22_70 fun w71=>pq w71 (zf 25 t0) fun r72=>K r72 w71)∧
 (ca zk #[(i6 2)] w55 fun t13_74 w73=>
 Ext w55 w73∧
 pp (Instr.build 92 #[(0,(Value.int .u8 1)),(1,t12),(2,t13_74),(10,(i6 2))]) fun t14_75=>((pw w73 (Instr.buildSlice 44 3 #[(0,t4),(1,t5),(2,t6)]) fun t7_77 w76=>
 Ext w73 w76∧
 ca zk #[(i6 3)] w76 fun t16_79 w78=>
 Ext w76 w78∧
 pp (Instr.build 92 #[(0,(Value.int .u8 1)),(1,t15),(2,t16_79),(10,(i6 3))]) fun t17_80=>pw w78 (Instr.buildSlice 46 4 #[(0,t11),(1,t14_75),(2,t17_80),(3,t18)]) fun t19_82 w81=>
 pp (Instr.build 48 #[(4,t7_77),(5,t8_56),(6,t19_82)]) fun t20_83=>pw w81 (Instr.buildSlice 23 1 #[(0,t20_83)]) fun t21_85 w84=>
 pp (Instr.build 25 #[(1,t21_85)]) fun t22_86=>so w84 25 t0 t22_86 fun w87=>pq w87 (zf 25 t0) fun r88=>K r88 w87)∧
 (ca zk #[(i6 3)] w73 fun t16_90 w89=>
 Ext w73 w89∧
 pp (Instr.build 92 #[(0,(Value.int .u8 1)),(1,t15),(2,t16_90),(10,(i6 3))]) fun t17_91=>((pw w89 (Instr.buildSlice 44 3 #[(0,t4),(1,t5),(2,t6)]) fun t7_93 w92=>
 Ext w89 w92∧
 pw w92 (Instr.buildSlice 46 4 #[(0,t11),(1,t14_75),(2,t17_91),(3,t18)]) fun t19_95 w94=>
 pp (Instr.build 48 #[(4,t7_93),(5,t8_56),(6,t19_95)]) fun t20_96=>pw w94 (Instr.buildSlice 23 1 #[(0,t20_96)]) fun t21_98 w97=>
 pp (Instr.build 25 #[(1,t21_98)]) fun t22_99=>so w97 25 t0 t22_99 fun w100=>pq w100 (zf 25 t0) fun r101=>K r101 w100)∧
 (pw w89 (Instr.buildSlice 46 4 #[(0,t11),(1,t14_75),(2,t17_91),(3,t18)]) fun t19_103 w102=>
 pw w102 (Instr.buildSlice 44 3 #[(0,t4),(1,t5),(2,t6)]) fun t7_105 w104=>
 Ext w102 w104∧
 pp (Instr.build 48 #[(4,t7_105),(5,t8_56),(6,t19_103)]) fun t20_106=>pw w104 (Instr.buildSlice 23 1 #[(0,t20_106)]) fun t21_108 w107=>
 pp (Instr.build 25 #[(1,t21_108)]) fun t22_109=>so w107 25 t0 t22_109 fun w110=>pq w110 (zf 25 t0) fun r111=>K r111 w110)))))))∧
 (ca zk #[(i6 2)] w7 fun t13_113 w112=>
 Ext w7 w112∧
 pp (Instr.build 92 #[(0,(Value.int .u8 1)),(1,t12),(2,t13_113),(10,(i6 2))]) fun t14_114=>((pw w112 (Instr.buildSlice 44 3 #[(0,t4),(1,t5),(2,t6)]) fun t7_116 w115=>
 Ext w112 w115∧
 ((pw w115 (Instr.makeSlice 45 (i6 3) (i6 3)) fun t8_118 w117=>
 Ext w115 w117∧
 ca zk #[(i6 3)] w117 fun t16_120 w119=>
 Ext w117 w119∧
 pp (Instr.build 92 #[(0,(Value.int .u8 1)),(1,t15),(2,t16_120),(10,(i6 3))]) fun t17_121=>pw w119 (Instr.buildSlice 46 4 #[(0,t11),(1,t14_114),(2,t17_121),(3,t18)]) fun t19_123 w122=>
 pp (Instr.build 48 #[(4,t7_116),(5,t8_118),(6,t19_123)]) fun t20_124=>pw w122 (Instr.buildSlice 23 1 #[(0,t20_124)]) fun t21_126 w125=>
 pp (Instr.build 25 #[(1,t21_126)]) fun t22_127=>so w125 25 t0 t22_127 fun w128=>pq w128 (zf 25 t0) fun r129=>K r129 w128)∧
 (ca zk #[(i6 3)] w115 fun t16_131 w130=>
 Ext w115 w130∧
 pp (Instr.build 92 #[(0,(Value.int .u8 1)),(1,t15),(2,t16_131),(10,(i6 3))]) fun t17_132=>((pw w130 (Instr.makeSlice 45 (i6 3) (i6 3)) fun t8_134 w133=>
 Ext w130 w133∧
 pw w133 (Instr.buildSlice 46 4 #[(0,t11),(1,t14_114),(2,t17_132),(3,t18)]) fun t19_136 w135=>
 pp (Instr.build 48 #[(4,t7_116),(5,t8_134),(6,t19_136)]) fun t20_137=>pw w135 (Instr.buildSlice 23 1 #[(0,t20_137)]) fun t21_139 w138=>
 pp (Instr.build 25 #[(1,t21_139)]) fun t22_140=>so w138 25 t0 t22_140 fun w141=>pq w141 (zf 25 t0) fun r142=>K r142 w141)∧
 (pw w130 (Instr.buildSlice 46 4 #[(0,t11),(1,t14_114),(2,t17_132),(3,t18)]) fun t19_144 w143=>
 pw w143 (Instr.makeSlice 45 (i6 3) (i6 3)) fun t8_146 w145=>
 Ext w143 w145∧
 pp (Instr.build 48 #[(4,t7_116),(5,t8_146),(6,t19_144)]) fun t20_147=>pw w145 (Instr.buildSlice 23 1 #[(0,t20_147)]) fun t21_149 w148=>
 pp (Instr.build 25 #[(1,t21_149)]) fun t22_150=>so w148 25 t0 t22_150 fun w151=>pq w151 (zf 25 t0) fun r152=>K r152 w151)))))∧
 (((pw w112 (Instr.makeSlice 45 (i6 3) (i6 3)) fun t8_154 w153=>
 Ext w112 w153∧
 ((pw w153 (Instr.buildSlice 44 3 #[(0,t4),(1,t5),(2,t6)]) fun t7_156 w155=>
 Ext w153 w155∧
 ca zk #[(i6 3)] w155 fun t16_158 w157=>
 Ext w155 w157∧
 pp (Instr.build 92 #[(0,(Value.int .u8 1)),(1,t15),(2,t16_158),(10,(i6 3))]) fun t17_159=>pw w157 (Instr.buildSlice 46 4 #[(0,t11),(1,t14_114),(2,t17_159),(3,t18)]) fun t19_161 w160=>
 pp (Instr.build 48 #[(4,t7_156),(5,t8_154),(6,t19_161)]) fun t20_162=>pw w160 (Instr.buildSlice 23 1 #[(0,t20_162)]) fun t21_164 w163=>
 pp (Instr.build 25 #[(1,t21_164)]) fun t22_165=>so w163 25 t0 t22_165 fun w166=>pq w166 (zf 25 t0) fun r167=>K r167 w166)∧
 (ca zk #[(i6 3)] w153 fun t16_169 w168=>
 Ext w153 w168∧
 pp (Instr.build 92 #[(0,(Value.int .u8 1)),(1,t15),(2,t16_169),(10,(i6 3))]) fun t17_170=>((pw w168 (Instr.buildSlice 44 3 #[(0,t4),(1,t5),(2,t6)]) fun t7_172 w171=>
 Ext w168 w171∧
 pw w171 (Instr.buildSlice 46 4 #[(0,t11),(1,t14_114),(2,t17_170),(3,t18)]) fun t19_174 w173=>
 pp (Instr.build 48 #[(4,t7_172),(5,t8_154),(6,t19_174)]) fun t20_175=>pw w173 (Instr.buildSlice 23 1 #[(0,t20_175)]) fun t21_177 w176=>
 pp (Instr.build 25 #[(1,t21_177)]) fun t22_178=>so w176 25 t0 t22_178 fun w179=>pq w179 (zf 25 t0) fun r180=>K r180 w179)∧
 (pw w168 (Instr.buildSlice 46 4 #[(0,t11),(1,t14_114),(2,t17_170),(3,t18)]) fun t19_182 w181=>
 pw w181 (Instr.buildSlice 44 3 #[(0,t4),(1,t5),(2,t6)]) fun t7_184 w183=>
 Ext w181 w183∧
 pp (Instr.build 48 #[(4,t7_184),(5,t8_154),(6,t19_182)]) fun t20_185=>pw w183 (Instr.buildSlice 23 1 #[(0,t20_185)]) fun t21_187 w186=>
 pp (Instr.build 25 #[(1,t21_187)]) fun t22_188=>so w186 25 t0 t22_188 fun w189=>pq w189 (zf 25 t0) fun r190=>K r190 w189)))))∧
 (ca zk #[(i6 3)] w112 fun t16_192 w191=>
 Ext w112 w191∧
 pp (Instr.build 92 #[(0,(Value.int .u8 1)),(1,t15),(2,t16_192),(10,(i6 3))]) fun t17_193=>((pw w191 (Instr.buildSlice 44 3 #[(0,t4),(1,t5),(2,t6)]) fun t7_195 w194=>
 Ext w191 w194∧
 ((pw w194 (Instr.makeSlice 45 (i6 3) (i6 3)) fun t8_197 w196=>
 Ext w194 w196∧
 pw w196 (Instr.buildSlice 46 4 #[(0,t11),(1,t14_114),(2,t17_193),(3,t18)]) fun t19_199 w198=>
 pp (Instr.build 48 #[(4,t7_195),(5,t8_197),(6,t19_199)]) fun t20_200=>pw w198 (Instr.buildSlice 23 1 #[(0,t20_200)]) fun t21_202 w201=>
 pp (Instr.build 25 #[(1,t21_202)]) fun t22_203=>so w201 25 t0 t22_203 fun w204=>pq w204 (zf 25 t0) fun r205=>K r205 w204)∧
 (pw w194 (Instr.buildSlice 46 4 #[(0,t11),(1,t14_114),(2,t17_193),(3,t18)]) fun t19_207 w206=>
 pw w206 (Instr.makeSlice 45 (i6 3) (i6 3)) fun t8_209 w208=>
 Ext w206 w208∧
 pp (Instr.build 48 #[(4,t7_195),(5,t8_209),(6,t19_207)]) fun t20_210=>pw w208 (Instr.buildSlice 23 1 #[(0,t20_210)]) fun t21_212 w211=>
 pp (Instr.build 25 #[(1,t21_212)]) fun t22_213=>so w211 25 t0 t22_213 fun w214=>pq w214 (zf 25 t0) fun r215=>K r215 w214)))∧
 (((pw w191 (Instr.makeSlice 45 (i6 3) (i6 3)) fun t8_217 w216=>
 Ext w191 w216∧
 ((pw w216 (Instr.buildSlice 44 3 #[(0,t4),(1,t5),(2,t6)]) fun t7_219 w218=>
 Ext w216 w218∧
 pw w218 (Instr.buildSlice 46 4 #[(0,t11),(1,t14_114),(2,t17_193),(3,t18)]) fun t19_221 w220=>
 pp (Instr.build 48 #[(4,t7_219),(5,t8_217),(6,t19_221)]) fun t20_222=>pw w220 (Instr.buildSlice 23 1 #[(0,t20_222)]) fun t21_224 w223=>
 pp (Instr.build 25 #[(1,t21_224)]) fun t22_225=>so w223 25 t0 t22_225 fun w226=>pq w226 (zf 25 t0) fun r227=>K r227 w226)∧
 (pw w216 (Instr.buildSlice 46 4 #[(0,t11),(1,t14_114),(2,t17_193),(3,t18)]) fun t19_229 w228=>
 pw w228 (Instr.buildSlice 44 3 #[(0,t4),(1,t5),(2,t6)]) fun t7_231 w230=>
 Ext w228 w230∧
 pp (Instr.build 48 #[(4,t7_231),(5,t8_217),(6,t19_229)]) fun t20_232=>pw w230 (Instr.buildSlice 23 1 #[(0,t20_232)]) fun t21_234 w233=>
 pp (Instr.build 25 #[(1,t21_234)]) fun t22_235=>so w233 25 t0 t22_235 fun w236=>pq w236 (zf 25 t0) fun r237=>K r237 w236)))∧
 (pw w191 (Instr.buildSlice 46 4 #[(0,t11),(1,t14_114),(2,t17_193),(3,t18)]) fun t19_239 w238=>
 ((pw w238 (Instr.buildSlice 44 3 #[(0,t4),(1,t5),(2,t6)]) fun t7_241 w240=>
 Ext w238 w240∧
 pw w240 (Instr.makeSlice 45 (i6 3) (i6 3)) fun t8_243 w242=>
 Ext w240 w242∧
 pp (Instr.build 48 #[(4,t7_241),(5,t8_243),(6,t19_239)]) fun t20_244=>pw w242 (Instr.buildSlice 23 1 #[(0,t20_244)]) fun t21_246 w245=>
 pp (Instr.build 25 #[(1,t21_246)]) fun t22_247=>so w245 25 t0 t22_247 fun w248=>pq w248 (zf 25 t0) fun r249=>K r249 w248)∧
 (pw w238 (Instr.makeSlice 45 (i6 3) (i6 3)) fun t8_251 w250=>
 Ext w238 w250∧
 pw w250 (Instr.buildSlice 44 3 #[(0,t4),(1,t5),(2,t6)]) fun t7_253 w252=>
 Ext w250 w252∧
 pp (Instr.build 48 #[(4,t7_253),(5,t8_251),(6,t19_239)]) fun t20_254=>pw w252 (Instr.buildSlice 23 1 #[(0,t20_254)]) fun t21_256 w255=>
 pp (Instr.build 25 #[(1,t21_256)]) fun t22_257=>so w255 25 t0 t22_257 fun w258=>pq w258 (zf 25 t0) fun r259=>K r259 w258)))))))))))))))∧
 (pw w6 (Instr.makeSlice 45 (i6 3) (i6 3)) fun t8_261 w260=>
 Ext w6 w260∧
 ca x6 #[tr_] w260 fun t6_263 w262=>
 Ext w260 w262∧
 ((pw w262 (Instr.buildSlice 44 3 #[(0,t4),(1,t5),(2,t6_263)]) fun t7_265 w264=>
 Ext w262 w264∧
 ca zk #[(i6 2)] w264 fun t13_267 w266=>
 Ext w264 w266∧
 pp (Instr.build 92 #[(0,(Value.int .u8 1)),(1,t12),(2,t13_267),(10,(i6 2))]) fun t14_268=>ca zk #[(i6 3)] w266 fun t16_270 w269=>
 Ext w266 w269∧
 pp (Instr.build 92 #[(0,(Value.int .u8 1)),(1,t15),(2,t16_270),(10,(i6 3))]) fun t17_271=>pw w269 (Instr.buildSlice 46 4 #[(0,t11),(1,t14_268),(2,t17_271),(3,t18)]) fun t19_273 w272=>
 pp (Instr.build 48 #[(4,t7_265),(5,t8_261),(6,t19_273)]) fun t20_274=>pw w272 (Instr.buildSlice 23 1 #[(0,t20_274)]) fun t21_276 w275=>
 pp (Instr.build 25 #[(1,t21_276)]) fun t22_277=>so w275 25 t0 t22_277 fun w278=>pq w278 (zf 25 t0) fun r279=>K r279 w278)∧
 (ca zk #[(i6 2)] w262 fun t13_281 w280=>
 Ext w262 w280∧
 pp (Instr.build 92 #[(0,(Value.int .u8 1)),(1,t12),(2,t13_281),(10,(i6 2))]) fun t14_282=>((pw w280 (Instr.buildSlice 44 3 #[(0,t4),(1,t5),(2,t6_263)]) fun t7_284 w283=>
 Ext w280 w283∧
 ca zk #[(i6 3)] w283 fun t16_286 w285=>
 Ext w283 w285∧
 pp (Instr.build 92 #[(0,(Value.int .u8 1)),(1,t15),(2,t16_286),(10,(i6 3))]) fun t17_287=>pw w285 (Instr.buildSlice 46 4 #[(0,t11),(1,t14_282),(2,t17_287),(3,t18)]) fun t19_289 w288=>
 pp (Instr.build 48 #[(4,t7_284),(5,t8_261),(6,t19_289)]) fun t20_290=>pw w288 (Instr.buildSlice 23 1 #[(0,t20_290)]) fun t21_292 w291=>
 pp (Instr.build 25 #[(1,t21_292)]) fun t22_293=>so w291 25 t0 t22_293 fun w294=>pq w294 (zf 25 t0) fun r295=>K r295 w294)∧
 (ca zk #[(i6 3)] w280 fun t16_297 w296=>
 Ext w280 w296∧
 pp (Instr.build 92 #[(0,(Value.int .u8 1)),(1,t15),(2,t16_297),(10,(i6 3))]) fun t17_298=>((pw w296 (Instr.buildSlice 44 3 #[(0,t4),(1,t5),(2,t6_263)]) fun t7_300 w299=>
 Ext w296 w299∧
 pw w299 (Instr.buildSlice 46 4 #[(0,t11),(1,t14_282),(2,t17_298),(3,t18)]) fun t19_302 w301=>
 pp (Instr.build 48 #[(4,t7_300),(5,t8_261),(6,t19_302)]) fun t20_303=>pw w301 (Instr.buildSlice 23 1 #[(0,t20_303)]) fun t21_305 w304=>
 pp (Instr.build 25 #[(1,t21_305)]) fun t22_306=>so w304 25 t0 t22_306 fun w307=>pq w307 (zf 25 t0) fun r308=>K r308 w307)∧
 (pw w296 (Instr.buildSlice 46 4 #[(0,t11),(1,t14_282),(2,t17_298),(3,t18)]) fun t19_310 w309=>
 pw w309 (Instr.buildSlice 44 3 #[(0,t4),(1,t5),(2,t6_263)]) fun t7_312 w311=>
 Ext w309 w311∧
 pp (Instr.build 48 #[(4,t7_312),(5,t8_261),(6,t19_310)]) fun t20_313=>pw w311 (Instr.buildSlice 23 1 #[(0,t20_313)]) fun t21_315 w314=>
 pp (Instr.build 25 #[(1,t21_315)]) fun t22_316=>so w314 25 t0 t22_316 fun w317=>pq w317 (zf 25 t0) fun r318=>K r318 w317)))))))))∧
 (pw w5 (Instr.makeSlice 45 (i6 3) (i6 3)) fun t8_320 w319=>
 Ext w5 w319∧
 ca yS #[] w319 fun t5_322 w321=>
 Ext w319 w321∧
 ca x6 #[tr_] w321 fun t6_324 w323=>
 Ext w321 w323∧
 ((pw w323 (Instr.buildSlice 44 3 #[(0,t4),(1,t5_322),(2,t6_324)]) fun t7_326 w325=>
 Ext w323 w325∧
 ca zk #[(i6 2)] w325 fun t13_328 w327=>
 Ext w325 w327∧
 pp (Instr.build 92 #[(0,(Value.int .u8 1)),(1,t12),(2,t13_328),(10,(i6 2))]) fun t14_329=>ca zk #[(i6 3)] w327 fun t16_331 w330=>
 Ext w327 w330∧
 pp (Instr.build 92 #[(0,(Value.int .u8 1)),(1,t15),(2,t16_331),(10,(i6 3))]) fun t17_332=>pw w330 (Instr.buildSlice 46 4 #[(0,t11),(1,t14_329),(2,t17_332),(3,t18)]) fun t19_334 w333=>
 pp (Instr.build 48 #[(4,t7_326),(5,t8_320),(6,t19_334)]) fun t20_335=>pw w333 (Instr.buildSlice 23 1 #[(0,t20_335)]) fun t21_337 w336=>
 pp (Instr.build 25 #[(1,t21_337)]) fun t22_338=>so w336 25 t0 t22_338 fun w339=>pq w339 (zf 25 t0) fun r340=>K r340 w339)∧
 (ca zk #[(i6 2)] w323 fun t13_342 w341=>
 Ext w323 w341∧
 pp (Instr.build 92 #[(0,(Value.int .u8 1)),(1,t12),(2,t13_342),(10,(i6 2))]) fun t14_343=>((pw w341 (Instr.buildSlice 44 3 #[(0,t4),(1,t5_322),(2,t6_324)]) fun t7_345 w344=>
 Ext w341 w344∧
 ca zk #[(i6 3)] w344 fun t16_347 w346=>
 Ext w344 w346∧
 pp (Instr.build 92 #[(0,(Value.int .u8 1)),(1,t15),(2,t16_347),(10,(i6 3))]) fun t17_348=>pw w346 (Instr.buildSlice 46 4 #[(0,t11),(1,t14_343),(2,t17_348),(3,t18)]) fun t19_350 w349=>
 pp (Instr.build 48 #[(4,t7_345),(5,t8_320),(6,t19_350)]) fun t20_351=>pw w349 (Instr.buildSlice 23 1 #[(0,t20_351)]) fun t21_353 w352=>
 pp (Instr.build 25 #[(1,t21_353)]) fun t22_354=>so w352 25 t0 t22_354 fun w355=>pq w355 (zf 25 t0) fun r356=>K r356 w355)∧
 (ca zk #[(i6 3)] w341 fun t16_358 w357=>
 Ext w341 w357∧
 pp (Instr.build 92 #[(0,(Value.int .u8 1)),(1,t15),(2,t16_358),(10,(i6 3))]) fun t17_359=>((pw w357 (Instr.buildSlice 44 3 #[(0,t4),(1,t5_322),(2,t6_324)]) fun t7_361 w360=>
 Ext w357 w360∧
 pw w360 (Instr.buildSlice 46 4 #[(0,t11),(1,t14_343),(2,t17_359),(3,t18)]) fun t19_363 w362=>
 pp (Instr.build 48 #[(4,t7_361),(5,t8_320),(6,t19_363)]) fun t20_364=>pw w362 (Instr.buildSlice 23 1 #[(0,t20_364)]) fun t21_366 w365=>
 pp (Instr.build 25 #[(1,t21_366)]) fun t22_367=>so w365 25 t0 t22_367 fun w368=>pq w368 (zf 25 t0) fun r369=>K r369 w368)∧
 (pw w357 (Instr.buildSlice 46 4 #[(0,t11),(1,t14_343),(2,t17_359),(3,t18)]) fun t19_371 w370=>
 pw w370 (Instr.buildSlice 44 3 #[(0,t4),(1,t5_322),(2,t6_324)]) fun t7_373 w372=>
 Ext w370 w372∧
 pp (Instr.build 48 #[(4,t7_373),(5,t8_320),(6,t19_371)]) fun t20_374=>pw w372 (Instr.buildSlice 23 1 #[(0,t20_374)]) fun t21_376 w375=>
 pp (Instr.build 25 #[(1,t21_376)]) fun t22_377=>so w375 25 t0 t22_377 fun w378=>pq w378 (zf 25 t0) fun r379=>K r379 w378)))))))))∧
 (pw w4.drew (Instr.makeSlice 45 (i6 3) (i6 3)) fun t8_381 w380=>
 Ext w4.drew w380∧
 ca yS #[] w380 fun t4_383 w382=>
 Ext w380 w382∧
 ca yS #[] w382 fun t5_385 w384=>
 Ext w382 w384∧
 ca x6 #[tr_] w384 fun t6_387 w386=>
 Ext w384 w386∧
 ((pw w386 (Instr.buildSlice 44 3 #[(0,t4_383),(1,t5_385),(2,t6_387)]) fun t7_389 w388=>
 Ext w386 w388∧
 ca zk #[(i6 2)] w388 fun t13_391 w390=>
 Ext w388 w390∧
 pp (Instr.build 92 #[(0,(Value.int .u8 1)),(1,t12),(2,t13_391),(10,(i6 2))]) fun t14_392=>ca zk #[(i6 3)] w390 fun t16_394 w393=>
 Ext w390 w393∧
 pp (Instr.build 92 #[(0,(Value.int .u8 1)),(1,t15),(2,t16_394),(10,(i6 3))]) fun t17_395=>pw w393 (Instr.buildSlice 46 4 #[(0,t11),(1,t14_392),(2,t17_395),(3,t18)]) fun t19_397 w396=>
 pp (Instr.build 48 #[(4,t7_389),(5,t8_381),(6,t19_397)]) fun t20_398=>pw w396 (Instr.buildSlice 23 1 #[(0,t20_398)]) fun t21_400 w399=>
 pp (Instr.build 25 #[(1,t21_400)]) fun t22_401=>so w399 25 t0 t22_401 fun w402=>pq w402 (zf 25 t0) fun r403=>K r403 w402)∧
 (ca zk #[(i6 2)] w386 fun t13_405 w404=>
 Ext w386 w404∧
 pp (Instr.build 92 #[(0,(Value.int .u8 1)),(1,t12),(2,t13_405),(10,(i6 2))]) fun t14_406=>((pw w404 (Instr.buildSlice 44 3 #[(0,t4_383),(1,t5_385),(2,t6_387)]) fun t7_408 w407=>
 Ext w404 w407∧
 ca zk #[(i6 3)] w407 fun t16_410 w409=>
 Ext w407 w409∧
 pp (Instr.build 92 #[(0,(Value.int .u8 1)),(1,t15),(2,t16_410),(10,(i6 3))]) fun t17_411=>pw w409 (Instr.buildSlice 46 4 #[(0,t11),(1,t14_406),(2,t17_411),(3,t18)]) fun t19_413 w412=>
 pp (Instr.build 48 #[(4,t7_408),(5,t8_381),(6,t19_413)]) fun t20_414=>pw w412 (Instr.buildSlice 23 1 #[(0,t20_414)]) fun t21_416 w415=>
 pp (Instr.build 25 #[(1,t21_416)]) fun t22_417=>so w415 25 t0 t22_417 fun w418=>pq w418 (zf 25 t0) fun r419=>K r419 w418)∧
 (ca zk #[(i6 3)] w404 fun t16_421 w420=>
 Ext w404 w420∧
 pp (Instr.build 92 #[(0,(Value.int .u8 1)),(1,t15),(2,t16_421),(10,(i6 3))]) fun t17_422=>((pw w420 (Instr.buildSlice 44 3 #[(0,t4_383),(1,t5_385),(2,t6_387)]) fun t7_424 w423=>
 Ext w420 w423∧
 pw w423 (Instr.buildSlice 46 4 #[(0,t11),(1,t14_406),(2,t17_422),(3,t18)]) fun t19_426 w425=>
 pp (Instr.build 48 #[(4,t7_424),(5,t8_381),(6,t19_426)]) fun t20_427=>pw w425 (Instr.buildSlice 23 1 #[(0,t20_427)]) fun t21_429 w428=>
 pp (Instr.build 25 #[(1,t21_429)]) fun t22_430=>so w428 25 t0 t22_430 fun w431=>pq w431 (zf 25 t0) fun r432=>K r432 w431)∧
 (pw w420 (Instr.buildSlice 46 4 #[(0,t11),(1,t14_406),(2,t17_422),(3,t18)]) fun t19_434 w433=>
 pw w433 (Instr.buildSlice 44 3 #[(0,t4_383),(1,t5_385),(2,t6_387)]) fun t7_436 w435=>
 Ext w433 w435∧
 pp (Instr.build 48 #[(4,t7_436),(5,t8_381),(6,t19_434)]) fun t20_437=>pw w435 (Instr.buildSlice 23 1 #[(0,t20_437)]) fun t21_439 w438=>
 pp (Instr.build 25 #[(1,t21_439)]) fun t22_440=>so w438 25 t0 t22_440 fun w441=>pq w441 (zf 25 t0) fun r442=>K r442 w441))))))))
theorem aaf {w : World} {K : VW} (h : Xz  w K) : zd prog vQ #[] w K:=
 okC false (.s (.r (rz 1 0 2)) (.s (.r (rz 4 0 162)) (.s (.r (ra 4 5 0 (ra 1 11 1 (ra 1 14 0 (.alt 0 .u (.alt 1 .u (.alt 2 .u (.alt 3 .u (.alt 4 .u (ra 2 9 3 (ra 2 12 3 (rz 5 15 546))) (ra 2 9 3 (.alt 4 .u (ra 2 12 3 (rz 5 15 546)) (ra 2 12 3 (.alt 4 .u (rz 5 15 546) (ra 1 15 2 (ra 1 4 3 (rz 4 16 136)))))))) (.alt 4 .u (.alt 3 .u (ra 2 9 3 (ra 2 12 3 (rz 5 15 546))) (ra 2 9 3 (.alt 3 .u (ra 2 12 3 (rz 5 15 546)) (ra 2 12 3 (.alt 3 .u (rz 5 15 546) (ra 1 15 2 (ra 1 3 3 (rz 4 16 136)))))))) (ra 2 9 3 (.alt 3 .u (.alt 4 .u (ra 2 12 3 (rz 5 15 546)) (ra 2 12 3 (.alt 4 .u (rz 5 15 546) (ra 1 15 2 (ra 1 4 3 (rz 4 16 136)))))) (.alt 4 .u (.alt 3 .u (ra 2 12 3 (rz 5 15 546)) (ra 2 12 3 (.alt 3 .u (rz 5 15 546) (ra 1 15 2 (ra 1 3 3 (rz 4 16 136)))))) (ra 2 12 3 (.alt 3 .u (.alt 4 .u (rz 5 15 546) (ra 1 15 2 (ra 1 4 3 (rz 4 16 136)))) (.alt 4 .u (.alt 3 .u (rz 5 15 546) (ra 1 15 2 (ra 1 3 3 (rz 4 16 136)))) (ra 1 15 2 (.alt 3 .u (ra 1 4 3 (rz 4 16 136)) (ra 1 4 3 (ra 1 3 3 (rz 4 16 136))))))))))))) (ra 1 4 3 (ra 1 2 3 (.alt 3 .u (ra 2 9 3 (ra 2 12 3 (rz 5 15 546))) (ra 2 9 3 (.alt 3 .u (ra 2 12 3 (rz 5 15 546)) (ra 2 12 3 (.alt 3 .u (rz 5 15 546) (ra 1 15 2 (ra 1 3 3 (rz 4 16 136))))))))))) (ra 1 4 3 (ra 2 1 15 (.alt 3 .u (ra 2 9 3 (ra 2 12 3 (rz 5 15 546))) (ra 2 9 3 (.alt 3 .u (ra 2 12 3 (rz 5 15 546)) (ra 2 12 3 (.alt 3 .u (rz 5 15 546) (ra 1 15 2 (ra 1 3 3 (rz 4 16 136))))))))))) (ra 1 4 3 (ra 3 0 63 (.alt 3 .u (ra 2 9 3 (ra 2 12 3 (rz 5 15 546))) (ra 2 9 3 (.alt 3 .u (ra 2 12 3 (rz 5 15 546)) (ra 2 12 3 (.alt 3 .u (rz 5 15 546) (ra 1 15 2 (ra 1 3 3 (rz 4 16 136))))))))))))))) (.n)))) func9 rfl (by kernel_rfl) (by kernel_rfl) h
def Qi (w : World) (K : VW) : Prop:=
 pw w (Instr.alloc 83 true (.tuple #[])) fun t0 w1=>
 pp (Instr.build 83 #[(0,(Value.int .u8 1))]) fun t1=>so w1 83 t0 t1 fun w2=>pq w2 (zf 83 t0) fun r3=>K r3 w2
theorem abF {w : World} {K : VW} (h : Qi  w K) : zd prog yS #[] w K:=
 okC false (.s (.r (rz 1 0 2)) (.s (.r (rz 2 0 8)) (.n))) func25 rfl (by kernel_rfl) (by kernel_rfl) h
def Qj (t0 : Value) (w : World) (K : VW) : Prop:=
 pw w (Instr.alloc 83 true (.tuple #[])) fun t2 w1=>
 ca yS #[] w1 fun t4 w2=>
 pw w2 (Instr.buildSlice 44 1 #[(0,t4)]) fun t5 w3=>
 pp (Instr.build 83 #[(0,(Value.int .u8 4)),(1,t0),(2,(i6 (-1))),(4,t5)]) fun t6=>so w3 83 t2 t6 fun w4=>pq w4 (zf 83 t2) fun r5=>K r5 w4
theorem abG {t0 : Value} {w : World} {K : VW} (h : Qj t0 w K) : zd prog x6 #[t0] w K:=
 okC false (.s (.r (rz 1 0 2)) (.s (.r (rz 5 0 552)) (.n))) func26 rfl (by kernel_rfl) (by kernel_rfl) h
def Qk (t0 : Value) (w : World) (K : VW) : Prop:=
 pw w (Instr.alloc 89 true (.tuple #[])) fun t2 w1=>
 pp (Instr.build 89 #[(0,(Value.int .u8 1)),(1,t0)]) fun t4=>so w1 89 t2 t4 fun w2=>pq w2 (zf 89 t2) fun r3=>K r3 w2
theorem abH {t0 : Value} {w : World} {K : VW} (h : Qk t0 w K) : zd prog zk #[t0] w K:=
 okC false (.s (.r (rz 1 0 2)) (.s (.r (rz 3 0 32)) (.n))) func27 rfl (by kernel_rfl) (by kernel_rfl) h
end Go.Proofs.Tryz
end
section
namespace Go.Sh
section
variable {w : World} {b c d : Bool} {A1 : (List Value→World→Prop)→Prop} {A2 : (List Value→World→Prop)→World→Prop} {Z : Value→World→Prop}
end
end Go.Sh
end
section
namespace Go.Proofs
open Go.Sh Go.RowKit
set_option maxRecDepth 100000
set_option linter.unusedSimpArgs false
set_option linter.unusedVariables false
end Go.Proofs
end
section
namespace Go.Proofs
open Go.Sh Go.RowKit Go.BM
set_option maxRecDepth 100000
set_option linter.unusedSimpArgs false
set_option linter.unusedVariables false
end Go.Proofs
end
section
namespace Go.Proofs
open Go.Sh Go.RowKit
set_option maxRecDepth 100000
set_option linter.unusedSimpArgs false
set_option linter.unusedVariables false
end Go.Proofs
end
section
namespace Go.Proofs
open Go.Sh Go.RowKit
set_option maxRecDepth 100000
set_option linter.unusedSimpArgs false
set_option linter.unusedVariables false
end Go.Proofs
end
section
namespace Go.Proofs
open Go.Sh
set_option maxRecDepth 100000
set_option linter.unusedSimpArgs false
set_option linter.unusedVariables false
theorem Ql {w : World} {K : Value→World→Prop} (h : ∀ w',Ext w w'→K ahD w') : zd Tryz.prog Tryz.yS #[] w K:=by
 refine Tryz.abF ?_
 unfold Tryz.Qi
 have S : StX noX w nothing w []:=St.start (fun _ _ h=>h.elim)
 refine S.al fun b0 w1 S=>?_
 refine zu (cs:=vN.toArray) (by kernel_rfl) ?_
 refine S.stB (b:=b0) fun w2 S=>?_
 refine S.ceB (b:=b0) ?_ rfl
 exact h _ S.ext
theorem acb {n : Int} {w : World} {K : Value→World→Prop} (h : ∀ w',Ext w w'→K (ahE n) w') : zd Tryz.prog Tryz.zk #[.int .i64 n] w K:=by
 refine Tryz.abH ?_
 unfold Tryz.Qk
 have S : StX noX w nothing w []:=St.start (fun _ _ h=>h.elim)
 refine S.al fun b0 w1 S=>?_
 refine zu (cs:=#[.int .u8 1,.int .i64 n,.int .i64 0,.slice none 0 0]) (by kernel_rfl) ?_
 refine S.stB (b:=b0) fun w2 S=>?_
 refine S.ceB (b:=b0) ?_ rfl
 exact h _ S.ext
theorem acd {m : Bool} {w : World} {K : Value→World→Prop} (h : ∀ q cap sn w',Ext w w'→New w sn w'→TyG sn (tyV (.mk 4 m (-1) 0 [qK]) q cap) (.mk 4 m (-1) 0 [qK])→K (tyV (.mk 4 m (-1) 0 [qK]) q cap) w') : zd Tryz.prog Tryz.x6 #[.bool m] w K:=by
 refine Tryz.abG ?_
 unfold Tryz.Qj
 have S : StX noX w nothing w []:=St.start (fun _ _ h=>h.elim)
 refine S.al fun b2 w1 S=>?_
 refine Ql fun w2 e2=>?_
 have S:=S.go e2
 refine S.lit (e:=83) (cs:=vN) (by kernel_rfl) fun b5 w3 S=>?_
 refine zu (cs:=#[.int .u8 4,.bool m,.int .i64 (-1),.int .i64 0,.slice (some ⟨b5,0,none⟩) 1 1]) (by kernel_rfl) ?_
 refine S.stB (b:=b2) fun w4 S=>?_
 refine S.ceB (b:=b2) ?_ rfl
 obtain ⟨S,_,ha⟩:=S.litNew b5 (sz:=5) (R:=TyC nothing) (l:=[qK]) (by exact (yp (c:=vN) rfl (show TyC nothing vN qK from vL))) (by decide)
 exact h (some ⟨b5,0,none⟩) 1 (nothing.or (Go.Sh.one b5 vN 83)) _ S.ext (S.newOf (Above.no.or' ha)) (adT (u:=qK) (v:=ahD) vL)
set_option maxHeartbeats 8000000 in
theorem abI {w : World} {K : Value→World→Prop} (h : ∀ v s w',Ext w w'→New w s w'→UnG s v y7→K v w') : zd Tryz.prog Tryz.vQ #[] w K:=by
 refine Tryz.aaf ?_
 unfold Tryz.Xz
 have S : StX noX w nothing w []:=St.start (fun _ _ h=>h.elim)
 refine S.al fun b0 w1 S=>?_
 refine S.lit (e:=77) (cs:=[.int .i64 (-1)]) (by kernel_rfl) fun b2 w2 S=>?_
 refine zu (cs:=#[.int .i64 2,.slice (some ⟨b2,0,none⟩) 1 1]) (by kernel_rfl) ?_
 refine S.al fun b1 w3 S=>?_
 refine S.stB (b:=b1) fun w4 S=>?_
 have S:=S.go (Ext.drew _)
 refine zu (cs:=#[.int .i64 2,.slice none 0 0]) (by kernel_rfl) ?_
 refine zu (cs:=#[.int .i64 1,.slice none 0 0]) (by kernel_rfl) ?_
 refine zu (cs:=hl0.toArray) (by kernel_rfl) ?_
 refine zu (cs:=#[.int .i64 1,.slice none 0 0]) (by kernel_rfl) ?_
 refine S.ldB (b:=b1) ?_ rfl
 refine zu (cs:=hl3.toArray) (by kernel_rfl) ?_
 have S:=S.drop b1
 have fin : ∀ {w9 : World} {b7 b8 b19 b21 : Nat} {q6 : Option Addr} {c6 : Nat} {sn : Gh} {M M1 M2 M3 M4 M5 : List Asr} (S : StX noX w (nothing.or sn) w9 M)
   [ja b7 M (vN++(vN++tyL Y9 q6 c6)) 83 M1] [ja b8 M1 [.string ByteArray.empty,.string ByteArray.empty,.string ByteArray.empty] 9 M2] [ja b2 M2 [.int .i64 (-1)] 77 M3]
   [ja b19 M3 (hl0++(hl1++(hl2 b2++hl3))) 92 M4] [ja b21 M4 [.string ByteArray.empty,.int .i64 0,.slice none 0 0,.int .i64 0,.slice (some ⟨b7,0,none⟩) 3 3,.slice (some ⟨b8,0,none⟩) 3 3,.slice (some ⟨b19,0,none⟩) 4 4] 48 M5],
   Above w sn→TyG sn (tyV Y9 q6 c6) Y9→K (.agg #[.slice none 0 0,.slice (some ⟨b21,0,none⟩) 1 1,.int .i64 0]) w9:=by
  intro w9 b7 b8 b19 b21 q6 c6 sn M M1 M2 M3 M4 M5 S _ _ _ _ _ ha ht
  obtain ⟨S,h7,a7⟩:=S.litNew b7 (sz:=5) (R:=TyC sn) (l:=[qK,qK,Y9]) (by exact (yn rfl vL (yn rfl vL (yp rfl ht)))) (by decide)
  obtain ⟨S,h8,a8⟩:=S.litNew b8 (sz:=1) (R:=ae9) (l:=[ByteArray.empty,ByteArray.empty,ByteArray.empty]) (by exact (yn (c:=[.string ByteArray.empty]) rfl rfl (yn (c:=[.string ByteArray.empty]) rfl rfl (yp rfl rfl)))) (by decide)
  obtain ⟨S,h2,a2⟩:=S.litNew b2 (sz:=1) (R:=jM) (l:=[-1]) (by exact (yp rfl ⟨rfl,by unfold J5;omega⟩)) (by decide)
  have hz : ∀ {r : Gh} {α : Type} {sz : Nat} {R : List Value→α→Prop},SlB sz r R (.slice none 0 0) ([] : List α):=agI
  obtain ⟨S,h19,a19⟩:=S.litNew b19 (sz:=21) (R:=PtG (Go.Sh.one b2 [.int .i64 (-1)] 77)) (l:=[hp0,hp1,hp2,hp3])
   (by exact (yn rfl ⟨_,_,_,_,_,rfl,hz,hz,hz,hz,hz⟩ (yn rfl ⟨_,_,_,_,_,rfl,hz,hz,hz,hz,hz⟩ (yn rfl ⟨_,_,_,_,_,rfl,Z1 h2,hz,hz,hz,hz⟩ (yp rfl ⟨_,_,_,_,_,rfl,hz,hz,hz,hz,hz⟩))))) (by decide)
  obtain ⟨S,h21,a21⟩:=S.litNew b21 (sz:=7) (R:=GrG (((((nothing.or sn).or (Go.Sh.one b7 (vN++(vN++tyL Y9 q6 c6)) 83)).or (Go.Sh.one b8 [.string ByteArray.empty,.string ByteArray.empty,.string ByteArray.empty] 9)).or (Go.Sh.one b2 [.int .i64 (-1)] 77)).or (Go.Sh.one b19 (hl0++(hl1++(hl2 b2++hl3))) 92))) (l:=[zt])
   (by exact (yp rfl ⟨_,_,_,_,rfl,hz,Z1 (h7.up' inferInstance fun c x hx=>TyG.up hx),Z1 h8.cells,Z1 (h19.up' inferInstance fun c x hx=>PtG.up hx)⟩)) (by decide)
  exact h _ _ _ S.ext (S.newOf (((((Above.no.or' ha).or' a7).or' a8).or' a2).or' a19 |>.or' a21)) ⟨none,0,_,rfl,fun _=>rfl,Nat.zero_le _,trivial,Nat.zero_le _,Z1 (h21.up' inferInstance fun c x hx=>GrG.up hx)⟩
 repeat' (first
  |(with_reducible refine Ql fun w9 e9=>⟨e9,?_⟩;have S:=S.go e9)
  |(with_reducible refine acb fun w9 e9=>⟨e9,?_⟩;have S:=S.go e9)
  |(with_reducible refine acd fun q6 c6 sn w9 e9 n9 t9=>⟨e9,?_⟩;obtain ⟨S,d9,a9⟩:=S.tell e9 n9)
  |(with_reducible refine S.litU (t:=44) (e:=83) (cs:=vN++(vN++tyL Y9 q6 c6)) (by kernel_rfl) fun b7 w9 S=>?_)
  |(with_reducible refine S.mkSU (by decide) (by decide) fun b8 w9 S=>?_)
  |(with_reducible refine zu (t:=92) (parts:=#[(0,.int .u8 1),(1,.agg #[.int .i64 1,.slice none 0 0]),(2,ahE 2),(10,.int .i64 2)]) (cs:=hl1.toArray) (by kernel_rfl) ?_)
  |(with_reducible refine zu (t:=92) (cs:=(hl2 b2).toArray) (by kernel_rfl) ?_)
  |(with_reducible refine S.lit (t:=46) (e:=92) (cs:=hl0++(hl1++(hl2 b2++hl3))) (by kernel_rfl) fun b19 w9 S=>?_)
  |(with_reducible refine zu (t:=48) (cs:=#[.string ByteArray.empty,.int .i64 0,.slice none 0 0,.int .i64 0,.slice (some ⟨b7,0,none⟩) 3 3,.slice (some ⟨b8,0,none⟩) 3 3,.slice (some ⟨b19,0,none⟩) 4 4]) (by kernel_rfl) ?_)
  |(with_reducible refine S.lit (t:=23) (e:=48) (cs:=[.string ByteArray.empty,.int .i64 0,.slice none 0 0,.int .i64 0,.slice (some ⟨b7,0,none⟩) 3 3,.slice (some ⟨b8,0,none⟩) 3 3,.slice (some ⟨b19,0,none⟩) 4 4]) (by kernel_rfl) fun b21 w9 S=>?_)
  |(with_reducible refine zu (t:=25) (cs:=#[.slice none 0 0,.slice (some ⟨b21,0,none⟩) 1 1,.int .i64 0]) (by kernel_rfl) ?_)
  |(with_reducible refine And.intro ?_ ?_)
  |(refine S.stB (b:=b0) fun w9 S=>?_;refine S.ceB (b:=b0) ?_ rfl;exact fin (b7:=b7) (b8:=b8) (b19:=b19) (b21:=b21) S a9 t9)
)
end Go.Proofs
end
section
namespace Go.Proofs
open Go.Sh Go.RowKit Go.BM
set_option maxRecDepth 100000
set_option linter.unusedSimpArgs false
set_option linter.unusedVariables false
theorem abJ {u : UnD} {v : Value} {w : World} {r : Gh} {K : Value→World→Prop} (hr : Holds r w) (hu : UnG r v u) (h : ∀ (b : Bool) w',Ext w w'→K (.bool b) w') : zd Tryz.prog Tryz.vP #[v] w K:=by
 refine Tryz.aae ?_
 unfold Tryz.Xy
 obtain ⟨p0,cap0,vf,rfl,_,_,hst,hsl,hfn⟩:=hu
 obtain ⟨qf,capf,rfl,_,_⟩:=hfn.sl.shape
 have hfl : u.fs.length≤9223372036854775807:=hfn.few
 have hsl' : u.ss.length≤9223372036854775807:=hsl
 have S:=St.start hr
 refine S.box fun b1 w1 S=>?_
 have S : StX noX w r w1 [.cell b1 [.slice p0 u.ss.length cap0,.slice qf u.fs.length capf,.int .i64 u.mn] 25]:=S
 refine gg_ ?_
 refine zo (c:=decide (40<(u.fs.length : Int))) (fun _ K2 hK2=>by refine gg_ ?_;exact hK2) ?_
 refine c_b (fun _=>h _ _ S.ext) (fun _=>?_)
 refine zj (ι:=Nat) (fun i=>[.int .i64 (i : Nat)]) (fun i w'=>i≤u.ss.length∧StX noX w r w' _) (fun i=>u.ss.length - i) 0 rfl ⟨Nat.zero_le _,S⟩ ?_
 clear S
 rintro i d w2 ⟨hi,S⟩ K6 hK6
 rw [List.getD_cons_zero]
 refine gg_ ?_
 refine zm (fun hlt=>?_) (fun hge=>?_)
 ·have hlt : i<u.ss.length:=by omega
  obtain ⟨b,off,q,capq,rfl,hcell,_,_,_⟩:=Zp hst hlt
  refine gg_ ?_
  refine zh (by rw [Int.toNat_natCast];exact S.at hcell) ?_
  refine gg_ ?_
  refine c_b (fun _=>h _ _ S.ext) (fun _=>?_)
  refine gg_ ?_
  rw [show ((i : Int)+1)=((i+1 : Nat) : Int) by omega]
  exact hK6 (i+1) _ ⟨hlt,S⟩ (by omega)
 refine zj (ι:=Nat × Int) (fun i=>[.int .i64 i.2,.int .i64 (i.1 : Nat)]) (fun i w'=>i.1≤u.fs.length∧StX noX w r w' _) (fun i=>u.fs.length - i.1) (0,0) rfl ⟨Nat.zero_le _,S⟩ ?_
 clear S hK6 K6 hge hi
 rintro ⟨i,n⟩ d w3 ⟨hi,S⟩ K7 hK7
 simp only at hi S ⊢
 simp only [List.getD_cons_zero,List.getD_cons_succ]
 refine gg_ ?_
 refine zm (fun hlt=>?_) (fun hge=>h _ _ S.ext)
 have hlt : i<u.fs.length:=by omega
 obtain ⟨bf,of,cf,rfl,hcf,hgc,hfo⟩:=hfn.sl.get (by decide) hlt
 generalize u.fs[i]=g at hgc
 obtain ⟨vo,vt,vn,vp,rfl,h1,h2,h3,h4⟩:=id hgc
 obtain ⟨qt,capt,rfl,_,hct⟩:=h2.sl.shape
 obtain ⟨qp,capp,rfl,_,_⟩:=h4.sl.shape
 have S:=S.go (Ext.drew _)
 have l4 : Ob r fun w=>w.cell? ⟨bf,of+i*7+4,none⟩=some (.slice qt g.tys.length capt):=hfo 4 _ rfl
 have l6 : Ob r fun w=>w.cell? ⟨bf,of+i*7+6,none⟩=some (.slice qp g.pts.length capp):=hfo 6 _ rfl
 refine gg_ ?_
 refine zh (by rw [Int.toNat_natCast];exact S.at l6) ?_
 refine gg_ ?_
 refine zh (by rw [Int.toNat_natCast];exact S.at l4) ?_
 refine gp_ ?_
 refine ael fun x=>?_
 refine ael fun y=>?_
 refine gg_ ?_
 refine zh (by rw [Int.toNat_natCast];exact S.at l6) ?_
 refine gg_ ?_
 refine zo (c:=decide (150<(g.tys.length : Int))) (fun _ K2 hK2=>?_) ?_
 ·refine gg_ ?_
  refine zh (by rw [Int.toNat_natCast];exact S.at l4) ?_
  refine gg_ ?_
  exact hK2
 refine zo (c:=decide (600<y)) (fun _ K2 hK2=>by refine gg_ ?_;exact hK2) ?_
 refine c_b (fun _=>h _ _ S.ext) (fun _=>?_)
 refine gg_ ?_
 rw [show ((i : Int)+1)=((i+1 : Nat) : Int) by omega]
 exact hK7 (i+1,y) _ ⟨hlt,S⟩ (by show u.fs.length - (i+1)<u.fs.length - i;omega)
noncomputable def xj (g : GrD) : List yk:=(lvR g).map fun m=>((m.length : Nat),yx m)
theorem ji {g : GrD} : (xj g).length=g.tys.length:=by rw [xj,List.length_map,jh]
theorem ag3 {b : Nat} {s : Gh} {m : List Bool} (h : Ob s fun w=>Blk w b (wcs (yx m)) 65) (hm : m.length≤1032) : SlB 1 s WdC (.slice (some ⟨b,0,none⟩) (yx m).length (yx m).length) (yx m):=by
 refine ⟨⟨_,_,rfl,(fun h=>by cases h),Nat.le_refl _,fun i hi=>⟨[u64 (yx m)[i]],rfl,fun j v hj=>?_,rfl⟩⟩,by rw [abn,maxLen];omega⟩
 obtain rfl : j=0:=by
  have:=(List.getElem?_eq_some_iff.1 hj).1
  simp at this;omega
 refine ⟨b,0,rfl,fun w hw=>?_⟩
 have B:=h w hw
 show w.cell? ⟨b,0+i*1+0,none⟩=some v
 rw [show 0+i*1+0=i by omega,B.cell,wcs,List.getElem?_map,List.getElem?_eq_getElem hi]
 cases hj;rfl
theorem afM {g : GrD} {bs : List Nat} {v : Value} {s s2 : Gh} (hbl : bs.length=g.tys.length) (hn : (ze g).length≤1032) (hv : SlG 2 s (ady (ze g).length) v bs)
  (hs2 : ∀ i (h1 : i<bs.length) (h2 : i<(lvR g).length),Ob s2 fun w=>Blk w bs[i] (wcs (yx (lvR g)[i])) 65) : SlG 2 (s.or s2) (RwbC (s.or s2)) v (xj g):=by
 obtain ⟨p,cap,rfl,h2,h3,h4⟩:=hv
 have hol:=ji (g:=g)
 have hrl:=jh (g:=g)
 refine ⟨p,cap,by rw [hbl,hol],h2,by omega,fun i hi=>?_⟩
 have hib : i<bs.length:=by omega
 have hir : i<(lvR g).length:=by omega
 obtain ⟨c,h5,h6,h7⟩:=h4 i hib
 refine ⟨c,h5,h6.up inferInstance,?_⟩
 have hml : (lvR g)[i].length=(ze g).length:=by rw [vW,xy]
 have ho : (xj g)[i]=((((lvR g)[i].length : Nat) : Int),yx (lvR g)[i]):=by simp [xj]
 have hB:=hs2 i hib hir
 rw [ho]
 generalize (lvR g)[i]=m at hB hml
 have hw : (yx m).length=((ze g).length+63) / 64:=by rw [abn,hml]
 refine ⟨some ⟨bs[i],0,none⟩,(yx m).length,?_,(ag3 hB (by omega)).cells⟩
 show c = [.int .i64 ((m.length : Nat) : Int),.slice (some ⟨bs[i],0,none⟩) (yx m).length (yx m).length]
 rw [show c=rwL (ze g).length bs[i] from h7,hw,hml]
theorem JF {u : UnD} {n : Int} {v : Value} {w : World} {r : Gh} {K : Value→World→Prop} (hr : Holds r w) (hu : UnG r v u)
  (h : ∀ v' s w',Ext w w'→New w s w'→(fnE u n=0→∃ g,u.fs[n.toNat]? = some g∧netU u n=ze g∧SlG 2 s (RwbC s) v' (xj g))→(fnE u n≠0→v' = .slice none 0 0)→K (.tuple #[v',.int .i64 (fnE u n)]) w') : zd Tryz.prog Tryz.jD #[v,.int .i64 n] w K:=by
 refine aeE hr hu fun v' bs s w' e hE hN=>?_
 by_cases h0 : fnE u n=0
 ·obtain ⟨g,h1,h2,h3,ha,T,hv⟩:=hE h0
  have hF:=xO h0 h1
  have hnf:=hF.net.few
  obtain ⟨s2,T2,ha2,hs2⟩:=StX.frzCells (e:=65) (C:=fun m=>wcs (yx m)) (bs:=bs) (R:=lvR g) (L:=[]) (by rw [h3,jh]) (by rw [List.append_nil];exact T)
  have ha2 : Above w s2:=fun b o ho=>(ha2 b o ho).resolve_right id
  exact h v' (s.or s2) w' e (StX.newOf (q:=s.or s2) T2.reGh (ha.or' ha2)) (fun _=>⟨g,h1,h2,afM h3 (by omega) hv hs2⟩) fun hh=>absurd h0 hh
 ·exact h v' nothing w' e New.nothing (fun hh=>absurd hh h0) hN
end Go.Proofs
end
section
namespace Go.Proofs
open Go.Sh Go.RowKit Go.BM
set_option maxRecDepth 100000
set_option linter.unusedSimpArgs false
set_option linter.unusedVariables false
theorem acQ {g : GrD} {i : Nat} (h : i<g.tys.length) : (xj g).getD i (0,[])=((((lvM g i).length : Nat) : Int),yx (lvM g i)):=by
 have h2 : i<(lvR g).length:=by rw [jh];exact h
 rw [xj,List.getD_eq_getElem?_getD,List.getElem?_map,List.getElem?_eq_getElem h2,vW];rfl
theorem ahO {g : GrD} (hF : LkF g) : Xv g (xj g)=true:=by
 have hnf:=hF.net.few
 have hgl:=zR (g:=g)
 rw [Xv,decide_eq_true ji,Bool.true_and,Bool.not_eq_true',Bool.eq_false_iff]
 intro hc
 obtain ⟨x,hx,hb⟩:=List.any_eq_true.1 hc
 rw [xj,List.mem_map] at hx
 obtain ⟨m,hm,rfl⟩:=hx
 rw [lvR,List.mem_map] at hm
 obtain ⟨i,_,rfl⟩:=hm
 have hl:=xy (g:=g) (x:=(i : Nat))
 rw [Yr,BM.mayB_true (abl (by omega))] at hb
 simp only [Bool.not_true,Bool.false_or,decide_eq_true_eq] at hb
 exact hb (by show (((lvM g (i : Nat)).length : Nat) : Int)=_;omega)
theorem ag4 {g : GrD} (hF : LkF g) {y p : Nat} (hy : y<g.tys.length) (hp : p<g.pts.length) : ZL g (xj g) y p=false:=by
 have hnf:=hF.net.few
 have hgl:=zR (g:=g)
 have hl:=xy (g:=g) (x:=(y : Nat))
 have hM : vX g ((xj g).getD y (0,[]))=lvM g y:=by
  rw [acQ hy]
  show Xi g.pts.length (yx (lvM g y))=_
  rw [← hgl,← hl]
  exact afB (by omega)
 rw [ZL,hM,abC]
 cases hm : yQ g y (lvM g y) p with
 |false=>rfl
 |true=>
  rw [ab2 hF.net.ok ⟨by omega,by omega⟩ hm];rfl
theorem ag5 {g : GrD} (hF : LkF g) : Yq g (xj g)=none:=by
 rw [Yq,ji]
 exact acP fun y hy p hp=>ag4 hF hy hp
theorem abK {u : UnD} {n : Int} {g : GrD} (h : fnE u n=0) (hg : u.fs[n.toNat]? = some g) : QY u n (xj g) = .tuple #[.int .i64 0,.int .i64 0,.bool true,.int .i64 0]:=by
 have hF:=xO h hg
 have hok : okC u n (xj g)=true:=by
  rw [okC,h,decide_eq_true rfl,Bool.true_and]
  simp only [hg]
  exact ahO hF
 have hcl : ZM u n (xj g)=none:=by
  rw [ZM]
  simp only [hg]
  exact ag5 hF
 rw [QY,if_pos hok,hcl];rfl
def n4 : zD:=[[1],[2],[3],[]]
theorem vY : ze zt=n4:=by kernel_rfl
theorem XL : fnE y7 0=0:=by rw [fnE,aa8.2 afn];rfl
theorem aeG : netU y7 0=n4:=vY
theorem aih : kH n4:=fun l hl x hx=>by
 have hl : l ∈ [[(1 : Int)],[2],[3],[]]:=hl
 simp only [List.mem_cons,List.not_mem_nil,or_false] at hl
 rcases hl with rfl|rfl|rfl|rfl<;>simp only [List.mem_cons,List.not_mem_nil,or_false] at hx
 all_goals subst hx;exact ⟨by decide,by decide⟩
theorem aii {x : Int} (hx : isN n4 x) : x=0∨x=1∨x=2∨x=3:=by
 have:=hx.1;have h2 : x<4:=hx.2
 omega
theorem vZ {x : Int} (h0 : 0≤x) (h1 : x<4) : isN (ze zt) x:=by rw [vY];exact ⟨h0,h1⟩
theorem jj {q : Int} (h0 : 0≤q) (h1 : q<4) : okQ y7 0 q=true:=by
 rw [okQ,XL,aeG,decide_eq_true (show isN n4 q from ⟨h0,h1⟩)];rfl
theorem hand_ok : kH (ze zt):=by rw [vY];exact aih
theorem XA {x : Int} {m : List Bool} (h : (yQ zt x m 0=true→mk' m 0=true)∧(yQ zt x m 1=true→mk' m 1=true)∧(yQ zt x m 2=true→mk' m 2=true)∧(yQ zt x m 3=true→mk' m 3=true)) :
  ∀ q,isN (ze zt) q→yQ zt x m q=true→mk' m q=true:=fun q hq=>by
 rw [vY] at hq
 rcases aii hq with rfl|rfl|rfl|rfl
 ·exact h.1
 ·exact h.2.1
 ·exact h.2.2.1
 ·exact h.2.2.2
theorem afN : lvM zt 0 = [true,true,true,true]:=by
 have h:=Rnd.start (g:=zt) (x:=0)
 have h:=h.set hand_ok (q:=3) (vZ (by decide) (by decide)) (by kernel_rfl)
 have h:=h.set hand_ok (q:=2) (vZ (by decide) (by decide)) (by kernel_rfl)
 have h:=h.set hand_ok (q:=1) (vZ (by decide) (by decide)) (by kernel_rfl)
 have h:=h.set hand_ok (q:=0) (vZ (by decide) (by decide)) (by kernel_rfl)
 exact (h.end (XA ⟨fun _=>by kernel_rfl,fun _=>by kernel_rfl,fun _=>by kernel_rfl,fun _=>by kernel_rfl⟩)).symm
theorem afO : lvM zt 1 = [true,false,false,false]:=by
 have h:=Rnd.start (g:=zt) (x:=1)
 have h:=h.set hand_ok (q:=0) (vZ (by decide) (by decide)) (by kernel_rfl)
 have e1 : yQ zt 1 (xw (List.replicate (ze zt).length false) 0) 1=false:=by kernel_rfl
 have e2 : yQ zt 1 (xw (List.replicate (ze zt).length false) 0) 2=false:=by kernel_rfl
 have e3 : yQ zt 1 (xw (List.replicate (ze zt).length false) 0) 3=false:=by kernel_rfl
 exact (h.end (XA ⟨fun _=>by kernel_rfl,(fun hh=>by rw [e1] at hh;cases hh),(fun hh=>by rw [e2] at hh;cases hh),(fun hh=>by rw [e3] at hh;cases hh)⟩)).symm
theorem afP : lvM zt 2 = [false,true,true,false]:=by
 have h:=Rnd.start (g:=zt) (x:=2)
 have h:=h.set hand_ok (q:=2) (vZ (by decide) (by decide)) (by kernel_rfl)
 have h:=h.set hand_ok (q:=1) (vZ (by decide) (by decide)) (by kernel_rfl)
 have e1 : yQ zt 2 (xw (xw (List.replicate (ze zt).length false) 2) 1) 0=false:=by kernel_rfl
 have e2 : yQ zt 2 (xw (xw (List.replicate (ze zt).length false) 2) 1) 3=false:=by kernel_rfl
 exact (h.end (XA ⟨(fun hh=>by rw [e1] at hh;cases hh),fun _=>by kernel_rfl,fun _=>by kernel_rfl,(fun hh=>by rw [e2] at hh;cases hh)⟩)).symm
theorem aeH : afz zt 1 = [0,2]:=by
 have : kQ zt 1 = [mk' (lvM zt 0) 1,mk' (lvM zt 1) 1,mk' (lvM zt 2) 1]:=rfl
 rw [afz,this,afN,afO,afP]
 decide
theorem afQ : wayE n4 1 2 [0]=some [1,2]:=by
 refine Xg.2 ⟨⟨[2],rfl,⟨.inl rfl,by decide⟩,rfl⟩,?_⟩
 rintro _ ⟨r,rfl,hp⟩
 cases r with
 |nil=>exact absurd (show (1 : Int)=2 from hp) (by decide)
 |cons y r=>
  refine ⟨by simp,fun hl=>?_⟩
  have : r = []:=List.eq_nil_of_length_eq_zero (by simpa using hl)
  subst this
  obtain rfl : y=2:=hp.2
  exact .inl rfl
theorem afR : abj zt 2 1=some [1,2]:=by
 have e1 : ptsW zt (Usd zt 2) = [2]:=by kernel_rfl
 have e2 : ptsW zt (zW zt 2) = [0]:=by kernel_rfl
 have e3 : decide (zW zt 2 1)=false:=by kernel_rfl
 rw [abj,e1,e2,e3,vY,List.foldl_cons,List.foldl_nil,acN (by decide),afQ]
 rfl
theorem VS : abB y7 0 2 1=some [1,2]:=afR
theorem abL : okY y7 0 2 1=true:=by
 rw [okY,jj (by decide) (by decide)]
 rfl
end Go.Proofs
end
section
namespace Go.Proofs
open Go.Sh Go.RowKit Go.BM
set_option maxRecDepth 100000
set_option linter.unusedSimpArgs false
set_option linter.unusedVariables false
theorem afS : usL zt 2 = [2]:=by
 refine Ju adw (by decide) fun x=>?_
 have e : Ve zt 2 = [2]:=by kernel_rfl
 rw [agY,e]
theorem afT : ((y7.fs[(0 : Int).toNat]?.bind fun g=>QQ g 0))=some 2:=by kernel_rfl
theorem QZ : y7.fs[(0 : Int).toNat]? = some zt:=rfl
set_option maxHeartbeats 4000000 in
theorem k9 {w : World} {K : Value→World→Prop} (h : ∀ w',Ext w w'→K (.bool true) w') : zd Tryz.prog Tryz.xe #[] w K:=by
 refine Tryz.Vj ?_
 unfold Tryz.YG
 have S : StX noX w nothing w []:=St.start (fun _ _ h=>h.elim)
 refine abI fun v2 s2 w2 e2 n2 hu=>?_
 obtain ⟨S,_,_⟩:=S.tell e2 n2
 refine S.al fun b0 w3 S=>?_
 obtain ⟨p0,cap0,vf,rfl,_,_,_,_,hfn⟩:=id hu
 obtain ⟨qf,capf,rfl,_,_⟩:=hfn.sl.shape
 refine S.stB (b:=b0) fun w4 S=>?_
 have S:=S.to s2
 have S : StX noX w s2 w4 [.cell b0 [.slice p0 0 cap0,.slice qf 1 capf,.int .i64 0] 25]:=S
 have hu : UnG s2 (.agg #[.slice p0 0 cap0,.slice qf 1 capf,.int .i64 0]) y7:=hu
 refine S.ldB (b:=b0) ?_ rfl
 refine JF S.holds hu fun v5 s5 w5 e5 n5 h5 _=>?_
 obtain ⟨g,hg,_,h5⟩:=h5 XL
 obtain rfl : zt=g:=Option.some.inj hg
 rw [XL]
 obtain ⟨S,_,_⟩:=S.tell e5 n5
 obtain ⟨p5,cp5,hv5,_,_⟩:=h5.shape
 subst hv5
 obtain ⟨b5,o5,c5,rfl,_,hc5,g5⟩:=h5.get (i:=2) (by decide) (by rw [ji];decide)
 obtain ⟨q5,k5,rfl,_⟩:=hc5
 have g5 : Ob s5 fun w=>w.cell? ⟨b5,o5+2*2+0,none⟩=some (.int .i64 4):=g5 0 _ rfl
 have hol : (xj zt).length=3:=ji
 rw [hol]
 rw [hol] at h5
 refine gS_ ?_
 refine S.ldB (b:=b0) ?_ rfl
 refine aeA S.holds hu.up fun v6 s6 w6 e6 n6 h6=>?_
 rw [jj (by decide) (by decide),if_pos rfl] at h6
 rw [jj (by decide) (by decide),if_pos rfl]
 simp only [QZ,aeH] at h6
 obtain ⟨S,_,_⟩:=S.tell e6 n6
 obtain ⟨p6,cp6,rfl,_,_⟩:=h6.shape
 obtain ⟨b6,o6,rfl,_,g60⟩:=yi h6 (i:=0) (by decide)
 obtain ⟨b62,o62,hp6,_,g61⟩:=yi h6 (i:=1) (by decide)
 cases hp6
 refine gS_ ?_
 refine S.ldB (b:=b0) ?_ rfl
 refine aca S.holds hu.up fun v7 s7 w7 e7 n7 h7=>?_
 rw [jj (by decide) (by decide),if_pos rfl] at h7
 rw [jj (by decide) (by decide),if_pos rfl]
 simp only [QZ,afS] at h7
 obtain ⟨S,_,_⟩:=S.tell e7 n7
 obtain ⟨p7,cp7,rfl,_,_⟩:=h7.shape
 obtain ⟨b7,o7,rfl,_,g7⟩:=yi h7 (i:=0) (by decide)
 refine gS_ ?_
 refine S.ldB (b:=b0) ?_ rfl
 refine ab9 S.holds hu.up fun w8 e8=>?_
 have S:=S.go e8
 rw [jj (by decide) (by decide),if_pos rfl,if_pos rfl,afT]
 refine gS_ ?_
 refine S.ldB (b:=b0) ?_ rfl
 refine adz S.holds hu.up fun v9 s9 w9 e9 n9 h9=>?_
 rw [abL,if_pos rfl,VS] at h9
 rw [abL,if_pos rfl,VS]
 have h9 : SlG 1 s9 z6 v9 [1,2]:=h9
 obtain ⟨S,_,_⟩:=S.tell e9 n9
 obtain ⟨p9,cp9,rfl,_,_⟩:=h9.shape
 refine gS_ ?_
 refine S.ldB (b:=b0) ?_ rfl
 refine jQ S.holds hu.up (h5.up' inferInstance fun _ _ h=>h.up) (by rw [hol];decide) fun w10 e10=>?_
 rw [abK XL QZ]
 have S:=S.go e10
 refine gS_ ?_
 refine zi (c:=true) (fun _ K2 hK2=>by refine gg_ ?_;exact hK2) ?_
 refine zi (c:=true) (fun _ K2 hK2=>?_) ?_
 ·refine gg_ ?_
  refine zh (v:=.int .i64 4) (by simpa using S.at g5) ?_
  refine gg_ ?_
  exact hK2
 refine zi (c:=true) (fun _ K2 hK2=>by refine gg_ ?_;exact hK2) ?_
 refine zi (c:=true) (fun _ K2 hK2=>by refine gg_ ?_;exact hK2) ?_
 refine zi (c:=true) (fun _ K2 hK2=>?_) ?_
 ·refine gg_ ?_
  refine s_c (by simp) ?_
  refine zh (v:=.int .i64 0) (by simpa using S.at g60) ?_
  refine gg_ ?_
  exact hK2
 refine zi (c:=true) (fun _ K2 hK2=>?_) ?_
 ·refine gg_ ?_
  refine s_c (by simp) ?_
  refine zh (v:=.int .i64 2) (by simpa using S.at g61) ?_
  refine gg_ ?_
  exact hK2
 refine zi (c:=true) (fun _ K2 hK2=>by refine gg_ ?_;exact hK2) ?_
 refine zi (c:=true) (fun _ K2 hK2=>by refine gg_ ?_;exact hK2) ?_
 refine zi (c:=true) (fun _ K2 hK2=>?_) ?_
 ·refine gg_ ?_
  refine s_c (by simp) ?_
  refine zh (v:=.int .i64 2) (by simpa using S.at g7) ?_
  refine gg_ ?_
  exact hK2
 refine zi (c:=true) (fun _ K2 hK2=>by refine gg_ ?_;exact hK2) ?_
 refine zi (c:=true) (fun _ K2 hK2=>hK2) ?_
 refine zi (c:=true) (fun _ K2 hK2=>by refine gg_ ?_;exact hK2) ?_
 refine zi (c:=true) (fun _ K2 hK2=>hK2) ?_
 refine zi (c:=true) (fun _ K2 hK2=>by refine gg_ ?_;exact hK2) ?_
 refine zi (c:=true) (fun _ K2 hK2=>by refine gg_ ?_;exact hK2) ?_
 refine zi (c:=true) (fun _ K2 hK2=>hK2) ?_
 refine zi (c:=true) (fun _ K2 hK2=>by refine gg_ ?_;exact hK2) ?_
 exact h _ S.ext
end Go.Proofs
end
section
namespace Go.Proofs
open Go.Sh Go.RowKit Go.BM
set_option maxRecDepth 100000
set_option linter.unusedSimpArgs false
set_option linter.unusedVariables false
theorem ag6 (u : UnD) (n : Int) (R : List yk) : ∃ (a b : Int) (is : Bool) (f : Int),QY u n R = .tuple #[.int .i64 a,.int .i64 b,.bool is,.int .i64 f]∧(okC u n R=false→a=0∧b=0∧is=false∧f=2)∧
  (okC u n R=true→f=0∧(ZM u n R=none→a=0∧b=0∧is=true)∧∀ x p,ZM u n R=some (x,p)→a=(x : Int)∧b=(p : Int)∧is=false):=by
 rw [QY]
 cases okC u n R with
 |false=>exact ⟨0,0,false,2,rfl,fun _=>⟨rfl,rfl,rfl,rfl⟩,(fun h=>by cases h)⟩
 |true=>
  refine ⟨_,_,_,0,rfl,(fun h=>by cases h),fun _=>⟨rfl,fun h=>?_,fun x p h=>?_⟩⟩
  ·rw [h];exact ⟨rfl,rfl,rfl⟩
  ·rw [h];exact ⟨rfl,rfl,rfl⟩
theorem aeI {u : UnD} {n : Int} {g : GrD} {R : List yk} (h : fnE u n=0) (hg : u.fs[n.toNat]? = some g) : okC u n R=Xv g R:=by
 rw [okC,decide_eq_true h,Bool.true_and];simp only [hg]
theorem ag7 {u : UnD} {n : Int} {g : GrD} {R : List yk} (hg : u.fs[n.toNat]? = some g) : ZM u n R=Yq g R:=by rw [ZM];simp only [hg]
end Go.Proofs
end
section
namespace Go.Proofs.Tryz
open Go.Sh
set_option maxRecDepth 100000
def JG (t0 : Value) (w : World) (K : VW) : Prop:=
 pw w (Instr.box 31 t0) fun t1 w1=>
 pw w1 (Instr.alloc 31 true (.tuple #[])) fun t2 w2=>
 lo w2 31 t1 fun t4=>ca kJ #[t4] w2 fun t5 w3=>
 pp (Op.unary .not t5) fun t6=>zc t6 (pp (Instr.build 31 #[]) fun t7=>so w3 31 t2 t7 fun w4=>pq w4 (zf 31 t2) fun r5=>K (.tuple #[r5,(i6 2)]) w4) (fl w3.drew t1 31 0 3 fun t9=>fl w3.drew t1 31 1 29 fun t11=>ca yy #[t11] w3.drew fun t12 w6=>
 Ext w3.drew w6∧
 pp (Instr.build 31 #[(0,t9),(1,t12)]) fun t13=>so w6 31 t2 t13 fun w7=>pq w7 (zf 31 t2) fun r8=>K (.tuple #[r8,(i6 0)]) w7)
theorem ace {t0 : Value} {w : World} {K : VW} (h : JG t0 w K) : zd prog vg #[t0] w K:=
 okC false (.s (.r (rz 3 0 10)) (.s (.s (.r (rz 3 0 9)) (.c (.s (.r (rz 3 0 8)) (.n)) (.n))) (.s (.r (rz 8 0 9028)) (.n)))) func56 rfl (by kernel_rfl) (by kernel_rfl) h
def Qm (t0 : Value) (w : World) (K : VW) : Prop:=
 pw w (Instr.box 31 t0) fun t1 w1=>
 lo w1 31 t1 fun t5=>ca vg #[t5] w1 fun t6 w2=>
 pe t6 0 fun t7=>pe t6 1 fun t8=>pw w2 (Instr.alloc 32 true (.tuple #[])) fun t3 w3=>
 so w3 31 t1 t7 fun w4=>so w4 32 t3 t8 fun w5=>pp (Instr.makeFunc (.func 57) #[] #[t3,t1]) fun t9=>K t9 w5
theorem abM {t0 : Value} {w : World} {K : VW} (h : Qm t0 w K) : zd prog ZG #[t0] w K:=
 okC false (.s (.r (rz 2 0 2)) (.s (.r (rz 8 0 43017)) (.s (.r (rz 2 0 0)) (.n)))) func44 rfl (by kernel_rfl) (by kernel_rfl) h
def jR (t0 t1 t2 : Value) (w : World) (K : VW) : Prop:=
 lo w 32 t1 fun t6=>bt .neq 32 t6 (i6 0) fun t7=>zc t7 (K (.tuple #[]) w) (fl w t2 31 1 29 fun t9=>pp (Builtin.len_ #[29] 3 #[t9]) fun t10=>zr [(i6 0)] w (fun s2 _d3 w4 K1=>
 bf .lss 3 (s2.getD 0 undef) t10 fun t12=>zc t12 (xl w4 29 t9 (s2.getD 0 undef) 65 fun t15=>zr [t15] w4 (fun s6 _d7 w8 K5=>
 bt .neq 65 (s6.getD 0 undef) (Value.int .u64 0) fun t17=>zc t17 (bt .mul 3 (i6 64) (s2.getD 0 undef) fun t24=>ca yF #[(s6.getD 0 undef)] w8 fun t26 w9=>
 bf .add 3 t24 t26 fun t27=>cv t0 #[t27] w9 fun t28 w10=>
 pp (Op.unary .not t28) fun t29=>zc t29 (K (.tuple #[]) w10) (bt .sub 65 (s6.getD 0 undef) (Value.int .u64 1) fun t20=>bf .and 65 (s6.getD 0 undef) t20 fun t21=>K5 [t21] w10)) (bt .add 3 (s2.getD 0 undef) (i6 1) fun t30=>K1 [t30] w8))) (K (.tuple #[]) w4)))
theorem Z5 {t0 t1 t2 : Value} {w : World} {K : VW} (h : jR t0 t1 t2 w K) : zd prog YC #[t0,t1,t2] w K:=
 okC false (.s (.s (.r (rz 2 0 1)) (.c (.n) (.n))) (.s (.r (rz 4 0 4)) (.b (.lp [11] (.s (.r (rz 1 0 0)) (.s (.c (.n) (.n)) (.s (.b (.s (.r (rz 5 0 16)) (.b (.lp [5] (.s (.s (.r (rz 2 0 0)) (.c (.n) (.n))) (.s (.b (.s (.r (rz 8 0 8704)) (.c (.n) (.n)))) (.r (rz 5 0 0)))))))) (.r (rz 2 0 0))))))))) func57 rfl (by kernel_rfl) (by kernel_rfl) h
def Qn (t0 t1 t2 : Value) (w : World) (K : VW) : Prop:=
 pw w (Instr.box 31 t0) fun t3 w1=>
 pw w1 (Instr.box 31 t1) fun t4 w2=>
 pw w2 (Instr.alloc 31 true (.tuple #[])) fun t6 w3=>
 lo w3 31 t3 fun t11=>ca kJ #[t11] w3 fun t12 w4=>
 pp (Op.unary .not t12) fun t13=>za (fun K5=>gIf t13 false (lo w4 31 t4 fun t15=>ca kJ #[t15] w4 fun t16 w9=>
 pp (Op.unary .not t16) fun t17=>K5 [t17] w9) (K5 [undef] w4)) (fun s6 _d7 w8=>
 zb t13 tr_ (s6.getD 0 undef) fun t18=>za (fun K10=>gIf t18 false (fl w8 t3 31 0 3 fun t21=>fl w8 t4 31 0 3 fun t23=>bf .neq 3 t21 t23 fun t24=>K10 [t24] w8) (K10 [undef] w8)) (fun s11 _d12 w13=>
 zb t18 tr_ (s11.getD 0 undef) fun t25=>zc t25 (pp (Instr.build 31 #[]) fun t26=>so w13 31 t6 t26 fun w14=>pq w14 (zf 31 t6) fun r15=>K (.tuple #[r15,(i6 2)]) w14) (lo w13 31 t3 fun t28=>ca vg #[t28] w13 fun t29 w16=>
 pe t29 0 fun t30=>pe t29 1 fun t31=>pw w16 (Instr.alloc 31 true (.tuple #[])) fun t8 w17=>
 so w17 31 t8 t30 fun w18=>fl w18 t8 31 1 29 fun t33=>pp (Builtin.len_ #[29] 3 #[t33]) fun t34=>zr [(i6 0)] w18 (fun s20 _d21 w22 K19=>
 bf .lss 3 (s20.getD 0 undef) t34 fun t36=>zc t36 (fl w22.drew t8 31 1 29 fun t40=>px 29 t40 (s20.getD 0 undef) fun t42=>fl w22.drew t4 31 1 29 fun t44=>xl w22.drew 29 t44 (s20.getD 0 undef) 65 fun t47=>cv t2 #[t42,t47] w22.drew fun _t48 w23=>
 bt .add 3 (s20.getD 0 undef) (i6 1) fun t49=>K19 [t49] w23) (lo w22 31 t8 fun t50=>so w22 31 t6 t50 fun w24=>pq w24 (zf 31 t6) fun r25=>K (.tuple #[r25,t31]) w24)))))
theorem abN {t0 t1 t2 : Value} {w : World} {K : VW} (h : Qn t0 t1 t2 w K) : zd prog ZH #[t0,t1,t2] w K:=
 okC false (.s (.r (rz 4 0 42)) (.s (.s (.r (ra 4 0 9 (.grp 14 false (ri 3 4 9) [17] (ra 2 7 0 (.grp 19 false (ri 5 9 68) [24] (rz 1 14 0)))))) (.c (.s (.r (rz 3 0 8)) (.n)) (.n))) (.s (.r (rz 8 0 10249)) (.s (.s (.r (rz 4 0 4)) (.b (.lp [35] (.s (.r (rz 1 0 0)) (.s (.c (.n) (.n)) (.s (.b (.s (.r (rz 2 0 0)) (.r (rz 11 0 2363408)))) (.r (rz 2 0 0)))))))) (.s (.r (rz 4 0 33)) (.n)))))) func54 rfl (by kernel_rfl) (by kernel_rfl) h
def Qo (t0 t1 : Value) (w : World) (K : VW) : Prop:=
 pw w (Instr.box 31 t0) fun t2 w1=>
 pw w1 (Instr.box 31 t1) fun t3 w2=>
 pw w2 (Instr.alloc 31 true (.tuple #[])) fun t4 w3=>
 lo w3 31 t2 fun t6=>lo w3 31 t3 fun t7=>ca ZH #[t6,t7,(Value.func (.func 55) #[] #[])] w3 fun t8 w4=>
 pe t8 0 fun t9=>pe t8 1 fun t10=>so w4 31 t4 t9 fun w5=>pq w5 (zf 31 t4) fun r6=>K (.tuple #[r6,t10]) w5
theorem abO {t0 t1 : Value} {w : World} {K : VW} (h : Qo t0 t1 w K) : zd prog ZI #[t0,t1] w K:=
 okC false (.s (.r (rz 4 0 42)) (.s (.r (rz 7 0 2085)) (.n))) func43 rfl (by kernel_rfl) (by kernel_rfl) h
def YH (t0 t1 : Value) (w : World) (K : VW) : Prop:=
 YP t0 fun t5=>lo w 65 t5 fun t6=>bf .andNot 65 t6 t1 fun t8=>YP t0 fun t9=>so w 65 t9 t8 fun w1=>K (.tuple #[]) w1
theorem Vk {t0 t1 : Value} {w : World} {K : VW} (h : YH t0 t1 w K) : zd prog YD #[t0,t1] w K:=
 okC false (.r (rz 7 0 8208)) func55 rfl (by kernel_rfl) (by kernel_rfl) h
def JH (t0 t1 : Value) (w : World) (K : VW) : Prop:=
 pw w (Instr.box 31 t0) fun t2 w1=>
 pw w1 (Instr.box 31 t1) fun t3 w2=>
 lo w2 31 t2 fun t10=>lo w2 31 t3 fun t11=>ca vR #[t10,t11] w2 fun t12 w3=>
 pe t12 0 fun _t13=>pe t12 1 fun t14=>pe t12 2 fun t15=>bt .eql 32 t15 (i6 0) fun t17=>za (fun K4=>gIf t17 true (pp (Op.unary .not t14) fun t20=>K4 [t20] w3) (K4 [undef] w3)) (fun s5 _d6 w7=>
 zb t17 (s5.getD 0 undef) fa_ fun t21=>K (.tuple #[t21,t15]) w7)
theorem acf {t0 t1 : Value} {w : World} {K : VW} (h : JH t0 t1 w K) : zd prog Yo #[t0,t1] w K:=
 okC false (.s (.r (rz 4 0 10)) (.s (.r (rz 10 0 37)) (.s (.r (ra 3 0 0 (.grp 18 true (ri 2 3 0) [20] (rz 4 5 0)))) (.n)))) func8 rfl (by kernel_rfl) (by kernel_rfl) h
def XB (t0 t1 : Value) (w : World) (K : VW) : Prop:=
 pw w (Instr.box 31 t0) fun t2 w1=>
 NC w w1∧
 pw w1 (Instr.box 31 t1) fun t3 w2=>
 NC w1 w2∧
 pw w2 (Instr.alloc 3 true (.tuple #[])) fun t4 w3=>
 NC w2 w3∧
 pw w3 (Instr.alloc 4 true (.tuple #[])) fun t5 w4=>
 NC w3 w4∧
 pw w4 (Instr.alloc 32 true (.tuple #[])) fun t6 w5=>
 NC w4 w5∧
 lo w5 31 t3 fun t10=>lo w5 31 t2 fun t11=>ca ZI #[t10,t11] w5 fun t12 w6=>
 NC w5 w6∧
 pe t12 0 fun t13=>pe t12 1 fun t14=>pw w6 (Instr.alloc 31 true (.tuple #[])) fun t7 w7=>
 NC w6 w7∧
 so w7 31 t7 t13 fun w8=>NC w7 w8∧
 so w8 32 t6 t14 fun w9=>NC w8 w9∧
 lo w9 32 t6 fun t15=>bt .neq 32 t15 (i6 0) fun t16=>zc t16 (((pw w9.drew (Instr.loadAt 32 t6) fun t17 w10=>
 NC w9.drew w10∧
 so w10 3 t4 (i6 0) fun w11=>NC w10 w11∧
 so w11 4 t5 fa_ fun w12=>NC w11 w12∧
 so w12 32 t6 t17 fun w13=>NC w12 w13∧
 ∀ w14,Shuts w.heap.size w13 w14→pq w14 (zf 3 t4) fun r15=>pq w14 (zf 4 t5) fun r16=>pq w14 (zf 32 t6) fun r17=>K (.tuple #[r15,r16,r17]) w14)∧
 (so w9.drew 3 t4 (i6 0) fun w18=>NC w9.drew w18∧
 ((pw w18 (Instr.loadAt 32 t6) fun t17_20 w19=>
 NC w18 w19∧
 so w19 4 t5 fa_ fun w21=>NC w19 w21∧
 so w21 32 t6 t17_20 fun w22=>NC w21 w22∧
 ∀ w23,Shuts w.heap.size w22 w23→pq w23 (zf 3 t4) fun r24=>pq w23 (zf 4 t5) fun r25=>pq w23 (zf 32 t6) fun r26=>K (.tuple #[r24,r25,r26]) w23)∧
 (so w18 4 t5 fa_ fun w27=>NC w18 w27∧
 pw w27 (Instr.loadAt 32 t6) fun t17_29 w28=>
 NC w27 w28∧
 so w28 32 t6 t17_29 fun w30=>NC w28 w30∧
 ∀ w31,Shuts w.heap.size w30 w31→pq w31 (zf 3 t4) fun r32=>pq w31 (zf 4 t5) fun r33=>pq w31 (zf 32 t6) fun r34=>K (.tuple #[r32,r33,r34]) w31))))) (lo w9 31 t7 fun t18=>ca ZG #[t18] w9 fun t19 w35=>
 NC w9 w35∧
 jw prog 1 t19 w35 (fun x36 w37 S38 KR39=>
 (Ext w37 w37∧∀ w40,Nl w35.heap.size w37 w40→
 so w40 3 t4 (x36.getD 0 undef) fun w41=>NC w40 w41∧
 so w41 4 t5 tr_ fun w42=>NC w41 w42∧
 so w42 32 t6 (i6 0) fun w43=>NC w42 w43∧
 (ExtBut S38 w40 w43∧KR39 .ret w43))) (fun w44=>
 so w44 3 t4 (i6 0) fun w45=>NC w44 w45∧
 so w45 4 t5 fa_ fun w46=>NC w45 w46∧
 so w46 32 t6 (i6 0) fun w47=>NC w46 w47∧
 ∀ w48,Shuts w.heap.size w47 w48→pq w48 (zf 3 t4) fun r49=>pq w48 (zf 4 t5) fun r50=>pq w48 (zf 32 t6) fun r51=>K (.tuple #[r49,r50,r51]) w48) (fun w52=>
 ∀ w53,Shuts w.heap.size w52 w53→pq w53 (zf 3 t4) fun r54=>pq w53 (zf 4 t5) fun r55=>pq w53 (zf 32 t6) fun r56=>K (.tuple #[r54,r55,r56]) w53) [])
theorem aag {t0 t1 : Value} {w : World} {K : VW} (h : XB t0 t1 w K) : zd prog vR #[t0,t1] w K:=
 okC true (.s (.r (rz 5 0 682)) (.s (.r (rz 9 0 172069)) (.s (.s (.r (rz 2 0 1)) (.c (.s (.r (.alt 0 .l (rz 3 1 42) (ra 1 1 2 (.alt 0 .l (rz 2 2 10) (ra 1 2 2 (ra 1 0 2 (rz 1 3 2))))))) (.n)) (.n))) (.s (.s (.r (rz 2 0 9)) (.b (.rf [] (.r (rz 1 0 0)) (.b (.s (.r (rz 4 0 168)) (.n)))))) (.s (.r (rz 3 0 42)) (.n)))))) func24 rfl (by kernel_rfl) (by kernel_rfl) h
def xA (t0 : Value) (w : World) (K : VW) : Prop:=
 bt .eql 29 t0 (Value.slice Option.none 0 0) fun t4=>zc t4 (K (Value.slice Option.none 0 0) w) (pw w (Instr.buildSlice 29 0 #[]) fun t5 w1=>
 pw w1 (Builtin.append_ #[29,29] 29 #[t5,t0]) fun t7 w2=>
 K t7 w2)
theorem qP {t0 : Value} {w : World} {K : VW} (h : xA t0 w K) : zd prog yy #[t0] w K:=
 okC false (.s (.r (rz 1 0 0)) (.s (.s (.r (rz 2 0 0)) (.c (.s (.r (rz 1 0 0)) (.n)) (.n))) (.s (.r (rz 4 0 34)) (.n)))) func77 rfl (by kernel_rfl) (by kernel_rfl) h
def xH (t0 : Value) (w : World) (K : VW) : Prop:=
 bt .eql 65 t0 (Value.int .u64 0) fun t4=>zc t4 (K (i6 64) w) (pp (Op.unary .neg t0) fun t7=>bf .and 65 t0 t7 fun t8=>bt .mul 65 t8 (Value.int .u64 285870213051353865) fun t9=>bt .shr 65 t9 (Value.int .u64 58) fun t10=>xl w 145 (Value.pointer (some ⟨0,0,none⟩)) t10 5 fun t12=>pp (convert 5 3 t12) fun t13=>K t13 w)
theorem jk {t0 : Value} {w : World} {K : VW} (h : xH t0 w K) : zd prog yF #[t0] w K:=
 okC false (.s (.r (rz 1 0 0)) (.s (.s (.r (rz 2 0 0)) (.c (.s (.r (rz 1 0 0)) (.n)) (.n))) (.s (.r (rz 10 0 16384)) (.n)))) func58 rfl (by kernel_rfl) (by kernel_rfl) h
end Go.Proofs.Tryz
end
section
namespace Go.Proofs
open Go.Sh Go.RowKit Go.BM
set_option maxRecDepth 100000
set_option linter.unusedSimpArgs false
set_option linter.unusedVariables false
theorem StX.atRow {X : Nat→Prop} {w0 w : World} {r : Gh} {L : List Asr} {e : TypeId} {n cap : Nat} {p : Option Addr} {xs : List Value} (S : StX X w0 r w (.row (.slice p n cap) e 1 n xs::L)) (hn : n≠0) :
  ∃ b c,p=some ⟨b,0,none⟩∧c.take n=xs∧n≤c.length∧StX X w0 r w (.cell b c e::L)∧∀ c' w',c'.length=c.length→StX X w0 r w' (.cell b c' e::L)→StX X w0 r w' (.row (.slice p n cap) e 1 n (c'.take n)::L):=by
 have hr : w.ownsRow 0 e 1 (.slice p n cap) n xs:=S.has _ (List.mem_cons_self ..)
 rcases xW hr with ⟨h0,h1,_⟩|⟨b,cap',c,hv,hb,B,hle,hm,hc,ht⟩
 ·exact absurd h1 hn
 cases hv
 rw [Nat.mul_one] at hc ht
 refine ⟨b,c,rfl,ht,by omega,S.turn (p:=[]) (x:=.row _ e 1 n xs) (y:=.cell b c e) (ExtBut.refl _ _) B fun k hk=>.inl (by cases hk;rfl),fun c' w' hl S'=>?_⟩
 have B' : Blk w' b c' e:=S'.has _ (List.mem_cons_self ..)
 refine S'.turn (p:=[]) (x:=.cell b c' e) (y:=.row _ e 1 n (c'.take n)) (ExtBut.refl _ _) ?_ fun k hk=>.inl (by cases hk;rfl)
 have:=qC (base:=0) (size:=1) (Nat.zero_le _) B' hle hm (by rw [hl,hc,Nat.mul_one])
 rwa [Nat.mul_one] at this
theorem Z6 {W : Int} {ws : List (BitVec 64)} (h : BM.mayB W ws=true) : BM.May W ws:=Classical.byContradiction fun hn=>by rw [BM.mayB_false hn] at h;cases h
theorem afU {α : Type} {a m : List α} {i : Nat} (ha : i<a.length) (hm : i<m.length) : (a.take i++m.drop i).set i a[i]=a.take (i+1)++m.drop (i+1):=by
 rw [List.set_append_right _ _ (by rw [List.length_take];omega),List.length_take,Nat.min_eq_left (by omega),Nat.sub_self,List.drop_eq_getElem_cons hm,List.set_cons_zero,List.take_succ_eq_append_getElem ha,List.append_assoc];rfl
theorem ag8 {α : Type} {a m : List α} {i : Nat} (ha : i≤a.length) (hm : i<m.length) : (a.take i++m.drop i)[i]? = some m[i]:=by
 rw [List.getElem?_append_right (by rw [List.length_take];omega),List.length_take,Nat.min_eq_left ha,Nat.sub_self,List.getElem?_drop,Nat.add_zero,List.getElem?_eq_getElem hm]
theorem Vl {ws : List (BitVec 64)} : (wcs ws).length=ws.length:=List.length_map _
theorem afV (ws : List (BitVec 64)) : ∀ u ∈ wcs ws,u.oneCell'=true:=fun u hu=>by
 obtain ⟨x,_,rfl⟩:=List.mem_map.1 hu;rfl
theorem VT {ws : List (BitVec 64)} : RowOf 1 WdC (wcs ws) ws:=⟨by rw [Vl,Nat.mul_one],fun j hj=>by
 rw [Nat.mul_one,wcs,← List.map_drop,← List.map_take,List.drop_eq_getElem_cons hj];rfl⟩
theorem aeJ {r : Gh} {p : Option Addr} {n cap : Nat} {ws : List (BitVec 64)} (h : SlG 1 r WdC (.slice p n cap) ws) : Ob r fun w=>Sl w p (wcs ws):=fun w hw i v hi=>by
 have hlt : i<ws.length:=by
  have:=(List.getElem?_eq_some_iff.1 hi).1
  rwa [Vl] at this
 obtain ⟨b,off,hp,_,hc⟩:=Xq h hlt
 have hv : v=u64 ws[i]:=by
  rw [wcs,List.getElem?_map,List.getElem?_eq_getElem hlt] at hi
  exact (Option.some.inj hi).symm
 subst hv
 exact ⟨b,off,hp,hc w hw⟩
theorem acg {ws : List (BitVec 64)} {p : Option Addr} {cap : Nat} {w : World} {r : Gh} {K : Value→World→Prop} (hr : Holds r w) (hl : SlB 1 r WdC (.slice p ws.length cap) ws) (hb : ws.length≤1000000)
  (h : ∀ v' w',Ext w w'→w'.ownsRow w.heap.size 65 1 v' ws.length (wcs ws)→K v' w') : zd Tryz.prog Tryz.yy #[.slice p ws.length cap] w K:=by
 refine Tryz.qP ?_
 unfold Tryz.xA
 have S:=St.start hr
 obtain ⟨_,_,hE,hp,_⟩:=hl.sl.shape
 cases hE
 refine aaG (e:=65) (n:=1) (by kernel_rfl) ?_
 refine c_b (fun hn=>?_) (fun hn=>?_)
 ·have hws : ws = []:=by
   cases ws with
   |nil=>rfl
   |cons a l=>
    obtain ⟨b,off,hb,_⟩:=(S.at (aeJ hl.sl)) 0 (u64 a) rfl
    rw [hb] at hn;cases hn
  subst hws
  have S:=S.ownNil 65 1
  exact h _ _ S.ext (S.give (.slice none 0 0))
 refine S.lit (e:=65) (cs:=[]) (by kernel_rfl) fun b w1 S=>?_
 have S:=S.toRow 0 1 rfl (by decide)
 refine S.ap (v:=.slice (some ⟨b,0,none⟩) 0 0) (S.at (aeJ hl.sl)) (fun v2 w2 S=>?_) (by omega) (by rw [Vl,Nat.mul_one]) hp (afV _)
 rw [Nat.zero_add,List.nil_append] at S
 exact h _ _ S.ext (S.give v2)
abbrev afW : Value:=.agg #[.int .i64 0,.slice none 0 0]
theorem JI {x : yk} {c : List Value} {w : World} {r : Gh} {K : Value→World→Prop} (hr : Holds r w) (hx : RwbC r c x)
  (h1 : BM.mayB x.1 x.2=false→∀ w',Ext w w'→K (.tuple #[afW,.int .i64 2]) w')
  (h2 : BM.mayB x.1 x.2=true→∀ v' w',Ext w w'→w'.ownsRow w.heap.size 65 1 v' x.2.length (wcs x.2)→K (.tuple #[.agg #[.int .i64 x.1,v'],.int .i64 0]) w') : zd Tryz.prog Tryz.vg #[.agg c.toArray] w K:=by
 refine Tryz.ace ?_
 unfold Tryz.JG
 have hx0:=hx
 obtain ⟨W,ws⟩:=x
 simp only at h1 h2
 obtain ⟨p,cap,rfl,hS⟩:=hx
 have S:=St.start hr
 refine S.box fun b1 w1 S=>?_
 refine S.al fun b2 w2 S=>?_
 have S : StX noX w r w2 [.cell b2 [.int .i64 0,.slice none 0 0] 31,.cell b1 [.int .i64 W,.slice p ws.length cap] 31]:=S
 refine S.ldB (b:=b1) ?_ rfl
 refine vm S.holds hx0 fun w3 e3=>?_
 have S:=S.go e3
 refine gp_ ?_
 refine c_b (fun hm=>?_) (fun hm=>?_)
 ·refine zu (cs:=#[.int .i64 0,.slice none 0 0]) (by kernel_rfl) ?_
  refine S.stB (b:=b2) fun w4 S=>?_
  refine S.ceB (b:=b2) ?_ rfl
  exact h1 (by simpa using hm) _ S.ext
 have hm : BM.mayB W ws=true:=by simpa using hm
 have hM : BM.May W ws:=Z6 hm
 have hl : ws.length≤1000000:=by have:=hM.2.1;have:=hM.2.2.1;omega
 have S:=S.go (Ext.drew _)
 refine gg_ ?_
 refine acg S.holds hS hl fun v4 w4 e4 h4=>⟨e4,?_⟩
 have S:=S.take e4 h4
 obtain ⟨p4,cap4,rfl,_⟩:=S.rowS v4
 refine zu (cs:=#[.int .i64 W,.slice p4 ws.length cap4]) (by kernel_rfl) ?_
 refine S.stB (b:=b2) fun w5 S=>?_
 refine S.ceB (b:=b2) ?_ rfl
 exact h2 hm _ _ S.ext (S.give (.slice p4 ws.length cap4))
def agf (f : Value) (g : BitVec 64→BitVec 64→BitVec 64) : Prop:=
 ∀ (X : Nat→Prop) (w0 w : World) (r : Gh) (L : List Asr) (b i : Nat) (c : List Value) (T : TypeId) (x y : BitVec 64) (K : Value→World→Prop),StX X w0 r w (.cell b c T::L)→c[i]? = some (u64 x)→
  (∀ v w',StX X w0 r w' (.cell b (c.set i (u64 (g x y))) T::L)→K v w')→zB Tryz.prog f #[.pointer (some ⟨b,i,none⟩),u64 y] w K
theorem ahP : agf (.func (.func Tryz.YD) #[] #[]) (fun x y=>x &&& ~~~ y):=by
 intro X w0 w r L b i c T x y K S hc h
 refine xo (by kernel_rfl) (Tryz.Vk (t0:=.pointer (some ⟨b,i,none⟩)) (t1:=u64 y) ?_)
 unfold Tryz.YH
 refine n_some (S.ld (b:=b) (v:=u64 x) ?_ hc)
 refine gp_ ?_
 refine n_some (S.st (b:=b) (fun w' S=>?_) (List.getElem?_eq_some_iff.1 hc).1)
 exact h _ _ S
set_option maxHeartbeats 1000000 in
theorem ach {x y : yk} {cx cy : List Value} {fv : Value} {g : BitVec 64→BitVec 64→BitVec 64} {w : World} {r : Gh} {K : Value→World→Prop} (hr : Holds r w) (hx : RwbC r cx x) (hy : RwbC r cy y) (hf : agf fv g)
  (h1 : ¬ (BM.mayB x.1 x.2=true∧BM.mayB y.1 y.2=true∧x.1=y.1)→∀ w',Ext w w'→K (.tuple #[afW,.int .i64 2]) w')
  (h2 : BM.mayB x.1 x.2=true→BM.mayB y.1 y.2=true→x.1=y.1→∀ p cap s w',Ext w w'→New w s w'→xP s→SlB 1 s WdC (.slice p (List.zipWith g x.2 y.2).length cap) (List.zipWith g x.2 y.2)→K (.tuple #[.agg #[.int .i64 x.1,.slice p (List.zipWith g x.2 y.2).length cap],.int .i64 0]) w') :
  zd Tryz.prog Tryz.ZH #[.agg cx.toArray,.agg cy.toArray,fv] w K:=by
 refine Tryz.abN ?_
 unfold Tryz.Qn
 have hx0:=hx;have hy0:=hy
 obtain ⟨W,ws⟩:=x
 obtain ⟨V,vs⟩:=y
 simp only at h1 h2
 obtain ⟨p,cap,rfl,hS⟩:=hx
 obtain ⟨q,caq,rfl,hQ⟩:=hy
 simp only at hS hQ
 have S:=St.start hr
 refine S.box fun b3 w1 S=>?_
 refine S.box fun b4 w2 S=>?_
 refine S.al fun b6 w3 S=>?_
 have S : StX noX w r w3 [.cell b6 [.int .i64 0,.slice none 0 0] 31,.cell b4 [.int .i64 V,.slice q vs.length caq] 31,.cell b3 [.int .i64 W,.slice p ws.length cap] 31]:=S
 refine S.ldB (b:=b3) ?_ rfl
 refine vm S.holds hx0 fun w4 e4=>?_
 have S:=S.go e4
 refine gp_ ?_
 refine xp (c:=!BM.mayB V vs) (fun _ K2 hK2=>?_) fun w5 e5=>?_
 ·refine S.ldB (b:=b4) ?_ rfl
  refine vm S.holds hy0 fun w9 e9=>?_
  refine gp_ ?_
  exact hK2 _ e9
 have S:=S.go e5
 refine zo (c:=decide (W≠V)) (fun _ K2 hK2=>by refine gg_ ?_;exact hK2) ?_
 refine c_b (fun hb=>?_) (fun hb=>?_)
 ·refine zu (cs:=#[.int .i64 0,.slice none 0 0]) (by kernel_rfl) ?_
  refine S.stB (b:=b6) fun w14 S=>?_
  refine S.ceB (b:=b6) ?_ rfl
  refine h1 ?_ _ S.ext
  rintro ⟨h3,h4,h5⟩
  rw [h3,h4,h5] at hb
  simp at hb
 simp only [Bool.or_eq_false_iff,Bool.not_eq_false',decide_eq_false_iff_not,Decidable.not_not] at hb
 obtain ⟨⟨hmx,hmy⟩,rfl⟩:=hb
 have hMx : BM.May W ws:=Z6 hmx
 have hMy : BM.May W vs:=Z6 hmy
 have hlen : vs.length=ws.length:=by have:=hMx.2.2.1;have:=hMy.2.2.1;omega
 have hl : ws.length≤1000000:=by have:=hMx.2.1;have:=hMx.2.2.1;omega
 refine S.ldB (b:=b3) ?_ rfl
 refine JI S.holds hx0 (fun hn=>by rw [hmx] at hn;cases hn) fun _ v5 w16 e16 h16=>?_
 have S:=S.take e16 h16
 simp only at S
 obtain ⟨p5,cap5,rfl,_⟩:=S.rowS v5
 refine gS_ ?_
 refine S.al fun b8 w17 S=>?_
 refine S.stB (b:=b8) fun w18 S=>?_
 have hzl : (List.zipWith g ws vs).length=ws.length:=by rw [List.length_zipWith];omega
 generalize hz : List.zipWith g ws vs=zs at h2 hzl
 have hzi : ∀ i (h : i<ws.length),zs[i]'(by omega)=g ws[i] (vs[i]'(by omega)):=fun i h=>by subst hz;simp
 have S : StX noX w r w18 [.row (.slice p5 ws.length cap5) 65 1 ws.length (wcs (zs.take 0++ws.drop 0)),.cell b8 [.int .i64 W,.slice p5 ws.length cap5] 31,.cell b6 [.int .i64 0,.slice none 0 0] 31,.cell b4 [.int .i64 W,.slice q vs.length caq] 31,.cell b3 [.int .i64 W,.slice p ws.length cap] 31]:=S.swap
 refine gg_ ?_
 refine zj (ι:=Nat) (fun i=>[.int .i64 (i : Nat)]) (fun i w'=>i≤ws.length∧StX noX w r w' [.row (.slice p5 ws.length cap5) 65 1 ws.length (wcs (zs.take i++ws.drop i)),.cell b8 [.int .i64 W,.slice p5 ws.length cap5] 31,.cell b6 [.int .i64 0,.slice none 0 0] 31,.cell b4 [.int .i64 W,.slice q vs.length caq] 31,.cell b3 [.int .i64 W,.slice p ws.length cap] 31]) (fun i=>ws.length - i) 0 rfl ⟨Nat.zero_le _,S⟩ ?_
 repeat clear S
 rintro i d w22 ⟨hi,S⟩ K19 hK19
 rw [List.getD_cons_zero]
 refine gp_ ?_
 refine zm (fun hlt=>?_) (fun hge=>?_)
 ·have hlt : i<ws.length:=by omega
  have S:=S.go (Ext.drew _)
  obtain ⟨b5,c,hp5,hct,hcl,S,hback⟩:=StX.atRow S (by omega)
  subst hp5
  obtain ⟨by',oy,hpy,_,hyc⟩:=Xq hQ.sl (i:=i) (by omega)
  subst hpy
  refine gg_ ?_
  refine zh (by rw [Int.toNat_natCast];exact S.at hyc) ?_
  have hci : c[0+((i : Nat) : Int).toNat]? = some (u64 ws[i]):=by
   rw [Nat.zero_add,Int.toNat_natCast]
   have h3 : (c.take ws.length)[i]? = some (u64 ws[i]):=by
    rw [hct,wcs,List.getElem?_map,ag8 (by omega) hlt];rfl
   rwa [List.getElem?_take,if_pos hlt] at h3
  refine hf _ _ _ _ _ _ _ _ _ ws[i] (vs[i]'(by omega)) _ S hci fun _ w23 S=>?_
  have S:=hback _ _ (List.length_set ..) S
  have he : (c.set (0+((i : Nat) : Int).toNat) (u64 (g ws[i] (vs[i]'(by omega))))).take ws.length=wcs (zs.take (i+1)++ws.drop (i+1)):=by
   rw [Nat.zero_add,Int.toNat_natCast,List.take_set,hct,wcs,wcs,← List.map_set,← hzi i hlt,afU (by omega) hlt]
  rw [he] at S
  refine gg_ ?_
  exact hK19 (i+1) _ ⟨hlt,S⟩ (by omega)
 ·have hie : i=ws.length:=by omega
  subst hie
  rw [List.take_of_length_le (by omega),List.drop_length,List.append_nil] at S
  refine S.ldB (b:=b8) ?_ rfl
  refine S.stB (b:=b6) fun w24 S=>?_
  refine S.ceB (b:=b6) ?_ rfl
  obtain ⟨s,T,hs,hnb,ha⟩:=S.doneRow (l:=zs) VT (by decide) (by omega)
  rw [← hzl]
  rw [← hzl] at hs
  exact h2 hmx hmy rfl _ _ s _ T.ext (StX.newOf (q:=s) T fun b o ho=>(ha b o ho).resolve_right id) ⟨fun b o ho=>by obtain ⟨c,rfl⟩:=hnb b o ho;rfl⟩ ⟨hs,by rw [maxLen];omega⟩
theorem aci {x y : yk} {cx cy : List Value} {w : World} {r : Gh} {K : Value→World→Prop} (hr : Holds r w) (hx : RwbC r cx x) (hy : RwbC r cy y)
  (h1 : ¬ (BM.mayB x.1 x.2=true∧BM.mayB y.1 y.2=true∧x.1=y.1)→∀ w',Ext w w'→K (.tuple #[afW,.int .i64 2]) w')
  (h2 : BM.mayB x.1 x.2=true→BM.mayB y.1 y.2=true→x.1=y.1→∀ c' s w',Ext w w'→New w s w'→xP s→RwbC s c' (x.1,List.zipWith (fun x y=>x &&& ~~~ y) x.2 y.2)→K (.tuple #[.agg c'.toArray,.int .i64 0]) w') :
  zd Tryz.prog Tryz.ZI #[.agg cx.toArray,.agg cy.toArray] w K:=by
 refine Tryz.abO ?_
 unfold Tryz.Qo
 have hx0:=hx;have hy0:=hy
 obtain ⟨p,cap,rfl,hS⟩:=hx
 obtain ⟨q,caq,rfl,hQ⟩:=hy
 have S:=St.start hr
 refine S.box fun b2 w1 S=>?_
 refine S.box fun b3 w2 S=>?_
 refine S.al fun b4 w3 S=>?_
 have S : StX noX w r w3 [.cell b4 [.int .i64 0,.slice none 0 0] 31,.cell b3 [.int .i64 y.1,.slice q y.2.length caq] 31,.cell b2 [.int .i64 x.1,.slice p x.2.length cap] 31]:=S
 refine S.ldB (b:=b2) ?_ rfl
 refine S.ldB (b:=b3) ?_ rfl
 refine ach S.holds hx0 hy0 ahP (fun hn w4 e4=>?_) fun hmx hmy he p4 cap4 s4 w4 e4 n4 hnb h4=>?_
 ·have S:=S.go e4
  refine gS_ ?_
  refine S.stB (b:=b4) fun w5 S=>?_
  refine S.ceB (b:=b4) ?_ rfl
  exact h1 hn _ S.ext
 ·obtain ⟨S,_,ha⟩:=S.tell e4 n4
  refine gS_ ?_
  refine S.stB (b:=b4) fun w5 S=>?_
  refine S.ceB (b:=b4) ?_ rfl
  exact h2 hmx hmy he [.int .i64 x.1,.slice p4 _ cap4] s4 _ S.ext (StX.newOf (q:=s4) S ha) hnb ⟨p4,cap4,rfl,h4⟩
end Go.Proofs
end
section
namespace Go.Proofs
open Go.Sh Go.RowKit Go.BM
set_option maxRecDepth 100000
set_option linter.unusedSimpArgs false
set_option linter.unusedVariables false
def Tab (w : World) : Prop:=∀ j,j<64→w.cell? ⟨0,j,none⟩=some (.int .u8 (Lib.deBruijn64tab.getD j 0 : Nat))
def TabG (r : Gh) : Prop:=Ob r Tab∧∃ o,r 0 o
theorem TabG.up {r s : Gh} (h : TabG r) [le : Le r s] : TabG s:=⟨h.1.up,h.2.imp fun o=>le.le 0 o⟩
theorem XX {w : World} {x : BitVec 64} {t : Nat} {K : Value→World→Prop} (hT : Tab w) (hx : x≠0#64) (ht : t<64) (ha : (x &&& -x).toNat=2 ^ t) (h : K (.int .i64 t) w) :
  zd Tryz.prog Tryz.yF #[u64 x] w K:=by
 refine Tryz.jk ?_
 unfold Tryz.xH
 refine af5 ?_
 refine zm (fun h0=>absurd (BitVec.eq_of_toNat_eq (by have : (0#64).toNat=0:=rfl;omega)) hx) (fun h0=>?_)
 refine agu (JN ?_)
 rw [Qs]
 refine ahp 285870213051353865 rfl ?_
 refine aho 58 rfl ?_
 have hta:=ae2 ht ha
 generalize ((x &&& -x)*BitVec.ofNat 64 285870213051353865) >>> 58=z at hta ⊢
 refine aaH (l:=64) (e:=5) (n:=1) (by kernel_rfl) (by omega) (by omega) ?_
 have hc:=hT _ hta.1
 rw [hta.2] at hc
 refine zh (v:=.int .u8 (t : Int)) (by rw [show 0+Int.toNat (z.toNat : Int)*1=z.toNat by omega];exact hc) ?_
 refine agv (k1:=.u8) (by kernel_rfl) (by kernel_rfl) (by omega) h
abbrev Q0 (k : Nat) : List Value:=[.int .i64 (k : Int)]
noncomputable def Ys (W : Int) (ws : List (BitVec 64)) : List Nat:=if BM.mayB W ws then vC ws else []
theorem VU {W : Int} {ws : List (BitVec 64)} (h : BM.May W ws) : Ys W ws=vC ws:=by simp [Ys,BM.mayB_true h]
theorem aeK {W : Int} {ws : List (BitVec 64)} (h : BM.mayB W ws=false) : Ys W ws = []:=by simp [Ys,h]
theorem afX {α : Type} {l : List α} {k : Nat} {x : α} {r : List α} (h : l.drop k=x::r) : l[k]? = some x∧l.drop (k+1)=r:=by
 constructor
 ·have : (l.drop k)[0]? = some x:=by rw [h];rfl
  rwa [List.getElem?_drop,Nat.add_zero] at this
 ·rw [← List.drop_drop,h];rfl
theorem StX.frzNew {w0 w : World} {r : Gh} {L M : List Asr} {c : List Value} {T : TypeId} (S : StX noX w0 r w L) (b : Nat) [h : ja b L c T M] : StX noX w0 (r.or (Go.Sh.one b c T)) w M∧Above w0 (Go.Sh.one b c T):=
 ⟨S.frzAt b,fun k o ho=>by
  obtain ⟨rfl,_⟩:=ho
  exact ((S.permO h.h.symm).mine _ List.mem_cons_self k rfl).1.resolve_right id⟩
theorem abP {q : Gh} {b i : Nat} {c : List Value} {T : TypeId} {v : Value} [Le (Go.Sh.one b c T) q] (h : c[i]? = some v) : Ob q fun w=>w.cell? ⟨b,i,none⟩=some v:=fun w hw=>by
 have B : Blk w b c T:=zF w (hw.le (h:=inferInstance))
 show w.cell? ⟨b,i,none⟩=some v
 rw [B.cell];exact h
set_option maxHeartbeats 1000000 in
theorem aeL {q : Gh} {b1 b3 cap : Nat} {p : Option Addr} {ws : List (BitVec 64)} {D0 : Nat→Prop} {w2 : World} (B3 : Ob q fun w=>w.cell? ⟨b3,0,none⟩=some (.int .i64 0)) (B1 : Ob q fun w=>w.cell? ⟨b1,1,none⟩=some (.slice p ws.length cap))
  (hw : SlG 1 q WdC (.slice p ws.length cap) ws) (hl : ws.length≤100000) (hT : TabG q) (hD : ∀ b,D0 b→∀ o,¬ q b o) (h2 : Holds q w2) :
  Z7 Tryz.prog (.func (.func Tryz.YC) #[] #[.pointer (some ⟨b3,0,none⟩),.pointer (some ⟨b1,0,none⟩)]) w2 ((vC ws).map Q0) D0:=by
 refine ⟨_,_,rfl,by kernel_rfl,fun l W J Jx hW hlw hlt hJ hJx hround hJ0=>?_⟩
 generalize hxs : (vC ws).map Q0=xs at hround
 refine Calls.mono (Tryz.Z5 (t0:=.func (.yield l) #[] #[]) (t1:=.pointer (some ⟨b3,0,none⟩)) (t2:=.pointer (some ⟨b1,0,none⟩)) (K:=fun _ W'=>(∃ D,J xs.length D W')∨Jx W') ?_) (fun e W' hh=>by obtain ⟨v,he,hk⟩:=hh;exact ⟨⟨v,he⟩,hk⟩)
 unfold Tryz.jR
 have hq:=h2.ext hW
 refine zh (B3 _ hq) ?_
 refine gp_ ?_
 refine c_f rfl ?_
 refine gg_ ?_
 refine zh (B1 _ hq) ?_
 refine gg_ ?_
 refine zj (ι:=Nat) (fun i=>[.int .i64 i])
  (fun i w'=>i≤ws.length∧Holds q w'∧∃ k D,xs.drop k=(kp i (ws.drop i)).map Q0∧k≤xs.length∧J k D w'∧∀ b,D b→∀ o,¬ q b o)
  (fun i=>ws.length - i) 0 rfl ⟨Nat.zero_le _,hq,0,D0,by rw [← hxs];rfl,Nat.zero_le _,hJ0,hD⟩ ?_
 rintro i d w7 ⟨hi,hq7,k,D,hdrop,hkl,hJk,hDk⟩ K8 hK8
 simp only [List.getD_cons_zero]
 refine gp_ ?_
 refine zm (fun hlt=>?_) (fun hge=>?_)
 ·have hlt : i<ws.length:=by omega
  obtain ⟨bw,ow,hpw,_,hcw⟩:=Xq hw hlt
  subst hpw
  refine gg_ ?_
  refine zh (by rw [Int.toNat_natCast];exact hcw _ hq7) ?_
  rw [VX hlt,List.map_append,List.map_map] at hdrop
  refine zj (ι:=BitVec 64) (fun x=>[u64 x])
   (fun x w'=>Holds q w'∧∃ k D,xs.drop k=(j3 x).map (Q0 ∘ (64*i + ·))++(kp (i+1) (ws.drop (i+1))).map Q0∧k≤xs.length∧J k D w'∧∀ b,D b→∀ o,¬ q b o)
   (fun x=>(j3 x).length) ws[i] rfl ⟨hq7,k,D,hdrop,hkl,hJk,hDk⟩ ?_
  clear hdrop hkl hJk hDk hq7 k D
  rintro x d w8 ⟨hq8,k,D,hdrop,hkl,hJk,hDk⟩ K9 hK9
  simp only [List.getD_cons_zero]
  refine af6 ?_
  refine zm (fun hx=>?_) (fun hx=>?_)
  ·have hx : x≠0#64:=by rintro rfl;exact hx rfl
   obtain ⟨t,ht,hlow,hwb⟩:=ago hx
   refine gp_ ?_
   refine XX (hT.1 _ hq8) hx ht hlow ?_
   refine gp_ ?_
   refine acr ?_
   rw [hwb,List.map_cons,List.cons_append] at hdrop
   have hd:=afX hdrop
   have hkk : k<xs.length:=(List.getElem?_eq_some_iff.1 hd.1).1
   refine YieldC.mono (hround k _ D w8 hd.1 hJk) ?_
   rintro e w9 ⟨bb,rfl,x9,hJb⟩
   refine ⟨_,rfl,?_⟩
   refine gp_ ?_
   refine c_b (fun hbb=>?_) (fun hbb=>?_)
   ·have hbb : bb=false:=by simpa using hbb
    subst hbb
    exact .inr hJb
   ·have hbb : bb=true:=by simpa using hbb
    subst hbb
    obtain ⟨D2,hD2,hJ2⟩:=hJb
    refine gp_ ?_
    refine JN ?_
    rw [Qs]
    refine hK9 _ _ ⟨hq8.but x9 ?_,k+1,D2,hd.2,hkk,hJ2,?_⟩ (by rw [hwb];exact Nat.lt_succ_self _)
    ·rintro b o hb (hn|rfl)
     ·exact hDk b hn o hb
     ·have:=h2.lt hb;omega
    ·intro b hb o ho
     rcases hD2 b hb with h|⟨h,_⟩
     ·exact hDk b h o ho
     ·have:=hq8.lt ho;omega
  ·have hx : x=0#64:=BitVec.eq_of_toNat_eq (by have : (0#64).toNat=0:=rfl;omega)
   subst hx
   refine gg_ ?_
   rw [ac1,List.map_nil,List.nil_append] at hdrop
   exact hK8 (i+1) w8 ⟨hlt,hq8,k,D,hdrop,hkl,hJk,hDk⟩ (by omega)
 ·have hi' : i=ws.length:=by omega
  subst hi'
  rw [List.drop_length] at hdrop
  have : k=xs.length:=by
   have h1 : (xs.drop k).length=0:=by rw [hdrop];rfl
   rw [List.length_drop] at h1;omega
  subst this
  exact .inl ⟨D,hJk⟩
set_option maxHeartbeats 1000000 in
theorem acj {x : yk} {c : List Value} {w : World} {r : Gh} {K : Value→World→Prop} (hr : Holds r w) (hx : RwbC r c x) (hT : TabG r)
  (h : ∀ g s w',Ext w w'→New w s w'→xP s→(∀ (D : Nat→Prop) (w2 : World),(∀ b,D b→∀ o,¬ (r.or s) b o)→Holds (r.or s) w2→Z7 Tryz.prog g w2 ((Ys x.1 x.2).map Q0) D)→K g w') : zd Tryz.prog Tryz.ZG #[.agg c.toArray] w K:=by
 refine Tryz.abM ?_
 unfold Tryz.Qm
 have hx0:=hx
 obtain ⟨W,ws⟩:=x
 simp only at h
 obtain ⟨p,cap,rfl,hS⟩:=hx
 have S:=St.start hr
 refine S.box fun b1 w1 S=>?_
 have S : StX noX w r w1 [.cell b1 [.int .i64 W,.slice p ws.length cap] 31]:=S
 refine S.ldB (b:=b1) ?_ rfl
 refine JI S.holds hx0 (fun hm w2 e2=>?_) (fun hm v2 w2 e2 h2=>?_)
 ·have S:=S.go e2
  refine gS_ ?_
  refine S.al fun b3 w3 S=>?_
  refine S.stB (b:=b1) fun w4 S=>?_
  refine S.st (b:=b3) fun w5 S=>?_
  refine gp_ ?_
  have S : StX noX w r w5 [.cell b3 [.int .i64 2] 32,.cell b1 [.int .i64 0,.slice none 0 0] 31]:=S
  obtain ⟨S,a3⟩:=StX.frzNew S b3
  rw [aeK hm] at h
  refine h _ _ _ S.ext (S.newOf a3) inferInstance fun D w6 hD h6=>⟨_,_,rfl,by kernel_rfl,fun l W1 J Jx hW hl hlt hJ hJx hround hJ0=>?_⟩
  refine Calls.mono (Tryz.Z5 (t0:=.func (.yield l) #[] #[]) (t1:=.pointer (some ⟨b3,0,none⟩)) (t2:=.pointer (some ⟨b1,0,none⟩)) (K:=fun _ W'=>(∃ D,J 0 D W')∨Jx W') ?_) (fun e W' hh=>by obtain ⟨v,he,hk⟩:=hh;exact ⟨⟨v,he⟩,hk⟩)
  unfold Tryz.jR
  refine zh (abP (q:=r.or (Go.Sh.one b3 [.int .i64 2] 32)) (c:=[.int .i64 2]) (T:=32) (v:=.int .i64 2) rfl _ (h6.ext hW)) ?_
  refine gp_ ?_
  exact c_t rfl (.inl ⟨D,hJ0⟩)
 ·have S:=S.take e2 h2
  simp only at S
  have hM : BM.May W ws:=Z6 hm
  have hl : ws.length≤100000:=by have:=hM.2.1;have:=hM.2.2.1;omega
  obtain ⟨p2,cap2,rfl,_⟩:=S.rowS v2
  refine gS_ ?_
  refine S.al fun b3 w3 S=>?_
  refine S.stB (b:=b1) fun w4 S=>?_
  refine S.st (b:=b3) fun w5 S=>?_
  refine gp_ ?_
  have S : StX noX w r w5 [.cell b3 [.int .i64 0] 32,.row (.slice p2 ws.length cap2) 65 1 ws.length (wcs ws),.cell b1 [.int .i64 W,.slice p2 ws.length cap2] 31]:=S
  obtain ⟨S,a3⟩:=StX.frzNew S b3
  obtain ⟨s2,S,hw,hnb,a2⟩:=S.doneRow (l:=ws) VT (by decide) rfl
  obtain ⟨S,a1⟩:=StX.frzNew S b1
  have a2 : Above w s2:=fun b o ho=>(a2 b o ho).resolve_right id
  have nb2 : xP s2:=⟨fun b o ho=>by obtain ⟨c,rfl⟩:=hnb b o ho;rfl⟩
  have S : StX noX w (r.or (((Go.Sh.one b3 [.int .i64 0] 32).or s2).or (Go.Sh.one b1 [.int .i64 W,.slice p2 ws.length cap2] 31))) w5 []:=S.less (by
   rintro b o (h|(h|h)|h)
   ·exact .inl (.inl (.inl h))
   ·exact .inl (.inl (.inr h))
   ·exact .inl (.inr h)
   ·exact .inr h) (List.Sublist.refl _)
  rw [VU hM] at h
  refine h _ _ _ S.ext (S.newOf ((a3.or' a2).or' a1)) inferInstance fun D w6 hD h6=>?_
  exact aeL (abP (c:=[.int .i64 0]) (T:=32) rfl) (abP (c:=[.int .i64 W,.slice p2 ws.length cap2]) (T:=31) rfl) hw.cells hl hT.up hD h6
def lackL (W : Int) (ws vs : List (BitVec 64)) : List Nat:=(List.range W.toNat).filter fun k=>bit vs k && !bit ws k
theorem aeM {W : Int} {ws vs : List (BitVec 64)} (h : BM.May W ws) (h' : BM.May W vs) : Ys W (List.zipWith (fun x y=>x &&& ~~~ y) vs ws)=lackL W ws vs:=by
 have hl : vs.length=ws.length:=by have:=h.2.2.1;have:=h'.2.2.1;omega
 have hz : (0 : BitVec 64) &&& ~~~ 0=0:=by decide
 have hm:=agp (g:=fun x y=>x &&& ~~~ y) (h:=fun a b=>a && !b) aaB hz rfl h' h
 rw [VU hm,ac2 hm,lackL]
 apply List.filter_congr
 intro k _
 exact aco (h:=fun a b=>a && !b) aaB hz hl k
def abQ (l : List Nat) : Value:=.tuple #[.int .i64 ((l.headD 0 : Nat) : Int),.bool (!l.isEmpty),.int .i64 0]
theorem afY {P : Program} {w : World} {s : Sem Value} {K : Value→World→Prop} (h : opQ P w s fun v=>K v w) : opW P w s fun v w'=>NC w w'∧K v w':=w_q (by
 obtain ⟨v,h1,h2⟩:=h
 exact ⟨v,h1,NC.of_ext (Ext.refl w),h2⟩)
set_option maxHeartbeats 2000000 in
theorem abR {x y : yk} {cx cy : List Value} {w : World} {r : Gh} {K : Value→World→Prop} (hr : Holds r w) (hx : RwbC r cx x) (hy : RwbC r cy y) (hT : TabG r)
  (h1 : ¬ (BM.mayB x.1 x.2=true∧BM.mayB y.1 y.2=true∧x.1=y.1)→∀ w',Ext w w'→K (.tuple #[.int .i64 0,.bool false,.int .i64 2]) w')
  (h2 : BM.mayB x.1 x.2=true→BM.mayB y.1 y.2=true→x.1=y.1→∀ w',Ext w w'→K (abQ (lackL x.1 x.2 y.2)) w') : zd Tryz.prog Tryz.vR #[.agg cx.toArray,.agg cy.toArray] w K:=by
 refine Tryz.aag ?_
 unfold Tryz.XB
 have hx0:=hx;have hy0:=hy
 obtain ⟨p,cap,rfl,hS⟩:=hx
 obtain ⟨q,caq,rfl,hQ⟩:=hy
 have S:=St.start hr
 have hlow:=S.low
 refine S.boxN fun b2 w1 _ S=>?_
 refine S.boxN fun b3 w2 _ S=>?_
 refine S.alN fun b4 w3 _ S=>?_
 refine S.alN fun b5 w4 _ S=>?_
 refine S.alN fun b6 w5 _ S=>?_
 have S : StX noX w r w5 [.cell b6 [.int .i64 0] 32,.cell b5 [.bool false] 4,.cell b4 [.int .i64 0] 3,.cell b3 [.int .i64 y.1,.slice q y.2.length caq] 31,.cell b2 [.int .i64 x.1,.slice p x.2.length cap] 31]:=S
 refine S.ldB (b:=b3) ?_ rfl
 refine S.ldB (b:=b2) ?_ rfl
 refine aci S.holds hy0 hx0 (fun hn w6 e6=>⟨NC.of_ext e6,?_⟩) fun hmy hmx he c6 s6 w6 e6 n6 nb6 h6=>⟨NC.of_ext e6,?_⟩
 ·have S:=S.go e6
  refine gS_ ?_
  refine S.alN fun b7 w7 _ S=>?_
  refine S.stBN (b:=b7) fun w8 S=>?_
  refine S.stN' (b:=b6) fun w9 S=>?_
  refine S.ld (b:=b6) ?_
  refine gp_ ?_
  refine c_t rfl ?_
  have S:=S.go (Ext.drew _)
  have fin : ∀ W,StX noX w r W [.cell b7 [.int .i64 0,.slice none 0 0] 31,.cell b6 [.int .i64 2] 32,.cell b5 [.bool false] 4,.cell b4 [.int .i64 0] 3,.cell b3 [.int .i64 y.1,.slice q y.2.length caq] 31,.cell b2 [.int .i64 x.1,.slice p x.2.length cap] 31]→
    ∀ W',Shuts w.heap.size W W'→opQ Tryz.prog W' (zf 3 (.pointer (some ⟨b4,0,none⟩))) fun r15=>opQ Tryz.prog W' (zf 4 (.pointer (some ⟨b5,0,none⟩))) fun r16=>opQ Tryz.prog W' (zf 32 (.pointer (some ⟨b6,0,none⟩))) fun r17=>K (.tuple #[r15,r16,r17]) W':=fun W S W' e=>by
   have S:=S.shut e
   refine S.ce (b:=b4) ?_
   refine S.ce (b:=b5) ?_
   refine S.ce (b:=b6) ?_
   exact h1 (fun hh=>hn ⟨hh.2.1,hh.1,hh.2.2.symm⟩) _ S.ext
  refine ⟨?_,?_⟩
  ·refine afY (S.ld (b:=b6) ?_)
   refine S.stN' (b:=b4) fun w11 S=>?_
   refine S.stN' (b:=b5) fun w12 S=>?_
   refine S.stN' (b:=b6) fun w13 S=>?_
   exact fin _ S
  ·refine S.stN' (b:=b4) fun w18 S=>?_
   refine ⟨?_,?_⟩
   ·refine afY (S.ld (b:=b6) ?_)
    refine S.stN' (b:=b5) fun w12 S=>?_
    refine S.stN' (b:=b6) fun w13 S=>?_
    exact fin _ S
   ·refine S.stN' (b:=b5) fun w12 S=>?_
    refine afY (S.ld (b:=b6) ?_)
    refine S.stN' (b:=b6) fun w13 S=>?_
    exact fin _ S
 ·obtain ⟨S,_,_⟩:=S.tell e6 n6
  have h6':=h6
  obtain ⟨p6,cap6,rfl,h6S⟩:=h6
  refine gS_ ?_
  refine S.alN fun b7 w7 _ S=>?_
  refine S.stBN (b:=b7) fun w8 S=>?_
  refine S.stN' (b:=b6) fun w9 S=>?_
  refine S.ld (b:=b6) ?_
  refine gp_ ?_
  refine c_f rfl ?_
  refine S.ldB (b:=b7) ?_ rfl
  refine acj S.holds (RwbC.up h6') hT.up fun g s w10 e10 n10 nb10 hI=>⟨NC.of_ext e10,?_⟩
  obtain ⟨S,_,_⟩:=S.tell e10 n10
  have S : StX noX w ((r.or s6).or s) w10 [.cell b6 [.int .i64 0] 32,.cell b5 [.bool false] 4,.cell b4 [.int .i64 0] 3]:=S.less (fun _ _ h=>h) (.cons _ (.cons_cons _ (.cons_cons _ (.cons_cons _ (List.nil_sublist _)))))
  have hE : Ys y.1 (List.zipWith (fun x y=>x &&& ~~~ y) y.2 x.2)=lackL x.1 x.2 y.2:=by
   rw [he];exact aeM (Z6 hmx) (he ▸ Z6 hmy)
  simp only at hI
  rw [hE] at hI
  have hk:=h2 hmx hmy he.symm
  generalize lackL x.1 x.2 y.2=l at hI hk
  have hw10:=S.x.size
  have hlow' : Low w.heap.size ((r.or s6).or s):=inferInstance
  have hlow10:=S.low
  have fin : ∀ (k : Int) (is : Bool),abQ l = .tuple #[.int .i64 k,.bool is,.int .i64 0]→∀ W,StX noX w ((r.or s6).or s) W [.cell b6 [.int .i64 0] 32,.cell b5 [.bool is] 4,.cell b4 [.int .i64 k] 3]→
    ∀ W',Shuts w.heap.size W W'→opQ Tryz.prog W' (zf 3 (.pointer (some ⟨b4,0,none⟩))) fun r15=>opQ Tryz.prog W' (zf 4 (.pointer (some ⟨b5,0,none⟩))) fun r16=>opQ Tryz.prog W' (zf 32 (.pointer (some ⟨b6,0,none⟩))) fun r17=>K (.tuple #[r15,r16,r17]) W':=fun k is hv W S W' e=>by
   have S:=S.shut e
   refine S.ce (b:=b4) ?_
   refine S.ce (b:=b5) ?_
   refine S.ce (b:=b6) ?_
   have:=hk _ S.ext
   rwa [hv] at this
  refine agw (l.map Q0) (y9 [.cell b6 [.int .i64 0] 32,.cell b5 [.bool false] 4,.cell b4 [.int .i64 0] 3])
   (fun W=>StX noX w ((r.or s6).or s) W [.cell b6 [.int .i64 0] 32,.cell b5 [.bool false] 4,.cell b4 [.int .i64 0] 3])
   (fun W=>StX noX w ((r.or s6).or s) W [.cell b6 [.int .i64 0] 32,.cell b5 [.bool true] 4,.cell b4 [.int .i64 ((l.headD 0 : Nat) : Int)] 3])
   (Qv S) (hI _ _ (fun b hb o ho=>?_) S.holds) ?_ ?_ ?_ S ?_ ?_ ?_
  ·obtain ⟨x,hx,hd⟩:=yT.1 hb
   exact (S.mine x hx b hd).2 o ho
  ·intro y hy
   obtain ⟨z,_,rfl⟩:=List.mem_map.1 hy
   rfl
  ·intro W W' S e;exact S.nl e hw10
  ·intro W W' S e;exact S.nl e hw10
  ·rintro x36 r36 W hxs S KR hKR
   refine ⟨.refl _,fun W9 e9=>?_⟩
   have S:=S.nl e9 hw10
   cases l with
   |nil=>cases hxs
   |cons k l=>
    cases hxs
    simp only [List.getD_cons_zero]
    have R:=S.part
    refine R.stN' (b:=b4) fun w10 R=>?_
    refine R.stN' (b:=b5) fun w11 R=>?_
    refine R.stN' (b:=b6) fun w12 R=>?_
    have S2:=S.whole R fun _ h=>h
    exact ⟨R.x,hKR _ S2⟩
  ·intro hxs W S
   have hl : l = []:=List.map_eq_nil_iff.1 hxs
   subst hl
   refine S.stN' (b:=b4) fun w11 S=>?_
   refine S.stN' (b:=b5) fun w12 S=>?_
   refine S.stN' (b:=b6) fun w13 S=>?_
   exact fin 0 false rfl _ S
  ·intro x36 r36 hxs W S
   cases l with
   |nil=>cases hxs
   |cons k l=>exact fin k true rfl _ S
theorem adA {x y : yk} {cx cy : List Value} {w : World} {r : Gh} {K : Value→World→Prop} (hr : Holds r w) (hx : RwbC r cx x) (hy : RwbC r cy y) (hT : TabG r)
  (h1 : ¬ (BM.mayB x.1 x.2=true∧BM.mayB y.1 y.2=true∧x.1=y.1)→∀ w',Ext w w'→K (.tuple #[.bool false,.int .i64 2]) w')
  (h2 : BM.mayB x.1 x.2=true→BM.mayB y.1 y.2=true→x.1=y.1→∀ w',Ext w w'→K (.tuple #[.bool (lackL x.1 x.2 y.2).isEmpty,.int .i64 0]) w') : zd Tryz.prog Tryz.Yo #[.agg cx.toArray,.agg cy.toArray] w K:=by
 refine Tryz.acf ?_
 unfold Tryz.JH
 have hx0:=hx;have hy0:=hy
 obtain ⟨p,cap,rfl,hS⟩:=hx
 obtain ⟨q,caq,rfl,hQ⟩:=hy
 have S:=St.start hr
 refine S.box fun b2 w1 S=>?_
 refine S.box fun b3 w2 S=>?_
 have S : StX noX w r w2 [.cell b3 [.int .i64 y.1,.slice q y.2.length caq] 31,.cell b2 [.int .i64 x.1,.slice p x.2.length cap] 31]:=S
 refine S.ldB (b:=b2) ?_ rfl
 refine S.ldB (b:=b3) ?_ rfl
 refine abR S.holds hx0 hy0 hT (fun hn w3 e3=>?_) fun hmx hmy he w3 e3=>?_
 ·have S:=S.go e3
  refine gS_ ?_
  refine zi (c:=false) (fun hc=>by cases hc) ?_
  exact h1 hn _ S.ext
 ·have S:=S.go e3
  unfold abQ
  refine gS_ ?_
  refine zi (c:=(lackL x.1 x.2 y.2).isEmpty) (fun _ K2 hK2=>?_) ?_
  ·refine gp_ ?_
   rw [Bool.not_not]
   exact hK2
  ·have:=h2 hmx hmy he _ S.ext
   simpa using this
end Go.Proofs
end
section
namespace Go.Proofs
open Go.Sh Go.RowKit Go.BM
set_option maxRecDepth 100000
set_option linter.unusedSimpArgs false
set_option linter.unusedVariables false
theorem ag9 {g : GrD} {R : List yk} (hF : LkF g) (hok : Xv g R=true) (hc : Yq g R=none) {i : Nat} (hi : i<g.tys.length) :
  ∃ hl : i<R.length,BM.mayB R[i].1 R[i].2=true∧R[i].1=(g.pts.length : Nat)∧lackL R[i].1 R[i].2 (yx (lvM g (i : Nat))) = []:=by
 rw [Xv,Bool.and_eq_true,decide_eq_true_eq,Bool.not_eq_true',List.any_eq_false] at hok
 obtain ⟨hlen,hall⟩:=hok
 have hl : i<R.length:=by omega
 have hb:=hall _ (List.getElem_mem hl)
 rw [Yr,Bool.or_eq_true,not_or,Bool.not_eq_true',Bool.not_eq_false,decide_eq_true_eq,Decidable.not_not] at hb
 obtain ⟨hm,hw⟩:=hb
 refine ⟨hl,hm,hw,?_⟩
 rw [lackL,List.filter_eq_nil_iff]
 intro k hk hcon
 rw [List.mem_range,hw,Int.toNat_natCast] at hk
 have hgl:=zR (g:=g)
 have hnf:=hF.net.few
 have hll:=xy (g:=g) (x:=(i : Nat))
 have hq : isN (ze g) (k : Nat):=⟨by omega,by omega⟩
 rw [Bool.and_eq_true,Bool.not_eq_true',abm (by omega)] at hcon
 have hL:=(Xh (x:=(i : Nat)) hq).1 (by rw [mk',Int.toNat_natCast];exact hcon.1)
 have hm2 : mk' (vX g R[i]) (k : Nat)=true:=abk (fun q hq hmu=>by
  have q0:=hq.1;have q1:=hq.2
  have hbd:=afL hc (y:=i) (p:=q.toNat) hl (by omega)
  rw [ZL,List.getD_eq_getElem?_getD,List.getElem?_eq_getElem hl,Option.getD_some,abC,show ((q.toNat : Nat) : Int)=q by omega,hmu,Bool.true_and,Bool.not_eq_false'] at hbd
  exact hbd) hL
 rw [vX,acG (by omega) (by omega),Int.toNat_natCast,hcon.2] at hm2
 cases hm2
set_option maxHeartbeats 8000000 in
theorem XY {u : UnD} {n : Int} {R : List yk} {v vr : Value} {w : World} {r : Gh} {K : Value→World→Prop} (hr : Holds r w) (hu : UnG r v u) (hR : SlG 2 r (RwbC r) vr R) (hT : TabG r)
  (h : ∀ w',Ext w w'→K (.bool true) w') : zd Tryz.prog Tryz.jZ #[v,.int .i64 n,vr] w K:=by
 refine Tryz.Xx ?_
 unfold Tryz.j1
 have hu0:=hu
 obtain ⟨p0,cap0,vf,rfl,_,_,hst,hsl,hfn⟩:=hu
 obtain ⟨qf,capf,rfl,_,_⟩:=hfn.sl.shape
 have hR0:=hR
 obtain ⟨pr,cr,rfl,_,_⟩:=hR.shape
 have hfl : u.fs.length≤9223372036854775807:=hfn.few
 have S:=St.start hr
 refine S.box fun b5 w1 S=>?_
 have S : StX noX w r w1 [.cell b5 [.slice p0 u.ss.length cap0,.slice qf u.fs.length capf,.int .i64 u.mn] 25]:=S
 refine S.ldB (b:=b5) ?_ rfl
 refine abJ S.holds hu0 fun y w2 e2=>?_
 have S:=S.go e2
 refine gp_ ?_
 refine zo (c:=decide (600<(R.length : Int))) (fun _ K2 hK2=>by refine gg_ ?_;exact hK2) ?_
 refine c_b (fun _=>k9 fun w3 e3=>h _ (S.go e3).ext) (fun hsm=>?_)
 have hsm : R.length≤600:=by
  simp only [Bool.or_eq_false_iff,decide_eq_false_iff_not] at hsm
  omega
 refine zj (ι:=Nat) (fun i=>[.int .i64 (i : Nat)]) (fun i w'=>i≤R.length∧StX noX w r w' [.cell b5 [.slice p0 u.ss.length cap0,.slice qf u.fs.length capf,.int .i64 u.mn] 25]) (fun i=>R.length - i) 0 rfl ⟨Nat.zero_le _,S⟩ ?_
 repeat clear S
 rintro i d w11 ⟨hi,S⟩ K8 hK8
 rw [List.getD_cons_zero]
 refine gp_ ?_
 refine gp_ ?_
 refine zm (fun hlt=>?_) (fun hge=>?_)
 ·have hlt : i<R.length:=by omega
  obtain ⟨b,off,c,rfl,hcl,hcR,hcell⟩:=hR.get (by decide) hlt
  generalize R[i]=rw at hcR
  obtain ⟨pw,cw,rfl,hS⟩:=hcR
  have hfew : rw.2.length≤9223372036854775807:=hS.few
  refine gg_ ?_
  refine zh (by rw [Int.toNat_natCast];exact S.at (hcell 1 _ rfl)) ?_
  refine gg_ ?_
  refine zm (fun _=>k9 fun w3 e3=>h _ (S.go e3).ext) (fun hsm2=>?_)
  refine gg_ ?_
  exact hK8 (i+1) _ ⟨hlt,S⟩ (by omega)
 clear hK8 K8 hge hi d
 refine S.ldB (b:=b5) ?_ rfl
 refine JF S.holds hu0 fun vb sb w13 e13 n13 hvb hzb=>?_
 obtain ⟨S,_,_⟩:=S.tell e13 n13
 by_cases hE : fnE u n=0
 case neg=>
  obtain rfl:=hzb hE
  rw [agU hE]
  refine gp_ ?_
  refine gp_ ?_
  refine gp_ ?_
  refine c_t rfl ?_
  refine gg_ ?_
  refine zT (c:=true) (fun _ K2 hK2=>k9 fun w8 e8=>hK2 _ e8) fun w8 e8=>?_
  have:=h _ (S.go e8).ext
  simpa using this
 case pos=>
 obtain ⟨g,hgi,hnu,hvb⟩:=hvb hE
 rw [hE]
 have hF:=xO hE hgi
 have hnf:=hF.net.few
 have hmf:=hF.loc.few
 have hgl:=zR (g:=g)
 have hol:=ji (g:=g)
 obtain ⟨pb,cb,rfl,_,_⟩:=hvb.shape
 refine gp_ ?_
 refine gp_ ?_
 refine gp_ ?_
 refine c_f rfl ?_
 refine S.ldB (b:=b5) ?_ rfl
 refine jQ S.holds hu0.up (hvb.up' inferInstance fun _ _ h=>h.up) (by omega) fun w19 e19=>?_
 have S:=S.go e19
 rw [abK hE hgi]
 refine gS_ ?_
 refine zo (c:=false) (fun _ K2 hK2=>by refine gg_ ?_;exact hK2) ?_
 refine c_f rfl ?_
 refine S.ldB (b:=b5) ?_ rfl
 refine jQ S.holds hu0.up (hR0.up' inferInstance fun _ _ h=>h.up) (by omega) fun w24 e24=>?_
 have S:=S.go e24
 obtain ⟨ca,ca',cis,cf,hV,hV0,hV1⟩:=ag6 u n R
 rw [hV]
 clear hV
 refine gS_ ?_
 refine zj (ι:=Nat) (fun i=>[.int .i64 (i : Nat)]) (fun i w'=>i≤(xj g).length∧StX noX w (r.or sb) w' [.cell b5 [.slice p0 u.ss.length cap0,.slice qf u.fs.length capf,.int .i64 u.mn] 25]) (fun i=>(xj g).length - i) 0 rfl ⟨Nat.zero_le _,S⟩ ?_
 repeat clear S
 rintro i d w28 ⟨hi,S⟩ K25 hK25
 rw [List.getD_cons_zero]
 refine gp_ ?_
 refine gp_ ?_
 refine zi (c:=cis) (fun _ K2 hK2=>hK2) ?_
 refine c_b (fun hc=>?_) (fun _=>k9 fun w8 e8=>h _ (S.go e8).ext)
 rw [Bool.and_eq_true,decide_eq_true_eq] at hc
 obtain ⟨hlt,hcis⟩:=hc
 have hlt : i<(xj g).length:=by omega
 have hokR : Xv g R=true:=by
  cases hk : okC u n R with
  |false=>rw [(hV0 hk).2.2.1] at hcis;cases hcis
  |true=>rwa [aeI hE hgi] at hk
 have hclR : Yq g R=none:=by
  have h3:=(hV1 (by rw [aeI hE hgi];exact hokR)).2.2
  rw [ag7 hgi] at h3
  cases hk : Yq g R with
  |none=>rfl
  |some y=>rw [(h3 y.1 y.2 hk).2.2] at hcis;cases hcis
 obtain ⟨hiR,hmR,hwR,hlR⟩:=ag9 hF hokR hclR (i:=i) (by omega)
 have hownI : (xj g)[i]=((((lvM g (i : Nat)).length : Nat) : Int),yx (lvM g (i : Nat))):=by
  have:=acQ (g:=g) (i:=i) (by omega)
  rwa [List.getD_eq_getElem?_getD,List.getElem?_eq_getElem hlt] at this
 obtain ⟨bR,oR,cR,hpR,hclR2,hcR,hcellR⟩:=hR0.get (by decide) hiR
 obtain ⟨bO,oO,cO,hpO,hclO,hcO,hcellO⟩:=hvb.get (by decide) hlt
 subst hpR
 subst hpO
 rw [hownI] at hcO
 have hll:=xy (g:=g) (x:=(i : Nat))
 have hmO:=BM.mayB_true (abl (m:=lvM g (i : Nat)) (by omega))
 generalize R[i]=x at hmR hwR hlR hcR
 generalize lvM g (i : Nat)=m at hcO hlR hll hmO
 have S:=S.go (Ext.drew _)
 refine gg_ ?_
 refine zH (n:=2) hclR2 (fun j v hj=>by rw [Int.toNat_natCast];exact S.at (hcellR j v hj)) ?_
 refine gg_ ?_
 refine zH (n:=2) hclO (fun j v hj=>by rw [Int.toNat_natCast];exact S.at (hcellO j v hj)) ?_
 refine adA S.holds (RwbC.up hcR) (RwbC.up hcO) hT.up (fun hn=>absurd ⟨hmR,hmO,by show x.1=((m.length : Nat) : Int);omega⟩ hn) fun _ _ _ w33 e33=>?_
 have S:=S.go e33
 simp only
 rw [hlR]
 refine gS_ ?_
 refine zo (c:=false) (fun _ K2 hK2=>by refine gg_ ?_;exact hK2) ?_
 refine c_f rfl ?_
 refine gg_ ?_
 exact hK25 (i+1) _ ⟨hlt,S⟩ (by omega)
end Go.Proofs
end
