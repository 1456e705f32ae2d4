/-
  Contracts and plain laws that the last text leans on.
-/
import Derived.Test.YthmakcmiggpoeaaGreatDoorQBg
import Derived.Test.YthmakcmiggpoeaaGreatDoorQBf
import Derived.Test.YthmakcmiggpoeaaGreatDoorQBe
import Derived.Test.YthmakcmiggpoeaaGreatDoorQBb
set_option maxRecDepth 100000
set_option maxHeartbeats 8000000
set_option linter.unusedVariables false
set_option linter.unusedSimpArgs false
namespace Go.Proofs
open Go.Sh Go.RowKit Go.BM
section
noncomputable def ae8(width:Int)(x:xM):Bool:=!BM.mayB x.1 x.2||decide (x.1≠width)
noncomputable def z7(R:List xM)(count width:Int):Bool:=decide ((R.length:Int)=count) && !R.any (ae8 width)
theorem al5{W:Int}{b:Nat}{x:xM}{c:List Value}{w:World}{r:Gh}{K:Value→World→Prop}(hr:Holds r w)(hb:Ob r λw=>w.cell? ⟨b,0,none⟩=some (.int .i64 W))(hx:RwbC r c x)
  (h:∀w',Ext w w'→K (.bool (ae8 W x)) w'):zD Tryz.prog (.func (.func Tryz.Vm) #[] #[.pointer (some ⟨b,0,none⟩)]) #[.agg c.toArray] w K:=by
 refine aa8 (by kernel_rfl) ?_
 refine Tryz.ae3 ?_
 unfold Tryz.VM
 obtain⟨W',ws⟩:=x
 have hx0:=hx
 obtain⟨p,cap,rfl,hS⟩:=hx
 have S:=St.start hr
 refine S.box λb2 w1 S=>?_
 have S:StX noX w r w1 [.cell b2 [.int .i64 W',.slice p ws.length cap] 48]:=S
 refine S.ldB (b:=b2) ?_ rfl
 refine adV S.holds hx0 λw2 e2=>?_
 have S:=S.go e2
 refine gp_ ?_
 refine zn (c:=decide (W'≠W)) (λ_ K2 hK2=>?_) ?_
 ·refine gg_ ?_
  refine zf (S.at hb) ?_
  refine gg_ ?_
  exact hK2
 exact h _ S.ext
theorem abU{R:List xM}{n W:Int}{v:Value}{w:World}{r:Gh}{K:Value→World→Prop}(hr:Holds r w)(hR:SlG 2 r (RwbC r) v R)(hf:R.length≤1000000)
  (h:∀w',Ext w w'→K (.bool (z7 R n W)) w'):zd Tryz.prog Tryz.Z8 #[v,.int .i64 n,.int .i64 W] w K:=by
 refine Tryz.ahY ?_
 unfold Tryz.abS
 obtain⟨p,cap,rfl,_,_⟩:=hR.shape
 have S:=St.start hr
 refine S.box λb5 w1 S=>?_
 have S:StX noX w r w1 [.cell b5 [.int .i64 W] 3]:=S
 have S:=S.frzAt b5
 have hb:Ob (r.or (Go.Sh.one b5 [.int .i64 W] 3)) λw=>w.cell? ⟨b5,0,none⟩=some (.int .i64 W):=y9 (i:=0) (c:=[.int .i64 W]) (T:=3) rfl
 refine gg_ ?_
 refine zr (c:=!R.any (ae8 W)) (λ_ K2 hK2=>?_) λw5 e5=>?_
 ·refine gp_ ?_
  refine aaI (f:=ae8 W) S.holds (hR.up' inferInstance λ_ _ h=>RwbC.up h) (by omega) (λx _ c w K hr hc hK=>al5 hr hb hc hK) λw6 e6=>?_
  refine gp_ ?_
  exact hK2 _ e6
 exact h _ (S.go e5).ext
section
variable {u:UnD} {g:GrD} {d:RgD} {e:Int} {ls:List LnD} {b:Nat} {w:World} {r:Gh} {K:Value→World→Prop}
theorem VO{R:List xM}{v:Value}(hr:Holds r w)(hL:LkG2 r b u g d e ls)(hR:SlG 2 r (RwbC r) v R)(hf:R.length≤1000000)(h:∀w',Ext w w'→K (.bool (z7 R ls.length g.pts.length)) w'):
  zd Tryz.prog Tryz.kv #[.pointer (some ⟨b,0,none⟩),v] w K:=by
 refine Tryz.V0 ?_
 unfold Tryz.Yr
 obtain⟨pl,cl,hlc,hls⟩:=id hL.lns
 obtain⟨pp,cpp,hc,hs⟩:=hL.pts
 have S:=St.start hr
 have S:=S.go (Ext.drew _)
 refine n_some ?_
 refine gg_ ?_
 refine zf (S.at hlc) ?_
 refine gg_ ?_
 refine zf (S.at hc) ?_
 refine gg_ ?_
 refine abU S.holds hR hf λw2 e2=>?_
 exact h _ (S.go e2).ext
theorem aaV{P:Program}{t:TypeId}{c:Bool}{x y:Int}{K:Value→Prop}(k:∀n:Int,K (.int .i64 n)):opP P (zM .add t c (.int .i64 x) (.int .i64 y)) K:=
 ye (λw=>by rw[yu];simp[binOp,Op.intArith]) (k (IntKind.i64.wrap (x+y)))
theorem ah2(hr:Holds r w)(hL:LkG2 r b u g d e ls)(hM:MayU u)(hpt:∀p∈g.pts,zG u g p=true)(h:∀n w',Ext w w'→K (.int .i64 n) w'):
  zd Tryz.prog Tryz.jQ #[.pointer (some ⟨b,0,none⟩)] w K:=by
 refine Tryz.aaP ?_
 unfold Tryz.Y1
 obtain⟨pl,cl,hlc,hls⟩:=id hL.lns
 obtain⟨pp,cpp,hc,hs⟩:=hL.pts
 obtain⟨pt,cpt,hct,hty⟩:=hL.tys
 obtain⟨pf,cpf,hcf,hfs⟩:=hL.fs
 have htf:g.tys.length≤9223372036854775807:=hty.few
 have hpf:g.pts.length≤9223372036854775807:=hs.few
 have S:=St.start hr
 refine gg_ ?_
 refine zf (S.at hL.lv) ?_
 refine gg_ ?_
 refine zf (S.at hct) ?_
 refine gg_ ?_
 refine zj (ι:=Int×Nat) (λi=>[.int .i64 i.1,.int .i64 (i.2:Nat)]) (λi w'=>i.2≤g.tys.length∧StX noX w r w' []) (λi=>g.tys.length-i.2) (g.lv,0) rfl ⟨gzl _,S⟩ ?_
 repeat clear S
 rintro⟨n,i⟩ d0 w1 ⟨hi,S⟩ K1 hK1
 simp only at hi S⊢
 simp only[gdz,gds]
 refine gg_ ?_
 refine zh (λhlt=>?_) (λhge=>?_)
 ·have hlt:i<g.tys.length:=by omega
  obtain⟨bo,oo,co,hqo,hcl,hoc,hoo⟩:=hty.sl.get (by decide) hlt
  generalize g.tys[i]=t at hoc
  obtain⟨qt,kt,rfl,ht⟩:=yj hoc
  cases hqo
  refine gg_ ?_
  refine zo (n:=5) rfl (λj v hj=>by rw[tnc];exact S.at (hoo j v hj)) ?_
  refine S.al λb5 w5 S=>?_
  refine S.stB (b:=b5) λw6 S=>?_
  refine S.ldB (b:=b5) ?_ rfl
  refine kA S.holds ht λv7 w7 e7 o7=>?_
  have hrf:(regsT t).length≤maxLen:=by
   rcases kK o7 with⟨_,h0,_⟩|⟨_,_,_,_,_,_,h1,h2,_⟩
   ·omega
   ·omega
  obtain⟨s,S,hs7,_,_⟩:=(S.take e7 o7).doneRow (qN) (by decide) rfl
  have S:=S.tl
  obtain⟨qr,kr,rfl,_,_⟩:=hs7.shape
  have hrf2:(regsT t).length≤9223372036854775807:=hrf
  refine gg_ ?_
  refine zj (ι:=Int×Nat) (λi=>[.int .i64 i.1,.int .i64 (i.2:Nat)]) (λi w'=>i.2≤(regsT t).length∧StX noX w (r.or s) w' []) (λi=>(regsT t).length-i.2) (n,0) rfl ⟨gzl _,S⟩ ?_
  repeat clear S
  rintro⟨m,j⟩ d1 w8 ⟨hj,S⟩ K8 hK8
  simp only at hj S⊢
  simp only[gdz,gds]
  refine gg_ ?_
  refine zh (λhltj=>?_) (λhgej=>?_)
  ·have hltj:j<(regsT t).length:=by omega
   obtain⟨b8,o8,rfl,_,hc8⟩:=xW hs7 hltj
   refine zk (λx w'=>∃m':Int,x=[.int .i64 m']∧w'=w8) (λK12 hK12=>?_) ?_
   ·refine gg_ ?_
    refine zf (by rw[tnc];exact S.at (Ob.up (s:=r.or s) hc8)) ?_
    refine gg_ ?_
    refine zh (λ_=>?_) (λ_=>?_)
    ·refine aaV λm'=>?_
     exact hK12 _ _ ⟨_,rfl,rfl⟩
    ·exact hK12 _ _ ⟨_,rfl,rfl⟩
   ·rintro _ _ ⟨m',rfl,rfl⟩ d
    simp only[gdz]
    refine gg_ ?_
    exact hK8 (m',j+1) _ ⟨hltj,S⟩ (by show(regsT t).length-(j+1)<(regsT t).length-j;omega)
  ·refine qX (by omega) ?_
   exact hK1 (m,i+1) _ ⟨hlt,S.less (λb o h=>.inl h) (List.Sublist.refl _)⟩ (by show g.tys.length-(i+1)<g.tys.length-i;omega)
 ·clear hK1
  refine gg_ ?_
  refine zf (S.at hc) ?_
  refine gg_ ?_
  refine zj (ι:=Int×Nat) (λi=>[.int .i64 i.1,.int .i64 (i.2:Nat)]) (λi w'=>i.2≤g.pts.length∧StX noX w r w' []) (λi=>g.pts.length-i.2) (n,0) rfl ⟨gzl _,S⟩ ?_
  repeat clear S
  rintro⟨m,j⟩ d1 w8 ⟨hj,S⟩ K8 hK8
  simp only at hj S⊢
  simp only[gdz,gds]
  refine gg_ ?_
  refine zh (λhltj=>?_) (λhgej=>?_)
  ·have hltj:j<g.pts.length:=by omega
   obtain⟨bo,oo,co,hqo,hcl,hoc,hoo⟩:=hs.sl.get (by decide) hltj
   have hpg:=hpt _ (gem hltj)
   generalize g.pts[j]=p at hoc hpg
   obtain⟨x1,x2,x3,x4,x5,y1,y2,y3,y4,y5,rfl,hpg0⟩:=xm hoc
   rw[hqo]
   refine zk (λx w'=>∃m':Int,x=[.int .i64 m']∧StX noX w r w' []) (λK12 hK12=>?_) ?_
   ·refine gg_ ?_
    refine zo (n:=21) rfl (λj v hj=>by rw[tnc];exact S.at (hoo j v hj)) ?_
    refine S.al λb9 w9 S=>?_
    refine S.stB (b:=b9) λw10 S=>?_
    have S:StX noX w r w10 [.cell b9 (ptL p x1 x2 x3 x4 x5 y1 y2 y3 y4 y5) 96]:=S
    refine gg_ ?_
    refine zh (λh7=>?_) (λh7=>?_)
    ·obtain⟨f0,f1⟩:=Xd hpg h7
     have hfl:p.fn.toNat<u.fs.length:=by omega
     obtain⟨bf,of,cf,hqf,hclf,hof,hoof⟩:=hfs.sl.get (by decide) hfl
     rw[hqf]at hcf
     have S:=S.go (Ext.drew _)
     refine gg_ ?_
     refine zf (S.at hcf) ?_
     refine gg_ ?_
     obtain⟨vo,vt,vn,vp,rfl,_,_,_,_⟩:=id hof
     refine zf (S.at (hoof 1 _ rfl)) ?_
     refine aaV λm'=>?_
     exact hK12 _ _ ⟨_,rfl,S.tl⟩
    ·exact hK12 _ _ ⟨_,rfl,S.tl⟩
   ·repeat clear S
    rintro _ w11 ⟨m',rfl,S⟩ d
    simp only[gdz]
    refine qX (by omega) ?_
    exact hK8 (m',j+1) _ ⟨hltj,S⟩ (by show g.pts.length-(j+1)<g.pts.length-j;omega)
  ·refine n_some ?_
   refine gg_ ?_
   refine zf (S.at hlc) ?_
   refine gp_ ?_
   refine aaV λm'=>?_
   exact h _ _ S.ext
theorem abV{R:List xM}{v:Value}{k:Nat}(hr:Holds r w)(hL:LkG2 r b u g d e ls)(hM:MayU u)(hH:HeadU u k g)(hpt:∀p∈g.pts,zG u g p=true)(hR:SlG 2 r (RwbC r) v R)(hf:R.length≤1000000)
  (h0:e=0→∀w',Ext w w'→K (.bool (z7 R d.ct (g.pts.length+g.lv))) w') (h1:e≠0→∀x w',Ext w w'→K (.bool x) w'):
  zd Tryz.prog Tryz.xv #[.pointer (some ⟨b,0,none⟩),v] w K:=by
 refine Tryz.abt ?_
 unfold Tryz.X4
 obtain⟨pp,cpp,hc,hs⟩:=hL.pts
 have h8:=hH.lv0;have h9:=hH.lv8;have h10:=hH.pt1024
 have S:=St.start hr
 refine gg_ ?_
 refine zf (S.at hL.ct) ?_
 refine zk (λx w'=>∃n:Int,x=[.int .i64 n]∧(e=0→n=d.ct)∧StX noX w r w' []) (λK1 hK1=>?_) ?_
 ·refine n_some ?_
  refine gg_ ?_
  refine zf (S.at hL.er) ?_
  refine gp_ ?_
  refine zh (λhe=>?_) (λhe=>?_)
  ·refine ah2 S.holds hL hM hpt λn w2 e2=>?_
   exact hK1 _ _ ⟨n,rfl,λh=>absurd h he,S.go e2⟩
  ·exact hK1 _ _ ⟨d.ct,rfl,λ_=>rfl,S⟩
 clear S
 rintro _ w3 ⟨n,rfl,hn,S⟩ d'
 rw[gdz]
 have S:=S.go (Ext.drew _)
 refine gg_ ?_
 refine zf (S.at hc) ?_
 refine gg_ ?_
 refine zf (S.at hL.lv) ?_
 refine gg_ ?_
 refine abU S.holds hR hf λw4 e4=>?_
 by_cases he:e=0
 ·rw[hn he]
  exact h0 he _ (S.go e4).ext
 ·exact h1 he _ _ (S.go e4).ext
theorem anS{b9:Nat}{l:List Int}{x:Int}{v:Value}{w0:World}{X:Nat→Prop}{M:List Asr}(S:StX X w0 r w (.cell b9 [v] 238::.row v 3 1 l.length (ints l)::M))(hf:l.length≤1000000)
  (h:∀v' w',StX X w0 r w' (.cell b9 [v'] 238::.row v' 3 1 (l++[x]).length (ints (l++[x]))::M)→K (.tuple #[]) w'):zd Tryz.prog Tryz.kP #[.pointer (some ⟨b9,0,none⟩),.int .i64 x] w K:=by
 refine Tryz.Q4 ?_
 unfold Tryz.Zb
 refine n_some ?_
 refine gg_ ?_
 refine S.lit (e:=3) (cs:=[.int .i64 x]) (by kernel_rfl) λb2 w2 S=>?_
 refine S.ap (v:=v) (m':=1) (Sl.blk (S.blk b2)) (λv2 w3 S=>?_) (by omega)
 refine gg_ ?_
 refine S.st (b:=b9) (λw4 S=>?_) (by simp) (S.row1 v2)
 have S:=S.drop b2
 refine h v2 _ ?_
 rw[gla,QG]
 exact S
theorem aoq{b9:Nat}{l:List Int}{v:Value}{w0:World}{X:Nat→Prop}{M:List Asr}(S:StX X w0 r w (.cell b9 [v] 238::.row v 3 1 l.length (ints l)::M))(hf:l.length≤1000000)
  (h0:l=[]→K (.tuple #[.int .i64 0,.bool false]) w)
  (h1:∀m x v' w',l=m++[x]→StX X w0 r w' (.cell b9 [v'] 238::.row v' 3 1 m.length (ints m)::M)→K (.tuple #[.int .i64 x,.bool true]) w'):zd Tryz.prog Tryz.qi #[.pointer (some ⟨b9,0,none⟩)] w K:=by
 refine Tryz.JJ ?_
 unfold Tryz.Zz
 obtain⟨p,cap,rfl,hp,hcap,hxl,hsl⟩:=S.rowS v
 refine n_some ?_
 refine gg_ ?_
 refine zh (λhe=>?_) (λhe=>?_)
 ·exact h0 (List.eq_nil_of_length_eq_zero (by omega))
 rcases(amP (P:=λl:List Int=>l=[]∨∃m x,l=m++[x]) (.inl rfl) (λm x _=>.inr ⟨m,x,rfl⟩) l)with rfl|⟨m,x,rfl⟩
 ·exact absurd rfl he
 rw[gla,gls]at hf hcap he
 have hx:(ints (m++[x]))[m.length]? = some (.int .i64 x):=by rw[QG,List.getElem?_append_right (by rw[yh];exact Nat.le_refl _),yh,Nat.sub_self];rfl
 obtain⟨b,off,rfl,hc⟩:=hsl m.length _ hx
 have hml:(m++[x]).length=m.length+1:=by simp
 refine n_some ?_
 refine gg_ ?_
 have hi:((((m++[x]).length:Nat):Int)-1).toNat=m.length:=by omega
 refine zf (by rw[hi];exact hc) ?_
 refine n_some ?_
 refine gg_ ?_
 rw[hi]
 have hn:m.length≤(m++[x]).length:=by omega
 have S:=S.cutRow (p:=some ⟨b,off,none⟩) (cap:=cap) hn
 rw[show (ints (m++[x])).take (m.length*1)=ints m by rw[QG,Nat.mul_one];exact List.take_left' (yh m)]at S
 refine S.st (b:=b9) (λw4 S=>?_) (by simp) rfl
 exact h1 m x _ _ rfl S
end
end
section
def xq(g:GrD)(q:Int):List Int:=(g.pts[q.toNat]?.map nextP).getD []
def qD(g:GrD)(x:LnD)(q:Int):Bool:=(g.pts[q.toNat]?.map λp=>xh p x).getD false
inductive InF(g:GrD)(x:LnD)(ws:List (BitVec 64)):Int→Prop
 |start {p:Int} (h:p∈xq g x.q) (hb:bit ws p.toNat=true):InF g x ws p
 |step {q p:Int} (hq:InF g x ws q) (hk:qD g x q=false) (h:p∈xq g q) (hb:bit ws p.toNat=true):InF g x ws p
abbrev WkS:=List Int×List Int
def YP(ws:List (BitVec 64))(s:WkS)(p:Int):WkS:=if (bit ws p.toNat && !decide (p∈s.1))=true then(s.1++[p],s.2++[p])else s
def fromI(ws:List (BitVec 64))(A:List Int)(s:WkS):WkS:=A.foldl (YP ws) s
theorem ajU{ws:List (BitVec 64)}{A:List Int}{s:WkS}{i:Nat}(hi:i<A.length):fromI ws (A.take (i+1)) s=YP ws (fromI ws (A.take i) s) A[i]:=by
 rw[fromI,fromI,List.take_succ_eq_append_getElem hi,List.foldl_append];rfl
theorem akY{D:List Int}{p:Int}(h:D.Nodup)(hp:p∉D):(D++[p]).Nodup:=by
 rw[List.nodup_append]
 exact⟨h,by rw[List.nodup_cons];exact⟨List.not_mem_nil,List.nodup_nil⟩,λa ha b hb=>by rw[List.mem_singleton]at hb;rintro rfl;exact hp (hb▸ha)⟩
theorem Xj{ws:List (BitVec 64)}:∀{A:List Int}{D T:List Int},∃N,fromI ws A (D,T)=(D++N,T++N)∧(∀p∈N,p∈A∧bit ws p.toNat=true)∧(∀p∈A,bit ws p.toNat=true→p∈D++N)∧(D.Nodup→(D++N).Nodup)
 |[],D,T=>⟨[],by rw[List.append_nil,List.append_nil];rfl,λp h=>absurd h List.not_mem_nil,λp h=>absurd h List.not_mem_nil,λh=>by rw[List.append_nil];exact h⟩
 |a::A,D,T=>by
  by_cases hc:(bit ws a.toNat && !decide (a∈D))=true
  ·have hc2:=hc
   simp only[gba,Bool.not_eq_true',decide_eq_false_iff_not]at hc2
   obtain⟨N,h1,h2,h3,h4⟩:=Xj (ws:=ws) (A:=A) (D:=D++[a]) (T:=T++[a])
   refine⟨a::N,?_,λp hp=>?_,λp hp hb=>?_,λhd=>?_⟩
   ·rw[fromI,List.foldl_cons,YP,if_pos hc]
    have h1:A.foldl (YP ws) (D++[a],T++[a])=(D++[a]++N,T++[a]++N):=h1
    rw[h1];simp
   ·rcases List.mem_cons.1 hp with rfl|hp
    ·exact⟨List.mem_cons_self,hc2.1⟩
    ·exact⟨List.mem_cons_of_mem _ (h2 p hp).1,(h2 p hp).2⟩
   ·rcases List.mem_cons.1 hp with rfl|hp
    ·simp
    ·have:=h3 p hp hb;simpa using this
   ·have:=h4 (akY hd hc2.2);simpa using this
  ·obtain⟨N,h1,h2,h3,h4⟩:=Xj (ws:=ws) (A:=A) (D:=D) (T:=T)
   refine⟨N,?_,λp hp=>⟨List.mem_cons_of_mem _ (h2 p hp).1,(h2 p hp).2⟩,λp hp hb=>?_,h4⟩
   ·rw[fromI,List.foldl_cons,YP,if_neg hc];exact h1
   ·rcases List.mem_cons.1 hp with rfl|hp
    ·rw[hb,Bool.true_and,Bool.not_eq_true',decide_eq_false_iff_not,Classical.not_not]at hc
     exact List.mem_append_left _ hc
    ·exact h3 p hp hb
structure WkL(g:GrD)(x:LnD)(ws:List (BitVec 64))(s:WkS):Prop where
 mem:∀p∈s.1,InF g x ws p
 nod:s.1.Nodup
 tnd:s.2.Nodup
 sub:∀q∈s.2,q∈s.1
 cl:∀q∈s.1,q∉s.2→qD g x q=false→∀p∈xq g q,bit ws p.toNat=true→p∈s.1
 st:∀p∈xq g x.q,bit ws p.toNat=true→p∈s.1
variable {g:GrD} {x:LnD} {ws:List (BitVec 64)}
theorem WkL.start:WkL g x ws (fromI ws (xq g x.q) ([],[])):=by
 obtain⟨N,h1,h2,h3,h4⟩:=Xj (ws:=ws) (A:=xq g x.q) (D:=[]) (T:=[])
 rw[h1]
 simp only[List.nil_append]at h3 h4⊢
 exact⟨λp hp=>.start (h2 p hp).1 (h2 p hp).2,h4 List.nodup_nil,h4 List.nodup_nil,λq h=>h,λq h1 h2=>absurd h1 h2,h3⟩
theorem WkL.kill{D T:List Int}{q:Int}(W:WkL g x ws (D,T++[q]))(hk:qD g x q=true):WkL g x ws (D,T):=by
 refine⟨W.mem,W.nod,?_,λy hy=>W.sub y (List.mem_append_left _ hy),λy hy hn hky=>W.cl y hy ?_ hky,W.st⟩
 ·exact(List.nodup_append.1 W.tnd).1
 ·intro hm
  rcases List.mem_append.1 hm with hm|hm
  ·exact hn hm
  ·rw[List.mem_singleton]at hm;rw[hm,hk]at hky;cases hky
theorem WkL.on{D T:List Int}{q:Int}(W:WkL g x ws (D,T++[q]))(hk:qD g x q=false):∃N,fromI ws (xq g q) (D,T)=(D++N,T++N)∧WkL g x ws (D++N,T++N):=by
 obtain⟨N,h1,h2,h3,h4⟩:=Xj (ws:=ws) (A:=xq g q) (D:=D) (T:=T)
 have hqD:q∈D:=W.sub q (List.mem_append_right _ (List.mem_singleton.2 rfl))
 have hnd:=h4 W.nod
 have hT:=(List.nodup_append.1 W.tnd).1
 refine⟨N,h1,λp hp=>?_,hnd,?_,λy hy=>?_,λy hy hn hky p hp hb=>?_,λp hp hb=>List.mem_append_left _ (W.st p hp hb)⟩
 ·rcases List.mem_append.1 hp with hp|hp
  ·exact W.mem p hp
  ·exact .step (W.mem q hqD) hk (h2 p hp).1 (h2 p hp).2
 ·rw[List.nodup_append]at hnd⊢
  exact⟨hT,hnd.2.1,λa ha b hb=>hnd.2.2 a (W.sub a (List.mem_append_left _ ha)) b hb⟩
 ·rcases List.mem_append.1 hy with hy|hy
  ·exact List.mem_append_left _ (W.sub y (List.mem_append_left _ hy))
  ·exact List.mem_append_right _ hy
 ·by_cases hyq:y=q
  ·rw[hyq]at hp
   exact h3 p hp hb
  ·rcases List.mem_append.1 hy with hy|hy
   ·refine List.mem_append_left _ (W.cl y hy (λhm=>?_) hky p hp hb)
    rcases List.mem_append.1 hm with hm|hm
    ·exact hn (List.mem_append_left _ hm)
    ·exact hyq (List.mem_singleton.1 hm)
   ·exact absurd (List.mem_append_right _ hy) hn
theorem WkL.end{D:List Int}(W:WkL g x ws (D,[])){p:Int}:InF g x ws p↔p∈D:=by
 refine⟨λh=>?_,W.mem p⟩
 induction h with
 |start h hb=>exact W.st _ h hb
 |step hq hk h hb ih=>exact W.cl _ ih List.not_mem_nil hk _ h hb
end
section
def wdsL(n:Nat)(D:List Int):List (BitVec 64):=jJ (λx y=>x ||| y) (List.replicate ((n+63)/64) 0#64) D
theorem vD{n:Nat}{D:List Int}:(wdsL n D).length=(n+63)/64:=by rw[wdsL,JC,List.length_replicate]
theorem al6{n:Nat}{D:List Int}(hn:n≤1024)(hD:Ya n D){p:Int}(hp:0≤p):bit (wdsL n D) p.toNat=decide (p∈D):=by
 have h:=adR (W:=(n:Int)) D (List.replicate (((n:Int).toNat+63)/64) 0#64) (akK (by omega) (by omega)) hD p.toNat
 rw[tnc]at h
 rw[wdsL,h,akL,Bool.false_or]
 rw[show ((p.toNat:Nat):Int)=p by omega]
theorem ah3{n:Nat}{D:List Int}{p:Int}:wdsL n (D++[p])=(wdsL n D).set (p.toNat/64) ((wdsL n D).getD (p.toNat/64) 0 ||| (BitVec.ofInt 64 1 <<< (p.toNat%64))):=by
 rw[wdsL,ahS];rfl
theorem afO{p:PtD}:(nextP p).length≤2:=by
 rw[nextP];split
 ·simp
 ·split<;>simp
theorem amY{X:Nat→Prop}{w0 w:World}{r:Gh}{L:List Asr}{bw:Nat}{W:Int}{ws:List (BitVec 64)}{f:List Value→List Asr}(S:StX X w0 r w L)[h:At bw L (wcs ws) 205 f](hl:ws.length≤100000):
  Holds (r.or (Go.Sh.one bw (wcs ws) 205)) w∧RwbC (r.or (Go.Sh.one bw (wcs ws) 205)) [.int .i64 W,.slice (some ⟨bw,0,none⟩) ws.length ws.length] (W,ws):=by
 have B:=S.blk bw
 refine⟨S.holds.or (km B),⟨some ⟨bw,0,none⟩,ws.length,rfl,?_⟩⟩
 have hs:SlG 1 (Go.Sh.one bw (wcs ws) 205) WdC (.slice (some ⟨bw,0,none⟩) ws.length ws.length) ws:=(vZ (ws:=ws)).sl (by simp) (Nat.le_refl _) (λw k=>Sl.blk (xj w k)) (by decide) ⟨w,km B⟩
 exact SlB.cells ⟨hs,by show ws.length≤_;rw[maxLen];omega⟩
section
variable {u:UnD} {g:GrD} {d:RgD} {e:Int} {ls:List LnD} {b:Nat} {w:World} {r:Gh} {K:Value→World→Prop}
abbrev ae9(b9 bw b7:Nat)(v:Value)(n:Nat)(s:WkS)(M:List Asr):List Asr:=
 .cell b9 [v] 238::.row v 3 1 s.2.length (ints s.2)::.cell bw (wcs (wdsL n s.1)) 205::.cell b7 [.int .i64 n,.slice (some ⟨bw,0,none⟩) ((n+63)/64) ((n+63)/64)] 48::M
abbrev aoH(b3 b5 b7 b9:Nat):Value:=.func (.func Tryz.vJ) #[] #[.pointer (some ⟨b3,0,none⟩),.pointer (some ⟨b5,0,none⟩),.pointer (some ⟨b7,0,none⟩),.pointer (some ⟨b9,0,none⟩)]
theorem abW{q:Int}{s:WkS}{bw b3 b5 b7 b9:Nat}{v:Value}{W:Int}{ws:List (BitVec 64)}{X:Nat→Prop}{w0:World}{M:List Asr}{cr:List Value}(S:StX X w0 r w (ae9 b9 bw b7 v g.pts.length s M))(hL:LkG2 r b u g d e ls)
  (h3:Ob r λw=>w.cell? ⟨b3,0,none⟩=some (.pointer (some ⟨b,0,none⟩))) (hrw:RwbC r cr (W,ws)) (h5:∀j v,cr[j]? = some v→Ob r λw=>w.cell? ⟨b5,j,none⟩=some v)
  (hwl:ws.length≤100000) (hws:g.pts.length≤64*ws.length) (hn:g.pts.length≤1024) (hq0:0≤q) (hq:q.toNat<g.pts.length) (hnx:∀p∈nextP g.pts[q.toNat],0≤p∧p<g.pts.length) (hD:Ya g.pts.length s.1) (hT:s.2.length≤900000)
  (h:∀v' w',StX X w0 r w' (ae9 b9 bw b7 v' g.pts.length (fromI ws (nextP g.pts[q.toNat]) s) M)→K (.tuple #[]) w'):
  zD Tryz.prog (aoH b3 b5 b7 b9) #[.int .i64 q] w K:=by
 refine aml (by kernel_rfl) ?_
 refine Tryz.Q3 ?_
 unfold Tryz.Za
 refine zf (S.at h3) ?_
 refine Q6 S.holds hL hq0 hq λv10 w1 e1 o1=>?_
 have hfl:=afO (p:=g.pts[q.toNat])
 generalize nextP g.pts[q.toNat]=A at hnx h o1 hfl
 obtain⟨s1,S,hs1,_,_⟩:=(S.take e1 o1).doneRow qN (by decide) rfl
 obtain⟨qr,kr,rfl,_,_⟩:=hs1.shape
 obtain⟨pw',cw,rfl,hws'⟩:=id hrw
 refine gg_ ?_
 refine zj (ι:=Nat×Value) (λi=>[.int .i64 (i.1:Nat)]) (λi w'=>i.1≤A.length∧Ya g.pts.length (fromI ws (A.take i.1) s).1∧(fromI ws (A.take i.1) s).2.length≤900000+i.1∧StX X w0 (r.or s1) w' (ae9 b9 bw b7 i.2 g.pts.length (fromI ws (A.take i.1) s) M)) (λi=>A.length-i.1) (0,v) rfl ⟨gzl _,hD,hT,S⟩ ?_
 repeat clear S
 rintro⟨i,vi⟩ d0 w3 ⟨hi,hDi,hTi,S⟩ K2 hK2
 simp only at hi hDi hTi S⊢
 simp only[gdz]
 refine gg_ ?_
 refine zh (λhlt=>?_) (λhge=>?_)
 ·have hlt:i<A.length:=by omega
  have hsn:=ajU (ws:=ws) (s:=s) hlt
  obtain⟨b8,o8,rfl,_,hc8⟩:=xW hs1 hlt
  have hp:=hnx _ (gem hlt)
  generalize A[i]=p at hsn hc8 hp
  generalize fromI ws (A.take i) s=st at hDi hTi S hsn
  obtain⟨D,T⟩:=st
  simp only at hDi hTi S
  refine zk (λ_ w'=>∃v',StX X w0 (r.or s1) w' (ae9 b9 bw b7 v' g.pts.length (YP ws (D,T) p) M)) (λK6 hK6=>?_) ?_
  ·refine gg_ ?_
   refine zf (by rw[tnc];exact S.at (Ob.up (s:=r.or s1) hc8)) ?_
   refine zo (n:=2) (c:=[.int .i64 W,.slice pw' ws.length cw]) rfl (λj v hj=>by rw[Nat.zero_add];exact S.at (Ob.up (s:=r.or s1) (h5 j v hj))) ?_
   refine jM S.holds (RwbC.up hrw) hp.1 (by omega) hwl λw4 e4=>?_
   have S:=S.go e4
   have hbw:((g.pts.length+63)/64)≤100000:=by omega
   refine zr (c:=!decide (p∈D)) (λ_ K7 hK7=>?_) λw5 e5=>?_
   ·refine S.ldB (b:=b7) ?_ rfl
    obtain⟨hr2,hrw2⟩:=amY (bw:=bw) (W:=(g.pts.length:Int)) (ws:=wdsL g.pts.length D) S (by rw[vD];exact hbw)
    rw[vD]at hrw2
    refine jM hr2 hrw2 hp.1 (by rw[vD];omega) (by rw[vD];exact hbw) λw6 e6=>?_
    rw[al6 hn hDi hp.1]
    refine gp_ ?_
    exact hK7 _ e6
   have S:=S.go e5
   refine c_b (λhc=>?_) (λhc=>?_)
   ·have hadd:YP ws (D,T) p=(D++[p],T++[p]):=by rw[YP,if_pos hc]
    rw[hadd]at hK6
    have S:=S.go (Ext.drew _)
    have hwn:(wdsL g.pts.length D).length=(g.pts.length+63)/64:=vD
    have hpw:p.toNat/64<(wdsL g.pts.length D).length:=by omega
    refine gg_ ?_
    refine S.ld (b:=bw) (v:=u64 ((wdsL g.pts.length D).getD (p.toNat/64) 0)) ?_ (by rw[show 0+(p/64).toNat=p.toNat/64 by omega,wcs,List.getElem?_map,ggd,gqg hpw];rfl)
    refine gg_ ?_
    rw[show (p%64).toNat=p.toNat%64 by omega]
    have hq2:0+(p/64).toNat<(wcs (wdsL g.pts.length D)).length:=by rw[wcs,List.length_map];omega
    refine S.st (b:=bw) (λw7 S=>?_) hq2
    rw[show 0+(p/64).toNat=p.toNat/64 by omega]at S
    refine anS (l:=T) S (by omega) λv8 w8 S=>?_
    refine hK6 [] _ ⟨v8,?_⟩
    show StX X w0 (r.or s1) w8 (.cell b9 [v8] 238::.row v8 3 1 (T++[p]).length (ints (T++[p]))::.cell bw (wcs (wdsL g.pts.length (D++[p]))) 205::.cell b7 [.int .i64 g.pts.length,.slice (some ⟨bw,0,none⟩) ((g.pts.length+63)/64) ((g.pts.length+63)/64)] 48::M)
    rw[ah3,wcs,List.map_set]
    exact S
   ·have hadd:YP ws (D,T) p=(D,T):=by rw[YP,if_neg (by rw[hc];decide)]
    rw[hadd]at hK6
    exact hK6 [] _ ⟨vi,S⟩
  ·repeat clear S
   rintro _ w9 ⟨v',S⟩ d
   refine gg_ ?_
   rw[← hsn]at S
   refine hK2 (i+1,v') _ ⟨hlt,?_,?_,S⟩ (by show A.length-(i+1)<A.length-i;omega)
   ·show Ya g.pts.length (fromI ws (A.take (i+1)) s).1
    rw[hsn,YP]
    split
    ·intro y hy
     rcases List.mem_append.1 hy with hy|hy
     ·exact hDi y hy
     ·rw[List.mem_singleton]at hy;rw[hy];exact hp
    ·exact hDi
   ·show(fromI ws (A.take (i+1)) s).2.length≤900000+(i+1)
    rw[hsn,YP]
    split
    ·rw[gla,gls];show T.length+1≤_;omega
    ·show T.length≤_;omega
 ·have hie:i=A.length:=by omega
  rw[hie,List.take_length]at S
  exact h vi _ (S.less (λb o h=>.inl h) (List.Sublist.refl _))
theorem Zc{q:Int}(hq:q.toNat<g.pts.length):xq g q=nextP g.pts[q.toNat]:=by rw[xq,gqg hq];rfl
theorem JL{q:Int}(hpt:∀p∈g.pts,zG u g p=true):∀p∈xq g q,0≤p∧p<g.pts.length:=λp hp=>by
 by_cases hq:q.toNat<g.pts.length
 ·rw[Zc hq]at hp
  have h:=ajL (hpt _ (gem hq)) p hp
  exact⟨h.1,by have:=h.2;rw[ahQ]at this;exact this⟩
 ·rw[xq,List.getElem?_eq_none (by omega)]at hp
  cases hp
theorem akZ{x:LnD}{ws:List (BitVec 64)}(hpt:∀p∈g.pts,zG u g p=true){p:Int}(h:InF g x ws p):0≤p∧p<g.pts.length:=by
 cases h with
 |start h hb=>exact JL hpt _ h
 |step hq hk h hb=>exact JL hpt _ h
theorem ai9{n:Nat}{D:List Int}(h:D.Nodup)(hD:Ya n D):D.length≤n:=by
 have:=aeU (b:=(List.range n).map Int.ofNat) h λx hx=>by
  have:=hD x hx
  rw[List.mem_map]
  exact⟨x.toNat,List.mem_range.2 (by omega),by show((x.toNat:Nat):Int)=x;omega⟩
 simpa using this
theorem afa{x:LnD}{W:Int}{ws:List (BitVec 64)}{cx cr:List Value}(hr:Holds r w)(hL:LkG2 r b u g d e ls)(hx:LnG r cx x)(hrw:RwbC r cr (W,ws))
  (hwl:ws.length≤100000) (hws:g.pts.length≤64*ws.length) (hn:g.pts.length≤1024) (hq0:0≤x.q) (hq:x.q.toNat<g.pts.length) (hpt:∀p∈g.pts,zG u g p=true)
  (h:∀D bw w',(∀p,InF g x ws p↔p∈D)→Ya g.pts.length D→D.Nodup→StX noX w r w' [.cell bw (wcs (wdsL g.pts.length D)) 205]→K (.agg #[.int .i64 g.pts.length,.slice (some ⟨bw,0,none⟩) ((g.pts.length+63)/64) ((g.pts.length+63)/64)]) w'):
  zd Tryz.prog Tryz.qR #[.pointer (some ⟨b,0,none⟩),.agg cx.toArray,.agg cr.toArray] w K:=by
 refine Tryz.Vh ?_
 unfold Tryz.ZJ
 obtain⟨pp,cpp,hc,hs⟩:=hL.pts
 have hx0:=hx
 obtain⟨vx,rfl,hxs⟩:=hx
 obtain⟨qx,cx',rfl,_,_⟩:=hxs.sl.shape
 have hrw0:=hrw
 obtain⟨pw',cw,rfl,hws'⟩:=hrw
 have S:=St.start hr
 refine S.box λb3 w1 S=>?_
 refine S.box λb4 w2 S=>?_
 refine S.box λb5 w3 S=>?_
 refine S.al λb6 w4 S=>?_
 have S:StX noX w r w4 [.cell b6 [.int .i64 0,.slice none 0 0] 48,.cell b5 [.int .i64 W,.slice pw' ws.length cw] 48,.cell b4 [.int .i64 x.q,.int .i64 x.pl.l,.slice qx x.pl.ps.length cx',.bool x.mu,.int .i64 x.re] 82,.cell b3 [.pointer (some ⟨b,0,none⟩)] 151]:=S
 refine S.ld (b:=b3) ?_
 refine gg_ ?_
 refine zf (S.at hc) ?_
 refine gg_ ?_
 refine ajP (n:=g.pts.length) (by omega) S λbw w5 S=>?_
 refine gS_ ?_
 refine S.al λb7 w6 S=>?_
 refine S.stB (b:=b7) λw7 S=>?_
 refine S.al λb9 w8 S=>?_
 have S:StX noX w r w8 [.cell b9 [.slice none 0 0] 238,.cell b7 [.int .i64 g.pts.length,.slice (some ⟨bw,0,none⟩) ((g.pts.length+63)/64) ((g.pts.length+63)/64)] 48,.cell bw (wcs (wdsL g.pts.length [])) 205,.cell b6 [.int .i64 0,.slice none 0 0] 48,.cell b5 [.int .i64 W,.slice pw' ws.length cw] 48,.cell b4 [.int .i64 x.q,.int .i64 x.pl.l,.slice qx x.pl.ps.length cx',.bool x.mu,.int .i64 x.re] 82,.cell b3 [.pointer (some ⟨b,0,none⟩)] 151]:=S
 have S:=((S.frzAt b3).frzAt b5).ownNil 3 1
 have h3:Ob ((r.or (Go.Sh.one b3 [.pointer (some ⟨b,0,none⟩)] 151)).or (Go.Sh.one b5 [.int .i64 W,.slice pw' ws.length cw] 48)) λw=>w.cell? ⟨b3,0,none⟩=some (.pointer (some ⟨b,0,none⟩)):=y9 (i:=0) (c:=[.pointer (some ⟨b,0,none⟩)]) (T:=151) rfl
 have h5:∀j v,[Value.int .i64 W,.slice pw' ws.length cw][j]? = some v→Ob ((r.or (Go.Sh.one b3 [.pointer (some ⟨b,0,none⟩)] 151)).or (Go.Sh.one b5 [.int .i64 W,.slice pw' ws.length cw] 48)) λw=>w.cell? ⟨b5,j,none⟩=some v:=λj v hj=>y9 (i:=j) (c:=[.int .i64 W,.slice pw' ws.length cw]) (T:=48) hj
 have le:Le r ((r.or (Go.Sh.one b3 [.pointer (some ⟨b,0,none⟩)] 151)).or (Go.Sh.one b5 [.int .i64 W,.slice pw' ws.length cw] 48)):=inferInstance
 generalize ((r.or (Go.Sh.one b3 [.pointer (some ⟨b,0,none⟩)] 151)).or (Go.Sh.one b5 [.int .i64 W,.slice pw' ws.length cw] 48))=r' at S h3 h5 le
 have S:StX noX w r' w8 (ae9 b9 bw b7 (.slice none 0 0) g.pts.length ([],[]) [.cell b6 [.int .i64 0,.slice none 0 0] 48,.cell b4 [.int .i64 x.q,.int .i64 x.pl.l,.slice qx x.pl.ps.length cx',.bool x.mu,.int .i64 x.re] 82]):=
  S.permO ((List.Perm.swap _ _ _).trans (.cons _ (.cons _ (.swap _ _ _))))
 have hL:LkG2 r' b u g d e ls:=hL.up
 have hrw0:RwbC r' [.int .i64 W,.slice pw' ws.length cw] (W,ws):=hrw0.up
 have hx0:LnG r' [.int .i64 x.q,.int .i64 x.pl.l,.slice qx x.pl.ps.length cx',.bool x.mu,.int .i64 x.re] x:=hx0.up
 have hnx:∀q:Int,∀hq:q.toNat<g.pts.length,∀p∈nextP g.pts[q.toNat],0≤p∧p<g.pts.length:=λq hq p hp=>JL hpt (q:=q) p (by rw[Zc hq];exact hp)
 refine gg_ ?_
 refine abW (W:=W) S hL h3 hrw0 h5 hwl hws hn hq0 hq (hnx _ hq) (λk hk=>by cases hk) (gzl _) λv' w9 S=>?_
 have hW:=WkL.start (g:=g) (x:=x) (ws:=ws)
 rw[Zc hq]at hW
 generalize fromI ws (nextP g.pts[x.q.toNat]) ([],[])=s0 at S hW
 refine zj (ι:=Value×WkS) (λ_=>[]) (λi w'=>WkL g x ws i.2∧StX noX w r' w' (ae9 b9 bw b7 i.1 g.pts.length i.2 [.cell b6 [.int .i64 0,.slice none 0 0] 48,.cell b4 [.int .i64 x.q,.int .i64 x.pl.l,.slice qx x.pl.ps.length cx',.bool x.mu,.int .i64 x.re] 82])) (λi=>2*(g.pts.length-i.2.1.length)+i.2.2.length) (v',s0) rfl ⟨hW,S⟩ ?_
 clear hW
 repeat clear S
 rintro⟨v1,D,T⟩ d0 w10 ⟨hW,S⟩ K10 hK10
 simp only at hW S⊢
 have hall:Ya g.pts.length D:=λk hk=>akZ hpt (hW.mem k hk)
 have hDl:D.length≤g.pts.length:=ai9 hW.nod hall
 have hTl:T.length≤D.length:=aeU hW.tnd hW.sub
 refine aoq (l:=T) S (by omega) (λhT=>?_) λm q v2 w11 hT S=>?_
 ·subst hT
  refine gp_ ?_
  refine gp_ ?_
  refine gp_ ?_
  refine c_t rfl ?_
  refine S.ldB (b:=b7) ?_ rfl
  refine S.stB (b:=b6) λw12 S=>?_
  refine S.ceB (b:=b6) ?_ rfl
  exact h D bw _ (λp=>hW.end) hall hW.nod (S.less le.le (.cons _ (.cons _ (.cons_cons _ (List.nil_sublist _)))))
 ·subst hT
  have hqD:=hW.sub q (List.mem_append_right _ (List.mem_singleton.2 rfl))
  have hqr:=hall q hqD
  have hqn:q.toNat<g.pts.length:=by omega
  have hkq:qD g x q=xh g.pts[q.toNat] x:=by rw[qD,gqg hqn];rfl
  rw[gla,gls]at hTl
  refine gp_ ?_
  refine gp_ ?_
  refine gp_ ?_
  refine c_f rfl ?_
  refine zf (S.at h3) ?_
  refine S.ldB (b:=b4) ?_ rfl
  refine X7 S.holds hL hx0 hqr.1 hqn λw12 e12=>?_
  have S:=S.go e12
  rw[← hkq]
  refine gp_ ?_
  refine c_b (λhk=>?_) (λhk=>?_)
  ·have hk:qD g x q=false:=by simpa using hk
   obtain⟨N,hN,hW2⟩:=hW.on hk
   rw[Zc hqn]at hN
   refine abW (W:=W) (s:=(D,m)) S hL h3 hrw0 h5 hwl hws hn hqr.1 hqn (hnx _ hqn) hall (by show m.length≤_;omega) λv3 w13 S=>?_
   rw[hN]at S
   have hall2:Ya g.pts.length (D++N):=λk hk=>akZ hpt (hW2.mem k hk)
   have hDl2:(D++N).length≤g.pts.length:=ai9 hW2.nod hall2
   rw[gla]at hDl2
   exact hK10 (v3,(D++N,m++N)) _ ⟨hW2,S⟩ (by show 2*(g.pts.length-(D++N).length)+(m++N).length<2*(g.pts.length-D.length)+(m++[q]).length;rw[gla,gla,gla,gls];omega)
  ·have hk:qD g x q=true:=by simpa using hk
   exact hK10 (v2,(D,m)) _ ⟨hW.kill hk,S⟩ (by show 2*(g.pts.length-D.length)+m.length<2*(g.pts.length-D.length)+(m++[q]).length;rw[gla,gls];omega)
end
section
variable {u:UnD} {fn:Int} {g:GrD}
theorem IsF.all(F:IsF u fn g){q:Int}(hq:q<g.pts.length):isU u fn q=true∧zH u fn q=(allD u g,0):=by
 obtain⟨hM,hf0,hlt,_,_⟩:=xL F.is
 have hge:u.fs[fn.toNat]=g:=(List.getElem?_eq_some_iff.1 F.at').2
 have h:=F.is
 rw[isU,F.at']at h
 simp only[gba,gdt]at h
 have hi:isU u fn q=true:=by
  rw[isU,F.at']
  simp only[gba,gdt]
  exact⟨h.1,h.2.1,hq⟩
 obtain⟨_,_,hlt2,_,h5⟩:=xL hi
 rw[hge]at h5
 exact⟨hi,h5⟩
theorem ak0(F:IsF u fn g)(he:lkE u fn=0):lkR u fn=allD u g:=by
 have h:=(F.all (q:=-1) (by omega)).2
 rw[lkE,h]at he
 rw[lkR,h]
 unfold zL at *
 rw[if_pos rfl]at *
 split at he
 ·cases he
 ·rename_i h2
  rw[if_neg h2]
theorem ah4(F:IsF u fn g)(he:lkE u fn=0):∀x∈lkS u fn g,(0≤x.q∧x.q.toNat<g.pts.length)∧0≤x.re∧x.re<(lkR u fn).ct:=λx hx=>by
 obtain⟨q,p,hq,hp,ho,rfl⟩:=acM hx
 obtain⟨hi,ha⟩:=F.all (q:=(q:Int)) (by omega)
 have hpa:ahB u fn (q:Int)=some p:=by
  rw[ahB,F.at']
  exact hp
 have hn:ptN u p=1:=by rw[ptN,if_pos ho]
 have h:=anF hi (Int.natCast_nonneg q) hpa (by rw[hn];decide)
 rw[ha,hn]at h
 rw[ak0 F he,he,reF,if_pos rfl]
 refine⟨⟨Int.natCast_nonneg q,by show((q:Nat):Int).toNat<_;omega⟩,h.1,?_⟩
 have h2:atL (allD u g).at' (q:Int)+1≤(allD u g).ct:=h.2
 show atL (allD u g).at' (q:Int)<_
 omega
def afb(g:GrD)(R:List xM)(x:LnD)(y:xM):Prop:=
 y.1=g.pts.length∧∃D,y.2=wdsL g.pts.length D∧(∀p,InF g x (R.getD x.re.toNat (0,[])).2 p↔p∈D)∧Ya g.pts.length D∧D.Nodup
theorem JM{R:List xM}{n W:Int}(h:z7 R n W=true):(R.length:Int)=n∧∀i (hi:i<R.length),R[i].1=W∧BM.May R[i].1 R[i].2:=by
 rw[z7,gba,gdt,Bool.not_eq_true',List.any_eq_false]at h
 refine⟨h.1,λi hi=>?_⟩
 have h2:=h.2 _ (gem hi)
 simp only[ae8,Bool.or_eq_true,Bool.not_eq_true',gdt,not_or,Classical.not_not,Bool.not_eq_false]at h2
 exact⟨h2.2,BM.mayB_iff.1 h2.1⟩
variable {v:Value} {w:World} {r:Gh} {K:Value→World→Prop}
theorem agw{R:List xM}{vR:Value}(hr:Holds r w)(hu:UnG r v u)(hR:SlG 2 r (RwbC r) vR R)(hf:R.length≤1000000)
  (h0:∀e w',e≠0→(∀g,IsF u fn g→lkE u fn=0→z7 R (lkR u fn).ct (g.pts.length+g.lv)=false)→Ext w w'→K (.tuple #[.slice none 0 0,.int .i64 e]) w')
  (h1:∀g,IsF u fn g→lkE u fn=0→z7 R (lkR u fn).ct (g.pts.length+g.lv)=true→∀v' s Y w',Ext w w'→New w s w'→SlG 2 s (RwbC s) v' Y→Y.length=(lkS u fn g).length→(∀i (h:i<(lkS u fn g).length) (h':i<Y.length),afb g R (lkS u fn g)[i] Y[i])→
   K (.tuple #[v',.int .i64 0]) w'):zd Tryz.prog Tryz.YA #[v,.int .i64 fn,vR] w K:=by
 refine Tryz.ae0 ?_
 unfold Tryz.VJ
 obtain⟨pR,capR,rfl,_,_⟩:=hR.shape
 obtain⟨p0,cap0,vf,rfl,_,_,_,_,_⟩:=id hu
 have S:=St.start hr
 refine S.box λb3 w1 S=>?_
 have S:StX noX w r w1 [.cell b3 [.slice p0 u.ss.length cap0,vf,.int .i64 u.mn] 25]:=S
 refine S.ldB (b:=b3) ?_ rfl
 refine ju S.holds hu (λhi w2 e2=>?_) λhi g b s w2 hg e2 n2 hL=>?_
 ·have S:=S.go e2
  refine gp_ ?_
  refine gp_ ?_
  refine zk (λx w'=>x=[.int .i64 2]∧w'=w2) (λK3 hK3=>?_) ?_
  ·refine gp_ ?_
   refine c_f rfl ?_
   exact hK3 _ _ ⟨rfl,rfl⟩
  rintro _ _ ⟨rfl,rfl⟩ d
  rw[gdz]
  refine gp_ ?_
  refine c_t rfl ?_
  exact h0 2 _ (by decide) (λg F=>by have:=F.is;rw[hi]at this;cases this) S.ext
 ·obtain⟨S,_,ha⟩:=S.tell e2 n2
  have F:=isF hi hg
  refine gp_ ?_
  refine gp_ ?_
  refine zk (λx w'=>∃e',x=[.int .i64 e']∧(e'=0→lkE u fn=0∧z7 R (lkR u fn).ct (g.pts.length+g.lv)=true)∧(e'≠0→lkE u fn=0→z7 R (lkR u fn).ct (g.pts.length+g.lv)=false)∧StX noX w (r.or s) w' []) (λK3 hK3=>?_) ?_
  ·refine gp_ ?_
   refine c_t rfl ?_
   refine abV S.holds hL F.may F.head F.pts (hR.up' inferInstance λ_ _ h=>RwbC.up h) hf (λhe w3 e3=>?_) λhe x w3 e3=>?_
   ·have S:=S.go e3
    refine xH S.holds hL ?_
    refine hK3 _ _ ⟨_,rfl,λhz=>⟨he,?_⟩,λhz he0=>?_,S.tl⟩
    ·cases hh:z7 R (lkR u fn).ct (g.pts.length+g.lv)with
     |true=>rfl
     |false=>rw [hh,if_neg (by decide)]at hz;cases hz
    ·cases hh:z7 R (lkR u fn).ct (g.pts.length+g.lv)with
     |false=>rfl
     |true=>rw [hh,if_pos rfl]at hz;exact absurd he0 hz
   ·have S:=S.go e3
    refine xH S.holds hL ?_
    refine hK3 _ _ ⟨_,rfl,λhz=>?_,λ_ h0=>absurd h0 he,S.tl⟩
    split at hz
    ·exact absurd hz he
    ·cases hz
  clear S
  rintro _ w4 ⟨e',rfl,he',hb',S⟩ d
  rw[gdz]
  refine gp_ ?_
  refine zh (λhne=>?_) (λhe=>?_)
  ·exact h0 e' _ hne (λg' F' hz=>by
    obtain rfl:g'=g:=Option.some.inj (F'.at'.symm.trans hg)
    exact hb' hne hz) S.ext
  obtain⟨hz,hgood⟩:=he' (by omega)
  obtain rfl:e'=0:=by omega
  have h1:=h1 g F hz hgood
  have hre:=ah4 F hz
  have hlf:(lkS u fn g).length≤1000000:=Nat.le_trans qC (by have:=F.head.pt1024;omega)
  obtain⟨pl,cl,hlc,hls⟩:=id hL.lns
  generalize lkS u fn g=ls at *
  refine n_some ?_
  refine gg_ ?_
  refine zf (S.at hlc) ?_
  refine gg_ ?_
  have S:=S.ownNil 48 2
  have hRl:=JM hgood
  have hpt:=F.pts
  have hn:=F.head.pt1024
  have hlv:=F.head.lv0
  refine zj (ι:=Nat×Value) (λi=>[i.2,.int .i64 (i.1:Nat)]) (λi w'=>∃s' Y cs,i.1≤ls.length∧Above w s'∧RowOf 2 (RwbC s') cs Y∧Y.length=i.1∧(∀k (h:k<ls.length) (h':k<Y.length),afb g R ls[k] Y[k])∧StX noX w ((r.or s).or s') w' [.row i.2 48 2 Y.length cs]) (λi=>ls.length-i.1) (0,.slice none 0 0) rfl
   ⟨nothing,[],[],gzl _,Above.no,RowOf.nil,rfl,λk _ h'=>absurd h' (Nat.not_lt_zero _),S.less (λb o h=>Or.elim h id λh=>h.elim) (List.Sublist.refl _)⟩ ?_
  repeat clear S
  rintro⟨i,vo⟩ d0 w5 ⟨s',Y,cs,hi,ha',hrow,hYl,hY,S⟩ K9 hK9
  simp only at hi hYl S⊢
  simp only[gdz,gds]
  refine gg_ ?_
  refine zh (λhlt=>?_) (λhge=>?_)
  ·have hlt:i<ls.length:=by omega
   obtain⟨bo,oo,co,hqo,hcl,hoc,hoo⟩:=hls.get (by decide) hlt
   have hx:=hre _ (gem hlt)
   have hYn:∀y,afb g R ls[i] y→∀k (h:k<ls.length) (h':k<(Y++[y]).length),afb g R ls[k] (Y++[y])[k]:=λy hy k h h'=>by
    rw[gla,gls]at h'
    by_cases hk:k<Y.length
    ·rw[List.getElem_append_left hk];exact hY k h hk
    ·have :k=i:=by omega
     subst this
     rw[List.getElem_append_right (by omega)]
     simpa using hy
   generalize ls[i]=x at hoc hx hYn
   have hoc0:=hoc
   obtain⟨vx,rfl,hxs⟩:=hoc
   obtain⟨qx,cx,rfl,_,_⟩:=hxs.sl.shape
   cases hqo
   have hxr:x.re.toNat<R.length:=by have:=hRl.1;omega
   obtain⟨br,or',cr,hqr,hclr,hrc,hro⟩:=hR.get (by decide) hxr
   have hRx:=hRl.2 _ hxr
   have hgd:R.getD x.re.toNat (0,[])=R[x.re.toNat]:=by rw[ggd,gqg hxr];rfl
   generalize R[x.re.toNat]=y0 at hrc hRx hgd
   obtain⟨W,ws⟩:=y0
   simp only at hRx
   cases hqr
   refine gg_ ?_
   refine zo (n:=5) rfl (λj v hj=>by rw[tnc];exact S.at (Ob.up (s:=(r.or s).or s') (hoo j v hj))) ?_
   refine S.al λb12 w7 S=>?_
   refine S.stB (b:=b12) λw8 S=>?_
   have S:=S.go (Ext.drew _)
   refine S.ldB (b:=b12) ?_ rfl
   refine gg_ ?_
   obtain⟨hWe,hmay⟩:=hRx
   have hWe:W=(g.pts.length:Int)+g.lv:=hWe
   have hmay:BM.May W ws:=hmay
   have hm1:=hmay.1;have hm2:=hmay.2.1;have hm3:=hmay.2.2.1
   have hrc0:RwbC ((r.or s).or s') cr (W,ws):=RwbC.up (RwbC.up (s:=r.or s) hrc)
   obtain⟨pw',cw,rfl,hws'⟩:=hrc
   refine zo (n:=2) rfl (λj v hj=>S.at (Ob.up (s:=(r.or s).or s') (Ob.up (s:=r.or s) (hro j v hj)))) ?_
   have hL2:LkG2 ((r.or s).or s') b u g (lkR u fn) (lkE u fn) ls:=hL.up
   have hx2:LnG ((r.or s).or s') [.int .i64 x.q,.int .i64 x.pl.l,.slice qx x.pl.ps.length cx,.bool x.mu,.int .i64 x.re] x:=LnG.up hoc0
   refine afa S.holds hL2 hx2 hrc0 (by omega) (by omega) hn hx.1.1 hx.1.2 hpt λD bw w15 hD hall hnd T=>?_
   have S:StX noX w (((r.or s).or s').or nothing) w15 [.cell bw (wcs (wdsL g.pts.length D)) 205,.cell b12 [.int .i64 x.q,.int .i64 x.pl.l,.slice qx x.pl.ps.length cx,.bool x.mu,.int .i64 x.re] 82,.row vo 48 2 Y.length cs]:=StX.join S (T.to nothing (l:=⟨λb o h=>h.elim⟩)) Above.no
   clear T
   have hwl:=vD (n:=g.pts.length) (D:=D)
   have hy:afb g R x ((g.pts.length:Int),wdsL g.pts.length D):=⟨rfl,D,rfl,λp=>by rw[hgd];exact hD p,hall,hnd⟩
   obtain⟨S,hs,hbw⟩:=S.litNew bw (sz:=1) (R:=WdC) (l:=wdsL g.pts.length D) vZ (by decide)
   have hyr:RwbC (s'.or (Go.Sh.one bw (wcs (wdsL g.pts.length D)) 205)) [.int .i64 g.pts.length,.slice (some ⟨bw,0,none⟩) ((g.pts.length+63)/64) ((g.pts.length+63)/64)] ((g.pts.length:Int),wdsL g.pts.length D):=
    ⟨some ⟨bw,0,none⟩,(g.pts.length+63)/64,by rw[hwl],by rw[hwl]at hs⊢;exact SlB.cells ⟨hs,by rw[maxLen,hwl];omega⟩⟩
   generalize wdsL g.pts.length D=wd at S hyr hy hbw
   refine S.lit (e:=48) (cs:=[.int .i64 g.pts.length,.slice (some ⟨bw,0,none⟩) ((g.pts.length+63)/64) ((g.pts.length+63)/64)]) (by kernel_rfl) λb13 w16 S=>?_
   refine S.ap (v:=vo) (m':=1) (Sl.blk (S.blk b13)) (λv14 w17 S=>?_) (by omega)
   have S:=(S.drop b13).drop b12
   refine qX (by omega) ?_
   refine hK9 (i+1,v14) _ ⟨s'.or (Go.Sh.one bw (wcs wd) 205),Y++[((g.pts.length:Int),wd)],_,hlt,ha'.or' hbw,(hrow.mono λc x h=>RwbC.up h).snoc rfl hyr,by rw[gla,gls,hYl],hYn _ hy,?_⟩ (by show ls.length-(i+1)<ls.length-i;omega)
   show StX noX w ((r.or s).or (s'.or (Go.Sh.one bw (wcs wd) 205))) w17 [.row v14 48 2 (Y++[((g.pts.length:Int),wd)]).length _]
   rw[gla,gls]
   exact S.less (λb o h=>Or.elim h (λh=>.inl (.inl (.inl h))) λh=>Or.elim h (λh=>.inl (.inl (.inr h))) .inr) (List.Sublist.refl _)
  ·have hie:i=ls.length:=by omega
   obtain⟨s9,S,hs9,_,a9⟩:=S.doneRow hrow (by decide) rfl
   have a9:Above w s9:=λb o ho=>(a9 b o ho).resolve_right id
   have T:StX noX w (r.or ((s.or s').or s9)) w5 []:=S.less (λb o h=>Or.elim h (λh=>.inl (.inl (.inl h))) λh=>Or.elim h (λh=>Or.elim h (λh=>.inl (.inl (.inr h))) λh=>.inl (.inr h)) .inr) (List.nil_sublist _)
   exact h1 vo ((s.or s').or s9) Y w5 T.ext (StX.newOf T ((ha.or' ha').or' a9)) (hs9.up' inferInstance λ_ _ h=>RwbC.up h) (by omega) hY
end
theorem ad8{f:AcD→Bool}{fv v:Value}{w:World}{r:Gh}{l:List AcD}{K:Value→World→Prop}(hr:Holds r w)(hl:SlG 4 r (AcG r) v l)(hb:l.length≤1000000000)
  (hf:∀x∈l,∀(c:List Value)(w:World)(K:Value→World→Prop),Holds r w→AcG r c x→(∀w',Ext w w'→K (.bool (f x)) w')→zD Tryz.prog fv #[.agg c.toArray] w K)
  (h:∀(i:Int) w',Ext w w'→(0≤i↔l.any f=true)→K (.int .i64 i) w'):zd Tryz.prog Tryz.yn #[v,fv] w K:=by
 refine Tryz.kV ?_
 unfold Tryz.xg
 obtain⟨p,cap,rfl,_,_⟩:=hl.shape
 have S:=St.start hr
 refine gP_ ?_
 refine zj (ι:=Nat) (λi=>[.int .i64 i]) (λi w'=>i≤l.length∧(l.take i).any f=false∧StX noX w r w' []) (λi=>l.length-i) 0 rfl ⟨gzl _,by simp,S⟩ ?_
 clear S
 rintro i d w' ⟨hi,hn,S⟩ K6 hK6
 simp only[gdz]
 refine gP_ ?_
 refine zh (λhlt=>?_) (λhge=>?_)
 ·have hlt:i<l.length:=by omega
  obtain⟨b,off,c,rfl,hcl,hcR,hcell⟩:=hl.get (by decide) hlt
  have hcR0:=hcR
  obtain⟨vx,rfl,hxs⟩:=hcR
  obtain⟨pw,cw,rfl,_,_⟩:=hxs.sl.shape
  refine gP_ ?_
  refine zo (n:=4) rfl (λj v hj=>by rw[tnc];exact S.at (hcell j v hj)) ?_
  refine hf _ (gem hlt) _ _ _ S.holds hcR0 λw2 e2=>?_
  have S:=S.go e2
  have ht:(l.take (i+1)).any f=((l.take i).any f||f l[i]):=by
   rw[List.take_succ_eq_append_getElem hlt,List.any_append];simp only[List.any_cons,List.any_nil,Bool.or_false]
  refine c_b (λhy=>?_) (λhno=>?_)
  ·exact h _ _ S.ext ⟨λ_=>List.any_eq_true.2 ⟨l[i],gem hlt,hy⟩,λ_=>Int.natCast_nonneg _⟩
  ·refine gP_ ?_
   refine hK6 (i+1) _ ⟨hlt,?_,S⟩ (by omega)
   rw[ht,hn,hno];rfl
 ·have :i=l.length:=by omega
  subst this
  rw[List.take_length]at hn
  exact h _ _ S.ext ⟨λh=>by omega,λh=>by rw[hn]at h;cases h⟩
theorem aaW{f:AcD→Bool}{fv v:Value}{w:World}{r:Gh}{l:List AcD}{K:Value→World→Prop}(hr:Holds r w)(hl:SlG 4 r (AcG r) v l)(hb:l.length≤1000000000)
  (hf:∀x∈l,∀(c:List Value)(w:World)(K:Value→World→Prop),Holds r w→AcG r c x→(∀w',Ext w w'→K (.bool (f x)) w')→zD Tryz.prog fv #[.agg c.toArray] w K)
  (h:∀w',Ext w w'→K (.bool (l.any f)) w'):zd Tryz.prog Tryz.yf #[v,fv] w K:=by
 refine Tryz.kD ?_
 unfold Tryz.yV
 refine ad8 hr hl hb hf λi w' e hi=>?_
 refine gP_ ?_
 have e2:decide (i≥0)=l.any f:=by
  by_cases hh:l.any f=true
  ·rw[hh];exact gde (hi.2 hh)
  ·rw[Bool.eq_false_iff.2 hh];exact decide_eq_false λh=>hh (hi.1 h)
 rw[e2];exact h _ e
section
variable {u:UnD} {g:GrD} {d:RgD} {e:Int} {ls:List LnD} {b:Nat} {w:World} {r:Gh} {K:Value→World→Prop}
theorem ajV{x:LnD}{a:AcD}{b10 b14:Nat}{c cx:List Value}(hr:Holds r w)(hL:LkG2 r b u g d e ls)(hx:LnG r cx x)(ha:AcG r c a)(h0:0≤x.pl.l)(h1:x.pl.l.toNat<g.tys.length)
  (h10:Ob r λw=>w.cell? ⟨b10,0,none⟩=some (.pointer (some ⟨b,0,none⟩))) (h14:∀j v,cx[j]? = some v→Ob r λw=>w.cell? ⟨b14,j,none⟩=some v) (h:∀w',Ext w w'→K (.bool (Z3 u g x a)) w'):
  zD Tryz.prog (.func (.func Tryz.Qh) #[] #[.pointer (some ⟨b10,0,none⟩),.pointer (some ⟨b14,0,none⟩)]) #[.agg c.toArray] w K:=by
 refine adg (by kernel_rfl) ?_
 refine Tryz.acJ ?_
 unfold Tryz.QJ
 have ha0:=ha
 have hx0:=hx
 obtain⟨va,rfl,has⟩:=ha
 obtain⟨qa,ca,rfl,_,_⟩:=has.sl.shape
 obtain⟨vx,rfl,hxs⟩:=hx
 have S:=St.start hr
 refine S.box λb3 w1 S=>?_
 have S:StX noX w r w1 [.cell b3 [.int .i64 a.pl.l,.slice qa a.pl.ps.length ca,.int .u8 a.d,.bool a.wr] 88]:=S
 refine zf (S.at h10) ?_
 refine zo (n:=5) (c:=[.int .i64 x.q,.int .i64 x.pl.l,vx,.bool x.mu,.int .i64 x.re]) rfl (λj v hj=>by rw[Nat.zero_add];exact S.at (h14 j v hj)) ?_
 refine S.ldB (b:=b3) ?_ rfl
 refine VN S.holds hL hx0 ha0 h0 h1 λw2 e2=>?_
 exact h _ (S.go e2).ext
theorem ah5{p:PtD}(hH:LkH g p):(lksA u g p).length≤1000000:=by
 have h1:=X8 (l:=p.a::p.b::p.args)
 have h2:=hH.args;have h3:=hH.tys
 have h4:(yY g p).length≤900000:=by
  rw[yY]
  split
  ·simp
  ·split
   ·simp
   ·split
    ·rename_i h14;have:=hH.ret h14;rw[List.length_cons,X9];omega
    ·simp
 have h5:(vC u g p).length≤1:=by rw[vC];split<;>simp
 simp only[List.length_cons]at h1
 rw[lksA,gla,gla]
 omega
noncomputable def afc(u:UnD)(g:GrD)(ls:List LnD)(R:List xM)(q n:Nat):Bool:=bit (R.getD n (0,[])).2 q&&(match g.pts[q]?,ls[n]? with|some p,some x=>(lksA u g p).any (Z3 u g x)|_,_=>false)
noncomputable def Q7(u:UnD)(g:GrD)(ls:List LnD)(R:List xM):Option (Nat×Nat):=cls (afc u g ls R) g.pts.length ls.length
theorem agx{fn:Int}{v:Value}{R:List xM}{vR:Value}(hr:Holds r w)(hu:UnG r v u)(hR:SlG 2 r (RwbC r) vR R)(hf:R.length≤1000000)
  (h0:∀e w',e≠0→(∀g,IsF u fn g→lkE u fn=0→z7 R (lkS u fn g).length g.pts.length=false)→Ext w w'→K (.tuple #[.int .i64 0,.int .i64 0,.bool false,.int .i64 e]) w')
  (h1:∀g,IsF u fn g→lkE u fn=0→z7 R (lkS u fn g).length g.pts.length=true→∀w',Ext w w'→K (.tuple #[.int .i64 (((Q7 u g (lkS u fn g) R).getD (0,0)).2:Nat),.int .i64 (((Q7 u g (lkS u fn g) R).getD (0,0)).1:Nat),.bool (Q7 u g (lkS u fn g) R).isNone,.int .i64 0]) w'):
  zd Tryz.prog Tryz.YC #[v,.int .i64 fn,vR] w K:=by
 refine Tryz.ae2 ?_
 unfold Tryz.VL
 obtain⟨pR,capR,rfl,_,_⟩:=hR.shape
 obtain⟨p0,cap0,vf,rfl,_,_,_,_,_⟩:=id hu
 have S:=St.start hr
 refine S.box λb3 w1 S=>?_
 have S:StX noX w r w1 [.cell b3 [.slice p0 u.ss.length cap0,vf,.int .i64 u.mn] 25]:=S
 refine S.ldB (b:=b3) ?_ rfl
 refine ju S.holds hu (λhi w2 e2=>?_) λhi g b s w2 hg e2 n2 hL=>?_
 ·have S:=S.go e2
  refine gp_ ?_
  refine gp_ ?_
  refine S.al λb10 w3 S=>?_
  refine S.st (b:=b10) (λw4 S=>?_) (by simp) rfl
  refine zk (λx w'=>x=[.int .i64 2]∧w'=w4) (λK3 hK3=>?_) ?_
  ·refine gp_ ?_
   refine c_f rfl ?_
   exact hK3 _ _ ⟨rfl,rfl⟩
  rintro _ _ ⟨rfl,rfl⟩ d
  rw[gdz]
  refine gp_ ?_
  refine c_t rfl ?_
  exact h0 2 _ (by decide) (λg F=>by have:=F.is;rw[hi]at this;cases this) S.ext
 ·obtain⟨S,_,ha⟩:=S.tell e2 n2
  have F:=isF hi hg
  have hlf:(lkS u fn g).length≤1000000:=Nat.le_trans qC (by have:=F.head.pt1024;omega)
  refine gp_ ?_
  refine gp_ ?_
  refine S.al λb10 w3 S=>?_
  refine S.st (b:=b10) (λw4 S=>?_) (by simp) rfl
  have S:StX noX w (r.or s) w4 [.cell b10 [.pointer (some ⟨b,0,none⟩)] 151,.cell b3 [.slice p0 u.ss.length cap0,vf,.int .i64 u.mn] 25]:=S
  refine zk (λx w'=>x=[.int .i64 (if z7 R (lkS u fn g).length g.pts.length=true then lkE u fn else 2)]∧StX noX w (r.or s) w' [.cell b10 [.pointer (some ⟨b,0,none⟩)] 151,.cell b3 [.slice p0 u.ss.length cap0,vf,.int .i64 u.mn] 25]) (λK5 hK5=>?_) ?_
  ·refine gp_ ?_
   refine c_t rfl ?_
   have S:=S.go (Ext.drew _)
   refine S.ld (b:=b10) ?_
   refine S.ld (b:=b10) ?_
   refine VO S.holds hL (hR.up' inferInstance λ_ _ h=>RwbC.up h) hf λw9 e9=>⟨e9,?_⟩
   have S:=S.go e9
   refine xH S.holds hL ?_
   exact hK5 _ _ ⟨rfl,S⟩
  clear S
  rintro _ w8 ⟨rfl,S⟩ d
  rw[gdz]
  refine gp_ ?_
  refine zh (λhne=>?_) (λhe=>?_)
  ·refine h0 _ _ hne (λg' F' hz=>?_) S.ext
   obtain rfl:g'=g:=Option.some.inj (F'.at'.symm.trans hg)
   cases hh:z7 R (lkS u fn g').length g'.pts.length with
   |false=>rfl
   |true=>rw [hh,if_pos rfl]at hne;exact absurd hz hne
  have hgood:z7 R (lkS u fn g).length g.pts.length=true:=by
   cases hh:z7 R (lkS u fn g).length g.pts.length with
   |true=>rfl
   |false=>rw [hh,if_neg (by decide)]at he;exact absurd (show(2:Int)≠0 by decide) he
  have hz:lkE u fn=0:=by rw[hgood,if_pos rfl]at he;omega
  have h1:=h1 g F hz hgood
  rw[hgood,if_pos rfl,hz]
  have hloc:=ai8 (fn:=fn) F.may F.head F.pts
  generalize lkS u fn g=ls at *
  have hRl:=JM hgood
  have hn:=F.head.pt1024
  have h10:Ob ((r.or s).or (Go.Sh.one b10 [.pointer (some ⟨b,0,none⟩)] 151)) λw=>w.cell? ⟨b10,0,none⟩=some (.pointer (some ⟨b,0,none⟩)):=y9 (i:=0) (c:=[.pointer (some ⟨b,0,none⟩)]) (T:=151) rfl
  have S:=(S.frzAt b10).tl
  have hL:LkG2 ((r.or s).or (Go.Sh.one b10 [.pointer (some ⟨b,0,none⟩)] 151)) b u g (lkR u fn) (lkE u fn) ls:=hL.up
  have hR2:SlG 2 ((r.or s).or (Go.Sh.one b10 [.pointer (some ⟨b,0,none⟩)] 151)) (RwbC ((r.or s).or (Go.Sh.one b10 [.pointer (some ⟨b,0,none⟩)] 151))) (.slice pR R.length capR) R:=hR.up' inferInstance λ_ _ h=>RwbC.up (RwbC.up (s:=r.or s) h)
  generalize ((r.or s).or (Go.Sh.one b10 [.pointer (some ⟨b,0,none⟩)] 151))=r' at S h10 hL hR2
  obtain⟨pl,cl,hlc,hls⟩:=id hL.lns
  obtain⟨pp,cpp,hpc,hps⟩:=id hL.pts
  refine zk (λx w'=>x=[.int .i64 (((Q7 u g ls R).getD (0,0)).2:Nat),.int .i64 (((Q7 u g ls R).getD (0,0)).1:Nat),.bool (Q7 u g ls R).isSome]∧Ext w w') (λK11 hK11=>?_) ?_
  ·refine zf (S.at h10) ?_
   refine gg_ ?_
   refine zf (S.at hpc) ?_
   refine gg_ ?_
   refine zj (ι:=Nat) (λi=>[.int .i64 0,.int .i64 0,.bool false,.int .i64 (i:Nat)]) (λi w'=>i≤g.pts.length∧(∀y<i,∀n<ls.length,afc u g ls R y n=false)∧StX noX w r' w' []) (λi=>g.pts.length-i) 0 rfl ⟨gzl _,λy hy=>absurd hy (Nat.not_lt_zero _),S⟩ ?_
   clear S
   rintro i d0 w9 ⟨hi,hno,S⟩ K15 hK15
   simp only[gdz,gds]
   refine gg_ ?_
   refine zh (λhlt=>?_) (λhge=>?_)
   ·have hlt:i<g.pts.length:=by omega
    have hpg:=F.pts _ (gem hlt)
    have hH:=ad7 F.may F.head hpg
    have hAf:=ah5 (u:=u) hH
    refine zf (S.at h10) ?_
    refine n_some ?_
    refine gg_ ?_
    refine zf (S.at hlc) ?_
    refine gg_ ?_
    refine zj (ι:=Value×Nat) (λi=>[.int .i64 0,.int .i64 0,.bool false,i.1,.int .i64 (i.2:Nat)]) (λj w'=>∃sL,(j.1=.slice none 0 0∨SlG 4 sL (AcG sL) j.1 (lksA u g g.pts[i]))∧j.2≤ls.length∧(∀n<j.2,afc u g ls R i n=false)∧StX noX w (r'.or sL) w' []) (λj=>ls.length-j.2) (.slice none 0 0,0) rfl
     ⟨nothing,.inl rfl,gzl _,λn hn=>absurd hn (Nat.not_lt_zero _),S.less (λb o h=>Or.elim h id λh=>h.elim) (List.Sublist.refl _)⟩ ?_
    clear S
    rintro⟨vl,j⟩ d1 w10 ⟨sL,hvl,hj,hnj,S⟩ K19 hK19
    simp only at hvl hj hnj S⊢
    simp only[gdz,gds]
    refine gg_ ?_
    refine zh (λhltj=>?_) (λhgej=>?_)
    ·have hltj:j<ls.length:=by omega
     obtain⟨bo,oo,co,hqo,hcl,hoc,hoo⟩:=hls.get (by decide) hltj
     have hxl:=hloc _ (gem hltj)
     have hjR:j<R.length:=by have:=hRl.1;omega
     have hNj:afc u g ls R i j=(bit R[j].2 i&&(lksA u g g.pts[i]).any (Z3 u g ls[j])):=by
      rw[afc,gqg hlt,gqg hltj,ggd,gqg hjR];rfl
     obtain⟨br,or',cr,hqr,hclr,hrc,hro⟩:=hR2.get (by decide) hjR
     have hRx:=hRl.2 _ hjR
     generalize ls[j]=x at hoc hxl hNj
     generalize R[j]=y0 at hrc hRx hNj
     obtain⟨W,ws⟩:=y0
     obtain⟨hWe,hmay⟩:=hRx
     have hWe:W=(g.pts.length:Int):=hWe
     have hmay:BM.May W ws:=hmay
     have hm1:=hmay.1;have hm2:=hmay.2.1;have hm3:=hmay.2.2.1
     simp only at hNj
     have hoc0:=hoc
     obtain⟨vx,rfl,hxs⟩:=hoc
     obtain⟨qx,cx,rfl,_,_⟩:=hxs.sl.shape
     have hrc0:=hrc
     obtain⟨pw',cw,rfl,hws'⟩:=hrc
     rw[hqo]
     cases hqr
     refine zk (λy w'=>∃vl' sL',y=[.int .i64 0,.int .i64 0,.bool false,vl']∧(vl'=.slice none 0 0∨SlG 4 sL' (AcG sL') vl' (lksA u g g.pts[i]))∧afc u g ls R i j=false∧StX noX w (r'.or sL') w' []) (λK23 hK23=>?_) ?_
     ·refine gg_ ?_
      refine zo (n:=5) rfl (λj v hj=>by rw[tnc];exact S.at (Ob.up (s:=r'.or sL) (hoo j v hj))) ?_
      refine S.al λb14 w11 S=>?_
      refine S.stB (b:=b14) λw12 S=>?_
      have S:StX noX w (r'.or sL) w12 [.cell b14 [.int .i64 x.q,.int .i64 x.pl.l,.slice qx x.pl.ps.length cx,.bool x.mu,.int .i64 x.re] 82]:=S
      refine gg_ ?_
      refine zo (n:=2) rfl (λj v hj=>by rw[tnc];exact S.at (Ob.up (s:=r'.or sL) (hro j v hj))) ?_
      refine jM S.holds (RwbC.up hrc0) (Int.natCast_nonneg i) (by omega) (by omega) λw13 e13=>?_
      have S:=S.go e13
      rw[tnc]
      refine gp_ ?_
      refine c_b (λhnb=>?_) (λhb=>?_)
      ·have hnb:bit ws i=false:=by simpa using hnb
       exact hK23 _ _ ⟨vl,sL,rfl,hvl,by rw[hNj,hnb,Bool.false_and],S.tl⟩
      have hb:bit ws i=true:=by simpa using hb
      rw[hb,Bool.true_and]at hNj
      have S:=S.frzAt b14
      have h14:∀j v,[Value.int .i64 x.q,.int .i64 x.pl.l,.slice qx x.pl.ps.length cx,.bool x.mu,.int .i64 x.re][j]? = some v→Ob ((r'.or sL).or (Go.Sh.one b14 [.int .i64 x.q,.int .i64 x.pl.l,.slice qx x.pl.ps.length cx,.bool x.mu,.int .i64 x.re] 82)) λw=>w.cell? ⟨b14,j,none⟩=some v:=λj v hj=>y9 (i:=j) (c:=[.int .i64 x.q,.int .i64 x.pl.l,.slice qx x.pl.ps.length cx,.bool x.mu,.int .i64 x.re]) (T:=82) hj
      have le1:Le r' ((r'.or sL).or (Go.Sh.one b14 [.int .i64 x.q,.int .i64 x.pl.l,.slice qx x.pl.ps.length cx,.bool x.mu,.int .i64 x.re] 82)):=inferInstance
      have le3:Le sL ((r'.or sL).or (Go.Sh.one b14 [.int .i64 x.q,.int .i64 x.pl.l,.slice qx x.pl.ps.length cx,.bool x.mu,.int .i64 x.re] 82)):=inferInstance
      generalize ((r'.or sL).or (Go.Sh.one b14 [.int .i64 x.q,.int .i64 x.pl.l,.slice qx x.pl.ps.length cx,.bool x.mu,.int .i64 x.re] 82))=r2 at S h14 le1 le3
      refine zk (λy w'=>∃vl' sL',y=[vl']∧SlG 4 sL' (AcG sL') vl' (lksA u g g.pts[i])∧StX noX w (r2.or sL') w' []) (λK30 hK30=>?_) ?_
      ·have hsh:∃p n cap,vl=.slice p n cap:=by
        rcases hvl with rfl|hs
        ·exact⟨_,_,_,rfl⟩
        ·obtain⟨p,cap,rfl,_,_⟩:=hs.shape;exact⟨_,_,_,rfl⟩
       obtain⟨pv,nv,cv',rfl⟩:=hsh
       refine JP (e:=88) (n:=4) (by kernel_rfl) ?_
       refine c_b (λhnil=>?_) (λhnn=>?_)
       ·refine zf (S.at (h10.up (s:=r2))) ?_
        refine aaS S.holds (LkG2.up hL) (Int.natCast_nonneg i) hlt rfl hH λv' s9 w15 e15 n15 hs=>?_
        obtain⟨S,_,_⟩:=S.tell e15 n15
        exact hK30 _ _ ⟨v',s9,rfl,hs,S⟩
       ·rcases hvl with hv|hs
        ·cases hv;cases hnn
        ·exact hK30 _ _ ⟨_,sL,rfl,hs,S.less (λb o h=>Or.elim h id (le3.le b o)) (List.Sublist.refl _)⟩
      ·clear S
       rintro _ w15 ⟨vl',sL',rfl,hs,S⟩ d
       rw[gdz]
       refine gp_ ?_
       refine aaW (f:=Z3 u g x) S.holds (hs.up' inferInstance λ_ _ h=>AcG.up h) (by omega) (λa _ c w K hr hc hK=>?_) λw17 e17=>?_
       ·have hL3:LkG2 (r2.or sL') b u g (lkR u fn) (lkE u fn) ls:=LkG2.up (LkG2.up (s:=r2) hL)
        have hx3:LnG (r2.or sL') [.int .i64 x.q,.int .i64 x.pl.l,.slice qx x.pl.ps.length cx,.bool x.mu,.int .i64 x.re] x:=LnG.up (LnG.up (s:=r2) hoc0)
        exact ajV hr hL3 hx3 hc hxl.1 hxl.2 (Ob.up (h10.up (s:=r2))) (λj v hj=>Ob.up (h14 j v hj)) hK
       have S:=S.go e17
       refine c_b (λhy=>?_) (λhn'=>?_)
       ·have hb2:Q7 u g ls R=some (i,j):=akO hlt hltj hno hnj (by rw[hNj,hy])
        rw[hb2]at hK11
        exact hK11 _ _ ⟨rfl,S.ext⟩
       ·exact hK23 _ _ ⟨vl',sL',rfl,.inr hs,by rw[hNj,hn'],S.less (λb o h=>Or.elim h (λh=>.inl (le1.le b o h)) .inr) (List.Sublist.refl _)⟩
     ·clear S
      rintro _ w16 ⟨vl',sL',rfl,hvl',hf',S⟩ d
      simp only[gdz,gds]
      refine qX (by omega) ?_
      refine hK19 (vl',j+1) _ ⟨sL',hvl',hltj,λn hn=>?_,S⟩ (by show ls.length-(j+1)<ls.length-j;omega)
      by_cases hnj2:n=j
      ·subst hnj2;exact hf'
      ·exact hnj n (by show n<j;have :n<j+1:=hn;omega)
    ·have hje:j=ls.length:=by omega
     subst hje
     refine qX (by omega) ?_
     refine hK15 (i+1) _ ⟨hlt,λy hy n hn=>?_,S.less (λb o h=>.inl h) (List.Sublist.refl _)⟩ (by omega)
     by_cases hyi:y=i
     ·subst hyi;exact hnj n hn
     ·exact hno y (by omega) n hn
   ·have hie:i=g.pts.length:=by omega
    subst hie
    have hb:Q7 u g ls R=none:=amV hno
    rw[hb]at hK11
    exact hK11 _ _ ⟨rfl,S.ext⟩
  ·clear S
   rintro _ w14 ⟨rfl,e14⟩ d
   simp only[gdz,gds]
   refine gp_ ?_
   have:=h1 w14 e14
   cases hb:Q7 u g ls R with
   |none=>rw [hb]at this;exact this
   |some a=>rw [hb]at this;exact this
end
end
end Go.Proofs
namespace Go.Proofs
open Go.Sh
theorem agy{u:UnD}{n:Int}{p:PlD}{c:List Value}{v:Value}{w:World}{r:Gh}{K:Value→World→Prop}(hr:Holds r w)(hu:UnG r v u)(hM:MayU u)(hn0:0≤n)(hlt:n.toNat<u.fs.length)(hp:PlG r c p)
  (hN:∀w',(zm u.ss u.fs[n.toNat].tys p).2.2=false→Ext w w'→K (.tuple #[agK,.slice none 0 0,.bool false]) w')
  (hS:∀t m v' vg s w',zm u.ss u.fs[n.toNat].tys p=(t,m,true)→Ext w w'→New w s w'→TyG (r.or s) v' t→(∃how,SlG 1 s yz vg how∧zC u.ss p.ps (u.fs[n.toNat].tys.getD p.l.toNat zI)=some (t,how))→K (.tuple #[v',vg,.bool true]) w'):zd Tryz.prog Tryz.Yx #[v,.int .i64 n,.agg c.toArray] w K:=by
 refine Tryz.aeL ?_
 unfold Tryz.VA
 have hu0:=hu
 obtain⟨p0,cap0,vf,rfl,_,_,hst,hsl,hfn⟩:=hu
 obtain⟨qf,capf,rfl,_,_⟩:=hfn.sl.shape
 obtain⟨bf,of,cf,rfl,hcf,hgc,hfo⟩:=hfn.sl.get (by decide) hlt
 have hff:=(hM.hd hlt).fine hM.ok
 generalize u.fs[n.toNat]=g at hN hS hgc hff
 obtain⟨x1,x2,x3,x4,y1,y2,y3,y4,rfl,hg0⟩:=abe hgc
 have hp0:=hp
 obtain⟨vp,rfl,hvp⟩:=hp
 obtain⟨qs,caps,rfl,_,_⟩:=hvp.sl.shape
 have S:=St.start hr
 refine S.box λb3 w1 S=>?_
 have S:StX noX w r w1 [.cell b3 [.slice p0 u.ss.length cap0,.slice (some ⟨bf,of,none⟩) u.fs.length capf,.int .i64 u.mn] 25]:=S
 refine S.box λb5 w2 S=>?_
 refine S.al λb6 w3 S=>?_
 have S:=S.go (Ext.drew _)
 refine S.ldB (b:=b3) ?_ rfl
 refine gg_ ?_
 refine zo (n:=7) hcf (λj v hj=>S.at (hfo j v hj)) ?_
 refine zq (cs:=(asL u g p0 cap0 (some ⟨bf,of,none⟩) capf x1 y1 x2 y2 x3 y3 x4 y4).toArray) (by kernel_rfl) ?_
 refine S.box λb17 w4 S=>?_
 have S:StX noX w r w4 [.cell b17 (asL u g p0 cap0 (some ⟨bf,of,none⟩) capf x1 y1 x2 y2 x3 y3 x4 y4) 170,.cell b6 je 43,.cell b5 [.int .i64 p.l,.slice qs p.ps.length caps] 80,.cell b3 [.slice p0 u.ss.length cap0,.slice (some ⟨bf,of,none⟩) u.fs.length capf,.int .i64 u.mn] 25]:=S
 refine S.ldB (b:=b5) ?_ rfl
 have hm:=S.mine (.cell b17 (asL u g p0 cap0 (some ⟨bf,of,none⟩) capf x1 y1 x2 y2 x3 y3 x4 y4) 170) (by simp) b17 rfl
 have S:=S.frzAt b17
 have hA:AsP (r.or (Go.Sh.one b17 (asL u g p0 cap0 (some ⟨bf,of,none⟩) capf x1 y1 x2 y2 x3 y3 x4 y4) 170)) b17 u g:=⟨_,_,_,_,_,_,_,_,_,_,_,_,xj.up,hu0.up,hg0.up⟩
 refine Zw S.holds hA hM.ok hff hp0.up (λw5 hno e5=>?_) λt how q cap vg s w5 hsp e5 n5 ht hvg _ hw=>?_
 ·have S:=S.go e5
  refine gS_ ?_
  refine S.stB (b:=b6) λw6 S=>?_
  refine S.ceB (b:=b6) ?_ rfl
  exact hN _ hno S.ext
 ·obtain⟨S,_,a5⟩:=S.tell e5 n5
  obtain⟨_,_,rfl,_,_⟩:=hvg.shape
  refine gS_ ?_
  refine S.stB (b:=b6) λw6 S=>?_
  refine S.ceB (b:=b6) ?_ rfl
  have S:=S.less (q:=r.or ((Go.Sh.one b17 (asL u g p0 cap0 (some ⟨bf,of,none⟩) capf x1 y1 x2 y2 x3 y3 x4 y4) 170).or s)) (λb o h=>Or.elim h (λh=>.inl (.inl h)) λh=>Or.elim h (λh=>.inl (.inr h)) .inr) (List.Sublist.refl _)
  refine hS t _ _ _ _ _ hsp S.ext (S.newOf (Above.or' ?_ a5)) (TyG.up (l:=⟨λb o h=>Or.elim h .inl λh=>.inr (.inl h)⟩) ht) ⟨how,hvg.cells,hw.2⟩
  rintro b o ⟨rfl,_⟩
  exact hm.1.resolve_right id
end Go.Proofs
namespace Go.Proofs
open Go.Sh Go.RowKit
section
variable {w:World} {r:Gh} {K:Value→World→Prop} {g:GrD} {v:Value} {u:UnD} {fn:Int} {p:PlD} {c:List Value} {M:List Asr} {l:List AcD}
theorem afd{d:Int}{wr:Bool}{K:Value→World→Prop}(hr:Holds r w)(hp:PlG r c p)(hb:p.ps.length≤1000000)
  (h:∀c s w',Ext w w'→New w s w'→AcG s c ⟨p,d,wr⟩→K (.agg c.toArray) w'):zd Tryz.prog Tryz.yG #[.agg c.toArray,.int .u8 d,.bool wr] w K:=by
 refine Tryz.adZ ?_
 unfold Tryz.JG
 obtain⟨v,rfl,hl⟩:=hp
 have hin:=ad5 hl
 obtain⟨qs,caps,rfl,hq,_⟩:=hl.sl.shape
 have S:=St.start hr
 refine S.box λb3 w1 S=>?_
 refine S.al λb6 w2 S=>?_
 refine gp_ ?_
 refine S.al λb7 w3 S=>?_
 refine S.stB (b:=b7) λw4 S=>?_
 have S:StX noX w r w4 [.cell b7 [.int .i64 0,.slice none 0 0,.int .u8 d,.bool wr] 88,.cell b6 [.int .i64 0,.slice none 0 0,.int .u8 0,.bool false] 88,.cell b3 [.int .i64 p.l,.slice qs p.ps.length caps] 80]:=S
 refine gg_ ?_
 refine S.st (b:=b7) (λw5 S=>?_) (by simp) rfl
 have S:StX noX w r w5 [.cell b7 [.int .i64 p.l,.slice none 0 0,.int .u8 d,.bool wr] 88,.cell b6 [.int .i64 0,.slice none 0 0,.int .u8 0,.bool false] 88,.cell b3 [.int .i64 p.l,.slice qs p.ps.length caps] 80]:=S
 refine gg_ ?_
 have S:=S.ownNil 84 1
 refine S.ap (v:=.slice none 0 0) (S.at (adF hl)) (λv2 w6 S=>?_) (by omega) (by rw[yh];omega) hq (aae _)
 rw[List.nil_append,Nat.zero_add]at S
 obtain⟨q2,c2,rfl,_⟩:=S.rowS v2
 refine gg_ ?_
 refine S.st (b:=b7) (λw7 S=>?_) (by simp) rfl
 have S:StX noX w r w7 [.row (.slice q2 p.ps.length c2) 84 1 p.ps.length (ints p.ps),.cell b7 [.int .i64 p.l,.slice q2 p.ps.length c2,.int .u8 d,.bool wr] 88,.cell b6 [.int .i64 0,.slice none 0 0,.int .u8 0,.bool false] 88,.cell b3 [.int .i64 p.l,.slice qs p.ps.length caps] 80]:=S
 refine S.ldB (b:=b7) ?_ rfl
 refine S.stB (b:=b6) λw8 S=>?_
 refine S.ceB (b:=b6) ?_ rfl
 obtain⟨s1,S,h1,_,a1⟩:=StX.doneRow (l:=p.ps) (R:=xp) (sz:=1) S (Yn hin) (by decide) rfl
 have a1:Above w s1:=λb o ho=>(a1 b o ho).resolve_right id
 have h1:SlB 1 s1 xp (.slice q2 p.ps.length c2) p.ps:=SlB.cells ⟨h1,by rw[maxLen];omega⟩
 exact h _ s1 _ S.ext (StX.newOf (q:=s1) S a1) ⟨_,rfl,h1⟩
theorem amZ{f:Nat→Int}{i:Nat}(hi:i<g.pts.length):aaQ g f i=if g.pts[i].op=4 then [⟨(i:Int),g.pts[i].fr,g.pts[i].mu,f i⟩]else []:=by
 rw[aaQ,gqg hi]
theorem aiL{vd:Value}{K:Value→World→Prop}(hr:Holds r w)(hu:UnG r v u)(F:IsF u fn g)(he:lkE u fn=0)(hd:RgG r vd (lkR u fn))
  (h:∀v' s w',Ext w w'→New w s w'→SlG 5 s (LnG s) v' (lkS u fn g)→K v' w'):zd Tryz.prog Tryz.QR #[v,.int .i64 fn,vd] w K:=by
 refine Tryz.ahX ?_
 unfold Tryz.abR
 obtain⟨p0,cap0,vf,rfl,_,_,hst,hsl,hfn⟩:=id hu
 obtain⟨qf,capf,rfl,_,_⟩:=hfn.sl.shape
 obtain⟨q1,c1,q2,c2,rfl,g1,g2⟩:=hd.shape
 have hge:=F.at'
 obtain⟨hlt,hge⟩:=List.getElem?_eq_some_iff.1 hge
 have hfn0:=F.fn0
 obtain⟨bg,og,cg,hqg,hclg,hgc,hgo⟩:=hfn.sl.get (by decide) hlt
 rw[hge]at hgc
 obtain⟨x1,x2,x3,x4,y1,y2,y3,y4,rfl,hgc0⟩:=abe hgc
 obtain⟨_,_,_,_,hE,m1,m2,m3,m4⟩:=id hgc0
 cases hE
 cases hqg
 have hS:lkS u fn g=lnsI g (reF (lkR u fn) (lkE u fn)) g.pts.length:=rfl
 have hatl:(lkR u fn).at'.length=g.pts.length:=by rw[ak0 F he];exact(ZZ).2
 have hff:∀i (h:i<(lkR u fn).at'.length),reF (lkR u fn) (lkE u fn) i=(lkR u fn).at'[i]:=λi h=>by rw[reF,if_pos he,atL,tnc,ggd,gqg h];rfl
 have hfr:∀p∈g.pts,p.op=4→p.fr.ps.length≤8:=λp hp ho=>qA (acD (F.pts p hp) (.inl ho))
 have hpl:=F.head.pt1024
 rw[hS]at h
 generalize reF (lkR u fn) (lkE u fn)=f at hff h
 generalize lkR u fn=d at hff hatl g1 g2 hd
 have S:=St.start hr
 refine S.box λb3 w1 S=>?_
 refine S.box λb5 w2 S=>?_
 have S:StX noX w r w2 [.cell b5 (rgL d.lv d.pt d.ct (.slice q1 d.tys.length c1) (.slice q2 d.at'.length c2)) 74,.cell b3 [.slice p0 u.ss.length cap0,.slice (some ⟨bg,og,none⟩) u.fs.length capf,.int .i64 u.mn] 25]:=S
 refine gg_ ?_
 refine zo (n:=7) rfl (λj v hj=>S.at (hgo j v hj)) ?_
 refine S.al λb8 w3 S=>?_
 refine S.stB (b:=b8) λw4 S=>?_
 have S:StX noX w r w4 [.cell b8 (grL g x1 x2 x3 x4 y1 y2 y3 y4) 101,.cell b5 (rgL d.lv d.pt d.ct (.slice q1 d.tys.length c1) (.slice q2 d.at'.length c2)) 74,.cell b3 [.slice p0 u.ss.length cap0,.slice (some ⟨bg,og,none⟩) u.fs.length capf,.int .i64 u.mn] 25]:=S
 have S:=S.ownNil 82 5
 refine zj (ι:=Nat×Value) (λi=>[i.2,.int .i64 (i.1:Nat)]) (λi w'=>∃s cs,i.1≤g.pts.length∧Above w s∧RowOf 5 (LnG s) cs (lnsI g f i.1)∧StX noX w (r.or s) w' [.row i.2 82 5 (lnsI g f i.1).length cs,.cell b8 (grL g x1 x2 x3 x4 y1 y2 y3 y4) 101,.cell b5 (rgL d.lv d.pt d.ct (.slice q1 d.tys.length c1) (.slice q2 d.at'.length c2)) 74,.cell b3 [.slice p0 u.ss.length cap0,.slice (some ⟨bg,og,none⟩) u.fs.length capf,.int .i64 u.mn] 25]) (λi=>g.pts.length-i.1) (0,.slice none 0 0) rfl
  ⟨nothing,[],gzl _,Above.no,RowOf.nil,S.less (λb o h=>Or.elim h id λh=>h.elim) (List.Sublist.refl _)⟩ ?_
 repeat clear S
 rintro⟨i,vo⟩ d0 w5 ⟨s,cs,hi,ha,hrow,S⟩ K5 hK5
 simp only at hi S⊢
 simp only[gdz,gds]
 refine gg_ ?_
 refine zh (λhlti=>?_) (λhge'=>?_)
 ·have hlti:i<g.pts.length:=by omega
  have hnx:=aaR (g:=g) (f:=f) (i:=i)
  rw[amZ hlti]at hnx
  have hfl:=qC (g:=g) (f:=f) (i:=i)
  obtain⟨bo,oo,co,hqo,hcl,hoc,hoo⟩:=m4.sl.get (by decide) hlti
  have hfrp:=hfr _ (gem hlti)
  generalize g.pts[i]=p at hoc hnx hfrp
  obtain⟨z1,z2,z3,z4,z5,t1,t2,t3,t4,t5,rfl,hp0⟩:=xm hoc
  obtain⟨kto,ka,kb,kl,kf⟩:=js hp0
  have hati:i<d.at'.length:=by omega
  obtain⟨ba,oa,rfl,_,hca⟩:=xW g2 hati
  have hfi:=hff i hati
  rw[← hfi]at hca
  cases hqo
  refine zk (λx w'=>∃vo' s' cs',x=[vo']∧Above w s'∧RowOf 5 (LnG s') cs' (lnsI g f (i+1))∧StX noX w (r.or s') w' [.row vo' 82 5 (lnsI g f (i+1)).length cs',.cell b8 (grL g x1 x2 x3 (some ⟨bo,oo,none⟩) y1 y2 y3 y4) 101,.cell b5 (rgL d.lv d.pt d.ct (.slice q1 d.tys.length c1) (.slice (some ⟨ba,oa,none⟩) d.at'.length c2)) 74,.cell b3 [.slice p0 u.ss.length cap0,.slice (some ⟨bg,og,none⟩) u.fs.length capf,.int .i64 u.mn] 25]) (λK9 hK9=>?_) ?_
  ·refine gg_ ?_
   refine zo (n:=21) rfl (λj v hj=>by rw[tnc];exact S.at (Ob.up (s:=r.or s) (hoo j v hj))) ?_
   refine S.al λb10 w7 S=>?_
   refine S.stB (b:=b10) λw8 S=>?_
   have S:StX noX w (r.or s) w8 (.cell b10 (ptL p z1 z2 z3 z4 z5 t1 t2 t3 t4 t5) 96::[.row vo 82 5 (lnsI g f i).length cs,.cell b8 (grL g x1 x2 x3 (some ⟨bo,oo,none⟩) y1 y2 y3 y4) 101,.cell b5 (rgL d.lv d.pt d.ct (.slice q1 d.tys.length c1) (.slice (some ⟨ba,oa,none⟩) d.at'.length c2)) 74,.cell b3 [.slice p0 u.ss.length cap0,.slice (some ⟨bg,og,none⟩) u.fs.length capf,.int .i64 u.mn] 25]):=S
   refine gg_ ?_
   refine zh (λh4=>?_) (λh4=>?_)
   ·have S:=S.go (Ext.drew _)
    refine gg_ ?_
    refine zf (by rw[tnc];exact S.at (Ob.up (s:=r.or s) hca)) ?_
    refine gp_ ?_
    refine S.alU λb11 w9 S=>?_
    refine S.stB (b:=b11) λw10 S=>?_
    have S:StX noX w (r.or s) w10 (.cell b11 [.int .i64 (i:Nat),.int .i64 0,.slice none 0 0,.bool p.mu,.int .i64 (f i)] 82::.cell b10 (ptL p z1 z2 z3 z4 z5 t1 t2 t3 t4 t5) 96::[.row vo 82 5 (lnsI g f i).length cs,.cell b8 (grL g x1 x2 x3 (some ⟨bo,oo,none⟩) y1 y2 y3 y4) 101,.cell b5 (rgL d.lv d.pt d.ct (.slice q1 d.tys.length c1) (.slice (some ⟨ba,oa,none⟩) d.at'.length c2)) 74,.cell b3 [.slice p0 u.ss.length cap0,.slice (some ⟨bg,og,none⟩) u.fs.length capf,.int .i64 u.mn] 25]):=S
    refine gg_ ?_
    refine S.st (b:=b11) (λw11 S=>?_) (by simp) rfl
    have S:StX noX w (r.or s) w11 (.cell b11 [.int .i64 (i:Nat),.int .i64 p.fr.l,.slice none 0 0,.bool p.mu,.int .i64 (f i)] 82::.cell b10 (ptL p z1 z2 z3 z4 z5 t1 t2 t3 t4 t5) 96::[.row vo 82 5 (lnsI g f i).length cs,.cell b8 (grL g x1 x2 x3 (some ⟨bo,oo,none⟩) y1 y2 y3 y4) 101,.cell b5 (rgL d.lv d.pt d.ct (.slice q1 d.tys.length c1) (.slice (some ⟨ba,oa,none⟩) d.at'.length c2)) 74,.cell b3 [.slice p0 u.ss.length cap0,.slice (some ⟨bg,og,none⟩) u.fs.length capf,.int .i64 u.mn] 25]):=S
    refine gg_ ?_
    obtain⟨_,hEf,hfs⟩:=id kf
    cases hEf
    have hin:=ad5 hfs
    obtain⟨_,_,hE5,hq5,_⟩:=hfs.sl.shape
    cases hE5
    have hf8:=hfrp h4
    have S:=S.ownNil 84 1
    refine S.ap (v:=.slice none 0 0) (S.at (Ob.up (s:=r.or s) (adF hfs))) (λv2 w12 S=>?_) (by omega) (by rw[yh];omega) hq5 (aae _)
    rw[List.nil_append,Nat.zero_add]at S
    obtain⟨qn,cn,rfl,_⟩:=S.rowS v2
    refine gg_ ?_
    refine S.st (b:=b11) (λw13 S=>?_) (by simp) rfl
    obtain⟨s1,S,h1,_,a1⟩:=StX.doneRow (l:=p.fr.ps) (R:=xp) (sz:=1) S (Yn hin) (by decide) rfl
    have a1:Above w s1:=λb o ho=>(a1 b o ho).resolve_right id
    have h1:SlB 1 s1 xp (.slice qn p.fr.ps.length cn) p.fr.ps:=SlB.cells ⟨h1,by rw[maxLen];omega⟩
    have S:StX noX w (r.or (s.or s1)) w13 (.cell b11 [.int .i64 (i:Nat),.int .i64 p.fr.l,.slice qn p.fr.ps.length cn,.bool p.mu,.int .i64 (f i)] 82::.cell b10 (ptL p z1 z2 z3 z4 z5 t1 t2 t3 t4 t5) 96::[.row vo 82 5 (lnsI g f i).length cs,.cell b8 (grL g x1 x2 x3 (some ⟨bo,oo,none⟩) y1 y2 y3 y4) 101,.cell b5 (rgL d.lv d.pt d.ct (.slice q1 d.tys.length c1) (.slice (some ⟨ba,oa,none⟩) d.at'.length c2)) 74,.cell b3 [.slice p0 u.ss.length cap0,.slice (some ⟨bg,og,none⟩) u.fs.length capf,.int .i64 u.mn] 25]):=S.reGh
    refine S.ldB (b:=b11) ?_ rfl
    refine S.lit (e:=82) (cs:=[.int .i64 (i:Nat),.int .i64 p.fr.l,.slice qn p.fr.ps.length cn,.bool p.mu,.int .i64 (f i)]) (by kernel_rfl) λb12 w14 S=>?_
    refine S.ap (v:=vo) (m':=1) (Sl.blk (S.blk b12)) (λv15 w15 S=>?_) (by omega)
    have S:=((S.drop b12).drop b11).drop b10
    rw[if_pos h4]at hnx
    refine hK9 _ _ ⟨v15,s.or s1,cs++[.int .i64 (i:Nat),.int .i64 p.fr.l,.slice qn p.fr.ps.length cn,.bool p.mu,.int .i64 (f i)],rfl,ha.or' a1,?_,?_⟩
    ·rw[hnx]
     exact(hrow.mono λc x h=>LnG.up h).snoc rfl ⟨_,rfl,h1.up' inferInstance λ_ _ h=>h⟩
    ·rw[hnx,gla,gls]
     exact S
   ·rw[if_neg h4,List.append_nil]at hnx
    refine hK9 _ _ ⟨vo,s,cs,rfl,ha,by rw[hnx];exact hrow,?_⟩
    rw[hnx];exact S.tl
  ·repeat clear S
   rintro _ w20 ⟨vo',s',cs',rfl,ha',hrow',S⟩ d1
   simp only[gdz]
   refine qX (by omega) ?_
   exact hK5 (i+1,vo') _ ⟨s',cs',hlti,ha',hrow',S⟩ (by show g.pts.length-(i+1)<g.pts.length-i;omega)
 ·have hie:i=g.pts.length:=by omega
  subst hie
  obtain⟨s9,S,hs9,_,a9⟩:=S.doneRow hrow (by decide) rfl
  have a9:Above w s9:=λb o ho=>(a9 b o ho).resolve_right id
  have T:StX noX w (r.or (s.or s9)) w5 []:=S.reGh.less (λb o h=>h) (List.nil_sublist _)
  exact h vo (s.or s9) w5 T.ext (StX.newOf T (ha.or' a9)) (hs9.up' inferInstance λ_ _ h=>LnG.up h)
theorem agz{K:Value→World→Prop}(hr:Holds r w)(hu:UnG r v u)(F:IsF u fn g)(hp:PlG r c p)(hs:(zm u.ss g.tys p).2.2=true)
  (h:∀w',Ext w w'→K (.bool (yw u.ss (zm u.ss g.tys p).1).1) w'):zd Tryz.prog Tryz.YE #[v,.int .i64 fn,.agg c.toArray] w K:=by
 refine Tryz.aeY ?_
 unfold Tryz.VH
 have hu0:=hu
 obtain⟨p0,cap0,vf,rfl,_,_,hst,hsl,hfn⟩:=hu
 obtain⟨hlt,hge⟩:=List.getElem?_eq_some_iff.1 F.at'
 have hp0:=hp
 obtain⟨vp,rfl,hps⟩:=hp
 obtain⟨qs,caps,rfl,_,_⟩:=hps.sl.shape
 have S:=St.start hr
 refine S.box λb3 w1 S=>?_
 refine S.box λb5 w2 S=>?_
 have S:StX noX w r w2 [.cell b5 [.int .i64 p.l,.slice qs p.ps.length caps] 80,.cell b3 [.slice p0 u.ss.length cap0,vf,.int .i64 u.mn] 25]:=S
 refine S.ldB (b:=b3) ?_ rfl
 refine S.ldB (b:=b5) ?_ rfl
 refine agy S.holds hu0 F.may F.fn0 hlt hp0 (λw3 hno _=>by rw[hge]at hno;rw[hno]at hs;cases hs) λt m v' vg s w3 hsp e3 n3 ht _=>?_
 rw[hge]at hsp
 obtain⟨S,_,_⟩:=S.tell e3 n3
 have ht0:=ht
 obtain⟨p',cap',rfl,_⟩:=ht
 refine gS_ ?_
 refine S.al λb7 w4 S=>?_
 refine S.stB (b:=b7) λw5 S=>?_
 refine gg_ ?_
 have h8:∀k,(ze u.ss k).length≤8:=λk=>xV (yU F.may.ok).2.1 k
 have h32:u.ss.length≤32:=(yU F.may.ok).1
 refine Vy S.holds (RepS.up hst) (by omega) (λk=>by have:=h8 k;omega) ht0 λw6 e6=>?_
 have S:=S.go e6
 have hT:t=(zm u.ss g.tys p).1:=by rw[hsp]
 rw[← hT]at h
 refine gp_ ?_
 refine gp_ ?_
 exact h _ S.ext
theorem ak1(F:IsF u fn g)(hf:xz u.ss g.tys)(h:(zm u.ss g.tys p).2.2=true):qB u.ss g.tys p=(zm u.ss g.tys p).1:=by
 obtain⟨_,hl,x,hx,hs⟩:=(QC F.may.ok hf).1 h
 rw[hs,qB,ggd,gqg hl]
 show(yx u.ss [g.tys[p.l.toNat]] ⟨0,p.ps⟩).1=x.1
 rw[yx,hx]
theorem ak2{p:PtD}:(refOps p).flatMap xi=(p.a::p.b::p.args).flatMap xi:=by
 have h0:∀o:OpD,o.k=0→xi o=[]:=λo h=>by rw[xi,X0,h];rfl
 rw[refOps,List.flatMap_append,List.flatMap_append,List.flatMap_cons,List.flatMap_cons,List.append_assoc]
 congr 1
 ·split
  ·rw[List.flatMap_singleton]
  ·rename_i h;rw[h0 _ (Classical.not_not.1 h)];rfl
 ·congr 1
  split
  ·rw[List.flatMap_singleton]
  ·rename_i h;rw[h0 _ (Classical.not_not.1 h)];rfl
def LkV(w0:World)(r:Gh)(M:List Asr)(l:List AcD)(v:Value)(w:World):Prop:=
 ∃s cs,Above w0 s∧RowOf 4 (AcG s) cs l∧StX noX w0 (r.or s) w (.row v 88 4 l.length cs::M)
theorem Zd{w0:World}{a:AcD}{K:Value→World→Prop}(J:LkV w0 r M l v w)(hp:PlG r c a.pl)(hb:a.pl.ps.length≤1000000)(hl:l.length≤999999)
  (h:∀v' w',LkV w0 r M (l++[a]) v' w'→K v' w'):
  zd Tryz.prog Tryz.yG #[.agg c.toArray,.int .u8 a.d,.bool a.wr] w λt58 w19=>Tryz.pw w19 (Instr.buildSlice 69 1 #[(0,t58)]) λt59 w20=>Tryz.pw w20 (Builtin.append_ #[69,69] 69 #[v,t59]) λt60 w21=>K t60 w21:=by
 obtain⟨s,cs,ha,hR,S⟩:=J
 refine afd (p:=a.pl) (r:=r.or s) S.holds ?_ hb λca s1 w1 e1 n1 hc=>?_
 ·obtain⟨vp,rfl,hps⟩:=hp
  exact⟨_,rfl,hps.up' inferInstance λ_ _ h=>h⟩
 obtain⟨S,_,a1⟩:=S.tell e1 n1
 have hc:AcG s1 ca a:=hc
 have hc0:=hc
 obtain⟨va,rfl,has⟩:=hc
 obtain⟨qa,ka,rfl,_,_⟩:=has.sl.shape
 refine S.lit (e:=88) (cs:=[.int .i64 a.pl.l,.slice qa a.pl.ps.length ka,.int .u8 a.d,.bool a.wr]) (by kernel_rfl) λb5 w3 S=>?_
 refine S.ap (v:=v) (m':=1) (Sl.blk (S.blk b5)) (λv4 w4 S=>?_) (by omega)
 refine h v4 w4 ⟨s.or s1,cs++[.int .i64 a.pl.l,.slice qa a.pl.ps.length ka,.int .u8 a.d,.bool a.wr],ha.or' a1,(hR.mono λc x h=>AcG.up h).snoc rfl hc0.up,?_⟩
 have S:=(S.drop b5).reGh
 rw[gla,gls]
 exact S
theorem LkV.go{w0 w':World}(J:LkV w0 r M l v w)(e:Ext w w'):LkV w0 r M l v w':=by
 obtain⟨s,cs,ha,hR,S⟩:=J
 exact⟨s,cs,ha,hR,S.go e⟩
theorem agA{q:Int}{p:PtD}{K:Value→World→Prop}(hr:Holds r w)(hu:UnG r v u)(F:IsF u fn g)(hq0:0≤q)(hq:q.toNat<g.pts.length)(hpe:g.pts[q.toNat]=p)
  (h:∀v' s w',Ext w w'→New w s w'→SlG 4 s (AcG s) v' (lksA u g p)→K v' w'):zd Tryz.prog Tryz.YD #[v,.int .i64 fn,.int .i64 q] w K:=by
 refine Tryz.aeX ?_
 unfold Tryz.VG
 have hu0:=hu
 obtain⟨p0,cap0,vf,rfl,_,_,hst,hsl,hfn⟩:=hu
 obtain⟨qf,capf,rfl,_,_⟩:=hfn.sl.shape
 obtain⟨hlt,hge⟩:=List.getElem?_eq_some_iff.1 F.at'
 have hfn0:=F.fn0
 have hpm:=F.pts p (hpe▸gem hq)
 have hH:=ad7 F.may F.head hpm
 obtain⟨bg,og,cg,hqg,hclg,hgc,hgo⟩:=hfn.sl.get (by decide) hlt
 rw[hge]at hgc
 obtain⟨x1,x2,x3,x4,y1,y2,y3,y4,rfl,hgc0⟩:=abe hgc
 obtain⟨_,_,_,_,hE,m1,m2,m3,m4⟩:=id hgc0
 cases hE
 cases hqg
 obtain⟨bo,oo,co,hqo,hcl,hoc,hoo⟩:=m4.sl.get (by decide) hq
 rw[hpe]at hoc
 obtain⟨z1,z2,z3,z4,z5,t1,t2,t3,t4,t5,rfl,hp0⟩:=xm hoc
 obtain⟨kto,ka,kb,kl,kf⟩:=js hp0
 cases hqo
 have S:=St.start hr
 refine S.box λb3 w1 S=>?_
 have S:StX noX w r w1 [.cell b3 [.slice p0 u.ss.length cap0,.slice (some ⟨bg,og,none⟩) u.fs.length capf,.int .i64 u.mn] 25]:=S
 refine gg_ ?_
 refine zo (n:=7) rfl (λj v hj=>S.at (hgo j v hj)) ?_
 refine S.al λb7 w3 S=>?_
 refine S.stB (b:=b7) λw4 S=>?_
 have S:StX noX w r w4 [.cell b7 (grL g x1 x2 x3 (some ⟨bo,oo,none⟩) y1 y2 y3 y4) 101,.cell b3 [.slice p0 u.ss.length cap0,.slice (some ⟨bg,og,none⟩) u.fs.length capf,.int .i64 u.mn] 25]:=S
 refine gg_ ?_
 refine zo (n:=21) rfl (λj v hj=>S.at (hoo j v hj)) ?_
 refine S.al λb8 w5 S=>?_
 refine S.stB (b:=b8) λw6 S=>?_
 have S:StX noX w r w6 [.cell b8 (ptL p z1 z2 z3 z4 z5 t1 t2 t3 t4 t5) 96,.cell b7 (grL g x1 x2 x3 (some ⟨bo,oo,none⟩) y1 y2 y3 y4) 101,.cell b3 [.slice p0 u.ss.length cap0,.slice (some ⟨bg,og,none⟩) u.fs.length capf,.int .i64 u.mn] 25]:=S
 refine S.ldB (b:=b8) ?_ rfl
 refine acA S.holds hp0 hH.args λv25 s5 w7 e7 n7 hs5=>?_
 obtain⟨S,_,ha5⟩:=S.tell e7 n7
 have hin:∀o∈refOps p,X0 o=true→o.pl.ps.length≤1000000:=λo ho hpl=>hH.ops o (by
  rw[refOps]at ho
  rcases List.mem_append.1 ho with ho|ho
  ·rcases List.mem_append.1 ho with ho|ho
   ·split at ho
    ·rw[List.mem_singleton]at ho;rw[ho];exact List.mem_cons_self
    ·cases ho
   ·split at ho
    ·rw[List.mem_singleton]at ho;rw[ho];exact List.mem_cons_of_mem _ List.mem_cons_self
    ·cases ho
  ·exact List.mem_cons_of_mem _ (List.mem_cons_of_mem _ ho)) hpl
 have hol:(refOps p).length≤1002:=by
  have:=hH.args
  rw[refOps,gla,gla]
  split<;>split<;>simp only[List.length_cons,List.length_nil]<;>omega
 have hs5:SlG 4 (r.or s5) (OpG (r.or s5)) v25 (refOps p):=hs5.up' inferInstance λ_ _ h=>OpG.up h
 have hLL:lksA u g p=(refOps p).flatMap xi++yY g p++vC u g p:=by rw[ak2];rfl
 rw[hLL]at h
 clear hLL
 generalize refOps p=ops at hs5 hin hol h
 obtain⟨q5,c5,rfl,_,_⟩:=hs5.shape
 have hfr:PlG (r.or s5) [.int .i64 p.fr.l,.slice z5 p.fr.ps.length t5] p.fr:=kf.up
 have hto:PlG (r.or s5) [.int .i64 p.to.l,.slice z1 p.to.ps.length t1] p.to:=kto.up
 have hno:PlG (r.or s5) [.int .i64 0,.slice none 0 0] ⟨0,[]⟩:=⟨_,rfl,SlG.nil,gzl _⟩
 have htl:=hH.tys
 have J:LkV w (r.or s5) [.cell b8 (ptL p z1 z2 z3 z4 z5 t1 t2 t3 t4 t5) 96,.cell b7 (grL g x1 x2 x3 (some ⟨bo,oo,none⟩) y1 y2 y3 y4) 101,.cell b3 [.slice p0 u.ss.length cap0,.slice (some ⟨bg,og,none⟩) u.fs.length capf,.int .i64 u.mn] 25] [] (.slice none 0 0) w7:=
  ⟨nothing,[],Above.no,RowOf.nil,(S.ownNil 88 4).less (λb o h=>Or.elim h id λh=>h.elim) (List.Sublist.refl _)⟩
 clear S
 refine zj (ι:=Nat×Value) (λi=>[i.2,.int .i64 (i.1:Nat)]) (λi w'=>i.1≤ops.length∧LkV w (r.or s5) [.cell b8 (ptL p z1 z2 z3 z4 z5 t1 t2 t3 t4 t5) 96,.cell b7 (grL g x1 x2 x3 (some ⟨bo,oo,none⟩) y1 y2 y3 y4) 101,.cell b3 [.slice p0 u.ss.length cap0,.slice (some ⟨bg,og,none⟩) u.fs.length capf,.int .i64 u.mn] 25] ((ops.take i.1).flatMap xi) i.2 w') (λi=>ops.length-i.1) (0,.slice none 0 0) rfl ⟨gzl _,J⟩ ?_
 clear J
 rintro⟨i,vi⟩ d0 w8 ⟨hi,J⟩ K7 hK7
 simp only at hi J⊢
 simp only[gdz,gds]
 refine gg_ ?_
 refine zh (λhlti=>?_) (λhgei=>?_)
 ·have hlti:i<ops.length:=by omega
  obtain⟨bq,oq,cq,hqq,hclq,hoq,hooq⟩:=hs5.get (by decide) hlti
  have hnx:(ops.take (i+1)).flatMap xi=(ops.take i).flatMap xi++xi ops[i]:=by rw[List.take_succ_eq_append_getElem hlti,List.flatMap_append,List.flatMap_singleton]
  have hino:=hin ops[i] (gem hlti)
  have hfew:=X8 (l:=ops.take i)
  rw[List.length_take]at hfew
  generalize ops[i]=o at hoq hnx hino
  obtain⟨qo,ko,rfl⟩:=aeI hoq
  obtain⟨_,hE,hops⟩:=hoq
  cases hE
  cases hqq
  refine zk (λx w'=>∃v',x=[v']∧LkV w (r.or s5) [.cell b8 (ptL p z1 z2 z3 z4 z5 t1 t2 t3 t4 t5) 96,.cell b7 (grL g x1 x2 x3 (some ⟨bo,oo,none⟩) y1 y2 y3 y4) 101,.cell b3 [.slice p0 u.ss.length cap0,.slice (some ⟨bg,og,none⟩) u.fs.length capf,.int .i64 u.mn] 25] ((ops.take (i+1)).flatMap xi) v' w') (λK11 hK11=>?_) ?_
  ·obtain⟨s,cs,ha,hR,S⟩:=id J
   refine gg_ ?_
   refine zf (by rw[tnc];exact S.at (Ob.up (s:=(r.or s5).or s) (hooq 0 _ rfl))) ?_
   refine gp_ ?_
   refine zn (c:=decide (o.k=4)) (λ_ K2 hK2=>?_) ?_
   ·refine gg_ ?_
    refine zf (by rw[tnc];exact S.at (Ob.up (s:=(r.or s5).or s) (hooq 0 _ rfl))) ?_
    refine gp_ ?_
    exact hK2
   refine c_b (λhb=>?_) (λhb=>?_)
   ·have hb:X0 o=true:=hb
    have J:=J.go (Ext.drew _)
    have S:=S.go (Ext.drew _)
    refine gg_ ?_
    refine zo (n:=2) (c:=[.int .i64 o.pl.l,.slice qo o.pl.ps.length ko]) rfl (λj v hj=>by rw[tnc,Nat.add_assoc,Nat.add_comm 2 j];exact S.at (Ob.up (s:=(r.or s5).or s) (hooq (j+2) v hj))) ?_
    refine gg_ ?_
    refine zf (by rw[tnc];exact S.at (Ob.up (s:=(r.or s5).or s) (hooq 0 _ rfl))) ?_
    refine gp_ ?_
    refine Zd (a:=⟨o.pl,3,decide (o.k=4)⟩) J ⟨_,rfl,hops⟩ (hino hb) (by omega) λv9 w9 J=>?_
    refine hK11 _ _ ⟨v9,rfl,?_⟩
    rw[hnx,xi,if_pos hb]
    exact J
   ·have hb:X0 o=false:=hb
    refine hK11 _ _ ⟨vi,rfl,?_⟩
    rw[hnx,xi,if_neg (by rw[hb];decide),List.append_nil]
    exact J
  ·clear J
   rintro _ w10 ⟨v',rfl,J⟩ d
   simp only[gdz]
   refine qX (by omega) ?_
   exact hK7 (i+1,v') _ ⟨hlti,J⟩ (by show ops.length-(i+1)<ops.length-i;omega)
 have hie:i=ops.length:=by omega
 subst hie
 clear hK7 K7 hgei hi d0
 rw[List.take_length]at J
 have hA:(ops.flatMap xi).length≤1002:=Nat.le_trans X8 hol
 generalize ops.flatMap xi=A at J hA h
 clear hs5 hin hol
 refine zk (λx w'=>∃v',x=[v']∧LkV w (r.or s5) [.cell b8 (ptL p z1 z2 z3 z4 z5 t1 t2 t3 t4 t5) 96,.cell b7 (grL g x1 x2 x3 (some ⟨bo,oo,none⟩) y1 y2 y3 y4) 101,.cell b3 [.slice p0 u.ss.length cap0,.slice (some ⟨bg,og,none⟩) u.fs.length capf,.int .i64 u.mn] 25] (A++yY g p) v' w') (λK22 hK22=>?_) ?_
 ·obtain⟨s,cs,ha,hR,S⟩:=id J
  refine gg_ ?_
  refine zh (λh4=>?_) (λh4=>?_)
  ·have hsw:yY g p=[⟨p.fr,3,p.mu⟩]:=by rw[yY,if_pos h4]
   rw[hsw]at hK22
   refine gg_ ?_
   refine S.ldN (b:=b8) (vs:=[.int .i64 p.fr.l,.slice z5 p.fr.ps.length t5]) ?_
   refine gg_ ?_
   refine Zd (a:=⟨p.fr,3,p.mu⟩) J hfr (hH.fr (.inl h4)) (by omega) λv9 w9 J=>?_
   exact hK22 _ _ ⟨v9,rfl,J⟩
  refine gg_ ?_
  refine zk (λx w'=>x=[.bool (decide (p.op=10)||decide (p.op=11))]∧w'=w8) (λK26 hK26=>?_) ?_
  ·refine gg_ ?_
   refine zh (λh10=>?_) (λh10=>?_)
   ·refine hK26 _ _ ⟨?_,rfl⟩
    rw[gde h10];rfl
   ·refine gg_ ?_
    refine hK26 _ _ ⟨?_,rfl⟩
    rw[decide_eq_false h10];rfl
  rintro _ _ ⟨rfl,rfl⟩ d
  rw[gdz]
  refine c_b (λh1=>?_) (λh1=>?_)
  ·have h1:p.op=10∨p.op=11:=by simpa using h1
   have hsw:yY g p=[⟨p.fr,2,true⟩]:=by rw[yY,if_neg h4,if_pos h1]
   rw[hsw]at hK22
   refine gg_ ?_
   refine S.ldN (b:=b8) (vs:=[.int .i64 p.fr.l,.slice z5 p.fr.ps.length t5]) ?_
   refine Zd (a:=⟨p.fr,2,true⟩) J hfr (hH.fr (.inr h1)) (by omega) λv9 w9 J=>?_
   exact hK22 _ _ ⟨v9,rfl,J⟩
  have h1:¬(p.op=10∨p.op=11):=by simpa using h1
  refine gg_ ?_
  refine zh (λh14=>?_) (λh14=>?_)
  ·have hsw:yY g p=⟨⟨0,[]⟩,3,true⟩::YN (g.tys.length-1):=by rw[yY,if_neg h4,if_neg h1,if_pos h14]
   rw[hsw]at hK22
   have hty1:=hH.ret h14
   refine gg_ ?_
   refine Zd (a:=⟨⟨0,[]⟩,3,true⟩) J hno (gzl _) (by omega) λv9 w9 J=>?_
   refine zj (ι:=Nat×Value) (λi=>[i.2,.int .i64 ((i.1+1:Nat):Int)]) (λi w'=>i.1≤g.tys.length-1∧LkV w (r.or s5) [.cell b8 (ptL p z1 z2 z3 z4 z5 t1 t2 t3 t4 t5) 96,.cell b7 (grL g x1 x2 x3 (some ⟨bo,oo,none⟩) y1 y2 y3 y4) 101,.cell b3 [.slice p0 u.ss.length cap0,.slice (some ⟨bg,og,none⟩) u.fs.length capf,.int .i64 u.mn] 25] (A++(⟨⟨0,[]⟩,3,true⟩::YN i.1)) i.2 w') (λi=>g.tys.length-1-i.1) (0,v9) rfl ⟨gzl _,J⟩ ?_
   clear J S
   rintro⟨j,vj⟩ d2 w10 ⟨hj,J⟩ K5 hK5
   simp only at hj J⊢
   simp only[gdz,gds]
   obtain⟨s',cs',_,_,S⟩:=id J
   refine gg_ ?_
   refine zh (λhltj=>?_) (λhgej=>?_)
   ·have hltj:j<g.tys.length-1:=by omega
    refine gg_ ?_
    have hli:=X9 (n:=j)
    refine Zd (a:=⟨⟨(j:Int)+1,[]⟩,2,true⟩) J ⟨_,rfl,SlG.nil,gzl _⟩ (gzl _) (by rw[gla,List.length_cons];omega) λv11 w11 J=>?_
    refine qX (by omega) ?_
    refine hK5 (j+1,v11) _ ⟨hltj,?_⟩ (by show g.tys.length-1-(j+1)<g.tys.length-1-j;omega)
    show LkV w (r.or s5) [.cell b8 (ptL p z1 z2 z3 z4 z5 t1 t2 t3 t4 t5) 96,.cell b7 (grL g x1 x2 x3 (some ⟨bo,oo,none⟩) y1 y2 y3 y4) 101,.cell b3 [.slice p0 u.ss.length cap0,.slice (some ⟨bg,og,none⟩) u.fs.length capf,.int .i64 u.mn] 25] (A++(⟨⟨0,[]⟩,3,true⟩::YN (j+1))) v11 w11
    rw[afN]
    simpa only[List.append_assoc,List.cons_append]using J
   ·have hje:j=g.tys.length-1:=by omega
    rw[hje]at J
    exact hK22 _ _ ⟨vj,rfl,J⟩
  ·have hsw:yY g p=[]:=by rw[yY,if_neg h4,if_neg h1,if_neg h14]
   rw[hsw,List.append_nil]at hK22
   exact hK22 _ _ ⟨vi,rfl,J⟩
 clear J
 rintro _ w12 ⟨v12,rfl,J⟩ d
 rw[gdz]
 have hsl:(yY g p).length≤900000:=by
  rw[yY]
  split
  ·simp
  ·split
   ·simp
   ·split
    ·rw[List.length_cons,X9];have:=hH.ret (by assumption);omega
    ·simp
 have hB:(A++yY g p).length≤901002:=by rw[gla];omega
 generalize A++yY g p=B at J hB h
 have hu5:UnG (r.or s5) (.agg #[.slice p0 u.ss.length cap0,.slice (some ⟨bg,og,none⟩) u.fs.length capf,.int .i64 u.mn]) u:=UnG.up hu0
 have hp5:PtG (r.or s5) (ptL p z1 z2 z3 z4 z5 t1 t2 t3 t4 t5) p:=PtG.up hp0
 refine zk (λx w'=>∃v',x=[v']∧LkV w (r.or s5) [.cell b8 (ptL p z1 z2 z3 z4 z5 t1 t2 t3 t4 t5) 96,.cell b7 (grL g x1 x2 x3 (some ⟨bo,oo,none⟩) y1 y2 y3 y4) 101,.cell b3 [.slice p0 u.ss.length cap0,.slice (some ⟨bg,og,none⟩) u.fs.length capf,.int .i64 u.mn] 25] (B++vC u g p) v' w') (λK46 hK46=>?_) ?_
 ·obtain⟨s,cs,ha,hR,S⟩:=id J
  refine S.ldB (b:=b8) ?_ rfl
  refine QE (S.holds.le (h:=inferInstance)) hp5 λw13 e13=>?_
  have S:=S.go e13
  have J:=J.go e13
  have hag:(decide (1≤p.op)&&decide (p.op≤8))=acB p:=rfl
  rw[hag]
  refine c_b (λhy=>?_) (λhn=>?_)
  ·obtain⟨g0,g1',g2⟩:=hH.to' hy
   have hag2:1≤p.op∧p.op≤8:=by rw[acB,gba,gdt,gdt]at hy;exact hy
   have hsp:=ahC hpm hag2
   have hgm:g∈u.fs:=hge▸gem hlt
   have hT:=ak1 F (F.may.fine hgm) hsp
   have hasA:vC u g p=[⟨p.to,if (yw u.ss (zm u.ss g.tys p.to).1).1=true then 2 else 1,true⟩]:=by rw[vC,if_pos hy,hT]
   rw[hasA]at hK46
   refine zk (λx w'=>x=[.int .u8 (if(yw u.ss (zm u.ss g.tys p.to).1).1=true then 2 else 1)]∧Ext w13 w') (λK51 hK51=>?_) ?_
   ·refine S.ldB (b:=b3) ?_ rfl
    refine gg_ ?_
    refine S.ldN (b:=b8) (vs:=[.int .i64 p.to.l,.slice z1 p.to.ps.length t1]) ?_
    refine agz (S.holds.le (h:=inferInstance)) hu5 F hto hsp λw14 e14=>?_
    refine c_b (λhb=>?_) (λhb=>?_)
    ·refine hK51 _ _ ⟨?_,e14⟩
     rw[if_pos hb]
    ·refine hK51 _ _ ⟨?_,e14⟩
     rw[if_neg (by rw[hb];decide)]
   ·rintro _ w15 ⟨rfl,e15⟩ d
    rw[gdz]
    have S:=S.go e15
    have J:=J.go e15
    refine gg_ ?_
    refine S.ldN (b:=b8) (vs:=[.int .i64 p.to.l,.slice z1 p.to.ps.length t1]) ?_
    refine Zd (a:=⟨p.to,if (yw u.ss (zm u.ss g.tys p.to).1).1=true then 2 else 1,true⟩) J hto g2 (by omega) λv16 w16 J=>?_
    exact hK46 _ _ ⟨v16,rfl,J⟩
  ·refine hK46 _ _ ⟨v12,rfl,?_⟩
   rw[vC,if_neg (by rw[hn];decide),List.append_nil]
   exact J
 ·clear J
  rintro _ w17 ⟨v17,rfl,s,cs,ha,hR,S⟩ d
  rw[gdz]
  obtain⟨s9,S,hs9,_,a9⟩:=S.doneRow hR (by decide) rfl
  have a9:Above w s9:=λb o ho=>(a9 b o ho).resolve_right id
  have T:StX noX w (r.or ((s5.or s).or s9)) w17 []:=S.less (λb o h=>Or.elim h (λh=>.inl (.inl (.inl h))) λh=>Or.elim h (λh=>Or.elim h (λh=>.inl (.inl (.inr h))) λh=>.inl (.inr h)) .inr) (List.nil_sublist _)
  exact h v17 ((s5.or s).or s9) w17 T.ext (StX.newOf T ((ha5.or' ha).or' a9)) (hs9.up' inferInstance λ_ _ h=>AcG.up h)
end
end Go.Proofs
namespace Go.Proofs
open Go.Sh Go.RowKit Go.BM
def aaX(g:GrD)(x:LnD)(ws rs:List (BitVec 64)):Prop:=
 (∀p∈xq g x.q,bit ws p.toNat=true→bit rs p.toNat=true)∧∀q:Int,0≤q→q<g.pts.length→bit rs q.toNat=true→qD g x q=false→∀p∈xq g q,bit ws p.toNat=true→bit rs p.toNat=true
end Go.Proofs
namespace Go.Sh
theorem StX.any{X:Nat→Prop}{w0 w:World}{r:Gh}{L:List Asr}(S:StX X w0 r w L):∃σ,σ=r∧StX X w0 σ w L:=⟨r,rfl,S⟩
end Go.Sh
namespace Go.Proofs.Tryz
open Go.Sh
section
variable {w:World} {K:VW} {t0:Value}
def QK(t0 t1 t2:Value)(w:World)(K:VW):Prop:=
 pw w (Instr.box 25 t0) λt3 w1=>
 lo w1 25 t3 λt26=>ca XA #[t26] w1 λt27 w2=>
 pp (Op.unary .not t27) λt28=>zc t28 (ca kh #[] w2 λt29 w3=>
 K t29 w3) (lo w2 25 t3 λt31=>ca vI #[t31,t1] w2 λt33 w4=>
 pe t33 0 λt34=>pe t33 1 λt35=>lo w4 25 t3 λt37=>ca vI #[t37,t1] w4 λt39 w5=>
 pe t39 0 λt40=>pe t39 1 λ_t41=>lo w5 25 t3 λt43=>ca jl #[t43,t1,t2] w5 λt46 w6=>
 pe t46 0 λt47=>pe t46 1 λt48=>lo w6 25 t3 λt50=>ca jm #[t50,t1,t2] w6 λt53 w7=>
 pe t53 0 λt54=>pe t53 1 λt55=>lo w7 25 t3 λt57=>ca Y5 #[t57,t1,(i6 (-1))] w7 λt59 w8=>
 pe t59 0 λt60=>pe t59 1 λt61=>pw w8 (Instr.alloc 74 true (.tuple #[])) λt15 w9=>
 so w9 74 t15 t60 λw10=>bf .neq 3 t35 t61 λt64=>zc t64 (K fa_ w10) (za (λK11=>
 bt .eql 3 t61 (i6 0) λt66=>zc t66 (lo w10 25 t3 λt67=>lo w10 74 t15 λt69=>ca QR #[t67,t1,t69] w10 λt70 w15=>
 K11 [t70] w15) (K11 [(Value.slice Option.none 0 0)] w10)) (λs12 _d13 w14=>
 pp (Builtin.len_ #[66] 3 #[t34]) λt72=>pp (Builtin.len_ #[66] 3 #[(s12.getD 0 u_)]) λt74=>bf .neq 3 t72 t74 λt75=>za (λK16=>gIf t75 false (pp (Builtin.len_ #[66] 3 #[t40]) λt78=>pp (Builtin.len_ #[66] 3 #[(s12.getD 0 u_)]) λt80=>bf .neq 3 t78 t80 λt81=>K16 [t81] w14) (K16 [u_] w14)) (λs17 _d18 w19=>
 zb t75 tr_ (s17.getD 0 u_) λt82=>zc t82 (K fa_ w19) (zp [(i6 0)] w19 (λs21 _d22 w23 K20=>
 pp (Builtin.len_ #[66] 3 #[t34]) λt85=>bf .lss 3 (s21.getD 0 u_) t85 λt86=>zc t86 (za (λK24=>
 xl w23.drew 66 t34 (s21.getD 0 u_) 82 λt92=>px 66 (s12.getD 0 u_) (s21.getD 0 u_) λt95=>((pw w23.drew (Instr.loadAt 82 t95) λt96 w28=>
 Ext w23.drew w28∧
 ((pw w28 (Instr.alloc 82 true (.tuple #[])) λt19 w29=>
 Ext w28 w29∧
 pw w29 (Instr.alloc 82 true (.tuple #[])) λt20 w30=>
 Ext w29 w30∧
 so w30 82 t19 t92 λw31=>so w31 82 t20 t96 λw32=>K24 [t19,t20] w32)∧
 (pw w28 (Instr.alloc 82 true (.tuple #[])) λt20_34 w33=>
 Ext w28 w33∧
 pw w33 (Instr.alloc 82 true (.tuple #[])) λt19_36 w35=>
 Ext w33 w35∧
 so w35 82 t19_36 t92 λw37=>so w37 82 t20_34 t96 λw38=>K24 [t19_36,t20_34] w38)))∧
 (((pw w23.drew (Instr.alloc 82 true (.tuple #[])) λt19_40 w39=>
 Ext w23.drew w39∧
 ((pw w39 (Instr.loadAt 82 t95) λt96_42 w41=>
 Ext w39 w41∧
 pw w41 (Instr.alloc 82 true (.tuple #[])) λt20_44 w43=>
 Ext w41 w43∧
 so w43 82 t19_40 t92 λw45=>so w45 82 t20_44 t96_42 λw46=>K24 [t19_40,t20_44] w46)∧
 (pw w39 (Instr.alloc 82 true (.tuple #[])) λt20_48 w47=>
 Ext w39 w47∧
 ((pw w47 (Instr.loadAt 82 t95) λt96_50 w49=>
 Ext w47 w49∧
 so w49 82 t19_40 t92 λw51=>so w51 82 t20_48 t96_50 λw52=>K24 [t19_40,t20_48] w52)∧
 (so w47 82 t19_40 t92 λw53=>pw w53 (Instr.loadAt 82 t95) λt96_55 w54=>
 Ext w53 w54∧
 so w54 82 t20_48 t96_55 λw56=>K24 [t19_40,t20_48] w56)))))∧
 (pw w23.drew (Instr.alloc 82 true (.tuple #[])) λt20_58 w57=>
 Ext w23.drew w57∧
 ((pw w57 (Instr.loadAt 82 t95) λt96_60 w59=>
 Ext w57 w59∧
 pw w59 (Instr.alloc 82 true (.tuple #[])) λt19_62 w61=>
 Ext w59 w61∧
 so w61 82 t19_62 t92 λw63=>so w63 82 t20_58 t96_60 λw64=>K24 [t19_62,t20_58] w64)∧
 (pw w57 (Instr.alloc 82 true (.tuple #[])) λt19_66 w65=>
 Ext w57 w65∧
 ((pw w65 (Instr.loadAt 82 t95) λt96_68 w67=>
 Ext w65 w67∧
 so w67 82 t19_66 t92 λw69=>so w69 82 t20_58 t96_68 λw70=>K24 [t19_66,t20_58] w70)∧
 (so w65 82 t19_66 t92 λw71=>pw w71 (Instr.loadAt 82 t95) λt96_73 w72=>
 Ext w71 w72∧
 so w72 82 t20_58 t96_73 λw74=>K24 [t19_66,t20_58] w74))))))))) (λs25 _d26 w27=>
 fl w27 (s25.getD 0 u_) 82 0 3 λt98=>fl w27 (s25.getD 1 u_) 82 0 3 λt100=>bf .neq 3 t98 t100 λt101=>za (λK75=>gIf t101 false (fl w27 (s25.getD 0 u_) 82 2 4 λt104=>fl w27 (s25.getD 1 u_) 82 2 4 λt106=>bf .neq 4 t104 t106 λt107=>K75 [t107] w27) (K75 [u_] w27)) (λs76 _d77 w78=>
 zb t101 tr_ (s76.getD 0 u_) λt108=>za (λK79=>gIf t108 false (fl w78 (s25.getD 0 u_) 82 3 3 λt111=>fl w78 (s25.getD 1 u_) 82 3 3 λt113=>bf .neq 3 t111 t113 λt114=>K79 [t114] w78) (K79 [u_] w78)) (λs80 _d81 w82=>
 zb t108 tr_ (s80.getD 0 u_) λt115=>za (λK83=>gIf t115 false (fl w82 (s25.getD 0 u_) 82 1 80 λt118=>fl w82 (s25.getD 1 u_) 82 1 80 λt120=>ca jk #[t118,t120] w82 λt121 w87=>
 pp (Op.unary .not t121) λt122=>K83 [t122] w87) (K83 [u_] w82)) (λs84 _d85 w86=>
 zb t115 tr_ (s84.getD 0 u_) λt123=>zc t123 (K fa_ w86) (zp [(i6 0)] w86 (λs89 _d90 w91 K88=>
 pf 82 (s25.getD 0 u_) 1 λt125=>fl w91 t125 80 1 78 λt127=>pp (Builtin.len_ #[78] 3 #[t127]) λt128=>bf .lss 3 (s89.getD 0 u_) t128 λt129=>zc t129 (pf 82 (s25.getD 0 u_) 1 λt132=>fl w91 t132 80 1 78 λt134=>px 78 t134 (s89.getD 0 u_) λt136=>so w91 84 t136 (i6 9) λw92=>bt .add 3 (s89.getD 0 u_) (i6 1) λt131=>K88 [t131] w92) (px 66 t40 (s21.getD 0 u_) λt139=>fl w91.drew t139 82 1 80 λt141=>fl w91.drew (s25.getD 1 u_) 82 1 80 λt143=>ca jk #[t141,t143] w91.drew λt144 w93=>
 pp (Op.unary .not t144) λt145=>zc t145 (K fa_ w93) (bt .add 3 (s21.getD 0 u_) (i6 1) λt88=>K20 [t88] w93))))))))) (za (λK94=>
 bt .lss 3 t2 (i6 0) λt147=>zc t147 (K94 [(i6 2)] w23) (lo w23 25 t3 λt149=>ca Y5 #[t149,t1,t2] w23 λt152 w98=>
 pe t152 0 λ_t153=>pe t152 1 λt154=>K94 [t154] w98)) (λs95 _d96 w97=>
 bf .neq 3 t48 (s95.getD 0 u_) λt157=>za (λK99=>gIf t157 false (bf .neq 3 t55 (s95.getD 0 u_) λt161=>K99 [t161] w97) (K99 [u_] w97)) (λs100 _d101 w102=>
 zb t157 tr_ (s100.getD 0 u_) λt162=>zc t162 (K fa_ w102) (bt .neq 3 (s95.getD 0 u_) (i6 0) λt164=>zc t164 (pp (Builtin.len_ #[69] 3 #[t47]) λt166=>bt .eql 3 t166 (i6 0) λt167=>za (λK103=>gIf t167 true (pp (Builtin.len_ #[55] 3 #[t54]) λt170=>bt .eql 3 t170 (i6 0) λt171=>K103 [t171] w102) (K103 [u_] w102)) (λs104 _d105 w106=>
 zb t167 (s104.getD 0 u_) fa_ λt172=>za (λK107=>gIf t172 true (ca kh #[] w106 λt174 w111=>
 K107 [t174] w111) (K107 [u_] w106)) (λs108 _d109 w110=>
 zb t172 (s108.getD 0 u_) fa_ λt175=>K t175 w110))) (lo w102 25 t3 λt176=>ca YD #[t176,t1,t2] w102 λt179 w112=>
 pp (Builtin.len_ #[69] 3 #[t47]) λt181=>pp (Builtin.len_ #[69] 3 #[t179]) λt183=>bf .neq 3 t181 t183 λt184=>zc t184 (K fa_ w112) (zp [(i6 0)] w112 (λs114 _d115 w116 K113=>
 pp (Builtin.len_ #[69] 3 #[t47]) λt187=>bf .lss 3 (s114.getD 0 u_) t187 λt188=>zc t188 (px 69 t47 (s114.getD 0 u_) λt193=>fl w116.drew t193 88 1 86 λt195=>px 69 t179 (s114.getD 0 u_) λt198=>fl w116.drew t198 88 1 86 λt200=>bf .neq 86 t195 t200 λt201=>za (λK117=>gIf t201 false (px 69 t47 (s114.getD 0 u_) λt205=>fl w116.drew t205 88 2 4 λt207=>px 69 t179 (s114.getD 0 u_) λt210=>fl w116.drew t210 88 2 4 λt212=>bf .neq 4 t207 t212 λt213=>K117 [t213] w116.drew) (K117 [u_] w116.drew)) (λs118 _d119 w120=>
 zb t201 tr_ (s118.getD 0 u_) λt214=>za (λK121=>gIf t214 false (px 69 t47 (s114.getD 0 u_) λt218=>fl w120 t218 88 0 80 λt220=>px 69 t179 (s114.getD 0 u_) λt223=>fl w120 t223 88 0 80 λt225=>ca jk #[t220,t225] w120 λt226 w125=>
 pp (Op.unary .not t226) λt227=>K121 [t227] w125) (K121 [u_] w120)) (λs122 _d123 w124=>
 zb t214 tr_ (s122.getD 0 u_) λt228=>zc t228 (K fa_ w124) (bt .add 3 (s114.getD 0 u_) (i6 1) λt190=>K113 [t190] w124)))) (zp [(i6 0),(i6 0)] w116 (λs127 _d128 w129 K126=>
 pp (Builtin.len_ #[66] 3 #[(s12.getD 0 u_)]) λt231=>bf .lss 3 (s127.getD 1 u_) t231 λt232=>zc t232 (za (λK130=>
 fl w129.drew t3 25 1 23 λt236=>px 23 t236 t1 λt238=>fl w129.drew t238 101 6 99 λt240=>xl w129.drew 99 t240 t2 96 λt243=>xl w129.drew 66 (s12.getD 0 u_) (s127.getD 1 u_) 82 λt247=>ca ZQ #[t243,t247] w129.drew λt248 w134=>
 zc t248 (pp (Builtin.len_ #[55] 3 #[t54]) λt251=>bf .geq 3 (s127.getD 0 u_) t251 λt252=>za (λK135=>gIf t252 false (xl w134 55 t54 (s127.getD 0 u_) 3 λt257=>bf .neq 3 t257 (s127.getD 1 u_) λt259=>K135 [t259] w134) (K135 [u_] w134)) (λs136 _d137 w138=>
 zb t252 tr_ (s136.getD 0 u_) λt260=>zc t260 (K fa_ w138) (bt .add 3 (s127.getD 0 u_) (i6 1) λt262=>K130 [t262] w138))) (K130 [(s127.getD 0 u_)] w134)) (λs131 _d132 w133=>
 bt .add 3 (s127.getD 1 u_) (i6 1) λt234=>K126 [(s131.getD 0 u_),t234] w133)) (pp (Builtin.len_ #[55] 3 #[t54]) λt265=>bf .eql 3 (s127.getD 0 u_) t265 λt266=>za (λK139=>gIf t266 true (ca kh #[] w129 λt268 w143=>
 K139 [t268] w143) (K139 [u_] w129)) (λs140 _d141 w142=>
 zb t266 (s140.getD 0 u_) fa_ λt269=>K t269 w142)))))))))))))))))
theorem acN{t1 t2:Value}(h:QK t0 t1 t2 w K):zd prog Qi #[t0,t1,t2] w K:=
 okC false (.s (.r (rz 2 0 2)) (.s (.s (.r (rz 3 0 9)) (.c (.s (.r (rz 2 0 2)) (.n)) (.n))) (.s (.r (rz 8 0 33)) (.s (.r (rz 8 0 33)) (.s (.r (rz 9 0 129)) (.s (.r (rz 9 0 129)) (.s (.r (rz 9 0 40993)) (.s (.s (.r (rz 3 0 0)) (.c (.s (.r (rz 1 0 0)) (.n)) (.n))) (.s (.r (rz 1 0 0)) (.j [17] (.s (.r (rz 2 0 0)) (.c (.r (rz 5 0 145)) (.n))) (.s (.s (.r (ra 6 0 0 (.grp 76 false (ri 5 6 0) [81] (rz 1 11 0)))) (.c (.s (.r (rz 1 0 0)) (.n)) (.n))) (.s (.s (.r (rz 1 0 0)) (.b (.lp [18] (.s (.s (.r (rz 4 0 0)) (.c (.n) (.n))) (.s (.b (.j [19,20] (.r (ra 7 0 64 (.alt 7 .u (.alt 8 .u (rz 3 9 43) (ra 1 9 3 (ra 1 8 3 (rz 2 10 10)))) (.alt 8 .u (.alt 7 .u (rz 3 9 43) (ra 1 9 3 (.alt 7 .u (rz 2 10 10) (ra 1 10 2 (ra 1 7 3 (rz 1 11 2)))))) (ra 1 9 3 (.alt 7 .u (ra 1 8 3 (rz 2 10 10)) (ra 1 8 3 (.alt 7 .u (rz 2 10 10) (ra 1 10 2 (ra 1 7 3 (rz 1 11 2))))))))))) (.s (.s (.r (ra 6 0 68 (.grp 102 false (ri 5 6 68) [107] (ra 2 11 0 (.grp 109 false (ri 5 13 68) [114] (ra 2 18 0 (.grp 116 false (ri 6 20 580) [122] (rz 1 26 0)))))))) (.c (.s (.r (rz 1 0 0)) (.n)) (.n))) (.s (.s (.r (rz 1 0 0)) (.b (.lp [21] (.s (.s (.r (rz 6 0 64)) (.c (.n) (.n))) (.s (.b (.r (rz 6 0 2064))) (.r (rz 3 0 0))))))) (.s (.r (rz 9 0 37120)) (.c (.s (.r (rz 1 0 0)) (.n)) (.n))))))) (.r (rz 3 0 0))))))) (.j [16] (.s (.r (rz 2 0 0)) (.c (.r (rz 1 0 0)) (.r (rz 8 0 129)))) (.s (.s (.r (ra 4 0 0 (.grp 158 false (ri 3 4 0) [161] (rz 1 7 0)))) (.c (.s (.r (rz 1 0 0)) (.n)) (.n))) (.s (.s (.r (rz 2 0 0)) (.c (.s (.r (ra 4 0 0 (.grp 168 true (ri 3 4 0) [171] (ra 2 7 0 (.grp 173 true (ri 1 9 2) [174] (rz 2 10 0)))))) (.n)) (.n))) (.s (.r (rz 5 0 129)) (.s (.s (.r (rz 5 0 0)) (.c (.s (.r (rz 1 0 0)) (.n)) (.n))) (.s (.s (.r (rz 1 0 0)) (.b (.lp [23] (.s (.s (.r (rz 4 0 0)) (.c (.n) (.n))) (.s (.b (.s (.r (ra 12 0 262400 (.grp 202 false (ri 11 12 262400) [213] (ra 2 23 0 (.grp 215 false (ri 12 25 2359552) [227] (rz 1 37 0)))))) (.c (.s (.r (rz 1 0 0)) (.n)) (.n)))) (.r (rz 3 0 0))))))) (.s (.r (rz 1 0 0)) (.s (.s (.r (rz 1 0 0)) (.b (.lp [24,25] (.s (.s (.r (rz 4 0 0)) (.c (.n) (.n))) (.j [24] (.b (.s (.r (rz 14 0 151061508)) (.c (.s (.s (.r (ra 5 0 0 (.grp 253 false (ri 6 5 64) [259] (rz 1 11 0)))) (.c (.s (.r (rz 1 0 0)) (.n)) (.n))) (.r (rz 3 0 0))) (.n)))) (.r (rz 3 0 0))))))) (.s (.r (ra 5 0 0 (.grp 267 true (ri 1 5 2) [268] (rz 2 6 0)))) (.n)))))))))))))))))))))) func7 rfl (by kernel_rfl) (by kernel_rfl) h
def aaY(t0:Value)(w:World)(K:VW):Prop:=
 pw w (Instr.box 25 t0) λt1 w1=>
 fl w1 t1 25 0 22 λt7=>pp (Builtin.len_ #[22] 3 #[t7]) λt8=>bt .gtr 3 t8 (i6 40) λt9=>za (λK2=>gIf t9 false (fl w1 t1 25 1 23 λt12=>pp (Builtin.len_ #[23] 3 #[t12]) λt13=>bt .gtr 3 t13 (i6 40) λt14=>K2 [t14] w1) (K2 [u_] w1)) (λs3 _d4 w5=>
 zb t9 tr_ (s3.getD 0 u_) λt15=>zc t15 (K fa_ w5) (zp [(i6 0)] w5 (λs7 _d8 w9 K6=>
 fl w9 t1 25 0 22 λt18=>pp (Builtin.len_ #[22] 3 #[t18]) λt19=>bf .lss 3 (s7.getD 0 u_) t19 λt20=>zc t20 (fl w9 t1 25 0 22 λt24=>px 22 t24 (s7.getD 0 u_) λt26=>fl w9 t26 117 1 115 λt28=>pp (Builtin.len_ #[115] 3 #[t28]) λt29=>bt .gtr 3 t29 (i6 20) λt30=>zc t30 (K fa_ w9) (bt .add 3 (s7.getD 0 u_) (i6 1) λt22=>K6 [t22] w9)) (zp [(i6 0),(i6 0)] w9 (λs11 _d12 w13 K10=>
 fl w13 t1 25 1 23 λt33=>pp (Builtin.len_ #[23] 3 #[t33]) λt34=>bf .lss 3 (s11.getD 1 u_) t34 λt35=>zc t35 (fl w13.drew t1 25 1 23 λt40=>px 23 t40 (s11.getD 1 u_) λt42=>fl w13.drew t42 101 6 99 λt44=>pp (Builtin.len_ #[99] 3 #[t44]) λt45=>fl w13.drew t1 25 1 23 λt47=>px 23 t47 (s11.getD 1 u_) λt49=>fl w13.drew t49 101 4 41 λt51=>pp (Builtin.len_ #[41] 3 #[t51]) λt52=>bf .add 3 t45 t52 λt53=>bf .add 3 (s11.getD 0 u_) t53 λt54=>fl w13.drew t1 25 1 23 λt56=>px 23 t56 (s11.getD 1 u_) λt58=>fl w13.drew t58 101 6 99 λt60=>pp (Builtin.len_ #[99] 3 #[t60]) λt61=>bt .gtr 3 t61 (i6 120) λt62=>za (λK14=>gIf t62 false (fl w13.drew t1 25 1 23 λt65=>px 23 t65 (s11.getD 1 u_) λt67=>fl w13.drew t67 101 4 41 λt69=>pp (Builtin.len_ #[41] 3 #[t69]) λt70=>bt .gtr 3 t70 (i6 120) λt71=>K14 [t71] w13.drew) (K14 [u_] w13.drew)) (λs15 _d16 w17=>
 zb t62 tr_ (s15.getD 0 u_) λt72=>za (λK18=>gIf t72 false (bt .gtr 3 t54 (i6 480) λt75=>K18 [t75] w17) (K18 [u_] w17)) (λs19 _d20 w21=>
 zb t72 tr_ (s19.getD 0 u_) λt76=>zc t76 (K fa_ w21) (bt .add 3 (s11.getD 1 u_) (i6 1) λt37=>K10 [t54,t37] w21)))) (K tr_ w13))))))
theorem agB(h:aaY t0 w K):zd prog XA #[t0] w K:=
 okC false (.s (.r (rz 2 0 2)) (.s (.s (.r (ra 5 0 4 (.grp 10 false (ri 4 5 4) [14] (rz 1 9 0)))) (.c (.s (.r (rz 1 0 0)) (.n)) (.n))) (.s (.r (rz 1 0 0)) (.s (.s (.r (rz 1 0 0)) (.b (.lp [4] (.s (.s (.r (rz 5 0 16)) (.c (.n) (.n))) (.s (.b (.s (.r (rz 8 0 1028)) (.c (.s (.r (rz 1 0 0)) (.n)) (.n)))) (.r (rz 3 0 0))))))) (.s (.s (.r (rz 1 0 0)) (.b (.lp [3,5] (.s (.s (.r (rz 5 0 16)) (.c (.n) (.n))) (.s (.b (.s (.r (rz 18 0 67375120)) (.s (.r (ra 9 0 1028 (.grp 63 false (ri 8 9 1028) [71] (ra 2 17 0 (.grp 73 false (ri 2 19 0) [75] (rz 1 21 0)))))) (.c (.s (.r (rz 1 0 0)) (.n)) (.n))))) (.r (rz 3 0 0))))))) (.s (.r (rz 1 0 0)) (.n))))))) func28 rfl (by kernel_rfl) (by kernel_rfl) h
def VP(w:World)(K:VW):Prop:=
 ca XB #[] w λt24 w1=>
 pw w1 (Instr.alloc 25 true (.tuple #[])) λt1 w2=>
 so w2 25 t1 t24 λw3=>lo w3 25 t1 λt26=>ca vI #[t26,(i6 0)] w3 λt27 w4=>
 pe t27 0 λt28=>pe t27 1 λt29=>lo w4 25 t1 λt31=>ca jl #[t31,(i6 0),(i6 2)] w4 λt32 w5=>
 pe t32 0 λt33=>pe t32 1 λt34=>lo w5 25 t1 λt36=>ca jm #[t36,(i6 0),(i6 1)] w5 λt37 w6=>
 pe t37 0 λt38=>pe t37 1 λt39=>pw w6 (Instr.buildSlice 55 2 #[(0,(i6 1)),(1,(i6 2))]) λt40 w7=>
 ca jV #[(i6 4),t40] w7 λt41 w8=>
 pw w8 (Instr.buildSlice 55 2 #[(0,(i6 1)),(1,(i6 2))]) λt42 w9=>
 ca jV #[(i6 4),t42] w9 λt43 w10=>
 pw w10 (Instr.buildSlice 44 2 #[(0,t41),(1,t43)]) λt44 w11=>
 lo w11 25 t1 λt46=>ca YA #[t46,(i6 0),t44] w11 λt48 w12=>
 pe t48 0 λt49=>pe t48 1 λt50=>lo w12 25 t1 λt52=>ca YC #[t52,(i6 0),t49] w12 λt54 w13=>
 pe t54 0 λt55=>pe t54 1 λt56=>pe t54 2 λt57=>pe t54 3 λt58=>lo w13 25 t1 λt60=>ca JW #[t60,(i6 0),t44,(i6 0),(i6 1)] w13 λt62 w14=>
 pe t62 0 λt63=>pe t62 1 λt64=>pe t62 2 λt65=>lo w14 25 t1 λt67=>ca YB #[t67,(i6 0),t44,t49] w14 λt70 w15=>
 pe t70 0 λ_t71=>pe t70 1 λ_t72=>pe t70 2 λt73=>pe t70 3 λt74=>lo w15 25 t1 λt76=>pp (Instr.build 80 #[(0,(i6 1))]) λt77=>pp (Instr.build 88 #[(0,t77),(1,(Value.int .u8 1)),(2,tr_)]) λt78=>ca Yz #[t76,(i6 0),(i6 0),t78] w15 λt79 w16=>
 pe t79 0 λt80=>pe t79 1 λt81=>bt .eql 29 t29 (i6 0) λt83=>za (λK17=>gIf t83 true (pp (Builtin.len_ #[66] 3 #[t28]) λt86=>bt .eql 3 t86 (i6 1) λt87=>K17 [t87] w16.drew) (K17 [u_] w16.drew)) (λs18 _d19 w20=>
 zb t83 (s18.getD 0 u_) fa_ λt88=>za (λK21=>gIf t88 true (px 66 t28 (i6 0) λt91=>fl w20 t91 82 3 3 λt93=>bt .eql 3 t93 (i6 1) λt94=>K21 [t94] w20) (K21 [u_] w20)) (λs22 _d23 w24=>
 zb t88 (s22.getD 0 u_) fa_ λt95=>za (λK25=>gIf t95 true (bt .eql 29 t34 (i6 0) λt98=>K25 [t98] w24) (K25 [u_] w24)) (λs26 _d27 w28=>
 zb t95 (s26.getD 0 u_) fa_ λt99=>za (λK29=>gIf t99 true (pp (Builtin.len_ #[69] 3 #[t33]) λt102=>bt .eql 3 t102 (i6 1) λt103=>K29 [t103] w28) (K29 [u_] w28)) (λs30 _d31 w32=>
 zb t99 (s30.getD 0 u_) fa_ λt104=>za (λK33=>gIf t104 true (px 69 t33 (i6 0) λt107=>fl w32 t107 88 1 86 λt109=>bt .eql 86 t109 (Value.int .u8 1) λt110=>K33 [t110] w32) (K33 [u_] w32)) (λs34 _d35 w36=>
 zb t104 (s34.getD 0 u_) fa_ λt111=>za (λK37=>gIf t111 true (bt .eql 29 t39 (i6 0) λt114=>K37 [t114] w36) (K37 [u_] w36)) (λs38 _d39 w40=>
 zb t111 (s38.getD 0 u_) fa_ λt115=>za (λK41=>gIf t115 true (pp (Builtin.len_ #[55] 3 #[t38]) λt118=>bt .eql 3 t118 (i6 1) λt119=>K41 [t119] w40) (K41 [u_] w40)) (λs42 _d43 w44=>
 zb t115 (s42.getD 0 u_) fa_ λt120=>za (λK45=>gIf t120 true (bt .eql 29 t50 (i6 0) λt123=>K45 [t123] w44) (K45 [u_] w44)) (λs46 _d47 w48=>
 zb t120 (s46.getD 0 u_) fa_ λt124=>za (λK49=>gIf t124 true (pp (Builtin.len_ #[44] 3 #[t49]) λt127=>bt .eql 3 t127 (i6 1) λt128=>K49 [t128] w48) (K49 [u_] w48)) (λs50 _d51 w52=>
 zb t124 (s50.getD 0 u_) fa_ λt129=>za (λK53=>gIf t129 true (xl w52 44 t49 (i6 0) 48 λt133=>pw w52 (Instr.buildSlice 55 1 #[(0,(i6 1))]) λt134 w57=>
 Ext w52 w57∧
 ca jV #[(i6 4),t134] w57 λt135 w58=>
 Ext w57 w58∧
 ca Xy #[t133,t135] w58 λt136 w59=>
 K53 [t136] w59) (K53 [u_] w52)) (λs54 _d55 w56=>
 zb t129 (s54.getD 0 u_) fa_ λt137=>za (λK60=>gIf t137 true (bt .eql 3 t55 (i6 0) λt140=>K60 [t140] w56) (K60 [u_] w56)) (λs61 _d62 w63=>
 zb t137 (s61.getD 0 u_) fa_ λt141=>za (λK64=>gIf t141 true (bt .eql 3 t56 (i6 1) λt144=>K64 [t144] w63) (K64 [u_] w63)) (λs65 _d66 w67=>
 zb t141 (s65.getD 0 u_) fa_ λt145=>za (λK68=>gIf t145 true (pp (Op.unary .not t57) λt148=>K68 [t148] w67) (K68 [u_] w67)) (λs69 _d70 w71=>
 zb t145 (s69.getD 0 u_) fa_ λt149=>za (λK72=>gIf t149 true (bt .eql 29 t58 (i6 0) λt152=>K72 [t152] w71) (K72 [u_] w71)) (λs73 _d74 w75=>
 zb t149 (s73.getD 0 u_) fa_ λt153=>za (λK76=>gIf t153 true (K76 [t64] w75) (K76 [u_] w75)) (λs77 _d78 w79=>
 zb t153 (s77.getD 0 u_) fa_ λt156=>za (λK80=>gIf t156 true (pp (Builtin.len_ #[55] 3 #[t63]) λt159=>bt .eql 3 t159 (i6 2) λt160=>K80 [t160] w79) (K80 [u_] w79)) (λs81 _d82 w83=>
 zb t156 (s81.getD 0 u_) fa_ λt161=>za (λK84=>gIf t161 true (bt .eql 29 t65 (i6 0) λt164=>K84 [t164] w83) (K84 [u_] w83)) (λs85 _d86 w87=>
 zb t161 (s85.getD 0 u_) fa_ λt165=>za (λK88=>gIf t165 true (K88 [t73] w87) (K88 [u_] w87)) (λs89 _d90 w91=>
 zb t165 (s89.getD 0 u_) fa_ λt168=>za (λK92=>gIf t168 true (bt .eql 29 t74 (i6 0) λt171=>K92 [t171] w91) (K92 [u_] w91)) (λs93 _d94 w95=>
 zb t168 (s93.getD 0 u_) fa_ λt172=>za (λK96=>gIf t172 true (K96 [t80] w95) (K96 [u_] w95)) (λs97 _d98 w99=>
 zb t172 (s97.getD 0 u_) fa_ λt175=>za (λK100=>gIf t175 true (bt .eql 29 t81 (i6 0) λt178=>K100 [t178] w99) (K100 [u_] w99)) (λs101 _d102 w103=>
 zb t175 (s101.getD 0 u_) fa_ λt179=>K t179 w103)))))))))))))))))))))
theorem afe(h:VP  w K):zd prog kh #[] w K:=
 okC false (.s (.r (rz 1 0 0)) (.s (.r (rz 3 0 42)) (.s (.r (rz 7 0 9)) (.s (.r (rz 7 0 9)) (.s (.r (rz 7 0 9)) (.s (.r (rz 6 0 682)) (.s (.r (rz 8 0 33)) (.s (.r (rz 12 0 33)) (.s (.r (rz 10 0 33)) (.s (.r (rz 13 0 129)) (.s (.r (rz 9 0 129)) (.s (.r (ra 3 0 0 (.grp 84 true (ri 3 3 0) [87] (ra 2 6 0 (.grp 89 true (ri 5 8 64) [94] (ra 2 13 0 (.grp 96 true (ri 2 15 0) [98] (ra 2 17 0 (.grp 100 true (ri 3 19 0) [103] (ra 2 22 0 (.grp 105 true (ri 5 24 64) [110] (ra 2 29 0 (.grp 112 true (ri 2 31 0) [114] (ra 2 33 0 (.grp 116 true (ri 3 35 0) [119] (ra 2 38 0 (.grp 121 true (ri 2 40 0) [123] (ra 2 42 0 (.grp 125 true (ri 3 44 0) [128] (ra 2 47 0 (.grp 130 true (ri 6 49 3024) [136] (ra 2 55 0 (.grp 138 true (ri 2 57 0) [140] (ra 2 59 0 (.grp 142 true (ri 2 61 0) [144] (ra 2 63 0 (.grp 146 true (ri 2 65 0) [148] (ra 2 67 0 (.grp 150 true (ri 2 69 0) [152] (ra 2 71 0 (.grp 154 true (ri 1 73 0) [155] (ra 2 74 0 (.grp 157 true (ri 3 76 0) [160] (ra 2 79 0 (.grp 162 true (ri 2 81 0) [164] (ra 2 83 0 (.grp 166 true (ri 1 85 0) [167] (ra 2 86 0 (.grp 169 true (ri 2 88 0) [171] (ra 2 90 0 (.grp 173 true (ri 1 92 0) [174] (ra 2 93 0 (.grp 176 true (ri 2 95 0) [178] (rz 2 97 0)))))))))))))))))))))))))))))))))))))))))))) (.n))))))))))))) func29 rfl (by kernel_rfl) (by kernel_rfl) h
def aaZ(w:World)(K:VW):Prop:=
 pw w (Instr.alloc 25 true (.tuple #[])) λt0 w1=>
 pw w1 (Instr.buildSlice 78 1 #[(0,(i6 (-1)))]) λt2 w2=>
 pp (Instr.build 80 #[(0,(i6 2)),(1,t2)]) λt3=>pw w2 (Instr.alloc 80 true (.tuple #[])) λt1 w3=>
 so w3 80 t1 t3 λw4=>pp (Instr.build 80 #[(0,(i6 2))]) λt9=>pp (Instr.build 80 #[(0,(i6 1))]) λt10=>pp (Instr.build 96 #[(0,(Value.int .u8 4)),(1,t9),(6,t10),(7,tr_),(10,(i6 1))]) λt11=>pp (Instr.build 80 #[(0,(i6 1))]) λt12=>lo w4.drew 80 t1 λt15=>pp (Instr.build 96 #[(0,(Value.int .u8 14))]) λt18=>((ca xT #[] w4.drew λt4 w5=>
 Ext w4.drew w5∧
 ((ca xT #[] w5 λt5 w6=>
 Ext w5 w6∧
 ((ca qL #[tr_] w6 λt6 w7=>
 Ext w6 w7∧
 ((pw w7 (Instr.buildSlice 41 3 #[(0,t4),(1,t5),(2,t6)]) λt7 w8=>
 Ext w7 w8∧
 ((pw w8 (Instr.makeSlice 98 (i6 3) (i6 3)) λt8 w9=>
 Ext w8 w9∧
 ca zu #[(i6 2)] w9 λt13 w10=>
 Ext w9 w10∧
 pp (Instr.build 96 #[(0,(Value.int .u8 1)),(1,t12),(2,t13),(10,(i6 2))]) λt14=>ca zu #[(i6 3)] w10 λt16 w11=>
 Ext w10 w11∧
 pp (Instr.build 96 #[(0,(Value.int .u8 1)),(1,t15),(2,t16),(10,(i6 3))]) λt17=>pw w11 (Instr.buildSlice 99 4 #[(0,t11),(1,t14),(2,t17),(3,t18)]) λt19 w12=>
 pp (Instr.build 101 #[(4,t7),(5,t8),(6,t19)]) λt20=>pw w12 (Instr.buildSlice 23 1 #[(0,t20)]) λt21 w13=>
 pp (Instr.build 25 #[(1,t21)]) λt22=>so w13 25 t0 t22 λw14=>pq w14 (zi 25 t0) λr15=>K r15 w14)∧
 (ca zu #[(i6 2)] w8 λt13_17 w16=>
 Ext w8 w16∧
 pp (Instr.build 96 #[(0,(Value.int .u8 1)),(1,t12),(2,t13_17),(10,(i6 2))]) λt14_18=>((pw w16 (Instr.makeSlice 98 (i6 3) (i6 3)) λt8_20 w19=>
 Ext w16 w19∧
 ca zu #[(i6 3)] w19 λt16_22 w21=>
 Ext w19 w21∧
 pp (Instr.build 96 #[(0,(Value.int .u8 1)),(1,t15),(2,t16_22),(10,(i6 3))]) λt17_23=>pw w21 (Instr.buildSlice 99 4 #[(0,t11),(1,t14_18),(2,t17_23),(3,t18)]) λt19_25 w24=>
 pp (Instr.build 101 #[(4,t7),(5,t8_20),(6,t19_25)]) λt20_26=>pw w24 (Instr.buildSlice 23 1 #[(0,t20_26)]) λt21_28 w27=>
 pp (Instr.build 25 #[(1,t21_28)]) λt22_29=>so w27 25 t0 t22_29 λw30=>pq w30 (zi 25 t0) λr31=>K r31 w30)∧
 (ca zu #[(i6 3)] w16 λt16_33 w32=>
 Ext w16 w32∧
 pp (Instr.build 96 #[(0,(Value.int .u8 1)),(1,t15),(2,t16_33),(10,(i6 3))]) λt17_34=>((pw w32 (Instr.makeSlice 98 (i6 3) (i6 3)) λt8_36 w35=>
 Ext w32 w35∧
 pw w35 (Instr.buildSlice 99 4 #[(0,t11),(1,t14_18),(2,t17_34),(3,t18)]) λt19_38 w37=>
 pp (Instr.build 101 #[(4,t7),(5,t8_36),(6,t19_38)]) λt20_39=>pw w37 (Instr.buildSlice 23 1 #[(0,t20_39)]) λt21_41 w40=>
 pp (Instr.build 25 #[(1,t21_41)]) λt22_42=>so w40 25 t0 t22_42 λw43=>pq w43 (zi 25 t0) λr44=>K r44 w43)∧
 (pw w32 (Instr.buildSlice 99 4 #[(0,t11),(1,t14_18),(2,t17_34),(3,t18)]) λt19_46 w45=>
 pw w45 (Instr.makeSlice 98 (i6 3) (i6 3)) λt8_48 w47=>
 Ext w45 w47∧
 pp (Instr.build 101 #[(4,t7),(5,t8_48),(6,t19_46)]) λt20_49=>pw w47 (Instr.buildSlice 23 1 #[(0,t20_49)]) λt21_51 w50=>
 pp (Instr.build 25 #[(1,t21_51)]) λt22_52=>so w50 25 t0 t22_52 λw53=>pq w53 (zi 25 t0) λr54=>K r54 w53)))))))∧
 (((pw w7 (Instr.makeSlice 98 (i6 3) (i6 3)) λt8_56 w55=>
 Ext w7 w55∧
 ((pw w55 (Instr.buildSlice 41 3 #[(0,t4),(1,t5),(2,t6)]) λt7_58 w57=>
 Ext w55 w57∧
 ca zu #[(i6 2)] w57 λt13_60 w59=>
 Ext w57 w59∧
 pp (Instr.build 96 #[(0,(Value.int .u8 1)),(1,t12),(2,t13_60),(10,(i6 2))]) λt14_61=>ca zu #[(i6 3)] w59 λt16_63 w62=>
 Ext w59 w62∧
 pp (Instr.build 96 #[(0,(Value.int .u8 1)),(1,t15),(2,t16_63),(10,(i6 3))]) λt17_64=>pw w62 (Instr.buildSlice 99 4 #[(0,t11),(1,t14_61),(2,t17_64),(3,t18)]) λt19_66 w65=>
 pp (Instr.build 101 #[(4,t7_58),(5,t8_56),(6,t19_66)]) λt20_67=>pw w65 (Instr.buildSlice 23 1 #[(0,t20_67)]) λt21_69 w68=>
 pp (Instr.build 25 #[(1,t21_69)]) λt22_70=>so w68 25 t0 t22_70 λw71=>pq w71 (zi 25 t0) λr72=>K r72 w71)∧
 (ca zu #[(i6 2)] w55 λt13_74 w73=>
 Ext w55 w73∧
 pp (Instr.build 96 #[(0,(Value.int .u8 1)),(1,t12),(2,t13_74),(10,(i6 2))]) λt14_75=>((pw w73 (Instr.buildSlice 41 3 #[(0,t4),(1,t5),(2,t6)]) λt7_77 w76=>
 Ext w73 w76∧
 ca zu #[(i6 3)] w76 λt16_79 w78=>
 Ext w76 w78∧
 pp (Instr.build 96 #[(0,(Value.int .u8 1)),(1,t15),(2,t16_79),(10,(i6 3))]) λt17_80=>pw w78 (Instr.buildSlice 99 4 #[(0,t11),(1,t14_75),(2,t17_80),(3,t18)]) λt19_82 w81=>
 pp (Instr.build 101 #[(4,t7_77),(5,t8_56),(6,t19_82)]) λt20_83=>pw w81 (Instr.buildSlice 23 1 #[(0,t20_83)]) λt21_85 w84=>
 pp (Instr.build 25 #[(1,t21_85)]) λt22_86=>so w84 25 t0 t22_86 λw87=>pq w87 (zi 25 t0) λr88=>K r88 w87)∧
 (ca zu #[(i6 3)] w73 λt16_90 w89=>
 Ext w73 w89∧
 pp (Instr.build 96 #[(0,(Value.int .u8 1)),(1,t15),(2,t16_90),(10,(i6 3))]) λt17_91=>((pw w89 (Instr.buildSlice 41 3 #[(0,t4),(1,t5),(2,t6)]) λt7_93 w92=>
 Ext w89 w92∧
 pw w92 (Instr.buildSlice 99 4 #[(0,t11),(1,t14_75),(2,t17_91),(3,t18)]) λt19_95 w94=>
 pp (Instr.build 101 #[(4,t7_93),(5,t8_56),(6,t19_95)]) λt20_96=>pw w94 (Instr.buildSlice 23 1 #[(0,t20_96)]) λt21_98 w97=>
 pp (Instr.build 25 #[(1,t21_98)]) λt22_99=>so w97 25 t0 t22_99 λw100=>pq w100 (zi 25 t0) λr101=>K r101 w100)∧
 (pw w89 (Instr.buildSlice 99 4 #[(0,t11),(1,t14_75),(2,t17_91),(3,t18)]) λt19_103 w102=>
 pw w102 (Instr.buildSlice 41 3 #[(0,t4),(1,t5),(2,t6)]) λt7_105 w104=>
 Ext w102 w104∧
 pp (Instr.build 101 #[(4,t7_105),(5,t8_56),(6,t19_103)]) λt20_106=>pw w104 (Instr.buildSlice 23 1 #[(0,t20_106)]) λt21_108 w107=>
 pp (Instr.build 25 #[(1,t21_108)]) λt22_109=>so w107 25 t0 t22_109 λw110=>pq w110 (zi 25 t0) λr111=>K r111 w110)))))))∧
 (ca zu #[(i6 2)] w7 λt13_113 w112=>
 Ext w7 w112∧
 pp (Instr.build 96 #[(0,(Value.int .u8 1)),(1,t12),(2,t13_113),(10,(i6 2))]) λt14_114=>((pw w112 (Instr.buildSlice 41 3 #[(0,t4),(1,t5),(2,t6)]) λt7_116 w115=>
 Ext w112 w115∧
 ((pw w115 (Instr.makeSlice 98 (i6 3) (i6 3)) λt8_118 w117=>
 Ext w115 w117∧
 ca zu #[(i6 3)] w117 λt16_120 w119=>
 Ext w117 w119∧
 pp (Instr.build 96 #[(0,(Value.int .u8 1)),(1,t15),(2,t16_120),(10,(i6 3))]) λt17_121=>pw w119 (Instr.buildSlice 99 4 #[(0,t11),(1,t14_114),(2,t17_121),(3,t18)]) λt19_123 w122=>
 pp (Instr.build 101 #[(4,t7_116),(5,t8_118),(6,t19_123)]) λt20_124=>pw w122 (Instr.buildSlice 23 1 #[(0,t20_124)]) λt21_126 w125=>
 pp (Instr.build 25 #[(1,t21_126)]) λt22_127=>so w125 25 t0 t22_127 λw128=>pq w128 (zi 25 t0) λr129=>K r129 w128)∧
 (ca zu #[(i6 3)] w115 λt16_131 w130=>
 Ext w115 w130∧
 pp (Instr.build 96 #[(0,(Value.int .u8 1)),(1,t15),(2,t16_131),(10,(i6 3))]) λt17_132=>((pw w130 (Instr.makeSlice 98 (i6 3) (i6 3)) λt8_134 w133=>
 Ext w130 w133∧
 pw w133 (Instr.buildSlice 99 4 #[(0,t11),(1,t14_114),(2,t17_132),(3,t18)]) λt19_136 w135=>
 pp (Instr.build 101 #[(4,t7_116),(5,t8_134),(6,t19_136)]) λt20_137=>pw w135 (Instr.buildSlice 23 1 #[(0,t20_137)]) λt21_139 w138=>
 pp (Instr.build 25 #[(1,t21_139)]) λt22_140=>so w138 25 t0 t22_140 λw141=>pq w141 (zi 25 t0) λr142=>K r142 w141)∧
 (pw w130 (Instr.buildSlice 99 4 #[(0,t11),(1,t14_114),(2,t17_132),(3,t18)]) λt19_144 w143=>
 pw w143 (Instr.makeSlice 98 (i6 3) (i6 3)) λt8_146 w145=>
 Ext w143 w145∧
 pp (Instr.build 101 #[(4,t7_116),(5,t8_146),(6,t19_144)]) λt20_147=>pw w145 (Instr.buildSlice 23 1 #[(0,t20_147)]) λt21_149 w148=>
 pp (Instr.build 25 #[(1,t21_149)]) λt22_150=>so w148 25 t0 t22_150 λw151=>pq w151 (zi 25 t0) λr152=>K r152 w151)))))∧
 (((pw w112 (Instr.makeSlice 98 (i6 3) (i6 3)) λt8_154 w153=>
 Ext w112 w153∧
 ((pw w153 (Instr.buildSlice 41 3 #[(0,t4),(1,t5),(2,t6)]) λt7_156 w155=>
 Ext w153 w155∧
 ca zu #[(i6 3)] w155 λt16_158 w157=>
 Ext w155 w157∧
 pp (Instr.build 96 #[(0,(Value.int .u8 1)),(1,t15),(2,t16_158),(10,(i6 3))]) λt17_159=>pw w157 (Instr.buildSlice 99 4 #[(0,t11),(1,t14_114),(2,t17_159),(3,t18)]) λt19_161 w160=>
 pp (Instr.build 101 #[(4,t7_156),(5,t8_154),(6,t19_161)]) λt20_162=>pw w160 (Instr.buildSlice 23 1 #[(0,t20_162)]) λt21_164 w163=>
 pp (Instr.build 25 #[(1,t21_164)]) λt22_165=>so w163 25 t0 t22_165 λw166=>pq w166 (zi 25 t0) λr167=>K r167 w166)∧
 (ca zu #[(i6 3)] w153 λt16_169 w168=>
 Ext w153 w168∧
 pp (Instr.build 96 #[(0,(Value.int .u8 1)),(1,t15),(2,t16_169),(10,(i6 3))]) λt17_170=>((pw w168 (Instr.buildSlice 41 3 #[(0,t4),(1,t5),(2,t6)]) λt7_172 w171=>
 Ext w168 w171∧
 pw w171 (Instr.buildSlice 99 4 #[(0,t11),(1,t14_114),(2,t17_170),(3,t18)]) λt19_174 w173=>
 pp (Instr.build 101 #[(4,t7_172),(5,t8_154),(6,t19_174)]) λt20_175=>pw w173 (Instr.buildSlice 23 1 #[(0,t20_175)]) λt21_177 w176=>
 pp (Instr.build 25 #[(1,t21_177)]) λt22_178=>so w176 25 t0 t22_178 λw179=>pq w179 (zi 25 t0) λr180=>K r180 w179)∧
 (pw w168 (Instr.buildSlice 99 4 #[(0,t11),(1,t14_114),(2,t17_170),(3,t18)]) λt19_182 w181=>
 pw w181 (Instr.buildSlice 41 3 #[(0,t4),(1,t5),(2,t6)]) λt7_184 w183=>
 Ext w181 w183∧
 pp (Instr.build 101 #[(4,t7_184),(5,t8_154),(6,t19_182)]) λt20_185=>pw w183 (Instr.buildSlice 23 1 #[(0,t20_185)]) λt21_187 w186=>
 pp (Instr.build 25 #[(1,t21_187)]) λt22_188=>so w186 25 t0 t22_188 λw189=>pq w189 (zi 25 t0) λr190=>K r190 w189)))))∧
 (ca zu #[(i6 3)] w112 λt16_192 w191=>
 Ext w112 w191∧
 pp (Instr.build 96 #[(0,(Value.int .u8 1)),(1,t15),(2,t16_192),(10,(i6 3))]) λt17_193=>((pw w191 (Instr.buildSlice 41 3 #[(0,t4),(1,t5),(2,t6)]) λt7_195 w194=>
 Ext w191 w194∧
 ((pw w194 (Instr.makeSlice 98 (i6 3) (i6 3)) λt8_197 w196=>
 Ext w194 w196∧
 pw w196 (Instr.buildSlice 99 4 #[(0,t11),(1,t14_114),(2,t17_193),(3,t18)]) λt19_199 w198=>
 pp (Instr.build 101 #[(4,t7_195),(5,t8_197),(6,t19_199)]) λt20_200=>pw w198 (Instr.buildSlice 23 1 #[(0,t20_200)]) λt21_202 w201=>
 pp (Instr.build 25 #[(1,t21_202)]) λt22_203=>so w201 25 t0 t22_203 λw204=>pq w204 (zi 25 t0) λr205=>K r205 w204)∧
 (pw w194 (Instr.buildSlice 99 4 #[(0,t11),(1,t14_114),(2,t17_193),(3,t18)]) λt19_207 w206=>
 pw w206 (Instr.makeSlice 98 (i6 3) (i6 3)) λt8_209 w208=>
 Ext w206 w208∧
 pp (Instr.build 101 #[(4,t7_195),(5,t8_209),(6,t19_207)]) λt20_210=>pw w208 (Instr.buildSlice 23 1 #[(0,t20_210)]) λt21_212 w211=>
 pp (Instr.build 25 #[(1,t21_212)]) λt22_213=>so w211 25 t0 t22_213 λw214=>pq w214 (zi 25 t0) λr215=>K r215 w214)))∧
 (((pw w191 (Instr.makeSlice 98 (i6 3) (i6 3)) λt8_217 w216=>
 Ext w191 w216∧
 ((pw w216 (Instr.buildSlice 41 3 #[(0,t4),(1,t5),(2,t6)]) λt7_219 w218=>
 Ext w216 w218∧
 pw w218 (Instr.buildSlice 99 4 #[(0,t11),(1,t14_114),(2,t17_193),(3,t18)]) λt19_221 w220=>
 pp (Instr.build 101 #[(4,t7_219),(5,t8_217),(6,t19_221)]) λt20_222=>pw w220 (Instr.buildSlice 23 1 #[(0,t20_222)]) λt21_224 w223=>
 pp (Instr.build 25 #[(1,t21_224)]) λt22_225=>so w223 25 t0 t22_225 λw226=>pq w226 (zi 25 t0) λr227=>K r227 w226)∧
 (pw w216 (Instr.buildSlice 99 4 #[(0,t11),(1,t14_114),(2,t17_193),(3,t18)]) λt19_229 w228=>
 pw w228 (Instr.buildSlice 41 3 #[(0,t4),(1,t5),(2,t6)]) λt7_231 w230=>
 Ext w228 w230∧
 pp (Instr.build 101 #[(4,t7_231),(5,t8_217),(6,t19_229)]) λt20_232=>pw w230 (Instr.buildSlice 23 1 #[(0,t20_232)]) λt21_234 w233=>
 pp (Instr.build 25 #[(1,t21_234)]) λt22_235=>so w233 25 t0 t22_235 λw236=>pq w236 (zi 25 t0) λr237=>K r237 w236)))∧
 (pw w191 (Instr.buildSlice 99 4 #[(0,t11),(1,t14_114),(2,t17_193),(3,t18)]) λt19_239 w238=>
 ((pw w238 (Instr.buildSlice 41 3 #[(0,t4),(1,t5),(2,t6)]) λt7_241 w240=>
 Ext w238 w240∧
 pw w240 (Instr.makeSlice 98 (i6 3) (i6 3)) λt8_243 w242=>
 Ext w240 w242∧
 pp (Instr.build 101 #[(4,t7_241),(5,t8_243),(6,t19_239)]) λt20_244=>pw w242 (Instr.buildSlice 23 1 #[(0,t20_244)]) λt21_246 w245=>
 pp (Instr.build 25 #[(1,t21_246)]) λt22_247=>so w245 25 t0 t22_247 λw248=>pq w248 (zi 25 t0) λr249=>K r249 w248)∧
 (pw w238 (Instr.makeSlice 98 (i6 3) (i6 3)) λt8_251 w250=>
 Ext w238 w250∧
 pw w250 (Instr.buildSlice 41 3 #[(0,t4),(1,t5),(2,t6)]) λt7_253 w252=>
 Ext w250 w252∧
 pp (Instr.build 101 #[(4,t7_253),(5,t8_251),(6,t19_239)]) λt20_254=>pw w252 (Instr.buildSlice 23 1 #[(0,t20_254)]) λt21_256 w255=>
 pp (Instr.build 25 #[(1,t21_256)]) λt22_257=>so w255 25 t0 t22_257 λw258=>pq w258 (zi 25 t0) λr259=>K r259 w258)))))))))))))))∧
 (pw w6 (Instr.makeSlice 98 (i6 3) (i6 3)) λt8_261 w260=>
 Ext w6 w260∧
 ca qL #[tr_] w260 λt6_263 w262=>
 Ext w260 w262∧
 ((pw w262 (Instr.buildSlice 41 3 #[(0,t4),(1,t5),(2,t6_263)]) λt7_265 w264=>
 Ext w262 w264∧
 ca zu #[(i6 2)] w264 λt13_267 w266=>
 Ext w264 w266∧
 pp (Instr.build 96 #[(0,(Value.int .u8 1)),(1,t12),(2,t13_267),(10,(i6 2))]) λt14_268=>ca zu #[(i6 3)] w266 λt16_270 w269=>
 Ext w266 w269∧
 pp (Instr.build 96 #[(0,(Value.int .u8 1)),(1,t15),(2,t16_270),(10,(i6 3))]) λt17_271=>pw w269 (Instr.buildSlice 99 4 #[(0,t11),(1,t14_268),(2,t17_271),(3,t18)]) λt19_273 w272=>
 pp (Instr.build 101 #[(4,t7_265),(5,t8_261),(6,t19_273)]) λt20_274=>pw w272 (Instr.buildSlice 23 1 #[(0,t20_274)]) λt21_276 w275=>
 pp (Instr.build 25 #[(1,t21_276)]) λt22_277=>so w275 25 t0 t22_277 λw278=>pq w278 (zi 25 t0) λr279=>K r279 w278)∧
 (ca zu #[(i6 2)] w262 λt13_281 w280=>
 Ext w262 w280∧
 pp (Instr.build 96 #[(0,(Value.int .u8 1)),(1,t12),(2,t13_281),(10,(i6 2))]) λt14_282=>((pw w280 (Instr.buildSlice 41 3 #[(0,t4),(1,t5),(2,t6_263)]) λt7_284 w283=>
 Ext w280 w283∧
 ca zu #[(i6 3)] w283 λt16_286 w285=>
 Ext w283 w285∧
 pp (Instr.build 96 #[(0,(Value.int .u8 1)),(1,t15),(2,t16_286),(10,(i6 3))]) λt17_287=>pw w285 (Instr.buildSlice 99 4 #[(0,t11),(1,t14_282),(2,t17_287),(3,t18)]) λt19_289 w288=>
 pp (Instr.build 101 #[(4,t7_284),(5,t8_261),(6,t19_289)]) λt20_290=>pw w288 (Instr.buildSlice 23 1 #[(0,t20_290)]) λt21_292 w291=>
 pp (Instr.build 25 #[(1,t21_292)]) λt22_293=>so w291 25 t0 t22_293 λw294=>pq w294 (zi 25 t0) λr295=>K r295 w294)∧
 (ca zu #[(i6 3)] w280 λt16_297 w296=>
 Ext w280 w296∧
 pp (Instr.build 96 #[(0,(Value.int .u8 1)),(1,t15),(2,t16_297),(10,(i6 3))]) λt17_298=>((pw w296 (Instr.buildSlice 41 3 #[(0,t4),(1,t5),(2,t6_263)]) λt7_300 w299=>
 Ext w296 w299∧
 pw w299 (Instr.buildSlice 99 4 #[(0,t11),(1,t14_282),(2,t17_298),(3,t18)]) λt19_302 w301=>
 pp (Instr.build 101 #[(4,t7_300),(5,t8_261),(6,t19_302)]) λt20_303=>pw w301 (Instr.buildSlice 23 1 #[(0,t20_303)]) λt21_305 w304=>
 pp (Instr.build 25 #[(1,t21_305)]) λt22_306=>so w304 25 t0 t22_306 λw307=>pq w307 (zi 25 t0) λr308=>K r308 w307)∧
 (pw w296 (Instr.buildSlice 99 4 #[(0,t11),(1,t14_282),(2,t17_298),(3,t18)]) λt19_310 w309=>
 pw w309 (Instr.buildSlice 41 3 #[(0,t4),(1,t5),(2,t6_263)]) λt7_312 w311=>
 Ext w309 w311∧
 pp (Instr.build 101 #[(4,t7_312),(5,t8_261),(6,t19_310)]) λt20_313=>pw w311 (Instr.buildSlice 23 1 #[(0,t20_313)]) λt21_315 w314=>
 pp (Instr.build 25 #[(1,t21_315)]) λt22_316=>so w314 25 t0 t22_316 λw317=>pq w317 (zi 25 t0) λr318=>K r318 w317)))))))))∧
 (pw w5 (Instr.makeSlice 98 (i6 3) (i6 3)) λt8_320 w319=>
 Ext w5 w319∧
 ca xT #[] w319 λt5_322 w321=>
 Ext w319 w321∧
 ca qL #[tr_] w321 λt6_324 w323=>
 Ext w321 w323∧
 ((pw w323 (Instr.buildSlice 41 3 #[(0,t4),(1,t5_322),(2,t6_324)]) λt7_326 w325=>
 Ext w323 w325∧
 ca zu #[(i6 2)] w325 λt13_328 w327=>
 Ext w325 w327∧
 pp (Instr.build 96 #[(0,(Value.int .u8 1)),(1,t12),(2,t13_328),(10,(i6 2))]) λt14_329=>ca zu #[(i6 3)] w327 λt16_331 w330=>
 Ext w327 w330∧
 pp (Instr.build 96 #[(0,(Value.int .u8 1)),(1,t15),(2,t16_331),(10,(i6 3))]) λt17_332=>pw w330 (Instr.buildSlice 99 4 #[(0,t11),(1,t14_329),(2,t17_332),(3,t18)]) λt19_334 w333=>
 pp (Instr.build 101 #[(4,t7_326),(5,t8_320),(6,t19_334)]) λt20_335=>pw w333 (Instr.buildSlice 23 1 #[(0,t20_335)]) λt21_337 w336=>
 pp (Instr.build 25 #[(1,t21_337)]) λt22_338=>so w336 25 t0 t22_338 λw339=>pq w339 (zi 25 t0) λr340=>K r340 w339)∧
 (ca zu #[(i6 2)] w323 λt13_342 w341=>
 Ext w323 w341∧
 pp (Instr.build 96 #[(0,(Value.int .u8 1)),(1,t12),(2,t13_342),(10,(i6 2))]) λt14_343=>((pw w341 (Instr.buildSlice 41 3 #[(0,t4),(1,t5_322),(2,t6_324)]) λt7_345 w344=>
 Ext w341 w344∧
 ca zu #[(i6 3)] w344 λt16_347 w346=>
 Ext w344 w346∧
 pp (Instr.build 96 #[(0,(Value.int .u8 1)),(1,t15),(2,t16_347),(10,(i6 3))]) λt17_348=>pw w346 (Instr.buildSlice 99 4 #[(0,t11),(1,t14_343),(2,t17_348),(3,t18)]) λt19_350 w349=>
 pp (Instr.build 101 #[(4,t7_345),(5,t8_320),(6,t19_350)]) λt20_351=>pw w349 (Instr.buildSlice 23 1 #[(0,t20_351)]) λt21_353 w352=>
 pp (Instr.build 25 #[(1,t21_353)]) λt22_354=>so w352 25 t0 t22_354 λw355=>pq w355 (zi 25 t0) λr356=>K r356 w355)∧
 (ca zu #[(i6 3)] w341 λt16_358 w357=>
 Ext w341 w357∧
 pp (Instr.build 96 #[(0,(Value.int .u8 1)),(1,t15),(2,t16_358),(10,(i6 3))]) λt17_359=>((pw w357 (Instr.buildSlice 41 3 #[(0,t4),(1,t5_322),(2,t6_324)]) λt7_361 w360=>
 Ext w357 w360∧
 pw w360 (Instr.buildSlice 99 4 #[(0,t11),(1,t14_343),(2,t17_359),(3,t18)]) λt19_363 w362=>
 pp (Instr.build 101 #[(4,t7_361),(5,t8_320),(6,t19_363)]) λt20_364=>pw w362 (Instr.buildSlice 23 1 #[(0,t20_364)]) λt21_366 w365=>
 pp (Instr.build 25 #[(1,t21_366)]) λt22_367=>so w365 25 t0 t22_367 λw368=>pq w368 (zi 25 t0) λr369=>K r369 w368)∧
 (pw w357 (Instr.buildSlice 99 4 #[(0,t11),(1,t14_343),(2,t17_359),(3,t18)]) λt19_371 w370=>
 pw w370 (Instr.buildSlice 41 3 #[(0,t4),(1,t5_322),(2,t6_324)]) λt7_373 w372=>
 Ext w370 w372∧
 pp (Instr.build 101 #[(4,t7_373),(5,t8_320),(6,t19_371)]) λt20_374=>pw w372 (Instr.buildSlice 23 1 #[(0,t20_374)]) λt21_376 w375=>
 pp (Instr.build 25 #[(1,t21_376)]) λt22_377=>so w375 25 t0 t22_377 λw378=>pq w378 (zi 25 t0) λr379=>K r379 w378)))))))))∧
 (pw w4.drew (Instr.makeSlice 98 (i6 3) (i6 3)) λt8_381 w380=>
 Ext w4.drew w380∧
 ca xT #[] w380 λt4_383 w382=>
 Ext w380 w382∧
 ca xT #[] w382 λt5_385 w384=>
 Ext w382 w384∧
 ca qL #[tr_] w384 λt6_387 w386=>
 Ext w384 w386∧
 ((pw w386 (Instr.buildSlice 41 3 #[(0,t4_383),(1,t5_385),(2,t6_387)]) λt7_389 w388=>
 Ext w386 w388∧
 ca zu #[(i6 2)] w388 λt13_391 w390=>
 Ext w388 w390∧
 pp (Instr.build 96 #[(0,(Value.int .u8 1)),(1,t12),(2,t13_391),(10,(i6 2))]) λt14_392=>ca zu #[(i6 3)] w390 λt16_394 w393=>
 Ext w390 w393∧
 pp (Instr.build 96 #[(0,(Value.int .u8 1)),(1,t15),(2,t16_394),(10,(i6 3))]) λt17_395=>pw w393 (Instr.buildSlice 99 4 #[(0,t11),(1,t14_392),(2,t17_395),(3,t18)]) λt19_397 w396=>
 pp (Instr.build 101 #[(4,t7_389),(5,t8_381),(6,t19_397)]) λt20_398=>pw w396 (Instr.buildSlice 23 1 #[(0,t20_398)]) λt21_400 w399=>
 pp (Instr.build 25 #[(1,t21_400)]) λt22_401=>so w399 25 t0 t22_401 λw402=>pq w402 (zi 25 t0) λr403=>K r403 w402)∧
 (ca zu #[(i6 2)] w386 λt13_405 w404=>
 Ext w386 w404∧
 pp (Instr.build 96 #[(0,(Value.int .u8 1)),(1,t12),(2,t13_405),(10,(i6 2))]) λt14_406=>((pw w404 (Instr.buildSlice 41 3 #[(0,t4_383),(1,t5_385),(2,t6_387)]) λt7_408 w407=>
 Ext w404 w407∧
 ca zu #[(i6 3)] w407 λt16_410 w409=>
 Ext w407 w409∧
 pp (Instr.build 96 #[(0,(Value.int .u8 1)),(1,t15),(2,t16_410),(10,(i6 3))]) λt17_411=>pw w409 (Instr.buildSlice 99 4 #[(0,t11),(1,t14_406),(2,t17_411),(3,t18)]) λt19_413 w412=>
 pp (Instr.build 101 #[(4,t7_408),(5,t8_381),(6,t19_413)]) λt20_414=>pw w412 (Instr.buildSlice 23 1 #[(0,t20_414)]) λt21_416 w415=>
 pp (Instr.build 25 #[(1,t21_416)]) λt22_417=>so w415 25 t0 t22_417 λw418=>pq w418 (zi 25 t0) λr419=>K r419 w418)∧
 (ca zu #[(i6 3)] w404 λt16_421 w420=>
 Ext w404 w420∧
 pp (Instr.build 96 #[(0,(Value.int .u8 1)),(1,t15),(2,t16_421),(10,(i6 3))]) λt17_422=>((pw w420 (Instr.buildSlice 41 3 #[(0,t4_383),(1,t5_385),(2,t6_387)]) λt7_424 w423=>
 Ext w420 w423∧
 pw w423 (Instr.buildSlice 99 4 #[(0,t11),(1,t14_406),(2,t17_422),(3,t18)]) λt19_426 w425=>
 pp (Instr.build 101 #[(4,t7_424),(5,t8_381),(6,t19_426)]) λt20_427=>pw w425 (Instr.buildSlice 23 1 #[(0,t20_427)]) λt21_429 w428=>
 pp (Instr.build 25 #[(1,t21_429)]) λt22_430=>so w428 25 t0 t22_430 λw431=>pq w431 (zi 25 t0) λr432=>K r432 w431)∧
 (pw w420 (Instr.buildSlice 99 4 #[(0,t11),(1,t14_406),(2,t17_422),(3,t18)]) λt19_434 w433=>
 pw w433 (Instr.buildSlice 41 3 #[(0,t4_383),(1,t5_385),(2,t6_387)]) λt7_436 w435=>
 Ext w433 w435∧
 pp (Instr.build 101 #[(4,t7_436),(5,t8_381),(6,t19_434)]) λt20_437=>pw w435 (Instr.buildSlice 23 1 #[(0,t20_437)]) λt21_439 w438=>
 pp (Instr.build 25 #[(1,t21_439)]) λt22_440=>so w438 25 t0 t22_440 λw441=>pq w441 (zi 25 t0) λr442=>K r442 w441))))))))
theorem agC(h:aaZ  w K):zd prog XB #[] w K:=
 okC false (.s (.r (rz 1 0 2)) (.s (.r (rz 4 0 162)) (.s (.r (ra 4 5 0 (ra 1 11 1 (ra 1 14 0 (.alt 0 .u (.alt 1 .u (.alt 2 .u (.alt 3 .u (.alt 4 .u (ra 2 9 3 (ra 2 12 3 (rz 5 15 546))) (ra 2 9 3 (.alt 4 .u (ra 2 12 3 (rz 5 15 546)) (ra 2 12 3 (.alt 4 .u (rz 5 15 546) (ra 1 15 2 (ra 1 4 3 (rz 4 16 136)))))))) (.alt 4 .u (.alt 3 .u (ra 2 9 3 (ra 2 12 3 (rz 5 15 546))) (ra 2 9 3 (.alt 3 .u (ra 2 12 3 (rz 5 15 546)) (ra 2 12 3 (.alt 3 .u (rz 5 15 546) (ra 1 15 2 (ra 1 3 3 (rz 4 16 136)))))))) (ra 2 9 3 (.alt 3 .u (.alt 4 .u (ra 2 12 3 (rz 5 15 546)) (ra 2 12 3 (.alt 4 .u (rz 5 15 546) (ra 1 15 2 (ra 1 4 3 (rz 4 16 136)))))) (.alt 4 .u (.alt 3 .u (ra 2 12 3 (rz 5 15 546)) (ra 2 12 3 (.alt 3 .u (rz 5 15 546) (ra 1 15 2 (ra 1 3 3 (rz 4 16 136)))))) (ra 2 12 3 (.alt 3 .u (.alt 4 .u (rz 5 15 546) (ra 1 15 2 (ra 1 4 3 (rz 4 16 136)))) (.alt 4 .u (.alt 3 .u (rz 5 15 546) (ra 1 15 2 (ra 1 3 3 (rz 4 16 136)))) (ra 1 15 2 (.alt 3 .u (ra 1 4 3 (rz 4 16 136)) (ra 1 4 3 (ra 1 3 3 (rz 4 16 136))))))))))))) (ra 1 4 3 (ra 1 2 3 (.alt 3 .u (ra 2 9 3 (ra 2 12 3 (rz 5 15 546))) (ra 2 9 3 (.alt 3 .u (ra 2 12 3 (rz 5 15 546)) (ra 2 12 3 (.alt 3 .u (rz 5 15 546) (ra 1 15 2 (ra 1 3 3 (rz 4 16 136))))))))))) (ra 1 4 3 (ra 2 1 15 (.alt 3 .u (ra 2 9 3 (ra 2 12 3 (rz 5 15 546))) (ra 2 9 3 (.alt 3 .u (ra 2 12 3 (rz 5 15 546)) (ra 2 12 3 (.alt 3 .u (rz 5 15 546) (ra 1 15 2 (ra 1 3 3 (rz 4 16 136))))))))))) (ra 1 4 3 (ra 3 0 63 (.alt 3 .u (ra 2 9 3 (ra 2 12 3 (rz 5 15 546))) (ra 2 9 3 (.alt 3 .u (ra 2 12 3 (rz 5 15 546)) (ra 2 12 3 (.alt 3 .u (rz 5 15 546) (ra 1 15 2 (ra 1 3 3 (rz 4 16 136))))))))))))))) (.n)))) func74 rfl (by kernel_rfl) (by kernel_rfl) h
def abX(t0 t1:Value)(w:World)(K:VW):Prop:=
 pw w (Instr.alloc 48 true (.tuple #[])) λt4 w1=>
 ca JU #[t0,t1] w1 λt7 w2=>
 so w2 48 t4 t7 λw3=>pq w3 (zi 48 t4) λr4=>K r4 w3
theorem ah6{t1:Value}(h:abX t0 t1 w K):zd prog jV #[t0,t1] w K:=
 okC false (.s (.r (rz 1 0 2)) (.s (.r (rz 4 0 160)) (.n))) func75 rfl (by kernel_rfl) (by kernel_rfl) h
def abY(w:World)(K:VW):Prop:=
 pw w (Instr.alloc 43 true (.tuple #[])) λt0 w1=>
 pp (Instr.build 43 #[(0,(Value.int .u8 1))]) λt1=>so w1 43 t0 t1 λw2=>pq w2 (zi 43 t0) λr3=>K r3 w2
theorem ah7(h:abY  w K):zd prog xT #[] w K:=
 okC false (.s (.r (rz 1 0 2)) (.s (.r (rz 2 0 8)) (.n))) func136 rfl (by kernel_rfl) (by kernel_rfl) h
def abZ(t0:Value)(w:World)(K:VW):Prop:=
 pw w (Instr.alloc 43 true (.tuple #[])) λt2 w1=>
 ca xT #[] w1 λt4 w2=>
 pw w2 (Instr.buildSlice 41 1 #[(0,t4)]) λt5 w3=>
 pp (Instr.build 43 #[(0,(Value.int .u8 4)),(1,t0),(2,(i6 (-1))),(4,t5)]) λt6=>so w3 43 t2 t6 λw4=>pq w4 (zi 43 t2) λr5=>K r5 w4
theorem ah8(h:abZ t0 w K):zd prog qL #[t0] w K:=
 okC false (.s (.r (rz 1 0 2)) (.s (.r (rz 5 0 552)) (.n))) func137 rfl (by kernel_rfl) (by kernel_rfl) h
def ab0(t0:Value)(w:World)(K:VW):Prop:=
 pw w (Instr.alloc 93 true (.tuple #[])) λt2 w1=>
 pp (Instr.build 93 #[(0,(Value.int .u8 1)),(1,t0)]) λt4=>so w1 93 t2 t4 λw2=>pq w2 (zi 93 t2) λr3=>K r3 w2
theorem ah9(h:ab0 t0 w K):zd prog zu #[t0] w K:=
 okC false (.s (.r (rz 1 0 2)) (.s (.r (rz 3 0 32)) (.n))) func138 rfl (by kernel_rfl) (by kernel_rfl) h
end
end Go.Proofs.Tryz
namespace Go.Proofs
open Go.Sh Go.RowKit Go.BM
section
theorem ab1{w:World}{K:Value→World→Prop}(h:∀w',Ext w w'→K anH w'):zd Tryz.prog Tryz.xT #[] w K:=by
 refine Tryz.ah7 ?_
 unfold Tryz.abY
 have S:StX noX w nothing w []:=St.start (λ_ _ h=>h.elim)
 refine S.al λb0 w1 S=>?_
 refine zq (cs:=XU.toArray) (by kernel_rfl) ?_
 refine S.stB (b:=b0) λw2 S=>?_
 refine S.ceB (b:=b0) ?_ rfl
 exact h _ S.ext
theorem aiM{n:Int}{w:World}{K:Value→World→Prop}(h:∀w',Ext w w'→K (anI n) w'):zd Tryz.prog Tryz.zu #[.int .i64 n] w K:=by
 refine Tryz.ah9 ?_
 unfold Tryz.ab0
 have S:StX noX w nothing w []:=St.start (λ_ _ h=>h.elim)
 refine S.al λb0 w1 S=>?_
 refine zq (cs:=#[.int .u8 1,.int .i64 n,.int .i64 0,.slice none 0 0]) (by kernel_rfl) ?_
 refine S.stB (b:=b0) λw2 S=>?_
 refine S.ceB (b:=b0) ?_ rfl
 exact h _ S.ext
theorem aiN{m:Bool}{w:World}{K:Value→World→Prop}(h:∀q cap sn w',Ext w w'→New w sn w'→TyG sn (tyV (.mk 4 m (-1) 0 [ym]) q cap) (.mk 4 m (-1) 0 [ym])→K (tyV (.mk 4 m (-1) 0 [ym]) q cap) w'):zd Tryz.prog Tryz.qL #[.bool m] w K:=by
 refine Tryz.ah8 ?_
 unfold Tryz.abZ
 have S:StX noX w nothing w []:=St.start (λ_ _ h=>h.elim)
 refine S.al λb2 w1 S=>?_
 refine ab1 λw2 e2=>?_
 have S:=S.go e2
 refine S.lit (e:=43) (cs:=XU) (by kernel_rfl) λb5 w3 S=>?_
 refine zq (cs:=#[.int .u8 4,.bool m,.int .i64 (-1),.int .i64 0,.slice (some ⟨b5,0,none⟩) 1 1]) (by kernel_rfl) ?_
 refine S.stB (b:=b2) λw4 S=>?_
 refine S.ceB (b:=b2) ?_ rfl
 obtain⟨S,_,ha⟩:=S.litNew b5 (sz:=5) (R:=TyC nothing) (l:=[ym]) (by exact(y8 (c:=XU) rfl (show TyC nothing XU ym from XR))) (by decide)
 exact h (some ⟨b5,0,none⟩) 1 (nothing.or (Go.Sh.one b5 XU 43)) _ S.ext (S.newOf (Above.no.or' ha)) (adh (u:=ym) (v:=anH) XR)
theorem aia{u:UnD}{v:Value}{w:World}{r:Gh}{K:Value→World→Prop}(hr:Holds r w)(hu:UnG r v u)(h:∀(b:Bool) w',Ext w w'→K (.bool b) w'):zd Tryz.prog Tryz.XA #[v] w K:=by
 refine Tryz.agB ?_
 unfold Tryz.aaY
 obtain⟨p0,cap0,vf,rfl,_,_,hst,hsl,hfn⟩:=hu
 obtain⟨qf,capf,rfl,_,_⟩:=hfn.sl.shape
 have hfl:u.fs.length≤9223372036854775807:=hfn.few
 have hsl':u.ss.length≤9223372036854775807:=hsl
 have S:=St.start hr
 refine S.box λb1 w1 S=>?_
 have S:StX noX w r w1 [.cell b1 [.slice p0 u.ss.length cap0,.slice qf u.fs.length capf,.int .i64 u.mn] 25]:=S
 refine gg_ ?_
 refine zn (c:=decide (40<(u.fs.length:Int))) (λ_ K2 hK2=>by refine gg_ ?_;exact hK2) ?_
 refine c_b (λ_=>h _ _ S.ext) (λ_=>?_)
 refine zj (ι:=Nat) (λi=>[.int .i64 (i:Nat)]) (λi w'=>i≤u.ss.length∧StX noX w r w' _) (λi=>u.ss.length-i) 0 rfl ⟨gzl _,S⟩ ?_
 clear S
 rintro i d w2 ⟨hi,S⟩ K6 hK6
 rw[gdz]
 refine gg_ ?_
 refine zh (λhlt=>?_) (λhge=>?_)
 ·have hlt:i<u.ss.length:=by omega
  obtain⟨b,off,q,capq,rfl,hcell,_,_,_⟩:=xI hst hlt
  refine gg_ ?_
  refine zf (by rw[tnc];exact S.at hcell) ?_
  refine gg_ ?_
  refine c_b (λ_=>h _ _ S.ext) (λ_=>?_)
  refine gg_ ?_
  rw[show ((i:Int)+1)=((i+1:Nat):Int)by omega]
  exact hK6 (i+1) _ ⟨hlt,S⟩ (by omega)
 refine zj (ι:=Nat×Int) (λi=>[.int .i64 i.2,.int .i64 (i.1:Nat)]) (λi w'=>i.1≤u.fs.length∧StX noX w r w' _) (λi=>u.fs.length-i.1) (0,0) rfl ⟨gzl _,S⟩ ?_
 clear S hK6 K6 hge hi
 rintro⟨i,n⟩ d w3 ⟨hi,S⟩ K7 hK7
 simp only at hi S⊢
 simp only[gdz,gds]
 refine gg_ ?_
 refine zh (λhlt=>?_) (λhge=>h _ _ S.ext)
 have hlt:i<u.fs.length:=by omega
 obtain⟨bf,of,cf,rfl,hcf,hgc,hfo⟩:=hfn.sl.get (by decide) hlt
 generalize u.fs[i]=g at hgc
 obtain⟨vo,vt,vn,vp,rfl,h1,h2,h3,h4⟩:=id hgc
 obtain⟨qt,capt,rfl,_,hct⟩:=h2.sl.shape
 obtain⟨qp,capp,rfl,_,_⟩:=h4.sl.shape
 have S:=S.go (Ext.drew _)
 have l4:Ob r λw=>w.cell? ⟨bf,of+i*7+4,none⟩=some (.slice qt g.tys.length capt):=hfo 4 _ rfl
 have l6:Ob r λw=>w.cell? ⟨bf,of+i*7+6,none⟩=some (.slice qp g.pts.length capp):=hfo 6 _ rfl
 refine gg_ ?_
 refine zf (by rw[tnc];exact S.at l6) ?_
 refine gg_ ?_
 refine zf (by rw[tnc];exact S.at l4) ?_
 refine gp_ ?_
 refine aaV λx=>?_
 refine aaV λy=>?_
 refine gg_ ?_
 refine zf (by rw[tnc];exact S.at l6) ?_
 refine gg_ ?_
 refine zn (c:=decide (120<(g.tys.length:Int))) (λ_ K2 hK2=>?_) ?_
 ·refine gg_ ?_
  refine zf (by rw[tnc];exact S.at l4) ?_
  refine gg_ ?_
  exact hK2
 refine zn (c:=decide (480<y)) (λ_ K2 hK2=>by refine gg_ ?_;exact hK2) ?_
 refine c_b (λ_=>h _ _ S.ext) (λ_=>?_)
 refine gg_ ?_
 rw[show ((i:Int)+1)=((i+1:Nat):Int)by omega]
 exact hK7 (i+1,y) _ ⟨hlt,S⟩ (by show u.fs.length-(i+1)<u.fs.length-i;omega)
theorem aib{w:World}{K:Value→World→Prop}(h:∀v s w',Ext w w'→New w s w'→UnG s v zS→K v w'):zd Tryz.prog Tryz.XB #[] w K:=by
 refine Tryz.agC ?_
 unfold Tryz.aaZ
 have S:StX noX w nothing w []:=St.start (λ_ _ h=>h.elim)
 refine S.al λb0 w1 S=>?_
 refine S.lit (e:=84) (cs:=[.int .i64 (-1)]) (by kernel_rfl) λb2 w2 S=>?_
 refine zq (cs:=#[.int .i64 2,.slice (some ⟨b2,0,none⟩) 1 1]) (by kernel_rfl) ?_
 refine S.al λb1 w3 S=>?_
 refine S.stB (b:=b1) λw4 S=>?_
 have S:=S.go (Ext.drew _)
 refine zq (cs:=#[.int .i64 2,.slice none 0 0]) (by kernel_rfl) ?_
 refine zq (cs:=#[.int .i64 1,.slice none 0 0]) (by kernel_rfl) ?_
 refine zq (cs:=hl0.toArray) (by kernel_rfl) ?_
 refine zq (cs:=#[.int .i64 1,.slice none 0 0]) (by kernel_rfl) ?_
 refine S.ldB (b:=b1) ?_ rfl
 refine zq (cs:=hl3.toArray) (by kernel_rfl) ?_
 have S:=S.drop b1
 have fin:∀{w9:World}{b7 b8 b19 b21:Nat}{q6:Option Addr}{c6:Nat}{sn:Gh}{M M1 M2 M3 M4 M5:List Asr}(S:StX noX w (nothing.or sn) w9 M)
   [ZT b7 M (XU++(XU++tyL qU q6 c6)) 43 M1] [ZT b8 M1 [.string ByteArray.empty,.string ByteArray.empty,.string ByteArray.empty] 9 M2] [ZT b2 M2 [.int .i64 (-1)] 84 M3]
   [ZT b19 M3 (hl0++(hl1++(hl2 b2++hl3))) 96 M4] [ZT b21 M4 [.string ByteArray.empty,.int .i64 0,.slice none 0 0,.int .i64 0,.slice (some ⟨b7,0,none⟩) 3 3,.slice (some ⟨b8,0,none⟩) 3 3,.slice (some ⟨b19,0,none⟩) 4 4] 101 M5],
   Above w sn→TyG sn (tyV qU q6 c6) qU→K (.agg #[.slice none 0 0,.slice (some ⟨b21,0,none⟩) 1 1,.int .i64 0]) w9:=by
  intro w9 b7 b8 b19 b21 q6 c6 sn M M1 M2 M3 M4 M5 S _ _ _ _ _ ha ht
  obtain⟨S,h7,a7⟩:=S.litNew b7 (sz:=5) (R:=TyC sn) (l:=[ym,ym,qU]) (by exact(yI rfl XR (yI rfl XR (y8 rfl ht)))) (by decide)
  obtain⟨S,h8,a8⟩:=S.litNew b8 (sz:=1) (R:=alp) (l:=[ByteArray.empty,ByteArray.empty,ByteArray.empty]) (by exact(yI (c:=[.string ByteArray.empty]) rfl rfl (yI (c:=[.string ByteArray.empty]) rfl rfl (y8 rfl rfl)))) (by decide)
  obtain⟨S,h2,a2⟩:=S.litNew b2 (sz:=1) (R:=xp) (l:=[-1]) (by exact(y8 rfl ⟨rfl,by unfold XO;omega⟩)) (by decide)
  have hz:∀{r:Gh}{α:Type}{sz:Nat}{R:List Value→α→Prop},SlB sz r R (.slice none 0 0) ([]:List α):=ai1
  obtain⟨S,h19,a19⟩:=S.litNew b19 (sz:=21) (R:=PtG (Go.Sh.one b2 [.int .i64 (-1)] 84)) (l:=[hp0,hp1,hp2,hp3])
   (by exact(yI rfl ⟨_,_,_,_,_,rfl,hz,hz,hz,hz,hz⟩ (yI rfl ⟨_,_,_,_,_,rfl,hz,hz,hz,hz,hz⟩ (yI rfl ⟨_,_,_,_,_,rfl,Jz h2,hz,hz,hz,hz⟩ (y8 rfl ⟨_,_,_,_,_,rfl,hz,hz,hz,hz,hz⟩))))) (by decide)
  obtain⟨S,h21,a21⟩:=S.litNew b21 (sz:=7) (R:=GrG (((((nothing.or sn).or (Go.Sh.one b7 (XU++(XU++tyL qU q6 c6)) 43)).or (Go.Sh.one b8 [.string ByteArray.empty,.string ByteArray.empty,.string ByteArray.empty] 9)).or (Go.Sh.one b2 [.int .i64 (-1)] 84)).or (Go.Sh.one b19 (hl0++(hl1++(hl2 b2++hl3))) 96))) (l:=[zJ])
   (by exact(y8 rfl ⟨_,_,_,_,rfl,hz,Jz (h7.up' inferInstance λc x hx=>TyG.up hx),Jz h8.cells,Jz (h19.up' inferInstance λc x hx=>PtG.up hx)⟩)) (by decide)
  exact h _ _ _ S.ext (S.newOf (((((Above.no.or' ha).or' a7).or' a8).or' a2).or' a19 |>.or' a21)) ⟨none,0,_,rfl,λ_=>rfl,gzl _,trivial,gzl _,Jz (h21.up' inferInstance λc x hx=>GrG.up hx)⟩
 repeat' (first
  |(with_reducible refine ab1 λw9 e9=>⟨e9,?_⟩;have S:=S.go e9)
  |(with_reducible refine aiM λw9 e9=>⟨e9,?_⟩;have S:=S.go e9)
  |(with_reducible refine aiN λq6 c6 sn w9 e9 n9 t9=>⟨e9,?_⟩;obtain⟨S,d9,a9⟩:=S.tell e9 n9)
  |(with_reducible refine S.litU (t:=41) (e:=43) (cs:=XU++(XU++tyL qU q6 c6)) (by kernel_rfl) λb7 w9 S=>?_)
  |(with_reducible refine S.mkSU (by decide) (by decide) λb8 w9 S=>?_)
  |(with_reducible refine zq (t:=96) (parts:=#[(0,.int .u8 1),(1,.agg #[.int .i64 1,.slice none 0 0]),(2,anI 2),(10,.int .i64 2)]) (cs:=hl1.toArray) (by kernel_rfl) ?_)
  |(with_reducible refine zq (t:=96) (cs:=(hl2 b2).toArray) (by kernel_rfl) ?_)
  |(with_reducible refine S.lit (t:=99) (e:=96) (cs:=hl0++(hl1++(hl2 b2++hl3))) (by kernel_rfl) λb19 w9 S=>?_)
  |(with_reducible refine zq (t:=101) (cs:=#[.string ByteArray.empty,.int .i64 0,.slice none 0 0,.int .i64 0,.slice (some ⟨b7,0,none⟩) 3 3,.slice (some ⟨b8,0,none⟩) 3 3,.slice (some ⟨b19,0,none⟩) 4 4]) (by kernel_rfl) ?_)
  |(with_reducible refine S.lit (t:=23) (e:=101) (cs:=[.string ByteArray.empty,.int .i64 0,.slice none 0 0,.int .i64 0,.slice (some ⟨b7,0,none⟩) 3 3,.slice (some ⟨b8,0,none⟩) 3 3,.slice (some ⟨b19,0,none⟩) 4 4]) (by kernel_rfl) λb21 w9 S=>?_)
  |(with_reducible refine zq (t:=25) (cs:=#[.slice none 0 0,.slice (some ⟨b21,0,none⟩) 1 1,.int .i64 0]) (by kernel_rfl) ?_)
  |(with_reducible refine And.intro ?_ ?_)
  |(refine S.stB (b:=b0) λw9 S=>?_;refine S.ceB (b:=b0) ?_ rfl;exact fin (b7:=b7) (b8:=b8) (b19:=b19) (b21:=b21) S a9 t9)
)
section
variable {g:GrD} {x:LnD} {ws rs:List (BitVec 64)}
def Yc(ws rs:List (BitVec 64))(p:Int):Bool:=bit ws p.toNat && !bit rs p.toNat
theorem afP{p:Int}:Yc ws rs p=true↔bit ws p.toNat=true∧¬bit rs p.toNat=true:=by
 rw[Yc,gba,Bool.not_eq_true',Bool.not_eq_true]
def minF(ws rs:List (BitVec 64))(f:Int)(A:List Int):Int:=A.foldl (λf p=>if Yc ws rs p=true then min f p else f) f
theorem ak3{f:Int}{A:List Int}{i:Nat}(hi:i<A.length):minF ws rs f (A.take (i+1))=if Yc ws rs A[i]=true then min (minF ws rs f (A.take i)) A[i]else minF ws rs f (A.take i):=by
 rw[minF,minF,List.take_succ_eq_append_getElem hi,List.foldl_append];rfl
theorem aff{n:Int}:∀{A:List Int}{f:Int},(∀p∈A,p<n)→(minF ws rs f A<n↔f<n∨∃p∈A,bit ws p.toNat=true∧¬bit rs p.toNat=true)
 |[],f,_=>by simp[minF]
 |a::A,f,h=>by
  have ih:=aff (A:=A) (f:=if Yc ws rs a=true then min f a else f) λp hp=>h p (List.mem_cons_of_mem _ hp)
  have e:minF ws rs f (a::A)=minF ws rs (if Yc ws rs a=true then min f a else f) A:=rfl
  have ha:=h a List.mem_cons_self
  rw[e,ih]
  by_cases hc:Yc ws rs a=true
  ·rw[if_pos hc]
   exact⟨λ_=>.inr ⟨a,List.mem_cons_self,afP.1 hc⟩,λ_=>.inl (by omega)⟩
  ·rw[if_neg hc]
   constructor
   ·rintro(h1|⟨p,hp,h2⟩)
    ·exact .inl h1
    ·exact .inr ⟨p,List.mem_cons_of_mem _ hp,h2⟩
   ·rintro(h1|⟨p,hp,h2⟩)
    ·exact .inl h1
    ·rcases List.mem_cons.1 hp with rfl|hp
     ·exact absurd (afP.2 h2) hc
     ·exact .inr ⟨p,hp,h2⟩
def eachF(g:GrD)(x:LnD)(ws rs:List (BitVec 64))(f:Int)(E:List Nat):Int:=E.foldl (λ(f:Int) (q:Nat)=>if qD g x (q:Int)=true then f else minF ws rs f (xq g (q:Int))) f
theorem ajW{f:Int}{E:List Nat}{k q:Nat}(hk:E[k]? = some q):eachF g x ws rs f (E.take (k+1))=if qD g x (q:Int)=true then eachF g x ws rs f (E.take k)else minF ws rs (eachF g x ws rs f (E.take k)) (xq g (q:Int)):=by
 obtain⟨hi,he⟩:=List.getElem?_eq_some_iff.1 hk
 rw[eachF,eachF,List.take_succ_eq_append_getElem hi,List.foldl_append,he];rfl
theorem aic{n:Int}(hn:∀q:Int,∀p∈xq g q,p<n):∀{E:List Nat}{f:Int},(eachF g x ws rs f E<n↔f<n∨∃q∈E,qD g x (q:Int)=false∧∃p∈xq g (q:Int),bit ws p.toNat=true∧¬bit rs p.toNat=true)
 |[],f=>by simp[eachF]
 |a::E,f=>by
  have ih:=aic hn (E:=E) (f:=if qD g x (a:Int)=true then f else minF ws rs f (xq g (a:Int)))
  have e:eachF g x ws rs f (a::E)=eachF g x ws rs (if qD g x (a:Int)=true then f else minF ws rs f (xq g (a:Int))) E:=rfl
  rw[e,ih]
  cases hc:qD g x (a:Int)with
  |true=>
   rw[if_pos rfl]
   constructor
   ·rintro(h1|⟨q,hq,h2⟩)
    ·exact .inl h1
    ·exact .inr ⟨q,List.mem_cons_of_mem _ hq,h2⟩
   ·rintro(h1|⟨q,hq,h2⟩)
    ·exact .inl h1
    ·rcases List.mem_cons.1 hq with rfl|hq
     ·rw[hc]at h2;exact absurd h2.1 (by decide)
     ·exact .inr ⟨q,hq,h2⟩
  |false=>
   rw[if_neg (by decide),aff (hn _)]
   constructor
   ·rintro((h1|h1)|⟨q,hq,h2⟩)
    ·exact .inl h1
    ·exact .inr ⟨a,List.mem_cons_self,hc,h1⟩
    ·exact .inr ⟨q,List.mem_cons_of_mem _ hq,h2⟩
   ·rintro(h1|⟨q,hq,h2⟩)
    ·exact .inl (.inl h1)
    ·rcases List.mem_cons.1 hq with rfl|hq
     ·exact .inl (.inr h2.2)
     ·exact .inr ⟨q,hq,h2⟩
theorem acO{W:Int}(hm:BM.May W rs){k:Nat}:k∈Yb W rs↔k<W.toNat∧bit rs k=true:=by
 rw[afK hm,ajO hm,List.mem_filter,List.mem_range]
theorem am0{u:UnD}(hpt:∀p∈g.pts,zG u g p=true)(hm:BM.May (g.pts.length:Int) rs):
  eachF g x ws rs (minF ws rs g.pts.length (xq g x.q)) (Yb (g.pts.length:Int) rs)<g.pts.length↔¬aaX g x ws rs:=by
 have hn:∀q:Int,∀p∈xq g q,p<(g.pts.length:Int):=λq p hp=>(JL hpt p hp).2
 rw[aic hn,aff (hn _)]
 constructor
 ·rintro((h|⟨p,hp,h1,h2⟩)|⟨q,hq,hk,p,hp,h1,h2⟩) hc
  ·omega
  ·exact h2 (hc.1 p hp h1)
  ·rw[acO hm]at hq
   exact h2 (hc.2 q (by omega) (by omega) (by rw[tnc];exact hq.2) hk p hp h1)
 ·intro hc
  refine Classical.byContradiction λhno=>hc ⟨λp hp h1=>?_,λq h0 h1 hq hk p hp h2=>?_⟩
  ·exact Classical.byContradiction λh2=>hno (.inl (.inr ⟨p,hp,h1,h2⟩))
  ·refine Classical.byContradiction λh3=>hno (.inr ⟨q.toNat,(acO hm).2 ⟨by omega,hq⟩,?_,p,?_,h2,h3⟩)
   ·rw[show ((q.toNat:Nat):Int)=q by omega];exact hk
   ·rw[show ((q.toNat:Nat):Int)=q by omega];exact hp
end
end
end Go.Proofs
namespace Go.Sh
theorem StX.alNU{P:Program}{X:Nat→Prop}{w0 w:World}{r:Gh}{L:List Asr}{t:TypeId}{c:List Value}(S:StX X w0 r w L)[z:ZrT P t c]{K:Value→World→Prop}(h:∀b w',StX X w0 r w' (.cell b c t::L)→K (.pointer (some ⟨b,0,none⟩)) w'):
  opW P w (Instr.alloc t true (.tuple #[])) λt' w'=>NC w w'∧Ext w w'∧K t' w':=
 aei z.h λb w' hb e _ B=>⟨NC.of_ext e,e,h b w' (S.add e (by omega) B)⟩
end Go.Sh
namespace Go.Proofs
open Go.Sh Go.RowKit Go.BM
section
section
variable {u:UnD} {g:GrD} {d:RgD} {e:Int} {ls:List LnD} {b:Nat} {w:World} {r:Gh} {K:Value→World→Prop}
abbrev ajX(b12 b15 b16 b17:Nat):Value:=.func (.func Tryz.Qg) #[] #[.pointer (some ⟨b12,0,none⟩),.pointer (some ⟨b15,0,none⟩),.pointer (some ⟨b16,0,none⟩),.pointer (some ⟨b17,0,none⟩)]
theorem JN{q f:Int}{b12 b15 b16 b17:Nat}{X:Nat→Prop}{w0:World}{M:List Asr}{W W2:Int}{ws rs:List (BitVec 64)}{cr cq:List Value}(S:StX X w0 r w (.cell b17 [.int .i64 f] 3::M))(hL:LkG2 r b u g d e ls)
  (h12:Ob r λw=>w.cell? ⟨b12,0,none⟩=some (.pointer (some ⟨b,0,none⟩))) (hrw:RwbC r cr (W,ws)) (h15:∀j v,cr[j]? = some v→Ob r λw=>w.cell? ⟨b15,j,none⟩=some v)
  (hrs:RwbC r cq (W2,rs)) (h16:∀j v,cq[j]? = some v→Ob r λw=>w.cell? ⟨b16,j,none⟩=some v)
  (hwl:ws.length≤100000) (hws:g.pts.length≤64*ws.length) (hsl:rs.length≤100000) (hss:g.pts.length≤64*rs.length) (hq0:0≤q) (hq:q.toNat<g.pts.length) (hnx:∀p∈nextP g.pts[q.toNat],0≤p∧p<g.pts.length)
  (h:∀w',NC w w'→StX X w0 r w' (.cell b17 [.int .i64 (minF ws rs f (nextP g.pts[q.toNat]))] 3::M)→K (.tuple #[]) w'):
  zD Tryz.prog (ajX b12 b15 b16 b17) #[.int .i64 q] w K:=by
 refine aml (by kernel_rfl) ?_
 refine Tryz.acI ?_
 unfold Tryz.QH
 have hlow:=S.low
 have R:=S.part
 refine zf (R.at h12) ?_
 refine Q6 R.holds hL hq0 hq λv10 w1 e1 o1=>⟨NC.of_ext e1,?_⟩
 have hfl:=afO (p:=g.pts[q.toNat])
 generalize nextP g.pts[q.toNat]=A at hnx h o1 hfl
 obtain⟨s1,R,hs1,hb1,_⟩:=(R.take e1 o1).doneRow qN (by decide) rfl
 haveI:jT s1:=⟨λb o h=>by obtain⟨c,rfl⟩:=hb1 b o h;rfl⟩
 obtain⟨qr,kr,rfl,_,_⟩:=hs1.shape
 obtain⟨pw',cw,rfl,hws'⟩:=id hrw
 obtain⟨pq',cq',rfl,hrs'⟩:=id hrs
 refine gg_ ?_
 refine zj (ι:=Nat) (λi=>[.int .i64 (i:Nat)]) (λi w'=>i≤A.length∧StX (Xo (.cell b17 [.int .i64 f] 3::M)) w (r.or s1) w' (.cell b17 [.int .i64 (minF ws rs f (A.take i))] 3::M)) (λi=>A.length-i) 0 rfl ⟨gzl _,R⟩ ?_
 clear R
 rintro i d0 w3 ⟨hi,R⟩ K2 hK2
 simp only[gdz]
 refine gg_ ?_
 refine zh (λhlt=>?_) (λhge=>?_)
 ·have hlt:i<A.length:=by omega
  have hsn:=ak3 (ws:=ws) (rs:=rs) (f:=f) hlt
  obtain⟨b8,o8,rfl,_,hc8⟩:=xW hs1 hlt
  have hp:=hnx _ (gem hlt)
  generalize A[i]=p at hsn hc8 hp
  generalize minF ws rs f (A.take i)=m at R hsn
  refine zk (λ_ w'=>StX (Xo (.cell b17 [.int .i64 f] 3::M)) w (r.or s1) w' (.cell b17 [.int .i64 (minF ws rs f (A.take (i+1)))] 3::M)) (λK6 hK6=>?_) ?_
  ·rw[hsn]at hK6
   refine gg_ ?_
   refine zf (by rw[tnc];exact R.at (Ob.up (s:=r.or s1) hc8)) ?_
   refine zo (n:=2) (c:=[.int .i64 W,.slice pw' ws.length cw]) rfl (λj v hj=>by rw[Nat.zero_add];exact R.at (Ob.up (s:=r.or s1) (h15 j v hj))) ?_
   refine jM R.holds (RwbC.up hrw) hp.1 (by omega) hwl λw4 e4=>⟨NC.of_ext e4,?_⟩
   have R:=R.go e4
   refine zr (c:=!bit rs p.toNat) (λ_ K7 hK7=>?_) λw5 e5=>?_
   ·refine zo (n:=2) (c:=[.int .i64 W2,.slice pq' rs.length cq']) rfl (λj v hj=>by rw[Nat.zero_add];exact R.at (Ob.up (s:=r.or s1) (h16 j v hj))) ?_
    refine jM R.holds (RwbC.up hrs) hp.1 (by omega) hsl λw6 e6=>⟨NC.of_ext e6,?_⟩
    refine gp_ ?_
    exact hK7 _ e6
   have R:=R.go e5
   refine c_b (λhc=>?_) (λhc=>?_)
   ·rw[if_pos (show Yc ws rs p=true from hc)]at hK6
    refine R.ld (b:=b17) ?_
    refine amj ?_
    refine R.stN' (b:=b17) λw7 R=>?_
    exact hK6 [] _ R
   ·rw[if_neg (show¬Yc ws rs p=true by rw[Yc,hc];decide)]at hK6
    exact hK6 [] _ R
  ·clear R
   rintro _ w9 R d
   refine gg_ ?_
   exact hK2 (i+1) _ ⟨hlt,R⟩ (by omega)
 ·have hie:i=A.length:=by omega
  rw[hie,List.take_length]at R
  intro w17 e17
  have R:=R.shut e17
  have R:=R.less (q:=r) (λb o h=>.inl h) (List.Sublist.refl _)
  exact h _ (NC.of_doms S R.x) (S.whole R λ_ h=>h)
theorem aa0{R:List xM}{v:Value}{k:Nat}(hr:Holds r w)(hL:LkG2 r b u g d e ls)(hM:MayU u)(hH:HeadU u k g)(hpt:∀p∈g.pts,zG u g p=true)(hR:SlG 2 r (RwbC r) v R)(hf:R.length≤1000000)
  (h:∀x w',Ext w w'→(e=0→x=z7 R d.ct (g.pts.length+g.lv))→K (.bool x) w'):
  zd Tryz.prog Tryz.xv #[.pointer (some ⟨b,0,none⟩),v] w K:=
 abV hr hL hM hH hpt hR hf (λ_ w' e'=>h _ w' e' λ_=>rfl) λhe x w' e'=>h x w' e' λh0=>absurd h0 he
theorem agD{fn:Int}{v:Value}{R Q:List xM}{vR vQ:Value}(hr:Holds r w)(hu:UnG r v u)(hR:SlG 2 r (RwbC r) vR R)(hQ:SlG 2 r (RwbC r) vQ Q)(hf:R.length≤1000000)(hfq:Q.length≤1000000)(hT:TabG r)
  (h0:∀e w',e≠0→(∀g,IsF u fn g→lkE u fn=0→z7 R (lkR u fn).ct (g.pts.length+g.lv)=true→z7 Q (lkS u fn g).length g.pts.length=false)→Ext w w'→K (.tuple #[.int .i64 0,.int .i64 0,.bool false,.int .i64 e]) w')
  (h1:∀g,IsF u fn g→lkE u fn=0→z7 R (lkR u fn).ct (g.pts.length+g.lv)=true→z7 Q (lkS u fn g).length g.pts.length=true→∀(i p:Int)(ok:Bool) w',Ext w w'→(ok=true↔∀n (hn:n<(lkS u fn g).length),aaX g (lkS u fn g)[n] (R.getD (lkS u fn g)[n].re.toNat (0,[])).2 (Q.getD n (0,[])).2)→K (.tuple #[.int .i64 i,.int .i64 p,.bool ok,.int .i64 0]) w'):
  zd Tryz.prog Tryz.YB #[v,.int .i64 fn,vR,vQ] w K:=by
 refine Tryz.ae1 ?_
 unfold Tryz.VK
 obtain⟨pR,capR,rfl,_,_⟩:=hR.shape
 obtain⟨pQ,capQ,rfl,_,_⟩:=hQ.shape
 obtain⟨p0,cap0,vf,rfl,_,_,_,_,_⟩:=id hu
 have S:=St.start hr
 have hlow:=S.low
 refine S.boxN λb4 w1 _ S=>?_
 have S:StX noX w r w1 [.cell b4 [.slice p0 u.ss.length cap0,vf,.int .i64 u.mn] 25]:=S
 refine S.ldB (b:=b4) ?_ rfl
 refine ju S.holds hu (λhi w2 e2=>⟨NC.of_ext e2,?_⟩) λhi g b s w2 hg e2 n2 hL=>⟨NC.of_ext e2,?_⟩
 ·have S:=S.go e2
  refine gp_ ?_
  refine gp_ ?_
  refine S.alN λb12 w3 _ S=>?_
  refine S.stN' (b:=b12) λw4 S=>?_
  refine zk (λx w'=>x=[.int .i64 2]∧w'=w4) (λK3 hK3=>?_) ?_
  ·refine gp_ ?_
   refine c_f rfl ?_
   exact hK3 _ _ ⟨rfl,rfl⟩
  rintro _ _ ⟨rfl,rfl⟩ d
  rw[gdz]
  refine gp_ ?_
  refine c_t rfl ?_
  intro w16 e16
  exact h0 2 _ (by decide) (λg F=>by have:=F.is;rw[hi]at this;cases this) (S.shut e16).ext
 obtain⟨S,_,ha⟩:=S.tell e2 n2
 have F:=isF hi hg
 have hlf:(lkS u fn g).length≤1000000:=Nat.le_trans qC (by have:=F.head.pt1024;omega)
 refine gp_ ?_
 refine gp_ ?_
 refine S.alN λb12 w3 _ S=>?_
 refine S.stN' (b:=b12) λw4 S=>?_
 have S:StX noX w (r.or s) w4 [.cell b12 [.pointer (some ⟨b,0,none⟩)] 151,.cell b4 [.slice p0 u.ss.length cap0,vf,.int .i64 u.mn] 25]:=S
 have S:=(S.frzAt b12).tl
 have h12:Ob ((r.or s).or (Go.Sh.one b12 [.pointer (some ⟨b,0,none⟩)] 151)) λw=>w.cell? ⟨b12,0,none⟩=some (.pointer (some ⟨b,0,none⟩)):=y9 (i:=0) (c:=[.pointer (some ⟨b,0,none⟩)]) (T:=151) rfl
 have hL:LkG2 ((r.or s).or (Go.Sh.one b12 [.pointer (some ⟨b,0,none⟩)] 151)) b u g (lkR u fn) (lkE u fn) (lkS u fn g):=hL.up
 have hR2:SlG 2 ((r.or s).or (Go.Sh.one b12 [.pointer (some ⟨b,0,none⟩)] 151)) (RwbC ((r.or s).or (Go.Sh.one b12 [.pointer (some ⟨b,0,none⟩)] 151))) (.slice pR R.length capR) R:=hR.up' inferInstance λ_ _ h=>RwbC.up (RwbC.up (s:=r.or s) h)
 have hQ2:SlG 2 ((r.or s).or (Go.Sh.one b12 [.pointer (some ⟨b,0,none⟩)] 151)) (RwbC ((r.or s).or (Go.Sh.one b12 [.pointer (some ⟨b,0,none⟩)] 151))) (.slice pQ Q.length capQ) Q:=hQ.up' inferInstance λ_ _ h=>RwbC.up (RwbC.up (s:=r.or s) h)
 have hT2:TabG ((r.or s).or (Go.Sh.one b12 [.pointer (some ⟨b,0,none⟩)] 151)):=TabG.up (TabG.up (s:=r.or s) hT)
 have le0:Le r ((r.or s).or (Go.Sh.one b12 [.pointer (some ⟨b,0,none⟩)] 151)):=inferInstance
 generalize ((r.or s).or (Go.Sh.one b12 [.pointer (some ⟨b,0,none⟩)] 151))=r' at S h12 hL hR2 hQ2 hT2 le0
 have fin:∀{W W':World}{q:Gh}{L:List Asr},StX noX w q W L→(∀b o,r b o→q b o)→Shuts w.heap.size W W'→Ext w W':=λS hq e=>((S.less hq (List.nil_sublist _)).shut e).ext
 refine zk (λx w'=>∃x0,(lkE u fn=0→x0=z7 R (lkR u fn).ct (g.pts.length+g.lv))∧x=[.int .i64 (if(x0&&z7 Q (lkS u fn g).length g.pts.length)=true then lkE u fn else 2)]∧StX noX w r' w' []) (λK5 hK5=>?_) ?_
 ·refine gp_ ?_
  refine c_t rfl ?_
  have S:=S.go (Ext.drew _)
  refine zf (S.at h12) ?_
  refine zf (S.at h12) ?_
  refine aa0 S.holds hL F.may F.head F.pts hR2 hf λx0 w9 e9 hx0=>⟨NC.of_ext e9,e9,?_⟩
  have S:=S.go e9
  refine zr (c:=z7 Q (lkS u fn g).length g.pts.length) (λ_ K2 hK2=>?_) λw13 e13=>?_
  ·refine zf (S.at h12) ?_
   refine VO S.holds hL hQ2 hfq λw14 e14=>⟨NC.of_ext e14,e14,?_⟩
   exact hK2 _ e14
  have S:=S.go e13
  refine xH S.holds hL ?_
  exact⟨NC.of_ext (Ext.refl _),hK5 _ _ ⟨x0,hx0,rfl,S⟩⟩
 clear S
 rintro _ w8 ⟨x0,hx0,rfl,S⟩ dd
 rw[gdz]
 refine gp_ ?_
 refine zh (λhne=>?_) (λhe=>?_)
 ·intro w16 e16
  refine h0 _ _ hne (λg' F' hz hgr=>?_) (fin S le0.le e16)
  obtain rfl:g'=g:=Option.some.inj (F'.at'.symm.trans hg)
  cases hh:z7 Q (lkS u fn g').length g'.pts.length with
  |false=>rfl
  |true=>
   have h2:(x0&&z7 Q (lkS u fn g').length g'.pts.length)=true:=by rw[hx0 hz,hgr,hh];rfl
   rw[h2,if_pos rfl]at hne
   exact absurd hz hne
 have hgood:(x0&&z7 Q (lkS u fn g).length g.pts.length)=true:=by
  cases hh:(x0&&z7 Q (lkS u fn g).length g.pts.length)with
  |true=>rfl
  |false=>rw [hh,if_neg (by decide)]at he;exact absurd (show(2:Int)≠0 by decide) he
 have hz:lkE u fn=0:=by rw[hgood,if_pos rfl]at he;omega
 rw[gba]at hgood
 have hgR:z7 R (lkR u fn).ct (g.pts.length+g.lv)=true:=by rw[← hx0 hz];exact hgood.1
 have hgQ:=hgood.2
 have h1:=h1 g F hz hgR hgQ
 rw[hx0 hz,hgR,hgQ]
 have hre:=ah4 F hz
 generalize lkS u fn g=ls at *
 have hRl:=JM hgR
 have hQl:=JM hgQ
 have hn:=F.head.pt1024
 have hlv:=F.head.lv0
 have hpt:=F.pts
 have hnx:∀q:Int,∀hq:q.toNat<g.pts.length,∀p∈nextP g.pts[q.toNat],0≤p∧p<g.pts.length:=λq hq p hp=>JL hpt (q:=q) p (by rw[Zc hq];exact hp)
 obtain⟨pl,cl,hlc,hls⟩:=id hL.lns
 obtain⟨pp,cpp,hpc,hps⟩:=id hL.pts
 refine zf (S.at h12) ?_
 refine gg_ ?_
 refine zf (S.at hlc) ?_
 refine gg_ ?_
 refine zj (ι:=Nat) (λi=>[.int .i64 (if(true&&true)=true then lkE u fn else 2),.int .i64 (i:Nat)]) (λi w'=>i≤ls.length∧(∀n (hn:n<ls.length),n<i→aaX g ls[n] (R.getD ls[n].re.toNat (0,[])).2 (Q.getD n (0,[])).2)∧StX noX w r' w' []) (λi=>ls.length-i) 0 rfl ⟨gzl _,λn _ hn=>absurd hn (Nat.not_lt_zero _),S⟩ ?_
 repeat clear S
 rintro i d0 w20 ⟨hi,hno,S⟩ K17 hK17
 simp only[gdz,gds]
 refine gg_ ?_
 refine zh (λhlt=>?_) (λhge=>?_)
 ·have hlt:i<ls.length:=by omega
  obtain⟨bo,oo,co,hqo,hcl,hoc,hoo⟩:=hls.get (by decide) hlt
  have hx:=hre _ (gem hlt)
  have hxr:ls[i].re.toNat<R.length:=by have:=hRl.1;omega
  have hiq:i<Q.length:=by have:=hQl.1;omega
  obtain⟨br,or',cr,hqr,hclr,hrc,hro⟩:=hR2.get (by decide) hxr
  obtain⟨bq,oq,cq,hqq,hclq,hqc,hqo'⟩:=hQ2.get (by decide) hiq
  have hRx:=hRl.2 _ hxr
  have hQx:=hQl.2 _ hiq
  have hgd:R.getD ls[i].re.toNat (0,[])=R[ls[i].re.toNat]:=by rw[ggd,gqg hxr];rfl
  have hgq:Q.getD i (0,[])=Q[i]:=by rw[ggd,gqg hiq];rfl
  have hnext:(aaX g ls[i] R[ls[i].re.toNat].2 Q[i].2)→∀n (hn:n<ls.length),n<i+1→aaX g ls[n] (R.getD ls[n].re.toNat (0,[])).2 (Q.getD n (0,[])).2:=λhc n hn hni=>by
   rcases Nat.lt_or_ge n i with h|h
   ·exact hno n hn h
   ·obtain rfl:n=i:=by omega
    rw[hgd,hgq];exact hc
  have hbad:¬(aaX g ls[i] R[ls[i].re.toNat].2 Q[i].2)→¬∀n (hn:n<ls.length),aaX g ls[n] (R.getD ls[n].re.toNat (0,[])).2 (Q.getD n (0,[])).2:=λhc hh=>hc (by have:=hh i hlt;rwa[hgd,hgq]at this)
  generalize R[ls[i].re.toNat]=y0 at hrc hRx hnext hbad
  generalize Q[i]=y1 at hqc hQx hnext hbad
  clear hgd hgq
  generalize ls[i]=x at hoc hx hxr hqr hro hnext hbad
  obtain⟨W,ws⟩:=y0
  obtain⟨W2,rs⟩:=y1
  obtain⟨hWe,hmay⟩:=hRx
  obtain⟨hWe2,hmay2⟩:=hQx
  have hWe:W=(g.pts.length:Int)+g.lv:=hWe
  have hWe2:W2=(g.pts.length:Int):=hWe2
  have hmay:BM.May W ws:=hmay
  have hmay2:BM.May W2 rs:=hmay2
  have hm1:=hmay.1;have hm2:=hmay.2.1;have hm3:=hmay.2.2.1
  have hk1:=hmay2.1;have hk2:=hmay2.2.1;have hk3:=hmay2.2.2.1
  simp only at hnext hbad
  subst hWe2
  have hcls:=am0 (x:=x) (ws:=ws) hpt hmay2
  have hoc0:=hoc
  obtain⟨vx,rfl,hxs⟩:=hoc
  obtain⟨qx,cx,rfl,_,_⟩:=hxs.sl.shape
  have hrc0:=hrc
  have hqc0:=hqc
  obtain⟨pw',cw,rfl,hws'⟩:=hrc
  obtain⟨pq',cq',rfl,hrs'⟩:=hqc
  cases hqo
  cases hqr
  cases hqq
  refine gg_ ?_
  refine zo (n:=5) rfl (λj v hj=>by rw[tnc];exact S.at (hoo j v hj)) ?_
  refine S.alN λb14 w21 _ S=>?_
  refine S.stBN (b:=b14) λw22 S=>?_
  have S:StX noX w r' w22 [.cell b14 (lnC (.slice qx x.pl.ps.length cx) x) 82]:=S
  refine zk (λy w'=>∃b15 b16,y=[.pointer (some ⟨b15,0,none⟩),.pointer (some ⟨b16,0,none⟩)]∧StX noX w r' w' [.cell b16 [.int .i64 g.pts.length,.slice pq' rs.length cq'] 48,.cell b15 [.int .i64 W,.slice pw' ws.length cw] 48,.cell b14 (lnC (.slice qx x.pl.ps.length cx) x) 82]) (λK23 hK23=>?_) ?_
  ·have S:=S.go (Ext.drew _)
   refine gg_ ?_
   refine zo (n:=2) rfl (λj v hj=>S.at (hro j v hj)) ?_
   refine gp_ ?_
   have ldq:∀{W0:World}{M:List Asr}{K':Value→Prop},StX noX w r' W0 M→K' (.agg #[.int .i64 g.pts.length,.slice pq' rs.length cq'])→opQ Tryz.prog W0 (Instr.loadAt 48 (.pointer (some ⟨bq,oq+(i:Int).toNat*2,none⟩))) K':=λS k=>zo (n:=2) rfl (λj v hj=>by rw[tnc];exact S.at (hqo' j v hj)) k
   have e1:∀W0 b15 b16,StX noX w r' W0 [.cell b16 [.int .i64 g.pts.length,.slice pq' rs.length cq'] 48,.cell b15 [.int .i64 W,.slice pw' ws.length cw] 48,.cell b14 (lnC (.slice qx x.pl.ps.length cx) x) 82]→K23 [.pointer (some ⟨b15,0,none⟩),.pointer (some ⟨b16,0,none⟩)] W0:=λW0 b15 b16 S=>hK23 _ _ ⟨b15,b16,rfl,S⟩
   have e2:∀W0 b15 b16,StX noX w r' W0 [.cell b15 [.int .i64 W,.slice pw' ws.length cw] 48,.cell b16 [.int .i64 g.pts.length,.slice pq' rs.length cq'] 48,.cell b14 (lnC (.slice qx x.pl.ps.length cx) x) 82]→K23 [.pointer (some ⟨b15,0,none⟩),.pointer (some ⟨b16,0,none⟩)] W0:=λW0 b15 b16 S=>hK23 _ _ ⟨b15,b16,rfl,S.permO (List.Perm.swap _ _ _)⟩
   refine⟨acG (ldq S ⟨.refl _,?_,?_⟩),S.alNU λb15 w38 S=>⟨acG (ldq S ⟨.refl _,?_⟩),S.alNU λb16 w46 S=>⟨acG (ldq S ⟨.refl _,?_⟩),?_⟩⟩,S.alNU λb16 w56 S=>⟨acG (ldq S ⟨.refl _,?_⟩),S.alNU λb15 w64 S=>⟨acG (ldq S ⟨.refl _,?_⟩),?_⟩⟩⟩
   ·refine S.alNU λb15 w28 S=>S.alNU λb16 w29 S=>?_
    refine S.stBN (b:=b15) λw30 S=>?_
    refine S.stBN (b:=b16) λw31 S=>?_
    exact e1 _ _ _ S
   ·refine S.alNU λb16 w28 S=>S.alNU λb15 w29 S=>?_
    refine S.stBN (b:=b15) λw30 S=>?_
    refine S.stBN (b:=b16) λw31 S=>?_
    exact e2 _ _ _ S
   ·refine S.alNU λb16 w29 S=>?_
    refine S.stBN (b:=b15) λw30 S=>?_
    refine S.stBN (b:=b16) λw31 S=>?_
    exact e1 _ _ _ S
   ·refine S.stBN (b:=b15) λw30 S=>?_
    refine S.stBN (b:=b16) λw31 S=>?_
    exact e1 _ _ _ S
   ·refine S.stBN (b:=b15) λw30 S=>?_
    refine acG (ldq S ⟨.refl _,?_⟩)
    refine S.stBN (b:=b16) λw31 S=>?_
    exact e1 _ _ _ S
   ·refine S.alNU λb15 w29 S=>?_
    refine S.stBN (b:=b15) λw30 S=>?_
    refine S.stBN (b:=b16) λw31 S=>?_
    exact e2 _ _ _ S
   ·refine S.stBN (b:=b15) λw30 S=>?_
    refine S.stBN (b:=b16) λw31 S=>?_
    exact e2 _ _ _ S
   ·refine S.stBN (b:=b15) λw30 S=>?_
    refine acG (ldq S ⟨.refl _,?_⟩)
    refine S.stBN (b:=b16) λw31 S=>?_
    exact e2 _ _ _ S
  clear S
  rintro _ w26 ⟨b15,b16,rfl,S⟩ d26
  simp only[gdz,gds]
  have S:=((S.frzAt b16).frzAt b15).frzAt b14
  obtain⟨ρ,hρ,S⟩:=S.any
  have l1:Le r' ρ:=by rw[hρ];infer_instance
  have l14:Le (Go.Sh.one b14 (lnC (.slice qx x.pl.ps.length cx) x) 82) ρ:=by rw[hρ];infer_instance
  have l15:Le (Go.Sh.one b15 [.int .i64 W,.slice pw' ws.length cw] 48) ρ:=by rw[hρ];infer_instance
  have l16:Le (Go.Sh.one b16 [.int .i64 g.pts.length,.slice pq' rs.length cq'] 48) ρ:=by rw[hρ];infer_instance
  clear hρ
  refine zf (S.at (Ob.up (s:=ρ) h12)) ?_
  refine gg_ ?_
  refine zf (S.at (Ob.up (s:=ρ) hpc)) ?_
  refine gg_ ?_
  refine S.alN λb17 w74 _ S=>?_
  refine S.stN' (b:=b17) λw75 S=>?_
  refine gp_ ?_
  refine S.alN λb18 w76 _ S=>?_
  refine S.stN' (b:=b18) λw77 S=>?_
  have S:StX noX w ρ w77 [.cell b18 [ajX b12 b15 b16 b17] 178,.cell b17 [.int .i64 g.pts.length] 3]:=S
  have S:=S.frzAt b18
  obtain⟨σ,hσ,S⟩:=S.any
  have h18:Ob σ λw=>w.cell? ⟨b18,0,none⟩=some (ajX b12 b15 b16 b17):=by rw[hσ];exact y9 (i:=0) (c:=[ajX b12 b15 b16 b17]) (T:=178) rfl
  have m0:Le ρ σ:=by rw[hσ];infer_instance
  clear hσ
  have m1:Le r' σ:=⟨λb o h=>m0.le b o (l1.le b o h)⟩
  have m14:Le (Go.Sh.one b14 (lnC (.slice qx x.pl.ps.length cx) x) 82) σ:=⟨λb o h=>m0.le b o (l14.le b o h)⟩
  have m15:Le (Go.Sh.one b15 [.int .i64 W,.slice pw' ws.length cw] 48) σ:=⟨λb o h=>m0.le b o (l15.le b o h)⟩
  have m16:Le (Go.Sh.one b16 [.int .i64 g.pts.length,.slice pq' rs.length cq'] 48) σ:=⟨λb o h=>m0.le b o (l16.le b o h)⟩
  have mr:Le r σ:=⟨λb o h=>m1.le b o (le0.le b o h)⟩
  have h14:∀j v,(lnC (.slice qx x.pl.ps.length cx) x)[j]? = some v→Ob σ λw=>w.cell? ⟨b14,j,none⟩=some v:=λj v hj=>y9 (i:=j) (c:=(lnC (.slice qx x.pl.ps.length cx) x)) (T:=82) hj
  have h15:∀j v,[Value.int .i64 W,.slice pw' ws.length cw][j]? = some v→Ob σ λw=>w.cell? ⟨b15,j,none⟩=some v:=λj v hj=>y9 (i:=j) (c:=[.int .i64 W,.slice pw' ws.length cw]) (T:=48) hj
  have h16:∀j v,[Value.int .i64 g.pts.length,.slice pq' rs.length cq'][j]? = some v→Ob σ λw=>w.cell? ⟨b16,j,none⟩=some v:=λj v hj=>y9 (i:=j) (c:=[.int .i64 g.pts.length,.slice pq' rs.length cq']) (T:=48) hj
  have k12:Ob σ λw=>w.cell? ⟨b12,0,none⟩=some (.pointer (some ⟨b,0,none⟩)):=h12.up
  have kL:LkG2 σ b u g (lkR u fn) (lkE u fn) ls:=hL.up
  have krc:RwbC σ [.int .i64 W,.slice pw' ws.length cw] (W,ws):=hrc0.up
  have kqc:RwbC σ [.int .i64 g.pts.length,.slice pq' rs.length cq'] ((g.pts.length:Int),rs):=hqc0.up
  have kx:LnG σ (lnC (.slice qx x.pl.ps.length cx) x) x:=hoc0.up
  have kT:TabG σ:=hT2.up
  have kpc:=Ob.up (s:=σ) hpc
  clear l1 l14 l15 l16 m0 m14 m15 m16
  refine zf (S.at h18) ?_
  refine gg_ ?_
  refine zf (S.at (h14 0 _ rfl)) ?_
  have hlow77:=S.low
  refine JN (f:=(g.pts.length:Int)) (W:=W) (W2:=(g.pts.length:Int)) S kL k12 krc h15 kqc h16 (by omega) (by omega) (by omega) (by omega) hx.1.1 hx.1.2 (hnx _ hx.1.2) λw78 nc S=>⟨nc,?_⟩
  rw[← Zc hx.1.2]at S
  refine zo (n:=2) (c:=[.int .i64 g.pts.length,.slice pq' rs.length cq']) rfl (λj v hj=>by rw[Nat.zero_add];exact S.at (h16 j v hj)) ?_
  refine aiF S.holds kqc kT λgI sI w79 e79 n79 nb79 hI=>⟨NC.of_ext e79,?_⟩
  obtain⟨S,_,_⟩:=S.tell e79 n79
  simp only at hI
  have hw79:=S.x.size
  have hlow79:=S.low
  refine aoj ((Yb (g.pts.length:Int) rs).map acF) (λb=>b=b17) (λk D W0=>D=(λb=>b=b17)∧StX noX w (σ.or sI) W0 [.cell b17 [.int .i64 (eachF g x ws rs (minF ws rs g.pts.length (xq g x.q)) ((Yb (g.pts.length:Int) rs).take k))] 3]) ?_ (hI _ _ (λb hb o ho=>?_) S.holds) ?_ ?_ ⟨rfl,S⟩ ?_ ?_
  ·rintro b rfl
   exact⟨_,S.has (.cell b [.int .i64 (minF ws rs g.pts.length (xq g x.q))] 3) (by simp),rfl⟩
  ·subst hb
   exact(S.mine (.cell b [.int .i64 (minF ws rs g.pts.length (xq g x.q))] 3) (by simp) b rfl).2 o ho
  ·intro y hy
   obtain⟨z,_,rfl⟩:=List.mem_map.1 hy
   rfl
  ·rintro k D W0 W' ⟨h1,S⟩ e
   exact⟨h1,S.nl e hw79⟩
  ·clear S
   rintro k y D W0 hy ⟨rfl,S⟩ KR hN
   rw[List.getElem?_map,Option.map_eq_some_iff]at hy
   obtain⟨z,hz',rfl⟩:=hy
   have hzm:=(acO hmay2).1 (List.mem_of_getElem? hz')
   have hzl:(z:Int).toNat<g.pts.length:=by omega
   have hsn:=ajW (g:=g) (x:=x) (ws:=ws) (rs:=rs) (f:=minF ws rs g.pts.length (xq g x.q)) hz'
   generalize eachF g x ws rs (minF ws rs g.pts.length (xq g x.q)) ((Yb (g.pts.length:Int) rs).take k)=m at S hsn
   refine⟨.refl _,λW9 e9=>?_⟩
   have S:=S.nl e9 hw79
   simp only[gdz]
   refine zf (S.at (Ob.up (s:=σ.or sI) k12)) ?_
   refine zo (n:=5) (c:=(lnC (.slice qx x.pl.ps.length cx) x)) rfl (λj v hj=>by rw[Nat.zero_add];exact S.at (Ob.up (s:=σ.or sI) (h14 j v hj))) ?_
   refine X7 S.holds (LkG2.up kL) (LnG.up kx) (Int.natCast_nonneg z) hzl λw85 e85=>⟨NC.of_ext e85,?_⟩
   have hkq:qD g x (z:Int)=xh g.pts[(z:Int).toNat] x:=by rw[qD,gqg hzl];rfl
   rw[← hkq]
   refine gp_ ?_
   have R:=S.part.go e85
   refine c_b (λhk=>?_) (λhk=>?_)
   ·have hk:qD g x (z:Int)=false:=by simpa using hk
    rw[hk,if_neg (by decide)]at hsn
    refine zf (R.at (Ob.up (s:=σ.or sI) h18)) ?_
    refine JN (f:=m) (W:=W) (W2:=(g.pts.length:Int)) R (LkG2.up kL) (Ob.up k12) (RwbC.up krc) (λj v hj=>Ob.up (h15 j v hj)) (RwbC.up kqc) (λj v hj=>Ob.up (h16 j v hj)) (by omega) (by omega) (by omega) (by omega) (Int.natCast_nonneg z) hzl (hnx _ hzl) λw86 nc R=>⟨nc,?_⟩
    rw[← Zc hzl,← hsn]at R
    exact⟨⟨R.x.os,R.x.tape,R.x.output,R.x.size,λk hk hn=>R.x.block k hk λh=>h.elim hn λh=>h⟩,hN _ _ (λd hd=>.inl hd) ⟨rfl,S.whole R λ_ h=>h⟩⟩
   ·have hk:qD g x (z:Int)=true:=by simpa using hk
    rw[if_pos hk]at hsn
    rw[← hsn]at S R
    exact⟨⟨R.x.os,R.x.tape,R.x.output,R.x.size,λk hk hn=>R.x.block k hk λh=>h.elim hn λh=>h⟩,hN _ _ (λd hd=>.inl hd) ⟨rfl,S.whole R λ_ h=>h⟩⟩
  ·clear S
   rintro D W0 ⟨_,S⟩
   rw[List.length_map,List.take_length]at S
   have S:=S.go (Ext.drew _)
   refine S.ld (b:=b17) ?_
   refine zf (S.at (Ob.up (s:=σ.or sI) k12)) ?_
   refine gg_ ?_
   refine zf (S.at (Ob.up (s:=σ.or sI) kpc)) ?_
   refine gg_ ?_
   refine zh (λhf=>?_) (λhf=>?_)
   ·have S:=S.go (Ext.drew _)
    refine S.ld (b:=b17) ?_
    intro w88 e88
    rw[hz]
    exact h1 _ _ false _ (fin S (λb o h=>.inl (mr.le b o h)) e88) ⟨λh=>(by cases h),λhh=>absurd hh (hbad (hcls.1 hf))⟩
   ·refine qX (by omega) ?_
    exact hK17 (i+1) _ ⟨hlt,hnext (Classical.not_not.1 λhc=>hf (hcls.2 hc)),S.less (λb o h=>.inl (m1.le b o h)) (List.nil_sublist _)⟩ (by omega)
 ·have hie:i=ls.length:=by omega
  subst hie
  intro w91 e91
  rw[hz]
  exact h1 0 0 true _ (fin S le0.le e91) ⟨λ_ n hn=>hno n hn hn,λ_=>rfl⟩
end
end
section
section
variable {u:UnD} {w:World} {r:Gh} {K:Value→World→Prop}
theorem aiO{fn q:Int}{g:GrD}{x:LnD}{v:Value}{R:List xM}{vR:Value}(hr:Holds r w)(hu:UnG r v u)(hR:SlG 2 r (RwbC r) vR R)(hf:R.length≤1000000)(F:IsF u fn g)(hz:lkE u fn=0)
  (hgR:z7 R (lkR u fn).ct (g.pts.length+g.lv)=true) (hx:lkS u fn g=[x]) (hq:0≤q∧q<g.pts.length) (hnq:xq g x.q=[q]) (hb:bit (R.getD x.re.toNat (0,[])).2 q.toNat=true)
  (h:∀p cap w',Ext w w'→K (.tuple #[.slice p 2 cap,.bool true,.int .i64 0]) w'):zd Tryz.prog Tryz.JW #[v,.int .i64 fn,vR,.int .i64 0,.int .i64 q] w K:=by
 refine Tryz.aiH ?_
 unfold Tryz.ad1
 obtain⟨pR,capR,rfl,_,_⟩:=hR.shape
 obtain⟨p0,cap0,vf,rfl,_,_,_,_,_⟩:=id hu
 have S:=St.start hr
 refine S.box λb5 w1 S=>?_
 have S:StX noX w r w1 [.cell b5 [.slice p0 u.ss.length cap0,vf,.int .i64 u.mn] 25]:=S
 refine S.ldB (b:=b5) ?_ rfl
 refine ju S.holds hu (λhi w2 e2=>by have:=F.is;rw[hi]at this;cases this) λhi g' b s w2 hg e2 n2 hL=>?_
 obtain rfl:g'=g:=Option.some.inj (hg.symm.trans F.at')
 obtain⟨S,_,ha⟩:=S.tell e2 n2
 have hre:=ah4 F hz
 rw[hx]at hL hre
 rw[hz]at hL
 have hx0:=hre x (by simp)
 have hR2:SlG 2 (r.or s) (RwbC (r.or s)) (.slice pR R.length capR) R:=hR.up' inferInstance λ_ _ h=>RwbC.up h
 have S:=S.tl
 clear hR
 generalize r.or s=r' at S hL hR2
 refine gp_ ?_
 refine gp_ ?_
 refine zk (λx w'=>x=[.int .i64 0]∧StX noX w r' w' []) (λK3 hK3=>?_) ?_
 ·refine gp_ ?_
  refine c_t rfl ?_
  refine aa0 S.holds hL F.may F.head F.pts hR2 hf λx0 w7 e7 hx1=>?_
  have S:=S.go e7
  rw[hx1 rfl,hgR]
  refine zg (c:=true) (λ_ K2 hK2=>?_) ?_
  ·refine abT S.holds hL (by simp) ?_
   exact hK2
  refine zg (c:=true) (λ_ K2 hK2=>?_) ?_
  ·refine X6 S.holds hL ?_
   rw[gde hq.1,gde hq.2]
   exact hK2
  refine xH S.holds hL ?_
  exact hK3 _ _ ⟨rfl,S⟩
 clear S
 rintro _ w6 ⟨rfl,S⟩ d
 rw[gdz]
 refine gp_ ?_
 refine c_f rfl ?_
 obtain⟨pl,cl,hlc,hls⟩:=id hL.lns
 have hRl:=JM hgR
 have hn:=F.head.pt1024
 have hlv:=F.head.lv0
 have hxr:x.re.toNat<R.length:=by have:=hRl.1;omega
 obtain⟨br,or',cr,hqr,hclr,hrc,hro⟩:=hR2.get (by decide) hxr
 have hRx:=hRl.2 _ hxr
 have hgd:R.getD x.re.toNat (0,[])=R[x.re.toNat]:=by rw[ggd,gqg hxr];rfl
 rw[hgd]at hb
 generalize R[x.re.toNat]=y0 at hrc hRx hb
 obtain⟨W,ws⟩:=y0
 obtain⟨hWe,hmay⟩:=hRx
 have hWe:W=(g'.pts.length:Int)+g'.lv:=hWe
 have hmay:BM.May W ws:=hmay
 have hm1:=hmay.1;have hm2:=hmay.2.1;have hm3:=hmay.2.2.1
 have hb:bit ws q.toNat=true:=hb
 have hrc0:=hrc
 obtain⟨pw',cw,rfl,hws'⟩:=hrc
 cases hqr
 obtain⟨bo,oo,co,hqo,hcl,hoc,hoo⟩:=hls.get (i:=0) (by decide) (by simp)
 have hoc0:=hoc
 obtain⟨vx,rfl,hxs⟩:=hoc
 simp only[List.getElem_cons_zero]at hxs hoo hoc0
 obtain⟨qx,cx,rfl,_,_⟩:=hxs.sl.shape
 cases hqo
 refine gg_ ?_
 refine zf (S.at hlc) ?_
 refine gg_ ?_
 rw[show [x].length=1 from rfl]
 refine gg_ ?_
 refine zo (n:=5) rfl (λj v hj=>by simpa using S.at (hoo j v hj)) ?_
 refine S.al λb14 w19 S=>?_
 refine S.stB (b:=b14) λw20 S=>?_
 have S:StX noX w r' w20 [.cell b14 [.int .i64 x.q,.int .i64 x.pl.l,.slice qx x.pl.ps.length cx,.bool x.mu,.int .i64 x.re] 82]:=S
 refine gg_ ?_
 refine zo (n:=2) rfl (λj v hj=>S.at (hro j v hj)) ?_
 refine S.al λb15 w21 S=>?_
 refine S.stB (b:=b15) λw22 S=>?_
 refine S.mkMapI λbm w23 S=>?_
 refine gg_ ?_
 refine S.lit (e:=3) (cs:=[.int .i64 x.q]) (by kernel_rfl) λb66 w24 S=>?_
 obtain⟨S,hs66,_⟩:=S.litNew b66 (sz:=1) (R:=yz) (l:=[x.q]) (y8 rfl rfl) (by decide)
 have hs66:SlG 1 (Go.Sh.one b66 [.int .i64 x.q] 3) yz (.slice (some ⟨b66,0,none⟩) 1 1) [x.q]:=hs66
 refine S.lit (e:=55) (cs:=[.slice (some ⟨b66,0,none⟩) 1 1]) (by kernel_rfl) λb67 w25 S=>?_
 have S:StX noX w (r'.or (Go.Sh.one b66 [.int .i64 x.q] 3)) w25 [.cell b67 [.slice (some ⟨b66,0,none⟩) 1 1] 55,.obj bm (Vf []),.cell b15 [.int .i64 W,.slice pw' ws.length cw] 48,.cell b14 [.int .i64 x.q,.int .i64 x.pl.l,.slice qx x.pl.ps.length cx,.bool x.mu,.int .i64 x.re] 82]:=S
 have S:=S.frzAt b67
 have h67:Ob ((r'.or (Go.Sh.one b66 [.int .i64 x.q] 3)).or (Go.Sh.one b67 [.slice (some ⟨b66,0,none⟩) 1 1] 55)) λw=>w.cell? ⟨b67,0,none⟩=some (.slice (some ⟨b66,0,none⟩) 1 1):=y9 (i:=0) (c:=[.slice (some ⟨b66,0,none⟩) 1 1]) (T:=55) rfl
 have h66:Ob ((r'.or (Go.Sh.one b66 [.int .i64 x.q] 3)).or (Go.Sh.one b67 [.slice (some ⟨b66,0,none⟩) 1 1] 55)) λw=>w.cell? ⟨b66,0,none⟩=some (.int .i64 x.q):=y9 (i:=0) (c:=[.int .i64 x.q]) (T:=3) rfl
 have hs66:SlG 1 ((r'.or (Go.Sh.one b66 [.int .i64 x.q] 3)).or (Go.Sh.one b67 [.slice (some ⟨b66,0,none⟩) 1 1] 55)) yz (.slice (some ⟨b66,0,none⟩) 1 1) [x.q]:=hs66.cells
 have hL:LkG2 ((r'.or (Go.Sh.one b66 [.int .i64 x.q] 3)).or (Go.Sh.one b67 [.slice (some ⟨b66,0,none⟩) 1 1] 55)) b u g' (lkR u fn) 0 [x]:=LkG2.up (LkG2.up (s:=r'.or (Go.Sh.one b66 [.int .i64 x.q] 3)) hL)
 have hrc0:RwbC ((r'.or (Go.Sh.one b66 [.int .i64 x.q] 3)).or (Go.Sh.one b67 [.slice (some ⟨b66,0,none⟩) 1 1] 55)) [.int .i64 W,.slice pw' ws.length cw] (W,ws):=RwbC.up (RwbC.up (s:=r'.or (Go.Sh.one b66 [.int .i64 x.q] 3)) hrc0)
 generalize (r'.or (Go.Sh.one b66 [.int .i64 x.q] 3)).or (Go.Sh.one b67 [.slice (some ⟨b66,0,none⟩) 1 1] 55)=ρ at S h67 h66 hs66 hL hrc0
 have hnq:nextP g'.pts[x.q.toNat]=[q]:=(Zc hx0.1.2).symm.trans hnq
 refine J1 3 ?_
 intro d26 K26 hK26
 rw[gdz]
 refine gg_ ?_
 refine zg (c:=true) (λ_ K2 hK2=>S.mapGetI mpW aeV ?_) ?_
 ·show opP Tryz.prog (zM .eql 55 true (.slice none 0 0) (.slice none 0 0)) _
  refine gp_ ?_
  exact hK2
 refine c_t rfl ?_
 have S:=S.ownNil 55 1
 refine gg_ ?_
 refine J1 3 ?_
 intro d34 K34 hK34
 simp only[gdz,gds]
 refine gg_ ?_
 refine c_t rfl ?_
 intro K38 hK38
 refine gg_ ?_
 refine zf (S.at h67) ?_
 refine gg_ ?_
 refine zf (S.at h66) ?_
 refine gg_ ?_
 refine zg (c:=true) (λhb=>by simp at hb) ?_
 refine c_f rfl ?_
 refine Q6 S.holds hL hx0.1.1 hx0.1.2 λv47 w47 e47 o47=>?_
 rw[hnq]at o47
 have S:=S.take e47 o47
 refine agm S (by simp) λw48 S=>?_
 have hso:Zy [q]=[q]:=by simp[Zy]
 rw[hso]at S
 obtain⟨s5,T,hs5,_,_⟩:=S.doneRow (l:=[q]) qN (by decide) rfl
 repeat clear S
 obtain⟨p5,c5,rfl,_,_⟩:=hs5.shape
 obtain⟨b5',o5,rfl,_,g5⟩:=xW hs5 (i:=0) (by simp)
 have S:=T
 clear T
 have g5:Ob s5 λw=>w.cell? ⟨b5',o5+0,none⟩=some (.int .i64 q):=g5
 refine gg_ ?_
 refine J1 3 ?_
 intro d49 K49 hK49
 simp only[gdz,gds]
 refine gg_ ?_
 refine c_t rfl ?_
 intro K53 hK53
 refine gg_ ?_
 rw[show [q].length=1 from rfl]
 refine gg_ ?_
 refine zf (by simpa using S.at (Ob.up (s:=ρ.or s5) g5)) ?_
 refine S.ldB (b:=b15) ?_ rfl
 refine jM S.holds hrc0.up hq.1 (by omega) (by omega) λw57 e57=>?_
 have S:=S.go e57
 rw[hb]
 refine zg (c:=true) (λ_ K2 hK2=>S.mapGetI mpW aeV ?_) ?_
 ·show opP Tryz.prog (zM .eql 55 true (.slice none 0 0) (.slice none 0 0)) _
  refine gp_ ?_
  exact hK2
 refine c_t rfl ?_
 refine gg_ ?_
 refine zf (S.at (Ob.up (s:=ρ.or s5) h67)) ?_
 refine aiz S hs66.cells (by simp) λv62 w62 S=>?_
 refine S.lit (e:=3) (cs:=[.int .i64 q]) (by kernel_rfl) λb8 w63 S=>?_
 refine S.ap (v:=v62) (m':=1) (Sl.blk (S.blk b8)) (λv99 w64 S=>?_) (by simp)
 have S:=S.drop b8
 obtain⟨s7,T,hs7,_,_⟩:=S.doneRow (l:=[x.q,q]) (show RowOf 1 yz (ints [x.q]++[.int .i64 q]) [x.q,q]from qN (l:=[x.q,q])) (by decide) rfl
 repeat clear S
 obtain⟨p7,c7,rfl,_,_⟩:=hs7.shape
 obtain⟨b7',o7,rfl,_,_⟩:=xW hs7 (i:=0) (by simp)
 have S:=T
 clear T
 refine S.mapAddI mpW rfl λw65 S=>?_
 refine S.mapGetI mpW aeV ?_
 have hlk:(([]++[(q,Value.slice (some ⟨b7',o7,none⟩) 2 c7)]:List (Int×Value)).lookup q).getD (.slice none 0 0)=.slice (some ⟨b7',o7,none⟩) 2 c7:=by simp
 refine hlk.symm▸?_
 refine S.lit (e:=55) (cs:=[.slice (some ⟨b7',o7,none⟩) 2 c7]) (by kernel_rfl) λb9 w66 S=>?_
 refine S.ap (v:=.slice none 0 0) (m':=1) (Sl.blk (S.blk b9)) (λv5 w67 S=>?_) (by simp)
 have S:=S.drop b9
 refine hK53 _ _ λ_=>?_
 simp only[gdz]
 refine gg_ ?_
 refine hK49 _ _ ?_
 clear hK49
 intro d49' K49' hK49'
 simp only[gdz,gds]
 refine gg_ ?_
 refine c_f rfl ?_
 refine hK38 _ _ λ_=>?_
 simp only[gdz]
 refine gg_ ?_
 refine hK34 _ _ ?_
 clear hK34
 intro d34' K34' hK34'
 simp only[gdz,gds]
 refine gg_ ?_
 refine c_f rfl ?_
 refine hK26 _ _ ?_
 clear hK26
 intro d26' K26' hK26'
 obtain⟨p5,c5',hv5,_⟩:=S.rowS v5
 subst hv5
 simp only[gdz,gds]
 refine gg_ ?_
 refine zg (c:=false) (λ_ K2 hK2=>S.mapGetI mpW aeV ?_) ?_
 ·refine hlk.symm▸?_
  refine gp_ ?_
  exact hK2
 refine c_f (by simp) ?_
 have S:=S.go (Ext.drew _)
 refine S.mapGetI mpW aeV ?_
 refine hlk.symm▸?_
 refine S.mapGetI mpW aeV ?_
 refine hlk.symm▸?_
 refine gp_ ?_
 exact h _ _ _ S.ext
end
theorem aja:zL (zH zS 0 (-1))=(⟨0,4,2,[ym,ym,alG 0],[1,-1,-1,-1]⟩,0):=by rw[alH (by decide)];rfl
theorem al7{t:TyD}(ht:mayB [] t=true):(yx [] [t] ⟨0,[]⟩).1=t:=by
 have ho:yd [] [t] ⟨0,[]⟩=true:=by
  rw[yd,hst]
  show(((decide ((0:Int)≤0)&&decide ((0:Int)<1))&&decide (0≤8))&&(true&&(mayB [] t&&true)))=true
  rw[ht];rfl
 rw[yx,zK,if_pos ho];rfl
def ln0:LnD:=⟨0,plD 1,true,1⟩
theorem Vi:lkE zS 0=0:=by rw[lkE,aja]
theorem amn:lkR zS 0=⟨0,4,2,[ym,ym,alG 0],[1,-1,-1,-1]⟩:=by rw[lkR,aja]
theorem jg:lkS zS 0 zJ=[ln0]:=by rw[lkS,Vi,amn];rfl
theorem agM:IsF zS 0 zJ:=isF (acs (by decide)) rfl
theorem ajb{p:PtD}{l:Int}{ps:List Int}(hp:p.to=⟨l,ps⟩)(ha:acB p=true)(hd:(yw [] (qB [] [ym,ym,qU] ⟨l,ps⟩)).1=false):vC zS zJ p=[⟨⟨l,ps⟩,1,true⟩]:=by
 rw[vC,if_pos ha,hp]
 show [(⟨⟨l,ps⟩,if (yw [] (qB [] [ym,ym,qU] ⟨l,ps⟩)).1=true then 2 else 1,true⟩:AcD)]=_
 rw[hd];rfl
theorem ak4:wdsL 4 [1,2]=[6#64]:=by decide
theorem amo:wdsL 4 [1]=[2#64]:=by decide
theorem aor:BM.May 4 [6#64]:=⟨by decide,by decide,by decide,λk h1 h2=>by
 have :∀k:Fin 64,4≤k.val→bit [6#64] k.val=false:=by decide
 have h2:k<64:=by simpa using h2
 exact this ⟨k,h2⟩ (by show 4≤k;omega)⟩
theorem anT{p:Int}:InF zJ ln0 [6#64] p↔p=1:=by
 constructor
 ·intro h
  induction h with
  |start h hb=>
   have h:_∈([1]:List Int):=h
   simpa using h
  |step hq hk h hb ih=>subst ih;exact absurd hk (by decide)
 ·rintro rfl
  exact .start (show(1:Int)∈([1]:List Int)by simp) (by decide)
theorem am1{D:List Int}(h:D.Nodup)(hm:∀p:Int,p=1↔p∈D):D=[1]:=by
 cases D with
 |nil=>exact absurd ((hm 1).1 rfl) List.not_mem_nil
 |cons a l=>
  have ha:=(hm a).2 List.mem_cons_self
  subst ha
  cases l with
  |nil=>rfl
  |cons b l=>
   have hb:=(hm b).2 (List.mem_cons_of_mem _ List.mem_cons_self)
   subst hb
   exact absurd List.mem_cons_self (List.nodup_cons.1 h).1
theorem am2{y:xM}(h:afb zJ [(4,[6#64]),(4,[6#64])] ln0 y):y=(4,[2#64]):=by
 obtain⟨h1,D,h2,h3,_,h5⟩:=h
 have hD:=am1 h5 λp=>anT.symm.trans (h3 p)
 subst hD
 exact Prod.ext h1 (h2.trans amo)
theorem aos:BM.May 4 [2#64]:=⟨by decide,by decide,by decide,λk h1 h2=>by
 have :∀k:Fin 64,4≤k.val→bit [2#64] k.val=false:=by decide
 have h2:k<64:=by simpa using h2
 exact this ⟨k,h2⟩ (by show 4≤k;omega)⟩
theorem am3:aaX zJ ln0 [6#64] [2#64]:=by
 refine⟨λp hp hb=>?_,λq h0 h1 hq hk p hp hb=>?_⟩
 ·have hp:p∈([1]:List Int):=hp
  simp only[List.mem_singleton]at hp
  subst hp;decide
 ·have h1:q<4:=h1
  obtain rfl|rfl|rfl|rfl:q=0∨q=1∨q=2∨q=3:=by omega
  ·exact absurd hq (by decide)
  ·exact absurd hk (by decide)
  ·exact absurd hq (by decide)
  ·exact absurd hq (by decide)
theorem aid{R:List xM}{c W:Int}(h1:(R.length:Int)=c)(h2:∀x∈R,x.1=W∧BM.May x.1 x.2):z7 R c W=true:=by
 rw[z7,gba,gdt,Bool.not_eq_true',List.any_eq_false]
 refine⟨h1,λx hx=>?_⟩
 obtain⟨h3,h4⟩:=h2 x hx
 rw[ae8,BM.mayB_true h4,h3];simp
theorem acP:z7 [(4,[6#64]),(4,[6#64])] (lkR zS 0).ct (zJ.pts.length+zJ.lv)=true:=by
 rw[amn]
 refine aid rfl λx hx=>?_
 have :x=(4,[6#64]):=by simpa using hx
 subst this
 exact⟨rfl,aor⟩
theorem aie:z7 [(4,[2#64])] (lkS zS 0 zJ).length zJ.pts.length=true:=by
 rw[jg]
 refine aid rfl λx hx=>?_
 have :x=(4,[2#64]):=by simpa using hx
 subst this
 exact⟨rfl,aos⟩
theorem al8:qB [] [ym,ym,qU] ⟨1,[]⟩=ym:=al7 (by rw[hmay];kernel_rfl)
theorem al9:(yw [] (qB [] [ym,ym,qU] ⟨1,[]⟩)).1=false:=by rw[al8];kernel_rfl
theorem anU:lksA zS zJ hp1=[⟨plD 1,1,true⟩]:=by
 rw[lksA,ajb (l:=1) (ps:=[]) rfl rfl al9];rfl
theorem ajc:Z3 zS zJ ln0 ⟨plD 1,1,true⟩=true:=by
 rw[Z3,if_neg (by decide),if_pos (by decide)]
theorem am4:Q7 zS zJ [ln0] [(4,[2#64])]=some (1,0):=by
 refine akO (by decide) (by decide) (λy hy n hn=>?_) (λn hn=>absurd hn (Nat.not_lt_zero _)) ?_
 ·obtain rfl:y=0:=by omega
  have hn:n<1:=hn
  obtain rfl:n=0:=by omega
  rfl
 ·show(bit [2#64] 1&&(lksA zS zJ hp1).any (Z3 zS zJ ln0))=true
  rw[anU]
  simp only[List.any_cons,List.any_nil,ajc];decide
theorem anV{p:PlD}{t:TyD×List Int}(h0:0≤p.l∧p.l<3∧p.ps.length≤8)(hw:zC [] p.ps (zJ.tys.getD p.l.toNat zI)=some t):zK [] zJ.tys p=some t:=by
 have ho:yd [] zJ.tys p=true:=by
  rw[yd,gde h0.1,gde (show p.l<(zJ.tys.length:Int)from h0.2.1),gde h0.2.2,hst]
  show(decide ((0:Int)=0)&&(mayB [] ym&&(mayB [] ym&&(mayB [] qU&&true))))=true
  rw[hmay,hmay];kernel_rfl
 rw[zK,if_pos ho,hw]
theorem am5:qB [] [ym,ym,qU] ⟨2,[-1]⟩=ym:=by
 have ho:yd [] [qU] ⟨0,[-1]⟩=true:=by
  rw[yd,hst]
  show(((decide ((0:Int)≤0)&&decide ((0:Int)<1))&&decide (1≤8))&&(decide ((0:Int)=0)&&(mayB [] qU&&true)))=true
  rw[hmay];kernel_rfl
 show(yx [] [qU] ⟨0,[-1]⟩).1=ym
 rw[yx,zK,if_pos ho];rfl
theorem ak5:(yw [] (qB [] [ym,ym,qU] ⟨2,[-1]⟩)).1=false:=by rw[am5];kernel_rfl
theorem anW:lksA zS zJ hp2=[⟨⟨2,[-1]⟩,1,true⟩]:=by
 rw[lksA,ajb (l:=2) (ps:=[-1]) rfl rfl ak5];rfl
theorem ama:mkd ((lkS zS 0 zJ).map (xh hp1))=[0]:=by rw[jg];rfl
theorem afg{b:Bool}(h:b=true):zV zS 0 b=0:=by rw[zV,if_pos ⟨acs (by decide),h⟩,Vi]
theorem aif{q:Int}(h:0≤q∧q<4):yq zS 0 q=true:=by
 show(decide (0≤q)&&decide (q<((4:Nat):Int)))=true
 rw[gde h.1,gde (show q<((4:Nat):Int)from h.2)];rfl
theorem anX:YO zS 0 0 ⟨plD 1,1,true⟩=true:=by
 show((((decide ((0:Int)≤0)&&decide ((0:Int)<((lkS zS 0 zJ).length:Int)))&&(zK [] zJ.tys (plD 1)).isSome)&&decide ((1:Int)≤1))&&decide ((1:Int)≤3))=true
 rw[jg,anV (t:=(ym,[])) (by decide) rfl];rfl
theorem anY:ah1 zS 0 0 ⟨plD 1,1,true⟩=true:=by
 show(match (lkS zS 0 zJ)[(0:Nat)]? with|some x=>Z3 zS zJ x ⟨plD 1,1,true⟩|none=>false)=true
 rw[jg];exact ajc
section
variable {X:Nat→Prop} {w0 w:World} {r:Gh} {L:List Asr} {K:Value→World→Prop}
theorem ajY{n:Nat}(hn:n≤1032)(S:StX X w0 r w L)
  (h:∀b w',StX X w0 r w' (.cell b (wcs (List.replicate ((n+63)/64) 0#64)) 205::L)→K (.agg #[.int .i64 n,.slice (some ⟨b,0,none⟩) ((n+63)/64) ((n+63)/64)]) w'):zd Tryz.prog Tryz.Xz #[.int .i64 n] w K:=by
 refine Tryz.agr ?_
 unfold Tryz.aaH
 refine S.al λb2 w1 S=>?_
 refine gg_ ?_
 refine S.mkS (by omega) (by omega) λb w2 S=>?_
 rw[show (((n:Int)+63)/64).toNat=(n+63)/64 by omega]at S⊢
 have S:=(show StX X w0 r w2 (.cell b (wcs (List.replicate ((n+63)/64) 0#64)) 205::.cell b2 [.int .i64 0,.slice none 0 0] 48::L)by
  rw[wcs,List.map_replicate];exact S)
 refine zq (cs:=#[.int .i64 n,.slice (some ⟨b,0,none⟩) ((n+63)/64) ((n+63)/64)]) (by kernel_rfl) ?_
 refine S.stB (b:=b2) λw3 S=>?_
 refine S.ceB (b:=b2) ?_ rfl
 exact h _ _ S.d2
theorem amb{n:Nat}{l:List Int}{p:Option Addr}{cap:Nat}(hn:n≤1024)(S:StX X w0 r w L)(hl:SlG 1 r yz (.slice p l.length cap) l)(hlf:l.length≤1000000)(hin:∀x∈l,0≤x∧x<n)
  (h:∀b w',StX X w0 r w' (.cell b (wcs (wdsL n l)) 205::L)→K (.agg #[.int .i64 n,.slice (some ⟨b,0,none⟩) ((n+63)/64) ((n+63)/64)]) w'):zd Tryz.prog Tryz.JU #[.int .i64 n,.slice p l.length cap] w K:=by
 refine Tryz.aiC ?_
 unfold Tryz.adU
 refine S.al λb4 w1 S=>?_
 refine ajY (by omega) S λbw w2 S=>?_
 refine S.al λb5 w3 S=>?_
 refine S.stB (b:=b5) λw4 S=>?_
 have S:StX X w0 r w4 (.cell b5 (rwL n bw) 48::.cell bw (wcs (wdsL n (l.take 0))) 205::.cell b4 [.int .i64 0,.slice none 0 0] 48::L):=S
 refine zj (ι:=Nat) (λi=>[.int .i64 (i:Nat)]) (λi w'=>i≤l.length∧StX X w0 r w' (.cell b5 (rwL n bw) 48::.cell bw (wcs (wdsL n (l.take i))) 205::.cell b4 [.int .i64 0,.slice none 0 0] 48::L)) (λi=>l.length-i) 0 rfl ⟨gzl _,S⟩ ?_
 clear S
 rintro i d w8 ⟨hi,S⟩ K5 hK5
 rw[gdz]
 refine gg_ ?_
 refine zh (λhlt=>?_) (λhge=>?_)
 ·have hlt:i<l.length:=by omega
  obtain⟨b8,o8,rfl,_,hc8⟩:=xW hl hlt
  have hp:=hin _ (gem hlt)
  have hadd:=ah3 (n:=n) (D:=l.take i) (p:=l[i])
  rw[← List.take_succ_eq_append_getElem hlt]at hadd
  have hwn:(wdsL n (l.take i)).length=(n+63)/64:=vD
  generalize l[i]=p at hc8 hp hadd
  generalize wdsL n (l.take i)=ws at S hadd hwn
  have hpw:p.toNat/64<ws.length:=by omega
  have S:=S.go (Ext.drew _)
  refine gg_ ?_
  refine zf (by rw[tnc];exact S.at hc8) ?_
  refine gg_ ?_
  refine zf (by rw[tnc];exact S.at hc8) ?_
  refine gg_ ?_
  refine S.ld (b:=bw) (v:=u64 (ws.getD (p.toNat/64) 0)) ?_ (by rw[show 0+(p/64).toNat=p.toNat/64 by omega,wcs,List.getElem?_map,ggd,gqg hpw];rfl)
  refine gg_ ?_
  refine zf (by rw[tnc];exact S.at hc8) ?_
  refine gg_ ?_
  rw[show (p%64).toNat=p.toNat%64 by omega]
  have hq2:0+(p/64).toNat<(wcs ws).length:=by rw[wcs,List.length_map];omega
  refine S.st (b:=bw) (λw7 S=>?_) hq2
  rw[show 0+(p/64).toNat=p.toNat/64 by omega]at S
  refine gg_ ?_
  refine hK5 (i+1) _ ⟨hlt,?_⟩ (by omega)
  rw[hadd,wcs,List.map_set]
  exact S
 ·have hie:i=l.length:=by omega
  subst hie
  rw[List.take_length]at S
  refine S.ldB (b:=b5) ?_ rfl
  refine S.stB (b:=b4) λw10 S=>?_
  refine S.ceB (b:=b4) ?_ rfl
  exact h bw _ ((S.drop b5).drop b4)
theorem Q8{n:Nat}{l:List Int}{p:Option Addr}{cap:Nat}(hn:n≤1024)(S:StX X w0 r w L)(hl:SlG 1 r yz (.slice p l.length cap) l)(hlf:l.length≤1000000)(hin:∀x∈l,0≤x∧x<n)
  (h:∀b w',StX X w0 r w' (.cell b (wcs (wdsL n l)) 205::L)→K (.agg #[.int .i64 n,.slice (some ⟨b,0,none⟩) ((n+63)/64) ((n+63)/64)]) w'):zd Tryz.prog Tryz.jV #[.int .i64 n,.slice p l.length cap] w K:=by
 refine Tryz.ah6 ?_
 unfold Tryz.abX
 refine S.al λb4 w1 S=>?_
 refine amb hn S hl hlf hin λbw w2 S=>?_
 refine S.stB (b:=b4) λw3 S=>?_
 refine S.ceB (b:=b4) ?_ rfl
 exact h bw _ (S.drop b4)
end
theorem agE{x:xM}{cx cy:List Value}{w:World}{r:Gh}{K:Value→World→Prop}(hr:Holds r w)(hx:RwbC r cx x)(hy:RwbC r cy x)(h:∀w',Ext w w'→K (.bool true) w'):zd Tryz.prog Tryz.Xy #[.agg cx.toArray,.agg cy.toArray] w K:=by
 refine Tryz.agq ?_
 unfold Tryz.aaG
 obtain⟨p,cap,rfl,hS⟩:=hx
 obtain⟨q,caq,rfl,hQ⟩:=hy
 have hf:x.2.length≤9223372036854775807:=hS.few
 have S:=St.start hr
 refine S.box λb2 w1 S=>?_
 refine S.box λb3 w2 S=>?_
 have S:StX noX w r w2 [.cell b3 [.int .i64 x.1,.slice q x.2.length caq] 48,.cell b2 [.int .i64 x.1,.slice p x.2.length cap] 48]:=S
 refine gg_ ?_
 refine zn (c:=false) (λ_ K2 hK2=>?_) ?_
 ·refine gg_ ?_
  rw[show decide ((x.2.length:Int)≠(x.2.length:Nat))=false by simp]
  exact hK2
 refine c_f (by simp) ?_
 refine zj (ι:=Nat) (λi=>[.int .i64 (i:Nat)]) (λi w'=>i≤x.2.length∧StX noX w r w' [.cell b3 [.int .i64 x.1,.slice q x.2.length caq] 48,.cell b2 [.int .i64 x.1,.slice p x.2.length cap] 48]) (λi=>x.2.length-i) 0 rfl ⟨gzl _,S⟩ ?_
 clear S
 rintro i d w8 ⟨hi,S⟩ K5 hK5
 rw[gdz]
 refine gg_ ?_
 refine zh (λhlt=>?_) (λhge=>?_)
 ·have hlt:i<x.2.length:=by omega
  obtain⟨bw,ow,hpw,_,hcw⟩:=JD hS.sl hlt
  obtain⟨bv,ov,hpv,_,hcv⟩:=JD hQ.sl hlt
  subst hpw;subst hpv
  have S:=S.go (Ext.drew _)
  refine gg_ ?_
  refine zf (by rw[tnc];exact S.at hcw) ?_
  refine gg_ ?_
  refine zf (by rw[tnc];exact S.at hcv) ?_
  refine ajm ?_
  refine c_f (by simp) ?_
  refine gg_ ?_
  exact hK5 (i+1) _ ⟨hlt,S⟩ (by omega)
 ·exact h _ S.ext
end
end Go.Proofs
