/-
  Contracts and plain laws that the last text leans on.
-/
import Derived.Test.YtaadilcboiiopaaGreatQAe
import Derived.Test.YtaadilcboiiopaaGreatQAd
import Derived.Test.YtaadilcboiiopaaGreatQAb
set_option maxRecDepth 100000
set_option maxHeartbeats 8000000
set_option linter.unusedVariables false
set_option linter.unusedSimpArgs false
namespace Go.Proofs
open Go.Sh Go.RowKit
section
theorem acD{p:PlD}:prefP p p=true:=by simp[prefP]
theorem ky{p q:PlD}:prefP p q=true↔p.l=q.l∧p.ps=q.ps.take p.ps.length:=by
 rw[prefP,gba,gba,gdt,gdt,gdt]
 refine⟨λh=>⟨h.1,h.2.2⟩,λh=>⟨h.1,?_,h.2⟩⟩
 have:=congrArg List.length h.2
 rw[List.length_take]at this;omega
theorem abc{p q s:PlD}(h:prefP p q=true)(k:prefP q s=true):prefP p s=true:=by
 rw[ky]at *
 refine⟨h.1.trans k.1,?_⟩
 have h1:=congrArg List.length h.2
 rw[List.length_take]at h1
 have e:q.ps.take p.ps.length=s.ps.take p.ps.length:=by
  conv=>lhs;rw[k.2]
  rw[List.take_take,Nat.min_eq_left (by omega)]
 rw[← e];exact h.2
theorem acE{p q:PlD}(h:prefP p q=true)(k:prefP q p=true):p=q:=by
 rw[ky]at *
 have h1:=congrArg List.length h.2
 have h2:=congrArg List.length k.2
 rw[List.length_take]at h1 h2
 obtain⟨pl,pp⟩:=p
 obtain⟨ql,qp⟩:=q
 simp only at *
 have e:qp.take pp.length=qp:=List.take_of_length_le (by omega)
 rw[e]at h
 rw[h.1,h.2]
theorem agm{p q s:PlD}(h:prefP p s=true)(k:prefP q s=true):prefP p q=true∨prefP q p=true:=by
 simp only[ky]at *
 rcases Nat.le_total p.ps.length q.ps.length with hl|hl
 ·left
  refine⟨h.1.trans k.1.symm,?_⟩
  rw[h.2]
  conv=>rhs;rw[k.2]
  rw[List.length_take,List.take_take]
  congr 1
  have:=congrArg List.length h.2
  rw[List.length_take]at this;omega
 ·right
  refine⟨k.1.trans h.1.symm,?_⟩
  rw[k.2]
  conv=>rhs;rw[h.2]
  rw[List.length_take,List.take_take]
  congr 1
  have:=congrArg List.length k.2
  rw[List.length_take]at this;omega
def Zo(p:PtD):List PlD:=((zk p).filter λo=>decide (o.k=4)).map (·.pl)++(if p.op=10∨p.op=11 then [p.fr]else [])
noncomputable def Yj(u:UnD)(g:GrD)(p:PtD):Bool:=(decide (1≤p.op)&&decide (p.op≤8))&&wholeP u g p.to
theorem aej{u:UnD}{g:GrD}{p:PtD}:yZ u g p=(Zo p).map (λx=>(true,x))++(if Yj u g p=true then [(false,p.to)]else []):=by
 rw[yZ,Zo,List.map_append,List.map_map,List.append_assoc]
 congr 1
 congr 1
 ·split<;>rfl
 ·by_cases h:Yj u g p=true
  ·rw[if_pos h];rw[Yj,gba]at h;rw[if_pos h]
  ·rw[if_neg h];rw[Yj,gba]at h;rw[if_neg h]
theorem abd{ps:List PlD}:∀{l:List PlD}{a:(Nat→Bool)×(Nat→Bool)}{i:Nat},((l.map λx=>(true,x)).foldl (doF ps) a).1 i=(l.any (λx=>prefP x (pthAt ps i))||a.1 i)∧((l.map λx=>(true,x)).foldl (doF ps) a).2 i=(!l.any (λx=>prefP x (pthAt ps i))&&a.2 i)
 |[],a,i=>by simp
 |x::l,a,i=>by
  obtain⟨h1,h2⟩:=abd (l:=l) (a:=doF ps a (true,x)) (i:=i)
  rw[List.map_cons,List.foldl_cons,h1,h2,List.any_cons]
  show(_||yX ps x true a.1 i)=_∧(_&&yX ps x false a.2 i)=_
  unfold yX
  cases prefP x (pthAt ps i)<;>simp
theorem aaH{u:UnD}{g:GrD}{ps:List PlD}{p:PtD}{i:Nat}:
  (xv u g ps p).1 i=(!(Yj u g p&&prefP p.to (pthAt ps i))&&(Zo p).any (λx=>prefP x (pthAt ps i)))∧(xv u g ps p).2 i=(Yj u g p&&prefP p.to (pthAt ps i)):=by
 obtain⟨h1,h2⟩:=abd (ps:=ps) (l:=Zo p) (a:=(zB,zB)) (i:=i)
 rw[xv,aej,List.foldl_append]
 have h3:(zB,zB).1 i=false:=rfl
 have h4:(zB,zB).2 i=false:=rfl
 rw[h3,Bool.or_false]at h1
 rw[h4,Bool.and_false]at h2
 cases hg:Yj u g p with
 |false=>
  show(((Zo p).map λx=>(true,x)).foldl (doF ps) (zB,zB)).1 i=_∧_
  simp only[Bool.false_and,Bool.not_false,Bool.true_and]
  exact⟨h1,h2⟩
 |true=>
  show yX ps p.to false (((Zo p).map λx=>(true,x)).foldl (doF ps) (zB,zB)).1 i=_∧yX ps p.to true (((Zo p).map λx=>(true,x)).foldl (doF ps) (zB,zB)).2 i=_
  unfold yX
  rw[h1,h2]
  cases prefP p.to (pthAt ps i)<;>simp
section
variable {u:UnD} {g:GrD} {ps:List PlD} {p:PtD} {i k:Nat}
theorem afu{l:List (PlD×Bool×Bool)}:∀{a:UsF},(l.foldl (usF u g ps) a).all i=(a.all i||l.any λx=>useF u g ps x.1 x.2.1 i):=by
 induction l with
 |nil=>intro a;simp
 |cons x l ih=>
  intro a
  rw[List.foldl_cons,ih,List.any_cons]
  show((a.all i||useF u g ps x.1 x.2.1 i)||_)=_
  rw[Bool.or_assoc]
theorem J9:(yA u g ps p).all i=(abI p).any λx=>useF u g ps x.1 x.2.1 i:=by
 rw[yA,afu];rfl
theorem agn{x:PlD}:prefP (heldW u.ss g.tys x) x=true:=by
 unfold heldW
 split
 ·rename_i y _
  rw[ky]
  refine⟨rfl,?_⟩
  show x.ps.take _=x.ps.take (x.ps.take _).length
  rw[List.length_take]
  rcases Nat.le_total (holdN y.2) x.ps.length with h|h
  ·rw[Nat.min_eq_left h]
  ·rw[Nat.min_eq_right h,List.take_of_length_le h,List.take_of_length_le (Nat.le_refl _)]
 ·exact acD
theorem Va{x:PlD}(h:wholeP u g x=true):heldW u.ss g.tys x=x:=by
 have h1:=agn (u:=u) (g:=g) (x:=x)
 rw[wholeP,gdt]at h
 rw[ky,h,List.take_length]at h1
 obtain⟨a,b⟩:=x
 cases hh:heldW u.ss g.tys ⟨a,b⟩with
 |mk c d=>rw [hh]at h1;simp only at h1;rw[h1.1,h1.2]
theorem ahP{x:PlD}{b:Bool}(h:useF u g ps x b i=true)(hk:prefP (pthAt ps k) (pthAt ps i)=true):useF u g ps x b k=true:=by
 unfold useF at *
 rw[Bool.or_eq_true,gba,Bool.not_eq_true',gba,gba]at *
 rcases h with⟨h1,h2⟩|⟨⟨h1,h2⟩,h3⟩
 ·refine .inl ⟨abc hk h1,?_⟩
  cases b with
  |false=>rfl
  |true=>
   rw[Bool.true_and]at *
   cases hw:wholeP u g x with
   |false=>rfl
   |true=>
    rw[hw,Bool.true_and]at h2
    rw[Bool.true_and]
    refine afh λe=>?_
    rw[Va hw]at h1
    rw[e]at hk
    have:=acE h1 hk
    rw[this,jV.2 rfl]at h2
    cases h2
 ·have hb:b=false:=by simpa using h1
  subst hb
  rw[Bool.false_and]
  rcases agm hk h3 with h|h
  ·left;rw[Va h2];exact⟨h,rfl⟩
  ·right;exact⟨⟨rfl,h2⟩,h⟩
theorem ag2(h:(yA u g ps p).all i=true)(hk:prefP (pthAt ps k) (pthAt ps i)=true):(yA u g ps p).all k=true:=by
 rw[J9,List.any_eq_true]at *
 obtain⟨x,hx,h⟩:=h
 exact⟨x,hx,ahP h hk⟩
end
theorem aek{ss:List StD}{t:TyD}{k m:Int}{s s':TyD×Int}(h:yc ss t k=some s)(h':yc ss t m=some s')(hs:s.2<2):s'.2<2:=by
 have key:∀{k:Int}{s:TyD×Int},yc ss t k=some s→(t.k=3∧s.2=1)∨(t.k=4∧2≤s.2)∨(t.k=5∧s.2=0):=by
  intro k s h
  unfold yc at h
  split at h
  ·rename_i a
   obtain⟨x,_,rfl⟩:=Option.map_eq_some_iff.1 h
   exact .inl ⟨a.2,rfl⟩
  ·split at h
   ·rename_i a
    obtain⟨x,_,rfl⟩:=Option.map_eq_some_iff.1 h
    refine .inr (.inl ⟨a.2,?_⟩)
    show(2:Int)≤(if t.m then(2:Int)else 3)
    split<;>decide
   ·split at h
    ·rename_i a
     obtain⟨x,_,rfl⟩:=Option.map_eq_some_iff.1 h
     exact .inr (.inr ⟨a.2,rfl⟩)
    ·cases h
 rcases key h with a|a|a<;>rcases key h' with b|b|b<;>omega
theorem aaI{ss:List StD}:∀{l:List Int}{t:TyD}{x:TyD×List Int}{n:Nat},zG ss l t=some x→n<l.length→∃y s,zG ss (l.take n) t=some (y,x.2.take n)∧yc ss y (l.getD n 0)=some (s,x.2.getD n 0)
 |[],t,x,n,h,hn=>by simp at hn
 |k::l,t,x,n,h,hn=>by
  rw[zG,Option.bind_eq_some_iff]at h
  obtain⟨s,hs,h⟩:=h
  obtain⟨z,hz,rfl⟩:=Option.map_eq_some_iff.1 h
  cases n with
  |zero=>exact ⟨t,s.1,rfl,hs⟩
  |succ n=>
   obtain⟨y,s2,h1,h2⟩:=aaI hz (n:=n) (by simpa using hn)
   refine⟨y,s2,?_,h2⟩
   rw[List.take_succ_cons,zG,hs]
   show(zG ss (l.take n) s.1).map _=_
   rw[h1];rfl
theorem ag3{l:List Int}{n:Nat}(h:n<holdN l):l.getD n 0<2:=by
 have h1:n<(l.takeWhile λk=>decide (k<2)).length:=h
 have h2:=List.all_eq_true.1 (List.all_takeWhile (p:=λk:Int=>decide (k<2)) (l:=l)) _ (gem h1)
 rw[gdt]at h2
 have hp:(l.takeWhile λk=>decide (k<2)) <+:l:=List.takeWhile_prefix _
 rw[ggd,gqg (Nat.lt_of_lt_of_le h1 hp.length_le),Option.getD_some,← hp.getElem h1]
 exact h2
theorem acF:∀{l:List Int},holdN l<l.length→2≤l.getD (holdN l) 0
 |[],h=>by simp at h
 |k::l,h=>by
  by_cases hk:k<2
  ·have e:holdN (k::l)=holdN l+1:=by rw[holdN,holdN,List.takeWhile_cons_of_pos (by simpa using hk),List.length_cons]
   rw[e]at h⊢
   rw[gds]
   exact acF (by simpa using h)
  ·have e:holdN (k::l)=0:=by rw[holdN,List.takeWhile_cons_of_neg (by simpa using hk)];rfl
   rw[e,gdz];omega
section
variable {u:UnD} {g:GrD}
theorem ago{x y z:PlD}(hs:(zA u.ss).2=0)(hf:xO u.ss g.tys)(hx:OkP u g x)(hy:OkP u g y)(hw:wholeP u g x=false)(hz:prefP z (heldW u.ss g.tys y)=true)(hxz:prefP (heldW u.ss g.tys x) z=true):z=heldW u.ss g.tys x:=by
 have hne:x.ps≠[]:=λe=>by
  rw[wholeP,jf e,gde rfl]at hw;cases hw
 have hx':=hx.resolve_left hne
 obtain⟨a,ha⟩:=Option.isSome_iff_exists.1 hx'
 obtain⟨hx0,hxl⟩:=J2 hx'
 have hhx:heldW u.ss g.tys x=jX x (holdN a.2):=by rw[heldW,ha]
 have hal:=Yi ha
 have hlt:holdN a.2<x.ps.length:=by
  rw[wholeP,decide_eq_false_iff_not,hhx]at hw
  have :(jX x (holdN a.2)).ps.length=min (holdN a.2) x.ps.length:=List.length_take
  have:=Xl (l:=a.2)
  omega
 have hxy:=ky.1 (abc hxz hz)
 rw[hhx]at hxz hxy⊢
 refine(acE ?_ hxz)
 have hz1:=ky.1 hz
 have hz2:=ky.1 hxz
 have hcl:(jX x (holdN a.2)).ps.length=holdN a.2:=by show(x.ps.take (holdN a.2)).length=_;rw[List.length_take];omega
 rw[hcl]at hz2 hxy
 by_cases hlen:z.ps.length≤holdN a.2
 ·rw[ky]
  refine⟨hz2.1.symm,?_⟩
  have e:=hz2.2
  rw[e,List.take_take]
  have h3:=congrArg List.length e
  rw[hcl,List.length_take]at h3
  rw[Nat.min_eq_left hlen,List.take_of_length_le (Nat.le_refl _)]
 exfalso
 have hylen:z.ps.length≤(heldW u.ss g.tys y).ps.length:=by
  have:=congrArg List.length hz1.2
  rw[List.length_take]at this;omega
 have hyne:y.ps≠[]:=λe=>by
  have h0:z.ps.length≤y.ps.length:=by rw[jf e]at hylen;exact hylen
  rw[e]at h0;simp at h0;rw[h0]at hlen;simp at hlen
 obtain⟨b,hb⟩:=Option.isSome_iff_exists.1 (hy.resolve_left hyne)
 have hhy:heldW u.ss g.tys y=jX y (holdN b.2):=by rw[heldW,hb]
 have hbl:=Yi hb
 rw[hhy]at hxy hylen
 have hyc:(jX y (holdN b.2)).ps.length=min (holdN b.2) y.ps.length:=List.length_take
 rw[hyc]at hylen
 have hll:x.l=y.l:=hxy.1
 rw[jW hs hf hx0 hxl]at ha
 rw[jW hs hf (by rw[← hll];exact hx0) (by rw[← hll];exact hxl)]at hb
 split at ha
 ·split at hb
  ·obtain⟨y1,s1,w1,w2⟩:=aaI ha hlt
   obtain⟨y2,s2,w3,w4⟩:=aaI hb (n:=holdN a.2) (by omega)
   have hpe:x.ps.take (holdN a.2)=y.ps.take (holdN a.2):=by
    have:=hxy.2
    rw[show (jX x (holdN a.2)).ps=x.ps.take (holdN a.2)from rfl,show (jX y (holdN b.2)).ps=y.ps.take (holdN b.2)from rfl,List.take_take,Nat.min_eq_left (by omega)]at this
    exact this
   have hte:g.tys[x.l.toNat]=g.tys[y.l.toNat]'(by rw[← hll];exact hxl):=by simp only[hll]
   rw[hpe,hte,w3]at w1
   simp only[Option.some.injEq,Prod.mk.injEq]at w1
   obtain⟨e1,_⟩:=w1
   subst e1
   have hlo:=ag3 (l:=b.2) (n:=holdN a.2) (by omega)
   have:=aek w4 w2 hlo
   have hhi:=acF (l:=a.2) (by omega)
   simp only at this
   omega
  ·cases hb
 ·cases ha
end
theorem vI{u:UnD}{fn q:Int}{v:Value}{w:World}{r:Gh}{K:Value→World→Prop}(hr:Holds r w)(hu:UnG r v u)
  (h0:∀e w',e≠0→ofE u fn q=e→Ext w w'→K (.tuple #[.pointer none,.int .i64 e]) w')
  (h1:∀g s bx w',ofE u fn q=0→FnM u fn g→isU u fn q=true→(zg u g).length≤256→Ext w w'→New w s w'→LkM (r.or s) bx u g (zg u g)→K (.tuple #[.pointer (some ⟨bx,0,none⟩),.int .i64 0]) w'):
  zb Tryz.prog Tryz.xZ #[v,.int .i64 fn,.int .i64 q] w K:=by
 refine aeh hr hu (λhi w' e=>h0 2 w' (by decide) (by rw[ofE,if_pos hi]) e) λhi g hg=>⟨λhb w' e=>h0 5 w' (by decide) (by rw[ofE,if_neg (by rw[hi];decide),hg];exact if_pos hb) e,λhb s bx gb cap c p0 cap0 vf vo qt capt vn vp w' ha hG hU S hcap hx=>?_⟩
 have hE:ofE u fn q=0:=by rw[ofE,if_neg (by rw[hi];decide),hg];exact if_neg (by omega)
 obtain⟨S,a1⟩:=StX.frzNew S bx
 obtain⟨S,a2⟩:=StX.frzNew S gb
 have S:=S.reGh.reGh
 obtain⟨_,_,_,e1,_,_,hst,_,_⟩:=hU
 cases e1
 obtain⟨_,_,_,_,e2,m1,m2,m3,m4⟩:=hG
 cases e2
 obtain⟨q4,y4,rfl,_,_⟩:=m4.sl.shape
 refine h1 g _ bx w' hE (fnM hi hg) hi hb S.ext (S.newOf (ha.or' (a1.or' a2))) ⟨⟨p0,cap0,yz (b:=bx) (c:=mkL u g p0 cap0 vf vo qt capt vn (.slice q4 g.pts.length y4) (.slice (some ⟨gb,0,none⟩) (zg u g).length cap)) (T:=90) rfl,RepS.up hst⟩,yz (b:=bx) (c:=mkL u g p0 cap0 vf vo qt capt vn (.slice q4 g.pts.length y4) (.slice (some ⟨gb,0,none⟩) (zg u g).length cap)) (T:=90) rfl,⟨qt,capt,yz (b:=bx) (c:=mkL u g p0 cap0 vf vo qt capt vn (.slice q4 g.pts.length y4) (.slice (some ⟨gb,0,none⟩) (zg u g).length cap)) (T:=90) rfl,m2.up' inferInstance λ_ _ h=>TyG.up h⟩,⟨q4,y4,yz (b:=bx) (c:=mkL u g p0 cap0 vf vo qt capt vn (.slice q4 g.pts.length y4) (.slice (some ⟨gb,0,none⟩) (zg u g).length cap)) (T:=90) rfl,m4.up' inferInstance λ_ _ h=>PtG.up h⟩,⟨some ⟨gb,0,none⟩,cap,yz (b:=bx) (c:=mkL u g p0 cap0 vf vo qt capt vn (.slice q4 g.pts.length y4) (.slice (some ⟨gb,0,none⟩) (zg u g).length cap)) (T:=90) rfl,?_⟩⟩
 refine RowOf.sl (xs:=c.take ((zg u g).length*2)) (hx.mono λc x hx=>PlG.up (l:=⟨λb o ho=>Or.elim ho .inl λho=>.inr (.inl ho)⟩) hx) (by simp) hcap (λw k=>?_) (by decide) ⟨w',S.holds⟩
 exact(Sl.blk (yK (b:=gb) (c:=c) (T:=59) w (k.le (h:=inferInstance)))).take _
noncomputable def mvE(u:UnD)(fn q:Int):Int:=if q<0 then 2 else ofE u fn q
theorem Yk{u:UnD}{fn q:Int}{v:Value}{w:World}{r:Gh}{K:Value→World→Prop}(hr:Holds r w)(hu:UnG r v u)
  (h0:∀e w',e≠0→mvE u fn q=e→Ext w w'→K (.tuple #[.pointer none,.int .i64 e]) w')
  (h1:∀g s bx w',mvE u fn q=0→0≤q→FnM u fn g→q.toNat<g.pts.length→(zg u g).length≤256→Ext w w'→New w s w'→LkM (r.or s) bx u g (zg u g)→K (.tuple #[.pointer (some ⟨bx,0,none⟩),.int .i64 0]) w'):
  zb Tryz.prog Tryz.qW #[v,.int .i64 fn,.int .i64 q] w K:=by
 refine Tryz.aeb ?_
 unfold Tryz.aa5
 have hu0:=hu
 obtain⟨p0,cap0,vf,rfl,_,_,hst,hsl,hfn⟩:=hu
 obtain⟨qf,capf,rfl,_,_⟩:=hfn.sl.shape
 have S:=St.start hr
 refine S.box λb3 w1 S=>?_
 have S:StX noX w r w1 [.cell b3 [.slice p0 u.ss.length cap0,.slice qf u.fs.length capf,.int .i64 u.mn] 25]:=S
 refine gp_ ?_
 refine zh (λhq=>?_) (λhq=>?_)
 ·exact h0 2 _ (by decide) (by rw[mvE,if_pos hq]) S.ext
 have hq0:0≤q:=by omega
 have hm:mvE u fn q=ofE u fn q:=by rw[mvE,if_neg hq]
 refine S.ldB (b:=b3) ?_ rfl
 refine vI S.holds hu0 (λe w2 he hof e2=>?_) λg s bx w2 hof F hi hb e2 n2 hL=>?_
 ·refine gg_ ?_
  exact h0 e w2 he (hm.trans hof) (S.go e2).ext
 ·obtain⟨S,_,a2⟩:=S.tell e2 n2
  have hlt:q.toNat<g.pts.length:=by
   obtain⟨_,_,h1,h2,_⟩:=ZO hi
   have:=F.at'
   rw[gqg h1,Option.some.injEq]at this
   rw[this]at h2
   omega
  refine gg_ ?_
  exact h1 g s bx w2 (hm.trans hof) hq0 F hlt hb S.ext (S.newOf a2) hL
theorem ahQ{P:Program}{w:World}{f:FuncId}{K:Value→World→Prop}{x0 c0:Value}(he:yP P f=true)(h:zb P f #[c0,x0] w K):zx P (.func (.func f) #[c0] #[]) #[x0] w K:=xC he h
abbrev ais(b:Nat):Value:=.func (.func Tryz.yx) #[.map (some b)] #[]
abbrev ahR(b:Nat):Value:=.func (.func Tryz.kG) #[.map (some b)] #[]
theorem qd{ps:List PlD}{i:Nat}(h:i<ps.length):pthAt ps i=ps[i]:=by
 rw[pthAt,ggd,gqg h];rfl
section
variable {u:UnD} {g:GrD} {ps:List PlD} {bx:Nat} {q r:Gh} {p:PlD} {c:List Value} {X:Nat→Prop} {w0 w:World} {L:List Asr} {K:Value→World→Prop}
theorem ady{fv:Value}{J:Nat→List Asr→Prop}(S:StX X w0 r w L)(hL:LkM q bx u g ps)[Le q r](hp:PlG r c p)(hf:ps.length≤1000000)(h0:J 0 L)
  (hy:∀{i:Nat}{L M:List Asr}{x y:Asr}{w:World}{K:Value→World→Prop},i<ps.length→prefP p (pthAt ps i)=true→J i L→StX X w0 r w (x::y::L)→(∀L' w',J (i+1) L'→StX X w0 r w' (x::y::L')→K (.tuple #[]) w')→zx Tryz.prog fv #[.int .i64 (i:Nat)] w K)
  (hn:∀{i:Nat}{L:List Asr},i<ps.length→prefP p (pthAt ps i)=false→J i L→J (i+1) L)
  (h:∀L' w',J ps.length L'→StX X w0 r w' L'→K (.tuple #[]) w'):zb Tryz.prog Tryz.zK #[.pointer (some ⟨bx,0,none⟩),.agg c.toArray,fv] w K:=by
 refine Tryz.Qn ?_
 unfold Tryz.Zd
 have hp0:=hp
 obtain⟨vv,rfl,hl⟩:=hp
 obtain⟨qs,caps,rfl,_,_⟩:=hl.sl.shape
 obtain⟨pp,cap,hpc,hps⟩:=hL.pth
 refine S.box λb4 w1 S=>?_
 have S:StX X w0 r w1 (.cell b4 [.int .i64 p.l,.slice qs p.ps.length caps] 59::L):=S
 refine gg_ ?_
 refine zi (S.at hpc) ?_
 refine gp_ ?_
 refine zj (ι:=Nat) (λi=>[.int .i64 (i:Nat)]) (λi w'=>i≤ps.length∧∃L',J i L'∧StX X w0 r w' (.cell b4 [.int .i64 p.l,.slice qs p.ps.length caps] 59::L')) (λi=>ps.length-i) 0 rfl ⟨gzl _,L,h0,S⟩ ?_
 clear S h0
 rintro i d w5 ⟨hi,L5,hJ,S⟩ K2 hK2
 rw[gdz]
 refine gp_ ?_
 refine zh (λhlt=>?_) (λhge=>?_)
 ·have hlt:i<ps.length:=by omega
  refine zs (λy w'=>y=[]∧∃L',J (i+1) L'∧StX X w0 r w' (.cell b4 [.int .i64 p.l,.slice qs p.ps.length caps] 59::L')) (λK6 hK6=>?_) ?_
  ·obtain⟨bo,oo,co,hE,hco,hoc,hoo⟩:=hps.get (by decide) hlt
   cases hE
   refine gp_ ?_
   refine zt (n:=2) hco (λj v hj=>by simpa using S.at (hoo j v hj)) ?_
   rw[← qd hlt]at hoc
   have hoc0:=hoc
   obtain⟨vo,rfl,hol⟩:=hoc
   obtain⟨qo,ko,rfl,_,_⟩:=hol.sl.shape
   refine S.al λb7 w6 S=>?_
   refine S.stB (b:=b7) λw7 S=>?_
   have S:StX X w0 r w7 (.cell b7 [.int .i64 (pthAt ps i).l,.slice qo (pthAt ps i).ps.length ko] 59::.cell b4 [.int .i64 p.l,.slice qs p.ps.length caps] 59::L5):=S
   refine S.ldB (b:=b4) ?_ rfl
   refine S.ldB (b:=b7) ?_ rfl
   refine k7 S.holds hp0 (PlG.up hoc0) λw8 e8=>?_
   have S:=S.go e8
   refine c_b (λhpr=>?_) (λhpr=>?_)
   ·refine hy (M:=[]) hlt hpr hJ S λL' w9 hJ' S=>?_
    exact hK6 _ _ ⟨rfl,L',hJ',S.tl⟩
   ·exact hK6 _ _ ⟨rfl,L5,hn hlt hpr hJ,S.tl⟩
  ·rintro _ w9 ⟨rfl,L',hJ',S⟩ d9
   refine gp_ ?_
   rw[show ((i:Int)+1)=((i+1:Nat):Int)by omega]
   exact hK2 (i+1) _ ⟨hlt,L',hJ',S⟩ (by omega)
 ·obtain rfl:i=ps.length:=by omega
  exact h L5 _ hJ S.tl
def kA(ps:List PlD)(p:PlD)(b:Bool)(i:Nat)(f:Nat→Bool):Nat→Bool:=λj=>if j<i then yX ps p b f j else f j
theorem acG{b:Bool}{i j:Nat}{f:Nat→Bool}(h:prefP p (pthAt ps i)=true):xW (kA ps p b i f) i b j=kA ps p b (i+1) f j:=by
 unfold xW kA
 by_cases e:j=i
 ·subst e;rw[if_pos rfl,if_pos (Nat.lt_succ_self _),yX,if_pos h]
 ·rw[if_neg e]
  by_cases hl:j<i
  ·rw[if_pos hl,if_pos (by omega)]
  ·rw[if_neg hl,if_neg (by omega)]
theorem adz{b:Bool}{i j:Nat}{f:Nat→Bool}(h:prefP p (pthAt ps i)=false):kA ps p b i f j=kA ps p b (i+1) f j:=by
 unfold kA
 by_cases e:j=i
 ·subst e;rw[if_neg (Nat.lt_irrefl _),if_pos (Nat.lt_succ_self _),yX,if_neg (by rw[h];decide)]
 ·by_cases hl:j<i
  ·rw[if_pos hl,if_pos (by omega)]
  ·rw[if_neg hl,if_neg (by omega)]
theorem acH{b:Bool}{i:Nat}{f:Nat→Bool}(h:i<ps.length):kA ps p b ps.length f i=yX ps p b f i:=by rw[kA,if_pos h]
variable {b B:Nat} {M:ya} {m:Nat→Bool} {f:Asr→List Asr}
theorem adA{Q Q':Obj→Prop}(h0:xo b L Q f):xo b (f (.obj b Q')) Q' f:=⟨by
 obtain⟨p,q,_,e2⟩:=h0.h
 exact⟨p,q,e2 _,e2⟩⟩
theorem adB{Q:Obj→Prop}(h0:xo b L Q f):L=f (.obj b Q):=by
 obtain⟨p,q,e1,e2⟩:=h0.h
 rw[e1,e2]
theorem qE(S:StX X w0 r w L)[h0:xo b L (zF M) f](hL:LkM q bx u g ps)[Le q r](hp:PlG r c p)(hf:ps.length≤1000000)(hM:SetF ps.length B M m)(hB:B≤1000000000000)
  (h:∀M' w',SetF ps.length (B+ps.length) M' (yX ps p true m)→StX X w0 r w' (f (.obj b (zF M')))→K (.tuple #[]) w'):zb Tryz.prog Tryz.zK #[.pointer (some ⟨bx,0,none⟩),.agg c.toArray,ais b] w K:=by
 refine ady (J:=λi L'=>∃M',L'=f (.obj b (zF M'))∧SetF ps.length (B+i) M' (kA ps p true i m)) S hL hp hf ⟨M,adB h0,hM.congr λi _=>by rw[kA,if_neg (Nat.not_lt_zero _)]⟩ ?_ ?_ ?_
 ·rintro i L' _ x y w K hi hpr ⟨M',rfl,hM'⟩ S hK
  haveI:=adA (Q':=zF M') h0
  have hc:=hM'.cnt i
  refine ahQ (by kernel_rfl) (vG S (by omega) λw' S=>?_)
  exact hK _ w' ⟨_,rfl,(hM'.put hi).congr λj _=>acG hpr⟩ S
 ·rintro i L' hi hpr ⟨M',rfl,hM'⟩
  exact⟨M',rfl,(hM'.mono (by omega)).congr λj _=>adz hpr⟩
 ·rintro L' w' ⟨M',rfl,hM'⟩ S
  exact h M' w' (hM'.congr λi hi=>acH hi) S
theorem Qv(S:StX X w0 r w L)[h0:xo b L (zF M) f](hL:LkM q bx u g ps)[Le q r](hp:PlG r c p)(hf:ps.length≤1000000)(hM:SetF ps.length B M m)
  (h:∀M' w',SetF ps.length B M' (yX ps p false m)→StX X w0 r w' (f (.obj b (zF M')))→K (.tuple #[]) w'):zb Tryz.prog Tryz.zK #[.pointer (some ⟨bx,0,none⟩),.agg c.toArray,ahR b] w K:=by
 refine ady (J:=λi L'=>∃M',L'=f (.obj b (zF M'))∧SetF ps.length B M' (kA ps p false i m)) S hL hp hf ⟨M,adB h0,hM.congr λi _=>by rw[kA,if_neg (Nat.not_lt_zero _)]⟩ ?_ ?_ ?_
 ·rintro i L' _ x y w K hi hpr ⟨M',rfl,hM'⟩ S hK
  haveI:=adA (Q':=zF M') h0
  refine ahQ (by kernel_rfl) (VS S λw' S=>?_)
  exact hK _ w' ⟨_,rfl,hM'.take.congr λj _=>acG hpr⟩ S
 ·rintro i L' hi hpr ⟨M',rfl,hM'⟩
  exact⟨M',rfl,hM'.congr λj _=>adz hpr⟩
 ·rintro L' w' ⟨M',rfl,hM'⟩ S
  exact h M' w' (hM'.congr λi hi=>acH hi) S
end
def StpM(r:Gh)(vl vg:Value)(c:List Value)(s:Bool×PlD):Prop:=∃fv cp,c=[fv]∧fv.oneCell'=true∧PlG r cp s.2∧∀{w:World}{K:Value→World→Prop},Holds r w→zx Tryz.prog (if s.1=true then vl else vg) #[.agg cp.toArray] w (λ_ w'=>K (.tuple #[]) w')→zx Tryz.prog fv #[] w K
theorem StpM.up{r s:Gh}{vl vg:Value}{c:List Value}{x:Bool×PlD}(h:StpM r vl vg c x)[l:Le r s]:StpM s vl vg c x:=by
 obtain⟨fv,cp,h1,h2,h3,h4⟩:=h
 exact⟨fv,cp,h1,h2,PlG.up h3,λhr hk=>h4 (hr.le (h:=l)) hk⟩
section
variable {r:Gh} {vl vg:Value} {b6 b8:Nat} {cp:List Value} {x:PlD}
theorem ait(h6:Ob r λw=>w.cell? ⟨b6,0,none⟩=some vl)(h2:∀j v,cp[j]? = some v→Ob r λw=>w.cell? ⟨b8,2+j,none⟩=some v)(hc:PlG r cp x):StpM r vl vg [.func (.func Tryz.xr) #[] #[.pointer (some ⟨b6,0,none⟩),.pointer (some ⟨b8,0,none⟩)]] (true,x):=
 ⟨_,cp,rfl,rfl,hc,fun {w K} hr h=>adW (by kernel_rfl) (by
  refine Tryz.Xi ?_
  unfold Tryz.jI
  refine zi (h6 _ hr) ?_
  refine gp_ ?_
  refine zt (n:=2) (xV hc) (λj v hj=>by simpa using h2 j v hj _ hr) ?_
  exact h)⟩
theorem aiu(h6:Ob r λw=>w.cell? ⟨b6,0,none⟩=some vl)(h2:∀j v,cp[j]? = some v→Ob r λw=>w.cell? ⟨b8,13+j,none⟩=some v)(hc:PlG r cp x):StpM r vl vg [.func (.func Tryz.xt) #[] #[.pointer (some ⟨b6,0,none⟩),.pointer (some ⟨b8,0,none⟩)]] (true,x):=
 ⟨_,cp,rfl,rfl,hc,fun {w K} hr h=>adW (by kernel_rfl) (by
  refine Tryz.Xj ?_
  unfold Tryz.jJ
  refine zi (h6 _ hr) ?_
  refine gp_ ?_
  refine zt (n:=2) (xV hc) (λj v hj=>by simpa using h2 j v hj _ hr) ?_
  exact h)⟩
theorem aiv(h6:Ob r λw=>w.cell? ⟨b6,0,none⟩=some vg)(h2:∀j v,cp[j]? = some v→Ob r λw=>w.cell? ⟨b8,1+j,none⟩=some v)(hc:PlG r cp x):StpM r vl vg [.func (.func Tryz.xu) #[] #[.pointer (some ⟨b6,0,none⟩),.pointer (some ⟨b8,0,none⟩)]] (false,x):=
 ⟨_,cp,rfl,rfl,hc,fun {w K} hr h=>adW (by kernel_rfl) (by
  refine Tryz.Xk ?_
  unfold Tryz.jK
  refine zi (h6 _ hr) ?_
  refine gp_ ?_
  refine zt (n:=2) (xV hc) (λj v hj=>by simpa using h2 j v hj _ hr) ?_
  exact h)⟩
end
theorem adC{u:UnD}{g:GrD}{p:PtD}(h:p.args.length≤1000):(yZ u g p).length≤1004:=by
 have h1:=List.length_filter_le k8 (p.a::p.b::p.args)
 have h2:=List.length_filter_le (λo:OpD=>decide (o.k=4)) (zk p)
 have h3:(if p.op=10∨p.op=11 then [(true,p.fr)]else []).length≤1:=by split<;>simp
 have h4:(if(decide (1≤p.op)&&decide (p.op≤8))=true∧wholeP u g p.to=true then [(false,p.to)]else []).length≤1:=by split<;>simp
 change (zk p).length≤_ at h1
 simp only[List.length_cons]at h1
 rw[yZ,gla,gla,List.length_map]
 omega
section
variable {u:UnD} {fn q:Int} {g:GrD} {ps:List PlD} {bx:Nat} {q0 r:Gh} {p:PtD} {X:Nat→Prop} {w0 w:World} {L:List Asr} {K:Value→World→Prop} {fl fg:Fn} {al ag cl cg:Array Value}
theorem ag4{J:Nat→List Asr→Prop}(S:StX X w0 r w L)(hL:LkM q0 bx u g ps)[Le q0 r](F:FnM u fn g)(hq0:0≤q)(hq:q.toNat<g.pts.length)(hpe:g.pts[q.toNat]=p)(h0:J 0 L)
  (hdo:∀{k:Nat}{L:List Asr}{r':Gh}{w:World}{cp:List Value}{K:Value→World→Prop}(hk:k<(yZ u g p).length),Le r r'→J k L→StX X w0 r' w L→PlG r' cp (yZ u g p)[k].2→(∀L' w',J (k+1) L'→StX X w0 r' w' L'→K (.tuple #[]) w')→zx Tryz.prog (if(yZ u g p)[k].1=true then .func fl al cl else .func fg ag cg) #[.agg cp.toArray] w K)
  (h:∀L' w',J (yZ u g p).length L'→StX X w0 r w' L'→K (.tuple #[]) w'):zb Tryz.prog Tryz.qj #[.pointer (some ⟨bx,0,none⟩),.int .i64 q,.func fl al cl,.func fg ag cg] w K:=by
 refine Tryz.Qr ?_
 unfold Tryz.Ze
 have hpm:p∈g.pts:=by rw[← hpe];exact gem hq
 have hargs:=jU F.may (F.pts p hpm)
 have hto:=F.to hpm
 have hslen:=adC (u:=u) (g:=g) hargs
 obtain⟨pq,capq,hpts,hpl⟩:=hL.pts
 obtain⟨bq,oq,cq,hqE,hcq,hpc,hpo⟩:=hpl.sl.get (by decide) hq
 cases hqE
 rw[hpe]at hpc
 obtain⟨x1,x2,x3,x4,x5,y1,y2,y3,y4,y5,rfl,hp0⟩:=jd hpc
 refine S.box λb6 w1 S=>?_
 have S:StX X w0 r w1 (.cell b6 [.func fl al cl] 117::L):=S
 have S:=S.frzAt b6
 refine S.box λb7 w2 S=>?_
 have S:StX X w0 _ w2 (.cell b7 [.func fg ag cg] 117::L):=S
 have S:=S.frzAt b7
 refine gg_ ?_
 refine zi (S.at hpts) ?_
 refine gp_ ?_
 refine zt (n:=21) hcq (λj v hj=>by simpa using S.at (hpo j v hj)) ?_
 refine S.al λb8 w3 S=>?_
 refine S.stB (b:=b8) λw4 S=>?_
 have S:StX X w0 _ w4 (.cell b8 (ptL p x1 x2 x3 x4 x5 y1 y2 y3 y4 y5) 94::L):=S
 refine S.ldB (b:=b8) ?_
 refine qQ S.holds (PtG.up hp0) hargs λv9 s2 w9 e9 n9 h9=>?_
 obtain⟨S,_,a9⟩:=S.tell e9 n9
 have S:=S.frzAt b8
 obtain⟨ρ,lr,h6,h7,h8,h9,hp0,S⟩:∃ρ,Le r ρ∧(Ob ρ λw=>w.cell? ⟨b6,0,none⟩=some (.func fl al cl))∧(Ob ρ λw=>w.cell? ⟨b7,0,none⟩=some (.func fg ag cg))∧(∀j v,(ptL p x1 x2 x3 x4 x5 y1 y2 y3 y4 y5)[j]? = some v→Ob ρ λw=>w.cell? ⟨b8,j,none⟩=some v)∧
  SlG 4 ρ (OpG ρ) v9 (zk p)∧PtG ρ (ptL p x1 x2 x3 x4 x5 y1 y2 y3 y4 y5) p∧StX X w0 ρ w9 L:=
  ⟨_,inferInstance,yz (b:=b6) (i:=0) (c:=[.func fl al cl]) (T:=117) rfl,yz (b:=b7) (i:=0) (c:=[.func fg ag cg]) (T:=117) rfl,λj v hj=>yz (b:=b8) (c:=ptL p x1 x2 x3 x4 x5 y1 y2 y3 y4 y5) (T:=94) hj,h9.up' inferInstance λ_ _ h=>OpG.up h,PtG.up hp0,S⟩
 clear e9 n9 a9 hpo hpc hcq
 have hL:LkM ρ bx u g ps:=LkM.up hL (l:=⟨λb o ho=>lr.le b o (Le.le (r:=q0) (s:=r) b o ho)⟩)
 obtain⟨_,_,_,_,_,hE,k1,k2,k3,k4,k5⟩:=id hp0
 cases hE
 obtain⟨q9,c9,rfl,_,_⟩:=h9.shape
 have hol:(zk p).length≤1002:=by
  have h1:=List.length_filter_le k8 (p.a::p.b::p.args)
  change (zk p).length≤_ at h1
  simp only[List.length_cons]at h1
  omega
 refine gp_ ?_
 have S:=(S.ownNil 1 1).to (ρ.or nothing)
 refine zj (ι:=Value×Nat) (λi=>[i.1,.int .i64 (i.2:Nat)]) (λi w'=>i.2≤(zk p).length∧∃σ xs,RowOf 1 (StpM (ρ.or σ) (.func fl al cl) (.func fg ag cg)) xs ((((zk p).take i.2).filter λo=>decide (o.k=4)).map λo=>(true,o.pl))∧StX X w0 (ρ.or σ) w' (.row i.1 1 1 xs.length xs::L)) (λi=>(zk p).length-i.2) (.slice none 0 0,0) rfl ⟨gzl _,nothing,[],RowOf.nil,S⟩ ?_
 clear S
 rintro⟨v,j⟩ d5 w5 ⟨hj,σ,xs,hx,S⟩ K6 hK6
 simp only at hj hx S⊢
 simp only[gdz,gds]
 refine gp_ ?_
 refine zh (λhlt=>?_) (λhge=>?_)
 ·have hlt:j<(zk p).length:=by omega
  have hxl:xs.length≤1002:=by
   have h1:=hx.1
   have h2:=List.length_filter_le (λo:OpD=>decide (o.k=4)) ((zk p).take j)
   rw[List.length_map]at h1
   rw[List.length_take]at h2
   omega
  refine zs (λy w'=>∃v' σ' xs',y=[v']∧RowOf 1 (StpM (ρ.or σ') (.func fl al cl) (.func fg ag cg)) xs' ((((zk p).take (j+1)).filter λo=>decide (o.k=4)).map λo=>(true,o.pl))∧StX X w0 (ρ.or σ') w' (.row v' 1 1 xs'.length xs'::L)) (λK10 hK10=>?_) ?_
  ·obtain⟨bo,oo,co,hoE,hco,hoc,hoo⟩:=h9.get (by decide) hlt
   cases hoE
   rw[List.take_succ_eq_append_getElem hlt,List.filter_append,List.map_append]at hK10
   generalize (zk p)[j]=o at *
   refine gp_ ?_
   refine zt (n:=4) hco (λj v hj=>by simpa using S.at (hoo j v hj)) ?_
   obtain⟨qo,ko,rfl⟩:=je hoc
   refine S.al λb14 w10 S=>?_
   refine S.stB (b:=b14) λw11 S=>?_
   have S:StX X w0 (ρ.or σ) w11 (.cell b14 [.int .u8 o.k,.int .i64 o.n,.int .i64 o.pl.l,.slice qo o.pl.ps.length ko] 61::.row v 1 1 xs.length xs::L):=S
   obtain⟨_,hoE,hopl⟩:=id hoc
   cases hoE
   refine gg_ ?_
   refine zh (λhk=>?_) (λhk=>?_)
   ·have S:=S.frzAt b14
    have S:=S.reGh
    refine gp_ ?_
    refine S.lit (e:=1) (cs:=[.func (.func Tryz.xr) #[] #[.pointer (some ⟨b6,0,none⟩),.pointer (some ⟨b14,0,none⟩)]]) (by kernel_rfl) λb15 w12 S=>?_
    refine S.ap (v:=v) (m':=1) (Sl.blk (S.blk b15)) (λv' w13 S=>?_) (by omega)
    have S:=S.drop b15
    rw[show xs.length+1=(xs++[Value.func (.func Tryz.xr) #[] #[.pointer (some ⟨b6,0,none⟩),.pointer (some ⟨b14,0,none⟩)]]).length by simp]at S
    refine hK10 _ _ ⟨v',_,_,rfl,?_,S⟩
    have hk2:([o].filter λo=>decide (o.k=4)).map (λo=>(true,o.pl))=[(true,o.pl)]:=by simp[hk]
    rw[hk2]
    refine(hx.mono λc x hx=>StpM.up (l:=⟨λb o ho=>Or.elim ho .inl λho=>.inr (.inl ho)⟩) hx).snoc rfl ?_
    refine ait (cp:=[.int .i64 o.pl.l,.slice qo o.pl.ps.length ko]) h6.up (λj v hj=>?_) (PlG.up (⟨_,rfl,hopl⟩:PlG ρ _ o.pl))
    rw[Nat.add_comm]
    exact yz (c:=[.int .u8 o.k,.int .i64 o.n,.int .i64 o.pl.l,.slice qo o.pl.ps.length ko]) (T:=61) (by rw[← hj];rfl)
   ·have hk2:([o].filter λo=>decide (o.k=4)).map (λo=>(true,o.pl))=[]:=by simp[hk]
    rw[hk2,List.append_nil]at hK10
    exact hK10 _ _ ⟨v,σ,xs,rfl,hx,S.tl⟩
  ·clear S hx
   rintro _ w13 ⟨v',σ',xs',rfl,hx,S⟩ d13
   rw[gdz]
   refine gp_ ?_
   rw[show ((j:Int)+1)=((j+1:Nat):Int)by omega]
   exact hK6 (v',j+1) _ ⟨hlt,σ',xs',hx,S⟩ (by show(zk p).length-(j+1)<(zk p).length-j;omega)
 obtain rfl:j=(zk p).length:=by omega
 clear hK6 K6 hge hj
 rw[List.take_length]at hx
 have hst:yZ u g p=(((zk p).filter λo=>decide (o.k=4)).map λo=>(true,o.pl))++((if p.op=10∨p.op=11 then [(true,p.fr)]else [])++(if(decide (1≤p.op)&&decide (p.op≤8))=true∧wholeP u g p.to=true then [(false,p.to)]else [])):=rfl
 rw[← List.append_assoc]at hst
 have hl0:xs.length≤1002:=by
  have h1:=hx.1
  have h2:=List.length_filter_le (λo:OpD=>decide (o.k=4)) (zk p)
  rw[List.length_map]at h1
  omega
 generalize (((zk p).filter λo=>decide (o.k=4)).map λo=>(true,o.pl))=A at *
 refine zs (λy w'=>∃v' σ' xs',y=[v']∧xs'.length≤1003∧RowOf 1 (StpM (ρ.or σ') (.func fl al cl) (.func fg ag cg)) xs' (A++(if p.op=10∨p.op=11 then [(true,p.fr)]else []))∧StX X w0 (ρ.or σ') w' (.row v' 1 1 xs'.length xs'::L)) (λK18 hK18=>?_) ?_
 ·refine gp_ ?_
  refine zi (S.at (h8 0 _ rfl)) ?_
  refine gp_ ?_
  refine zq (c:=decide (p.op=11)) (λ_ K2 hK2=>by
   refine gp_ ?_
   refine zi (S.at (h8 0 _ rfl)) ?_
   refine gp_ ?_
   exact hK2) ?_
  rw[show (decide (p.op=10)||decide (p.op=11))=decide (p.op=10∨p.op=11)by simp only[Bool.decide_or]]
  refine zh (λho=>?_) (λho=>?_)
  ·rw[if_pos ho]at hK18
   refine gp_ ?_
   refine S.lit (e:=1) (cs:=[.func (.func Tryz.xt) #[] #[.pointer (some ⟨b6,0,none⟩),.pointer (some ⟨b8,0,none⟩)]]) (by kernel_rfl) λb15 w12 S=>?_
   refine S.ap (v:=v) (m':=1) (Sl.blk (S.blk b15)) (λv' w13 S=>?_) (by omega)
   have S:=S.drop b15
   rw[show xs.length+1=(xs++[Value.func (.func Tryz.xt) #[] #[.pointer (some ⟨b6,0,none⟩),.pointer (some ⟨b8,0,none⟩)]]).length by simp]at S
   refine hK18 _ _ ⟨v',_,_,rfl,by rw[gla,gls];omega,hx.snoc rfl ?_,S⟩
   refine aiu (cp:=[.int .i64 p.fr.l,.slice x5 p.fr.ps.length y5]) h6.up (λj v hj=>?_) (PlG.up (⟨_,rfl,k5⟩:PlG ρ _ p.fr))
   have hj2:j<2:=by have:=(List.getElem?_eq_some_iff.1 hj).1;exact this
   refine(h8 (13+j) v ?_).up
   rw[← hj]
   rcases(show j=0∨j=1 by omega)with rfl|rfl<;>rfl
  ·rw[if_neg ho,List.append_nil]at hK18
   exact hK18 _ _ ⟨v,σ,xs,rfl,by omega,hx,S⟩
 clear S hx hl0
 generalize A++(if p.op=10∨p.op=11 then [(true,p.fr)]else [])=A2 at *
 rintro _ w13 ⟨v',σ',xs',rfl,hl0,hx,S⟩ d13
 simp only[gdz]
 clear σ v xs
 refine zs (λy w'=>∃v σ xs,y=[v]∧RowOf 1 (StpM (ρ.or σ) (.func fl al cl) (.func fg ag cg)) xs (yZ u g p)∧StX X w0 (ρ.or σ) w' (.row v 1 1 xs.length xs::L)) (λK28 hK28=>?_) ?_
 ·refine gp_ ?_
  refine zt (n:=2) (c:=[.int .i64 p.to.l,.slice x1 p.to.ps.length y1]) rfl (λj v hj=>?_) ?_
  ·have hj2:j<2:=(List.getElem?_eq_some_iff.1 hj).1
   have:=S.at (h8 (1+j) v (by rw[← hj];rcases(show j=0∨j=1 by omega)with rfl|rfl<;>rfl))
   simpa using this
  obtain⟨p0,cap0,hc0,hst0⟩:=hL.ss
  obtain⟨qt,capt,hc7,hty⟩:=hL.tys
  refine vh S.holds (λw' e=>⟨(S.go e).at hc0,(S.go e).at hc7⟩) (RepS.up hst0) (hty.up' inferInstance λ_ _ h=>TyG.up h) F.may.ok F.fine (PlG.up (⟨_,rfl,k1⟩:PlG ρ _ p.to)) hto λv3 s3 w3 e3 n3 h3=>?_
  obtain⟨S,_,_⟩:=S.tell e3 n3
  have S:=S.reGh
  obtain⟨q3,c3,rfl,_,_⟩:=h3.sl.shape
  refine gS_ ?_
  refine S.al λb12 w4 S=>?_
  refine S.stB (b:=b12) λw6 S=>?_
  have S:=S.drop b12
  refine zt (n:=21) (c:=ptL p x1 x2 x3 x4 x5 y1 y2 y3 y4 y5) rfl (λj v hj=>by simpa using S.at (h8 j v hj)) ?_
  refine jY S.holds (PtG.up hp0) λw7 e7=>?_
  have S:=S.go e7
  refine zo (c:=wholeP u g p.to) (λ_ K2 hK2=>hK2) ?_
  have hx:RowOf 1 (StpM (ρ.or (σ'.or s3)) (.func fl al cl) (.func fg ag cg)) xs' A2:=hx.mono λc x hx=>StpM.up (l:=⟨λb o ho=>Or.elim ho .inl λho=>.inr (.inl ho)⟩) hx
  refine c_b (λho=>?_) (λho=>?_)
  ·rw[gba]at ho
   rw[if_pos ho]at hst
   refine gp_ ?_
   refine S.lit (e:=1) (cs:=[.func (.func Tryz.xu) #[] #[.pointer (some ⟨b7,0,none⟩),.pointer (some ⟨b8,0,none⟩)]]) (by kernel_rfl) λb15 w12 S=>?_
   refine S.ap (v:=v') (m':=1) (Sl.blk (S.blk b15)) (λv5 w13 S=>?_) (by omega)
   have S:=S.drop b15
   rw[show xs'.length+1=(xs'++[Value.func (.func Tryz.xu) #[] #[.pointer (some ⟨b7,0,none⟩),.pointer (some ⟨b8,0,none⟩)]]).length by simp]at S
   refine hK28 _ _ ⟨v5,_,_,rfl,?_,S⟩
   rw[hst]
   refine hx.snoc rfl ?_
   refine aiv (cp:=[.int .i64 p.to.l,.slice x1 p.to.ps.length y1]) h7.up (λj v hj=>?_) (PlG.up (⟨_,rfl,k1⟩:PlG ρ _ p.to))
   have hj2:j<2:=(List.getElem?_eq_some_iff.1 hj).1
   refine(h8 (1+j) v ?_).up
   rw[← hj]
   rcases(show j=0∨j=1 by omega)with rfl|rfl<;>rfl
  ·rw[if_neg (by rw[← gba,ho];decide),List.append_nil]at hst
   refine hK28 _ _ ⟨v',_,_,rfl,?_,S⟩
   rw[hst]
   exact hx
 clear S hx hl0
 rintro _ w15 ⟨v,σ,xs,rfl,hx,S⟩ d15
 simp only[gdz]
 have hxl:xs.length=(yZ u g p).length:=by have:=hx.1;omega
 rw[hxl]at S
 obtain⟨s5,T,hrow,_,_⟩:=S.doneRow hx (by decide) rfl
 obtain⟨qr,cr,rfl,_,_⟩:=hrow.shape
 repeat clear S
 have S:=T
 clear T
 have lr2:Le r ((ρ.or σ).or s5):=⟨λb o ho=>.inl (.inl (lr.le b o ho))⟩
 refine gp_ ?_
 refine zj (ι:=Nat) (λi=>[.int .i64 (i:Nat)]) (λi w'=>i≤(yZ u g p).length∧∃L',J i L'∧StX X w0 ((ρ.or σ).or s5) w' L') (λi=>(yZ u g p).length-i) 0 rfl ⟨gzl _,L,h0,S⟩ ?_
 clear S
 rintro i d16 w16 ⟨hi,L',hJ,S⟩ K42 hK42
 rw[gdz]
 refine gp_ ?_
 refine zh (λhlt=>?_) (λhge=>?_)
 ·have hlt:i<(yZ u g p).length:=by omega
  obtain⟨br,or',co,hE,hco,⟨fv,cp,rfl,_,hpl,hcall⟩,hoo⟩:=hrow.get (by decide) hlt
  cases hE
  refine gp_ ?_
  refine zi (v:=fv) (by simpa using S.at (hoo 0 fv rfl)) ?_
  refine hcall (S.holds.le (h:=inferInstance)) ?_
  refine hdo hlt lr2 hJ S (PlG.up hpl) λL2 w17 hJ2 S=>?_
  refine gp_ ?_
  rw[show ((i:Int)+1)=((i+1:Nat):Int)by omega]
  exact hK42 (i+1) _ ⟨hlt,L2,hJ2,S⟩ (by omega)
 ·obtain rfl:i=(yZ u g p).length:=by omega
  exact h L' _ hJ (S.to r (l:=lr2))
end
section
variable {X:Nat→Prop} {w0 w:World} {r:Gh} {L:List Asr} {b n B:Nat} {M:ya} {m:Nat→Bool} {f:Asr→List Asr} {K:Value→World→Prop}
theorem j1(S:StX X w0 r w L)[h0:xo b L (zF M) f](hM:SetF n B M m)(hn:n≤1000000)
  (h:∀v s w',StX X w0 (r.or s) w' (f (.obj b (zF M)))→SlG 1 s kB v (risI n m)→(∀b o,s b o→w0.heap.size≤b∨X b)→K v w'):zb Tryz.prog Tryz.zX #[.map (some b)] w K:=by
 refine aed S hM.nodup (by have:=hM.len;omega) λv w' S=>?_
 rw[hM.list,hM.keys]at S
 obtain⟨s,S,h1,_,h2⟩:=S.doneRow (l:=risI n m) Jn (by decide) rfl
 exact h v s w' S h1 h2
end
abbrev ahS(b2 b4 b5:Nat):Value:=.func (.func Tryz.kN) #[] #[.pointer (some ⟨b2,0,none⟩),.pointer (some ⟨b4,0,none⟩),.pointer (some ⟨b5,0,none⟩)]
abbrev ahT(b2 b4 b5:Nat):Value:=.func (.func Tryz.kO) #[] #[.pointer (some ⟨b2,0,none⟩),.pointer (some ⟨b4,0,none⟩),.pointer (some ⟨b5,0,none⟩)]
abbrev doL(bx b2 b4 b5 bg bh:Nat)(L:List Asr)(G H:ya):List Asr:=.obj bg (zF G)::.obj bh (zF H)::.cell b4 [.map (some bg)] 82::.cell b5 [.map (some bh)] 82::.cell b2 [.pointer (some ⟨bx,0,none⟩)] 78::L
section
variable {u:UnD} {fn q:Int} {g:GrD} {ps:List PlD} {bx b2 b4 b5 bg bh B:Nat} {q0 r:Gh} {x:PlD} {c:List Value} {X:Nat→Prop} {w0 w:World} {L:List Asr} {K:Value→World→Prop} {G H:ya} {a b:Nat→Bool}
theorem ahU(S:StX X w0 r w (doL bx b2 b4 b5 bg bh L G H))(hL:LkM q0 bx u g ps)[Le q0 r](hp:PlG r c x)(hf:ps.length≤1000000)(hG:SetF ps.length B G a)(hH:SetF ps.length B H b)(hB:B≤1000000000000)
  (h:∀G' H' w',SetF ps.length (B+ps.length) G' (yX ps x true a)→SetF ps.length (B+ps.length) H' (yX ps x false b)→StX X w0 r w' (doL bx b2 b4 b5 bg bh L G' H')→K (.tuple #[]) w'):zx Tryz.prog (ahS b2 b4 b5) #[.agg c.toArray] w K:=by
 refine agz (by kernel_rfl) ?_
 refine Tryz.XL ?_
 unfold Tryz.vD
 have hp0:=hp
 obtain⟨vv,rfl,hl⟩:=hp
 obtain⟨qs,caps,rfl,_,_⟩:=hl.sl.shape
 refine S.box λb7 w1 S=>?_
 have S:StX X w0 r w1 (.cell b7 [.int .i64 x.l,.slice qs x.ps.length caps] 59::doL bx b2 b4 b5 bg bh L G H):=S
 refine gg_ ?_
 refine qE (b:=bg) S hL hp0 hf hG hB λG' w2 hG' S=>?_
 refine gg_ ?_
 refine Qv (b:=bh) S hL hp0 hf hH λH' w3 hH' S=>?_
 exact h G' H' _ hG' (hH'.mono (by omega)) S.tl
theorem ahV(S:StX X w0 r w (doL bx b2 b4 b5 bg bh L G H))(hL:LkM q0 bx u g ps)[Le q0 r](hp:PlG r c x)(hf:ps.length≤1000000)(hG:SetF ps.length B G a)(hH:SetF ps.length B H b)(hB:B≤1000000000000)
  (h:∀G' H' w',SetF ps.length (B+ps.length) G' (yX ps x false a)→SetF ps.length (B+ps.length) H' (yX ps x true b)→StX X w0 r w' (doL bx b2 b4 b5 bg bh L G' H')→K (.tuple #[]) w'):zx Tryz.prog (ahT b2 b4 b5) #[.agg c.toArray] w K:=by
 refine agz (by kernel_rfl) ?_
 refine Tryz.XM ?_
 unfold Tryz.vE
 have hp0:=hp
 obtain⟨vv,rfl,hl⟩:=hp
 obtain⟨qs,caps,rfl,_,_⟩:=hl.sl.shape
 refine S.box λb7 w1 S=>?_
 have S:StX X w0 r w1 (.cell b7 [.int .i64 x.l,.slice qs x.ps.length caps] 59::doL bx b2 b4 b5 bg bh L G H):=S
 refine gg_ ?_
 refine Qv (b:=bg) S hL hp0 hf hG λG' w2 hG' S=>?_
 refine gg_ ?_
 refine qE (b:=bh) S hL hp0 hf hH hB λH' w3 hH' S=>?_
 exact h G' H' _ (hG'.mono (by omega)) hH' S.tl
theorem afv{p:PtD}(S:StX X w0 r w L)(hL:LkM q0 bx u g ps)[Le q0 r](F:FnM u fn g)(hq0:0≤q)(hq:q.toNat<g.pts.length)(hpe:g.pts[q.toNat]=p)(hf:ps.length≤256)
  (h:∀G H bg bh w',SetF ps.length 1000000 G (xv u g ps p).1→SetF ps.length 1000000 H (xv u g ps p).2→StX X w0 r w' (.obj bg (zF G)::.obj bh (zF H)::L)→K (.tuple #[.map (some bg),.map (some bh)]) w'):
  zb Tryz.prog Tryz.ka #[.pointer (some ⟨bx,0,none⟩),.int .i64 q] w K:=by
 refine Tryz.Q3 ?_
 unfold Tryz.ZS
 have hargs:=jU F.may (F.pts p (by rw[← hpe];exact gem hq))
 have hslen:=adC (u:=u) (g:=g) hargs
 refine S.box λb2 w1 S=>?_
 have S:StX X w0 r w1 (.cell b2 [.pointer (some ⟨bx,0,none⟩)] 78::L):=S
 refine S.al λb4 w2 S=>?_
 refine S.al λb5 w3 S=>?_
 refine S.mkMapJ λbg w4 S=>?_
 refine S.mkMapJ λbh w5 S=>?_
 refine S.st (b:=b4) (λw6 S=>?_) (by simp)
 refine S.st (b:=b5) (λw7 S=>?_) (by simp)
 have S:StX X w0 r w7 (doL bx b2 b4 b5 bg bh L [] []):=S.permO ((List.Perm.swap _ _ _).trans (.cons _ (.cons _ (.swap _ _ _))))
 refine gg_ ?_
 refine ag4 (fl:=.func Tryz.kN) (fg:=.func Tryz.kO) (J:=λk L'=>∃G H,L'=doL bx b2 b4 b5 bg bh L G H∧SetF ps.length (k*ps.length) G (((yZ u g p).take k).foldl (doF ps) (zB,zB)).1∧SetF ps.length (k*ps.length) H (((yZ u g p).take k).foldl (doF ps) (zB,zB)).2) S hL F hq0 hq hpe ⟨[],[],rfl,by rw[Nat.zero_mul];exact SetF.none,by rw[Nat.zero_mul];exact SetF.none⟩ ?_ ?_
 ·clear S
  rintro k L' r' w' cp K' hk lr ⟨G,H,rfl,hG,hH⟩ S hpl hK
  have hB:k*ps.length≤1000000000000:=Nat.le_trans (Nat.mul_le_mul (show k≤1004 by omega) hf) (by decide)
  haveI:Le q0 r':=⟨λb o ho=>lr.le b o (Le.le (r:=q0) (s:=r) b o ho)⟩
  rw[List.take_succ_eq_append_getElem hk,List.foldl_append,Nat.succ_mul]at hK
  generalize (yZ u g p)[k]=s at *
  generalize ((yZ u g p).take k).foldl (doF ps) (zB,zB)=ab at *
  obtain⟨s1,s2⟩:=s
  cases s1 with
  |true=>exact ahU S hL hpl (by omega) hG hH hB λG' H' w' hG' hH' S=>hK _ _ ⟨G',H',rfl,hG',hH'⟩ S
  |false=>exact ahV S hL hpl (by omega) hG hH hB λG' H' w' hG' hH' S=>hK _ _ ⟨G',H',rfl,hG',hH'⟩ S
 ·clear S
  rintro L' w8 ⟨G,H,rfl,hG,hH⟩ S
  rw[List.take_length]at hG hH
  have hB:(yZ u g p).length*ps.length≤1000000:=Nat.le_trans (Nat.mul_le_mul hslen hf) (by decide)
  have fin:∀w',StX X w0 r w' (doL bx b2 b4 b5 bg bh L G H)→K (.tuple #[.map (some bg),.map (some bh)]) w':=λw' S=>by
   have S:=S.drop b4
   have S:=S.drop b5
   have S:=S.drop b2
   exact h G H bg bh w' (hG.mono hB) (hH.mono hB) S
  have S:=S.go (Ext.drew _)
  refine gg_ ?_
  refine⟨?_,?_⟩
  ·refine Yl (S.ld (b:=b5) ?_)
   refine S.st (b:=b4) (λw9 S=>?_) (by simp)
   refine S.st (b:=b5) (λw10 S=>?_) (by simp)
   have S:StX X w0 r w10 (doL bx b2 b4 b5 bg bh L G H):=S
   refine gg_ ?_
   exact fin _ S
  ·refine S.st (b:=b4) (λw9 S=>?_) (by simp)
   have S:StX X w0 r w9 (doL bx b2 b4 b5 bg bh L G H):=S
   refine Yl (S.ld (b:=b5) ?_)
   refine S.st (b:=b5) (λw10 S=>?_) (by simp)
   have S:StX X w0 r w10 (doL bx b2 b4 b5 bg bh L G H):=S
   refine gg_ ?_
   exact fin _ S
end
def stM(g:GrD)(n:Nat):List Nat:=(List.range n).filter λi:Nat=>decide ((i:Int)=0)||decide (g.pn<(i:Int))
def stF(ps:List PlD)(l:List Nat):Nat→Bool:=l.foldl (λ(f:Nat→Bool) (i:Nat)=>yX ps ⟨(i:Int),[]⟩ true f) zB
section
variable {u:UnD} {fn q:Int} {v:Value} {w:World} {r:Gh} {K:Value→World→Prop}
theorem ac6(hr:Holds r w)(hu:UnG r v u)
  (h0:∀e w',e≠0→mvE u fn q=e→Ext w w'→K (.tuple #[.slice none 0 0,.slice none 0 0,.int .i64 e]) w')
  (h1:∀g v1 v2 s w',mvE u fn q=0→FnM u fn g→0≤q→(hq:q.toNat<g.pts.length)→(zg u g).length≤256→Ext w w'→New w s w'→SlG 1 s kB v1 (risI (zg u g).length (xv u g (zg u g) g.pts[q.toNat]).1)→SlG 1 s kB v2 (risI (zg u g).length (xv u g (zg u g) g.pts[q.toNat]).2)→K (.tuple #[v1,v2,.int .i64 0]) w'):
  zb Tryz.prog Tryz.Yn #[v,.int .i64 fn,.int .i64 q] w K:=by
 refine Tryz.acp ?_
 unfold Tryz.Jq
 have hu0:=hu
 obtain⟨p0,cap0,vf,rfl,_,_,hst,hsl,hfn⟩:=hu
 obtain⟨qf,capf,rfl,_,_⟩:=hfn.sl.shape
 have S:=St.start hr
 refine S.box λb3 w1 S=>?_
 have S:StX noX w r w1 [.cell b3 [.slice p0 u.ss.length cap0,.slice qf u.fs.length capf,.int .i64 u.mn] 25]:=S
 refine S.ldB (b:=b3) ?_ rfl
 refine Yk S.holds hu0 (λe w2 he hof e2=>?_) λg s bx w2 hof hq0 F hq hb e2 n2 hL=>?_
 ·refine gg_ ?_
  refine c_t (by simp[he]) ?_
  exact h0 e w2 he hof (S.go e2).ext
 obtain⟨S,_,a2⟩:=S.tell e2 n2
 refine gg_ ?_
 refine c_f (by decide) ?_
 refine afv S hL F hq0 hq rfl hb λG H bg bh w3 hG hH S=>?_
 refine gg_ ?_
 refine j1 (b:=bg) S hG (by omega) λv1 s1 w4 S h1' a1=>?_
 refine j1 (b:=bh) S hH (by omega) λv2 s2 w5 S h2' a2'=>?_
 have S:=S.reGh.reGh
 refine h1 g v1 v2 _ _ hof F hq0 hq hb S.ext (S.newOf (a2.or' (Above.or' (λb o ho=>(a1 b o ho).resolve_right id) λb o ho=>(a2' b o ho).resolve_right id))) (h1'.up' inferInstance λ_ _ h=>h) (h2'.up' inferInstance λ_ _ h=>h)
theorem Qw{path:Int}(hr:Holds r w)(hu:UnG r v u)
  (h0:∀e w',e≠0→ofE u fn (-1)=e∨(ofE u fn (-1)=0∧∀g,FnM u fn g→(path<0∨(zg u g).length≤path.toNat))→Ext w w'→K (.tuple #[.slice none 0 0,.int .i64 e]) w')
  (h1:∀g v1 s w',ofE u fn (-1)=0→FnM u fn g→0≤path→path.toNat<(zg u g).length→Ext w w'→New w s w'→SlG 1 s kB v1 (risI (zg u g).length (yX (zg u g) (pthAt (zg u g) path.toNat) true zB))→K (.tuple #[v1,.int .i64 0]) w'):
  zb Tryz.prog Tryz.ju #[v,.int .i64 fn,.int .i64 path] w K:=by
 refine Tryz.abv ?_
 unfold Tryz.Qp
 have hu0:=hu
 obtain⟨p0,cap0,vf,rfl,_,_,hst,hsl,hfn⟩:=hu
 obtain⟨qf,capf,rfl,_,_⟩:=hfn.sl.shape
 have S:=St.start hr
 refine S.box λb3 w1 S=>?_
 have S:StX noX w r w1 [.cell b3 [.slice p0 u.ss.length cap0,.slice qf u.fs.length capf,.int .i64 u.mn] 25]:=S
 refine S.ldB (b:=b3) ?_ rfl
 refine vI S.holds hu0 (λe w2 he hof e2=>?_) λg s bx w2 hof F hi hb e2 n2 hL=>?_
 ·refine gg_ ?_
  refine c_t (by simp[he]) ?_
  exact h0 e w2 he (.inl hof) (S.go e2).ext
 obtain⟨S,_,a2⟩:=S.tell e2 n2
 obtain⟨pp,cap,hpc,hps⟩:=hL.pth
 refine gg_ ?_
 refine c_f (by decide) ?_
 refine gp_ ?_
 refine zq (c:=decide (path≥((zg u g).length:Int))) (λ_ K2 hK2=>by
  refine gg_ ?_
  refine zi (S.at hpc) ?_
  refine gg_ ?_
  exact hK2) ?_
 refine c_b (λhbad=>?_) (λhgood=>?_)
 ·refine h0 2 w2 (by decide) (.inr ⟨hof,λg' F'=>?_⟩) S.ext
  have e:g'=g:=by have h1:=F.at';have h2:=F'.at';rw[h1]at h2;exact(Option.some.inj h2).symm
  subst e
  simp only[Bool.or_eq_true,gdt]at hbad
  omega
 simp only[Bool.or_eq_false_iff,decide_eq_false_iff_not]at hgood
 have hlt:path.toNat<(zg u g).length:=by omega
 refine S.mkMapJ λbg w3 S=>?_
 obtain⟨bo,oo,co,hE,hco,hoc,hoo⟩:=hps.get (by decide) hlt
 cases hE
 refine gg_ ?_
 refine zi (S.at hpc) ?_
 refine gp_ ?_
 refine zt (n:=2) hco (λj v hj=>by simpa using S.at (hoo j v hj)) ?_
 refine gp_ ?_
 rw[← qd hlt]at hoc
 refine qE (b:=bg) (M:=[]) S hL hoc (by omega) SetF.none (by omega) λM' w4 hM S=>?_
 refine j1 (b:=bg) S hM (by omega) λv1 s1 w5 S h1' a1=>?_
 have S:=S.reGh
 exact h1 g v1 _ _ hof F (by omega) hlt S.ext (S.newOf (a2.or' λb o ho=>(a1 b o ho).resolve_right id)) (h1'.up' inferInstance λ_ _ h=>h)
theorem acI(hr:Holds r w)(hu:UnG r v u)
  (h0:∀e w',e≠0→ofE u fn (-1)=e→Ext w w'→K (.tuple #[.slice none 0 0,.int .i64 e]) w')
  (h1:∀g v1 s w',ofE u fn (-1)=0→FnM u fn g→Ext w w'→New w s w'→SlG 1 s kB v1 (risI (zg u g).length (stF (zg u g) (stM g g.tys.length)))→K (.tuple #[v1,.int .i64 0]) w'):
  zb Tryz.prog Tryz.Zw #[v,.int .i64 fn] w K:=by
 refine Tryz.abw ?_
 unfold Tryz.Qq
 have hu0:=hu
 obtain⟨p0,cap0,vf,rfl,_,_,hst,hsl,hfn⟩:=hu
 obtain⟨qf,capf,rfl,_,_⟩:=hfn.sl.shape
 have S:=St.start hr
 refine S.box λb3 w1 S=>?_
 have S:StX noX w r w1 [.cell b3 [.slice p0 u.ss.length cap0,.slice qf u.fs.length capf,.int .i64 u.mn] 25]:=S
 refine S.ldB (b:=b3) ?_ rfl
 refine vI S.holds hu0 (λe w2 he hof e2=>?_) λg s bx w2 hof F hi hb e2 n2 hL=>?_
 ·refine gg_ ?_
  refine c_t (by simp[he]) ?_
  exact h0 e w2 he hof (S.go e2).ext
 obtain⟨S,_,a2⟩:=S.tell e2 n2
 refine gg_ ?_
 refine c_f (by decide) ?_
 refine S.mkMapJ λbg w3 S=>?_
 have S:StX noX w (r.or s) w3 [.obj bg (zF []),.cell b3 [.slice p0 u.ss.length cap0,.slice qf u.fs.length capf,.int .i64 u.mn] 25]:=S
 obtain⟨qt,capt,hc7,hty⟩:=hL.tys
 have ht512:=F.head.ty512
 refine gg_ ?_
 refine zi (S.at hc7) ?_
 refine gp_ ?_
 refine zj (ι:=Nat) (λi=>[.int .i64 (i:Nat)]) (λi w'=>i≤g.tys.length∧∃M,SetF (zg u g).length (i*256) M (stF (zg u g) (stM g i))∧StX noX w (r.or s) w' [.obj bg (zF M),.cell b3 [.slice p0 u.ss.length cap0,.slice qf u.fs.length capf,.int .i64 u.mn] 25]) (λi=>g.tys.length-i) 0 rfl ⟨gzl _,[],by rw[Nat.zero_mul];exact SetF.none,S⟩ ?_
 clear S
 rintro i d w5 ⟨hi,M,hM,S⟩ K4 hK4
 rw[gdz]
 refine gp_ ?_
 refine zh (λhlt=>?_) (λhge=>?_)
 ·have hlt:i<g.tys.length:=by omega
  refine zs (λy w'=>y=[]∧∃M,SetF (zg u g).length ((i+1)*256) M (stF (zg u g) (stM g (i+1)))∧StX noX w (r.or s) w' [.obj bg (zF M),.cell b3 [.slice p0 u.ss.length cap0,.slice qf u.fs.length capf,.int .i64 u.mn] 25]) (λK8 hK8=>?_) ?_
  ·rw[stM,List.range_succ,List.filter_append,stF,List.foldl_append]at hK8
   refine gp_ ?_
   refine zq (c:=decide ((i:Int)>g.pn)) (λ_ K2 hK2=>by
    refine gg_ ?_
    refine zi (S.at hL.pn) ?_
    refine gp_ ?_
    exact hK2) ?_
   refine c_b (λhy=>?_) (λhn=>?_)
   ·have e:([i].filter λi:Nat=>decide ((i:Int)=0)||decide (g.pn<(i:Int)))=[i]:=by
     simp only[Bool.or_eq_true,gdt]at hy
     rw[List.filter_cons_of_pos (by simp only[Bool.or_eq_true,gdt];omega),List.filter_nil]
    rw[e]at hK8
    refine zu (cs:=#[.int .i64 (i:Nat),.slice none 0 0]) (by kernel_rfl) ?_
    refine gp_ ?_
    refine qE (b:=bg) (p:=⟨(i:Nat),[]⟩) (c:=[.int .i64 (i:Nat),.slice none 0 0]) S hL ⟨_,rfl,yV⟩ (by omega) hM (by omega) λM' w6 hM' S=>?_
    exact hK8 _ _ ⟨rfl,M',hM'.mono (by omega),S⟩
   ·have e:([i].filter λi:Nat=>decide ((i:Int)=0)||decide (g.pn<(i:Int)))=[]:=by
     simp only[Bool.or_eq_false_iff,decide_eq_false_iff_not]at hn
     rw[List.filter_cons_of_neg (by simp only[Bool.or_eq_true,gdt];omega),List.filter_nil]
    rw[e]at hK8
    exact hK8 _ _ ⟨rfl,M,hM.mono (by omega),S⟩
  ·clear S hM
   rintro _ w7 ⟨rfl,M,hM,S⟩ d7
   refine gp_ ?_
   rw[show ((i:Int)+1)=((i+1:Nat):Int)by omega]
   exact hK4 (i+1) _ ⟨hlt,M,hM,S⟩ (by omega)
 ·obtain rfl:i=g.tys.length:=by omega
  refine j1 (b:=bg) S hM (by omega) λv1 s1 w5 S h1' a1=>?_
  have S:=S.reGh
  exact h1 g v1 _ _ hof F S.ext (S.newOf (a2.or' λb o ho=>(a1 b o ho).resolve_right id)) (h1'.up' inferInstance λ_ _ h=>h)
end
abbrev AgA:=(Nat→Bool)×(Nat→Bool)
def ael(a:AgA)(i:Nat)(b:Bool):AgA:=(xW a.1 i true,xW a.2 i (a.2 i||b))
def usT(us m:Nat→Bool)(i:Nat)(a:AgA):AgA:=(λj=>a.1 j||(decide (j<i)&&us j),λj=>a.2 j||(decide (j<i)&&(us j&&m j)))
theorem ag5{us m:Nat→Bool}{i:Nat}{a:AgA}(h:us i=true)(j:Nat):(ael (usT us m i a) i (m i)).1 j=(usT us m (i+1) a).1 j∧(ael (usT us m i a) i (m i)).2 j=(usT us m (i+1) a).2 j:=by
 show xW _ i true j=_∧xW _ i _ j=_
 unfold xW usT
 by_cases e:j=i
 ·subst e;simp[h]
 ·have :(j<i+1)=(j<i):=by rw[eq_iff_iff];omega
  simp[e,this]
theorem ahW{us m:Nat→Bool}{i:Nat}{a:AgA}(h:us i=false)(j:Nat):(usT us m i a).1 j=(usT us m (i+1) a).1 j∧(usT us m i a).2 j=(usT us m (i+1) a).2 j:=by
 unfold usT
 by_cases e:j=i
 ·subst e;simp[h]
 ·have :(j<i+1)=(j<i):=by rw[eq_iff_iff];omega
  simp[this]
abbrev agE(b3 b5 b7:Nat):Value:=.func (.func Tryz.vw) #[] #[.pointer (some ⟨b3,0,none⟩),.pointer (some ⟨b5,0,none⟩),.pointer (some ⟨b7,0,none⟩)]
section
variable {u:UnD} {fn q:Int} {g:GrD} {ps:List PlD} {bx b3 b5 b7 bm:Nat} {q0 r:Gh} {x:PlD} {c:List Value} {X:Nat→Prop} {w0 w:World} {L:List Asr} {K:Value→World→Prop} {laid:Bool} {tell:Value}
theorem aiw{J:Nat→List Asr→Prop}(S:StX X w0 r w L)(hL:LkM q0 bx u g ps)[Le q0 r](F:FnM u fn g)(hp:PlG r c x)(hok:OkP u g x)(hf:ps.length≤1000000)
  (h3:Ob r λw=>w.cell? ⟨b3,0,none⟩=some (.pointer (some ⟨bx,0,none⟩))) (h5:Ob r λw=>w.cell? ⟨b5,0,none⟩=some tell) (h7:Ob r λw=>w.cell? ⟨b7,0,none⟩=some (.map (some bm))) (h0:J 0 L)
  (hy:∀{i:Nat}{L:List Asr}{r':Gh}{w:World}{K:Value→World→Prop},i<ps.length→useF u g ps x laid i=true→Le r r'→J i L→StX X w0 r' w L→(∀L' w',J (i+1) L'→StX X w0 r' w' L'→K (.tuple #[]) w')→zx Tryz.prog tell #[.int .i64 (i:Nat),.map (some bm)] w K)
  (hn:∀{i:Nat}{L:List Asr},i<ps.length→useF u g ps x laid i=false→J i L→J (i+1) L)
  (h:∀L' w',J ps.length L'→StX X w0 r w' L'→K (.tuple #[]) w'):zx Tryz.prog (agE b3 b5 b7) #[.agg c.toArray,.bool laid] w K:=by
 refine ain (by kernel_rfl) ?_
 refine Tryz.XN ?_
 unfold Tryz.vF
 have hp0:=hp
 obtain⟨vv,rfl,hl⟩:=hp
 obtain⟨qs,caps,rfl,_,_⟩:=hl.sl.shape
 obtain⟨pp,cap,hpc,hps⟩:=hL.pth
 refine S.box λb1 w1 S=>?_
 have S:StX X w0 r w1 (.cell b1 [.int .i64 x.l,.slice qs x.ps.length caps] 59::L):=S
 refine zi (S.at h3) ?_
 refine S.ldB (b:=b1) ?_ rfl
 obtain⟨p0,cap0,hc0,hst0⟩:=hL.ss
 obtain⟨qt,capt,hc7,hty⟩:=hL.tys
 refine vh S.holds (λw' e=>⟨(S.go e).at hc0,(S.go e).at hc7⟩) (RepS.up hst0) (hty.up' inferInstance λ_ _ h=>TyG.up h) F.may.ok F.fine hp0 hok λv3 s3 w3 e3 n3 h3'=>?_
 obtain⟨S,_,_⟩:=S.tell e3 n3
 obtain⟨q3,c3,rfl,_,_⟩:=h3'.sl.shape
 have hhl:=aaD (ss:=u.ss) (tys:=g.tys) (p:=x)
 refine gS_ ?_
 refine S.al λb2 w4 S=>?_
 refine S.stB (b:=b2) λw5 S=>?_
 have S:StX X w0 (r.or s3) w5 (.cell b2 [.int .i64 x.l,.slice q3 (heldW u.ss g.tys x).ps.length c3] 59::.cell b1 [.int .i64 x.l,.slice qs x.ps.length caps] 59::L):=S
 have hph:PlG (r.or s3) [.int .i64 x.l,.slice q3 (heldW u.ss g.tys x).ps.length c3] (heldW u.ss g.tys x):=⟨_,by rw[hhl],h3'⟩
 refine zi (S.at h3) ?_
 refine gg_ ?_
 refine zi (S.at hpc) ?_
 refine gp_ ?_
 have hus:∀i,useF u g ps x laid i=((prefP (pthAt ps i) (heldW u.ss g.tys x) && !(laid&&(wholeP u g x&&eqb (pthAt ps i) x)))||(!laid&&wholeP u g x&&prefP x (pthAt ps i))):=λi=>rfl
 generalize heldW u.ss g.tys x=hd at *
 generalize wholeP u g x=wh at *
 generalize useF u g ps x laid=us at *
 have S:=S.frzAt b2
 have S:=S.frzAt b1
 obtain⟨ρ,lr,l0,hb1,hb2,hph,S⟩:∃ρ,Le r ρ∧Le q0 ρ∧(∀j v,[Value.int .i64 x.l,.slice qs x.ps.length caps][j]? = some v→Ob ρ λw=>w.cell? ⟨b1,0+j,none⟩=some v)∧(∀j v,[Value.int .i64 x.l,.slice q3 hd.ps.length c3][j]? = some v→Ob ρ λw=>w.cell? ⟨b2,0+j,none⟩=some v)∧PlG ρ [.int .i64 x.l,.slice q3 hd.ps.length c3] hd∧StX X w0 ρ w5 L:=
  ⟨_,inferInstance,inferInstance,λj v hj=>by rw[Nat.zero_add];exact yz (b:=b1) (c:=[.int .i64 x.l,.slice qs x.ps.length caps]) (T:=59) hj,λj v hj=>by rw[Nat.zero_add];exact yz (b:=b2) (c:=[.int .i64 x.l,.slice q3 hd.ps.length c3]) (T:=59) hj,PlG.up hph,S⟩
 have hp1:PlG ρ [.int .i64 x.l,.slice qs x.ps.length caps] x:=PlG.up hp0
 refine zj (ι:=Nat) (λi=>[.int .i64 (i:Nat)]) (λi w'=>i≤ps.length∧∃L',J i L'∧StX X w0 ρ w' L') (λi=>ps.length-i) 0 rfl ⟨gzl _,L,h0,S⟩ ?_
 clear S h0
 rintro i d w6 ⟨hi,L6,hJ,S⟩ K2 hK2
 rw[gdz]
 refine gp_ ?_
 refine zh (λhlt=>?_) (λhge=>?_)
 rotate_left
 ·obtain rfl:i=ps.length:=by omega
  exact h L6 _ hJ (S.to r)
 have hlt:i<ps.length:=by omega
 refine zs (λy w'=>y=[]∧∃L',J (i+1) L'∧StX X w0 ρ w' L') (λK9 hK9=>?_) ?_
 rotate_left
 ·clear S
  rintro _ w9 ⟨rfl,L',hJ',S⟩ d9
  refine gp_ ?_
  rw[show ((i:Int)+1)=((i+1:Nat):Int)by omega]
  exact hK2 (i+1) _ ⟨hlt,L',hJ',S⟩ (by omega)
 obtain⟨bo,oo,co,hE,hco,hoc,hoo⟩:=hps.get (by decide) hlt
 cases hE
 refine gp_ ?_
 refine zt (n:=2) hco (λj v hj=>by simpa using S.at (hoo j v hj)) ?_
 rw[← qd hlt]at hoc
 have hoc0:=hoc
 obtain⟨vo,rfl,hol⟩:=hoc
 obtain⟨qo,ko,rfl,_,_⟩:=hol.sl.shape
 have hui:=hus i
 generalize pthAt ps i=y at *
 refine S.al λb4 w7 S=>?_
 refine S.stB (b:=b4) λw8 S=>?_
 have S:StX X w0 ρ w8 (.cell b4 [.int .i64 y.l,.slice qo y.ps.length ko] 59::L6):=S
 have hy1:PlG ρ [.int .i64 y.l,.slice qo y.ps.length ko] y:=PlG.up hoc0
 have fin:∀(bb:Bool) w',bb=us i→StX X w0 ρ w' (.cell b4 [.int .i64 y.l,.slice qo y.ps.length ko] 59::L6)→zc (.bool bb) (Tryz.lo w' 88 (.pointer (some ⟨b5,0,none⟩)) λt56=>Tryz.lo w' 82 (.pointer (some ⟨b7,0,none⟩)) λt58=>Tryz.cv t56 #[.int .i64 (i:Nat),t58] w' λ_ w54=>K9 [] w54) (K9 [] w'):=λbb w' hb S=>by
  refine c_b (λhyes=>?_) (λhno=>?_)
  ·refine zi (S.at h5) ?_
   refine zi (S.at h7) ?_
   refine hy hlt (hb▸hyes) lr hJ S.tl λL' w9 hJ' S=>?_
   exact hK9 _ _ ⟨rfl,L',hJ',S⟩
  ·exact hK9 _ _ ⟨rfl,L6,hn hlt (hb▸hno) hJ,S.tl⟩
 clear hJ hK9 hy hn h hK2
 refine zU (c:=eqb y x) (λ_ K2 hK2=>?_) λw9 e9=>?_
 ·refine S.ldB (b:=b4) ?_ rfl
  refine zt (n:=2) rfl (λj v hj=>S.at (hb1 j v hj)) ?_
  exact Ql S.holds hy1 hp1 λw' e=>hK2 w' e
 have S:=S.go e9
 generalize (wh&&eqb y x)=own at *
 refine S.ldB (b:=b4) ?_ rfl
 refine zt (n:=2) rfl (λj v hj=>S.at (hb2 j v hj)) ?_
 refine k7 S.holds hy1 hph λw10 e10=>?_
 have S:=S.go e10
 generalize prefP y hd=pr at *
 have last:∀K:List Value→World→Prop,(∀w',StX X w0 ρ w' (.cell b4 [.int .i64 y.l,.slice qo y.ps.length ko] 59::L6)→K [.bool (prefP x y)] w')→Tryz.lo w10 59 (.pointer (some ⟨b1,0,none⟩)) λt51=>Tryz.lo w10 59 (.pointer (some ⟨b4,0,none⟩)) λt52=>Tryz.ca Tryz.yT #[t51,t52] w10 λt53 w49=>K [t53] w49:=λK hK=>by
  refine zt (n:=2) rfl (λj v hj=>S.at (hb1 j v hj)) ?_
  refine S.ldB (b:=b4) ?_ rfl
  exact k7 S.holds hp1 hy1 λw' e=>hK w' (S.go e)
 rcases pr with _|_<;>rcases laid with _|_<;>rcases own with _|_<;>rcases wh with _|_<;>repeat' (first
  |rw [Bool.not_false]
  |rw [Bool.not_true]
  |(refine gd_ ?_;exact fin _ _ (by rw[hui];rfl) S)
  |(refine gd_ ?_;intro K9 hK9;refine gd_ ?_;refine hK9 _ _ λ_=>?_;clear hK9 K9)
  |(refine gd_ ?_;intro K9 hK9;refine gd_ ?_;refine last _ λw11 S=>?_;refine hK9 _ _ λ_=>?_;clear hK9 K9 last))
end
section
variable {u:UnD} {fn q:Int} {g:GrD} {ps:List PlD} {bx b3 b5 b7 bm B:Nat} {q0 r:Gh} {x:PlD} {c:List Value} {X:Nat→Prop} {w0 w:World} {L0:List Asr} {K:Value→World→Prop} {laid:Bool} {Mv:ya} {m:Nat→Bool} {t:Nat} {ft:Fn} {at' ct:Array Value}
abbrev aem:=Nat→AgA→List Asr→Prop
structure TelF(R:aem)(n:Nat)(r:Gh)(X:Nat→Prop)(w0:World)(bm:Nat)(tell:Value):Prop where
 alike:∀{t a a' L},R t a L→(∀i,i<n→a.1 i=a'.1 i∧a.2 i=a'.2 i)→R t a' L
 more:∀{t t' a L},R t a L→t≤t'→R t' a L
 tell:∀{i t:Nat}{a:AgA}{L:List Asr}{Mv:ya}{m:Nat→Bool}{B:Nat}{r':Gh}{w:World}{K:Value→World→Prop},i<n→t≤1000000→Le r r'→R t a L→SetF n B Mv m→StX X w0 r' w (.obj bm (zF Mv)::L)→(∀L' w',R (t+1) (ael a i (m i)) L'→StX X w0 r' w' (.obj bm (zF Mv)::L')→K (.tuple #[]) w')→zx Tryz.prog tell #[.int .i64 (i:Nat),.map (some bm)] w K
theorem TelF.up{R:aem}{n:Nat}{r s:Gh}{tell:Value}(h:TelF R n r X w0 bm tell)(l:Le r s):TelF R n s X w0 bm tell:=
 ⟨h.alike,h.more,λhi ht lr hR hM S hK=>h.tell hi ht ⟨λb o ho=>lr.le b o (l.le b o ho)⟩ hR hM S hK⟩
theorem VX{R:aem}{a:AgA}{tell:Value}(S:StX X w0 r w (.obj bm (zF Mv)::L0))(hL:LkM q0 bx u g ps)[Le q0 r](F:FnM u fn g)(hp:PlG r c x)(hok:OkP u g x)(hf:ps.length≤256)(hT:TelF R ps.length r X w0 bm tell)
  (h3:Ob r λw=>w.cell? ⟨b3,0,none⟩=some (.pointer (some ⟨bx,0,none⟩))) (h5:Ob r λw=>w.cell? ⟨b5,0,none⟩=some tell) (h7:Ob r λw=>w.cell? ⟨b7,0,none⟩=some (.map (some bm))) (ht:t≤999000) (hR:R t a L0) (hM:SetF ps.length B Mv m)
  (h:∀L' w',R (t+ps.length) (λi=>a.1 i||useF u g ps x laid i,λi=>a.2 i||(useF u g ps x laid i&&m i)) L'→StX X w0 r w' (.obj bm (zF Mv)::L')→K (.tuple #[]) w'):zx Tryz.prog (agE b3 b5 b7) #[.agg c.toArray,.bool laid] w K:=by
 refine aiw (J:=λi L'=>∃L1,L'=.obj bm (zF Mv)::L1∧R (t+i) (usT (useF u g ps x laid) m i a) L1) S hL F hp hok (by omega) h3 h5 h7 ⟨L0,rfl,hT.alike hR λi _=>by simp[usT]⟩ ?_ ?_ ?_
 ·rintro i L' r' w K hi hu lr ⟨L1,rfl,hR⟩ S hK
  refine hT.tell hi (by omega) lr hR hM S λL2 w' hR S=>?_
  exact hK _ w' ⟨L2,rfl,hT.alike hR λj _=>ag5 hu j⟩ S
 ·rintro i L' hi hu ⟨L1,rfl,hR⟩
  exact⟨L1,rfl,hT.more (hT.alike hR λj _=>ahW hu j) (by omega)⟩
 ·rintro L' w' ⟨L1,rfl,hR⟩ S
  exact h L1 w' (hT.alike hR λi hi=>by simp[usT,hi]) S
theorem afw{R:aem}{p:PtD}(S:StX X w0 r w L0)(hL:LkM q0 bx u g ps)[Le q0 r](F:FnM u fn g)(hq0:0≤q)(hq:q.toNat<g.pts.length)(hpe:g.pts[q.toNat]=p)(hf:ps.length≤256)(hT:∀bm,TelF R ps.length r X w0 bm (.func ft at' ct))(hR:R 0 (zB,zB) L0)
  (h:∀t L' w',R t ((yA u g ps p).all,(yA u g ps p).again) L'→StX X w0 r w' L'→K (.tuple #[]) w'):zb Tryz.prog Tryz.kb #[.pointer (some ⟨bx,0,none⟩),.int .i64 q,.func ft at' ct] w K:=by
 refine Tryz.Q4 ?_
 unfold Tryz.ZT
 have hpm:p∈g.pts:=by rw[← hpe];exact gem hq
 have hargs:=jU F.may (F.pts p hpm)
 have hto:=F.to hpm
 have hpls:=F.pls hpm
 obtain⟨pq,capq,hpts,hpl⟩:=hL.pts
 obtain⟨bq,oq,cq,hqE,hcq,hpc,hpo⟩:=hpl.sl.get (by decide) hq
 cases hqE
 rw[hpe]at hpc
 obtain⟨x1,x2,x3,x4,x5,y1,y2,y3,y4,y5,rfl,hp0⟩:=jd hpc
 refine S.box λb3 w1 S=>?_
 have S:StX X w0 r w1 (.cell b3 [.pointer (some ⟨bx,0,none⟩)] 78::L0):=S
 have S:=S.frzAt b3
 refine S.box λb5 w2 S=>?_
 have S:StX X w0 _ w2 (.cell b5 [.func ft at' ct] 88::L0):=S
 have S:=S.frzAt b5
 refine zi (S.at (q:=r.or (Go.Sh.one b3 [.pointer (some ⟨bx,0,none⟩)] 78)) (yz (b:=b3) (i:=0) (c:=[.pointer (some ⟨bx,0,none⟩)]) (T:=78) rfl)) ?_
 refine gg_ ?_
 refine zi (S.at hpts) ?_
 refine gp_ ?_
 refine zt (n:=21) hcq (λj v hj=>by simpa using S.at (hpo j v hj)) ?_
 refine S.al λb6 w3 S=>?_
 refine S.stB (b:=b6) λw4 S=>?_
 have S:StX X w0 _ w4 (.cell b6 (ptL p x1 x2 x3 x4 x5 y1 y2 y3 y4 y5) 94::L0):=S
 have S:=S.frzAt b6
 refine S.mkMapJ λbm w5 S=>?_
 refine S.al λb7 w6 S=>?_
 refine S.st (b:=b7) (λw7 S=>?_) (by simp)
 have S:StX X w0 _ w7 (.cell b7 [.map (some bm)] 82::.obj bm (zF [])::L0):=S
 have S:=S.frzAt b7
 refine gp_ ?_
 refine zt (n:=21) (c:=ptL p x1 x2 x3 x4 x5 y1 y2 y3 y4 y5) rfl (λj v hj=>by simpa using S.at (yz (q:=Go.Sh.one b6 (ptL p x1 x2 x3 x4 x5 y1 y2 y3 y4 y5) 94) (b:=b6) (T:=94) hj)) ?_
 refine qQ S.holds (PtG.up hp0) hargs λv9 s2 w9 e9 n9 h9=>?_
 obtain⟨S,_,a9⟩:=S.tell e9 n9
 obtain⟨ρ,lr,l0,h3,h5,h6,h7,h9,hp0,S⟩:∃ρ,Le r ρ∧Le q0 ρ∧(Ob ρ λw=>w.cell? ⟨b3,0,none⟩=some (.pointer (some ⟨bx,0,none⟩)))∧(Ob ρ λw=>w.cell? ⟨b5,0,none⟩=some (.func ft at' ct))∧(∀j v,(ptL p x1 x2 x3 x4 x5 y1 y2 y3 y4 y5)[j]? = some v→Ob ρ λw=>w.cell? ⟨b6,j,none⟩=some v)∧(Ob ρ λw=>w.cell? ⟨b7,0,none⟩=some (.map (some bm)))∧
  SlG 4 ρ (OpG ρ) v9 (zk p)∧PtG ρ (ptL p x1 x2 x3 x4 x5 y1 y2 y3 y4 y5) p∧StX X w0 ρ w9 (.obj bm (zF [])::L0):=
  ⟨_,inferInstance,inferInstance,yz (b:=b3) (i:=0) (c:=[.pointer (some ⟨bx,0,none⟩)]) (T:=78) rfl,yz (b:=b5) (i:=0) (c:=[.func ft at' ct]) (T:=88) rfl,λj v hj=>yz (b:=b6) (c:=ptL p x1 x2 x3 x4 x5 y1 y2 y3 y4 y5) (T:=94) hj,yz (b:=b7) (i:=0) (c:=[.map (some bm)]) (T:=82) rfl,h9.up' inferInstance λ_ _ h=>OpG.up h,PtG.up hp0,S⟩
 clear e9 n9 a9 hpo hpc hcq
 have hTb:=(hT bm).up lr
 clear hT
 obtain⟨_,_,_,_,_,hE,k1,k2,k3,k4,k5⟩:=id hp0
 cases hE
 obtain⟨q9,c9,rfl,_,_⟩:=h9.shape
 have hol:(zk p).length≤1002:=by
  have h1:=List.length_filter_le k8 (p.a::p.b::p.args)
  change (zk p).length≤_ at h1
  simp only[List.length_cons]at h1
  omega
 refine gp_ ?_
 refine zj (ι:=Nat) (λj=>[.int .i64 (j:Nat)]) (λj w'=>j≤(zk p).length∧∃a L Mv,a=(((zk p).take j).map λo=>(o.pl,false,decide (o.k=4))).foldl (usF u g ps) ⟨zB,zB,zB⟩∧R (j*256) (a.all,a.again) L∧SetF ps.length (j*256) Mv a.lost∧StX X w0 ρ w' (.obj bm (zF Mv)::L)) (λj=>(zk p).length-j) 0 rfl ⟨gzl _,⟨zB,zB,zB⟩,L0,[],rfl,by rw[Nat.zero_mul];exact hR,by rw[Nat.zero_mul];exact SetF.none,S⟩ ?_
 clear S hR
 rintro j d5 w10 ⟨hj,a,L,Mv,ha,hR,hM,S⟩ K9 hK9
 rw[gdz]
 refine gp_ ?_
 refine zh (λhlt=>?_) (λhge=>?_)
 ·have hlt:j<(zk p).length:=by omega
  refine zs (λy w'=>y=[]∧∃L Mv,R ((j+1)*256) ((usF u g ps a ((zk p)[j].pl,false,decide ((zk p)[j].k=4))).all,(usF u g ps a ((zk p)[j].pl,false,decide ((zk p)[j].k=4))).again) L∧SetF ps.length ((j+1)*256) Mv (usF u g ps a ((zk p)[j].pl,false,decide ((zk p)[j].k=4))).lost∧StX X w0 ρ w' (.obj bm (zF Mv)::L)) (λK13 hK13=>?_) ?_
  ·obtain⟨bo,oo,co,hoE,hco,hoc,hoo⟩:=h9.get (by decide) hlt
   cases hoE
   have hok:=hpls _ (List.mem_append_left _ (List.mem_map_of_mem (gem hlt)))
   clear hK9 ha
   generalize (zk p)[j]=o at *
   refine gp_ ?_
   refine zt (n:=4) hco (λj v hj=>by simpa using S.at (hoo j v hj)) ?_
   obtain⟨qo,ko,rfl⟩:=je hoc
   refine S.al λb14 w11 S=>?_
   refine S.stB (b:=b14) λw12 S=>?_
   have S:StX X w0 ρ w12 (.cell b14 [.int .u8 o.k,.int .i64 o.n,.int .i64 o.pl.l,.slice qo o.pl.ps.length ko] 61::.obj bm (zF Mv)::L):=S
   obtain⟨_,hoE,hopl⟩:=id hoc
   cases hoE
   have S:=S.frzAt b14
   have lo:∀j v,[Value.int .u8 o.k,.int .i64 o.n,.int .i64 o.pl.l,.slice qo o.pl.ps.length ko][j]? = some v→Ob (ρ.or (Go.Sh.one b14 [.int .u8 o.k,.int .i64 o.n,.int .i64 o.pl.l,.slice qo o.pl.ps.length ko] 61)) λw=>w.cell? ⟨b14,j,none⟩=some v:=λj v hj=>yz (b:=b14) (c:=[.int .u8 o.k,.int .i64 o.n,.int .i64 o.pl.l,.slice qo o.pl.ps.length ko]) (T:=61) hj
   have lo2:∀j v,[Value.int .i64 o.pl.l,.slice qo o.pl.ps.length ko][j]? = some v→Ob (ρ.or (Go.Sh.one b14 [.int .u8 o.k,.int .i64 o.n,.int .i64 o.pl.l,.slice qo o.pl.ps.length ko] 61)) λw=>w.cell? ⟨b14,2+j,none⟩=some v:=λj v hj=>lo (2+j) v (by rw[Nat.add_comm,← hj];rfl)
   have hpl:PlG (ρ.or (Go.Sh.one b14 [.int .u8 o.k,.int .i64 o.n,.int .i64 o.pl.l,.slice qo o.pl.ps.length ko] 61)) [.int .i64 o.pl.l,.slice qo o.pl.ps.length ko] o.pl:=PlG.up (⟨_,rfl,hopl⟩:PlG ρ _ o.pl)
   obtain⟨σ,hσ⟩:∃σ,σ=ρ.or (Go.Sh.one b14 [.int .u8 o.k,.int .i64 o.n,.int .i64 o.pl.l,.slice qo o.pl.ps.length ko] 61):=⟨_,rfl⟩
   have lσ:Le ρ σ:=by rw[hσ];exact inferInstance
   rw[← hσ]at S lo lo2 hpl
   haveI:Le q0 σ:=⟨λb o ho=>lσ.le b o (l0.le b o ho)⟩
   refine gp_ ?_
   refine zt (n:=2) rfl (λj v hj=>S.at (lo2 j v hj)) ?_
   refine VX (laid:=false) S hL F hpl hok hf (hTb.up lσ) h3.up h5.up h7.up (by omega) hR hM λL' w13 hR S=>?_
   have hR:R ((j+1)*256) ((usF u g ps a (o.pl,false,decide (o.k=4))).all,(usF u g ps a (o.pl,false,decide (o.k=4))).again) L':=hTb.more hR (by omega)
   refine gp_ ?_
   refine zi (S.at (lo 0 _ rfl)) ?_
   refine gp_ ?_
   refine zh (λhk=>?_) (λhk=>?_)
   ·refine zi (S.at h3) ?_
    refine gp_ ?_
    refine zt (n:=2) rfl (λj v hj=>S.at (lo2 j v hj)) ?_
    refine zi (S.at h7) ?_
    refine gp_ ?_
    refine qE (b:=bm) S hL hpl (by omega) hM (by omega) λM' w14 hM' S=>?_
    refine hK13 _ _ ⟨rfl,L',M',hR,?_,S.to ρ⟩
    have e:(usF u g ps a (o.pl,false,decide (o.k=4))).lost=yX ps o.pl true a.lost:=if_pos (by simpa using hk)
    rw[e]
    exact hM'.mono (by omega)
   ·refine hK13 _ _ ⟨rfl,L',Mv,hR,?_,S.to ρ⟩
    have e:(usF u g ps a (o.pl,false,decide (o.k=4))).lost=a.lost:=if_neg (by simpa using hk)
    rw[e]
    exact hM.mono (by omega)
  ·clear S hR hM
   rintro _ w13 ⟨rfl,L,Mv,hR,hM,S⟩ d13
   refine gp_ ?_
   rw[show ((j:Int)+1)=((j+1:Nat):Int)by omega]
   refine hK9 (j+1) _ ⟨hlt,_,L,Mv,?_,hR,hM,S⟩ (by omega)
   rw[List.take_succ_eq_append_getElem hlt,List.map_append,List.foldl_append,← ha];rfl
 obtain rfl:j=(zk p).length:=by omega
 rw[List.take_length]at ha
 clear hK9 K9 hge hj
 have hfin:yA u g ps p=((if p.op=4 then [(p.fr,false,false)]else if p.op=14 then [(abH,false,false)]else [])++(if(decide (1≤p.op)&&decide (p.op≤8))=true then [(p.to,true,false)]else [])).foldl (usF u g ps) a:=by
  rw[yA,abI,List.foldl_append,ha]
 rw[List.foldl_append]at hfin
 have lp:∀(n:Nat)(c:List Value),c.length=2→(∀j v,c[j]? = some v→(ptL p x1 x2 x3 x4 x5 y1 y2 y3 y4 y5)[n+j]? = some v)→∀j v,c[j]? = some v→Ob ρ λw=>w.cell? ⟨b6,n+j,none⟩=some v:=λn c _ hc j v hj=>h6 _ v (hc j v hj)
 have hfr:=lp 13 [.int .i64 p.fr.l,.slice x5 p.fr.ps.length y5] rfl (λj v hj=>by
  have hj2:j<2:=(List.getElem?_eq_some_iff.1 hj).1
  rw[← hj];rcases(show j=0∨j=1 by omega)with rfl|rfl<;>rfl)
 have hpt:=lp 1 [.int .i64 p.to.l,.slice x1 p.to.ps.length y1] rfl (λj v hj=>by
  have hj2:j<2:=(List.getElem?_eq_some_iff.1 hj).1
  rw[← hj];rcases(show j=0∨j=1 by omega)with rfl|rfl<;>rfl)
 refine zs (λy w'=>y=[]∧∃a2 L,yA u g ps p=(if(decide (1≤p.op)&&decide (p.op≤8))=true then [(p.to,true,false)]else []).foldl (usF u g ps) a2∧R 300000 (a2.all,a2.again) L∧(∃B,SetF ps.length B Mv a2.lost)∧StX X w0 ρ w' (.obj bm (zF Mv)::L)) (λK21 hK21=>?_) ?_
 ·refine gp_ ?_
  refine zi (S.at (h6 0 _ rfl)) ?_
  refine gp_ ?_
  refine zh (λho=>?_) (λho=>?_)
  ·rw[if_pos ho]at hfin
   refine gp_ ?_
   refine zt (n:=2) rfl (λj v hj=>S.at (hfr j v hj)) ?_
   refine VX (laid:=false) S hL F (⟨_,rfl,k5⟩:PlG ρ _ p.fr) (hpls _ (by rw[xq,if_pos (.inl (.inl ho))];simp)) hf hTb h3 h5 h7 (by omega) hR hM λL' w13 hR S=>?_
   exact hK21 _ _ ⟨rfl,_,L',hfin,hTb.more hR (by omega),⟨_,hM⟩,S⟩
  ·rw[if_neg ho]at hfin
   refine gp_ ?_
   refine zi (S.at (h6 0 _ rfl)) ?_
   refine gp_ ?_
   refine zh (λho=>?_) (λho=>?_)
   ·rw[if_pos ho]at hfin
    refine zu (cs:=#[.int .i64 0,.slice none 0 0]) (by kernel_rfl) ?_
    refine VX (laid:=false) S hL F (x:=abH) (c:=[.int .i64 0,.slice none 0 0]) ⟨_,rfl,yV⟩ (.inl rfl) hf hTb h3 h5 h7 (by omega) hR hM λL' w13 hR S=>?_
    exact hK21 _ _ ⟨rfl,_,L',hfin,hTb.more hR (by omega),⟨_,hM⟩,S⟩
   ·rw[if_neg ho]at hfin
    exact hK21 _ _ ⟨rfl,a,L,hfin,hTb.more hR (by omega),⟨_,hM⟩,S⟩
 clear S hR hM hfin ha
 rintro _ w13 ⟨rfl,a2,L,hfin,hR,⟨B,hM⟩,S⟩ d13
 refine zt (n:=21) (c:=ptL p x1 x2 x3 x4 x5 y1 y2 y3 y4 y5) rfl (λj v hj=>by simpa using S.at (h6 j v hj)) ?_
 refine jY S.holds hp0 λw14 e14=>?_
 have S:=S.go e14
 refine c_b (λho=>?_) (λho=>?_)
 ·rw[if_pos ho]at hfin
  refine gp_ ?_
  refine zt (n:=2) rfl (λj v hj=>S.at (hpt j v hj)) ?_
  refine VX (laid:=true) S hL F (⟨_,rfl,k1⟩:PlG ρ _ p.to) hto hf hTb h3 h5 h7 (by omega) hR hM λL' w15 hR S=>?_
  rw[hfin]at h
  exact h _ L' _ hR (S.tl.to r)
 ·rw[if_neg (by rw[ho];decide)]at hfin
  rw[hfin]at h
  exact h _ L _ hR (S.tl.to r)
end
section
variable {n bs b10:Nat} {r:Gh} {X:Nat→Prop} {w0:World} {L:List Asr}
theorem agp{bm:Nat}(h10:Ob r λw=>w.cell? ⟨b10,0,none⟩=some (.map (some bs))):TelF (λt a L'=>∃M,L'=.obj bs (zF M)::L∧SetF n t M a.1) n r X w0 bm (.func (.func Tryz.vN) #[] #[.pointer (some ⟨b10,0,none⟩)]) where
 alike:=λ⟨M,e,h⟩ ha=>⟨M,e,h.congr λi hi=>(ha i hi).1⟩
 more:=λ⟨M,e,h⟩ ht=>⟨M,e,h.mono ht⟩
 tell:=by
  rintro i t a L' Mv m B r' w K hi ht lr ⟨M,rfl,hM⟩ hMv S hK
  refine adX (by kernel_rfl) ?_
  refine Tryz.aaA ?_
  unfold Tryz.XA
  refine zi (S.at (h10.up (l:=lr))) ?_
  have hc:=hM.cnt i
  refine vG (b:=bs) S (by omega) λw' S=>?_
  exact hK _ w' ⟨_,rfl,hM.put hi⟩ S
theorem afx{bm:Nat}(h10:Ob r λw=>w.cell? ⟨b10,0,none⟩=some (.map (some bs))):TelF (λt a L'=>∃M,L'=.obj bs (zF M)::L∧SetF n t M a.2) n r X w0 bm (.func (.func Tryz.jN) #[] #[.pointer (some ⟨b10,0,none⟩)]) where
 alike:=λ⟨M,e,h⟩ ha=>⟨M,e,h.congr λi hi=>(ha i hi).2⟩
 more:=λ⟨M,e,h⟩ ht=>⟨M,e,h.mono ht⟩
 tell:=by
  rintro i t a L' Mv m B r' w K hi ht lr ⟨M,rfl,hM⟩ hMv S hK
  refine adX (by kernel_rfl) ?_
  refine Tryz.VO ?_
  unfold Tryz.YW
  refine S.mapGetJ (b:=bm) mpS ahK ?_
  rw[aaC]
  refine gp_ ?_
  rw[hMv.has hi]
  refine c_b (λhm=>?_) (λhm=>?_)
  ·refine zi (S.at (h10.up (l:=lr))) ?_
   have hc:=hM.cnt i
   refine vG (b:=bs) S (by omega) λw' S=>?_
   refine hK _ w' ⟨_,rfl,?_⟩ S
   have e:(ael a i (m i)).2=xW a.2 i true:=by show xW a.2 i (a.2 i||m i)=_;rw[hm,Bool.or_true]
   rw[e]
   exact hM.put hi
  ·refine hK _ w ⟨M,rfl,(hM.mono (Nat.le_succ t)).congr λj _=>?_⟩ S
   show a.2 j=xW a.2 i (a.2 i||m i) j
   rw[hm,Bool.or_false,xW]
   split
   ·rename_i e;rw[e]
   ·rfl
end
section
variable {u:UnD} {fn q:Int} {v:Value} {w:World} {r:Gh} {K:Value→World→Prop}
theorem Jt(hr:Holds r w)(hu:UnG r v u)
  (h0:∀e w',e≠0→mvE u fn q=e→Ext w w'→K (.tuple #[.slice none 0 0,.int .i64 e]) w')
  (h1:∀g v1 s w',mvE u fn q=0→FnM u fn g→0≤q→(hq:q.toNat<g.pts.length)→(zg u g).length≤256→Ext w w'→New w s w'→SlG 1 s kB v1 (risI (zg u g).length (yA u g (zg u g) g.pts[q.toNat]).all)→K (.tuple #[v1,.int .i64 0]) w'):
  zb Tryz.prog Tryz.j6 #[v,.int .i64 fn,.int .i64 q] w K:=by
 refine Tryz.acq ?_
 unfold Tryz.Jr
 have hu0:=hu
 obtain⟨p0,cap0,vf,rfl,_,_,hst,hsl,hfn⟩:=hu
 obtain⟨qf,capf,rfl,_,_⟩:=hfn.sl.shape
 have S:=St.start hr
 refine S.box λb3 w1 S=>?_
 have S:StX noX w r w1 [.cell b3 [.slice p0 u.ss.length cap0,.slice qf u.fs.length capf,.int .i64 u.mn] 25]:=S
 refine S.ldB (b:=b3) ?_ rfl
 refine Yk S.holds hu0 (λe w2 he hof e2=>?_) λg s bx w2 hof hq0 F hq hb e2 n2 hL=>?_
 ·refine gg_ ?_
  refine c_t (by simp[he]) ?_
  exact h0 e w2 he hof (S.go e2).ext
 obtain⟨S,_,a2⟩:=S.tell e2 n2
 refine gg_ ?_
 refine c_f (by decide) ?_
 refine S.mkMapJ λbs w3 S=>?_
 refine S.al λb10 w4 S=>?_
 refine S.st (b:=b10) (λw5 S=>?_) (by simp)
 have S:StX noX w (r.or s) w5 (.cell b10 [.map (some bs)] 82::.obj bs (zF [])::[.cell b3 [.slice p0 u.ss.length cap0,.slice qf u.fs.length capf,.int .i64 u.mn] 25]):=S
 obtain⟨S,a10⟩:=StX.frzNew S b10
 have h10:Ob ((r.or s).or (Go.Sh.one b10 [.map (some bs)] 82)) λw=>w.cell? ⟨b10,0,none⟩=some (.map (some bs)):=yz (b:=b10) (i:=0) (c:=[.map (some bs)]) (T:=82) rfl
 refine gp_ ?_
 refine afw (ft:=.func Tryz.vN) S hL F hq0 hq rfl hb (λbm=>agp h10) ⟨[],rfl,SetF.none⟩ λt L' w6 hR S=>?_
 obtain⟨M,rfl,hM⟩:=hR
 refine zi (S.at h10) ?_
 refine j1 (b:=bs) S hM (by omega) λv1 s1 w7 S h1' a1=>?_
 have S:=S.reGh.reGh
 exact h1 g v1 _ _ hof F hq0 hq hb S.ext (S.newOf (a2.or' (Above.or' a10 λb o ho=>(a1 b o ho).resolve_right id))) (h1'.up' inferInstance λ_ _ h=>h)
theorem acJ(hr:Holds r w)(hu:UnG r v u)
  (h0:∀e w',e≠0→mvE u fn q=e→Ext w w'→K (.tuple #[.int .i64 0,.bool false,.int .i64 e]) w')
  (h1:∀g w',mvE u fn q=0→FnM u fn g→0≤q→(hq:q.toNat<g.pts.length)→(zg u g).length≤256→Ext w w'→K (.tuple #[.int .i64 ((VV (zg u g).length (yA u g (zg u g) g.pts[q.toNat]).again).getD 0),.bool (VV (zg u g).length (yA u g (zg u g) g.pts[q.toNat]).again).isSome,.int .i64 0]) w'):
  zb Tryz.prog Tryz.Zx #[v,.int .i64 fn,.int .i64 q] w K:=by
 refine Tryz.abx ?_
 unfold Tryz.Qs
 have hu0:=hu
 obtain⟨p0,cap0,vf,rfl,_,_,hst,hsl,hfn⟩:=hu
 obtain⟨qf,capf,rfl,_,_⟩:=hfn.sl.shape
 have S:=St.start hr
 refine S.box λb3 w1 S=>?_
 have S:StX noX w r w1 [.cell b3 [.slice p0 u.ss.length cap0,.slice qf u.fs.length capf,.int .i64 u.mn] 25]:=S
 refine S.ldB (b:=b3) ?_ rfl
 refine Yk S.holds hu0 (λe w2 he hof e2=>?_) λg s bx w2 hof hq0 F hq hb e2 n2 hL=>?_
 ·refine gg_ ?_
  refine c_t (by simp[he]) ?_
  exact h0 e w2 he hof (S.go e2).ext
 obtain⟨S,_,a2⟩:=S.tell e2 n2
 refine gg_ ?_
 refine c_f (by decide) ?_
 refine S.mkMapJ λbs w3 S=>?_
 refine S.al λb10 w4 S=>?_
 refine S.st (b:=b10) (λw5 S=>?_) (by simp)
 have S:StX noX w (r.or s) w5 (.cell b10 [.map (some bs)] 82::.obj bs (zF [])::[.cell b3 [.slice p0 u.ss.length cap0,.slice qf u.fs.length capf,.int .i64 u.mn] 25]):=S
 obtain⟨S,a10⟩:=StX.frzNew S b10
 have h10:Ob ((r.or s).or (Go.Sh.one b10 [.map (some bs)] 82)) λw=>w.cell? ⟨b10,0,none⟩=some (.map (some bs)):=yz (b:=b10) (i:=0) (c:=[.map (some bs)]) (T:=82) rfl
 refine gp_ ?_
 refine afw (ft:=.func Tryz.jN) S hL F hq0 hq rfl hb (λbm=>afx h10) ⟨[],rfl,SetF.none⟩ λt L' w6 hR S=>?_
 obtain⟨M,rfl,hM⟩:=hR
 refine zi (S.at h10) ?_
 have h1:=λw'=>h1 g w' hof F hq0 hq hb
 rw[VV]at h1
 refine j1 (b:=bs) S hM (by omega) λv1 s1 w7 S h1' a1=>?_
 generalize risI (zg u g).length (yA u g (zg u g) g.pts[q.toNat]).again=l at *
 obtain⟨ql,cl,rfl,_,_⟩:=h1'.shape
 refine gp_ ?_
 refine gp_ ?_
 refine zh (λhp=>?_) (λhp=>?_)
 ·obtain⟨bo,oo,rfl,_,hc⟩:=kx h1' (show 0<l.length by omega)
  refine gp_ ?_
  refine zi (S.at hc) ?_
  cases l with
  |nil=>simp at hp
  |cons x l=>exact h1 _ S.ext
 ·cases l with
  |nil=>exact h1 _ S.ext
  |cons x l=>simp at hp
end
theorem Y0{p q:PlD}{c d:List Value}{w:World}{r:Gh}{K:Value→World→Prop}(hr:Holds r w)(hp:PlG r c p)(hq:PlG r d q)
  (h:∀w',Ext w w'→K (.int .i64 (yd p q)) w'):zb Tryz.prog Tryz.yp #[.agg c.toArray,.agg d.toArray] w K:=
 YZ hr hp hq λos=>h _ ⟨rfl,rfl,rfl,by simp[Sort.grow],λk hk=>by
  show(w.heap++os)[k]? = w.heap[k]?
  exact Array.getElem?_append_left hk⟩
noncomputable def qF(ps:List PlD)(p:PlD):Option Nat:=(List.range ps.length).find? λi=>eqb (pthAt ps i) p
theorem Xo{ps:List PlD}{p:PlD}{i:Nat}(h:qF ps p=some i):∃hi:i<ps.length,ps[i]=p:=by
 have h1:=List.mem_of_find?_eq_some h
 have h2:=List.find?_some h
 have hi:=List.mem_range.1 h1
 refine⟨hi,?_⟩
 rw[← qd hi];exact jV.1 h2
theorem Qx{ps:List PlD}{p:PlD}{i:Nat}(ha:j0 ps)(hi:i<ps.length)(he:ps[i]=p):qF ps p=some i:=by
 cases h:qF ps p with
 |none=>
  have:=List.find?_eq_none.1 h i (List.mem_range.2 hi)
  rw[qd hi,he,jV.2 rfl]at this
  exact absurd rfl this
 |some j=>
  obtain⟨hj,hje⟩:=Xo h
  have hp:=List.pairwise_iff_getElem.1 ha
  rcases Nat.lt_trichotomy i j with hl|rfl|hl
  ·have:=hp i j hi hj hl
   rw[he,hje,vH]at this;omega
  ·rfl
  ·have:=hp j i hj hi hl
   rw[he,hje,vH]at this;omega
theorem aen{ps:List PlD}{p:PlD}(h:∀i (hi:i<ps.length),ps[i]≠p):qF ps p=none:=by
 cases h':qF ps p with
 |none=>rfl
 |some j=>obtain ⟨hj,hje⟩:=Xo h';exact absurd hje (h j hj)
section
variable {ps:List PlD} {p:PlD} {c:List Value} {v:Value} {w:World} {r:Gh} {K:Value→World→Prop}
theorem agq(hr:Holds r w)(hps:SlG 2 r (PlG r) v ps)(ha:j0 ps)(hf:ps.length≤1000000)(hp:PlG r c p)
  (h:∀w' x,Ext w w'→(∀i,qF ps p=some i→x=i)→K (.tuple #[.int .i64 x,.bool (qF ps p).isSome]) w'):zb Tryz.prog Tryz.zE #[v,.agg c.toArray,.func (.func Tryz.yp) #[] #[]] w K:=by
 refine Tryz.yW ?_
 unfold Tryz.zY
 have hp0:=hp
 obtain⟨vv,rfl,hl⟩:=hp
 obtain⟨qs,caps,rfl,_,_⟩:=hl.sl.shape
 obtain⟨qp,capp,rfl,_,_⟩:=hps.shape
 have S:=St.start hr
 refine S.box λb1 w1 S=>?_
 have S:StX noX w r w1 [.cell b1 [.int .i64 p.l,.slice qs p.ps.length caps] 59]:=S
 refine gp_ ?_
 have hpw:=List.pairwise_iff_getElem.1 ha
 refine zj (ι:=Nat×Nat) (λi=>[.int .i64 (i.1:Nat),.int .i64 (i.2:Nat)]) (λi w'=>i.1≤i.2∧i.2≤ps.length∧(∀k (hk:k<ps.length),k<i.1→yd ps[k] p<0)∧(∀k (hk:k<ps.length),i.2≤k→¬yd ps[k] p<0)∧StX noX w r w' [.cell b1 [.int .i64 p.l,.slice qs p.ps.length caps] 59]) (λi=>i.2-i.1) (0,ps.length) rfl ⟨gzl _,Nat.le_refl _,λk _ h=>by omega,λk h1 h2=>by omega,S⟩ ?_
 clear S
 rintro⟨i,j⟩ d w5 ⟨hij,hj,hlo,hhi,S⟩ K2 hK2
 simp only at hij hj hlo hhi S⊢
 simp only[gdz,gds]
 refine gp_ ?_
 have S:=S.go (Ext.drew _)
 refine zh (λhlt=>?_) (λhge=>?_)
 ·have hlt:i<j:=by omega
  obtain⟨m,hm⟩:∃m:Nat,m=(i+j)/2:=⟨_,rfl⟩
  have hmj:m<ps.length:=by omega
  refine adN (by omega) ?_
  refine agx (k1:=.i64) (k2:=.u64) (by kernel_rfl) (by kernel_rfl) ?_
  rw[IntKind.wrap_u64,Int.emod_eq_of_lt (by omega) (by omega)]
  refine ahr 1 rfl (by decide) ?_
  refine agI (k1:=.u64) (by kernel_rfl) (by kernel_rfl) (by omega) ?_
  rw[show ((i:Int)+(j:Int))/2 ^ 1=((m:Nat):Int)by omega]
  obtain⟨bo,oo,co,hE,hco,hoc,hoo⟩:=hps.get (by decide) hmj
  cases hE
  refine gp_ ?_
  refine zt (n:=2) hco (λj v hj=>by simpa using S.at (hoo j v hj)) ?_
  refine S.ldB (b:=b1) ?_ rfl
  refine abF (by kernel_rfl) ?_
  refine Y0 S.holds hoc hp0 λw6 e6=>?_
  have S:=S.go e6
  refine gp_ ?_
  refine zh (λhneg=>?_) (λhpos=>?_)
  ·refine gp_ ?_
   rw[show ((m:Int)+1)=((m+1:Nat):Int)by omega]
   refine hK2 (m+1,j) _ ⟨by show m+1≤j;omega,hj,λk hk hkm=>?_,hhi,S⟩ (by show j-(m+1)<j-i;omega)
   rcases Nat.lt_or_ge k m with hl|hg
   ·exact qc (hpw k m hk hmj hl) hneg
   ·obtain rfl:k=m:=by change k<m+1 at hkm;omega
    exact hneg
  ·refine hK2 (i,m) _ ⟨by show i≤m;omega,by show m≤ps.length;omega,hlo,λk hk hkm=>?_,S⟩ (by show m-i<j-i;omega)
   rcases Nat.lt_or_ge m k with hl|hg
   ·intro hn
    exact hpos (qc (hpw m k hmj hk hl) hn)
   ·obtain rfl:k=m:=by change m≤k at hkm;omega
    exact hpos
 ·obtain rfl:i=j:=by omega
  refine gp_ ?_
  have fin:∀w' (b:Bool),Ext w w'→(b=true↔∃hi:i<ps.length,ps[i]=p)→K (.tuple #[.int .i64 (i:Nat),.bool b]) w':=λw' b e hb=>by
   have hk:∀k (hk:k<ps.length),ps[k]=p→k=i:=λk hk hke=>by
    rcases Nat.lt_trichotomy k i with hl|rfl|hl
    ·have:=hlo k hk hl;rw[hke,vH]at this;omega
    ·rfl
    ·have h2:=hhi i (by omega) (Nat.le_refl _)
     have h3:=hpw i k (by omega) hk hl
     rw[hke]at h3
     exact absurd h3 h2
   have hw:b=(qF ps p).isSome:=by
    cases b with
    |true=>obtain ⟨hi,he⟩:=hb.1 rfl;rw[Qx ha hi he];rfl
    |false=>
     rw[aen λk hk' he=>?_];rfl
     obtain rfl:=hk k hk' he
     have:=hb.2 ⟨hk',he⟩
     cases this
   rw[hw]
   refine h w' _ e λk hk'=>?_
   obtain⟨h1,h2⟩:=Xo hk'
   rw[hk k h1 h2]
  by_cases hi:i<ps.length
  ·rw[gde (show((i:Nat):Int)<((ps.length:Nat):Int)by omega)]
   intro K9 hK9
   refine gd_ ?_
   obtain⟨bo,oo,co,hE,hco,hoc,hoo⟩:=hps.get (by decide) hi
   cases hE
   refine gp_ ?_
   refine zt (n:=2) hco (λj v hj=>by simpa using S.at (hoo j v hj)) ?_
   refine S.ldB (b:=b1) ?_ rfl
   refine abF (by kernel_rfl) ?_
   refine Y0 S.holds hoc hp0 λw6 e6=>?_
   have S:=S.go e6
   refine gp_ ?_
   refine hK9 _ _ λ_=>?_
   refine gd_ ?_
   exact fin _ _ S.ext (by rw[gdt,x8];exact⟨λh=>⟨hi,h⟩,λh=>h.2⟩)
  ·rw[decide_eq_false (show¬((i:Nat):Int)<((ps.length:Nat):Int)by omega)]
   (intro K9 hK9;refine gd_ ?_;refine hK9 _ _ λ_=>?_;clear hK9 K9)
   refine gd_ ?_
   exact fin _ _ S.ext ⟨λh=>(by cases h),λ⟨h,_⟩=>absurd h hi⟩
end
noncomputable def Xp(u:UnD)(g:GrD)(p:PlD):Option Nat:=if (zO u.ss g.tys p).isSome=true then qF (zg u g) (heldW u.ss g.tys p)else none
theorem aaJ{u:UnD}{g:GrD}:j0 (zg u g):=ads
section
variable {u:UnD} {fn q:Int} {v:Value} {w:World} {r:Gh} {K:Value→World→Prop}
theorem Qy(hr:Holds r w)(hu:UnG r v u)
  (h0:∀e w',e≠0→ofE u fn (-1)=e→Ext w w'→K (.tuple #[.slice none 0 0,.int .i64 e]) w')
  (h1:∀g v1 s w',ofE u fn (-1)=0→FnM u fn g→(zg u g).length≤256→Ext w w'→New w s w'→SlG 2 (r.or s) (PlG (r.or s)) v1 (zg u g)→K (.tuple #[v1,.int .i64 0]) w'):
  zb Tryz.prog Tryz.jt #[v,.int .i64 fn] w K:=by
 refine Tryz.abu ?_
 unfold Tryz.Qo
 have hu0:=hu
 obtain⟨p0,cap0,vf,rfl,_,_,hst,hsl,hfn⟩:=hu
 obtain⟨qf,capf,rfl,_,_⟩:=hfn.sl.shape
 have S:=St.start hr
 refine S.box λb3 w1 S=>?_
 have S:StX noX w r w1 [.cell b3 [.slice p0 u.ss.length cap0,.slice qf u.fs.length capf,.int .i64 u.mn] 25]:=S
 refine S.ldB (b:=b3) ?_ rfl
 refine vI S.holds hu0 (λe w2 he hof e2=>?_) λg s bx w2 hof F hi hb e2 n2 hL=>?_
 ·refine gg_ ?_
  refine c_t (by simp[he]) ?_
  exact h0 e w2 he hof (S.go e2).ext
 obtain⟨S,_,a2⟩:=S.tell e2 n2
 obtain⟨pp,cap,hpc,hps⟩:=hL.pth
 refine gg_ ?_
 refine c_f (by decide) ?_
 refine gg_ ?_
 refine zi (S.at hpc) ?_
 exact h1 g _ s w2 hof F hb S.ext (S.newOf a2) hps
theorem Ju{p:PlD}{c:List Value}(hr:Holds r w)(hu:UnG r v u)(hp:PlG r c p)(hpf:p.ps.length≤1000000)
  (h0:∀e w',e≠0→ofE u fn (-1)=e→Ext w w'→K (.tuple #[.int .i64 0,.int .i64 e]) w')
  (h1:∀g w',ofE u fn (-1)=0→FnM u fn g→(zg u g).length≤256→Ext w w'→K (.tuple #[.int .i64 (((Xp u g p).getD 0:Nat):Int),.int .i64 (if(Xp u g p).isSome=true then 0 else 2)]) w'):
  zb Tryz.prog Tryz.j5 #[v,.int .i64 fn,.agg c.toArray] w K:=by
 refine Tryz.aco ?_
 unfold Tryz.Jp
 have hu0:=hu
 obtain⟨p0,cap0,vf,rfl,_,_,hst,hsl,hfn⟩:=hu
 obtain⟨qf,capf,rfl,_,_⟩:=hfn.sl.shape
 have hp0:=hp
 obtain⟨vv,rfl,hl⟩:=hp
 obtain⟨qs,caps,rfl,_,_⟩:=hl.sl.shape
 have S:=St.start hr
 refine S.box λb3 w1 S=>?_
 refine S.box λb4 w2 S=>?_
 have S:StX noX w r w2 [.cell b4 [.int .i64 p.l,.slice qs p.ps.length caps] 59,.cell b3 [.slice p0 u.ss.length cap0,.slice qf u.fs.length capf,.int .i64 u.mn] 25]:=S
 refine S.ldB (b:=b3) ?_ rfl
 refine vI S.holds hu0 (λe w3 he hof e2=>?_) λg s bx w3 hof F hi hb e2 n2 hL=>?_
 ·refine gg_ ?_
  refine c_t (by simp[he]) ?_
  exact h0 e w3 he hof (S.go e2).ext
 obtain⟨S,_,a2⟩:=S.tell e2 n2
 have h1:=λw'=>h1 g w' hof F hb
 rw[Xp]at h1
 have htl:g.tys.length≤maxLen:=by have:=F.head.ty512;simp only[maxLen];omega
 obtain⟨pp,cap,hpc,hps⟩:=hL.pth
 obtain⟨qt,capt,hc7,hty⟩:=hL.tys
 obtain⟨pa,capa,hc0,hst0⟩:=hL.ss
 refine gg_ ?_
 refine c_f (by decide) ?_
 have S:=S.go (Ext.drew _)
 refine gg_ ?_
 refine zi (S.at hc7) ?_
 refine gg_ ?_
 refine ac1 S.holds (RepS.up hst) (QL hty.sl) htl (PlG.up hp0) λw4 e4=>?_
 have S:=S.go e4
 refine gp_ ?_
 refine c_b (λhno=>?_) (λhyes=>?_)
 ·have :¬(zO u.ss g.tys p).isSome=true:=by simpa using hno
  rw[if_neg this]at h1
  exact h1 _ S.ext
 have hsome:(zO u.ss g.tys p).isSome=true:=by simpa using hyes
 rw[if_pos hsome]at h1
 refine S.ldB (b:=b4) ?_ rfl
 refine vh S.holds (λw' e=>⟨(S.go e).at hc0,(S.go e).at hc7⟩) (RepS.up hst0) (hty.up' inferInstance λ_ _ h=>TyG.up h) F.may.ok F.fine (PlG.up hp0) (.inr hsome) λv3 s3 w5 e3 n3 h3=>?_
 obtain⟨S,_,_⟩:=S.tell e3 n3
 have hhl:=aaD (ss:=u.ss) (tys:=g.tys) (p:=p)
 obtain⟨q3,c3,rfl,_,_⟩:=h3.sl.shape
 refine gS_ ?_
 refine S.al λb5 w6 S=>?_
 refine S.stB (b:=b5) λw7 S=>?_
 have S:StX noX w ((r.or s).or s3) w7 [.cell b5 [.int .i64 p.l,.slice q3 (heldW u.ss g.tys p).ps.length c3] 59,.cell b4 [.int .i64 p.l,.slice qs p.ps.length caps] 59,.cell b3 [.slice p0 u.ss.length cap0,.slice qf u.fs.length capf,.int .i64 u.mn] 25]:=S
 have S:=S.go (Ext.drew _)
 have hph:PlG ((r.or s).or s3) [.int .i64 p.l,.slice q3 (heldW u.ss g.tys p).ps.length c3] (heldW u.ss g.tys p):=⟨_,by rw[hhl],h3⟩
 refine gg_ ?_
 refine zi (S.at hpc) ?_
 refine S.ldB (b:=b5) ?_ rfl
 refine agq S.holds (hps.up' inferInstance λ_ _ h=>PlG.up h) aaJ (by omega) hph λw8 x e8 hx=>?_
 have S:=S.go e8
 refine gg_ ?_
 cases hw:qF (zg u g) (heldW u.ss g.tys p)with
 |none=>
  rw[hw]at h1
  refine c_t rfl ?_
  exact h1 _ S.ext
 |some i=>
  rw[hw]at h1 hx
  refine c_f rfl ?_
  obtain rfl:=hx i rfl
  exact h1 _ S.ext
end
section
variable {X:Nat→Prop} {w0 w:World} {r:Gh} {L:List Asr} {n Ba B bi bs b c:Nat} {G Ms:ya} {a f:Nat→Bool} {bv:Bool} {es:Array MapEntry} {fid:FuncId} {ty:TypeId} {Z:World→Prop}
theorem acK(S:StX X w0 r w (.obj bi (· = .mapIter (some b) c #[] c)::.obj bs (zF Ms)::.obj b (· = .map es c)::L))(hE:EntsI es.toList (cnV G))(hB:Born es.toList c)(hG:SetF n Ba G a)(hM:SetF n B Ms f)(hn:n≤256)(hBB:B≤1000000000)
  (hcall:∀{f:Nat→Bool}{B i:Nat}{Ms:ya}{x:Asr}{w:World}{K:Value→World→Prop},i<n→SetF n B Ms f→B≤1000001000→StX X w0 r w (x::.obj bs (zF Ms)::.obj b (· = .map es c)::L)→(∀Ms' w',SetF n (B+1) Ms' (xW f i bv)→StX X w0 r w' (x::.obj bs (zF Ms')::.obj b (· = .map es c)::L)→K (.tuple #[]) w')→zb Tryz.prog fid #[.map (some bs),.int .i64 (i:Nat)] w K)
  (h:∀Ms' w',SetF n (B+n) Ms' (λi=>if a i=true then bv else f i)→StX X w0 r w' (.obj bs (zF Ms')::.obj b (· = .map es c)::L)→Z w'):
  zw [] w λ_ _ w30 K27=>Tryz.pw w30 (Instr.next (.pointer (some ⟨bi,0,none⟩)) false ty) λt73 w31=>Tryz.pe t73 0 λt74=>zc t74 (Tryz.pw w31 (Instr.entry (.pointer (some ⟨bi,0,none⟩))) λt75 w32=>Tryz.pe t75 0 λt76=>Tryz.ca fid #[.map (some bs),t76] w32 λ_ w33=>K27 [] w33) (Z w31):=by
 obtain⟨hk1,hk2⟩:=acv hE
 have hlen:es.toList.length=G.length:=by
  have:=congrArg List.length hk1
  simpa using this
 have hGl:G.length≤n:=hG.len
 refine zj (ι:=List MapEntry×Array Nat×Nat×ya) (λi=>[]) (λi w'=>(∀m∈i.1,m∈es.toList)∧(i.1.map yF).Nodup∧c≤i.2.2.1∧(∀n,i.2.1.contains n=true↔n∈i.1.map (·.born))∧SetF n (B+i.1.length) i.2.2.2 (λj=>if (j:Int)∈i.1.map yF then bv else f j)∧StX X w0 r w' (.obj bi (· = .mapIter (some b) c i.2.1 i.2.2.1)::.obj bs (zF i.2.2.2)::.obj b (· = .map es c)::L)) (λi=>G.length-i.1.length) ([],#[],c,Ms) rfl ⟨λm hm=>(by cases hm),List.nodup_nil,Nat.le_refl _,λn=>(by simp),hM.congr λj _=>by simp,S⟩ ?_
 clear S hM
 rintro⟨H,seen,c0,M⟩ d w5 ⟨hm,hnd,hc,hs,hM,S⟩ K2 hK2
 simp only at hm hnd hc hs hM S⊢
 have hmk:∀x∈H.map yF,x∈G.map (·.1):=λx hx=>by
  obtain⟨m,hmH,rfl⟩:=List.mem_map.1 hx
  rw[← hk1];exact List.mem_map_of_mem (hm m hmH)
 have hHl:H.length≤G.length:=by
  have:=Qu hnd hmk
  simpa using this
 refine S.nextJ (b:=b) hB hc (λhall=>?_) λm hme hns w6 S=>?_
 ·refine Y2 (v:=.bool false) rfl ?_
  refine c_f rfl ?_
  refine h M _ ((hM.mono (by omega)).congr λj hj=>?_) S.tl
  have hiff:(j:Int)∈H.map yF↔(j:Int)∈G.map (·.1):=⟨hmk _,λhx=>by
   rw[← hk1]at hx
   obtain⟨m,hme,he0⟩:=List.mem_map.1 hx
   have hb:=(hs m.born).1 (hall m hme)
   obtain⟨m',hm',he⟩:=List.mem_map.1 hb
   have hinj:(es.toList.map (·.born)).Nodup:=List.pairwise_map.2 (hB.1.imp λh=>Nat.ne_of_lt h)
   have:=YY hinj (hm m' hm') hme he
   rw[← he0,← this];exact List.mem_map_of_mem hm'⟩
  have h2:(j:Int)∈G.map (·.1)↔a j=true:=by
   rw[hG.mem]
   exact⟨λ⟨i,e,_,h⟩=>by obtain rfl:j=i:=by omega
                        exact h,λh=>⟨j,rfl,hj,h⟩⟩
  by_cases ha:a j=true
  ·rw[if_pos ha,if_pos (hiff.2 (h2.2 ha))]
  ·rw[if_neg ha,if_neg λh=>ha (h2.1 (hiff.1 h))]
 ·refine gp_ ?_
  refine c_t rfl ?_
  refine S.entryJ (b:=b) hB hme ?_
  rw[hk2 m hme]
  refine gp_ ?_
  have hkm:yF m∈G.map (·.1):=by rw[← hk1];exact List.mem_map_of_mem hme
  obtain⟨i,hi,hin,hai⟩:=(hG.mem _).1 hkm
  have hkn:yF m∉H.map yF:=λhx=>by
   obtain⟨m',hm',he⟩:=List.mem_map.1 hx
   have hj:(es.toList.map yF).Nodup:=by rw[hk1];exact hG.nodup
   have:=YY hj (hm m' hm') hme he
   subst this
   have:=(hs m'.born).2 (List.mem_map_of_mem hm')
   rw[hns]at this;cases this
  have hnd2:((H++[m]).map yF).Nodup:=by
   rw[List.map_append,List.nodup_append]
   exact⟨hnd,by simp,λa ha b hb=>by rw[List.map_singleton,List.mem_singleton]at hb;rintro rfl;exact hkn (hb▸ha)⟩
  have hmem2:∀z∈H++[m],z∈es.toList:=λz hz=>by
   rcases List.mem_append.1 hz with hz|hz
   ·exact hm z hz
   ·rw[List.mem_singleton]at hz;rw[hz];exact hme
  have hl2:(H++[m]).length≤G.length:=by
   have:=Qu hnd2 (b:=G.map (·.1)) λx hx=>by
    obtain⟨z,hz,rfl⟩:=List.mem_map.1 hx
    rw[← hk1];exact List.mem_map_of_mem (hmem2 z hz)
   simpa using this
  rw[gla,gls]at hl2
  rw[hi]
  refine hcall hin hM (by omega) S λM' w7 hM' S=>?_
  refine hK2 (H++[m],seen.push m.born,c,M') _ ⟨hmem2,hnd2,Nat.le_refl _,λn=>?_,?_,S⟩ (by show G.length-(H++[m]).length<G.length-H.length;rw[gla,gls];omega)
  ·show(seen.push m.born).contains n=true↔n∈(H++[m]).map (·.born)
   rw[List.map_append,List.mem_append,← hs n]
   simp only[Array.contains_push,Bool.or_eq_true,beq_iff_eq,List.map_singleton,List.mem_singleton]
  ·show SetF n (B+(H++[m]).length) M' _
   rw[gla,gls]
   refine hM'.congr λj hj=>?_
   have hq:(j:Int)∈(H++[m]).map yF↔j=i∨(j:Int)∈H.map yF:=by
    rw[List.map_append,List.mem_append,List.map_singleton,List.mem_singleton,hi]
    exact⟨λh=>h.elim .inr λh=>.inl (by omega),λh=>h.elim (λh=>.inr (by rw[h])) .inl⟩
   show(if j=i then bv else if(j:Int)∈H.map yF then bv else f j)=if (j:Int)∈(H++[m]).map yF then bv else f j
   by_cases e:j=i
   ·rw[if_pos e,if_pos (hq.2 (.inl e))]
   ·rw[if_neg e]
    by_cases e2:(j:Int)∈H.map yF
    ·rw[if_pos e2,if_pos (hq.2 (.inr e2))]
    ·rw[if_neg e2,if_neg λhh=>(hq.1 hh).elim e e2]
end
structure OkBh(n:Nat)(l:List Int):Prop where
 low:∀k∈l,0≤k∧k<n
 asc:l.Pairwise (· < ·)
theorem OkBh.snoc{n i:Nat}{l:List Int}(h:OkBh n (l.take i))(hi:i<l.length)(hl:0≤l[i]∧l[i]<n)(ha:∀h0:0<i,l[i-1]<l[i]):OkBh n (l.take (i+1)):=by
 rw[List.take_succ_eq_append_getElem hi]
 refine⟨λk hk=>?_,List.pairwise_append.2 ⟨h.asc,List.pairwise_singleton _ _,λx hx y hy=>?_⟩⟩
 ·rcases List.mem_append.1 hk with hk|hk
  ·exact h.low k hk
  ·rw[List.mem_singleton.1 hk];exact hl
 ·rw[List.mem_singleton.1 hy]
  obtain⟨j,hj,rfl⟩:=List.mem_take_iff_getElem.1 hx
  have hji:j<i:=by omega
  have h0:=ha (by omega)
  rcases Nat.lt_or_ge j (i-1)with hl|hl
  ·have:=List.pairwise_iff_getElem.1 h.asc j (i-1) (by rw[List.length_take];omega) (by rw[List.length_take];omega) hl
   rw[List.getElem_take,List.getElem_take]at this
   omega
  ·have e:j=i-1:=by omega
   subst e;exact h0
theorem OkBh.last{n i:Nat}{l:List Int}(h:OkBh n l)(hi:i<l.length):(0≤l[i]∧l[i]<n)∧∀h0:0<i,l[i-1]<l[i]:=
 ⟨h.low _ (gem hi),λh0=>List.pairwise_iff_getElem.1 h.asc (i-1) i (by omega) hi (by omega)⟩
section
variable {u:UnD} {fn q:Int} {v vl:Value} {l:List Int} {w:World} {r:Gh} {K:Value→World→Prop}
theorem aby(hr:Holds r w)(hu:UnG r v u)(hl:SlG 1 r kB vl l)(hlf:l.length≤1000000)
  (h0:∀e w',e≠0→mvE u fn q=e→Ext w w'→K (.tuple #[.slice none 0 0,.int .i64 e]) w')
  (h2:∀g w',mvE u fn q=0→FnM u fn g→¬OkBh (zg u g).length l→Ext w w'→K (.tuple #[.slice none 0 0,.int .i64 2]) w')
  (h1:∀g v1 s w',mvE u fn q=0→FnM u fn g→0≤q→(hq:q.toNat<g.pts.length)→(zg u g).length≤256→OkBh (zg u g).length l→Ext w w'→New w s w'→SlG 1 s kB v1 (risI (zg u g).length (aei u g (zg u g) g.pts[q.toNat] (YA l)))→K (.tuple #[v1,.int .i64 0]) w'):
  zb Tryz.prog Tryz.vO #[v,.int .i64 fn,.int .i64 q,vl] w K:=by
 refine Tryz.aaB ?_
 unfold Tryz.XB
 have hu0:=hu
 obtain⟨p0,cap0,vf,rfl,_,_,hst,hsl,hfn⟩:=hu
 obtain⟨qf,capf,rfl,_,_⟩:=hfn.sl.shape
 obtain⟨ql,cl,rfl,_,_⟩:=hl.shape
 have S:=St.start hr
 refine S.box λb3 w1 S=>?_
 have S:StX noX w r w1 [.cell b3 [.slice p0 u.ss.length cap0,.slice qf u.fs.length capf,.int .i64 u.mn] 25]:=S
 refine S.ldB (b:=b3) ?_ rfl
 refine Yk S.holds hu0 (λe w2 he hof e2=>?_) λg s bx w2 hof hq0 F hq hb e2 n2 hL=>?_
 ·refine gg_ ?_
  refine c_t (by simp[he]) ?_
  exact h0 e w2 he hof (S.go e2).ext
 obtain⟨S,_,a2⟩:=S.tell e2 n2
 obtain⟨pp,cap,hpc,hps⟩:=hL.pth
 refine gg_ ?_
 refine c_f (by decide) ?_
 refine S.mkMapJ λbs w3 S=>?_
 have S:StX noX w (r.or s) w3 [.obj bs (zF []),.cell b3 [.slice p0 u.ss.length cap0,.slice qf u.fs.length capf,.int .i64 u.mn] 25]:=S
 refine gp_ ?_
 generalize hps':zg u g=ps at *
 refine zj (ι:=Nat) (λi=>[.int .i64 (i:Nat)]) (λi w'=>i≤l.length∧OkBh ps.length (l.take i)∧∃M,SetF ps.length i M (YA (l.take i))∧StX noX w (r.or s) w' [.obj bs (zF M),.cell b3 [.slice p0 u.ss.length cap0,.slice qf u.fs.length capf,.int .i64 u.mn] 25]) (λi=>l.length-i) 0 rfl ⟨gzl _,⟨λk hk=>(by simp at hk),by simp⟩,[],SetF.none.congr λi _=>by simp[YA,zB],S⟩ ?_
 clear S
 rintro i d w5 ⟨hi,hok,M,hM,S⟩ K4 hK4
 rw[gdz]
 refine gp_ ?_
 refine zh (λhlt=>?_) (λhge=>?_)
 ·have hlt:i<l.length:=by omega
  obtain⟨bo,oo,rfl,_,hc⟩:=kx hl hlt
  refine gp_ ?_
  refine zi (v:=.int .i64 l[i]) (S.at hc) ?_
  refine gp_ ?_
  refine zq (c:=decide (l[i]≥(ps.length:Int))) (λ_ K2 hK2=>by
   refine gg_ ?_
   refine zi (S.at hpc) ?_
   refine gg_ ?_
   exact hK2) ?_
  have bad:∀w',StX noX w (r.or s) w' [.obj bs (zF M),.cell b3 [.slice p0 u.ss.length cap0,.slice qf u.fs.length capf,.int .i64 u.mn] 25]→¬((0≤l[i]∧l[i]<ps.length)∧∀h0:0<i,l[i-1]<l[i])→K (.tuple #[.slice none 0 0,.int .i64 2]) w':=λw' S hn=>h2 g w' hof F (λhh=>hn (by rw[hps']at hh;exact hh.last hlt)) S.ext
  have good:∀w',StX noX w (r.or s) w' [.obj bs (zF M),.cell b3 [.slice p0 u.ss.length cap0,.slice qf u.fs.length capf,.int .i64 u.mn] 25]→(0≤l[i]∧l[i]<ps.length)→(∀h0:0<i,l[i-1]<l[i])→Tryz.ca Tryz.yx #[.map (some bs),.int .i64 l[i]] w' λ_ w24=>Tryz.bt .add 3 (.int .i64 (i:Nat)) (Tryz.i6 1) λt64=>K4 [t64] w24:=λw' S hr hasc=>by
   have hc:=hM.cnt l[i]
   refine vG (b:=bs) S (by omega) λw6 S=>?_
   refine gp_ ?_
   rw[show ((i:Int)+1)=((i+1:Nat):Int)by omega]
   refine hK4 (i+1) _ ⟨hlt,hok.snoc hlt hr hasc,_,?_,S⟩ (by omega)
   obtain⟨k,hk⟩:∃k:Nat,l[i]=(k:Int):=⟨l[i].toNat,by omega⟩
   rw[hk]at S hr⊢
   refine(hM.put (i:=k) (by omega)).congr λj hj=>?_
   rw[xW,YA,YA,List.take_succ_eq_append_getElem hlt,hk]
   by_cases e:j=k
   ·rw[if_pos e,e];simp
   ·have e2:¬(j:Int)=(k:Int):=by omega
    rw[if_neg e];simp[e2]
  clear hK4 h2 h1 h0
  have S:=S
  cases hbd:(decide (l[i]<0)||decide (l[i]≥(ps.length:Int)))with
  |true=>
   (intro K9 hK9;refine gd_ ?_;refine hK9 _ _ λ_=>?_;clear hK9 K9)
   refine gd_ ?_
   (intro K9 hK9;refine gd_ ?_;refine hK9 _ _ λ_=>?_;clear hK9 K9)
   refine gd_ ?_
   (intro K9 hK9;refine gd_ ?_;refine hK9 _ _ λ_=>?_;clear hK9 K9)
   refine gd_ ?_
   refine c_t rfl ?_
   refine bad _ S λhh=>?_
   simp only[Bool.or_eq_true,gdt]at hbd
   omega
  |false=>
   simp only[Bool.or_eq_false_iff,decide_eq_false_iff_not]at hbd
   by_cases hi0:0<i
   ·obtain⟨bo',oo',hE,_,hc'⟩:=kx hl (show i-1<l.length by omega)
    cases hE
    intro K9 hK9
    refine gd_ ?_
    rw[gde (show(0:Int)<((i:Nat):Int)by omega)]
    refine hK9 _ _ λ_=>?_
    clear hK9 K9
    intro K9 hK9
    refine gd_ ?_
    refine zi (v:=.int .i64 l[i-1]) (by rw[show (((i:Nat):Int)-1).toNat=i-1 by omega];exact S.at hc') ?_
    refine gp_ ?_
    refine hK9 _ _ λ_=>?_
    clear hK9 K9
    (intro K9 hK9;refine gd_ ?_;refine hK9 _ _ λ_=>?_;clear hK9 K9)
    refine gd_ ?_
    refine zh (λhh=>?_) (λhh=>?_)
    ·exact bad _ S λh3=>by have:=h3.2 hi0;omega
    ·exact good _ S ⟨by omega,by omega⟩ λ_=>by omega
   ·intro K9 hK9
    refine gd_ ?_
    rw[decide_eq_false (show¬(0:Int)<((i:Nat):Int)by omega)]
    refine hK9 _ _ λ_=>?_
    clear hK9 K9
    (intro K9 hK9;refine gd_ ?_;refine hK9 _ _ λ_=>?_;clear hK9 K9)
    refine gd_ ?_
    (intro K9 hK9;refine gd_ ?_;refine hK9 _ _ λ_=>?_;clear hK9 K9)
    refine gd_ ?_
    refine c_f rfl ?_
    exact good _ S ⟨by omega,by omega⟩ λh=>absurd h hi0
 ·obtain rfl:i=l.length:=by omega
  rw[List.take_length]at hok hM
  clear hK4 K4
  refine afv S hL F hq0 hq rfl (by omega) λG H bg bh w6 hG hH S=>?_
  refine gp_ ?_
  refine gp_ ?_
  obtain⟨o,hQ,S⟩:=S.objK bg
  obtain⟨es,c,rfl,hE,hB⟩:=hQ
  have S:StX noX w (r.or s) w6 [.obj bg (· = .map es c),.obj bh (zF H),.obj bs (zF M),.cell b3 [.slice p0 u.ss.length cap0,.slice qf u.fs.length capf,.int .i64 u.mn] 25]:=S
  refine S.rangeJ (b:=bg) mpS λbi w7 S=>?_
  have S:StX noX w (r.or s) w7 [.obj bi (· = .mapIter (some bg) c #[] c),.obj bs (zF M),.obj bg (· = .map es c),.obj bh (zF H),.cell b3 [.slice p0 u.ss.length cap0,.slice qf u.fs.length capf,.int .i64 u.mn] 25]:=S.permO (.cons _ (List.perm_middle (a:=Asr.obj bs (zF M)) (l₁:=[.obj bg (· = .map es c),.obj bh (zF H)])).symm)
  refine acK (bv:=true) (n:=ps.length) S hE hB hG hM (by omega) (by omega) ?_ λM2 w8 hM2 S=>?_
  ·intro f B i Ms x w' K' hi hMs hB' S hK
   have hc:=hMs.cnt i
   exact vG (b:=bs) S (by omega) λw'' S=>hK _ _ (hMs.put hi) S
  obtain⟨o2,hQ2,S⟩:=S.objK bh
  obtain⟨es2,c2,rfl,hE2,hB2⟩:=hQ2
  have S:StX noX w (r.or s) w8 [.obj bs (zF M2),.obj bg (· = .map es c),.obj bh (· = .map es2 c2),.cell b3 [.slice p0 u.ss.length cap0,.slice qf u.fs.length capf,.int .i64 u.mn] 25]:=S
  refine S.rangeJ (b:=bh) mpS λbi2 w9 S=>?_
  have S:=S.permO (.cons _ (.cons _ (.swap (Asr.obj bg (· = .map es c)) (.obj bh (· = .map es2 c2)) _)))
  refine acK (bv:=false) (n:=ps.length) S hE2 hB2 hH hM2 (by omega) (by omega) ?_ λM3 w10 hM3 S=>?_
  ·intro f B i Ms x w' K' hi hMs hB' S hK
   exact VS (b:=bs) S λw'' S=>hK _ _ (hMs.take.mono (Nat.le_succ _)) S
  refine j1 (b:=bs) S hM3 (by omega) λv1 s1 w11 S h1' a1=>?_
  have S:=S.reGh
  subst hps'
  refine h1 g v1 _ _ hof F hq0 hq hb hok S.ext (S.newOf (a2.or' λb o ho=>(a1 b o ho).resolve_right id)) ?_
  rw[show risI (zg u g).length (aei u g (zg u g) g.pts[q.toNat] (YA l))=_ from jh λi hi=>?_]
  ·exact h1'.up' inferInstance λ_ _ h=>h
  ·show((YA l i||(xv u g (zg u g) g.pts[q.toNat]).1 i) && !(xv u g (zg u g) g.pts[q.toNat]).2 i)=if (xv u g (zg u g) g.pts[q.toNat]).2 i=true then false else if(xv u g (zg u g) g.pts[q.toNat]).1 i=true then true else YA l i
   cases(xv u g (zg u g) g.pts[q.toNat]).2 i<;>cases (xv u g (zg u g) g.pts[q.toNat]).1 i<;>simp
end
end
end Go.Proofs
namespace Go.Proofs.Tryz
open Go.Sh
section
variable {w:World} {K:VW} {t0:Value}
def ZV(t0 t1 t2:Value)(w:World)(K:VW):Prop:=
 pw w (Instr.box 25 t0) λt3 w1=>
 lo w1 25 t3 λt19=>ca Zz #[t19] w1 λt20 w2=>
 pp (Op.unary .not t20) λt21=>zc t21 (ca xy #[] w2 λt22 w3=>
 K t22 w3) (lo w2 25 t3 λt24=>ca j6 #[t24,t1,t2] w2 λt27 w4=>
 pe t27 0 λt28=>pe t27 1 λt29=>bt .neq 29 t29 (i6 0) λt31=>zc t31 (pp (Builtin.len_ #[26] 3 #[t28]) λt33=>bt .eql 3 t33 (i6 0) λt34=>za (λK5=>gIf t34 true (ca xy #[] w4 λt36 w9=>
 K5 [t36] w9) (K5 [u_] w4)) (λs6 _d7 w8=>
 zd t34 (s6.getD 0 u_) fa_ λt37=>K t37 w8)) (lo w4 25 t3 λt39=>ca jt #[t39,t1] w4 λt41 w10=>
 pe t41 0 λt42=>pe t41 1 λt43=>lo w10 25 t3 λt45=>ca qL #[t45,t1,t2] w10 λt48 w11=>
 pe t48 0 λt49=>pe t48 1 λt50=>bt .neq 29 t43 (i6 0) λt52=>za (λK12=>gIf t52 false (bt .neq 29 t50 (i6 0) λt55=>K12 [t55] w11) (K12 [u_] w11)) (λs13 _d14 w15=>
 zd t52 tr_ (s13.getD 0 u_) λt56=>zc t56 (K fa_ w15) (zw [(i6 0)] w15 (λs17 _d18 w19 K16=>
 pp (Builtin.len_ #[53] 3 #[t49]) λt59=>bf .lss 3 (s17.getD 0 u_) t59 λt60=>zc t60 (za (λK20=>
 px 53 t49 (s17.getD 0 u_) λt65=>fl w19 t65 61 0 56 λt67=>bt .neq 56 t67 (Value.int .u8 4) λt68=>zc t68 (K20 [] w19) (lo w19.drew 25 t3 λt70=>px 53 t49 (s17.getD 0 u_) λt74=>fl w19.drew t74 61 2 59 λt76=>ca j5 #[t70,t1,t76] w19.drew λt77 w24=>
 pe t77 0 λt78=>pe t77 1 λt79=>bt .neq 29 t79 (i6 0) λt81=>zc t81 (K fa_ w24) (lo w24 25 t3 λt83=>ca ju #[t83,t1,t78] w24 λt86 w25=>
 pe t86 0 λt87=>pe t86 1 λt88=>bt .neq 29 t88 (i6 0) λt90=>zc t90 (K fa_ w25) (zw [(i6 0)] w25 (λs27 _d28 w29 K26=>
 pp (Builtin.len_ #[26] 3 #[t87]) λt93=>bf .lss 3 (s27.getD 0 u_) t93 λt94=>zc t94 (xl w29 26 t87 (s27.getD 0 u_) 3 λt101=>ca Zh #[t28,t101] w29 λt102 w30=>
 pp (Op.unary .not t102) λt103=>zc t103 (K fa_ w30) (bt .add 3 (s27.getD 0 u_) (i6 1) λt96=>K26 [t96] w30)) (K20 [] w29)))))) (λ_s21 _d22 w23=>
 bt .add 3 (s17.getD 0 u_) (i6 1) λt62=>K16 [t62] w23)) (zw [(i6 0)] w19 (λs32 _d33 w34 K31=>
 pp (Builtin.len_ #[26] 3 #[t28]) λt106=>bf .lss 3 (s32.getD 0 u_) t106 λt107=>zc t107 (zw [(i6 0)] w34 (λs36 _d37 w38 K35=>
 pp (Builtin.len_ #[37] 3 #[t42]) λt112=>bf .lss 3 (s36.getD 0 u_) t112 λt113=>zc t113 (xl w38.drew 37 t42 (s36.getD 0 u_) 59 λt119=>xl w38.drew 26 t28 (s32.getD 0 u_) 3 λt124=>xl w38.drew 37 t42 t124 59 λt126=>ca yT #[t119,t126] w38.drew λt127 w39=>
 za (λK40=>gIf t127 true (ca Zh #[t28,(s36.getD 0 u_)] w39 λt131 w44=>
 pp (Op.unary .not t131) λt132=>K40 [t132] w44) (K40 [u_] w39)) (λs41 _d42 w43=>
 zd t127 (s41.getD 0 u_) fa_ λt133=>zc t133 (K fa_ w43) (bt .add 3 (s36.getD 0 u_) (i6 1) λt115=>K35 [t115] w43))) (bt .add 3 (s32.getD 0 u_) (i6 1) λt109=>K31 [t109] w38))) (ca xy #[] w34 λt134 w45=>
 K t134 w45))))))))
theorem Q6{t1 t2:Value}(h:ZV t0 t1 t2 w K):zb prog Zy #[t0,t1,t2] w K:=
 okC false (.s (.r (rz 2 0 2)) (.s (.s (.r (rz 3 0 9)) (.c (.s (.r (rz 2 0 2)) (.n)) (.n))) (.s (.r (rz 9 0 129)) (.s (.s (.r (rz 2 0 0)) (.c (.s (.r (ra 4 0 0 (.grp 35 true (ri 1 4 2) [36] (rz 2 5 0)))) (.n)) (.n))) (.s (.r (rz 8 0 33)) (.s (.r (rz 9 0 129)) (.s (.s (.r (ra 3 0 0 (.grp 53 false (ri 2 3 0) [55] (rz 1 5 0)))) (.c (.s (.r (rz 1 0 0)) (.n)) (.n))) (.s (.s (.r (rz 1 0 0)) (.b (.lp [12] (.s (.s (.r (rz 4 0 0)) (.c (.n) (.n))) (.j [] (.b (.s (.s (.r (rz 6 0 256)) (.c (.n) (.n))) (.s (.r (rz 13 0 36865)) (.s (.s (.r (rz 2 0 0)) (.c (.s (.r (rz 1 0 0)) (.n)) (.n))) (.s (.r (rz 9 0 129)) (.s (.s (.r (rz 2 0 0)) (.c (.s (.r (rz 1 0 0)) (.n)) (.n))) (.s (.r (rz 1 0 0)) (.b (.lp [16] (.s (.s (.r (rz 4 0 0)) (.c (.n) (.n))) (.s (.b (.s (.r (rz 7 0 2304)) (.c (.s (.r (rz 1 0 0)) (.n)) (.n)))) (.r (rz 3 0 0))))))))))))) (.r (rz 3 0 0))))))) (.s (.s (.r (rz 1 0 0)) (.b (.lp [17] (.s (.s (.r (rz 4 0 0)) (.c (.n) (.n))) (.s (.b (.s (.r (rz 1 0 0)) (.b (.lp [18] (.s (.s (.r (rz 4 0 0)) (.c (.n) (.n))) (.s (.b (.s (.r (ra 13 0 9502784 (.grp 128 true (ri 4 13 32) [132] (rz 1 17 0)))) (.c (.s (.r (rz 1 0 0)) (.n)) (.n)))) (.r (rz 3 0 0)))))))) (.r (rz 3 0 0))))))) (.s (.r (rz 2 0 2)) (.n))))))))))) func5 rfl (by kernel_rfl) (by kernel_rfl) h
def Qz(t0:Value)(w:World)(K:VW):Prop:=
 pw w (Instr.box 25 t0) λt1 w1=>
 fl w1 t1 25 0 22 λt7=>pp (Builtin.len_ #[22] 3 #[t7]) λt8=>bt .gtr 3 t8 (i6 40) λt9=>za (λK2=>gIf t9 false (fl w1 t1 25 1 23 λt12=>pp (Builtin.len_ #[23] 3 #[t12]) λt13=>bt .gtr 3 t13 (i6 40) λt14=>K2 [t14] w1) (K2 [u_] w1)) (λs3 _d4 w5=>
 zd t9 tr_ (s3.getD 0 u_) λt15=>zc t15 (K fa_ w5) (zw [(i6 0)] w5 (λs7 _d8 w9 K6=>
 fl w9 t1 25 0 22 λt18=>pp (Builtin.len_ #[22] 3 #[t18]) λt19=>bf .lss 3 (s7.getD 0 u_) t19 λt20=>zc t20 (fl w9 t1 25 0 22 λt24=>px 22 t24 (s7.getD 0 u_) λt26=>fl w9 t26 68 1 66 λt28=>pp (Builtin.len_ #[66] 3 #[t28]) λt29=>bt .gtr 3 t29 (i6 20) λt30=>zc t30 (K fa_ w9) (bt .add 3 (s7.getD 0 u_) (i6 1) λt22=>K6 [t22] w9)) (zw [(i6 0),(i6 0)] w9 (λs11 _d12 w13 K10=>
 fl w13 t1 25 1 23 λt33=>pp (Builtin.len_ #[23] 3 #[t33]) λt34=>bf .lss 3 (s11.getD 1 u_) t34 λt35=>zc t35 (fl w13.drew t1 25 1 23 λt40=>px 23 t40 (s11.getD 1 u_) λt42=>fl w13.drew t42 74 6 72 λt44=>pp (Builtin.len_ #[72] 3 #[t44]) λt45=>fl w13.drew t1 25 1 23 λt47=>px 23 t47 (s11.getD 1 u_) λt49=>fl w13.drew t49 74 4 70 λt51=>pp (Builtin.len_ #[70] 3 #[t51]) λt52=>bf .add 3 t45 t52 λt53=>bf .add 3 (s11.getD 0 u_) t53 λt54=>fl w13.drew t1 25 1 23 λt56=>px 23 t56 (s11.getD 1 u_) λt58=>fl w13.drew t58 74 6 72 λt60=>pp (Builtin.len_ #[72] 3 #[t60]) λt61=>bt .gtr 3 t61 (i6 300) λt62=>za (λK14=>gIf t62 false (fl w13.drew t1 25 1 23 λt65=>px 23 t65 (s11.getD 1 u_) λt67=>fl w13.drew t67 74 4 70 λt69=>pp (Builtin.len_ #[70] 3 #[t69]) λt70=>bt .gtr 3 t70 (i6 300) λt71=>K14 [t71] w13.drew) (K14 [u_] w13.drew)) (λs15 _d16 w17=>
 zd t62 tr_ (s15.getD 0 u_) λt72=>za (λK18=>gIf t72 false (bt .gtr 3 t54 (i6 1200) λt75=>K18 [t75] w17) (K18 [u_] w17)) (λs19 _d20 w21=>
 zd t72 tr_ (s19.getD 0 u_) λt76=>zc t76 (K fa_ w21) (bt .add 3 (s11.getD 1 u_) (i6 1) λt37=>K10 [t54,t37] w21)))) (K tr_ w13))))))
theorem abz(h:Qz t0 w K):zb prog Zz #[t0] w K:=
 okC false (.s (.r (rz 2 0 2)) (.s (.s (.r (ra 5 0 4 (.grp 10 false (ri 4 5 4) [14] (rz 1 9 0)))) (.c (.s (.r (rz 1 0 0)) (.n)) (.n))) (.s (.r (rz 1 0 0)) (.s (.s (.r (rz 1 0 0)) (.b (.lp [4] (.s (.s (.r (rz 5 0 16)) (.c (.n) (.n))) (.s (.b (.s (.r (rz 8 0 1028)) (.c (.s (.r (rz 1 0 0)) (.n)) (.n)))) (.r (rz 3 0 0))))))) (.s (.s (.r (rz 1 0 0)) (.b (.lp [3,5] (.s (.s (.r (rz 5 0 16)) (.c (.n) (.n))) (.s (.b (.s (.r (rz 18 0 67375120)) (.s (.r (ra 9 0 1028 (.grp 63 false (ri 8 9 1028) [71] (ra 2 17 0 (.grp 73 false (ri 2 19 0) [75] (rz 1 21 0)))))) (.c (.s (.r (rz 1 0 0)) (.n)) (.n))))) (.r (rz 3 0 0))))))) (.s (.r (rz 1 0 0)) (.n))))))) func6 rfl (by kernel_rfl) (by kernel_rfl) h
def XD(w:World)(K:VW):Prop:=
 ca ZA #[] w λt20 w1=>
 pw w1 (Instr.alloc 25 true (.tuple #[])) λt1 w2=>
 so w2 25 t1 t20 λw3=>lo w3 25 t1 λt22=>ca jt #[t22,(i6 0)] w3 λt23 w4=>
 pe t23 0 λt24=>pe t23 1 λt25=>lo w4 25 t1 λt27=>pw w4 (Instr.buildSlice 57 1 #[(0,(i6 (-1)))]) λt28 w5=>
 pp (Instr.build 59 #[(0,(i6 2)),(1,t28)]) λt29=>ca j5 #[t27,(i6 0),t29] w5 λt30 w6=>
 pe t30 0 λt31=>pe t30 1 λt32=>lo w6 25 t1 λt34=>ca ju #[t34,(i6 0),(i6 1)] w6 λt35 w7=>
 pe t35 0 λt36=>pe t35 1 λt37=>lo w7 25 t1 λt39=>ca Zw #[t39,(i6 0)] w7 λt40 w8=>
 pe t40 0 λt41=>pe t40 1 λt42=>lo w8 25 t1 λt44=>ca Yn #[t44,(i6 0),(i6 1)] w8 λt45 w9=>
 pe t45 0 λt46=>pe t45 1 λt47=>pe t45 2 λt48=>lo w9 25 t1 λt50=>ca j6 #[t50,(i6 0),(i6 2)] w9 λt51 w10=>
 pe t51 0 λt52=>pe t51 1 λt53=>lo w10 25 t1 λt55=>ca Zx #[t55,(i6 0),(i6 2)] w10 λt56 w11=>
 pe t56 0 λ_t57=>pe t56 1 λt58=>pe t56 2 λt59=>lo w11 25 t1 λt61=>pw w11 (Instr.buildSlice 26 2 #[(0,(i6 0)),(1,(i6 1))]) λt62 w12=>
 ca vO #[t61,(i6 0),(i6 1),t62] w12 λt63 w13=>
 pe t63 0 λt64=>pe t63 1 λt65=>bt .eql 29 t25 (i6 0) λt67=>za (λK14=>gIf t67 true (pp (Builtin.len_ #[37] 3 #[t24]) λt70=>bt .eql 3 t70 (i6 3) λt71=>K14 [t71] w13) (K14 [u_] w13)) (λs15 _d16 w17=>
 zd t67 (s15.getD 0 u_) fa_ λt72=>za (λK18=>gIf t72 true (bt .eql 3 t31 (i6 2) λt75=>K18 [t75] w17) (K18 [u_] w17)) (λs19 _d20 w21=>
 zd t72 (s19.getD 0 u_) fa_ λt76=>za (λK22=>gIf t76 true (bt .eql 29 t32 (i6 0) λt79=>K22 [t79] w21) (K22 [u_] w21)) (λs23 _d24 w25=>
 zd t76 (s23.getD 0 u_) fa_ λt80=>za (λK26=>gIf t80 true (pp (Builtin.len_ #[26] 3 #[t36]) λt83=>bt .eql 3 t83 (i6 1) λt84=>K26 [t84] w25) (K26 [u_] w25)) (λs27 _d28 w29=>
 zd t80 (s27.getD 0 u_) fa_ λt85=>za (λK30=>gIf t85 true (bt .eql 29 t37 (i6 0) λt88=>K30 [t88] w29) (K30 [u_] w29)) (λs31 _d32 w33=>
 zd t85 (s31.getD 0 u_) fa_ λt89=>za (λK34=>gIf t89 true (pp (Builtin.len_ #[26] 3 #[t41]) λt92=>bt .eql 3 t92 (i6 3) λt93=>K34 [t93] w33) (K34 [u_] w33)) (λs35 _d36 w37=>
 zd t89 (s35.getD 0 u_) fa_ λt94=>za (λK38=>gIf t94 true (bt .eql 29 t42 (i6 0) λt97=>K38 [t97] w37) (K38 [u_] w37)) (λs39 _d40 w41=>
 zd t94 (s39.getD 0 u_) fa_ λt98=>za (λK42=>gIf t98 true (pp (Builtin.len_ #[26] 3 #[t46]) λt101=>bt .eql 3 t101 (i6 0) λt102=>K42 [t102] w41) (K42 [u_] w41)) (λs43 _d44 w45=>
 zd t98 (s43.getD 0 u_) fa_ λt103=>za (λK46=>gIf t103 true (pp (Builtin.len_ #[26] 3 #[t47]) λt106=>bt .eql 3 t106 (i6 1) λt107=>K46 [t107] w45) (K46 [u_] w45)) (λs47 _d48 w49=>
 zd t103 (s47.getD 0 u_) fa_ λt108=>za (λK50=>gIf t108 true (bt .eql 29 t48 (i6 0) λt111=>K50 [t111] w49) (K50 [u_] w49)) (λs51 _d52 w53=>
 zd t108 (s51.getD 0 u_) fa_ λt112=>za (λK54=>gIf t112 true (pp (Builtin.len_ #[26] 3 #[t52]) λt115=>bt .eql 3 t115 (i6 1) λt116=>K54 [t116] w53) (K54 [u_] w53)) (λs55 _d56 w57=>
 zd t112 (s55.getD 0 u_) fa_ λt117=>za (λK58=>gIf t117 true (xl w57 26 t52 (i6 0) 3 λt121=>bt .eql 3 t121 (i6 2) λt122=>K58 [t122] w57) (K58 [u_] w57)) (λs59 _d60 w61=>
 zd t117 (s59.getD 0 u_) fa_ λt123=>za (λK62=>gIf t123 true (bt .eql 29 t53 (i6 0) λt126=>K62 [t126] w61) (K62 [u_] w61)) (λs63 _d64 w65=>
 zd t123 (s63.getD 0 u_) fa_ λt127=>za (λK66=>gIf t127 true (pp (Op.unary .not t58) λt130=>K66 [t130] w65) (K66 [u_] w65)) (λs67 _d68 w69=>
 zd t127 (s67.getD 0 u_) fa_ λt131=>za (λK70=>gIf t131 true (bt .eql 29 t59 (i6 0) λt134=>K70 [t134] w69) (K70 [u_] w69)) (λs71 _d72 w73=>
 zd t131 (s71.getD 0 u_) fa_ λt135=>za (λK74=>gIf t135 true (pp (Builtin.len_ #[26] 3 #[t64]) λt138=>bt .eql 3 t138 (i6 1) λt139=>K74 [t139] w73) (K74 [u_] w73)) (λs75 _d76 w77=>
 zd t135 (s75.getD 0 u_) fa_ λt140=>za (λK78=>gIf t140 true (xl w77 26 t64 (i6 0) 3 λt144=>bt .eql 3 t144 (i6 0) λt145=>K78 [t145] w77) (K78 [u_] w77)) (λs79 _d80 w81=>
 zd t140 (s79.getD 0 u_) fa_ λt146=>za (λK82=>gIf t146 true (bt .eql 29 t65 (i6 0) λt149=>K82 [t149] w81) (K82 [u_] w81)) (λs83 _d84 w85=>
 zd t146 (s83.getD 0 u_) fa_ λt150=>K t150 w85))))))))))))))))))
theorem aaK(h:XD  w K):zb prog xy #[] w K:=
 okC false (.s (.r (rz 1 0 0)) (.s (.r (rz 3 0 42)) (.s (.r (rz 7 0 9)) (.s (.r (rz 9 0 137)) (.s (.r (rz 7 0 9)) (.s (.r (rz 7 0 9)) (.s (.r (rz 9 0 9)) (.s (.r (rz 7 0 9)) (.s (.r (rz 9 0 9)) (.s (.r (rz 8 0 41)) (.s (.r (ra 3 0 0 (.grp 68 true (ri 3 3 0) [71] (ra 2 6 0 (.grp 73 true (ri 2 8 0) [75] (ra 2 10 0 (.grp 77 true (ri 2 12 0) [79] (ra 2 14 0 (.grp 81 true (ri 3 16 0) [84] (ra 2 19 0 (.grp 86 true (ri 2 21 0) [88] (ra 2 23 0 (.grp 90 true (ri 3 25 0) [93] (ra 2 28 0 (.grp 95 true (ri 2 30 0) [97] (ra 2 32 0 (.grp 99 true (ri 3 34 0) [102] (ra 2 37 0 (.grp 104 true (ri 3 39 0) [107] (ra 2 42 0 (.grp 109 true (ri 2 44 0) [111] (ra 2 46 0 (.grp 113 true (ri 3 48 0) [116] (ra 2 51 0 (.grp 118 true (ri 4 53 16) [122] (ra 2 57 0 (.grp 124 true (ri 2 59 0) [126] (ra 2 61 0 (.grp 128 true (ri 2 63 0) [130] (ra 2 65 0 (.grp 132 true (ri 2 67 0) [134] (ra 2 69 0 (.grp 136 true (ri 3 71 0) [139] (ra 2 74 0 (.grp 141 true (ri 4 76 16) [145] (ra 2 80 0 (.grp 147 true (ri 2 82 0) [149] (rz 2 84 0)))))))))))))))))))))))))))))))))))))) (.n)))))))))))) func7 rfl (by kernel_rfl) (by kernel_rfl) h
def VY(t0 t1:Value)(w:World)(K:VW):Prop:=
 zw [(i6 0)] w (λs2 _d3 w4 K1=>
 pp (Builtin.len_ #[26] 3 #[t0]) λt8=>bf .lss 3 (s2.getD 0 u_) t8 λt9=>zc t9 (xl w4 26 t0 (s2.getD 0 u_) 3 λt15=>bf .eql 3 t15 t1 λt17=>zc t17 (K tr_ w4) (bt .add 3 (s2.getD 0 u_) (i6 1) λt11=>K1 [t11] w4)) (K fa_ w4))
theorem ac7{t1:Value}(h:VY t0 t1 w K):zb prog Zh #[t0,t1] w K:=
 okC false (.s (.r (rz 1 0 0)) (.s (.s (.r (rz 1 0 0)) (.b (.lp [5] (.s (.s (.r (rz 4 0 0)) (.c (.n) (.n))) (.s (.b (.s (.r (rz 6 0 64)) (.c (.s (.r (rz 1 0 0)) (.n)) (.n)))) (.r (rz 3 0 0))))))) (.s (.r (rz 1 0 0)) (.n)))) func18 rfl (by kernel_rfl) (by kernel_rfl) h
def QA(w:World)(K:VW):Prop:=
 pw w (Instr.alloc 25 true (.tuple #[])) λt0 w1=>
 pw w1 (Instr.buildSlice 57 1 #[(0,(i6 (-1)))]) λt2 w2=>
 pp (Instr.build 59 #[(0,(i6 2)),(1,t2)]) λt3=>pw w2 (Instr.alloc 59 true (.tuple #[])) λt1 w3=>
 so w3 59 t1 t3 λw4=>pp (Instr.build 59 #[(0,(i6 2))]) λt9=>pp (Instr.build 59 #[(0,(i6 1))]) λt10=>pp (Instr.build 94 #[(0,(Value.int .u8 4)),(1,t9),(6,t10),(7,tr_),(10,(i6 1))]) λt11=>pp (Instr.build 59 #[(0,(i6 1))]) λt12=>lo w4.drew 59 t1 λt15=>pp (Instr.build 94 #[(0,(Value.int .u8 14))]) λt18=>((ca xh #[] w4.drew λt4 w5=>
 Ext w4.drew w5∧
 ((ca xh #[] w5 λt5 w6=>
 Ext w5 w6∧
 ((ca kv #[tr_] w6 λt6 w7=>
 Ext w6 w7∧
 ((pw w7 (Instr.buildSlice 70 3 #[(0,t4),(1,t5),(2,t6)]) λt7 w8=>
 Ext w7 w8∧
 ((pw w8 (Instr.makeSlice 71 (i6 3) (i6 3)) λt8 w9=>
 Ext w8 w9∧
 ca zm #[(i6 2)] w9 λt13 w10=>
 Ext w9 w10∧
 pp (Instr.build 94 #[(0,(Value.int .u8 1)),(1,t12),(2,t13),(10,(i6 2))]) λt14=>ca zm #[(i6 3)] w10 λt16 w11=>
 Ext w10 w11∧
 pp (Instr.build 94 #[(0,(Value.int .u8 1)),(1,t15),(2,t16),(10,(i6 3))]) λt17=>pw w11 (Instr.buildSlice 72 4 #[(0,t11),(1,t14),(2,t17),(3,t18)]) λt19 w12=>
 pp (Instr.build 74 #[(4,t7),(5,t8),(6,t19)]) λt20=>pw w12 (Instr.buildSlice 23 1 #[(0,t20)]) λt21 w13=>
 pp (Instr.build 25 #[(1,t21)]) λt22=>so w13 25 t0 t22 λw14=>pq w14 (zf 25 t0) λr15=>K r15 w14)∧
 (ca zm #[(i6 2)] w8 λt13_17 w16=>
 Ext w8 w16∧
 pp (Instr.build 94 #[(0,(Value.int .u8 1)),(1,t12),(2,t13_17),(10,(i6 2))]) λt14_18=>((pw w16 (Instr.makeSlice 71 (i6 3) (i6 3)) λt8_20 w19=>
 Ext w16 w19∧
 ca zm #[(i6 3)] w19 λt16_22 w21=>
 Ext w19 w21∧
 pp (Instr.build 94 #[(0,(Value.int .u8 1)),(1,t15),(2,t16_22),(10,(i6 3))]) λt17_23=>pw w21 (Instr.buildSlice 72 4 #[(0,t11),(1,t14_18),(2,t17_23),(3,t18)]) λt19_25 w24=>
 pp (Instr.build 74 #[(4,t7),(5,t8_20),(6,t19_25)]) λt20_26=>pw w24 (Instr.buildSlice 23 1 #[(0,t20_26)]) λt21_28 w27=>
 pp (Instr.build 25 #[(1,t21_28)]) λt22_29=>so w27 25 t0 t22_29 λw30=>pq w30 (zf 25 t0) λr31=>K r31 w30)∧
 (ca zm #[(i6 3)] w16 λt16_33 w32=>
 Ext w16 w32∧
 pp (Instr.build 94 #[(0,(Value.int .u8 1)),(1,t15),(2,t16_33),(10,(i6 3))]) λt17_34=>((pw w32 (Instr.makeSlice 71 (i6 3) (i6 3)) λt8_36 w35=>
 Ext w32 w35∧
 pw w35 (Instr.buildSlice 72 4 #[(0,t11),(1,t14_18),(2,t17_34),(3,t18)]) λt19_38 w37=>
 pp (Instr.build 74 #[(4,t7),(5,t8_36),(6,t19_38)]) λt20_39=>pw w37 (Instr.buildSlice 23 1 #[(0,t20_39)]) λt21_41 w40=>
 pp (Instr.build 25 #[(1,t21_41)]) λt22_42=>so w40 25 t0 t22_42 λw43=>pq w43 (zf 25 t0) λr44=>K r44 w43)∧
 (pw w32 (Instr.buildSlice 72 4 #[(0,t11),(1,t14_18),(2,t17_34),(3,t18)]) λt19_46 w45=>
 pw w45 (Instr.makeSlice 71 (i6 3) (i6 3)) λt8_48 w47=>
 Ext w45 w47∧
 pp (Instr.build 74 #[(4,t7),(5,t8_48),(6,t19_46)]) λt20_49=>pw w47 (Instr.buildSlice 23 1 #[(0,t20_49)]) λt21_51 w50=>
 pp (Instr.build 25 #[(1,t21_51)]) λt22_52=>so w50 25 t0 t22_52 λw53=>pq w53 (zf 25 t0) λr54=>K r54 w53)))))))∧
 (((pw w7 (Instr.makeSlice 71 (i6 3) (i6 3)) λt8_56 w55=>
 Ext w7 w55∧
 ((pw w55 (Instr.buildSlice 70 3 #[(0,t4),(1,t5),(2,t6)]) λt7_58 w57=>
 Ext w55 w57∧
 ca zm #[(i6 2)] w57 λt13_60 w59=>
 Ext w57 w59∧
 pp (Instr.build 94 #[(0,(Value.int .u8 1)),(1,t12),(2,t13_60),(10,(i6 2))]) λt14_61=>ca zm #[(i6 3)] w59 λt16_63 w62=>
 Ext w59 w62∧
 pp (Instr.build 94 #[(0,(Value.int .u8 1)),(1,t15),(2,t16_63),(10,(i6 3))]) λt17_64=>pw w62 (Instr.buildSlice 72 4 #[(0,t11),(1,t14_61),(2,t17_64),(3,t18)]) λt19_66 w65=>
 pp (Instr.build 74 #[(4,t7_58),(5,t8_56),(6,t19_66)]) λt20_67=>pw w65 (Instr.buildSlice 23 1 #[(0,t20_67)]) λt21_69 w68=>
 pp (Instr.build 25 #[(1,t21_69)]) λt22_70=>so w68 25 t0 t22_70 λw71=>pq w71 (zf 25 t0) λr72=>K r72 w71)∧
 (ca zm #[(i6 2)] w55 λt13_74 w73=>
 Ext w55 w73∧
 pp (Instr.build 94 #[(0,(Value.int .u8 1)),(1,t12),(2,t13_74),(10,(i6 2))]) λt14_75=>((pw w73 (Instr.buildSlice 70 3 #[(0,t4),(1,t5),(2,t6)]) λt7_77 w76=>
 Ext w73 w76∧
 ca zm #[(i6 3)] w76 λt16_79 w78=>
 Ext w76 w78∧
 pp (Instr.build 94 #[(0,(Value.int .u8 1)),(1,t15),(2,t16_79),(10,(i6 3))]) λt17_80=>pw w78 (Instr.buildSlice 72 4 #[(0,t11),(1,t14_75),(2,t17_80),(3,t18)]) λt19_82 w81=>
 pp (Instr.build 74 #[(4,t7_77),(5,t8_56),(6,t19_82)]) λt20_83=>pw w81 (Instr.buildSlice 23 1 #[(0,t20_83)]) λt21_85 w84=>
 pp (Instr.build 25 #[(1,t21_85)]) λt22_86=>so w84 25 t0 t22_86 λw87=>pq w87 (zf 25 t0) λr88=>K r88 w87)∧
 (ca zm #[(i6 3)] w73 λt16_90 w89=>
 Ext w73 w89∧
 pp (Instr.build 94 #[(0,(Value.int .u8 1)),(1,t15),(2,t16_90),(10,(i6 3))]) λt17_91=>((pw w89 (Instr.buildSlice 70 3 #[(0,t4),(1,t5),(2,t6)]) λt7_93 w92=>
 Ext w89 w92∧
 pw w92 (Instr.buildSlice 72 4 #[(0,t11),(1,t14_75),(2,t17_91),(3,t18)]) λt19_95 w94=>
 pp (Instr.build 74 #[(4,t7_93),(5,t8_56),(6,t19_95)]) λt20_96=>pw w94 (Instr.buildSlice 23 1 #[(0,t20_96)]) λt21_98 w97=>
 pp (Instr.build 25 #[(1,t21_98)]) λt22_99=>so w97 25 t0 t22_99 λw100=>pq w100 (zf 25 t0) λr101=>K r101 w100)∧
 (pw w89 (Instr.buildSlice 72 4 #[(0,t11),(1,t14_75),(2,t17_91),(3,t18)]) λt19_103 w102=>
 pw w102 (Instr.buildSlice 70 3 #[(0,t4),(1,t5),(2,t6)]) λt7_105 w104=>
 Ext w102 w104∧
 pp (Instr.build 74 #[(4,t7_105),(5,t8_56),(6,t19_103)]) λt20_106=>pw w104 (Instr.buildSlice 23 1 #[(0,t20_106)]) λt21_108 w107=>
 pp (Instr.build 25 #[(1,t21_108)]) λt22_109=>so w107 25 t0 t22_109 λw110=>pq w110 (zf 25 t0) λr111=>K r111 w110)))))))∧
 (ca zm #[(i6 2)] w7 λt13_113 w112=>
 Ext w7 w112∧
 pp (Instr.build 94 #[(0,(Value.int .u8 1)),(1,t12),(2,t13_113),(10,(i6 2))]) λt14_114=>((pw w112 (Instr.buildSlice 70 3 #[(0,t4),(1,t5),(2,t6)]) λt7_116 w115=>
 Ext w112 w115∧
 ((pw w115 (Instr.makeSlice 71 (i6 3) (i6 3)) λt8_118 w117=>
 Ext w115 w117∧
 ca zm #[(i6 3)] w117 λt16_120 w119=>
 Ext w117 w119∧
 pp (Instr.build 94 #[(0,(Value.int .u8 1)),(1,t15),(2,t16_120),(10,(i6 3))]) λt17_121=>pw w119 (Instr.buildSlice 72 4 #[(0,t11),(1,t14_114),(2,t17_121),(3,t18)]) λt19_123 w122=>
 pp (Instr.build 74 #[(4,t7_116),(5,t8_118),(6,t19_123)]) λt20_124=>pw w122 (Instr.buildSlice 23 1 #[(0,t20_124)]) λt21_126 w125=>
 pp (Instr.build 25 #[(1,t21_126)]) λt22_127=>so w125 25 t0 t22_127 λw128=>pq w128 (zf 25 t0) λr129=>K r129 w128)∧
 (ca zm #[(i6 3)] w115 λt16_131 w130=>
 Ext w115 w130∧
 pp (Instr.build 94 #[(0,(Value.int .u8 1)),(1,t15),(2,t16_131),(10,(i6 3))]) λt17_132=>((pw w130 (Instr.makeSlice 71 (i6 3) (i6 3)) λt8_134 w133=>
 Ext w130 w133∧
 pw w133 (Instr.buildSlice 72 4 #[(0,t11),(1,t14_114),(2,t17_132),(3,t18)]) λt19_136 w135=>
 pp (Instr.build 74 #[(4,t7_116),(5,t8_134),(6,t19_136)]) λt20_137=>pw w135 (Instr.buildSlice 23 1 #[(0,t20_137)]) λt21_139 w138=>
 pp (Instr.build 25 #[(1,t21_139)]) λt22_140=>so w138 25 t0 t22_140 λw141=>pq w141 (zf 25 t0) λr142=>K r142 w141)∧
 (pw w130 (Instr.buildSlice 72 4 #[(0,t11),(1,t14_114),(2,t17_132),(3,t18)]) λt19_144 w143=>
 pw w143 (Instr.makeSlice 71 (i6 3) (i6 3)) λt8_146 w145=>
 Ext w143 w145∧
 pp (Instr.build 74 #[(4,t7_116),(5,t8_146),(6,t19_144)]) λt20_147=>pw w145 (Instr.buildSlice 23 1 #[(0,t20_147)]) λt21_149 w148=>
 pp (Instr.build 25 #[(1,t21_149)]) λt22_150=>so w148 25 t0 t22_150 λw151=>pq w151 (zf 25 t0) λr152=>K r152 w151)))))∧
 (((pw w112 (Instr.makeSlice 71 (i6 3) (i6 3)) λt8_154 w153=>
 Ext w112 w153∧
 ((pw w153 (Instr.buildSlice 70 3 #[(0,t4),(1,t5),(2,t6)]) λt7_156 w155=>
 Ext w153 w155∧
 ca zm #[(i6 3)] w155 λt16_158 w157=>
 Ext w155 w157∧
 pp (Instr.build 94 #[(0,(Value.int .u8 1)),(1,t15),(2,t16_158),(10,(i6 3))]) λt17_159=>pw w157 (Instr.buildSlice 72 4 #[(0,t11),(1,t14_114),(2,t17_159),(3,t18)]) λt19_161 w160=>
 pp (Instr.build 74 #[(4,t7_156),(5,t8_154),(6,t19_161)]) λt20_162=>pw w160 (Instr.buildSlice 23 1 #[(0,t20_162)]) λt21_164 w163=>
 pp (Instr.build 25 #[(1,t21_164)]) λt22_165=>so w163 25 t0 t22_165 λw166=>pq w166 (zf 25 t0) λr167=>K r167 w166)∧
 (ca zm #[(i6 3)] w153 λt16_169 w168=>
 Ext w153 w168∧
 pp (Instr.build 94 #[(0,(Value.int .u8 1)),(1,t15),(2,t16_169),(10,(i6 3))]) λt17_170=>((pw w168 (Instr.buildSlice 70 3 #[(0,t4),(1,t5),(2,t6)]) λt7_172 w171=>
 Ext w168 w171∧
 pw w171 (Instr.buildSlice 72 4 #[(0,t11),(1,t14_114),(2,t17_170),(3,t18)]) λt19_174 w173=>
 pp (Instr.build 74 #[(4,t7_172),(5,t8_154),(6,t19_174)]) λt20_175=>pw w173 (Instr.buildSlice 23 1 #[(0,t20_175)]) λt21_177 w176=>
 pp (Instr.build 25 #[(1,t21_177)]) λt22_178=>so w176 25 t0 t22_178 λw179=>pq w179 (zf 25 t0) λr180=>K r180 w179)∧
 (pw w168 (Instr.buildSlice 72 4 #[(0,t11),(1,t14_114),(2,t17_170),(3,t18)]) λt19_182 w181=>
 pw w181 (Instr.buildSlice 70 3 #[(0,t4),(1,t5),(2,t6)]) λt7_184 w183=>
 Ext w181 w183∧
 pp (Instr.build 74 #[(4,t7_184),(5,t8_154),(6,t19_182)]) λt20_185=>pw w183 (Instr.buildSlice 23 1 #[(0,t20_185)]) λt21_187 w186=>
 pp (Instr.build 25 #[(1,t21_187)]) λt22_188=>so w186 25 t0 t22_188 λw189=>pq w189 (zf 25 t0) λr190=>K r190 w189)))))∧
 (ca zm #[(i6 3)] w112 λt16_192 w191=>
 Ext w112 w191∧
 pp (Instr.build 94 #[(0,(Value.int .u8 1)),(1,t15),(2,t16_192),(10,(i6 3))]) λt17_193=>((pw w191 (Instr.buildSlice 70 3 #[(0,t4),(1,t5),(2,t6)]) λt7_195 w194=>
 Ext w191 w194∧
 ((pw w194 (Instr.makeSlice 71 (i6 3) (i6 3)) λt8_197 w196=>
 Ext w194 w196∧
 pw w196 (Instr.buildSlice 72 4 #[(0,t11),(1,t14_114),(2,t17_193),(3,t18)]) λt19_199 w198=>
 pp (Instr.build 74 #[(4,t7_195),(5,t8_197),(6,t19_199)]) λt20_200=>pw w198 (Instr.buildSlice 23 1 #[(0,t20_200)]) λt21_202 w201=>
 pp (Instr.build 25 #[(1,t21_202)]) λt22_203=>so w201 25 t0 t22_203 λw204=>pq w204 (zf 25 t0) λr205=>K r205 w204)∧
 (pw w194 (Instr.buildSlice 72 4 #[(0,t11),(1,t14_114),(2,t17_193),(3,t18)]) λt19_207 w206=>
 pw w206 (Instr.makeSlice 71 (i6 3) (i6 3)) λt8_209 w208=>
 Ext w206 w208∧
 pp (Instr.build 74 #[(4,t7_195),(5,t8_209),(6,t19_207)]) λt20_210=>pw w208 (Instr.buildSlice 23 1 #[(0,t20_210)]) λt21_212 w211=>
 pp (Instr.build 25 #[(1,t21_212)]) λt22_213=>so w211 25 t0 t22_213 λw214=>pq w214 (zf 25 t0) λr215=>K r215 w214)))∧
 (((pw w191 (Instr.makeSlice 71 (i6 3) (i6 3)) λt8_217 w216=>
 Ext w191 w216∧
 ((pw w216 (Instr.buildSlice 70 3 #[(0,t4),(1,t5),(2,t6)]) λt7_219 w218=>
 Ext w216 w218∧
 pw w218 (Instr.buildSlice 72 4 #[(0,t11),(1,t14_114),(2,t17_193),(3,t18)]) λt19_221 w220=>
 pp (Instr.build 74 #[(4,t7_219),(5,t8_217),(6,t19_221)]) λt20_222=>pw w220 (Instr.buildSlice 23 1 #[(0,t20_222)]) λt21_224 w223=>
 pp (Instr.build 25 #[(1,t21_224)]) λt22_225=>so w223 25 t0 t22_225 λw226=>pq w226 (zf 25 t0) λr227=>K r227 w226)∧
 (pw w216 (Instr.buildSlice 72 4 #[(0,t11),(1,t14_114),(2,t17_193),(3,t18)]) λt19_229 w228=>
 pw w228 (Instr.buildSlice 70 3 #[(0,t4),(1,t5),(2,t6)]) λt7_231 w230=>
 Ext w228 w230∧
 pp (Instr.build 74 #[(4,t7_231),(5,t8_217),(6,t19_229)]) λt20_232=>pw w230 (Instr.buildSlice 23 1 #[(0,t20_232)]) λt21_234 w233=>
 pp (Instr.build 25 #[(1,t21_234)]) λt22_235=>so w233 25 t0 t22_235 λw236=>pq w236 (zf 25 t0) λr237=>K r237 w236)))∧
 (pw w191 (Instr.buildSlice 72 4 #[(0,t11),(1,t14_114),(2,t17_193),(3,t18)]) λt19_239 w238=>
 ((pw w238 (Instr.buildSlice 70 3 #[(0,t4),(1,t5),(2,t6)]) λt7_241 w240=>
 Ext w238 w240∧
 pw w240 (Instr.makeSlice 71 (i6 3) (i6 3)) λt8_243 w242=>
 Ext w240 w242∧
 pp (Instr.build 74 #[(4,t7_241),(5,t8_243),(6,t19_239)]) λt20_244=>pw w242 (Instr.buildSlice 23 1 #[(0,t20_244)]) λt21_246 w245=>
 pp (Instr.build 25 #[(1,t21_246)]) λt22_247=>so w245 25 t0 t22_247 λw248=>pq w248 (zf 25 t0) λr249=>K r249 w248)∧
 (pw w238 (Instr.makeSlice 71 (i6 3) (i6 3)) λt8_251 w250=>
 Ext w238 w250∧
 pw w250 (Instr.buildSlice 70 3 #[(0,t4),(1,t5),(2,t6)]) λt7_253 w252=>
 Ext w250 w252∧
 pp (Instr.build 74 #[(4,t7_253),(5,t8_251),(6,t19_239)]) λt20_254=>pw w252 (Instr.buildSlice 23 1 #[(0,t20_254)]) λt21_256 w255=>
 pp (Instr.build 25 #[(1,t21_256)]) λt22_257=>so w255 25 t0 t22_257 λw258=>pq w258 (zf 25 t0) λr259=>K r259 w258)))))))))))))))∧
 (pw w6 (Instr.makeSlice 71 (i6 3) (i6 3)) λt8_261 w260=>
 Ext w6 w260∧
 ca kv #[tr_] w260 λt6_263 w262=>
 Ext w260 w262∧
 ((pw w262 (Instr.buildSlice 70 3 #[(0,t4),(1,t5),(2,t6_263)]) λt7_265 w264=>
 Ext w262 w264∧
 ca zm #[(i6 2)] w264 λt13_267 w266=>
 Ext w264 w266∧
 pp (Instr.build 94 #[(0,(Value.int .u8 1)),(1,t12),(2,t13_267),(10,(i6 2))]) λt14_268=>ca zm #[(i6 3)] w266 λt16_270 w269=>
 Ext w266 w269∧
 pp (Instr.build 94 #[(0,(Value.int .u8 1)),(1,t15),(2,t16_270),(10,(i6 3))]) λt17_271=>pw w269 (Instr.buildSlice 72 4 #[(0,t11),(1,t14_268),(2,t17_271),(3,t18)]) λt19_273 w272=>
 pp (Instr.build 74 #[(4,t7_265),(5,t8_261),(6,t19_273)]) λt20_274=>pw w272 (Instr.buildSlice 23 1 #[(0,t20_274)]) λt21_276 w275=>
 pp (Instr.build 25 #[(1,t21_276)]) λt22_277=>so w275 25 t0 t22_277 λw278=>pq w278 (zf 25 t0) λr279=>K r279 w278)∧
 (ca zm #[(i6 2)] w262 λt13_281 w280=>
 Ext w262 w280∧
 pp (Instr.build 94 #[(0,(Value.int .u8 1)),(1,t12),(2,t13_281),(10,(i6 2))]) λt14_282=>((pw w280 (Instr.buildSlice 70 3 #[(0,t4),(1,t5),(2,t6_263)]) λt7_284 w283=>
 Ext w280 w283∧
 ca zm #[(i6 3)] w283 λt16_286 w285=>
 Ext w283 w285∧
 pp (Instr.build 94 #[(0,(Value.int .u8 1)),(1,t15),(2,t16_286),(10,(i6 3))]) λt17_287=>pw w285 (Instr.buildSlice 72 4 #[(0,t11),(1,t14_282),(2,t17_287),(3,t18)]) λt19_289 w288=>
 pp (Instr.build 74 #[(4,t7_284),(5,t8_261),(6,t19_289)]) λt20_290=>pw w288 (Instr.buildSlice 23 1 #[(0,t20_290)]) λt21_292 w291=>
 pp (Instr.build 25 #[(1,t21_292)]) λt22_293=>so w291 25 t0 t22_293 λw294=>pq w294 (zf 25 t0) λr295=>K r295 w294)∧
 (ca zm #[(i6 3)] w280 λt16_297 w296=>
 Ext w280 w296∧
 pp (Instr.build 94 #[(0,(Value.int .u8 1)),(1,t15),(2,t16_297),(10,(i6 3))]) λt17_298=>((pw w296 (Instr.buildSlice 70 3 #[(0,t4),(1,t5),(2,t6_263)]) λt7_300 w299=>
 Ext w296 w299∧
 pw w299 (Instr.buildSlice 72 4 #[(0,t11),(1,t14_282),(2,t17_298),(3,t18)]) λt19_302 w301=>
 pp (Instr.build 74 #[(4,t7_300),(5,t8_261),(6,t19_302)]) λt20_303=>pw w301 (Instr.buildSlice 23 1 #[(0,t20_303)]) λt21_305 w304=>
 pp (Instr.build 25 #[(1,t21_305)]) λt22_306=>so w304 25 t0 t22_306 λw307=>pq w307 (zf 25 t0) λr308=>K r308 w307)∧
 (pw w296 (Instr.buildSlice 72 4 #[(0,t11),(1,t14_282),(2,t17_298),(3,t18)]) λt19_310 w309=>
 pw w309 (Instr.buildSlice 70 3 #[(0,t4),(1,t5),(2,t6_263)]) λt7_312 w311=>
 Ext w309 w311∧
 pp (Instr.build 74 #[(4,t7_312),(5,t8_261),(6,t19_310)]) λt20_313=>pw w311 (Instr.buildSlice 23 1 #[(0,t20_313)]) λt21_315 w314=>
 pp (Instr.build 25 #[(1,t21_315)]) λt22_316=>so w314 25 t0 t22_316 λw317=>pq w317 (zf 25 t0) λr318=>K r318 w317)))))))))∧
 (pw w5 (Instr.makeSlice 71 (i6 3) (i6 3)) λt8_320 w319=>
 Ext w5 w319∧
 ca xh #[] w319 λt5_322 w321=>
 Ext w319 w321∧
 ca kv #[tr_] w321 λt6_324 w323=>
 Ext w321 w323∧
 ((pw w323 (Instr.buildSlice 70 3 #[(0,t4),(1,t5_322),(2,t6_324)]) λt7_326 w325=>
 Ext w323 w325∧
 ca zm #[(i6 2)] w325 λt13_328 w327=>
 Ext w325 w327∧
 pp (Instr.build 94 #[(0,(Value.int .u8 1)),(1,t12),(2,t13_328),(10,(i6 2))]) λt14_329=>ca zm #[(i6 3)] w327 λt16_331 w330=>
 Ext w327 w330∧
 pp (Instr.build 94 #[(0,(Value.int .u8 1)),(1,t15),(2,t16_331),(10,(i6 3))]) λt17_332=>pw w330 (Instr.buildSlice 72 4 #[(0,t11),(1,t14_329),(2,t17_332),(3,t18)]) λt19_334 w333=>
 pp (Instr.build 74 #[(4,t7_326),(5,t8_320),(6,t19_334)]) λt20_335=>pw w333 (Instr.buildSlice 23 1 #[(0,t20_335)]) λt21_337 w336=>
 pp (Instr.build 25 #[(1,t21_337)]) λt22_338=>so w336 25 t0 t22_338 λw339=>pq w339 (zf 25 t0) λr340=>K r340 w339)∧
 (ca zm #[(i6 2)] w323 λt13_342 w341=>
 Ext w323 w341∧
 pp (Instr.build 94 #[(0,(Value.int .u8 1)),(1,t12),(2,t13_342),(10,(i6 2))]) λt14_343=>((pw w341 (Instr.buildSlice 70 3 #[(0,t4),(1,t5_322),(2,t6_324)]) λt7_345 w344=>
 Ext w341 w344∧
 ca zm #[(i6 3)] w344 λt16_347 w346=>
 Ext w344 w346∧
 pp (Instr.build 94 #[(0,(Value.int .u8 1)),(1,t15),(2,t16_347),(10,(i6 3))]) λt17_348=>pw w346 (Instr.buildSlice 72 4 #[(0,t11),(1,t14_343),(2,t17_348),(3,t18)]) λt19_350 w349=>
 pp (Instr.build 74 #[(4,t7_345),(5,t8_320),(6,t19_350)]) λt20_351=>pw w349 (Instr.buildSlice 23 1 #[(0,t20_351)]) λt21_353 w352=>
 pp (Instr.build 25 #[(1,t21_353)]) λt22_354=>so w352 25 t0 t22_354 λw355=>pq w355 (zf 25 t0) λr356=>K r356 w355)∧
 (ca zm #[(i6 3)] w341 λt16_358 w357=>
 Ext w341 w357∧
 pp (Instr.build 94 #[(0,(Value.int .u8 1)),(1,t15),(2,t16_358),(10,(i6 3))]) λt17_359=>((pw w357 (Instr.buildSlice 70 3 #[(0,t4),(1,t5_322),(2,t6_324)]) λt7_361 w360=>
 Ext w357 w360∧
 pw w360 (Instr.buildSlice 72 4 #[(0,t11),(1,t14_343),(2,t17_359),(3,t18)]) λt19_363 w362=>
 pp (Instr.build 74 #[(4,t7_361),(5,t8_320),(6,t19_363)]) λt20_364=>pw w362 (Instr.buildSlice 23 1 #[(0,t20_364)]) λt21_366 w365=>
 pp (Instr.build 25 #[(1,t21_366)]) λt22_367=>so w365 25 t0 t22_367 λw368=>pq w368 (zf 25 t0) λr369=>K r369 w368)∧
 (pw w357 (Instr.buildSlice 72 4 #[(0,t11),(1,t14_343),(2,t17_359),(3,t18)]) λt19_371 w370=>
 pw w370 (Instr.buildSlice 70 3 #[(0,t4),(1,t5_322),(2,t6_324)]) λt7_373 w372=>
 Ext w370 w372∧
 pp (Instr.build 74 #[(4,t7_373),(5,t8_320),(6,t19_371)]) λt20_374=>pw w372 (Instr.buildSlice 23 1 #[(0,t20_374)]) λt21_376 w375=>
 pp (Instr.build 25 #[(1,t21_376)]) λt22_377=>so w375 25 t0 t22_377 λw378=>pq w378 (zf 25 t0) λr379=>K r379 w378)))))))))∧
 (pw w4.drew (Instr.makeSlice 71 (i6 3) (i6 3)) λt8_381 w380=>
 Ext w4.drew w380∧
 ca xh #[] w380 λt4_383 w382=>
 Ext w380 w382∧
 ca xh #[] w382 λt5_385 w384=>
 Ext w382 w384∧
 ca kv #[tr_] w384 λt6_387 w386=>
 Ext w384 w386∧
 ((pw w386 (Instr.buildSlice 70 3 #[(0,t4_383),(1,t5_385),(2,t6_387)]) λt7_389 w388=>
 Ext w386 w388∧
 ca zm #[(i6 2)] w388 λt13_391 w390=>
 Ext w388 w390∧
 pp (Instr.build 94 #[(0,(Value.int .u8 1)),(1,t12),(2,t13_391),(10,(i6 2))]) λt14_392=>ca zm #[(i6 3)] w390 λt16_394 w393=>
 Ext w390 w393∧
 pp (Instr.build 94 #[(0,(Value.int .u8 1)),(1,t15),(2,t16_394),(10,(i6 3))]) λt17_395=>pw w393 (Instr.buildSlice 72 4 #[(0,t11),(1,t14_392),(2,t17_395),(3,t18)]) λt19_397 w396=>
 pp (Instr.build 74 #[(4,t7_389),(5,t8_381),(6,t19_397)]) λt20_398=>pw w396 (Instr.buildSlice 23 1 #[(0,t20_398)]) λt21_400 w399=>
 pp (Instr.build 25 #[(1,t21_400)]) λt22_401=>so w399 25 t0 t22_401 λw402=>pq w402 (zf 25 t0) λr403=>K r403 w402)∧
 (ca zm #[(i6 2)] w386 λt13_405 w404=>
 Ext w386 w404∧
 pp (Instr.build 94 #[(0,(Value.int .u8 1)),(1,t12),(2,t13_405),(10,(i6 2))]) λt14_406=>((pw w404 (Instr.buildSlice 70 3 #[(0,t4_383),(1,t5_385),(2,t6_387)]) λt7_408 w407=>
 Ext w404 w407∧
 ca zm #[(i6 3)] w407 λt16_410 w409=>
 Ext w407 w409∧
 pp (Instr.build 94 #[(0,(Value.int .u8 1)),(1,t15),(2,t16_410),(10,(i6 3))]) λt17_411=>pw w409 (Instr.buildSlice 72 4 #[(0,t11),(1,t14_406),(2,t17_411),(3,t18)]) λt19_413 w412=>
 pp (Instr.build 74 #[(4,t7_408),(5,t8_381),(6,t19_413)]) λt20_414=>pw w412 (Instr.buildSlice 23 1 #[(0,t20_414)]) λt21_416 w415=>
 pp (Instr.build 25 #[(1,t21_416)]) λt22_417=>so w415 25 t0 t22_417 λw418=>pq w418 (zf 25 t0) λr419=>K r419 w418)∧
 (ca zm #[(i6 3)] w404 λt16_421 w420=>
 Ext w404 w420∧
 pp (Instr.build 94 #[(0,(Value.int .u8 1)),(1,t15),(2,t16_421),(10,(i6 3))]) λt17_422=>((pw w420 (Instr.buildSlice 70 3 #[(0,t4_383),(1,t5_385),(2,t6_387)]) λt7_424 w423=>
 Ext w420 w423∧
 pw w423 (Instr.buildSlice 72 4 #[(0,t11),(1,t14_406),(2,t17_422),(3,t18)]) λt19_426 w425=>
 pp (Instr.build 74 #[(4,t7_424),(5,t8_381),(6,t19_426)]) λt20_427=>pw w425 (Instr.buildSlice 23 1 #[(0,t20_427)]) λt21_429 w428=>
 pp (Instr.build 25 #[(1,t21_429)]) λt22_430=>so w428 25 t0 t22_430 λw431=>pq w431 (zf 25 t0) λr432=>K r432 w431)∧
 (pw w420 (Instr.buildSlice 72 4 #[(0,t11),(1,t14_406),(2,t17_422),(3,t18)]) λt19_434 w433=>
 pw w433 (Instr.buildSlice 70 3 #[(0,t4_383),(1,t5_385),(2,t6_387)]) λt7_436 w435=>
 Ext w433 w435∧
 pp (Instr.build 74 #[(4,t7_436),(5,t8_381),(6,t19_434)]) λt20_437=>pw w435 (Instr.buildSlice 23 1 #[(0,t20_437)]) λt21_439 w438=>
 pp (Instr.build 25 #[(1,t21_439)]) λt22_440=>so w438 25 t0 t22_440 λw441=>pq w441 (zf 25 t0) λr442=>K r442 w441))))))))
theorem abA(h:QA  w K):zb prog ZA #[] w K:=
 okC false (.s (.r (rz 1 0 2)) (.s (.r (rz 4 0 162)) (.s (.r (ra 4 5 0 (ra 1 11 1 (ra 1 14 0 (.alt 0 .u (.alt 1 .u (.alt 2 .u (.alt 3 .u (.alt 4 .u (ra 2 9 3 (ra 2 12 3 (rz 5 15 546))) (ra 2 9 3 (.alt 4 .u (ra 2 12 3 (rz 5 15 546)) (ra 2 12 3 (.alt 4 .u (rz 5 15 546) (ra 1 15 2 (ra 1 4 3 (rz 4 16 136)))))))) (.alt 4 .u (.alt 3 .u (ra 2 9 3 (ra 2 12 3 (rz 5 15 546))) (ra 2 9 3 (.alt 3 .u (ra 2 12 3 (rz 5 15 546)) (ra 2 12 3 (.alt 3 .u (rz 5 15 546) (ra 1 15 2 (ra 1 3 3 (rz 4 16 136)))))))) (ra 2 9 3 (.alt 3 .u (.alt 4 .u (ra 2 12 3 (rz 5 15 546)) (ra 2 12 3 (.alt 4 .u (rz 5 15 546) (ra 1 15 2 (ra 1 4 3 (rz 4 16 136)))))) (.alt 4 .u (.alt 3 .u (ra 2 12 3 (rz 5 15 546)) (ra 2 12 3 (.alt 3 .u (rz 5 15 546) (ra 1 15 2 (ra 1 3 3 (rz 4 16 136)))))) (ra 2 12 3 (.alt 3 .u (.alt 4 .u (rz 5 15 546) (ra 1 15 2 (ra 1 4 3 (rz 4 16 136)))) (.alt 4 .u (.alt 3 .u (rz 5 15 546) (ra 1 15 2 (ra 1 3 3 (rz 4 16 136)))) (ra 1 15 2 (.alt 3 .u (ra 1 4 3 (rz 4 16 136)) (ra 1 4 3 (ra 1 3 3 (rz 4 16 136))))))))))))) (ra 1 4 3 (ra 1 2 3 (.alt 3 .u (ra 2 9 3 (ra 2 12 3 (rz 5 15 546))) (ra 2 9 3 (.alt 3 .u (ra 2 12 3 (rz 5 15 546)) (ra 2 12 3 (.alt 3 .u (rz 5 15 546) (ra 1 15 2 (ra 1 3 3 (rz 4 16 136))))))))))) (ra 1 4 3 (ra 2 1 15 (.alt 3 .u (ra 2 9 3 (ra 2 12 3 (rz 5 15 546))) (ra 2 9 3 (.alt 3 .u (ra 2 12 3 (rz 5 15 546)) (ra 2 12 3 (.alt 3 .u (rz 5 15 546) (ra 1 15 2 (ra 1 3 3 (rz 4 16 136))))))))))) (ra 1 4 3 (ra 3 0 63 (.alt 3 .u (ra 2 9 3 (ra 2 12 3 (rz 5 15 546))) (ra 2 9 3 (.alt 3 .u (ra 2 12 3 (rz 5 15 546)) (ra 2 12 3 (.alt 3 .u (rz 5 15 546) (ra 1 15 2 (ra 1 3 3 (rz 4 16 136))))))))))))))) (.n)))) func24 rfl (by kernel_rfl) (by kernel_rfl) h
def Jv(w:World)(K:VW):Prop:=
 pw w (Instr.alloc 112 true (.tuple #[])) λt0 w1=>
 pp (Instr.build 112 #[(0,(Value.int .u8 1))]) λt1=>so w1 112 t0 t1 λw2=>pq w2 (zf 112 t0) λr3=>K r3 w2
theorem acL(h:Jv  w K):zb prog xh #[] w K:=
 okC false (.s (.r (rz 1 0 2)) (.s (.r (rz 2 0 8)) (.n))) func51 rfl (by kernel_rfl) (by kernel_rfl) h
def Jw(t0:Value)(w:World)(K:VW):Prop:=
 pw w (Instr.alloc 112 true (.tuple #[])) λt2 w1=>
 ca xh #[] w1 λt4 w2=>
 pw w2 (Instr.buildSlice 70 1 #[(0,t4)]) λt5 w3=>
 pp (Instr.build 112 #[(0,(Value.int .u8 4)),(1,t0),(2,(i6 (-1))),(4,t5)]) λt6=>so w3 112 t2 t6 λw4=>pq w4 (zf 112 t2) λr5=>K r5 w4
theorem acM(h:Jw t0 w K):zb prog kv #[t0] w K:=
 okC false (.s (.r (rz 1 0 2)) (.s (.r (rz 5 0 552)) (.n))) func52 rfl (by kernel_rfl) (by kernel_rfl) h
def Jy(t0:Value)(w:World)(K:VW):Prop:=
 pw w (Instr.alloc 61 true (.tuple #[])) λt2 w1=>
 pp (Instr.build 61 #[(0,(Value.int .u8 1)),(1,t0)]) λt4=>so w1 61 t2 t4 λw2=>pq w2 (zf 61 t2) λr3=>K r3 w2
theorem acN(h:Jy t0 w K):zb prog zm #[t0] w K:=
 okC false (.s (.r (rz 1 0 2)) (.s (.r (rz 3 0 32)) (.n))) func53 rfl (by kernel_rfl) (by kernel_rfl) h
end
end Go.Proofs.Tryz
namespace Go.Proofs
open Go.Sh Go.RowKit
section
theorem Jz{w:World}{K:Value→World→Prop}(h:∀w',Ext w w'→K ahD w'):zb Tryz.prog Tryz.xh #[] w K:=by
 refine Tryz.acL ?_
 unfold Tryz.Jv
 have S:StX noX w nothing w []:=St.start (λ_ _ h=>h.elim)
 refine S.al λb0 w1 S=>?_
 refine zu (cs:=ZP.toArray) (by kernel_rfl) ?_
 refine S.stB (b:=b0) λw2 S=>?_
 refine S.ceB (b:=b0) ?_ rfl
 exact h _ S.ext
theorem ac8{n:Int}{w:World}{K:Value→World→Prop}(h:∀w',Ext w w'→K (ahE n) w'):zb Tryz.prog Tryz.zm #[.int .i64 n] w K:=by
 refine Tryz.acN ?_
 unfold Tryz.Jy
 have S:StX noX w nothing w []:=St.start (λ_ _ h=>h.elim)
 refine S.al λb0 w1 S=>?_
 refine zu (cs:=#[.int .u8 1,.int .i64 n,.int .i64 0,.slice none 0 0]) (by kernel_rfl) ?_
 refine S.stB (b:=b0) λw2 S=>?_
 refine S.ceB (b:=b0) ?_ rfl
 exact h _ S.ext
theorem ac9{m:Bool}{w:World}{K:Value→World→Prop}(h:∀q cap sn w',Ext w w'→New w sn w'→TyG sn (tyV (.mk 4 m (-1) 0 [kg]) q cap) (.mk 4 m (-1) 0 [kg])→K (tyV (.mk 4 m (-1) 0 [kg]) q cap) w'):zb Tryz.prog Tryz.kv #[.bool m] w K:=by
 refine Tryz.acM ?_
 unfold Tryz.Jw
 have S:StX noX w nothing w []:=St.start (λ_ _ h=>h.elim)
 refine S.al λb2 w1 S=>?_
 refine Jz λw2 e2=>?_
 have S:=S.go e2
 refine S.lit (e:=112) (cs:=ZP) (by kernel_rfl) λb5 w3 S=>?_
 refine zu (cs:=#[.int .u8 4,.bool m,.int .i64 (-1),.int .i64 0,.slice (some ⟨b5,0,none⟩) 1 1]) (by kernel_rfl) ?_
 refine S.stB (b:=b2) λw4 S=>?_
 refine S.ceB (b:=b2) ?_ rfl
 obtain⟨S,_,ha⟩:=S.litNew b5 (sz:=5) (R:=TyC nothing) (l:=[kg]) (by exact(kT (c:=ZP) rfl (show TyC nothing ZP kg from ZL))) (by decide)
 exact h (some ⟨b5,0,none⟩) 1 (nothing.or (Go.Sh.one b5 ZP 112)) _ S.ext (S.newOf (Above.no.or' ha)) (aeH (u:=kg) (v:=ahD) ZL)
theorem acO{u:UnD}{v:Value}{w:World}{r:Gh}{K:Value→World→Prop}(hr:Holds r w)(hu:UnG r v u)(h:∀(b:Bool) w',Ext w w'→K (.bool b) w'):zb Tryz.prog Tryz.Zz #[v] w K:=by
 refine Tryz.abz ?_
 unfold Tryz.Qz
 obtain⟨p0,cap0,vf,rfl,_,_,hst,hsl,hfn⟩:=hu
 obtain⟨qf,capf,rfl,_,_⟩:=hfn.sl.shape
 have hfl:u.fs.length≤9223372036854775807:=hfn.few
 have hsl':u.ss.length≤9223372036854775807:=hsl
 have S:=St.start hr
 refine S.box λb1 w1 S=>?_
 have S:StX noX w r w1 [.cell b1 [.slice p0 u.ss.length cap0,.slice qf u.fs.length capf,.int .i64 u.mn] 25]:=S
 refine gg_ ?_
 refine zq (c:=decide (40<(u.fs.length:Int))) (λ_ K2 hK2=>by refine gg_ ?_;exact hK2) ?_
 refine c_b (λ_=>h _ _ S.ext) (λ_=>?_)
 refine zj (ι:=Nat) (λi=>[.int .i64 (i:Nat)]) (λi w'=>i≤u.ss.length∧StX noX w r w' _) (λi=>u.ss.length-i) 0 rfl ⟨gzl _,S⟩ ?_
 clear S
 rintro i d w2 ⟨hi,S⟩ K6 hK6
 rw[gdz]
 refine gg_ ?_
 refine zh (λhlt=>?_) (λhge=>?_)
 ·have hlt:i<u.ss.length:=by omega
  obtain⟨b,off,q,capq,rfl,hcell,_,_,_⟩:=j8 hst hlt
  refine gg_ ?_
  refine zi (by rw[tnc];exact S.at hcell) ?_
  refine gg_ ?_
  refine c_b (λ_=>h _ _ S.ext) (λ_=>?_)
  refine gg_ ?_
  rw[show ((i:Int)+1)=((i+1:Nat):Int)by omega]
  exact hK6 (i+1) _ ⟨hlt,S⟩ (by omega)
 refine zj (ι:=Nat×Int) (λi=>[.int .i64 i.2,.int .i64 (i.1:Nat)]) (λi w'=>i.1≤u.fs.length∧StX noX w r w' _) (λi=>u.fs.length-i.1) (0,0) rfl ⟨gzl _,S⟩ ?_
 clear S hK6 K6 hge hi
 rintro⟨i,n⟩ d w3 ⟨hi,S⟩ K7 hK7
 simp only at hi S⊢
 simp only[gdz,gds]
 refine gg_ ?_
 refine zh (λhlt=>?_) (λhge=>h _ _ S.ext)
 have hlt:i<u.fs.length:=by omega
 obtain⟨bf,of,cf,rfl,hcf,hgc,hfo⟩:=hfn.sl.get (by decide) hlt
 generalize u.fs[i]=g at hgc
 obtain⟨vo,vt,vn,vp,rfl,h1,h2,h3,h4⟩:=id hgc
 obtain⟨qt,capt,rfl,_,hct⟩:=h2.sl.shape
 obtain⟨qp,capp,rfl,_,_⟩:=h4.sl.shape
 have S:=S.go (Ext.drew _)
 have l4:Ob r λw=>w.cell? ⟨bf,of+i*7+4,none⟩=some (.slice qt g.tys.length capt):=hfo 4 _ rfl
 have l6:Ob r λw=>w.cell? ⟨bf,of+i*7+6,none⟩=some (.slice qp g.pts.length capp):=hfo 6 _ rfl
 refine gg_ ?_
 refine zi (by rw[tnc];exact S.at l6) ?_
 refine gg_ ?_
 refine zi (by rw[tnc];exact S.at l4) ?_
 refine gp_ ?_
 refine afc λx=>?_
 refine afc λy=>?_
 refine gg_ ?_
 refine zi (by rw[tnc];exact S.at l6) ?_
 refine gg_ ?_
 refine zq (c:=decide (300<(g.tys.length:Int))) (λ_ K2 hK2=>?_) ?_
 ·refine gg_ ?_
  refine zi (by rw[tnc];exact S.at l4) ?_
  refine gg_ ?_
  exact hK2
 refine zq (c:=decide (1200<y)) (λ_ K2 hK2=>by refine gg_ ?_;exact hK2) ?_
 refine c_b (λ_=>h _ _ S.ext) (λ_=>?_)
 refine gg_ ?_
 rw[show ((i:Int)+1)=((i+1:Nat):Int)by omega]
 exact hK7 (i+1,y) _ ⟨hlt,S⟩ (by show u.fs.length-(i+1)<u.fs.length-i;omega)
theorem acP{w:World}{K:Value→World→Prop}(h:∀v s w',Ext w w'→New w s w'→UnG s v zP→K v w'):zb Tryz.prog Tryz.ZA #[] w K:=by
 refine Tryz.abA ?_
 unfold Tryz.QA
 have S:StX noX w nothing w []:=St.start (λ_ _ h=>h.elim)
 refine S.al λb0 w1 S=>?_
 refine S.lit (e:=76) (cs:=[.int .i64 (-1)]) (by kernel_rfl) λb2 w2 S=>?_
 refine zu (cs:=#[.int .i64 2,.slice (some ⟨b2,0,none⟩) 1 1]) (by kernel_rfl) ?_
 refine S.al λb1 w3 S=>?_
 refine S.stB (b:=b1) λw4 S=>?_
 have S:=S.go (Ext.drew _)
 refine zu (cs:=#[.int .i64 2,.slice none 0 0]) (by kernel_rfl) ?_
 refine zu (cs:=#[.int .i64 1,.slice none 0 0]) (by kernel_rfl) ?_
 refine zu (cs:=hl0.toArray) (by kernel_rfl) ?_
 refine zu (cs:=#[.int .i64 1,.slice none 0 0]) (by kernel_rfl) ?_
 refine S.ldB (b:=b1) ?_ rfl
 refine zu (cs:=hl3.toArray) (by kernel_rfl) ?_
 have S:=S.drop b1
 have fin:∀{w9:World}{b7 b8 b19 b21:Nat}{q6:Option Addr}{c6:Nat}{sn:Gh}{M M1 M2 M3 M4 M5:List Asr}(S:StX noX w (nothing.or sn) w9 M)
   [jP b7 M (ZP++(ZP++tyL Qe q6 c6)) 112 M1] [jP b8 M1 [.string ByteArray.empty,.string ByteArray.empty,.string ByteArray.empty] 9 M2] [jP b2 M2 [.int .i64 (-1)] 76 M3]
   [jP b19 M3 (hl0++(hl1++(hl2 b2++hl3))) 94 M4] [jP b21 M4 [.string ByteArray.empty,.int .i64 0,.slice none 0 0,.int .i64 0,.slice (some ⟨b7,0,none⟩) 3 3,.slice (some ⟨b8,0,none⟩) 3 3,.slice (some ⟨b19,0,none⟩) 4 4] 74 M5],
   Above w sn→TyG sn (tyV Qe q6 c6) Qe→K (.agg #[.slice none 0 0,.slice (some ⟨b21,0,none⟩) 1 1,.int .i64 0]) w9:=by
  intro w9 b7 b8 b19 b21 q6 c6 sn M M1 M2 M3 M4 M5 S _ _ _ _ _ ha ht
  obtain⟨S,h7,a7⟩:=S.litNew b7 (sz:=5) (R:=TyC sn) (l:=[kg,kg,Qe]) (by exact(yI rfl ZL (yI rfl ZL (kT rfl ht)))) (by decide)
  obtain⟨S,h8,a8⟩:=S.litNew b8 (sz:=1) (R:=afS) (l:=[ByteArray.empty,ByteArray.empty,ByteArray.empty]) (by exact(yI (c:=[.string ByteArray.empty]) rfl rfl (yI (c:=[.string ByteArray.empty]) rfl rfl (kT rfl rfl)))) (by decide)
  obtain⟨S,h2,a2⟩:=S.litNew b2 (sz:=1) (R:=yN) (l:=[-1]) (by exact(kT rfl ⟨rfl,by unfold Y8;omega⟩)) (by decide)
  have hz:∀{r:Gh}{α:Type}{sz:Nat}{R:List Value→α→Prop},SlB sz r R (.slice none 0 0) ([]:List α):=yV
  obtain⟨S,h19,a19⟩:=S.litNew b19 (sz:=21) (R:=PtG (Go.Sh.one b2 [.int .i64 (-1)] 76)) (l:=[hp0,hp1,hp2,hp3])
   (by exact(yI rfl ⟨_,_,_,_,_,rfl,hz,hz,hz,hz,hz⟩ (yI rfl ⟨_,_,_,_,_,rfl,hz,hz,hz,hz,hz⟩ (yI rfl ⟨_,_,_,_,_,rfl,Zp h2,hz,hz,hz,hz⟩ (kT rfl ⟨_,_,_,_,_,rfl,hz,hz,hz,hz,hz⟩))))) (by decide)
  obtain⟨S,h21,a21⟩:=S.litNew b21 (sz:=7) (R:=GrG (((((nothing.or sn).or (Go.Sh.one b7 (ZP++(ZP++tyL Qe q6 c6)) 112)).or (Go.Sh.one b8 [.string ByteArray.empty,.string ByteArray.empty,.string ByteArray.empty] 9)).or (Go.Sh.one b2 [.int .i64 (-1)] 76)).or (Go.Sh.one b19 (hl0++(hl1++(hl2 b2++hl3))) 94))) (l:=[zJ])
   (by exact(kT rfl ⟨_,_,_,_,rfl,hz,Zp (h7.up' inferInstance λc x hx=>TyG.up hx),Zp h8.cells,Zp (h19.up' inferInstance λc x hx=>PtG.up hx)⟩)) (by decide)
  exact h _ _ _ S.ext (S.newOf (((((Above.no.or' ha).or' a7).or' a8).or' a2).or' a19 |>.or' a21)) ⟨none,0,_,rfl,λ_=>rfl,gzl _,trivial,gzl _,Zp (h21.up' inferInstance λc x hx=>GrG.up hx)⟩
 repeat' (first
  |(with_reducible refine Jz λw9 e9=>⟨e9,?_⟩;have S:=S.go e9)
  |(with_reducible refine ac8 λw9 e9=>⟨e9,?_⟩;have S:=S.go e9)
  |(with_reducible refine ac9 λq6 c6 sn w9 e9 n9 t9=>⟨e9,?_⟩;obtain⟨S,d9,a9⟩:=S.tell e9 n9)
  |(with_reducible refine S.litU (t:=70) (e:=112) (cs:=ZP++(ZP++tyL Qe q6 c6)) (by kernel_rfl) λb7 w9 S=>?_)
  |(with_reducible refine S.mkSU (by decide) (by decide) λb8 w9 S=>?_)
  |(with_reducible refine zu (t:=94) (parts:=#[(0,.int .u8 1),(1,.agg #[.int .i64 1,.slice none 0 0]),(2,ahE 2),(10,.int .i64 2)]) (cs:=hl1.toArray) (by kernel_rfl) ?_)
  |(with_reducible refine zu (t:=94) (cs:=(hl2 b2).toArray) (by kernel_rfl) ?_)
  |(with_reducible refine S.lit (t:=72) (e:=94) (cs:=hl0++(hl1++(hl2 b2++hl3))) (by kernel_rfl) λb19 w9 S=>?_)
  |(with_reducible refine zu (t:=74) (cs:=#[.string ByteArray.empty,.int .i64 0,.slice none 0 0,.int .i64 0,.slice (some ⟨b7,0,none⟩) 3 3,.slice (some ⟨b8,0,none⟩) 3 3,.slice (some ⟨b19,0,none⟩) 4 4]) (by kernel_rfl) ?_)
  |(with_reducible refine S.lit (t:=23) (e:=74) (cs:=[.string ByteArray.empty,.int .i64 0,.slice none 0 0,.int .i64 0,.slice (some ⟨b7,0,none⟩) 3 3,.slice (some ⟨b8,0,none⟩) 3 3,.slice (some ⟨b19,0,none⟩) 4 4]) (by kernel_rfl) λb21 w9 S=>?_)
  |(with_reducible refine zu (t:=25) (cs:=#[.slice none 0 0,.slice (some ⟨b21,0,none⟩) 1 1,.int .i64 0]) (by kernel_rfl) ?_)
  |(with_reducible refine And.intro ?_ ?_)
  |(refine S.stB (b:=b0) λw9 S=>?_;refine S.ceB (b:=b0) ?_ rfl;exact fin (b7:=b7) (b8:=b8) (b19:=b19) (b21:=b21) S a9 t9)
)
theorem VZ:FnM zP 0 zJ:=fnM (ack (q:=3) (by decide)) rfl
theorem V0:heldW zP.ss zJ.tys ⟨2,[-1]⟩=plD 2:=by
 have hw:zG zP.ss [-1] zJ.tys[(2:Nat)]=some (kg,[2]):=by kernel_rfl
 have :zO zP.ss zJ.tys ⟨2,[-1]⟩=some (kg,[2]):=by
  rw[jW (p:=⟨2,[-1]⟩) VZ.may.ok VZ.fine (by decide) (by decide)]
  exact hw
 unfold heldW
 rw[this];rfl
theorem afy{n:Int}:heldW zP.ss zJ.tys (plD n)=plD n:=jf rfl
abbrev P3:List PlD:=[plD 0,plD 1,plD 2]
theorem xA:zg zP zJ=P3:=by
 have e:locsL zJ.tys.length++zJ.pts.flatMap xq=[plD 0,plD 1,plD 2,plD 1,plD 2,plD 1,⟨2,[-1]⟩]:=by kernel_rfl
 rw[zg,e,addL]
 simp only[List.flatMap_cons,List.flatMap_nil,afy,V0]
 rfl
theorem QB{q:Int}(h:q<4):ofE zP 0 q=0:=by
 rw[ofE,ack h,if_neg (by decide)]
 show(if 256<(zg zP zJ).length then(5:Int)else 0)=0
 rw[xA];decide
theorem V1{q:Int}(h0:0≤q)(h:q<4):mvE zP 0 q=0:=by rw[mvE,if_neg (by omega),QB h]
theorem ahX:wholeP zP zJ (plD 1)=true:=by rw[wholeP,afy];simp
theorem ahY:wholeP zP zJ ⟨2,[-1]⟩=false:=by rw[wholeP,V0];rfl
theorem ahZ:risI 3 (xv zP zJ P3 hp1).1=[]:=by
 rw[jh (g:=zB) λi hi=>by
  rw[aaH.1,show Zo hp1=[]from by kernel_rfl,List.any_nil,Bool.and_false];rfl]
 rfl
theorem acQ{i:Nat}:(xv zP zJ P3 hp1).2 i=prefP (plD 1) (pthAt P3 i):=by
 rw[aaH.2,Yj,show hp1.to=plD 1 from rfl,ahX];rfl
theorem ah0:risI 3 (xv zP zJ P3 hp1).2=[1]:=by
 rw[jh λi _=>acQ];kernel_rfl
theorem acR:abI hp2=[(⟨2,[-1]⟩,true,false)]:=by kernel_rfl
theorem ah1:risI 3 (yA zP zJ P3 hp2).all=[2]:=by
 rw[jh (g:=λi=>prefP (pthAt P3 i) (plD 2)) λi _=>by
  rw[J9,acR,List.any_cons,List.any_nil,Bool.or_false]
  show useF zP zJ P3 ⟨2,[-1]⟩ true i=_
  rw[useF,ahY,V0];simp]
 kernel_rfl
theorem ah2:risI 3 (yA zP zJ P3 hp2).again=[]:=by
 rw[jh (g:=zB) λi _=>by
  rw[yA,acR]
  show(zB i||(useF zP zJ P3 ⟨2,[-1]⟩ true i&&zB i))=_
  simp[zB]]
 rfl
theorem aix:risI 3 (aei zP zJ P3 hp1 (YA [0,1]))=[0]:=by
 rw[jh (g:=λi=>YA [0,1] i && !prefP (plD 1) (pthAt P3 i)) λi _=>by
  rw[aei,acQ,aaH.1,show Zo hp1=[]from by kernel_rfl,List.any_nil,Bool.and_false,Bool.or_false]]
 kernel_rfl
theorem agr:Xp zP zJ ⟨2,[-1]⟩=some 2:=by
 have hw:zG zP.ss [-1] zJ.tys[(2:Nat)]=some (kg,[2]):=by kernel_rfl
 have :zO zP.ss zJ.tys ⟨2,[-1]⟩=some (kg,[2]):=by
  rw[jW (p:=⟨2,[-1]⟩) VZ.may.ok VZ.fine (by decide) (by decide)]
  exact hw
 have ha:j0 P3:=by rw[← xA];exact aaJ
 rw[Xp,this,if_pos (show(some (kg,[(2:Int)])).isSome=true from rfl),V0,xA]
 exact Qx (i:=2) ha (by decide) rfl
theorem XE{w:World}{r:Gh}{K:Value→World→Prop}(hr:Holds r w)(h:∀w',Ext w w'→K (.bool true) w'):zb Tryz.prog Tryz.xy #[] w K:=by
 refine Tryz.aaK ?_
 unfold Tryz.XD
 have S:=St.start hr
 refine acP λv2 s2 w2 e2 n2 hu=>?_
 obtain⟨S,_,_⟩:=S.tell e2 n2
 refine S.al λb1 w3 S=>?_
 obtain⟨p0,cap0,vf,rfl,_,_,_,_,hfn⟩:=id hu
 obtain⟨qf,capf,rfl,_,_⟩:=hfn.sl.shape
 refine S.stB (b:=b1) λw4 S=>?_
 have S:StX noX w (r.or s2) w4 [.cell b1 [.slice p0 0 cap0,.slice qf 1 capf,.int .i64 0] 25]:=S
 have hu:UnG (r.or s2) (.agg #[.slice p0 0 cap0,.slice qf 1 capf,.int .i64 0]) zP:=UnG.up hu
 generalize r.or s2=ρ at S hu
 have hF:∀g,FnM zP 0 g→g=zJ:=λg F=>Option.some.inj (F.at'.symm.trans rfl)
 refine S.ldB (b:=b1) ?_ rfl
 refine Qy S.holds hu (λe _ he hh=>absurd (hh.symm.trans (QB (by decide))) he) λg v3 s3 w3' _ F _ e3 n3 h3=>?_
 obtain rfl:=hF g F
 rw[xA]at h3
 obtain⟨q3,c3,rfl,_,_⟩:=h3.shape
 obtain⟨S,_,_⟩:=S.tell e3 n3
 refine gp_ ?_
 refine gp_ ?_
 refine S.ldB (b:=b1) ?_ rfl
 refine S.lit (e:=76) (cs:=[.int .i64 (-1)]) (by kernel_rfl) λb2 w5 S=>?_
 obtain⟨S,h2,_⟩:=StX.litNew S b2 (sz:=1) (R:=yN) (l:=[-1]) (by exact(kT rfl ⟨rfl,by unfold Y8;omega⟩)) (by decide)
 refine zu (cs:=#[.int .i64 2,.slice (some ⟨b2,0,none⟩) 1 1]) (by kernel_rfl) ?_
 have hpl:PlG ((ρ.or s3).or (Go.Sh.one b2 [.int .i64 (-1)] 76)) [.int .i64 2,.slice (some ⟨b2,0,none⟩) 1 1] ⟨2,[-1]⟩:=PlG.up (r:=Go.Sh.one b2 [.int .i64 (-1)] 76) ⟨_,rfl,(Zp h2 (by decide):SlB 1 (Go.Sh.one b2 [.int .i64 (-1)] 76) yN (.slice (some ⟨b2,0,none⟩) 1 1) [-1])⟩
 have hu:UnG ((ρ.or s3).or (Go.Sh.one b2 [.int .i64 (-1)] 76)) (.agg #[.slice p0 0 cap0,.slice qf 1 capf,.int .i64 0]) zP:=UnG.up hu
 generalize (ρ.or s3).or (Go.Sh.one b2 [.int .i64 (-1)] 76)=κ at S hpl hu
 refine Ju S.holds hu hpl (by decide) (λe _ he hh=>absurd (hh.symm.trans (QB (by decide))) he) λg w6 _ F _ e6=>?_
 obtain rfl:=hF g F
 have S:=S.go e6
 rw[agr]
 refine gp_ ?_
 refine gp_ ?_
 refine S.ldB (b:=b1) ?_ rfl
 refine Qw S.holds hu (λe _ he hh=>hh.elim (λhh=>absurd (hh.symm.trans (QB (by decide))) he) λhh=>by
  have:=hh.2 zJ VZ
  rw[xA]at this
  have h3:P3.length=3:=rfl
  rw[h3]at this
  omega) λg v7 s7 w7 _ F _ _ e7 n7 h7=>?_
 obtain rfl:=hF g F
 rw[xA,show risI P3.length (yX P3 (pthAt P3 (1:Int).toNat) true zB)=[1]from by kernel_rfl]at h7
 obtain⟨q7,c7,rfl,_,_⟩:=h7.shape
 obtain⟨S,_,_⟩:=S.tell e7 n7
 refine gp_ ?_
 refine gp_ ?_
 refine S.ldB (b:=b1) ?_ rfl
 refine acI S.holds (UnG.up hu) (λe _ he hh=>absurd (hh.symm.trans (QB (by decide))) he) λg v8 s8 w8 _ F e8 n8 h8=>?_
 obtain rfl:=hF g F
 rw[xA,show risI P3.length (stF P3 (stM zJ zJ.tys.length))=[0,1,2]from by kernel_rfl]at h8
 obtain⟨q8,c8,rfl,_,_⟩:=h8.shape
 obtain⟨S,_,_⟩:=S.tell e8 n8
 refine gp_ ?_
 refine gp_ ?_
 refine S.ldB (b:=b1) ?_ rfl
 refine ac6 S.holds (UnG.up (UnG.up (s:=κ.or s7) hu)) (λe _ he hh=>absurd (hh.symm.trans (V1 (by decide) (by decide))) he) λg v9 v10 s9 w9 _ F _ hq _ e9 n9 h9 h10=>?_
 obtain rfl:=hF g F
 have e1:zJ.pts[(1:Int).toNat]=hp1:=rfl
 rw[xA,e1]at h9 h10
 rw[show P3.length=3 from rfl]at h9 h10
 rw[ahZ]at h9
 rw[ah0]at h10
 obtain⟨q9,c9,rfl,_,_⟩:=h9.shape
 obtain⟨q10,c10,rfl,_,_⟩:=h10.shape
 obtain⟨S,_,_⟩:=S.tell e9 n9
 refine gp_ ?_
 refine gp_ ?_
 refine gp_ ?_
 refine S.ldB (b:=b1) ?_ rfl
 have hu:UnG (((κ.or s7).or s8).or s9) (.agg #[.slice p0 0 cap0,.slice qf 1 capf,.int .i64 0]) zP:=UnG.up (UnG.up (s:=(κ.or s7).or s8) (UnG.up (s:=κ.or s7) hu))
 refine Jt S.holds hu (λe _ he hh=>absurd (hh.symm.trans (V1 (by decide) (by decide))) he) λg v11 s11 w11 _ F _ hq _ e11 n11 h11=>?_
 obtain rfl:=hF g F
 have e2:zJ.pts[(2:Int).toNat]=hp2:=rfl
 rw[xA,e2]at h11
 rw[show P3.length=3 from rfl,ah1]at h11
 obtain⟨q11,c11,rfl,_,_⟩:=h11.shape
 obtain⟨S,_,_⟩:=S.tell e11 n11
 refine gp_ ?_
 refine gp_ ?_
 refine S.ldB (b:=b1) ?_ rfl
 refine acJ S.holds (UnG.up hu) (λe _ he hh=>absurd (hh.symm.trans (V1 (by decide) (by decide))) he) λg w12 _ F _ hq _ e12=>?_
 obtain rfl:=hF g F
 rw[xA,e2,show P3.length=3 from rfl,VV,ah2]
 have S:=S.go e12
 refine gp_ ?_
 refine gp_ ?_
 refine gp_ ?_
 refine S.ldB (b:=b1) ?_ rfl
 refine S.lit (e:=3) (cs:=[.int .i64 0,.int .i64 1]) (by kernel_rfl) λb13 w13 S=>?_
 obtain⟨S,h13,_⟩:=StX.litNew S b13 (sz:=1) (R:=kB) (l:=[0,1]) (by exact Jn (l:=[0,1])) (by decide)
 refine aby S.holds (UnG.up (UnG.up (s:=(((κ.or s7).or s8).or s9).or s11) hu)) (h13.up' inferInstance λ_ _ h=>h) (by decide) (λe _ he hh=>absurd (hh.symm.trans (V1 (by decide) (by decide))) he) (λg w' _ F hbad=>?_) λg v14 s14 w14 _ F _ hq _ _ e14 n14 h14=>?_
 ·obtain rfl:=hF g F
  rw[xA]at hbad
  exact absurd ⟨by decide,by decide⟩ hbad
 obtain rfl:=hF g F
 rw[xA,e1]at h14
 rw[show P3.length=3 from rfl,aix]at h14
 obtain⟨q14,c14,rfl,_,_⟩:=h14.shape
 obtain⟨S,_,_⟩:=S.tell e14 n14
 refine gp_ ?_
 refine gp_ ?_
 refine gp_ ?_
 iterate 11 refine zo (c:=true) (λ_ K2 hK2=>by refine gg_ ?_;exact hK2) ?_
 refine zo (c:=true) (λ_ K2 hK2=>?_) ?_
 ·obtain⟨bo,oo,hE,_,hc⟩:=kx h11 (i:=0) (by decide)
  cases hE
  refine s_c (by decide) ?_
  refine zi (S.at hc) ?_
  refine gg_ ?_
  exact hK2
 iterate 4 refine zo (c:=true) (λ_ K2 hK2=>by refine gg_ ?_;exact hK2) ?_
 refine zo (c:=true) (λ_ K2 hK2=>?_) ?_
 ·obtain⟨bo,oo,hE,_,hc⟩:=kx h14 (i:=0) (by decide)
  cases hE
  refine s_c (by decide) ?_
  refine zi (S.at hc) ?_
  refine gg_ ?_
  exact hK2
 refine zo (c:=true) (λ_ K2 hK2=>by refine gg_ ?_;exact hK2) ?_
 exact h _ S.ext
theorem V2{l:List Int}{x:Int}{v:Value}{w:World}{r:Gh}{K:Value→World→Prop}(hr:Holds r w)(hl:SlG 1 r kB v l)(hf:l.length≤1000000)
  (h:K (.bool (decide (x∈l))) w):zb Tryz.prog Tryz.Zh #[v,.int .i64 x] w K:=by
 refine Tryz.ac7 ?_
 unfold Tryz.VY
 obtain⟨p,cap,rfl,_,_⟩:=hl.shape
 refine zj (ι:=Nat) (λi=>[.int .i64 (i:Nat)]) (λi w'=>w'=w∧i≤l.length∧x∉l.take i) (λi=>l.length-i) 0 rfl ⟨rfl,gzl _,by simp⟩ ?_
 rintro i d w' ⟨rfl,hi,hn⟩ K1 hK1
 simp only[gdz]
 refine gg_ ?_
 refine zh (λhlt=>?_) (λhge=>?_)
 ·have hlt:i<l.length:=by omega
  obtain⟨b,off,rfl,_,hc⟩:=kx hl hlt
  refine gg_ ?_
  refine zi (by rw[tnc];exact hc _ hr) ?_
  refine gg_ ?_
  refine zh (λhe=>?_) (λhe=>?_)
  ·rw[gde (by rw[← he];exact gem hlt)]at h
   exact h
  ·refine gg_ ?_
   refine hK1 (i+1) _ ⟨rfl,hlt,?_⟩ (by omega)
   rw[List.take_succ_eq_append_getElem hlt,List.mem_append,List.mem_singleton]
   exactλh=>h.elim hn λe=>he e.symm
 ·have :i=l.length:=by omega
  subst this
  rw[List.take_length]at hn
  rw[decide_eq_false hn]at h
  exact h
section
variable {u:UnD} {fn q:Int} {g:GrD}
theorem ag6{x p:PlD}(h:x∈qu p):prefP x p=true:=by
 obtain⟨n,hn,rfl⟩:=List.mem_map.1 h
 rw[ky]
 refine⟨rfl,?_⟩
 show p.ps.take n=p.ps.take (p.ps.take n).length
 rw[List.length_take]
 have:=List.mem_range.1 hn
 rw[Nat.min_eq_left (by omega)]
theorem ags{p:PlD}:p∈qu p:=List.mem_map.2 ⟨p.ps.length,List.mem_range.2 (Nat.lt_succ_self _),by rw[jX,List.take_length]⟩
theorem adE{x:PlD}:x∈zg u g↔∃y∈locsL g.tys.length++g.pts.flatMap xq,x∈qu (heldW u.ss g.tys y):=by
 rw[zg,adt,addL,List.mem_flatMap]
theorem FnM.all(F:FnM u fn g):∀y∈locsL g.tys.length++g.pts.flatMap xq,OkP u g y:=λy hy=>by
 rcases List.mem_append.1 hy with hy|hy
 ·obtain⟨i,_,rfl⟩:=List.mem_map.1 hy
  exact .inl rfl
 ·obtain⟨p,hp,hy⟩:=List.mem_flatMap.1 hy
  exact F.pls hp y hy
theorem ah3{i:Nat}(h:i<(zg u g).length):pthAt (zg u g) i∈zg u g:=by
 rw[qd h];exact gem h
theorem aeo(F:FnM u fn g){p:PtD}(hp:p∈g.pts){o:OpD}(ho:o∈zk p){i:Nat}(hi:i<(zg u g).length)(h:prefP (heldW u.ss g.tys o.pl) (pthAt (zg u g) i)=true):(yA u g (zg u g) p).all i=true:=by
 rw[J9,List.any_eq_true]
 refine⟨(o.pl,false,decide (o.k=4)),List.mem_append_left _ (List.mem_map.2 ⟨o,ho,rfl⟩),?_⟩
 show useF u g (zg u g) o.pl false i=true
 rw[useF,Bool.false_and,Bool.not_false,Bool.and_true,Bool.true_and]
 cases hw:wholeP u g o.pl with
 |true=>rw [Va hw]at h;rw[h];simp
 |false=>
  obtain⟨y,hy,hx⟩:=adE.1 (ah3 hi)
  have hok:=F.pls hp o.pl (List.mem_append_left _ (List.mem_map_of_mem ho))
  have:=ago F.may.ok F.fine hok (F.all y hy) hw (ag6 hx) h
  rw[this,acD];rfl
theorem ag7(F:FnM u fn g){p:PtD}(hp:p∈g.pts){o:OpD}(ho:o∈zk p):∃n,∃hn:n<(zg u g).length,Xp u g o.pl=some n∧(zg u g)[n]=heldW u.ss g.tys o.pl:=by
 have h1:(zO u.ss g.tys o.pl).isSome=true:=by rw[← Zn F.may.ok F.fine];exact F.oper hp ho
 have h2:heldW u.ss g.tys o.pl∈zg u g:=adE.2 ⟨o.pl,List.mem_append_right _ (List.mem_flatMap.2 ⟨p,hp,List.mem_append_left _ (List.mem_map_of_mem ho)⟩),ags⟩
 obtain⟨n,hn,he⟩:=List.getElem_of_mem h2
 exact⟨n,hn,by rw[Xp,if_pos h1];exact Qx aaJ hn he,he⟩
theorem afz(h:mvE u fn q=0):isU u fn q=true∧ofE u fn q=0:=by
 rw[mvE]at h
 split at h
 ·cases h
 ·refine⟨?_,h⟩
  cases hb:isU u fn q with
  |true=>rfl
  |false=>rw [ofE,hb,if_pos rfl]at h;cases h
theorem ah4(h:mvE u fn q=0):ofE u fn (-1)=0:=by
 obtain⟨h2,h3⟩:=afz h
 have hi:isU u fn (-1)=true:=by
  obtain⟨_,_,hlt,_,_⟩:=ZO h2
  simp only[isU,gba,gdt]at h2⊢
  refine⟨h2.1,h2.2.1,?_⟩
  rw[gqg hlt]
  show(-1:Int)<((u.fs[fn.toNat].pts.length:Nat):Int)
  omega
 rw[ofE,h2,if_neg (by decide)]at h3
 rw[ofE,hi,if_neg (by decide)]
 exact h3
theorem ah5(h:mvE u fn q=0)(F:FnM u fn g)(hq0:0≤q)(hq:q.toNat<g.pts.length):Qh u fn q=(opersG g.pts[q.toNat],0):=by
 obtain⟨h2,_⟩:=afz h
 have h1:fnE u fn=0:=by
  obtain⟨hM,h0,hlt,_,_⟩:=ZO h2
  rw[fnE,Xd.2 hM,decide_eq_false (show¬fn<0 by omega),decide_eq_false (show¬(u.fs.length:Int)≤fn by omega)];rfl
 have h3:ptE u fn q=0:=by
  rw[ptE,if_pos]
  refine⟨h1,hq0,?_⟩
  rw[F.at']
  show q<((g.pts.length:Nat):Int)
  omega
 rw[Qh,if_neg (by omega),Qd,F.at',Option.bind_some,gqg hq]
theorem afA{p:PtD}{o:OpD}(ho:o∈opersG p)(hk:o.k=4):o∈zk p:=by
 rw[opersG,List.mem_filter]at ho
 rw[zk,List.mem_filter,k8,hk]
 exact⟨ho.1,rfl⟩
end
theorem Vb{u:UnD}{fn q:Int}{v:Value}{w:World}{r:Gh}{K:Value→World→Prop}(hr:Holds r w)(hu:UnG r v u)(h:∀w',Ext w w'→K (.bool true) w'):zb Tryz.prog Tryz.Zy #[v,.int .i64 fn,.int .i64 q] w K:=by
 refine Tryz.Q6 ?_
 unfold Tryz.ZV
 have hu0:=hu
 obtain⟨p0,cap0,vf,rfl,_,_,hst,hsl,hfn⟩:=hu
 obtain⟨qf,capf,rfl,_,_⟩:=hfn.sl.shape
 have S:=St.start hr
 refine S.box λb3 w1 S=>?_
 have S:StX noX w r w1 [.cell b3 [.slice p0 u.ss.length cap0,.slice qf u.fs.length capf,.int .i64 u.mn] 25]:=S
 have awk:∀{r':Gh}{w':World}{L:List Asr},StX noX w r' w' L→zb Tryz.prog Tryz.xy #[] w' λt w''=>K t w'':=λS=>XE S.holds λw'' e=>h _ (S.go e).ext
 refine S.ldB (b:=b3) ?_ rfl
 refine acO S.holds hu0 λy w2 e2=>?_
 have S:=S.go e2
 refine gp_ ?_
 refine c_b (λhy=>?_) (λhy=>?_)
 ·exact awk S
 refine S.ldB (b:=b3) ?_ rfl
 refine Jt S.holds hu0 (λe w4 he _ e4=>?_) λg v1 s1 w4 hof F hq0 hq hb e4 n4 hl=>?_
 ·have S:=S.go e4
  refine gp_ ?_
  refine gp_ ?_
  refine gp_ ?_
  refine c_t (by simp[he]) ?_
  refine gp_ ?_
  refine gp_ ?_
  refine zU (c:=true) (λ_ K5 hK5=>XE S.holds λw9 e9=>hK5 w9 e9) λw9 e9=>?_
  exact h _ (S.go e9).ext
 obtain⟨S,_,a4⟩:=S.tell e4 n4
 have hlf:(risI (zg u g).length (yA u g (zg u g) g.pts[q.toNat]).all).length≤1000000:=by
  have:=adx (n:=(zg u g).length) (f:=(yA u g (zg u g) g.pts[q.toNat]).all)
  omega
 have hin:∀i:Nat,i<(zg u g).length→(yA u g (zg u g) g.pts[q.toNat]).all i=true→((i:Nat):Int)∈risI (zg u g).length (yA u g (zg u g) g.pts[q.toNat]).all:=λi hi h=>QP.2 ⟨i,rfl,hi,h⟩
 have hout:∀x:Int,x∈risI (zg u g).length (yA u g (zg u g) g.pts[q.toNat]).all→∃i:Nat,x=i∧i<(zg u g).length∧(yA u g (zg u g) g.pts[q.toNat]).all i=true:=λx hx=>QP.1 hx
 obtain⟨ql,cl,rfl,_,_⟩:=hl.shape
 have hof1:=ah4 hof
 have hgop:=ah5 hof F hq0 hq
 have hpm:=gem hq
 generalize g.pts[q.toNat]=p at *
 have hFg:∀g',FnM u fn g'→g=g':=λg' F'=>Option.some.inj (F.at'.symm.trans F'.at')
 have hup:=λi k h hk=>ag2 (u:=u) (g:=g) (ps:=zg u g) (p:=p) (i:=i) (k:=k) h hk
 have hmv:=λo ho i hi h=>aeo F hpm (o:=o) ho (i:=i) hi h
 generalize (yA u g (zg u g) p).all=us at *
 generalize hl0:risI (zg u g).length us=l at *
 refine gp_ ?_
 refine gp_ ?_
 refine gp_ ?_
 refine c_f (by decide) ?_
 refine S.ldB (b:=b3) ?_ rfl
 refine Qy S.holds (UnG.up hu0) (λe _ he hh=>absurd (hh.symm.trans hof1) he) λg' v2 s2 w10 _ F' _ e10 n10 hps=>?_
 obtain rfl:=hFg g' F'
 obtain⟨S,_,a10⟩:=S.tell e10 n10
 obtain⟨qp,cp,rfl,_,_⟩:=hps.shape
 refine gp_ ?_
 refine gp_ ?_
 refine S.ldB (b:=b3) ?_ rfl
 refine JV S.holds (UnG.up (UnG.up (s:=r.or s1) hu0)) λv3 s3 w11 e11 n11 hop=>?_
 rw[hgop]at hop⊢
 obtain⟨S,_,a11⟩:=S.tell e11 n11
 simp only at hop
 obtain⟨qo,co,rfl,_,hco⟩:=hop.shape
 have huS:UnG (((r.or s1).or s2).or s3) (.agg #[.slice p0 u.ss.length cap0,.slice qf u.fs.length capf,.int .i64 u.mn]) u:=UnG.up (UnG.up (s:=(r.or s1).or s2) (UnG.up (s:=r.or s1) hu0))
 have hl:SlG 1 (((r.or s1).or s2).or s3) kB (.slice ql l.length cl) l:=hl.up' inferInstance λ_ _ h=>h
 have hps:SlG 2 (((r.or s1).or s2).or s3) (PlG (((r.or s1).or s2).or s3)) (.slice qp (zg u g).length cp) (zg u g):=hps.up' inferInstance λ_ _ h=>PlG.up h
 have hop:SlG 4 (((r.or s1).or s2).or s3) (OpG (((r.or s1).or s2).or s3)) (.slice qo (opersG p).length co) (opersG p):=hop.up' inferInstance λ_ _ h=>OpG.up h
 generalize ((r.or s1).or s2).or s3=ρ at S huS hl hps hop
 clear n4 e4 e2 e10 n10 e11 n11 a4 a10 a11
 refine gp_ ?_
 refine gp_ ?_
 refine gp_ ?_
 refine zq (c:=false) (λ_ K2 hK2=>by refine gg_ ?_;exact hK2) ?_
 refine c_f (by decide) ?_
 have hpl:(zg u g).length≤256:=hb
 have hol:(opersG p).length≤1000000:=by
  have h1:=List.length_filter_le yk (p.a::p.b::p.args)
  have h2:=jU F.may (F.pts p hpm)
  change (opersG p).length≤_ at h1
  simp only[List.length_cons]at h1
  omega
 refine zj (ι:=Nat) (λi=>[.int .i64 (i:Nat)]) (λi w'=>i≤(opersG p).length∧StX noX w ρ w' [.cell b3 [.slice p0 u.ss.length cap0,.slice qf u.fs.length capf,.int .i64 u.mn] 25]) (λi=>(opersG p).length-i) 0 rfl ⟨gzl _,S⟩ ?_
 clear S
 rintro i d5 w5 ⟨hi,S⟩ K16 hK16
 rw[gdz]
 refine gp_ ?_
 refine gp_ ?_
 refine zh (λhlt=>?_) (λhge=>?_)
 ·have hlt:i<(opersG p).length:=by omega
  refine zs (λy w'=>y=[]∧StX noX w ρ w' [.cell b3 [.slice p0 u.ss.length cap0,.slice qf u.fs.length capf,.int .i64 u.mn] 25]) (λK20 hK20=>?_) ?_
  rotate_left
  ·clear S
   rintro _ w6 ⟨rfl,S⟩ d6
   refine gp_ ?_
   rw[show ((i:Int)+1)=((i+1:Nat):Int)by omega]
   exact hK16 (i+1) _ ⟨hlt,S⟩ (by omega)
  clear hK16
  obtain⟨bo,oo,cc,hoE,hcc,hoc,hoo⟩:=hop.get (by decide) hlt
  cases hoE
  have hom:=gem hlt
  generalize (opersG p)[i]=o at *
  obtain⟨qq,ko,rfl⟩:=je hoc
  obtain⟨_,hoE,hopl⟩:=id hoc
  cases hoE
  refine gp_ ?_
  refine gp_ ?_
  refine zi (v:=.int .u8 o.k) (by simpa using S.at (hoo 0 _ rfl)) ?_
  refine gp_ ?_
  refine zh (λhk=>?_) (λhk=>?_)
  ·exact hK20 _ _ ⟨rfl,S⟩
  have hk:o.k=4:=by simpa using hk
  have hoM:=afA hom hk
  obtain⟨n,hn,hpe,hpn⟩:=ag7 F hpm hoM
  have S:=S.go (Ext.drew _)
  refine S.ldB (b:=b3) ?_ rfl
  refine gp_ ?_
  refine gp_ ?_
  refine zt (n:=2) (c:=[.int .i64 o.pl.l,.slice qq o.pl.ps.length ko]) rfl (λj v hj=>by
   have hj2:j<2:=(List.getElem?_eq_some_iff.1 hj).1
   have:=S.at (hoo (2+j) v (by rw[← hj];rcases(show j=0∨j=1 by omega)with rfl|rfl<;>rfl))
   rw[← Nat.add_assoc]at this
   simpa using this) ?_
  have hplG:PlG ρ [.int .i64 o.pl.l,.slice qq o.pl.ps.length ko] o.pl:=⟨_,rfl,hopl⟩
  have hop8:=(F.pls hpm o.pl (List.mem_append_left _ (List.mem_map_of_mem hoM))).few
  refine Ju S.holds huS hplG (by omega) (λe _ he hh=>absurd (hh.symm.trans hof1) he) λg' w6 _ F' _ e6=>?_
  obtain rfl:=hFg g' F'
  have S:=S.go e6
  rw[hpe]
  refine gp_ ?_
  refine gp_ ?_
  refine gp_ ?_
  refine c_f rfl ?_
  refine S.ldB (b:=b3) ?_ rfl
  refine Qw S.holds huS (λe _ he hh=>hh.elim (λhh=>absurd (hh.symm.trans hof1) he) λhh=>by
   have:=hh.2 g F
   simp only[Option.getD_some]at this
   omega) λg' v7 s7 w7 _ F' _ _ e7 n7 h7=>?_
  obtain rfl:=hFg g' F'
  obtain⟨S,_,_⟩:=S.tell e7 n7
  simp only[Option.getD_some,tnc]at h7
  have hbe:∀x∈risI (zg u g).length (yX (zg u g) (pthAt (zg u g) n) true zB),x∈l:=λx hx=>by
   obtain⟨k,rfl,hk,hkl⟩:=QP.1 hx
   have hpre:prefP (pthAt (zg u g) n) (pthAt (zg u g) k)=true:=by
    unfold yX at hkl
    split at hkl
    ·assumption
    ·cases hkl
   rw[qd hn,hpn]at hpre
   exact hin k hk (hmv o hoM k hk hpre)
  have hbl:=adx (n:=(zg u g).length) (f:=yX (zg u g) (pthAt (zg u g) n) true zB)
  generalize risI (zg u g).length (yX (zg u g) (pthAt (zg u g) n) true zB)=m at *
  obtain⟨q7,c7,rfl,_,_⟩:=h7.shape
  refine gp_ ?_
  refine gp_ ?_
  refine gp_ ?_
  refine c_f (by decide) ?_
  refine zj (ι:=Nat) (λi=>[.int .i64 (i:Nat)]) (λi w'=>i≤m.length∧StX noX w (ρ.or s7) w' [.cell b3 [.slice p0 u.ss.length cap0,.slice qf u.fs.length capf,.int .i64 u.mn] 25]) (λi=>m.length-i) 0 rfl ⟨gzl _,S⟩ ?_
  clear S
  rintro j d8 w8 ⟨hj,S⟩ K26 hK26
  rw[gdz]
  refine gp_ ?_
  refine gp_ ?_
  refine zh (λhlt2=>?_) (λhge2=>?_)
  ·have hlt2:j<m.length:=by omega
   obtain⟨bm,om,hmE,_,hmc⟩:=kx h7 hlt2
   cases hmE
   refine gp_ ?_
   refine zi (v:=.int .i64 m[j]) (S.at hmc) ?_
   refine V2 S.holds (hl.up' inferInstance λ_ _ h=>h) hlf ?_
   rw[gde (hbe _ (gem hlt2))]
   refine gp_ ?_
   refine c_f rfl ?_
   refine gp_ ?_
   rw[show ((j:Int)+1)=((j+1:Nat):Int)by omega]
   exact hK26 (j+1) _ ⟨hlt2,S⟩ (by omega)
  ·exact hK20 _ _ ⟨rfl,S.to ρ⟩
 clear hK16 K16
 refine zj (ι:=Nat) (λi=>[.int .i64 (i:Nat)]) (λi w'=>i≤l.length∧StX noX w ρ w' [.cell b3 [.slice p0 u.ss.length cap0,.slice qf u.fs.length capf,.int .i64 u.mn] 25]) (λi=>l.length-i) 0 rfl ⟨gzl _,S⟩ ?_
 clear S
 rintro j d8 w8 ⟨hj,S⟩ K31 hK31
 rw[gdz]
 refine gp_ ?_
 refine gp_ ?_
 refine zh (λhlt=>?_) (λhge=>?_)
 rotate_left
 ·exact awk S
 have hlt:j<l.length:=by omega
 obtain⟨i0,hi0,hi1,hi2⟩:=hout _ (gem hlt)
 obtain⟨bm,om,hmE,_,hmc⟩:=kx hl hlt
 cases hmE
 refine zj (ι:=Nat) (λi=>[.int .i64 (i:Nat)]) (λi w'=>i≤(zg u g).length∧StX noX w ρ w' [.cell b3 [.slice p0 u.ss.length cap0,.slice qf u.fs.length capf,.int .i64 u.mn] 25]) (λi=>(zg u g).length-i) 0 rfl ⟨gzl _,S⟩ ?_
 clear S
 rintro k d9 w9 ⟨hk,S⟩ K35 hK35
 rw[gdz]
 refine gp_ ?_
 refine gp_ ?_
 refine zh (λhlt2=>?_) (λhge2=>?_)
 rotate_left
 ·refine gp_ ?_
  rw[show ((j:Int)+1)=((j+1:Nat):Int)by omega]
  exact hK31 (j+1) _ ⟨hlt,S⟩ (by omega)
 have hlt2:k<(zg u g).length:=by omega
 obtain⟨ba,oa,ca,hE1,hca,hpa,hoa⟩:=hps.get (by decide) hlt2
 cases hE1
 obtain⟨bb,ob,cb,hE2,hcb,hpb,hob⟩:=hps.get (by decide) hi1
 cases hE2
 have S:=S.go (Ext.drew _)
 refine gp_ ?_
 refine zt (n:=2) hca (λj v hj=>by simpa using S.at (hoa j v hj)) ?_
 refine gp_ ?_
 refine zi (v:=.int .i64 l[j]) (S.at hmc) ?_
 rw[hi0]
 refine gp_ ?_
 refine zt (n:=2) hcb (λj v hj=>by simpa using S.at (hob j v hj)) ?_
 refine k7 S.holds hpa hpb λw10 e10=>?_
 have S:=S.go e10
 rw[← qd hlt2,← qd hi1]
 cases hpr:prefP (pthAt (zg u g) k) (pthAt (zg u g) i0)with
 |false=>
  (intro K9 hK9;refine gd_ ?_;refine hK9 _ _ λ_=>?_;clear hK9 K9)
  refine gd_ ?_
  refine c_f rfl ?_
  refine gp_ ?_
  rw[show ((k:Int)+1)=((k+1:Nat):Int)by omega]
  exact hK35 (k+1) _ ⟨hlt2,S⟩ (by omega)
 |true=>
  refine zo (c:=false) (λ_ K2 hK2=>?_) ?_
  ·refine V2 S.holds hl hlf ?_
   rw[gde (hin k hlt2 (hup i0 k hi2 hpr))]
   refine gp_ ?_
   exact hK2
  refine c_f rfl ?_
  refine gp_ ?_
  rw[show ((k:Int)+1)=((k+1:Nat):Int)by omega]
  exact hK35 (k+1) _ ⟨hlt2,S⟩ (by omega)
end
end Go.Proofs
