/-
  Contracts and plain laws that the last text leans on.
-/
import Derived.Test.YtaadilcboiiopaaGreatQBc
import Derived.Test.YtaadilcboiiopaaGreatQBb
import GoSem.Builtin.Clear
import Derived.Lib.ItoaLen
import Derived.Shelf.Strings.Builder1
import Derived.Shelf.Strings.OnBuilder
import Derived.Shelf.Small.Wraps
import Derived.Shelf.Strconv.Itoa3
import Derived.Shelf.Strconv.Itoa4
import Derived.Shelf.Slices.CompactI
import Derived.Test.YtaadilcboiiopaaGreatProg
import Derived.KernelRfl
import Derived.Shelf.Sort.Plain
import Derived.Shelf.Bits.Mul64
import Derived.Shelf.Slices.Reverse
import Derived.Shelf.Slices.Clone
import Derived.Shelf.Slices.In.SortNone
import Derived.Test.YtaadilcboiiopaaGreatQBa
import Derived.Lib.TrailingZeros
import Derived.ChangeKeysEq
import Derived.WideKeyRuns
set_option maxRecDepth 100000
set_option maxHeartbeats 8000000
set_option linter.unusedVariables false
set_option linter.unusedSimpArgs false
namespace Go.Proofs
open Go.Sh
section
variable {u:UnD} {a b c:Bool} {x y:Int} {g:GrD}
structure PaD where
 tt:TyD
 tm:Int
 tok:Bool
 ft:TyD
 fm:Int
 fok:Bool
 at':TyD
 aok:Bool
 bt:TyD
 bok:Bool
noncomputable def ptH(u:UnD)(g:GrD)(p:PtD)(x:PaD):Bool:=
 if p.op=1 then((zz p { to:=true,a:=true } && (x.tok&&decide (x.tm<3)))&&x.aok)&&yw xj x.at' x.tt
 else if p.op=2 then
  (zz p { to:=true,a:=true,b:=true,sign:=true } && ((x.tok&&decide (x.tm<3))&&(x.aok&&x.bok))) &&
   (if xc p.sign [[43],[45],[42],[47],[37]]then isK x.tt 1&&(isK x.at' 1&&isK x.bt 1)
    else if xc p.sign [[60],[60,61],[62],[62,61]]then isK x.tt 2&&(isK x.at' 1&&isK x.bt 1)
    else if xc p.sign [[61,61],[33,61]]then isK x.tt 2&&((isK x.at' 1&&isK x.bt 1)||(isK x.at' 2&&isK x.bt 2))else false)
 else if p.op=3 then
  ((zz p { to:=true,a:=true,sign:=true } && (x.tok&&decide (x.tm<3)))&&x.aok) &&
   (if xc p.sign [[45]]then isK x.tt 1&&isK x.at' 1 else if xc p.sign [[33]]then isK x.tt 2&&isK x.at' 2 else false)
 else if p.op=4 then
  ((((zz p { to:=true,fr:=true,mu:=true } && (x.tok&&decide (x.tm<3)))&&x.fok)&&isK x.tt 4)&&(x.tt.m == p.mu))&&(yw xj (x.tt.of.headD yk) x.ft && !(p.mu&&decide (x.fm=3)))
 else if p.op=5 then(((zz p { to:=true,a:=true } && (x.tok&&decide (x.tm<3)))&&x.aok)&&isK x.tt 3)&&yw xj (x.tt.of.headD yk) x.at'
 else if p.op=6 then
  (((zz p { to:=true,args:=true,st:=true } && (x.tok&&decide (x.tm<3)))&&isK x.tt 5)&&decide (x.tt.st=p.st))&&ke u.ss g.tys p.args (xu u.ss x.tt).1
 else if p.op=7 then
  ((zz p { to:=true,args:=true,fn:=true } && (x.tok&&decide (x.tm<3)))&&(decide (0≤p.fn)&&decide (p.fn<u.fs.length))) &&
   (match u.fs[p.fn.toNat]? with
    |some f=>yw xj x.tt (f.tys.headD yk)&&ke u.ss g.tys p.args ((f.tys.drop 1).take f.pn.toNat)
    |none=>false)
 else if p.op=8 then(zz p { to:=true } && (x.tok&&decide (x.tm<3)))&&isK x.tt 1
 else if p.op=9 then(zz p { a:=true } && x.aok)&&isK x.at' 1
 else if p.op=10 then((zz p { fr:=true } && x.fok)&&(Zu u.ss x.ft).1)&&decide (x.fm<2)
 else if p.op=11 then((zz p { fr:=true } && x.fok)&&decide (0<p.fr.l))&&decide (p.fr.ps.length=0)
 else if p.op=12 then((zz p { a:=true,el:=true } && x.aok)&&isK x.at' 2)&&VP g p.el
 else if p.op=13∨p.op=14 then zz p {}
 else false
noncomputable def pad(u:UnD)(g:GrD)(p:PtD):PaD:=
 ⟨(zA u.ss g.tys p.to).1,(zA u.ss g.tys p.to).2.1,(zA u.ss g.tys p.to).2.2,(zA u.ss g.tys p.fr).1,(zA u.ss g.tys p.fr).2.1,(zA u.ss g.tys p.fr).2.2,
  (z7 u.ss g.tys p.a).1,(z7 u.ss g.tys p.a).2,(z7 u.ss g.tys p.b).1,(z7 u.ss g.tys p.b).2⟩
theorem agN(u:UnD)(g:GrD)(p:PtD):ptG u g p=ptH u g p (pad u g p):=rfl
theorem bb4{d:Bool}(h:(((!a || !b) || !c) || !d)=true):(a&&(b&&(c&&d)))=false:=by revert h;cases a<;>cases b<;>cases c<;>cases d<;>simp
theorem ahU{d:Bool}(h:(((!a || !b) || !c) || !d)=false):(a&&(b&&(c&&d)))=true:=by revert h;cases a<;>cases b<;>cases c<;>cases d<;>simp
theorem bb3(h:(((!a || !b) || !c)||decide (x≠y))=true):(((a&&b)&&c)&&decide (x=y))=false:=by
 by_cases e:x=y
 ·simp only[e]at h⊢;revert h;cases a<;>cases b<;>cases c<;>simp
 ·simp[e]
theorem ahV(h:(((!a || !b) || !c)||decide (x≠y))=false):(((a&&b)&&c)&&decide (x=y))=true:=by
 by_cases e:x=y
 ·simp only[e]at h⊢;revert h;cases a<;>cases b<;>cases c<;>simp
 ·simp[e]at h
theorem bb5(h:(((!a || !b)||decide (x<0))||decide (y≤x))=true):((a&&b)&&(decide (0≤x)&&decide (x<y)))=false:=by
 by_cases e:0≤x<;>by_cases f:x<y
 ·rw[decide_eq_false (show¬x<0 by omega),decide_eq_false (show¬y≤x by omega)]at h
  revert h;cases a<;>cases b<;>simp
 all_goals simp[e,f]
theorem ahW(h:(((!a || !b)||decide (x<0))||decide (y≤x))=false):((a&&b)&&(decide (0≤x)&&decide (x<y)))=true:=by
 simp only[Bool.or_eq_false_iff,decide_eq_false_iff_not,Bool.not_eq_false']at h
 obtain⟨⟨⟨h1,h2⟩,h3⟩,h4⟩:=h
 rw[h1,h2,gde (show 0≤x by omega),gde (show x<y by omega)];rfl
theorem mpK:mpT Tryz.prog 236=some (9,110):=by kernel_rfl
theorem mpZ:zr1 Tryz.prog 110=some (.int .u8 0):=by kernel_rfl
theorem afn(x:ByteArray)(f g:Int→Bool):∃ks:Int,(Y1 x ((#[].push (⟨.string (bs [45]),.int .u8 1,0⟩:MapEntry)).push ⟨.string (bs [33]),.int .u8 2,0+1⟩).toList).getD (.int .u8 0)=.int .u8 ks∧
  ((decide (ks≠0)&&f ks)&&g ks)=(if xc x [[45]]then f 1&&g 1 else if xc x [[33]]then f 2&&g 2 else false):=by
 have e:((#[].push (⟨.string (bs [45]),.int .u8 1,0⟩:MapEntry)).push ⟨.string (bs [33]),.int .u8 2,0+1⟩).toList=[⟨.string (bs [45]),.int .u8 1,0⟩,⟨.string (bs [33]),.int .u8 2,0+1⟩]:=rfl
 rw[e]
 simp only[Y1,aer,aah,xc,List.any_cons,List.any_nil,Bool.or_false]
 by_cases h1:(x.toList == [45])=true
 ·exact⟨1,by rw[if_pos h1];rfl,by rw[if_pos h1];simp⟩
 ·by_cases h2:(x.toList == [33])=true
  ·exact⟨2,by rw[if_neg h1,if_pos h2];rfl,by rw[if_neg h1,if_pos h2];simp⟩
  ·exact⟨0,by rw[if_neg h1,if_neg h2];rfl,by rw[if_neg h1,if_neg h2];simp⟩
theorem Xw{p:PtD}{c:List Value}{v:Value}{w:World}{r:Gh}{K:Value→World→Prop}(hr:Holds r w)(hx:AskG r v u g)(hf:kg u.ss g.tys)(hfs:∀f∈u.fs,0≤f.pn∧f.pn<f.tys.length)(hp:PtG r c p)
  (h:∀w',Ext w w'→K (.bool (yx u g p)) w'):zc Tryz.prog Tryz.ku #[v,.agg c.toArray] w K:=by
 have hx0:=hx
 obtain⟨p0,cap0,vf,vo,vt,vn,vp,rfl,hu,hg⟩:=hx
 have hu0:=hu
 obtain⟨_,_,_,hE,_,_,hst,_,hfn⟩:=hu
 cases hE
 obtain⟨qfn,capfn,rfl,_,_⟩:=hfn.sl.shape
 obtain⟨_,_,_,_,hE,_,htys,_,hpts⟩:=hg
 cases hE
 obtain⟨qp,capp,rfl,_,_⟩:=hpts.sl.shape
 have hp0:=hp
 obtain⟨vto,va,vb,vl,vfr,rfl,h1,h2,h3,h4,h5⟩:=hp
 obtain⟨qto,capto,rfl,_,_⟩:=h1.sl.shape
 obtain⟨qa,capa,rfl,_,_⟩:=h2.sl.shape
 obtain⟨qb,capb,rfl,_,_⟩:=h3.sl.shape
 obtain⟨ql,capl,rfl,_,_⟩:=h4.sl.shape
 obtain⟨qf,capf,rfl,_,_⟩:=h5.sl.shape
 have hpto:PlG r [.int .i64 p.to.l,.slice qto p.to.ps.length capto] p.to:=⟨_,rfl,h1⟩
 have hpfr:PlG r [.int .i64 p.fr.l,.slice qf p.fr.ps.length capf] p.fr:=⟨_,rfl,h5⟩
 have hoa:OpG r [.int .u8 p.a.k,.int .i64 p.a.n,.int .i64 p.a.pl.l,.slice qa p.a.pl.ps.length capa] p.a:=⟨_,rfl,h2⟩
 have hob:OpG r [.int .u8 p.b.k,.int .i64 p.b.n,.int .i64 p.b.pl.l,.slice qb p.b.pl.ps.length capb] p.b:=⟨_,rfl,h3⟩
 refine Tryz.YU ?_
 unfold Tryz.jx
 have S:=St.start hr
 refine S.box λb2 w1 S=>?_
 refine S.box λb3 w2 S=>?_
 refine gg_ ?_
 refine S.al λb5 w3 S=>?_
 refine S.st (b:=b5) λw4 S=>?_
 refine gg_ ?_
 refine VS (g:=decide (p.op≠14)) (c:=!VP g p.nx) (λ_ K2 hK2=>?_) (λ_ K2 hK2=>?_) ?_
 ·refine gg_ ?_
  exact hK2
 ·refine gg_ ?_
  refine aal (b:=b5) S ?_
  refine gp_ ?_
  exact hK2
 refine VS (g:=decide (p.op=14)) (c:=decide (p.nx≠0)) (λ_ K2 hK2=>?_) (λ_ K2 hK2=>?_) ?_
 ·refine gg_ ?_
  exact hK2
 ·refine gg_ ?_
  exact hK2
 have hpg:yx u g p=(!((decide (p.tx<0)||(decide (p.op≠14) && !VP g p.nx))||(decide (p.op=14)&&decide (p.nx≠0)))&&ptG u g p):=by
  rw[yx];simp only[decide_not]
 rw[hpg]at h
 refine c_b (λhbad=>?_) (λhgood=>?_)
 ·rw[hbad,Bool.not_true,Bool.false_and]at h
  exact h _ S.ext
 rw[hgood,Bool.not_false,Bool.true_and,agN]at h
 clear hpg hgood
 have S:=S.go (Ext.drew _)
 have S:StX noX w r w4.drew [.cell b5 [.int .i64 (g.pts.length:Nat)] 3,
   .cell b3 [.int .u8 p.op,.int .i64 p.to.l,.slice qto p.to.ps.length capto,.int .u8 p.a.k,.int .i64 p.a.n,.int .i64 p.a.pl.l,.slice qa p.a.pl.ps.length capa,.int .u8 p.b.k,.int .i64 p.b.n,.int .i64 p.b.pl.l,.slice qb p.b.pl.ps.length capb,.slice ql p.args.length capl,
    .string p.sign,.int .i64 p.fr.l,.slice qf p.fr.ps.length capf,.bool p.mu,.int .i64 p.fn,.int .i64 p.st,.int .i64 p.nx,.int .i64 p.el,.int .i64 p.tx] 94,
   .cell b2 [.slice p0 u.ss.length cap0,.slice qfn u.fs.length capfn,.int .i64 u.mn,.string g.name,.int .i64 g.lv,vo,.int .i64 g.pn,vt,vn,.slice qp g.pts.length capp] 180]:=S
 obtain⟨tt,tm,tok,hspt⟩:∃tt tm tok,zA u.ss g.tys p.to=(tt,tm,tok):=⟨_,_,_,rfl⟩
 obtain⟨ft,fm,fok,hspf⟩:∃tt tm tok,zA u.ss g.tys p.fr=(tt,tm,tok):=⟨_,_,_,rfl⟩
 obtain⟨ta,aok,hopa⟩:∃t ok,z7 u.ss g.tys p.a=(t,ok):=⟨_,_,rfl⟩
 obtain⟨tb,bok,hopb⟩:∃t ok,z7 u.ss g.tys p.b=(t,ok):=⟨_,_,rfl⟩
 have hpad:pad u g p=⟨tt,tm,tok,ft,fm,fok,ta,aok,tb,bok⟩:=by simp only[pad,hspt,hspf,hopa,hopb]
 rw[hpad,ptH]at h
 dsimp only at h
 have inside:tok=true→(tt.k=3∨tt.k=4)→∃uu,tt.of=[uu]:=by
  intro h1 h2
  have hfi:=aei hf (p:=p.to) (by rw[hspt];exact h1)
  rw[hspt]at hfi
  rcases Fine.cases hfi with⟨_,h3⟩|⟨uu,h3,_⟩
  ·have h3:tt.k=1∨tt.k=2∨tt.k=5:=h3
   omega
  ·exact⟨uu,h3⟩
 refine zs (λs w'=>∃b7 b8 q7 c7 q8 c8,s=[.pointer (some ⟨b7,0,none⟩),.pointer (some ⟨b8,0,none⟩)]∧TyG r (tyV tt q7 c7) tt∧TyG r (tyV ft q8 c8) ft∧
  StX noX w r w' (.cell b8 (spL ft q8 c8 fm fok) 228::.cell b7 (spL tt q7 c7 tm tok) 228::[.cell b5 [.int .i64 (g.pts.length:Nat)] 3,
   .cell b3 [.int .u8 p.op,.int .i64 p.to.l,.slice qto p.to.ps.length capto,.int .u8 p.a.k,.int .i64 p.a.n,.int .i64 p.a.pl.l,.slice qa p.a.pl.ps.length capa,.int .u8 p.b.k,.int .i64 p.b.n,.int .i64 p.b.pl.l,.slice qb p.b.pl.ps.length capb,.slice ql p.args.length capl,
    .string p.sign,.int .i64 p.fr.l,.slice qf p.fr.ps.length capf,.bool p.mu,.int .i64 p.fn,.int .i64 p.st,.int .i64 p.nx,.int .i64 p.el,.int .i64 p.tx] 94,
   .cell b2 [.slice p0 u.ss.length cap0,.slice qfn u.fs.length capfn,.int .i64 u.mn,.string g.name,.int .i64 g.lv,vo,.int .i64 g.pn,vt,vn,.slice qp g.pts.length capp] 180])) (λK30 hK30=>?_) ?_
 ·refine S.ldB (b:=b2) ?_ rfl
  refine gp_ ?_
  refine S.ldN (b:=b3) ?_
  refine S.ldB (b:=b2) ?_ rfl
  refine gp_ ?_
  refine S.ldN (b:=b3) ?_
  repeat' (first
   |(refine S.alU λb9 w9 S=>?_)
   |(refine S.al λb9 w9 S=>?_)
   |(refine S.stB λw9 S=>?_)
   |(refine yV S.holds hx0 hf hpto hspt (λq7 c7 w9 e9 ht7=>⟨e9,?_⟩);have S:=S.go e9)
   |(refine yV S.holds hx0 hf hpto hspt (λq7 c7 w9 e9 ht7=>?_);have S:=S.go e9)
   |(refine yV S.holds hx0 hf hpfr hspf (λq8 c8 w9 e9 ht8=>⟨e9,?_⟩);have S:=S.go e9)
   |(refine yV S.holds hx0 hf hpfr hspf (λq8 c8 w9 e9 ht8=>?_);have S:=S.go e9)
   |exact hK30 _ _ ⟨_,_,_,_,_,_,rfl,ht7,ht8,S⟩
   |exact hK30 _ _ ⟨_,_,_,_,_,_,rfl,ht7,ht8,S.swap⟩
   |refine ⟨?_,?_⟩)
 clear S
 rintro _ w33 ⟨b7,b8,q7,c7,q8,c8,rfl,ht7,ht8,S⟩ d33
 simp only[gdz,gds]
 refine gg_ ?_
 refine zn (c:=decide (tm<3)) (λ_ K2 hK2=>?_) ?_
 ·refine gg_ ?_
  exact hK2
 refine S.ldB (b:=b2) ?_ rfl
 refine gp_ ?_
 refine S.ldN (b:=b3) ?_
 refine xQ S.holds hx0 hf hoa hopa λq10 c10 w34 e34 hta=>?_
 have S:=S.go e34
 refine gp_ ?_
 refine gp_ ?_
 refine S.al λb10 w35 S=>?_
 refine S.stB (b:=b10) λw36 S=>?_
 refine S.ldB (b:=b2) ?_ rfl
 refine gp_ ?_
 refine S.ldN (b:=b3) ?_
 refine xQ S.holds hx0 hf hob hopb λq12 c12 w37 e37 htb=>?_
 have S:=S.go e37
 refine gp_ ?_
 refine gp_ ?_
 refine S.al λb12 w38 S=>?_
 refine S.stB (b:=b12) λw39 S=>?_
 refine gg_ ?_
 refine zi (λho=>?_) (λho=>?_)
 ·rw[if_pos ho]at h
  refine S.ldB (b:=b3) ?_ rfl
  refine gp_ ?_
  refine zV (f:={ to:=true,a:=true }) S.holds hp0 λw31 e31=>?_
  have S:=S.go e31
  refine zn (c:=tok&&decide (tm<3)) (λ_ K2 hK2=>hK2) ?_
  refine zn (c:=aok) (λ_ K2 hK2=>hK2) ?_
  refine zR (c:=yw xj ta tt) (λ_ K2 hK2=>?_) λw32 e32=>h _ (S.go e32).ext
  refine S.ldB (b:=b10) ?_ rfl
  refine gp_ ?_
  refine S.ldN (b:=b7) ?_
  exact kj S.holds hta ht7 λw33 e33=>hK2 _ e33
 rw[if_neg ho]at h
 clear ho
 refine gg_ ?_
 refine zi (λho=>?_) (λho=>?_)
 ·rw[if_pos ho]at h
  refine S.ldB (b:=b3) ?_ rfl
  refine gp_ ?_
  refine zV (f:={ to:=true,a:=true,b:=true,sign:=true }) S.holds hp0 λw31 e31=>?_
  have S:=S.go e31
  refine gp_ ?_
  refine zq (c:=!(tok&&decide (tm<3))) (λ_ K2 hK2=>?_) ?_
  ·refine gp_ ?_
   exact hK2
  refine zq (c:=!aok) (λ_ K2 hK2=>?_) ?_
  ·refine gp_ ?_
   exact hK2
  refine zq (c:=!bok) (λ_ K2 hK2=>?_) ?_
  ·refine gp_ ?_
   exact hK2
  refine c_b (λhc=>?_) (λhc=>?_)
  ·rw[bb4 hc,Bool.false_and]at h
   exact h _ S.ext
  rw[ahU hc,Bool.true_and]at h
  refine S.ldB (b:=b10) ?_ rfl
  refine yb S.holds λw34 e34=>?_
  have S:=S.go e34
  refine zR (c:=isK tb 1) (λhb K2 hK2=>?_) λw32 e32=>?_
  ·refine S.ldB (b:=b12) ?_ rfl
   exact yb S.holds λw33 e33=>hK2 _ e33
  have S:=S.go e32
  refine gg_ ?_
  refine zs (λs w'=>s=[.bool (xc p.sign [[43],[45],[42],[47],[37]])]∧Ext w32 w') (λK9 hK9=>?_) ?_
  ·have hk:=hK9 _ _ ⟨rfl,Ext.refl _⟩
   simp only[xc,List.any_cons,List.any_nil,Bool.or_false]at hk
   refine gp_ ?_
   refine jf hk λ_ hk=>?_
   refine gp_ ?_
   refine jf hk λ_ hk=>?_
   refine gp_ ?_
   refine jf hk λ_ hk=>?_
   refine gp_ ?_
   refine jf hk λ_ hk=>?_
   refine gp_ ?_
   exact hk
  rintro _ w41 ⟨rfl,e41⟩ d41
  have S:=S.go e41
  rw[gdz]
  refine c_b (λhs=>?_) (λhs=>?_)
  ·rw[if_pos hs]at h
   refine gp_ ?_
   refine S.ldN (b:=b7) ?_
   refine yb S.holds λw35 e35=>?_
   have S:=S.go e35
   exact zn (c:=isK ta 1&&isK tb 1) (λ_ K2 hK2=>hK2) (h _ S.ext)
  rw[if_neg (by rw[hs];decide)]at h
  refine zs (λs w'=>s=[.bool (xc p.sign [[60],[60,61],[62],[62,61]])]∧Ext w41 w') (λK9 hK9=>?_) ?_
  ·have hk:=hK9 _ _ ⟨rfl,Ext.refl _⟩
   simp only[xc,List.any_cons,List.any_nil,Bool.or_false]at hk
   refine gp_ ?_
   refine jf hk λ_ hk=>?_
   refine gp_ ?_
   refine jf hk λ_ hk=>?_
   refine gp_ ?_
   refine jf hk λ_ hk=>?_
   refine gp_ ?_
   exact hk
  rintro _ w41 ⟨rfl,e41⟩ d41
  have S:=S.go e41
  rw[gdz]
  refine c_b (λhs=>?_) (λhs=>?_)
  ·rw[if_pos hs]at h
   refine gp_ ?_
   refine S.ldN (b:=b7) ?_
   refine yb S.holds λw35 e35=>?_
   have S:=S.go e35
   exact zn (c:=isK ta 1&&isK tb 1) (λ_ K2 hK2=>hK2) (h _ S.ext)
  rw[if_neg (by rw[hs];decide)]at h
  refine zs (λs w'=>s=[.bool (xc p.sign [[61,61],[33,61]])]∧Ext w41 w') (λK9 hK9=>?_) ?_
  ·have hk:=hK9 _ _ ⟨rfl,Ext.refl _⟩
   simp only[xc,List.any_cons,List.any_nil,Bool.or_false]at hk
   refine gp_ ?_
   refine jf hk λ_ hk=>?_
   refine gp_ ?_
   exact hk
  rintro _ w41 ⟨rfl,e41⟩ d41
  have S:=S.go e41
  rw[gdz]
  refine c_b (λhs=>?_) (λhs=>?_)
  rotate_left
  ·rw[if_neg (by rw[hs];decide)]at h
   exact h _ S.ext
  rw[if_pos hs]at h
  refine gp_ ?_
  refine S.ldN (b:=b7) ?_
  refine yb S.holds λw35 e35=>?_
  have S:=S.go e35
  generalize isK tt 2=x1 at h⊢
  generalize (isK ta 1&&isK tb 1)=x2 at h⊢
  cases x1 with
  |false=>
   (intro K9 hK9;refine gd_ ?_;refine hK9 _ _ λ_=>?_;clear hK9 K9)
   (intro K9 hK9;refine gd_ ?_;refine hK9 _ _ λ_=>?_;clear hK9 K9)
   (intro K9 hK9;refine gd_ ?_;refine hK9 _ _ λ_=>?_;clear hK9 K9)
   (intro K9 hK9;refine gd_ ?_;refine hK9 _ _ λ_=>?_;clear hK9 K9)
   (intro K9 hK9;refine gd_ ?_;refine hK9 _ _ λ_=>?_;clear hK9 K9)
   refine gd_ ?_
   exact h _ S.ext
  |true=>
   cases x2 with
   |true=>
    (intro K9 hK9;refine gd_ ?_;refine hK9 _ _ λ_=>?_;clear hK9 K9)
    (intro K9 hK9;refine gd_ ?_;refine hK9 _ _ λ_=>?_;clear hK9 K9)
    (intro K9 hK9;refine gd_ ?_;refine hK9 _ _ λ_=>?_;clear hK9 K9)
    (intro K9 hK9;refine gd_ ?_;refine hK9 _ _ λ_=>?_;clear hK9 K9)
    (intro K9 hK9;refine gd_ ?_;refine hK9 _ _ λ_=>?_;clear hK9 K9)
    refine gd_ ?_
    exact h _ S.ext
   |false=>
    (intro K9 hK9;refine gd_ ?_;refine hK9 _ _ λ_=>?_;clear hK9 K9)
    refine zs (λs w'=>s=[.bool (isK ta 2)]∧Ext w35 w') (λK9 hK9=>?_) ?_
    ·refine gd_ ?_
     exact yb S.holds λw36 e36=>hK9 _ _ ⟨rfl,e36⟩
    rintro _ w37 ⟨rfl,e37⟩ d37
    have S:=S.go e37
    generalize isK ta 2=x3 at h⊢
    cases x3 with
    |false=>
     (intro K9 hK9;refine gd_ ?_;refine hK9 _ _ λ_=>?_;clear hK9 K9)
     (intro K9 hK9;refine gd_ ?_;refine hK9 _ _ λ_=>?_;clear hK9 K9)
     (intro K9 hK9;refine gd_ ?_;refine hK9 _ _ λ_=>?_;clear hK9 K9)
     refine gd_ ?_
     exact h _ S.ext
    |true=>
     refine zs (λs w'=>s=[.bool (isK tb 2)]∧Ext w37 w') (λK9 hK9=>?_) ?_
     ·refine gd_ ?_
      exact yb S.holds λw36 e36=>hK9 _ _ ⟨rfl,e36⟩
     rintro _ w38 ⟨rfl,e38⟩ d38
     have S:=S.go e38
     generalize isK tb 2=x4 at h⊢
     (intro K9 hK9;refine gd_ ?_;refine hK9 _ _ λ_=>?_;clear hK9 K9)
     (intro K9 hK9;refine gd_ ?_;refine hK9 _ _ λ_=>?_;clear hK9 K9)
     refine gd_ ?_
     cases x4<;>exact h _ S.ext
 rw[if_neg ho]at h
 clear ho
 refine gg_ ?_
 refine zi (λho=>?_) (λho=>?_)
 ·rw[if_pos ho]at h
  refine S.mkMap λb70 w70 S=>?_
  refine S.mapAdd mpK (by intro m hm;cases hm) rfl λw71 S=>?_
  refine S.mapAdd mpK (by intro m hm;rcases List.mem_cons.1 hm with rfl|hm<;>first|exact ⟨_,rfl⟩|cases hm) (by decide) λw72 S=>?_
  refine gg_ ?_
  refine S.mapGet mpK mpZ (by
   intro m hm
   rcases List.mem_cons.1 hm with rfl|hm
   ·exact⟨_,rfl⟩
   rcases List.mem_cons.1 hm with rfl|hm<;>first|exact ⟨_,rfl⟩|cases hm) ?_
  obtain⟨ks,hks,hk2⟩:=afn p.sign (isK tt) (isK ta)
  rw[hks]
  refine S.ldB (b:=b3) ?_ rfl
  refine gp_ ?_
  refine zV (f:={ to:=true,a:=true,sign:=true }) S.holds hp0 λw31 e31=>?_
  have S:=S.go e31
  refine zn (c:=tok&&decide (tm<3)) (λ_ K2 hK2=>hK2) ?_
  refine zn (c:=aok) (λ_ K2 hK2=>hK2) ?_
  refine zn (c:=decide (ks≠0)) (λ_ K2 hK2=>?_) ?_
  ·refine gp_ ?_
   exact hK2
  refine zR (c:=isK tt ks) (λhb K2 hK2=>?_) λw32 e32=>?_
  ·refine gp_ ?_
   refine S.ldN (b:=b7) ?_
   exact yb S.holds λw33 e33=>hK2 _ e33
  have S:=S.go e32
  refine zR (c:=isK ta ks) (λhb K2 hK2=>?_) λw32 e32=>?_
  ·refine S.ldB (b:=b10) ?_ rfl
   exact yb S.holds λw33 e33=>hK2 _ e33
  have S:=S.go e32
  have:=h _ S.ext
  rw[← hk2]at this
  simpa only[Bool.and_assoc]using this
 rw[if_neg ho]at h
 clear ho
 refine gg_ ?_
 refine zi (λho=>?_) (λho=>?_)
 ·rw[if_pos ho]at h
  have S:=S.go (Ext.drew _)
  refine S.ldB (b:=b3) ?_ rfl
  refine gp_ ?_
  refine zV (f:={ to:=true,fr:=true,mu:=true }) S.holds hp0 λw31 e31=>?_
  have S:=S.go e31
  refine zn (c:=tok&&decide (tm<3)) (λ_ K2 hK2=>hK2) ?_
  refine zn (c:=fok) (λ_ K2 hK2=>?_) ?_
  ·refine gg_ ?_
   exact hK2
  refine zR (c:=isK tt 4) (λhb K2 hK2=>?_) λw32 e32=>?_
  ·refine gp_ ?_
   refine S.ldN (b:=b7) ?_
   exact yb S.holds λw33 e33=>hK2 _ e33
  have S:=S.go e32
  refine zn (c:=tt.m == p.mu) (λ_ K2 hK2=>?_) ?_
  ·refine gg_ ?_
   exact hK2
  refine zR (c:=yw xj (tt.of.headD yk) ft) (λhb K2 hK2=>?_) λw33 e33=>?_
  ·simp only[gba]at hb
   obtain⟨uu,hof⟩:=inside hb.1.1.1.2.1 (.inr (of_decide_eq_true hb.1.2))
   obtain⟨bo,oo,q2,cap2,rfl,ht2,hcc⟩:=J0 ht7 hof
   have hl1:tt.of.length=1:=by rw[hof];rfl
   rw[hof]at hK2
   refine gg_ ?_
   refine zu (n:=5) (c:=tyL uu q2 cap2) rfl (λj v hj=>by simpa using S.at (hcc j v hj)) ?_
   refine gp_ ?_
   refine S.ldN (b:=b8) ?_
   exact kj S.holds ht2 ht8 λw34 e34=>hK2 _ e34
  have S:=S.go e33
  have:=h _ S.ext
  rw[← Bool.and_assoc]at this
  generalize ((((((zz p { to:=true,fr:=true,mu:=true } && (tok&&decide (tm<3)))&&fok)&&isK tt 4)&&(tt.m == p.mu))&&yw xj (tt.of.headD yk) ft))=B at this⊢
  cases B with
  |false=>
   (intro K9 hK9;refine gd_ ?_;refine hK9 _ _ λ_=>?_;clear hK9 K9)
   (intro K9 hK9;refine gd_ ?_;refine hK9 _ _ λ_=>?_;clear hK9 K9)
   (intro K9 hK9;refine gd_ ?_;refine hK9 _ _ λ_=>?_;clear hK9 K9)
   refine gd_ ?_
   exact this
  |true=>
   refine zs (λs w'=>s=[.bool p.mu]∧w'=w33) (λK9 hK9=>?_) ?_
   ·refine gd_ ?_
    exact hK9 _ _ ⟨rfl,rfl⟩
   rintro _ w33 ⟨rfl,rfl⟩ d33
   generalize p.mu=mu at this⊢
   cases mu with
   |false=>
    (intro K9 hK9;refine gd_ ?_;refine hK9 _ _ λ_=>?_;clear hK9 K9)
    (intro K9 hK9;refine gd_ ?_;refine hK9 _ _ λ_=>?_;clear hK9 K9)
    refine gd_ ?_
    exact this
   |true=>
    refine zs (λs w'=>s=[.bool (decide (fm=3))]∧w'=w33) (λK9 hK9=>?_) ?_
    ·refine gd_ ?_
     exact hK9 _ _ ⟨rfl,rfl⟩
    rintro _ w33 ⟨rfl,rfl⟩ d33
    (intro K9 hK9;refine gd_ ?_;refine hK9 _ _ λ_=>?_;clear hK9 K9)
    refine gd_ ?_
    simpa using this
 rw[if_neg ho]at h
 clear ho
 refine gg_ ?_
 refine zi (λho=>?_) (λho=>?_)
 ·rw[if_pos ho]at h
  have S:=S.go (Ext.drew _)
  refine S.ldB (b:=b3) ?_ rfl
  refine gp_ ?_
  refine zV (f:={ to:=true,a:=true }) S.holds hp0 λw31 e31=>?_
  have S:=S.go e31
  refine zn (c:=tok&&decide (tm<3)) (λ_ K2 hK2=>hK2) ?_
  refine zn (c:=aok) (λ_ K2 hK2=>hK2) ?_
  refine zR (c:=isK tt 3) (λhb K2 hK2=>?_) λw32 e32=>?_
  ·refine gp_ ?_
   refine S.ldN (b:=b7) ?_
   exact yb S.holds λw33 e33=>hK2 _ e33
  have S:=S.go e32
  refine zR (c:=yw xj (tt.of.headD yk) ta) (λhb K2 hK2=>?_) λw33 e33=>h _ (S.go e33).ext
  simp only[gba]at hb
  obtain⟨uu,hof⟩:=inside hb.1.1.2.1 (.inl (of_decide_eq_true hb.2))
  obtain⟨bo,oo,q2,cap2,rfl,ht2,hcc⟩:=J0 ht7 hof
  have hl1:tt.of.length=1:=by rw[hof];rfl
  rw[hof]at hK2
  refine gg_ ?_
  refine zu (n:=5) (c:=tyL uu q2 cap2) rfl (λj v hj=>by simpa using S.at (hcc j v hj)) ?_
  refine S.ldB (b:=b10) ?_ rfl
  exact kj S.holds ht2 hta λw34 e34=>hK2 _ e34
 rw[if_neg ho]at h
 clear ho
 refine gg_ ?_
 refine zi (λho=>?_) (λho=>?_)
 ·rw[if_pos ho]at h
  refine S.ldB (b:=b3) ?_ rfl
  refine gp_ ?_
  refine zV (f:={ to:=true,args:=true,st:=true }) S.holds hp0 λw31 e31=>?_
  have S:=S.go e31
  refine gp_ ?_
  refine zq (c:=!(tok&&decide (tm<3))) (λ_ K2 hK2=>?_) ?_
  ·refine gp_ ?_
   exact hK2
  refine je (c:=!isK tt 5) (λ_ K2 hK2=>?_) λw32 e32=>?_
  ·refine gp_ ?_
   refine S.ldN (b:=b7) ?_
   refine yb S.holds λw33 e33=>?_
   refine gp_ ?_
   exact hK2 _ e33
  have S:=S.go e32
  refine zq (c:=decide (tt.st≠p.st)) (λ_ K2 hK2=>?_) ?_
  ·refine gg_ ?_
   exact hK2
  refine c_b (λhc=>?_) (λhc=>?_)
  ·rw[bb3 hc,Bool.false_and]at h
   exact h _ S.ext
  rw[ahV hc,Bool.true_and]at h
  refine gg_ ?_
  refine S.ldN (b:=b7) ?_
  refine VO S.holds hst ht7 λq9 cp9 top gs w35 e35 n35 hfd hcp=>?_
  have S:=S.new e35 n35
  refine gp_ ?_
  refine gp_ ?_
  refine aan (r:=((r.or (top.or (un gs 0 (xu u.ss tt).1.length))).or (Go.Sh.one b2 _ _)).or (Go.Sh.one b3 _ _)) ((S.holdW b2).or (xV (S.blk b3))) (yN (b:=b2)).up (yN (b:=b3)).up hx0.up rfl hf hp0.up (afh hfd).up λw44 e44=>?_
  exact h _ (S.go e44).ext
 rw[if_neg ho]at h
 clear ho
 refine gg_ ?_
 refine zi (λho=>?_) (λho=>?_)
 ·rw[if_pos ho]at h
  refine S.ldB (b:=b3) ?_ rfl
  refine gp_ ?_
  refine zV (f:={ to:=true,args:=true,fn:=true }) S.holds hp0 λw31 e31=>?_
  have S:=S.go e31
  refine gp_ ?_
  refine zq (c:=!(tok&&decide (tm<3))) (λ_ K2 hK2=>?_) ?_
  ·refine gp_ ?_
   exact hK2
  refine zq (c:=decide (p.fn<0)) (λ_ K2 hK2=>?_) ?_
  ·refine gg_ ?_
   exact hK2
  refine zq (c:=decide ((u.fs.length:Int)≤p.fn)) (λ_ K2 hK2=>?_) ?_
  ·refine gg_ ?_
   exact hK2
  refine c_b (λhc=>?_) (λhc=>?_)
  ·rw[bb5 hc,Bool.false_and]at h
   exact h _ S.ext
  rw[ahW hc,Bool.true_and]at h
  have hfl:0≤p.fn∧p.fn<u.fs.length:=by
   simp only[Bool.or_eq_false_iff,decide_eq_false_iff_not]at hc;omega
  have hfi:p.fn.toNat<u.fs.length:=by omega
  rw[gqg hfi]at h
  obtain⟨bg,og,cg,rfl,hcg,hgg,hgc⟩:=hfn.sl.get (by decide) hfi
  have hfp:=hfs _ (gem hfi)
  generalize u.fs[p.fn.toNat]=fd at h hgg hfp
  obtain⟨vo2,vt2,vn2,vp2,rfl,hg1,hg2,hg3,hg4⟩:=hgg
  obtain⟨qo2,co2,rfl,_,_⟩:=hg1.sl.shape
  obtain⟨qt2,ct2,rfl,_,hct2⟩:=hg2.sl.shape
  obtain⟨qn2,cn2,rfl,_,_⟩:=hg3.sl.shape
  obtain⟨qp2,cp2,rfl,_,_⟩:=hg4.sl.shape
  refine gg_ ?_
  refine zu (n:=7) hcg (λj v hj=>S.at (hgc j v hj)) ?_
  refine S.al λb20 w50 S=>?_
  refine S.stB (b:=b20) λw51 S=>?_
  have S:=S.go (Ext.drew _)
  have htl:=Qr hg2.sl
  have htl9:fd.tys.length≤9223372036854775807:=hg2.few
  obtain⟨bt2,ot2,cc2,rfl,hcc2,hcl2,hct3⟩:=htl 0 (by omega)
  obtain⟨q4,cap4,rfl,ht4⟩:=xP hct3
  have hhd:fd.tys.headD yk=fd.tys[0]'(by omega):=by
   rw[List.headD_eq_head?_getD,List.head?_eq_getElem?,gqg (by omega),Option.getD_some]
  dsimp only at h
  rw[hhd]at h
  refine gp_ ?_
  refine S.ldN (b:=b7) ?_
  refine gg_ ?_
  refine zu (n:=5) hcc2 (λj v hj=>by simpa using S.at (hcl2 j v hj)) ?_
  refine kj S.holds ht7 ht4 λw52 e52=>?_
  have S:=S.go e52
  refine zR (c:=ke u.ss g.tys p.args ((fd.tys.drop 1).take fd.pn.toNat)) (λ_ K2 hK2=>?_) λw53 e53=>h _ (S.go e53).ext
  refine gg_ ?_
  have hl9:(fd.pn+1).toNat-(1:Int).toNat=((fd.tys.drop 1).take fd.pn.toNat).length:=by
   rw[List.length_take,List.length_drop];omega
  rw[hl9]
  refine aan (r:=(r.or (Go.Sh.one b2 _ _)).or (Go.Sh.one b3 _ _)) ((S.holdW b2).or (xV (S.blk b3))) (yN (b:=b2)).up (yN (b:=b3)).up hx0.up rfl hf hp0.up (htl.sub (a:=(1:Int).toNat) (n:=fd.pn.toNat) hct2).up λw44 e44=>?_
  exact hK2 _ e44
 rw[if_neg ho]at h
 clear ho
 refine gg_ ?_
 refine zi (λho=>?_) (λho=>?_)
 ·rw[if_pos ho]at h
  refine S.ldB (b:=b3) ?_ rfl
  refine gp_ ?_
  refine zV (f:={ to:=true }) S.holds hp0 λw31 e31=>?_
  have S:=S.go e31
  refine zn (c:=tok&&decide (tm<3)) (λ_ K2 hK2=>hK2) ?_
  refine zR (c:=isK tt 1) (λhb K2 hK2=>?_) λw32 e32=>?_
  ·refine gp_ ?_
   refine S.ldN (b:=b7) ?_
   exact yb S.holds λw33 e33=>hK2 _ e33
  have S:=S.go e32
  exact h _ S.ext
 rw[if_neg ho]at h
 clear ho
 refine gg_ ?_
 refine zi (λho=>?_) (λho=>?_)
 ·rw[if_pos ho]at h
  refine S.ldB (b:=b3) ?_ rfl
  refine gp_ ?_
  refine zV (f:={ a:=true }) S.holds hp0 λw31 e31=>?_
  have S:=S.go e31
  refine zn (c:=aok) (λ_ K2 hK2=>hK2) ?_
  refine zR (c:=isK ta 1) (λhb K2 hK2=>?_) λw32 e32=>?_
  ·refine S.ldB (b:=b10) ?_ rfl
   exact yb S.holds λw33 e33=>hK2 _ e33
  have S:=S.go e32
  exact h _ S.ext
 rw[if_neg ho]at h
 clear ho
 refine gg_ ?_
 refine zi (λho=>?_) (λho=>?_)
 ·rw[if_pos ho]at h
  refine gg_ ?_
  refine S.ldN (b:=b8) ?_
  refine aaO S.holds hst ht8 λw35 e35=>?_
  have S:=S.go e35
  refine gp_ ?_
  refine gp_ ?_
  refine S.ldB (b:=b3) ?_ rfl
  refine gp_ ?_
  refine zV (f:={ fr:=true }) S.holds hp0 λw31 e31=>?_
  have S:=S.go e31
  refine zn (c:=fok) (λ_ K2 hK2=>?_) ?_
  ·refine gg_ ?_
   exact hK2
  refine zn (c:=(Zu u.ss ft).1) (λ_ K2 hK2=>hK2) ?_
  refine zn (c:=decide (fm<2)) (λ_ K2 hK2=>?_) (h _ S.ext)
  refine gg_ ?_
  exact hK2
 rw[if_neg ho]at h
 clear ho
 refine gg_ ?_
 refine zi (λho=>?_) (λho=>?_)
 ·rw[if_pos ho]at h
  refine S.ldB (b:=b3) ?_ rfl
  refine gp_ ?_
  refine zV (f:={ fr:=true }) S.holds hp0 λw31 e31=>?_
  have S:=S.go e31
  refine zn (c:=fok) (λ_ K2 hK2=>?_) ?_
  ·refine gg_ ?_
   exact hK2
  refine zn (c:=decide (0<p.fr.l)) (λ_ K2 hK2=>?_) ?_
  ·refine gg_ ?_
   exact hK2
  refine zn (c:=decide (p.fr.ps.length=0)) (λ_ K2 hK2=>?_) (h _ S.ext)
  refine gg_ ?_
  rw[Yd]
  exact hK2
 rw[if_neg ho]at h
 clear ho
 refine gg_ ?_
 refine zi (λho=>?_) (λho=>?_)
 ·rw[if_pos ho]at h
  refine S.ldB (b:=b3) ?_ rfl
  refine gp_ ?_
  refine zV (f:={ a:=true,el:=true }) S.holds hp0 λw31 e31=>?_
  have S:=S.go e31
  refine zn (c:=aok) (λ_ K2 hK2=>hK2) ?_
  refine zR (c:=isK ta 2) (λhb K2 hK2=>?_) λw32 e32=>?_
  ·refine S.ldB (b:=b10) ?_ rfl
   exact yb S.holds λw33 e33=>hK2 _ e33
  have S:=S.go e32
  refine zn (c:=VP g p.el) (λ_ K2 hK2=>?_) (h _ S.ext)
  refine gg_ ?_
  exact aal (b:=b5) S hK2
 rw[if_neg ho]at h
 clear ho
 refine gg_ ?_
 refine zs (λs w'=>s=[.bool (decide (p.op=13∨p.op=14))]∧Ext w39 w') (λK9 hK9=>?_) ?_
 ·have hk:=hK9 _ _ ⟨rfl,Ext.refl _⟩
  rw[Bool.decide_or]at hk
  refine gp_ ?_
  refine jf hk λ_ hk=>?_
  refine gp_ ?_
  exact hk
 rintro _ w41 ⟨rfl,e41⟩ d41
 have S:=S.go e41
 rw[gdz]
 refine zi (λho=>?_) (λho=>?_)
 ·rw[if_pos ho]at h
  refine S.ldB (b:=b3) ?_ rfl
  refine gp_ ?_
  refine zV (f:={}) S.holds hp0 λw31 e31=>h _ (S.go e31).ext
 ·rw[if_neg ho]at h
  exact h _ S.ext
theorem qm{u:UnD}:∀{l:List GrD}{i:Nat},qj u i l=none↔∀(j:Nat)(h:j<l.length),kf u (i+j) l[j]=true
 |[],i=>⟨λ_ j h=>absurd h (Nat.not_lt_zero _),λ_=>rfl⟩
 |g::l,i=>by
  rw[qj]
  constructor
  ·intro h j hj
   split at h
   ·rename_i hg
    cases j with
    |zero=>exact hg
    |succ j=>
     have:=(qm (l:=l) (i:=i+1)).1 h j (by simpa using hj)
     rw[List.getElem_cons_succ,show i+(j+1)=i+1+j by omega];exact this
   ·cases h
  ·intro h
   rw[if_pos (show kf u i g=true from h 0 (Nat.zero_lt_succ _))]
   refine(qm (l:=l) (i:=i+1)).2 λj hj=>?_
   have:=h (j+1) (by simpa using hj)
   rwa[List.getElem_cons_succ,show i+(j+1)=i+1+j by omega]at this
theorem vX{u:UnD}{g:GrD}:∀{l:List PtD}{q:Nat},vW u g q l=none↔∀p∈l,yx u g p=true
 |[],q=>⟨λ_ p h=>(by cases h),λ_=>rfl⟩
 |x::l,q=>by
  rw[vW]
  constructor
  ·intro h p hp
   split at h
   ·rename_i hx
    rcases List.mem_cons.1 hp with rfl|hp
    ·exact hx
    ·exact(vX (l:=l) (q:=q+1)).1 h p hp
   ·cases h
  ·intro h
   rw[if_pos (h x List.mem_cons_self)]
   exact(vX (l:=l) (q:=q+1)).2 λp hp=>h p (List.mem_cons_of_mem _ hp)
theorem ZV{u:UnD}:∀{l:List GrD}{i:Nat},Zv u i l=none↔∀g∈l,∀p∈g.pts,yx u g p=true
 |[],i=>⟨λ_ g h=>(by cases h),λ_=>rfl⟩
 |x::l,i=>by
  rw[Zv]
  constructor
  ·intro h g hg
   split at h
   ·cases h
   ·rename_i hx
    rcases List.mem_cons.1 hg with rfl|hg
    ·exact vX.1 hx
    ·exact(ZV (l:=l) (i:=i+1)).1 h g hg
  ·intro h
   rw[vX.2 (h x List.mem_cons_self)]
   exact(ZV (l:=l) (i:=i+1)).2 λg hg=>h g (List.mem_cons_of_mem _ hg)
structure MayU(u:UnD):Prop where
 ok:(zC u.ss).2=0
 fs1:1≤u.fs.length
 fs32:u.fs.length≤32
 mn0:0≤u.mn
 mn1:u.mn<u.fs.length
 head:∀(i:Nat)(h:i<u.fs.length),kf u i u.fs[i]=true
 pts:∀g∈u.fs,∀p∈g.pts,yx u g p=true
theorem aes(h:MayU u):qk u=(0,0,0):=by
 have h1:=h.fs1;have h2:=h.fs32;have h3:=h.mn0;have h4:=h.mn1
 unfold qk
 rw[if_neg (by rw[h.ok,decide_eq_false (show¬u.fs.length<1 by omega),decide_eq_false (show¬32<u.fs.length by omega),decide_eq_false (show¬u.mn<0 by omega),decide_eq_false (show¬(u.fs.length:Int)≤u.mn by omega)];decide),
  qm.2 (λj hj=>by rw[Nat.zero_add];exact h.head j hj)]
 dsimp only
 rw[ZV.2 h.pts]
theorem aet(h:(qk u).2.2=0):MayU u:=by
 unfold qk at h
 split at h
 ·cases h
 ·rename_i h1
  split at h
  ·cases h
  ·rename_i h2
   split at h
   ·cases h
   ·rename_i h3
    simp only[Bool.or_eq_true,Bool.not_eq_true',decide_eq_false_iff_not,gdt,not_or]at h1
    obtain⟨⟨h4,h5,h6⟩,h7,h8⟩:=h1
    exact⟨by omega,by omega,by omega,by omega,by omega,λi hi=>by have:=qm.1 h2 i hi;rwa[Nat.zero_add]at this,ZV.1 h3⟩
theorem abG:VQ u=true↔MayU u:=by
 rw[VQ,gdt]
 exact⟨aet,λh=>by rw[aes h]⟩
structure HeadU(u:UnD)(fn:Nat)(g:GrD):Prop where
 lv0:0≤g.lv
 lv8:g.lv≤8
 pn0:0≤g.pn
 pn8:g.pn≤8
 pn1:g.pn<g.tys.length
 ty512:g.tys.length≤512
 nms:g.nms.length=g.tys.length
 tys:jI u g 0 g.tys=true
 pt1:1≤g.pts.length
 pt1024:g.pts.length≤1024
 outs:YZ g=true
 loans:xa g.pts≤256
 main:(fn:Int)=u.mn→g.lv=0∧g.pn=0∧(g.tys.headD yk).k=1
theorem adu{fn:Nat}(h:kf u fn g=true):HeadU u fn g:=by
 simp only[kf,gba,Bool.or_eq_true,Bool.not_eq_true',gdt,decide_eq_false_iff_not,isK]at h
 obtain⟨⟨⟨⟨⟨⟨⟨h1,h2⟩,h3,h4⟩,h5,h6⟩,h7⟩,h8⟩,⟨h9,h10⟩,h11⟩,h12,h13⟩:=h
 exact⟨h1,h2,h3,h4,by omega,h6,h7,h8,h9,h10,h11,h12,λe=>by rcases h13 with h|⟨⟨h,h'⟩,h2⟩
                                                           ·exact absurd e h
                                                           ·exact⟨h,h',h2⟩⟩
theorem HeadU.fine{fn:Nat}(h:HeadU u fn g)(ok:(zC u.ss).2=0):kg u.ss g.tys:=by
 obtain⟨h1,h2,h3,h4,_⟩:=jq ok
 exact⟨h1,h3,h4,λt ht=>(JX (abD h.tys t ht)).2⟩
theorem MayU.hd(h:MayU u){i:Nat}(hi:i<u.fs.length):HeadU u i u.fs[i]:=adu (h.head i hi)
end
end Go.Proofs
namespace Go.Sh
theorem afo{w:World}{A2:(List Value→World→Prop)→Prop}{A3 A4 A5:(List Value→World→Prop)→World→Prop}{Z:Value→World→Prop}{b1 b2 b3 b4 b5:Bool}
  (h2:∀K:List Value→World→Prop,K [.bool b2] w→A2 K) (h3:∀K:List Value→World→Prop,K [.bool b3] w→A3 K w) (h4:∀K:List Value→World→Prop,K [.bool b4] w→A4 K w) (h5:∀K:List Value→World→Prop,K [.bool b5] w→A5 K w)
  (hZ:Z (.bool (b1&&(b2||((b3&&b4)&&b5)))) w):
  za (λK=>gIf (.bool b1) true (A2 K) (K [u_] w)) λs64 _ w66=>
   za (λK=>gIf (s64.getD 0 u_) false (A3 K w66) (K [u_] w66)) λs68 _ w70=>
    za (λK=>gIf (s68.getD 0 u_) true (A4 K w70) (K [u_] w70)) λs72 _ w74=>
     za (λK=>gIf (s64.getD 0 u_) false (zd (s68.getD 0 u_) (s72.getD 0 u_) (.bool false) λt=>K [t] w74) (K [u_] w74)) λs76 _ w78=>
      za (λK=>gIf (s76.getD 0 u_) true (A5 K w78) (K [u_] w78)) λs80 _ w82=>
       za (λK=>gIf (s64.getD 0 u_) false (zd (s76.getD 0 u_) (s80.getD 0 u_) (.bool false) λt=>K [t] w82) (K [u_] w82)) λs84 _ w86=>
        za (λK=>gIf (.bool b1) true (zd (s64.getD 0 u_) (.bool true) (s84.getD 0 u_) λt=>K [t] w86) (K [u_] w86)) λs88 _ w90=>
         zd (.bool b1) (s88.getD 0 u_) (.bool false) λt=>Z t w90:=by
 cases b1<;>cases b2<;>cases b3<;>cases b4 <;>
  (iterate 7 (intro K hK;first|refine hK _ _ λ_=>?_|refine h2 _ (hK _ _ λ_=>?_)|refine h3 _ (hK _ _ λ_=>?_)|refine h4 _ (hK _ _ λ_=>?_)|refine h5 _ (hK _ _ λ_=>?_)|refine ⟨_,rfl,hK _ _ λ_=>?_⟩)) <;>
  exact⟨_,rfl,by simpa using hZ⟩
end Go.Sh
namespace Go.Proofs
open Go.Sh
theorem adv{a b:Nat}:decide ((a:Int)≠(b:Int))=decide (a≠b):=decide_eq_decide.2 (by omega)
theorem af4{u:UnD}{g:GrD}{i:Nat}{t:TyD}:tyG u g i t=(yA u.ss t && !((yJ t).any λr=>decide (r<(if(i:Int)≤g.pn then 0 else -1))||decide (g.lv≤r))):=by
 rw[tyG,List.not_any_eq_all_not]
theorem abH{u:UnD}{i:Nat}{v:Value}{w:World}{r:Gh}{K:Value→World→Prop}(hi:i<u.fs.length)(hr:Holds r w)(hu:UnG r v u)
  (h:∀w',Ext w w'→K (.bool (kf u i u.fs[i])) w'):zc Tryz.prog Tryz.Zj #[v,.int .i64 i] w K:=by
 obtain⟨p0,cap0,vf,rfl,_,_,hst,hsl,hfn⟩:=hu
 obtain⟨qf,capf,rfl,_,_⟩:=hfn.sl.shape
 obtain⟨bf,of,cf,rfl,hcf,hgc,hfo⟩:=hfn.sl.get (by decide) hi
 refine Tryz.aaH ?_
 unfold Tryz.XH
 generalize hgi:u.fs[i]=g at h hgc
 obtain⟨vo,vt,vn,vp,rfl,h1,h2,h3,h4⟩:=id hgc
 obtain⟨qo,capo,rfl,_,_⟩:=h1.sl.shape
 obtain⟨qt,capt,rfl,_,hct⟩:=h2.sl.shape
 obtain⟨qn,capn,rfl,_,_⟩:=h3.sl.shape
 obtain⟨qp,capp,rfl,_,_⟩:=h4.sl.shape
 have hptl:g.pts.length≤9223372036854775807:=h4.few
 have htl:g.tys.length≤9223372036854775807:=h2.few
 have S:=St.start hr
 refine S.box λb2 w1 S=>?_
 refine gG_ ?_
 refine zu (n:=7) hcf (λj v hj=>by rw[tnc];exact S.at (hfo j v hj)) ?_
 refine S.al λb5 w2 S=>?_
 refine S.stB (b:=b5) λw3 S=>?_
 refine gG_ ?_
 have no:(HeadU u i g→False)→kf u i g=false:=λhh=>by
  cases e:kf u i g
  ·rfl
  ·exact(hh (adu e)).elim
 refine zq (c:=decide (8<g.lv)) (λ_ K2 hK2=>?_) ?_
 ·refine gG_ ?_
  exact hK2
 refine zq (c:=decide (g.pn<0)) (λ_ K2 hK2=>?_) ?_
 ·refine gG_ ?_
  exact hK2
 refine zq (c:=decide (8<g.pn)) (λ_ K2 hK2=>?_) ?_
 ·refine gG_ ?_
  exact hK2
 refine zq (c:=decide ((g.tys.length:Int)≤g.pn)) (λ_ K2 hK2=>?_) ?_
 ·refine gG_ ?_
  exact hK2
 refine zq (c:=decide (512<g.tys.length)) (λ_ K2 hK2=>?_) ?_
 ·refine gG_ ?_
  rw[show decide ((512:Int)<(g.tys.length:Int))=decide (512<g.tys.length)from decide_eq_decide.2 (by omega)]
  exact hK2
 refine zq (c:=decide (g.nms.length≠g.tys.length)) (λ_ K2 hK2=>?_) ?_
 ·refine gG_ ?_
  rw[adv]
  exact hK2
 refine c_b (λhbad=>?_) (λhgood=>?_)
 ·rw[no λH=>by
   have:=H.lv0;have:=H.lv8;have:=H.pn0;have:=H.pn8;have:=H.pn1;have:=H.ty512;have:=H.nms
   simp only[Bool.or_eq_true,gdt]at hbad;omega]at h
  exact h _ S.ext
 have hnum:(0≤g.lv∧g.lv≤8∧0≤g.pn∧g.pn≤8)∧g.pn<g.tys.length∧g.tys.length≤512∧g.nms.length=g.tys.length:=by
  simp only[Bool.or_eq_false_iff,decide_eq_false_iff_not]at hgood;omega
 clear hgood
 obtain⟨⟨hlv0,hlv8,hpn0,hpn8⟩,hpn1,hty,hnm⟩:=hnum
 refine gG_ ?_
 refine zj (ι:=Nat) (λi=>[.int .i64 (i:Nat)]) (λj w'=>j≤g.tys.length∧jI u g j (g.tys.drop j)=jI u g 0 g.tys∧StX noX w r w' _) (λi=>g.tys.length-i) 0 rfl ⟨gzl _,rfl,S⟩ ?_
 clear S
 rintro j d w5 ⟨hj,hd,S⟩ K6 hK6
 rw[gdz]
 refine gP_ ?_
 refine zi (λhlt=>?_) (λhge=>?_)
 ·have hlt:j<g.tys.length:=by omega
  obtain⟨bt,ot,ct,rfl,hct,htc,hcell⟩:=h2.sl.get (by decide) hlt
  obtain⟨q2,cap2,rfl,ht2⟩:=xP htc
  rw[aeq hlt]at hd
  refine gP_ ?_
  refine zu (n:=5) hct (λj v hj=>by rw[tnc];exact S.at (hcell j v hj)) ?_
  refine S.al λb7 w6 S=>?_
  refine S.stB (b:=b7) λw7 S=>?_
  refine gG_ ?_
  refine jX S.holds hst ht2 λw8 e8=>?_
  have S:=S.go e8
  refine gP_ ?_
  refine c_b (λhm=>?_) (λhm=>?_)
  ·have hm:yA u.ss g.tys[j]=false:=by simpa using hm
   rw[no λH=>by
    have:=H.tys
    rw[← hd,tyG,hm,Bool.false_and,Bool.false_and]at this;cases this]at h
   exact h _ S.ext
  have hm:yA u.ss g.tys[j]=true:=by simpa using hm
  refine S.al λb8 w9 S=>?_
  refine S.st (b:=b8) λw10 S=>?_
  refine zs (λ_ w'=>StX noX w r w' [.cell b8 [.int .i64 (if(j:Int)≤g.pn then 0 else -1)] 3,.cell b7 (tyL g.tys[j] q2 cap2) 112,.cell b5 [.string g.name,.int .i64 g.lv,.slice qo g.outs.length capo,.int .i64 g.pn,.slice (some ⟨bt,ot,none⟩) g.tys.length capt,.slice qn g.nms.length capn,.slice qp g.pts.length capp] 74,
   .cell b2 [.slice p0 u.ss.length cap0,.slice (some ⟨bf,of,none⟩) u.fs.length capf,.int .i64 u.mn] 25]) (λK3 hK3=>?_) ?_
  ·refine gG_ ?_
   refine zi (λhle=>?_) (λhgt=>?_)
   ·refine S.st (b:=b8) λw11 S=>?_
    refine hK3 [] _ ?_
    rw[if_pos hle];exact S
   ·refine hK3 [] _ ?_
    rw[if_neg hgt];exact S
  clear S
  rintro _ w11 S d11
  refine S.ldB (b:=b7) ?_ rfl
  refine ZU S.holds ht2 λv7 w12 e12 o12=>?_
  have S:=S.go e12
  obtain⟨p7,cap7,rfl,_,_,_,hs7⟩:=XG o12
  refine gP_ ?_
  have hr48:(yJ g.tys[j]).length≤1000:=by
   rw[yJ];split
   ·have:=aai (by assumption);omega
   ·simp
  refine Xv (f:=λx=>decide (x<(if(j:Int)≤g.pn then 0 else -1))||decide (g.lv≤x)) (λx K hK=>?_) hs7 (by omega) ?_
  ·refine aa3 (by kernel_rfl) ?_
   refine Tryz.JR ?_
   unfold Tryz.Yn
   refine S.ld (b:=b8) ?_ rfl
   refine gP_ ?_
   refine zq (c:=decide (g.lv≤x)) (λ_ K2 hK2=>?_) hK
   refine gG_ ?_
   exact hK2
  have hty:tyG u g j g.tys[j] = !((yJ g.tys[j]).any λx=>decide (x<(if(j:Int)≤g.pn then 0 else -1))||decide (g.lv≤x)):=by
   rw[af4,hm,Bool.true_and]
  refine c_b (λhx=>?_) (λhx=>?_)
  ·rw[hty,hx,Bool.not_true,Bool.false_and]at hd
   rw[no λH=>by have:=H.tys;rw[← hd]at this;cases this]at h
   exact h _ S.ext
  ·rw[hty,hx,Bool.not_false,Bool.true_and]at hd
   refine gP_ ?_
   rw[show ((j:Int)+1)=((j+1:Nat):Int)by omega]
   exact hK6 (j+1) _ ⟨hlt,hd,(S.drop b8).drop b7⟩ (by omega)
 have hje:j=g.tys.length:=by omega
 rw[hje,List.drop_length]at hd
 have htys:jI u g 0 g.tys=true:=hd.symm
 clear hd hK6 K6 hge hj hje
 refine gG_ ?_
 refine zq (c:=decide (1024<g.pts.length)) (λ_ K2 hK2=>?_) ?_
 ·refine gG_ ?_
  rw[show decide ((1024:Int)<(g.pts.length:Int))=decide (1024<g.pts.length)from decide_eq_decide.2 (by omega)]
  exact hK2
 refine je (c:=!YZ g) (λ_ K2 hK2=>?_) λw20 e20=>?_
 ·refine S.ldB (b:=b5) ?_ rfl
  refine Jo S.holds hgc hlv0 hlv8 hpn0 hpn1 (λt ht x hx=>?_) λw21 e21=>?_
  ·obtain⟨k,hk,rfl⟩:=List.getElem_of_mem ht
   rw[List.length_take]at hk
   rw[List.getElem_take]at hx
   have:=abE htys (j:=k) (by omega) (by omega) x hx
   omega
  refine gP_ ?_
  exact hK2 _ e21
 have S:=S.go e20
 refine c_b (λhbad=>?_) (λhgood=>?_)
 ·rw[no λH=>by
   have:=H.pt1;have:=H.pt1024;have h3:=H.outs
   rw[h3]at hbad
   simp only[Bool.or_eq_true,gdt,Bool.not_true,Bool.false_eq_true,or_false]at hbad;omega]at h
  exact h _ S.ext
 have hnum:(1≤g.pts.length∧g.pts.length≤1024)∧YZ g=true:=by
  cases ho:YZ g
  ·rw[ho]at hgood;simp at hgood
  ·simp only[Bool.or_eq_false_iff,decide_eq_false_iff_not]at hgood
   exact⟨by omega,rfl⟩
 clear hgood
 obtain⟨⟨hp1,hp1024⟩,hout⟩:=hnum
 refine gG_ ?_
 refine zj (ι:=Nat) (λi=>[.int .i64 (xa (g.pts.take i):Nat),.int .i64 (i:Nat)]) (λj w'=>j≤g.pts.length∧xa (g.pts.take j)≤j∧StX noX w r w' _) (λi=>g.pts.length-i) 0 rfl ⟨gzl _,Nat.le_refl _,S⟩ ?_
 clear S
 rintro j d w22 ⟨hj,hlj,S⟩ K7 hK7
 simp only[gdz,gds]
 refine gP_ ?_
 refine zi (λhlt=>?_) (λhge=>?_)
 ·have hlt:j<g.pts.length:=by omega
  obtain⟨bp,op,cp,rfl,hcp,hpc,hcell⟩:=h4.sl.get (by decide) hlt
  refine zs (λs w'=>s=[.int .i64 (xa (g.pts.take (j+1)):Nat)]∧StX noX w r w' [.cell b5 [.string g.name,.int .i64 g.lv,.slice qo g.outs.length capo,.int .i64 g.pn,.slice qt g.tys.length capt,.slice qn g.nms.length capn,.slice (some ⟨bp,op,none⟩) g.pts.length capp] 74,
   .cell b2 [.slice p0 u.ss.length cap0,.slice (some ⟨bf,of,none⟩) u.fs.length capf,.int .i64 u.mn] 25]) (λK3 hK3=>?_) ?_
  ·refine gP_ ?_
   refine zu (n:=21) hcp (λj v hj=>by rw[tnc];exact S.at (hcell j v hj)) ?_
   obtain⟨vto,va,vb,vl,vfr,rfl,k1,k2,k3,k4,k5⟩:=hpc
   obtain⟨_,_,rfl,_⟩:=k1.sl.shape
   obtain⟨_,_,rfl,_⟩:=k2.sl.shape
   obtain⟨_,_,rfl,_⟩:=k3.sl.shape
   obtain⟨_,_,rfl,_⟩:=k4.sl.shape
   obtain⟨_,_,rfl,_⟩:=k5.sl.shape
   refine S.al λb11 w23 S=>?_
   refine S.stB (b:=b11) λw24 S=>?_
   refine gG_ ?_
   have hlo:=J5 hlt
   refine zi (λho=>?_) (λho=>?_)
   ·rw[if_pos ho]at hlo
    refine gP_ ?_
    rw[show ((xa (g.pts.take j):Nat):Int)+1=((xa (g.pts.take (j+1)):Nat):Int)by omega]
    exact hK3 _ _ ⟨rfl,S.drop b11⟩
   ·rw[if_neg ho]at hlo
    rw[show ((xa (g.pts.take j):Nat):Int)=((xa (g.pts.take (j+1)):Nat):Int)by omega]
    exact hK3 _ _ ⟨rfl,S.drop b11⟩
  clear S
  rintro _ w25 ⟨rfl,S⟩ d25
  rw[gdz]
  refine gP_ ?_
  rw[show ((j:Int)+1)=((j+1:Nat):Int)by omega]
  refine hK7 (j+1) _ ⟨hlt,?_,S⟩ (by omega)
  rw[J5 hlt];split<;>omega
 have hje:j=g.pts.length:=by omega
 rw[hje,List.take_length]
 refine gP_ ?_
 have hfin:kf u i g=(decide (xa g.pts≤256)&&(decide ((i:Int)≠u.mn)||((decide (g.lv=0)&&decide (g.pn=0))&&isK (g.tys.headD yk) 1))):=by
  rw[kf,htys,hout,gde hlv0,gde hlv8,gde hpn0,gde hpn8,gde hpn1,gde hty,gde hnm,gde hp1,gde hp1024,decide_not];rfl
 rw[hfin]at h
 rw[show decide ((xa g.pts:Int)≤256)=decide (xa g.pts≤256)from decide_eq_decide.2 (by omega)]
 refine afo (b2:=decide ((i:Int)≠u.mn)) (b3:=decide (g.lv=0)) (b4:=decide (g.pn=0)) (b5:=isK (g.tys.headD yk) 1) (λK2 hK2=>?_) (λK2 hK2=>?_) (λK2 hK2=>?_) (λK2 hK2=>?_) (h _ S.ext)
 ·refine gG_ ?_
  exact hK2
 ·refine gG_ ?_
  exact hK2
 ·refine gG_ ?_
  exact hK2
 ·have hpos:0<g.tys.length:=by omega
  obtain⟨bt,ot,ct,rfl,hct,htc,hcell⟩:=h2.sl.get (by decide) hpos
  obtain⟨q2,cap2,rfl,ht2⟩:=xP htc
  refine gG_ ?_
  refine zg (v:=.int .u8 g.tys[0].k) (by simpa using S.at (hcell 0 _ rfl)) ?_
  refine gG_ ?_
  have he:g.tys.headD yk=g.tys[0]:=by
   rw[List.headD_eq_head?_getD,List.head?_eq_getElem?,gqg hpos,Option.getD_some]
  rw[he]at hK2
  exact hK2
theorem aeu{u:UnD}{i:Nat}{l:List GrD}(hi:i<l.length):qj u i (l.drop i)=if kf u i l[i]then qj u (i+1) (l.drop (i+1))else some i:=by
 rw[List.drop_eq_getElem_cons hi];rfl
theorem afp{u:UnD}{g:GrD}{q:Nat}{l:List PtD}(hq:q<l.length):vW u g q (l.drop q)=if yx u g l[q]then vW u g (q+1) (l.drop (q+1))else some q:=by
 rw[List.drop_eq_getElem_cons hq];rfl
theorem af5{u:UnD}{i:Nat}{l:List GrD}(hi:i<l.length):Zv u i (l.drop i)=match vW u l[i] 0 l[i].pts with|some q=>some (i,q)|none=>Zv u (i+1) (l.drop (i+1)):=by
 rw[List.drop_eq_getElem_cons hi];rfl
noncomputable def Va(u:UnD):Int×Int×Int:=match qj u 0 u.fs with
  |some i=>(i,-1,100)
  |none=>match Zv u 0 u.fs with
   |some (i,q)=>(i,q,100)
   |none=>(0,0,0)
theorem aaR{u:UnD}{v:Value}{w:World}{r:Gh}{K:Value→World→Prop}(hr:Holds r w)(hu:UnG r v u)
  (h:∀w',Ext w w'→K (.tuple #[.int .i64 (qk u).1,.int .i64 (qk u).2.1,.int .i64 (qk u).2.2]) w'):zc Tryz.prog Tryz.vw #[v] w K:=by
 have hu0:=hu
 obtain⟨p0,cap0,vf,rfl,_,_,hst,hsl,hfn⟩:=hu
 obtain⟨qf,capf,rfl,_,_⟩:=hfn.sl.shape
 have hfl:u.fs.length≤9223372036854775807:=hfn.few
 refine Tryz.VE ?_
 unfold Tryz.Xf
 have S:=St.start hr
 refine S.box λb1 w1 S=>?_
 refine gG_ ?_
 refine jr S.holds hst λw2 e2=>?_
 have S:=S.go e2
 refine gS_ ?_
 refine zq (c:=decide (u.fs.length<1)) (λ_ K2 hK2=>?_) ?_
 ·refine gG_ ?_
  rw[show decide ((u.fs.length:Int)<1)=decide (u.fs.length<1)from decide_eq_decide.2 (by omega)]
  exact hK2
 refine zq (c:=decide (32<u.fs.length)) (λ_ K2 hK2=>?_) ?_
 ·refine gG_ ?_
  rw[show decide ((32:Int)<(u.fs.length:Int))=decide (32<u.fs.length)from decide_eq_decide.2 (by omega)]
  exact hK2
 refine zq (c:=decide (u.mn<0)) (λ_ K2 hK2=>?_) ?_
 ·refine gG_ ?_
  exact hK2
 refine zq (c:=decide ((u.fs.length:Int)≤u.mn)) (λ_ K2 hK2=>?_) ?_
 ·refine gG_ ?_
  exact hK2
 have hC:qk u=if ((((decide ((zC u.ss).2≠0)||decide (u.fs.length<1))||decide (32<u.fs.length))||decide (u.mn<0))||decide ((u.fs.length:Int)≤u.mn))=true then(-1,-1,100)else Va u:=by
  rw[qk,Va]
  simp only[ne_eq,decide_not,Bool.or_assoc] <;>
  rfl
 rw[hC]at h
 refine c_b (λhbad=>?_) (λhgood=>?_)
 ·rw[if_pos hbad]at h
  exact h _ S.ext
 rw[if_neg (by rw[hgood];decide)]at h
 have hok:(zC u.ss).2=0:=by
  simp only[Bool.or_eq_false_iff,decide_eq_false_iff_not]at hgood;omega
 clear hC hgood
 refine gG_ ?_
 refine zj (ι:=Nat×Int) (λi=>[.int .i64 i.2,.int .i64 0,.int .i64 (i.1:Nat)]) (λj w'=>j.1≤u.fs.length∧qj u j.1 (u.fs.drop j.1)=qj u 0 u.fs∧StX noX w r w' _) (λi=>u.fs.length-i.1) (0,0) rfl ⟨gzl _,rfl,S⟩ ?_
 clear S
 rintro⟨j,a⟩ d w5 ⟨hj,hd,S⟩ K6 hK6
 simp only at hj hd S⊢
 simp only[gdz,gds]
 refine gP_ ?_
 refine zi (λhlt=>?_) (λhge=>?_)
 ·have hlt:j<u.fs.length:=by omega
  rw[aeu hlt]at hd
  refine S.ldB (b:=b1) ?_ rfl
  refine abH hlt S.holds hu0 λw6 e6=>?_
  have S:=S.go e6
  refine gP_ ?_
  refine c_b (λhx=>?_) (λhx=>?_)
  ·rw[if_neg (by simpa using hx)]at hd
   rw[Va,← hd]at h
   exact h _ S.ext
  ·rw[if_pos (by simpa using hx)]at hd
   refine gP_ ?_
   rw[show ((j:Int)+1)=((j+1:Nat):Int)by omega]
   exact hK6 (j+1,j) _ ⟨hlt,hd,S⟩ (by show u.fs.length-(j+1)<u.fs.length-j;omega)
 have hje:j=u.fs.length:=by omega
 rw[hje,List.drop_length]at hd
 have hnone:qj u 0 u.fs=none:=hd.symm
 have hheads:=λ(i:Nat) (hi:i<u.fs.length)=>adu (by have:=qm.1 hnone i hi;rwa[Nat.zero_add]at this:kf u i u.fs[i]=true)
 rw[Va,hnone]at h
 dsimp only at h
 clear hd hK6 K6 hge hj hje
 refine zs (λs w'=>Ext w w'∧((∃x y:Nat,s=[.int .i64 (x:Int),.int .i64 (y:Int),.bool true]∧Zv u 0 u.fs=some (x,y))∨∃x y,s=[x,y,.bool false]∧Zv u 0 u.fs=none)) (λK3 hK3=>?_) ?_
 rotate_left
 ·rintro _ w9 ⟨e9,⟨x,y,rfl,hb⟩|⟨x,y,rfl,hb⟩⟩ d9
  ·rw[hb]at h
   refine c_t rfl ?_
   exact h _ e9
  ·rw[hb]at h
   refine c_f rfl ?_
   exact h _ e9
 refine gG_ ?_
 refine zj (ι:=Nat×Value×Value) (λi=>[i.2.1,i.2.2,.bool false,.int .i64 (i.1:Nat)]) (λj w'=>j.1≤u.fs.length∧Zv u j.1 (u.fs.drop j.1)=Zv u 0 u.fs∧StX noX w r w' _) (λi=>u.fs.length-i.1) (0,.int .i64 a,.int .i64 0) rfl ⟨gzl _,rfl,S⟩ ?_
 clear S
 rintro⟨j,x1,x2⟩ d w5 ⟨hj,hd,S⟩ K6 hK6
 simp only at hj hd S⊢
 simp only[gdz,gds]
 refine gP_ ?_
 refine zi (λhlt=>?_) (λhge=>?_)
 rotate_left
 ·have hje:j=u.fs.length:=by omega
  rw[hje,List.drop_length]at hd
  exact hK3 _ _ ⟨S.ext,.inr ⟨_,_,rfl,hd.symm⟩⟩
 have hlt:j<u.fs.length:=by omega
 obtain⟨bf,of,cf,rfl,hcf,hgc,hfo⟩:=hfn.sl.get (by decide) hlt
 rw[af5 hlt]at hd
 have hH:=hheads j hlt
 have hfin:=hH.fine hok
 have hpn:∀f∈u.fs,0≤f.pn∧f.pn<f.tys.length:=λf hf=>by
  obtain⟨i,hi,rfl⟩:=List.getElem_of_mem hf
  exact⟨(hheads i hi).pn0,(hheads i hi).pn1⟩
 generalize hgi:u.fs[j]=g at hd hgc hH hfin
 obtain⟨vo,vt,vn,vp,rfl,h1,h2,h3,h4⟩:=id hgc
 obtain⟨qo,capo,rfl,_,_⟩:=h1.sl.shape
 obtain⟨qt,capt,rfl,_,hct⟩:=h2.sl.shape
 obtain⟨qn,capn,rfl,_,_⟩:=h3.sl.shape
 obtain⟨qp,capp,rfl,_,_⟩:=h4.sl.shape
 have hptl:g.pts.length≤9223372036854775807:=h4.few
 refine gP_ ?_
 refine zu (n:=7) hcf (λj v hj=>by rw[tnc];exact S.at (hfo j v hj)) ?_
 refine S.al λb9 w6 S=>?_
 refine S.stB (b:=b9) λw7 S=>?_
 refine S.ldB (b:=b1) ?_ rfl
 refine S.ldB (b:=b9) ?_ rfl
 refine zw (cs:=#[.slice p0 u.ss.length cap0,.slice (some ⟨bf,of,none⟩) u.fs.length capf,.int .i64 u.mn,.string g.name,.int .i64 g.lv,.slice qo g.outs.length capo,.int .i64 g.pn,.slice qt g.tys.length capt,.slice qn g.nms.length capn,.slice qp g.pts.length capp]) (by kernel_rfl) ?_
 refine S.al λb10 w8 S=>?_
 refine S.stB (b:=b10) λw9 S=>?_
 refine gG_ ?_
 have hask:AskG r (.agg #[.slice p0 u.ss.length cap0,.slice (some ⟨bf,of,none⟩) u.fs.length capf,.int .i64 u.mn,.string g.name,.int .i64 g.lv,.slice qo g.outs.length capo,.int .i64 g.pn,.slice qt g.tys.length capt,.slice qn g.nms.length capn,.slice qp g.pts.length capp]) u g:=⟨_,_,_,_,_,_,_,rfl,hu0,hgc⟩
 refine zj (ι:=Nat) (λi=>[x1,x2,.bool false,.int .i64 (i:Nat)]) (λk w'=>k≤g.pts.length∧vW u g k (g.pts.drop k)=vW u g 0 g.pts∧StX noX w r w' _) (λi=>g.pts.length-i) 0 rfl ⟨gzl _,rfl,S⟩ ?_
 clear S
 rintro k d w10 ⟨hk,hdk,S⟩ K7 hK7
 simp only[gdz,gds]
 refine gP_ ?_
 refine zi (λhlt2=>?_) (λhge=>?_)
 ·have hlt2:k<g.pts.length:=by omega
  obtain⟨bp,op,cp,rfl,hcp,hpc,hcell⟩:=h4.sl.get (by decide) hlt2
  rw[afp hlt2]at hdk
  refine gP_ ?_
  refine zu (n:=21) hcp (λj v hj=>by rw[tnc];exact S.at (hcell j v hj)) ?_
  obtain⟨vto,va,vb,vl,vfr,rfl,k1,k2,k3,k4,k5⟩:=id hpc
  obtain⟨_,_,rfl,_⟩:=k1.sl.shape
  obtain⟨_,_,rfl,_⟩:=k2.sl.shape
  obtain⟨_,_,rfl,_⟩:=k3.sl.shape
  obtain⟨_,_,rfl,_⟩:=k4.sl.shape
  obtain⟨_,_,rfl,_⟩:=k5.sl.shape
  refine S.al λb12 w11 S=>?_
  refine S.stB (b:=b12) λw12 S=>?_
  refine S.ldB (b:=b10) ?_ rfl
  refine S.ldB (b:=b12) ?_ rfl
  refine Xw S.holds hask hfin hpn hpc λw13 e13=>?_
  have S:=S.go e13
  refine gP_ ?_
  refine c_b (λhx=>?_) (λhx=>?_)
  ·rw[if_neg (by simpa using hx)]at hdk
   rw[← hdk]at hd
   exact hK3 _ _ ⟨S.ext,.inl ⟨j,k,rfl,hd.symm⟩⟩
  ·rw[if_pos (by simpa using hx)]at hdk
   refine gP_ ?_
   rw[show ((k:Int)+1)=((k+1:Nat):Int)by omega]
   exact hK7 (k+1) _ ⟨hlt2,hdk,S.drop b12⟩ (by omega)
 have hke:k=g.pts.length:=by omega
 rw[hke,List.drop_length]at hdk
 rw[← hdk]at hd
 refine gP_ ?_
 rw[show ((j:Int)+1)=((j+1:Nat):Int)by omega]
 exact hK6 (j+1,x1,x2) _ ⟨hlt,hd,(S.drop b10).drop b9⟩ (by show u.fs.length-(j+1)<u.fs.length-j;omega)
theorem acp{u:UnD}{v:Value}{w:World}{r:Gh}{K:Value→World→Prop}(hr:Holds r w)(hu:UnG r v u)
  (h:∀w',Ext w w'→K (.bool (VQ u)) w'):zc Tryz.prog Tryz.Z4 #[v] w K:=by
 refine Tryz.abn ?_
 unfold Tryz.QN
 have hu0:=hu
 obtain⟨p0,cap0,vf,rfl,_,_,hst,hsl,hfn⟩:=hu
 obtain⟨qf,capf,rfl,_,_⟩:=hfn.sl.shape
 have S:=St.start hr
 refine S.box λb1 w1 S=>?_
 refine S.ldB (b:=b1) ?_ rfl
 refine aaR S.holds hu0 λw2 e2=>?_
 have S:=S.go e2
 refine gS_ ?_
 exact h _ S.ext
theorem af6{s:Gh}{p:Option Addr}{n cap:Nat}{l:List Int}(h:SlG 1 s ye (.slice p n cap) l):Ob s λw=>Sl w p (ints l):=λw hw i v hi=>by
 have hlt:i<l.length:=by
  have:=(List.getElem?_eq_some_iff.1 hi).1
  rwa[ka]at this
 have hv:v=.int .i64 l[i]:=by
  rw[ints,List.getElem?_map,gqg hlt]at hi
  exact(Option.some.inj hi).symm
 subst hv
 obtain⟨b,off,c,rfl,hc,hcc,hcell⟩:=h.get (by decide) hlt
 obtain rfl:c=_:=hcc
 have:=hcell 0 _ rfl w hw
 exact⟨b,off,rfl,by simpa using this⟩
end Go.Proofs
namespace Go.Sh
theorem StX.front{X:Nat→Prop}{w0 w:World}{r:Gh}{L M:List Asr}(S:StX X w0 r w L)(b:Nat){c:List Value}{T:TypeId}[h:jH b L c T M]:StX X w0 r w (.cell b c T::M):=S.permO h.h.symm
end Go.Sh
namespace Go.Proofs
open Go.Sh
theorem Y2{u:UnD}{fn q:Int}(h:isU u fn q=true):MayU u∧0≤fn∧∃hlt:fn.toNat<u.fs.length,q<u.fs[fn.toNat].pts.length∧agK u fn q=(agJ u u.fs[fn.toNat],0):=by
 have h0:=h
 rw[isU]at h
 simp only[gba,gdt]at h
 obtain⟨⟨h1,h2⟩,h3,h4⟩:=h
 have hlt:fn.toNat<u.fs.length:=by omega
 rw[gqg hlt]at h4
 exact⟨abG.1 h3,h1,hlt,h4,by rw[agK,if_pos h0,gqg hlt]⟩
def YA:PlD:=⟨0,[]⟩
def Qs:OpD:=⟨0,0,YA⟩
theorem jK{α:Type}{sz:Nat}{r:Gh}{R:List Value→α→Prop}:SlB sz r R (.slice none 0 0) ([]:List α):=⟨SlG.nil,gzl _⟩
abbrev ptL(p:PtD)(q1 q2 q3 q4 q5:Option Addr)(c1 c2 c3 c4 c5:Nat):List Value:=[.int .u8 p.op,.int .i64 p.to.l,.slice q1 p.to.ps.length c1,.int .u8 p.a.k,.int .i64 p.a.n,.int .i64 p.a.pl.l,.slice q2 p.a.pl.ps.length c2,.int .u8 p.b.k,.int .i64 p.b.n,.int .i64 p.b.pl.l,.slice q3 p.b.pl.ps.length c3,.slice q4 p.args.length c4,
 .string p.sign,.int .i64 p.fr.l,.slice q5 p.fr.ps.length c5,.bool p.mu,.int .i64 p.fn,.int .i64 p.st,.int .i64 p.nx,.int .i64 p.el,.int .i64 p.tx]
theorem YB{r:Gh}{c:List Value}{p:PtD}(h:PtG r c p):∃q1 q2 q3 q4 q5 c1 c2 c3 c4 c5,c=ptL p q1 q2 q3 q4 q5 c1 c2 c3 c4 c5∧PtG r (ptL p q1 q2 q3 q4 q5 c1 c2 c3 c4 c5) p:=by
 obtain⟨vto,va,vb,vl,vfr,rfl,k1,k2,k3,k4,k5⟩:=id h
 obtain⟨q1,c1,rfl,_⟩:=k1.sl.shape
 obtain⟨q2,c2,rfl,_⟩:=k2.sl.shape
 obtain⟨q3,c3,rfl,_⟩:=k3.sl.shape
 obtain⟨q4,c4,rfl,_⟩:=k4.sl.shape
 obtain⟨q5,c5,rfl,_⟩:=k5.sl.shape
 exact⟨q1,q2,q3,q4,q5,c1,c2,c3,c4,c5,rfl,h⟩
end Go.Proofs
namespace Go.Sh
theorem StX.mkSU{P:Program}{X:Nat→Prop}{w0 w:World}{r:Gh}{L:List Asr}{t e:TypeId}{bytes:Nat}{kl:IntKind}{n:Int}{z:Value}(S:StX X w0 r w L)[hT:ApT P t e 1 bytes][hz:ZrT P e [z]]{K:Value→World→Prop}(h0:0≤n)(hb:(bytes:Int)*n≤281474976710656)
  (h:∀b w',StX X w0 r w' (.cell b (List.replicate n.toNat z) e::L)→K (.slice (some ⟨b,0,none⟩) n.toNat n.toNat) w'):opW P w (Instr.makeSlice t (.int kl n) (.int kl n)) λt' w'=>Ext w w'∧K t' w':=
 agu hT.h hz.h h0 hb λb w' hb e _ B=>⟨e,h b w' (S.add e (by omega) B)⟩
theorem StX.litNew{w0 w:World}{r:Gh}{L M:List Asr}{α:Type}{sz:Nat}{R:List Value→α→Prop}{l:List α}{e:TypeId}{xs:List Value}(S:StX noX w0 r w L)(b:Nat)[h:jH b L xs e M](hr:RowOf sz R xs l)(hz:0<sz):
  StX noX w0 (r.or (Go.Sh.one b xs e)) w M∧SlG sz (Go.Sh.one b xs e) R (.slice (some ⟨b,0,none⟩) l.length l.length) l∧Above w0 (Go.Sh.one b xs e):=by
 have S1:=S.front b
 have hm:=S1.mine (.cell b xs e) List.mem_cons_self b rfl
 obtain⟨S2,h2⟩:=S1.litSl hr hz
 exact⟨S2,h2,by rintro b' o ⟨rfl,_⟩;exact hm.1.resolve_right id⟩
end Go.Sh
namespace Go.Proofs
open Go.Sh
theorem kQ{α:Type}{sz:Nat}{R:List Value→α→Prop}{c:List Value}{x:α}(hc:c.length=sz)(hx:R c x):RowOf sz R c [x]:=RowOf.nil.snoc (xs:=[]) hc hx
theorem xd{α:Type}{sz:Nat}{R:List Value→α→Prop}{c xs:List Value}{x:α}{l:List α}(hc:c.length=sz)(hx:R c x)(h:RowOf sz R xs l):RowOf sz R (c++xs) (x::l):=by
 obtain⟨h1,h2⟩:=h
 refine⟨by rw[gla,List.length_cons,h1,hc,Nat.succ_mul,Nat.add_comm],λi hi=>?_⟩
 cases i with
 |zero=>rw [Nat.zero_mul,List.drop_zero,List.take_append_of_le_length (by omega),List.take_of_length_le (by omega)];exact hx
 |succ i=>
  have e:((c++xs).drop ((i+1)*sz))=xs.drop (i*sz):=by
   rw[show (i+1)*sz=c.length+i*sz by rw[hc,Nat.succ_mul,Nat.add_comm],← List.drop_drop,List.drop_left'];rfl
  rw[e]
  exact h2 i (by simpa using hi)
theorem Zb{α:Type}{sz:Nat}{r:Gh}{R:List Value→α→Prop}{v:Value}{l:List α}(h:SlG sz r R v l)(hl:l.length≤1000000:=by decide):SlB sz r R v l:=⟨h,by simp only[maxLen];omega⟩
def XZ:TyD:=.mk 4 true (-1) 0 [kc]
def plD(l:Int):PlD:=⟨l,[]⟩
def agO(n:Int):OpD:=⟨1,n,YA⟩
def hp0:PtD:=⟨4,plD 2,Qs,Qs,[],ByteArray.empty,plD 1,true,0,0,1,0,0⟩
def hp1:PtD:=⟨1,plD 1,agO 2,Qs,[],ByteArray.empty,YA,false,0,0,2,0,0⟩
def hp2:PtD:=⟨1,⟨2,[-1]⟩,agO 3,Qs,[],ByteArray.empty,YA,false,0,0,3,0,0⟩
def hp3:PtD:=⟨14,YA,Qs,Qs,[],ByteArray.empty,YA,false,0,0,0,0,0⟩
def zG:GrD:=⟨ByteArray.empty,0,[],0,[kc,kc,XZ],[ByteArray.empty,ByteArray.empty,ByteArray.empty],[hp0,hp1,hp2,hp3]⟩
def zM:UnD:=⟨[],[zG],0⟩
abbrev Zz:List Value:=[.int .u8 1,.bool false,.int .i64 0,.int .i64 0,.slice none 0 0]
abbrev agP:Value:=.agg #[.int .u8 1,.bool false,.int .i64 0,.int .i64 0,.slice none 0 0]
abbrev agQ(n:Int):Value:=.agg #[.int .u8 1,.int .i64 n,.int .i64 0,.slice none 0 0]
abbrev hl0:List Value:=[.int .u8 4,.int .i64 2,.slice none 0 0,.int .u8 0,.int .i64 0,.int .i64 0,.slice none 0 0,.int .u8 0,.int .i64 0,.int .i64 0,.slice none 0 0,.slice none 0 0,.string ByteArray.empty,.int .i64 1,.slice none 0 0,.bool true,.int .i64 0,.int .i64 0,.int .i64 1,.int .i64 0,.int .i64 0]
abbrev hl1:List Value:=[.int .u8 1,.int .i64 1,.slice none 0 0,.int .u8 1,.int .i64 2,.int .i64 0,.slice none 0 0,.int .u8 0,.int .i64 0,.int .i64 0,.slice none 0 0,.slice none 0 0,.string ByteArray.empty,.int .i64 0,.slice none 0 0,.bool false,.int .i64 0,.int .i64 0,.int .i64 2,.int .i64 0,.int .i64 0]
abbrev hl2(b:Nat):List Value:=[.int .u8 1,.int .i64 2,.slice (some ⟨b,0,none⟩) 1 1,.int .u8 1,.int .i64 3,.int .i64 0,.slice none 0 0,.int .u8 0,.int .i64 0,.int .i64 0,.slice none 0 0,.slice none 0 0,.string ByteArray.empty,.int .i64 0,.slice none 0 0,.bool false,.int .i64 0,.int .i64 0,.int .i64 3,.int .i64 0,.int .i64 0]
abbrev hl3:List Value:=[.int .u8 14,.int .i64 0,.slice none 0 0,.int .u8 0,.int .i64 0,.int .i64 0,.slice none 0 0,.int .u8 0,.int .i64 0,.int .i64 0,.slice none 0 0,.slice none 0 0,.string ByteArray.empty,.int .i64 0,.slice none 0 0,.bool false,.int .i64 0,.int .i64 0,.int .i64 0,.int .i64 0,.int .i64 0]
theorem hst:zC ([]:List StD)=(0,0):=by unfold zC;simp[xO]
theorem hmay(t:TyD):yA [] t=z6 0 48 t:=by rw[yA,hst];simp
theorem vY:ByteArray.empty.toList=[]:=by rw[ByteArray.toList_eq];rfl
theorem aev:kf zM 0 zG=true:=by
 have h1:jI zM zG 0 zG.tys=true:=by
  show((yA [] kc&&_)&&((yA [] kc&&_)&&((yA [] XZ&&_)&&true)))=true
  rw[hmay,hmay]
  kernel_rfl
 unfold kf
 rw[h1]
 show(_:Bool)=true
 kernel_rfl
theorem afq:∀p∈zG.pts,yx zM zG p=true:=by
 have hp:zG.pts=[hp0,hp1,hp2,hp3]:=rfl
 rw[hp]
 intro p h
 simp only[List.mem_cons,List.not_mem_nil,or_false]at h
 rcases h with rfl|rfl|rfl|rfl
 ·have e:zz hp0 { to:=true,fr:=true,mu:=true } = true:=by
   rw[zz,kD,show hp0.sign=ByteArray.empty from rfl,vY];kernel_rfl
  have :yx zM zG hp0=(((((zz hp0 { to:=true,fr:=true,mu:=true } && true)&&true)&&true)&&true)&&(true&&true)):=by kernel_rfl
  rw[this,e];rfl
 ·have e:zz hp1 { to:=true,a:=true } = true:=by
   rw[zz,kD,show hp1.sign=ByteArray.empty from rfl,vY];kernel_rfl
  have :yx zM zG hp1=(((zz hp1 { to:=true,a:=true } && true)&&true)&&true):=by kernel_rfl
  rw[this,e];rfl
 ·have e:zz hp2 { to:=true,a:=true } = true:=by
   rw[zz,kD,show hp2.sign=ByteArray.empty from rfl,vY];kernel_rfl
  have :yx zM zG hp2=(((zz hp2 { to:=true,a:=true } && true)&&true)&&true):=by kernel_rfl
  rw[this,e];rfl
 ·have e:zz hp3 {} = true:=by
   rw[zz,kD,show hp3.sign=ByteArray.empty from rfl,vY];kernel_rfl
  have :yx zM zG hp3=zz hp3 {}:=by kernel_rfl
  rw[this,e]
theorem afr:MayU zM:=by
 refine⟨by show(zC []).2=0;rw[hst],by decide,by decide,by decide,by decide,λi hi=>?_,λg hg=>?_⟩
 ·have :i=0:=by have :zM.fs.length=1:=rfl;omega
  subst this
  exact aev
 ·rw[List.mem_singleton.1 hg]
  exact afq
theorem abI{q:Int}(h:q<4):isU zM 0 q=true:=by
 rw[isU,abG.2 afr]
 show(true&&(true&&decide (q<4)))=true
 rw[gde h];rfl
end Go.Proofs
namespace Go.Sh
section
section
variable {P:Program} {t:TypeId} {c:Bool} {K:Value→Prop}
theorem aew{a b:Int}(k:∀x:Int,K (.int .i64 x)):opP P (yh .add t c (.int .i64 a) (.int .i64 b)) K:=
 yz (λw=>by rw[xC];simp[binOp,Op.intArith]) (k (IntKind.i64.wrap (a+b)))
end
end
end Go.Sh
namespace Go.Sh
open Go.RowKit
section
theorem VX(z:Array Value)(n:Nat):(Go.Builtin.zeroCells z n).toList.length=n*z.size∧∀u∈(Go.Builtin.zeroCells z n).toList,u∈z.toList:=by
 refine⟨by simp[Go.Builtin.zeroCells],λu hu=>?_⟩
 simp only[Go.Builtin.zeroCells,Array.toList_map,Array.toList_range,List.mem_map,List.mem_range]at hu
 obtain⟨i,hi,rfl⟩:=hu
 have hz:0<z.size:=by
  rcases Nat.eq_zero_or_pos z.size with h|h
  ·rw[h,Nat.mul_zero]at hi;omega
  ·exact h
 have hm:=Nat.mod_lt i hz
 rw[getElem!_pos z (i%z.size) hm]
 simp
section
variable {P:Program} {X:Nat→Prop} {w0 w:World} {r:Gh} {L:List Asr} {t e T ty:TypeId} {b sz n off cap:Nat} {c z:List Value} {f:List Value→List Asr}
theorem StX.clr{K:Value→World→Prop}(S:StX X w0 r w L)[h:At b L c T f][hs:SlT P t e sz][hz:ZrT P e z](hl:off+n*z.length≤c.length)(h1:∀u∈z,u.oneCell'=true)
  (k:∀c' w',c'.length=c.length→c'.take off=c.take off→StX X w0 r w' (f c')→K (.tuple #[]) w'):opW P w (Builtin.clear_ #[t] ty #[.slice (some ⟨b,off,none⟩) n cap]) K:=by
 have hT:=hs.h
 unfold slT at hT
 cases hu:P.underlying t with
 |none=>rw [hu]at hT;cases hT
 |some d=>
  rw[hu]at hT
  cases d<;>first|(cases hT;done)|skip
  rename_i e'
  simp only[Option.map_eq_some_iff,Prod.mk.injEq]at hT
  obtain⟨m,hm,rfl,rfl⟩:=hT
  have B:=S.blk b (h:=h)
  obtain⟨zv,hzc,hzr⟩:=Zh hz.h
  cases n with
  |zero=>
   have S':StX X w0 r w (f c):=by
    obtain⟨p,q,h1,h2⟩:=h.h
    rw[h2,← h1];exact S
   refine⟨_,w,?_,k c w rfl rfl S'⟩
   simp[Builtin.clear_,run_underlying hu,Sem.run_bind,Sem.run,pure,Result.andThen]
  |succ n=>
   obtain⟨hzl,hzm⟩:=VX zv.cells (n+1)
   have hzs:zv.cells.size=z.length:=by rw[← hzc,Array.length_toList]
   have hst:=run_storeCells_at P b off T (Go.Builtin.zeroCells zv.cells (n+1)).toList 0 c.toArray w B (by
    rw[hzl,hzs];simpa using hl) (λu hu=>h1 u (by rw[← hzc];exact hzm u hu))
   simp only[Nat.add_zero]at hst
   obtain⟨f1,f2,f3⟩:=Zi B (c.take off++(Go.Builtin.zeroCells zv.cells (n+1)).toList++c.drop (off+(Go.Builtin.zeroCells zv.cells (n+1)).toList.length))
   refine⟨_,_,?_,k _ _ ?_ ?_ (S.turnC (h:=h) f1 f3)⟩
   ·simp[Builtin.clear_,run_underlying hu,Sem.run_bind,Sem.run,pure,Result.andThen,hzr,hst]
    try rfl
   ·simp only[gla,List.length_take,List.length_drop,hzl,hzs];omega
   ·rw[List.append_assoc,List.take_append_of_le_length (by rw[List.length_take];omega),List.take_take,Nat.min_self]
end
end
end Go.Sh
namespace Go.Proofs
open Go.Sh
section
variable {g:GrD} {r:Gh} {l:List Int} {p:Option Addr}
theorem jL{u:UnD}{p:PtD}(h:yx u g p=true):ptG u g p=true:=by
 rw[yx,gba]at h;exact h.2
theorem afs{u:UnD}{p:PtD}(h:yx u g p=true)(ho:1≤p.op∧p.op≤8):(zA u.ss g.tys p.to).2.2=true:=by
 have h2:=jL h
 cases hf:(zA u.ss g.tys p.to).2.2 with
 |true=>rfl
 |false=>
  have hc:p.op=1∨p.op=2∨p.op=3∨p.op=4∨p.op=5∨p.op=6∨p.op=7∨p.op=8:=by omega
  rw[ptG]at h2
  rcases hc with hc|hc|hc|hc|hc|hc|hc|hc<;>simp [hc,hf]at h2
theorem adw{ss:List StD}{tys:List TyD}{p:PlD}(h:(zA ss tys p).2.2=true):p.ps.length≤8:=by
 unfold zA at h
 split at h
 ·simpa using h
 ·cases h
abbrev grL(g:GrD)(q1 q2 q3 q4:Option Addr)(c1 c2 c3 c4:Nat):List Value:=[.string g.name,.int .i64 g.lv,.slice q1 g.outs.length c1,.int .i64 g.pn,.slice q2 g.tys.length c2,.slice q3 g.nms.length c3,.slice q4 g.pts.length c4]
theorem acL{c:List Value}(h:GrG r c g):∃q1 q2 q3 q4 c1 c2 c3 c4,c=grL g q1 q2 q3 q4 c1 c2 c3 c4∧GrG r (grL g q1 q2 q3 q4 c1 c2 c3 c4) g:=by
 obtain⟨vo,vt,vn,vp,rfl,k1,k2,k3,k4⟩:=id h
 obtain⟨q1,c1,rfl,_⟩:=k1.sl.shape
 obtain⟨q2,c2,rfl,_⟩:=k2.sl.shape
 obtain⟨q3,c3,rfl,_⟩:=k3.sl.shape
 obtain⟨q4,c4,rfl,_⟩:=k4.sl.shape
 exact⟨q1,q2,q3,q4,c1,c2,c3,c4,rfl,h⟩
theorem aex{n cap:Nat}(h:SlB 1 r yI (.slice p n cap) l):Ob r λw=>Sl w p (ints l):=af6 (h.sl.mono λc x hx=>hx.1)
theorem aey(h:∀x∈l,YX x):RowOf 1 yI (ints l) l:=⟨by rw[ka,Nat.mul_one],λj hj=>by
 refine⟨?_,h _ (gem hj)⟩
 rw[Nat.mul_one,ints,← List.map_drop,← List.map_take,List.drop_eq_getElem_cons hj];rfl⟩
theorem acq{cap:Nat}{w:World}{K:Value→World→Prop}(hr:Holds r w)(hl:SlB 1 r yI (.slice p l.length cap) l)(hb:l.length≤1000000)
  (h:∀v' s w',Ext w w'→New w s w'→SlB 1 s yI v' l→K v' w'):zc Tryz.prog Tryz.yn #[.slice p l.length cap] w K:=by
 refine Tryz.qi ?_
 unfold Tryz.xi
 have S:=St.start hr
 have hin:∀x∈l,YX x:=λx hx=>by
  obtain⟨i,hi,rfl⟩:=List.getElem_of_mem hx
  obtain⟨_,_,_,_,_,hc,_⟩:=hl.sl.get (by decide) hi
  exact hc.2
 obtain⟨_,_,hE,hp,_⟩:=hl.sl.shape
 cases hE
 refine ae3 (e:=76) (n:=1) (by kernel_rfl) ?_
 refine c_b (λhn=>?_) (λhn=>?_)
 ·have hws:l=[]:=by
   cases l with
   |nil=>rfl
   |cons a l=>obtain ⟨b,off,hb,_⟩:=(aex hl w hr) 0 (.int .i64 a) rfl;rw[hb]at hn;cases hn
  subst hws
  exact h _ nothing _ S.ext New.nothing jK
 refine S.lit (e:=76) (cs:=[]) (by kernel_rfl) λb w1 S=>?_
 have S:StX noX w r w1 [.row (.slice (some ⟨b,0,none⟩) 0 0) 76 1 0 []]:=by
  refine⟨S.x,S.holds,λx hx=>?_,λx hx k hk=>?_,List.pairwise_singleton _ _⟩
  ·rw[List.mem_singleton.1 hx]
   have:=jc (w:=w1) (base:=0) (size:=1) (n:=0) (cap:=0) (gzl _) (S.has (.cell b [] 76) (by simp)) (Nat.le_refl _) (by simp[maxLen]) rfl
   exact this
  ·rw[List.mem_singleton.1 hx]at hk
   exact S.mine (.cell b [] 76) (by simp) k (by cases hk;rfl)
 refine S.ap (v:=.slice (some ⟨b,0,none⟩) 0 0) (S.at (aex hl)) (λv2 w2 S=>?_) (by omega) (by rw[ka];omega) hp (ad0 _)
 obtain⟨s,S,hs,_,ha⟩:=S.doneRow (l:=l) (R:=yI) (sz:=1) (by rw[List.nil_append];exact aey hin) (by decide) (by omega)
 exact h _ s _ S.ext (S.newOf λb o ho=>(ha b o ho).resolve_right id) ⟨hs,by simp only[maxLen];omega⟩
end
end Go.Proofs
namespace Go.Sh
open Go.RowKit
section
section
variable {P:Program} {X:Nat→Prop} {w0 w:World} {r:Gh} {L:List Asr} {α:Type} {sz n:Nat} {R:List Value→α→Prop} {l:List α} {e:TypeId} {p:Option Addr} {cap:Nat}
theorem VY(hz:0<sz)(h:SlG sz r R (.slice p n cap) l):∃xs,RowOf sz R xs l∧Ob r λw=>Sl w p xs:=by
 have key:∀k,k≤l.length→∃xs,RowOf sz R xs (l.take k)∧Ob r λw=>Sl w p xs:=by
  intro k
  induction k with
  |zero=>intro _;exact⟨[],by rw[List.take_zero];exact RowOf.nil,λw _=>Sl.nil w _⟩
  |succ k ih=>
   intro hk
   obtain⟨xs,h1,h2⟩:=ih (by omega)
   obtain⟨b,off,c,rfl,hc,hcc,hcell⟩:=h.get hz (show k<l.length by omega)
   have hxl:xs.length=k*sz:=by rw[h1.1,List.length_take,Nat.min_eq_left (by omega)]
   refine⟨xs++c,by rw[List.take_succ_eq_append_getElem (by omega)];exact h1.snoc hc hcc,λw hw i v hi=>?_⟩
   by_cases hlt:i<xs.length
   ·rw[List.getElem?_append_left hlt]at hi;exact h2 w hw i v hi
   ·rw[List.getElem?_append_right (by omega)]at hi
    have:=hcell _ v hi w hw
    exact⟨b,off,rfl,by rwa[show off+k*sz+(i-xs.length)=off+i by omega]at this⟩
 have:=key l.length (Nat.le_refl _)
 rwa[List.take_length]at this
theorem vZ{xs:List Value}(h:RowOf sz R xs l)(hz:0<sz)(h1:∀c x,R c x→∀u∈c,u.oneCell'=true):∀u∈xs,u.oneCell'=true:=λu hu=>by
 obtain⟨i,hi,rfl⟩:=List.getElem_of_mem hu
 have hj:i/sz<l.length:=by
  rw[h.1]at hi
  exact Nat.div_lt_of_lt_mul (by rw[Nat.mul_comm];exact hi)
 refine h1 _ _ (h.2 _ hj) _ ?_
 have hm:=Nat.mod_lt i hz
 have hd:=Nat.div_add_mod i sz
 refine List.mem_of_getElem? (i:=i%sz) ?_
 rw[List.getElem?_take,if_pos hm,List.getElem?_drop,show i/sz*sz+i%sz=i by rw[Nat.mul_comm];exact hd,gqg hi]
theorem StX.cellRow{b:Nat}{c:List Value}(S:StX X w0 r w (.cell b c e::L))(hn:n≤cap)(hc:c.length=cap*sz)(hm:cap≤maxLen):StX X w0 r w (.row (.slice (some ⟨b,0,none⟩) n cap) e sz n (c.take (n*sz))::L):=by
 have:=jc (w:=w) (base:=0) (size:=sz) (n:=n) (cap:=cap) (gzl _) (S.has (.cell b c e) List.mem_cons_self) hn hm hc
 exact S.turn (p:=[]) (x:=.cell b c e) (y:=.row (.slice (some ⟨b,0,none⟩) n cap) e sz n (c.take (n*sz))) (ExtBut.refl _ _) this λk hk=>.inl (by cases hk;rfl)
end
end
end Go.Sh
namespace Go.Proofs
open Go.Sh
theorem Zc{r:Gh}{c:List Value}{o:OpD}(h:OpG r c o):∃q k,c=[.int .u8 o.k,.int .i64 o.n,.int .i64 o.pl.l,.slice q o.pl.ps.length k]:=by
 obtain⟨v,rfl,hl⟩:=h
 obtain⟨q,k,rfl,_⟩:=hl.sl.shape
 exact⟨q,k,rfl⟩
theorem qu{r:Gh}{c:List Value}{o:OpD}(h:OpG r c o):c.length=4:=by obtain⟨q,k,rfl⟩:=Zc h;rfl
theorem VZ{r:Gh}{c:List Value}{o:OpD}(h:OpG r c o):∀u∈c,u.oneCell'=true:=by obtain⟨q,k,rfl⟩:=Zc h;simp[Value.oneCell']
def adx(o:OpD):Bool:=decide (o.k≠0)
def abJ(p:PtD):List OpD:=(p.a::p.b::p.args).filter adx
abbrev qH(c:List Value)(i:Nat):List Value:=(c.drop (i*4)).take 4
theorem af7{c cs:List Value}{i m:Nat}(hc:i*4+4≤c.length)(hl:cs.length=4)(hm:i<m):qH (c.take (i*4)++cs++c.drop (i*4+4)) m=qH c m:=by
 have e:(c.take (i*4)++cs++c.drop (i*4+4)).drop (m*4)=c.drop (m*4):=by
  rw[List.drop_append,List.drop_of_length_le (by rw[gla,List.length_take,hl];omega),List.nil_append,gla,List.length_take,hl,List.drop_drop]
  congr 1;omega
 rw[qH,e]
theorem af8{c cs:List Value}{i:Nat}(hc:i*4+4≤c.length)(hl:cs.length=4):(c.take (i*4)++cs++c.drop (i*4+4)).take ((i+1)*4)=c.take (i*4)++cs:=by
 rw[List.take_append_of_le_length (by rw[gla,List.length_take,hl];omega),List.take_of_length_le (by rw[gla,List.length_take,hl];omega)]
section
variable {u:UnD} {g:GrD} {p:PtD}
theorem Y3{ss:List StD}{tys:List TyD}:∀{l:List OpD}{ts:List TyD},ke ss tys l ts=true→l.length=ts.length∧∀(i:Nat)(hi:i<l.length)(hj:i<ts.length),(z7 ss tys l[i]).2=true∧yw xj (z7 ss tys l[i]).1 ts[i]=true
 |[],[],_=>⟨rfl,λi hi=>absurd hi (Nat.not_lt_zero _)⟩
 |[],_::_,h=>by cases h
 |_::_,[],h=>by cases h
 |o::l,t::r,h=>by
  rw[Y0,gba,gba]at h
  obtain⟨h1,h2⟩:=Y3 h.2
  refine⟨by simp[h1],λi hi hj=>?_⟩
  cases i with
  |zero=>exact h.1
  |succ i=>exact h2 i (by simpa using hi) (by simpa using hj)
theorem aez{ss:List StD}{tys:List TyD}{o:OpD}(h:(z7 ss tys o).2=true)(hk:o.k=3∨o.k=4):(zA ss tys o.pl).2.2=true∧(z7 ss tys o).1=(zA ss tys o.pl).1:=by
 unfold z7 at h⊢
 rw[if_neg (by omega),if_neg (by omega)]at h⊢
 rcases hk with hk|hk
 ·rw[if_pos hk]at h⊢
  simp only[gba]at h
  exact⟨h.1.1,rfl⟩
 ·rw[if_neg (by omega),if_pos hk]at h⊢
  simp only[gba]at h
  exact⟨h.1.1.1,rfl⟩
theorem af9{o:OpD}(h:o.k≠0):YY o=false:=by rw[YY,decide_eq_false h];rfl
theorem Ye(h:ptG u g p=true):1≤p.op∧p.op≤14:=by
 refine Classical.byContradiction λhc=>?_
 rw[ptG]at h
 rw[if_neg (by omega),if_neg (by omega),if_neg (by omega),if_neg (by omega),if_neg (by omega),if_neg (by omega),if_neg (by omega),if_neg (by omega),if_neg (by omega),if_neg (by omega),if_neg (by omega),if_neg (by omega),if_neg (by omega)]at h
 cases h
theorem aeA(h:yx u g p=true):∀o∈abJ p,(z7 u.ss g.tys o).2=true:=by
 have h2:=jL h
 intro o ho
 rw[abJ,List.mem_filter,adx,gdt]at ho
 obtain⟨hm,hk⟩:=ho
 have hn:=af9 hk
 have hc:p.op=1∨p.op=2∨p.op=3∨p.op=4∨p.op=5∨p.op=6∨p.op=7∨p.op=8∨p.op=9∨p.op=10∨p.op=11∨p.op=12∨p.op=13∨p.op=14:=by
  have:=Ye h2
  omega
 cases hf:(z7 u.ss g.tys o).2 with
 |true=>rfl
 |false=>
  exfalso
  rw[List.mem_cons,List.mem_cons]at hm
  rw[ptG]at h2
  rcases hm with rfl|rfl|hm
  ·rcases hc with hc|hc|hc|hc|hc|hc|hc|hc|hc|hc|hc|hc|hc|hc<;>simp [hc,hf,hn,zz,kD]at h2
  ·rcases hc with hc|hc|hc|hc|hc|hc|hc|hc|hc|hc|hc|hc|hc|hc<;>simp [hc,hf,hn,zz,kD]at h2
  ·have hne:p.args.length≠0:=λh0=>by rw[List.eq_nil_of_length_eq_zero h0]at hm;cases hm
   obtain⟨i,hi,rfl⟩:=List.getElem_of_mem hm
   have harg:∀ts,ke u.ss g.tys p.args ts=false:=λts=>by
    cases ha:ke u.ss g.tys p.args ts with
    |false=>rfl
    |true=>
     obtain⟨hl,hx⟩:=Y3 ha
     have:=(hx i hi (by omega)).1
     rw[hf]at this;cases this
   have hne':p.args≠[]:=λh0=>hne (by rw[h0];rfl)
   rcases hc with hc|hc|hc|hc|hc|hc|hc|hc|hc|hc|hc|hc|hc|hc<;>first|(simp[hc,hne,hne',zz,kD]at h2;done)|(simp[hc,hne,hne',zz,kD,harg]at h2;try (split at h2<;>simp_all))
theorem Y4(hM:MayU u)(h:yx u g p=true):p.args.length≤1000:=by
 have h2:=jL h
 by_cases hne:p.args.length=0
 ·omega
 have hne':p.args≠[]:=λh0=>hne (by rw[h0];rfl)
 rw[ptG]at h2
 by_cases h6:p.op=6
 ·simp only[h6,Int.reduceEq,if_false,if_true,gba,gdt,isK]at h2
  have hl:=(Y3 h2.2).1
  have hf:(xu u.ss (zA u.ss g.tys p.to).1).1.length≤8:=by
   rw[xu]
   split
   ·exact Yw (jq hM.ok).2.1 _
   ·simp
  omega
 by_cases h7:p.op=7
 ·simp only[h7,Int.reduceEq,if_false,if_true,gba,gdt]at h2
  have hlt:p.fn.toNat<u.fs.length:=by omega
  rw[gqg hlt]at h2
  have h3:=h2.2
  simp only[gba]at h3
  have hl:=(Y3 h3.2).1
  have:=(hM.hd hlt).pn8
  rw[List.length_take]at hl
  omega
 ·exfalso
  have hc:p.op=1∨p.op=2∨p.op=3∨p.op=4∨p.op=5∨p.op=8∨p.op=9∨p.op=10∨p.op=11∨p.op=12∨p.op=13∨p.op=14:=by
   have:=Ye (jL h)
   omega
  rcases hc with hc|hc|hc|hc|hc|hc|hc|hc|hc|hc|hc|hc<;>simp [hc,hne,hne',zz,kD]at h2
end
end Go.Proofs
namespace Go.Proofs.Tryz
open Go.Sh
def X0(t0 t1:Value)(w:World)(K:VW):Prop:=
 pw w (Instr.box 59 t0) λt2 w1=>
 pw w1 (Instr.box 59 t1) λt3 w2=>
 lo w2 59 t2 λt5=>lo w2 59 t3 λt6=>ca yi #[t5,t6] w2 λt7 w3=>
 bt .eql 3 t7 (i6 0) λt8=>K t8 w3
theorem aaS{t0 t1:Value}{w:World}{K:VW}(h:X0 t0 t1 w K):zc prog jl #[t0,t1] w K:=
 okC false (.s (.r (rz 3 0 10)) (.s (.r (rz 5 0 37)) (.n))) func59 rfl (by kernel_rfl) (by kernel_rfl) h
def vC(t0 t1:Value)(w:World)(K:VW):Prop:=
 pw w (Instr.box 59 t0) λt2 w1=>
 pw w1 (Instr.box 59 t1) λt3 w2=>
 fl w2.drew t2 59 0 3 λt6=>fl w2.drew t3 59 0 3 λt8=>fl w2.drew t2 59 1 57 λt11=>fl w2.drew t3 59 1 57 λt13=>ca qc #[t6,t8] w2.drew λt9 w3=>
 Ext w2.drew w3∧
 ca zT #[t11,t13] w3 λt14 w4=>
 pw w4 (Instr.buildSlice 26 2 #[(0,t9),(1,t14)]) λt15 w5=>
 ca jm #[t15] w5 λt16 w6=>
 K t16 w6
theorem YC{t0 t1:Value}{w:World}{K:VW}(h:vC t0 t1 w K):zc prog yi #[t0,t1] w K:=
 okC false (.s (.r (rz 3 0 10)) (.s (.r (ra 4 0 68 (ra 4 5 68 (ra 1 4 3 (rz 4 9 42))))) (.n))) func49 rfl (by kernel_rfl) (by kernel_rfl) h
section
variable {t0 t1:Value} {w:World} {K:VW}
def ZA(t0:Value)(w:World)(K:VW):Prop:=
 pp (Builtin.len_ #[26] 3 #[t0]) λt7=>zt [(i6 0)] w (λs2 _d3 w4 K1=>
 bf .lss 3 (s2.getD 0 u_) t7 λt9=>zb t9 (xl w4 26 t0 (s2.getD 0 u_) 3 λt11=>bf .neq 3 t11 (i6 0) λt14=>zb t14 (K t11 w4) (bt .add 3 (s2.getD 0 u_) (i6 1) λt16=>K1 [t16] w4)) (K (i6 0) w4))
theorem Xm(h:ZA t0 w K):zc prog jm #[t0] w K:=
 okC false (.s (.r (rz 1 0 0)) (.s (.r (rz 1 0 0)) (.s (.s (.r (rz 3 0 0)) (.b (.lp [8] (.s (.r (rz 1 0 0)) (.s (.c (.n) (.n)) (.s (.b (.s (.r (rz 3 0 4)) (.s (.r (rz 3 0 0)) (.c (.s (.r (rz 2 0 0)) (.n)) (.n))))) (.r (rz 2 0 0)))))))) (.s (.r (rz 2 0 0)) (.n))))) func81 rfl (by kernel_rfl) (by kernel_rfl) h
def vN(t0 t1:Value)(w:World)(K:VW):Prop:=
 ca kA #[t0] w λt8 w1=>
 ca kA #[t1] w1 λt10 w2=>
 zb t8 (zb t10 (K (i6 0) w2) (K (i6 (-1)) w2)) (zb t10 (K (i6 1) w2) (bf .lss 3 t0 t1 λt16=>zb t16 (K (i6 (-1)) w2) (bf .gtr 3 t0 t1 λt19=>zb t19 (K (i6 1) w2) (K (i6 0) w2))))
theorem X1(h:vN t0 t1 w K):zc prog qc #[t0,t1] w K:=
 okC false (.s (.r (rz 1 0 0)) (.s (.r (rz 3 0 8)) (.s (.r (rz 3 0 8)) (.s (.s (.r (rz 1 0 0)) (.c (.s (.s (.r (rz 1 0 0)) (.c (.s (.r (rz 1 0 0)) (.n)) (.n))) (.s (.r (rz 1 0 0)) (.n))) (.n))) (.s (.s (.r (rz 1 0 0)) (.c (.s (.r (rz 1 0 0)) (.n)) (.n))) (.s (.s (.r (rz 3 0 0)) (.c (.s (.r (rz 1 0 0)) (.n)) (.n))) (.s (.s (.r (rz 3 0 0)) (.c (.s (.r (rz 1 0 0)) (.n)) (.n))) (.s (.r (rz 1 0 0)) (.n))))))))) func82 rfl (by kernel_rfl) (by kernel_rfl) h
def yf(t0 t1:Value)(w:World)(K:VW):Prop:=
 pp (Builtin.len_ #[57] 3 #[t0]) λt10=>zt [(i6 0)] w (λs2 _d3 w4 K1=>
 bf .lss 3 (s2.getD 0 u_) t10 λt12=>zb t12 (xl w4 57 t0 (s2.getD 0 u_) 76 λt15=>pp (Builtin.len_ #[57] 3 #[t1]) λt18=>bf .geq 3 (s2.getD 0 u_) t18 λt19=>zb t19 (K (i6 1) w4) (xl w4 57 t1 (s2.getD 0 u_) 76 λt23=>ca xD #[t15,t23] w4 λt26 w5=>
 bt .neq 3 t26 (i6 0) λt28=>zb t28 (K t26 w5) (bt .add 3 (s2.getD 0 u_) (i6 1) λt30=>K1 [t30] w5))) (pp (Builtin.len_ #[57] 3 #[t0]) λt32=>pp (Builtin.len_ #[57] 3 #[t1]) λt34=>bf .lss 3 t32 t34 λt35=>zb t35 (K (i6 (-1)) w4) (K (i6 0) w4)))
theorem yY(h:yf t0 t1 w K):zc prog zT #[t0,t1] w K:=
 okC false (.s (.r (rz 1 0 0)) (.s (.s (.r (rz 3 0 0)) (.b (.lp [11] (.s (.r (rz 1 0 0)) (.s (.c (.n) (.n)) (.s (.b (.s (.r (rz 5 0 16)) (.s (.s (.r (rz 4 0 0)) (.c (.s (.r (rz 1 0 0)) (.n)) (.n))) (.s (.r (rz 5 0 64)) (.s (.r (rz 4 0 32)) (.s (.r (rz 2 0 0)) (.c (.s (.r (rz 2 0 0)) (.n)) (.n)))))))) (.r (rz 2 0 0)))))))) (.s (.s (.r (rz 5 0 0)) (.c (.s (.r (rz 1 0 0)) (.n)) (.n))) (.s (.r (rz 1 0 0)) (.n))))) func83 rfl (by kernel_rfl) (by kernel_rfl) h
def qv(t0 t1:Value)(w:World)(K:VW):Prop:=
 ca xb #[t0] w λt8 w1=>
 ca xb #[t1] w1 λt10 w2=>
 zb t8 (zb t10 (K (i6 0) w2) (K (i6 (-1)) w2)) (zb t10 (K (i6 1) w2) (bf .lss 76 t0 t1 λt16=>zb t16 (K (i6 (-1)) w2) (bf .gtr 76 t0 t1 λt19=>zb t19 (K (i6 1) w2) (K (i6 0) w2))))
theorem ZG(h:qv t0 t1 w K):zc prog xD #[t0,t1] w K:=
 okC false (.s (.r (rz 1 0 0)) (.s (.r (rz 3 0 8)) (.s (.r (rz 3 0 8)) (.s (.s (.r (rz 1 0 0)) (.c (.s (.s (.r (rz 1 0 0)) (.c (.s (.r (rz 1 0 0)) (.n)) (.n))) (.s (.r (rz 1 0 0)) (.n))) (.n))) (.s (.s (.r (rz 1 0 0)) (.c (.s (.r (rz 1 0 0)) (.n)) (.n))) (.s (.s (.r (rz 3 0 0)) (.c (.s (.r (rz 1 0 0)) (.n)) (.n))) (.s (.s (.r (rz 3 0 0)) (.c (.s (.r (rz 1 0 0)) (.n)) (.n))) (.s (.r (rz 1 0 0)) (.n))))))))) func108 rfl (by kernel_rfl) (by kernel_rfl) h
def ZW(t0:Value)(w:World)(K:VW):Prop:=
 bf .neq 3 t0 t0 λt5=>K t5 w
theorem Jq(h:ZW t0 w K):zc prog kA #[t0] w K:=
 okC false (.s (.r (rz 1 0 0)) (.s (.r (rz 4 0 0)) (.n))) func107 rfl (by kernel_rfl) (by kernel_rfl) h
def ju(t0:Value)(w:World)(K:VW):Prop:=
 bf .neq 76 t0 t0 λt5=>K t5 w
theorem YD(h:ju t0 w K):zc prog xb #[t0] w K:=
 okC false (.s (.r (rz 1 0 0)) (.s (.r (rz 4 0 0)) (.n))) func145 rfl (by kernel_rfl) (by kernel_rfl) h
end
end Go.Proofs.Tryz
namespace Go.Proofs
open Go.Sh
section
variable {w:World} {K:Value→World→Prop} {x y:Int} {α:Type} {r:Gh} {p q:PlD} {c d:List Value}
noncomputable def eqb{α:Type}(x y:α):Bool:=@decide (x=y) (Classical.propDecidable _)
theorem Zd{x y:α}:eqb x y=true↔x=y:=by
 rw[eqb];exact @decide_eq_true_iff _ (Classical.propDecidable _)
theorem agR{x y:α}{b:Bool}(h:b=true↔x=y):b=eqb x y:=by
 rw[Bool.eq_iff_iff,h,Zd]
theorem agS{x y:α}(h:x≠y):eqb x y=false:=by
 cases e:eqb x y
 ·rfl
 ·exact absurd (Zd.1 e) h
theorem abK(x:α):eqb x x=true:=Zd.2 rfl
theorem QV(h:K (.bool false) w):zc Tryz.prog Tryz.kA #[.int .i64 x] w K:=by
 refine Tryz.Jq ?_
 unfold Tryz.ZW
 refine gg_ ?_
 simpa using h
theorem X2(h:K (.bool false) w):zc Tryz.prog Tryz.xb #[.int .i64 x] w K:=by
 refine Tryz.YD ?_
 unfold Tryz.ju
 refine gg_ ?_
 simpa using h
def xk(x y:Int):Int:=if x<y then -1 else if y<x then 1 else 0
theorem xB:xk x y=0↔x=y:=by
 unfold xk;split
 ·constructor<;>intro h<;>omega
 split<;>constructor<;>intro h<;>omega
theorem Xn(h:K (.int .i64 (xk x y)) w):zc Tryz.prog Tryz.qc #[.int .i64 x,.int .i64 y] w K:=by
 refine Tryz.X1 ?_
 unfold Tryz.vN
 refine QV (QV (c_f rfl (c_f rfl ?_)))
 unfold xk at h
 refine gg_ ?_
 refine zi (λh1=>?_) (λh1=>?_)
 ·rwa[if_pos h1]at h
 refine gg_ ?_
 refine zi (λh2=>?_) (λh2=>?_)
 ·rwa[if_neg h1,if_pos h2]at h
 ·rwa[if_neg h1,if_neg h2]at h
theorem YE(h:K (.int .i64 (xk x y)) w):zc Tryz.prog Tryz.xD #[.int .i64 x,.int .i64 y] w K:=by
 refine Tryz.ZG ?_
 unfold Tryz.qv
 refine X2 (X2 (c_f rfl (c_f rfl ?_)))
 unfold xk at h
 refine gg_ ?_
 refine zi (λh1=>?_) (λh1=>?_)
 ·rwa[if_pos h1]at h
 refine gg_ ?_
 refine zi (λh2=>?_) (λh2=>?_)
 ·rwa[if_neg h1,if_pos h2]at h
 ·rwa[if_neg h1,if_neg h2]at h
theorem Jr{l m:List Int}{va vb:Value}{K:Value→World→Prop}(hr:Holds r w)(ha:SlB 1 r yI va l)(hb:SlB 1 r yI vb m)
  (h:∀x w',Ext w w'→(x=0↔l=m)→K (.int .i64 x) w'):zc Tryz.prog Tryz.zT #[va,vb] w K:=by
 refine Tryz.yY ?_
 unfold Tryz.yf
 obtain⟨pa,ca,rfl,_,_⟩:=ha.sl.shape
 obtain⟨pb,cb,rfl,_,_⟩:=hb.sl.shape
 have hla:l.length≤9223372036854775807:=ha.few
 have S:=St.start hr
 refine gg_ ?_
 refine zj (ι:=Nat) (λi=>[.int .i64 (i:Nat)]) (λi w'=>i≤l.length∧i≤m.length∧l.take i=m.take i∧StX noX w r w' []) (λi=>l.length-i) 0 rfl ⟨gzl _,gzl _,rfl,S⟩ ?_
 clear S
 rintro i d w4 ⟨hi,him,htk,S⟩ K1 hK1
 rw[gdz]
 refine gg_ ?_
 refine zi (λhlt=>?_) (λhge=>?_)
 ·have hlt:i<l.length:=by omega
  obtain⟨ba,oa,c,rfl,hcl,⟨rfl,_⟩,hca⟩:=ha.sl.get (by decide) hlt
  refine gg_ ?_
  refine zg (v:=.int .i64 l[i]) (by simpa using S.at (hca 0 _ rfl)) ?_
  refine gg_ ?_
  refine zi (λhbig=>?_) (λhsm=>?_)
  ·refine h 1 _ S.ext ⟨λe=>absurd e (by decide),λe=>?_⟩
   subst e;omega
  have hlt2:i<m.length:=by omega
  obtain⟨bb,ob,d,rfl,hdl,⟨rfl,_⟩,hcb⟩:=hb.sl.get (by decide) hlt2
  refine gg_ ?_
  refine zg (v:=.int .i64 m[i]) (by simpa using S.at (hcb 0 _ rfl)) ?_
  refine YE ?_
  refine gg_ ?_
  refine zi (λhne=>?_) (λheq=>?_)
  ·refine h _ _ S.ext ⟨λe=>absurd e hne,λe=>?_⟩
   subst e;exact xB.2 rfl
  ·have he:l[i]=m[i]:=xB.1 (Decidable.not_not.1 heq)
   refine gg_ ?_
   refine hK1 (i+1) _ ⟨hlt,hlt2,?_,S⟩ (by omega)
   rw[List.take_succ_eq_append_getElem hlt,List.take_succ_eq_append_getElem hlt2,htk,he]
 have hie:i=l.length:=by omega
 subst hie
 rw[List.take_length]at htk
 refine gg_ ?_
 refine zi (λh1=>?_) (λh1=>?_)
 ·refine h _ _ S.ext ⟨λe=>absurd e (by decide),λe=>?_⟩
  subst e;omega
 ·refine h _ _ S.ext ⟨λ_=>?_,λ_=>rfl⟩
  rw[htk,List.take_of_length_le (by omega)]
theorem aft{b:Nat}{K:Value→World→Prop}(hr:Holds r w)(h0:Ob r λw=>w.cell? ⟨b,0,none⟩=some (.int .i64 x))(h1:Ob r λw=>w.cell? ⟨b,1,none⟩=some (.int .i64 y))
  (h:∀w',Ext w w'→K (.int .i64 (if x≠0 then x else y)) w'):zc Tryz.prog Tryz.jm #[.slice (some ⟨b,0,none⟩) 2 2] w K:=by
 refine Tryz.Xm ?_
 unfold Tryz.ZA
 have S:=St.start hr
 refine gg_ ?_
 refine zj (ι:=Nat) (λi=>[.int .i64 (i:Nat)]) (λi w'=>i≤2∧(0<i→x=0)∧(1<i→y=0)∧StX noX w r w' []) (λi=>2-i) 0 rfl ⟨by decide,λh=>absurd h (by decide),λh=>absurd h (by decide),S⟩ ?_
 clear S
 rintro i d w4 ⟨hi,hx,hy,S⟩ K1 hK1
 rw[gdz]
 refine gg_ ?_
 refine zi (λhlt=>?_) (λhge=>?_)
 ·have hi2:i=0∨i=1:=by omega
  rcases hi2 with rfl|rfl
  ·refine gg_ ?_
   refine zg (v:=.int .i64 x) (by simpa using S.at h0) ?_
   refine gg_ ?_
   refine zi (λhne=>?_) (λheq=>?_)
   ·have:=h _ S.ext;rwa[if_pos hne]at this
   refine gg_ ?_
   exact hK1 1 _ ⟨by decide,λ_=>by omega,λh=>absurd h (by decide),S⟩ (by decide)
  ·refine gg_ ?_
   refine zg (v:=.int .i64 y) (by simpa using S.at h1) ?_
   refine gg_ ?_
   refine zi (λhne=>?_) (λheq=>?_)
   ·have:=h _ S.ext;rwa[if_neg (by have:=hx (by decide);omega)]at this
   refine gg_ ?_
   exact hK1 2 _ ⟨by decide,λ_=>hx (by decide),λ_=>by omega,S⟩ (by decide)
 have hie:i=2:=by omega
 subst hie
 have:=h _ S.ext
 rwa[if_neg (by have:=hx (by decide);omega),hy (by decide)]at this
theorem PlD.eq_iff:p=q↔p.l=q.l∧p.ps=q.ps:=by
 cases p;cases q;simp
theorem aaT{K:Value→World→Prop}(hr:Holds r w)(hp:PlG r c p)(hq:PlG r d q)
  (h:∀x w',Ext w w'→(x=0↔p=q)→K (.int .i64 x) w'):zc Tryz.prog Tryz.yi #[.agg c.toArray,.agg d.toArray] w K:=by
 refine Tryz.YC ?_
 unfold Tryz.vC
 obtain⟨v,rfl,hv⟩:=hp
 obtain⟨u,rfl,hu⟩:=hq
 obtain⟨pa,ca,rfl,_,_⟩:=hv.sl.shape
 obtain⟨pb,cb,rfl,_,_⟩:=hu.sl.shape
 have S:=St.start hr
 refine S.box λb2 w1 S=>?_
 have S:StX noX w r w1 [.cell b2 [.int .i64 p.l,.slice pa p.ps.length ca] 59]:=S
 refine S.box λb3 w2 S=>?_
 have S:StX noX w r w2 [.cell b3 [.int .i64 q.l,.slice pb q.ps.length cb] 59,.cell b2 [.int .i64 p.l,.slice pa p.ps.length ca] 59]:=S
 have S:=S.go (Ext.drew _)
 refine gg_ ?_
 refine Xn ⟨Ext.refl _,?_⟩
 refine Jr S.holds hv hu λx w4 e4 hx=>?_
 have S:=S.go e4
 refine S.lit (e:=3) (cs:=[.int .i64 (xk p.l q.l),.int .i64 x]) (by kernel_rfl) λb15 w5 S=>?_
 have hB:=S.blk b15
 refine aft (x:=xk p.l q.l) (y:=x) (r:=Go.Sh.one b15 [.int .i64 (xk p.l q.l),.int .i64 x] 3) (xV hB) (λw h=>((yN w h).cell 0).trans rfl) (λw h=>((yN w h).cell 1).trans rfl) λw6 e6=>?_
 refine h _ _ (S.go e6).ext ?_
 rw[PlD.eq_iff,← hx,← xB (x:=p.l)]
 constructor
 ·intro e
  split at e
  ·exact absurd e (by assumption)
  ·exact⟨by omega,e⟩
 ·rintro⟨e1,e2⟩
  rw[if_neg (by omega),e2]
theorem X3{K:Value→World→Prop}(hr:Holds r w)(hp:PlG r c p)(hq:PlG r d q)
  (h:∀w',Ext w w'→K (.bool (eqb p q)) w'):zc Tryz.prog Tryz.jl #[.agg c.toArray,.agg d.toArray] w K:=by
 refine Tryz.aaS ?_
 unfold Tryz.X0
 obtain⟨v,rfl,hv⟩:=id hp
 obtain⟨u,rfl,hu⟩:=id hq
 have S:=St.start hr
 refine S.box λb2 w1 S=>?_
 refine S.box λb3 w2 S=>?_
 refine S.ldB (b:=b2) ?_ rfl
 refine S.ldB (b:=b3) ?_ rfl
 refine aaT S.holds hp hq λx w4 e4 hx=>?_
 refine gg_ ?_
 have:=h _ (S.go e4).ext
 rwa[← agR (b:=decide (x=0)) (by rw[decide_eq_true_iff,hx])]at this
end
section
variable {ss:List StD} {tys:List TyD}
def Qt(m:Int):List Int→Int
 |[]=>m
 |k::l=>Qt (max m k) l
theorem Js{ss:List StD}:∀(l:List Int)(t:TyD)(m:Int),0≤m→goG ss l (t,m)=(zL ss l t).map λx=>(x.1,Qt m x.2)
 |[],t,m,_=>rfl
 |k::l,t,m,hm=>by
  have hs:stepG ss (t,m) k=(yl ss t k).map λs=>(s.1,max m s.2):=by
   unfold stepG yl
   split
   ·cases t.of.head?<;>rfl
   split
   ·cases t.of.head?<;>rfl
   split
   ·cases(ze ss t.st)[k.toNat]? with
    |none=>rfl
    |some u=>show some (u,m)=some (u,max m 0);rw[Int.max_eq_left hm]
   ·rfl
  rw[goG,zL,hs]
  cases h1:yl ss t k with
  |none=>rfl
  |some s=>
   show goG ss l (s.1,max m s.2)=((zL ss l s.1).map _).map _
   rw[Js l s.1 (max m s.2) (by omega),Option.map_map]
   rfl
theorem aas{t:TyD}{ps:List Int}(hst:(zC ss).2=0)(hm:yA ss t=true):zN ss [t] ⟨0,ps⟩=if ps.length≤8 then zL ss ps t else none:=by
 have e:yW ss [t] ⟨0,ps⟩=decide (ps.length≤8):=by
  simp[yW,hst,hm]
 rw[zN,e]
 by_cases h:ps.length≤8
 ·rw[if_pos (gde h),if_pos h];rfl
 ·rw[if_neg (by simpa using h),if_neg h]
theorem aeB{p:PlD}(hst:(zC ss).2=0)(hf:kg ss tys):(zA ss tys p).2.2=true↔0≤p.l∧∃(hl:p.l.toNat<tys.length)(x:TyD×List Int),zN ss [tys[p.l.toNat]] ⟨0,p.ps⟩=some x∧zA ss tys p=(x.1,Qt 0 x.2,true):=by
 constructor
 ·intro ho
  have h8:=adw ho
  unfold zA at ho⊢
  cases hb:(if p.l<0 then none else tys[p.l.toNat]?).bind λt=>goG ss p.ps (t,0)with
  |none=>rw [hb]at ho;cases ho
  |some s=>
   split at hb
   ·cases hb
   ·rename_i hl0
    cases ht:tys[p.l.toNat]? with
    |none=>rw [ht]at hb;cases hb
    |some t=>
     rw[ht]at hb
     have hb:goG ss p.ps (t,0)=some s:=hb
     obtain⟨hlt,rfl⟩:=List.getElem?_eq_some_iff.1 ht
     rw[Js _ _ _ (Int.le_refl _)]at hb
     cases hw:zL ss p.ps tys[p.l.toNat]with
     |none=>rw [hw]at hb;cases hb
     |some x=>
      rw[hw]at hb
      have hb:(x.1,Qt 0 x.2)=s:=Option.some.inj hb
      refine⟨by omega,hlt,x,?_,?_⟩
      ·rw[aas hst (by rw[yA,gde hst,Bool.true_and];exact hf.all _ (gem hlt)),if_pos h8,hw]
      ·rw[← hb]
       show(x.1,Qt 0 x.2,decide (p.ps.length≤8))=_
       rw[gde h8]
 ·rintro⟨_,_,x,_,h⟩;rw[h]
theorem aga{i:Nat}(hi:i<tys.length):(tys.drop i).take 1=[tys[i]]:=by
 rw[List.drop_eq_getElem_cons hi];rfl
end
end Go.Proofs
namespace Go.Proofs
open Go.Shelf
def Tryz.acr:Go.Shelf.Ren:=⟨fun|189=>57|125=>88|257=>87|128=>118|129=>119|294=>109|295=>110|296=>111|297=>112|298=>113|299=>114|216=>115|300=>116|301=>117|328=>146|329=>147|330=>148|331=>149|332=>150|215=>107|343=>190|n=>n,fun|28=>26|3=>3|46=>137|0=>0|51=>174|53=>176|4=>4|183=>167|182=>166|131=>106|5=>5|9=>9|218=>196|222=>200|228=>248|229=>249|n=>n,fun|n=>n⟩
theorem Tryz.acM:Go.Proofs.Lays.n189 Tryz.prog Tryz.acr:={
 mixed:=by kernel_rfl
 f125:=Tryz.func88.trans (congrArg some (by kernel_rfl))
 f128:=Tryz.func118.trans (congrArg some (by kernel_rfl))
 f129:=Tryz.func119.trans (congrArg some (by kernel_rfl))
 f189:=Tryz.func57.trans (congrArg some (by kernel_rfl))
 f215:=Tryz.func107.trans (congrArg some (by kernel_rfl))
 f216:=Tryz.func115.trans (congrArg some (by kernel_rfl))
 f257:=Tryz.func87.trans (congrArg some (by kernel_rfl))
 f294:=Tryz.func109.trans (congrArg some (by kernel_rfl))
 f295:=Tryz.func110.trans (congrArg some (by kernel_rfl))
 f296:=Tryz.func111.trans (congrArg some (by kernel_rfl))
 f297:=Tryz.func112.trans (congrArg some (by kernel_rfl))
 f298:=Tryz.func113.trans (congrArg some (by kernel_rfl))
 f299:=Tryz.func114.trans (congrArg some (by kernel_rfl))
 f300:=Tryz.func116.trans (congrArg some (by kernel_rfl))
 f301:=Tryz.func117.trans (congrArg some (by kernel_rfl))
 f328:=Tryz.func146.trans (congrArg some (by kernel_rfl))
 f329:=Tryz.func147.trans (congrArg some (by kernel_rfl))
 f330:=Tryz.func148.trans (congrArg some (by kernel_rfl))
 f331:=Tryz.func149.trans (congrArg some (by kernel_rfl))
 f332:=Tryz.func150.trans (congrArg some (by kernel_rfl))
 f343:=Tryz.func190.trans (congrArg some (by kernel_rfl))
 t0:=Tryz.underlying0
 a0:=Tryz.isAgg0
 z0:=Tryz.sizeOf0
 v0:=Tryz.zeroValue0
 t3:=Tryz.underlying3
 a3:=Tryz.isAgg3
 z3:=Tryz.sizeOf3
 v3:=Tryz.zeroValue3
 t4:=Tryz.underlying4
 a4:=Tryz.isAgg4
 z4:=Tryz.sizeOf4
 v4:=Tryz.zeroValue4
 t5:=Tryz.underlying5
 a5:=Tryz.isAgg5
 z5:=Tryz.sizeOf5
 v5:=Tryz.zeroValue5
 t9:=Tryz.underlying9
 a9:=Tryz.isAgg9
 z9:=Tryz.sizeOf9
 v9:=Tryz.zeroValue9
 t28:=Tryz.underlying26
 a28:=Tryz.isAgg26
 z28:=Tryz.sizeOf26
 v28:=Tryz.zeroValue26
 t46:=Tryz.underlying137
 a46:=Tryz.isAgg137
 z46:=Tryz.sizeOf137
 v46:=Tryz.zeroValue137
 t51:=Tryz.underlying174
 a51:=Tryz.isAgg174
 z51:=Tryz.sizeOf174
 v51:=Tryz.zeroValue174
 t53:=Tryz.underlying176
 a53:=Tryz.isAgg176
 z53:=Tryz.sizeOf176
 v53:=Tryz.zeroValue176
 t131:=Tryz.underlying106
 a131:=Tryz.isAgg106
 z131:=Tryz.sizeOf106
 v131:=Tryz.zeroValue106
 t182:=Tryz.underlying166
 a182:=Tryz.isAgg166
 z182:=Tryz.sizeOf166
 v182:=Tryz.zeroValue166
 t183:=Tryz.underlying167
 a183:=Tryz.isAgg167
 z183:=Tryz.sizeOf167
 v183:=Tryz.zeroValue167
 t218:=Tryz.underlying196
 a218:=Tryz.isAgg196
 z218:=Tryz.sizeOf196
 v218:=Tryz.zeroValue196
 t222:=Tryz.underlying200
 a222:=Tryz.isAgg200
 z222:=Tryz.sizeOf200
 v222:=Tryz.zeroValue200
 t228:=Tryz.underlying248
 a228:=Tryz.isAgg248
 z228:=Tryz.sizeOf248
 v228:=Tryz.zeroValue248
 t229:=Tryz.underlying249
 a229:=Tryz.isAgg249
 z229:=Tryz.sizeOf249
 v229:=Tryz.zeroValue249 }
end Go.Proofs
namespace Go.Sh
open Go.RowKit
theorem aeC{w w':World}{g q:Nat}{c:List Value}{e:TypeId}{d:Array Int}{os:Array Obj}(B:Blk w g c e)(hd:d.size≤c.length)
  (hw:w'=Sort.grow (Sort.putRow (Value.int .i64) (Sort.ahead w q) g 0 d) os):ExtBut (· = g) w w'∧Blk w' g (d.toList.map (Value.int .i64)++c.drop d.size) e:=by
 subst hw
 have hg:g<w.heap.size:=(Array.getElem?_eq_some_iff.1 B).1
 have hput:∀k,(Sort.putRow (Value.int .i64) (Sort.ahead w q) g 0 d).heap[k]? = if g=k then(w.heap[k]?).map (Sort.onCells (Sort.putCells (Value.int .i64) 0 d))else w.heap[k]?:=λk=>by
  simp only[Sort.putRow,Sort.mapBlock,Array.getElem?_modify]
  split<;>rfl
 have hsz:(Sort.putRow (Value.int .i64) (Sort.ahead w q) g 0 d).heap.size=w.heap.size:=by simp[Sort.ahead]
 refine⟨⟨rfl,rfl,rfl,by simp only[Sort.grow,Array.size_append,hsz];omega,λk hk hne=>?_⟩,?_⟩
 ·show((Sort.putRow (Value.int .i64) (Sort.ahead w q) g 0 d).heap++os)[k]? = _
  rw[Array.getElem?_append_left (by rw[hsz];exact hk),hput,if_neg (λh=>hne h.symm)]
 ·show((Sort.putRow (Value.int .i64) (Sort.ahead w q) g 0 d).heap++os)[g]? = _
  rw[Array.getElem?_append_left (by rw[hsz];exact hg),hput,if_pos rfl,B,Option.map_some]
  simp only[Sort.onCells]
  congr 2
  apply Array.ext_getElem?
  intro i
  simp only[Sort.putCells,Array.getElem?_mapIdx,List.getElem?_toArray,List.getElem?_append,List.length_map,Array.length_toList,List.getElem?_map,List.getElem?_drop,gzl,true_and,Nat.zero_add,Nat.sub_zero]
  by_cases hi:i<d.size
  ·rw[if_pos hi,gqg (by omega),Option.map_some,if_pos hi,Array.getElem?_toList,Array.getElem?_eq_getElem hi,getElem!_pos d i hi];rfl
  ·rw[if_neg hi,show d.size+(i-d.size)=i by omega]
   cases h:c[i]? with
   |none=>rfl
   |some x=>rw [Option.map_some,if_neg hi]
end Go.Sh
namespace Go.Proofs
open Go.Sh Go.RowKit
section
def yZ(l:List Int):List Int:=l.mergeSort λx y=>decide (x≤y)
theorem ZX{l:List Int}:(yZ l).length=l.length:=List.length_mergeSort l
variable {w0 w:World} {r:Gh} {L:List Asr} {X:Nat→Prop}
theorem aaU{v:Value}{l:List Int}{K:Value→World→Prop}(S:StX X w0 r w (.row v 3 1 l.length (ints l)::L))(hl:l.length<4611686018427387904)
  (h:∀w',StX X w0 r w' (.row v 3 1 l.length (ints (yZ l))::L)→K (.tuple #[]) w'):zc Tryz.prog Tryz.qN #[v] w K:=by
 have hr:w.ownsRow 0 3 1 v l.length (ints l):=S.has _ (List.mem_cons_self ..)
 rcases qM hr with⟨rfl,h1,h2⟩|⟨g,cap,c,rfl,hg,B,hn,hm,hcl,ht⟩
 ·have hl0:l=[]:=List.eq_nil_of_length_eq_zero h1
  subst hl0
  refine Calls.mono (Any.slices_Sort_int_none Tryz.acM none 0 w) ?_
  rintro e w' ⟨rfl,rfl⟩
  exact⟨_,rfl,h _ (by rw[show yZ []=[]by simp[yZ]];exact S)⟩
 ·rw[Nat.mul_one]at hcl ht
  have hcell:∀j,j<l.length→w.cell? ⟨g,j,none⟩=some (.int .i64 l[j]!):=λj hj=>by
   have :(c.take l.length)[j]? = some (.int .i64 l[j]!):=by
    rw[ht,ints,List.getElem?_map,gqg hj,getElem!_pos l j hj];rfl
   rw[List.getElem?_take,if_pos hj]at this
   rw[B.cell];exact this
  have hfz:∀j,w.frozen? ⟨g,j,none⟩=false:=λj=>B.unfrozen j
  refine Calls.mono (Any.slices_Sort_int Tryz.acM g 0 cap l w (λj hj=>⟨?_,hfz _⟩) (Array.getElem?_eq_some_iff.1 B).1 hl) ?_
  ·have hj:j<l.length:=by simpa using hj
   rw[Nat.zero_add,hcell j hj]
   simp[getElem!_pos,hj]
  rintro e w' ⟨rfl,q,os,hw⟩
  obtain⟨hE,hB⟩:=aeC (d:=(yZ l).toArray) B (by simp[ZX];omega) hw
  refine⟨_,rfl,h w' ?_⟩
  refine S.turn (p:=[]) (x:=.row (.slice (some ⟨g,0,none⟩) l.length cap) 3 1 l.length (ints l)) (y:=.row (.slice (some ⟨g,0,none⟩) l.length cap) 3 1 l.length (ints (yZ l))) ?_ ?_ λk hk=>.inl hk
  ·exact hE.mono λk _ hk=>by subst hk;rfl
  ·have:=jc (base:=0) (e:=3) (size:=1) (n:=l.length) (cap:=cap) (gzl _) hB hn hm (by simp[ZX];omega)
   have e:((yZ l).toArray.toList.map (Value.int .i64)++c.drop (yZ l).toArray.size).take (l.length*1)=ints (yZ l):=by
    rw[Nat.mul_one,List.take_append_of_le_length (by simp[ZX])]
    exact List.take_of_length_le (by simp[ZX])
   rwa[e]at this
theorem Vb:∀{l m:List Int},l.Pairwise (· < ·)→m.Pairwise (· < ·)→(∀x,x∈l↔x∈m)→l=m
 |[],[],_,_,_=>rfl
 |[],y::m,_,_,h=>absurd ((h y).2 (List.mem_cons_self ..)) (by simp)
 |x::l,[],_,_,h=>absurd ((h x).1 (List.mem_cons_self ..)) (by simp)
 |x::l,y::m,hl,hm,h=>by
  have hl':=List.pairwise_cons.1 hl
  have hm':=List.pairwise_cons.1 hm
  have hxy:x=y:=by
   have h1:=(h x).1 (List.mem_cons_self ..)
   have h2:=(h y).2 (List.mem_cons_self ..)
   rcases List.mem_cons.1 h1 with e|h1
   ·exact e
   rcases List.mem_cons.1 h2 with e|h2
   ·exact e.symm
   have:=hl'.1 y h2;have:=hm'.1 x h1;omega
  subst hxy
  rw[Vb hl'.2 hm'.2 λz=>?_]
  constructor
  ·intro hz
   rcases List.mem_cons.1 ((h z).1 (List.mem_cons_of_mem _ hz))with e|hz'
   ·have:=hl'.1 z hz;omega
   ·exact hz'
  ·intro hz
   rcases List.mem_cons.1 ((h z).2 (List.mem_cons_of_mem _ hz))with e|hz'
   ·have:=hm'.1 z hz;omega
   ·exact hz'
end
end Go.Proofs
namespace Go.Proofs
open Go.Sh
abbrev CnD:=Int×Int
end Go.Proofs
namespace Go.Proofs
theorem afu{u:UnD}{g:GrD}{p:PtD}(h:yx u g p=true)(ho:p.op=4∨p.op=10∨p.op=11):(zA u.ss g.tys p.fr).2.2=true:=by
 have h2:=jL h
 cases hf:(zA u.ss g.tys p.fr).2.2 with
 |true=>rfl
 |false=>
  rw[ptG]at h2
  rcases ho with hc|hc|hc<;>simp [hc,hf]at h2
end Go.Proofs
namespace Go.Proofs
open Go.Sh Go.RowKit
section
variable {l:List Int} {p:Option Addr}
theorem qw:RowOf 1 ye (ints l) l:=⟨by rw[ka,Nat.mul_one],λj hj=>by
 rw[Nat.mul_one,ints,← List.map_drop,← List.map_take,List.drop_eq_getElem_cons hj];rfl⟩
theorem agT{α:Type}{r:Gh}{V:α→Value}{n cap:Nat}{l:List α}(h:SlG 1 r (λc x=>c=[V x]) (.slice p n cap) l){i:Nat}(hi:i<l.length):
  ∃b off,p=some ⟨b,off,none⟩∧n=l.length∧Ob r λw=>w.cell? ⟨b,off+i,none⟩=some (V l[i]):=by
 have hsh:=h.shape
 obtain⟨p',cap',e,_,_⟩:=hsh
 obtain⟨b,off,c,hE,hc,hcc,hcl⟩:=h.get (by decide) hi
 obtain rfl:c=_:=hcc
 cases e
 cases hE
 refine⟨b,off,rfl,rfl,?_⟩
 have:=hcl 0 _ rfl
 rwa[show off+i*1+0=off+i by omega]at this
theorem yg{r:Gh}{n cap:Nat}(h:SlG 1 r ye (.slice p n cap) l){i:Nat}(hi:i<l.length):∃b off,p=some ⟨b,off,none⟩∧n=l.length∧Ob r λw=>w.cell? ⟨b,off+i,none⟩=some (.int .i64 l[i]):=agT (V:=Value.int .i64) h hi
end
theorem acN{r:Gh}{p:Option Addr}{n cap:Nat}{l:List Int}(h:SlG 1 r yI (.slice p n cap) l){i:Nat}(hi:i<l.length):∃b off,p=some ⟨b,off,none⟩∧n=l.length∧Ob r λw=>w.cell? ⟨b,off+i,none⟩=some (.int .i64 l[i]):=
 yg (h.mono λc x hx=>hx.1) hi
end Go.Proofs
namespace Go.Sh
open Go.RowKit Go.MapKept
def mpI(P:Program)(t:TypeId):Option (TypeId×TypeId):=match P.underlying t with
 |some (.map k e)=>(match P.underlying k with|some (.int .i64)=>some (k,e)|_=>none)
 |_=>none
theorem Y5{P:Program}{t k e:TypeId}(h:mpI P t=some (k,e)):P.underlying t=some (.map k e)∧P.underlying k=some (.int .i64):=by
 unfold mpI at h
 split at h
 ·rename_i k' e' h1
  split at h
  ·rename_i h2
   cases h;exact⟨h1,h2⟩
  ·cases h
 ·cases h
def agU(m:MapEntry)(x:Int×Value):Prop:=m.key=.int .i64 x.1∧m.val=x.2
inductive EntsI:List MapEntry→List (Int×Value)→Prop
 |nil:EntsI [] []
 |cons {m:MapEntry} {x:Int×Value} {l:List MapEntry} {M:List (Int×Value)}:agU m x→EntsI l M→EntsI (m::l) (x::M)
theorem EntsI.snoc{l:List MapEntry}{M:List (Int×Value)}{m:MapEntry}{x:Int×Value}(h:EntsI l M)(hm:agU m x):EntsI (l++[m]) (M++[x]):=by
 induction h with
 |nil=>exact .cons hm .nil
 |cons h _ ih=>exact .cons h ih
theorem aeD{x:Int}{kd:IntKind}{l:List MapEntry}{M:List (Int×Value)}(h:EntsI l M):∀{i:Nat},∃o,Instr.findNow (.int kd) (.int .i64 x) l i=some o∧o.map (·.2)=M.lookup x:=by
 induction h with
 |nil=>intro i;exact⟨none,rfl,rfl⟩
 |@cons m y l M hm h ih=>
  intro i
  obtain⟨hk,hv⟩:=hm
  obtain⟨y1,y2⟩:=y
  by_cases hx:x=y1
  ·subst hx
   refine⟨some (i,m.val),?_,?_⟩
   ·rw[Instr.findNow,hk];simp[Instr.sameNow]
   ·rw[List.lookup_cons,show (x == x)=true by simp,hv];rfl
  ·obtain⟨o,h1,h2⟩:=ih (i:=i+1)
   have hb:(x == y1)=false:=by simpa using hx
   refine⟨o,?_,?_⟩
   ·rw[Instr.findNow,hk];simp[Instr.sameNow,hb,h1]
   ·rw[List.lookup_cons,hb,h2]
class xm(b:Nat)(L:List Asr)(Q:outParam (Obj→Prop))(f:outParam (Asr→List Asr)):Prop where
 h:∃p q,L=p++.obj b Q::q∧∀y,f y=p++y::q
instance {b:Nat} {Q:Obj→Prop} {L:List Asr}:xm b (.obj b Q::L) Q λy=>y::L:=⟨[],L,rfl,λ_=>rfl⟩
instance (priority:=low) {b:Nat} {Q:Obj→Prop} {x:Asr} {L:List Asr} {f:Asr→List Asr} [h:xm b L Q f]:xm b (x::L) Q λy=>x::f y:=⟨by
 obtain⟨p,q,h1,h2⟩:=h.h
 exact⟨x::p,q,by rw[h1];rfl,λc'=>by rw[h2];rfl⟩⟩
end Go.Sh
namespace Go.Proofs
open Go.Sh Go.RowKit
section
variable {c:List Value}
theorem StX.frzNew{w0 w:World}{r:Gh}{L M:List Asr}{T:TypeId}(S:StX noX w0 r w L)(b:Nat)[h:jH b L c T M]:StX noX w0 (r.or (Go.Sh.one b c T)) w M∧Above w0 (Go.Sh.one b c T):=
 ⟨S.frzAt b,λk o ho=>by
  obtain⟨rfl,_⟩:=ho
  exact((S.permO h.h.symm).mine _ List.mem_cons_self k rfl).1.resolve_right id⟩
theorem yy{q:Gh}{b i:Nat}{T:TypeId}{v:Value}[Le (Go.Sh.one b c T) q](h:c[i]? = some v):Ob q λw=>w.cell? ⟨b,i,none⟩=some v:=λw hw=>by
 have B:Blk w b c T:=yN w (hw.le (h:=inferInstance))
 show w.cell? ⟨b,i,none⟩=some v
 rw[B.cell];exact h
end
end Go.Proofs
namespace Go.Proofs.Tryz
open Go.Sh
section
variable {t0 t1 t2 t3:Value} {w:World} {K:VW}
def aat(t0 t1 t2:Value)(w:World)(K:VW):Prop:=
 pw w (Instr.box 25 t0) λt3 w1=>
 bt .lss 3 t1 (i6 0) λt16=>za (λK2=>gIf t16 false (fl w1 t3 25 1 23 λt20=>pp (Builtin.len_ #[23] 3 #[t20]) λt21=>bf .geq 3 t1 t21 λt22=>K2 [t22] w1) (K2 [u_] w1)) (λs3 _d4 w5=>
 zd t16 tr_ (s3.getD 0 u_) λt23=>za (λK6=>gIf t23 false (fl w5 t3 25 1 23 λt27=>px 23 t27 t1 λt29=>fl w5 t29 74 6 72 λt31=>pp (Builtin.len_ #[72] 3 #[t31]) λt32=>bf .geq 3 t2 t32 λt33=>K6 [t33] w5) (K6 [u_] w5)) (λs7 _d8 w9=>
 zd t23 tr_ (s7.getD 0 u_) λt34=>za (λK10=>gIf t34 false (lo w9 25 t3 λt36=>ca Z4 #[t36] w9 λt37 w14=>
 pp (Op.unary .not t37) λt38=>K10 [t38] w14) (K10 [u_] w9)) (λs11 _d12 w13=>
 zd t34 tr_ (s11.getD 0 u_) λt39=>zb t39 (K (.tuple #[(Value.pointer Option.none),(i6 2)]) w13) (za (λK15=>
 lo w13.drew 25 t3 λt40=>fl w13.drew t3 25 1 23 λt42=>xl w13.drew 23 t42 t1 74 λt45=>pp (Instr.build 90 #[(0,t40),(1,t45)]) λt46=>((pw w13.drew (Instr.box 90 t46) λt47 w19=>
 pw w19 (Instr.alloc 78 true (.tuple #[])) λt8 w20=>
 Ext w19 w20∧
 so w20 78 t8 t47 λw21=>K15 [t8] w21)∧
 (pw w13.drew (Instr.alloc 78 true (.tuple #[])) λt8_23 w22=>
 Ext w13.drew w22∧
 pw w22 (Instr.box 90 t46) λt47_25 w24=>
 so w24 78 t8_23 t47_25 λw26=>K15 [t8_23] w26))) (λs16 _d17 w18=>
 pp (Instr.makeFunc (.func 71) #[] #[(s16.getD 0 u_)]) λt48=>lo w18 78 (s16.getD 0 u_) λt49=>fa t49 90 1 λt51=>fl w18 t51 74 4 70 λt53=>pp (Builtin.len_ #[70] 3 #[t53]) λt54=>zt [(i6 0)] w18 (λs28 _d29 w30 K27=>
 bf .lss 3 (s28.getD 0 u_) t54 λt56=>zb t56 (pp (Instr.build 59 #[(0,(s28.getD 0 u_))]) λt60=>cv t48 #[t60] w30 λ_t61 w31=>
 bt .add 3 (s28.getD 0 u_) (i6 1) λt62=>K27 [t62] w31) (lo w30 78 (s16.getD 0 u_) λt63=>fa t63 90 1 λt65=>fl w30 t65 74 6 72 λt67=>pp (Builtin.len_ #[72] 3 #[t67]) λt68=>zt [(i6 0)] w30 (λs33 _d34 w35 K32=>
 bf .lss 3 (s33.getD 0 u_) t68 λt70=>zb t70 (za (λK36=>
 xl w35 72 t67 (s33.getD 0 u_) 94 λt72=>pw w35 (Instr.alloc 94 true (.tuple #[])) λt12 w40=>
 so w40 94 t12 t72 λw41=>lo w41 94 t12 λt73=>ca yX #[t73] w41 λt74 w42=>
 pp (Builtin.len_ #[53] 3 #[t74]) λt75=>zt [(i6 0)] w42 (λs44 _d45 w46 K43=>
 bf .lss 3 (s44.getD 0 u_) t75 λt77=>zb t77 (xl w46 53 t74 (s44.getD 0 u_) 61 λt79=>pw w46 (Instr.alloc 61 true (.tuple #[])) λt14 w47=>
 so w47 61 t14 t79 λw48=>fl w48 t14 61 2 59 λt82=>cv t48 #[t82] w48 λ_t83 w49=>
 bt .add 3 (s44.getD 0 u_) (i6 1) λt84=>K43 [t84] w49) (za (λK50=>
 fl w46 t12 94 0 92 λt86=>bt .eql 92 t86 (Value.int .u8 4) λt87=>za (λK54=>gIf t87 false (fl w46 t12 94 0 92 λt90=>bt .eql 92 t90 (Value.int .u8 10) λt91=>K54 [t91] w46) (K54 [u_] w46)) (λs55 _d56 w57=>
 zd t87 tr_ (s55.getD 0 u_) λt92=>za (λK58=>gIf t92 false (fl w57 t12 94 0 92 λt95=>bt .eql 92 t95 (Value.int .u8 11) λt96=>K58 [t96] w57) (K58 [u_] w57)) (λs59 _d60 w61=>
 zd t92 tr_ (s59.getD 0 u_) λt97=>zb t97 (fl w61 t12 94 6 59 λt100=>cv t48 #[t100] w61 λ_t101 w62=>
 K50 [] w62) (K50 [] w61)))) (λ_s51 _d52 w53=>
 lo w53 94 t12 λt102=>ca xM #[t102] w53 λt103 w63=>
 zb t103 (fl w63 t12 94 1 59 λt106=>cv t48 #[t106] w63 λ_t107 w64=>
 K36 [] w64) (K36 [] w63))))) (λ_s37 _d38 w39=>
 bt .add 3 (s33.getD 0 u_) (i6 1) λt108=>K32 [t108] w39)) (lo w35 78 (s16.getD 0 u_) λt109=>ff w35 t109 90 2 37 λt112=>ca yQ #[t112,(Value.func (.func 49) #[] #[])] w35 λ_t113 w65=>
 za (λK66=>
 lo w65.drew 78 (s16.getD 0 u_) λt115=>ff w65.drew t115 90 2 37 λt118=>((pw w65.drew (Instr.loadAt 78 (s16.getD 0 u_)) λt114 w70=>
 Ext w65.drew w70∧
 ca zI #[t118,(Value.func (.func 59) #[] #[])] w70 λt119 w71=>
 fa t114 90 2 λt121=>so w71 37 t121 t119 λw72=>K66 [] w72)∧
 (ca zI #[t118,(Value.func (.func 59) #[] #[])] w65.drew λt119_74 w73=>
 pw w73 (Instr.loadAt 78 (s16.getD 0 u_)) λt114_76 w75=>
 Ext w73 w75∧
 fa t114_76 90 2 λt121_78=>so w75 37 t121_78 t119_74 λw79=>K66 [] w79))) (λ_s67 _d68 w69=>
 lo w69 78 (s16.getD 0 u_) λt122=>ff w69 t122 90 2 37 λt125=>pp (Builtin.len_ #[37] 3 #[t125]) λt126=>bt .gtr 3 t126 (i6 256) λt127=>zb t127 (K (.tuple #[(Value.pointer Option.none),(i6 5)]) w69) (lo w69 78 (s16.getD 0 u_) λt128=>K (.tuple #[t128,(i6 0)]) w69)))))))))))
theorem ady(h:aat t0 t1 t2 w K):zc prog xW #[t0,t1,t2] w K:=
 okC false (.s (.r (rz 3 0 2)) (.s (.s (.r (ra 3 0 0 (.grp 17 false (ri 5 3 16) [22] (ra 2 8 0 (.grp 24 false (ri 9 10 4112) [33] (ra 2 19 0 (.grp 35 false (ri 3 21 9) [38] (rz 1 24 0)))))))) (.c (.s (.r (rz 2 0 0)) (.n)) (.n))) (.j [8] (.r (ra 7 0 1041 (.alt 7 .l (rz 2 8 11) (ra 1 8 3 (ra 1 7 2 (rz 1 9 2)))))) (.s (.r (rz 2 0 0)) (.s (.s (.r (rz 7 0 257)) (.b (.lp [55] (.s (.r (rz 1 0 0)) (.s (.c (.n) (.n)) (.s (.b (.s (.r (rz 2 0 0)) (.r (rz 4 0 128)))) (.r (rz 2 0 0)))))))) (.s (.s (.r (rz 7 0 257)) (.b (.lp [69] (.s (.r (rz 1 0 0)) (.s (.c (.n) (.n)) (.j [] (.b (.s (.r (rz 4 0 164)) (.s (.s (.r (rz 4 0 9)) (.b (.lp [76] (.s (.r (rz 1 0 0)) (.s (.c (.n) (.n)) (.s (.b (.s (.r (rz 4 0 164)) (.r (rz 4 0 144)))) (.r (rz 2 0 0)))))))) (.j [] (.s (.r (ra 4 0 4 (.grp 88 false (ri 3 4 4) [91] (ra 2 7 0 (.grp 93 false (ri 3 9 4) [96] (rz 1 12 0)))))) (.c (.r (rz 4 0 144)) (.n))) (.s (.r (rz 2 0 9)) (.c (.r (rz 4 0 144)) (.n))))))) (.r (rz 2 0 0)))))))) (.s (.r (rz 5 0 577)) (.j [] (.r (ra 4 1 65 (.alt 0 .u (rz 4 5 130) (ra 1 5 2 (ra 1 0 3 (rz 3 6 32)))))) (.s (.s (.r (rz 6 0 65)) (.c (.s (.r (rz 2 0 0)) (.n)) (.n))) (.s (.r (rz 3 0 1)) (.n))))))))))) func41 rfl (by kernel_rfl) (by kernel_rfl) h
def QW(t0 t1:Value)(w:World)(K:VW):Prop:=
 pw w (Instr.box 59 t0) λt2 w1=>
 lo w1 78 t1 λt6=>lo w1 59 t2 λt7=>ca yO #[t6,t7] w1 λt8 w2=>
 pe t8 0 λt9=>pe t8 1 λ_t10=>pw w2 (Instr.alloc 59 true (.tuple #[])) λt3 w3=>
 so w3 59 t3 t9 λw4=>lo w4.drew 78 t1 λt12=>ff w4.drew t12 90 2 37 λt15=>lo w4.drew 59 t3 λt16=>((pw w4.drew (Instr.loadAt 78 t1) λt11 w5=>
 Ext w4.drew w5∧
 ca xh #[t16] w5 λt17 w6=>
 Ext w5 w6∧
 pw w6 (Builtin.append_ #[37,37] 37 #[t15,t17]) λt18 w7=>
 fa t11 90 2 λt20=>so w7 37 t20 t18 λw8=>K (.tuple #[]) w8)∧
 (ca xh #[t16] w4.drew λt17_10 w9=>
 Ext w4.drew w9∧
 ((pw w9 (Instr.loadAt 78 t1) λt11_12 w11=>
 Ext w9 w11∧
 pw w11 (Builtin.append_ #[37,37] 37 #[t15,t17_10]) λt18_14 w13=>
 fa t11_12 90 2 λt20_16=>so w13 37 t20_16 t18_14 λw17=>K (.tuple #[]) w17)∧
 (pw w9 (Builtin.append_ #[37,37] 37 #[t15,t17_10]) λt18_19 w18=>
 pw w18 (Instr.loadAt 78 t1) λt11_21 w20=>
 Ext w18 w20∧
 fa t11_21 90 2 λt20_23=>so w20 37 t20_23 t18_19 λw24=>K (.tuple #[]) w24))))
theorem abL(h:QW t0 t1 w K):zc prog QM #[t0,t1] w K:=
 okC false (.s (.r (rz 1 0 2)) (.s (.r (rz 9 0 40997)) (.r (ra 5 1 321 (.alt 0 .u (rz 5 6 523) (ra 1 6 3 (.alt 0 .u (rz 4 7 130) (ra 1 7 2 (ra 1 0 3 (rz 3 8 32)))))))))) func71 rfl (by kernel_rfl) (by kernel_rfl) h
def ZY(t0:Value)(w:World)(K:VW):Prop:=
 pw w (Instr.box 94 t0) λt1 w1=>
 fl w1 t1 94 2 61 λt4=>fl w1 t1 94 3 61 λt6=>pw w1 (Instr.buildSlice 53 2 #[(0,t4),(1,t6)]) λt7 w2=>
 fl w2 t1 94 4 53 λt9=>pw w2 (Builtin.append_ #[53,53] 53 #[t7,t9]) λt10 w3=>
 ca zS #[t10,(Value.func (.func 89) #[] #[])] w3 λt11 w4=>
 K t11 w4
theorem Jt(h:ZY t0 w K):zc prog yX #[t0] w K:=
 okC false (.s (.r (rz 2 0 2)) (.s (.r (rz 10 0 168516)) (.n))) func60 rfl (by kernel_rfl) (by kernel_rfl) h
def vO(t0:Value)(w:World)(K:VW):Prop:=
 pw w (Instr.box 61 t0) λt1 w1=>
 fl w1 t1 61 0 56 λt4=>bt .neq 56 t4 (Value.int .u8 3) λt5=>za (λK2=>gIf t5 true (fl w1 t1 61 0 56 λt8=>bt .neq 56 t8 (Value.int .u8 4) λt9=>K2 [t9] w1) (K2 [u_] w1)) (λs3 _d4 w5=>
 zd t5 (s3.getD 0 u_) fa_ λt10=>K t10 w5)
theorem X4(h:vO t0 w K):zc prog vH #[t0] w K:=
 okC false (.s (.r (rz 2 0 2)) (.s (.r (ra 4 0 4 (.grp 6 true (ri 3 4 4) [9] (rz 2 7 0)))) (.n))) func89 rfl (by kernel_rfl) (by kernel_rfl) h
def YF(t0:Value)(w:World)(K:VW):Prop:=
 pw w (Instr.box 94 t0) λt1 w1=>
 fl w1 t1 94 0 92 λt4=>bt .geq 92 t4 (Value.int .u8 1) λt5=>za (λK2=>gIf t5 true (fl w1 t1 94 0 92 λt8=>bt .leq 92 t8 (Value.int .u8 8) λt9=>K2 [t9] w1) (K2 [u_] w1)) (λs3 _d4 w5=>
 zd t5 (s3.getD 0 u_) fa_ λt10=>K t10 w5)
theorem Vc(h:YF t0 w K):zc prog xM #[t0] w K:=
 okC false (.s (.r (rz 2 0 2)) (.s (.r (ra 4 0 4 (.grp 6 true (ri 3 4 4) [9] (rz 2 7 0)))) (.n))) func61 rfl (by kernel_rfl) (by kernel_rfl) h
def ZB(t0 t1:Value)(w:World)(K:VW):Prop:=
 pw w (Instr.box 59 t1) λt3 w1=>
 pw w1 (Instr.alloc 59 true (.tuple #[])) λt4 w2=>
 fl w2 t3 59 1 57 λt9=>pp (Builtin.len_ #[57] 3 #[t9]) λt10=>bt .eql 3 t10 (i6 0) λt11=>zb t11 (lo w2 59 t3 λt12=>so w2 59 t4 t12 λw3=>pq w3 (zh 59 t4) λr4=>K (.tuple #[r4,tr_]) w3) (za (λK5=>
 fa t0 90 0 λt16=>fl w2.drew t16 25 0 22 λt18=>fa t0 90 1 λt21=>fl w2.drew t21 74 4 70 λt23=>fl w2.drew t3 59 0 3 λt25=>fl w2.drew t3 59 0 3 λt27=>bt .add 3 t27 (i6 1) λt28=>pp (Instr.sliceAt 70 t23 (some t25) (some t28) none) λt29=>fl w2.drew t3 59 1 57 λt31=>pp (Instr.build 59 #[(1,t31)]) λt32=>((ca jk #[t18,t29,t32] w2.drew λt33 w9=>
 pe t33 0 λt34=>pe t33 1 λ_t35=>pw w9 (Instr.alloc 59 true (.tuple #[])) λt6 w10=>
 Ext w9 w10∧
 so w10 59 t6 t34 λw11=>K5 [t6] w11)∧
 (pw w2.drew (Instr.alloc 59 true (.tuple #[])) λt6_13 w12=>
 Ext w2.drew w12∧
 ca jk #[t18,t29,t32] w12 λt33_15 w14=>
 pe t33_15 0 λt34_16=>pe t33_15 1 λ_t35_17=>so w14 59 t6_13 t34_16 λw18=>K5 [t6_13] w18))) (λs6 _d7 w8=>
 fl w8 t3 59 0 3 λt37=>pf 59 (s6.getD 0 u_) 0 λt38=>so w8 3 t38 t37 λw19=>lo w19.drew 59 (s6.getD 0 u_) λt39=>pf 59 (s6.getD 0 u_) 1 λt40=>pf 59 t3 1 λt43=>((pw w19.drew (Instr.loadAt 57 t40) λt41 w20=>
 Ext w19.drew w20∧
 pp (Builtin.len_ #[57] 3 #[t41]) λt42=>((pw w20 (Instr.loadAt 57 t43) λt44 w21=>
 Ext w20 w21∧
 pp (Builtin.len_ #[57] 3 #[t44]) λt45=>bf .eql 3 t42 t45 λt46=>so w21 59 t4 t39 λw22=>pq w22 (zh 59 t4) λr23=>K (.tuple #[r23,t46]) w22)∧
 (so w20 59 t4 t39 λw24=>pw w24 (Instr.loadAt 57 t43) λt44_26 w25=>
 Ext w24 w25∧
 pp (Builtin.len_ #[57] 3 #[t44_26]) λt45_27=>bf .eql 3 t42 t45_27 λt46_28=>pq w25 (zh 59 t4) λr29=>K (.tuple #[r29,t46_28]) w25)))∧
 (((pw w19.drew (Instr.loadAt 57 t43) λt44_31 w30=>
 Ext w19.drew w30∧
 pp (Builtin.len_ #[57] 3 #[t44_31]) λt45_32=>((pw w30 (Instr.loadAt 57 t40) λt41_34 w33=>
 Ext w30 w33∧
 pp (Builtin.len_ #[57] 3 #[t41_34]) λt42_35=>bf .eql 3 t42_35 t45_32 λt46_36=>so w33 59 t4 t39 λw37=>pq w37 (zh 59 t4) λr38=>K (.tuple #[r38,t46_36]) w37)∧
 (so w30 59 t4 t39 λw39=>pw w39 (Instr.loadAt 57 t40) λt41_41 w40=>
 Ext w39 w40∧
 pp (Builtin.len_ #[57] 3 #[t41_41]) λt42_42=>bf .eql 3 t42_42 t45_32 λt46_43=>pq w40 (zh 59 t4) λr44=>K (.tuple #[r44,t46_43]) w40)))∧
 (so w19.drew 59 t4 t39 λw45=>((pw w45 (Instr.loadAt 57 t40) λt41_47 w46=>
 Ext w45 w46∧
 pp (Builtin.len_ #[57] 3 #[t41_47]) λt42_48=>pw w46 (Instr.loadAt 57 t43) λt44_50 w49=>
 Ext w46 w49∧
 pp (Builtin.len_ #[57] 3 #[t44_50]) λt45_51=>bf .eql 3 t42_48 t45_51 λt46_52=>pq w49 (zh 59 t4) λr53=>K (.tuple #[r53,t46_52]) w49)∧
 (pw w45 (Instr.loadAt 57 t43) λt44_55 w54=>
 Ext w45 w54∧
 pp (Builtin.len_ #[57] 3 #[t44_55]) λt45_56=>pw w54 (Instr.loadAt 57 t40) λt41_58 w57=>
 Ext w54 w57∧
 pp (Builtin.len_ #[57] 3 #[t41_58]) λt42_59=>bf .eql 3 t42_59 t45_56 λt46_60=>pq w57 (zh 59 t4) λr61=>K (.tuple #[r61,t46_60]) w57))))))))
theorem QC(h:ZB t0 t1 w K):zc prog yO #[t0,t1] w K:=
 okC false (.s (.r (rz 3 0 10)) (.s (.s (.r (rz 4 0 4)) (.c (.s (.r (rz 3 0 9)) (.n)) (.n))) (.j [6] (.r (ra 19 0 17251434752 (.alt 19 .l (rz 6 20 704) (ra 1 23 3 (ra 4 19 2 (rz 2 24 2)))))) (.s (.r (rz 4 0 132)) (.s (.r (ra 2 0 1 (ra 1 4 0 (.alt 2 .u (ra 1 3 0 (.alt 5 .u (rz 4 6 32) (ra 1 8 2 (ra 3 5 3 (rz 1 9 0))))) (.alt 5 .u (ra 1 6 0 (.alt 2 .u (ra 1 3 0 (rz 3 7 8)) (ra 1 8 2 (ra 2 2 3 (ra 1 7 0 (rz 1 9 0)))))) (ra 1 8 2 (.alt 2 .u (ra 1 3 0 (ra 3 5 3 (rz 1 9 0))) (ra 2 5 3 (ra 2 2 3 (ra 1 7 0 (rz 1 9 0))))))))))) (.n)))))) func47 rfl (by kernel_rfl) (by kernel_rfl) h
def vP(t0 t1 t2:Value)(w:World)(K:VW):Prop:=
 pw w (Instr.box 59 t1) λt4 w1=>
 ff w1 t0 90 2 37 λt11=>pp (Builtin.len_ #[37] 3 #[t11]) λt12=>zt [(i6 0)] w1 (λs3 _d4 w5 K2=>
 bf .lss 3 (s3.getD 0 u_) t12 λt14=>zb t14 (za (λK6=>
 xl w5 37 t11 (s3.getD 0 u_) 59 λt17=>pw w5 (Instr.alloc 59 true (.tuple #[])) λt7 w10=>
 so w10 59 t7 t17 λw11=>lo w11 59 t4 λt18=>lo w11 59 t7 λt19=>ca xf #[t18,t19] w11 λt20 w12=>
 zb t20 (cv t2 #[(s3.getD 0 u_)] w12 λ_t23 w13=>
 K6 [] w13) (K6 [] w12)) (λ_s7 _d8 w9=>
 bt .add 3 (s3.getD 0 u_) (i6 1) λt24=>K2 [t24] w9)) (K (.tuple #[]) w5))
theorem X5(h:vP t0 t1 t2 w K):zc prog zH #[t0,t1,t2] w K:=
 okC false (.s (.r (rz 1 0 2)) (.s (.r (rz 6 0 64)) (.b (.lp [13] (.s (.r (rz 1 0 0)) (.s (.c (.n) (.n)) (.j [] (.b (.s (.r (rz 6 0 2192)) (.s (.r (rz 3 0 37)) (.c (.r (rz 3 0 32)) (.n))))) (.r (rz 2 0 0))))))))) func42 rfl (by kernel_rfl) (by kernel_rfl) h
def YG(t0 t1:Value)(w:World)(K:VW):Prop:=
 pq w (Instr.lookup 82 t0 t1 false) λt6=>bt .add 3 t6 (i6 1) λt7=>pu w (Instr.mapUpdate 82 t0 t1 t7) λw1=>K (.tuple #[]) w1
theorem Vd(h:YG t0 t1 w K):zc prog yu #[t0,t1] w K:=
 okC false (.r (rz 5 0 528)) func31 rfl (by kernel_rfl) (by kernel_rfl) h
def ZZ(t0 t1:Value)(w:World)(K:VW):Prop:=
 pw w (Builtin.delete_ #[82,3] 0 #[t0,t1]) λ_ w1=>
 K (.tuple #[]) w1
theorem Ju(h:ZZ t0 t1 w K):zc prog kB #[t0,t1] w K:=
 okC false (.r (rz 3 0 32)) func33 rfl (by kernel_rfl) (by kernel_rfl) h
def Z0(t0:Value)(w:World)(K:VW):Prop:=
 pw w (Instr.range 82 t0) λt6 w1=>
 zt [(Value.slice Option.none 0 0)] w1 (λs3 _d4 w5 K2=>
 pw w5 (Instr.next t6 false 0) λt7 w6=>
 pe t7 0 λt8=>zb t8 (pw w6 (Instr.entry t6) λt9 w7=>
 pe t9 0 λt10=>pw w7 (Instr.buildSlice 26 1 #[(0,t10)]) λt13 w8=>
 pw w8 (Builtin.append_ #[26,26] 26 #[(s3.getD 0 u_),t13]) λt14 w9=>
 K2 [t14] w9) (ca qN #[(s3.getD 0 u_)] w6 λ_t16 w10=>
 K (s3.getD 0 u_) w10))
theorem Jv(h:Z0 t0 w K):zc prog zW #[t0] w K:=
 okC false (.s (.r (rz 1 0 0)) (.s (.r (rz 1 0 0)) (.s (.s (.r (rz 2 0 8)) (.b (.lp [3] (.s (.r (rz 2 0 2)) (.s (.c (.n) (.n)) (.b (.s (.r (rz 3 0 2)) (.r (rz 5 0 160))))))))) (.s (.r (rz 2 0 8)) (.s (.r (rz 2 0 0)) (.n)))))) func28 rfl (by kernel_rfl) (by kernel_rfl) h
def X6(t0 t1:Value)(w:World)(K:VW):Prop:=
 pw w (Instr.box 25 t0) λt2 w1=>
 lo w1 25 t2 λt9=>ca xW #[t9,t1,(i6 (-1))] w1 λt11 w2=>
 pe t11 0 λt12=>pe t11 1 λt13=>bt .neq 29 t13 (i6 0) λt15=>zb t15 (K (.tuple #[(Value.slice Option.none 0 0),t13]) w2) (ff w2 t12 90 2 37 λt20=>K (.tuple #[t20,t13]) w2)
theorem aaV(h:X6 t0 t1 w K):zc prog Zk #[t0,t1] w K:=
 okC false (.s (.r (rz 3 0 2)) (.s (.r (rz 8 0 33)) (.s (.s (.r (rz 2 0 0)) (.c (.s (.r (rz 3 0 0)) (.n)) (.n))) (.s (.r (rz 7 0 64)) (.n))))) func20 rfl (by kernel_rfl) (by kernel_rfl) h
def QX(t0 t1 t2:Value)(w:World)(K:VW):Prop:=
 pw w (Instr.box 25 t0) λt3 w1=>
 pw w1 (Instr.box 59 t2) λt5 w2=>
 lo w2 25 t3 λt15=>ca xW #[t15,t1,(i6 (-1))] w2 λt17 w3=>
 pe t17 0 λt18=>pe t17 1 λt19=>bt .neq 29 t19 (i6 0) λt21=>zb t21 (K (.tuple #[(i6 0),t19]) w3) (fl w3.drew t3 25 0 22 λt24=>fa t18 90 1 λt27=>fl w3.drew t27 74 4 70 λt29=>lo w3.drew 59 t5 λt30=>ca Z5 #[t24,t29,t30] w3.drew λt31 w4=>
 pp (Op.unary .not t31) λt32=>zb t32 (K (.tuple #[(i6 0),(i6 2)]) w4) (lo w4 59 t5 λt35=>ca yO #[t18,t35] w4 λt36 w5=>
 pe t36 0 λt37=>pe t36 1 λ_t38=>pw w5 (Instr.alloc 59 true (.tuple #[])) λt10 w6=>
 so w6 59 t10 t37 λw7=>ff w7.drew t18 90 2 37 λt43=>lo w7.drew 59 t10 λt44=>ca zD #[t43,t44,(Value.func (.func 49) #[] #[])] w7.drew λt45 w8=>
 pe t45 0 λt46=>pe t45 1 λt47=>pp (Op.unary .not t47) λt49=>zb t49 (K (.tuple #[(i6 0),(i6 2)]) w8) (K (.tuple #[t46,t19]) w8)))
theorem abM(h:QX t0 t1 t2 w K):zc prog Z6 #[t0,t1,t2] w K:=
 okC false (.s (.r (rz 4 0 10)) (.s (.r (rz 8 0 33)) (.s (.s (.r (rz 2 0 0)) (.c (.s (.r (rz 3 0 0)) (.n)) (.n))) (.s (.s (.r (rz 10 0 151556)) (.c (.s (.r (rz 2 0 0)) (.n)) (.n))) (.s (.r (rz 9 0 40996)) (.s (.r (rz 11 0 2368)) (.s (.s (.r (rz 2 0 0)) (.c (.s (.r (rz 2 0 0)) (.n)) (.n))) (.s (.r (rz 4 0 0)) (.n))))))))) func22 rfl (by kernel_rfl) (by kernel_rfl) h
def X7(t0 t1 t2:Value)(w:World)(K:VW):Prop:=
 pw w (Instr.box 25 t0) λt3 w1=>
 lo w1 25 t3 λt12=>ca xW #[t12,t1,(i6 (-1))] w1 λt14 w2=>
 pe t14 0 λt15=>pe t14 1 λt16=>bt .neq 29 t16 (i6 0) λt18=>zb t18 (K (.tuple #[(Value.slice Option.none 0 0),t16]) w2) (bt .lss 3 t2 (i6 0) λt21=>za (λK3=>gIf t21 false (ff w2 t15 90 2 37 λt27=>pp (Builtin.len_ #[37] 3 #[t27]) λt28=>bf .geq 3 t2 t28 λt29=>K3 [t29] w2) (K3 [u_] w2)) (λs4 _d5 w6=>
 zd t21 tr_ (s4.getD 0 u_) λt30=>zb t30 (K (.tuple #[(Value.slice Option.none 0 0),(i6 2)]) w6) (pw w6 (Instr.makeMap 82 none) λt31 w7=>
 ff w7 t15 90 2 37 λt36=>xl w7 37 t36 t2 59 λt39=>pp (Instr.makeFunc (.func 31) #[t31] #[]) λt41=>ca zH #[t15,t39,t41] w7 λ_t42 w8=>
 ca zW #[t31] w8 λt44 w9=>
 K (.tuple #[t44,t16]) w9)))
theorem aaW(h:X7 t0 t1 t2 w K):zc prog kJ #[t0,t1,t2] w K:=
 okC false (.s (.r (rz 3 0 2)) (.s (.r (rz 8 0 33)) (.s (.s (.r (rz 2 0 0)) (.c (.s (.r (rz 3 0 0)) (.n)) (.n))) (.s (.s (.r (ra 3 0 0 (.grp 22 false (ri 7 3 256) [29] (rz 1 10 0)))) (.c (.s (.r (rz 2 0 0)) (.n)) (.n))) (.s (.r (rz 2 0 2)) (.s (.r (rz 11 0 2113792)) (.s (.r (rz 5 0 8)) (.n)))))))) func17 rfl (by kernel_rfl) (by kernel_rfl) h
def X8(t0 t1:Value)(w:World)(K:VW):Prop:=
 pw w (Instr.box 25 t0) λt2 w1=>
 lo w1 25 t2 λt11=>ca xW #[t11,t1,(i6 (-1))] w1 λt13 w2=>
 pe t13 0 λt14=>pe t13 1 λt15=>bt .neq 29 t15 (i6 0) λt17=>zb t17 (K (.tuple #[(Value.slice Option.none 0 0),t15]) w2) (pw w2 (Instr.makeMap 82 none) λt19 w3=>
 fa t14 90 1 λt22=>fl w3 t22 74 4 70 λt24=>pp (Builtin.len_ #[70] 3 #[t24]) λt25=>zt [(i6 0)] w3 (λs5 _d6 w7 K4=>
 bf .lss 3 (s5.getD 0 u_) t25 λt27=>zb t27 (za (λK8=>
 bt .eql 3 (s5.getD 0 u_) (i6 0) λt30=>za (λK12=>gIf t30 false (fa t14 90 1 λt35=>fl w7 t35 74 3 3 λt37=>bf .gtr 3 (s5.getD 0 u_) t37 λt38=>K12 [t38] w7) (K12 [u_] w7)) (λs13 _d14 w15=>
 zd t30 tr_ (s13.getD 0 u_) λt39=>zb t39 (pp (Instr.build 59 #[(0,(s5.getD 0 u_))]) λt42=>pp (Instr.makeFunc (.func 31) #[t19] #[]) λt44=>ca zH #[t14,t42,t44] w15 λ_t45 w16=>
 K8 [] w16) (K8 [] w15))) (λ_s9 _d10 w11=>
 bt .add 3 (s5.getD 0 u_) (i6 1) λt46=>K4 [t46] w11)) (ca zW #[t19] w7 λt48 w17=>
 K (.tuple #[t48,t15]) w17)))
theorem aaX(h:X8 t0 t1 w K):zc prog Zl #[t0,t1] w K:=
 okC false (.s (.r (rz 3 0 2)) (.s (.r (rz 8 0 33)) (.s (.s (.r (rz 2 0 0)) (.c (.s (.r (rz 3 0 0)) (.n)) (.n))) (.s (.r (rz 2 0 2)) (.s (.s (.r (rz 7 0 256)) (.b (.lp [26] (.s (.r (rz 1 0 0)) (.s (.c (.n) (.n)) (.j [] (.b (.s (.r (rz 2 0 0)) (.s (.r (ra 3 0 0 (.grp 31 false (ri 7 3 1024) [38] (rz 1 10 0)))) (.c (.r (rz 6 0 2048)) (.n))))) (.r (rz 2 0 0)))))))) (.s (.r (rz 5 0 8)) (.n))))))) func25 rfl (by kernel_rfl) (by kernel_rfl) h
def vQ(t0 t1 t2 t3:Value)(w:World)(K:VW):Prop:=
 pw w (Instr.box 117 t2) λt6 w1=>
 pw w1 (Instr.box 117 t3) λt7 w2=>
 fa t0 90 1 λt18=>fl w2 t18 74 6 72 λt20=>xl w2 72 t20 t1 94 λt23=>pw w2 (Instr.alloc 94 true (.tuple #[])) λt8 w3=>
 so w3 94 t8 t23 λw4=>lo w4 94 t8 λt24=>ca yX #[t24] w4 λt25 w5=>
 pp (Builtin.len_ #[53] 3 #[t25]) λt26=>zt [(Value.slice Option.none 0 0),(i6 0)] w5 (λs7 _d8 w9 K6=>
 bf .lss 3 (s7.getD 1 u_) t26 λt28=>zb t28 (za (λK10=>
 xl w9 53 t25 (s7.getD 1 u_) 61 λt30=>pw w9 (Instr.alloc 61 true (.tuple #[])) λt11 w14=>
 so w14 61 t11 t30 λw15=>fl w15 t11 61 0 56 λt32=>bt .eql 56 t32 (Value.int .u8 4) λt33=>zb t33 (pp (Instr.makeFunc (.func 84) #[] #[t6,t11]) λt35=>pw w15 (Instr.buildSlice 141 1 #[(0,t35)]) λt36 w16=>
 pw w16 (Builtin.append_ #[141,141] 141 #[(s7.getD 0 u_),t36]) λt37 w17=>
 K10 [t37] w17) (K10 [(s7.getD 0 u_)] w15)) (λs11 _d12 w13=>
 bt .add 3 (s7.getD 1 u_) (i6 1) λt38=>K6 [(s11.getD 0 u_),t38] w13)) (za (λK18=>
 fl w9 t8 94 0 92 λt40=>bt .eql 92 t40 (Value.int .u8 10) λt41=>za (λK22=>gIf t41 false (fl w9 t8 94 0 92 λt44=>bt .eql 92 t44 (Value.int .u8 11) λt45=>K22 [t45] w9) (K22 [u_] w9)) (λs23 _d24 w25=>
 zd t41 tr_ (s23.getD 0 u_) λt46=>zb t46 (pp (Instr.makeFunc (.func 85) #[] #[t6,t8]) λt48=>pw w25 (Instr.buildSlice 141 1 #[(0,t48)]) λt49 w26=>
 pw w26 (Builtin.append_ #[141,141] 141 #[(s7.getD 0 u_),t49]) λt50 w27=>
 K18 [t50] w27) (K18 [(s7.getD 0 u_)] w25))) (λs19 _d20 w21=>
 za (λK28=>
 fl w21 t8 94 1 59 λt54=>ca yO #[t0,t54] w21 λt55 w32=>
 pe t55 0 λt56=>pe t55 1 λt57=>pw w32 (Instr.alloc 59 true (.tuple #[])) λt12 w33=>
 so w33 59 t12 t56 λw34=>lo w34 94 t8 λt58=>ca xM #[t58] w34 λt59 w35=>
 za (λK36=>gIf t59 true (K36 [t57] w35) (K36 [u_] w35)) (λs37 _d38 w39=>
 zd t59 (s37.getD 0 u_) fa_ λt62=>zb t62 (pp (Instr.makeFunc (.func 86) #[] #[t7,t8]) λt64=>pw w39 (Instr.buildSlice 141 1 #[(0,t64)]) λt65 w40=>
 pw w40 (Builtin.append_ #[141,141] 141 #[(s19.getD 0 u_),t65]) λt66 w41=>
 K28 [t66] w41) (K28 [(s19.getD 0 u_)] w39))) (λs29 _d30 w31=>
 pp (Builtin.len_ #[141] 3 #[(s29.getD 0 u_)]) λt68=>zt [(i6 0)] w31 (λs43 _d44 w45 K42=>
 bf .lss 3 (s43.getD 0 u_) t68 λt70=>zb t70 (xl w45 141 (s29.getD 0 u_) (s43.getD 0 u_) 1 λt72=>cv t72 #[] w45 λ_t74 w46=>
 bt .add 3 (s43.getD 0 u_) (i6 1) λt75=>K42 [t75] w46) (K (.tuple #[]) w45))))))
theorem X9(h:vQ t0 t1 t2 t3 w K):zc prog qd #[t0,t1,t2,t3] w K:=
 okC false (.s (.r (rz 2 0 10)) (.s (.r (rz 10 0 672000)) (.s (.r (rz 1 0 0)) (.s (.s (.r (rz 4 0 9)) (.b (.lp [9,27] (.s (.r (rz 1 0 0)) (.s (.c (.n) (.n)) (.j [9] (.b (.s (.r (rz 4 0 164)) (.s (.r (rz 3 0 4)) (.c (.r (rz 5 0 160)) (.n))))) (.r (rz 2 0 0)))))))) (.j [9] (.s (.r (ra 4 0 4 (.grp 42 false (ri 3 4 4) [45] (rz 1 7 0)))) (.c (.r (rz 5 0 160)) (.n))) (.j [9] (.s (.r (rz 10 0 163984)) (.s (.r (ra 3 0 9 (.grp 60 true (ri 1 3 0) [61] (rz 1 4 0)))) (.c (.r (rz 5 0 160)) (.n)))) (.s (.r (rz 3 0 0)) (.b (.lp [69] (.s (.r (rz 1 0 0)) (.s (.c (.n) (.n)) (.s (.b (.s (.r (rz 3 0 4)) (.r (rz 2 0 8)))) (.r (rz 2 0 0)))))))))))))) func54 rfl (by kernel_rfl) (by kernel_rfl) h
def jz(t0 t1:Value)(w:World)(K:VW):Prop:=
 lo w 117 t0 λt2=>fl w t1 61 2 59 λt4=>cv t2 #[t4] w λ_t5 w1=>
 K (.tuple #[]) w1
theorem Y6(h:jz t0 t1 w K):zc prog xo #[t0,t1] w K:=
 okC false (.r (rz 4 0 145)) func84 rfl (by kernel_rfl) (by kernel_rfl) h
def jA(t0 t1:Value)(w:World)(K:VW):Prop:=
 lo w 117 t0 λt2=>fl w t1 94 6 59 λt4=>cv t2 #[t4] w λ_t5 w1=>
 K (.tuple #[]) w1
theorem Y7(h:jA t0 t1 w K):zc prog xp #[t0,t1] w K:=
 okC false (.r (rz 4 0 145)) func85 rfl (by kernel_rfl) (by kernel_rfl) h
def jB(t0 t1:Value)(w:World)(K:VW):Prop:=
 lo w 117 t0 λt2=>fl w t1 94 1 59 λt4=>cv t2 #[t4] w λ_t5 w1=>
 K (.tuple #[]) w1
theorem Y8(h:jB t0 t1 w K):zc prog xq #[t0,t1] w K:=
 okC false (.r (rz 4 0 145)) func86 rfl (by kernel_rfl) (by kernel_rfl) h
def ZC(t0 t1:Value)(w:World)(K:VW):Prop:=
 pw w (Instr.box 78 t0) λt2 w1=>
 pw w1 (Instr.alloc 82 true (.tuple #[])) λt4 w2=>
 pw w2 (Instr.alloc 82 true (.tuple #[])) λt5 w3=>
 pw w3 (Instr.makeMap 82 none) λt6 w4=>
 pw w4 (Instr.makeMap 82 none) λt7 w5=>
 so w5 82 t4 t6 λw6=>so w6 82 t5 t7 λw7=>lo w7 78 t2 λt8=>pp (Instr.makeFunc (.func 55) #[] #[t2,t4,t5]) λt10=>pp (Instr.makeFunc (.func 56) #[] #[t2,t4,t5]) λt11=>ca qd #[t8,t1,t10,t11] w7 λ_t12 w8=>
 lo w8.drew 82 t4 λt13=>((pw w8.drew (Instr.loadAt 82 t5) λt14 w9=>
 Ext w8.drew w9∧
 so w9 82 t4 t13 λw10=>so w10 82 t5 t14 λw11=>pq w11 (zh 82 t4) λr12=>pq w11 (zh 82 t5) λr13=>K (.tuple #[r12,r13]) w11)∧
 (so w8.drew 82 t4 t13 λw14=>pw w14 (Instr.loadAt 82 t5) λt14_16 w15=>
 Ext w14 w15∧
 so w15 82 t5 t14_16 λw17=>pq w17 (zh 82 t4) λr18=>pq w17 (zh 82 t5) λr19=>K (.tuple #[r18,r19]) w17))
theorem QD(h:ZC t0 t1 w K):zc prog x7 #[t0,t1] w K:=
 okC false (.s (.r (rz 3 0 42)) (.s (.r (rz 4 0 170)) (.s (.r (rz 5 0 513)) (.s (.r (ra 1 0 1 (.alt 1 .u (rz 2 2 10) (ra 1 2 2 (ra 1 1 3 (rz 1 3 2)))))) (.n))))) func27 rfl (by kernel_rfl) (by kernel_rfl) h
def vd(t0 t1 t2 t3:Value)(w:World)(K:VW):Prop:=
 pw w (Instr.box 59 t0) λt4 w1=>
 lo w1 78 t1 λt5=>lo w1 59 t4 λt6=>lo w1 82 t2 λt7=>pp (Instr.makeFunc (.func 31) #[t7] #[]) λt8=>ca zH #[t5,t6,t8] w1 λ_t9 w2=>
 lo w2 78 t1 λt10=>lo w2 59 t4 λt11=>lo w2 82 t3 λt12=>pp (Instr.makeFunc (.func 33) #[t12] #[]) λt13=>ca zH #[t10,t11,t13] w2 λ_t14 w3=>
 K (.tuple #[]) w3
theorem Xx(h:vd t0 t1 t2 t3 w K):zc prog kK #[t0,t1,t2,t3] w K:=
 okC false (.s (.r (rz 1 0 2)) (.s (.r (rz 5 0 533)) (.r (rz 5 0 533)))) func55 rfl (by kernel_rfl) (by kernel_rfl) h
def ve(t0 t1 t2 t3:Value)(w:World)(K:VW):Prop:=
 pw w (Instr.box 59 t0) λt4 w1=>
 lo w1 78 t1 λt5=>lo w1 59 t4 λt6=>lo w1 82 t2 λt7=>pp (Instr.makeFunc (.func 33) #[t7] #[]) λt8=>ca zH #[t5,t6,t8] w1 λ_t9 w2=>
 lo w2 78 t1 λt10=>lo w2 59 t4 λt11=>lo w2 82 t3 λt12=>pp (Instr.makeFunc (.func 31) #[t12] #[]) λt13=>ca zH #[t10,t11,t13] w2 λ_t14 w3=>
 K (.tuple #[]) w3
theorem Xy(h:ve t0 t1 t2 t3 w K):zc prog kL #[t0,t1,t2,t3] w K:=
 okC false (.s (.r (rz 1 0 2)) (.s (.r (rz 5 0 533)) (.r (rz 5 0 533)))) func56 rfl (by kernel_rfl) (by kernel_rfl) h
def aau(t0 t1 t2:Value)(w:World)(K:VW):Prop:=
 pw w (Instr.box 25 t0) λt3 w1=>
 bt .lss 3 t2 (i6 0) λt9=>zb t9 (K (.tuple #[(Value.pointer Option.none),(i6 2)]) w1) (lo w1 25 t3 λt10=>ca xW #[t10,t1,t2] w1 λt13 w2=>
 pe t13 0 λt14=>pe t13 1 λt15=>K (.tuple #[t14,t15]) w2)
theorem adz(h:aau t0 t1 t2 w K):zc prog qR #[t0,t1,t2] w K:=
 okC false (.s (.r (rz 3 0 2)) (.s (.s (.r (rz 2 0 0)) (.c (.s (.r (rz 2 0 0)) (.n)) (.n))) (.s (.r (rz 8 0 129)) (.n)))) func26 rfl (by kernel_rfl) (by kernel_rfl) h
def QY(t0 t1 t2:Value)(w:World)(K:VW):Prop:=
 pw w (Instr.box 25 t0) λt3 w1=>
 lo w1 25 t3 λt13=>ca qR #[t13,t1,t2] w1 λt16 w2=>
 pe t16 0 λt17=>pe t16 1 λt18=>bt .neq 29 t18 (i6 0) λt20=>zb t20 (K (.tuple #[(Value.slice Option.none 0 0),(Value.slice Option.none 0 0),t18]) w2) (ca x7 #[t17,t2] w2 λt25 w3=>
 pe t25 0 λt26=>pe t25 1 λt27=>ca zW #[t26] w3 λt29 w4=>
 ca zW #[t27] w4 λt31 w5=>
 K (.tuple #[t29,t31,t18]) w5)
theorem abN(h:QY t0 t1 t2 w K):zc prog jU #[t0,t1,t2] w K:=
 okC false (.s (.r (rz 4 0 2)) (.s (.r (rz 9 0 129)) (.s (.s (.r (rz 2 0 0)) (.c (.s (.r (rz 4 0 0)) (.n)) (.n))) (.s (.r (rz 8 0 32)) (.s (.r (rz 8 0 136)) (.n)))))) func8 rfl (by kernel_rfl) (by kernel_rfl) h
def ZD(t0 t1 t2:Value)(w:World)(K:VW):Prop:=
 pw w (Instr.box 78 t0) λt3 w1=>
 pw w1 (Instr.box 88 t2) λt5 w2=>
 lo w2 78 t3 λt11=>fa t11 90 1 λt13=>fl w2 t13 74 6 72 λt15=>xl w2 72 t15 t1 94 λt18=>pw w2 (Instr.alloc 94 true (.tuple #[])) λt6 w3=>
 so w3 94 t6 t18 λw4=>pw w4 (Instr.makeMap 82 none) λt19 w5=>
 pw w5 (Instr.alloc 82 true (.tuple #[])) λt7 w6=>
 so w6 82 t7 t19 λw7=>pp (Instr.makeFunc (.func 58) #[] #[t3,t5,t7]) λt20=>lo w7 94 t6 λt21=>ca yX #[t21] w7 λt22 w8=>
 pp (Builtin.len_ #[53] 3 #[t22]) λt23=>zt [(i6 0)] w8 (λs10 _d11 w12 K9=>
 bf .lss 3 (s10.getD 0 u_) t23 λt25=>zb t25 (za (λK13=>
 xl w12 53 t22 (s10.getD 0 u_) 61 λt27=>pw w12 (Instr.alloc 61 true (.tuple #[])) λt10 w17=>
 so w17 61 t10 t27 λw18=>fl w18 t10 61 2 59 λt30=>cv t20 #[t30,fa_] w18 λ_t31 w19=>
 fl w19 t10 61 0 56 λt33=>bt .eql 56 t33 (Value.int .u8 4) λt34=>zb t34 (lo w19 78 t3 λt35=>fl w19 t10 61 2 59 λt37=>lo w19 82 t7 λt38=>pp (Instr.makeFunc (.func 31) #[t38] #[]) λt39=>ca zH #[t35,t37,t39] w19 λ_t40 w20=>
 K13 [] w20) (K13 [] w19)) (λ_s14 _d15 w16=>
 bt .add 3 (s10.getD 0 u_) (i6 1) λt41=>K9 [t41] w16)) (za (λK21=>
 fl w12 t6 94 0 92 λt44=>bt .eql 92 t44 (Value.int .u8 4) λt45=>zb t45 (fl w12 t6 94 6 59 λt48=>cv t20 #[t48,fa_] w12 λ_t49 w25=>
 K21 [] w25) (fl w12 t6 94 0 92 λt52=>bt .eql 92 t52 (Value.int .u8 14) λt53=>zb t53 (pp (Instr.build 59 #[]) λt55=>cv t20 #[t55,fa_] w12 λ_t56 w26=>
 K21 [] w26) (K21 [] w12))) (λ_s22 _d23 w24=>
 lo w24 94 t6 λt57=>ca xM #[t57] w24 λt58 w27=>
 zb t58 (fl w27 t6 94 1 59 λt61=>cv t20 #[t61,tr_] w27 λ_t62 w28=>
 K (.tuple #[]) w28) (K (.tuple #[]) w27))))
theorem QE(h:ZD t0 t1 t2 w K):zc prog x8 #[t0,t1,t2] w K:=
 okC false (.s (.r (rz 2 0 10)) (.s (.r (rz 10 0 672001)) (.s (.r (rz 3 0 42)) (.s (.r (rz 2 0 0)) (.s (.s (.r (rz 4 0 9)) (.b (.lp [24] (.s (.r (rz 1 0 0)) (.s (.c (.n) (.n)) (.j [] (.b (.s (.r (rz 4 0 164)) (.s (.r (rz 4 0 144)) (.s (.r (rz 3 0 4)) (.c (.r (rz 6 0 2129)) (.n)))))) (.r (rz 2 0 0)))))))) (.j [] (.b (.s (.r (rz 4 0 4)) (.c (.r (rz 4 0 144)) (.s (.r (rz 4 0 4)) (.c (.r (rz 3 0 32)) (.n)))))) (.s (.r (rz 2 0 9)) (.c (.r (rz 4 0 144)) (.n))))))))) func29 rfl (by kernel_rfl) (by kernel_rfl) h
def vh(t0 t1 t2 t3 t4:Value)(w:World)(K:VW):Prop:=
 pw w (Instr.box 59 t0) λt5 w1=>
 lo w1 78 t2 λt13=>lo w1 59 t5 λt14=>ca yO #[t13,t14] w1 λt15 w2=>
 pe t15 0 λt16=>pe t15 1 λt17=>pw w2 (Instr.alloc 59 true (.tuple #[])) λt7 w3=>
 so w3 59 t7 t16 λw4=>lo w4 78 t2 λt18=>ff w4 t18 90 2 37 λt21=>pp (Builtin.len_ #[37] 3 #[t21]) λt22=>zt [(i6 0)] w4 (λs6 _d7 w8 K5=>
 bf .lss 3 (s6.getD 0 u_) t22 λt24=>zb t24 (za (λK9=>
 xl w8 37 t21 (s6.getD 0 u_) 59 λt27=>pw w8 (Instr.alloc 59 true (.tuple #[])) λt10 w13=>
 so w13 59 t10 t27 λw14=>za (λK15=>gIf t17 true (lo w14 59 t10 λt30=>lo w14 59 t5 λt31=>ca jl #[t30,t31] w14 λt32 w19=>
 K15 [t32] w19) (K15 [u_] w14)) (λs16 _d17 w18=>
 zd t17 (s16.getD 0 u_) fa_ λt33=>lo w18 59 t10 λt34=>lo w18 59 t7 λt35=>ca xf #[t34,t35] w18 λt36 w20=>
 za (λK21=>gIf t36 true (K21 [t1] w20) (K21 [u_] w20)) (λs22 _d23 w24=>
 za (λK25=>gIf (s22.getD 0 u_) true (K25 [t33] w24) (K25 [u_] w24)) (λs26 _d27 w28=>
 za (λK29=>gIf t36 true (zd (s22.getD 0 u_) (s26.getD 0 u_) fa_ λt41=>pp (Op.unary .not t41) λt42=>K29 [t42] w28) (K29 [u_] w28)) (λs30 _d31 w32=>
 zd t36 (s30.getD 0 u_) fa_ λt43=>za (λK33=>gIf t43 false (pp (Op.unary .not t1) λt46=>K33 [t46] w32) (K33 [u_] w32)) (λs34 _d35 w36=>
 za (λK37=>gIf (s34.getD 0 u_) true (K37 [t17] w36) (K37 [u_] w36)) (λs38 _d39 w40=>
 za (λK41=>gIf t43 false (zd (s34.getD 0 u_) (s38.getD 0 u_) fa_ λt49=>K41 [t49] w40) (K41 [u_] w40)) (λs42 _d43 w44=>
 za (λK45=>gIf (s42.getD 0 u_) true (lo w44 59 t5 λt51=>lo w44 59 t10 λt52=>ca xf #[t51,t52] w44 λt53 w49=>
 K45 [t53] w49) (K45 [u_] w44)) (λs46 _d47 w48=>
 za (λK50=>gIf t43 false (zd (s42.getD 0 u_) (s46.getD 0 u_) fa_ λt54=>K50 [t54] w48) (K50 [u_] w48)) (λs51 _d52 w53=>
 zd t43 tr_ (s51.getD 0 u_) λt55=>zb t55 (lo w53 88 t3 λt56=>lo w53 82 t4 λt58=>cv t56 #[(s6.getD 0 u_),t58] w53 λ_t59 w54=>
 K9 [] w54) (K9 [] w53))))))))))) (λ_s10 _d11 w12=>
 bt .add 3 (s6.getD 0 u_) (i6 1) λt60=>K5 [t60] w12)) (K (.tuple #[]) w8))
theorem Xz{t4:Value}(h:vh t0 t1 t2 t3 t4 w K):zc prog j7 #[t0,t1,t2,t3,t4] w K:=
 okC false (.s (.r (rz 1 0 2)) (.s (.r (rz 9 0 40997)) (.s (.r (rz 6 0 65)) (.b (.lp [23] (.s (.r (rz 1 0 0)) (.s (.c (.n) (.n)) (.j [] (.b (.s (.r (rz 6 0 2192)) (.s (.r (ra 2 0 0 (.grp 29 true (ri 3 2 37) [32] (rz 2 5 0)))) (.s (.r (ra 4 0 37 (.grp 37 true (ri 2 4 0) [39] (.grp 39 true (ri 1 6 0) [40] (.grp 37 true (ri 2 7 0) [42] (ra 2 9 0 (.grp 44 false (ri 3 11 0) [47] (.grp 47 true (ri 1 14 0) [48] (.grp 44 false (ri 2 15 0) [50] (.grp 50 true (ri 3 17 37) [53] (.grp 44 false (ri 1 20 0) [54] (rz 1 21 0)))))))))))) (.c (.r (rz 4 0 145)) (.n)))))) (.r (rz 2 0 0)))))))))) func58 rfl (by kernel_rfl) (by kernel_rfl) h
def QZ(t0 t1 t2:Value)(w:World)(K:VW):Prop:=
 pw w (Instr.box 25 t0) λt3 w1=>
 lo w1 25 t3 λt12=>ca qR #[t12,t1,t2] w1 λt15 w2=>
 pe t15 0 λt16=>pe t15 1 λt17=>bt .neq 29 t17 (i6 0) λt19=>zb t19 (K (.tuple #[(Value.slice Option.none 0 0),t17]) w2) (pw w2 (Instr.makeMap 82 none) λt21 w3=>
 pw w3 (Instr.alloc 82 true (.tuple #[])) λt10 w4=>
 so w4 82 t10 t21 λw5=>pp (Instr.makeFunc (.func 30) #[] #[t10]) λt24=>ca x8 #[t16,t2,t24] w5 λ_t25 w6=>
 lo w6 82 t10 λt26=>ca zW #[t26] w6 λt27 w7=>
 K (.tuple #[t27,t17]) w7)
theorem abO(h:QZ t0 t1 t2 w K):zc prog Z7 #[t0,t1,t2] w K:=
 okC false (.s (.r (rz 3 0 2)) (.s (.r (rz 9 0 129)) (.s (.s (.r (rz 2 0 0)) (.c (.s (.r (rz 3 0 0)) (.n)) (.n))) (.s (.r (rz 3 0 42)) (.s (.r (rz 4 0 128)) (.s (.r (rz 5 0 9)) (.n))))))) func9 rfl (by kernel_rfl) (by kernel_rfl) h
def Xo(t0 _t1 t2:Value)(w:World)(K:VW):Prop:=
 lo w 82 t2 λt5=>ca yu #[t5,t0] w λ_t7 w1=>
 K (.tuple #[]) w1
theorem V0(h:Xo t0 t1 t2 w K):zc prog vx #[t0,t1,t2] w K:=
 okC false (.r (rz 3 0 33)) func30 rfl (by kernel_rfl) (by kernel_rfl) h
def Qa(t0 t1 t2:Value)(w:World)(K:VW):Prop:=
 pw w (Instr.box 25 t0) λt3 w1=>
 lo w1 25 t3 λt13=>ca qR #[t13,t1,t2] w1 λt16 w2=>
 pe t16 0 λt17=>pe t16 1 λt18=>bt .neq 29 t18 (i6 0) λt20=>zb t20 (K (.tuple #[(i6 0),fa_,t18]) w2) (pw w2 (Instr.makeMap 82 none) λt22 w3=>
 pw w3 (Instr.alloc 82 true (.tuple #[])) λt10 w4=>
 so w4 82 t10 t22 λw5=>pp (Instr.makeFunc (.func 32) #[] #[t10]) λt25=>ca x8 #[t17,t2,t25] w5 λ_t26 w6=>
 lo w6 82 t10 λt27=>ca zW #[t27] w6 λt28 w7=>
 pp (Builtin.len_ #[26] 3 #[t28]) λt30=>bt .gtr 3 t30 (i6 0) λt31=>zb t31 (xl w7 26 t28 (i6 0) 3 λt34=>K (.tuple #[t34,tr_,t18]) w7) (K (.tuple #[(i6 0),fa_,t18]) w7))
theorem aaY(h:Qa t0 t1 t2 w K):zc prog Zm #[t0,t1,t2] w K:=
 okC false (.s (.r (rz 4 0 2)) (.s (.r (rz 9 0 129)) (.s (.s (.r (rz 2 0 0)) (.c (.s (.r (rz 4 0 0)) (.n)) (.n))) (.s (.r (rz 3 0 42)) (.s (.r (rz 4 0 128)) (.s (.s (.r (rz 3 0 9)) (.s (.r (rz 3 0 0)) (.c (.s (.r (rz 7 0 16)) (.n)) (.n)))) (.s (.r (rz 4 0 0)) (.n)))))))) func10 rfl (by kernel_rfl) (by kernel_rfl) h
def YH(t0 t1 t2:Value)(w:World)(K:VW):Prop:=
 pq w (Instr.lookup 82 t1 t0 false) λt7=>bt .gtr 3 t7 (i6 0) λt8=>zb t8 (lo w 82 t2 λt9=>ca yu #[t9,t0] w λ_t11 w1=>
 K (.tuple #[]) w1) (K (.tuple #[]) w)
theorem Ve(h:YH t0 t1 t2 w K):zc prog jE #[t0,t1,t2] w K:=
 okC false (.s (.r (rz 4 0 16)) (.c (.r (rz 3 0 33)) (.n))) func32 rfl (by kernel_rfl) (by kernel_rfl) h
def Xp(t0 t1 t2 t3:Value)(w:World)(K:VW):Prop:=
 pw w (Instr.box 25 t0) λt4 w1=>
 lo w1 25 t4 λt20=>ca qR #[t20,t1,t2] w1 λt23 w2=>
 pe t23 0 λt24=>pe t23 1 λt25=>bt .neq 29 t25 (i6 0) λt27=>zb t27 (K (.tuple #[(Value.slice Option.none 0 0),t25]) w2) (pw w2 (Instr.makeMap 82 none) λt29 w3=>
 pp (Builtin.len_ #[26] 3 #[t3]) λt31=>zt [(i6 0)] w3 (λs5 _d6 w7 K4=>
 bf .lss 3 (s5.getD 0 u_) t31 λt33=>zb t33 (xl w7 26 t3 (s5.getD 0 u_) 3 λt36=>bt .lss 3 t36 (i6 0) λt38=>za (λK8=>gIf t38 false (ff w7 t24 90 2 37 λt44=>pp (Builtin.len_ #[37] 3 #[t44]) λt45=>bf .geq 3 t36 t45 λt46=>K8 [t46] w7) (K8 [u_] w7)) (λs9 _d10 w11=>
 zd t38 tr_ (s9.getD 0 u_) λt47=>za (λK12=>gIf t47 false (bt .gtr 3 (s5.getD 0 u_) (i6 0) λt50=>K12 [t50] w11) (K12 [u_] w11)) (λs13 _d14 w15=>
 za (λK16=>gIf (s13.getD 0 u_) true (bt .sub 3 (s5.getD 0 u_) (i6 1) λt54=>xl w15 26 t3 t54 3 λt56=>bf .geq 3 t56 t36 λt58=>K16 [t58] w15) (K16 [u_] w15)) (λs17 _d18 w19=>
 za (λK20=>gIf t47 false (zd (s13.getD 0 u_) (s17.getD 0 u_) fa_ λt59=>K20 [t59] w19) (K20 [u_] w19)) (λs21 _d22 w23=>
 zd t47 tr_ (s21.getD 0 u_) λt60=>zb t60 (K (.tuple #[(Value.slice Option.none 0 0),(i6 2)]) w23) (ca yu #[t29,t36] w23 λ_t63 w24=>
 bt .add 3 (s5.getD 0 u_) (i6 1) λt64=>K4 [t64] w24)))))) (ca x7 #[t24,t2] w7 λt68 w25=>
 pe t68 0 λt69=>pe t68 1 λt70=>pw w25 (Instr.range 82 t69) λt72 w26=>
 zt [] w26 (λ_s28 _d29 w30 K27=>
 pw w30 (Instr.next t72 false 0) λt73 w31=>
 pe t73 0 λt74=>zb t74 (pw w31 (Instr.entry t72) λt75 w32=>
 pe t75 0 λt76=>ca yu #[t29,t76] w32 λ_t79 w33=>
 K27 [] w33) (pw w31 (Instr.range 82 t70) λt81 w34=>
 zt [] w34 (λ_s36 _d37 w38 K35=>
 pw w38 (Instr.next t81 false 0) λt82 w39=>
 pe t82 0 λt83=>zb t83 (pw w39 (Instr.entry t81) λt84 w40=>
 pe t84 0 λt85=>ca kB #[t29,t85] w40 λ_t88 w41=>
 K35 [] w41) (ca zW #[t29] w39 λt90 w42=>
 K (.tuple #[t90,t25]) w42)))))))
theorem V1(h:Xp t0 t1 t2 t3 w K):zc prog y7 #[t0,t1,t2,t3] w K:=
 okC false (.s (.r (rz 3 0 2)) (.s (.r (rz 9 0 129)) (.s (.s (.r (rz 2 0 0)) (.c (.s (.r (rz 3 0 0)) (.n)) (.n))) (.s (.r (rz 2 0 2)) (.s (.s (.r (rz 3 0 0)) (.b (.lp [32] (.s (.r (rz 1 0 0)) (.s (.c (.n) (.n)) (.s (.b (.s (.r (rz 5 0 16)) (.s (.s (.r (ra 3 0 0 (.grp 39 false (ri 7 3 256) [46] (ra 2 10 0 (.grp 48 false (ri 3 12 0) [51] (.grp 51 true (ri 7 15 256) [58] (.grp 48 false (ri 1 22 0) [59] (rz 1 23 0)))))))) (.c (.s (.r (rz 2 0 0)) (.n)) (.n))) (.r (rz 3 0 32))))) (.r (rz 2 0 0)))))))) (.s (.r (rz 8 0 32)) (.s (.s (.r (rz 2 0 8)) (.b (.lp [] (.s (.r (rz 2 0 2)) (.s (.c (.n) (.n)) (.b (.s (.r (rz 3 0 2)) (.r (rz 3 0 32))))))))) (.s (.s (.r (rz 2 0 8)) (.b (.lp [] (.s (.r (rz 2 0 2)) (.s (.c (.n) (.n)) (.b (.s (.r (rz 3 0 2)) (.r (rz 3 0 32))))))))) (.s (.r (rz 5 0 8)) (.n)))))))))) func11 rfl (by kernel_rfl) (by kernel_rfl) h
def YI(t0:Value)(w:World)(K:VW):Prop:=
 bt .geq 3 t0 (i6 2) λt4=>K t4 w
theorem Vf(h:YI t0 w K):zc prog Ym #[t0] w K:=
 okC false (.s (.r (rz 1 0 0)) (.s (.r (rz 3 0 0)) (.n))) func106 rfl (by kernel_rfl) (by kernel_rfl) h
def yF(t0 t1:Value)(w:World)(K:VW):Prop:=
 pp (Builtin.len_ #[37] 3 #[t0]) λt9=>bt .lss 3 t9 (i6 2) λt10=>zb t10 (K t0 w) (zt [(i6 1)] w (λs2 _d3 w4 K1=>
 pp (Builtin.len_ #[37] 3 #[t0]) λt14=>bf .lss 3 (s2.getD 0 u_) t14 λt15=>zb t15 (xl w4.drew 37 t0 (s2.getD 0 u_) 59 λt22=>bt .sub 3 (s2.getD 0 u_) (i6 1) λt25=>xl w4.drew 37 t0 t25 59 λt27=>cv t1 #[t22,t27] w4.drew λt28 w5=>
 zb t28 (pp (Instr.sliceAt 37 t0 (some (s2.getD 0 u_)) none none) λt31=>zt [(s2.getD 0 u_),(i6 1)] w5 (λs7 _d8 w9 K6=>
 pp (Builtin.len_ #[37] 3 #[t31]) λt34=>bf .lss 3 (s7.getD 1 u_) t34 λt35=>zb t35 (za (λK10=>
 xl w9.drew 37 t31 (s7.getD 1 u_) 59 λt42=>bt .sub 3 (s7.getD 1 u_) (i6 1) λt45=>xl w9.drew 37 t31 t45 59 λt47=>cv t1 #[t42,t47] w9.drew λt48 w14=>
 pp (Op.unary .not t48) λt49=>zb t49 (xl w14 37 t31 (s7.getD 1 u_) 59 λt55=>px 37 t0 (s7.getD 0 u_) λt56=>so w14 59 t56 t55 λw15=>bt .add 3 (s7.getD 0 u_) (i6 1) λt58=>K10 [t58] w15) (K10 [(s7.getD 0 u_)] w14)) (λs11 _d12 w13=>
 bt .add 3 (s7.getD 1 u_) (i6 1) λt37=>K6 [(s11.getD 0 u_),t37] w13)) (pp (Instr.sliceAt 37 t0 (some (s7.getD 0 u_)) none none) λt61=>pw w9 (Builtin.clear_ #[37] 0 #[t61]) λ_ w16=>
 pp (Instr.sliceAt 37 t0 none (some (s7.getD 0 u_)) none) λt64=>K t64 w16))) (bt .add 3 (s2.getD 0 u_) (i6 1) λt17=>K1 [t17] w5)) (K t0 w4)))
theorem xT(h:yF t0 t1 w K):zc prog zI #[t0,t1] w K:=
 okC false (.s (.r (rz 1 0 0)) (.s (.s (.r (rz 3 0 0)) (.c (.s (.r (rz 2 0 0)) (.n)) (.n))) (.s (.s (.r (rz 1 0 0)) (.b (.lp [5] (.s (.s (.r (rz 4 0 0)) (.c (.n) (.n))) (.s (.b (.s (.r (rz 11 0 2359552)) (.c (.s (.r (rz 4 0 0)) (.s (.s (.r (rz 1 0 0)) (.b (.lp [5,7] (.s (.s (.r (rz 4 0 0)) (.c (.n) (.n))) (.j [5] (.b (.s (.r (rz 12 0 2359552)) (.c (.s (.r (rz 8 0 33792)) (.r (rz 3 0 0))) (.n)))) (.r (rz 3 0 0))))))) (.s (.r (rz 4 0 128)) (.s (.r (rz 4 0 0)) (.n))))) (.n)))) (.r (rz 3 0 0))))))) (.s (.r (rz 2 0 0)) (.n))))) func74 rfl (by kernel_rfl) (by kernel_rfl) h
def zX(t0 t1 t2:Value)(w:World)(K:VW):Prop:=
 pw w (Instr.box 59 t1) λt4 w1=>
 pp (Builtin.len_ #[37] 3 #[t0]) λt13=>zt [(i6 0),t13] w1 (λs3 _d4 w5 K2=>
 bf .lss 3 (s3.getD 0 u_) (s3.getD 1 u_) λt17=>zb t17 (bf .add 3 (s3.getD 0 u_) (s3.getD 1 u_) λt20=>pp (convert 3 137 t20) λt21=>bt .shr 137 t21 (Value.int .u64 1) λt22=>pp (convert 137 3 t22) λt23=>xl w5.drew 37 t0 t23 59 λt28=>lo w5.drew 59 t4 λt29=>cv t2 #[t28,t29] w5.drew λt30 w6=>
 bt .lss 3 t30 (i6 0) λt31=>zb t31 (bt .add 3 t23 (i6 1) λt33=>K2 [t33,(s3.getD 1 u_)] w6) (K2 [(s3.getD 0 u_),t23] w6)) (bf .lss 3 (s3.getD 0 u_) t13 λt38=>za (λK7=>gIf t38 true (xl w5.drew 37 t0 (s3.getD 0 u_) 59 λt44=>lo w5.drew 59 t4 λt45=>cv t2 #[t44,t45] w5.drew λt46 w11=>
 bt .eql 3 t46 (i6 0) λt47=>K7 [t47] w11) (K7 [u_] w5.drew)) (λs8 _d9 w10=>
 zd t38 (s8.getD 0 u_) fa_ λt48=>K (.tuple #[(s3.getD 0 u_),t48]) w10)))
theorem yP(h:zX t0 t1 t2 w K):zc prog zD #[t0,t1,t2] w K:=
 okC false (.s (.r (rz 3 0 2)) (.s (.r (rz 3 0 0)) (.s (.r (rz 3 0 0)) (.s (.b (.lp [9,10] (.s (.s (.r (rz 3 0 0)) (.c (.n) (.n))) (.b (.s (.r (rz 7 0 0)) (.s (.r (rz 8 0 9472)) (.c (.r (rz 3 0 0)) (.r (rz 2 0 0))))))))) (.s (.r (ra 5 0 0 (.grp 39 true (ri 8 5 9472) [47] (rz 3 13 0)))) (.n)))))) func48 rfl (by kernel_rfl) (by kernel_rfl) h
end
end Go.Proofs.Tryz
namespace Go.Proofs
open Go.Sh Go.RowKit
section
section
variable {σ:Type} {X:Nat→Prop} {w0:World} {r ρ:Gh} {fv:Value} {Lc:σ→List Asr} {J:σ→List CnD→Prop} {u:UnD} {g:GrD} {q a:Int} {b5 b6 b8 b9 b10:Nat}
theorem aav{P:Program}{t e:TypeId}{n:Nat}{p:Option Addr}{len cap:Nat}{kd:IntKind}{i:Int}{K:Value→Prop}(h:slT P t=some (e,n))(h0:0≤i)(h1:i≤cap)
  (k:K (.slice p i.toNat i.toNat)):opP P (Instr.sliceAt t (.slice p len cap) none (some (.int kd i)) (some (.int kd i))) K:=by
 refine yz (λw=>?_) k
 unfold slT at h
 cases hu:P.underlying t with
 |none=>rw [hu]at h;cases h
 |some d=>
  rw[hu]at h
  cases d<;>first|cases h|skip
  rename_i e'
  simp only[Option.map_eq_some_iff,Prod.mk.injEq]at h
  obtain⟨m,hs,rfl,rfl⟩:=h
  cases p with
  |none=>simp [Instr.sliceAt,Instr.slice,Instr.sliceBounds,Instr.sliceBound,asIntOf,Sem.run_bind,zr hu,Result.andThen,Sem.run,pure,h0,h1,Int.max_eq_left h0,zJ hs]
  |some a=>simp [Instr.sliceAt,Instr.slice,Instr.sliceBounds,Instr.sliceBound,asIntOf,Sem.run_bind,zr hu,Result.andThen,Sem.run,pure,h0,h1,Int.max_eq_left h0,zJ hs,Addr.add]
theorem abP{ρ:Gh}{q1:Option Addr}{c1 n:Nat}{ps:List Int}(h:SlB 1 ρ yI (.slice q1 ps.length c1) ps)(hn:n≤ps.length):SlB 1 ρ yI (.slice q1 n n) (ps.take n):=by
 obtain⟨⟨p',cap',hE,h2,h3,h4⟩,h5⟩:=h
 cases hE
 have hl:(ps.take n).length=n:=by rw[List.length_take];omega
 refine⟨⟨q1,n,by rw[hl],λe=>?_,by omega,λi hi=>?_⟩,by omega⟩
 ·have:=h2 e;omega
 ·obtain⟨c,k1,k2,k3⟩:=h4 i (by omega)
  exact⟨c,k1,k2,by rw[List.getElem_take];exact k3⟩
end
end
end Go.Proofs
namespace Go.Sh
open Go.RowKit Go.MapKept
def Born(l:List MapEntry)(c:Nat):Prop:=l.Pairwise (λa b=>a.born<b.born)∧∀m∈l,m.born<c
theorem Born.nil{c:Nat}:Born [] c:=⟨.nil,λm hm=>by cases hm⟩
theorem Born.push{l:List MapEntry}{c:Nat}{k v:Value}(h:Born l c):Born (l++[{ key:=k,val:=v,born:=c }]) (c+1):=by
 refine⟨List.pairwise_append.2 ⟨h.1,List.pairwise_singleton _ _,λa ha b hb=>?_⟩,λm hm=>?_⟩
 ·rw[List.mem_singleton.1 hb];exact h.2 a ha
 ·rw[List.mem_append,List.mem_singleton]at hm
  rcases hm with hm|rfl
  ·have:=h.2 m hm;omega
  ·exact Nat.lt_succ_self c
theorem Born.mod{l:List MapEntry}{c j:Nat}{f:MapEntry→MapEntry}(h:Born l c)(hf:∀m,(f m).born=m.born):Born (l.modify j f) c:=by
 have e:(l.modify j f).map (·.born)=l.map (·.born):=by
  refine List.ext_getElem (by simp) λi h1 h2=>?_
  simp only[List.getElem_map,List.getElem_modify]
  split
  ·exact hf _
  ·rfl
 have key:∀{l:List MapEntry},l.Pairwise (λa b=>a.born<b.born)↔(l.map (·.born)).Pairwise (· < ·):=fun {l}=>List.pairwise_map.symm
 refine⟨key.2 (by rw[e];exact key.1 h.1),λm hm=>?_⟩
 have :m.born∈(l.modify j f).map (·.born):=List.mem_map.2 ⟨m,hm,rfl⟩
 rw[e]at this
 obtain⟨m',hm',he⟩:=List.mem_map.1 this
 have:=h.2 m' hm'
 omega
end Go.Sh
namespace Go.Proofs
open Go.Sh
theorem aaw{ss:List StD}{tys:List TyD}{p:PlD}{x:TyD×List Int}(h:zN ss tys p=some x):x.2.length=p.ps.length:=by
 unfold zN at h
 split at h
 ·exact XX h
 ·cases h
end Go.Proofs
namespace Go.Proofs.Tryz
open Go.Sh
def xn(t0 t1:Value)(w:World)(K:VW):Prop:=
 pp (Builtin.len_ #[57] 3 #[t0]) λt7=>pp (Builtin.len_ #[57] 3 #[t1]) λt9=>bf .neq 3 t7 t9 λt10=>zb t10 (K fa_ w) (pp (Builtin.len_ #[57] 3 #[t0]) λt12=>zt [(i6 0)] w (λs2 _d3 w4 K1=>
 bf .lss 3 (s2.getD 0 u_) t12 λt14=>zb t14 (xl w4.drew 57 t0 (s2.getD 0 u_) 76 λt19=>xl w4.drew 57 t1 (s2.getD 0 u_) 76 λt23=>bf .neq 76 t19 t23 λt24=>zb t24 (K fa_ w4.drew) (bt .add 3 (s2.getD 0 u_) (i6 1) λt25=>K1 [t25] w4.drew)) (K tr_ w4)))
theorem qx{t0 t1:Value}{w:World}{K:VW}(h:xn t0 t1 w K):zc prog yo #[t0,t1] w K:=
 okC false (.s (.r (rz 1 0 0)) (.s (.s (.r (rz 5 0 0)) (.c (.s (.r (rz 1 0 0)) (.n)) (.n))) (.s (.s (.r (rz 3 0 0)) (.b (.lp [13] (.s (.r (rz 1 0 0)) (.s (.c (.n) (.n)) (.s (.b (.s (.r (rz 2 0 0)) (.s (.r (rz 9 0 16448)) (.c (.s (.r (rz 1 0 0)) (.n)) (.n))))) (.r (rz 2 0 0)))))))) (.s (.r (rz 1 0 0)) (.n))))) func50 rfl (by kernel_rfl) (by kernel_rfl) h
end Go.Proofs.Tryz
