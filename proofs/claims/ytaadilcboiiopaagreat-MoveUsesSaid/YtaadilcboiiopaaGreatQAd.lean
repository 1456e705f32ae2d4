/-
  Contracts and plain laws that the last text leans on.
-/
import Derived.Test.YtaadilcboiiopaaGreatQAc
import Derived.Test.YtaadilcboiiopaaGreatQAb
import GoSem.Builtin.Clear
import Derived.Lib.ItoaLen
import Derived.Shelf.Strings.Builder1
import Derived.Shelf.Strings.OnBuilder
import Derived.Shelf.Small.Wraps
import Derived.Shelf.Strconv.Itoa3
import Derived.Shelf.Strconv.Itoa4
import Derived.Shelf.Slices.CompactI
import Derived.Test.YtaadilcboiiopaaGreatProg
import Derived.KernelRfl
import Derived.Shelf.Sort.Plain
import Derived.Shelf.Bits.Mul64
import Derived.Shelf.Slices.Reverse
import Derived.Shelf.Slices.Clone
import Derived.Shelf.Slices.In.SortNone
import Derived.Test.YtaadilcboiiopaaGreatQAa
import Derived.Lib.TrailingZeros
import Derived.ChangeKeysEq
set_option maxRecDepth 100000
set_option maxHeartbeats 8000000
set_option linter.unusedVariables false
set_option linter.unusedSimpArgs false
namespace Go.Proofs
open Go.Sh
section
variable {u:UnD} {a b c:Bool} {x y:Int} {g:GrD}
structure PaD where
 tt:TyD
 tm:Int
 tok:Bool
 ft:TyD
 fm:Int
 fok:Bool
 at':TyD
 aok:Bool
 bt:TyD
 bok:Bool
noncomputable def ptH(u:UnD)(g:GrD)(p:PtD)(x:PaD):Bool:=
 if p.op=1 then((zz p { to:=true,a:=true } && (x.tok&&decide (x.tm<3)))&&x.aok)&&yy xm x.at' x.tt
 else if p.op=2 then
  (zz p { to:=true,a:=true,b:=true,sign:=true } && ((x.tok&&decide (x.tm<3))&&(x.aok&&x.bok))) &&
   (if xg p.sign [[43],[45],[42],[47],[37]]then isK x.tt 1&&(isK x.at' 1&&isK x.bt 1)
    else if xg p.sign [[60],[60,61],[62],[62,61]]then isK x.tt 2&&(isK x.at' 1&&isK x.bt 1)
    else if xg p.sign [[61,61],[33,61]]then isK x.tt 2&&((isK x.at' 1&&isK x.bt 1)||(isK x.at' 2&&isK x.bt 2))else false)
 else if p.op=3 then
  ((zz p { to:=true,a:=true,sign:=true } && (x.tok&&decide (x.tm<3)))&&x.aok) &&
   (if xg p.sign [[45]]then isK x.tt 1&&isK x.at' 1 else if xg p.sign [[33]]then isK x.tt 2&&isK x.at' 2 else false)
 else if p.op=4 then
  ((((zz p { to:=true,fr:=true,mu:=true } && (x.tok&&decide (x.tm<3)))&&x.fok)&&isK x.tt 4)&&(x.tt.m == p.mu))&&(yy xm (x.tt.of.headD yq) x.ft && !(p.mu&&decide (x.fm=3)))
 else if p.op=5 then(((zz p { to:=true,a:=true } && (x.tok&&decide (x.tm<3)))&&x.aok)&&isK x.tt 3)&&yy xm (x.tt.of.headD yq) x.at'
 else if p.op=6 then
  (((zz p { to:=true,args:=true,st:=true } && (x.tok&&decide (x.tm<3)))&&isK x.tt 5)&&decide (x.tt.st=p.st))&&kh u.ss g.tys p.args (xz u.ss x.tt).1
 else if p.op=7 then
  ((zz p { to:=true,args:=true,fn:=true } && (x.tok&&decide (x.tm<3)))&&(decide (0≤p.fn)&&decide (p.fn<u.fs.length))) &&
   (match u.fs[p.fn.toNat]? with
    |some f=>yy xm x.tt (f.tys.headD yq)&&kh u.ss g.tys p.args ((f.tys.drop 1).take f.pn.toNat)
    |none=>false)
 else if p.op=8 then(zz p { to:=true } && (x.tok&&decide (x.tm<3)))&&isK x.tt 1
 else if p.op=9 then(zz p { a:=true } && x.aok)&&isK x.at' 1
 else if p.op=10 then((zz p { fr:=true } && x.fok)&&(ZJ u.ss x.ft).1)&&decide (x.fm<2)
 else if p.op=11 then((zz p { fr:=true } && x.fok)&&decide (0<p.fr.l))&&decide (p.fr.ps.length=0)
 else if p.op=12 then((zz p { a:=true,el:=true } && x.aok)&&isK x.at' 2)&&aaq g p.el
 else if p.op=13∨p.op=14 then zz p {}
 else false
noncomputable def pad(u:UnD)(g:GrD)(p:PtD):PaD:=
 ⟨(zC u.ss g.tys p.to).1,(zC u.ss g.tys p.to).2.1,(zC u.ss g.tys p.to).2.2,(zC u.ss g.tys p.fr).1,(zC u.ss g.tys p.fr).2.1,(zC u.ss g.tys p.fr).2.2,
  (yb u.ss g.tys p.a).1,(yb u.ss g.tys p.a).2,(yb u.ss g.tys p.b).1,(yb u.ss g.tys p.b).2⟩
theorem ahB(u:UnD)(g:GrD)(p:PtD):ptG u g p=ptH u g p (pad u g p):=rfl
theorem bb4{d:Bool}(h:(((!a || !b) || !c) || !d)=true):(a&&(b&&(c&&d)))=false:=by revert h;cases a<;>cases b<;>cases c<;>cases d<;>simp
theorem aiJ{d:Bool}(h:(((!a || !b) || !c) || !d)=false):(a&&(b&&(c&&d)))=true:=by revert h;cases a<;>cases b<;>cases c<;>cases d<;>simp
theorem bb3(h:(((!a || !b) || !c)||decide (x≠y))=true):(((a&&b)&&c)&&decide (x=y))=false:=by
 by_cases e:x=y
 ·simp only[e]at h⊢;revert h;cases a<;>cases b<;>cases c<;>simp
 ·simp[e]
theorem aiK(h:(((!a || !b) || !c)||decide (x≠y))=false):(((a&&b)&&c)&&decide (x=y))=true:=by
 by_cases e:x=y
 ·simp only[e]at h⊢;revert h;cases a<;>cases b<;>cases c<;>simp
 ·simp[e]at h
theorem bb5(h:(((!a || !b)||decide (x<0))||decide (y≤x))=true):((a&&b)&&(decide (0≤x)&&decide (x<y)))=false:=by
 by_cases e:0≤x<;>by_cases f:x<y
 ·rw[decide_eq_false (show¬x<0 by omega),decide_eq_false (show¬y≤x by omega)]at h
  revert h;cases a<;>cases b<;>simp
 all_goals simp[e,f]
theorem aiL(h:(((!a || !b)||decide (x<0))||decide (y≤x))=false):((a&&b)&&(decide (0≤x)&&decide (x<y)))=true:=by
 simp only[Bool.or_eq_false_iff,decide_eq_false_iff_not,Bool.not_eq_false']at h
 obtain⟨⟨⟨h1,h2⟩,h3⟩,h4⟩:=h
 rw[h1,h2,gde (show 0≤x by omega),gde (show x<y by omega)];rfl
theorem mpK:mpT Tryz.prog 236=some (9,110):=by kernel_rfl
theorem mpZ:zr1 Tryz.prog 110=some (.int .u8 0):=by kernel_rfl
theorem af4(x:ByteArray)(f g:Int→Bool):∃ks:Int,(Xc x ((#[].push (⟨.string (bs [45]),.int .u8 1,0⟩:MapEntry)).push ⟨.string (bs [33]),.int .u8 2,0+1⟩).toList).getD (.int .u8 0)=.int .u8 ks∧
  ((decide (ks≠0)&&f ks)&&g ks)=(if xg x [[45]]then f 1&&g 1 else if xg x [[33]]then f 2&&g 2 else false):=by
 have e:((#[].push (⟨.string (bs [45]),.int .u8 1,0⟩:MapEntry)).push ⟨.string (bs [33]),.int .u8 2,0+1⟩).toList=[⟨.string (bs [45]),.int .u8 1,0⟩,⟨.string (bs [33]),.int .u8 2,0+1⟩]:=rfl
 rw[e]
 simp only[Xc,ae6,aaR,xg,List.any_cons,List.any_nil,Bool.or_false]
 by_cases h1:(x.toList == [45])=true
 ·exact⟨1,by rw[if_pos h1];rfl,by rw[if_pos h1];simp⟩
 ·by_cases h2:(x.toList == [33])=true
  ·exact⟨2,by rw[if_neg h1,if_pos h2];rfl,by rw[if_neg h1,if_pos h2];simp⟩
  ·exact⟨0,by rw[if_neg h1,if_neg h2];rfl,by rw[if_neg h1,if_neg h2];simp⟩
theorem XK{p:PtD}{c:List Value}{v:Value}{w:World}{r:Gh}{K:Value→World→Prop}(hr:Holds r w)(hx:AskG r v u g)(hf:xO u.ss g.tys)(hfs:∀f∈u.fs,0≤f.pn∧f.pn<f.tys.length)(hp:PtG r c p)
  (h:∀w',Ext w w'→K (.bool (yo u g p)) w'):zb Tryz.prog Tryz.kz #[v,.agg c.toArray] w K:=by
 have hx0:=hx
 obtain⟨p0,cap0,vf,vo,vt,vn,vp,rfl,hu,hg⟩:=hx
 have hu0:=hu
 obtain⟨_,_,_,hE,_,_,hst,_,hfn⟩:=hu
 cases hE
 obtain⟨qfn,capfn,rfl,_,_⟩:=hfn.sl.shape
 obtain⟨_,_,_,_,hE,_,htys,_,hpts⟩:=hg
 cases hE
 obtain⟨qp,capp,rfl,_,_⟩:=hpts.sl.shape
 have hp0:=hp
 obtain⟨vto,va,vb,vl,vfr,rfl,h1,h2,h3,h4,h5⟩:=hp
 obtain⟨qto,capto,rfl,_,_⟩:=h1.sl.shape
 obtain⟨qa,capa,rfl,_,_⟩:=h2.sl.shape
 obtain⟨qb,capb,rfl,_,_⟩:=h3.sl.shape
 obtain⟨ql,capl,rfl,_,_⟩:=h4.sl.shape
 obtain⟨qf,capf,rfl,_,_⟩:=h5.sl.shape
 have hpto:PlG r [.int .i64 p.to.l,.slice qto p.to.ps.length capto] p.to:=⟨_,rfl,h1⟩
 have hpfr:PlG r [.int .i64 p.fr.l,.slice qf p.fr.ps.length capf] p.fr:=⟨_,rfl,h5⟩
 have hoa:OpG r [.int .u8 p.a.k,.int .i64 p.a.n,.int .i64 p.a.pl.l,.slice qa p.a.pl.ps.length capa] p.a:=⟨_,rfl,h2⟩
 have hob:OpG r [.int .u8 p.b.k,.int .i64 p.b.n,.int .i64 p.b.pl.l,.slice qb p.b.pl.ps.length capb] p.b:=⟨_,rfl,h3⟩
 refine Tryz.Y5 ?_
 unfold Tryz.jG
 have S:=St.start hr
 refine S.box λb2 w1 S=>?_
 refine S.box λb3 w2 S=>?_
 refine gg_ ?_
 refine S.al λb5 w3 S=>?_
 refine S.st (b:=b5) λw4 S=>?_
 refine gg_ ?_
 refine aas (g:=decide (p.op≠14)) (c:=!aaq g p.nx) (λ_ K2 hK2=>?_) (λ_ K2 hK2=>?_) ?_
 ·refine gg_ ?_
  exact hK2
 ·refine gg_ ?_
  refine aaV (b:=b5) S ?_
  refine gp_ ?_
  exact hK2
 refine aas (g:=decide (p.op=14)) (c:=decide (p.nx≠0)) (λ_ K2 hK2=>?_) (λ_ K2 hK2=>?_) ?_
 ·refine gg_ ?_
  exact hK2
 ·refine gg_ ?_
  exact hK2
 have hpg:yo u g p=(!((decide (p.tx<0)||(decide (p.op≠14) && !aaq g p.nx))||(decide (p.op=14)&&decide (p.nx≠0)))&&ptG u g p):=by
  rw[yo];simp only[decide_not]
 rw[hpg]at h
 refine c_b (λhbad=>?_) (λhgood=>?_)
 ·rw[hbad,Bool.not_true,Bool.false_and]at h
  exact h _ S.ext
 rw[hgood,Bool.not_false,Bool.true_and,ahB]at h
 clear hpg hgood
 have S:=S.go (Ext.drew _)
 have S:StX noX w r w4.drew [.cell b5 [.int .i64 (g.pts.length:Nat)] 3,
   .cell b3 [.int .u8 p.op,.int .i64 p.to.l,.slice qto p.to.ps.length capto,.int .u8 p.a.k,.int .i64 p.a.n,.int .i64 p.a.pl.l,.slice qa p.a.pl.ps.length capa,.int .u8 p.b.k,.int .i64 p.b.n,.int .i64 p.b.pl.l,.slice qb p.b.pl.ps.length capb,.slice ql p.args.length capl,
    .string p.sign,.int .i64 p.fr.l,.slice qf p.fr.ps.length capf,.bool p.mu,.int .i64 p.fn,.int .i64 p.st,.int .i64 p.nx,.int .i64 p.el,.int .i64 p.tx] 94,
   .cell b2 [.slice p0 u.ss.length cap0,.slice qfn u.fs.length capfn,.int .i64 u.mn,.string g.name,.int .i64 g.lv,vo,.int .i64 g.pn,vt,vn,.slice qp g.pts.length capp] 180]:=S
 obtain⟨tt,tm,tok,hspt⟩:∃tt tm tok,zC u.ss g.tys p.to=(tt,tm,tok):=⟨_,_,_,rfl⟩
 obtain⟨ft,fm,fok,hspf⟩:∃tt tm tok,zC u.ss g.tys p.fr=(tt,tm,tok):=⟨_,_,_,rfl⟩
 obtain⟨ta,aok,hopa⟩:∃t ok,yb u.ss g.tys p.a=(t,ok):=⟨_,_,rfl⟩
 obtain⟨tb,bok,hopb⟩:∃t ok,yb u.ss g.tys p.b=(t,ok):=⟨_,_,rfl⟩
 have hpad:pad u g p=⟨tt,tm,tok,ft,fm,fok,ta,aok,tb,bok⟩:=by simp only[pad,hspt,hspf,hopa,hopb]
 rw[hpad,ptH]at h
 dsimp only at h
 have inside:tok=true→(tt.k=3∨tt.k=4)→∃uu,tt.of=[uu]:=by
  intro h1 h2
  have hfi:=aeX hf (p:=p.to) (by rw[hspt];exact h1)
  rw[hspt]at hfi
  rcases Fine.cases hfi with⟨_,h3⟩|⟨uu,h3,_⟩
  ·have h3:tt.k=1∨tt.k=2∨tt.k=5:=h3
   omega
  ·exact⟨uu,h3⟩
 refine zs (λs w'=>∃b7 b8 q7 c7 q8 c8,s=[.pointer (some ⟨b7,0,none⟩),.pointer (some ⟨b8,0,none⟩)]∧TyG r (tyV tt q7 c7) tt∧TyG r (tyV ft q8 c8) ft∧
  StX noX w r w' (.cell b8 (spL ft q8 c8 fm fok) 228::.cell b7 (spL tt q7 c7 tm tok) 228::[.cell b5 [.int .i64 (g.pts.length:Nat)] 3,
   .cell b3 [.int .u8 p.op,.int .i64 p.to.l,.slice qto p.to.ps.length capto,.int .u8 p.a.k,.int .i64 p.a.n,.int .i64 p.a.pl.l,.slice qa p.a.pl.ps.length capa,.int .u8 p.b.k,.int .i64 p.b.n,.int .i64 p.b.pl.l,.slice qb p.b.pl.ps.length capb,.slice ql p.args.length capl,
    .string p.sign,.int .i64 p.fr.l,.slice qf p.fr.ps.length capf,.bool p.mu,.int .i64 p.fn,.int .i64 p.st,.int .i64 p.nx,.int .i64 p.el,.int .i64 p.tx] 94,
   .cell b2 [.slice p0 u.ss.length cap0,.slice qfn u.fs.length capfn,.int .i64 u.mn,.string g.name,.int .i64 g.lv,vo,.int .i64 g.pn,vt,vn,.slice qp g.pts.length capp] 180])) (λK30 hK30=>?_) ?_
 ·refine S.ldB (b:=b2) ?_ rfl
  refine gp_ ?_
  refine S.ldN (b:=b3) ?_
  refine S.ldB (b:=b2) ?_ rfl
  refine gp_ ?_
  refine S.ldN (b:=b3) ?_
  repeat' (first
   |(refine S.alU λb9 w9 S=>?_)
   |(refine S.al λb9 w9 S=>?_)
   |(refine S.stB λw9 S=>?_)
   |(refine y7 S.holds hx0 hf hpto hspt (λq7 c7 w9 e9 ht7=>⟨e9,?_⟩);have S:=S.go e9)
   |(refine y7 S.holds hx0 hf hpto hspt (λq7 c7 w9 e9 ht7=>?_);have S:=S.go e9)
   |(refine y7 S.holds hx0 hf hpfr hspf (λq8 c8 w9 e9 ht8=>⟨e9,?_⟩);have S:=S.go e9)
   |(refine y7 S.holds hx0 hf hpfr hspf (λq8 c8 w9 e9 ht8=>?_);have S:=S.go e9)
   |exact hK30 _ _ ⟨_,_,_,_,_,_,rfl,ht7,ht8,S⟩
   |exact hK30 _ _ ⟨_,_,_,_,_,_,rfl,ht7,ht8,S.swap⟩
   |refine ⟨?_,?_⟩)
 clear S
 rintro _ w33 ⟨b7,b8,q7,c7,q8,c8,rfl,ht7,ht8,S⟩ d33
 simp only[gdz,gds]
 refine gg_ ?_
 refine zo (c:=decide (tm<3)) (λ_ K2 hK2=>?_) ?_
 ·refine gg_ ?_
  exact hK2
 refine S.ldB (b:=b2) ?_ rfl
 refine gp_ ?_
 refine S.ldN (b:=b3) ?_
 refine xU S.holds hx0 hf hoa hopa λq10 c10 w34 e34 hta=>?_
 have S:=S.go e34
 refine gp_ ?_
 refine gp_ ?_
 refine S.al λb10 w35 S=>?_
 refine S.stB (b:=b10) λw36 S=>?_
 refine S.ldB (b:=b2) ?_ rfl
 refine gp_ ?_
 refine S.ldN (b:=b3) ?_
 refine xU S.holds hx0 hf hob hopb λq12 c12 w37 e37 htb=>?_
 have S:=S.go e37
 refine gp_ ?_
 refine gp_ ?_
 refine S.al λb12 w38 S=>?_
 refine S.stB (b:=b12) λw39 S=>?_
 refine gg_ ?_
 refine zh (λho=>?_) (λho=>?_)
 ·rw[if_pos ho]at h
  refine S.ldB (b:=b3) ?_ rfl
  refine gp_ ?_
  refine zW (f:={ to:=true,a:=true }) S.holds hp0 λw31 e31=>?_
  have S:=S.go e31
  refine zo (c:=tok&&decide (tm<3)) (λ_ K2 hK2=>hK2) ?_
  refine zo (c:=aok) (λ_ K2 hK2=>hK2) ?_
  refine zU (c:=yy xm ta tt) (λ_ K2 hK2=>?_) λw32 e32=>h _ (S.go e32).ext
  refine S.ldB (b:=b10) ?_ rfl
  refine gp_ ?_
  refine S.ldN (b:=b7) ?_
  exact km S.holds hta ht7 λw33 e33=>hK2 _ e33
 rw[if_neg ho]at h
 clear ho
 refine gg_ ?_
 refine zh (λho=>?_) (λho=>?_)
 ·rw[if_pos ho]at h
  refine S.ldB (b:=b3) ?_ rfl
  refine gp_ ?_
  refine zW (f:={ to:=true,a:=true,b:=true,sign:=true }) S.holds hp0 λw31 e31=>?_
  have S:=S.go e31
  refine gp_ ?_
  refine zq (c:=!(tok&&decide (tm<3))) (λ_ K2 hK2=>?_) ?_
  ·refine gp_ ?_
   exact hK2
  refine zq (c:=!aok) (λ_ K2 hK2=>?_) ?_
  ·refine gp_ ?_
   exact hK2
  refine zq (c:=!bok) (λ_ K2 hK2=>?_) ?_
  ·refine gp_ ?_
   exact hK2
  refine c_b (λhc=>?_) (λhc=>?_)
  ·rw[bb4 hc,Bool.false_and]at h
   exact h _ S.ext
  rw[aiJ hc,Bool.true_and]at h
  refine S.ldB (b:=b10) ?_ rfl
  refine yh S.holds λw34 e34=>?_
  have S:=S.go e34
  refine zU (c:=isK tb 1) (λhb K2 hK2=>?_) λw32 e32=>?_
  ·refine S.ldB (b:=b12) ?_ rfl
   exact yh S.holds λw33 e33=>hK2 _ e33
  have S:=S.go e32
  refine gg_ ?_
  refine zs (λs w'=>s=[.bool (xg p.sign [[43],[45],[42],[47],[37]])]∧Ext w32 w') (λK9 hK9=>?_) ?_
  ·have hk:=hK9 _ _ ⟨rfl,Ext.refl _⟩
   simp only[xg,List.any_cons,List.any_nil,Bool.or_false]at hk
   refine gp_ ?_
   refine jl hk λ_ hk=>?_
   refine gp_ ?_
   refine jl hk λ_ hk=>?_
   refine gp_ ?_
   refine jl hk λ_ hk=>?_
   refine gp_ ?_
   refine jl hk λ_ hk=>?_
   refine gp_ ?_
   exact hk
  rintro _ w41 ⟨rfl,e41⟩ d41
  have S:=S.go e41
  rw[gdz]
  refine c_b (λhs=>?_) (λhs=>?_)
  ·rw[if_pos hs]at h
   refine gp_ ?_
   refine S.ldN (b:=b7) ?_
   refine yh S.holds λw35 e35=>?_
   have S:=S.go e35
   exact zo (c:=isK ta 1&&isK tb 1) (λ_ K2 hK2=>hK2) (h _ S.ext)
  rw[if_neg (by rw[hs];decide)]at h
  refine zs (λs w'=>s=[.bool (xg p.sign [[60],[60,61],[62],[62,61]])]∧Ext w41 w') (λK9 hK9=>?_) ?_
  ·have hk:=hK9 _ _ ⟨rfl,Ext.refl _⟩
   simp only[xg,List.any_cons,List.any_nil,Bool.or_false]at hk
   refine gp_ ?_
   refine jl hk λ_ hk=>?_
   refine gp_ ?_
   refine jl hk λ_ hk=>?_
   refine gp_ ?_
   refine jl hk λ_ hk=>?_
   refine gp_ ?_
   exact hk
  rintro _ w41 ⟨rfl,e41⟩ d41
  have S:=S.go e41
  rw[gdz]
  refine c_b (λhs=>?_) (λhs=>?_)
  ·rw[if_pos hs]at h
   refine gp_ ?_
   refine S.ldN (b:=b7) ?_
   refine yh S.holds λw35 e35=>?_
   have S:=S.go e35
   exact zo (c:=isK ta 1&&isK tb 1) (λ_ K2 hK2=>hK2) (h _ S.ext)
  rw[if_neg (by rw[hs];decide)]at h
  refine zs (λs w'=>s=[.bool (xg p.sign [[61,61],[33,61]])]∧Ext w41 w') (λK9 hK9=>?_) ?_
  ·have hk:=hK9 _ _ ⟨rfl,Ext.refl _⟩
   simp only[xg,List.any_cons,List.any_nil,Bool.or_false]at hk
   refine gp_ ?_
   refine jl hk λ_ hk=>?_
   refine gp_ ?_
   exact hk
  rintro _ w41 ⟨rfl,e41⟩ d41
  have S:=S.go e41
  rw[gdz]
  refine c_b (λhs=>?_) (λhs=>?_)
  rotate_left
  ·rw[if_neg (by rw[hs];decide)]at h
   exact h _ S.ext
  rw[if_pos hs]at h
  refine gp_ ?_
  refine S.ldN (b:=b7) ?_
  refine yh S.holds λw35 e35=>?_
  have S:=S.go e35
  generalize isK tt 2=x1 at h⊢
  generalize (isK ta 1&&isK tb 1)=x2 at h⊢
  cases x1 with
  |false=>
   (intro K9 hK9;refine gd_ ?_;refine hK9 _ _ λ_=>?_;clear hK9 K9)
   (intro K9 hK9;refine gd_ ?_;refine hK9 _ _ λ_=>?_;clear hK9 K9)
   (intro K9 hK9;refine gd_ ?_;refine hK9 _ _ λ_=>?_;clear hK9 K9)
   (intro K9 hK9;refine gd_ ?_;refine hK9 _ _ λ_=>?_;clear hK9 K9)
   (intro K9 hK9;refine gd_ ?_;refine hK9 _ _ λ_=>?_;clear hK9 K9)
   refine gd_ ?_
   exact h _ S.ext
  |true=>
   cases x2 with
   |true=>
    (intro K9 hK9;refine gd_ ?_;refine hK9 _ _ λ_=>?_;clear hK9 K9)
    (intro K9 hK9;refine gd_ ?_;refine hK9 _ _ λ_=>?_;clear hK9 K9)
    (intro K9 hK9;refine gd_ ?_;refine hK9 _ _ λ_=>?_;clear hK9 K9)
    (intro K9 hK9;refine gd_ ?_;refine hK9 _ _ λ_=>?_;clear hK9 K9)
    (intro K9 hK9;refine gd_ ?_;refine hK9 _ _ λ_=>?_;clear hK9 K9)
    refine gd_ ?_
    exact h _ S.ext
   |false=>
    (intro K9 hK9;refine gd_ ?_;refine hK9 _ _ λ_=>?_;clear hK9 K9)
    refine zs (λs w'=>s=[.bool (isK ta 2)]∧Ext w35 w') (λK9 hK9=>?_) ?_
    ·refine gd_ ?_
     exact yh S.holds λw36 e36=>hK9 _ _ ⟨rfl,e36⟩
    rintro _ w37 ⟨rfl,e37⟩ d37
    have S:=S.go e37
    generalize isK ta 2=x3 at h⊢
    cases x3 with
    |false=>
     (intro K9 hK9;refine gd_ ?_;refine hK9 _ _ λ_=>?_;clear hK9 K9)
     (intro K9 hK9;refine gd_ ?_;refine hK9 _ _ λ_=>?_;clear hK9 K9)
     (intro K9 hK9;refine gd_ ?_;refine hK9 _ _ λ_=>?_;clear hK9 K9)
     refine gd_ ?_
     exact h _ S.ext
    |true=>
     refine zs (λs w'=>s=[.bool (isK tb 2)]∧Ext w37 w') (λK9 hK9=>?_) ?_
     ·refine gd_ ?_
      exact yh S.holds λw36 e36=>hK9 _ _ ⟨rfl,e36⟩
     rintro _ w38 ⟨rfl,e38⟩ d38
     have S:=S.go e38
     generalize isK tb 2=x4 at h⊢
     (intro K9 hK9;refine gd_ ?_;refine hK9 _ _ λ_=>?_;clear hK9 K9)
     (intro K9 hK9;refine gd_ ?_;refine hK9 _ _ λ_=>?_;clear hK9 K9)
     refine gd_ ?_
     cases x4<;>exact h _ S.ext
 rw[if_neg ho]at h
 clear ho
 refine gg_ ?_
 refine zh (λho=>?_) (λho=>?_)
 ·rw[if_pos ho]at h
  refine S.mkMap λb70 w70 S=>?_
  refine S.mapAdd mpK (by intro m hm;cases hm) rfl λw71 S=>?_
  refine S.mapAdd mpK (by intro m hm;rcases List.mem_cons.1 hm with rfl|hm<;>first|exact ⟨_,rfl⟩|cases hm) (by decide) λw72 S=>?_
  refine gg_ ?_
  refine S.mapGet mpK mpZ (by
   intro m hm
   rcases List.mem_cons.1 hm with rfl|hm
   ·exact⟨_,rfl⟩
   rcases List.mem_cons.1 hm with rfl|hm<;>first|exact ⟨_,rfl⟩|cases hm) ?_
  obtain⟨ks,hks,hk2⟩:=af4 p.sign (isK tt) (isK ta)
  rw[hks]
  refine S.ldB (b:=b3) ?_ rfl
  refine gp_ ?_
  refine zW (f:={ to:=true,a:=true,sign:=true }) S.holds hp0 λw31 e31=>?_
  have S:=S.go e31
  refine zo (c:=tok&&decide (tm<3)) (λ_ K2 hK2=>hK2) ?_
  refine zo (c:=aok) (λ_ K2 hK2=>hK2) ?_
  refine zo (c:=decide (ks≠0)) (λ_ K2 hK2=>?_) ?_
  ·refine gp_ ?_
   exact hK2
  refine zU (c:=isK tt ks) (λhb K2 hK2=>?_) λw32 e32=>?_
  ·refine gp_ ?_
   refine S.ldN (b:=b7) ?_
   exact yh S.holds λw33 e33=>hK2 _ e33
  have S:=S.go e32
  refine zU (c:=isK ta ks) (λhb K2 hK2=>?_) λw32 e32=>?_
  ·refine S.ldB (b:=b10) ?_ rfl
   exact yh S.holds λw33 e33=>hK2 _ e33
  have S:=S.go e32
  have:=h _ S.ext
  rw[← hk2]at this
  simpa only[Bool.and_assoc]using this
 rw[if_neg ho]at h
 clear ho
 refine gg_ ?_
 refine zh (λho=>?_) (λho=>?_)
 ·rw[if_pos ho]at h
  have S:=S.go (Ext.drew _)
  refine S.ldB (b:=b3) ?_ rfl
  refine gp_ ?_
  refine zW (f:={ to:=true,fr:=true,mu:=true }) S.holds hp0 λw31 e31=>?_
  have S:=S.go e31
  refine zo (c:=tok&&decide (tm<3)) (λ_ K2 hK2=>hK2) ?_
  refine zo (c:=fok) (λ_ K2 hK2=>?_) ?_
  ·refine gg_ ?_
   exact hK2
  refine zU (c:=isK tt 4) (λhb K2 hK2=>?_) λw32 e32=>?_
  ·refine gp_ ?_
   refine S.ldN (b:=b7) ?_
   exact yh S.holds λw33 e33=>hK2 _ e33
  have S:=S.go e32
  refine zo (c:=tt.m == p.mu) (λ_ K2 hK2=>?_) ?_
  ·refine gg_ ?_
   exact hK2
  refine zU (c:=yy xm (tt.of.headD yq) ft) (λhb K2 hK2=>?_) λw33 e33=>?_
  ·simp only[gba]at hb
   obtain⟨uu,hof⟩:=inside hb.1.1.1.2.1 (.inr (of_decide_eq_true hb.1.2))
   obtain⟨bo,oo,q2,cap2,rfl,ht2,hcc⟩:=Vz ht7 hof
   have hl1:tt.of.length=1:=by rw[hof];rfl
   rw[hof]at hK2
   refine gg_ ?_
   refine zt (n:=5) (c:=tyL uu q2 cap2) rfl (λj v hj=>by simpa using S.at (hcc j v hj)) ?_
   refine gp_ ?_
   refine S.ldN (b:=b8) ?_
   exact km S.holds ht2 ht8 λw34 e34=>hK2 _ e34
  have S:=S.go e33
  have:=h _ S.ext
  rw[← Bool.and_assoc]at this
  generalize ((((((zz p { to:=true,fr:=true,mu:=true } && (tok&&decide (tm<3)))&&fok)&&isK tt 4)&&(tt.m == p.mu))&&yy xm (tt.of.headD yq) ft))=B at this⊢
  cases B with
  |false=>
   (intro K9 hK9;refine gd_ ?_;refine hK9 _ _ λ_=>?_;clear hK9 K9)
   (intro K9 hK9;refine gd_ ?_;refine hK9 _ _ λ_=>?_;clear hK9 K9)
   (intro K9 hK9;refine gd_ ?_;refine hK9 _ _ λ_=>?_;clear hK9 K9)
   refine gd_ ?_
   exact this
  |true=>
   refine zs (λs w'=>s=[.bool p.mu]∧w'=w33) (λK9 hK9=>?_) ?_
   ·refine gd_ ?_
    exact hK9 _ _ ⟨rfl,rfl⟩
   rintro _ w33 ⟨rfl,rfl⟩ d33
   generalize p.mu=mu at this⊢
   cases mu with
   |false=>
    (intro K9 hK9;refine gd_ ?_;refine hK9 _ _ λ_=>?_;clear hK9 K9)
    (intro K9 hK9;refine gd_ ?_;refine hK9 _ _ λ_=>?_;clear hK9 K9)
    refine gd_ ?_
    exact this
   |true=>
    refine zs (λs w'=>s=[.bool (decide (fm=3))]∧w'=w33) (λK9 hK9=>?_) ?_
    ·refine gd_ ?_
     exact hK9 _ _ ⟨rfl,rfl⟩
    rintro _ w33 ⟨rfl,rfl⟩ d33
    (intro K9 hK9;refine gd_ ?_;refine hK9 _ _ λ_=>?_;clear hK9 K9)
    refine gd_ ?_
    simpa using this
 rw[if_neg ho]at h
 clear ho
 refine gg_ ?_
 refine zh (λho=>?_) (λho=>?_)
 ·rw[if_pos ho]at h
  have S:=S.go (Ext.drew _)
  refine S.ldB (b:=b3) ?_ rfl
  refine gp_ ?_
  refine zW (f:={ to:=true,a:=true }) S.holds hp0 λw31 e31=>?_
  have S:=S.go e31
  refine zo (c:=tok&&decide (tm<3)) (λ_ K2 hK2=>hK2) ?_
  refine zo (c:=aok) (λ_ K2 hK2=>hK2) ?_
  refine zU (c:=isK tt 3) (λhb K2 hK2=>?_) λw32 e32=>?_
  ·refine gp_ ?_
   refine S.ldN (b:=b7) ?_
   exact yh S.holds λw33 e33=>hK2 _ e33
  have S:=S.go e32
  refine zU (c:=yy xm (tt.of.headD yq) ta) (λhb K2 hK2=>?_) λw33 e33=>h _ (S.go e33).ext
  simp only[gba]at hb
  obtain⟨uu,hof⟩:=inside hb.1.1.2.1 (.inl (of_decide_eq_true hb.2))
  obtain⟨bo,oo,q2,cap2,rfl,ht2,hcc⟩:=Vz ht7 hof
  have hl1:tt.of.length=1:=by rw[hof];rfl
  rw[hof]at hK2
  refine gg_ ?_
  refine zt (n:=5) (c:=tyL uu q2 cap2) rfl (λj v hj=>by simpa using S.at (hcc j v hj)) ?_
  refine S.ldB (b:=b10) ?_ rfl
  exact km S.holds ht2 hta λw34 e34=>hK2 _ e34
 rw[if_neg ho]at h
 clear ho
 refine gg_ ?_
 refine zh (λho=>?_) (λho=>?_)
 ·rw[if_pos ho]at h
  refine S.ldB (b:=b3) ?_ rfl
  refine gp_ ?_
  refine zW (f:={ to:=true,args:=true,st:=true }) S.holds hp0 λw31 e31=>?_
  have S:=S.go e31
  refine gp_ ?_
  refine zq (c:=!(tok&&decide (tm<3))) (λ_ K2 hK2=>?_) ?_
  ·refine gp_ ?_
   exact hK2
  refine qw (c:=!isK tt 5) (λ_ K2 hK2=>?_) λw32 e32=>?_
  ·refine gp_ ?_
   refine S.ldN (b:=b7) ?_
   refine yh S.holds λw33 e33=>?_
   refine gp_ ?_
   exact hK2 _ e33
  have S:=S.go e32
  refine zq (c:=decide (tt.st≠p.st)) (λ_ K2 hK2=>?_) ?_
  ·refine gg_ ?_
   exact hK2
  refine c_b (λhc=>?_) (λhc=>?_)
  ·rw[bb3 hc,Bool.false_and]at h
   exact h _ S.ext
  rw[aiK hc,Bool.true_and]at h
  refine gg_ ?_
  refine S.ldN (b:=b7) ?_
  refine aap S.holds hst ht7 λq9 cp9 top gs w35 e35 n35 hfd hcp=>?_
  have S:=S.new e35 n35
  refine gp_ ?_
  refine gp_ ?_
  refine aaX (r:=((r.or (top.or (un gs 0 (xz u.ss tt).1.length))).or (Go.Sh.one b2 _ _)).or (Go.Sh.one b3 _ _)) ((S.holdW b2).or (xD (S.blk b3))) (yK (b:=b2)).up (yK (b:=b3)).up hx0.up rfl hf hp0.up (afY hfd).up λw44 e44=>?_
  exact h _ (S.go e44).ext
 rw[if_neg ho]at h
 clear ho
 refine gg_ ?_
 refine zh (λho=>?_) (λho=>?_)
 ·rw[if_pos ho]at h
  refine S.ldB (b:=b3) ?_ rfl
  refine gp_ ?_
  refine zW (f:={ to:=true,args:=true,fn:=true }) S.holds hp0 λw31 e31=>?_
  have S:=S.go e31
  refine gp_ ?_
  refine zq (c:=!(tok&&decide (tm<3))) (λ_ K2 hK2=>?_) ?_
  ·refine gp_ ?_
   exact hK2
  refine zq (c:=decide (p.fn<0)) (λ_ K2 hK2=>?_) ?_
  ·refine gg_ ?_
   exact hK2
  refine zq (c:=decide ((u.fs.length:Int)≤p.fn)) (λ_ K2 hK2=>?_) ?_
  ·refine gg_ ?_
   exact hK2
  refine c_b (λhc=>?_) (λhc=>?_)
  ·rw[bb5 hc,Bool.false_and]at h
   exact h _ S.ext
  rw[aiL hc,Bool.true_and]at h
  have hfl:0≤p.fn∧p.fn<u.fs.length:=by
   simp only[Bool.or_eq_false_iff,decide_eq_false_iff_not]at hc;omega
  have hfi:p.fn.toNat<u.fs.length:=by omega
  rw[gqg hfi]at h
  obtain⟨bg,og,cg,rfl,hcg,hgg,hgc⟩:=hfn.sl.get (by decide) hfi
  have hfp:=hfs _ (gem hfi)
  generalize u.fs[p.fn.toNat]=fd at h hgg hfp
  obtain⟨vo2,vt2,vn2,vp2,rfl,hg1,hg2,hg3,hg4⟩:=hgg
  obtain⟨qo2,co2,rfl,_,_⟩:=hg1.sl.shape
  obtain⟨qt2,ct2,rfl,_,hct2⟩:=hg2.sl.shape
  obtain⟨qn2,cn2,rfl,_,_⟩:=hg3.sl.shape
  obtain⟨qp2,cp2,rfl,_,_⟩:=hg4.sl.shape
  refine gg_ ?_
  refine zt (n:=7) hcg (λj v hj=>S.at (hgc j v hj)) ?_
  refine S.al λb20 w50 S=>?_
  refine S.stB (b:=b20) λw51 S=>?_
  have S:=S.go (Ext.drew _)
  have htl:=QL hg2.sl
  have htl9:fd.tys.length≤9223372036854775807:=hg2.few
  obtain⟨bt2,ot2,cc2,rfl,hcc2,hcl2,hct3⟩:=htl 0 (by omega)
  obtain⟨q4,cap4,rfl,ht4⟩:=xT hct3
  have hhd:fd.tys.headD yq=fd.tys[0]'(by omega):=by
   rw[List.headD_eq_head?_getD,List.head?_eq_getElem?,gqg (by omega),Option.getD_some]
  dsimp only at h
  rw[hhd]at h
  refine gp_ ?_
  refine S.ldN (b:=b7) ?_
  refine gg_ ?_
  refine zt (n:=5) hcc2 (λj v hj=>by simpa using S.at (hcl2 j v hj)) ?_
  refine km S.holds ht7 ht4 λw52 e52=>?_
  have S:=S.go e52
  refine zU (c:=kh u.ss g.tys p.args ((fd.tys.drop 1).take fd.pn.toNat)) (λ_ K2 hK2=>?_) λw53 e53=>h _ (S.go e53).ext
  refine gg_ ?_
  have hl9:(fd.pn+1).toNat-(1:Int).toNat=((fd.tys.drop 1).take fd.pn.toNat).length:=by
   rw[List.length_take,List.length_drop];omega
  rw[hl9]
  refine aaX (r:=(r.or (Go.Sh.one b2 _ _)).or (Go.Sh.one b3 _ _)) ((S.holdW b2).or (xD (S.blk b3))) (yK (b:=b2)).up (yK (b:=b3)).up hx0.up rfl hf hp0.up (htl.sub (a:=(1:Int).toNat) (n:=fd.pn.toNat) hct2).up λw44 e44=>?_
  exact hK2 _ e44
 rw[if_neg ho]at h
 clear ho
 refine gg_ ?_
 refine zh (λho=>?_) (λho=>?_)
 ·rw[if_pos ho]at h
  refine S.ldB (b:=b3) ?_ rfl
  refine gp_ ?_
  refine zW (f:={ to:=true }) S.holds hp0 λw31 e31=>?_
  have S:=S.go e31
  refine zo (c:=tok&&decide (tm<3)) (λ_ K2 hK2=>hK2) ?_
  refine zU (c:=isK tt 1) (λhb K2 hK2=>?_) λw32 e32=>?_
  ·refine gp_ ?_
   refine S.ldN (b:=b7) ?_
   exact yh S.holds λw33 e33=>hK2 _ e33
  have S:=S.go e32
  exact h _ S.ext
 rw[if_neg ho]at h
 clear ho
 refine gg_ ?_
 refine zh (λho=>?_) (λho=>?_)
 ·rw[if_pos ho]at h
  refine S.ldB (b:=b3) ?_ rfl
  refine gp_ ?_
  refine zW (f:={ a:=true }) S.holds hp0 λw31 e31=>?_
  have S:=S.go e31
  refine zo (c:=aok) (λ_ K2 hK2=>hK2) ?_
  refine zU (c:=isK ta 1) (λhb K2 hK2=>?_) λw32 e32=>?_
  ·refine S.ldB (b:=b10) ?_ rfl
   exact yh S.holds λw33 e33=>hK2 _ e33
  have S:=S.go e32
  exact h _ S.ext
 rw[if_neg ho]at h
 clear ho
 refine gg_ ?_
 refine zh (λho=>?_) (λho=>?_)
 ·rw[if_pos ho]at h
  refine gg_ ?_
  refine S.ldN (b:=b8) ?_
  refine abm S.holds hst ht8 λw35 e35=>?_
  have S:=S.go e35
  refine gp_ ?_
  refine gp_ ?_
  refine S.ldB (b:=b3) ?_ rfl
  refine gp_ ?_
  refine zW (f:={ fr:=true }) S.holds hp0 λw31 e31=>?_
  have S:=S.go e31
  refine zo (c:=fok) (λ_ K2 hK2=>?_) ?_
  ·refine gg_ ?_
   exact hK2
  refine zo (c:=(ZJ u.ss ft).1) (λ_ K2 hK2=>hK2) ?_
  refine zo (c:=decide (fm<2)) (λ_ K2 hK2=>?_) (h _ S.ext)
  refine gg_ ?_
  exact hK2
 rw[if_neg ho]at h
 clear ho
 refine gg_ ?_
 refine zh (λho=>?_) (λho=>?_)
 ·rw[if_pos ho]at h
  refine S.ldB (b:=b3) ?_ rfl
  refine gp_ ?_
  refine zW (f:={ fr:=true }) S.holds hp0 λw31 e31=>?_
  have S:=S.go e31
  refine zo (c:=fok) (λ_ K2 hK2=>?_) ?_
  ·refine gg_ ?_
   exact hK2
  refine zo (c:=decide (0<p.fr.l)) (λ_ K2 hK2=>?_) ?_
  ·refine gg_ ?_
   exact hK2
  refine zo (c:=decide (p.fr.ps.length=0)) (λ_ K2 hK2=>?_) (h _ S.ext)
  refine gg_ ?_
  rw[Yu]
  exact hK2
 rw[if_neg ho]at h
 clear ho
 refine gg_ ?_
 refine zh (λho=>?_) (λho=>?_)
 ·rw[if_pos ho]at h
  refine S.ldB (b:=b3) ?_ rfl
  refine gp_ ?_
  refine zW (f:={ a:=true,el:=true }) S.holds hp0 λw31 e31=>?_
  have S:=S.go e31
  refine zo (c:=aok) (λ_ K2 hK2=>hK2) ?_
  refine zU (c:=isK ta 2) (λhb K2 hK2=>?_) λw32 e32=>?_
  ·refine S.ldB (b:=b10) ?_ rfl
   exact yh S.holds λw33 e33=>hK2 _ e33
  have S:=S.go e32
  refine zo (c:=aaq g p.el) (λ_ K2 hK2=>?_) (h _ S.ext)
  refine gg_ ?_
  exact aaV (b:=b5) S hK2
 rw[if_neg ho]at h
 clear ho
 refine gg_ ?_
 refine zs (λs w'=>s=[.bool (decide (p.op=13∨p.op=14))]∧Ext w39 w') (λK9 hK9=>?_) ?_
 ·have hk:=hK9 _ _ ⟨rfl,Ext.refl _⟩
  rw[Bool.decide_or]at hk
  refine gp_ ?_
  refine jl hk λ_ hk=>?_
  refine gp_ ?_
  exact hk
 rintro _ w41 ⟨rfl,e41⟩ d41
 have S:=S.go e41
 rw[gdz]
 refine zh (λho=>?_) (λho=>?_)
 ·rw[if_pos ho]at h
  refine S.ldB (b:=b3) ?_ rfl
  refine gp_ ?_
  refine zW (f:={}) S.holds hp0 λw31 e31=>h _ (S.go e31).ext
 ·rw[if_neg ho]at h
  exact h _ S.ext
theorem qB{u:UnD}:∀{l:List GrD}{i:Nat},qz u i l=none↔∀(j:Nat)(h:j<l.length),ki u (i+j) l[j]=true
 |[],i=>⟨λ_ j h=>absurd h (Nat.not_lt_zero _),λ_=>rfl⟩
 |g::l,i=>by
  rw[qz]
  constructor
  ·intro h j hj
   split at h
   ·rename_i hg
    cases j with
    |zero=>exact hg
    |succ j=>
     have:=(qB (l:=l) (i:=i+1)).1 h j (by simpa using hj)
     rw[List.getElem_cons_succ,show i+(j+1)=i+1+j by omega];exact this
   ·cases h
  ·intro h
   rw[if_pos (show ki u i g=true from h 0 (Nat.zero_lt_succ _))]
   refine(qB (l:=l) (i:=i+1)).2 λj hj=>?_
   have:=h (j+1) (by simpa using hj)
   rwa[List.getElem_cons_succ,show i+(j+1)=i+1+j by omega]at this
theorem Zl{u:UnD}{g:GrD}:∀{l:List PtD}{q:Nat},Zk u g q l=none↔∀p∈l,yo u g p=true
 |[],q=>⟨λ_ p h=>(by cases h),λ_=>rfl⟩
 |x::l,q=>by
  rw[Zk]
  constructor
  ·intro h p hp
   split at h
   ·rename_i hx
    rcases List.mem_cons.1 hp with rfl|hp
    ·exact hx
    ·exact(Zl (l:=l) (q:=q+1)).1 h p hp
   ·cases h
  ·intro h
   rw[if_pos (h x List.mem_cons_self)]
   exact(Zl (l:=l) (q:=q+1)).2 λp hp=>h p (List.mem_cons_of_mem _ hp)
theorem Yb{u:UnD}:∀{l:List GrD}{i:Nat},ZK u i l=none↔∀g∈l,∀p∈g.pts,yo u g p=true
 |[],i=>⟨λ_ g h=>(by cases h),λ_=>rfl⟩
 |x::l,i=>by
  rw[ZK]
  constructor
  ·intro h g hg
   split at h
   ·cases h
   ·rename_i hx
    rcases List.mem_cons.1 hg with rfl|hg
    ·exact Zl.1 hx
    ·exact(Yb (l:=l) (i:=i+1)).1 h g hg
  ·intro h
   rw[Zl.2 (h x List.mem_cons_self)]
   exact(Yb (l:=l) (i:=i+1)).2 λg hg=>h g (List.mem_cons_of_mem _ hg)
structure MayU(u:UnD):Prop where
 ok:(zA u.ss).2=0
 fs1:1≤u.fs.length
 fs32:u.fs.length≤32
 mn0:0≤u.mn
 mn1:u.mn<u.fs.length
 head:∀(i:Nat)(h:i<u.fs.length),ki u i u.fs[i]=true
 pts:∀g∈u.fs,∀p∈g.pts,yo u g p=true
theorem ae7(h:MayU u):qA u=(0,0,0):=by
 have h1:=h.fs1;have h2:=h.fs32;have h3:=h.mn0;have h4:=h.mn1
 unfold qA
 rw[if_neg (by rw[h.ok,decide_eq_false (show¬u.fs.length<1 by omega),decide_eq_false (show¬32<u.fs.length by omega),decide_eq_false (show¬u.mn<0 by omega),decide_eq_false (show¬(u.fs.length:Int)≤u.mn by omega)];decide),
  qB.2 (λj hj=>by rw[Nat.zero_add];exact h.head j hj)]
 dsimp only
 rw[Yb.2 h.pts]
theorem ae8(h:(qA u).2.2=0):MayU u:=by
 unfold qA at h
 split at h
 ·cases h
 ·rename_i h1
  split at h
  ·cases h
  ·rename_i h2
   split at h
   ·cases h
   ·rename_i h3
    simp only[Bool.or_eq_true,Bool.not_eq_true',decide_eq_false_iff_not,gdt,not_or]at h1
    obtain⟨⟨h4,h5,h6⟩,h7,h8⟩:=h1
    exact⟨by omega,by omega,by omega,by omega,by omega,λi hi=>by have:=qB.1 h2 i hi;rwa[Nat.zero_add]at this,Yb.1 h3⟩
theorem Xd:X5 u=true↔MayU u:=by
 rw[X5,gdt]
 exact⟨ae8,λh=>by rw[ae7 h]⟩
structure HeadU(u:UnD)(fn:Nat)(g:GrD):Prop where
 lv0:0≤g.lv
 lv8:g.lv≤8
 pn0:0≤g.pn
 pn8:g.pn≤8
 pn1:g.pn<g.tys.length
 ty512:g.tys.length≤512
 nms:g.nms.length=g.tys.length
 tys:jQ u g 0 g.tys=true
 pt1:1≤g.pts.length
 pt1024:g.pts.length≤1024
 outs:Xa g=true
 loans:xe g.pts≤256
 main:(fn:Int)=u.mn→g.lv=0∧g.pn=0∧(g.tys.headD yq).k=1
theorem ad5{fn:Nat}(h:ki u fn g=true):HeadU u fn g:=by
 simp only[ki,gba,Bool.or_eq_true,Bool.not_eq_true',gdt,decide_eq_false_iff_not,isK]at h
 obtain⟨⟨⟨⟨⟨⟨⟨h1,h2⟩,h3,h4⟩,h5,h6⟩,h7⟩,h8⟩,⟨h9,h10⟩,h11⟩,h12,h13⟩:=h
 exact⟨h1,h2,h3,h4,by omega,h6,h7,h8,h9,h10,h11,h12,λe=>by rcases h13 with h|⟨⟨h,h'⟩,h2⟩
                                                           ·exact absurd e h
                                                           ·exact⟨h,h',h2⟩⟩
theorem HeadU.fine{fn:Nat}(h:HeadU u fn g)(ok:(zA u.ss).2=0):xO u.ss g.tys:=by
 obtain⟨h1,h2,h3,h4,_⟩:=jy ok
 exact⟨h1,h3,h4,λt ht=>(Vw (acg h.tys t ht)).2⟩
theorem MayU.hd(h:MayU u){i:Nat}(hi:i<u.fs.length):HeadU u i u.fs[i]:=ad5 (h.head i hi)
end
end Go.Proofs
namespace Go.Sh
theorem af5{w:World}{A2:(List Value→World→Prop)→Prop}{A3 A4 A5:(List Value→World→Prop)→World→Prop}{Z:Value→World→Prop}{b1 b2 b3 b4 b5:Bool}
  (h2:∀K:List Value→World→Prop,K [.bool b2] w→A2 K) (h3:∀K:List Value→World→Prop,K [.bool b3] w→A3 K w) (h4:∀K:List Value→World→Prop,K [.bool b4] w→A4 K w) (h5:∀K:List Value→World→Prop,K [.bool b5] w→A5 K w)
  (hZ:Z (.bool (b1&&(b2||((b3&&b4)&&b5)))) w):
  za (λK=>gIf (.bool b1) true (A2 K) (K [u_] w)) λs64 _ w66=>
   za (λK=>gIf (s64.getD 0 u_) false (A3 K w66) (K [u_] w66)) λs68 _ w70=>
    za (λK=>gIf (s68.getD 0 u_) true (A4 K w70) (K [u_] w70)) λs72 _ w74=>
     za (λK=>gIf (s64.getD 0 u_) false (zd (s68.getD 0 u_) (s72.getD 0 u_) (.bool false) λt=>K [t] w74) (K [u_] w74)) λs76 _ w78=>
      za (λK=>gIf (s76.getD 0 u_) true (A5 K w78) (K [u_] w78)) λs80 _ w82=>
       za (λK=>gIf (s64.getD 0 u_) false (zd (s76.getD 0 u_) (s80.getD 0 u_) (.bool false) λt=>K [t] w82) (K [u_] w82)) λs84 _ w86=>
        za (λK=>gIf (.bool b1) true (zd (s64.getD 0 u_) (.bool true) (s84.getD 0 u_) λt=>K [t] w86) (K [u_] w86)) λs88 _ w90=>
         zd (.bool b1) (s88.getD 0 u_) (.bool false) λt=>Z t w90:=by
 cases b1<;>cases b2<;>cases b3<;>cases b4 <;>
  (iterate 7 (intro K hK;first|refine hK _ _ λ_=>?_|refine h2 _ (hK _ _ λ_=>?_)|refine h3 _ (hK _ _ λ_=>?_)|refine h4 _ (hK _ _ λ_=>?_)|refine h5 _ (hK _ _ λ_=>?_)|refine ⟨_,rfl,hK _ _ λ_=>?_⟩)) <;>
  exact⟨_,rfl,by simpa using hZ⟩
end Go.Sh
namespace Go.Proofs
open Go.Sh
theorem ad6{a b:Nat}:decide ((a:Int)≠(b:Int))=decide (a≠b):=decide_eq_decide.2 (by omega)
theorem agT{u:UnD}{g:GrD}{i:Nat}{t:TyD}:tyG u g i t=(yC u.ss t && !((yO t).any λr=>decide (r<(if(i:Int)≤g.pn then 0 else -1))||decide (g.lv≤r))):=by
 rw[tyG,List.not_any_eq_all_not]
theorem acj{u:UnD}{i:Nat}{v:Value}{w:World}{r:Gh}{K:Value→World→Prop}(hi:i<u.fs.length)(hr:Holds r w)(hu:UnG r v u)
  (h:∀w',Ext w w'→K (.bool (ki u i u.fs[i])) w'):zb Tryz.prog Tryz.Zv #[v,.int .i64 i] w K:=by
 obtain⟨p0,cap0,vf,rfl,_,_,hst,hsl,hfn⟩:=hu
 obtain⟨qf,capf,rfl,_,_⟩:=hfn.sl.shape
 obtain⟨bf,of,cf,rfl,hcf,hgc,hfo⟩:=hfn.sl.get (by decide) hi
 refine Tryz.abf ?_
 unfold Tryz.XU
 generalize hgi:u.fs[i]=g at h hgc
 obtain⟨vo,vt,vn,vp,rfl,h1,h2,h3,h4⟩:=id hgc
 obtain⟨qo,capo,rfl,_,_⟩:=h1.sl.shape
 obtain⟨qt,capt,rfl,_,hct⟩:=h2.sl.shape
 obtain⟨qn,capn,rfl,_,_⟩:=h3.sl.shape
 obtain⟨qp,capp,rfl,_,_⟩:=h4.sl.shape
 have hptl:g.pts.length≤9223372036854775807:=h4.few
 have htl:g.tys.length≤9223372036854775807:=h2.few
 have S:=St.start hr
 refine S.box λb2 w1 S=>?_
 refine gG_ ?_
 refine zt (n:=7) hcf (λj v hj=>by rw[tnc];exact S.at (hfo j v hj)) ?_
 refine S.al λb5 w2 S=>?_
 refine S.stB (b:=b5) λw3 S=>?_
 refine gG_ ?_
 have no:(HeadU u i g→False)→ki u i g=false:=λhh=>by
  cases e:ki u i g
  ·rfl
  ·exact(hh (ad5 e)).elim
 refine zq (c:=decide (8<g.lv)) (λ_ K2 hK2=>?_) ?_
 ·refine gG_ ?_
  exact hK2
 refine zq (c:=decide (g.pn<0)) (λ_ K2 hK2=>?_) ?_
 ·refine gG_ ?_
  exact hK2
 refine zq (c:=decide (8<g.pn)) (λ_ K2 hK2=>?_) ?_
 ·refine gG_ ?_
  exact hK2
 refine zq (c:=decide ((g.tys.length:Int)≤g.pn)) (λ_ K2 hK2=>?_) ?_
 ·refine gG_ ?_
  exact hK2
 refine zq (c:=decide (512<g.tys.length)) (λ_ K2 hK2=>?_) ?_
 ·refine gG_ ?_
  rw[show decide ((512:Int)<(g.tys.length:Int))=decide (512<g.tys.length)from decide_eq_decide.2 (by omega)]
  exact hK2
 refine zq (c:=decide (g.nms.length≠g.tys.length)) (λ_ K2 hK2=>?_) ?_
 ·refine gG_ ?_
  rw[ad6]
  exact hK2
 refine c_b (λhbad=>?_) (λhgood=>?_)
 ·rw[no λH=>by
   have:=H.lv0;have:=H.lv8;have:=H.pn0;have:=H.pn8;have:=H.pn1;have:=H.ty512;have:=H.nms
   simp only[Bool.or_eq_true,gdt]at hbad;omega]at h
  exact h _ S.ext
 have hnum:(0≤g.lv∧g.lv≤8∧0≤g.pn∧g.pn≤8)∧g.pn<g.tys.length∧g.tys.length≤512∧g.nms.length=g.tys.length:=by
  simp only[Bool.or_eq_false_iff,decide_eq_false_iff_not]at hgood;omega
 clear hgood
 obtain⟨⟨hlv0,hlv8,hpn0,hpn8⟩,hpn1,hty,hnm⟩:=hnum
 refine gG_ ?_
 refine zj (ι:=Nat) (λi=>[.int .i64 (i:Nat)]) (λj w'=>j≤g.tys.length∧jQ u g j (g.tys.drop j)=jQ u g 0 g.tys∧StX noX w r w' _) (λi=>g.tys.length-i) 0 rfl ⟨gzl _,rfl,S⟩ ?_
 clear S
 rintro j d w5 ⟨hj,hd,S⟩ K6 hK6
 rw[gdz]
 refine gP_ ?_
 refine zh (λhlt=>?_) (λhge=>?_)
 ·have hlt:j<g.tys.length:=by omega
  obtain⟨bt,ot,ct,rfl,hct,htc,hcell⟩:=h2.sl.get (by decide) hlt
  obtain⟨q2,cap2,rfl,ht2⟩:=xT htc
  rw[ae5 hlt]at hd
  refine gP_ ?_
  refine zt (n:=5) hct (λj v hj=>by rw[tnc];exact S.at (hcell j v hj)) ?_
  refine S.al λb7 w6 S=>?_
  refine S.stB (b:=b7) λw7 S=>?_
  refine gG_ ?_
  refine j9 S.holds hst ht2 λw8 e8=>?_
  have S:=S.go e8
  refine gP_ ?_
  refine c_b (λhm=>?_) (λhm=>?_)
  ·have hm:yC u.ss g.tys[j]=false:=by simpa using hm
   rw[no λH=>by
    have:=H.tys
    rw[← hd,tyG,hm,Bool.false_and,Bool.false_and]at this;cases this]at h
   exact h _ S.ext
  have hm:yC u.ss g.tys[j]=true:=by simpa using hm
  refine S.al λb8 w9 S=>?_
  refine S.st (b:=b8) λw10 S=>?_
  refine zs (λ_ w'=>StX noX w r w' [.cell b8 [.int .i64 (if(j:Int)≤g.pn then 0 else -1)] 3,.cell b7 (tyL g.tys[j] q2 cap2) 112,.cell b5 [.string g.name,.int .i64 g.lv,.slice qo g.outs.length capo,.int .i64 g.pn,.slice (some ⟨bt,ot,none⟩) g.tys.length capt,.slice qn g.nms.length capn,.slice qp g.pts.length capp] 74,
   .cell b2 [.slice p0 u.ss.length cap0,.slice (some ⟨bf,of,none⟩) u.fs.length capf,.int .i64 u.mn] 25]) (λK3 hK3=>?_) ?_
  ·refine gG_ ?_
   refine zh (λhle=>?_) (λhgt=>?_)
   ·refine S.st (b:=b8) λw11 S=>?_
    refine hK3 [] _ ?_
    rw[if_pos hle];exact S
   ·refine hK3 [] _ ?_
    rw[if_neg hgt];exact S
  clear S
  rintro _ w11 S d11
  refine S.ldB (b:=b7) ?_ rfl
  refine Ya S.holds ht2 λv7 w12 e12 o12=>?_
  have S:=S.go e12
  obtain⟨p7,cap7,rfl,_,_,_,hs7⟩:=XT o12
  refine gP_ ?_
  have hr48:(yO g.tys[j]).length≤1000:=by
   rw[yO];split
   ·have:=aaS (by assumption);omega
   ·simp
  refine XJ (f:=λx=>decide (x<(if(j:Int)≤g.pn then 0 else -1))||decide (g.lv≤x)) (λx K hK=>?_) hs7 (by omega) ?_
  ·refine abE (by kernel_rfl) ?_
   refine Tryz.Vp ?_
   unfold Tryz.YE
   refine S.ld (b:=b8) ?_ rfl
   refine gP_ ?_
   refine zq (c:=decide (g.lv≤x)) (λ_ K2 hK2=>?_) hK
   refine gG_ ?_
   exact hK2
  have hty:tyG u g j g.tys[j] = !((yO g.tys[j]).any λx=>decide (x<(if(j:Int)≤g.pn then 0 else -1))||decide (g.lv≤x)):=by
   rw[agT,hm,Bool.true_and]
  refine c_b (λhx=>?_) (λhx=>?_)
  ·rw[hty,hx,Bool.not_true,Bool.false_and]at hd
   rw[no λH=>by have:=H.tys;rw[← hd]at this;cases this]at h
   exact h _ S.ext
  ·rw[hty,hx,Bool.not_false,Bool.true_and]at hd
   refine gP_ ?_
   rw[show ((j:Int)+1)=((j+1:Nat):Int)by omega]
   exact hK6 (j+1) _ ⟨hlt,hd,(S.drop b8).drop b7⟩ (by omega)
 have hje:j=g.tys.length:=by omega
 rw[hje,List.drop_length]at hd
 have htys:jQ u g 0 g.tys=true:=hd.symm
 clear hd hK6 K6 hge hj hje
 refine gG_ ?_
 refine zq (c:=decide (1024<g.pts.length)) (λ_ K2 hK2=>?_) ?_
 ·refine gG_ ?_
  rw[show decide ((1024:Int)<(g.pts.length:Int))=decide (1024<g.pts.length)from decide_eq_decide.2 (by omega)]
  exact hK2
 refine qw (c:=!Xa g) (λ_ K2 hK2=>?_) λw20 e20=>?_
 ·refine S.ldB (b:=b5) ?_ rfl
  refine JR S.holds hgc hlv0 hlv8 hpn0 hpn1 (λt ht x hx=>?_) λw21 e21=>?_
  ·obtain⟨k,hk,rfl⟩:=List.getElem_of_mem ht
   rw[List.length_take]at hk
   rw[List.getElem_take]at hx
   have:=ach htys (j:=k) (by omega) (by omega) x hx
   omega
  refine gP_ ?_
  exact hK2 _ e21
 have S:=S.go e20
 refine c_b (λhbad=>?_) (λhgood=>?_)
 ·rw[no λH=>by
   have:=H.pt1;have:=H.pt1024;have h3:=H.outs
   rw[h3]at hbad
   simp only[Bool.or_eq_true,gdt,Bool.not_true,Bool.false_eq_true,or_false]at hbad;omega]at h
  exact h _ S.ext
 have hnum:(1≤g.pts.length∧g.pts.length≤1024)∧Xa g=true:=by
  cases ho:Xa g
  ·rw[ho]at hgood;simp at hgood
  ·simp only[Bool.or_eq_false_iff,decide_eq_false_iff_not]at hgood
   exact⟨by omega,rfl⟩
 clear hgood
 obtain⟨⟨hp1,hp1024⟩,hout⟩:=hnum
 refine gG_ ?_
 refine zj (ι:=Nat) (λi=>[.int .i64 (xe (g.pts.take i):Nat),.int .i64 (i:Nat)]) (λj w'=>j≤g.pts.length∧xe (g.pts.take j)≤j∧StX noX w r w' _) (λi=>g.pts.length-i) 0 rfl ⟨gzl _,Nat.le_refl _,S⟩ ?_
 clear S
 rintro j d w22 ⟨hj,hlj,S⟩ K7 hK7
 simp only[gdz,gds]
 refine gP_ ?_
 refine zh (λhlt=>?_) (λhge=>?_)
 ·have hlt:j<g.pts.length:=by omega
  obtain⟨bp,op,cp,rfl,hcp,hpc,hcell⟩:=h4.sl.get (by decide) hlt
  refine zs (λs w'=>s=[.int .i64 (xe (g.pts.take (j+1)):Nat)]∧StX noX w r w' [.cell b5 [.string g.name,.int .i64 g.lv,.slice qo g.outs.length capo,.int .i64 g.pn,.slice qt g.tys.length capt,.slice qn g.nms.length capn,.slice (some ⟨bp,op,none⟩) g.pts.length capp] 74,
   .cell b2 [.slice p0 u.ss.length cap0,.slice (some ⟨bf,of,none⟩) u.fs.length capf,.int .i64 u.mn] 25]) (λK3 hK3=>?_) ?_
  ·refine gP_ ?_
   refine zt (n:=21) hcp (λj v hj=>by rw[tnc];exact S.at (hcell j v hj)) ?_
   obtain⟨vto,va,vb,vl,vfr,rfl,k1,k2,k3,k4,k5⟩:=hpc
   obtain⟨_,_,rfl,_⟩:=k1.sl.shape
   obtain⟨_,_,rfl,_⟩:=k2.sl.shape
   obtain⟨_,_,rfl,_⟩:=k3.sl.shape
   obtain⟨_,_,rfl,_⟩:=k4.sl.shape
   obtain⟨_,_,rfl,_⟩:=k5.sl.shape
   refine S.al λb11 w23 S=>?_
   refine S.stB (b:=b11) λw24 S=>?_
   refine gG_ ?_
   have hlo:=VE hlt
   refine zh (λho=>?_) (λho=>?_)
   ·rw[if_pos ho]at hlo
    refine gP_ ?_
    rw[show ((xe (g.pts.take j):Nat):Int)+1=((xe (g.pts.take (j+1)):Nat):Int)by omega]
    exact hK3 _ _ ⟨rfl,S.drop b11⟩
   ·rw[if_neg ho]at hlo
    rw[show ((xe (g.pts.take j):Nat):Int)=((xe (g.pts.take (j+1)):Nat):Int)by omega]
    exact hK3 _ _ ⟨rfl,S.drop b11⟩
  clear S
  rintro _ w25 ⟨rfl,S⟩ d25
  rw[gdz]
  refine gP_ ?_
  rw[show ((j:Int)+1)=((j+1:Nat):Int)by omega]
  refine hK7 (j+1) _ ⟨hlt,?_,S⟩ (by omega)
  rw[VE hlt];split<;>omega
 have hje:j=g.pts.length:=by omega
 rw[hje,List.take_length]
 refine gP_ ?_
 have hfin:ki u i g=(decide (xe g.pts≤256)&&(decide ((i:Int)≠u.mn)||((decide (g.lv=0)&&decide (g.pn=0))&&isK (g.tys.headD yq) 1))):=by
  rw[ki,htys,hout,gde hlv0,gde hlv8,gde hpn0,gde hpn8,gde hpn1,gde hty,gde hnm,gde hp1,gde hp1024,decide_not];rfl
 rw[hfin]at h
 rw[show decide ((xe g.pts:Int)≤256)=decide (xe g.pts≤256)from decide_eq_decide.2 (by omega)]
 refine af5 (b2:=decide ((i:Int)≠u.mn)) (b3:=decide (g.lv=0)) (b4:=decide (g.pn=0)) (b5:=isK (g.tys.headD yq) 1) (λK2 hK2=>?_) (λK2 hK2=>?_) (λK2 hK2=>?_) (λK2 hK2=>?_) (h _ S.ext)
 ·refine gG_ ?_
  exact hK2
 ·refine gG_ ?_
  exact hK2
 ·refine gG_ ?_
  exact hK2
 ·have hpos:0<g.tys.length:=by omega
  obtain⟨bt,ot,ct,rfl,hct,htc,hcell⟩:=h2.sl.get (by decide) hpos
  obtain⟨q2,cap2,rfl,ht2⟩:=xT htc
  refine gG_ ?_
  refine zi (v:=.int .u8 g.tys[0].k) (by simpa using S.at (hcell 0 _ rfl)) ?_
  refine gG_ ?_
  have he:g.tys.headD yq=g.tys[0]:=by
   rw[List.headD_eq_head?_getD,List.head?_eq_getElem?,gqg hpos,Option.getD_some]
  rw[he]at hK2
  exact hK2
theorem ae9{u:UnD}{i:Nat}{l:List GrD}(hi:i<l.length):qz u i (l.drop i)=if ki u i l[i]then qz u (i+1) (l.drop (i+1))else some i:=by
 rw[List.drop_eq_getElem_cons hi];rfl
theorem af6{u:UnD}{g:GrD}{q:Nat}{l:List PtD}(hq:q<l.length):Zk u g q (l.drop q)=if yo u g l[q]then Zk u g (q+1) (l.drop (q+1))else some q:=by
 rw[List.drop_eq_getElem_cons hq];rfl
theorem agU{u:UnD}{i:Nat}{l:List GrD}(hi:i<l.length):ZK u i (l.drop i)=match Zk u l[i] 0 l[i].pts with|some q=>some (i,q)|none=>ZK u (i+1) (l.drop (i+1)):=by
 rw[List.drop_eq_getElem_cons hi];rfl
noncomputable def VJ(u:UnD):Int×Int×Int:=match qz u 0 u.fs with
  |some i=>(i,-1,100)
  |none=>match ZK u 0 u.fs with
   |some (i,q)=>(i,q,100)
   |none=>(0,0,0)
theorem abp{u:UnD}{v:Value}{w:World}{r:Gh}{K:Value→World→Prop}(hr:Holds r w)(hu:UnG r v u)
  (h:∀w',Ext w w'→K (.tuple #[.int .i64 (qA u).1,.int .i64 (qA u).2.1,.int .i64 (qA u).2.2]) w'):zb Tryz.prog Tryz.vL #[v] w K:=by
 have hu0:=hu
 obtain⟨p0,cap0,vf,rfl,_,_,hst,hsl,hfn⟩:=hu
 obtain⟨qf,capf,rfl,_,_⟩:=hfn.sl.shape
 have hfl:u.fs.length≤9223372036854775807:=hfn.few
 refine Tryz.aae ?_
 unfold Tryz.Xr
 have S:=St.start hr
 refine S.box λb1 w1 S=>?_
 refine gG_ ?_
 refine jz S.holds hst λw2 e2=>?_
 have S:=S.go e2
 refine gS_ ?_
 refine zq (c:=decide (u.fs.length<1)) (λ_ K2 hK2=>?_) ?_
 ·refine gG_ ?_
  rw[show decide ((u.fs.length:Int)<1)=decide (u.fs.length<1)from decide_eq_decide.2 (by omega)]
  exact hK2
 refine zq (c:=decide (32<u.fs.length)) (λ_ K2 hK2=>?_) ?_
 ·refine gG_ ?_
  rw[show decide ((32:Int)<(u.fs.length:Int))=decide (32<u.fs.length)from decide_eq_decide.2 (by omega)]
  exact hK2
 refine zq (c:=decide (u.mn<0)) (λ_ K2 hK2=>?_) ?_
 ·refine gG_ ?_
  exact hK2
 refine zq (c:=decide ((u.fs.length:Int)≤u.mn)) (λ_ K2 hK2=>?_) ?_
 ·refine gG_ ?_
  exact hK2
 have hC:qA u=if ((((decide ((zA u.ss).2≠0)||decide (u.fs.length<1))||decide (32<u.fs.length))||decide (u.mn<0))||decide ((u.fs.length:Int)≤u.mn))=true then(-1,-1,100)else VJ u:=by
  rw[qA,VJ]
  simp only[ne_eq,decide_not,Bool.or_assoc] <;>
  rfl
 rw[hC]at h
 refine c_b (λhbad=>?_) (λhgood=>?_)
 ·rw[if_pos hbad]at h
  exact h _ S.ext
 rw[if_neg (by rw[hgood];decide)]at h
 have hok:(zA u.ss).2=0:=by
  simp only[Bool.or_eq_false_iff,decide_eq_false_iff_not]at hgood;omega
 clear hC hgood
 refine gG_ ?_
 refine zj (ι:=Nat×Int) (λi=>[.int .i64 i.2,.int .i64 0,.int .i64 (i.1:Nat)]) (λj w'=>j.1≤u.fs.length∧qz u j.1 (u.fs.drop j.1)=qz u 0 u.fs∧StX noX w r w' _) (λi=>u.fs.length-i.1) (0,0) rfl ⟨gzl _,rfl,S⟩ ?_
 clear S
 rintro⟨j,a⟩ d w5 ⟨hj,hd,S⟩ K6 hK6
 simp only at hj hd S⊢
 simp only[gdz,gds]
 refine gP_ ?_
 refine zh (λhlt=>?_) (λhge=>?_)
 ·have hlt:j<u.fs.length:=by omega
  rw[ae9 hlt]at hd
  refine S.ldB (b:=b1) ?_ rfl
  refine acj hlt S.holds hu0 λw6 e6=>?_
  have S:=S.go e6
  refine gP_ ?_
  refine c_b (λhx=>?_) (λhx=>?_)
  ·rw[if_neg (by simpa using hx)]at hd
   rw[VJ,← hd]at h
   exact h _ S.ext
  ·rw[if_pos (by simpa using hx)]at hd
   refine gP_ ?_
   rw[show ((j:Int)+1)=((j+1:Nat):Int)by omega]
   exact hK6 (j+1,j) _ ⟨hlt,hd,S⟩ (by show u.fs.length-(j+1)<u.fs.length-j;omega)
 have hje:j=u.fs.length:=by omega
 rw[hje,List.drop_length]at hd
 have hnone:qz u 0 u.fs=none:=hd.symm
 have hheads:=λ(i:Nat) (hi:i<u.fs.length)=>ad5 (by have:=qB.1 hnone i hi;rwa[Nat.zero_add]at this:ki u i u.fs[i]=true)
 rw[VJ,hnone]at h
 dsimp only at h
 clear hd hK6 K6 hge hj hje
 refine zs (λs w'=>Ext w w'∧((∃x y:Nat,s=[.int .i64 (x:Int),.int .i64 (y:Int),.bool true]∧ZK u 0 u.fs=some (x,y))∨∃x y,s=[x,y,.bool false]∧ZK u 0 u.fs=none)) (λK3 hK3=>?_) ?_
 rotate_left
 ·rintro _ w9 ⟨e9,⟨x,y,rfl,hb⟩|⟨x,y,rfl,hb⟩⟩ d9
  ·rw[hb]at h
   refine c_t rfl ?_
   exact h _ e9
  ·rw[hb]at h
   refine c_f rfl ?_
   exact h _ e9
 refine gG_ ?_
 refine zj (ι:=Nat×Value×Value) (λi=>[i.2.1,i.2.2,.bool false,.int .i64 (i.1:Nat)]) (λj w'=>j.1≤u.fs.length∧ZK u j.1 (u.fs.drop j.1)=ZK u 0 u.fs∧StX noX w r w' _) (λi=>u.fs.length-i.1) (0,.int .i64 a,.int .i64 0) rfl ⟨gzl _,rfl,S⟩ ?_
 clear S
 rintro⟨j,x1,x2⟩ d w5 ⟨hj,hd,S⟩ K6 hK6
 simp only at hj hd S⊢
 simp only[gdz,gds]
 refine gP_ ?_
 refine zh (λhlt=>?_) (λhge=>?_)
 rotate_left
 ·have hje:j=u.fs.length:=by omega
  rw[hje,List.drop_length]at hd
  exact hK3 _ _ ⟨S.ext,.inr ⟨_,_,rfl,hd.symm⟩⟩
 have hlt:j<u.fs.length:=by omega
 obtain⟨bf,of,cf,rfl,hcf,hgc,hfo⟩:=hfn.sl.get (by decide) hlt
 rw[agU hlt]at hd
 have hH:=hheads j hlt
 have hfin:=hH.fine hok
 have hpn:∀f∈u.fs,0≤f.pn∧f.pn<f.tys.length:=λf hf=>by
  obtain⟨i,hi,rfl⟩:=List.getElem_of_mem hf
  exact⟨(hheads i hi).pn0,(hheads i hi).pn1⟩
 generalize hgi:u.fs[j]=g at hd hgc hH hfin
 obtain⟨vo,vt,vn,vp,rfl,h1,h2,h3,h4⟩:=id hgc
 obtain⟨qo,capo,rfl,_,_⟩:=h1.sl.shape
 obtain⟨qt,capt,rfl,_,hct⟩:=h2.sl.shape
 obtain⟨qn,capn,rfl,_,_⟩:=h3.sl.shape
 obtain⟨qp,capp,rfl,_,_⟩:=h4.sl.shape
 have hptl:g.pts.length≤9223372036854775807:=h4.few
 refine gP_ ?_
 refine zt (n:=7) hcf (λj v hj=>by rw[tnc];exact S.at (hfo j v hj)) ?_
 refine S.al λb9 w6 S=>?_
 refine S.stB (b:=b9) λw7 S=>?_
 refine S.ldB (b:=b1) ?_ rfl
 refine S.ldB (b:=b9) ?_ rfl
 refine zu (cs:=#[.slice p0 u.ss.length cap0,.slice (some ⟨bf,of,none⟩) u.fs.length capf,.int .i64 u.mn,.string g.name,.int .i64 g.lv,.slice qo g.outs.length capo,.int .i64 g.pn,.slice qt g.tys.length capt,.slice qn g.nms.length capn,.slice qp g.pts.length capp]) (by kernel_rfl) ?_
 refine S.al λb10 w8 S=>?_
 refine S.stB (b:=b10) λw9 S=>?_
 refine gG_ ?_
 have hask:AskG r (.agg #[.slice p0 u.ss.length cap0,.slice (some ⟨bf,of,none⟩) u.fs.length capf,.int .i64 u.mn,.string g.name,.int .i64 g.lv,.slice qo g.outs.length capo,.int .i64 g.pn,.slice qt g.tys.length capt,.slice qn g.nms.length capn,.slice qp g.pts.length capp]) u g:=⟨_,_,_,_,_,_,_,rfl,hu0,hgc⟩
 refine zj (ι:=Nat) (λi=>[x1,x2,.bool false,.int .i64 (i:Nat)]) (λk w'=>k≤g.pts.length∧Zk u g k (g.pts.drop k)=Zk u g 0 g.pts∧StX noX w r w' _) (λi=>g.pts.length-i) 0 rfl ⟨gzl _,rfl,S⟩ ?_
 clear S
 rintro k d w10 ⟨hk,hdk,S⟩ K7 hK7
 simp only[gdz,gds]
 refine gP_ ?_
 refine zh (λhlt2=>?_) (λhge=>?_)
 ·have hlt2:k<g.pts.length:=by omega
  obtain⟨bp,op,cp,rfl,hcp,hpc,hcell⟩:=h4.sl.get (by decide) hlt2
  rw[af6 hlt2]at hdk
  refine gP_ ?_
  refine zt (n:=21) hcp (λj v hj=>by rw[tnc];exact S.at (hcell j v hj)) ?_
  obtain⟨vto,va,vb,vl,vfr,rfl,k1,k2,k3,k4,k5⟩:=id hpc
  obtain⟨_,_,rfl,_⟩:=k1.sl.shape
  obtain⟨_,_,rfl,_⟩:=k2.sl.shape
  obtain⟨_,_,rfl,_⟩:=k3.sl.shape
  obtain⟨_,_,rfl,_⟩:=k4.sl.shape
  obtain⟨_,_,rfl,_⟩:=k5.sl.shape
  refine S.al λb12 w11 S=>?_
  refine S.stB (b:=b12) λw12 S=>?_
  refine S.ldB (b:=b10) ?_ rfl
  refine S.ldB (b:=b12) ?_ rfl
  refine XK S.holds hask hfin hpn hpc λw13 e13=>?_
  have S:=S.go e13
  refine gP_ ?_
  refine c_b (λhx=>?_) (λhx=>?_)
  ·rw[if_neg (by simpa using hx)]at hdk
   rw[← hdk]at hd
   exact hK3 _ _ ⟨S.ext,.inl ⟨j,k,rfl,hd.symm⟩⟩
  ·rw[if_pos (by simpa using hx)]at hdk
   refine gP_ ?_
   rw[show ((k:Int)+1)=((k+1:Nat):Int)by omega]
   exact hK7 (k+1) _ ⟨hlt2,hdk,S.drop b12⟩ (by omega)
 have hke:k=g.pts.length:=by omega
 rw[hke,List.drop_length]at hdk
 rw[← hdk]at hd
 refine gP_ ?_
 rw[show ((j:Int)+1)=((j+1:Nat):Int)by omega]
 exact hK6 (j+1,x1,x2) _ ⟨hlt,hd,(S.drop b10).drop b9⟩ (by show u.fs.length-(j+1)<u.fs.length-j;omega)
theorem Jk{u:UnD}{v:Value}{w:World}{r:Gh}{K:Value→World→Prop}(hr:Holds r w)(hu:UnG r v u)
  (h:∀w',Ext w w'→K (.bool (X5 u)) w'):zb Tryz.prog Tryz.j3 #[v] w K:=by
 refine Tryz.ab0 ?_
 unfold Tryz.Jc
 have hu0:=hu
 obtain⟨p0,cap0,vf,rfl,_,_,hst,hsl,hfn⟩:=hu
 obtain⟨qf,capf,rfl,_,_⟩:=hfn.sl.shape
 have S:=St.start hr
 refine S.box λb1 w1 S=>?_
 refine S.ldB (b:=b1) ?_ rfl
 refine abp S.holds hu0 λw2 e2=>?_
 have S:=S.go e2
 refine gS_ ?_
 exact h _ S.ext
theorem agV{s:Gh}{p:Option Addr}{n cap:Nat}{l:List Int}(h:SlG 1 s kB (.slice p n cap) l):Ob s λw=>Sl w p (ints l):=λw hw i v hi=>by
 have hlt:i<l.length:=by
  have:=(List.getElem?_eq_some_iff.1 hi).1
  rwa[ke]at this
 have hv:v=.int .i64 l[i]:=by
  rw[ints,List.getElem?_map,gqg hlt]at hi
  exact(Option.some.inj hi).symm
 subst hv
 obtain⟨b,off,c,rfl,hc,hcc,hcell⟩:=h.get (by decide) hlt
 obtain rfl:c=_:=hcc
 have:=hcell 0 _ rfl w hw
 exact⟨b,off,rfl,by simpa using this⟩
end Go.Proofs
namespace Go.Sh
theorem StX.front{X:Nat→Prop}{w0 w:World}{r:Gh}{L M:List Asr}(S:StX X w0 r w L)(b:Nat){c:List Value}{T:TypeId}[h:jP b L c T M]:StX X w0 r w (.cell b c T::M):=S.permO h.h.symm
end Go.Sh
namespace Go.Proofs
open Go.Sh
section
variable {r:Gh}
theorem ZO{u:UnD}{fn q:Int}(h:isU u fn q=true):MayU u∧0≤fn∧∃hlt:fn.toNat<u.fs.length,q<u.fs[fn.toNat].pts.length∧ahy u fn q=(ahx u u.fs[fn.toNat],0):=by
 have h0:=h
 rw[isU]at h
 simp only[gba,gdt]at h
 obtain⟨⟨h1,h2⟩,h3,h4⟩:=h
 have hlt:fn.toNat<u.fs.length:=by omega
 rw[gqg hlt]at h4
 exact⟨Xd.1 h3,h1,hlt,h4,by rw[ahy,if_pos h0,gqg hlt]⟩
def vC:PlD:=⟨0,[]⟩
def Yc:OpD:=⟨0,0,vC⟩
def afa:PtD:=⟨0,vC,Yc,Yc,[],ByteArray.empty,vC,false,0,0,0,0,0⟩
abbrev adk:List Value:=[.int .u8 0,.int .i64 0,.slice none 0 0,.int .u8 0,.int .i64 0,.int .i64 0,.slice none 0 0,.int .u8 0,.int .i64 0,.int .i64 0,.slice none 0 0,.slice none 0 0,.string ByteArray.empty,.int .i64 0,.slice none 0 0,.bool false,.int .i64 0,.int .i64 0,.int .i64 0,.int .i64 0,.int .i64 0]
theorem yV{α:Type}{sz:Nat}{R:List Value→α→Prop}:SlB sz r R (.slice none 0 0) ([]:List α):=⟨SlG.nil,gzl _⟩
theorem af7:PtG r adk afa:=⟨_,_,_,_,_,rfl,yV,yV,yV,yV,yV⟩
abbrev ptL(p:PtD)(q1 q2 q3 q4 q5:Option Addr)(c1 c2 c3 c4 c5:Nat):List Value:=[.int .u8 p.op,.int .i64 p.to.l,.slice q1 p.to.ps.length c1,.int .u8 p.a.k,.int .i64 p.a.n,.int .i64 p.a.pl.l,.slice q2 p.a.pl.ps.length c2,.int .u8 p.b.k,.int .i64 p.b.n,.int .i64 p.b.pl.l,.slice q3 p.b.pl.ps.length c3,.slice q4 p.args.length c4,
 .string p.sign,.int .i64 p.fr.l,.slice q5 p.fr.ps.length c5,.bool p.mu,.int .i64 p.fn,.int .i64 p.st,.int .i64 p.nx,.int .i64 p.el,.int .i64 p.tx]
theorem jd{c:List Value}{p:PtD}(h:PtG r c p):∃q1 q2 q3 q4 q5 c1 c2 c3 c4 c5,c=ptL p q1 q2 q3 q4 q5 c1 c2 c3 c4 c5∧PtG r (ptL p q1 q2 q3 q4 q5 c1 c2 c3 c4 c5) p:=by
 obtain⟨vto,va,vb,vl,vfr,rfl,k1,k2,k3,k4,k5⟩:=id h
 obtain⟨q1,c1,rfl,_⟩:=k1.sl.shape
 obtain⟨q2,c2,rfl,_⟩:=k2.sl.shape
 obtain⟨q3,c3,rfl,_⟩:=k3.sl.shape
 obtain⟨q4,c4,rfl,_⟩:=k4.sl.shape
 obtain⟨q5,c5,rfl,_⟩:=k5.sl.shape
 exact⟨q1,q2,q3,q4,q5,c1,c2,c3,c4,c5,rfl,h⟩
def Qd(u:UnD)(fn q:Int):Option PtD:=u.fs[fn.toNat]?.bind λg=>g.pts[q.toNat]?
theorem af8{u:UnD}{fn q:Int}{p:PtD}(hlt:fn.toNat<u.fs.length)(h:Qd u fn q=some p):∃hq:q.toNat<u.fs[fn.toNat].pts.length,u.fs[fn.toNat].pts[q.toNat]=p:=by
 rw[Qd,gqg hlt,Option.bind_some]at h
 exact List.getElem?_eq_some_iff.1 h
end
end Go.Proofs
namespace Go.Sh
theorem StX.mkSU{P:Program}{X:Nat→Prop}{w0 w:World}{r:Gh}{L:List Asr}{t e:TypeId}{bytes:Nat}{kl:IntKind}{n:Int}{z:Value}(S:StX X w0 r w L)[hT:ApT P t e 1 bytes][hz:ZrT P e [z]]{K:Value→World→Prop}(h0:0≤n)(hb:(bytes:Int)*n≤281474976710656)
  (h:∀b w',StX X w0 r w' (.cell b (List.replicate n.toNat z) e::L)→K (.slice (some ⟨b,0,none⟩) n.toNat n.toNat) w'):opW P w (Instr.makeSlice t (.int kl n) (.int kl n)) λt' w'=>Ext w w'∧K t' w':=
 ahi hT.h hz.h h0 hb λb w' hb e _ B=>⟨e,h b w' (S.add e (by omega) B)⟩
theorem StX.litNew{w0 w:World}{r:Gh}{L M:List Asr}{α:Type}{sz:Nat}{R:List Value→α→Prop}{l:List α}{e:TypeId}{xs:List Value}(S:StX noX w0 r w L)(b:Nat)[h:jP b L xs e M](hr:RowOf sz R xs l)(hz:0<sz):
  StX noX w0 (r.or (Go.Sh.one b xs e)) w M∧SlG sz (Go.Sh.one b xs e) R (.slice (some ⟨b,0,none⟩) l.length l.length) l∧Above w0 (Go.Sh.one b xs e):=by
 have S1:=S.front b
 have hm:=S1.mine (.cell b xs e) List.mem_cons_self b rfl
 obtain⟨S2,h2⟩:=S1.litSl hr hz
 exact⟨S2,h2,by rintro b' o ⟨rfl,_⟩;exact hm.1.resolve_right id⟩
end Go.Sh
namespace Go.Proofs
open Go.Sh
theorem kT{α:Type}{sz:Nat}{R:List Value→α→Prop}{c:List Value}{x:α}(hc:c.length=sz)(hx:R c x):RowOf sz R c [x]:=RowOf.nil.snoc (xs:=[]) hc hx
theorem yI{α:Type}{sz:Nat}{R:List Value→α→Prop}{c xs:List Value}{x:α}{l:List α}(hc:c.length=sz)(hx:R c x)(h:RowOf sz R xs l):RowOf sz R (c++xs) (x::l):=by
 obtain⟨h1,h2⟩:=h
 refine⟨by rw[gla,List.length_cons,h1,hc,Nat.succ_mul,Nat.add_comm],λi hi=>?_⟩
 cases i with
 |zero=>rw [Nat.zero_mul,List.drop_zero,List.take_append_of_le_length (by omega),List.take_of_length_le (by omega)];exact hx
 |succ i=>
  have e:((c++xs).drop ((i+1)*sz))=xs.drop (i*sz):=by
   rw[show (i+1)*sz=c.length+i*sz by rw[hc,Nat.succ_mul,Nat.add_comm],← List.drop_drop,List.drop_left'];rfl
  rw[e]
  exact h2 i (by simpa using hi)
theorem Zp{α:Type}{sz:Nat}{r:Gh}{R:List Value→α→Prop}{v:Value}{l:List α}(h:SlG sz r R v l)(hl:l.length≤1000000:=by decide):SlB sz r R v l:=⟨h,by simp only[maxLen];omega⟩
def Qe:TyD:=.mk 4 true (-1) 0 [kg]
def plD(l:Int):PlD:=⟨l,[]⟩
def ahC(n:Int):OpD:=⟨1,n,vC⟩
def hp0:PtD:=⟨4,plD 2,Yc,Yc,[],ByteArray.empty,plD 1,true,0,0,1,0,0⟩
def hp1:PtD:=⟨1,plD 1,ahC 2,Yc,[],ByteArray.empty,vC,false,0,0,2,0,0⟩
def hp2:PtD:=⟨1,⟨2,[-1]⟩,ahC 3,Yc,[],ByteArray.empty,vC,false,0,0,3,0,0⟩
def hp3:PtD:=⟨14,vC,Yc,Yc,[],ByteArray.empty,vC,false,0,0,0,0,0⟩
def zJ:GrD:=⟨ByteArray.empty,0,[],0,[kg,kg,Qe],[ByteArray.empty,ByteArray.empty,ByteArray.empty],[hp0,hp1,hp2,hp3]⟩
def zP:UnD:=⟨[],[zJ],0⟩
abbrev ZP:List Value:=[.int .u8 1,.bool false,.int .i64 0,.int .i64 0,.slice none 0 0]
abbrev ahD:Value:=.agg #[.int .u8 1,.bool false,.int .i64 0,.int .i64 0,.slice none 0 0]
abbrev ahE(n:Int):Value:=.agg #[.int .u8 1,.int .i64 n,.int .i64 0,.slice none 0 0]
abbrev hl0:List Value:=[.int .u8 4,.int .i64 2,.slice none 0 0,.int .u8 0,.int .i64 0,.int .i64 0,.slice none 0 0,.int .u8 0,.int .i64 0,.int .i64 0,.slice none 0 0,.slice none 0 0,.string ByteArray.empty,.int .i64 1,.slice none 0 0,.bool true,.int .i64 0,.int .i64 0,.int .i64 1,.int .i64 0,.int .i64 0]
abbrev hl1:List Value:=[.int .u8 1,.int .i64 1,.slice none 0 0,.int .u8 1,.int .i64 2,.int .i64 0,.slice none 0 0,.int .u8 0,.int .i64 0,.int .i64 0,.slice none 0 0,.slice none 0 0,.string ByteArray.empty,.int .i64 0,.slice none 0 0,.bool false,.int .i64 0,.int .i64 0,.int .i64 2,.int .i64 0,.int .i64 0]
abbrev hl2(b:Nat):List Value:=[.int .u8 1,.int .i64 2,.slice (some ⟨b,0,none⟩) 1 1,.int .u8 1,.int .i64 3,.int .i64 0,.slice none 0 0,.int .u8 0,.int .i64 0,.int .i64 0,.slice none 0 0,.slice none 0 0,.string ByteArray.empty,.int .i64 0,.slice none 0 0,.bool false,.int .i64 0,.int .i64 0,.int .i64 3,.int .i64 0,.int .i64 0]
abbrev hl3:List Value:=[.int .u8 14,.int .i64 0,.slice none 0 0,.int .u8 0,.int .i64 0,.int .i64 0,.slice none 0 0,.int .u8 0,.int .i64 0,.int .i64 0,.slice none 0 0,.slice none 0 0,.string ByteArray.empty,.int .i64 0,.slice none 0 0,.bool false,.int .i64 0,.int .i64 0,.int .i64 0,.int .i64 0,.int .i64 0]
theorem hst:zA ([]:List StD)=(0,0):=by unfold zA;simp[xS]
theorem hmay(t:TyD):yC [] t=ye 0 48 t:=by rw[yC,hst];simp
theorem Zm:ByteArray.empty.toList=[]:=by rw[ByteArray.toList_eq];rfl
theorem afb:ki zP 0 zJ=true:=by
 have h1:jQ zP zJ 0 zJ.tys=true:=by
  show((yC [] kg&&_)&&((yC [] kg&&_)&&((yC [] Qe&&_)&&true)))=true
  rw[hmay,hmay]
  kernel_rfl
 unfold ki
 rw[h1]
 show(_:Bool)=true
 kernel_rfl
theorem af9:∀p∈zJ.pts,yo zP zJ p=true:=by
 have hp:zJ.pts=[hp0,hp1,hp2,hp3]:=rfl
 rw[hp]
 intro p h
 simp only[List.mem_cons,List.not_mem_nil,or_false]at h
 rcases h with rfl|rfl|rfl|rfl
 ·have e:zz hp0 { to:=true,fr:=true,mu:=true } = true:=by
   rw[zz,kH,show hp0.sign=ByteArray.empty from rfl,Zm];kernel_rfl
  have :yo zP zJ hp0=(((((zz hp0 { to:=true,fr:=true,mu:=true } && true)&&true)&&true)&&true)&&(true&&true)):=by kernel_rfl
  rw[this,e];rfl
 ·have e:zz hp1 { to:=true,a:=true } = true:=by
   rw[zz,kH,show hp1.sign=ByteArray.empty from rfl,Zm];kernel_rfl
  have :yo zP zJ hp1=(((zz hp1 { to:=true,a:=true } && true)&&true)&&true):=by kernel_rfl
  rw[this,e];rfl
 ·have e:zz hp2 { to:=true,a:=true } = true:=by
   rw[zz,kH,show hp2.sign=ByteArray.empty from rfl,Zm];kernel_rfl
  have :yo zP zJ hp2=(((zz hp2 { to:=true,a:=true } && true)&&true)&&true):=by kernel_rfl
  rw[this,e];rfl
 ·have e:zz hp3 {} = true:=by
   rw[zz,kH,show hp3.sign=ByteArray.empty from rfl,Zm];kernel_rfl
  have :yo zP zJ hp3=zz hp3 {}:=by kernel_rfl
  rw[this,e]
theorem aga:MayU zP:=by
 refine⟨by show(zA []).2=0;rw[hst],by decide,by decide,by decide,by decide,λi hi=>?_,λg hg=>?_⟩
 ·have :i=0:=by have :zP.fs.length=1:=rfl;omega
  subst this
  exact afb
 ·rw[List.mem_singleton.1 hg]
  exact af9
theorem ack{q:Int}(h:q<4):isU zP 0 q=true:=by
 rw[isU,Xd.2 aga]
 show(true&&(true&&decide (q<4)))=true
 rw[gde h];rfl
end Go.Proofs
namespace Go.Sh
section
section
variable {P:Program} {t:TypeId} {c:Bool} {K:Value→Prop}
theorem afc{a b:Int}(k:∀x:Int,K (.int .i64 x)):opP P (ym .add t c (.int .i64 a) (.int .i64 b)) K:=
 yB (λw=>by rw[xH];simp[binOp,Op.intArith]) (k (IntKind.i64.wrap (a+b)))
end
end
end Go.Sh
namespace Go.Sh
open Go.RowKit
section
theorem aaw(z:Array Value)(n:Nat):(Go.Builtin.zeroCells z n).toList.length=n*z.size∧∀u∈(Go.Builtin.zeroCells z n).toList,u∈z.toList:=by
 refine⟨by simp[Go.Builtin.zeroCells],λu hu=>?_⟩
 simp only[Go.Builtin.zeroCells,Array.toList_map,Array.toList_range,List.mem_map,List.mem_range]at hu
 obtain⟨i,hi,rfl⟩:=hu
 have hz:0<z.size:=by
  rcases Nat.eq_zero_or_pos z.size with h|h
  ·rw[h,Nat.mul_zero]at hi;omega
  ·exact h
 have hm:=Nat.mod_lt i hz
 rw[getElem!_pos z (i%z.size) hm]
 simp
section
variable {P:Program} {X:Nat→Prop} {w0 w:World} {r:Gh} {L:List Asr} {t e T ty:TypeId} {b sz n off cap:Nat} {c z:List Value} {f:List Value→List Asr}
theorem StX.clr{K:Value→World→Prop}(S:StX X w0 r w L)[h:At b L c T f][hs:SlT P t e sz][hz:ZrT P e z](hl:off+n*z.length≤c.length)(h1:∀u∈z,u.oneCell'=true)
  (k:∀c' w',c'.length=c.length→c'.take off=c.take off→StX X w0 r w' (f c')→K (.tuple #[]) w'):opW P w (Builtin.clear_ #[t] ty #[.slice (some ⟨b,off,none⟩) n cap]) K:=by
 have hT:=hs.h
 unfold slT at hT
 cases hu:P.underlying t with
 |none=>rw [hu]at hT;cases hT
 |some d=>
  rw[hu]at hT
  cases d<;>first|(cases hT;done)|skip
  rename_i e'
  simp only[Option.map_eq_some_iff,Prod.mk.injEq]at hT
  obtain⟨m,hm,rfl,rfl⟩:=hT
  have B:=S.blk b (h:=h)
  obtain⟨zv,hzc,hzr⟩:=Zt hz.h
  cases n with
  |zero=>
   have S':StX X w0 r w (f c):=by
    obtain⟨p,q,h1,h2⟩:=h.h
    rw[h2,← h1];exact S
   refine⟨_,w,?_,k c w rfl rfl S'⟩
   simp[Builtin.clear_,run_underlying hu,Sem.run_bind,Sem.run,pure,Result.andThen]
  |succ n=>
   obtain⟨hzl,hzm⟩:=aaw zv.cells (n+1)
   have hzs:zv.cells.size=z.length:=by rw[← hzc,Array.length_toList]
   have hst:=run_storeCells_at P b off T (Go.Builtin.zeroCells zv.cells (n+1)).toList 0 c.toArray w B (by
    rw[hzl,hzs];simpa using hl) (λu hu=>h1 u (by rw[← hzc];exact hzm u hu))
   simp only[Nat.add_zero]at hst
   obtain⟨f1,f2,f3⟩:=Zu B (c.take off++(Go.Builtin.zeroCells zv.cells (n+1)).toList++c.drop (off+(Go.Builtin.zeroCells zv.cells (n+1)).toList.length))
   refine⟨_,_,?_,k _ _ ?_ ?_ (S.turnC (h:=h) f1 f3)⟩
   ·simp[Builtin.clear_,run_underlying hu,Sem.run_bind,Sem.run,pure,Result.andThen,hzr,hst]
    try rfl
   ·simp only[gla,List.length_take,List.length_drop,hzl,hzs];omega
   ·rw[List.append_assoc,List.take_append_of_le_length (by rw[List.length_take];omega),List.take_take,Nat.min_self]
end
end
end Go.Sh
namespace Go.Proofs
open Go.Sh
section
variable {r:Gh} {u:UnD} {w:World} {K:Value→World→Prop} {n:Int} {g:GrD} {c:List Value} {l:List Int} {p:Option Addr}
theorem jS{p:PtD}(h:yo u g p=true):ptG u g p=true:=by
 rw[yo,gba]at h;exact h.2
theorem agb{p:PtD}(h:yo u g p=true)(ho:1≤p.op∧p.op≤8):(zC u.ss g.tys p.to).2.2=true:=by
 have h2:=jS h
 cases hf:(zC u.ss g.tys p.to).2.2 with
 |true=>rfl
 |false=>
  have hc:p.op=1∨p.op=2∨p.op=3∨p.op=4∨p.op=5∨p.op=6∨p.op=7∨p.op=8:=by omega
  rw[ptG]at h2
  rcases hc with hc|hc|hc|hc|hc|hc|hc|hc<;>simp [hc,hf]at h2
theorem Xe{ss:List StD}{tys:List TyD}{p:PlD}(h:(zC ss tys p).2.2=true):p.ps.length≤8:=by
 unfold zC at h
 split at h
 ·simpa using h
 ·cases h
noncomputable def fnE(u:UnD)(n:Int):Int:=if (decide (n<0)||decide ((u.fs.length:Int)≤n)) || !X5 u then 2 else 0
theorem acl(h:fnE u n=0):MayU u∧0≤n∧n.toNat<u.fs.length:=by
 unfold fnE at h
 split at h
 ·cases h
 ·rename_i hc
  simp only[Bool.or_eq_true,gdt,Bool.not_eq_true',not_or,Bool.not_eq_false]at hc
  exact⟨Xd.1 hc.2,by omega,by omega⟩
noncomputable def ptE(u:UnD)(n q:Int):Int:=if fnE u n=0∧0≤q∧q<((u.fs[n.toNat]?.map λg=>(g.pts.length:Int)).getD 0)then 0 else 2
theorem ahF{q:Int}(h:ptE u n q=0):fnE u n=0∧0≤q∧∃hn:n.toNat<u.fs.length,q.toNat<u.fs[n.toNat].pts.length:=by
 unfold ptE at h
 split at h
 ·rename_i hc
  obtain⟨h1,h2,h3⟩:=hc
  have hn:=(acl h1).2.2
  rw[gqg hn]at h3
  have h3:q<(u.fs[n.toNat].pts.length:Int):=h3
  exact⟨h1,h2,hn,by omega⟩
 ·cases h
def agC:GrD:=⟨ByteArray.empty,0,[],0,[],[],[]⟩
abbrev afd:List Value:=[.string ByteArray.empty,.int .i64 0,.slice none 0 0,.int .i64 0,.slice none 0 0,.slice none 0 0,.slice none 0 0]
theorem agW:GrG r afd agC:=⟨_,_,_,_,rfl,yV,yV,yV,yV⟩
abbrev grL(g:GrD)(q1 q2 q3 q4:Option Addr)(c1 c2 c3 c4:Nat):List Value:=[.string g.name,.int .i64 g.lv,.slice q1 g.outs.length c1,.int .i64 g.pn,.slice q2 g.tys.length c2,.slice q3 g.nms.length c3,.slice q4 g.pts.length c4]
theorem QM(h:GrG r c g):∃q1 q2 q3 q4 c1 c2 c3 c4,c=grL g q1 q2 q3 q4 c1 c2 c3 c4∧GrG r (grL g q1 q2 q3 q4 c1 c2 c3 c4) g:=by
 obtain⟨vo,vt,vn,vp,rfl,k1,k2,k3,k4⟩:=id h
 obtain⟨q1,c1,rfl,_⟩:=k1.sl.shape
 obtain⟨q2,c2,rfl,_⟩:=k2.sl.shape
 obtain⟨q3,c3,rfl,_⟩:=k3.sl.shape
 obtain⟨q4,c4,rfl,_⟩:=k4.sl.shape
 exact⟨q1,q2,q3,q4,c1,c2,c3,c4,rfl,h⟩
theorem ad7{n:Int}{v:Value}{K:Value→World→Prop}(hr:Holds r w)(hu:UnG r v u)
  (h:∀c g w',Ext w w'→GrG r c g→(fnE u n=0→u.fs[n.toNat]? = some g)→(fnE u n≠0→g.pts=[])→K (.tuple #[.agg c.toArray,.int .i64 (fnE u n)]) w'):zb Tryz.prog Tryz.Y4 #[v,.int .i64 n] w K:=by
 refine Tryz.acV ?_
 unfold Tryz.Vr
 have hu0:=hu
 obtain⟨p0,cap0,vf,rfl,_,_,hst,hsl,hfn⟩:=hu
 obtain⟨qf,capf,rfl,_,_⟩:=hfn.sl.shape
 have hfl:u.fs.length≤9223372036854775807:=hfn.few
 have S:=St.start hr
 refine S.box λb2 w1 S=>?_
 have S:StX noX w r w1 [.cell b2 [.slice p0 u.ss.length cap0,.slice qf u.fs.length capf,.int .i64 u.mn] 25]:=S
 refine S.al λb4 w2 S=>?_
 refine gp_ ?_
 refine zq (c:=decide ((u.fs.length:Int)≤n)) (λ_ K2 hK2=>by refine gg_ ?_;exact hK2) ?_
 refine qw (c:=!X5 u) (λ_ K2 hK2=>?_) λw3 e3=>?_
 ·refine S.ldB (b:=b2) ?_ rfl
  refine Jk S.holds hu0 λw3 e3=>?_
  refine gp_ ?_
  exact hK2 _ e3
 have S:=S.go e3
 refine c_b (λhb=>?_) (λhb=>?_)
 ·have hE:fnE u n=2:=by rw[fnE,if_pos hb]
  rw[hE]at h
  refine zu (cs:=afd.toArray) (by kernel_rfl) ?_
  refine S.stB (b:=b4) λw4 S=>?_
  refine S.ceB (b:=b4) ?_ rfl
  exact h _ agC _ S.ext agW (λh=>by cases h) λ_=>rfl
 ·have hE:fnE u n=0:=by rw[fnE,if_neg (by rw[hb];decide)]
  obtain⟨_,hn0,hlt⟩:=acl hE
  rw[hE]at h
  obtain⟨bf,of,cf,rfl,hcf,hgc,hfo⟩:=hfn.sl.get (by decide) hlt
  rw[gqg hlt]at h
  generalize u.fs[n.toNat]=g at h hgc
  obtain⟨x1,x2,x3,x4,y1,y2,y3,y4,rfl,hg0⟩:=QM hgc
  refine gg_ ?_
  refine zt (n:=7) hcf (λj v hj=>S.at (hfo j v hj)) ?_
  refine S.stB (b:=b4) λw4 S=>?_
  refine S.ceB (b:=b4) ?_ rfl
  exact h _ g _ S.ext hg0 (λ_=>rfl) λh=>absurd rfl h
theorem abq{n q:Int}{v:Value}{K:Value→World→Prop}(hr:Holds r w)(hu:UnG r v u)
  (h:∀c p w',Ext w w'→PtG r c p→(ptE u n q=0→Qd u n q=some p)→K (.tuple #[.agg c.toArray,.int .i64 (ptE u n q)]) w'):zb Tryz.prog Tryz.vM #[v,.int .i64 n,.int .i64 q] w K:=by
 refine Tryz.aaf ?_
 unfold Tryz.Xs
 have hu0:=hu
 obtain⟨p0,cap0,vf,rfl,_,_,hst,hsl,hfn⟩:=hu
 obtain⟨qf,capf,rfl,_,_⟩:=hfn.sl.shape
 have S:=St.start hr
 refine S.box λb3 w1 S=>?_
 have S:StX noX w r w1 [.cell b3 [.slice p0 u.ss.length cap0,.slice qf u.fs.length capf,.int .i64 u.mn] 25]:=S
 refine S.al λb6 w2 S=>?_
 refine S.ldB (b:=b3) ?_ rfl
 refine ad7 S.holds hu0 λc g w3 e3 hg hgi _=>?_
 have S:=S.go e3
 obtain⟨x1,x2,x3,x4,y1,y2,y3,y4,rfl,hg0⟩:=QM hg
 refine gS_ ?_
 refine S.al λb8 w4 S=>?_
 refine S.stB (b:=b8) λw5 S=>?_
 refine gp_ ?_
 refine zq (c:=decide (q<0)) (λ_ K2 hK2=>by refine gg_ ?_;exact hK2) ?_
 refine zq (c:=decide ((g.pts.length:Int)≤q)) (λ_ K2 hK2=>by refine gg_ ?_;exact hK2) ?_
 have hP:ptE u n q=if ((decide (fnE u n≠0)||decide (q<0))||decide ((g.pts.length:Int)≤q))=true then 2 else 0:=by
  unfold ptE
  by_cases h0:fnE u n=0
  ·have e:((u.fs[n.toNat]?.map λg=>(g.pts.length:Int)).getD 0)=g.pts.length:=by rw[hgi h0];rfl
   rw[e]
   by_cases h1:q<0
   ·rw[if_neg (by omega),if_pos (by rw[gde h1];simp)]
   by_cases h2:(g.pts.length:Int)≤q
   ·rw[if_neg (by omega),if_pos (by rw[gde h2];simp)]
   ·rw[if_pos ⟨h0,by omega,by omega⟩,if_neg (by rw[decide_eq_false (show¬fnE u n≠0 by omega),decide_eq_false h1,decide_eq_false h2];decide)]
  ·rw[if_neg (λhh=>h0 hh.1),if_pos (by rw[gde (show fnE u n≠0 from h0)];rfl)]
 refine c_b (λhb=>?_) (λhb=>?_)
 ·rw[if_pos hb]at hP
  rw[hP]at h
  refine zu (cs:=adk.toArray) (by kernel_rfl) ?_
  refine S.stB (b:=b6) λw6 S=>?_
  refine S.ceB (b:=b6) ?_ rfl
  exact h _ afa _ S.ext af7 λh=>by cases h
 ·rw[if_neg (by rw[hb];decide)]at hP
  rw[hP]at h
  simp only[Bool.or_eq_false_iff,decide_eq_false_iff_not]at hb
  obtain⟨⟨hf,hq0⟩,hql⟩:=hb
  have hgn:=hgi (by omega)
  obtain⟨_,_,_,_,hE,_,_,_,hpts⟩:=hg0
  cases hE
  have hlq:q.toNat<g.pts.length:=by omega
  obtain⟨bp,op,cp,rfl,hcp,hpc,hpo⟩:=hpts.sl.get (by decide) hlq
  have hpa:Qd u n q=some g.pts[q.toNat]:=by rw[Qd,hgn,Option.bind_some,gqg hlq]
  rw[hpa]at h
  generalize g.pts[q.toNat]=p at h hpc
  obtain⟨z1,z2,z3,z4,z5,t1,t2,t3,t4,t5,rfl,hp0⟩:=jd hpc
  refine gg_ ?_
  refine zt (n:=21) hcp (λj v hj=>S.at (hpo j v hj)) ?_
  refine S.stB (b:=b6) λw6 S=>?_
  refine S.ceB (b:=b6) ?_ rfl
  exact h _ p _ S.ext hp0 λ_=>rfl
theorem afe{n cap:Nat}(h:SlB 1 r yN (.slice p n cap) l):Ob r λw=>Sl w p (ints l):=agV (h.sl.mono λc x hx=>hx.1)
theorem aff(h:∀x∈l,Y8 x):RowOf 1 yN (ints l) l:=⟨by rw[ke,Nat.mul_one],λj hj=>by
 refine⟨?_,h _ (gem hj)⟩
 rw[Nat.mul_one,ints,← List.map_drop,← List.map_take,List.drop_eq_getElem_cons hj];rfl⟩
theorem Jl{cap:Nat}{K:Value→World→Prop}(hr:Holds r w)(hl:SlB 1 r yN (.slice p l.length cap) l)(hb:l.length≤1000000)
  (h:∀v' s w',Ext w w'→New w s w'→SlB 1 s yN v' l→K v' w'):zb Tryz.prog Tryz.z6 #[.slice p l.length cap] w K:=by
 refine Tryz.qx ?_
 unfold Tryz.xk
 have S:=St.start hr
 have hin:∀x∈l,Y8 x:=λx hx=>by
  obtain⟨i,hi,rfl⟩:=List.getElem_of_mem hx
  obtain⟨_,_,_,_,_,hc,_⟩:=hl.sl.get (by decide) hi
  exact hc.2
 obtain⟨_,_,hE,hp,_⟩:=hl.sl.shape
 cases hE
 refine afK (e:=76) (n:=1) (by kernel_rfl) ?_
 refine c_b (λhn=>?_) (λhn=>?_)
 ·have hws:l=[]:=by
   cases l with
   |nil=>rfl
   |cons a l=>obtain ⟨b,off,hb,_⟩:=(afe hl w hr) 0 (.int .i64 a) rfl;rw[hb]at hn;cases hn
  subst hws
  exact h _ nothing _ S.ext New.nothing yV
 refine S.lit (e:=76) (cs:=[]) (by kernel_rfl) λb w1 S=>?_
 have S:StX noX w r w1 [.row (.slice (some ⟨b,0,none⟩) 0 0) 76 1 0 []]:=by
  refine⟨S.x,S.holds,λx hx=>?_,λx hx k hk=>?_,List.pairwise_singleton _ _⟩
  ·rw[List.mem_singleton.1 hx]
   have:=jj (w:=w1) (base:=0) (size:=1) (n:=0) (cap:=0) (gzl _) (S.has (.cell b [] 76) (by simp)) (Nat.le_refl _) (by simp[maxLen]) rfl
   exact this
  ·rw[List.mem_singleton.1 hx]at hk
   exact S.mine (.cell b [] 76) (by simp) k (by cases hk;rfl)
 refine S.ap (v:=.slice (some ⟨b,0,none⟩) 0 0) (S.at (afe hl)) (λv2 w2 S=>?_) (by omega) (by rw[ke];omega) hp (aeE _)
 obtain⟨s,S,hs,_,ha⟩:=S.doneRow (l:=l) (R:=yN) (sz:=1) (by rw[List.nil_append];exact aff hin) (by decide) (by omega)
 exact h _ s _ S.ext (S.newOf λb o ho=>(ha b o ho).resolve_right id) ⟨hs,by simp only[maxLen];omega⟩
theorem JT{p:PlD}{K:Value→World→Prop}(hr:Holds r w)(hp:PlG r c p)(hb:p.ps.length≤1000000)
  (h:∀c' s w',Ext w w'→New w s w'→PlG s c' p→K (.agg c'.toArray) w'):zb Tryz.prog Tryz.qM #[.agg c.toArray] w K:=by
 refine Tryz.QS ?_
 unfold Tryz.ZE
 obtain⟨v,rfl,hl⟩:=hp
 obtain⟨qs,caps,rfl,_,_⟩:=hl.sl.shape
 have S:=St.start hr
 refine S.box λb1 w1 S=>?_
 have S:StX noX w r w1 [.cell b1 [.int .i64 p.l,.slice qs p.ps.length caps] 59]:=S
 refine S.al λb2 w2 S=>?_
 have S:=S.go (Ext.drew _)
 refine gg_ ?_
 refine Jl S.holds hl hb λv3 s w3 e3 n3 h3=>⟨e3,?_⟩
 obtain⟨S,d3,a3⟩:=S.tell e3 n3
 obtain⟨q3,c3,rfl,_,_⟩:=h3.sl.shape
 refine zu (cs:=#[.int .i64 p.l,.slice q3 p.ps.length c3]) (by kernel_rfl) ?_
 refine S.stB (b:=b2) λw4 S=>?_
 refine S.ceB (b:=b2) ?_ rfl
 exact h _ s _ S.ext (S.newOf a3) ⟨_,rfl,h3⟩
theorem Qf{o:OpD}{K:Value→World→Prop}(hr:Holds r w)(ho:OpG r c o)(hb:o.pl.ps.length≤1000000)
  (h:∀c' s w',Ext w w'→New w s w'→OpG s c' o→K (.agg c'.toArray) w'):zb Tryz.prog Tryz.kL #[.agg c.toArray] w K:=by
 refine Tryz.XH ?_
 unfold Tryz.vz
 obtain⟨v,rfl,hl⟩:=ho
 obtain⟨qs,caps,rfl,_,_⟩:=hl.sl.shape
 have S:=St.start hr
 refine S.box λb1 w1 S=>?_
 have S:StX noX w r w1 [.cell b1 [.int .u8 o.k,.int .i64 o.n,.int .i64 o.pl.l,.slice qs o.pl.ps.length caps] 61]:=S
 refine S.al λb2 w2 S=>?_
 refine gg_ ?_
 refine S.ldN (b:=b1) ?_
 refine JT (p:=o.pl) S.holds ⟨_,rfl,hl⟩ hb λc3 s w3 e3 n3 h3=>?_
 obtain⟨S,d3,a3⟩:=S.tell e3 n3
 obtain⟨v3,rfl,hl3⟩:=h3
 obtain⟨q3,k3,rfl,_,_⟩:=hl3.sl.shape
 refine gg_ ?_
 refine S.stN (b:=b1) λw4 S=>?_
 refine S.ldB (b:=b1) ?_ rfl
 refine S.stB (b:=b2) λw5 S=>?_
 refine S.ceB (b:=b2) ?_ rfl
 exact h _ s _ S.ext (S.newOf a3) ⟨_,rfl,hl3⟩
end
end Go.Proofs
namespace Go.Sh
open Go.RowKit
section
section
variable {P:Program} {X:Nat→Prop} {w0 w:World} {r:Gh} {L:List Asr} {α:Type} {sz n:Nat} {R:List Value→α→Prop} {l:List α} {e:TypeId} {p:Option Addr} {cap:Nat}
theorem QN(hz:0<sz)(h:SlG sz r R (.slice p n cap) l):∃xs,RowOf sz R xs l∧Ob r λw=>Sl w p xs:=by
 have key:∀k,k≤l.length→∃xs,RowOf sz R xs (l.take k)∧Ob r λw=>Sl w p xs:=by
  intro k
  induction k with
  |zero=>intro _;exact⟨[],by rw[List.take_zero];exact RowOf.nil,λw _=>Sl.nil w _⟩
  |succ k ih=>
   intro hk
   obtain⟨xs,h1,h2⟩:=ih (by omega)
   obtain⟨b,off,c,rfl,hc,hcc,hcell⟩:=h.get hz (show k<l.length by omega)
   have hxl:xs.length=k*sz:=by rw[h1.1,List.length_take,Nat.min_eq_left (by omega)]
   refine⟨xs++c,by rw[List.take_succ_eq_append_getElem (by omega)];exact h1.snoc hc hcc,λw hw i v hi=>?_⟩
   by_cases hlt:i<xs.length
   ·rw[List.getElem?_append_left hlt]at hi;exact h2 w hw i v hi
   ·rw[List.getElem?_append_right (by omega)]at hi
    have:=hcell _ v hi w hw
    exact⟨b,off,rfl,by rwa[show off+k*sz+(i-xs.length)=off+i by omega]at this⟩
 have:=key l.length (Nat.le_refl _)
 rwa[List.take_length]at this
theorem jC{xs:List Value}(h:RowOf sz R xs l)(hz:0<sz)(h1:∀c x,R c x→∀u∈c,u.oneCell'=true):∀u∈xs,u.oneCell'=true:=λu hu=>by
 obtain⟨i,hi,rfl⟩:=List.getElem_of_mem hu
 have hj:i/sz<l.length:=by
  rw[h.1]at hi
  exact Nat.div_lt_of_lt_mul (by rw[Nat.mul_comm];exact hi)
 refine h1 _ _ (h.2 _ hj) _ ?_
 have hm:=Nat.mod_lt i hz
 have hd:=Nat.div_add_mod i sz
 refine List.mem_of_getElem? (i:=i%sz) ?_
 rw[List.getElem?_take,if_pos hm,List.getElem?_drop,show i/sz*sz+i%sz=i by rw[Nat.mul_comm];exact hd,gqg hi]
theorem StX.cellRow{b:Nat}{c:List Value}(S:StX X w0 r w (.cell b c e::L))(hn:n≤cap)(hc:c.length=cap*sz)(hm:cap≤maxLen):StX X w0 r w (.row (.slice (some ⟨b,0,none⟩) n cap) e sz n (c.take (n*sz))::L):=by
 have:=jj (w:=w) (base:=0) (size:=sz) (n:=n) (cap:=cap) (gzl _) (S.has (.cell b c e) List.mem_cons_self) hn hm hc
 exact S.turn (p:=[]) (x:=.cell b c e) (y:=.row (.slice (some ⟨b,0,none⟩) n cap) e sz n (c.take (n*sz))) (ExtBut.refl _ _) this λk hk=>.inl (by cases hk;rfl)
end
end
end Go.Sh
namespace Go.Proofs
open Go.Sh
theorem je{r:Gh}{c:List Value}{o:OpD}(h:OpG r c o):∃q k,c=[.int .u8 o.k,.int .i64 o.n,.int .i64 o.pl.l,.slice q o.pl.ps.length k]:=by
 obtain⟨v,rfl,hl⟩:=h
 obtain⟨q,k,rfl,_⟩:=hl.sl.shape
 exact⟨q,k,rfl⟩
theorem zZ{r:Gh}{c:List Value}{o:OpD}(h:OpG r c o):c.length=4:=by obtain⟨q,k,rfl⟩:=je h;rfl
theorem jT{r:Gh}{c:List Value}{o:OpD}(h:OpG r c o):∀u∈c,u.oneCell'=true:=by obtain⟨q,k,rfl⟩:=je h;simp[Value.oneCell']
def yk(o:OpD):Bool:=decide (o.k≠0)
def opersG(p:PtD):List OpD:=(p.a::p.b::p.args).filter yk
abbrev ad8:Value:=.func (.func Tryz.vu) #[] #[]
theorem Qg{o:OpD}{c:List Value}{w0 w:World}{r:Gh}{L:List Asr}{K:Value→World→Prop}(S:StX noX w0 r w L)(ho:OpG r c o)
  (h:∀w',StX noX w0 r w' L→K (.bool (decide (o.k=0))) w'):zx Tryz.prog ad8 #[.agg c.toArray] w K:=by
 refine abD (by kernel_rfl) ?_
 refine Tryz.XI ?_
 unfold Tryz.vA
 obtain⟨q,k,rfl⟩:=je ho
 refine S.box λb1 w1 S=>?_
 have S:StX noX w0 r w1 (.cell b1 [.int .u8 o.k,.int .i64 o.n,.int .i64 o.pl.l,.slice q o.pl.ps.length k] 61::L):=S
 refine gg_ ?_
 exact h _ S.tl
abbrev yE(c:List Value)(i:Nat):List Value:=(c.drop (i*4)).take 4
theorem aax{l:List OpD}{b n cap:Nat}{c:List Value}{w0 w:World}{r:Gh}{L:List Asr}{K:Value→World→Prop}(S:StX noX w0 r w (.cell b c 61::L))(hn:n=l.length)(hb:n≤1000000)
  (hrow:∀(i:Nat)(hi:i<l.length),OpG r (yE c i) l[i])
  (h:∀(i:Int) w',StX noX w0 r w' (.cell b c 61::L)→(i = -1∧(∀o∈l,o.k≠0))∨(∃j:Nat,i=j∧∃hj:j<l.length,l[j].k=0∧∀o∈l.take j,o.k≠0)→K (.int .i64 i) w'):
  zb Tryz.prog Tryz.zH #[.slice (some ⟨b,0,none⟩) n cap,ad8] w K:=by
 subst hn
 refine Tryz.yr ?_
 unfold Tryz.zV
 refine gp_ ?_
 refine zj (ι:=Nat) (λi=>[.int .i64 (i:Nat)]) (λi w'=>i≤l.length∧(∀o∈l.take i,o.k≠0)∧StX noX w0 r w' (.cell b c 61::L)) (λi=>l.length-i) 0 rfl ⟨gzl _,by simp,S⟩ ?_
 clear S
 rintro i d w' ⟨hi,hno,S⟩ K6 hK6
 rw[gdz]
 refine gp_ ?_
 refine zh (λhlt=>?_) (λhge=>?_)
 ·have hlt:i<l.length:=by omega
  have hr:=hrow i hlt
  refine s_c (by omega) ?_
  rw[show 0+((i:Nat):Int).toNat*4=i*4 by omega]
  refine S.ldN (b:=b) (vs:=yE c i) ?_ rfl (zZ hr)
  refine Qg S hr λw2 S=>?_
  refine zh (λhk=>?_) (λhk=>?_)
  ·exact h _ _ S (.inr ⟨i,rfl,hlt,hk,hno⟩)
  ·refine gp_ ?_
   rw[show ((i:Int)+1)=((i+1:Nat):Int)by omega]
   refine hK6 (i+1) _ ⟨hlt,λo ho=>?_,S⟩ (by omega)
   rw[List.take_succ_eq_append_getElem hlt,List.mem_append]at ho
   rcases ho with ho|ho
   ·exact hno o ho
   ·rw[List.mem_singleton.1 ho];exact hk
 ·have hie:i=l.length:=by omega
  rw[hie,List.take_length]at hno
  exact h _ _ S (.inl ⟨rfl,hno⟩)
theorem adl{o:OpD}(h:o.k=0):[o].filter yk=[]:=by simp[yk,h]
theorem agc{o:OpD}(h:o.k≠0):[o].filter yk=[o]:=by simp[yk,h]
theorem Xf{l:List OpD}(h:∀o∈l,o.k≠0):l.filter yk=l:=List.filter_eq_self.2 λo ho=>gde (h o ho)
theorem aay{c cs:List Value}{i m:Nat}(hc:i*4+4≤c.length)(hl:cs.length=4)(hm:i<m):yE (c.take (i*4)++cs++c.drop (i*4+4)) m=yE c m:=by
 have e:(c.take (i*4)++cs++c.drop (i*4+4)).drop (m*4)=c.drop (m*4):=by
  rw[List.drop_append,List.drop_of_length_le (by rw[gla,List.length_take,hl];omega),List.nil_append,gla,List.length_take,hl,List.drop_drop]
  congr 1;omega
 rw[yE,e]
theorem aaz{c cs:List Value}{i:Nat}(hc:i*4+4≤c.length)(hl:cs.length=4):(c.take (i*4)++cs++c.drop (i*4+4)).take ((i+1)*4)=c.take (i*4)++cs:=by
 rw[List.take_append_of_le_length (by rw[gla,List.length_take,hl];omega),List.take_of_length_le (by rw[gla,List.length_take,hl];omega)]
theorem VK{l:List OpD}{b n cap:Nat}{c:List Value}{w0 w:World}{r:Gh}{L:List Asr}{K:Value→World→Prop}(S:StX noX w0 r w (.cell b c 61::L))(hn:n=l.length)(hb:n≤1000000)(hnc:n≤cap)(hc:c.length=cap*4)
  (hrow:∀(i:Nat)(hi:i<l.length),OpG r (yE c i) l[i])
  (h:∀c' w',StX noX w0 r w' (.cell b c' 61::L)→c'.length=cap*4→RowOf 4 (OpG r) (c'.take ((l.filter yk).length*4)) (l.filter yk)→K (.slice (some ⟨b,0,none⟩) (l.filter yk).length cap) w'):
  zb Tryz.prog Tryz.zy #[.slice (some ⟨b,0,none⟩) n cap,ad8] w K:=by
 subst hn
 refine Tryz.yn ?_
 unfold Tryz.zS
 have hrow0:∀k,k≤l.length→RowOf 4 (OpG r) (c.take (k*4)) (l.take k):=λk hk=>⟨by rw[List.length_take,List.length_take];omega,λi hi=>by
  rw[List.length_take]at hi
  rw[List.getElem_take,List.drop_take,List.take_take,Nat.min_eq_left (by omega)]
  exact hrow i (by omega)⟩
 refine aax S rfl hb hrow λi0 w1 S hi0=>?_
 refine gp_ ?_
 rcases hi0 with⟨rfl,hall⟩|⟨j,rfl,hj,hjk,hbef⟩
 ·refine c_t (by decide) ?_
  have:=h c w1 S hc (by rw[Xf hall];have:=hrow0 l.length (Nat.le_refl _);rwa[List.take_length]at this)
  rw[Xf hall]at this
  exact this
 refine c_f (decide_eq_false (by omega)) ?_
 refine gp_ ?_
 have hf0:(l.take j).filter yk=l.take j:=Xf hbef
 have hf1:(l.take (j+1)).filter yk=l.take j:=by
  rw[List.take_succ_eq_append_getElem hj,List.filter_append,hf0,adl hjk,List.append_nil]
 refine zj (ι:=Nat×Nat×List Value) (λi=>[.int .i64 (i.1:Nat),.int .i64 (i.2.1:Nat)]) (λi w'=>i.1<i.2.1∧i.2.1≤l.length∧i.1=((l.take i.2.1).filter yk).length∧i.2.2.length=cap*4∧RowOf 4 (OpG r) (i.2.2.take (i.1*4)) ((l.take i.2.1).filter yk)∧
  (∀(m:Nat)(hm:m<l.length),i.2.1≤m→OpG r (yE i.2.2 m) l[m])∧StX noX w0 r w' (.cell b i.2.2 61::L)) (λi=>l.length-i.2.1) (j,j+1,c) (by simp) ⟨by simp,hj,by rw[hf1,List.length_take];omega,hc,by rw[hf1];exact hrow0 j (by omega),λm hm _=>hrow m hm,S⟩ ?_
 clear S
 rintro⟨i,k,c1⟩ d w2 ⟨hik,hk,hie,hc1,hr1,hrest,S⟩ K2 hK2
 simp only at hik hk hie hc1 hr1 hrest S⊢
 simp only[gdz,gds]
 refine gp_ ?_
 refine gp_ ?_
 refine zh (λhlt=>?_) (λhge=>?_)
 ·have hlt:k<l.length:=by omega
  have hrk:=hrest k hlt (Nat.le_refl _)
  have hs:l.take (k+1)=l.take k++[l[k]]:=List.take_succ_eq_append_getElem hlt
  refine zs (λs w'=>∃i' c',s=[.int .i64 (i':Nat)]∧i'<k+1∧i'=((l.take (k+1)).filter yk).length∧c'.length=cap*4∧RowOf 4 (OpG r) (c'.take (i'*4)) ((l.take (k+1)).filter yk)∧
   (∀(m:Nat)(hm:m<l.length),k+1≤m→OpG r (yE c' m) l[m])∧StX noX w0 r w' (.cell b c' 61::L)) (λK6 hK6=>?_) ?_
  rotate_left
  ·rintro _ w3 ⟨i',c',rfl,g1,g2,g3,g4,g5,S⟩ d3
   rw[gdz]
   refine gp_ ?_
   rw[show ((k:Int)+1)=((k+1:Nat):Int)by omega]
   exact hK2 (i',k+1,c') _ ⟨g1,hlt,g2,g3,g4,g5,S⟩ (by show l.length-(k+1)<l.length-k;omega)
  refine s_c (by omega) ?_
  rw[show 0+((k:Nat):Int).toNat*4=k*4 by omega]
  refine S.ldN (b:=b) (vs:=yE c1 k) ?_ rfl (zZ hrk)
  refine S.al λb7 w3 S=>?_
  refine S.stB (b:=b7) (cs:=(yE c1 k).toArray) (λw4 S=>?_) rfl (by simpa using zZ hrk) (by simpa using jT hrk)
  have S:StX noX w0 r w4 (.cell b7 (yE c1 k) 61::.cell b c1 61::L):=S
  refine S.ldB (b:=b7) ?_ (zZ hrk)
  refine Qg S hrk λw5 S=>?_
  refine gp_ ?_
  by_cases hk0:l[k].k=0
  ·refine c_f (by rw[gde hk0];rfl) ?_
   have hfe:(l.take (k+1)).filter yk=(l.take k).filter yk:=by
    rw[hs,List.filter_append,adl hk0,List.append_nil]
   refine hK6 _ _ ⟨i,c1,rfl,by omega,by rw[hfe];exact hie,hc1,by rw[hfe];exact hr1,λm hm hkm=>hrest m hm (by omega),S.tl⟩
  ·refine c_t (by rw[decide_eq_false hk0];rfl) ?_
   have hfe:(l.take (k+1)).filter yk=(l.take k).filter yk++[l[k]]:=by
    rw[hs,List.filter_append,agc hk0]
   refine S.ldB (b:=b7) ?_ (zZ hrk)
   refine s_c (by omega) ?_
   rw[show 0+((i:Nat):Int).toNat*4=i*4 by omega]
   refine S.stN (b:=b) (cs:=(yE c1 k).toArray) (λw6 S=>?_) (by omega) (by simpa using zZ hrk) (by simpa using jT hrk)
   have S:StX noX w0 r w6 (.cell b7 (yE c1 k) 61::.cell b (c1.take (i*4)++yE c1 k++c1.drop (i*4+4)) 61::L):=S
   refine gp_ ?_
   rw[show ((i:Int)+1)=((i+1:Nat):Int)by omega]
   refine hK6 _ _ ⟨i+1,c1.take (i*4)++yE c1 k++c1.drop (i*4+4),rfl,by omega,by rw[hfe,gla,← hie];rfl,?_,?_,λm hm hkm=>?_,S.tl⟩
   ·rw[gla,gla,List.length_take,List.length_drop,zZ hrk];omega
   ·rw[aaz (by omega) (zZ hrk),hfe]
    exact hr1.snoc (zZ hrk) hrk
   ·rw[aay (by omega) (zZ hrk) (by omega)]
    exact hrest m hm (by omega)
 ·have hke:k=l.length:=by omega
  rw[hke,List.take_length]at hie hr1
  refine s_c (by omega) ?_
  rw[if_neg (by omega),Option.map_some,yS,tnc,Nat.zero_add]
  refine S.clr (b:=b) (by
   have e:(List.length [Value.int .u8 0,Value.int .i64 0,Value.int .i64 0,Value.slice none 0 0])=4:=rfl
   rw[e];omega) (by simp[Value.oneCell']) λc2 w3 hc2 ht2 S=>?_
  refine s_c (by omega) ?_
  rw[tnc,hie]
  exact h c2 w3 S (by omega) (by rw[← hie,ht2];exact hr1)
theorem JU{p:PtD}{c:List Value}{w:World}{r:Gh}{K:Value→World→Prop}(hr:Holds r w)(hp:PtG r c p)(hb:p.args.length≤1000)
  (h:∀b cap c' w',StX noX w r w' [.cell b c' 61]→c'.length=cap*4→(opersG p).length≤cap→RowOf 4 (OpG r) (c'.take ((opersG p).length*4)) (opersG p)→K (.slice (some ⟨b,0,none⟩) (opersG p).length cap) w'):
  zb Tryz.prog Tryz.qN #[.agg c.toArray] w K:=by
 refine Tryz.QT ?_
 unfold Tryz.ZF
 obtain⟨q1,q2,q3,q4,q5,c1,c2,c3,c4,c5,rfl,hp0⟩:=jd hp
 obtain⟨_,_,_,_,_,hE,k1,k2,k3,k4,k5⟩:=hp0
 cases hE
 have S:=St.start hr
 refine S.box λb1 w1 S=>?_
 have S:StX noX w r w1 [.cell b1 (ptL p q1 q2 q3 q4 q5 c1 c2 c3 c4 c5) 94]:=S
 have hoa:OpG r [.int .u8 p.a.k,.int .i64 p.a.n,.int .i64 p.a.pl.l,.slice q2 p.a.pl.ps.length c2] p.a:=⟨_,rfl,k2⟩
 have hob:OpG r [.int .u8 p.b.k,.int .i64 p.b.n,.int .i64 p.b.pl.l,.slice q3 p.b.pl.ps.length c3] p.b:=⟨_,rfl,k3⟩
 refine gg_ ?_
 refine S.ldN (b:=b1) ?_
 refine gg_ ?_
 refine S.ldN (b:=b1) ?_
 refine S.lit (e:=61) (cs:=[.int .u8 p.a.k,.int .i64 p.a.n,.int .i64 p.a.pl.l,.slice q2 p.a.pl.ps.length c2]++[.int .u8 p.b.k,.int .i64 p.b.n,.int .i64 p.b.pl.l,.slice q3 p.b.pl.ps.length c3]) (by kernel_rfl) λb8 w2 S=>?_
 have S:=S.cellRow (n:=2) (cap:=2) (sz:=4) (Nat.le_refl _) rfl (by simp[maxLen])
 obtain⟨xs,hxr,hxs⟩:=QN (by decide) k4.sl
 obtain⟨_,_,hE,hq4,_⟩:=k4.sl.shape
 cases hE
 refine gg_ ?_
 refine S.ap (v:=.slice (some ⟨b8,0,none⟩) 2 2) (S.at hxs) (λv3 w3 S=>?_) (by omega) hxr.1 hq4 (jC hxr (by decide) λc x hx=>jT hx)
 obtain⟨b9,cap9,c9,rfl,hc9,hcl9,htk9,S⟩:=S.rowCell v3 (by omega)
 have hlen:(p.a::p.b::p.args).length=2+p.args.length:=by simp;omega
 have hrw:RowOf 4 (OpG r) (c9.take ((2+p.args.length)*4)) (p.a::p.b::p.args):=by
  rw[htk9]
  exact yI (c:=[.int .u8 p.a.k,.int .i64 p.a.n,.int .i64 p.a.pl.l,.slice q2 p.a.pl.ps.length c2]) rfl hoa (yI (c:=[.int .u8 p.b.k,.int .i64 p.b.n,.int .i64 p.b.pl.l,.slice q3 p.b.pl.ps.length c3]) rfl hob hxr)
 refine VK (l:=p.a::p.b::p.args) (L:=[.cell b1 (ptL p q1 q2 q3 q4 q5 c1 c2 c3 c4 c5) 94]) S hlen.symm (by omega) hc9 hcl9 (λi hi=>?_) λc' w4 S hc' hrow=>?_
 ·have:=hrw.2 i hi
  rw[List.drop_take,List.take_take,Nat.min_eq_left (by omega)]at this
  exact this
 have hle:(opersG p).length≤cap9:=by
  have:=List.length_filter_le yk (p.a::p.b::p.args)
  show((p.a::p.b::p.args).filter yk).length≤cap9
  omega
 exact h b9 cap9 c' w4 (S.less (λ_ _ h=>h) (.cons_cons _ (List.nil_sublist _))) hc' hle hrow
section
variable {u:UnD} {p:PtD} {o:OpD} {g:GrD} {ss:List StD} {tys:List TyD}
theorem Xg{ss:List StD}{tys:List TyD}:∀{l:List OpD}{ts:List TyD},kh ss tys l ts=true→l.length=ts.length∧∀(i:Nat)(hi:i<l.length)(hj:i<ts.length),(yb ss tys l[i]).2=true∧yy xm (yb ss tys l[i]).1 ts[i]=true
 |[],[],_=>⟨rfl,λi hi=>absurd hi (Nat.not_lt_zero _)⟩
 |[],_::_,h=>by cases h
 |_::_,[],h=>by cases h
 |o::l,t::r,h=>by
  rw[Xb,gba,gba]at h
  obtain⟨h1,h2⟩:=Xg h.2
  refine⟨by simp[h1],λi hi hj=>?_⟩
  cases i with
  |zero=>exact h.1
  |succ i=>exact h2 i (by simpa using hi) (by simpa using hj)
theorem ad9(h:(yb ss tys o).2=true):o.pl.ps.length≤8:=by
 unfold yb at h
 split at h
 ·simp only[xN,gba,gdt]at h;omega
 split at h
 ·simp only[xN,gba,gdt]at h;omega
 split at h
 ·simp only[gba]at h;exact Xe h.1.1
 split at h
 ·simp only[gba]at h;exact Xe h.1.1.1
 ·cases h
theorem afg(h:(yb ss tys o).2=true)(hk:o.k=3∨o.k=4):(zC ss tys o.pl).2.2=true∧(yb ss tys o).1=(zC ss tys o.pl).1:=by
 unfold yb at h⊢
 rw[if_neg (by omega),if_neg (by omega)]at h⊢
 rcases hk with hk|hk
 ·rw[if_pos hk]at h⊢
  simp only[gba]at h
  exact⟨h.1.1,rfl⟩
 ·rw[if_neg (by omega),if_pos hk]at h⊢
  simp only[gba]at h
  exact⟨h.1.1.1,rfl⟩
theorem agX(h:o.k≠0):Y9 o=false:=by rw[Y9,decide_eq_false h];rfl
theorem Yv(h:ptG u g p=true):1≤p.op∧p.op≤14:=by
 refine Classical.byContradiction λhc=>?_
 rw[ptG]at h
 rw[if_neg (by omega),if_neg (by omega),if_neg (by omega),if_neg (by omega),if_neg (by omega),if_neg (by omega),if_neg (by omega),if_neg (by omega),if_neg (by omega),if_neg (by omega),if_neg (by omega),if_neg (by omega),if_neg (by omega)]at h
 cases h
theorem aa2(h:yo u g p=true):∀o∈opersG p,(yb u.ss g.tys o).2=true:=by
 have h2:=jS h
 intro o ho
 rw[opersG,List.mem_filter,yk,gdt]at ho
 obtain⟨hm,hk⟩:=ho
 have hn:=agX hk
 have hc:p.op=1∨p.op=2∨p.op=3∨p.op=4∨p.op=5∨p.op=6∨p.op=7∨p.op=8∨p.op=9∨p.op=10∨p.op=11∨p.op=12∨p.op=13∨p.op=14:=by
  have:=Yv h2
  omega
 cases hf:(yb u.ss g.tys o).2 with
 |true=>rfl
 |false=>
  exfalso
  rw[List.mem_cons,List.mem_cons]at hm
  rw[ptG]at h2
  rcases hm with rfl|rfl|hm
  ·rcases hc with hc|hc|hc|hc|hc|hc|hc|hc|hc|hc|hc|hc|hc|hc<;>simp [hc,hf,hn,zz,kH]at h2
  ·rcases hc with hc|hc|hc|hc|hc|hc|hc|hc|hc|hc|hc|hc|hc|hc<;>simp [hc,hf,hn,zz,kH]at h2
  ·have hne:p.args.length≠0:=λh0=>by rw[List.eq_nil_of_length_eq_zero h0]at hm;cases hm
   obtain⟨i,hi,rfl⟩:=List.getElem_of_mem hm
   have harg:∀ts,kh u.ss g.tys p.args ts=false:=λts=>by
    cases ha:kh u.ss g.tys p.args ts with
    |false=>rfl
    |true=>
     obtain⟨hl,hx⟩:=Xg ha
     have:=(hx i hi (by omega)).1
     rw[hf]at this;cases this
   have hne':p.args≠[]:=λh0=>hne (by rw[h0];rfl)
   rcases hc with hc|hc|hc|hc|hc|hc|hc|hc|hc|hc|hc|hc|hc|hc<;>first|(simp[hc,hne,hne',zz,kH]at h2;done)|(simp[hc,hne,hne',zz,kH,harg]at h2;try (split at h2<;>simp_all))
theorem jU(hM:MayU u)(h:yo u g p=true):p.args.length≤1000:=by
 have h2:=jS h
 by_cases hne:p.args.length=0
 ·omega
 have hne':p.args≠[]:=λh0=>hne (by rw[h0];rfl)
 rw[ptG]at h2
 by_cases h6:p.op=6
 ·simp only[h6,Int.reduceEq,if_false,if_true,gba,gdt,isK]at h2
  have hl:=(Xg h2.2).1
  have hf:(xz u.ss (zC u.ss g.tys p.to).1).1.length≤8:=by
   rw[xz]
   split
   ·exact YN (jy hM.ok).2.1 _
   ·simp
  omega
 by_cases h7:p.op=7
 ·simp only[h7,Int.reduceEq,if_false,if_true,gba,gdt]at h2
  have hlt:p.fn.toNat<u.fs.length:=by omega
  rw[gqg hlt]at h2
  have h3:=h2.2
  simp only[gba]at h3
  have hl:=(Xg h3.2).1
  have:=(hM.hd hlt).pn8
  rw[List.length_take]at hl
  omega
 ·exfalso
  have hc:p.op=1∨p.op=2∨p.op=3∨p.op=4∨p.op=5∨p.op=8∨p.op=9∨p.op=10∨p.op=11∨p.op=12∨p.op=13∨p.op=14:=by
   have:=Yv (jS h)
   omega
  rcases hc with hc|hc|hc|hc|hc|hc|hc|hc|hc|hc|hc|hc<;>simp [hc,hne,hne',zz,kH]at h2
theorem StX.cutSl{α:Type}{sz b cap:Nat}{R:List Value→α→Prop}{l:List α}{X:Nat→Prop}{w0 w:World}{r:Gh}{L:List Asr}{xs:List Value}{e:TypeId}(S:StX X w0 r w (.cell b xs e::L))(h:RowOf sz R (xs.take (l.length*sz)) l)(hz:0<sz)(hc:l.length≤cap):
  StX X w0 (r.or (Go.Sh.one b xs e)) w L∧SlG sz (Go.Sh.one b xs e) R (.slice (some ⟨b,0,none⟩) l.length cap) l:=
 ⟨StX.frz S,h.sl (by simp) hc (λw k=>(Sl.blk (yK w k)).take _) hz ⟨w,xD (S.has _ (List.mem_cons_self ..))⟩⟩
noncomputable def Qh(u:UnD)(n q:Int):List OpD×Int:=if ptE u n q≠0 then([],ptE u n q)else match Qd u n q with|some p=>(opersG p,0)|none=>([],2)
theorem agY{n q:Int}(h0:ptE u n q=0)(hp:Qd u n q=some p):MayU u∧∃g∈u.fs,u.fs[n.toNat]? = some g∧p∈g.pts∧yo u g p=true∧HeadU u n.toNat g:=by
 obtain⟨hf,hq0,hn,hql⟩:=ahF h0
 obtain⟨hM,_,_⟩:=acl hf
 obtain⟨hl,hpe⟩:=af8 hn hp
 have hm:p∈u.fs[n.toNat].pts:=by rw[← hpe];exact gem _
 exact⟨hM,_,gem hn,gqg hn,hm,hM.pts _ (gem hn) p hm,hM.hd hn⟩
theorem JV{n q:Int}{v:Value}{w:World}{r:Gh}{K:Value→World→Prop}(hr:Holds r w)(hu:UnG r v u)
  (h:∀vl s w',Ext w w'→New w s w'→SlG 4 s (OpG s) vl (Qh u n q).1→K (.tuple #[vl,.int .i64 (Qh u n q).2]) w'):zb Tryz.prog Tryz.qL #[v,.int .i64 n,.int .i64 q] w K:=by
 refine Tryz.QR ?_
 unfold Tryz.ZD
 have hu0:=hu
 obtain⟨p0,cap0,vf,rfl,_,_,hst,hsl,hfn⟩:=hu
 obtain⟨qf,capf,rfl,_,_⟩:=hfn.sl.shape
 have S:=St.start hr
 refine S.box λb3 w1 S=>?_
 have S:StX noX w r w1 [.cell b3 [.slice p0 u.ss.length cap0,.slice qf u.fs.length capf,.int .i64 u.mn] 25]:=S
 refine S.ldB (b:=b3) ?_ rfl
 refine abq S.holds hu0 λc p w3 e3 hp hpi=>?_
 have S:=S.go e3
 obtain⟨z1,z2,z3,z4,z5,t1,t2,t3,t4,t5,rfl,hp0⟩:=jd hp
 refine gS_ ?_
 refine S.al λb8 w4 S=>?_
 refine S.stB (b:=b8) λw5 S=>?_
 refine gp_ ?_
 refine zh (λhne=>?_) (λheq=>?_)
 ·have hG:Qh u n q=([],ptE u n q):=by rw[Qh,if_pos hne]
  rw[hG]at h
  exact h _ nothing _ S.ext New.nothing SlG.nil
 have h0:ptE u n q=0:=by omega
 have hpn:=hpi h0
 have hG:Qh u n q=(opersG p,0):=by rw[Qh,if_neg (by omega),hpn]
 rw[hG]at h
 rw[h0]
 obtain⟨hM,g,hgm,hgi,hpm,hpg,hH⟩:=agY h0 hpn
 have harg:=jU hM hpg
 have hsh:∀o∈opersG p,o.pl.ps.length≤8:=λo ho=>ad9 (aa2 hpg o ho)
 have hfw:(opersG p).length≤1002:=by
  have:=List.length_filter_le yk (p.a::p.b::p.args)
  show((p.a::p.b::p.args).filter yk).length≤1002
  simp only[List.length_cons]at this
  omega
 refine S.ldB (b:=b8) ?_ rfl
 refine JU S.holds hp0 harg λb cap c w6 S6 hc hcap hrow=>?_
 have S:StX noX w r w6 [.cell b c 61]:=S.whole S6 λ_ h=>h.elim
 clear S6
 generalize opersG p=l at h hsh hfw hcap hrow⊢
 refine gp_ ?_
 refine zj (ι:=Nat×Gh×List Value) (λi=>[.int .i64 (i.1:Nat)]) (λi w'=>i.1≤l.length∧i.2.2.length=cap*4∧Above w i.2.1∧RowOf 4 (OpG i.2.1) (i.2.2.take (i.1*4)) (l.take i.1)∧
  (∀(m:Nat)(hm:m<l.length),i.1≤m→OpG r (yE i.2.2 m) l[m])∧StX noX w (r.or i.2.1) w' [.cell b i.2.2 61]) (λi=>l.length-i.1) (0,nothing,c) rfl ⟨gzl _,hc,Above.no,by simpa using RowOf.nil,λm hm _=>by
   have:=hrow.2 m hm
   rw[List.drop_take,List.take_take,Nat.min_eq_left (by omega)]at this
   exact this,S.to _⟩ ?_
 clear S hrow hc
 rintro⟨i,s,c1⟩ d w7 ⟨hi,hc1,hab,hr1,hrest,S⟩ K6 hK6
 simp only at hi hc1 hab hr1 hrest S⊢
 rw[gdz]
 refine gp_ ?_
 refine zh (λhlt=>?_) (λhge=>?_)
 ·have hlt:i<l.length:=by omega
  have hri:=hrest i hlt (Nat.le_refl _)
  refine s_c (by omega) ?_
  rw[show 0+((i:Nat):Int).toNat*4=i*4 by omega]
  refine S.ldN (b:=b) (vs:=yE c1 i) ?_ rfl (zZ hri)
  refine Qf S.holds (OpG.up hri) (by have:=hsh _ (gem hlt);omega) λc' sn w8 e8 n8 h8=>?_
  obtain⟨S,d8,a8⟩:=S.tell e8 n8
  have S:=S.reGh
  refine s_c (by omega) ?_
  rw[show 0+((i:Nat):Int).toNat*4=i*4 by omega]
  refine S.stN (b:=b) (cs:=c'.toArray) (λw9 S=>?_) (by omega) (by simpa using zZ h8) (by simpa using jT h8)
  have S:StX noX w (r.or (s.or sn)) w9 [.cell b (c1.take (i*4)++c'++c1.drop (i*4+4)) 61]:=S
  refine gp_ ?_
  rw[show ((i:Int)+1)=((i+1:Nat):Int)by omega]
  refine hK6 (i+1,s.or sn,c1.take (i*4)++c'++c1.drop (i*4+4)) _ ⟨hlt,?_,hab.or' a8,?_,λm hm hkm=>?_,S⟩ (by show l.length-(i+1)<l.length-i;omega)
  ·show(c1.take (i*4)++c'++c1.drop (i*4+4)).length=cap*4
   rw[gla,gla,List.length_take,List.length_drop,zZ h8];omega
  ·show RowOf 4 (OpG (s.or sn)) ((c1.take (i*4)++c'++c1.drop (i*4+4)).take ((i+1)*4)) (l.take (i+1))
   rw[aaz (by omega) (zZ h8),List.take_succ_eq_append_getElem hlt]
   exact(hr1.mono λc x hx=>OpG.up hx).snoc (zZ h8) (OpG.up h8)
  ·show OpG r (yE (c1.take (i*4)++c'++c1.drop (i*4+4)) m) l[m]
   have hkm:i+1≤m:=hkm
   rw[aay (by omega) (zZ h8) (by omega)]
   exact hrest m hm (by omega)
 have hie:i=l.length:=by omega
 subst hie
 rw[List.take_length]at hr1
 have hmine:=S.mine _ (List.mem_cons_self ..) b rfl
 obtain⟨S,hs2⟩:=StX.cutSl (cap:=cap) S hr1 (by decide) hcap
 have S:=S.reGh
 have hab2:Above w (Go.Sh.one b c1 61):=λb' o ho=>by rw[ho.1];exact hmine.1.resolve_right id
 exact h _ (s.or (Go.Sh.one b c1 61)) _ S.ext (S.newOf (hab.or' hab2)) (hs2.up' inferInstance λc x hx=>OpG.up hx)
end
end Go.Proofs
namespace Go.Proofs.Tryz
open Go.Sh
def Qi(t0 t1:Value)(w:World)(K:VW):Prop:=
 pw w (Instr.box 59 t0) λt2 w1=>
 pw w1 (Instr.box 59 t1) λt3 w2=>
 lo w2 59 t2 λt5=>lo w2 59 t3 λt6=>ca yp #[t5,t6] w2 λt7 w3=>
 bt .eql 3 t7 (i6 0) λt8=>K t8 w3
theorem abr{t0 t1:Value}{w:World}{K:VW}(h:Qi t0 t1 w K):zb prog jr #[t0,t1] w K:=
 okC false (.s (.r (rz 3 0 10)) (.s (.r (rz 5 0 37)) (.n))) func59 rfl (by kernel_rfl) (by kernel_rfl) h
def vT(t0 t1:Value)(w:World)(K:VW):Prop:=
 pw w (Instr.box 59 t0) λt2 w1=>
 pw w1 (Instr.box 59 t1) λt3 w2=>
 fl w2.drew t2 59 0 3 λt6=>fl w2.drew t3 59 0 3 λt8=>fl w2.drew t2 59 1 57 λt11=>fl w2.drew t3 59 1 57 λt13=>ca qi #[t6,t8] w2.drew λt9 w3=>
 Ext w2.drew w3∧
 ca zT #[t11,t13] w3 λt14 w4=>
 pw w4 (Instr.buildSlice 26 2 #[(0,t9),(1,t14)]) λt15 w5=>
 ca js #[t15] w5 λt16 w6=>
 K t16 w6
theorem YR{t0 t1:Value}{w:World}{K:VW}(h:vT t0 t1 w K):zb prog yp #[t0,t1] w K:=
 okC false (.s (.r (rz 3 0 10)) (.s (.r (ra 4 0 68 (ra 4 5 68 (ra 1 4 3 (rz 4 9 42))))) (.n))) func49 rfl (by kernel_rfl) (by kernel_rfl) h
section
variable {t0 t1:Value} {w:World} {K:VW}
def ZQ(t0:Value)(w:World)(K:VW):Prop:=
 pp (Builtin.len_ #[26] 3 #[t0]) λt7=>zw [(i6 0)] w (λs2 _d3 w4 K1=>
 bf .lss 3 (s2.getD 0 u_) t7 λt9=>zc t9 (xl w4 26 t0 (s2.getD 0 u_) 3 λt11=>bf .neq 3 t11 (i6 0) λt14=>zc t14 (K t11 w4) (bt .add 3 (s2.getD 0 u_) (i6 1) λt16=>K1 [t16] w4)) (K (i6 0) w4))
theorem Xy(h:ZQ t0 w K):zb prog js #[t0] w K:=
 okC false (.s (.r (rz 1 0 0)) (.s (.r (rz 1 0 0)) (.s (.s (.r (rz 3 0 0)) (.b (.lp [8] (.s (.r (rz 1 0 0)) (.s (.c (.n) (.n)) (.s (.b (.s (.r (rz 3 0 4)) (.s (.r (rz 3 0 0)) (.c (.s (.r (rz 2 0 0)) (.n)) (.n))))) (.r (rz 2 0 0)))))))) (.s (.r (rz 2 0 0)) (.n))))) func81 rfl (by kernel_rfl) (by kernel_rfl) h
def Zb(t0 t1:Value)(w:World)(K:VW):Prop:=
 ca kF #[t0] w λt8 w1=>
 ca kF #[t1] w1 λt10 w2=>
 zc t8 (zc t10 (K (i6 0) w2) (K (i6 (-1)) w2)) (zc t10 (K (i6 1) w2) (bf .lss 3 t0 t1 λt16=>zc t16 (K (i6 (-1)) w2) (bf .gtr 3 t0 t1 λt19=>zc t19 (K (i6 1) w2) (K (i6 0) w2))))
theorem Qj(h:Zb t0 t1 w K):zb prog qi #[t0,t1] w K:=
 okC false (.s (.r (rz 1 0 0)) (.s (.r (rz 3 0 8)) (.s (.r (rz 3 0 8)) (.s (.s (.r (rz 1 0 0)) (.c (.s (.s (.r (rz 1 0 0)) (.c (.s (.r (rz 1 0 0)) (.n)) (.n))) (.s (.r (rz 1 0 0)) (.n))) (.n))) (.s (.s (.r (rz 1 0 0)) (.c (.s (.r (rz 1 0 0)) (.n)) (.n))) (.s (.s (.r (rz 3 0 0)) (.c (.s (.r (rz 1 0 0)) (.n)) (.n))) (.s (.s (.r (rz 3 0 0)) (.c (.s (.r (rz 1 0 0)) (.n)) (.n))) (.s (.r (rz 1 0 0)) (.n))))))))) func82 rfl (by kernel_rfl) (by kernel_rfl) h
def yj(t0 t1:Value)(w:World)(K:VW):Prop:=
 pp (Builtin.len_ #[57] 3 #[t0]) λt10=>zw [(i6 0)] w (λs2 _d3 w4 K1=>
 bf .lss 3 (s2.getD 0 u_) t10 λt12=>zc t12 (xl w4 57 t0 (s2.getD 0 u_) 76 λt15=>pp (Builtin.len_ #[57] 3 #[t1]) λt18=>bf .geq 3 (s2.getD 0 u_) t18 λt19=>zc t19 (K (i6 1) w4) (xl w4 57 t1 (s2.getD 0 u_) 76 λt23=>ca xI #[t15,t23] w4 λt26 w5=>
 bt .neq 3 t26 (i6 0) λt28=>zc t28 (K t26 w5) (bt .add 3 (s2.getD 0 u_) (i6 1) λt30=>K1 [t30] w5))) (pp (Builtin.len_ #[57] 3 #[t0]) λt32=>pp (Builtin.len_ #[57] 3 #[t1]) λt34=>bf .lss 3 t32 t34 λt35=>zc t35 (K (i6 (-1)) w4) (K (i6 0) w4)))
theorem xa(h:yj t0 t1 w K):zb prog zT #[t0,t1] w K:=
 okC false (.s (.r (rz 1 0 0)) (.s (.s (.r (rz 3 0 0)) (.b (.lp [11] (.s (.r (rz 1 0 0)) (.s (.c (.n) (.n)) (.s (.b (.s (.r (rz 5 0 16)) (.s (.s (.r (rz 4 0 0)) (.c (.s (.r (rz 1 0 0)) (.n)) (.n))) (.s (.r (rz 5 0 64)) (.s (.r (rz 4 0 32)) (.s (.r (rz 2 0 0)) (.c (.s (.r (rz 2 0 0)) (.n)) (.n)))))))) (.r (rz 2 0 0)))))))) (.s (.s (.r (rz 5 0 0)) (.c (.s (.r (rz 1 0 0)) (.n)) (.n))) (.s (.r (rz 1 0 0)) (.n))))) func83 rfl (by kernel_rfl) (by kernel_rfl) h
def qC(t0 t1:Value)(w:World)(K:VW):Prop:=
 ca xf #[t0] w λt8 w1=>
 ca xf #[t1] w1 λt10 w2=>
 zc t8 (zc t10 (K (i6 0) w2) (K (i6 (-1)) w2)) (zc t10 (K (i6 1) w2) (bf .lss 76 t0 t1 λt16=>zc t16 (K (i6 (-1)) w2) (bf .gtr 76 t0 t1 λt19=>zc t19 (K (i6 1) w2) (K (i6 0) w2))))
theorem ZW(h:qC t0 t1 w K):zb prog xI #[t0,t1] w K:=
 okC false (.s (.r (rz 1 0 0)) (.s (.r (rz 3 0 8)) (.s (.r (rz 3 0 8)) (.s (.s (.r (rz 1 0 0)) (.c (.s (.s (.r (rz 1 0 0)) (.c (.s (.r (rz 1 0 0)) (.n)) (.n))) (.s (.r (rz 1 0 0)) (.n))) (.n))) (.s (.s (.r (rz 1 0 0)) (.c (.s (.r (rz 1 0 0)) (.n)) (.n))) (.s (.s (.r (rz 3 0 0)) (.c (.s (.r (rz 1 0 0)) (.n)) (.n))) (.s (.s (.r (rz 3 0 0)) (.c (.s (.r (rz 1 0 0)) (.n)) (.n))) (.s (.r (rz 1 0 0)) (.n))))))))) func108 rfl (by kernel_rfl) (by kernel_rfl) h
def Yd(t0:Value)(w:World)(K:VW):Prop:=
 bf .neq 3 t0 t0 λt5=>K t5 w
theorem JW(h:Yd t0 w K):zb prog kF #[t0] w K:=
 okC false (.s (.r (rz 1 0 0)) (.s (.r (rz 4 0 0)) (.n))) func107 rfl (by kernel_rfl) (by kernel_rfl) h
def jD(t0:Value)(w:World)(K:VW):Prop:=
 bf .neq 76 t0 t0 λt5=>K t5 w
theorem YS(h:jD t0 w K):zb prog xf #[t0] w K:=
 okC false (.s (.r (rz 1 0 0)) (.s (.r (rz 4 0 0)) (.n))) func145 rfl (by kernel_rfl) (by kernel_rfl) h
end
end Go.Proofs.Tryz
namespace Go.Proofs
open Go.Sh
section
variable {w:World} {K:Value→World→Prop} {x y:Int} {α:Type} {r:Gh} {p q:PlD} {c d:List Value}
noncomputable def eqb{α:Type}(x y:α):Bool:=@decide (x=y) (Classical.propDecidable _)
theorem jV{x y:α}:eqb x y=true↔x=y:=by
 rw[eqb];exact @decide_eq_true_iff _ (Classical.propDecidable _)
theorem ahG{x y:α}{b:Bool}(h:b=true↔x=y):b=eqb x y:=by
 rw[Bool.eq_iff_iff,h,jV]
theorem afh{x y:α}(h:x≠y):eqb x y=false:=by
 cases e:eqb x y
 ·rfl
 ·exact absurd (jV.1 e) h
theorem acm(x:α):eqb x x=true:=jV.2 rfl
theorem Jm(h:K (.bool false) w):zb Tryz.prog Tryz.kF #[.int .i64 x] w K:=by
 refine Tryz.JW ?_
 unfold Tryz.Yd
 refine gg_ ?_
 simpa using h
theorem Qk(h:K (.bool false) w):zb Tryz.prog Tryz.xf #[.int .i64 x] w K:=by
 refine Tryz.YS ?_
 unfold Tryz.jD
 refine gg_ ?_
 simpa using h
def xn(x y:Int):Int:=if x<y then -1 else if y<x then 1 else 0
theorem xG:xn x y=0↔x=y:=by
 unfold xn;split
 ·constructor<;>intro h<;>omega
 split<;>constructor<;>intro h<;>omega
theorem Xz(h:K (.int .i64 (xn x y)) w):zb Tryz.prog Tryz.qi #[.int .i64 x,.int .i64 y] w K:=by
 refine Tryz.Qj ?_
 unfold Tryz.Zb
 refine Jm (Jm (c_f rfl (c_f rfl ?_)))
 unfold xn at h
 refine gg_ ?_
 refine zh (λh1=>?_) (λh1=>?_)
 ·rwa[if_pos h1]at h
 refine gg_ ?_
 refine zh (λh2=>?_) (λh2=>?_)
 ·rwa[if_neg h1,if_pos h2]at h
 ·rwa[if_neg h1,if_neg h2]at h
theorem YT(h:K (.int .i64 (xn x y)) w):zb Tryz.prog Tryz.xI #[.int .i64 x,.int .i64 y] w K:=by
 refine Tryz.ZW ?_
 unfold Tryz.qC
 refine Qk (Qk (c_f rfl (c_f rfl ?_)))
 unfold xn at h
 refine gg_ ?_
 refine zh (λh1=>?_) (λh1=>?_)
 ·rwa[if_pos h1]at h
 refine gg_ ?_
 refine zh (λh2=>?_) (λh2=>?_)
 ·rwa[if_neg h1,if_pos h2]at h
 ·rwa[if_neg h1,if_neg h2]at h
theorem JX{l m:List Int}{va vb:Value}{K:Value→World→Prop}(hr:Holds r w)(ha:SlB 1 r yN va l)(hb:SlB 1 r yN vb m)
  (h:∀x w',Ext w w'→(x=0↔l=m)→K (.int .i64 x) w'):zb Tryz.prog Tryz.zT #[va,vb] w K:=by
 refine Tryz.xa ?_
 unfold Tryz.yj
 obtain⟨pa,ca,rfl,_,_⟩:=ha.sl.shape
 obtain⟨pb,cb,rfl,_,_⟩:=hb.sl.shape
 have hla:l.length≤9223372036854775807:=ha.few
 have S:=St.start hr
 refine gg_ ?_
 refine zj (ι:=Nat) (λi=>[.int .i64 (i:Nat)]) (λi w'=>i≤l.length∧i≤m.length∧l.take i=m.take i∧StX noX w r w' []) (λi=>l.length-i) 0 rfl ⟨gzl _,gzl _,rfl,S⟩ ?_
 clear S
 rintro i d w4 ⟨hi,him,htk,S⟩ K1 hK1
 rw[gdz]
 refine gg_ ?_
 refine zh (λhlt=>?_) (λhge=>?_)
 ·have hlt:i<l.length:=by omega
  obtain⟨ba,oa,c,rfl,hcl,⟨rfl,_⟩,hca⟩:=ha.sl.get (by decide) hlt
  refine gg_ ?_
  refine zi (v:=.int .i64 l[i]) (by simpa using S.at (hca 0 _ rfl)) ?_
  refine gg_ ?_
  refine zh (λhbig=>?_) (λhsm=>?_)
  ·refine h 1 _ S.ext ⟨λe=>absurd e (by decide),λe=>?_⟩
   subst e;omega
  have hlt2:i<m.length:=by omega
  obtain⟨bb,ob,d,rfl,hdl,⟨rfl,_⟩,hcb⟩:=hb.sl.get (by decide) hlt2
  refine gg_ ?_
  refine zi (v:=.int .i64 m[i]) (by simpa using S.at (hcb 0 _ rfl)) ?_
  refine YT ?_
  refine gg_ ?_
  refine zh (λhne=>?_) (λheq=>?_)
  ·refine h _ _ S.ext ⟨λe=>absurd e hne,λe=>?_⟩
   subst e;exact xG.2 rfl
  ·have he:l[i]=m[i]:=xG.1 (Decidable.not_not.1 heq)
   refine gg_ ?_
   refine hK1 (i+1) _ ⟨hlt,hlt2,?_,S⟩ (by omega)
   rw[List.take_succ_eq_append_getElem hlt,List.take_succ_eq_append_getElem hlt2,htk,he]
 have hie:i=l.length:=by omega
 subst hie
 rw[List.take_length]at htk
 refine gg_ ?_
 refine zh (λh1=>?_) (λh1=>?_)
 ·refine h _ _ S.ext ⟨λe=>absurd e (by decide),λe=>?_⟩
  subst e;omega
 ·refine h _ _ S.ext ⟨λ_=>?_,λ_=>rfl⟩
  rw[htk,List.take_of_length_le (by omega)]
theorem agd{b:Nat}{K:Value→World→Prop}(hr:Holds r w)(h0:Ob r λw=>w.cell? ⟨b,0,none⟩=some (.int .i64 x))(h1:Ob r λw=>w.cell? ⟨b,1,none⟩=some (.int .i64 y))
  (h:∀w',Ext w w'→K (.int .i64 (if x≠0 then x else y)) w'):zb Tryz.prog Tryz.js #[.slice (some ⟨b,0,none⟩) 2 2] w K:=by
 refine Tryz.Xy ?_
 unfold Tryz.ZQ
 have S:=St.start hr
 refine gg_ ?_
 refine zj (ι:=Nat) (λi=>[.int .i64 (i:Nat)]) (λi w'=>i≤2∧(0<i→x=0)∧(1<i→y=0)∧StX noX w r w' []) (λi=>2-i) 0 rfl ⟨by decide,λh=>absurd h (by decide),λh=>absurd h (by decide),S⟩ ?_
 clear S
 rintro i d w4 ⟨hi,hx,hy,S⟩ K1 hK1
 rw[gdz]
 refine gg_ ?_
 refine zh (λhlt=>?_) (λhge=>?_)
 ·have hi2:i=0∨i=1:=by omega
  rcases hi2 with rfl|rfl
  ·refine gg_ ?_
   refine zi (v:=.int .i64 x) (by simpa using S.at h0) ?_
   refine gg_ ?_
   refine zh (λhne=>?_) (λheq=>?_)
   ·have:=h _ S.ext;rwa[if_pos hne]at this
   refine gg_ ?_
   exact hK1 1 _ ⟨by decide,λ_=>by omega,λh=>absurd h (by decide),S⟩ (by decide)
  ·refine gg_ ?_
   refine zi (v:=.int .i64 y) (by simpa using S.at h1) ?_
   refine gg_ ?_
   refine zh (λhne=>?_) (λheq=>?_)
   ·have:=h _ S.ext;rwa[if_neg (by have:=hx (by decide);omega)]at this
   refine gg_ ?_
   exact hK1 2 _ ⟨by decide,λ_=>hx (by decide),λ_=>by omega,S⟩ (by decide)
 have hie:i=2:=by omega
 subst hie
 have:=h _ S.ext
 rwa[if_neg (by have:=hx (by decide);omega),hy (by decide)]at this
theorem PlD.eq_iff:p=q↔p.l=q.l∧p.ps=q.ps:=by
 cases p;cases q;simp
theorem abs{K:Value→World→Prop}(hr:Holds r w)(hp:PlG r c p)(hq:PlG r d q)
  (h:∀x w',Ext w w'→(x=0↔p=q)→K (.int .i64 x) w'):zb Tryz.prog Tryz.yp #[.agg c.toArray,.agg d.toArray] w K:=by
 refine Tryz.YR ?_
 unfold Tryz.vT
 obtain⟨v,rfl,hv⟩:=hp
 obtain⟨u,rfl,hu⟩:=hq
 obtain⟨pa,ca,rfl,_,_⟩:=hv.sl.shape
 obtain⟨pb,cb,rfl,_,_⟩:=hu.sl.shape
 have S:=St.start hr
 refine S.box λb2 w1 S=>?_
 have S:StX noX w r w1 [.cell b2 [.int .i64 p.l,.slice pa p.ps.length ca] 59]:=S
 refine S.box λb3 w2 S=>?_
 have S:StX noX w r w2 [.cell b3 [.int .i64 q.l,.slice pb q.ps.length cb] 59,.cell b2 [.int .i64 p.l,.slice pa p.ps.length ca] 59]:=S
 have S:=S.go (Ext.drew _)
 refine gg_ ?_
 refine Xz ⟨Ext.refl _,?_⟩
 refine JX S.holds hv hu λx w4 e4 hx=>?_
 have S:=S.go e4
 refine S.lit (e:=3) (cs:=[.int .i64 (xn p.l q.l),.int .i64 x]) (by kernel_rfl) λb15 w5 S=>?_
 have hB:=S.blk b15
 refine agd (x:=xn p.l q.l) (y:=x) (r:=Go.Sh.one b15 [.int .i64 (xn p.l q.l),.int .i64 x] 3) (xD hB) (λw h=>((yK w h).cell 0).trans rfl) (λw h=>((yK w h).cell 1).trans rfl) λw6 e6=>?_
 refine h _ _ (S.go e6).ext ?_
 rw[PlD.eq_iff,← hx,← xG (x:=p.l)]
 constructor
 ·intro e
  split at e
  ·exact absurd e (by assumption)
  ·exact⟨by omega,e⟩
 ·rintro⟨e1,e2⟩
  rw[if_neg (by omega),e2]
theorem Ql{K:Value→World→Prop}(hr:Holds r w)(hp:PlG r c p)(hq:PlG r d q)
  (h:∀w',Ext w w'→K (.bool (eqb p q)) w'):zb Tryz.prog Tryz.jr #[.agg c.toArray,.agg d.toArray] w K:=by
 refine Tryz.abr ?_
 unfold Tryz.Qi
 obtain⟨v,rfl,hv⟩:=id hp
 obtain⟨u,rfl,hu⟩:=id hq
 have S:=St.start hr
 refine S.box λb2 w1 S=>?_
 refine S.box λb3 w2 S=>?_
 refine S.ldB (b:=b2) ?_ rfl
 refine S.ldB (b:=b3) ?_ rfl
 refine abs S.holds hp hq λx w4 e4 hx=>?_
 refine gg_ ?_
 have:=h _ (S.go e4).ext
 rwa[← ahG (b:=decide (x=0)) (by rw[decide_eq_true_iff,hx])]at this
end
section
variable {ss:List StD} {tys:List TyD}
def QO(m:Int):List Int→Int
 |[]=>m
 |k::l=>QO (max m k) l
theorem JY{ss:List StD}:∀(l:List Int)(t:TyD)(m:Int),0≤m→goG ss l (t,m)=(zG ss l t).map λx=>(x.1,QO m x.2)
 |[],t,m,_=>rfl
 |k::l,t,m,hm=>by
  have hs:stepG ss (t,m) k=(yc ss t k).map λs=>(s.1,max m s.2):=by
   unfold stepG yc
   split
   ·cases t.of.head?<;>rfl
   split
   ·cases t.of.head?<;>rfl
   split
   ·cases(ze ss t.st)[k.toNat]? with
    |none=>rfl
    |some u=>show some (u,m)=some (u,max m 0);rw[Int.max_eq_left hm]
   ·rfl
  rw[goG,zG,hs]
  cases h1:yc ss t k with
  |none=>rfl
  |some s=>
   show goG ss l (s.1,max m s.2)=((zG ss l s.1).map _).map _
   rw[JY l s.1 (max m s.2) (by omega),Option.map_map]
   rfl
theorem aa3{t:TyD}{ps:List Int}(hst:(zA ss).2=0)(hm:yC ss t=true):zO ss [t] ⟨0,ps⟩=if ps.length≤8 then zG ss ps t else none:=by
 have e:y8 ss [t] ⟨0,ps⟩=decide (ps.length≤8):=by
  simp[y8,hst,hm]
 rw[zO,e]
 by_cases h:ps.length≤8
 ·rw[if_pos (gde h),if_pos h];rfl
 ·rw[if_neg (by simpa using h),if_neg h]
theorem afi{p:PlD}(hst:(zA ss).2=0)(hf:xO ss tys):(zC ss tys p).2.2=true↔0≤p.l∧∃(hl:p.l.toNat<tys.length)(x:TyD×List Int),zO ss [tys[p.l.toNat]] ⟨0,p.ps⟩=some x∧zC ss tys p=(x.1,QO 0 x.2,true):=by
 constructor
 ·intro ho
  have h8:=Xe ho
  unfold zC at ho⊢
  cases hb:(if p.l<0 then none else tys[p.l.toNat]?).bind λt=>goG ss p.ps (t,0)with
  |none=>rw [hb]at ho;cases ho
  |some s=>
   split at hb
   ·cases hb
   ·rename_i hl0
    cases ht:tys[p.l.toNat]? with
    |none=>rw [ht]at hb;cases hb
    |some t=>
     rw[ht]at hb
     have hb:goG ss p.ps (t,0)=some s:=hb
     obtain⟨hlt,rfl⟩:=List.getElem?_eq_some_iff.1 ht
     rw[JY _ _ _ (Int.le_refl _)]at hb
     cases hw:zG ss p.ps tys[p.l.toNat]with
     |none=>rw [hw]at hb;cases hb
     |some x=>
      rw[hw]at hb
      have hb:(x.1,QO 0 x.2)=s:=Option.some.inj hb
      refine⟨by omega,hlt,x,?_,?_⟩
      ·rw[aa3 hst (by rw[yC,gde hst,Bool.true_and];exact hf.all _ (gem hlt)),if_pos h8,hw]
      ·rw[← hb]
       show(x.1,QO 0 x.2,decide (p.ps.length≤8))=_
       rw[gde h8]
 ·rintro⟨_,_,x,_,h⟩;rw[h]
theorem agZ{i:Nat}(hi:i<tys.length):(tys.drop i).take 1=[tys[i]]:=by
 rw[List.drop_eq_getElem_cons hi];rfl
end
end Go.Proofs
namespace Go.Proofs
open Go.Shelf
def Tryz.ac2:Go.Shelf.Ren:=⟨fun|189=>57|125=>88|257=>87|128=>118|129=>119|294=>109|295=>110|296=>111|297=>112|298=>113|299=>114|216=>115|300=>116|301=>117|328=>146|329=>147|330=>148|331=>149|332=>150|215=>107|343=>190|n=>n,fun|28=>26|3=>3|46=>137|0=>0|51=>174|53=>176|4=>4|183=>167|182=>166|131=>106|5=>5|9=>9|218=>196|222=>200|228=>248|229=>249|n=>n,fun|n=>n⟩
theorem Tryz.adm:Go.Proofs.Lays.n189 Tryz.prog Tryz.ac2:={
 mixed:=by kernel_rfl
 f125:=Tryz.func88.trans (congrArg some (by kernel_rfl))
 f128:=Tryz.func118.trans (congrArg some (by kernel_rfl))
 f129:=Tryz.func119.trans (congrArg some (by kernel_rfl))
 f189:=Tryz.func57.trans (congrArg some (by kernel_rfl))
 f215:=Tryz.func107.trans (congrArg some (by kernel_rfl))
 f216:=Tryz.func115.trans (congrArg some (by kernel_rfl))
 f257:=Tryz.func87.trans (congrArg some (by kernel_rfl))
 f294:=Tryz.func109.trans (congrArg some (by kernel_rfl))
 f295:=Tryz.func110.trans (congrArg some (by kernel_rfl))
 f296:=Tryz.func111.trans (congrArg some (by kernel_rfl))
 f297:=Tryz.func112.trans (congrArg some (by kernel_rfl))
 f298:=Tryz.func113.trans (congrArg some (by kernel_rfl))
 f299:=Tryz.func114.trans (congrArg some (by kernel_rfl))
 f300:=Tryz.func116.trans (congrArg some (by kernel_rfl))
 f301:=Tryz.func117.trans (congrArg some (by kernel_rfl))
 f328:=Tryz.func146.trans (congrArg some (by kernel_rfl))
 f329:=Tryz.func147.trans (congrArg some (by kernel_rfl))
 f330:=Tryz.func148.trans (congrArg some (by kernel_rfl))
 f331:=Tryz.func149.trans (congrArg some (by kernel_rfl))
 f332:=Tryz.func150.trans (congrArg some (by kernel_rfl))
 f343:=Tryz.func190.trans (congrArg some (by kernel_rfl))
 t0:=Tryz.underlying0
 a0:=Tryz.isAgg0
 z0:=Tryz.sizeOf0
 v0:=Tryz.zeroValue0
 t3:=Tryz.underlying3
 a3:=Tryz.isAgg3
 z3:=Tryz.sizeOf3
 v3:=Tryz.zeroValue3
 t4:=Tryz.underlying4
 a4:=Tryz.isAgg4
 z4:=Tryz.sizeOf4
 v4:=Tryz.zeroValue4
 t5:=Tryz.underlying5
 a5:=Tryz.isAgg5
 z5:=Tryz.sizeOf5
 v5:=Tryz.zeroValue5
 t9:=Tryz.underlying9
 a9:=Tryz.isAgg9
 z9:=Tryz.sizeOf9
 v9:=Tryz.zeroValue9
 t28:=Tryz.underlying26
 a28:=Tryz.isAgg26
 z28:=Tryz.sizeOf26
 v28:=Tryz.zeroValue26
 t46:=Tryz.underlying137
 a46:=Tryz.isAgg137
 z46:=Tryz.sizeOf137
 v46:=Tryz.zeroValue137
 t51:=Tryz.underlying174
 a51:=Tryz.isAgg174
 z51:=Tryz.sizeOf174
 v51:=Tryz.zeroValue174
 t53:=Tryz.underlying176
 a53:=Tryz.isAgg176
 z53:=Tryz.sizeOf176
 v53:=Tryz.zeroValue176
 t131:=Tryz.underlying106
 a131:=Tryz.isAgg106
 z131:=Tryz.sizeOf106
 v131:=Tryz.zeroValue106
 t182:=Tryz.underlying166
 a182:=Tryz.isAgg166
 z182:=Tryz.sizeOf166
 v182:=Tryz.zeroValue166
 t183:=Tryz.underlying167
 a183:=Tryz.isAgg167
 z183:=Tryz.sizeOf167
 v183:=Tryz.zeroValue167
 t218:=Tryz.underlying196
 a218:=Tryz.isAgg196
 z218:=Tryz.sizeOf196
 v218:=Tryz.zeroValue196
 t222:=Tryz.underlying200
 a222:=Tryz.isAgg200
 z222:=Tryz.sizeOf200
 v222:=Tryz.zeroValue200
 t228:=Tryz.underlying248
 a228:=Tryz.isAgg248
 z228:=Tryz.sizeOf248
 v228:=Tryz.zeroValue248
 t229:=Tryz.underlying249
 a229:=Tryz.isAgg249
 z229:=Tryz.sizeOf249
 v229:=Tryz.zeroValue249 }
end Go.Proofs
namespace Go.Sh
open Go.RowKit
theorem afj{w w':World}{g q:Nat}{c:List Value}{e:TypeId}{d:Array Int}{os:Array Obj}(B:Blk w g c e)(hd:d.size≤c.length)
  (hw:w'=Sort.grow (Sort.putRow (Value.int .i64) (Sort.ahead w q) g 0 d) os):ExtBut (· = g) w w'∧Blk w' g (d.toList.map (Value.int .i64)++c.drop d.size) e:=by
 subst hw
 have hg:g<w.heap.size:=(Array.getElem?_eq_some_iff.1 B).1
 have hput:∀k,(Sort.putRow (Value.int .i64) (Sort.ahead w q) g 0 d).heap[k]? = if g=k then(w.heap[k]?).map (Sort.onCells (Sort.putCells (Value.int .i64) 0 d))else w.heap[k]?:=λk=>by
  simp only[Sort.putRow,Sort.mapBlock,Array.getElem?_modify]
  split<;>rfl
 have hsz:(Sort.putRow (Value.int .i64) (Sort.ahead w q) g 0 d).heap.size=w.heap.size:=by simp[Sort.ahead]
 refine⟨⟨rfl,rfl,rfl,by simp only[Sort.grow,Array.size_append,hsz];omega,λk hk hne=>?_⟩,?_⟩
 ·show((Sort.putRow (Value.int .i64) (Sort.ahead w q) g 0 d).heap++os)[k]? = _
  rw[Array.getElem?_append_left (by rw[hsz];exact hk),hput,if_neg (λh=>hne h.symm)]
 ·show((Sort.putRow (Value.int .i64) (Sort.ahead w q) g 0 d).heap++os)[g]? = _
  rw[Array.getElem?_append_left (by rw[hsz];exact hg),hput,if_pos rfl,B,Option.map_some]
  simp only[Sort.onCells]
  congr 2
  apply Array.ext_getElem?
  intro i
  simp only[Sort.putCells,Array.getElem?_mapIdx,List.getElem?_toArray,List.getElem?_append,List.length_map,Array.length_toList,List.getElem?_map,List.getElem?_drop,gzl,true_and,Nat.zero_add,Nat.sub_zero]
  by_cases hi:i<d.size
  ·rw[if_pos hi,gqg (by omega),Option.map_some,if_pos hi,Array.getElem?_toList,Array.getElem?_eq_getElem hi,getElem!_pos d i hi];rfl
  ·rw[if_neg hi,show d.size+(i-d.size)=i by omega]
   cases h:c[i]? with
   |none=>rfl
   |some x=>rw [Option.map_some,if_neg hi]
end Go.Sh
namespace Go.Proofs
open Go.Sh Go.RowKit
section
def xb(l:List Int):List Int:=l.mergeSort λx y=>decide (x≤y)
theorem Ye{l:List Int}:(xb l).length=l.length:=List.length_mergeSort l
variable {w0 w:World} {r:Gh} {L:List Asr} {X:Nat→Prop}
theorem abt{v:Value}{l:List Int}{K:Value→World→Prop}(S:StX X w0 r w (.row v 3 1 l.length (ints l)::L))(hl:l.length<4611686018427387904)
  (h:∀w',StX X w0 r w' (.row v 3 1 l.length (ints (xb l))::L)→K (.tuple #[]) w'):zb Tryz.prog Tryz.qS #[v] w K:=by
 have hr:w.ownsRow 0 3 1 v l.length (ints l):=S.has _ (List.mem_cons_self ..)
 rcases qR hr with⟨rfl,h1,h2⟩|⟨g,cap,c,rfl,hg,B,hn,hm,hcl,ht⟩
 ·have hl0:l=[]:=List.eq_nil_of_length_eq_zero h1
  subst hl0
  refine Calls.mono (Any.slices_Sort_int_none Tryz.adm none 0 w) ?_
  rintro e w' ⟨rfl,rfl⟩
  exact⟨_,rfl,h _ (by rw[show xb []=[]by simp[xb]];exact S)⟩
 ·rw[Nat.mul_one]at hcl ht
  have hcell:∀j,j<l.length→w.cell? ⟨g,j,none⟩=some (.int .i64 l[j]!):=λj hj=>by
   have :(c.take l.length)[j]? = some (.int .i64 l[j]!):=by
    rw[ht,ints,List.getElem?_map,gqg hj,getElem!_pos l j hj];rfl
   rw[List.getElem?_take,if_pos hj]at this
   rw[B.cell];exact this
  have hfz:∀j,w.frozen? ⟨g,j,none⟩=false:=λj=>B.unfrozen j
  refine Calls.mono (Any.slices_Sort_int Tryz.adm g 0 cap l w (λj hj=>⟨?_,hfz _⟩) (Array.getElem?_eq_some_iff.1 B).1 hl) ?_
  ·have hj:j<l.length:=by simpa using hj
   rw[Nat.zero_add,hcell j hj]
   simp[getElem!_pos,hj]
  rintro e w' ⟨rfl,q,os,hw⟩
  obtain⟨hE,hB⟩:=afj (d:=(xb l).toArray) B (by simp[Ye];omega) hw
  refine⟨_,rfl,h w' ?_⟩
  refine S.turn (p:=[]) (x:=.row (.slice (some ⟨g,0,none⟩) l.length cap) 3 1 l.length (ints l)) (y:=.row (.slice (some ⟨g,0,none⟩) l.length cap) 3 1 l.length (ints (xb l))) ?_ ?_ λk hk=>.inl hk
  ·exact hE.mono λk _ hk=>by subst hk;rfl
  ·have:=jj (base:=0) (e:=3) (size:=1) (n:=l.length) (cap:=cap) (gzl _) hB hn hm (by simp[Ye];omega)
   have e:((xb l).toArray.toList.map (Value.int .i64)++c.drop (xb l).toArray.size).take (l.length*1)=ints (xb l):=by
    rw[Nat.mul_one,List.take_append_of_le_length (by simp[Ye])]
    exact List.take_of_length_le (by simp[Ye])
   rwa[e]at this
theorem VL:∀{l m:List Int},l.Pairwise (· < ·)→m.Pairwise (· < ·)→(∀x,x∈l↔x∈m)→l=m
 |[],[],_,_,_=>rfl
 |[],y::m,_,_,h=>absurd ((h y).2 (List.mem_cons_self ..)) (by simp)
 |x::l,[],_,_,h=>absurd ((h x).1 (List.mem_cons_self ..)) (by simp)
 |x::l,y::m,hl,hm,h=>by
  have hl':=List.pairwise_cons.1 hl
  have hm':=List.pairwise_cons.1 hm
  have hxy:x=y:=by
   have h1:=(h x).1 (List.mem_cons_self ..)
   have h2:=(h y).2 (List.mem_cons_self ..)
   rcases List.mem_cons.1 h1 with e|h1
   ·exact e
   rcases List.mem_cons.1 h2 with e|h2
   ·exact e.symm
   have:=hl'.1 y h2;have:=hm'.1 x h1;omega
  subst hxy
  rw[VL hl'.2 hm'.2 λz=>?_]
  constructor
  ·intro hz
   rcases List.mem_cons.1 ((h z).1 (List.mem_cons_of_mem _ hz))with e|hz'
   ·have:=hl'.1 z hz;omega
   ·exact hz'
  ·intro hz
   rcases List.mem_cons.1 ((h z).2 (List.mem_cons_of_mem _ hz))with e|hz'
   ·have:=hm'.1 z hz;omega
   ·exact hz'
end
end Go.Proofs
namespace Go.Proofs
open Go.Sh
abbrev CnD:=Int×Int
end Go.Proofs
namespace Go.Proofs
theorem age{u:UnD}{g:GrD}{p:PtD}(h:yo u g p=true)(ho:p.op=4∨p.op=10∨p.op=11):(zC u.ss g.tys p.fr).2.2=true:=by
 have h2:=jS h
 cases hf:(zC u.ss g.tys p.fr).2.2 with
 |true=>rfl
 |false=>
  rw[ptG]at h2
  rcases ho with hc|hc|hc<;>simp [hc,hf]at h2
end Go.Proofs
namespace Go.Proofs
open Go.Sh Go.RowKit
section
variable {l:List Int} {p:Option Addr}
theorem Jn:RowOf 1 kB (ints l) l:=⟨by rw[ke,Nat.mul_one],λj hj=>by
 rw[Nat.mul_one,ints,← List.map_drop,← List.map_take,List.drop_eq_getElem_cons hj];rfl⟩
theorem ahH{α:Type}{r:Gh}{V:α→Value}{n cap:Nat}{l:List α}(h:SlG 1 r (λc x=>c=[V x]) (.slice p n cap) l){i:Nat}(hi:i<l.length):
  ∃b off,p=some ⟨b,off,none⟩∧n=l.length∧Ob r λw=>w.cell? ⟨b,off+i,none⟩=some (V l[i]):=by
 have hsh:=h.shape
 obtain⟨p',cap',e,_,_⟩:=hsh
 obtain⟨b,off,c,hE,hc,hcc,hcl⟩:=h.get (by decide) hi
 obtain rfl:c=_:=hcc
 cases e
 cases hE
 refine⟨b,off,rfl,rfl,?_⟩
 have:=hcl 0 _ rfl
 rwa[show off+i*1+0=off+i by omega]at this
theorem kx{r:Gh}{n cap:Nat}(h:SlG 1 r kB (.slice p n cap) l){i:Nat}(hi:i<l.length):∃b off,p=some ⟨b,off,none⟩∧n=l.length∧Ob r λw=>w.cell? ⟨b,off+i,none⟩=some (.int .i64 l[i]):=ahH (V:=Value.int .i64) h hi
end
theorem adn{r:Gh}{p:Option Addr}{n cap:Nat}{l:List Int}(h:SlG 1 r yN (.slice p n cap) l){i:Nat}(hi:i<l.length):∃b off,p=some ⟨b,off,none⟩∧n=l.length∧Ob r λw=>w.cell? ⟨b,off+i,none⟩=some (.int .i64 l[i]):=
 kx (h.mono λc x hx=>hx.1) hi
end Go.Proofs
namespace Go.Sh
open Go.RowKit Go.MapKept
def mpI(P:Program)(t:TypeId):Option (TypeId×TypeId):=match P.underlying t with
 |some (.map k e)=>(match P.underlying k with|some (.int .i64)=>some (k,e)|_=>none)
 |_=>none
theorem Xh{P:Program}{t k e:TypeId}(h:mpI P t=some (k,e)):P.underlying t=some (.map k e)∧P.underlying k=some (.int .i64):=by
 unfold mpI at h
 split at h
 ·rename_i k' e' h1
  split at h
  ·rename_i h2
   cases h;exact⟨h1,h2⟩
  ·cases h
 ·cases h
def ahI(m:MapEntry)(x:Int×Value):Prop:=m.key=.int .i64 x.1∧m.val=x.2
inductive EntsI:List MapEntry→List (Int×Value)→Prop
 |nil:EntsI [] []
 |cons {m:MapEntry} {x:Int×Value} {l:List MapEntry} {M:List (Int×Value)}:ahI m x→EntsI l M→EntsI (m::l) (x::M)
theorem EntsI.snoc{l:List MapEntry}{M:List (Int×Value)}{m:MapEntry}{x:Int×Value}(h:EntsI l M)(hm:ahI m x):EntsI (l++[m]) (M++[x]):=by
 induction h with
 |nil=>exact .cons hm .nil
 |cons h _ ih=>exact .cons h ih
theorem afk{x:Int}{kd:IntKind}{l:List MapEntry}{M:List (Int×Value)}(h:EntsI l M):∀{i:Nat},∃o,Instr.findNow (.int kd) (.int .i64 x) l i=some o∧o.map (·.2)=M.lookup x:=by
 induction h with
 |nil=>intro i;exact⟨none,rfl,rfl⟩
 |@cons m y l M hm h ih=>
  intro i
  obtain⟨hk,hv⟩:=hm
  obtain⟨y1,y2⟩:=y
  by_cases hx:x=y1
  ·subst hx
   refine⟨some (i,m.val),?_,?_⟩
   ·rw[Instr.findNow,hk];simp[Instr.sameNow]
   ·rw[List.lookup_cons,show (x == x)=true by simp,hv];rfl
  ·obtain⟨o,h1,h2⟩:=ih (i:=i+1)
   have hb:(x == y1)=false:=by simpa using hx
   refine⟨o,?_,?_⟩
   ·rw[Instr.findNow,hk];simp[Instr.sameNow,hb,h1]
   ·rw[List.lookup_cons,hb,h2]
class xo(b:Nat)(L:List Asr)(Q:outParam (Obj→Prop))(f:outParam (Asr→List Asr)):Prop where
 h:∃p q,L=p++.obj b Q::q∧∀y,f y=p++y::q
instance {b:Nat} {Q:Obj→Prop} {L:List Asr}:xo b (.obj b Q::L) Q λy=>y::L:=⟨[],L,rfl,λ_=>rfl⟩
instance (priority:=low) {b:Nat} {Q:Obj→Prop} {x:Asr} {L:List Asr} {f:Asr→List Asr} [h:xo b L Q f]:xo b (x::L) Q λy=>x::f y:=⟨by
 obtain⟨p,q,h1,h2⟩:=h.h
 exact⟨x::p,q,by rw[h1];rfl,λc'=>by rw[h2];rfl⟩⟩
end Go.Sh
namespace Go.Proofs
open Go.Sh Go.RowKit
section
variable {c:List Value}
theorem StX.frzNew{w0 w:World}{r:Gh}{L M:List Asr}{T:TypeId}(S:StX noX w0 r w L)(b:Nat)[h:jP b L c T M]:StX noX w0 (r.or (Go.Sh.one b c T)) w M∧Above w0 (Go.Sh.one b c T):=
 ⟨S.frzAt b,λk o ho=>by
  obtain⟨rfl,_⟩:=ho
  exact((S.permO h.h.symm).mine _ List.mem_cons_self k rfl).1.resolve_right id⟩
theorem yz{q:Gh}{b i:Nat}{T:TypeId}{v:Value}[Le (Go.Sh.one b c T) q](h:c[i]? = some v):Ob q λw=>w.cell? ⟨b,i,none⟩=some v:=λw hw=>by
 have B:Blk w b c T:=yK w (hw.le (h:=inferInstance))
 show w.cell? ⟨b,i,none⟩=some v
 rw[B.cell];exact h
end
end Go.Proofs
