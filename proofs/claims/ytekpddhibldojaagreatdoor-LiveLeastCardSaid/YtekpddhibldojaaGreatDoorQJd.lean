/-
  Contracts: whether a point is as it must be.
  Which programs may be: what it tells when one may.
  Contracts: heads of graphs; Check and May of graph.
  Contracts: the regions of a function, numbered.
  Contracts: all regions of a function; Of, Width.
  Contracts: Of, Width, Place, Borrowed, Called of region.
  Texts of points, of both sides.
  Contracts: Borrowed, Called of region.
  Contracts: SameType of the reference, typeFits and spoil of law 13.
  Contracts: the example of law 13, and what is told of it.
  What is told of the example of law 13; awake.
  Contracts: fits of law 13; lists of numbers read in a memory that stays.
  What is cleared: the end of a slice of one's own.
  Contracts: a function, a point of a program; Assigns, Type, Operands of graph.
  graph.Text, graph.Lines, graph.Next.
  Shallow readings of functions. Made by a program (wip/gen/gen.py) out of the translation; the kernel checks each equality.
  Points compared: slices.EqualFunc of any kind; places, operands, points.
  graph.Same: two programs are the same.
  graph.Same: points, graphs, structs, units compared.
  graph.Same: graphs, structs, units compared.
  loanwordlaw10: fits; graph.Next.
  Contracts: the operands of a point.
  Shapes: what regions say nothing of; the plain law of RegionShapes.
  Contracts: Operands of graph.
  graph.Next; the example of law 10.
  loanwordlaw10: awake.
  Shallow readings of functions. Made by a program (wip/gen/gen.py) out of the translation; the kernel checks each equality.
  The document's answer of layer 9: which types may be; how many words.
  The document's answer of layer 9: words, endless, Structs, Types.
  The document's answer of layer 9: Structs, Types, step, Walk.
  The document's answer of layer 9: step, Walk.
  The document's answer of layer 10: small parts.
  The document's answer of layer 10: rest.
  The document's answer of layer 10: walk, to, operand, args of an asker.
  The document's answer of layer 10: operand, args of an asker.
  Joined conditions with calls in them; facts of an asker.
  The document's answer of layer 10: a point.
  The document's answer of layer 10: what a type implies; the head of a graph.
  The document's answer of layer 10: the head of a graph.
  The document's answer of layer 10: Check, May, Is.
  loanwordlaw10.GraphTexts: whatever the program, the function, the point: the law returns true.
  Contracts of the library, laid at this program (by the kit's own tools).
  slices.Sort, slices.Compact, slices.Clip of a row of numbers that the walk has made itself.
  graph.Calls and the document's Calls.
  What the document says of points: Next, Operands, Assigns, Calls, places compared.
  Plain: nets (who comes behind whom), what is reached without going on from some, looked for breadth first.
  loanwordref10.Own: places and operands; what a memory of one's own tells.
  Contract: loanwordref10.Own, a program in memory of its own; one function's lists are told as rows that may be written over.
  Plain: a program that may be still may be with another point, or a local more; what it tells of sizes.
  Plain: a program that may be, with one function changed; what a point that may be tells of its operands' types.
  The net of a graph that may be.
  Plain: who lies above whom (without it there is no way): found by going round until nothing changes.
  Plain: the walk from point 0 (deep first) as steps of a machine; what is left behind.
  Plain: what the walk leaves behind: each point that is reached once; edges back; who lies above comes ahead.
  Plain: shortest ways, the first of them by number; found level by level.
  Plain: a round of levels; the way that is found.
  Plain: the document's shortest way: how far it is to the end, then always the least that comes nearer.
  Plain: where one goes round: what reaches a point without going through another one.
  Plain: who lies above whom is a chain; right above.
  Plain: places in the order; two small nets, reckoned.
  Plain: what the statements of Flow ask of ways, of what lies above, of the order.
  Plain: which locals a point uses, which one ends there; where a local is live; why.
  Plain: where locals are live, as marks; a list of work; round and round.
  Plain: why a local is live; step by step; the least closed rows.
  Plain: marks as rows of bits.
  Rows of one's own as cells, and back; a row cut shorter.
  Shallow readings of functions. Made by a program (wip/gen/gen.py) out of the translation; the kernel checks each equality.
  Contracts: slices of numbers and of marks: Contains, Clone, Equal, Repeat, Reverse.
  Shallow readings of functions. Made by a program (wip/gen/gen.py) out of the translation; the kernel checks each equality.
  Contracts of flow: a net is told of a program; has, before, marked, reached.
  Contracts of flow: the net of a program; what is reached.
  Contract of flow: the walk.
  Contract of flow: who lies above whom. Rows of marks in memory.
  Contract of flow: (net).above.
  Contracts of flow: Before, Reach, Above, Order, Back. Made by a program (wip/gen/flowc.py).
  More of the seat's types, reckoned. Made by a program (wip/gen/gen.py).
-/
import Derived.Test.YtekpddhibldojaaGreatDoorQJc
import Derived.Test.YtekpddhibldojaaGreatDoorQJb
import GoSem.Builtin.Clear
import Derived.Shelf.Sort.Plain
import Derived.Shelf.Bits.Mul64
import Derived.Shelf.Slices.Reverse
import Derived.Shelf.Slices.Clone
import Derived.Shelf.Slices.CompactI
import Derived.Shelf.Slices.In.SortNone
import Derived.Test.YtekpddhibldojaaGreatDoorProg
import Derived.KernelRfl
import Derived.Test.YtekpddhibldojaaGreatDoorQJa
section
namespace Go.Proofs
open Go.Sh
set_option maxRecDepth 100000
set_option linter.unusedSimpArgs false
set_option linter.unusedVariables false
structure PaD where
 tt : TyD
 tm : Int
 tok : Bool
 ft : TyD
 fm : Int
 fok : Bool
 at' : TyD
 aok : Bool
 bt : TyD
 bok : Bool
noncomputable def ptH (u : UnD) (g : GrD) (p : PtD) (x : PaD) : Bool:=
 if p.op=1 then ((zz p { to:=true,a:=true } && (x.tok&&decide (x.tm<3)))&&x.aok)&&yh yV x.at' x.tt
 else if p.op=2 then
  (zz p { to:=true,a:=true,b:=true,sign:=true } && ((x.tok&&decide (x.tm<3))&&(x.aok&&x.bok))) &&
   (if yP p.sign [[43],[45],[42],[47],[37]] then isK x.tt 1&&(isK x.at' 1&&isK x.bt 1)
    else if yP p.sign [[60],[60,61],[62],[62,61]] then isK x.tt 2&&(isK x.at' 1&&isK x.bt 1)
    else if yP p.sign [[61,61],[33,61]] then isK x.tt 2&&((isK x.at' 1&&isK x.bt 1)||(isK x.at' 2&&isK x.bt 2)) else false)
 else if p.op=3 then
  ((zz p { to:=true,a:=true,sign:=true } && (x.tok&&decide (x.tm<3)))&&x.aok) &&
   (if yP p.sign [[45]] then isK x.tt 1&&isK x.at' 1 else if yP p.sign [[33]] then isK x.tt 2&&isK x.at' 2 else false)
 else if p.op=4 then
  ((((zz p { to:=true,fr:=true,mu:=true } && (x.tok&&decide (x.tm<3)))&&x.fok)&&isK x.tt 4)&&(x.tt.m == p.mu))&&(yh yV (x.tt.of.headD yr) x.ft && !(p.mu&&decide (x.fm=3)))
 else if p.op=5 then (((zz p { to:=true,a:=true } && (x.tok&&decide (x.tm<3)))&&x.aok)&&isK x.tt 3)&&yh yV (x.tt.of.headD yr) x.at'
 else if p.op=6 then
  (((zz p { to:=true,args:=true,st:=true } && (x.tok&&decide (x.tm<3)))&&isK x.tt 5)&&decide (x.tt.st=p.st))&&xJ u.ss g.tys p.args (xd u.ss x.tt).1
 else if p.op=7 then
  ((zz p { to:=true,args:=true,fn:=true } && (x.tok&&decide (x.tm<3)))&&(decide (0≤p.fn)&&decide (p.fn<u.fs.length))) &&
   (match u.fs[p.fn.toNat]? with
    |some f=>yh yV x.tt (f.tys.headD yr)&&xJ u.ss g.tys p.args ((f.tys.drop 1).take f.pn.toNat)
    |none=>false)
 else if p.op=8 then (zz p { to:=true } && (x.tok&&decide (x.tm<3)))&&isK x.tt 1
 else if p.op=9 then (zz p { a:=true } && x.aok)&&isK x.at' 1
 else if p.op=10 then ((zz p { fr:=true } && x.fok)&&(vJ u.ss x.ft).1)&&decide (x.fm<2)
 else if p.op=11 then ((zz p { fr:=true } && x.fok)&&decide (0<p.fr.l))&&decide (p.fr.ps.length=0)
 else if p.op=12 then ((zz p { a:=true,el:=true } && x.aok)&&isK x.at' 2)&&Yf g p.el
 else if p.op=13∨p.op=14 then zz p {}
 else false
noncomputable def pad (u : UnD) (g : GrD) (p : PtD) : PaD:=
 ⟨(zJ u.ss g.tys p.to).1,(zJ u.ss g.tys p.to).2.1,(zJ u.ss g.tys p.to).2.2,(zJ u.ss g.tys p.fr).1,(zJ u.ss g.tys p.fr).2.1,(zJ u.ss g.tys p.fr).2.2,
  (yc u.ss g.tys p.a).1,(yc u.ss g.tys p.a).2,(yc u.ss g.tys p.b).1,(yc u.ss g.tys p.b).2⟩
theorem ahB (u : UnD) (g : GrD) (p : PtD) : ptG u g p=ptH u g p (pad u g p):=rfl
theorem bb4 {a b c d : Bool} (h : (((!a || !b) || !c) || !d)=true) : (a&&(b&&(c&&d)))=false:=by revert h;cases a<;>cases b<;>cases c<;>cases d<;>simp
theorem aiw {a b c d : Bool} (h : (((!a || !b) || !c) || !d)=false) : (a&&(b&&(c&&d)))=true:=by revert h;cases a<;>cases b<;>cases c<;>cases d<;>simp
theorem bb3 {a b c : Bool} {x y : Int} (h : (((!a || !b) || !c)||decide (x≠y))=true) : (((a&&b)&&c)&&decide (x=y))=false:=by
 by_cases e : x=y
 ·simp only [e] at h ⊢;revert h;cases a<;>cases b<;>cases c<;>simp
 ·simp [e]
theorem aix {a b c : Bool} {x y : Int} (h : (((!a || !b) || !c)||decide (x≠y))=false) : (((a&&b)&&c)&&decide (x=y))=true:=by
 by_cases e : x=y
 ·simp only [e] at h ⊢;revert h;cases a<;>cases b<;>cases c<;>simp
 ·simp [e] at h
theorem bb5 {a b : Bool} {x y : Int} (h : (((!a || !b)||decide (x<0))||decide (y≤x))=true) : ((a&&b)&&(decide (0≤x)&&decide (x<y)))=false:=by
 by_cases e : 0≤x<;>by_cases f : x<y
 ·rw [decide_eq_false (show ¬ x<0 by omega),decide_eq_false (show ¬ y≤x by omega)] at h
  revert h;cases a<;>cases b<;>simp
 all_goals simp [e,f]
theorem aiy {a b : Bool} {x y : Int} (h : (((!a || !b)||decide (x<0))||decide (y≤x))=false) : ((a&&b)&&(decide (0≤x)&&decide (x<y)))=true:=by
 simp only [Bool.or_eq_false_iff,decide_eq_false_iff_not,Bool.not_eq_false'] at h
 obtain ⟨⟨⟨h1,h2⟩,h3⟩,h4⟩:=h
 rw [h1,h2,decide_eq_true (show 0≤x by omega),decide_eq_true (show x<y by omega)];rfl
theorem mpK : mpT Tryz.prog 177=some (9,81):=by kernel_rfl
theorem mpZ : zr1 Tryz.prog 81=some (.int .u8 0):=by kernel_rfl
theorem afi (x : ByteArray) (f g : Int→Bool) : ∃ ks : Int,(Yj x ((#[].push (⟨.string (bs [45]),.int .u8 1,0⟩ : MapEntry)).push ⟨.string (bs [33]),.int .u8 2,0+1⟩).toList).getD (.int .u8 0) = .int .u8 ks∧
  ((decide (ks≠0)&&f ks)&&g ks)=(if yP x [[45]] then f 1&&g 1 else if yP x [[33]] then f 2&&g 2 else false):=by
 have e : ((#[].push (⟨.string (bs [45]),.int .u8 1,0⟩ : MapEntry)).push ⟨.string (bs [33]),.int .u8 2,0+1⟩).toList = [⟨.string (bs [45]),.int .u8 1,0⟩,⟨.string (bs [33]),.int .u8 2,0+1⟩]:=rfl
 rw [e]
 simp only [Yj,aeg,Vu,yP,List.any_cons,List.any_nil,Bool.or_false]
 by_cases h1 : (x.toList == [45])=true
 ·exact ⟨1,by rw [if_pos h1];rfl,by rw [if_pos h1];simp⟩
 ·by_cases h2 : (x.toList == [33])=true
  ·exact ⟨2,by rw [if_neg h1,if_pos h2];rfl,by rw [if_neg h1,if_pos h2];simp⟩
  ·exact ⟨0,by rw [if_neg h1,if_neg h2];rfl,by rw [if_neg h1,if_neg h2];simp⟩
set_option maxHeartbeats 20000000 in
theorem YK {u : UnD} {g : GrD} {p : PtD} {c : List Value} {v : Value} {w : World} {r : Gh} {K : Value→World→Prop} (hr : Holds r w) (hx : AskG r v u g) (hf : Yh u.ss g.tys) (hfs : ∀ f ∈ u.fs,0≤f.pn∧f.pn<f.tys.length) (hp : PtG r c p)
  (h : ∀ w',Ext w w'→K (.bool (zV u g p)) w') : zd Tryz.prog Tryz.x7 #[v,.agg c.toArray] w K:=by
 have hx0:=hx
 obtain ⟨p0,cap0,vf,vo,vt,vn,vp,rfl,hu,hg⟩:=hx
 have hu0:=hu
 obtain ⟨_,_,_,hE,_,_,hst,_,hfn⟩:=hu
 cases hE
 obtain ⟨qfn,capfn,rfl,_,_⟩:=hfn.sl.shape
 obtain ⟨_,_,_,_,hE,_,htys,_,hpts⟩:=hg
 cases hE
 obtain ⟨qp,capp,rfl,_,_⟩:=hpts.sl.shape
 have hp0:=hp
 obtain ⟨vto,va,vb,vl,vfr,rfl,h1,h2,h3,h4,h5⟩:=hp
 obtain ⟨qto,capto,rfl,_,_⟩:=h1.sl.shape
 obtain ⟨qa,capa,rfl,_,_⟩:=h2.sl.shape
 obtain ⟨qb,capb,rfl,_,_⟩:=h3.sl.shape
 obtain ⟨ql,capl,rfl,_,_⟩:=h4.sl.shape
 obtain ⟨qf,capf,rfl,_,_⟩:=h5.sl.shape
 have hpto : PlG r [.int .i64 p.to.l,.slice qto p.to.ps.length capto] p.to:=⟨_,rfl,h1⟩
 have hpfr : PlG r [.int .i64 p.fr.l,.slice qf p.fr.ps.length capf] p.fr:=⟨_,rfl,h5⟩
 have hoa : OpG r [.int .u8 p.a.k,.int .i64 p.a.n,.int .i64 p.a.pl.l,.slice qa p.a.pl.ps.length capa] p.a:=⟨_,rfl,h2⟩
 have hob : OpG r [.int .u8 p.b.k,.int .i64 p.b.n,.int .i64 p.b.pl.l,.slice qb p.b.pl.ps.length capb] p.b:=⟨_,rfl,h3⟩
 refine Tryz.Ya ?_
 unfold Tryz.qQ
 have S:=St.start hr
 refine S.box fun b2 w1 S=>?_
 refine S.box fun b3 w2 S=>?_
 refine gg_ ?_
 refine S.al fun b5 w3 S=>?_
 refine S.st (b:=b5) fun w4 S=>?_
 refine gg_ ?_
 refine J8 (g:=decide (p.op≠14)) (c:=!Yf g p.nx) (fun _ K2 hK2=>?_) (fun _ K2 hK2=>?_) ?_
 ·refine gg_ ?_
  exact hK2
 ·refine gg_ ?_
  refine VA (b:=b5) S ?_
  refine gp_ ?_
  exact hK2
 refine J8 (g:=decide (p.op=14)) (c:=decide (p.nx≠0)) (fun _ K2 hK2=>?_) (fun _ K2 hK2=>?_) ?_
 ·refine gg_ ?_
  exact hK2
 ·refine gg_ ?_
  exact hK2
 have hpg : zV u g p=(!((decide (p.tx<0)||(decide (p.op≠14) && !Yf g p.nx))||(decide (p.op=14)&&decide (p.nx≠0)))&&ptG u g p):=by
  rw [zV];simp only [decide_not]
 rw [hpg] at h
 refine c_b (fun hbad=>?_) (fun hgood=>?_)
 ·rw [hbad,Bool.not_true,Bool.false_and] at h
  exact h _ S.ext
 rw [hgood,Bool.not_false,Bool.true_and,ahB] at h
 clear hpg hgood
 have S:=S.go (Ext.drew _)
 have S : StX noX w r w4.drew [.cell b5 [.int .i64 (g.pts.length : Nat)] 3,
   .cell b3 [.int .u8 p.op,.int .i64 p.to.l,.slice qto p.to.ps.length capto,.int .u8 p.a.k,.int .i64 p.a.n,.int .i64 p.a.pl.l,.slice qa p.a.pl.ps.length capa,.int .u8 p.b.k,.int .i64 p.b.n,.int .i64 p.b.pl.l,.slice qb p.b.pl.ps.length capb,.slice ql p.args.length capl,
    .string p.sign,.int .i64 p.fr.l,.slice qf p.fr.ps.length capf,.bool p.mu,.int .i64 p.fn,.int .i64 p.st,.int .i64 p.nx,.int .i64 p.el,.int .i64 p.tx] 92,
   .cell b2 [.slice p0 u.ss.length cap0,.slice qfn u.fs.length capfn,.int .i64 u.mn,.string g.name,.int .i64 g.lv,vo,.int .i64 g.pn,vt,vn,.slice qp g.pts.length capp] 143]:=S
 obtain ⟨tt,tm,tok,hspt⟩ : ∃ tt tm tok,zJ u.ss g.tys p.to=(tt,tm,tok):=⟨_,_,_,rfl⟩
 obtain ⟨ft,fm,fok,hspf⟩ : ∃ tt tm tok,zJ u.ss g.tys p.fr=(tt,tm,tok):=⟨_,_,_,rfl⟩
 obtain ⟨ta,aok,hopa⟩ : ∃ t ok,yc u.ss g.tys p.a=(t,ok):=⟨_,_,rfl⟩
 obtain ⟨tb,bok,hopb⟩ : ∃ t ok,yc u.ss g.tys p.b=(t,ok):=⟨_,_,rfl⟩
 have hpad : pad u g p=⟨tt,tm,tok,ft,fm,fok,ta,aok,tb,bok⟩:=by simp only [pad,hspt,hspf,hopa,hopb]
 rw [hpad,ptH] at h
 dsimp only at h
 have inside : tok=true→(tt.k=3∨tt.k=4)→∃ uu,tt.of = [uu]:=by
  intro h1 h2
  have hfi:=ad8 hf (p:=p.to) (by rw [hspt];exact h1)
  rw [hspt] at hfi
  rcases Fine.cases hfi with ⟨_,h3⟩|⟨uu,h3,_⟩
  ·have h3 : tt.k=1∨tt.k=2∨tt.k=5:=h3
   omega
  ·exact ⟨uu,h3⟩
 refine zq (fun s w'=>∃ b7 b8 q7 c7 q8 c8,s = [.pointer (some ⟨b7,0,none⟩),.pointer (some ⟨b8,0,none⟩)]∧TyG r (tyV tt q7 c7) tt∧TyG r (tyV ft q8 c8) ft∧
  StX noX w r w' (.cell b8 (spL ft q8 c8 fm fok) 165 :: .cell b7 (spL tt q7 c7 tm tok) 165 :: [.cell b5 [.int .i64 (g.pts.length : Nat)] 3,
   .cell b3 [.int .u8 p.op,.int .i64 p.to.l,.slice qto p.to.ps.length capto,.int .u8 p.a.k,.int .i64 p.a.n,.int .i64 p.a.pl.l,.slice qa p.a.pl.ps.length capa,.int .u8 p.b.k,.int .i64 p.b.n,.int .i64 p.b.pl.l,.slice qb p.b.pl.ps.length capb,.slice ql p.args.length capl,
    .string p.sign,.int .i64 p.fr.l,.slice qf p.fr.ps.length capf,.bool p.mu,.int .i64 p.fn,.int .i64 p.st,.int .i64 p.nx,.int .i64 p.el,.int .i64 p.tx] 92,
   .cell b2 [.slice p0 u.ss.length cap0,.slice qfn u.fs.length capfn,.int .i64 u.mn,.string g.name,.int .i64 g.lv,vo,.int .i64 g.pn,vt,vn,.slice qp g.pts.length capp] 143])) (fun K30 hK30=>?_) ?_
 ·refine S.ldB (b:=b2) ?_ rfl
  refine gp_ ?_
  refine S.ldN (b:=b3) ?_
  refine S.ldB (b:=b2) ?_ rfl
  refine gp_ ?_
  refine S.ldN (b:=b3) ?_
  repeat' (first
   |(refine S.alU fun b9 w9 S=>?_)
   |(refine S.al fun b9 w9 S=>?_)
   |(refine S.stB fun w9 S=>?_)
   |(refine yD S.holds hx0 hf hpto hspt (fun q7 c7 w9 e9 ht7=>⟨e9,?_⟩);have S:=S.go e9)
   |(refine yD S.holds hx0 hf hpto hspt (fun q7 c7 w9 e9 ht7=>?_);have S:=S.go e9)
   |(refine yD S.holds hx0 hf hpfr hspf (fun q8 c8 w9 e9 ht8=>⟨e9,?_⟩);have S:=S.go e9)
   |(refine yD S.holds hx0 hf hpfr hspf (fun q8 c8 w9 e9 ht8=>?_);have S:=S.go e9)
   |exact hK30 _ _ ⟨_,_,_,_,_,_,rfl,ht7,ht8,S⟩
   |exact hK30 _ _ ⟨_,_,_,_,_,_,rfl,ht7,ht8,S.swap⟩
   |refine ⟨?_,?_⟩)
 clear S
 rintro _ w33 ⟨b7,b8,q7,c7,q8,c8,rfl,ht7,ht8,S⟩ d33
 simp only [List.getD_cons_zero,List.getD_cons_succ]
 refine gg_ ?_
 refine zi (c:=decide (tm<3)) (fun _ K2 hK2=>?_) ?_
 ·refine gg_ ?_
  exact hK2
 refine S.ldB (b:=b2) ?_ rfl
 refine gp_ ?_
 refine S.ldN (b:=b3) ?_
 refine xv S.holds hx0 hf hoa hopa fun q10 c10 w34 e34 hta=>?_
 have S:=S.go e34
 refine gp_ ?_
 refine gp_ ?_
 refine S.al fun b10 w35 S=>?_
 refine S.stB (b:=b10) fun w36 S=>?_
 refine S.ldB (b:=b2) ?_ rfl
 refine gp_ ?_
 refine S.ldN (b:=b3) ?_
 refine xv S.holds hx0 hf hob hopb fun q12 c12 w37 e37 htb=>?_
 have S:=S.go e37
 refine gp_ ?_
 refine gp_ ?_
 refine S.al fun b12 w38 S=>?_
 refine S.stB (b:=b12) fun w39 S=>?_
 refine gg_ ?_
 refine zm (fun ho=>?_) (fun ho=>?_)
 ·rw [if_pos ho] at h
  refine S.ldB (b:=b3) ?_ rfl
  refine gp_ ?_
  refine zN (f:={ to:=true,a:=true }) S.holds hp0 fun w31 e31=>?_
  have S:=S.go e31
  refine zi (c:=tok&&decide (tm<3)) (fun _ K2 hK2=>hK2) ?_
  refine zi (c:=aok) (fun _ K2 hK2=>hK2) ?_
  refine zT (c:=yh yV ta tt) (fun _ K2 hK2=>?_) fun w32 e32=>h _ (S.go e32).ext
  refine S.ldB (b:=b10) ?_ rfl
  refine gp_ ?_
  refine S.ldN (b:=b7) ?_
  exact xR S.holds hta ht7 fun w33 e33=>hK2 _ e33
 rw [if_neg ho] at h
 clear ho
 refine gg_ ?_
 refine zm (fun ho=>?_) (fun ho=>?_)
 ·rw [if_pos ho] at h
  refine S.ldB (b:=b3) ?_ rfl
  refine gp_ ?_
  refine zN (f:={ to:=true,a:=true,b:=true,sign:=true }) S.holds hp0 fun w31 e31=>?_
  have S:=S.go e31
  refine gp_ ?_
  refine zo (c:=!(tok&&decide (tm<3))) (fun _ K2 hK2=>?_) ?_
  ·refine gp_ ?_
   exact hK2
  refine zo (c:=!aok) (fun _ K2 hK2=>?_) ?_
  ·refine gp_ ?_
   exact hK2
  refine zo (c:=!bok) (fun _ K2 hK2=>?_) ?_
  ·refine gp_ ?_
   exact hK2
  refine c_b (fun hc=>?_) (fun hc=>?_)
  ·rw [bb4 hc,Bool.false_and] at h
   exact h _ S.ext
  rw [aiw hc,Bool.true_and] at h
  refine S.ldB (b:=b10) ?_ rfl
  refine z7 S.holds fun w34 e34=>?_
  have S:=S.go e34
  refine zT (c:=isK tb 1) (fun hb K2 hK2=>?_) fun w32 e32=>?_
  ·refine S.ldB (b:=b12) ?_ rfl
   exact z7 S.holds fun w33 e33=>hK2 _ e33
  have S:=S.go e32
  refine gg_ ?_
  refine zq (fun s w'=>s = [.bool (yP p.sign [[43],[45],[42],[47],[37]])]∧Ext w32 w') (fun K9 hK9=>?_) ?_
  ·have hk:=hK9 _ _ ⟨rfl,Ext.refl _⟩
   simp only [yP,List.any_cons,List.any_nil,Bool.or_false] at hk
   refine gp_ ?_
   refine qD hk fun _ hk=>?_
   refine gp_ ?_
   refine qD hk fun _ hk=>?_
   refine gp_ ?_
   refine qD hk fun _ hk=>?_
   refine gp_ ?_
   refine qD hk fun _ hk=>?_
   refine gp_ ?_
   exact hk
  rintro _ w41 ⟨rfl,e41⟩ d41
  have S:=S.go e41
  rw [List.getD_cons_zero]
  refine c_b (fun hs=>?_) (fun hs=>?_)
  ·rw [if_pos hs] at h
   refine gp_ ?_
   refine S.ldN (b:=b7) ?_
   refine z7 S.holds fun w35 e35=>?_
   have S:=S.go e35
   exact zi (c:=isK ta 1&&isK tb 1) (fun _ K2 hK2=>hK2) (h _ S.ext)
  rw [if_neg (by rw [hs];decide)] at h
  refine zq (fun s w'=>s = [.bool (yP p.sign [[60],[60,61],[62],[62,61]])]∧Ext w41 w') (fun K9 hK9=>?_) ?_
  ·have hk:=hK9 _ _ ⟨rfl,Ext.refl _⟩
   simp only [yP,List.any_cons,List.any_nil,Bool.or_false] at hk
   refine gp_ ?_
   refine qD hk fun _ hk=>?_
   refine gp_ ?_
   refine qD hk fun _ hk=>?_
   refine gp_ ?_
   refine qD hk fun _ hk=>?_
   refine gp_ ?_
   exact hk
  rintro _ w41 ⟨rfl,e41⟩ d41
  have S:=S.go e41
  rw [List.getD_cons_zero]
  refine c_b (fun hs=>?_) (fun hs=>?_)
  ·rw [if_pos hs] at h
   refine gp_ ?_
   refine S.ldN (b:=b7) ?_
   refine z7 S.holds fun w35 e35=>?_
   have S:=S.go e35
   exact zi (c:=isK ta 1&&isK tb 1) (fun _ K2 hK2=>hK2) (h _ S.ext)
  rw [if_neg (by rw [hs];decide)] at h
  refine zq (fun s w'=>s = [.bool (yP p.sign [[61,61],[33,61]])]∧Ext w41 w') (fun K9 hK9=>?_) ?_
  ·have hk:=hK9 _ _ ⟨rfl,Ext.refl _⟩
   simp only [yP,List.any_cons,List.any_nil,Bool.or_false] at hk
   refine gp_ ?_
   refine qD hk fun _ hk=>?_
   refine gp_ ?_
   exact hk
  rintro _ w41 ⟨rfl,e41⟩ d41
  have S:=S.go e41
  rw [List.getD_cons_zero]
  refine c_b (fun hs=>?_) (fun hs=>?_)
  rotate_left
  ·rw [if_neg (by rw [hs];decide)] at h
   exact h _ S.ext
  rw [if_pos hs] at h
  refine gp_ ?_
  refine S.ldN (b:=b7) ?_
  refine z7 S.holds fun w35 e35=>?_
  have S:=S.go e35
  generalize isK tt 2=x1 at h ⊢
  generalize (isK ta 1&&isK tb 1)=x2 at h ⊢
  cases x1 with
  |false=>
   (intro K9 hK9;refine gd_ ?_;refine hK9 _ _ fun _=>?_;clear hK9 K9)
   (intro K9 hK9;refine gd_ ?_;refine hK9 _ _ fun _=>?_;clear hK9 K9)
   (intro K9 hK9;refine gd_ ?_;refine hK9 _ _ fun _=>?_;clear hK9 K9)
   (intro K9 hK9;refine gd_ ?_;refine hK9 _ _ fun _=>?_;clear hK9 K9)
   (intro K9 hK9;refine gd_ ?_;refine hK9 _ _ fun _=>?_;clear hK9 K9)
   refine gd_ ?_
   exact h _ S.ext
  |true=>
   cases x2 with
   |true=>
    (intro K9 hK9;refine gd_ ?_;refine hK9 _ _ fun _=>?_;clear hK9 K9)
    (intro K9 hK9;refine gd_ ?_;refine hK9 _ _ fun _=>?_;clear hK9 K9)
    (intro K9 hK9;refine gd_ ?_;refine hK9 _ _ fun _=>?_;clear hK9 K9)
    (intro K9 hK9;refine gd_ ?_;refine hK9 _ _ fun _=>?_;clear hK9 K9)
    (intro K9 hK9;refine gd_ ?_;refine hK9 _ _ fun _=>?_;clear hK9 K9)
    refine gd_ ?_
    exact h _ S.ext
   |false=>
    (intro K9 hK9;refine gd_ ?_;refine hK9 _ _ fun _=>?_;clear hK9 K9)
    refine zq (fun s w'=>s = [.bool (isK ta 2)]∧Ext w35 w') (fun K9 hK9=>?_) ?_
    ·refine gd_ ?_
     exact z7 S.holds fun w36 e36=>hK9 _ _ ⟨rfl,e36⟩
    rintro _ w37 ⟨rfl,e37⟩ d37
    have S:=S.go e37
    generalize isK ta 2=x3 at h ⊢
    cases x3 with
    |false=>
     (intro K9 hK9;refine gd_ ?_;refine hK9 _ _ fun _=>?_;clear hK9 K9)
     (intro K9 hK9;refine gd_ ?_;refine hK9 _ _ fun _=>?_;clear hK9 K9)
     (intro K9 hK9;refine gd_ ?_;refine hK9 _ _ fun _=>?_;clear hK9 K9)
     refine gd_ ?_
     exact h _ S.ext
    |true=>
     refine zq (fun s w'=>s = [.bool (isK tb 2)]∧Ext w37 w') (fun K9 hK9=>?_) ?_
     ·refine gd_ ?_
      exact z7 S.holds fun w36 e36=>hK9 _ _ ⟨rfl,e36⟩
     rintro _ w38 ⟨rfl,e38⟩ d38
     have S:=S.go e38
     generalize isK tb 2=x4 at h ⊢
     (intro K9 hK9;refine gd_ ?_;refine hK9 _ _ fun _=>?_;clear hK9 K9)
     (intro K9 hK9;refine gd_ ?_;refine hK9 _ _ fun _=>?_;clear hK9 K9)
     refine gd_ ?_
     cases x4<;>exact h _ S.ext
 rw [if_neg ho] at h
 clear ho
 refine gg_ ?_
 refine zm (fun ho=>?_) (fun ho=>?_)
 ·rw [if_pos ho] at h
  refine S.mkMap fun b70 w70 S=>?_
  refine S.mapAdd mpK (by intro m hm;cases hm) rfl fun w71 S=>?_
  refine S.mapAdd mpK (by intro m hm;rcases List.mem_cons.1 hm with rfl|hm<;>first|exact ⟨_,rfl⟩|cases hm) (by decide) fun w72 S=>?_
  refine gg_ ?_
  refine S.mapGet mpK mpZ (by
   intro m hm
   rcases List.mem_cons.1 hm with rfl|hm
   ·exact ⟨_,rfl⟩
   rcases List.mem_cons.1 hm with rfl|hm<;>first|exact ⟨_,rfl⟩|cases hm) ?_
  obtain ⟨ks,hks,hk2⟩:=afi p.sign (isK tt) (isK ta)
  rw [hks]
  refine S.ldB (b:=b3) ?_ rfl
  refine gp_ ?_
  refine zN (f:={ to:=true,a:=true,sign:=true }) S.holds hp0 fun w31 e31=>?_
  have S:=S.go e31
  refine zi (c:=tok&&decide (tm<3)) (fun _ K2 hK2=>hK2) ?_
  refine zi (c:=aok) (fun _ K2 hK2=>hK2) ?_
  refine zi (c:=decide (ks≠0)) (fun _ K2 hK2=>?_) ?_
  ·refine gp_ ?_
   exact hK2
  refine zT (c:=isK tt ks) (fun hb K2 hK2=>?_) fun w32 e32=>?_
  ·refine gp_ ?_
   refine S.ldN (b:=b7) ?_
   exact z7 S.holds fun w33 e33=>hK2 _ e33
  have S:=S.go e32
  refine zT (c:=isK ta ks) (fun hb K2 hK2=>?_) fun w32 e32=>?_
  ·refine S.ldB (b:=b10) ?_ rfl
   exact z7 S.holds fun w33 e33=>hK2 _ e33
  have S:=S.go e32
  have:=h _ S.ext
  rw [← hk2] at this
  simpa only [Bool.and_assoc] using this
 rw [if_neg ho] at h
 clear ho
 refine gg_ ?_
 refine zm (fun ho=>?_) (fun ho=>?_)
 ·rw [if_pos ho] at h
  have S:=S.go (Ext.drew _)
  refine S.ldB (b:=b3) ?_ rfl
  refine gp_ ?_
  refine zN (f:={ to:=true,fr:=true,mu:=true }) S.holds hp0 fun w31 e31=>?_
  have S:=S.go e31
  refine zi (c:=tok&&decide (tm<3)) (fun _ K2 hK2=>hK2) ?_
  refine zi (c:=fok) (fun _ K2 hK2=>?_) ?_
  ·refine gg_ ?_
   exact hK2
  refine zT (c:=isK tt 4) (fun hb K2 hK2=>?_) fun w32 e32=>?_
  ·refine gp_ ?_
   refine S.ldN (b:=b7) ?_
   exact z7 S.holds fun w33 e33=>hK2 _ e33
  have S:=S.go e32
  refine zi (c:=tt.m == p.mu) (fun _ K2 hK2=>?_) ?_
  ·refine gg_ ?_
   exact hK2
  refine zT (c:=yh yV (tt.of.headD yr) ft) (fun hb K2 hK2=>?_) fun w33 e33=>?_
  ·simp only [Bool.and_eq_true] at hb
   obtain ⟨uu,hof⟩:=inside hb.1.1.1.2.1 (.inr (of_decide_eq_true hb.1.2))
   obtain ⟨bo,oo,q2,cap2,rfl,ht2,hcc⟩:=aal ht7 hof
   have hl1 : tt.of.length=1:=by rw [hof];rfl
   rw [hof] at hK2
   refine gg_ ?_
   refine zH (n:=5) (c:=tyL uu q2 cap2) rfl (fun j v hj=>by simpa using S.at (hcc j v hj)) ?_
   refine gp_ ?_
   refine S.ldN (b:=b8) ?_
   exact xR S.holds ht2 ht8 fun w34 e34=>hK2 _ e34
  have S:=S.go e33
  have:=h _ S.ext
  rw [← Bool.and_assoc] at this
  generalize ((((((zz p { to:=true,fr:=true,mu:=true } && (tok&&decide (tm<3)))&&fok)&&isK tt 4)&&(tt.m == p.mu))&&yh yV (tt.of.headD yr) ft))=B at this ⊢
  cases B with
  |false=>
   (intro K9 hK9;refine gd_ ?_;refine hK9 _ _ fun _=>?_;clear hK9 K9)
   (intro K9 hK9;refine gd_ ?_;refine hK9 _ _ fun _=>?_;clear hK9 K9)
   (intro K9 hK9;refine gd_ ?_;refine hK9 _ _ fun _=>?_;clear hK9 K9)
   refine gd_ ?_
   exact this
  |true=>
   refine zq (fun s w'=>s = [.bool p.mu]∧w'=w33) (fun K9 hK9=>?_) ?_
   ·refine gd_ ?_
    exact hK9 _ _ ⟨rfl,rfl⟩
   rintro _ w33 ⟨rfl,rfl⟩ d33
   generalize p.mu=mu at this ⊢
   cases mu with
   |false=>
    (intro K9 hK9;refine gd_ ?_;refine hK9 _ _ fun _=>?_;clear hK9 K9)
    (intro K9 hK9;refine gd_ ?_;refine hK9 _ _ fun _=>?_;clear hK9 K9)
    refine gd_ ?_
    exact this
   |true=>
    refine zq (fun s w'=>s = [.bool (decide (fm=3))]∧w'=w33) (fun K9 hK9=>?_) ?_
    ·refine gd_ ?_
     exact hK9 _ _ ⟨rfl,rfl⟩
    rintro _ w33 ⟨rfl,rfl⟩ d33
    (intro K9 hK9;refine gd_ ?_;refine hK9 _ _ fun _=>?_;clear hK9 K9)
    refine gd_ ?_
    simpa using this
 rw [if_neg ho] at h
 clear ho
 refine gg_ ?_
 refine zm (fun ho=>?_) (fun ho=>?_)
 ·rw [if_pos ho] at h
  have S:=S.go (Ext.drew _)
  refine S.ldB (b:=b3) ?_ rfl
  refine gp_ ?_
  refine zN (f:={ to:=true,a:=true }) S.holds hp0 fun w31 e31=>?_
  have S:=S.go e31
  refine zi (c:=tok&&decide (tm<3)) (fun _ K2 hK2=>hK2) ?_
  refine zi (c:=aok) (fun _ K2 hK2=>hK2) ?_
  refine zT (c:=isK tt 3) (fun hb K2 hK2=>?_) fun w32 e32=>?_
  ·refine gp_ ?_
   refine S.ldN (b:=b7) ?_
   exact z7 S.holds fun w33 e33=>hK2 _ e33
  have S:=S.go e32
  refine zT (c:=yh yV (tt.of.headD yr) ta) (fun hb K2 hK2=>?_) fun w33 e33=>h _ (S.go e33).ext
  simp only [Bool.and_eq_true] at hb
  obtain ⟨uu,hof⟩:=inside hb.1.1.2.1 (.inl (of_decide_eq_true hb.2))
  obtain ⟨bo,oo,q2,cap2,rfl,ht2,hcc⟩:=aal ht7 hof
  have hl1 : tt.of.length=1:=by rw [hof];rfl
  rw [hof] at hK2
  refine gg_ ?_
  refine zH (n:=5) (c:=tyL uu q2 cap2) rfl (fun j v hj=>by simpa using S.at (hcc j v hj)) ?_
  refine S.ldB (b:=b10) ?_ rfl
  exact xR S.holds ht2 hta fun w34 e34=>hK2 _ e34
 rw [if_neg ho] at h
 clear ho
 refine gg_ ?_
 refine zm (fun ho=>?_) (fun ho=>?_)
 ·rw [if_pos ho] at h
  refine S.ldB (b:=b3) ?_ rfl
  refine gp_ ?_
  refine zN (f:={ to:=true,args:=true,st:=true }) S.holds hp0 fun w31 e31=>?_
  have S:=S.go e31
  refine gp_ ?_
  refine zo (c:=!(tok&&decide (tm<3))) (fun _ K2 hK2=>?_) ?_
  ·refine gp_ ?_
   exact hK2
  refine xp (c:=!isK tt 5) (fun _ K2 hK2=>?_) fun w32 e32=>?_
  ·refine gp_ ?_
   refine S.ldN (b:=b7) ?_
   refine z7 S.holds fun w33 e33=>?_
   refine gp_ ?_
   exact hK2 _ e33
  have S:=S.go e32
  refine zo (c:=decide (tt.st≠p.st)) (fun _ K2 hK2=>?_) ?_
  ·refine gg_ ?_
   exact hK2
  refine c_b (fun hc=>?_) (fun hc=>?_)
  ·rw [bb3 hc,Bool.false_and] at h
   exact h _ S.ext
  rw [aix hc,Bool.true_and] at h
  refine gg_ ?_
  refine S.ldN (b:=b7) ?_
  refine J4 S.holds hst ht7 fun q9 cp9 top gs w35 e35 n35 hfd hcp=>?_
  have S:=S.new e35 n35
  refine gp_ ?_
  refine gp_ ?_
  refine VC (r:=((r.or (top.or (un gs 0 (xd u.ss tt).1.length))).or (Go.Sh.one b2 _ _)).or (Go.Sh.one b3 _ _)) ((S.holdW b2).or (xC (S.blk b3))) (zF (b:=b2)).up (zF (b:=b3)).up hx0.up rfl hf hp0.up (afc hfd).up fun w44 e44=>?_
  exact h _ (S.go e44).ext
 rw [if_neg ho] at h
 clear ho
 refine gg_ ?_
 refine zm (fun ho=>?_) (fun ho=>?_)
 ·rw [if_pos ho] at h
  refine S.ldB (b:=b3) ?_ rfl
  refine gp_ ?_
  refine zN (f:={ to:=true,args:=true,fn:=true }) S.holds hp0 fun w31 e31=>?_
  have S:=S.go e31
  refine gp_ ?_
  refine zo (c:=!(tok&&decide (tm<3))) (fun _ K2 hK2=>?_) ?_
  ·refine gp_ ?_
   exact hK2
  refine zo (c:=decide (p.fn<0)) (fun _ K2 hK2=>?_) ?_
  ·refine gg_ ?_
   exact hK2
  refine zo (c:=decide ((u.fs.length : Int)≤p.fn)) (fun _ K2 hK2=>?_) ?_
  ·refine gg_ ?_
   exact hK2
  refine c_b (fun hc=>?_) (fun hc=>?_)
  ·rw [bb5 hc,Bool.false_and] at h
   exact h _ S.ext
  rw [aiy hc,Bool.true_and] at h
  have hfl : 0≤p.fn∧p.fn<u.fs.length:=by
   simp only [Bool.or_eq_false_iff,decide_eq_false_iff_not] at hc;omega
  have hfi : p.fn.toNat<u.fs.length:=by omega
  rw [List.getElem?_eq_getElem hfi] at h
  obtain ⟨bg,og,cg,rfl,hcg,hgg,hgc⟩:=hfn.sl.get (by decide) hfi
  have hfp:=hfs _ (List.getElem_mem hfi)
  generalize u.fs[p.fn.toNat]=fd at h hgg hfp
  obtain ⟨vo2,vt2,vn2,vp2,rfl,hg1,hg2,hg3,hg4⟩:=hgg
  obtain ⟨qo2,co2,rfl,_,_⟩:=hg1.sl.shape
  obtain ⟨qt2,ct2,rfl,_,hct2⟩:=hg2.sl.shape
  obtain ⟨qn2,cn2,rfl,_,_⟩:=hg3.sl.shape
  obtain ⟨qp2,cp2,rfl,_,_⟩:=hg4.sl.shape
  refine gg_ ?_
  refine zH (n:=7) hcg (fun j v hj=>S.at (hgc j v hj)) ?_
  refine S.al fun b20 w50 S=>?_
  refine S.stB (b:=b20) fun w51 S=>?_
  have S:=S.go (Ext.drew _)
  have htl:=acw hg2.sl
  have htl9 : fd.tys.length≤9223372036854775807:=hg2.few
  obtain ⟨bt2,ot2,cc2,rfl,hcc2,hcl2,hct3⟩:=htl 0 (by omega)
  obtain ⟨q4,cap4,rfl,ht4⟩:=qx hct3
  have hhd : fd.tys.headD yr=fd.tys[0]'(by omega):=by
   rw [List.headD_eq_head?_getD,List.head?_eq_getElem?,List.getElem?_eq_getElem (by omega),Option.getD_some]
  dsimp only at h
  rw [hhd] at h
  refine gp_ ?_
  refine S.ldN (b:=b7) ?_
  refine gg_ ?_
  refine zH (n:=5) hcc2 (fun j v hj=>by simpa using S.at (hcl2 j v hj)) ?_
  refine xR S.holds ht7 ht4 fun w52 e52=>?_
  have S:=S.go e52
  refine zT (c:=xJ u.ss g.tys p.args ((fd.tys.drop 1).take fd.pn.toNat)) (fun _ K2 hK2=>?_) fun w53 e53=>h _ (S.go e53).ext
  refine gg_ ?_
  have hl9 : (fd.pn+1).toNat - (1 : Int).toNat=((fd.tys.drop 1).take fd.pn.toNat).length:=by
   rw [List.length_take,List.length_drop];omega
  rw [hl9]
  refine VC (r:=(r.or (Go.Sh.one b2 _ _)).or (Go.Sh.one b3 _ _)) ((S.holdW b2).or (xC (S.blk b3))) (zF (b:=b2)).up (zF (b:=b3)).up hx0.up rfl hf hp0.up (htl.sub (a:=(1 : Int).toNat) (n:=fd.pn.toNat) hct2).up fun w44 e44=>?_
  exact hK2 _ e44
 rw [if_neg ho] at h
 clear ho
 refine gg_ ?_
 refine zm (fun ho=>?_) (fun ho=>?_)
 ·rw [if_pos ho] at h
  refine S.ldB (b:=b3) ?_ rfl
  refine gp_ ?_
  refine zN (f:={ to:=true }) S.holds hp0 fun w31 e31=>?_
  have S:=S.go e31
  refine zi (c:=tok&&decide (tm<3)) (fun _ K2 hK2=>hK2) ?_
  refine zT (c:=isK tt 1) (fun hb K2 hK2=>?_) fun w32 e32=>?_
  ·refine gp_ ?_
   refine S.ldN (b:=b7) ?_
   exact z7 S.holds fun w33 e33=>hK2 _ e33
  have S:=S.go e32
  exact h _ S.ext
 rw [if_neg ho] at h
 clear ho
 refine gg_ ?_
 refine zm (fun ho=>?_) (fun ho=>?_)
 ·rw [if_pos ho] at h
  refine S.ldB (b:=b3) ?_ rfl
  refine gp_ ?_
  refine zN (f:={ a:=true }) S.holds hp0 fun w31 e31=>?_
  have S:=S.go e31
  refine zi (c:=aok) (fun _ K2 hK2=>hK2) ?_
  refine zT (c:=isK ta 1) (fun hb K2 hK2=>?_) fun w32 e32=>?_
  ·refine S.ldB (b:=b10) ?_ rfl
   exact z7 S.holds fun w33 e33=>hK2 _ e33
  have S:=S.go e32
  exact h _ S.ext
 rw [if_neg ho] at h
 clear ho
 refine gg_ ?_
 refine zm (fun ho=>?_) (fun ho=>?_)
 ·rw [if_pos ho] at h
  refine gg_ ?_
  refine S.ldN (b:=b8) ?_
  refine V6 S.holds hst ht8 fun w35 e35=>?_
  have S:=S.go e35
  refine gp_ ?_
  refine gp_ ?_
  refine S.ldB (b:=b3) ?_ rfl
  refine gp_ ?_
  refine zN (f:={ fr:=true }) S.holds hp0 fun w31 e31=>?_
  have S:=S.go e31
  refine zi (c:=fok) (fun _ K2 hK2=>?_) ?_
  ·refine gg_ ?_
   exact hK2
  refine zi (c:=(vJ u.ss ft).1) (fun _ K2 hK2=>hK2) ?_
  refine zi (c:=decide (fm<2)) (fun _ K2 hK2=>?_) (h _ S.ext)
  refine gg_ ?_
  exact hK2
 rw [if_neg ho] at h
 clear ho
 refine gg_ ?_
 refine zm (fun ho=>?_) (fun ho=>?_)
 ·rw [if_pos ho] at h
  refine S.ldB (b:=b3) ?_ rfl
  refine gp_ ?_
  refine zN (f:={ fr:=true }) S.holds hp0 fun w31 e31=>?_
  have S:=S.go e31
  refine zi (c:=fok) (fun _ K2 hK2=>?_) ?_
  ·refine gg_ ?_
   exact hK2
  refine zi (c:=decide (0<p.fr.l)) (fun _ K2 hK2=>?_) ?_
  ·refine gg_ ?_
   exact hK2
  refine zi (c:=decide (p.fr.ps.length=0)) (fun _ K2 hK2=>?_) (h _ S.ext)
  refine gg_ ?_
  rw [ZD]
  exact hK2
 rw [if_neg ho] at h
 clear ho
 refine gg_ ?_
 refine zm (fun ho=>?_) (fun ho=>?_)
 ·rw [if_pos ho] at h
  refine S.ldB (b:=b3) ?_ rfl
  refine gp_ ?_
  refine zN (f:={ a:=true,el:=true }) S.holds hp0 fun w31 e31=>?_
  have S:=S.go e31
  refine zi (c:=aok) (fun _ K2 hK2=>hK2) ?_
  refine zT (c:=isK ta 2) (fun hb K2 hK2=>?_) fun w32 e32=>?_
  ·refine S.ldB (b:=b10) ?_ rfl
   exact z7 S.holds fun w33 e33=>hK2 _ e33
  have S:=S.go e32
  refine zi (c:=Yf g p.el) (fun _ K2 hK2=>?_) (h _ S.ext)
  refine gg_ ?_
  exact VA (b:=b5) S hK2
 rw [if_neg ho] at h
 clear ho
 refine gg_ ?_
 refine zq (fun s w'=>s = [.bool (decide (p.op=13∨p.op=14))]∧Ext w39 w') (fun K9 hK9=>?_) ?_
 ·have hk:=hK9 _ _ ⟨rfl,Ext.refl _⟩
  rw [Bool.decide_or] at hk
  refine gp_ ?_
  refine qD hk fun _ hk=>?_
  refine gp_ ?_
  exact hk
 rintro _ w41 ⟨rfl,e41⟩ d41
 have S:=S.go e41
 rw [List.getD_cons_zero]
 refine zm (fun ho=>?_) (fun ho=>?_)
 ·rw [if_pos ho] at h
  refine S.ldB (b:=b3) ?_ rfl
  refine gp_ ?_
  refine zN (f:={}) S.holds hp0 fun w31 e31=>h _ (S.go e31).ext
 ·rw [if_neg ho] at h
  exact h _ S.ext
end Go.Proofs
end
section
namespace Go.Proofs
open Go.Sh
set_option linter.unusedVariables false
theorem kX {u : UnD} : ∀ {l : List GrD} {i : Nat},kV u i l=none↔∀ (j : Nat) (h : j<l.length),xK u (i+j) l[j]=true
 |[],i=>⟨fun _ j h=>absurd h (Nat.not_lt_zero _),fun _=>rfl⟩
 |g::l,i=>by
  rw [kV]
  constructor
  ·intro h j hj
   split at h
   ·rename_i hg
    cases j with
    |zero=>exact hg
    |succ j=>
     have:=(kX (l:=l) (i:=i+1)).1 h j (by simpa using hj)
     rw [List.getElem_cons_succ,show i+(j+1)=i+1+j by omega];exact this
   ·cases h
  ·intro h
   rw [if_pos (show xK u i g=true from h 0 (Nat.zero_lt_succ _))]
   refine (kX (l:=l) (i:=i+1)).2 fun j hj=>?_
   have:=h (j+1) (by simpa using hj)
   rwa [List.getElem_cons_succ,show i+(j+1)=i+1+j by omega] at this
theorem j9 {u : UnD} {g : GrD} : ∀ {l : List PtD} {q : Nat},j8 u g q l=none↔∀ p ∈ l,zV u g p=true
 |[],q=>⟨fun _ p h=>(by cases h),fun _=>rfl⟩
 |x::l,q=>by
  rw [j8]
  constructor
  ·intro h p hp
   split at h
   ·rename_i hx
    rcases List.mem_cons.1 hp with rfl|hp
    ·exact hx
    ·exact (j9 (l:=l) (q:=q+1)).1 h p hp
   ·cases h
  ·intro h
   rw [if_pos (h x List.mem_cons_self)]
   exact (j9 (l:=l) (q:=q+1)).2 fun p hp=>h p (List.mem_cons_of_mem _ hp)
theorem Zr {u : UnD} : ∀ {l : List GrD} {i : Nat},vK u i l=none↔∀ g ∈ l,∀ p ∈ g.pts,zV u g p=true
 |[],i=>⟨fun _ g h=>(by cases h),fun _=>rfl⟩
 |x::l,i=>by
  rw [vK]
  constructor
  ·intro h g hg
   split at h
   ·cases h
   ·rename_i hx
    rcases List.mem_cons.1 hg with rfl|hg
    ·exact j9.1 hx
    ·exact (Zr (l:=l) (i:=i+1)).1 h g hg
  ·intro h
   rw [j9.2 (h x List.mem_cons_self)]
   exact (Zr (l:=l) (i:=i+1)).2 fun g hg=>h g (List.mem_cons_of_mem _ hg)
structure MayU (u : UnD) : Prop where
 ok : (zZ u.ss).2=0
 fs1 : 1≤u.fs.length
 fs32 : u.fs.length≤32
 mn0 : 0≤u.mn
 mn1 : u.mn<u.fs.length
 head : ∀ (i : Nat) (h : i<u.fs.length),xK u i u.fs[i]=true
 pts : ∀ g ∈ u.fs,∀ p ∈ g.pts,zV u g p=true
theorem aeh {u : UnD} (h : MayU u) : kW u=(0,0,0):=by
 have h1:=h.fs1;have h2:=h.fs32;have h3:=h.mn0;have h4:=h.mn1
 unfold kW
 rw [if_neg (by rw [h.ok,decide_eq_false (show ¬ u.fs.length<1 by omega),decide_eq_false (show ¬ 32<u.fs.length by omega),decide_eq_false (show ¬ u.mn<0 by omega),decide_eq_false (show ¬ (u.fs.length : Int)≤u.mn by omega)];decide),
  kX.2 (fun j hj=>by rw [Nat.zero_add];exact h.head j hj)]
 dsimp only
 rw [Zr.2 h.pts]
theorem aei {u : UnD} (h : (kW u).2.2=0) : MayU u:=by
 unfold kW at h
 split at h
 ·cases h
 ·rename_i h1
  split at h
  ·cases h
  ·rename_i h2
   split at h
   ·cases h
   ·rename_i h3
    simp only [Bool.or_eq_true,Bool.not_eq_true',decide_eq_false_iff_not,decide_eq_true_eq,not_or] at h1
    obtain ⟨⟨h4,h5,h6⟩,h7,h8⟩:=h1
    exact ⟨by omega,by omega,by omega,by omega,by omega,fun i hi=>by have:=kX.1 h2 i hi;rwa [Nat.zero_add] at this,Zr.1 h3⟩
theorem aa8 {u : UnD} : J6 u=true↔MayU u:=by
 rw [J6,decide_eq_true_eq]
 exact ⟨aei,fun h=>by rw [aeh h]⟩
structure HeadU (u : UnD) (fn : Nat) (g : GrD) : Prop where
 lv0 : 0≤g.lv
 lv8 : g.lv≤8
 pn0 : 0≤g.pn
 pn8 : g.pn≤8
 pn1 : g.pn<g.tys.length
 ty512 : g.tys.length≤512
 nms : g.nms.length=g.tys.length
 tys : jc u g 0 g.tys=true
 pt1 : 1≤g.pts.length
 pt1024 : g.pts.length≤1024
 outs : Yg g=true
 loans : yK g.pts≤256
 main : (fn : Int)=u.mn→g.lv=0∧g.pn=0∧(g.tys.headD yr).k=1
theorem adh {u : UnD} {fn : Nat} {g : GrD} (h : xK u fn g=true) : HeadU u fn g:=by
 simp only [xK,Bool.and_eq_true,Bool.or_eq_true,Bool.not_eq_true',decide_eq_true_eq,decide_eq_false_iff_not,isK] at h
 obtain ⟨⟨⟨⟨⟨⟨⟨h1,h2⟩,h3,h4⟩,h5,h6⟩,h7⟩,h8⟩,⟨h9,h10⟩,h11⟩,h12,h13⟩:=h
 exact ⟨h1,h2,h3,h4,by omega,h6,h7,h8,h9,h10,h11,h12,fun e=>by rcases h13 with h|⟨⟨h,h'⟩,h2⟩
                                                               ·exact absurd e h
                                                               ·exact ⟨h,h',h2⟩⟩
theorem HeadU.fine {u : UnD} {fn : Nat} {g : GrD} (h : HeadU u fn g) (ok : (zZ u.ss).2=0) : Yh u.ss g.tys:=by
 obtain ⟨h1,h2,h3,h4,_⟩:=j7 ok
 exact ⟨h1,h3,h4,fun t ht=>(aaX (aa5 h.tys t ht)).2⟩
theorem MayU.hd {u : UnD} (h : MayU u) {i : Nat} (hi : i<u.fs.length) : HeadU u i u.fs[i]:=adh (h.head i hi)
end Go.Proofs
end
section
namespace Go.Sh
theorem afj {w : World} {A2 : (List Value→World→Prop)→Prop} {A3 A4 A5 : (List Value→World→Prop)→World→Prop} {Z : Value→World→Prop} {b1 b2 b3 b4 b5 : Bool}
  (h2 : ∀ K : List Value→World→Prop,K [.bool b2] w→A2 K) (h3 : ∀ K : List Value→World→Prop,K [.bool b3] w→A3 K w) (h4 : ∀ K : List Value→World→Prop,K [.bool b4] w→A4 K w) (h5 : ∀ K : List Value→World→Prop,K [.bool b5] w→A5 K w)
  (hZ : Z (.bool (b1&&(b2||((b3&&b4)&&b5)))) w) :
  za (fun K=>gIf (.bool b1) true (A2 K) (K [undef] w)) fun s64 _ w66=>
   za (fun K=>gIf (s64.getD 0 undef) false (A3 K w66) (K [undef] w66)) fun s68 _ w70=>
    za (fun K=>gIf (s68.getD 0 undef) true (A4 K w70) (K [undef] w70)) fun s72 _ w74=>
     za (fun K=>gIf (s64.getD 0 undef) false (zb (s68.getD 0 undef) (s72.getD 0 undef) (.bool false) fun t=>K [t] w74) (K [undef] w74)) fun s76 _ w78=>
      za (fun K=>gIf (s76.getD 0 undef) true (A5 K w78) (K [undef] w78)) fun s80 _ w82=>
       za (fun K=>gIf (s64.getD 0 undef) false (zb (s76.getD 0 undef) (s80.getD 0 undef) (.bool false) fun t=>K [t] w82) (K [undef] w82)) fun s84 _ w86=>
        za (fun K=>gIf (.bool b1) true (zb (s64.getD 0 undef) (.bool true) (s84.getD 0 undef) fun t=>K [t] w86) (K [undef] w86)) fun s88 _ w90=>
         zb (.bool b1) (s88.getD 0 undef) (.bool false) fun t=>Z t w90:=by
 cases b1<;>cases b2<;>cases b3<;>cases b4 <;>
  (iterate 7 (intro K hK;first|refine hK _ _ fun _=>?_|refine h2 _ (hK _ _ fun _=>?_)|refine h3 _ (hK _ _ fun _=>?_)|refine h4 _ (hK _ _ fun _=>?_)|refine h5 _ (hK _ _ fun _=>?_)|refine ⟨_,rfl,hK _ _ fun _=>?_⟩)) <;>
  exact ⟨_,rfl,by simpa using hZ⟩
end Go.Sh
namespace Go.Proofs
open Go.Sh
set_option maxRecDepth 100000
set_option linter.unusedSimpArgs false
set_option linter.unusedVariables false
theorem adi {a b : Nat} : decide ((a : Int)≠(b : Int))=decide (a≠b):=decide_eq_decide.2 (by omega)
theorem agG {u : UnD} {g : GrD} {i : Nat} {t : TyD} : tyG u g i t=(mayB u.ss t && !((yN t).any fun r=>decide (r<(if (i : Int)≤g.pn then 0 else -1))||decide (g.lv≤r))):=by
 rw [tyG,List.not_any_eq_all_not]
set_option maxHeartbeats 4000000 in
theorem aa9 {u : UnD} {i : Nat} {v : Value} {w : World} {r : Gh} {K : Value→World→Prop} (hi : i<u.fs.length) (hr : Holds r w) (hu : UnG r v u)
  (h : ∀ w',Ext w w'→K (.bool (xK u i u.fs[i])) w') : zd Tryz.prog Tryz.vD #[v,.int .i64 i] w K:=by
 obtain ⟨p0,cap0,vf,rfl,_,_,hst,hsl,hfn⟩:=hu
 obtain ⟨qf,capf,rfl,_,_⟩:=hfn.sl.shape
 obtain ⟨bf,of,cf,rfl,hcf,hgc,hfo⟩:=hfn.sl.get (by decide) hi
 refine Tryz.VZ ?_
 unfold Tryz.YW
 generalize hgi : u.fs[i]=g at h hgc
 obtain ⟨vo,vt,vn,vp,rfl,h1,h2,h3,h4⟩:=id hgc
 obtain ⟨qo,capo,rfl,_,_⟩:=h1.sl.shape
 obtain ⟨qt,capt,rfl,_,hct⟩:=h2.sl.shape
 obtain ⟨qn,capn,rfl,_,_⟩:=h3.sl.shape
 obtain ⟨qp,capp,rfl,_,_⟩:=h4.sl.shape
 have hptl : g.pts.length≤9223372036854775807:=h4.few
 have htl : g.tys.length≤9223372036854775807:=h2.few
 have S:=St.start hr
 refine S.box fun b2 w1 S=>?_
 refine gG_ ?_
 refine zH (n:=7) hcf (fun j v hj=>by rw [Int.toNat_natCast];exact S.at (hfo j v hj)) ?_
 refine S.al fun b5 w2 S=>?_
 refine S.stB (b:=b5) fun w3 S=>?_
 refine gG_ ?_
 have no : (HeadU u i g→False)→xK u i g=false:=fun hh=>by
  cases e : xK u i g
  ·rfl
  ·exact (hh (adh e)).elim
 refine zo (c:=decide (8<g.lv)) (fun _ K2 hK2=>?_) ?_
 ·refine gG_ ?_
  exact hK2
 refine zo (c:=decide (g.pn<0)) (fun _ K2 hK2=>?_) ?_
 ·refine gG_ ?_
  exact hK2
 refine zo (c:=decide (8<g.pn)) (fun _ K2 hK2=>?_) ?_
 ·refine gG_ ?_
  exact hK2
 refine zo (c:=decide ((g.tys.length : Int)≤g.pn)) (fun _ K2 hK2=>?_) ?_
 ·refine gG_ ?_
  exact hK2
 refine zo (c:=decide (512<g.tys.length)) (fun _ K2 hK2=>?_) ?_
 ·refine gG_ ?_
  rw [show decide ((512 : Int)<(g.tys.length : Int))=decide (512<g.tys.length) from decide_eq_decide.2 (by omega)]
  exact hK2
 refine zo (c:=decide (g.nms.length≠g.tys.length)) (fun _ K2 hK2=>?_) ?_
 ·refine gG_ ?_
  rw [adi]
  exact hK2
 refine c_b (fun hbad=>?_) (fun hgood=>?_)
 ·rw [no fun H=>by
   have:=H.lv0;have:=H.lv8;have:=H.pn0;have:=H.pn8;have:=H.pn1;have:=H.ty512;have:=H.nms
   simp only [Bool.or_eq_true,decide_eq_true_eq] at hbad;omega] at h
  exact h _ S.ext
 have hnum : (0≤g.lv∧g.lv≤8∧0≤g.pn∧g.pn≤8)∧g.pn<g.tys.length∧g.tys.length≤512∧g.nms.length=g.tys.length:=by
  simp only [Bool.or_eq_false_iff,decide_eq_false_iff_not] at hgood;omega
 clear hgood
 obtain ⟨⟨hlv0,hlv8,hpn0,hpn8⟩,hpn1,hty,hnm⟩:=hnum
 refine gG_ ?_
 refine zj (ι:=Nat) (fun i=>[.int .i64 (i : Nat)]) (fun j w'=>j≤g.tys.length∧jc u g j (g.tys.drop j)=jc u g 0 g.tys∧StX noX w r w' _) (fun i=>g.tys.length - i) 0 rfl ⟨Nat.zero_le _,rfl,S⟩ ?_
 clear S
 rintro j d w5 ⟨hj,hd,S⟩ K6 hK6
 rw [List.getD_cons_zero]
 refine gP_ ?_
 refine zm (fun hlt=>?_) (fun hge=>?_)
 ·have hlt : j<g.tys.length:=by omega
  obtain ⟨bt,ot,ct,rfl,hct,htc,hcell⟩:=h2.sl.get (by decide) hlt
  obtain ⟨q2,cap2,rfl,ht2⟩:=qx htc
  rw [aef hlt] at hd
  refine gP_ ?_
  refine zH (n:=5) hct (fun j v hj=>by rw [Int.toNat_natCast];exact S.at (hcell j v hj)) ?_
  refine S.al fun b7 w6 S=>?_
  refine S.stB (b:=b7) fun w7 S=>?_
  refine gG_ ?_
  refine ZC S.holds hst ht2 fun w8 e8=>?_
  have S:=S.go e8
  refine gP_ ?_
  refine c_b (fun hm=>?_) (fun hm=>?_)
  ·have hm : mayB u.ss g.tys[j]=false:=by simpa using hm
   rw [no fun H=>by
    have:=H.tys
    rw [← hd,tyG,hm,Bool.false_and,Bool.false_and] at this;cases this] at h
   exact h _ S.ext
  have hm : mayB u.ss g.tys[j]=true:=by simpa using hm
  refine S.al fun b8 w9 S=>?_
  refine S.st (b:=b8) fun w10 S=>?_
  refine zq (fun _ w'=>StX noX w r w' [.cell b8 [.int .i64 (if (j : Int)≤g.pn then 0 else -1)] 3,.cell b7 (tyL g.tys[j] q2 cap2) 83,.cell b5 [.string g.name,.int .i64 g.lv,.slice qo g.outs.length capo,.int .i64 g.pn,.slice (some ⟨bt,ot,none⟩) g.tys.length capt,.slice qn g.nms.length capn,.slice qp g.pts.length capp] 48,
   .cell b2 [.slice p0 u.ss.length cap0,.slice (some ⟨bf,of,none⟩) u.fs.length capf,.int .i64 u.mn] 25]) (fun K3 hK3=>?_) ?_
  ·refine gG_ ?_
   refine zm (fun hle=>?_) (fun hgt=>?_)
   ·refine S.st (b:=b8) fun w11 S=>?_
    refine hK3 [] _ ?_
    rw [if_pos hle];exact S
   ·refine hK3 [] _ ?_
    rw [if_neg hgt];exact S
  clear S
  rintro _ w11 S d11
  refine S.ldB (b:=b7) ?_ rfl
  refine Zo S.holds ht2 fun v7 w12 e12 o12=>?_
  have S:=S.go e12
  obtain ⟨p7,cap7,rfl,_,_,_,hs7⟩:=YU o12
  refine gP_ ?_
  have hr48 : (yN g.tys[j]).length≤1000:=by
   rw [yN];split
   ·have:=Vv (by assumption);omega
   ·simp
  refine qS (f:=fun x=>decide (x<(if (j : Int)≤g.pn then 0 else -1))||decide (g.lv≤x)) (fun x K hK=>?_) hs7 (by omega) ?_
  ·refine Jh (by kernel_rfl) ?_
   refine Tryz.Jd ?_
   unfold Tryz.ZO
   refine S.ld (b:=b8) ?_ rfl
   refine gP_ ?_
   refine zo (c:=decide (g.lv≤x)) (fun _ K2 hK2=>?_) hK
   refine gG_ ?_
   exact hK2
  have hty : tyG u g j g.tys[j] = !((yN g.tys[j]).any fun x=>decide (x<(if (j : Int)≤g.pn then 0 else -1))||decide (g.lv≤x)):=by
   rw [agG,hm,Bool.true_and]
  refine c_b (fun hx=>?_) (fun hx=>?_)
  ·rw [hty,hx,Bool.not_true,Bool.false_and] at hd
   rw [no fun H=>by have:=H.tys;rw [← hd] at this;cases this] at h
   exact h _ S.ext
  ·rw [hty,hx,Bool.not_false,Bool.true_and] at hd
   refine gP_ ?_
   rw [show ((j : Int)+1)=((j+1 : Nat) : Int) by omega]
   exact hK6 (j+1) _ ⟨hlt,hd,(S.drop b8).drop b7⟩ (by omega)
 have hje : j=g.tys.length:=by omega
 rw [hje,List.drop_length] at hd
 have htys : jc u g 0 g.tys=true:=hd.symm
 clear hd hK6 K6 hge hj hje
 refine gG_ ?_
 refine zo (c:=decide (1024<g.pts.length)) (fun _ K2 hK2=>?_) ?_
 ·refine gG_ ?_
  rw [show decide ((1024 : Int)<(g.pts.length : Int))=decide (1024<g.pts.length) from decide_eq_decide.2 (by omega)]
  exact hK2
 refine xp (c:=!Yg g) (fun _ K2 hK2=>?_) fun w20 e20=>?_
 ·refine S.ldB (b:=b5) ?_ rfl
  refine QK S.holds hgc hlv0 hlv8 hpn0 hpn1 (fun t ht x hx=>?_) fun w21 e21=>?_
  ·obtain ⟨k,hk,rfl⟩:=List.getElem_of_mem ht
   rw [List.length_take] at hk
   rw [List.getElem_take] at hx
   have:=aa6 htys (j:=k) (by omega) (by omega) x hx
   omega
  refine gP_ ?_
  exact hK2 _ e21
 have S:=S.go e20
 refine c_b (fun hbad=>?_) (fun hgood=>?_)
 ·rw [no fun H=>by
   have:=H.pt1;have:=H.pt1024;have h3:=H.outs
   rw [h3] at hbad
   simp only [Bool.or_eq_true,decide_eq_true_eq,Bool.not_true,Bool.false_eq_true,or_false] at hbad;omega] at h
  exact h _ S.ext
 have hnum : (1≤g.pts.length∧g.pts.length≤1024)∧Yg g=true:=by
  cases ho : Yg g
  ·rw [ho] at hgood;simp at hgood
  ·simp only [Bool.or_eq_false_iff,decide_eq_false_iff_not] at hgood
   exact ⟨by omega,rfl⟩
 clear hgood
 obtain ⟨⟨hp1,hp1024⟩,hout⟩:=hnum
 refine gG_ ?_
 refine zj (ι:=Nat) (fun i=>[.int .i64 (yK (g.pts.take i) : Nat),.int .i64 (i : Nat)]) (fun j w'=>j≤g.pts.length∧yK (g.pts.take j)≤j∧StX noX w r w' _) (fun i=>g.pts.length - i) 0 rfl ⟨Nat.zero_le _,Nat.le_refl _,S⟩ ?_
 clear S
 rintro j d w22 ⟨hj,hlj,S⟩ K7 hK7
 simp only [List.getD_cons_zero,List.getD_cons_succ]
 refine gP_ ?_
 refine zm (fun hlt=>?_) (fun hge=>?_)
 ·have hlt : j<g.pts.length:=by omega
  obtain ⟨bp,op,cp,rfl,hcp,hpc,hcell⟩:=h4.sl.get (by decide) hlt
  refine zq (fun s w'=>s = [.int .i64 (yK (g.pts.take (j+1)) : Nat)]∧StX noX w r w' [.cell b5 [.string g.name,.int .i64 g.lv,.slice qo g.outs.length capo,.int .i64 g.pn,.slice qt g.tys.length capt,.slice qn g.nms.length capn,.slice (some ⟨bp,op,none⟩) g.pts.length capp] 48,
   .cell b2 [.slice p0 u.ss.length cap0,.slice (some ⟨bf,of,none⟩) u.fs.length capf,.int .i64 u.mn] 25]) (fun K3 hK3=>?_) ?_
  ·refine gP_ ?_
   refine zH (n:=21) hcp (fun j v hj=>by rw [Int.toNat_natCast];exact S.at (hcell j v hj)) ?_
   obtain ⟨vto,va,vb,vl,vfr,rfl,k1,k2,k3,k4,k5⟩:=hpc
   obtain ⟨_,_,rfl,_⟩:=k1.sl.shape
   obtain ⟨_,_,rfl,_⟩:=k2.sl.shape
   obtain ⟨_,_,rfl,_⟩:=k3.sl.shape
   obtain ⟨_,_,rfl,_⟩:=k4.sl.shape
   obtain ⟨_,_,rfl,_⟩:=k5.sl.shape
   refine S.al fun b11 w23 S=>?_
   refine S.stB (b:=b11) fun w24 S=>?_
   refine gG_ ?_
   have hlo:=Jo hlt
   refine zm (fun ho=>?_) (fun ho=>?_)
   ·rw [if_pos ho] at hlo
    refine gP_ ?_
    rw [show ((yK (g.pts.take j) : Nat) : Int)+1=((yK (g.pts.take (j+1)) : Nat) : Int) by omega]
    exact hK3 _ _ ⟨rfl,S.drop b11⟩
   ·rw [if_neg ho] at hlo
    rw [show ((yK (g.pts.take j) : Nat) : Int)=((yK (g.pts.take (j+1)) : Nat) : Int) by omega]
    exact hK3 _ _ ⟨rfl,S.drop b11⟩
  clear S
  rintro _ w25 ⟨rfl,S⟩ d25
  rw [List.getD_cons_zero]
  refine gP_ ?_
  rw [show ((j : Int)+1)=((j+1 : Nat) : Int) by omega]
  refine hK7 (j+1) _ ⟨hlt,?_,S⟩ (by omega)
  rw [Jo hlt];split<;>omega
 have hje : j=g.pts.length:=by omega
 rw [hje,List.take_length]
 refine gP_ ?_
 have hfin : xK u i g=(decide (yK g.pts≤256)&&(decide ((i : Int)≠u.mn)||((decide (g.lv=0)&&decide (g.pn=0))&&isK (g.tys.headD yr) 1))):=by
  rw [xK,htys,hout,decide_eq_true hlv0,decide_eq_true hlv8,decide_eq_true hpn0,decide_eq_true hpn8,decide_eq_true hpn1,decide_eq_true hty,decide_eq_true hnm,decide_eq_true hp1,decide_eq_true hp1024,decide_not];rfl
 rw [hfin] at h
 rw [show decide ((yK g.pts : Int)≤256)=decide (yK g.pts≤256) from decide_eq_decide.2 (by omega)]
 refine afj (b2:=decide ((i : Int)≠u.mn)) (b3:=decide (g.lv=0)) (b4:=decide (g.pn=0)) (b5:=isK (g.tys.headD yr) 1) (fun K2 hK2=>?_) (fun K2 hK2=>?_) (fun K2 hK2=>?_) (fun K2 hK2=>?_) (h _ S.ext)
 ·refine gG_ ?_
  exact hK2
 ·refine gG_ ?_
  exact hK2
 ·refine gG_ ?_
  exact hK2
 ·have hpos : 0<g.tys.length:=by omega
  obtain ⟨bt,ot,ct,rfl,hct,htc,hcell⟩:=h2.sl.get (by decide) hpos
  obtain ⟨q2,cap2,rfl,ht2⟩:=qx htc
  refine gG_ ?_
  refine zh (v:=.int .u8 g.tys[0].k) (by simpa using S.at (hcell 0 _ rfl)) ?_
  refine gG_ ?_
  have he : g.tys.headD yr=g.tys[0]:=by
   rw [List.headD_eq_head?_getD,List.head?_eq_getElem?,List.getElem?_eq_getElem hpos,Option.getD_some]
  rw [he] at hK2
  exact hK2
theorem aej {u : UnD} {i : Nat} {l : List GrD} (hi : i<l.length) : kV u i (l.drop i)=if xK u i l[i] then kV u (i+1) (l.drop (i+1)) else some i:=by
 rw [List.drop_eq_getElem_cons hi];rfl
theorem afk {u : UnD} {g : GrD} {q : Nat} {l : List PtD} (hq : q<l.length) : j8 u g q (l.drop q)=if zV u g l[q] then j8 u g (q+1) (l.drop (q+1)) else some q:=by
 rw [List.drop_eq_getElem_cons hq];rfl
theorem agH {u : UnD} {i : Nat} {l : List GrD} (hi : i<l.length) : vK u i (l.drop i)=match j8 u l[i] 0 l[i].pts with|some q=>some (i,q)|none=>vK u (i+1) (l.drop (i+1)):=by
 rw [List.drop_eq_getElem_cons hi];rfl
noncomputable def Jq (u : UnD) : Int × Int × Int:=match kV u 0 u.fs with
  |some i=>(i,-1,100)
  |none=>match vK u 0 u.fs with
   |some (i,q)=>(i,q,100)
   |none=>(0,0,0)
set_option maxHeartbeats 4000000 in
theorem V7 {u : UnD} {v : Value} {w : World} {r : Gh} {K : Value→World→Prop} (hr : Holds r w) (hu : UnG r v u)
  (h : ∀ w',Ext w w'→K (.tuple #[.int .i64 (kW u).1,.int .i64 (kW u).2.1,.int .i64 (kW u).2.2]) w') : zd Tryz.prog Tryz.jH #[v] w K:=by
 have hu0:=hu
 obtain ⟨p0,cap0,vf,rfl,_,_,hst,hsl,hfn⟩:=hu
 obtain ⟨qf,capf,rfl,_,_⟩:=hfn.sl.shape
 have hfl : u.fs.length≤9223372036854775807:=hfn.few
 refine Tryz.JT ?_
 unfold Tryz.Yv
 have S:=St.start hr
 refine S.box fun b1 w1 S=>?_
 refine gG_ ?_
 refine Zq S.holds hst fun w2 e2=>?_
 have S:=S.go e2
 refine gS_ ?_
 refine zo (c:=decide (u.fs.length<1)) (fun _ K2 hK2=>?_) ?_
 ·refine gG_ ?_
  rw [show decide ((u.fs.length : Int)<1)=decide (u.fs.length<1) from decide_eq_decide.2 (by omega)]
  exact hK2
 refine zo (c:=decide (32<u.fs.length)) (fun _ K2 hK2=>?_) ?_
 ·refine gG_ ?_
  rw [show decide ((32 : Int)<(u.fs.length : Int))=decide (32<u.fs.length) from decide_eq_decide.2 (by omega)]
  exact hK2
 refine zo (c:=decide (u.mn<0)) (fun _ K2 hK2=>?_) ?_
 ·refine gG_ ?_
  exact hK2
 refine zo (c:=decide ((u.fs.length : Int)≤u.mn)) (fun _ K2 hK2=>?_) ?_
 ·refine gG_ ?_
  exact hK2
 have hC : kW u=if ((((decide ((zZ u.ss).2≠0)||decide (u.fs.length<1))||decide (32<u.fs.length))||decide (u.mn<0))||decide ((u.fs.length : Int)≤u.mn))=true then (-1,-1,100) else Jq u:=by
  rw [kW,Jq]
  simp only [ne_eq,decide_not,Bool.or_assoc] <;>
  rfl
 rw [hC] at h
 refine c_b (fun hbad=>?_) (fun hgood=>?_)
 ·rw [if_pos hbad] at h
  exact h _ S.ext
 rw [if_neg (by rw [hgood];decide)] at h
 have hok : (zZ u.ss).2=0:=by
  simp only [Bool.or_eq_false_iff,decide_eq_false_iff_not] at hgood;omega
 clear hC hgood
 refine gG_ ?_
 refine zj (ι:=Nat × Int) (fun i=>[.int .i64 i.2,.int .i64 0,.int .i64 (i.1 : Nat)]) (fun j w'=>j.1≤u.fs.length∧kV u j.1 (u.fs.drop j.1)=kV u 0 u.fs∧StX noX w r w' _) (fun i=>u.fs.length - i.1) (0,0) rfl ⟨Nat.zero_le _,rfl,S⟩ ?_
 clear S
 rintro ⟨j,a⟩ d w5 ⟨hj,hd,S⟩ K6 hK6
 simp only at hj hd S ⊢
 simp only [List.getD_cons_zero,List.getD_cons_succ]
 refine gP_ ?_
 refine zm (fun hlt=>?_) (fun hge=>?_)
 ·have hlt : j<u.fs.length:=by omega
  rw [aej hlt] at hd
  refine S.ldB (b:=b1) ?_ rfl
  refine aa9 hlt S.holds hu0 fun w6 e6=>?_
  have S:=S.go e6
  refine gP_ ?_
  refine c_b (fun hx=>?_) (fun hx=>?_)
  ·rw [if_neg (by simpa using hx)] at hd
   rw [Jq,← hd] at h
   exact h _ S.ext
  ·rw [if_pos (by simpa using hx)] at hd
   refine gP_ ?_
   rw [show ((j : Int)+1)=((j+1 : Nat) : Int) by omega]
   exact hK6 (j+1,j) _ ⟨hlt,hd,S⟩ (by show u.fs.length - (j+1)<u.fs.length - j;omega)
 have hje : j=u.fs.length:=by omega
 rw [hje,List.drop_length] at hd
 have hnone : kV u 0 u.fs=none:=hd.symm
 have hheads:=fun (i : Nat) (hi : i<u.fs.length)=>adh (by have:=kX.1 hnone i hi;rwa [Nat.zero_add] at this : xK u i u.fs[i]=true)
 rw [Jq,hnone] at h
 dsimp only at h
 clear hd hK6 K6 hge hj hje
 refine zq (fun s w'=>Ext w w'∧((∃ x y : Nat,s = [.int .i64 (x : Int),.int .i64 (y : Int),.bool true]∧vK u 0 u.fs=some (x,y))∨∃ x y,s = [x,y,.bool false]∧vK u 0 u.fs=none)) (fun K3 hK3=>?_) ?_
 rotate_left
 ·rintro _ w9 ⟨e9,⟨x,y,rfl,hb⟩|⟨x,y,rfl,hb⟩⟩ d9
  ·rw [hb] at h
   refine c_t rfl ?_
   exact h _ e9
  ·rw [hb] at h
   refine c_f rfl ?_
   exact h _ e9
 refine gG_ ?_
 refine zj (ι:=Nat × Value × Value) (fun i=>[i.2.1,i.2.2,.bool false,.int .i64 (i.1 : Nat)]) (fun j w'=>j.1≤u.fs.length∧vK u j.1 (u.fs.drop j.1)=vK u 0 u.fs∧StX noX w r w' _) (fun i=>u.fs.length - i.1) (0,.int .i64 a,.int .i64 0) rfl ⟨Nat.zero_le _,rfl,S⟩ ?_
 clear S
 rintro ⟨j,x1,x2⟩ d w5 ⟨hj,hd,S⟩ K6 hK6
 simp only at hj hd S ⊢
 simp only [List.getD_cons_zero,List.getD_cons_succ]
 refine gP_ ?_
 refine zm (fun hlt=>?_) (fun hge=>?_)
 rotate_left
 ·have hje : j=u.fs.length:=by omega
  rw [hje,List.drop_length] at hd
  exact hK3 _ _ ⟨S.ext,.inr ⟨_,_,rfl,hd.symm⟩⟩
 have hlt : j<u.fs.length:=by omega
 obtain ⟨bf,of,cf,rfl,hcf,hgc,hfo⟩:=hfn.sl.get (by decide) hlt
 rw [agH hlt] at hd
 have hH:=hheads j hlt
 have hfin:=hH.fine hok
 have hpn : ∀ f ∈ u.fs,0≤f.pn∧f.pn<f.tys.length:=fun f hf=>by
  obtain ⟨i,hi,rfl⟩:=List.getElem_of_mem hf
  exact ⟨(hheads i hi).pn0,(hheads i hi).pn1⟩
 generalize hgi : u.fs[j]=g at hd hgc hH hfin
 obtain ⟨vo,vt,vn,vp,rfl,h1,h2,h3,h4⟩:=id hgc
 obtain ⟨qo,capo,rfl,_,_⟩:=h1.sl.shape
 obtain ⟨qt,capt,rfl,_,hct⟩:=h2.sl.shape
 obtain ⟨qn,capn,rfl,_,_⟩:=h3.sl.shape
 obtain ⟨qp,capp,rfl,_,_⟩:=h4.sl.shape
 have hptl : g.pts.length≤9223372036854775807:=h4.few
 refine gP_ ?_
 refine zH (n:=7) hcf (fun j v hj=>by rw [Int.toNat_natCast];exact S.at (hfo j v hj)) ?_
 refine S.al fun b9 w6 S=>?_
 refine S.stB (b:=b9) fun w7 S=>?_
 refine S.ldB (b:=b1) ?_ rfl
 refine S.ldB (b:=b9) ?_ rfl
 refine zu (cs:=#[.slice p0 u.ss.length cap0,.slice (some ⟨bf,of,none⟩) u.fs.length capf,.int .i64 u.mn,.string g.name,.int .i64 g.lv,.slice qo g.outs.length capo,.int .i64 g.pn,.slice qt g.tys.length capt,.slice qn g.nms.length capn,.slice qp g.pts.length capp]) (by kernel_rfl) ?_
 refine S.al fun b10 w8 S=>?_
 refine S.stB (b:=b10) fun w9 S=>?_
 refine gG_ ?_
 have hask : AskG r (.agg #[.slice p0 u.ss.length cap0,.slice (some ⟨bf,of,none⟩) u.fs.length capf,.int .i64 u.mn,.string g.name,.int .i64 g.lv,.slice qo g.outs.length capo,.int .i64 g.pn,.slice qt g.tys.length capt,.slice qn g.nms.length capn,.slice qp g.pts.length capp]) u g:=⟨_,_,_,_,_,_,_,rfl,hu0,hgc⟩
 refine zj (ι:=Nat) (fun i=>[x1,x2,.bool false,.int .i64 (i : Nat)]) (fun k w'=>k≤g.pts.length∧j8 u g k (g.pts.drop k)=j8 u g 0 g.pts∧StX noX w r w' _) (fun i=>g.pts.length - i) 0 rfl ⟨Nat.zero_le _,rfl,S⟩ ?_
 clear S
 rintro k d w10 ⟨hk,hdk,S⟩ K7 hK7
 simp only [List.getD_cons_zero,List.getD_cons_succ]
 refine gP_ ?_
 refine zm (fun hlt2=>?_) (fun hge=>?_)
 ·have hlt2 : k<g.pts.length:=by omega
  obtain ⟨bp,op,cp,rfl,hcp,hpc,hcell⟩:=h4.sl.get (by decide) hlt2
  rw [afk hlt2] at hdk
  refine gP_ ?_
  refine zH (n:=21) hcp (fun j v hj=>by rw [Int.toNat_natCast];exact S.at (hcell j v hj)) ?_
  obtain ⟨vto,va,vb,vl,vfr,rfl,k1,k2,k3,k4,k5⟩:=id hpc
  obtain ⟨_,_,rfl,_⟩:=k1.sl.shape
  obtain ⟨_,_,rfl,_⟩:=k2.sl.shape
  obtain ⟨_,_,rfl,_⟩:=k3.sl.shape
  obtain ⟨_,_,rfl,_⟩:=k4.sl.shape
  obtain ⟨_,_,rfl,_⟩:=k5.sl.shape
  refine S.al fun b12 w11 S=>?_
  refine S.stB (b:=b12) fun w12 S=>?_
  refine S.ldB (b:=b10) ?_ rfl
  refine S.ldB (b:=b12) ?_ rfl
  refine YK S.holds hask hfin hpn hpc fun w13 e13=>?_
  have S:=S.go e13
  refine gP_ ?_
  refine c_b (fun hx=>?_) (fun hx=>?_)
  ·rw [if_neg (by simpa using hx)] at hdk
   rw [← hdk] at hd
   exact hK3 _ _ ⟨S.ext,.inl ⟨j,k,rfl,hd.symm⟩⟩
  ·rw [if_pos (by simpa using hx)] at hdk
   refine gP_ ?_
   rw [show ((k : Int)+1)=((k+1 : Nat) : Int) by omega]
   exact hK7 (k+1) _ ⟨hlt2,hdk,S.drop b12⟩ (by omega)
 have hke : k=g.pts.length:=by omega
 rw [hke,List.drop_length] at hdk
 rw [← hdk] at hd
 refine gP_ ?_
 rw [show ((j : Int)+1)=((j+1 : Nat) : Int) by omega]
 exact hK6 (j+1,x1,x2) _ ⟨hlt,hd,(S.drop b10).drop b9⟩ (by show u.fs.length - (j+1)<u.fs.length - j;omega)
theorem Qa {u : UnD} {v : Value} {w : World} {r : Gh} {K : Value→World→Prop} (hr : Holds r w) (hu : UnG r v u)
  (h : ∀ w',Ext w w'→K (.bool (J6 u)) w') : zd Tryz.prog Tryz.jo #[v] w K:=by
 refine Tryz.aaO ?_
 unfold Tryz.X4
 have hu0:=hu
 obtain ⟨p0,cap0,vf,rfl,_,_,hst,hsl,hfn⟩:=hu
 obtain ⟨qf,capf,rfl,_,_⟩:=hfn.sl.shape
 have S:=St.start hr
 refine S.box fun b1 w1 S=>?_
 refine S.ldB (b:=b1) ?_ rfl
 refine V7 S.holds hu0 fun w2 e2=>?_
 have S:=S.go e2
 refine gS_ ?_
 exact h _ S.ext
end Go.Proofs
end
section
namespace Go.Proofs
open Go.Sh
set_option maxRecDepth 100000
set_option linter.unusedSimpArgs false
set_option linter.unusedVariables false
end Go.Proofs
end
section
namespace Go.Sh
theorem StX.front {X : Nat→Prop} {w0 w : World} {r : Gh} {L M : List Asr} (S : StX X w0 r w L) (b : Nat) {c : List Value} {T : TypeId} [h : ja b L c T M] : StX X w0 r w (.cell b c T::M):=S.permO h.h.symm
end Go.Sh
namespace Go.Proofs
open Go.Sh
set_option maxRecDepth 100000
set_option linter.unusedSimpArgs false
set_option linter.unusedVariables false
end Go.Proofs
end
section
namespace Go.Proofs
open Go.Sh
set_option maxRecDepth 100000
set_option linter.unusedSimpArgs false
set_option linter.unusedVariables false
def ZZ : PlD:=⟨0,[]⟩
def XI : OpD:=⟨0,0,ZZ⟩
theorem agI {α : Type} {sz : Nat} {r : Gh} {R : List Value→α→Prop} : SlB sz r R (.slice none 0 0) ([] : List α):=⟨SlG.nil,Nat.zero_le _⟩
abbrev ptL (p : PtD) (q1 q2 q3 q4 q5 : Option Addr) (c1 c2 c3 c4 c5 : Nat) : List Value:=[.int .u8 p.op,.int .i64 p.to.l,.slice q1 p.to.ps.length c1,.int .u8 p.a.k,.int .i64 p.a.n,.int .i64 p.a.pl.l,.slice q2 p.a.pl.ps.length c2,.int .u8 p.b.k,.int .i64 p.b.n,.int .i64 p.b.pl.l,.slice q3 p.b.pl.ps.length c3,.slice q4 p.args.length c4,
 .string p.sign,.int .i64 p.fr.l,.slice q5 p.fr.ps.length c5,.bool p.mu,.int .i64 p.fn,.int .i64 p.st,.int .i64 p.nx,.int .i64 p.el,.int .i64 p.tx]
theorem Z0 {r : Gh} {c : List Value} {p : PtD} (h : PtG r c p) : ∃ q1 q2 q3 q4 q5 c1 c2 c3 c4 c5,c=ptL p q1 q2 q3 q4 q5 c1 c2 c3 c4 c5∧PtG r (ptL p q1 q2 q3 q4 q5 c1 c2 c3 c4 c5) p:=by
 obtain ⟨vto,va,vb,vl,vfr,rfl,k1,k2,k3,k4,k5⟩:=id h
 obtain ⟨q1,c1,rfl,_⟩:=k1.sl.shape
 obtain ⟨q2,c2,rfl,_⟩:=k2.sl.shape
 obtain ⟨q3,c3,rfl,_⟩:=k3.sl.shape
 obtain ⟨q4,c4,rfl,_⟩:=k4.sl.shape
 obtain ⟨q5,c5,rfl,_⟩:=k5.sl.shape
 exact ⟨q1,q2,q3,q4,q5,c1,c2,c3,c4,c5,rfl,h⟩
end Go.Proofs
end
section
namespace Go.Proofs
open Go.Sh
set_option maxRecDepth 100000
set_option linter.unusedSimpArgs false
set_option linter.unusedVariables false
theorem afl {r : Gh} {p : PtD} {q1 q2 q3 q4 q5 : Option Addr} {c1 c2 c3 c4 c5 : Nat} (h : PtG r (ptL p q1 q2 q3 q4 q5 c1 c2 c3 c4 c5) p) :
  PlG r [.int .i64 p.to.l,.slice q1 p.to.ps.length c1] p.to∧OpG r [.int .u8 p.a.k,.int .i64 p.a.n,.int .i64 p.a.pl.l,.slice q2 p.a.pl.ps.length c2] p.a∧
  OpG r [.int .u8 p.b.k,.int .i64 p.b.n,.int .i64 p.b.pl.l,.slice q3 p.b.pl.ps.length c3] p.b∧SlB 4 r (OpG r) (.slice q4 p.args.length c4) p.args∧PlG r [.int .i64 p.fr.l,.slice q5 p.fr.ps.length c5] p.fr:=by
 obtain ⟨_,_,_,_,_,hE,k1,k2,k3,k4,k5⟩:=h
 cases hE
 exact ⟨⟨_,rfl,k1⟩,⟨_,rfl,k2⟩,⟨_,rfl,k3⟩,k4,⟨_,rfl,k5⟩⟩
end Go.Proofs
end
section
namespace Go.Proofs
open Go.Sh
set_option maxRecDepth 100000
set_option linter.unusedSimpArgs false
set_option linter.unusedVariables false
end Go.Proofs
end
section
namespace Go.Proofs
open Go.Sh
set_option maxRecDepth 100000
set_option linter.unusedSimpArgs false
set_option linter.unusedVariables false
end Go.Proofs
end
section
namespace Go.Sh
theorem StX.mkSU {P : Program} {X : Nat→Prop} {w0 w : World} {r : Gh} {L : List Asr} {t e : TypeId} {bytes : Nat} {kl : IntKind} {n : Int} {z : Value} (S : StX X w0 r w L) [hT : ApT P t e 1 bytes] [hz : ZrT P e [z]] {K : Value→World→Prop} (h0 : 0≤n) (hb : (bytes : Int)*n≤281474976710656)
  (h : ∀ b w',StX X w0 r w' (.cell b (List.replicate n.toNat z) e::L)→K (.slice (some ⟨b,0,none⟩) n.toNat n.toNat) w') : opW P w (Instr.makeSlice t (.int kl n) (.int kl n)) fun t' w'=>Ext w w'∧K t' w':=
 aaF hT.h hz.h h0 hb fun b w' hb e _ B=>⟨e,h b w' (S.add e (by omega) B)⟩
theorem StX.litNew {w0 w : World} {r : Gh} {L M : List Asr} {α : Type} {sz : Nat} {R : List Value→α→Prop} {l : List α} {e : TypeId} {xs : List Value} (S : StX noX w0 r w L) (b : Nat) [h : ja b L xs e M] (hr : RowOf sz R xs l) (hz : 0<sz) :
  StX noX w0 (r.or (Go.Sh.one b xs e)) w M∧SlG sz (Go.Sh.one b xs e) R (.slice (some ⟨b,0,none⟩) l.length l.length) l∧Above w0 (Go.Sh.one b xs e):=by
 have S1:=S.front b
 have hm:=S1.mine (.cell b xs e) List.mem_cons_self b rfl
 obtain ⟨S2,h2⟩:=S1.litSl hr hz
 exact ⟨S2,h2,by rintro b' o ⟨rfl,_⟩;exact hm.1.resolve_right id⟩
end Go.Sh
namespace Go.Proofs
open Go.Sh
set_option maxRecDepth 100000
set_option linter.unusedSimpArgs false
set_option linter.unusedVariables false
theorem yp {α : Type} {sz : Nat} {R : List Value→α→Prop} {c : List Value} {x : α} (hc : c.length=sz) (hx : R c x) : RowOf sz R c [x]:=RowOf.nil.snoc (xs:=[]) hc hx
theorem yn {α : Type} {sz : Nat} {R : List Value→α→Prop} {c xs : List Value} {x : α} {l : List α} (hc : c.length=sz) (hx : R c x) (h : RowOf sz R xs l) : RowOf sz R (c++xs) (x::l):=by
 obtain ⟨h1,h2⟩:=h
 refine ⟨by rw [List.length_append,List.length_cons,h1,hc,Nat.succ_mul,Nat.add_comm],fun i hi=>?_⟩
 cases i with
 |zero=>rw [Nat.zero_mul,List.drop_zero,List.take_append_of_le_length (by omega),List.take_of_length_le (by omega)];exact hx
 |succ i=>
  have e : ((c++xs).drop ((i+1)*sz))=xs.drop (i*sz):=by
   rw [show (i+1)*sz=c.length+i*sz by rw [hc,Nat.succ_mul,Nat.add_comm],← List.drop_drop,List.drop_left'];rfl
  rw [e]
  exact h2 i (by simpa using hi)
theorem Z1 {α : Type} {sz : Nat} {r : Gh} {R : List Value→α→Prop} {v : Value} {l : List α} (h : SlG sz r R v l) (hl : l.length≤1000000:=by decide) : SlB sz r R v l:=⟨h,by simp only [maxLen];omega⟩
def Y9 : TyD:=.mk 4 true (-1) 0 [qK]
def plD (l : Int) : PlD:=⟨l,[]⟩
def ahC (n : Int) : OpD:=⟨1,n,ZZ⟩
def hp0 : PtD:=⟨4,plD 2,XI,XI,[],ByteArray.empty,plD 1,true,0,0,1,0,0⟩
def hp1 : PtD:=⟨1,plD 1,ahC 2,XI,[],ByteArray.empty,ZZ,false,0,0,2,0,0⟩
def hp2 : PtD:=⟨1,⟨2,[-1]⟩,ahC 3,XI,[],ByteArray.empty,ZZ,false,0,0,3,0,0⟩
def hp3 : PtD:=⟨14,ZZ,XI,XI,[],ByteArray.empty,ZZ,false,0,0,0,0,0⟩
def zt : GrD:=⟨ByteArray.empty,0,[],0,[qK,qK,Y9],[ByteArray.empty,ByteArray.empty,ByteArray.empty],[hp0,hp1,hp2,hp3]⟩
def y7 : UnD:=⟨[],[zt],0⟩
abbrev vN : List Value:=[.int .u8 1,.bool false,.int .i64 0,.int .i64 0,.slice none 0 0]
abbrev ahD : Value:=.agg #[.int .u8 1,.bool false,.int .i64 0,.int .i64 0,.slice none 0 0]
abbrev ahE (n : Int) : Value:=.agg #[.int .u8 1,.int .i64 n,.int .i64 0,.slice none 0 0]
abbrev hl0 : List Value:=[.int .u8 4,.int .i64 2,.slice none 0 0,.int .u8 0,.int .i64 0,.int .i64 0,.slice none 0 0,.int .u8 0,.int .i64 0,.int .i64 0,.slice none 0 0,.slice none 0 0,.string ByteArray.empty,.int .i64 1,.slice none 0 0,.bool true,.int .i64 0,.int .i64 0,.int .i64 1,.int .i64 0,.int .i64 0]
abbrev hl1 : List Value:=[.int .u8 1,.int .i64 1,.slice none 0 0,.int .u8 1,.int .i64 2,.int .i64 0,.slice none 0 0,.int .u8 0,.int .i64 0,.int .i64 0,.slice none 0 0,.slice none 0 0,.string ByteArray.empty,.int .i64 0,.slice none 0 0,.bool false,.int .i64 0,.int .i64 0,.int .i64 2,.int .i64 0,.int .i64 0]
abbrev hl2 (b : Nat) : List Value:=[.int .u8 1,.int .i64 2,.slice (some ⟨b,0,none⟩) 1 1,.int .u8 1,.int .i64 3,.int .i64 0,.slice none 0 0,.int .u8 0,.int .i64 0,.int .i64 0,.slice none 0 0,.slice none 0 0,.string ByteArray.empty,.int .i64 0,.slice none 0 0,.bool false,.int .i64 0,.int .i64 0,.int .i64 3,.int .i64 0,.int .i64 0]
abbrev hl3 : List Value:=[.int .u8 14,.int .i64 0,.slice none 0 0,.int .u8 0,.int .i64 0,.int .i64 0,.slice none 0 0,.int .u8 0,.int .i64 0,.int .i64 0,.slice none 0 0,.slice none 0 0,.string ByteArray.empty,.int .i64 0,.slice none 0 0,.bool false,.int .i64 0,.int .i64 0,.int .i64 0,.int .i64 0,.int .i64 0]
end Go.Proofs
end
section
namespace Go.Proofs
open Go.Sh
set_option maxRecDepth 100000
set_option linter.unusedSimpArgs false
set_option linter.unusedVariables false
theorem hst : zZ ([] : List StD)=(0,0):=by unfold zZ;simp [xu]
theorem hmay (t : TyD) : mayB [] t=zU 0 48 t:=by rw [mayB,hst];simp
theorem vc : ByteArray.empty.toList = []:=by rw [ByteArray.toList_eq];rfl
theorem aek : xK y7 0 zt=true:=by
 have h1 : jc y7 zt 0 zt.tys=true:=by
  show ((mayB [] qK&&_)&&((mayB [] qK&&_)&&((mayB [] Y9&&_)&&true)))=true
  rw [hmay,hmay]
  kernel_rfl
 unfold xK
 rw [h1]
 show (_ : Bool)=true
 kernel_rfl
theorem afm : ∀ p ∈ zt.pts,zV y7 zt p=true:=by
 have hp : zt.pts = [hp0,hp1,hp2,hp3]:=rfl
 rw [hp]
 intro p h
 simp only [List.mem_cons,List.not_mem_nil,or_false] at h
 rcases h with rfl|rfl|rfl|rfl
 ·have e : zz hp0 { to:=true,fr:=true,mu:=true } = true:=by
   rw [zz,kj,show hp0.sign=ByteArray.empty from rfl,vc];kernel_rfl
  have : zV y7 zt hp0=(((((zz hp0 { to:=true,fr:=true,mu:=true } && true)&&true)&&true)&&true)&&(true&&true)):=by kernel_rfl
  rw [this,e];rfl
 ·have e : zz hp1 { to:=true,a:=true } = true:=by
   rw [zz,kj,show hp1.sign=ByteArray.empty from rfl,vc];kernel_rfl
  have : zV y7 zt hp1=(((zz hp1 { to:=true,a:=true } && true)&&true)&&true):=by kernel_rfl
  rw [this,e];rfl
 ·have e : zz hp2 { to:=true,a:=true } = true:=by
   rw [zz,kj,show hp2.sign=ByteArray.empty from rfl,vc];kernel_rfl
  have : zV y7 zt hp2=(((zz hp2 { to:=true,a:=true } && true)&&true)&&true):=by kernel_rfl
  rw [this,e];rfl
 ·have e : zz hp3 {} = true:=by
   rw [zz,kj,show hp3.sign=ByteArray.empty from rfl,vc];kernel_rfl
  have : zV y7 zt hp3=zz hp3 {}:=by kernel_rfl
  rw [this,e]
theorem afn : MayU y7:=by
 refine ⟨by show (zZ []).2=0;rw [hst],by decide,by decide,by decide,by decide,fun i hi=>?_,fun g hg=>?_⟩
 ·have : i=0:=by have : y7.fs.length=1:=rfl;omega
  subst this
  exact aek
 ·rw [List.mem_singleton.1 hg]
  exact afm
end Go.Proofs
end
section
namespace Go.Sh
section
variable {P : Program} {t : TypeId} {c : Bool} {K : Value→Prop}
theorem ael {a b : Int} (k : ∀ x : Int,K (.int .i64 x)) : opP P (zA .add t c (.int .i64 a) (.int .i64 b)) K:=
 zO (fun w=>by rw [zQ];simp [binOp,Op.intArith]) (k (IntKind.i64.wrap (a+b)))
end
end Go.Sh
namespace Go.Proofs
open Go.Sh
set_option maxRecDepth 100000
set_option linter.unusedSimpArgs false
set_option linter.unusedVariables false
end Go.Proofs
end
section
namespace Go.Sh
open Go.RowKit
section
variable {P : Program} {X : Nat→Prop} {w0 w : World} {r : Gh} {L : List Asr} {t e T ty : TypeId} {b sz n off cap : Nat} {c z : List Value} {f : List Value→List Asr}
end
end Go.Sh
end
section
namespace Go.Proofs
open Go.Sh
set_option maxRecDepth 100000
set_option linter.unusedSimpArgs false
set_option linter.unusedVariables false
theorem je {u : UnD} {g : GrD} {p : PtD} (h : zV u g p=true) : ptG u g p=true:=by
 rw [zV,Bool.and_eq_true] at h;exact h.2
theorem afo {u : UnD} {g : GrD} {p : PtD} (h : zV u g p=true) (ho : 1≤p.op∧p.op≤8) : (zJ u.ss g.tys p.to).2.2=true:=by
 have h2:=je h
 cases hf : (zJ u.ss g.tys p.to).2.2 with
 |true=>rfl
 |false=>
  have hc : p.op=1∨p.op=2∨p.op=3∨p.op=4∨p.op=5∨p.op=6∨p.op=7∨p.op=8:=by omega
  rw [ptG] at h2
  rcases hc with hc|hc|hc|hc|hc|hc|hc|hc<;>simp [hc,hf] at h2
noncomputable def fnE (u : UnD) (n : Int) : Int:=if (decide (n<0)||decide ((u.fs.length : Int)≤n)) || !J6 u then 2 else 0
theorem Js {u : UnD} {n : Int} (h : fnE u n=0) : MayU u∧0≤n∧n.toNat<u.fs.length:=by
 unfold fnE at h
 split at h
 ·cases h
 ·rename_i hc
  simp only [Bool.or_eq_true,decide_eq_true_eq,Bool.not_eq_true',not_or,Bool.not_eq_false] at hc
  exact ⟨aa8.1 hc.2,by omega,by omega⟩
abbrev grL (g : GrD) (q1 q2 q3 q4 : Option Addr) (c1 c2 c3 c4 : Nat) : List Value:=[.string g.name,.int .i64 g.lv,.slice q1 g.outs.length c1,.int .i64 g.pn,.slice q2 g.tys.length c2,.slice q3 g.nms.length c3,.slice q4 g.pts.length c4]
theorem acx {r : Gh} {c : List Value} {g : GrD} (h : GrG r c g) : ∃ q1 q2 q3 q4 c1 c2 c3 c4,c=grL g q1 q2 q3 q4 c1 c2 c3 c4∧GrG r (grL g q1 q2 q3 q4 c1 c2 c3 c4) g:=by
 obtain ⟨vo,vt,vn,vp,rfl,k1,k2,k3,k4⟩:=id h
 obtain ⟨q1,c1,rfl,_⟩:=k1.sl.shape
 obtain ⟨q2,c2,rfl,_⟩:=k2.sl.shape
 obtain ⟨q3,c3,rfl,_⟩:=k3.sl.shape
 obtain ⟨q4,c4,rfl,_⟩:=k4.sl.shape
 exact ⟨q1,q2,q3,q4,c1,c2,c3,c4,rfl,h⟩
end Go.Proofs
end
section
namespace Go.Proofs
open Go.Sh
set_option maxRecDepth 100000
set_option linter.unusedSimpArgs false
set_option linter.unusedVariables false
end Go.Proofs
end
section
namespace Go.Proofs.Tryz
open Go.Sh
set_option maxRecDepth 100000
def jY (t0 t1 : Value) (w : World) (K : VW) : Prop:=
 ca ki #[t0] w fun t8 w1=>
 ca ki #[t1] w1 fun t10 w2=>
 zc t8 (zc t10 (K (i6 0) w2) (K (i6 (-1)) w2)) (zc t10 (K (i6 1) w2) (bf .lss 3 t0 t1 fun t16=>zc t16 (K (i6 (-1)) w2) (bf .gtr 3 t0 t1 fun t19=>zc t19 (K (i6 1) w2) (K (i6 0) w2))))
theorem Xa {t0 t1 : Value} {w : World} {K : VW} (h : jY t0 t1 w K) : zd prog kO #[t0,t1] w K:=
 okC false (.s (.r (rz 1 0 0)) (.s (.r (rz 3 0 8)) (.s (.r (rz 3 0 8)) (.s (.s (.r (rz 1 0 0)) (.c (.s (.s (.r (rz 1 0 0)) (.c (.s (.r (rz 1 0 0)) (.n)) (.n))) (.s (.r (rz 1 0 0)) (.n))) (.n))) (.s (.s (.r (rz 1 0 0)) (.c (.s (.r (rz 1 0 0)) (.n)) (.n))) (.s (.s (.r (rz 3 0 0)) (.c (.s (.r (rz 1 0 0)) (.n)) (.n))) (.s (.s (.r (rz 3 0 0)) (.c (.s (.r (rz 1 0 0)) (.n)) (.n))) (.s (.r (rz 1 0 0)) (.n))))))))) func52 rfl (by kernel_rfl) (by kernel_rfl) h
def Zs (t0 : Value) (w : World) (K : VW) : Prop:=
 bf .neq 3 t0 t0 fun t5=>K t5 w
theorem QM {t0 : Value} {w : World} {K : VW} (h : Zs t0 w K) : zd prog ki #[t0] w K:=
 okC false (.s (.r (rz 1 0 0)) (.s (.r (rz 4 0 0)) (.n))) func73 rfl (by kernel_rfl) (by kernel_rfl) h
end Go.Proofs.Tryz
end
section
namespace Go.Proofs
open Go.Sh
set_option maxRecDepth 100000
set_option linter.unusedSimpArgs false
set_option linter.unusedVariables false
theorem Qb {x : Int} {w : World} {K : Value→World→Prop} (h : K (.bool false) w) : zd Tryz.prog Tryz.ki #[.int .i64 x] w K:=by
 refine Tryz.QM ?_
 unfold Tryz.Zs
 refine gg_ ?_
 simpa using h
def aba (x y : Int) : Int:=if x<y then -1 else if y<x then 1 else 0
theorem VG {x y : Int} : aba x y=0↔x=y:=by
 unfold aba;split
 ·constructor<;>intro h<;>omega
 split<;>constructor<;>intro h<;>omega
theorem V8 {x y : Int} {w : World} {K : Value→World→Prop} (h : K (.int .i64 (aba x y)) w) : zd Tryz.prog Tryz.kO #[.int .i64 x,.int .i64 y] w K:=by
 refine Tryz.Xa ?_
 unfold Tryz.jY
 refine Qb (Qb (c_f rfl (c_f rfl ?_)))
 unfold aba at h
 refine gg_ ?_
 refine zm (fun h1=>?_) (fun h1=>?_)
 ·rwa [if_pos h1] at h
 refine gg_ ?_
 refine zm (fun h2=>?_) (fun h2=>?_)
 ·rwa [if_neg h1,if_pos h2] at h
 ·rwa [if_neg h1,if_neg h2] at h
end Go.Proofs
end
section
namespace Go.Proofs
open Go.Sh
set_option maxRecDepth 100000
set_option linter.unusedSimpArgs false
set_option linter.unusedVariables false
end Go.Proofs
end
section
namespace Go.Proofs
open Go.Sh
set_option maxRecDepth 100000
set_option linter.unusedSimpArgs false
set_option linter.unusedVariables false
end Go.Proofs
end
section
namespace Go.Proofs
open Go.Sh
set_option maxRecDepth 100000
set_option linter.unusedSimpArgs false
set_option linter.unusedVariables false
end Go.Proofs
end
section
namespace Go.Proofs
open Go.Sh
set_option maxRecDepth 100000
set_option linter.unusedSimpArgs false
set_option linter.unusedVariables false
end Go.Proofs
end
section
namespace Go.Sh
open Go.RowKit
section
variable {P : Program} {X : Nat→Prop} {w0 w : World} {r : Gh} {L : List Asr} {α : Type} {sz n : Nat} {R : List Value→α→Prop} {l : List α} {e : TypeId} {p : Option Addr} {cap : Nat}
theorem agJ (hz : 0<sz) (h : SlG sz r R (.slice p n cap) l) : ∃ xs,RowOf sz R xs l∧Ob r fun w=>Sl w p xs:=by
 have key : ∀ k,k≤l.length→∃ xs,RowOf sz R xs (l.take k)∧Ob r fun w=>Sl w p xs:=by
  intro k
  induction k with
  |zero=>intro _;exact ⟨[],by rw [List.take_zero];exact RowOf.nil,fun w _=>Sl.nil w _⟩
  |succ k ih=>
   intro hk
   obtain ⟨xs,h1,h2⟩:=ih (by omega)
   obtain ⟨b,off,c,rfl,hc,hcc,hcell⟩:=h.get hz (show k<l.length by omega)
   have hxl : xs.length=k*sz:=by rw [h1.1,List.length_take,Nat.min_eq_left (by omega)]
   refine ⟨xs++c,by rw [List.take_succ_eq_append_getElem (by omega)];exact h1.snoc hc hcc,fun w hw i v hi=>?_⟩
   by_cases hlt : i<xs.length
   ·rw [List.getElem?_append_left hlt] at hi;exact h2 w hw i v hi
   ·rw [List.getElem?_append_right (by omega)] at hi
    have:=hcell _ v hi w hw
    exact ⟨b,off,rfl,by rwa [show off+k*sz+(i - xs.length)=off+i by omega] at this⟩
 have:=key l.length (Nat.le_refl _)
 rwa [List.take_length] at this
theorem adj {xs : List Value} (h : RowOf sz R xs l) (hz : 0<sz) (h1 : ∀ c x,R c x→∀ u ∈ c,u.oneCell'=true) : ∀ u ∈ xs,u.oneCell'=true:=fun u hu=>by
 obtain ⟨i,hi,rfl⟩:=List.getElem_of_mem hu
 have hj : i / sz<l.length:=by
  rw [h.1] at hi
  exact Nat.div_lt_of_lt_mul (by rw [Nat.mul_comm];exact hi)
 refine h1 _ _ (h.2 _ hj) _ ?_
 have hm:=Nat.mod_lt i hz
 have hd:=Nat.div_add_mod i sz
 refine List.mem_of_getElem? (i:=i % sz) ?_
 rw [List.getElem?_take,if_pos hm,List.getElem?_drop,show i / sz*sz+i % sz=i by rw [Nat.mul_comm];exact hd,List.getElem?_eq_getElem hi]
end
end Go.Sh
namespace Go.Proofs
open Go.Sh
set_option maxRecDepth 100000
set_option linter.unusedSimpArgs false
set_option linter.unusedVariables false
theorem acz {r : Gh} {c : List Value} {o : OpD} (h : OpG r c o) : ∃ q k,c = [.int .u8 o.k,.int .i64 o.n,.int .i64 o.pl.l,.slice q o.pl.ps.length k]:=by
 obtain ⟨v,rfl,hl⟩:=h
 obtain ⟨q,k,rfl,_⟩:=hl.sl.shape
 exact ⟨q,k,rfl⟩
theorem agK {r : Gh} {c : List Value} {o : OpD} (h : OpG r c o) : ∀ u ∈ c,u.oneCell'=true:=by obtain ⟨q,k,rfl⟩:=acz h;simp [Value.oneCell']
def adk (o : OpD) : Bool:=decide (o.k≠0)
def abb (p : PtD) : List OpD:=(p.a::p.b::p.args).filter adk
end Go.Proofs
end
section
namespace Go.Proofs
open Go.Sh
set_option maxRecDepth 100000
set_option linter.unusedSimpArgs false
set_option linter.unusedVariables false
theorem Yk {ss : List StD} {tys : List TyD} : ∀ {l : List OpD} {ts : List TyD},xJ ss tys l ts=true→l.length=ts.length∧∀ (i : Nat) (hi : i<l.length) (hj : i<ts.length),(yc ss tys l[i]).2=true∧yh yV (yc ss tys l[i]).1 ts[i]=true
 |[],[],_=>⟨rfl,fun i hi=>absurd hi (Nat.not_lt_zero _)⟩
 |[],_::_,h=>by cases h
 |_::_,[],h=>by cases h
 |o::l,t::r,h=>by
  rw [Yi,Bool.and_eq_true,Bool.and_eq_true] at h
  obtain ⟨h1,h2⟩:=Yk h.2
  refine ⟨by simp [h1],fun i hi hj=>?_⟩
  cases i with
  |zero=>exact h.1
  |succ i=>exact h2 i (by simpa using hi) (by simpa using hj)
theorem agL {o : OpD} (h : o.k≠0) : Ye o=false:=by rw [Ye,decide_eq_false h];rfl
theorem Qc {u : UnD} {g : GrD} {p : PtD} (h : ptG u g p=true) : 1≤p.op∧p.op≤14:=by
 refine Classical.byContradiction fun hc=>?_
 rw [ptG] at h
 rw [if_neg (by omega),if_neg (by omega),if_neg (by omega),if_neg (by omega),if_neg (by omega),if_neg (by omega),if_neg (by omega),if_neg (by omega),if_neg (by omega),if_neg (by omega),if_neg (by omega),if_neg (by omega),if_neg (by omega)] at h
 cases h
theorem aem {u : UnD} {g : GrD} {p : PtD} (h : zV u g p=true) : ∀ o ∈ abb p,(yc u.ss g.tys o).2=true:=by
 have h2:=je h
 intro o ho
 rw [abb,List.mem_filter,adk,decide_eq_true_eq] at ho
 obtain ⟨hm,hk⟩:=ho
 have hn:=agL hk
 have hc : p.op=1∨p.op=2∨p.op=3∨p.op=4∨p.op=5∨p.op=6∨p.op=7∨p.op=8∨p.op=9∨p.op=10∨p.op=11∨p.op=12∨p.op=13∨p.op=14:=by
  have:=Qc h2
  omega
 cases hf : (yc u.ss g.tys o).2 with
 |true=>rfl
 |false=>
  exfalso
  rw [List.mem_cons,List.mem_cons] at hm
  rw [ptG] at h2
  rcases hm with rfl|rfl|hm
  ·rcases hc with hc|hc|hc|hc|hc|hc|hc|hc|hc|hc|hc|hc|hc|hc<;>simp [hc,hf,hn,zz,kj] at h2
  ·rcases hc with hc|hc|hc|hc|hc|hc|hc|hc|hc|hc|hc|hc|hc|hc<;>simp [hc,hf,hn,zz,kj] at h2
  ·have hne : p.args.length≠0:=fun h0=>by rw [List.eq_nil_of_length_eq_zero h0] at hm;cases hm
   obtain ⟨i,hi,rfl⟩:=List.getElem_of_mem hm
   have harg : ∀ ts,xJ u.ss g.tys p.args ts=false:=fun ts=>by
    cases ha : xJ u.ss g.tys p.args ts with
    |false=>rfl
    |true=>
     obtain ⟨hl,hx⟩:=Yk ha
     have:=(hx i hi (by omega)).1
     rw [hf] at this;cases this
   have hne' : p.args≠[]:=fun h0=>hne (by rw [h0];rfl)
   rcases hc with hc|hc|hc|hc|hc|hc|hc|hc|hc|hc|hc|hc|hc|hc<;>first|(simp [hc,hne,hne',zz,kj] at h2;done)|(simp [hc,hne,hne',zz,kj,harg] at h2;try (split at h2<;>simp_all))
theorem afp {u : UnD} {g : GrD} {p : PtD} (hM : MayU u) (h : zV u g p=true) : p.args.length≤1000:=by
 have h2:=je h
 by_cases hne : p.args.length=0
 ·omega
 have hne' : p.args≠[]:=fun h0=>hne (by rw [h0];rfl)
 rw [ptG] at h2
 by_cases h6 : p.op=6
 ·simp only [h6,Int.reduceEq,if_false,if_true,Bool.and_eq_true,decide_eq_true_eq,isK] at h2
  have hl:=(Yk h2.2).1
  have hf : (xd u.ss (zJ u.ss g.tys p.to).1).1.length≤8:=by
   rw [xd]
   split
   ·exact ZX (j7 hM.ok).2.1 _
   ·simp
  omega
 by_cases h7 : p.op=7
 ·simp only [h7,Int.reduceEq,if_false,if_true,Bool.and_eq_true,decide_eq_true_eq] at h2
  have hlt : p.fn.toNat<u.fs.length:=by omega
  rw [List.getElem?_eq_getElem hlt] at h2
  have h3:=h2.2
  simp only [Bool.and_eq_true] at h3
  have hl:=(Yk h3.2).1
  have:=(hM.hd hlt).pn8
  rw [List.length_take] at hl
  omega
 ·exfalso
  have hc : p.op=1∨p.op=2∨p.op=3∨p.op=4∨p.op=5∨p.op=8∨p.op=9∨p.op=10∨p.op=11∨p.op=12∨p.op=13∨p.op=14:=by
   have:=Qc (je h)
   omega
  rcases hc with hc|hc|hc|hc|hc|hc|hc|hc|hc|hc|hc|hc<;>simp [hc,hne,hne',zz,kj] at h2
end Go.Proofs
end
section
namespace Go.Proofs
open Go.Sh
set_option maxRecDepth 100000
set_option linter.unusedSimpArgs false
set_option linter.unusedVariables false
end Go.Proofs
end
section
namespace Go.Proofs
open Go.Sh
set_option maxRecDepth 100000
set_option linter.unusedSimpArgs false
set_option linter.unusedVariables false
theorem ahF {α : Type} {sz b : Nat} {R : List Value→α→Prop} {xs : List Value} {e : TypeId} {l : List α} {w : World} (h : RowOf sz R xs l) (hz : 0<sz) (B : Blk w b xs e) : SlG sz (Go.Sh.one b xs e) R (.slice (some ⟨b,0,none⟩) l.length l.length) l:=
 h.sl (by simp) (Nat.le_refl _) (fun w k=>Sl.blk (zF w k)) hz ⟨w,xC B⟩
def y8 (p : PtD) : List Int:=if p.op=14 then [] else if p.op=12∧p.nx≠p.el then [p.nx,p.el] else [p.nx]
end Go.Proofs
end
section
namespace Go.Proofs
open Go.Sh
set_option maxRecDepth 100000
set_option linter.unusedSimpArgs false
set_option linter.unusedVariables false
end Go.Proofs
end
section
namespace Go.Proofs.Tryz
open Go.Sh
set_option maxRecDepth 100000
end Go.Proofs.Tryz
end
section
namespace Go.Sh
end Go.Sh
namespace Go.Proofs
open Go.Sh
set_option maxRecDepth 100000
set_option linter.unusedSimpArgs false
set_option linter.unusedVariables false
end Go.Proofs
end
section
namespace Go.Sh
end Go.Sh
namespace Go.Proofs
open Go.Sh
set_option maxRecDepth 100000
set_option linter.unusedSimpArgs false
set_option linter.unusedVariables false
end Go.Proofs
end
section
namespace Go.Proofs
open Go.Sh
set_option maxRecDepth 100000
set_option linter.unusedSimpArgs false
set_option linter.unusedVariables false
end Go.Proofs
end
section
namespace Go.Proofs
open Go.Sh
set_option maxRecDepth 100000
set_option linter.unusedSimpArgs false
set_option linter.unusedVariables false
end Go.Proofs
end
section
namespace Go.Proofs
open Go.Sh
set_option maxRecDepth 100000
set_option linter.unusedSimpArgs false
set_option linter.unusedVariables false
end Go.Proofs
end
section
namespace Go.Proofs
open Go.Sh
set_option maxRecDepth 100000
set_option linter.unusedSimpArgs false
set_option linter.unusedVariables false
end Go.Proofs
end
section
namespace Go.Proofs
open Go.Sh
set_option maxRecDepth 100000
set_option linter.unusedSimpArgs false
set_option linter.unusedVariables false
end Go.Proofs
end
section
namespace Go.Proofs
open Go.Sh
set_option maxRecDepth 100000
set_option linter.unusedSimpArgs false
set_option linter.unusedVariables false
end Go.Proofs
end
section
namespace Go.Sh
end Go.Sh
namespace Go.Proofs
open Go.Sh
set_option maxRecDepth 100000
set_option linter.unusedSimpArgs false
set_option linter.unusedVariables false
end Go.Proofs
end
section
namespace Go.Proofs
open Go.Sh
set_option maxRecDepth 100000
set_option linter.unusedSimpArgs false
set_option linter.unusedVariables false
end Go.Proofs
end
section
namespace Go.Sh
end Go.Sh
namespace Go.Proofs
open Go.Sh
set_option maxRecDepth 100000
set_option linter.unusedSimpArgs false
set_option linter.unusedVariables false
end Go.Proofs
end
section
namespace Go.Proofs
open Go.Sh
set_option maxRecDepth 100000
set_option linter.unusedSimpArgs false
set_option linter.unusedVariables false
end Go.Proofs
end
section
namespace Go.Proofs
open Go.Sh
set_option maxRecDepth 100000
set_option linter.unusedSimpArgs false
set_option linter.unusedVariables false
end Go.Proofs
end
section
namespace Go.Proofs
open Go.Sh
set_option maxRecDepth 100000
set_option linter.unusedSimpArgs false
set_option linter.unusedVariables false
end Go.Proofs
end
section
namespace Go.Proofs
open Go.Shelf
set_option maxRecDepth 100000
def Tryz.ab0 : Go.Shelf.Ren:=⟨fun|189=>31|125=>47|257=>46|128=>69|129=>70|294=>60|295=>61|296=>62|297=>63|298=>64|299=>65|216=>66|300=>67|301=>68|328=>78|329=>79|330=>80|331=>81|332=>82|215=>73|343=>108|n=>n,fun|28=>50|3=>3|46=>113|0=>0|51=>137|53=>65|4=>4|183=>131|182=>130|131=>72|5=>5|9=>9|218=>146|222=>150|228=>181|229=>182|n=>n,fun|n=>n⟩
theorem Tryz.acA : Go.Proofs.Lays.n189 Tryz.prog Tryz.ab0:={
 mixed:=by kernel_rfl
 f125:=Tryz.func47.trans (congrArg some (by kernel_rfl))
 f128:=Tryz.func69.trans (congrArg some (by kernel_rfl))
 f129:=Tryz.func70.trans (congrArg some (by kernel_rfl))
 f189:=Tryz.func31.trans (congrArg some (by kernel_rfl))
 f215:=Tryz.func73.trans (congrArg some (by kernel_rfl))
 f216:=Tryz.func66.trans (congrArg some (by kernel_rfl))
 f257:=Tryz.func46.trans (congrArg some (by kernel_rfl))
 f294:=Tryz.func60.trans (congrArg some (by kernel_rfl))
 f295:=Tryz.func61.trans (congrArg some (by kernel_rfl))
 f296:=Tryz.func62.trans (congrArg some (by kernel_rfl))
 f297:=Tryz.func63.trans (congrArg some (by kernel_rfl))
 f298:=Tryz.func64.trans (congrArg some (by kernel_rfl))
 f299:=Tryz.func65.trans (congrArg some (by kernel_rfl))
 f300:=Tryz.func67.trans (congrArg some (by kernel_rfl))
 f301:=Tryz.func68.trans (congrArg some (by kernel_rfl))
 f328:=Tryz.func78.trans (congrArg some (by kernel_rfl))
 f329:=Tryz.func79.trans (congrArg some (by kernel_rfl))
 f330:=Tryz.func80.trans (congrArg some (by kernel_rfl))
 f331:=Tryz.func81.trans (congrArg some (by kernel_rfl))
 f332:=Tryz.func82.trans (congrArg some (by kernel_rfl))
 f343:=Tryz.func108.trans (congrArg some (by kernel_rfl))
 t0:=Tryz.underlying0
 a0:=Tryz.isAgg0
 z0:=Tryz.sizeOf0
 v0:=Tryz.zeroValue0
 t3:=Tryz.underlying3
 a3:=Tryz.isAgg3
 z3:=Tryz.sizeOf3
 v3:=Tryz.zeroValue3
 t4:=Tryz.underlying4
 a4:=Tryz.isAgg4
 z4:=Tryz.sizeOf4
 v4:=Tryz.zeroValue4
 t5:=Tryz.underlying5
 a5:=Tryz.isAgg5
 z5:=Tryz.sizeOf5
 v5:=Tryz.zeroValue5
 t9:=Tryz.underlying9
 a9:=Tryz.isAgg9
 z9:=Tryz.sizeOf9
 v9:=Tryz.zeroValue9
 t28:=Tryz.underlying50
 a28:=Tryz.isAgg50
 z28:=Tryz.sizeOf50
 v28:=Tryz.zeroValue50
 t46:=Tryz.underlying113
 a46:=Tryz.isAgg113
 z46:=Tryz.sizeOf113
 v46:=Tryz.zeroValue113
 t51:=Tryz.underlying137
 a51:=Tryz.isAgg137
 z51:=Tryz.sizeOf137
 v51:=Tryz.zeroValue137
 t53:=Tryz.underlying65
 a53:=Tryz.isAgg65
 z53:=Tryz.sizeOf65
 v53:=Tryz.zeroValue65
 t131:=Tryz.underlying72
 a131:=Tryz.isAgg72
 z131:=Tryz.sizeOf72
 v131:=Tryz.zeroValue72
 t182:=Tryz.underlying130
 a182:=Tryz.isAgg130
 z182:=Tryz.sizeOf130
 v182:=Tryz.zeroValue130
 t183:=Tryz.underlying131
 a183:=Tryz.isAgg131
 z183:=Tryz.sizeOf131
 v183:=Tryz.zeroValue131
 t218:=Tryz.underlying146
 a218:=Tryz.isAgg146
 z218:=Tryz.sizeOf146
 v218:=Tryz.zeroValue146
 t222:=Tryz.underlying150
 a222:=Tryz.isAgg150
 z222:=Tryz.sizeOf150
 v222:=Tryz.zeroValue150
 t228:=Tryz.underlying181
 a228:=Tryz.isAgg181
 z228:=Tryz.sizeOf181
 v228:=Tryz.zeroValue181
 t229:=Tryz.underlying182
 a229:=Tryz.isAgg182
 z229:=Tryz.sizeOf182
 v229:=Tryz.zeroValue182 }
def Tryz.V9 : Go.Shelf.Ren:=⟨fun|20=>32|n=>n,fun|22=>50|3=>3|4=>4|0=>0|n=>n,fun|n=>n⟩
theorem Tryz.VH : Go.Proofs.Lays2.n20 Tryz.prog Tryz.V9:={
 mixed:=by kernel_rfl
 f20:=Tryz.func32.trans (congrArg some (by kernel_rfl))
 t0:=Tryz.underlying0
 a0:=Tryz.isAgg0
 z0:=Tryz.sizeOf0
 v0:=Tryz.zeroValue0
 t3:=Tryz.underlying3
 a3:=Tryz.isAgg3
 z3:=Tryz.sizeOf3
 v3:=Tryz.zeroValue3
 t4:=Tryz.underlying4
 a4:=Tryz.isAgg4
 z4:=Tryz.sizeOf4
 v4:=Tryz.zeroValue4
 t22:=Tryz.underlying50
 a22:=Tryz.isAgg50
 z22:=Tryz.sizeOf50
 v22:=Tryz.zeroValue50
 i3:=by kernel_rfl }
def Tryz.aaa : Go.Shelf.Ren:=⟨fun|15=>51|n=>n,fun|22=>50|3=>3|4=>4|n=>n,fun|n=>n⟩
theorem Tryz.Xb : Go.Proofs.Lays2.n15 Tryz.prog Tryz.aaa:={
 mixed:=by kernel_rfl
 f15:=Tryz.func51.trans (congrArg some (by kernel_rfl))
 t3:=Tryz.underlying3
 a3:=Tryz.isAgg3
 z3:=Tryz.sizeOf3
 v3:=Tryz.zeroValue3
 t4:=Tryz.underlying4
 a4:=Tryz.isAgg4
 z4:=Tryz.sizeOf4
 v4:=Tryz.zeroValue4
 t22:=Tryz.underlying50
 a22:=Tryz.isAgg50
 z22:=Tryz.sizeOf50
 v22:=Tryz.zeroValue50
 i3:=by kernel_rfl }
end Go.Proofs
end
section
namespace Go.Sh
open Go.RowKit
theorem VI {w w' : World} {g q : Nat} {c : List Value} {e : TypeId} {d : Array Int} {os : Array Obj} (B : Blk w g c e) (hd : d.size≤c.length)
  (hw : w'=Sort.grow (Sort.putRow (Value.int .i64) (Sort.ahead w q) g 0 d) os) : ExtBut (· = g) w w'∧Blk w' g (d.toList.map (Value.int .i64)++c.drop d.size) e:=by
 subst hw
 have hg : g<w.heap.size:=(Array.getElem?_eq_some_iff.1 B).1
 have hput : ∀ k,(Sort.putRow (Value.int .i64) (Sort.ahead w q) g 0 d).heap[k]? = if g=k then (w.heap[k]?).map (Sort.onCells (Sort.putCells (Value.int .i64) 0 d)) else w.heap[k]?:=fun k=>by
  simp only [Sort.putRow,Sort.mapBlock,Array.getElem?_modify]
  split<;>rfl
 have hsz : (Sort.putRow (Value.int .i64) (Sort.ahead w q) g 0 d).heap.size=w.heap.size:=by simp [Sort.ahead]
 refine ⟨⟨rfl,rfl,rfl,by simp only [Sort.grow,Array.size_append,hsz];omega,fun k hk hne=>?_⟩,?_⟩
 ·show ((Sort.putRow (Value.int .i64) (Sort.ahead w q) g 0 d).heap++os)[k]? = _
  rw [Array.getElem?_append_left (by rw [hsz];exact hk),hput,if_neg (fun h=>hne h.symm)]
 ·show ((Sort.putRow (Value.int .i64) (Sort.ahead w q) g 0 d).heap++os)[g]? = _
  rw [Array.getElem?_append_left (by rw [hsz];exact hg),hput,if_pos rfl,B,Option.map_some]
  simp only [Sort.onCells]
  congr 2
  apply Array.ext_getElem?
  intro i
  simp only [Sort.putCells,Array.getElem?_mapIdx,List.getElem?_toArray,List.getElem?_append,List.length_map,Array.length_toList,List.getElem?_map,List.getElem?_drop,Nat.zero_le,true_and,Nat.zero_add,Nat.sub_zero]
  by_cases hi : i<d.size
  ·rw [if_pos hi,List.getElem?_eq_getElem (by omega),Option.map_some,if_pos hi,Array.getElem?_toList,Array.getElem?_eq_getElem hi,getElem!_pos d i hi];rfl
  ·rw [if_neg hi,show d.size+(i - d.size)=i by omega]
   cases h : c[i]? with
   |none=>rfl
   |some x=>rw [Option.map_some,if_neg hi]
end Go.Sh
namespace Go.Proofs
open Go.Sh Go.RowKit
set_option maxRecDepth 100000
set_option linter.unusedSimpArgs false
set_option linter.unusedVariables false
def sortI (l : List Int) : List Int:=l.mergeSort fun x y=>decide (x≤y)
theorem qy {l : List Int} : (sortI l).length=l.length:=List.length_mergeSort l
variable {w0 w : World} {r : Gh} {L : List Asr} {X : Nat→Prop}
theorem YB {v : Value} {l : List Int} {K : Value→World→Prop} (S : StX X w0 r w (.row v 3 1 l.length (ints l)::L)) (hl : l.length<4611686018427387904)
  (h : ∀ w',StX X w0 r w' (.row v 3 1 l.length (ints (sortI l))::L)→K (.tuple #[]) w') : zd Tryz.prog Tryz.xq #[v] w K:=by
 have hr : w.ownsRow 0 3 1 v l.length (ints l):=S.has _ (List.mem_cons_self ..)
 rcases xW hr with ⟨rfl,h1,h2⟩|⟨g,cap,c,rfl,hg,B,hn,hm,hcl,ht⟩
 ·have hl0 : l = []:=List.eq_nil_of_length_eq_zero h1
  subst hl0
  refine Calls.mono (Any.slices_Sort_int_none Tryz.acA none 0 w) ?_
  rintro e w' ⟨rfl,rfl⟩
  exact ⟨_,rfl,h _ (by rw [show sortI [] = [] by simp [sortI]];exact S)⟩
 ·rw [Nat.mul_one] at hcl ht
  have hcell : ∀ j,j<l.length→w.cell? ⟨g,j,none⟩=some (.int .i64 l[j]!):=fun j hj=>by
   have : (c.take l.length)[j]? = some (.int .i64 l[j]!):=by
    rw [ht,ints,List.getElem?_map,List.getElem?_eq_getElem hj,getElem!_pos l j hj];rfl
   rw [List.getElem?_take,if_pos hj] at this
   rw [B.cell];exact this
  have hfz : ∀ j,w.frozen? ⟨g,j,none⟩=false:=fun j=>B.unfrozen j
  refine Calls.mono (Any.slices_Sort_int Tryz.acA g 0 cap l w (fun j hj=>⟨?_,hfz _⟩) (Array.getElem?_eq_some_iff.1 B).1 hl) ?_
  ·have hj : j<l.length:=by simpa using hj
   rw [Nat.zero_add,hcell j hj]
   simp [getElem!_pos,hj]
  rintro e w' ⟨rfl,q,os,hw⟩
  obtain ⟨hE,hB⟩:=VI (d:=(sortI l).toArray) B (by simp [qy];omega) hw
  refine ⟨_,rfl,h w' ?_⟩
  refine S.turn (p:=[]) (x:=.row (.slice (some ⟨g,0,none⟩) l.length cap) 3 1 l.length (ints l)) (y:=.row (.slice (some ⟨g,0,none⟩) l.length cap) 3 1 l.length (ints (sortI l))) ?_ ?_ fun k hk=>.inl hk
  ·exact hE.mono fun k _ hk=>by subst hk;rfl
  ·have:=qC (base:=0) (e:=3) (size:=1) (n:=l.length) (cap:=cap) (Nat.zero_le _) hB hn hm (by simp [qy];omega)
   have e : ((sortI l).toArray.toList.map (Value.int .i64)++c.drop (sortI l).toArray.size).take (l.length*1)=ints (sortI l):=by
    rw [Nat.mul_one,List.take_append_of_le_length (by simp [qy])]
    exact List.take_of_length_le (by simp [qy])
   rwa [e] at this
theorem adl {l : List Int} : (Lib.compact l).length≤l.length:=by
 unfold Lib.compact Lib.compactUpTo
 rw [List.length_map]
 exact Nat.le_trans (List.length_filter_le _ _) (by simp)
theorem Xc {d : Array Int} (hs : ∀ i j,i≤j→j<d.size→d[i]!≤d[j]!) : ∀ m,m≤d.size→(Lib.compactUpTo d m).Pairwise (· < ·)∧∀ x,x ∈ Lib.compactUpTo d m↔∃ j,j<m∧d[j]! = x
 |0,_=>⟨by simp [Lib.compactUpTo],fun x=>⟨fun h=>by simp [Lib.compactUpTo] at h,fun ⟨j,h,_⟩=>absurd h (Nat.not_lt_zero _)⟩⟩
 |m+1,hm=>by
  obtain ⟨h1,h2⟩:=Xc hs m (by omega)
  rw [Lib.compactUpTo_succ]
  by_cases hk : Lib.keeps d m=true
  ·rw [if_pos hk]
   have hk' : m=0∨d[m]!≠d[m - 1]!:=by simpa [Lib.keeps] using hk
   refine ⟨List.pairwise_append.2 ⟨h1,by simp,fun a ha b hb=>?_⟩,fun x=>?_⟩
   ·rw [List.mem_singleton.1 hb]
    obtain ⟨j,hj,rfl⟩:=(h2 a).1 ha
    have h3:=hs j (m - 1) (by omega) (by omega)
    have h4:=hs (m - 1) m (by omega) (by omega)
    rcases hk' with h0|hne
    ·omega
    ·omega
   ·rw [List.mem_append,List.mem_singleton,h2]
    constructor
    ·rintro (⟨j,hj,e⟩|e)
     ·exact ⟨j,by omega,e⟩
     ·exact ⟨m,by omega,e.symm⟩
    ·rintro ⟨j,hj,e⟩
     by_cases hjm : j=m
     ·subst hjm;exact .inr e.symm
     ·exact .inl ⟨j,by omega,e⟩
  ·rw [if_neg hk,List.append_nil]
   have hk' : ¬ m=0∧d[m]! = d[m - 1]!:=by simpa [Lib.keeps,not_or] using hk
   refine ⟨h1,fun x=>?_⟩
   rw [h2]
   constructor
   ·rintro ⟨j,hj,e⟩;exact ⟨j,by omega,e⟩
   ·rintro ⟨j,hj,e⟩
    by_cases hjm : j=m
    ·subst hjm;exact ⟨j - 1,by omega,by rw [← e,hk'.2]⟩
    ·exact ⟨j,by omega,e⟩
theorem Xd {l : List Int} : (Lib.compact (sortI l)).Pairwise (· < ·)∧∀ x,x ∈ Lib.compact (sortI l)↔x ∈ l:=by
 have hp : (sortI l).Pairwise (fun a b=>decide (a≤b)=true):=List.pairwise_mergeSort (fun a b c h1 h2=>by simp only [decide_eq_true_eq] at *;omega) (fun a b=>by simp only [Bool.or_eq_true,decide_eq_true_eq];omega) l
 have hg : ∀ (i : Nat) (hi : i<(sortI l).length),(sortI l).toArray[i]! = (sortI l)[i]:=fun i hi=>by
  rw [getElem!_pos _ i (by simpa using hi)];simp
 have hs : ∀ i j,i≤j→j<(sortI l).toArray.size→(sortI l).toArray[i]!≤(sortI l).toArray[j]!:=fun i j hij hj=>by
  have hj : j<(sortI l).length:=by simpa using hj
  rw [hg i (by omega),hg j hj]
  by_cases e : i=j
  ·subst e;exact Int.le_refl _
  ·simpa using List.pairwise_iff_getElem.1 hp i j (by omega) hj (by omega)
 obtain ⟨h1,h2⟩:=Xc hs (sortI l).length (by simp)
 refine ⟨h1,fun x=>?_⟩
 show x ∈ Lib.compactUpTo (sortI l).toArray (sortI l).length↔_
 rw [h2,← List.mem_mergeSort (le:=fun x y=>decide (x≤y)) (l:=l)]
 constructor
 ·rintro ⟨j,hj,rfl⟩
  rw [hg j hj];exact List.getElem_mem hj
 ·intro hx
  obtain ⟨j,hj,rfl⟩:=List.getElem_of_mem hx
  exact ⟨j,hj,hg j hj⟩
theorem QN {v : Value} {l : List Int} {K : Value→World→Prop} (S : StX X w0 r w (.row v 3 1 l.length (ints l)::L))
  (h : ∀ v' w',StX X w0 r w' (.row v' 3 1 (Lib.compact l).length (ints (Lib.compact l))::L)→K v' w') : zd Tryz.prog Tryz.kq #[v] w K:=by
 have hr : w.ownsRow 0 3 1 v l.length (ints l):=S.has _ (List.mem_cons_self ..)
 rcases xW hr with ⟨rfl,h1,h2⟩|⟨g,cap,c,rfl,hg,B,hn,hm,hcl,ht⟩
 ·have hl0 : l = []:=List.eq_nil_of_length_eq_zero h1
  subst hl0
  refine Calls.mono (Any.slices_Compact_int_empty Tryz.VH none 0 w) ?_
  rintro e w' ⟨rfl,rfl⟩
  exact ⟨_,rfl,h _ _ S⟩
 ·rw [Nat.mul_one] at hcl ht
  have hcell : ∀ j,j<l.length→w.cell? ⟨g,j,none⟩=some (.int .i64 l[j]!):=fun j hj=>by
   have : (c.take l.length)[j]? = some (.int .i64 l[j]!):=by
    rw [ht,ints,List.getElem?_map,List.getElem?_eq_getElem hj,getElem!_pos l j hj];rfl
   rw [List.getElem?_take,if_pos hj] at this
   rw [B.cell];exact this
  have hfz : ∀ j,w.frozen? ⟨g,j,none⟩=false:=fun j=>B.unfrozen j
  refine Calls.mono (Any.slices_Compact_int Tryz.VH g 0 cap l w (fun j hj=>⟨?_,hfz _⟩) (by have : cap≤9223372036854775807:=hm;omega) hn) ?_
  ·have hj : j<l.length:=by simpa using hj
   rw [Nat.zero_add,hcell j hj]
   simp [getElem!_pos,hj]
  rintro e w' ⟨rfl,q,hw⟩
  have hcm : (Lib.compact l).length≤l.length:=adl
  obtain ⟨hE,hB⟩:=VI (w':=w') (q:=q) (os:=#[]) (d:=(Lib.compact l++List.replicate (l.length - (Lib.compact l).length) 0).toArray) B (by simp;omega) (by rw [hw,Sort.grow_empty])
  refine ⟨_,rfl,h _ w' ?_⟩
  refine S.turn (p:=[]) (x:=.row (.slice (some ⟨g,0,none⟩) l.length cap) 3 1 l.length (ints l)) (y:=.row (.slice (some ⟨g,0,none⟩) (Lib.compact l).length cap) 3 1 (Lib.compact l).length (ints (Lib.compact l))) ?_ ?_ fun k hk=>.inl hk
  ·exact hE.mono fun k _ hk=>by subst hk;rfl
  ·have:=qC (base:=0) (e:=3) (size:=1) (n:=(Lib.compact l).length) (cap:=cap) (Nat.zero_le _) hB (by omega) hm (by simp;omega)
   have e : (((Lib.compact l++List.replicate (l.length - (Lib.compact l).length) 0).toArray.toList.map (Value.int .i64))++c.drop (Lib.compact l++List.replicate (l.length - (Lib.compact l).length) 0).toArray.size).take ((Lib.compact l).length*1)=ints (Lib.compact l):=by
    rw [Nat.mul_one,List.take_append_of_le_length (by simp)]
    simp only [List.map_append]
    rw [List.take_append_of_le_length (by simp)]
    exact List.take_of_length_le (by simp)
   rwa [e] at this
end Go.Proofs
end
section
namespace Go.Proofs
open Go.Sh
set_option maxRecDepth 100000
set_option linter.unusedSimpArgs false
set_option linter.unusedVariables false
end Go.Proofs
end
section
namespace Go.Proofs
open Go.Sh
set_option maxRecDepth 100000
set_option linter.unusedSimpArgs false
set_option linter.unusedVariables false
theorem RowOf.app {α : Type} {sz : Nat} {R : List Value→α→Prop} {xs ys : List Value} {l m : List α} (h : RowOf sz R xs l) (k : RowOf sz R ys m) : RowOf sz R (xs++ys) (l++m):=by
 obtain ⟨h1,h2⟩:=h
 obtain ⟨k1,k2⟩:=k
 refine ⟨by rw [List.length_append,List.length_append,h1,k1,Nat.add_mul],fun i hi=>?_⟩
 by_cases hl : i<l.length
 ·have:=Nat.mul_le_mul_right sz (Nat.succ_le_of_lt hl)
  rw [Nat.succ_mul] at this
  rw [List.getElem_append_left hl,List.drop_append_of_le_length (by rw [h1];omega),List.take_append_of_le_length (by rw [List.length_drop,h1];omega)]
  exact h2 i hl
 ·rw [List.getElem_append_right (by omega)]
  have e : (xs++ys).drop (i*sz)=ys.drop ((i - l.length)*sz):=by
   rw [List.drop_append,List.drop_eq_nil_of_le (by rw [h1];exact Nat.mul_le_mul_right _ (by omega)),List.nil_append,h1,← Nat.sub_mul]
  rw [e]
  exact k2 _ _
end Go.Proofs
end
section
namespace Go.Proofs
set_option linter.unusedVariables false
abbrev zD:=List (List Int)
def nxt (n : zD) (q : Int) : List Int:=n.getD q.toNat []
def isN (n : zD) (q : Int) : Prop:=0≤q∧q<n.length
instance (n : zD) (q : Int) : Decidable (isN n q):=inferInstanceAs (Decidable (_∧_))
def kH (n : zD) : Prop:=∀ l ∈ n,∀ x ∈ l,isN n x
theorem aen {n : zD} {q : Int} (h : isN n q) : nxt n q=n[q.toNat]'(by have:=h.1;have:=h.2;omega):=by
 have:=h.1;have:=h.2
 rw [nxt,List.getD_eq_getElem?_getD,List.getElem?_eq_getElem (by omega)];rfl
theorem Xe {n : zD} (h : kH n) {q x : Int} (hx : x ∈ nxt n q) : isN n x:=by
 by_cases hq : q.toNat<n.length
 ·rw [nxt,List.getD_eq_getElem?_getD,List.getElem?_eq_getElem hq] at hx
  exact h _ (List.getElem_mem hq) x hx
 ·rw [nxt,List.getD_eq_getElem?_getD,List.getElem?_eq_none (by omega)] at hx
  cases hx
def mk' (m : List Bool) (q : Int) : Bool:=m.getD q.toNat false
def xw (m : List Bool) (q : Int) : List Bool:=m.set q.toNat true
theorem abc {m : List Bool} {q : Int} : (xw m q).length=m.length:=List.length_set
theorem aeo {m : List Bool} {q x : Int} (hq : 0≤q) (hq2 : q<m.length) (hx : 0≤x) : mk' (xw m q) x=(decide (x=q)||mk' m x):=by
 rw [mk',xw,List.getD_eq_getElem?_getD,List.getElem?_set]
 by_cases h : x=q
 ·subst h
  rw [if_pos rfl,if_pos (by omega)];simp
 ·rw [if_neg (by omega)]
  simp [h,mk',List.getD_eq_getElem?_getD]
def off (m : List Bool) : Nat:=m.countP fun b=>!b
theorem agM {m : List Bool} {q : Int} (hq2 : q.toNat<m.length) (h : mk' m q=false) : off (xw m q)+1=off m:=by
 rw [mk',List.getD_eq_getElem?_getD,List.getElem?_eq_getElem hq2,Option.getD_some] at h
 rw [off,off,xw]
 generalize q.toNat=k at *
 induction m generalizing k with
 |nil=>simp at hq2
 |cons b l ih=>
  cases k with
  |zero=>
   simp only [List.getElem_cons_zero] at h
   subst h
   simp
  |succ k=>
   simp only [List.getElem_cons_succ,List.length_cons] at h hq2
   have:=ih k (by omega) h
   simp only [List.set_cons_succ,List.countP_cons]
   omega
def mkd (m : List Bool) : List Int:=((List.range m.length).filter fun i=>m.getD i false).map Int.ofNat
theorem acB {m : List Bool} {x : Int} : x ∈ mkd m↔0≤x∧mk' m x=true:=by
 rw [mkd,List.mem_map]
 constructor
 ·rintro ⟨i,hi,rfl⟩
  rw [List.mem_filter] at hi
  exact ⟨Int.natCast_nonneg i,by rw [mk',show (Int.ofNat i).toNat=i from rfl];exact hi.2⟩
 ·rintro ⟨h0,h⟩
  refine ⟨x.toNat,?_,Int.toNat_of_nonneg h0⟩
  rw [List.mem_filter,List.mem_range]
  refine ⟨?_,h⟩
  refine Nat.lt_of_not_le fun hl=>?_
  rw [mk',List.getD_eq_getElem?_getD,List.getElem?_eq_none hl] at h
  cases h
theorem VJ {m m' : List Bool} (hl : m.length=m'.length) (h : ∀ x : Int,0≤x→x<m.length→mk' m x=mk' m' x) : m=m':=by
 refine List.ext_getElem hl fun i h1 h2=>?_
 have:=h i (Int.natCast_nonneg i) (by omega)
 simpa [mk',List.getD_eq_getElem?_getD,h1,h2] using this
theorem aif {m : List Bool} {x : Int} (h : mk' m x=true) : x.toNat<m.length:=by
 refine Nat.lt_of_not_le fun hl=>?_
 rw [mk',List.getD_eq_getElem?_getD,List.getElem?_eq_none hl] at h
 cases h
theorem agN {k : Nat} : off (List.replicate k false)=k:=by
 rw [off,List.countP_replicate];simp
end Go.Proofs
end
section
namespace Go.Proofs
open Go.Sh
set_option maxRecDepth 100000
set_option linter.unusedSimpArgs false
set_option linter.unusedVariables false
end Go.Proofs
end
section
namespace Go.Proofs
open Go.Sh
set_option maxRecDepth 100000
set_option linter.unusedSimpArgs false
set_option linter.unusedVariables false
end Go.Proofs
end
section
namespace Go.Proofs
open Go.Sh
set_option maxRecDepth 100000
set_option linter.unusedSimpArgs false
set_option linter.unusedVariables false
end Go.Proofs
end
section
namespace Go.Proofs
open Go.Sh
set_option maxRecDepth 100000
set_option linter.unusedSimpArgs false
set_option linter.unusedVariables false
theorem abd {u : UnD} {g : GrD} {p : PtD} (h : zV u g p=true) : 0≤p.tx∧(p.op≠14→Yf g p.nx=true)∧(p.op=14→p.nx=0)∧ptG u g p=true:=by
 simp only [zV,Bool.and_eq_true,Bool.not_eq_true',Bool.or_eq_false_iff,decide_eq_false_iff_not,Bool.and_eq_false_iff,Bool.not_eq_false',decide_eq_true_eq] at h
 obtain ⟨⟨⟨a,b⟩,c⟩,d⟩:=h
 exact ⟨by omega,fun h=>b.resolve_left h,fun h=>c.resolve_left (fun h'=>h' h),d⟩
end Go.Proofs
end
section
namespace Go.Proofs
open Go.Sh
set_option maxRecDepth 100000
set_option linter.unusedSimpArgs false
set_option linter.unusedVariables false
def ze (g : GrD) : zD:=g.pts.map y8
theorem zR {g : GrD} : (ze g).length=g.pts.length:=List.length_map _
theorem abe {g : GrD} {q : Int} : Yf g q=true↔isN (ze g) q:=by
 rw [Yf,Bool.and_eq_true,decide_eq_true_eq,decide_eq_true_eq,isN,zR]
theorem ab1 {p : PtD} : (y8 p).Nodup:=by
 rw [y8]
 split
 ·exact .nil
 split
 ·rename_i h;simpa using h.2
 ·simp
theorem adm {g : GrD} {q : Int} : (nxt (ze g) q).Nodup:=by
 rw [nxt,List.getD_eq_getElem?_getD]
 cases h : (ze g)[q.toNat]? with
 |none=>exact .nil
 |some l=>
  rw [ze,List.getElem?_map] at h
  cases h2 : g.pts[q.toNat]? with
  |none=>rw [h2] at h;cases h
  |some p=>rw [h2] at h;cases h;exact ab1
theorem agO {g : GrD} {q : Int} (h : isN (ze g) q) : nxt (ze g) q=y8 (g.pts[q.toNat]'(by have:=h.1;have:=h.2;rw [zR] at this;omega)):=by
 rw [aen h];simp [ze]
theorem adn {u : UnD} {g : GrD} {p : PtD} (h : zV u g p=true) : ∀ x ∈ y8 p,isN (ze g) x:=fun x hx=>by
 obtain ⟨_,h1,_,h3⟩:=abd h
 rw [y8] at hx
 split at hx
 ·cases hx
 rename_i h14
 have hnx:=abe.1 (h1 h14)
 split at hx
 ·rename_i h12
  simp only [List.mem_cons,List.not_mem_nil,or_false] at hx
  rcases hx with rfl|rfl
  ·exact hnx
  ·rw [ptG] at h3
   simp only [h12.1,Int.reduceEq,if_false,if_true,Bool.and_eq_true] at h3
   exact abe.1 h3.2
 ·rw [List.mem_singleton.1 hx];exact hnx
theorem agP {u : UnD} {g : GrD} (hM : MayU u) (hg : g ∈ u.fs) : kH (ze g):=fun l hl x hx=>by
 obtain ⟨p,hp,rfl⟩:=List.mem_map.1 hl
 exact adn (hM.pts g hg p hp) x hx
theorem afq {u : UnD} {n : Nat} (hM : MayU u) (hn : n<u.fs.length) : 0<(ze u.fs[n]).length∧(ze u.fs[n]).length≤1024:=by
 have:=hM.hd hn
 rw [zR]
 exact ⟨this.pt1,this.pt1024⟩
theorem aep {p : PtD} : (y8 p).length≤2:=by
 rw [y8]
 split
 ·simp
 split<;>simp
def RowC (r : Gh) (c : List Value) (l : List Int) : Prop:=∃ v,c = [v]∧SlB 1 r z6 v l
def NetG (r : Gh) (v : Value) (n : zD) : Prop:=SlB 1 r (RowC r) v n
theorem RowC.up {r s : Gh} {c : List Value} {l : List Int} (h : RowC r c l) [le : Le r s] : RowC s c l:=by
 obtain ⟨v,h1,h2⟩:=h;exact ⟨v,h1,h2.cells⟩
theorem NetG.up {r s : Gh} {v : Value} {n : zD} (h : NetG r v n) [le : Le r s] : NetG s v n:=h.up' le fun _ _ h=>RowC.up h
end Go.Proofs
end
section
namespace Go.Proofs
set_option linter.unusedVariables false
set_option linter.unusedSimpArgs false
def ado (n : zD) (q : Int) : List Int:=((List.range n.length).filter fun p=>(n.getD p []).contains q).map Int.ofNat
theorem Vb {n : zD} {q p : Int} : p ∈ ado n q↔isN n p∧q ∈ nxt n p:=by
 rw [ado,List.mem_map]
 constructor
 ·rintro ⟨i,hi,rfl⟩
  rw [List.mem_filter,List.mem_range,List.contains_iff_mem] at hi
  exact ⟨⟨Int.natCast_nonneg i,by rw [Int.ofNat_eq_natCast];omega⟩,hi.2⟩
 ·rintro ⟨⟨h0,h1⟩,h⟩
  refine ⟨p.toNat,?_,Int.toNat_of_nonneg h0⟩
  rw [List.mem_filter,List.mem_range,List.contains_iff_mem]
  exact ⟨by omega,h⟩
end Go.Proofs
end
section
namespace Go.Proofs
set_option linter.unusedVariables false
set_option linter.unusedSimpArgs false
end Go.Proofs
end
section
namespace Go.Proofs
set_option linter.unusedVariables false
set_option linter.unusedSimpArgs false
end Go.Proofs
end
section
namespace Go.Proofs
set_option linter.unusedVariables false
set_option linter.unusedSimpArgs false
def ltL : List Int→List Int→Prop
 |x::a,y::b=>x<y∨(x=y∧ltL a b)
 |_,_=>False
def leL (a b : List Int) : Prop:=a=b∨ltL a b
theorem acC : ∀ {a : List Int},¬ ltL a a
 |[],h=>h
 |x::a,h=>by
  rcases h with h|⟨_,h⟩
  ·omega
  ·exact acC h
theorem Xf : ∀ {a b c : List Int},ltL a b→ltL b c→ltL a c
 |x::a,y::b,z::c,h,k=>by
  rcases h with h|⟨rfl,h⟩
  ·rcases k with k|⟨rfl,k⟩
   ·exact .inl (by omega)
   ·exact .inl h
  ·rcases k with k|⟨rfl,k⟩
   ·exact .inl k
   ·exact .inr ⟨rfl,Xf h k⟩
theorem leL.refl {a : List Int} : leL a a:=.inl rfl
theorem aeq {a b c : List Int} (h : leL a b) (k : leL b c) : leL a c:=by
 rcases h with rfl|h
 ·exact k
 rcases k with rfl|k
 ·exact .inr h
 ·exact .inr (Xf h k)
theorem afr {a b : List Int} (h : leL a b) (k : leL b a) : a=b:=by
 rcases h with rfl|h
 ·rfl
 rcases k with rfl|k
 ·rfl
 ·exact absurd (Xf h k) acC
theorem Vc : ∀ {a b x y : List Int},ltL a b→a.length=b.length→ltL (a++x) (b++y)
 |x::a,y::b,_,_,h,hl=>by
  rcases h with h|⟨rfl,h⟩
  ·exact .inl h
  ·exact .inr ⟨rfl,Vc h (by simpa using hl)⟩
theorem acD : ∀ {a x y : List Int},ltL x y→ltL (a++x) (a++y)
 |[],_,_,h=>h
 |z::a,_,_,h=>.inr ⟨rfl,acD h⟩
theorem acE {a b x : List Int} (h : leL a b) (hl : a.length=b.length) : leL (a++x) (b++x):=by
 rcases h with rfl|h
 ·exact .inl rfl
 ·exact .inr (Vc h hl)
def Stp (n : zD) (W : List Int) (s q p : Int) : Prop:=(q=s∨q ∉ W)∧p ∈ nxt n q
def Pth (n : zD) (W : List Int) (s : Int) : Int→List Int→Int→Prop
 |x,[],t=>x=t
 |x,y::r,t=>Stp n W s x y∧Pth n W s y r t
theorem Pth.app {n : zD} {W : List Int} {s : Int} : ∀ {a b : List Int} {x t : Int},Pth n W s x (a++b) t↔∃ m,Pth n W s x a m∧Pth n W s m b t
 |[],b,x,t=>⟨fun h=>⟨x,rfl,h⟩,fun ⟨m,h,k⟩=>by have h : x=m:=h;rw [h];exact k⟩
 |y::a,b,x,t=>by
  rw [List.cons_append,Pth,Pth.app (a:=a)]
  constructor
  ·rintro ⟨h,m,h1,h2⟩;exact ⟨m,⟨h,h1⟩,h2⟩
  ·rintro ⟨m,⟨h,h1⟩,h2⟩;exact ⟨h,m,h1,h2⟩
def Vw (n : zD) (W : List Int) (s : Int) (w : List Int) (p : Int) : Prop:=∃ r,w=s::r∧Pth n W s s r p
theorem Vw.base {n : zD} {W : List Int} {s : Int} : Vw n W s [s] s:=⟨[],rfl,rfl⟩
theorem Vw.snoc {n : zD} {W : List Int} {s q p : Int} {w : List Int} (h : Vw n W s w q) (k : Stp n W s q p) : Vw n W s (w ++ [p]) p:=by
 obtain ⟨r,rfl,h⟩:=h
 exact ⟨r ++ [p],rfl,Pth.app.2 ⟨q,h,k,rfl⟩⟩
theorem Vw.last {n : zD} {W : List Int} {s p : Int} {w : List Int} (h : Vw n W s w p) : (w = [s]∧p=s)∨∃ u q,w=u ++ [p]∧Vw n W s u q∧Stp n W s q p:=by
 obtain ⟨r,rfl,h⟩:=h
 rcases List.eq_nil_or_concat r with rfl|⟨u,y,rfl⟩
 ·exact .inl ⟨rfl,Eq.symm h⟩
 ·rw [List.concat_eq_append] at h ⊢
  obtain ⟨m,h1,h2,h3⟩:=Pth.app.1 h
  have h3 : y=p:=h3
  subst h3
  exact .inr ⟨s::u,m,rfl,⟨u,rfl,h1⟩,h2⟩
theorem Vw.pos {n : zD} {W : List Int} {s p : Int} {w : List Int} (h : Vw n W s w p) : 1≤w.length:=by
 obtain ⟨r,rfl,_⟩:=h;simp
def MinW (n : zD) (W : List Int) (s p : Int) (w : List Int) : Prop:=Vw n W s w p∧∀ w',Vw n W s w' p→w.length≤w'.length∧(w'.length=w.length→leL w w')
theorem MinW.one {n : zD} {W : List Int} {s p : Int} {w w' : List Int} (h : MinW n W s p w) (k : MinW n W s p w') : w=w':=by
 have h1:=h.2 w' k.1
 have h2:=k.2 w h.1
 have hl : w'.length=w.length:=by omega
 exact afr (h1.2 hl) (h2.2 hl.symm)
abbrev zK:=List (Int × List Int)
def getW (M : zK) (p : Int) : List Int:=(M.lookup p).getD []
theorem qg {M : zK} {p : Int} {w : List Int} : (M.map Prod.fst).Nodup→((p,w) ∈ M↔M.lookup p=some w):=by
 induction M with
 |nil=>intro _;simp
 |cons x M ih=>
  intro h
  obtain ⟨y,v⟩:=x
  have h':=List.nodup_cons.1 h
  have ih:=ih h'.2
  rw [List.lookup_cons,List.mem_cons]
  by_cases e : p=y
  ·subst e
   rw [show (p == p)=true by simp]
   simp only [Option.some.injEq,Prod.mk.injEq,true_and]
   constructor
   ·rintro (e|hm)
    ·exact e.symm
    ·exact absurd (List.mem_map.2 ⟨(p,w),hm,rfl⟩) h'.1
   ·rintro e;exact .inl e.symm
  ·rw [show (p == y)=false by simpa using e]
   simp only [Prod.mk.injEq,e,false_and,false_or]
   exact ih
theorem afs {M : zK} {p q : Int} {w : List Int} : (M ++ [(q,w)]).lookup p=(M.lookup p).or (if p=q then some w else none):=by
 induction M with
 |nil=>
  rw [List.nil_append,List.lookup_cons]
  by_cases e : p=q
  ·simp [e]
  ·rw [show (p == q)=false by simpa using e];simp [e]
 |cons x M ih=>
  obtain ⟨y,v⟩:=x
  rw [List.cons_append,List.lookup_cons,List.lookup_cons,ih]
  split<;>rfl
def zP (wq : List Int) (st : zK × List Int) (p : Int) : zK × List Int:=if (st.1.lookup p).isSome then st else (st.1 ++ [(p,wq ++ [p])],st.2 ++ [p])
structure Fw (n : zD) (W : List Int) (s : Int) (k : Nat) (M : zK) (L : List Int) : Prop where
 min : ∀ p w,(p,w) ∈ M→isN n p∧MinW n W s p w∧w.length≤k+1
 nod : (M.map Prod.fst).Nodup
 all : ∀ p w,Vw n W s w p→w.length≤k+1→(M.lookup p).isSome=true
 lev : ∀ p,p ∈ L↔∃ w,(p,w) ∈ M∧w.length=k+1
 srt : L.Pairwise fun p p'=>ltL (getW M p) (getW M p')
theorem Fw.start {n : zD} {W : List Int} {s : Int} (hs : isN n s) : Fw n W s 0 [(s,[s])] [s]:=by
 refine ⟨fun p w h=>?_,by simp,fun p w h hl=>?_,fun p=>?_,by simp⟩
 ·simp only [List.mem_singleton,Prod.mk.injEq] at h
  obtain ⟨rfl,rfl⟩:=h
  refine ⟨hs,⟨.base,fun w' h'=>⟨h'.pos,fun hl=>?_⟩⟩,Nat.le_refl _⟩
  obtain ⟨r,rfl,_⟩:=h'
  have : r = []:=by simpa using hl
  subst this;exact .refl
 ·rcases h.last with ⟨_,rfl⟩|⟨u,q,rfl,h,_⟩
  ·simp
  ·have:=h.pos
   rw [List.length_append,List.length_singleton] at hl
   omega
 ·rw [List.mem_singleton]
  constructor
  ·rintro rfl;exact ⟨[p],by simp,rfl⟩
  ·rintro ⟨w,h,_⟩
   simp only [List.mem_singleton,Prod.mk.injEq] at h
   exact h.1
structure Md (n : zD) (W : List Int) (s : Int) (M0 : zK) (L : List Int) (cur : List Int→Prop) (M : zK) (nx : List Int) : Prop where
 app : ∃ N : zK,M=M0++N∧nx=N.map Prod.fst
 new : ∀ p w,(p,w) ∈ M→(p,w) ∈ M0∨(M0.lookup p=none∧(∃ q ∈ L,Stp n W s q p∧w=getW M0 q ++ [p])∧(∀ q ∈ L,Stp n W s q p→leL w (getW M0 q ++ [p])))
 nod : (M.map Prod.fst).Nodup
 srt : nx.Pairwise fun p p'=>ltL (getW M p) (getW M p')
 less : ∀ p ∈ nx,∀ x,cur x→ltL (getW M p) x
theorem Vd {M : zK} {p : Int} {w : List Int} (hn : (M.map Prod.fst).Nodup) (h : (p,w) ∈ M) : getW M p=w:=by rw [getW,(qg hn).1 h];rfl
theorem aer {M : zK} {p : Int} (h : M.lookup p=none) : p ∉ M.map Prod.fst:=by
 intro hm
 obtain ⟨⟨y,w⟩,hx,e⟩:=List.mem_map.1 hm
 have e : y=p:=e
 subst e
 rw [List.lookup_eq_none_iff] at h
 have:=h _ hx
 simp at this
theorem VK {M : zK} {p : Int} (h : (M.lookup p).isSome=true) : ∃ w,(p,w) ∈ M:=by
 induction M with
 |nil=>cases h
 |cons x M ih=>
  obtain ⟨y,v⟩:=x
  rw [List.lookup_cons] at h
  by_cases e : p=y
  ·subst e;exact ⟨v,List.mem_cons_self⟩
  ·rw [show (p == y)=false by simpa using e] at h
   obtain ⟨w,hw⟩:=ih h
   exact ⟨w,List.mem_cons_of_mem _ hw⟩
theorem Md.mono {n : zD} {W : List Int} {s : Int} {M0 : zK} {L : List Int} {cur cur' : List Int→Prop} {M : zK} {nx : List Int} (h : Md n W s M0 L cur M nx) (hc : ∀ x,cur' x→cur x) : Md n W s M0 L cur' M nx:=
 ⟨h.app,h.new,h.nod,h.srt,fun p hp x hx=>h.less p hp x (hc x hx)⟩
theorem aes {M : zK} {N : zK} {p : Int} (h : (M.lookup p).isSome=true) : getW (M++N) p=getW M p:=by
 rw [getW,getW,List.lookup_append]
 cases hm : M.lookup p with
 |none=>rw [hm] at h;cases h
 |some w=>rfl
theorem agb {M N : zK} {p : Int} (h : (M.lookup p).isSome=true) : ((M++N).lookup p).isSome=true:=by
 rw [List.lookup_append]
 cases hm : M.lookup p with
 |none=>rw [hm] at h;cases h
 |some w=>rfl
theorem Md.add {n : zD} {W : List Int} {s q p : Int} {M0 : zK} {L : List Int} {M : zK} {nx : List Int} {cur : List Int→Prop} (h : Md n W s M0 L cur M nx) (hc : cur (getW M0 q ++ [p]))
  (hq : q ∈ L) (hst : Stp n W s q p) (hmin : M.lookup p=none→∀ q' ∈ L,Stp n W s q' p→leL (getW M0 q ++ [p]) (getW M0 q' ++ [p])) :
  Md n W s M0 L (fun x=>cur x∧ltL (getW M0 q ++ [p]) x) (zP (getW M0 q) (M,nx) p).1 (zP (getW M0 q) (M,nx) p).2∧((zP (getW M0 q) (M,nx) p).1.lookup p).isSome=true∧(∀ x,(M.lookup x).isSome=true→((zP (getW M0 q) (M,nx) p).1.lookup x).isSome=true):=by
 rw [zP]
 cases hl : M.lookup p with
 |some w=>
  simp only [hl,Option.isSome_some,if_true]
  exact ⟨h.mono fun x hx=>hx.1,trivial,fun x hx=>hx⟩
 |none=>
  simp only [Option.isSome_none,Bool.false_eq_true,if_false,hl]
  have hnp:=aer hl
  have hnodM : ((M ++ [(p,getW M0 q ++ [p])]).map Prod.fst).Nodup:=by
   rw [List.map_append,List.nodup_append]
   refine ⟨h.nod,by simp,fun a ha b hb=>?_⟩
   simp only [List.map_cons,List.map_nil,List.mem_singleton] at hb
   subst hb
   intro e;subst e;exact hnp ha
  have hM0 : M0.lookup p=none:=by
   obtain ⟨N,e,_⟩:=h.app
   rw [e,List.lookup_append,Option.or_eq_none_iff] at hl
   exact hl.1
  have hold : ∀ x ∈ nx,getW (M ++ [(p,getW M0 q ++ [p])]) x=getW M x:=fun x hx=>by
   obtain ⟨N,e,e2⟩:=h.app
   rw [e2] at hx
   obtain ⟨⟨y,w⟩,hy,e3⟩:=List.mem_map.1 hx
   have e3 : y=x:=e3
   subst e3
   have hyM : (y,w) ∈ M:=by rw [e];exact List.mem_append_right _ hy
   exact aes (by rw [(qg h.nod).1 hyM];rfl)
  have hnew : getW (M ++ [(p,getW M0 q ++ [p])]) p=getW M0 q ++ [p]:=Vd hnodM (by simp)
  refine ⟨⟨?_,fun p' w hm=>?_,hnodM,?_,fun p' hp' x hx=>?_⟩,?_,fun x hx=>agb hx⟩
  ·obtain ⟨N,e,e2⟩:=h.app
   exact ⟨N ++ [(p,getW M0 q ++ [p])],by rw [e,List.append_assoc],by rw [e2];simp⟩
  ·rcases List.mem_append.1 hm with hm|hm
   ·exact h.new p' w hm
   ·simp only [List.mem_singleton,Prod.mk.injEq] at hm
    obtain ⟨rfl,rfl⟩:=hm
    exact .inr ⟨hM0,⟨q,hq,hst,rfl⟩,hmin hl⟩
  ·rw [List.pairwise_append]
   refine ⟨?_,by simp,fun a ha b hb=>?_⟩
   ·exact h.srt.imp_of_mem fun ha hb hh=>by rw [hold _ ha,hold _ hb];exact hh
   ·rw [List.mem_singleton.1 hb,hold a ha,hnew]
    exact h.less a ha _ hc
  ·rcases List.mem_append.1 hp' with hp'|hp'
   ·rw [hold p' hp'];exact h.less p' hp' x hx.1
   ·rw [List.mem_singleton.1 hp',hnew];exact hx.2
  ·rw [afs,if_pos rfl,hl];rfl
theorem Md.adds {n : zD} {W : List Int} {s q : Int} {M0 : zK} {L : List Int} (hq : q ∈ L) : ∀ {l : List Int} {M : zK} {nx : List Int} {cur : List Int→Prop},Md n W s M0 L cur M nx→(∀ p ∈ l,Stp n W s q p)→l.Pairwise (·≤·)→(∀ p ∈ l,cur (getW M0 q ++ [p])∨(M.lookup p).isSome=true)→
  (∀ p ∈ l,M.lookup p=none→∀ q' ∈ L,Stp n W s q' p→leL (getW M0 q ++ [p]) (getW M0 q' ++ [p]))→
  Md n W s M0 L (fun x=>cur x∧∀ p ∈ l,ltL (getW M0 q ++ [p]) x) (l.foldl (zP (getW M0 q)) (M,nx)).1 (l.foldl (zP (getW M0 q)) (M,nx)).2∧(∀ p ∈ l,((l.foldl (zP (getW M0 q)) (M,nx)).1.lookup p).isSome=true)∧
  (∀ x,(M.lookup x).isSome=true→((l.foldl (zP (getW M0 q)) (M,nx)).1.lookup x).isSome=true)
 |[],M,nx,cur,h,_,_,_,_=>⟨h.mono fun x hx=>hx.1,by simp,fun x hx=>hx⟩
 |p::l,M,nx,cur,h,hst,hs,hc,hmin=>by
  have hs':=List.pairwise_cons.1 hs
  rw [List.foldl_cons]
  have key : Md n W s M0 L (fun x=>cur x∧ltL (getW M0 q ++ [p]) x) (zP (getW M0 q) (M,nx) p).1 (zP (getW M0 q) (M,nx) p).2∧((zP (getW M0 q) (M,nx) p).1.lookup p).isSome=true∧(∀ x,(M.lookup x).isSome=true→((zP (getW M0 q) (M,nx) p).1.lookup x).isSome=true):=by
   rcases hc p List.mem_cons_self with hcp|hl
   ·exact h.add hcp hq (hst p List.mem_cons_self) (hmin p List.mem_cons_self)
   ·rw [zP]
    simp only [hl,if_true]
    exact ⟨h.mono fun x hx=>hx.1,trivial,fun x hx=>hx⟩
  obtain ⟨h1,h2,h3⟩:=key
  obtain ⟨k1,k2,k3⟩:=Md.adds hq (l:=l) h1 (fun x hx=>hst x (List.mem_cons_of_mem _ hx)) hs'.2 (fun x hx=>by
   rcases hc x (List.mem_cons_of_mem _ hx) with hcx|hlx
   ·have hle:=hs'.1 x hx
    by_cases e : x=p
    ·subst e;exact .inr h2
    ·exact .inl ⟨hcx,acD (.inl (by omega))⟩
   ·exact .inr (h3 x hlx)) (fun x hx hl=>hmin x (List.mem_cons_of_mem _ hx) (by
    cases hm : M.lookup x with
    |none=>rfl
    |some w=>have:=h3 x (by rw [hm];rfl);rw [hl] at this;cases this))
  refine ⟨k1.mono fun x hx=>⟨⟨hx.1,hx.2 p List.mem_cons_self⟩,fun y hy=>hx.2 y (List.mem_cons_of_mem _ hy)⟩,fun x hx=>?_,fun x hx=>k3 x (h3 x hx)⟩
  rcases List.mem_cons.1 hx with rfl|hx
  ·exact k3 _ h2
  ·exact k2 x hx
end Go.Proofs
end
section
namespace Go.Proofs
set_option linter.unusedVariables false
set_option linter.unusedSimpArgs false
def rndW (n : zD) (so : List Int→List Int) (W : List Int) (s : Int) (M : zK) (L : List Int) (st : zK × List Int) : zK × List Int:=
 L.foldl (fun st q=>if q≠s∧q ∈ W then st else (so (nxt n q)).foldl (zP (getW M q)) st) st
def Jt (so : List Int→List Int) : Prop:=∀ l,(so l).Pairwise (·≤·)∧∀ x,x ∈ so l↔x ∈ l
theorem Fw.lenL {n : zD} {W : List Int} {s : Int} {k : Nat} {M : zK} {L : List Int} (h : Fw n W s k M L) {q : Int} (hq : q ∈ L) : (q,getW M q) ∈ M∧(getW M q).length=k+1:=by
 obtain ⟨w,hw,hl⟩:=(h.lev q).1 hq
 rw [Vd h.nod hw];exact ⟨hw,hl⟩
theorem Fw.rnd {n : zD} {so : List Int→List Int} (hso : Jt so) {W : List Int} {s : Int} {k : Nat} {M0 : zK} {L : List Int} (h : Fw n W s k M0 L) : ∀ {rest : List Int} {M : zK} {nx : List Int},(∃ done,L=done++rest∧∀ q ∈ done,∀ p,Stp n W s q p→(M.lookup p).isSome=true)→
  Md n W s M0 L (fun x=>∃ q ∈ rest,∃ p,x=getW M0 q ++ [p]) M nx→(∀ x,(M0.lookup x).isSome=true→(M.lookup x).isSome=true)→
  Md n W s M0 L (fun _=>False) (rndW n so W s M0 rest (M,nx)).1 (rndW n so W s M0 rest (M,nx)).2∧∀ q ∈ L,∀ p,Stp n W s q p→((rndW n so W s M0 rest (M,nx)).1.lookup p).isSome=true
 |[],M,nx,hd,hm,_=>by
  obtain ⟨done,e,hd⟩:=hd
  rw [List.append_nil] at e
  subst e
  exact ⟨hm.mono fun x hx=>hx.elim,hd⟩
 |q::rest,M,nx,hd,hm,h0=>by
  obtain ⟨done,e,hd⟩:=hd
  have hqL : q ∈ L:=by rw [e];simp
  have hsrt : ∀ q' ∈ rest,ltL (getW M0 q) (getW M0 q'):=fun q' hq'=>by
   have:=h.srt
   rw [e,List.pairwise_append] at this
   exact (List.pairwise_cons.1 this.2.1).1 q' hq'
  have hlen : ∀ q' ∈ L,(getW M0 q').length=k+1:=fun q' hq'=>(h.lenL hq').2
  have e' : L=(done ++ [q])++rest:=by rw [e];simp
  have hrL : ∀ q' ∈ rest,q' ∈ L:=fun q' hq'=>by rw [e];simp [hq']
  rw [rndW,List.foldl_cons]
  by_cases hsk : q≠s∧q ∈ W
  ·rw [if_pos hsk]
   refine Fw.rnd hso h (rest:=rest) ⟨done ++ [q],e',fun q' hq' p hp=>?_⟩ (hm.mono fun x ⟨q',hq',p,e⟩=>⟨q',List.mem_cons_of_mem _ hq',p,e⟩) h0
   rcases List.mem_append.1 hq' with hq'|hq'
   ·exact hd q' hq' p hp
   ·obtain rfl:=List.mem_singleton.1 hq'
    rcases hp.1 with h1|h1
    ·exact absurd h1 hsk.1
    ·exact absurd hsk.2 h1
  ·rw [if_neg hsk]
   have hst : ∀ p ∈ so (nxt n q),Stp n W s q p:=fun p hp=>by
    refine ⟨?_,((hso _).2 p).1 hp⟩
    by_cases e1 : q=s
    ·exact .inl e1
    ·exact .inr fun hw=>hsk ⟨e1,hw⟩
   obtain ⟨k1,k2,k3⟩:=Md.adds hqL (l:=so (nxt n q)) hm hst (hso _).1 (fun p hp=>.inl ⟨q,List.mem_cons_self,p,rfl⟩) fun p hp hl q' hq' hst'=>by
    rw [e] at hq'
    rcases List.mem_append.1 hq' with hq'|hq'
    ·have:=hd q' hq' p hst'
     rw [hl] at this;cases this
    rcases List.mem_cons.1 hq' with rfl|hq'
    ·exact .refl
    ·exact acE (.inr (hsrt q' hq')) (by rw [hlen q hqL,hlen q' (hrL q' hq')])
   refine Fw.rnd hso h (rest:=rest) ⟨done ++ [q],e',fun q' hq' p hp=>?_⟩ (k1.mono fun x ⟨q',hq',p,e⟩=>⟨⟨q',List.mem_cons_of_mem _ hq',p,e⟩,fun p' hp'=>?_⟩) fun x hx=>k3 x (h0 x hx)
   ·rcases List.mem_append.1 hq' with hq'|hq'
    ·exact k3 p (hd q' hq' p hp)
    ·obtain rfl:=List.mem_singleton.1 hq'
     exact k2 p (((hso _).2 p).2 hp.2)
   ·rw [e]
    exact Vc (hsrt q' hq') (by rw [hlen q hqL,hlen q' (hrL q' hq')])
theorem Fw.next {n : zD} (hn : kH n) {so : List Int→List Int} (hso : Jt so) {W : List Int} {s : Int} {k : Nat} {M : zK} {L : List Int} (h : Fw n W s k M L) :
  Fw n W s (k+1) (rndW n so W s M L (M,[])).1 (rndW n so W s M L (M,[])).2∧M.length+(rndW n so W s M L (M,[])).2.length=(rndW n so W s M L (M,[])).1.length:=by
 obtain ⟨hm,hall⟩:=Fw.rnd hso h (rest:=L) (M:=M) (nx:=[]) ⟨[],rfl,fun q hq=>by cases hq⟩ ⟨⟨[],by simp,rfl⟩,fun p w hp=>.inl hp,h.nod,.nil,fun p hp=>by cases hp⟩ fun x hx=>hx
 generalize (rndW n so W s M L (M,[])).1=M' at *
 generalize (rndW n so W s M L (M,[])).2=nx at *
 obtain ⟨N,eN,eN2⟩:=hm.app
 have hlast : ∀ p w,Vw n W s w p→w.length≤k+2→M.lookup p=none→∃ u q,w=u ++ [p]∧Vw n W s u q∧Stp n W s q p∧q ∈ L∧u.length=k+1∧leL (getW M q) u:=fun p w hw hl hno=>by
  rcases hw.last with ⟨rfl,rfl⟩|⟨u,q,rfl,hu,hst⟩
  ·have:=h.all _ _ hw (by simp);rw [hno] at this;cases this
  ·rw [List.length_append,List.length_singleton] at hl
   obtain ⟨wq,hwq⟩:=VK (h.all q u hu (by omega))
   obtain ⟨_,hmq,hlq⟩:=h.min q wq hwq
   have h1:=hmq.2 u hu
   have hlt : ¬ wq.length≤k:=fun hle=>by
    have:=h.all p (wq ++ [p]) (hmq.1.snoc hst) (by rw [List.length_append,List.length_singleton];omega)
    rw [hno] at this;cases this
   have hul : u.length=k+1:=by omega
   refine ⟨u,q,rfl,hu,hst,(h.lev q).2 ⟨wq,hwq,by omega⟩,hul,?_⟩
   rw [Vd h.nod hwq]
   exact h1.2 (by omega)
 have hNnew : ∀ p w,(p,w) ∈ N→M.lookup p=none∧w.length=k+2:=fun p w hp=>by
  have hpM : (p,w) ∈ M':=by rw [eN];exact List.mem_append_right _ hp
  have hno : M.lookup p=none:=by
   cases hl : M.lookup p with
   |none=>rfl
   |some v=>
    have h1:=(qg h.nod).2 hl
    have h2:=hm.nod
    rw [eN,List.map_append,List.nodup_append] at h2
    exact absurd rfl (h2.2.2 p (List.mem_map.2 ⟨_,h1,rfl⟩) p (List.mem_map.2 ⟨_,hp,rfl⟩))
  rcases hm.new p w hpM with h1|⟨_,⟨q,hq,hst,rfl⟩,_⟩
  ·rw [(qg h.nod).1 h1] at hno;cases hno
  ·exact ⟨hno,by rw [List.length_append,(h.lenL hq).2];rfl⟩
 refine ⟨⟨fun p w hp=>?_,hm.nod,fun p w hw hl=>?_,fun p=>?_,hm.srt⟩,by rw [eN,eN2];simp⟩
 ·rcases hm.new p w hp with h1|⟨hno,⟨q,hq,hst,rfl⟩,hle⟩
  ·obtain ⟨a,b,c⟩:=h.min p w h1
   exact ⟨a,b,by omega⟩
  ·obtain ⟨hqM,hql⟩:=h.lenL hq
   obtain ⟨hqN,hqm,_⟩:=h.min q _ hqM
   have hl2 : (getW M q ++ [p]).length=k+2:=by rw [List.length_append,hql];rfl
   refine ⟨Xe hn hst.2,⟨hqm.1.snoc hst,fun w' hw'=>?_⟩,by omega⟩
   have hge : k+2≤w'.length:=by
    refine Nat.le_of_not_lt fun hlt=>?_
    have:=h.all p w' hw' (by omega)
    rw [hno] at this;cases this
   refine ⟨by omega,fun he=>?_⟩
   obtain ⟨u,q',rfl,hu,hst',hq',hul,hlu⟩:=hlast p w' hw' (by omega) hno
   exact aeq (hle q' hq' hst') (acE hlu (by rw [(h.lenL hq').2,hul]))
 ·cases hno : M.lookup p with
  |some v=>rw [eN];exact agb (by rw [hno];rfl)
  |none=>
   obtain ⟨u,q,rfl,hu,hst,hq,_,_⟩:=hlast p w hw hl hno
   exact hall q hq p hst
 ·rw [eN2]
  constructor
  ·intro hp
   obtain ⟨⟨y,w⟩,hy,e⟩:=List.mem_map.1 hp
   have e : y=p:=e
   subst e
   exact ⟨w,by rw [eN];exact List.mem_append_right _ hy,(hNnew y w hy).2⟩
  ·rintro ⟨w,hw,hl⟩
   rw [eN] at hw
   rcases List.mem_append.1 hw with hw|hw
   ·have:=(h.min p w hw).2.2;omega
   ·exact List.mem_map.2 ⟨_,hw,rfl⟩
theorem Fw.few {n : zD} {W : List Int} {s : Int} {k : Nat} {M : zK} {L : List Int} (h : Fw n W s k M L) : M.length≤n.length:=by
 have hsub : ∀ x ∈ (M.map Prod.fst).map Int.toNat,x ∈ List.range n.length:=fun x hx=>by
  obtain ⟨p,hp,rfl⟩:=List.mem_map.1 hx
  obtain ⟨⟨y,w⟩,hy,rfl⟩:=List.mem_map.1 hp
  have:=(h.min y w hy).1
  have h0:=this.1;have h1:=this.2
  exact List.mem_range.2 (by show y.toNat<_;omega)
 have hnd : ((M.map Prod.fst).map Int.toNat).Nodup:=by
  rw [List.Nodup,List.pairwise_map]
  refine h.nod.imp_of_mem fun {a b} ha hb hab e=>?_
  obtain ⟨⟨y,w⟩,hy,rfl⟩:=List.mem_map.1 ha
  obtain ⟨⟨z,v⟩,hz,rfl⟩:=List.mem_map.1 hb
  have h1:=(h.min y w hy).1.1
  have h2:=(h.min z v hz).1.1
  dsimp only at e hab
  omega
 have : ∀ {a b : List Nat},a.Nodup→(∀ x ∈ a,x ∈ b)→a.length≤b.length:=by
  intro a
  induction a with
  |nil=>intro b _ _;exact Nat.zero_le _
  |cons x a ih=>
   intro b hn hs
   have hn':=List.nodup_cons.1 hn
   have hx:=hs x List.mem_cons_self
   have:=ih (b:=b.erase x) hn'.2 fun y hy=>by
    have hne : y≠x:=fun e=>hn'.1 (e ▸ hy)
    exact (List.mem_erase_of_ne hne).2 (hs y (List.mem_cons_of_mem _ hy))
   rw [List.length_erase_of_mem hx] at this
   have hp : 0<b.length:=List.length_pos_of_mem hx
   rw [List.length_cons];omega
 have:=this hnd hsub
 simpa using this
theorem Fw.end {n : zD} {W : List Int} {s : Int} {k : Nat} {M : zK} (h : Fw n W s k M []) {p : Int} {w : List Int} (hw : Vw n W s w p) : (M.lookup p).isSome=true:=by
 obtain ⟨m,hm⟩ : ∃ m,w.length=m:=⟨_,rfl⟩
 induction m generalizing p w with
 |zero=>have:=hw.pos;omega
 |succ m ih=>
  rcases hw.last with ⟨rfl,rfl⟩|⟨u,q,rfl,hu,hst⟩
  ·exact h.all _ _ hw (by simp)
  ·rw [List.length_append,List.length_singleton] at hm
   obtain ⟨wq,hwq⟩:=VK (ih hu (by omega))
   obtain ⟨_,hmq,hlq⟩:=h.min q wq hwq
   have hne : wq.length≠k+1:=fun e=>by
    have:=(h.lev q).2 ⟨wq,hwq,e⟩
    cases this
   exact h.all p (wq ++ [p]) (hmq.1.snoc hst) (by rw [List.length_append,List.length_singleton];omega)
noncomputable def wayE (n : zD) (s t : Int) (W : List Int) : Option (List Int):=by
 classical exact if h : ∃ w,MinW n W s t w then some h.choose else none
theorem Xg {n : zD} {W : List Int} {s t : Int} {w : List Int} : wayE n s t W=some w↔MinW n W s t w:=by
 rw [wayE]
 constructor
 ·intro h
  split at h
  ·rename_i hx;cases h;exact hx.choose_spec
  ·cases h
 ·intro h
  rw [dif_pos ⟨w,h⟩]
  congr 1
  exact MinW.one (Exists.choose_spec (⟨w,h⟩ : ∃ w,MinW n W s t w)) h
theorem aet {n : zD} {W : List Int} {s t : Int} (h : ∀ w,¬ Vw n W s w t) : wayE n s t W=none:=by
 cases hw : wayE n s t W with
 |none=>rfl
 |some w=>exact absurd (Xg.1 hw).1 (h w)
theorem Fw.found {n : zD} {W : List Int} {s t : Int} {k : Nat} {M : zK} {L : List Int} (h : Fw n W s k M L) (he : L = []∨(M.lookup t).isSome=true) : M.lookup t=wayE n s t W:=by
 cases hl : M.lookup t with
 |some w=>exact (Xg.2 (h.min t w ((qg h.nod).2 hl)).2.1).symm
 |none=>
  rcases he with rfl|he
  ·refine (aet fun w hw=>?_).symm
   have:=h.end hw
   rw [hl] at this;cases this
  ·rw [hl] at he;cases he
end Go.Proofs
end
section
namespace Go.Proofs
set_option linter.unusedVariables false
set_option linter.unusedSimpArgs false
end Go.Proofs
end
section
namespace Go.Proofs
set_option linter.unusedVariables false
set_option linter.unusedSimpArgs false
end Go.Proofs
end
section
namespace Go.Proofs
set_option linter.unusedVariables false
set_option linter.unusedSimpArgs false
end Go.Proofs
end
section
namespace Go.Proofs
set_option linter.unusedVariables false
set_option linter.unusedSimpArgs false
theorem Ju : ∀ {l m : List Int},l.Pairwise (· < ·)→m.Pairwise (· < ·)→(∀ x,x ∈ l↔x ∈ m)→l=m
 |[],[],_,_,_=>rfl
 |[],y::m,_,_,h=>absurd ((h y).2 List.mem_cons_self) (by simp)
 |x::l,[],_,_,h=>absurd ((h x).1 List.mem_cons_self) (by simp)
 |x::l,y::m,hl,hm,h=>by
  have hl':=List.pairwise_cons.1 hl
  have hm':=List.pairwise_cons.1 hm
  have hxy : x=y:=by
   rcases List.mem_cons.1 ((h x).1 List.mem_cons_self) with e|h1
   ·exact e
   rcases List.mem_cons.1 ((h y).2 List.mem_cons_self) with e|h2
   ·exact e.symm
   have:=hl'.1 y h2;have:=hm'.1 x h1;omega
  subst hxy
  rw [Ju hl'.2 hm'.2 fun z=>?_]
  constructor
  ·intro hz
   rcases List.mem_cons.1 ((h z).1 (List.mem_cons_of_mem _ hz)) with e|hz'
   ·have:=hl'.1 z hz;omega
   ·exact hz'
  ·intro hz
   rcases List.mem_cons.1 ((h z).2 (List.mem_cons_of_mem _ hz)) with e|hz'
   ·have:=hm'.1 z hz;omega
   ·exact hz'
end Go.Proofs
end
section
namespace Go.Proofs
set_option linter.unusedVariables false
set_option linter.unusedSimpArgs false
theorem Fw.runs {n : zD} (hn : kH n) {so : List Int→List Int} (hso : Jt so) {W : List Int} {s : Int} : ∀ (m : Nat) {k : Nat} {M : zK} {L : List Int},Fw n W s k M L→k+1≤M.length→n.length - M.length≤m→∃ k M,Fw n W s k M []∧∀ p w,(p,w) ∈ M→w.length≤n.length
 |m,k,M,L,h,hk,hm=>by
  obtain ⟨h2,hl⟩:=h.next hn hso
  have f2:=h2.few
  generalize (rndW n so W s M L (M,[])).1=M' at *
  generalize (rndW n so W s M L (M,[])).2=L' at *
  by_cases e : L' = []
  ·subst e
   refine ⟨_,_,h2,fun p w hp=>?_⟩
   have h3:=(h2.min p w hp).2.2
   have h4 : w.length≠k+1+1:=fun e=>by
    have:=(h2.lev p).2 ⟨w,hp,e⟩
    cases this
   rw [List.length_nil] at hl
   omega
  ·have : 0<L'.length:=List.length_pos_iff.2 e
   cases m with
   |zero=>omega
   |succ m=>exact Fw.runs hn hso m h2 (by omega) (by omega)
theorem agQ {n : zD} (hn : kH n) {so : List Int→List Int} (hso : Jt so) {W : List Int} {s t : Int} (hs : isN n s) : ((wayE n s t W).getD []).length≤n.length:=by
 cases hw : wayE n s t W with
 |none=>exact Nat.zero_le _
 |some w=>
  obtain ⟨k,M,hF,hf⟩:=Fw.runs hn hso n.length (Fw.start (W:=W) hs) (Nat.le_refl _) (by omega)
  rw [← hF.found (.inl rfl)] at hw
  exact hf t w ((qg hF.nod).2 hw)
end Go.Proofs
end
section
namespace Go.Proofs
set_option linter.unusedVariables false
set_option linter.unusedSimpArgs false
def QO (o : OpD) : Bool:=decide (o.k=3)||decide (o.k=4)
def jf (p : PtD) : Bool:=decide (1≤p.op)&&decide (p.op≤8)
def xx (l : List OpD) : List Int:=(l.filter QO).map fun o=>o.pl.l
def zC (p : PtD) : List Int:=xx (p.a::p.b::p.args)++((if p.op=4 then [p.fr.l] else [])++(if p.op=14∨(jf p=true∧-1 ∈ p.to.ps) then [p.to.l] else []))
theorem aft {l : List OpD} {x : Int} : x ∈ xx l↔∃ o ∈ l,QO o=true∧o.pl.l=x:=by
 rw [xx,List.mem_map]
 constructor
 ·rintro ⟨o,ho,rfl⟩
  rw [List.mem_filter] at ho
  exact ⟨o,ho.1,ho.2,rfl⟩
 ·rintro ⟨o,ho,h1,rfl⟩
  exact ⟨o,List.mem_filter.2 ⟨ho,h1⟩,rfl⟩
def QP (p : PtD) : Option Int:=if p.op=11 then some p.fr.l else if jf p=true∧p.to.ps = [] then some p.to.l else none
def yE (p : PtD) : Option Int:=match QP p with|some x=>if x ∈ zC p then none else some x|none=>none
def Ve (g : GrD) (q : Int) : List Int:=match g.pts[q.toNat]? with|some p=>zC p|none=>[]
def QQ (g : GrD) (q : Int) : Option Int:=match g.pts[q.toNat]? with|some p=>yE p|none=>none
def Usd (g : GrD) (x q : Int) : Prop:=x ∈ Ve g q
def zW (g : GrD) (x q : Int) : Prop:=QQ g q=some x
instance {g : GrD} {x q : Int} : Decidable (Usd g x q):=inferInstanceAs (Decidable (_ ∈ _))
instance {g : GrD} {x q : Int} : Decidable (zW g x q):=inferInstanceAs (Decidable (_=_))
inductive Lvd (g : GrD) (x : Int) : Int→Prop
 |use {q : Int} : isN (ze g) q→Usd g x q→Lvd g x q
 |step {q p : Int} : isN (ze g) q→¬ zW g x q→p ∈ nxt (ze g) q→Lvd g x p→Lvd g x q
theorem Lvd.isN {g : GrD} {x q : Int} (h : Lvd g x q) : isN (ze g) q:=by cases h<;>assumption
end Go.Proofs
end
section
namespace Go.Proofs
set_option linter.unusedVariables false
set_option linter.unusedSimpArgs false
def isL (g : GrD) (x : Int) : Prop:=0≤x∧x<(g.tys.length : Int)
theorem QR {ss : List StD} {tys : List TyD} {p : PlD} (h : (zJ ss tys p).2.2=true) : 0≤p.l∧p.l<(tys.length : Int):=by
 unfold zJ at h
 split at h
 ·rename_i s hs
  by_cases h0 : p.l<0
  ·rw [if_pos h0] at hs;cases hs
  ·rw [if_neg h0] at hs
   cases ht : tys[p.l.toNat]? with
   |none=>rw [ht] at hs;cases hs
   |some t=>
    have:=(List.getElem?_eq_some_iff.1 ht).1
    omega
 ·cases h
theorem afu {u : UnD} {g : GrD} {p : PtD} (h : zV u g p=true) (ho : p.op=4∨p.op=10∨p.op=11) : (zJ u.ss g.tys p.fr).2.2=true:=by
 have h2:=je h
 cases hf : (zJ u.ss g.tys p.fr).2.2 with
 |true=>rfl
 |false=>
  rw [ptG] at h2
  rcases ho with hc|hc|hc<;>simp [hc,hf] at h2
theorem afv {u : UnD} {g : GrD} {p : PtD} (hM : MayU u) (hpos : 1≤g.tys.length) (h : zV u g p=true) : ∀ x ∈ zC p,isL g x:=fun x hx=>by
 rw [zC,List.mem_append,List.mem_append,aft] at hx
 rcases hx with ⟨o,ho,h1,rfl⟩|hx|hx
 ·have hk : o.k=3∨o.k=4:=by rw [QO,Bool.or_eq_true,decide_eq_true_eq,decide_eq_true_eq] at h1;exact h1
  have hg:=aem h o (by
   rw [abb,List.mem_filter,adk,decide_eq_true_eq]
   exact ⟨ho,by omega⟩)
  rw [yc] at hg
  have hs : (zJ u.ss g.tys o.pl).2.2=true:=by
   rcases hk with hk|hk
   ·rw [if_neg (by omega),if_neg (by omega),if_pos hk] at hg
    simp only [Bool.and_eq_true] at hg
    exact hg.1.1
   ·rw [if_neg (by omega),if_neg (by omega),if_neg (by omega),if_pos hk] at hg
    simp only [Bool.and_eq_true] at hg
    exact hg.1.1.1
  exact QR hs
 ·split at hx
  ·rename_i h4
   rw [List.mem_singleton.1 hx]
   exact QR (afu h (.inl h4))
  ·cases hx
 ·split at hx
  ·rename_i hc
   rw [List.mem_singleton.1 hx]
   by_cases ha : jf p=true
   ·rw [jf,Bool.and_eq_true,decide_eq_true_eq,decide_eq_true_eq] at ha
    exact QR (afo h ha)
   ·have h14 : p.op=14:=hc.resolve_right fun h=>ha h.1
    have h2:=je h
    rw [ptG] at h2
    simp only [h14,Int.reduceEq,if_false,if_true,or_true] at h2
    have hz : kG p.to=true:=by
     simp only [zz,kj,List.all_cons,Bool.and_eq_true,id] at h2
     simpa using h2.1
    rw [kG,Bool.and_eq_true,decide_eq_true_eq] at hz
    exact ⟨by omega,by omega⟩
  ·cases hx
structure GrF (g : GrD) : Prop where
 uses : ∀ p ∈ g.pts,∀ x ∈ zC p,isL g x
 few : g.tys.length≤512
noncomputable def lvM (g : GrD) (x : Int) : List Bool:=by
 classical exact (List.range (ze g).length).map fun (i : Nat)=>decide (Lvd g x i)
theorem xy {g : GrD} {x : Int} : (lvM g x).length=(ze g).length:=by simp [lvM]
theorem Xh {g : GrD} {x q : Int} (hq : isN (ze g) q) : mk' (lvM g x) q=true↔Lvd g x q:=by
 have q0:=hq.1;have q1:=hq.2
 rw [mk',lvM,List.getD_eq_getElem?_getD,List.getElem?_map,List.getElem?_range (by omega)]
 simp [show ((q.toNat : Nat) : Int)=q by omega]
abbrev yw:=List (List Bool)
def xz (R : yw) (x : Int) : List Bool:=R.getD x.toNat []
def mkR (R : yw) (x q : Int) : Bool:=mk' (xz R x) q
def jN (R : yw) (x q : Int) : yw:=R.set x.toNat (xw (xz R x) q)
def yW (R : yw) : Nat:=(R.map off).sum
theorem afw {R : yw} {x q : Int} : (jN R x q).length=R.length:=List.length_set
theorem abf {R : yw} {x q y : Int} (hx : 0≤x) (hx2 : x<R.length) (hy : 0≤y) : xz (jN R x q) y=if y=x then xw (xz R x) q else xz R y:=by
 rw [xz,jN,List.getD_eq_getElem?_getD,List.getElem?_set]
 by_cases h : y=x
 ·subst h;rw [if_pos rfl,if_pos (by omega),if_pos rfl];rfl
 ·rw [if_neg (by omega),if_neg h,xz,List.getD_eq_getElem?_getD]
theorem abg : ∀ {l : List Nat} {k v : Nat},k<l.length→(l.set k v).sum+l.getD k 0=l.sum+v
 |[],_,_,h=>absurd h (Nat.not_lt_zero _)
 |a::l,0,v,_=>by simp;omega
 |a::l,k+1,v,h=>by
  have:=abg (l:=l) (k:=k) (v:=v) (by simpa using h)
  simp only [List.set_cons_succ,List.sum_cons,List.getD_cons_succ]
  omega
theorem afx {R : yw} {x q : Int} (hx : 0≤x) (hx2 : x<R.length) (hq : q.toNat<(xz R x).length) (h : mkR R x q=false) : yW (jN R x q)+1=yW R:=by
 have h1:=agM hq h
 have h2:=abg (l:=R.map off) (k:=x.toNat) (v:=off (xw (xz R x) q)) (by rw [List.length_map];omega)
 have h3 : (R.map off).getD x.toNat 0=off (xz R x):=by
  rw [List.getD_eq_getElem?_getD,List.getElem?_map,xz,List.getD_eq_getElem?_getD,List.getElem?_eq_getElem (by omega)];rfl
 rw [h3] at h2
 rw [yW,jN,List.map_set]
 show ((R.map off).set x.toNat (off (xw (xz R x) q))).sum+1=(R.map off).sum
 omega
def xM (st : yw × List (Int × Int)) (w : Int × Int) : yw × List (Int × Int):=if mkR st.1 w.2 w.1 then st else (jN st.1 w.2 w.1,st.2 ++ [w])
structure Wk (g : GrD) (PU : Int→Int→Prop) (PE : Int→Int→Int→Prop) (R : yw) (T : List (Int × Int)) : Prop where
 len : R.length=g.tys.length
 rlen : ∀ x,isL g x→(xz R x).length=(ze g).length
 sound : ∀ x q,isL g x→isN (ze g) q→mkR R x q=true→Lvd g x q
 todo : ∀ w ∈ T,isL g w.2∧isN (ze g) w.1∧mkR R w.2 w.1=true
 base : ∀ x q,isL g x→isN (ze g) q→Usd g x q→mkR R x q=true∨PU x q
 back : ∀ x p q,isL g x→isN (ze g) p→mkR R x p=true→isN (ze g) q→p ∈ nxt (ze g) q→¬ zW g x q→(p,x) ∈ T∨mkR R x q=true∨PE x p q
theorem Wk.start {g : GrD} : Wk g (fun x q=>Usd g x q) (fun _ _ _=>False) (List.replicate g.tys.length (List.replicate (ze g).length false)) []:=by
 have hrow : ∀ x,isL g x→xz (List.replicate g.tys.length (List.replicate (ze g).length false)) x=List.replicate (ze g).length false:=fun x hx=>by
  have:=hx.1;have:=hx.2
  rw [xz,List.getD_eq_getElem?_getD,List.getElem?_replicate,if_pos (by omega)];rfl
 have hno : ∀ x q,isL g x→mkR (List.replicate g.tys.length (List.replicate (ze g).length false)) x q=false:=fun x q hx=>by
  rw [mkR,hrow x hx,mk',List.getD_eq_getElem?_getD,List.getElem?_replicate]
  split<;>rfl
 refine ⟨List.length_replicate,fun x hx=>by rw [hrow x hx,List.length_replicate],fun x q hx hq h=>?_,fun w hw=>(by cases hw),fun x q hx hq h=>.inr h,fun x p q hx hp h=>?_⟩
 ·rw [hno x q hx] at h;cases h
 ·rw [hno x p hx] at h;cases h
theorem Wk.mono {g : GrD} {PU PU' : Int→Int→Prop} {PE PE' : Int→Int→Int→Prop} {R : yw} {T : List (Int × Int)} (h : Wk g PU PE R T) (hu : ∀ x q,isL g x→isN (ze g) q→Usd g x q→PU x q→PU' x q∨mkR R x q=true)
  (he : ∀ x p q,isL g x→isN (ze g) q→p ∈ nxt (ze g) q→¬ zW g x q→PE x p q→PE' x p q∨mkR R x q=true) : Wk g PU' PE' R T:=
 ⟨h.len,h.rlen,h.sound,h.todo,fun x q hx hq hh=>(h.base x q hx hq hh).elim .inl fun k=>(hu x q hx hq hh k).symm,fun x p q hx hp hm hq hpq hE=>by
  rcases h.back x p q hx hp hm hq hpq hE with k|k|k
  ·exact .inl k
  ·exact .inr (.inl k)
  ·rcases he x p q hx hq hpq hE k with k|k
   ·exact .inr (.inr k)
   ·exact .inr (.inl k)⟩
theorem Wk.add {g : GrD} {PU : Int→Int→Prop} {PE : Int→Int→Int→Prop} {R : yw} {T : List (Int × Int)} (h : Wk g PU PE R T) {x q : Int} (hx : isL g x) (hq : isN (ze g) q) (hl : Lvd g x q) :
  Wk g PU PE (xM (R,T) (q,x)).1 (xM (R,T) (q,x)).2∧mkR (xM (R,T) (q,x)).1 x q=true∧(∀ y p,isL g y→isN (ze g) p→mkR R y p=true→mkR (xM (R,T) (q,x)).1 y p=true)∧
   (xM (R,T) (q,x)).2.length+yW (xM (R,T) (q,x)).1=T.length+yW R:=by
 rw [xM]
 dsimp only
 by_cases hm : mkR R x q=true
 ·rw [if_pos hm]
  exact ⟨h,hm,fun y p _ _ h=>h,rfl⟩
 ·rw [if_neg hm]
  have x0:=hx.1;have x1:=hx.2;have q0:=hq.1;have q1:=hq.2
  have hlx:=h.rlen x hx
  have hRl:=h.len
  have hmk : ∀ y p,isL g y→isN (ze g) p→mkR (jN R x q) y p=(decide (y=x∧p=q)||mkR R y p):=fun y p hy hp=>by
   rw [mkR,abf x0 (by omega) hy.1]
   by_cases e : y=x
   ·subst e
    rw [if_pos rfl,aeo q0 (by omega) hp.1]
    simp [mkR]
   ·rw [if_neg e];simp [e,mkR]
  dsimp only
  refine ⟨⟨by rw [afw];exact hRl,fun y hy=>?_,fun y p hy hp hh=>?_,fun w hw=>?_,fun y p hy hp hh=>?_,fun y p r hy hp hh hr hpr hE=>?_⟩,?_,fun y p hy hp hh=>?_,?_⟩
  ·rw [abf x0 (by omega) hy.1]
   split
   ·rw [abc];exact hlx
   ·exact h.rlen y hy
  ·rw [hmk y p hy hp,Bool.or_eq_true,decide_eq_true_eq] at hh
   rcases hh with ⟨rfl,rfl⟩|hh
   ·exact hl
   ·exact h.sound y p hy hp hh
  ·rcases List.mem_append.1 hw with hw|hw
   ·obtain ⟨h1,h2,h3⟩:=h.todo w hw
    exact ⟨h1,h2,by rw [hmk _ _ h1 h2,h3,Bool.or_true]⟩
   ·rw [List.mem_singleton.1 hw]
    exact ⟨hx,hq,by rw [hmk _ _ hx hq];simp⟩
  ·rcases h.base y p hy hp hh with k|k
   ·exact .inl (by rw [hmk _ _ hy hp,k,Bool.or_true])
   ·exact .inr k
  ·rw [hmk y p hy hp,Bool.or_eq_true,decide_eq_true_eq] at hh
   rcases hh with ⟨rfl,rfl⟩|hh
   ·exact .inl (List.mem_append_right _ (List.mem_singleton.2 rfl))
   ·rcases h.back y p r hy hp hh hr hpr hE with k|k|k
    ·exact .inl (List.mem_append_left _ k)
    ·exact .inr (.inl (by rw [hmk _ _ hy hr,k,Bool.or_true]))
    ·exact .inr (.inr k)
  ·rw [hmk _ _ hx hq];simp
  ·rw [hmk _ _ hy hp,hh,Bool.or_true]
  ·have:=afx x0 (by omega) (by rw [hlx];omega) (Bool.eq_false_iff.2 hm)
   rw [List.length_append,List.length_singleton]
   omega
theorem Wk.pop {g : GrD} {PU : Int→Int→Prop} {R : yw} {T : List (Int × Int)} {p x : Int} (h : Wk g PU (fun _ _ _=>False) R (T ++ [(p,x)])) :
  Wk g PU (fun y r q=>y=x∧r=p∧q ∈ ado (ze g) p) R T∧isL g x∧isN (ze g) p∧Lvd g x p:=by
 obtain ⟨h1,h2,h3⟩:=h.todo (p,x) (by simp)
 refine ⟨⟨h.len,h.rlen,h.sound,fun w hw=>h.todo w (List.mem_append_left _ hw),h.base,fun y r q hy hr hh hq hpq hE=>?_⟩,h1,h2,h.sound _ _ h1 h2 h3⟩
 rcases h.back y r q hy hr hh hq hpq hE with k|k|k
 ·rcases List.mem_append.1 k with k|k
  ·exact .inl k
  ·cases List.mem_singleton.1 k
   exact .inr (.inr ⟨rfl,rfl,Vb.2 ⟨hq,hpq⟩⟩)
 ·exact .inr (.inl k)
 ·exact k.elim
theorem Wk.end {g : GrD} (hn : kH (ze g)) {R : yw} (h : Wk g (fun _ _=>False) (fun _ _ _=>False) R []) {x : Int} (hx : isL g x) : xz R x=lvM g x:=by
 refine VJ (by rw [h.rlen x hx,xy]) fun q q0 q1=>?_
 rw [h.rlen x hx] at q1
 have hq : isN (ze g) q:=⟨q0,q1⟩
 rw [Bool.eq_iff_iff,Xh hq]
 constructor
 ·exact h.sound x q hx hq
 ·intro hl
  clear q0 q1 hq
  induction hl with
  |use hN hu=>exact (h.base x _ hx hN hu).elim id False.elim
  |@step q p hN he hp hl ih=>
   rcases h.back x p q hx (Lvd.isN hl) ih hN hp he with k|k|k
   ·cases k
   ·exact k
   ·exact k.elim
theorem agR {g : GrD} (hn : kH (ze g)) {R : yw} (h : Wk g (fun _ _=>False) (fun _ _ _=>False) R []) : R=(List.range g.tys.length).map fun (x : Nat)=>lvM g x:=by
 refine List.ext_getElem (by rw [h.len];simp) fun x h1 h2=>?_
 rw [List.length_map,List.length_range] at h2
 have:=h.end hn (x:=(x : Int)) ⟨by omega,by omega⟩
 rw [xz,List.getD_eq_getElem?_getD,Int.toNat_natCast,List.getElem?_eq_getElem h1] at this
 simpa using this
def yQ (g : GrD) (x : Int) (m : List Bool) (q : Int) : Bool:=decide (Usd g x q)||(!decide (zW g x q)&&(nxt (ze g) q).any fun p=>mk' m p)
structure Rnd (g : GrD) (x : Int) (m : List Bool) : Prop where
 len : m.length=(ze g).length
 sound : ∀ q,isN (ze g) q→mk' m q=true→Lvd g x q
theorem Rnd.start {g : GrD} {x : Int} : Rnd g x (List.replicate (ze g).length false):=⟨List.length_replicate,fun q hq h=>by
 rw [mk',List.getD_eq_getElem?_getD,List.getElem?_replicate] at h
 split at h<;>cases h⟩
theorem Rnd.must {g : GrD} (hn : kH (ze g)) {x q : Int} {m : List Bool} (h : Rnd g x m) (hq : isN (ze g) q) (hm : yQ g x m q=true) : Lvd g x q:=by
 rw [yQ,Bool.or_eq_true,decide_eq_true_eq,Bool.and_eq_true,List.any_eq_true,Bool.not_eq_true',decide_eq_false_iff_not] at hm
 rcases hm with hm|⟨he,p,hp,hm⟩
 ·exact .use hq hm
 ·exact .step hq he hp (h.sound p (Xe hn hp) hm)
theorem Rnd.set {g : GrD} (hn : kH (ze g)) {x q : Int} {m : List Bool} (h : Rnd g x m) (hq : isN (ze g) q) (hm : yQ g x m q=true) : Rnd g x (xw m q):=
 ⟨by rw [abc];exact h.len,fun p hp hh=>by
  have q0:=hq.1;have q1:=hq.2;have hl:=h.len
  rw [aeo q0 (by omega) hp.1,Bool.or_eq_true,decide_eq_true_eq] at hh
  rcases hh with rfl|hh
  ·exact h.must hn hq hm
  ·exact h.sound p hp hh⟩
theorem Rnd.end {g : GrD} {x : Int} {m : List Bool} (h : Rnd g x m) (hf : ∀ q,isN (ze g) q→yQ g x m q=true→mk' m q=true) : m=lvM g x:=by
 refine VJ (by rw [h.len,xy]) fun q q0 q1=>?_
 rw [h.len] at q1
 have hq : isN (ze g) q:=⟨q0,q1⟩
 rw [Bool.eq_iff_iff,Xh hq]
 constructor
 ·exact h.sound q hq
 ·intro hl
  clear q0 q1 hq
  induction hl with
  |use hN hu=>exact hf _ hN (by rw [yQ,decide_eq_true hu];rfl)
  |@step q p hN he hp hl ih=>
   refine hf _ hN ?_
   rw [yQ,decide_eq_false he,Bool.not_false,Bool.true_and,List.any_eq_true.2 ⟨p,hp,ih⟩,Bool.or_true]
end Go.Proofs
end
section
namespace Go.Proofs
set_option linter.unusedVariables false
set_option linter.unusedSimpArgs false
def ptsW (g : GrD) (P : Int→Prop) [DecidablePred P] : List Int:=((List.range (ze g).length).filter fun (p : Nat)=>decide (P (p : Int))).map Int.ofNat
theorem abh {g : GrD} {P : Int→Prop} [DecidablePred P] {p : Int} : p ∈ ptsW g P↔isN (ze g) p∧P p:=by
 rw [ptsW,List.mem_map]
 constructor
 ·rintro ⟨i,hi,rfl⟩
  rw [List.mem_filter,List.mem_range,decide_eq_true_eq] at hi
  exact ⟨⟨Int.natCast_nonneg i,by have:=hi.1;show ((i : Nat) : Int)<_;omega⟩,hi.2⟩
 ·rintro ⟨h1,h2⟩
  have h0:=h1.1;have h3:=h1.2
  have e : ((p.toNat : Nat) : Int)=p:=by omega
  exact ⟨p.toNat,by rw [List.mem_filter,List.mem_range,decide_eq_true_eq,e];exact ⟨by omega,h2⟩,e⟩
theorem abi {g : GrD} {P : Int→Prop} [DecidablePred P] : (ptsW g P).length≤(ze g).length:=by
 rw [ptsW,List.length_map]
 exact Nat.le_trans (List.length_filter_le ..) (by simp)
def ltB : List Int→List Int→Bool
 |x::a,y::b=>decide (x<y)||(decide (x=y)&&ltB a b)
 |_,_=>false
def adp (b : Option (List Int)) (w : List Int) : Bool:=match b with|none=>true|some v=>decide (w.length<v.length)||(decide (w.length=v.length)&&ltB w v)
noncomputable def jg (n : zD) (W : List Int) (q : Int) (stop : Bool) (b : Option (List Int)) (p : Int) : Option (List Int):=
 if p≠q∧stop=true then b else match wayE n q p W with|some w=>if adp b w=true then some w else b|none=>b
noncomputable def abj (g : GrD) (x q : Int) : Option (List Int):=(ptsW g (Usd g x)).foldl (jg (ze g) (ptsW g (zW g x)) q (decide (zW g x q))) none
noncomputable def kQ (g : GrD) (q : Int) : List Bool:=(List.range g.tys.length).map fun (x : Nat)=>mk' (lvM g x) q
theorem afy {g : GrD} {q : Int} : (kQ g q).length=g.tys.length:=by simp [kQ]
noncomputable def afz (g : GrD) (q : Int) : List Int:=mkd (kQ g q)
theorem abk {g : GrD} {x : Int} {m : List Bool} (hf : ∀ q,isN (ze g) q→yQ g x m q=true→mk' m q=true) {q : Int} (h : Lvd g x q) : mk' m q=true:=by
 induction h with
 |use hN hu=>exact hf _ hN (by rw [yQ,decide_eq_true hu];rfl)
 |@step q p hN he hp hl ih=>
  refine hf _ hN ?_
  rw [yQ,decide_eq_false he,Bool.not_false,Bool.true_and,List.any_eq_true.2 ⟨p,hp,ih⟩,Bool.or_true]
theorem ab2 {g : GrD} (hn : kH (ze g)) {x q : Int} (hq : isN (ze g) q) (h : yQ g x (lvM g x) q=true) : mk' (lvM g x) q=true:=by
 rw [Xh hq]
 rw [yQ,Bool.or_eq_true,decide_eq_true_eq,Bool.and_eq_true,List.any_eq_true,Bool.not_eq_true',decide_eq_false_iff_not] at h
 rcases h with h|⟨he,p,hp,h⟩
 ·exact .use hq h
 ·exact .step hq he hp ((Xh (Xe hn hp)).1 h)
end Go.Proofs
end
section
namespace Go.Proofs
open Go.Sh Go.BM
set_option linter.unusedVariables false
set_option linter.unusedSimpArgs false
def yx (m : List Bool) : List (BitVec 64):=xc (fun x y=>x ||| y) (List.replicate ((m.length+63) / 64) 0#64) (mkd m)
theorem aeu {m : List Bool} : ac0 m.length (mkd m):=fun k hk=>by
 obtain ⟨h1,h2⟩:=acB.1 hk
 have:=aif h2
 omega
theorem acF {n : Nat} (h : n≤1032) : BM.May n (List.replicate ((n+63) / 64) 0#64):=by
 have:=adI (W:=(n : Int)) (by omega) (by omega)
 rwa [Int.toNat_natCast] at this
theorem abl {m : List Bool} (h : m.length≤1032) : BM.May m.length (yx m):=X3 (h:=fun a b=>a||b) aaA (by simp) _ _ (acF h) aeu
theorem abm {m : List Bool} (h : m.length≤1032) (k : Nat) : bit (yx m) k=m.getD k false:=by
 rw [yx,Jb _ _ (acF h) aeu,adJ,Bool.false_or,Bool.eq_iff_iff,decide_eq_true_eq,acB]
 rw [mk',Int.toNat_natCast]
 exact ⟨fun h=>h.2,fun h=>⟨by omega,h⟩⟩
theorem abn {m : List Bool} : (yx m).length=(m.length+63) / 64:=by rw [yx,qW,List.length_replicate]
def Xi (W : Nat) (ws : List (BitVec 64)) : List Bool:=(List.range W).map fun k=>bit ws k
theorem afA {W : Nat} {ws : List (BitVec 64)} : (Xi W ws).length=W:=by simp [Xi]
theorem abo {W : Nat} {ws : List (BitVec 64)} {k : Nat} (h : k<W) : (Xi W ws).getD k false=bit ws k:=by
 rw [Xi,List.getD_eq_getElem?_getD,List.getElem?_map,List.getElem?_range h];rfl
theorem acG {W : Nat} {ws : List (BitVec 64)} {q : Int} (h0 : 0≤q) (h : q<W) : mk' (Xi W ws) q=bit ws q.toNat:=abo (by omega)
theorem afB {m : List Bool} (h : m.length≤1032) : Xi m.length (yx m)=m:=by
 refine List.ext_getElem afA fun k h1 h2=>?_
 have:=abo (ws:=yx m) h2
 rw [abm h,List.getD_eq_getElem?_getD,List.getD_eq_getElem?_getD,List.getElem?_eq_getElem h1,List.getElem?_eq_getElem h2] at this
 exact this
end Go.Proofs
end
section
namespace Go.Sh
open Go.RowKit
section
variable {P : Program} {X : Nat→Prop} {w0 w : World} {r : Gh} {L : List Asr} {e : TypeId} {sz m : Nat} {xs : List Value} {g : Asr→List Asr}
theorem StX.cutRow {p : Option Addr} {cap n : Nat} (S : StX X w0 r w L) [h : kc (.slice p m cap) L e sz m xs g] (hn : n≤m) : StX X w0 r w (g (.row (.slice p n cap) e sz n (xs.take (n*sz)))):=by
 obtain ⟨pp,qq,h2,h3⟩:=h.h
 have hr:=S.has (.row (.slice p m cap) e sz m xs) (by rw [h2];simp)
 rw [h3]
 rw [h2] at S
 rcases xW hr with ⟨hv,h0,hx⟩|⟨b,cap',c,hv,hb,B,hm,hM,hc,ht⟩
 ·cases hv
  have : n=0:=by omega
  subst this
  subst hx
  refine S.turn (x:=.row (.slice none 0 0) e sz 0 []) (y:=.row (.slice none 0 0) e sz 0 ([].take (0*sz))) (ExtBut.refl _ _) ?_ fun k hk=>.inl hk
  simpa using hr
 ·cases hv
  refine S.turn (x:=.row (.slice (some ⟨b,0,none⟩) m cap) e sz m xs) (y:=.row (.slice (some ⟨b,0,none⟩) n cap) e sz n (xs.take (n*sz))) (ExtBut.refl _ _) ?_ fun k hk=>.inl hk
  have:=qC (base:=0) (e:=e) (size:=sz) (n:=n) (Nat.zero_le _) B (by omega) hM hc
  rw [← ht,List.take_take,Nat.min_eq_left (Nat.mul_le_mul_right _ hn)]
  exact this
end
end Go.Sh
end
section
namespace Go.Proofs.Tryz
open Go.Sh
set_option maxRecDepth 100000
def km (t0 t1 : Value) (w : World) (K : VW) : Prop:=
 ca xh #[t0,t1] w fun t7 w1=>
 bt .geq 3 t7 (i6 0) fun t8=>K t8 w1
theorem jO {t0 t1 : Value} {w : World} {K : VW} (h : km t0 t1 w K) : zd prog yM #[t0,t1] w K:=
 okC false (.s (.r (rz 1 0 0)) (.s (.r (rz 5 0 32)) (.n))) func50 rfl (by kernel_rfl) (by kernel_rfl) h
def kY (t0 t1 : Value) (w : World) (K : VW) : Prop:=
 pp (Builtin.len_ #[50] 3 #[t0]) fun t7=>zr [(i6 0)] w (fun s2 _d3 w4 K1=>
 bf .lss 3 (s2.getD 0 undef) t7 fun t9=>zc t9 (xl w4 50 t0 (s2.getD 0 undef) 3 fun t15=>bf .eql 3 t1 t15 fun t16=>zc t16 (K (s2.getD 0 undef) w4) (bt .add 3 (s2.getD 0 undef) (i6 1) fun t18=>K1 [t18] w4)) (K (i6 (-1)) w4))
theorem v8 {t0 t1 : Value} {w : World} {K : VW} (h : kY t0 t1 w K) : zd prog xh #[t0,t1] w K:=
 okC false (.s (.r (rz 1 0 0)) (.s (.s (.r (rz 3 0 0)) (.b (.lp [8] (.s (.r (rz 1 0 0)) (.s (.c (.n) (.n)) (.s (.b (.s (.r (rz 2 0 0)) (.s (.r (rz 6 0 256)) (.c (.s (.r (rz 2 0 0)) (.n)) (.n))))) (.r (rz 2 0 0)))))))) (.s (.r (rz 1 0 0)) (.n)))) func72 rfl (by kernel_rfl) (by kernel_rfl) h
end Go.Proofs.Tryz
end
section
namespace Go.Proofs
open Go.Sh Go.RowKit
set_option maxRecDepth 100000
set_option linter.unusedSimpArgs false
set_option linter.unusedVariables false
def adq (c : List Value) (x : Bool) : Prop:=c = [.bool x]
def bls (m : List Bool) : List Value:=m.map Value.bool
theorem acH {m : List Bool} : (bls m).length=m.length:=List.length_map _
theorem aev {m : List Bool} : RowOf 1 adq (bls m) m:=⟨by rw [acH,Nat.mul_one],fun j hj=>by
 rw [Nat.mul_one,bls,← List.map_drop,← List.map_take,List.drop_eq_getElem_cons hj];rfl⟩
theorem yB {l : List Int} : RowOf 1 z6 (ints l) l:=⟨by rw [qZ,Nat.mul_one],fun j hj=>by
 rw [Nat.mul_one,ints,← List.map_drop,← List.map_take,List.drop_eq_getElem_cons hj];rfl⟩
theorem abp {α : Type} {r : Gh} {V : α→Value} {p : Option Addr} {n cap : Nat} {l : List α} (h : SlG 1 r (fun c x=>c = [V x]) (.slice p n cap) l) {i : Nat} (hi : i<l.length) :
  ∃ b off,p=some ⟨b,off,none⟩∧n=l.length∧Ob r fun w=>w.cell? ⟨b,off+i,none⟩=some (V l[i]):=by
 have hsh:=h.shape
 obtain ⟨p',cap',e,_,_⟩:=hsh
 obtain ⟨b,off,c,hE,hc,hcc,hcl⟩:=h.get (by decide) hi
 obtain rfl : c=_:=hcc
 cases e
 cases hE
 refine ⟨b,off,rfl,rfl,?_⟩
 have:=hcl 0 _ rfl
 rwa [show off+i*1+0=off+i by omega] at this
theorem yi {r : Gh} {p : Option Addr} {n cap : Nat} {l : List Int} (h : SlG 1 r z6 (.slice p n cap) l) {i : Nat} (hi : i<l.length) : ∃ b off,p=some ⟨b,off,none⟩∧n=l.length∧Ob r fun w=>w.cell? ⟨b,off+i,none⟩=some (.int .i64 l[i]):=abp (V:=Value.int .i64) h hi
theorem acI {r : Gh} {p : Option Addr} {n cap : Nat} {l : List Bool} (h : SlG 1 r adq (.slice p n cap) l) {i : Nat} (hi : i<l.length) : ∃ b off,p=some ⟨b,off,none⟩∧n=l.length∧Ob r fun w=>w.cell? ⟨b,off+i,none⟩=some (.bool l[i]):=abp (V:=Value.bool) h hi
theorem ab4 {l : List Int} {x : Int} {v : Value} {w : World} {r : Gh} {K : Value→World→Prop} (hr : Holds r w) (hl : SlG 1 r z6 v l) (hf : l.length≤maxLen)
  (h : ∀ i : Int,(0≤i↔x ∈ l)→K (.int .i64 i) w) : zd Tryz.prog Tryz.xh #[v,.int .i64 x] w K:=by
 refine Tryz.v8 ?_
 unfold Tryz.kY
 obtain ⟨p,cap,rfl,_,_⟩:=hl.shape
 have hf : l.length≤9223372036854775807:=hf
 refine gp_ ?_
 refine zj (ι:=Nat) (fun i=>[.int .i64 (i : Nat)]) (fun i w'=>w'=w∧i≤l.length∧x ∉ l.take i) (fun i=>l.length - i) 0 rfl ⟨rfl,Nat.zero_le _,by simp⟩ ?_
 rintro i d w' ⟨rfl,hi,hn⟩ K1 hK1
 simp only [List.getD_cons_zero]
 refine gp_ ?_
 refine zm (fun hlt=>?_) (fun hge=>?_)
 ·have hlt : i<l.length:=by omega
  obtain ⟨b,off,rfl,_,hc⟩:=yi hl hlt
  refine gp_ ?_
  refine zh (by rw [Int.toNat_natCast];exact hc _ hr) ?_
  refine gp_ ?_
  refine zm (fun he=>?_) (fun he=>?_)
  ·exact h _ ⟨fun _=>by rw [he];exact List.getElem_mem hlt,fun _=>Int.natCast_nonneg _⟩
  ·refine gp_ ?_
   refine hK1 (i+1) _ ⟨rfl,hlt,?_⟩ (by omega)
   rw [List.take_succ_eq_append_getElem hlt,List.mem_append,List.mem_singleton]
   exact fun h=>h.elim hn he
 ·have : i=l.length:=by omega
  subst this
  rw [List.take_length] at hn
  exact h _ ⟨fun h=>by omega,fun h=>absurd h hn⟩
theorem Vf {l : List Int} {x : Int} {v : Value} {w : World} {r : Gh} {K : Value→World→Prop} (hr : Holds r w) (hl : SlG 1 r z6 v l) (hf : l.length≤maxLen)
  (h : K (.bool (decide (x ∈ l))) w) : zd Tryz.prog Tryz.yM #[v,.int .i64 x] w K:=by
 refine Tryz.jO ?_
 unfold Tryz.km
 refine ab4 hr hl hf fun i hi=>?_
 refine gp_ ?_
 have e : decide (0≤i)=decide (x ∈ l):=by
  rw [decide_eq_decide];exact hi
 rw [e];exact h
theorem Qd {l : List Int} {v : Value} {w0 w : World} {r : Gh} {L : List Asr} {X : Nat→Prop} {K : Value→World→Prop} (S : StX X w0 r w L) (hl : SlG 1 r z6 v l) (hf : l.length≤1000000)
  (h : ∀ v' w',StX X w0 r w' (.row v' 3 1 l.length (ints l)::L)→K v' w') : zd Tryz.prog Tryz.xi #[v] w K:=by
 obtain ⟨p,cap,rfl,hp,_⟩:=hl.shape
 by_cases h0 : l = []
 ·subst h0
  cases p with
  |none=>
   have:=hp rfl;subst this
   refine Calls.mono (Any.slices_Clone_int_nil Tryz.Xb 0 0 w) ?_
   rintro e w' ⟨rfl,rfl⟩
   exact ⟨_,rfl,h _ _ (S.ownNil 3 1)⟩
  |some a=>
   refine Calls.mono (Any.slices_Clone_int_zero Tryz.Xb a cap w) ?_
   rintro e w' ⟨v',rfl,ho,_,hB⟩
   have hE : Ext w w':=⟨hB.os,hB.tape,hB.output,hB.size,hB.block⟩
   exact ⟨_,rfl,h _ _ (S.take hE ho)⟩
 ·obtain ⟨b,off,rfl,_,_⟩:=yi hl (i:=0) (List.length_pos_iff.2 h0)
  refine Calls.mono (Any.slices_Clone_int Tryz.Xb b off l.length cap l w (Nat.le_refl _) (by omega) fun j hj=>?_) ?_
  ·obtain ⟨b',off',hE,_,hc⟩:=yi hl hj
   cases hE
   rw [S.at hc,List.getD_eq_getElem?_getD,List.getElem?_eq_getElem hj];rfl
  rintro e w' ⟨v',rfl,ho,_,hB⟩
  have hE : Ext w w':=⟨hB.os,hB.tape,hB.output,hB.size,hB.block⟩
  rw [List.take_length] at ho
  exact ⟨_,rfl,h _ _ (S.take hE ho)⟩
end Go.Proofs
end
section
namespace Go.Proofs.Tryz
open Go.Sh
set_option maxRecDepth 100000
def Jv (t0 t1 t2 t3 t4 : Value) (w : World) (K : VW) : Prop:=
 pw w (Instr.box 25 t0) fun t5 w1=>
 lo w1 25 t5 fun t23=>ca YV #[t23,t1] w1 fun t25 w2=>
 pe t25 0 fun t26=>pe t25 1 fun t27=>bt .neq 32 t27 (i6 0) fun t29=>za (fun K3=>gIf t29 false (pw w2 (Instr.buildSlice 50 2 #[(0,t2),(1,t3)]) fun t34 w7=>
 ca kC #[t26,t34] w7 fun t35 w8=>
 pp (Op.unary .not t35) fun t36=>K3 [t36] w8) (K3 [undef] w2)) (fun s4 _d5 w6=>
 zb t29 tr_ (s4.getD 0 undef) fun t37=>za (fun K9=>gIf t37 false (ca kC #[t26,t4] w6 fun t41 w13=>
 pp (Op.unary .not t41) fun t42=>K9 [t42] w13) (K9 [undef] w6)) (fun s10 _d11 w12=>
 zb t37 tr_ (s10.getD 0 undef) fun t43=>zc t43 (K (.tuple #[(Value.slice Option.none 0 0),fa_,(i6 2)]) w12) (pw w12 (Instr.makeMap 118 none) fun t44 w14=>
 pw w14 (Instr.buildSlice 50 1 #[(0,t2)]) fun t47 w15=>
 pu w15 (Instr.mapUpdate 118 t44 t2 t47) fun w16=>pw w16 (Instr.buildSlice 50 1 #[(0,t2)]) fun t50 w17=>
 zr [t50] w17 (fun s19 _d20 w21 K18=>
 pp (Builtin.len_ #[50] 3 #[(s19.getD 0 undef)]) fun t52=>bt .gtr 3 t52 (i6 0) fun t53=>za (fun K22=>gIf t53 true (pq w21 (Instr.lookup 118 t44 t3 false) fun t57=>bt .eql 50 t57 (Value.slice Option.none 0 0) fun t58=>K22 [t58] w21) (K22 [undef] w21)) (fun s23 _d24 w25=>
 zb t53 (s23.getD 0 undef) fa_ fun t59=>zc t59 (pp (Builtin.len_ #[50] 3 #[(s19.getD 0 undef)]) fun t61=>zr [(Value.slice Option.none 0 0),(i6 0)] w25 (fun s27 _d28 w29 K26=>
 bf .lss 3 (s27.getD 1 undef) t61 fun t63=>zc t63 (za (fun K30=>
 xl w29 50 (s19.getD 0 undef) (s27.getD 1 undef) 3 fun t65=>bf .neq 3 t65 t2 fun t68=>za (fun K34=>gIf t68 true (ca yM #[t4,t65] w29 fun t72 w38=>
 K34 [t72] w38) (K34 [undef] w29)) (fun s35 _d36 w37=>
 zb t68 (s35.getD 0 undef) fa_ fun t73=>zc t73 (K30 [(s27.getD 0 undef)] w37) (xl w37 114 t26 t65 50 fun t77=>ca xi #[t77] w37 fun t78 w39=>
 ca xq #[t78] w39 fun _t80 w40=>
 pp (Builtin.len_ #[50] 3 #[t78]) fun t82=>zr [(s27.getD 0 undef),(i6 0)] w40 (fun s42 _d43 w44 K41=>
 bf .lss 3 (s42.getD 1 undef) t82 fun t84=>zc t84 (za (fun K45=>
 xl w44 50 t78 (s42.getD 1 undef) 3 fun t86=>pq w44 (Instr.lookup 118 t44 t86 false) fun t89=>bt .eql 50 t89 (Value.slice Option.none 0 0) fun t90=>zc t90 (pq w44 (Instr.lookup 118 t44 t65 false) fun t95=>ca xi #[t95] w44 fun t96 w49=>
 pw w49 (Instr.buildSlice 50 1 #[(0,t86)]) fun t98 w50=>
 pw w50 (Builtin.append_ #[50,50] 50 #[t96,t98]) fun t99 w51=>
 pu w51 (Instr.mapUpdate 118 t44 t86 t99) fun w52=>pw w52 (Instr.buildSlice 50 1 #[(0,t86)]) fun t102 w53=>
 pw w53 (Builtin.append_ #[50,50] 50 #[(s42.getD 0 undef),t102]) fun t103 w54=>
 K45 [t103] w54) (K45 [(s42.getD 0 undef)] w44)) (fun s46 _d47 w48=>
 bt .add 3 (s42.getD 1 undef) (i6 1) fun t104=>K41 [(s46.getD 0 undef),t104] w48)) (K30 [(s42.getD 0 undef)] w44))))) (fun s31 _d32 w33=>
 bt .add 3 (s27.getD 1 undef) (i6 1) fun t105=>K26 [(s31.getD 0 undef),t105] w33)) (K18 [(s27.getD 0 undef)] w29))) (pq w25.drew (Instr.lookup 118 t44 t3 false) fun t109=>pq w25.drew (Instr.lookup 118 t44 t3 false) fun t112=>bt .neq 50 t112 (Value.slice Option.none 0 0) fun t113=>K (.tuple #[t109,t113,(i6 0)]) w25.drew))))))
theorem ab5 {t0 t1 t2 t3 t4 : Value} {w : World} {K : VW} (h : Jv t0 t1 t2 t3 t4 w K) : zd prog Z9 #[t0,t1,t2,t3,t4] w K:=
 okC false (.s (.r (rz 4 0 2)) (.s (.r (rz 8 0 33)) (.s (.s (.r (ra 3 0 0 (.grp 30 false (ri 6 3 640) [36] (ra 2 9 0 (.grp 38 false (ri 4 11 32) [42] (rz 1 15 0)))))) (.c (.s (.r (rz 3 0 0)) (.n)) (.n))) (.s (.r (rz 7 0 642)) (.s (.r (rz 3 0 8)) (.s (.b (.lp [15] (.s (.s (.r (ra 4 0 0 (.grp 54 true (ri 4 4 16) [58] (rz 1 8 0)))) (.c (.n) (.n))) (.b (.s (.r (rz 1 0 0)) (.s (.s (.r (rz 3 0 0)) (.b (.lp [16,62] (.s (.r (rz 1 0 0)) (.s (.c (.n) (.n)) (.j [16] (.b (.s (.r (rz 3 0 4)) (.s (.s (.r (ra 4 0 0 (.grp 69 true (ri 3 4 32) [72] (rz 1 7 0)))) (.c (.n) (.n))) (.s (.r (rz 6 0 576)) (.s (.r (rz 2 0 8)) (.s (.r (rz 3 0 0)) (.b (.lp [16,83] (.s (.r (rz 1 0 0)) (.s (.c (.n) (.n)) (.j [16] (.b (.s (.r (rz 3 0 4)) (.s (.r (rz 4 0 16)) (.c (.s (.r (rz 10 0 690432)) (.r (rz 5 0 160))) (.n))))) (.r (rz 2 0 0))))))))))))) (.r (rz 2 0 0)))))))) (.r (rz 2 0 0)))))))) (.s (.r (rz 10 0 1040)) (.n)))))))) func34 rfl (by kernel_rfl) (by kernel_rfl) h
def VL (t0 t1 : Value) (w : World) (K : VW) : Prop:=
 pw w (Instr.box 25 t0) fun t2 w1=>
 bt .lss 3 t1 (i6 0) fun t10=>za (fun K2=>gIf t10 false (fl w1 t2 25 1 23 fun t14=>pp (Builtin.len_ #[23] 3 #[t14]) fun t15=>bf .geq 3 t1 t15 fun t16=>K2 [t16] w1) (K2 [undef] w1)) (fun s3 _d4 w5=>
 zb t10 tr_ (s3.getD 0 undef) fun t17=>za (fun K6=>gIf t17 false (lo w5 25 t2 fun t19=>ca jo #[t19] w5 fun t20 w10=>
 pp (Op.unary .not t20) fun t21=>K6 [t21] w10) (K6 [undef] w5)) (fun s7 _d8 w9=>
 zb t17 tr_ (s7.getD 0 undef) fun t22=>zc t22 (K (.tuple #[(Value.slice Option.none 0 0),(i6 2)]) w9) (fl w9 t2 25 1 23 fun t24=>px 23 t24 t1 fun t26=>fl w9 t26 48 6 46 fun t28=>pp (Builtin.len_ #[46] 3 #[t28]) fun t29=>zr [(Value.slice Option.none 0 0),(i6 0)] w9 (fun s12 _d13 w14 K11=>
 bf .lss 3 (s12.getD 1 undef) t29 fun t31=>zc t31 (za (fun K15=>
 xl w14 46 t28 (s12.getD 1 undef) 92 fun t33=>pw w14 (Instr.alloc 92 true (.tuple #[])) fun t8 w19=>
 so w19 92 t8 t33 fun w20=>fl w20 t8 92 0 86 fun t42=>bt .eql 86 t42 (Value.int .u8 14) fun t43=>zc t43 (pw w20 (Instr.buildSlice 114 1 #[(0,(Value.slice Option.none 0 0))]) fun t45 w21=>
 pw w21 (Builtin.append_ #[114,114] 114 #[(s12.getD 0 undef),t45]) fun t46 w22=>
 K15 [t46] w22) (fl w20 t8 92 0 86 fun t49=>bt .eql 86 t49 (Value.int .u8 12) fun t50=>za (fun K23=>gIf t50 true (fl w20 t8 92 11 3 fun t53=>fl w20 t8 92 10 3 fun t55=>bf .neq 3 t53 t55 fun t56=>K23 [t56] w20) (K23 [undef] w20)) (fun s24 _d25 w26=>
 zb t50 (s24.getD 0 undef) fa_ fun t57=>zc t57 (fl w26 t8 92 10 3 fun t60=>fl w26 t8 92 11 3 fun t62=>pw w26 (Instr.buildSlice 50 2 #[(0,t60),(1,t62)]) fun t63 w27=>
 pw w27 (Instr.buildSlice 114 1 #[(0,t63)]) fun t64 w28=>
 pw w28 (Builtin.append_ #[114,114] 114 #[(s12.getD 0 undef),t64]) fun t65 w29=>
 K15 [t65] w29) (fl w26 t8 92 10 3 fun t36=>pw w26 (Instr.buildSlice 50 1 #[(0,t36)]) fun t37 w30=>
 pw w30 (Instr.buildSlice 114 1 #[(0,t37)]) fun t38 w31=>
 pw w31 (Builtin.append_ #[114,114] 114 #[(s12.getD 0 undef),t38]) fun t39 w32=>
 K15 [t39] w32)))) (fun s16 _d17 w18=>
 bt .add 3 (s12.getD 1 undef) (i6 1) fun t66=>K11 [(s16.getD 0 undef),t66] w18)) (K (.tuple #[(s12.getD 0 undef),(i6 0)]) w14)))))
theorem adr {t0 t1 : Value} {w : World} {K : VW} (h : VL t0 t1 w K) : zd prog YV #[t0,t1] w K:=
 okC false (.s (.r (rz 3 0 2)) (.s (.s (.r (ra 3 0 0 (.grp 11 false (ri 5 3 16) [16] (ra 2 8 0 (.grp 18 false (ri 3 10 9) [21] (rz 1 13 0)))))) (.c (.s (.r (rz 2 0 0)) (.n)) (.n))) (.s (.r (rz 1 0 0)) (.s (.s (.r (rz 8 0 1028)) (.b (.lp [6,30] (.s (.r (rz 1 0 0)) (.s (.c (.n) (.n)) (.j [6] (.b (.s (.r (rz 4 0 164)) (.b (.s (.r (rz 4 0 4)) (.c (.r (rz 4 0 40)) (.s (.r (ra 4 0 4 (.grp 51 true (ri 5 4 68) [56] (rz 2 9 0)))) (.c (.r (rz 9 0 43280)) (.r (rz 7 0 2704))))))))) (.r (rz 2 0 0)))))))) (.s (.r (rz 3 0 0)) (.n)))))) func48 rfl (by kernel_rfl) (by kernel_rfl) h
def Z2 (t0 t1 : Value) (w : World) (K : VW) : Prop:=
 pw w (Instr.box 114 t0) fun t2 w1=>
 pp (Instr.makeFunc (.func 71) #[] #[t2]) fun t6=>ca zG #[t1,t6] w1 fun t7 w2=>
 pp (Op.unary .not t7) fun t8=>K t8 w2
theorem Jw {t0 t1 : Value} {w : World} {K : VW} (h : Z2 t0 t1 w K) : zd prog kC #[t0,t1] w K:=
 okC false (.s (.r (rz 2 0 2)) (.s (.r (rz 5 0 32)) (.n))) func49 rfl (by kernel_rfl) (by kernel_rfl) h
def vO (t0 t1 : Value) (w : World) (K : VW) : Prop:=
 bt .lss 3 t0 (i6 0) fun t5=>za (fun K1=>gIf t5 false (lo w 114 t1 fun t8=>pp (Builtin.len_ #[114] 3 #[t8]) fun t9=>bf .geq 3 t0 t9 fun t10=>K1 [t10] w) (K1 [undef] w)) (fun s2 _d3 w4=>
 zb t5 tr_ (s2.getD 0 undef) fun t11=>K t11 w4)
theorem XS {t0 t1 : Value} {w : World} {K : VW} (h : vO t0 t1 w K) : zd prog Qw #[t0,t1] w K:=
 okC false (.s (.r (rz 1 0 0)) (.s (.r (ra 3 0 0 (.grp 6 false (ri 4 3 4) [10] (rz 2 7 0)))) (.n))) func71 rfl (by kernel_rfl) (by kernel_rfl) h
end Go.Proofs.Tryz
end
section
namespace Go.Proofs
open Go.Sh Go.RowKit
set_option maxRecDepth 100000
set_option linter.unusedSimpArgs false
set_option linter.unusedVariables false
theorem XJ {r : Gh} {p : Option Addr} {k cap : Nat} {n : zD} (h : NetG r (.slice p k cap) n) {i : Nat} (hi : i<n.length) : ∃ b off v,p=some ⟨b,off,none⟩∧k=n.length∧(Ob r fun w=>w.cell? ⟨b,off+i,none⟩=some v)∧SlB 1 r z6 v n[i]:=by
 obtain ⟨p',cap',e,_,_⟩:=h.sl.shape
 obtain ⟨b,off,c,hE,hc,hcc,hcl⟩:=h.sl.get (by decide) hi
 obtain ⟨v,rfl,hv⟩:=hcc
 cases e
 cases hE
 refine ⟨b,off,v,rfl,rfl,?_,hv⟩
 have:=hcl 0 _ rfl
 rwa [show off+i*1+0=off+i by omega] at this
theorem agc {n : zD} {l : List Int} {v u : Value} {w : World} {r : Gh} {K : Value→World→Prop} (hr : Holds r w) (hn : NetG r v n) (hl : SlG 1 r z6 u l) (hf : l.length≤1000000)
  (h : ∀ w',Ext w w'→K (.bool (decide (∀ x ∈ l,isN n x))) w') : zd Tryz.prog Tryz.kC #[v,u] w K:=by
 refine Tryz.Jw ?_
 unfold Tryz.Z2
 obtain ⟨p,cap,rfl,_,_⟩:=hn.sl.shape
 obtain ⟨q,cap',rfl,_,_⟩:=hl.shape
 have S:=St.start hr
 refine S.box fun b2 w1 S=>?_
 have S : StX noX w r w1 [.cell b2 [.slice p n.length cap] 114]:=S
 refine gp_ ?_
 have hsl : Sl w1 q (ints l):=fun i v hv=>by
  have hi : i<l.length:=by
   have:=(List.getElem?_eq_some_iff.1 hv).1
   rwa [qZ] at this
  obtain ⟨b,off,rfl,_,hc⟩:=yi hl hi
  rw [ints,List.getElem?_map,List.getElem?_eq_getElem hi] at hv
  cases hv
  exact ⟨b,off,rfl,S.at hc⟩
 refine qS (f:=fun x=>!decide (isN n x)) (fun x K hK=>?_) hsl (by omega) ?_
 ·refine Yc (by kernel_rfl) ?_
  refine Tryz.XS ?_
  unfold Tryz.vO
  refine gg_ ?_
  refine zo (c:=decide ((n.length : Int)≤x)) (fun _ K2 hK2=>by refine gg_ ?_;exact hK2) ?_
  have e : (decide (x<0)||decide ((n.length : Int)≤x)) = !decide (isN n x):=by
   by_cases hx : isN n x
   ·have h1:=hx.1;have h2:=hx.2
    rw [decide_eq_true hx,decide_eq_false (by omega),decide_eq_false (by omega)];rfl
   ·rw [decide_eq_false hx]
    by_cases h1 : x<0
    ·rw [decide_eq_true h1];rfl
    ·have h2 : (n.length : Int)≤x:=by
      refine Int.not_lt.1 fun h2=>hx ⟨by omega,h2⟩
     rw [decide_eq_true h2,Bool.or_true];rfl
  rw [e];exact hK
 refine gp_ ?_
 have:=h _ S.ext
 have e : (decide (∀ x ∈ l,isN n x)) = !(l.any fun x=>!decide (isN n x)):=by
  rw [Bool.eq_iff_iff]
  simp
 rwa [e] at this
theorem QS {m : List Bool} {i : Nat} (hi : i<m.length) : mkd (m.take (i+1))=mkd (m.take i)++(if m[i]=true then [(i : Int)] else []):=by
 have hl : (m.take (i+1)).length=i+1:=by rw [List.length_take];omega
 have hl' : (m.take i).length=i:=by rw [List.length_take];omega
 rw [mkd,mkd,hl,hl',List.range_succ,List.filter_append,List.map_append]
 congr 1
 ·congr 1
  refine List.filter_congr fun x hx=>?_
  have:=List.mem_range.1 hx
  rw [List.getD_eq_getElem?_getD,List.getD_eq_getElem?_getD,List.getElem?_take,List.getElem?_take,if_pos (by omega),if_pos this]
 ·have e : (m.take (i+1)).getD i false=m[i]:=by
   rw [List.getD_eq_getElem?_getD,List.getElem?_take,if_pos (by omega),List.getElem?_eq_getElem hi];rfl
  cases hm : m[i] with
  |true=>rw [List.filter_cons_of_pos (by rw [e,hm])];simp
  |false=>rw [List.filter_cons_of_neg (by rw [e,hm];simp)];simp
theorem xF {l : List Int} {x : Int} : ints (l ++ [x])=ints l ++ [.int .i64 x]:=by simp [ints]
end Go.Proofs
end
section
namespace Go.Proofs
open Go.Sh Go.RowKit
set_option maxRecDepth 100000
set_option linter.unusedSimpArgs false
set_option linter.unusedVariables false
set_option maxHeartbeats 1000000 in
theorem aew {u : UnD} {n : Int} {v : Value} {w : World} {r : Gh} {K : Value→World→Prop} (hr : Holds r w) (hu : UnG r v u)
  (h : ∀ v' s w',Ext w w'→New w s w'→(fnE u n=0→∃ hn : n.toNat<u.fs.length,NetG s v' (ze u.fs[n.toNat]))→K (.tuple #[v',.int .i64 (fnE u n)]) w') : zd Tryz.prog Tryz.YV #[v,.int .i64 n] w K:=by
 refine Tryz.adr ?_
 unfold Tryz.VL
 have hu0:=hu
 obtain ⟨p0,cap0,vf,rfl,_,_,hst,hsl,hfn⟩:=hu
 obtain ⟨qf,capf,rfl,_,_⟩:=hfn.sl.shape
 have S:=St.start hr
 refine S.box fun b2 w1 S=>?_
 have S : StX noX w r w1 [.cell b2 [.slice p0 u.ss.length cap0,.slice qf u.fs.length capf,.int .i64 u.mn] 25]:=S
 refine gp_ ?_
 refine zo (c:=decide ((u.fs.length : Int)≤n)) (fun _ K2 hK2=>by refine gg_ ?_;exact hK2) ?_
 refine xp (c:=!J6 u) (fun _ K2 hK2=>?_) fun w5 e5=>?_
 ·refine S.ldB (b:=b2) ?_ rfl
  refine Qa S.holds hu0 fun w5 e5=>?_
  refine gp_ ?_
  exact hK2 _ e5
 have S:=S.go e5
 refine c_b (fun hbad=>?_) (fun hgood=>?_)
 ·have hE : fnE u n=2:=by rw [fnE,if_pos hbad]
  rw [hE] at h
  exact h _ nothing _ S.ext New.nothing (fun h=>by cases h)
 have hE : fnE u n=0:=by rw [fnE,if_neg (by rw [hgood];simp)]
 rw [hE] at h
 obtain ⟨hM,hn0,hlt⟩:=Js hE
 simp only [Bool.or_eq_false_iff,decide_eq_false_iff_not,Bool.not_eq_false'] at hgood
 obtain ⟨⟨_,hn1⟩,_⟩:=hgood
 obtain ⟨bf,of,cf,hqE,hcf,hgc,hfo⟩:=hfn.sl.get (by decide) hlt
 cases hqE
 have hp24:=(hM.hd hlt).pt1024
 generalize hg : u.fs[n.toNat]=g at hgc hp24
 obtain ⟨x1,x2,x3,x4,y1,y2,y3,y4,rfl,hg0⟩:=acx hgc
 obtain ⟨_,_,_,_,hEE,m1,m2,m3,m4⟩:=id hg0
 cases hEE
 refine gg_ ?_
 refine zh (S.at (hfo 6 _ rfl)) ?_
 refine gg_ ?_
 have S:=S.ownNil 50 1
 refine zj (ι:=Nat × Value × Gh × List Value) (fun i=>[i.2.1,.int .i64 (i.1 : Nat)])
  (fun i w'=>i.1≤g.pts.length∧Above w i.2.2.1∧RowOf 1 (RowC i.2.2.1) i.2.2.2 ((ze g).take i.1)∧StX noX w (r.or i.2.2.1) w' [.row i.2.1 50 1 i.1 i.2.2.2,.cell b2 [.slice p0 u.ss.length cap0,.slice (some ⟨bf,of,none⟩) u.fs.length capf,.int .i64 u.mn] 25])
  (fun i=>g.pts.length - i.1) (0,.slice none 0 0,nothing,[]) rfl ⟨Nat.zero_le _,Above.no,by simpa using RowOf.nil,S.to _⟩ ?_
 repeat clear S
 rintro ⟨i,vr,s,xs⟩ d w6 ⟨hi,ha,hR,S⟩ K11 hK11
 simp only at hi ha hR S ⊢
 simp only [List.getD_cons_zero,List.getD_cons_succ]
 refine gg_ ?_
 refine zm (fun hlt2=>?_) (fun hge=>?_)
 ·have hlt2 : i<g.pts.length:=by omega
  have hil : i<(ze g).length:=by rw [zR];exact hlt2
  obtain ⟨bp,op,cp,hqp,hcp,hpc,hpo⟩:=m4.sl.get (by decide) hlt2
  cases hqp
  have hni : (ze g)[i]=y8 g.pts[i]:=by simp [ze]
  have htk : (ze g).take (i+1)=(ze g).take i ++ [y8 g.pts[i]]:=by rw [List.take_succ_eq_append_getElem hil,hni]
  generalize g.pts[i]=p at hpc htk
  obtain ⟨z1,z2,z3,z4,z5,t1,t2,t3,t4,t5,rfl,hp0⟩:=Z0 hpc
  refine zq (fun x w'=>∃ vq s' xs',x = [vq]∧Above w s'∧RowOf 1 (RowC s') xs' ((ze g).take (i+1))∧StX noX w (r.or s') w' [.row vq 50 1 (i+1) xs',.cell b2 [.slice p0 u.ss.length cap0,.slice (some ⟨bf,of,none⟩) u.fs.length capf,.int .i64 u.mn] 25]) (fun K15 hK15=>?_) ?_
  ·refine gg_ ?_
   refine zH (n:=21) hcp (fun j v hj=>by rw [Int.toNat_natCast];exact S.at (hpo j v hj)) ?_
   refine S.al fun b8 w7 S=>?_
   refine S.stB (b:=b8) fun w8 S=>?_
   have S : StX noX w (r.or s) w8 [.cell b8 (ptL p z1 z2 z3 z4 z5 t1 t2 t3 t4 t5) 92,.row vr 50 1 i xs,.cell b2 [.slice p0 u.ss.length cap0,.slice (some ⟨bf,of,none⟩) u.fs.length capf,.int .i64 u.mn] 25]:=S
   refine gg_ ?_
   refine zm (fun h14=>?_) (fun h14=>?_)
   ·have hnp : y8 p = []:=by rw [y8,if_pos h14]
    have S:=S.drop b8
    refine S.lit (e:=50) (cs:=[.slice none 0 0]) (by kernel_rfl) fun b9 w9 S=>?_
    refine S.ap (v:=vr) (m':=1) (Sl.blk (S.blk b9)) (fun v4 w10 S=>?_) (by omega)
    refine hK15 _ _ ⟨v4,s,xs ++ [.slice none 0 0],rfl,ha,?_,S.drop b9⟩
    rw [htk,hnp]
    exact hR.snoc rfl ⟨_,rfl,SlG.nil,Nat.zero_le _⟩
   ·refine gg_ ?_
    refine zi (c:=decide (p.el≠p.nx)) (fun _ K2 hK2=>by refine gg_ ?_;exact hK2) ?_
    refine c_b (fun hc=>?_) (fun hc=>?_)
    ·simp only [Bool.and_eq_true,decide_eq_true_eq] at hc
     have hnp : y8 p = [p.nx,p.el]:=by rw [y8,if_neg h14,if_pos ⟨hc.1,fun e=>hc.2 e.symm⟩]
     refine gg_ ?_
     have S:=S.drop b8
     refine S.lit (e:=3) (cs:=[.int .i64 p.nx,.int .i64 p.el]) (by kernel_rfl) fun b9 w9 S=>?_
     obtain ⟨S,hs,hb9⟩:=S.litNew b9 (sz:=1) (R:=z6) (l:=[p.nx,p.el]) (yn (c:=[.int .i64 p.nx]) rfl rfl (yp rfl rfl)) (by decide)
     refine S.lit (e:=50) (cs:=[.slice (some ⟨b9,0,none⟩) 2 2]) (by kernel_rfl) fun b10 w10 S=>?_
     refine S.ap (v:=vr) (m':=1) (Sl.blk (S.blk b10)) (fun v4 w11 S=>?_) (by omega)
     refine hK15 _ _ ⟨v4,s.or (Go.Sh.one b9 [.int .i64 p.nx,.int .i64 p.el] 3),_,rfl,ha.or' hb9,?_,(S.drop b10).reGh⟩
     rw [htk,hnp]
     exact (hR.mono fun _ _ h=>RowC.up h).snoc rfl ⟨_,rfl,(show SlG 1 (Go.Sh.one b9 [.int .i64 p.nx,.int .i64 p.el] 3) z6 _ _ from hs).cells,show (2 : Nat)≤maxLen by decide⟩
    ·have hnp : y8 p = [p.nx]:=by
      simp only [Bool.and_eq_false_iff,decide_eq_false_iff_not] at hc
      rw [y8,if_neg h14,if_neg (by rintro ⟨h1,h2⟩;rcases hc with hc|hc;exact hc h1;exact hc fun e=>h2 e.symm)]
     refine gg_ ?_
     have S:=S.drop b8
     refine S.lit (e:=3) (cs:=[.int .i64 p.nx]) (by kernel_rfl) fun b9 w9 S=>?_
     obtain ⟨S,hs,hb9⟩:=S.litNew b9 (sz:=1) (R:=z6) (l:=[p.nx]) (yp rfl rfl) (by decide)
     refine S.lit (e:=50) (cs:=[.slice (some ⟨b9,0,none⟩) 1 1]) (by kernel_rfl) fun b10 w10 S=>?_
     refine S.ap (v:=vr) (m':=1) (Sl.blk (S.blk b10)) (fun v4 w11 S=>?_) (by omega)
     refine hK15 _ _ ⟨v4,s.or (Go.Sh.one b9 [.int .i64 p.nx] 3),_,rfl,ha.or' hb9,?_,(S.drop b10).reGh⟩
     rw [htk,hnp]
     exact (hR.mono fun _ _ h=>RowC.up h).snoc rfl ⟨_,rfl,hs.cells,show (1 : Nat)≤maxLen by decide⟩
  rintro x w9 ⟨vq,s',xs',rfl,ha',hR',S⟩ d
  simp only [List.getD_cons_zero]
  refine gp_ ?_
  exact hK11 (i+1,vq,s',xs') _ ⟨hlt2,ha',hR',S⟩ (by show g.pts.length - (i+1)<g.pts.length - i;omega)
 have hie : i=g.pts.length:=by omega
 subst hie
 rw [← zR,List.take_length] at hR
 rw [← zR] at S
 obtain ⟨s2,T,hs,_,hab⟩:=S.doneRow hR (by decide) rfl
 refine h _ (s.or s2) _ T.ext (StX.newOf (q:=s.or s2) T.reGh (ha.or' fun b o ho=>(hab b o ho).resolve_right id)) fun _=>⟨hlt,?_⟩
 rw [hg]
 exact ⟨hs.up' inferInstance fun _ _ h=>RowC.up h,by rw [zR];exact Nat.le_trans hp24 (by decide)⟩
theorem agS {m : List Bool} {q : Int} (h : 0≤q) : (bls m).set (0+q.toNat) (.bool true)=bls (xw m q):=by
 rw [Nat.zero_add,bls,bls,xw,List.map_set]
theorem ahG {m : List Bool} {q : Int} (h : q.toNat<m.length) : (bls m)[0+q.toNat]? = some (.bool (mk' m q)):=by
 rw [Nat.zero_add,bls,List.getElem?_map,mk',List.getD_eq_getElem?_getD,List.getElem?_eq_getElem h];rfl
theorem agT {k : Nat} : List.replicate k (Value.bool false)=bls (List.replicate k false):=by simp [bls]
end Go.Proofs
end
section
namespace Go.Proofs
open Go.Sh Go.RowKit
set_option maxRecDepth 100000
set_option linter.unusedSimpArgs false
set_option linter.unusedVariables false
def aiz (n : zD) : Prop:=∀ l ∈ n,l.length≤2
theorem Yl {l : List (Int × Int)} {p : Int × Int} : kD (l ++ [p])=kD l ++ [.int .i64 p.1,.int .i64 p.2]:=by rw [aaU];rfl
end Go.Proofs
end
section
namespace Go.Sh
end Go.Sh
namespace Go.Proofs
open Go.Sh Go.RowKit
set_option maxRecDepth 100000
set_option linter.unusedSimpArgs false
set_option linter.unusedVariables false
end Go.Proofs
end
section
namespace Go.Proofs
open Go.Sh Go.RowKit
set_option maxRecDepth 100000
set_option linter.unusedSimpArgs false
set_option linter.unusedVariables false
end Go.Proofs
end
section
namespace Go.Proofs
open Go.Sh Go.RowKit
set_option maxRecDepth 100000
set_option linter.unusedSimpArgs false
set_option linter.unusedVariables false
def netU (u : UnD) (n : Int) : zD:=match u.fs[n.toNat]? with|some g=>ze g|none=>[]
noncomputable def okQ (u : UnD) (n q : Int) : Bool:=!(decide (fnE u n≠0) || !decide (isN (netU u n) q))
theorem agU {u : UnD} {n : Int} (h : fnE u n≠0) : fnE u n=2:=by
 rw [fnE] at h ⊢
 split
 ·rfl
 ·rename_i hc;rw [if_neg hc] at h;exact absurd rfl h
structure ahH (n : zD) : Prop where
 ok : kH n
 nd : ∀ q,(nxt n q).Nodup
 nar : aiz n
 pos : 0<n.length
 few : n.length≤1024
theorem vd {u : UnD} {n : Int} (h : fnE u n=0) : ∃ hlt : n.toNat<u.fs.length,netU u n=ze u.fs[n.toNat]∧ahH (netU u n):=by
 obtain ⟨hM,hn0,hlt⟩:=Js h
 have e : netU u n=ze u.fs[n.toNat]:=by rw [netU,List.getElem?_eq_getElem hlt]
 refine ⟨hlt,e,?_⟩
 rw [e]
 obtain ⟨h1,h2⟩:=afq hM hlt
 exact ⟨agP hM (List.getElem_mem hlt),fun q=>adm,fun l hl=>by obtain ⟨p,_,rfl⟩:=List.mem_map.1 hl;exact aep,h1,h2⟩
end Go.Proofs
end
section
namespace Go.Proofs
open Go.Sh
set_option maxRecDepth 100000
abbrev Tryz.xG : FuncId:=14
instance {x0_0 : Value} {x0_1 : Value} {x0_2 : Value} {x0_3 : Value} {x0_4 : Value} {x0_5 : Value} {x0_6 : Value} : PStep Tryz.prog (Instr.build 68 #[(0,.agg #[x0_0,x0_1,x0_2,x0_3,x0_4,x0_5,x0_6])]) (.agg #[x0_0,x0_1,x0_2,x0_3,x0_4,x0_5,x0_6,(.slice none 0 0)]):=.of fun _ k=>zu (by kernel_rfl) k
instance : zy Tryz.prog 68 0 0:=⟨by kernel_rfl⟩
instance : zy Tryz.prog 68 1 7:=⟨by kernel_rfl⟩
instance : Ld1 Tryz.prog 66:=⟨by kernel_rfl⟩
instance : SzT Tryz.prog 66 1:=⟨by kernel_rfl⟩
instance : SlT Tryz.prog 66 50 1:=⟨by kernel_rfl⟩
instance : ApT Tryz.prog 66 50 1 24:=⟨by kernel_rfl⟩
abbrev Tryz.yo : FuncId:=28
abbrev Tryz.kI : FuncId:=40
abbrev Tryz.yX : FuncId:=29
instance : ApT Tryz.prog 90 89 4 48:=⟨by kernel_rfl⟩
abbrev Tryz.yY : FuncId:=23
instance : ZrT Tryz.prog 4 [(.bool false)]:=⟨by kernel_rfl⟩
abbrev Tryz.Xj : FuncId:=42
instance : Ld1 Tryz.prog 57:=⟨by kernel_rfl⟩
instance : SzT Tryz.prog 57 1:=⟨by kernel_rfl⟩
abbrev Tryz.yZ : FuncId:=21
abbrev Tryz.xN : FuncId:=15
instance : Ld1 Tryz.prog 60:=⟨by kernel_rfl⟩
instance : SzT Tryz.prog 60 1:=⟨by kernel_rfl⟩
instance : SlT Tryz.prog 60 62 1:=⟨by kernel_rfl⟩
instance : ApT Tryz.prog 60 62 1 24:=⟨by kernel_rfl⟩
instance : ZrT Tryz.prog 62 [(.slice none 0 0)]:=⟨by kernel_rfl⟩
instance : ZrT Tryz.prog 60 [(.slice none 0 0)]:=⟨by kernel_rfl⟩
instance : ApT Tryz.prog 62 4 1 1:=⟨by kernel_rfl⟩
instance : Ld1 Tryz.prog 99:=⟨by kernel_rfl⟩
instance : SzT Tryz.prog 99 1:=⟨by kernel_rfl⟩
instance : SlT Tryz.prog 99 101 2:=⟨by kernel_rfl⟩
instance : LdN Tryz.prog 101 2:=⟨by kernel_rfl⟩
instance : SzT Tryz.prog 101 2:=⟨by kernel_rfl⟩
instance : ZrT Tryz.prog 99 [(.slice none 0 0)]:=⟨by kernel_rfl⟩
instance : Ld1 Tryz.prog 102:=⟨by kernel_rfl⟩
instance : SzT Tryz.prog 102 1:=⟨by kernel_rfl⟩
instance : ZrT Tryz.prog 102 [.nilFunc]:=⟨by kernel_rfl⟩
instance : ZrT Tryz.prog 101 [(.int .i64 0),(.int .i64 0)]:=⟨by kernel_rfl⟩
instance : zy Tryz.prog 101 0 0:=⟨by kernel_rfl⟩
instance : zy Tryz.prog 101 1 1:=⟨by kernel_rfl⟩
abbrev Tryz.zx : FuncId:=37
instance : ApT Tryz.prog 99 101 2 16:=⟨by kernel_rfl⟩
abbrev Tryz.Xk : FuncId:=38
abbrev Tryz.jD : FuncId:=6
instance : LdN Tryz.prog 31 2:=⟨by kernel_rfl⟩
instance : SzT Tryz.prog 31 2:=⟨by kernel_rfl⟩
instance : ZrT Tryz.prog 31 [(.int .i64 0),(.slice none 0 0)]:=⟨by kernel_rfl⟩
instance : zy Tryz.prog 31 1 1:=⟨by kernel_rfl⟩
instance : Ld1 Tryz.prog 29:=⟨by kernel_rfl⟩
instance : SlT Tryz.prog 29 65 1:=⟨by kernel_rfl⟩
instance : Ld1 Tryz.prog 65:=⟨by kernel_rfl⟩
instance : SzT Tryz.prog 65 1:=⟨by kernel_rfl⟩
instance : SlT Tryz.prog 26 31 2:=⟨by kernel_rfl⟩
instance : ApT Tryz.prog 26 31 2 32:=⟨by kernel_rfl⟩
abbrev Tryz.ZE : FuncId:=11
abbrev Tryz.aab : FuncId:=30
abbrev Tryz.ZF : FuncId:=12
abbrev Tryz.Xl : FuncId:=10
abbrev Tryz.Ym : FuncId:=13
instance : ZrT Tryz.prog 57 [(.pointer none)]:=⟨by kernel_rfl⟩
abbrev Tryz.Xm : FuncId:=33
abbrev Tryz.xS : FuncId:=7
abbrev Tryz.Zt : FuncId:=18
instance : zy Tryz.prog 31 0 0:=⟨by kernel_rfl⟩
abbrev Tryz.Zu : FuncId:=20
abbrev Tryz.jZ : FuncId:=3
abbrev Tryz.vP : FuncId:=4
abbrev Tryz.xe : FuncId:=5
instance : ZrT Tryz.prog 25 [(.slice none 0 0),(.slice none 0 0),(.int .i64 0)]:=⟨by kernel_rfl⟩
abbrev Tryz.vQ : FuncId:=9
instance : ZrT Tryz.prog 80 [(.int .i64 0),(.slice none 0 0)]:=⟨by kernel_rfl⟩
instance : ApT Tryz.prog 45 9 1 16:=⟨by kernel_rfl⟩
instance : ZrT Tryz.prog 9 [(.string ByteArray.empty)]:=⟨by kernel_rfl⟩
abbrev Tryz.yS : FuncId:=25
abbrev Tryz.x6 : FuncId:=26
abbrev Tryz.zk : FuncId:=27
abbrev Tryz.Yn : FuncId:=16
instance : ApT Tryz.prog 29 65 1 8:=⟨by kernel_rfl⟩
instance : ZrT Tryz.prog 65 [(.int .u64 0)]:=⟨by kernel_rfl⟩
abbrev Tryz.kJ : FuncId:=19
abbrev Tryz.z8 : FuncId:=45
abbrev Tryz.yf : FuncId:=59
abbrev Tryz.y5 : FuncId:=35
abbrev Tryz.zX : FuncId:=17
abbrev Tryz.yb : FuncId:=39
abbrev Tryz.vg : FuncId:=56
abbrev Tryz.ZG : FuncId:=44
instance : ZrT Tryz.prog 32 [(.int .i64 0)]:=⟨by kernel_rfl⟩
abbrev Tryz.YC : FuncId:=57
abbrev Tryz.ZH : FuncId:=54
abbrev Tryz.ZI : FuncId:=43
abbrev Tryz.YD : FuncId:=55
abbrev Tryz.Yo : FuncId:=8
abbrev Tryz.vR : FuncId:=24
abbrev Tryz.yy : FuncId:=77
abbrev Tryz.yF : FuncId:=58
instance : Ld1 Tryz.prog 5:=⟨by kernel_rfl⟩
end Go.Proofs
end
