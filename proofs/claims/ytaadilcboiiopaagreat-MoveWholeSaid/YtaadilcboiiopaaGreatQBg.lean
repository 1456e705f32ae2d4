/-
  Openings: what arguments that are types, programs, lists of numbers tell.
  loanwordlaw17.MoveWhole: whatever the input, the law returns true and the input reads as it did.
-/
import Derived.Test.YtaadilcboiiopaaGreatQBc
import Derived.Test.YtaadilcboiiopaaGreatRows
import Derived.WalkKit
import Derived.Test.YtaadilcboiiopaaGreatQBf
set_option maxRecDepth 100000
set_option maxHeartbeats 8000000
set_option linter.unusedVariables false
set_option linter.unusedSimpArgs false
namespace Go.Proofs.YtaadilcboiiopaaGreat.openG
open Go.Sh Go.ChangeShapes Go.WideShapes Go.ChangeAt Go.RowKit
section
theorem own:ownKnob Tryz.prog.godebug=none:=by kernel_rfl
theorem agj:laidOutB Tryz.prog=true:=by kernel_rfl
theorem ahJ:mapsRowed Tryz.prog=true:=by kernel_rfl
theorem ahZ:((List.range Tryz.prog.types.size).all λt=>match Tryz.prog.underlying t with|some (.slice e)=>decide (0<Tryz.prog.cellsOf e)|_=>true)=true:=by kernel_rfl
theorem qL:Tryz.prog.underlying 3=some (.int .i64):=by kernel_rfl
theorem ah0:Tryz.prog.underlying 2=some (.int .i64):=by kernel_rfl
theorem ah1:Tryz.prog.underlying 76=some (.int .i64):=by kernel_rfl
theorem adM:Tryz.prog.underlying 4=some .bool:=by kernel_rfl
theorem ah2:Tryz.prog.underlying 9=some .string:=by kernel_rfl
theorem uTk:Tryz.prog.underlying 110=some (.int .u8):=by kernel_rfl
theorem uOk:Tryz.prog.underlying 56=some (.int .u8):=by kernel_rfl
theorem uPo:Tryz.prog.underlying 92=some (.int .u8):=by kernel_rfl
theorem sTy:Tryz.prog.underlying 70=some (.slice 112)∧Tryz.prog.cellsOf 112=5:=⟨by kernel_rfl,by kernel_rfl⟩
theorem sFd:Tryz.prog.underlying 66=some (.slice 161)∧Tryz.prog.cellsOf 161=6:=⟨by kernel_rfl,by kernel_rfl⟩
theorem sSt:Tryz.prog.underlying 22=some (.slice 68)∧Tryz.prog.cellsOf 68=2:=⟨by kernel_rfl,by kernel_rfl⟩
theorem sGr:Tryz.prog.underlying 23=some (.slice 74)∧Tryz.prog.cellsOf 74=7:=⟨by kernel_rfl,by kernel_rfl⟩
theorem sOu:Tryz.prog.underlying 69=some (.slice 208)∧Tryz.prog.cellsOf 208=2:=⟨by kernel_rfl,by kernel_rfl⟩
theorem sSs:Tryz.prog.underlying 71=some (.slice 9)∧Tryz.prog.cellsOf 9=1:=⟨by kernel_rfl,by kernel_rfl⟩
theorem sPt:Tryz.prog.underlying 72=some (.slice 94)∧Tryz.prog.cellsOf 94=21:=⟨by kernel_rfl,by kernel_rfl⟩
theorem sOp:Tryz.prog.underlying 53=some (.slice 61)∧Tryz.prog.cellsOf 61=4:=⟨by kernel_rfl,by kernel_rfl⟩
theorem sSp:Tryz.prog.underlying 57=some (.slice 76)∧Tryz.prog.cellsOf 76=1:=⟨by kernel_rfl,by kernel_rfl⟩
theorem sIn:Tryz.prog.underlying 26=some (.slice 3)∧Tryz.prog.cellsOf 3=1:=⟨by kernel_rfl,by kernel_rfl⟩
theorem aTy:∃fs,Tryz.prog.underlying 112=some (.struct fs)∧fs.toList.map (·.type)=[110,4,3,3,70]:=xA (by kernel_rfl)
theorem aFd:∃fs,Tryz.prog.underlying 161=some (.struct fs)∧fs.toList.map (·.type)=[9,112]:=xA (by kernel_rfl)
theorem aSt:∃fs,Tryz.prog.underlying 68=some (.struct fs)∧fs.toList.map (·.type)=[9,66]:=xA (by kernel_rfl)
theorem aPl:∃fs,Tryz.prog.underlying 59=some (.struct fs)∧fs.toList.map (·.type)=[3,57]:=xA (by kernel_rfl)
theorem aOp:∃fs,Tryz.prog.underlying 61=some (.struct fs)∧fs.toList.map (·.type)=[56,2,59]:=xA (by kernel_rfl)
theorem aPt:∃fs,Tryz.prog.underlying 94=some (.struct fs)∧fs.toList.map (·.type)=[92,59,61,61,53,9,59,4,3,3,3,3,3]:=xA (by kernel_rfl)
theorem aOu:∃fs,Tryz.prog.underlying 208=some (.struct fs)∧fs.toList.map (·.type)=[3,3]:=xA (by kernel_rfl)
theorem aGr:∃fs,Tryz.prog.underlying 74=some (.struct fs)∧fs.toList.map (·.type)=[9,3,69,3,70,71,72]:=xA (by kernel_rfl)
theorem aUn:∃fs,Tryz.prog.underlying 25=some (.struct fs)∧fs.toList.map (·.type)=[22,23,3]:=xA (by kernel_rfl)
theorem agk:abv Tryz.prog [26,3]=true:=by kernel_rfl
theorem agl:abv Tryz.prog [25,22,68,66,161,9,112,110,4,3,70,23,74,69,208,71,72,94,92,
 59,57,76,61,56,2,53]=true:=by kernel_rfl
theorem jw{α:Type}{f:α→Dat}{G:α→Prop}{d:Dat}{T e:TypeId}{n:Nat}(u:Tryz.prog.underlying T=some (.slice e)∧Tryz.prog.cellsOf e=n)(h:d.ok Tryz.prog T)(hf:∀x:Dat,SizeOf.sizeOf x<SizeOf.sizeOf d→x.ok Tryz.prog e→∃t,x=f t∧G t):
  ∃l:List α,d=.sl n (l.map f)∧l.length≤maxLen∧∀t∈l,G t:=by
 obtain⟨es,rfl,hl,hk⟩:=agH u.1 h
 obtain⟨l,rfl,hg⟩:=abx (f:=f) (G:=G) es λx hx=>hf x (by
  have:=List.sizeOf_lt_of_mem hx
  simp only[Dat.sl.sizeOf_spec];omega) (hk x hx)
 exact⟨l,by rw[u.2],by simpa using hl,hg⟩
theorem ahK:∀(n:Nat)(d:Dat),SizeOf.sizeOf d≤n→d.ok Tryz.prog 112→∃t:TyD,d=t.dat:=by
 intro n
 induction n with
 |zero=>intro d h _;cases d<;>simp at h
 |succ n ih=>
  intro d hs h
  obtain⟨ds,rfl,e0⟩:=kW aTy h
  obtain⟨d0,ds,rfl,h0,e1⟩:=zp e0
  obtain⟨d1,ds,rfl,h1,e2⟩:=zp e1
  obtain⟨d2,ds,rfl,h2,e3⟩:=zp e2
  obtain⟨d3,ds,rfl,h3,e4⟩:=zp e3
  obtain⟨d4,ds,rfl,h4,e5⟩:=zp e4
  obtain rfl:=kX e5
  obtain⟨k,rfl,_⟩:=yc uTk h0
  obtain⟨m,rfl⟩:=abw adM h1
  obtain⟨re,rfl,_⟩:=yc qL h2
  obtain⟨st,rfl,_⟩:=yc qL h3
  obtain⟨l,rfl,_,_⟩:=jw (f:=TyD.dat) (G:=λ_=>True) sTy h4 λx hx hk=>by
   obtain⟨t,ht⟩:=ih x (by
    simp only[Dat.agg.sizeOf_spec,List.cons.sizeOf_spec]at hs
    omega) hk
   exact⟨t,ht,trivial⟩
  exact⟨.mk k m re st l,by rw[TyD.dat,TyD.dats_map]⟩
theorem aeU{d:Dat}(h:d.ok Tryz.prog 112):∃t:TyD,d=t.dat∧True:=by
 obtain⟨t,ht⟩:=ahK _ d (Nat.le_refl _) h
 exact⟨t,ht,trivial⟩
theorem Qj{d:Dat}(h:d.ok Tryz.prog 9):∃s:ByteArray,d=.str s∧True:=by
 obtain⟨s,hs,_⟩:=af1 ah2 h
 exact⟨s,hs,trivial⟩
theorem agm{n:Int}(h:(Lit.int .i64 n).wf=true):YX n:=by have:=aec h;exact⟨this.1,by omega⟩
theorem ahh{d:Dat}(h:d.ok Tryz.prog 76):∃n:Int,d=Dat.int .i64 n∧YX n:=by
 obtain⟨n,hn,hw⟩:=yc ah1 h
 exact⟨n,hn,agm hw⟩
theorem ahL{d:Dat}(h:d.ok Tryz.prog 161):∃f:ByteArray×TyD,d=abt f∧True:=by
 obtain⟨ds,rfl,e0⟩:=kW aFd h
 obtain⟨d0,ds,rfl,h0,e1⟩:=zp e0
 obtain⟨d1,ds,rfl,h1,e2⟩:=zp e1
 obtain rfl:=kX e2
 obtain⟨s,rfl,_⟩:=Qj h0
 obtain⟨t,rfl,_⟩:=aeU h1
 exact⟨(s,t),rfl,trivial⟩
theorem ahM{d:Dat}(h:d.ok Tryz.prog 68):∃s:StD,d=s.dat∧True:=by
 obtain⟨ds,rfl,e0⟩:=kW aSt h
 obtain⟨d0,ds,rfl,h0,e1⟩:=zp e0
 obtain⟨d1,ds,rfl,h1,e2⟩:=zp e1
 obtain rfl:=kX e2
 obtain⟨s,rfl,_⟩:=Qj h0
 obtain⟨l,rfl,_,_⟩:=jw (f:=abt) (G:=λ_=>True) sFd h1 λx _ hk=>ahL hk
 exact⟨⟨s,l⟩,rfl,trivial⟩
theorem adN{d:Dat}(h:d.ok Tryz.prog 59):∃p:PlD,d=p.dat∧p.ok:=by
 obtain⟨ds,rfl,e0⟩:=kW aPl h
 obtain⟨d0,ds,rfl,h0,e1⟩:=zp e0
 obtain⟨d1,ds,rfl,h1,e2⟩:=zp e1
 obtain rfl:=kX e2
 obtain⟨n,rfl,_⟩:=yc qL h0
 obtain⟨l,rfl,hl,hg⟩:=jw (f:=Dat.int .i64) (G:=YX) sSp h1 λx _ hk=>ahh hk
 exact⟨⟨n,l⟩,rfl,hl,hg⟩
theorem adO{d:Dat}(h:d.ok Tryz.prog 61):∃o:OpD,d=o.dat∧o.ok:=by
 obtain⟨ds,rfl,e0⟩:=kW aOp h
 obtain⟨d0,ds,rfl,h0,e1⟩:=zp e0
 obtain⟨d1,ds,rfl,h1,e2⟩:=zp e1
 obtain⟨d2,ds,rfl,h2,e3⟩:=zp e2
 obtain rfl:=kX e3
 obtain⟨k,rfl,_⟩:=yc uOk h0
 obtain⟨n,rfl,_⟩:=yc ah0 h1
 obtain⟨p,rfl,hp⟩:=adN h2
 exact⟨⟨k,n,p⟩,rfl,hp⟩
theorem ahN{d:Dat}(h:d.ok Tryz.prog 94):∃p:PtD,d=p.dat∧p.ok:=by
 obtain⟨ds,rfl,e0⟩:=kW aPt h
 obtain⟨d0,ds,rfl,h0,e1⟩:=zp e0
 obtain⟨d1,ds,rfl,h1,e2⟩:=zp e1
 obtain⟨d2,ds,rfl,h2,e3⟩:=zp e2
 obtain⟨d3,ds,rfl,h3,e4⟩:=zp e3
 obtain⟨d4,ds,rfl,h4,e5⟩:=zp e4
 obtain⟨d5,ds,rfl,h5,e6⟩:=zp e5
 obtain⟨d6,ds,rfl,h6,e7⟩:=zp e6
 obtain⟨d7,ds,rfl,h7,e8⟩:=zp e7
 obtain⟨d8,ds,rfl,h8,e9⟩:=zp e8
 obtain⟨d9,ds,rfl,h9,e10⟩:=zp e9
 obtain⟨d10,ds,rfl,h10,e11⟩:=zp e10
 obtain⟨d11,ds,rfl,h11,e12⟩:=zp e11
 obtain⟨d12,ds,rfl,h12,e13⟩:=zp e12
 obtain rfl:=kX e13
 obtain⟨op,rfl,_⟩:=yc uPo h0
 obtain⟨to,rfl,g1⟩:=adN h1
 obtain⟨a,rfl,g2⟩:=adO h2
 obtain⟨b,rfl,g3⟩:=adO h3
 obtain⟨l,rfl,hl,g4⟩:=jw (f:=OpD.dat) (G:=OpD.ok) sOp h4 λx _ hk=>adO hk
 obtain⟨s,rfl,_⟩:=Qj h5
 obtain⟨fr,rfl,g6⟩:=adN h6
 obtain⟨mu,rfl⟩:=abw adM h7
 obtain⟨fn,rfl,_⟩:=yc qL h8
 obtain⟨st,rfl,_⟩:=yc qL h9
 obtain⟨nx,rfl,_⟩:=yc qL h10
 obtain⟨el,rfl,_⟩:=yc qL h11
 obtain⟨tx,rfl,_⟩:=yc qL h12
 exact⟨⟨op,to,a,b,l,s,fr,mu,fn,st,nx,el,tx⟩,rfl,g1,g2,g3,⟨hl,g4⟩,g6⟩
theorem ahO{d:Dat}(h:d.ok Tryz.prog 208):∃x:Int×Int,d=adn x∧True:=by
 obtain⟨ds,rfl,e0⟩:=kW aOu h
 obtain⟨d0,ds,rfl,h0,e1⟩:=zp e0
 obtain⟨d1,ds,rfl,h1,e2⟩:=zp e1
 obtain rfl:=kX e2
 obtain⟨a,rfl,_⟩:=yc qL h0
 obtain⟨b,rfl,_⟩:=yc qL h1
 exact⟨(a,b),rfl,trivial⟩
theorem ahP{d:Dat}(h:d.ok Tryz.prog 74):∃g:GrD,d=g.dat∧g.ok:=by
 obtain⟨ds,rfl,e0⟩:=kW aGr h
 obtain⟨d0,ds,rfl,h0,e1⟩:=zp e0
 obtain⟨d1,ds,rfl,h1,e2⟩:=zp e1
 obtain⟨d2,ds,rfl,h2,e3⟩:=zp e2
 obtain⟨d3,ds,rfl,h3,e4⟩:=zp e3
 obtain⟨d4,ds,rfl,h4,e5⟩:=zp e4
 obtain⟨d5,ds,rfl,h5,e6⟩:=zp e5
 obtain⟨d6,ds,rfl,h6,e7⟩:=zp e6
 obtain rfl:=kX e7
 obtain⟨s,rfl,_⟩:=Qj h0
 obtain⟨lv,rfl,_⟩:=yc qL h1
 obtain⟨lo,rfl,g2,_⟩:=jw (f:=adn) (G:=λ_=>True) sOu h2 λx _ hk=>ahO hk
 obtain⟨pn,rfl,_⟩:=yc qL h3
 obtain⟨lt,rfl,g4,_⟩:=jw (f:=TyD.dat) (G:=λ_=>True) sTy h4 λx _ hk=>aeU hk
 obtain⟨ln,rfl,g5,_⟩:=jw (f:=Dat.str) (G:=λ_=>True) sSs h5 λx _ hk=>Qj hk
 obtain⟨lp,rfl,g6,hp⟩:=jw (f:=PtD.dat) (G:=PtD.ok) sPt h6 λx _ hk=>ahN hk
 exact⟨⟨s,lv,lo,pn,lt,ln,lp⟩,rfl,g2,g4,g5,g6,hp⟩
theorem ahQ{d:Dat}(h:d.ok Tryz.prog 25):∃u:UnD,d=u.dat∧u.ok:=by
 obtain⟨ds,rfl,e0⟩:=kW aUn h
 obtain⟨d0,ds,rfl,h0,e1⟩:=zp e0
 obtain⟨d1,ds,rfl,h1,e2⟩:=zp e1
 obtain⟨d2,ds,rfl,h2,e3⟩:=zp e2
 obtain rfl:=kX e3
 obtain⟨ss,rfl,g0,_⟩:=jw (f:=StD.dat) (G:=λ_=>True) sSt h0 λx _ hk=>ahM hk
 obtain⟨fs,rfl,g1,hg⟩:=jw (f:=GrD.dat) (G:=GrD.ok) sGr h1 λx _ hk=>ahP hk
 obtain⟨mn,rfl,_⟩:=yc qL h2
 exact⟨⟨ss,fs,mn⟩,rfl,g0,g1,hg⟩
section
variable {H:Type} {enc:TypeId×Value→H} {W:World} {base:Nat} {v:Value} {d:DataW H} {p:List MemPlace}
theorem agn(hv:Value.okWide Tryz.prog W .any base 25 v)(h:DataW.Trod enc Tryz.prog W 0 (λ_=>true) true 25 v d p):∃u:UnD,UnG (all W) v u:=by
 obtain⟨fs,hu,_⟩:=aUn
 obtain⟨cs,rfl,hsz⟩:=okWide_struct hu hv
 obtain⟨fuel,hf⟩:=h
 obtain⟨d,hr,hd⟩:=jY agl fuel 25 _ _ (by simp) hf
 obtain⟨u,rfl,hk⟩:=ahQ hd
 exact⟨u,by simpa [Value.cells]using aef hr hk⟩
theorem acf(hv:Value.okWide Tryz.prog W .any base 3 v)(h:DataW.Trod enc Tryz.prog W 0 (λ_=>true) true 3 v d p):∃n:Int,v=.int .i64 n∧-9223372036854775808≤n∧n≤9223372036854775807:=by
 obtain⟨n,rfl,_,_,hw⟩:=open_int qL hv h
 exact⟨n,rfl,aec hw⟩
theorem aaF(hv:Value.okWide Tryz.prog W .any base 26 v)(h:DataW.Trod enc Tryz.prog W 0 (λ_=>true) true 26 v d p):
  ∃q cap l,v=.slice q (List.length l) cap∧(q=none→cap=0)∧l.length≤cap∧(Ob (all W) λw=>Sl w q (ints l)):=by
 obtain⟨a0,len,cap,rfl⟩:=Go.WideShapes.okWide_slice sIn.1 hv
 obtain⟨fuel,hf⟩:=h
 obtain⟨d,hr,hd⟩:=jY agk fuel 26 _ _ (by simp) hf
 obtain⟨l,rfl,_,_⟩:=jw (f:=Dat.int .i64) (G:=λ_=>True) sIn hd λx _ hk=>by
  obtain⟨n,hn,_⟩:=yc qL hk
  exact⟨n,hn,trivial⟩
 obtain⟨q,cap',hq,h1,h2,h3⟩:=ack (k:=.i64) (f:=id) (l:=l) hr
 have hq:[Value.slice a0 len cap]=[.slice q l.length cap']:=hq
 injection hq with hq
 exact⟨q,cap',l,hq,h1,h2,h3⟩
end
noncomputable def Qk(os:Os):World:=World.holding Tryz.prog os ⟨#[],#[],[]⟩
end
end Go.Proofs.YtaadilcboiiopaaGreat.openG
namespace Go.Proofs.YtaadilcboiiopaaGreat.moveWhole
open Go.Sh Go.ChangeShapes Go.WideShapes Go.ChangeAt Go.RowKit openG
theorem afF(H:Type)(enc:TypeId×Value→H)(W:World)(base:Nat)(args:Array Value)(ds gs:List (DataW H))(before:List MemPlace)
  (hval:∀(j:Nat) t v,Tryz.f4.params[j]? = some t→args[j]? = some v→Value.okWide Tryz.prog W .any base t v)
  (hW:DataW.Whole enc Tryz.prog Tryz.f4.params.toList Rows.moveWholeSpec.vars false W args.toList ds gs before):
  Calls Tryz.prog 4 args W λe W'=>∃v,e=.returned v∧Rows.moveWholeSpec.post enc Tryz.prog Tryz.f4 false true false false W args v W':=by
 have hW':=hW
 obtain⟨p,q,hA,hV,rfl,hfz,hnd⟩:=hW
 rw[show Tryz.f4.params.toList=[25,3,3,26,26]by kernel_rfl]at hA
 obtain⟨v0,vs0,d0,ds0,p0,q100,hargs,rfl,rfl,h0,r0⟩:=trodAll_cons hA
 obtain⟨v1,vs1,d1,ds1,p1,q101,rfl,rfl,rfl,h1,r1⟩:=trodAll_cons r0
 obtain⟨v2,vs2,d2,ds2,p2,q102,rfl,rfl,rfl,h2,r2⟩:=trodAll_cons r1
 obtain⟨v3,vs3,d3,ds3,p3,q103,rfl,rfl,rfl,h3,r3⟩:=trodAll_cons r2
 obtain⟨v4,vs4,d4,ds4,p4,q104,rfl,rfl,rfl,h4,r4⟩:=trodAll_cons r3
 obtain⟨rfl,rfl,rfl⟩:=trodAll_nil r4
 obtain rfl:args=#[v0,v1,v2,v3,v4]:=by cases args;simp_all
 obtain⟨rfl,rfl⟩:=trodVars_none hV
 obtain⟨u0,hu0⟩:=agn (hval 0 25 v0 (by kernel_rfl) rfl) h0
 obtain⟨n1,rfl,hi1⟩:=acf (hval 1 3 v1 (by kernel_rfl) rfl) h1
 obtain⟨n2,rfl,hi2⟩:=acf (hval 2 3 v2 (by kernel_rfl) rfl) h2
 obtain⟨q3,cap3,l3,rfl,hn3,hc3,hl3⟩:=aaF (hval 3 26 v3 (by kernel_rfl) rfl) h3
 obtain⟨q4,cap4,l4,rfl,hn4,hc4,hl4⟩:=aaF (hval 4 26 v4 (by kernel_rfl) rfl) h4
 refine Calls.mono (QG (K:=λv W'=>v=.bool true∧Ext W W') (XE W) hu0 (RowOf.sl qw hn3 hc3 hl3 (by decide) ⟨W,XE W⟩) (RowOf.sl qw hn4 hc4 hl4 (by decide) ⟨W,XE W⟩) λw' e=>⟨rfl,e⟩) ?_
 rintro e W' ⟨v,he,rfl,hE⟩
 exact⟨_,he,aea agj ahJ ahZ (by rw[show Tryz.f4.params.toList=[25,3,3,26,26]by kernel_rfl];decide) rfl (by kernel_rfl) adM hW' rfl hE⟩
def wit:Array Value:=#[.agg #[.slice none 0 0,.slice none 0 0,.int .i64 0],.int .i64 0,.int .i64 0,.slice none 0 0,.slice none 0 0]
theorem ahR(os:Os){H:Type}(enc:TypeId×Value→H):∃ds places,DataW.whole enc Tryz.prog ((Qk os).forCall (λ_ _=>0) ⟨#[],wit,[]⟩).memory Tryz.f4.params.toList Rows.moveWholeSpec.vars false wit.toList 8=some (ds,[],places):=
 ⟨[.agg [.nil,.nil,.lit (.int .i64 0)],.lit (.int .i64 0),.lit (.int .i64 0),.nil,.nil],[],by kernel_rfl⟩
theorem afG(os:Os):laidMet Tryz.prog Rows.moveWholeRow.laid ((Qk os).forCall (λ_ _=>0) ⟨#[],wit,[]⟩).memory:=
 laidMet_of_run' 8 (by kernel_rfl) (by kernel_rfl)
theorem ahi(os:Os)(started:os.Started)(H:Type)(enc:TypeId×Value→H)(F:Stop.Interp):
  ReturnsInHanded {} Tryz.checked os 4 .any ((OpenSpec.ofChange Rows.moveWholeSpec).preRow enc Tryz.prog Tryz.f4 Rows.moveWholeRow.domain false Rows.moveWholeRow.laid) (((OpenSpec.ofChange Rows.moveWholeSpec).at F).post enc Tryz.prog Tryz.f4 false true false false):=by
 obtain⟨ds,places,hx⟩:=ahR os enc
 refine returnsInHanded_of_row (C:=Tryz.checked) (s:=OpenSpec.ofChange Rows.moveWholeSpec) own started (by kernel_rfl) Tryz.func4
  (witness_row_at (enc:=enc) (C:=Tryz.checked) false (Qk os) wit rfl (by kernel_rfl) (by kernel_rfl) (by kernel_rfl)
   (OpenSpec.preRow_of_cond 8 hx (by kernel_rfl) (λk hk=>by cases hk) (by kernel_rfl) (afG os))) ?_
 intro W base args ds gs before hval hW _ _ _ hL _ _
 exact afF H enc W base args ds gs before hval hW
theorem ahj:joinedFacts Tryz.pinned.checked.prog 4 Tryz.f4 (OpenSpec.ofChange Rows.moveWholeSpec).bare Rows.moveWholeRow=true:=by
 unfold joinedFacts
 simp only[gba]
 refine⟨⟨⟨⟨⟨⟨⟨⟨⟨⟨⟨⟨⟨⟨⟨⟨⟨⟨⟨⟨⟨⟨⟨⟨⟨⟨⟨⟨⟨⟨⟨?_,?_⟩,?_⟩,?_⟩,?_⟩,?_⟩,?_⟩,?_⟩,?_⟩,?_⟩,?_⟩,?_⟩,?_⟩,?_⟩,?_⟩,?_⟩,?_⟩,?_⟩,?_⟩,?_⟩,?_⟩,?_⟩,?_⟩,?_⟩,?_⟩,?_⟩,?_⟩,?_⟩,?_⟩,?_⟩,?_⟩,?_⟩<;>decide +kernel
theorem said:Rows.MoveWholeSaid:=
 OpenClaim.holds_of_cond 4 Tryz.f4 rfl rfl rfl rfl rfl rfl rfl ⟨rfl,rfl,rfl,rfl,rfl⟩ rfl rfl rfl rfl rfl (by kernel_rfl) Tryz.func4 ahj
  (of_decide_eq_true (by kernel_rfl)) (by unfold Func.isWrapper;first|(rw[if_pos (by decide +kernel)];kernel_rfl)|(rw[if_neg (by decide +kernel)];exact⟨rfl,rfl⟩))
  (λos started H enc _ F=>by rw[OpenClaim.pre_eq_preRow];exact ahi os started H enc F)
end Go.Proofs.YtaadilcboiiopaaGreat.moveWhole
