/-
  Openings: what arguments that are types, programs, lists of numbers tell.
  loanwordlaw17.MoveDoes: whatever the input, the law returns true and the input reads as it did.
-/
import Derived.Test.YtaadilcboiiopaaGreatQCc
import Derived.Test.YtaadilcboiiopaaGreatRows
import Derived.WalkKit
import Derived.Test.YtaadilcboiiopaaGreatQCi
set_option maxRecDepth 100000
set_option maxHeartbeats 8000000
set_option linter.unusedVariables false
set_option linter.unusedSimpArgs false
namespace Go.Proofs.YtaadilcboiiopaaGreat.openG
open Go.Sh Go.ChangeShapes Go.WideShapes Go.ChangeAt Go.RowKit
section
theorem own:ownKnob Tryz.prog.godebug=none:=by kernel_rfl
theorem alR:laidOutB Tryz.prog=true:=by kernel_rfl
theorem ani:mapsRowed Tryz.prog=true:=by kernel_rfl
theorem anv:((List.range Tryz.prog.types.size).all λt=>match Tryz.prog.underlying t with|some (.slice e)=>decide (0<Tryz.prog.cellsOf e)|_=>true)=true:=by kernel_rfl
theorem vD:Tryz.prog.underlying 3=some (.int .i64):=by kernel_rfl
theorem anw:Tryz.prog.underlying 2=some (.int .i64):=by kernel_rfl
theorem anx:Tryz.prog.underlying 76=some (.int .i64):=by kernel_rfl
theorem ai6:Tryz.prog.underlying 4=some .bool:=by kernel_rfl
theorem anz:Tryz.prog.underlying 9=some .string:=by kernel_rfl
theorem uTk:Tryz.prog.underlying 110=some (.int .u8):=by kernel_rfl
theorem uOk:Tryz.prog.underlying 56=some (.int .u8):=by kernel_rfl
theorem uPo:Tryz.prog.underlying 92=some (.int .u8):=by kernel_rfl
theorem sTy:Tryz.prog.underlying 70=some (.slice 112)∧Tryz.prog.cellsOf 112=5:=⟨by kernel_rfl,by kernel_rfl⟩
theorem sFd:Tryz.prog.underlying 66=some (.slice 161)∧Tryz.prog.cellsOf 161=6:=⟨by kernel_rfl,by kernel_rfl⟩
theorem sSt:Tryz.prog.underlying 22=some (.slice 68)∧Tryz.prog.cellsOf 68=2:=⟨by kernel_rfl,by kernel_rfl⟩
theorem sGr:Tryz.prog.underlying 23=some (.slice 74)∧Tryz.prog.cellsOf 74=7:=⟨by kernel_rfl,by kernel_rfl⟩
theorem sOu:Tryz.prog.underlying 69=some (.slice 208)∧Tryz.prog.cellsOf 208=2:=⟨by kernel_rfl,by kernel_rfl⟩
theorem sSs:Tryz.prog.underlying 71=some (.slice 9)∧Tryz.prog.cellsOf 9=1:=⟨by kernel_rfl,by kernel_rfl⟩
theorem sPt:Tryz.prog.underlying 72=some (.slice 94)∧Tryz.prog.cellsOf 94=21:=⟨by kernel_rfl,by kernel_rfl⟩
theorem sOp:Tryz.prog.underlying 53=some (.slice 61)∧Tryz.prog.cellsOf 61=4:=⟨by kernel_rfl,by kernel_rfl⟩
theorem sSp:Tryz.prog.underlying 57=some (.slice 76)∧Tryz.prog.cellsOf 76=1:=⟨by kernel_rfl,by kernel_rfl⟩
theorem sIn:Tryz.prog.underlying 26=some (.slice 3)∧Tryz.prog.cellsOf 3=1:=⟨by kernel_rfl,by kernel_rfl⟩
theorem aTy:∃fs,Tryz.prog.underlying 112=some (.struct fs)∧fs.toList.map (·.type)=[110,4,3,3,70]:=kI (by kernel_rfl)
theorem aFd:∃fs,Tryz.prog.underlying 161=some (.struct fs)∧fs.toList.map (·.type)=[9,112]:=kI (by kernel_rfl)
theorem aSt:∃fs,Tryz.prog.underlying 68=some (.struct fs)∧fs.toList.map (·.type)=[9,66]:=kI (by kernel_rfl)
theorem aPl:∃fs,Tryz.prog.underlying 59=some (.struct fs)∧fs.toList.map (·.type)=[3,57]:=kI (by kernel_rfl)
theorem aOp:∃fs,Tryz.prog.underlying 61=some (.struct fs)∧fs.toList.map (·.type)=[56,2,59]:=kI (by kernel_rfl)
theorem aPt:∃fs,Tryz.prog.underlying 94=some (.struct fs)∧fs.toList.map (·.type)=[92,59,61,61,53,9,59,4,3,3,3,3,3]:=kI (by kernel_rfl)
theorem aOu:∃fs,Tryz.prog.underlying 208=some (.struct fs)∧fs.toList.map (·.type)=[3,3]:=kI (by kernel_rfl)
theorem aGr:∃fs,Tryz.prog.underlying 74=some (.struct fs)∧fs.toList.map (·.type)=[9,3,69,3,70,71,72]:=kI (by kernel_rfl)
theorem aUn:∃fs,Tryz.prog.underlying 25=some (.struct fs)∧fs.toList.map (·.type)=[22,23,3]:=kI (by kernel_rfl)
theorem alS:agy Tryz.prog [26,3]=true:=by kernel_rfl
theorem alT:agy Tryz.prog [25,22,68,66,161,9,112,110,4,3,70,23,74,69,208,71,72,94,92,
 59,57,76,61,56,2,53]=true:=by kernel_rfl
theorem ZG{α:Type}{f:α→Dat}{G:α→Prop}{d:Dat}{T e:TypeId}{n:Nat}(u:Tryz.prog.underlying T=some (.slice e)∧Tryz.prog.cellsOf e=n)(h:d.ok Tryz.prog T)(hf:∀x:Dat,SizeOf.sizeOf x<SizeOf.sizeOf d→x.ok Tryz.prog e→∃t,x=f t∧G t):
  ∃l:List α,d=.sl n (l.map f)∧l.length≤maxLen∧∀t∈l,G t:=by
 obtain⟨es,rfl,hl,hk⟩:=amd u.1 h
 obtain⟨l,rfl,hg⟩:=agA (f:=f) (G:=G) es λx hx=>hf x (by
  have:=List.sizeOf_lt_of_mem hx
  simp only[Dat.sl.sizeOf_spec];omega) (hk x hx)
 exact⟨l,by rw[u.2],by simpa using hl,hg⟩
theorem anj:∀(n:Nat)(d:Dat),SizeOf.sizeOf d≤n→d.ok Tryz.prog 112→∃t:TyD,d=t.dat:=by
 intro n
 induction n with
 |zero=>intro d h _;cases d<;>simp at h
 |succ n ih=>
  intro d hs h
  obtain⟨ds,rfl,e0⟩:=jE aTy h
  obtain⟨d0,ds,rfl,h0,e1⟩:=zC e0
  obtain⟨d1,ds,rfl,h1,e2⟩:=zC e1
  obtain⟨d2,ds,rfl,h2,e3⟩:=zC e2
  obtain⟨d3,ds,rfl,h3,e4⟩:=zC e3
  obtain⟨d4,ds,rfl,h4,e5⟩:=zC e4
  obtain rfl:=jF e5
  obtain⟨k,rfl,_⟩:=yI uTk h0
  obtain⟨m,rfl⟩:=agz ai6 h1
  obtain⟨re,rfl,_⟩:=yI vD h2
  obtain⟨st,rfl,_⟩:=yI vD h3
  obtain⟨l,rfl,_,_⟩:=ZG (f:=TyD.dat) (G:=λ_=>True) sTy h4 λx hx hk=>by
   obtain⟨t,ht⟩:=ih x (by
    simp only[Dat.agg.sizeOf_spec,List.cons.sizeOf_spec]at hs
    omega) hk
   exact⟨t,ht,trivial⟩
  exact⟨.mk k m re st l,by rw[TyD.dat,TyD.dats_map]⟩
theorem akb{d:Dat}(h:d.ok Tryz.prog 112):∃t:TyD,d=t.dat∧True:=by
 obtain⟨t,ht⟩:=anj _ d (Nat.le_refl _) h
 exact⟨t,ht,trivial⟩
theorem aaO{d:Dat}(h:d.ok Tryz.prog 9):∃s:ByteArray,d=.str s∧True:=by
 obtain⟨s,hs,_⟩:=alw anz h
 exact⟨s,hs,trivial⟩
theorem alV{n:Int}(h:(Lit.int .i64 n).wf=true):JN n:=by have:=ajt h;exact⟨this.1,by omega⟩
theorem amQ{d:Dat}(h:d.ok Tryz.prog 76):∃n:Int,d=Dat.int .i64 n∧JN n:=by
 obtain⟨n,hn,hw⟩:=yI anx h
 exact⟨n,hn,alV hw⟩
theorem ank{d:Dat}(h:d.ok Tryz.prog 161):∃f:ByteArray×TyD,d=agw f∧True:=by
 obtain⟨ds,rfl,e0⟩:=jE aFd h
 obtain⟨d0,ds,rfl,h0,e1⟩:=zC e0
 obtain⟨d1,ds,rfl,h1,e2⟩:=zC e1
 obtain rfl:=jF e2
 obtain⟨s,rfl,_⟩:=aaO h0
 obtain⟨t,rfl,_⟩:=akb h1
 exact⟨(s,t),rfl,trivial⟩
theorem anl{d:Dat}(h:d.ok Tryz.prog 68):∃s:StD,d=s.dat∧True:=by
 obtain⟨ds,rfl,e0⟩:=jE aSt h
 obtain⟨d0,ds,rfl,h0,e1⟩:=zC e0
 obtain⟨d1,ds,rfl,h1,e2⟩:=zC e1
 obtain rfl:=jF e2
 obtain⟨s,rfl,_⟩:=aaO h0
 obtain⟨l,rfl,_,_⟩:=ZG (f:=agw) (G:=λ_=>True) sFd h1 λx _ hk=>ank hk
 exact⟨⟨s,l⟩,rfl,trivial⟩
theorem ai7{d:Dat}(h:d.ok Tryz.prog 59):∃p:PlD,d=p.dat∧p.ok:=by
 obtain⟨ds,rfl,e0⟩:=jE aPl h
 obtain⟨d0,ds,rfl,h0,e1⟩:=zC e0
 obtain⟨d1,ds,rfl,h1,e2⟩:=zC e1
 obtain rfl:=jF e2
 obtain⟨n,rfl,_⟩:=yI vD h0
 obtain⟨l,rfl,hl,hg⟩:=ZG (f:=Dat.int .i64) (G:=JN) sSp h1 λx _ hk=>amQ hk
 exact⟨⟨n,l⟩,rfl,hl,hg⟩
theorem ai8{d:Dat}(h:d.ok Tryz.prog 61):∃o:OpD,d=o.dat∧o.ok:=by
 obtain⟨ds,rfl,e0⟩:=jE aOp h
 obtain⟨d0,ds,rfl,h0,e1⟩:=zC e0
 obtain⟨d1,ds,rfl,h1,e2⟩:=zC e1
 obtain⟨d2,ds,rfl,h2,e3⟩:=zC e2
 obtain rfl:=jF e3
 obtain⟨k,rfl,_⟩:=yI uOk h0
 obtain⟨n,rfl,_⟩:=yI anw h1
 obtain⟨p,rfl,hp⟩:=ai7 h2
 exact⟨⟨k,n,p⟩,rfl,hp⟩
theorem anm{d:Dat}(h:d.ok Tryz.prog 94):∃p:PtD,d=p.dat∧p.ok:=by
 obtain⟨ds,rfl,e0⟩:=jE aPt h
 obtain⟨d0,ds,rfl,h0,e1⟩:=zC e0
 obtain⟨d1,ds,rfl,h1,e2⟩:=zC e1
 obtain⟨d2,ds,rfl,h2,e3⟩:=zC e2
 obtain⟨d3,ds,rfl,h3,e4⟩:=zC e3
 obtain⟨d4,ds,rfl,h4,e5⟩:=zC e4
 obtain⟨d5,ds,rfl,h5,e6⟩:=zC e5
 obtain⟨d6,ds,rfl,h6,e7⟩:=zC e6
 obtain⟨d7,ds,rfl,h7,e8⟩:=zC e7
 obtain⟨d8,ds,rfl,h8,e9⟩:=zC e8
 obtain⟨d9,ds,rfl,h9,e10⟩:=zC e9
 obtain⟨d10,ds,rfl,h10,e11⟩:=zC e10
 obtain⟨d11,ds,rfl,h11,e12⟩:=zC e11
 obtain⟨d12,ds,rfl,h12,e13⟩:=zC e12
 obtain rfl:=jF e13
 obtain⟨op,rfl,_⟩:=yI uPo h0
 obtain⟨to,rfl,g1⟩:=ai7 h1
 obtain⟨a,rfl,g2⟩:=ai8 h2
 obtain⟨b,rfl,g3⟩:=ai8 h3
 obtain⟨l,rfl,hl,g4⟩:=ZG (f:=OpD.dat) (G:=OpD.ok) sOp h4 λx _ hk=>ai8 hk
 obtain⟨s,rfl,_⟩:=aaO h5
 obtain⟨fr,rfl,g6⟩:=ai7 h6
 obtain⟨mu,rfl⟩:=agz ai6 h7
 obtain⟨fn,rfl,_⟩:=yI vD h8
 obtain⟨st,rfl,_⟩:=yI vD h9
 obtain⟨nx,rfl,_⟩:=yI vD h10
 obtain⟨el,rfl,_⟩:=yI vD h11
 obtain⟨tx,rfl,_⟩:=yI vD h12
 exact⟨⟨op,to,a,b,l,s,fr,mu,fn,st,nx,el,tx⟩,rfl,g1,g2,g3,⟨hl,g4⟩,g6⟩
theorem ann{d:Dat}(h:d.ok Tryz.prog 208):∃x:Int×Int,d=aiE x∧True:=by
 obtain⟨ds,rfl,e0⟩:=jE aOu h
 obtain⟨d0,ds,rfl,h0,e1⟩:=zC e0
 obtain⟨d1,ds,rfl,h1,e2⟩:=zC e1
 obtain rfl:=jF e2
 obtain⟨a,rfl,_⟩:=yI vD h0
 obtain⟨b,rfl,_⟩:=yI vD h1
 exact⟨(a,b),rfl,trivial⟩
theorem ano{d:Dat}(h:d.ok Tryz.prog 74):∃g:GrD,d=g.dat∧g.ok:=by
 obtain⟨ds,rfl,e0⟩:=jE aGr h
 obtain⟨d0,ds,rfl,h0,e1⟩:=zC e0
 obtain⟨d1,ds,rfl,h1,e2⟩:=zC e1
 obtain⟨d2,ds,rfl,h2,e3⟩:=zC e2
 obtain⟨d3,ds,rfl,h3,e4⟩:=zC e3
 obtain⟨d4,ds,rfl,h4,e5⟩:=zC e4
 obtain⟨d5,ds,rfl,h5,e6⟩:=zC e5
 obtain⟨d6,ds,rfl,h6,e7⟩:=zC e6
 obtain rfl:=jF e7
 obtain⟨s,rfl,_⟩:=aaO h0
 obtain⟨lv,rfl,_⟩:=yI vD h1
 obtain⟨lo,rfl,g2,_⟩:=ZG (f:=aiE) (G:=λ_=>True) sOu h2 λx _ hk=>ann hk
 obtain⟨pn,rfl,_⟩:=yI vD h3
 obtain⟨lt,rfl,g4,_⟩:=ZG (f:=TyD.dat) (G:=λ_=>True) sTy h4 λx _ hk=>akb hk
 obtain⟨ln,rfl,g5,_⟩:=ZG (f:=Dat.str) (G:=λ_=>True) sSs h5 λx _ hk=>aaO hk
 obtain⟨lp,rfl,g6,hp⟩:=ZG (f:=PtD.dat) (G:=PtD.ok) sPt h6 λx _ hk=>anm hk
 exact⟨⟨s,lv,lo,pn,lt,ln,lp⟩,rfl,g2,g4,g5,g6,hp⟩
theorem anp{d:Dat}(h:d.ok Tryz.prog 25):∃u:UnD,d=u.dat∧u.ok:=by
 obtain⟨ds,rfl,e0⟩:=jE aUn h
 obtain⟨d0,ds,rfl,h0,e1⟩:=zC e0
 obtain⟨d1,ds,rfl,h1,e2⟩:=zC e1
 obtain⟨d2,ds,rfl,h2,e3⟩:=zC e2
 obtain rfl:=jF e3
 obtain⟨ss,rfl,g0,_⟩:=ZG (f:=StD.dat) (G:=λ_=>True) sSt h0 λx _ hk=>anl hk
 obtain⟨fs,rfl,g1,hg⟩:=ZG (f:=GrD.dat) (G:=GrD.ok) sGr h1 λx _ hk=>ano hk
 obtain⟨mn,rfl,_⟩:=yI vD h2
 exact⟨⟨ss,fs,mn⟩,rfl,g0,g1,hg⟩
section
variable {H:Type} {enc:TypeId×Value→H} {W:World} {base:Nat} {v:Value} {d:DataW H} {p:List MemPlace}
theorem alW(hv:Value.okWide Tryz.prog W .any base 25 v)(h:DataW.Trod enc Tryz.prog W 0 (λ_=>true) true 25 v d p):∃u:UnD,UnG (all W) v u:=by
 obtain⟨fs,hu,_⟩:=aUn
 obtain⟨cs,rfl,hsz⟩:=okWide_struct hu hv
 obtain⟨fuel,hf⟩:=h
 obtain⟨d,hr,hd⟩:=Yj alT fuel 25 _ _ (by simp) hf
 obtain⟨u,rfl,hk⟩:=anp hd
 exact⟨u,by simpa [Value.cells]using ajw hr hk⟩
theorem aht(hv:Value.okWide Tryz.prog W .any base 3 v)(h:DataW.Trod enc Tryz.prog W 0 (λ_=>true) true 3 v d p):∃n:Int,v=.int .i64 n∧-9223372036854775808≤n∧n≤9223372036854775807:=by
 obtain⟨n,rfl,_,_,hw⟩:=open_int vD hv h
 exact⟨n,rfl,ajt hw⟩
theorem akc(hv:Value.okWide Tryz.prog W .any base 26 v)(h:DataW.Trod enc Tryz.prog W 0 (λ_=>true) true 26 v d p):
  ∃q cap l,v=.slice q (List.length l) cap∧(q=none→cap=0)∧l.length≤cap∧(Ob (all W) λw=>Sl w q (ints l)):=by
 obtain⟨a0,len,cap,rfl⟩:=Go.WideShapes.okWide_slice sIn.1 hv
 obtain⟨fuel,hf⟩:=h
 obtain⟨d,hr,hd⟩:=Yj alS fuel 26 _ _ (by simp) hf
 obtain⟨l,rfl,_,_⟩:=ZG (f:=Dat.int .i64) (G:=λ_=>True) sIn hd λx _ hk=>by
  obtain⟨n,hn,_⟩:=yI vD hk
  exact⟨n,hn,trivial⟩
 obtain⟨q,cap',hq,h1,h2,h3⟩:=ahz (k:=.i64) (f:=id) (l:=l) hr
 have hq:[Value.slice a0 len cap]=[.slice q l.length cap']:=hq
 injection hq with hq
 exact⟨q,cap',l,hq,h1,h2,h3⟩
end
noncomputable def aaP(os:Os):World:=World.holding Tryz.prog os ⟨#[],#[],[]⟩
end
end Go.Proofs.YtaadilcboiiopaaGreat.openG
namespace Go.Proofs.YtaadilcboiiopaaGreat.moveDoes
open Go.Sh Go.ChangeShapes Go.WideShapes Go.ChangeAt Go.RowKit openG
theorem alb(H:Type)(enc:TypeId×Value→H)(W:World)(base:Nat)(args:Array Value)(ds gs:List (DataW H))(before:List MemPlace)
  (hval:∀(j:Nat) t v,Tryz.f3.params[j]? = some t→args[j]? = some v→Value.okWide Tryz.prog W .any base t v)
  (hW:DataW.Whole enc Tryz.prog Tryz.f3.params.toList Rows.moveDoesSpec.vars false W args.toList ds gs before):
  Calls Tryz.prog 3 args W λe W'=>∃v,e=.returned v∧Rows.moveDoesSpec.post enc Tryz.prog Tryz.f3 false true false false W args v W':=by
 have hW':=hW
 obtain⟨p,q,hA,hV,rfl,hfz,hnd⟩:=hW
 rw[show Tryz.f3.params.toList=[25,3,3,26]by kernel_rfl]at hA
 obtain⟨v0,vs0,d0,ds0,p0,q100,hargs,rfl,rfl,h0,r0⟩:=trodAll_cons hA
 obtain⟨v1,vs1,d1,ds1,p1,q101,rfl,rfl,rfl,h1,r1⟩:=trodAll_cons r0
 obtain⟨v2,vs2,d2,ds2,p2,q102,rfl,rfl,rfl,h2,r2⟩:=trodAll_cons r1
 obtain⟨v3,vs3,d3,ds3,p3,q103,rfl,rfl,rfl,h3,r3⟩:=trodAll_cons r2
 obtain⟨rfl,rfl,rfl⟩:=trodAll_nil r3
 obtain rfl:args=#[v0,v1,v2,v3]:=by cases args;simp_all
 obtain⟨rfl,rfl⟩:=trodVars_none hV
 obtain⟨u0,hu0⟩:=alW (hval 0 25 v0 (by kernel_rfl) rfl) h0
 obtain⟨n1,rfl,hi1⟩:=aht (hval 1 3 v1 (by kernel_rfl) rfl) h1
 obtain⟨n2,rfl,hi2⟩:=aht (hval 2 3 v2 (by kernel_rfl) rfl) h2
 obtain⟨q3,cap3,l3,rfl,hn3,hc3,hl3⟩:=akc (hval 3 26 v3 (by kernel_rfl) rfl) h3
 refine Calls.mono (acF (K:=λv W'=>v=.bool true∧Ext W W') (aeO W) hu0 (RowOf.sl QS hn3 hc3 hl3 (by decide) ⟨W,aeO W⟩) λw' e=>⟨rfl,e⟩) ?_
 rintro e W' ⟨v,he,rfl,hE⟩
 exact⟨_,he,ajr alR ani anv (by rw[show Tryz.f3.params.toList=[25,3,3,26]by kernel_rfl];decide) rfl (by kernel_rfl) ai6 hW' rfl hE⟩
def wit:Array Value:=#[.agg #[.slice none 0 0,.slice none 0 0,.int .i64 0],.int .i64 0,.int .i64 0,.slice none 0 0]
theorem anq(os:Os){H:Type}(enc:TypeId×Value→H):∃ds places,DataW.whole enc Tryz.prog ((aaP os).forCall (λ_ _=>0) ⟨#[],wit,[]⟩).memory Tryz.f3.params.toList Rows.moveDoesSpec.vars false wit.toList 8=some (ds,[],places):=
 ⟨[.agg [.nil,.nil,.lit (.int .i64 0)],.lit (.int .i64 0),.lit (.int .i64 0),.nil],[],by kernel_rfl⟩
theorem alc(os:Os):laidMet Tryz.prog Rows.moveDoesRow.laid ((aaP os).forCall (λ_ _=>0) ⟨#[],wit,[]⟩).memory:=
 laidMet_of_run' 8 (by kernel_rfl) (by kernel_rfl)
theorem amR(os:Os)(started:os.Started)(H:Type)(enc:TypeId×Value→H)(F:Stop.Interp):
  ReturnsInHanded {} Tryz.checked os 3 .any ((OpenSpec.ofChange Rows.moveDoesSpec).preRow enc Tryz.prog Tryz.f3 Rows.moveDoesRow.domain false Rows.moveDoesRow.laid) (((OpenSpec.ofChange Rows.moveDoesSpec).at F).post enc Tryz.prog Tryz.f3 false true false false):=by
 obtain⟨ds,places,hx⟩:=anq os enc
 refine returnsInHanded_of_row (C:=Tryz.checked) (s:=OpenSpec.ofChange Rows.moveDoesSpec) own started (by kernel_rfl) Tryz.func3
  (witness_row_at (enc:=enc) (C:=Tryz.checked) false (aaP os) wit rfl (by kernel_rfl) (by kernel_rfl) (by kernel_rfl)
   (OpenSpec.preRow_of_cond 8 hx (by kernel_rfl) (λk hk=>by cases hk) (by kernel_rfl) (alc os))) ?_
 intro W base args ds gs before hval hW _ _ _ hL _ _
 exact alb H enc W base args ds gs before hval hW
theorem amS:joinedFacts Tryz.pinned.checked.prog 3 Tryz.f3 (OpenSpec.ofChange Rows.moveDoesSpec).bare Rows.moveDoesRow=true:=by
 unfold joinedFacts
 simp only[gba]
 refine⟨⟨⟨⟨⟨⟨⟨⟨⟨⟨⟨⟨⟨⟨⟨⟨⟨⟨⟨⟨⟨⟨⟨⟨⟨⟨⟨⟨⟨⟨⟨?_,?_⟩,?_⟩,?_⟩,?_⟩,?_⟩,?_⟩,?_⟩,?_⟩,?_⟩,?_⟩,?_⟩,?_⟩,?_⟩,?_⟩,?_⟩,?_⟩,?_⟩,?_⟩,?_⟩,?_⟩,?_⟩,?_⟩,?_⟩,?_⟩,?_⟩,?_⟩,?_⟩,?_⟩,?_⟩,?_⟩,?_⟩<;>decide +kernel
theorem said:Rows.MoveDoesSaid:=
 OpenClaim.holds_of_cond 3 Tryz.f3 rfl rfl rfl rfl rfl rfl rfl ⟨rfl,rfl,rfl,rfl,rfl⟩ rfl rfl rfl rfl rfl (by kernel_rfl) Tryz.func3 amS
  (of_decide_eq_true (by kernel_rfl)) (by unfold Func.isWrapper;first|(rw[if_pos (by decide +kernel)];kernel_rfl)|(rw[if_neg (by decide +kernel)];exact⟨rfl,rfl⟩))
  (λos started H enc _ F=>by rw[OpenClaim.pre_eq_preRow];exact amR os started H enc F)
end Go.Proofs.YtaadilcboiiopaaGreat.moveDoes
