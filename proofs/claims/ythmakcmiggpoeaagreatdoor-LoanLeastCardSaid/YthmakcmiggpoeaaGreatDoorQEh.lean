/-
  Openings: what arguments that are types, programs, lists of numbers tell.
  Openings: what an argument that is a list of rows tells.
  What rows with the library's table of bits open.
  loanwordlaw16.LoanLeast: whatever the input, the law returns true and the input reads as it did.
-/
import Derived.Test.YthmakcmiggpoeaaGreatDoorQEc
import Derived.Test.YthmakcmiggpoeaaGreatDoorRows
import Derived.WalkKit
import Derived.Test.YthmakcmiggpoeaaGreatDoorQEe
import Derived.Test.YthmakcmiggpoeaaGreatDoorCards
import Derived.Test.YthmakcmiggpoeaaGreatDoorTie
import Derived.Test.YthmakcmiggpoeaaGreatDoorQEg
set_option maxRecDepth 100000
set_option maxHeartbeats 8000000
set_option linter.unusedVariables false
set_option linter.unusedSimpArgs false
namespace Go.Proofs.YthmakcmiggpoeaaGreatDoor.openG
open Go.Sh Go.ChangeShapes Go.WideShapes Go.ChangeAt Go.RowKit
section
theorem own:ownKnob Tryz.prog.godebug=none:=by kernel_rfl
theorem ajh:laidOutB Tryz.prog=true:=by kernel_rfl
theorem akA:mapsRowed Tryz.prog=true:=by kernel_rfl
theorem akT:((List.range Tryz.prog.types.size).all λt=>match Tryz.prog.underlying t with|some (.slice e)=>decide (0<Tryz.prog.cellsOf e)|_=>true)=true:=by kernel_rfl
theorem js:Tryz.prog.underlying 3=some (.int .i64):=by kernel_rfl
theorem akU:Tryz.prog.underlying 2=some (.int .i64):=by kernel_rfl
theorem akV:Tryz.prog.underlying 84=some (.int .i64):=by kernel_rfl
theorem afY:Tryz.prog.underlying 4=some .bool:=by kernel_rfl
theorem akW:Tryz.prog.underlying 9=some .string:=by kernel_rfl
theorem uTk:Tryz.prog.underlying 40=some (.int .u8):=by kernel_rfl
theorem uOk:Tryz.prog.underlying 91=some (.int .u8):=by kernel_rfl
theorem uPo:Tryz.prog.underlying 90=some (.int .u8):=by kernel_rfl
theorem sTy:Tryz.prog.underlying 41=some (.slice 43)∧Tryz.prog.cellsOf 43=5:=⟨by kernel_rfl,by kernel_rfl⟩
theorem sFd:Tryz.prog.underlying 115=some (.slice 233)∧Tryz.prog.cellsOf 233=6:=⟨by kernel_rfl,by kernel_rfl⟩
theorem sSt:Tryz.prog.underlying 22=some (.slice 117)∧Tryz.prog.cellsOf 117=2:=⟨by kernel_rfl,by kernel_rfl⟩
theorem sGr:Tryz.prog.underlying 23=some (.slice 101)∧Tryz.prog.cellsOf 101=7:=⟨by kernel_rfl,by kernel_rfl⟩
theorem sOu:Tryz.prog.underlying 97=some (.slice 194)∧Tryz.prog.cellsOf 194=2:=⟨by kernel_rfl,by kernel_rfl⟩
theorem sSs:Tryz.prog.underlying 98=some (.slice 9)∧Tryz.prog.cellsOf 9=1:=⟨by kernel_rfl,by kernel_rfl⟩
theorem sPt:Tryz.prog.underlying 99=some (.slice 96)∧Tryz.prog.cellsOf 96=21:=⟨by kernel_rfl,by kernel_rfl⟩
theorem sOp:Tryz.prog.underlying 94=some (.slice 93)∧Tryz.prog.cellsOf 93=4:=⟨by kernel_rfl,by kernel_rfl⟩
theorem sSp:Tryz.prog.underlying 78=some (.slice 84)∧Tryz.prog.cellsOf 84=1:=⟨by kernel_rfl,by kernel_rfl⟩
theorem aTy:∃fs,Tryz.prog.underlying 43=some (.struct fs)∧fs.toList.map (·.type)=[40,4,3,3,41]:=xg (by kernel_rfl)
theorem aFd:∃fs,Tryz.prog.underlying 233=some (.struct fs)∧fs.toList.map (·.type)=[9,43]:=xg (by kernel_rfl)
theorem aSt:∃fs,Tryz.prog.underlying 117=some (.struct fs)∧fs.toList.map (·.type)=[9,115]:=xg (by kernel_rfl)
theorem aPl:∃fs,Tryz.prog.underlying 80=some (.struct fs)∧fs.toList.map (·.type)=[3,78]:=xg (by kernel_rfl)
theorem aOp:∃fs,Tryz.prog.underlying 93=some (.struct fs)∧fs.toList.map (·.type)=[91,2,80]:=xg (by kernel_rfl)
theorem aPt:∃fs,Tryz.prog.underlying 96=some (.struct fs)∧fs.toList.map (·.type)=[90,80,93,93,94,9,80,4,3,3,3,3,3]:=xg (by kernel_rfl)
theorem aOu:∃fs,Tryz.prog.underlying 194=some (.struct fs)∧fs.toList.map (·.type)=[3,3]:=xg (by kernel_rfl)
theorem aGr:∃fs,Tryz.prog.underlying 101=some (.struct fs)∧fs.toList.map (·.type)=[9,3,97,3,41,98,99]:=xg (by kernel_rfl)
theorem aUn:∃fs,Tryz.prog.underlying 25=some (.struct fs)∧fs.toList.map (·.type)=[22,23,3]:=xg (by kernel_rfl)
theorem aji:ads Tryz.prog [25,22,117,115,233,9,43,40,4,3,41,23,101,97,194,98,99,96,90,
 80,78,84,93,91,2,94]=true:=by kernel_rfl
theorem jk{α:Type}{f:α→Dat}{G:α→Prop}{d:Dat}{T e:TypeId}{n:Nat}(u:Tryz.prog.underlying T=some (.slice e)∧Tryz.prog.cellsOf e=n)(h:d.ok Tryz.prog T)(hf:∀x:Dat,SizeOf.sizeOf x<SizeOf.sizeOf d→x.ok Tryz.prog e→∃t,x=f t∧G t):
  ∃l:List α,d=.sl n (l.map f)∧l.length≤maxLen∧∀t∈l,G t:=by
 obtain⟨es,rfl,hl,hk⟩:=ajG u.1 h
 obtain⟨l,rfl,hg⟩:=adu (f:=f) (G:=G) es λx hx=>hf x (by
  have:=List.sizeOf_lt_of_mem hx
  simp only[Dat.sl.sizeOf_spec];omega) (hk x hx)
 exact⟨l,by rw[u.2],by simpa using hl,hg⟩
theorem akB:∀(n:Nat)(d:Dat),SizeOf.sizeOf d≤n→d.ok Tryz.prog 43→∃t:TyD,d=t.dat:=by
 intro n
 induction n with
 |zero=>intro d h _;cases d<;>simp at h
 |succ n ih=>
  intro d hs h
  obtain⟨ds,rfl,e0⟩:=kJ aTy h
  obtain⟨d0,ds,rfl,h0,e1⟩:=zq e0
  obtain⟨d1,ds,rfl,h1,e2⟩:=zq e1
  obtain⟨d2,ds,rfl,h2,e3⟩:=zq e2
  obtain⟨d3,ds,rfl,h3,e4⟩:=zq e3
  obtain⟨d4,ds,rfl,h4,e5⟩:=zq e4
  obtain rfl:=kK e5
  obtain⟨k,rfl,_⟩:=ye uTk h0
  obtain⟨m,rfl⟩:=adt afY h1
  obtain⟨re,rfl,_⟩:=ye js h2
  obtain⟨st,rfl,_⟩:=ye js h3
  obtain⟨l,rfl,_,_⟩:=jk (f:=TyD.dat) (G:=λ_=>True) sTy h4 λx hx hk=>by
   obtain⟨t,ht⟩:=ih x (by
    simp only[Dat.agg.sizeOf_spec,List.cons.sizeOf_spec]at hs
    omega) hk
   exact⟨t,ht,trivial⟩
  exact⟨.mk k m re st l,by rw[TyD.dat,TyD.dats_map]⟩
theorem ag9{d:Dat}(h:d.ok Tryz.prog 43):∃t:TyD,d=t.dat∧True:=by
 obtain⟨t,ht⟩:=akB _ d (Nat.le_refl _) h
 exact⟨t,ht,trivial⟩
theorem Jt{d:Dat}(h:d.ok Tryz.prog 9):∃s:ByteArray,d=.str s∧True:=by
 obtain⟨s,hs,_⟩:=aiN akW h
 exact⟨s,hs,trivial⟩
theorem ajj{n:Int}(h:(Lit.int .i64 n).wf=true):YZ n:=by have:=agn h;exact⟨this.1,by omega⟩
theorem aj8{d:Dat}(h:d.ok Tryz.prog 84):∃n:Int,d=Dat.int .i64 n∧YZ n:=by
 obtain⟨n,hn,hw⟩:=ye akV h
 exact⟨n,hn,ajj hw⟩
theorem akC{d:Dat}(h:d.ok Tryz.prog 233):∃f:ByteArray×TyD,d=adp f∧True:=by
 obtain⟨ds,rfl,e0⟩:=kJ aFd h
 obtain⟨d0,ds,rfl,h0,e1⟩:=zq e0
 obtain⟨d1,ds,rfl,h1,e2⟩:=zq e1
 obtain rfl:=kK e2
 obtain⟨s,rfl,_⟩:=Jt h0
 obtain⟨t,rfl,_⟩:=ag9 h1
 exact⟨(s,t),rfl,trivial⟩
theorem akD{d:Dat}(h:d.ok Tryz.prog 117):∃s:StD,d=s.dat∧True:=by
 obtain⟨ds,rfl,e0⟩:=kJ aSt h
 obtain⟨d0,ds,rfl,h0,e1⟩:=zq e0
 obtain⟨d1,ds,rfl,h1,e2⟩:=zq e1
 obtain rfl:=kK e2
 obtain⟨s,rfl,_⟩:=Jt h0
 obtain⟨l,rfl,_,_⟩:=jk (f:=adp) (G:=λ_=>True) sFd h1 λx _ hk=>akC hk
 exact⟨⟨s,l⟩,rfl,trivial⟩
theorem afZ{d:Dat}(h:d.ok Tryz.prog 80):∃p:PlD,d=p.dat∧p.ok:=by
 obtain⟨ds,rfl,e0⟩:=kJ aPl h
 obtain⟨d0,ds,rfl,h0,e1⟩:=zq e0
 obtain⟨d1,ds,rfl,h1,e2⟩:=zq e1
 obtain rfl:=kK e2
 obtain⟨n,rfl,_⟩:=ye js h0
 obtain⟨l,rfl,hl,hg⟩:=jk (f:=Dat.int .i64) (G:=YZ) sSp h1 λx _ hk=>aj8 hk
 exact⟨⟨n,l⟩,rfl,hl,hg⟩
theorem af0{d:Dat}(h:d.ok Tryz.prog 93):∃o:OpD,d=o.dat∧o.ok:=by
 obtain⟨ds,rfl,e0⟩:=kJ aOp h
 obtain⟨d0,ds,rfl,h0,e1⟩:=zq e0
 obtain⟨d1,ds,rfl,h1,e2⟩:=zq e1
 obtain⟨d2,ds,rfl,h2,e3⟩:=zq e2
 obtain rfl:=kK e3
 obtain⟨k,rfl,_⟩:=ye uOk h0
 obtain⟨n,rfl,_⟩:=ye akU h1
 obtain⟨p,rfl,hp⟩:=afZ h2
 exact⟨⟨k,n,p⟩,rfl,hp⟩
theorem akE{d:Dat}(h:d.ok Tryz.prog 96):∃p:PtD,d=p.dat∧p.ok:=by
 obtain⟨ds,rfl,e0⟩:=kJ aPt h
 obtain⟨d0,ds,rfl,h0,e1⟩:=zq e0
 obtain⟨d1,ds,rfl,h1,e2⟩:=zq e1
 obtain⟨d2,ds,rfl,h2,e3⟩:=zq e2
 obtain⟨d3,ds,rfl,h3,e4⟩:=zq e3
 obtain⟨d4,ds,rfl,h4,e5⟩:=zq e4
 obtain⟨d5,ds,rfl,h5,e6⟩:=zq e5
 obtain⟨d6,ds,rfl,h6,e7⟩:=zq e6
 obtain⟨d7,ds,rfl,h7,e8⟩:=zq e7
 obtain⟨d8,ds,rfl,h8,e9⟩:=zq e8
 obtain⟨d9,ds,rfl,h9,e10⟩:=zq e9
 obtain⟨d10,ds,rfl,h10,e11⟩:=zq e10
 obtain⟨d11,ds,rfl,h11,e12⟩:=zq e11
 obtain⟨d12,ds,rfl,h12,e13⟩:=zq e12
 obtain rfl:=kK e13
 obtain⟨op,rfl,_⟩:=ye uPo h0
 obtain⟨to,rfl,g1⟩:=afZ h1
 obtain⟨a,rfl,g2⟩:=af0 h2
 obtain⟨b,rfl,g3⟩:=af0 h3
 obtain⟨l,rfl,hl,g4⟩:=jk (f:=OpD.dat) (G:=OpD.ok) sOp h4 λx _ hk=>af0 hk
 obtain⟨s,rfl,_⟩:=Jt h5
 obtain⟨fr,rfl,g6⟩:=afZ h6
 obtain⟨mu,rfl⟩:=adt afY h7
 obtain⟨fn,rfl,_⟩:=ye js h8
 obtain⟨st,rfl,_⟩:=ye js h9
 obtain⟨nx,rfl,_⟩:=ye js h10
 obtain⟨el,rfl,_⟩:=ye js h11
 obtain⟨tx,rfl,_⟩:=ye js h12
 exact⟨⟨op,to,a,b,l,s,fr,mu,fn,st,nx,el,tx⟩,rfl,g1,g2,g3,⟨hl,g4⟩,g6⟩
theorem akF{d:Dat}(h:d.ok Tryz.prog 194):∃x:Int×Int,d=afu x∧True:=by
 obtain⟨ds,rfl,e0⟩:=kJ aOu h
 obtain⟨d0,ds,rfl,h0,e1⟩:=zq e0
 obtain⟨d1,ds,rfl,h1,e2⟩:=zq e1
 obtain rfl:=kK e2
 obtain⟨a,rfl,_⟩:=ye js h0
 obtain⟨b,rfl,_⟩:=ye js h1
 exact⟨(a,b),rfl,trivial⟩
theorem akG{d:Dat}(h:d.ok Tryz.prog 101):∃g:GrD,d=g.dat∧g.ok:=by
 obtain⟨ds,rfl,e0⟩:=kJ aGr h
 obtain⟨d0,ds,rfl,h0,e1⟩:=zq e0
 obtain⟨d1,ds,rfl,h1,e2⟩:=zq e1
 obtain⟨d2,ds,rfl,h2,e3⟩:=zq e2
 obtain⟨d3,ds,rfl,h3,e4⟩:=zq e3
 obtain⟨d4,ds,rfl,h4,e5⟩:=zq e4
 obtain⟨d5,ds,rfl,h5,e6⟩:=zq e5
 obtain⟨d6,ds,rfl,h6,e7⟩:=zq e6
 obtain rfl:=kK e7
 obtain⟨s,rfl,_⟩:=Jt h0
 obtain⟨lv,rfl,_⟩:=ye js h1
 obtain⟨lo,rfl,g2,_⟩:=jk (f:=afu) (G:=λ_=>True) sOu h2 λx _ hk=>akF hk
 obtain⟨pn,rfl,_⟩:=ye js h3
 obtain⟨lt,rfl,g4,_⟩:=jk (f:=TyD.dat) (G:=λ_=>True) sTy h4 λx _ hk=>ag9 hk
 obtain⟨ln,rfl,g5,_⟩:=jk (f:=Dat.str) (G:=λ_=>True) sSs h5 λx _ hk=>Jt hk
 obtain⟨lp,rfl,g6,hp⟩:=jk (f:=PtD.dat) (G:=PtD.ok) sPt h6 λx _ hk=>akE hk
 exact⟨⟨s,lv,lo,pn,lt,ln,lp⟩,rfl,g2,g4,g5,g6,hp⟩
theorem akH{d:Dat}(h:d.ok Tryz.prog 25):∃u:UnD,d=u.dat∧u.ok:=by
 obtain⟨ds,rfl,e0⟩:=kJ aUn h
 obtain⟨d0,ds,rfl,h0,e1⟩:=zq e0
 obtain⟨d1,ds,rfl,h1,e2⟩:=zq e1
 obtain⟨d2,ds,rfl,h2,e3⟩:=zq e2
 obtain rfl:=kK e3
 obtain⟨ss,rfl,g0,_⟩:=jk (f:=StD.dat) (G:=λ_=>True) sSt h0 λx _ hk=>akD hk
 obtain⟨fs,rfl,g1,hg⟩:=jk (f:=GrD.dat) (G:=GrD.ok) sGr h1 λx _ hk=>akG hk
 obtain⟨mn,rfl,_⟩:=ye js h2
 exact⟨⟨ss,fs,mn⟩,rfl,g0,g1,hg⟩
section
variable {H:Type} {enc:TypeId×Value→H} {W:World} {base:Nat} {v:Value} {d:DataW H} {p:List MemPlace}
theorem ajk(hv:Value.okWide Tryz.prog W .any base 25 v)(h:DataW.Trod enc Tryz.prog W 0 (λ_=>true) true 25 v d p):∃u:UnD,UnG (all W) v u:=by
 obtain⟨fs,hu,_⟩:=aUn
 obtain⟨cs,rfl,hsz⟩:=okWide_struct hu hv
 obtain⟨fuel,hf⟩:=h
 obtain⟨d,hr,hd⟩:=vA aji fuel 25 _ _ (by simp) hf
 obtain⟨u,rfl,hk⟩:=akH hd
 exact⟨u,by simpa [Value.cells]using agq hr hk⟩
theorem aia(hv:Value.okWide Tryz.prog W .any base 3 v)(h:DataW.Trod enc Tryz.prog W 0 (λ_=>true) true 3 v d p):∃n:Int,v=.int .i64 n∧-9223372036854775808≤n∧n≤9223372036854775807:=by
 obtain⟨n,rfl,_,_,hw⟩:=open_int js hv h
 exact⟨n,rfl,agn hw⟩
end
end
end Go.Proofs.YthmakcmiggpoeaaGreatDoor.openG
namespace Go.Proofs
open Go.Sh Go.BM
def wdD(x:BitVec 64):Dat:=.int .u64 (x.toNat:Nat)
def rwD(x:zV):Dat:=.agg [.int .i64 x.1,.sl 1 (x.2.map wdD)]
theorem aha{r:Gh}{c:List Value}{x:zV}(h:Rep r (rwD x) c)(k:x.2.length≤maxLen):RwbC r c x:=by
 obtain⟨a1,b1,rfl,e1,a2,b2,rfl,e2,e3⟩:=h
 obtain rfl:a1=_:=e1
 obtain rfl:b2=[]:=e3
 obtain⟨v,rfl,hv⟩:=xc (D:=wdD) (R:=WdC) (λc x hx h=>h) e2 k
 obtain⟨p,cap,rfl,_,_⟩:=hv.sl.shape
 exact⟨p,cap,rfl,hv⟩
end Go.Proofs
namespace Go.Proofs.YthmakcmiggpoeaaGreatDoor.openG
open Go.Sh Go.ChangeShapes Go.WideShapes Go.ChangeAt Go.RowKit
section
theorem uWd:Tryz.prog.underlying 205=some (.int .u64):=by kernel_rfl
theorem sWd:Tryz.prog.underlying 46=some (.slice 205)∧Tryz.prog.cellsOf 205=1:=⟨by kernel_rfl,by kernel_rfl⟩
theorem sRw:Tryz.prog.underlying 44=some (.slice 48)∧Tryz.prog.cellsOf 48=2:=⟨by kernel_rfl,by kernel_rfl⟩
theorem aRw:∃fs,Tryz.prog.underlying 48=some (.struct fs)∧fs.toList.map (·.type)=[3,46]:=xg (by kernel_rfl)
theorem ajl:ads Tryz.prog [44,48,3,46,205]=true:=by kernel_rfl
theorem akI{d:Dat}(h:d.ok Tryz.prog 205):∃x:BitVec 64,d=wdD x∧True:=by
 obtain⟨n,hn,hw⟩:=ye uWd h
 obtain⟨x,hx⟩:=ajH hw
 exact⟨x,by rw[hn,hx];rfl,trivial⟩
theorem akJ{d:Dat}(h:d.ok Tryz.prog 48):∃x:zV,d=rwD x∧x.2.length≤maxLen:=by
 obtain⟨ds,rfl,e0⟩:=kJ aRw h
 obtain⟨d0,ds,rfl,h0,e1⟩:=zq e0
 obtain⟨d1,ds,rfl,h1,e2⟩:=zq e1
 obtain rfl:=kK e2
 obtain⟨n,rfl,_⟩:=ye js h0
 obtain⟨l,rfl,hl,_⟩:=jk (f:=wdD) (G:=λ_=>True) sWd h1 λx _ hk=>akI hk
 exact⟨(n,l),rfl,hl⟩
section
variable {H:Type} {enc:TypeId×Value→H} {W:World} {base:Nat} {v:Value} {d:DataW H} {p:List MemPlace}
theorem aci(hv:Value.okWide Tryz.prog W .any base 44 v)(h:DataW.Trod enc Tryz.prog W 0 (λ_=>true) true 44 v d p):∃R:List zV,SlG 2 (all W) (RwbC (all W)) v R:=by
 obtain⟨a0,len,cap,rfl⟩:=Go.WideShapes.okWide_slice sRw.1 hv
 obtain⟨fuel,hf⟩:=h
 obtain⟨d,hr,hd⟩:=vA ajl fuel 44 _ _ (by simp) hf
 obtain⟨R,rfl,hl,hg⟩:=jk (f:=rwD) (G:=λx=>x.2.length≤maxLen) sRw hd λx _ hk=>akJ hk
 obtain⟨v,hv,hs⟩:=xc (D:=rwD) (R:=RwbC (all W)) (λc x hx h=>aha h (hg x hx)) hr hl
 have hv:[Value.slice a0 len cap]=[v]:=hv
 injection hv with hv
 exact⟨R,by rw[hv];exact hs.sl⟩
end
end
theorem aj9 : Tryz.prog.globalNamed "math/bits.deBruijn64tab" = some 0 := by kernel_rfl
theorem aib:(Tryz.prog.globals[0]?).map (·.type)=some 275:=by kernel_rfl
theorem akX:Tryz.prog.underlying 275=some (.array 64 5):=by kernel_rfl
theorem akK:Tryz.prog.underlying 5=some (.int .u8):=by kernel_rfl
theorem aic:Tryz.prog.cellsOf 275=64:=by kernel_rfl
theorem ahb:Tryz.prog.cellsOf 5=1:=by kernel_rfl
theorem aka {W : World} (h : laidMetH Tryz.prog [("math/bits.deBruijn64tab", Rows.laid_math_bits_deBruijn64tab)] W) : TabG (all W) := by
 have ht : Lib.TabIs Tryz.prog W "math/bits.deBruijn64tab" .u8 (Lib.deBruijn64tab.map fun n : Nat => (n : Int)) :=
  Lib.tabIs_of_head (rest:=[]) aj9 aib akX akK ahb aic h
 have hT:Tab W:=λj hj=>by
  have hc:=ht.cell aj9 j (by rw[List.length_map];exact hj)
  rw[hc]
  congr 2
  have hj':j<Lib.deBruijn64tab.length:=hj
  simp[ggd,hj']
 exact⟨λw' k j hj=>ada (hT j hj) w' k,_,Array.getElem?_eq_getElem (aa3 (hT 0 (by decide)))⟩
noncomputable def X8(os:Os):World:=
 { World.holding Tryz.prog os ⟨#[],#[],[]⟩with heap:=(World.holding Tryz.prog os ⟨#[],#[],[]⟩).heap.modify 0 fun
   |.cells _ t frozen=>.cells ((Lib.deBruijn64tab.map λn:Nat=>Value.int .u8 (n:Int)).toArray) t frozen
   |o=>o }
end Go.Proofs.YthmakcmiggpoeaaGreatDoor.openG
namespace Go.Proofs.YthmakcmiggpoeaaGreatDoor.loanLeast
open Go.Sh Go.ChangeShapes Go.WideShapes Go.ChangeAt Go.RowKit openG
theorem aid(H:Type)(enc:TypeId×Value→H)(W:World)(base:Nat)(args:Array Value)(ds gs:List (DataW H))(before:List MemPlace)
  (hval:∀(j:Nat) t v,Tryz.f10.params[j]? = some t→args[j]? = some v→Value.okWide Tryz.prog W .any base t v)
  (hW:DataW.Whole enc Tryz.prog Tryz.f10.params.toList Rows.loanLeastSpec.vars false W args.toList ds gs before) (hL:laidMetH Tryz.prog Rows.loanLeastRow.laid W):
  Calls Tryz.prog 10 args W λe W'=>∃v,e=.returned v∧Rows.loanLeastSpec.post enc Tryz.prog Tryz.f10 false true false false W args v W':=by
 have hW':=hW
 obtain⟨p,q,hA,hV,rfl,hfz,hnd⟩:=hW
 rw[show Tryz.f10.params.toList=[25,3,44,44]by kernel_rfl]at hA
 obtain⟨v0,vs0,d0,ds0,p0,q100,hargs,rfl,rfl,h0,r0⟩:=trodAll_cons hA
 obtain⟨v1,vs1,d1,ds1,p1,q101,rfl,rfl,rfl,h1,r1⟩:=trodAll_cons r0
 obtain⟨v2,vs2,d2,ds2,p2,q102,rfl,rfl,rfl,h2,r2⟩:=trodAll_cons r1
 obtain⟨v3,vs3,d3,ds3,p3,q103,rfl,rfl,rfl,h3,r3⟩:=trodAll_cons r2
 obtain⟨rfl,rfl,rfl⟩:=trodAll_nil r3
 obtain rfl:args=#[v0,v1,v2,v3]:=by cases args;simp_all
 obtain⟨rfl,rfl⟩:=trodVars_none hV
 obtain⟨u0,hu0⟩:=ajk (hval 0 25 v0 (by kernel_rfl) rfl) h0
 obtain⟨n1,rfl,hi1⟩:=aia (hval 1 3 v1 (by kernel_rfl) rfl) h1
 obtain⟨R2,hR2⟩:=aci (hval 2 44 v2 (by kernel_rfl) rfl) h2
 obtain⟨R3,hR3⟩:=aci (hval 3 44 v3 (by kernel_rfl) rfl) h3
 refine Calls.mono (JS (K:=λv W'=>v=.bool true∧Ext W W') (af9 W) hu0 hR2 hR3 (aka hL) λw' e=>⟨rfl,e⟩) ?_
 rintro e W' ⟨v,he,rfl,hE⟩
 exact⟨_,he,agl ajh akA akT (by rw[show Tryz.f10.params.toList=[25,3,44,44]by kernel_rfl];decide) rfl (by kernel_rfl) afY hW' rfl hE⟩
def wit:Array Value:=#[.agg #[.slice none 0 0,.slice none 0 0,.int .i64 0],.int .i64 0,.slice none 0 0,.slice none 0 0]
theorem akL(os:Os){H:Type}(enc:TypeId×Value→H):∃ds places,DataW.whole enc Tryz.prog ((X8 os).forCall (λ_ _=>0) ⟨#[],wit,[]⟩).memory Tryz.f10.params.toList Rows.loanLeastSpec.vars false wit.toList 8=some (ds,[],places):=
 ⟨[.agg [.nil,.nil,.lit (.int .i64 0)],.lit (.int .i64 0),.nil,.nil],[],by kernel_rfl⟩
theorem aie(os:Os):laidMet Tryz.prog Rows.loanLeastRow.laid ((X8 os).forCall (λ_ _=>0) ⟨#[],wit,[]⟩).memory:=
 laidMet_of_run' 8 (by kernel_rfl) (by kernel_rfl)
theorem akb(os:Os)(started:os.Started)(H:Type)(enc:TypeId×Value→H)(F:Stop.Interp):
  ReturnsInHanded {} Tryz.checked os 10 .any ((OpenSpec.ofChange Rows.loanLeastSpec).preRow enc Tryz.prog Tryz.f10 Rows.loanLeastRow.domain false Rows.loanLeastRow.laid) (((OpenSpec.ofChange Rows.loanLeastSpec).at F).post enc Tryz.prog Tryz.f10 false true false false):=by
 obtain⟨ds,places,hx⟩:=akL os enc
 refine returnsInHanded_of_row (C:=Tryz.checked) (s:=OpenSpec.ofChange Rows.loanLeastSpec) own started (by kernel_rfl) Tryz.func10
  (witness_row_at (enc:=enc) (C:=Tryz.checked) false (X8 os) wit rfl (by kernel_rfl) (by kernel_rfl) (by kernel_rfl)
   (OpenSpec.preRow_of_cond 8 hx (by kernel_rfl) (λk hk=>by cases hk) (by kernel_rfl) (aie os))) ?_
 intro W base args ds gs before hval hW _ _ _ hL _ _
 exact aid H enc W base args ds gs before hval hW hL
theorem akc:joinedFacts Tryz.pinned.checked.prog 10 Tryz.f10 (OpenSpec.ofChange Rows.loanLeastSpec).bare Rows.loanLeastRow=true:=by
 unfold joinedFacts
 simp only[gba]
 refine⟨⟨⟨⟨⟨⟨⟨⟨⟨⟨⟨⟨⟨⟨⟨⟨⟨⟨⟨⟨⟨⟨⟨⟨⟨⟨⟨⟨⟨⟨⟨?_,?_⟩,?_⟩,?_⟩,?_⟩,?_⟩,?_⟩,?_⟩,?_⟩,?_⟩,?_⟩,?_⟩,?_⟩,?_⟩,?_⟩,?_⟩,?_⟩,?_⟩,?_⟩,?_⟩,?_⟩,?_⟩,?_⟩,?_⟩,?_⟩,?_⟩,?_⟩,?_⟩,?_⟩,?_⟩,?_⟩,?_⟩<;>decide +kernel
theorem said:Rows.LoanLeastSaid:=
 OpenClaim.holds_of_cond 10 Tryz.f10 rfl rfl rfl rfl rfl rfl rfl ⟨rfl,rfl,rfl,rfl,rfl⟩ rfl rfl rfl rfl rfl (by kernel_rfl) Tryz.func10 akc
  (of_decide_eq_true (by kernel_rfl)) (by unfold Func.isWrapper;first|(rw[if_pos (by decide +kernel)];kernel_rfl)|(rw[if_neg (by decide +kernel)];exact⟨rfl,rfl⟩))
  (λos started H enc _ F=>by rw[OpenClaim.pre_eq_preRow];exact akb os started H enc F)
theorem plain (f : FuncId) (fn : Func) (hf : Tryz.pinned.checked.prog.funcNamed "loanword/loanwordlaw16.LoanLeast" = some f) (hfn : Tryz.pinned.checked.prog.funcs[f]? = some fn) :
  false=Tryz.pinned.checked.prog.looks []∧∀(j:Nat) t,fn.params[j]? = some t→Tryz.pinned.checked.prog.wantsStandIn t=false:=by
 obtain rfl : f = 10 := Option.some.inj ((show Tryz.prog.funcNamed "loanword/loanwordlaw16.LoanLeast" = some 10 by kernel_rfl).symm.trans hf) |>.symm
 obtain rfl:fn=Tryz.f10:=(Option.some.inj (Tryz.func10.symm.trans hfn)).symm
 refine⟨by kernel_rfl,λj t ht=>?_⟩
 have hall:(Tryz.f10.params.all λt=>!(Tryz.prog.wantsStandIn t))=true:=by kernel_rfl
 have:=Array.all_eq_true_iff_forall_mem.1 hall t (Array.mem_of_getElem? ht)
 show Tryz.prog.wantsStandIn t=false
 simpa using this
theorem card:Rows.LoanLeastCardSaid:=
 Claim7.holds_tied_plain_at .later [] _ _ _ _ said (λ_ h=>by cases h) (by kernel_rfl) (λ_ h=>by cases h) loanLeast_row_tie rfl ⟨rfl,rfl⟩ (by kernel_rfl) rfl plain (by kernel_rfl)
end Go.Proofs.YthmakcmiggpoeaaGreatDoor.loanLeast
