/-
  Contracts and plain laws that the last text leans on.
-/
import Derived.Test.YthmakcmiggpoeaaGreatDoorQEc
import Derived.Test.YthmakcmiggpoeaaGreatDoorRows
import Derived.WalkKit
import Derived.Test.YthmakcmiggpoeaaGreatDoorQEe
import Derived.Test.YthmakcmiggpoeaaGreatDoorCards
import Derived.Test.YthmakcmiggpoeaaGreatDoorTie
import Derived.Test.YthmakcmiggpoeaaGreatDoorQEg
import Derived.Test.YthmakcmiggpoeaaGreatDoorQEf
set_option maxRecDepth 100000
set_option maxHeartbeats 8000000
set_option linter.unusedVariables false
set_option linter.unusedSimpArgs false
section
namespace Go.Proofs.YthmakcmiggpoeaaGreatDoor.openG
open Go.Sh Go.ChangeShapes Go.WideShapes Go.ChangeAt Go.RowKit
theorem own:ownKnob Tryz.prog.godebug=none:=by kernel_rfl
theorem ajg:laidOutB Tryz.prog=true:=by kernel_rfl
theorem akz:mapsRowed Tryz.prog=true:=by kernel_rfl
theorem akS:((List.range Tryz.prog.types.size).all λt=>match Tryz.prog.underlying t with|some (.slice e)=>decide (0<Tryz.prog.cellsOf e)|_=>true)=true:=by kernel_rfl
theorem jt:Tryz.prog.underlying 3=some (.int .i64):=by kernel_rfl
theorem akT:Tryz.prog.underlying 2=some (.int .i64):=by kernel_rfl
theorem akU:Tryz.prog.underlying 84=some (.int .i64):=by kernel_rfl
theorem afX:Tryz.prog.underlying 4=some .bool:=by kernel_rfl
theorem akV:Tryz.prog.underlying 9=some .string:=by kernel_rfl
theorem uTk:Tryz.prog.underlying 40=some (.int .u8):=by kernel_rfl
theorem uOk:Tryz.prog.underlying 91=some (.int .u8):=by kernel_rfl
theorem uPo:Tryz.prog.underlying 90=some (.int .u8):=by kernel_rfl
theorem sTy:Tryz.prog.underlying 41=some (.slice 43)∧Tryz.prog.cellsOf 43=5:=⟨by kernel_rfl,by kernel_rfl⟩
theorem sFd:Tryz.prog.underlying 115=some (.slice 233)∧Tryz.prog.cellsOf 233=6:=⟨by kernel_rfl,by kernel_rfl⟩
theorem sSt:Tryz.prog.underlying 22=some (.slice 117)∧Tryz.prog.cellsOf 117=2:=⟨by kernel_rfl,by kernel_rfl⟩
theorem sGr:Tryz.prog.underlying 23=some (.slice 101)∧Tryz.prog.cellsOf 101=7:=⟨by kernel_rfl,by kernel_rfl⟩
theorem sOu:Tryz.prog.underlying 97=some (.slice 194)∧Tryz.prog.cellsOf 194=2:=⟨by kernel_rfl,by kernel_rfl⟩
theorem sSs:Tryz.prog.underlying 98=some (.slice 9)∧Tryz.prog.cellsOf 9=1:=⟨by kernel_rfl,by kernel_rfl⟩
theorem sPt:Tryz.prog.underlying 99=some (.slice 96)∧Tryz.prog.cellsOf 96=21:=⟨by kernel_rfl,by kernel_rfl⟩
theorem sOp:Tryz.prog.underlying 94=some (.slice 93)∧Tryz.prog.cellsOf 93=4:=⟨by kernel_rfl,by kernel_rfl⟩
theorem sSp:Tryz.prog.underlying 78=some (.slice 84)∧Tryz.prog.cellsOf 84=1:=⟨by kernel_rfl,by kernel_rfl⟩
theorem aTy:∃fs,Tryz.prog.underlying 43=some (.struct fs)∧fs.toList.map (·.type)=[40,4,3,3,41]:=xh (by kernel_rfl)
theorem aFd:∃fs,Tryz.prog.underlying 233=some (.struct fs)∧fs.toList.map (·.type)=[9,43]:=xh (by kernel_rfl)
theorem aSt:∃fs,Tryz.prog.underlying 117=some (.struct fs)∧fs.toList.map (·.type)=[9,115]:=xh (by kernel_rfl)
theorem aPl:∃fs,Tryz.prog.underlying 80=some (.struct fs)∧fs.toList.map (·.type)=[3,78]:=xh (by kernel_rfl)
theorem aOp:∃fs,Tryz.prog.underlying 93=some (.struct fs)∧fs.toList.map (·.type)=[91,2,80]:=xh (by kernel_rfl)
theorem aPt:∃fs,Tryz.prog.underlying 96=some (.struct fs)∧fs.toList.map (·.type)=[90,80,93,93,94,9,80,4,3,3,3,3,3]:=xh (by kernel_rfl)
theorem aOu:∃fs,Tryz.prog.underlying 194=some (.struct fs)∧fs.toList.map (·.type)=[3,3]:=xh (by kernel_rfl)
theorem aGr:∃fs,Tryz.prog.underlying 101=some (.struct fs)∧fs.toList.map (·.type)=[9,3,97,3,41,98,99]:=xh (by kernel_rfl)
theorem aUn:∃fs,Tryz.prog.underlying 25=some (.struct fs)∧fs.toList.map (·.type)=[22,23,3]:=xh (by kernel_rfl)
theorem ajh:ads Tryz.prog [25,22,117,115,233,9,43,40,4,3,41,23,101,97,194,98,99,96,90,
 80,78,84,93,91,2,94]=true:=by kernel_rfl
theorem jl{α:Type}{f:α→Dat}{G:α→Prop}{d:Dat}{T e:TypeId}{n:Nat}(u:Tryz.prog.underlying T=some (.slice e)∧Tryz.prog.cellsOf e=n)(h:d.ok Tryz.prog T)(hf:∀x:Dat,SizeOf.sizeOf x<SizeOf.sizeOf d→x.ok Tryz.prog e→∃t,x=f t∧G t):
  ∃l:List α,d=.sl n (l.map f)∧l.length≤maxLen∧∀t∈l,G t:=by
 obtain⟨es,rfl,hl,hk⟩:=ajF u.1 h
 obtain⟨l,rfl,hg⟩:=adu (f:=f) (G:=G) es λx hx=>hf x (by
  have:=List.sizeOf_lt_of_mem hx
  simp only[Dat.sl.sizeOf_spec];omega) (hk x hx)
 exact⟨l,by rw[u.2],by simpa using hl,hg⟩
theorem akA:∀(n:Nat)(d:Dat),SizeOf.sizeOf d≤n→d.ok Tryz.prog 43→∃t:TyD,d=t.dat:=by
 intro n
 induction n with
 |zero=>intro d h _;cases d<;>simp at h
 |succ n ih=>
  intro d hs h
  obtain⟨ds,rfl,e0⟩:=kK aTy h
  obtain⟨d0,ds,rfl,h0,e1⟩:=zq e0
  obtain⟨d1,ds,rfl,h1,e2⟩:=zq e1
  obtain⟨d2,ds,rfl,h2,e3⟩:=zq e2
  obtain⟨d3,ds,rfl,h3,e4⟩:=zq e3
  obtain⟨d4,ds,rfl,h4,e5⟩:=zq e4
  obtain rfl:=kM e5
  obtain⟨k,rfl,_⟩:=yf uTk h0
  obtain⟨m,rfl⟩:=adt afX h1
  obtain⟨re,rfl,_⟩:=yf jt h2
  obtain⟨st,rfl,_⟩:=yf jt h3
  obtain⟨l,rfl,_,_⟩:=jl (f:=TyD.dat) (G:=λ_=>True) sTy h4 λx hx hk=>by
   obtain⟨t,ht⟩:=ih x (by
    simp only[Dat.agg.sizeOf_spec,List.cons.sizeOf_spec]at hs
    omega) hk
   exact⟨t,ht,trivial⟩
  exact⟨.mk k m re st l,by rw[TyD.dat,TyD.dats_map]⟩
theorem ag8{d:Dat}(h:d.ok Tryz.prog 43):∃t:TyD,d=t.dat∧True:=by
 obtain⟨t,ht⟩:=akA _ d (Nat.le_refl _) h
 exact⟨t,ht,trivial⟩
theorem Jt{d:Dat}(h:d.ok Tryz.prog 9):∃s:ByteArray,d=.str s∧True:=by
 obtain⟨s,hs,_⟩:=aiM akV h
 exact⟨s,hs,trivial⟩
theorem aji{n:Int}(h:(Lit.int .i64 n).wf=true):YZ n:=by have:=agm h;exact⟨this.1,by omega⟩
theorem aj7{d:Dat}(h:d.ok Tryz.prog 84):∃n:Int,d=Dat.int .i64 n∧YZ n:=by
 obtain⟨n,hn,hw⟩:=yf akU h
 exact⟨n,hn,aji hw⟩
theorem akB{d:Dat}(h:d.ok Tryz.prog 233):∃f:ByteArray×TyD,d=adp f∧True:=by
 obtain⟨ds,rfl,e0⟩:=kK aFd h
 obtain⟨d0,ds,rfl,h0,e1⟩:=zq e0
 obtain⟨d1,ds,rfl,h1,e2⟩:=zq e1
 obtain rfl:=kM e2
 obtain⟨s,rfl,_⟩:=Jt h0
 obtain⟨t,rfl,_⟩:=ag8 h1
 exact⟨(s,t),rfl,trivial⟩
theorem akC{d:Dat}(h:d.ok Tryz.prog 117):∃s:StD,d=s.dat∧True:=by
 obtain⟨ds,rfl,e0⟩:=kK aSt h
 obtain⟨d0,ds,rfl,h0,e1⟩:=zq e0
 obtain⟨d1,ds,rfl,h1,e2⟩:=zq e1
 obtain rfl:=kM e2
 obtain⟨s,rfl,_⟩:=Jt h0
 obtain⟨l,rfl,_,_⟩:=jl (f:=adp) (G:=λ_=>True) sFd h1 λx _ hk=>akB hk
 exact⟨⟨s,l⟩,rfl,trivial⟩
theorem afY{d:Dat}(h:d.ok Tryz.prog 80):∃p:PlD,d=p.dat∧p.ok:=by
 obtain⟨ds,rfl,e0⟩:=kK aPl h
 obtain⟨d0,ds,rfl,h0,e1⟩:=zq e0
 obtain⟨d1,ds,rfl,h1,e2⟩:=zq e1
 obtain rfl:=kM e2
 obtain⟨n,rfl,_⟩:=yf jt h0
 obtain⟨l,rfl,hl,hg⟩:=jl (f:=Dat.int .i64) (G:=YZ) sSp h1 λx _ hk=>aj7 hk
 exact⟨⟨n,l⟩,rfl,hl,hg⟩
theorem afZ{d:Dat}(h:d.ok Tryz.prog 93):∃o:OpD,d=o.dat∧o.ok:=by
 obtain⟨ds,rfl,e0⟩:=kK aOp h
 obtain⟨d0,ds,rfl,h0,e1⟩:=zq e0
 obtain⟨d1,ds,rfl,h1,e2⟩:=zq e1
 obtain⟨d2,ds,rfl,h2,e3⟩:=zq e2
 obtain rfl:=kM e3
 obtain⟨k,rfl,_⟩:=yf uOk h0
 obtain⟨n,rfl,_⟩:=yf akT h1
 obtain⟨p,rfl,hp⟩:=afY h2
 exact⟨⟨k,n,p⟩,rfl,hp⟩
theorem akD{d:Dat}(h:d.ok Tryz.prog 96):∃p:PtD,d=p.dat∧p.ok:=by
 obtain⟨ds,rfl,e0⟩:=kK aPt h
 obtain⟨d0,ds,rfl,h0,e1⟩:=zq e0
 obtain⟨d1,ds,rfl,h1,e2⟩:=zq e1
 obtain⟨d2,ds,rfl,h2,e3⟩:=zq e2
 obtain⟨d3,ds,rfl,h3,e4⟩:=zq e3
 obtain⟨d4,ds,rfl,h4,e5⟩:=zq e4
 obtain⟨d5,ds,rfl,h5,e6⟩:=zq e5
 obtain⟨d6,ds,rfl,h6,e7⟩:=zq e6
 obtain⟨d7,ds,rfl,h7,e8⟩:=zq e7
 obtain⟨d8,ds,rfl,h8,e9⟩:=zq e8
 obtain⟨d9,ds,rfl,h9,e10⟩:=zq e9
 obtain⟨d10,ds,rfl,h10,e11⟩:=zq e10
 obtain⟨d11,ds,rfl,h11,e12⟩:=zq e11
 obtain⟨d12,ds,rfl,h12,e13⟩:=zq e12
 obtain rfl:=kM e13
 obtain⟨op,rfl,_⟩:=yf uPo h0
 obtain⟨to,rfl,g1⟩:=afY h1
 obtain⟨a,rfl,g2⟩:=afZ h2
 obtain⟨b,rfl,g3⟩:=afZ h3
 obtain⟨l,rfl,hl,g4⟩:=jl (f:=OpD.dat) (G:=OpD.ok) sOp h4 λx _ hk=>afZ hk
 obtain⟨s,rfl,_⟩:=Jt h5
 obtain⟨fr,rfl,g6⟩:=afY h6
 obtain⟨mu,rfl⟩:=adt afX h7
 obtain⟨fn,rfl,_⟩:=yf jt h8
 obtain⟨st,rfl,_⟩:=yf jt h9
 obtain⟨nx,rfl,_⟩:=yf jt h10
 obtain⟨el,rfl,_⟩:=yf jt h11
 obtain⟨tx,rfl,_⟩:=yf jt h12
 exact⟨⟨op,to,a,b,l,s,fr,mu,fn,st,nx,el,tx⟩,rfl,g1,g2,g3,⟨hl,g4⟩,g6⟩
theorem akE{d:Dat}(h:d.ok Tryz.prog 194):∃x:Int×Int,d=afu x∧True:=by
 obtain⟨ds,rfl,e0⟩:=kK aOu h
 obtain⟨d0,ds,rfl,h0,e1⟩:=zq e0
 obtain⟨d1,ds,rfl,h1,e2⟩:=zq e1
 obtain rfl:=kM e2
 obtain⟨a,rfl,_⟩:=yf jt h0
 obtain⟨b,rfl,_⟩:=yf jt h1
 exact⟨(a,b),rfl,trivial⟩
theorem akF{d:Dat}(h:d.ok Tryz.prog 101):∃g:GrD,d=g.dat∧g.ok:=by
 obtain⟨ds,rfl,e0⟩:=kK aGr h
 obtain⟨d0,ds,rfl,h0,e1⟩:=zq e0
 obtain⟨d1,ds,rfl,h1,e2⟩:=zq e1
 obtain⟨d2,ds,rfl,h2,e3⟩:=zq e2
 obtain⟨d3,ds,rfl,h3,e4⟩:=zq e3
 obtain⟨d4,ds,rfl,h4,e5⟩:=zq e4
 obtain⟨d5,ds,rfl,h5,e6⟩:=zq e5
 obtain⟨d6,ds,rfl,h6,e7⟩:=zq e6
 obtain rfl:=kM e7
 obtain⟨s,rfl,_⟩:=Jt h0
 obtain⟨lv,rfl,_⟩:=yf jt h1
 obtain⟨lo,rfl,g2,_⟩:=jl (f:=afu) (G:=λ_=>True) sOu h2 λx _ hk=>akE hk
 obtain⟨pn,rfl,_⟩:=yf jt h3
 obtain⟨lt,rfl,g4,_⟩:=jl (f:=TyD.dat) (G:=λ_=>True) sTy h4 λx _ hk=>ag8 hk
 obtain⟨ln,rfl,g5,_⟩:=jl (f:=Dat.str) (G:=λ_=>True) sSs h5 λx _ hk=>Jt hk
 obtain⟨lp,rfl,g6,hp⟩:=jl (f:=PtD.dat) (G:=PtD.ok) sPt h6 λx _ hk=>akD hk
 exact⟨⟨s,lv,lo,pn,lt,ln,lp⟩,rfl,g2,g4,g5,g6,hp⟩
theorem akG{d:Dat}(h:d.ok Tryz.prog 25):∃u:UnD,d=u.dat∧u.ok:=by
 obtain⟨ds,rfl,e0⟩:=kK aUn h
 obtain⟨d0,ds,rfl,h0,e1⟩:=zq e0
 obtain⟨d1,ds,rfl,h1,e2⟩:=zq e1
 obtain⟨d2,ds,rfl,h2,e3⟩:=zq e2
 obtain rfl:=kM e3
 obtain⟨ss,rfl,g0,_⟩:=jl (f:=StD.dat) (G:=λ_=>True) sSt h0 λx _ hk=>akC hk
 obtain⟨fs,rfl,g1,hg⟩:=jl (f:=GrD.dat) (G:=GrD.ok) sGr h1 λx _ hk=>akF hk
 obtain⟨mn,rfl,_⟩:=yf jt h2
 exact⟨⟨ss,fs,mn⟩,rfl,g0,g1,hg⟩
section
variable {H:Type} {enc:TypeId×Value→H} {W:World} {base:Nat} {v:Value} {d:DataW H} {p:List MemPlace}
theorem ajj(hv:Value.okWide Tryz.prog W .any base 25 v)(h:DataW.Trod enc Tryz.prog W 0 (λ_=>true) true 25 v d p):∃u:UnD,UnG (all W) v u:=by
 obtain⟨fs,hu,_⟩:=aUn
 obtain⟨cs,rfl,hsz⟩:=okWide_struct hu hv
 obtain⟨fuel,hf⟩:=h
 obtain⟨d,hr,hd⟩:=vB ajh fuel 25 _ _ (by simp) hf
 obtain⟨u,rfl,hk⟩:=akG hd
 exact⟨u,by simpa [Value.cells]using agp hr hk⟩
theorem ah9(hv:Value.okWide Tryz.prog W .any base 3 v)(h:DataW.Trod enc Tryz.prog W 0 (λ_=>true) true 3 v d p):∃n:Int,v=.int .i64 n∧-9223372036854775808≤n∧n≤9223372036854775807:=by
 obtain⟨n,rfl,_,_,hw⟩:=open_int jt hv h
 exact⟨n,rfl,agm hw⟩
end
theorem aj8 : Tryz.prog.globalNamed "math/bits.deBruijn64tab" = some 0 := by kernel_rfl
theorem aia:(Tryz.prog.globals[0]?).map (·.type)=some 275:=by kernel_rfl
theorem akW:Tryz.prog.underlying 275=some (.array 64 5):=by kernel_rfl
theorem akH:Tryz.prog.underlying 5=some (.int .u8):=by kernel_rfl
theorem aib:Tryz.prog.cellsOf 275=64:=by kernel_rfl
theorem ag9:Tryz.prog.cellsOf 5=1:=by kernel_rfl
theorem aj9 {W : World} (h : laidMetH Tryz.prog [("math/bits.deBruijn64tab", Rows.laid_math_bits_deBruijn64tab)] W) : TabG (all W) := by
 have ht : Lib.TabIs Tryz.prog W "math/bits.deBruijn64tab" .u8 (Lib.deBruijn64tab.map fun n : Nat => (n : Int)) :=
  Lib.tabIs_of_head (rest:=[]) aj8 aia akW akH ag9 aib h
 have hT:Tab W:=λj hj=>by
  have hc:=ht.cell aj8 j (by rw[List.length_map];exact hj)
  rw[hc]
  congr 2
  have hj':j<Lib.deBruijn64tab.length:=hj
  simp[List.getD_eq_getElem?_getD,hj']
 exact⟨λw' k j hj=>ada (hT j hj) w' k,_,Array.getElem?_eq_getElem (aa3 (hT 0 (by decide)))⟩
noncomputable def X8(os:Os):World:=
 { World.holding Tryz.prog os ⟨#[],#[],[]⟩with heap:=(World.holding Tryz.prog os ⟨#[],#[],[]⟩).heap.modify 0 fun
   |.cells _ t frozen=>.cells ((Lib.deBruijn64tab.map λn:Nat=>Value.int .u8 (n:Int)).toArray) t frozen
   |o=>o }
end Go.Proofs.YthmakcmiggpoeaaGreatDoor.openG
end
section
namespace Go.Proofs.YthmakcmiggpoeaaGreatDoor.loanDepths
open Go.Sh Go.ChangeShapes Go.WideShapes Go.ChangeAt Go.RowKit openG
end Go.Proofs.YthmakcmiggpoeaaGreatDoor.loanDepths
end
section
namespace Go.Proofs
open Go.Sh Go.RowKit Go.BM
end Go.Proofs
end
