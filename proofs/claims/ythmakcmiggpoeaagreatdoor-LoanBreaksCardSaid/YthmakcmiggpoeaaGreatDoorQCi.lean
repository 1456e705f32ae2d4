/-
  Contracts and plain laws that the last text leans on.
-/
import Derived.Test.YthmakcmiggpoeaaGreatDoorQCc
import Derived.Test.YthmakcmiggpoeaaGreatDoorRows
import Derived.WalkKit
import Derived.Test.YthmakcmiggpoeaaGreatDoorQCg
import Derived.Test.YthmakcmiggpoeaaGreatDoorQCf
import Derived.Test.YthmakcmiggpoeaaGreatDoorCards
import Derived.Test.YthmakcmiggpoeaaGreatDoorTie
import Derived.Test.YthmakcmiggpoeaaGreatDoorQCh
set_option maxRecDepth 100000
set_option maxHeartbeats 8000000
set_option linter.unusedVariables false
set_option linter.unusedSimpArgs false
section
namespace Go.Proofs.YthmakcmiggpoeaaGreatDoor.openG
open Go.Sh Go.ChangeShapes Go.WideShapes Go.ChangeAt Go.RowKit
theorem own:ownKnob Tryz.prog.godebug=none:=by kernel_rfl
theorem amB:laidOutB Tryz.prog=true:=by kernel_rfl
theorem anX:mapsRowed Tryz.prog=true:=by kernel_rfl
theorem aod:((List.range Tryz.prog.types.size).all λt=>match Tryz.prog.underlying t with|some (.slice e)=>decide (0<Tryz.prog.cellsOf e)|_=>true)=true:=by kernel_rfl
theorem Zx:Tryz.prog.underlying 3=some (.int .i64):=by kernel_rfl
theorem aoe:Tryz.prog.underlying 2=some (.int .i64):=by kernel_rfl
theorem aof:Tryz.prog.underlying 84=some (.int .i64):=by kernel_rfl
theorem af3:Tryz.prog.underlying 4=some .bool:=by kernel_rfl
theorem aog:Tryz.prog.underlying 9=some .string:=by kernel_rfl
theorem uTk:Tryz.prog.underlying 40=some (.int .u8):=by kernel_rfl
theorem uOk:Tryz.prog.underlying 91=some (.int .u8):=by kernel_rfl
theorem uPo:Tryz.prog.underlying 90=some (.int .u8):=by kernel_rfl
theorem sTy:Tryz.prog.underlying 41=some (.slice 43)∧Tryz.prog.cellsOf 43=5:=⟨by kernel_rfl,by kernel_rfl⟩
theorem sFd:Tryz.prog.underlying 115=some (.slice 233)∧Tryz.prog.cellsOf 233=6:=⟨by kernel_rfl,by kernel_rfl⟩
theorem sSt:Tryz.prog.underlying 22=some (.slice 117)∧Tryz.prog.cellsOf 117=2:=⟨by kernel_rfl,by kernel_rfl⟩
theorem sGr:Tryz.prog.underlying 23=some (.slice 101)∧Tryz.prog.cellsOf 101=7:=⟨by kernel_rfl,by kernel_rfl⟩
theorem sOu:Tryz.prog.underlying 97=some (.slice 194)∧Tryz.prog.cellsOf 194=2:=⟨by kernel_rfl,by kernel_rfl⟩
theorem sSs:Tryz.prog.underlying 98=some (.slice 9)∧Tryz.prog.cellsOf 9=1:=⟨by kernel_rfl,by kernel_rfl⟩
theorem sPt:Tryz.prog.underlying 99=some (.slice 96)∧Tryz.prog.cellsOf 96=21:=⟨by kernel_rfl,by kernel_rfl⟩
theorem sOp:Tryz.prog.underlying 94=some (.slice 93)∧Tryz.prog.cellsOf 93=4:=⟨by kernel_rfl,by kernel_rfl⟩
theorem sSp:Tryz.prog.underlying 78=some (.slice 84)∧Tryz.prog.cellsOf 84=1:=⟨by kernel_rfl,by kernel_rfl⟩
theorem aTy:∃fs,Tryz.prog.underlying 43=some (.struct fs)∧fs.toList.map (·.type)=[40,4,3,3,41]:=xP (by kernel_rfl)
theorem aFd:∃fs,Tryz.prog.underlying 233=some (.struct fs)∧fs.toList.map (·.type)=[9,43]:=xP (by kernel_rfl)
theorem aSt:∃fs,Tryz.prog.underlying 117=some (.struct fs)∧fs.toList.map (·.type)=[9,115]:=xP (by kernel_rfl)
theorem aPl:∃fs,Tryz.prog.underlying 80=some (.struct fs)∧fs.toList.map (·.type)=[3,78]:=xP (by kernel_rfl)
theorem aOp:∃fs,Tryz.prog.underlying 93=some (.struct fs)∧fs.toList.map (·.type)=[91,2,80]:=xP (by kernel_rfl)
theorem aPt:∃fs,Tryz.prog.underlying 96=some (.struct fs)∧fs.toList.map (·.type)=[90,80,93,93,94,9,80,4,3,3,3,3,3]:=xP (by kernel_rfl)
theorem aOu:∃fs,Tryz.prog.underlying 194=some (.struct fs)∧fs.toList.map (·.type)=[3,3]:=xP (by kernel_rfl)
theorem aGr:∃fs,Tryz.prog.underlying 101=some (.struct fs)∧fs.toList.map (·.type)=[9,3,97,3,41,98,99]:=xP (by kernel_rfl)
theorem aUn:∃fs,Tryz.prog.underlying 25=some (.struct fs)∧fs.toList.map (·.type)=[22,23,3]:=xP (by kernel_rfl)
theorem amC:agG Tryz.prog [25,22,117,115,233,9,43,40,4,3,41,23,101,97,194,98,99,96,90,
 80,78,84,93,91,2,94]=true:=by kernel_rfl
theorem Z8{α:Type}{f:α→Dat}{G:α→Prop}{d:Dat}{T e:TypeId}{n:Nat}(u:Tryz.prog.underlying T=some (.slice e)∧Tryz.prog.cellsOf e=n)(h:d.ok Tryz.prog T)(hf:∀x:Dat,SizeOf.sizeOf x<SizeOf.sizeOf d→x.ok Tryz.prog e→∃t,x=f t∧G t):
  ∃l:List α,d=.sl n (l.map f)∧l.length≤maxLen∧∀t∈l,G t:=by
 obtain⟨es,rfl,hl,hk⟩:=amZ u.1 h
 obtain⟨l,rfl,hg⟩:=agH (f:=f) (G:=G) es λx hx=>hf x (by
  have:=List.sizeOf_lt_of_mem hx
  simp only[Dat.sl.sizeOf_spec];omega) (hk x hx)
 exact⟨l,by rw[u.2],by simpa using hl,hg⟩
theorem anY:∀(n:Nat)(d:Dat),SizeOf.sizeOf d≤n→d.ok Tryz.prog 43→∃t:TyD,d=t.dat:=by
 intro n
 induction n with
 |zero=>intro d h _;cases d<;>simp at h
 |succ n ih=>
  intro d hs h
  obtain⟨ds,rfl,e0⟩:=qI aTy h
  obtain⟨d0,ds,rfl,h0,e1⟩:=zy e0
  obtain⟨d1,ds,rfl,h1,e2⟩:=zy e1
  obtain⟨d2,ds,rfl,h2,e3⟩:=zy e2
  obtain⟨d3,ds,rfl,h3,e4⟩:=zy e3
  obtain⟨d4,ds,rfl,h4,e5⟩:=zy e4
  obtain rfl:=qJ e5
  obtain⟨k,rfl,_⟩:=yE uTk h0
  obtain⟨m,rfl⟩:=abY af3 h1
  obtain⟨re,rfl,_⟩:=yE Zx h2
  obtain⟨st,rfl,_⟩:=yE Zx h3
  obtain⟨l,rfl,_,_⟩:=Z8 (f:=TyD.dat) (G:=λ_=>True) sTy h4 λx hx hk=>by
   obtain⟨t,ht⟩:=ih x (by
    simp only[Dat.agg.sizeOf_spec,List.cons.sizeOf_spec]at hs
    omega) hk
   exact⟨t,ht,trivial⟩
  exact⟨.mk k m re st l,by rw[TyD.dat,TyD.dats_map]⟩
theorem akq{d:Dat}(h:d.ok Tryz.prog 43):∃t:TyD,d=t.dat∧True:=by
 obtain⟨t,ht⟩:=anY _ d (Nat.le_refl _) h
 exact⟨t,ht,trivial⟩
theorem aaH{d:Dat}(h:d.ok Tryz.prog 9):∃s:ByteArray,d=.str s∧True:=by
 obtain⟨s,hs,_⟩:=al7 aog h
 exact⟨s,hs,trivial⟩
theorem amD{n:Int}(h:(Lit.int .i64 n).wf=true):QG n:=by have:=ajC h;exact⟨this.1,by omega⟩
theorem ant{d:Dat}(h:d.ok Tryz.prog 84):∃n:Int,d=Dat.int .i64 n∧QG n:=by
 obtain⟨n,hn,hw⟩:=yE aof h
 exact⟨n,hn,amD hw⟩
theorem anZ{d:Dat}(h:d.ok Tryz.prog 233):∃f:ByteArray×TyD,d=agD f∧True:=by
 obtain⟨ds,rfl,e0⟩:=qI aFd h
 obtain⟨d0,ds,rfl,h0,e1⟩:=zy e0
 obtain⟨d1,ds,rfl,h1,e2⟩:=zy e1
 obtain rfl:=qJ e2
 obtain⟨s,rfl,_⟩:=aaH h0
 obtain⟨t,rfl,_⟩:=akq h1
 exact⟨(s,t),rfl,trivial⟩
theorem an0{d:Dat}(h:d.ok Tryz.prog 117):∃s:StD,d=s.dat∧True:=by
 obtain⟨ds,rfl,e0⟩:=qI aSt h
 obtain⟨d0,ds,rfl,h0,e1⟩:=zy e0
 obtain⟨d1,ds,rfl,h1,e2⟩:=zy e1
 obtain rfl:=qJ e2
 obtain⟨s,rfl,_⟩:=aaH h0
 obtain⟨l,rfl,_,_⟩:=Z8 (f:=agD) (G:=λ_=>True) sFd h1 λx _ hk=>anZ hk
 exact⟨⟨s,l⟩,rfl,trivial⟩
theorem af4{d:Dat}(h:d.ok Tryz.prog 80):∃p:PlD,d=p.dat∧p.ok:=by
 obtain⟨ds,rfl,e0⟩:=qI aPl h
 obtain⟨d0,ds,rfl,h0,e1⟩:=zy e0
 obtain⟨d1,ds,rfl,h1,e2⟩:=zy e1
 obtain rfl:=qJ e2
 obtain⟨n,rfl,_⟩:=yE Zx h0
 obtain⟨l,rfl,hl,hg⟩:=Z8 (f:=Dat.int .i64) (G:=QG) sSp h1 λx _ hk=>ant hk
 exact⟨⟨n,l⟩,rfl,hl,hg⟩
theorem ajk{d:Dat}(h:d.ok Tryz.prog 93):∃o:OpD,d=o.dat∧o.ok:=by
 obtain⟨ds,rfl,e0⟩:=qI aOp h
 obtain⟨d0,ds,rfl,h0,e1⟩:=zy e0
 obtain⟨d1,ds,rfl,h1,e2⟩:=zy e1
 obtain⟨d2,ds,rfl,h2,e3⟩:=zy e2
 obtain rfl:=qJ e3
 obtain⟨k,rfl,_⟩:=yE uOk h0
 obtain⟨n,rfl,_⟩:=yE aoe h1
 obtain⟨p,rfl,hp⟩:=af4 h2
 exact⟨⟨k,n,p⟩,rfl,hp⟩
theorem an1{d:Dat}(h:d.ok Tryz.prog 96):∃p:PtD,d=p.dat∧p.ok:=by
 obtain⟨ds,rfl,e0⟩:=qI aPt h
 obtain⟨d0,ds,rfl,h0,e1⟩:=zy e0
 obtain⟨d1,ds,rfl,h1,e2⟩:=zy e1
 obtain⟨d2,ds,rfl,h2,e3⟩:=zy e2
 obtain⟨d3,ds,rfl,h3,e4⟩:=zy e3
 obtain⟨d4,ds,rfl,h4,e5⟩:=zy e4
 obtain⟨d5,ds,rfl,h5,e6⟩:=zy e5
 obtain⟨d6,ds,rfl,h6,e7⟩:=zy e6
 obtain⟨d7,ds,rfl,h7,e8⟩:=zy e7
 obtain⟨d8,ds,rfl,h8,e9⟩:=zy e8
 obtain⟨d9,ds,rfl,h9,e10⟩:=zy e9
 obtain⟨d10,ds,rfl,h10,e11⟩:=zy e10
 obtain⟨d11,ds,rfl,h11,e12⟩:=zy e11
 obtain⟨d12,ds,rfl,h12,e13⟩:=zy e12
 obtain rfl:=qJ e13
 obtain⟨op,rfl,_⟩:=yE uPo h0
 obtain⟨to,rfl,g1⟩:=af4 h1
 obtain⟨a,rfl,g2⟩:=ajk h2
 obtain⟨b,rfl,g3⟩:=ajk h3
 obtain⟨l,rfl,hl,g4⟩:=Z8 (f:=OpD.dat) (G:=OpD.ok) sOp h4 λx _ hk=>ajk hk
 obtain⟨s,rfl,_⟩:=aaH h5
 obtain⟨fr,rfl,g6⟩:=af4 h6
 obtain⟨mu,rfl⟩:=abY af3 h7
 obtain⟨fn,rfl,_⟩:=yE Zx h8
 obtain⟨st,rfl,_⟩:=yE Zx h9
 obtain⟨nx,rfl,_⟩:=yE Zx h10
 obtain⟨el,rfl,_⟩:=yE Zx h11
 obtain⟨tx,rfl,_⟩:=yE Zx h12
 exact⟨⟨op,to,a,b,l,s,fr,mu,fn,st,nx,el,tx⟩,rfl,g1,g2,g3,⟨hl,g4⟩,g6⟩
theorem an2{d:Dat}(h:d.ok Tryz.prog 194):∃x:Int×Int,d=aiM x∧True:=by
 obtain⟨ds,rfl,e0⟩:=qI aOu h
 obtain⟨d0,ds,rfl,h0,e1⟩:=zy e0
 obtain⟨d1,ds,rfl,h1,e2⟩:=zy e1
 obtain rfl:=qJ e2
 obtain⟨a,rfl,_⟩:=yE Zx h0
 obtain⟨b,rfl,_⟩:=yE Zx h1
 exact⟨(a,b),rfl,trivial⟩
theorem an3{d:Dat}(h:d.ok Tryz.prog 101):∃g:GrD,d=g.dat∧g.ok:=by
 obtain⟨ds,rfl,e0⟩:=qI aGr h
 obtain⟨d0,ds,rfl,h0,e1⟩:=zy e0
 obtain⟨d1,ds,rfl,h1,e2⟩:=zy e1
 obtain⟨d2,ds,rfl,h2,e3⟩:=zy e2
 obtain⟨d3,ds,rfl,h3,e4⟩:=zy e3
 obtain⟨d4,ds,rfl,h4,e5⟩:=zy e4
 obtain⟨d5,ds,rfl,h5,e6⟩:=zy e5
 obtain⟨d6,ds,rfl,h6,e7⟩:=zy e6
 obtain rfl:=qJ e7
 obtain⟨s,rfl,_⟩:=aaH h0
 obtain⟨lv,rfl,_⟩:=yE Zx h1
 obtain⟨lo,rfl,g2,_⟩:=Z8 (f:=aiM) (G:=λ_=>True) sOu h2 λx _ hk=>an2 hk
 obtain⟨pn,rfl,_⟩:=yE Zx h3
 obtain⟨lt,rfl,g4,_⟩:=Z8 (f:=TyD.dat) (G:=λ_=>True) sTy h4 λx _ hk=>akq hk
 obtain⟨ln,rfl,g5,_⟩:=Z8 (f:=Dat.str) (G:=λ_=>True) sSs h5 λx _ hk=>aaH hk
 obtain⟨lp,rfl,g6,hp⟩:=Z8 (f:=PtD.dat) (G:=PtD.ok) sPt h6 λx _ hk=>an1 hk
 exact⟨⟨s,lv,lo,pn,lt,ln,lp⟩,rfl,g2,g4,g5,g6,hp⟩
theorem an4{d:Dat}(h:d.ok Tryz.prog 25):∃u:UnD,d=u.dat∧u.ok:=by
 obtain⟨ds,rfl,e0⟩:=qI aUn h
 obtain⟨d0,ds,rfl,h0,e1⟩:=zy e0
 obtain⟨d1,ds,rfl,h1,e2⟩:=zy e1
 obtain⟨d2,ds,rfl,h2,e3⟩:=zy e2
 obtain rfl:=qJ e3
 obtain⟨ss,rfl,g0,_⟩:=Z8 (f:=StD.dat) (G:=λ_=>True) sSt h0 λx _ hk=>an0 hk
 obtain⟨fs,rfl,g1,hg⟩:=Z8 (f:=GrD.dat) (G:=GrD.ok) sGr h1 λx _ hk=>an3 hk
 obtain⟨mn,rfl,_⟩:=yE Zx h2
 exact⟨⟨ss,fs,mn⟩,rfl,g0,g1,hg⟩
section
variable {H:Type} {enc:TypeId×Value→H} {W:World} {base:Nat} {v:Value} {d:DataW H} {p:List MemPlace}
theorem amE(hv:Value.okWide Tryz.prog W .any base 25 v)(h:DataW.Trod enc Tryz.prog W 0 (λ_=>true) true 25 v d p):∃u:UnD,UnG (all W) v u:=by
 obtain⟨fs,hu,_⟩:=aUn
 obtain⟨cs,rfl,hsz⟩:=okWide_struct hu hv
 obtain⟨fuel,hf⟩:=h
 obtain⟨d,hr,hd⟩:=Z4 amC fuel 25 _ _ (by simp) hf
 obtain⟨u,rfl,hk⟩:=an4 hd
 exact⟨u,by simpa [Value.cells]using ajF hr hk⟩
theorem ahA(hv:Value.okWide Tryz.prog W .any base 3 v)(h:DataW.Trod enc Tryz.prog W 0 (λ_=>true) true 3 v d p):∃n:Int,v=.int .i64 n∧-9223372036854775808≤n∧n≤9223372036854775807:=by
 obtain⟨n,rfl,_,_,hw⟩:=open_int Zx hv h
 exact⟨n,rfl,ajC hw⟩
end
def alO(a:AcD):Dat:=.agg [a.pl.dat,.int .u8 a.d,.bool a.wr]
theorem aAc:∃fs,Tryz.prog.underlying 88=some (.struct fs)∧fs.toList.map (·.type)=[80,86,4]:=xP (by kernel_rfl)
theorem uDp:Tryz.prog.underlying 86=some (.int .u8):=by kernel_rfl
theorem amF:agG Tryz.prog [88,80,3,78,84,86,4]=true:=by kernel_rfl
theorem an5{d:Dat}(h:d.ok Tryz.prog 88):∃a:AcD,d=alO a∧a.pl.ok:=by
 obtain⟨ds,rfl,e0⟩:=qI aAc h
 obtain⟨d0,ds,rfl,h0,e1⟩:=zy e0
 obtain⟨d1,ds,rfl,h1,e2⟩:=zy e1
 obtain⟨d2,ds,rfl,h2,e3⟩:=zy e2
 obtain rfl:=qJ e3
 obtain⟨p,rfl,hp⟩:=af4 h0
 obtain⟨k,rfl,_⟩:=yE uDp h1
 obtain⟨m,rfl⟩:=abY af3 h2
 exact⟨⟨p,k,m⟩,rfl,hp⟩
theorem akr{r:Gh}{c:List Value}{a:AcD}(h:Rep r (alO a) c)(k:a.pl.ok):AcG r c a:=by
 obtain⟨a1,b1,rfl,e1,a2,b2,rfl,e2,a3,b3,rfl,e3,e4⟩:=h
 obtain rfl:a2=_:=e2
 obtain rfl:a3=_:=e3
 obtain rfl:b3=[]:=e4
 obtain⟨v,rfl,hv⟩:=Qf e1 k
 exact⟨v,rfl,hv⟩
section
variable {H:Type} {enc:TypeId×Value→H} {W:World} {base:Nat} {v:Value} {d:DataW H} {p:List MemPlace}
theorem aly(hv:Value.okWide Tryz.prog W .any base 88 v)(h:DataW.Trod enc Tryz.prog W 0 (λ_=>true) true 88 v d p):∃(c:List Value)(x:AcD),v=.agg c.toArray∧AcG (all W) c x:=by
 obtain⟨fs,hu,_⟩:=aAc
 obtain⟨cs,rfl,hsz⟩:=okWide_struct hu hv
 obtain⟨fuel,hf⟩:=h
 obtain⟨d,hr,hd⟩:=Z4 amF fuel 88 _ _ (by simp) hf
 obtain⟨x,rfl,hk⟩:=an5 hd
 exact⟨cs.toList,x,by simp,by simpa [Value.cells]using akr hr hk⟩
end
theorem anu : Tryz.prog.globalNamed "math/bits.deBruijn64tab" = some 0 := by kernel_rfl
theorem alz:(Tryz.prog.globals[0]?).map (·.type)=some 275:=by kernel_rfl
theorem aoh:Tryz.prog.underlying 275=some (.array 64 5):=by kernel_rfl
theorem an6:Tryz.prog.underlying 5=some (.int .u8):=by kernel_rfl
theorem alA:Tryz.prog.cellsOf 275=64:=by kernel_rfl
theorem aks:Tryz.prog.cellsOf 5=1:=by kernel_rfl
theorem anv {W : World} (h : laidMetH Tryz.prog [("math/bits.deBruijn64tab", Rows.laid_math_bits_deBruijn64tab)] W) : TabG (all W) := by
 have ht : Lib.TabIs Tryz.prog W "math/bits.deBruijn64tab" .u8 (Lib.deBruijn64tab.map fun n : Nat => (n : Int)) :=
  Lib.tabIs_of_head (rest:=[]) anu alz aoh an6 aks alA h
 have hT:Tab W:=λj hj=>by
  have hc:=ht.cell anu j (by rw[List.length_map];exact hj)
  rw[hc]
  congr 2
  have hj':j<Lib.deBruijn64tab.length:=hj
  simp[List.getD_eq_getElem?_getD,hj']
 exact⟨λw' k j hj=>ago (hT j hj) w' k,_,Array.getElem?_eq_getElem (adJ (hT 0 (by decide)))⟩
noncomputable def J9(os:Os):World:=
 { World.holding Tryz.prog os ⟨#[],#[],[]⟩with heap:=(World.holding Tryz.prog os ⟨#[],#[],[]⟩).heap.modify 0 fun
   |.cells _ t frozen=>.cells ((Lib.deBruijn64tab.map λn:Nat=>Value.int .u8 (n:Int)).toArray) t frozen
   |o=>o }
end Go.Proofs.YthmakcmiggpoeaaGreatDoor.openG
end
section
namespace Go.Proofs.YthmakcmiggpoeaaGreatDoor.loanDepths
open Go.Sh Go.ChangeShapes Go.WideShapes Go.ChangeAt Go.RowKit openG
end Go.Proofs.YthmakcmiggpoeaaGreatDoor.loanDepths
end
section
namespace Go.Proofs
open Go.Sh Go.RowKit Go.BM
theorem aeD{u:UnD}{fn:Int}{g:GrD}{x:LnD}{a:AcD}{c c':List Value}{v:Value}{w:World}{r:Gh}{K:Value→World→Prop}(hr:Holds r w)(hu:UnG r v u)(F:IsF u fn g)(hx:LnG r c x)(ha:AcG r c' a)
  (hxm:(zz u.ss g.tys x.pl).isSome=true) (ham:(zz u.ss g.tys a.pl).isSome=true) (hd:1≤a.d∧a.d≤3) (h:∀w',Ext w w'→K (.bool (jo u g x a)) w'):
  zd Tryz.prog Tryz.ZN #[v,.int .i64 fn,.agg c.toArray,.agg c'.toArray] w K:=by
 refine Tryz.adv ?_
 unfold Tryz.Jo
 have hst:=F.may.ok
 have hf:=F.head.fine F.may.ok
 obtain⟨h0,h1⟩:=ahv hxm
 rw[anm hst hf h0 h1]at h
 obtain⟨p0,cap0,vf,rfl,_,_,_,_,_⟩:=id hu
 obtain⟨vx,rfl,hxs⟩:=hx
 obtain⟨qx,cx,rfl,_,_⟩:=hxs.sl.shape
 obtain⟨va,rfl,has⟩:=ha
 obtain⟨qa,ca,rfl,_,_⟩:=has.sl.shape
 have haf:a.pl.ps.length≤9223372036854775807:=has.few
 have hpx:PlG r [.int .i64 x.pl.l,.slice qx x.pl.ps.length cx] x.pl:=⟨_,rfl,hxs⟩
 have hpa:PlG r [.int .i64 a.pl.l,.slice qa a.pl.ps.length ca] a.pl:=⟨_,rfl,has⟩
 have S:=St.start hr
 refine S.box λb4 w1 S=>?_
 refine S.box λb6 w2 S=>?_
 refine S.box λb7 w3 S=>?_
 have S:StX noX w r w3 [.cell b7 [.int .i64 a.pl.l,.slice qa a.pl.ps.length ca,.int .u8 a.d,.bool a.wr] 88,.cell b6 [.int .i64 x.q,.int .i64 x.pl.l,.slice qx x.pl.ps.length cx,.bool x.mu,.int .i64 x.re] 82,.cell b4 [.slice p0 u.ss.length cap0,vf,.int .i64 u.mn] 25]:=S
 refine gg_ ?_
 refine zg (c:=!x.mu) (λ_ K2 hK2=>by refine gg_ ?_;exact hK2) ?_
 refine c_b (λhb=>?_) (λhb=>?_)
 ·have:=h _ S.ext
  rw[show (a.wr||x.mu)=false by cases hw:a.wr<;>cases hm:x.mu<;>simp_all,Bool.false_and]at this
  exact this
 rw[show (a.wr||x.mu)=true by cases hw:a.wr<;>cases hm:x.mu<;>simp_all,Bool.true_and]at h
 refine gg_ ?_
 refine S.ldN (b:=b6) (vs:=[.int .i64 x.pl.l,.slice qx x.pl.ps.length cx]) ?_
 refine gg_ ?_
 refine S.ldN (b:=b7) (vs:=[.int .i64 a.pl.l,.slice qa a.pl.ps.length ca]) ?_
 refine Js S.holds hpx hpa λw8 e8=>?_
 have S:=S.go e8
 refine c_b (λhp=>?_) (λhp=>?_)
 ·rw[hp,Bool.true_or]at h
  exact h _ S.ext
 rw[hp,Bool.false_or]at h
 refine gg_ ?_
 refine S.ldN (b:=b7) (vs:=[.int .i64 a.pl.l,.slice qa a.pl.ps.length ca]) ?_
 refine gg_ ?_
 refine S.ldN (b:=b6) (vs:=[.int .i64 x.pl.l,.slice qx x.pl.ps.length cx]) ?_
 refine Js S.holds hpa hpx λw9 e9=>?_
 have S:=S.go e9
 refine gp_ ?_
 refine c_b (λhq=>?_) (λhq=>?_)
 ·rw[air (by simpa using hq)]at h
  exact h _ S.ext
 have hq:yp a.pl x.pl=true:=by simpa using hq
 refine S.ldB (b:=b4) ?_ rfl
 refine gg_ ?_
 refine S.ldN (b:=b6) (vs:=[.int .i64 x.pl.l,.slice qx x.pl.ps.length cx]) ?_
 obtain⟨hlt,hge⟩:=List.getElem?_eq_some_iff.1 F.at'
 refine VC S.holds hu F.may F.fn0 hlt hpx (λw3 hno _=>?_) λt m v' vg s w10 hsp e10 n10 ht hhow=>?_
 ·rw[hge,Y7 hst hf,hxm]at hno
  cases hno
 obtain⟨how,hvg,hw⟩:=hhow
 rw[hge]at hw
 obtain⟨S,_,_⟩:=S.tell e10 n10
 obtain⟨pt,capt,rfl,_⟩:=id ht
 obtain⟨pg,cg,rfl,_,_⟩:=hvg.shape
 have h8:x.pl.ps.length≤8:=by
  rw[J7 hst hf h0 h1]at hxm
  split at hxm
  ·assumption
  ·cases hxm
 have hpw:zz u.ss g.tys x.pl=some (t,how):=by
  rw[J7 hst hf h0 h1,if_pos h8,← hw,List.getD_eq_getElem?_getD,gqg h1];rfl
 have hhl:how.length=x.pl.ps.length:=vT hw
 have hW:(qk u.ss g.tys a.pl x.pl a.d).1=(how.drop a.pl.ps.length).all λk=>decide (k≤Zv a.d):=by
  rw[qk,hpw]
  show(if _ then _ else _:Bool×Int).1=_
  rw[if_neg (by rintro((hh|hh)|hh);rw[ham]at hh;cases hh;omega;omega),hq,Bool.true_and]
 rw[hW]at h
 refine gS_ ?_
 refine S.al λb9 w11 S=>?_
 refine S.stB (b:=b9) λw12 S=>?_
 have S:=S.drop b9
 refine gg_ ?_
 refine zi (ι:=Nat) (λi=>[.int .i64 ((a.pl.ps.length+i:Nat):Int)]) (λi w'=>i≤how.length-a.pl.ps.length∧(∀k (hk:k<how.length),a.pl.ps.length≤k→k<a.pl.ps.length+i→how[k]≤Zv a.d)∧StX noX w (r.or s) w' [.cell b7 [.int .i64 a.pl.l,.slice qa a.pl.ps.length ca,.int .u8 a.d,.bool a.wr] 88,.cell b6 [.int .i64 x.q,.int .i64 x.pl.l,.slice qx x.pl.ps.length cx,.bool x.mu,.int .i64 x.re] 82,.cell b4 [.slice p0 u.ss.length cap0,vf,.int .i64 u.mn] 25]) (λi=>how.length-a.pl.ps.length-i) 0 rfl ⟨Nat.zero_le _,λk _ h1 h2=>by omega,S⟩ ?_
 clear S
 rintro i dd w16 ⟨hi,hno,S⟩ K13 hK13
 rw[gdz]
 refine gg_ ?_
 refine zj (λhlt2=>?_) (λhge2=>?_)
 ·have hlt2:a.pl.ps.length+i<how.length:=by omega
  obtain⟨b1,o1,rfl,_,g1⟩:=xS hvg hlt2
  have g1:Ob s λw=>w.cell? ⟨b1,o1+(a.pl.ps.length+i),none⟩=some (.int .i64 how[a.pl.ps.length+i]):=g1
  have hnext:how[a.pl.ps.length+i]≤Zv a.d→∀k (hk:k<how.length),a.pl.ps.length≤k→k<a.pl.ps.length+(i+1)→how[k]≤Zv a.d:=λhle k hk k1 k2=>by
   rcases Nat.lt_or_ge k (a.pl.ps.length+i)with hh|hh
   ·exact hno k hk k1 hh
   ·obtain rfl:k=a.pl.ps.length+i:=by omega
    exact hle
  have hbad:¬how[a.pl.ps.length+i]≤Zv a.d→((how.drop a.pl.ps.length).all λk=>decide (k≤Zv a.d))=false:=λhle=>by
   rw[List.all_eq_false]
   refine⟨how[a.pl.ps.length+i],?_,by simpa using hle⟩
   rw[List.mem_iff_getElem]
   exact⟨i,by rw[List.length_drop];omega,by rw[List.getElem_drop]⟩
  generalize how[a.pl.ps.length+i]=y at g1 hnext hbad
  refine gg_ ?_
  refine zg (c:=decide (0<y)) (λ_ K2 hK2=>?_) ?_
  ·refine gg_ ?_
   refine zf (by rw[tnc];exact S.at (Ob.up (s:=r.or s) g1)) ?_
   refine gg_ ?_
   exact hK2
  refine jD (g:=decide (a.d=2)) (c:=decide (1<y)) (λ_ K2 hK2=>by refine gg_ ?_;exact hK2) (λ_ K2 hK2=>?_) ?_
  ·refine gg_ ?_
   refine zf (by rw[tnc];exact S.at (Ob.up (s:=r.or s) g1)) ?_
   refine gg_ ?_
   exact hK2
  refine jD (g:=decide (a.d=3)) (c:=decide (2<y)) (λ_ K2 hK2=>by refine gg_ ?_;exact hK2) (λ_ K2 hK2=>?_) ?_
  ·refine gg_ ?_
   refine zf (by rw[tnc];exact S.at (Ob.up (s:=r.or s) g1)) ?_
   refine gg_ ?_
   exact hK2
  have hcc:((decide (a.d=1)&&decide (0<y)||(decide (a.d=2)&&decide (1<y)))||(decide (a.d=3)&&decide (2<y))) = !decide (y≤Zv a.d):=by
   obtain hh|hh|hh:a.d=1∨a.d=2∨a.d=3:=by omega
   all_goals
    rw[hh,Bool.eq_iff_iff]
    simp[Zv]
    try omega
  rw[hcc]
  refine c_b (λhy=>?_) (λhy=>?_)
  ·have:=h _ S.ext
   rw[hbad (by simpa using hy)]at this
   exact this
  ·refine YS (by omega) ?_
   refine hK13 (i+1) _ ⟨by omega,hnext (by simpa using hy),S⟩ (by omega)
 ·have:=h _ S.ext
  rw[List.all_eq_true.2 λk hk=>?_]at this
  ·exact this
  obtain⟨j,hj,rfl⟩:=List.getElem_of_mem hk
  rw[List.length_drop]at hj
  rw[List.getElem_drop]
  exact decide_eq_true (hno _ (by omega) (by omega) (by omega))
section
variable {u:UnD} {fn:Int} {v:Value} {w:World} {r:Gh} {K:Value→World→Prop}
theorem amG{g:GrD}(F:IsF u fn g):lkE u fn≠2:=by
 have h:=(F.all (q:=-1) (by have:=F.head.pt1;omega)).2
 rw[lkE,h,zM,if_pos rfl]
 split<;>simp
theorem aeE{p:PlD}{c:List Value}{g:GrD}(hr:Holds r w)(hu:UnG r v u)(F:IsF u fn g)(hp:PlG r c p)
  (h:∀t q cap vg w',Ext w w'→K (.tuple #[tyV t q cap,vg,.bool (zz u.ss g.tys p).isSome]) w'):zd Tryz.prog Tryz.qw #[v,.int .i64 fn,.agg c.toArray] w K:=by
 obtain⟨hlt,hge⟩:=List.getElem?_eq_some_iff.1 F.at'
 refine VC hr hu F.may F.fn0 hlt hp (λw' hno e=>?_) λt m v' vg s w' hsp e n ht _=>?_
 ·rw[hge,Y7 F.may.ok (F.head.fine F.may.ok)]at hno
  have:=h zF none 0 (.slice none 0 0) w' e
  rw[hno]at this
  exact this
 ·obtain⟨q,cap,rfl,_⟩:=ht
  have hs:(zz u.ss g.tys p).isSome=true:=by
   rw[← Y7 F.may.ok (F.head.fine F.may.ok),← hge,hsp]
  have:=h t q cap vg w' e
  rw[hs]at this
  exact this
theorem aaI{n:Int}{a:AcD}{c:List Value}(hr:Holds r w)(hu:UnG r v u)(ha:AcG r c a)(hT:TabG r)
  (h:∀w',Ext w w'→K (.bool true) w'):zd Tryz.prog Tryz.Ye #[v,.int .i64 fn,.int .i64 n,.agg c.toArray] w K:=by
 refine Tryz.VM ?_
 unfold Tryz.Ym
 obtain⟨p0,cap0,vf,rfl,_,_,_,_,hfn⟩:=id hu
 obtain⟨qf,capf,rfl,_,_⟩:=hfn.sl.shape
 have ha0:=ha
 obtain⟨va,rfl,has⟩:=ha
 obtain⟨qa,ca,rfl,_,_⟩:=has.sl.shape
 have haf:a.pl.ps.length≤9223372036854775807:=has.few
 have S:=St.start hr
 refine S.box λb4 w1 S=>?_
 refine S.box λb7 w2 S=>?_
 have S:StX noX w r w2 [.cell b7 [.int .i64 a.pl.l,.slice qa a.pl.ps.length ca,.int .u8 a.d,.bool a.wr] 88,.cell b4 [.slice p0 u.ss.length cap0,.slice qf u.fs.length capf,.int .i64 u.mn] 25]:=S
 refine S.ldB (b:=b4) ?_ rfl
 refine aht S.holds hu λy w3 e3=>?_
 have S:=S.go e3
 have awk:∀{W:World}{ρ:Gh}{L:List Asr}{K':Value→World→Prop},StX noX w ρ W L→TabG ρ→(∀w',Ext w w'→Ext W w'→K' (.bool true) w')→zd Tryz.prog Tryz.xf #[] W K':=λS hT k=>afV S.holds hT λw3 e3=>k _ (S.go e3).ext e3
 refine gp_ ?_
 refine zm (c:=decide (40<(a.pl.ps.length:Int))) (λ_ K2 hK2=>by refine gg_ ?_;exact hK2) ?_
 refine c_b (λ_=>awk S hT λw' e _=>h w' e) (λ_=>?_)
 refine S.ldB (b:=b4) ?_ rfl
 refine S.ldB (b:=b7) ?_ rfl
 refine VA S.holds hu ha0 λw9 e9=>?_
 have S:=S.go e9
 refine gp_ ?_
 refine gp_ ?_
 refine S.ldB (b:=b4) ?_ rfl
 refine ajb S.holds hu λv10 s w10 e10 n10 hd=>?_
 obtain⟨S,_,_⟩:=S.tell e10 n10
 have hd:RgG s v10 (lkR u fn):=hd
 obtain⟨q1,c1,q2,c2,rfl,_,_⟩:=hd.shape
 rw[show (zM (zK u fn (-1))).2=lkE u fn from rfl]
 have hT1:TabG (r.or s):=hT.up
 have hu1:UnG (r.or s) (.agg #[.slice p0 u.ss.length cap0,.slice qf u.fs.length capf,.int .i64 u.mn]) u:=UnG.up hu
 have hd1:RgG (r.or s) _ (lkR u fn):=RgG.up hd
 have ha1:AcG (r.or s) [.int .i64 a.pl.l,.slice qa a.pl.ps.length ca,.int .u8 a.d,.bool a.wr] a:=AcG.up ha0
 have hfn1:=hfn
 have leρ:Le r (r.or s):=inferInstance
 generalize r.or s=ρ at S hT1 hu1 hd1 ha1 leρ
 refine gp_ ?_
 refine gp_ ?_
 refine S.al λb11 w11 S=>?_
 refine S.stB (b:=b11) λw12 S=>?_
 have S:StX noX w ρ w12 [.cell b11 (rgL (lkR u fn).lv (lkR u fn).pt (lkR u fn).ct (.slice q1 (lkR u fn).tys.length c1) (.slice q2 (lkR u fn).at'.length c2)) 74,.cell b7 [.int .i64 a.pl.l,.slice qa a.pl.ps.length ca,.int .u8 a.d,.bool a.wr] 88,.cell b4 [.slice p0 u.ss.length cap0,.slice qf u.fs.length capf,.int .i64 u.mn] 25]:=S
 refine gp_ ?_
 cases hi:isU u fn (-1)with
 |false=>
  rw[akj hi]
  refine c_t rfl ?_
  have hE:∀b,yP u fn b=2:=λb=>by rw[yP,if_neg (by rw[hi];simp)]
  rw[hE]
  refine gp_ ?_
  refine zg (c:=true) (λ_ K2 hK2=>by refine gg_ ?_;exact hK2) ?_
  refine zr (c:=true) (λ_ K2 hK2=>awk S hT1 λw' _ e=>hK2 _ e) λw8 e8=>?_
  exact h _ (S.go e8).ext
 |true=>
 obtain⟨_,_,hlt,_,_⟩:=x6 hi
 have F:=isF hi (gqg hlt)
 generalize hg:u.fs[fn.toNat]=g at F
 refine c_f (decide_eq_false (amG F)) ?_
 have hz2:∀b,yP u fn b=if b=true then lkE u fn else 2:=λb=>by
  rw[yP];simp[F.is]
 rw[hz2]
 refine S.ldB (b:=b4) ?_ rfl
 refine gg_ ?_
 refine S.ldN (b:=b7) (vs:=[.int .i64 a.pl.l,.slice qa a.pl.ps.length ca]) ?_
 refine aeE S.holds hu1 F (p:=a.pl) ⟨_,rfl,SlB.cells has⟩ λt q cap vg w22 e22=>?_
 have S:=S.go e22
 refine gp_ ?_
 refine gp_ ?_
 refine gp_ ?_
 refine S.al λb13 w23 S=>?_
 refine S.stB (b:=b13) λw24 S=>?_
 have S:=S.drop b13
 obtain⟨bf,of,cf,hqf,hcf,hgc,hfo⟩:=hfn.sl.get (by decide) hlt
 rw[hg]at hgc
 obtain⟨x1,x2,x3,x4,y1,y2,y3,y4,rfl,hg0⟩:=aeb hgc
 obtain⟨_,_,_,_,hE4,_,_,_,hptg⟩:=hg0
 cases hE4
 have hfo6:Ob ρ λw=>w.cell? ⟨bf,of+fn.toNat*7+6,none⟩=some (.slice x4 g.pts.length y4):=Ob.up (hfo 6 _ rfl)
 have hpt1:SlB 21 ρ (PtG ρ) (.slice x4 g.pts.length y4) g.pts:=hptg.up' inferInstance λ_ _ h=>PtG.up h
 have hn:=F.head.pt1024
 have hfn0:=F.fn0
 have hlf:(lkS u fn g).length≤1000000:=Nat.le_trans kA (by omega)
 subst hqf
 refine zi (ι:=Nat) (λi=>[.int .i64 ((lnsI g (reF (lkR u fn) (lkE u fn)) i).length:Nat),.int .i64 (i:Nat)]) (λi w'=>i≤g.pts.length∧StX noX w ρ w' [.cell b11 (rgL (lkR u fn).lv (lkR u fn).pt (lkR u fn).ct (.slice q1 (lkR u fn).tys.length c1) (.slice q2 (lkR u fn).at'.length c2)) 74,.cell b7 [.int .i64 a.pl.l,.slice qa a.pl.ps.length ca,.int .u8 a.d,.bool a.wr] 88,.cell b4 [.slice p0 u.ss.length cap0,.slice (some ⟨bf,of,none⟩) u.fs.length capf,.int .i64 u.mn] 25]) (λi=>g.pts.length-i) 0 rfl ⟨Nat.zero_le _,S⟩ ?_
 repeat clear S
 rintro i dd w28 ⟨hi2,S⟩ K25 hK25
 simp only[gdz,gds]
 refine gg_ ?_
 refine zf (S.at hfo6) ?_
 refine gg_ ?_
 refine zj (λhlt2=>?_) (λhge2=>?_)
 ·have hlt2:i<g.pts.length:=by omega
  obtain⟨bp,op,cp,hqp,hcp,hpg,hpo⟩:=hpt1.sl.get (by decide) hlt2
  have hnext:(lnsI g (reF (lkR u fn) (lkE u fn)) (i+1)).length=(lnsI g (reF (lkR u fn) (lkE u fn)) i).length+if g.pts[i].op=4 then 1 else 0:=by
   rw[Qs,List.length_append,J4,gqg hlt2]
   simp only
   split<;>rfl
  have hfew:(lnsI g (reF (lkR u fn) (lkE u fn)) i).length≤1000000:=Nat.le_trans kA (by omega)
  generalize g.pts[i]=pt at hpg hnext
  generalize (lnsI g (reF (lkR u fn) (lkE u fn)) i).length=k at hnext hfew
  obtain⟨z1,z2,z3,z4,z5,y1',y2',y3',y4',y5',rfl,_⟩:=xR hpg
  refine zn (λx w'=>x=[.int .i64 ((lnsI g (reF (lkR u fn) (lkE u fn)) (i+1)).length:Nat)]∧StX noX w ρ w' [.cell b11 (rgL (lkR u fn).lv (lkR u fn).pt (lkR u fn).ct (.slice q1 (lkR u fn).tys.length c1) (.slice q2 (lkR u fn).at'.length c2)) 74,.cell b7 [.int .i64 a.pl.l,.slice qa a.pl.ps.length ca,.int .u8 a.d,.bool a.wr] 88,.cell b4 [.slice p0 u.ss.length cap0,.slice (some ⟨bf,of,none⟩) u.fs.length capf,.int .i64 u.mn] 25]) (λK29 hK29=>?_) ?_
  ·rw[hnext]at hK29
   refine gg_ ?_
   refine zf (S.at hfo6) ?_
   rw[hqp]
   refine gg_ ?_
   refine zf (by rw[tnc];exact S.at (hpo 0 _ rfl)) ?_
   refine gp_ ?_
   refine zj (λh4=>?_) (λh4=>?_)
   ·refine gg_ ?_
    rw[if_pos (by omega)]at hK29
    exact hK29 _ _ ⟨rfl,S⟩
   ·rw[if_neg (by omega)]at hK29
    exact hK29 _ _ ⟨rfl,S⟩
  clear S
  rintro _ w32 ⟨rfl,S⟩ d32
  simp only[gdz]
  refine gg_ ?_
  exact hK25 (i+1) _ ⟨hlt2,S⟩ (by omega)
 have hie:i=g.pts.length:=by omega
 subst hie
 rw[show lnsI g (reF (lkR u fn) (lkE u fn)) g.pts.length=lkS u fn g from rfl]
 have hI:jq u fn n a=((((decide (0≤n)&&decide (n<((lkS u fn g).length:Int)))&&(zz u.ss g.tys a.pl).isSome)&&decide (1≤a.d))&&decide (a.d≤3)):=by rw[jq,F.at']
 refine gp_ ?_
 refine zm (c:=decide (a.d<1)) (λ_ K2 hK2=>by refine gg_ ?_;exact hK2) ?_
 refine zm (c:=decide (3<a.d)) (λ_ K2 hK2=>by refine gg_ ?_;exact hK2) ?_
 refine zm (c:=decide (n<0)) (λ_ K2 hK2=>by refine gg_ ?_;exact hK2) ?_
 refine zm (c:=decide (((lkS u fn g).length:Int)≤n)) (λ_ K2 hK2=>by refine gg_ ?_;exact hK2) ?_
 refine c_b (λhbad=>?_) (λhok=>?_)
 ·have hbI:jq u fn n a=false:=by
   cases hh:jq u fn n a with
   |false=>rfl
   |true=>
    rw[hI]at hh
    simp only[Bool.and_eq_true,Bool.or_eq_true,decide_eq_true_eq,Bool.not_eq_true']at hh hbad
    obtain⟨⟨⟨⟨h1,h2⟩,h3⟩,h4⟩,h5⟩:=hh
    rcases hbad with(((hb|hb)|hb)|hb)|hb
    ·rw[h3]at hb;cases hb
    all_goals omega
  rw[hbI,if_neg (by decide)]
  refine gp_ ?_
  refine zg (c:=true) (λ_ K2 hK2=>by refine gg_ ?_;exact hK2) ?_
  refine zr (c:=true) (λ_ K2 hK2=>awk S hT1 λw' _ e=>hK2 _ e) λw8 e8=>?_
  exact h _ (S.go e8).ext
 simp only[Bool.or_eq_false_iff,Bool.not_eq_false',decide_eq_false_iff_not]at hok
 obtain⟨⟨⟨⟨hpl,hda⟩,hdb⟩,hn0⟩,hnl⟩:=hok
 have hbI:jq u fn n a=true:=by
  rw[hI,hpl,decide_eq_true (show 0≤n by omega),decide_eq_true (show n<((lkS u fn g).length:Int)by omega),decide_eq_true (show 1≤a.d by omega),decide_eq_true (show a.d≤3 by omega)];rfl
 rw[hbI,if_pos rfl]
 refine gp_ ?_
 refine zj (λhne=>?_) (λhz=>?_)
 ·rw[decide_eq_false hne]
  refine gp_ ?_
  refine zg (c:=true) (λ_ K2 hK2=>?_) ?_
  ·refine gp_ ?_
   rw[show decide (lkE u fn=lkE u fn)=true by simp]
   exact hK2
  refine zr (c:=true) (λ_ K2 hK2=>awk S hT1 λw' _ e=>hK2 _ e) λw8 e8=>?_
  exact h _ (S.go e8).ext
 have hz:lkE u fn=0:=by omega
 have hnl2:n.toNat<(lkS u fn g).length:=by omega
 have hbV:acm u fn n a=jo u g (lkS u fn g)[n.toNat] a:=by
  rw[acm,F.at']
  simp only
  rw[gqg hnl2]
 have hmx:=amu F _ (List.getElem_mem hnl2)
 rw[hz,hbV]
 refine gp_ ?_
 have S:=S.go (Ext.drew _)
 refine zr (c:=true) (λ_ K2 hK2=>?_) λw70 e70=>?_
 ·refine S.ldB (b:=b4) ?_ rfl
  refine S.ldB (b:=b4) ?_ rfl
  refine S.ldB (b:=b11) ?_ rfl
  refine S.ldB (b:=b7) ?_ rfl
  refine ah4 S.holds hu1 F hz hd1 λv71 s71 w71 e71 n71 hls=>⟨e71,?_⟩
  have T:=St.start S.holds
  obtain⟨T,_,_⟩:=T.tell e71 n71
  obtain⟨pl,cl,rfl,_,_⟩:=hls.shape
  obtain⟨bx,ox,cx,hqx,hcx,hxc,hxo⟩:=hls.get (by decide) hnl2
  have hxc0:=LnG.up (s:=ρ.or s71) hxc
  obtain⟨vx,rfl,hxs⟩:=hxc
  obtain⟨qx,cx',rfl,_,_⟩:=hxs.sl.shape
  rw[hqx]
  refine gg_ ?_
  refine zo (n:=5) rfl (λj v hj=>T.at (Ob.up (s:=ρ.or s71) (hxo j v hj))) ?_
  refine aeD T.holds (UnG.up hu1) F hxc0 (AcG.up ha1) hmx hpl ⟨by omega,by omega⟩ λw72 e72=>?_
  refine gp_ ?_
  have:=hK2 _ (T.go e72).ext
  simpa using this
 have S:=S.go e70
 refine zr (c:=true) (λ_ K2 hK2=>awk S hT1 λw' _ e=>hK2 _ e) λw8 e8=>?_
 exact h _ (S.go e8).ext
end
end Go.Proofs
end
