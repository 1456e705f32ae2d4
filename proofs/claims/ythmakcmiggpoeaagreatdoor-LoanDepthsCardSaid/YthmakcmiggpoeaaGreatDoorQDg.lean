/-
  Openings: what arguments that are types, programs, lists of numbers tell.
  Openings: what arguments tell that are a place, an access, a yes or no.
  What rows with the library's table of bits open.
  loanwordlaw16.LoanDepths: whatever the input, the law returns true and the input reads as it did.
-/
import Derived.Test.YthmakcmiggpoeaaGreatDoorQDc
import Derived.Test.YthmakcmiggpoeaaGreatDoorRows
import Derived.WalkKit
import Derived.Test.YthmakcmiggpoeaaGreatDoorQDe
import Derived.Test.YthmakcmiggpoeaaGreatDoorCards
import Derived.Test.YthmakcmiggpoeaaGreatDoorTie
import Derived.Test.YthmakcmiggpoeaaGreatDoorQDf
set_option maxRecDepth 100000
set_option maxHeartbeats 8000000
set_option linter.unusedVariables false
set_option linter.unusedSimpArgs false
namespace Go.Proofs.YthmakcmiggpoeaaGreatDoor.openG
open Go.Sh Go.ChangeShapes Go.WideShapes Go.ChangeAt Go.RowKit
section
theorem own:ownKnob Tryz.prog.godebug=none:=by kernel_rfl
theorem aiK:laidOutB Tryz.prog=true:=by kernel_rfl
theorem aj3:mapsRowed Tryz.prog=true:=by kernel_rfl
theorem akl:((List.range Tryz.prog.types.size).all λt=>match Tryz.prog.underlying t with|some (.slice e)=>decide (0<Tryz.prog.cellsOf e)|_=>true)=true:=by kernel_rfl
theorem jR:Tryz.prog.underlying 3=some (.int .i64):=by kernel_rfl
theorem akm:Tryz.prog.underlying 2=some (.int .i64):=by kernel_rfl
theorem akn:Tryz.prog.underlying 84=some (.int .i64):=by kernel_rfl
theorem acs:Tryz.prog.underlying 4=some .bool:=by kernel_rfl
theorem ako:Tryz.prog.underlying 9=some .string:=by kernel_rfl
theorem uTk:Tryz.prog.underlying 40=some (.int .u8):=by kernel_rfl
theorem uOk:Tryz.prog.underlying 91=some (.int .u8):=by kernel_rfl
theorem uPo:Tryz.prog.underlying 90=some (.int .u8):=by kernel_rfl
theorem sTy:Tryz.prog.underlying 41=some (.slice 43)∧Tryz.prog.cellsOf 43=5:=⟨by kernel_rfl,by kernel_rfl⟩
theorem sFd:Tryz.prog.underlying 115=some (.slice 233)∧Tryz.prog.cellsOf 233=6:=⟨by kernel_rfl,by kernel_rfl⟩
theorem sSt:Tryz.prog.underlying 22=some (.slice 117)∧Tryz.prog.cellsOf 117=2:=⟨by kernel_rfl,by kernel_rfl⟩
theorem sGr:Tryz.prog.underlying 23=some (.slice 101)∧Tryz.prog.cellsOf 101=7:=⟨by kernel_rfl,by kernel_rfl⟩
theorem sOu:Tryz.prog.underlying 97=some (.slice 194)∧Tryz.prog.cellsOf 194=2:=⟨by kernel_rfl,by kernel_rfl⟩
theorem sSs:Tryz.prog.underlying 98=some (.slice 9)∧Tryz.prog.cellsOf 9=1:=⟨by kernel_rfl,by kernel_rfl⟩
theorem sPt:Tryz.prog.underlying 99=some (.slice 96)∧Tryz.prog.cellsOf 96=21:=⟨by kernel_rfl,by kernel_rfl⟩
theorem sOp:Tryz.prog.underlying 94=some (.slice 93)∧Tryz.prog.cellsOf 93=4:=⟨by kernel_rfl,by kernel_rfl⟩
theorem sSp:Tryz.prog.underlying 78=some (.slice 84)∧Tryz.prog.cellsOf 84=1:=⟨by kernel_rfl,by kernel_rfl⟩
theorem aTy:∃fs,Tryz.prog.underlying 43=some (.struct fs)∧fs.toList.map (·.type)=[40,4,3,3,41]:=xE (by kernel_rfl)
theorem aFd:∃fs,Tryz.prog.underlying 233=some (.struct fs)∧fs.toList.map (·.type)=[9,43]:=xE (by kernel_rfl)
theorem aSt:∃fs,Tryz.prog.underlying 117=some (.struct fs)∧fs.toList.map (·.type)=[9,115]:=xE (by kernel_rfl)
theorem aPl:∃fs,Tryz.prog.underlying 80=some (.struct fs)∧fs.toList.map (·.type)=[3,78]:=xE (by kernel_rfl)
theorem aOp:∃fs,Tryz.prog.underlying 93=some (.struct fs)∧fs.toList.map (·.type)=[91,2,80]:=xE (by kernel_rfl)
theorem aPt:∃fs,Tryz.prog.underlying 96=some (.struct fs)∧fs.toList.map (·.type)=[90,80,93,93,94,9,80,4,3,3,3,3,3]:=xE (by kernel_rfl)
theorem aOu:∃fs,Tryz.prog.underlying 194=some (.struct fs)∧fs.toList.map (·.type)=[3,3]:=xE (by kernel_rfl)
theorem aGr:∃fs,Tryz.prog.underlying 101=some (.struct fs)∧fs.toList.map (·.type)=[9,3,97,3,41,98,99]:=xE (by kernel_rfl)
theorem aUn:∃fs,Tryz.prog.underlying 25=some (.struct fs)∧fs.toList.map (·.type)=[22,23,3]:=xE (by kernel_rfl)
theorem aiL:ac4 Tryz.prog [25,22,117,115,233,9,43,40,4,3,41,23,101,97,194,98,99,96,90,
 80,78,84,93,91,2,94]=true:=by kernel_rfl
theorem vA{α:Type}{f:α→Dat}{G:α→Prop}{d:Dat}{T e:TypeId}{n:Nat}(u:Tryz.prog.underlying T=some (.slice e)∧Tryz.prog.cellsOf e=n)(h:d.ok Tryz.prog T)(hf:∀x:Dat,SizeOf.sizeOf x<SizeOf.sizeOf d→x.ok Tryz.prog e→∃t,x=f t∧G t):
  ∃l:List α,d=.sl n (l.map f)∧l.length≤maxLen∧∀t∈l,G t:=by
 obtain⟨es,rfl,hl,hk⟩:=ai9 u.1 h
 obtain⟨l,rfl,hg⟩:=ac6 (f:=f) (G:=G) es λx hx=>hf x (by
  have:=List.sizeOf_lt_of_mem hx
  simp only[Dat.sl.sizeOf_spec];omega) (hk x hx)
 exact⟨l,by rw[u.2],by simpa using hl,hg⟩
theorem aj4:∀(n:Nat)(d:Dat),SizeOf.sizeOf d≤n→d.ok Tryz.prog 43→∃t:TyD,d=t.dat:=by
 intro n
 induction n with
 |zero=>intro d h _;cases d<;>simp at h
 |succ n ih=>
  intro d hs h
  obtain⟨ds,rfl,e0⟩:=qA aTy h
  obtain⟨d0,ds,rfl,h0,e1⟩:=zr e0
  obtain⟨d1,ds,rfl,h1,e2⟩:=zr e1
  obtain⟨d2,ds,rfl,h2,e3⟩:=zr e2
  obtain⟨d3,ds,rfl,h3,e4⟩:=zr e3
  obtain⟨d4,ds,rfl,h4,e5⟩:=zr e4
  obtain rfl:=qB e5
  obtain⟨k,rfl,_⟩:=yo uTk h0
  obtain⟨m,rfl⟩:=ac5 acs h1
  obtain⟨re,rfl,_⟩:=yo jR h2
  obtain⟨st,rfl,_⟩:=yo jR h3
  obtain⟨l,rfl,_,_⟩:=vA (f:=TyD.dat) (G:=λ_=>True) sTy h4 λx hx hk=>by
   obtain⟨t,ht⟩:=ih x (by
    simp only[Dat.agg.sizeOf_spec,List.cons.sizeOf_spec]at hs
    omega) hk
   exact⟨t,ht,trivial⟩
  exact⟨.mk k m re st l,by rw[TyD.dat,TyD.dats_map]⟩
theorem agF{d:Dat}(h:d.ok Tryz.prog 43):∃t:TyD,d=t.dat∧True:=by
 obtain⟨t,ht⟩:=aj4 _ d (Nat.le_refl _) h
 exact⟨t,ht,trivial⟩
theorem Jc{d:Dat}(h:d.ok Tryz.prog 9):∃s:ByteArray,d=.str s∧True:=by
 obtain⟨s,hs,_⟩:=aid ako h
 exact⟨s,hs,trivial⟩
theorem aiM{n:Int}(h:(Lit.int .i64 n).wf=true):YK n:=by have:=afM h;exact⟨this.1,by omega⟩
theorem ajB{d:Dat}(h:d.ok Tryz.prog 84):∃n:Int,d=Dat.int .i64 n∧YK n:=by
 obtain⟨n,hn,hw⟩:=yo akn h
 exact⟨n,hn,aiM hw⟩
theorem aj5{d:Dat}(h:d.ok Tryz.prog 233):∃f:ByteArray×TyD,d=ac1 f∧True:=by
 obtain⟨ds,rfl,e0⟩:=qA aFd h
 obtain⟨d0,ds,rfl,h0,e1⟩:=zr e0
 obtain⟨d1,ds,rfl,h1,e2⟩:=zr e1
 obtain rfl:=qB e2
 obtain⟨s,rfl,_⟩:=Jc h0
 obtain⟨t,rfl,_⟩:=agF h1
 exact⟨(s,t),rfl,trivial⟩
theorem aj6{d:Dat}(h:d.ok Tryz.prog 117):∃s:StD,d=s.dat∧True:=by
 obtain⟨ds,rfl,e0⟩:=qA aSt h
 obtain⟨d0,ds,rfl,h0,e1⟩:=zr e0
 obtain⟨d1,ds,rfl,h1,e2⟩:=zr e1
 obtain rfl:=qB e2
 obtain⟨s,rfl,_⟩:=Jc h0
 obtain⟨l,rfl,_,_⟩:=vA (f:=ac1) (G:=λ_=>True) sFd h1 λx _ hk=>aj5 hk
 exact⟨⟨s,l⟩,rfl,trivial⟩
theorem acu{d:Dat}(h:d.ok Tryz.prog 80):∃p:PlD,d=p.dat∧p.ok:=by
 obtain⟨ds,rfl,e0⟩:=qA aPl h
 obtain⟨d0,ds,rfl,h0,e1⟩:=zr e0
 obtain⟨d1,ds,rfl,h1,e2⟩:=zr e1
 obtain rfl:=qB e2
 obtain⟨n,rfl,_⟩:=yo jR h0
 obtain⟨l,rfl,hl,hg⟩:=vA (f:=Dat.int .i64) (G:=YK) sSp h1 λx _ hk=>ajB hk
 exact⟨⟨n,l⟩,rfl,hl,hg⟩
theorem afo{d:Dat}(h:d.ok Tryz.prog 93):∃o:OpD,d=o.dat∧o.ok:=by
 obtain⟨ds,rfl,e0⟩:=qA aOp h
 obtain⟨d0,ds,rfl,h0,e1⟩:=zr e0
 obtain⟨d1,ds,rfl,h1,e2⟩:=zr e1
 obtain⟨d2,ds,rfl,h2,e3⟩:=zr e2
 obtain rfl:=qB e3
 obtain⟨k,rfl,_⟩:=yo uOk h0
 obtain⟨n,rfl,_⟩:=yo akm h1
 obtain⟨p,rfl,hp⟩:=acu h2
 exact⟨⟨k,n,p⟩,rfl,hp⟩
theorem aj7{d:Dat}(h:d.ok Tryz.prog 96):∃p:PtD,d=p.dat∧p.ok:=by
 obtain⟨ds,rfl,e0⟩:=qA aPt h
 obtain⟨d0,ds,rfl,h0,e1⟩:=zr e0
 obtain⟨d1,ds,rfl,h1,e2⟩:=zr e1
 obtain⟨d2,ds,rfl,h2,e3⟩:=zr e2
 obtain⟨d3,ds,rfl,h3,e4⟩:=zr e3
 obtain⟨d4,ds,rfl,h4,e5⟩:=zr e4
 obtain⟨d5,ds,rfl,h5,e6⟩:=zr e5
 obtain⟨d6,ds,rfl,h6,e7⟩:=zr e6
 obtain⟨d7,ds,rfl,h7,e8⟩:=zr e7
 obtain⟨d8,ds,rfl,h8,e9⟩:=zr e8
 obtain⟨d9,ds,rfl,h9,e10⟩:=zr e9
 obtain⟨d10,ds,rfl,h10,e11⟩:=zr e10
 obtain⟨d11,ds,rfl,h11,e12⟩:=zr e11
 obtain⟨d12,ds,rfl,h12,e13⟩:=zr e12
 obtain rfl:=qB e13
 obtain⟨op,rfl,_⟩:=yo uPo h0
 obtain⟨to,rfl,g1⟩:=acu h1
 obtain⟨a,rfl,g2⟩:=afo h2
 obtain⟨b,rfl,g3⟩:=afo h3
 obtain⟨l,rfl,hl,g4⟩:=vA (f:=OpD.dat) (G:=OpD.ok) sOp h4 λx _ hk=>afo hk
 obtain⟨s,rfl,_⟩:=Jc h5
 obtain⟨fr,rfl,g6⟩:=acu h6
 obtain⟨mu,rfl⟩:=ac5 acs h7
 obtain⟨fn,rfl,_⟩:=yo jR h8
 obtain⟨st,rfl,_⟩:=yo jR h9
 obtain⟨nx,rfl,_⟩:=yo jR h10
 obtain⟨el,rfl,_⟩:=yo jR h11
 obtain⟨tx,rfl,_⟩:=yo jR h12
 exact⟨⟨op,to,a,b,l,s,fr,mu,fn,st,nx,el,tx⟩,rfl,g1,g2,g3,⟨hl,g4⟩,g6⟩
theorem aj8{d:Dat}(h:d.ok Tryz.prog 194):∃x:Int×Int,d=aeT x∧True:=by
 obtain⟨ds,rfl,e0⟩:=qA aOu h
 obtain⟨d0,ds,rfl,h0,e1⟩:=zr e0
 obtain⟨d1,ds,rfl,h1,e2⟩:=zr e1
 obtain rfl:=qB e2
 obtain⟨a,rfl,_⟩:=yo jR h0
 obtain⟨b,rfl,_⟩:=yo jR h1
 exact⟨(a,b),rfl,trivial⟩
theorem aj9{d:Dat}(h:d.ok Tryz.prog 101):∃g:GrD,d=g.dat∧g.ok:=by
 obtain⟨ds,rfl,e0⟩:=qA aGr h
 obtain⟨d0,ds,rfl,h0,e1⟩:=zr e0
 obtain⟨d1,ds,rfl,h1,e2⟩:=zr e1
 obtain⟨d2,ds,rfl,h2,e3⟩:=zr e2
 obtain⟨d3,ds,rfl,h3,e4⟩:=zr e3
 obtain⟨d4,ds,rfl,h4,e5⟩:=zr e4
 obtain⟨d5,ds,rfl,h5,e6⟩:=zr e5
 obtain⟨d6,ds,rfl,h6,e7⟩:=zr e6
 obtain rfl:=qB e7
 obtain⟨s,rfl,_⟩:=Jc h0
 obtain⟨lv,rfl,_⟩:=yo jR h1
 obtain⟨lo,rfl,g2,_⟩:=vA (f:=aeT) (G:=λ_=>True) sOu h2 λx _ hk=>aj8 hk
 obtain⟨pn,rfl,_⟩:=yo jR h3
 obtain⟨lt,rfl,g4,_⟩:=vA (f:=TyD.dat) (G:=λ_=>True) sTy h4 λx _ hk=>agF hk
 obtain⟨ln,rfl,g5,_⟩:=vA (f:=Dat.str) (G:=λ_=>True) sSs h5 λx _ hk=>Jc hk
 obtain⟨lp,rfl,g6,hp⟩:=vA (f:=PtD.dat) (G:=PtD.ok) sPt h6 λx _ hk=>aj7 hk
 exact⟨⟨s,lv,lo,pn,lt,ln,lp⟩,rfl,g2,g4,g5,g6,hp⟩
theorem aka{d:Dat}(h:d.ok Tryz.prog 25):∃u:UnD,d=u.dat∧u.ok:=by
 obtain⟨ds,rfl,e0⟩:=qA aUn h
 obtain⟨d0,ds,rfl,h0,e1⟩:=zr e0
 obtain⟨d1,ds,rfl,h1,e2⟩:=zr e1
 obtain⟨d2,ds,rfl,h2,e3⟩:=zr e2
 obtain rfl:=qB e3
 obtain⟨ss,rfl,g0,_⟩:=vA (f:=StD.dat) (G:=λ_=>True) sSt h0 λx _ hk=>aj6 hk
 obtain⟨fs,rfl,g1,hg⟩:=vA (f:=GrD.dat) (G:=GrD.ok) sGr h1 λx _ hk=>aj9 hk
 obtain⟨mn,rfl,_⟩:=yo jR h2
 exact⟨⟨ss,fs,mn⟩,rfl,g0,g1,hg⟩
section
variable {H:Type} {enc:TypeId×Value→H} {W:World} {base:Nat} {v:Value} {d:DataW H} {p:List MemPlace}
theorem aiN(hv:Value.okWide Tryz.prog W .any base 25 v)(h:DataW.Trod enc Tryz.prog W 0 (λ_=>true) true 25 v d p):∃u:UnD,UnG (all W) v u:=by
 obtain⟨fs,hu,_⟩:=aUn
 obtain⟨cs,rfl,hsz⟩:=okWide_struct hu hv
 obtain⟨fuel,hf⟩:=h
 obtain⟨d,hr,hd⟩:=vk aiL fuel 25 _ _ (by simp) hf
 obtain⟨u,rfl,hk⟩:=aka hd
 exact⟨u,by simpa [Value.cells]using afP hr hk⟩
theorem adO(hv:Value.okWide Tryz.prog W .any base 3 v)(h:DataW.Trod enc Tryz.prog W 0 (λ_=>true) true 3 v d p):∃n:Int,v=.int .i64 n∧-9223372036854775808≤n∧n≤9223372036854775807:=by
 obtain⟨n,rfl,_,_,hw⟩:=open_int jR hv h
 exact⟨n,rfl,afM hw⟩
end
theorem aiO:ac4 Tryz.prog [88,80,3,78,84,86,4]=true:=by kernel_rfl
section
variable {H:Type} {enc:TypeId×Value→H} {W:World} {base:Nat} {v:Value} {d:DataW H} {p:List MemPlace}
theorem ahE(hv:Value.okWide Tryz.prog W .any base 80 v)(h:DataW.Trod enc Tryz.prog W 0 (λ_=>true) true 80 v d p):∃(c:List Value)(x:PlD),v=.agg c.toArray∧PlG (all W) c x:=by
 obtain⟨fs,hu,_⟩:=aPl
 obtain⟨cs,rfl,hsz⟩:=okWide_struct hu hv
 obtain⟨fuel,hf⟩:=h
 obtain⟨d,hr,hd⟩:=vk aiO fuel 80 _ _ (by simp) hf
 obtain⟨x,rfl,hk⟩:=acu hd
 exact⟨cs.toList,x,by simp,by simpa [Value.cells]using Ys hr hk⟩
theorem agG(hv:Value.okWide Tryz.prog W .any base 4 v)(h:DataW.Trod enc Tryz.prog W 0 (λ_=>true) true 4 v d p):∃b,v=.bool b:=okWide_bool acs hv
end
theorem ajC : Tryz.prog.globalNamed "math/bits.deBruijn64tab" = some 0 := by kernel_rfl
theorem ahF:(Tryz.prog.globals[0]?).map (·.type)=some 275:=by kernel_rfl
theorem akp:Tryz.prog.underlying 275=some (.array 64 5):=by kernel_rfl
theorem akb:Tryz.prog.underlying 5=some (.int .u8):=by kernel_rfl
theorem ahG:Tryz.prog.cellsOf 275=64:=by kernel_rfl
theorem agH:Tryz.prog.cellsOf 5=1:=by kernel_rfl
theorem ajD {W : World} (h : laidMetH Tryz.prog [("math/bits.deBruijn64tab", Rows.laid_math_bits_deBruijn64tab)] W) : TabG (all W) := by
 have ht : Lib.TabIs Tryz.prog W "math/bits.deBruijn64tab" .u8 (Lib.deBruijn64tab.map fun n : Nat => (n : Int)) :=
  Lib.tabIs_of_head (rest:=[]) ajC ahF akp akb agH ahG h
 have hT:Tab W:=λj hj=>by
  have hc:=ht.cell ajC j (by rw[List.length_map];exact hj)
  rw[hc]
  congr 2
  have hj':j<Lib.deBruijn64tab.length:=hj
  simp[ggd,hj']
 exact⟨λw' k j hj=>acO (hT j hj) w' k,_,Array.getElem?_eq_getElem (aaF (hT 0 (by decide)))⟩
noncomputable def XW(os:Os):World:=
 { World.holding Tryz.prog os ⟨#[],#[],[]⟩with heap:=(World.holding Tryz.prog os ⟨#[],#[],[]⟩).heap.modify 0 fun
   |.cells _ t frozen=>.cells ((Lib.deBruijn64tab.map λn:Nat=>Value.int .u8 (n:Int)).toArray) t frozen
   |o=>o }
end
end Go.Proofs.YthmakcmiggpoeaaGreatDoor.openG
namespace Go.Proofs.YthmakcmiggpoeaaGreatDoor.loanDepths
open Go.Sh Go.ChangeShapes Go.WideShapes Go.ChangeAt Go.RowKit openG
theorem ahH(H:Type)(enc:TypeId×Value→H)(W:World)(base:Nat)(args:Array Value)(ds gs:List (DataW H))(before:List MemPlace)
  (hval:∀(j:Nat) t v,Tryz.f9.params[j]? = some t→args[j]? = some v→Value.okWide Tryz.prog W .any base t v)
  (hW:DataW.Whole enc Tryz.prog Tryz.f9.params.toList Rows.loanDepthsSpec.vars false W args.toList ds gs before) (hL:laidMetH Tryz.prog Rows.loanDepthsRow.laid W):
  Calls Tryz.prog 9 args W λe W'=>∃v,e=.returned v∧Rows.loanDepthsSpec.post enc Tryz.prog Tryz.f9 false true false false W args v W':=by
 have hW':=hW
 obtain⟨p,q,hA,hV,rfl,hfz,hnd⟩:=hW
 rw[show Tryz.f9.params.toList=[25,3,3,80,4]by kernel_rfl]at hA
 obtain⟨v0,vs0,d0,ds0,p0,q100,hargs,rfl,rfl,h0,r0⟩:=trodAll_cons hA
 obtain⟨v1,vs1,d1,ds1,p1,q101,rfl,rfl,rfl,h1,r1⟩:=trodAll_cons r0
 obtain⟨v2,vs2,d2,ds2,p2,q102,rfl,rfl,rfl,h2,r2⟩:=trodAll_cons r1
 obtain⟨v3,vs3,d3,ds3,p3,q103,rfl,rfl,rfl,h3,r3⟩:=trodAll_cons r2
 obtain⟨v4,vs4,d4,ds4,p4,q104,rfl,rfl,rfl,h4,r4⟩:=trodAll_cons r3
 obtain⟨rfl,rfl,rfl⟩:=trodAll_nil r4
 obtain rfl:args=#[v0,v1,v2,v3,v4]:=by cases args;simp_all
 obtain⟨rfl,rfl⟩:=trodVars_none hV
 obtain⟨u0,hu0⟩:=aiN (hval 0 25 v0 (by kernel_rfl) rfl) h0
 obtain⟨n1,rfl,hi1⟩:=adO (hval 1 3 v1 (by kernel_rfl) rfl) h1
 obtain⟨n2,rfl,hi2⟩:=adO (hval 2 3 v2 (by kernel_rfl) rfl) h2
 obtain⟨c3,x3,rfl,hp3⟩:=ahE (hval 3 80 v3 (by kernel_rfl) rfl) h3
 obtain⟨b4,rfl⟩:=agG (hval 4 4 v4 (by kernel_rfl) rfl) h4
 refine Calls.mono (Jb (K:=λv W'=>v=.bool true∧Ext W W') (afz W) hu0 hp3 (ajD hL) λw' e=>⟨rfl,e⟩) ?_
 rintro e W' ⟨v,he,rfl,hE⟩
 exact⟨_,he,afK aiK aj3 akl (by rw[show Tryz.f9.params.toList=[25,3,3,80,4]by kernel_rfl];decide) rfl (by kernel_rfl) acs hW' rfl hE⟩
def wit:Array Value:=#[.agg #[.slice none 0 0,.slice none 0 0,.int .i64 0],.int .i64 0,.int .i64 0,.agg #[.int .i64 0,.slice none 0 0],.bool false]
theorem akc(os:Os){H:Type}(enc:TypeId×Value→H):∃ds places,DataW.whole enc Tryz.prog ((XW os).forCall (λ_ _=>0) ⟨#[],wit,[]⟩).memory Tryz.f9.params.toList Rows.loanDepthsSpec.vars false wit.toList 8=some (ds,[],places):=
 ⟨[.agg [.nil,.nil,.lit (.int .i64 0)],.lit (.int .i64 0),.lit (.int .i64 0),.agg [.lit (.int .i64 0),.nil],.lit (.bool false)],[],by kernel_rfl⟩
theorem ahI(os:Os):laidMet Tryz.prog Rows.loanDepthsRow.laid ((XW os).forCall (λ_ _=>0) ⟨#[],wit,[]⟩).memory:=
 laidMet_of_run' 8 (by kernel_rfl) (by kernel_rfl)
theorem ajE(os:Os)(started:os.Started)(H:Type)(enc:TypeId×Value→H)(F:Stop.Interp):
  ReturnsInHanded {} Tryz.checked os 9 .any ((OpenSpec.ofChange Rows.loanDepthsSpec).preRow enc Tryz.prog Tryz.f9 Rows.loanDepthsRow.domain false Rows.loanDepthsRow.laid) (((OpenSpec.ofChange Rows.loanDepthsSpec).at F).post enc Tryz.prog Tryz.f9 false true false false):=by
 obtain⟨ds,places,hx⟩:=akc os enc
 refine returnsInHanded_of_row (C:=Tryz.checked) (s:=OpenSpec.ofChange Rows.loanDepthsSpec) own started (by kernel_rfl) Tryz.func9
  (witness_row_at (enc:=enc) (C:=Tryz.checked) false (XW os) wit rfl (by kernel_rfl) (by kernel_rfl) (by kernel_rfl)
   (OpenSpec.preRow_of_cond 8 hx (by kernel_rfl) (λk hk=>by cases hk) (by kernel_rfl) (ahI os))) ?_
 intro W base args ds gs before hval hW _ _ _ hL _ _
 exact ahH H enc W base args ds gs before hval hW hL
theorem ajF:joinedFacts Tryz.pinned.checked.prog 9 Tryz.f9 (OpenSpec.ofChange Rows.loanDepthsSpec).bare Rows.loanDepthsRow=true:=by
 unfold joinedFacts
 simp only[gba]
 refine⟨⟨⟨⟨⟨⟨⟨⟨⟨⟨⟨⟨⟨⟨⟨⟨⟨⟨⟨⟨⟨⟨⟨⟨⟨⟨⟨⟨⟨⟨⟨?_,?_⟩,?_⟩,?_⟩,?_⟩,?_⟩,?_⟩,?_⟩,?_⟩,?_⟩,?_⟩,?_⟩,?_⟩,?_⟩,?_⟩,?_⟩,?_⟩,?_⟩,?_⟩,?_⟩,?_⟩,?_⟩,?_⟩,?_⟩,?_⟩,?_⟩,?_⟩,?_⟩,?_⟩,?_⟩,?_⟩,?_⟩<;>decide +kernel
theorem said:Rows.LoanDepthsSaid:=
 OpenClaim.holds_of_cond 9 Tryz.f9 rfl rfl rfl rfl rfl rfl rfl ⟨rfl,rfl,rfl,rfl,rfl⟩ rfl rfl rfl rfl rfl (by kernel_rfl) Tryz.func9 ajF
  (of_decide_eq_true (by kernel_rfl)) (by unfold Func.isWrapper;first|(rw[if_pos (by decide +kernel)];kernel_rfl)|(rw[if_neg (by decide +kernel)];exact⟨rfl,rfl⟩))
  (λos started H enc _ F=>by rw[OpenClaim.pre_eq_preRow];exact ajE os started H enc F)
theorem plain (f : FuncId) (fn : Func) (hf : Tryz.pinned.checked.prog.funcNamed "loanword/loanwordlaw16.LoanDepths" = some f) (hfn : Tryz.pinned.checked.prog.funcs[f]? = some fn) :
  false=Tryz.pinned.checked.prog.looks []∧∀(j:Nat) t,fn.params[j]? = some t→Tryz.pinned.checked.prog.wantsStandIn t=false:=by
 obtain rfl : f = 9 := Option.some.inj ((show Tryz.prog.funcNamed "loanword/loanwordlaw16.LoanDepths" = some 9 by kernel_rfl).symm.trans hf) |>.symm
 obtain rfl:fn=Tryz.f9:=(Option.some.inj (Tryz.func9.symm.trans hfn)).symm
 refine⟨by kernel_rfl,λj t ht=>?_⟩
 have hall:(Tryz.f9.params.all λt=>!(Tryz.prog.wantsStandIn t))=true:=by kernel_rfl
 have:=Array.all_eq_true_iff_forall_mem.1 hall t (Array.mem_of_getElem? ht)
 show Tryz.prog.wantsStandIn t=false
 simpa using this
theorem card:Rows.LoanDepthsCardSaid:=
 Claim7.holds_tied_plain_at .later [] _ _ _ _ said (λ_ h=>by cases h) (by kernel_rfl) (λ_ h=>by cases h) loanDepths_row_tie rfl ⟨rfl,rfl⟩ (by kernel_rfl) rfl plain (by kernel_rfl)
end Go.Proofs.YthmakcmiggpoeaaGreatDoor.loanDepths
