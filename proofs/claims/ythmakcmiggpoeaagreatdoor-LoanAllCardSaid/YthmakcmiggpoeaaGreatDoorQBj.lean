/-
  Openings: what arguments that are types, programs, lists of numbers tell.
  What rows with the library's table of bits open.
  loanwordlaw16.LoanAll: whatever the input, the law returns true and the input reads as it did.
-/
import Derived.Test.YthmakcmiggpoeaaGreatDoorQBc
import Derived.Test.YthmakcmiggpoeaaGreatDoorRows
import Derived.WalkKit
import Derived.Test.YthmakcmiggpoeaaGreatDoorQBg
import Derived.Test.YthmakcmiggpoeaaGreatDoorCards
import Derived.Test.YthmakcmiggpoeaaGreatDoorTie
import Derived.Test.YthmakcmiggpoeaaGreatDoorQBi
set_option maxRecDepth 100000
set_option maxHeartbeats 8000000
set_option linter.unusedVariables false
set_option linter.unusedSimpArgs false
namespace Go.Proofs.YthmakcmiggpoeaaGreatDoor.openG
open Go.Sh Go.ChangeShapes Go.WideShapes Go.ChangeAt Go.RowKit
section
theorem own:ownKnob Tryz.prog.godebug=none:=by kernel_rfl
theorem am6:laidOutB Tryz.prog=true:=by kernel_rfl
theorem aot:mapsRowed Tryz.prog=true:=by kernel_rfl
theorem aoI:((List.range Tryz.prog.types.size).all λt=>match Tryz.prog.underlying t with|some (.slice e)=>decide (0<Tryz.prog.cellsOf e)|_=>true)=true:=by kernel_rfl
theorem ZA:Tryz.prog.underlying 3=some (.int .i64):=by kernel_rfl
theorem aoJ:Tryz.prog.underlying 2=some (.int .i64):=by kernel_rfl
theorem aoK:Tryz.prog.underlying 84=some (.int .i64):=by kernel_rfl
theorem ajZ:Tryz.prog.underlying 4=some .bool:=by kernel_rfl
theorem aoL:Tryz.prog.underlying 9=some .string:=by kernel_rfl
theorem uTk:Tryz.prog.underlying 40=some (.int .u8):=by kernel_rfl
theorem uOk:Tryz.prog.underlying 91=some (.int .u8):=by kernel_rfl
theorem uPo:Tryz.prog.underlying 90=some (.int .u8):=by kernel_rfl
theorem sTy:Tryz.prog.underlying 41=some (.slice 43)∧Tryz.prog.cellsOf 43=5:=⟨by kernel_rfl,by kernel_rfl⟩
theorem sFd:Tryz.prog.underlying 115=some (.slice 233)∧Tryz.prog.cellsOf 233=6:=⟨by kernel_rfl,by kernel_rfl⟩
theorem sSt:Tryz.prog.underlying 22=some (.slice 117)∧Tryz.prog.cellsOf 117=2:=⟨by kernel_rfl,by kernel_rfl⟩
theorem sGr:Tryz.prog.underlying 23=some (.slice 101)∧Tryz.prog.cellsOf 101=7:=⟨by kernel_rfl,by kernel_rfl⟩
theorem sOu:Tryz.prog.underlying 97=some (.slice 194)∧Tryz.prog.cellsOf 194=2:=⟨by kernel_rfl,by kernel_rfl⟩
theorem sSs:Tryz.prog.underlying 98=some (.slice 9)∧Tryz.prog.cellsOf 9=1:=⟨by kernel_rfl,by kernel_rfl⟩
theorem sPt:Tryz.prog.underlying 99=some (.slice 96)∧Tryz.prog.cellsOf 96=21:=⟨by kernel_rfl,by kernel_rfl⟩
theorem sOp:Tryz.prog.underlying 94=some (.slice 93)∧Tryz.prog.cellsOf 93=4:=⟨by kernel_rfl,by kernel_rfl⟩
theorem sSp:Tryz.prog.underlying 78=some (.slice 84)∧Tryz.prog.cellsOf 84=1:=⟨by kernel_rfl,by kernel_rfl⟩
theorem aTy:∃fs,Tryz.prog.underlying 43=some (.struct fs)∧fs.toList.map (·.type)=[40,4,3,3,41]:=kB (by kernel_rfl)
theorem aFd:∃fs,Tryz.prog.underlying 233=some (.struct fs)∧fs.toList.map (·.type)=[9,43]:=kB (by kernel_rfl)
theorem aSt:∃fs,Tryz.prog.underlying 117=some (.struct fs)∧fs.toList.map (·.type)=[9,115]:=kB (by kernel_rfl)
theorem aPl:∃fs,Tryz.prog.underlying 80=some (.struct fs)∧fs.toList.map (·.type)=[3,78]:=kB (by kernel_rfl)
theorem aOp:∃fs,Tryz.prog.underlying 93=some (.struct fs)∧fs.toList.map (·.type)=[91,2,80]:=kB (by kernel_rfl)
theorem aPt:∃fs,Tryz.prog.underlying 96=some (.struct fs)∧fs.toList.map (·.type)=[90,80,93,93,94,9,80,4,3,3,3,3,3]:=kB (by kernel_rfl)
theorem aOu:∃fs,Tryz.prog.underlying 194=some (.struct fs)∧fs.toList.map (·.type)=[3,3]:=kB (by kernel_rfl)
theorem aGr:∃fs,Tryz.prog.underlying 101=some (.struct fs)∧fs.toList.map (·.type)=[9,3,97,3,41,98,99]:=kB (by kernel_rfl)
theorem aUn:∃fs,Tryz.prog.underlying 25=some (.struct fs)∧fs.toList.map (·.type)=[22,23,3]:=kB (by kernel_rfl)
theorem am7:akj Tryz.prog [25,22,117,115,233,9,43,40,4,3,41,23,101,97,194,98,99,96,90,
 80,78,84,93,91,2,94]=true:=by kernel_rfl
theorem Yd{α:Type}{f:α→Dat}{G:α→Prop}{d:Dat}{T e:TypeId}{n:Nat}(u:Tryz.prog.underlying T=some (.slice e)∧Tryz.prog.cellsOf e=n)(h:d.ok Tryz.prog T)(hf:∀x:Dat,SizeOf.sizeOf x<SizeOf.sizeOf d→x.ok Tryz.prog e→∃t,x=f t∧G t):
  ∃l:List α,d=.sl n (l.map f)∧l.length≤maxLen∧∀t∈l,G t:=by
 obtain⟨es,rfl,hl,hk⟩:=ant u.1 h
 obtain⟨l,rfl,hg⟩:=aho (f:=f) (G:=G) es λx hx=>hf x (by
  have:=List.sizeOf_lt_of_mem hx
  simp only[Dat.sl.sizeOf_spec];omega) (hk x hx)
 exact⟨l,by rw[u.2],by simpa using hl,hg⟩
theorem aou:∀(n:Nat)(d:Dat),SizeOf.sizeOf d≤n→d.ok Tryz.prog 43→∃t:TyD,d=t.dat:=by
 intro n
 induction n with
 |zero=>intro d h _;cases d<;>simp at h
 |succ n ih=>
  intro d hs h
  obtain⟨ds,rfl,e0⟩:=jD aTy h
  obtain⟨d0,ds,rfl,h0,e1⟩:=zy e0
  obtain⟨d1,ds,rfl,h1,e2⟩:=zy e1
  obtain⟨d2,ds,rfl,h2,e3⟩:=zy e2
  obtain⟨d3,ds,rfl,h3,e4⟩:=zy e3
  obtain⟨d4,ds,rfl,h4,e5⟩:=zy e4
  obtain rfl:=jE e5
  obtain⟨k,rfl,_⟩:=yR uTk h0
  obtain⟨m,rfl⟩:=ahn ajZ h1
  obtain⟨re,rfl,_⟩:=yR ZA h2
  obtain⟨st,rfl,_⟩:=yR ZA h3
  obtain⟨l,rfl,_,_⟩:=Yd (f:=TyD.dat) (G:=λ_=>True) sTy h4 λx hx hk=>by
   obtain⟨t,ht⟩:=ih x (by
    simp only[Dat.agg.sizeOf_spec,List.cons.sizeOf_spec]at hs
    omega) hk
   exact⟨t,ht,trivial⟩
  exact⟨.mk k m re st l,by rw[TyD.dat,TyD.dats_map]⟩
theorem ak6{d:Dat}(h:d.ok Tryz.prog 43):∃t:TyD,d=t.dat∧True:=by
 obtain⟨t,ht⟩:=aou _ d (Nat.le_refl _) h
 exact⟨t,ht,trivial⟩
theorem aa1{d:Dat}(h:d.ok Tryz.prog 9):∃s:ByteArray,d=.str s∧True:=by
 obtain⟨s,hs,_⟩:=amG aoL h
 exact⟨s,hs,trivial⟩
theorem am8{n:Int}(h:(Lit.int .i64 n).wf=true):XO n:=by have:=akk h;exact⟨this.1,by omega⟩
theorem an0{d:Dat}(h:d.ok Tryz.prog 84):∃n:Int,d=Dat.int .i64 n∧XO n:=by
 obtain⟨n,hn,hw⟩:=yR aoK h
 exact⟨n,hn,am8 hw⟩
theorem aov{d:Dat}(h:d.ok Tryz.prog 233):∃f:ByteArray×TyD,d=ahk f∧True:=by
 obtain⟨ds,rfl,e0⟩:=jD aFd h
 obtain⟨d0,ds,rfl,h0,e1⟩:=zy e0
 obtain⟨d1,ds,rfl,h1,e2⟩:=zy e1
 obtain rfl:=jE e2
 obtain⟨s,rfl,_⟩:=aa1 h0
 obtain⟨t,rfl,_⟩:=ak6 h1
 exact⟨(s,t),rfl,trivial⟩
theorem aow{d:Dat}(h:d.ok Tryz.prog 117):∃s:StD,d=s.dat∧True:=by
 obtain⟨ds,rfl,e0⟩:=jD aSt h
 obtain⟨d0,ds,rfl,h0,e1⟩:=zy e0
 obtain⟨d1,ds,rfl,h1,e2⟩:=zy e1
 obtain rfl:=jE e2
 obtain⟨s,rfl,_⟩:=aa1 h0
 obtain⟨l,rfl,_,_⟩:=Yd (f:=ahk) (G:=λ_=>True) sFd h1 λx _ hk=>aov hk
 exact⟨⟨s,l⟩,rfl,trivial⟩
theorem aj0{d:Dat}(h:d.ok Tryz.prog 80):∃p:PlD,d=p.dat∧p.ok:=by
 obtain⟨ds,rfl,e0⟩:=jD aPl h
 obtain⟨d0,ds,rfl,h0,e1⟩:=zy e0
 obtain⟨d1,ds,rfl,h1,e2⟩:=zy e1
 obtain rfl:=jE e2
 obtain⟨n,rfl,_⟩:=yR ZA h0
 obtain⟨l,rfl,hl,hg⟩:=Yd (f:=Dat.int .i64) (G:=XO) sSp h1 λx _ hk=>an0 hk
 exact⟨⟨n,l⟩,rfl,hl,hg⟩
theorem aj1{d:Dat}(h:d.ok Tryz.prog 93):∃o:OpD,d=o.dat∧o.ok:=by
 obtain⟨ds,rfl,e0⟩:=jD aOp h
 obtain⟨d0,ds,rfl,h0,e1⟩:=zy e0
 obtain⟨d1,ds,rfl,h1,e2⟩:=zy e1
 obtain⟨d2,ds,rfl,h2,e3⟩:=zy e2
 obtain rfl:=jE e3
 obtain⟨k,rfl,_⟩:=yR uOk h0
 obtain⟨n,rfl,_⟩:=yR aoJ h1
 obtain⟨p,rfl,hp⟩:=aj0 h2
 exact⟨⟨k,n,p⟩,rfl,hp⟩
theorem aox{d:Dat}(h:d.ok Tryz.prog 96):∃p:PtD,d=p.dat∧p.ok:=by
 obtain⟨ds,rfl,e0⟩:=jD aPt h
 obtain⟨d0,ds,rfl,h0,e1⟩:=zy e0
 obtain⟨d1,ds,rfl,h1,e2⟩:=zy e1
 obtain⟨d2,ds,rfl,h2,e3⟩:=zy e2
 obtain⟨d3,ds,rfl,h3,e4⟩:=zy e3
 obtain⟨d4,ds,rfl,h4,e5⟩:=zy e4
 obtain⟨d5,ds,rfl,h5,e6⟩:=zy e5
 obtain⟨d6,ds,rfl,h6,e7⟩:=zy e6
 obtain⟨d7,ds,rfl,h7,e8⟩:=zy e7
 obtain⟨d8,ds,rfl,h8,e9⟩:=zy e8
 obtain⟨d9,ds,rfl,h9,e10⟩:=zy e9
 obtain⟨d10,ds,rfl,h10,e11⟩:=zy e10
 obtain⟨d11,ds,rfl,h11,e12⟩:=zy e11
 obtain⟨d12,ds,rfl,h12,e13⟩:=zy e12
 obtain rfl:=jE e13
 obtain⟨op,rfl,_⟩:=yR uPo h0
 obtain⟨to,rfl,g1⟩:=aj0 h1
 obtain⟨a,rfl,g2⟩:=aj1 h2
 obtain⟨b,rfl,g3⟩:=aj1 h3
 obtain⟨l,rfl,hl,g4⟩:=Yd (f:=OpD.dat) (G:=OpD.ok) sOp h4 λx _ hk=>aj1 hk
 obtain⟨s,rfl,_⟩:=aa1 h5
 obtain⟨fr,rfl,g6⟩:=aj0 h6
 obtain⟨mu,rfl⟩:=ahn ajZ h7
 obtain⟨fn,rfl,_⟩:=yR ZA h8
 obtain⟨st,rfl,_⟩:=yR ZA h9
 obtain⟨nx,rfl,_⟩:=yR ZA h10
 obtain⟨el,rfl,_⟩:=yR ZA h11
 obtain⟨tx,rfl,_⟩:=yR ZA h12
 exact⟨⟨op,to,a,b,l,s,fr,mu,fn,st,nx,el,tx⟩,rfl,g1,g2,g3,⟨hl,g4⟩,g6⟩
theorem aoy{d:Dat}(h:d.ok Tryz.prog 194):∃x:Int×Int,d=aju x∧True:=by
 obtain⟨ds,rfl,e0⟩:=jD aOu h
 obtain⟨d0,ds,rfl,h0,e1⟩:=zy e0
 obtain⟨d1,ds,rfl,h1,e2⟩:=zy e1
 obtain rfl:=jE e2
 obtain⟨a,rfl,_⟩:=yR ZA h0
 obtain⟨b,rfl,_⟩:=yR ZA h1
 exact⟨(a,b),rfl,trivial⟩
theorem aoz{d:Dat}(h:d.ok Tryz.prog 101):∃g:GrD,d=g.dat∧g.ok:=by
 obtain⟨ds,rfl,e0⟩:=jD aGr h
 obtain⟨d0,ds,rfl,h0,e1⟩:=zy e0
 obtain⟨d1,ds,rfl,h1,e2⟩:=zy e1
 obtain⟨d2,ds,rfl,h2,e3⟩:=zy e2
 obtain⟨d3,ds,rfl,h3,e4⟩:=zy e3
 obtain⟨d4,ds,rfl,h4,e5⟩:=zy e4
 obtain⟨d5,ds,rfl,h5,e6⟩:=zy e5
 obtain⟨d6,ds,rfl,h6,e7⟩:=zy e6
 obtain rfl:=jE e7
 obtain⟨s,rfl,_⟩:=aa1 h0
 obtain⟨lv,rfl,_⟩:=yR ZA h1
 obtain⟨lo,rfl,g2,_⟩:=Yd (f:=aju) (G:=λ_=>True) sOu h2 λx _ hk=>aoy hk
 obtain⟨pn,rfl,_⟩:=yR ZA h3
 obtain⟨lt,rfl,g4,_⟩:=Yd (f:=TyD.dat) (G:=λ_=>True) sTy h4 λx _ hk=>ak6 hk
 obtain⟨ln,rfl,g5,_⟩:=Yd (f:=Dat.str) (G:=λ_=>True) sSs h5 λx _ hk=>aa1 hk
 obtain⟨lp,rfl,g6,hp⟩:=Yd (f:=PtD.dat) (G:=PtD.ok) sPt h6 λx _ hk=>aox hk
 exact⟨⟨s,lv,lo,pn,lt,ln,lp⟩,rfl,g2,g4,g5,g6,hp⟩
theorem aoA{d:Dat}(h:d.ok Tryz.prog 25):∃u:UnD,d=u.dat∧u.ok:=by
 obtain⟨ds,rfl,e0⟩:=jD aUn h
 obtain⟨d0,ds,rfl,h0,e1⟩:=zy e0
 obtain⟨d1,ds,rfl,h1,e2⟩:=zy e1
 obtain⟨d2,ds,rfl,h2,e3⟩:=zy e2
 obtain rfl:=jE e3
 obtain⟨ss,rfl,g0,_⟩:=Yd (f:=StD.dat) (G:=λ_=>True) sSt h0 λx _ hk=>aow hk
 obtain⟨fs,rfl,g1,hg⟩:=Yd (f:=GrD.dat) (G:=GrD.ok) sGr h1 λx _ hk=>aoz hk
 obtain⟨mn,rfl,_⟩:=yR ZA h2
 exact⟨⟨ss,fs,mn⟩,rfl,g0,g1,hg⟩
section
variable {H:Type} {enc:TypeId×Value→H} {W:World} {base:Nat} {v:Value} {d:DataW H} {p:List MemPlace}
theorem am9(hv:Value.okWide Tryz.prog W .any base 25 v)(h:DataW.Trod enc Tryz.prog W 0 (λ_=>true) true 25 v d p):∃u:UnD,UnG (all W) v u:=by
 obtain⟨fs,hu,_⟩:=aUn
 obtain⟨cs,rfl,hsz⟩:=okWide_struct hu hv
 obtain⟨fuel,hf⟩:=h
 obtain⟨d,hr,hd⟩:=QY am7 fuel 25 _ _ (by simp) hf
 obtain⟨u,rfl,hk⟩:=aoA hd
 exact⟨u,by simpa [Value.cells]using akn hr hk⟩
theorem aih(hv:Value.okWide Tryz.prog W .any base 3 v)(h:DataW.Trod enc Tryz.prog W 0 (λ_=>true) true 3 v d p):∃n:Int,v=.int .i64 n∧-9223372036854775808≤n∧n≤9223372036854775807:=by
 obtain⟨n,rfl,_,_,hw⟩:=open_int ZA hv h
 exact⟨n,rfl,akk hw⟩
end
theorem an1 : Tryz.prog.globalNamed "math/bits.deBruijn64tab" = some 0 := by kernel_rfl
theorem amc:(Tryz.prog.globals[0]?).map (·.type)=some 275:=by kernel_rfl
theorem aoM:Tryz.prog.underlying 275=some (.array 64 5):=by kernel_rfl
theorem aoB:Tryz.prog.underlying 5=some (.int .u8):=by kernel_rfl
theorem amd:Tryz.prog.cellsOf 275=64:=by kernel_rfl
theorem ak7:Tryz.prog.cellsOf 5=1:=by kernel_rfl
theorem an2 {W : World} (h : laidMetH Tryz.prog [("math/bits.deBruijn64tab", Rows.laid_math_bits_deBruijn64tab)] W) : TabG (all W) := by
 have ht : Lib.TabIs Tryz.prog W "math/bits.deBruijn64tab" .u8 (Lib.deBruijn64tab.map fun n : Nat => (n : Int)) :=
  Lib.tabIs_of_head (rest:=[]) an1 amc aoM aoB ak7 amd h
 have hT:Tab W:=λj hj=>by
  have hc:=ht.cell an1 j (by rw[List.length_map];exact hj)
  rw[hc]
  congr 2
  have hj':j<Lib.deBruijn64tab.length:=hj
  simp[ggd,hj']
 exact⟨λw' k j hj=>ag5 (hT j hj) w' k,_,Array.getElem?_eq_getElem (aeg (hT 0 (by decide)))⟩
noncomputable def Vj(os:Os):World:=
 { World.holding Tryz.prog os ⟨#[],#[],[]⟩with heap:=(World.holding Tryz.prog os ⟨#[],#[],[]⟩).heap.modify 0 fun
   |.cells _ t frozen=>.cells ((Lib.deBruijn64tab.map λn:Nat=>Value.int .u8 (n:Int)).toArray) t frozen
   |o=>o }
end
end Go.Proofs.YthmakcmiggpoeaaGreatDoor.openG
namespace Go.Proofs.YthmakcmiggpoeaaGreatDoor.loanAll
open Go.Sh Go.ChangeShapes Go.WideShapes Go.ChangeAt Go.RowKit openG
theorem ame(H:Type)(enc:TypeId×Value→H)(W:World)(base:Nat)(args:Array Value)(ds gs:List (DataW H))(before:List MemPlace)
  (hval:∀(j:Nat) t v,Tryz.f7.params[j]? = some t→args[j]? = some v→Value.okWide Tryz.prog W .any base t v)
  (hW:DataW.Whole enc Tryz.prog Tryz.f7.params.toList Rows.loanAllSpec.vars false W args.toList ds gs before) (hL:laidMetH Tryz.prog Rows.loanAllRow.laid W):
  Calls Tryz.prog 7 args W λe W'=>∃v,e=.returned v∧Rows.loanAllSpec.post enc Tryz.prog Tryz.f7 false true false false W args v W':=by
 have hW':=hW
 obtain⟨p,q,hA,hV,rfl,hfz,hnd⟩:=hW
 rw[show Tryz.f7.params.toList=[25,3,3]by kernel_rfl]at hA
 obtain⟨v0,vs0,d0,ds0,p0,q100,hargs,rfl,rfl,h0,r0⟩:=trodAll_cons hA
 obtain⟨v1,vs1,d1,ds1,p1,q101,rfl,rfl,rfl,h1,r1⟩:=trodAll_cons r0
 obtain⟨v2,vs2,d2,ds2,p2,q102,rfl,rfl,rfl,h2,r2⟩:=trodAll_cons r1
 obtain⟨rfl,rfl,rfl⟩:=trodAll_nil r2
 obtain rfl:args=#[v0,v1,v2]:=by cases args;simp_all
 obtain⟨rfl,rfl⟩:=trodVars_none hV
 obtain⟨u0,hu0⟩:=am9 (hval 0 25 v0 (by kernel_rfl) rfl) h0
 obtain⟨n1,rfl,hi1⟩:=aih (hval 1 3 v1 (by kernel_rfl) rfl) h1
 obtain⟨n2,rfl,hi2⟩:=aih (hval 2 3 v2 (by kernel_rfl) rfl) h2
 refine Calls.mono (aea (K:=λv W'=>v=.bool true∧Ext W W') (akc W) hu0 (an2 hL) λw' e=>⟨rfl,e⟩) ?_
 rintro e W' ⟨v,he,rfl,hE⟩
 exact⟨_,he,akh am6 aot aoI (by rw[show Tryz.f7.params.toList=[25,3,3]by kernel_rfl];decide) rfl (by kernel_rfl) ajZ hW' rfl hE⟩
def wit:Array Value:=#[.agg #[.slice none 0 0,.slice none 0 0,.int .i64 0],.int .i64 0,.int .i64 0]
theorem aoC(os:Os){H:Type}(enc:TypeId×Value→H):∃ds places,DataW.whole enc Tryz.prog ((Vj os).forCall (λ_ _=>0) ⟨#[],wit,[]⟩).memory Tryz.f7.params.toList Rows.loanAllSpec.vars false wit.toList 8=some (ds,[],places):=
 ⟨[.agg [.nil,.nil,.lit (.int .i64 0)],.lit (.int .i64 0),.lit (.int .i64 0)],[],by kernel_rfl⟩
theorem amf(os:Os):laidMet Tryz.prog Rows.loanAllRow.laid ((Vj os).forCall (λ_ _=>0) ⟨#[],wit,[]⟩).memory:=
 laidMet_of_run' 8 (by kernel_rfl) (by kernel_rfl)
theorem an3(os:Os)(started:os.Started)(H:Type)(enc:TypeId×Value→H)(F:Stop.Interp):
  ReturnsInHanded {} Tryz.checked os 7 .any ((OpenSpec.ofChange Rows.loanAllSpec).preRow enc Tryz.prog Tryz.f7 Rows.loanAllRow.domain false Rows.loanAllRow.laid) (((OpenSpec.ofChange Rows.loanAllSpec).at F).post enc Tryz.prog Tryz.f7 false true false false):=by
 obtain⟨ds,places,hx⟩:=aoC os enc
 refine returnsInHanded_of_row (C:=Tryz.checked) (s:=OpenSpec.ofChange Rows.loanAllSpec) own started (by kernel_rfl) Tryz.func7
  (witness_row_at (enc:=enc) (C:=Tryz.checked) false (Vj os) wit rfl (by kernel_rfl) (by kernel_rfl) (by kernel_rfl)
   (OpenSpec.preRow_of_cond 8 hx (by kernel_rfl) (λk hk=>by cases hk) (by kernel_rfl) (amf os))) ?_
 intro W base args ds gs before hval hW _ _ _ hL _ _
 exact ame H enc W base args ds gs before hval hW hL
theorem an4:joinedFacts Tryz.pinned.checked.prog 7 Tryz.f7 (OpenSpec.ofChange Rows.loanAllSpec).bare Rows.loanAllRow=true:=by
 unfold joinedFacts
 simp only[gba]
 refine⟨⟨⟨⟨⟨⟨⟨⟨⟨⟨⟨⟨⟨⟨⟨⟨⟨⟨⟨⟨⟨⟨⟨⟨⟨⟨⟨⟨⟨⟨⟨?_,?_⟩,?_⟩,?_⟩,?_⟩,?_⟩,?_⟩,?_⟩,?_⟩,?_⟩,?_⟩,?_⟩,?_⟩,?_⟩,?_⟩,?_⟩,?_⟩,?_⟩,?_⟩,?_⟩,?_⟩,?_⟩,?_⟩,?_⟩,?_⟩,?_⟩,?_⟩,?_⟩,?_⟩,?_⟩,?_⟩,?_⟩<;>decide +kernel
theorem said:Rows.LoanAllSaid:=
 OpenClaim.holds_of_cond 7 Tryz.f7 rfl rfl rfl rfl rfl rfl rfl ⟨rfl,rfl,rfl,rfl,rfl⟩ rfl rfl rfl rfl rfl (by kernel_rfl) Tryz.func7 an4
  (of_decide_eq_true (by kernel_rfl)) (by unfold Func.isWrapper;first|(rw[if_pos (by decide +kernel)];kernel_rfl)|(rw[if_neg (by decide +kernel)];exact⟨rfl,rfl⟩))
  (λos started H enc _ F=>by rw[OpenClaim.pre_eq_preRow];exact an3 os started H enc F)
theorem plain (f : FuncId) (fn : Func) (hf : Tryz.pinned.checked.prog.funcNamed "loanword/loanwordlaw16.LoanAll" = some f) (hfn : Tryz.pinned.checked.prog.funcs[f]? = some fn) :
  false=Tryz.pinned.checked.prog.looks []∧∀(j:Nat) t,fn.params[j]? = some t→Tryz.pinned.checked.prog.wantsStandIn t=false:=by
 obtain rfl : f = 7 := Option.some.inj ((show Tryz.prog.funcNamed "loanword/loanwordlaw16.LoanAll" = some 7 by kernel_rfl).symm.trans hf) |>.symm
 obtain rfl:fn=Tryz.f7:=(Option.some.inj (Tryz.func7.symm.trans hfn)).symm
 refine⟨by kernel_rfl,λj t ht=>?_⟩
 have hall:(Tryz.f7.params.all λt=>!(Tryz.prog.wantsStandIn t))=true:=by kernel_rfl
 have:=Array.all_eq_true_iff_forall_mem.1 hall t (Array.mem_of_getElem? ht)
 show Tryz.prog.wantsStandIn t=false
 simpa using this
theorem card:Rows.LoanAllCardSaid:=
 Claim7.holds_tied_plain_at .later [] _ _ _ _ said (λ_ h=>by cases h) (by kernel_rfl) (λ_ h=>by cases h) loanAll_row_tie rfl ⟨rfl,rfl⟩ (by kernel_rfl) rfl plain (by kernel_rfl)
end Go.Proofs.YthmakcmiggpoeaaGreatDoor.loanAll
