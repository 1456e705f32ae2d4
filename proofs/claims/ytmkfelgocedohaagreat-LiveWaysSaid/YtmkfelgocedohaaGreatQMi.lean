/-
  Openings: what arguments that are types, programs, lists of numbers tell.
  Openings: what an argument that is a list of rows tells.
  loanwordlaw14.LiveWays: whatever the input, the law returns true and the input reads as it did.
-/
import Derived.Test.YtmkfelgocedohaaGreatQMc
import Derived.Test.YtmkfelgocedohaaGreatRows
import Derived.WalkKit
import Derived.Test.YtmkfelgocedohaaGreatQMg
import Derived.Test.YtmkfelgocedohaaGreatQMh
section
namespace Go.Proofs.YtmkfelgocedohaaGreat.openG
open Go.Sh Go.ChangeShapes Go.WideShapes Go.ChangeAt Go.RowKit
set_option maxRecDepth 100000
set_option linter.unusedSimpArgs false
set_option linter.unusedVariables false
theorem own : ownKnob Tryz.prog.godebug=none:=by kernel_rfl
theorem akX : laidOutB Tryz.prog=true:=by kernel_rfl
theorem amc : mapsRowed Tryz.prog=true:=by kernel_rfl
theorem amp : ((List.range Tryz.prog.types.size).all fun t=>match Tryz.prog.underlying t with|some (.slice e)=>decide (0<Tryz.prog.cellsOf e)|_=>true)=true:=by kernel_rfl
theorem jH : Tryz.prog.underlying 3=some (.int .i64):=by kernel_rfl
theorem amq : Tryz.prog.underlying 2=some (.int .i64):=by kernel_rfl
theorem amr : Tryz.prog.underlying 153=some (.int .i64):=by kernel_rfl
theorem ahu : Tryz.prog.underlying 4=some .bool:=by kernel_rfl
theorem ams : Tryz.prog.underlying 9=some .string:=by kernel_rfl
theorem uTk : Tryz.prog.underlying 136=some (.int .u8):=by kernel_rfl
theorem uOk : Tryz.prog.underlying 82=some (.int .u8):=by kernel_rfl
theorem uPo : Tryz.prog.underlying 78=some (.int .u8):=by kernel_rfl
theorem sTy : Tryz.prog.underlying 34=some (.slice 138)∧Tryz.prog.cellsOf 138=5:=⟨by kernel_rfl,by kernel_rfl⟩
theorem sFd : Tryz.prog.underlying 93=some (.slice 195)∧Tryz.prog.cellsOf 195=6:=⟨by kernel_rfl,by kernel_rfl⟩
theorem sSt : Tryz.prog.underlying 22=some (.slice 95)∧Tryz.prog.cellsOf 95=2:=⟨by kernel_rfl,by kernel_rfl⟩
theorem sGr : Tryz.prog.underlying 23=some (.slice 38)∧Tryz.prog.cellsOf 38=7:=⟨by kernel_rfl,by kernel_rfl⟩
theorem sOu : Tryz.prog.underlying 33=some (.slice 204)∧Tryz.prog.cellsOf 204=2:=⟨by kernel_rfl,by kernel_rfl⟩
theorem sSs : Tryz.prog.underlying 35=some (.slice 9)∧Tryz.prog.cellsOf 9=1:=⟨by kernel_rfl,by kernel_rfl⟩
theorem sPt : Tryz.prog.underlying 36=some (.slice 87)∧Tryz.prog.cellsOf 87=21:=⟨by kernel_rfl,by kernel_rfl⟩
theorem sOp : Tryz.prog.underlying 85=some (.slice 84)∧Tryz.prog.cellsOf 84=4:=⟨by kernel_rfl,by kernel_rfl⟩
theorem sSp : Tryz.prog.underlying 79=some (.slice 153)∧Tryz.prog.cellsOf 153=1:=⟨by kernel_rfl,by kernel_rfl⟩
theorem aTy : ∃ fs,Tryz.prog.underlying 138=some (.struct fs)∧fs.toList.map (·.type) = [136,4,3,3,34]:=xy (by kernel_rfl)
theorem aFd : ∃ fs,Tryz.prog.underlying 195=some (.struct fs)∧fs.toList.map (·.type) = [9,138]:=xy (by kernel_rfl)
theorem aSt : ∃ fs,Tryz.prog.underlying 95=some (.struct fs)∧fs.toList.map (·.type) = [9,93]:=xy (by kernel_rfl)
theorem aPl : ∃ fs,Tryz.prog.underlying 81=some (.struct fs)∧fs.toList.map (·.type) = [3,79]:=xy (by kernel_rfl)
theorem aOp : ∃ fs,Tryz.prog.underlying 84=some (.struct fs)∧fs.toList.map (·.type) = [82,2,81]:=xy (by kernel_rfl)
theorem aPt : ∃ fs,Tryz.prog.underlying 87=some (.struct fs)∧fs.toList.map (·.type) = [78,81,84,84,85,9,81,4,3,3,3,3,3]:=xy (by kernel_rfl)
theorem aOu : ∃ fs,Tryz.prog.underlying 204=some (.struct fs)∧fs.toList.map (·.type) = [3,3]:=xy (by kernel_rfl)
theorem aGr : ∃ fs,Tryz.prog.underlying 38=some (.struct fs)∧fs.toList.map (·.type) = [9,3,33,3,34,35,36]:=xy (by kernel_rfl)
theorem aUn : ∃ fs,Tryz.prog.underlying 25=some (.struct fs)∧fs.toList.map (·.type) = [22,23,3]:=xy (by kernel_rfl)
theorem akY : aeW Tryz.prog [25,22,95,93,195,9,138,136,4,3,34,23,38,33,204,35,36,87,78,
 81,79,153,84,82,2,85]=true:=by kernel_rfl
theorem jy {α : Type} {f : α→Dat} {G : α→Prop} {d : Dat} {T e : TypeId} {n : Nat} (u : Tryz.prog.underlying T=some (.slice e)∧Tryz.prog.cellsOf e=n) (h : d.ok Tryz.prog T) (hf : ∀ x : Dat,SizeOf.sizeOf x<SizeOf.sizeOf d→x.ok Tryz.prog e→∃ t,x=f t∧G t) :
  ∃ l : List α,d = .sl n (l.map f)∧l.length≤maxLen∧∀ t ∈ l,G t:=by
 obtain ⟨es,rfl,hl,hk⟩:=alh u.1 h
 obtain ⟨l,rfl,hg⟩:=aeY (f:=f) (G:=G) es fun x hx=>hf x (by
  have:=List.sizeOf_lt_of_mem hx
  simp only [Dat.sl.sizeOf_spec];omega) (hk x hx)
 exact ⟨l,by rw [u.2],by simpa using hl,hg⟩
theorem amd : ∀ (n : Nat) (d : Dat),SizeOf.sizeOf d≤n→d.ok Tryz.prog 138→∃ t : TyD,d=t.dat:=by
 intro n
 induction n with
 |zero=>intro d h _;cases d<;>simp at h
 |succ n ih=>
  intro d hs h
  obtain ⟨ds,rfl,e0⟩:=kR aTy h
  obtain ⟨d0,ds,rfl,h0,e1⟩:=zw e0
  obtain ⟨d1,ds,rfl,h1,e2⟩:=zw e1
  obtain ⟨d2,ds,rfl,h2,e3⟩:=zw e2
  obtain ⟨d3,ds,rfl,h3,e4⟩:=zw e3
  obtain ⟨d4,ds,rfl,h4,e5⟩:=zw e4
  obtain rfl:=kS e5
  obtain ⟨k,rfl,_⟩:=yo uTk h0
  obtain ⟨m,rfl⟩:=aeX ahu h1
  obtain ⟨re,rfl,_⟩:=yo jH h2
  obtain ⟨st,rfl,_⟩:=yo jH h3
  obtain ⟨l,rfl,_,_⟩:=jy (f:=TyD.dat) (G:=fun _=>True) sTy h4 fun x hx hk=>by
   obtain ⟨t,ht⟩:=ih x (by
    simp only [Dat.agg.sizeOf_spec,List.cons.sizeOf_spec] at hs
    omega) hk
   exact ⟨t,ht,trivial⟩
  exact ⟨.mk k m re st l,by rw [TyD.dat,TyD.dats_map]⟩
theorem aiA {d : Dat} (h : d.ok Tryz.prog 138) : ∃ t : TyD,d=t.dat∧True:=by
 obtain ⟨t,ht⟩:=amd _ d (Nat.le_refl _) h
 exact ⟨t,ht,trivial⟩
theorem Va {d : Dat} (h : d.ok Tryz.prog 9) : ∃ s : ByteArray,d = .str s∧True:=by
 obtain ⟨s,hs,_⟩:=akq ams h
 exact ⟨s,hs,trivial⟩
theorem akZ {n : Int} (h : (Lit.int .i64 n).wf=true) : acv n:=by have:=ahR h;exact ⟨this.1,by omega⟩
theorem alH {d : Dat} (h : d.ok Tryz.prog 153) : ∃ n : Int,d=Dat.int .i64 n∧acv n:=by
 obtain ⟨n,hn,hw⟩:=yo amr h
 exact ⟨n,hn,akZ hw⟩
theorem ame {d : Dat} (h : d.ok Tryz.prog 195) : ∃ f : ByteArray × TyD,d=aeT f∧True:=by
 obtain ⟨ds,rfl,e0⟩:=kR aFd h
 obtain ⟨d0,ds,rfl,h0,e1⟩:=zw e0
 obtain ⟨d1,ds,rfl,h1,e2⟩:=zw e1
 obtain rfl:=kS e2
 obtain ⟨s,rfl,_⟩:=Va h0
 obtain ⟨t,rfl,_⟩:=aiA h1
 exact ⟨(s,t),rfl,trivial⟩
theorem amf {d : Dat} (h : d.ok Tryz.prog 95) : ∃ s : StD,d=s.dat∧True:=by
 obtain ⟨ds,rfl,e0⟩:=kR aSt h
 obtain ⟨d0,ds,rfl,h0,e1⟩:=zw e0
 obtain ⟨d1,ds,rfl,h1,e2⟩:=zw e1
 obtain rfl:=kS e2
 obtain ⟨s,rfl,_⟩:=Va h0
 obtain ⟨l,rfl,_,_⟩:=jy (f:=aeT) (G:=fun _=>True) sFd h1 fun x _ hk=>ame hk
 exact ⟨⟨s,l⟩,rfl,trivial⟩
theorem ahv {d : Dat} (h : d.ok Tryz.prog 81) : ∃ p : PlD,d=p.dat∧p.ok:=by
 obtain ⟨ds,rfl,e0⟩:=kR aPl h
 obtain ⟨d0,ds,rfl,h0,e1⟩:=zw e0
 obtain ⟨d1,ds,rfl,h1,e2⟩:=zw e1
 obtain rfl:=kS e2
 obtain ⟨n,rfl,_⟩:=yo jH h0
 obtain ⟨l,rfl,hl,hg⟩:=jy (f:=Dat.int .i64) (G:=acv) sSp h1 fun x _ hk=>alH hk
 exact ⟨⟨n,l⟩,rfl,hl,hg⟩
theorem ahw {d : Dat} (h : d.ok Tryz.prog 84) : ∃ o : OpD,d=o.dat∧o.ok:=by
 obtain ⟨ds,rfl,e0⟩:=kR aOp h
 obtain ⟨d0,ds,rfl,h0,e1⟩:=zw e0
 obtain ⟨d1,ds,rfl,h1,e2⟩:=zw e1
 obtain ⟨d2,ds,rfl,h2,e3⟩:=zw e2
 obtain rfl:=kS e3
 obtain ⟨k,rfl,_⟩:=yo uOk h0
 obtain ⟨n,rfl,_⟩:=yo amq h1
 obtain ⟨p,rfl,hp⟩:=ahv h2
 exact ⟨⟨k,n,p⟩,rfl,hp⟩
theorem amg {d : Dat} (h : d.ok Tryz.prog 87) : ∃ p : PtD,d=p.dat∧p.ok:=by
 obtain ⟨ds,rfl,e0⟩:=kR aPt h
 obtain ⟨d0,ds,rfl,h0,e1⟩:=zw e0
 obtain ⟨d1,ds,rfl,h1,e2⟩:=zw e1
 obtain ⟨d2,ds,rfl,h2,e3⟩:=zw e2
 obtain ⟨d3,ds,rfl,h3,e4⟩:=zw e3
 obtain ⟨d4,ds,rfl,h4,e5⟩:=zw e4
 obtain ⟨d5,ds,rfl,h5,e6⟩:=zw e5
 obtain ⟨d6,ds,rfl,h6,e7⟩:=zw e6
 obtain ⟨d7,ds,rfl,h7,e8⟩:=zw e7
 obtain ⟨d8,ds,rfl,h8,e9⟩:=zw e8
 obtain ⟨d9,ds,rfl,h9,e10⟩:=zw e9
 obtain ⟨d10,ds,rfl,h10,e11⟩:=zw e10
 obtain ⟨d11,ds,rfl,h11,e12⟩:=zw e11
 obtain ⟨d12,ds,rfl,h12,e13⟩:=zw e12
 obtain rfl:=kS e13
 obtain ⟨op,rfl,_⟩:=yo uPo h0
 obtain ⟨to,rfl,g1⟩:=ahv h1
 obtain ⟨a,rfl,g2⟩:=ahw h2
 obtain ⟨b,rfl,g3⟩:=ahw h3
 obtain ⟨l,rfl,hl,g4⟩:=jy (f:=OpD.dat) (G:=OpD.ok) sOp h4 fun x _ hk=>ahw hk
 obtain ⟨s,rfl,_⟩:=Va h5
 obtain ⟨fr,rfl,g6⟩:=ahv h6
 obtain ⟨mu,rfl⟩:=aeX ahu h7
 obtain ⟨fn,rfl,_⟩:=yo jH h8
 obtain ⟨st,rfl,_⟩:=yo jH h9
 obtain ⟨nx,rfl,_⟩:=yo jH h10
 obtain ⟨el,rfl,_⟩:=yo jH h11
 obtain ⟨tx,rfl,_⟩:=yo jH h12
 exact ⟨⟨op,to,a,b,l,s,fr,mu,fn,st,nx,el,tx⟩,rfl,g1,g2,g3,⟨hl,g4⟩,g6⟩
theorem amh {d : Dat} (h : d.ok Tryz.prog 204) : ∃ x : Int × Int,d=ag2 x∧True:=by
 obtain ⟨ds,rfl,e0⟩:=kR aOu h
 obtain ⟨d0,ds,rfl,h0,e1⟩:=zw e0
 obtain ⟨d1,ds,rfl,h1,e2⟩:=zw e1
 obtain rfl:=kS e2
 obtain ⟨a,rfl,_⟩:=yo jH h0
 obtain ⟨b,rfl,_⟩:=yo jH h1
 exact ⟨(a,b),rfl,trivial⟩
theorem ami {d : Dat} (h : d.ok Tryz.prog 38) : ∃ g : GrD,d=g.dat∧g.ok:=by
 obtain ⟨ds,rfl,e0⟩:=kR aGr h
 obtain ⟨d0,ds,rfl,h0,e1⟩:=zw e0
 obtain ⟨d1,ds,rfl,h1,e2⟩:=zw e1
 obtain ⟨d2,ds,rfl,h2,e3⟩:=zw e2
 obtain ⟨d3,ds,rfl,h3,e4⟩:=zw e3
 obtain ⟨d4,ds,rfl,h4,e5⟩:=zw e4
 obtain ⟨d5,ds,rfl,h5,e6⟩:=zw e5
 obtain ⟨d6,ds,rfl,h6,e7⟩:=zw e6
 obtain rfl:=kS e7
 obtain ⟨s,rfl,_⟩:=Va h0
 obtain ⟨lv,rfl,_⟩:=yo jH h1
 obtain ⟨lo,rfl,g2,_⟩:=jy (f:=ag2) (G:=fun _=>True) sOu h2 fun x _ hk=>amh hk
 obtain ⟨pn,rfl,_⟩:=yo jH h3
 obtain ⟨lt,rfl,g4,_⟩:=jy (f:=TyD.dat) (G:=fun _=>True) sTy h4 fun x _ hk=>aiA hk
 obtain ⟨ln,rfl,g5,_⟩:=jy (f:=Dat.str) (G:=fun _=>True) sSs h5 fun x _ hk=>Va hk
 obtain ⟨lp,rfl,g6,hp⟩:=jy (f:=PtD.dat) (G:=PtD.ok) sPt h6 fun x _ hk=>amg hk
 exact ⟨⟨s,lv,lo,pn,lt,ln,lp⟩,rfl,g2,g4,g5,g6,hp⟩
theorem amj {d : Dat} (h : d.ok Tryz.prog 25) : ∃ u : UnD,d=u.dat∧u.ok:=by
 obtain ⟨ds,rfl,e0⟩:=kR aUn h
 obtain ⟨d0,ds,rfl,h0,e1⟩:=zw e0
 obtain ⟨d1,ds,rfl,h1,e2⟩:=zw e1
 obtain ⟨d2,ds,rfl,h2,e3⟩:=zw e2
 obtain rfl:=kS e3
 obtain ⟨ss,rfl,g0,_⟩:=jy (f:=StD.dat) (G:=fun _=>True) sSt h0 fun x _ hk=>amf hk
 obtain ⟨fs,rfl,g1,hg⟩:=jy (f:=GrD.dat) (G:=GrD.ok) sGr h1 fun x _ hk=>ami hk
 obtain ⟨mn,rfl,_⟩:=yo jH h2
 exact ⟨⟨ss,fs,mn⟩,rfl,g0,g1,hg⟩
section
variable {H : Type} {enc : TypeId × Value→H} {W : World} {base : Nat} {v : Value} {d : DataW H} {p : List MemPlace}
theorem ak0 (hv : Value.okWide Tryz.prog W .any base 25 v) (h : DataW.Trod enc Tryz.prog W 0 (fun _=>true) true 25 v d p) : ∃ u : UnD,UnG (all W) v u:=by
 obtain ⟨fs,hu,_⟩:=aUn
 obtain ⟨cs,rfl,hsz⟩:=okWide_struct hu hv
 obtain ⟨fuel,hf⟩:=h
 obtain ⟨d,hr,hd⟩:=Zh akY fuel 25 _ _ (by simp) hf
 obtain ⟨u,rfl,hk⟩:=amj hd
 exact ⟨u,by simpa [Value.cells] using ahU hr hk⟩
theorem aa0 (hv : Value.okWide Tryz.prog W .any base 3 v) (h : DataW.Trod enc Tryz.prog W 0 (fun _=>true) true 3 v d p) : ∃ n : Int,v = .int .i64 n∧-9223372036854775808≤n∧n≤9223372036854775807:=by
 obtain ⟨n,rfl,_,_,hw⟩:=open_int jH hv h
 exact ⟨n,rfl,ahR hw⟩
end
noncomputable def Vb (os : Os) : World:=World.holding Tryz.prog os ⟨#[],#[],[]⟩
end Go.Proofs.YtmkfelgocedohaaGreat.openG
end
section
namespace Go.Proofs
open Go.Sh Go.BM
def wdD (x : BitVec 64) : Dat:=.int .u64 (x.toNat : Nat)
def rwD (x : y7) : Dat:=.agg [.int .i64 x.1,.sl 1 (x.2.map wdD)]
theorem aiB {r : Gh} {c : List Value} {x : y7} (h : Rep r (rwD x) c) (k : x.2.length≤maxLen) : RwbC r c x:=by
 obtain ⟨a1,b1,rfl,e1,a2,b2,rfl,e2,e3⟩:=h
 obtain rfl : a1=_:=e1
 obtain rfl : b2 = []:=e3
 obtain ⟨v,rfl,hv⟩:=xv (D:=wdD) (R:=WdC) (fun c x hx h=>h) e2 k
 obtain ⟨p,cap,rfl,_,_⟩:=hv.sl.shape
 exact ⟨p,cap,rfl,hv⟩
end Go.Proofs
namespace Go.Proofs.YtmkfelgocedohaaGreat.openG
open Go.Sh Go.ChangeShapes Go.WideShapes Go.ChangeAt Go.RowKit
set_option maxRecDepth 100000
set_option linter.unusedSimpArgs false
set_option linter.unusedVariables false
theorem uWd : Tryz.prog.underlying 76=some (.int .u64):=by kernel_rfl
theorem sWd : Tryz.prog.underlying 70=some (.slice 76)∧Tryz.prog.cellsOf 76=1:=⟨by kernel_rfl,by kernel_rfl⟩
theorem sRw : Tryz.prog.underlying 63=some (.slice 72)∧Tryz.prog.cellsOf 72=2:=⟨by kernel_rfl,by kernel_rfl⟩
theorem aRw : ∃ fs,Tryz.prog.underlying 72=some (.struct fs)∧fs.toList.map (·.type) = [3,70]:=xy (by kernel_rfl)
theorem ak1 : aeW Tryz.prog [63,72,3,70,76]=true:=by kernel_rfl
theorem amk {d : Dat} (h : d.ok Tryz.prog 76) : ∃ x : BitVec 64,d=wdD x∧True:=by
 obtain ⟨n,hn,hw⟩:=yo uWd h
 obtain ⟨x,hx⟩:=alj hw
 exact ⟨x,by rw [hn,hx];rfl,trivial⟩
theorem aml {d : Dat} (h : d.ok Tryz.prog 72) : ∃ x : y7,d=rwD x∧x.2.length≤maxLen:=by
 obtain ⟨ds,rfl,e0⟩:=kR aRw h
 obtain ⟨d0,ds,rfl,h0,e1⟩:=zw e0
 obtain ⟨d1,ds,rfl,h1,e2⟩:=zw e1
 obtain rfl:=kS e2
 obtain ⟨n,rfl,_⟩:=yo jH h0
 obtain ⟨l,rfl,hl,_⟩:=jy (f:=wdD) (G:=fun _=>True) sWd h1 fun x _ hk=>amk hk
 exact ⟨(n,l),rfl,hl⟩
section
variable {H : Type} {enc : TypeId × Value→H} {W : World} {base : Nat} {v : Value} {d : DataW H} {p : List MemPlace}
theorem aiC (hv : Value.okWide Tryz.prog W .any base 63 v) (h : DataW.Trod enc Tryz.prog W 0 (fun _=>true) true 63 v d p) : ∃ R : List y7,SlG 2 (all W) (RwbC (all W)) v R:=by
 obtain ⟨a0,len,cap,rfl⟩:=Go.WideShapes.okWide_slice sRw.1 hv
 obtain ⟨fuel,hf⟩:=h
 obtain ⟨d,hr,hd⟩:=Zh ak1 fuel 63 _ _ (by simp) hf
 obtain ⟨R,rfl,hl,hg⟩:=jy (f:=rwD) (G:=fun x=>x.2.length≤maxLen) sRw hd fun x _ hk=>aml hk
 obtain ⟨v,hv,hs⟩:=xv (D:=rwD) (R:=RwbC (all W)) (fun c x hx h=>aiB h (hg x hx)) hr hl
 have hv : [Value.slice a0 len cap] = [v]:=hv
 injection hv with hv
 exact ⟨R,by rw [hv];exact hs.sl⟩
end
end Go.Proofs.YtmkfelgocedohaaGreat.openG
end
section
namespace Go.Proofs.YtmkfelgocedohaaGreat.liveWays
open Go.Sh Go.ChangeShapes Go.WideShapes Go.ChangeAt Go.RowKit openG
set_option maxRecDepth 100000
set_option linter.unusedVariables false
theorem aj2 (H : Type) (enc : TypeId × Value→H) (W : World) (base : Nat) (args : Array Value) (ds gs : List (DataW H)) (before : List MemPlace)
  (hval : ∀ (j : Nat) t v,Tryz.f8.params[j]? = some t→args[j]? = some v→Value.okWide Tryz.prog W .any base t v)
  (hW : DataW.Whole enc Tryz.prog Tryz.f8.params.toList Rows.liveWaysSpec.vars false W args.toList ds gs before) :
  Calls Tryz.prog 8 args W fun e W'=>∃ v,e = .returned v∧Rows.liveWaysSpec.post enc Tryz.prog Tryz.f8 false true false false W args v W':=by
 have hW':=hW
 obtain ⟨p,q,hA,hV,rfl,hfz,hnd⟩:=hW
 rw [show Tryz.f8.params.toList = [25,3,3,3,63] by kernel_rfl] at hA
 obtain ⟨v0,vs0,d0,ds0,p0,q100,hargs,rfl,rfl,h0,r0⟩:=trodAll_cons hA
 obtain ⟨v1,vs1,d1,ds1,p1,q101,rfl,rfl,rfl,h1,r1⟩:=trodAll_cons r0
 obtain ⟨v2,vs2,d2,ds2,p2,q102,rfl,rfl,rfl,h2,r2⟩:=trodAll_cons r1
 obtain ⟨v3,vs3,d3,ds3,p3,q103,rfl,rfl,rfl,h3,r3⟩:=trodAll_cons r2
 obtain ⟨v4,vs4,d4,ds4,p4,q104,rfl,rfl,rfl,h4,r4⟩:=trodAll_cons r3
 obtain ⟨rfl,rfl,rfl⟩:=trodAll_nil r4
 obtain rfl : args=#[v0,v1,v2,v3,v4]:=by cases args;simp_all
 obtain ⟨rfl,rfl⟩:=trodVars_none hV
 obtain ⟨u0,hu0⟩:=ak0 (hval 0 25 v0 (by kernel_rfl) rfl) h0
 obtain ⟨n1,rfl,hi1⟩:=aa0 (hval 1 3 v1 (by kernel_rfl) rfl) h1
 obtain ⟨n2,rfl,hi2⟩:=aa0 (hval 2 3 v2 (by kernel_rfl) rfl) h2
 obtain ⟨n3,rfl,hi3⟩:=aa0 (hval 3 3 v3 (by kernel_rfl) rfl) h3
 obtain ⟨R4,hR4⟩:=aiC (hval 4 63 v4 (by kernel_rfl) rfl) h4
 refine Calls.mono (aaZ (K:=fun v W'=>v = .bool true∧Ext W W') (ahH W) hu0 hR4 fun w' e=>⟨rfl,e⟩) ?_
 rintro e W' ⟨v,he,rfl,hE⟩
 exact ⟨_,he,ahP akX amc amp (by rw [show Tryz.f8.params.toList = [25,3,3,3,63] by kernel_rfl];decide) rfl (by kernel_rfl) ahu hW' rfl hE⟩
def wit : Array Value:=#[.agg #[.slice none 0 0,.slice none 0 0,.int .i64 0],.int .i64 0,.int .i64 0,.int .i64 0,.slice none 0 0]
theorem amm (os : Os) {H : Type} (enc : TypeId × Value→H) : ∃ ds places,DataW.whole enc Tryz.prog ((Vb os).forCall (fun _ _=>0) ⟨#[],wit,[]⟩).memory Tryz.f8.params.toList Rows.liveWaysSpec.vars false wit.toList 8=some (ds,[],places):=
 ⟨[.agg [.nil,.nil,.lit (.int .i64 0)],.lit (.int .i64 0),.lit (.int .i64 0),.lit (.int .i64 0),.nil],[],by kernel_rfl⟩
theorem aj3 (os : Os) : laidMet Tryz.prog Rows.liveWaysRow.laid ((Vb os).forCall (fun _ _=>0) ⟨#[],wit,[]⟩).memory:=
 laidMet_of_run' 8 (by kernel_rfl) (by kernel_rfl)
theorem alI (os : Os) (started : os.Started) (H : Type) (enc : TypeId × Value→H) (F : Stop.Interp) :
  ReturnsInHanded {} Tryz.checked os 8 .any ((OpenSpec.ofChange Rows.liveWaysSpec).preRow enc Tryz.prog Tryz.f8 Rows.liveWaysRow.domain false Rows.liveWaysRow.laid) (((OpenSpec.ofChange Rows.liveWaysSpec).at F).post enc Tryz.prog Tryz.f8 false true false false):=by
 obtain ⟨ds,places,hx⟩:=amm os enc
 refine returnsInHanded_of_row (C:=Tryz.checked) (s:=OpenSpec.ofChange Rows.liveWaysSpec) own started (by kernel_rfl) Tryz.func8
  (witness_row_at (enc:=enc) (C:=Tryz.checked) false (Vb os) wit rfl (by kernel_rfl) (by kernel_rfl) (by kernel_rfl)
   (OpenSpec.preRow_of_cond 8 hx (by kernel_rfl) (fun k hk=>by cases hk) (by kernel_rfl) (aj3 os))) ?_
 intro W base args ds gs before hval hW _ _ _ hL _ _
 exact aj2 H enc W base args ds gs before hval hW
theorem said : Rows.LiveWaysSaid:=
 OpenClaim.holds_of_cond 8 Tryz.f8 rfl rfl rfl rfl rfl rfl rfl ⟨rfl,rfl,rfl,rfl,rfl⟩ rfl rfl rfl rfl rfl (by kernel_rfl) Tryz.func8 (by kernel_rfl)
  (of_decide_eq_true (by kernel_rfl)) (by unfold Func.isWrapper;first|(rw [if_pos (by decide +kernel)];kernel_rfl)|(rw [if_neg (by decide +kernel)];exact ⟨rfl,rfl⟩))
  (fun os started H enc _ F=>by rw [OpenClaim.pre_eq_preRow];exact alI os started H enc F)
end Go.Proofs.YtmkfelgocedohaaGreat.liveWays
end
