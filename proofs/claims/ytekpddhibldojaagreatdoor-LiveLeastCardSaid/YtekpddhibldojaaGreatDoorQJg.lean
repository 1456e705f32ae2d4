/-
  Openings: what arguments that are types, programs, lists of numbers tell.
  Openings: what an argument that is a list of rows tells.
  What rows with the library's table of bits open.
  loanwordlaw14.LiveLeast: whatever the input, the law returns true and the input reads as it did.
-/
import Derived.Test.YtekpddhibldojaaGreatDoorQJc
import Derived.Test.YtekpddhibldojaaGreatDoorRows
import Derived.WalkKit
import Derived.Test.YtekpddhibldojaaGreatDoorQJf
import Derived.Test.YtekpddhibldojaaGreatDoorCards
import Derived.Test.YtekpddhibldojaaGreatDoorTie
section
namespace Go.Proofs.YtekpddhibldojaaGreatDoor.openG
open Go.Sh Go.ChangeShapes Go.WideShapes Go.ChangeAt Go.RowKit
set_option maxRecDepth 100000
set_option linter.unusedSimpArgs false
set_option linter.unusedVariables false
theorem own : ownKnob Tryz.prog.godebug=none:=by kernel_rfl
theorem aha : laidOutB Tryz.prog=true:=by kernel_rfl
theorem aij : mapsRowed Tryz.prog=true:=by kernel_rfl
theorem aiA : ((List.range Tryz.prog.types.size).all fun t=>match Tryz.prog.underlying t with|some (.slice e)=>decide (0<Tryz.prog.cellsOf e)|_=>true)=true:=by kernel_rfl
theorem qh : Tryz.prog.underlying 3=some (.int .i64):=by kernel_rfl
theorem aiB : Tryz.prog.underlying 2=some (.int .i64):=by kernel_rfl
theorem aiC : Tryz.prog.underlying 77=some (.int .i64):=by kernel_rfl
theorem adB : Tryz.prog.underlying 4=some .bool:=by kernel_rfl
theorem aiD : Tryz.prog.underlying 9=some .string:=by kernel_rfl
theorem uTk : Tryz.prog.underlying 81=some (.int .u8):=by kernel_rfl
theorem uOk : Tryz.prog.underlying 87=some (.int .u8):=by kernel_rfl
theorem uPo : Tryz.prog.underlying 86=some (.int .u8):=by kernel_rfl
theorem sTy : Tryz.prog.underlying 44=some (.slice 83)∧Tryz.prog.cellsOf 83=5:=⟨by kernel_rfl,by kernel_rfl⟩
theorem sFd : Tryz.prog.underlying 40=some (.slice 154)∧Tryz.prog.cellsOf 154=6:=⟨by kernel_rfl,by kernel_rfl⟩
theorem sSt : Tryz.prog.underlying 22=some (.slice 42)∧Tryz.prog.cellsOf 42=2:=⟨by kernel_rfl,by kernel_rfl⟩
theorem sGr : Tryz.prog.underlying 23=some (.slice 48)∧Tryz.prog.cellsOf 48=7:=⟨by kernel_rfl,by kernel_rfl⟩
theorem sOu : Tryz.prog.underlying 43=some (.slice 195)∧Tryz.prog.cellsOf 195=2:=⟨by kernel_rfl,by kernel_rfl⟩
theorem sSs : Tryz.prog.underlying 45=some (.slice 9)∧Tryz.prog.cellsOf 9=1:=⟨by kernel_rfl,by kernel_rfl⟩
theorem sPt : Tryz.prog.underlying 46=some (.slice 92)∧Tryz.prog.cellsOf 92=21:=⟨by kernel_rfl,by kernel_rfl⟩
theorem sOp : Tryz.prog.underlying 90=some (.slice 89)∧Tryz.prog.cellsOf 89=4:=⟨by kernel_rfl,by kernel_rfl⟩
theorem sSp : Tryz.prog.underlying 78=some (.slice 77)∧Tryz.prog.cellsOf 77=1:=⟨by kernel_rfl,by kernel_rfl⟩
theorem aTy : ∃ fs,Tryz.prog.underlying 83=some (.struct fs)∧fs.toList.map (·.type) = [81,4,3,3,44]:=yR (by kernel_rfl)
theorem aFd : ∃ fs,Tryz.prog.underlying 154=some (.struct fs)∧fs.toList.map (·.type) = [9,83]:=yR (by kernel_rfl)
theorem aSt : ∃ fs,Tryz.prog.underlying 42=some (.struct fs)∧fs.toList.map (·.type) = [9,40]:=yR (by kernel_rfl)
theorem aPl : ∃ fs,Tryz.prog.underlying 80=some (.struct fs)∧fs.toList.map (·.type) = [3,78]:=yR (by kernel_rfl)
theorem aOp : ∃ fs,Tryz.prog.underlying 89=some (.struct fs)∧fs.toList.map (·.type) = [87,2,80]:=yR (by kernel_rfl)
theorem aPt : ∃ fs,Tryz.prog.underlying 92=some (.struct fs)∧fs.toList.map (·.type) = [86,80,89,89,90,9,80,4,3,3,3,3,3]:=yR (by kernel_rfl)
theorem aOu : ∃ fs,Tryz.prog.underlying 195=some (.struct fs)∧fs.toList.map (·.type) = [3,3]:=yR (by kernel_rfl)
theorem aGr : ∃ fs,Tryz.prog.underlying 48=some (.struct fs)∧fs.toList.map (·.type) = [9,3,43,3,44,45,46]:=yR (by kernel_rfl)
theorem aUn : ∃ fs,Tryz.prog.underlying 25=some (.struct fs)∧fs.toList.map (·.type) = [22,23,3]:=yR (by kernel_rfl)
theorem ahb : aaZ Tryz.prog [25,22,42,40,154,9,83,81,4,3,44,23,48,43,195,45,46,92,86,
 80,78,77,89,87,2,90]=true:=by kernel_rfl
theorem qc {α : Type} {f : α→Dat} {G : α→Prop} {d : Dat} {T e : TypeId} {n : Nat} (u : Tryz.prog.underlying T=some (.slice e)∧Tryz.prog.cellsOf e=n) (h : d.ok Tryz.prog T) (hf : ∀ x : Dat,SizeOf.sizeOf x<SizeOf.sizeOf d→x.ok Tryz.prog e→∃ t,x=f t∧G t) :
  ∃ l : List α,d = .sl n (l.map f)∧l.length≤maxLen∧∀ t ∈ l,G t:=by
 obtain ⟨es,rfl,hl,hk⟩:=ahy u.1 h
 obtain ⟨l,rfl,hg⟩:=aa1 (f:=f) (G:=G) es fun x hx=>hf x (by
  have:=List.sizeOf_lt_of_mem hx
  simp only [Dat.sl.sizeOf_spec];omega) (hk x hx)
 exact ⟨l,by rw [u.2],by simpa using hl,hg⟩
theorem aik : ∀ (n : Nat) (d : Dat),SizeOf.sizeOf d≤n→d.ok Tryz.prog 83→∃ t : TyD,d=t.dat:=by
 intro n
 induction n with
 |zero=>intro d h _;cases d<;>simp at h
 |succ n ih=>
  intro d hs h
  obtain ⟨ds,rfl,e0⟩:=xY aTy h
  obtain ⟨d0,ds,rfl,h0,e1⟩:=zp e0
  obtain ⟨d1,ds,rfl,h1,e2⟩:=zp e1
  obtain ⟨d2,ds,rfl,h2,e3⟩:=zp e2
  obtain ⟨d3,ds,rfl,h3,e4⟩:=zp e3
  obtain ⟨d4,ds,rfl,h4,e5⟩:=zp e4
  obtain rfl:=xZ e5
  obtain ⟨k,rfl,_⟩:=zY uTk h0
  obtain ⟨m,rfl⟩:=aa0 adB h1
  obtain ⟨re,rfl,_⟩:=zY qh h2
  obtain ⟨st,rfl,_⟩:=zY qh h3
  obtain ⟨l,rfl,_,_⟩:=qc (f:=TyD.dat) (G:=fun _=>True) sTy h4 fun x hx hk=>by
   obtain ⟨t,ht⟩:=ih x (by
    simp only [Dat.agg.sizeOf_spec,List.cons.sizeOf_spec] at hs
    omega) hk
   exact ⟨t,ht,trivial⟩
  exact ⟨.mk k m re st l,by rw [TyD.dat,TyD.dats_map]⟩
theorem aeN {d : Dat} (h : d.ok Tryz.prog 83) : ∃ t : TyD,d=t.dat∧True:=by
 obtain ⟨t,ht⟩:=aik _ d (Nat.le_refl _) h
 exact ⟨t,ht,trivial⟩
theorem XC {d : Dat} (h : d.ok Tryz.prog 9) : ∃ s : ByteArray,d = .str s∧True:=by
 obtain ⟨s,hs,_⟩:=agD aiD h
 exact ⟨s,hs,trivial⟩
theorem ahc {n : Int} (h : (Lit.int .i64 n).wf=true) : J5 n:=by have:=ad2 h;exact ⟨this.1,by omega⟩
theorem ahQ {d : Dat} (h : d.ok Tryz.prog 77) : ∃ n : Int,d=Dat.int .i64 n∧J5 n:=by
 obtain ⟨n,hn,hw⟩:=zY aiC h
 exact ⟨n,hn,ahc hw⟩
theorem ail {d : Dat} (h : d.ok Tryz.prog 154) : ∃ f : ByteArray × TyD,d=aaV f∧True:=by
 obtain ⟨ds,rfl,e0⟩:=xY aFd h
 obtain ⟨d0,ds,rfl,h0,e1⟩:=zp e0
 obtain ⟨d1,ds,rfl,h1,e2⟩:=zp e1
 obtain rfl:=xZ e2
 obtain ⟨s,rfl,_⟩:=XC h0
 obtain ⟨t,rfl,_⟩:=aeN h1
 exact ⟨(s,t),rfl,trivial⟩
theorem aim {d : Dat} (h : d.ok Tryz.prog 42) : ∃ s : StD,d=s.dat∧True:=by
 obtain ⟨ds,rfl,e0⟩:=xY aSt h
 obtain ⟨d0,ds,rfl,h0,e1⟩:=zp e0
 obtain ⟨d1,ds,rfl,h1,e2⟩:=zp e1
 obtain rfl:=xZ e2
 obtain ⟨s,rfl,_⟩:=XC h0
 obtain ⟨l,rfl,_,_⟩:=qc (f:=aaV) (G:=fun _=>True) sFd h1 fun x _ hk=>ail hk
 exact ⟨⟨s,l⟩,rfl,trivial⟩
theorem adC {d : Dat} (h : d.ok Tryz.prog 80) : ∃ p : PlD,d=p.dat∧p.ok:=by
 obtain ⟨ds,rfl,e0⟩:=xY aPl h
 obtain ⟨d0,ds,rfl,h0,e1⟩:=zp e0
 obtain ⟨d1,ds,rfl,h1,e2⟩:=zp e1
 obtain rfl:=xZ e2
 obtain ⟨n,rfl,_⟩:=zY qh h0
 obtain ⟨l,rfl,hl,hg⟩:=qc (f:=Dat.int .i64) (G:=J5) sSp h1 fun x _ hk=>ahQ hk
 exact ⟨⟨n,l⟩,rfl,hl,hg⟩
theorem adE {d : Dat} (h : d.ok Tryz.prog 89) : ∃ o : OpD,d=o.dat∧o.ok:=by
 obtain ⟨ds,rfl,e0⟩:=xY aOp h
 obtain ⟨d0,ds,rfl,h0,e1⟩:=zp e0
 obtain ⟨d1,ds,rfl,h1,e2⟩:=zp e1
 obtain ⟨d2,ds,rfl,h2,e3⟩:=zp e2
 obtain rfl:=xZ e3
 obtain ⟨k,rfl,_⟩:=zY uOk h0
 obtain ⟨n,rfl,_⟩:=zY aiB h1
 obtain ⟨p,rfl,hp⟩:=adC h2
 exact ⟨⟨k,n,p⟩,rfl,hp⟩
theorem ain {d : Dat} (h : d.ok Tryz.prog 92) : ∃ p : PtD,d=p.dat∧p.ok:=by
 obtain ⟨ds,rfl,e0⟩:=xY aPt h
 obtain ⟨d0,ds,rfl,h0,e1⟩:=zp e0
 obtain ⟨d1,ds,rfl,h1,e2⟩:=zp e1
 obtain ⟨d2,ds,rfl,h2,e3⟩:=zp e2
 obtain ⟨d3,ds,rfl,h3,e4⟩:=zp e3
 obtain ⟨d4,ds,rfl,h4,e5⟩:=zp e4
 obtain ⟨d5,ds,rfl,h5,e6⟩:=zp e5
 obtain ⟨d6,ds,rfl,h6,e7⟩:=zp e6
 obtain ⟨d7,ds,rfl,h7,e8⟩:=zp e7
 obtain ⟨d8,ds,rfl,h8,e9⟩:=zp e8
 obtain ⟨d9,ds,rfl,h9,e10⟩:=zp e9
 obtain ⟨d10,ds,rfl,h10,e11⟩:=zp e10
 obtain ⟨d11,ds,rfl,h11,e12⟩:=zp e11
 obtain ⟨d12,ds,rfl,h12,e13⟩:=zp e12
 obtain rfl:=xZ e13
 obtain ⟨op,rfl,_⟩:=zY uPo h0
 obtain ⟨to,rfl,g1⟩:=adC h1
 obtain ⟨a,rfl,g2⟩:=adE h2
 obtain ⟨b,rfl,g3⟩:=adE h3
 obtain ⟨l,rfl,hl,g4⟩:=qc (f:=OpD.dat) (G:=OpD.ok) sOp h4 fun x _ hk=>adE hk
 obtain ⟨s,rfl,_⟩:=XC h5
 obtain ⟨fr,rfl,g6⟩:=adC h6
 obtain ⟨mu,rfl⟩:=aa0 adB h7
 obtain ⟨fn,rfl,_⟩:=zY qh h8
 obtain ⟨st,rfl,_⟩:=zY qh h9
 obtain ⟨nx,rfl,_⟩:=zY qh h10
 obtain ⟨el,rfl,_⟩:=zY qh h11
 obtain ⟨tx,rfl,_⟩:=zY qh h12
 exact ⟨⟨op,to,a,b,l,s,fr,mu,fn,st,nx,el,tx⟩,rfl,g1,g2,g3,⟨hl,g4⟩,g6⟩
theorem aio {d : Dat} (h : d.ok Tryz.prog 195) : ∃ x : Int × Int,d=ada x∧True:=by
 obtain ⟨ds,rfl,e0⟩:=xY aOu h
 obtain ⟨d0,ds,rfl,h0,e1⟩:=zp e0
 obtain ⟨d1,ds,rfl,h1,e2⟩:=zp e1
 obtain rfl:=xZ e2
 obtain ⟨a,rfl,_⟩:=zY qh h0
 obtain ⟨b,rfl,_⟩:=zY qh h1
 exact ⟨(a,b),rfl,trivial⟩
theorem aip {d : Dat} (h : d.ok Tryz.prog 48) : ∃ g : GrD,d=g.dat∧g.ok:=by
 obtain ⟨ds,rfl,e0⟩:=xY aGr h
 obtain ⟨d0,ds,rfl,h0,e1⟩:=zp e0
 obtain ⟨d1,ds,rfl,h1,e2⟩:=zp e1
 obtain ⟨d2,ds,rfl,h2,e3⟩:=zp e2
 obtain ⟨d3,ds,rfl,h3,e4⟩:=zp e3
 obtain ⟨d4,ds,rfl,h4,e5⟩:=zp e4
 obtain ⟨d5,ds,rfl,h5,e6⟩:=zp e5
 obtain ⟨d6,ds,rfl,h6,e7⟩:=zp e6
 obtain rfl:=xZ e7
 obtain ⟨s,rfl,_⟩:=XC h0
 obtain ⟨lv,rfl,_⟩:=zY qh h1
 obtain ⟨lo,rfl,g2,_⟩:=qc (f:=ada) (G:=fun _=>True) sOu h2 fun x _ hk=>aio hk
 obtain ⟨pn,rfl,_⟩:=zY qh h3
 obtain ⟨lt,rfl,g4,_⟩:=qc (f:=TyD.dat) (G:=fun _=>True) sTy h4 fun x _ hk=>aeN hk
 obtain ⟨ln,rfl,g5,_⟩:=qc (f:=Dat.str) (G:=fun _=>True) sSs h5 fun x _ hk=>XC hk
 obtain ⟨lp,rfl,g6,hp⟩:=qc (f:=PtD.dat) (G:=PtD.ok) sPt h6 fun x _ hk=>ain hk
 exact ⟨⟨s,lv,lo,pn,lt,ln,lp⟩,rfl,g2,g4,g5,g6,hp⟩
theorem aiq {d : Dat} (h : d.ok Tryz.prog 25) : ∃ u : UnD,d=u.dat∧u.ok:=by
 obtain ⟨ds,rfl,e0⟩:=xY aUn h
 obtain ⟨d0,ds,rfl,h0,e1⟩:=zp e0
 obtain ⟨d1,ds,rfl,h1,e2⟩:=zp e1
 obtain ⟨d2,ds,rfl,h2,e3⟩:=zp e2
 obtain rfl:=xZ e3
 obtain ⟨ss,rfl,g0,_⟩:=qc (f:=StD.dat) (G:=fun _=>True) sSt h0 fun x _ hk=>aim hk
 obtain ⟨fs,rfl,g1,hg⟩:=qc (f:=GrD.dat) (G:=GrD.ok) sGr h1 fun x _ hk=>aip hk
 obtain ⟨mn,rfl,_⟩:=zY qh h2
 exact ⟨⟨ss,fs,mn⟩,rfl,g0,g1,hg⟩
section
variable {H : Type} {enc : TypeId × Value→H} {W : World} {base : Nat} {v : Value} {d : DataW H} {p : List MemPlace}
theorem ahd (hv : Value.okWide Tryz.prog W .any base 25 v) (h : DataW.Trod enc Tryz.prog W 0 (fun _=>true) true 25 v d p) : ∃ u : UnD,UnG (all W) v u:=by
 obtain ⟨fs,hu,_⟩:=aUn
 obtain ⟨cs,rfl,hsz⟩:=okWide_struct hu hv
 obtain ⟨fuel,hf⟩:=h
 obtain ⟨d,hr,hd⟩:=jq ahb fuel 25 _ _ (by simp) hf
 obtain ⟨u,rfl,hk⟩:=aiq hd
 exact ⟨u,by simpa [Value.cells] using ad5 hr hk⟩
theorem afZ (hv : Value.okWide Tryz.prog W .any base 3 v) (h : DataW.Trod enc Tryz.prog W 0 (fun _=>true) true 3 v d p) : ∃ n : Int,v = .int .i64 n∧-9223372036854775808≤n∧n≤9223372036854775807:=by
 obtain ⟨n,rfl,_,_,hw⟩:=open_int qh hv h
 exact ⟨n,rfl,ad2 hw⟩
end
end Go.Proofs.YtekpddhibldojaaGreatDoor.openG
end
section
namespace Go.Proofs
open Go.Sh Go.BM
def wdD (x : BitVec 64) : Dat:=.int .u64 (x.toNat : Nat)
def rwD (x : yk) : Dat:=.agg [.int .i64 x.1,.sl 1 (x.2.map wdD)]
theorem aeO {r : Gh} {c : List Value} {x : yk} (h : Rep r (rwD x) c) (k : x.2.length≤maxLen) : RwbC r c x:=by
 obtain ⟨a1,b1,rfl,e1,a2,b2,rfl,e2,e3⟩:=h
 obtain rfl : a1=_:=e1
 obtain rfl : b2 = []:=e3
 obtain ⟨v,rfl,hv⟩:=yO (D:=wdD) (R:=WdC) (fun c x hx h=>h) e2 k
 obtain ⟨p,cap,rfl,_,_⟩:=hv.sl.shape
 exact ⟨p,cap,rfl,hv⟩
end Go.Proofs
namespace Go.Proofs.YtekpddhibldojaaGreatDoor.openG
open Go.Sh Go.ChangeShapes Go.WideShapes Go.ChangeAt Go.RowKit
set_option maxRecDepth 100000
set_option linter.unusedSimpArgs false
set_option linter.unusedVariables false
theorem uWd : Tryz.prog.underlying 65=some (.int .u64):=by kernel_rfl
theorem sWd : Tryz.prog.underlying 29=some (.slice 65)∧Tryz.prog.cellsOf 65=1:=⟨by kernel_rfl,by kernel_rfl⟩
theorem sRw : Tryz.prog.underlying 26=some (.slice 31)∧Tryz.prog.cellsOf 31=2:=⟨by kernel_rfl,by kernel_rfl⟩
theorem aRw : ∃ fs,Tryz.prog.underlying 31=some (.struct fs)∧fs.toList.map (·.type) = [3,29]:=yR (by kernel_rfl)
theorem ahe : aaZ Tryz.prog [26,31,3,29,65]=true:=by kernel_rfl
theorem air {d : Dat} (h : d.ok Tryz.prog 65) : ∃ x : BitVec 64,d=wdD x∧True:=by
 obtain ⟨n,hn,hw⟩:=zY uWd h
 obtain ⟨x,hx⟩:=ahz hw
 exact ⟨x,by rw [hn,hx];rfl,trivial⟩
theorem ais {d : Dat} (h : d.ok Tryz.prog 31) : ∃ x : yk,d=rwD x∧x.2.length≤maxLen:=by
 obtain ⟨ds,rfl,e0⟩:=xY aRw h
 obtain ⟨d0,ds,rfl,h0,e1⟩:=zp e0
 obtain ⟨d1,ds,rfl,h1,e2⟩:=zp e1
 obtain rfl:=xZ e2
 obtain ⟨n,rfl,_⟩:=zY qh h0
 obtain ⟨l,rfl,hl,_⟩:=qc (f:=wdD) (G:=fun _=>True) sWd h1 fun x _ hk=>air hk
 exact ⟨(n,l),rfl,hl⟩
section
variable {H : Type} {enc : TypeId × Value→H} {W : World} {base : Nat} {v : Value} {d : DataW H} {p : List MemPlace}
theorem aeP (hv : Value.okWide Tryz.prog W .any base 26 v) (h : DataW.Trod enc Tryz.prog W 0 (fun _=>true) true 26 v d p) : ∃ R : List yk,SlG 2 (all W) (RwbC (all W)) v R:=by
 obtain ⟨a0,len,cap,rfl⟩:=Go.WideShapes.okWide_slice sRw.1 hv
 obtain ⟨fuel,hf⟩:=h
 obtain ⟨d,hr,hd⟩:=jq ahe fuel 26 _ _ (by simp) hf
 obtain ⟨R,rfl,hl,hg⟩:=qc (f:=rwD) (G:=fun x=>x.2.length≤maxLen) sRw hd fun x _ hk=>ais hk
 obtain ⟨v,hv,hs⟩:=yO (D:=rwD) (R:=RwbC (all W)) (fun c x hx h=>aeO h (hg x hx)) hr hl
 have hv : [Value.slice a0 len cap] = [v]:=hv
 injection hv with hv
 exact ⟨R,by rw [hv];exact hs.sl⟩
end
end Go.Proofs.YtekpddhibldojaaGreatDoor.openG
end
section
namespace Go.Proofs.YtekpddhibldojaaGreatDoor.openG
open Go.Sh Go.ChangeShapes Go.WideShapes Go.ChangeAt Go.RowKit
set_option maxRecDepth 100000
theorem ahR : Tryz.prog.globalNamed "math/bits.deBruijn64tab" = some 0 := by kernel_rfl
theorem af0 : (Tryz.prog.globals[0]?).map (·.type)=some 145:=by kernel_rfl
theorem aiE : Tryz.prog.underlying 145=some (.array 64 5):=by kernel_rfl
theorem ait : Tryz.prog.underlying 5=some (.int .u8):=by kernel_rfl
theorem af1 : Tryz.prog.cellsOf 145=64:=by kernel_rfl
theorem aeQ : Tryz.prog.cellsOf 5=1:=by kernel_rfl
theorem ahS {W : World} (h : laidMetH Tryz.prog [("math/bits.deBruijn64tab", Rows.laid_math_bits_deBruijn64tab)] W) : TabG (all W) := by
 have ht : Lib.TabIs Tryz.prog W "math/bits.deBruijn64tab" .u8 (Lib.deBruijn64tab.map fun n : Nat => (n : Int)) :=
  Lib.tabIs_of_head (rest:=[]) ahR af0 aiE ait aeQ af1 h
 have hT : Tab W:=fun j hj=>by
  have hc:=ht.cell ahR j (by rw [List.length_map];exact hj)
  rw [hc]
  congr 2
  have hj' : j<Lib.deBruijn64tab.length:=hj
  simp [List.getD_eq_getElem?_getD,hj']
 exact ⟨fun w' k j hj=>aaL (hT j hj) w' k,_,Array.getElem?_eq_getElem (JO (hT 0 (by decide)))⟩
noncomputable def Yt (os : Os) : World:=
 { World.holding Tryz.prog os ⟨#[],#[],[]⟩ with heap:=(World.holding Tryz.prog os ⟨#[],#[],[]⟩).heap.modify 0 fun
   |.cells _ t frozen=>.cells ((Lib.deBruijn64tab.map fun n : Nat=>Value.int .u8 (n : Int)).toArray) t frozen
   |o=>o }
end Go.Proofs.YtekpddhibldojaaGreatDoor.openG
end
section
namespace Go.Proofs.YtekpddhibldojaaGreatDoor.liveLeast
open Go.Sh Go.ChangeShapes Go.WideShapes Go.ChangeAt Go.RowKit openG
set_option maxRecDepth 100000
set_option linter.unusedVariables false
theorem af2 (H : Type) (enc : TypeId × Value→H) (W : World) (base : Nat) (args : Array Value) (ds gs : List (DataW H)) (before : List MemPlace)
  (hval : ∀ (j : Nat) t v,Tryz.f3.params[j]? = some t→args[j]? = some v→Value.okWide Tryz.prog W .any base t v)
  (hW : DataW.Whole enc Tryz.prog Tryz.f3.params.toList Rows.liveLeastSpec.vars false W args.toList ds gs before) (hL : laidMetH Tryz.prog Rows.liveLeastRow.laid W) :
  Calls Tryz.prog 3 args W fun e W'=>∃ v,e = .returned v∧Rows.liveLeastSpec.post enc Tryz.prog Tryz.f3 false true false false W args v W':=by
 have hW':=hW
 obtain ⟨p,q,hA,hV,rfl,hfz,hnd⟩:=hW
 rw [show Tryz.f3.params.toList = [25,3,26] by kernel_rfl] at hA
 obtain ⟨v0,vs0,d0,ds0,p0,q100,hargs,rfl,rfl,h0,r0⟩:=trodAll_cons hA
 obtain ⟨v1,vs1,d1,ds1,p1,q101,rfl,rfl,rfl,h1,r1⟩:=trodAll_cons r0
 obtain ⟨v2,vs2,d2,ds2,p2,q102,rfl,rfl,rfl,h2,r2⟩:=trodAll_cons r1
 obtain ⟨rfl,rfl,rfl⟩:=trodAll_nil r2
 obtain rfl : args=#[v0,v1,v2]:=by cases args;simp_all
 obtain ⟨rfl,rfl⟩:=trodVars_none hV
 obtain ⟨u0,hu0⟩:=ahd (hval 0 25 v0 (by kernel_rfl) rfl) h0
 obtain ⟨n1,rfl,hi1⟩:=afZ (hval 1 3 v1 (by kernel_rfl) rfl) h1
 obtain ⟨R2,hR2⟩:=aeP (hval 2 26 v2 (by kernel_rfl) rfl) h2
 refine Calls.mono (XY (K:=fun v W'=>v = .bool true∧Ext W W') (adO W) hu0 hR2 (ahS hL) fun w' e=>⟨rfl,e⟩) ?_
 rintro e W' ⟨v,he,rfl,hE⟩
 exact ⟨_,he,ad0 aha aij aiA (by rw [show Tryz.f3.params.toList = [25,3,26] by kernel_rfl];decide) rfl (by kernel_rfl) adB hW' rfl hE⟩
def wit : Array Value:=#[.agg #[.slice none 0 0,.slice none 0 0,.int .i64 0],.int .i64 0,.slice none 0 0]
theorem aiu (os : Os) {H : Type} (enc : TypeId × Value→H) : ∃ ds places,DataW.whole enc Tryz.prog ((Yt os).forCall (fun _ _=>0) ⟨#[],wit,[]⟩).memory Tryz.f3.params.toList Rows.liveLeastSpec.vars false wit.toList 8=some (ds,[],places):=
 ⟨[.agg [.nil,.nil,.lit (.int .i64 0)],.lit (.int .i64 0),.nil],[],by kernel_rfl⟩
theorem af3 (os : Os) : laidMet Tryz.prog Rows.liveLeastRow.laid ((Yt os).forCall (fun _ _=>0) ⟨#[],wit,[]⟩).memory:=
 laidMet_of_run' 8 (by kernel_rfl) (by kernel_rfl)
theorem ahT (os : Os) (started : os.Started) (H : Type) (enc : TypeId × Value→H) (F : Stop.Interp) :
  ReturnsInHanded {} Tryz.checked os 3 .any ((OpenSpec.ofChange Rows.liveLeastSpec).preRow enc Tryz.prog Tryz.f3 Rows.liveLeastRow.domain false Rows.liveLeastRow.laid) (((OpenSpec.ofChange Rows.liveLeastSpec).at F).post enc Tryz.prog Tryz.f3 false true false false):=by
 obtain ⟨ds,places,hx⟩:=aiu os enc
 refine returnsInHanded_of_row (C:=Tryz.checked) (s:=OpenSpec.ofChange Rows.liveLeastSpec) own started (by kernel_rfl) Tryz.func3
  (witness_row_at (enc:=enc) (C:=Tryz.checked) false (Yt os) wit rfl (by kernel_rfl) (by kernel_rfl) (by kernel_rfl)
   (OpenSpec.preRow_of_cond 8 hx (by kernel_rfl) (fun k hk=>by cases hk) (by kernel_rfl) (af3 os))) ?_
 intro W base args ds gs before hval hW _ _ _ hL _ _
 exact af2 H enc W base args ds gs before hval hW hL
theorem said : Rows.LiveLeastSaid:=
 OpenClaim.holds_of_cond 3 Tryz.f3 rfl rfl rfl rfl rfl rfl rfl ⟨rfl,rfl,rfl,rfl,rfl⟩ rfl rfl rfl rfl rfl (by kernel_rfl) Tryz.func3 (by kernel_rfl)
  (of_decide_eq_true (by kernel_rfl)) (by unfold Func.isWrapper;first|(rw [if_pos (by decide +kernel)];kernel_rfl)|(rw [if_neg (by decide +kernel)];exact ⟨rfl,rfl⟩))
  (fun os started H enc _ F=>by rw [OpenClaim.pre_eq_preRow];exact ahT os started H enc F)
theorem plain (f : FuncId) (fn : Func) (hf : Tryz.pinned.checked.prog.funcNamed "loanword/loanwordlaw14.LiveLeast" = some f) (hfn : Tryz.pinned.checked.prog.funcs[f]? = some fn) :
  false=Tryz.pinned.checked.prog.looks []∧∀ (j : Nat) t,fn.params[j]? = some t→Tryz.pinned.checked.prog.wantsStandIn t=false:=by
 obtain rfl : f = 3 := Option.some.inj ((show Tryz.prog.funcNamed "loanword/loanwordlaw14.LiveLeast" = some 3 by kernel_rfl).symm.trans hf) |>.symm
 obtain rfl : fn=Tryz.f3:=(Option.some.inj (Tryz.func3.symm.trans hfn)).symm
 refine ⟨by kernel_rfl,fun j t ht=>?_⟩
 have hall : (Tryz.f3.params.all fun t=>!(Tryz.prog.wantsStandIn t))=true:=by kernel_rfl
 have:=Array.all_eq_true_iff_forall_mem.1 hall t (Array.mem_of_getElem? ht)
 show Tryz.prog.wantsStandIn t=false
 simpa using this
theorem card : Rows.LiveLeastCardSaid:=
 Claim7.holds_tied_plain_at .later [] _ _ _ _ said (fun _ h=>by cases h) (by kernel_rfl) (fun _ h=>by cases h) liveLeast_row_tie rfl ⟨rfl,rfl⟩ (by kernel_rfl) rfl plain (by kernel_rfl)
end Go.Proofs.YtekpddhibldojaaGreatDoor.liveLeast
end
