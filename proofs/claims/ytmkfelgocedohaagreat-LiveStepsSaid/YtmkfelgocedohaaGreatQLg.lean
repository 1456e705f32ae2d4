/-
  Openings: what arguments that are types, programs, lists of numbers tell.
  loanwordlaw14.LiveSteps: whatever the input, the law returns true and the input reads as it did.
-/
import Derived.Test.YtmkfelgocedohaaGreatQLc
import Derived.Test.YtmkfelgocedohaaGreatRows
import Derived.WalkKit
import Derived.Test.YtmkfelgocedohaaGreatQLf
section
namespace Go.Proofs.YtmkfelgocedohaaGreat.openG
open Go.Sh Go.ChangeShapes Go.WideShapes Go.ChangeAt Go.RowKit
set_option maxRecDepth 100000
set_option linter.unusedSimpArgs false
set_option linter.unusedVariables false
theorem own : ownKnob Tryz.prog.godebug=none:=by kernel_rfl
theorem agA : laidOutB Tryz.prog=true:=by kernel_rfl
theorem ahD : mapsRowed Tryz.prog=true:=by kernel_rfl
theorem ahR : ((List.range Tryz.prog.types.size).all fun t=>match Tryz.prog.underlying t with|some (.slice e)=>decide (0<Tryz.prog.cellsOf e)|_=>true)=true:=by kernel_rfl
theorem qK : Tryz.prog.underlying 3=some (.int .i64):=by kernel_rfl
theorem ahS : Tryz.prog.underlying 2=some (.int .i64):=by kernel_rfl
theorem ahT : Tryz.prog.underlying 153=some (.int .i64):=by kernel_rfl
theorem ac8 : Tryz.prog.underlying 4=some .bool:=by kernel_rfl
theorem ahU : Tryz.prog.underlying 9=some .string:=by kernel_rfl
theorem uTk : Tryz.prog.underlying 136=some (.int .u8):=by kernel_rfl
theorem uOk : Tryz.prog.underlying 82=some (.int .u8):=by kernel_rfl
theorem uPo : Tryz.prog.underlying 78=some (.int .u8):=by kernel_rfl
theorem sTy : Tryz.prog.underlying 34=some (.slice 138)∧Tryz.prog.cellsOf 138=5:=⟨by kernel_rfl,by kernel_rfl⟩
theorem sFd : Tryz.prog.underlying 93=some (.slice 195)∧Tryz.prog.cellsOf 195=6:=⟨by kernel_rfl,by kernel_rfl⟩
theorem sSt : Tryz.prog.underlying 22=some (.slice 95)∧Tryz.prog.cellsOf 95=2:=⟨by kernel_rfl,by kernel_rfl⟩
theorem sGr : Tryz.prog.underlying 23=some (.slice 38)∧Tryz.prog.cellsOf 38=7:=⟨by kernel_rfl,by kernel_rfl⟩
theorem sOu : Tryz.prog.underlying 33=some (.slice 204)∧Tryz.prog.cellsOf 204=2:=⟨by kernel_rfl,by kernel_rfl⟩
theorem sSs : Tryz.prog.underlying 35=some (.slice 9)∧Tryz.prog.cellsOf 9=1:=⟨by kernel_rfl,by kernel_rfl⟩
theorem sPt : Tryz.prog.underlying 36=some (.slice 87)∧Tryz.prog.cellsOf 87=21:=⟨by kernel_rfl,by kernel_rfl⟩
theorem sOp : Tryz.prog.underlying 85=some (.slice 84)∧Tryz.prog.cellsOf 84=4:=⟨by kernel_rfl,by kernel_rfl⟩
theorem sSp : Tryz.prog.underlying 79=some (.slice 153)∧Tryz.prog.cellsOf 153=1:=⟨by kernel_rfl,by kernel_rfl⟩
theorem aTy : ∃ fs,Tryz.prog.underlying 138=some (.struct fs)∧fs.toList.map (·.type) = [136,4,3,3,34]:=xa (by kernel_rfl)
theorem aFd : ∃ fs,Tryz.prog.underlying 195=some (.struct fs)∧fs.toList.map (·.type) = [9,138]:=xa (by kernel_rfl)
theorem aSt : ∃ fs,Tryz.prog.underlying 95=some (.struct fs)∧fs.toList.map (·.type) = [9,93]:=xa (by kernel_rfl)
theorem aPl : ∃ fs,Tryz.prog.underlying 81=some (.struct fs)∧fs.toList.map (·.type) = [3,79]:=xa (by kernel_rfl)
theorem aOp : ∃ fs,Tryz.prog.underlying 84=some (.struct fs)∧fs.toList.map (·.type) = [82,2,81]:=xa (by kernel_rfl)
theorem aPt : ∃ fs,Tryz.prog.underlying 87=some (.struct fs)∧fs.toList.map (·.type) = [78,81,84,84,85,9,81,4,3,3,3,3,3]:=xa (by kernel_rfl)
theorem aOu : ∃ fs,Tryz.prog.underlying 204=some (.struct fs)∧fs.toList.map (·.type) = [3,3]:=xa (by kernel_rfl)
theorem aGr : ∃ fs,Tryz.prog.underlying 38=some (.struct fs)∧fs.toList.map (·.type) = [9,3,33,3,34,35,36]:=xa (by kernel_rfl)
theorem aUn : ∃ fs,Tryz.prog.underlying 25=some (.struct fs)∧fs.toList.map (·.type) = [22,23,3]:=xa (by kernel_rfl)
theorem agB : adA Tryz.prog [25,22,95,93,195,9,138,136,4,3,34,23,38,33,204,35,36,87,78,
 81,79,153,84,82,2,85]=true:=by kernel_rfl
theorem jn {α : Type} {f : α→Dat} {G : α→Prop} {d : Dat} {T e : TypeId} {n : Nat} (u : Tryz.prog.underlying T=some (.slice e)∧Tryz.prog.cellsOf e=n) (h : d.ok Tryz.prog T) (hf : ∀ x : Dat,SizeOf.sizeOf x<SizeOf.sizeOf d→x.ok Tryz.prog e→∃ t,x=f t∧G t) :
  ∃ l : List α,d = .sl n (l.map f)∧l.length≤maxLen∧∀ t ∈ l,G t:=by
 obtain ⟨es,rfl,hl,hk⟩:=agV u.1 h
 obtain ⟨l,rfl,hg⟩:=aaH (f:=f) (G:=G) es fun x hx=>hf x (by
  have:=List.sizeOf_lt_of_mem hx
  simp only [Dat.sl.sizeOf_spec];omega) (hk x hx)
 exact ⟨l,by rw [u.2],by simpa using hl,hg⟩
theorem ahE : ∀ (n : Nat) (d : Dat),SizeOf.sizeOf d≤n→d.ok Tryz.prog 138→∃ t : TyD,d=t.dat:=by
 intro n
 induction n with
 |zero=>intro d h _;cases d<;>simp at h
 |succ n ih=>
  intro d hs h
  obtain ⟨ds,rfl,e0⟩:=kB aTy h
  obtain ⟨d0,ds,rfl,h0,e1⟩:=zp e0
  obtain ⟨d1,ds,rfl,h1,e2⟩:=zp e1
  obtain ⟨d2,ds,rfl,h2,e3⟩:=zp e2
  obtain ⟨d3,ds,rfl,h3,e4⟩:=zp e3
  obtain ⟨d4,ds,rfl,h4,e5⟩:=zp e4
  obtain rfl:=kC e5
  obtain ⟨k,rfl,_⟩:=yc uTk h0
  obtain ⟨m,rfl⟩:=aaG ac8 h1
  obtain ⟨re,rfl,_⟩:=yc qK h2
  obtain ⟨st,rfl,_⟩:=yc qK h3
  obtain ⟨l,rfl,_,_⟩:=jn (f:=TyD.dat) (G:=fun _=>True) sTy h4 fun x hx hk=>by
   obtain ⟨t,ht⟩:=ih x (by
    simp only [Dat.agg.sizeOf_spec,List.cons.sizeOf_spec] at hs
    omega) hk
   exact ⟨t,ht,trivial⟩
  exact ⟨.mk k m re st l,by rw [TyD.dat,TyD.dats_map]⟩
theorem aem {d : Dat} (h : d.ok Tryz.prog 138) : ∃ t : TyD,d=t.dat∧True:=by
 obtain ⟨t,ht⟩:=ahE _ d (Nat.le_refl _) h
 exact ⟨t,ht,trivial⟩
theorem Xz {d : Dat} (h : d.ok Tryz.prog 9) : ∃ s : ByteArray,d = .str s∧True:=by
 obtain ⟨s,hs,_⟩:=af1 ahU h
 exact ⟨s,hs,trivial⟩
theorem agC {n : Int} (h : (Lit.int .i64 n).wf=true) : JS n:=by have:=adB h;exact ⟨this.1,by omega⟩
theorem ahd {d : Dat} (h : d.ok Tryz.prog 153) : ∃ n : Int,d=Dat.int .i64 n∧JS n:=by
 obtain ⟨n,hn,hw⟩:=yc ahT h
 exact ⟨n,hn,agC hw⟩
theorem ahF {d : Dat} (h : d.ok Tryz.prog 195) : ∃ f : ByteArray × TyD,d=aaC f∧True:=by
 obtain ⟨ds,rfl,e0⟩:=kB aFd h
 obtain ⟨d0,ds,rfl,h0,e1⟩:=zp e0
 obtain ⟨d1,ds,rfl,h1,e2⟩:=zp e1
 obtain rfl:=kC e2
 obtain ⟨s,rfl,_⟩:=Xz h0
 obtain ⟨t,rfl,_⟩:=aem h1
 exact ⟨(s,t),rfl,trivial⟩
theorem ahG {d : Dat} (h : d.ok Tryz.prog 95) : ∃ s : StD,d=s.dat∧True:=by
 obtain ⟨ds,rfl,e0⟩:=kB aSt h
 obtain ⟨d0,ds,rfl,h0,e1⟩:=zp e0
 obtain ⟨d1,ds,rfl,h1,e2⟩:=zp e1
 obtain rfl:=kC e2
 obtain ⟨s,rfl,_⟩:=Xz h0
 obtain ⟨l,rfl,_,_⟩:=jn (f:=aaC) (G:=fun _=>True) sFd h1 fun x _ hk=>ahF hk
 exact ⟨⟨s,l⟩,rfl,trivial⟩
theorem ac9 {d : Dat} (h : d.ok Tryz.prog 81) : ∃ p : PlD,d=p.dat∧p.ok:=by
 obtain ⟨ds,rfl,e0⟩:=kB aPl h
 obtain ⟨d0,ds,rfl,h0,e1⟩:=zp e0
 obtain ⟨d1,ds,rfl,h1,e2⟩:=zp e1
 obtain rfl:=kC e2
 obtain ⟨n,rfl,_⟩:=yc qK h0
 obtain ⟨l,rfl,hl,hg⟩:=jn (f:=Dat.int .i64) (G:=JS) sSp h1 fun x _ hk=>ahd hk
 exact ⟨⟨n,l⟩,rfl,hl,hg⟩
theorem ada {d : Dat} (h : d.ok Tryz.prog 84) : ∃ o : OpD,d=o.dat∧o.ok:=by
 obtain ⟨ds,rfl,e0⟩:=kB aOp h
 obtain ⟨d0,ds,rfl,h0,e1⟩:=zp e0
 obtain ⟨d1,ds,rfl,h1,e2⟩:=zp e1
 obtain ⟨d2,ds,rfl,h2,e3⟩:=zp e2
 obtain rfl:=kC e3
 obtain ⟨k,rfl,_⟩:=yc uOk h0
 obtain ⟨n,rfl,_⟩:=yc ahS h1
 obtain ⟨p,rfl,hp⟩:=ac9 h2
 exact ⟨⟨k,n,p⟩,rfl,hp⟩
theorem ahH {d : Dat} (h : d.ok Tryz.prog 87) : ∃ p : PtD,d=p.dat∧p.ok:=by
 obtain ⟨ds,rfl,e0⟩:=kB aPt h
 obtain ⟨d0,ds,rfl,h0,e1⟩:=zp e0
 obtain ⟨d1,ds,rfl,h1,e2⟩:=zp e1
 obtain ⟨d2,ds,rfl,h2,e3⟩:=zp e2
 obtain ⟨d3,ds,rfl,h3,e4⟩:=zp e3
 obtain ⟨d4,ds,rfl,h4,e5⟩:=zp e4
 obtain ⟨d5,ds,rfl,h5,e6⟩:=zp e5
 obtain ⟨d6,ds,rfl,h6,e7⟩:=zp e6
 obtain ⟨d7,ds,rfl,h7,e8⟩:=zp e7
 obtain ⟨d8,ds,rfl,h8,e9⟩:=zp e8
 obtain ⟨d9,ds,rfl,h9,e10⟩:=zp e9
 obtain ⟨d10,ds,rfl,h10,e11⟩:=zp e10
 obtain ⟨d11,ds,rfl,h11,e12⟩:=zp e11
 obtain ⟨d12,ds,rfl,h12,e13⟩:=zp e12
 obtain rfl:=kC e13
 obtain ⟨op,rfl,_⟩:=yc uPo h0
 obtain ⟨to,rfl,g1⟩:=ac9 h1
 obtain ⟨a,rfl,g2⟩:=ada h2
 obtain ⟨b,rfl,g3⟩:=ada h3
 obtain ⟨l,rfl,hl,g4⟩:=jn (f:=OpD.dat) (G:=OpD.ok) sOp h4 fun x _ hk=>ada hk
 obtain ⟨s,rfl,_⟩:=Xz h5
 obtain ⟨fr,rfl,g6⟩:=ac9 h6
 obtain ⟨mu,rfl⟩:=aaG ac8 h7
 obtain ⟨fn,rfl,_⟩:=yc qK h8
 obtain ⟨st,rfl,_⟩:=yc qK h9
 obtain ⟨nx,rfl,_⟩:=yc qK h10
 obtain ⟨el,rfl,_⟩:=yc qK h11
 obtain ⟨tx,rfl,_⟩:=yc qK h12
 exact ⟨⟨op,to,a,b,l,s,fr,mu,fn,st,nx,el,tx⟩,rfl,g1,g2,g3,⟨hl,g4⟩,g6⟩
theorem ahI {d : Dat} (h : d.ok Tryz.prog 204) : ∃ x : Int × Int,d=acD x∧True:=by
 obtain ⟨ds,rfl,e0⟩:=kB aOu h
 obtain ⟨d0,ds,rfl,h0,e1⟩:=zp e0
 obtain ⟨d1,ds,rfl,h1,e2⟩:=zp e1
 obtain rfl:=kC e2
 obtain ⟨a,rfl,_⟩:=yc qK h0
 obtain ⟨b,rfl,_⟩:=yc qK h1
 exact ⟨(a,b),rfl,trivial⟩
theorem ahJ {d : Dat} (h : d.ok Tryz.prog 38) : ∃ g : GrD,d=g.dat∧g.ok:=by
 obtain ⟨ds,rfl,e0⟩:=kB aGr h
 obtain ⟨d0,ds,rfl,h0,e1⟩:=zp e0
 obtain ⟨d1,ds,rfl,h1,e2⟩:=zp e1
 obtain ⟨d2,ds,rfl,h2,e3⟩:=zp e2
 obtain ⟨d3,ds,rfl,h3,e4⟩:=zp e3
 obtain ⟨d4,ds,rfl,h4,e5⟩:=zp e4
 obtain ⟨d5,ds,rfl,h5,e6⟩:=zp e5
 obtain ⟨d6,ds,rfl,h6,e7⟩:=zp e6
 obtain rfl:=kC e7
 obtain ⟨s,rfl,_⟩:=Xz h0
 obtain ⟨lv,rfl,_⟩:=yc qK h1
 obtain ⟨lo,rfl,g2,_⟩:=jn (f:=acD) (G:=fun _=>True) sOu h2 fun x _ hk=>ahI hk
 obtain ⟨pn,rfl,_⟩:=yc qK h3
 obtain ⟨lt,rfl,g4,_⟩:=jn (f:=TyD.dat) (G:=fun _=>True) sTy h4 fun x _ hk=>aem hk
 obtain ⟨ln,rfl,g5,_⟩:=jn (f:=Dat.str) (G:=fun _=>True) sSs h5 fun x _ hk=>Xz hk
 obtain ⟨lp,rfl,g6,hp⟩:=jn (f:=PtD.dat) (G:=PtD.ok) sPt h6 fun x _ hk=>ahH hk
 exact ⟨⟨s,lv,lo,pn,lt,ln,lp⟩,rfl,g2,g4,g5,g6,hp⟩
theorem ahK {d : Dat} (h : d.ok Tryz.prog 25) : ∃ u : UnD,d=u.dat∧u.ok:=by
 obtain ⟨ds,rfl,e0⟩:=kB aUn h
 obtain ⟨d0,ds,rfl,h0,e1⟩:=zp e0
 obtain ⟨d1,ds,rfl,h1,e2⟩:=zp e1
 obtain ⟨d2,ds,rfl,h2,e3⟩:=zp e2
 obtain rfl:=kC e3
 obtain ⟨ss,rfl,g0,_⟩:=jn (f:=StD.dat) (G:=fun _=>True) sSt h0 fun x _ hk=>ahG hk
 obtain ⟨fs,rfl,g1,hg⟩:=jn (f:=GrD.dat) (G:=GrD.ok) sGr h1 fun x _ hk=>ahJ hk
 obtain ⟨mn,rfl,_⟩:=yc qK h2
 exact ⟨⟨ss,fs,mn⟩,rfl,g0,g1,hg⟩
section
variable {H : Type} {enc : TypeId × Value→H} {W : World} {base : Nat} {v : Value} {d : DataW H} {p : List MemPlace}
theorem agD (hv : Value.okWide Tryz.prog W .any base 25 v) (h : DataW.Trod enc Tryz.prog W 0 (fun _=>true) true 25 v d p) : ∃ u : UnD,UnG (all W) v u:=by
 obtain ⟨fs,hu,_⟩:=aUn
 obtain ⟨cs,rfl,hsz⟩:=okWide_struct hu hv
 obtain ⟨fuel,hf⟩:=h
 obtain ⟨d,hr,hd⟩:=ZF agB fuel 25 _ _ (by simp) hf
 obtain ⟨u,rfl,hk⟩:=ahK hd
 exact ⟨u,by simpa [Value.cells] using adF hr hk⟩
theorem abu (hv : Value.okWide Tryz.prog W .any base 3 v) (h : DataW.Trod enc Tryz.prog W 0 (fun _=>true) true 3 v d p) : ∃ n : Int,v = .int .i64 n∧-9223372036854775808≤n∧n≤9223372036854775807:=by
 obtain ⟨n,rfl,_,_,hw⟩:=open_int qK hv h
 exact ⟨n,rfl,adB hw⟩
end
noncomputable def XA (os : Os) : World:=World.holding Tryz.prog os ⟨#[],#[],[]⟩
end Go.Proofs.YtmkfelgocedohaaGreat.openG
end
section
namespace Go.Proofs.YtmkfelgocedohaaGreat.liveSteps
open Go.Sh Go.ChangeShapes Go.WideShapes Go.ChangeAt Go.RowKit openG
set_option maxRecDepth 100000
set_option linter.unusedVariables false
theorem afA (H : Type) (enc : TypeId × Value→H) (W : World) (base : Nat) (args : Array Value) (ds gs : List (DataW H)) (before : List MemPlace)
  (hval : ∀ (j : Nat) t v,Tryz.f11.params[j]? = some t→args[j]? = some v→Value.okWide Tryz.prog W .any base t v)
  (hW : DataW.Whole enc Tryz.prog Tryz.f11.params.toList Rows.liveStepsSpec.vars false W args.toList ds gs before) :
  Calls Tryz.prog 11 args W fun e W'=>∃ v,e = .returned v∧Rows.liveStepsSpec.post enc Tryz.prog Tryz.f11 false true false false W args v W':=by
 have hW':=hW
 obtain ⟨p,q,hA,hV,rfl,hfz,hnd⟩:=hW
 rw [show Tryz.f11.params.toList = [25,3,3] by kernel_rfl] at hA
 obtain ⟨v0,vs0,d0,ds0,p0,q100,hargs,rfl,rfl,h0,r0⟩:=trodAll_cons hA
 obtain ⟨v1,vs1,d1,ds1,p1,q101,rfl,rfl,rfl,h1,r1⟩:=trodAll_cons r0
 obtain ⟨v2,vs2,d2,ds2,p2,q102,rfl,rfl,rfl,h2,r2⟩:=trodAll_cons r1
 obtain ⟨rfl,rfl,rfl⟩:=trodAll_nil r2
 obtain rfl : args=#[v0,v1,v2]:=by cases args;simp_all
 obtain ⟨rfl,rfl⟩:=trodVars_none hV
 obtain ⟨u0,hu0⟩:=agD (hval 0 25 v0 (by kernel_rfl) rfl) h0
 obtain ⟨n1,rfl,hi1⟩:=abu (hval 1 3 v1 (by kernel_rfl) rfl) h1
 obtain ⟨n2,rfl,hi2⟩:=abu (hval 2 3 v2 (by kernel_rfl) rfl) h2
 refine Calls.mono (XT (K:=fun v W'=>v = .bool true∧Ext W W') (adm W) hu0 fun w' e=>⟨rfl,e⟩) ?_
 rintro e W' ⟨v,he,rfl,hE⟩
 exact ⟨_,he,ady agA ahD ahR (by rw [show Tryz.f11.params.toList = [25,3,3] by kernel_rfl];decide) rfl (by kernel_rfl) ac8 hW' rfl hE⟩
def wit : Array Value:=#[.agg #[.slice none 0 0,.slice none 0 0,.int .i64 0],.int .i64 0,.int .i64 0]
theorem ahL (os : Os) {H : Type} (enc : TypeId × Value→H) : ∃ ds places,DataW.whole enc Tryz.prog ((XA os).forCall (fun _ _=>0) ⟨#[],wit,[]⟩).memory Tryz.f11.params.toList Rows.liveStepsSpec.vars false wit.toList 8=some (ds,[],places):=
 ⟨[.agg [.nil,.nil,.lit (.int .i64 0)],.lit (.int .i64 0),.lit (.int .i64 0)],[],by kernel_rfl⟩
theorem afB (os : Os) : laidMet Tryz.prog Rows.liveStepsRow.laid ((XA os).forCall (fun _ _=>0) ⟨#[],wit,[]⟩).memory:=
 laidMet_of_run' 8 (by kernel_rfl) (by kernel_rfl)
theorem ahe (os : Os) (started : os.Started) (H : Type) (enc : TypeId × Value→H) (F : Stop.Interp) :
  ReturnsInHanded {} Tryz.checked os 11 .any ((OpenSpec.ofChange Rows.liveStepsSpec).preRow enc Tryz.prog Tryz.f11 Rows.liveStepsRow.domain false Rows.liveStepsRow.laid) (((OpenSpec.ofChange Rows.liveStepsSpec).at F).post enc Tryz.prog Tryz.f11 false true false false):=by
 obtain ⟨ds,places,hx⟩:=ahL os enc
 refine returnsInHanded_of_row (C:=Tryz.checked) (s:=OpenSpec.ofChange Rows.liveStepsSpec) own started (by kernel_rfl) Tryz.func11
  (witness_row_at (enc:=enc) (C:=Tryz.checked) false (XA os) wit rfl (by kernel_rfl) (by kernel_rfl) (by kernel_rfl)
   (OpenSpec.preRow_of_cond 8 hx (by kernel_rfl) (fun k hk=>by cases hk) (by kernel_rfl) (afB os))) ?_
 intro W base args ds gs before hval hW _ _ _ hL _ _
 exact afA H enc W base args ds gs before hval hW
theorem said : Rows.LiveStepsSaid:=
 OpenClaim.holds_of_cond 11 Tryz.f11 rfl rfl rfl rfl rfl rfl rfl ⟨rfl,rfl,rfl,rfl,rfl⟩ rfl rfl rfl rfl rfl (by kernel_rfl) Tryz.func11 (by kernel_rfl)
  (of_decide_eq_true (by kernel_rfl)) (by unfold Func.isWrapper;first|(rw [if_pos (by decide +kernel)];kernel_rfl)|(rw [if_neg (by decide +kernel)];exact ⟨rfl,rfl⟩))
  (fun os started H enc _ F=>by rw [OpenClaim.pre_eq_preRow];exact ahe os started H enc F)
end Go.Proofs.YtmkfelgocedohaaGreat.liveSteps
end
