/-
  Openings: what arguments that are types, programs, lists of numbers tell.
  loanwordlaw14.LiveRows: whatever the input, the law returns true and the input reads as it did.
-/
import Derived.Test.YtekpddhibldojaaGreatQKc
import Derived.Test.YtekpddhibldojaaGreatRows
import Derived.WalkKit
import Derived.Test.YtekpddhibldojaaGreatQKh
section
namespace Go.Proofs.YtekpddhibldojaaGreat.openG
open Go.Sh Go.ChangeShapes Go.WideShapes Go.ChangeAt Go.RowKit
set_option maxRecDepth 100000
set_option linter.unusedSimpArgs false
set_option linter.unusedVariables false
theorem own : ownKnob Tryz.prog.godebug=none:=by kernel_rfl
theorem aky : laidOutB Tryz.prog=true:=by kernel_rfl
theorem alI : mapsRowed Tryz.prog=true:=by kernel_rfl
theorem alW : ((List.range Tryz.prog.types.size).all fun t=>match Tryz.prog.underlying t with|some (.slice e)=>decide (0<Tryz.prog.cellsOf e)|_=>true)=true:=by kernel_rfl
theorem vA : Tryz.prog.underlying 3=some (.int .i64):=by kernel_rfl
theorem alX : Tryz.prog.underlying 2=some (.int .i64):=by kernel_rfl
theorem alY : Tryz.prog.underlying 90=some (.int .i64):=by kernel_rfl
theorem ahv : Tryz.prog.underlying 4=some .bool:=by kernel_rfl
theorem alZ : Tryz.prog.underlying 9=some .string:=by kernel_rfl
theorem uTk : Tryz.prog.underlying 91=some (.int .u8):=by kernel_rfl
theorem uOk : Tryz.prog.underlying 59=some (.int .u8):=by kernel_rfl
theorem uPo : Tryz.prog.underlying 55=some (.int .u8):=by kernel_rfl
theorem sTy : Tryz.prog.underlying 39=some (.slice 93)∧Tryz.prog.cellsOf 93=5:=⟨by kernel_rfl,by kernel_rfl⟩
theorem sFd : Tryz.prog.underlying 65=some (.slice 156)∧Tryz.prog.cellsOf 156=6:=⟨by kernel_rfl,by kernel_rfl⟩
theorem sSt : Tryz.prog.underlying 22=some (.slice 67)∧Tryz.prog.cellsOf 67=2:=⟨by kernel_rfl,by kernel_rfl⟩
theorem sGr : Tryz.prog.underlying 23=some (.slice 43)∧Tryz.prog.cellsOf 43=7:=⟨by kernel_rfl,by kernel_rfl⟩
theorem sOu : Tryz.prog.underlying 38=some (.slice 165)∧Tryz.prog.cellsOf 165=2:=⟨by kernel_rfl,by kernel_rfl⟩
theorem sSs : Tryz.prog.underlying 40=some (.slice 9)∧Tryz.prog.cellsOf 9=1:=⟨by kernel_rfl,by kernel_rfl⟩
theorem sPt : Tryz.prog.underlying 41=some (.slice 64)∧Tryz.prog.cellsOf 64=21:=⟨by kernel_rfl,by kernel_rfl⟩
theorem sOp : Tryz.prog.underlying 62=some (.slice 61)∧Tryz.prog.cellsOf 61=4:=⟨by kernel_rfl,by kernel_rfl⟩
theorem sSp : Tryz.prog.underlying 56=some (.slice 90)∧Tryz.prog.cellsOf 90=1:=⟨by kernel_rfl,by kernel_rfl⟩
theorem aTy : ∃ fs,Tryz.prog.underlying 93=some (.struct fs)∧fs.toList.map (·.type) = [91,4,3,3,39]:=xT (by kernel_rfl)
theorem aFd : ∃ fs,Tryz.prog.underlying 156=some (.struct fs)∧fs.toList.map (·.type) = [9,93]:=xT (by kernel_rfl)
theorem aSt : ∃ fs,Tryz.prog.underlying 67=some (.struct fs)∧fs.toList.map (·.type) = [9,65]:=xT (by kernel_rfl)
theorem aPl : ∃ fs,Tryz.prog.underlying 58=some (.struct fs)∧fs.toList.map (·.type) = [3,56]:=xT (by kernel_rfl)
theorem aOp : ∃ fs,Tryz.prog.underlying 61=some (.struct fs)∧fs.toList.map (·.type) = [59,2,58]:=xT (by kernel_rfl)
theorem aPt : ∃ fs,Tryz.prog.underlying 64=some (.struct fs)∧fs.toList.map (·.type) = [55,58,61,61,62,9,58,4,3,3,3,3,3]:=xT (by kernel_rfl)
theorem aOu : ∃ fs,Tryz.prog.underlying 165=some (.struct fs)∧fs.toList.map (·.type) = [3,3]:=xT (by kernel_rfl)
theorem aGr : ∃ fs,Tryz.prog.underlying 43=some (.struct fs)∧fs.toList.map (·.type) = [9,3,38,3,39,40,41]:=xT (by kernel_rfl)
theorem aUn : ∃ fs,Tryz.prog.underlying 25=some (.struct fs)∧fs.toList.map (·.type) = [22,23,3]:=xT (by kernel_rfl)
theorem akz : ahR Tryz.prog [25,22,67,65,156,9,93,91,4,3,39,23,43,38,165,40,41,64,55,
 58,56,90,61,59,2,62]=true:=by kernel_rfl
theorem Zl {α : Type} {f : α→Dat} {G : α→Prop} {d : Dat} {T e : TypeId} {n : Nat} (u : Tryz.prog.underlying T=some (.slice e)∧Tryz.prog.cellsOf e=n) (h : d.ok Tryz.prog T) (hf : ∀ x : Dat,SizeOf.sizeOf x<SizeOf.sizeOf d→x.ok Tryz.prog e→∃ t,x=f t∧G t) :
  ∃ l : List α,d = .sl n (l.map f)∧l.length≤maxLen∧∀ t ∈ l,G t:=by
 obtain ⟨es,rfl,hl,hk⟩:=akR u.1 h
 obtain ⟨l,rfl,hg⟩:=aeL (f:=f) (G:=G) es fun x hx=>hf x (by
  have:=List.sizeOf_lt_of_mem hx
  simp only [Dat.sl.sizeOf_spec];omega) (hk x hx)
 exact ⟨l,by rw [u.2],by simpa using hl,hg⟩
theorem alJ : ∀ (n : Nat) (d : Dat),SizeOf.sizeOf d≤n→d.ok Tryz.prog 93→∃ t : TyD,d=t.dat:=by
 intro n
 induction n with
 |zero=>intro d h _;cases d<;>simp at h
 |succ n ih=>
  intro d hs h
  obtain ⟨ds,rfl,e0⟩:=qK aTy h
  obtain ⟨d0,ds,rfl,h0,e1⟩:=zx e0
  obtain ⟨d1,ds,rfl,h1,e2⟩:=zx e1
  obtain ⟨d2,ds,rfl,h2,e3⟩:=zx e2
  obtain ⟨d3,ds,rfl,h3,e4⟩:=zx e3
  obtain ⟨d4,ds,rfl,h4,e5⟩:=zx e4
  obtain rfl:=qL e5
  obtain ⟨k,rfl,_⟩:=yD uTk h0
  obtain ⟨m,rfl⟩:=aeK ahv h1
  obtain ⟨re,rfl,_⟩:=yD vA h2
  obtain ⟨st,rfl,_⟩:=yD vA h3
  obtain ⟨l,rfl,_,_⟩:=Zl (f:=TyD.dat) (G:=fun _=>True) sTy h4 fun x hx hk=>by
   obtain ⟨t,ht⟩:=ih x (by
    simp only [Dat.agg.sizeOf_spec,List.cons.sizeOf_spec] at hs
    omega) hk
   exact ⟨t,ht,trivial⟩
  exact ⟨.mk k m re st l,by rw [TyD.dat,TyD.dats_map]⟩
theorem air {d : Dat} (h : d.ok Tryz.prog 93) : ∃ t : TyD,d=t.dat∧True:=by
 obtain ⟨t,ht⟩:=alJ _ d (Nat.le_refl _) h
 exact ⟨t,ht,trivial⟩
theorem Vc {d : Dat} (h : d.ok Tryz.prog 9) : ∃ s : ByteArray,d = .str s∧True:=by
 obtain ⟨s,hs,_⟩:=aj4 alZ h
 exact ⟨s,hs,trivial⟩
theorem akA {n : Int} (h : (Lit.int .i64 n).wf=true) : ack n:=by have:=ahS h;exact ⟨this.1,by omega⟩
theorem alc {d : Dat} (h : d.ok Tryz.prog 90) : ∃ n : Int,d=Dat.int .i64 n∧ack n:=by
 obtain ⟨n,hn,hw⟩:=yD alY h
 exact ⟨n,hn,akA hw⟩
theorem alK {d : Dat} (h : d.ok Tryz.prog 156) : ∃ f : ByteArray × TyD,d=aeH f∧True:=by
 obtain ⟨ds,rfl,e0⟩:=qK aFd h
 obtain ⟨d0,ds,rfl,h0,e1⟩:=zx e0
 obtain ⟨d1,ds,rfl,h1,e2⟩:=zx e1
 obtain rfl:=qL e2
 obtain ⟨s,rfl,_⟩:=Vc h0
 obtain ⟨t,rfl,_⟩:=air h1
 exact ⟨(s,t),rfl,trivial⟩
theorem alL {d : Dat} (h : d.ok Tryz.prog 67) : ∃ s : StD,d=s.dat∧True:=by
 obtain ⟨ds,rfl,e0⟩:=qK aSt h
 obtain ⟨d0,ds,rfl,h0,e1⟩:=zx e0
 obtain ⟨d1,ds,rfl,h1,e2⟩:=zx e1
 obtain rfl:=qL e2
 obtain ⟨s,rfl,_⟩:=Vc h0
 obtain ⟨l,rfl,_,_⟩:=Zl (f:=aeH) (G:=fun _=>True) sFd h1 fun x _ hk=>alK hk
 exact ⟨⟨s,l⟩,rfl,trivial⟩
theorem ahw {d : Dat} (h : d.ok Tryz.prog 58) : ∃ p : PlD,d=p.dat∧p.ok:=by
 obtain ⟨ds,rfl,e0⟩:=qK aPl h
 obtain ⟨d0,ds,rfl,h0,e1⟩:=zx e0
 obtain ⟨d1,ds,rfl,h1,e2⟩:=zx e1
 obtain rfl:=qL e2
 obtain ⟨n,rfl,_⟩:=yD vA h0
 obtain ⟨l,rfl,hl,hg⟩:=Zl (f:=Dat.int .i64) (G:=ack) sSp h1 fun x _ hk=>alc hk
 exact ⟨⟨n,l⟩,rfl,hl,hg⟩
theorem ahx {d : Dat} (h : d.ok Tryz.prog 61) : ∃ o : OpD,d=o.dat∧o.ok:=by
 obtain ⟨ds,rfl,e0⟩:=qK aOp h
 obtain ⟨d0,ds,rfl,h0,e1⟩:=zx e0
 obtain ⟨d1,ds,rfl,h1,e2⟩:=zx e1
 obtain ⟨d2,ds,rfl,h2,e3⟩:=zx e2
 obtain rfl:=qL e3
 obtain ⟨k,rfl,_⟩:=yD uOk h0
 obtain ⟨n,rfl,_⟩:=yD alX h1
 obtain ⟨p,rfl,hp⟩:=ahw h2
 exact ⟨⟨k,n,p⟩,rfl,hp⟩
theorem alO {d : Dat} (h : d.ok Tryz.prog 64) : ∃ p : PtD,d=p.dat∧p.ok:=by
 obtain ⟨ds,rfl,e0⟩:=qK aPt h
 obtain ⟨d0,ds,rfl,h0,e1⟩:=zx e0
 obtain ⟨d1,ds,rfl,h1,e2⟩:=zx e1
 obtain ⟨d2,ds,rfl,h2,e3⟩:=zx e2
 obtain ⟨d3,ds,rfl,h3,e4⟩:=zx e3
 obtain ⟨d4,ds,rfl,h4,e5⟩:=zx e4
 obtain ⟨d5,ds,rfl,h5,e6⟩:=zx e5
 obtain ⟨d6,ds,rfl,h6,e7⟩:=zx e6
 obtain ⟨d7,ds,rfl,h7,e8⟩:=zx e7
 obtain ⟨d8,ds,rfl,h8,e9⟩:=zx e8
 obtain ⟨d9,ds,rfl,h9,e10⟩:=zx e9
 obtain ⟨d10,ds,rfl,h10,e11⟩:=zx e10
 obtain ⟨d11,ds,rfl,h11,e12⟩:=zx e11
 obtain ⟨d12,ds,rfl,h12,e13⟩:=zx e12
 obtain rfl:=qL e13
 obtain ⟨op,rfl,_⟩:=yD uPo h0
 obtain ⟨to,rfl,g1⟩:=ahw h1
 obtain ⟨a,rfl,g2⟩:=ahx h2
 obtain ⟨b,rfl,g3⟩:=ahx h3
 obtain ⟨l,rfl,hl,g4⟩:=Zl (f:=OpD.dat) (G:=OpD.ok) sOp h4 fun x _ hk=>ahx hk
 obtain ⟨s,rfl,_⟩:=Vc h5
 obtain ⟨fr,rfl,g6⟩:=ahw h6
 obtain ⟨mu,rfl⟩:=aeK ahv h7
 obtain ⟨fn,rfl,_⟩:=yD vA h8
 obtain ⟨st,rfl,_⟩:=yD vA h9
 obtain ⟨nx,rfl,_⟩:=yD vA h10
 obtain ⟨el,rfl,_⟩:=yD vA h11
 obtain ⟨tx,rfl,_⟩:=yD vA h12
 exact ⟨⟨op,to,a,b,l,s,fr,mu,fn,st,nx,el,tx⟩,rfl,g1,g2,g3,⟨hl,g4⟩,g6⟩
theorem alP {d : Dat} (h : d.ok Tryz.prog 165) : ∃ x : Int × Int,d=agY x∧True:=by
 obtain ⟨ds,rfl,e0⟩:=qK aOu h
 obtain ⟨d0,ds,rfl,h0,e1⟩:=zx e0
 obtain ⟨d1,ds,rfl,h1,e2⟩:=zx e1
 obtain rfl:=qL e2
 obtain ⟨a,rfl,_⟩:=yD vA h0
 obtain ⟨b,rfl,_⟩:=yD vA h1
 exact ⟨(a,b),rfl,trivial⟩
theorem alQ {d : Dat} (h : d.ok Tryz.prog 43) : ∃ g : GrD,d=g.dat∧g.ok:=by
 obtain ⟨ds,rfl,e0⟩:=qK aGr h
 obtain ⟨d0,ds,rfl,h0,e1⟩:=zx e0
 obtain ⟨d1,ds,rfl,h1,e2⟩:=zx e1
 obtain ⟨d2,ds,rfl,h2,e3⟩:=zx e2
 obtain ⟨d3,ds,rfl,h3,e4⟩:=zx e3
 obtain ⟨d4,ds,rfl,h4,e5⟩:=zx e4
 obtain ⟨d5,ds,rfl,h5,e6⟩:=zx e5
 obtain ⟨d6,ds,rfl,h6,e7⟩:=zx e6
 obtain rfl:=qL e7
 obtain ⟨s,rfl,_⟩:=Vc h0
 obtain ⟨lv,rfl,_⟩:=yD vA h1
 obtain ⟨lo,rfl,g2,_⟩:=Zl (f:=agY) (G:=fun _=>True) sOu h2 fun x _ hk=>alP hk
 obtain ⟨pn,rfl,_⟩:=yD vA h3
 obtain ⟨lt,rfl,g4,_⟩:=Zl (f:=TyD.dat) (G:=fun _=>True) sTy h4 fun x _ hk=>air hk
 obtain ⟨ln,rfl,g5,_⟩:=Zl (f:=Dat.str) (G:=fun _=>True) sSs h5 fun x _ hk=>Vc hk
 obtain ⟨lp,rfl,g6,hp⟩:=Zl (f:=PtD.dat) (G:=PtD.ok) sPt h6 fun x _ hk=>alO hk
 exact ⟨⟨s,lv,lo,pn,lt,ln,lp⟩,rfl,g2,g4,g5,g6,hp⟩
theorem alR {d : Dat} (h : d.ok Tryz.prog 25) : ∃ u : UnD,d=u.dat∧u.ok:=by
 obtain ⟨ds,rfl,e0⟩:=qK aUn h
 obtain ⟨d0,ds,rfl,h0,e1⟩:=zx e0
 obtain ⟨d1,ds,rfl,h1,e2⟩:=zx e1
 obtain ⟨d2,ds,rfl,h2,e3⟩:=zx e2
 obtain rfl:=qL e3
 obtain ⟨ss,rfl,g0,_⟩:=Zl (f:=StD.dat) (G:=fun _=>True) sSt h0 fun x _ hk=>alL hk
 obtain ⟨fs,rfl,g1,hg⟩:=Zl (f:=GrD.dat) (G:=GrD.ok) sGr h1 fun x _ hk=>alQ hk
 obtain ⟨mn,rfl,_⟩:=yD vA h2
 exact ⟨⟨ss,fs,mn⟩,rfl,g0,g1,hg⟩
section
variable {H : Type} {enc : TypeId × Value→H} {W : World} {base : Nat} {v : Value} {d : DataW H} {p : List MemPlace}
theorem akB (hv : Value.okWide Tryz.prog W .any base 25 v) (h : DataW.Trod enc Tryz.prog W 0 (fun _=>true) true 25 v d p) : ∃ u : UnD,UnG (all W) v u:=by
 obtain ⟨fs,hu,_⟩:=aUn
 obtain ⟨cs,rfl,hsz⟩:=okWide_struct hu hv
 obtain ⟨fuel,hf⟩:=h
 obtain ⟨d,hr,hd⟩:=XC akz fuel 25 _ _ (by simp) hf
 obtain ⟨u,rfl,hk⟩:=alR hd
 exact ⟨u,by simpa [Value.cells] using ahV hr hk⟩
theorem afL (hv : Value.okWide Tryz.prog W .any base 3 v) (h : DataW.Trod enc Tryz.prog W 0 (fun _=>true) true 3 v d p) : ∃ n : Int,v = .int .i64 n∧-9223372036854775808≤n∧n≤9223372036854775807:=by
 obtain ⟨n,rfl,_,_,hw⟩:=open_int vA hv h
 exact ⟨n,rfl,ahS hw⟩
end
noncomputable def Vd (os : Os) : World:=World.holding Tryz.prog os ⟨#[],#[],[]⟩
end Go.Proofs.YtekpddhibldojaaGreat.openG
end
section
namespace Go.Proofs.YtekpddhibldojaaGreat.liveRows
open Go.Sh Go.ChangeShapes Go.WideShapes Go.ChangeAt Go.RowKit openG
set_option maxRecDepth 100000
set_option linter.unusedVariables false
theorem ajG (H : Type) (enc : TypeId × Value→H) (W : World) (base : Nat) (args : Array Value) (ds gs : List (DataW H)) (before : List MemPlace)
  (hval : ∀ (j : Nat) t v,Tryz.f3.params[j]? = some t→args[j]? = some v→Value.okWide Tryz.prog W .any base t v)
  (hW : DataW.Whole enc Tryz.prog Tryz.f3.params.toList Rows.liveRowsSpec.vars false W args.toList ds gs before) :
  Calls Tryz.prog 3 args W fun e W'=>∃ v,e = .returned v∧Rows.liveRowsSpec.post enc Tryz.prog Tryz.f3 false true false false W args v W':=by
 have hW':=hW
 obtain ⟨p,q,hA,hV,rfl,hfz,hnd⟩:=hW
 rw [show Tryz.f3.params.toList = [25,3,3] by kernel_rfl] at hA
 obtain ⟨v0,vs0,d0,ds0,p0,q100,hargs,rfl,rfl,h0,r0⟩:=trodAll_cons hA
 obtain ⟨v1,vs1,d1,ds1,p1,q101,rfl,rfl,rfl,h1,r1⟩:=trodAll_cons r0
 obtain ⟨v2,vs2,d2,ds2,p2,q102,rfl,rfl,rfl,h2,r2⟩:=trodAll_cons r1
 obtain ⟨rfl,rfl,rfl⟩:=trodAll_nil r2
 obtain rfl : args=#[v0,v1,v2]:=by cases args;simp_all
 obtain ⟨rfl,rfl⟩:=trodVars_none hV
 obtain ⟨u0,hu0⟩:=akB (hval 0 25 v0 (by kernel_rfl) rfl) h0
 obtain ⟨n1,rfl,hi1⟩:=afL (hval 1 3 v1 (by kernel_rfl) rfl) h1
 obtain ⟨n2,rfl,hi2⟩:=afL (hval 2 3 v2 (by kernel_rfl) rfl) h2
 refine Calls.mono (aaQ (K:=fun v W'=>v = .bool true∧Ext W W') (ahH W) hu0 fun w' e=>⟨rfl,e⟩) ?_
 rintro e W' ⟨v,he,rfl,hE⟩
 exact ⟨_,he,ahP aky alI alW (by rw [show Tryz.f3.params.toList = [25,3,3] by kernel_rfl];decide) rfl (by kernel_rfl) ahv hW' rfl hE⟩
def wit : Array Value:=#[.agg #[.slice none 0 0,.slice none 0 0,.int .i64 0],.int .i64 0,.int .i64 0]
theorem alS (os : Os) {H : Type} (enc : TypeId × Value→H) : ∃ ds places,DataW.whole enc Tryz.prog ((Vd os).forCall (fun _ _=>0) ⟨#[],wit,[]⟩).memory Tryz.f3.params.toList Rows.liveRowsSpec.vars false wit.toList 8=some (ds,[],places):=
 ⟨[.agg [.nil,.nil,.lit (.int .i64 0)],.lit (.int .i64 0),.lit (.int .i64 0)],[],by kernel_rfl⟩
theorem ajH (os : Os) : laidMet Tryz.prog Rows.liveRowsRow.laid ((Vd os).forCall (fun _ _=>0) ⟨#[],wit,[]⟩).memory:=
 laidMet_of_run' 8 (by kernel_rfl) (by kernel_rfl)
theorem ald (os : Os) (started : os.Started) (H : Type) (enc : TypeId × Value→H) (F : Stop.Interp) :
  ReturnsInHanded {} Tryz.checked os 3 .any ((OpenSpec.ofChange Rows.liveRowsSpec).preRow enc Tryz.prog Tryz.f3 Rows.liveRowsRow.domain false Rows.liveRowsRow.laid) (((OpenSpec.ofChange Rows.liveRowsSpec).at F).post enc Tryz.prog Tryz.f3 false true false false):=by
 obtain ⟨ds,places,hx⟩:=alS os enc
 refine returnsInHanded_of_row (C:=Tryz.checked) (s:=OpenSpec.ofChange Rows.liveRowsSpec) own started (by kernel_rfl) Tryz.func3
  (witness_row_at (enc:=enc) (C:=Tryz.checked) false (Vd os) wit rfl (by kernel_rfl) (by kernel_rfl) (by kernel_rfl)
   (OpenSpec.preRow_of_cond 8 hx (by kernel_rfl) (fun k hk=>by cases hk) (by kernel_rfl) (ajH os))) ?_
 intro W base args ds gs before hval hW _ _ _ hL _ _
 exact ajG H enc W base args ds gs before hval hW
theorem said : Rows.LiveRowsSaid:=
 OpenClaim.holds_of_cond 3 Tryz.f3 rfl rfl rfl rfl rfl rfl rfl ⟨rfl,rfl,rfl,rfl,rfl⟩ rfl rfl rfl rfl rfl (by kernel_rfl) Tryz.func3 (by kernel_rfl)
  (of_decide_eq_true (by kernel_rfl)) (by unfold Func.isWrapper;first|(rw [if_pos (by decide +kernel)];kernel_rfl)|(rw [if_neg (by decide +kernel)];exact ⟨rfl,rfl⟩))
  (fun os started H enc _ F=>by rw [OpenClaim.pre_eq_preRow];exact ald os started H enc F)
end Go.Proofs.YtekpddhibldojaaGreat.liveRows
end
