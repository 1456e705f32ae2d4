/-
  Openings: what arguments that are types, programs, lists of numbers tell.
  Openings: what an argument that is a list of constraints tells.
  Openings: what an argument that is a list of rows tells.
  What rows with the library's table of bits open.
  loanwordlaw15.OutliveRows: whatever the input, the law returns true and the input reads as it did.
-/
import Derived.Test.YthmakcmiggpoeaaGreatDoorQGc
import Derived.Test.YthmakcmiggpoeaaGreatDoorRows
import Derived.WalkKit
import Derived.Test.YthmakcmiggpoeaaGreatDoorQGe
import Derived.Test.YthmakcmiggpoeaaGreatDoorCards
import Derived.Test.YthmakcmiggpoeaaGreatDoorTie
import Derived.Test.YthmakcmiggpoeaaGreatDoorQGf
set_option maxRecDepth 100000
set_option maxHeartbeats 8000000
set_option linter.unusedVariables false
set_option linter.unusedSimpArgs false
section
namespace Go.Proofs.YthmakcmiggpoeaaGreatDoor.openG
open Go.Sh Go.ChangeShapes Go.WideShapes Go.ChangeAt Go.RowKit
theorem own:ownKnob Tryz.prog.godebug=none:=by kernel_rfl
theorem ag4:laidOutB Tryz.prog=true:=by kernel_rfl
theorem aii:mapsRowed Tryz.prog=true:=by kernel_rfl
theorem aiv:((List.range Tryz.prog.types.size).all λt=>match Tryz.prog.underlying t with|some (.slice e)=>decide (0<Tryz.prog.cellsOf e)|_=>true)=true:=by kernel_rfl
theorem aaw:Tryz.prog.underlying 3=some (.int .i64):=by kernel_rfl
theorem agl:Tryz.prog.underlying 4=some .bool:=by kernel_rfl
theorem uTk:Tryz.prog.underlying 40=some (.int .u8):=by kernel_rfl
theorem sTy:Tryz.prog.underlying 41=some (.slice 43)∧Tryz.prog.cellsOf 43=5:=⟨by kernel_rfl,by kernel_rfl⟩
theorem aTy:∃fs,Tryz.prog.underlying 43=some (.struct fs)∧fs.toList.map (·.type)=[40,4,3,3,41]:=XT (by kernel_rfl)
theorem ag5:J5 Tryz.prog [43,40,4,3,41]=true:=by kernel_rfl
theorem abz{α:Type}{f:α→Dat}{G:α→Prop}{d:Dat}{T e:TypeId}{n:Nat}(u:Tryz.prog.underlying T=some (.slice e)∧Tryz.prog.cellsOf e=n)(h:d.ok Tryz.prog T)(hf:∀x:Dat,SizeOf.sizeOf x<SizeOf.sizeOf d→x.ok Tryz.prog e→∃t,x=f t∧G t):
  ∃l:List α,d=.sl n (l.map f)∧l.length≤maxLen∧∀t∈l,G t:=by
 obtain⟨es,rfl,hl,hk⟩:=ahp u.1 h
 obtain⟨l,rfl,hg⟩:=ab8 (f:=f) (G:=G) es λx hx=>hf x (by
  have:=List.sizeOf_lt_of_mem hx
  simp only[Dat.sl.sizeOf_spec];omega) (hk x hx)
 exact⟨l,by rw[u.2],by simpa using hl,hg⟩
theorem aij:∀(n:Nat)(d:Dat),SizeOf.sizeOf d≤n→d.ok Tryz.prog 43→∃t:TyD,d=t.dat:=by
 intro n
 induction n with
 |zero=>intro d h _;cases d<;>simp at h
 |succ n ih=>
  intro d hs h
  obtain⟨ds,rfl,e0⟩:=V2 aTy h
  obtain⟨d0,ds,rfl,h0,e1⟩:=xM e0
  obtain⟨d1,ds,rfl,h1,e2⟩:=xM e1
  obtain⟨d2,ds,rfl,h2,e3⟩:=xM e2
  obtain⟨d3,ds,rfl,h3,e4⟩:=xM e3
  obtain⟨d4,ds,rfl,h4,e5⟩:=xM e4
  obtain rfl:=V3 e5
  obtain⟨k,rfl,_⟩:=jz uTk h0
  obtain⟨m,rfl⟩:=afo agl h1
  obtain⟨re,rfl,_⟩:=jz aaw h2
  obtain⟨st,rfl,_⟩:=jz aaw h3
  obtain⟨l,rfl,_,_⟩:=abz (f:=TyD.dat) (G:=λ_=>True) sTy h4 λx hx hk=>by
   obtain⟨t,ht⟩:=ih x (by
    simp only[Dat.agg.sizeOf_spec,List.cons.sizeOf_spec]at hs
    omega) hk
   exact⟨t,ht,trivial⟩
  exact⟨.mk k m re st l,by rw[TyD.dat,TyD.dats_map]⟩
section
variable {H:Type} {enc:TypeId×Value→H} {W:World} {base:Nat} {v:Value} {d:DataW H} {p:List MemPlace}
theorem adG(hv:Value.okWide Tryz.prog W .any base 43 v)(h:DataW.Trod enc Tryz.prog W 0 (λ_=>true) true 43 v d p):∃t:TyD,TyG (all W) v t:=by
 obtain⟨fs,hu,_⟩:=aTy
 obtain⟨cs,rfl,hsz⟩:=okWide_struct hu hv
 obtain⟨fuel,hf⟩:=h
 obtain⟨d,hr,hd⟩:=qd ag5 fuel 43 _ _ (by simp) hf
 obtain⟨t,rfl⟩:=aij _ d (Nat.le_refl _) hd
 exact⟨t,by simpa [Value.cells]using TyG.of_rep hr⟩
theorem acV(hv:Value.okWide Tryz.prog W .any base 3 v)(h:DataW.Trod enc Tryz.prog W 0 (λ_=>true) true 3 v d p):∃n:Int,v=.int .i64 n∧-9223372036854775808≤n∧n≤9223372036854775807:=by
 obtain⟨n,rfl,_,_,hw⟩:=open_int aaw hv h
 exact⟨n,rfl,ahq hw⟩
end
theorem sCn:Tryz.prog.underlying 28=some (.slice 36)∧Tryz.prog.cellsOf 36=2:=⟨by kernel_rfl,by kernel_rfl⟩
theorem aCn:∃fs,Tryz.prog.underlying 36=some (.struct fs)∧fs.toList.map (·.type)=[3,3]:=XT (by kernel_rfl)
theorem ag6:J5 Tryz.prog [28,36,3]=true:=by kernel_rfl
theorem aik{d:Dat}(h:d.ok Tryz.prog 36):∃x:CnD,d=adV x∧True:=by
 obtain⟨ds,rfl,e0⟩:=V2 aCn h
 obtain⟨d0,ds,rfl,h0,e1⟩:=xM e0
 obtain⟨d1,ds,rfl,h1,e2⟩:=xM e1
 obtain rfl:=V3 e2
 obtain⟨a,rfl,_⟩:=jz aaw h0
 obtain⟨b,rfl,_⟩:=jz aaw h1
 exact⟨(a,b),rfl,trivial⟩
section
variable {H:Type} {enc:TypeId×Value→H} {W:World} {base:Nat} {v:Value} {d:DataW H} {p:List MemPlace}
theorem ae5(hv:Value.okWide Tryz.prog W .any base 28 v)(h:DataW.Trod enc Tryz.prog W 0 (λ_=>true) true 28 v d p):∃l:List CnD,SlG 2 (all W) CnC v l:=by
 obtain⟨a0,len,cap,rfl⟩:=Go.WideShapes.okWide_slice sCn.1 hv
 obtain⟨fuel,hf⟩:=h
 obtain⟨d,hr,hd⟩:=qd ag6 fuel 28 _ _ (by simp) hf
 obtain⟨l,rfl,hl,_⟩:=abz (f:=adV) (G:=λ_=>True) sCn hd λx _ hk=>aik hk
 obtain⟨v,hv,hs⟩:=YY (D:=adV) (R:=CnC) (λc x hx h=>adW h) hr hl
 have hv:[Value.slice a0 len cap]=[v]:=hv
 injection hv with hv
 exact⟨l,by rw[hv];exact hs.sl⟩
end
end Go.Proofs.YthmakcmiggpoeaaGreatDoor.openG
end
section
namespace Go.Proofs
open Go.Sh Go.BM
def wdD(x:BitVec 64):Dat:=.int .u64 (x.toNat:Nat)
def rwD(x:yr):Dat:=.agg [.int .i64 x.1,.sl 1 (x.2.map wdD)]
theorem ae6{r:Gh}{c:List Value}{x:yr}(h:Rep r (rwD x) c)(k:x.2.length≤maxLen):RwbC r c x:=by
 obtain⟨a1,b1,rfl,e1,a2,b2,rfl,e2,e3⟩:=h
 obtain rfl:a1=_:=e1
 obtain rfl:b2=[]:=e3
 obtain⟨v,rfl,hv⟩:=YY (D:=wdD) (R:=WdC) (λc x hx h=>h) e2 k
 obtain⟨p,cap,rfl,_,_⟩:=hv.sl.shape
 exact⟨p,cap,rfl,hv⟩
end Go.Proofs
namespace Go.Proofs.YthmakcmiggpoeaaGreatDoor.openG
open Go.Sh Go.ChangeShapes Go.WideShapes Go.ChangeAt Go.RowKit
set_option maxRecDepth 100000
theorem uWd:Tryz.prog.underlying 205=some (.int .u64):=by kernel_rfl
theorem sWd:Tryz.prog.underlying 46=some (.slice 205)∧Tryz.prog.cellsOf 205=1:=⟨by kernel_rfl,by kernel_rfl⟩
theorem sRw:Tryz.prog.underlying 44=some (.slice 48)∧Tryz.prog.cellsOf 48=2:=⟨by kernel_rfl,by kernel_rfl⟩
theorem aRw:∃fs,Tryz.prog.underlying 48=some (.struct fs)∧fs.toList.map (·.type)=[3,46]:=XT (by kernel_rfl)
theorem ag7:J5 Tryz.prog [44,48,3,46,205]=true:=by kernel_rfl
theorem ail{d:Dat}(h:d.ok Tryz.prog 205):∃x:BitVec 64,d=wdD x∧True:=by
 obtain⟨n,hn,hw⟩:=jz uWd h
 obtain⟨x,hx⟩:=ahr hw
 exact⟨x,by rw[hn,hx];rfl,trivial⟩
theorem aim{d:Dat}(h:d.ok Tryz.prog 48):∃x:yr,d=rwD x∧x.2.length≤maxLen:=by
 obtain⟨ds,rfl,e0⟩:=V2 aRw h
 obtain⟨d0,ds,rfl,h0,e1⟩:=xM e0
 obtain⟨d1,ds,rfl,h1,e2⟩:=xM e1
 obtain rfl:=V3 e2
 obtain⟨n,rfl,_⟩:=jz aaw h0
 obtain⟨l,rfl,hl,_⟩:=abz (f:=wdD) (G:=λ_=>True) sWd h1 λx _ hk=>ail hk
 exact⟨(n,l),rfl,hl⟩
section
variable {H:Type} {enc:TypeId×Value→H} {W:World} {base:Nat} {v:Value} {d:DataW H} {p:List MemPlace}
theorem ae7(hv:Value.okWide Tryz.prog W .any base 44 v)(h:DataW.Trod enc Tryz.prog W 0 (λ_=>true) true 44 v d p):∃R:List yr,SlG 2 (all W) (RwbC (all W)) v R:=by
 obtain⟨a0,len,cap,rfl⟩:=Go.WideShapes.okWide_slice sRw.1 hv
 obtain⟨fuel,hf⟩:=h
 obtain⟨d,hr,hd⟩:=qd ag7 fuel 44 _ _ (by simp) hf
 obtain⟨R,rfl,hl,hg⟩:=abz (f:=rwD) (G:=λx=>x.2.length≤maxLen) sRw hd λx _ hk=>aim hk
 obtain⟨v,hv,hs⟩:=YY (D:=rwD) (R:=RwbC (all W)) (λc x hx h=>ae6 h (hg x hx)) hr hl
 have hv:[Value.slice a0 len cap]=[v]:=hv
 injection hv with hv
 exact⟨R,by rw[hv];exact hs.sl⟩
end
end Go.Proofs.YthmakcmiggpoeaaGreatDoor.openG
end
section
namespace Go.Proofs.YthmakcmiggpoeaaGreatDoor.openG
open Go.Sh Go.ChangeShapes Go.WideShapes Go.ChangeAt Go.RowKit
theorem ahT : Tryz.prog.globalNamed "math/bits.deBruijn64tab" = some 0 := by kernel_rfl
theorem af3:(Tryz.prog.globals[0]?).map (·.type)=some 275:=by kernel_rfl
theorem aiw:Tryz.prog.underlying 275=some (.array 64 5):=by kernel_rfl
theorem ain:Tryz.prog.underlying 5=some (.int .u8):=by kernel_rfl
theorem af4:Tryz.prog.cellsOf 275=64:=by kernel_rfl
theorem ae8:Tryz.prog.cellsOf 5=1:=by kernel_rfl
theorem ahU {W : World} (h : laidMetH Tryz.prog [("math/bits.deBruijn64tab", Rows.laid_math_bits_deBruijn64tab)] W) : TabG (all W) := by
 have ht : Lib.TabIs Tryz.prog W "math/bits.deBruijn64tab" .u8 (Lib.deBruijn64tab.map fun n : Nat => (n : Int)) :=
  Lib.tabIs_of_head (rest:=[]) ahT af3 aiw ain ae8 af4 h
 have hT:Tab W:=λj hj=>by
  have hc:=ht.cell ahT j (by rw[List.length_map];exact hj)
  rw[hc]
  congr 2
  have hj':j<Lib.deBruijn64tab.length:=hj
  simp[List.getD_eq_getElem?_getD,hj']
 exact⟨λw' k j hj=>abT (hT j hj) w' k,_,Array.getElem?_eq_getElem (VK (hT 0 (by decide)))⟩
noncomputable def Xc(os:Os):World:=
 { World.holding Tryz.prog os ⟨#[],#[],[]⟩with heap:=(World.holding Tryz.prog os ⟨#[],#[],[]⟩).heap.modify 0 fun
   |.cells _ t frozen=>.cells ((Lib.deBruijn64tab.map λn:Nat=>Value.int .u8 (n:Int)).toArray) t frozen
   |o=>o }
end Go.Proofs.YthmakcmiggpoeaaGreatDoor.openG
end
section
namespace Go.Proofs.YthmakcmiggpoeaaGreatDoor.outliveRows
open Go.Sh Go.ChangeShapes Go.WideShapes Go.ChangeAt Go.RowKit openG
theorem af5(H:Type)(enc:TypeId×Value→H)(W:World)(base:Nat)(args:Array Value)(ds gs:List (DataW H))(before:List MemPlace)
  (hval:∀(j:Nat) t v,Tryz.f4.params[j]? = some t→args[j]? = some v→Value.okWide Tryz.prog W .any base t v)
  (hW:DataW.Whole enc Tryz.prog Tryz.f4.params.toList Rows.outliveRowsSpec.vars false W args.toList ds gs before) (hL:laidMetH Tryz.prog Rows.outliveRowsRow.laid W):
  Calls Tryz.prog 4 args W λe W'=>∃v,e=.returned v∧Rows.outliveRowsSpec.post enc Tryz.prog Tryz.f4 false true false false W args v W':=by
 have hW':=hW
 obtain⟨p,q,hA,hV,rfl,hfz,hnd⟩:=hW
 rw[show Tryz.f4.params.toList=[43,43,28,44,3,3]by kernel_rfl]at hA
 obtain⟨v0,vs0,d0,ds0,p0,q100,hargs,rfl,rfl,h0,r0⟩:=trodAll_cons hA
 obtain⟨v1,vs1,d1,ds1,p1,q101,rfl,rfl,rfl,h1,r1⟩:=trodAll_cons r0
 obtain⟨v2,vs2,d2,ds2,p2,q102,rfl,rfl,rfl,h2,r2⟩:=trodAll_cons r1
 obtain⟨v3,vs3,d3,ds3,p3,q103,rfl,rfl,rfl,h3,r3⟩:=trodAll_cons r2
 obtain⟨v4,vs4,d4,ds4,p4,q104,rfl,rfl,rfl,h4,r4⟩:=trodAll_cons r3
 obtain⟨v5,vs5,d5,ds5,p5,q105,rfl,rfl,rfl,h5,r5⟩:=trodAll_cons r4
 obtain⟨rfl,rfl,rfl⟩:=trodAll_nil r5
 obtain rfl:args=#[v0,v1,v2,v3,v4,v5]:=by cases args;simp_all
 obtain⟨rfl,rfl⟩:=trodVars_none hV
 obtain⟨t0,ht0⟩:=adG (hval 0 43 v0 (by kernel_rfl) rfl) h0
 obtain⟨t1,ht1⟩:=adG (hval 1 43 v1 (by kernel_rfl) rfl) h1
 obtain⟨C2,hC2⟩:=ae5 (hval 2 28 v2 (by kernel_rfl) rfl) h2
 obtain⟨R3,hR3⟩:=ae7 (hval 3 44 v3 (by kernel_rfl) rfl) h3
 obtain⟨n4,rfl,hi4⟩:=acV (hval 4 3 v4 (by kernel_rfl) rfl) h4
 obtain⟨n5,rfl,hi5⟩:=acV (hval 5 3 v5 (by kernel_rfl) rfl) h5
 refine Calls.mono (XB (K:=λv W'=>v=.bool true∧Ext W W') (aen W) ht0 ht1 hC2 hR3 (ahU hL) λw' e=>⟨rfl,e⟩) ?_
 rintro e W' ⟨v,he,rfl,hE⟩
 exact⟨_,he,aew ag4 aii aiv (by rw[show Tryz.f4.params.toList=[43,43,28,44,3,3]by kernel_rfl];decide) rfl (by kernel_rfl) agl hW' rfl hE⟩
def wit:Array Value:=#[.agg #[.int .u8 0,.bool false,.int .i64 0,.int .i64 0,.slice none 0 0],.agg #[.int .u8 0,.bool false,.int .i64 0,.int .i64 0,.slice none 0 0],.slice none 0 0,.slice none 0 0,.int .i64 0,.int .i64 0]
theorem aio(os:Os){H:Type}(enc:TypeId×Value→H):∃ds places,DataW.whole enc Tryz.prog ((Xc os).forCall (λ_ _=>0) ⟨#[],wit,[]⟩).memory Tryz.f4.params.toList Rows.outliveRowsSpec.vars false wit.toList 8=some (ds,[],places):=
 ⟨[.agg [.lit (.int .u8 0),.lit (.bool false),.lit (.int .i64 0),.lit (.int .i64 0),.nil],.agg [.lit (.int .u8 0),.lit (.bool false),.lit (.int .i64 0),.lit (.int .i64 0),.nil],.nil,.nil,.lit (.int .i64 0),.lit (.int .i64 0)],[],by kernel_rfl⟩
theorem af6(os:Os):laidMet Tryz.prog Rows.outliveRowsRow.laid ((Xc os).forCall (λ_ _=>0) ⟨#[],wit,[]⟩).memory:=
 laidMet_of_run' 8 (by kernel_rfl) (by kernel_rfl)
theorem ahV(os:Os)(started:os.Started)(H:Type)(enc:TypeId×Value→H)(F:Stop.Interp):
  ReturnsInHanded {} Tryz.checked os 4 .any ((OpenSpec.ofChange Rows.outliveRowsSpec).preRow enc Tryz.prog Tryz.f4 Rows.outliveRowsRow.domain false Rows.outliveRowsRow.laid) (((OpenSpec.ofChange Rows.outliveRowsSpec).at F).post enc Tryz.prog Tryz.f4 false true false false):=by
 obtain⟨ds,places,hx⟩:=aio os enc
 refine returnsInHanded_of_row (C:=Tryz.checked) (s:=OpenSpec.ofChange Rows.outliveRowsSpec) own started (by kernel_rfl) Tryz.func4
  (witness_row_at (enc:=enc) (C:=Tryz.checked) false (Xc os) wit rfl (by kernel_rfl) (by kernel_rfl) (by kernel_rfl)
   (OpenSpec.preRow_of_cond 8 hx (by kernel_rfl) (λk hk=>by cases hk) (by kernel_rfl) (af6 os))) ?_
 intro W base args ds gs before hval hW _ _ _ hL _ _
 exact af5 H enc W base args ds gs before hval hW hL
theorem ahW:joinedFacts Tryz.pinned.checked.prog 4 Tryz.f4 (OpenSpec.ofChange Rows.outliveRowsSpec).bare Rows.outliveRowsRow=true:=by
 unfold joinedFacts
 simp only[Bool.and_eq_true]
 refine⟨⟨⟨⟨⟨⟨⟨⟨⟨⟨⟨⟨⟨⟨⟨⟨⟨⟨⟨⟨⟨⟨⟨⟨⟨⟨⟨⟨⟨⟨⟨?_,?_⟩,?_⟩,?_⟩,?_⟩,?_⟩,?_⟩,?_⟩,?_⟩,?_⟩,?_⟩,?_⟩,?_⟩,?_⟩,?_⟩,?_⟩,?_⟩,?_⟩,?_⟩,?_⟩,?_⟩,?_⟩,?_⟩,?_⟩,?_⟩,?_⟩,?_⟩,?_⟩,?_⟩,?_⟩,?_⟩,?_⟩<;>decide +kernel
theorem said:Rows.OutliveRowsSaid:=
 OpenClaim.holds_of_cond 4 Tryz.f4 rfl rfl rfl rfl rfl rfl rfl ⟨rfl,rfl,rfl,rfl,rfl⟩ rfl rfl rfl rfl rfl (by kernel_rfl) Tryz.func4 ahW
  (of_decide_eq_true (by kernel_rfl)) (by unfold Func.isWrapper;first|(rw[if_pos (by decide +kernel)];kernel_rfl)|(rw[if_neg (by decide +kernel)];exact⟨rfl,rfl⟩))
  (λos started H enc _ F=>by rw[OpenClaim.pre_eq_preRow];exact ahV os started H enc F)
theorem plain (f : FuncId) (fn : Func) (hf : Tryz.pinned.checked.prog.funcNamed "loanword/loanwordlaw15.OutliveRows" = some f) (hfn : Tryz.pinned.checked.prog.funcs[f]? = some fn) :
  false=Tryz.pinned.checked.prog.looks []∧∀(j:Nat) t,fn.params[j]? = some t→Tryz.pinned.checked.prog.wantsStandIn t=false:=by
 obtain rfl : f = 4 := Option.some.inj ((show Tryz.prog.funcNamed "loanword/loanwordlaw15.OutliveRows" = some 4 by kernel_rfl).symm.trans hf) |>.symm
 obtain rfl:fn=Tryz.f4:=(Option.some.inj (Tryz.func4.symm.trans hfn)).symm
 refine⟨by kernel_rfl,λj t ht=>?_⟩
 have hall:(Tryz.f4.params.all λt=>!(Tryz.prog.wantsStandIn t))=true:=by kernel_rfl
 have:=Array.all_eq_true_iff_forall_mem.1 hall t (Array.mem_of_getElem? ht)
 show Tryz.prog.wantsStandIn t=false
 simpa using this
theorem card:Rows.OutliveRowsCardSaid:=
 Claim7.holds_tied_plain_at .later [] _ _ _ _ said (λ_ h=>by cases h) (by kernel_rfl) (λ_ h=>by cases h) outliveRows_row_tie rfl ⟨rfl,rfl⟩ (by kernel_rfl) rfl plain (by kernel_rfl)
end Go.Proofs.YthmakcmiggpoeaaGreatDoor.outliveRows
end
