/-
  Openings: what arguments that are types, programs, lists of numbers tell.
  What rows with the library's table of bits open.
  loanwordlaw15.OutliveFlows: whatever the input, the law returns true and the input reads as it did.
-/
import Derived.Test.YthmakcmiggpoeaaGreatDoorQIc
import Derived.Test.YthmakcmiggpoeaaGreatDoorRows
import Derived.WalkKit
import Derived.Test.YthmakcmiggpoeaaGreatDoorQIe
import Derived.Test.YthmakcmiggpoeaaGreatDoorCards
import Derived.Test.YthmakcmiggpoeaaGreatDoorTie
import Derived.Test.YthmakcmiggpoeaaGreatDoorQIf
set_option maxRecDepth 100000
set_option maxHeartbeats 8000000
set_option linter.unusedVariables false
set_option linter.unusedSimpArgs false
section
namespace Go.Proofs.YthmakcmiggpoeaaGreatDoor.openG
open Go.Sh Go.ChangeShapes Go.WideShapes Go.ChangeAt Go.RowKit
theorem own:ownKnob Tryz.prog.godebug=none:=by kernel_rfl
theorem afP:laidOutB Tryz.prog=true:=by kernel_rfl
theorem agZ:mapsRowed Tryz.prog=true:=by kernel_rfl
theorem aha:((List.range Tryz.prog.types.size).all λt=>match Tryz.prog.underlying t with|some (.slice e)=>decide (0<Tryz.prog.cellsOf e)|_=>true)=true:=by kernel_rfl
theorem agA:Tryz.prog.underlying 3=some (.int .i64):=by kernel_rfl
theorem afc:Tryz.prog.underlying 4=some .bool:=by kernel_rfl
theorem uTk:Tryz.prog.underlying 40=some (.int .u8):=by kernel_rfl
theorem sTy:Tryz.prog.underlying 41=some (.slice 43)∧Tryz.prog.cellsOf 43=5:=⟨by kernel_rfl,by kernel_rfl⟩
theorem aTy:∃fs,Tryz.prog.underlying 43=some (.struct fs)∧fs.toList.map (·.type)=[40,4,3,3,41]:=adt (by kernel_rfl)
theorem afQ:ads Tryz.prog [43,40,4,3,41]=true:=by kernel_rfl
theorem ag0{α:Type}{f:α→Dat}{G:α→Prop}{d:Dat}{T e:TypeId}{n:Nat}(u:Tryz.prog.underlying T=some (.slice e)∧Tryz.prog.cellsOf e=n)(h:d.ok Tryz.prog T)(hf:∀x:Dat,SizeOf.sizeOf x<SizeOf.sizeOf d→x.ok Tryz.prog e→∃t,x=f t∧G t):
  ∃l:List α,d=.sl n (l.map f)∧l.length≤maxLen∧∀t∈l,G t:=by
 obtain⟨es,rfl,hl,hk⟩:=aga u.1 h
 obtain⟨l,rfl,hg⟩:=abb (f:=f) (G:=G) es λx hx=>hf x (by
  have:=List.sizeOf_lt_of_mem hx
  simp only[Dat.sl.sizeOf_spec];omega) (hk x hx)
 exact⟨l,by rw[u.2],by simpa using hl,hg⟩
theorem ag1:∀(n:Nat)(d:Dat),SizeOf.sizeOf d≤n→d.ok Tryz.prog 43→∃t:TyD,d=t.dat:=by
 intro n
 induction n with
 |zero=>intro d h _;cases d<;>simp at h
 |succ n ih=>
  intro d hs h
  obtain⟨ds,rfl,e0⟩:=afu aTy h
  obtain⟨d0,ds,rfl,h0,e1⟩:=vV e0
  obtain⟨d1,ds,rfl,h1,e2⟩:=vV e1
  obtain⟨d2,ds,rfl,h2,e3⟩:=vV e2
  obtain⟨d3,ds,rfl,h3,e4⟩:=vV e3
  obtain⟨d4,ds,rfl,h4,e5⟩:=vV e4
  obtain rfl:=afv e5
  obtain⟨k,rfl,_⟩:=Vk uTk h0
  obtain⟨m,rfl⟩:=aei afc h1
  obtain⟨re,rfl,_⟩:=Vk agA h2
  obtain⟨st,rfl,_⟩:=Vk agA h3
  obtain⟨l,rfl,_,_⟩:=ag0 (f:=TyD.dat) (G:=λ_=>True) sTy h4 λx hx hk=>by
   obtain⟨t,ht⟩:=ih x (by
    simp only[Dat.agg.sizeOf_spec,List.cons.sizeOf_spec]at hs
    omega) hk
   exact⟨t,ht,trivial⟩
  exact⟨.mk k m re st l,by rw[TyD.dat,TyD.dats_map]⟩
section
variable {H:Type} {enc:TypeId×Value→H} {W:World} {base:Nat} {v:Value} {d:DataW H} {p:List MemPlace}
theorem acA(hv:Value.okWide Tryz.prog W .any base 43 v)(h:DataW.Trod enc Tryz.prog W 0 (λ_=>true) true 43 v d p):∃t:TyD,TyG (all W) v t:=by
 obtain⟨fs,hu,_⟩:=aTy
 obtain⟨cs,rfl,hsz⟩:=okWide_struct hu hv
 obtain⟨fuel,hf⟩:=h
 obtain⟨d,hr,hd⟩:=ZW afQ fuel 43 _ _ (by simp) hf
 obtain⟨t,rfl⟩:=ag1 _ d (Nat.le_refl _) hd
 exact⟨t,by simpa [Value.cells]using TyG.of_rep hr⟩
end
theorem agB : Tryz.prog.globalNamed "math/bits.deBruijn64tab" = some 0 := by kernel_rfl
theorem aeV:(Tryz.prog.globals[0]?).map (·.type)=some 275:=by kernel_rfl
theorem ahb:Tryz.prog.underlying 275=some (.array 64 5):=by kernel_rfl
theorem ag2:Tryz.prog.underlying 5=some (.int .u8):=by kernel_rfl
theorem aeW:Tryz.prog.cellsOf 275=64:=by kernel_rfl
theorem ad4:Tryz.prog.cellsOf 5=1:=by kernel_rfl
theorem agC {W : World} (h : laidMetH Tryz.prog [("math/bits.deBruijn64tab", Rows.laid_math_bits_deBruijn64tab)] W) : TabG (all W) := by
 have ht : Lib.TabIs Tryz.prog W "math/bits.deBruijn64tab" .u8 (Lib.deBruijn64tab.map fun n : Nat => (n : Int)) :=
  Lib.tabIs_of_head (rest:=[]) agB aeV ahb ag2 ad4 aeW h
 have hT:Tab W:=λj hj=>by
  have hc:=ht.cell agB j (by rw[List.length_map];exact hj)
  rw[hc]
  congr 2
  have hj':j<Lib.deBruijn64tab.length:=hj
  simp[List.getD_eq_getElem?_getD,hj']
 exact⟨λw' k j hj=>aaX (hT j hj) w' k,_,Array.getElem?_eq_getElem (J6 (hT 0 (by decide)))⟩
noncomputable def YR(os:Os):World:=
 { World.holding Tryz.prog os ⟨#[],#[],[]⟩with heap:=(World.holding Tryz.prog os ⟨#[],#[],[]⟩).heap.modify 0 fun
   |.cells _ t frozen=>.cells ((Lib.deBruijn64tab.map λn:Nat=>Value.int .u8 (n:Int)).toArray) t frozen
   |o=>o }
end Go.Proofs.YthmakcmiggpoeaaGreatDoor.openG
end
section
namespace Go.Proofs.YthmakcmiggpoeaaGreatDoor.outliveFlows
open Go.Sh Go.ChangeShapes Go.WideShapes Go.ChangeAt Go.RowKit openG
theorem aeX(H:Type)(enc:TypeId×Value→H)(W:World)(base:Nat)(args:Array Value)(ds gs:List (DataW H))(before:List MemPlace)
  (hval:∀(j:Nat) t v,Tryz.f5.params[j]? = some t→args[j]? = some v→Value.okWide Tryz.prog W .any base t v)
  (hW:DataW.Whole enc Tryz.prog Tryz.f5.params.toList Rows.outliveFlowsSpec.vars false W args.toList ds gs before) (hL:laidMetH Tryz.prog Rows.outliveFlowsRow.laid W):
  Calls Tryz.prog 5 args W λe W'=>∃v,e=.returned v∧Rows.outliveFlowsSpec.post enc Tryz.prog Tryz.f5 false true false false W args v W':=by
 have hW':=hW
 obtain⟨p,q,hA,hV,rfl,hfz,hnd⟩:=hW
 rw[show Tryz.f5.params.toList=[43,43]by kernel_rfl]at hA
 obtain⟨v0,vs0,d0,ds0,p0,q100,hargs,rfl,rfl,h0,r0⟩:=trodAll_cons hA
 obtain⟨v1,vs1,d1,ds1,p1,q101,rfl,rfl,rfl,h1,r1⟩:=trodAll_cons r0
 obtain⟨rfl,rfl,rfl⟩:=trodAll_nil r1
 obtain rfl:args=#[v0,v1]:=by cases args;simp_all
 obtain⟨rfl,rfl⟩:=trodVars_none hV
 obtain⟨t0,ht0⟩:=acA (hval 0 43 v0 (by kernel_rfl) rfl) h0
 obtain⟨t1,ht1⟩:=acA (hval 1 43 v1 (by kernel_rfl) rfl) h1
 refine Calls.mono (YQ (K:=λv W'=>v=.bool true∧Ext W W') (adg W) ht0 ht1 (agC hL) λw' e=>⟨rfl,e⟩) ?_
 rintro e W' ⟨v,he,rfl,hE⟩
 exact⟨_,he,adq afP agZ aha (by rw[show Tryz.f5.params.toList=[43,43]by kernel_rfl];decide) rfl (by kernel_rfl) afc hW' rfl hE⟩
def wit:Array Value:=#[.agg #[.int .u8 0,.bool false,.int .i64 0,.int .i64 0,.slice none 0 0],.agg #[.int .u8 0,.bool false,.int .i64 0,.int .i64 0,.slice none 0 0]]
theorem ag3(os:Os){H:Type}(enc:TypeId×Value→H):∃ds places,DataW.whole enc Tryz.prog ((YR os).forCall (λ_ _=>0) ⟨#[],wit,[]⟩).memory Tryz.f5.params.toList Rows.outliveFlowsSpec.vars false wit.toList 8=some (ds,[],places):=
 ⟨[.agg [.lit (.int .u8 0),.lit (.bool false),.lit (.int .i64 0),.lit (.int .i64 0),.nil],.agg [.lit (.int .u8 0),.lit (.bool false),.lit (.int .i64 0),.lit (.int .i64 0),.nil]],[],by kernel_rfl⟩
theorem aeY(os:Os):laidMet Tryz.prog Rows.outliveFlowsRow.laid ((YR os).forCall (λ_ _=>0) ⟨#[],wit,[]⟩).memory:=
 laidMet_of_run' 8 (by kernel_rfl) (by kernel_rfl)
theorem agD(os:Os)(started:os.Started)(H:Type)(enc:TypeId×Value→H)(F:Stop.Interp):
  ReturnsInHanded {} Tryz.checked os 5 .any ((OpenSpec.ofChange Rows.outliveFlowsSpec).preRow enc Tryz.prog Tryz.f5 Rows.outliveFlowsRow.domain false Rows.outliveFlowsRow.laid) (((OpenSpec.ofChange Rows.outliveFlowsSpec).at F).post enc Tryz.prog Tryz.f5 false true false false):=by
 obtain⟨ds,places,hx⟩:=ag3 os enc
 refine returnsInHanded_of_row (C:=Tryz.checked) (s:=OpenSpec.ofChange Rows.outliveFlowsSpec) own started (by kernel_rfl) Tryz.func5
  (witness_row_at (enc:=enc) (C:=Tryz.checked) false (YR os) wit rfl (by kernel_rfl) (by kernel_rfl) (by kernel_rfl)
   (OpenSpec.preRow_of_cond 8 hx (by kernel_rfl) (λk hk=>by cases hk) (by kernel_rfl) (aeY os))) ?_
 intro W base args ds gs before hval hW _ _ _ hL _ _
 exact aeX H enc W base args ds gs before hval hW hL
theorem said:Rows.OutliveFlowsSaid:=
 OpenClaim.holds_of_cond 5 Tryz.f5 rfl rfl rfl rfl rfl rfl rfl ⟨rfl,rfl,rfl,rfl,rfl⟩ rfl rfl rfl rfl rfl (by kernel_rfl) Tryz.func5 (by kernel_rfl)
  (of_decide_eq_true (by kernel_rfl)) (by unfold Func.isWrapper;first|(rw[if_pos (by decide +kernel)];kernel_rfl)|(rw[if_neg (by decide +kernel)];exact⟨rfl,rfl⟩))
  (λos started H enc _ F=>by rw[OpenClaim.pre_eq_preRow];exact agD os started H enc F)
theorem plain (f : FuncId) (fn : Func) (hf : Tryz.pinned.checked.prog.funcNamed "loanword/loanwordlaw15.OutliveFlows" = some f) (hfn : Tryz.pinned.checked.prog.funcs[f]? = some fn) :
  false=Tryz.pinned.checked.prog.looks []∧∀(j:Nat) t,fn.params[j]? = some t→Tryz.pinned.checked.prog.wantsStandIn t=false:=by
 obtain rfl : f = 5 := Option.some.inj ((show Tryz.prog.funcNamed "loanword/loanwordlaw15.OutliveFlows" = some 5 by kernel_rfl).symm.trans hf) |>.symm
 obtain rfl:fn=Tryz.f5:=(Option.some.inj (Tryz.func5.symm.trans hfn)).symm
 refine⟨by kernel_rfl,λj t ht=>?_⟩
 have hall:(Tryz.f5.params.all λt=>!(Tryz.prog.wantsStandIn t))=true:=by kernel_rfl
 have:=Array.all_eq_true_iff_forall_mem.1 hall t (Array.mem_of_getElem? ht)
 show Tryz.prog.wantsStandIn t=false
 simpa using this
theorem card:Rows.OutliveFlowsCardSaid:=
 Claim7.holds_tied_plain_at .later [] _ _ _ _ said (λ_ h=>by cases h) (by kernel_rfl) (λ_ h=>by cases h) outliveFlows_row_tie rfl ⟨rfl,rfl⟩ (by kernel_rfl) rfl plain (by kernel_rfl)
end Go.Proofs.YthmakcmiggpoeaaGreatDoor.outliveFlows
end
