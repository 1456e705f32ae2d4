/-
  Openings: what arguments that are types, programs, lists of numbers tell.
  Openings: what an argument that is a list of constraints tells.
  Openings: what an argument that is a list of rows tells.
  What rows with the library's table of bits open.
  loanwordlaw15.OutliveClosure: whatever the input, the law returns true and the input reads as it did.
-/
import Derived.Test.YthmakcmiggpoeaaGreatDoorQHc
import Derived.Test.YthmakcmiggpoeaaGreatDoorRows
import Derived.WalkKit
import Derived.Test.YthmakcmiggpoeaaGreatDoorQHe
import Derived.Test.YthmakcmiggpoeaaGreatDoorCards
import Derived.Test.YthmakcmiggpoeaaGreatDoorTie
import Derived.Test.YthmakcmiggpoeaaGreatDoorQHf
set_option maxRecDepth 100000
set_option maxHeartbeats 8000000
set_option linter.unusedVariables false
set_option linter.unusedSimpArgs false
section
namespace Go.Proofs.YthmakcmiggpoeaaGreatDoor.openG
open Go.Sh Go.ChangeShapes Go.WideShapes Go.ChangeAt Go.RowKit
theorem own:ownKnob Tryz.prog.godebug=none:=by kernel_rfl
theorem afZ:laidOutB Tryz.prog=true:=by kernel_rfl
theorem ag9:mapsRowed Tryz.prog=true:=by kernel_rfl
theorem ahm:((List.range Tryz.prog.types.size).all λt=>match Tryz.prog.underlying t with|some (.slice e)=>decide (0<Tryz.prog.cellsOf e)|_=>true)=true:=by kernel_rfl
theorem adc:Tryz.prog.underlying 3=some (.int .i64):=by kernel_rfl
theorem aha:Tryz.prog.underlying 4=some .bool:=by kernel_rfl
theorem ade{α:Type}{f:α→Dat}{G:α→Prop}{d:Dat}{T e:TypeId}{n:Nat}(u:Tryz.prog.underlying T=some (.slice e)∧Tryz.prog.cellsOf e=n)(h:d.ok Tryz.prog T)(hf:∀x:Dat,SizeOf.sizeOf x<SizeOf.sizeOf d→x.ok Tryz.prog e→∃t,x=f t∧G t):
  ∃l:List α,d=.sl n (l.map f)∧l.length≤maxLen∧∀t∈l,G t:=by
 obtain⟨es,rfl,hl,hk⟩:=agm u.1 h
 obtain⟨l,rfl,hg⟩:=abb (f:=f) (G:=G) es λx hx=>hf x (by
  have:=List.sizeOf_lt_of_mem hx
  simp only[Dat.sl.sizeOf_spec];omega) (hk x hx)
 exact⟨l,by rw[u.2],by simpa using hl,hg⟩
section
variable {H:Type} {enc:TypeId×Value→H} {W:World} {base:Nat} {v:Value} {d:DataW H} {p:List MemPlace}
theorem ae4(hv:Value.okWide Tryz.prog W .any base 3 v)(h:DataW.Trod enc Tryz.prog W 0 (λ_=>true) true 3 v d p):∃n:Int,v=.int .i64 n∧-9223372036854775808≤n∧n≤9223372036854775807:=by
 obtain⟨n,rfl,_,_,hw⟩:=open_int adc hv h
 exact⟨n,rfl,agn hw⟩
end
theorem sCn:Tryz.prog.underlying 28=some (.slice 36)∧Tryz.prog.cellsOf 36=2:=⟨by kernel_rfl,by kernel_rfl⟩
theorem aCn:∃fs,Tryz.prog.underlying 36=some (.struct fs)∧fs.toList.map (·.type)=[3,3]:=VR (by kernel_rfl)
theorem af0:aba Tryz.prog [28,36,3]=true:=by kernel_rfl
theorem ahb{d:Dat}(h:d.ok Tryz.prog 36):∃x:CnD,d=acQ x∧True:=by
 obtain⟨ds,rfl,e0⟩:=acm aCn h
 obtain⟨d0,ds,rfl,h0,e1⟩:=Yv e0
 obtain⟨d1,ds,rfl,h1,e2⟩:=Yv e1
 obtain rfl:=acn e2
 obtain⟨a,rfl,_⟩:=XY adc h0
 obtain⟨b,rfl,_⟩:=XY adc h1
 exact⟨(a,b),rfl,trivial⟩
section
variable {H:Type} {enc:TypeId×Value→H} {W:World} {base:Nat} {v:Value} {d:DataW H} {p:List MemPlace}
theorem ad8(hv:Value.okWide Tryz.prog W .any base 28 v)(h:DataW.Trod enc Tryz.prog W 0 (λ_=>true) true 28 v d p):∃l:List CnD,SlG 2 (all W) CnC v l:=by
 obtain⟨a0,len,cap,rfl⟩:=Go.WideShapes.okWide_slice sCn.1 hv
 obtain⟨fuel,hf⟩:=h
 obtain⟨d,hr,hd⟩:=jt af0 fuel 28 _ _ (by simp) hf
 obtain⟨l,rfl,hl,_⟩:=ade (f:=acQ) (G:=λ_=>True) sCn hd λx _ hk=>ahb hk
 obtain⟨v,hv,hs⟩:=Yw (D:=acQ) (R:=CnC) (λc x hx h=>acR h) hr hl
 have hv:[Value.slice a0 len cap]=[v]:=hv
 injection hv with hv
 exact⟨l,by rw[hv];exact hs.sl⟩
end
end Go.Proofs.YthmakcmiggpoeaaGreatDoor.openG
end
section
namespace Go.Proofs
open Go.Sh Go.BM
def wdD(x:BitVec 64):Dat:=.int .u64 (x.toNat:Nat)
def rwD(x:yB):Dat:=.agg [.int .i64 x.1,.sl 1 (x.2.map wdD)]
theorem ad9{r:Gh}{c:List Value}{x:yB}(h:Rep r (rwD x) c)(k:x.2.length≤maxLen):RwbC r c x:=by
 obtain⟨a1,b1,rfl,e1,a2,b2,rfl,e2,e3⟩:=h
 obtain rfl:a1=_:=e1
 obtain rfl:b2=[]:=e3
 obtain⟨v,rfl,hv⟩:=Yw (D:=wdD) (R:=WdC) (λc x hx h=>h) e2 k
 obtain⟨p,cap,rfl,_,_⟩:=hv.sl.shape
 exact⟨p,cap,rfl,hv⟩
end Go.Proofs
namespace Go.Proofs.YthmakcmiggpoeaaGreatDoor.openG
open Go.Sh Go.ChangeShapes Go.WideShapes Go.ChangeAt Go.RowKit
set_option maxRecDepth 100000
theorem uWd:Tryz.prog.underlying 205=some (.int .u64):=by kernel_rfl
theorem sWd:Tryz.prog.underlying 46=some (.slice 205)∧Tryz.prog.cellsOf 205=1:=⟨by kernel_rfl,by kernel_rfl⟩
theorem sRw:Tryz.prog.underlying 44=some (.slice 48)∧Tryz.prog.cellsOf 48=2:=⟨by kernel_rfl,by kernel_rfl⟩
theorem aRw:∃fs,Tryz.prog.underlying 48=some (.struct fs)∧fs.toList.map (·.type)=[3,46]:=VR (by kernel_rfl)
theorem af1:aba Tryz.prog [44,48,3,46,205]=true:=by kernel_rfl
theorem ahc{d:Dat}(h:d.ok Tryz.prog 205):∃x:BitVec 64,d=wdD x∧True:=by
 obtain⟨n,hn,hw⟩:=XY uWd h
 obtain⟨x,hx⟩:=ago hw
 exact⟨x,by rw[hn,hx];rfl,trivial⟩
theorem ahd{d:Dat}(h:d.ok Tryz.prog 48):∃x:yB,d=rwD x∧x.2.length≤maxLen:=by
 obtain⟨ds,rfl,e0⟩:=acm aRw h
 obtain⟨d0,ds,rfl,h0,e1⟩:=Yv e0
 obtain⟨d1,ds,rfl,h1,e2⟩:=Yv e1
 obtain rfl:=acn e2
 obtain⟨n,rfl,_⟩:=XY adc h0
 obtain⟨l,rfl,hl,_⟩:=ade (f:=wdD) (G:=λ_=>True) sWd h1 λx _ hk=>ahc hk
 exact⟨(n,l),rfl,hl⟩
section
variable {H:Type} {enc:TypeId×Value→H} {W:World} {base:Nat} {v:Value} {d:DataW H} {p:List MemPlace}
theorem aea(hv:Value.okWide Tryz.prog W .any base 44 v)(h:DataW.Trod enc Tryz.prog W 0 (λ_=>true) true 44 v d p):∃R:List yB,SlG 2 (all W) (RwbC (all W)) v R:=by
 obtain⟨a0,len,cap,rfl⟩:=Go.WideShapes.okWide_slice sRw.1 hv
 obtain⟨fuel,hf⟩:=h
 obtain⟨d,hr,hd⟩:=jt af1 fuel 44 _ _ (by simp) hf
 obtain⟨R,rfl,hl,hg⟩:=ade (f:=rwD) (G:=λx=>x.2.length≤maxLen) sRw hd λx _ hk=>ahd hk
 obtain⟨v,hv,hs⟩:=Yw (D:=rwD) (R:=RwbC (all W)) (λc x hx h=>ad9 h (hg x hx)) hr hl
 have hv:[Value.slice a0 len cap]=[v]:=hv
 injection hv with hv
 exact⟨R,by rw[hv];exact hs.sl⟩
end
end Go.Proofs.YthmakcmiggpoeaaGreatDoor.openG
end
section
namespace Go.Proofs.YthmakcmiggpoeaaGreatDoor.openG
open Go.Sh Go.ChangeShapes Go.WideShapes Go.ChangeAt Go.RowKit
theorem agM : Tryz.prog.globalNamed "math/bits.deBruijn64tab" = some 0 := by kernel_rfl
theorem ae5:(Tryz.prog.globals[0]?).map (·.type)=some 275:=by kernel_rfl
theorem ahn:Tryz.prog.underlying 275=some (.array 64 5):=by kernel_rfl
theorem ahe:Tryz.prog.underlying 5=some (.int .u8):=by kernel_rfl
theorem ae6:Tryz.prog.cellsOf 275=64:=by kernel_rfl
theorem aeb:Tryz.prog.cellsOf 5=1:=by kernel_rfl
theorem agN {W : World} (h : laidMetH Tryz.prog [("math/bits.deBruijn64tab", Rows.laid_math_bits_deBruijn64tab)] W) : TabG (all W) := by
 have ht : Lib.TabIs Tryz.prog W "math/bits.deBruijn64tab" .u8 (Lib.deBruijn64tab.map fun n : Nat => (n : Int)) :=
  Lib.tabIs_of_head (rest:=[]) agM ae5 ahn ahe aeb ae6 h
 have hT:Tab W:=λj hj=>by
  have hc:=ht.cell agM j (by rw[List.length_map];exact hj)
  rw[hc]
  congr 2
  have hj':j<Lib.deBruijn64tab.length:=hj
  simp[List.getD_eq_getElem?_getD,hj']
 exact⟨λw' k j hj=>aaW (hT j hj) w' k,_,Array.getElem?_eq_getElem (J5 (hT 0 (by decide)))⟩
noncomputable def YM(os:Os):World:=
 { World.holding Tryz.prog os ⟨#[],#[],[]⟩with heap:=(World.holding Tryz.prog os ⟨#[],#[],[]⟩).heap.modify 0 fun
   |.cells _ t frozen=>.cells ((Lib.deBruijn64tab.map λn:Nat=>Value.int .u8 (n:Int)).toArray) t frozen
   |o=>o }
end Go.Proofs.YthmakcmiggpoeaaGreatDoor.openG
end
section
namespace Go.Proofs.YthmakcmiggpoeaaGreatDoor.outliveClosure
open Go.Sh Go.ChangeShapes Go.WideShapes Go.ChangeAt Go.RowKit openG
theorem ae7(H:Type)(enc:TypeId×Value→H)(W:World)(base:Nat)(args:Array Value)(ds gs:List (DataW H))(before:List MemPlace)
  (hval:∀(j:Nat) t v,Tryz.f6.params[j]? = some t→args[j]? = some v→Value.okWide Tryz.prog W .any base t v)
  (hW:DataW.Whole enc Tryz.prog Tryz.f6.params.toList Rows.outliveClosureSpec.vars false W args.toList ds gs before) (hL:laidMetH Tryz.prog Rows.outliveClosureRow.laid W):
  Calls Tryz.prog 6 args W λe W'=>∃v,e=.returned v∧Rows.outliveClosureSpec.post enc Tryz.prog Tryz.f6 false true false false W args v W':=by
 have hW':=hW
 obtain⟨p,q,hA,hV,rfl,hfz,hnd⟩:=hW
 rw[show Tryz.f6.params.toList=[28,44,3]by kernel_rfl]at hA
 obtain⟨v0,vs0,d0,ds0,p0,q100,hargs,rfl,rfl,h0,r0⟩:=trodAll_cons hA
 obtain⟨v1,vs1,d1,ds1,p1,q101,rfl,rfl,rfl,h1,r1⟩:=trodAll_cons r0
 obtain⟨v2,vs2,d2,ds2,p2,q102,rfl,rfl,rfl,h2,r2⟩:=trodAll_cons r1
 obtain⟨rfl,rfl,rfl⟩:=trodAll_nil r2
 obtain rfl:args=#[v0,v1,v2]:=by cases args;simp_all
 obtain⟨rfl,rfl⟩:=trodVars_none hV
 obtain⟨C0,hC0⟩:=ad8 (hval 0 28 v0 (by kernel_rfl) rfl) h0
 obtain⟨R1,hR1⟩:=aea (hval 1 44 v1 (by kernel_rfl) rfl) h1
 obtain⟨n2,rfl,hi2⟩:=ae4 (hval 2 3 v2 (by kernel_rfl) rfl) h2
 refine Calls.mono (ZU (K:=λv W'=>v=.bool true∧Ext W W') (adn W) hC0 hR1 (agN hL) λw' e=>⟨rfl,e⟩) ?_
 rintro e W' ⟨v,he,rfl,hE⟩
 exact⟨_,he,adx afZ ag9 ahm (by rw[show Tryz.f6.params.toList=[28,44,3]by kernel_rfl];decide) rfl (by kernel_rfl) aha hW' rfl hE⟩
def wit:Array Value:=#[.slice none 0 0,.slice none 0 0,.int .i64 0]
theorem ahf(os:Os){H:Type}(enc:TypeId×Value→H):∃ds places,DataW.whole enc Tryz.prog ((YM os).forCall (λ_ _=>0) ⟨#[],wit,[]⟩).memory Tryz.f6.params.toList Rows.outliveClosureSpec.vars false wit.toList 8=some (ds,[],places):=
 ⟨[.nil,.nil,.lit (.int .i64 0)],[],by kernel_rfl⟩
theorem ae8(os:Os):laidMet Tryz.prog Rows.outliveClosureRow.laid ((YM os).forCall (λ_ _=>0) ⟨#[],wit,[]⟩).memory:=
 laidMet_of_run' 8 (by kernel_rfl) (by kernel_rfl)
theorem agO(os:Os)(started:os.Started)(H:Type)(enc:TypeId×Value→H)(F:Stop.Interp):
  ReturnsInHanded {} Tryz.checked os 6 .any ((OpenSpec.ofChange Rows.outliveClosureSpec).preRow enc Tryz.prog Tryz.f6 Rows.outliveClosureRow.domain false Rows.outliveClosureRow.laid) (((OpenSpec.ofChange Rows.outliveClosureSpec).at F).post enc Tryz.prog Tryz.f6 false true false false):=by
 obtain⟨ds,places,hx⟩:=ahf os enc
 refine returnsInHanded_of_row (C:=Tryz.checked) (s:=OpenSpec.ofChange Rows.outliveClosureSpec) own started (by kernel_rfl) Tryz.func6
  (witness_row_at (enc:=enc) (C:=Tryz.checked) false (YM os) wit rfl (by kernel_rfl) (by kernel_rfl) (by kernel_rfl)
   (OpenSpec.preRow_of_cond 8 hx (by kernel_rfl) (λk hk=>by cases hk) (by kernel_rfl) (ae8 os))) ?_
 intro W base args ds gs before hval hW _ _ _ hL _ _
 exact ae7 H enc W base args ds gs before hval hW hL
theorem said:Rows.OutliveClosureSaid:=
 OpenClaim.holds_of_cond 6 Tryz.f6 rfl rfl rfl rfl rfl rfl rfl ⟨rfl,rfl,rfl,rfl,rfl⟩ rfl rfl rfl rfl rfl (by kernel_rfl) Tryz.func6 (by kernel_rfl)
  (of_decide_eq_true (by kernel_rfl)) (by unfold Func.isWrapper;first|(rw[if_pos (by decide +kernel)];kernel_rfl)|(rw[if_neg (by decide +kernel)];exact⟨rfl,rfl⟩))
  (λos started H enc _ F=>by rw[OpenClaim.pre_eq_preRow];exact agO os started H enc F)
theorem plain (f : FuncId) (fn : Func) (hf : Tryz.pinned.checked.prog.funcNamed "loanword/loanwordlaw15.OutliveClosure" = some f) (hfn : Tryz.pinned.checked.prog.funcs[f]? = some fn) :
  false=Tryz.pinned.checked.prog.looks []∧∀(j:Nat) t,fn.params[j]? = some t→Tryz.pinned.checked.prog.wantsStandIn t=false:=by
 obtain rfl : f = 6 := Option.some.inj ((show Tryz.prog.funcNamed "loanword/loanwordlaw15.OutliveClosure" = some 6 by kernel_rfl).symm.trans hf) |>.symm
 obtain rfl:fn=Tryz.f6:=(Option.some.inj (Tryz.func6.symm.trans hfn)).symm
 refine⟨by kernel_rfl,λj t ht=>?_⟩
 have hall:(Tryz.f6.params.all λt=>!(Tryz.prog.wantsStandIn t))=true:=by kernel_rfl
 have:=Array.all_eq_true_iff_forall_mem.1 hall t (Array.mem_of_getElem? ht)
 show Tryz.prog.wantsStandIn t=false
 simpa using this
theorem card:Rows.OutliveClosureCardSaid:=
 Claim7.holds_tied_plain_at .later [] _ _ _ _ said (λ_ h=>by cases h) (by kernel_rfl) (λ_ h=>by cases h) outliveClosure_row_tie rfl ⟨rfl,rfl⟩ (by kernel_rfl) rfl plain (by kernel_rfl)
end Go.Proofs.YthmakcmiggpoeaaGreatDoor.outliveClosure
end
