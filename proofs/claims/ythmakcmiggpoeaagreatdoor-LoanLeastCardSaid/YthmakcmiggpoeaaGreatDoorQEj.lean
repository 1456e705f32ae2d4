/-
  Openings: what an argument that is a list of rows tells.
  loanwordlaw16.LoanLeast: whatever the input, the law returns true and the input reads as it did.
  The last texts of LoanDepths and LoanBreaks.
-/
import Derived.Test.YthmakcmiggpoeaaGreatDoorQEh
import Derived.Test.YthmakcmiggpoeaaGreatDoorQEe
import Derived.Test.YthmakcmiggpoeaaGreatDoorQEi
set_option maxRecDepth 100000
set_option maxHeartbeats 8000000
set_option linter.unusedVariables false
set_option linter.unusedSimpArgs false
section
namespace Go.Proofs
open Go.Sh Go.BM
def wdD(x:BitVec 64):Dat:=.int .u64 (x.toNat:Nat)
def rwD(x:zV):Dat:=.agg [.int .i64 x.1,.sl 1 (x.2.map wdD)]
theorem aha{r:Gh}{c:List Value}{x:zV}(h:Rep r (rwD x) c)(k:x.2.length≤maxLen):RwbC r c x:=by
 obtain⟨a1,b1,rfl,e1,a2,b2,rfl,e2,e3⟩:=h
 obtain rfl:a1=_:=e1
 obtain rfl:b2=[]:=e3
 obtain⟨v,rfl,hv⟩:=xd (D:=wdD) (R:=WdC) (λc x hx h=>h) e2 k
 obtain⟨p,cap,rfl,_,_⟩:=hv.sl.shape
 exact⟨p,cap,rfl,hv⟩
end Go.Proofs
namespace Go.Proofs.YthmakcmiggpoeaaGreatDoor.openG
open Go.Sh Go.ChangeShapes Go.WideShapes Go.ChangeAt Go.RowKit
set_option maxRecDepth 100000
theorem uWd:Tryz.prog.underlying 205=some (.int .u64):=by kernel_rfl
theorem sWd:Tryz.prog.underlying 46=some (.slice 205)∧Tryz.prog.cellsOf 205=1:=⟨by kernel_rfl,by kernel_rfl⟩
theorem sRw:Tryz.prog.underlying 44=some (.slice 48)∧Tryz.prog.cellsOf 48=2:=⟨by kernel_rfl,by kernel_rfl⟩
theorem aRw:∃fs,Tryz.prog.underlying 48=some (.struct fs)∧fs.toList.map (·.type)=[3,46]:=xh (by kernel_rfl)
theorem ajk:ads Tryz.prog [44,48,3,46,205]=true:=by kernel_rfl
theorem akI{d:Dat}(h:d.ok Tryz.prog 205):∃x:BitVec 64,d=wdD x∧True:=by
 obtain⟨n,hn,hw⟩:=yf uWd h
 obtain⟨x,hx⟩:=ajG hw
 exact⟨x,by rw[hn,hx];rfl,trivial⟩
theorem akJ{d:Dat}(h:d.ok Tryz.prog 48):∃x:zV,d=rwD x∧x.2.length≤maxLen:=by
 obtain⟨ds,rfl,e0⟩:=kK aRw h
 obtain⟨d0,ds,rfl,h0,e1⟩:=zq e0
 obtain⟨d1,ds,rfl,h1,e2⟩:=zq e1
 obtain rfl:=kM e2
 obtain⟨n,rfl,_⟩:=yf jt h0
 obtain⟨l,rfl,hl,_⟩:=jl (f:=wdD) (G:=λ_=>True) sWd h1 λx _ hk=>akI hk
 exact⟨(n,l),rfl,hl⟩
section
variable {H:Type} {enc:TypeId×Value→H} {W:World} {base:Nat} {v:Value} {d:DataW H} {p:List MemPlace}
theorem aci(hv:Value.okWide Tryz.prog W .any base 44 v)(h:DataW.Trod enc Tryz.prog W 0 (λ_=>true) true 44 v d p):∃R:List zV,SlG 2 (all W) (RwbC (all W)) v R:=by
 obtain⟨a0,len,cap,rfl⟩:=Go.WideShapes.okWide_slice sRw.1 hv
 obtain⟨fuel,hf⟩:=h
 obtain⟨d,hr,hd⟩:=vB ajk fuel 44 _ _ (by simp) hf
 obtain⟨R,rfl,hl,hg⟩:=jl (f:=rwD) (G:=λx=>x.2.length≤maxLen) sRw hd λx _ hk=>akJ hk
 obtain⟨v,hv,hs⟩:=xd (D:=rwD) (R:=RwbC (all W)) (λc x hx h=>aha h (hg x hx)) hr hl
 have hv:[Value.slice a0 len cap]=[v]:=hv
 injection hv with hv
 exact⟨R,by rw[hv];exact hs.sl⟩
end
end Go.Proofs.YthmakcmiggpoeaaGreatDoor.openG
end
section
namespace Go.Proofs.YthmakcmiggpoeaaGreatDoor.loanLeast
open Go.Sh Go.ChangeShapes Go.WideShapes Go.ChangeAt Go.RowKit openG
theorem aic(H:Type)(enc:TypeId×Value→H)(W:World)(base:Nat)(args:Array Value)(ds gs:List (DataW H))(before:List MemPlace)
  (hval:∀(j:Nat) t v,Tryz.f10.params[j]? = some t→args[j]? = some v→Value.okWide Tryz.prog W .any base t v)
  (hW:DataW.Whole enc Tryz.prog Tryz.f10.params.toList Rows.loanLeastSpec.vars false W args.toList ds gs before) (hL:laidMetH Tryz.prog Rows.loanLeastRow.laid W):
  Calls Tryz.prog 10 args W λe W'=>∃v,e=.returned v∧Rows.loanLeastSpec.post enc Tryz.prog Tryz.f10 false true false false W args v W':=by
 have hW':=hW
 obtain⟨p,q,hA,hV,rfl,hfz,hnd⟩:=hW
 rw[show Tryz.f10.params.toList=[25,3,44,44]by kernel_rfl]at hA
 obtain⟨v0,vs0,d0,ds0,p0,q100,hargs,rfl,rfl,h0,r0⟩:=trodAll_cons hA
 obtain⟨v1,vs1,d1,ds1,p1,q101,rfl,rfl,rfl,h1,r1⟩:=trodAll_cons r0
 obtain⟨v2,vs2,d2,ds2,p2,q102,rfl,rfl,rfl,h2,r2⟩:=trodAll_cons r1
 obtain⟨v3,vs3,d3,ds3,p3,q103,rfl,rfl,rfl,h3,r3⟩:=trodAll_cons r2
 obtain⟨rfl,rfl,rfl⟩:=trodAll_nil r3
 obtain rfl:args=#[v0,v1,v2,v3]:=by cases args;simp_all
 obtain⟨rfl,rfl⟩:=trodVars_none hV
 obtain⟨u0,hu0⟩:=ajj (hval 0 25 v0 (by kernel_rfl) rfl) h0
 obtain⟨n1,rfl,hi1⟩:=ah9 (hval 1 3 v1 (by kernel_rfl) rfl) h1
 obtain⟨R2,hR2⟩:=aci (hval 2 44 v2 (by kernel_rfl) rfl) h2
 obtain⟨R3,hR3⟩:=aci (hval 3 44 v3 (by kernel_rfl) rfl) h3
 refine Calls.mono (JS (K:=λv W'=>v=.bool true∧Ext W W') (af8 W) hu0 hR2 hR3 (aj9 hL) λw' e=>⟨rfl,e⟩) ?_
 rintro e W' ⟨v,he,rfl,hE⟩
 exact⟨_,he,agk ajg akz akS (by rw[show Tryz.f10.params.toList=[25,3,44,44]by kernel_rfl];decide) rfl (by kernel_rfl) afX hW' rfl hE⟩
def wit:Array Value:=#[.agg #[.slice none 0 0,.slice none 0 0,.int .i64 0],.int .i64 0,.slice none 0 0,.slice none 0 0]
theorem akK(os:Os){H:Type}(enc:TypeId×Value→H):∃ds places,DataW.whole enc Tryz.prog ((X8 os).forCall (λ_ _=>0) ⟨#[],wit,[]⟩).memory Tryz.f10.params.toList Rows.loanLeastSpec.vars false wit.toList 8=some (ds,[],places):=
 ⟨[.agg [.nil,.nil,.lit (.int .i64 0)],.lit (.int .i64 0),.nil,.nil],[],by kernel_rfl⟩
theorem aid(os:Os):laidMet Tryz.prog Rows.loanLeastRow.laid ((X8 os).forCall (λ_ _=>0) ⟨#[],wit,[]⟩).memory:=
 laidMet_of_run' 8 (by kernel_rfl) (by kernel_rfl)
theorem aka(os:Os)(started:os.Started)(H:Type)(enc:TypeId×Value→H)(F:Stop.Interp):
  ReturnsInHanded {} Tryz.checked os 10 .any ((OpenSpec.ofChange Rows.loanLeastSpec).preRow enc Tryz.prog Tryz.f10 Rows.loanLeastRow.domain false Rows.loanLeastRow.laid) (((OpenSpec.ofChange Rows.loanLeastSpec).at F).post enc Tryz.prog Tryz.f10 false true false false):=by
 obtain⟨ds,places,hx⟩:=akK os enc
 refine returnsInHanded_of_row (C:=Tryz.checked) (s:=OpenSpec.ofChange Rows.loanLeastSpec) own started (by kernel_rfl) Tryz.func10
  (witness_row_at (enc:=enc) (C:=Tryz.checked) false (X8 os) wit rfl (by kernel_rfl) (by kernel_rfl) (by kernel_rfl)
   (OpenSpec.preRow_of_cond 8 hx (by kernel_rfl) (λk hk=>by cases hk) (by kernel_rfl) (aid os))) ?_
 intro W base args ds gs before hval hW _ _ _ hL _ _
 exact aic H enc W base args ds gs before hval hW hL
theorem akb:joinedFacts Tryz.pinned.checked.prog 10 Tryz.f10 (OpenSpec.ofChange Rows.loanLeastSpec).bare Rows.loanLeastRow=true:=by
 unfold joinedFacts
 simp only[Bool.and_eq_true]
 refine⟨⟨⟨⟨⟨⟨⟨⟨⟨⟨⟨⟨⟨⟨⟨⟨⟨⟨⟨⟨⟨⟨⟨⟨⟨⟨⟨⟨⟨⟨⟨?_,?_⟩,?_⟩,?_⟩,?_⟩,?_⟩,?_⟩,?_⟩,?_⟩,?_⟩,?_⟩,?_⟩,?_⟩,?_⟩,?_⟩,?_⟩,?_⟩,?_⟩,?_⟩,?_⟩,?_⟩,?_⟩,?_⟩,?_⟩,?_⟩,?_⟩,?_⟩,?_⟩,?_⟩,?_⟩,?_⟩,?_⟩<;>decide +kernel
theorem said:Rows.LoanLeastSaid:=
 OpenClaim.holds_of_cond 10 Tryz.f10 rfl rfl rfl rfl rfl rfl rfl ⟨rfl,rfl,rfl,rfl,rfl⟩ rfl rfl rfl rfl rfl (by kernel_rfl) Tryz.func10 akb
  (of_decide_eq_true (by kernel_rfl)) (by unfold Func.isWrapper;first|(rw[if_pos (by decide +kernel)];kernel_rfl)|(rw[if_neg (by decide +kernel)];exact⟨rfl,rfl⟩))
  (λos started H enc _ F=>by rw[OpenClaim.pre_eq_preRow];exact aka os started H enc F)
theorem plain (f : FuncId) (fn : Func) (hf : Tryz.pinned.checked.prog.funcNamed "loanword/loanwordlaw16.LoanLeast" = some f) (hfn : Tryz.pinned.checked.prog.funcs[f]? = some fn) :
  false=Tryz.pinned.checked.prog.looks []∧∀(j:Nat) t,fn.params[j]? = some t→Tryz.pinned.checked.prog.wantsStandIn t=false:=by
 obtain rfl : f = 10 := Option.some.inj ((show Tryz.prog.funcNamed "loanword/loanwordlaw16.LoanLeast" = some 10 by kernel_rfl).symm.trans hf) |>.symm
 obtain rfl:fn=Tryz.f10:=(Option.some.inj (Tryz.func10.symm.trans hfn)).symm
 refine⟨by kernel_rfl,λj t ht=>?_⟩
 have hall:(Tryz.f10.params.all λt=>!(Tryz.prog.wantsStandIn t))=true:=by kernel_rfl
 have:=Array.all_eq_true_iff_forall_mem.1 hall t (Array.mem_of_getElem? ht)
 show Tryz.prog.wantsStandIn t=false
 simpa using this
theorem card:Rows.LoanLeastCardSaid:=
 Claim7.holds_tied_plain_at .later [] _ _ _ _ said (λ_ h=>by cases h) (by kernel_rfl) (λ_ h=>by cases h) loanLeast_row_tie rfl ⟨rfl,rfl⟩ (by kernel_rfl) rfl plain (by kernel_rfl)
end Go.Proofs.YthmakcmiggpoeaaGreatDoor.loanLeast
end
section
end
