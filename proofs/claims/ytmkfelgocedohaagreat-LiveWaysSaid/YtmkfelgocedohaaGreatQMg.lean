/-
  A map of numbers of one's own: made, filled, asked.
  Contract of flow: Way.
  Contract of loanwordlaw12: awake.
  loanwordlaw12.FlowPoints: whatever the program, the function, the points: the law returns true.
  Contract of loanwordref12: Way.
  loanwordlaw12.FlowWays: whatever the program, the function, the points, the list: the law returns true.
  loanwordlaw12.FlowAbove: whatever the program, the function, the point: the law returns true.
  Arrays of two numbers, compared.
  loanwordlaw12.FlowWhole: whatever the program, the function: the law returns true.
  loanwordlaw12.FlowReach: whatever the program, the function, the point: the law returns true.
  loanwordlaw12.FlowOrder: whatever the program, the function: the law returns true.
  Contracts of live: ends, Ends, Uses.
  Contract of live: Uses.
  Families of one's own: as many cells, or rows, as a list tells.
  Contract of live: rows: one more is marked.
  Contract of live: rows.
  Contracts of live: At.
  Contracts: bits.New; live: Of.
  A condition of the kind 'is and (first, or shorter, or as long and ahead)'.
  Contracts: slices.Compare of numbers; live: Why.
  Contract of live: Why.
  Contract of live: Closed.
  Contract of live: Closed.
-/
import Derived.Test.YtmkfelgocedohaaGreatQMd
import Derived.Test.YtmkfelgocedohaaGreatQMf
import Derived.Test.YtmkfelgocedohaaGreatQMe
import Derived.Test.YtmkfelgocedohaaGreatQMc
import Derived.Test.YtmkfelgocedohaaGreatQMb
import Derived.ChangeKeysEq
section
namespace Go.Sh
open Go.RowKit Go.MapKept
set_option linter.unusedVariables false
def mpI (P : Program) (t : TypeId) : Option (TypeId × TypeId):=match P.underlying t with
 |some (.map k e)=>(match P.underlying k with|some (.int .i64)=>some (k,e)|_=>none)
 |_=>none
theorem afB {P : Program} {t k e : TypeId} (h : mpI P t=some (k,e)) : P.underlying t=some (.map k e)∧P.underlying k=some (.int .i64):=by
 unfold mpI at h
 split at h
 ·rename_i k' e' h1
  split at h
  ·rename_i h2
   cases h;exact ⟨h1,h2⟩
  ·cases h
 ·cases h
def alA (m : MapEntry) (x : Int × Value) : Prop:=m.key = .int .i64 x.1∧m.val=x.2
inductive EntsI : List MapEntry→List (Int × Value)→Prop
 |nil : EntsI [] []
 |cons {m : MapEntry} {x : Int × Value} {l : List MapEntry} {M : List (Int × Value)} : alA m x→EntsI l M→EntsI (m::l) (x::M)
theorem EntsI.snoc {l : List MapEntry} {M : List (Int × Value)} {m : MapEntry} {x : Int × Value} (h : EntsI l M) (hm : alA m x) : EntsI (l ++ [m]) (M ++ [x]):=by
 induction h with
 |nil=>exact .cons hm .nil
 |cons h _ ih=>exact .cons h ih
def je (M : List (Int × Value)) (o : Obj) : Prop:=∃ es c,o = .map es c∧EntsI es.toList M
theorem ady {x : Int} {kd : IntKind} {l : List MapEntry} {M : List (Int × Value)} (h : EntsI l M) : ∀ {i : Nat},∃ o,Instr.findNow (.int kd) (.int .i64 x) l i=some o∧o.map (·.2)=M.lookup x:=by
 induction h with
 |nil=>intro i;exact ⟨none,rfl,rfl⟩
 |@cons m y l M hm h ih=>
  intro i
  obtain ⟨hk,hv⟩:=hm
  obtain ⟨y1,y2⟩:=y
  by_cases hx : x=y1
  ·subst hx
   refine ⟨some (i,m.val),?_,?_⟩
   ·rw [Instr.findNow,hk];simp [Instr.sameNow]
   ·rw [List.lookup_cons,show (x == x)=true by simp,hv];rfl
  ·obtain ⟨o,h1,h2⟩:=ih (i:=i+1)
   have hb : (x == y1)=false:=by simpa using hx
   refine ⟨o,?_,?_⟩
   ·rw [Instr.findNow,hk];simp [Instr.sameNow,hb,h1]
   ·rw [List.lookup_cons,hb,h2]
class afC (b : Nat) (L : List Asr) (Q : outParam (Obj→Prop)) (f : outParam (Asr→List Asr)) : Prop where
 h : ∃ p q,L=p ++ .obj b Q::q∧∀ y,f y=p++y::q
instance {b : Nat} {Q : Obj→Prop} {L : List Asr} : afC b (.obj b Q::L) Q fun y=>y::L:=⟨[],L,rfl,fun _=>rfl⟩
instance (priority:=low) {b : Nat} {Q : Obj→Prop} {x : Asr} {L : List Asr} {f : Asr→List Asr} [h : afC b L Q f] : afC b (x::L) Q fun y=>x::f y:=⟨by
 obtain ⟨p,q,h1,h2⟩:=h.h
 exact ⟨x::p,q,by rw [h1];rfl,fun c'=>by rw [h2];rfl⟩⟩
section
variable {P : Program} {X : Nat→Prop} {w0 w : World} {r : Gh} {L : List Asr} {t k e : TypeId} {b : Nat} {M : List (Int × Value)} {f : Asr→List Asr}
theorem StX.mkMapI (S : StX X w0 r w L) {K : Value→World→Prop} (h : ∀ b w',StX X w0 r w' (.obj b (je [])::L)→K (.map (some b)) w') : opW P w (Instr.makeMap t none) K:=
 S.mkMap fun b w' S'=>h b w' ⟨S'.x,S'.holds,fun x hx=>by
  rcases List.mem_cons.1 hx with rfl|hx
  ·obtain ⟨o,h1,h2,rfl⟩:=S'.has _ List.mem_cons_self
   exact ⟨_,h1,h2,_,_,rfl,.nil⟩
  ·exact S'.has x (List.mem_cons_of_mem _ hx),fun x hx=>by
  rcases List.mem_cons.1 hx with rfl|hx
  ·exact S'.mine (.obj b (· = .map #[] 0)) List.mem_cons_self
  ·exact S'.mine x (List.mem_cons_of_mem _ hx),by
  have:=S'.apart
  rw [List.pairwise_cons] at this ⊢
  exact this⟩
theorem StX.mapAddI (S : StX X w0 r w L) {x : Int} {v : Value} [h0 : afC b L (je M) f] (ht : mpI P t=some (k,e)) (hn : M.lookup x=none) {K : World→Prop}
  (h : ∀ w',StX X w0 r w' (f (.obj b (je (M ++ [(x,v)]))))→K w') : opU P w (Instr.mapUpdate t (.map (some b)) (.int .i64 x) v) K:=by
 obtain ⟨ht,hk⟩:=afB ht
 obtain ⟨p,q,e1,e2⟩:=h0.h
 obtain ⟨o,hb,_,es,c,rfl,hE⟩:=S.has (.obj b (je M)) (by rw [e1];simp)
 obtain ⟨o,h1,h2⟩:=ady (x:=x) (kd:=.i64) hE (i:=0)
 have h3 : o=none:=by
  rw [hn] at h2
  cases o with
  |none=>rfl
  |some y=>cases h2
 subst h3
 have hf:=run_findKey (w:=w) hk h1
 refine ⟨{ w with heap:=w.heap.setIfInBounds b (.map (es.push { key:=.int .i64 x,val:=v,born:=c }) (c+1)) },?_,h _ ?_⟩
 ·simp [Instr.mapUpdate,run_underlying ht,MapKept.run_getObj_map hb,run_checkKey (w:=w) hk (k:=.int .i64 x) rfl false 9999,hf,MapKept.run_setObj_map _ hb,Result.andThen]
 ·obtain ⟨a1,a2⟩:=heap_set hb (o':=.map (es.push { key:=.int .i64 x,val:=v,born:=c }) (c+1))
  rw [e2]
  rw [e1] at S
  exact S.turn (x:=.obj b (je M)) (y:=.obj b (je (M ++ [(x,v)]))) ⟨rfl,rfl,rfl,by simp,fun k _ hk=>a2 k hk⟩ ⟨_,a1,rfl,_,_,rfl,by rw [Array.toList_push];exact hE.snoc ⟨rfl,rfl⟩⟩ fun k hk=>.inl hk
theorem StX.mapGetI (S : StX X w0 r w L) {x : Int} {z : Value} [h0 : afC b L (je M) f] (ht : mpI P t=some (k,e)) (hz : zr1 P e=some z) {K : Value→Prop} (h : K ((M.lookup x).getD z)) :
  opQ P w (Instr.lookup t (.map (some b)) (.int .i64 x) false) K:=by
 obtain ⟨ht,hk⟩:=afB ht
 obtain ⟨p,q,e1,e2⟩:=h0.h
 obtain ⟨o,hb,_,es,c,rfl,hE⟩:=S.has (.obj b (je M)) (by rw [e1];simp)
 obtain ⟨o,h1,h2⟩:=ady (x:=x) (kd:=.i64) hE (i:=0)
 refine ⟨_,fun w' ex=>?_,h⟩
 have hb' : w'.heap[b]? = some (.map es c):=(ex.block b (Array.getElem?_eq_some_iff.1 hb).1).trans hb
 have hf:=run_findKey (w:=w') hk h1
 rw [← h2]
 cases o with
 |none=>simp [Instr.lookup,run_underlying ht,MapKept.run_getObj_map hb',run_checkKey (w:=w') hk (k:=.int .i64 x) rfl _ 9999,hf,adk hz,Result.andThen]
 |some y=>simp [Instr.lookup,run_underlying ht,MapKept.run_getObj_map hb',run_checkKey (w:=w') hk (k:=.int .i64 x) rfl _ 9999,hf,Result.andThen]
end
end Go.Sh
end
section
namespace Go.Proofs
open Go.Sh Go.RowKit
set_option maxRecDepth 100000
set_option linter.unusedSimpArgs false
set_option linter.unusedVariables false
inductive WmG (s : Gh) : List (Int × Value)→zZ→Prop
 |nil : WmG s [] []
 |cons {p : Int} {v : Value} {w : List Int} {E : List (Int × Value)} {M : zZ} : SlG 1 s zH v w→w≠[]→WmG s E M→WmG s ((p,v)::E) ((p,w)::M)
theorem WmG.up {s t : Gh} {E : List (Int × Value)} {M : zZ} (h : WmG s E M) [l : Le s t] : WmG t E M:=by
 induction h with
 |nil=>exact .nil
 |cons h1 h2 _ ih=>exact .cons h1.cells h2 ih
theorem WmG.snoc {s : Gh} {E : List (Int × Value)} {M : zZ} {p : Int} {v : Value} {w : List Int} (h : WmG s E M) (h1 : SlG 1 s zH v w) (h2 : w≠[]) : WmG s (E ++ [(p,v)]) (M ++ [(p,w)]):=by
 induction h with
 |nil=>exact .cons h1 h2 .nil
 |cons a b _ ih=>exact .cons a b ih
theorem WmG.look {s : Gh} {E : List (Int × Value)} {M : zZ} (h : WmG s E M) (p : Int) : (M.lookup p=none∧E.lookup p=none)∨∃ w b off cap,M.lookup p=some w∧w≠[]∧E.lookup p=some (.slice (some ⟨b,off,none⟩) w.length cap)∧SlG 1 s zH (.slice (some ⟨b,off,none⟩) w.length cap) w:=by
 induction h with
 |nil=>exact .inl ⟨rfl,rfl⟩
 |@cons p' v w E M h1 h2 _ ih=>
  by_cases e : p=p'
  ·subst e
   obtain ⟨q,cap,rfl,_,_⟩:=h1.shape
   obtain ⟨b,off,rfl,_,_⟩:=zY h1 (i:=0) (List.length_pos_iff.2 h2)
   exact .inr ⟨w,b,off,cap,by rw [List.lookup_cons];simp,h2,by rw [List.lookup_cons];simp,h1⟩
  ·have hb : (p == p')=false:=by simpa using e
   rw [List.lookup_cons,List.lookup_cons,hb]
   exact ih
theorem ajF {wq : List Int} {st : zZ × List Int} {p : Int} : st.1 <+: (yg wq st p).1:=by
 rw [yg];split
 ·exact List.prefix_refl _
 ·exact List.prefix_append _ _
theorem JY {wq : List Int} : ∀ {l : List Int} {st : zZ × List Int},st.1 <+: (l.foldl (yg wq) st).1
 |[],st=>List.prefix_refl _
 |p::l,st=>ajF.trans JY
theorem ajG {n : zz} {so : List Int→List Int} {W : List Int} {s : Int} {M : zZ} {l : List Int} {q : Int} {st : zZ × List Int} : rndW n so W s M (l ++ [q]) st=if q≠s∧q ∈ W then rndW n so W s M l st else (so (nxt n q)).foldl (yg (getW M q)) (rndW n so W s M l st):=by
 rw [rndW,List.foldl_append];rfl
theorem agI {n : zz} {so : List Int→List Int} {W : List Int} {s : Int} {M : zZ} : ∀ {l : List Int} {st : zZ × List Int},st.1 <+: (rndW n so W s M l st).1
 |[],st=>List.prefix_refl _
 |q::l,st=>by
  rw [rndW,List.foldl_cons]
  refine List.IsPrefix.trans ?_ (agI (l:=l))
  split
  ·exact List.prefix_refl _
  ·exact JY
theorem ajH {M N : zZ} {p : Int} (h : M <+: N) (hs : (M.lookup p).isSome=true) : N.lookup p=M.lookup p:=by
 obtain ⟨t,rfl⟩:=h
 rw [List.lookup_append]
 cases hm : M.lookup p with
 |none=>rw [hm] at hs;cases hs
 |some w=>rfl
theorem aen : abO sortI:=fun l=>⟨by
  have:=List.pairwise_mergeSort (le:=fun x y : Int=>decide (x≤y)) (by intro a b c h1 h2;simp only [decide_eq_true_eq] at *;omega) (by intro a b;simp only [Bool.or_eq_true,decide_eq_true_eq];omega) l
  exact this.imp fun h=>by simpa using h,
 fun x=>List.mem_mergeSort⟩
theorem mpW : mpI Tryz.prog 114=some (3,28):=by kernel_rfl
theorem afD : zr1 Tryz.prog 28=some (.slice none 0 0):=by kernel_rfl
noncomputable def okW (u : UnD) (n a b : Int) (W : List Int) : Bool:=!((decide (fnE u n≠0) || !decide (∀ x ∈ [a,b],isN (netU u n) x)) || !decide (∀ x ∈ W,isN (netU u n) x))
set_option maxHeartbeats 4000000 in
theorem ahn {u : UnD} {n a b : Int} {W : List Int} {v vw : Value} {w : World} {r : Gh} {K : Value→World→Prop} (hr : Holds r w) (hu : UnG r v u) (hWs : SlG 1 r zH vw W) (hWf : W.length≤1000000)
  (h : ∀ v' s w',Ext w w'→New w s w'→SlG 1 s zH v' (if okW u n a b W=true then (wayE (netU u n) a b W).getD [] else [])→K (.tuple #[v',.bool (okW u n a b W&&(wayE (netU u n) a b W).isSome),.int .i64 (if okW u n a b W=true then 0 else 2)]) w') :
  zd Tryz.prog Tryz.Qc #[v,.int .i64 n,.int .i64 a,.int .i64 b,vw] w K:=by
 refine Tryz.af4 ?_
 unfold Tryz.abS
 have hu0:=hu
 obtain ⟨p0,cap0,vf,rfl,_,_,hst,hsl,hfn⟩:=hu
 obtain ⟨qf,capf,rfl,_,_⟩:=hfn.sl.shape
 have S:=St.start hr
 refine S.box fun b3 w1 S=>?_
 have S : StX noX w r w1 [.cell b3 [.slice p0 u.ss.length cap0,.slice qf u.fs.length capf,.int .i64 u.mn] 25]:=S
 refine S.ldB (b:=b3) ?_ rfl
 refine aie S.holds hu0 fun vn sn w2 e2 n2 hnet=>?_
 obtain ⟨S,_,a2⟩:=S.tell e2 n2
 have S:=S.tl
 refine gS_ ?_
 refine ahK (c:=!decide (∀ x ∈ [a,b],isN (netU u n) x)) (fun w'=>StX noX w (r.or sn) w' []) (fun _=>S) (fun hb K2 hK2=>?_) fun w3 S=>?_
 ·have hE : fnE u n=0:=by simpa using hb
  obtain ⟨hlt,he,hF⟩:=vA hE
  obtain ⟨_,hN⟩:=hnet hE
  rw [← he] at hN
  refine S.lit (e:=3) (cs:=[.int .i64 a,.int .i64 b]) (by kernel_rfl) fun b5 w3 S=>?_
  obtain ⟨S,hs5,_⟩:=S.litNew b5 (sz:=1) (R:=zH) (l:=[a,b]) (yG (c:=[.int .i64 a]) rfl rfl (yr rfl rfl)) (by decide)
  have hs5 : SlG 1 (Go.Sh.one b5 [.int .i64 a,.int .i64 b] 3) zH (.slice (some ⟨b5,0,none⟩) 2 2) [a,b]:=hs5
  have S : StX noX w ((r.or sn).or (Go.Sh.one b5 [.int .i64 a,.int .i64 b] 3)) w3 []:=S
  refine aj9 S.holds hN.up hs5.cells (by simp) fun w4 e4=>?_
  have S:=S.go e4
  refine gp_ ?_
  exact hK2 _ (S.to _)
 refine yJ (c:=!decide (∀ x ∈ W,isN (netU u n) x)) (fun hb K2 hK2=>?_) fun w4 e4=>?_
 ·rw [Bool.or_eq_false_iff] at hb
  have hE : fnE u n=0:=by simpa using hb.1
  obtain ⟨hlt,he,hF⟩:=vA hE
  obtain ⟨_,hN⟩:=hnet hE
  rw [← he] at hN
  refine aj9 S.holds hN.up hWs.cells hWf fun w5 e5=>?_
  refine gp_ ?_
  exact hK2 _ e5
 have S:=S.go e4
 have hok : okW u n a b W = !((decide (fnE u n≠0) || !decide (∀ x ∈ [a,b],isN (netU u n) x)) || !decide (∀ x ∈ W,isN (netU u n) x)):=rfl
 refine c_b (fun hb=>?_) (fun hb=>?_)
 ·rw [hb] at hok
  rw [hok] at h
  exact h _ nothing _ S.ext New.nothing SlG.nil
 rw [hb] at hok
 rw [hok] at h
 simp only [Bool.or_eq_false_iff,decide_eq_false_iff_not,Decidable.not_not,Bool.not_eq_false',decide_eq_true_eq,ne_eq] at hb
 obtain ⟨⟨hE,hab⟩,hWN⟩:=hb
 obtain ⟨hlt,he,hF⟩:=vA hE
 obtain ⟨_,hN⟩:=hnet hE
 rw [← he] at hN
 have hfew:=hF.few
 have haN:=hab a (by simp)
 have hbN:=hab b (by simp)
 generalize netU u n=nn at *
 clear hnet hE he hlt hst hfn hu0
 refine S.mkMapI fun bm w5 S=>?_
 refine S.lit (e:=3) (cs:=[.int .i64 a]) (by kernel_rfl) fun b6 w6 S=>?_
 obtain ⟨S,hs6,ha6⟩:=S.litNew b6 (sz:=1) (R:=zH) (l:=[a]) (yr rfl rfl) (by decide)
 refine S.mapAddI mpW (by rfl) fun w7 S=>?_
 refine S.lit (e:=3) (cs:=[.int .i64 a]) (by kernel_rfl) fun b7 w8 S=>?_
 obtain ⟨S,hs7,ha7⟩:=S.litNew b7 (sz:=1) (R:=zH) (l:=[a]) (yr rfl rfl) (by decide)
 have S : StX noX w ((r.or sn).or ((Go.Sh.one b6 [.int .i64 a] 3).or (Go.Sh.one b7 [.int .i64 a] 3))) w8 [.obj bm (je [(a,.slice (some ⟨b6,0,none⟩) 1 1)])]:=S.reGh
 have hs6 : SlG 1 (Go.Sh.one b6 [.int .i64 a] 3) zH (.slice (some ⟨b6,0,none⟩) 1 1) [a]:=hs6
 have hs7 : SlG 1 (Go.Sh.one b7 [.int .i64 a] 3) zH (.slice (some ⟨b7,0,none⟩) 1 1) [a]:=hs7
 have ha0:=ha6.or' ha7
 have hE0 : WmG ((Go.Sh.one b6 [.int .i64 a] 3).or (Go.Sh.one b7 [.int .i64 a] 3)) [(a,.slice (some ⟨b6,0,none⟩) 1 1)] [(a,[a])]:=.cons hs6.cells (by simp) .nil
 have hl0 : SlG 1 ((Go.Sh.one b6 [.int .i64 a] 3).or (Go.Sh.one b7 [.int .i64 a] 3)) zH (.slice (some ⟨b7,0,none⟩) 1 1) [a]:=hs7.cells
 have hF0:=Fw.start (n:=nn) (W:=W) haN
 generalize (Go.Sh.one b6 [.int .i64 a] 3).or (Go.Sh.one b7 [.int .i64 a] 3)=s0 at S ha0 hE0 hl0
 clear hs6 hs7 ha6 ha7
 refine zi (ι:=Value × Gh × List (Int × Value) × zZ × List Int × Nat) (fun i=>[i.1]) (fun i w'=>Fw nn W a i.2.2.2.2.2 i.2.2.2.1 i.2.2.2.2.1∧Above w i.2.1∧SlG 1 i.2.1 zH i.1 i.2.2.2.2.1∧WmG i.2.1 i.2.2.1 i.2.2.2.1∧i.2.2.2.2.1.length≤nn.length∧(i.2.2.2.2.1≠[]→i.2.2.2.2.2+1≤i.2.2.2.1.length)∧
   StX noX w ((r.or sn).or i.2.1) w' [.obj bm (je i.2.2.1)])
  (fun i=>2*(nn.length - i.2.2.2.1.length)+(if i.2.2.2.2.1 = [] then 0 else 1)) (.slice (some ⟨b7,0,none⟩) 1 1,s0,[(a,.slice (some ⟨b6,0,none⟩) 1 1)],[(a,[a])],[a],0) rfl ⟨hF0,ha0,hl0,hE0,hF.pos,fun _=>Nat.le_refl _,S⟩ ?_
 repeat clear S
 clear hF0 ha0 hl0 hE0
 rintro ⟨vl,s,E,M,L,k⟩ d w9 ⟨hFw,ha,hL,hEM,hLf,hkM,S⟩ K18 hK18
 simp only at hFw ha hL hEM hLf hkM S ⊢
 rw [List.getD_cons_zero]
 have hMf:=hFw.few
 obtain ⟨pl,capl,rfl,_,_⟩:=hL.shape
 refine gg_ ?_
 have hnone : ∀ {K : Value→Prop},K (.bool (M.lookup b).isNone)→opQ Tryz.prog w9 (Instr.lookup 114 (.map (some bm)) (.int .i64 b) false) fun t57=>opP Tryz.prog (zO .eql 28 true t57 (.slice none 0 0)) K:=fun {K} hK=>by
  refine S.mapGetI mpW afD ?_
  rcases hEM.look b with ⟨h1,h2⟩|⟨wl,bb,oo,cc,h1,_,h2,_⟩
  ·rw [h2,Option.getD_none]
   rw [h1] at hK
   refine gp_ ?_
   exact hK
  ·rw [h2,Option.getD_some]
   rw [h1] at hK
   refine gp_ ?_
   exact hK
 refine zf (c:=(M.lookup b).isNone) (fun _ K2 hK2=>hnone hK2) ?_
 clear hnone
 refine c_b (fun hgo=>?_) (fun hend=>?_)
 ·simp only [Bool.and_eq_true,decide_eq_true_eq] at hgo
  have hLne : L≠[]:=fun e=>by rw [e] at hgo;simp at hgo
  have hk1:=hkM hLne
  obtain ⟨hFw2,hlen2⟩:=hFw.next hF.ok aen
  have hMf2:=hFw2.few
  refine gg_ ?_
  refine zi (ι:=Value × Nat × Gh × List (Int × Value)) (fun i=>[i.1,.int .i64 (i.2.1 : Nat)]) (fun i w'=>i.2.1≤L.length∧Above w i.2.2.1∧WmG i.2.2.1 i.2.2.2 (rndW nn sortI W a M (L.take i.2.1) (M,[])).1∧(rndW nn sortI W a M (L.take i.2.1) (M,[])).2.length≤2*i.2.1∧(∀ b o,s b o→i.2.2.1 b o)∧
    StX noX w ((r.or sn).or i.2.2.1) w' [.row i.1 3 1 (rndW nn sortI W a M (L.take i.2.1) (M,[])).2.length (ints (rndW nn sortI W a M (L.take i.2.1) (M,[])).2),.obj bm (je i.2.2.2)])
   (fun i=>L.length - i.2.1) (.slice none 0 0,0,s,E) rfl ⟨Nat.zero_le _,ha,hEM,Nat.zero_le _,fun _ _ h=>h,S.ownNil 3 1⟩ ?_
  repeat clear S
  rintro ⟨vx,i,s2,E2⟩ d w10 ⟨hi,ha2',hEM2,hnl,hsub,S⟩ K26 hK26
  simp only at hi ha2' hEM2 hnl hsub S ⊢
  simp only [List.getD_cons_zero,List.getD_cons_succ]
  have leS : Le s s2:=⟨hsub⟩
  refine gg_ ?_
  refine zk (fun hlti=>?_) (fun hge=>?_)
  ·have hlti : i<L.length:=by omega
   obtain ⟨bl,ol,hpl,_,hcl⟩:=zY hL hlti
   subst hpl
   have htk : L.take (i+1)=L.take i ++ [L[i]]:=List.take_succ_eq_append_getElem hlti
   have hqL : L[i] ∈ L:=List.getElem_mem hlti
   obtain ⟨hqM,hql⟩:=hFw.lenL hqL
   have hqN:=(hFw.min _ _ hqM).1
   generalize L[i]=q at hcl htk hqL hqM hql hqN
   have q0:=hqN.1;have q1:=hqN.2
   have hpre : M <+: (rndW nn sortI W a M (L.take i) (M,[])).1:=agI (st:=(M,[]))
   refine zp (fun x w'=>∃ vx' s3 E3,x = [vx']∧Above w s3∧WmG s3 E3 (rndW nn sortI W a M (L.take (i+1)) (M,[])).1∧(rndW nn sortI W a M (L.take (i+1)) (M,[])).2.length≤2*(i+1)∧(∀ b o,s b o→s3 b o)∧
    StX noX w ((r.or sn).or s3) w' [.row vx' 3 1 (rndW nn sortI W a M (L.take (i+1)) (M,[])).2.length (ints (rndW nn sortI W a M (L.take (i+1)) (M,[])).2),.obj bm (je E3)]) (fun K30 hK30=>?_) ?_
   ·refine gg_ ?_
    refine zg (by rw [Int.toNat_natCast];exact S.at hcl) ?_
    refine gg_ ?_
    refine zf (c:=decide (q ∈ W)) (fun _ K2 hK2=>acL S.holds hWs.cells (Nat.le_trans hWf (by decide)) hK2) ?_
    rw [htk,ajG] at hK30
    refine c_b (fun hsk=>?_) (fun hsk=>?_)
    ·simp only [Bool.and_eq_true,decide_eq_true_eq] at hsk
     rw [if_pos hsk] at hK30
     exact hK30 _ _ ⟨vx,s2,E2,rfl,ha2',hEM2,by omega,hsub,S⟩
    ·rw [if_neg (by simpa using hsk)] at hK30
     generalize rndW nn sortI W a M (L.take i) (M,[])=st at hK30 hEM2 hnl S hpre
     obtain ⟨pn,capn,rfl,_,_⟩:=hN.sl.shape
     obtain ⟨bn,on,un,hpn,_,hcn,hun⟩:=Vn hN (i:=q.toNat) (by omega)
     subst hpn
     have hnx : nxt nn q=nn[q.toNat]:=JM hqN
     rw [hnx] at hK30
     have hn2 : nn[q.toNat].length≤2:=hF.nar _ (List.getElem_mem _)
     generalize nn[q.toNat]=ln at hK30 hun hn2
     refine gg_ ?_
     refine zg (S.at hcn) ?_
     refine VZ S hun.sl.cells (by omega) fun v78 w11 S=>?_
     refine QP S (by omega) fun w12 S=>?_
     have hsl2 : (sortI ln).length=ln.length:=jV
     rw [← hsl2] at S
     obtain ⟨s5,T,hs5,_,ha5⟩:=S.doneRow yk (by decide) rfl
     repeat clear S
     obtain ⟨p78,c78,rfl,_,_⟩:=hs5.shape
     have S:=T
     clear T
     have ha5' : Above w s5:=fun b o ho=>(ha5 b o ho).resolve_right id
     refine gg_ ?_
     generalize sortI ln=l2 at hK30 hs5 hsl2
     have hMq : M.lookup q=some (getW M q):=(jF hFw.nod).1 hqM
     generalize getW M q=wq at hK30 hMq hql
     refine zi (ι:=Value × Nat × Gh × List (Int × Value)) (fun i=>[i.1,.int .i64 (i.2.1 : Nat)]) (fun j w'=>j.2.1≤l2.length∧Above w j.2.2.1∧WmG j.2.2.1 j.2.2.2 ((l2.take j.2.1).foldl (yg wq) st).1∧((l2.take j.2.1).foldl (yg wq) st).2.length≤2*i+j.2.1∧(∀ b o,s b o→j.2.2.1 b o)∧
       StX noX w (((r.or sn).or s5).or j.2.2.1) w' [.row j.1 3 1 ((l2.take j.2.1).foldl (yg wq) st).2.length (ints ((l2.take j.2.1).foldl (yg wq) st).2),.obj bm (je j.2.2.2)])
      (fun j=>l2.length - j.2.1) (vx,0,s2,E2) rfl ⟨Nat.zero_le _,ha2',hEM2,hnl,hsub,S.less (fun b o x=>Or.elim x (fun x=>Or.elim x (fun x=>.inl (.inl x)) .inr) fun x=>.inl (.inr x)) (List.Sublist.refl _)⟩ ?_
     repeat clear S
     rintro ⟨vy,j,s6,E6⟩ d w13 ⟨hj,ha6,hEM6,hnl6,hsub6,S⟩ K41 hK41
     simp only at hj ha6 hEM6 hnl6 hsub6 S ⊢
     simp only [List.getD_cons_zero,List.getD_cons_succ]
     have leS6 : Le s s6:=⟨hsub6⟩
     refine gg_ ?_
     refine zk (fun hltj=>?_) (fun hgej=>?_)
     ·have hltj : j<l2.length:=by omega
      obtain ⟨b78,o78,hp78,_,hc78⟩:=zY hs5 hltj
      subst hp78
      have hst : (l2.take (j+1)).foldl (yg wq) st=yg wq ((l2.take j).foldl (yg wq) st) l2[j]:=by
       rw [List.take_succ_eq_append_getElem hltj,List.foldl_append];rfl
      have hpre6 : M <+: ((l2.take j).foldl (yg wq) st).1:=hpre.trans JY
      generalize (l2.take j).foldl (yg wq) st=st6 at hst hEM6 hnl6 S hpre6
      generalize l2[j]=y at hst hc78
      refine zp (fun x w'=>∃ vy' s7 E7,x = [vy']∧Above w s7∧WmG s7 E7 (yg wq st6 y).1∧(yg wq st6 y).2.length≤2*i+(j+1)∧(∀ b o,s b o→s7 b o)∧
       StX noX w (((r.or sn).or s5).or s7) w' [.row vy' 3 1 (yg wq st6 y).2.length (ints (yg wq st6 y).2),.obj bm (je E7)]) (fun K45 hK45=>?_) ?_
      ·refine gg_ ?_
       refine zg (by rw [Int.toNat_natCast];exact S.at hc78) ?_
       refine S.mapGetI mpW afD ?_
       rcases hEM6.look y with ⟨h1,h2⟩|⟨wl,bb,oo,cc,h1,_,h2,_⟩
       ·rw [h2,Option.getD_none]
        have e : yg wq st6 y=(st6.1 ++ [(y,wq ++ [y])],st6.2 ++ [y]):=by rw [yg,h1];rfl
        rw [e] at hK45
        refine gp_ ?_
        refine c_t rfl ?_
        refine S.mapGetI mpW afD ?_
        have hq6 : st6.1.lookup q=some wq:=by rw [ajH hpre6 (by rw [hMq];rfl)];exact hMq
        rcases hEM6.look q with ⟨g1,_⟩|⟨wl,bb,oo,cc,g1,_,g2,g3⟩
        ·rw [hq6] at g1;cases g1
        rw [hq6] at g1
        cases g1
        rw [g2,Option.getD_some]
        refine VZ S g3.cells (by omega) fun v96 w14 S=>?_
        refine S.lit (e:=3) (cs:=[.int .i64 y]) (by kernel_rfl) fun b8 w15 S=>?_
        refine S.ap (v:=v96) (m':=1) (Sl.blk (S.blk b8)) (fun v99 w16 S=>?_) (by omega)
        have S:=S.drop b8
        have S : StX noX w (((r.or sn).or s5).or s6) w16 [.row v99 3 1 (wq ++ [y]).length (ints (wq ++ [y])),.row vy 3 1 st6.2.length (ints st6.2),.obj bm (je E6)]:=by
         rw [yX,List.length_append];exact S
        obtain ⟨s7,S,hs7,_,ha7⟩:=S.doneRow yk (by decide) rfl
        have hE6n : E6.lookup y=none:=h2
        refine S.mapAddI mpW hE6n fun w17 S=>?_
        refine S.lit (e:=3) (cs:=[.int .i64 y]) (by kernel_rfl) fun b9 w18 S=>?_
        refine S.ap (v:=vy) (m':=1) (Sl.blk (S.blk b9)) (fun v5 w19 S=>?_) (by omega)
        have S:=S.drop b9
        refine hK45 _ _ ⟨v5,s6.or s7,E6 ++ [(y,v99)],rfl,ha6.or' fun b o ho=>(ha7 b o ho).resolve_right id,(hEM6.up.snoc hs7.cells (by simp)),by rw [List.length_append,List.length_singleton];omega,fun b o ho=>.inl (hsub6 b o ho),?_⟩
        have S:=S.reGh
        rw [List.length_append,yX];exact S
       ·rw [h2,Option.getD_some]
        have e : yg wq st6 y=st6:=by rw [yg,h1];rfl
        rw [e] at hK45
        refine gp_ ?_
        refine c_f rfl ?_
        exact hK45 _ _ ⟨vy,s6,E6,rfl,ha6,hEM6,by omega,hsub6,S⟩
      rintro x w14 ⟨vy',s7,E7,rfl,i1,i2,i3,i4,S⟩ d
      simp only [List.getD_cons_zero]
      refine gp_ ?_
      refine hK41 (vy',j+1,s7,E7) _ ⟨hltj,i1,?_,?_,i4,?_⟩ (by show l2.length - (j+1)<l2.length - j;omega)
      ·show WmG s7 E7 ((l2.take (j+1)).foldl (yg wq) st).1
       rw [hst];exact i2
      ·show ((l2.take (j+1)).foldl (yg wq) st).2.length≤2*i+(j+1)
       rw [hst];exact i3
      ·show StX noX w (((r.or sn).or s5).or s7) w14 [.row vy' 3 1 ((l2.take (j+1)).foldl (yg wq) st).2.length (ints ((l2.take (j+1)).foldl (yg wq) st).2),.obj bm (je E7)]
       rw [hst];exact S
     have hje : j=l2.length:=by omega
     subst hje
     rw [List.take_length] at hEM6 hnl6 S
     clear hK41
     refine hK30 _ _ ⟨vy,s5.or s6,E6,rfl,ha5'.or' ha6,hEM6.up,by omega,fun b o ho=>.inr (hsub6 b o ho),S.reGh⟩
   rintro x w11 ⟨vx',s3,E3,rfl,i1,i2,i3,i4,S⟩ d
   simp only [List.getD_cons_zero]
   refine gp_ ?_
   exact hK26 (vx',i+1,s3,E3) _ ⟨hlti,i1,i2,i3,i4,S⟩ (by show L.length - (i+1)<L.length - i;omega)
  have hie : i=L.length:=by omega
  subst hie
  rw [List.take_length] at hEM2 hnl S
  clear hK26
  obtain ⟨s4,S,hs4,_,ha4⟩:=S.doneRow yk (by decide) rfl
  refine hK18 (vx,s2.or s4,E2,_,_,k+1) _ ⟨hFw2,ha2'.or' fun b o ho=>(ha4 b o ho).resolve_right id,hs4.cells,hEM2.up,(show (rndW nn sortI W a M L (M,[])).2.length≤nn.length by omega),fun hne=>?_,S.reGh⟩ ?_
  ·have : 0<(rndW nn sortI W a M L (M,[])).2.length:=List.length_pos_iff.2 hne
   show k+1+1≤(rndW nn sortI W a M L (M,[])).1.length
   omega
  ·show 2*(nn.length - (rndW nn sortI W a M L (M,[])).1.length)+(if (rndW nn sortI W a M L (M,[])).2 = [] then 0 else 1)<2*(nn.length - M.length)+(if L = [] then 0 else 1)
   rw [if_neg hLne]
   by_cases e : (rndW nn sortI W a M L (M,[])).2 = []
   ·rw [if_pos e];rw [e] at hlen2;simp only [List.length_nil] at hlen2;omega
   ·rw [if_neg e]
    have : 0<(rndW nn sortI W a M L (M,[])).2.length:=List.length_pos_iff.2 e
    omega
 have S:=S.go (Ext.drew _)
 have hfound:=hFw.found (t:=b) (by
  simp only [Bool.and_eq_false_iff,decide_eq_false_iff_not] at hend
  rcases hend with h1|h1
  ·refine .inl (List.length_eq_zero_iff.1 ?_);omega
  ·refine .inr ?_
   cases hl : M.lookup b with
   |none=>rw [hl] at h1;cases h1
   |some x=>rfl)
 refine S.mapGetI mpW afD ?_
 refine S.mapGetI mpW afD ?_
 rw [← hfound] at h
 rcases hEM.look b with ⟨h1,h2⟩|⟨wl,bb,oo,cc,h1,_,h2,h3⟩
 ·rw [h2,Option.getD_none]
  rw [h1] at h
  refine gg_ ?_
  exact h _ (sn.or s) _ S.ext (StX.newOf S.reGh (a2.or' ha)) SlG.nil
 ·rw [h2,Option.getD_some]
  rw [h1] at h
  refine gg_ ?_
  exact h _ (sn.or s) _ S.ext (StX.newOf S.reGh (a2.or' ha)) h3.cells
end Go.Proofs
end
section
namespace Go.Proofs
open Go.Sh
set_option maxRecDepth 100000
set_option linter.unusedSimpArgs false
set_option linter.unusedVariables false
end Go.Proofs
end
section
namespace Go.Proofs
open Go.Sh
set_option maxRecDepth 100000
set_option linter.unusedSimpArgs false
set_option linter.unusedVariables false
theorem ajI {u : UnD} {n : Int} : decide (fnE u n=0)=((decide (0≤n)&&decide (n<u.fs.length))&&vV u):=by
 rw [fnE]
 cases vV u with
 |false=>rw [Bool.and_false,if_pos (by simp)];rfl
 |true=>
  by_cases h : 0≤n∧n<u.fs.length
  ·rw [if_neg (by simp;omega),decide_eq_true h.1,decide_eq_true h.2];rfl
  ·rw [if_pos (by simp;omega),Bool.and_true]
   by_cases h1 : 0≤n
   ·rw [decide_eq_true h1,decide_eq_false (fun h2=>h ⟨h1,h2⟩)];rfl
   ·rw [decide_eq_false h1];rfl
theorem ajJ {u : UnD} {n : Int} : ((u.fs[n.toNat]?.map fun g=>(g.pts.length : Int)).getD 0)=(netU u n).length:=by
 rw [netU]
 cases u.fs[n.toNat]? with
 |none=>rfl
 |some g=>show (g.pts.length : Int)=(zh g).length;rw [zS]
theorem akH {u : UnD} {n q : Int} : isU u n q=(decide (fnE u n=0)&&decide (q<(netU u n).length)):=by
 rw [isU,ajJ,ajI,Bool.and_assoc,Bool.and_assoc,Bool.and_assoc]
theorem akI {u : UnD} {n : Int} : isU u n (-1)=decide (fnE u n=0):=by
 rw [akH,decide_eq_true (show (-1 : Int)<(netU u n).length by omega),Bool.and_true]
theorem JZ {u : UnD} {n q : Int} (h : okQ u n q=true) : fnE u n=0∧isN (netU u n) q:=by
 rw [okQ] at h
 simp only [Bool.not_eq_true',Bool.or_eq_false_iff,decide_eq_false_iff_not,Bool.not_eq_false',decide_eq_true_eq,Decidable.not_not] at h
 exact h
theorem ajK {u : UnD} {n : Int} {r : Gh} {qf : Option Addr} {capf : Nat} (hfn : SlB 7 r (GrG r) (.slice qf u.fs.length capf) u.fs) (h : fnE u n=0) :
  ∃ b off g x1 x2 x3 x4 y1 y2 y3 y4,qf=some ⟨b,off,none⟩∧u.fs[n.toNat]? = some g∧netU u n=zh g∧afu (zh g)∧0≤n∧n<u.fs.length∧GrG r (grL g x1 x2 x3 x4 y1 y2 y3 y4) g∧(∀ j v,(grL g x1 x2 x3 x4 y1 y2 y3 y4)[j]? = some v→Ob r fun w=>w.cell? ⟨b,off+n.toNat*7+j,none⟩=some v):=by
 obtain ⟨hlt,he,hF⟩:=vA h
 obtain ⟨_,hn0,_⟩:=Ju h
 obtain ⟨bf,of,cf,hp,hcf,hgc,hfo⟩:=hfn.sl.get (by decide) hlt
 have hgi : u.fs[n.toNat]? = some u.fs[n.toNat]:=List.getElem?_eq_getElem hlt
 rw [he] at hF
 generalize u.fs[n.toNat]=g at *
 obtain ⟨x1,x2,x3,x4,y1,y2,y3,y4,rfl,hg0⟩:=jT hgc
 exact ⟨bf,of,g,x1,x2,x3,x4,y1,y2,y3,y4,hp,hgi,he,hF,hn0,by omega,hg0,hfo⟩
theorem akJ {m : List Bool} : (mkd m).length≤m.length:=by
 rw [mkd,List.length_map]
 exact Nat.le_trans (List.length_filter_le ..) (by simp)
end Go.Proofs
end
section
namespace Go.Proofs
open Go.Sh Go.RowKit
set_option maxRecDepth 100000
set_option linter.unusedSimpArgs false
set_option linter.unusedVariables false
def FarB (n : zz) (far : List Int) : Prop:=∀ x,isN n x→faA far x+(far.countP (fun v=>decide (v<0)) : Nat)≤n.length
theorem FarB.start {n : zz} {t : Int} (ht : isN n t) : FarB n ((List.replicate n.length (-1 : Int)).set t.toNat 0):=fun x hx=>by
 have t0:=ht.1;have t1:=ht.2
 rw [Vm t0 (by rw [List.length_replicate];exact t1) hx.1]
 have h1:=List.countP_le_length (p:=fun v : Int=>decide (v<0)) (l:=(List.replicate n.length (-1 : Int)).set t.toNat 0)
 rw [List.length_set,List.length_replicate] at h1
 have h2 : faA (List.replicate n.length (-1)) x≤0:=by
  rw [faA,List.getD_eq_getElem?_getD,List.getElem?_replicate];split<;>decide
 split<;>omega
theorem FarB.put {n : zz} {W : List Int} {s y x : Int} {far todo : List Int} (h : FarB n far) (hl : far.length=n.length) (hy : isN n y) (hy0 : 0≤faA far y) (hx : isN n x) : FarB n (xN W s y (far,todo) x).1:=by
 rw [xN]
 split
 ·rename_i hc
  have x0:=hx.1;have x1:=hx.2
  have e : faA far x=far[x.toNat]'(by omega):=by rw [faA,List.getD_eq_getElem?_getD,List.getElem?_eq_getElem (by omega)];rfl
  have hk:=acI (far:=far) (k:=x.toNat) (v:=faA far y+1) (by omega) (by rw [← e];exact hc.1) (by omega)
  intro z hz
  dsimp only
  rw [Vm x0 (by omega) hz.1]
  have h1:=h y hy
  have h2:=h z hz
  split<;>omega
 ·exact h
theorem Zw {far : List Int} {x : Int} (h : x.toNat<far.length) : (ints far)[0+x.toNat]? = some (.int .i64 (faA far x)):=by
 rw [Nat.zero_add,ints,List.getElem?_map,faA,List.getD_eq_getElem?_getD,List.getElem?_eq_getElem h];rfl
theorem aig {far : List Int} {s a : Int} {l : List Int} {b x : Int} : bestF far s a (l ++ [x]) b=if faA far x=faA far a - 1∧x≠s∧(bestF far s a l b<0∨x<bestF far s a l b) then x else bestF far s a l b:=by
 rw [bestF,List.foldl_append];rfl
set_option maxHeartbeats 4000000 in
theorem aih {g : GrD} {s t : Int} {W : List Int} {c : List Value} {vW : Value} {w : World} {r : Gh} {K : Value→World→Prop} (hr : Holds r w) (hg : GrG r c g) (hF : afu (zh g)) (hs : isN (zh g) s) (ht : isN (zh g) t) (hW : SlG 1 r zH vW W) (hWN : ∀ x ∈ W,isN (zh g) x) (hWf : W.length≤1000000)
  (h : ∀ v' s' w',Ext w w'→New w s' w'→SlG 1 s' zH v' ((wayE (zh g) s t W).getD [])→K (.tuple #[v',.bool (wayE (zh g) s t W).isSome]) w') : zd Tryz.prog Tryz.Xt #[.agg c.toArray,.int .i64 s,.int .i64 t,vW] w K:=by
 refine Tryz.afz ?_
 unfold Tryz.V4
 have hg0:=hg
 obtain ⟨x1,x2,x3,x4,y1,y2,y3,y4,rfl,hg1⟩:=jT hg
 obtain ⟨pW,cW,rfl,_,_⟩:=hW.shape
 have hfew:=hF.few
 have hpos:=hF.pos
 have hgl:=zS (g:=g)
 have s0:=hs.1;have s1:=hs.2;have t0:=ht.1;have t1:=ht.2
 have S:=St.start hr
 refine S.box fun b4 w1 S=>?_
 have S : StX noX w r w1 [.cell b4 (grL g x1 x2 x3 x4 y1 y2 y3 y4) 38]:=S
 refine gg_ ?_
 refine S.mkS (by omega) (by omega) fun b26 w2 S=>?_
 rw [Int.toNat_natCast] at S ⊢
 rw [← hgl] at S ⊢
 rw [agE] at S
 refine zi (ι:=Nat × List Bool) (fun i=>[.int .i64 (i.1 : Nat)]) (fun i w'=>i.1≤W.length∧i.2.length=(zh g).length∧(∀ x,isN (zh g) x→(mk' i.2 x=true↔x ∈ W.take i.1))∧StX noX w r w' [.cell b26 (bls i.2) 4,.cell b4 (grL g x1 x2 x3 x4 y1 y2 y3 y4) 38]) (fun i=>W.length - i.1) (0,List.replicate (zh g).length false) rfl ⟨Nat.zero_le _,List.length_replicate,fun x hx=>by rw [alz];simp,S⟩ ?_
 repeat clear S
 rintro ⟨i,m⟩ d w3 ⟨hi,hml,hm,S⟩ K3 hK3
 simp only at hi hml hm S ⊢
 rw [List.getD_cons_zero]
 refine gg_ ?_
 refine zk (fun hlt=>?_) (fun hge=>?_)
 ·have hlt : i<W.length:=by omega
  obtain ⟨bn,on,hpe,_,hcn⟩:=zY hW hlt
  cases hpe
  have hpN:=hWN _ (List.getElem_mem hlt)
  have htk : W.take (i+1)=W.take i ++ [W[i]]:=List.take_succ_eq_append_getElem hlt
  generalize W[i]=p at hcn hpN htk
  have p0:=hpN.1;have p1:=hpN.2
  refine gg_ ?_
  refine zg (by rw [Int.toNat_natCast];exact S.at hcn) ?_
  refine gg_ ?_
  refine S.st (b:=b26) (fun w4 S=>?_) (by rw [acK];omega)
  refine gg_ ?_
  refine hK3 (i+1,x8 m p) _ ⟨hlt,by rw [aaI];exact hml,fun x hx=>?_,?_⟩ (by show W.length - (i+1)<W.length - i;omega)
  ·rw [afi p0 (by rw [hml];exact p1) hx.1,Bool.or_eq_true,decide_eq_true_eq,hm x hx,htk,List.mem_append,List.mem_singleton]
   exact or_comm
  ·rw [agD p0] at *;exact S
 have hie : i=W.length:=by omega
 clear hK3
 subst hie
 rw [List.take_length] at hm
 refine gg_ ?_
 refine zk (fun heq=>?_) (fun hne=>?_)
 ·subst heq
  rw [aia] at h
  refine S.lit (e:=3) (cs:=[.int .i64 s]) (by kernel_rfl) fun b43 w4 S=>?_
  have S : StX noX w r w4 [.cell b43 (ints [s]) 3,.cell b26 (bls m) 4,.cell b4 (grL g x1 x2 x3 x4 y1 y2 y3 y4) 38]:=S
  obtain ⟨S,hs1,ha⟩:=S.litNew b43 (sz:=1) (R:=zH) (l:=[s]) yk (by decide)
  exact h _ _ _ S.ext (StX.newOf S ha) hs1.cells
 refine gg_ ?_
 refine S.mkS (by omega) (by omega) fun b47 w4 S=>?_
 rw [Int.toNat_natCast] at S ⊢
 rw [← hgl] at S ⊢
 generalize hnn : zh g=nn at *
 have e0 : List.replicate nn.length (Value.int .i64 0)=ints (List.replicate nn.length 0):=by simp [ints]
 rw [e0] at S
 refine zi (ι:=Nat) (fun i=>[.int .i64 (i : Nat)]) (fun i w'=>i≤nn.length∧StX noX w r w' [.cell b47 (ints (List.replicate i (-1)++List.replicate (nn.length - i) 0)) 3,.cell b26 (bls m) 4,.cell b4 (grL g x1 x2 x3 x4 y1 y2 y3 y4) 38]) (fun i=>nn.length - i) 0 rfl ⟨Nat.zero_le _,by simpa using S⟩ ?_
 repeat clear S
 clear e0
 rintro i d w5 ⟨hi,S⟩ K5 hK5
 rw [List.getD_cons_zero]
 refine gg_ ?_
 refine zk (fun hlt=>?_) (fun hge=>?_)
 ·have hlt : i<nn.length:=by omega
  refine gg_ ?_
  rw [show nn.length - i=(nn.length - (i+1))+1 by omega,List.replicate_succ] at S
  refine S.st (b:=b47) (fun w6 S=>?_) (by rw [yR,List.length_append,List.length_replicate,List.length_cons];omega)
  rw [Int.toNat_natCast,akG (List.length_replicate)] at S
  refine gg_ ?_
  refine hK5 (i+1) _ ⟨hlt,?_⟩ (by omega)
  have e : List.replicate (i+1) (-1 : Int)++List.replicate (nn.length - (i+1)) 0=List.replicate i (-1)++(-1)::List.replicate (nn.length - (i+1)) 0:=by
   rw [List.replicate_succ',List.append_assoc];rfl
  rw [e]
  exact S
 have hie : i=nn.length:=by omega
 clear hK5
 subst hie
 rw [Nat.sub_self,List.replicate_zero,List.append_nil] at S
 refine gg_ ?_
 refine S.st (b:=b47) (fun w6 S=>?_) (by rw [yR,List.length_replicate];omega)
 rw [adt t0] at S
 refine S.lit (e:=3) (cs:=[.int .i64 t]) (by kernel_rfl) fun b61 w7 S=>?_
 have S:=S.toRow 1 1 rfl (by decide)
 have hB:=Bk.start (n:=nn) (W:=W) (s:=s) ht (fun e=>hne e.symm)
 have S : StX noX w r w7 [.row (.slice (some ⟨b61,0,none⟩) 1 1) 3 1 1 (ints [t]),.cell b47 (ints ((List.replicate nn.length (-1)).set t.toNat 0)) 3,.cell b26 (bls m) 4,.cell b4 (grL g x1 x2 x3 x4 y1 y2 y3 y4) 38]:=S
 have hC0 : ((List.replicate nn.length (-1 : Int)).set t.toNat 0).countP (fun v=>decide (v<0)) + [t].length≤nn.length+1:=by
  have:=List.countP_le_length (p:=fun v : Int=>decide (v<0)) (l:=(List.replicate nn.length (-1 : Int)).set t.toNat 0)
  rw [List.length_set,List.length_replicate] at this
  simp only [List.length_singleton];omega
 have hD0 : FarB nn ((List.replicate nn.length (-1 : Int)).set t.toNat 0):=FarB.start ht
 refine zi (ι:=Value × Nat × List Int × List Int × Int) (fun i=>[i.1,.int .i64 (i.2.1 : Nat)]) (fun i w'=>i.2.1≤i.2.2.2.1.length∧Bk nn W s t i.2.2.1 i.2.2.2.1 i.2.2.2.2 (fun y x=>y ∈ i.2.2.2.1.take i.2.1∧isN nn x∧y ∈ nxt nn x)∧(∀ y ∈ i.2.2.2.1.drop i.2.1,i.2.2.2.2≤faA i.2.2.1 y)∧i.2.2.1.countP (fun v=>decide (v<0))+i.2.2.2.1.length≤nn.length+1∧FarB nn i.2.2.1∧
   StX noX w r w' [.row i.1 3 1 i.2.2.2.1.length (ints i.2.2.2.1),.cell b47 (ints i.2.2.1) 3,.cell b26 (bls m) 4,.cell b4 (grL g x1 x2 x3 x4 y1 y2 y3 y4) 38])
  (fun i=>nn.length+1 - i.2.1) (.slice (some ⟨b61,0,none⟩) 1 1,0,(List.replicate nn.length (-1)).set t.toNat 0,[t],0) rfl ⟨Nat.zero_le _,hB.less fun y x k=>by simp at k,fun y hy=>by obtain rfl:=List.mem_singleton.1 hy;exact Int.le_of_eq hB.tt.2.symm,hC0,hD0,S⟩ ?_
 repeat clear S
 clear hB hC0 hD0
 rintro ⟨vt,i,far,todo,lv⟩ d w8 ⟨hi,hB,hlv,hC,hD,S⟩ K7 hK7
 simp only at hi hB hlv hC hD S ⊢
 simp only [List.getD_cons_zero,List.getD_cons_succ]
 obtain ⟨pt,capt,rfl,_,_,_,hst⟩:=S.rowS vt
 refine gg_ ?_
 refine zk (fun hlt=>?_) (fun hge=>?_)
 ·have hlt : i<todo.length:=by omega
  obtain ⟨bt,ot,rfl,hct⟩:=hst.at (i:=i) (by rw [yR];exact hlt)
  have hvt : (ints todo)[i]'(by rw [yR];exact hlt) = .int .i64 todo[i]:=by simp [ints]
  rw [hvt] at hct
  have S:=S.go (Ext.drew w8)
  refine S.ldB (b:=b4) ?_ rfl
  refine gg_ ?_
  refine zg (by rw [Int.toNat_natCast,World.cell?_drew];exact hct) ?_
  have hyT : todo[i] ∈ todo:=List.getElem_mem hlt
  have hyN:=(hB.td _ hyT).1
  have hdr : todo.drop i=todo[i]::todo.drop (i+1):=List.drop_eq_getElem_cons hlt
  have hlv' : lv≤faA far todo[i]:=hlv _ (by rw [hdr];exact List.mem_cons_self)
  refine afA S.holds hg0.up (by rw [hnn];exact hF) fun v2 s2 w9 e9 n9 hs2=>?_
  obtain ⟨S,_,a2⟩:=S.tell e9 n9
  rw [hnn] at hs2
  obtain ⟨p2,c2,rfl,_,_⟩:=hs2.shape
  have hbl : ∀ x ∈ befN nn todo[i],isN nn x∧todo[i] ∈ nxt nn x:=fun x hx=>X5.1 hx
  have hbm : ∀ x,isN nn x→todo[i] ∈ nxt nn x→x ∈ befN nn todo[i]:=fun x h1 h2=>X5.2 ⟨h1,h2⟩
  have hbn : (befN nn todo[i]).length≤nn.length:=by
   rw [befN,List.length_map];exact Nat.le_trans (List.length_filter_le _ _) (by simp)
  generalize befN nn todo[i]=l at hs2 hbl hbm hbn
  have hyd : ∀ {todo' : List Int},todo <+: todo'→todo'[i]? = some todo[i]:=fun h=>by
   obtain ⟨e,rfl⟩:=h
   rw [List.getElem?_append_left hlt,List.getElem?_eq_getElem hlt]
  have hB:=hB.next hlv'
  generalize hy : todo[i]=y at *
  have y0:=hyN.1;have y1':=hyN.2
  refine zi (ι:=Value × Nat × List Int × List Int) (fun i=>[i.1,.int .i64 (i.2.1 : Nat)]) (fun k w'=>k.2.1≤l.length∧Bk nn W s t k.2.2.1 k.2.2.2 (faA far y) (fun y' x=>(y' ∈ todo.take i∧isN nn x∧y' ∈ nxt nn x)∨(y'=y∧x ∈ l.take k.2.1))∧faA k.2.2.1 y=faA far y∧todo <+: k.2.2.2∧k.2.2.1.countP (fun v=>decide (v<0))+k.2.2.2.length≤nn.length+1∧FarB nn k.2.2.1∧
    StX noX w (r.or s2) w' [.row k.1 3 1 k.2.2.2.length (ints k.2.2.2),.cell b47 (ints k.2.2.1) 3,.cell b26 (bls m) 4,.cell b4 (grL g x1 x2 x3 x4 y1 y2 y3 y4) 38]) (fun k=>l.length - k.2.1) (.slice (some ⟨bt,ot,none⟩) todo.length capt,0,far,todo) rfl ⟨Nat.zero_le _,hB.less (fun y' x k=>k.elim id fun k=>by simp at k),rfl,List.prefix_refl _,hC,hD,S⟩ ?_
  repeat clear S
  rintro ⟨vt,k,far',todo'⟩ d w10 ⟨hk,hB',hfy,hpre,hC',hD',S⟩ K22 hK22
  simp only at hk hB' hfy hpre hC' hD' S ⊢
  simp only [List.getD_cons_zero,List.getD_cons_succ]
  obtain ⟨pt',capt',rfl,_,_,_,hst'⟩:=S.rowS vt
  refine gg_ ?_
  refine zk (fun hltk=>?_) (fun hgek=>?_)
  ·have hltk : k<l.length:=by omega
   obtain ⟨bn,on,hpe,_,hcn⟩:=zY hs2 hltk
   cases hpe
   have htk : l.take (k+1)=l.take k ++ [l[k]]:=List.take_succ_eq_append_getElem hltk
   have hx:=hbl _ (List.getElem_mem hltk)
   generalize l[k]=x at hcn htk hx
   have x0:=hx.1.1;have x1':=hx.1.2
   have hfl:=hB'.len
   have hput:=hB'.put (x:=x) (y:=y) (hpre.subset hyT) hfy hx.1 hx.2
   refine zp (fun z w'=>∃ vt',z = [vt']∧StX noX w (r.or s2) w' [.row vt' 3 1 (xN W s y (far',todo') x).2.length (ints (xN W s y (far',todo') x).2),.cell b47 (ints (xN W s y (far',todo') x).1) 3,.cell b26 (bls m) 4,.cell b4 (grL g x1 x2 x3 x4 y1 y2 y3 y4) 38]) (fun K26 hK26=>?_) ?_
   ·refine gg_ ?_
    refine zg (by rw [Int.toNat_natCast];exact S.at hcn) ?_
    refine gp_ ?_
    refine S.ld (b:=b47) ?_ (Zw (by omega))
    refine gg_ ?_
    refine agF (m:=!mk' m x) (x:=decide (x=s)) (fun K2 hK2=>?_) (fun _ K2 hK2=>?_) ?_
    ·refine gg_ ?_
     refine zg (by rw [Int.toNat_natCast];exact S.at hcn) ?_
     refine gp_ ?_
     refine S.ld (b:=b26) ?_ (ajE (by omega))
     refine gg_ ?_
     exact hK2
    ·refine gg_ ?_
     refine zg (by rw [Int.toNat_natCast];exact S.at hcn) ?_
     refine gg_ ?_
     exact hK2
    refine c_b (fun hc=>?_) (fun hc=>?_)
    ·simp only [Bool.and_eq_true,Bool.or_eq_true,decide_eq_true_eq,Bool.not_eq_true'] at hc
     have hc2 : faA far' x<0∧(x ∉ W∨x=s):=⟨hc.1,hc.2.imp (fun k hw=>by rw [(hm x hx.1).2 hw] at k;cases k) id⟩
     have hbs : xN W s y (far',todo') x=(far'.set x.toNat (faA far' y+1),if x=s then todo' else todo' ++ [x]):=by rw [xN];exact if_pos hc2
     rw [hbs] at hK26
     dsimp only at hK26
     have hlt' : i<todo'.length:=Nat.lt_of_lt_of_le hlt hpre.length_le
     obtain ⟨bt',ot',rfl,hct'⟩:=hst'.at (i:=i) (by rw [yR];exact hlt')
     have hyt : todo'[i]=y:=by have:=hyd hpre;rw [List.getElem?_eq_getElem hlt'] at this;exact Option.some.inj this
     have hvt' : (ints todo')[i]'(by rw [yR];exact hlt') = .int .i64 y:=by simp [ints,hyt]
     rw [hvt'] at hct'
     have hb1:=hD' y hyN
     have hb2:=hB'.val y hyN
     have S:=S.go (Ext.drew w10)
     refine gg_ ?_
     refine zg (by rw [Int.toNat_natCast];exact S.at hcn) ?_
     refine gg_ ?_
     refine zg (by rw [Int.toNat_natCast,World.cell?_drew];exact hct') ?_
     refine gp_ ?_
     refine S.ld (b:=b47) ?_ (Zw (by omega))
     refine gg_ ?_
     refine S.st (b:=b47) (fun w11 S=>?_) (by rw [yR];omega)
     rw [adt x0] at S
     refine gg_ ?_
     refine zg (by rw [Int.toNat_natCast];exact S.at hcn) ?_
     refine gg_ ?_
     refine zk (fun hxs=>?_) (fun hxs=>?_)
     ·rw [if_neg hxs] at hK26
      refine gg_ ?_
      refine zg (by rw [Int.toNat_natCast];exact S.at hcn) ?_
      refine S.lit (e:=3) (cs:=[.int .i64 x]) (by kernel_rfl) fun b5 w12 S=>?_
      refine S.ap (m':=1) (Sl.blk (S.blk b5)) (fun v4 w13 S=>?_) (by omega)
      have S:=S.drop b5
      refine hK26 _ _ ⟨v4,rfl,?_⟩
      rw [yX,List.length_append];exact S
     ·rw [if_pos (by omega)] at hK26
      exact hK26 _ _ ⟨_,rfl,S⟩
    ·have hbs : xN W s y (far',todo') x=(far',todo'):=by
      rw [xN]
      refine if_neg fun k=>?_
      have : (decide (faA far' x<0)&&(!mk' m x||decide (x=s)))=true:=by
       simp only [Bool.and_eq_true,Bool.or_eq_true,decide_eq_true_eq,Bool.not_eq_true']
       exact ⟨k.1,k.2.imp (fun k=>Bool.eq_false_iff.2 fun h2=>k ((hm x hx.1).1 h2)) id⟩
      rw [this] at hc;cases hc
     rw [hbs] at hK26
     exact hK26 _ _ ⟨_,rfl,S⟩
   rintro z w11 ⟨vt',rfl,S⟩ d
   refine gg_ ?_
   have hDn:=hD'.put (W:=W) (s:=s) (todo:=todo') (x:=x) hfl hyN (hB'.td y (hpre.subset hyT)).2.2 hx.1
   obtain ⟨g1,g2,g3,g4⟩:=hput
   refine hK22 (vt',k+1,(xN W s y (far',todo') x).1,(xN W s y (far',todo') x).2) _ ⟨hltk,g1.less fun y' x' h=>?_,g2,hpre.trans g3,Nat.le_trans g4 hC',hDn,S⟩ (by show l.length - (k+1)<l.length - k;omega)
   rcases h with h|⟨rfl,h⟩
   ·exact .inl (.inl h)
   ·rw [htk,List.mem_append,List.mem_singleton] at h
    exact h.elim (fun h=>.inl (.inr ⟨rfl,h⟩)) fun h=>.inr ⟨rfl,h⟩
  have hke : k=l.length:=by omega
  subst hke
  rw [List.take_length] at hB'
  have hlt' : i<todo'.length:=Nat.lt_of_lt_of_le hlt hpre.length_le
  have hyt : todo'[i]=y:=by have:=hyd hpre;rw [List.getElem?_eq_getElem hlt'] at this;exact Option.some.inj this
  have htk2 : todo'.take (i+1)=todo.take i ++ [y]:=by
   obtain ⟨e,rfl⟩:=hpre
   rw [List.take_succ_eq_append_getElem hlt',hyt,List.take_append_of_le_length (by omega)]
  refine gg_ ?_
  refine hK7 (.slice pt' todo'.length capt',i+1,far',todo',faA far y) _ ⟨hlt',hB'.less fun y' x' h=>?_,fun z hz=>?_,hC',hD',S.to _⟩ (by show nn.length+1 - (i+1)<nn.length+1 - i;omega)
  ·rw [htk2,List.mem_append,List.mem_singleton] at h
   obtain ⟨h1|h1,h2,h3⟩:=h
   ·exact .inl ⟨h1,h2,h3⟩
   ·subst h1;exact .inr ⟨rfl,hbm _ h2 h3⟩
  ·have hsr:=hB'.srt
   rw [← List.take_append_drop (i+1) todo',htk2,List.append_assoc,List.pairwise_append] at hsr
   have:=(List.pairwise_append.1 hsr.2.1).2.2 y (List.mem_singleton.2 rfl) z hz
   rw [hfy] at this;exact this
 have hie : i=todo.length:=by omega
 clear hK7
 subst hie
 rw [List.take_length] at hB
 have hF2 : FarD nn W s t far:=hB.far fun y hy x h1 h2=>⟨hy,h1,h2⟩
 have hfl:=hB.len
 refine gg_ ?_
 refine S.ld (b:=b47) ?_ (Zw (by omega))
 refine gg_ ?_
 refine zk (fun hneg=>?_) (fun hpos'=>?_)
 ·rw [hF2.none hF.ok hs hneg] at h
  exact h _ nothing _ S.ext New.nothing SlG.nil
 have hbs:=hD s hs
 have hsn : 0≤faA far s:=by omega
 have hval:=hF2.val
 have S:=S.less (fun _ _ k=>k) (show List.Sublist [.cell b47 (ints far) 3,.cell b4 (grL g x1 x2 x3 x4 y1 y2 y3 y4) 38] _ from .cons _ (.cons_cons _ (.cons _ (List.Sublist.refl _))))
 refine S.lit (e:=3) (cs:=[.int .i64 s]) (by kernel_rfl) fun b139 w9 S=>?_
 have S:=S.toRow 1 1 rfl (by decide)
 have S : StX noX w r w9 [.row (.slice (some ⟨b139,0,none⟩) 1 1) 3 1 [s].length (ints [s]),.cell b47 (ints far) 3,.cell b4 (grL g x1 x2 x3 x4 y1 y2 y3 y4) 38]:=S
 refine zi (ι:=Value × Int × List Int) (fun i=>[i.1,.int .i64 i.2.1]) (fun i w'=>Grd nn W s t far i.2.1 i.2.2∧StX noX w r w' [.row i.1 3 1 i.2.2.length (ints i.2.2),.cell b47 (ints far) 3,.cell b4 (grL g x1 x2 x3 x4 y1 y2 y3 y4) 38]) (fun i=>(faA far i.2.1).toNat) (.slice (some ⟨b139,0,none⟩) 1 1,s,[s]) rfl ⟨Grd.start hs hsn,S⟩ ?_
 repeat clear S
 rintro ⟨vw,a,way⟩ d w10 ⟨hG,S⟩ K46 hK46
 simp only at hG S ⊢
 simp only [List.getD_cons_zero,List.getD_cons_succ]
 refine gg_ ?_
 refine zk (fun hat=>?_) (fun hat=>?_)
 ·have haN:=hG.at'.1
  have ha0:=hG.at'.2
  have hwl:=hG.len
  have a0:=haN.1;have a1:=haN.2
  have hba:=hD a haN
  refine S.ldB (b:=b4) ?_ rfl
  refine Qv S.holds hg0.up (by rw [hnn];exact haN) fun v2 s2 w11 e11 n11 hs2=>?_
  obtain ⟨S,_,a2⟩:=S.tell e11 n11
  rw [hnn] at hs2
  obtain ⟨p2,c2,rfl,_,_⟩:=hs2.shape
  have hgo:=hG.go hF.ok hF2 hs hat
  have hlN : ∀ y ∈ nxt nn a,isN nn y:=fun y hy=>qC hF.ok hy
  have hln : (nxt nn a).length≤2:=by rw [JM haN];exact hF.nar _ (List.getElem_mem _)
  generalize nxt nn a=l at hs2 hgo hlN hln
  refine zi (ι:=Nat × Int) (fun i=>[.int .i64 i.2,.int .i64 (i.1 : Nat)]) (fun k w'=>k.1≤l.length∧k.2=bestF far s a (l.take k.1) (-1)∧StX noX w (r.or s2) w' [.row vw 3 1 way.length (ints way),.cell b47 (ints far) 3,.cell b4 (grL g x1 x2 x3 x4 y1 y2 y3 y4) 38]) (fun k=>l.length - k.1) (0,-1) rfl ⟨Nat.zero_le _,rfl,S⟩ ?_
  repeat clear S
  rintro ⟨k,b⟩ d w12 ⟨hk,hb,S⟩ K51 hK51
  simp only at hk hb S ⊢
  simp only [List.getD_cons_zero,List.getD_cons_succ]
  refine gg_ ?_
  refine zk (fun hltk=>?_) (fun hgek=>?_)
  ·have hltk : k<l.length:=by omega
   obtain ⟨bn,on,hpe,_,hcn⟩:=zY hs2 hltk
   cases hpe
   have htk : l.take (k+1)=l.take k ++ [l[k]]:=List.take_succ_eq_append_getElem hltk
   have hxN:=hlN _ (List.getElem_mem hltk)
   generalize l[k]=x at hcn htk hxN
   have x0:=hxN.1;have x1':=hxN.2
   have hnb : bestF far s a (l.take (k+1)) (-1)=if faA far x=faA far a - 1∧x≠s∧(b<0∨x<b) then x else b:=by rw [htk,aig,hb]
   refine zp (fun z w'=>z = [.int .i64 (bestF far s a (l.take (k+1)) (-1))]∧StX noX w (r.or s2) w' [.row vw 3 1 way.length (ints way),.cell b47 (ints far) 3,.cell b4 (grL g x1 x2 x3 x4 y1 y2 y3 y4) 38]) (fun K55 hK55=>?_) ?_
   ·rw [hnb] at hK55
    have S:=S.go (Ext.drew w12)
    refine gg_ ?_
    refine zg (by rw [Int.toNat_natCast];exact S.at hcn) ?_
    refine gp_ ?_
    refine S.ld (b:=b47) ?_ (Zw (by omega))
    refine gp_ ?_
    refine S.ld (b:=b47) ?_ (Zw (by omega))
    refine gg_ ?_
    refine zf (c:=decide (x≠s)) (fun _ K2 hK2=>?_) ?_
    ·refine gg_ ?_
     refine zg (by rw [Int.toNat_natCast];exact S.at hcn) ?_
     refine gg_ ?_
     exact hK2
    refine agF (m:=decide (b<0)) (x:=decide (x<b)) (fun K2 hK2=>by refine gg_ ?_;exact hK2) (fun _ K2 hK2=>?_) ?_
    ·refine gg_ ?_
     refine zg (by rw [Int.toNat_natCast];exact S.at hcn) ?_
     refine gg_ ?_
     exact hK2
    refine c_b (fun hc=>?_) (fun hc=>?_)
    ·simp only [Bool.and_eq_true,Bool.or_eq_true,decide_eq_true_eq] at hc
     rw [if_pos ⟨hc.1.1,hc.1.2,hc.2⟩] at hK55
     refine gg_ ?_
     refine zg (by rw [Int.toNat_natCast];exact S.at hcn) ?_
     exact hK55 _ _ ⟨rfl,S⟩
    ·rw [if_neg fun k=>by
      have : ((decide (faA far x=faA far a - 1)&&decide (x≠s))&&(decide (b<0)||decide (x<b)))=true:=by
       simp only [Bool.and_eq_true,Bool.or_eq_true,decide_eq_true_eq];exact ⟨⟨k.1,k.2.1⟩,k.2.2⟩
      rw [this] at hc;cases hc] at hK55
     exact hK55 _ _ ⟨rfl,S⟩
   rintro z w13 ⟨rfl,S⟩ d
   refine gg_ ?_
   exact hK51 (k+1,_) _ ⟨hltk,rfl,S⟩ (by show l.length - (k+1)<l.length - k;omega)
  have hke : k=l.length:=by omega
  subst hke
  rw [List.take_length] at hb
  subst hb
  obtain ⟨hG',hdown⟩:=hgo
  generalize bestF far s a l (-1)=bb at hG' hdown S ⊢
  refine S.lit (e:=3) (cs:=[.int .i64 bb]) (by kernel_rfl) fun b5 w13 S=>?_
  refine S.ap (m':=1) (Sl.blk (S.blk b5)) (fun v4 w14 S=>?_) (by omega)
  have S:=S.drop b5
  have hG2:=hG'.at'.2
  refine hK46 (v4,bb,way ++ [bb]) _ ⟨hG',?_⟩ (by show (faA far bb).toNat<(faA far a).toNat;omega)
  rw [yX,List.length_append]
  exact S.to _
 have hat : a=t:=by omega
 subst hat
 rw [hG.end hF.ok hF2 hs ht] at h
 obtain ⟨s9,T,hs9,_,hab⟩:=S.doneRow yk (by decide) rfl
 exact h _ s9 _ T.ext (StX.newOf (q:=s9) T fun b o ho=>(hab b o ho).resolve_right id) hs9
end Go.Proofs
end
section
namespace Go.Proofs
open Go.Sh Go.RowKit
set_option maxRecDepth 100000
set_option linter.unusedSimpArgs false
set_option linter.unusedVariables false
end Go.Proofs
end
section
namespace Go.Proofs
open Go.Sh Go.RowKit
set_option maxRecDepth 100000
set_option linter.unusedSimpArgs false
set_option linter.unusedVariables false
end Go.Proofs
end
section
namespace Go.Sh
section
variable {P : Program} {t : TypeId} {c : Bool} {a b a' b' : Int} {i j : IntKind}
end
end Go.Sh
end
section
namespace Go.Proofs
open Go.Sh
set_option maxRecDepth 100000
set_option linter.unusedSimpArgs false
set_option linter.unusedVariables false
end Go.Proofs
end
section
namespace Go.Proofs
open Go.Sh Go.RowKit
set_option maxRecDepth 100000
set_option linter.unusedSimpArgs false
set_option linter.unusedVariables false
end Go.Proofs
end
section
namespace Go.Proofs
open Go.Sh Go.RowKit
set_option maxRecDepth 100000
set_option linter.unusedSimpArgs false
set_option linter.unusedVariables false
end Go.Proofs
end
section
namespace Go.Proofs
open Go.Sh Go.RowKit
set_option maxRecDepth 100000
set_option linter.unusedSimpArgs false
set_option linter.unusedVariables false
set_option maxHeartbeats 1000000 in
theorem Zj {g : GrD} {p : PtD} {q : Int} {v : Value} {w : World} {r : Gh} {K : Value→World→Prop} (hr : Holds r w) (hx : LookG r v g) (hq : 0≤q) (hp : g.pts[q.toNat]? = some p) (hb : p.args.length≤1000)
  (h : ∀ w',Ext w w'→K (.tuple #[.int .i64 ((y6 p).getD 0),.bool (y6 p).isSome]) w') : zd Tryz.prog Tryz.xG #[v,.int .i64 q] w K:=by
 refine Tryz.VC ?_
 unfold Tryz.YK
 have hx0:=hx
 obtain ⟨bl,x1,x2,x3,x4,y1,y2,y3,y4,vn,rfl,hg,hn,hc⟩:=hx
 obtain ⟨_,_,_,_,hEE,m1,m2,m3,m4⟩:=id hg
 cases hEE
 obtain ⟨hlt,hpe⟩:=List.getElem?_eq_some_iff.1 hp
 obtain ⟨bp,op,cp,hqp,hcp,hpc,hpo⟩:=m4.sl.get (by decide) hlt
 rw [hpe] at hpc
 obtain ⟨z1,z2,z3,z4,z5,t1,t2,t3,t4,t5,rfl,hp0⟩:=yN hpc
 have S:=St.start hr
 refine gg_ ?_
 refine zg (S.at (hc 6 _ rfl)) ?_
 rw [hqp]
 refine gg_ ?_
 refine zq (n:=21) hcp (fun j v hj=>S.at (hpo j v hj)) ?_
 refine S.al fun b6 w1 S=>?_
 refine S.stB (b:=b6) fun w2 S=>?_
 have S : StX noX w r w2 [.cell b6 (ptL p z1 z2 z3 z4 z5 t1 t2 t3 t4 t5) 87]:=S
 have hno : XC p=none→y6 p=none:=fun e=>by rw [y6,e]
 refine zp (fun s w'=>∃ x,s = [.int .i64 x]∧XC p=some x∧StX noX w r w' [.cell b6 (ptL p z1 z2 z3 z4 z5 t1 t2 t3 t4 t5) 87]) (fun K3 hK3=>?_) ?_
 ·refine gg_ ?_
  refine zk (fun h11=>?_) (fun h11=>?_)
  ·refine gg_ ?_
   exact hK3 _ _ ⟨p.fr.l,rfl,by rw [XC,if_pos h11],S⟩
  ·refine S.ldN (b:=b6) (vs:=ptL p z1 z2 z3 z4 z5 t1 t2 t3 t4 t5) ?_
   refine X8 S.holds hp0 fun w3 e3=>?_
   have S:=S.go e3
   refine zf (c:=decide ((p.to.ps.length : Int)=0)) (fun _ K2 hK2=>by refine gg_ ?_;exact hK2) ?_
   refine c_b (fun hc=>?_) (fun hc=>?_)
   ·rw [Bool.and_eq_true,decide_eq_true_eq] at hc
    refine gg_ ?_
    exact hK3 _ _ ⟨p.to.l,rfl,by rw [XC,if_neg h11,if_pos ⟨hc.1,List.eq_nil_of_length_eq_zero (by omega)⟩],S⟩
   ·have he : XC p=none:=by
     rw [XC,if_neg h11,if_neg]
     rintro ⟨h1,h2⟩
     rw [h1,h2] at hc
     simp at hc
    have:=h _ S.ext
    rwa [hno he] at this
 clear S
 rintro _ w4 ⟨x,rfl,he,S⟩ d
 rw [List.getD_cons_zero]
 refine XH S.holds hx0 hq hp hb fun w5 e5=>?_
 have S:=S.go e5
 refine zk (fun hu=>?_) (fun hu=>?_)
 ·have:=h _ S.ext
  rwa [show y6 p=none by rw [y6,he];exact if_pos hu] at this
 ·have:=h _ S.ext
  rwa [show y6 p=some x by rw [y6,he];exact if_neg hu] at this
structure LkF (g : GrD) : Prop where
 net : afu (zh g)
 loc : GrF g
 args : ∀ p ∈ g.pts,p.args.length≤1000
 pt : ∃ u,∀ p ∈ g.pts,zW u g p=true
theorem kI {u : UnD} {n : Int} {g : GrD} (h : fnE u n=0) (hg : u.fs[n.toNat]? = some g) : LkF g:=by
 obtain ⟨hlt,he,hF⟩:=vA h
 obtain ⟨hM,_,_⟩:=Ju h
 rw [List.getElem?_eq_getElem hlt] at hg
 cases hg
 have hd:=hM.hd hlt
 have hmem:=List.getElem_mem hlt
 rw [he] at hF
 exact ⟨hF,⟨fun p hp=>ajr hM (by have:=hd.pn1;have:=hd.pn0;omega) (hM.pts _ hmem p hp),hd.ty512⟩,fun p hp=>ajf hM (hM.pts _ hmem p hp),u,fun p hp=>hM.pts _ hmem p hp⟩
theorem Qw {g : GrD} {q : Int} (h : isN (zh g) q) : ∃ p,g.pts[q.toNat]? = some p∧p ∈ g.pts∧aaJ g q=zI p∧JO g q=y6 p:=by
 have q0:=h.1;have q1:=h.2
 rw [zS] at q1
 have hlt : q.toNat<g.pts.length:=by omega
 have e : g.pts[q.toNat]? = some g.pts[q.toNat]:=List.getElem?_eq_getElem hlt
 exact ⟨_,e,List.getElem_mem hlt,by rw [aaJ,e],by rw [JO,e]⟩
set_option maxHeartbeats 1000000 in
theorem aga {u : UnD} {n q : Int} {v : Value} {w : World} {r : Gh} {K : Value→World→Prop} (hr : Holds r w) (hu : UnG r v u)
  (h : ∀ w',Ext w w'→K (.tuple #[.int .i64 (if okQ u n q=true then ((u.fs[n.toNat]?.bind fun g=>JO g q).getD 0) else 0),.bool (okQ u n q&&(u.fs[n.toNat]?.bind fun g=>JO g q).isSome),.int .i64 (if okQ u n q=true then 0 else 2)]) w') : zd Tryz.prog Tryz.XE #[v,.int .i64 n,.int .i64 q] w K:=by
 refine Tryz.afw ?_
 unfold Tryz.V1
 have hu0:=hu
 obtain ⟨p0,cap0,vf,rfl,_,_,hst,hsl,hfn⟩:=hu
 obtain ⟨qf,capf,rfl,_,_⟩:=hfn.sl.shape
 have S:=St.start hr
 refine S.box fun b3 w1 S=>?_
 have S : StX noX w r w1 [.cell b3 [.slice p0 u.ss.length cap0,.slice qf u.fs.length capf,.int .i64 u.mn] 25]:=S
 refine S.ldB (b:=b3) ?_ rfl
 refine jX S.holds hu0 fun vx s w2 e2 n2 hg hz=>?_
 obtain ⟨S,_,_⟩:=S.tell e2 n2
 refine gS_ ?_
 refine zj (c:=!okQ u n q) (fun hb K2 hK2=>?_) ?_
 ·have hE : fnE u n=0:=by simpa using hb
  obtain ⟨g,hgi,hnu,hx⟩:=hg hE
  refine vB S.holds hx ?_
  refine gp_ ?_
  have e : okQ u n q=decide (isN (zh g) q):=by rw [okQ,hE,hnu];simp
  rw [e] at hK2
  exact hK2
 refine c_b (fun hb=>?_) (fun hb=>?_)
 ·have hok : okQ u n q=false:=by
   by_cases hE : fnE u n=0
   ·simpa [hE] using hb
   ·rw [okQ,decide_eq_true hE];rfl
  rw [hok] at h
  exact h _ S.ext
 ·simp only [Bool.or_eq_false_iff,decide_eq_false_iff_not,Decidable.not_not,Bool.not_eq_false'] at hb
  obtain ⟨hE,hok⟩:=hb
  obtain ⟨g,hgi,hnu,hx⟩:=hg hE
  have hqN:=(JZ hok).2
  rw [hnu] at hqN
  obtain ⟨p,hp,hpm,hue,hee⟩:=Qw hqN
  have hF:=kI hE hgi
  rw [hok,hgi,Option.bind_some,hee] at h
  rw [hE]
  refine Zj S.holds hx hqN.1 hp (hF.args p hpm) fun w3 e3=>?_
  refine gS_ ?_
  exact h _ (S.go e3).ext
end Go.Proofs
end
section
namespace Go.Proofs
open Go.Sh Go.RowKit
set_option maxRecDepth 100000
set_option linter.unusedSimpArgs false
set_option linter.unusedVariables false
noncomputable def usL (g : GrD) (q : Int) : List Int:=Lib.compact (sortI (aaJ g q))
theorem akK {g : GrD} {q x : Int} : x ∈ usL g q↔x ∈ aaJ g q:=JL.2 x
theorem aho {g : GrD} {q : Int} : (usL g q).Pairwise (· < ·):=JL.1
theorem ajL {l : List OpD} : (kt l).length≤l.length:=by
 rw [kt,List.length_map];exact List.length_filter_le ..
theorem ajM {p : PtD} (h : p.args.length≤1000) : (zI p).length≤1004:=by
 have:=ajL (l:=p.a::p.b::p.args)
 rw [zI,List.length_append,List.length_append]
 simp only [List.length_cons] at this
 have h1 : (if p.op=4 then [p.fr.l] else []).length≤1:=by split<;>simp
 have h2 : (if p.op=14∨(xC p=true∧-1 ∈ p.to.ps) then [p.to.l] else []).length≤1:=by split<;>simp
 omega
set_option maxHeartbeats 1000000 in
theorem agb {u : UnD} {n q : Int} {v : Value} {w : World} {r : Gh} {K : Value→World→Prop} (hr : Holds r w) (hu : UnG r v u)
  (h : ∀ v' s w',Ext w w'→New w s w'→SlG 1 s zH v' (if okQ u n q=true then (match u.fs[n.toNat]? with|some g=>usL g q|none=>[]) else [])→K (.tuple #[v',.int .i64 (if okQ u n q=true then 0 else 2)]) w') : zd Tryz.prog Tryz.XD #[v,.int .i64 n,.int .i64 q] w K:=by
 refine Tryz.afv ?_
 unfold Tryz.V0
 have hu0:=hu
 obtain ⟨p0,cap0,vf,rfl,_,_,hst,hsl,hfn⟩:=hu
 obtain ⟨qf,capf,rfl,_,_⟩:=hfn.sl.shape
 have S:=St.start hr
 refine S.box fun b3 w1 S=>?_
 have S : StX noX w r w1 [.cell b3 [.slice p0 u.ss.length cap0,.slice qf u.fs.length capf,.int .i64 u.mn] 25]:=S
 refine S.ldB (b:=b3) ?_ rfl
 refine jX S.holds hu0 fun vx s w2 e2 n2 hg hz=>?_
 obtain ⟨S,_,_⟩:=S.tell e2 n2
 refine gS_ ?_
 refine zj (c:=!okQ u n q) (fun hb K2 hK2=>?_) ?_
 ·have hE : fnE u n=0:=by simpa using hb
  obtain ⟨g,hgi,hnu,hx⟩:=hg hE
  refine vB S.holds hx ?_
  refine gp_ ?_
  have e : okQ u n q=decide (isN (zh g) q):=by rw [okQ,hE,hnu];simp
  rw [e] at hK2
  exact hK2
 refine c_b (fun hb=>?_) (fun hb=>?_)
 ·have hok : okQ u n q=false:=by
   by_cases hE : fnE u n=0
   ·simpa [hE] using hb
   ·rw [okQ,decide_eq_true hE];rfl
  rw [hok] at h
  exact h _ nothing _ S.ext New.nothing SlG.nil
 simp only [Bool.or_eq_false_iff,decide_eq_false_iff_not,Decidable.not_not,Bool.not_eq_false'] at hb
 obtain ⟨hE,hok⟩:=hb
 obtain ⟨g,hgi,hnu,hx⟩:=hg hE
 have hqN:=(JZ hok).2
 rw [hnu] at hqN
 obtain ⟨p,hp,hpm,hue,hee⟩:=Qw hqN
 have hF:=kI hE hgi
 have hfew:=ajM (hF.args p hpm)
 simp only [hok,if_true,hgi] at h
 rw [show usL g q=Lib.compact (sortI (zI p)) by rw [usL,hue]] at h
 have S:=S.tl
 refine S.al fun b10 w3 S=>?_
 have S:=S.ownNil 3 1
 generalize r.or s=r' at S hx
 have S : StX noX w r' w3 [.row (.slice none 0 0) 3 1 ((zI p).take 0).length (ints ((zI p).take 0)),.cell b10 [.slice none 0 0] 28]:=S
 refine gp_ ?_
 refine V2 (D0:=xY [.row (.slice none 0 0) 3 1 ((zI p).take 0).length (ints ((zI p).take 0)),.cell b10 [.slice none 0 0] 28])
  (J:=fun k D W=>∃ vl,D=xY [.row vl 3 1 ((zI p).take k).length (ints ((zI p).take k)),.cell b10 [vl] 28]∧StX noX w r' W [.row vl 3 1 ((zI p).take k).length (ints ((zI p).take k)),.cell b10 [vl] 28])
  (Jx:=fun _=>False) S.holds hx hqN.1 hp (hF.args p hpm) ?_ ?_ ⟨_,rfl,S⟩ ?_
 ·intro d hd
  refine ⟨S.dlt hd,fun o=>?_⟩
  obtain ⟨x,hx,hdx⟩:=xZ.1 hd
  exact (S.mine x hx d hdx).2 o
 ·refine ⟨?_,fun _ _ h=>h.elim,?_⟩
  ·rintro k _ W1 W2 ⟨vl,rfl,S⟩ e
   exact ⟨vl,rfl,S.go e⟩
  ·rintro k _ W x hx ⟨vl,rfl,S⟩ K1 hK1
   obtain ⟨hk,hxe⟩:=List.getElem?_eq_some_iff.1 hx
   have hkl : ((zI p).take k).length=k:=by rw [List.length_take];omega
   refine Qg (by kernel_rfl) ?_
   refine Tryz.acM ?_
   unfold Tryz.QQ
   have R:=S.part
   refine R.ld (b:=b10) ?_
   refine R.lit (e:=3) (cs:=[.int .i64 x]) (by kernel_rfl) fun b6 w6 R=>?_
   refine R.ap (v:=vl) (m':=1) (Sl.blk (R.blk b6)) (fun v7 w7 R=>?_) (by rw [hkl];omega)
   have R:=R.drop b6
   refine R.st (b:=b10) (fun w8 R=>?_) (by simp) (R.row1 v7)
   have hE : (zI p).take (k+1)=(zI p).take k ++ [x]:=by rw [List.take_succ_eq_append_getElem hk,hxe]
   have R : StX (xY [.row vl 3 1 ((zI p).take k).length (ints ((zI p).take k)),.cell b10 [vl] 28]) W r' w8 [.row v7 3 1 ((zI p).take (k+1)).length (ints ((zI p).take (k+1))),.cell b10 [v7] 28]:=by
    rw [hE,List.length_append,yX];exact R
   refine hK1 true _ R.x (if_pos rfl ▸ ?_)
   refine ⟨xY [.row v7 3 1 ((zI p).take (k+1)).length (ints ((zI p).take (k+1))),.cell b10 [v7] 28],fun d hd=>?_,v7,rfl,S.whole R fun _ h=>h⟩
   obtain ⟨y,hy,hdy⟩:=xZ.1 hd
   rcases (R.mine y hy d hdy).1 with h1|h1
   ·exact .inr ⟨h1,R.dlt hd⟩
   ·exact .inl h1
 ·rintro W4 (⟨_,vl,rfl,S⟩|h)
  ·rw [List.take_length] at S
   refine S.ld (b:=b10) ?_
   refine QP S (by omega) fun w5 S=>?_
   refine S.ld (b:=b10) ?_
   have S : StX noX w r' w5 [.row vl 3 1 (sortI (zI p)).length (ints (sortI (zI p))),.cell b10 [vl] 28]:=by rw [jV];exact S
   refine aaG S fun v6 w6 S=>?_
   obtain ⟨s2,T,hs,_,hab⟩:=S.doneRow yk (by decide) rfl
   exact h _ s2 _ T.ext (StX.newOf (q:=s2) T fun b o ho=>(hab b o ho).resolve_right id) hs
  ·exact h.elim
end Go.Proofs
end
section
namespace Go.Sh
open Go.RowKit
theorem aaQ {α β γ : Type} {f : α→β→γ} : ∀ {us : List α} {bs : List β} {i : Nat} (h1 : i<us.length) (h2 : i<bs.length),∃ p q,List.zipWith f us bs=p++f us[i] bs[i]::q∧∀ a b,List.zipWith f (us.set i a) (bs.set i b)=p++f a b::q
 |[],_,_,h1,_=>absurd h1 (Nat.not_lt_zero _)
 |_::_,[],_,_,h2=>absurd h2 (Nat.not_lt_zero _)
 |a::us,b::bs,0,_,_=>⟨[],List.zipWith f us bs,rfl,fun _ _=>rfl⟩
 |a::us,b::bs,i+1,h1,h2=>by
  obtain ⟨p,q,h3,h4⟩:=aaQ (f:=f) (us:=us) (bs:=bs) (i:=i) (by simpa using h1) (by simpa using h2)
  exact ⟨f a b::p,q,by rw [List.zipWith_cons_cons,h3];rfl,fun x y=>by rw [List.set_cons_succ,List.set_cons_succ,List.zipWith_cons_cons,h4];rfl⟩
theorem aii {α β γ : Type} {f : α→β→γ} {us : List α} {bs : List β} {i : Nat} (h1 : i<us.length) (h2 : i<bs.length) : ∃ p q,List.zipWith f us bs=p++f us[i] bs[i]::q∧∀ b,List.zipWith f us (bs.set i b)=p++f us[i] b::q:=by
 obtain ⟨p,q,h3,h4⟩:=aaQ (f:=f) h1 h2
 refine ⟨p,q,h3,fun b=>?_⟩
 have:=h4 us[i] b
 rwa [List.set_getElem_self] at this
section
variable {P : Program} {X : Nat→Prop} {w0 w w' : World} {r : Gh} {L : List Asr}
theorem NC.of_doms (S : StX X w0 r w L) (e : ExtBut (xY L) w w') : NC w w':=⟨e.size,fun b o hb ho=>by
 have hlt:=(Array.getElem?_eq_some_iff.1 hb).1
 by_cases hd : xY L b
 ·obtain ⟨o',h1,h2⟩:=aeJ S b hd
  rw [hb] at h1;cases h1;rw [ho] at h2;cases h2
 ·rw [e.block b hlt hd];exact hb⟩
theorem StX.mkSN {t e : TypeId} {bytes : Nat} {kl : IntKind} {n : Int} {z : Value} (S : StX X w0 r w L) [hT : ApT P t e 1 bytes] [hz : ZrT P e [z]] {K : Value→World→Prop} (h0 : 0≤n) (hb : (bytes : Int)*n≤281474976710656)
  (h : ∀ b w',Ext w w'→StX X w0 r w' (.cell b (List.replicate n.toNat z) e::L)→K (.slice (some ⟨b,0,none⟩) n.toNat n.toNat) w') : opW P w (Instr.makeSlice t (.int kl n) (.int kl n)) fun t' w'=>NC w w'∧K t' w':=
 aeE hT.h hz.h h0 hb fun b w' hb e _ B=>⟨NC.of_ext e,h b w' e (S.add e (by omega) B)⟩
theorem StX.ownNils (S : StX X w0 r w L) (e : TypeId) (sz : Nat) : ∀ n,StX X w0 r w (List.replicate n (.row (.slice none 0 0) e sz 0 [])++L)
 |0=>S
 |n+1=>by
  rw [List.replicate_succ]
  exact (S.ownNils e sz n).ownNil e sz
theorem StX.frzRows {α : Type} {e : TypeId} {sz : Nat} {C : List α→List Value} {R : List Value→α→Prop} (hz : 0<sz) (hC : ∀ l,RowOf sz R (C l) l) : ∀ {vs : List Value} {B : List (List α)} {r : Gh},vs.length=B.length→StX X w0 r w (List.zipWith (fun v l=>Asr.row v e sz l.length (C l)) vs B++L)→
  ∃ s,StX X w0 (r.or s) w L∧(∀ b o,s b o→w0.heap.size≤b∨X b)∧∀ i (h1 : i<vs.length) (h2 : i<B.length),SlG sz s R vs[i] B[i]
 |[],[],r,_,S=>⟨nothing,S.less (fun b o h=>h.elim id fun h=>h.elim) (List.Sublist.refl _),fun _ _ h=>h.elim,fun i h=>absurd h (Nat.not_lt_zero _)⟩
 |v::vs,l::B,r,h,S=>by
  rw [List.zipWith_cons_cons,List.cons_append] at S
  obtain ⟨s1,S1,hs1,_,ha1⟩:=S.doneRow (hC l) hz rfl
  obtain ⟨s2,S2,ha2,hs2⟩:=StX.frzRows hz hC (vs:=vs) (B:=B) (by simpa using h) S1
  refine ⟨s1.or s2,S2.reGh,fun b o ho=>ho.elim (ha1 b o) (ha2 b o),fun i h1 h2=>?_⟩
  cases i with
  |zero=>exact hs1.cells
  |succ i=>exact (hs2 i (by simpa using h1) (by simpa using h2)).cells
 |[],_::_,_,h,_=>by simp at h
 |_::_,[],_,h,_=>by simp at h
theorem StX.frzCells {α : Type} {e : TypeId} {C : α→List Value} : ∀ {bs : List Nat} {R : List α} {r : Gh},bs.length=R.length→StX X w0 r w (List.zipWith (fun b m=>Asr.cell b (C m) e) bs R++L)→
  ∃ s,StX X w0 (r.or s) w L∧(∀ b o,s b o→w0.heap.size≤b∨X b)∧∀ i (h1 : i<bs.length) (h2 : i<R.length),Ob s fun w=>Blk w bs[i] (C R[i]) e
 |[],[],r,_,S=>⟨nothing,S.less (fun b o h=>h.elim id fun h=>h.elim) (List.Sublist.refl _),fun _ _ h=>h.elim,fun i h=>absurd h (Nat.not_lt_zero _)⟩
 |b::bs,m::R,r,h,S=>by
  rw [List.zipWith_cons_cons,List.cons_append] at S
  have hm:=(S.mine (.cell b (C m) e) List.mem_cons_self b rfl).1
  have S1:=S.frz
  obtain ⟨s2,S2,ha2,hs2⟩:=StX.frzCells (bs:=bs) (R:=R) (by simpa using h) S1
  refine ⟨(Go.Sh.one b (C m) e).or s2,S2.reGh,fun b' o ho=>ho.elim (by rintro ⟨rfl,_⟩;exact hm) (ha2 b' o),fun i h1 h2=>?_⟩
  cases i with
  |zero=>exact (zJ (b:=b) (c:=C m) (T:=e)).up
  |succ i=>exact (hs2 i (by simpa using h1) (by simpa using h2)).up
 |[],_::_,_,h,_=>by simp at h
 |_::_,[],_,h,_=>by simp at h
end
end Go.Sh
end
section
namespace Go.Proofs
open Go.Sh Go.RowKit
set_option maxRecDepth 100000
set_option linter.unusedSimpArgs false
set_option linter.unusedVariables false
abbrev xd (bs : List Nat) (R : xc) : List Asr:=List.zipWith (fun b m=>Asr.cell b (bls m) 4) bs R
abbrev lwL (b11 : Nat) (bs : List Nat) (vl : Value) (st : xc × List (Int × Int)) : List Asr:=.row vl 159 2 st.2.length (qN st.2) :: .cell b11 [vl] 157::xd bs st.1
structure RwsAt (ρ : Gh) (b4 br : Nat) (bs : List Nat) (n : Nat) : Prop where
 hd : Ob ρ fun w=>w.cell? ⟨b4,0,none⟩=some (.slice (some ⟨br,0,none⟩) bs.length bs.length)
 at' : ∀ i (h : i<bs.length),Ob ρ fun w=>w.cell? ⟨br,i,none⟩=some (.slice (some ⟨bs[i],0,none⟩) n n)
theorem RwsAt.up {ρ σ : Gh} {b4 br : Nat} {bs : List Nat} {n : Nat} (h : RwsAt ρ b4 br bs n) [le : Le ρ σ] : RwsAt σ b4 br bs n:=⟨h.hd.up,fun i hi=>(h.at' i hi).up⟩
theorem acO {R : xc} {x : Int} (h : x.toNat<R.length) : ku R x=R[x.toNat]:=by rw [ku,List.getD_eq_getElem?_getD,List.getElem?_eq_getElem h];rfl
set_option maxHeartbeats 1000000 in
theorem ab6 {q x : Int} {b4 br b11 n : Nat} {bs : List Nat} {ρ : Gh} {X : Nat→Prop} {w0 w : World} {K : Value→World→Prop} {vl : Value} {st : xc × List (Int × Int)} (S : StX X w0 ρ w (lwL b11 bs vl st))
  (hA : RwsAt ρ b4 br bs n) (hx : 0≤x∧x.toNat<bs.length) (hq : 0≤q∧q<n) (hl : st.1.length=bs.length) (hrl : (ku st.1 x).length=n) (hT : st.2.length≤1000000)
  (h : ∀ vl' w',NC w w'→StX (xY (lwL b11 bs vl st)) w ρ w' (lwL b11 bs vl' (kG st (q,x)))→K (.tuple #[]) w') : zd Tryz.prog Tryz.zF #[.int .i64 q,.int .i64 x,.pointer (some ⟨b4,0,none⟩),.pointer (some ⟨b11,0,none⟩)] w K:=by
 refine Tryz.Q2 ?_
 unfold Tryz.Zv
 have R:=S.part
 have hxs : x.toNat<st.1.length:=by omega
 obtain ⟨p,qq,hsp,hset⟩:=aii (f:=fun b m=>Asr.cell b (bls m) 4) hx.2 hxs
 have B:=R.has (.cell bs[x.toNat] (bls st.1[x.toNat]) 4) (by show _ ∈ _::_::xd bs st.1;rw [xd,hsp];simp)
 have B : Blk w bs[x.toNat] (bls st.1[x.toNat]) 4:=B
 rw [acO hxs] at hrl
 refine zg (R.at hA.hd) ?_
 refine gg_ ?_
 refine zg (by rw [Nat.zero_add];exact R.at (hA.at' _ hx.2)) ?_
 refine gg_ ?_
 refine zg (v:=.bool (mk' st.1[x.toNat] q)) (by rw [B.cell];exact aly (by omega)) ?_
 refine gp_ ?_
 have hmk : mkR st.1 x q=mk' st.1[x.toNat] q:=by rw [mkR,acO hxs]
 refine c_b (fun hb=>?_) (fun hb=>?_)
 ·have hb : mk' st.1[x.toNat] q=false:=by simpa using hb
  have hadd : kG st (q,x)=(ZM st.1 x q,st.2 ++ [(q,x)]):=by rw [kG,if_neg (by rw [hmk,hb];decide)]
  rw [hadd] at h
  have hsr : ZM st.1 x q=st.1.set x.toNat (x8 st.1[x.toNat] q):=by rw [ZM,acO hxs]
  refine zg (R.at hA.hd) ?_
  refine gg_ ?_
  refine zg (by rw [Nat.zero_add];exact R.at (hA.at' _ hx.2)) ?_
  refine gg_ ?_
  haveI hAt : At bs[x.toNat] (lwL b11 bs vl st) (bls st.1[x.toNat]) 4 (fun c'=>(.row vl 159 2 st.2.length (qN st.2) :: .cell b11 [vl] 157::p) ++ .cell bs[x.toNat] c' 4::qq):=
   ⟨_,_,by show _::_::xd bs st.1=_;rw [xd,hsp];rfl,fun _=>rfl⟩
  refine R.st (b:=bs[x.toNat]) (h:=hAt) (fun w1 R=>?_) (by rw [acK];omega)
  rw [agD hq.1] at R
  have R : StX (xY (lwL b11 bs vl st)) w ρ w1 (.row vl 159 2 st.2.length (qN st.2) :: .cell b11 [vl] 157::xd bs (ZM st.1 x q)):=by
   rw [xd,hsr,hset];exact R
  refine R.ld (b:=b11) ?_
  refine zy (cs:=#[.int .i64 q,.int .i64 x]) (by kernel_rfl) ?_
  refine R.lit (e:=159) (cs:=[.int .i64 q,.int .i64 x]) (by kernel_rfl) fun b6 w6 R=>?_
  refine R.ap (v:=vl) (m':=1) (Sl.blk (R.blk b6)) (fun v7 w7 R=>?_) (by omega)
  have R:=R.drop b6
  refine R.st (b:=b11) (fun w8 R=>?_) (by simp) (R.row1 v7)
  have R : StX (xY (lwL b11 bs vl st)) w ρ w8 (lwL b11 bs v7 (ZM st.1 x q,st.2 ++ [(q,x)])):=by
   show StX _ w ρ w8 (.row v7 159 2 (st.2 ++ [(q,x)]).length (qN (st.2 ++ [(q,x)]))::_)
   rw [Qs,List.length_append]
   exact R
  exact h _ _ (NC.of_doms S R.x) R
 ·have hb : mk' st.1[x.toNat] q=true:=by simpa using hb
  have hadd : kG st (q,x)=st:=by rw [kG,if_pos (by rw [hmk,hb])]
  rw [hadd] at h
  exact h _ _ (NC.of_ext (.refl _)) R
end Go.Proofs
end
section
namespace Go.Proofs
open Go.Sh Go.RowKit
set_option maxRecDepth 100000
set_option linter.unusedSimpArgs false
set_option linter.unusedVariables false
def aka (r : Gh) (c : List Value) (m : List Bool) : Prop:=∃ v,c = [v]∧SlB 1 r ahh v m
noncomputable def lvR (g : GrD) : xc:=(List.range g.tys.length).map fun (x : Nat)=>lvM g x
theorem vY {g : GrD} : (lvR g).length=g.tys.length:=by simp [lvR]
theorem YM {g : GrD} {j : Nat} (h : j<(lvR g).length) : (lvR g)[j]=lvM g j:=by simp [lvR]
abbrev vC (n : Nat) (b : Nat) : Value:=.slice (some ⟨b,0,none⟩) n n
theorem ajN {n m : Nat} {bs : List Nat} {b : Nat} (h : bs.length<m) : (bs.map (vC n)++List.replicate (m - bs.length) (Value.slice none 0 0)).set (0+bs.length) (vC n b)=(bs ++ [b]).map (vC n)++List.replicate (m - (bs ++ [b]).length) (Value.slice none 0 0):=by
 rw [Nat.zero_add,show m - bs.length=(m - (bs.length+1))+1 by omega,List.replicate_succ,List.set_append_right _ _ (by rw [List.length_map];omega),List.length_map,Nat.sub_self,List.set_cons_zero,List.map_append,List.length_append,List.append_assoc]
 rfl
theorem aij {bs : List Nat} {b : Nat} {row : List Bool} : xd (bs ++ [b]) (List.replicate (bs ++ [b]).length row)=xd bs (List.replicate bs.length row) ++ [Asr.cell b (bls row) 4]:=by
 rw [xd,List.length_append,List.length_singleton,List.replicate_succ',List.zipWith_append (by rw [List.length_replicate])]
 rfl
abbrev J0 (vs : List Value) (B : List (List Int)) : List Asr:=List.zipWith (fun v l=>Asr.row v 3 1 l.length (ints l)) vs B
def BfI (g : GrD) (q k : Nat) (B : List (List Int)) : Prop:=B.length=(zh g).length∧∀ p,isN (zh g) p→(∀ x,x ∈ B.getD p.toNat []↔(isN (zh g) x∧p ∈ nxt (lkN g) x∧x<q)∨(x=q∧p ∈ (nxt (lkN g) q).take k))∧(B.getD p.toNat []).length≤2*q+k
theorem BfI.start {g : GrD} : BfI g 0 0 (List.replicate (zh g).length []):=⟨List.length_replicate,fun p hp=>by
 have p0:=hp.1;have p1:=hp.2
 have e : (List.replicate (zh g).length ([] : List Int)).getD p.toNat [] = []:=by rw [List.getD_eq_getElem?_getD,List.getElem?_replicate];split<;>rfl
 rw [e]
 refine ⟨fun x=>?_,Nat.zero_le _⟩
 simp only [List.not_mem_nil,List.take_zero,and_false,or_false,false_iff]
 rintro ⟨h1,_,h2⟩
 have:=h1.1
 have h2 : x<(0 : Int):=h2
 omega⟩
theorem BfI.next {g : GrD} {q k : Nat} {B : List (List Int)} (h : BfI g q k B) (hk : k<(nxt (lkN g) q).length) (hp : isN (zh g) (nxt (lkN g) q)[k]) : BfI g q (k+1) (B.set ((nxt (lkN g) q)[k]).toNat (B.getD ((nxt (lkN g) q)[k]).toNat [] ++ [(q : Int)])):=by
 obtain ⟨h1,h2⟩:=h
 refine ⟨by rw [List.length_set];exact h1,fun p hpN=>?_⟩
 rw [List.take_succ_eq_append_getElem hk]
 generalize (nxt (lkN g) q)[k]=y at *
 have y0:=hp.1;have y1:=hp.2;have p0:=hpN.1;have p1:=hpN.2
 obtain ⟨h3,h4⟩:=h2 p hpN
 by_cases e : p=y
 ·subst e
  have eG : (B.set p.toNat (B.getD p.toNat [] ++ [(q : Int)])).getD p.toNat []=B.getD p.toNat [] ++ [(q : Int)]:=by
   rw [List.getD_eq_getElem?_getD,List.getElem?_set_self (by omega)];rfl
  rw [eG]
  refine ⟨fun x=>?_,by rw [List.length_append,List.length_singleton];omega⟩
  rw [List.mem_append,List.mem_singleton,h3 x,List.mem_append,List.mem_singleton]
  constructor
  ·rintro ((h|⟨h5,h6⟩)|h)
   ·exact .inl h
   ·exact .inr ⟨h5,.inl h6⟩
   ·exact .inr ⟨h,.inr rfl⟩
  ·rintro (h|⟨h5,h6|h6⟩)
   ·exact .inl (.inl h)
   ·exact .inl (.inr ⟨h5,h6⟩)
   ·exact .inr h5
 ·have eG : (B.set y.toNat (B.getD y.toNat [] ++ [(q : Int)])).getD p.toNat []=B.getD p.toNat []:=by
   rw [List.getD_eq_getElem?_getD,List.getElem?_set_ne (by omega),← List.getD_eq_getElem?_getD]
  rw [eG]
  refine ⟨fun x=>?_,by omega⟩
  rw [h3 x,List.mem_append,List.mem_singleton]
  simp [e]
theorem BfI.row {g : GrD} {q : Nat} {B : List (List Int)} (h : BfI g q (nxt (lkN g) q).length B) (hq : q<(zh g).length) (h2 : (nxt (lkN g) q).length≤2) : BfI g (q+1) 0 B:=⟨h.1,fun p hp=>by
 obtain ⟨h3,h4⟩:=h.2 p hp
 refine ⟨fun x=>?_,by omega⟩
 rw [h3 x,List.take_length,List.take_zero]
 simp only [List.not_mem_nil,and_false,or_false]
 constructor
 ·rintro (⟨h5,h6,h7⟩|⟨rfl,h6⟩)
  ·exact ⟨h5,h6,by omega⟩
  ·exact ⟨⟨by omega,by omega⟩,h6,by omega⟩
 ·rintro ⟨h5,h6,h7⟩
  by_cases e : x=(q : Int)
  ·subst e;exact .inr ⟨rfl,h6⟩
  ·exact .inl ⟨h5,h6,by omega⟩⟩
theorem afE {g : GrD} {x p : Int} (hx : isN (zh g) x) : p ∈ nxt (lkN g) x↔p ∈ nxt (zh g) x:=by
 have x0:=hx.1;have x1:=hx.2
 have hl : x.toNat<g.pts.length:=by rw [zS] at x1;omega
 rw [agw hx,nxt,List.getD_eq_getElem?_getD,lkN,List.getElem?_map,List.getElem?_eq_getElem hl]
 exact agG
theorem alB {g : GrD} {x : Int} : (nxt (lkN g) x).length≤2:=by
 rw [nxt,List.getD_eq_getElem?_getD,lkN,List.getElem?_map]
 cases g.pts[x.toNat]? with
 |none=>exact Nat.zero_le _
 |some p=>
  show (lkP p).length≤2
  rw [lkP,List.length_append]
  split<;>split<;>simp
theorem BfI.end {g : GrD} {B : List (List Int)} (h : BfI g (zh g).length 0 B) {p x : Int} (hp : isN (zh g) p) : x ∈ B.getD p.toNat []↔x ∈ befN (zh g) p:=by
 rw [((h.2 p hp).1 x),X5,List.take_zero]
 simp only [List.not_mem_nil,and_false,or_false]
 constructor
 ·rintro ⟨h1,h2,_⟩;exact ⟨h1,(afE h1).1 h2⟩
 ·rintro ⟨h1,h2⟩;exact ⟨h1,(afE h1).2 h2,h1.2⟩
set_option maxHeartbeats 8000000 in
theorem V5 {g : GrD} {v : Value} {w : World} {r : Gh} {K : Value→World→Prop} (hr : Holds r w) (hx : LookG r v g) (hF : LkF g)
  (h : ∀ v' s w',Ext w w'→New w s w'→SlG 1 s (aka s) v' (lvR g)→K v' w') : zd Tryz.prog Tryz.kH #[v] w K:=by
 refine Tryz.VD ?_
 unfold Tryz.YL
 have hx0:=hx
 obtain ⟨bl,x1,x2,x3,x4,y1,y2,y3,y4,vn,rfl,hg,hn,hc⟩:=hx
 have hnf:=hF.net.few
 have hnp:=hF.net.pos
 have hmf:=hF.loc.few
 have hgl:=zS (g:=g)
 have hlk:=Vo (g:=g)
 have S:=St.start hr
 have hlow:=S.low
 refine S.boxN fun b1 w1 _ S=>?_
 refine gg_ ?_
 refine zg (S.at (hc 6 _ rfl)) ?_
 refine gg_ ?_
 refine zg (S.at (hc 4 _ rfl)) ?_
 refine gg_ ?_
 refine S.mkSN (by omega) (by omega) fun br w2 e2 S=>?_
 rw [Int.toNat_natCast] at S ⊢
 refine S.alN fun b4 w3 _ S=>?_
 refine S.stN' (b:=b4) fun w4 S=>?_
 refine S.ld (b:=b4) ?_
 refine gg_ ?_
 have S : StX noX w r w4 (.cell b4 [.slice (some ⟨br,0,none⟩) g.tys.length g.tys.length] 67 :: .cell br (([] : List Nat).map (vC g.pts.length)++List.replicate (g.tys.length - ([] : List Nat).length) (.slice none 0 0)) 75 :: .cell b1 [.pointer (some ⟨bl,0,none⟩)] 118::xd [] (List.replicate ([] : List Nat).length (List.replicate g.pts.length false))):=S
 refine zi (ι:=List Nat) (fun bs=>[.int .i64 (bs.length : Nat)]) (fun bs w'=>bs.length≤g.tys.length∧StX noX w r w' (.cell b4 [.slice (some ⟨br,0,none⟩) g.tys.length g.tys.length] 67 :: .cell br (bs.map (vC g.pts.length)++List.replicate (g.tys.length - bs.length) (.slice none 0 0)) 75 :: .cell b1 [.pointer (some ⟨bl,0,none⟩)] 118::xd bs (List.replicate bs.length (List.replicate g.pts.length false)))) (fun bs=>g.tys.length - bs.length) [] rfl ⟨Nat.zero_le _,S⟩ ?_
 repeat clear S
 rintro bs d w8 ⟨hi,S⟩ K5 hK5
 rw [List.getD_cons_zero]
 refine gg_ ?_
 refine zk (fun hlt=>?_) (fun hge=>?_)
 ·have hlt : bs.length<g.tys.length:=by omega
  have S:=S.go (Ext.drew _)
  refine S.ld (b:=b4) ?_
  refine S.mkSN (by omega) (by omega) fun b9 w9 e9 S=>⟨e9,?_⟩
  rw [Int.toNat_natCast] at S ⊢
  rw [agE] at S
  refine gg_ ?_
  refine S.stN' (b:=br) (fun w10 S=>?_) (by simp;omega)
  rw [Int.toNat_natCast,ajN hlt] at S
  refine gg_ ?_
  have e : ((bs.length : Int)+1)=((bs ++ [b9]).length : Nat):=by simp
  rw [e]
  refine hK5 (bs ++ [b9]) _ ⟨by simp;omega,?_⟩ (by simp;omega)
  rw [aij]
  exact S.permO (List.perm_append_singleton _ (_::_::_::_))
 have hie : bs.length=g.tys.length:=by omega
 clear hK5 K5 hge hi d
 rw [hie,Nat.sub_self,List.replicate_zero,List.append_nil] at S
 rw [← hgl] at S ⊢
 generalize hn2 : (zh g).length=n at *
 have hb4:=(S.mine (.cell b4 [.slice (some ⟨br,0,none⟩) g.tys.length g.tys.length] 67) (by simp) b4 rfl).1.resolve_right id
 have hbr:=(S.mine (.cell br (bs.map (vC n)) 75) (by simp) br rfl).1.resolve_right id
 have hb1:=(S.mine (.cell b1 [.pointer (some ⟨bl,0,none⟩)] 118) (by simp) b1 rfl).1.resolve_right id
 have S:=S.frz
 have S:=S.frz.reGh
 have S:=S.frz.reGh
 have ha : Above w (((Go.Sh.one b4 [.slice (some ⟨br,0,none⟩) g.tys.length g.tys.length] 67).or (Go.Sh.one br (bs.map (vC n)) 75)).or (Go.Sh.one b1 [.pointer (some ⟨bl,0,none⟩)] 118)):=by
  rintro b o ((⟨rfl,_⟩|⟨rfl,_⟩)|⟨rfl,_⟩)<;>assumption
 have hA : RwsAt (((Go.Sh.one b4 [.slice (some ⟨br,0,none⟩) g.tys.length g.tys.length] 67).or (Go.Sh.one br (bs.map (vC n)) 75)).or (Go.Sh.one b1 [.pointer (some ⟨bl,0,none⟩)] 118)) b4 br bs n:=by
  refine ⟨fun w' hw'=>?_,fun i hi w' hw'=>?_⟩
  ·have B : Blk w' b4 [.slice (some ⟨br,0,none⟩) g.tys.length g.tys.length] 67:=zJ w' (hw'.le (h:=inferInstance))
   rw [hie];exact B.cell 0
  ·have B : Blk w' br (bs.map (vC n)) 75:=zJ w' (hw'.le (h:=inferInstance))
   show w'.cell? ⟨br,i,none⟩=_
   rw [B.cell,List.getElem?_map,List.getElem?_eq_getElem hi];rfl
 have h1 : Ob (((Go.Sh.one b4 [.slice (some ⟨br,0,none⟩) g.tys.length g.tys.length] 67).or (Go.Sh.one br (bs.map (vC n)) 75)).or (Go.Sh.one b1 [.pointer (some ⟨bl,0,none⟩)] 118)) fun w=>w.cell? ⟨b1,0,none⟩=some (.pointer (some ⟨bl,0,none⟩)):=fun w' hw'=>by
  have B : Blk w' b1 [.pointer (some ⟨bl,0,none⟩)] 118:=zJ w' (hw'.le (h:=inferInstance))
  exact B.cell 0
 have hbook : Zn (((Go.Sh.one b4 [.slice (some ⟨br,0,none⟩) g.tys.length g.tys.length] 67).or (Go.Sh.one br (bs.map (vC n)) 75)).or (Go.Sh.one b1 [.pointer (some ⟨bl,0,none⟩)] 118)):=inferInstance
 generalize ((Go.Sh.one b4 [.slice (some ⟨br,0,none⟩) g.tys.length g.tys.length] 67).or (Go.Sh.one br (bs.map (vC n)) 75)).or (Go.Sh.one b1 [.pointer (some ⟨bl,0,none⟩)] 118)=ρ at S ha hA h1 hbook
 clear hb4 hbr hb1
 have S : StX noX w (r.or ρ) _ (xd bs (List.replicate g.tys.length (List.replicate n false))):=S
 generalize hR0 : List.replicate g.tys.length (List.replicate n false)=R0 at S
 refine S.mkSN (by omega) (by omega) fun b46 w11 e11 S=>?_
 rw [Int.toNat_natCast] at S ⊢
 have S:=S.ownNils 3 1 n
 have S : StX noX w (r.or ρ) w11 (.cell b46 (List.replicate n (.slice none 0 0)) 28::(J0 (List.replicate n (.slice none 0 0)) (List.replicate n [])++xd bs R0)):=by
  refine S.permO ?_
  rw [J0,List.zipWith_replicate,Nat.min_self]
  exact List.perm_middle.symm
 refine zg (S.at h1) ?_
 refine gg_ ?_
 refine zg (S.at (hc 7 _ rfl)) ?_
 obtain ⟨pn,capn,hvn,_,_⟩:=hn.sl.shape
 rw [hvn] at hn ⊢
 rw [hlk] at hn ⊢
 refine gg_ ?_
 have hB0:=BfI.start (g:=g)
 rw [hn2] at hB0
 refine zi (ι:=Nat × List Value × List (List Int)) (fun i=>[.int .i64 (i.1 : Nat)]) (fun i w'=>i.1≤n∧i.2.1.length=n∧BfI g i.1 0 i.2.2∧StX noX w (r.or ρ) w' (.cell b46 i.2.1 28::(J0 i.2.1 i.2.2++xd bs R0))) (fun i=>n - i.1) (0,List.replicate n (.slice none 0 0),List.replicate n []) rfl ⟨Nat.zero_le _,List.length_replicate,hB0,S⟩ ?_
 repeat clear S
 clear hB0
 rintro ⟨q,vs,B⟩ d w15 ⟨hq,hvs,hB,S⟩ K12 hK12
 simp only at hq hvs hB S ⊢
 rw [List.getD_cons_zero]
 refine gg_ ?_
 refine zk (fun hlt=>?_) (fun hge=>?_)
 ·have hlt : q<n:=by omega
  obtain ⟨bq,oq,uq,hpn,_,hcq,huq⟩:=Vn hn (i:=q) (by omega)
  have hq' : q<(lkN g).length:=by omega
  have hqN : isN (zh g) (q : Int):=⟨by omega,by omega⟩
  have hnx : (lkN g)[q]=nxt (lkN g) (q : Int):=by rw [nxt,Int.toNat_natCast,List.getD_eq_getElem?_getD,List.getElem?_eq_getElem hq'];rfl
  rw [hnx] at huq
  have hfk:=alB (g:=g) (x:=(q : Int))
  have hNx : ∀ k (hk : k<(nxt (lkN g) (q : Int)).length),isN (zh g) (nxt (lkN g) (q : Int))[k]:=fun k hk=>qC hF.net.ok ((afE hqN).1 (List.getElem_mem hk))
  have hnextB:=fun k B (hB : BfI g q k B) hk=>hB.next hk (hNx k hk)
  have hrowB:=fun B (hB : BfI g q (nxt (lkN g) (q : Int)).length B)=>hB.row (by omega) hfk
  obtain ⟨pu,cu,rfl,_,_⟩:=huq.sl.shape
  rw [hpn]
  refine gg_ ?_
  refine zg (by rw [Int.toNat_natCast];exact S.at hcq) ?_
  refine gg_ ?_
  refine zi (ι:=Nat × List Value × List (List Int)) (fun i=>[.int .i64 (i.1 : Nat)]) (fun i w'=>i.1≤(nxt (lkN g) (q : Int)).length∧i.2.1.length=n∧BfI g q i.1 i.2.2∧StX noX w (r.or ρ) w' (.cell b46 i.2.1 28::(J0 i.2.1 i.2.2++xd bs R0))) (fun i=>(nxt (lkN g) (q : Int)).length - i.1) (0,vs,B) rfl ⟨Nat.zero_le _,hvs,hB,S⟩ ?_
  repeat clear S
  rintro ⟨k,vt,C⟩ d w19 ⟨hk,hvt,hC,S⟩ K16 hK16
  simp only at hk hvt hC S ⊢
  rw [List.getD_cons_zero]
  refine gg_ ?_
  refine zk (fun hltk=>?_) (fun hgek=>?_)
  ·have hltk : k<(nxt (lkN g) (q : Int)).length:=by omega
   obtain ⟨bk,ok,hpk,_,gk⟩:=zY huq.sl hltk
   have hyN:=hNx k hltk
   have hB2:=hnextB k C hC hltk
   have hBy:=(hC.2 _ hyN).2
   generalize (nxt (lkN g) (q : Int))[k]=y at gk hyN hB2 hBy
   have y0:=hyN.1;have y1:=hyN.2
   rw [hn2] at y1
   have hBl:=hC.1
   have hyv : y.toNat<vt.length:=by omega
   have hyB : y.toNat<C.length:=by omega
   have hBe : C.getD y.toNat []=C[y.toNat]:=by rw [List.getD_eq_getElem?_getD,List.getElem?_eq_getElem hyB];rfl
   rw [hBe] at hB2 hBy
   obtain ⟨pp,qq,hsp,hset⟩:=aaQ (f:=fun v l=>Asr.row v 3 1 l.length (ints l)) hyv hyB
   cases hpk
   refine gg_ ?_
   refine zg (by rw [Int.toNat_natCast];exact S.at gk) ?_
   refine gg_ ?_
   refine S.ld (b:=b46) (v:=vt[y.toNat]) ?_ (by rw [Nat.zero_add];exact List.getElem?_eq_getElem hyv)
   refine S.litN (e:=3) (cs:=[.int .i64 (q : Nat)]) (by kernel_rfl) fun b70 w20 S=>?_
   have S : StX noX w (r.or ρ) w20 ((.cell b70 [.int .i64 (q : Nat)] 3 :: .cell b46 vt 28::pp) ++ .row vt[y.toNat] 3 1 C[y.toNat].length (ints C[y.toNat])::(qq++xd bs R0)):=by
    rw [J0,hsp] at S
    simpa using S
   haveI hra : k7 vt[y.toNat] ((.cell b70 [.int .i64 (q : Nat)] 3 :: .cell b46 vt 28::pp) ++ .row vt[y.toNat] 3 1 C[y.toNat].length (ints C[y.toNat])::(qq++xd bs R0)) 3 1 C[y.toNat].length (ints C[y.toNat]) (fun x=>(.cell b70 [.int .i64 (q : Nat)] 3 :: .cell b46 vt 28::pp)++x::(qq++xd bs R0)):=⟨_,_,rfl,fun _=>rfl⟩
   refine StX.apM S (h:=hra) (m':=1) (Sl.blk (S.has (.cell b70 [.int .i64 (q : Nat)] 3) (by simp))) (fun v71 w21 nc _ S=>⟨nc,?_⟩) (by omega)
   have S : StX noX w (r.or ρ) w21 (.cell b46 vt 28::(pp ++ .row v71 3 1 (C[y.toNat] ++ [(q : Int)]).length (ints (C[y.toNat] ++ [(q : Int)]))::(qq++xd bs R0))):=by
    rw [yX,List.length_append]
    exact S.tl
   have h1v : v71.oneCell'=true:=S.row1 (h:=(⟨.cell b46 vt 28::pp,qq++xd bs R0,rfl,fun _=>rfl⟩ : k7 v71 _ 3 1 _ _ (fun x=>.cell b46 vt 28::(pp++x::(qq++xd bs R0))))) v71
   refine gg_ ?_
   refine S.stN' (b:=b46) (fun w22 S=>?_) (by omega) h1v
   rw [Nat.zero_add] at S
   refine gg_ ?_
   refine hK16 (k+1,vt.set y.toNat v71,C.set y.toNat (C[y.toNat] ++ [(q : Int)])) _ ⟨hltk,by show (vt.set y.toNat v71).length=n;rw [List.length_set];exact hvt,hB2,?_⟩ (by show (nxt (lkN g) (q : Int)).length - (k+1)<(nxt (lkN g) (q : Int)).length - k;omega)
   show StX noX w (r.or ρ) w22 (.cell b46 (vt.set y.toNat v71) 28::(J0 (vt.set y.toNat v71) (C.set y.toNat (C[y.toNat] ++ [(q : Int)]))++xd bs R0))
   rw [J0,hset,List.append_assoc]
   exact S
  ·have hke : k=(nxt (lkN g) (q : Int)).length:=by omega
   subst hke
   refine gg_ ?_
   exact hK12 (q+1,vt,C) _ ⟨hlt,hvt,hrowB C hC,S⟩ (by show n - (q+1)<n - q;omega)
 have hqe : q=n:=by omega
 clear hK12 K12 hge hq d
 subst hqe
 have hBend:=fun p x hp=>(hn2 ▸ hB : BfI g (zh g).length 0 B).end (p:=p) (x:=x) hp
 have hBf:=fun p hp=>(hB.2 p hp).2
 have hBl:=hB.1
 rw [hn2] at hBl
 have S : StX noX w (r.or ρ) w15 (J0 vs B++(.cell b46 vs 28::xd bs R0)):=S.permO List.perm_middle
 obtain ⟨s2,S,ha2,hs2⟩:=StX.frzRows (sz:=1) (R:=zH) (C:=ints) (by decide) (fun l=>yk) (by omega) S
 have ha2 : Above w s2:=fun b o ho=>(ha2 b o ho).resolve_right id
 have hb46:=(S.mine (.cell b46 vs 28) (by simp) b46 rfl).1.resolve_right id
 have S:=S.reGh.frz.reGh
 have B46 : Blk w15 b46 vs 28:=S.holds.le (r:=Go.Sh.one b46 vs 28) b46 _ ⟨rfl,rfl⟩
 have hbef : NetG (s2.or (Go.Sh.one b46 vs 28)) (.slice (some ⟨b46,0,none⟩) q q) B:=by
  have hrow : RowOf 1 (RowC (s2.or (Go.Sh.one b46 vs 28))) vs B:=⟨by omega,fun i hi=>by
   rw [Nat.mul_one,List.drop_eq_getElem_cons (by omega : i<vs.length)]
   exact ⟨vs[i],rfl,(hs2 i (by omega) hi).cells,by
    have:=hBf (i : Nat) ⟨by omega,by omega⟩
    rw [Int.toNat_natCast,List.getD_eq_getElem?_getD,List.getElem?_eq_getElem hi] at this
    have this : B[i].length≤2*q+0:=this
    rw [maxLen];omega⟩⟩
  have:=alu (w:=w15) hrow (by decide) B46
  rw [hBl] at this
  exact ⟨this.cells,by rw [maxLen];omega⟩
 have ha3 : Above w ((ρ.or s2).or (Go.Sh.one b46 vs 28)):=(ha.or' ha2).or' (by rintro b o ⟨rfl,_⟩;exact hb46)
 have hA:=hA.up (σ:=(ρ.or s2).or (Go.Sh.one b46 vs 28))
 have h1:=h1.up (s:=(ρ.or s2).or (Go.Sh.one b46 vs 28))
 have hbef:=hbef.up (s:=(ρ.or s2).or (Go.Sh.one b46 vs 28))
 have hA0 : RwsAt ρ b4 br bs q:=by assumption
 have leρ : Le ρ ((ρ.or s2).or (Go.Sh.one b46 vs 28)):=inferInstance
 have hx1:=hx0.up (s:=r.or ((ρ.or s2).or (Go.Sh.one b46 vs 28)))
 generalize (ρ.or s2).or (Go.Sh.one b46 vs 28)=σ at S ha3 hA h1 hbef leρ hx1
 clear hs2 B46
 refine S.alN fun b11 w23 _ S=>?_
 refine gp_ ?_
 refine S.alN fun b12 w24 _ S=>?_
 refine S.stN' (b:=b12) fun w25 S=>?_
 have S : StX noX w (r.or σ) w25 (.cell b12 [.func (.func Tryz.zF) #[] #[.pointer (some ⟨b4,0,none⟩),.pointer (some ⟨b11,0,none⟩)]] 160 :: .cell b11 [.slice none 0 0] 157::xd bs R0):=S
 have hb12:=(S.mine _ List.mem_cons_self b12 rfl).1.resolve_right id
 have S:=S.frz.reGh
 have h12 : Ob (σ.or (Go.Sh.one b12 [.func (.func Tryz.zF) #[] #[.pointer (some ⟨b4,0,none⟩),.pointer (some ⟨b11,0,none⟩)]] 160)) fun w=>w.cell? ⟨b12,0,none⟩=some (.func (.func Tryz.zF) #[] #[.pointer (some ⟨b4,0,none⟩),.pointer (some ⟨b11,0,none⟩)]):=fun w' hw'=>by
  have B : Blk w' b12 [.func (.func Tryz.zF) #[] #[.pointer (some ⟨b4,0,none⟩),.pointer (some ⟨b11,0,none⟩)]] 160:=zJ w' (hw'.le (h:=inferInstance))
  exact B.cell 0
 have ha4 : Above w (σ.or (Go.Sh.one b12 [.func (.func Tryz.zF) #[] #[.pointer (some ⟨b4,0,none⟩),.pointer (some ⟨b11,0,none⟩)]] 160)):=ha3.or' (by rintro b o ⟨rfl,_⟩;exact hb12)
 have leτ : Le ρ (σ.or (Go.Sh.one b12 [.func (.func Tryz.zF) #[] #[.pointer (some ⟨b4,0,none⟩),.pointer (some ⟨b11,0,none⟩)]] 160)):=inferInstance
 have hA:=hA.up (σ:=σ.or (Go.Sh.one b12 [.func (.func Tryz.zF) #[] #[.pointer (some ⟨b4,0,none⟩),.pointer (some ⟨b11,0,none⟩)]] 160))
 have h1:=h1.up (s:=σ.or (Go.Sh.one b12 [.func (.func Tryz.zF) #[] #[.pointer (some ⟨b4,0,none⟩),.pointer (some ⟨b11,0,none⟩)]] 160))
 have hbef:=hbef.up (s:=σ.or (Go.Sh.one b12 [.func (.func Tryz.zF) #[] #[.pointer (some ⟨b4,0,none⟩),.pointer (some ⟨b11,0,none⟩)]] 160))
 have hx1:=hx0.up (s:=r.or (σ.or (Go.Sh.one b12 [.func (.func Tryz.zF) #[] #[.pointer (some ⟨b4,0,none⟩),.pointer (some ⟨b11,0,none⟩)]] 160)))
 generalize σ.or (Go.Sh.one b12 [.func (.func Tryz.zF) #[] #[.pointer (some ⟨b4,0,none⟩),.pointer (some ⟨b11,0,none⟩)]] 160)=τ at S ha4 hA h1 hbef leτ hx1 h12
 clear ha3 leρ hb12
 have S:=S.ownNil 159 2
 have hWk0 : Wk g (fun x q'=>Usd g x q') (fun _ _ _=>False) R0 []:=by
  rw [← hR0,← hn2];exact Wk.start
 have hoff : ([] : List (Int × Int)).length+xD R0≤1000000:=by
  have e : xD R0=g.tys.length*q:=by
   rw [xD,← hR0,List.map_replicate,akB];simp
  rw [e,List.length_nil,Nat.zero_add]
  exact Nat.le_trans (Nat.mul_le_mul hmf hnf) (by decide)
 have S : StX noX w (r.or τ) w25 (lwL b11 bs (.slice none 0 0) (R0,[])):=S
 refine zi (ι:=Nat × Value × (xc × List (Int × Int))) (fun i=>[.int .i64 (i.1 : Nat)]) (fun i w'=>i.1≤q∧Wk g (fun x q'=>Usd g x q'∧(i.1 : Int)≤q') (fun _ _ _=>False) i.2.2.1 i.2.2.2∧i.2.2.2.length+xD i.2.2.1≤1000000∧StX noX w (r.or τ) w' (lwL b11 bs i.2.1 i.2.2)) (fun i=>q - i.1) (0,.slice none 0 0,(R0,[])) rfl ⟨Nat.zero_le _,hWk0.mono (fun x q' _ hq' _ hu=>.inl ⟨hu,hq'.1⟩) (fun _ _ _ _ _ _ _ h=>h.elim),hoff,S⟩ ?_
 repeat clear S
 clear hWk0 hoff hR0
 rintro ⟨i,vl,st⟩ d w29 ⟨hi,hW,hoff,S⟩ K26 hK26
 simp only at hi hW hoff S ⊢
 rw [List.getD_cons_zero]
 refine gg_ ?_
 refine zk (fun hlt=>?_) (fun hge=>?_)
 ·have hlt : i<q:=by omega
  have hqN : isN (zh g) (i : Int):=⟨by omega,by omega⟩
  obtain ⟨p,hp,hpm,hue,hee⟩:=Qw hqN
  have hul : ∀ x ∈ zI p,isL g x∧Lvd g x i:=fun x hx=>⟨hF.loc.uses p hpm x hx,.use hqN (by rw [Usd,hue];exact hx)⟩
  have hRl:=hW.len
  have hbl : bs.length=g.tys.length:=hie
  refine S.alN fun b13 w30 _ S=>?_
  refine S.stN' (b:=b13) fun w31 S=>?_
  have S : StX noX w (r.or τ) w31 (.cell b13 [.int .i64 (i : Nat)] 3::lwL b11 bs vl st):=S
  have S:=S.frz
  have h13 : Ob ((r.or τ).or (Go.Sh.one b13 [.int .i64 (i : Nat)] 3)) fun w=>w.cell? ⟨b13,0,none⟩=some (.int .i64 (i : Nat)):=fun w' hw'=>by
   have B : Blk w' b13 [.int .i64 (i : Nat)] 3:=zJ w' (hw'.le (h:=inferInstance))
   exact B.cell 0
  have h1':=h1.up (s:=(r.or τ).or (Go.Sh.one b13 [.int .i64 (i : Nat)] 3))
  have h12':=h12.up (s:=(r.or τ).or (Go.Sh.one b13 [.int .i64 (i : Nat)] 3))
  have hA':=hA.up (σ:=(r.or τ).or (Go.Sh.one b13 [.int .i64 (i : Nat)] 3))
  have hx':=hx1.up (s:=(r.or τ).or (Go.Sh.one b13 [.int .i64 (i : Nat)] 3))
  have leυ : Le (r.or τ) ((r.or τ).or (Go.Sh.one b13 [.int .i64 (i : Nat)] 3)):=inferInstance
  generalize (r.or τ).or (Go.Sh.one b13 [.int .i64 (i : Nat)] 3)=υ at S h13 h1' h12' hA' hx' leυ
  have hw31 : w.heap.size≤w31.heap.size:=S.x.size
  have hlow31:=S.low
  refine gp_ ?_
  refine al3 ((zI p).map aem) (xY (lwL b11 bs vl st)) (fun k D W=>∃ vl st,D=xY (lwL b11 bs vl st)∧Wk g (fun x q'=>Usd g x q'∧((i : Int)<q'∨(q'=i∧x ∉ (zI p).take k))) (fun _ _ _=>False) st.1 st.2∧st.2.length+xD st.1≤1000000∧StX noX w υ W (lwL b11 bs vl st))
   (aeJ S) (adx (by kernel_rfl) (fun h=>Tryz.Q3 h) S.holds hx' h1' h13 hqN.1 hp (hF.args p hpm) (fun d hd=>⟨S.dlt hd,fun o=>?_⟩)) ?_ ?_ ⟨vl,st,rfl,hW.mono (fun x q' _ hq' _ hu=>.inl ⟨hu.1,?_⟩) (fun _ _ _ _ _ _ _ h=>h.elim),hoff,S⟩ ?_ ?_
  ·obtain ⟨y,hy,hdy⟩:=xZ.1 hd
   exact (S.mine y hy d hdy).2 o
  ·intro y hy
   obtain ⟨z,_,rfl⟩:=List.mem_map.1 hy
   rfl
  ·rintro k D W W' ⟨vl,st,h1,h2,h3,S⟩ e
   exact ⟨vl,st,h1,h2,h3,S.nl e hw31⟩
  ·have:=hu.2
   by_cases e : q'=i
   ·exact .inr ⟨e,by simp⟩
   ·exact .inl (by omega)
  ·clear S hW hoff
   rintro k y D W hy ⟨vl,st,rfl,hW,hoff,S⟩ KR hN
   rw [List.getElem?_map,Option.map_eq_some_iff] at hy
   obtain ⟨z,hz,rfl⟩:=hy
   obtain ⟨hk,hze⟩:=List.getElem?_eq_some_iff.1 hz
   obtain ⟨hzL,hzl⟩:=hul z (List.mem_of_getElem? hz)
   refine ⟨.refl _,fun W9 e9=>?_⟩
   have hsz:=e9.size
   have S:=S.nl e9 hw31
   rw [List.getD_cons_zero]
   refine zg (S.at h12') ?_
   refine zg (S.at h13) ?_
   refine aj6 (by kernel_rfl) ?_
   have z0:=hzL.1;have z1:=hzL.2
   have hWl:=hW.len
   obtain ⟨hW2,hm2,hk2,hs2⟩:=hW.add hzL hqN hzl
   refine ab6 S hA' ⟨z0,by omega⟩ ⟨hqN.1,by omega⟩ (by omega) (by rw [hW.rlen z hzL,hn2]) (by omega) fun vl' w' nc R=>⟨nc,R.x,?_⟩
   refine hN (xY (lwL b11 bs vl' (kG st ((i : Int),z)))) _ (fun d hd=>?_) ⟨vl',kG st ((i : Int),z),rfl,?_,?_,S.whole R fun _ h=>h⟩
   ·obtain ⟨y,hy,hdy⟩:=xZ.1 hd
    rcases (R.mine y hy d hdy).1 with h1|h1
    ·exact .inr ⟨by omega,R.dlt hd⟩
    ·exact .inl h1
   ·refine hW2.mono (fun x q' hxL hq' _ hu=>?_) (fun _ _ _ _ _ _ _ h=>h.elim)
    rcases hu.2 with h|⟨h,h2⟩
    ·exact .inl ⟨hu.1,.inl h⟩
    ·subst h
     by_cases e : x=z
     ·subst e;exact .inr hm2
     ·refine .inl ⟨hu.1,.inr ⟨rfl,?_⟩⟩
      rw [List.take_succ_eq_append_getElem hk,List.mem_append,List.mem_singleton,hze]
      exact fun h=>h.elim h2 e
   ·have hs2 : (kG st ((i : Int),z)).2.length+xD (kG st ((i : Int),z)).1=st.2.length+xD st.1:=hs2
    omega
  ·clear S hW hoff
   rintro D W ⟨vl,st,rfl,hW,hoff,S⟩
   rw [List.length_map,List.take_length] at hW
   refine gg_ ?_
   refine hK26 (i+1,vl,st) _ ⟨hlt,hW.mono (fun x q' _ hq' hu1 hu=>?_) (fun _ _ _ _ _ _ _ h=>h.elim),hoff,S.to _⟩ (by show q - (i+1)<q - i;omega)
   rcases hu.2 with h|⟨rfl,h2⟩
   ·exact .inl ⟨hu.1,by show ((i+1 : Nat) : Int)≤q';omega⟩
   ·exfalso
    rw [Usd,hue] at hu1
    exact h2 hu1
 have hie2 : i=q:=by omega
 clear hK26 K26 hge hi d
 have hW : Wk g (fun _ _=>False) (fun _ _ _=>False) st.1 st.2:=hW.mono (fun x q' _ hq' _ hu=>by have h2:=hu.2;have:=hq'.2;omega) (fun _ _ _ _ _ _ _ h=>h.elim)
 have hx2:=hx0.up (s:=r.or τ)
 refine zg (S.at h1) ?_
 refine gp_ ?_
 refine zi (ι:=Value × (xc × List (Int × Int))) (fun _=>[]) (fun i w'=>Wk g (fun _ _=>False) (fun _ _ _=>False) i.2.1 i.2.2∧i.2.2.length+xD i.2.1≤1000000∧StX noX w (r.or τ) w' (lwL b11 bs i.1 i.2)) (fun i=>i.2.2.length+xD i.2.1) (vl,st) rfl ⟨hW,hoff,S⟩ ?_
 repeat clear S
 clear hW hoff
 rintro ⟨vk,st⟩ d w44 ⟨hW,hoff,S⟩ K41 hK41
 simp only at hW hoff S ⊢
 obtain ⟨R,T⟩:=st
 simp only at hW hoff S
 refine S.ld (b:=b11) ?_
 obtain ⟨pk,ck,hvk,hpk,hck,hxk,hslk⟩:=S.rowS vk
 rw [hvk] at S ⊢
 dsimp only at hck hxk hslk ⊢
 have S : StX noX w (r.or τ) w44 (.row (.slice pk T.length ck) 159 2 T.length (qN T) :: .cell b11 [.slice pk T.length ck] 157::xd bs R):=S
 refine gg_ ?_
 refine zk (fun hgt=>?_) (fun hle=>?_)
 ·have hT : T≠[]:=fun e=>by rw [e] at hgt;simp at hgt
  obtain ⟨T',w0',rfl⟩ : ∃ T' w0',T=T' ++ [w0']:=⟨T.dropLast,T.getLast hT,(List.dropLast_concat_getLast hT).symm⟩
  obtain ⟨q0,x0⟩:=w0'
  obtain ⟨hWp,hxL,hq0N,hlv⟩:=hW.pop
  have q00:=hq0N.1;have q01:=hq0N.2
  rw [hn2] at q01
  refine S.ld (b:=b11) ?_
  refine S.ld (b:=b11) ?_
  refine gg_ ?_
  have hTl : ((T' ++ [(q0,x0)]).length : Int) - 1=(T'.length : Nat):=by simp
  have hTn : (T' ++ [(q0,x0)]).length=T'.length+1:=by simp
  rw [Qs] at hslk
  have hc2:=ahJ T'
  obtain ⟨bk,ok,rfl⟩ : ∃ b o,pk=some ⟨b,o,none⟩:=by
   obtain ⟨b,o,hb,_⟩:=hslk (T'.length*2) (.int .i64 q0) (by rw [List.getElem?_append_right (by omega),hc2,Nat.sub_self];rfl)
   exact ⟨b,o,hb⟩
  have hel : ∀ j u,[Value.int .i64 q0,.int .i64 x0][j]? = some u→w44.cell? ⟨bk,ok+T'.length*2+j,none⟩=some u:=fun j u hj=>by
   obtain ⟨b,o,hb,hcl⟩:=hslk (T'.length*2+j) u (by rw [List.getElem?_append_right (by omega),hc2,Nat.add_sub_cancel_left];exact hj)
   cases hb
   rw [Nat.add_assoc]
   exact hcl
  rw [hTl]
  refine gg_ ?_
  refine zq (n:=2) rfl (fun j u hj=>by rw [Int.toNat_natCast];exact hel j u hj) ?_
  refine S.alN fun b16 w45 _ S=>?_
  refine S.stBN (b:=b16) fun w46 S=>?_
  have S : StX noX w (r.or τ) w46 (.cell b16 [.int .i64 q0,.int .i64 x0] 159 :: .row (.slice (some ⟨bk,ok,none⟩) (T' ++ [(q0,x0)]).length ck) 159 2 (T' ++ [(q0,x0)]).length (qN (T' ++ [(q0,x0)])) :: .cell b11 [.slice (some ⟨bk,ok,none⟩) (T' ++ [(q0,x0)]).length ck] 157::xd bs R):=S
  refine S.ld (b:=b11) ?_
  refine S.ld (b:=b11) ?_
  refine gg_ ?_
  rw [hTl]
  refine gg_ ?_
  refine S.stN' (b:=b11) fun w47 S=>?_
  have S:=StX.cutRow (p:=some ⟨bk,ok,none⟩) (cap:=ck) (m:=(T' ++ [(q0,x0)]).length) (n:=T'.length) S (show T'.length≤(T' ++ [(q0,x0)]).length by omega)
  rw [Qs,List.take_append_of_le_length (by omega),List.take_of_length_le (by omega),Int.toNat_natCast] at S
  have S : StX noX w (r.or τ) w47 (.cell b16 [.int .i64 q0,.int .i64 x0] 159::lwL b11 bs (.slice (some ⟨bk,ok,none⟩) T'.length ck) (R,T')):=S
  have S:=S.frz
  have h16 : ∀ j u,[Value.int .i64 q0,.int .i64 x0][j]? = some u→Ob ((r.or τ).or (Go.Sh.one b16 [.int .i64 q0,.int .i64 x0] 159)) fun w=>w.cell? ⟨b16,j,none⟩=some u:=fun j u hj w' hw'=>by
   have B : Blk w' b16 [.int .i64 q0,.int .i64 x0] 159:=zJ w' (hw'.le (h:=inferInstance))
   show w'.cell? ⟨b16,j,none⟩=some u
   rw [B.cell]
   exact hj
  have h12':=h12.up (s:=(r.or τ).or (Go.Sh.one b16 [.int .i64 q0,.int .i64 x0] 159))
  have hA':=hA.up (σ:=(r.or τ).or (Go.Sh.one b16 [.int .i64 q0,.int .i64 x0] 159))
  have hx':=hx2.up (s:=(r.or τ).or (Go.Sh.one b16 [.int .i64 q0,.int .i64 x0] 159))
  have hbef':=hbef.up (s:=(r.or τ).or (Go.Sh.one b16 [.int .i64 q0,.int .i64 x0] 159))
  have leυ : Le (r.or τ) ((r.or τ).or (Go.Sh.one b16 [.int .i64 q0,.int .i64 x0] 159)):=inferInstance
  generalize (r.or τ).or (Go.Sh.one b16 [.int .i64 q0,.int .i64 x0] 159)=υ at S h16 h12' hA' hx' hbef' leυ
  clear hel hslk hxk
  obtain ⟨bb,ob,ub,hpb,_,hcb,hub⟩:=Vn hbef' (i:=q0.toNat) (by omega)
  cases hpb
  have hBg : B.getD q0.toNat []=B[q0.toNat]'(by omega):=by rw [List.getD_eq_getElem?_getD,List.getElem?_eq_getElem (by omega)];rfl
  have hBm:=fun x=>hBend q0 x hq0N
  have hBq:=hBf q0 hq0N
  rw [hBg] at hBm hBq
  generalize B[q0.toNat]'(by omega)=A at hub hBm hBq
  obtain ⟨pA,cA,rfl,_,_⟩:=hub.sl.shape
  refine gg_ ?_
  refine zg (S.at (h16 0 _ rfl)) ?_
  refine gg_ ?_
  refine zg (S.at hcb) ?_
  refine gg_ ?_
  refine zi (ι:=Nat × Value × (xc × List (Int × Int))) (fun i=>[.int .i64 (i.1 : Nat)]) (fun i w'=>i.1≤A.length∧Wk g (fun _ _=>False) (fun y p q=>y=x0∧p=q0∧q ∈ A.drop i.1) i.2.2.1 i.2.2.2∧i.2.2.2.length+xD i.2.2.1=T'.length+xD R∧StX noX w υ w' (lwL b11 bs i.2.1 i.2.2)) (fun i=>A.length - i.1) (0,.slice (some ⟨bk,ok,none⟩) T'.length ck,(R,T')) rfl ⟨Nat.zero_le _,hWp.mono (fun _ _ _ _ _ h=>h.elim) (fun y p q _ _ _ _ h=>.inl ⟨h.1,h.2.1,(hBm q).2 h.2.2⟩),rfl,S⟩ ?_
  repeat clear S
  rintro ⟨k,vj,st⟩ d w51 ⟨hk,hWi,hsum,S⟩ K48 hK48
  simp only at hk hWi hsum S ⊢
  rw [List.getD_cons_zero]
  refine gg_ ?_
  refine zk (fun hltk=>?_) (fun hgek=>?_)
  ·have hltk : k<A.length:=by omega
   obtain ⟨bA,oA,hpA,_,gA⟩:=zY hub.sl hltk
   obtain ⟨hq1N,hq1n⟩:=X5.1 ((hBm _).1 (List.getElem_mem hltk))
   have hdr : A.drop k=A[k]::A.drop (k+1):=List.drop_eq_getElem_cons hltk
   generalize A[k]=q1 at gA hq1N hq1n hdr
   have q10:=hq1N.1;have q11:=hq1N.2
   rw [hn2] at q11
   obtain ⟨p1,hp1,hpm1,hue1,hee1⟩:=Qw hq1N
   refine zp (fun _ w'=>∃ (vj : Value) (st : xc × List (Int × Int)),Wk g (fun _ _=>False) (fun y p q=>y=x0∧p=q0∧q ∈ A.drop (k+1)) st.1 st.2∧st.2.length+xD st.1=T'.length+xD R∧StX noX w υ w' (lwL b11 bs vj st)) (fun K52 hK52=>?_) ?_
   ·cases hpA
    refine gg_ ?_
    refine zg (by rw [Int.toNat_natCast];exact S.at gA) ?_
    refine kJ (by kernel_rfl) ?_
    show zd _ _ #[.pointer (some ⟨bl,0,none⟩),.int .i64 q1] _ _
    refine Zj S.holds hx' q10 hp1 (hF.args p1 hpm1) fun w56 e56=>⟨NC.of_ext e56,?_⟩
    have S:=S.go e56
    refine gS_ ?_
    refine zf (c:=decide ((y6 p1).getD 0=x0)) (fun _ K2 hK2=>?_) ?_
    ·refine gg_ ?_
     refine zg (S.at (h16 1 _ rfl)) ?_
     refine gg_ ?_
     exact hK2
    have hcE : ((y6 p1).isSome&&decide ((y6 p1).getD 0=x0))=decide (y6 p1=some x0):=by cases y6 p1<;>simp
    rw [hcE]
    refine zk (fun hE=>?_) (fun hE=>?_)
    ·refine hK52 _ _ ⟨vj,st,hWi.mono (fun _ _ _ _ _ h=>h.elim) (fun y p q _ _ _ hne h=>?_),hsum,S⟩
     obtain ⟨rfl,rfl,hm⟩:=h
     rw [hdr] at hm
     rcases List.mem_cons.1 hm with rfl|hm
     ·exact absurd (show JO g q=some y by rw [hee1];exact hE) hne
     ·exact .inl ⟨rfl,rfl,hm⟩
    ·have hne : ¬ zD g x0 q1:=fun h=>hE (by rw [← hee1];exact h)
     have hWl:=hWi.len
     have x00:=hxL.1;have x01:=hxL.2
     obtain ⟨hW2,hm2,hk2,hs2⟩:=hWi.add hxL hq1N (.step hq1N hne hq1n hlv)
     have hs2 : (kG st (q1,x0)).2.length+xD (kG st (q1,x0)).1=st.2.length+xD st.1:=hs2
     rw [hTn] at hoff
     refine zg (S.at h12') ?_
     refine gg_ ?_
     refine zg (S.at (h16 1 _ rfl)) ?_
     refine aj6 (by kernel_rfl) ?_
     refine ab6 S hA' ⟨x00,by omega⟩ ⟨q10,by omega⟩ (by omega) (by rw [hWi.rlen x0 hxL,hn2]) (by omega) fun vl' w' nc R2=>⟨nc,?_⟩
     refine hK52 _ _ ⟨vl',kG st (q1,x0),hW2.mono (fun _ _ _ _ _ h=>h.elim) (fun y p q _ _ _ _ h=>?_),by omega,S.whole R2 fun _ h=>h⟩
     obtain ⟨rfl,rfl,hm⟩:=h
     rw [hdr] at hm
     rcases List.mem_cons.1 hm with rfl|hm
     ·exact .inr hm2
     ·exact .inl ⟨rfl,rfl,hm⟩
   rintro _ w55 ⟨vj',st',hW',hsum',S'⟩ d
   refine gg_ ?_
   exact hK48 (k+1,vj',st') _ ⟨hltk,hW',hsum',S'⟩ (by show A.length - (k+1)<A.length - k;omega)
  ·have hke : k=A.length:=by omega
   subst hke
   refine hK41 (vj,st) _ ⟨hWi.mono (fun _ _ _ _ _ h=>h.elim) (fun y p q _ _ _ _ h=>by have:=h.2.2;rw [List.drop_length] at this;cases this),by show st.2.length+xD st.1≤1000000;rw [hTn] at hoff;omega,S.to _⟩ (by show st.2.length+xD st.1<(T' ++ [(q0,x0)]).length+xD R;omega)
 ·have hT : T = []:=List.eq_nil_of_length_eq_zero (by omega)
  subst hT
  have hRe : R=lvR g:=akD hF.net.ok hW
  subst hRe
  refine zg (S.at hA.hd) ?_
  intro w62 e62
  have S:=S.to (r.or ρ)
  have S:=(S.shut e62).tl.tl
  have hRL:=vY (g:=g)
  obtain ⟨s,S,has,hBs⟩:=StX.frzCells (e:=4) (C:=bls) (bs:=bs) (R:=lvR g) (L:=[]) (by omega) (by rw [List.append_nil];exact S)
  have S:=S.reGh
  have has : Above w s:=fun b o ho=>(has b o ho).resolve_right id
  refine h _ (ρ.or s) _ S.ext (StX.newOf (q:=ρ.or s) S (ha.or' has)) ⟨some ⟨br,0,none⟩,bs.length,by rw [hRL,hie],fun h=>(by cases h),by omega,fun j hj=>?_⟩
  have hjb : j<bs.length:=by omega
  refine ⟨[vC q bs[j]],rfl,fun k u hk=>?_,vC q bs[j],rfl,?_,?_⟩
  ·cases k with
   |zero=>
    cases hk
    refine ⟨br,0,rfl,?_⟩
    have:=(hA0.at' j hjb).up (s:=ρ.or s)
    simpa using this
   |succ k=>cases hk
  ·have hm : ((lvR g)[j]).length=q:=by rw [YM,qT,hn2]
   have:=aid.sl (r:=s) (p:=some ⟨bs[j],0,none⟩) (cap:=q) (by simp) (by omega) (fun w' hw'=>Sl.blk (hBs j hjb hj w' hw')) (by decide) ⟨_,S.holds.le (h:=inferInstance)⟩
   rw [hm] at this
   exact this.cells
  ·have hm : ((lvR g)[j]).length=q:=by rw [YM,qT,hn2]
   rw [hm,maxLen];omega
end Go.Proofs
end
section
namespace Go.Proofs
open Go.Sh Go.RowKit
set_option maxRecDepth 100000
set_option linter.unusedSimpArgs false
set_option linter.unusedVariables false
theorem agJ {r : Gh} {p : Option Addr} {k cap : Nat} {R : xc} (h : SlG 1 r (aka r) (.slice p k cap) R) {i : Nat} (hi : i<R.length) : ∃ b off v,p=some ⟨b,off,none⟩∧k=R.length∧(Ob r fun w=>w.cell? ⟨b,off+i,none⟩=some v)∧SlB 1 r ahh v R[i]:=by
 obtain ⟨b,off,c,hE,hc,hcc,hcl⟩:=h.get (by decide) hi
 obtain ⟨v,rfl,hv⟩:=hcc
 exact ⟨b,off,v,hE,h.len,by have:=hcl 0 v rfl;simpa using this,hv⟩
theorem aaR {u : UnD} {n q : Int} {g : GrD} (hE : fnE u n=0) (hnu : netU u n=zh g) : okQ u n q=decide (isN (zh g) q):=by rw [okQ,hE,hnu];simp
set_option maxHeartbeats 1000000 in
theorem aik {u : UnD} {n q : Int} {v : Value} {w : World} {r : Gh} {K : Value→World→Prop} (hr : Holds r w) (hu : UnG r v u)
  (h : ∀ v' s w',Ext w w'→New w s w'→SlG 1 s zH v' (if okQ u n q=true then (match u.fs[n.toNat]? with|some g=>ajv g q|none=>[]) else [])→K (.tuple #[v',.int .i64 (if okQ u n q=true then 0 else 2)]) w') : zd Tryz.prog Tryz.JS #[v,.int .i64 n,.int .i64 q] w K:=by
 refine Tryz.ahl ?_
 unfold Tryz.adw
 have hu0:=hu
 obtain ⟨p0,cap0,vf,rfl,_,_,hst,hsl,hfn⟩:=hu
 obtain ⟨qf,capf,rfl,_,_⟩:=hfn.sl.shape
 have S:=St.start hr
 refine S.box fun b3 w1 S=>?_
 have S : StX noX w r w1 [.cell b3 [.slice p0 u.ss.length cap0,.slice qf u.fs.length capf,.int .i64 u.mn] 25]:=S
 refine S.ldB (b:=b3) ?_ rfl
 refine jX S.holds hu0 fun vx s w2 e2 n2 hg hz=>?_
 obtain ⟨S,_,_⟩:=S.tell e2 n2
 refine gS_ ?_
 refine zj (c:=!okQ u n q) (fun hb K2 hK2=>?_) ?_
 ·have hE : fnE u n=0:=by simpa using hb
  obtain ⟨g,hgi,hnu,hx⟩:=hg hE
  refine vB S.holds hx ?_
  refine gp_ ?_
  rw [aaR hE hnu] at hK2
  exact hK2
 refine c_b (fun hb=>?_) (fun hb=>?_)
 ·have hok : okQ u n q=false:=by
   by_cases hE : fnE u n=0
   ·simpa [hE] using hb
   ·rw [okQ,decide_eq_true hE];rfl
  rw [hok] at h
  exact h _ nothing _ S.ext New.nothing SlG.nil
 simp only [Bool.or_eq_false_iff,decide_eq_false_iff_not,Decidable.not_not,Bool.not_eq_false'] at hb
 obtain ⟨hE,hok⟩:=hb
 obtain ⟨g,hgi,hnu,hx⟩:=hg hE
 have hqN:=(JZ hok).2
 rw [hnu] at hqN
 have q0:=hqN.1;have q1:=hqN.2
 have hF:=kI hE hgi
 have hmf:=hF.loc.few
 simp only [hok,if_true,hgi] at h
 have S:=S.tl
 rw [hE]
 refine V5 S.holds hx hF fun vr s5 w5 e5 n5 hR=>?_
 obtain ⟨S,_,_⟩:=S.tell e5 n5
 obtain ⟨pr,cr,rfl,_,_⟩:=hR.shape
 have hRl:=vY (g:=g)
 have hcl:=aju (g:=g) (q:=q)
 have S:=S.ownNil 3 1
 have S : StX noX w ((r.or s).or s5) w5 [.row (.slice none 0 0) 3 1 (mkd ((jd g q).take 0)).length (ints (mkd ((jd g q).take 0)))]:=S
 refine gg_ ?_
 refine zi (ι:=Nat × Value) (fun i=>[i.2,.int .i64 (i.1 : Nat)]) (fun i w'=>i.1≤(lvR g).length∧StX noX w ((r.or s).or s5) w' [.row i.2 3 1 (mkd ((jd g q).take i.1)).length (ints (mkd ((jd g q).take i.1)))]) (fun i=>(lvR g).length - i.1) (0,.slice none 0 0) rfl ⟨Nat.zero_le _,S⟩ ?_
 repeat clear S
 rintro ⟨i,vl⟩ d w12 ⟨hi,S⟩ K9 hK9
 simp only at hi S ⊢
 simp only [List.getD_cons_zero,List.getD_cons_succ]
 refine gg_ ?_
 refine zk (fun hlt=>?_) (fun hge=>?_)
 ·have hlt : i<(lvR g).length:=by omega
  have hic : i<(jd g q).length:=by omega
  obtain ⟨bi,oi,vi,hpi,_,hci,hvi⟩:=agJ hR hlt
  have hsn:=aaN hic
  have hcm : (jd g q)[i]=mk' (lvR g)[i] q:=by rw [YM];simp [jd]
  have hml : (lvR g)[i].length=(zh g).length:=by rw [YM,qT]
  generalize (lvR g)[i]=m at hvi hcm hml
  obtain ⟨pm,cm,rfl,_,_⟩:=hvi.sl.shape
  obtain ⟨bm,om,hpm,_,gm⟩:=agC hvi.sl (i:=q.toNat) (by omega)
  have hmq : m[q.toNat]'(by omega)=mk' m q:=by rw [mk',List.getD_eq_getElem?_getD,List.getElem?_eq_getElem (by omega)];rfl
  rw [hmq,← hcm] at gm
  have hfl : (mkd ((jd g q).take i)).length≤512:=by
   have:=akJ (m:=(jd g q).take i)
   rw [List.length_take] at this
   omega
  rw [hpi]
  refine zp (fun x w'=>∃ vl',x = [vl']∧StX noX w ((r.or s).or s5) w' [.row vl' 3 1 (mkd ((jd g q).take (i+1))).length (ints (mkd ((jd g q).take (i+1))))]) (fun K13 hK13=>?_) ?_
  ·refine gg_ ?_
   refine zg (by rw [Int.toNat_natCast];exact S.at hci) ?_
   rw [hpm]
   refine gg_ ?_
   refine zg (S.at gm) ?_
   rw [hsn] at hK13
   refine c_b (fun hb=>?_) (fun hb=>?_)
   ·rw [if_pos hb] at hK13
    refine S.lit (e:=3) (cs:=[.int .i64 (i : Nat)]) (by kernel_rfl) fun b9 w13 S=>?_
    refine S.ap (v:=vl) (m':=1) (Sl.blk (S.blk b9)) (fun v4 w14 S=>?_) (by omega)
    refine hK13 _ _ ⟨v4,rfl,?_⟩
    rw [List.length_append,yX]
    exact S.drop b9
   ·rw [if_neg (by rw [hb];decide),List.append_nil] at hK13
    exact hK13 _ _ ⟨vl,rfl,S⟩
  rintro _ w16 ⟨vl',rfl,S⟩ d
  rw [List.getD_cons_zero]
  refine gg_ ?_
  exact hK9 (i+1,vl') _ ⟨hlt,S⟩ (by show (lvR g).length - (i+1)<(lvR g).length - i;omega)
 ·rw [show i=(jd g q).length by omega,List.take_length] at S
  obtain ⟨s2,T,hs,_,hab⟩:=S.doneRow yk (by decide) rfl
  exact h _ s2 _ T.ext (StX.newOf (q:=s2) T fun b o ho=>(hab b o ho).resolve_right id) hs
end Go.Proofs
end
section
namespace Go.Proofs
open Go.Sh Go.RowKit Go.BM
set_option maxRecDepth 100000
set_option linter.unusedSimpArgs false
set_option linter.unusedVariables false
abbrev wcs (ws : List (BitVec 64)) : List Value:=ws.map u64
theorem ahp {n : Nat} (hn : n≤1032) {X : Nat→Prop} {w0 w : World} {r : Gh} {L : List Asr} {K : Value→World→Prop} (S : StX X w0 r w L)
  (h : ∀ b w',StX X w0 r w' (.cell b (wcs (List.replicate ((n+63) / 64) 0#64)) 76::L)→K (.tuple #[.agg #[.int .i64 n,.slice (some ⟨b,0,none⟩) ((n+63) / 64) ((n+63) / 64)],.int .i64 0]) w') : zd Tryz.prog Tryz.Qt #[.int .i64 n] w K:=by
 refine Tryz.af7 ?_
 unfold Tryz.abY
 refine S.al fun b2 w1 S=>?_
 refine gp_ ?_
 refine zj (c:=decide (1032<(n : Int))) (fun _ K2 hK2=>by refine gg_ ?_;exact hK2) ?_
 refine c_f (by simp;omega) ?_
 refine gg_ ?_
 refine S.mkS (by omega) (by omega) fun b w2 S=>?_
 rw [show (((n : Int)+63) / 64).toNat=(n+63) / 64 by omega] at S ⊢
 have S:=(show StX X w0 r w2 (.cell b (wcs (List.replicate ((n+63) / 64) 0#64)) 76 :: .cell b2 [.int .i64 0,.slice none 0 0] 72::L) by
  rw [wcs,List.map_replicate];exact S)
 refine zy (cs:=#[.int .i64 n,.slice (some ⟨b,0,none⟩) ((n+63) / 64) ((n+63) / 64)]) (by kernel_rfl) ?_
 refine S.stB (b:=b2) fun w3 S=>?_
 refine S.ceB (b:=b2) ?_ rfl
 exact h _ _ S.d2
abbrev XI (bs : List Nat) (R : xc) : List Asr:=List.zipWith (fun b m=>Asr.cell b (wcs (xo m)) 76) bs R
abbrev rwL (n b : Nat) : List Value:=[.int .i64 n,.slice (some ⟨b,0,none⟩) ((n+63) / 64) ((n+63) / 64)]
def ZQ (n : Nat) (bs : List Nat) : List Value:=bs.flatMap fun b=>rwL n b
theorem ail {n : Nat} {bs : List Nat} {b : Nat} : ZQ n (bs ++ [b])=ZQ n bs++rwL n b:=by rw [ZQ,List.flatMap_append];simp [ZQ]
def ahq (n : Nat) (c : List Value) (b : Nat) : Prop:=c=rwL n b
theorem afF {n : Nat} : ∀ {bs : List Nat},RowOf 2 (ahq n) (ZQ n bs) bs
 |[]=>RowOf.nil
 |b::bs=>by
  have:=yG (c:=rwL n b) (R:=ahq n) (x:=b) rfl rfl (afF (n:=n) (bs:=bs))
  rw [ZQ,List.flatMap_cons]
  exact this
def jf (m : List Bool) (j : Nat) : List (BitVec 64):=xP (fun x y=>x ||| y) (List.replicate ((m.length+63) / 64) 0#64) (mkd (m.take j))
theorem ajO {m : List Bool} {j : Nat} : (jf m j).length=(m.length+63) / 64:=by rw [jf,vM,List.length_replicate]
theorem aim {m : List Bool} {j : Nat} (hj : j<m.length) (hb : m[j]=true) : jf m (j+1)=(jf m j).set (j / 64) ((jf m j).getD (j / 64) 0 ||| (BitVec.ofInt 64 1 <<< (j % 64))):=by
 rw [jf,aaN hj,if_pos hb,aey]
 rfl
theorem ain {m : List Bool} {j : Nat} (hj : j<m.length) (hb : m[j]=false) : jf m (j+1)=jf m j:=by
 rw [jf,aaN hj,if_neg (by rw [hb];decide),List.append_nil];rfl
set_option maxHeartbeats 2000000 in
theorem aio {u : UnD} {n : Int} {v : Value} {w : World} {r : Gh} {K : Value→World→Prop} (hr : Holds r w) (hu : UnG r v u)
  (h : ∀ v' bs s w',Ext w w'→(fnE u n=0→∃ g,u.fs[n.toNat]? = some g∧netU u n=zh g∧bs.length=g.tys.length∧Above w s∧StX noX w (r.or s) w' (XI bs (lvR g))∧SlG 2 s (ahq (zh g).length) v' bs)→(fnE u n≠0→v' = .slice none 0 0)→K (.tuple #[v',.int .i64 (fnE u n)]) w') : zd Tryz.prog Tryz.Xl #[v,.int .i64 n] w K:=by
 refine Tryz.ahk ?_
 unfold Tryz.adv
 have hu0:=hu
 obtain ⟨p0,cap0,vf,rfl,_,_,hst,hsl,hfn⟩:=hu
 obtain ⟨qf,capf,rfl,_,_⟩:=hfn.sl.shape
 have S:=St.start hr
 refine S.box fun b3 w1 S=>?_
 have S : StX noX w r w1 [.cell b3 [.slice p0 u.ss.length cap0,.slice qf u.fs.length capf,.int .i64 u.mn] 25]:=S
 refine S.ldB (b:=b3) ?_ rfl
 refine jX S.holds hu0 fun vx s w2 e2 n2 hg hz=>?_
 obtain ⟨S,_,_⟩:=S.tell e2 n2
 refine gS_ ?_
 refine zk (fun hE=>?_) (fun hE=>?_)
 ·exact h _ [] nothing _ S.ext (fun h=>absurd h hE) fun _=>rfl
 have hE : fnE u n=0:=Decidable.not_not.1 hE
 obtain ⟨g,hgi,hnu,hx⟩:=hg hE
 have hF:=kI hE hgi
 have hmf:=hF.loc.few
 have hnf:=hF.net.few
 have hnp:=hF.net.pos
 rw [hE] at h
 have S:=S.tl
 refine V5 S.holds hx hF fun vr s5 w5 e5 n5 hR=>?_
 obtain ⟨S,_,_⟩:=S.tell e5 n5
 obtain ⟨pr,cr,rfl,_,_⟩:=hR.shape
 have hRl:=vY (g:=g)
 have S:=S.ownNil 72 2
 generalize hnn : (zh g).length=nn at *
 have S : StX noX w ((r.or s).or s5) w5 (.row (.slice none 0 0) 72 2 ([] : List Nat).length (ZQ nn [])::XI [] ((lvR g).take ([] : List Nat).length)):=S
 refine gg_ ?_
 refine zi (ι:=Value × List Nat) (fun i=>[i.1,.int .i64 (i.2.length : Nat)]) (fun i w'=>i.2.length≤(lvR g).length∧StX noX w ((r.or s).or s5) w' (.row i.1 72 2 i.2.length (ZQ nn i.2)::XI i.2 ((lvR g).take i.2.length))) (fun i=>(lvR g).length - i.2.length) (.slice none 0 0,[]) rfl ⟨Nat.zero_le _,S⟩ ?_
 repeat clear S
 rintro ⟨vo,bs⟩ d w7 ⟨hi,S⟩ K4 hK4
 simp only at hi S ⊢
 simp only [List.getD_cons_zero,List.getD_cons_succ]
 refine gg_ ?_
 refine zk (fun hlt=>?_) (fun hge=>?_)
 ·have hlt : bs.length<(lvR g).length:=by omega
  obtain ⟨bi,oi,vi,hpi,_,hci,hvi⟩:=agJ hR hlt
  have htk : (lvR g).take (bs.length+1)=(lvR g).take bs.length ++ [(lvR g)[bs.length]]:=List.take_succ_eq_append_getElem hlt
  have hml : (lvR g)[bs.length].length=nn:=by rw [YM,qT,hnn]
  generalize (lvR g)[bs.length]=m at hvi hml htk
  obtain ⟨pm,cm,rfl,_,_⟩:=hvi.sl.shape
  rw [hpi]
  refine gg_ ?_
  refine zg (by rw [Int.toNat_natCast];exact S.at hci) ?_
  refine gg_ ?_
  refine ahp (by omega) S fun bw w8 S=>?_
  refine gS_ ?_
  refine S.al fun b11 w9 S=>?_
  refine S.stB (b:=b11) fun w10 S=>?_
  have S : StX noX w ((r.or s).or s5) w10 (.cell b11 (rwL m.length bw) 72 :: .cell bw (wcs (jf m 0)) 76 :: .row vo 72 2 bs.length (ZQ nn bs)::XI bs ((lvR g).take bs.length)):=S
  refine gg_ ?_
  refine zi (ι:=Nat) (fun i=>[.int .i64 (i : Nat)]) (fun j w'=>j≤m.length∧StX noX w ((r.or s).or s5) w' (.cell b11 (rwL m.length bw) 72 :: .cell bw (wcs (jf m j)) 76 :: .row vo 72 2 bs.length (ZQ nn bs)::XI bs ((lvR g).take bs.length))) (fun j=>m.length - j) 0 rfl ⟨Nat.zero_le _,S⟩ ?_
  repeat clear S
  rintro j d w14 ⟨hj,S⟩ K11 hK11
  rw [List.getD_cons_zero]
  refine gg_ ?_
  refine zk (fun hltj=>?_) (fun hgej=>?_)
  ·have hltj : j<m.length:=by omega
   obtain ⟨bm,om,hpm,_,gm⟩:=agC hvi.sl hltj
   have hjw : j / 64<(jf m j).length:=by rw [ajO];omega
   refine zp (fun _ w'=>StX noX w ((r.or s).or s5) w' (.cell b11 (rwL m.length bw) 72 :: .cell bw (wcs (jf m (j+1))) 76 :: .row vo 72 2 bs.length (ZQ nn bs)::XI bs ((lvR g).take bs.length))) (fun K15 hK15=>?_) ?_
   ·rw [hpm]
    refine gg_ ?_
    refine zg (by rw [Int.toNat_natCast];exact S.at gm) ?_
    refine c_b (fun hb=>?_) (fun hb=>?_)
    ·have S:=S.go (Ext.drew _)
     rw [aim hltj hb] at hK15
     refine gg_ ?_
     refine S.ld (b:=bw) (v:=u64 ((jf m j).getD (j / 64) 0)) ?_ (by rw [show 0+((j : Int) / 64).toNat=j / 64 by omega,wcs,List.getElem?_map,List.getD_eq_getElem?_getD,List.getElem?_eq_getElem hjw];rfl)
     refine gg_ ?_
     rw [show ((j : Int) % 64).toNat=j % 64 by omega]
     refine S.st (b:=bw) (fun w19 S=>?_) (by rw [wcs,List.length_map];omega)
     refine hK15 [] _ ?_
     rw [show 0+((j : Int) / 64).toNat=j / 64 by omega] at S
     rw [wcs,List.map_set]
     exact S
    ·rw [ain hltj hb] at hK15
     exact hK15 [] _ S
   rintro _ w18 S d
   refine gg_ ?_
   exact hK11 (j+1) _ ⟨hltj,S⟩ (by omega)
  ·rw [show j=m.length by omega] at S
   have hE : jf m m.length=xo m:=by rw [jf,List.take_length];rfl
   rw [hE] at S
   refine S.ldB (b:=b11) ?_ rfl
   refine S.lit (e:=72) (cs:=rwL m.length bw) (by kernel_rfl) fun b9 w20 S=>?_
   refine S.ap (v:=vo) (m':=1) (Sl.blk (S.blk b9)) (fun v4 w21 S=>?_) (by omega)
   have S:=S.drop b9
   have S:=S.drop b11
   refine gg_ ?_
   have e : ((bs.length : Int)+1)=((bs ++ [bw]).length : Nat):=by simp
   rw [e]
   refine hK4 (v4,bs ++ [bw]) _ ⟨by show (bs ++ [bw]).length≤_;simp;omega,?_⟩ (by show (lvR g).length - (bs ++ [bw]).length<(lvR g).length - bs.length;simp;omega)
   show StX noX w ((r.or s).or s5) w21 (.row v4 72 2 (bs ++ [bw]).length (ZQ nn (bs ++ [bw]))::XI (bs ++ [bw]) ((lvR g).take (bs ++ [bw]).length))
   have e2 : XI (bs ++ [bw]) ((lvR g).take (bs ++ [bw]).length)=XI bs ((lvR g).take bs.length) ++ [Asr.cell bw (wcs (xo m)) 76]:=by
    rw [List.length_append,List.length_singleton,htk,XI,List.zipWith_append (by rw [List.length_take];omega)];rfl
   rw [e2,ail,List.length_append,List.length_singleton]
   rw [hml] at S
   exact S.permO ((List.perm_append_singleton _ (_::_)).trans (.refl _))
 ·have hbe : bs.length=(lvR g).length:=by omega
  rw [hbe,List.take_length] at S
  rw [← hbe] at S
  obtain ⟨s6,T,hs,_,hab⟩:=S.doneRow (afF (n:=nn) (bs:=bs)) (by decide) rfl
  exact h _ bs s6 _ T.ext (fun _=>⟨g,hgi,hnu,by omega,fun b o ho=>(hab b o ho).resolve_right id,T.to _,by rw [hnn];exact hs⟩) fun h=>absurd rfl h
end Go.Proofs
end
section
namespace Go.Sh
section
variable {w : World} {i f l e x : Bool} {A1 : (List Value→World→Prop)→Prop} {A2 A4 A5 : (List Value→World→Prop)→World→Prop} {Z : Value→World→Prop}
theorem akb (R : World→Prop) (h1 : i=true→∀ K : List Value→World→Prop,K [.bool f] w→A1 K) (h2 : i=true→f=false→∀ K : List Value→World→Prop,K [.bool l] w→A2 K w)
  (h4 : i=true→f=false→l=false→∀ K : List Value→World→Prop,K [.bool e] w→A4 K w) (h5 : i=true→f=false→l=false→e=true→∀ K : List Value→World→Prop,(∀ w',R w'→K [.bool x] w')→A5 K w)
  (hR : R w) (hZ : ∀ w',R w'→Z (.bool (i&&(f||(l||(e&&x))))) w') :
  za (fun K=>gIf (.bool i) true (A1 K) (K [undef] w)) fun s37 _d w39=>
  za (fun K=>gIf (s37.getD 0 undef) false (A2 K w39) (K [undef] w39)) fun s41 _d w43=>
  za (fun K=>gIf (.bool i) true (zb (s37.getD 0 undef) (.bool true) (s41.getD 0 undef) fun t=>K [t] w43) (K [undef] w43)) fun s45 _d w47=>
  za (fun K=>gIf (s45.getD 0 undef) false (A4 K w47) (K [undef] w47)) fun s49 _d w51=>
  za (fun K=>gIf (s49.getD 0 undef) true (A5 K w51) (K [undef] w51)) fun s53 _d w55=>
  za (fun K=>gIf (s45.getD 0 undef) false (zb (s49.getD 0 undef) (s53.getD 0 undef) (.bool false) fun t=>K [t] w55) (K [undef] w55)) fun s58 _d w60=>
  za (fun K=>gIf (.bool i) true (zb (s45.getD 0 undef) (.bool true) (s58.getD 0 undef) fun t=>K [t] w60) (K [undef] w60)) fun s62 _d w64=>
  zb (.bool i) (s62.getD 0 undef) (.bool false) fun t=>Z t w64:=by
 cases i with
 |false=>
  intro K hK;refine hK _ _ fun _=>?_
  intro K hK;refine hK _ _ fun _=>?_
  intro K hK;refine hK _ _ fun _=>?_
  intro K hK;refine hK _ _ fun _=>?_
  intro K hK;refine hK _ _ fun _=>?_
  intro K hK;refine hK _ _ fun _=>?_
  intro K hK;refine hK _ _ fun _=>?_
  exact ⟨false,rfl,hZ _ hR⟩
 |true=>
 intro K hK;refine h1 rfl _ (hK _ _ fun _=>?_);clear hK K
 cases f with
 |true=>
  intro K hK;refine hK _ _ fun _=>?_
  intro K hK;refine ⟨true,rfl,hK _ _ fun _=>?_⟩
  intro K hK;refine hK _ _ fun _=>?_
  intro K hK;refine hK _ _ fun _=>?_
  intro K hK;refine hK _ _ fun _=>?_
  intro K hK;refine ⟨true,rfl,hK _ _ fun _=>?_⟩
  exact ⟨true,rfl,hZ _ hR⟩
 |false=>
 intro K hK;refine h2 rfl rfl _ (hK _ _ fun _=>?_);clear hK K
 intro K hK;refine ⟨false,rfl,hK _ _ fun _=>?_⟩;clear hK K
 cases l with
 |true=>
  intro K hK;refine hK _ _ fun _=>?_
  intro K hK;refine hK _ _ fun _=>?_
  intro K hK;refine hK _ _ fun _=>?_
  intro K hK;refine ⟨true,rfl,hK _ _ fun _=>?_⟩
  exact ⟨true,rfl,hZ _ hR⟩
 |false=>
 intro K hK;refine h4 rfl rfl rfl _ (hK _ _ fun _=>?_);clear hK K
 cases e with
 |false=>
  intro K hK;refine hK _ _ fun _=>?_
  intro K hK;refine ⟨false,rfl,hK _ _ fun _=>?_⟩
  intro K hK;refine ⟨false,rfl,hK _ _ fun _=>?_⟩
  exact ⟨true,rfl,hZ _ hR⟩
 |true=>
 intro K hK;refine h5 rfl rfl rfl rfl _ fun w' hw'=>hK _ _ fun _=>?_;clear hK K
 intro K hK;refine ⟨true,rfl,hK _ _ fun _=>?_⟩;clear hK K
 intro K hK;refine ⟨false,rfl,hK _ _ fun _=>?_⟩;clear hK K
 exact ⟨true,rfl,hZ _ hw'⟩
end
end Go.Sh
end
section
namespace Go.Proofs
open Go.Sh Go.RowKit
set_option maxRecDepth 100000
set_option linter.unusedSimpArgs false
set_option linter.unusedVariables false
theorem aaS : ∀ {i : Nat} {a b : List Int},a.take i=b.take i→i≤a.length→i≤b.length→ltB a b=ltB (a.drop i) (b.drop i)
 |0,_,_,_,_,_=>rfl
 |i+1,[],b,h,h1,h2=>by simp at h1
 |i+1,x::a,[],h,h1,h2=>by simp at h2
 |i+1,x::a,y::b,h,h1,h2=>by
  rw [List.take_succ_cons,List.take_succ_cons] at h
  have hx:=(List.cons.inj h).1
  subst hx
  rw [List.drop_succ_cons,List.drop_succ_cons,← aaS (List.cons.inj h).2 (by simpa using h1) (by simpa using h2),ltB]
  simp
theorem aip {i : Nat} {a b : List Int} (h : a.take i=b.take i) (h1 : i<a.length) (h2 : i<b.length) (hne : a[i]≠b[i]) : ltB a b=decide (a[i]<b[i]):=by
 rw [aaS h (by omega) (by omega),List.drop_eq_getElem_cons h1,List.drop_eq_getElem_cons h2,ltB]
 simp [hne]
theorem agK {a b : List Int} (h : a.take a.length=b.take a.length) (hl : a.length=b.length) : ltB a b=false:=by
 rw [aaS h (Nat.le_refl _) (by omega),List.drop_length];rfl
theorem ad9 {a b : List Int} {va vb : Value} {w : World} {r : Gh} {K : Value→World→Prop} (hr : Holds r w) (ha : SlG 1 r zH va a) (hb : SlG 1 r zH vb b) (hl : a.length=b.length) (hf : a.length≤1000000)
  (h : ∀ c : Int,decide (c<0)=ltB a b→K (.int .i64 c) w) : zd Tryz.prog Tryz.xH #[va,vb] w K:=by
 refine Tryz.Yb ?_
 unfold Tryz.qH
 obtain ⟨pa,ca,rfl,_,_⟩:=ha.shape
 obtain ⟨pb,cb,rfl,_,_⟩:=hb.shape
 refine gp_ ?_
 refine zi (ι:=Nat) (fun i=>[.int .i64 (i : Nat)]) (fun i w'=>w'=w∧i≤a.length∧a.take i=b.take i) (fun i=>a.length - i) 0 rfl ⟨rfl,Nat.zero_le _,by simp⟩ ?_
 rintro i d w' ⟨rfl,hi,he⟩ K1 hK1
 rw [List.getD_cons_zero]
 refine gp_ ?_
 refine zk (fun hlt=>?_) (fun hge=>?_)
 ·have hlt : i<a.length:=by omega
  have hltb : i<b.length:=by omega
  obtain ⟨b1,o1,rfl,_,g1⟩:=zY ha hlt
  obtain ⟨b2,o2,rfl,_,g2⟩:=zY hb hltb
  refine gg_ ?_
  refine zg (by rw [Int.toNat_natCast];exact g1 _ hr) ?_
  refine gg_ ?_
  refine c_f (by simp;omega) ?_
  refine gg_ ?_
  refine zg (by rw [Int.toNat_natCast];exact g2 _ hr) ?_
  refine adR ?_
  refine gg_ ?_
  refine zk (fun hne=>?_) (fun hz=>?_)
  ·refine h _ ?_
   have hne' : a[i]≠b[i]:=fun e=>hne (adl.2 e)
   rw [aip he hlt hltb hne',ae6]
   by_cases hx : a[i]<b[i]
   ·rw [if_pos hx,decide_eq_true hx];rfl
   ·rw [if_neg hx,if_pos (by omega),decide_eq_false hx];rfl
  ·have hz:=adl.1 (Decidable.not_not.1 hz)
   refine gg_ ?_
   refine hK1 (i+1) _ ⟨rfl,hlt,?_⟩ (by omega)
   rw [List.take_succ_eq_append_getElem hlt,List.take_succ_eq_append_getElem hltb,he,hz]
 ·have hie : i=a.length:=by omega
  subst hie
  refine gg_ ?_
  refine c_f (by simp;omega) ?_
  exact h 0 (by rw [agK he hl];rfl)
def yI (P : Int→Prop) [DecidablePred P] (i : Nat) : List Int:=((List.range i).filter fun (p : Nat)=>decide (P (p : Int))).map Int.ofNat
theorem Xq {P : Int→Prop} [DecidablePred P] {i : Nat} : yI P (i+1)=yI P i++(if P (i : Int) then [(i : Int)] else []):=by
 rw [yI,List.range_succ,List.filter_append,List.map_append]
 congr 1
 by_cases h : P (i : Int)
 ·rw [if_pos h,List.filter_cons_of_pos (by simpa using h)];rfl
 ·rw [if_neg h,List.filter_cons_of_neg (by simpa using h)];rfl
theorem aaT {P : Int→Prop} [DecidablePred P] {i : Nat} : (yI P i).length≤i:=by
 rw [yI,List.length_map]
 exact Nat.le_trans (List.length_filter_le ..) (by simp)
theorem Qx {g : GrD} {P : Int→Prop} [DecidablePred P] : yI P (zh g).length=ptsW g P:=rfl
theorem agL {g : GrD} {p : PtD} {q x : Int} {v : Value} {b1 b2 : Nat} {w : World} {r : Gh} {K : Value→World→Prop} (hr : Holds r w) (hx : LookG r v g)
  (h1 : Ob r fun w=>w.cell? ⟨b1,0,none⟩=some v) (h2 : Ob r fun w=>w.cell? ⟨b2,0,none⟩=some (.int .i64 x)) (hq : 0≤q) (hp : g.pts[q.toNat]? = some p) (hb : p.args.length≤1000)
  (h : ∀ w',Ext w w'→K (.bool (decide (y6 p=some x))) w') : zK Tryz.prog (.func (.func Tryz.JT) #[] #[.pointer (some ⟨b1,0,none⟩),.pointer (some ⟨b2,0,none⟩)]) #[.int .i64 q] w K:=by
 refine abm (by kernel_rfl) ?_
 refine Tryz.ad7 ?_
 unfold Tryz.JW
 have S:=St.start hr
 refine zg (S.at h1) ?_
 refine Zj S.holds hx hq hp hb fun w2 e2=>?_
 have S:=S.go e2
 refine gS_ ?_
 refine zf (c:=decide ((y6 p).getD 0=x)) (fun _ K2 hK2=>?_) ?_
 ·refine zg (S.at h2) ?_
  refine gg_ ?_
  exact hK2
 have:=h _ S.ext
 have hcE : ((y6 p).isSome&&decide ((y6 p).getD 0=x))=decide (y6 p=some x):=by cases y6 p<;>simp
 rwa [← hcE] at this
noncomputable def okY (u : UnD) (n x q : Int) : Bool:=okQ u n q&&(match u.fs[n.toNat]? with|some g=>decide (0≤x∧x<g.tys.length)|none=>false)
end Go.Proofs
end
section
namespace Go.Proofs
open Go.Sh Go.RowKit
set_option maxRecDepth 100000
set_option linter.unusedSimpArgs false
set_option linter.unusedVariables false
noncomputable def aaU (u : UnD) (n x q : Int) : Option (List Int):=match u.fs[n.toNat]? with|some g=>ZN g x q|none=>none
theorem aiq {o : Option (List Int)} {w : List Int} : ((!o.isSome)||(decide (((w.length : Nat) : Int)<((o.getD []).length : Nat))||(decide (((w.length : Nat) : Int)=((o.getD []).length : Nat))&&ltB w (o.getD []))))=afp o w:=by
 cases o with
 |none=>rfl
 |some v=>
  show (false||_)=_
  rw [Bool.false_or,afp]
  simp only [Option.getD_some,Int.ofNat_lt,Int.natCast_inj]
theorem akL {u : UnD} {n a b : Int} {W : List Int} (h0 : fnE u n=0) (ha : isN (netU u n) a) (hb : isN (netU u n) b) (hW : ∀ x ∈ W,isN (netU u n) x) : okW u n a b W=true:=by
 rw [okW,h0,show decide ((0 : Int)≠0)=false from rfl,Bool.false_or,decide_eq_true hW,decide_eq_true (show ∀ x ∈ [a,b],isN (netU u n) x by simpa using ⟨ha,hb⟩)]
 rfl
theorem adz {n : zz} {W : List Int} {q : Int} {stop : Bool} {o : Option (List Int)} {p : Int} (h : (decide (p≠q)&&stop)=true) : x9 n W q stop o p=o:=by
 rw [x9,if_pos (by simpa using h)]
theorem acP {n : zz} {W : List Int} {q : Int} {stop : Bool} {o : Option (List Int)} {p : Int} (h : (decide (p≠q)&&stop)=false) : x9 n W q stop o p=if ((wayE n q p W).isSome&&afp o ((wayE n q p W).getD []))=true then wayE n q p W else o:=by
 rw [x9,if_neg (fun hc=>by rw [hc.2,decide_eq_true hc.1] at h;cases h)]
 cases wayE n q p W with
 |none=>rfl
 |some w=>rfl
set_option maxHeartbeats 4000000 in
theorem ab7 {u : UnD} {n x q : Int} {v : Value} {w : World} {r : Gh} {K : Value→World→Prop} (hr : Holds r w) (hu : UnG r v u)
  (h : ∀ v' s w',Ext w w'→New w s w'→SlG 1 s zH v' (if okY u n x q=true then (aaU u n x q).getD [] else [])→K (.tuple #[v',.bool (okY u n x q&&(aaU u n x q).isSome),.int .i64 (if okY u n x q=true then 0 else 2)]) w') : zd Tryz.prog Tryz.Z9 #[v,.int .i64 n,.int .i64 x,.int .i64 q] w K:=by
 refine Tryz.af5 ?_
 unfold Tryz.abV
 have hu0:=hu
 obtain ⟨p0,cap0,vf,rfl,_,_,hst,hsl,hfn⟩:=hu
 obtain ⟨qf,capf,rfl,_,_⟩:=hfn.sl.shape
 have S:=St.start hr
 refine S.box fun b4 w1 S=>?_
 have S : StX noX w r w1 [.cell b4 [.slice p0 u.ss.length cap0,.slice qf u.fs.length capf,.int .i64 u.mn] 25]:=S
 refine S.box fun b6 w2 S=>?_
 refine S.ldB (b:=b4) ?_ rfl
 refine jX S.holds hu0 fun vx s w3 e3 n3 hg hz=>?_
 obtain ⟨S,_,as3⟩:=S.tell e3 n3
 refine gS_ ?_
 refine S.al fun b11 w4 S=>?_
 have hvx : vx.oneCell'=true:=by
  by_cases hE : fnE u n=0
  ·obtain ⟨g,_,_,hx⟩:=hg hE
   obtain ⟨b,_,_,_,_,_,_,_,_,_,rfl,_⟩:=hx
   rfl
  ·rw [hz hE];rfl
 refine S.st (b:=b11) (fun w5 S=>?_) (by simp) hvx
 have S : StX noX w (r.or s) w5 [.cell b11 [vx] 118,.cell b6 [.int .i64 x] 3,.cell b4 [.slice p0 u.ss.length cap0,.slice qf u.fs.length capf,.int .i64 u.mn] 25]:=S
 have S:=S.go (Ext.drew _)
 refine gp_ ?_
 refine zj (c:=!okQ u n q) (fun hb K2 hK2=>?_) ?_
 ·have hE : fnE u n=0:=by simpa using hb
  obtain ⟨g,hgi,hnu,hx⟩:=hg hE
  refine S.ld (b:=b11) ?_
  refine vB S.holds hx ?_
  refine gp_ ?_
  rw [aaR hE hnu] at hK2
  exact hK2
 refine zj (c:=decide (x<0)) (fun hb K2 hK2=>?_) ?_
 ·refine S.ld (b:=b6) ?_
  refine gg_ ?_
  exact hK2
 refine zj (c:=!(match u.fs[n.toNat]? with|some g=>decide (x<g.tys.length)|none=>false)) (fun hb K2 hK2=>?_) ?_
 ·have hE : fnE u n=0:=by
   simp only [Bool.or_eq_false_iff,decide_eq_false_iff_not,Decidable.not_not] at hb
   exact hb.1.1
  obtain ⟨g,hgi,hnu,hx⟩:=hg hE
  obtain ⟨bl,x1,x2,x3,x4,y1,y2,y3,y4,vn,rfl,hgg,hn,hc⟩:=hx
  refine S.ld (b:=b6) ?_
  refine S.ld (b:=b11) ?_
  refine gg_ ?_
  refine zg (S.at (hc 4 _ rfl)) ?_
  refine gg_ ?_
  have e : decide ((g.tys.length : Int)≤x) = !decide (x<g.tys.length):=by
   rw [← decide_not,decide_eq_decide];omega
  rw [e]
  simp only [hgi] at hK2
  exact hK2
 have hYe : okY u n x q = !(((decide (fnE u n≠0) || !okQ u n q)||decide (x<0)) || !(match u.fs[n.toNat]? with|some g=>decide (x<g.tys.length)|none=>false)):=by
  rw [okY]
  have h1 : okQ u n q=true→decide (fnE u n≠0)=false:=fun h=>by rw [(JZ h).1];rfl
  cases hq : okQ u n q with
  |false=>simp
  |true=>
   rw [h1 hq]
   cases u.fs[n.toNat]? with
   |none=>simp
   |some g=>
    rw [Bool.eq_iff_iff]
    simp
 refine c_b (fun hb=>?_) (fun hb=>?_)
 ·rw [hb] at hYe
  rw [hYe] at h
  exact h _ nothing _ S.ext New.nothing SlG.nil
 rw [hb] at hYe
 have hok : okQ u n q=true:=by
  simp only [Bool.or_eq_false_iff,Bool.not_eq_false'] at hb
  exact hb.1.1.2
 obtain ⟨hE,hqN⟩:=JZ hok
 obtain ⟨g,hgi,hnu,hx⟩:=hg hE
 rw [hnu] at hqN
 have hF:=kI hE hgi
 have hnf:=hF.net.few
 have hgl:=zS (g:=g)
 have hWu : aaU u n x q=ZN g x q:=by rw [aaU,hgi]
 rw [hYe,hWu] at h
 simp only [Bool.not_false,if_true,Bool.true_and] at h
 clear hYe hb hWu hz
 have hbl:=hx
 obtain ⟨bl,x1,x2,x3,x4,y1,y2,y3,y4,vn,rfl,hgg,hn,hc⟩:=hx
 have S:=S.frzAt b11
 have S:=S.frzAt b6
 have h11 : Ob (((r.or s).or (Go.Sh.one b11 [.pointer (some ⟨bl,0,none⟩)] 118)).or (Go.Sh.one b6 [.int .i64 x] 3)) fun w=>w.cell? ⟨b11,0,none⟩=some (.pointer (some ⟨bl,0,none⟩)):=fun w' hw'=>by
  have B : Blk w' b11 [.pointer (some ⟨bl,0,none⟩)] 118:=zJ w' (hw'.le (h:=inferInstance))
  exact B.cell 0
 have h6 : Ob (((r.or s).or (Go.Sh.one b11 [.pointer (some ⟨bl,0,none⟩)] 118)).or (Go.Sh.one b6 [.int .i64 x] 3)) fun w=>w.cell? ⟨b6,0,none⟩=some (.int .i64 x):=fun w' hw'=>by
  have B : Blk w' b6 [.int .i64 x] 3:=zJ w' (hw'.le (h:=inferInstance))
  exact B.cell 0
 have hx':=hbl.up (s:=((r.or s).or (Go.Sh.one b11 [.pointer (some ⟨bl,0,none⟩)] 118)).or (Go.Sh.one b6 [.int .i64 x] 3))
 have hu1:=hu0.up (s:=((r.or s).or (Go.Sh.one b11 [.pointer (some ⟨bl,0,none⟩)] 118)).or (Go.Sh.one b6 [.int .i64 x] 3))
 have hc6:=(hc 6 _ rfl).up (s:=((r.or s).or (Go.Sh.one b11 [.pointer (some ⟨bl,0,none⟩)] 118)).or (Go.Sh.one b6 [.int .i64 x] 3))
 have S : StX noX w (((r.or s).or (Go.Sh.one b11 [.pointer (some ⟨bl,0,none⟩)] 118)).or (Go.Sh.one b6 [.int .i64 x] 3)) w5.drew [.cell b4 [.slice p0 u.ss.length cap0,.slice qf u.fs.length capf,.int .i64 u.mn] 25]:=S
 have S:=(S.ownNil 3 1).ownNil 3 1
 generalize ((r.or s).or (Go.Sh.one b11 [.pointer (some ⟨bl,0,none⟩)] 118)).or (Go.Sh.one b6 [.int .i64 x] 3)=υ at S h11 h6 hx' hu1 hc6
 have S : StX noX w υ w5.drew [.row (.slice none 0 0) 3 1 (yI (zD g x) 0).length (ints (yI (zD g x) 0)),.row (.slice none 0 0) 3 1 (yI (Usd g x) 0).length (ints (yI (Usd g x) 0)),.cell b4 [.slice p0 u.ss.length cap0,.slice qf u.fs.length capf,.int .i64 u.mn] 25]:=S
 refine gp_ ?_
 refine zg (S.at h11) ?_
 refine gg_ ?_
 refine zg (S.at hc6) ?_
 refine gg_ ?_
 refine zi (ι:=Nat × Value × Value) (fun i=>[i.2.1,i.2.2,.int .i64 (i.1 : Nat)]) (fun i w'=>i.1≤g.pts.length∧StX noX w υ w' [.row i.2.1 3 1 (yI (zD g x) i.1).length (ints (yI (zD g x) i.1)),.row i.2.2 3 1 (yI (Usd g x) i.1).length (ints (yI (Usd g x) i.1)),.cell b4 [.slice p0 u.ss.length cap0,.slice qf u.fs.length capf,.int .i64 u.mn] 25]) (fun i=>g.pts.length - i.1) (0,.slice none 0 0,.slice none 0 0) rfl ⟨Nat.zero_le _,S⟩ ?_
 repeat clear S
 rintro ⟨i,ve,vu⟩ d w22 ⟨hi,S⟩ K19 hK19
 simp only at hi S ⊢
 simp only [List.getD_cons_zero,List.getD_cons_succ]
 refine gg_ ?_
 refine zk (fun hlt=>?_) (fun hge=>?_)
 ·have hlt : i<g.pts.length:=by omega
  have hiN : isN (zh g) (i : Int):=⟨by omega,by omega⟩
  obtain ⟨p,hp,hpm,hue,hee⟩:=Qw hiN
  have hef:=aaT (P:=zD g x) (i:=i)
  have huf:=aaT (P:=Usd g x) (i:=i)
  refine zp (fun y w'=>∃ ve' vu',y = [ve',vu']∧StX noX w υ w' [.row ve' 3 1 (yI (zD g x) (i+1)).length (ints (yI (zD g x) (i+1))),.row vu' 3 1 (yI (Usd g x) (i+1)).length (ints (yI (Usd g x) (i+1))),.cell b4 [.slice p0 u.ss.length cap0,.slice qf u.fs.length capf,.int .i64 u.mn] 25]) (fun K23 hK23=>?_) ?_
  ·refine zp (fun y w'=>∃ ve',y = [ve']∧StX noX w υ w' [.row ve' 3 1 (yI (zD g x) (i+1)).length (ints (yI (zD g x) (i+1))),.row vu 3 1 (yI (Usd g x) i).length (ints (yI (Usd g x) i)),.cell b4 [.slice p0 u.ss.length cap0,.slice qf u.fs.length capf,.int .i64 u.mn] 25]) (fun K27 hK27=>?_) ?_
   ·refine agL S.holds hx' h11 h6 hiN.1 hp (hF.args p hpm) fun w31 e31=>?_
    have S:=S.go e31
    rw [← hee]
    rw [Xq] at hK27
    refine zk (fun hE=>?_) (fun hE=>?_)
    ·rw [if_pos (show zD g x i from hE)] at hK27
     refine S.lit (e:=3) (cs:=[.int .i64 (i : Nat)]) (by kernel_rfl) fun b9 w9 S=>?_
     refine S.ap (v:=ve) (m':=1) (Sl.blk (S.blk b9)) (fun v4 w10 S=>?_) (by omega)
     refine hK27 _ _ ⟨v4,rfl,?_⟩
     rw [List.length_append,yX]
     exact S.drop b9
    ·rw [if_neg (show ¬ zD g x i from hE),List.append_nil] at hK27
     exact hK27 _ _ ⟨ve,rfl,S⟩
   repeat clear S
   rintro _ w30 ⟨ve',rfl,S⟩ d
   rw [List.getD_cons_zero]
   refine zg (S.at h11) ?_
   refine zg (S.at h6) ?_
   refine XH S.holds hx' hiN.1 hp (hF.args p hpm) fun w34 e34=>?_
   have S:=S.go e34
   rw [← hue]
   have hnU:=Xq (P:=Usd g x) (i:=i)
   refine zk (fun hU=>?_) (fun hU=>?_)
   ·rw [if_pos (show Usd g x i from hU)] at hnU
    refine S.lit (e:=3) (cs:=[.int .i64 (i : Nat)]) (by kernel_rfl) fun b9 w9 S=>?_
    refine S.ap (v:=vu) (m':=1) (Sl.blk (S.blk b9)) (fun v4 w10 S=>?_) (by omega)
    refine hK23 _ _ ⟨ve',v4,rfl,?_⟩
    rw [hnU,List.length_append,yX]
    exact S.drop b9
   ·rw [if_neg (show ¬ Usd g x i from hU),List.append_nil] at hnU
    refine hK23 _ _ ⟨ve',vu,rfl,?_⟩
    rw [hnU]
    exact S
  repeat clear S
  rintro _ w26 ⟨ve',vu',rfl,S⟩ d
  simp only [List.getD_cons_zero,List.getD_cons_succ]
  refine gg_ ?_
  exact hK19 (i+1,ve',vu') _ ⟨hlt,S⟩ (by show g.pts.length - (i+1)<g.pts.length - i;omega)
 have hie : i=(zh g).length:=by omega
 clear hK19 K19 hge hi d
 subst hie
 rw [Qx,Qx] at S
 have hWf : (ptsW g (zD g x)).length≤(zh g).length:=aaM
 have hUf : (ptsW g (Usd g x)).length≤(zh g).length:=aaM
 have hWN : ∀ y ∈ ptsW g (zD g x),isN (zh g) y:=fun y hy=>(aaL.1 hy).1
 have hUN : ∀ y ∈ ptsW g (Usd g x),isN (zh g) y:=fun y hy=>(aaL.1 hy).1
 rw [ZN] at h
 obtain ⟨pq,hpq,hpqm,_,heq⟩:=Qw hqN
 generalize ptsW g (zD g x)=W at S h hWf hWN
 generalize ptsW g (Usd g x)=U at S h hUf hUN
 obtain ⟨sE,T,hsE,_,_⟩:=S.doneRow yk (by decide) rfl
 repeat clear S
 obtain ⟨sU,S,hsU,_,_⟩:=T.doneRow yk (by decide) rfl
 clear T
 obtain ⟨pu,cu,rfl,_,_⟩:=hsU.shape
 have S:=S.new (Ext.refl _) New.nothing
 refine gp_ ?_
 refine zi (ι:=Nat × Value × Gh) (fun i=>[i.2.1,.bool ((U.take i.1).foldl (x9 (zh g) W q (decide (zD g x q))) none).isSome,.int .i64 (i.1 : Nat)]) (fun i w'=>i.1≤U.length∧StX noX w (((υ.or sE).or sU).or i.2.2) w' [.cell b4 [.slice p0 u.ss.length cap0,.slice qf u.fs.length capf,.int .i64 u.mn] 25]∧Above w i.2.2∧SlG 1 i.2.2 zH i.2.1 (((U.take i.1).foldl (x9 (zh g) W q (decide (zD g x q))) none).getD [])) (fun i=>U.length - i.1) (0,.slice none 0 0,nothing) rfl ⟨Nat.zero_le _,S,Above.no,SlG.nil⟩ ?_
 repeat clear S
 rintro ⟨i,v1,τ⟩ d w40 ⟨hi,S,hτ,hv1⟩ K37 hK37
 simp only at hi S hτ hv1 ⊢
 simp only [List.getD_cons_zero,List.getD_cons_succ]
 refine gp_ ?_
 refine zk (fun hlt=>?_) (fun hge=>?_)
 ·have hlt : i<U.length:=by omega
  have hFs : (U.take (i+1)).foldl (x9 (zh g) W q (decide (zD g x q))) none=x9 (zh g) W q (decide (zD g x q)) ((U.take i).foldl (x9 (zh g) W q (decide (zD g x q))) none) U[i]:=by
   rw [List.take_succ_eq_append_getElem hlt,List.foldl_append,List.foldl_cons,List.foldl_nil]
  have hK37:=fun v1 τ w' (S : StX noX w (((υ.or sE).or sU).or τ) w' [.cell b4 [.slice p0 u.ss.length cap0,.slice qf u.fs.length capf,.int .i64 u.mn] 25]) (hτ : Above w τ) hv=>hK37 (i+1,v1,τ) w' ⟨hlt,S,hτ,hv⟩ (by show U.length - (i+1)<U.length - i;omega)
  simp only at hK37
  rw [hFs] at hK37
  have hpN:=hUN _ (List.getElem_mem hlt)
  obtain ⟨bU,oU,hpu,_,gU⟩:=zY hsU hlt
  generalize U[i]=p at hK37 hpN gU
  generalize (U.take i).foldl (x9 (zh g) W q (decide (zD g x q))) none=o at hK37 hv1
  rw [hpu]
  refine zp (fun y w'=>∃ v' τ',y = [v',.bool (x9 (zh g) W q (decide (zD g x q)) o p).isSome]∧StX noX w (((υ.or sE).or sU).or τ') w' [.cell b4 [.slice p0 u.ss.length cap0,.slice qf u.fs.length capf,.int .i64 u.mn] 25]∧Above w τ'∧SlG 1 τ' zH v' ((x9 (zh g) W q (decide (zD g x q)) o p).getD [])) (fun K41 hK41=>?_) ?_
  ·refine gg_ ?_
   refine zg (by rw [Int.toNat_natCast];exact S.at gU) ?_
   refine gp_ ?_
   refine akn (c:=decide (zD g x q)) (fun w'=>Ext w40 w') (Ext.refl w40) (fun _ K2 hK2=>?_) fun w2 e2=>?_
   ·refine agL S.holds hx'.up h11.up h6.up hqN.1 hpq (hF.args pq hpqm) fun w' e'=>?_
    rw [← heq]
    exact hK2 _ e'
   have S:=S.go e2
   refine c_b (fun hb=>?_) (fun hb=>?_)
   ·have e:=adz (n:=zh g) (W:=W) (o:=o) hb
    rw [e] at hK41
    exact hK41 _ _ ⟨v1,τ,rfl,S,hτ,hv1⟩
   have hgo:=acP (n:=zh g) (W:=W) (o:=o) hb
   rw [hgo] at hK41
   clear hgo
   refine S.ldB (b:=b4) ?_ rfl
   have hokW:=akL (u:=u) (n:=n) (a:=q) (b:=p) (W:=W) hE (by rw [hnu];exact hqN) (by rw [hnu];exact hpN) (by rw [hnu];exact hWN)
   refine ahn S.holds hu1.up hsE.cells (by omega) fun v7 s7 w7 e7 n7 h7=>?_
   rw [hokW,if_pos rfl,hnu,Bool.true_and]
   rw [hokW,if_pos rfl,hnu] at h7
   obtain ⟨S,_,a7⟩:=S.tell e7 n7
   have hwf:=acJ hF.net.ok aen (W:=W) (t:=p) hqN
   obtain ⟨p7,c7,rfl,_,_⟩:=h7.shape
   obtain ⟨p1,c1,rfl,_,_⟩:=hv1.shape
   generalize wayE (zh g) q p W=y at h7 hwf hK41
   refine gP_ ?_
   refine gP_ ?_
   refine gP_ ?_
   refine akb (i:=y.isSome) (f:=!o.isSome) (l:=decide ((((y.getD []).length : Nat) : Int)<((o.getD []).length : Nat))) (e:=decide ((((y.getD []).length : Nat) : Int)=((o.getD []).length : Nat))) (x:=ltB (y.getD []) (o.getD [])) (fun w'=>w'=w7) (fun _ K hK=>?_) (fun _ _ K hK=>?_) (fun _ _ _ K hK=>?_) (fun _ _ _ he K hK=>?_) rfl ?_
   ·refine gp_ ?_
    exact hK
   ·refine gg_ ?_
    exact hK
   ·refine gg_ ?_
    exact hK
   ·refine ad9 S.holds h7.cells hv1.cells (by have:=of_decide_eq_true he;omega) (by omega) fun c hc=>?_
    refine gP_ ?_
    rw [hc]
    exact hK _ rfl
   rintro _ rfl
   rw [aiq]
   refine c_b (fun hb=>?_) (fun hb=>?_)
   ·rw [if_pos hb,(show y.isSome=true by simp at hb;exact hb.1)] at hK41
    exact hK41 _ _ ⟨_,s7,rfl,S.less (fun b o h=>h.elim (fun h=>.inl (.inl h)) .inr) (List.Sublist.refl _),a7,h7⟩
   ·rw [if_neg (by rw [hb];decide)] at hK41
    exact hK41 _ _ ⟨_,τ,rfl,S.less (fun b o h=>.inl h) (List.Sublist.refl _),hτ,hv1⟩
  rintro _ w44 ⟨v',τ',rfl,S,hτ',hv'⟩ d
  simp only [List.getD_cons_zero,List.getD_cons_succ]
  refine gp_ ?_
  exact hK37 v' τ' _ S hτ' hv'
 have hie : i=U.length:=by omega
 subst hie
 rw [List.take_length] at hv1 ⊢
 refine gg_ ?_
 exact h _ τ _ S.ext (StX.newOf (q:=τ) S hτ) hv1
end Go.Proofs
end
section
namespace Go.Proofs
open Go.Sh Go.RowKit Go.BM
set_option maxRecDepth 100000
set_option linter.unusedSimpArgs false
set_option linter.unusedVariables false
abbrev y7:=Int × List (BitVec 64)
theorem aaV {f : Int→Bool} {fv v : Value} {w : World} {r : Gh} {l : List Int} {K : Value→World→Prop} (hr : Holds r w) (hl : SlG 1 r zH v l) (hb : l.length≤1000000000)
  (hf : ∀ x ∈ l,∀ (K : Value→World→Prop),K (.bool (f x)) w→zK Tryz.prog fv #[.int .i64 x] w K) (h : ∀ i : Int,(0≤i↔l.any f=true)→K (.int .i64 i) w) : zd Tryz.prog Tryz.yE #[v,fv] w K:=by
 refine Tryz.ky ?_
 unfold Tryz.xn
 obtain ⟨p,cap,rfl,_,_⟩:=hl.shape
 refine gP_ ?_
 refine zi (ι:=Nat) (fun i=>[.int .i64 i]) (fun i w'=>w'=w∧i≤l.length∧(l.take i).any f=false) (fun i=>l.length - i) 0 rfl ⟨rfl,Nat.zero_le _,by simp⟩ ?_
 rintro i d w' ⟨rfl,hi,hn⟩ K6 hK6
 simp only [List.getD_cons_zero]
 refine gP_ ?_
 refine zk (fun hlt=>?_) (fun hge=>?_)
 ·have hlt : i<l.length:=by omega
  obtain ⟨b,off,rfl,_,hc⟩:=zY hl hlt
  refine gP_ ?_
  refine zg (by rw [Int.toNat_natCast];exact hc _ hr) ?_
  refine hf _ (List.getElem_mem hlt) _ ?_
  have ht : (l.take (i+1)).any f=((l.take i).any f||f l[i]):=by
   rw [List.take_succ_eq_append_getElem hlt,List.any_append];simp only [List.any_cons,List.any_nil,Bool.or_false]
  refine c_b (fun hy=>?_) (fun hno=>?_)
  ·exact h _ ⟨fun _=>List.any_eq_true.2 ⟨l[i],List.getElem_mem hlt,hy⟩,fun _=>Int.natCast_nonneg _⟩
  ·refine gP_ ?_
   refine hK6 (i+1) _ ⟨rfl,hlt,?_⟩ (by omega)
   rw [ht,hn,hno];rfl
 ·have : i=l.length:=by omega
  subst this
  rw [List.take_length] at hn
  exact h _ ⟨fun h=>by omega,fun h=>by rw [hn] at h;cases h⟩
theorem Q4 {f : Int→Bool} {fv v : Value} {w : World} {r : Gh} {l : List Int} {K : Value→World→Prop} (hr : Holds r w) (hl : SlG 1 r zH v l) (hb : l.length≤1000000000)
  (hf : ∀ x ∈ l,∀ (K : Value→World→Prop),K (.bool (f x)) w→zK Tryz.prog fv #[.int .i64 x] w K) (h : K (.bool (l.any f)) w) : zd Tryz.prog Tryz.zR #[v,fv] w K:=by
 refine Tryz.xV ?_
 unfold Tryz.yZ
 refine aaV hr hl hb hf fun i hi=>?_
 refine gP_ ?_
 have e : decide (i≥0)=l.any f:=by
  by_cases hh : l.any f=true
  ·rw [hh];exact decide_eq_true (hi.2 hh)
  ·rw [Bool.eq_false_iff.2 hh];exact decide_eq_false fun h=>hh (hi.1 h)
 rw [e];exact h
theorem ab8 {f : y7→Bool} {fv v : Value} {w : World} {r : Gh} {l : List y7} {K : Value→World→Prop} (hr : Holds r w) (hl : SlG 2 r (RwbC r) v l) (hb : l.length≤1000000000)
  (hf : ∀ x ∈ l,∀ (c : List Value) (w : World) (K : Value→World→Prop),Holds r w→RwbC r c x→(∀ w',Ext w w'→K (.bool (f x)) w')→zK Tryz.prog fv #[.agg c.toArray] w K)
  (h : ∀ (i : Int) w',Ext w w'→(0≤i↔l.any f=true)→K (.int .i64 i) w') : zd Tryz.prog Tryz.yB #[v,fv] w K:=by
 refine Tryz.qV ?_
 unfold Tryz.xr
 obtain ⟨p,cap,rfl,_,_⟩:=hl.shape
 have S:=St.start hr
 refine gP_ ?_
 refine zi (ι:=Nat) (fun i=>[.int .i64 i]) (fun i w'=>i≤l.length∧(l.take i).any f=false∧StX noX w r w' []) (fun i=>l.length - i) 0 rfl ⟨Nat.zero_le _,by simp,S⟩ ?_
 clear S
 rintro i d w' ⟨hi,hn,S⟩ K6 hK6
 simp only [List.getD_cons_zero]
 refine gP_ ?_
 refine zk (fun hlt=>?_) (fun hge=>?_)
 ·have hlt : i<l.length:=by omega
  obtain ⟨b,off,c,rfl,hcl,hcR,hcell⟩:=hl.get (by decide) hlt
  have hcR0:=hcR
  obtain ⟨pw,cw,rfl,_⟩:=hcR
  refine gP_ ?_
  refine zq (n:=2) rfl (fun j v hj=>by rw [Int.toNat_natCast];exact S.at (hcell j v hj)) ?_
  refine hf _ (List.getElem_mem hlt) _ _ _ S.holds hcR0 fun w2 e2=>?_
  have S:=S.go e2
  have ht : (l.take (i+1)).any f=((l.take i).any f||f l[i]):=by
   rw [List.take_succ_eq_append_getElem hlt,List.any_append];simp only [List.any_cons,List.any_nil,Bool.or_false]
  refine c_b (fun hy=>?_) (fun hno=>?_)
  ·exact h _ _ S.ext ⟨fun _=>List.any_eq_true.2 ⟨l[i],List.getElem_mem hlt,hy⟩,fun _=>Int.natCast_nonneg _⟩
  ·refine gP_ ?_
   refine hK6 (i+1) _ ⟨hlt,?_,S⟩ (by omega)
   rw [ht,hn,hno];rfl
 ·have : i=l.length:=by omega
  subst this
  rw [List.take_length] at hn
  exact h _ _ S.ext ⟨fun h=>by omega,fun h=>by rw [hn] at h;cases h⟩
theorem J1 {f : y7→Bool} {fv v : Value} {w : World} {r : Gh} {l : List y7} {K : Value→World→Prop} (hr : Holds r w) (hl : SlG 2 r (RwbC r) v l) (hb : l.length≤1000000000)
  (hf : ∀ x ∈ l,∀ (c : List Value) (w : World) (K : Value→World→Prop),Holds r w→RwbC r c x→(∀ w',Ext w w'→K (.bool (f x)) w')→zK Tryz.prog fv #[.agg c.toArray] w K)
  (h : ∀ w',Ext w w'→K (.bool (l.any f)) w') : zd Tryz.prog Tryz.yn #[v,fv] w K:=by
 refine Tryz.k0 ?_
 unfold Tryz.xe
 refine ab8 hr hl hb hf fun i w' e hi=>?_
 refine gP_ ?_
 have e2 : decide (i≥0)=l.any f:=by
  by_cases hh : l.any f=true
  ·rw [hh];exact decide_eq_true (hi.2 hh)
  ·rw [Bool.eq_false_iff.2 hh];exact decide_eq_false fun h=>hh (hi.1 h)
 rw [e2];exact h _ e
def k6 (g : GrD) (x : y7) : List Bool:=JP g.pts.length x.2
noncomputable def acQ (g : GrD) (x : Nat) (m : List Bool) (q : Nat) : Bool:=xx g x m q && !mk' m q
noncomputable def jG (g : GrD) (R : List y7) (x q : Nat) : Bool:=acQ g x (k6 g (R.getD x (0,[]))) q
def cls (b : Nat→Nat→Bool) (n k : Nat) : Option (Nat × Nat):=(List.range n).findSome? fun x=>(List.range k).findSome? fun q=>if b x q=true then some (x,q) else none
theorem agM {α : Type} {f : Nat→Option α} : ∀ {n x : Nat} {a : α},x<n→(∀ y<x,f y=none)→f x=some a→(List.range n).findSome? f=some a
 |n,x,a,hx,hb,hf=>by
  have e : List.range n=List.range x++(x::List.range' (x+1) (n - x - 1)):=by
   rw [← List.range'_succ,List.range_eq_range',List.range_eq_range',show n - x - 1+1=n - x by omega]
   have:=List.range'_append_1 (s:=0) (m:=x) (n:=n - x)
   rw [Nat.zero_add] at this
   rw [this];congr 1;omega
  rw [e,List.findSome?_append,List.findSome?_eq_none_iff.2 fun y hy=>hb y (List.mem_range.1 hy),List.findSome?_cons,hf]
  rfl
theorem air {b : Nat→Nat→Bool} {n k x q : Nat} (hx : x<n) (hq : q<k) (h1 : ∀ y<x,∀ p<k,b y p=false) (h2 : ∀ p<q,b x p=false) (h : b x q=true) : cls b n k=some (x,q):=
 agM hx (fun y hy=>List.findSome?_eq_none_iff.2 fun p hp=>by rw [h1 y hy p (List.mem_range.1 hp)];rfl) (agM hq (fun p hp=>by rw [h2 p hp];rfl) (by rw [h];rfl))
theorem acR {b : Nat→Nat→Bool} {n k : Nat} (h : ∀ y<n,∀ p<k,b y p=false) : cls b n k=none:=
 List.findSome?_eq_none_iff.2 fun y hy=>List.findSome?_eq_none_iff.2 fun p hp=>by rw [h y (List.mem_range.1 hy) p (List.mem_range.1 hp)];rfl
noncomputable def aaW (g : GrD) (R : List y7) : Option (Nat × Nat):=cls (jG g R) R.length g.pts.length
noncomputable def ZR (g : GrD) (x : y7) : Bool:=!BM.mayB x.1 x.2||decide (x.1≠g.pts.length)
noncomputable def J2 (g : GrD) (R : List y7) : Bool:=decide (R.length=g.tys.length) && !R.any (ZR g)
noncomputable def okC (u : UnD) (n : Int) (R : List y7) : Bool:=decide (fnE u n=0)&&(match u.fs[n.toNat]? with|some g=>J2 g R|none=>false)
noncomputable def XJ (u : UnD) (n : Int) (R : List y7) : Option (Nat × Nat):=match u.fs[n.toNat]? with|some g=>aaW g R|none=>none
noncomputable def aaX (u : UnD) (n : Int) (R : List y7) : Value:=if okC u n R=true then .tuple #[.int .i64 (((XJ u n R).getD (0,0)).1 : Nat),.int .i64 (((XJ u n R).getD (0,0)).2 : Nat),.bool (XJ u n R).isNone,.int .i64 0] else .tuple #[.int .i64 0,.int .i64 0,.bool false,.int .i64 2]
theorem J3 {ws : List (BitVec 64)} {k : Int} {b p cap} {w : World} {r : Gh} {K : Value→World→Prop} (hr : Holds r w) (h1 : Ob r fun w=>w.cell? ⟨b,1,none⟩=some (.slice p ws.length cap)) (hS : SlB 1 r WdC (.slice p ws.length cap) ws) (hk : 0≤k) (hk2 : k<64*ws.length) (hl : ws.length≤100000)
  (h : K (.bool (bit ws k.toNat)) w) : zK Tryz.prog (.func (.func Tryz.Xn) #[] #[.pointer (some ⟨b,0,none⟩)]) #[.int .i64 k] w K:=by
 refine Qg (by kernel_rfl) ?_
 refine Tryz.aaP ?_
 unfold Tryz.Xp
 have hlt : k.toNat / 64<ws.length:=by omega
 obtain ⟨b2,o2,rfl,_,hc⟩:=ab0 hS.sl hlt
 have hB : bit ws k.toNat=decide (((ws[k.toNat / 64] >>> (k.toNat % 64)) &&& BitVec.ofInt 64 1).toNat=(1 : Int)):=by
  rw [bit,List.getD_eq_getElem?_getD,List.getElem?_eq_getElem hlt,Option.getD_some,Bool.eq_iff_iff,decide_eq_true_eq,Xr]
 rw [hB] at h
 generalize ws[k.toNat / 64]=x at hc h
 refine gg_ ?_
 refine zg (h1 _ hr) ?_
 refine gg_ ?_
 refine zg (by rw [show (k / 64).toNat=k.toNat / 64 by omega];exact hc _ hr) ?_
 refine gg_ ?_
 rw [show (k % 64).toNat=k.toNat % 64 by omega]
 exact h
theorem afG {g : GrD} {x : y7} {v : Value} {b : Nat} {c : List Value} {w : World} {r : Gh} {K : Value→World→Prop} (hr : Holds r w) (hx : LookG r v g) (h1 : Ob r fun w=>w.cell? ⟨b,0,none⟩=some v) (hc : RwbC r c x)
  (h : ∀ w',Ext w w'→K (.bool (ZR g x)) w') : zK Tryz.prog (.func (.func Tryz.Xm) #[] #[.pointer (some ⟨b,0,none⟩)]) #[.agg c.toArray] w K:=by
 refine Qg (by kernel_rfl) ?_
 refine Tryz.aaO ?_
 unfold Tryz.Xo
 obtain ⟨W,ws⟩:=x
 have hc0:=hc
 obtain ⟨p,cap,rfl,hS⟩:=hc
 obtain ⟨bl,x1,x2,x3,x4,y1,y2,y3,y4,vn,rfl,hgg,hn,hcl⟩:=hx
 have S:=St.start hr
 refine S.box fun b2 w1 S=>?_
 have S : StX noX w r w1 [.cell b2 [.int .i64 W,.slice p ws.length cap] 72]:=S
 have S:=S.go (Ext.drew _)
 refine S.ldN (b:=b2) (vs:=[.int .i64 W,.slice p ws.length cap]) ?_
 refine ahm S.holds hc0.up fun w2 e2=>?_
 have S:=S.go e2
 refine gp_ ?_
 refine zj (c:=decide (W≠g.pts.length)) (fun _ K2 hK2=>?_) ?_
 ·refine gg_ ?_
  refine zg (S.at h1) ?_
  refine gg_ ?_
  refine zg (S.at (hcl 6 _ rfl)) ?_
  refine gg_ ?_
  exact hK2
 exact h _ S.ext
end Go.Proofs
end
section
namespace Go.Proofs
open Go.Sh Go.RowKit Go.BM
set_option maxRecDepth 100000
set_option linter.unusedSimpArgs false
set_option linter.unusedVariables false
theorem alC {g : GrD} {q : Nat} {p : PtD} (hp : g.pts[q]? = some p) (hq : q<(lkN g).length) : (lkN g)[q]=lkP p:=by
 have h1:=List.getElem?_eq_getElem hq
 have h2 : (lkN g)[q]? = some (lkP p):=by rw [lkN,List.getElem?_map,hp];rfl
 rw [h2] at h1
 exact (Option.some.inj h1).symm
theorem afH {g : GrD} {q : Nat} {p : PtD} (hp : g.pts[q]? = some p) {x : Int} : x ∈ nxt (zh g) (q : Int)↔x ∈ lkP p:=by
 rw [nxt,zh,List.getD_eq_getElem?_getD,List.getElem?_map,Int.toNat_natCast,hp,agG];rfl
theorem akM {g : GrD} {q : Nat} {p : PtD} (hp : g.pts[q]? = some p) {f : Int→Bool} : (lkP p).any f=(nxt (zh g) (q : Int)).any f:=by
 rw [Bool.eq_iff_iff,List.any_eq_true,List.any_eq_true]
 exact ⟨fun ⟨x,h1,h2⟩=>⟨x,(afH hp).2 h1,h2⟩,fun ⟨x,h1,h2⟩=>⟨x,(afH hp).1 h1,h2⟩⟩
theorem akN {p : PtD} : (lkP p).length≤2:=by
 rw [lkP,List.length_append]
 split<;>split<;>simp
set_option maxHeartbeats 4000000 in
theorem QS {u : UnD} {n : Int} {R : List y7} {v vr : Value} {w : World} {r : Gh} {K : Value→World→Prop} (hr : Holds r w) (hu : UnG r v u) (hR : SlG 2 r (RwbC r) vr R) (hRf : R.length≤1000000)
  (h : ∀ w',Ext w w'→K (aaX u n R) w') : zd Tryz.prog Tryz.jx #[v,.int .i64 n,vr] w K:=by
 refine Tryz.acN ?_
 unfold Tryz.QR
 have hu0:=hu
 obtain ⟨p0,cap0,vf,rfl,_,_,hst,hsl,hfn⟩:=hu
 obtain ⟨qf,capf,rfl,_,_⟩:=hfn.sl.shape
 have hR0:=hR
 obtain ⟨pr,cr,rfl,_,_⟩:=hR.shape
 have S:=St.start hr
 refine S.box fun b3 w1 S=>?_
 have S : StX noX w r w1 [.cell b3 [.slice p0 u.ss.length cap0,.slice qf u.fs.length capf,.int .i64 u.mn] 25]:=S
 refine S.ldB (b:=b3) ?_ rfl
 refine jX S.holds hu0 fun vx s w2 e2 n2 hg hz=>?_
 obtain ⟨S,_,as2⟩:=S.tell e2 n2
 refine gS_ ?_
 refine S.al fun b10 w3 S=>?_
 have hvx : vx.oneCell'=true:=by
  by_cases hE : fnE u n=0
  ·obtain ⟨g,_,_,hx⟩:=hg hE
   obtain ⟨b,_,_,_,_,_,_,_,_,_,rfl,_⟩:=hx
   rfl
  ·rw [hz hE];rfl
 refine S.st (b:=b10) (fun w4 S=>?_) (by simp) hvx
 have S : StX noX w (r.or s) w4 [.cell b10 [vx] 118,.cell b3 [.slice p0 u.ss.length cap0,.slice qf u.fs.length capf,.int .i64 u.mn] 25]:=S
 have S:=(S.frzAt b10).tl
 have h10 : Ob ((r.or s).or (Go.Sh.one b10 [vx] 118)) fun w=>w.cell? ⟨b10,0,none⟩=some vx:=fun w' hw'=>by
  have B : Blk w' b10 [vx] 118:=zJ w' (hw'.le (h:=inferInstance))
  exact B.cell 0
 have hg' : fnE u n=0→∃ g,u.fs[n.toNat]? = some g∧netU u n=zh g∧LookG ((r.or s).or (Go.Sh.one b10 [vx] 118)) vx g:=fun hE=>by
  obtain ⟨g,h1,h2,h3⟩:=hg hE
  exact ⟨g,h1,h2,h3.up⟩
 have hR1 : SlG 2 ((r.or s).or (Go.Sh.one b10 [vx] 118)) (RwbC ((r.or s).or (Go.Sh.one b10 [vx] 118))) (.slice pr R.length cr) R:=hR0.up' inferInstance fun _ _ h=>h.up
 clear hg hz hvx
 generalize (r.or s).or (Go.Sh.one b10 [vx] 118)=υ at S h10 hg' hR1
 have T:=S
 repeat clear S
 have S:=T
 clear T
 refine gp_ ?_
 refine zj (c:=!(match u.fs[n.toNat]? with|some g=>decide (R.length=g.tys.length)|none=>false)) (fun hb K2 hK2=>?_) ?_
 ·have hE : fnE u n=0:=by simpa using hb
  obtain ⟨g,hgi,hnu,hx⟩:=hg' hE
  obtain ⟨bl,x1,x2,x3,x4,y1,y2,y3,y4,vn,rfl,hgg,hn,hc⟩:=hx
  refine gg_ ?_
  refine zg (S.at h10) ?_
  refine gg_ ?_
  refine zg (S.at (hc 4 _ rfl)) ?_
  refine gg_ ?_
  simp only [hgi] at hK2
  have e : decide ((R.length : Int)≠(g.tys.length : Nat)) = !decide (R.length=g.tys.length):=by
   rw [← decide_not,decide_eq_decide];omega
  rw [e]
  exact hK2
 refine yJ (c:=match u.fs[n.toNat]? with|some g=>R.any (ZR g)|none=>false) (fun hb K2 hK2=>?_) fun w5 e5=>?_
 ·have hE : fnE u n=0:=by
   simp only [Bool.or_eq_false_iff,decide_eq_false_iff_not,Decidable.not_not] at hb
   exact hb.1
  obtain ⟨g,hgi,hnu,hx⟩:=hg' hE
  simp only [hgi] at hK2
  refine gp_ ?_
  refine J1 (f:=ZR g) S.holds hR1 (by omega) (fun x hxm c w K hr hc hK=>afG hr hx h10 hc hK) fun w5 e5=>hK2 _ e5
 have S:=S.go e5
 have hYe : okC u n R = !((decide (fnE u n≠0) || !(match u.fs[n.toNat]? with|some g=>decide (R.length=g.tys.length)|none=>false))||(match u.fs[n.toNat]? with|some g=>R.any (ZR g)|none=>false)):=by
  rw [okC]
  by_cases hE : fnE u n=0
  ·obtain ⟨g,hgi,_⟩:=hg' hE
   simp [hgi,hE,J2]
  ·simp [hE]
 refine c_b (fun hb=>?_) (fun hb=>?_)
 ·rw [hb] at hYe
  rw [aaX,hYe] at h
  exact h _ S.ext
 rw [hb] at hYe
 have hE : fnE u n=0:=by
  simp only [Bool.or_eq_false_iff,decide_eq_false_iff_not,Decidable.not_not] at hb
  exact hb.1.1
 obtain ⟨g,hgi,hnu,hx⟩:=hg' hE
 rw [aaX,hYe,XJ] at h
 simp only [hgi,Bool.not_false,if_true] at h
 simp only [hgi,Bool.or_eq_false_iff,Bool.not_eq_false',decide_eq_true_eq] at hb
 obtain ⟨⟨_,hRl⟩,hbad⟩:=hb
 have hF:=kI hE hgi
 have hnf:=hF.net.few
 have hmf:=hF.loc.few
 have hgl:=zS (g:=g)
 have hx0:=hx
 obtain ⟨bl,x1,x2,x3,x4,y1,y2,y3,y4,vn,rfl,hgg,hn,hc⟩:=hx
 refine gp_ ?_
 refine zi (ι:=Nat) (fun i=>[.int .i64 (i : Nat)]) (fun i w'=>i≤R.length∧(∀ y<i,∀ p<g.pts.length,jG g R y p=false)∧StX noX w υ w' []) (fun i=>R.length - i) 0 rfl ⟨Nat.zero_le _,fun y hy=>absurd hy (Nat.not_lt_zero _),S⟩ ?_
 repeat clear S
 rintro i d w17 ⟨hi,hpre,S⟩ K14 hK14
 rw [List.getD_cons_zero]
 refine gp_ ?_
 refine zk (fun hlt=>?_) (fun hge=>?_)
 ·have hlt : i<R.length:=by omega
  obtain ⟨bR,oR,cR,hpr,hcl,hcR,hcell⟩:=hR1.get (by decide) hlt
  have hok : ZR g R[i]=false:=by
   rw [Bool.eq_false_iff];intro hc;rw [List.any_eq_true.2 ⟨_,List.getElem_mem hlt,hc⟩] at hbad;cases hbad
  have hgD : R.getD i (0,[])=R[i]:=by rw [List.getD_eq_getElem?_getD,List.getElem?_eq_getElem hlt];rfl
  have hcI : ∀ q,jG g R i q=acQ g i (k6 g R[i]) q:=fun q=>by rw [jG,hgD]
  generalize R[i]=x at hcR hok hcI
  obtain ⟨W,ws⟩:=x
  obtain ⟨pw,cw,rfl,hS⟩:=hcR
  cases hpr
  rw [ZR,Bool.or_eq_false_iff,Bool.not_eq_false',decide_eq_false_iff_not,Decidable.not_not] at hok
  obtain ⟨hmay,hW⟩:=hok
  have hmay : BM.May W ws:=by
   by_cases hM : BM.May W ws
   ·exact hM
   ·rw [BM.mayB_false hM] at hmay;cases hmay
  have hW : W=(g.pts.length : Int):=hW
  have hwl : (ws.length : Int)=(W+63) / 64:=hmay.2.2.1
  have hmk : ∀ y : Int,isN (zh g) y→mk' (k6 g (W,ws)) y=bit ws y.toNat:=fun y hy=>agB hy.1 (by have:=hy.2;omega)
  refine gp_ ?_
  refine zq (n:=2) rfl (fun j v hj=>by rw [Int.toNat_natCast];exact S.at (hcell j v hj)) ?_
  refine S.al fun b12 w18 S=>?_
  refine S.stB (b:=b12) fun w19 S=>?_
  have S : StX noX w υ w19 [.cell b12 [.int .i64 W,.slice pw ws.length cw] 72]:=S
  have S:=S.frzAt b12
  have h12 : Ob (υ.or (Go.Sh.one b12 [.int .i64 W,.slice pw ws.length cw] 72)) fun w=>w.cell? ⟨b12,1,none⟩=some (.slice pw ws.length cw):=fun w' hw'=>by
   have B : Blk w' b12 [.int .i64 W,.slice pw ws.length cw] 72:=zJ w' (hw'.le (h:=inferInstance))
   exact B.cell 1
  have hS:=hS.cells (s:=υ.or (Go.Sh.one b12 [.int .i64 W,.slice pw ws.length cw] 72))
  have hx1:=hx0.up (s:=υ.or (Go.Sh.one b12 [.int .i64 W,.slice pw ws.length cw] 72))
  have h101:=h10.up (s:=υ.or (Go.Sh.one b12 [.int .i64 W,.slice pw ws.length cw] 72))
  have hc61:=(hc 6 _ rfl).up (s:=υ.or (Go.Sh.one b12 [.int .i64 W,.slice pw ws.length cw] 72))
  have hcv:=(hc 7 _ rfl).up (s:=υ.or (Go.Sh.one b12 [.int .i64 W,.slice pw ws.length cw] 72))
  have hn1:=NetG.up hn (s:=υ.or (Go.Sh.one b12 [.int .i64 W,.slice pw ws.length cw] 72))
  refine gp_ ?_
  refine zg (S.at h101) ?_
  refine gg_ ?_
  refine zg (S.at hc61) ?_
  refine gg_ ?_
  refine zi (ι:=Nat) (fun i=>[.int .i64 (i : Nat)]) (fun q w'=>q≤g.pts.length∧(∀ p<q,jG g R i p=false)∧StX noX w (υ.or (Go.Sh.one b12 [.int .i64 W,.slice pw ws.length cw] 72)) w' []) (fun q=>g.pts.length - q) 0 rfl ⟨Nat.zero_le _,fun y hy=>absurd hy (Nat.not_lt_zero _),S⟩ ?_
  repeat clear S
  rintro q d w23 ⟨hq,hpreq,S⟩ K20 hK20
  rw [List.getD_cons_zero]
  refine gp_ ?_
  refine zk (fun hltq=>?_) (fun hgeq=>?_)
  ·have hltq : q<g.pts.length:=by omega
   have hqN : isN (zh g) (q : Int):=⟨by omega,by omega⟩
   obtain ⟨p,hp,hpm,hue,hee⟩:=Qw hqN
   have hp' : g.pts[q]? = some p:=by rw [← hp,Int.toNat_natCast]
   have hus : decide (Usd g (i : Nat) (q : Int))=decide ((i : Int) ∈ zI p):=by rw [← hue];rfl
   have hen : decide (zD g (i : Nat) (q : Int))=decide (y6 p=some (i : Int)):=by rw [← hee];rfl
   have hnl : q<(lkN g).length:=by rw [Vo];omega
   have hat:=alC hp' hnl
   obtain ⟨pn,cn,hvn,_,_⟩:=hn1.sl.shape
   subst hvn
   obtain ⟨bn,on,vl,rfl,_,hnc,hnv⟩:=Vn hn1 hnl
   rw [hat] at hnv
   refine zg (S.at h101) ?_
   refine Zj S.holds hx1 hqN.1 hp (hF.args p hpm) fun w24 e24=>?_
   have S:=S.go e24
   refine gS_ ?_
   refine zj (c:=decide ((y6 p).getD 0≠i)) (fun _ K2 hK2=>by refine gg_ ?_;exact hK2) ?_
   have hEn : (!(y6 p).isSome||decide ((y6 p).getD 0≠(i : Int))) = !decide (zD g (i : Nat) (q : Int)):=by
    rw [hen]
    cases y6 p with
    |none=>rfl
    |some y=>simp
   rw [hEn]
   have hlN : ∀ y ∈ lkP p,isN (zh g) y:=fun y hy=>qC hF.net.ok ((afH hp').2 hy)
   have hlf:=akN (p:=p)
   refine zf (c:=(nxt (zh g) (q : Int)).any fun y=>mk' (k6 g (W,ws)) y) (fun _ K2 hK2=>?_) ?_
   ·refine zg (S.at h101) ?_
    refine gg_ ?_
    refine zg (S.at hcv) ?_
    refine gg_ ?_
    refine zg (by rw [Int.toNat_natCast];exact S.at hnc) ?_
    refine Q4 (f:=fun y=>mk' (k6 g (W,ws)) y) S.holds hnv.sl (by omega) (fun y hy K hK=>?_) ?_
    ·have hyN:=hlN y hy
     have y0:=hyN.1;have y1:=hyN.2
     refine J3 S.holds h12 hS y0 (by omega) (by omega) ?_
     rw [← hmk y hyN];exact hK
    ·rw [akM hp']
     exact hK2
   refine yJ (c:=decide (Usd g (i : Nat) (q : Int))) (fun _ K2 hK2=>?_) fun w37 e37=>?_
   ·refine zg (S.at h101) ?_
    refine XH S.holds hx1 hqN.1 hp (hF.args p hpm) fun w38 e38=>?_
    rw [← hus]
    exact hK2 _ e38
   have S:=S.go e37
   refine zf (c:=!mk' (k6 g (W,ws)) (q : Int)) (fun _ K2 hK2=>?_) ?_
   ·refine J3 S.holds h12 hS hqN.1 (by omega) (by omega) ?_
    refine gp_ ?_
    rw [hmk _ hqN] at hK2
    exact hK2
   have hcc : ((!decide (zD g (i : Nat) (q : Int))&&((nxt (zh g) (q : Int)).any fun y=>mk' (k6 g (W,ws)) y)||decide (Usd g (i : Nat) (q : Int))) && !mk' (k6 g (W,ws)) (q : Int))=jG g R i q:=by
    rw [hcI,acQ,xx,Bool.or_comm (decide (Usd g (i : Nat) (q : Int)))]
   rw [hcc]
   refine c_b (fun hb=>?_) (fun hb=>?_)
   ·have e:=air (b:=jG g R) hlt hltq hpre hpreq hb
    rw [aaW,e] at h
    exact h _ S.ext
   ·refine gp_ ?_
    exact hK20 (q+1) _ ⟨hltq,fun p hp=>by
     rcases Nat.lt_or_ge p q with h|h
     ·exact hpreq p h
     ·rw [show p=q by omega];exact hb,S⟩ (by omega)
  ·have hqe : q=g.pts.length:=by omega
   subst hqe
   refine gp_ ?_
   exact hK14 (i+1) _ ⟨hlt,fun y hy=>by
    rcases Nat.lt_or_ge y i with h|h
    ·exact hpre y h
    ·rw [show y=i by omega];exact hpreq,S.less (fun b o h=>.inl h) (List.Sublist.refl _)⟩ (by omega)
 ·have hie : i=R.length:=by omega
  subst hie
  rw [aaW,acR hpre] at h
  exact h _ S.ext
end Go.Proofs
end
