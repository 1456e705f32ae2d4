/-
  What is cleared: the end of a slice of one's own.
  Contracts: a function, a point of a program; Assigns, Type, Operands of graph.
  graph.Text, graph.Lines, graph.Next.
  Shallow readings of functions. Made by a program (wip/gen/gen.py) out of the translation; the kernel checks each equality.
  Points compared: slices.EqualFunc of any kind; places, operands, points.
  graph.Same: two programs are the same.
  graph.Same: points, graphs, structs, units compared.
  graph.Same: graphs, structs, units compared.
  loanwordlaw10: fits; graph.Next.
  Contracts: the operands of a point.
  Shapes: what regions say nothing of; the plain law of RegionShapes.
  Contracts: Operands of graph.
  graph.Next; the example of law 10.
  loanwordlaw10: awake.
-/
import Derived.Test.YtngfnikkdhbajaaGreatDoorQSd
import Derived.Test.YtngfnikkdhbajaaGreatDoorQSc
import GoSem.Builtin.Clear
import Derived.Test.YtngfnikkdhbajaaGreatDoorQSb
section
namespace Go.Sh
open Go.RowKit
theorem ab3 (z : Array Value) (n : Nat) : (Go.Builtin.zeroCells z n).toList.length=n*z.size∧∀ u ∈ (Go.Builtin.zeroCells z n).toList,u ∈ z.toList:=by
 refine ⟨by simp [Go.Builtin.zeroCells],fun u hu=>?_⟩
 simp only [Go.Builtin.zeroCells,Array.toList_map,Array.toList_range,List.mem_map,List.mem_range] at hu
 obtain ⟨i,hi,rfl⟩:=hu
 have hz : 0<z.size:=by
  rcases Nat.eq_zero_or_pos z.size with h|h
  ·rw [h,Nat.mul_zero] at hi;omega
  ·exact h
 have hm:=Nat.mod_lt i hz
 rw [getElem!_pos z (i % z.size) hm]
 simp
section
variable {P : Program} {X : Nat→Prop} {w0 w : World} {r : Gh} {L : List Asr} {t e T ty : TypeId} {b sz n off cap : Nat} {c z : List Value} {f : List Value→List Asr}
theorem StX.clr {K : Value→World→Prop} (S : StX X w0 r w L) [h : At b L c T f] [hs : SlT P t e sz] [hz : ZrT P e z] (hl : off+n*z.length≤c.length) (h1 : ∀ u ∈ z,u.oneCell'=true)
  (k : ∀ c' w',c'.length=c.length→c'.take off=c.take off→StX X w0 r w' (f c')→K (.tuple #[]) w') : opW P w (Builtin.clear_ #[t] ty #[.slice (some ⟨b,off,none⟩) n cap]) K:=by
 have hT:=hs.h
 unfold slT at hT
 cases hu : P.underlying t with
 |none=>rw [hu] at hT;cases hT
 |some d=>
  rw [hu] at hT
  cases d<;>first|(cases hT;done)|skip
  rename_i e'
  simp only [Option.map_eq_some_iff,Prod.mk.injEq] at hT
  obtain ⟨m,hm,rfl,rfl⟩:=hT
  have B:=S.blk b (h:=h)
  obtain ⟨zv,hzc,hzr⟩:=Ql hz.h
  cases n with
  |zero=>
   have S' : StX X w0 r w (f c):=by
    obtain ⟨p,q,h1,h2⟩:=h.h
    rw [h2,← h1];exact S
   refine ⟨_,w,?_,k c w rfl rfl S'⟩
   simp [Builtin.clear_,run_underlying hu,Sem.run_bind,Sem.run,pure,Result.andThen]
  |succ n=>
   obtain ⟨hzl,hzm⟩:=ab3 zv.cells (n+1)
   have hzs : zv.cells.size=z.length:=by rw [← hzc,Array.length_toList]
   have hst:=run_storeCells_at P b off T (Go.Builtin.zeroCells zv.cells (n+1)).toList 0 c.toArray w B (by
    rw [hzl,hzs];simpa using hl) (fun u hu=>h1 u (by rw [← hzc];exact hzm u hu))
   simp only [Nat.add_zero] at hst
   obtain ⟨f1,f2,f3⟩:=Yt B (c.take off++(Go.Builtin.zeroCells zv.cells (n+1)).toList++c.drop (off+(Go.Builtin.zeroCells zv.cells (n+1)).toList.length))
   refine ⟨_,_,?_,k _ _ ?_ ?_ (S.turnC (h:=h) f1 f3)⟩
   ·simp [Builtin.clear_,run_underlying hu,Sem.run_bind,Sem.run,pure,Result.andThen,hzr,hst]
    try rfl
   ·simp only [List.length_append,List.length_take,List.length_drop,hzl,hzs];omega
   ·rw [List.append_assoc,List.take_append_of_le_length (by rw [List.length_take];omega),List.take_take,Nat.min_self]
end
end Go.Sh
end
section
namespace Go.Proofs
open Go.Sh
set_option maxRecDepth 100000
set_option linter.unusedSimpArgs false
set_option linter.unusedVariables false
theorem qV {u : UnD} {g : GrD} {p : PtD} (h : zP u g p=true) : ptG u g p=true:=by
 rw [zP,Bool.and_eq_true] at h;exact h.2
theorem ahs {u : UnD} {g : GrD} {p : PtD} (h : zP u g p=true) (ho : 1≤p.op∧p.op≤8) : (zj u.ss g.tys p.to).2.2=true:=by
 have h2:=qV h
 cases hf : (zj u.ss g.tys p.to).2.2 with
 |true=>rfl
 |false=>
  have hc : p.op=1∨p.op=2∨p.op=3∨p.op=4∨p.op=5∨p.op=6∨p.op=7∨p.op=8:=by omega
  rw [ptG] at h2
  rcases hc with hc|hc|hc|hc|hc|hc|hc|hc<;>simp [hc,hf] at h2
theorem vI {ss : List StD} {tys : List TyD} {p : PlD} (h : (zj ss tys p).2.2=true) : p.ps.length≤8:=by
 unfold zj at h
 split at h
 ·simpa using h
 ·cases h
theorem aet {u : UnD} {g : GrD} {p : PtD} (h : zP u g p=true) (ho : 1≤p.op∧p.op≤8) : p.to.ps.length≤8:=vI (ahs h ho)
noncomputable def fnE (u : UnD) (n : Int) : Int:=if (decide (n<0)||decide ((u.fs.length : Int)≤n)) || !kD u then 2 else 0
theorem k8 {u : UnD} {n : Int} (h : fnE u n=0) : MayU u∧0≤n∧n.toNat<u.fs.length:=by
 unfold fnE at h
 split at h
 ·cases h
 ·rename_i hc
  simp only [Bool.or_eq_true,decide_eq_true_eq,Bool.not_eq_true',not_or,Bool.not_eq_false] at hc
  exact ⟨xN.1 hc.2,by omega,by omega⟩
noncomputable def ptE (u : UnD) (n q : Int) : Int:=if fnE u n=0∧0≤q∧q<((u.fs[n.toNat]?.map fun g=>(g.pts.length : Int)).getD 0) then 0 else 2
theorem ZG {u : UnD} {n q : Int} (h : ptE u n q=0) : fnE u n=0∧0≤q∧∃ hn : n.toNat<u.fs.length,q.toNat<u.fs[n.toNat].pts.length:=by
 unfold ptE at h
 split at h
 ·rename_i hc
  obtain ⟨h1,h2,h3⟩:=hc
  have hn:=(k8 h1).2.2
  rw [List.getElem?_eq_getElem hn] at h3
  have h3 : q<(u.fs[n.toNat].pts.length : Int):=h3
  exact ⟨h1,h2,hn,by omega⟩
 ·cases h
def ahT : GrD:=⟨ByteArray.empty,0,[],0,[],[],[]⟩
abbrev agG : List Value:=[.string ByteArray.empty,.int .i64 0,.slice none 0 0,.int .i64 0,.slice none 0 0,.slice none 0 0,.slice none 0 0]
theorem aic {r : Gh} : GrG r agG ahT:=⟨_,_,_,_,rfl,xH,xH,xH,xH⟩
abbrev grL (g : GrD) (q1 q2 q3 q4 : Option Addr) (c1 c2 c3 c4 : Nat) : List Value:=[.string g.name,.int .i64 g.lv,.slice q1 g.outs.length c1,.int .i64 g.pn,.slice q2 g.tys.length c2,.slice q3 g.nms.length c3,.slice q4 g.pts.length c4]
theorem xV {r : Gh} {c : List Value} {g : GrD} (h : GrG r c g) : ∃ q1 q2 q3 q4 c1 c2 c3 c4,c=grL g q1 q2 q3 q4 c1 c2 c3 c4∧GrG r (grL g q1 q2 q3 q4 c1 c2 c3 c4) g:=by
 obtain ⟨vo,vt,vn,vp,rfl,k1,k2,k3,k4⟩:=id h
 obtain ⟨q1,c1,rfl,_⟩:=k1.sl.shape
 obtain ⟨q2,c2,rfl,_⟩:=k2.sl.shape
 obtain ⟨q3,c3,rfl,_⟩:=k3.sl.shape
 obtain ⟨q4,c4,rfl,_⟩:=k4.sl.shape
 exact ⟨q1,q2,q3,q4,c1,c2,c3,c4,rfl,h⟩
theorem Qz {u : UnD} {n : Int} {v : Value} {w : World} {r : Gh} {K : Value→World→Prop} (hr : Holds r w) (hu : UnG r v u)
  (h : ∀ c g w',Ext w w'→GrG r c g→(fnE u n=0→u.fs[n.toNat]? = some g)→(fnE u n≠0→g.pts = [])→K (.tuple #[.agg c.toArray,.int .i64 (fnE u n)]) w') : zd Tryz.prog Tryz.vi #[v,.int .i64 n] w K:=by
 refine Tryz.aeS ?_
 unfold Tryz.aaL
 have hu0:=hu
 obtain ⟨p0,cap0,vf,rfl,_,_,hst,hsl,hfn⟩:=hu
 obtain ⟨qf,capf,rfl,_,_⟩:=hfn.sl.shape
 have hfl : u.fs.length≤9223372036854775807:=hfn.few
 have S:=St.start hr
 refine S.box fun b2 w1 S=>?_
 have S : StX noX w r w1 [.cell b2 [.slice p0 u.ss.length cap0,.slice qf u.fs.length capf,.int .i64 u.mn] 25]:=S
 refine S.al fun b4 w2 S=>?_
 refine gp_ ?_
 refine zf (c:=decide ((u.fs.length : Int)≤n)) (fun _ K2 hK2=>by refine gg_ ?_;exact hK2) ?_
 refine ym (c:=!kD u) (fun _ K2 hK2=>?_) fun w3 e3=>?_
 ·refine S.ldB (b:=b2) ?_ rfl
  refine jt S.holds hu0 fun w3 e3=>?_
  refine gp_ ?_
  exact hK2 _ e3
 have S:=S.go e3
 refine c_b (fun hb=>?_) (fun hb=>?_)
 ·have hE : fnE u n=2:=by rw [fnE,if_pos hb]
  rw [hE] at h
  refine zx (cs:=agG.toArray) (by kernel_rfl) ?_
  refine S.stB (b:=b4) fun w4 S=>?_
  refine S.ceB (b:=b4) ?_ rfl
  exact h _ ahT _ S.ext aic (fun h=>by cases h) fun _=>rfl
 ·have hE : fnE u n=0:=by rw [fnE,if_neg (by rw [hb];decide)]
  obtain ⟨_,hn0,hlt⟩:=k8 hE
  rw [hE] at h
  obtain ⟨bf,of,cf,rfl,hcf,hgc,hfo⟩:=hfn.sl.get (by decide) hlt
  rw [List.getElem?_eq_getElem hlt] at h
  generalize u.fs[n.toNat]=g at h hgc
  obtain ⟨x1,x2,x3,x4,y1,y2,y3,y4,rfl,hg0⟩:=xV hgc
  refine gg_ ?_
  refine zq (n:=7) hcf (fun j v hj=>S.at (hfo j v hj)) ?_
  refine S.stB (b:=b4) fun w4 S=>?_
  refine S.ceB (b:=b4) ?_ rfl
  exact h _ g _ S.ext hg0 (fun _=>rfl) fun h=>absurd rfl h
theorem k9 {u : UnD} {n q : Int} {v : Value} {w : World} {r : Gh} {K : Value→World→Prop} (hr : Holds r w) (hu : UnG r v u)
  (h : ∀ c p w',Ext w w'→PtG r c p→(ptE u n q=0→jn u n q=some p)→K (.tuple #[.agg c.toArray,.int .i64 (ptE u n q)]) w') : zd Tryz.prog Tryz.xR #[v,.int .i64 n,.int .i64 q] w K:=by
 refine Tryz.abJ ?_
 unfold Tryz.QK
 have hu0:=hu
 obtain ⟨p0,cap0,vf,rfl,_,_,hst,hsl,hfn⟩:=hu
 obtain ⟨qf,capf,rfl,_,_⟩:=hfn.sl.shape
 have S:=St.start hr
 refine S.box fun b3 w1 S=>?_
 have S : StX noX w r w1 [.cell b3 [.slice p0 u.ss.length cap0,.slice qf u.fs.length capf,.int .i64 u.mn] 25]:=S
 refine S.al fun b6 w2 S=>?_
 refine S.ldB (b:=b3) ?_ rfl
 refine Qz S.holds hu0 fun c g w3 e3 hg hgi _=>?_
 have S:=S.go e3
 obtain ⟨x1,x2,x3,x4,y1,y2,y3,y4,rfl,hg0⟩:=xV hg
 refine gS_ ?_
 refine S.al fun b8 w4 S=>?_
 refine S.stB (b:=b8) fun w5 S=>?_
 refine gp_ ?_
 refine zf (c:=decide (q<0)) (fun _ K2 hK2=>by refine gg_ ?_;exact hK2) ?_
 refine zf (c:=decide ((g.pts.length : Int)≤q)) (fun _ K2 hK2=>by refine gg_ ?_;exact hK2) ?_
 have hP : ptE u n q=if ((decide (fnE u n≠0)||decide (q<0))||decide ((g.pts.length : Int)≤q))=true then 2 else 0:=by
  unfold ptE
  by_cases h0 : fnE u n=0
  ·have e : ((u.fs[n.toNat]?.map fun g=>(g.pts.length : Int)).getD 0)=g.pts.length:=by rw [hgi h0];rfl
   rw [e]
   by_cases h1 : q<0
   ·rw [if_neg (by omega),if_pos (by rw [decide_eq_true h1];simp)]
   by_cases h2 : (g.pts.length : Int)≤q
   ·rw [if_neg (by omega),if_pos (by rw [decide_eq_true h2];simp)]
   ·rw [if_pos ⟨h0,by omega,by omega⟩,if_neg (by rw [decide_eq_false (show ¬ fnE u n≠0 by omega),decide_eq_false h1,decide_eq_false h2];decide)]
  ·rw [if_neg (fun hh=>h0 hh.1),if_pos (by rw [decide_eq_true (show fnE u n≠0 from h0)];rfl)]
 refine c_b (fun hb=>?_) (fun hb=>?_)
 ·rw [if_pos hb] at hP
  rw [hP] at h
  refine zx (cs:=afk.toArray) (by kernel_rfl) ?_
  refine S.stB (b:=b6) fun w6 S=>?_
  refine S.ceB (b:=b6) ?_ rfl
  exact h _ agF _ S.ext ahr fun h=>by cases h
 ·rw [if_neg (by rw [hb];decide)] at hP
  rw [hP] at h
  simp only [Bool.or_eq_false_iff,decide_eq_false_iff_not] at hb
  obtain ⟨⟨hf,hq0⟩,hql⟩:=hb
  have hgn:=hgi (by omega)
  obtain ⟨_,_,_,_,hE,_,_,_,hpts⟩:=hg0
  cases hE
  have hlq : q.toNat<g.pts.length:=by omega
  obtain ⟨bp,op,cp,rfl,hcp,hpc,hpo⟩:=hpts.sl.get (by decide) hlq
  have hpa : jn u n q=some g.pts[q.toNat]:=by rw [jn,hgn,Option.bind_some,List.getElem?_eq_getElem hlq]
  rw [hpa] at h
  generalize g.pts[q.toNat]=p at h hpc
  obtain ⟨z1,z2,z3,z4,z5,t1,t2,t3,t4,t5,rfl,hp0⟩:=yj hpc
  refine gg_ ?_
  refine zq (n:=21) hcp (fun j v hj=>S.at (hpo j v hj)) ?_
  refine S.stB (b:=b6) fun w6 S=>?_
  refine S.ceB (b:=b6) ?_ rfl
  exact h _ p _ S.ext hp0 fun _=>rfl
theorem agH {r : Gh} {p : Option Addr} {n cap : Nat} {l : List Int} (h : SlB 1 r vB (.slice p n cap) l) : Ob r fun w=>Sl w p (ints l):=aib (h.sl.mono fun c x hx=>hx.1)
theorem agI {l : List Int} (h : ∀ x ∈ l,xn x) : RowOf 1 vB (ints l) l:=⟨by rw [qQ,Nat.mul_one],fun j hj=>by
 refine ⟨?_,h _ (List.getElem_mem hj)⟩
 rw [Nat.mul_one,ints,← List.map_drop,← List.map_take,List.drop_eq_getElem_cons hj];rfl⟩
theorem ae0 {l : List Int} {p : Option Addr} {cap : Nat} {w : World} {r : Gh} {K : Value→World→Prop} (hr : Holds r w) (hl : SlB 1 r vB (.slice p l.length cap) l) (hb : l.length≤1000000)
  (h : ∀ v' s w',Ext w w'→New w s w'→SlB 1 s vB v' l→K v' w') : zd Tryz.prog Tryz.yK #[.slice p l.length cap] w K:=by
 refine Tryz.jq ?_
 unfold Tryz.xL
 have S:=St.start hr
 have hin : ∀ x ∈ l,xn x:=fun x hx=>by
  obtain ⟨i,hi,rfl⟩:=List.getElem_of_mem hx
  obtain ⟨_,_,_,_,_,hc,_⟩:=hl.sl.get (by decide) hi
  exact hc.2
 obtain ⟨_,_,hE,hp,_⟩:=hl.sl.shape
 cases hE
 refine ag3 (e:=138) (n:=1) (by kernel_rfl) ?_
 refine c_b (fun hn=>?_) (fun hn=>?_)
 ·have hws : l = []:=by
   cases l with
   |nil=>rfl
   |cons a l=>obtain ⟨b,off,hb,_⟩:=(agH hl w hr) 0 (.int .i64 a) rfl;rw [hb] at hn;cases hn
  subst hws
  exact h _ nothing _ S.ext New.nothing xH
 refine S.lit (e:=138) (cs:=[]) (by kernel_rfl) fun b w1 S=>?_
 have S : StX noX w r w1 [.row (.slice (some ⟨b,0,none⟩) 0 0) 138 1 0 []]:=by
  refine ⟨S.x,S.holds,fun x hx=>?_,fun x hx k hk=>?_,List.pairwise_singleton _ _⟩
  ·rw [List.mem_singleton.1 hx]
   have:=j8 (w:=w1) (base:=0) (size:=1) (n:=0) (cap:=0) (Nat.zero_le _) (S.has (.cell b [] 138) (by simp)) (Nat.le_refl _) (by simp [maxLen]) rfl
   exact this
  ·rw [List.mem_singleton.1 hx] at hk
   exact S.mine (.cell b [] 138) (by simp) k (by cases hk;rfl)
 refine S.ap (v:=.slice (some ⟨b,0,none⟩) 0 0) (S.at (agH hl)) (fun v2 w2 S=>?_) (by omega) (by rw [qQ];omega) hp (agf _)
 obtain ⟨s,S,hs,_,ha⟩:=S.doneRow (l:=l) (R:=vB) (sz:=1) (by rw [List.nil_append];exact agI hin) (by decide) (by omega)
 exact h _ s _ S.ext (S.newOf fun b o ho=>(ha b o ho).resolve_right id) ⟨hs,by simp only [maxLen];omega⟩
theorem jO {p : PlD} {c : List Value} {w : World} {r : Gh} {K : Value→World→Prop} (hr : Holds r w) (hp : PlG r c p) (hb : p.ps.length≤1000000)
  (h : ∀ c' s w',Ext w w'→New w s w'→PlG s c' p→K (.agg c'.toArray) w') : zd Tryz.prog Tryz.kM #[.agg c.toArray] w K:=by
 refine Tryz.Vr ?_
 unfold Tryz.YM
 obtain ⟨v,rfl,hl⟩:=hp
 obtain ⟨qs,caps,rfl,_,_⟩:=hl.sl.shape
 have S:=St.start hr
 refine S.box fun b1 w1 S=>?_
 have S : StX noX w r w1 [.cell b1 [.int .i64 p.l,.slice qs p.ps.length caps] 38]:=S
 refine S.al fun b2 w2 S=>?_
 have S:=S.go (Ext.drew _)
 refine gg_ ?_
 refine ae0 S.holds hl hb fun v3 s w3 e3 n3 h3=>⟨e3,?_⟩
 obtain ⟨S,d3,a3⟩:=S.tell e3 n3
 obtain ⟨q3,c3,rfl,_,_⟩:=h3.sl.shape
 refine zx (cs:=#[.int .i64 p.l,.slice q3 p.ps.length c3]) (by kernel_rfl) ?_
 refine S.stB (b:=b2) fun w4 S=>?_
 refine S.ceB (b:=b2) ?_ rfl
 exact h _ s _ S.ext (S.newOf a3) ⟨_,rfl,h3⟩
theorem JQ {o : OpD} {c : List Value} {w : World} {r : Gh} {K : Value→World→Prop} (hr : Holds r w) (ho : OpG r c o) (hb : o.pl.ps.length≤1000000)
  (h : ∀ c' s w',Ext w w'→New w s w'→OpG s c' o→K (.agg c'.toArray) w') : zd Tryz.prog Tryz.qL #[.agg c.toArray] w K:=by
 refine Tryz.Q8 ?_
 unfold Tryz.ZA
 obtain ⟨v,rfl,hl⟩:=ho
 obtain ⟨qs,caps,rfl,_,_⟩:=hl.sl.shape
 have S:=St.start hr
 refine S.box fun b1 w1 S=>?_
 have S : StX noX w r w1 [.cell b1 [.int .u8 o.k,.int .i64 o.n,.int .i64 o.pl.l,.slice qs o.pl.ps.length caps] 41]:=S
 refine S.al fun b2 w2 S=>?_
 refine gg_ ?_
 refine S.ldN (b:=b1) ?_
 refine jO (p:=o.pl) S.holds ⟨_,rfl,hl⟩ hb fun c3 s w3 e3 n3 h3=>?_
 obtain ⟨S,d3,a3⟩:=S.tell e3 n3
 obtain ⟨v3,rfl,hl3⟩:=h3
 obtain ⟨q3,k3,rfl,_,_⟩:=hl3.sl.shape
 refine gg_ ?_
 refine S.stN (b:=b1) fun w4 S=>?_
 refine S.ldB (b:=b1) ?_ rfl
 refine S.stB (b:=b2) fun w5 S=>?_
 refine S.ceB (b:=b2) ?_ rfl
 exact h _ s _ S.ext (S.newOf a3) ⟨_,rfl,hl3⟩
noncomputable def JR (u : UnD) (n q : Int) : Option PlD:=if ptE u n q≠0 then none else match jn u n q with|some p=>if p.op<1∨8<p.op then none else some p.to|none=>none
theorem abg {u : UnD} {n q : Int} {v : Value} {w : World} {r : Gh} {K : Value→World→Prop} (hr : Holds r w) (hu : UnG r v u)
  (hN : ∀ e w',JR u n q=none→Ext w w'→K (.tuple #[.agg #[.int .i64 0,.slice none 0 0],.bool false,.int .i64 e]) w')
  (hS : ∀ p c s w',JR u n q=some p→Ext w w'→New w s w'→PlG s c p→K (.tuple #[.agg c.toArray,.bool true,.int .i64 0]) w') : zd Tryz.prog Tryz.xY #[v,.int .i64 n,.int .i64 q] w K:=by
 refine Tryz.YK ?_
 unfold Tryz.vy
 have hu0:=hu
 obtain ⟨p0,cap0,vf,rfl,_,_,hst,hsl,hfn⟩:=hu
 obtain ⟨qf,capf,rfl,_,_⟩:=hfn.sl.shape
 have S:=St.start hr
 refine S.box fun b3 w1 S=>?_
 have S : StX noX w r w1 [.cell b3 [.slice p0 u.ss.length cap0,.slice qf u.fs.length capf,.int .i64 u.mn] 25]:=S
 refine S.al fun b6 w2 S=>?_
 refine S.ldB (b:=b3) ?_ rfl
 refine k9 S.holds hu0 fun c p w3 e3 hp hpi=>?_
 have S:=S.go e3
 obtain ⟨z1,z2,z3,z4,z5,t1,t2,t3,t4,t5,rfl,hp0⟩:=yj hp
 refine gS_ ?_
 refine S.al fun b9 w4 S=>?_
 refine S.stB (b:=b9) fun w5 S=>?_
 refine gp_ ?_
 refine zf (c:=decide (p.op<1)) (fun _ K2 hK2=>by refine gg_ ?_;exact hK2) ?_
 refine zf (c:=decide (8<p.op)) (fun _ K2 hK2=>by refine gg_ ?_;exact hK2) ?_
 refine c_b (fun hb=>?_) (fun hb=>?_)
 ·have hA : JR u n q=none:=by
   unfold JR
   by_cases h0 : ptE u n q=0
   ·rw [if_neg (by omega),hpi h0]
    simp only [Bool.or_eq_true,decide_eq_true_eq] at hb
    dsimp only
    rw [if_pos (by omega)]
   ·rw [if_pos h0]
  refine S.ldB (b:=b6) ?_ rfl
  refine S.stB (b:=b6) fun w6 S=>?_
  refine S.ceB (b:=b6) ?_ rfl
  exact hN _ _ hA S.ext
 ·simp only [Bool.or_eq_false_iff,decide_eq_false_iff_not] at hb
  have h0 : ptE u n q=0:=by omega
  have hA : JR u n q=some p.to:=by
   unfold JR
   rw [if_neg (by omega),hpi h0]
   dsimp only
   rw [if_neg (by omega)]
  obtain ⟨_,_,_,_,_,hE,k1,_⟩:=id hp0
  cases hE
  have hpl : p.to.ps.length≤1000000:=by
   obtain ⟨hf,hq0,hn,hql⟩:=ZG h0
   obtain ⟨hM,_,_⟩:=k8 hf
   obtain ⟨_,hpe⟩:=aan hn (hpi h0)
   have hpg:=hM.pts _ (List.getElem_mem hn) p (by rw [← hpe];exact List.getElem_mem _)
   have:=aet hpg (by omega)
   omega
  refine gg_ ?_
  refine S.ldN (b:=b9) ?_
  refine jO (p:=p.to) S.holds ⟨_,rfl,k1⟩ hpl fun c6 s w6 e6 n6 h6=>?_
  obtain ⟨S,d6,a6⟩:=S.tell e6 n6
  obtain ⟨v6,rfl,hl6⟩:=id h6
  obtain ⟨q6,k6,rfl,_,_⟩:=hl6.sl.shape
  refine S.stB (b:=b6) fun w7 S=>?_
  refine S.ceB (b:=b6) ?_ rfl
  exact hS _ _ s _ hA S.ext (S.newOf a6) h6
noncomputable def XL (u : UnD) (n : Int) (p : PlD) : TyD × Int:=if fnE u n≠0 then (zD,2) else match u.fs[n.toNat]? with
 |some g=>if (zj u.ss g.tys p).2.2 then ((zj u.ss g.tys p).1,0) else (zD,2)|none=>(zD,2)
theorem aeu {u : UnD} {n : Int} {p : PlD} {c : List Value} {v : Value} {w : World} {r : Gh} {K : Value→World→Prop} (hr : Holds r w) (hu : UnG r v u) (hp : PlG r c p)
  (h : ∀ v' sn w',Ext w w'→New w sn w'→TyG sn v' (XL u n p).1→K (.tuple #[v',.int .i64 (XL u n p).2]) w') : zd Tryz.prog Tryz.Yw #[v,.int .i64 n,.agg c.toArray] w K:=by
 refine Tryz.acM ?_
 unfold Tryz.Jl
 have hu0:=hu
 obtain ⟨p0,cap0,vf,rfl,_,_,hst,hsl,hfn⟩:=hu
 obtain ⟨qf,capf,rfl,_,_⟩:=hfn.sl.shape
 obtain ⟨vq,rfl,hl⟩:=id hp
 obtain ⟨qs,caps,rfl,_,_⟩:=hl.sl.shape
 have S:=St.start hr
 refine S.box fun b3 w1 S=>?_
 have S : StX noX w r w1 [.cell b3 [.slice p0 u.ss.length cap0,.slice qf u.fs.length capf,.int .i64 u.mn] 25]:=S
 refine S.box fun b5 w2 S=>?_
 have S : StX noX w r w2 [.cell b5 [.int .i64 p.l,.slice qs p.ps.length caps] 38,.cell b3 [.slice p0 u.ss.length cap0,.slice qf u.fs.length capf,.int .i64 u.mn] 25]:=S
 refine S.al fun b6 w3 S=>?_
 refine S.ldB (b:=b3) ?_ rfl
 refine Qz S.holds hu0 fun cg g w4 e4 hg hgi _=>?_
 have S:=S.go e4
 obtain ⟨x1,x2,x3,x4,y1,y2,y3,y4,rfl,hg0⟩:=xV hg
 refine gS_ ?_
 refine S.al fun b8 w5 S=>?_
 refine S.stB (b:=b8) fun w6 S=>?_
 refine gp_ ?_
 refine zh (fun hne=>?_) (fun heq=>?_)
 ·have hE : fnE u n=2:=by unfold fnE at hne ⊢;split<;>rename_i hc;rfl;rw [if_neg hc] at hne;exact absurd rfl hne
  have hT : XL u n p=(zD,2):=by rw [XL,if_pos hne]
  rw [hT] at h
  rw [hE]
  refine zx (cs:=#[.int .u8 0,.bool false,.int .i64 0,.int .i64 0,.slice none 0 0]) (by kernel_rfl) ?_
  refine S.stB (b:=b6) fun w7 S=>?_
  refine S.ceB (b:=b6) ?_ rfl
  exact h _ nothing _ S.ext New.nothing yh
 have h0 : fnE u n=0:=by omega
 have hgn:=hgi h0
 obtain ⟨hM,hn0,hlt⟩:=k8 h0
 have hgm : g ∈ u.fs:=List.mem_of_getElem? hgn
 have hff:=hM.fine hgm
 have hT : XL u n p=if (zj u.ss g.tys p).2.2 then ((zj u.ss g.tys p).1,0) else (zD,2):=by rw [XL,if_neg heq,hgn]
 rw [hT] at h
 obtain ⟨t,m,ok,hsp⟩ : ∃ t m ok,zj u.ss g.tys p=(t,m,ok):=⟨_,_,_,rfl⟩
 have hfs:=x7 hff (p:=p)
 rw [hsp] at h hfs
 refine S.ldB (b:=b3) ?_ rfl
 refine S.ldB (b:=b8) ?_ rfl
 refine zx (cs:=#[.slice p0 u.ss.length cap0,.slice qf u.fs.length capf,.int .i64 u.mn,.string g.name,.int .i64 g.lv,.slice x1 g.outs.length y1,.int .i64 g.pn,.slice x2 g.tys.length y2,.slice x3 g.nms.length y3,.slice x4 g.pts.length y4]) (by kernel_rfl) ?_
 refine S.ldB (b:=b5) ?_ rfl
 refine yP S.holds ⟨_,_,_,_,_,_,_,rfl,hu0,hg0⟩ hff hp hsp fun q7 c7 w7 e7 ht7=>?_
 have S:=S.go e7
 refine S.al fun b10 w8 S=>?_
 refine S.stB (b:=b10) fun w9 S=>?_
 refine gg_ ?_
 refine c_b (fun hb=>?_) (fun hb=>?_)
 ·have hb : ok=false:=by simpa using hb
  subst hb
  refine zx (cs:=#[.int .u8 0,.bool false,.int .i64 0,.int .i64 0,.slice none 0 0]) (by kernel_rfl) ?_
  refine S.stB (b:=b6) fun w10 S=>?_
  refine S.ceB (b:=b6) ?_ rfl
  exact h _ nothing _ S.ext New.nothing yh
 ·have hb : ok=true:=by simpa using hb
  subst hb
  have hB : isB t=true:=(hfs rfl).is hff.few
  refine gg_ ?_
  refine S.ldN (b:=b10) ?_
  refine aeU S.holds ht7 fun v5 sn w10 e10 n10 h10 hc10=>?_
  rw [hB] at h10 ⊢
  obtain ⟨S,d10,a10⟩:=S.tell e10 n10
  have h100:=h10
  obtain ⟨p10,cap10,rfl,_⟩:=h10
  refine gS_ ?_
  refine S.stB (b:=b6) fun w11 S=>?_
  refine S.ceB (b:=b6) ?_ rfl
  exact h _ sn _ S.ext (S.newOf a10) h100
end Go.Proofs
end
section
namespace Go.Proofs
open Go.Sh
set_option maxRecDepth 100000
set_option linter.unusedSimpArgs false
set_option linter.unusedVariables false
def aiS (u : UnD) : Prop:=∀ g ∈ u.fs,g.pts.length≤1100∧∀ p ∈ g.pts,p.fit
theorem agJ {u : UnD} {n q : Int} {p : PtD} (h : jn u n q=some p) : ∃ g ∈ u.fs,p ∈ g.pts:=by
 rw [jn] at h
 cases hg : u.fs[n.toNat]? with
 |none=>rw [hg] at h;cases h
 |some g=>
  rw [hg] at h
  exact ⟨g,List.mem_of_getElem? hg,List.mem_of_getElem? h⟩
noncomputable def abh (u : UnD) (n q : Int) : List UInt8:=if ptE u n q=0 then (match jn u n q with|some p=>ptT p q|none=>[]) else []
theorem aev {u : UnD} {n q : Int} {v : Value} {w : World} {r : Gh} {K : Value→World→Prop} (hT : TabZ r) (hr : Holds r w) (hu : UnG r v u) (hf : MayU u→aiS u)
  (h : ∀ w',Ext w w'→K (.tuple #[.string (bs (abh u n q)),.int .i64 (ptE u n q)]) w') : zd Tryz.prog Tryz.YC #[v,.int .i64 n,.int .i64 q] w K:=by
 refine Tryz.ac0 ?_
 unfold Tryz.JG
 have hu0:=hu
 obtain ⟨p0,cap0,vf,rfl,_,_,hst,hsl,hfn⟩:=hu
 obtain ⟨qf,capf,rfl,_,_⟩:=hfn.sl.shape
 have S:=St.start hr
 refine S.box fun b3 w1 S=>?_
 have S : StX noX w r w1 [.cell b3 [.slice p0 u.ss.length cap0,.slice qf u.fs.length capf,.int .i64 u.mn] 25]:=S
 refine S.ldB (b:=b3) ?_ rfl
 refine k9 S.holds hu0 fun c p w2 e2 hp hpt=>?_
 have S:=S.go e2
 obtain ⟨z1,z2,z3,z4,z5,t1,t2,t3,t4,t5,rfl,hp0⟩:=yj hp
 refine gS_ ?_
 refine S.al fun b8 w3 S=>?_
 refine S.stB (b:=b8) fun w4 S=>?_
 refine gp_ ?_
 refine zh (fun hne=>?_) (fun heq=>?_)
 ·rw [abh,if_neg hne] at h
  exact h _ S.ext
 have hz : ptE u n q=0:=by omega
 have hpe:=hpt hz
 obtain ⟨hf0,hq0,hn,hql⟩:=ZG hz
 have hM:=(k8 hf0).1
 obtain ⟨g,hg,hpg⟩:=agJ hpe
 have hfit:=hf hM g hg
 have hqq : q≤1000000:=by
  have:=(hf hM _ (List.getElem_mem hn)).1;omega
 rw [abh,if_pos hz,hpe] at h
 refine S.ldB (b:=b8) ?_ rfl
 refine aes hT S.holds hp0 (hfit.2 p hpg) ⟨hq0,hqq⟩ fun w5 e5=>?_
 exact h _ (S.go e5).ext
end Go.Proofs
end
section
namespace Go.Proofs.Tryz
open Go.Sh
set_option maxRecDepth 100000
def xc (t0 t1 t2 : Value) (w : World) (K : VW) : Prop:=
 pp (Builtin.len_ #[82] 3 #[t0]) fun t11=>pp (Builtin.len_ #[82] 3 #[t1]) fun t13=>bf .neq 3 t11 t13 fun t14=>zc t14 (K fa_ w) (pp (Builtin.len_ #[82] 3 #[t0]) fun t16=>zn [(i6 0)] w (fun s2 _d3 w4 K1=>
 bf .lss 3 (s2.getD 0 undef) t16 fun t18=>zc t18 (xl w4 82 t0 (s2.getD 0 undef) 86 fun t21=>pw w4 (Instr.alloc 86 true (.tuple #[])) fun t8 w5=>
 so w5 86 t8 t21 fun w6=>xl w6 82 t1 (s2.getD 0 undef) 86 fun t25=>pw w6 (Instr.alloc 86 true (.tuple #[])) fun t9 w7=>
 so w7 86 t9 t25 fun w8=>lo w8 86 t8 fun t27=>lo w8 86 t9 fun t28=>cv t2 #[t27,t28] w8 fun t29 w9=>
 pp (Op.unary .not t29) fun t30=>zc t30 (K fa_ w9) (bt .add 3 (s2.getD 0 undef) (i6 1) fun t31=>K1 [t31] w9)) (K tr_ w4)))
theorem y7 {t0 t1 t2 : Value} {w : World} {K : VW} (h : xc t0 t1 t2 w K) : zd prog zF #[t0,t1,t2] w K:=
 okC false (.s (.r (rz 1 0 0)) (.s (.s (.r (rz 5 0 0)) (.c (.s (.r (rz 1 0 0)) (.n)) (.n))) (.s (.s (.r (rz 3 0 0)) (.b (.lp [17] (.s (.r (rz 1 0 0)) (.s (.c (.n) (.n)) (.s (.b (.s (.r (rz 6 0 2192)) (.s (.r (rz 6 0 2624)) (.s (.r (rz 5 0 148)) (.c (.s (.r (rz 1 0 0)) (.n)) (.n)))))) (.r (rz 2 0 0)))))))) (.s (.r (rz 1 0 0)) (.n))))) func42 rfl (by kernel_rfl) (by kernel_rfl) h
def yZ (t0 t1 : Value) (w : World) (K : VW) : Prop:=
 pp (Builtin.len_ #[28] 3 #[t0]) fun t7=>pp (Builtin.len_ #[28] 3 #[t1]) fun t9=>bf .neq 3 t7 t9 fun t10=>zc t10 (K fa_ w) (pp (Builtin.len_ #[28] 3 #[t0]) fun t12=>zn [(i6 0)] w (fun s2 _d3 w4 K1=>
 bf .lss 3 (s2.getD 0 undef) t12 fun t14=>zc t14 (xl w4.drew 28 t0 (s2.getD 0 undef) 101 fun t19=>xl w4.drew 28 t1 (s2.getD 0 undef) 101 fun t23=>pq w4.drew (yg .neq 101 false t19 t23) fun t24=>zc t24 (K fa_ w4.drew) (bt .add 3 (s2.getD 0 undef) (i6 1) fun t25=>K1 [t25] w4.drew)) (K tr_ w4)))
theorem kH {t0 t1 : Value} {w : World} {K : VW} (h : yZ t0 t1 w K) : zd prog ye #[t0,t1] w K:=
 okC false (.s (.r (rz 1 0 0)) (.s (.s (.r (rz 5 0 0)) (.c (.s (.r (rz 1 0 0)) (.n)) (.n))) (.s (.s (.r (rz 3 0 0)) (.b (.lp [13] (.s (.r (rz 1 0 0)) (.s (.c (.n) (.n)) (.s (.b (.s (.r (rz 2 0 0)) (.s (.r (rz 9 0 81984)) (.c (.s (.r (rz 1 0 0)) (.n)) (.n))))) (.r (rz 2 0 0)))))))) (.s (.r (rz 1 0 0)) (.n))))) func46 rfl (by kernel_rfl) (by kernel_rfl) h
def kF (t0 t1 : Value) (w : World) (K : VW) : Prop:=
 pp (Builtin.len_ #[30] 3 #[t0]) fun t7=>pp (Builtin.len_ #[30] 3 #[t1]) fun t9=>bf .neq 3 t7 t9 fun t10=>zc t10 (K fa_ w) (pp (Builtin.len_ #[30] 3 #[t0]) fun t12=>zn [(i6 0)] w (fun s2 _d3 w4 K1=>
 bf .lss 3 (s2.getD 0 undef) t12 fun t14=>zc t14 (xl w4.drew 30 t0 (s2.getD 0 undef) 9 fun t19=>xl w4.drew 30 t1 (s2.getD 0 undef) 9 fun t23=>bf .neq 9 t19 t23 fun t24=>zc t24 (K fa_ w4.drew) (bt .add 3 (s2.getD 0 undef) (i6 1) fun t25=>K1 [t25] w4.drew)) (K tr_ w4)))
theorem vP {t0 t1 : Value} {w : World} {K : VW} (h : kF t0 t1 w K) : zd prog xm #[t0,t1] w K:=
 okC false (.s (.r (rz 1 0 0)) (.s (.s (.r (rz 5 0 0)) (.c (.s (.r (rz 1 0 0)) (.n)) (.n))) (.s (.s (.r (rz 3 0 0)) (.b (.lp [13] (.s (.r (rz 1 0 0)) (.s (.c (.n) (.n)) (.s (.b (.s (.r (rz 2 0 0)) (.s (.r (rz 9 0 16448)) (.c (.s (.r (rz 1 0 0)) (.n)) (.n))))) (.r (rz 2 0 0)))))))) (.s (.r (rz 1 0 0)) (.n))))) func47 rfl (by kernel_rfl) (by kernel_rfl) h
def xv (t0 t1 t2 : Value) (w : World) (K : VW) : Prop:=
 pp (Builtin.len_ #[29] 3 #[t0]) fun t11=>pp (Builtin.len_ #[29] 3 #[t1]) fun t13=>bf .neq 3 t11 t13 fun t14=>zc t14 (K fa_ w) (pp (Builtin.len_ #[29] 3 #[t0]) fun t16=>zn [(i6 0)] w (fun s2 _d3 w4 K1=>
 bf .lss 3 (s2.getD 0 undef) t16 fun t18=>zc t18 (xl w4 29 t0 (s2.getD 0 undef) 57 fun t21=>pw w4 (Instr.alloc 57 true (.tuple #[])) fun t8 w5=>
 so w5 57 t8 t21 fun w6=>xl w6 29 t1 (s2.getD 0 undef) 57 fun t25=>pw w6 (Instr.alloc 57 true (.tuple #[])) fun t9 w7=>
 so w7 57 t9 t25 fun w8=>lo w8 57 t8 fun t27=>lo w8 57 t9 fun t28=>cv t2 #[t27,t28] w8 fun t29 w9=>
 pp (Op.unary .not t29) fun t30=>zc t30 (K fa_ w9) (bt .add 3 (s2.getD 0 undef) (i6 1) fun t31=>K1 [t31] w9)) (K tr_ w4)))
theorem xq {t0 t1 t2 : Value} {w : World} {K : VW} (h : xv t0 t1 t2 w K) : zd prog zJ #[t0,t1,t2] w K:=
 okC false (.s (.r (rz 1 0 0)) (.s (.s (.r (rz 5 0 0)) (.c (.s (.r (rz 1 0 0)) (.n)) (.n))) (.s (.s (.r (rz 3 0 0)) (.b (.lp [17] (.s (.r (rz 1 0 0)) (.s (.c (.n) (.n)) (.s (.b (.s (.r (rz 6 0 2192)) (.s (.r (rz 6 0 2624)) (.s (.r (rz 5 0 148)) (.c (.s (.r (rz 1 0 0)) (.n)) (.n)))))) (.r (rz 2 0 0)))))))) (.s (.r (rz 1 0 0)) (.n))))) func48 rfl (by kernel_rfl) (by kernel_rfl) h
def xd (t0 t1 t2 : Value) (w : World) (K : VW) : Prop:=
 pp (Builtin.len_ #[31] 3 #[t0]) fun t11=>pp (Builtin.len_ #[31] 3 #[t1]) fun t13=>bf .neq 3 t11 t13 fun t14=>zc t14 (K fa_ w) (pp (Builtin.len_ #[31] 3 #[t0]) fun t16=>zn [(i6 0)] w (fun s2 _d3 w4 K1=>
 bf .lss 3 (s2.getD 0 undef) t16 fun t18=>zc t18 (xl w4 31 t0 (s2.getD 0 undef) 44 fun t21=>pw w4 (Instr.alloc 44 true (.tuple #[])) fun t8 w5=>
 so w5 44 t8 t21 fun w6=>xl w6 31 t1 (s2.getD 0 undef) 44 fun t25=>pw w6 (Instr.alloc 44 true (.tuple #[])) fun t9 w7=>
 so w7 44 t9 t25 fun w8=>lo w8 44 t8 fun t27=>lo w8 44 t9 fun t28=>cv t2 #[t27,t28] w8 fun t29 w9=>
 pp (Op.unary .not t29) fun t30=>zc t30 (K fa_ w9) (bt .add 3 (s2.getD 0 undef) (i6 1) fun t31=>K1 [t31] w9)) (K tr_ w4)))
theorem y8 {t0 t1 t2 : Value} {w : World} {K : VW} (h : xd t0 t1 t2 w K) : zd prog zG #[t0,t1,t2] w K:=
 okC false (.s (.r (rz 1 0 0)) (.s (.s (.r (rz 5 0 0)) (.c (.s (.r (rz 1 0 0)) (.n)) (.n))) (.s (.s (.r (rz 3 0 0)) (.b (.lp [17] (.s (.r (rz 1 0 0)) (.s (.c (.n) (.n)) (.s (.b (.s (.r (rz 6 0 2192)) (.s (.r (rz 6 0 2624)) (.s (.r (rz 5 0 148)) (.c (.s (.r (rz 1 0 0)) (.n)) (.n)))))) (.r (rz 2 0 0)))))))) (.s (.r (rz 1 0 0)) (.n))))) func49 rfl (by kernel_rfl) (by kernel_rfl) h
def yV (t0 t1 t2 : Value) (w : World) (K : VW) : Prop:=
 pp (Builtin.len_ #[22] 3 #[t0]) fun t11=>pp (Builtin.len_ #[22] 3 #[t1]) fun t13=>bf .neq 3 t11 t13 fun t14=>zc t14 (K fa_ w) (pp (Builtin.len_ #[22] 3 #[t0]) fun t16=>zn [(i6 0)] w (fun s2 _d3 w4 K1=>
 bf .lss 3 (s2.getD 0 undef) t16 fun t18=>zc t18 (xl w4 22 t0 (s2.getD 0 undef) 84 fun t21=>pw w4 (Instr.alloc 84 true (.tuple #[])) fun t8 w5=>
 so w5 84 t8 t21 fun w6=>xl w6 22 t1 (s2.getD 0 undef) 84 fun t25=>pw w6 (Instr.alloc 84 true (.tuple #[])) fun t9 w7=>
 so w7 84 t9 t25 fun w8=>lo w8 84 t8 fun t27=>lo w8 84 t9 fun t28=>cv t2 #[t27,t28] w8 fun t29 w9=>
 pp (Op.unary .not t29) fun t30=>zc t30 (K fa_ w9) (bt .add 3 (s2.getD 0 undef) (i6 1) fun t31=>K1 [t31] w9)) (K tr_ w4)))
theorem yR {t0 t1 t2 : Value} {w : World} {K : VW} (h : yV t0 t1 t2 w K) : zd prog zB #[t0,t1,t2] w K:=
 okC false (.s (.r (rz 1 0 0)) (.s (.s (.r (rz 5 0 0)) (.c (.s (.r (rz 1 0 0)) (.n)) (.n))) (.s (.s (.r (rz 3 0 0)) (.b (.lp [17] (.s (.r (rz 1 0 0)) (.s (.c (.n) (.n)) (.s (.b (.s (.r (rz 6 0 2192)) (.s (.r (rz 6 0 2624)) (.s (.r (rz 5 0 148)) (.c (.s (.r (rz 1 0 0)) (.n)) (.n)))))) (.r (rz 2 0 0)))))))) (.s (.r (rz 1 0 0)) (.n))))) func51 rfl (by kernel_rfl) (by kernel_rfl) h
def xe (t0 t1 t2 : Value) (w : World) (K : VW) : Prop:=
 pp (Builtin.len_ #[23] 3 #[t0]) fun t11=>pp (Builtin.len_ #[23] 3 #[t1]) fun t13=>bf .neq 3 t11 t13 fun t14=>zc t14 (K fa_ w) (pp (Builtin.len_ #[23] 3 #[t0]) fun t16=>zn [(i6 0)] w (fun s2 _d3 w4 K1=>
 bf .lss 3 (s2.getD 0 undef) t16 fun t18=>zc t18 (xl w4 23 t0 (s2.getD 0 undef) 33 fun t21=>pw w4 (Instr.alloc 33 true (.tuple #[])) fun t8 w5=>
 so w5 33 t8 t21 fun w6=>xl w6 23 t1 (s2.getD 0 undef) 33 fun t25=>pw w6 (Instr.alloc 33 true (.tuple #[])) fun t9 w7=>
 so w7 33 t9 t25 fun w8=>lo w8 33 t8 fun t27=>lo w8 33 t9 fun t28=>cv t2 #[t27,t28] w8 fun t29 w9=>
 pp (Op.unary .not t29) fun t30=>zc t30 (K fa_ w9) (bt .add 3 (s2.getD 0 undef) (i6 1) fun t31=>K1 [t31] w9)) (K tr_ w4)))
theorem y9 {t0 t1 t2 : Value} {w : World} {K : VW} (h : xe t0 t1 t2 w K) : zd prog zH #[t0,t1,t2] w K:=
 okC false (.s (.r (rz 1 0 0)) (.s (.s (.r (rz 5 0 0)) (.c (.s (.r (rz 1 0 0)) (.n)) (.n))) (.s (.s (.r (rz 3 0 0)) (.b (.lp [17] (.s (.r (rz 1 0 0)) (.s (.c (.n) (.n)) (.s (.b (.s (.r (rz 6 0 2192)) (.s (.r (rz 6 0 2624)) (.s (.r (rz 5 0 148)) (.c (.s (.r (rz 1 0 0)) (.n)) (.n)))))) (.r (rz 2 0 0)))))))) (.s (.r (rz 1 0 0)) (.n))))) func52 rfl (by kernel_rfl) (by kernel_rfl) h
def yH (t0 t1 t2 : Value) (w : World) (K : VW) : Prop:=
 pp (Builtin.len_ #[42] 3 #[t0]) fun t11=>pp (Builtin.len_ #[42] 3 #[t1]) fun t13=>bf .neq 3 t11 t13 fun t14=>zc t14 (K fa_ w) (pp (Builtin.len_ #[42] 3 #[t0]) fun t16=>zn [(i6 0)] w (fun s2 _d3 w4 K1=>
 bf .lss 3 (s2.getD 0 undef) t16 fun t18=>zc t18 (xl w4 42 t0 (s2.getD 0 undef) 41 fun t21=>pw w4 (Instr.alloc 41 true (.tuple #[])) fun t8 w5=>
 so w5 41 t8 t21 fun w6=>xl w6 42 t1 (s2.getD 0 undef) 41 fun t25=>pw w6 (Instr.alloc 41 true (.tuple #[])) fun t9 w7=>
 so w7 41 t9 t25 fun w8=>lo w8 41 t8 fun t27=>lo w8 41 t9 fun t28=>cv t2 #[t27,t28] w8 fun t29 w9=>
 pp (Op.unary .not t29) fun t30=>zc t30 (K fa_ w9) (bt .add 3 (s2.getD 0 undef) (i6 1) fun t31=>K1 [t31] w9)) (K tr_ w4)))
theorem yE {t0 t1 t2 : Value} {w : World} {K : VW} (h : yH t0 t1 t2 w K) : zd prog zA #[t0,t1,t2] w K:=
 okC false (.s (.r (rz 1 0 0)) (.s (.s (.r (rz 5 0 0)) (.c (.s (.r (rz 1 0 0)) (.n)) (.n))) (.s (.s (.r (rz 3 0 0)) (.b (.lp [17] (.s (.r (rz 1 0 0)) (.s (.c (.n) (.n)) (.s (.b (.s (.r (rz 6 0 2192)) (.s (.r (rz 6 0 2624)) (.s (.r (rz 5 0 148)) (.c (.s (.r (rz 1 0 0)) (.n)) (.n)))))) (.r (rz 2 0 0)))))))) (.s (.r (rz 1 0 0)) (.n))))) func83 rfl (by kernel_rfl) (by kernel_rfl) h
def j4 (t0 : Value) (w : World) (K : VW) : Prop:=
 pp (Builtin.len_ #[67] 3 #[t0]) fun t5=>pp (Builtin.len_ #[67] 3 #[t0]) fun t7=>pp (Instr.sliceAt 67 t0 none (some t5) (some t7)) fun t8=>K t8 w
theorem XM {t0 : Value} {w : World} {K : VW} (h : j4 t0 w K) : zd prog kA #[t0] w K:=
 okC false (.s (.r (rz 1 0 0)) (.s (.r (rz 7 0 0)) (.n))) func72 rfl (by kernel_rfl) (by kernel_rfl) h
def JS (t0 : Value) (w : World) (K : VW) : Prop:=
 pp (Builtin.len_ #[67] 3 #[t0]) fun t7=>zn [(i6 0)] w (fun s2 _d3 w4 K1=>
 bf .lss 3 (s2.getD 0 undef) t7 fun t9=>zc t9 (xl w4 67 t0 (s2.getD 0 undef) 3 fun t11=>bf .neq 3 t11 (i6 0) fun t14=>zc t14 (K t11 w4) (bt .add 3 (s2.getD 0 undef) (i6 1) fun t16=>K1 [t16] w4)) (K (i6 0) w4))
theorem ac6 {t0 : Value} {w : World} {K : VW} (h : JS t0 w K) : zd prog YG #[t0] w K:=
 okC false (.s (.r (rz 1 0 0)) (.s (.r (rz 1 0 0)) (.s (.s (.r (rz 3 0 0)) (.b (.lp [8] (.s (.r (rz 1 0 0)) (.s (.c (.n) (.n)) (.s (.b (.s (.r (rz 3 0 4)) (.s (.r (rz 3 0 0)) (.c (.s (.r (rz 2 0 0)) (.n)) (.n))))) (.r (rz 2 0 0)))))))) (.s (.r (rz 2 0 0)) (.n))))) func152 rfl (by kernel_rfl) (by kernel_rfl) h
def Yf (t0 t1 : Value) (w : World) (K : VW) : Prop:=
 ca qD #[t0] w fun t8 w1=>
 ca qD #[t1] w1 fun t10 w2=>
 zc t8 (zc t10 (K (i6 0) w2) (K (i6 (-1)) w2)) (zc t10 (K (i6 1) w2) (bf .lss 3 t0 t1 fun t16=>zc t16 (K (i6 (-1)) w2) (bf .gtr 3 t0 t1 fun t19=>zc t19 (K (i6 1) w2) (K (i6 0) w2))))
theorem JT {t0 t1 : Value} {w : World} {K : VW} (h : Yf t0 t1 w K) : zd prog jk #[t0,t1] w K:=
 okC false (.s (.r (rz 1 0 0)) (.s (.r (rz 3 0 8)) (.s (.r (rz 3 0 8)) (.s (.s (.r (rz 1 0 0)) (.c (.s (.s (.r (rz 1 0 0)) (.c (.s (.r (rz 1 0 0)) (.n)) (.n))) (.s (.r (rz 1 0 0)) (.n))) (.n))) (.s (.s (.r (rz 1 0 0)) (.c (.s (.r (rz 1 0 0)) (.n)) (.n))) (.s (.s (.r (rz 3 0 0)) (.c (.s (.r (rz 1 0 0)) (.n)) (.n))) (.s (.s (.r (rz 3 0 0)) (.c (.s (.r (rz 1 0 0)) (.n)) (.n))) (.s (.r (rz 1 0 0)) (.n))))))))) func153 rfl (by kernel_rfl) (by kernel_rfl) h
def xA (t0 t1 : Value) (w : World) (K : VW) : Prop:=
 pp (Builtin.len_ #[36] 3 #[t0]) fun t10=>zn [(i6 0)] w (fun s2 _d3 w4 K1=>
 bf .lss 3 (s2.getD 0 undef) t10 fun t12=>zc t12 (xl w4 36 t0 (s2.getD 0 undef) 138 fun t15=>pp (Builtin.len_ #[36] 3 #[t1]) fun t18=>bf .geq 3 (s2.getD 0 undef) t18 fun t19=>zc t19 (K (i6 1) w4) (xl w4 36 t1 (s2.getD 0 undef) 138 fun t23=>ca kg #[t15,t23] w4 fun t26 w5=>
 bt .neq 3 t26 (i6 0) fun t28=>zc t28 (K t26 w5) (bt .add 3 (s2.getD 0 undef) (i6 1) fun t30=>K1 [t30] w5))) (pp (Builtin.len_ #[36] 3 #[t0]) fun t32=>pp (Builtin.len_ #[36] 3 #[t1]) fun t34=>bf .lss 3 t32 t34 fun t35=>zc t35 (K (i6 (-1)) w4) (K (i6 0) w4)))
theorem je {t0 t1 : Value} {w : World} {K : VW} (h : xA t0 t1 w K) : zd prog yz #[t0,t1] w K:=
 okC false (.s (.r (rz 1 0 0)) (.s (.s (.r (rz 3 0 0)) (.b (.lp [11] (.s (.r (rz 1 0 0)) (.s (.c (.n) (.n)) (.s (.b (.s (.r (rz 5 0 16)) (.s (.s (.r (rz 4 0 0)) (.c (.s (.r (rz 1 0 0)) (.n)) (.n))) (.s (.r (rz 5 0 64)) (.s (.r (rz 4 0 32)) (.s (.r (rz 2 0 0)) (.c (.s (.r (rz 2 0 0)) (.n)) (.n)))))))) (.r (rz 2 0 0)))))))) (.s (.s (.r (rz 5 0 0)) (.c (.s (.r (rz 1 0 0)) (.n)) (.n))) (.s (.r (rz 1 0 0)) (.n))))) func154 rfl (by kernel_rfl) (by kernel_rfl) h
def ju (t0 t1 : Value) (w : World) (K : VW) : Prop:=
 ca xD #[t0] w fun t8 w1=>
 ca xD #[t1] w1 fun t10 w2=>
 zc t8 (zc t10 (K (i6 0) w2) (K (i6 (-1)) w2)) (zc t10 (K (i6 1) w2) (bf .lss 138 t0 t1 fun t16=>zc t16 (K (i6 (-1)) w2) (bf .gtr 138 t0 t1 fun t19=>zc t19 (K (i6 1) w2) (K (i6 0) w2))))
theorem Y7 {t0 t1 : Value} {w : World} {K : VW} (h : ju t0 t1 w K) : zd prog kg #[t0,t1] w K:=
 okC false (.s (.r (rz 1 0 0)) (.s (.r (rz 3 0 8)) (.s (.r (rz 3 0 8)) (.s (.s (.r (rz 1 0 0)) (.c (.s (.s (.r (rz 1 0 0)) (.c (.s (.r (rz 1 0 0)) (.n)) (.n))) (.s (.r (rz 1 0 0)) (.n))) (.n))) (.s (.s (.r (rz 1 0 0)) (.c (.s (.r (rz 1 0 0)) (.n)) (.n))) (.s (.s (.r (rz 3 0 0)) (.c (.s (.r (rz 1 0 0)) (.n)) (.n))) (.s (.s (.r (rz 3 0 0)) (.c (.s (.r (rz 1 0 0)) (.n)) (.n))) (.s (.r (rz 1 0 0)) (.n))))))))) func186 rfl (by kernel_rfl) (by kernel_rfl) h
def Xw (t0 : Value) (w : World) (K : VW) : Prop:=
 bf .neq 3 t0 t0 fun t5=>K t5 w
theorem aao {t0 : Value} {w : World} {K : VW} (h : Xw t0 w K) : zd prog qD #[t0] w K:=
 okC false (.s (.r (rz 1 0 0)) (.s (.r (rz 4 0 0)) (.n))) func180 rfl (by kernel_rfl) (by kernel_rfl) h
def vJ (t0 : Value) (w : World) (K : VW) : Prop:=
 bf .neq 138 t0 t0 fun t5=>K t5 w
theorem Qf {t0 : Value} {w : World} {K : VW} (h : vJ t0 w K) : zd prog xD #[t0] w K:=
 okC false (.s (.r (rz 1 0 0)) (.s (.r (rz 4 0 0)) (.n))) func196 rfl (by kernel_rfl) (by kernel_rfl) h
end Go.Proofs.Tryz
end
section
namespace Go.Proofs
open Go.Sh
set_option maxRecDepth 100000
set_option linter.unusedSimpArgs false
set_option linter.unusedVariables false
noncomputable def eqb {α : Type} (x y : α) : Bool:=@decide (x=y) (Classical.propDecidable _)
theorem kG {α : Type} {x y : α} : eqb x y=true↔x=y:=by
 rw [eqb];exact @decide_eq_true_iff _ (Classical.propDecidable _)
theorem ZH {α : Type} {x y : α} {b : Bool} (h : b=true↔x=y) : b=eqb x y:=by
 rw [Bool.eq_iff_iff,h,kG]
theorem Qg {α : Type} {x y : α} (h : x≠y) : eqb x y=false:=by
 cases e : eqb x y
 ·rfl
 ·exact absurd (kG.1 e) h
theorem jP {α : Type} (x : α) : eqb x x=true:=kG.2 rfl
def Cmp {α : Type} (r : Gh) (R : List Value→α→Prop) (l m : List α) (fv : Value) : Prop:=
 ∀ x ∈ l,∀ y ∈ m,∀ (c d : List Value) (w : World) (K : Value→World→Prop),R c x→R d y→Holds r w→(∀ w',Ext w w'→K (.bool (eqb x y)) w')→z7 Tryz.prog fv #[.agg c.toArray,.agg d.toArray] w K
theorem Zj {T E : TypeId} {n : Nat} {z : List Value} {α : Type} {r : Gh} {R : List Value→α→Prop} {l m : List α} {va vb fv : Value} {w : World} {K : Value→World→Prop}
  [SlT Tryz.prog T E n] [ZrT Tryz.prog E z] [LdN Tryz.prog E n] [SzT Tryz.prog E n] (hn : 1<n) (hz : z.length=n) (hr : Holds r w) (ha : SlB n r R va l) (hb : SlB n r R vb m) (h1 : ∀ c x,R c x→∀ u ∈ c,u.oneCell'=true)
  (hf : Cmp r R l m fv) (h : ∀ w',Ext w w'→K (.bool (eqb l m)) w') :
  Tryz.pp (Builtin.len_ #[T] 3 #[va]) fun t11=>Tryz.pp (Builtin.len_ #[T] 3 #[vb]) fun t13=>Tryz.bf .neq 3 t11 t13 fun t14=>zc t14 (K Tryz.fa_ w) (Tryz.pp (Builtin.len_ #[T] 3 #[va]) fun t16=>zn [Tryz.i6 0] w (fun s2 _d3 w4 K1=>
   Tryz.bf .lss 3 (s2.getD 0 undef) t16 fun t18=>zc t18 (Tryz.xl w4 T va (s2.getD 0 undef) E fun t21=>Tryz.pw w4 (Instr.alloc E true (.tuple #[])) fun t8 w5=>
   Tryz.so w5 E t8 t21 fun w6=>Tryz.xl w6 T vb (s2.getD 0 undef) E fun t25=>Tryz.pw w6 (Instr.alloc E true (.tuple #[])) fun t9 w7=>
   Tryz.so w7 E t9 t25 fun w8=>Tryz.lo w8 E t8 fun t27=>Tryz.lo w8 E t9 fun t28=>Tryz.cv fv #[t27,t28] w8 fun t29 w9=>
   Tryz.pp (Op.unary .not t29) fun t30=>zc t30 (K Tryz.fa_ w9) (Tryz.bt .add 3 (s2.getD 0 undef) (Tryz.i6 1) fun t31=>K1 [t31] w9)) (K Tryz.tr_ w4))):=by
 obtain ⟨pa,ca,rfl,_,_⟩:=ha.sl.shape
 obtain ⟨pb,cb,rfl,_,_⟩:=hb.sl.shape
 have hla : l.length≤9223372036854775807:=ha.few
 have S:=St.start hr
 refine gg_ ?_
 refine zh (fun hne=>?_) (fun heq=>?_)
 ·have:=h _ S.ext
  rwa [Qg (fun e=>hne (by rw [e]))] at this
 have hlen : l.length=m.length:=by
  rcases Nat.lt_trichotomy l.length m.length with h|h|h
  ·exact absurd (fun e=>by omega : ((l.length : Int)≠m.length)) heq
  ·exact h
  ·exact absurd (fun e=>by omega : ((l.length : Int)≠m.length)) heq
 refine gg_ ?_
 refine zi (ι:=Nat) (fun i=>[.int .i64 (i : Nat)]) (fun i w'=>i≤l.length∧l.take i=m.take i∧StX noX w r w' []) (fun i=>l.length - i) 0 rfl ⟨Nat.zero_le _,rfl,S⟩ ?_
 clear S
 rintro i d w4 ⟨hi,htk,S⟩ K1 hK1
 rw [List.getD_cons_zero]
 refine gg_ ?_
 refine zh (fun hlt=>?_) (fun hge=>?_)
 ·have hlt : i<l.length:=by omega
  have hlt2 : i<m.length:=by omega
  obtain ⟨ba,oa,c,rfl,hcl,hR,hca⟩:=ha.sl.get (by omega) hlt
  obtain ⟨bb,ob,d,rfl,hdl,hQ,hcb⟩:=hb.sl.get (by omega) hlt2
  refine gg_ ?_
  rw [Int.toNat_natCast]
  refine zq (n:=n) hcl (fun j v hj=>S.at (hca j v hj)) ?_
  refine S.al fun b8 w5 S=>?_
  refine S.stB (b:=b8) (fun w6 S=>?_) hz (by simpa using hcl) (by simpa using h1 _ _ hR)
  refine gg_ ?_
  rw [Int.toNat_natCast]
  refine zq (n:=n) hdl (fun j v hj=>S.at (hcb j v hj)) ?_
  refine S.al fun b9 w7 S=>?_
  refine S.stB (b:=b9) (fun w8 S=>?_) hz (by simpa using hdl) (by simpa using h1 _ _ hQ)
  refine S.ldB (b:=b8) ?_ (by simpa using hcl)
  refine S.ldB (b:=b9) ?_ (by simpa using hdl)
  refine hf _ (List.getElem_mem hlt) _ (List.getElem_mem hlt2) _ _ _ _ hR hQ S.holds fun w9 e9=>?_
  have S:=((S.drop b9).drop b8).go e9
  refine gp_ ?_
  refine c_b (fun hb=>?_) (fun hb=>?_)
  ·have hne : l[i]≠m[i]:=fun e=>by rw [kG.2 e] at hb;cases hb
   have:=h _ S.ext
   rwa [Qg (fun e=>hne (by subst e;rfl))] at this
  ·have he : l[i]=m[i]:=kG.1 (by simpa using hb)
   refine gg_ ?_
   refine hK1 (i+1) _ ⟨hlt,?_,S⟩ (by omega)
   rw [List.take_succ_eq_append_getElem hlt,List.take_succ_eq_append_getElem hlt2,htk,he]
 have hie : i=l.length:=by omega
 subst hie
 have he : l=m:=by rwa [List.take_length,hlen,List.take_length] at htk
 have:=h _ S.ext
 rwa [he,jP] at this
theorem VU {x : Int} {w : World} {K : Value→World→Prop} (h : K (.bool false) w) : zd Tryz.prog Tryz.qD #[.int .i64 x] w K:=by
 refine Tryz.aao ?_
 unfold Tryz.Xw
 refine gg_ ?_
 simpa using h
theorem JU {x : Int} {w : World} {K : Value→World→Prop} (h : K (.bool false) w) : zd Tryz.prog Tryz.xD #[.int .i64 x] w K:=by
 refine Tryz.Qf ?_
 unfold Tryz.vJ
 refine gg_ ?_
 simpa using h
def QA (x y : Int) : Int:=if x<y then -1 else if y<x then 1 else 0
theorem JV {x y : Int} : QA x y=0↔x=y:=by
 unfold QA;split
 ·constructor<;>intro h<;>omega
 split<;>constructor<;>intro h<;>omega
theorem ac7 {x y : Int} {w : World} {K : Value→World→Prop} (h : K (.int .i64 (QA x y)) w) : zd Tryz.prog Tryz.jk #[.int .i64 x,.int .i64 y] w K:=by
 refine Tryz.JT ?_
 unfold Tryz.Yf
 refine VU (VU (c_f rfl (c_f rfl ?_)))
 unfold QA at h
 refine gg_ ?_
 refine zh (fun h1=>?_) (fun h1=>?_)
 ·rwa [if_pos h1] at h
 refine gg_ ?_
 refine zh (fun h2=>?_) (fun h2=>?_)
 ·rwa [if_neg h1,if_pos h2] at h
 ·rwa [if_neg h1,if_neg h2] at h
theorem ab4 {x y : Int} {w : World} {K : Value→World→Prop} (h : K (.int .i64 (QA x y)) w) : zd Tryz.prog Tryz.kg #[.int .i64 x,.int .i64 y] w K:=by
 refine Tryz.Y7 ?_
 unfold Tryz.ju
 refine JU (JU (c_f rfl (c_f rfl ?_)))
 unfold QA at h
 refine gg_ ?_
 refine zh (fun h1=>?_) (fun h1=>?_)
 ·rwa [if_pos h1] at h
 refine gg_ ?_
 refine zh (fun h2=>?_) (fun h2=>?_)
 ·rwa [if_neg h1,if_pos h2] at h
 ·rwa [if_neg h1,if_neg h2] at h
theorem aap {l m : List Int} {va vb : Value} {w : World} {r : Gh} {K : Value→World→Prop} (hr : Holds r w) (ha : SlB 1 r vB va l) (hb : SlB 1 r vB vb m)
  (h : ∀ x w',Ext w w'→(x=0↔l=m)→K (.int .i64 x) w') : zd Tryz.prog Tryz.yz #[va,vb] w K:=by
 refine Tryz.je ?_
 unfold Tryz.xA
 obtain ⟨pa,ca,rfl,_,_⟩:=ha.sl.shape
 obtain ⟨pb,cb,rfl,_,_⟩:=hb.sl.shape
 have hla : l.length≤9223372036854775807:=ha.few
 have S:=St.start hr
 refine gg_ ?_
 refine zi (ι:=Nat) (fun i=>[.int .i64 (i : Nat)]) (fun i w'=>i≤l.length∧i≤m.length∧l.take i=m.take i∧StX noX w r w' []) (fun i=>l.length - i) 0 rfl ⟨Nat.zero_le _,Nat.zero_le _,rfl,S⟩ ?_
 clear S
 rintro i d w4 ⟨hi,him,htk,S⟩ K1 hK1
 rw [List.getD_cons_zero]
 refine gg_ ?_
 refine zh (fun hlt=>?_) (fun hge=>?_)
 ·have hlt : i<l.length:=by omega
  obtain ⟨ba,oa,c,rfl,hcl,⟨rfl,_⟩,hca⟩:=ha.sl.get (by decide) hlt
  refine gg_ ?_
  refine zp (v:=.int .i64 l[i]) (by simpa using S.at (hca 0 _ rfl)) ?_
  refine gg_ ?_
  refine zh (fun hbig=>?_) (fun hsm=>?_)
  ·refine h 1 _ S.ext ⟨fun e=>absurd e (by decide),fun e=>?_⟩
   subst e;omega
  have hlt2 : i<m.length:=by omega
  obtain ⟨bb,ob,d,rfl,hdl,⟨rfl,_⟩,hcb⟩:=hb.sl.get (by decide) hlt2
  refine gg_ ?_
  refine zp (v:=.int .i64 m[i]) (by simpa using S.at (hcb 0 _ rfl)) ?_
  refine ab4 ?_
  refine gg_ ?_
  refine zh (fun hne=>?_) (fun heq=>?_)
  ·refine h _ _ S.ext ⟨fun e=>absurd e hne,fun e=>?_⟩
   subst e;exact JV.2 rfl
  ·have he : l[i]=m[i]:=JV.1 (Decidable.not_not.1 heq)
   refine gg_ ?_
   refine hK1 (i+1) _ ⟨hlt,hlt2,?_,S⟩ (by omega)
   rw [List.take_succ_eq_append_getElem hlt,List.take_succ_eq_append_getElem hlt2,htk,he]
 have hie : i=l.length:=by omega
 subst hie
 rw [List.take_length] at htk
 refine gg_ ?_
 refine zh (fun h1=>?_) (fun h1=>?_)
 ·refine h _ _ S.ext ⟨fun e=>absurd e (by decide),fun e=>?_⟩
  subst e;omega
 ·refine h _ _ S.ext ⟨fun _=>?_,fun _=>rfl⟩
  rw [htk,List.take_of_length_le (by omega)]
theorem aht {x y : Int} {b : Nat} {w : World} {r : Gh} {K : Value→World→Prop} (hr : Holds r w) (h0 : Ob r fun w=>w.cell? ⟨b,0,none⟩=some (.int .i64 x)) (h1 : Ob r fun w=>w.cell? ⟨b,1,none⟩=some (.int .i64 y))
  (h : ∀ w',Ext w w'→K (.int .i64 (if x≠0 then x else y)) w') : zd Tryz.prog Tryz.YG #[.slice (some ⟨b,0,none⟩) 2 2] w K:=by
 refine Tryz.ac6 ?_
 unfold Tryz.JS
 have S:=St.start hr
 refine gg_ ?_
 refine zi (ι:=Nat) (fun i=>[.int .i64 (i : Nat)]) (fun i w'=>i≤2∧(0<i→x=0)∧(1<i→y=0)∧StX noX w r w' []) (fun i=>2 - i) 0 rfl ⟨by decide,fun h=>absurd h (by decide),fun h=>absurd h (by decide),S⟩ ?_
 clear S
 rintro i d w4 ⟨hi,hx,hy,S⟩ K1 hK1
 rw [List.getD_cons_zero]
 refine gg_ ?_
 refine zh (fun hlt=>?_) (fun hge=>?_)
 ·have hi2 : i=0∨i=1:=by omega
  rcases hi2 with rfl|rfl
  ·refine gg_ ?_
   refine zp (v:=.int .i64 x) (by simpa using S.at h0) ?_
   refine gg_ ?_
   refine zh (fun hne=>?_) (fun heq=>?_)
   ·have:=h _ S.ext;rwa [if_pos hne] at this
   refine gg_ ?_
   exact hK1 1 _ ⟨by decide,fun _=>by omega,fun h=>absurd h (by decide),S⟩ (by decide)
  ·refine gg_ ?_
   refine zp (v:=.int .i64 y) (by simpa using S.at h1) ?_
   refine gg_ ?_
   refine zh (fun hne=>?_) (fun heq=>?_)
   ·have:=h _ S.ext;rwa [if_neg (by have:=hx (by decide);omega)] at this
   refine gg_ ?_
   exact hK1 2 _ ⟨by decide,fun _=>hx (by decide),fun _=>by omega,S⟩ (by decide)
 have hie : i=2:=by omega
 subst hie
 have:=h _ S.ext
 rwa [if_neg (by have:=hx (by decide);omega),hy (by decide)] at this
theorem PlD.eq_iff {p q : PlD} : p=q↔p.l=q.l∧p.ps=q.ps:=by
 cases p;cases q;simp
theorem ac8 {p q : PlD} {c d : List Value} {w : World} {r : Gh} {K : Value→World→Prop} (hr : Holds r w) (hp : PlG r c p) (hq : PlG r d q)
  (h : ∀ x w',Ext w w'→(x=0↔p=q)→K (.int .i64 x) w') : zd Tryz.prog Tryz.ZR #[.agg c.toArray,.agg d.toArray] w K:=by
 refine Tryz.abZ ?_
 unfold Tryz.QZ
 obtain ⟨v,rfl,hv⟩:=hp
 obtain ⟨u,rfl,hu⟩:=hq
 obtain ⟨pa,ca,rfl,_,_⟩:=hv.sl.shape
 obtain ⟨pb,cb,rfl,_,_⟩:=hu.sl.shape
 have S:=St.start hr
 refine S.box fun b2 w1 S=>?_
 have S : StX noX w r w1 [.cell b2 [.int .i64 p.l,.slice pa p.ps.length ca] 38]:=S
 refine S.box fun b3 w2 S=>?_
 have S : StX noX w r w2 [.cell b3 [.int .i64 q.l,.slice pb q.ps.length cb] 38,.cell b2 [.int .i64 p.l,.slice pa p.ps.length ca] 38]:=S
 have S:=S.go (Ext.drew _)
 refine gg_ ?_
 refine ac7 ⟨Ext.refl _,?_⟩
 refine aap S.holds hv hu fun x w4 e4 hx=>?_
 have S:=S.go e4
 refine S.lit (e:=3) (cs:=[.int .i64 (QA p.l q.l),.int .i64 x]) (by kernel_rfl) fun b15 w5 S=>?_
 have hB:=S.blk b15
 refine aht (x:=QA p.l q.l) (y:=x) (r:=one b15 [.int .i64 (QA p.l q.l),.int .i64 x] 3) (yC hB) (fun w h=>((yF w h).cell 0).trans rfl) (fun w h=>((yF w h).cell 1).trans rfl) fun w6 e6=>?_
 refine h _ _ (S.go e6).ext ?_
 rw [PlD.eq_iff,← hx,← JV (x:=p.l)]
 constructor
 ·intro e
  split at e
  ·exact absurd e (by assumption)
  ·exact ⟨by omega,e⟩
 ·rintro ⟨e1,e2⟩
  rw [if_neg (by omega),e2]
theorem YY {p q : PlD} {c d : List Value} {w : World} {r : Gh} {K : Value→World→Prop} (hr : Holds r w) (hp : PlG r c p) (hq : PlG r d q)
  (h : ∀ w',Ext w w'→K (.bool (eqb p q)) w') : zd Tryz.prog Tryz.qN #[.agg c.toArray,.agg d.toArray] w K:=by
 refine Tryz.ac5 ?_
 unfold Tryz.JM
 obtain ⟨v,rfl,hv⟩:=id hp
 obtain ⟨u,rfl,hu⟩:=id hq
 have S:=St.start hr
 refine S.box fun b2 w1 S=>?_
 refine S.box fun b3 w2 S=>?_
 refine S.ldB (b:=b2) ?_ rfl
 refine S.ldB (b:=b3) ?_ rfl
 refine ac8 S.holds hp hq fun x w4 e4 hx=>?_
 refine gg_ ?_
 have:=h _ (S.go e4).ext
 rwa [← ZH (b:=decide (x=0)) (by rw [decide_eq_true_iff,hx])] at this
theorem OpD.eq_iff {p q : OpD} : p=q↔(p.k=q.k∧p.n=q.n)∧p.pl=q.pl:=by
 cases p;cases q;simp [and_assoc]
theorem qu {p q : OpD} {c d : List Value} {w : World} {r : Gh} {K : Value→World→Prop} (hr : Holds r w) (hp : OpG r c p) (hq : OpG r d q)
  (h : ∀ w',Ext w w'→K (.bool (eqb p q)) w') : zd Tryz.prog Tryz.xh #[.agg c.toArray,.agg d.toArray] w K:=by
 refine Tryz.Qu ?_
 unfold Tryz.vU
 obtain ⟨v,rfl,hv⟩:=hp.pl
 obtain ⟨u,rfl,hu⟩:=hq.pl
 have S:=St.start hr
 refine S.box fun b2 w1 S=>?_
 have S : StX noX w r w1 [.cell b2 [.int .u8 p.k,.int .i64 p.n,.int .i64 p.pl.l,v] 41]:=S
 refine S.box fun b3 w2 S=>?_
 have S : StX noX w r w2 [.cell b3 [.int .u8 q.k,.int .i64 q.n,.int .i64 q.pl.l,u] 41,.cell b2 [.int .u8 p.k,.int .i64 p.n,.int .i64 p.pl.l,v] 41]:=S
 refine gg_ ?_
 refine zg (c:=decide (p.n=q.n)) (fun _ K2 hK2=>by refine gg_ ?_;exact hK2) ?_
 refine zm (c:=eqb p.pl q.pl) (fun _ K2 hK2=>?_) fun w3 e3=>?_
 ·refine gg_ ?_
  refine S.ldN (b:=b2) ?_
  refine gg_ ?_
  refine S.ldN (b:=b3) ?_
  exact YY S.holds hv hu fun w4 e4=>hK2 _ e4
 have:=h _ (S.go e3).ext
 rwa [← ZH (b:=(decide (p.k=q.k)&&decide (p.n=q.n))&&eqb p.pl q.pl) (by rw [OpD.eq_iff,Bool.and_eq_true,Bool.and_eq_true,decide_eq_true_iff,decide_eq_true_iff,kG])] at this
end Go.Proofs
end
section
namespace Go.Proofs
open Go.Sh
set_option maxRecDepth 100000
set_option linter.unusedSimpArgs false
set_option linter.unusedVariables false
theorem ahu {r : Gh} {c : List Value} {o : OpD} (h : OpG r c o) : ∀ u ∈ c,u.oneCell'=true:=by
 obtain ⟨v,rfl,hv⟩:=h
 obtain ⟨q,cap,rfl,_,_⟩:=hv.sl.shape
 simp [Value.oneCell']
theorem ahv {r : Gh} {c : List Value} {o : PtD} (h : PtG r c o) : ∀ u ∈ c,u.oneCell'=true:=by
 obtain ⟨z1,z2,z3,z4,z5,t1,t2,t3,t4,t5,rfl,_⟩:=yj h
 simp [Value.oneCell']
theorem ahw {r : Gh} {c : List Value} {o : GrD} (h : GrG r c o) : ∀ u ∈ c,u.oneCell'=true:=by
 obtain ⟨x1,x2,x3,x4,y1,y2,y3,y4,rfl,_⟩:=xV h
 simp [Value.oneCell']
theorem ahx {r : Gh} {c : List Value} {t : TyD} (h : TyC r c t) : ∀ u ∈ c,u.oneCell'=true:=by
 obtain ⟨p,cap,hE,_⟩:=h
 have hE : c=tyL t p cap:=by
  have:=congrArg Value.cells hE
  simpa [Value.cells] using congrArg Array.toList this
 subst hE
 simp [Value.oneCell']
theorem ac9 {l m : List OpD} {va vb fv : Value} {w : World} {r : Gh} {K : Value→World→Prop} (hr : Holds r w) (ha : SlB 4 r (OpG r) va l) (hb : SlB 4 r (OpG r) vb m) (hf : Cmp r (OpG r) l m fv)
  (h : ∀ w',Ext w w'→K (.bool (eqb l m)) w') : zd Tryz.prog Tryz.zA #[va,vb,fv] w K:=
 Tryz.yE (Zj (n:=4) (T:=42) (E:=41) (by decide) (by rfl) hr ha hb (fun _ _=>ahu) hf h)
theorem ae1 {l m : List PtD} {va vb fv : Value} {w : World} {r : Gh} {K : Value→World→Prop} (hr : Holds r w) (ha : SlB 21 r (PtG r) va l) (hb : SlB 21 r (PtG r) vb m) (hf : Cmp r (PtG r) l m fv)
  (h : ∀ w',Ext w w'→K (.bool (eqb l m)) w') : zd Tryz.prog Tryz.zG #[va,vb,fv] w K:=
 Tryz.y8 (Zj (n:=21) (T:=31) (E:=44) (by decide) (by rfl) hr ha hb (fun _ _=>ahv) hf h)
theorem afS {l m : List TyD} {va vb fv : Value} {w : World} {r : Gh} {K : Value→World→Prop} (hr : Holds r w) (ha : SlB 5 r (TyC r) va l) (hb : SlB 5 r (TyC r) vb m) (hf : Cmp r (TyC r) l m fv)
  (h : ∀ w',Ext w w'→K (.bool (eqb l m)) w') : zd Tryz.prog Tryz.zJ #[va,vb,fv] w K:=
 Tryz.xq (Zj (n:=5) (T:=29) (E:=57) (by decide) (by rfl) hr ha hb (fun _ _=>ahx) hf h)
theorem ae2 {l m : List GrD} {va vb fv : Value} {w : World} {r : Gh} {K : Value→World→Prop} (hr : Holds r w) (ha : SlB 7 r (GrG r) va l) (hb : SlB 7 r (GrG r) vb m) (hf : Cmp r (GrG r) l m fv)
  (h : ∀ w',Ext w w'→K (.bool (eqb l m)) w') : zd Tryz.prog Tryz.zH #[va,vb,fv] w K:=
 Tryz.y9 (Zj (n:=7) (T:=23) (E:=33) (by decide) (by rfl) hr ha hb (fun _ _=>ahw) hf h)
def FdC (r : Gh) (c : List Value) (f : ByteArray × TyD) : Prop:=∃ p cap,c = .string f.1::tyL f.2 p cap∧TyG r (tyV f.2 p cap) f.2
def SdC (r : Gh) (c : List Value) (s : StD) : Prop:=∃ q cap,c = [.string s.name,.slice q s.fs.length cap]∧SlB 6 r (FdC r) (.slice q s.fs.length cap) s.fs
theorem ae3 {l m : List (ByteArray × TyD)} {va vb fv : Value} {w : World} {r : Gh} {K : Value→World→Prop} (hr : Holds r w) (ha : SlB 6 r (FdC r) va l) (hb : SlB 6 r (FdC r) vb m) (hf : Cmp r (FdC r) l m fv)
  (h : ∀ w',Ext w w'→K (.bool (eqb l m)) w') : zd Tryz.prog Tryz.zF #[va,vb,fv] w K:=
 Tryz.y7 (Zj (n:=6) (T:=82) (E:=86) (by decide) (by rfl) hr ha hb (by rintro _ _ ⟨p,cap,rfl,_⟩;simp [Value.oneCell']) hf h)
theorem aew {l m : List StD} {va vb fv : Value} {w : World} {r : Gh} {K : Value→World→Prop} (hr : Holds r w) (ha : SlB 2 r (SdC r) va l) (hb : SlB 2 r (SdC r) vb m) (hf : Cmp r (SdC r) l m fv)
  (h : ∀ w',Ext w w'→K (.bool (eqb l m)) w') : zd Tryz.prog Tryz.zB #[va,vb,fv] w K:=
 Tryz.yR (Zj (n:=2) (T:=22) (E:=84) (by decide) (by rfl) hr ha hb (by rintro _ _ ⟨p,cap,rfl,_⟩;simp [Value.oneCell']) hf h)
end Go.Proofs
end
section
namespace Go.Proofs
open Go.Sh
set_option maxRecDepth 100000
set_option linter.unusedSimpArgs false
set_option linter.unusedVariables false
theorem Yp {a b : ByteArray} : (a.data.toList == b.data.toList)=true↔a=b:=by
 rw [beq_iff_eq]
 constructor
 ·intro h;exact ByteArray.ext (Array.toList_inj.1 h)
 ·rintro rfl;rfl
theorem aiT {r : Gh} {l m : List OpD} : Cmp r (OpG r) l m (.func (.func Tryz.xh) #[] #[]):=fun x _ y _ c d w K hc hd hr h=>
 Qr (by kernel_rfl) (qu hr hc hd h)
theorem PtD.eq_iff {p q : PtD} : p=q↔((((((((((((p.op=q.op∧p.sign=q.sign)∧p.mu=q.mu)∧p.fn=q.fn)∧p.st=q.st)∧p.nx=q.nx)∧p.el=q.el)∧p.tx=q.tx)∧p.to=q.to)∧p.fr=q.fr)∧p.a=q.a)∧p.b=q.b)∧p.args=q.args):=by
 cases p;cases q
 simp only [PtD.mk.injEq]
 constructor
 ·rintro ⟨h1,h2,h3,h4,h5,h6,h7,h8,h9,h10,h11,h12,h13⟩
  exact ⟨⟨⟨⟨⟨⟨⟨⟨⟨⟨⟨⟨h1,h6⟩,h8⟩,h9⟩,h10⟩,h11⟩,h12⟩,h13⟩,h2⟩,h7⟩,h3⟩,h4⟩,h5⟩
 ·rintro ⟨⟨⟨⟨⟨⟨⟨⟨⟨⟨⟨⟨h1,h6⟩,h8⟩,h9⟩,h10⟩,h11⟩,h12⟩,h13⟩,h2⟩,h7⟩,h3⟩,h4⟩,h5⟩
  exact ⟨h1,h2,h3,h4,h5,h6,h7,h8,h9,h10,h11,h12,h13⟩
set_option maxHeartbeats 2000000 in
theorem VB {p q : PtD} {c d : List Value} {w : World} {r : Gh} {K : Value→World→Prop} (hr : Holds r w) (hp : PtG r c p) (hq : PtG r d q)
  (h : ∀ w',Ext w w'→K (.bool (eqb p q)) w') : zd Tryz.prog Tryz.jj #[.agg c.toArray,.agg d.toArray] w K:=by
 refine Tryz.JK ?_
 unfold Tryz.Ye
 obtain ⟨z1,z2,z3,z4,z5,t1,t2,t3,t4,t5,rfl,hp0⟩:=yj hp
 obtain ⟨z1',z2',z3',z4',z5',t1',t2',t3',t4',t5',rfl,hq0⟩:=yj hq
 obtain ⟨kto,ka,kb,kl,kf⟩:=Zi hp0
 obtain ⟨mto,ma,mb,ml,mf⟩:=Zi hq0
 have S:=St.start hr
 refine S.box fun b2 w1 S=>?_
 have S : StX noX w r w1 [.cell b2 (ptL p z1 z2 z3 z4 z5 t1 t2 t3 t4 t5) 44]:=S
 refine S.box fun b3 w2 S=>?_
 have S : StX noX w r w2 [.cell b3 (ptL q z1' z2' z3' z4' z5' t1' t2' t3' t4' t5') 44,.cell b2 (ptL p z1 z2 z3 z4 z5 t1 t2 t3 t4 t5) 44]:=S
 refine gg_ ?_
 refine zg (c:=p.sign.data.toList == q.sign.data.toList) (fun _ K2 hK2=>?_) ?_
 ·refine gg_ ?_
  rw [xU p.sign,xU q.sign]
  refine gg_ ?_
  exact hK2
 refine zg (c:=p.mu == q.mu) (fun _ K2 hK2=>by refine gg_ ?_;exact hK2) ?_
 refine zg (c:=decide (p.fn=q.fn)) (fun _ K2 hK2=>by refine gg_ ?_;exact hK2) ?_
 refine zg (c:=decide (p.st=q.st)) (fun _ K2 hK2=>by refine gg_ ?_;exact hK2) ?_
 refine zg (c:=decide (p.nx=q.nx)) (fun _ K2 hK2=>by refine gg_ ?_;exact hK2) ?_
 refine zg (c:=decide (p.el=q.el)) (fun _ K2 hK2=>by refine gg_ ?_;exact hK2) ?_
 refine zg (c:=decide (p.tx=q.tx)) (fun _ K2 hK2=>by refine gg_ ?_;exact hK2) ?_
 refine zm (c:=eqb p.to q.to) (fun _ K2 hK2=>?_) fun w3 e3=>?_
 ·refine gg_ ?_
  refine S.ldN (b:=b2) ?_
  refine gg_ ?_
  refine S.ldN (b:=b3) ?_
  exact YY S.holds kto mto fun w4 e4=>hK2 _ e4
 have S:=S.go e3
 refine zm (c:=eqb p.fr q.fr) (fun _ K2 hK2=>?_) fun w4 e4=>?_
 ·refine gg_ ?_
  refine S.ldN (b:=b2) ?_
  refine gg_ ?_
  refine S.ldN (b:=b3) ?_
  exact YY S.holds kf mf fun w4 e4=>hK2 _ e4
 have S:=S.go e4
 refine zm (c:=eqb p.a q.a) (fun _ K2 hK2=>?_) fun w5 e5=>?_
 ·refine gg_ ?_
  refine S.ldN (b:=b2) ?_
  refine gg_ ?_
  refine S.ldN (b:=b3) ?_
  exact qu S.holds ka ma fun w4 e4=>hK2 _ e4
 have S:=S.go e5
 refine zm (c:=eqb p.b q.b) (fun _ K2 hK2=>?_) fun w6 e6=>?_
 ·refine gg_ ?_
  refine S.ldN (b:=b2) ?_
  refine gg_ ?_
  refine S.ldN (b:=b3) ?_
  exact qu S.holds kb mb fun w4 e4=>hK2 _ e4
 have S:=S.go e6
 refine zm (c:=eqb p.args q.args) (fun _ K2 hK2=>?_) fun w9 e9=>?_
 ·refine gg_ ?_
  exact ac9 S.holds kl ml aiT fun w4 e4=>hK2 _ e4
 have:=h _ (S.go e9).ext
 rwa [← ZH (b:=((((((((((((decide (p.op=q.op)&&(p.sign.data.toList == q.sign.data.toList))&&(p.mu == q.mu))&&decide (p.fn=q.fn))&&decide (p.st=q.st))&&decide (p.nx=q.nx))&&decide (p.el=q.el))&&decide (p.tx=q.tx))&&eqb p.to q.to)&&eqb p.fr q.fr)&&eqb p.a q.a)&&eqb p.b q.b)&&eqb p.args q.args))
  (by have hs:=@Yp p.sign q.sign;rw [beq_iff_eq] at hs;rw [PtD.eq_iff];simp only [Bool.and_eq_true,decide_eq_true_iff,kG,beq_iff_eq,hs])] at this
theorem aiU {r : Gh} {l m : List PtD} : Cmp r (PtG r) l m (.func (.func Tryz.jj) #[] #[]):=fun x _ y _ c d w K hc hd hr h=>
 Qr (by kernel_rfl) (VB hr hc hd h)
theorem aiV {s : Int} : ∀ (n : Nat) {a b : TyD},zz s n a=true→zz s n b=true→(xt fEq n a b=true↔a=b):=by
 intro n
 induction n with
 |zero=>intro a b h;cases h
 |succ n ih=>
  intro a b ha hb
  have hE : a=b↔((a.k=b.k∧a.m=b.m)∧a.st=b.st)∧a.re=b.re∧a.of=b.of:=by
   cases a;cases b;simp only [TyD.mk.injEq]
   constructor
   ·rintro ⟨h1,h2,h3,h4,h5⟩;exact ⟨⟨⟨h1,h2⟩,h4⟩,h3,h5⟩
   ·rintro ⟨⟨⟨h1,h2⟩,h4⟩,h3,h5⟩;exact ⟨h1,h2,h3,h4,h5⟩
  have hC : (!(decide (a.k≠b.k) || !(a.m == b.m)||decide (a.st≠b.st) || !fEq a.re b.re))=true↔((a.k=b.k∧a.m=b.m)∧a.st=b.st)∧a.re=b.re:=by
   simp [fEq,and_assoc]
  rcases zS ha with ⟨ho,hk⟩|⟨u,ho,hu,hk⟩
  ·rw [Qp ho,hC,hE]
   constructor
   ·rintro ⟨⟨⟨h1,h2⟩,h3⟩,h4⟩
    refine ⟨⟨⟨h1,h2⟩,h3⟩,h4,?_⟩
    rcases zS hb with ⟨ho',hk'⟩|⟨u',ho',hu',hk'⟩
    ·rw [ho,ho']
    ·exfalso;omega
   ·rintro ⟨h1,h2,_⟩;exact ⟨h1,h2⟩
  ·rcases zS hb with ⟨ho',hk'⟩|⟨u',ho',hu',hk'⟩
   ·have hne : a.k≠b.k:=by omega
    constructor
    ·intro h
     rw [xt,Bool.and_eq_true,hC] at h
     exact absurd h.1.1.1.1 hne
    ·rintro rfl;exact absurd rfl hne
   ·rw [Qq ho ho',Bool.and_eq_true,hC,ih hu hu',hE,ho,ho']
    simp [and_assoc]
theorem Q0 {a b : TyD} {w : World} {r : Gh} {va vb : Value} {K : Value→World→Prop} (hr : Holds r w) (ha : TyG r va a) (hb : TyG r vb b) (hA : isB a=true) (hB : isB b=true)
  (h : ∀ w',Ext w w'→K (.bool (eqb a b)) w') : zd Tryz.prog Tryz.qK #[va,vb] w K:=by
 refine ad8 hr ha hb fun w' e=>?_
 have:=h _ e
 rwa [← ZH (b:=zI fEq a b) (by rw [zI,hA,hB,Bool.true_and,Bool.true_and];exact aiV 48 hA hB)] at this
theorem aiW {r : Gh} {l m : List TyD} (hl : ∀ x ∈ l,isB x=true) (hm : ∀ x ∈ m,isB x=true) : Cmp r (TyC r) l m (.func (.func Tryz.qK) #[] #[]):=fun x hx y hy c d w K hc hd hr h=>
 Qr (by kernel_rfl) (Q0 hr hc hd (hl x hx) (hm y hy) h)
theorem ada {l m : List (Int × Int)} {va vb : Value} {w : World} {r : Gh} {K : Value→World→Prop} (hr : Holds r w) (ha : SlB 2 r aef va l) (hb : SlB 2 r aef vb m)
  (h : ∀ w',Ext w w'→K (.bool (eqb l m)) w') : zd Tryz.prog Tryz.ye #[va,vb] w K:=by
 refine Tryz.kH ?_
 unfold Tryz.yZ
 obtain ⟨pa,ca,rfl,_,_⟩:=ha.sl.shape
 obtain ⟨pb,cb,rfl,_,_⟩:=hb.sl.shape
 have hla : l.length≤9223372036854775807:=ha.few
 have S:=St.start hr
 refine gg_ ?_
 refine zh (fun hne=>?_) (fun heq=>?_)
 ·have:=h _ S.ext
  rwa [Qg (fun e=>hne (by rw [e]))] at this
 have hlen : l.length=m.length:=by
  rcases Nat.lt_trichotomy l.length m.length with h|h|h
  ·exact absurd (fun e=>by omega : ((l.length : Int)≠m.length)) heq
  ·exact h
  ·exact absurd (fun e=>by omega : ((l.length : Int)≠m.length)) heq
 refine gg_ ?_
 refine zi (ι:=Nat) (fun i=>[.int .i64 (i : Nat)]) (fun i w'=>i≤l.length∧l.take i=m.take i∧StX noX w r w' []) (fun i=>l.length - i) 0 rfl ⟨Nat.zero_le _,rfl,S⟩ ?_
 clear S
 rintro i d w4 ⟨hi,htk,S⟩ K1 hK1
 rw [List.getD_cons_zero]
 refine gg_ ?_
 refine zh (fun hlt=>?_) (fun hge=>?_)
 ·have hlt : i<l.length:=by omega
  have hlt2 : i<m.length:=by omega
  obtain ⟨ba,oa,c,rfl,hcl,hR,hca⟩:=ha.sl.get (by decide) hlt
  obtain ⟨bb,ob,d,rfl,hdl,hQ,hcb⟩:=hb.sl.get (by decide) hlt2
  have S:=S.go (Ext.drew _)
  obtain rfl : c = [.int .i64 l[i].1,.int .i64 l[i].2]:=hR
  obtain rfl : d = [.int .i64 m[i].1,.int .i64 m[i].2]:=hQ
  refine gg_ ?_
  refine zq (n:=2) rfl (fun j v hj=>by rw [Int.toNat_natCast];exact S.at (hca j v hj)) ?_
  refine gg_ ?_
  refine zq (n:=2) rfl (fun j v hj=>by rw [Int.toNat_natCast];exact S.at (hcb j v hj)) ?_
  refine gg_ ?_
  have hN : ∀ (x y : Int × Int),((!(decide (x.1=y.1)&&decide (x.2=y.2)))=true↔x≠y):=fun x y=>by
   rcases x with ⟨x1,x2⟩;rcases y with ⟨y1,y2⟩;by_cases h1 : x1=y1<;>by_cases h2 : x2=y2<;>simp [h1,h2]
  refine c_b (fun hb=>?_) (fun hb=>?_)
  ·have hne : l[i]≠m[i]:=(hN _ _).1 hb
   have:=h _ S.ext
   rwa [Qg (fun e=>hne (by subst e;rfl))] at this
  ·have he : l[i]=m[i]:=Decidable.not_not.1 fun hn=>by rw [(hN _ _).2 hn] at hb;cases hb
   refine gg_ ?_
   refine hK1 (i+1) _ ⟨hlt,?_,S⟩ (by omega)
   rw [List.take_succ_eq_append_getElem hlt,List.take_succ_eq_append_getElem hlt2,htk,he]
 have hie : i=l.length:=by omega
 subst hie
 have he : l=m:=by rwa [List.take_length,hlen,List.take_length] at htk
 have:=h _ S.ext
 rwa [he,jP] at this
theorem ae4 {l m : List ByteArray} {va vb : Value} {w : World} {r : Gh} {K : Value→World→Prop} (hr : Holds r w) (ha : SlB 1 r JA va l) (hb : SlB 1 r JA vb m)
  (h : ∀ w',Ext w w'→K (.bool (eqb l m)) w') : zd Tryz.prog Tryz.xm #[va,vb] w K:=by
 refine Tryz.vP ?_
 unfold Tryz.kF
 obtain ⟨pa,ca,rfl,_,_⟩:=ha.sl.shape
 obtain ⟨pb,cb,rfl,_,_⟩:=hb.sl.shape
 have hla : l.length≤9223372036854775807:=ha.few
 have S:=St.start hr
 refine gg_ ?_
 refine zh (fun hne=>?_) (fun heq=>?_)
 ·have:=h _ S.ext
  rwa [Qg (fun e=>hne (by rw [e]))] at this
 have hlen : l.length=m.length:=by
  rcases Nat.lt_trichotomy l.length m.length with h|h|h
  ·exact absurd (fun e=>by omega : ((l.length : Int)≠m.length)) heq
  ·exact h
  ·exact absurd (fun e=>by omega : ((l.length : Int)≠m.length)) heq
 refine gg_ ?_
 refine zi (ι:=Nat) (fun i=>[.int .i64 (i : Nat)]) (fun i w'=>i≤l.length∧l.take i=m.take i∧StX noX w r w' []) (fun i=>l.length - i) 0 rfl ⟨Nat.zero_le _,rfl,S⟩ ?_
 clear S
 rintro i d w4 ⟨hi,htk,S⟩ K1 hK1
 rw [List.getD_cons_zero]
 refine gg_ ?_
 refine zh (fun hlt=>?_) (fun hge=>?_)
 ·have hlt : i<l.length:=by omega
  have hlt2 : i<m.length:=by omega
  obtain ⟨ba,oa,c,rfl,hcl,hR,hca⟩:=ha.sl.get (by decide) hlt
  obtain ⟨bb,ob,d,rfl,hdl,hQ,hcb⟩:=hb.sl.get (by decide) hlt2
  have S:=S.go (Ext.drew _)
  obtain rfl : c = [.string l[i]]:=hR
  obtain rfl : d = [.string m[i]]:=hQ
  refine gg_ ?_
  refine zp (v:=.string l[i]) (by simpa using S.at (hca 0 _ rfl)) ?_
  refine gg_ ?_
  refine zp (v:=.string m[i]) (by simpa using S.at (hcb 0 _ rfl)) ?_
  rw [xU l[i],xU m[i]]
  refine gg_ ?_
  have hN : ∀ (x y : ByteArray),((!(x.data.toList == y.data.toList))=true↔x≠y):=fun x y=>by
   rw [Bool.not_eq_true',← Bool.not_eq_true,ne_eq,← Yp]
  refine c_b (fun hb=>?_) (fun hb=>?_)
  ·have hne : l[i]≠m[i]:=(hN _ _).1 hb
   have:=h _ S.ext
   rwa [Qg (fun e=>hne (by subst e;rfl))] at this
  ·have he : l[i]=m[i]:=Yp.1 (by simpa using hb)
   refine gg_ ?_
   refine hK1 (i+1) _ ⟨hlt,?_,S⟩ (by omega)
   rw [List.take_succ_eq_append_getElem hlt,List.take_succ_eq_append_getElem hlt2,htk,he]
 have hie : i=l.length:=by omega
 subst hie
 have he : l=m:=by rwa [List.take_length,hlen,List.take_length] at htk
 have:=h _ S.ext
 rwa [he,jP] at this
end Go.Proofs
end
section
namespace Go.Proofs
open Go.Sh
set_option maxRecDepth 100000
set_option linter.unusedSimpArgs false
set_option linter.unusedVariables false
theorem ajx {a b : ByteArray × TyD} : a=b↔a.1=b.1∧a.2=b.2:=by
 rcases a with ⟨a1,a2⟩;rcases b with ⟨b1,b2⟩;simp
theorem aiX {r : Gh} {l m : List (ByteArray × TyD)} (hl : ∀ x ∈ l,isB x.2=true) (hm : ∀ x ∈ m,isB x.2=true) : Cmp r (FdC r) l m (.func (.func Tryz.YF) #[] #[]):=fun x hx y hy c d w K hc hd hr h=>by
 refine Qr (by kernel_rfl) ?_
 refine Tryz.VA ?_
 unfold Tryz.YX
 obtain ⟨p,cap,rfl,ht⟩:=hc
 obtain ⟨q,cap',rfl,hu⟩:=hd
 have S:=St.start hr
 refine S.box fun b2 w1 S=>?_
 have S : StX noX w r w1 [.cell b2 (.string x.1::tyL x.2 p cap) 86]:=S
 refine S.box fun b3 w2 S=>?_
 have S : StX noX w r w2 [.cell b3 (.string y.1::tyL y.2 q cap') 86,.cell b2 (.string x.1::tyL x.2 p cap) 86]:=S
 refine gg_ ?_
 rw [xU x.1,xU y.1]
 refine gg_ ?_
 refine zm (c:=eqb x.2 y.2) (fun _ K2 hK2=>?_) fun w3 e3=>?_
 ·refine gg_ ?_
  refine S.ldN (b:=b2) (vs:=tyL x.2 p cap) ?_
  refine gg_ ?_
  refine S.ldN (b:=b3) (vs:=tyL y.2 q cap') ?_
  exact Q0 S.holds ht hu (hl x hx) (hm y hy) fun w4 e4=>hK2 _ e4
 have:=h _ (S.go e3).ext
 rwa [← ZH (b:=((x.1.data.toList == y.1.data.toList)&&eqb x.2 y.2)) (by rw [ajx,Bool.and_eq_true,Yp,kG])] at this
theorem StD.eq_iff {a b : StD} : a=b↔a.name=b.name∧a.fs=b.fs:=by
 cases a;cases b;simp
theorem aiY {r : Gh} {l m : List StD} (hl : ∀ s ∈ l,∀ x ∈ s.fs,isB x.2=true) (hm : ∀ s ∈ m,∀ x ∈ s.fs,isB x.2=true) : Cmp r (SdC r) l m (.func (.func Tryz.XR) #[] #[]):=fun x hx y hy c d w K hc hd hr h=>by
 refine Qr (by kernel_rfl) ?_
 refine Tryz.aa1 ?_
 unfold Tryz.Qb
 obtain ⟨p,cap,rfl,ht⟩:=hc
 obtain ⟨q,cap',rfl,hu⟩:=hd
 have S:=St.start hr
 refine S.box fun b2 w1 S=>?_
 have S : StX noX w r w1 [.cell b2 [.string x.name,.slice p x.fs.length cap] 84]:=S
 refine S.box fun b3 w2 S=>?_
 have S : StX noX w r w2 [.cell b3 [.string y.name,.slice q y.fs.length cap'] 84,.cell b2 [.string x.name,.slice p x.fs.length cap] 84]:=S
 refine gg_ ?_
 rw [xU x.name,xU y.name]
 refine gg_ ?_
 refine zm (c:=eqb x.fs y.fs) (fun _ K2 hK2=>?_) fun w3 e3=>?_
 ·refine gg_ ?_
  exact ae3 S.holds ht hu (aiX (hl x hx) (hm y hy)) fun w4 e4=>hK2 _ e4
 have:=h _ (S.go e3).ext
 rwa [← ZH (b:=((x.name.data.toList == y.name.data.toList)&&eqb x.fs y.fs)) (by rw [StD.eq_iff,Bool.and_eq_true,Yp,kG])] at this
theorem GrD.eq_iff {a b : GrD} : a=b↔((((((a.name=b.name∧a.lv=b.lv)∧a.pn=b.pn)∧a.outs=b.outs)∧a.nms=b.nms)∧a.tys=b.tys)∧a.pts=b.pts):=by
 cases a;cases b
 simp only [GrD.mk.injEq]
 constructor
 ·rintro ⟨h1,h2,h3,h4,h5,h6,h7⟩;exact ⟨⟨⟨⟨⟨⟨h1,h2⟩,h4⟩,h3⟩,h6⟩,h5⟩,h7⟩
 ·rintro ⟨⟨⟨⟨⟨⟨h1,h2⟩,h4⟩,h3⟩,h6⟩,h5⟩,h7⟩;exact ⟨h1,h2,h3,h4,h5,h6,h7⟩
theorem aiZ {r : Gh} {l m : List GrD} (hl : ∀ s ∈ l,∀ x ∈ s.tys,isB x=true) (hm : ∀ s ∈ m,∀ x ∈ s.tys,isB x=true) : Cmp r (GrG r) l m (.func (.func Tryz.XS) #[] #[]):=fun x hx y hy c d w K hc hd hr h=>by
 refine Qr (by kernel_rfl) ?_
 refine Tryz.aa2 ?_
 unfold Tryz.Qc
 obtain ⟨x1,x2,x3,x4,y1,y2,y3,y4,rfl,hg⟩:=xV hc
 obtain ⟨x1',x2',x3',x4',y1',y2',y3',y4',rfl,hg'⟩:=xV hd
 obtain ⟨_,_,_,_,hE,m1,m2,m3,m4⟩:=hg
 cases hE
 obtain ⟨_,_,_,_,hE,n1,n2,n3,n4⟩:=hg'
 cases hE
 have S:=St.start hr
 refine S.box fun b2 w1 S=>?_
 have S : StX noX w r w1 [.cell b2 (grL x x1 x2 x3 x4 y1 y2 y3 y4) 33]:=S
 refine S.box fun b3 w2 S=>?_
 have S : StX noX w r w2 [.cell b3 (grL y x1' x2' x3' x4' y1' y2' y3' y4') 33,.cell b2 (grL x x1 x2 x3 x4 y1 y2 y3 y4) 33]:=S
 refine gg_ ?_
 rw [xU x.name,xU y.name]
 refine gg_ ?_
 refine zg (c:=decide (x.lv=y.lv)) (fun _ K2 hK2=>by refine gg_ ?_;exact hK2) ?_
 refine zg (c:=decide (x.pn=y.pn)) (fun _ K2 hK2=>by refine gg_ ?_;exact hK2) ?_
 refine zm (c:=eqb x.outs y.outs) (fun _ K2 hK2=>?_) fun w3 e3=>?_
 ·refine gg_ ?_
  exact ada S.holds m1 n1 fun w4 e4=>hK2 _ e4
 have S:=S.go e3
 refine zm (c:=eqb x.nms y.nms) (fun _ K2 hK2=>?_) fun w3 e3=>?_
 ·refine gg_ ?_
  exact ae4 S.holds m3 n3 fun w4 e4=>hK2 _ e4
 have S:=S.go e3
 refine zm (c:=eqb x.tys y.tys) (fun _ K2 hK2=>?_) fun w3 e3=>?_
 ·refine gg_ ?_
  exact afS S.holds m2 n2 (aiW (hl x hx) (hm y hy)) fun w4 e4=>hK2 _ e4
 have S:=S.go e3
 refine zm (c:=eqb x.pts y.pts) (fun _ K2 hK2=>?_) fun w3 e3=>?_
 ·refine gg_ ?_
  exact ae1 S.holds m4 n4 aiU fun w4 e4=>hK2 _ e4
 have:=h _ (S.go e3).ext
 rwa [← ZH (b:=((((((x.name.data.toList == y.name.data.toList)&&decide (x.lv=y.lv))&&decide (x.pn=y.pn))&&eqb x.outs y.outs)&&eqb x.nms y.nms)&&eqb x.tys y.tys)&&eqb x.pts y.pts)
  (by have hs:=@Yp x.name y.name;rw [beq_iff_eq] at hs;rw [GrD.eq_iff];simp only [Bool.and_eq_true,decide_eq_true_iff,kG,beq_iff_eq,hs])] at this
theorem afl {u : UnD} (hM : MayU u) : ∀ g ∈ u.fs,∀ x ∈ g.tys,isB x=true:=fun g hg x hx=>by
 obtain ⟨i,hi,rfl⟩:=List.getElem_of_mem hg
 have hff:=(hM.hd hi).fine hM.ok
 exact (hff.all _ hx).is hff.few
theorem aex {u : UnD} (hM : MayU u) : ∀ s ∈ u.ss,s.fs.length≤8∧∀ x ∈ s.fs,isB x.2=true:=fun s hs=>by
 obtain ⟨k,hk,rfl⟩:=List.getElem_of_mem hs
 obtain ⟨h1,h2,h3,_⟩:=xF hM.ok
 have hat : ze u.ss (k : Nat)=u.ss[k].fs.map (·.2):=by rw [ze,Int.toNat_natCast,List.getElem?_eq_getElem hk]
 have hb:=h2 k hk
 rw [xb] at hb
 simp only [Bool.or_eq_false_iff,decide_eq_false_iff_not] at hb
 have hl:=hb.1.2
 rw [hat,List.length_map] at hl
 refine ⟨by omega,fun x hx=>?_⟩
 exact JN (h3 k x.2 (by rw [hat];exact List.mem_map_of_mem hx)) (Nat.le_refl _) (by omega)
theorem ahU {r : Gh} {ss : List StD} {p : Option Addr} {cap : Nat} (h : StG r p ss) (hc : ss.length≤cap) (hp : p=none→cap=0) (hl : ss.length≤maxLen) (hf : ∀ s ∈ ss,s.fs.length≤8) : SlB 2 r (SdC r) (.slice p ss.length cap) ss:=by
 have hrep : Rep r (.sl 2 (ss.map StD.dat)) [.slice p ss.length cap]:=⟨p,cap,by rw [List.length_map],hp,by rw [List.length_map];exact hc,h⟩
 obtain ⟨v,hv,hs⟩:=xG (R:=SdC r) (fun c s hs hr=>by
  obtain ⟨a1,b1,rfl,e1,a2,b2,rfl,e2,e3⟩:=hr
  obtain rfl : a1=_:=e1
  obtain rfl : b2 = []:=e3
  obtain ⟨v,rfl,hv⟩:=xG (R:=FdC r) (fun c x hx hr=>by
   obtain ⟨a1,b1,rfl,e1,a2,b2,rfl,e2,e3⟩:=hr
   obtain rfl : a1=_:=e1
   obtain rfl : b2 = []:=e3
   have ht:=TyG.of_rep e2
   obtain ⟨q,cap',hE,hq⟩:=id ht
   have hE : a2=tyL x.2 q cap':=by
    have:=congrArg Value.cells hE
    simpa [Value.cells] using congrArg Array.toList this
   subst hE
   exact ⟨q,cap',by simp,ht⟩) e2 (by have:=hf s hs;simp only [maxLen];omega)
  obtain ⟨q,cap',rfl,_,_⟩:=hv.sl.shape
  exact ⟨q,cap',rfl,hv⟩) hrep hl
 cases hv
 exact hs
theorem UnD.eq_iff {a b : UnD} : a=b↔(a.mn=b.mn∧a.ss=b.ss)∧a.fs=b.fs:=by
 cases a;cases b
 simp only [UnD.mk.injEq]
 constructor
 ·rintro ⟨h1,h2,h3⟩;exact ⟨⟨h3,h1⟩,h2⟩
 ·rintro ⟨⟨h3,h1⟩,h2⟩;exact ⟨h1,h2,h3⟩
theorem aey {a b : UnD} {va vb : Value} {w : World} {r : Gh} {K : Value→World→Prop} (hr : Holds r w) (ha : UnG r va a) (hb : UnG r vb b)
  (h : ∀ w',Ext w w'→K (.bool ((kD a&&kD b)&&eqb a b)) w') : zd Tryz.prog Tryz.YD #[va,vb] w K:=by
 refine Tryz.ac1 ?_
 unfold Tryz.JH
 have ha0:=ha
 have hb0:=hb
 obtain ⟨p0,cap0,vf,rfl,hp1,hp2,hst,hsl,hfn⟩:=ha
 obtain ⟨qf,capf,rfl,_,_⟩:=hfn.sl.shape
 obtain ⟨p0',cap0',vf',rfl,hp1',hp2',hst',hsl',hfn'⟩:=hb
 obtain ⟨qf',capf',rfl,_,_⟩:=hfn'.sl.shape
 have S:=St.start hr
 refine S.box fun b2 w1 S=>?_
 have S : StX noX w r w1 [.cell b2 [.slice p0 a.ss.length cap0,.slice qf a.fs.length capf,.int .i64 a.mn] 25]:=S
 refine S.box fun b3 w2 S=>?_
 have S : StX noX w r w2 [.cell b3 [.slice p0' b.ss.length cap0',.slice qf' b.fs.length capf',.int .i64 b.mn] 25,.cell b2 [.slice p0 a.ss.length cap0,.slice qf a.fs.length capf,.int .i64 a.mn] 25]:=S
 refine S.ldB (b:=b2) ?_ rfl
 refine jt S.holds ha0 fun w3 e3=>?_
 have S:=S.go e3
 refine zm (c:=kD b) (fun _ K2 hK2=>?_) fun w3 e3=>?_
 ·refine S.ldB (b:=b3) ?_ rfl
  exact jt S.holds hb0 fun w3 e3=>hK2 _ e3
 have S:=S.go e3
 refine zg (c:=decide (a.mn=b.mn)) (fun _ K2 hK2=>by refine gg_ ?_;exact hK2) ?_
 refine zm (c:=eqb a.ss b.ss) (fun hb1 K2 hK2=>?_) fun w3 e3=>?_
 ·simp only [Bool.and_eq_true,xN] at hb1
  have fa:=aex hb1.1.1;have fb:=aex hb1.1.2
  refine gg_ ?_
  exact aew S.holds (ahU hst hp2 hp1 hsl fun s hs=>(fa s hs).1) (ahU hst' hp2' hp1' hsl' fun s hs=>(fb s hs).1) (aiY (fun s hs=>(fa s hs).2) fun s hs=>(fb s hs).2) fun w4 e4=>hK2 _ e4
 have S:=S.go e3
 refine zm (c:=eqb a.fs b.fs) (fun hb1 K2 hK2=>?_) fun w3 e3=>?_
 ·simp only [Bool.and_eq_true,xN] at hb1
  refine gg_ ?_
  exact ae2 S.holds hfn hfn' (aiZ (afl hb1.1.1.1) (afl hb1.1.1.2)) fun w4 e4=>hK2 _ e4
 have:=h _ (S.go e3).ext
 have hB : ((((kD a&&kD b)&&decide (a.mn=b.mn))&&eqb a.ss b.ss)&&eqb a.fs b.fs)=((kD a&&kD b)&&eqb a b):=by
  rw [Bool.eq_iff_iff]
  simp only [Bool.and_eq_true,decide_eq_true_iff,kG,UnD.eq_iff (a:=a)]
  constructor
  ·rintro ⟨⟨⟨h1,h2⟩,h3⟩,h4⟩;exact ⟨h1,⟨h2,h3⟩,h4⟩
  ·rintro ⟨h1,⟨h2,h3⟩,h4⟩;exact ⟨⟨⟨h1,h2⟩,h3⟩,h4⟩
 rwa [← hB] at this
end Go.Proofs
end
section
namespace Go.Proofs
open Go.Sh
set_option maxRecDepth 100000
set_option linter.unusedSimpArgs false
set_option linter.unusedVariables false
theorem YZ : ∀ (n : Nat) {t : TyD} {w : World} {r : Gh} {v : Value} {deep : Int} {K : Value→World→Prop},0≤deep→deep≤n→n≤60→Holds r w→TyG r v t→
  (∀ b w',Ext w w'→K (.bool b) w')→zd Tryz.prog Tryz.xK #[v,.int .i64 deep] w K:=by
 intro n
 induction n with
 |zero=>
  intro t w r v deep K h0 h1 _ hr hv h
  obtain rfl : deep=0:=by omega
  refine Tryz.Yd ?_
  unfold Tryz.jL
  have S:=St.start hr
  refine S.box fun b2 w1 S=>?_
  refine gG_ ?_
  refine afF (fun _=>?_) (fun hn=>absurd rfl hn)
  exact c_T (h _ _ S.ext)
 |succ n ih=>
  intro t w r v deep K h0 h1 h2 hr hv h
  refine Tryz.Yd ?_
  unfold Tryz.jL
  obtain ⟨p,cap,rfl,_,_,hof⟩:=hv
  have S:=St.start hr
  refine S.box fun b2 w1 S=>?_
  refine gG_ ?_
  refine afF (fun _=>?_) (fun hz=>?_)
  ·exact c_T (h _ _ S.ext)
  intro K2 hK2;refine gG_ ?_;refine hK2 _ _ ?_;clear hK2 K2
  refine zh (fun _=>h _ _ S.ext) (fun hlen=>?_)
  refine zi (ι:=Nat) (fun i=>[.int .i64 i]) (fun i w'=>i≤t.of.length∧St w r w' _) (fun i=>t.of.length - i) 0 rfl ⟨Nat.zero_le _,S⟩ ?_
  clear S
  rintro i d w9 ⟨hi,S⟩ K6 hK6
  simp only [List.getD_cons_zero]
  refine gG_ ?_
  refine zh (fun hlt=>?_) (fun _=>h _ _ S.ext)
  have hlt : i<t.of.length:=by omega
  obtain ⟨b,off,c,rfl,hc,hcell,ht⟩:=kC S hof hlt
  refine gG_ ?_
  refine zq (n:=5) hc (by simpa using hcell) ?_
  refine gG_ ?_
  refine ih (by omega) (by omega) (by omega) S.holds ht fun bb w10 e10=>?_
  have S:=S.go e10
  refine gG_ ?_
  refine c_b (fun _=>h _ _ S.ext) (fun _=>?_)
  refine gG_ ?_
  exact hK6 (i+1) _ ⟨hlt,S⟩ (by omega)
theorem Zk {o : OpD} {c : List Value} {w : World} {r : Gh} {K : Value→World→Prop} (hr : Holds r w) (ho : OpG r c o)
  (h : ∀ w',Ext w w'→K (.bool (decide (o.pl.ps.length≤40))) w') : zd Tryz.prog Tryz.kx #[.agg c.toArray] w K:=by
 refine Tryz.aaS ?_
 unfold Tryz.X4
 obtain ⟨v,rfl,hv⟩:=ho
 obtain ⟨q,cap,rfl,_,_⟩:=hv.sl.shape
 have S:=St.start hr
 refine S.box fun b1 w1 S=>?_
 have S : StX noX w r w1 [.cell b1 [.int .u8 o.k,.int .i64 o.n,.int .i64 o.pl.l,.slice q o.pl.ps.length cap] 41]:=S
 refine gg_ ?_
 have:=h _ S.ext
 rwa [show decide (o.pl.ps.length≤40)=decide ((o.pl.ps.length : Int)≤40) from decide_eq_decide.2 (by omega)] at this
structure ahy (p : PtD) : Prop where
 to : p.to.ps.length≤40
 fr : p.fr.ps.length≤40
 a : p.a.pl.ps.length≤40
 b : p.b.pl.ps.length≤40
 args : p.args.length≤40
 sign : p.sign.size≤40
 ops : ∀ o ∈ p.args,o.pl.ps.length≤40
def ahz (g : GrD) : Prop:=g.pts.length≤1100∧∀ p ∈ g.pts,ahy p
theorem QB {α : Type} {P : α→Prop} {l : List α} {i : Nat} (hi : i<l.length) (h : ∀ x ∈ l.take i,P x) (hx : P l[i]) : ∀ x ∈ l.take (i+1),P x:=fun x hm=>by
 rw [List.take_succ_eq_append_getElem hi] at hm
 rcases List.mem_append.1 hm with hm|hm
 ·exact h x hm
 ·rw [List.mem_singleton.1 hm];exact hx
set_option maxHeartbeats 4000000 in
theorem aez {u : UnD} {v : Value} {w : World} {r : Gh} {K : Value→World→Prop} (hr : Holds r w) (hu : UnG r v u) (h : ∀ (b : Bool) w',Ext w w'→(b=true→∀ g ∈ u.fs,ahz g)→K (.bool b) w') : zd Tryz.prog Tryz.Yx #[v] w K:=by
 refine Tryz.acP ?_
 unfold Tryz.Jt
 obtain ⟨p0,cap0,vf,rfl,_,_,hst,hsl,hfn⟩:=hu
 obtain ⟨qf,capf,rfl,_,_⟩:=hfn.sl.shape
 have hfl : u.fs.length≤9223372036854775807:=hfn.few
 have hsl' : u.ss.length≤9223372036854775807:=hsl
 have no : ∀ {w'},Ext w w'→K (.bool false) w':=fun e=>h false _ e (fun e=>by cases e)
 have S:=St.start hr
 refine S.box fun b1 w1 S=>?_
 have S : StX noX w r w1 [.cell b1 [.slice p0 u.ss.length cap0,.slice qf u.fs.length capf,.int .i64 u.mn] 25]:=S
 refine gg_ ?_
 refine zf (c:=decide (40<(u.fs.length : Int))) (fun _ K2 hK2=>by refine gg_ ?_;exact hK2) ?_
 refine c_b (fun _=>no S.ext) (fun hsm=>?_)
 simp only [Bool.or_eq_false_iff,decide_eq_false_iff_not] at hsm
 refine zi (ι:=Nat) (fun i=>[.int .i64 (i : Nat)]) (fun i w'=>i≤u.ss.length∧StX noX w r w' _) (fun i=>u.ss.length - i) 0 rfl ⟨Nat.zero_le _,S⟩ ?_
 clear S
 rintro i d w2 ⟨hi,S⟩ K6 hK6
 rw [List.getD_cons_zero]
 refine gg_ ?_
 refine zh (fun hlt=>?_) (fun hge=>?_)
 ·have hlt : i<u.ss.length:=by omega
  obtain ⟨b,off,q,capq,rfl,hcell,_,hfc,hfl2⟩:=xP hst hlt
  refine gg_ ?_
  refine zp (by rw [Int.toNat_natCast];exact S.at hcell) ?_
  refine gg_ ?_
  refine zh (fun _=>no S.ext) (fun hfew=>?_)
  refine zi (ι:=Nat) (fun k=>[.int .i64 (k : Nat)]) (fun k w'=>k≤u.ss[i].fs.length∧StX noX w r w' _) (fun k=>u.ss[i].fs.length - k) 0 rfl ⟨Nat.zero_le _,S⟩ ?_
  clear S
  rintro k d w3 ⟨hk,S⟩ K10 hK10
  rw [List.getD_cons_zero]
  refine gg_ ?_
  refine zp (by rw [Int.toNat_natCast];exact S.at hcell) ?_
  refine gg_ ?_
  refine zh (fun hlt2=>?_) (fun hge2=>?_)
  ·have hlt2 : k<u.ss[i].fs.length:=by omega
   obtain ⟨b',off',c,rfl,hc5,hcl,hty⟩:=kP hfl2 hlt2
   refine gg_ ?_
   refine zp (by rw [Int.toNat_natCast];exact S.at hcell) ?_
   refine gg_ ?_
   refine zq (n:=5) hc5 (fun j v hj=>by rw [Int.toNat_natCast];have:=S.at (hcl (j+1) v (by simpa using hj));rwa [show off'+k*6+(j+1)=off'+k*6+1+j by omega] at this) ?_
   refine YZ 60 (by decide) (by decide) (by decide) S.holds hty fun x w4 e4=>?_
   have S:=S.go e4
   refine gp_ ?_
   refine c_b (fun _=>no S.ext) (fun _=>?_)
   refine gg_ ?_
   exact hK10 (k+1) _ ⟨hlt2,S⟩ (by omega)
  refine gg_ ?_
  exact hK6 (i+1) _ ⟨hlt,S⟩ (by omega)
 refine zi (ι:=Nat × Int) (fun i=>[.int .i64 i.2,.int .i64 (i.1 : Nat)]) (fun i w'=>i.1≤u.fs.length∧(∀ g ∈ u.fs.take i.1,ahz g)∧StX noX w r w' _) (fun i=>u.fs.length - i.1) (0,0) rfl ⟨Nat.zero_le _,by simp,S⟩ ?_
 clear S hK6 K6 hge hi
 rintro ⟨i,n⟩ d w3 ⟨hi,hfit,S⟩ K7 hK7
 simp only at hi hfit S ⊢
 simp only [List.getD_cons_zero,List.getD_cons_succ]
 refine gg_ ?_
 refine zh (fun hlt=>?_) (fun hge=>?_)
 rotate_left
 ·have hie : i=u.fs.length:=by omega
  subst hie
  rw [List.take_length] at hfit
  refine gg_ ?_
  exact h _ _ S.ext fun _=>hfit
 have hlt : i<u.fs.length:=by omega
 obtain ⟨bf,of,cf,rfl,hcf,hgc,hfo⟩:=hfn.sl.get (by decide) hlt
 have htk:=fun hx : ahz u.fs[i]=>QB hlt hfit hx
 generalize u.fs[i]=g at hgc htk
 obtain ⟨x1,x2,x3,x4,y1,y2,y3,y4,rfl,hg0⟩:=xV hgc
 obtain ⟨_,_,_,_,hE,m1,m2,m3,m4⟩:=hg0
 cases hE
 have hml : g.tys.length≤9223372036854775807:=m2.few
 have hmp : g.pts.length≤9223372036854775807:=m4.few
 refine gg_ ?_
 refine zq (n:=7) hcf (fun j v hj=>by rw [Int.toNat_natCast];exact S.at (hfo j v hj)) ?_
 refine S.al fun b7 w4 S=>?_
 refine S.stB (b:=b7) fun w5 S=>?_
 have S : StX noX w r w5 [.cell b7 (grL g x1 x2 x3 x4 y1 y2 y3 y4) 33,.cell b1 [.slice p0 u.ss.length cap0,.slice (some ⟨bf,of,none⟩) u.fs.length capf,.int .i64 u.mn] 25]:=S
 refine gg_ ?_
 refine zf (c:=decide (1100<(g.nms.length : Int))) (fun _ K2 hK2=>by refine gg_ ?_;exact hK2) ?_
 refine zf (c:=decide (200<(g.outs.length : Int))) (fun _ K2 hK2=>by refine gg_ ?_;exact hK2) ?_
 refine zf (c:=decide (1100<(g.pts.length : Int))) (fun _ K2 hK2=>by refine gg_ ?_;exact hK2) ?_
 refine c_b (fun _=>no S.ext) (fun hgs=>?_)
 simp only [Bool.or_eq_false_iff,decide_eq_false_iff_not] at hgs
 refine gg_ ?_
 refine aiR fun y=>?_
 refine zi (ι:=Nat) (fun k=>[.int .i64 (k : Nat)]) (fun k w'=>k≤g.tys.length∧StX noX w r w' _) (fun k=>g.tys.length - k) 0 rfl ⟨Nat.zero_le _,S⟩ ?_
 clear S
 rintro k d w6 ⟨hk,S⟩ K33 hK33
 rw [List.getD_cons_zero]
 refine gg_ ?_
 refine zh (fun hlt2=>?_) (fun hge2=>?_)
 ·have hlt2 : k<g.tys.length:=by omega
  obtain ⟨bt,ot,ct,hE,hct,hty,hto⟩:=m2.sl.get (by decide) hlt2
  cases hE
  refine gg_ ?_
  refine zq (n:=5) hct (fun j v hj=>by rw [Int.toNat_natCast];exact S.at (hto j v hj)) ?_
  refine YZ 60 (by decide) (by decide) (by decide) S.holds hty fun x w4 e4=>?_
  have S:=S.go e4
  refine gp_ ?_
  refine c_b (fun _=>no S.ext) (fun _=>?_)
  refine gg_ ?_
  exact hK33 (k+1) _ ⟨hlt2,S⟩ (by omega)
 refine zi (ι:=Nat) (fun k=>[.int .i64 (k : Nat)]) (fun k w'=>k≤g.pts.length∧(∀ p ∈ g.pts.take k,ahy p)∧StX noX w r w' [.cell b7 (grL g x1 x2 x3 x4 y1 y2 y3 y4) 33,.cell b1 [.slice p0 u.ss.length cap0,.slice (some ⟨bf,of,none⟩) u.fs.length capf,.int .i64 u.mn] 25]) (fun k=>g.pts.length - k) 0 rfl ⟨Nat.zero_le _,by simp,S⟩ ?_
 clear S hK33 K33 hge2 hk k
 rintro k d w8 ⟨hk,hps,S⟩ K38 hK38
 rw [List.getD_cons_zero]
 refine gg_ ?_
 refine zh (fun hlt2=>?_) (fun hge2=>?_)
 ·have hlt2 : k<g.pts.length:=by omega
  obtain ⟨bp,op,cp,hE,hcp,hpc,hpo⟩:=m4.sl.get (by decide) hlt2
  cases hE
  have hpk:=fun hx : ahy g.pts[k]=>QB hlt2 hps hx
  generalize g.pts[k]=p at hpc hpk
  obtain ⟨z1,z2,z3,z4,z5,t1,t2,t3,t4,t5,rfl,hp0⟩:=yj hpc
  obtain ⟨kto,ka,kb,kl,kf⟩:=Zi hp0
  have hkl : p.args.length≤9223372036854775807:=kl.few
  refine gg_ ?_
  refine zq (n:=21) hcp (fun j v hj=>by rw [Int.toNat_natCast];exact S.at (hpo j v hj)) ?_
  refine S.al fun b10 w9 S=>?_
  refine S.stB (b:=b10) fun w10 S=>?_
  have S : StX noX w r w10 [.cell b10 (ptL p z1 z2 z3 z4 z5 t1 t2 t3 t4 t5) 44,.cell b7 (grL g x1 x2 x3 (some ⟨bp,op,none⟩) y1 y2 y3 y4) 33,.cell b1 [.slice p0 u.ss.length cap0,.slice (some ⟨bf,of,none⟩) u.fs.length capf,.int .i64 u.mn] 25]:=S
  refine gg_ ?_
  refine zf (c:=decide (40<(p.fr.ps.length : Int))) (fun _ K2 hK2=>by refine gg_ ?_;exact hK2) ?_
  refine ym (c:=!decide (p.a.pl.ps.length≤40)) (fun _ K2 hK2=>?_) fun w11 e11=>?_
  ·refine gg_ ?_
   refine S.ldN (b:=b10) ?_
   refine Zk S.holds ka fun w4 e4=>?_
   refine gp_ ?_
   exact hK2 _ e4
  have S:=S.go e11
  refine ym (c:=!decide (p.b.pl.ps.length≤40)) (fun _ K2 hK2=>?_) fun w12 e12=>?_
  ·refine gg_ ?_
   refine S.ldN (b:=b10) ?_
   refine Zk S.holds kb fun w4 e4=>?_
   refine gp_ ?_
   exact hK2 _ e4
  have S:=S.go e12
  refine zf (c:=decide (40<(p.args.length : Int))) (fun _ K2 hK2=>by refine gg_ ?_;exact hK2) ?_
  refine zf (c:=decide (40<(p.sign.size : Int))) (fun _ K2 hK2=>by refine gg_ ?_;exact hK2) ?_
  refine c_b (fun _=>no S.ext) (fun hgood=>?_)
  simp only [Bool.or_eq_false_iff,decide_eq_false_iff_not,Bool.not_eq_false',decide_eq_true_eq] at hgood
  refine zi (ι:=Nat) (fun m=>[.int .i64 (m : Nat)]) (fun m w'=>m≤p.args.length∧(∀ o ∈ p.args.take m,o.pl.ps.length≤40)∧StX noX w r w' _) (fun m=>p.args.length - m) 0 rfl ⟨Nat.zero_le _,by simp,S⟩ ?_
  clear S
  rintro m d w13 ⟨hm,hops,S⟩ K66 hK66
  rw [List.getD_cons_zero]
  refine gg_ ?_
  refine zh (fun hlt3=>?_) (fun hge3=>?_)
  ·have hlt3 : m<p.args.length:=by omega
   obtain ⟨bo,oo,co,hE,hco,hoc,hoo⟩:=kl.sl.get (by decide) hlt3
   cases hE
   refine gg_ ?_
   refine zq (n:=4) hco (fun j v hj=>by rw [Int.toNat_natCast];exact S.at (hoo j v hj)) ?_
   refine Zk S.holds hoc fun w4 e4=>?_
   have S:=S.go e4
   refine gp_ ?_
   refine c_b (fun _=>no S.ext) (fun hk=>?_)
   refine gg_ ?_
   exact hK66 (m+1) _ ⟨hlt3,QB hlt3 hops (by simpa using hk),S⟩ (by omega)
  have hme : m=p.args.length:=by omega
  subst hme
  rw [List.take_length] at hops
  have S:=S.drop b10
  refine gg_ ?_
  exact hK38 (k+1) _ ⟨hlt2,hpk ⟨by omega,by omega,by omega,by omega,by omega,by omega,hops⟩,S⟩ (by omega)
 have hke : k=g.pts.length:=by omega
 subst hke
 rw [List.take_length] at hps
 have S:=S.drop b7
 refine gg_ ?_
 exact hK7 (i+1,y) _ ⟨hlt,htk ⟨by omega,hps⟩,S⟩ (by show u.fs.length - (i+1)<u.fs.length - i;omega)
end Go.Proofs
end
section
namespace Go.Sh
open Go.RowKit
section
variable {P : Program} {X : Nat→Prop} {w0 w : World} {r : Gh} {L : List Asr} {α : Type} {sz n : Nat} {R : List Value→α→Prop} {l : List α} {e : TypeId} {p : Option Addr} {cap : Nat}
theorem afm (hz : 0<sz) (h : SlG sz r R (.slice p n cap) l) : ∃ xs,RowOf sz R xs l∧Ob r fun w=>Sl w p xs:=by
 have key : ∀ k,k≤l.length→∃ xs,RowOf sz R xs (l.take k)∧Ob r fun w=>Sl w p xs:=by
  intro k
  induction k with
  |zero=>intro _;exact ⟨[],by rw [List.take_zero];exact RowOf.nil,fun w _=>Sl.nil w _⟩
  |succ k ih=>
   intro hk
   obtain ⟨xs,h1,h2⟩:=ih (by omega)
   obtain ⟨b,off,c,rfl,hc,hcc,hcell⟩:=h.get hz (show k<l.length by omega)
   have hxl : xs.length=k*sz:=by rw [h1.1,List.length_take,Nat.min_eq_left (by omega)]
   refine ⟨xs++c,by rw [List.take_succ_eq_append_getElem (by omega)];exact h1.snoc hc hcc,fun w hw i v hi=>?_⟩
   by_cases hlt : i<xs.length
   ·rw [List.getElem?_append_left hlt] at hi;exact h2 w hw i v hi
   ·rw [List.getElem?_append_right (by omega)] at hi
    have:=hcell _ v hi w hw
    exact ⟨b,off,rfl,by rwa [show off+k*sz+(i - xs.length)=off+i by omega] at this⟩
 have:=key l.length (Nat.le_refl _)
 rwa [List.take_length] at this
theorem abi {xs : List Value} (h : RowOf sz R xs l) (hz : 0<sz) (h1 : ∀ c x,R c x→∀ u ∈ c,u.oneCell'=true) : ∀ u ∈ xs,u.oneCell'=true:=fun u hu=>by
 obtain ⟨i,hi,rfl⟩:=List.getElem_of_mem hu
 have hj : i / sz<l.length:=by
  rw [h.1] at hi
  exact Nat.div_lt_of_lt_mul (by rw [Nat.mul_comm];exact hi)
 refine h1 _ _ (h.2 _ hj) _ ?_
 have hm:=Nat.mod_lt i hz
 have hd:=Nat.div_add_mod i sz
 refine List.mem_of_getElem? (i:=i % sz) ?_
 rw [List.getElem?_take,if_pos hm,List.getElem?_drop,show i / sz*sz+i % sz=i by rw [Nat.mul_comm];exact hd,List.getElem?_eq_getElem hi]
theorem StX.cellRow {b : Nat} {c : List Value} (S : StX X w0 r w (.cell b c e::L)) (hn : n≤cap) (hc : c.length=cap*sz) (hm : cap≤maxLen) : StX X w0 r w (.row (.slice (some ⟨b,0,none⟩) n cap) e sz n (c.take (n*sz))::L):=by
 have:=j8 (w:=w) (base:=0) (size:=sz) (n:=n) (cap:=cap) (Nat.zero_le _) (S.has (.cell b c e) List.mem_cons_self) hn hm hc
 exact S.turn (p:=[]) (x:=.cell b c e) (y:=.row (.slice (some ⟨b,0,none⟩) n cap) e sz n (c.take (n*sz))) (ExtBut.refl _ _) this fun k hk=>.inl (by cases hk;rfl)
end
end Go.Sh
namespace Go.Proofs
open Go.Sh
set_option maxRecDepth 100000
set_option linter.unusedSimpArgs false
set_option linter.unusedVariables false
theorem ab5 {r : Gh} {c : List Value} {o : OpD} (h : OpG r c o) : ∃ q k,c = [.int .u8 o.k,.int .i64 o.n,.int .i64 o.pl.l,.slice q o.pl.ps.length k]:=by
 obtain ⟨v,rfl,hl⟩:=h
 obtain ⟨q,k,rfl,_⟩:=hl.sl.shape
 exact ⟨q,k,rfl⟩
theorem xB {r : Gh} {c : List Value} {o : OpD} (h : OpG r c o) : c.length=4:=by obtain ⟨q,k,rfl⟩:=ab5 h;rfl
theorem Qh {r : Gh} {c : List Value} {o : OpD} (h : OpG r c o) : ∀ u ∈ c,u.oneCell'=true:=by obtain ⟨q,k,rfl⟩:=ab5 h;simp [Value.oneCell']
def yr (o : OpD) : Bool:=decide (o.k≠0)
def opersG (p : PtD) : List OpD:=(p.a::p.b::p.args).filter yr
abbrev afT : Value:=.func (.func Tryz.Zx) #[] #[]
theorem JW {o : OpD} {c : List Value} {w0 w : World} {r : Gh} {L : List Asr} {K : Value→World→Prop} (S : StX noX w0 r w L) (ho : OpG r c o)
  (h : ∀ w',StX noX w0 r w' L→K (.bool (decide (o.k=0))) w') : z7 Tryz.prog afT #[.agg c.toArray] w K:=by
 refine ahS (by kernel_rfl) ?_
 refine Tryz.Q9 ?_
 unfold Tryz.ZB
 obtain ⟨q,k,rfl⟩:=ab5 ho
 refine S.box fun b1 w1 S=>?_
 have S : StX noX w0 r w1 (.cell b1 [.int .u8 o.k,.int .i64 o.n,.int .i64 o.pl.l,.slice q o.pl.ps.length k] 41::L):=S
 refine gg_ ?_
 exact h _ S.tl
abbrev qv (c : List Value) (i : Nat) : List Value:=(c.drop (i*4)).take 4
theorem ab6 {l : List OpD} {b n cap : Nat} {c : List Value} {w0 w : World} {r : Gh} {L : List Asr} {K : Value→World→Prop} (S : StX noX w0 r w (.cell b c 41::L)) (hn : n=l.length) (hb : n≤1000000)
  (hrow : ∀ (i : Nat) (hi : i<l.length),OpG r (qv c i) l[i])
  (h : ∀ (i : Int) w',StX noX w0 r w' (.cell b c 41::L)→(i = -1∧(∀ o ∈ l,o.k≠0))∨(∃ j : Nat,i=j∧∃ hj : j<l.length,l[j].k=0∧∀ o ∈ l.take j,o.k≠0)→K (.int .i64 i) w') :
  zd Tryz.prog Tryz.z8 #[.slice (some ⟨b,0,none⟩) n cap,afT] w K:=by
 subst hn
 refine Tryz.ko ?_
 unfold Tryz.yN
 refine gp_ ?_
 refine zi (ι:=Nat) (fun i=>[.int .i64 (i : Nat)]) (fun i w'=>i≤l.length∧(∀ o ∈ l.take i,o.k≠0)∧StX noX w0 r w' (.cell b c 41::L)) (fun i=>l.length - i) 0 rfl ⟨Nat.zero_le _,by simp,S⟩ ?_
 clear S
 rintro i d w' ⟨hi,hno,S⟩ K6 hK6
 rw [List.getD_cons_zero]
 refine gp_ ?_
 refine zh (fun hlt=>?_) (fun hge=>?_)
 ·have hlt : i<l.length:=by omega
  have hr:=hrow i hlt
  refine s_c (by omega) ?_
  rw [show 0+((i : Nat) : Int).toNat*4=i*4 by omega]
  refine S.ldN (b:=b) (vs:=qv c i) ?_ rfl (xB hr)
  refine JW S hr fun w2 S=>?_
  refine zh (fun hk=>?_) (fun hk=>?_)
  ·exact h _ _ S (.inr ⟨i,rfl,hlt,hk,hno⟩)
  ·refine gp_ ?_
   rw [show ((i : Int)+1)=((i+1 : Nat) : Int) by omega]
   refine hK6 (i+1) _ ⟨hlt,fun o ho=>?_,S⟩ (by omega)
   rw [List.take_succ_eq_append_getElem hlt,List.mem_append] at ho
   rcases ho with ho|ho
   ·exact hno o ho
   ·rw [List.mem_singleton.1 ho];exact hk
 ·have hie : i=l.length:=by omega
  rw [hie,List.take_length] at hno
  exact h _ _ S (.inl ⟨rfl,hno⟩)
theorem afn {o : OpD} (h : o.k=0) : [o].filter yr = []:=by simp [yr,h]
theorem ahA {o : OpD} (h : o.k≠0) : [o].filter yr = [o]:=by simp [yr,h]
theorem QC {l : List OpD} (h : ∀ o ∈ l,o.k≠0) : l.filter yr=l:=List.filter_eq_self.2 fun o ho=>decide_eq_true (h o ho)
theorem afo {c cs : List Value} {i m : Nat} (hc : i*4+4≤c.length) (hl : cs.length=4) (hm : i<m) : qv (c.take (i*4)++cs++c.drop (i*4+4)) m=qv c m:=by
 have e : (c.take (i*4)++cs++c.drop (i*4+4)).drop (m*4)=c.drop (m*4):=by
  rw [List.drop_append,List.drop_of_length_le (by rw [List.length_append,List.length_take,hl];omega),List.nil_append,List.length_append,List.length_take,hl,List.drop_drop]
  congr 1;omega
 rw [qv,e]
theorem afp {c cs : List Value} {i : Nat} (hc : i*4+4≤c.length) (hl : cs.length=4) : (c.take (i*4)++cs++c.drop (i*4+4)).take ((i+1)*4)=c.take (i*4)++cs:=by
 rw [List.take_append_of_le_length (by rw [List.length_append,List.length_take,hl];omega),List.take_of_length_le (by rw [List.length_append,List.length_take,hl];omega)]
set_option maxHeartbeats 1000000 in
theorem abj {l : List OpD} {b n cap : Nat} {c : List Value} {w0 w : World} {r : Gh} {L : List Asr} {K : Value→World→Prop} (S : StX noX w0 r w (.cell b c 41::L)) (hn : n=l.length) (hb : n≤1000000) (hnc : n≤cap) (hc : c.length=cap*4)
  (hrow : ∀ (i : Nat) (hi : i<l.length),OpG r (qv c i) l[i])
  (h : ∀ c' w',StX noX w0 r w' (.cell b c' 41::L)→c'.length=cap*4→RowOf 4 (OpG r) (c'.take ((l.filter yr).length*4)) (l.filter yr)→K (.slice (some ⟨b,0,none⟩) (l.filter yr).length cap) w') :
  zd Tryz.prog Tryz.z6 #[.slice (some ⟨b,0,none⟩) n cap,afT] w K:=by
 subst hn
 refine Tryz.kh ?_
 unfold Tryz.yJ
 have hrow0 : ∀ k,k≤l.length→RowOf 4 (OpG r) (c.take (k*4)) (l.take k):=fun k hk=>⟨by rw [List.length_take,List.length_take];omega,fun i hi=>by
  rw [List.length_take] at hi
  rw [List.getElem_take,List.drop_take,List.take_take,Nat.min_eq_left (by omega)]
  exact hrow i (by omega)⟩
 refine ab6 S rfl hb hrow fun i0 w1 S hi0=>?_
 refine gp_ ?_
 rcases hi0 with ⟨rfl,hall⟩|⟨j,rfl,hj,hjk,hbef⟩
 ·refine c_t (by decide) ?_
  have:=h c w1 S hc (by rw [QC hall];have:=hrow0 l.length (Nat.le_refl _);rwa [List.take_length] at this)
  rw [QC hall] at this
  exact this
 refine c_f (decide_eq_false (by omega)) ?_
 refine gp_ ?_
 have hf0 : (l.take j).filter yr=l.take j:=QC hbef
 have hf1 : (l.take (j+1)).filter yr=l.take j:=by
  rw [List.take_succ_eq_append_getElem hj,List.filter_append,hf0,afn hjk,List.append_nil]
 refine zi (ι:=Nat × Nat × List Value) (fun i=>[.int .i64 (i.1 : Nat),.int .i64 (i.2.1 : Nat)]) (fun i w'=>i.1<i.2.1∧i.2.1≤l.length∧i.1=((l.take i.2.1).filter yr).length∧i.2.2.length=cap*4∧RowOf 4 (OpG r) (i.2.2.take (i.1*4)) ((l.take i.2.1).filter yr)∧
  (∀ (m : Nat) (hm : m<l.length),i.2.1≤m→OpG r (qv i.2.2 m) l[m])∧StX noX w0 r w' (.cell b i.2.2 41::L)) (fun i=>l.length - i.2.1) (j,j+1,c) (by simp) ⟨by simp,hj,by rw [hf1,List.length_take];omega,hc,by rw [hf1];exact hrow0 j (by omega),fun m hm _=>hrow m hm,S⟩ ?_
 clear S
 rintro ⟨i,k,c1⟩ d w2 ⟨hik,hk,hie,hc1,hr1,hrest,S⟩ K2 hK2
 simp only at hik hk hie hc1 hr1 hrest S ⊢
 simp only [List.getD_cons_zero,List.getD_cons_succ]
 refine gp_ ?_
 refine gp_ ?_
 refine zh (fun hlt=>?_) (fun hge=>?_)
 ·have hlt : k<l.length:=by omega
  have hrk:=hrest k hlt (Nat.le_refl _)
  have hs : l.take (k+1)=l.take k ++ [l[k]]:=List.take_succ_eq_append_getElem hlt
  refine zu (fun s w'=>∃ i' c',s = [.int .i64 (i' : Nat)]∧i'<k+1∧i'=((l.take (k+1)).filter yr).length∧c'.length=cap*4∧RowOf 4 (OpG r) (c'.take (i'*4)) ((l.take (k+1)).filter yr)∧
   (∀ (m : Nat) (hm : m<l.length),k+1≤m→OpG r (qv c' m) l[m])∧StX noX w0 r w' (.cell b c' 41::L)) (fun K6 hK6=>?_) ?_
  rotate_left
  ·rintro _ w3 ⟨i',c',rfl,g1,g2,g3,g4,g5,S⟩ d3
   rw [List.getD_cons_zero]
   refine gp_ ?_
   rw [show ((k : Int)+1)=((k+1 : Nat) : Int) by omega]
   exact hK2 (i',k+1,c') _ ⟨g1,hlt,g2,g3,g4,g5,S⟩ (by show l.length - (k+1)<l.length - k;omega)
  refine s_c (by omega) ?_
  rw [show 0+((k : Nat) : Int).toNat*4=k*4 by omega]
  refine S.ldN (b:=b) (vs:=qv c1 k) ?_ rfl (xB hrk)
  refine S.al fun b7 w3 S=>?_
  refine S.stB (b:=b7) (cs:=(qv c1 k).toArray) (fun w4 S=>?_) rfl (by simpa using xB hrk) (by simpa using Qh hrk)
  have S : StX noX w0 r w4 (.cell b7 (qv c1 k) 41 :: .cell b c1 41::L):=S
  refine S.ldB (b:=b7) ?_ (xB hrk)
  refine JW S hrk fun w5 S=>?_
  refine gp_ ?_
  by_cases hk0 : l[k].k=0
  ·refine c_f (by rw [decide_eq_true hk0];rfl) ?_
   have hfe : (l.take (k+1)).filter yr=(l.take k).filter yr:=by
    rw [hs,List.filter_append,afn hk0,List.append_nil]
   refine hK6 _ _ ⟨i,c1,rfl,by omega,by rw [hfe];exact hie,hc1,by rw [hfe];exact hr1,fun m hm hkm=>hrest m hm (by omega),S.tl⟩
  ·refine c_t (by rw [decide_eq_false hk0];rfl) ?_
   have hfe : (l.take (k+1)).filter yr=(l.take k).filter yr ++ [l[k]]:=by
    rw [hs,List.filter_append,ahA hk0]
   refine S.ldB (b:=b7) ?_ (xB hrk)
   refine s_c (by omega) ?_
   rw [show 0+((i : Nat) : Int).toNat*4=i*4 by omega]
   refine S.stN (b:=b) (cs:=(qv c1 k).toArray) (fun w6 S=>?_) (by omega) (by simpa using xB hrk) (by simpa using Qh hrk)
   have S : StX noX w0 r w6 (.cell b7 (qv c1 k) 41 :: .cell b (c1.take (i*4)++qv c1 k++c1.drop (i*4+4)) 41::L):=S
   refine gp_ ?_
   rw [show ((i : Int)+1)=((i+1 : Nat) : Int) by omega]
   refine hK6 _ _ ⟨i+1,c1.take (i*4)++qv c1 k++c1.drop (i*4+4),rfl,by omega,by rw [hfe,List.length_append,← hie];rfl,?_,?_,fun m hm hkm=>?_,S.tl⟩
   ·rw [List.length_append,List.length_append,List.length_take,List.length_drop,xB hrk];omega
   ·rw [afp (by omega) (xB hrk),hfe]
    exact hr1.snoc (xB hrk) hrk
   ·rw [afo (by omega) (xB hrk) (by omega)]
    exact hrest m hm (by omega)
 ·have hke : k=l.length:=by omega
  rw [hke,List.take_length] at hie hr1
  refine s_c (by omega) ?_
  rw [if_neg (by omega),Option.map_some,kc,Int.toNat_natCast,Nat.zero_add]
  refine S.clr (b:=b) (by
   have e : (List.length [Value.int .u8 0,Value.int .i64 0,Value.int .i64 0,Value.slice none 0 0])=4:=rfl
   rw [e];omega) (by simp [Value.oneCell']) fun c2 w3 hc2 ht2 S=>?_
  refine s_c (by omega) ?_
  rw [Int.toNat_natCast,hie]
  exact h c2 w3 S (by omega) (by rw [← hie,ht2];exact hr1)
set_option maxHeartbeats 1000000 in
theorem aaq {p : PtD} {c : List Value} {w : World} {r : Gh} {K : Value→World→Prop} (hr : Holds r w) (hp : PtG r c p) (hb : p.args.length≤1000)
  (h : ∀ b cap c' w',StX noX w r w' [.cell b c' 41]→c'.length=cap*4→(opersG p).length≤cap→RowOf 4 (OpG r) (c'.take ((opersG p).length*4)) (opersG p)→K (.slice (some ⟨b,0,none⟩) (opersG p).length cap) w') :
  zd Tryz.prog Tryz.jI #[.agg c.toArray] w K:=by
 refine Tryz.Vs ?_
 unfold Tryz.YN
 obtain ⟨q1,q2,q3,q4,q5,c1,c2,c3,c4,c5,rfl,hp0⟩:=yj hp
 obtain ⟨_,_,_,_,_,hE,k1,k2,k3,k4,k5⟩:=hp0
 cases hE
 have S:=St.start hr
 refine S.box fun b1 w1 S=>?_
 have S : StX noX w r w1 [.cell b1 (ptL p q1 q2 q3 q4 q5 c1 c2 c3 c4 c5) 44]:=S
 have hoa : OpG r [.int .u8 p.a.k,.int .i64 p.a.n,.int .i64 p.a.pl.l,.slice q2 p.a.pl.ps.length c2] p.a:=⟨_,rfl,k2⟩
 have hob : OpG r [.int .u8 p.b.k,.int .i64 p.b.n,.int .i64 p.b.pl.l,.slice q3 p.b.pl.ps.length c3] p.b:=⟨_,rfl,k3⟩
 refine gg_ ?_
 refine S.ldN (b:=b1) ?_
 refine gg_ ?_
 refine S.ldN (b:=b1) ?_
 refine S.lit (e:=41) (cs:=[.int .u8 p.a.k,.int .i64 p.a.n,.int .i64 p.a.pl.l,.slice q2 p.a.pl.ps.length c2] ++ [.int .u8 p.b.k,.int .i64 p.b.n,.int .i64 p.b.pl.l,.slice q3 p.b.pl.ps.length c3]) (by kernel_rfl) fun b8 w2 S=>?_
 have S:=S.cellRow (n:=2) (cap:=2) (sz:=4) (Nat.le_refl _) rfl (by simp [maxLen])
 obtain ⟨xs,hxr,hxs⟩:=afm (by decide) k4.sl
 obtain ⟨_,_,hE,hq4,_⟩:=k4.sl.shape
 cases hE
 refine gg_ ?_
 refine S.ap (v:=.slice (some ⟨b8,0,none⟩) 2 2) (S.at hxs) (fun v3 w3 S=>?_) (by omega) hxr.1 hq4 (abi hxr (by decide) fun c x hx=>Qh hx)
 obtain ⟨b9,cap9,c9,rfl,hc9,hcl9,htk9,S⟩:=S.rowCell v3 (by omega)
 have hlen : (p.a::p.b::p.args).length=2+p.args.length:=by simp;omega
 have hrw : RowOf 4 (OpG r) (c9.take ((2+p.args.length)*4)) (p.a::p.b::p.args):=by
  rw [htk9]
  exact vH (c:=[.int .u8 p.a.k,.int .i64 p.a.n,.int .i64 p.a.pl.l,.slice q2 p.a.pl.ps.length c2]) rfl hoa (vH (c:=[.int .u8 p.b.k,.int .i64 p.b.n,.int .i64 p.b.pl.l,.slice q3 p.b.pl.ps.length c3]) rfl hob hxr)
 refine abj (l:=p.a::p.b::p.args) (L:=[.cell b1 (ptL p q1 q2 q3 q4 q5 c1 c2 c3 c4 c5) 44]) S hlen.symm (by omega) hc9 hcl9 (fun i hi=>?_) fun c' w4 S hc' hrow=>?_
 ·have:=hrw.2 i hi
  rw [List.drop_take,List.take_take,Nat.min_eq_left (by omega)] at this
  exact this
 have hle : (opersG p).length≤cap9:=by
  have:=List.length_filter_le yr (p.a::p.b::p.args)
  show ((p.a::p.b::p.args).filter yr).length≤cap9
  omega
 exact h b9 cap9 c' w4 (S.less (fun _ _ h=>h) (.cons_cons _ (List.nil_sublist _))) hc' hle hrow
end Go.Proofs
end
section
namespace Go.Proofs
open Go.Sh
set_option maxRecDepth 100000
set_option linter.unusedSimpArgs false
set_option linter.unusedVariables false
theorem Y0 {ss : List StD} {tys : List TyD} : ∀ {l : List OpD} {ts : List TyD},yT ss tys l ts=true→l.length=ts.length∧∀ (i : Nat) (hi : i<l.length) (hj : i<ts.length),(zr ss tys l[i]).2=true∧zI yf (zr ss tys l[i]).1 ts[i]=true
 |[],[],_=>⟨rfl,fun i hi=>absurd hi (Nat.not_lt_zero _)⟩
 |[],_::_,h=>by cases h
 |_::_,[],h=>by cases h
 |o::l,t::r,h=>by
  rw [kR,Bool.and_eq_true,Bool.and_eq_true] at h
  obtain ⟨h1,h2⟩:=Y0 h.2
  refine ⟨by simp [h1],fun i hi hj=>?_⟩
  cases i with
  |zero=>exact h.1
  |succ i=>exact h2 i (by simpa using hi) (by simpa using hj)
theorem afU {ss : List StD} {tys : List TyD} {o : OpD} (h : (zr ss tys o).2=true) : o.pl.ps.length≤8:=by
 unfold zr at h
 split at h
 ·simp only [yS,Bool.and_eq_true,decide_eq_true_eq] at h;omega
 split at h
 ·simp only [yS,Bool.and_eq_true,decide_eq_true_eq] at h;omega
 split at h
 ·simp only [Bool.and_eq_true] at h;exact vI h.1.1
 split at h
 ·simp only [Bool.and_eq_true] at h;exact vI h.1.1.1
 ·cases h
theorem agK {ss : List StD} {tys : List TyD} {o : OpD} (h : (zr ss tys o).2=true) : o.k≠0:=by
 intro h0
 unfold zr at h
 rw [if_neg (by omega),if_neg (by omega),if_neg (by omega),if_neg (by omega)] at h
 cases h
theorem aid {o : OpD} (h : o.k≠0) : jE o=false:=by rw [jE,decide_eq_false h];rfl
theorem Zs {u : UnD} {g : GrD} {p : PtD} (h : ptG u g p=true) : 1≤p.op∧p.op≤14:=by
 refine Classical.byContradiction fun hc=>?_
 rw [ptG] at h
 rw [if_neg (by omega),if_neg (by omega),if_neg (by omega),if_neg (by omega),if_neg (by omega),if_neg (by omega),if_neg (by omega),if_neg (by omega),if_neg (by omega),if_neg (by omega),if_neg (by omega),if_neg (by omega),if_neg (by omega)] at h
 cases h
theorem agL {u : UnD} {g : GrD} {p : PtD} (h : zP u g p=true) : ∀ o ∈ opersG p,(zr u.ss g.tys o).2=true:=by
 have h2:=qV h
 intro o ho
 rw [opersG,List.mem_filter,yr,decide_eq_true_eq] at ho
 obtain ⟨hm,hk⟩:=ho
 have hn:=aid hk
 have hc : p.op=1∨p.op=2∨p.op=3∨p.op=4∨p.op=5∨p.op=6∨p.op=7∨p.op=8∨p.op=9∨p.op=10∨p.op=11∨p.op=12∨p.op=13∨p.op=14:=by
  have:=Zs h2
  omega
 cases hf : (zr u.ss g.tys o).2 with
 |true=>rfl
 |false=>
  exfalso
  rw [List.mem_cons,List.mem_cons] at hm
  rw [ptG] at h2
  rcases hm with rfl|rfl|hm
  ·rcases hc with hc|hc|hc|hc|hc|hc|hc|hc|hc|hc|hc|hc|hc|hc<;>simp [hc,hf,hn,zC,qE] at h2
  ·rcases hc with hc|hc|hc|hc|hc|hc|hc|hc|hc|hc|hc|hc|hc|hc<;>simp [hc,hf,hn,zC,qE] at h2
  ·have hne : p.args.length≠0:=fun h0=>by rw [List.eq_nil_of_length_eq_zero h0] at hm;cases hm
   obtain ⟨i,hi,rfl⟩:=List.getElem_of_mem hm
   have harg : ∀ ts,yT u.ss g.tys p.args ts=false:=fun ts=>by
    cases ha : yT u.ss g.tys p.args ts with
    |false=>rfl
    |true=>
     obtain ⟨hl,hx⟩:=Y0 ha
     have:=(hx i hi (by omega)).1
     rw [hf] at this;cases this
   have hne' : p.args≠[]:=fun h0=>hne (by rw [h0];rfl)
   rcases hc with hc|hc|hc|hc|hc|hc|hc|hc|hc|hc|hc|hc|hc|hc<;>first|(simp [hc,hne,hne',zC,qE] at h2;done)|(simp [hc,hne,hne',zC,qE,harg] at h2;try (split at h2<;>simp_all))
theorem aeA {u : UnD} {g : GrD} {p : PtD} (hM : MayU u) (h : zP u g p=true) : p.args.length≤1000:=by
 have h2:=qV h
 by_cases hne : p.args.length=0
 ·omega
 have hne' : p.args≠[]:=fun h0=>hne (by rw [h0];rfl)
 rw [ptG] at h2
 by_cases h6 : p.op=6
 ·simp only [h6,Int.reduceEq,if_false,if_true,Bool.and_eq_true,decide_eq_true_eq,isK] at h2
  have hl:=(Y0 h2.2).1
  have hf : (yi u.ss (zj u.ss g.tys p.to).1).1.length≤8:=by
   rw [yi]
   split
   ·exact xT (xF hM.ok).2.1 _
   ·simp
  omega
 by_cases h7 : p.op=7
 ·simp only [h7,Int.reduceEq,if_false,if_true,Bool.and_eq_true,decide_eq_true_eq] at h2
  have hlt : p.fn.toNat<u.fs.length:=by omega
  rw [List.getElem?_eq_getElem hlt] at h2
  have h3:=h2.2
  simp only [Bool.and_eq_true] at h3
  have hl:=(Y0 h3.2).1
  have:=(hM.hd hlt).pn8
  rw [List.length_take] at hl
  omega
 ·exfalso
  have hc : p.op=1∨p.op=2∨p.op=3∨p.op=4∨p.op=5∨p.op=8∨p.op=9∨p.op=10∨p.op=11∨p.op=12∨p.op=13∨p.op=14:=by
   have:=Zs (qV h)
   omega
  rcases hc with hc|hc|hc|hc|hc|hc|hc|hc|hc|hc|hc|hc<;>simp [hc,hne,hne',zC,qE] at h2
end Go.Proofs
end
section
namespace Go.Proofs
open Go.Sh
set_option maxRecDepth 100000
set_option linter.unusedSimpArgs false
set_option linter.unusedVariables false
theorem StX.cutSl {α : Type} {sz b cap : Nat} {R : List Value→α→Prop} {l : List α} {X : Nat→Prop} {w0 w : World} {r : Gh} {L : List Asr} {xs : List Value} {e : TypeId} (S : StX X w0 r w (.cell b xs e::L)) (h : RowOf sz R (xs.take (l.length*sz)) l) (hz : 0<sz) (hc : l.length≤cap) :
  StX X w0 (r.or (one b xs e)) w L∧SlG sz (one b xs e) R (.slice (some ⟨b,0,none⟩) l.length cap) l:=
 ⟨StX.frz S,h.sl (by simp) hc (fun w k=>(Sl.blk (yF w k)).take _) hz ⟨w,yC (S.has _ (List.mem_cons_self ..))⟩⟩
noncomputable def Z2 (u : UnD) (n q : Int) : List OpD × Int:=if ptE u n q≠0 then ([],ptE u n q) else match jn u n q with|some p=>(opersG p,0)|none=>([],2)
theorem aie {u : UnD} {n q : Int} {p : PtD} (h0 : ptE u n q=0) (hp : jn u n q=some p) : MayU u∧∃ g ∈ u.fs,u.fs[n.toNat]? = some g∧p ∈ g.pts∧zP u g p=true∧HeadU u n.toNat g:=by
 obtain ⟨hf,hq0,hn,hql⟩:=ZG h0
 obtain ⟨hM,_,_⟩:=k8 hf
 obtain ⟨hl,hpe⟩:=aan hn hp
 have hm : p ∈ u.fs[n.toNat].pts:=by rw [← hpe];exact List.getElem_mem _
 exact ⟨hM,_,List.getElem_mem hn,List.getElem?_eq_getElem hn,hm,hM.pts _ (List.getElem_mem hn) p hm,hM.hd hn⟩
set_option maxHeartbeats 1000000 in
theorem Y1 {u : UnD} {n q : Int} {v : Value} {w : World} {r : Gh} {K : Value→World→Prop} (hr : Holds r w) (hu : UnG r v u)
  (h : ∀ vl s w',Ext w w'→New w s w'→SlG 4 s (OpG s) vl (Z2 u n q).1→K (.tuple #[vl,.int .i64 (Z2 u n q).2]) w') : zd Tryz.prog Tryz.kL #[v,.int .i64 n,.int .i64 q] w K:=by
 refine Tryz.Vq ?_
 unfold Tryz.YL
 have hu0:=hu
 obtain ⟨p0,cap0,vf,rfl,_,_,hst,hsl,hfn⟩:=hu
 obtain ⟨qf,capf,rfl,_,_⟩:=hfn.sl.shape
 have S:=St.start hr
 refine S.box fun b3 w1 S=>?_
 have S : StX noX w r w1 [.cell b3 [.slice p0 u.ss.length cap0,.slice qf u.fs.length capf,.int .i64 u.mn] 25]:=S
 refine S.ldB (b:=b3) ?_ rfl
 refine k9 S.holds hu0 fun c p w3 e3 hp hpi=>?_
 have S:=S.go e3
 obtain ⟨z1,z2,z3,z4,z5,t1,t2,t3,t4,t5,rfl,hp0⟩:=yj hp
 refine gS_ ?_
 refine S.al fun b8 w4 S=>?_
 refine S.stB (b:=b8) fun w5 S=>?_
 refine gp_ ?_
 refine zh (fun hne=>?_) (fun heq=>?_)
 ·have hG : Z2 u n q=([],ptE u n q):=by rw [Z2,if_pos hne]
  rw [hG] at h
  exact h _ nothing _ S.ext New.nothing SlG.nil
 have h0 : ptE u n q=0:=by omega
 have hpn:=hpi h0
 have hG : Z2 u n q=(opersG p,0):=by rw [Z2,if_neg (by omega),hpn]
 rw [hG] at h
 rw [h0]
 obtain ⟨hM,g,hgm,hgi,hpm,hpg,hH⟩:=aie h0 hpn
 have harg:=aeA hM hpg
 have hsh : ∀ o ∈ opersG p,o.pl.ps.length≤8:=fun o ho=>afU (agL hpg o ho)
 have hfw : (opersG p).length≤1002:=by
  have:=List.length_filter_le yr (p.a::p.b::p.args)
  show ((p.a::p.b::p.args).filter yr).length≤1002
  simp only [List.length_cons] at this
  omega
 refine S.ldB (b:=b8) ?_ rfl
 refine aaq S.holds hp0 harg fun b cap c w6 S6 hc hcap hrow=>?_
 have S : StX noX w r w6 [.cell b c 41]:=S.whole S6 fun _ h=>h.elim
 clear S6
 generalize opersG p=l at h hsh hfw hcap hrow ⊢
 refine gp_ ?_
 refine zi (ι:=Nat × Gh × List Value) (fun i=>[.int .i64 (i.1 : Nat)]) (fun i w'=>i.1≤l.length∧i.2.2.length=cap*4∧Above w i.2.1∧RowOf 4 (OpG i.2.1) (i.2.2.take (i.1*4)) (l.take i.1)∧
  (∀ (m : Nat) (hm : m<l.length),i.1≤m→OpG r (qv i.2.2 m) l[m])∧StX noX w (r.or i.2.1) w' [.cell b i.2.2 41]) (fun i=>l.length - i.1) (0,nothing,c) rfl ⟨Nat.zero_le _,hc,Above.no,by simpa using RowOf.nil,fun m hm _=>by
   have:=hrow.2 m hm
   rw [List.drop_take,List.take_take,Nat.min_eq_left (by omega)] at this
   exact this,S.to _⟩ ?_
 clear S hrow hc
 rintro ⟨i,s,c1⟩ d w7 ⟨hi,hc1,hab,hr1,hrest,S⟩ K6 hK6
 simp only at hi hc1 hab hr1 hrest S ⊢
 rw [List.getD_cons_zero]
 refine gp_ ?_
 refine zh (fun hlt=>?_) (fun hge=>?_)
 ·have hlt : i<l.length:=by omega
  have hri:=hrest i hlt (Nat.le_refl _)
  refine s_c (by omega) ?_
  rw [show 0+((i : Nat) : Int).toNat*4=i*4 by omega]
  refine S.ldN (b:=b) (vs:=qv c1 i) ?_ rfl (xB hri)
  refine JQ S.holds (OpG.up hri) (by have:=hsh _ (List.getElem_mem hlt);omega) fun c' sn w8 e8 n8 h8=>?_
  obtain ⟨S,d8,a8⟩:=S.tell e8 n8
  have S:=S.reGh
  refine s_c (by omega) ?_
  rw [show 0+((i : Nat) : Int).toNat*4=i*4 by omega]
  refine S.stN (b:=b) (cs:=c'.toArray) (fun w9 S=>?_) (by omega) (by simpa using xB h8) (by simpa using Qh h8)
  have S : StX noX w (r.or (s.or sn)) w9 [.cell b (c1.take (i*4)++c'++c1.drop (i*4+4)) 41]:=S
  refine gp_ ?_
  rw [show ((i : Int)+1)=((i+1 : Nat) : Int) by omega]
  refine hK6 (i+1,s.or sn,c1.take (i*4)++c'++c1.drop (i*4+4)) _ ⟨hlt,?_,hab.or' a8,?_,fun m hm hkm=>?_,S⟩ (by show l.length - (i+1)<l.length - i;omega)
  ·show (c1.take (i*4)++c'++c1.drop (i*4+4)).length=cap*4
   rw [List.length_append,List.length_append,List.length_take,List.length_drop,xB h8];omega
  ·show RowOf 4 (OpG (s.or sn)) ((c1.take (i*4)++c'++c1.drop (i*4+4)).take ((i+1)*4)) (l.take (i+1))
   rw [afp (by omega) (xB h8),List.take_succ_eq_append_getElem hlt]
   exact (hr1.mono fun c x hx=>OpG.up hx).snoc (xB h8) (OpG.up h8)
  ·show OpG r (qv (c1.take (i*4)++c'++c1.drop (i*4+4)) m) l[m]
   have hkm : i+1≤m:=hkm
   rw [afo (by omega) (xB h8) (by omega)]
   exact hrest m hm (by omega)
 have hie : i=l.length:=by omega
 subst hie
 rw [List.take_length] at hr1
 have hmine:=S.mine _ (List.mem_cons_self ..) b rfl
 obtain ⟨S,hs2⟩:=StX.cutSl (cap:=cap) S hr1 (by decide) hcap
 have S:=S.reGh
 have hab2 : Above w (one b c1 41):=fun b' o ho=>by rw [ho.1];exact hmine.1.resolve_right id
 exact h _ (s.or (one b c1 41)) _ S.ext (S.newOf (hab.or' hab2)) (hs2.up' inferInstance fun c x hx=>OpG.up hx)
end Go.Proofs
end
section
namespace Go.Proofs
open Go.Sh
set_option maxRecDepth 100000
set_option linter.unusedSimpArgs false
set_option linter.unusedVariables false
theorem abk {α : Type} {sz b : Nat} {R : List Value→α→Prop} {xs : List Value} {e : TypeId} {l : List α} {w : World} (h : RowOf sz R xs l) (hz : 0<sz) (B : Blk w b xs e) : SlG sz (one b xs e) R (.slice (some ⟨b,0,none⟩) l.length l.length) l:=
 h.sl (by simp) (Nat.le_refl _) (fun w k=>Sl.blk (yF w k)) hz ⟨w,yC B⟩
def qG (p : PtD) : List Int:=if p.op=14 then [] else if p.op=12∧p.nx≠p.el then [p.nx,p.el] else [p.nx]
noncomputable def jG (u : UnD) (n q : Int) : List Int:=if ptE u n q=0 then (match jn u n q with|some p=>qG p|none=>[]) else []
theorem JX {u : UnD} {n q : Int} {v : Value} {w : World} {r : Gh} {K : Value→World→Prop} (hr : Holds r w) (hu : UnG r v u)
  (h : ∀ v' s w',Ext w w'→New w s w'→SlG 1 s xM v' (jG u n q)→K (.tuple #[v',.int .i64 (ptE u n q)]) w') : zd Tryz.prog Tryz.vv #[v,.int .i64 n,.int .i64 q] w K:=by
 refine Tryz.ac2 ?_
 unfold Tryz.JI
 have hu0:=hu
 obtain ⟨p0,cap0,vf,rfl,_,_,hst,hsl,hfn⟩:=hu
 obtain ⟨qf,capf,rfl,_,_⟩:=hfn.sl.shape
 have S:=St.start hr
 refine S.box fun b3 w1 S=>?_
 have S : StX noX w r w1 [.cell b3 [.slice p0 u.ss.length cap0,.slice qf u.fs.length capf,.int .i64 u.mn] 25]:=S
 refine S.ldB (b:=b3) ?_ rfl
 refine k9 S.holds hu0 fun c p w2 e2 hp hpt=>?_
 have S:=S.go e2
 obtain ⟨z1,z2,z3,z4,z5,t1,t2,t3,t4,t5,rfl,hp0⟩:=yj hp
 have hN : ptE u n q=0→jG u n q=qG p:=fun h0=>by rw [jG,if_pos h0,hpt h0]
 have hN0 : ptE u n q≠0→jG u n q = []:=fun h0=>by rw [jG,if_neg h0]
 refine gS_ ?_
 refine S.al fun b8 w3 S=>?_
 refine S.stB (b:=b8) fun w4 S=>?_
 have S : StX noX w r w4 [.cell b8 (ptL p z1 z2 z3 z4 z5 t1 t2 t3 t4 t5) 44,.cell b3 [.slice p0 u.ss.length cap0,.slice qf u.fs.length capf,.int .i64 u.mn] 25]:=S
 refine gp_ ?_
 refine zf (c:=decide (p.op=14)) (fun _ K2 hK2=>by refine gg_ ?_;exact hK2) ?_
 refine c_b (fun hb=>?_) (fun hb=>?_)
 ·have hE : jG u n q = []:=by
   by_cases h0 : ptE u n q=0
   ·rw [hN h0,qG,if_pos (by simpa [h0] using hb)]
   ·exact hN0 h0
  rw [hE] at h
  exact h _ nothing _ S.ext New.nothing SlG.nil
 simp only [Bool.or_eq_false_iff,decide_eq_false_iff_not] at hb
 have h0 : ptE u n q=0:=Decidable.not_not.1 hb.1
 have hE:=hN h0
 rw [qG,if_neg hb.2] at hE
 refine gg_ ?_
 refine zg (c:=decide (p.nx≠p.el)) (fun _ K2 hK2=>by refine gg_ ?_;exact hK2) ?_
 refine c_b (fun hc=>?_) (fun hc=>?_)
 ·simp only [Bool.and_eq_true,decide_eq_true_eq] at hc
  rw [if_pos hc] at hE
  rw [hE] at h
  refine gg_ ?_
  refine S.lit (e:=3) (cs:=[.int .i64 p.nx,.int .i64 p.el]) (by kernel_rfl) fun b9 w9 S=>?_
  obtain ⟨S,hs,ha⟩:=S.litNew b9 (sz:=1) (R:=xM) (l:=[p.nx,p.el]) (vH (c:=[.int .i64 p.nx]) rfl rfl (x8 rfl rfl)) (by decide)
  exact h _ _ _ S.ext (S.newOf ha) hs
 ·simp only [Bool.and_eq_false_iff,decide_eq_false_iff_not] at hc
  rw [if_neg (by rintro ⟨h1,h2⟩;rcases hc with hc|hc<;>contradiction)] at hE
  rw [hE] at h
  refine gg_ ?_
  refine S.lit (e:=3) (cs:=[.int .i64 p.nx]) (by kernel_rfl) fun b9 w9 S=>?_
  obtain ⟨S,hs,ha⟩:=S.litNew b9 (sz:=1) (R:=xM) (l:=[p.nx]) (x8 rfl rfl) (by decide)
  exact h _ _ _ S.ext (S.newOf ha) hs
def exA (k : Int) : PtD:=⟨1,yQ,⟨k,7,yQ⟩,Vn,[],ByteArray.empty,yQ,false,0,0,1,0,0⟩
def exB : PtD:=⟨14,yQ,Vn,Vn,[],ByteArray.empty,yQ,false,0,0,0,0,0⟩
def exG (k : Int) : GrD:=⟨⟨#[109,97,105,110]⟩,0,[],0,[ab0],[⟨#[]⟩],[exA k,exB]⟩
def exU (k : Int) : UnD:=⟨[],[exG k],0⟩
theorem afq (k : Int) : yU (exU k) 0 (exG k)=true:=by
 have h1 : jm (exU k) (exG k) 0 (exG k).tys=true:=by
  show ((zY [] ab0&&_)&&true)=true
  rw [hmay]
  kernel_rfl
 unfold yU
 rw [h1]
 show (_ : Bool)=true
 kernel_rfl
theorem ajP (k : Int) : zP (exU k) (exG k) exB=true:=by
 have e : zC exB {} = true:=by
  rw [zC,qE,show exB.sign=ByteArray.empty from rfl,abf];kernel_rfl
 have : zP (exU k) (exG k) exB=zC exB {}:=by kernel_rfl
 rw [this,e]
theorem ajy : zP (exU 1) (exG 1) (exA 1)=true:=by
 have e : zC (exA 1) { to:=true,a:=true } = true:=by
  rw [zC,qE,show (exA 1).sign=ByteArray.empty from rfl,abf];kernel_rfl
 have : zP (exU 1) (exG 1) (exA 1)=(((zC (exA 1) { to:=true,a:=true } && true)&&true)&&true):=by kernel_rfl
 rw [this,e];rfl
theorem ajz : zP (exU 2) (exG 2) (exA 2)=false:=by
 have : zP (exU 2) (exG 2) (exA 2)=(((zC (exA 2) { to:=true,a:=true } && true)&&true)&&false):=by kernel_rfl
 rw [this,Bool.and_false]
theorem abl : MayU (exU 1):=by
 refine ⟨by show (zw []).2=0;rw [hst],by decide,by decide,by decide,by decide,fun i hi=>?_,fun g hg=>?_⟩
 ·have : i=0:=by have : (exU 1).fs.length=1:=rfl;omega
  subst this
  exact afq 1
 ·rw [List.mem_singleton.1 hg]
  intro p hp
  have hp : p ∈ [exA 1,exB]:=hp
  simp only [List.mem_cons,List.not_mem_nil,or_false] at hp
  rcases hp with rfl|rfl
  ·exact ajy
  ·exact ajP 1
theorem acF : k7 (exU 2)=(0,0,100):=by
 have h1 : qT (exU 2) 0 (exU 2).fs=none:=by
  show (if yU (exU 2) 0 (exG 2) then none else some 0)=none
  rw [afq];rfl
 have h2 : Zg (exU 2) 0 (exU 2).fs=some (0,0):=by
  show (match (if zP (exU 2) (exG 2) (exA 2) then Zq (exU 2) (exG 2) 1 [exB] else some 0) with|some q=>some (0,q)|none=>Zg (exU 2) 1 [])=some (0,0)
  rw [ajz];rfl
 have h3 : (zw (exU 2).ss).2=0:=by show (zw []).2=0;rw [hst]
 unfold k7
 rw [if_neg (by rw [h3];decide),h1,h2]
 rfl
theorem ajA : kD (exU 2)=false:=by
 rw [kD,acF];rfl
theorem Zt : ptE (exU 1) 0 0=0∧jn (exU 1) 0 0=some (exA 1):=by
 have hf : fnE (exU 1) 0=0:=by
  rw [fnE,xN.2 abl];rfl
 refine ⟨?_,rfl⟩
 rw [ptE,if_pos ⟨hf,by decide,by decide⟩]
theorem aif : abh (exU 1) 0 0 = [95,48,32,61,32,55]:=by
 rw [abh,if_pos Zt.1,Zt.2]
 have h0 : Lib.itoa 0 = [48]:=by rw [Lib.itoa,if_neg (by decide),Lib.decDigits];rfl
 have h7 : Lib.itoa 7 = [55]:=by rw [Lib.itoa,if_neg (by decide),Lib.decDigits];rfl
 show ptT (exA 1) 0=_
 have hp : plT yQ = [95,48]:=by show [95]++Lib.itoa 0 ++ []=_;rw [h0];rfl
 show (plT yQ ++ [32,61,32])++Lib.itoa 7 ++ [] ++ []=_
 rw [hp,h7];rfl
theorem aig : jG (exU 1) 0 0 = [1]:=by
 rw [jG,if_pos Zt.1,Zt.2];rfl
theorem agM : Z2 (exU 1) 0 0=([⟨1,7,yQ⟩],0):=by
 rw [Z2,if_neg (by rw [Zt.1];decide),Zt.2];rfl
theorem ai0 : JR (exU 1) 0 0=some yQ:=by
 rw [JR,if_neg (by rw [Zt.1];decide),Zt.2];rfl
theorem y0 {x : Int} (h : 0≤x∧x≤1000) : xn x:=⟨by omega,by omega⟩
theorem ai1 : aiS (exU 1):=by
 intro g hg
 rw [List.mem_singleton.1 hg]
 have z : yQ.fit:=⟨y0 (by decide),by decide,by intro k hk;cases hk⟩
 have zo : Vn.fit:=⟨y0 (by decide),z⟩
 refine ⟨by decide,fun p hp=>?_⟩
 have hp : p ∈ [exA 1,exB]:=hp
 simp only [List.mem_cons,List.not_mem_nil,or_false] at hp
 rcases hp with rfl|rfl
 ·exact ⟨by decide,by decide,z,⟨y0 (by decide),z⟩,zo,⟨by decide,by intro o ho;cases ho⟩,by decide,z,y0 (by decide),y0 (by decide),y0 (by decide),y0 (by decide)⟩
 ·exact ⟨by decide,by decide,z,zo,zo,⟨by decide,by intro o ho;cases ho⟩,by decide,z,y0 (by decide),y0 (by decide),y0 (by decide),y0 (by decide)⟩
end Go.Proofs
end
section
namespace Go.Proofs
open Go.Sh
set_option maxRecDepth 100000
set_option linter.unusedSimpArgs false
set_option linter.unusedVariables false
abbrev exL (k : Int) : List Value:=[.int .u8 1,.int .i64 0,.slice none 0 0,.int .u8 k,.int .i64 7,.int .i64 0,.slice none 0 0,.int .u8 0,.int .i64 0,.int .i64 0,.slice none 0 0,.slice none 0 0,.string ByteArray.empty,.int .i64 0,.slice none 0 0,.bool false,.int .i64 0,.int .i64 0,.int .i64 1,.int .i64 0,.int .i64 0]
abbrev aar (bt bn bp : Nat) : List Value:=[.string ⟨#[109,97,105,110]⟩,.int .i64 0,.slice none 0 0,.int .i64 0,.slice (some ⟨bt,0,none⟩) 1 1,.slice (some ⟨bn,0,none⟩) 1 1,.slice (some ⟨bp,0,none⟩) 2 2]
abbrev exM (k : Int) (bt bn bp bg b2 : Nat) : List Asr:=[.cell b2 [.slice none 0 0,.slice (some ⟨bg,0,none⟩) 1 1,.int .i64 0] 25,.cell bg (aar bt bn bp) 33,.cell bp (exL k++hl3) 44,.cell bn [.string ⟨#[]⟩] 9,.cell bt XK 57]
abbrev ahB (k : Int) (bt bn bp bg : Nat) : Gh:=(((one bt XK 57).or (one bn [.string ⟨#[]⟩] 9)).or (one bp (exL k++hl3) 44)).or (one bg (aar bt bn bp) 33)
abbrev exV (bg : Nat) : Value:=.agg #[.slice none 0 0,.slice (some ⟨bg,0,none⟩) 1 1,.int .i64 0]
theorem kS {k : Int} {bt bn bp bg b2 : Nat} {w0 w : World} {r : Gh} {M : List Asr} (S : StX noX w0 r w (exM k bt bn bp bg b2)) : Holds (ahB k bt bn bp bg) w:=
 (((yC (S.has _ (by simp : Asr.cell bt XK 57 ∈ _))).or (yC (S.has (.cell bn [.string ⟨#[]⟩] 9) (by simp)))).or (yC (S.has (.cell bp (exL k++hl3) 44) (by simp)))).or (yC (S.has (.cell bg (aar bt bn bp) 33) (by simp)))
theorem ahV {k : Int} {bt bn bp bg b2 : Nat} {w0 w : World} {r : Gh} {M : List Asr} (S : StX noX w0 r w (exM k bt bn bp bg b2)) : UnG (ahB k bt bn bp bg) (exV bg) (exU k):=by
 have hz : ∀ {r : Gh} {α : Type} {sz : Nat} {R : List Value→α→Prop},SlB sz r R (.slice none 0 0) ([] : List α):=xH
 have ht:=abk (sz:=5) (b:=bt) (e:=57) (R:=TyC nothing) (l:=[ab0]) (w:=w) (xs:=XK) (x8 (c:=XK) rfl (show TyC nothing XK ab0 from aa5)) (by decide) (S.has (.cell bt XK 57) (by simp))
 have hn:=abk (sz:=1) (b:=bn) (e:=9) (R:=JA) (l:=[(⟨#[]⟩ : ByteArray)]) (w:=w) (xs:=[.string ⟨#[]⟩]) (x8 rfl rfl) (by decide) (S.has (.cell bn [.string ⟨#[]⟩] 9) (by simp))
 have hp:=abk (sz:=21) (b:=bp) (e:=44) (R:=PtG nothing) (l:=[exA k,exB]) (w:=w) (xs:=exL k++hl3) (vH rfl ⟨_,_,_,_,_,rfl,hz,hz,hz,hz,hz⟩ (x8 rfl ⟨_,_,_,_,_,rfl,hz,hz,hz,hz,hz⟩)) (by decide) (S.has (.cell bp (exL k++hl3) 44) (by simp))
 have hg:=abk (sz:=7) (b:=bg) (e:=33) (R:=GrG ((((one bt XK 57).or (one bn [.string ⟨#[]⟩] 9)).or (one bp (exL k++hl3) 44)))) (l:=[exG k]) (w:=w) (xs:=aar bt bn bp)
  (x8 rfl ⟨_,_,_,_,rfl,hz,Vo (hl:=Nat.le_of_ble_eq_true rfl) (ht.up' inferInstance fun c x hx=>TyG.up hx),Vo (hl:=Nat.le_of_ble_eq_true rfl) hn.cells,Vo (hl:=Nat.le_of_ble_eq_true rfl) (hp.up' inferInstance fun c x hx=>PtG.up hx)⟩) (by decide) (S.has (.cell bg (aar bt bn bp) 33) (by simp))
 exact ⟨none,0,_,rfl,fun _=>rfl,Nat.zero_le _,trivial,Nat.zero_le _,Vo (hl:=Nat.le_of_ble_eq_true rfl) (hg.up' inferInstance fun c x hx=>GrG.up hx)⟩
set_option maxHeartbeats 4000000 in
theorem Z3 {w : World} {r : Gh} {K : Value→World→Prop} (hT : TabZ r) (hr : Holds r w) (h : ∀ w',Ext w w'→K (.bool true) w') : zd Tryz.prog Tryz.kW #[] w K:=by
 refine Tryz.abQ ?_
 unfold Tryz.QT
 have S:=St.start hr
 refine zx (cs:=XK.toArray) (by kernel_rfl) ?_
 refine S.al fun b1 w1 S=>?_
 refine S.stB (b:=b1) fun w2 S=>?_
 refine S.ldB (b:=b1) ?_ rfl
 refine S.lit (e:=57) (cs:=XK) (by kernel_rfl) fun bt w3 S=>?_
 refine S.lit (e:=9) (cs:=[.string ⟨#[]⟩]) (by kernel_rfl) fun bn w4 S=>?_
 refine zx (cs:=#[.int .u8 1,.int .i64 7,.int .i64 0,.slice none 0 0]) (by kernel_rfl) ?_
 refine zx (cs:=(exL 1).toArray) (by kernel_rfl) ?_
 refine zx (cs:=hl3.toArray) (by kernel_rfl) ?_
 refine S.lit (e:=44) (cs:=exL 1++hl3) (by kernel_rfl) fun bp w5 S=>?_
 refine zx (cs:=(aar bt bn bp).toArray) (by kernel_rfl) ?_
 refine S.lit (e:=33) (cs:=aar bt bn bp) (by kernel_rfl) fun bg w6 S=>?_
 refine zx (cs:=#[.slice none 0 0,.slice (some ⟨bg,0,none⟩) 1 1,.int .i64 0]) (by kernel_rfl) ?_
 refine S.al fun b2 w7 S=>?_
 refine S.stB (b:=b2) fun w8 S=>?_
 have S:=S.drop b1
 have S : StX noX w r w8 (exM 1 bt bn bp bg b2):=S
 refine S.ldB (b:=b2) ?_ rfl
 have hu:=ahV (M:=[]) S
 refine Z1 (kS (M:=[]) S) hu fun w9 e9=>?_
 have S:=S.go e9
 rw [acE abl]
 refine gS_ ?_
 refine S.ldB (b:=b2) ?_ rfl
 refine aev (hT.up (s:=r.or (ahB 1 bt bn bp bg))) (S.holds.or (kS (M:=[]) S)) hu.up (fun _=>ai1) fun w10 e10=>?_
 have S:=S.go e10
 rw [aif,Zt.1]
 refine gS_ ?_
 refine S.ldB (b:=b2) ?_ rfl
 refine JX (kS (M:=[]) S) hu fun v11 s11 w11 e11 n11 hn=>?_
 rw [aig] at hn
 rw [Zt.1]
 obtain ⟨S,d11,a11⟩:=S.tell e11 n11
 obtain ⟨px,capx,rfl,_,_⟩:=hn.shape
 obtain ⟨bx,ox,cx,rfl,hcx,hcc,hcell⟩:=hn.get (by decide) (i:=0) (by decide)
 obtain rfl : cx=_:=hcc
 refine gS_ ?_
 refine S.ldB (b:=b2) ?_ rfl
 refine Y1 (kS (M:=[]) S) hu fun v12 s12 w12 e12 n12 ho=>?_
 rw [agM] at ho
 rw [agM]
 obtain ⟨S,d12,a12⟩:=S.tell e12 n12
 obtain ⟨py,capy,rfl,_,_⟩:=ho.shape
 refine gS_ ?_
 refine S.ldB (b:=b2) ?_ rfl
 refine abg (kS (M:=[]) S) hu (fun e w13 hn _=>by rw [ai0] at hn;cases hn) fun p c s13 w13 hp e13 n13 hpl=>?_
 obtain ⟨S,d13,a13⟩:=S.tell e13 n13
 obtain ⟨va,rfl,hva⟩:=hpl
 obtain ⟨qa,ca,rfl,_,_⟩:=hva.sl.shape
 refine gS_ ?_
 refine S.al fun b12 w14 S=>?_
 refine S.stB (b:=b12) fun w15 S=>?_
 have S:=S.drop b12
 refine gp_ ?_
 refine zf (c:=false) (fun _ K2 hK2=>by refine gg_ ?_;exact hK2) ?_
 refine zf (c:=false) (fun _ K2 hK2=>by refine gg_ ?_;exact hK2) ?_
 refine zf (c:=false) (fun _ K2 hK2=>by refine gg_ ?_;exact hK2) ?_
 refine zf (c:=false) (fun _ K2 hK2=>by refine gg_ ?_;exact hK2) ?_
 refine zf (c:=false) (fun _ K2 hK2=>by refine gg_ ?_;exact hK2) ?_
 refine zf (c:=false) (fun _ K2 hK2=>?_) ?_
 ·refine gg_ ?_
  refine s_c (by decide) ?_
  refine zp (v:=.int .i64 1) (by simpa using S.at (hcell 0 _ rfl)) ?_
  refine gg_ ?_
  exact hK2
 refine zf (c:=false) (fun _ K2 hK2=>by refine gg_ ?_;exact hK2) ?_
 refine zf (c:=false) (fun _ K2 hK2=>by refine gg_ ?_;exact hK2) ?_
 refine zf (c:=false) (fun _ K2 hK2=>by refine gg_ ?_;exact hK2) ?_
 refine zf (c:=false) (fun _ K2 hK2=>by refine gg_ ?_;exact hK2) ?_
 refine zf (c:=false) (fun _ K2 hK2=>by refine gg_ ?_;exact hK2) ?_
 refine ym (c:=false) (fun _ K2 hK2=>?_) fun w20 e20=>?_
 ·refine S.ldB (b:=b2) ?_ rfl
  refine jt (kS (M:=[]) S) hu fun w21 e21=>?_
  rw [xN.2 abl]
  refine gp_ ?_
  exact hK2 _ e21
 have S:=S.go e20
 refine ym (c:=false) (fun _ K2 hK2=>?_) fun w22 e22=>?_
 ·refine S.ldB (b:=b2) ?_ rfl
  refine S.ldB (b:=b2) ?_ rfl
  refine aey (kS (M:=[]) S) hu hu fun w21 e21=>?_
  rw [xN.2 abl,jP]
  refine gp_ ?_
  exact hK2 _ e21
 have S:=S.go e22
 refine c_f (by simp) ?_
 refine gg_ ?_
 refine S.st (b:=bp) fun w30 S=>?_
 have S : StX noX w _ w30 (exM 2 bt bn bp bg b2):=S
 have hu2:=ahV (M:=[]) S
 refine S.ldB (b:=b2) ?_ rfl
 refine Z1 (kS (M:=[]) S) hu2 fun w31 e31=>?_
 have S:=S.go e31
 rw [acF]
 refine gS_ ?_
 refine zg (c:=true) (fun _ K2 hK2=>by refine gg_ ?_;exact hK2) ?_
 refine zg (c:=true) (fun _ K2 hK2=>by refine gg_ ?_;exact hK2) ?_
 refine zm (c:=true) (fun _ K2 hK2=>?_) fun w32 e32=>?_
 ·refine S.ldB (b:=b2) ?_ rfl
  refine jt (kS (M:=[]) S) hu2 fun w33 e33=>?_
  rw [ajA]
  refine gp_ ?_
  exact hK2 _ e33
 have:=h _ (S.go e32).ext
 simpa using this
end Go.Proofs
end
