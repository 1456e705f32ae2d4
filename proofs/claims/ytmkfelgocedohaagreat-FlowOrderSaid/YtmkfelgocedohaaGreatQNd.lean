/-
  Contracts: Of, Width, Place, Borrowed, Called of region.
  Texts of points, of both sides.
  Contracts: Borrowed, Called of region.
  Contracts: SameType of the reference, typeFits and spoil of law 13.
  Contracts: the example of law 13, and what is told of it.
  What is told of the example of law 13; awake.
  Contracts: fits of law 13; lists of numbers read in a memory that stays.
  What is cleared: the end of a slice of one's own.
  Contracts: a function, a point of a program; Assigns, Type, Operands of graph.
  graph.Text, graph.Lines, graph.Next.
  Shallow readings of functions. Made by a program (wip/gen/gen.py) out of the translation; the kernel checks each equality.
  Points compared: slices.EqualFunc of any kind; places, operands, points.
  graph.Same: two programs are the same.
  graph.Same: points, graphs, structs, units compared.
  graph.Same: graphs, structs, units compared.
  loanwordlaw10: fits; graph.Next.
  Contracts: the operands of a point.
  Shapes: what regions say nothing of; the plain law of RegionShapes.
  Contracts: Operands of graph.
  graph.Next; the example of law 10.
  loanwordref10.Own: places and operands; what a memory of one's own tells.
  Contract: loanwordref10.Own, a program in memory of its own; one function's lists are told as rows that may be written over.
  Plain: a program that may be still may be with another point, or a local more; what it tells of sizes.
  Plain: a program that may be, with one function changed; what a point that may be tells of its operands' types.
  The net of a graph that may be.
  Rows of one's own as cells, and back; a row cut shorter.
  loanwordlaw10: awake.
  Shallow readings of functions. Made by a program (wip/gen/gen.py) out of the translation; the kernel checks each equality.
  The document's answer of layer 9: which types may be; how many words.
  The document's answer of layer 9: words, endless, Structs, Types.
  The document's answer of layer 9: Structs, Types, step, Walk.
  The document's answer of layer 9: step, Walk.
  The document's answer of layer 10: small parts.
  The document's answer of layer 10: rest.
  The document's answer of layer 10: walk, to, operand, args of an asker.
  The document's answer of layer 10: operand, args of an asker.
  Joined conditions with calls in them; facts of an asker.
  The document's answer of layer 10: a point.
  The document's answer of layer 10: what a type implies; the head of a graph.
  The document's answer of layer 10: the head of a graph.
  The document's answer of layer 10: Check, May, Is.
  loanwordlaw10.GraphTexts: whatever the program, the function, the point: the law returns true.
  Contracts of the library, laid at this program (by the kit's own tools).
  slices.Sort, slices.Compact, slices.Clip of a row of numbers that the walk has made itself.
  Shallow readings of functions. Made by a program (wip/gen/gen.py) out of the translation; the kernel checks each equality.
  Contracts: slices of numbers and of marks: Contains, Clone, Equal, Repeat, Reverse.
  Plain: who lies above whom (without it there is no way): found by going round until nothing changes.
  Shallow readings of functions. Made by a program (wip/gen/gen.py) out of the translation; the kernel checks each equality.
  Contracts of flow: a net is told of a program; has, before, marked, reached.
  Contracts of flow: the net of a program; what is reached.
  Plain: the walk from point 0 (deep first) as steps of a machine; what is left behind.
  Plain: what the walk leaves behind: each point that is reached once; edges back; who lies above comes ahead.
  Contract of flow: the walk.
  Plain: shortest ways, the first of them by number; found level by level.
  Plain: a round of levels; the way that is found.
-/
import Derived.Test.YtmkfelgocedohaaGreatQNc
import Derived.Test.YtmkfelgocedohaaGreatQNb
import GoSem.Builtin.Clear
import Derived.Test.YtmkfelgocedohaaGreatQNa
import Derived.Shelf.Sort.Plain
import Derived.Shelf.Bits.Mul64
import Derived.Shelf.Slices.Reverse
import Derived.Shelf.Slices.Clone
import Derived.Shelf.Slices.CompactI
import Derived.Shelf.Slices.In.SortNone
import Derived.Test.YtmkfelgocedohaaGreatProg
import Derived.KernelRfl
section
namespace Go.Proofs
open Go.Sh
set_option maxRecDepth 100000
set_option linter.unusedSimpArgs false
set_option linter.unusedVariables false
def vv : PlD:=⟨0,[]⟩
def Xk : OpD:=⟨0,0,vv⟩
def acM : PtD:=⟨0,vv,Xk,Xk,[],ByteArray.empty,vv,false,0,0,0,0,0⟩
abbrev aa7 : List Value:=[.int .u8 0,.int .i64 0,.slice none 0 0,.int .u8 0,.int .i64 0,.int .i64 0,.slice none 0 0,.int .u8 0,.int .i64 0,.int .i64 0,.slice none 0 0,.slice none 0 0,.string ByteArray.empty,.int .i64 0,.slice none 0 0,.bool false,.int .i64 0,.int .i64 0,.int .i64 0,.int .i64 0,.int .i64 0]
theorem zZ {α : Type} {sz : Nat} {r : Gh} {R : List Value→α→Prop} : SlB sz r R (.slice none 0 0) ([] : List α):=⟨SlG.nil,Nat.zero_le _⟩
theorem adX {r : Gh} : PtG r aa7 acM:=⟨_,_,_,_,_,rfl,zZ,zZ,zZ,zZ,zZ⟩
abbrev ptL (p : PtD) (q1 q2 q3 q4 q5 : Option Addr) (c1 c2 c3 c4 c5 : Nat) : List Value:=[.int .u8 p.op,.int .i64 p.to.l,.slice q1 p.to.ps.length c1,.int .u8 p.a.k,.int .i64 p.a.n,.int .i64 p.a.pl.l,.slice q2 p.a.pl.ps.length c2,.int .u8 p.b.k,.int .i64 p.b.n,.int .i64 p.b.pl.l,.slice q3 p.b.pl.ps.length c3,.slice q4 p.args.length c4,
 .string p.sign,.int .i64 p.fr.l,.slice q5 p.fr.ps.length c5,.bool p.mu,.int .i64 p.fn,.int .i64 p.st,.int .i64 p.nx,.int .i64 p.el,.int .i64 p.tx]
theorem Jw {r : Gh} {c : List Value} {p : PtD} (h : PtG r c p) : ∃ q1 q2 q3 q4 q5 c1 c2 c3 c4 c5,c=ptL p q1 q2 q3 q4 q5 c1 c2 c3 c4 c5∧PtG r (ptL p q1 q2 q3 q4 q5 c1 c2 c3 c4 c5) p:=by
 obtain ⟨vto,va,vb,vl,vfr,rfl,k1,k2,k3,k4,k5⟩:=id h
 obtain ⟨q1,c1,rfl,_⟩:=k1.sl.shape
 obtain ⟨q2,c2,rfl,_⟩:=k2.sl.shape
 obtain ⟨q3,c3,rfl,_⟩:=k3.sl.shape
 obtain ⟨q4,c4,rfl,_⟩:=k4.sl.shape
 obtain ⟨q5,c5,rfl,_⟩:=k5.sl.shape
 exact ⟨q1,q2,q3,q4,q5,c1,c2,c3,c4,c5,rfl,h⟩
end Go.Proofs
end
section
namespace Go.Proofs
open Go.Sh
set_option maxRecDepth 100000
set_option linter.unusedSimpArgs false
set_option linter.unusedVariables false
end Go.Proofs
end
section
namespace Go.Proofs
open Go.Sh
set_option maxRecDepth 100000
set_option linter.unusedSimpArgs false
set_option linter.unusedVariables false
def aaj (u : UnD) (fn q : Int) : Option PtD:=u.fs[fn.toNat]?.bind fun g=>g.pts[q.toNat]?
end Go.Proofs
end
section
namespace Go.Proofs
open Go.Sh
set_option maxRecDepth 100000
set_option linter.unusedSimpArgs false
set_option linter.unusedVariables false
end Go.Proofs
end
section
namespace Go.Sh
theorem StX.litNew {w0 w : World} {r : Gh} {L M : List Asr} {α : Type} {sz : Nat} {R : List Value→α→Prop} {l : List α} {e : TypeId} {xs : List Value} (S : StX noX w0 r w L) (b : Nat) [h : Jm b L xs e M] (hr : RowOf sz R xs l) (hz : 0<sz) :
  StX noX w0 (r.or (Go.Sh.one b xs e)) w M∧SlG sz (Go.Sh.one b xs e) R (.slice (some ⟨b,0,none⟩) l.length l.length) l∧Above w0 (Go.Sh.one b xs e):=by
 have S1:=S.front b
 have hm:=S1.mine (.cell b xs e) List.mem_cons_self b rfl
 obtain ⟨S2,h2⟩:=S1.litSl hr hz
 exact ⟨S2,h2,by rintro b' o ⟨rfl,_⟩;exact hm.1.resolve_right id⟩
end Go.Sh
namespace Go.Proofs
open Go.Sh
set_option maxRecDepth 100000
set_option linter.unusedSimpArgs false
set_option linter.unusedVariables false
theorem zG {α : Type} {sz : Nat} {R : List Value→α→Prop} {c : List Value} {x : α} (hc : c.length=sz) (hx : R c x) : RowOf sz R c [x]:=RowOf.nil.snoc (xs:=[]) hc hx
theorem xw {α : Type} {sz : Nat} {R : List Value→α→Prop} {c xs : List Value} {x : α} {l : List α} (hc : c.length=sz) (hx : R c x) (h : RowOf sz R xs l) : RowOf sz R (c++xs) (x::l):=by
 obtain ⟨h1,h2⟩:=h
 refine ⟨by rw [List.length_append,List.length_cons,h1,hc,Nat.succ_mul,Nat.add_comm],fun i hi=>?_⟩
 cases i with
 |zero=>rw [Nat.zero_mul,List.drop_zero,List.take_append_of_le_length (by omega),List.take_of_length_le (by omega)];exact hx
 |succ i=>
  have e : ((c++xs).drop ((i+1)*sz))=xs.drop (i*sz):=by
   rw [show (i+1)*sz=c.length+i*sz by rw [hc,Nat.succ_mul,Nat.add_comm],← List.drop_drop,List.drop_left'];rfl
  rw [e]
  exact h2 i (by simpa using hi)
theorem Xl {α : Type} {sz : Nat} {r : Gh} {R : List Value→α→Prop} {v : Value} {l : List α} (h : SlG sz r R v l) (hl : l.length≤1000000:=by decide) : SlB sz r R v l:=⟨h,by simp only [maxLen];omega⟩
abbrev vz : List Value:=[.int .u8 1,.bool false,.int .i64 0,.int .i64 0,.slice none 0 0]
abbrev hl3 : List Value:=[.int .u8 14,.int .i64 0,.slice none 0 0,.int .u8 0,.int .i64 0,.int .i64 0,.slice none 0 0,.int .u8 0,.int .i64 0,.int .i64 0,.slice none 0 0,.slice none 0 0,.string ByteArray.empty,.int .i64 0,.slice none 0 0,.bool false,.int .i64 0,.int .i64 0,.int .i64 0,.int .i64 0,.int .i64 0]
end Go.Proofs
end
section
namespace Go.Proofs
open Go.Sh
set_option maxRecDepth 100000
set_option linter.unusedSimpArgs false
set_option linter.unusedVariables false
theorem hst : zV ([] : List StD)=(0,0):=by unfold zV;simp [xj]
theorem afF (t : TyD) : xk [] t=zX 0 48 t:=by rw [xk,hst];simp
theorem Z3 : ByteArray.empty.toList = []:=by rw [ByteArray.toList_eq];rfl
end Go.Proofs
end
section
namespace Go.Sh
section
variable {P : Program} {t : TypeId} {c : Bool} {K : Value→Prop}
end
end Go.Sh
namespace Go.Proofs
open Go.Sh
set_option maxRecDepth 100000
set_option linter.unusedSimpArgs false
set_option linter.unusedVariables false
end Go.Proofs
end
section
namespace Go.Sh
open Go.RowKit
section
variable {P : Program} {X : Nat→Prop} {w0 w : World} {r : Gh} {L : List Asr} {t e T ty : TypeId} {b sz n off cap : Nat} {c z : List Value} {f : List Value→List Asr}
end
end Go.Sh
end
section
namespace Go.Proofs
open Go.Sh
set_option maxRecDepth 100000
set_option linter.unusedSimpArgs false
set_option linter.unusedVariables false
noncomputable def fnE (u : UnD) (n : Int) : Int:=if (decide (n<0)||decide ((u.fs.length : Int)≤n)) || !Jr u then 2 else 0
theorem QT {u : UnD} {n : Int} (h : fnE u n=0) : MayU u∧0≤n∧n.toNat<u.fs.length:=by
 unfold fnE at h
 split at h
 ·cases h
 ·rename_i hc
  simp only [Bool.or_eq_true,decide_eq_true_eq,Bool.not_eq_true',not_or,Bool.not_eq_false] at hc
  exact ⟨Qe.1 hc.2,by omega,by omega⟩
noncomputable def ptE (u : UnD) (n q : Int) : Int:=if fnE u n=0∧0≤q∧q<((u.fs[n.toNat]?.map fun g=>(g.pts.length : Int)).getD 0) then 0 else 2
def aez : GrD:=⟨ByteArray.empty,0,[],0,[],[],[]⟩
abbrev acN : List Value:=[.string ByteArray.empty,.int .i64 0,.slice none 0 0,.int .i64 0,.slice none 0 0,.slice none 0 0,.slice none 0 0]
theorem aeQ {r : Gh} : GrG r acN aez:=⟨_,_,_,_,rfl,zZ,zZ,zZ,zZ⟩
abbrev grL (g : GrD) (q1 q2 q3 q4 : Option Addr) (c1 c2 c3 c4 : Nat) : List Value:=[.string g.name,.int .i64 g.lv,.slice q1 g.outs.length c1,.int .i64 g.pn,.slice q2 g.tys.length c2,.slice q3 g.nms.length c3,.slice q4 g.pts.length c4]
theorem Xm {r : Gh} {c : List Value} {g : GrD} (h : GrG r c g) : ∃ q1 q2 q3 q4 c1 c2 c3 c4,c=grL g q1 q2 q3 q4 c1 c2 c3 c4∧GrG r (grL g q1 q2 q3 q4 c1 c2 c3 c4) g:=by
 obtain ⟨vo,vt,vn,vp,rfl,k1,k2,k3,k4⟩:=id h
 obtain ⟨q1,c1,rfl,_⟩:=k1.sl.shape
 obtain ⟨q2,c2,rfl,_⟩:=k2.sl.shape
 obtain ⟨q3,c3,rfl,_⟩:=k3.sl.shape
 obtain ⟨q4,c4,rfl,_⟩:=k4.sl.shape
 exact ⟨q1,q2,q3,q4,c1,c2,c3,c4,rfl,h⟩
theorem abQ {u : UnD} {n : Int} {v : Value} {w : World} {r : Gh} {K : Value→World→Prop} (hr : Holds r w) (hu : UnG r v u)
  (h : ∀ c g w',Ext w w'→GrG r c g→(fnE u n=0→u.fs[n.toNat]? = some g)→(fnE u n≠0→g.pts = [])→K (.tuple #[.agg c.toArray,.int .i64 (fnE u n)]) w') : ze Tryz.prog Tryz.ZT #[v,.int .i64 n] w K:=by
 refine Tryz.aaG ?_
 unfold Tryz.QD
 have hu0:=hu
 obtain ⟨p0,cap0,vf,rfl,_,_,hst,hsl,hfn⟩:=hu
 obtain ⟨qf,capf,rfl,_,_⟩:=hfn.sl.shape
 have hfl : u.fs.length≤9223372036854775807:=hfn.few
 have S:=St.start hr
 refine S.box fun b2 w1 S=>?_
 have S : StX noX w r w1 [.cell b2 [.slice p0 u.ss.length cap0,.slice qf u.fs.length capf,.int .i64 u.mn] 25]:=S
 refine S.al fun b4 w2 S=>?_
 refine gp_ ?_
 refine zk (c:=decide ((u.fs.length : Int)≤n)) (fun _ K2 hK2=>by refine gg_ ?_;exact hK2) ?_
 refine kG (c:=!Jr u) (fun _ K2 hK2=>?_) fun w3 e3=>?_
 ·refine S.ldB (b:=b2) ?_ rfl
  refine XP S.holds hu0 fun w3 e3=>?_
  refine gp_ ?_
  exact hK2 _ e3
 have S:=S.go e3
 refine c_b (fun hb=>?_) (fun hb=>?_)
 ·have hE : fnE u n=2:=by rw [fnE,if_pos hb]
  rw [hE] at h
  refine zz (cs:=acN.toArray) (by kernel_rfl) ?_
  refine S.stB (b:=b4) fun w4 S=>?_
  refine S.ceB (b:=b4) ?_ rfl
  exact h _ aez _ S.ext aeQ (fun h=>by cases h) fun _=>rfl
 ·have hE : fnE u n=0:=by rw [fnE,if_neg (by rw [hb];decide)]
  obtain ⟨_,hn0,hlt⟩:=QT hE
  rw [hE] at h
  obtain ⟨bf,of,cf,rfl,hcf,hgc,hfo⟩:=hfn.sl.get (by decide) hlt
  rw [List.getElem?_eq_getElem hlt] at h
  generalize u.fs[n.toNat]=g at h hgc
  obtain ⟨x1,x2,x3,x4,y1,y2,y3,y4,rfl,hg0⟩:=Xm hgc
  refine gg_ ?_
  refine zQ (n:=7) hcf (fun j v hj=>S.at (hfo j v hj)) ?_
  refine S.stB (b:=b4) fun w4 S=>?_
  refine S.ceB (b:=b4) ?_ rfl
  exact h _ g _ S.ext hg0 (fun _=>rfl) fun h=>absurd rfl h
theorem Vl {u : UnD} {n q : Int} {v : Value} {w : World} {r : Gh} {K : Value→World→Prop} (hr : Holds r w) (hu : UnG r v u)
  (h : ∀ c p w',Ext w w'→PtG r c p→(ptE u n q=0→aaj u n q=some p)→K (.tuple #[.agg c.toArray,.int .i64 (ptE u n q)]) w') : ze Tryz.prog Tryz.jz #[v,.int .i64 n,.int .i64 q] w K:=by
 refine Tryz.Jf ?_
 unfold Tryz.Yd
 have hu0:=hu
 obtain ⟨p0,cap0,vf,rfl,_,_,hst,hsl,hfn⟩:=hu
 obtain ⟨qf,capf,rfl,_,_⟩:=hfn.sl.shape
 have S:=St.start hr
 refine S.box fun b3 w1 S=>?_
 have S : StX noX w r w1 [.cell b3 [.slice p0 u.ss.length cap0,.slice qf u.fs.length capf,.int .i64 u.mn] 25]:=S
 refine S.al fun b6 w2 S=>?_
 refine S.ldB (b:=b3) ?_ rfl
 refine abQ S.holds hu0 fun c g w3 e3 hg hgi _=>?_
 have S:=S.go e3
 obtain ⟨x1,x2,x3,x4,y1,y2,y3,y4,rfl,hg0⟩:=Xm hg
 refine gS_ ?_
 refine S.al fun b8 w4 S=>?_
 refine S.stB (b:=b8) fun w5 S=>?_
 refine gp_ ?_
 refine zk (c:=decide (q<0)) (fun _ K2 hK2=>by refine gg_ ?_;exact hK2) ?_
 refine zk (c:=decide ((g.pts.length : Int)≤q)) (fun _ K2 hK2=>by refine gg_ ?_;exact hK2) ?_
 have hP : ptE u n q=if ((decide (fnE u n≠0)||decide (q<0))||decide ((g.pts.length : Int)≤q))=true then 2 else 0:=by
  unfold ptE
  by_cases h0 : fnE u n=0
  ·have e : ((u.fs[n.toNat]?.map fun g=>(g.pts.length : Int)).getD 0)=g.pts.length:=by rw [hgi h0];rfl
   rw [e]
   by_cases h1 : q<0
   ·rw [if_neg (by omega),if_pos (by rw [decide_eq_true h1];simp)]
   by_cases h2 : (g.pts.length : Int)≤q
   ·rw [if_neg (by omega),if_pos (by rw [decide_eq_true h2];simp)]
   ·rw [if_pos ⟨h0,by omega,by omega⟩,if_neg (by rw [decide_eq_false (show ¬ fnE u n≠0 by omega),decide_eq_false h1,decide_eq_false h2];decide)]
  ·rw [if_neg (fun hh=>h0 hh.1),if_pos (by rw [decide_eq_true (show fnE u n≠0 from h0)];rfl)]
 refine c_b (fun hb=>?_) (fun hb=>?_)
 ·rw [if_pos hb] at hP
  rw [hP] at h
  refine zz (cs:=aa7.toArray) (by kernel_rfl) ?_
  refine S.stB (b:=b6) fun w6 S=>?_
  refine S.ceB (b:=b6) ?_ rfl
  exact h _ acM _ S.ext adX fun h=>by cases h
 ·rw [if_neg (by rw [hb];decide)] at hP
  rw [hP] at h
  simp only [Bool.or_eq_false_iff,decide_eq_false_iff_not] at hb
  obtain ⟨⟨hf,hq0⟩,hql⟩:=hb
  have hgn:=hgi (by omega)
  obtain ⟨_,_,_,_,hE,_,_,_,hpts⟩:=hg0
  cases hE
  have hlq : q.toNat<g.pts.length:=by omega
  obtain ⟨bp,op,cp,rfl,hcp,hpc,hpo⟩:=hpts.sl.get (by decide) hlq
  have hpa : aaj u n q=some g.pts[q.toNat]:=by rw [aaj,hgn,Option.bind_some,List.getElem?_eq_getElem hlq]
  rw [hpa] at h
  generalize g.pts[q.toNat]=p at h hpc
  obtain ⟨z1,z2,z3,z4,z5,t1,t2,t3,t4,t5,rfl,hp0⟩:=Jw hpc
  refine gg_ ?_
  refine zQ (n:=21) hcp (fun j v hj=>S.at (hpo j v hj)) ?_
  refine S.stB (b:=b6) fun w6 S=>?_
  refine S.ceB (b:=b6) ?_ rfl
  exact h _ p _ S.ext hp0 fun _=>rfl
end Go.Proofs
end
section
namespace Go.Proofs
open Go.Sh
set_option maxRecDepth 100000
set_option linter.unusedSimpArgs false
set_option linter.unusedVariables false
end Go.Proofs
end
section
namespace Go.Proofs.Tryz
open Go.Sh
set_option maxRecDepth 100000
end Go.Proofs.Tryz
end
section
namespace Go.Proofs
open Go.Sh
set_option maxRecDepth 100000
set_option linter.unusedSimpArgs false
set_option linter.unusedVariables false
end Go.Proofs
end
section
namespace Go.Proofs
open Go.Sh
set_option maxRecDepth 100000
set_option linter.unusedSimpArgs false
set_option linter.unusedVariables false
end Go.Proofs
end
section
namespace Go.Proofs
open Go.Sh
set_option maxRecDepth 100000
set_option linter.unusedSimpArgs false
set_option linter.unusedVariables false
end Go.Proofs
end
section
namespace Go.Proofs
open Go.Sh
set_option maxRecDepth 100000
set_option linter.unusedSimpArgs false
set_option linter.unusedVariables false
end Go.Proofs
end
section
namespace Go.Proofs
open Go.Sh
set_option maxRecDepth 100000
set_option linter.unusedSimpArgs false
set_option linter.unusedVariables false
end Go.Proofs
end
section
namespace Go.Sh
open Go.RowKit
section
variable {P : Program} {X : Nat→Prop} {w0 w : World} {r : Gh} {L : List Asr} {α : Type} {sz n : Nat} {R : List Value→α→Prop} {l : List α} {e : TypeId} {p : Option Addr} {cap : Nat}
end
end Go.Sh
namespace Go.Proofs
open Go.Sh
set_option maxRecDepth 100000
set_option linter.unusedSimpArgs false
set_option linter.unusedVariables false
end Go.Proofs
end
section
namespace Go.Proofs
open Go.Sh
set_option maxRecDepth 100000
set_option linter.unusedSimpArgs false
set_option linter.unusedVariables false
end Go.Proofs
end
section
namespace Go.Proofs
open Go.Sh
set_option maxRecDepth 100000
set_option linter.unusedSimpArgs false
set_option linter.unusedVariables false
end Go.Proofs
end
section
namespace Go.Proofs
open Go.Sh
set_option maxRecDepth 100000
set_option linter.unusedSimpArgs false
set_option linter.unusedVariables false
def yE (p : PtD) : List Int:=if p.op=14 then [] else if p.op=12∧p.nx≠p.el then [p.nx,p.el] else [p.nx]
noncomputable def Zh (u : UnD) (n q : Int) : List Int:=if ptE u n q=0 then (match aaj u n q with|some p=>yE p|none=>[]) else []
theorem vA {u : UnD} {n q : Int} {v : Value} {w : World} {r : Gh} {K : Value→World→Prop} (hr : Holds r w) (hu : UnG r v u)
  (h : ∀ v' s w',Ext w w'→New w s w'→SlG 1 s zu v' (Zh u n q)→K (.tuple #[v',.int .i64 (ptE u n q)]) w') : ze Tryz.prog Tryz.xZ #[v,.int .i64 n,.int .i64 q] w K:=by
 refine Tryz.Vj ?_
 unfold Tryz.YK
 have hu0:=hu
 obtain ⟨p0,cap0,vf,rfl,_,_,hst,hsl,hfn⟩:=hu
 obtain ⟨qf,capf,rfl,_,_⟩:=hfn.sl.shape
 have S:=St.start hr
 refine S.box fun b3 w1 S=>?_
 have S : StX noX w r w1 [.cell b3 [.slice p0 u.ss.length cap0,.slice qf u.fs.length capf,.int .i64 u.mn] 25]:=S
 refine S.ldB (b:=b3) ?_ rfl
 refine Vl S.holds hu0 fun c p w2 e2 hp hpt=>?_
 have S:=S.go e2
 obtain ⟨z1,z2,z3,z4,z5,t1,t2,t3,t4,t5,rfl,hp0⟩:=Jw hp
 have hN : ptE u n q=0→Zh u n q=yE p:=fun h0=>by rw [Zh,if_pos h0,hpt h0]
 have hN0 : ptE u n q≠0→Zh u n q = []:=fun h0=>by rw [Zh,if_neg h0]
 refine gS_ ?_
 refine S.al fun b8 w3 S=>?_
 refine S.stB (b:=b8) fun w4 S=>?_
 have S : StX noX w r w4 [.cell b8 (ptL p z1 z2 z3 z4 z5 t1 t2 t3 t4 t5) 87,.cell b3 [.slice p0 u.ss.length cap0,.slice qf u.fs.length capf,.int .i64 u.mn] 25]:=S
 refine gp_ ?_
 refine zk (c:=decide (p.op=14)) (fun _ K2 hK2=>by refine gg_ ?_;exact hK2) ?_
 refine c_b (fun hb=>?_) (fun hb=>?_)
 ·have hE : Zh u n q = []:=by
   by_cases h0 : ptE u n q=0
   ·rw [hN h0,yE,if_pos (by simpa [h0] using hb)]
   ·exact hN0 h0
  rw [hE] at h
  exact h _ nothing _ S.ext New.nothing SlG.nil
 simp only [Bool.or_eq_false_iff,decide_eq_false_iff_not] at hb
 have h0 : ptE u n q=0:=Decidable.not_not.1 hb.1
 have hE:=hN h0
 rw [yE,if_neg hb.2] at hE
 refine gg_ ?_
 refine zi (c:=decide (p.nx≠p.el)) (fun _ K2 hK2=>by refine gg_ ?_;exact hK2) ?_
 refine c_b (fun hc=>?_) (fun hc=>?_)
 ·simp only [Bool.and_eq_true,decide_eq_true_eq] at hc
  rw [if_pos hc] at hE
  rw [hE] at h
  refine gg_ ?_
  refine S.lit (e:=3) (cs:=[.int .i64 p.nx,.int .i64 p.el]) (by kernel_rfl) fun b9 w9 S=>?_
  obtain ⟨S,hs,ha⟩:=S.litNew b9 (sz:=1) (R:=zu) (l:=[p.nx,p.el]) (xw (c:=[.int .i64 p.nx]) rfl rfl (zG rfl rfl)) (by decide)
  exact h _ _ _ S.ext (S.newOf ha) hs
 ·simp only [Bool.and_eq_false_iff,decide_eq_false_iff_not] at hc
  rw [if_neg (by rintro ⟨h1,h2⟩;rcases hc with hc|hc<;>contradiction)] at hE
  rw [hE] at h
  refine gg_ ?_
  refine S.lit (e:=3) (cs:=[.int .i64 p.nx]) (by kernel_rfl) fun b9 w9 S=>?_
  obtain ⟨S,hs,ha⟩:=S.litNew b9 (sz:=1) (R:=zu) (l:=[p.nx]) (zG rfl rfl) (by decide)
  exact h _ _ _ S.ext (S.newOf ha) hs
def exB : PtD:=⟨14,vv,Xk,Xk,[],ByteArray.empty,vv,false,0,0,0,0,0⟩
end Go.Proofs
end
section
namespace Go.Proofs
open Go.Sh
set_option maxRecDepth 100000
set_option linter.unusedSimpArgs false
set_option linter.unusedVariables false
end Go.Proofs
end
section
namespace Go.Proofs
open Go.Sh
set_option maxRecDepth 100000
set_option linter.unusedSimpArgs false
set_option linter.unusedVariables false
end Go.Proofs
end
section
namespace Go.Proofs
open Go.Sh
set_option maxRecDepth 100000
set_option linter.unusedSimpArgs false
set_option linter.unusedVariables false
end Go.Proofs
end
section
namespace Go.Proofs
open Go.Sh
set_option maxRecDepth 100000
set_option linter.unusedSimpArgs false
set_option linter.unusedVariables false
theorem aak {u : UnD} {g : GrD} {p : PtD} (h : yw u g p=true) : 0≤p.tx∧(p.op≠14→ZZ g p.nx=true)∧(p.op=14→p.nx=0)∧ptG u g p=true:=by
 simp only [yw,Bool.and_eq_true,Bool.not_eq_true',Bool.or_eq_false_iff,decide_eq_false_iff_not,Bool.and_eq_false_iff,Bool.not_eq_false',decide_eq_true_eq] at h
 obtain ⟨⟨⟨a,b⟩,c⟩,d⟩:=h
 exact ⟨by omega,fun h=>b.resolve_left h,fun h=>c.resolve_left (fun h'=>h' h),d⟩
end Go.Proofs
end
section
namespace Go.Proofs
open Go.Sh
set_option maxRecDepth 100000
set_option linter.unusedSimpArgs false
set_option linter.unusedVariables false
def zg (g : GrD) : zd:=g.pts.map yE
theorem yH {g : GrD} : (zg g).length=g.pts.length:=List.length_map _
theorem aal {g : GrD} {q : Int} : ZZ g q=true↔isN (zg g) q:=by
 rw [ZZ,Bool.and_eq_true,decide_eq_true_eq,decide_eq_true_eq,isN,yH]
theorem aaM {p : PtD} : (yE p).Nodup:=by
 rw [yE]
 split
 ·exact .nil
 split
 ·rename_i h;simpa using h.2
 ·simp
theorem abR {g : GrD} {q : Int} : (nxt (zg g) q).Nodup:=by
 rw [nxt,List.getD_eq_getElem?_getD]
 cases h : (zg g)[q.toNat]? with
 |none=>exact .nil
 |some l=>
  rw [zg,List.getElem?_map] at h
  cases h2 : g.pts[q.toNat]? with
  |none=>rw [h2] at h;cases h
  |some p=>rw [h2] at h;cases h;exact aaM
theorem aeR {g : GrD} {q : Int} (h : isN (zg g) q) : nxt (zg g) q=yE (g.pts[q.toNat]'(by have:=h.1;have:=h.2;rw [yH] at this;omega)):=by
 rw [j6 h];simp [zg]
theorem abS {u : UnD} {g : GrD} {p : PtD} (h : yw u g p=true) : ∀ x ∈ yE p,isN (zg g) x:=fun x hx=>by
 obtain ⟨_,h1,_,h3⟩:=aak h
 rw [yE] at hx
 split at hx
 ·cases hx
 rename_i h14
 have hnx:=aal.1 (h1 h14)
 split at hx
 ·rename_i h12
  simp only [List.mem_cons,List.not_mem_nil,or_false] at hx
  rcases hx with rfl|rfl
  ·exact hnx
  ·rw [ptG] at h3
   simp only [h12.1,Int.reduceEq,if_false,if_true,Bool.and_eq_true] at h3
   exact aal.1 h3.2
 ·rw [List.mem_singleton.1 hx];exact hnx
theorem aeS {u : UnD} {g : GrD} (hM : MayU u) (hg : g ∈ u.fs) : zM (zg g):=fun l hl x hx=>by
 obtain ⟨p,hp,rfl⟩:=List.mem_map.1 hl
 exact abS (hM.pts g hg p hp) x hx
theorem adY {u : UnD} {n : Nat} (hM : MayU u) (hn : n<u.fs.length) : 0<(zg u.fs[n]).length∧(zg u.fs[n]).length≤1024:=by
 have:=hM.hd hn
 rw [yH]
 exact ⟨this.pt1,this.pt1024⟩
theorem acO {p : PtD} : (yE p).length≤2:=by
 rw [yE]
 split
 ·simp
 split<;>simp
def RowC (r : Gh) (c : List Value) (l : List Int) : Prop:=∃ v,c = [v]∧SlB 1 r zu v l
def NetG (r : Gh) (v : Value) (n : zd) : Prop:=SlB 1 r (RowC r) v n
theorem RowC.up {r s : Gh} {c : List Value} {l : List Int} (h : RowC r c l) [le : Le r s] : RowC s c l:=by
 obtain ⟨v,h1,h2⟩:=h;exact ⟨v,h1,h2.cells⟩
theorem NetG.up {r s : Gh} {v : Value} {n : zd} (h : NetG r v n) [le : Le r s] : NetG s v n:=h.up' le fun _ _ h=>RowC.up h
end Go.Proofs
end
section
namespace Go.Sh
open Go.RowKit
section
variable {P : Program} {X : Nat→Prop} {w0 w : World} {r : Gh} {L : List Asr} {e : TypeId} {sz m : Nat} {xs : List Value} {g : Asr→List Asr}
theorem StX.rowCellM (S : StX X w0 r w L) (v : Value) [h : kO v L e sz m xs g] (hm : m≠0) :
  ∃ b cap c,v = .slice (some ⟨b,0,none⟩) m cap∧m≤cap∧cap≤maxLen∧c.length=cap*sz∧c.take (m*sz)=xs∧StX X w0 r w (g (.cell b c e)):=by
 obtain ⟨pp,qq,h2,h3⟩:=h.h
 have hr:=S.has (.row v e sz m xs) (by rw [h2];simp)
 rcases ki hr with ⟨_,h0,_⟩|⟨b,cap,c,rfl,hb,B,hn,hx,hc,ht⟩
 ·exact absurd h0 hm
 ·refine ⟨b,cap,c,rfl,hn,hx,hc,ht,?_⟩
  rw [h3]
  rw [h2] at S
  exact S.turn (x:=.row _ e sz m xs) (y:=.cell b c e) (ExtBut.refl _ _) B fun k hk=>.inl (by cases hk;rfl)
class QU (b : Nat) (L : List Asr) (c : outParam (List Value)) (T : outParam TypeId) (f : outParam (Asr→List Asr)) : Prop where
 h : ∃ p q,L=p ++ .cell b c T::q∧∀ y,f y=p++y::q
instance {b : Nat} {c : List Value} {T : TypeId} {L : List Asr} : QU b (.cell b c T::L) c T fun y=>y::L:=⟨[],L,rfl,fun _=>rfl⟩
instance (priority:=low) {b : Nat} {c : List Value} {T : TypeId} {x : Asr} {L : List Asr} {f : Asr→List Asr} [h : QU b L c T f] : QU b (x::L) c T fun y=>x::f y:=⟨by
 obtain ⟨p,q,h1,h2⟩:=h.h
 exact ⟨x::p,q,by rw [h1];rfl,fun c'=>by rw [h2];rfl⟩⟩
theorem StX.cellRowM {b : Nat} {c : List Value} (S : StX X w0 r w L) [h : QU b L c e g] (n sz cap : Nat) (hc : c.length=cap*sz) (hn : n≤cap) (hm : cap≤maxLen) :
  StX X w0 r w (g (.row (.slice (some ⟨b,0,none⟩) n cap) e sz n (c.take (n*sz)))):=by
 obtain ⟨pp,qq,h2,h3⟩:=h.h
 have B : Blk w b c e:=S.has (.cell b c e) (by rw [h2];simp)
 rw [h3]
 rw [h2] at S
 refine S.turn (x:=.cell b c e) (y:=.row _ e sz n _) (ExtBut.refl _ _) ?_ fun k hk=>.inl (by cases hk;rfl)
 exact jV (base:=0) (Nat.zero_le _) B hn hm hc
theorem StX.cpM {b o dLen dCap sb so sLen sCap : Nat} {c cs : List Value} {f : List Value→List Asr} {dT sT ty elem T : TypeId} (S : StX X w0 r w L) [h : At b L c T f] [hT : SlT P dT elem 1] {K : Value→World→Prop}
  (hn : cs.length=Nat.min sLen dLen) (hsrc : ∀ j v,cs[j]? = some v→w.cell? ⟨sb,so+j,none⟩=some v) (hfit : o+cs.length≤c.length) (h1 : ∀ v ∈ cs,v.oneCell'=true)
  (k : ∀ w',StX X w0 r w' (f (c.take o++cs++c.drop (o+cs.length)))→K (.int .i64 cs.length) w') :
  opW P w (Builtin.copy_ #[dT,sT] ty #[.slice (some ⟨b,o,none⟩) dLen dCap,.slice (some ⟨sb,so,none⟩) sLen sCap]) K:=by
 have hs:=hT.h
 unfold slT at hs
 cases hu : P.underlying dT with
 |none=>rw [hu] at hs;cases hs
 |some d=>
  rw [hu] at hs
  cases d<;>first|(cases hs;done)|skip
  rename_i e'
  simp only [Option.map_eq_some_iff,Prod.mk.injEq] at hs
  obtain ⟨m,hm,rfl,rfl⟩:=hs
  have B:=S.blk b (h:=h)
  obtain ⟨h2,h3,h4⟩:=vc B (c.take o++cs++c.drop (o+cs.length))
  refine ⟨_,_,run_copy_row (P:=P) w dT sT ty e' b o dLen dCap ⟨sb,so,none⟩ sLen sCap c.toArray T cs hu ?_ B hn (fun j v hj=>?_) (by simpa using hfit) h1,k _ ?_⟩
  ·simpa [szT] using hm
  ·have : (⟨sb,so,none⟩ : Addr).add j=⟨sb,so+j,none⟩:=yx _ _ _
   rw [this];exact hsrc j v hj
  ·have:=S.turnC (h:=h) h2 h4
   simpa using this
end
end Go.Sh
end
section
namespace Go.Proofs
open Go.Sh
set_option maxRecDepth 100000
set_option linter.unusedSimpArgs false
set_option linter.unusedVariables false
end Go.Proofs
end
section
namespace Go.Proofs.Tryz
open Go.Sh
set_option maxRecDepth 100000
end Go.Proofs.Tryz
end
section
namespace Go.Sh
end Go.Sh
namespace Go.Proofs
open Go.Sh
set_option maxRecDepth 100000
set_option linter.unusedSimpArgs false
set_option linter.unusedVariables false
end Go.Proofs
end
section
namespace Go.Sh
end Go.Sh
namespace Go.Proofs
open Go.Sh
set_option maxRecDepth 100000
set_option linter.unusedSimpArgs false
set_option linter.unusedVariables false
end Go.Proofs
end
section
namespace Go.Proofs
open Go.Sh
set_option maxRecDepth 100000
set_option linter.unusedSimpArgs false
set_option linter.unusedVariables false
end Go.Proofs
end
section
namespace Go.Proofs
open Go.Sh
set_option maxRecDepth 100000
set_option linter.unusedSimpArgs false
set_option linter.unusedVariables false
end Go.Proofs
end
section
namespace Go.Proofs
open Go.Sh
set_option maxRecDepth 100000
set_option linter.unusedSimpArgs false
set_option linter.unusedVariables false
end Go.Proofs
end
section
namespace Go.Proofs
open Go.Sh
set_option maxRecDepth 100000
set_option linter.unusedSimpArgs false
set_option linter.unusedVariables false
end Go.Proofs
end
section
namespace Go.Proofs
open Go.Sh
set_option maxRecDepth 100000
set_option linter.unusedSimpArgs false
set_option linter.unusedVariables false
end Go.Proofs
end
section
namespace Go.Proofs
open Go.Sh
set_option maxRecDepth 100000
set_option linter.unusedSimpArgs false
set_option linter.unusedVariables false
end Go.Proofs
end
section
namespace Go.Sh
end Go.Sh
namespace Go.Proofs
open Go.Sh
set_option maxRecDepth 100000
set_option linter.unusedSimpArgs false
set_option linter.unusedVariables false
end Go.Proofs
end
section
namespace Go.Proofs
open Go.Sh
set_option maxRecDepth 100000
set_option linter.unusedSimpArgs false
set_option linter.unusedVariables false
end Go.Proofs
end
section
namespace Go.Sh
end Go.Sh
namespace Go.Proofs
open Go.Sh
set_option maxRecDepth 100000
set_option linter.unusedSimpArgs false
set_option linter.unusedVariables false
end Go.Proofs
end
section
namespace Go.Proofs
open Go.Sh
set_option maxRecDepth 100000
set_option linter.unusedSimpArgs false
set_option linter.unusedVariables false
end Go.Proofs
end
section
namespace Go.Proofs
open Go.Sh
set_option maxRecDepth 100000
set_option linter.unusedSimpArgs false
set_option linter.unusedVariables false
end Go.Proofs
end
section
namespace Go.Proofs
open Go.Sh
set_option maxRecDepth 100000
set_option linter.unusedSimpArgs false
set_option linter.unusedVariables false
end Go.Proofs
end
section
namespace Go.Proofs
open Go.Shelf
set_option maxRecDepth 100000
def Tryz.aaN : Go.Shelf.Ren:=⟨fun|189=>71|125=>104|257=>103|128=>132|129=>133|294=>123|295=>124|296=>125|297=>126|298=>127|299=>128|216=>129|300=>130|301=>131|328=>156|329=>157|330=>158|331=>159|332=>160|215=>135|343=>194|n=>n,fun|28=>28|3=>3|46=>148|0=>0|51=>174|53=>76|4=>4|183=>181|182=>180|131=>58|5=>5|9=>9|218=>220|222=>224|228=>252|229=>253|n=>n,fun|n=>n⟩
theorem Tryz.aa8 : Go.Proofs.Lays.n189 Tryz.prog Tryz.aaN:={
 mixed:=by kernel_rfl
 f125:=Tryz.func104.trans (congrArg some (by kernel_rfl))
 f128:=Tryz.func132.trans (congrArg some (by kernel_rfl))
 f129:=Tryz.func133.trans (congrArg some (by kernel_rfl))
 f189:=Tryz.func71.trans (congrArg some (by kernel_rfl))
 f215:=Tryz.func135.trans (congrArg some (by kernel_rfl))
 f216:=Tryz.func129.trans (congrArg some (by kernel_rfl))
 f257:=Tryz.func103.trans (congrArg some (by kernel_rfl))
 f294:=Tryz.func123.trans (congrArg some (by kernel_rfl))
 f295:=Tryz.func124.trans (congrArg some (by kernel_rfl))
 f296:=Tryz.func125.trans (congrArg some (by kernel_rfl))
 f297:=Tryz.func126.trans (congrArg some (by kernel_rfl))
 f298:=Tryz.func127.trans (congrArg some (by kernel_rfl))
 f299:=Tryz.func128.trans (congrArg some (by kernel_rfl))
 f300:=Tryz.func130.trans (congrArg some (by kernel_rfl))
 f301:=Tryz.func131.trans (congrArg some (by kernel_rfl))
 f328:=Tryz.func156.trans (congrArg some (by kernel_rfl))
 f329:=Tryz.func157.trans (congrArg some (by kernel_rfl))
 f330:=Tryz.func158.trans (congrArg some (by kernel_rfl))
 f331:=Tryz.func159.trans (congrArg some (by kernel_rfl))
 f332:=Tryz.func160.trans (congrArg some (by kernel_rfl))
 f343:=Tryz.func194.trans (congrArg some (by kernel_rfl))
 t0:=Tryz.underlying0
 a0:=Tryz.isAgg0
 z0:=Tryz.sizeOf0
 v0:=Tryz.zeroValue0
 t3:=Tryz.underlying3
 a3:=Tryz.isAgg3
 z3:=Tryz.sizeOf3
 v3:=Tryz.zeroValue3
 t4:=Tryz.underlying4
 a4:=Tryz.isAgg4
 z4:=Tryz.sizeOf4
 v4:=Tryz.zeroValue4
 t5:=Tryz.underlying5
 a5:=Tryz.isAgg5
 z5:=Tryz.sizeOf5
 v5:=Tryz.zeroValue5
 t9:=Tryz.underlying9
 a9:=Tryz.isAgg9
 z9:=Tryz.sizeOf9
 v9:=Tryz.zeroValue9
 t28:=Tryz.underlying28
 a28:=Tryz.isAgg28
 z28:=Tryz.sizeOf28
 v28:=Tryz.zeroValue28
 t46:=Tryz.underlying148
 a46:=Tryz.isAgg148
 z46:=Tryz.sizeOf148
 v46:=Tryz.zeroValue148
 t51:=Tryz.underlying174
 a51:=Tryz.isAgg174
 z51:=Tryz.sizeOf174
 v51:=Tryz.zeroValue174
 t53:=Tryz.underlying76
 a53:=Tryz.isAgg76
 z53:=Tryz.sizeOf76
 v53:=Tryz.zeroValue76
 t131:=Tryz.underlying58
 a131:=Tryz.isAgg58
 z131:=Tryz.sizeOf58
 v131:=Tryz.zeroValue58
 t182:=Tryz.underlying180
 a182:=Tryz.isAgg180
 z182:=Tryz.sizeOf180
 v182:=Tryz.zeroValue180
 t183:=Tryz.underlying181
 a183:=Tryz.isAgg181
 z183:=Tryz.sizeOf181
 v183:=Tryz.zeroValue181
 t218:=Tryz.underlying220
 a218:=Tryz.isAgg220
 z218:=Tryz.sizeOf220
 v218:=Tryz.zeroValue220
 t222:=Tryz.underlying224
 a222:=Tryz.isAgg224
 z222:=Tryz.sizeOf224
 v222:=Tryz.zeroValue224
 t228:=Tryz.underlying252
 a228:=Tryz.isAgg252
 z228:=Tryz.sizeOf252
 v228:=Tryz.zeroValue252
 t229:=Tryz.underlying253
 a229:=Tryz.isAgg253
 z229:=Tryz.sizeOf253
 v229:=Tryz.zeroValue253 }
def Tryz.aaO : Go.Shelf.Ren:=⟨fun|112=>101|n=>n,fun|28=>28|3=>3|4=>4|0=>0|n=>n,fun|n=>n⟩
theorem Tryz.aa9 : Go.Proofs.Lays.n112 Tryz.prog Tryz.aaO:={
 mixed:=by kernel_rfl
 f112:=Tryz.func101.trans (congrArg some (by kernel_rfl))
 t0:=Tryz.underlying0
 a0:=Tryz.isAgg0
 z0:=Tryz.sizeOf0
 v0:=Tryz.zeroValue0
 t3:=Tryz.underlying3
 a3:=Tryz.isAgg3
 z3:=Tryz.sizeOf3
 v3:=Tryz.zeroValue3
 t4:=Tryz.underlying4
 a4:=Tryz.isAgg4
 z4:=Tryz.sizeOf4
 v4:=Tryz.zeroValue4
 t28:=Tryz.underlying28
 a28:=Tryz.isAgg28
 z28:=Tryz.sizeOf28
 v28:=Tryz.zeroValue28 }
def Tryz.aaP : Go.Shelf.Ren:=⟨fun|212=>102|263=>121|264=>122|n=>n,fun|46=>148|51=>174|146=>175|53=>76|148=>177|n=>n,fun|n=>n⟩
theorem Tryz.aeT : Go.Proofs.Lays.n212 Tryz.prog Tryz.aaP:={
 mixed:=by kernel_rfl
 f212:=Tryz.func102.trans (congrArg some (by kernel_rfl))
 f263:=Tryz.func121.trans (congrArg some (by kernel_rfl))
 f264:=Tryz.func122.trans (congrArg some (by kernel_rfl))
 t46:=Tryz.underlying148
 a46:=Tryz.isAgg148
 z46:=Tryz.sizeOf148
 v46:=Tryz.zeroValue148
 t51:=Tryz.underlying174
 a51:=Tryz.isAgg174
 z51:=Tryz.sizeOf174
 v51:=Tryz.zeroValue174
 t53:=Tryz.underlying76
 a53:=Tryz.isAgg76
 z53:=Tryz.sizeOf76
 v53:=Tryz.zeroValue76
 t146:=Tryz.underlying175
 a146:=Tryz.isAgg175
 z146:=Tryz.sizeOf175
 v146:=Tryz.zeroValue175
 t148:=Tryz.underlying177
 a148:=Tryz.isAgg177
 z148:=Tryz.sizeOf177
 v148:=Tryz.zeroValue177 }
def Tryz.Vm : Go.Shelf.Ren:=⟨fun|15=>70|n=>n,fun|22=>28|3=>3|4=>4|n=>n,fun|n=>n⟩
theorem Tryz.YO : Go.Proofs.Lays2.n15 Tryz.prog Tryz.Vm:={
 mixed:=by kernel_rfl
 f15:=Tryz.func70.trans (congrArg some (by kernel_rfl))
 t3:=Tryz.underlying3
 a3:=Tryz.isAgg3
 z3:=Tryz.sizeOf3
 v3:=Tryz.zeroValue3
 t4:=Tryz.underlying4
 a4:=Tryz.isAgg4
 z4:=Tryz.sizeOf4
 v4:=Tryz.zeroValue4
 t22:=Tryz.underlying28
 a22:=Tryz.isAgg28
 z22:=Tryz.sizeOf28
 v22:=Tryz.zeroValue28
 i3:=by kernel_rfl }
end Go.Proofs
end
section
namespace Go.Sh
open Go.RowKit
theorem J0 {w w' : World} {g q : Nat} {c : List Value} {e : TypeId} {d : Array Int} {os : Array Obj} (B : Blk w g c e) (hd : d.size≤c.length)
  (hw : w'=Sort.grow (Sort.putRow (Value.int .i64) (Sort.ahead w q) g 0 d) os) : ExtBut (· = g) w w'∧Blk w' g (d.toList.map (Value.int .i64)++c.drop d.size) e:=by
 subst hw
 have hg : g<w.heap.size:=(Array.getElem?_eq_some_iff.1 B).1
 have hput : ∀ k,(Sort.putRow (Value.int .i64) (Sort.ahead w q) g 0 d).heap[k]? = if g=k then (w.heap[k]?).map (Sort.onCells (Sort.putCells (Value.int .i64) 0 d)) else w.heap[k]?:=fun k=>by
  simp only [Sort.putRow,Sort.mapBlock,Array.getElem?_modify]
  split<;>rfl
 have hsz : (Sort.putRow (Value.int .i64) (Sort.ahead w q) g 0 d).heap.size=w.heap.size:=by simp [Sort.ahead]
 refine ⟨⟨rfl,rfl,rfl,by simp only [Sort.grow,Array.size_append,hsz];omega,fun k hk hne=>?_⟩,?_⟩
 ·show ((Sort.putRow (Value.int .i64) (Sort.ahead w q) g 0 d).heap++os)[k]? = _
  rw [Array.getElem?_append_left (by rw [hsz];exact hk),hput,if_neg (fun h=>hne h.symm)]
 ·show ((Sort.putRow (Value.int .i64) (Sort.ahead w q) g 0 d).heap++os)[g]? = _
  rw [Array.getElem?_append_left (by rw [hsz];exact hg),hput,if_pos rfl,B,Option.map_some]
  simp only [Sort.onCells]
  congr 2
  apply Array.ext_getElem?
  intro i
  simp only [Sort.putCells,Array.getElem?_mapIdx,List.getElem?_toArray,List.getElem?_append,List.length_map,Array.length_toList,List.getElem?_map,List.getElem?_drop,Nat.zero_le,true_and,Nat.zero_add,Nat.sub_zero]
  by_cases hi : i<d.size
  ·rw [if_pos hi,List.getElem?_eq_getElem (by omega),Option.map_some,if_pos hi,Array.getElem?_toList,Array.getElem?_eq_getElem hi,getElem!_pos d i hi];rfl
  ·rw [if_neg hi,show d.size+(i - d.size)=i by omega]
   cases h : c[i]? with
   |none=>rfl
   |some x=>rw [Option.map_some,if_neg hi]
end Go.Sh
namespace Go.Proofs
open Go.Sh Go.RowKit
set_option maxRecDepth 100000
set_option linter.unusedSimpArgs false
set_option linter.unusedVariables false
def sortI (l : List Int) : List Int:=l.mergeSort fun x y=>decide (x≤y)
theorem jt {l : List Int} : (sortI l).length=l.length:=List.length_mergeSort l
variable {w0 w : World} {r : Gh} {L : List Asr} {X : Nat→Prop}
theorem Vn {v : Value} {l : List Int} {K : Value→World→Prop} (S : StX X w0 r w (.row v 3 1 l.length (ints l)::L)) (hl : l.length<4611686018427387904)
  (h : ∀ w',StX X w0 r w' (.row v 3 1 l.length (ints (sortI l))::L)→K (.tuple #[]) w') : ze Tryz.prog Tryz.kZ #[v] w K:=by
 have hr : w.ownsRow 0 3 1 v l.length (ints l):=S.has _ (List.mem_cons_self ..)
 rcases ki hr with ⟨rfl,h1,h2⟩|⟨g,cap,c,rfl,hg,B,hn,hm,hcl,ht⟩
 ·have hl0 : l = []:=List.eq_nil_of_length_eq_zero h1
  subst hl0
  refine Calls.mono (Any.slices_Sort_int_none Tryz.aa8 none 0 w) ?_
  rintro e w' ⟨rfl,rfl⟩
  exact ⟨_,rfl,h _ (by rw [show sortI [] = [] by simp [sortI]];exact S)⟩
 ·rw [Nat.mul_one] at hcl ht
  have hcell : ∀ j,j<l.length→w.cell? ⟨g,j,none⟩=some (.int .i64 l[j]!):=fun j hj=>by
   have : (c.take l.length)[j]? = some (.int .i64 l[j]!):=by
    rw [ht,ints,List.getElem?_map,List.getElem?_eq_getElem hj,getElem!_pos l j hj];rfl
   rw [List.getElem?_take,if_pos hj] at this
   rw [B.cell];exact this
  have hfz : ∀ j,w.frozen? ⟨g,j,none⟩=false:=fun j=>B.unfrozen j
  refine Calls.mono (Any.slices_Sort_int Tryz.aa8 g 0 cap l w (fun j hj=>⟨?_,hfz _⟩) (Array.getElem?_eq_some_iff.1 B).1 hl) ?_
  ·have hj : j<l.length:=by simpa using hj
   rw [Nat.zero_add,hcell j hj]
   simp [getElem!_pos,hj]
  rintro e w' ⟨rfl,q,os,hw⟩
  obtain ⟨hE,hB⟩:=J0 (d:=(sortI l).toArray) B (by simp [jt];omega) hw
  refine ⟨_,rfl,h w' ?_⟩
  refine S.turn (p:=[]) (x:=.row (.slice (some ⟨g,0,none⟩) l.length cap) 3 1 l.length (ints l)) (y:=.row (.slice (some ⟨g,0,none⟩) l.length cap) 3 1 l.length (ints (sortI l))) ?_ ?_ fun k hk=>.inl hk
  ·exact hE.mono fun k _ hk=>by subst hk;rfl
  ·have:=jV (base:=0) (e:=3) (size:=1) (n:=l.length) (cap:=cap) (Nat.zero_le _) hB hn hm (by simp [jt];omega)
   have e : ((sortI l).toArray.toList.map (Value.int .i64)++c.drop (sortI l).toArray.size).take (l.length*1)=ints (sortI l):=by
    rw [Nat.mul_one,List.take_append_of_le_length (by simp [jt])]
    exact List.take_of_length_le (by simp [jt])
   rwa [e] at this
end Go.Proofs
end
section
namespace Go.Proofs.Tryz
open Go.Sh
set_option maxRecDepth 100000
def xU (t0 t1 : Value) (w : World) (K : VW) : Prop:=
 ca y8 #[t0,t1] w fun t7 w1=>
 bt .geq 3 t7 (i6 0) fun t8=>K t8 w1
theorem jF {t0 t1 : Value} {w : World} {K : VW} (h : xU t0 t1 w K) : ze prog zL #[t0,t1] w K:=
 okC false (.s (.r (rz 1 0 0)) (.s (.r (rz 5 0 32)) (.n))) func66 rfl (by kernel_rfl) (by kernel_rfl) h
def kL (t0 t1 : Value) (w : World) (K : VW) : Prop:=
 pp (Builtin.len_ #[28] 3 #[t0]) fun t7=>zo [(i6 0)] w (fun s2 _d3 w4 K1=>
 bf .lss 3 (s2.getD 0 undef) t7 fun t9=>zc t9 (xl w4 28 t0 (s2.getD 0 undef) 3 fun t15=>bf .eql 3 t1 t15 fun t16=>zc t16 (K (s2.getD 0 undef) w4) (bt .add 3 (s2.getD 0 undef) (i6 1) fun t18=>K1 [t18] w4)) (K (i6 (-1)) w4))
theorem vN {t0 t1 : Value} {w : World} {K : VW} (h : kL t0 t1 w K) : ze prog y8 #[t0,t1] w K:=
 okC false (.s (.r (rz 1 0 0)) (.s (.s (.r (rz 3 0 0)) (.b (.lp [8] (.s (.r (rz 1 0 0)) (.s (.c (.n) (.n)) (.s (.b (.s (.r (rz 2 0 0)) (.s (.r (rz 6 0 256)) (.c (.s (.r (rz 2 0 0)) (.n)) (.n))))) (.r (rz 2 0 0)))))))) (.s (.r (rz 1 0 0)) (.n)))) func100 rfl (by kernel_rfl) (by kernel_rfl) h
def kA (t0 t1 : Value) (w : World) (K : VW) : Prop:=
 za (fun K1=>
 bt .lss 3 t1 (i6 0) fun t10=>zc t10 (pp (Instr.makeInterface 9 (Value.string { data:=#[99,97,110,110,111,116,32,98,101,32,110,101,103,97,116,105,118,101] })) fun _t11=>False) (K1 [] w)) (fun _s2 _d3 w4=>
 pp (Builtin.len_ #[28] 3 #[t0]) fun t14=>pp (convert 3 148 t14) fun t15=>pp (convert 3 148 t1) fun t17=>ca qz #[t15,t17] w4 fun t18 w6=>
 pe t18 0 fun t19=>pe t18 1 fun t20=>za (fun K7=>
 bt .gtr 148 t19 (Value.int .u64 0) fun t22=>za (fun K11=>gIf t22 false (bt .gtr 148 t20 (Value.int .u64 9223372036854775807) fun t25=>K11 [t25] w6) (K11 [undef] w6)) (fun s12 _d13 w14=>
 zb t22 tr_ (s12.getD 0 undef) fun t26=>zc t26 (pp (Instr.makeInterface 9 (Value.string { data:=#[116,104,101,32,114,101,115,117,108,116,32,111,102,32,40,108,101,110,40,120,41,32,42,32,99,111,117,110,116,41,32,111,118,101,114,102,108,111,119,115] })) fun _t27=>False) (K7 [] w14))) (fun _s8 _d9 w10=>
 pp (convert 148 3 t20) fun t29=>pw w10 (Instr.makeSlice 28 t29 t29) fun t30 w16=>
 pw w16 (Builtin.copy_ #[28,28] 3 #[t30,t0]) fun t33 w17=>
 zo [t33] w17 (fun s19 _d20 w21 K18=>
 pp (Builtin.len_ #[28] 3 #[t30]) fun t36=>bf .lss 3 (s19.getD 0 undef) t36 fun t37=>zc t37 (pp (Instr.sliceAt 28 t30 (some (s19.getD 0 undef)) none none) fun t41=>pp (Instr.sliceAt 28 t30 none (some (s19.getD 0 undef)) none) fun t44=>pw w21.drew (Builtin.copy_ #[28,28] 3 #[t41,t44]) fun t45 w22=>
 bf .add 3 (s19.getD 0 undef) t45 fun t46=>K18 [t46] w22) (K t30 w21))))
theorem vB {t0 t1 : Value} {w : World} {K : VW} (h : kA t0 t1 w K) : ze prog yR #[t0,t1] w K:=
 okC false (.s (.r (rz 1 0 0)) (.j [] (.s (.r (rz 2 0 0)) (.c (.r (rz 2 0 8)) (.n))) (.s (.r (rz 11 0 2048)) (.j [] (.s (.r (ra 3 0 0 (.grp 23 false (ri 2 3 0) [25] (rz 1 5 0)))) (.c (.r (rz 2 0 8)) (.n))) (.s (.r (rz 4 0 32)) (.s (.r (rz 4 0 32)) (.s (.b (.lp [8] (.s (.s (.r (rz 4 0 0)) (.c (.n) (.n))) (.b (.r (rz 10 0 32768)))))) (.s (.r (rz 2 0 0)) (.n))))))))) func68 rfl (by kernel_rfl) (by kernel_rfl) h
def xV (t0 t1 : Value) (w : World) (K : VW) : Prop:=
 za (fun K1=>
 bt .lss 3 t1 (i6 0) fun t10=>zc t10 (pp (Instr.makeInterface 9 (Value.string { data:=#[99,97,110,110,111,116,32,98,101,32,110,101,103,97,116,105,118,101] })) fun _t11=>False) (K1 [] w)) (fun _s2 _d3 w4=>
 pp (Builtin.len_ #[75] 3 #[t0]) fun t14=>pp (convert 3 148 t14) fun t15=>pp (convert 3 148 t1) fun t17=>ca qz #[t15,t17] w4 fun t18 w6=>
 pe t18 0 fun t19=>pe t18 1 fun t20=>za (fun K7=>
 bt .gtr 148 t19 (Value.int .u64 0) fun t22=>za (fun K11=>gIf t22 false (bt .gtr 148 t20 (Value.int .u64 9223372036854775807) fun t25=>K11 [t25] w6) (K11 [undef] w6)) (fun s12 _d13 w14=>
 zb t22 tr_ (s12.getD 0 undef) fun t26=>zc t26 (pp (Instr.makeInterface 9 (Value.string { data:=#[116,104,101,32,114,101,115,117,108,116,32,111,102,32,40,108,101,110,40,120,41,32,42,32,99,111,117,110,116,41,32,111,118,101,114,102,108,111,119,115] })) fun _t27=>False) (K7 [] w14))) (fun _s8 _d9 w10=>
 pp (convert 148 3 t20) fun t29=>pw w10 (Instr.makeSlice 75 t29 t29) fun t30 w16=>
 pw w16 (Builtin.copy_ #[75,75] 3 #[t30,t0]) fun t33 w17=>
 zo [t33] w17 (fun s19 _d20 w21 K18=>
 pp (Builtin.len_ #[75] 3 #[t30]) fun t36=>bf .lss 3 (s19.getD 0 undef) t36 fun t37=>zc t37 (pp (Instr.sliceAt 75 t30 (some (s19.getD 0 undef)) none none) fun t41=>pp (Instr.sliceAt 75 t30 none (some (s19.getD 0 undef)) none) fun t44=>pw w21.drew (Builtin.copy_ #[75,75] 3 #[t41,t44]) fun t45 w22=>
 bf .add 3 (s19.getD 0 undef) t45 fun t46=>K18 [t46] w22) (K t30 w21))))
theorem jG {t0 t1 : Value} {w : World} {K : VW} (h : xV t0 t1 w K) : ze prog yi #[t0,t1] w K:=
 okC false (.s (.r (rz 1 0 0)) (.j [] (.s (.r (rz 2 0 0)) (.c (.r (rz 2 0 8)) (.n))) (.s (.r (rz 11 0 2048)) (.j [] (.s (.r (ra 3 0 0 (.grp 23 false (ri 2 3 0) [25] (rz 1 5 0)))) (.c (.r (rz 2 0 8)) (.n))) (.s (.r (rz 4 0 32)) (.s (.r (rz 4 0 32)) (.s (.b (.lp [8] (.s (.s (.r (rz 4 0 0)) (.c (.n) (.n))) (.b (.r (rz 10 0 32768)))))) (.s (.r (rz 2 0 0)) (.n))))))))) func97 rfl (by kernel_rfl) (by kernel_rfl) h
def ke (t0 t1 : Value) (w : World) (K : VW) : Prop:=
 pp (Builtin.len_ #[75] 3 #[t0]) fun t7=>pp (Builtin.len_ #[75] 3 #[t1]) fun t9=>bf .neq 3 t7 t9 fun t10=>zc t10 (K fa_ w) (pp (Builtin.len_ #[75] 3 #[t0]) fun t12=>zo [(i6 0)] w (fun s2 _d3 w4 K1=>
 bf .lss 3 (s2.getD 0 undef) t12 fun t14=>zc t14 (xl w4.drew 75 t0 (s2.getD 0 undef) 4 fun t19=>xl w4.drew 75 t1 (s2.getD 0 undef) 4 fun t23=>bf .neq 4 t19 t23 fun t24=>zc t24 (K fa_ w4.drew) (bt .add 3 (s2.getD 0 undef) (i6 1) fun t25=>K1 [t25] w4.drew)) (K tr_ w4)))
theorem j0 {t0 t1 : Value} {w : World} {K : VW} (h : ke t0 t1 w K) : ze prog yP #[t0,t1] w K:=
 okC false (.s (.r (rz 1 0 0)) (.s (.s (.r (rz 5 0 0)) (.c (.s (.r (rz 1 0 0)) (.n)) (.n))) (.s (.s (.r (rz 3 0 0)) (.b (.lp [13] (.s (.r (rz 1 0 0)) (.s (.c (.n) (.n)) (.s (.b (.s (.r (rz 2 0 0)) (.s (.r (rz 9 0 16448)) (.c (.s (.r (rz 1 0 0)) (.n)) (.n))))) (.r (rz 2 0 0)))))))) (.s (.r (rz 1 0 0)) (.n))))) func98 rfl (by kernel_rfl) (by kernel_rfl) h
end Go.Proofs.Tryz
end
section
namespace Go.Proofs
open Go.Sh Go.RowKit
set_option maxRecDepth 100000
set_option linter.unusedSimpArgs false
set_option linter.unusedVariables false
def kV (c : List Value) (x : Bool) : Prop:=c = [.bool x]
def bls (m : List Bool) : List Value:=m.map Value.bool
theorem kr {m : List Bool} : (bls m).length=m.length:=List.length_map _
theorem ju {m : List Bool} : RowOf 1 kV (bls m) m:=⟨by rw [kr,Nat.mul_one],fun j hj=>by
 rw [Nat.mul_one,bls,← List.map_drop,← List.map_take,List.drop_eq_getElem_cons hj];rfl⟩
theorem xa {l : List Int} : RowOf 1 zu (ints l) l:=⟨by rw [yz,Nat.mul_one],fun j hj=>by
 rw [Nat.mul_one,ints,← List.map_drop,← List.map_take,List.drop_eq_getElem_cons hj];rfl⟩
theorem acP {α : Type} {r : Gh} {V : α→Value} {p : Option Addr} {n cap : Nat} {l : List α} (h : SlG 1 r (fun c x=>c = [V x]) (.slice p n cap) l) {i : Nat} (hi : i<l.length) :
  ∃ b off,p=some ⟨b,off,none⟩∧n=l.length∧Ob r fun w=>w.cell? ⟨b,off+i,none⟩=some (V l[i]):=by
 have hsh:=h.shape
 obtain ⟨p',cap',e,_,_⟩:=hsh
 obtain ⟨b,off,c,hE,hc,hcc,hcl⟩:=h.get (by decide) hi
 obtain rfl : c=_:=hcc
 cases e
 cases hE
 refine ⟨b,off,rfl,rfl,?_⟩
 have:=hcl 0 _ rfl
 rwa [show off+i*1+0=off+i by omega] at this
theorem zw {r : Gh} {p : Option Addr} {n cap : Nat} {l : List Int} (h : SlG 1 r zu (.slice p n cap) l) {i : Nat} (hi : i<l.length) : ∃ b off,p=some ⟨b,off,none⟩∧n=l.length∧Ob r fun w=>w.cell? ⟨b,off+i,none⟩=some (.int .i64 l[i]):=acP (V:=Value.int .i64) h hi
theorem ZL {r : Gh} {p : Option Addr} {n cap : Nat} {l : List Bool} (h : SlG 1 r kV (.slice p n cap) l) {i : Nat} (hi : i<l.length) : ∃ b off,p=some ⟨b,off,none⟩∧n=l.length∧Ob r fun w=>w.cell? ⟨b,off+i,none⟩=some (.bool l[i]):=acP (V:=Value.bool) h hi
theorem aaQ {l : List Int} {x : Int} {v : Value} {w : World} {r : Gh} {K : Value→World→Prop} (hr : Holds r w) (hl : SlG 1 r zu v l) (hf : l.length≤maxLen)
  (h : ∀ i : Int,(0≤i↔x ∈ l)→K (.int .i64 i) w) : ze Tryz.prog Tryz.y8 #[v,.int .i64 x] w K:=by
 refine Tryz.vN ?_
 unfold Tryz.kL
 obtain ⟨p,cap,rfl,_,_⟩:=hl.shape
 have hf : l.length≤9223372036854775807:=hf
 refine gp_ ?_
 refine zh (ι:=Nat) (fun i=>[.int .i64 (i : Nat)]) (fun i w'=>w'=w∧i≤l.length∧x ∉ l.take i) (fun i=>l.length - i) 0 rfl ⟨rfl,Nat.zero_le _,by simp⟩ ?_
 rintro i d w' ⟨rfl,hi,hn⟩ K1 hK1
 simp only [List.getD_cons_zero]
 refine gp_ ?_
 refine zm (fun hlt=>?_) (fun hge=>?_)
 ·have hlt : i<l.length:=by omega
  obtain ⟨b,off,rfl,_,hc⟩:=zw hl hlt
  refine gp_ ?_
  refine zj (by rw [Int.toNat_natCast];exact hc _ hr) ?_
  refine gp_ ?_
  refine zm (fun he=>?_) (fun he=>?_)
  ·exact h _ ⟨fun _=>by rw [he];exact List.getElem_mem hlt,fun _=>Int.natCast_nonneg _⟩
  ·refine gp_ ?_
   refine hK1 (i+1) _ ⟨rfl,hlt,?_⟩ (by omega)
   rw [List.take_succ_eq_append_getElem hlt,List.mem_append,List.mem_singleton]
   exact fun h=>h.elim hn he
 ·have : i=l.length:=by omega
  subst this
  rw [List.take_length] at hn
  exact h _ ⟨fun h=>by omega,fun h=>absurd h hn⟩
theorem kt {l : List Int} {x : Int} {v : Value} {w : World} {r : Gh} {K : Value→World→Prop} (hr : Holds r w) (hl : SlG 1 r zu v l) (hf : l.length≤maxLen)
  (h : K (.bool (decide (x ∈ l))) w) : ze Tryz.prog Tryz.zL #[v,.int .i64 x] w K:=by
 refine Tryz.jF ?_
 unfold Tryz.xU
 refine aaQ hr hl hf fun i hi=>?_
 refine gp_ ?_
 have e : decide (0≤i)=decide (x ∈ l):=by
  rw [decide_eq_decide];exact hi
 rw [e];exact h
theorem aam {l m : List Bool} {v u : Value} {w : World} {r : Gh} {K : Value→World→Prop} (hr : Holds r w) (hl : SlG 1 r kV v l) (hm : SlG 1 r kV u m) (hf : l.length≤maxLen)
  (h : ∀ w',Ext w w'→K (.bool (decide (l=m))) w') : ze Tryz.prog Tryz.yP #[v,u] w K:=by
 refine Tryz.j0 ?_
 unfold Tryz.ke
 obtain ⟨p,cap,rfl,_,_⟩:=hl.shape
 obtain ⟨q,cap',rfl,_,_⟩:=hm.shape
 have hf : l.length≤9223372036854775807:=hf
 have S:=St.start hr
 refine gg_ ?_
 refine zm (fun hne=>?_) (fun heq=>?_)
 ·have:=h w (.refl _)
  rwa [decide_eq_false (fun e=>hne (by rw [e]))] at this
 have hll : l.length=m.length:=by omega
 refine gp_ ?_
 refine zh (ι:=Nat) (fun i=>[.int .i64 (i : Nat)]) (fun i w'=>StX noX w r w' []∧i≤l.length∧l.take i=m.take i) (fun i=>l.length - i) 0 rfl ⟨S,Nat.zero_le _,by simp⟩ ?_
 clear S
 rintro i d w' ⟨S,hi,he⟩ K1 hK1
 simp only [List.getD_cons_zero]
 refine gp_ ?_
 refine zm (fun hlt=>?_) (fun hge=>?_)
 ·have hlt : i<l.length:=by omega
  have S:=S.go (Ext.drew _)
  obtain ⟨b,off,rfl,_,hc⟩:=ZL hl hlt
  obtain ⟨b',off',rfl,_,hc'⟩:=ZL hm (i:=i) (by omega)
  refine gg_ ?_
  refine zj (by rw [Int.toNat_natCast];exact S.at hc) ?_
  refine gg_ ?_
  refine zj (by rw [Int.toNat_natCast];exact S.at hc') ?_
  refine gg_ ?_
  refine c_b (fun hne=>?_) (fun heq=>?_)
  ·have:=h _ S.ext
   rwa [decide_eq_false (fun e=>by subst e;simp at hne)] at this
  ·refine gg_ ?_
   refine hK1 (i+1) _ ⟨S,hlt,?_⟩ (by omega)
   rw [List.take_succ_eq_append_getElem hlt,List.take_succ_eq_append_getElem (by omega),he]
   have : l[i]=m[i]'(by omega):=by simpa using heq
   rw [this]
 ·have : i=l.length:=by omega
  subst this
  rw [List.take_length,hll,List.take_length] at he
  have:=h _ S.ext
  rwa [decide_eq_true he] at this
theorem XQ {l : List Int} {v : Value} {w0 w : World} {r : Gh} {L : List Asr} {X : Nat→Prop} {K : Value→World→Prop} (S : StX X w0 r w L) (hl : SlG 1 r zu v l) (hf : l.length≤1000000)
  (h : ∀ v' w',StX X w0 r w' (.row v' 3 1 l.length (ints l)::L)→K v' w') : ze Tryz.prog Tryz.y9 #[v] w K:=by
 obtain ⟨p,cap,rfl,hp,_⟩:=hl.shape
 by_cases h0 : l = []
 ·subst h0
  cases p with
  |none=>
   have:=hp rfl;subst this
   refine Calls.mono (Any.slices_Clone_int_nil Tryz.YO 0 0 w) ?_
   rintro e w' ⟨rfl,rfl⟩
   exact ⟨_,rfl,h _ _ (S.ownNil 3 1)⟩
  |some a=>
   refine Calls.mono (Any.slices_Clone_int_zero Tryz.YO a cap w) ?_
   rintro e w' ⟨v',rfl,ho,_,hB⟩
   have hE : Ext w w':=⟨hB.os,hB.tape,hB.output,hB.size,hB.block⟩
   exact ⟨_,rfl,h _ _ (S.take hE ho)⟩
 ·obtain ⟨b,off,rfl,_,_⟩:=zw hl (i:=0) (List.length_pos_iff.2 h0)
  refine Calls.mono (Any.slices_Clone_int Tryz.YO b off l.length cap l w (Nat.le_refl _) (by omega) fun j hj=>?_) ?_
  ·obtain ⟨b',off',hE,_,hc⟩:=zw hl hj
   cases hE
   rw [S.at hc,List.getD_eq_getElem?_getD,List.getElem?_eq_getElem hj];rfl
  rintro e w' ⟨v',rfl,ho,_,hB⟩
  have hE : Ext w w':=⟨hB.os,hB.tape,hB.output,hB.size,hB.block⟩
  rw [List.take_length] at ho
  exact ⟨_,rfl,h _ _ (S.take hE ho)⟩
theorem QV {x y : Nat} {w : World} {K : Value→World→Prop} (hx : x<4294967296) (hy : y<4294967296)
  (h : K (.tuple #[.int .u64 0,.int .u64 (x*y : Nat)]) w) : ze Tryz.prog Tryz.qz #[.int .u64 (x : Nat),.int .u64 (y : Nat)] w K:=by
 refine Calls.mono (Any.bits_Mul Tryz.aeT x y (by omega) (by omega) w) ?_
 rintro e w' ⟨rfl,rfl⟩
 have h1 : x*y<18446744073709551616:=Nat.lt_of_lt_of_le (Nat.mul_lt_mul'' hx hy) (by decide)
 rw [Nat.div_eq_of_lt h1,Nat.mod_eq_of_lt h1]
 exact ⟨_,rfl,h⟩
theorem Vo {v : Value} {l : List Int} {w0 w : World} {r : Gh} {L : List Asr} {X : Nat→Prop} {K : Value→World→Prop} (S : StX X w0 r w (.row v 3 1 l.length (ints l)::L)) (hl : l.length<4611686018427387904)
  (h : ∀ w',StX X w0 r w' (.row v 3 1 l.length (ints l.reverse)::L)→K (.tuple #[]) w') : ze Tryz.prog Tryz.x9 #[v] w K:=by
 have hr : w.ownsRow 0 3 1 v l.length (ints l):=S.has _ (List.mem_cons_self ..)
 rcases ki hr with ⟨rfl,h1,h2⟩|⟨g,cap,c,rfl,hg,B,hn,hm,hcl,ht⟩
 ·have hl0 : l = []:=List.eq_nil_of_length_eq_zero h1
  subst hl0
  refine Calls.mono (Any.slices_Reverse_int_empty Tryz.aa9 none 0 w) ?_
  rintro e w' ⟨rfl,rfl⟩
  exact ⟨_,rfl,h _ (by simpa using S)⟩
 ·rw [Nat.mul_one] at hcl ht
  have hcell : ∀ j,j<l.length→w.cell? ⟨g,j,none⟩=some (.int .i64 l[j]!):=fun j hj=>by
   have : (c.take l.length)[j]? = some (.int .i64 l[j]!):=by
    rw [ht,ints,List.getElem?_map,List.getElem?_eq_getElem hj,getElem!_pos l j hj];rfl
   rw [List.getElem?_take,if_pos hj] at this
   rw [B.cell];exact this
  have hfz : ∀ j,w.frozen? ⟨g,j,none⟩=false:=fun j=>B.unfrozen j
  refine Calls.mono (Any.slices_Reverse_int Tryz.aa9 g 0 cap l w (fun j hj=>⟨?_,hfz _⟩) (by omega)) ?_
  ·have hj : j<l.length:=by simpa using hj
   rw [Nat.zero_add,hcell j hj]
   simp [getElem!_pos,hj]
  rintro e w' ⟨rfl,q,hw⟩
  obtain ⟨hE,hB⟩:=J0 (w':=w') (q:=q) (d:=l.reverse.toArray) (os:=#[]) B (by simp;omega) (by rw [hw];simp [Sort.grow];rfl)
  refine ⟨_,rfl,h w' ?_⟩
  refine S.turn (p:=[]) (x:=.row (.slice (some ⟨g,0,none⟩) l.length cap) 3 1 l.length (ints l)) (y:=.row (.slice (some ⟨g,0,none⟩) l.length cap) 3 1 l.length (ints l.reverse)) ?_ ?_ fun k hk=>.inl hk
  ·exact hE.mono fun k _ hk=>by subst hk;rfl
  ·have:=jV (base:=0) (e:=3) (size:=1) (n:=l.length) (cap:=cap) (Nat.zero_le _) hB hn hm (by simp;omega)
   have e : (l.reverse.toArray.toList.map (Value.int .i64)++c.drop l.reverse.toArray.size).take (l.length*1)=ints l.reverse:=by
    rw [Nat.mul_one,List.take_append_of_le_length (by simp)]
    exact List.take_of_length_le (by simp)
   rwa [e] at this
theorem Yj {z : Bool} {n sb : Nat} {T : TypeId} {w0 w : World} {r : Gh} {L : List Asr} {X : Nat→Prop} {K : Value→World→Prop} {f : List Value→List Asr} (S : StX X w0 r w L) [hA : At sb L [Value.bool z] T f] (h1 : 1≤n) (h2 : n≤100000)
  (h : ∀ b w',StX X w0 r w' (.cell b (List.replicate n (Value.bool z)) 4::L)→K (.slice (some ⟨b,0,none⟩) n n) w') : ze Tryz.prog Tryz.yi #[.slice (some ⟨sb,0,none⟩) 1 1,.int .i64 (n : Nat)] w K:=by
 refine Tryz.jG ?_
 unfold Tryz.xV
 refine zs (fun s w'=>s = []∧w'=w) (fun K1 hK1=>?_) ?_
 ·refine gg_ ?_
  refine zm (fun hn=>by omega) (fun _=>?_)
  exact hK1 _ _ ⟨rfl,rfl⟩
 rintro s w' ⟨rfl,rfl⟩ d
 refine gg_ ?_
 refine QV (x:=1) (y:=n) (by decide) (by omega) ?_
 rw [Nat.one_mul]
 refine gS_ ?_
 refine zs (fun s w''=>s = []∧w''=w') (fun K7 hK7=>?_) ?_
 ·refine gg_ ?_
  refine zk (c:=false) (fun _ K2 hK2=>?_) ?_
  ·refine gg_ ?_
   rw [decide_eq_false (by omega)]
   exact hK2
  refine c_f (by simp) ?_
  exact hK7 _ _ ⟨rfl,rfl⟩
 rintro s w'' ⟨rfl,rfl⟩ d
 refine gg_ ?_
 refine S.mkS (by omega) (by omega) fun b w1 S=>?_
 rw [Int.toNat_natCast] at S ⊢
 refine S.cpM (b:=b) (cs:=[Value.bool z]) (by rw [List.length_singleton];exact (Nat.min_eq_left h1).symm) (fun j v hj=>?_) (by rw [List.length_singleton,List.length_replicate];omega) (by simp [Value.oneCell']) fun w2 S=>?_
 ·have B:=S.blk sb
  rw [Nat.zero_add,B.cell];exact hj
 have S : StX X w0 r w2 (.cell b (List.replicate 1 (Value.bool z)++List.replicate (n - 1) (Value.bool false)) 4::L):=by
  have e : (List.replicate n (Value.bool false)).take 0 ++ [Value.bool z]++(List.replicate n (Value.bool false)).drop (0 + [Value.bool z].length)=List.replicate 1 (Value.bool z)++List.replicate (n - 1) (Value.bool false):=by simp
  rw [← e];exact S
 refine zh (ι:=Nat) (fun k=>[.int .i64 (k : Nat)]) (fun k w'=>1≤k∧k≤n∧StX X w0 r w' (.cell b (List.replicate k (Value.bool z)++List.replicate (n - k) (Value.bool false)) 4::L)) (fun k=>n - k) 1 rfl ⟨Nat.le_refl _,h1,S⟩ ?_
 repeat clear S
 rintro k d w3 ⟨hk1,hk2,S⟩ K18 hK18
 simp only [List.getD_cons_zero]
 refine gg_ ?_
 refine zm (fun hlt=>?_) (fun hge=>?_)
 ·have hlt : k<n:=by omega
  have S:=S.go (Ext.drew _)
  refine gp_ ?_
  refine gp_ ?_
  rw [if_neg (by omega),Option.map_some,yx,Int.toNat_natCast]
  refine S.cpM (b:=b) (cs:=List.replicate (min k (n - k)) (Value.bool z)) (by rw [List.length_replicate]) (fun j v hj=>?_) (by simp only [List.length_replicate,List.length_append];omega) (fun v hv=>by rw [(List.mem_replicate.1 hv).2];rfl) fun w4 S=>?_
  ·have B:=S.blk b
   rw [List.getElem?_replicate] at hj
   split at hj
   ·rw [Nat.zero_add,B.cell,List.getElem?_append_left (by rw [List.length_replicate];omega),List.getElem?_replicate,if_pos (by omega)];exact hj
   ·cases hj
  rw [List.length_replicate]
  refine gp_ ?_
  refine hK18 (k+min k (n - k)) _ ⟨by omega,by omega,?_⟩ (by omega)
  have e : (List.replicate k (Value.bool z)++List.replicate (n - k) (Value.bool false)).take (0+k*1)++List.replicate (min k (n - k)) (Value.bool z)++(List.replicate k (Value.bool z)++List.replicate (n - k) (Value.bool false)).drop (0+k*1+(List.replicate (min k (n - k)) (Value.bool z)).length)=List.replicate (k+min k (n - k)) (Value.bool z)++List.replicate (n - (k+min k (n - k))) (Value.bool false):=by
   rw [Nat.zero_add,Nat.mul_one,List.length_replicate,List.take_left' (by simp),List.drop_append,List.drop_of_length_le (by simp),List.length_replicate,List.nil_append,List.drop_replicate,← List.replicate_append_replicate]
   congr 2;omega
  rw [← e];exact S
 have hke : k=n:=by omega
 subst hke
 rw [Nat.sub_self,List.replicate_zero,List.append_nil] at S
 exact h _ _ S
theorem aan {z : Int} {n sb : Nat} {T : TypeId} {w0 w : World} {r : Gh} {L : List Asr} {X : Nat→Prop} {K : Value→World→Prop} {f : List Value→List Asr} (S : StX X w0 r w L) [hA : At sb L [Value.int .i64 z] T f] (h1 : 1≤n) (h2 : n≤100000)
  (h : ∀ b w',StX X w0 r w' (.cell b (List.replicate n (Value.int .i64 z)) 3::L)→K (.slice (some ⟨b,0,none⟩) n n) w') : ze Tryz.prog Tryz.yR #[.slice (some ⟨sb,0,none⟩) 1 1,.int .i64 (n : Nat)] w K:=by
 refine Tryz.vB ?_
 unfold Tryz.kA
 refine zs (fun s w'=>s = []∧w'=w) (fun K1 hK1=>?_) ?_
 ·refine gg_ ?_
  refine zm (fun hn=>by omega) (fun _=>?_)
  exact hK1 _ _ ⟨rfl,rfl⟩
 rintro s w' ⟨rfl,rfl⟩ d
 refine gg_ ?_
 refine QV (x:=1) (y:=n) (by decide) (by omega) ?_
 rw [Nat.one_mul]
 refine gS_ ?_
 refine zs (fun s w''=>s = []∧w''=w') (fun K7 hK7=>?_) ?_
 ·refine gg_ ?_
  refine zk (c:=false) (fun _ K2 hK2=>?_) ?_
  ·refine gg_ ?_
   rw [decide_eq_false (by omega)]
   exact hK2
  refine c_f (by simp) ?_
  exact hK7 _ _ ⟨rfl,rfl⟩
 rintro s w'' ⟨rfl,rfl⟩ d
 refine gg_ ?_
 refine S.mkS (by omega) (by omega) fun b w1 S=>?_
 rw [Int.toNat_natCast] at S ⊢
 refine S.cpM (b:=b) (cs:=[Value.int .i64 z]) (by rw [List.length_singleton];exact (Nat.min_eq_left h1).symm) (fun j v hj=>?_) (by rw [List.length_singleton,List.length_replicate];omega) (by simp [Value.oneCell']) fun w2 S=>?_
 ·have B:=S.blk sb
  rw [Nat.zero_add,B.cell];exact hj
 have S : StX X w0 r w2 (.cell b (List.replicate 1 (Value.int .i64 z)++List.replicate (n - 1) (Value.int .i64 0)) 3::L):=by
  have e : (List.replicate n (Value.int .i64 0)).take 0 ++ [Value.int .i64 z]++(List.replicate n (Value.int .i64 0)).drop (0 + [Value.int .i64 z].length)=List.replicate 1 (Value.int .i64 z)++List.replicate (n - 1) (Value.int .i64 0):=by simp
  rw [← e];exact S
 refine zh (ι:=Nat) (fun k=>[.int .i64 (k : Nat)]) (fun k w'=>1≤k∧k≤n∧StX X w0 r w' (.cell b (List.replicate k (Value.int .i64 z)++List.replicate (n - k) (Value.int .i64 0)) 3::L)) (fun k=>n - k) 1 rfl ⟨Nat.le_refl _,h1,S⟩ ?_
 repeat clear S
 rintro k d w3 ⟨hk1,hk2,S⟩ K18 hK18
 simp only [List.getD_cons_zero]
 refine gg_ ?_
 refine zm (fun hlt=>?_) (fun hge=>?_)
 ·have hlt : k<n:=by omega
  have S:=S.go (Ext.drew _)
  refine gp_ ?_
  refine gp_ ?_
  rw [if_neg (by omega),Option.map_some,yx,Int.toNat_natCast]
  refine S.cpM (b:=b) (cs:=List.replicate (min k (n - k)) (Value.int .i64 z)) (by rw [List.length_replicate]) (fun j v hj=>?_) (by simp only [List.length_replicate,List.length_append];omega) (fun v hv=>by rw [(List.mem_replicate.1 hv).2];rfl) fun w4 S=>?_
  ·have B:=S.blk b
   rw [List.getElem?_replicate] at hj
   split at hj
   ·rw [Nat.zero_add,B.cell,List.getElem?_append_left (by rw [List.length_replicate];omega),List.getElem?_replicate,if_pos (by omega)];exact hj
   ·cases hj
  rw [List.length_replicate]
  refine gp_ ?_
  refine hK18 (k+min k (n - k)) _ ⟨by omega,by omega,?_⟩ (by omega)
  have e : (List.replicate k (Value.int .i64 z)++List.replicate (n - k) (Value.int .i64 0)).take (0+k*1)++List.replicate (min k (n - k)) (Value.int .i64 z)++(List.replicate k (Value.int .i64 z)++List.replicate (n - k) (Value.int .i64 0)).drop (0+k*1+(List.replicate (min k (n - k)) (Value.int .i64 z)).length)=List.replicate (k+min k (n - k)) (Value.int .i64 z)++List.replicate (n - (k+min k (n - k))) (Value.int .i64 0):=by
   rw [Nat.zero_add,Nat.mul_one,List.length_replicate,List.take_left' (by simp),List.drop_append,List.drop_of_length_le (by simp),List.length_replicate,List.nil_append,List.drop_replicate,← List.replicate_append_replicate]
   congr 2;omega
  rw [← e];exact S
 have hke : k=n:=by omega
 subst hke
 rw [Nat.sub_self,List.replicate_zero,List.append_nil] at S
 exact h _ _ S
end Go.Proofs
end
section
namespace Go.Proofs
set_option linter.unusedVariables false
set_option linter.unusedSimpArgs false
abbrev zr : Int→Prop:=fun _=>False
def Dom (n : zd) (p q : Int) : Prop:=p=q∨p=0∨¬ Rchd n (· = p) 0 q
def befN (n : zd) (q : Int) : List Int:=((List.range n.length).filter fun p=>(n.getD p []).contains q).map Int.ofNat
theorem qU {n : zd} {q p : Int} : p ∈ befN n q↔isN n p∧q ∈ nxt n p:=by
 rw [befN,List.mem_map]
 constructor
 ·rintro ⟨i,hi,rfl⟩
  rw [List.mem_filter,List.mem_range,List.contains_iff_mem] at hi
  exact ⟨⟨Int.natCast_nonneg i,by rw [Int.ofNat_eq_natCast];omega⟩,hi.2⟩
 ·rintro ⟨⟨h0,h1⟩,h⟩
  refine ⟨p.toNat,?_,Int.toNat_of_nonneg h0⟩
  rw [List.mem_filter,List.mem_range,List.contains_iff_mem]
  exact ⟨by omega,h⟩
abbrev yd:=List (Option (List Bool))
def rwA (R : yd) (q : Int) : Option (List Bool):=R.getD q.toNat none
def rwH (R : yd) (p i : Int) : Bool:=match rwA R p with|some m=>mk' m i|none=>true
def rwF (n : zd) (R : yd) (q : Int) : List Bool:=(List.range n.length).map fun (i : Nat)=>decide ((i : Int)=q)||(befN n q).all fun p=>rwH R p i
theorem j5 {n : zd} {R : yd} {q : Int} : (rwF n R q).length=n.length:=by simp [rwF]
theorem QW {n : zd} {R : yd} {q i : Int} (hi : isN n i) : mk' (rwF n R q) i=true↔i=q∨∀ p ∈ befN n q,rwH R p i=true:=by
 have h0:=hi.1;have h1:=hi.2
 rw [mk',rwF,List.getD_eq_getElem?_getD,List.getElem?_map,List.getElem?_range (by omega)]
 simp [Int.toNat_of_nonneg h0]
def rwW (R : yd) : Nat:=(R.map fun o=>match o with|some m=>m.countP id|none=>0).sum
structure Abv (n : zd) (R : yd) : Prop where
 len : R.length=n.length
 rows : ∀ q m,rwA R q=some m→m.length=n.length
 some' : ∀ q,isN n q→((rwA R q).isSome=true↔Rchd n zr 0 q)
 zero : rwA R 0=some (zA (List.replicate n.length false) 0)
 sound : ∀ q m,isN n q→rwA R q=some m→∀ i,isN n i→Dom n i q→mk' m i=true
 post : ∀ q m,isN n q→q≠0→rwA R q=some m→∀ i,isN n i→mk' (rwF n R q) i=true→mk' m i=true
theorem aeU {R : yd} {q x : Int} {o : Option (List Bool)} (hq : 0≤q) (hq2 : q<R.length) (hx : 0≤x) : rwA (R.set q.toNat o) x=if x=q then o else rwA R x:=by
 rw [rwA,List.getD_eq_getElem?_getD,List.getElem?_set]
 by_cases h : x=q
 ·subst h;rw [if_pos rfl,if_pos rfl,if_pos (by omega)];rfl
 ·rw [if_neg (by omega),if_neg h];rw [rwA,List.getD_eq_getElem?_getD]
theorem J1 : ∀ {a b : List Bool},a.length=b.length→(∀ i,a.getD i false=true→b.getD i false=true)→a.countP id≤b.countP id∧(a≠b→a.countP id<b.countP id)
 |[],[],_,_=>⟨Nat.le_refl _,fun h=>absurd rfl h⟩
 |x::a,y::b,hl,h=>by
  have ih:=J1 (a:=a) (b:=b) (by simpa using hl) fun i hi=>by simpa using h (i+1) (by simpa using hi)
  have h0:=h 0
  simp only [List.getD_cons_zero] at h0
  simp only [List.countP_cons,id]
  cases x with
  |true=>
   rw [h0 rfl]
   refine ⟨by have:=ih.1;simp;omega,fun hne=>?_⟩
   have:=ih.2 fun e=>hne (by rw [e])
   simp;omega
  |false=>
   cases y with
   |true=>refine ⟨by have:=ih.1;simp;omega,fun _=>by have:=ih.1;simp;omega⟩
   |false=>
    refine ⟨by have:=ih.1;simp;omega,fun hne=>?_⟩
    have:=ih.2 fun e=>hne (by rw [e])
    simp;omega
theorem aba : ∀ {l : List Nat} {k v : Nat},k<l.length→(l.set k v).sum+l.getD k 0=l.sum+v
 |[],k,v,h=>by simp at h
 |a::l,0,v,h=>by simp;omega
 |a::l,k+1,v,h=>by
  have:=aba (l:=l) (k:=k) (v:=v) (by simpa using h)
  simp only [List.set_cons_succ,List.sum_cons,List.getD_cons_succ]
  omega
theorem aeV {R : yd} {q : Int} {m m' : List Bool} (hq : q.toNat<R.length) (h : rwA R q=some m) : rwW (R.set q.toNat (some m'))+m.countP id=rwW R+m'.countP id:=by
 rw [rwW,rwW,List.map_set]
 have:=aba (l:=R.map fun o=>match o with|some m=>m.countP id|none=>0) (k:=q.toNat) (v:=m'.countP id) (by rw [List.length_map];exact hq)
 rw [rwA,List.getD_eq_getElem?_getD,List.getElem?_eq_getElem hq,Option.getD_some] at h
 have e : (R.map fun o=>match o with|some m=>m.countP id|none=>0).getD q.toNat 0=m.countP id:=by
  rw [List.getD_eq_getElem?_getD,List.getElem?_map,List.getElem?_eq_getElem hq,h];rfl
 rw [e] at this
 exact this
theorem Abv.turn {n : zd} (hn : zM n) {R : yd} (h : Abv n R) {q : Int} {m : List Bool} (hq : isN n q) (hq0 : q≠0) (hm : rwA R q=some m) :
  Abv n (R.set q.toNat (some (rwF n R q)))∧rwW (R.set q.toNat (some (rwF n R q)))≤rwW R∧(rwF n R q≠m→rwW (R.set q.toNat (some (rwF n R q)))<rwW R):=by
 have q0:=hq.1
 have q1 : q<R.length:=by rw [h.len];exact hq.2
 have hset : ∀ {x : Int},0≤x→rwA (R.set q.toNat (some (rwF n R q))) x=if x=q then some (rwF n R q) else rwA R x:=fun hx=>aeU q0 q1 hx
 have hsub : ∀ i,isN n i→mk' (rwF n R q) i=true→mk' m i=true:=h.post q m hq hq0 hm
 have hH : ∀ p i,isN n p→isN n i→rwH (R.set q.toNat (some (rwF n R q))) p i=true→rwH R p i=true:=fun p i hp hi hh=>by
  rw [rwH,hset hp.1] at hh
  by_cases e : p=q
  ·subst e
   rw [if_pos rfl] at hh
   rw [rwH,hm]
   exact hsub i hi hh
  ·rw [if_neg e] at hh;exact hh
 have hF : ∀ x i,isN n i→mk' (rwF n (R.set q.toNat (some (rwF n R q))) x) i=true→mk' (rwF n R x) i=true:=fun x i hi hh=>by
  rw [QW hi] at hh ⊢
  rcases hh with e|hh
  ·exact .inl e
  ·exact .inr fun p hp=>hH p i (qU.1 hp).1 hi (hh p hp)
 have hml:=h.rows q m hm
 have hcnt:=J1 (a:=rwF n R q) (b:=m) (by rw [j5,hml]) fun i hi=>by
  have hi1 : i<n.length:=by
   refine Nat.lt_of_not_le fun hl=>?_
   rw [List.getD_eq_getElem?_getD,List.getElem?_eq_none (by rw [j5];exact hl)] at hi
   cases hi
  have:=hsub (i : Nat) ⟨Int.natCast_nonneg i,by omega⟩ hi
  exact this
 have hw:=aeV (R:=R) (q:=q) (m:=m) (m':=rwF n R q) (by omega) hm
 refine ⟨⟨by rw [List.length_set];exact h.len,fun x m' hx=>?_,fun x hx=>?_,?_,fun x m' hx hx' i hi hd=>?_,fun x m' hx hx0 hx' i hi hh=>?_⟩,by omega,fun hne=>by have:=hcnt.2 hne;omega⟩
 ·by_cases e : x.toNat=q.toNat
  ·rw [rwA,e,List.getD_eq_getElem?_getD,List.getElem?_set_self (by omega)] at hx
   cases hx;exact j5
  ·rw [rwA,List.getD_eq_getElem?_getD,List.getElem?_set_ne (fun h=>e h.symm)] at hx
   exact h.rows x m' (by rw [rwA,List.getD_eq_getElem?_getD];exact hx)
 ·rw [hset hx.1,← h.some' x hx]
  by_cases e : x=q
  ·subst e;rw [if_pos rfl,hm];simp
  ·rw [if_neg e]
 ·rw [hset (Int.le_refl _),if_neg (fun e=>hq0 e.symm)];exact h.zero
 ·rw [hset hx.1] at hx'
  by_cases e : x=q
  ·subst e
   rw [if_pos rfl] at hx'
   cases hx'
   rw [QW hi]
   rcases hd with e|hd
   ·exact .inl e
   ·refine .inr fun p hp=>?_
    obtain ⟨hp1,hp2⟩:=qU.1 hp
    rw [rwH]
    split
    ·rename_i m2 hm2
     refine h.sound p m2 hp1 hm2 i hi ?_
     rcases hd with e|hd
     ·exact .inr (.inl e)
     ·by_cases hip : i=p
      ·exact .inl hip
      ·exact .inr (.inr fun hr=>hd (.step hr (.inr fun e=>hip e.symm) hp2))
    ·rfl
  ·rw [if_neg e] at hx';exact h.sound x m' hx hx' i hi hd
 ·rw [hset hx.1] at hx'
  by_cases e : x=q
  ·subst e
   rw [if_pos rfl] at hx'
   cases hx'
   exact hF x i hi hh
  ·rw [if_neg e] at hx'
   exact h.post x m' hx hx0 hx' i hi (hF x i hi hh)
theorem Abv.start {n : zd} {R : yd} (h0 : 0<n.length) (hl : R.length=n.length) (hz : rwA R 0=some (zA (List.replicate n.length false) 0))
  (ho : ∀ q,isN n q→q≠0→(Rchd n zr 0 q→rwA R q=some (List.replicate n.length true))∧(¬ Rchd n zr 0 q→rwA R q=none)) : Abv n R:=by
 have hmk : ∀ i,isN n i→mk' (List.replicate n.length true) i=true:=fun i hi=>by
  have:=hi.1;have:=hi.2
  rw [mk',List.getD_eq_getElem?_getD,List.getElem?_replicate,if_pos (by omega)];rfl
 refine ⟨hl,fun q m hm=>?_,fun q hq=>?_,hz,fun q m hq hm i hi hd=>?_,fun q m hq hq0 hm i hi _=>?_⟩
 ·by_cases hq : q.toNat<n.length
  ·by_cases e : q.toNat=0
   ·rw [rwA,e] at hm
    rw [rwA] at hz
    simp only [Int.toNat_zero] at hz
    rw [hz] at hm
    cases hm
    rw [zT,List.length_replicate]
   ·have hqn : isN n q:=⟨by omega,by omega⟩
    by_cases hr : Rchd n zr 0 q
    ·rw [(ho q hqn (by omega)).1 hr] at hm;cases hm;exact List.length_replicate
    ·rw [(ho q hqn (by omega)).2 hr] at hm;cases hm
  ·rw [rwA,List.getD_eq_getElem?_getD,List.getElem?_eq_none (by omega)] at hm;cases hm
 ·by_cases e : q=0
  ·subst e;rw [hz];simp only [Option.isSome_some,true_iff];exact .base
  ·by_cases hr : Rchd n zr 0 q
   ·rw [(ho q hq e).1 hr];simp [hr]
   ·rw [(ho q hq e).2 hr];simp [hr]
 ·by_cases e : q=0
  ·subst e
   rw [hz] at hm;cases hm
   rw [xC (Int.le_refl _) (by rw [List.length_replicate];omega) hi.1]
   rcases hd with e|e|hd
   ·simp [e]
   ·simp [e]
   ·exact absurd .base hd
  ·by_cases hr : Rchd n zr 0 q
   ·rw [(ho q hq e).1 hr] at hm;cases hm;exact hmk i hi
   ·rw [(ho q hq e).2 hr] at hm;cases hm
 ·by_cases hr : Rchd n zr 0 q
  ·rw [(ho q hq hq0).1 hr] at hm;cases hm;exact hmk i hi
  ·rw [(ho q hq hq0).2 hr] at hm;cases hm
noncomputable def xn (n : zd) (q : Int) : Option (List Bool):=by
 classical exact if Rchd n zr 0 q then some ((List.range n.length).map fun i=>decide (Dom n (i : Nat) q)) else none
theorem YP {n : zd} {q : Int} {m : List Bool} (h : xn n q=some m) : Rchd n zr 0 q∧m.length=n.length∧∀ i,isN n i→(mk' m i=true↔Dom n i q):=by
 rw [xn] at h
 split at h
 ·rename_i hr
  cases h
  refine ⟨hr,by simp,fun i hi=>?_⟩
  have h0:=hi.1;have h1:=hi.2
  rw [mk',List.getD_eq_getElem?_getD,List.getElem?_map,List.getElem?_range (by omega)]
  simp [Int.toNat_of_nonneg h0]
 ·cases h
theorem acQ {n : zd} {q : Int} (h : ¬ Rchd n zr 0 q) : xn n q=none:=by rw [xn,if_neg h]
theorem abb {n : zd} {q : Int} (h : Rchd n zr 0 q) : ∃ m,xn n q=some m:=by rw [xn,if_pos h];exact ⟨_,rfl⟩
theorem Abv.end {n : zd} (hn : zM n) (h0 : 0<n.length) {R : yd} (h : Abv n R) (hf : ∀ q,isN n q→q≠0→Rchd n zr 0 q→rwA R q=some (rwF n R q)) {q : Int} (hq : isN n q) : rwA R q=xn n q:=by
 have hz0 : isN n 0:=⟨Int.le_refl _,by omega⟩
 by_cases hr : Rchd n zr 0 q
 ·obtain ⟨m,hm⟩:=Option.isSome_iff_exists.1 ((h.some' q hq).2 hr)
  obtain ⟨m',hm'⟩:=abb hr
  obtain ⟨_,hl',hd'⟩:=YP hm'
  rw [hm,hm']
  congr 1
  refine jn (by rw [h.rows q m hm,hl']) fun i i0 i1=>?_
  have hi : isN n i:=⟨i0,by rw [← h.rows q m hm];exact i1⟩
  rw [Bool.eq_iff_iff,hd' i hi]
  refine ⟨fun hmi=>?_,fun hd=>h.sound q m hq hm i hi hd⟩
  refine Classical.byContradiction fun hnd=>?_
  rw [Dom,not_or,not_or,Classical.not_not] at hnd
  obtain ⟨hiq,hi0,hrc⟩:=hnd
  have key : ∀ v,Rchd n (· = i) 0 v→Rchd n zr 0 v∧(v≠i→∀ mv,rwA R v=some mv→mk' mv i=false):=fun v hv=>by
   induction hv with
   |base=>
    refine ⟨.base,fun _ mv hmv=>?_⟩
    rw [h.zero] at hmv;cases hmv
    rw [xC (Int.le_refl _) (by rw [List.length_replicate];omega) i0,decide_eq_false hi0,Bool.false_or,mk',List.getD_eq_getElem?_getD,List.getElem?_replicate]
    split<;>rfl
   |@step v v' hv hc hp ih=>
    have hrv' : Rchd n zr 0 v':=.step ih.1 (.inr id) hp
    refine ⟨hrv',fun hvi mv hmv=>?_⟩
    have hv' : isN n v':=zR hn hp
    have hvN:=hv.isN hn hz0
    by_cases e0 : v'=0
    ·subst e0
     rw [h.zero] at hmv;cases hmv
     rw [xC (Int.le_refl _) (by rw [List.length_replicate];omega) i0,decide_eq_false hi0,Bool.false_or,mk',List.getD_eq_getElem?_getD,List.getElem?_replicate]
     split<;>rfl
    ·rw [hf v' hv' e0 hrv'] at hmv
     cases hmv
     refine Bool.eq_false_iff.2 fun hmk=>?_
     rw [QW hi] at hmk
     rcases hmk with e|hmk
     ·exact hvi e.symm
     ·have h1:=hmk v (qU.2 ⟨hvN,hp⟩)
      obtain ⟨mv,hmv⟩:=Option.isSome_iff_exists.1 ((h.some' v hvN).2 ih.1)
      rw [rwH,hmv] at h1
      have hvne : v≠i:=by
       rcases hc with e|hc
       ·rw [e];exact fun e=>hi0 e.symm
       ·exact hc
      have:=ih.2 hvne mv hmv
      have h1 : mk' mv i=true:=h1
      rw [this] at h1;cases h1
  have:=(key q hrc).2 (fun e=>hiq e.symm) m hm
  rw [this] at hmi;cases hmi
 ·rw [acQ hr]
  cases hm : rwA R q with
  |none=>rfl
  |some m=>exact absurd ((h.some' q hq).1 (by rw [hm];rfl)) hr
end Go.Proofs
end
section
namespace Go.Proofs.Tryz
open Go.Sh
set_option maxRecDepth 100000
def Yk (t0 t1 t2 : Value) (w : World) (K : VW) : Prop:=
 pw w (Instr.box 25 t0) fun t3 w1=>
 lo w1 25 t3 fun t11=>ca yC #[t11,t1] w1 fun t13 w2=>
 pe t13 0 fun t14=>pe t13 1 fun t15=>bt .neq 29 t15 (i6 0) fun t17=>za (fun K3=>gIf t17 false (pw w2 (Instr.buildSlice 28 1 #[(0,t2)]) fun t21 w7=>
 ca yb #[t14,t21] w7 fun t22 w8=>
 pp (Op.unary .not t22) fun t23=>K3 [t23] w8) (K3 [undef] w2)) (fun s4 _d5 w6=>
 zb t17 tr_ (s4.getD 0 undef) fun t24=>zc t24 (K (.tuple #[(Value.slice Option.none 0 0),(i6 2)]) w6) (ca yJ #[t14,t2] w6 fun t27 w9=>
 K (.tuple #[t27,(i6 0)]) w9))
theorem Jy {t0 t1 t2 : Value} {w : World} {K : VW} (h : Yk t0 t1 t2 w K) : ze prog jA #[t0,t1,t2] w K:=
 okC false (.s (.r (rz 3 0 2)) (.s (.r (rz 8 0 33)) (.s (.s (.r (ra 3 0 0 (.grp 18 false (ri 5 3 160) [23] (rz 1 8 0)))) (.c (.s (.r (rz 2 0 0)) (.n)) (.n))) (.s (.r (rz 5 0 32)) (.n))))) func14 rfl (by kernel_rfl) (by kernel_rfl) h
def YQ (t0 t1 t2 : Value) (w : World) (K : VW) : Prop:=
 pw w (Instr.box 25 t0) fun t3 w1=>
 lo w1 25 t3 fun t11=>ca yC #[t11,t1] w1 fun t13 w2=>
 pe t13 0 fun t14=>pe t13 1 fun t15=>bt .neq 29 t15 (i6 0) fun t17=>za (fun K3=>gIf t17 false (pw w2 (Instr.buildSlice 28 1 #[(0,t2)]) fun t21 w7=>
 ca yb #[t14,t21] w7 fun t22 w8=>
 pp (Op.unary .not t22) fun t23=>K3 [t23] w8) (K3 [undef] w2)) (fun s4 _d5 w6=>
 zb t17 tr_ (s4.getD 0 undef) fun t24=>zc t24 (K (.tuple #[(Value.slice Option.none 0 0),(i6 2)]) w6) (ca x7 #[t14,t2,(Value.func (.func 60) #[] #[])] w6 fun t27 w9=>
 ca yr #[t27] w9 fun t28 w10=>
 K (.tuple #[t28,(i6 0)]) w10))
theorem Vp {t0 t1 t2 : Value} {w : World} {K : VW} (h : YQ t0 t1 t2 w K) : ze prog x5 #[t0,t1,t2] w K:=
 okC false (.s (.r (rz 3 0 2)) (.s (.r (rz 8 0 33)) (.s (.s (.r (ra 3 0 0 (.grp 18 false (ri 5 3 160) [23] (rz 1 8 0)))) (.c (.s (.r (rz 2 0 0)) (.n)) (.n))) (.s (.r (rz 6 0 160)) (.n))))) func15 rfl (by kernel_rfl) (by kernel_rfl) h
def YR (t0 t1 t2 : Value) (w : World) (K : VW) : Prop:=
 pw w (Instr.box 25 t0) fun t3 w1=>
 lo w1 25 t3 fun t11=>ca yC #[t11,t1] w1 fun t13 w2=>
 pe t13 0 fun t14=>pe t13 1 fun t15=>bt .neq 29 t15 (i6 0) fun t17=>za (fun K3=>gIf t17 false (pw w2 (Instr.buildSlice 28 1 #[(0,t2)]) fun t21 w7=>
 ca yb #[t14,t21] w7 fun t22 w8=>
 pp (Op.unary .not t22) fun t23=>K3 [t23] w8) (K3 [undef] w2)) (fun s4 _d5 w6=>
 zb t17 tr_ (s4.getD 0 undef) fun t24=>zc t24 (K (.tuple #[(Value.slice Option.none 0 0),(i6 2)]) w6) (ca yO #[t14] w6 fun t26 w9=>
 xl w9 67 t26 t2 75 fun t29=>ca yr #[t29] w9 fun t30 w10=>
 K (.tuple #[t30,(i6 0)]) w10))
theorem Vq {t0 t1 t2 : Value} {w : World} {K : VW} (h : YR t0 t1 t2 w K) : ze prog x6 #[t0,t1,t2] w K:=
 okC false (.s (.r (rz 3 0 2)) (.s (.r (rz 8 0 33)) (.s (.s (.r (ra 3 0 0 (.grp 18 false (ri 5 3 160) [23] (rz 1 8 0)))) (.c (.s (.r (rz 2 0 0)) (.n)) (.n))) (.s (.r (rz 8 0 2312)) (.n))))) func16 rfl (by kernel_rfl) (by kernel_rfl) h
def XR (t0 t1 t2 t3 : Value) (w : World) (K : VW) : Prop:=
 pw w (Instr.box 25 t0) fun t4 w1=>
 lo w1 25 t4 fun t19=>ca yC #[t19,t1] w1 fun t21 w2=>
 pe t21 0 fun t22=>pe t21 1 fun t23=>bt .neq 29 t23 (i6 0) fun t25=>za (fun K3=>gIf t25 false (pw w2 (Instr.buildSlice 28 2 #[(0,t2),(1,t3)]) fun t30 w7=>
 ca yb #[t22,t30] w7 fun t31 w8=>
 pp (Op.unary .not t31) fun t32=>K3 [t32] w8) (K3 [undef] w2)) (fun s4 _d5 w6=>
 zb t25 tr_ (s4.getD 0 undef) fun t33=>za (fun K9=>gIf t33 false (xl w6 98 t22 t2 28 fun t38=>ca zL #[t38,t3] w6 fun t40 w13=>
 pp (Op.unary .not t40) fun t41=>K9 [t41] w13) (K9 [undef] w6)) (fun s10 _d11 w12=>
 zb t33 tr_ (s10.getD 0 undef) fun t42=>zc t42 (K (.tuple #[(Value.slice Option.none 0 0),(i6 2)]) w12) (ca yO #[t22] w12 fun t44 w14=>
 xl w14 67 t44 t2 75 fun t47=>bt .eql 75 t47 (Value.slice Option.none 0 0) fun t49=>za (fun K15=>gIf t49 false (xl w14 75 t47 t3 4 fun t54=>pp (Op.unary .not t54) fun t55=>K15 [t55] w14) (K15 [undef] w14)) (fun s16 _d17 w18=>
 zb t49 tr_ (s16.getD 0 undef) fun t56=>zc t56 (K (.tuple #[(Value.slice Option.none 0 0),(i6 2)]) w18) (pp (Builtin.len_ #[98] 3 #[t22]) fun t58=>pw w18 (Instr.makeSlice 75 t58 t58) fun t59 w19=>
 px 75 t59 t3 fun t64=>so w19 4 t64 tr_ fun w20=>px 75 t59 t2 fun t65=>so w20 4 t65 tr_ fun w21=>pw w21 (Instr.buildSlice 28 1 #[(0,t2)]) fun t67 w22=>
 zo [t67] w22 (fun s24 _d25 w26 K23=>
 pp (Builtin.len_ #[28] 3 #[(s24.getD 0 undef)]) fun t69=>bt .gtr 3 t69 (i6 0) fun t70=>zc t70 (xl w26 28 (s24.getD 0 undef) (i6 0) 3 fun t73=>pp (Instr.sliceAt 28 (s24.getD 0 undef) (some (i6 1)) none none) fun t75=>bf .eql 3 t73 t3 fun t78=>zc t78 (K23 [t75] w26) (ca yJ #[t22,t73] w26 fun t81 w27=>
 pp (Builtin.len_ #[28] 3 #[t81]) fun t82=>zo [t75,(i6 0)] w27 (fun s29 _d30 w31 K28=>
 bf .lss 3 (s29.getD 1 undef) t82 fun t84=>zc t84 (za (fun K32=>
 xl w31 28 t81 (s29.getD 1 undef) 3 fun t86=>xl w31 75 t59 t86 4 fun t90=>pp (Op.unary .not t90) fun t91=>zc t91 (px 75 t59 t86 fun t94=>so w31 4 t94 tr_ fun w36=>pw w36 (Instr.buildSlice 28 1 #[(0,t86)]) fun t97 w37=>
 pw w37 (Builtin.append_ #[28,28] 28 #[(s29.getD 0 undef),t97]) fun t98 w38=>
 K32 [t98] w38) (K32 [(s29.getD 0 undef)] w31)) (fun s33 _d34 w35=>
 bt .add 3 (s29.getD 1 undef) (i6 1) fun t99=>K28 [(s33.getD 0 undef),t99] w35)) (K23 [(s29.getD 0 undef)] w31)))) (ca yr #[t59] w26 fun t101 w39=>
 K (.tuple #[t101,(i6 0)]) w39)))))))
theorem aao {t0 t1 t2 t3 : Value} {w : World} {K : VW} (h : XR t0 t1 t2 t3 w K) : ze prog Zm #[t0,t1,t2,t3] w K:=
 okC false (.s (.r (rz 3 0 2)) (.s (.r (rz 8 0 33)) (.s (.s (.r (ra 3 0 0 (.grp 26 false (ri 6 3 640) [32] (ra 2 9 0 (.grp 34 false (ri 7 11 2112) [41] (rz 1 18 0)))))) (.c (.s (.r (rz 2 0 0)) (.n)) (.n))) (.s (.s (.r (rz 6 0 264)) (.s (.r (ra 3 0 0 (.grp 50 false (ri 5 3 64) [55] (rz 1 8 0)))) (.c (.s (.r (rz 2 0 0)) (.n)) (.n)))) (.s (.r (rz 4 0 32)) (.s (.r (rz 8 0 34816)) (.s (.r (rz 3 0 8)) (.s (.b (.lp [14] (.s (.s (.r (rz 3 0 0)) (.c (.n) (.n))) (.b (.s (.r (rz 4 0 16)) (.s (.r (rz 3 0 0)) (.s (.s (.r (rz 3 0 0)) (.c (.n) (.n))) (.s (.r (rz 5 0 32)) (.b (.lp [14,83] (.s (.r (rz 1 0 0)) (.s (.c (.n) (.n)) (.j [14] (.b (.s (.r (rz 3 0 4)) (.s (.r (rz 5 0 64)) (.c (.s (.r (rz 4 0 128)) (.r (rz 5 0 160))) (.n))))) (.r (rz 2 0 0))))))))))))))) (.s (.r (rz 4 0 8)) (.n)))))))))) func22 rfl (by kernel_rfl) (by kernel_rfl) h
def YS (t0 t1 : Value) (w : World) (K : VW) : Prop:=
 pw w (Instr.box 25 t0) fun t2 w1=>
 lo w1 25 t2 fun t11=>ca yC #[t11,t1] w1 fun t13 w2=>
 pe t13 0 fun t14=>pe t13 1 fun t15=>bt .neq 29 t15 (i6 0) fun t17=>zc t17 (K (.tuple #[(Value.slice Option.none 0 0),t15]) w2) (ca yW #[t14] w2 fun t21 w3=>
 pe t21 0 fun t22=>pe t21 1 fun _t23=>K (.tuple #[t22,t15]) w3)
theorem Vr {t0 t1 : Value} {w : World} {K : VW} (h : YS t0 t1 w K) : ze prog qw #[t0,t1] w K:=
 okC false (.s (.r (rz 3 0 2)) (.s (.r (rz 8 0 33)) (.s (.s (.r (rz 2 0 0)) (.c (.s (.r (rz 3 0 0)) (.n)) (.n))) (.s (.r (rz 7 0 8)) (.s (.r (rz 4 0 0)) (.n)))))) func24 rfl (by kernel_rfl) (by kernel_rfl) h
def XS (t0 t1 : Value) (w : World) (K : VW) : Prop:=
 pw w (Instr.box 25 t0) fun t2 w1=>
 lo w1 25 t2 fun t11=>ca yC #[t11,t1] w1 fun t13 w2=>
 pe t13 0 fun t14=>pe t13 1 fun t15=>bt .neq 29 t15 (i6 0) fun t17=>zc t17 (K (.tuple #[(Value.slice Option.none 0 0),t15]) w2) (ca yW #[t14] w2 fun t21 w3=>
 pe t21 0 fun _t22=>pe t21 1 fun t23=>K (.tuple #[t23,t15]) w3)
theorem aap {t0 t1 : Value} {w : World} {K : VW} (h : XS t0 t1 w K) : ze prog jf #[t0,t1] w K:=
 okC false (.s (.r (rz 3 0 2)) (.s (.r (rz 8 0 33)) (.s (.s (.r (rz 2 0 0)) (.c (.s (.r (rz 3 0 0)) (.n)) (.n))) (.s (.r (rz 7 0 8)) (.s (.r (rz 4 0 0)) (.n)))))) func25 rfl (by kernel_rfl) (by kernel_rfl) h
def YT (t0 t1 : Value) (w : World) (K : VW) : Prop:=
 pw w (Instr.box 25 t0) fun t2 w1=>
 lo w1 25 t2 fun t16=>ca yC #[t16,t1] w1 fun t18 w2=>
 pe t18 0 fun t19=>pe t18 1 fun t20=>bt .neq 29 t20 (i6 0) fun t22=>zc t22 (K (.tuple #[(Value.slice Option.none 0 0),t20]) w2) (ca yO #[t19] w2 fun t25 w3=>
 pw w3 (Instr.buildSlice 28 1 #[(0,(i6 (-1)))]) fun t26 w4=>
 pp (Builtin.len_ #[98] 3 #[t19]) fun t28=>ca yR #[t26,t28] w4 fun t29 w5=>
 pp (Builtin.len_ #[67] 3 #[t25]) fun t31=>zo [(i6 0)] w5 (fun s7 _d8 w9 K6=>
 bf .lss 3 (s7.getD 0 undef) t31 fun t33=>zc t33 (xl w9 67 t25 (s7.getD 0 undef) 75 fun t36=>ca yr #[t36] w9 fun t38 w10=>
 pp (Builtin.len_ #[28] 3 #[t38]) fun t40=>zo [(i6 0)] w10 (fun s12 _d13 w14 K11=>
 bf .lss 3 (s12.getD 0 undef) t40 fun t42=>zc t42 (za (fun K15=>
 xl w14 28 t38 (s12.getD 0 undef) 3 fun t44=>bf .neq 3 t44 (s7.getD 0 undef) fun t47=>za (fun K19=>gIf t47 true (xl w14 67 t25 t44 75 fun t52=>ca yr #[t52] w14 fun t53 w23=>
 pp (Builtin.len_ #[28] 3 #[t53]) fun t54=>pp (Builtin.len_ #[28] 3 #[t38]) fun t56=>bt .sub 3 t56 (i6 1) fun t57=>bf .eql 3 t54 t57 fun t58=>K19 [t58] w23) (K19 [undef] w14)) (fun s20 _d21 w22=>
 zb t47 (s20.getD 0 undef) fa_ fun t59=>zc t59 (px 28 t29 (s7.getD 0 undef) fun t63=>so w22 3 t63 t44 fun w24=>K15 [] w24) (K15 [] w22))) (fun _s16 _d17 w18=>
 bt .add 3 (s12.getD 0 undef) (i6 1) fun t64=>K11 [t64] w18)) (bt .add 3 (s7.getD 0 undef) (i6 1) fun t65=>K6 [t65] w14))) (K (.tuple #[t29,(i6 0)]) w9)))
theorem Vs {t0 t1 : Value} {w : World} {K : VW} (h : YT t0 t1 w K) : ze prog qx #[t0,t1] w K:=
 okC false (.s (.r (rz 3 0 2)) (.s (.r (rz 8 0 33)) (.s (.s (.r (rz 2 0 0)) (.c (.s (.r (rz 3 0 0)) (.n)) (.n))) (.s (.r (rz 3 0 8)) (.s (.r (rz 5 0 130)) (.s (.s (.r (rz 3 0 0)) (.b (.lp [32] (.s (.r (rz 1 0 0)) (.s (.c (.n) (.n)) (.s (.b (.s (.r (rz 5 0 16)) (.s (.r (rz 3 0 8)) (.s (.r (rz 3 0 0)) (.b (.lp [41] (.s (.r (rz 1 0 0)) (.s (.c (.n) (.n)) (.j [] (.b (.s (.r (rz 3 0 4)) (.s (.r (ra 4 0 0 (.grp 48 true (ri 10 4 576) [58] (rz 1 14 0)))) (.c (.r (rz 5 0 512)) (.n))))) (.r (rz 2 0 0))))))))))) (.r (rz 2 0 0)))))))) (.s (.r (rz 3 0 0)) (.n)))))))) func26 rfl (by kernel_rfl) (by kernel_rfl) h
def QX (t0 t1 t2 t3 t4 : Value) (w : World) (K : VW) : Prop:=
 pw w (Instr.box 25 t0) fun t5 w1=>
 lo w1 25 t5 fun t23=>ca yC #[t23,t1] w1 fun t25 w2=>
 pe t25 0 fun t26=>pe t25 1 fun t27=>bt .neq 29 t27 (i6 0) fun t29=>za (fun K3=>gIf t29 false (pw w2 (Instr.buildSlice 28 2 #[(0,t2),(1,t3)]) fun t34 w7=>
 ca yb #[t26,t34] w7 fun t35 w8=>
 pp (Op.unary .not t35) fun t36=>K3 [t36] w8) (K3 [undef] w2)) (fun s4 _d5 w6=>
 zb t29 tr_ (s4.getD 0 undef) fun t37=>za (fun K9=>gIf t37 false (ca yb #[t26,t4] w6 fun t41 w13=>
 pp (Op.unary .not t41) fun t42=>K9 [t42] w13) (K9 [undef] w6)) (fun s10 _d11 w12=>
 zb t37 tr_ (s10.getD 0 undef) fun t43=>zc t43 (K (.tuple #[(Value.slice Option.none 0 0),fa_,(i6 2)]) w12) (pw w12 (Instr.makeMap 114 none) fun t44 w14=>
 pw w14 (Instr.buildSlice 28 1 #[(0,t2)]) fun t47 w15=>
 pu w15 (Instr.mapUpdate 114 t44 t2 t47) fun w16=>pw w16 (Instr.buildSlice 28 1 #[(0,t2)]) fun t50 w17=>
 zo [t50] w17 (fun s19 _d20 w21 K18=>
 pp (Builtin.len_ #[28] 3 #[(s19.getD 0 undef)]) fun t52=>bt .gtr 3 t52 (i6 0) fun t53=>za (fun K22=>gIf t53 true (pq w21 (Instr.lookup 114 t44 t3 false) fun t57=>bt .eql 28 t57 (Value.slice Option.none 0 0) fun t58=>K22 [t58] w21) (K22 [undef] w21)) (fun s23 _d24 w25=>
 zb t53 (s23.getD 0 undef) fa_ fun t59=>zc t59 (pp (Builtin.len_ #[28] 3 #[(s19.getD 0 undef)]) fun t61=>zo [(Value.slice Option.none 0 0),(i6 0)] w25 (fun s27 _d28 w29 K26=>
 bf .lss 3 (s27.getD 1 undef) t61 fun t63=>zc t63 (za (fun K30=>
 xl w29 28 (s19.getD 0 undef) (s27.getD 1 undef) 3 fun t65=>bf .neq 3 t65 t2 fun t68=>za (fun K34=>gIf t68 true (ca zL #[t4,t65] w29 fun t72 w38=>
 K34 [t72] w38) (K34 [undef] w29)) (fun s35 _d36 w37=>
 zb t68 (s35.getD 0 undef) fa_ fun t73=>zc t73 (K30 [(s27.getD 0 undef)] w37) (xl w37 98 t26 t65 28 fun t77=>ca y9 #[t77] w37 fun t78 w39=>
 ca kZ #[t78] w39 fun _t80 w40=>
 pp (Builtin.len_ #[28] 3 #[t78]) fun t82=>zo [(s27.getD 0 undef),(i6 0)] w40 (fun s42 _d43 w44 K41=>
 bf .lss 3 (s42.getD 1 undef) t82 fun t84=>zc t84 (za (fun K45=>
 xl w44 28 t78 (s42.getD 1 undef) 3 fun t86=>pq w44 (Instr.lookup 114 t44 t86 false) fun t89=>bt .eql 28 t89 (Value.slice Option.none 0 0) fun t90=>zc t90 (pq w44 (Instr.lookup 114 t44 t65 false) fun t95=>ca y9 #[t95] w44 fun t96 w49=>
 pw w49 (Instr.buildSlice 28 1 #[(0,t86)]) fun t98 w50=>
 pw w50 (Builtin.append_ #[28,28] 28 #[t96,t98]) fun t99 w51=>
 pu w51 (Instr.mapUpdate 114 t44 t86 t99) fun w52=>pw w52 (Instr.buildSlice 28 1 #[(0,t86)]) fun t102 w53=>
 pw w53 (Builtin.append_ #[28,28] 28 #[(s42.getD 0 undef),t102]) fun t103 w54=>
 K45 [t103] w54) (K45 [(s42.getD 0 undef)] w44)) (fun s46 _d47 w48=>
 bt .add 3 (s42.getD 1 undef) (i6 1) fun t104=>K41 [(s46.getD 0 undef),t104] w48)) (K30 [(s42.getD 0 undef)] w44))))) (fun s31 _d32 w33=>
 bt .add 3 (s27.getD 1 undef) (i6 1) fun t105=>K26 [(s31.getD 0 undef),t105] w33)) (K18 [(s27.getD 0 undef)] w29))) (pq w25.drew (Instr.lookup 114 t44 t3 false) fun t109=>pq w25.drew (Instr.lookup 114 t44 t3 false) fun t112=>bt .neq 28 t112 (Value.slice Option.none 0 0) fun t113=>K (.tuple #[t109,t113,(i6 0)]) w25.drew))))))
theorem aaR {t0 t1 t2 t3 t4 : Value} {w : World} {K : VW} (h : QX t0 t1 t2 t3 t4 w K) : ze prog km #[t0,t1,t2,t3,t4] w K:=
 okC false (.s (.r (rz 4 0 2)) (.s (.r (rz 8 0 33)) (.s (.s (.r (ra 3 0 0 (.grp 30 false (ri 6 3 640) [36] (ra 2 9 0 (.grp 38 false (ri 4 11 32) [42] (rz 1 15 0)))))) (.c (.s (.r (rz 3 0 0)) (.n)) (.n))) (.s (.r (rz 7 0 642)) (.s (.r (rz 3 0 8)) (.s (.b (.lp [15] (.s (.s (.r (ra 4 0 0 (.grp 54 true (ri 4 4 16) [58] (rz 1 8 0)))) (.c (.n) (.n))) (.b (.s (.r (rz 1 0 0)) (.s (.s (.r (rz 3 0 0)) (.b (.lp [16,62] (.s (.r (rz 1 0 0)) (.s (.c (.n) (.n)) (.j [16] (.b (.s (.r (rz 3 0 4)) (.s (.s (.r (ra 4 0 0 (.grp 69 true (ri 3 4 32) [72] (rz 1 7 0)))) (.c (.n) (.n))) (.s (.r (rz 6 0 576)) (.s (.r (rz 2 0 8)) (.s (.r (rz 3 0 0)) (.b (.lp [16,83] (.s (.r (rz 1 0 0)) (.s (.c (.n) (.n)) (.j [16] (.b (.s (.r (rz 3 0 4)) (.s (.r (rz 4 0 16)) (.c (.s (.r (rz 10 0 690432)) (.r (rz 5 0 160))) (.n))))) (.r (rz 2 0 0))))))))))))) (.r (rz 2 0 0)))))))) (.r (rz 2 0 0)))))))) (.s (.r (rz 10 0 1040)) (.n)))))))) func29 rfl (by kernel_rfl) (by kernel_rfl) h
def J2 (t0 t1 t2 : Value) (w : World) (K : VW) : Prop:=
 pw w (Instr.box 25 t0) fun t3 w1=>
 lo w1 25 t3 fun t13=>ca yC #[t13,t1] w1 fun t15 w2=>
 pe t15 0 fun t16=>pe t15 1 fun t17=>bt .neq 29 t17 (i6 0) fun t19=>zc t19 (K (.tuple #[(i6 0),fa_,t17]) w2) (pp (Builtin.len_ #[28] 3 #[t2]) fun t22=>zo [(i6 0)] w2 (fun s4 _d5 w6 K3=>
 bf .lss 3 (s4.getD 0 undef) t22 fun t24=>zc t24 (xl w6 28 t2 (s4.getD 0 undef) 3 fun t27=>pw w6 (Instr.buildSlice 28 1 #[(0,t27)]) fun t30 w7=>
 ca yb #[t16,t30] w7 fun t31 w8=>
 pp (Op.unary .not t31) fun t32=>za (fun K9=>gIf t32 false (bt .gtr 3 (s4.getD 0 undef) (i6 0) fun t35=>K9 [t35] w8) (K9 [undef] w8)) (fun s10 _d11 w12=>
 za (fun K13=>gIf (s10.getD 0 undef) true (bt .sub 3 (s4.getD 0 undef) (i6 1) fun t40=>xl w12 28 t2 t40 3 fun t42=>xl w12 98 t16 t42 28 fun t44=>ca zL #[t44,t27] w12 fun t46 w17=>
 pp (Op.unary .not t46) fun t47=>K13 [t47] w17) (K13 [undef] w12)) (fun s14 _d15 w16=>
 za (fun K18=>gIf t32 false (zb (s10.getD 0 undef) (s14.getD 0 undef) fa_ fun t48=>K18 [t48] w16) (K18 [undef] w16)) (fun s19 _d20 w21=>
 zb t32 tr_ (s19.getD 0 undef) fun t49=>zc t49 (K (.tuple #[(s4.getD 0 undef),fa_,(i6 0)]) w21) (bt .add 3 (s4.getD 0 undef) (i6 1) fun t51=>K3 [t51] w21))))) (pp (Builtin.len_ #[28] 3 #[t2]) fun t53=>bt .gtr 3 t53 (i6 0) fun t54=>K (.tuple #[(i6 0),t54,(i6 0)]) w6)))
theorem abT {t0 t1 t2 : Value} {w : World} {K : VW} (h : J2 t0 t1 t2 w K) : ze prog vT #[t0,t1,t2] w K:=
 okC false (.s (.r (rz 4 0 2)) (.s (.r (rz 8 0 33)) (.s (.s (.r (rz 2 0 0)) (.c (.s (.r (rz 4 0 0)) (.n)) (.n))) (.s (.s (.r (rz 3 0 0)) (.b (.lp [23] (.s (.r (rz 1 0 0)) (.s (.c (.n) (.n)) (.s (.b (.s (.r (rz 5 0 16)) (.s (.r (ra 6 0 160 (.grp 33 false (ri 3 6 0) [36] (.grp 36 true (ri 11 9 541696) [47] (.grp 33 false (ri 1 20 0) [48] (rz 1 21 0)))))) (.c (.s (.r (rz 4 0 0)) (.n)) (.n))))) (.r (rz 2 0 0)))))))) (.s (.r (rz 6 0 0)) (.n)))))) func30 rfl (by kernel_rfl) (by kernel_rfl) h
def J3 (t0 t1 : Value) (w : World) (K : VW) : Prop:=
 pw w (Instr.box 25 t0) fun t2 w1=>
 bt .lss 3 t1 (i6 0) fun t10=>za (fun K2=>gIf t10 false (fl w1 t2 25 1 23 fun t14=>pp (Builtin.len_ #[23] 3 #[t14]) fun t15=>bf .geq 3 t1 t15 fun t16=>K2 [t16] w1) (K2 [undef] w1)) (fun s3 _d4 w5=>
 zb t10 tr_ (s3.getD 0 undef) fun t17=>za (fun K6=>gIf t17 false (lo w5 25 t2 fun t19=>ca je #[t19] w5 fun t20 w10=>
 pp (Op.unary .not t20) fun t21=>K6 [t21] w10) (K6 [undef] w5)) (fun s7 _d8 w9=>
 zb t17 tr_ (s7.getD 0 undef) fun t22=>zc t22 (K (.tuple #[(Value.slice Option.none 0 0),(i6 2)]) w9) (fl w9 t2 25 1 23 fun t24=>px 23 t24 t1 fun t26=>fl w9 t26 38 6 36 fun t28=>pp (Builtin.len_ #[36] 3 #[t28]) fun t29=>zo [(Value.slice Option.none 0 0),(i6 0)] w9 (fun s12 _d13 w14 K11=>
 bf .lss 3 (s12.getD 1 undef) t29 fun t31=>zc t31 (za (fun K15=>
 xl w14 36 t28 (s12.getD 1 undef) 87 fun t33=>pw w14 (Instr.alloc 87 true (.tuple #[])) fun t8 w19=>
 so w19 87 t8 t33 fun w20=>fl w20 t8 87 0 78 fun t42=>bt .eql 78 t42 (Value.int .u8 14) fun t43=>zc t43 (pw w20 (Instr.buildSlice 98 1 #[(0,(Value.slice Option.none 0 0))]) fun t45 w21=>
 pw w21 (Builtin.append_ #[98,98] 98 #[(s12.getD 0 undef),t45]) fun t46 w22=>
 K15 [t46] w22) (fl w20 t8 87 0 78 fun t49=>bt .eql 78 t49 (Value.int .u8 12) fun t50=>za (fun K23=>gIf t50 true (fl w20 t8 87 11 3 fun t53=>fl w20 t8 87 10 3 fun t55=>bf .neq 3 t53 t55 fun t56=>K23 [t56] w20) (K23 [undef] w20)) (fun s24 _d25 w26=>
 zb t50 (s24.getD 0 undef) fa_ fun t57=>zc t57 (fl w26 t8 87 10 3 fun t60=>fl w26 t8 87 11 3 fun t62=>pw w26 (Instr.buildSlice 28 2 #[(0,t60),(1,t62)]) fun t63 w27=>
 pw w27 (Instr.buildSlice 98 1 #[(0,t63)]) fun t64 w28=>
 pw w28 (Builtin.append_ #[98,98] 98 #[(s12.getD 0 undef),t64]) fun t65 w29=>
 K15 [t65] w29) (fl w26 t8 87 10 3 fun t36=>pw w26 (Instr.buildSlice 28 1 #[(0,t36)]) fun t37 w30=>
 pw w30 (Instr.buildSlice 98 1 #[(0,t37)]) fun t38 w31=>
 pw w31 (Builtin.append_ #[98,98] 98 #[(s12.getD 0 undef),t38]) fun t39 w32=>
 K15 [t39] w32)))) (fun s16 _d17 w18=>
 bt .add 3 (s12.getD 1 undef) (i6 1) fun t66=>K11 [(s16.getD 0 undef),t66] w18)) (K (.tuple #[(s12.getD 0 undef),(i6 0)]) w14)))))
theorem abU {t0 t1 : Value} {w : World} {K : VW} (h : J3 t0 t1 w K) : ze prog yC #[t0,t1] w K:=
 okC false (.s (.r (rz 3 0 2)) (.s (.s (.r (ra 3 0 0 (.grp 11 false (ri 5 3 16) [16] (ra 2 8 0 (.grp 18 false (ri 3 10 9) [21] (rz 1 13 0)))))) (.c (.s (.r (rz 2 0 0)) (.n)) (.n))) (.s (.r (rz 1 0 0)) (.s (.s (.r (rz 8 0 1028)) (.b (.lp [6,30] (.s (.r (rz 1 0 0)) (.s (.c (.n) (.n)) (.j [6] (.b (.s (.r (rz 4 0 164)) (.b (.s (.r (rz 4 0 4)) (.c (.r (rz 4 0 40)) (.s (.r (ra 4 0 4 (.grp 51 true (ri 5 4 68) [56] (rz 2 9 0)))) (.c (.r (rz 9 0 43280)) (.r (rz 7 0 2704))))))))) (.r (rz 2 0 0)))))))) (.s (.r (rz 3 0 0)) (.n)))))) func55 rfl (by kernel_rfl) (by kernel_rfl) h
def ZM (t0 t1 : Value) (w : World) (K : VW) : Prop:=
 pw w (Instr.box 98 t0) fun t2 w1=>
 pp (Instr.makeFunc (.func 96) #[] #[t2]) fun t6=>ca z6 #[t1,t6] w1 fun t7 w2=>
 pp (Op.unary .not t7) fun t8=>K t8 w2
theorem QY {t0 t1 : Value} {w : World} {K : VW} (h : ZM t0 t1 w K) : ze prog yb #[t0,t1] w K:=
 okC false (.s (.r (rz 2 0 2)) (.s (.r (rz 5 0 32)) (.n))) func56 rfl (by kernel_rfl) (by kernel_rfl) h
def jQ (t0 t1 : Value) (w : World) (K : VW) : Prop:=
 pp (Builtin.len_ #[98] 3 #[t0]) fun t9=>zo [(Value.slice Option.none 0 0),(i6 0)] w (fun s2 _d3 w4 K1=>
 bf .lss 3 (s2.getD 1 undef) t9 fun t11=>zc t11 (za (fun K5=>
 xl w4 98 t0 (s2.getD 1 undef) 28 fun t14=>ca zL #[t14,t1] w4 fun t17 w9=>
 zc t17 (pw w9 (Instr.buildSlice 28 1 #[(0,(s2.getD 1 undef))]) fun t20 w10=>
 pw w10 (Builtin.append_ #[28,28] 28 #[(s2.getD 0 undef),t20]) fun t21 w11=>
 K5 [t21] w11) (K5 [(s2.getD 0 undef)] w9)) (fun s6 _d7 w8=>
 bt .add 3 (s2.getD 1 undef) (i6 1) fun t22=>K1 [(s6.getD 0 undef),t22] w8)) (K (s2.getD 0 undef) w4))
theorem YU {t0 t1 : Value} {w : World} {K : VW} (h : jQ t0 t1 w K) : ze prog yJ #[t0,t1] w K:=
 okC false (.s (.r (rz 1 0 0)) (.s (.r (rz 1 0 0)) (.s (.s (.r (rz 3 0 0)) (.b (.lp [5,10] (.s (.r (rz 1 0 0)) (.s (.c (.n) (.n)) (.j [5] (.b (.s (.r (rz 5 0 16)) (.s (.r (rz 3 0 32)) (.c (.r (rz 5 0 160)) (.n))))) (.r (rz 2 0 0)))))))) (.s (.r (rz 2 0 0)) (.n))))) func57 rfl (by kernel_rfl) (by kernel_rfl) h
def Yl (t0 : Value) (w : World) (K : VW) : Prop:=
 pp (Builtin.len_ #[75] 3 #[t0]) fun t7=>zo [(Value.slice Option.none 0 0),(i6 0)] w (fun s2 _d3 w4 K1=>
 bf .lss 3 (s2.getD 1 undef) t7 fun t9=>zc t9 (za (fun K5=>
 xl w4 75 t0 (s2.getD 1 undef) 4 fun t12=>zc t12 (pw w4 (Instr.buildSlice 28 1 #[(0,(s2.getD 1 undef))]) fun t16 w9=>
 pw w9 (Builtin.append_ #[28,28] 28 #[(s2.getD 0 undef),t16]) fun t17 w10=>
 K5 [t17] w10) (K5 [(s2.getD 0 undef)] w4)) (fun s6 _d7 w8=>
 bt .add 3 (s2.getD 1 undef) (i6 1) fun t18=>K1 [(s6.getD 0 undef),t18] w8)) (K (s2.getD 0 undef) w4))
theorem Jz {t0 : Value} {w : World} {K : VW} (h : Yl t0 w K) : ze prog yr #[t0] w K:=
 okC false (.s (.r (rz 1 0 0)) (.s (.r (rz 1 0 0)) (.s (.s (.r (rz 3 0 0)) (.b (.lp [3,8] (.s (.r (rz 1 0 0)) (.s (.c (.n) (.n)) (.j [3] (.b (.s (.r (rz 5 0 16)) (.s (.r (rz 1 0 0)) (.c (.r (rz 5 0 160)) (.n))))) (.r (rz 2 0 0)))))))) (.s (.r (rz 2 0 0)) (.n))))) func58 rfl (by kernel_rfl) (by kernel_rfl) h
def jv (t0 t1 t2 : Value) (w : World) (K : VW) : Prop:=
 pp (Builtin.len_ #[98] 3 #[t0]) fun t13=>pw w (Instr.makeSlice 75 t13 t13) fun t14 w1=>
 pw w1 (Instr.buildSlice 28 1 #[(0,t1)]) fun t16 w2=>
 px 75 t14 t1 fun t19=>so w2 4 t19 tr_ fun w3=>zo [t16] w3 (fun s5 _d6 w7 K4=>
 pp (Builtin.len_ #[28] 3 #[(s5.getD 0 undef)]) fun t21=>bt .gtr 3 t21 (i6 0) fun t22=>zc t22 (xl w7 28 (s5.getD 0 undef) (i6 0) 3 fun t25=>pp (Instr.sliceAt 28 (s5.getD 0 undef) (some (i6 1)) none none) fun t27=>cv t2 #[t25] w7 fun t30 w8=>
 za (fun K9=>gIf t30 true (bf .neq 3 t25 t1 fun t34=>K9 [t34] w8) (K9 [undef] w8)) (fun s10 _d11 w12=>
 zb t30 (s10.getD 0 undef) fa_ fun t35=>zc t35 (K4 [t27] w12) (xl w12 98 t0 t25 28 fun t39=>pp (Builtin.len_ #[28] 3 #[t39]) fun t40=>zo [t27,(i6 0)] w12 (fun s14 _d15 w16 K13=>
 bf .lss 3 (s14.getD 1 undef) t40 fun t42=>zc t42 (za (fun K17=>
 xl w16 28 t39 (s14.getD 1 undef) 3 fun t44=>xl w16 75 t14 t44 4 fun t48=>pp (Op.unary .not t48) fun t49=>zc t49 (px 75 t14 t44 fun t52=>so w16 4 t52 tr_ fun w21=>pw w21 (Instr.buildSlice 28 1 #[(0,t44)]) fun t55 w22=>
 pw w22 (Builtin.append_ #[28,28] 28 #[(s14.getD 0 undef),t55]) fun t56 w23=>
 K17 [t56] w23) (K17 [(s14.getD 0 undef)] w16)) (fun s18 _d19 w20=>
 bt .add 3 (s14.getD 1 undef) (i6 1) fun t57=>K13 [(s18.getD 0 undef),t57] w20)) (K4 [(s14.getD 0 undef)] w16))))) (K t14 w7))
theorem Yq {t0 t1 t2 : Value} {w : World} {K : VW} (h : jv t0 t1 t2 w K) : ze prog x7 #[t0,t1,t2] w K:=
 okC false (.s (.r (rz 1 0 0)) (.s (.r (rz 4 0 32)) (.s (.r (rz 3 0 8)) (.s (.r (rz 4 0 128)) (.s (.b (.lp [8] (.s (.s (.r (rz 3 0 0)) (.c (.n) (.n))) (.b (.s (.r (rz 4 0 16)) (.s (.r (rz 3 0 0)) (.s (.s (.r (ra 4 0 32 (.grp 31 true (ri 3 4 0) [34] (rz 1 7 0)))) (.c (.n) (.n))) (.s (.r (rz 6 0 64)) (.b (.lp [8,41] (.s (.r (rz 1 0 0)) (.s (.c (.n) (.n)) (.j [8] (.b (.s (.r (rz 3 0 4)) (.s (.r (rz 5 0 64)) (.c (.s (.r (rz 4 0 128)) (.r (rz 5 0 160))) (.n))))) (.r (rz 2 0 0))))))))))))))) (.s (.r (rz 2 0 0)) (.n))))))) func59 rfl (by kernel_rfl) (by kernel_rfl) h
def YV (_t0 : Value) (w : World) (K : VW) : Prop:=
 K fa_ w
theorem Vt {t0 : Value} {w : World} {K : VW} (h : YV t0 w K) : ze prog Yx #[t0] w K:=
 okC false (.s (.r (rz 1 0 0)) (.s (.r (rz 1 0 0)) (.n))) func60 rfl (by kernel_rfl) (by kernel_rfl) h
def vC (t0 : Value) (w : World) (K : VW) : Prop:=
 ca yW #[t0] w fun t19 w1=>
 pe t19 0 fun t20=>pe t19 1 fun _t21=>pp (Builtin.len_ #[98] 3 #[t0]) fun t23=>pw w1 (Instr.makeSlice 67 t23 t23) fun t24 w2=>
 pp (Builtin.len_ #[28] 3 #[t20]) fun t26=>zo [(i6 0)] w2 (fun s4 _d5 w6 K3=>
 bf .lss 3 (s4.getD 0 undef) t26 fun t28=>zc t28 (xl w6 28 t20 (s4.getD 0 undef) 3 fun t30=>bt .neq 3 t30 (i6 0) fun t34=>pw w6 (Instr.buildSlice 75 1 #[(0,t34)]) fun t35 w7=>
 pp (Builtin.len_ #[98] 3 #[t0]) fun t37=>ca yi #[t35,t37] w7 fun t38 w8=>
 px 67 t24 t30 fun t39=>so w8 75 t39 t38 fun w9=>bt .add 3 (s4.getD 0 undef) (i6 1) fun t40=>K3 [t40] w9) (xl w6 67 t24 (i6 0) 75 fun t43=>px 75 t43 (i6 0) fun t44=>so w6 4 t44 tr_ fun w10=>pp (Builtin.len_ #[98] 3 #[t0]) fun t46=>pw w10 (Instr.makeSlice 97 t46 t46) fun t47 w11=>
 pp (Builtin.len_ #[98] 3 #[t0]) fun t49=>zo [(i6 0)] w11 (fun s13 _d14 w15 K12=>
 bf .lss 3 (s13.getD 0 undef) t49 fun t51=>zc t51 (ca yJ #[t0,(s13.getD 0 undef)] w15 fun t57 w16=>
 px 97 t47 (s13.getD 0 undef) fun t58=>so w16 28 t58 t57 fun w17=>bt .add 3 (s13.getD 0 undef) (i6 1) fun t59=>K12 [t59] w17) (zo [tr_] w15 (fun s19 _d20 w21 K18=>
 zc (s19.getD 0 undef) (pp (Instr.sliceAt 28 t20 (some (i6 1)) none none) fun t62=>pp (Builtin.len_ #[28] 3 #[t62]) fun t63=>zo [fa_,(i6 0)] w21 (fun s23 _d24 w25 K22=>
 bf .lss 3 (s23.getD 1 undef) t63 fun t65=>zc t65 (za (fun K26=>
 xl w25 28 t62 (s23.getD 1 undef) 3 fun t67=>pw w25 (Instr.buildSlice 75 1 #[(0,tr_)]) fun t68 w30=>
 pp (Builtin.len_ #[98] 3 #[t0]) fun t70=>ca yi #[t68,t70] w30 fun t71 w31=>
 xl w31 97 t47 t67 28 fun t75=>pp (Builtin.len_ #[28] 3 #[t75]) fun t76=>zo [(i6 0)] w31 (fun s33 _d34 w35 K32=>
 bf .lss 3 (s33.getD 0 undef) t76 fun t78=>zc t78 (xl w35 28 t75 (s33.getD 0 undef) 3 fun t80=>pp (Builtin.len_ #[75] 3 #[t71]) fun t82=>zo [(i6 0)] w35 (fun s37 _d38 w39 K36=>
 bf .lss 3 (s37.getD 0 undef) t82 fun t84=>zc t84 (xl w39 75 t71 (s37.getD 0 undef) 4 fun t91=>za (fun K40=>gIf t91 true (xl w39 67 t24 t80 75 fun t96=>bt .eql 75 t96 (Value.slice Option.none 0 0) fun t97=>K40 [t97] w39) (K40 [undef] w39)) (fun s41 _d42 w43=>
 za (fun K44=>gIf (s41.getD 0 undef) false (xl w43 67 t24 t80 75 fun t102=>xl w43 75 t102 (s37.getD 0 undef) 4 fun t105=>K44 [t105] w43) (K44 [undef] w43)) (fun s45 _d46 w47=>
 za (fun K48=>gIf t91 true (zb (s41.getD 0 undef) tr_ (s45.getD 0 undef) fun t106=>K48 [t106] w47) (K48 [undef] w47)) (fun s49 _d50 w51=>
 zb t91 (s49.getD 0 undef) fa_ fun t107=>px 75 t71 (s37.getD 0 undef) fun t108=>so w51 4 t108 t107 fun w52=>bt .add 3 (s37.getD 0 undef) (i6 1) fun t109=>K36 [t109] w52)))) (bt .add 3 (s33.getD 0 undef) (i6 1) fun t110=>K32 [t110] w39))) (px 75 t71 t67 fun t113=>so w35 4 t113 tr_ fun w53=>xl w53 67 t24 t67 75 fun t118=>ca yP #[t71,t118] w53 fun t119 w54=>
 pp (Op.unary .not t119) fun t120=>zc t120 (px 67 t24 t67 fun t124=>so w54 75 t124 t71 fun w55=>K26 [tr_] w55) (K26 [(s23.getD 0 undef)] w54)))) (fun s27 _d28 w29=>
 bt .add 3 (s23.getD 1 undef) (i6 1) fun t125=>K22 [(s27.getD 0 undef),t125] w29)) (K18 [(s23.getD 0 undef)] w25))) (K t24 w21))))))
theorem XA {t0 : Value} {w : World} {K : VW} (h : vC t0 w K) : ze prog yO #[t0] w K:=
 okC false (.s (.r (rz 1 0 0)) (.b (.s (.r (rz 7 0 8)) (.s (.r (rz 4 0 32)) (.s (.s (.r (rz 3 0 0)) (.b (.lp [27] (.s (.r (rz 1 0 0)) (.s (.c (.n) (.n)) (.s (.b (.s (.r (rz 3 0 4)) (.r (rz 10 0 557568)))) (.r (rz 2 0 0)))))))) (.s (.r (rz 5 0 528)) (.s (.r (rz 4 0 32)) (.s (.s (.r (rz 3 0 0)) (.b (.lp [50] (.s (.r (rz 1 0 0)) (.s (.c (.n) (.n)) (.s (.b (.s (.r (rz 2 0 0)) (.r (rz 7 0 8704)))) (.r (rz 2 0 0)))))))) (.s (.n) (.s (.s (.r (rz 1 0 0)) (.b (.lp [10] (.s (.s (.r (rz 1 0 0)) (.c (.n) (.n))) (.b (.s (.r (rz 1 0 0)) (.s (.s (.r (rz 4 0 0)) (.b (.lp [10,64] (.s (.r (rz 1 0 0)) (.s (.c (.n) (.n)) (.j [10] (.b (.s (.r (rz 3 0 4)) (.s (.r (rz 5 0 130)) (.s (.s (.r (rz 6 0 64)) (.b (.lp [77] (.s (.r (rz 1 0 0)) (.s (.c (.n) (.n)) (.s (.b (.s (.r (rz 3 0 4)) (.s (.r (rz 3 0 0)) (.b (.lp [83] (.s (.r (rz 1 0 0)) (.s (.c (.n) (.n)) (.s (.b (.s (.r (rz 2 0 0)) (.r (ra 7 0 1024 (.grp 92 true (ri 6 7 64) [98] (.grp 98 false (ri 7 13 4160) [105] (.grp 92 true (ri 1 20 0) [106] (rz 3 21 32)))))))) (.r (rz 2 0 0)))))))))) (.r (rz 2 0 0)))))))) (.s (.r (rz 4 0 128)) (.s (.r (rz 7 0 2304)) (.c (.s (.r (rz 5 0 512)) (.r (rz 1 0 0))) (.n)))))))) (.r (rz 2 0 0)))))))) (.n)))))))) (.s (.r (rz 2 0 0)) (.n)))))))))))) func61 rfl (by kernel_rfl) (by kernel_rfl) h
def Zi (t0 : Value) (w : World) (K : VW) : Prop:=
 pp (Builtin.len_ #[98] 3 #[t0]) fun t9=>pw w (Instr.makeSlice 28 t9 t9) fun t10 w1=>
 pp (Instr.build 145 #[]) fun t11=>pw w1 (Instr.buildSlice 146 1 #[(0,t11)]) fun t12 w2=>
 px 28 t10 (i6 0) fun t14=>so w2 3 t14 (i6 1) fun w3=>zo [(Value.slice Option.none 0 0),(Value.slice Option.none 0 0),t12] w3 (fun s5 _d6 w7 K4=>
 pp (Builtin.len_ #[146] 3 #[(s5.getD 2 undef)]) fun t16=>bt .gtr 3 t16 (i6 0) fun t17=>zc t17 (pp (Builtin.len_ #[146] 3 #[(s5.getD 2 undef)]) fun t20=>bt .sub 3 t20 (i6 1) fun t21=>px 146 (s5.getD 2 undef) t21 fun t22=>ff w7.drew t22 145 1 3 fun t26=>ff w7.drew t22 145 0 3 fun t31=>xl w7.drew 98 t0 t31 28 fun t33=>pp (Builtin.len_ #[28] 3 #[t33]) fun t34=>bf .eql 3 t26 t34 fun t35=>zc t35 (ff w7.drew t22 145 0 3 fun t40=>px 28 t10 t40 fun t41=>so w7.drew 3 t41 (i6 2) fun w8=>ff w8 t22 145 0 3 fun t46=>pw w8 (Instr.buildSlice 28 1 #[(0,t46)]) fun t47 w9=>
 pw w9 (Builtin.append_ #[28,28] 28 #[(s5.getD 0 undef),t47]) fun t48 w10=>
 pp (Builtin.len_ #[146] 3 #[(s5.getD 2 undef)]) fun t51=>bt .sub 3 t51 (i6 1) fun t52=>pp (Instr.sliceAt 146 (s5.getD 2 undef) none (some t52) none) fun t53=>K4 [t48,(s5.getD 1 undef),t53] w10) (ff w7.drew.drew t22 145 0 3 fun t58=>xl w7.drew.drew 98 t0 t58 28 fun t60=>ff w7.drew.drew t22 145 1 3 fun t64=>xl w7.drew.drew 28 t60 t64 3 fun t66=>ff w7.drew.drew t22 145 1 3 fun t70=>bt .add 3 t70 (i6 1) fun t71=>fa t22 145 1 fun t73=>so w7.drew.drew 3 t73 t71 fun w11=>xl w11 28 t10 t66 3 fun t77=>bt .eql 3 t77 (i6 1) fun t79=>zc t79 (ff w11 t22 145 0 3 fun t84=>pp (Instr.build 52 #[(0,t84),(1,t66)]) fun t86=>pw w11 (Instr.buildSlice 46 1 #[(0,t86)]) fun t87 w12=>
 pw w12 (Builtin.append_ #[46,46] 46 #[(s5.getD 1 undef),t87]) fun t88 w13=>
 K4 [(s5.getD 0 undef),t88,(s5.getD 2 undef)] w13) (bt .eql 3 t77 (i6 0) fun t90=>zc t90 (px 28 t10 t66 fun t93=>so w11 3 t93 (i6 1) fun w14=>pp (Instr.build 145 #[(0,t66)]) fun t96=>pw w14 (Instr.buildSlice 146 1 #[(0,t96)]) fun t97 w15=>
 pw w15 (Builtin.append_ #[146,146] 146 #[(s5.getD 2 undef),t97]) fun t98 w16=>
 K4 [(s5.getD 0 undef),(s5.getD 1 undef),t98] w16) (K4 [(s5.getD 0 undef),(s5.getD 1 undef),(s5.getD 2 undef)] w11)))) (ca x9 #[(s5.getD 0 undef)] w7 fun _t100 w17=>
 K (.tuple #[(s5.getD 0 undef),(s5.getD 1 undef)]) w17))
theorem Qf {t0 : Value} {w : World} {K : VW} (h : Zi t0 w K) : ze prog yW #[t0] w K:=
 okC false (.s (.r (rz 2 0 0)) (.s (.r (rz 4 0 32)) (.s (.r (rz 3 0 8)) (.s (.r (rz 3 0 32)) (.s (.b (.lp [2,3,5] (.s (.s (.r (rz 3 0 0)) (.c (.n) (.n))) (.b (.s (.r (rz 6 0 0)) (.s (.s (.r (rz 13 0 1114176)) (.c (.s (.r (rz 7 0 8448)) (.s (.r (rz 8 0 10496)) (.s (.r (rz 6 0 0)) (.n)))) (.n))) (.s (.r (rz 14 0 17830144)) (.s (.r (rz 8 0 32832)) (.s (.r (rz 4 0 64)) (.b (.s (.r (rz 2 0 0)) (.c (.r (rz 10 0 164096)) (.s (.r (rz 2 0 0)) (.c (.s (.r (rz 4 0 128)) (.r (rz 6 0 640))) (.n))))))))))))))) (.s (.r (rz 2 0 8)) (.s (.r (rz 4 0 0)) (.n)))))))) func67 rfl (by kernel_rfl) (by kernel_rfl) h
def vD (t0 t1 : Value) (w : World) (K : VW) : Prop:=
 bt .lss 3 t0 (i6 0) fun t5=>za (fun K1=>gIf t5 false (lo w 98 t1 fun t8=>pp (Builtin.len_ #[98] 3 #[t8]) fun t9=>bf .geq 3 t0 t9 fun t10=>K1 [t10] w) (K1 [undef] w)) (fun s2 _d3 w4=>
 zb t5 tr_ (s2.getD 0 undef) fun t11=>K t11 w4)
theorem XB {t0 t1 : Value} {w : World} {K : VW} (h : vD t0 t1 w K) : ze prog XY #[t0,t1] w K:=
 okC false (.s (.r (rz 1 0 0)) (.s (.r (ra 3 0 0 (.grp 6 false (ri 4 3 4) [10] (rz 2 7 0)))) (.n))) func96 rfl (by kernel_rfl) (by kernel_rfl) h
end Go.Proofs.Tryz
end
section
namespace Go.Proofs
open Go.Sh Go.RowKit
set_option maxRecDepth 100000
set_option linter.unusedSimpArgs false
set_option linter.unusedVariables false
theorem qV {r : Gh} {p : Option Addr} {k cap : Nat} {n : zd} (h : NetG r (.slice p k cap) n) {i : Nat} (hi : i<n.length) : ∃ b off v,p=some ⟨b,off,none⟩∧k=n.length∧(Ob r fun w=>w.cell? ⟨b,off+i,none⟩=some v)∧SlB 1 r zu v n[i]:=by
 obtain ⟨p',cap',e,_,_⟩:=h.sl.shape
 obtain ⟨b,off,c,hE,hc,hcc,hcl⟩:=h.sl.get (by decide) hi
 obtain ⟨v,rfl,hv⟩:=hcc
 cases e
 cases hE
 refine ⟨b,off,v,rfl,rfl,?_,hv⟩
 have:=hcl 0 _ rfl
 rwa [show off+i*1+0=off+i by omega] at this
theorem Z4 {n : zd} {l : List Int} {v u : Value} {w : World} {r : Gh} {K : Value→World→Prop} (hr : Holds r w) (hn : NetG r v n) (hl : SlG 1 r zu u l) (hf : l.length≤1000000)
  (h : ∀ w',Ext w w'→K (.bool (decide (∀ x ∈ l,isN n x))) w') : ze Tryz.prog Tryz.yb #[v,u] w K:=by
 refine Tryz.QY ?_
 unfold Tryz.ZM
 obtain ⟨p,cap,rfl,_,_⟩:=hn.sl.shape
 obtain ⟨q,cap',rfl,_,_⟩:=hl.shape
 have S:=St.start hr
 refine S.box fun b2 w1 S=>?_
 have S : StX noX w r w1 [.cell b2 [.slice p n.length cap] 98]:=S
 refine gp_ ?_
 have hsl : Sl w1 q (ints l):=fun i v hv=>by
  have hi : i<l.length:=by
   have:=(List.getElem?_eq_some_iff.1 hv).1
   rwa [yz] at this
  obtain ⟨b,off,rfl,_,hc⟩:=zw hl hi
  rw [ints,List.getElem?_map,List.getElem?_eq_getElem hi] at hv
  cases hv
  exact ⟨b,off,rfl,S.at hc⟩
 refine qM (f:=fun x=>!decide (isN n x)) (fun x K hK=>?_) hsl (by omega) ?_
 ·refine VA (by kernel_rfl) ?_
  refine Tryz.XB ?_
  unfold Tryz.vD
  refine gg_ ?_
  refine zk (c:=decide ((n.length : Int)≤x)) (fun _ K2 hK2=>by refine gg_ ?_;exact hK2) ?_
  have e : (decide (x<0)||decide ((n.length : Int)≤x)) = !decide (isN n x):=by
   by_cases hx : isN n x
   ·have h1:=hx.1;have h2:=hx.2
    rw [decide_eq_true hx,decide_eq_false (by omega),decide_eq_false (by omega)];rfl
   ·rw [decide_eq_false hx]
    by_cases h1 : x<0
    ·rw [decide_eq_true h1];rfl
    ·have h2 : (n.length : Int)≤x:=by
      refine Int.not_lt.1 fun h2=>hx ⟨by omega,h2⟩
     rw [decide_eq_true h2,Bool.or_true];rfl
  rw [e];exact hK
 refine gp_ ?_
 have:=h _ S.ext
 have e : (decide (∀ x ∈ l,isN n x)) = !(l.any fun x=>!decide (isN n x)):=by
  rw [Bool.eq_iff_iff]
  simp
 rwa [e] at this
theorem adZ {m : List Bool} {i : Nat} (hi : i<m.length) : mkd (m.take (i+1))=mkd (m.take i)++(if m[i]=true then [(i : Int)] else []):=by
 have hl : (m.take (i+1)).length=i+1:=by rw [List.length_take];omega
 have hl' : (m.take i).length=i:=by rw [List.length_take];omega
 rw [mkd,mkd,hl,hl',List.range_succ,List.filter_append,List.map_append]
 congr 1
 ·congr 1
  refine List.filter_congr fun x hx=>?_
  have:=List.mem_range.1 hx
  rw [List.getD_eq_getElem?_getD,List.getD_eq_getElem?_getD,List.getElem?_take,List.getElem?_take,if_pos (by omega),if_pos this]
 ·have e : (m.take (i+1)).getD i false=m[i]:=by
   rw [List.getD_eq_getElem?_getD,List.getElem?_take,if_pos (by omega),List.getElem?_eq_getElem hi];rfl
  cases hm : m[i] with
  |true=>rw [List.filter_cons_of_pos (by rw [e,hm])];simp
  |false=>rw [List.filter_cons_of_neg (by rw [e,hm];simp)];simp
theorem abc {m : List Bool} : (mkd m).length≤m.length:=by
 rw [mkd,List.length_map];exact Nat.le_trans (List.length_filter_le _ _) (by simp)
theorem kf {l : List Int} {x : Int} : ints (l ++ [x])=ints l ++ [.int .i64 x]:=by simp [ints]
theorem Z5 {m : List Bool} {v : Value} {w : World} {r : Gh} {K : Value→World→Prop} (hr : Holds r w) (hm : SlG 1 r kV v m) (hf : m.length≤1000000)
  (h : ∀ v' s w',Ext w w'→New w s w'→SlG 1 s zu v' (mkd m)→K v' w') : ze Tryz.prog Tryz.yr #[v] w K:=by
 refine Tryz.Jz ?_
 unfold Tryz.Yl
 obtain ⟨p,cap,rfl,_,_⟩:=hm.shape
 have S:=St.start hr
 have S:=S.ownNil 3 1
 refine gp_ ?_
 refine zh (ι:=Nat × Value) (fun i=>[i.2,.int .i64 (i.1 : Nat)]) (fun i w'=>i.1≤m.length∧StX noX w r w' [.row i.2 3 1 (mkd (m.take i.1)).length (ints (mkd (m.take i.1)))]) (fun i=>m.length - i.1) (0,.slice none 0 0) rfl ⟨Nat.zero_le _,S⟩ ?_
 repeat clear S
 rintro ⟨i,vp⟩ d w1 ⟨hi,S⟩ K1 hK1
 simp only at hi S ⊢
 simp only [List.getD_cons_zero,List.getD_cons_succ]
 refine gp_ ?_
 refine zm (fun hlt=>?_) (fun hge=>?_)
 ·have hlt : i<m.length:=by omega
  obtain ⟨b,off,rfl,_,hc⟩:=ZL hm hlt
  have hsn:=adZ hlt
  have hml : (mkd (m.take i)).length≤1000000:=Nat.le_trans abc (by rw [List.length_take];omega)
  refine zs (fun s w'=>∃ vq,s = [vq]∧StX noX w r w' [.row vq 3 1 (mkd (m.take (i+1))).length (ints (mkd (m.take (i+1))))]) (fun K5 hK5=>?_) ?_
  ·refine gg_ ?_
   refine zj (by rw [Int.toNat_natCast];exact S.at hc) ?_
   refine c_b (fun hb=>?_) (fun hb=>?_)
   ·refine S.lit (e:=3) (cs:=[.int .i64 (i : Nat)]) (by kernel_rfl) fun b2 w2 S=>?_
    refine S.ap (m':=1) (Sl.blk (S.blk b2)) (fun v4 w3 S=>?_) (by omega)
    have S:=S.drop b2
    refine hK5 _ _ ⟨v4,rfl,?_⟩
    rw [hsn,if_pos hb,kf,List.length_append];exact S
   ·refine hK5 _ _ ⟨vp,rfl,?_⟩
    rw [hsn,if_neg (by rw [hb];simp),List.append_nil];exact S
  rintro s w2 ⟨vq,rfl,S⟩ d
  simp only [List.getD_cons_zero]
  refine gp_ ?_
  exact hK1 (i+1,vq) _ ⟨hlt,S⟩ (by show m.length - (i+1)<m.length - i;omega)
 have hie : i=m.length:=by omega
 subst hie
 rw [List.take_length] at S
 obtain ⟨s,T,hs,_,hab⟩:=S.doneRow xa (by decide) rfl
 exact h _ s _ T.ext (StX.newOf (q:=s) T fun b o ho=>(hab b o ho).resolve_right id) hs
theorem ad0 {n : zd} {q : Int} {i : Nat} (hi : i<n.length) : befN (n.take (i+1)) q=befN (n.take i) q++(if q ∈ n[i] then [(i : Int)] else []):=by
 have hl : (n.take (i+1)).length=i+1:=by rw [List.length_take];omega
 have hl' : (n.take i).length=i:=by rw [List.length_take];omega
 rw [befN,befN,hl,hl',List.range_succ,List.filter_append,List.map_append]
 congr 1
 ·congr 1
  refine List.filter_congr fun x hx=>?_
  have:=List.mem_range.1 hx
  rw [List.getD_eq_getElem?_getD,List.getD_eq_getElem?_getD,List.getElem?_take,List.getElem?_take,if_pos (by omega),if_pos this]
 ·have e : (n.take (i+1)).getD i []=n[i]:=by
   rw [List.getD_eq_getElem?_getD,List.getElem?_take,if_pos (by omega),List.getElem?_eq_getElem hi];rfl
  by_cases hm : q ∈ n[i]
  ·rw [List.filter_cons_of_pos (by rw [e,List.contains_iff_mem];exact hm),if_pos hm];simp
  ·rw [List.filter_cons_of_neg (by rw [e,List.contains_iff_mem];exact hm),if_neg hm];simp
theorem Xn {n : zd} {q : Int} : (befN n q).length≤n.length:=by
 rw [befN,List.length_map];exact Nat.le_trans (List.length_filter_le _ _) (by simp)
theorem Qg {n : zd} {q : Int} {v : Value} {w : World} {r : Gh} {K : Value→World→Prop} (hr : Holds r w) (hn : NetG r v n) (hf : n.length≤1000000)
  (h : ∀ v' s w',Ext w w'→New w s w'→SlG 1 s zu v' (befN n q)→K v' w') : ze Tryz.prog Tryz.yJ #[v,.int .i64 q] w K:=by
 refine Tryz.YU ?_
 unfold Tryz.jQ
 obtain ⟨p,cap,rfl,_,_⟩:=hn.sl.shape
 have S:=St.start hr
 have S:=S.ownNil 3 1
 refine gp_ ?_
 refine zh (ι:=Nat × Value) (fun i=>[i.2,.int .i64 (i.1 : Nat)]) (fun i w'=>i.1≤n.length∧StX noX w r w' [.row i.2 3 1 (befN (n.take i.1) q).length (ints (befN (n.take i.1) q))]) (fun i=>n.length - i.1) (0,.slice none 0 0) rfl ⟨Nat.zero_le _,S⟩ ?_
 repeat clear S
 rintro ⟨i,vp⟩ d w1 ⟨hi,S⟩ K1 hK1
 simp only at hi S ⊢
 simp only [List.getD_cons_zero,List.getD_cons_succ]
 refine gp_ ?_
 refine zm (fun hlt=>?_) (fun hge=>?_)
 ·have hlt : i<n.length:=by omega
  obtain ⟨b,off,u,rfl,_,hc,hu⟩:=qV hn hlt
  have hsn:=ad0 (q:=q) hlt
  have hml : (befN (n.take i) q).length≤1000000:=Nat.le_trans Xn (by rw [List.length_take];omega)
  refine zs (fun s w'=>∃ vq,s = [vq]∧StX noX w r w' [.row vq 3 1 (befN (n.take (i+1)) q).length (ints (befN (n.take (i+1)) q))]) (fun K5 hK5=>?_) ?_
  ·refine gg_ ?_
   refine zj (by rw [Int.toNat_natCast];exact S.at hc) ?_
   refine kt S.holds hu.sl hu.few ?_
   refine zm (fun hb=>?_) (fun hb=>?_)
   ·refine S.lit (e:=3) (cs:=[.int .i64 (i : Nat)]) (by kernel_rfl) fun b2 w2 S=>?_
    refine S.ap (m':=1) (Sl.blk (S.blk b2)) (fun v4 w3 S=>?_) (by omega)
    have S:=S.drop b2
    refine hK5 _ _ ⟨v4,rfl,?_⟩
    rw [hsn,if_pos hb,kf,List.length_append];exact S
   ·refine hK5 _ _ ⟨vp,rfl,?_⟩
    rw [hsn,if_neg hb,List.append_nil];exact S
  rintro s w2 ⟨vq,rfl,S⟩ d
  simp only [List.getD_cons_zero]
  refine gp_ ?_
  exact hK1 (i+1,vq) _ ⟨hlt,S⟩ (by show n.length - (i+1)<n.length - i;omega)
 have hie : i=n.length:=by omega
 subst hie
 rw [List.take_length] at S
 obtain ⟨s,T,hs,_,hab⟩:=S.doneRow xa (by decide) rfl
 exact h _ s _ T.ext (StX.newOf (q:=s) T fun b o ho=>(hab b o ho).resolve_right id) hs
end Go.Proofs
end
section
namespace Go.Proofs
open Go.Sh Go.RowKit
set_option maxRecDepth 100000
set_option linter.unusedSimpArgs false
set_option linter.unusedVariables false
set_option maxHeartbeats 1000000 in
theorem y5 {u : UnD} {n : Int} {v : Value} {w : World} {r : Gh} {K : Value→World→Prop} (hr : Holds r w) (hu : UnG r v u)
  (h : ∀ v' s w',Ext w w'→New w s w'→(fnE u n=0→∃ hn : n.toNat<u.fs.length,NetG s v' (zg u.fs[n.toNat]))→K (.tuple #[v',.int .i64 (fnE u n)]) w') : ze Tryz.prog Tryz.yC #[v,.int .i64 n] w K:=by
 refine Tryz.abU ?_
 unfold Tryz.J3
 have hu0:=hu
 obtain ⟨p0,cap0,vf,rfl,_,_,hst,hsl,hfn⟩:=hu
 obtain ⟨qf,capf,rfl,_,_⟩:=hfn.sl.shape
 have S:=St.start hr
 refine S.box fun b2 w1 S=>?_
 have S : StX noX w r w1 [.cell b2 [.slice p0 u.ss.length cap0,.slice qf u.fs.length capf,.int .i64 u.mn] 25]:=S
 refine gp_ ?_
 refine zk (c:=decide ((u.fs.length : Int)≤n)) (fun _ K2 hK2=>by refine gg_ ?_;exact hK2) ?_
 refine kG (c:=!Jr u) (fun _ K2 hK2=>?_) fun w5 e5=>?_
 ·refine S.ldB (b:=b2) ?_ rfl
  refine XP S.holds hu0 fun w5 e5=>?_
  refine gp_ ?_
  exact hK2 _ e5
 have S:=S.go e5
 refine c_b (fun hbad=>?_) (fun hgood=>?_)
 ·have hE : fnE u n=2:=by rw [fnE,if_pos hbad]
  rw [hE] at h
  exact h _ nothing _ S.ext New.nothing (fun h=>by cases h)
 have hE : fnE u n=0:=by rw [fnE,if_neg (by rw [hgood];simp)]
 rw [hE] at h
 obtain ⟨hM,hn0,hlt⟩:=QT hE
 simp only [Bool.or_eq_false_iff,decide_eq_false_iff_not,Bool.not_eq_false'] at hgood
 obtain ⟨⟨_,hn1⟩,_⟩:=hgood
 obtain ⟨bf,of,cf,hqE,hcf,hgc,hfo⟩:=hfn.sl.get (by decide) hlt
 cases hqE
 have hp24:=(hM.hd hlt).pt1024
 generalize hg : u.fs[n.toNat]=g at hgc hp24
 obtain ⟨x1,x2,x3,x4,y1,y2,y3,y4,rfl,hg0⟩:=Xm hgc
 obtain ⟨_,_,_,_,hEE,m1,m2,m3,m4⟩:=id hg0
 cases hEE
 refine gg_ ?_
 refine zj (S.at (hfo 6 _ rfl)) ?_
 refine gg_ ?_
 have S:=S.ownNil 28 1
 refine zh (ι:=Nat × Value × Gh × List Value) (fun i=>[i.2.1,.int .i64 (i.1 : Nat)])
  (fun i w'=>i.1≤g.pts.length∧Above w i.2.2.1∧RowOf 1 (RowC i.2.2.1) i.2.2.2 ((zg g).take i.1)∧StX noX w (r.or i.2.2.1) w' [.row i.2.1 28 1 i.1 i.2.2.2,.cell b2 [.slice p0 u.ss.length cap0,.slice (some ⟨bf,of,none⟩) u.fs.length capf,.int .i64 u.mn] 25])
  (fun i=>g.pts.length - i.1) (0,.slice none 0 0,nothing,[]) rfl ⟨Nat.zero_le _,Above.no,by simpa using RowOf.nil,S.to _⟩ ?_
 repeat clear S
 rintro ⟨i,vr,s,xs⟩ d w6 ⟨hi,ha,hR,S⟩ K11 hK11
 simp only at hi ha hR S ⊢
 simp only [List.getD_cons_zero,List.getD_cons_succ]
 refine gg_ ?_
 refine zm (fun hlt2=>?_) (fun hge=>?_)
 ·have hlt2 : i<g.pts.length:=by omega
  have hil : i<(zg g).length:=by rw [yH];exact hlt2
  obtain ⟨bp,op,cp,hqp,hcp,hpc,hpo⟩:=m4.sl.get (by decide) hlt2
  cases hqp
  have hni : (zg g)[i]=yE g.pts[i]:=by simp [zg]
  have htk : (zg g).take (i+1)=(zg g).take i ++ [yE g.pts[i]]:=by rw [List.take_succ_eq_append_getElem hil,hni]
  generalize g.pts[i]=p at hpc htk
  obtain ⟨z1,z2,z3,z4,z5,t1,t2,t3,t4,t5,rfl,hp0⟩:=Jw hpc
  refine zs (fun x w'=>∃ vq s' xs',x = [vq]∧Above w s'∧RowOf 1 (RowC s') xs' ((zg g).take (i+1))∧StX noX w (r.or s') w' [.row vq 28 1 (i+1) xs',.cell b2 [.slice p0 u.ss.length cap0,.slice (some ⟨bf,of,none⟩) u.fs.length capf,.int .i64 u.mn] 25]) (fun K15 hK15=>?_) ?_
  ·refine gg_ ?_
   refine zQ (n:=21) hcp (fun j v hj=>by rw [Int.toNat_natCast];exact S.at (hpo j v hj)) ?_
   refine S.al fun b8 w7 S=>?_
   refine S.stB (b:=b8) fun w8 S=>?_
   have S : StX noX w (r.or s) w8 [.cell b8 (ptL p z1 z2 z3 z4 z5 t1 t2 t3 t4 t5) 87,.row vr 28 1 i xs,.cell b2 [.slice p0 u.ss.length cap0,.slice (some ⟨bf,of,none⟩) u.fs.length capf,.int .i64 u.mn] 25]:=S
   refine gg_ ?_
   refine zm (fun h14=>?_) (fun h14=>?_)
   ·have hnp : yE p = []:=by rw [yE,if_pos h14]
    have S:=S.drop b8
    refine S.lit (e:=28) (cs:=[.slice none 0 0]) (by kernel_rfl) fun b9 w9 S=>?_
    refine S.ap (v:=vr) (m':=1) (Sl.blk (S.blk b9)) (fun v4 w10 S=>?_) (by omega)
    refine hK15 _ _ ⟨v4,s,xs ++ [.slice none 0 0],rfl,ha,?_,S.drop b9⟩
    rw [htk,hnp]
    exact hR.snoc rfl ⟨_,rfl,SlG.nil,Nat.zero_le _⟩
   ·refine gg_ ?_
    refine zi (c:=decide (p.el≠p.nx)) (fun _ K2 hK2=>by refine gg_ ?_;exact hK2) ?_
    refine c_b (fun hc=>?_) (fun hc=>?_)
    ·simp only [Bool.and_eq_true,decide_eq_true_eq] at hc
     have hnp : yE p = [p.nx,p.el]:=by rw [yE,if_neg h14,if_pos ⟨hc.1,fun e=>hc.2 e.symm⟩]
     refine gg_ ?_
     have S:=S.drop b8
     refine S.lit (e:=3) (cs:=[.int .i64 p.nx,.int .i64 p.el]) (by kernel_rfl) fun b9 w9 S=>?_
     obtain ⟨S,hs,hb9⟩:=S.litNew b9 (sz:=1) (R:=zu) (l:=[p.nx,p.el]) (xw (c:=[.int .i64 p.nx]) rfl rfl (zG rfl rfl)) (by decide)
     refine S.lit (e:=28) (cs:=[.slice (some ⟨b9,0,none⟩) 2 2]) (by kernel_rfl) fun b10 w10 S=>?_
     refine S.ap (v:=vr) (m':=1) (Sl.blk (S.blk b10)) (fun v4 w11 S=>?_) (by omega)
     refine hK15 _ _ ⟨v4,s.or (Go.Sh.one b9 [.int .i64 p.nx,.int .i64 p.el] 3),_,rfl,ha.or' hb9,?_,(S.drop b10).reGh⟩
     rw [htk,hnp]
     exact (hR.mono fun _ _ h=>RowC.up h).snoc rfl ⟨_,rfl,(show SlG 1 (Go.Sh.one b9 [.int .i64 p.nx,.int .i64 p.el] 3) zu _ _ from hs).cells,show (2 : Nat)≤maxLen by decide⟩
    ·have hnp : yE p = [p.nx]:=by
      simp only [Bool.and_eq_false_iff,decide_eq_false_iff_not] at hc
      rw [yE,if_neg h14,if_neg (by rintro ⟨h1,h2⟩;rcases hc with hc|hc;exact hc h1;exact hc fun e=>h2 e.symm)]
     refine gg_ ?_
     have S:=S.drop b8
     refine S.lit (e:=3) (cs:=[.int .i64 p.nx]) (by kernel_rfl) fun b9 w9 S=>?_
     obtain ⟨S,hs,hb9⟩:=S.litNew b9 (sz:=1) (R:=zu) (l:=[p.nx]) (zG rfl rfl) (by decide)
     refine S.lit (e:=28) (cs:=[.slice (some ⟨b9,0,none⟩) 1 1]) (by kernel_rfl) fun b10 w10 S=>?_
     refine S.ap (v:=vr) (m':=1) (Sl.blk (S.blk b10)) (fun v4 w11 S=>?_) (by omega)
     refine hK15 _ _ ⟨v4,s.or (Go.Sh.one b9 [.int .i64 p.nx] 3),_,rfl,ha.or' hb9,?_,(S.drop b10).reGh⟩
     rw [htk,hnp]
     exact (hR.mono fun _ _ h=>RowC.up h).snoc rfl ⟨_,rfl,hs.cells,show (1 : Nat)≤maxLen by decide⟩
  rintro x w9 ⟨vq,s',xs',rfl,ha',hR',S⟩ d
  simp only [List.getD_cons_zero]
  refine gp_ ?_
  exact hK11 (i+1,vq,s',xs') _ ⟨hlt2,ha',hR',S⟩ (by show g.pts.length - (i+1)<g.pts.length - i;omega)
 have hie : i=g.pts.length:=by omega
 subst hie
 rw [← yH,List.take_length] at hR
 rw [← yH] at S
 obtain ⟨s2,T,hs,_,hab⟩:=S.doneRow hR (by decide) rfl
 refine h _ (s.or s2) _ T.ext (StX.newOf (q:=s.or s2) T.reGh (ha.or' fun b o ho=>(hab b o ho).resolve_right id)) fun _=>⟨hlt,?_⟩
 rw [hg]
 exact ⟨hs.up' inferInstance fun _ _ h=>RowC.up h,by rw [yH];exact Nat.le_trans hp24 (by decide)⟩
theorem qW {m : List Bool} {q : Int} (h : 0≤q) : (bls m).set (0+q.toNat) (.bool true)=bls (zA m q):=by
 rw [Nat.zero_add,bls,bls,zA,List.map_set]
theorem acR {m : List Bool} {q : Int} (h : q.toNat<m.length) : (bls m)[0+q.toNat]? = some (.bool (mk' m q)):=by
 rw [Nat.zero_add,bls,List.getElem?_map,mk',List.getD_eq_getElem?_getD,List.getElem?_eq_getElem h];rfl
theorem abd {k : Nat} : List.replicate k (Value.bool false)=bls (List.replicate k false):=by simp [bls]
set_option maxHeartbeats 1000000 in
theorem acS {n : zd} {q : Int} {v : Value} {w : World} {r : Gh} {K : Value→World→Prop} (hr : Holds r w) (hn : NetG r v n) (hok : zM n) (hq : isN n q) (hf : n.length≤100000)
  (h : ∀ v' s w',Ext w w'→New w s w'→SlG 1 s kV v' (y7 n zr q)→K v' w') : ze Tryz.prog Tryz.x7 #[v,.int .i64 q,.func (.func Tryz.Yx) #[] #[]] w K:=by
 refine Tryz.Yq ?_
 unfold Tryz.jv
 obtain ⟨p,cap,rfl,_,_⟩:=hn.sl.shape
 have q0:=hq.1;have q1:=hq.2
 have S:=St.start hr
 refine gp_ ?_
 refine S.mkS (by omega) (by omega) fun b14 w1 S=>?_
 rw [Int.toNat_natCast] at S ⊢
 rw [abd] at S
 refine S.lit (e:=3) (cs:=[.int .i64 q]) (by kernel_rfl) fun b16 w2 S=>?_
 have S:=S.toRow 1 1 rfl (by decide)
 have S:=S.toQue (.slice (some ⟨b16,0,none⟩) 1 1)
 refine gp_ ?_
 refine S.st (b:=b14) (fun w3 S=>?_) (by rw [kr,List.length_replicate];omega)
 have S : StX noX w r w3 [.que (.slice (some ⟨b16,0,none⟩) 1 1) 3 1 1 (ints [q]),.cell b14 (bls (zA (List.replicate n.length false) q)) 4]:=by
  rw [← qW q0];exact S
 have hB:=Bfs.start (stop:=zr) hq
 refine zh (ι:=Value × List Bool × List Int) (fun i=>[i.1]) (fun i w'=>Bfs n zr q noE i.2.1 i.2.2∧2*off i.2.1+i.2.2.length≤2*n.length+1∧StX noX w r w' [.que i.1 3 1 i.2.2.length (ints i.2.2),.cell b14 (bls i.2.1) 4])
  (fun i=>2*off i.2.1+i.2.2.length) (.slice (some ⟨b16,0,none⟩) 1 1,zA (List.replicate n.length false) q,[q]) rfl ⟨hB,?_,S⟩ ?_
 ·have:=aaW (m:=List.replicate n.length false) (q:=q) (by rw [List.length_replicate];omega) (by rw [mk',List.getD_eq_getElem?_getD,List.getElem?_replicate];split<;>rfl)
  rw [aeB] at this
  simp only [List.length_singleton];omega
 repeat clear S
 clear hB
 rintro ⟨vq,m,qs⟩ d w4 ⟨hB,hms,S⟩ K4 hK4
 simp only at hB hms S ⊢
 rw [List.getD_cons_zero]
 obtain ⟨pq,capq,rfl,hp0,hcq,_,hsl⟩:=S.queS vq
 refine gP_ ?_
 refine gP_ ?_
 refine c_b (fun hpos=>?_) (fun hz=>?_)
 ·have hpos : 0<qs.length:=by simpa using hpos
  cases qs with
  |nil=>simp at hpos
  |cons x qs=>
   obtain ⟨bq,oq,rfl,hcell⟩:=ZI hsl hpos
   obtain ⟨hx,_,_⟩:=hB.todo x List.mem_cons_self
   have x0:=hx.1;have x1:=hx.2
   refine gP_ ?_
   refine zj (by simpa using hcell) ?_
   refine S.loQ (by omega) (by omega) hpos fun v' S=>?_
   have S : StX noX w r w4 [.que v' 3 1 qs.length (ints qs),.cell b14 (bls m) 4]:=S
   refine aew (by kernel_rfl) ?_
   refine Tryz.Vt ?_
   unfold Tryz.YV
   refine zi (c:=false) (fun h=>by cases h) ?_
   refine c_f (by rfl) ?_
   have hxl : x.toNat<n.length:=by omega
   obtain ⟨bn,on,u,rfl,_,hcn,hu⟩:=qV hn hxl
   have hnx : nxt n x=n[x.toNat]:=j6 hx
   obtain ⟨pu,capu,rfl,_,_⟩:=hu.sl.shape
   have huf : n[x.toNat].length≤9223372036854775807:=hu.few
   refine gg_ ?_
   refine zj (S.at hcn) ?_
   refine gg_ ?_
   have hB2:=hB.go hok (.inr id)
   rw [hnx] at hB2
   have hl2 : ∀ y ∈ n[x.toNat],isN n y:=hok _ (List.getElem_mem hxl)
   generalize n[x.toNat]=l at hu huf hB2 hl2
   have hvis : ∀ k,k≤l.length→_:=fun k (hk : k≤l.length)=>VI (n:=n) (l:=l.take k) (m:=m) (qs:=qs) hB.len fun y hy=>hl2 y (List.mem_of_mem_take hy)
   have hqs : qs.length≤2*n.length:=by simp only [List.length_cons] at hms;omega
   refine zh (ι:=Nat × Value) (fun i=>[i.2,.int .i64 (i.1 : Nat)]) (fun i w'=>i.1≤l.length∧StX noX w r w' [.que i.2 3 1 ((l.take i.1).foldl zq (m,qs)).2.length (ints ((l.take i.1).foldl zq (m,qs)).2),.cell b14 (bls ((l.take i.1).foldl zq (m,qs)).1) 4])
    (fun i=>l.length - i.1) (0,v') rfl ⟨Nat.zero_le _,S⟩ ?_
   repeat clear S
   rintro ⟨k,vq2⟩ d w5 ⟨hk,S⟩ K13 hK13
   simp only at hk S ⊢
   simp only [List.getD_cons_zero,List.getD_cons_succ]
   obtain ⟨g1,g2,g3,_,_,_⟩:=hvis k hk
   refine gg_ ?_
   refine zm (fun hlt=>?_) (fun hge=>?_)
   ·have hlt : k<l.length:=by omega
    obtain ⟨bu,ou,rfl,_,hcu⟩:=zw hu.sl hlt
    have hst : (l.take (k+1)).foldl zq (m,qs)=zq ((l.take k).foldl zq (m,qs)) l[k]:=by
     rw [List.take_succ_eq_append_getElem hlt,List.foldl_append];rfl
    have hy:=hl2 l[k] (List.getElem_mem hlt)
    have y0:=hy.1;have y1:=hy.2
    generalize l[k]=y at hcu hst y0 y1
    generalize (l.take k).foldl zq (m,qs)=st at hst S g1 g2 g3
    obtain ⟨m2,qs2⟩:=st
    simp only at S g1 g2 g3
    have ho : off m2≤n.length:=by rw [← g1];exact List.countP_le_length
    refine zs (fun s w'=>∃ v2,s = [v2]∧StX noX w r w' [.que v2 3 1 (zq (m2,qs2) y).2.length (ints (zq (m2,qs2) y).2),.cell b14 (bls (zq (m2,qs2) y).1) 4]) (fun K17 hK17=>?_) ?_
    ·refine gg_ ?_
     refine zj (by rw [Int.toNat_natCast];exact S.at hcu) ?_
     refine gg_ ?_
     refine S.ld (b:=b14) ?_ (acR (by omega))
     refine gp_ ?_
     refine c_b (fun hm=>?_) (fun hm=>?_)
     ·have hm : mk' m2 y=false:=by simpa using hm
      have e : zq (m2,qs2) y=(zA m2 y,qs2 ++ [y]):=by rw [zq,if_neg (by rw [hm];simp)]
      refine gp_ ?_
      refine S.st (b:=b14) (fun w7 S=>?_) (by rw [kr];omega)
      have S : StX noX w r w7 [.que vq2 3 1 qs2.length (ints qs2),.cell b14 (bls (zA m2 y)) 4]:=by
       rw [← qW y0];exact S
      refine S.lit (e:=3) (cs:=[.int .i64 y]) (by kernel_rfl) fun b49 w8 S=>?_
      refine S.apQ (m:=1) (Sl.blk (S.blk b49)) (fun v50 w9 S=>?_) (by omega)
      refine hK17 _ _ ⟨v50,rfl,?_⟩
      rw [e,List.length_append,kf]
      exact S.drop b49
     ·have hm : mk' m2 y=true:=by simpa using hm
      have e : zq (m2,qs2) y=(m2,qs2):=by rw [zq,if_pos hm]
      refine hK17 _ _ ⟨vq2,rfl,?_⟩
      rw [e];exact S
    rintro s w6 ⟨v2,rfl,S⟩ d
    simp only [List.getD_cons_zero]
    refine gp_ ?_
    refine hK13 (k+1,v2) _ ⟨hlt,?_⟩ (by show l.length - (k+1)<l.length - k;omega)
    show StX noX w r w6 [.que v2 3 1 ((l.take (k+1)).foldl zq (m,qs)).2.length (ints ((l.take (k+1)).foldl zq (m,qs)).2),.cell b14 (bls ((l.take (k+1)).foldl zq (m,qs)).1) 4]
    rw [hst];exact S
   have hke : k=l.length:=by omega
   subst hke
   rw [List.take_length] at S g1 g2 g3
   simp only [List.length_cons] at hms
   refine hK4 (vq2,_,_) _ ⟨hB2,by show 2*off (l.foldl zq (m,qs)).1+(l.foldl zq (m,qs)).2.length≤2*n.length+1;omega,S⟩ ?_
   show 2*off (l.foldl zq (m,qs)).1+(l.foldl zq (m,qs)).2.length<2*off m+(x::qs).length
   rw [List.length_cons];omega
 have hqs0 : qs = []:=by
  cases qs with
  |nil=>rfl
  |cons x qs=>simp at hz
 subst hqs0
 have hm:=hB.end hok hq
 subst hm
 have S:=S.tl
 obtain ⟨S,hs,ha⟩:=S.litNew b14 (sz:=1) (R:=kV) (l:=y7 n zr q) ju (by decide)
 rw [qO] at hs
 exact h _ _ _ S.ext (S.newOf ha) hs
end Go.Proofs
end
section
namespace Go.Proofs
set_option linter.unusedVariables false
set_option linter.unusedSimpArgs false
structure DfS where
 st : List Int
 out : List Int
 back : List (Int × Int)
abbrev CfD:=DfS × List (Int × Int)
def stA (s : DfS) (q : Int) : Int:=s.st.getD q.toNat 0
def zK (s : DfS) (p : Int) : DfS:=⟨s.st.set p.toNat 1,s.out,s.back⟩
def leave (s : DfS) (q : Int) : DfS:=⟨s.st.set q.toNat 2,s.out ++ [q],s.back⟩
def ZN (s : DfS) (q p : Int) : DfS:=⟨s.st,s.out,s.back ++ [(q,p)]⟩
def xx (n : zd) : CfD→Option CfD
 |(_,[])=>none
 |(s,(q,i)::r)=>
  if (nxt n q).length≤i.toNat then some (leave s q,r)
  else if stA s ((nxt n q).getD i.toNat 0)=1 then some (ZN s q ((nxt n q).getD i.toNat 0),(q,i+1)::r)
  else if stA s ((nxt n q).getD i.toNat 0)=0 then some (zK s ((nxt n q).getD i.toNat 0),((nxt n q).getD i.toNat 0,0)::(q,i+1)::r)
  else some (s,(q,i+1)::r)
def xy (n : zd) : Nat→CfD→Option CfD
 |0,c=>some c
 |k+1,c=>(xy n k c).bind (xx n)
def Mst (n : zd) (a b : CfD) : Prop:=∃ k,xy n k a=some b
theorem Mst.refl {n : zd} {a : CfD} : Mst n a a:=⟨0,rfl⟩
theorem Mst.tail {n : zd} {a b c : CfD} (h : Mst n a b) (k : xx n b=some c) : Mst n a c:=by
 obtain ⟨m,h⟩:=h
 exact ⟨m+1,by rw [xy,h];exact k⟩
theorem QZ {n : zd} {a : CfD} : ∀ {k m : Nat},k≤m→xy n k a=none→xy n m a=none:=by
 intro k m h
 induction h with
 |refl=>exact id
 |step _ ih=>intro h0;rw [xy,ih h0];rfl
theorem Mst.one {n : zd} {a : CfD} {s s' : DfS} (h : Mst n a (s,[])) (h' : Mst n a (s',[])) : s=s':=by
 obtain ⟨k,h⟩:=h
 obtain ⟨m,h'⟩:=h'
 have hk : xy n (k+1) a=none:=by rw [xy,h];rfl
 have hm : xy n (m+1) a=none:=by rw [xy,h'];rfl
 rcases Nat.lt_trichotomy k m with hlt|rfl|hlt
 ·rw [QZ hlt hk] at h';cases h'
 ·rw [h] at h';cases h';rfl
 ·rw [QZ hlt hm] at h;cases h
def kM (n : zd) (s : DfS) : Nat:=((List.range n.length).map fun (i : Nat)=>if s.st.getD i 0=0 then (n.getD i []).length+1 else 0).sum
def cfW (n : zd) (c : CfD) : Nat:=kM n c.1+(c.2.map fun x=>(nxt n x.1).length+1 - x.2.toNat).sum
structure Dfs (n : zd) (c : CfD) : Prop where
 len : c.1.st.length=n.length
 stack : ∀ x ∈ c.2,isN n x.1∧0≤x.2∧x.2.toNat≤(nxt n x.1).length∧stA c.1 x.1=1
 nodup : (c.2.map Prod.fst).Nodup
theorem xN {s : List Int} {o : List Int} {b : List (Int × Int)} {p x v : Int} (hp : 0≤p) (hp2 : p<s.length) (hx : 0≤x) : stA ⟨s.set p.toNat v,o,b⟩ x=if x=p then v else s.getD x.toNat 0:=by
 rw [stA,List.getD_eq_getElem?_getD,List.getElem?_set]
 by_cases h : x=p
 ·subst h;rw [if_pos rfl,if_pos rfl,if_pos (by omega)];rfl
 ·rw [if_neg (by omega),if_neg h,List.getD_eq_getElem?_getD]
theorem acT {l : List Nat} {f g : Nat→Nat} (h : ∀ i ∈ l,f i≤g i) : (l.map f).sum≤(l.map g).sum:=by
 induction l with
 |nil=>exact Nat.le_refl _
 |cons a l ih=>
  have:=h a List.mem_cons_self
  have:=ih fun i hi=>h i (List.mem_cons_of_mem _ hi)
  simp only [List.map_cons,List.sum_cons];omega
theorem ad1 {l : List Nat} {f g : Nat→Nat} {k w : Nat} (hk : k ∈ l) (hn : l.Nodup) (h : ∀ i ∈ l,i≠k→f i≤g i) (hw : f k+w≤g k) : (l.map f).sum+w≤(l.map g).sum:=by
 induction l with
 |nil=>cases hk
 |cons a l ih=>
  simp only [List.map_cons,List.sum_cons]
  have hn':=List.nodup_cons.1 hn
  rcases List.mem_cons.1 hk with rfl|hk
  ·have:=acT (l:=l) (f:=f) (g:=g) fun i hi=>h i (List.mem_cons_of_mem _ hi) fun e=>hn'.1 (e ▸ hi)
   omega
  ·have:=h a List.mem_cons_self fun e=>hn'.1 (e ▸ hk)
   have:=ih hk hn'.2 fun i hi=>h i (List.mem_cons_of_mem _ hi)
   omega
theorem ad2 {n : zd} {s s' : DfS} (h : ∀ i,s'.st.getD i 0=0→s.st.getD i 0=0) : kM n s'≤kM n s:=by
 refine acT fun i _=>?_
 split
 ·rename_i h0;rw [if_pos (h i h0)];omega
 ·exact Nat.zero_le _
theorem abV {n : zd} {s : DfS} {p : Int} (hl : s.st.length=n.length) (hp : isN n p) (h0 : stA s p=0) : kM n (zK s p)+((nxt n p).length+1)≤kM n s:=by
 have p0:=hp.1;have p1:=hp.2
 refine ad1 (k:=p.toNat) (List.mem_range.2 (by omega)) List.nodup_range (fun i hi hne=>?_) ?_
 ·have : (zK s p).st.getD i 0=s.st.getD i 0:=by
   rw [zK,List.getD_eq_getElem?_getD,List.getElem?_set_ne (by omega),List.getD_eq_getElem?_getD]
  rw [this];exact Nat.le_refl _
 ·have e1 : (zK s p).st.getD p.toNat 0=1:=by
   rw [zK,List.getD_eq_getElem?_getD,List.getElem?_set_self (by omega)];rfl
  have e2 : s.st.getD p.toNat 0=0:=h0
  rw [e1,e2,if_neg (by omega),if_pos rfl]
  show 0+((n.getD p.toNat []).length+1)≤_
  omega
theorem Qh {l : List Int} {i : Nat} (h : i<l.length) : l.getD i 0 ∈ l:=by
 rw [List.getD_eq_getElem?_getD,List.getElem?_eq_getElem h];exact List.getElem_mem h
theorem Dfs.step {n : zd} (hn : zM n) {c d : CfD} (h : Dfs n c) (k : xx n c=some d) : Dfs n d∧cfW n d<cfW n c:=by
 obtain ⟨s,l⟩:=c
 cases l with
 |nil=>cases k
 |cons x l=>
  obtain ⟨q,i⟩:=x
  obtain ⟨hq,hi0,hi1,hq1⟩:=h.stack (q,i) List.mem_cons_self
  have hl:=h.len
  have hrest : ∀ x ∈ l,isN n x.1∧0≤x.2∧x.2.toNat≤(nxt n x.1).length∧stA s x.1=1:=fun x hx=>h.stack x (List.mem_cons_of_mem _ hx)
  have q0 : 0≤q:=hq.1
  have q1 : q<s.st.length:=by rw [hl];exact hq.2
  dsimp only at hi0 hi1 hl hq1
  have hnd : q ∉ l.map Prod.fst∧(l.map Prod.fst).Nodup:=List.nodup_cons.1 h.nodup
  simp only [xx] at k
  split at k
  ·cases k
   rename_i h1
   refine ⟨⟨by simp only [leave,List.length_set];exact hl,fun x hx=>?_,hnd.2⟩,?_⟩
   ·obtain ⟨a,b,c,d⟩:=hrest x hx
    refine ⟨a,b,c,?_⟩
    have hne : x.1≠q:=fun e=>hnd.1 (List.mem_map.2 ⟨x,hx,e⟩)
    rw [leave,xN q0 q1 a.1,if_neg hne]
    exact d
   ·have : kM n (leave s q)≤kM n s:=ad2 fun j hj=>by
     rw [leave,List.getD_eq_getElem?_getD,List.getElem?_set] at hj
     split at hj
     ·rename_i e
      subst e
      rw [if_pos (by omega)] at hj
      cases hj
     ·rw [List.getD_eq_getElem?_getD];exact hj
    simp only [cfW,List.map_cons,List.sum_cons]
    omega
  rename_i h1
  have hp:=zR hn (Qh (l:=nxt n q) (i:=i.toNat) (by omega))
  generalize hpe : (nxt n q).getD i.toNat 0=p at k hp
  have p0 : 0≤p:=hp.1
  have p1 : p<s.st.length:=by rw [hl];exact hp.2
  have hi2 : (i+1).toNat=i.toNat+1:=by omega
  split at k
  ·cases k
   refine ⟨⟨hl,fun x hx=>?_,h.nodup⟩,?_⟩
   ·rcases List.mem_cons.1 hx with rfl|hx
    ·exact ⟨hq,by show 0≤i+1;omega,by show (i+1).toNat≤(nxt n q).length;omega,hq1⟩
    ·exact hrest x hx
   ·simp only [cfW,List.map_cons,List.sum_cons,hi2]
    have : kM n (ZN s q p)=kM n s:=rfl
    omega
  rename_i h2
  split at k
  ·rename_i h3
   cases k
   have hst : ∀ x,isN n x→stA s x=1→stA (zK s p) x=1:=fun x hx h=>by
    rw [zK,xN p0 p1 hx.1]
    split
    ·rfl
    ·exact h
   refine ⟨⟨by simp only [zK,List.length_set];exact hl,fun x hx=>?_,List.nodup_cons.2 ⟨fun hm=>?_,List.nodup_cons.2 hnd⟩⟩,?_⟩
   ·rcases List.mem_cons.1 hx with rfl|hx
    ·exact ⟨hp,Int.le_refl _,Nat.zero_le _,by rw [zK,xN p0 p1 p0,if_pos rfl]⟩
    rcases List.mem_cons.1 hx with rfl|hx
    ·exact ⟨hq,by show 0≤i+1;omega,by show (i+1).toNat≤(nxt n q).length;omega,hst q hq hq1⟩
    ·obtain ⟨a,b,c,d⟩:=hrest x hx
     exact ⟨a,b,c,hst _ a d⟩
   ·rcases List.mem_cons.1 hm with e|hm
    ·have e : p=q:=e
     rw [e,hq1] at h3;cases h3
    ·obtain ⟨x,hx,e⟩:=List.mem_map.1 hm
     have:=(hrest x hx).2.2.2
     rw [e,h3] at this;cases this
   ·have:=abV hl hp h3
    simp only [cfW,List.map_cons,List.sum_cons,hi2,Int.toNat_zero]
    omega
  ·cases k
   refine ⟨⟨hl,fun x hx=>?_,h.nodup⟩,?_⟩
   ·rcases List.mem_cons.1 hx with rfl|hx
    ·exact ⟨hq,by show 0≤i+1;omega,by show (i+1).toNat≤(nxt n q).length;omega,hq1⟩
    ·exact hrest x hx
   ·simp only [cfW,List.map_cons,List.sum_cons,hi2]
    omega
end Go.Proofs
end
section
namespace Go.Proofs
set_option linter.unusedVariables false
set_option linter.unusedSimpArgs false
def Bfr (l : List Int) (p q : Int) : Prop:=p ∈ l.takeWhile fun y=>decide (y≠q)
theorem acU {q : Int} : ∀ {l r : List Int},q ∈ l→(l++r).takeWhile (fun y=>decide (y≠q))=l.takeWhile fun y=>decide (y≠q)
 |a::l,r,h=>by
  by_cases e : a=q
  ·simp [e]
  ·rw [List.cons_append,List.takeWhile_cons_of_pos (by simpa using e),List.takeWhile_cons_of_pos (by simpa using e),acU ((List.mem_cons.1 h).resolve_left fun h=>e h.symm)]
theorem acV {q : Int} : ∀ {l : List Int},q ∉ l→(l ++ [q]).takeWhile (fun y=>decide (y≠q))=l
 |[],_=>by simp
 |a::l,h=>by
  have h' : q≠a∧q ∉ l:=by simpa using h
  rw [List.cons_append,List.takeWhile_cons_of_pos (by simpa using fun e=>h'.1 e.symm),acV h'.2]
theorem Bfr.old {l r : List Int} {p q : Int} (h : q ∈ l) : Bfr (l++r) p q↔Bfr l p q:=by rw [Bfr,Bfr,acU h]
theorem Bfr.new {l : List Int} {p q : Int} (h : q ∉ l) : Bfr (l ++ [q]) p q↔p ∈ l:=by rw [Bfr,acV h]
def PathS (n : zd) : List (Int × Int)→Prop
 |[]=>True
 |[x]=>x.1=0
 |x::y::r=>x.1 ∈ nxt n y.1∧PathS n (y::r)
theorem PathS.tl {n : zd} {x : Int × Int} {r : List (Int × Int)} (h : PathS n (x::r)) : PathS n r:=by
 cases r with
 |nil=>trivial
 |cons y r=>exact h.2
theorem PathS.cut {n : zd} {a : Int} : ∀ {l : List (Int × Int)} {x : Int × Int},PathS n (x::l)→a ∉ (x::l).map Prod.fst→Rchd n (· = a) 0 x.1
 |[],x,h,_=>by have h : x.1=0:=h;rw [h];exact .base
 |y::l,x,h,hn=>by
  have hn' : a≠x.1∧a ∉ (y::l).map Prod.fst:=by rw [List.map_cons,List.mem_cons,not_or] at hn;exact hn
  have:=PathS.cut h.2 hn'.2
  exact .step this (.inr fun e=>hn'.2 (e ▸ List.mem_cons_self)) h.1
structure Ord (n : zd) (c : CfD) : Prop where
 base : Dfs n c
 tri : ∀ x,isN n x→stA c.1 x=0∨stA c.1 x=1∨stA c.1 x=2
 gray : ∀ x,isN n x→(stA c.1 x=1↔x ∈ c.2.map Prod.fst)
 outN : ∀ x ∈ c.1.out,isN n x
 black : ∀ x,isN n x→(stA c.1 x=2↔x ∈ c.1.out)
 onodup : c.1.out.Nodup
 reach : ∀ x,isN n x→stA c.1 x≠0→Rchd n zr 0 x
 path : PathS n c.2
 bk : ∀ q ∈ c.1.out,∀ p ∈ nxt n q,stA c.1 p≠0∧((q,p) ∈ c.1.back↔¬ Bfr c.1.out p q)
 gr : ∀ A q i B,c.2=A++(q,i)::B→∀ p ∈ (nxt n q).take i.toNat,stA c.1 p≠0∧((q,p) ∈ c.1.back↔p ∈ q::B.map Prod.fst)
 bex : ∀ e ∈ c.1.back,isN n e.1∧stA c.1 e.1≠0∧e.2 ∈ nxt n e.1∧∀ i,(e.1,i) ∈ c.2→e.2 ∈ (nxt n e.1).take i.toNat
 bnodup : c.1.back.Nodup
 dom : ∀ q ∈ c.1.out,∀ a,Dom n a q→¬ Bfr c.1.out a q
theorem ad3 {l : List Int} {i : Int} (hi : 0≤i) (h : i.toNat<l.length) : l.take (i+1).toNat=l.take i.toNat ++ [l.getD i.toNat 0]:=by
 rw [show (i+1).toNat=i.toNat+1 by omega,List.take_succ_eq_append_getElem h,List.getD_eq_getElem?_getD,List.getElem?_eq_getElem h];rfl
theorem acW {l : List Int} {k : Nat} (hn : l.Nodup) (h : k<l.length) : l.getD k 0 ∉ l.take k:=by
 rw [List.getD_eq_getElem?_getD,List.getElem?_eq_getElem h,Option.getD_some]
 intro hm
 obtain ⟨j,hj,e⟩:=List.getElem_of_mem hm
 rw [List.getElem_take] at e
 rw [List.length_take] at hj
 exact List.pairwise_iff_getElem.1 hn j k (by omega) h (by omega) e
theorem Ord.step {n : zd} (hn : zM n) (hnd : ∀ q,(nxt n q).Nodup) {c d : CfD} (h : Ord n c) (k : xx n c=some d) : Ord n d:=by
 have hb:=(h.base.step hn k).1
 obtain ⟨s,l⟩:=c
 cases l with
 |nil=>cases k
 |cons x l=>
  obtain ⟨q,i⟩:=x
  obtain ⟨hq,hi0,hi1,hq1⟩:=h.base.stack (q,i) List.mem_cons_self
  have hl:=h.base.len
  have q0 : 0≤q:=hq.1
  have q1 : q<s.st.length:=by rw [hl];exact hq.2
  dsimp only at hi0 hi1 hl hq1
  have hdup : q ∉ l.map Prod.fst∧(l.map Prod.fst).Nodup:=List.nodup_cons.1 h.base.nodup
  have htop:=h.gr [] q i l rfl
  simp only [xx] at k
  split at k
  ·rename_i h1
   cases k
   have hst : ∀ x,0≤x→stA (leave s q) x=if x=q then 2 else stA s x:=fun x hx=>by rw [leave,xN q0 q1 hx];rfl
   have hqo : q ∉ s.out:=fun hm=>by
    have:=(h.black q hq).2 hm
    dsimp only at this;omega
   have hne0 : ∀ x,0≤x→(stA (leave s q) x≠0↔stA s x≠0):=fun x hx=>by
    rw [hst x hx]
    split
    ·rename_i e;subst e;simp [hq1]
    ·rfl
   have htk : (nxt n q).take i.toNat=nxt n q:=List.take_of_length_le h1
   rw [htk] at htop
   have hdq : ∀ a,Dom n a q→a ∉ s.out:=fun a ha hm=>by
    have haN:=h.outN a hm
    have ha2:=(h.black a haN).2 hm
    dsimp only at ha2
    have hang : a ∉ (q::l.map Prod.fst):=fun hm'=>by
     have:=(h.gray a haN).2 hm'
     dsimp only at this;omega
    rcases ha with e|e|ha
    ·subst e;exact hqo hm
    ·subst e
     have : ∀ {l : List (Int × Int)} {x : Int × Int},PathS n (x::l)→(0 : Int) ∈ (x::l).map Prod.fst:=by
      intro l
      induction l with
      |nil=>intro x hx;have hx : x.1=0:=hx;simp [hx]
      |cons y l ih=>intro x hx;exact List.mem_cons_of_mem _ (ih hx.2)
     exact hang (this h.path)
    ·exact ha (PathS.cut h.path hang)
   refine ⟨hb,fun x hx=>?_,fun x hx=>?_,fun x hx=>?_,fun x hx=>?_,?_,fun x hx h0=>h.reach x hx ((hne0 x hx.1).1 h0),h.path.tl,fun y hy p hp=>?_,fun A y j B e p hp=>?_,fun e he=>?_,h.bnodup,fun y hy a ha=>?_⟩
   ·rw [hst x hx.1]
    split
    ·exact .inr (.inr rfl)
    ·exact h.tri x hx
   ·rw [hst x hx.1]
    by_cases e : x=q
    ·subst e;rw [if_pos rfl]
     exact ⟨fun h=>(by cases h),fun hm=>absurd hm hdup.1⟩
    ·rw [if_neg e]
     have:=h.gray x hx
     simp only [List.map_cons,List.mem_cons,e,false_or] at this
     exact this
   ·rcases List.mem_append.1 hx with hx|hx
    ·exact h.outN x hx
    ·rw [List.mem_singleton.1 hx];exact hq
   ·rw [hst x hx.1]
    show _↔x ∈ s.out ++ [q]
    rw [List.mem_append,List.mem_singleton]
    by_cases e : x=q
    ·subst e;simp
    ·rw [if_neg e]
     have:=h.black x hx
     dsimp only at this
     rw [this];simp [e]
   ·exact List.nodup_append.2 ⟨h.onodup,by simp,fun x hx y hy=>by rw [List.mem_singleton.1 hy];intro e;subst e;exact hqo hx⟩
   ·have hpN:=zR hn hp
    rw [hne0 p hpN.1]
    rcases List.mem_append.1 hy with hy|hy
    ·have:=h.bk y hy p hp
     refine ⟨this.1,?_⟩
     show (y,p) ∈ s.back↔¬ Bfr (s.out ++ [q]) p y
     rw [Bfr.old hy];exact this.2
    ·obtain rfl:=List.mem_singleton.1 hy
     have:=htop p hp
     refine ⟨this.1,?_⟩
     show (y,p) ∈ s.back↔¬ Bfr (s.out ++ [y]) p y
     rw [Bfr.new hqo,this.2]
     have hg:=h.gray p hpN
     have hbl:=h.black p hpN
     have h0:=this.1
     have ht:=h.tri p hpN
     dsimp only at hg hbl h0 ht
     rw [← hbl]
     simp only [List.map_cons] at hg
     rw [← hg]
     omega
   ·have e : l=A++(y,j)::B:=e
    have:=h.gr ((q,i)::A) y j B (by rw [e];rfl) p hp
    rw [hne0 p (zR hn (List.mem_of_mem_take hp)).1]
    exact this
   ·obtain ⟨a1,a2,a3,a4⟩:=h.bex e he
    exact ⟨a1,(hne0 _ a1.1).2 a2,a3,fun j hj=>a4 j (List.mem_cons_of_mem _ hj)⟩
   ·rcases List.mem_append.1 hy with hy|hy
    ·show ¬ Bfr (s.out ++ [q]) a y
     rw [Bfr.old hy];exact h.dom y hy a ha
    ·obtain rfl:=List.mem_singleton.1 hy
     show ¬ Bfr (s.out ++ [y]) a y
     rw [Bfr.new hqo];exact hdq a ha
  rename_i h1
  have hlt : i.toNat<(nxt n q).length:=by omega
  have hpm:=Qh (l:=nxt n q) (i:=i.toNat) hlt
  have hp:=zR hn hpm
  have htk:=ad3 hi0 hlt
  have hnt:=acW (hnd q) hlt
  generalize hpe : (nxt n q).getD i.toNat 0=p at k hp htk hnt hpm
  have p0 : 0≤p:=hp.1
  have p1 : p<s.st.length:=by rw [hl];exact hp.2
  have hnb : (q,p) ∉ s.back:=fun hm=>hnt ((h.bex _ hm).2.2.2 i List.mem_cons_self)
  have hpth : ∀ j,PathS n ((q,j)::l):=fun j=>by
   have:=h.path
   cases l with
   |nil=>exact this
   |cons y l=>exact this
  split at k
  ·rename_i h2
   cases k
   have hpg : p ∈ q::l.map Prod.fst:=(h.gray p hp).1 h2
   refine ⟨hb,h.tri,h.gray,h.outN,h.black,h.onodup,h.reach,hpth _,fun y hy z hz=>?_,fun A y j B e z hz=>?_,fun e he=>?_,?_,h.dom⟩
   ·have:=h.bk y hy z hz
    refine ⟨this.1,Iff.trans ?_ this.2⟩
    show (y,z) ∈ s.back ++ [(q,p)]↔_
    rw [List.mem_append,List.mem_singleton]
    refine ⟨fun hm=>hm.resolve_right fun e=>?_,.inl⟩
    have : y=q:=congrArg Prod.fst e
    subst this
    have:=(h.black y hq).2 hy
    dsimp only at this;omega
   ·show stA s z≠0∧((y,z) ∈ s.back ++ [(q,p)]↔_)
    rw [List.mem_append,List.mem_singleton]
    cases A with
    |nil=>
     simp only [List.nil_append,List.cons.injEq,Prod.mk.injEq] at e
     obtain ⟨⟨rfl,rfl⟩,rfl⟩:=e
     rw [htk,List.mem_append,List.mem_singleton] at hz
     rcases hz with hz|rfl
     ·have:=htop z hz
      refine ⟨this.1,Iff.trans ?_ this.2⟩
      refine ⟨fun hm=>hm.resolve_right fun e=>?_,.inl⟩
      have : z=p:=congrArg Prod.snd e
      subst this;exact hnt hz
     ·exact ⟨by rw [h2];decide,fun _=>hpg,fun _=>.inr rfl⟩
    |cons x A=>
     simp only [List.cons_append,List.cons.injEq] at e
     have:=h.gr ((q,i)::A) y j B (by show (q,i)::l=_;rw [e.2];rfl) z hz
     refine ⟨this.1,Iff.trans ?_ this.2⟩
     refine ⟨fun hm=>hm.resolve_right fun e'=>?_,.inl⟩
     have hy : y=q:=congrArg Prod.fst e'
     exact hdup.1 (List.mem_map.2 ⟨(y,j),by rw [e.2];simp,hy⟩)
   ·show isN n e.1∧stA s e.1≠0∧_
    rcases List.mem_append.1 he with he|he
    ·obtain ⟨a1,a2,a3,a4⟩:=h.bex e he
     refine ⟨a1,a2,a3,fun j hj=>?_⟩
     rcases List.mem_cons.1 hj with hj|hj
     ·have e1 : e.1=q:=congrArg Prod.fst hj
      have e2 : j=i+1:=congrArg Prod.snd hj
      rw [e2,e1,htk]
      exact List.mem_append_left _ (by have:=a4 i (by rw [e1];exact List.mem_cons_self);rwa [e1] at this)
     ·exact a4 j (List.mem_cons_of_mem _ hj)
    ·obtain rfl:=List.mem_singleton.1 he
     refine ⟨hq,by show stA s q≠0;rw [hq1];decide,hpm,fun j hj=>?_⟩
     rcases List.mem_cons.1 hj with hj|hj
     ·have e2 : j=i+1:=congrArg Prod.snd hj
      rw [e2]
      show p ∈ (nxt n q).take _
      rw [htk];simp
     ·exact absurd (List.mem_map.2 ⟨(q,j),hj,rfl⟩) hdup.1
   ·exact List.nodup_append.2 ⟨h.bnodup,by simp,fun x hx y hy=>by rw [List.mem_singleton.1 hy];intro e;subst e;exact hnb hx⟩
  rename_i h2
  split at k
  ·rename_i h3
   cases k
   have hst : ∀ x,0≤x→stA (zK s p) x=if x=p then 1 else stA s x:=fun x hx=>by rw [zK,xN p0 p1 hx];rfl
   have hne0 : ∀ x,0≤x→stA s x≠0→stA (zK s p) x≠0:=fun x hx hh=>by
    rw [hst x hx]
    split
    ·decide
    ·exact hh
   have hpng : p ∉ q::l.map Prod.fst:=fun hm=>by
    have:=(h.gray p hp).2 hm
    dsimp only at this;omega
   have hpo : p ∉ s.out:=fun hm=>by
    have:=(h.black p hp).2 hm
    dsimp only at this;omega
   refine ⟨hb,fun x hx=>?_,fun x hx=>?_,h.outN,fun x hx=>?_,h.onodup,fun x hx h0=>?_,⟨hpm,hpth _⟩,fun y hy z hz=>?_,fun A y j B e z hz=>?_,fun e he=>?_,h.bnodup,h.dom⟩
   ·rw [hst x hx.1]
    split
    ·exact .inr (.inl rfl)
    ·exact h.tri x hx
   ·rw [hst x hx.1]
    by_cases e : x=p
    ·subst e;simp
    ·rw [if_neg e]
     have:=h.gray x hx
     simp only [List.map_cons,List.mem_cons] at this ⊢
     rw [this];simp [e]
   ·rw [hst x hx.1]
    by_cases e : x=p
    ·subst e;rw [if_pos rfl]
     exact ⟨fun h=>(by cases h),fun hm=>absurd hm hpo⟩
    ·rw [if_neg e];exact h.black x hx
   ·rw [hst x hx.1] at h0
    by_cases e : x=p
    ·subst e
     exact .step (h.reach q hq (by show stA s q≠0;rw [hq1];decide)) (.inr id) hpm
    ·rw [if_neg e] at h0;exact h.reach x hx h0
   ·have:=h.bk y hy z hz
    exact ⟨hne0 z (zR hn hz).1 this.1,this.2⟩
   ·cases A with
    |nil=>
     simp only [List.nil_append,List.cons.injEq,Prod.mk.injEq] at e
     obtain ⟨⟨rfl,rfl⟩,rfl⟩:=e
     simp at hz
    |cons x A=>
     simp only [List.cons_append,List.cons.injEq] at e
     obtain ⟨rfl,e⟩:=e
     cases A with
     |nil=>
      simp only [List.nil_append,List.cons.injEq,Prod.mk.injEq] at e
      obtain ⟨⟨rfl,rfl⟩,rfl⟩:=e
      rw [htk,List.mem_append,List.mem_singleton] at hz
      rcases hz with hz|rfl
      ·have:=htop z hz
       exact ⟨hne0 z (zR hn (List.mem_of_mem_take hz)).1 this.1,this.2⟩
      ·refine ⟨by rw [hst z p0,if_pos rfl];decide,fun hm=>absurd hm hnb,fun hm=>absurd hm hpng⟩
     |cons y' A=>
      simp only [List.cons_append,List.cons.injEq] at e
      have:=h.gr ((q,i)::A) y j B (by show (q,i)::l=_;rw [e.2];rfl) z hz
      exact ⟨hne0 z (zR hn (List.mem_of_mem_take hz)).1 this.1,this.2⟩
   ·obtain ⟨a1,a2,a3,a4⟩:=h.bex e he
    refine ⟨a1,hne0 _ a1.1 a2,a3,fun j hj=>?_⟩
    rcases List.mem_cons.1 hj with hj|hj
    ·have e1 : e.1=p:=congrArg Prod.fst hj
     rw [e1] at a2
     exact absurd h3 a2
    rcases List.mem_cons.1 hj with hj|hj
    ·have e1 : e.1=q:=congrArg Prod.fst hj
     have e2 : j=i+1:=congrArg Prod.snd hj
     rw [e2,e1,htk]
     exact List.mem_append_left _ (by have:=a4 i (by rw [e1];exact List.mem_cons_self);rwa [e1] at this)
    ·exact a4 j (List.mem_cons_of_mem _ hj)
  ·rename_i h3
   cases k
   have ht:=h.tri p hp
   have hbl:=h.black p hp
   dsimp only at ht hbl
   have hp2 : stA s p=2:=by omega
   have hpng : p ∉ q::l.map Prod.fst:=fun hm=>by
    have:=(h.gray p hp).2 hm
    dsimp only at this;omega
   refine ⟨hb,h.tri,h.gray,h.outN,h.black,h.onodup,h.reach,hpth _,h.bk,fun A y j B e z hz=>?_,fun e he=>?_,h.bnodup,h.dom⟩
   ·cases A with
    |nil=>
     simp only [List.nil_append,List.cons.injEq,Prod.mk.injEq] at e
     obtain ⟨⟨rfl,rfl⟩,rfl⟩:=e
     rw [htk,List.mem_append,List.mem_singleton] at hz
     rcases hz with hz|rfl
     ·exact htop z hz
     ·exact ⟨h3,fun hm=>absurd hm hnb,fun hm=>absurd hm hpng⟩
    |cons x A=>
     simp only [List.cons_append,List.cons.injEq] at e
     exact h.gr ((q,i)::A) y j B (by show (q,i)::l=_;rw [e.2];rfl) z hz
   ·obtain ⟨a1,a2,a3,a4⟩:=h.bex e he
    refine ⟨a1,a2,a3,fun j hj=>?_⟩
    rcases List.mem_cons.1 hj with hj|hj
    ·have e1 : e.1=q:=congrArg Prod.fst hj
     have e2 : j=i+1:=congrArg Prod.snd hj
     rw [e2,e1,htk]
     exact List.mem_append_left _ (by have:=a4 i (by rw [e1];exact List.mem_cons_self);rwa [e1] at this)
    ·exact a4 j (List.mem_cons_of_mem _ hj)
def yI (n : zd) : DfS:=⟨List.replicate n.length 0,[],[]⟩
theorem aeW {k i : Nat} : (List.replicate k (0 : Int)).getD i 0=0:=by
 rw [List.getD_eq_getElem?_getD,List.getElem?_replicate];split<;>rfl
theorem Ord.start {n : zd} (h0 : 0<n.length) : Ord n (zK (yI n) 0,[(0,0)]):=by
 have hz : isN n 0:=⟨Int.le_refl _,by omega⟩
 have hst : ∀ x,0≤x→stA (zK (yI n) 0) x=if x=0 then 1 else 0:=fun x hx=>by
  rw [zK,xN (Int.le_refl _) (by simp [yI];omega) hx]
  split
  ·rfl
  ·exact aeW
 refine ⟨⟨by simp [zK,yI],fun x hx=>?_,by simp⟩,fun x hx=>?_,fun x hx=>?_,fun x hx=>(by cases hx),fun x hx=>?_,.nil,fun x hx hh=>?_,rfl,fun q hq=>(by cases hq),fun A q i B e p hp=>?_,fun e he=>(by cases he),.nil,fun q hq=>(by cases hq)⟩
 ·obtain rfl:=List.mem_singleton.1 hx
  exact ⟨hz,Int.le_refl _,Nat.zero_le _,by rw [hst 0 (Int.le_refl _)];rfl⟩
 ·rw [hst x hx.1];split<;>simp
 ·rw [hst x hx.1]
  by_cases e : x=0
  ·simp [e]
  ·simp [e]
 ·rw [hst x hx.1]
  refine ⟨fun hh=>?_,fun hm=>by cases hm⟩
  split at hh<;>cases hh
 ·rw [hst x hx.1] at hh
  by_cases e : x=0
  ·rw [e];exact .base
  ·rw [if_neg e] at hh;exact absurd rfl hh
 ·have : i=0:=by
   cases A with
   |nil=>simp only [List.nil_append,List.cons.injEq,Prod.mk.injEq] at e;exact e.1.2.symm
   |cons x A=>simp at e
  subst this
  simp at hp
theorem Ord.go {n : zd} (hn : zM n) (hnd : ∀ q,(nxt n q).Nodup) {c d : CfD} (h : Ord n c) (k : Mst n c d) : Ord n d:=by
 obtain ⟨m,k⟩:=k
 induction m generalizing d with
 |zero=>cases k;exact h
 |succ m ih=>
  rw [xy] at k
  cases hb : xy n m c with
  |none=>rw [hb] at k;cases k
  |some e=>rw [hb] at k;exact (ih hb).step hn hnd k
structure jk (n : zd) (o : List Int) (b : List (Int × Int)) : Prop where
 nodup : o.Nodup
 mem : ∀ x,x ∈ o↔isN n x∧Rchd n zr 0 x
 back : ∀ q ∈ o,∀ p ∈ nxt n q,((q,p) ∈ b↔¬ Bfr o.reverse p q)
 edge : ∀ e ∈ b,e.1 ∈ o∧e.2 ∈ nxt n e.1
 bnodup : b.Nodup
 dom : ∀ q ∈ o,∀ a,Dom n a q→¬ Bfr o.reverse a q
theorem aaq {n : zd} (hn : zM n) (hnd : ∀ q,(nxt n q).Nodup) (h0 : 0<n.length) {s : DfS} (k : Mst n (zK (yI n) 0,[(0,0)]) (s,[])) : jk n s.out.reverse s.back:=by
 have h:=(Ord.start h0).go hn hnd k
 have hz : isN n 0:=⟨Int.le_refl _,by omega⟩
 have hbw : ∀ x,isN n x→stA s x≠0→stA s x=2:=fun x hx hh=>by
  have:=h.tri x hx
  have hg:=h.gray x hx
  dsimp only at this hg
  simp only [List.map_nil,List.not_mem_nil,iff_false] at hg
  omega
 have hz0 : stA s 0≠0:=by
  have : ∀ (m : Nat) (d : CfD),xy n m (zK (yI n) 0,[(0,0)])=some d→stA d.1 0≠0:=by
   intro m
   induction m with
   |zero=>intro d hd;cases hd;show stA (zK (yI n) 0) 0≠0;rw [zK,xN (Int.le_refl _) (by simp [yI];omega) (Int.le_refl _),if_pos rfl];decide
   |succ m ih=>
    intro d hd
    rw [xy] at hd
    cases hb : xy n m (zK (yI n) 0,[(0,0)]) with
    |none=>rw [hb] at hd;cases hd
    |some e=>
     rw [hb] at hd
     have he:=ih e hb
     have hO:=(Ord.start h0).go hn hnd ⟨m,hb⟩
     obtain ⟨s',l⟩:=e
     cases l with
     |nil=>cases hd
     |cons x l=>
      obtain ⟨q,i⟩:=x
      obtain ⟨hq,hi0,hi1,hq1⟩:=hO.base.stack (q,i) List.mem_cons_self
      have hl:=hO.base.len
      dsimp only at hl hi0 hi1
      simp only [Option.bind_some,xx] at hd
      split at hd
      ·cases hd
       show stA (leave s' q) 0≠0
       rw [leave,xN hq.1 (by rw [hl];exact hq.2) (Int.le_refl _)]
       split
       ·decide
       ·exact he
      split at hd
      ·cases hd;exact he
      split at hd
      ·rename_i h1 _ _
       cases hd
       have hp:=zR hn (Qh (l:=nxt n q) (i:=i.toNat) (by omega))
       show stA (zK s' _) 0≠0
       rw [zK,xN hp.1 (by rw [hl];exact hp.2) (Int.le_refl _)]
       split
       ·decide
       ·exact he
      ·cases hd;exact he
  obtain ⟨m,k⟩:=k
  exact this m _ k
 have hall : ∀ x,Rchd n zr 0 x→stA s x≠0:=fun x hx=>by
  induction hx with
  |base=>exact hz0
  |step hr _ hp ih=>
   have hqN:=hr.isN hn hz
   have hqo:=(h.black _ hqN).1 (hbw _ hqN ih)
   exact (h.bk _ hqo _ hp).1
 refine ⟨by rw [List.Nodup,List.pairwise_reverse];exact h.onodup.imp fun h e=>h e.symm,fun x=>?_,fun q hq p hp=>?_,fun e he=>?_,h.bnodup,fun q hq a ha=>?_⟩
 ·rw [List.mem_reverse]
  constructor
  ·intro hm
   have hx:=h.outN x hm
   have h2:=(h.black x hx).2 hm
   dsimp only at h2
   exact ⟨hx,h.reach x hx (by show stA s x≠0;rw [h2];decide)⟩
  ·rintro ⟨hx,hr⟩
   exact (h.black x hx).1 (hbw x hx (hall x hr))
 ·rw [List.reverse_reverse]
  exact (h.bk q (List.mem_reverse.1 hq) p hp).2
 ·obtain ⟨a1,a2,a3,_⟩:=h.bex e he
  exact ⟨List.mem_reverse.2 ((h.black _ a1).1 (hbw _ a1 a2)),a3⟩
 ·rw [List.reverse_reverse]
  exact h.dom q (List.mem_reverse.1 hq) a ha
end Go.Proofs
end
section
namespace Go.Proofs
open Go.Sh Go.RowKit
set_option maxRecDepth 100000
set_option linter.unusedSimpArgs false
set_option linter.unusedVariables false
def Qi (n : zd) : Prop:=∀ l ∈ n,l.length≤2
theorem acX {n : zd} (h : Qi n) (s : DfS) : kM n s≤3*n.length:=by
 have key : ∀ l : List Nat,(l.map fun (i : Nat)=>if s.st.getD i 0=0 then (n.getD i []).length+1 else 0).sum≤3*l.length:=by
  intro l
  induction l with
  |nil=>simp
  |cons a l ih=>
   have ha : (n.getD a []).length≤2:=by
    rw [List.getD_eq_getElem?_getD]
    cases hx : n[a]? with
    |none=>simp
    |some x=>exact h x (List.mem_of_getElem? hx)
   simp only [List.map_cons,List.sum_cons,List.length_cons]
   split<;>omega
 have:=key (List.range n.length)
 rwa [List.length_range] at this
theorem acY {l : List (Int × Int)} : RowOf 2 YH (yj l) l:=⟨Zd l,fun i hi=>by
 induction l generalizing i with
 |nil=>simp at hi
 |cons p l ih=>
  cases i with
  |zero=>rfl
  |succ i=>
   have:=ih i (by simpa using hi)
   have e : (yj (p::l)).drop ((i+1)*2)=(yj l).drop (i*2):=by
    rw [show (i+1)*2=i*2+2 by omega,show yj (p::l) = .int .i64 p.1 :: .int .i64 p.2::yj l from rfl];rfl
   rw [e];exact this⟩
theorem ku {l : List (Int × Int)} {p : Int × Int} : yj (l ++ [p])=yj l ++ [.int .i64 p.1,.int .i64 p.2]:=by rw [V4];rfl
theorem afG {c : List Value} {l : List (Int × Int)} {q i : Int} {m : Nat} (h : c.take (m*2)=yj (l ++ [(q,i)])) (hm : m=l.length+1) : c[l.length*2]? = some (.int .i64 q)∧c[l.length*2+1]? = some (.int .i64 i):=by
 have e : ∀ j,j<m*2→c[j]? = (yj (l ++ [(q,i)]))[j]?:=fun j hj=>by rw [← h,List.getElem?_take,if_pos hj]
 have hl:=Zd l
 rw [e _ (by omega),e _ (by omega),ku,List.getElem?_append_right (by omega),List.getElem?_append_right (by omega),hl]
 simp
theorem aeX {c : List Value} {l : List (Int × Int)} {q i j : Int} {m : Nat} (h : c.take (m*2)=yj (l ++ [(q,i)])) (hm : m=l.length+1) : (c.set (l.length*2+1) (.int .i64 j)).take (m*2)=yj (l ++ [(q,j)]):=by
 have hl:=Zd l
 rw [List.take_set,h,ku,ku,List.set_append_right _ _ (by omega),hl,show l.length*2+1 - l.length*2=1 by omega]
 rfl
theorem aeY {c : List Value} {l : List (Int × Int)} {x : Int × Int} {m : Nat} (h : c.take (m*2)=yj (l ++ [x])) (hm : m=l.length+1) : c.take (l.length*2)=yj l:=by
 have e : c.take (l.length*2)=(c.take (m*2)).take (l.length*2):=by rw [List.take_take,Nat.min_eq_left (by omega)]
 rw [e,h,ku,List.take_left' (Zd l)]
theorem YW {l : List Int} {q v : Int} (h : 0≤q) : (ints l).set (0+q.toNat) (.int .i64 v)=ints (l.set q.toNat v):=by
 rw [Nat.zero_add,ints,ints,List.map_set]
theorem acZ {s : DfS} {q : Int} (h : q.toNat<s.st.length) : (ints s.st)[0+q.toNat]? = some (.int .i64 (stA s q)):=by
 rw [Nat.zero_add,ints,List.getElem?_map,stA,List.getD_eq_getElem?_getD,List.getElem?_eq_getElem h];rfl
theorem aaS {n : zd} {s : DfS} {q i : Int} {r : List (Int × Int)} (h : (nxt n q).length≤i.toNat) : xx n (s,(q,i)::r)=some (leave s q,r):=by rw [xx,if_pos h]
theorem abW {n : zd} {s : DfS} {q i p : Int} {r : List (Int × Int)} (h : ¬ (nxt n q).length≤i.toNat) (hp : (nxt n q).getD i.toNat 0=p) (h1 : stA s p=1) : xx n (s,(q,i)::r)=some (ZN s q p,(q,i+1)::r):=by
 rw [xx,if_neg h,hp,if_pos h1]
theorem abX {n : zd} {s : DfS} {q i p : Int} {r : List (Int × Int)} (h : ¬ (nxt n q).length≤i.toNat) (hp : (nxt n q).getD i.toNat 0=p) (h1 : ¬ stA s p=1) (h0 : stA s p=0) : xx n (s,(q,i)::r)=some (zK s p,(p,0)::(q,i+1)::r):=by
 rw [xx,if_neg h,hp,if_neg h1,if_pos h0]
theorem abY {n : zd} {s : DfS} {q i p : Int} {r : List (Int × Int)} (h : ¬ (nxt n q).length≤i.toNat) (hp : (nxt n q).getD i.toNat 0=p) (h1 : ¬ stA s p=1) (h0 : ¬ stA s p=0) : xx n (s,(q,i)::r)=some (s,(q,i+1)::r):=by
 rw [xx,if_neg h,hp,if_neg h1,if_neg h0]
theorem ac0 {n : zd} (h0 : 0<n.length) : Dfs n (zK (yI n) 0,[(0,0)]):=by
 have hz : isN n 0:=⟨Int.le_refl _,by omega⟩
 refine ⟨by simp [zK,yI],fun x hx=>?_,by simp⟩
 obtain rfl:=List.mem_singleton.1 hx
 refine ⟨hz,Int.le_refl _,Nat.zero_le _,?_⟩
 rw [zK,xN (Int.le_refl _) (by simp [yI];omega) (Int.le_refl _),if_pos rfl]
set_option maxHeartbeats 2000000 in
theorem aar {n : zd} {v : Value} {w : World} {r : Gh} {K : Value→World→Prop} (hr : Holds r w) (hn : NetG r v n) (hok : zM n) (hnar : Qi n) (h0 : 0<n.length) (hf : n.length≤100000)
  (h : ∀ v1 v2 s w' st,Ext w w'→New w s w'→Mst n (zK (yI n) 0,[(0,0)]) (st,[])→SlG 1 s zu v1 st.out.reverse→SlG 2 s YH v2 st.back→K (.tuple #[v1,v2]) w') : ze Tryz.prog Tryz.yW #[v] w K:=by
 refine Tryz.Qf ?_
 unfold Tryz.Zi
 obtain ⟨p,cap,rfl,_,_⟩:=hn.sl.shape
 have S:=St.start hr
 refine gp_ ?_
 refine S.mkS (by omega) (by omega) fun b10 w1 S=>?_
 rw [Int.toNat_natCast] at S ⊢
 have e0 : List.replicate n.length (Value.int .i64 0)=ints (List.replicate n.length 0):=by simp [ints]
 rw [e0] at S
 refine zz (cs:=#[.int .i64 0,.int .i64 0]) (by kernel_rfl) ?_
 refine S.lit (e:=145) (cs:=[.int .i64 0,.int .i64 0]) (by kernel_rfl) fun b12 w2 S=>?_
 have S:=S.toRow 1 2 rfl (by decide)
 refine gp_ ?_
 refine S.st (b:=b10) (fun w3 S=>?_) (by rw [yz,List.length_replicate];simpa using h0)
 have S:=(S.ownNil 52 2).ownNil 3 1
 have S : StX noX w r w3 [.row (.slice none 0 0) 3 1 0 [],.row (.slice none 0 0) 52 2 0 [],.row (.slice (some ⟨b12,0,none⟩) 1 1) 145 2 1 [.int .i64 0,.int .i64 0],.cell b10 (ints (zK (yI n) 0).st) 3]:=by
  have e : (ints (List.replicate n.length 0)).set (0+Int.toNat 0) (.int .i64 1)=ints (zK (yI n) 0).st:=YW (Int.le_refl 0)
  rw [← e];exact S
 have hD:=ac0 h0
 have hw0 : cfW n (zK (yI n) 0,[(0,0)])≤3*n.length+3:=by
  have h1:=acX hnar (zK (yI n) 0)
  have h2 : (nxt n 0).length≤2:=by
   rw [j6 ⟨Int.le_refl _,by omega⟩];exact hnar _ (List.getElem_mem _)
  simp only [cfW,List.map_cons,List.map_nil,List.sum_cons,List.sum_nil]
  omega
 refine zh (ι:=Value × Value × Value × CfD) (fun i=>[i.1,i.2.1,i.2.2.1]) (fun i w'=>Dfs n i.2.2.2∧Mst n (zK (yI n) 0,[(0,0)]) i.2.2.2∧i.2.2.2.2.length+i.2.2.2.1.out.length+i.2.2.2.1.back.length+cfW n i.2.2.2≤3*n.length+4∧
   StX noX w r w' [.row i.1 3 1 i.2.2.2.1.out.length (ints i.2.2.2.1.out),.row i.2.1 52 2 i.2.2.2.1.back.length (yj i.2.2.2.1.back),.row i.2.2.1 145 2 i.2.2.2.2.length (yj i.2.2.2.2.reverse),.cell b10 (ints i.2.2.2.1.st) 3])
  (fun i=>cfW n i.2.2.2) (.slice none 0 0,.slice none 0 0,.slice (some ⟨b12,0,none⟩) 1 1,(zK (yI n) 0,[(0,0)])) rfl ⟨hD,.refl,by simp only [zK,yI,List.length_singleton,List.length_nil];simp only [zK,yI] at hw0;omega,S⟩ ?_
 repeat clear S
 clear hD hw0
 rintro ⟨vo,vb,vs,⟨s,stk⟩⟩ d w4 ⟨hD,hM,hB,S⟩ K4 hK4
 simp only at hD hM hB S ⊢
 simp only [List.getD_cons_zero,List.getD_cons_succ]
 have hsl:=hD.len
 dsimp only at hsl
 cases stk with
 |nil=>
  obtain ⟨pv,capv,rfl,_⟩:=S.rowS vs
  refine gp_ ?_
  refine gp_ ?_
  refine c_f (by simp) ?_
  have hol : s.out.length<4611686018427387904:=by omega
  refine Vo S hol fun w5 S=>?_
  rw [show s.out.length=s.out.reverse.length from List.length_reverse.symm] at S
  obtain ⟨s1,T,h1,_,ha1⟩:=S.doneRow xa (by decide) rfl
  obtain ⟨s2,U,h2,_,ha2⟩:=T.doneRow acY (by decide) rfl
  exact h _ _ (s1.or s2) _ s U.ext (StX.newOf (q:=s1.or s2) U.reGh (Above.or' (fun b o ho=>(ha1 b o ho).resolve_right id) fun b o ho=>(ha2 b o ho).resolve_right id)) hM (h1.up' inferInstance fun _ _ h=>h) (h2.up' inferInstance fun _ _ h=>h)
 |cons x rest=>
  obtain ⟨q,i⟩:=x
  obtain ⟨hqN,hi0,hi1,_⟩:=hD.stack (q,i) List.mem_cons_self
  have q0:=hqN.1;have q1:=hqN.2
  dsimp only at q0 q1 hi0 hi1
  have hlr : ((q,i)::rest).length=rest.length+1:=rfl
  rw [List.reverse_cons] at S
  obtain ⟨bs,caps,cs,rfl,hc1,hc2,hc3,hc4,S⟩:=S.rowCellM vs (by simp)
  have hrl : rest.length=rest.reverse.length:=List.length_reverse.symm
  obtain ⟨ht1,ht2⟩:=afG hc4 (by rw [hlr,hrl])
  rw [← hrl] at ht1 ht2
  rw [hlr] at hc1 hB ⊢
  have hbig : rest.length+1≤1000000:=by omega
  refine gp_ ?_
  refine gp_ ?_
  refine c_t (by simp) ?_
  have S:=S.go (Ext.drew _)
  refine gp_ ?_
  refine gp_ ?_
  refine gp_ ?_
  refine n_some ?_
  refine gp_ ?_
  have ei : 0+((((rest.length+1 : Nat) : Int) - 1).toNat*2)=rest.length*2:=by omega
  rw [ei]
  refine S.ld (b:=bs) ?_ (by simpa using ht2)
  refine n_some ?_
  refine gp_ ?_
  refine S.ld (b:=bs) ?_ (by simpa using ht1)
  obtain ⟨bn,on,u,hpE,_,hcn,hu⟩:=qV hn (i:=q.toNat) (by omega)
  subst hpE
  have hnx : nxt n q=n[q.toNat]:=j6 hqN
  obtain ⟨pu,capu,rfl,_,_⟩:=hu.sl.shape
  have hul : n[q.toNat].length≤2:=hnar _ (List.getElem_mem _)
  rw [hnx] at hi1
  refine gp_ ?_
  refine zj (S.at hcn) ?_
  refine gp_ ?_
  refine gp_ ?_
  refine zm (fun he=>?_) (fun hne=>?_)
  ·have hle : (nxt n q).length≤i.toNat:=by rw [hnx];omega
   have hs:=aaS (s:=s) (r:=rest) hle
   obtain ⟨hD',hW'⟩:=hD.step hok hs
   refine n_some ?_
   refine gp_ ?_
   refine S.ld (b:=bs) ?_ (by simpa using ht1)
   refine gp_ ?_
   refine S.st (b:=b10) (fun w5 S=>?_) (by rw [yz];omega)
   rw [YW q0] at S
   refine n_some ?_
   refine gp_ ?_
   refine S.ld (b:=bs) ?_ (by simpa using ht1)
   refine S.lit (e:=3) (cs:=[.int .i64 q]) (by kernel_rfl) fun b20 w6 S=>?_
   refine S.ap (v:=vo) (m':=1) (Sl.blk (S.blk b20)) (fun v4 w7 S=>?_) (by omega)
   have S:=S.drop b20
   refine gp_ ?_
   refine gp_ ?_
   refine gp_ ?_
   have S:=S.cellRowM (b:=bs) rest.length 2 caps hc3 (by omega) hc2
   rw [hrl,aeY hc4 (by rw [hlr,hrl]),← hrl] at S
   rw [show (((rest.length+1 : Nat) : Int) - 1).toNat=rest.length by omega]
   refine hK4 (v4,vb,_,(leave s q,rest)) _ ⟨hD',hM.tail hs,?_,?_⟩ hW'
   ·simp only [leave,List.length_append,List.length_singleton] at hW' ⊢
    omega
   ·simp only [leave,List.length_append,List.length_singleton,kf]
    exact S
  have S:=S.go (Ext.drew _)
  have hnle : ¬ (nxt n q).length≤i.toNat:=by rw [hnx];omega
  have hilt : i.toNat<n[q.toNat].length:=by omega
  obtain ⟨bu,ou,rfl,_,hcu⟩:=zw hu.sl hilt
  have hpd : (nxt n q).getD i.toNat 0=n[q.toNat][i.toNat]:=by rw [hnx,List.getD_eq_getElem?_getD,List.getElem?_eq_getElem hilt];rfl
  have hpN : isN n n[q.toNat][i.toNat]:=hok _ (List.getElem_mem _) _ (List.getElem_mem hilt)
  generalize n[q.toNat][i.toNat]=y at hcu hpd hpN
  have y0:=hpN.1;have y1:=hpN.2
  refine n_some ?_
  refine gp_ ?_
  refine S.ld (b:=bs) ?_ (by simpa using ht1)
  refine gp_ ?_
  refine zj (S.at hcn) ?_
  refine n_some ?_
  refine gp_ ?_
  refine S.ld (b:=bs) ?_ (by simpa using ht2)
  refine gp_ ?_
  refine zj (S.at hcu) ?_
  refine n_some ?_
  refine gp_ ?_
  refine S.ld (b:=bs) ?_ (by simpa using ht2)
  refine gp_ ?_
  refine n_some ?_
  refine gp_ ?_
  refine S.st (b:=bs) (fun w5 S=>?_) (by rw [hc3];omega)
  have hts:=aeX (j:=i+1) hc4 (by rw [hlr,hrl])
  rw [← hrl] at hts
  have hq2 : (cs.set (rest.length*2+1) (.int .i64 (i+1)))[rest.length*2]? = some (.int .i64 q):=by
   rw [List.getElem?_set_ne (by omega)];exact ht1
  have hc5 : (cs.set (rest.length*2+1) (.int .i64 (i+1))).length=caps*2:=by rw [List.length_set];exact hc3
  generalize cs.set (rest.length*2+1) (.int .i64 (i+1))=cs2 at S hts hq2 hc5
  have e3 : yj (rest.reverse ++ [(q,i+1)])=yj ((q,i+1)::rest).reverse:=by rw [List.reverse_cons]
  rw [hlr,e3] at hts
  refine gp_ ?_
  refine S.ld (b:=b10) ?_ (acZ (by omega))
  refine gp_ ?_
  refine zm (fun h1=>?_) (fun h1=>?_)
  ·have hs:=abW (r:=rest) hnle hpd h1
   obtain ⟨hD',hW'⟩:=hD.step hok hs
   refine n_some ?_
   refine gp_ ?_
   refine S.ld (b:=bs) ?_ (by simpa using hq2)
   refine zz (cs:=#[.int .i64 q,.int .i64 y]) (by kernel_rfl) ?_
   refine S.lit (e:=52) (cs:=[.int .i64 q,.int .i64 y]) (by kernel_rfl) fun b20 w6 S=>?_
   refine S.ap (v:=vb) (m':=1) (Sl.blk (S.blk b20)) (fun v4 w7 S=>?_) (by omega)
   have S:=S.drop b20
   have S:=S.cellRowM (b:=bs) (rest.length+1) 2 caps hc5 hc1 hc2
   rw [hts] at S
   refine hK4 (vo,v4,_,(ZN s q y,(q,i+1)::rest)) _ ⟨hD',hM.tail hs,?_,?_⟩ hW'
   ·simp only [ZN,List.length_append,List.length_cons,List.length_nil] at hW' ⊢
    omega
   ·simp only [ZN,List.length_append,List.length_singleton,ku]
    exact S
  refine gp_ ?_
  refine zm (fun h0'=>?_) (fun h0'=>?_)
  ·have hs:=abX (r:=rest) hnle hpd h1 h0'
   obtain ⟨hD',hW'⟩:=hD.step hok hs
   refine gp_ ?_
   refine S.st (b:=b10) (fun w6 S=>?_) (by rw [yz];omega)
   rw [YW y0] at S
   refine zz (cs:=#[.int .i64 y,.int .i64 0]) (by kernel_rfl) ?_
   have S:=S.cellRowM (b:=bs) (rest.length+1) 2 caps hc5 hc1 hc2
   rw [hts] at S
   refine S.lit (e:=145) (cs:=[.int .i64 y,.int .i64 0]) (by kernel_rfl) fun b20 w7 S=>?_
   refine S.ap (v:=.slice (some ⟨bs,0,none⟩) (rest.length+1) caps) (m':=1) (Sl.blk (S.blk b20)) (fun v4 w8 S=>?_) (by omega)
   have S:=S.drop b20
   refine hK4 (vo,vb,v4,(zK s y,(y,0)::(q,i+1)::rest)) _ ⟨hD',hM.tail hs,?_,?_⟩ hW'
   ·simp only [zK,List.length_cons] at hW' ⊢
    omega
   ·have e4 : yj ((y,0)::(q,i+1)::rest).reverse=yj ((q,i+1)::rest).reverse ++ [.int .i64 y,.int .i64 0]:=by rw [List.reverse_cons,ku]
    simp only [zK]
    rw [e4]
    exact S
  ·have hs:=abY (r:=rest) hnle hpd h1 h0'
   obtain ⟨hD',hW'⟩:=hD.step hok hs
   have S:=S.cellRowM (b:=bs) (rest.length+1) 2 caps hc5 hc1 hc2
   rw [hts] at S
   refine hK4 (vo,vb,_,(s,(q,i+1)::rest)) _ ⟨hD',hM.tail hs,?_,S⟩ hW'
   simp only [List.length_cons] at hW' ⊢
   omega
end Go.Proofs
end
section
namespace Go.Proofs
set_option linter.unusedVariables false
set_option linter.unusedSimpArgs false
def ltL : List Int→List Int→Prop
 |x::a,y::b=>x<y∨(x=y∧ltL a b)
 |_,_=>False
def leL (a b : List Int) : Prop:=a=b∨ltL a b
theorem abe : ∀ {a : List Int},¬ ltL a a
 |[],h=>h
 |x::a,h=>by
  rcases h with h|⟨_,h⟩
  ·omega
  ·exact abe h
theorem YX : ∀ {a b c : List Int},ltL a b→ltL b c→ltL a c
 |x::a,y::b,z::c,h,k=>by
  rcases h with h|⟨rfl,h⟩
  ·rcases k with k|⟨rfl,k⟩
   ·exact .inl (by omega)
   ·exact .inl h
  ·rcases k with k|⟨rfl,k⟩
   ·exact .inl k
   ·exact .inr ⟨rfl,YX h k⟩
theorem leL.refl {a : List Int} : leL a a:=.inl rfl
theorem J4 {a b c : List Int} (h : leL a b) (k : leL b c) : leL a c:=by
 rcases h with rfl|h
 ·exact k
 rcases k with rfl|k
 ·exact .inr h
 ·exact .inr (YX h k)
theorem ad4 {a b : List Int} (h : leL a b) (k : leL b a) : a=b:=by
 rcases h with rfl|h
 ·rfl
 rcases k with rfl|k
 ·rfl
 ·exact absurd (YX h k) abe
theorem Xo : ∀ {a b x y : List Int},ltL a b→a.length=b.length→ltL (a++x) (b++y)
 |x::a,y::b,_,_,h,hl=>by
  rcases h with h|⟨rfl,h⟩
  ·exact .inl h
  ·exact .inr ⟨rfl,Xo h (by simpa using hl)⟩
theorem JA : ∀ {a x y : List Int},ltL x y→ltL (a++x) (a++y)
 |[],_,_,h=>h
 |z::a,_,_,h=>.inr ⟨rfl,JA h⟩
theorem abf {a b x : List Int} (h : leL a b) (hl : a.length=b.length) : leL (a++x) (b++x):=by
 rcases h with rfl|h
 ·exact .inl rfl
 ·exact .inr (Xo h hl)
def Stp (n : zd) (W : List Int) (s q p : Int) : Prop:=(q=s∨q ∉ W)∧p ∈ nxt n q
def Pth (n : zd) (W : List Int) (s : Int) : Int→List Int→Int→Prop
 |x,[],t=>x=t
 |x,y::r,t=>Stp n W s x y∧Pth n W s y r t
theorem Pth.app {n : zd} {W : List Int} {s : Int} : ∀ {a b : List Int} {x t : Int},Pth n W s x (a++b) t↔∃ m,Pth n W s x a m∧Pth n W s m b t
 |[],b,x,t=>⟨fun h=>⟨x,rfl,h⟩,fun ⟨m,h,k⟩=>by have h : x=m:=h;rw [h];exact k⟩
 |y::a,b,x,t=>by
  rw [List.cons_append,Pth,Pth.app (a:=a)]
  constructor
  ·rintro ⟨h,m,h1,h2⟩;exact ⟨m,⟨h,h1⟩,h2⟩
  ·rintro ⟨m,⟨h,h1⟩,h2⟩;exact ⟨h,m,h1,h2⟩
def Vw (n : zd) (W : List Int) (s : Int) (w : List Int) (p : Int) : Prop:=∃ r,w=s::r∧Pth n W s s r p
theorem Vw.base {n : zd} {W : List Int} {s : Int} : Vw n W s [s] s:=⟨[],rfl,rfl⟩
theorem Vw.snoc {n : zd} {W : List Int} {s q p : Int} {w : List Int} (h : Vw n W s w q) (k : Stp n W s q p) : Vw n W s (w ++ [p]) p:=by
 obtain ⟨r,rfl,h⟩:=h
 exact ⟨r ++ [p],rfl,Pth.app.2 ⟨q,h,k,rfl⟩⟩
theorem Vw.last {n : zd} {W : List Int} {s p : Int} {w : List Int} (h : Vw n W s w p) : (w = [s]∧p=s)∨∃ u q,w=u ++ [p]∧Vw n W s u q∧Stp n W s q p:=by
 obtain ⟨r,rfl,h⟩:=h
 rcases List.eq_nil_or_concat r with rfl|⟨u,y,rfl⟩
 ·exact .inl ⟨rfl,Eq.symm h⟩
 ·rw [List.concat_eq_append] at h ⊢
  obtain ⟨m,h1,h2,h3⟩:=Pth.app.1 h
  have h3 : y=p:=h3
  subst h3
  exact .inr ⟨s::u,m,rfl,⟨u,rfl,h1⟩,h2⟩
theorem Vw.pos {n : zd} {W : List Int} {s p : Int} {w : List Int} (h : Vw n W s w p) : 1≤w.length:=by
 obtain ⟨r,rfl,_⟩:=h;simp
def MinW (n : zd) (W : List Int) (s p : Int) (w : List Int) : Prop:=Vw n W s w p∧∀ w',Vw n W s w' p→w.length≤w'.length∧(w'.length=w.length→leL w w')
theorem MinW.one {n : zd} {W : List Int} {s p : Int} {w w' : List Int} (h : MinW n W s p w) (k : MinW n W s p w') : w=w':=by
 have h1:=h.2 w' k.1
 have h2:=k.2 w h.1
 have hl : w'.length=w.length:=by omega
 exact ad4 (h1.2 hl) (h2.2 hl.symm)
abbrev zH:=List (Int × List Int)
def getW (M : zH) (p : Int) : List Int:=(M.lookup p).getD []
theorem kW {M : zH} {p : Int} {w : List Int} : (M.map Prod.fst).Nodup→((p,w) ∈ M↔M.lookup p=some w):=by
 induction M with
 |nil=>intro _;simp
 |cons x M ih=>
  intro h
  obtain ⟨y,v⟩:=x
  have h':=List.nodup_cons.1 h
  have ih:=ih h'.2
  rw [List.lookup_cons,List.mem_cons]
  by_cases e : p=y
  ·subst e
   rw [show (p == p)=true by simp]
   simp only [Option.some.injEq,Prod.mk.injEq,true_and]
   constructor
   ·rintro (e|hm)
    ·exact e.symm
    ·exact absurd (List.mem_map.2 ⟨(p,w),hm,rfl⟩) h'.1
   ·rintro e;exact .inl e.symm
  ·rw [show (p == y)=false by simpa using e]
   simp only [Prod.mk.injEq,e,false_and,false_or]
   exact ih
theorem ad5 {M : zH} {p q : Int} {w : List Int} : (M ++ [(q,w)]).lookup p=(M.lookup p).or (if p=q then some w else none):=by
 induction M with
 |nil=>
  rw [List.nil_append,List.lookup_cons]
  by_cases e : p=q
  ·simp [e]
  ·rw [show (p == q)=false by simpa using e];simp [e]
 |cons x M ih=>
  obtain ⟨y,v⟩:=x
  rw [List.cons_append,List.lookup_cons,List.lookup_cons,ih]
  split<;>rfl
def zP (wq : List Int) (st : zH × List Int) (p : Int) : zH × List Int:=if (st.1.lookup p).isSome then st else (st.1 ++ [(p,wq ++ [p])],st.2 ++ [p])
structure Fw (n : zd) (W : List Int) (s : Int) (k : Nat) (M : zH) (L : List Int) : Prop where
 min : ∀ p w,(p,w) ∈ M→isN n p∧MinW n W s p w∧w.length≤k+1
 nod : (M.map Prod.fst).Nodup
 all : ∀ p w,Vw n W s w p→w.length≤k+1→(M.lookup p).isSome=true
 lev : ∀ p,p ∈ L↔∃ w,(p,w) ∈ M∧w.length=k+1
 srt : L.Pairwise fun p p'=>ltL (getW M p) (getW M p')
theorem Fw.start {n : zd} {W : List Int} {s : Int} (hs : isN n s) : Fw n W s 0 [(s,[s])] [s]:=by
 refine ⟨fun p w h=>?_,by simp,fun p w h hl=>?_,fun p=>?_,by simp⟩
 ·simp only [List.mem_singleton,Prod.mk.injEq] at h
  obtain ⟨rfl,rfl⟩:=h
  refine ⟨hs,⟨.base,fun w' h'=>⟨h'.pos,fun hl=>?_⟩⟩,Nat.le_refl _⟩
  obtain ⟨r,rfl,_⟩:=h'
  have : r = []:=by simpa using hl
  subst this;exact .refl
 ·rcases h.last with ⟨_,rfl⟩|⟨u,q,rfl,h,_⟩
  ·simp
  ·have:=h.pos
   rw [List.length_append,List.length_singleton] at hl
   omega
 ·rw [List.mem_singleton]
  constructor
  ·rintro rfl;exact ⟨[p],by simp,rfl⟩
  ·rintro ⟨w,h,_⟩
   simp only [List.mem_singleton,Prod.mk.injEq] at h
   exact h.1
structure Md (n : zd) (W : List Int) (s : Int) (M0 : zH) (L : List Int) (cur : List Int→Prop) (M : zH) (nx : List Int) : Prop where
 app : ∃ N : zH,M=M0++N∧nx=N.map Prod.fst
 new : ∀ p w,(p,w) ∈ M→(p,w) ∈ M0∨(M0.lookup p=none∧(∃ q ∈ L,Stp n W s q p∧w=getW M0 q ++ [p])∧(∀ q ∈ L,Stp n W s q p→leL w (getW M0 q ++ [p])))
 nod : (M.map Prod.fst).Nodup
 srt : nx.Pairwise fun p p'=>ltL (getW M p) (getW M p')
 less : ∀ p ∈ nx,∀ x,cur x→ltL (getW M p) x
theorem JB {M : zH} {p : Int} {w : List Int} (hn : (M.map Prod.fst).Nodup) (h : (p,w) ∈ M) : getW M p=w:=by rw [getW,(kW hn).1 h];rfl
theorem ac1 {M : zH} {p : Int} (h : M.lookup p=none) : p ∉ M.map Prod.fst:=by
 intro hm
 obtain ⟨⟨y,w⟩,hx,e⟩:=List.mem_map.1 hm
 have e : y=p:=e
 subst e
 rw [List.lookup_eq_none_iff] at h
 have:=h _ hx
 simp at this
theorem J5 {M : zH} {p : Int} (h : (M.lookup p).isSome=true) : ∃ w,(p,w) ∈ M:=by
 induction M with
 |nil=>cases h
 |cons x M ih=>
  obtain ⟨y,v⟩:=x
  rw [List.lookup_cons] at h
  by_cases e : p=y
  ·subst e;exact ⟨v,List.mem_cons_self⟩
  ·rw [show (p == y)=false by simpa using e] at h
   obtain ⟨w,hw⟩:=ih h
   exact ⟨w,List.mem_cons_of_mem _ hw⟩
theorem Md.mono {n : zd} {W : List Int} {s : Int} {M0 : zH} {L : List Int} {cur cur' : List Int→Prop} {M : zH} {nx : List Int} (h : Md n W s M0 L cur M nx) (hc : ∀ x,cur' x→cur x) : Md n W s M0 L cur' M nx:=
 ⟨h.app,h.new,h.nod,h.srt,fun p hp x hx=>h.less p hp x (hc x hx)⟩
theorem ac2 {M : zH} {N : zH} {p : Int} (h : (M.lookup p).isSome=true) : getW (M++N) p=getW M p:=by
 rw [getW,getW,List.lookup_append]
 cases hm : M.lookup p with
 |none=>rw [hm] at h;cases h
 |some w=>rfl
theorem aeA {M N : zH} {p : Int} (h : (M.lookup p).isSome=true) : ((M++N).lookup p).isSome=true:=by
 rw [List.lookup_append]
 cases hm : M.lookup p with
 |none=>rw [hm] at h;cases h
 |some w=>rfl
theorem Md.add {n : zd} {W : List Int} {s q p : Int} {M0 : zH} {L : List Int} {M : zH} {nx : List Int} {cur : List Int→Prop} (h : Md n W s M0 L cur M nx) (hc : cur (getW M0 q ++ [p]))
  (hq : q ∈ L) (hst : Stp n W s q p) (hmin : M.lookup p=none→∀ q' ∈ L,Stp n W s q' p→leL (getW M0 q ++ [p]) (getW M0 q' ++ [p])) :
  Md n W s M0 L (fun x=>cur x∧ltL (getW M0 q ++ [p]) x) (zP (getW M0 q) (M,nx) p).1 (zP (getW M0 q) (M,nx) p).2∧((zP (getW M0 q) (M,nx) p).1.lookup p).isSome=true∧(∀ x,(M.lookup x).isSome=true→((zP (getW M0 q) (M,nx) p).1.lookup x).isSome=true):=by
 rw [zP]
 cases hl : M.lookup p with
 |some w=>
  simp only [hl,Option.isSome_some,if_true]
  exact ⟨h.mono fun x hx=>hx.1,trivial,fun x hx=>hx⟩
 |none=>
  simp only [Option.isSome_none,Bool.false_eq_true,if_false,hl]
  have hnp:=ac1 hl
  have hnodM : ((M ++ [(p,getW M0 q ++ [p])]).map Prod.fst).Nodup:=by
   rw [List.map_append,List.nodup_append]
   refine ⟨h.nod,by simp,fun a ha b hb=>?_⟩
   simp only [List.map_cons,List.map_nil,List.mem_singleton] at hb
   subst hb
   intro e;subst e;exact hnp ha
  have hM0 : M0.lookup p=none:=by
   obtain ⟨N,e,_⟩:=h.app
   rw [e,List.lookup_append,Option.or_eq_none_iff] at hl
   exact hl.1
  have hold : ∀ x ∈ nx,getW (M ++ [(p,getW M0 q ++ [p])]) x=getW M x:=fun x hx=>by
   obtain ⟨N,e,e2⟩:=h.app
   rw [e2] at hx
   obtain ⟨⟨y,w⟩,hy,e3⟩:=List.mem_map.1 hx
   have e3 : y=x:=e3
   subst e3
   have hyM : (y,w) ∈ M:=by rw [e];exact List.mem_append_right _ hy
   exact ac2 (by rw [(kW h.nod).1 hyM];rfl)
  have hnew : getW (M ++ [(p,getW M0 q ++ [p])]) p=getW M0 q ++ [p]:=JB hnodM (by simp)
  refine ⟨⟨?_,fun p' w hm=>?_,hnodM,?_,fun p' hp' x hx=>?_⟩,?_,fun x hx=>aeA hx⟩
  ·obtain ⟨N,e,e2⟩:=h.app
   exact ⟨N ++ [(p,getW M0 q ++ [p])],by rw [e,List.append_assoc],by rw [e2];simp⟩
  ·rcases List.mem_append.1 hm with hm|hm
   ·exact h.new p' w hm
   ·simp only [List.mem_singleton,Prod.mk.injEq] at hm
    obtain ⟨rfl,rfl⟩:=hm
    exact .inr ⟨hM0,⟨q,hq,hst,rfl⟩,hmin hl⟩
  ·rw [List.pairwise_append]
   refine ⟨?_,by simp,fun a ha b hb=>?_⟩
   ·exact h.srt.imp_of_mem fun ha hb hh=>by rw [hold _ ha,hold _ hb];exact hh
   ·rw [List.mem_singleton.1 hb,hold a ha,hnew]
    exact h.less a ha _ hc
  ·rcases List.mem_append.1 hp' with hp'|hp'
   ·rw [hold p' hp'];exact h.less p' hp' x hx.1
   ·rw [List.mem_singleton.1 hp',hnew];exact hx.2
  ·rw [ad5,if_pos rfl,hl];rfl
theorem Md.adds {n : zd} {W : List Int} {s q : Int} {M0 : zH} {L : List Int} (hq : q ∈ L) : ∀ {l : List Int} {M : zH} {nx : List Int} {cur : List Int→Prop},Md n W s M0 L cur M nx→(∀ p ∈ l,Stp n W s q p)→l.Pairwise (·≤·)→(∀ p ∈ l,cur (getW M0 q ++ [p])∨(M.lookup p).isSome=true)→
  (∀ p ∈ l,M.lookup p=none→∀ q' ∈ L,Stp n W s q' p→leL (getW M0 q ++ [p]) (getW M0 q' ++ [p]))→
  Md n W s M0 L (fun x=>cur x∧∀ p ∈ l,ltL (getW M0 q ++ [p]) x) (l.foldl (zP (getW M0 q)) (M,nx)).1 (l.foldl (zP (getW M0 q)) (M,nx)).2∧(∀ p ∈ l,((l.foldl (zP (getW M0 q)) (M,nx)).1.lookup p).isSome=true)∧
  (∀ x,(M.lookup x).isSome=true→((l.foldl (zP (getW M0 q)) (M,nx)).1.lookup x).isSome=true)
 |[],M,nx,cur,h,_,_,_,_=>⟨h.mono fun x hx=>hx.1,by simp,fun x hx=>hx⟩
 |p::l,M,nx,cur,h,hst,hs,hc,hmin=>by
  have hs':=List.pairwise_cons.1 hs
  rw [List.foldl_cons]
  have key : Md n W s M0 L (fun x=>cur x∧ltL (getW M0 q ++ [p]) x) (zP (getW M0 q) (M,nx) p).1 (zP (getW M0 q) (M,nx) p).2∧((zP (getW M0 q) (M,nx) p).1.lookup p).isSome=true∧(∀ x,(M.lookup x).isSome=true→((zP (getW M0 q) (M,nx) p).1.lookup x).isSome=true):=by
   rcases hc p List.mem_cons_self with hcp|hl
   ·exact h.add hcp hq (hst p List.mem_cons_self) (hmin p List.mem_cons_self)
   ·rw [zP]
    simp only [hl,if_true]
    exact ⟨h.mono fun x hx=>hx.1,trivial,fun x hx=>hx⟩
  obtain ⟨h1,h2,h3⟩:=key
  obtain ⟨k1,k2,k3⟩:=Md.adds hq (l:=l) h1 (fun x hx=>hst x (List.mem_cons_of_mem _ hx)) hs'.2 (fun x hx=>by
   rcases hc x (List.mem_cons_of_mem _ hx) with hcx|hlx
   ·have hle:=hs'.1 x hx
    by_cases e : x=p
    ·subst e;exact .inr h2
    ·exact .inl ⟨hcx,JA (.inl (by omega))⟩
   ·exact .inr (h3 x hlx)) (fun x hx hl=>hmin x (List.mem_cons_of_mem _ hx) (by
    cases hm : M.lookup x with
    |none=>rfl
    |some w=>have:=h3 x (by rw [hm];rfl);rw [hl] at this;cases this))
  refine ⟨k1.mono fun x hx=>⟨⟨hx.1,hx.2 p List.mem_cons_self⟩,fun y hy=>hx.2 y (List.mem_cons_of_mem _ hy)⟩,fun x hx=>?_,fun x hx=>k3 x (h3 x hx)⟩
  rcases List.mem_cons.1 hx with rfl|hx
  ·exact k3 _ h2
  ·exact k2 x hx
end Go.Proofs
end
section
namespace Go.Proofs
set_option linter.unusedVariables false
set_option linter.unusedSimpArgs false
def rndW (n : zd) (so : List Int→List Int) (W : List Int) (s : Int) (M : zH) (L : List Int) (st : zH × List Int) : zH × List Int:=
 L.foldl (fun st q=>if q≠s∧q ∈ W then st else (so (nxt n q)).foldl (zP (getW M q)) st) st
def Zj (so : List Int→List Int) : Prop:=∀ l,(so l).Pairwise (·≤·)∧∀ x,x ∈ so l↔x ∈ l
theorem Fw.lenL {n : zd} {W : List Int} {s : Int} {k : Nat} {M : zH} {L : List Int} (h : Fw n W s k M L) {q : Int} (hq : q ∈ L) : (q,getW M q) ∈ M∧(getW M q).length=k+1:=by
 obtain ⟨w,hw,hl⟩:=(h.lev q).1 hq
 rw [JB h.nod hw];exact ⟨hw,hl⟩
theorem Fw.rnd {n : zd} {so : List Int→List Int} (hso : Zj so) {W : List Int} {s : Int} {k : Nat} {M0 : zH} {L : List Int} (h : Fw n W s k M0 L) : ∀ {rest : List Int} {M : zH} {nx : List Int},(∃ done,L=done++rest∧∀ q ∈ done,∀ p,Stp n W s q p→(M.lookup p).isSome=true)→
  Md n W s M0 L (fun x=>∃ q ∈ rest,∃ p,x=getW M0 q ++ [p]) M nx→(∀ x,(M0.lookup x).isSome=true→(M.lookup x).isSome=true)→
  Md n W s M0 L (fun _=>False) (rndW n so W s M0 rest (M,nx)).1 (rndW n so W s M0 rest (M,nx)).2∧∀ q ∈ L,∀ p,Stp n W s q p→((rndW n so W s M0 rest (M,nx)).1.lookup p).isSome=true
 |[],M,nx,hd,hm,_=>by
  obtain ⟨done,e,hd⟩:=hd
  rw [List.append_nil] at e
  subst e
  exact ⟨hm.mono fun x hx=>hx.elim,hd⟩
 |q::rest,M,nx,hd,hm,h0=>by
  obtain ⟨done,e,hd⟩:=hd
  have hqL : q ∈ L:=by rw [e];simp
  have hsrt : ∀ q' ∈ rest,ltL (getW M0 q) (getW M0 q'):=fun q' hq'=>by
   have:=h.srt
   rw [e,List.pairwise_append] at this
   exact (List.pairwise_cons.1 this.2.1).1 q' hq'
  have hlen : ∀ q' ∈ L,(getW M0 q').length=k+1:=fun q' hq'=>(h.lenL hq').2
  have e' : L=(done ++ [q])++rest:=by rw [e];simp
  have hrL : ∀ q' ∈ rest,q' ∈ L:=fun q' hq'=>by rw [e];simp [hq']
  rw [rndW,List.foldl_cons]
  by_cases hsk : q≠s∧q ∈ W
  ·rw [if_pos hsk]
   refine Fw.rnd hso h (rest:=rest) ⟨done ++ [q],e',fun q' hq' p hp=>?_⟩ (hm.mono fun x ⟨q',hq',p,e⟩=>⟨q',List.mem_cons_of_mem _ hq',p,e⟩) h0
   rcases List.mem_append.1 hq' with hq'|hq'
   ·exact hd q' hq' p hp
   ·obtain rfl:=List.mem_singleton.1 hq'
    rcases hp.1 with h1|h1
    ·exact absurd h1 hsk.1
    ·exact absurd hsk.2 h1
  ·rw [if_neg hsk]
   have hst : ∀ p ∈ so (nxt n q),Stp n W s q p:=fun p hp=>by
    refine ⟨?_,((hso _).2 p).1 hp⟩
    by_cases e1 : q=s
    ·exact .inl e1
    ·exact .inr fun hw=>hsk ⟨e1,hw⟩
   obtain ⟨k1,k2,k3⟩:=Md.adds hqL (l:=so (nxt n q)) hm hst (hso _).1 (fun p hp=>.inl ⟨q,List.mem_cons_self,p,rfl⟩) fun p hp hl q' hq' hst'=>by
    rw [e] at hq'
    rcases List.mem_append.1 hq' with hq'|hq'
    ·have:=hd q' hq' p hst'
     rw [hl] at this;cases this
    rcases List.mem_cons.1 hq' with rfl|hq'
    ·exact .refl
    ·exact abf (.inr (hsrt q' hq')) (by rw [hlen q hqL,hlen q' (hrL q' hq')])
   refine Fw.rnd hso h (rest:=rest) ⟨done ++ [q],e',fun q' hq' p hp=>?_⟩ (k1.mono fun x ⟨q',hq',p,e⟩=>⟨⟨q',List.mem_cons_of_mem _ hq',p,e⟩,fun p' hp'=>?_⟩) fun x hx=>k3 x (h0 x hx)
   ·rcases List.mem_append.1 hq' with hq'|hq'
    ·exact k3 p (hd q' hq' p hp)
    ·obtain rfl:=List.mem_singleton.1 hq'
     exact k2 p (((hso _).2 p).2 hp.2)
   ·rw [e]
    exact Xo (hsrt q' hq') (by rw [hlen q hqL,hlen q' (hrL q' hq')])
theorem Fw.next {n : zd} (hn : zM n) {so : List Int→List Int} (hso : Zj so) {W : List Int} {s : Int} {k : Nat} {M : zH} {L : List Int} (h : Fw n W s k M L) :
  Fw n W s (k+1) (rndW n so W s M L (M,[])).1 (rndW n so W s M L (M,[])).2∧M.length+(rndW n so W s M L (M,[])).2.length=(rndW n so W s M L (M,[])).1.length:=by
 obtain ⟨hm,hall⟩:=Fw.rnd hso h (rest:=L) (M:=M) (nx:=[]) ⟨[],rfl,fun q hq=>by cases hq⟩ ⟨⟨[],by simp,rfl⟩,fun p w hp=>.inl hp,h.nod,.nil,fun p hp=>by cases hp⟩ fun x hx=>hx
 generalize (rndW n so W s M L (M,[])).1=M' at *
 generalize (rndW n so W s M L (M,[])).2=nx at *
 obtain ⟨N,eN,eN2⟩:=hm.app
 have hlast : ∀ p w,Vw n W s w p→w.length≤k+2→M.lookup p=none→∃ u q,w=u ++ [p]∧Vw n W s u q∧Stp n W s q p∧q ∈ L∧u.length=k+1∧leL (getW M q) u:=fun p w hw hl hno=>by
  rcases hw.last with ⟨rfl,rfl⟩|⟨u,q,rfl,hu,hst⟩
  ·have:=h.all _ _ hw (by simp);rw [hno] at this;cases this
  ·rw [List.length_append,List.length_singleton] at hl
   obtain ⟨wq,hwq⟩:=J5 (h.all q u hu (by omega))
   obtain ⟨_,hmq,hlq⟩:=h.min q wq hwq
   have h1:=hmq.2 u hu
   have hlt : ¬ wq.length≤k:=fun hle=>by
    have:=h.all p (wq ++ [p]) (hmq.1.snoc hst) (by rw [List.length_append,List.length_singleton];omega)
    rw [hno] at this;cases this
   have hul : u.length=k+1:=by omega
   refine ⟨u,q,rfl,hu,hst,(h.lev q).2 ⟨wq,hwq,by omega⟩,hul,?_⟩
   rw [JB h.nod hwq]
   exact h1.2 (by omega)
 have hNnew : ∀ p w,(p,w) ∈ N→M.lookup p=none∧w.length=k+2:=fun p w hp=>by
  have hpM : (p,w) ∈ M':=by rw [eN];exact List.mem_append_right _ hp
  have hno : M.lookup p=none:=by
   cases hl : M.lookup p with
   |none=>rfl
   |some v=>
    have h1:=(kW h.nod).2 hl
    have h2:=hm.nod
    rw [eN,List.map_append,List.nodup_append] at h2
    exact absurd rfl (h2.2.2 p (List.mem_map.2 ⟨_,h1,rfl⟩) p (List.mem_map.2 ⟨_,hp,rfl⟩))
  rcases hm.new p w hpM with h1|⟨_,⟨q,hq,hst,rfl⟩,_⟩
  ·rw [(kW h.nod).1 h1] at hno;cases hno
  ·exact ⟨hno,by rw [List.length_append,(h.lenL hq).2];rfl⟩
 refine ⟨⟨fun p w hp=>?_,hm.nod,fun p w hw hl=>?_,fun p=>?_,hm.srt⟩,by rw [eN,eN2];simp⟩
 ·rcases hm.new p w hp with h1|⟨hno,⟨q,hq,hst,rfl⟩,hle⟩
  ·obtain ⟨a,b,c⟩:=h.min p w h1
   exact ⟨a,b,by omega⟩
  ·obtain ⟨hqM,hql⟩:=h.lenL hq
   obtain ⟨hqN,hqm,_⟩:=h.min q _ hqM
   have hl2 : (getW M q ++ [p]).length=k+2:=by rw [List.length_append,hql];rfl
   refine ⟨zR hn hst.2,⟨hqm.1.snoc hst,fun w' hw'=>?_⟩,by omega⟩
   have hge : k+2≤w'.length:=by
    refine Nat.le_of_not_lt fun hlt=>?_
    have:=h.all p w' hw' (by omega)
    rw [hno] at this;cases this
   refine ⟨by omega,fun he=>?_⟩
   obtain ⟨u,q',rfl,hu,hst',hq',hul,hlu⟩:=hlast p w' hw' (by omega) hno
   exact J4 (hle q' hq' hst') (abf hlu (by rw [(h.lenL hq').2,hul]))
 ·cases hno : M.lookup p with
  |some v=>rw [eN];exact aeA (by rw [hno];rfl)
  |none=>
   obtain ⟨u,q,rfl,hu,hst,hq,_,_⟩:=hlast p w hw hl hno
   exact hall q hq p hst
 ·rw [eN2]
  constructor
  ·intro hp
   obtain ⟨⟨y,w⟩,hy,e⟩:=List.mem_map.1 hp
   have e : y=p:=e
   subst e
   exact ⟨w,by rw [eN];exact List.mem_append_right _ hy,(hNnew y w hy).2⟩
  ·rintro ⟨w,hw,hl⟩
   rw [eN] at hw
   rcases List.mem_append.1 hw with hw|hw
   ·have:=(h.min p w hw).2.2;omega
   ·exact List.mem_map.2 ⟨_,hw,rfl⟩
theorem Fw.few {n : zd} {W : List Int} {s : Int} {k : Nat} {M : zH} {L : List Int} (h : Fw n W s k M L) : M.length≤n.length:=by
 have hsub : ∀ x ∈ (M.map Prod.fst).map Int.toNat,x ∈ List.range n.length:=fun x hx=>by
  obtain ⟨p,hp,rfl⟩:=List.mem_map.1 hx
  obtain ⟨⟨y,w⟩,hy,rfl⟩:=List.mem_map.1 hp
  have:=(h.min y w hy).1
  have h0:=this.1;have h1:=this.2
  exact List.mem_range.2 (by show y.toNat<_;omega)
 have hnd : ((M.map Prod.fst).map Int.toNat).Nodup:=by
  rw [List.Nodup,List.pairwise_map]
  refine h.nod.imp_of_mem fun {a b} ha hb hab e=>?_
  obtain ⟨⟨y,w⟩,hy,rfl⟩:=List.mem_map.1 ha
  obtain ⟨⟨z,v⟩,hz,rfl⟩:=List.mem_map.1 hb
  have h1:=(h.min y w hy).1.1
  have h2:=(h.min z v hz).1.1
  dsimp only at e hab
  omega
 have : ∀ {a b : List Nat},a.Nodup→(∀ x ∈ a,x ∈ b)→a.length≤b.length:=by
  intro a
  induction a with
  |nil=>intro b _ _;exact Nat.zero_le _
  |cons x a ih=>
   intro b hn hs
   have hn':=List.nodup_cons.1 hn
   have hx:=hs x List.mem_cons_self
   have:=ih (b:=b.erase x) hn'.2 fun y hy=>by
    have hne : y≠x:=fun e=>hn'.1 (e ▸ hy)
    exact (List.mem_erase_of_ne hne).2 (hs y (List.mem_cons_of_mem _ hy))
   rw [List.length_erase_of_mem hx] at this
   have hp : 0<b.length:=List.length_pos_of_mem hx
   rw [List.length_cons];omega
 have:=this hnd hsub
 simpa using this
theorem Fw.end {n : zd} {W : List Int} {s : Int} {k : Nat} {M : zH} (h : Fw n W s k M []) {p : Int} {w : List Int} (hw : Vw n W s w p) : (M.lookup p).isSome=true:=by
 obtain ⟨m,hm⟩ : ∃ m,w.length=m:=⟨_,rfl⟩
 induction m generalizing p w with
 |zero=>have:=hw.pos;omega
 |succ m ih=>
  rcases hw.last with ⟨rfl,rfl⟩|⟨u,q,rfl,hu,hst⟩
  ·exact h.all _ _ hw (by simp)
  ·rw [List.length_append,List.length_singleton] at hm
   obtain ⟨wq,hwq⟩:=J5 (ih hu (by omega))
   obtain ⟨_,hmq,hlq⟩:=h.min q wq hwq
   have hne : wq.length≠k+1:=fun e=>by
    have:=(h.lev q).2 ⟨wq,hwq,e⟩
    cases this
   exact h.all p (wq ++ [p]) (hmq.1.snoc hst) (by rw [List.length_append,List.length_singleton];omega)
noncomputable def xb (n : zd) (s t : Int) (W : List Int) : Option (List Int):=by
 classical exact if h : ∃ w,MinW n W s t w then some h.choose else none
theorem xt {n : zd} {W : List Int} {s t : Int} {w : List Int} : xb n s t W=some w↔MinW n W s t w:=by
 rw [xb]
 constructor
 ·intro h
  split at h
  ·rename_i hx;cases h;exact hx.choose_spec
  ·cases h
 ·intro h
  rw [dif_pos ⟨w,h⟩]
  congr 1
  exact MinW.one (Exists.choose_spec (⟨w,h⟩ : ∃ w,MinW n W s t w)) h
theorem ac3 {n : zd} {W : List Int} {s t : Int} (h : ∀ w,¬ Vw n W s w t) : xb n s t W=none:=by
 cases hw : xb n s t W with
 |none=>rfl
 |some w=>exact absurd (xt.1 hw).1 (h w)
theorem Fw.found {n : zd} {W : List Int} {s t : Int} {k : Nat} {M : zH} {L : List Int} (h : Fw n W s k M L) (he : L = []∨(M.lookup t).isSome=true) : M.lookup t=xb n s t W:=by
 cases hl : M.lookup t with
 |some w=>exact (xt.2 (h.min t w ((kW h.nod).2 hl)).2.1).symm
 |none=>
  rcases he with rfl|he
  ·refine (ac3 fun w hw=>?_).symm
   have:=h.end hw
   rw [hl] at this;cases this
  ·rw [hl] at he;cases he
end Go.Proofs
end
