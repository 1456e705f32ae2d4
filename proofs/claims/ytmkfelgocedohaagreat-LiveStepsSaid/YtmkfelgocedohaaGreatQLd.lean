/-
  Contracts: heads of graphs; Check and May of graph.
  Contracts: the regions of a function, numbered.
  Contracts: all regions of a function; Of, Width.
  Contracts: Of, Width, Place, Borrowed, Called of region.
  Texts of points, of both sides.
  Contracts: Borrowed, Called of region.
  Contracts: SameType of the reference, typeFits and spoil of law 13.
  Contracts: the example of law 13, and what is told of it.
  What is told of the example of law 13; awake.
  Contracts: fits of law 13; lists of numbers read in a memory that stays.
  What is cleared: the end of a slice of one's own.
  Contracts: a function, a point of a program; Assigns, Type, Operands of graph.
  graph.Text, graph.Lines, graph.Next.
  Shallow readings of functions. Made by a program (wip/gen/gen.py) out of the translation; the kernel checks each equality.
  Points compared: slices.EqualFunc of any kind; places, operands, points.
  graph.Same: two programs are the same.
  graph.Same: points, graphs, structs, units compared.
  graph.Same: graphs, structs, units compared.
  loanwordlaw10: fits; graph.Next.
  Contracts: the operands of a point.
  Shapes: what regions say nothing of; the plain law of RegionShapes.
  Contracts: Operands of graph.
  graph.Next; the example of law 10.
  loanwordlaw10: awake.
  Shallow readings of functions. Made by a program (wip/gen/gen.py) out of the translation; the kernel checks each equality.
  The document's answer of layer 9: which types may be; how many words.
  The document's answer of layer 9: words, endless, Structs, Types.
  The document's answer of layer 9: Structs, Types, step, Walk.
  The document's answer of layer 9: step, Walk.
  The document's answer of layer 10: small parts.
  The document's answer of layer 10: rest.
  The document's answer of layer 10: walk, to, operand, args of an asker.
  The document's answer of layer 10: operand, args of an asker.
  Joined conditions with calls in them; facts of an asker.
  The document's answer of layer 10: a point.
  The document's answer of layer 10: what a type implies; the head of a graph.
  The document's answer of layer 10: the head of a graph.
  The document's answer of layer 10: Check, May, Is.
  loanwordlaw10.GraphTexts: whatever the program, the function, the point: the law returns true.
  Contracts of the library, laid at this program (by the kit's own tools).
  slices.Sort, slices.Compact, slices.Clip of a row of numbers that the walk has made itself.
  graph.Calls and the document's Calls.
  What the document says of points: Next, Operands, Assigns, Calls, places compared.
  Plain: nets (who comes behind whom), what is reached without going on from some, looked for breadth first.
  loanwordref10.Own: places and operands; what a memory of one's own tells.
  Contract: loanwordref10.Own, a program in memory of its own; one function's lists are told as rows that may be written over.
  Plain: a program that may be still may be with another point, or a local more; what it tells of sizes.
  Plain: a program that may be, with one function changed; what a point that may be tells of its operands' types.
  The net of a graph that may be.
  Plain: who lies above whom (without it there is no way): found by going round until nothing changes.
  Plain: the walk from point 0 (deep first) as steps of a machine; what is left behind.
  Plain: what the walk leaves behind: each point that is reached once; edges back; who lies above comes ahead.
  Plain: shortest ways, the first of them by number; found level by level.
  Plain: a round of levels; the way that is found.
  Plain: the document's shortest way: how far it is to the end, then always the least that comes nearer.
  Plain: where one goes round: what reaches a point without going through another one.
  Plain: who lies above whom is a chain; right above.
  Plain: places in the order; two small nets, reckoned.
  Plain: what the statements of Flow ask of ways, of what lies above, of the order.
  Plain: which locals a point uses, which one ends there; where a local is live; why.
  Plain: where locals are live, as marks; a list of work; round and round.
  Plain: why a local is live; step by step; the least closed rows.
  Plain: marks as rows of bits.
  Rows of one's own as cells, and back; a row cut shorter.
  Shallow readings of functions. Made by a program (wip/gen/gen.py) out of the translation; the kernel checks each equality.
  Contracts: slices of numbers and of marks: Contains, Clone, Equal, Repeat, Reverse.
  Shallow readings of functions. Made by a program (wip/gen/gen.py) out of the translation; the kernel checks each equality.
  Contracts of flow: a net is told of a program; has, before, marked, reached.
  Contracts of flow: the net of a program; what is reached.
  Contract of flow: the walk.
  Contract of flow: who lies above whom. Rows of marks in memory.
  Contract of flow: (net).above.
  Contracts of flow: Before, Reach, Above, Order, Back. Made by a program (wip/gen/flowc.py).
  More of the seat's types, reckoned. Made by a program (wip/gen/gen.py).
-/
import Derived.Test.YtmkfelgocedohaaGreatQLc
import Derived.Test.YtmkfelgocedohaaGreatQLb
import GoSem.Builtin.Clear
import Derived.Shelf.Sort.Plain
import Derived.Shelf.Bits.Mul64
import Derived.Shelf.Slices.Reverse
import Derived.Shelf.Slices.Clone
import Derived.Shelf.Slices.CompactI
import Derived.Shelf.Slices.In.SortNone
import Derived.Test.YtmkfelgocedohaaGreatProg
import Derived.KernelRfl
import Derived.Test.YtmkfelgocedohaaGreatQLa
section
namespace Go.Sh
theorem aeS {w : World} {A2 : (List Value→World→Prop)→Prop} {A3 A4 A5 : (List Value→World→Prop)→World→Prop} {Z : Value→World→Prop} {b1 b2 b3 b4 b5 : Bool}
  (h2 : ∀ K : List Value→World→Prop,K [.bool b2] w→A2 K) (h3 : ∀ K : List Value→World→Prop,K [.bool b3] w→A3 K w) (h4 : ∀ K : List Value→World→Prop,K [.bool b4] w→A4 K w) (h5 : ∀ K : List Value→World→Prop,K [.bool b5] w→A5 K w)
  (hZ : Z (.bool (b1&&(b2||((b3&&b4)&&b5)))) w) :
  za (fun K=>gIf (.bool b1) true (A2 K) (K [undef] w)) fun s64 _ w66=>
   za (fun K=>gIf (s64.getD 0 undef) false (A3 K w66) (K [undef] w66)) fun s68 _ w70=>
    za (fun K=>gIf (s68.getD 0 undef) true (A4 K w70) (K [undef] w70)) fun s72 _ w74=>
     za (fun K=>gIf (s64.getD 0 undef) false (zb (s68.getD 0 undef) (s72.getD 0 undef) (.bool false) fun t=>K [t] w74) (K [undef] w74)) fun s76 _ w78=>
      za (fun K=>gIf (s76.getD 0 undef) true (A5 K w78) (K [undef] w78)) fun s80 _ w82=>
       za (fun K=>gIf (s64.getD 0 undef) false (zb (s76.getD 0 undef) (s80.getD 0 undef) (.bool false) fun t=>K [t] w82) (K [undef] w82)) fun s84 _ w86=>
        za (fun K=>gIf (.bool b1) true (zb (s64.getD 0 undef) (.bool true) (s84.getD 0 undef) fun t=>K [t] w86) (K [undef] w86)) fun s88 _ w90=>
         zb (.bool b1) (s88.getD 0 undef) (.bool false) fun t=>Z t w90:=by
 cases b1<;>cases b2<;>cases b3<;>cases b4 <;>
  (iterate 7 (intro K hK;first|refine hK _ _ fun _=>?_|refine h2 _ (hK _ _ fun _=>?_)|refine h3 _ (hK _ _ fun _=>?_)|refine h4 _ (hK _ _ fun _=>?_)|refine h5 _ (hK _ _ fun _=>?_)|refine ⟨_,rfl,hK _ _ fun _=>?_⟩)) <;>
  exact ⟨_,rfl,by simpa using hZ⟩
end Go.Sh
namespace Go.Proofs
open Go.Sh
set_option maxRecDepth 100000
set_option linter.unusedSimpArgs false
set_option linter.unusedVariables false
theorem acK {a b : Nat} : decide ((a : Int)≠(b : Int))=decide (a≠b):=decide_eq_decide.2 (by omega)
theorem af4 {u : UnD} {g : GrD} {i : Nat} {t : TyD} : tyG u g i t=(mayB u.ss t && !((yN t).any fun r=>decide (r<(if (i : Int)≤g.pn then 0 else -1))||decide (g.lv≤r))):=by
 rw [tyG,List.not_any_eq_all_not]
set_option maxHeartbeats 4000000 in
theorem aaP {u : UnD} {i : Nat} {v : Value} {w : World} {r : Gh} {K : Value→World→Prop} (hi : i<u.fs.length) (hr : Holds r w) (hu : UnG r v u)
  (h : ∀ w',Ext w w'→K (.bool (xG u i u.fs[i])) w') : zd Tryz.prog Tryz.vz #[v,.int .i64 i] w K:=by
 obtain ⟨p0,cap0,vf,rfl,_,_,hst,hsl,hfn⟩:=hu
 obtain ⟨qf,capf,rfl,_,_⟩:=hfn.sl.shape
 obtain ⟨bf,of,cf,rfl,hcf,hgc,hfo⟩:=hfn.sl.get (by decide) hi
 refine Tryz.VH ?_
 unfold Tryz.YX
 generalize hgi : u.fs[i]=g at h hgc
 obtain ⟨vo,vt,vn,vp,rfl,h1,h2,h3,h4⟩:=id hgc
 obtain ⟨qo,capo,rfl,_,_⟩:=h1.sl.shape
 obtain ⟨qt,capt,rfl,_,hct⟩:=h2.sl.shape
 obtain ⟨qn,capn,rfl,_,_⟩:=h3.sl.shape
 obtain ⟨qp,capp,rfl,_,_⟩:=h4.sl.shape
 have hptl : g.pts.length≤9223372036854775807:=h4.few
 have htl : g.tys.length≤9223372036854775807:=h2.few
 have S:=St.start hr
 refine S.box fun b2 w1 S=>?_
 refine gG_ ?_
 refine zF (n:=7) hcf (fun j v hj=>by rw [Int.toNat_natCast];exact S.at (hfo j v hj)) ?_
 refine S.al fun b5 w2 S=>?_
 refine S.stB (b:=b5) fun w3 S=>?_
 refine gG_ ?_
 have no : (HeadU u i g→False)→xG u i g=false:=fun hh=>by
  cases e : xG u i g
  ·rfl
  ·exact (hh (acJ e)).elim
 refine zi (c:=decide (8<g.lv)) (fun _ K2 hK2=>?_) ?_
 ·refine gG_ ?_
  exact hK2
 refine zi (c:=decide (g.pn<0)) (fun _ K2 hK2=>?_) ?_
 ·refine gG_ ?_
  exact hK2
 refine zi (c:=decide (8<g.pn)) (fun _ K2 hK2=>?_) ?_
 ·refine gG_ ?_
  exact hK2
 refine zi (c:=decide ((g.tys.length : Int)≤g.pn)) (fun _ K2 hK2=>?_) ?_
 ·refine gG_ ?_
  exact hK2
 refine zi (c:=decide (512<g.tys.length)) (fun _ K2 hK2=>?_) ?_
 ·refine gG_ ?_
  rw [show decide ((512 : Int)<(g.tys.length : Int))=decide (512<g.tys.length) from decide_eq_decide.2 (by omega)]
  exact hK2
 refine zi (c:=decide (g.nms.length≠g.tys.length)) (fun _ K2 hK2=>?_) ?_
 ·refine gG_ ?_
  rw [acK]
  exact hK2
 refine c_b (fun hbad=>?_) (fun hgood=>?_)
 ·rw [no fun H=>by
   have:=H.lv0;have:=H.lv8;have:=H.pn0;have:=H.pn8;have:=H.pn1;have:=H.ty512;have:=H.nms
   simp only [Bool.or_eq_true,decide_eq_true_eq] at hbad;omega] at h
  exact h _ S.ext
 have hnum : (0≤g.lv∧g.lv≤8∧0≤g.pn∧g.pn≤8)∧g.pn<g.tys.length∧g.tys.length≤512∧g.nms.length=g.tys.length:=by
  simp only [Bool.or_eq_false_iff,decide_eq_false_iff_not] at hgood;omega
 clear hgood
 obtain ⟨⟨hlv0,hlv8,hpn0,hpn8⟩,hpn1,hty,hnm⟩:=hnum
 refine gG_ ?_
 refine zk (ι:=Nat) (fun i=>[.int .i64 (i : Nat)]) (fun j w'=>j≤g.tys.length∧qU u g j (g.tys.drop j)=qU u g 0 g.tys∧StX noX w r w' _) (fun i=>g.tys.length - i) 0 rfl ⟨Nat.zero_le _,rfl,S⟩ ?_
 clear S
 rintro j d w5 ⟨hj,hd,S⟩ K6 hK6
 rw [List.getD_cons_zero]
 refine gP_ ?_
 refine zm (fun hlt=>?_) (fun hge=>?_)
 ·have hlt : j<g.tys.length:=by omega
  obtain ⟨bt,ot,ct,rfl,hct,htc,hcell⟩:=h2.sl.get (by decide) hlt
  obtain ⟨q2,cap2,rfl,ht2⟩:=qr htc
  rw [adP hlt] at hd
  refine gP_ ?_
  refine zF (n:=5) hct (fun j v hj=>by rw [Int.toNat_natCast];exact S.at (hcell j v hj)) ?_
  refine S.al fun b7 w6 S=>?_
  refine S.stB (b:=b7) fun w7 S=>?_
  refine gG_ ?_
  refine ZE S.holds hst ht2 fun w8 e8=>?_
  have S:=S.go e8
  refine gP_ ?_
  refine c_b (fun hm=>?_) (fun hm=>?_)
  ·have hm : mayB u.ss g.tys[j]=false:=by simpa using hm
   rw [no fun H=>by
    have:=H.tys
    rw [← hd,tyG,hm,Bool.false_and,Bool.false_and] at this;cases this] at h
   exact h _ S.ext
  have hm : mayB u.ss g.tys[j]=true:=by simpa using hm
  refine S.al fun b8 w9 S=>?_
  refine S.st (b:=b8) fun w10 S=>?_
  refine zq (fun _ w'=>StX noX w r w' [.cell b8 [.int .i64 (if (j : Int)≤g.pn then 0 else -1)] 3,.cell b7 (tyL g.tys[j] q2 cap2) 138,.cell b5 [.string g.name,.int .i64 g.lv,.slice qo g.outs.length capo,.int .i64 g.pn,.slice (some ⟨bt,ot,none⟩) g.tys.length capt,.slice qn g.nms.length capn,.slice qp g.pts.length capp] 38,
   .cell b2 [.slice p0 u.ss.length cap0,.slice (some ⟨bf,of,none⟩) u.fs.length capf,.int .i64 u.mn] 25]) (fun K3 hK3=>?_) ?_
  ·refine gG_ ?_
   refine zm (fun hle=>?_) (fun hgt=>?_)
   ·refine S.st (b:=b8) fun w11 S=>?_
    refine hK3 [] _ ?_
    rw [if_pos hle];exact S
   ·refine hK3 [] _ ?_
    rw [if_neg hgt];exact S
  clear S
  rintro _ w11 S d11
  refine S.ldB (b:=b7) ?_ rfl
  refine Zm S.holds ht2 fun v7 w12 e12 o12=>?_
  have S:=S.go e12
  obtain ⟨p7,cap7,rfl,_,_,_,hs7⟩:=YV o12
  refine gP_ ?_
  have hr48 : (yN g.tys[j]).length≤1000:=by
   rw [yN];split
   ·have:=Vf (by assumption);omega
   ·simp
  refine qN (f:=fun x=>decide (x<(if (j : Int)≤g.pn then 0 else -1))||decide (g.lv≤x)) (fun x K hK=>?_) hs7 (by omega) ?_
  ·refine Q8 (by kernel_rfl) ?_
   refine Tryz.Q3 ?_
   unfold Tryz.ZN
   refine S.ld (b:=b8) ?_ rfl
   refine gP_ ?_
   refine zi (c:=decide (g.lv≤x)) (fun _ K2 hK2=>?_) hK
   refine gG_ ?_
   exact hK2
  have hty : tyG u g j g.tys[j] = !((yN g.tys[j]).any fun x=>decide (x<(if (j : Int)≤g.pn then 0 else -1))||decide (g.lv≤x)):=by
   rw [af4,hm,Bool.true_and]
  refine c_b (fun hx=>?_) (fun hx=>?_)
  ·rw [hty,hx,Bool.not_true,Bool.false_and] at hd
   rw [no fun H=>by have:=H.tys;rw [← hd] at this;cases this] at h
   exact h _ S.ext
  ·rw [hty,hx,Bool.not_false,Bool.true_and] at hd
   refine gP_ ?_
   rw [show ((j : Int)+1)=((j+1 : Nat) : Int) by omega]
   exact hK6 (j+1) _ ⟨hlt,hd,(S.drop b8).drop b7⟩ (by omega)
 have hje : j=g.tys.length:=by omega
 rw [hje,List.drop_length] at hd
 have htys : qU u g 0 g.tys=true:=hd.symm
 clear hd hK6 K6 hge hj hje
 refine gG_ ?_
 refine zi (c:=decide (1024<g.pts.length)) (fun _ K2 hK2=>?_) ?_
 ·refine gG_ ?_
  rw [show decide ((1024 : Int)<(g.pts.length : Int))=decide (1024<g.pts.length) from decide_eq_decide.2 (by omega)]
  exact hK2
 refine xk (c:=!Yi g) (fun _ K2 hK2=>?_) fun w20 e20=>?_
 ·refine S.ldB (b:=b5) ?_ rfl
  refine Qz S.holds hgc hlv0 hlv8 hpn0 hpn1 (fun t ht x hx=>?_) fun w21 e21=>?_
  ·obtain ⟨k,hk,rfl⟩:=List.getElem_of_mem ht
   rw [List.length_take] at hk
   rw [List.getElem_take] at hx
   have:=aaM htys (j:=k) (by omega) (by omega) x hx
   omega
  refine gP_ ?_
  exact hK2 _ e21
 have S:=S.go e20
 refine c_b (fun hbad=>?_) (fun hgood=>?_)
 ·rw [no fun H=>by
   have:=H.pt1;have:=H.pt1024;have h3:=H.outs
   rw [h3] at hbad
   simp only [Bool.or_eq_true,decide_eq_true_eq,Bool.not_true,Bool.false_eq_true,or_false] at hbad;omega] at h
  exact h _ S.ext
 have hnum : (1≤g.pts.length∧g.pts.length≤1024)∧Yi g=true:=by
  cases ho : Yi g
  ·rw [ho] at hgood;simp at hgood
  ·simp only [Bool.or_eq_false_iff,decide_eq_false_iff_not] at hgood
   exact ⟨by omega,rfl⟩
 clear hgood
 obtain ⟨⟨hp1,hp1024⟩,hout⟩:=hnum
 refine gG_ ?_
 refine zk (ι:=Nat) (fun i=>[.int .i64 (yL (g.pts.take i) : Nat),.int .i64 (i : Nat)]) (fun j w'=>j≤g.pts.length∧yL (g.pts.take j)≤j∧StX noX w r w' _) (fun i=>g.pts.length - i) 0 rfl ⟨Nat.zero_le _,Nat.le_refl _,S⟩ ?_
 clear S
 rintro j d w22 ⟨hj,hlj,S⟩ K7 hK7
 simp only [List.getD_cons_zero,List.getD_cons_succ]
 refine gP_ ?_
 refine zm (fun hlt=>?_) (fun hge=>?_)
 ·have hlt : j<g.pts.length:=by omega
  obtain ⟨bp,op,cp,rfl,hcp,hpc,hcell⟩:=h4.sl.get (by decide) hlt
  refine zq (fun s w'=>s = [.int .i64 (yL (g.pts.take (j+1)) : Nat)]∧StX noX w r w' [.cell b5 [.string g.name,.int .i64 g.lv,.slice qo g.outs.length capo,.int .i64 g.pn,.slice qt g.tys.length capt,.slice qn g.nms.length capn,.slice (some ⟨bp,op,none⟩) g.pts.length capp] 38,
   .cell b2 [.slice p0 u.ss.length cap0,.slice (some ⟨bf,of,none⟩) u.fs.length capf,.int .i64 u.mn] 25]) (fun K3 hK3=>?_) ?_
  ·refine gP_ ?_
   refine zF (n:=21) hcp (fun j v hj=>by rw [Int.toNat_natCast];exact S.at (hcell j v hj)) ?_
   obtain ⟨vto,va,vb,vl,vfr,rfl,k1,k2,k3,k4,k5⟩:=hpc
   obtain ⟨_,_,rfl,_⟩:=k1.sl.shape
   obtain ⟨_,_,rfl,_⟩:=k2.sl.shape
   obtain ⟨_,_,rfl,_⟩:=k3.sl.shape
   obtain ⟨_,_,rfl,_⟩:=k4.sl.shape
   obtain ⟨_,_,rfl,_⟩:=k5.sl.shape
   refine S.al fun b11 w23 S=>?_
   refine S.stB (b:=b11) fun w24 S=>?_
   refine gG_ ?_
   have hlo:=Jf hlt
   refine zm (fun ho=>?_) (fun ho=>?_)
   ·rw [if_pos ho] at hlo
    refine gP_ ?_
    rw [show ((yL (g.pts.take j) : Nat) : Int)+1=((yL (g.pts.take (j+1)) : Nat) : Int) by omega]
    exact hK3 _ _ ⟨rfl,S.drop b11⟩
   ·rw [if_neg ho] at hlo
    rw [show ((yL (g.pts.take j) : Nat) : Int)=((yL (g.pts.take (j+1)) : Nat) : Int) by omega]
    exact hK3 _ _ ⟨rfl,S.drop b11⟩
  clear S
  rintro _ w25 ⟨rfl,S⟩ d25
  rw [List.getD_cons_zero]
  refine gP_ ?_
  rw [show ((j : Int)+1)=((j+1 : Nat) : Int) by omega]
  refine hK7 (j+1) _ ⟨hlt,?_,S⟩ (by omega)
  rw [Jf hlt];split<;>omega
 have hje : j=g.pts.length:=by omega
 rw [hje,List.take_length]
 refine gP_ ?_
 have hfin : xG u i g=(decide (yL g.pts≤256)&&(decide ((i : Int)≠u.mn)||((decide (g.lv=0)&&decide (g.pn=0))&&isK (g.tys.headD yu) 1))):=by
  rw [xG,htys,hout,decide_eq_true hlv0,decide_eq_true hlv8,decide_eq_true hpn0,decide_eq_true hpn8,decide_eq_true hpn1,decide_eq_true hty,decide_eq_true hnm,decide_eq_true hp1,decide_eq_true hp1024,decide_not];rfl
 rw [hfin] at h
 rw [show decide ((yL g.pts : Int)≤256)=decide (yL g.pts≤256) from decide_eq_decide.2 (by omega)]
 refine aeS (b2:=decide ((i : Int)≠u.mn)) (b3:=decide (g.lv=0)) (b4:=decide (g.pn=0)) (b5:=isK (g.tys.headD yu) 1) (fun K2 hK2=>?_) (fun K2 hK2=>?_) (fun K2 hK2=>?_) (fun K2 hK2=>?_) (h _ S.ext)
 ·refine gG_ ?_
  exact hK2
 ·refine gG_ ?_
  exact hK2
 ·refine gG_ ?_
  exact hK2
 ·have hpos : 0<g.tys.length:=by omega
  obtain ⟨bt,ot,ct,rfl,hct,htc,hcell⟩:=h2.sl.get (by decide) hpos
  obtain ⟨q2,cap2,rfl,ht2⟩:=qr htc
  refine gG_ ?_
  refine zf (v:=.int .u8 g.tys[0].k) (by simpa using S.at (hcell 0 _ rfl)) ?_
  refine gG_ ?_
  have he : g.tys.headD yu=g.tys[0]:=by
   rw [List.headD_eq_head?_getD,List.head?_eq_getElem?,List.getElem?_eq_getElem hpos,Option.getD_some]
  rw [he] at hK2
  exact hK2
theorem adT {u : UnD} {i : Nat} {l : List GrD} (hi : i<l.length) : kR u i (l.drop i)=if xG u i l[i] then kR u (i+1) (l.drop (i+1)) else some i:=by
 rw [List.drop_eq_getElem_cons hi];rfl
theorem aeT {u : UnD} {g : GrD} {q : Nat} {l : List PtD} (hq : q<l.length) : j6 u g q (l.drop q)=if zV u g l[q] then j6 u g (q+1) (l.drop (q+1)) else some q:=by
 rw [List.drop_eq_getElem_cons hq];rfl
theorem af5 {u : UnD} {i : Nat} {l : List GrD} (hi : i<l.length) : vH u i (l.drop i)=match j6 u l[i] 0 l[i].pts with|some q=>some (i,q)|none=>vH u (i+1) (l.drop (i+1)):=by
 rw [List.drop_eq_getElem_cons hi];rfl
noncomputable def Jh (u : UnD) : Int × Int × Int:=match kR u 0 u.fs with
  |some i=>(i,-1,100)
  |none=>match vH u 0 u.fs with
   |some (i,q)=>(i,q,100)
   |none=>(0,0,0)
set_option maxHeartbeats 4000000 in
theorem VQ {u : UnD} {v : Value} {w : World} {r : Gh} {K : Value→World→Prop} (hr : Holds r w) (hu : UnG r v u)
  (h : ∀ w',Ext w w'→K (.tuple #[.int .i64 (kS u).1,.int .i64 (kS u).2.1,.int .i64 (kS u).2.2]) w') : zd Tryz.prog Tryz.jB #[v] w K:=by
 have hu0:=hu
 obtain ⟨p0,cap0,vf,rfl,_,_,hst,hsl,hfn⟩:=hu
 obtain ⟨qf,capf,rfl,_,_⟩:=hfn.sl.shape
 have hfl : u.fs.length≤9223372036854775807:=hfn.few
 refine Tryz.JG ?_
 unfold Tryz.Yy
 have S:=St.start hr
 refine S.box fun b1 w1 S=>?_
 refine gG_ ?_
 refine Zo S.holds hst fun w2 e2=>?_
 have S:=S.go e2
 refine gS_ ?_
 refine zi (c:=decide (u.fs.length<1)) (fun _ K2 hK2=>?_) ?_
 ·refine gG_ ?_
  rw [show decide ((u.fs.length : Int)<1)=decide (u.fs.length<1) from decide_eq_decide.2 (by omega)]
  exact hK2
 refine zi (c:=decide (32<u.fs.length)) (fun _ K2 hK2=>?_) ?_
 ·refine gG_ ?_
  rw [show decide ((32 : Int)<(u.fs.length : Int))=decide (32<u.fs.length) from decide_eq_decide.2 (by omega)]
  exact hK2
 refine zi (c:=decide (u.mn<0)) (fun _ K2 hK2=>?_) ?_
 ·refine gG_ ?_
  exact hK2
 refine zi (c:=decide ((u.fs.length : Int)≤u.mn)) (fun _ K2 hK2=>?_) ?_
 ·refine gG_ ?_
  exact hK2
 have hC : kS u=if ((((decide ((zX u.ss).2≠0)||decide (u.fs.length<1))||decide (32<u.fs.length))||decide (u.mn<0))||decide ((u.fs.length : Int)≤u.mn))=true then (-1,-1,100) else Jh u:=by
  rw [kS,Jh]
  simp only [ne_eq,decide_not,Bool.or_assoc] <;>
  rfl
 rw [hC] at h
 refine c_b (fun hbad=>?_) (fun hgood=>?_)
 ·rw [if_pos hbad] at h
  exact h _ S.ext
 rw [if_neg (by rw [hgood];decide)] at h
 have hok : (zX u.ss).2=0:=by
  simp only [Bool.or_eq_false_iff,decide_eq_false_iff_not] at hgood;omega
 clear hC hgood
 refine gG_ ?_
 refine zk (ι:=Nat × Int) (fun i=>[.int .i64 i.2,.int .i64 0,.int .i64 (i.1 : Nat)]) (fun j w'=>j.1≤u.fs.length∧kR u j.1 (u.fs.drop j.1)=kR u 0 u.fs∧StX noX w r w' _) (fun i=>u.fs.length - i.1) (0,0) rfl ⟨Nat.zero_le _,rfl,S⟩ ?_
 clear S
 rintro ⟨j,a⟩ d w5 ⟨hj,hd,S⟩ K6 hK6
 simp only at hj hd S ⊢
 simp only [List.getD_cons_zero,List.getD_cons_succ]
 refine gP_ ?_
 refine zm (fun hlt=>?_) (fun hge=>?_)
 ·have hlt : j<u.fs.length:=by omega
  rw [adT hlt] at hd
  refine S.ldB (b:=b1) ?_ rfl
  refine aaP hlt S.holds hu0 fun w6 e6=>?_
  have S:=S.go e6
  refine gP_ ?_
  refine c_b (fun hx=>?_) (fun hx=>?_)
  ·rw [if_neg (by simpa using hx)] at hd
   rw [Jh,← hd] at h
   exact h _ S.ext
  ·rw [if_pos (by simpa using hx)] at hd
   refine gP_ ?_
   rw [show ((j : Int)+1)=((j+1 : Nat) : Int) by omega]
   exact hK6 (j+1,j) _ ⟨hlt,hd,S⟩ (by show u.fs.length - (j+1)<u.fs.length - j;omega)
 have hje : j=u.fs.length:=by omega
 rw [hje,List.drop_length] at hd
 have hnone : kR u 0 u.fs=none:=hd.symm
 have hheads:=fun (i : Nat) (hi : i<u.fs.length)=>acJ (by have:=kT.1 hnone i hi;rwa [Nat.zero_add] at this : xG u i u.fs[i]=true)
 rw [Jh,hnone] at h
 dsimp only at h
 clear hd hK6 K6 hge hj hje
 refine zq (fun s w'=>Ext w w'∧((∃ x y : Nat,s = [.int .i64 (x : Int),.int .i64 (y : Int),.bool true]∧vH u 0 u.fs=some (x,y))∨∃ x y,s = [x,y,.bool false]∧vH u 0 u.fs=none)) (fun K3 hK3=>?_) ?_
 rotate_left
 ·rintro _ w9 ⟨e9,⟨x,y,rfl,hb⟩|⟨x,y,rfl,hb⟩⟩ d9
  ·rw [hb] at h
   refine c_t rfl ?_
   exact h _ e9
  ·rw [hb] at h
   refine c_f rfl ?_
   exact h _ e9
 refine gG_ ?_
 refine zk (ι:=Nat × Value × Value) (fun i=>[i.2.1,i.2.2,.bool false,.int .i64 (i.1 : Nat)]) (fun j w'=>j.1≤u.fs.length∧vH u j.1 (u.fs.drop j.1)=vH u 0 u.fs∧StX noX w r w' _) (fun i=>u.fs.length - i.1) (0,.int .i64 a,.int .i64 0) rfl ⟨Nat.zero_le _,rfl,S⟩ ?_
 clear S
 rintro ⟨j,x1,x2⟩ d w5 ⟨hj,hd,S⟩ K6 hK6
 simp only at hj hd S ⊢
 simp only [List.getD_cons_zero,List.getD_cons_succ]
 refine gP_ ?_
 refine zm (fun hlt=>?_) (fun hge=>?_)
 rotate_left
 ·have hje : j=u.fs.length:=by omega
  rw [hje,List.drop_length] at hd
  exact hK3 _ _ ⟨S.ext,.inr ⟨_,_,rfl,hd.symm⟩⟩
 have hlt : j<u.fs.length:=by omega
 obtain ⟨bf,of,cf,rfl,hcf,hgc,hfo⟩:=hfn.sl.get (by decide) hlt
 rw [af5 hlt] at hd
 have hH:=hheads j hlt
 have hfin:=hH.fine hok
 have hpn : ∀ f ∈ u.fs,0≤f.pn∧f.pn<f.tys.length:=fun f hf=>by
  obtain ⟨i,hi,rfl⟩:=List.getElem_of_mem hf
  exact ⟨(hheads i hi).pn0,(hheads i hi).pn1⟩
 generalize hgi : u.fs[j]=g at hd hgc hH hfin
 obtain ⟨vo,vt,vn,vp,rfl,h1,h2,h3,h4⟩:=id hgc
 obtain ⟨qo,capo,rfl,_,_⟩:=h1.sl.shape
 obtain ⟨qt,capt,rfl,_,hct⟩:=h2.sl.shape
 obtain ⟨qn,capn,rfl,_,_⟩:=h3.sl.shape
 obtain ⟨qp,capp,rfl,_,_⟩:=h4.sl.shape
 have hptl : g.pts.length≤9223372036854775807:=h4.few
 refine gP_ ?_
 refine zF (n:=7) hcf (fun j v hj=>by rw [Int.toNat_natCast];exact S.at (hfo j v hj)) ?_
 refine S.al fun b9 w6 S=>?_
 refine S.stB (b:=b9) fun w7 S=>?_
 refine S.ldB (b:=b1) ?_ rfl
 refine S.ldB (b:=b9) ?_ rfl
 refine zu (cs:=#[.slice p0 u.ss.length cap0,.slice (some ⟨bf,of,none⟩) u.fs.length capf,.int .i64 u.mn,.string g.name,.int .i64 g.lv,.slice qo g.outs.length capo,.int .i64 g.pn,.slice qt g.tys.length capt,.slice qn g.nms.length capn,.slice qp g.pts.length capp]) (by kernel_rfl) ?_
 refine S.al fun b10 w8 S=>?_
 refine S.stB (b:=b10) fun w9 S=>?_
 refine gG_ ?_
 have hask : AskG r (.agg #[.slice p0 u.ss.length cap0,.slice (some ⟨bf,of,none⟩) u.fs.length capf,.int .i64 u.mn,.string g.name,.int .i64 g.lv,.slice qo g.outs.length capo,.int .i64 g.pn,.slice qt g.tys.length capt,.slice qn g.nms.length capn,.slice qp g.pts.length capp]) u g:=⟨_,_,_,_,_,_,_,rfl,hu0,hgc⟩
 refine zk (ι:=Nat) (fun i=>[x1,x2,.bool false,.int .i64 (i : Nat)]) (fun k w'=>k≤g.pts.length∧j6 u g k (g.pts.drop k)=j6 u g 0 g.pts∧StX noX w r w' _) (fun i=>g.pts.length - i) 0 rfl ⟨Nat.zero_le _,rfl,S⟩ ?_
 clear S
 rintro k d w10 ⟨hk,hdk,S⟩ K7 hK7
 simp only [List.getD_cons_zero,List.getD_cons_succ]
 refine gP_ ?_
 refine zm (fun hlt2=>?_) (fun hge=>?_)
 ·have hlt2 : k<g.pts.length:=by omega
  obtain ⟨bp,op,cp,rfl,hcp,hpc,hcell⟩:=h4.sl.get (by decide) hlt2
  rw [aeT hlt2] at hdk
  refine gP_ ?_
  refine zF (n:=21) hcp (fun j v hj=>by rw [Int.toNat_natCast];exact S.at (hcell j v hj)) ?_
  obtain ⟨vto,va,vb,vl,vfr,rfl,k1,k2,k3,k4,k5⟩:=id hpc
  obtain ⟨_,_,rfl,_⟩:=k1.sl.shape
  obtain ⟨_,_,rfl,_⟩:=k2.sl.shape
  obtain ⟨_,_,rfl,_⟩:=k3.sl.shape
  obtain ⟨_,_,rfl,_⟩:=k4.sl.shape
  obtain ⟨_,_,rfl,_⟩:=k5.sl.shape
  refine S.al fun b12 w11 S=>?_
  refine S.stB (b:=b12) fun w12 S=>?_
  refine S.ldB (b:=b10) ?_ rfl
  refine S.ldB (b:=b12) ?_ rfl
  refine YL S.holds hask hfin hpn hpc fun w13 e13=>?_
  have S:=S.go e13
  refine gP_ ?_
  refine c_b (fun hx=>?_) (fun hx=>?_)
  ·rw [if_neg (by simpa using hx)] at hdk
   rw [← hdk] at hd
   exact hK3 _ _ ⟨S.ext,.inl ⟨j,k,rfl,hd.symm⟩⟩
  ·rw [if_pos (by simpa using hx)] at hdk
   refine gP_ ?_
   rw [show ((k : Int)+1)=((k+1 : Nat) : Int) by omega]
   exact hK7 (k+1) _ ⟨hlt2,hdk,S.drop b12⟩ (by omega)
 have hke : k=g.pts.length:=by omega
 rw [hke,List.drop_length] at hdk
 rw [← hdk] at hd
 refine gP_ ?_
 rw [show ((j : Int)+1)=((j+1 : Nat) : Int) by omega]
 exact hK6 (j+1,x1,x2) _ ⟨hlt,hd,(S.drop b10).drop b9⟩ (by show u.fs.length - (j+1)<u.fs.length - j;omega)
theorem ZH {u : UnD} {v : Value} {w : World} {r : Gh} {K : Value→World→Prop} (hr : Holds r w) (hu : UnG r v u)
  (h : ∀ w',Ext w w'→K (.bool (Qw u)) w') : zd Tryz.prog Tryz.kQ #[v] w K:=by
 refine Tryz.aav ?_
 unfold Tryz.XZ
 have hu0:=hu
 obtain ⟨p0,cap0,vf,rfl,_,_,hst,hsl,hfn⟩:=hu
 obtain ⟨qf,capf,rfl,_,_⟩:=hfn.sl.shape
 have S:=St.start hr
 refine S.box fun b1 w1 S=>?_
 refine S.ldB (b:=b1) ?_ rfl
 refine VQ S.holds hu0 fun w2 e2=>?_
 have S:=S.go e2
 refine gS_ ?_
 exact h _ S.ext
end Go.Proofs
end
section
namespace Go.Proofs
open Go.Sh
set_option maxRecDepth 100000
set_option linter.unusedSimpArgs false
set_option linter.unusedVariables false
end Go.Proofs
end
section
namespace Go.Sh
theorem StX.front {X : Nat→Prop} {w0 w : World} {r : Gh} {L M : List Asr} (S : StX X w0 r w L) (b : Nat) {c : List Value} {T : TypeId} [h : jF b L c T M] : StX X w0 r w (.cell b c T::M):=S.permO h.h.symm
end Go.Sh
namespace Go.Proofs
open Go.Sh
set_option maxRecDepth 100000
set_option linter.unusedSimpArgs false
set_option linter.unusedVariables false
end Go.Proofs
end
section
namespace Go.Proofs
open Go.Sh
set_option maxRecDepth 100000
set_option linter.unusedSimpArgs false
set_option linter.unusedVariables false
def jv : PlD:=⟨0,[]⟩
def Zq : OpD:=⟨0,0,jv⟩
def adU : PtD:=⟨0,jv,Zq,Zq,[],ByteArray.empty,jv,false,0,0,0,0,0⟩
abbrev abY : List Value:=[.int .u8 0,.int .i64 0,.slice none 0 0,.int .u8 0,.int .i64 0,.int .i64 0,.slice none 0 0,.int .u8 0,.int .i64 0,.int .i64 0,.slice none 0 0,.slice none 0 0,.string ByteArray.empty,.int .i64 0,.slice none 0 0,.bool false,.int .i64 0,.int .i64 0,.int .i64 0,.int .i64 0,.int .i64 0]
theorem xU {α : Type} {sz : Nat} {r : Gh} {R : List Value→α→Prop} : SlB sz r R (.slice none 0 0) ([] : List α):=⟨SlG.nil,Nat.zero_le _⟩
theorem aeU {r : Gh} : PtG r abY adU:=⟨_,_,_,_,_,rfl,xU,xU,xU,xU,xU⟩
abbrev ptL (p : PtD) (q1 q2 q3 q4 q5 : Option Addr) (c1 c2 c3 c4 c5 : Nat) : List Value:=[.int .u8 p.op,.int .i64 p.to.l,.slice q1 p.to.ps.length c1,.int .u8 p.a.k,.int .i64 p.a.n,.int .i64 p.a.pl.l,.slice q2 p.a.pl.ps.length c2,.int .u8 p.b.k,.int .i64 p.b.n,.int .i64 p.b.pl.l,.slice q3 p.b.pl.ps.length c3,.slice q4 p.args.length c4,
 .string p.sign,.int .i64 p.fr.l,.slice q5 p.fr.ps.length c5,.bool p.mu,.int .i64 p.fn,.int .i64 p.st,.int .i64 p.nx,.int .i64 p.el,.int .i64 p.tx]
theorem qW {r : Gh} {c : List Value} {p : PtD} (h : PtG r c p) : ∃ q1 q2 q3 q4 q5 c1 c2 c3 c4 c5,c=ptL p q1 q2 q3 q4 q5 c1 c2 c3 c4 c5∧PtG r (ptL p q1 q2 q3 q4 q5 c1 c2 c3 c4 c5) p:=by
 obtain ⟨vto,va,vb,vl,vfr,rfl,k1,k2,k3,k4,k5⟩:=id h
 obtain ⟨q1,c1,rfl,_⟩:=k1.sl.shape
 obtain ⟨q2,c2,rfl,_⟩:=k2.sl.shape
 obtain ⟨q3,c3,rfl,_⟩:=k3.sl.shape
 obtain ⟨q4,c4,rfl,_⟩:=k4.sl.shape
 obtain ⟨q5,c5,rfl,_⟩:=k5.sl.shape
 exact ⟨q1,q2,q3,q4,q5,c1,c2,c3,c4,c5,rfl,h⟩
end Go.Proofs
end
section
namespace Go.Proofs
open Go.Sh
set_option maxRecDepth 100000
set_option linter.unusedSimpArgs false
set_option linter.unusedVariables false
theorem aeV {r : Gh} {p : PtD} {q1 q2 q3 q4 q5 : Option Addr} {c1 c2 c3 c4 c5 : Nat} (h : PtG r (ptL p q1 q2 q3 q4 q5 c1 c2 c3 c4 c5) p) :
  PlG r [.int .i64 p.to.l,.slice q1 p.to.ps.length c1] p.to∧OpG r [.int .u8 p.a.k,.int .i64 p.a.n,.int .i64 p.a.pl.l,.slice q2 p.a.pl.ps.length c2] p.a∧
  OpG r [.int .u8 p.b.k,.int .i64 p.b.n,.int .i64 p.b.pl.l,.slice q3 p.b.pl.ps.length c3] p.b∧SlB 4 r (OpG r) (.slice q4 p.args.length c4) p.args∧PlG r [.int .i64 p.fr.l,.slice q5 p.fr.ps.length c5] p.fr:=by
 obtain ⟨_,_,_,_,_,hE,k1,k2,k3,k4,k5⟩:=h
 cases hE
 exact ⟨⟨_,rfl,k1⟩,⟨_,rfl,k2⟩,⟨_,rfl,k3⟩,k4,⟨_,rfl,k5⟩⟩
end Go.Proofs
end
section
namespace Go.Proofs
open Go.Sh
set_option maxRecDepth 100000
set_option linter.unusedSimpArgs false
set_option linter.unusedVariables false
def aaQ (u : UnD) (fn q : Int) : Option PtD:=u.fs[fn.toNat]?.bind fun g=>g.pts[q.toNat]?
end Go.Proofs
end
section
namespace Go.Proofs
open Go.Sh
set_option maxRecDepth 100000
set_option linter.unusedSimpArgs false
set_option linter.unusedVariables false
end Go.Proofs
end
section
namespace Go.Sh
theorem StX.mkSU {P : Program} {X : Nat→Prop} {w0 w : World} {r : Gh} {L : List Asr} {t e : TypeId} {bytes : Nat} {kl : IntKind} {n : Int} {z : Value} (S : StX X w0 r w L) [hT : ApT P t e 1 bytes] [hz : ZrT P e [z]] {K : Value→World→Prop} (h0 : 0≤n) (hb : (bytes : Int)*n≤281474976710656)
  (h : ∀ b w',StX X w0 r w' (.cell b (List.replicate n.toNat z) e::L)→K (.slice (some ⟨b,0,none⟩) n.toNat n.toNat) w') : opW P w (Instr.makeSlice t (.int kl n) (.int kl n)) fun t' w'=>Ext w w'∧K t' w':=
 aap hT.h hz.h h0 hb fun b w' hb e _ B=>⟨e,h b w' (S.add e (by omega) B)⟩
theorem StX.litNew {w0 w : World} {r : Gh} {L M : List Asr} {α : Type} {sz : Nat} {R : List Value→α→Prop} {l : List α} {e : TypeId} {xs : List Value} (S : StX noX w0 r w L) (b : Nat) [h : jF b L xs e M] (hr : RowOf sz R xs l) (hz : 0<sz) :
  StX noX w0 (r.or (Go.Sh.one b xs e)) w M∧SlG sz (Go.Sh.one b xs e) R (.slice (some ⟨b,0,none⟩) l.length l.length) l∧Above w0 (Go.Sh.one b xs e):=by
 have S1:=S.front b
 have hm:=S1.mine (.cell b xs e) List.mem_cons_self b rfl
 obtain ⟨S2,h2⟩:=S1.litSl hr hz
 exact ⟨S2,h2,by rintro b' o ⟨rfl,_⟩;exact hm.1.resolve_right id⟩
end Go.Sh
namespace Go.Proofs
open Go.Sh
set_option maxRecDepth 100000
set_option linter.unusedSimpArgs false
set_option linter.unusedVariables false
theorem zZ {α : Type} {sz : Nat} {R : List Value→α→Prop} {c : List Value} {x : α} (hc : c.length=sz) (hx : R c x) : RowOf sz R c [x]:=RowOf.nil.snoc (xs:=[]) hc hx
theorem yf {α : Type} {sz : Nat} {R : List Value→α→Prop} {c xs : List Value} {x : α} {l : List α} (hc : c.length=sz) (hx : R c x) (h : RowOf sz R xs l) : RowOf sz R (c++xs) (x::l):=by
 obtain ⟨h1,h2⟩:=h
 refine ⟨by rw [List.length_append,List.length_cons,h1,hc,Nat.succ_mul,Nat.add_comm],fun i hi=>?_⟩
 cases i with
 |zero=>rw [Nat.zero_mul,List.drop_zero,List.take_append_of_le_length (by omega),List.take_of_length_le (by omega)];exact hx
 |succ i=>
  have e : ((c++xs).drop ((i+1)*sz))=xs.drop (i*sz):=by
   rw [show (i+1)*sz=c.length+i*sz by rw [hc,Nat.succ_mul,Nat.add_comm],← List.drop_drop,List.drop_left'];rfl
  rw [e]
  exact h2 i (by simpa using hi)
theorem ZY {α : Type} {sz : Nat} {r : Gh} {R : List Value→α→Prop} {v : Value} {l : List α} (h : SlG sz r R v l) (hl : l.length≤1000000:=by decide) : SlB sz r R v l:=⟨h,by simp only [maxLen];omega⟩
def Xb : TyD:=.mk 4 true (-1) 0 [qF]
def plD (l : Int) : PlD:=⟨l,[]⟩
def agY (n : Int) : OpD:=⟨1,n,jv⟩
def hp0 : PtD:=⟨4,plD 2,Zq,Zq,[],ByteArray.empty,plD 1,true,0,0,1,0,0⟩
def hp1 : PtD:=⟨1,plD 1,agY 2,Zq,[],ByteArray.empty,jv,false,0,0,2,0,0⟩
def hp2 : PtD:=⟨1,⟨2,[-1]⟩,agY 3,Zq,[],ByteArray.empty,jv,false,0,0,3,0,0⟩
def hp3 : PtD:=⟨14,jv,Zq,Zq,[],ByteArray.empty,jv,false,0,0,0,0,0⟩
def zt : GrD:=⟨ByteArray.empty,0,[],0,[qF,qF,Xb],[ByteArray.empty,ByteArray.empty,ByteArray.empty],[hp0,hp1,hp2,hp3]⟩
def yY : UnD:=⟨[],[zt],0⟩
abbrev vK : List Value:=[.int .u8 1,.bool false,.int .i64 0,.int .i64 0,.slice none 0 0]
abbrev agZ : Value:=.agg #[.int .u8 1,.bool false,.int .i64 0,.int .i64 0,.slice none 0 0]
abbrev ag0 (n : Int) : Value:=.agg #[.int .u8 1,.int .i64 n,.int .i64 0,.slice none 0 0]
abbrev hl0 : List Value:=[.int .u8 4,.int .i64 2,.slice none 0 0,.int .u8 0,.int .i64 0,.int .i64 0,.slice none 0 0,.int .u8 0,.int .i64 0,.int .i64 0,.slice none 0 0,.slice none 0 0,.string ByteArray.empty,.int .i64 1,.slice none 0 0,.bool true,.int .i64 0,.int .i64 0,.int .i64 1,.int .i64 0,.int .i64 0]
abbrev hl1 : List Value:=[.int .u8 1,.int .i64 1,.slice none 0 0,.int .u8 1,.int .i64 2,.int .i64 0,.slice none 0 0,.int .u8 0,.int .i64 0,.int .i64 0,.slice none 0 0,.slice none 0 0,.string ByteArray.empty,.int .i64 0,.slice none 0 0,.bool false,.int .i64 0,.int .i64 0,.int .i64 2,.int .i64 0,.int .i64 0]
abbrev hl2 (b : Nat) : List Value:=[.int .u8 1,.int .i64 2,.slice (some ⟨b,0,none⟩) 1 1,.int .u8 1,.int .i64 3,.int .i64 0,.slice none 0 0,.int .u8 0,.int .i64 0,.int .i64 0,.slice none 0 0,.slice none 0 0,.string ByteArray.empty,.int .i64 0,.slice none 0 0,.bool false,.int .i64 0,.int .i64 0,.int .i64 3,.int .i64 0,.int .i64 0]
abbrev hl3 : List Value:=[.int .u8 14,.int .i64 0,.slice none 0 0,.int .u8 0,.int .i64 0,.int .i64 0,.slice none 0 0,.int .u8 0,.int .i64 0,.int .i64 0,.slice none 0 0,.slice none 0 0,.string ByteArray.empty,.int .i64 0,.slice none 0 0,.bool false,.int .i64 0,.int .i64 0,.int .i64 0,.int .i64 0,.int .i64 0]
end Go.Proofs
end
section
namespace Go.Proofs
open Go.Sh
set_option maxRecDepth 100000
set_option linter.unusedSimpArgs false
set_option linter.unusedVariables false
theorem hst : zX ([] : List StD)=(0,0):=by unfold zX;simp [xq]
theorem hmay (t : TyD) : mayB [] t=zU 0 48 t:=by rw [mayB,hst];simp
theorem j8 : ByteArray.empty.toList = []:=by rw [ByteArray.toList_eq];rfl
theorem adV : xG yY 0 zt=true:=by
 have h1 : qU yY zt 0 zt.tys=true:=by
  show ((mayB [] qF&&_)&&((mayB [] qF&&_)&&((mayB [] Xb&&_)&&true)))=true
  rw [hmay,hmay]
  kernel_rfl
 unfold xG
 rw [h1]
 show (_ : Bool)=true
 kernel_rfl
theorem aeW : ∀ p ∈ zt.pts,zV yY zt p=true:=by
 have hp : zt.pts = [hp0,hp1,hp2,hp3]:=rfl
 rw [hp]
 intro p h
 simp only [List.mem_cons,List.not_mem_nil,or_false] at h
 rcases h with rfl|rfl|rfl|rfl
 ·have e : zy hp0 { to:=true,fr:=true,mu:=true } = true:=by
   rw [zy,x9,show hp0.sign=ByteArray.empty from rfl,j8];kernel_rfl
  have : zV yY zt hp0=(((((zy hp0 { to:=true,fr:=true,mu:=true } && true)&&true)&&true)&&true)&&(true&&true)):=by kernel_rfl
  rw [this,e];rfl
 ·have e : zy hp1 { to:=true,a:=true } = true:=by
   rw [zy,x9,show hp1.sign=ByteArray.empty from rfl,j8];kernel_rfl
  have : zV yY zt hp1=(((zy hp1 { to:=true,a:=true } && true)&&true)&&true):=by kernel_rfl
  rw [this,e];rfl
 ·have e : zy hp2 { to:=true,a:=true } = true:=by
   rw [zy,x9,show hp2.sign=ByteArray.empty from rfl,j8];kernel_rfl
  have : zV yY zt hp2=(((zy hp2 { to:=true,a:=true } && true)&&true)&&true):=by kernel_rfl
  rw [this,e];rfl
 ·have e : zy hp3 {} = true:=by
   rw [zy,x9,show hp3.sign=ByteArray.empty from rfl,j8];kernel_rfl
  have : zV yY zt hp3=zy hp3 {}:=by kernel_rfl
  rw [this,e]
theorem aeX : MayU yY:=by
 refine ⟨by show (zX []).2=0;rw [hst],by decide,by decide,by decide,by decide,fun i hi=>?_,fun g hg=>?_⟩
 ·have : i=0:=by have : yY.fs.length=1:=rfl;omega
  subst this
  exact adV
 ·rw [List.mem_singleton.1 hg]
  exact aeW
end Go.Proofs
end
section
namespace Go.Sh
section
variable {P : Program} {t : TypeId} {c : Bool} {K : Value→Prop}
theorem adW {a b : Int} (k : ∀ x : Int,K (.int .i64 x)) : opP P (zG .add t c (.int .i64 a) (.int .i64 b)) K:=
 z6 (fun w=>by rw [yg];simp [binOp,Op.intArith]) (k (IntKind.i64.wrap (a+b)))
end
end Go.Sh
namespace Go.Proofs
open Go.Sh
set_option maxRecDepth 100000
set_option linter.unusedSimpArgs false
set_option linter.unusedVariables false
end Go.Proofs
end
section
namespace Go.Sh
open Go.RowKit
section
variable {P : Program} {X : Nat→Prop} {w0 w : World} {r : Gh} {L : List Asr} {t e T ty : TypeId} {b sz n off cap : Nat} {c z : List Value} {f : List Value→List Asr}
end
end Go.Sh
end
section
namespace Go.Proofs
open Go.Sh
set_option maxRecDepth 100000
set_option linter.unusedSimpArgs false
set_option linter.unusedVariables false
theorem qX {u : UnD} {g : GrD} {p : PtD} (h : zV u g p=true) : ptG u g p=true:=by
 rw [zV,Bool.and_eq_true] at h;exact h.2
theorem aeY {u : UnD} {g : GrD} {p : PtD} (h : zV u g p=true) (ho : 1≤p.op∧p.op≤8) : (zK u.ss g.tys p.to).2.2=true:=by
 have h2:=qX h
 cases hf : (zK u.ss g.tys p.to).2.2 with
 |true=>rfl
 |false=>
  have hc : p.op=1∨p.op=2∨p.op=3∨p.op=4∨p.op=5∨p.op=6∨p.op=7∨p.op=8:=by omega
  rw [ptG] at h2
  rcases hc with hc|hc|hc|hc|hc|hc|hc|hc<;>simp [hc,hf] at h2
noncomputable def fnE (u : UnD) (n : Int) : Int:=if (decide (n<0)||decide ((u.fs.length : Int)≤n)) || !Qw u then 2 else 0
theorem ZZ {u : UnD} {n : Int} (h : fnE u n=0) : MayU u∧0≤n∧n.toNat<u.fs.length:=by
 unfold fnE at h
 split at h
 ·cases h
 ·rename_i hc
  simp only [Bool.or_eq_true,decide_eq_true_eq,Bool.not_eq_true',not_or,Bool.not_eq_false] at hc
  exact ⟨aaO.1 hc.2,by omega,by omega⟩
noncomputable def ptE (u : UnD) (n q : Int) : Int:=if fnE u n=0∧0≤q∧q<((u.fs[n.toNat]?.map fun g=>(g.pts.length : Int)).getD 0) then 0 else 2
def afH : GrD:=⟨ByteArray.empty,0,[],0,[],[],[]⟩
abbrev adX : List Value:=[.string ByteArray.empty,.int .i64 0,.slice none 0 0,.int .i64 0,.slice none 0 0,.slice none 0 0,.slice none 0 0]
theorem af6 {r : Gh} : GrG r adX afH:=⟨_,_,_,_,rfl,xU,xU,xU,xU⟩
abbrev grL (g : GrD) (q1 q2 q3 q4 : Option Addr) (c1 c2 c3 c4 : Nat) : List Value:=[.string g.name,.int .i64 g.lv,.slice q1 g.outs.length c1,.int .i64 g.pn,.slice q2 g.tys.length c2,.slice q3 g.nms.length c3,.slice q4 g.pts.length c4]
theorem Z0 {r : Gh} {c : List Value} {g : GrD} (h : GrG r c g) : ∃ q1 q2 q3 q4 c1 c2 c3 c4,c=grL g q1 q2 q3 q4 c1 c2 c3 c4∧GrG r (grL g q1 q2 q3 q4 c1 c2 c3 c4) g:=by
 obtain ⟨vo,vt,vn,vp,rfl,k1,k2,k3,k4⟩:=id h
 obtain ⟨q1,c1,rfl,_⟩:=k1.sl.shape
 obtain ⟨q2,c2,rfl,_⟩:=k2.sl.shape
 obtain ⟨q3,c3,rfl,_⟩:=k3.sl.shape
 obtain ⟨q4,c4,rfl,_⟩:=k4.sl.shape
 exact ⟨q1,q2,q3,q4,c1,c2,c3,c4,rfl,h⟩
theorem acL {u : UnD} {n : Int} {v : Value} {w : World} {r : Gh} {K : Value→World→Prop} (hr : Holds r w) (hu : UnG r v u)
  (h : ∀ c g w',Ext w w'→GrG r c g→(fnE u n=0→u.fs[n.toNat]? = some g)→(fnE u n≠0→g.pts = [])→K (.tuple #[.agg c.toArray,.int .i64 (fnE u n)]) w') : zd Tryz.prog Tryz.Ya #[v,.int .i64 n] w K:=by
 refine Tryz.aby ?_
 unfold Tryz.Q5
 have hu0:=hu
 obtain ⟨p0,cap0,vf,rfl,_,_,hst,hsl,hfn⟩:=hu
 obtain ⟨qf,capf,rfl,_,_⟩:=hfn.sl.shape
 have hfl : u.fs.length≤9223372036854775807:=hfn.few
 have S:=St.start hr
 refine S.box fun b2 w1 S=>?_
 have S : StX noX w r w1 [.cell b2 [.slice p0 u.ss.length cap0,.slice qf u.fs.length capf,.int .i64 u.mn] 25]:=S
 refine S.al fun b4 w2 S=>?_
 refine gp_ ?_
 refine zi (c:=decide ((u.fs.length : Int)≤n)) (fun _ K2 hK2=>by refine gg_ ?_;exact hK2) ?_
 refine xk (c:=!Qw u) (fun _ K2 hK2=>?_) fun w3 e3=>?_
 ·refine S.ldB (b:=b2) ?_ rfl
  refine ZH S.holds hu0 fun w3 e3=>?_
  refine gp_ ?_
  exact hK2 _ e3
 have S:=S.go e3
 refine c_b (fun hb=>?_) (fun hb=>?_)
 ·have hE : fnE u n=2:=by rw [fnE,if_pos hb]
  rw [hE] at h
  refine zu (cs:=adX.toArray) (by kernel_rfl) ?_
  refine S.stB (b:=b4) fun w4 S=>?_
  refine S.ceB (b:=b4) ?_ rfl
  exact h _ afH _ S.ext af6 (fun h=>by cases h) fun _=>rfl
 ·have hE : fnE u n=0:=by rw [fnE,if_neg (by rw [hb];decide)]
  obtain ⟨_,hn0,hlt⟩:=ZZ hE
  rw [hE] at h
  obtain ⟨bf,of,cf,rfl,hcf,hgc,hfo⟩:=hfn.sl.get (by decide) hlt
  rw [List.getElem?_eq_getElem hlt] at h
  generalize u.fs[n.toNat]=g at h hgc
  obtain ⟨x1,x2,x3,x4,y1,y2,y3,y4,rfl,hg0⟩:=Z0 hgc
  refine gg_ ?_
  refine zF (n:=7) hcf (fun j v hj=>S.at (hfo j v hj)) ?_
  refine S.stB (b:=b4) fun w4 S=>?_
  refine S.ceB (b:=b4) ?_ rfl
  exact h _ g _ S.ext hg0 (fun _=>rfl) fun h=>absurd rfl h
theorem VR {u : UnD} {n q : Int} {v : Value} {w : World} {r : Gh} {K : Value→World→Prop} (hr : Holds r w) (hu : UnG r v u)
  (h : ∀ c p w',Ext w w'→PtG r c p→(ptE u n q=0→aaQ u n q=some p)→K (.tuple #[.agg c.toArray,.int .i64 (ptE u n q)]) w') : zd Tryz.prog Tryz.jC #[v,.int .i64 n,.int .i64 q] w K:=by
 refine Tryz.JH ?_
 unfold Tryz.Yz
 have hu0:=hu
 obtain ⟨p0,cap0,vf,rfl,_,_,hst,hsl,hfn⟩:=hu
 obtain ⟨qf,capf,rfl,_,_⟩:=hfn.sl.shape
 have S:=St.start hr
 refine S.box fun b3 w1 S=>?_
 have S : StX noX w r w1 [.cell b3 [.slice p0 u.ss.length cap0,.slice qf u.fs.length capf,.int .i64 u.mn] 25]:=S
 refine S.al fun b6 w2 S=>?_
 refine S.ldB (b:=b3) ?_ rfl
 refine acL S.holds hu0 fun c g w3 e3 hg hgi _=>?_
 have S:=S.go e3
 obtain ⟨x1,x2,x3,x4,y1,y2,y3,y4,rfl,hg0⟩:=Z0 hg
 refine gS_ ?_
 refine S.al fun b8 w4 S=>?_
 refine S.stB (b:=b8) fun w5 S=>?_
 refine gp_ ?_
 refine zi (c:=decide (q<0)) (fun _ K2 hK2=>by refine gg_ ?_;exact hK2) ?_
 refine zi (c:=decide ((g.pts.length : Int)≤q)) (fun _ K2 hK2=>by refine gg_ ?_;exact hK2) ?_
 have hP : ptE u n q=if ((decide (fnE u n≠0)||decide (q<0))||decide ((g.pts.length : Int)≤q))=true then 2 else 0:=by
  unfold ptE
  by_cases h0 : fnE u n=0
  ·have e : ((u.fs[n.toNat]?.map fun g=>(g.pts.length : Int)).getD 0)=g.pts.length:=by rw [hgi h0];rfl
   rw [e]
   by_cases h1 : q<0
   ·rw [if_neg (by omega),if_pos (by rw [decide_eq_true h1];simp)]
   by_cases h2 : (g.pts.length : Int)≤q
   ·rw [if_neg (by omega),if_pos (by rw [decide_eq_true h2];simp)]
   ·rw [if_pos ⟨h0,by omega,by omega⟩,if_neg (by rw [decide_eq_false (show ¬ fnE u n≠0 by omega),decide_eq_false h1,decide_eq_false h2];decide)]
  ·rw [if_neg (fun hh=>h0 hh.1),if_pos (by rw [decide_eq_true (show fnE u n≠0 from h0)];rfl)]
 refine c_b (fun hb=>?_) (fun hb=>?_)
 ·rw [if_pos hb] at hP
  rw [hP] at h
  refine zu (cs:=abY.toArray) (by kernel_rfl) ?_
  refine S.stB (b:=b6) fun w6 S=>?_
  refine S.ceB (b:=b6) ?_ rfl
  exact h _ adU _ S.ext aeU fun h=>by cases h
 ·rw [if_neg (by rw [hb];decide)] at hP
  rw [hP] at h
  simp only [Bool.or_eq_false_iff,decide_eq_false_iff_not] at hb
  obtain ⟨⟨hf,hq0⟩,hql⟩:=hb
  have hgn:=hgi (by omega)
  obtain ⟨_,_,_,_,hE,_,_,_,hpts⟩:=hg0
  cases hE
  have hlq : q.toNat<g.pts.length:=by omega
  obtain ⟨bp,op,cp,rfl,hcp,hpc,hpo⟩:=hpts.sl.get (by decide) hlq
  have hpa : aaQ u n q=some g.pts[q.toNat]:=by rw [aaQ,hgn,Option.bind_some,List.getElem?_eq_getElem hlq]
  rw [hpa] at h
  generalize g.pts[q.toNat]=p at h hpc
  obtain ⟨z1,z2,z3,z4,z5,t1,t2,t3,t4,t5,rfl,hp0⟩:=qW hpc
  refine gg_ ?_
  refine zF (n:=21) hcp (fun j v hj=>S.at (hpo j v hj)) ?_
  refine S.stB (b:=b6) fun w6 S=>?_
  refine S.ceB (b:=b6) ?_ rfl
  exact h _ p _ S.ext hp0 fun _=>rfl
end Go.Proofs
end
section
namespace Go.Proofs
open Go.Sh
set_option maxRecDepth 100000
set_option linter.unusedSimpArgs false
set_option linter.unusedVariables false
end Go.Proofs
end
section
namespace Go.Proofs.Tryz
open Go.Sh
set_option maxRecDepth 100000
def jW (t0 t1 : Value) (w : World) (K : VW) : Prop:=
 ca x8 #[t0] w fun t8 w1=>
 ca x8 #[t1] w1 fun t10 w2=>
 zc t8 (zc t10 (K (i6 0) w2) (K (i6 (-1)) w2)) (zc t10 (K (i6 1) w2) (bf .lss 3 t0 t1 fun t16=>zc t16 (K (i6 (-1)) w2) (bf .gtr 3 t0 t1 fun t19=>zc t19 (K (i6 1) w2) (K (i6 0) w2))))
theorem Xc {t0 t1 : Value} {w : World} {K : VW} (h : jW t0 t1 w K) : zd prog kK #[t0,t1] w K:=
 okC false (.s (.r (rz 1 0 0)) (.s (.r (rz 3 0 8)) (.s (.r (rz 3 0 8)) (.s (.s (.r (rz 1 0 0)) (.c (.s (.s (.r (rz 1 0 0)) (.c (.s (.r (rz 1 0 0)) (.n)) (.n))) (.s (.r (rz 1 0 0)) (.n))) (.n))) (.s (.s (.r (rz 1 0 0)) (.c (.s (.r (rz 1 0 0)) (.n)) (.n))) (.s (.s (.r (rz 3 0 0)) (.c (.s (.r (rz 1 0 0)) (.n)) (.n))) (.s (.s (.r (rz 3 0 0)) (.c (.s (.r (rz 1 0 0)) (.n)) (.n))) (.s (.r (rz 1 0 0)) (.n))))))))) func113 rfl (by kernel_rfl) (by kernel_rfl) h
def Zr (t0 : Value) (w : World) (K : VW) : Prop:=
 bf .neq 3 t0 t0 fun t5=>K t5 w
theorem QB {t0 : Value} {w : World} {K : VW} (h : Zr t0 w K) : zd prog x8 #[t0] w K:=
 okC false (.s (.r (rz 1 0 0)) (.s (.r (rz 4 0 0)) (.n))) func135 rfl (by kernel_rfl) (by kernel_rfl) h
end Go.Proofs.Tryz
end
section
namespace Go.Proofs
open Go.Sh
set_option maxRecDepth 100000
set_option linter.unusedSimpArgs false
set_option linter.unusedVariables false
theorem X5 {x : Int} {w : World} {K : Value→World→Prop} (h : K (.bool false) w) : zd Tryz.prog Tryz.x8 #[.int .i64 x] w K:=by
 refine Tryz.QB ?_
 unfold Tryz.Zr
 refine gg_ ?_
 simpa using h
def aaR (x y : Int) : Int:=if x<y then -1 else if y<x then 1 else 0
theorem Vp {x y : Int} : aaR x y=0↔x=y:=by
 unfold aaR;split
 ·constructor<;>intro h<;>omega
 split<;>constructor<;>intro h<;>omega
theorem VS {x y : Int} {w : World} {K : Value→World→Prop} (h : K (.int .i64 (aaR x y)) w) : zd Tryz.prog Tryz.kK #[.int .i64 x,.int .i64 y] w K:=by
 refine Tryz.Xc ?_
 unfold Tryz.jW
 refine X5 (X5 (c_f rfl (c_f rfl ?_)))
 unfold aaR at h
 refine gg_ ?_
 refine zm (fun h1=>?_) (fun h1=>?_)
 ·rwa [if_pos h1] at h
 refine gg_ ?_
 refine zm (fun h2=>?_) (fun h2=>?_)
 ·rwa [if_neg h1,if_pos h2] at h
 ·rwa [if_neg h1,if_neg h2] at h
end Go.Proofs
end
section
namespace Go.Proofs
open Go.Sh
set_option maxRecDepth 100000
set_option linter.unusedSimpArgs false
set_option linter.unusedVariables false
end Go.Proofs
end
section
namespace Go.Proofs
open Go.Sh
set_option maxRecDepth 100000
set_option linter.unusedSimpArgs false
set_option linter.unusedVariables false
end Go.Proofs
end
section
namespace Go.Proofs
open Go.Sh
set_option maxRecDepth 100000
set_option linter.unusedSimpArgs false
set_option linter.unusedVariables false
end Go.Proofs
end
section
namespace Go.Proofs
open Go.Sh
set_option maxRecDepth 100000
set_option linter.unusedSimpArgs false
set_option linter.unusedVariables false
end Go.Proofs
end
section
namespace Go.Sh
open Go.RowKit
section
variable {P : Program} {X : Nat→Prop} {w0 w : World} {r : Gh} {L : List Asr} {α : Type} {sz n : Nat} {R : List Value→α→Prop} {l : List α} {e : TypeId} {p : Option Addr} {cap : Nat}
theorem af7 (hz : 0<sz) (h : SlG sz r R (.slice p n cap) l) : ∃ xs,RowOf sz R xs l∧Ob r fun w=>Sl w p xs:=by
 have key : ∀ k,k≤l.length→∃ xs,RowOf sz R xs (l.take k)∧Ob r fun w=>Sl w p xs:=by
  intro k
  induction k with
  |zero=>intro _;exact ⟨[],by rw [List.take_zero];exact RowOf.nil,fun w _=>Sl.nil w _⟩
  |succ k ih=>
   intro hk
   obtain ⟨xs,h1,h2⟩:=ih (by omega)
   obtain ⟨b,off,c,rfl,hc,hcc,hcell⟩:=h.get hz (show k<l.length by omega)
   have hxl : xs.length=k*sz:=by rw [h1.1,List.length_take,Nat.min_eq_left (by omega)]
   refine ⟨xs++c,by rw [List.take_succ_eq_append_getElem (by omega)];exact h1.snoc hc hcc,fun w hw i v hi=>?_⟩
   by_cases hlt : i<xs.length
   ·rw [List.getElem?_append_left hlt] at hi;exact h2 w hw i v hi
   ·rw [List.getElem?_append_right (by omega)] at hi
    have:=hcell _ v hi w hw
    exact ⟨b,off,rfl,by rwa [show off+k*sz+(i - xs.length)=off+i by omega] at this⟩
 have:=key l.length (Nat.le_refl _)
 rwa [List.take_length] at this
theorem acM {xs : List Value} (h : RowOf sz R xs l) (hz : 0<sz) (h1 : ∀ c x,R c x→∀ u ∈ c,u.oneCell'=true) : ∀ u ∈ xs,u.oneCell'=true:=fun u hu=>by
 obtain ⟨i,hi,rfl⟩:=List.getElem_of_mem hu
 have hj : i / sz<l.length:=by
  rw [h.1] at hi
  exact Nat.div_lt_of_lt_mul (by rw [Nat.mul_comm];exact hi)
 refine h1 _ _ (h.2 _ hj) _ ?_
 have hm:=Nat.mod_lt i hz
 have hd:=Nat.div_add_mod i sz
 refine List.mem_of_getElem? (i:=i % sz) ?_
 rw [List.getElem?_take,if_pos hm,List.getElem?_drop,show i / sz*sz+i % sz=i by rw [Nat.mul_comm];exact hd,List.getElem?_eq_getElem hi]
end
end Go.Sh
namespace Go.Proofs
open Go.Sh
set_option maxRecDepth 100000
set_option linter.unusedSimpArgs false
set_option linter.unusedVariables false
theorem abZ {r : Gh} {c : List Value} {o : OpD} (h : OpG r c o) : ∃ q k,c = [.int .u8 o.k,.int .i64 o.n,.int .i64 o.pl.l,.slice q o.pl.ps.length k]:=by
 obtain ⟨v,rfl,hl⟩:=h
 obtain ⟨q,k,rfl,_⟩:=hl.sl.shape
 exact ⟨q,k,rfl⟩
theorem af8 {r : Gh} {c : List Value} {o : OpD} (h : OpG r c o) : ∀ u ∈ c,u.oneCell'=true:=by obtain ⟨q,k,rfl⟩:=abZ h;simp [Value.oneCell']
def acN (o : OpD) : Bool:=decide (o.k≠0)
def aaS (p : PtD) : List OpD:=(p.a::p.b::p.args).filter acN
end Go.Proofs
end
section
namespace Go.Proofs
open Go.Sh
set_option maxRecDepth 100000
set_option linter.unusedSimpArgs false
set_option linter.unusedVariables false
theorem Ym {ss : List StD} {tys : List TyD} : ∀ {l : List OpD} {ts : List TyD},xF ss tys l ts=true→l.length=ts.length∧∀ (i : Nat) (hi : i<l.length) (hj : i<ts.length),(yb ss tys l[i]).2=true∧yj yR (yb ss tys l[i]).1 ts[i]=true
 |[],[],_=>⟨rfl,fun i hi=>absurd hi (Nat.not_lt_zero _)⟩
 |[],_::_,h=>by cases h
 |_::_,[],h=>by cases h
 |o::l,t::r,h=>by
  rw [Yk,Bool.and_eq_true,Bool.and_eq_true] at h
  obtain ⟨h1,h2⟩:=Ym h.2
  refine ⟨by simp [h1],fun i hi hj=>?_⟩
  cases i with
  |zero=>exact h.1
  |succ i=>exact h2 i (by simpa using hi) (by simpa using hj)
theorem af9 {o : OpD} (h : o.k≠0) : Yg o=false:=by rw [Yg,decide_eq_false h];rfl
theorem X6 {u : UnD} {g : GrD} {p : PtD} (h : ptG u g p=true) : 1≤p.op∧p.op≤14:=by
 refine Classical.byContradiction fun hc=>?_
 rw [ptG] at h
 rw [if_neg (by omega),if_neg (by omega),if_neg (by omega),if_neg (by omega),if_neg (by omega),if_neg (by omega),if_neg (by omega),if_neg (by omega),if_neg (by omega),if_neg (by omega),if_neg (by omega),if_neg (by omega),if_neg (by omega)] at h
 cases h
theorem adY {u : UnD} {g : GrD} {p : PtD} (h : zV u g p=true) : ∀ o ∈ aaS p,(yb u.ss g.tys o).2=true:=by
 have h2:=qX h
 intro o ho
 rw [aaS,List.mem_filter,acN,decide_eq_true_eq] at ho
 obtain ⟨hm,hk⟩:=ho
 have hn:=af9 hk
 have hc : p.op=1∨p.op=2∨p.op=3∨p.op=4∨p.op=5∨p.op=6∨p.op=7∨p.op=8∨p.op=9∨p.op=10∨p.op=11∨p.op=12∨p.op=13∨p.op=14:=by
  have:=X6 h2
  omega
 cases hf : (yb u.ss g.tys o).2 with
 |true=>rfl
 |false=>
  exfalso
  rw [List.mem_cons,List.mem_cons] at hm
  rw [ptG] at h2
  rcases hm with rfl|rfl|hm
  ·rcases hc with hc|hc|hc|hc|hc|hc|hc|hc|hc|hc|hc|hc|hc|hc<;>simp [hc,hf,hn,zy,x9] at h2
  ·rcases hc with hc|hc|hc|hc|hc|hc|hc|hc|hc|hc|hc|hc|hc|hc<;>simp [hc,hf,hn,zy,x9] at h2
  ·have hne : p.args.length≠0:=fun h0=>by rw [List.eq_nil_of_length_eq_zero h0] at hm;cases hm
   obtain ⟨i,hi,rfl⟩:=List.getElem_of_mem hm
   have harg : ∀ ts,xF u.ss g.tys p.args ts=false:=fun ts=>by
    cases ha : xF u.ss g.tys p.args ts with
    |false=>rfl
    |true=>
     obtain ⟨hl,hx⟩:=Ym ha
     have:=(hx i hi (by omega)).1
     rw [hf] at this;cases this
   have hne' : p.args≠[]:=fun h0=>hne (by rw [h0];rfl)
   rcases hc with hc|hc|hc|hc|hc|hc|hc|hc|hc|hc|hc|hc|hc|hc<;>first|(simp [hc,hne,hne',zy,x9] at h2;done)|(simp [hc,hne,hne',zy,x9,harg] at h2;try (split at h2<;>simp_all))
theorem aeZ {u : UnD} {g : GrD} {p : PtD} (hM : MayU u) (h : zV u g p=true) : p.args.length≤1000:=by
 have h2:=qX h
 by_cases hne : p.args.length=0
 ·omega
 have hne' : p.args≠[]:=fun h0=>hne (by rw [h0];rfl)
 rw [ptG] at h2
 by_cases h6 : p.op=6
 ·simp only [h6,Int.reduceEq,if_false,if_true,Bool.and_eq_true,decide_eq_true_eq,isK] at h2
  have hl:=(Ym h2.2).1
  have hf : (y7 u.ss (zK u.ss g.tys p.to).1).1.length≤8:=by
   rw [y7]
   split
   ·exact ZW (j5 hM.ok).2.1 _
   ·simp
  omega
 by_cases h7 : p.op=7
 ·simp only [h7,Int.reduceEq,if_false,if_true,Bool.and_eq_true,decide_eq_true_eq] at h2
  have hlt : p.fn.toNat<u.fs.length:=by omega
  rw [List.getElem?_eq_getElem hlt] at h2
  have h3:=h2.2
  simp only [Bool.and_eq_true] at h3
  have hl:=(Ym h3.2).1
  have:=(hM.hd hlt).pn8
  rw [List.length_take] at hl
  omega
 ·exfalso
  have hc : p.op=1∨p.op=2∨p.op=3∨p.op=4∨p.op=5∨p.op=8∨p.op=9∨p.op=10∨p.op=11∨p.op=12∨p.op=13∨p.op=14:=by
   have:=X6 (qX h)
   omega
  rcases hc with hc|hc|hc|hc|hc|hc|hc|hc|hc|hc|hc|hc<;>simp [hc,hne,hne',zy,x9] at h2
end Go.Proofs
end
section
namespace Go.Proofs
open Go.Sh
set_option maxRecDepth 100000
set_option linter.unusedSimpArgs false
set_option linter.unusedVariables false
end Go.Proofs
end
section
namespace Go.Proofs
open Go.Sh
set_option maxRecDepth 100000
set_option linter.unusedSimpArgs false
set_option linter.unusedVariables false
theorem ag1 {α : Type} {sz b : Nat} {R : List Value→α→Prop} {xs : List Value} {e : TypeId} {l : List α} {w : World} (h : RowOf sz R xs l) (hz : 0<sz) (B : Blk w b xs e) : SlG sz (Go.Sh.one b xs e) R (.slice (some ⟨b,0,none⟩) l.length l.length) l:=
 h.sl (by simp) (Nat.le_refl _) (fun w k=>Sl.blk (zH w k)) hz ⟨w,xy B⟩
def yv (p : PtD) : List Int:=if p.op=14 then [] else if p.op=12∧p.nx≠p.el then [p.nx,p.el] else [p.nx]
noncomputable def Zs (u : UnD) (n q : Int) : List Int:=if ptE u n q=0 then (match aaQ u n q with|some p=>yv p|none=>[]) else []
theorem aaT {u : UnD} {n q : Int} {v : Value} {w : World} {r : Gh} {K : Value→World→Prop} (hr : Holds r w) (hu : UnG r v u)
  (h : ∀ v' s w',Ext w w'→New w s w'→SlG 1 s zO v' (Zs u n q)→K (.tuple #[v',.int .i64 (ptE u n q)]) w') : zd Tryz.prog Tryz.vA #[v,.int .i64 n,.int .i64 q] w K:=by
 refine Tryz.VP ?_
 unfold Tryz.Y7
 have hu0:=hu
 obtain ⟨p0,cap0,vf,rfl,_,_,hst,hsl,hfn⟩:=hu
 obtain ⟨qf,capf,rfl,_,_⟩:=hfn.sl.shape
 have S:=St.start hr
 refine S.box fun b3 w1 S=>?_
 have S : StX noX w r w1 [.cell b3 [.slice p0 u.ss.length cap0,.slice qf u.fs.length capf,.int .i64 u.mn] 25]:=S
 refine S.ldB (b:=b3) ?_ rfl
 refine VR S.holds hu0 fun c p w2 e2 hp hpt=>?_
 have S:=S.go e2
 obtain ⟨z1,z2,z3,z4,z5,t1,t2,t3,t4,t5,rfl,hp0⟩:=qW hp
 have hN : ptE u n q=0→Zs u n q=yv p:=fun h0=>by rw [Zs,if_pos h0,hpt h0]
 have hN0 : ptE u n q≠0→Zs u n q = []:=fun h0=>by rw [Zs,if_neg h0]
 refine gS_ ?_
 refine S.al fun b8 w3 S=>?_
 refine S.stB (b:=b8) fun w4 S=>?_
 have S : StX noX w r w4 [.cell b8 (ptL p z1 z2 z3 z4 z5 t1 t2 t3 t4 t5) 87,.cell b3 [.slice p0 u.ss.length cap0,.slice qf u.fs.length capf,.int .i64 u.mn] 25]:=S
 refine gp_ ?_
 refine zi (c:=decide (p.op=14)) (fun _ K2 hK2=>by refine gg_ ?_;exact hK2) ?_
 refine c_b (fun hb=>?_) (fun hb=>?_)
 ·have hE : Zs u n q = []:=by
   by_cases h0 : ptE u n q=0
   ·rw [hN h0,yv,if_pos (by simpa [h0] using hb)]
   ·exact hN0 h0
  rw [hE] at h
  exact h _ nothing _ S.ext New.nothing SlG.nil
 simp only [Bool.or_eq_false_iff,decide_eq_false_iff_not] at hb
 have h0 : ptE u n q=0:=Decidable.not_not.1 hb.1
 have hE:=hN h0
 rw [yv,if_neg hb.2] at hE
 refine gg_ ?_
 refine zh (c:=decide (p.nx≠p.el)) (fun _ K2 hK2=>by refine gg_ ?_;exact hK2) ?_
 refine c_b (fun hc=>?_) (fun hc=>?_)
 ·simp only [Bool.and_eq_true,decide_eq_true_eq] at hc
  rw [if_pos hc] at hE
  rw [hE] at h
  refine gg_ ?_
  refine S.lit (e:=3) (cs:=[.int .i64 p.nx,.int .i64 p.el]) (by kernel_rfl) fun b9 w9 S=>?_
  obtain ⟨S,hs,ha⟩:=S.litNew b9 (sz:=1) (R:=zO) (l:=[p.nx,p.el]) (yf (c:=[.int .i64 p.nx]) rfl rfl (zZ rfl rfl)) (by decide)
  exact h _ _ _ S.ext (S.newOf ha) hs
 ·simp only [Bool.and_eq_false_iff,decide_eq_false_iff_not] at hc
  rw [if_neg (by rintro ⟨h1,h2⟩;rcases hc with hc|hc<;>contradiction)] at hE
  rw [hE] at h
  refine gg_ ?_
  refine S.lit (e:=3) (cs:=[.int .i64 p.nx]) (by kernel_rfl) fun b9 w9 S=>?_
  obtain ⟨S,hs,ha⟩:=S.litNew b9 (sz:=1) (R:=zO) (l:=[p.nx]) (zZ rfl rfl) (by decide)
  exact h _ _ _ S.ext (S.newOf ha) hs
end Go.Proofs
end
section
namespace Go.Proofs
open Go.Sh
set_option maxRecDepth 100000
set_option linter.unusedSimpArgs false
set_option linter.unusedVariables false
end Go.Proofs
end
section
namespace Go.Proofs.Tryz
open Go.Sh
set_option maxRecDepth 100000
end Go.Proofs.Tryz
end
section
namespace Go.Sh
end Go.Sh
namespace Go.Proofs
open Go.Sh
set_option maxRecDepth 100000
set_option linter.unusedSimpArgs false
set_option linter.unusedVariables false
end Go.Proofs
end
section
namespace Go.Sh
end Go.Sh
namespace Go.Proofs
open Go.Sh
set_option maxRecDepth 100000
set_option linter.unusedSimpArgs false
set_option linter.unusedVariables false
end Go.Proofs
end
section
namespace Go.Proofs
open Go.Sh
set_option maxRecDepth 100000
set_option linter.unusedSimpArgs false
set_option linter.unusedVariables false
end Go.Proofs
end
section
namespace Go.Proofs
open Go.Sh
set_option maxRecDepth 100000
set_option linter.unusedSimpArgs false
set_option linter.unusedVariables false
end Go.Proofs
end
section
namespace Go.Proofs
open Go.Sh
set_option maxRecDepth 100000
set_option linter.unusedSimpArgs false
set_option linter.unusedVariables false
end Go.Proofs
end
section
namespace Go.Proofs
open Go.Sh
set_option maxRecDepth 100000
set_option linter.unusedSimpArgs false
set_option linter.unusedVariables false
end Go.Proofs
end
section
namespace Go.Proofs
open Go.Sh
set_option maxRecDepth 100000
set_option linter.unusedSimpArgs false
set_option linter.unusedVariables false
end Go.Proofs
end
section
namespace Go.Proofs
open Go.Sh
set_option maxRecDepth 100000
set_option linter.unusedSimpArgs false
set_option linter.unusedVariables false
end Go.Proofs
end
section
namespace Go.Sh
end Go.Sh
namespace Go.Proofs
open Go.Sh
set_option maxRecDepth 100000
set_option linter.unusedSimpArgs false
set_option linter.unusedVariables false
end Go.Proofs
end
section
namespace Go.Proofs
open Go.Sh
set_option maxRecDepth 100000
set_option linter.unusedSimpArgs false
set_option linter.unusedVariables false
end Go.Proofs
end
section
namespace Go.Sh
end Go.Sh
namespace Go.Proofs
open Go.Sh
set_option maxRecDepth 100000
set_option linter.unusedSimpArgs false
set_option linter.unusedVariables false
end Go.Proofs
end
section
namespace Go.Proofs
open Go.Sh
set_option maxRecDepth 100000
set_option linter.unusedSimpArgs false
set_option linter.unusedVariables false
end Go.Proofs
end
section
namespace Go.Proofs
open Go.Sh
set_option maxRecDepth 100000
set_option linter.unusedSimpArgs false
set_option linter.unusedVariables false
end Go.Proofs
end
section
namespace Go.Proofs
open Go.Sh
set_option maxRecDepth 100000
set_option linter.unusedSimpArgs false
set_option linter.unusedVariables false
end Go.Proofs
end
section
namespace Go.Proofs
open Go.Shelf
set_option maxRecDepth 100000
def Tryz.abE : Go.Shelf.Ren:=⟨fun|189=>71|125=>104|257=>103|128=>132|129=>133|294=>123|295=>124|296=>125|297=>126|298=>127|299=>128|216=>129|300=>130|301=>131|328=>156|329=>157|330=>158|331=>159|332=>160|215=>135|343=>194|n=>n,fun|28=>28|3=>3|46=>148|0=>0|51=>174|53=>76|4=>4|183=>181|182=>180|131=>58|5=>5|9=>9|218=>220|222=>224|228=>252|229=>253|n=>n,fun|n=>n⟩
theorem Tryz.ab0 : Go.Proofs.Lays.n189 Tryz.prog Tryz.abE:={
 mixed:=by kernel_rfl
 f125:=Tryz.func104.trans (congrArg some (by kernel_rfl))
 f128:=Tryz.func132.trans (congrArg some (by kernel_rfl))
 f129:=Tryz.func133.trans (congrArg some (by kernel_rfl))
 f189:=Tryz.func71.trans (congrArg some (by kernel_rfl))
 f215:=Tryz.func135.trans (congrArg some (by kernel_rfl))
 f216:=Tryz.func129.trans (congrArg some (by kernel_rfl))
 f257:=Tryz.func103.trans (congrArg some (by kernel_rfl))
 f294:=Tryz.func123.trans (congrArg some (by kernel_rfl))
 f295:=Tryz.func124.trans (congrArg some (by kernel_rfl))
 f296:=Tryz.func125.trans (congrArg some (by kernel_rfl))
 f297:=Tryz.func126.trans (congrArg some (by kernel_rfl))
 f298:=Tryz.func127.trans (congrArg some (by kernel_rfl))
 f299:=Tryz.func128.trans (congrArg some (by kernel_rfl))
 f300:=Tryz.func130.trans (congrArg some (by kernel_rfl))
 f301:=Tryz.func131.trans (congrArg some (by kernel_rfl))
 f328:=Tryz.func156.trans (congrArg some (by kernel_rfl))
 f329:=Tryz.func157.trans (congrArg some (by kernel_rfl))
 f330:=Tryz.func158.trans (congrArg some (by kernel_rfl))
 f331:=Tryz.func159.trans (congrArg some (by kernel_rfl))
 f332:=Tryz.func160.trans (congrArg some (by kernel_rfl))
 f343:=Tryz.func194.trans (congrArg some (by kernel_rfl))
 t0:=Tryz.underlying0
 a0:=Tryz.isAgg0
 z0:=Tryz.sizeOf0
 v0:=Tryz.zeroValue0
 t3:=Tryz.underlying3
 a3:=Tryz.isAgg3
 z3:=Tryz.sizeOf3
 v3:=Tryz.zeroValue3
 t4:=Tryz.underlying4
 a4:=Tryz.isAgg4
 z4:=Tryz.sizeOf4
 v4:=Tryz.zeroValue4
 t5:=Tryz.underlying5
 a5:=Tryz.isAgg5
 z5:=Tryz.sizeOf5
 v5:=Tryz.zeroValue5
 t9:=Tryz.underlying9
 a9:=Tryz.isAgg9
 z9:=Tryz.sizeOf9
 v9:=Tryz.zeroValue9
 t28:=Tryz.underlying28
 a28:=Tryz.isAgg28
 z28:=Tryz.sizeOf28
 v28:=Tryz.zeroValue28
 t46:=Tryz.underlying148
 a46:=Tryz.isAgg148
 z46:=Tryz.sizeOf148
 v46:=Tryz.zeroValue148
 t51:=Tryz.underlying174
 a51:=Tryz.isAgg174
 z51:=Tryz.sizeOf174
 v51:=Tryz.zeroValue174
 t53:=Tryz.underlying76
 a53:=Tryz.isAgg76
 z53:=Tryz.sizeOf76
 v53:=Tryz.zeroValue76
 t131:=Tryz.underlying58
 a131:=Tryz.isAgg58
 z131:=Tryz.sizeOf58
 v131:=Tryz.zeroValue58
 t182:=Tryz.underlying180
 a182:=Tryz.isAgg180
 z182:=Tryz.sizeOf180
 v182:=Tryz.zeroValue180
 t183:=Tryz.underlying181
 a183:=Tryz.isAgg181
 z183:=Tryz.sizeOf181
 v183:=Tryz.zeroValue181
 t218:=Tryz.underlying220
 a218:=Tryz.isAgg220
 z218:=Tryz.sizeOf220
 v218:=Tryz.zeroValue220
 t222:=Tryz.underlying224
 a222:=Tryz.isAgg224
 z222:=Tryz.sizeOf224
 v222:=Tryz.zeroValue224
 t228:=Tryz.underlying252
 a228:=Tryz.isAgg252
 z228:=Tryz.sizeOf252
 v228:=Tryz.zeroValue252
 t229:=Tryz.underlying253
 a229:=Tryz.isAgg253
 z229:=Tryz.sizeOf253
 v229:=Tryz.zeroValue253 }
def Tryz.VT : Go.Shelf.Ren:=⟨fun|20=>79|n=>n,fun|22=>28|3=>3|4=>4|0=>0|n=>n,fun|n=>n⟩
theorem Tryz.Vq : Go.Proofs.Lays2.n20 Tryz.prog Tryz.VT:={
 mixed:=by kernel_rfl
 f20:=Tryz.func79.trans (congrArg some (by kernel_rfl))
 t0:=Tryz.underlying0
 a0:=Tryz.isAgg0
 z0:=Tryz.sizeOf0
 v0:=Tryz.zeroValue0
 t3:=Tryz.underlying3
 a3:=Tryz.isAgg3
 z3:=Tryz.sizeOf3
 v3:=Tryz.zeroValue3
 t4:=Tryz.underlying4
 a4:=Tryz.isAgg4
 z4:=Tryz.sizeOf4
 v4:=Tryz.zeroValue4
 t22:=Tryz.underlying28
 a22:=Tryz.isAgg28
 z22:=Tryz.sizeOf28
 v22:=Tryz.zeroValue28
 i3:=by kernel_rfl }
def Tryz.VU : Go.Shelf.Ren:=⟨fun|15=>70|n=>n,fun|22=>28|3=>3|4=>4|n=>n,fun|n=>n⟩
theorem Tryz.Xd : Go.Proofs.Lays2.n15 Tryz.prog Tryz.VU:={
 mixed:=by kernel_rfl
 f15:=Tryz.func70.trans (congrArg some (by kernel_rfl))
 t3:=Tryz.underlying3
 a3:=Tryz.isAgg3
 z3:=Tryz.sizeOf3
 v3:=Tryz.zeroValue3
 t4:=Tryz.underlying4
 a4:=Tryz.isAgg4
 z4:=Tryz.sizeOf4
 v4:=Tryz.zeroValue4
 t22:=Tryz.underlying28
 a22:=Tryz.isAgg28
 z22:=Tryz.sizeOf28
 v22:=Tryz.zeroValue28
 i3:=by kernel_rfl }
end Go.Proofs
end
section
namespace Go.Sh
open Go.RowKit
theorem Vr {w w' : World} {g q : Nat} {c : List Value} {e : TypeId} {d : Array Int} {os : Array Obj} (B : Blk w g c e) (hd : d.size≤c.length)
  (hw : w'=Sort.grow (Sort.putRow (Value.int .i64) (Sort.ahead w q) g 0 d) os) : ExtBut (· = g) w w'∧Blk w' g (d.toList.map (Value.int .i64)++c.drop d.size) e:=by
 subst hw
 have hg : g<w.heap.size:=(Array.getElem?_eq_some_iff.1 B).1
 have hput : ∀ k,(Sort.putRow (Value.int .i64) (Sort.ahead w q) g 0 d).heap[k]? = if g=k then (w.heap[k]?).map (Sort.onCells (Sort.putCells (Value.int .i64) 0 d)) else w.heap[k]?:=fun k=>by
  simp only [Sort.putRow,Sort.mapBlock,Array.getElem?_modify]
  split<;>rfl
 have hsz : (Sort.putRow (Value.int .i64) (Sort.ahead w q) g 0 d).heap.size=w.heap.size:=by simp [Sort.ahead]
 refine ⟨⟨rfl,rfl,rfl,by simp only [Sort.grow,Array.size_append,hsz];omega,fun k hk hne=>?_⟩,?_⟩
 ·show ((Sort.putRow (Value.int .i64) (Sort.ahead w q) g 0 d).heap++os)[k]? = _
  rw [Array.getElem?_append_left (by rw [hsz];exact hk),hput,if_neg (fun h=>hne h.symm)]
 ·show ((Sort.putRow (Value.int .i64) (Sort.ahead w q) g 0 d).heap++os)[g]? = _
  rw [Array.getElem?_append_left (by rw [hsz];exact hg),hput,if_pos rfl,B,Option.map_some]
  simp only [Sort.onCells]
  congr 2
  apply Array.ext_getElem?
  intro i
  simp only [Sort.putCells,Array.getElem?_mapIdx,List.getElem?_toArray,List.getElem?_append,List.length_map,Array.length_toList,List.getElem?_map,List.getElem?_drop,Nat.zero_le,true_and,Nat.zero_add,Nat.sub_zero]
  by_cases hi : i<d.size
  ·rw [if_pos hi,List.getElem?_eq_getElem (by omega),Option.map_some,if_pos hi,Array.getElem?_toList,Array.getElem?_eq_getElem hi,getElem!_pos d i hi];rfl
  ·rw [if_neg hi,show d.size+(i - d.size)=i by omega]
   cases h : c[i]? with
   |none=>rfl
   |some x=>rw [Option.map_some,if_neg hi]
end Go.Sh
namespace Go.Proofs
open Go.Sh Go.RowKit
set_option maxRecDepth 100000
set_option linter.unusedSimpArgs false
set_option linter.unusedVariables false
def sortI (l : List Int) : List Int:=l.mergeSort fun x y=>decide (x≤y)
theorem qu {l : List Int} : (sortI l).length=l.length:=List.length_mergeSort l
variable {w0 w : World} {r : Gh} {L : List Asr} {X : Nat→Prop}
theorem YF {v : Value} {l : List Int} {K : Value→World→Prop} (S : StX X w0 r w (.row v 3 1 l.length (ints l)::L)) (hl : l.length<4611686018427387904)
  (h : ∀ w',StX X w0 r w' (.row v 3 1 l.length (ints (sortI l))::L)→K (.tuple #[]) w') : zd Tryz.prog Tryz.xm #[v] w K:=by
 have hr : w.ownsRow 0 3 1 v l.length (ints l):=S.has _ (List.mem_cons_self ..)
 rcases kv hr with ⟨rfl,h1,h2⟩|⟨g,cap,c,rfl,hg,B,hn,hm,hcl,ht⟩
 ·have hl0 : l = []:=List.eq_nil_of_length_eq_zero h1
  subst hl0
  refine Calls.mono (Any.slices_Sort_int_none Tryz.ab0 none 0 w) ?_
  rintro e w' ⟨rfl,rfl⟩
  exact ⟨_,rfl,h _ (by rw [show sortI [] = [] by simp [sortI]];exact S)⟩
 ·rw [Nat.mul_one] at hcl ht
  have hcell : ∀ j,j<l.length→w.cell? ⟨g,j,none⟩=some (.int .i64 l[j]!):=fun j hj=>by
   have : (c.take l.length)[j]? = some (.int .i64 l[j]!):=by
    rw [ht,ints,List.getElem?_map,List.getElem?_eq_getElem hj,getElem!_pos l j hj];rfl
   rw [List.getElem?_take,if_pos hj] at this
   rw [B.cell];exact this
  have hfz : ∀ j,w.frozen? ⟨g,j,none⟩=false:=fun j=>B.unfrozen j
  refine Calls.mono (Any.slices_Sort_int Tryz.ab0 g 0 cap l w (fun j hj=>⟨?_,hfz _⟩) (Array.getElem?_eq_some_iff.1 B).1 hl) ?_
  ·have hj : j<l.length:=by simpa using hj
   rw [Nat.zero_add,hcell j hj]
   simp [getElem!_pos,hj]
  rintro e w' ⟨rfl,q,os,hw⟩
  obtain ⟨hE,hB⟩:=Vr (d:=(sortI l).toArray) B (by simp [qu];omega) hw
  refine ⟨_,rfl,h w' ?_⟩
  refine S.turn (p:=[]) (x:=.row (.slice (some ⟨g,0,none⟩) l.length cap) 3 1 l.length (ints l)) (y:=.row (.slice (some ⟨g,0,none⟩) l.length cap) 3 1 l.length (ints (sortI l))) ?_ ?_ fun k hk=>.inl hk
  ·exact hE.mono fun k _ hk=>by subst hk;rfl
  ·have:=j2 (base:=0) (e:=3) (size:=1) (n:=l.length) (cap:=cap) (Nat.zero_le _) hB hn hm (by simp [qu];omega)
   have e : ((sortI l).toArray.toList.map (Value.int .i64)++c.drop (sortI l).toArray.size).take (l.length*1)=ints (sortI l):=by
    rw [Nat.mul_one,List.take_append_of_le_length (by simp [qu])]
    exact List.take_of_length_le (by simp [qu])
   rwa [e] at this
theorem acO {l : List Int} : (Lib.compact l).length≤l.length:=by
 unfold Lib.compact Lib.compactUpTo
 rw [List.length_map]
 exact Nat.le_trans (List.length_filter_le _ _) (by simp)
theorem Xe {d : Array Int} (hs : ∀ i j,i≤j→j<d.size→d[i]!≤d[j]!) : ∀ m,m≤d.size→(Lib.compactUpTo d m).Pairwise (· < ·)∧∀ x,x ∈ Lib.compactUpTo d m↔∃ j,j<m∧d[j]! = x
 |0,_=>⟨by simp [Lib.compactUpTo],fun x=>⟨fun h=>by simp [Lib.compactUpTo] at h,fun ⟨j,h,_⟩=>absurd h (Nat.not_lt_zero _)⟩⟩
 |m+1,hm=>by
  obtain ⟨h1,h2⟩:=Xe hs m (by omega)
  rw [Lib.compactUpTo_succ]
  by_cases hk : Lib.keeps d m=true
  ·rw [if_pos hk]
   have hk' : m=0∨d[m]!≠d[m - 1]!:=by simpa [Lib.keeps] using hk
   refine ⟨List.pairwise_append.2 ⟨h1,by simp,fun a ha b hb=>?_⟩,fun x=>?_⟩
   ·rw [List.mem_singleton.1 hb]
    obtain ⟨j,hj,rfl⟩:=(h2 a).1 ha
    have h3:=hs j (m - 1) (by omega) (by omega)
    have h4:=hs (m - 1) m (by omega) (by omega)
    rcases hk' with h0|hne
    ·omega
    ·omega
   ·rw [List.mem_append,List.mem_singleton,h2]
    constructor
    ·rintro (⟨j,hj,e⟩|e)
     ·exact ⟨j,by omega,e⟩
     ·exact ⟨m,by omega,e.symm⟩
    ·rintro ⟨j,hj,e⟩
     by_cases hjm : j=m
     ·subst hjm;exact .inr e.symm
     ·exact .inl ⟨j,by omega,e⟩
  ·rw [if_neg hk,List.append_nil]
   have hk' : ¬ m=0∧d[m]! = d[m - 1]!:=by simpa [Lib.keeps,not_or] using hk
   refine ⟨h1,fun x=>?_⟩
   rw [h2]
   constructor
   ·rintro ⟨j,hj,e⟩;exact ⟨j,by omega,e⟩
   ·rintro ⟨j,hj,e⟩
    by_cases hjm : j=m
    ·subst hjm;exact ⟨j - 1,by omega,by rw [← e,hk'.2]⟩
    ·exact ⟨j,by omega,e⟩
theorem Xf {l : List Int} : (Lib.compact (sortI l)).Pairwise (· < ·)∧∀ x,x ∈ Lib.compact (sortI l)↔x ∈ l:=by
 have hp : (sortI l).Pairwise (fun a b=>decide (a≤b)=true):=List.pairwise_mergeSort (fun a b c h1 h2=>by simp only [decide_eq_true_eq] at *;omega) (fun a b=>by simp only [Bool.or_eq_true,decide_eq_true_eq];omega) l
 have hg : ∀ (i : Nat) (hi : i<(sortI l).length),(sortI l).toArray[i]! = (sortI l)[i]:=fun i hi=>by
  rw [getElem!_pos _ i (by simpa using hi)];simp
 have hs : ∀ i j,i≤j→j<(sortI l).toArray.size→(sortI l).toArray[i]!≤(sortI l).toArray[j]!:=fun i j hij hj=>by
  have hj : j<(sortI l).length:=by simpa using hj
  rw [hg i (by omega),hg j hj]
  by_cases e : i=j
  ·subst e;exact Int.le_refl _
  ·simpa using List.pairwise_iff_getElem.1 hp i j (by omega) hj (by omega)
 obtain ⟨h1,h2⟩:=Xe hs (sortI l).length (by simp)
 refine ⟨h1,fun x=>?_⟩
 show x ∈ Lib.compactUpTo (sortI l).toArray (sortI l).length↔_
 rw [h2,← List.mem_mergeSort (le:=fun x y=>decide (x≤y)) (l:=l)]
 constructor
 ·rintro ⟨j,hj,rfl⟩
  rw [hg j hj];exact List.getElem_mem hj
 ·intro hx
  obtain ⟨j,hj,rfl⟩:=List.getElem_of_mem hx
  exact ⟨j,hj,hg j hj⟩
theorem QC {v : Value} {l : List Int} {K : Value→World→Prop} (S : StX X w0 r w (.row v 3 1 l.length (ints l)::L))
  (h : ∀ v' w',StX X w0 r w' (.row v' 3 1 (Lib.compact l).length (ints (Lib.compact l))::L)→K v' w') : zd Tryz.prog Tryz.kg #[v] w K:=by
 have hr : w.ownsRow 0 3 1 v l.length (ints l):=S.has _ (List.mem_cons_self ..)
 rcases kv hr with ⟨rfl,h1,h2⟩|⟨g,cap,c,rfl,hg,B,hn,hm,hcl,ht⟩
 ·have hl0 : l = []:=List.eq_nil_of_length_eq_zero h1
  subst hl0
  refine Calls.mono (Any.slices_Compact_int_empty Tryz.Vq none 0 w) ?_
  rintro e w' ⟨rfl,rfl⟩
  exact ⟨_,rfl,h _ _ S⟩
 ·rw [Nat.mul_one] at hcl ht
  have hcell : ∀ j,j<l.length→w.cell? ⟨g,j,none⟩=some (.int .i64 l[j]!):=fun j hj=>by
   have : (c.take l.length)[j]? = some (.int .i64 l[j]!):=by
    rw [ht,ints,List.getElem?_map,List.getElem?_eq_getElem hj,getElem!_pos l j hj];rfl
   rw [List.getElem?_take,if_pos hj] at this
   rw [B.cell];exact this
  have hfz : ∀ j,w.frozen? ⟨g,j,none⟩=false:=fun j=>B.unfrozen j
  refine Calls.mono (Any.slices_Compact_int Tryz.Vq g 0 cap l w (fun j hj=>⟨?_,hfz _⟩) (by have : cap≤9223372036854775807:=hm;omega) hn) ?_
  ·have hj : j<l.length:=by simpa using hj
   rw [Nat.zero_add,hcell j hj]
   simp [getElem!_pos,hj]
  rintro e w' ⟨rfl,q,hw⟩
  have hcm : (Lib.compact l).length≤l.length:=acO
  obtain ⟨hE,hB⟩:=Vr (w':=w') (q:=q) (os:=#[]) (d:=(Lib.compact l++List.replicate (l.length - (Lib.compact l).length) 0).toArray) B (by simp;omega) (by rw [hw,Sort.grow_empty])
  refine ⟨_,rfl,h _ w' ?_⟩
  refine S.turn (p:=[]) (x:=.row (.slice (some ⟨g,0,none⟩) l.length cap) 3 1 l.length (ints l)) (y:=.row (.slice (some ⟨g,0,none⟩) (Lib.compact l).length cap) 3 1 (Lib.compact l).length (ints (Lib.compact l))) ?_ ?_ fun k hk=>.inl hk
  ·exact hE.mono fun k _ hk=>by subst hk;rfl
  ·have:=j2 (base:=0) (e:=3) (size:=1) (n:=(Lib.compact l).length) (cap:=cap) (Nat.zero_le _) hB (by omega) hm (by simp;omega)
   have e : (((Lib.compact l++List.replicate (l.length - (Lib.compact l).length) 0).toArray.toList.map (Value.int .i64))++c.drop (Lib.compact l++List.replicate (l.length - (Lib.compact l).length) 0).toArray.size).take ((Lib.compact l).length*1)=ints (Lib.compact l):=by
    rw [Nat.mul_one,List.take_append_of_le_length (by simp)]
    simp only [List.map_append]
    rw [List.take_append_of_le_length (by simp)]
    exact List.take_of_length_le (by simp)
   rwa [e] at this
end Go.Proofs
end
section
namespace Go.Proofs
open Go.Sh
set_option maxRecDepth 100000
set_option linter.unusedSimpArgs false
set_option linter.unusedVariables false
end Go.Proofs
end
section
namespace Go.Proofs
open Go.Sh
set_option maxRecDepth 100000
set_option linter.unusedSimpArgs false
set_option linter.unusedVariables false
theorem RowOf.app {α : Type} {sz : Nat} {R : List Value→α→Prop} {xs ys : List Value} {l m : List α} (h : RowOf sz R xs l) (k : RowOf sz R ys m) : RowOf sz R (xs++ys) (l++m):=by
 obtain ⟨h1,h2⟩:=h
 obtain ⟨k1,k2⟩:=k
 refine ⟨by rw [List.length_append,List.length_append,h1,k1,Nat.add_mul],fun i hi=>?_⟩
 by_cases hl : i<l.length
 ·have:=Nat.mul_le_mul_right sz (Nat.succ_le_of_lt hl)
  rw [Nat.succ_mul] at this
  rw [List.getElem_append_left hl,List.drop_append_of_le_length (by rw [h1];omega),List.take_append_of_le_length (by rw [List.length_drop,h1];omega)]
  exact h2 i hl
 ·rw [List.getElem_append_right (by omega)]
  have e : (xs++ys).drop (i*sz)=ys.drop ((i - l.length)*sz):=by
   rw [List.drop_append,List.drop_eq_nil_of_le (by rw [h1];exact Nat.mul_le_mul_right _ (by omega)),List.nil_append,h1,← Nat.sub_mul]
  rw [e]
  exact k2 _ _
end Go.Proofs
end
section
namespace Go.Proofs
set_option linter.unusedVariables false
abbrev zs:=List (List Int)
def nxt (n : zs) (q : Int) : List Int:=n.getD q.toNat []
def isN (n : zs) (q : Int) : Prop:=0≤q∧q<n.length
instance (n : zs) (q : Int) : Decidable (isN n q):=inferInstanceAs (Decidable (_∧_))
def yw (n : zs) : Prop:=∀ l ∈ n,∀ x ∈ l,isN n x
theorem Ji {n : zs} {q : Int} (h : isN n q) : nxt n q=n[q.toNat]'(by have:=h.1;have:=h.2;omega):=by
 have:=h.1;have:=h.2
 rw [nxt,List.getD_eq_getElem?_getD,List.getElem?_eq_getElem (by omega)];rfl
theorem kU {n : zs} (h : yw n) {q x : Int} (hx : x ∈ nxt n q) : isN n x:=by
 by_cases hq : q.toNat<n.length
 ·rw [nxt,List.getD_eq_getElem?_getD,List.getElem?_eq_getElem hq] at hx
  exact h _ (List.getElem_mem hq) x hx
 ·rw [nxt,List.getD_eq_getElem?_getD,List.getElem?_eq_none (by omega)] at hx
  cases hx
inductive Rchd (n : zs) (stop : Int→Prop) (s : Int) : Int→Prop
 |base : Rchd n stop s s
 |step {q p : Int} : Rchd n stop s q→(q=s∨¬ stop q)→p ∈ nxt n q→Rchd n stop s p
theorem Rchd.isN {n : zs} (h : yw n) {stop : Int→Prop} {s q : Int} (hs : isN n s) (k : Rchd n stop s q) : Proofs.isN n q:=by
 cases k with
 |base=>exact hs
 |step _ _ hp=>exact kU h hp
def mk' (m : List Bool) (q : Int) : Bool:=m.getD q.toNat false
def xt (m : List Bool) (q : Int) : List Bool:=m.set q.toNat true
theorem aaU {m : List Bool} {q : Int} : (xt m q).length=m.length:=List.length_set
theorem adZ {m : List Bool} {q x : Int} (hq : 0≤q) (hq2 : q<m.length) (hx : 0≤x) : mk' (xt m q) x=(decide (x=q)||mk' m x):=by
 rw [mk',xt,List.getD_eq_getElem?_getD,List.getElem?_set]
 by_cases h : x=q
 ·subst h
  rw [if_pos rfl,if_pos (by omega)];simp
 ·rw [if_neg (by omega)]
  simp [h,mk',List.getD_eq_getElem?_getD]
def off (m : List Bool) : Nat:=m.countP fun b=>!b
theorem aga {m : List Bool} {q : Int} (hq2 : q.toNat<m.length) (h : mk' m q=false) : off (xt m q)+1=off m:=by
 rw [mk',List.getD_eq_getElem?_getD,List.getElem?_eq_getElem hq2,Option.getD_some] at h
 rw [off,off,xt]
 generalize q.toNat=k at *
 induction m generalizing k with
 |nil=>simp at hq2
 |cons b l ih=>
  cases k with
  |zero=>
   simp only [List.getElem_cons_zero] at h
   subst h
   simp
  |succ k=>
   simp only [List.getElem_cons_succ,List.length_cons] at h hq2
   have:=ih k (by omega) h
   simp only [List.set_cons_succ,List.countP_cons]
   omega
def mkd (m : List Bool) : List Int:=((List.range m.length).filter fun i=>m.getD i false).map Int.ofNat
theorem JX {m : List Bool} {x : Int} : x ∈ mkd m↔0≤x∧mk' m x=true:=by
 rw [mkd,List.mem_map]
 constructor
 ·rintro ⟨i,hi,rfl⟩
  rw [List.mem_filter] at hi
  exact ⟨Int.natCast_nonneg i,by rw [mk',show (Int.ofNat i).toNat=i from rfl];exact hi.2⟩
 ·rintro ⟨h0,h⟩
  refine ⟨x.toNat,?_,Int.toNat_of_nonneg h0⟩
  rw [List.mem_filter,List.mem_range]
  refine ⟨?_,h⟩
  refine Nat.lt_of_not_le fun hl=>?_
  rw [mk',List.getD_eq_getElem?_getD,List.getElem?_eq_none hl] at h
  cases h
theorem Vs {m m' : List Bool} (hl : m.length=m'.length) (h : ∀ x : Int,0≤x→x<m.length→mk' m x=mk' m' x) : m=m':=by
 refine List.ext_getElem hl fun i h1 h2=>?_
 have:=h i (Int.natCast_nonneg i) (by omega)
 simpa [mk',List.getD_eq_getElem?_getD,h1,h2] using this
theorem afI {m : List Bool} {x : Int} (h : mk' m x=true) : x.toNat<m.length:=by
 refine Nat.lt_of_not_le fun hl=>?_
 rw [mk',List.getD_eq_getElem?_getD,List.getElem?_eq_none hl] at h
 cases h
theorem agb {k : Nat} : off (List.replicate k false)=k:=by
 rw [off,List.countP_replicate];simp
end Go.Proofs
end
section
namespace Go.Proofs
open Go.Sh
set_option maxRecDepth 100000
set_option linter.unusedSimpArgs false
set_option linter.unusedVariables false
end Go.Proofs
end
section
namespace Go.Proofs
open Go.Sh
set_option maxRecDepth 100000
set_option linter.unusedSimpArgs false
set_option linter.unusedVariables false
end Go.Proofs
end
section
namespace Go.Proofs
open Go.Sh
set_option maxRecDepth 100000
set_option linter.unusedSimpArgs false
set_option linter.unusedVariables false
end Go.Proofs
end
section
namespace Go.Proofs
open Go.Sh
set_option maxRecDepth 100000
set_option linter.unusedSimpArgs false
set_option linter.unusedVariables false
theorem aaV {u : UnD} {g : GrD} {p : PtD} (h : zV u g p=true) : 0≤p.tx∧(p.op≠14→Yh g p.nx=true)∧(p.op=14→p.nx=0)∧ptG u g p=true:=by
 simp only [zV,Bool.and_eq_true,Bool.not_eq_true',Bool.or_eq_false_iff,decide_eq_false_iff_not,Bool.and_eq_false_iff,Bool.not_eq_false',decide_eq_true_eq] at h
 obtain ⟨⟨⟨a,b⟩,c⟩,d⟩:=h
 exact ⟨by omega,fun h=>b.resolve_left h,fun h=>c.resolve_left (fun h'=>h' h),d⟩
end Go.Proofs
end
section
namespace Go.Proofs
open Go.Sh
set_option maxRecDepth 100000
set_option linter.unusedSimpArgs false
set_option linter.unusedVariables false
def ze (g : GrD) : zs:=g.pts.map yv
theorem zQ {g : GrD} : (ze g).length=g.pts.length:=List.length_map _
theorem aaW {g : GrD} {q : Int} : Yh g q=true↔isN (ze g) q:=by
 rw [Yh,Bool.and_eq_true,decide_eq_true_eq,decide_eq_true_eq,isN,zQ]
theorem abF {p : PtD} : (yv p).Nodup:=by
 rw [yv]
 split
 ·exact .nil
 split
 ·rename_i h;simpa using h.2
 ·simp
theorem acP {g : GrD} {q : Int} : (nxt (ze g) q).Nodup:=by
 rw [nxt,List.getD_eq_getElem?_getD]
 cases h : (ze g)[q.toNat]? with
 |none=>exact .nil
 |some l=>
  rw [ze,List.getElem?_map] at h
  cases h2 : g.pts[q.toNat]? with
  |none=>rw [h2] at h;cases h
  |some p=>rw [h2] at h;cases h;exact abF
theorem ab1 {g : GrD} {q : Int} (h : isN (ze g) q) : nxt (ze g) q=yv (g.pts[q.toNat]'(by have:=h.1;have:=h.2;rw [zQ] at this;omega)):=by
 rw [Ji h];simp [ze]
theorem acQ {u : UnD} {g : GrD} {p : PtD} (h : zV u g p=true) : ∀ x ∈ yv p,isN (ze g) x:=fun x hx=>by
 obtain ⟨_,h1,_,h3⟩:=aaV h
 rw [yv] at hx
 split at hx
 ·cases hx
 rename_i h14
 have hnx:=aaW.1 (h1 h14)
 split at hx
 ·rename_i h12
  simp only [List.mem_cons,List.not_mem_nil,or_false] at hx
  rcases hx with rfl|rfl
  ·exact hnx
  ·rw [ptG] at h3
   simp only [h12.1,Int.reduceEq,if_false,if_true,Bool.and_eq_true] at h3
   exact aaW.1 h3.2
 ·rw [List.mem_singleton.1 hx];exact hnx
theorem agc {u : UnD} {g : GrD} (hM : MayU u) (hg : g ∈ u.fs) : yw (ze g):=fun l hl x hx=>by
 obtain ⟨p,hp,rfl⟩:=List.mem_map.1 hl
 exact acQ (hM.pts g hg p hp) x hx
theorem ae0 {u : UnD} {n : Nat} (hM : MayU u) (hn : n<u.fs.length) : 0<(ze u.fs[n]).length∧(ze u.fs[n]).length≤1024:=by
 have:=hM.hd hn
 rw [zQ]
 exact ⟨this.pt1,this.pt1024⟩
theorem ad0 {p : PtD} : (yv p).length≤2:=by
 rw [yv]
 split
 ·simp
 split<;>simp
def RowC (r : Gh) (c : List Value) (l : List Int) : Prop:=∃ v,c = [v]∧SlB 1 r zO v l
def NetG (r : Gh) (v : Value) (n : zs) : Prop:=SlB 1 r (RowC r) v n
theorem RowC.up {r s : Gh} {c : List Value} {l : List Int} (h : RowC r c l) [le : Le r s] : RowC s c l:=by
 obtain ⟨v,h1,h2⟩:=h;exact ⟨v,h1,h2.cells⟩
theorem NetG.up {r s : Gh} {v : Value} {n : zs} (h : NetG r v n) [le : Le r s] : NetG s v n:=h.up' le fun _ _ h=>RowC.up h
end Go.Proofs
end
section
namespace Go.Proofs
set_option linter.unusedVariables false
set_option linter.unusedSimpArgs false
def acR (n : zs) (q : Int) : List Int:=((List.range n.length).filter fun p=>(n.getD p []).contains q).map Int.ofNat
theorem JY {n : zs} {q p : Int} : p ∈ acR n q↔isN n p∧q ∈ nxt n p:=by
 rw [acR,List.mem_map]
 constructor
 ·rintro ⟨i,hi,rfl⟩
  rw [List.mem_filter,List.mem_range,List.contains_iff_mem] at hi
  exact ⟨⟨Int.natCast_nonneg i,by rw [Int.ofNat_eq_natCast];omega⟩,hi.2⟩
 ·rintro ⟨⟨h0,h1⟩,h⟩
  refine ⟨p.toNat,?_,Int.toNat_of_nonneg h0⟩
  rw [List.mem_filter,List.mem_range,List.contains_iff_mem]
  exact ⟨by omega,h⟩
end Go.Proofs
end
section
namespace Go.Proofs
set_option linter.unusedVariables false
set_option linter.unusedSimpArgs false
end Go.Proofs
end
section
namespace Go.Proofs
set_option linter.unusedVariables false
set_option linter.unusedSimpArgs false
end Go.Proofs
end
section
namespace Go.Proofs
set_option linter.unusedVariables false
set_option linter.unusedSimpArgs false
def ltL : List Int→List Int→Prop
 |x::a,y::b=>x<y∨(x=y∧ltL a b)
 |_,_=>False
def leL (a b : List Int) : Prop:=a=b∨ltL a b
theorem ab2 : ∀ {a : List Int},¬ ltL a a
 |[],h=>h
 |x::a,h=>by
  rcases h with h|⟨_,h⟩
  ·omega
  ·exact ab2 h
theorem Xg : ∀ {a b c : List Int},ltL a b→ltL b c→ltL a c
 |x::a,y::b,z::c,h,k=>by
  rcases h with h|⟨rfl,h⟩
  ·rcases k with k|⟨rfl,k⟩
   ·exact .inl (by omega)
   ·exact .inl h
  ·rcases k with k|⟨rfl,k⟩
   ·exact .inl k
   ·exact .inr ⟨rfl,Xg h k⟩
theorem leL.refl {a : List Int} : leL a a:=.inl rfl
theorem ad1 {a b c : List Int} (h : leL a b) (k : leL b c) : leL a c:=by
 rcases h with rfl|h
 ·exact k
 rcases k with rfl|k
 ·exact .inr h
 ·exact .inr (Xg h k)
theorem ae1 {a b : List Int} (h : leL a b) (k : leL b a) : a=b:=by
 rcases h with rfl|h
 ·rfl
 rcases k with rfl|k
 ·rfl
 ·exact absurd (Xg h k) ab2
theorem JZ : ∀ {a b x y : List Int},ltL a b→a.length=b.length→ltL (a++x) (b++y)
 |x::a,y::b,_,_,h,hl=>by
  rcases h with h|⟨rfl,h⟩
  ·exact .inl h
  ·exact .inr ⟨rfl,JZ h (by simpa using hl)⟩
theorem ab4 : ∀ {a x y : List Int},ltL x y→ltL (a++x) (a++y)
 |[],_,_,h=>h
 |z::a,_,_,h=>.inr ⟨rfl,ab4 h⟩
theorem ab5 {a b x : List Int} (h : leL a b) (hl : a.length=b.length) : leL (a++x) (b++x):=by
 rcases h with rfl|h
 ·exact .inl rfl
 ·exact .inr (JZ h hl)
def Stp (n : zs) (W : List Int) (s q p : Int) : Prop:=(q=s∨q ∉ W)∧p ∈ nxt n q
def Pth (n : zs) (W : List Int) (s : Int) : Int→List Int→Int→Prop
 |x,[],t=>x=t
 |x,y::r,t=>Stp n W s x y∧Pth n W s y r t
theorem Pth.app {n : zs} {W : List Int} {s : Int} : ∀ {a b : List Int} {x t : Int},Pth n W s x (a++b) t↔∃ m,Pth n W s x a m∧Pth n W s m b t
 |[],b,x,t=>⟨fun h=>⟨x,rfl,h⟩,fun ⟨m,h,k⟩=>by have h : x=m:=h;rw [h];exact k⟩
 |y::a,b,x,t=>by
  rw [List.cons_append,Pth,Pth.app (a:=a)]
  constructor
  ·rintro ⟨h,m,h1,h2⟩;exact ⟨m,⟨h,h1⟩,h2⟩
  ·rintro ⟨m,⟨h,h1⟩,h2⟩;exact ⟨h,m,h1,h2⟩
def Vw (n : zs) (W : List Int) (s : Int) (w : List Int) (p : Int) : Prop:=∃ r,w=s::r∧Pth n W s s r p
theorem Vw.base {n : zs} {W : List Int} {s : Int} : Vw n W s [s] s:=⟨[],rfl,rfl⟩
theorem Vw.snoc {n : zs} {W : List Int} {s q p : Int} {w : List Int} (h : Vw n W s w q) (k : Stp n W s q p) : Vw n W s (w ++ [p]) p:=by
 obtain ⟨r,rfl,h⟩:=h
 exact ⟨r ++ [p],rfl,Pth.app.2 ⟨q,h,k,rfl⟩⟩
theorem Vw.last {n : zs} {W : List Int} {s p : Int} {w : List Int} (h : Vw n W s w p) : (w = [s]∧p=s)∨∃ u q,w=u ++ [p]∧Vw n W s u q∧Stp n W s q p:=by
 obtain ⟨r,rfl,h⟩:=h
 rcases List.eq_nil_or_concat r with rfl|⟨u,y,rfl⟩
 ·exact .inl ⟨rfl,Eq.symm h⟩
 ·rw [List.concat_eq_append] at h ⊢
  obtain ⟨m,h1,h2,h3⟩:=Pth.app.1 h
  have h3 : y=p:=h3
  subst h3
  exact .inr ⟨s::u,m,rfl,⟨u,rfl,h1⟩,h2⟩
theorem Vw.pos {n : zs} {W : List Int} {s p : Int} {w : List Int} (h : Vw n W s w p) : 1≤w.length:=by
 obtain ⟨r,rfl,_⟩:=h;simp
def MinW (n : zs) (W : List Int) (s p : Int) (w : List Int) : Prop:=Vw n W s w p∧∀ w',Vw n W s w' p→w.length≤w'.length∧(w'.length=w.length→leL w w')
theorem MinW.one {n : zs} {W : List Int} {s p : Int} {w w' : List Int} (h : MinW n W s p w) (k : MinW n W s p w') : w=w':=by
 have h1:=h.2 w' k.1
 have h2:=k.2 w h.1
 have hl : w'.length=w.length:=by omega
 exact ae1 (h1.2 hl) (h2.2 hl.symm)
abbrev zL:=List (Int × List Int)
def getW (M : zL) (p : Int) : List Int:=(M.lookup p).getD []
theorem k9 {M : zL} {p : Int} {w : List Int} : (M.map Prod.fst).Nodup→((p,w) ∈ M↔M.lookup p=some w):=by
 induction M with
 |nil=>intro _;simp
 |cons x M ih=>
  intro h
  obtain ⟨y,v⟩:=x
  have h':=List.nodup_cons.1 h
  have ih:=ih h'.2
  rw [List.lookup_cons,List.mem_cons]
  by_cases e : p=y
  ·subst e
   rw [show (p == p)=true by simp]
   simp only [Option.some.injEq,Prod.mk.injEq,true_and]
   constructor
   ·rintro (e|hm)
    ·exact e.symm
    ·exact absurd (List.mem_map.2 ⟨(p,w),hm,rfl⟩) h'.1
   ·rintro e;exact .inl e.symm
  ·rw [show (p == y)=false by simpa using e]
   simp only [Prod.mk.injEq,e,false_and,false_or]
   exact ih
theorem ae2 {M : zL} {p q : Int} {w : List Int} : (M ++ [(q,w)]).lookup p=(M.lookup p).or (if p=q then some w else none):=by
 induction M with
 |nil=>
  rw [List.nil_append,List.lookup_cons]
  by_cases e : p=q
  ·simp [e]
  ·rw [show (p == q)=false by simpa using e];simp [e]
 |cons x M ih=>
  obtain ⟨y,v⟩:=x
  rw [List.cons_append,List.lookup_cons,List.lookup_cons,ih]
  split<;>rfl
def zR (wq : List Int) (st : zL × List Int) (p : Int) : zL × List Int:=if (st.1.lookup p).isSome then st else (st.1 ++ [(p,wq ++ [p])],st.2 ++ [p])
structure Fw (n : zs) (W : List Int) (s : Int) (k : Nat) (M : zL) (L : List Int) : Prop where
 min : ∀ p w,(p,w) ∈ M→isN n p∧MinW n W s p w∧w.length≤k+1
 nod : (M.map Prod.fst).Nodup
 all : ∀ p w,Vw n W s w p→w.length≤k+1→(M.lookup p).isSome=true
 lev : ∀ p,p ∈ L↔∃ w,(p,w) ∈ M∧w.length=k+1
 srt : L.Pairwise fun p p'=>ltL (getW M p) (getW M p')
theorem Fw.start {n : zs} {W : List Int} {s : Int} (hs : isN n s) : Fw n W s 0 [(s,[s])] [s]:=by
 refine ⟨fun p w h=>?_,by simp,fun p w h hl=>?_,fun p=>?_,by simp⟩
 ·simp only [List.mem_singleton,Prod.mk.injEq] at h
  obtain ⟨rfl,rfl⟩:=h
  refine ⟨hs,⟨.base,fun w' h'=>⟨h'.pos,fun hl=>?_⟩⟩,Nat.le_refl _⟩
  obtain ⟨r,rfl,_⟩:=h'
  have : r = []:=by simpa using hl
  subst this;exact .refl
 ·rcases h.last with ⟨_,rfl⟩|⟨u,q,rfl,h,_⟩
  ·simp
  ·have:=h.pos
   rw [List.length_append,List.length_singleton] at hl
   omega
 ·rw [List.mem_singleton]
  constructor
  ·rintro rfl;exact ⟨[p],by simp,rfl⟩
  ·rintro ⟨w,h,_⟩
   simp only [List.mem_singleton,Prod.mk.injEq] at h
   exact h.1
structure Md (n : zs) (W : List Int) (s : Int) (M0 : zL) (L : List Int) (cur : List Int→Prop) (M : zL) (nx : List Int) : Prop where
 app : ∃ N : zL,M=M0++N∧nx=N.map Prod.fst
 new : ∀ p w,(p,w) ∈ M→(p,w) ∈ M0∨(M0.lookup p=none∧(∃ q ∈ L,Stp n W s q p∧w=getW M0 q ++ [p])∧(∀ q ∈ L,Stp n W s q p→leL w (getW M0 q ++ [p])))
 nod : (M.map Prod.fst).Nodup
 srt : nx.Pairwise fun p p'=>ltL (getW M p) (getW M p')
 less : ∀ p ∈ nx,∀ x,cur x→ltL (getW M p) x
theorem J0 {M : zL} {p : Int} {w : List Int} (hn : (M.map Prod.fst).Nodup) (h : (p,w) ∈ M) : getW M p=w:=by rw [getW,(k9 hn).1 h];rfl
theorem ad2 {M : zL} {p : Int} (h : M.lookup p=none) : p ∉ M.map Prod.fst:=by
 intro hm
 obtain ⟨⟨y,w⟩,hx,e⟩:=List.mem_map.1 hm
 have e : y=p:=e
 subst e
 rw [List.lookup_eq_none_iff] at h
 have:=h _ hx
 simp at this
theorem Vt {M : zL} {p : Int} (h : (M.lookup p).isSome=true) : ∃ w,(p,w) ∈ M:=by
 induction M with
 |nil=>cases h
 |cons x M ih=>
  obtain ⟨y,v⟩:=x
  rw [List.lookup_cons] at h
  by_cases e : p=y
  ·subst e;exact ⟨v,List.mem_cons_self⟩
  ·rw [show (p == y)=false by simpa using e] at h
   obtain ⟨w,hw⟩:=ih h
   exact ⟨w,List.mem_cons_of_mem _ hw⟩
theorem Md.mono {n : zs} {W : List Int} {s : Int} {M0 : zL} {L : List Int} {cur cur' : List Int→Prop} {M : zL} {nx : List Int} (h : Md n W s M0 L cur M nx) (hc : ∀ x,cur' x→cur x) : Md n W s M0 L cur' M nx:=
 ⟨h.app,h.new,h.nod,h.srt,fun p hp x hx=>h.less p hp x (hc x hx)⟩
theorem ad3 {M : zL} {N : zL} {p : Int} (h : (M.lookup p).isSome=true) : getW (M++N) p=getW M p:=by
 rw [getW,getW,List.lookup_append]
 cases hm : M.lookup p with
 |none=>rw [hm] at h;cases h
 |some w=>rfl
theorem afJ {M N : zL} {p : Int} (h : (M.lookup p).isSome=true) : ((M++N).lookup p).isSome=true:=by
 rw [List.lookup_append]
 cases hm : M.lookup p with
 |none=>rw [hm] at h;cases h
 |some w=>rfl
theorem Md.add {n : zs} {W : List Int} {s q p : Int} {M0 : zL} {L : List Int} {M : zL} {nx : List Int} {cur : List Int→Prop} (h : Md n W s M0 L cur M nx) (hc : cur (getW M0 q ++ [p]))
  (hq : q ∈ L) (hst : Stp n W s q p) (hmin : M.lookup p=none→∀ q' ∈ L,Stp n W s q' p→leL (getW M0 q ++ [p]) (getW M0 q' ++ [p])) :
  Md n W s M0 L (fun x=>cur x∧ltL (getW M0 q ++ [p]) x) (zR (getW M0 q) (M,nx) p).1 (zR (getW M0 q) (M,nx) p).2∧((zR (getW M0 q) (M,nx) p).1.lookup p).isSome=true∧(∀ x,(M.lookup x).isSome=true→((zR (getW M0 q) (M,nx) p).1.lookup x).isSome=true):=by
 rw [zR]
 cases hl : M.lookup p with
 |some w=>
  simp only [hl,Option.isSome_some,if_true]
  exact ⟨h.mono fun x hx=>hx.1,trivial,fun x hx=>hx⟩
 |none=>
  simp only [Option.isSome_none,Bool.false_eq_true,if_false,hl]
  have hnp:=ad2 hl
  have hnodM : ((M ++ [(p,getW M0 q ++ [p])]).map Prod.fst).Nodup:=by
   rw [List.map_append,List.nodup_append]
   refine ⟨h.nod,by simp,fun a ha b hb=>?_⟩
   simp only [List.map_cons,List.map_nil,List.mem_singleton] at hb
   subst hb
   intro e;subst e;exact hnp ha
  have hM0 : M0.lookup p=none:=by
   obtain ⟨N,e,_⟩:=h.app
   rw [e,List.lookup_append,Option.or_eq_none_iff] at hl
   exact hl.1
  have hold : ∀ x ∈ nx,getW (M ++ [(p,getW M0 q ++ [p])]) x=getW M x:=fun x hx=>by
   obtain ⟨N,e,e2⟩:=h.app
   rw [e2] at hx
   obtain ⟨⟨y,w⟩,hy,e3⟩:=List.mem_map.1 hx
   have e3 : y=x:=e3
   subst e3
   have hyM : (y,w) ∈ M:=by rw [e];exact List.mem_append_right _ hy
   exact ad3 (by rw [(k9 h.nod).1 hyM];rfl)
  have hnew : getW (M ++ [(p,getW M0 q ++ [p])]) p=getW M0 q ++ [p]:=J0 hnodM (by simp)
  refine ⟨⟨?_,fun p' w hm=>?_,hnodM,?_,fun p' hp' x hx=>?_⟩,?_,fun x hx=>afJ hx⟩
  ·obtain ⟨N,e,e2⟩:=h.app
   exact ⟨N ++ [(p,getW M0 q ++ [p])],by rw [e,List.append_assoc],by rw [e2];simp⟩
  ·rcases List.mem_append.1 hm with hm|hm
   ·exact h.new p' w hm
   ·simp only [List.mem_singleton,Prod.mk.injEq] at hm
    obtain ⟨rfl,rfl⟩:=hm
    exact .inr ⟨hM0,⟨q,hq,hst,rfl⟩,hmin hl⟩
  ·rw [List.pairwise_append]
   refine ⟨?_,by simp,fun a ha b hb=>?_⟩
   ·exact h.srt.imp_of_mem fun ha hb hh=>by rw [hold _ ha,hold _ hb];exact hh
   ·rw [List.mem_singleton.1 hb,hold a ha,hnew]
    exact h.less a ha _ hc
  ·rcases List.mem_append.1 hp' with hp'|hp'
   ·rw [hold p' hp'];exact h.less p' hp' x hx.1
   ·rw [List.mem_singleton.1 hp',hnew];exact hx.2
  ·rw [ae2,if_pos rfl,hl];rfl
theorem Md.adds {n : zs} {W : List Int} {s q : Int} {M0 : zL} {L : List Int} (hq : q ∈ L) : ∀ {l : List Int} {M : zL} {nx : List Int} {cur : List Int→Prop},Md n W s M0 L cur M nx→(∀ p ∈ l,Stp n W s q p)→l.Pairwise (·≤·)→(∀ p ∈ l,cur (getW M0 q ++ [p])∨(M.lookup p).isSome=true)→
  (∀ p ∈ l,M.lookup p=none→∀ q' ∈ L,Stp n W s q' p→leL (getW M0 q ++ [p]) (getW M0 q' ++ [p]))→
  Md n W s M0 L (fun x=>cur x∧∀ p ∈ l,ltL (getW M0 q ++ [p]) x) (l.foldl (zR (getW M0 q)) (M,nx)).1 (l.foldl (zR (getW M0 q)) (M,nx)).2∧(∀ p ∈ l,((l.foldl (zR (getW M0 q)) (M,nx)).1.lookup p).isSome=true)∧
  (∀ x,(M.lookup x).isSome=true→((l.foldl (zR (getW M0 q)) (M,nx)).1.lookup x).isSome=true)
 |[],M,nx,cur,h,_,_,_,_=>⟨h.mono fun x hx=>hx.1,by simp,fun x hx=>hx⟩
 |p::l,M,nx,cur,h,hst,hs,hc,hmin=>by
  have hs':=List.pairwise_cons.1 hs
  rw [List.foldl_cons]
  have key : Md n W s M0 L (fun x=>cur x∧ltL (getW M0 q ++ [p]) x) (zR (getW M0 q) (M,nx) p).1 (zR (getW M0 q) (M,nx) p).2∧((zR (getW M0 q) (M,nx) p).1.lookup p).isSome=true∧(∀ x,(M.lookup x).isSome=true→((zR (getW M0 q) (M,nx) p).1.lookup x).isSome=true):=by
   rcases hc p List.mem_cons_self with hcp|hl
   ·exact h.add hcp hq (hst p List.mem_cons_self) (hmin p List.mem_cons_self)
   ·rw [zR]
    simp only [hl,if_true]
    exact ⟨h.mono fun x hx=>hx.1,trivial,fun x hx=>hx⟩
  obtain ⟨h1,h2,h3⟩:=key
  obtain ⟨k1,k2,k3⟩:=Md.adds hq (l:=l) h1 (fun x hx=>hst x (List.mem_cons_of_mem _ hx)) hs'.2 (fun x hx=>by
   rcases hc x (List.mem_cons_of_mem _ hx) with hcx|hlx
   ·have hle:=hs'.1 x hx
    by_cases e : x=p
    ·subst e;exact .inr h2
    ·exact .inl ⟨hcx,ab4 (.inl (by omega))⟩
   ·exact .inr (h3 x hlx)) (fun x hx hl=>hmin x (List.mem_cons_of_mem _ hx) (by
    cases hm : M.lookup x with
    |none=>rfl
    |some w=>have:=h3 x (by rw [hm];rfl);rw [hl] at this;cases this))
  refine ⟨k1.mono fun x hx=>⟨⟨hx.1,hx.2 p List.mem_cons_self⟩,fun y hy=>hx.2 y (List.mem_cons_of_mem _ hy)⟩,fun x hx=>?_,fun x hx=>k3 x (h3 x hx)⟩
  rcases List.mem_cons.1 hx with rfl|hx
  ·exact k3 _ h2
  ·exact k2 x hx
end Go.Proofs
end
section
namespace Go.Proofs
set_option linter.unusedVariables false
set_option linter.unusedSimpArgs false
def rndW (n : zs) (so : List Int→List Int) (W : List Int) (s : Int) (M : zL) (L : List Int) (st : zL × List Int) : zL × List Int:=
 L.foldl (fun st q=>if q≠s∧q ∈ W then st else (so (nxt n q)).foldl (zR (getW M q)) st) st
def Yn (so : List Int→List Int) : Prop:=∀ l,(so l).Pairwise (·≤·)∧∀ x,x ∈ so l↔x ∈ l
theorem Fw.lenL {n : zs} {W : List Int} {s : Int} {k : Nat} {M : zL} {L : List Int} (h : Fw n W s k M L) {q : Int} (hq : q ∈ L) : (q,getW M q) ∈ M∧(getW M q).length=k+1:=by
 obtain ⟨w,hw,hl⟩:=(h.lev q).1 hq
 rw [J0 h.nod hw];exact ⟨hw,hl⟩
theorem Fw.rnd {n : zs} {so : List Int→List Int} (hso : Yn so) {W : List Int} {s : Int} {k : Nat} {M0 : zL} {L : List Int} (h : Fw n W s k M0 L) : ∀ {rest : List Int} {M : zL} {nx : List Int},(∃ done,L=done++rest∧∀ q ∈ done,∀ p,Stp n W s q p→(M.lookup p).isSome=true)→
  Md n W s M0 L (fun x=>∃ q ∈ rest,∃ p,x=getW M0 q ++ [p]) M nx→(∀ x,(M0.lookup x).isSome=true→(M.lookup x).isSome=true)→
  Md n W s M0 L (fun _=>False) (rndW n so W s M0 rest (M,nx)).1 (rndW n so W s M0 rest (M,nx)).2∧∀ q ∈ L,∀ p,Stp n W s q p→((rndW n so W s M0 rest (M,nx)).1.lookup p).isSome=true
 |[],M,nx,hd,hm,_=>by
  obtain ⟨done,e,hd⟩:=hd
  rw [List.append_nil] at e
  subst e
  exact ⟨hm.mono fun x hx=>hx.elim,hd⟩
 |q::rest,M,nx,hd,hm,h0=>by
  obtain ⟨done,e,hd⟩:=hd
  have hqL : q ∈ L:=by rw [e];simp
  have hsrt : ∀ q' ∈ rest,ltL (getW M0 q) (getW M0 q'):=fun q' hq'=>by
   have:=h.srt
   rw [e,List.pairwise_append] at this
   exact (List.pairwise_cons.1 this.2.1).1 q' hq'
  have hlen : ∀ q' ∈ L,(getW M0 q').length=k+1:=fun q' hq'=>(h.lenL hq').2
  have e' : L=(done ++ [q])++rest:=by rw [e];simp
  have hrL : ∀ q' ∈ rest,q' ∈ L:=fun q' hq'=>by rw [e];simp [hq']
  rw [rndW,List.foldl_cons]
  by_cases hsk : q≠s∧q ∈ W
  ·rw [if_pos hsk]
   refine Fw.rnd hso h (rest:=rest) ⟨done ++ [q],e',fun q' hq' p hp=>?_⟩ (hm.mono fun x ⟨q',hq',p,e⟩=>⟨q',List.mem_cons_of_mem _ hq',p,e⟩) h0
   rcases List.mem_append.1 hq' with hq'|hq'
   ·exact hd q' hq' p hp
   ·obtain rfl:=List.mem_singleton.1 hq'
    rcases hp.1 with h1|h1
    ·exact absurd h1 hsk.1
    ·exact absurd hsk.2 h1
  ·rw [if_neg hsk]
   have hst : ∀ p ∈ so (nxt n q),Stp n W s q p:=fun p hp=>by
    refine ⟨?_,((hso _).2 p).1 hp⟩
    by_cases e1 : q=s
    ·exact .inl e1
    ·exact .inr fun hw=>hsk ⟨e1,hw⟩
   obtain ⟨k1,k2,k3⟩:=Md.adds hqL (l:=so (nxt n q)) hm hst (hso _).1 (fun p hp=>.inl ⟨q,List.mem_cons_self,p,rfl⟩) fun p hp hl q' hq' hst'=>by
    rw [e] at hq'
    rcases List.mem_append.1 hq' with hq'|hq'
    ·have:=hd q' hq' p hst'
     rw [hl] at this;cases this
    rcases List.mem_cons.1 hq' with rfl|hq'
    ·exact .refl
    ·exact ab5 (.inr (hsrt q' hq')) (by rw [hlen q hqL,hlen q' (hrL q' hq')])
   refine Fw.rnd hso h (rest:=rest) ⟨done ++ [q],e',fun q' hq' p hp=>?_⟩ (k1.mono fun x ⟨q',hq',p,e⟩=>⟨⟨q',List.mem_cons_of_mem _ hq',p,e⟩,fun p' hp'=>?_⟩) fun x hx=>k3 x (h0 x hx)
   ·rcases List.mem_append.1 hq' with hq'|hq'
    ·exact k3 p (hd q' hq' p hp)
    ·obtain rfl:=List.mem_singleton.1 hq'
     exact k2 p (((hso _).2 p).2 hp.2)
   ·rw [e]
    exact JZ (hsrt q' hq') (by rw [hlen q hqL,hlen q' (hrL q' hq')])
theorem Fw.next {n : zs} (hn : yw n) {so : List Int→List Int} (hso : Yn so) {W : List Int} {s : Int} {k : Nat} {M : zL} {L : List Int} (h : Fw n W s k M L) :
  Fw n W s (k+1) (rndW n so W s M L (M,[])).1 (rndW n so W s M L (M,[])).2∧M.length+(rndW n so W s M L (M,[])).2.length=(rndW n so W s M L (M,[])).1.length:=by
 obtain ⟨hm,hall⟩:=Fw.rnd hso h (rest:=L) (M:=M) (nx:=[]) ⟨[],rfl,fun q hq=>by cases hq⟩ ⟨⟨[],by simp,rfl⟩,fun p w hp=>.inl hp,h.nod,.nil,fun p hp=>by cases hp⟩ fun x hx=>hx
 generalize (rndW n so W s M L (M,[])).1=M' at *
 generalize (rndW n so W s M L (M,[])).2=nx at *
 obtain ⟨N,eN,eN2⟩:=hm.app
 have hlast : ∀ p w,Vw n W s w p→w.length≤k+2→M.lookup p=none→∃ u q,w=u ++ [p]∧Vw n W s u q∧Stp n W s q p∧q ∈ L∧u.length=k+1∧leL (getW M q) u:=fun p w hw hl hno=>by
  rcases hw.last with ⟨rfl,rfl⟩|⟨u,q,rfl,hu,hst⟩
  ·have:=h.all _ _ hw (by simp);rw [hno] at this;cases this
  ·rw [List.length_append,List.length_singleton] at hl
   obtain ⟨wq,hwq⟩:=Vt (h.all q u hu (by omega))
   obtain ⟨_,hmq,hlq⟩:=h.min q wq hwq
   have h1:=hmq.2 u hu
   have hlt : ¬ wq.length≤k:=fun hle=>by
    have:=h.all p (wq ++ [p]) (hmq.1.snoc hst) (by rw [List.length_append,List.length_singleton];omega)
    rw [hno] at this;cases this
   have hul : u.length=k+1:=by omega
   refine ⟨u,q,rfl,hu,hst,(h.lev q).2 ⟨wq,hwq,by omega⟩,hul,?_⟩
   rw [J0 h.nod hwq]
   exact h1.2 (by omega)
 have hNnew : ∀ p w,(p,w) ∈ N→M.lookup p=none∧w.length=k+2:=fun p w hp=>by
  have hpM : (p,w) ∈ M':=by rw [eN];exact List.mem_append_right _ hp
  have hno : M.lookup p=none:=by
   cases hl : M.lookup p with
   |none=>rfl
   |some v=>
    have h1:=(k9 h.nod).2 hl
    have h2:=hm.nod
    rw [eN,List.map_append,List.nodup_append] at h2
    exact absurd rfl (h2.2.2 p (List.mem_map.2 ⟨_,h1,rfl⟩) p (List.mem_map.2 ⟨_,hp,rfl⟩))
  rcases hm.new p w hpM with h1|⟨_,⟨q,hq,hst,rfl⟩,_⟩
  ·rw [(k9 h.nod).1 h1] at hno;cases hno
  ·exact ⟨hno,by rw [List.length_append,(h.lenL hq).2];rfl⟩
 refine ⟨⟨fun p w hp=>?_,hm.nod,fun p w hw hl=>?_,fun p=>?_,hm.srt⟩,by rw [eN,eN2];simp⟩
 ·rcases hm.new p w hp with h1|⟨hno,⟨q,hq,hst,rfl⟩,hle⟩
  ·obtain ⟨a,b,c⟩:=h.min p w h1
   exact ⟨a,b,by omega⟩
  ·obtain ⟨hqM,hql⟩:=h.lenL hq
   obtain ⟨hqN,hqm,_⟩:=h.min q _ hqM
   have hl2 : (getW M q ++ [p]).length=k+2:=by rw [List.length_append,hql];rfl
   refine ⟨kU hn hst.2,⟨hqm.1.snoc hst,fun w' hw'=>?_⟩,by omega⟩
   have hge : k+2≤w'.length:=by
    refine Nat.le_of_not_lt fun hlt=>?_
    have:=h.all p w' hw' (by omega)
    rw [hno] at this;cases this
   refine ⟨by omega,fun he=>?_⟩
   obtain ⟨u,q',rfl,hu,hst',hq',hul,hlu⟩:=hlast p w' hw' (by omega) hno
   exact ad1 (hle q' hq' hst') (ab5 hlu (by rw [(h.lenL hq').2,hul]))
 ·cases hno : M.lookup p with
  |some v=>rw [eN];exact afJ (by rw [hno];rfl)
  |none=>
   obtain ⟨u,q,rfl,hu,hst,hq,_,_⟩:=hlast p w hw hl hno
   exact hall q hq p hst
 ·rw [eN2]
  constructor
  ·intro hp
   obtain ⟨⟨y,w⟩,hy,e⟩:=List.mem_map.1 hp
   have e : y=p:=e
   subst e
   exact ⟨w,by rw [eN];exact List.mem_append_right _ hy,(hNnew y w hy).2⟩
  ·rintro ⟨w,hw,hl⟩
   rw [eN] at hw
   rcases List.mem_append.1 hw with hw|hw
   ·have:=(h.min p w hw).2.2;omega
   ·exact List.mem_map.2 ⟨_,hw,rfl⟩
theorem Fw.few {n : zs} {W : List Int} {s : Int} {k : Nat} {M : zL} {L : List Int} (h : Fw n W s k M L) : M.length≤n.length:=by
 have hsub : ∀ x ∈ (M.map Prod.fst).map Int.toNat,x ∈ List.range n.length:=fun x hx=>by
  obtain ⟨p,hp,rfl⟩:=List.mem_map.1 hx
  obtain ⟨⟨y,w⟩,hy,rfl⟩:=List.mem_map.1 hp
  have:=(h.min y w hy).1
  have h0:=this.1;have h1:=this.2
  exact List.mem_range.2 (by show y.toNat<_;omega)
 have hnd : ((M.map Prod.fst).map Int.toNat).Nodup:=by
  rw [List.Nodup,List.pairwise_map]
  refine h.nod.imp_of_mem fun {a b} ha hb hab e=>?_
  obtain ⟨⟨y,w⟩,hy,rfl⟩:=List.mem_map.1 ha
  obtain ⟨⟨z,v⟩,hz,rfl⟩:=List.mem_map.1 hb
  have h1:=(h.min y w hy).1.1
  have h2:=(h.min z v hz).1.1
  dsimp only at e hab
  omega
 have : ∀ {a b : List Nat},a.Nodup→(∀ x ∈ a,x ∈ b)→a.length≤b.length:=by
  intro a
  induction a with
  |nil=>intro b _ _;exact Nat.zero_le _
  |cons x a ih=>
   intro b hn hs
   have hn':=List.nodup_cons.1 hn
   have hx:=hs x List.mem_cons_self
   have:=ih (b:=b.erase x) hn'.2 fun y hy=>by
    have hne : y≠x:=fun e=>hn'.1 (e ▸ hy)
    exact (List.mem_erase_of_ne hne).2 (hs y (List.mem_cons_of_mem _ hy))
   rw [List.length_erase_of_mem hx] at this
   have hp : 0<b.length:=List.length_pos_of_mem hx
   rw [List.length_cons];omega
 have:=this hnd hsub
 simpa using this
theorem Fw.end {n : zs} {W : List Int} {s : Int} {k : Nat} {M : zL} (h : Fw n W s k M []) {p : Int} {w : List Int} (hw : Vw n W s w p) : (M.lookup p).isSome=true:=by
 obtain ⟨m,hm⟩ : ∃ m,w.length=m:=⟨_,rfl⟩
 induction m generalizing p w with
 |zero=>have:=hw.pos;omega
 |succ m ih=>
  rcases hw.last with ⟨rfl,rfl⟩|⟨u,q,rfl,hu,hst⟩
  ·exact h.all _ _ hw (by simp)
  ·rw [List.length_append,List.length_singleton] at hm
   obtain ⟨wq,hwq⟩:=Vt (ih hu (by omega))
   obtain ⟨_,hmq,hlq⟩:=h.min q wq hwq
   have hne : wq.length≠k+1:=fun e=>by
    have:=(h.lev q).2 ⟨wq,hwq,e⟩
    cases this
   exact h.all p (wq ++ [p]) (hmq.1.snoc hst) (by rw [List.length_append,List.length_singleton];omega)
noncomputable def wayE (n : zs) (s t : Int) (W : List Int) : Option (List Int):=by
 classical exact if h : ∃ w,MinW n W s t w then some h.choose else none
theorem jw {n : zs} {W : List Int} {s t : Int} {w : List Int} : wayE n s t W=some w↔MinW n W s t w:=by
 rw [wayE]
 constructor
 ·intro h
  split at h
  ·rename_i hx;cases h;exact hx.choose_spec
  ·cases h
 ·intro h
  rw [dif_pos ⟨w,h⟩]
  congr 1
  exact MinW.one (Exists.choose_spec (⟨w,h⟩ : ∃ w,MinW n W s t w)) h
theorem ad4 {n : zs} {W : List Int} {s t : Int} (h : ∀ w,¬ Vw n W s w t) : wayE n s t W=none:=by
 cases hw : wayE n s t W with
 |none=>rfl
 |some w=>exact absurd (jw.1 hw).1 (h w)
theorem Fw.found {n : zs} {W : List Int} {s t : Int} {k : Nat} {M : zL} {L : List Int} (h : Fw n W s k M L) (he : L = []∨(M.lookup t).isSome=true) : M.lookup t=wayE n s t W:=by
 cases hl : M.lookup t with
 |some w=>exact (jw.2 (h.min t w ((k9 h.nod).2 hl)).2.1).symm
 |none=>
  rcases he with rfl|he
  ·refine (ad4 fun w hw=>?_).symm
   have:=h.end hw
   rw [hl] at this;cases this
  ·rw [hl] at he;cases he
end Go.Proofs
end
section
namespace Go.Proofs
set_option linter.unusedVariables false
set_option linter.unusedSimpArgs false
end Go.Proofs
end
section
namespace Go.Proofs
set_option linter.unusedVariables false
set_option linter.unusedSimpArgs false
theorem agd {n : zs} {stop : Int→Prop} {q q' x : Int} (h : Rchd n stop q' x) (he : q' ∈ nxt n q) (hs : ¬ stop q') : Rchd n stop q x:=by
 induction h with
 |base=>exact .step .base (.inl rfl) he
 |step h hq hp ih=>
  refine .step ih (.inr ?_) hp
  rcases hq with rfl|hq
  ·exact hs
  ·exact hq
end Go.Proofs
end
section
namespace Go.Proofs
set_option linter.unusedVariables false
set_option linter.unusedSimpArgs false
theorem ab6 : ∀ {a b : List Int},a.Nodup→(∀ x ∈ a,x ∈ b)→a.length≤b.length
 |[],b,_,_=>Nat.zero_le _
 |x::a,b,hn,hs=>by
  have hn':=List.nodup_cons.1 hn
  have hx:=hs x List.mem_cons_self
  have:=ab6 (a:=a) (b:=b.erase x) hn'.2 fun y hy=>by
   have hne : y≠x:=fun e=>hn'.1 (e ▸ hy)
   exact (List.mem_erase_of_ne hne).2 (hs y (List.mem_cons_of_mem _ hy))
  rw [List.length_erase_of_mem hx] at this
  have hp : 0<b.length:=List.length_pos_of_mem hx
  rw [List.length_cons];omega
theorem ag2 {n : zs} {W : List Int} {s p : Int} : (∃ w,Vw n W s w p)↔Rchd n (· ∈ W) s p:=by
 constructor
 ·rintro ⟨w,hw⟩
  obtain ⟨k,hk⟩ : ∃ k,w.length=k:=⟨_,rfl⟩
  induction k generalizing w p with
  |zero=>have:=hw.pos;omega
  |succ k ih=>
   rcases hw.last with ⟨_,rfl⟩|⟨u,q,rfl,hu,hst⟩
   ·exact .base
   ·rw [List.length_append,List.length_singleton] at hk
    exact .step (ih u hu (by omega)) hst.1 hst.2
 ·intro h
  induction h with
  |base=>exact ⟨_,.base⟩
  |step h hq hp ih=>
   obtain ⟨w,hw⟩:=ih
   exact ⟨_,hw.snoc ⟨hq,hp⟩⟩
end Go.Proofs
end
section
namespace Go.Proofs
set_option linter.unusedVariables false
set_option linter.unusedSimpArgs false
theorem Jj : ∀ {l m : List Int},l.Pairwise (· < ·)→m.Pairwise (· < ·)→(∀ x,x ∈ l↔x ∈ m)→l=m
 |[],[],_,_,_=>rfl
 |[],y::m,_,_,h=>absurd ((h y).2 List.mem_cons_self) (by simp)
 |x::l,[],_,_,h=>absurd ((h x).1 List.mem_cons_self) (by simp)
 |x::l,y::m,hl,hm,h=>by
  have hl':=List.pairwise_cons.1 hl
  have hm':=List.pairwise_cons.1 hm
  have hxy : x=y:=by
   rcases List.mem_cons.1 ((h x).1 List.mem_cons_self) with e|h1
   ·exact e
   rcases List.mem_cons.1 ((h y).2 List.mem_cons_self) with e|h2
   ·exact e.symm
   have:=hl'.1 y h2;have:=hm'.1 x h1;omega
  subst hxy
  rw [Jj hl'.2 hm'.2 fun z=>?_]
  constructor
  ·intro hz
   rcases List.mem_cons.1 ((h z).1 (List.mem_cons_of_mem _ hz)) with e|hz'
   ·have:=hl'.1 z hz;omega
   ·exact hz'
  ·intro hz
   rcases List.mem_cons.1 ((h z).2 (List.mem_cons_of_mem _ hz)) with e|hz'
   ·have:=hm'.1 z hz;omega
   ·exact hz'
end Go.Proofs
end
section
namespace Go.Proofs
set_option linter.unusedVariables false
set_option linter.unusedSimpArgs false
theorem Fw.runs {n : zs} (hn : yw n) {so : List Int→List Int} (hso : Yn so) {W : List Int} {s : Int} : ∀ (m : Nat) {k : Nat} {M : zL} {L : List Int},Fw n W s k M L→k+1≤M.length→n.length - M.length≤m→∃ k M,Fw n W s k M []∧∀ p w,(p,w) ∈ M→w.length≤n.length
 |m,k,M,L,h,hk,hm=>by
  obtain ⟨h2,hl⟩:=h.next hn hso
  have f2:=h2.few
  generalize (rndW n so W s M L (M,[])).1=M' at *
  generalize (rndW n so W s M L (M,[])).2=L' at *
  by_cases e : L' = []
  ·subst e
   refine ⟨_,_,h2,fun p w hp=>?_⟩
   have h3:=(h2.min p w hp).2.2
   have h4 : w.length≠k+1+1:=fun e=>by
    have:=(h2.lev p).2 ⟨w,hp,e⟩
    cases this
   rw [List.length_nil] at hl
   omega
  ·have : 0<L'.length:=List.length_pos_iff.2 e
   cases m with
   |zero=>omega
   |succ m=>exact Fw.runs hn hso m h2 (by omega) (by omega)
theorem age {n : zs} (hn : yw n) {so : List Int→List Int} (hso : Yn so) {W : List Int} {s t : Int} (hs : isN n s) : (wayE n s t W).isSome=true↔Rchd n (· ∈ W) s t:=by
 rw [← ag2]
 constructor
 ·intro h
  obtain ⟨w,hw⟩:=Option.isSome_iff_exists.1 h
  exact ⟨w,(jw.1 hw).1⟩
 ·rintro ⟨w,hw⟩
  obtain ⟨k,M,hF,_⟩:=Fw.runs hn hso n.length (Fw.start (W:=W) hs) (Nat.le_refl _) (by omega)
  rw [← hF.found (.inl rfl)]
  exact hF.end hw
theorem ab7 {n : zs} (hn : yw n) {so : List Int→List Int} (hso : Yn so) {W : List Int} {s t : Int} (hs : isN n s) : ((wayE n s t W).getD []).length≤n.length:=by
 cases hw : wayE n s t W with
 |none=>exact Nat.zero_le _
 |some w=>
  obtain ⟨k,M,hF,hf⟩:=Fw.runs hn hso n.length (Fw.start (W:=W) hs) (Nat.le_refl _) (by omega)
  rw [← hF.found (.inl rfl)] at hw
  exact hf t w ((k9 hF.nod).2 hw)
theorem Pth.edges {n : zs} {W : List Int} {s : Int} (hn : yw n) : ∀ {r : List Int} {x t : Int},isN n x→Pth n W s x r t→(∀ y ∈ x::r,isN n y)∧(∀ i,i<r.length→r.getD i 0 ∈ nxt n ((x::r).getD i 0))∧(x::r).getLast (by simp)=t
 |[],x,t,hx,h=>by
  obtain rfl : x=t:=h
  exact ⟨fun y hy=>by rw [List.mem_singleton.1 hy];exact hx,fun i hi=>absurd hi (Nat.not_lt_zero _),rfl⟩
 |y::r,x,t,hx,h=>by
  have hy:=kU hn h.1.2
  obtain ⟨h1,h2,h3⟩:=Pth.edges hn hy h.2
  refine ⟨fun z hz=>?_,fun i hi=>?_,?_⟩
  ·rcases List.mem_cons.1 hz with rfl|hz
   ·exact hx
   ·exact h1 z hz
  ·cases i with
   |zero=>exact h.1.2
   |succ i=>exact h2 i (by simpa using hi)
  ·rw [List.getLast_cons (by simp)];exact h3
end Go.Proofs
end
section
namespace Go.Proofs
set_option linter.unusedVariables false
set_option linter.unusedSimpArgs false
def QD (o : OpD) : Bool:=decide (o.k=3)||decide (o.k=4)
def qY (p : PtD) : Bool:=decide (1≤p.op)&&decide (p.op≤8)
def xu (l : List OpD) : List Int:=(l.filter QD).map fun o=>o.pl.l
def zC (p : PtD) : List Int:=xu (p.a::p.b::p.args)++((if p.op=4 then [p.fr.l] else [])++(if p.op=14∨(qY p=true∧-1 ∈ p.to.ps) then [p.to.l] else []))
theorem ae3 {l : List OpD} {x : Int} : x ∈ xu l↔∃ o ∈ l,QD o=true∧o.pl.l=x:=by
 rw [xu,List.mem_map]
 constructor
 ·rintro ⟨o,ho,rfl⟩
  rw [List.mem_filter] at ho
  exact ⟨o,ho.1,ho.2,rfl⟩
 ·rintro ⟨o,ho,h1,rfl⟩
  exact ⟨o,List.mem_filter.2 ⟨ho,h1⟩,rfl⟩
def QE (p : PtD) : Option Int:=if p.op=11 then some p.fr.l else if qY p=true∧p.to.ps = [] then some p.to.l else none
def yF (p : PtD) : Option Int:=match QE p with|some x=>if x ∈ zC p then none else some x|none=>none
def Xh (g : GrD) (q : Int) : List Int:=match g.pts[q.toNat]? with|some p=>zC p|none=>[]
def jJ (g : GrD) (q : Int) : Option Int:=match g.pts[q.toNat]? with|some p=>yF p|none=>none
def Usd (g : GrD) (x q : Int) : Prop:=x ∈ Xh g q
def zz (g : GrD) (x q : Int) : Prop:=jJ g q=some x
instance {g : GrD} {x q : Int} : Decidable (Usd g x q):=inferInstanceAs (Decidable (_ ∈ _))
instance {g : GrD} {x q : Int} : Decidable (zz g x q):=inferInstanceAs (Decidable (_=_))
inductive Lvd (g : GrD) (x : Int) : Int→Prop
 |use {q : Int} : isN (ze g) q→Usd g x q→Lvd g x q
 |step {q p : Int} : isN (ze g) q→¬ zz g x q→p ∈ nxt (ze g) q→Lvd g x p→Lvd g x q
theorem Lvd.isN {g : GrD} {x q : Int} (h : Lvd g x q) : isN (ze g) q:=by cases h<;>assumption
theorem agf {g : GrD} (hn : yw (ze g)) {x q : Int} : Lvd g x q↔∃ p,isN (ze g) q∧isN (ze g) p∧Usd g x p∧(p=q∨¬ zz g x q)∧Rchd (ze g) (zz g x) q p:=by
 constructor
 ·intro h
  induction h with
  |use hN hu=>exact ⟨_,hN,hN,hu,.inl rfl,.base⟩
  |@step q p hN he hp hl ih=>
   obtain ⟨t,h1,h2,h3,h4,h5⟩:=ih
   refine ⟨t,hN,h2,h3,.inr he,?_⟩
   by_cases e : t=p
   ·subst e;exact .step .base (.inl rfl) hp
   ·have h4 : ¬ zz g x p:=h4.resolve_left e
    exact agd h5 hp h4
 ·rintro ⟨t,h1,h2,h3,h4,h5⟩
  have key : ∀ y,Rchd (ze g) (zz g x) q y→Lvd g x y→(y=q∨¬ zz g x q)→(y≠q→Lvd g x q):=by
   intro y hy
   induction hy with
   |base=>intro _ _ h;exact absurd rfl h
   |@step a b ha hc hb ih=>
    intro hl hq hne
    have hq : ¬ zz g x q:=hq.resolve_left hne
    have hea : ¬ zz g x a:=by
     rcases hc with rfl|hc
     ·exact hq
     ·exact hc
    have haN : Proofs.isN (ze g) a:=Rchd.isN hn h1 ha
    have hla : Lvd g x a:=.step haN hea hb hl
    by_cases e : a=q
    ·rw [← e];exact hla
    ·exact ih hla (.inr hq) e
  by_cases e : t=q
  ·subst e;exact .use h1 h3
  ·exact key t h5 (.use h2 h3) (h4.imp id id) e
end Go.Proofs
end
section
namespace Go.Proofs
set_option linter.unusedVariables false
set_option linter.unusedSimpArgs false
def isL (g : GrD) (x : Int) : Prop:=0≤x∧x<(g.tys.length : Int)
theorem QF {ss : List StD} {tys : List TyD} {p : PlD} (h : (zK ss tys p).2.2=true) : 0≤p.l∧p.l<(tys.length : Int):=by
 unfold zK at h
 split at h
 ·rename_i s hs
  by_cases h0 : p.l<0
  ·rw [if_pos h0] at hs;cases hs
  ·rw [if_neg h0] at hs
   cases ht : tys[p.l.toNat]? with
   |none=>rw [ht] at hs;cases hs
   |some t=>
    have:=(List.getElem?_eq_some_iff.1 ht).1
    omega
 ·cases h
theorem ae4 {u : UnD} {g : GrD} {p : PtD} (h : zV u g p=true) (ho : p.op=4∨p.op=10∨p.op=11) : (zK u.ss g.tys p.fr).2.2=true:=by
 have h2:=qX h
 cases hf : (zK u.ss g.tys p.fr).2.2 with
 |true=>rfl
 |false=>
  rw [ptG] at h2
  rcases ho with hc|hc|hc<;>simp [hc,hf] at h2
theorem ae5 {u : UnD} {g : GrD} {p : PtD} (hM : MayU u) (hpos : 1≤g.tys.length) (h : zV u g p=true) : ∀ x ∈ zC p,isL g x:=fun x hx=>by
 rw [zC,List.mem_append,List.mem_append,ae3] at hx
 rcases hx with ⟨o,ho,h1,rfl⟩|hx|hx
 ·have hk : o.k=3∨o.k=4:=by rw [QD,Bool.or_eq_true,decide_eq_true_eq,decide_eq_true_eq] at h1;exact h1
  have hg:=adY h o (by
   rw [aaS,List.mem_filter,acN,decide_eq_true_eq]
   exact ⟨ho,by omega⟩)
  rw [yb] at hg
  have hs : (zK u.ss g.tys o.pl).2.2=true:=by
   rcases hk with hk|hk
   ·rw [if_neg (by omega),if_neg (by omega),if_pos hk] at hg
    simp only [Bool.and_eq_true] at hg
    exact hg.1.1
   ·rw [if_neg (by omega),if_neg (by omega),if_neg (by omega),if_pos hk] at hg
    simp only [Bool.and_eq_true] at hg
    exact hg.1.1.1
  exact QF hs
 ·split at hx
  ·rename_i h4
   rw [List.mem_singleton.1 hx]
   exact QF (ae4 h (.inl h4))
  ·cases hx
 ·split at hx
  ·rename_i hc
   rw [List.mem_singleton.1 hx]
   by_cases ha : qY p=true
   ·rw [qY,Bool.and_eq_true,decide_eq_true_eq,decide_eq_true_eq] at ha
    exact QF (aeY h ha)
   ·have h14 : p.op=14:=hc.resolve_right fun h=>ha h.1
    have h2:=qX h
    rw [ptG] at h2
    simp only [h14,Int.reduceEq,if_false,if_true,or_true] at h2
    have hz : kD p.to=true:=by
     simp only [zy,x9,List.all_cons,Bool.and_eq_true,id] at h2
     simpa using h2.1
    rw [kD,Bool.and_eq_true,decide_eq_true_eq] at hz
    exact ⟨by omega,by omega⟩
  ·cases hx
structure GrF (g : GrD) : Prop where
 uses : ∀ p ∈ g.pts,∀ x ∈ zC p,isL g x
 few : g.tys.length≤512
theorem QG {g : GrD} (hG : GrF g) {q x : Int} (h : x ∈ Xh g q) : isL g x:=by
 rw [Xh] at h
 split at h
 ·rename_i p hp
  exact hG.uses p (List.mem_of_getElem? hp) x h
 ·cases h
noncomputable def lvM (g : GrD) (x : Int) : List Bool:=by
 classical exact (List.range (ze g).length).map fun (i : Nat)=>decide (Lvd g x i)
theorem kE {g : GrD} {x : Int} : (lvM g x).length=(ze g).length:=by simp [lvM]
theorem Z1 {g : GrD} {x q : Int} (hq : isN (ze g) q) : mk' (lvM g x) q=true↔Lvd g x q:=by
 have q0:=hq.1;have q1:=hq.2
 rw [mk',lvM,List.getD_eq_getElem?_getD,List.getElem?_map,List.getElem?_range (by omega)]
 simp [show ((q.toNat : Nat) : Int)=q by omega]
abbrev yz:=List (List Bool)
def xv (R : yz) (x : Int) : List Bool:=R.getD x.toNat []
def mkR (R : yz) (x q : Int) : Bool:=mk' (xv R x) q
def jK (R : yz) (x q : Int) : yz:=R.set x.toNat (xt (xv R x) q)
def yS (R : yz) : Nat:=(R.map off).sum
theorem ae6 {R : yz} {x q : Int} : (jK R x q).length=R.length:=List.length_set
theorem aaX {R : yz} {x q y : Int} (hx : 0≤x) (hx2 : x<R.length) (hy : 0≤y) : xv (jK R x q) y=if y=x then xt (xv R x) q else xv R y:=by
 rw [xv,jK,List.getD_eq_getElem?_getD,List.getElem?_set]
 by_cases h : y=x
 ·subst h;rw [if_pos rfl,if_pos (by omega),if_pos rfl];rfl
 ·rw [if_neg (by omega),if_neg h,xv,List.getD_eq_getElem?_getD]
theorem aaY : ∀ {l : List Nat} {k v : Nat},k<l.length→(l.set k v).sum+l.getD k 0=l.sum+v
 |[],_,_,h=>absurd h (Nat.not_lt_zero _)
 |a::l,0,v,_=>by simp;omega
 |a::l,k+1,v,h=>by
  have:=aaY (l:=l) (k:=k) (v:=v) (by simpa using h)
  simp only [List.set_cons_succ,List.sum_cons,List.getD_cons_succ]
  omega
theorem ae7 {R : yz} {x q : Int} (hx : 0≤x) (hx2 : x<R.length) (hq : q.toNat<(xv R x).length) (h : mkR R x q=false) : yS (jK R x q)+1=yS R:=by
 have h1:=aga hq h
 have h2:=aaY (l:=R.map off) (k:=x.toNat) (v:=off (xt (xv R x) q)) (by rw [List.length_map];omega)
 have h3 : (R.map off).getD x.toNat 0=off (xv R x):=by
  rw [List.getD_eq_getElem?_getD,List.getElem?_map,xv,List.getD_eq_getElem?_getD,List.getElem?_eq_getElem (by omega)];rfl
 rw [h3] at h2
 rw [yS,jK,List.map_set]
 show ((R.map off).set x.toNat (off (xt (xv R x) q))).sum+1=(R.map off).sum
 omega
def xI (st : yz × List (Int × Int)) (w : Int × Int) : yz × List (Int × Int):=if mkR st.1 w.2 w.1 then st else (jK st.1 w.2 w.1,st.2 ++ [w])
structure Wk (g : GrD) (PU : Int→Int→Prop) (PE : Int→Int→Int→Prop) (R : yz) (T : List (Int × Int)) : Prop where
 len : R.length=g.tys.length
 rlen : ∀ x,isL g x→(xv R x).length=(ze g).length
 sound : ∀ x q,isL g x→isN (ze g) q→mkR R x q=true→Lvd g x q
 todo : ∀ w ∈ T,isL g w.2∧isN (ze g) w.1∧mkR R w.2 w.1=true
 base : ∀ x q,isL g x→isN (ze g) q→Usd g x q→mkR R x q=true∨PU x q
 back : ∀ x p q,isL g x→isN (ze g) p→mkR R x p=true→isN (ze g) q→p ∈ nxt (ze g) q→¬ zz g x q→(p,x) ∈ T∨mkR R x q=true∨PE x p q
theorem Wk.start {g : GrD} : Wk g (fun x q=>Usd g x q) (fun _ _ _=>False) (List.replicate g.tys.length (List.replicate (ze g).length false)) []:=by
 have hrow : ∀ x,isL g x→xv (List.replicate g.tys.length (List.replicate (ze g).length false)) x=List.replicate (ze g).length false:=fun x hx=>by
  have:=hx.1;have:=hx.2
  rw [xv,List.getD_eq_getElem?_getD,List.getElem?_replicate,if_pos (by omega)];rfl
 have hno : ∀ x q,isL g x→mkR (List.replicate g.tys.length (List.replicate (ze g).length false)) x q=false:=fun x q hx=>by
  rw [mkR,hrow x hx,mk',List.getD_eq_getElem?_getD,List.getElem?_replicate]
  split<;>rfl
 refine ⟨List.length_replicate,fun x hx=>by rw [hrow x hx,List.length_replicate],fun x q hx hq h=>?_,fun w hw=>(by cases hw),fun x q hx hq h=>.inr h,fun x p q hx hp h=>?_⟩
 ·rw [hno x q hx] at h;cases h
 ·rw [hno x p hx] at h;cases h
theorem Wk.mono {g : GrD} {PU PU' : Int→Int→Prop} {PE PE' : Int→Int→Int→Prop} {R : yz} {T : List (Int × Int)} (h : Wk g PU PE R T) (hu : ∀ x q,isL g x→isN (ze g) q→Usd g x q→PU x q→PU' x q∨mkR R x q=true)
  (he : ∀ x p q,isL g x→isN (ze g) q→p ∈ nxt (ze g) q→¬ zz g x q→PE x p q→PE' x p q∨mkR R x q=true) : Wk g PU' PE' R T:=
 ⟨h.len,h.rlen,h.sound,h.todo,fun x q hx hq hh=>(h.base x q hx hq hh).elim .inl fun k=>(hu x q hx hq hh k).symm,fun x p q hx hp hm hq hpq hE=>by
  rcases h.back x p q hx hp hm hq hpq hE with k|k|k
  ·exact .inl k
  ·exact .inr (.inl k)
  ·rcases he x p q hx hq hpq hE k with k|k
   ·exact .inr (.inr k)
   ·exact .inr (.inl k)⟩
theorem Wk.add {g : GrD} {PU : Int→Int→Prop} {PE : Int→Int→Int→Prop} {R : yz} {T : List (Int × Int)} (h : Wk g PU PE R T) {x q : Int} (hx : isL g x) (hq : isN (ze g) q) (hl : Lvd g x q) :
  Wk g PU PE (xI (R,T) (q,x)).1 (xI (R,T) (q,x)).2∧mkR (xI (R,T) (q,x)).1 x q=true∧(∀ y p,isL g y→isN (ze g) p→mkR R y p=true→mkR (xI (R,T) (q,x)).1 y p=true)∧
   (xI (R,T) (q,x)).2.length+yS (xI (R,T) (q,x)).1=T.length+yS R:=by
 rw [xI]
 dsimp only
 by_cases hm : mkR R x q=true
 ·rw [if_pos hm]
  exact ⟨h,hm,fun y p _ _ h=>h,rfl⟩
 ·rw [if_neg hm]
  have x0:=hx.1;have x1:=hx.2;have q0:=hq.1;have q1:=hq.2
  have hlx:=h.rlen x hx
  have hRl:=h.len
  have hmk : ∀ y p,isL g y→isN (ze g) p→mkR (jK R x q) y p=(decide (y=x∧p=q)||mkR R y p):=fun y p hy hp=>by
   rw [mkR,aaX x0 (by omega) hy.1]
   by_cases e : y=x
   ·subst e
    rw [if_pos rfl,adZ q0 (by omega) hp.1]
    simp [mkR]
   ·rw [if_neg e];simp [e,mkR]
  dsimp only
  refine ⟨⟨by rw [ae6];exact hRl,fun y hy=>?_,fun y p hy hp hh=>?_,fun w hw=>?_,fun y p hy hp hh=>?_,fun y p r hy hp hh hr hpr hE=>?_⟩,?_,fun y p hy hp hh=>?_,?_⟩
  ·rw [aaX x0 (by omega) hy.1]
   split
   ·rw [aaU];exact hlx
   ·exact h.rlen y hy
  ·rw [hmk y p hy hp,Bool.or_eq_true,decide_eq_true_eq] at hh
   rcases hh with ⟨rfl,rfl⟩|hh
   ·exact hl
   ·exact h.sound y p hy hp hh
  ·rcases List.mem_append.1 hw with hw|hw
   ·obtain ⟨h1,h2,h3⟩:=h.todo w hw
    exact ⟨h1,h2,by rw [hmk _ _ h1 h2,h3,Bool.or_true]⟩
   ·rw [List.mem_singleton.1 hw]
    exact ⟨hx,hq,by rw [hmk _ _ hx hq];simp⟩
  ·rcases h.base y p hy hp hh with k|k
   ·exact .inl (by rw [hmk _ _ hy hp,k,Bool.or_true])
   ·exact .inr k
  ·rw [hmk y p hy hp,Bool.or_eq_true,decide_eq_true_eq] at hh
   rcases hh with ⟨rfl,rfl⟩|hh
   ·exact .inl (List.mem_append_right _ (List.mem_singleton.2 rfl))
   ·rcases h.back y p r hy hp hh hr hpr hE with k|k|k
    ·exact .inl (List.mem_append_left _ k)
    ·exact .inr (.inl (by rw [hmk _ _ hy hr,k,Bool.or_true]))
    ·exact .inr (.inr k)
  ·rw [hmk _ _ hx hq];simp
  ·rw [hmk _ _ hy hp,hh,Bool.or_true]
  ·have:=ae7 x0 (by omega) (by rw [hlx];omega) (Bool.eq_false_iff.2 hm)
   rw [List.length_append,List.length_singleton]
   omega
theorem Wk.pop {g : GrD} {PU : Int→Int→Prop} {R : yz} {T : List (Int × Int)} {p x : Int} (h : Wk g PU (fun _ _ _=>False) R (T ++ [(p,x)])) :
  Wk g PU (fun y r q=>y=x∧r=p∧q ∈ acR (ze g) p) R T∧isL g x∧isN (ze g) p∧Lvd g x p:=by
 obtain ⟨h1,h2,h3⟩:=h.todo (p,x) (by simp)
 refine ⟨⟨h.len,h.rlen,h.sound,fun w hw=>h.todo w (List.mem_append_left _ hw),h.base,fun y r q hy hr hh hq hpq hE=>?_⟩,h1,h2,h.sound _ _ h1 h2 h3⟩
 rcases h.back y r q hy hr hh hq hpq hE with k|k|k
 ·rcases List.mem_append.1 k with k|k
  ·exact .inl k
  ·cases List.mem_singleton.1 k
   exact .inr (.inr ⟨rfl,rfl,JY.2 ⟨hq,hpq⟩⟩)
 ·exact .inr (.inl k)
 ·exact k.elim
theorem Wk.end {g : GrD} (hn : yw (ze g)) {R : yz} (h : Wk g (fun _ _=>False) (fun _ _ _=>False) R []) {x : Int} (hx : isL g x) : xv R x=lvM g x:=by
 refine Vs (by rw [h.rlen x hx,kE]) fun q q0 q1=>?_
 rw [h.rlen x hx] at q1
 have hq : isN (ze g) q:=⟨q0,q1⟩
 rw [Bool.eq_iff_iff,Z1 hq]
 constructor
 ·exact h.sound x q hx hq
 ·intro hl
  clear q0 q1 hq
  induction hl with
  |use hN hu=>exact (h.base x _ hx hN hu).elim id False.elim
  |@step q p hN he hp hl ih=>
   rcases h.back x p q hx (Lvd.isN hl) ih hN hp he with k|k|k
   ·cases k
   ·exact k
   ·exact k.elim
theorem agh {g : GrD} (hn : yw (ze g)) {R : yz} (h : Wk g (fun _ _=>False) (fun _ _ _=>False) R []) : R=(List.range g.tys.length).map fun (x : Nat)=>lvM g x:=by
 refine List.ext_getElem (by rw [h.len];simp) fun x h1 h2=>?_
 rw [List.length_map,List.length_range] at h2
 have:=h.end hn (x:=(x : Int)) ⟨by omega,by omega⟩
 rw [xv,List.getD_eq_getElem?_getD,Int.toNat_natCast,List.getElem?_eq_getElem h1] at this
 simpa using this
def xf (g : GrD) (x : Int) (m : List Bool) (q : Int) : Bool:=decide (Usd g x q)||(!decide (zz g x q)&&(nxt (ze g) q).any fun p=>mk' m p)
structure Rnd (g : GrD) (x : Int) (m : List Bool) : Prop where
 len : m.length=(ze g).length
 sound : ∀ q,isN (ze g) q→mk' m q=true→Lvd g x q
theorem Rnd.start {g : GrD} {x : Int} : Rnd g x (List.replicate (ze g).length false):=⟨List.length_replicate,fun q hq h=>by
 rw [mk',List.getD_eq_getElem?_getD,List.getElem?_replicate] at h
 split at h<;>cases h⟩
theorem Rnd.must {g : GrD} (hn : yw (ze g)) {x q : Int} {m : List Bool} (h : Rnd g x m) (hq : isN (ze g) q) (hm : xf g x m q=true) : Lvd g x q:=by
 rw [xf,Bool.or_eq_true,decide_eq_true_eq,Bool.and_eq_true,List.any_eq_true,Bool.not_eq_true',decide_eq_false_iff_not] at hm
 rcases hm with hm|⟨he,p,hp,hm⟩
 ·exact .use hq hm
 ·exact .step hq he hp (h.sound p (kU hn hp) hm)
theorem Rnd.set {g : GrD} (hn : yw (ze g)) {x q : Int} {m : List Bool} (h : Rnd g x m) (hq : isN (ze g) q) (hm : xf g x m q=true) : Rnd g x (xt m q):=
 ⟨by rw [aaU];exact h.len,fun p hp hh=>by
  have q0:=hq.1;have q1:=hq.2;have hl:=h.len
  rw [adZ q0 (by omega) hp.1,Bool.or_eq_true,decide_eq_true_eq] at hh
  rcases hh with rfl|hh
  ·exact h.must hn hq hm
  ·exact h.sound p hp hh⟩
theorem Rnd.end {g : GrD} {x : Int} {m : List Bool} (h : Rnd g x m) (hf : ∀ q,isN (ze g) q→xf g x m q=true→mk' m q=true) : m=lvM g x:=by
 refine Vs (by rw [h.len,kE]) fun q q0 q1=>?_
 rw [h.len] at q1
 have hq : isN (ze g) q:=⟨q0,q1⟩
 rw [Bool.eq_iff_iff,Z1 hq]
 constructor
 ·exact h.sound q hq
 ·intro hl
  clear q0 q1 hq
  induction hl with
  |use hN hu=>exact hf _ hN (by rw [xf,decide_eq_true hu];rfl)
  |@step q p hN he hp hl ih=>
   refine hf _ hN ?_
   rw [xf,decide_eq_false he,Bool.not_false,Bool.true_and,List.any_eq_true.2 ⟨p,hp,ih⟩,Bool.or_true]
end Go.Proofs
end
section
namespace Go.Proofs
set_option linter.unusedVariables false
set_option linter.unusedSimpArgs false
def ptsW (g : GrD) (P : Int→Prop) [DecidablePred P] : List Int:=((List.range (ze g).length).filter fun (p : Nat)=>decide (P (p : Int))).map Int.ofNat
theorem qZ {g : GrD} {P : Int→Prop} [DecidablePred P] {p : Int} : p ∈ ptsW g P↔isN (ze g) p∧P p:=by
 rw [ptsW,List.mem_map]
 constructor
 ·rintro ⟨i,hi,rfl⟩
  rw [List.mem_filter,List.mem_range,decide_eq_true_eq] at hi
  exact ⟨⟨Int.natCast_nonneg i,by have:=hi.1;show ((i : Nat) : Int)<_;omega⟩,hi.2⟩
 ·rintro ⟨h1,h2⟩
  have h0:=h1.1;have h3:=h1.2
  have e : ((p.toNat : Nat) : Int)=p:=by omega
  exact ⟨p.toNat,by rw [List.mem_filter,List.mem_range,decide_eq_true_eq,e];exact ⟨by omega,h2⟩,e⟩
theorem aaZ {g : GrD} {P : Int→Prop} [DecidablePred P] : (ptsW g P).length≤(ze g).length:=by
 rw [ptsW,List.length_map]
 exact Nat.le_trans (List.length_filter_le ..) (by simp)
def ltB : List Int→List Int→Bool
 |x::a,y::b=>decide (x<y)||(decide (x=y)&&ltB a b)
 |_,_=>false
def acS (b : Option (List Int)) (w : List Int) : Bool:=match b with|none=>true|some v=>decide (w.length<v.length)||(decide (w.length=v.length)&&ltB w v)
noncomputable def xg (n : zs) (W : List Int) (q : Int) (stop : Bool) (b : Option (List Int)) (p : Int) : Option (List Int):=
 if p≠q∧stop=true then b else match wayE n q p W with|some w=>if acS b w=true then some w else b|none=>b
noncomputable def QH (g : GrD) (x q : Int) : Option (List Int):=(ptsW g (Usd g x)).foldl (xg (ze g) (ptsW g (zz g x)) q (decide (zz g x q))) none
theorem ad5 {n : zs} {W : List Int} {q : Int} {stop : Bool} {b : Option (List Int)} {p : Int} {w : List Int} (h : xg n W q stop b p=some w) : b=some w∨wayE n q p W=some w:=by
 rw [xg] at h
 split at h
 ·exact .inl h
 ·split at h
  ·rename_i v hv
   split at h
   ·cases h;exact .inr hv
   ·exact .inl h
  ·exact .inl h
theorem aa0 {n : zs} {W : List Int} {q : Int} {stop : Bool} : ∀ {l : List Int} {b : Option (List Int)} {w : List Int},l.foldl (xg n W q stop) b=some w→b=some w∨∃ p ∈ l,wayE n q p W=some w
 |[],_,_,h=>.inl h
 |p::l,b,w,h=>by
  rcases aa0 (l:=l) h with h|⟨p',hp,h⟩
  ·rcases ad5 h with h|h
   ·exact .inl h
   ·exact .inr ⟨p,List.mem_cons_self,h⟩
  ·exact .inr ⟨p',List.mem_cons_of_mem _ hp,h⟩
theorem ad6 {n : zs} {W : List Int} {q : Int} {stop : Bool} {b : Option (List Int)} {p : Int} (h : b.isSome=true) : (xg n W q stop b p).isSome=true:=by
 rw [xg]
 split
 ·exact h
 ·split
  ·split
   ·rfl
   ·exact h
  ·exact h
theorem aa1 {n : zs} {W : List Int} {q : Int} {stop : Bool} : ∀ {l : List Int} {b : Option (List Int)},b.isSome=true→(l.foldl (xg n W q stop) b).isSome=true
 |[],_,h=>h
 |p::l,b,h=>aa1 (l:=l) (ad6 h)
theorem ad7 {n : zs} {W : List Int} {q : Int} {stop : Bool} {p : Int} (hp : ¬ (p≠q∧stop=true)) (hw : (wayE n q p W).isSome=true) : ∀ {l : List Int} {b : Option (List Int)},p ∈ l→(l.foldl (xg n W q stop) b).isSome=true
 |[],_,h=>by cases h
 |p'::l,b,h=>by
  rw [List.foldl_cons]
  rcases List.mem_cons.1 h with rfl|h
  ·refine aa1 ?_
   obtain ⟨w,hw⟩:=Option.isSome_iff_exists.1 hw
   unfold xg
   rw [if_neg hp,hw]
   dsimp only
   split
   ·rfl
   ·rename_i hb
    cases b with
    |none=>exact absurd rfl hb
    |some v=>rfl
  ·exact ad7 hp hw h
theorem aa2 {n : zs} (hn : yw n) {P Q : Int→Prop} {s t : Int} (hs : isN n s) (h : ∀ y,isN n y→(P y↔Q y)) : Rchd n P s t→Rchd n Q s t:=fun k=>by
 induction k with
 |base=>exact .base
 |@step y z hy hc hz ih=>
  refine .step ih ?_ hz
  rcases hc with e|hc
  ·exact .inl e
  ·exact .inr fun hq=>hc ((h y (Rchd.isN hn hs hy)).2 hq)
theorem agi {g : GrD} (hn : yw (ze g)) {x q t : Int} (hq : isN (ze g) q) : Rchd (ze g) (· ∈ ptsW g (zz g x)) q t↔Rchd (ze g) (zz g x) q t:=
 ⟨aa2 hn hq fun y hy=>by rw [qZ];exact ⟨fun h=>h.2,fun h=>⟨hy,h⟩⟩,aa2 hn hq fun y hy=>by rw [qZ];exact ⟨fun h=>⟨hy,h⟩,fun h=>h.2⟩⟩
theorem ae8 {g : GrD} (hn : yw (ze g)) {so : List Int→List Int} (hso : Yn so) {x q : Int} (h : Lvd g x q) : (QH g x q).isSome=true:=by
 obtain ⟨p,hq,hp,hu,he,hr⟩:=(agf hn).1 h
 refine ad7 (p:=p) ?_ ((age hn hso hq).2 ((agi hn hq).2 hr)) (qZ.2 ⟨hp,hu⟩)
 rintro ⟨h1,h2⟩
 exact (he.resolve_left h1) (of_decide_eq_true h2)
noncomputable def yq (g : GrD) (q : Int) : List Bool:=(List.range g.tys.length).map fun (x : Nat)=>mk' (lvM g x) q
theorem QJ {g : GrD} {q : Int} : (yq g q).length=g.tys.length:=by simp [yq]
theorem ab8 {g : GrD} {q x : Int} (hq : isN (ze g) q) (hx : isL g x) : mk' (yq g q) x=true↔Lvd g x q:=by
 have x0:=hx.1;have x1:=hx.2
 rw [mk',yq,List.getD_eq_getElem?_getD,List.getElem?_map,List.getElem?_range (by omega)]
 simp only [Option.map_some,Option.getD_some]
 rw [show ((x.toNat : Nat) : Int)=x by omega]
 exact Z1 hq
noncomputable def yr (g : GrD) (q : Int) : List Int:=mkd (yq g q)
theorem vL {g : GrD} {q x : Int} (hq : isN (ze g) q) : x ∈ yr g q↔isL g x∧Lvd g x q:=by
 rw [yr,JX]
 constructor
 ·rintro ⟨h1,h2⟩
  have hx : isL g x:=⟨h1,by have:=afI h2;rw [QJ] at this;omega⟩
  exact ⟨hx,(ab8 hq hx).1 h2⟩
 ·rintro ⟨h1,h2⟩;exact ⟨h1.1,(ab8 hq h1).2 h2⟩
theorem aa3 {g : GrD} {q : Int} : (yr g q).length≤g.tys.length:=by
 rw [yr,mkd,List.length_map]
 exact Nat.le_trans (List.length_filter_le ..) (by simp [yq])
theorem ae9 {g : GrD} {x q : Int} (hq : isN (ze g) q) : Lvd g x q↔Usd g x q∨(¬ zz g x q∧∃ p ∈ nxt (ze g) q,Lvd g x p):=by
 constructor
 ·intro h
  cases h with
  |use _ hu=>exact .inl hu
  |step _ he hp hl=>exact .inr ⟨he,_,hp,hl⟩
 ·rintro (h|⟨h1,p,h2,h3⟩)
  ·exact .use hq h
  ·exact .step hq h1 h2 h3
theorem abG {g : GrD} (hn : yw (ze g)) {x q : Int} (hq : isN (ze g) q) (h : xf g x (lvM g x) q=true) : mk' (lvM g x) q=true:=by
 rw [Z1 hq]
 rw [xf,Bool.or_eq_true,decide_eq_true_eq,Bool.and_eq_true,List.any_eq_true,Bool.not_eq_true',decide_eq_false_iff_not] at h
 rcases h with h|⟨he,p,hp,h⟩
 ·exact .use hq h
 ·exact .step hq he hp ((Z1 (kU hn hp)).1 h)
end Go.Proofs
end
section
namespace Go.Proofs
open Go.Sh Go.BM
set_option linter.unusedVariables false
set_option linter.unusedSimpArgs false
def yJ (m : List Bool) : List (BitVec 64):=y6 (fun x y=>x ||| y) (List.replicate ((m.length+63) / 64) 0#64) (mkd m)
theorem ad8 {m : List Bool} : acu m.length (mkd m):=fun k hk=>by
 obtain ⟨h1,h2⟩:=JX.1 hk
 have:=afI h2
 omega
theorem ab9 {n : Nat} (h : n≤1032) : BM.May n (List.replicate ((n+63) / 64) 0#64):=by
 have:=adg (W:=(n : Int)) (by omega) (by omega)
 rwa [Int.toNat_natCast] at this
theorem afa {m : List Bool} (h : m.length≤1032) : BM.May m.length (yJ m):=XY (h:=fun a b=>a||b) aal (by simp) _ _ (ab9 h) ad8
theorem afb {m : List Bool} (h : m.length≤1032) (k : Nat) : bit (yJ m) k=m.getD k false:=by
 rw [yJ,Q0 _ _ (ab9 h) ad8,adh,Bool.false_or,Bool.eq_iff_iff,decide_eq_true_eq,JX]
 rw [mk',Int.toNat_natCast]
 exact ⟨fun h=>h.2,fun h=>⟨by omega,h⟩⟩
theorem aa4 {m : List Bool} : (yJ m).length=(m.length+63) / 64:=by rw [yJ,qR,List.length_replicate]
def Xi (W : Nat) (ws : List (BitVec 64)) : List Bool:=(List.range W).map fun k=>bit ws k
theorem afc {W : Nat} {ws : List (BitVec 64)} : (Xi W ws).length=W:=by simp [Xi]
theorem aa5 {W : Nat} {ws : List (BitVec 64)} {k : Nat} (h : k<W) : (Xi W ws).getD k false=bit ws k:=by
 rw [Xi,List.getD_eq_getElem?_getD,List.getElem?_map,List.getElem?_range h];rfl
theorem agj {W : Nat} {ws : List (BitVec 64)} {q : Int} (h0 : 0≤q) (h : q<W) : mk' (Xi W ws) q=bit ws q.toNat:=aa5 (by omega)
theorem afd {m : List Bool} (h : m.length≤1032) : Xi m.length (yJ m)=m:=by
 refine List.ext_getElem afc fun k h1 h2=>?_
 have:=aa5 (ws:=yJ m) h2
 rw [afb h,List.getD_eq_getElem?_getD,List.getD_eq_getElem?_getD,List.getElem?_eq_getElem h1,List.getElem?_eq_getElem h2] at this
 exact this
end Go.Proofs
end
section
namespace Go.Sh
open Go.RowKit
section
variable {P : Program} {X : Nat→Prop} {w0 w : World} {r : Gh} {L : List Asr} {e : TypeId} {sz m : Nat} {xs : List Value} {g : Asr→List Asr}
theorem StX.cutRow {p : Option Addr} {cap n : Nat} (S : StX X w0 r w L) [h : xY (.slice p m cap) L e sz m xs g] (hn : n≤m) : StX X w0 r w (g (.row (.slice p n cap) e sz n (xs.take (n*sz)))):=by
 obtain ⟨pp,qq,h2,h3⟩:=h.h
 have hr:=S.has (.row (.slice p m cap) e sz m xs) (by rw [h2];simp)
 rw [h3]
 rw [h2] at S
 rcases kv hr with ⟨hv,h0,hx⟩|⟨b,cap',c,hv,hb,B,hm,hM,hc,ht⟩
 ·cases hv
  have : n=0:=by omega
  subst this
  subst hx
  refine S.turn (x:=.row (.slice none 0 0) e sz 0 []) (y:=.row (.slice none 0 0) e sz 0 ([].take (0*sz))) (ExtBut.refl _ _) ?_ fun k hk=>.inl hk
  simpa using hr
 ·cases hv
  refine S.turn (x:=.row (.slice (some ⟨b,0,none⟩) m cap) e sz m xs) (y:=.row (.slice (some ⟨b,0,none⟩) n cap) e sz n (xs.take (n*sz))) (ExtBut.refl _ _) ?_ fun k hk=>.inl hk
  have:=j2 (base:=0) (e:=e) (size:=sz) (n:=n) (Nat.zero_le _) B (by omega) hM hc
  rw [← ht,List.take_take,Nat.min_eq_left (Nat.mul_le_mul_right _ hn)]
  exact this
end
end Go.Sh
end
section
namespace Go.Proofs.Tryz
open Go.Sh
set_option maxRecDepth 100000
def ke (t0 t1 : Value) (w : World) (K : VW) : Prop:=
 ca xd #[t0,t1] w fun t7 w1=>
 bt .geq 3 t7 (i6 0) fun t8=>K t8 w1
theorem jL {t0 t1 : Value} {w : World} {K : VW} (h : ke t0 t1 w K) : zd prog yk #[t0,t1] w K:=
 okC false (.s (.r (rz 1 0 0)) (.s (.r (rz 5 0 32)) (.n))) func66 rfl (by kernel_rfl) (by kernel_rfl) h
def kV (t0 t1 : Value) (w : World) (K : VW) : Prop:=
 pp (Builtin.len_ #[28] 3 #[t0]) fun t7=>zr [(i6 0)] w (fun s2 _d3 w4 K1=>
 bf .lss 3 (s2.getD 0 undef) t7 fun t9=>zc t9 (xl w4 28 t0 (s2.getD 0 undef) 3 fun t15=>bf .eql 3 t1 t15 fun t16=>zc t16 (K (s2.getD 0 undef) w4) (bt .add 3 (s2.getD 0 undef) (i6 1) fun t18=>K1 [t18] w4)) (K (i6 (-1)) w4))
theorem vY {t0 t1 : Value} {w : World} {K : VW} (h : kV t0 t1 w K) : zd prog xd #[t0,t1] w K:=
 okC false (.s (.r (rz 1 0 0)) (.s (.s (.r (rz 3 0 0)) (.b (.lp [8] (.s (.r (rz 1 0 0)) (.s (.c (.n) (.n)) (.s (.b (.s (.r (rz 2 0 0)) (.s (.r (rz 6 0 256)) (.c (.s (.r (rz 2 0 0)) (.n)) (.n))))) (.r (rz 2 0 0)))))))) (.s (.r (rz 1 0 0)) (.n)))) func100 rfl (by kernel_rfl) (by kernel_rfl) h
end Go.Proofs.Tryz
end
section
namespace Go.Proofs
open Go.Sh Go.RowKit
set_option maxRecDepth 100000
set_option linter.unusedSimpArgs false
set_option linter.unusedVariables false
def acT (c : List Value) (x : Bool) : Prop:=c = [.bool x]
def bls (m : List Bool) : List Value:=m.map Value.bool
theorem aca {m : List Bool} : (bls m).length=m.length:=List.length_map _
theorem ad9 {m : List Bool} : RowOf 1 acT (bls m) m:=⟨by rw [aca,Nat.mul_one],fun j hj=>by
 rw [Nat.mul_one,bls,← List.map_drop,← List.map_take,List.drop_eq_getElem_cons hj];rfl⟩
theorem yC {l : List Int} : RowOf 1 zO (ints l) l:=⟨by rw [kk,Nat.mul_one],fun j hj=>by
 rw [Nat.mul_one,ints,← List.map_drop,← List.map_take,List.drop_eq_getElem_cons hj];rfl⟩
theorem aa6 {α : Type} {r : Gh} {V : α→Value} {p : Option Addr} {n cap : Nat} {l : List α} (h : SlG 1 r (fun c x=>c = [V x]) (.slice p n cap) l) {i : Nat} (hi : i<l.length) :
  ∃ b off,p=some ⟨b,off,none⟩∧n=l.length∧Ob r fun w=>w.cell? ⟨b,off+i,none⟩=some (V l[i]):=by
 have hsh:=h.shape
 obtain ⟨p',cap',e,_,_⟩:=hsh
 obtain ⟨b,off,c,hE,hc,hcc,hcl⟩:=h.get (by decide) hi
 obtain rfl : c=_:=hcc
 cases e
 cases hE
 refine ⟨b,off,rfl,rfl,?_⟩
 have:=hcl 0 _ rfl
 rwa [show off+i*1+0=off+i by omega] at this
theorem zI {r : Gh} {p : Option Addr} {n cap : Nat} {l : List Int} (h : SlG 1 r zO (.slice p n cap) l) {i : Nat} (hi : i<l.length) : ∃ b off,p=some ⟨b,off,none⟩∧n=l.length∧Ob r fun w=>w.cell? ⟨b,off+i,none⟩=some (.int .i64 l[i]):=aa6 (V:=Value.int .i64) h hi
theorem acb {r : Gh} {p : Option Addr} {n cap : Nat} {l : List Bool} (h : SlG 1 r acT (.slice p n cap) l) {i : Nat} (hi : i<l.length) : ∃ b off,p=some ⟨b,off,none⟩∧n=l.length∧Ob r fun w=>w.cell? ⟨b,off+i,none⟩=some (.bool l[i]):=aa6 (V:=Value.bool) h hi
theorem abH {l : List Int} {x : Int} {v : Value} {w : World} {r : Gh} {K : Value→World→Prop} (hr : Holds r w) (hl : SlG 1 r zO v l) (hf : l.length≤maxLen)
  (h : ∀ i : Int,(0≤i↔x ∈ l)→K (.int .i64 i) w) : zd Tryz.prog Tryz.xd #[v,.int .i64 x] w K:=by
 refine Tryz.vY ?_
 unfold Tryz.kV
 obtain ⟨p,cap,rfl,_,_⟩:=hl.shape
 have hf : l.length≤9223372036854775807:=hf
 refine gp_ ?_
 refine zk (ι:=Nat) (fun i=>[.int .i64 (i : Nat)]) (fun i w'=>w'=w∧i≤l.length∧x ∉ l.take i) (fun i=>l.length - i) 0 rfl ⟨rfl,Nat.zero_le _,by simp⟩ ?_
 rintro i d w' ⟨rfl,hi,hn⟩ K1 hK1
 simp only [List.getD_cons_zero]
 refine gp_ ?_
 refine zm (fun hlt=>?_) (fun hge=>?_)
 ·have hlt : i<l.length:=by omega
  obtain ⟨b,off,rfl,_,hc⟩:=zI hl hlt
  refine gp_ ?_
  refine zf (by rw [Int.toNat_natCast];exact hc _ hr) ?_
  refine gp_ ?_
  refine zm (fun he=>?_) (fun he=>?_)
  ·exact h _ ⟨fun _=>by rw [he];exact List.getElem_mem hlt,fun _=>Int.natCast_nonneg _⟩
  ·refine gp_ ?_
   refine hK1 (i+1) _ ⟨rfl,hlt,?_⟩ (by omega)
   rw [List.take_succ_eq_append_getElem hlt,List.mem_append,List.mem_singleton]
   exact fun h=>h.elim hn he
 ·have : i=l.length:=by omega
  subst this
  rw [List.take_length] at hn
  exact h _ ⟨fun h=>by omega,fun h=>absurd h hn⟩
theorem Z2 {l : List Int} {x : Int} {v : Value} {w : World} {r : Gh} {K : Value→World→Prop} (hr : Holds r w) (hl : SlG 1 r zO v l) (hf : l.length≤maxLen)
  (h : K (.bool (decide (x ∈ l))) w) : zd Tryz.prog Tryz.yk #[v,.int .i64 x] w K:=by
 refine Tryz.jL ?_
 unfold Tryz.ke
 refine abH hr hl hf fun i hi=>?_
 refine gp_ ?_
 have e : decide (0≤i)=decide (x ∈ l):=by
  rw [decide_eq_decide];exact hi
 rw [e];exact h
theorem X7 {l : List Int} {v : Value} {w0 w : World} {r : Gh} {L : List Asr} {X : Nat→Prop} {K : Value→World→Prop} (S : StX X w0 r w L) (hl : SlG 1 r zO v l) (hf : l.length≤1000000)
  (h : ∀ v' w',StX X w0 r w' (.row v' 3 1 l.length (ints l)::L)→K v' w') : zd Tryz.prog Tryz.xe #[v] w K:=by
 obtain ⟨p,cap,rfl,hp,_⟩:=hl.shape
 by_cases h0 : l = []
 ·subst h0
  cases p with
  |none=>
   have:=hp rfl;subst this
   refine Calls.mono (Any.slices_Clone_int_nil Tryz.Xd 0 0 w) ?_
   rintro e w' ⟨rfl,rfl⟩
   exact ⟨_,rfl,h _ _ (S.ownNil 3 1)⟩
  |some a=>
   refine Calls.mono (Any.slices_Clone_int_zero Tryz.Xd a cap w) ?_
   rintro e w' ⟨v',rfl,ho,_,hB⟩
   have hE : Ext w w':=⟨hB.os,hB.tape,hB.output,hB.size,hB.block⟩
   exact ⟨_,rfl,h _ _ (S.take hE ho)⟩
 ·obtain ⟨b,off,rfl,_,_⟩:=zI hl (i:=0) (List.length_pos_iff.2 h0)
  refine Calls.mono (Any.slices_Clone_int Tryz.Xd b off l.length cap l w (Nat.le_refl _) (by omega) fun j hj=>?_) ?_
  ·obtain ⟨b',off',hE,_,hc⟩:=zI hl hj
   cases hE
   rw [S.at hc,List.getD_eq_getElem?_getD,List.getElem?_eq_getElem hj];rfl
  rintro e w' ⟨v',rfl,ho,_,hB⟩
  have hE : Ext w w':=⟨hB.os,hB.tape,hB.output,hB.size,hB.block⟩
  rw [List.take_length] at ho
  exact ⟨_,rfl,h _ _ (S.take hE ho)⟩
end Go.Proofs
end
section
namespace Go.Proofs.Tryz
open Go.Sh
set_option maxRecDepth 100000
def Jk (t0 t1 t2 t3 t4 : Value) (w : World) (K : VW) : Prop:=
 pw w (Instr.box 25 t0) fun t5 w1=>
 lo w1 25 t5 fun t23=>ca Zd #[t23,t1] w1 fun t25 w2=>
 pe t25 0 fun t26=>pe t25 1 fun t27=>bt .neq 29 t27 (i6 0) fun t29=>za (fun K3=>gIf t29 false (pw w2 (Instr.buildSlice 28 2 #[(0,t2),(1,t3)]) fun t34 w7=>
 ca xo #[t26,t34] w7 fun t35 w8=>
 pp (Op.unary .not t35) fun t36=>K3 [t36] w8) (K3 [undef] w2)) (fun s4 _d5 w6=>
 zb t29 tr_ (s4.getD 0 undef) fun t37=>za (fun K9=>gIf t37 false (ca xo #[t26,t4] w6 fun t41 w13=>
 pp (Op.unary .not t41) fun t42=>K9 [t42] w13) (K9 [undef] w6)) (fun s10 _d11 w12=>
 zb t37 tr_ (s10.getD 0 undef) fun t43=>zc t43 (K (.tuple #[(Value.slice Option.none 0 0),fa_,(i6 2)]) w12) (pw w12 (Instr.makeMap 114 none) fun t44 w14=>
 pw w14 (Instr.buildSlice 28 1 #[(0,t2)]) fun t47 w15=>
 pu w15 (Instr.mapUpdate 114 t44 t2 t47) fun w16=>pw w16 (Instr.buildSlice 28 1 #[(0,t2)]) fun t50 w17=>
 zr [t50] w17 (fun s19 _d20 w21 K18=>
 pp (Builtin.len_ #[28] 3 #[(s19.getD 0 undef)]) fun t52=>bt .gtr 3 t52 (i6 0) fun t53=>za (fun K22=>gIf t53 true (pq w21 (Instr.lookup 114 t44 t3 false) fun t57=>bt .eql 28 t57 (Value.slice Option.none 0 0) fun t58=>K22 [t58] w21) (K22 [undef] w21)) (fun s23 _d24 w25=>
 zb t53 (s23.getD 0 undef) fa_ fun t59=>zc t59 (pp (Builtin.len_ #[28] 3 #[(s19.getD 0 undef)]) fun t61=>zr [(Value.slice Option.none 0 0),(i6 0)] w25 (fun s27 _d28 w29 K26=>
 bf .lss 3 (s27.getD 1 undef) t61 fun t63=>zc t63 (za (fun K30=>
 xl w29 28 (s19.getD 0 undef) (s27.getD 1 undef) 3 fun t65=>bf .neq 3 t65 t2 fun t68=>za (fun K34=>gIf t68 true (ca yk #[t4,t65] w29 fun t72 w38=>
 K34 [t72] w38) (K34 [undef] w29)) (fun s35 _d36 w37=>
 zb t68 (s35.getD 0 undef) fa_ fun t73=>zc t73 (K30 [(s27.getD 0 undef)] w37) (xl w37 98 t26 t65 28 fun t77=>ca xe #[t77] w37 fun t78 w39=>
 ca xm #[t78] w39 fun _t80 w40=>
 pp (Builtin.len_ #[28] 3 #[t78]) fun t82=>zr [(s27.getD 0 undef),(i6 0)] w40 (fun s42 _d43 w44 K41=>
 bf .lss 3 (s42.getD 1 undef) t82 fun t84=>zc t84 (za (fun K45=>
 xl w44 28 t78 (s42.getD 1 undef) 3 fun t86=>pq w44 (Instr.lookup 114 t44 t86 false) fun t89=>bt .eql 28 t89 (Value.slice Option.none 0 0) fun t90=>zc t90 (pq w44 (Instr.lookup 114 t44 t65 false) fun t95=>ca xe #[t95] w44 fun t96 w49=>
 pw w49 (Instr.buildSlice 28 1 #[(0,t86)]) fun t98 w50=>
 pw w50 (Builtin.append_ #[28,28] 28 #[t96,t98]) fun t99 w51=>
 pu w51 (Instr.mapUpdate 114 t44 t86 t99) fun w52=>pw w52 (Instr.buildSlice 28 1 #[(0,t86)]) fun t102 w53=>
 pw w53 (Builtin.append_ #[28,28] 28 #[(s42.getD 0 undef),t102]) fun t103 w54=>
 K45 [t103] w54) (K45 [(s42.getD 0 undef)] w44)) (fun s46 _d47 w48=>
 bt .add 3 (s42.getD 1 undef) (i6 1) fun t104=>K41 [(s46.getD 0 undef),t104] w48)) (K30 [(s42.getD 0 undef)] w44))))) (fun s31 _d32 w33=>
 bt .add 3 (s27.getD 1 undef) (i6 1) fun t105=>K26 [(s31.getD 0 undef),t105] w33)) (K18 [(s27.getD 0 undef)] w29))) (pq w25.drew (Instr.lookup 114 t44 t3 false) fun t109=>pq w25.drew (Instr.lookup 114 t44 t3 false) fun t112=>bt .neq 28 t112 (Value.slice Option.none 0 0) fun t113=>K (.tuple #[t109,t113,(i6 0)]) w25.drew))))))
theorem abI {t0 t1 t2 t3 t4 : Value} {w : World} {K : VW} (h : Jk t0 t1 t2 t3 t4 w K) : zd prog Yb #[t0,t1,t2,t3,t4] w K:=
 okC false (.s (.r (rz 4 0 2)) (.s (.r (rz 8 0 33)) (.s (.s (.r (ra 3 0 0 (.grp 30 false (ri 6 3 640) [36] (ra 2 9 0 (.grp 38 false (ri 4 11 32) [42] (rz 1 15 0)))))) (.c (.s (.r (rz 3 0 0)) (.n)) (.n))) (.s (.r (rz 7 0 642)) (.s (.r (rz 3 0 8)) (.s (.b (.lp [15] (.s (.s (.r (ra 4 0 0 (.grp 54 true (ri 4 4 16) [58] (rz 1 8 0)))) (.c (.n) (.n))) (.b (.s (.r (rz 1 0 0)) (.s (.s (.r (rz 3 0 0)) (.b (.lp [16,62] (.s (.r (rz 1 0 0)) (.s (.c (.n) (.n)) (.j [16] (.b (.s (.r (rz 3 0 4)) (.s (.s (.r (ra 4 0 0 (.grp 69 true (ri 3 4 32) [72] (rz 1 7 0)))) (.c (.n) (.n))) (.s (.r (rz 6 0 576)) (.s (.r (rz 2 0 8)) (.s (.r (rz 3 0 0)) (.b (.lp [16,83] (.s (.r (rz 1 0 0)) (.s (.c (.n) (.n)) (.j [16] (.b (.s (.r (rz 3 0 4)) (.s (.r (rz 4 0 16)) (.c (.s (.r (rz 10 0 690432)) (.r (rz 5 0 160))) (.n))))) (.r (rz 2 0 0))))))))))))) (.r (rz 2 0 0)))))))) (.r (rz 2 0 0)))))))) (.s (.r (rz 10 0 1040)) (.n)))))))) func29 rfl (by kernel_rfl) (by kernel_rfl) h
def Vu (t0 t1 t2 : Value) (w : World) (K : VW) : Prop:=
 pw w (Instr.box 25 t0) fun t3 w1=>
 lo w1 25 t3 fun t13=>ca Zd #[t13,t1] w1 fun t15 w2=>
 pe t15 0 fun t16=>pe t15 1 fun t17=>bt .neq 29 t17 (i6 0) fun t19=>zc t19 (K (.tuple #[(i6 0),fa_,t17]) w2) (pp (Builtin.len_ #[28] 3 #[t2]) fun t22=>zr [(i6 0)] w2 (fun s4 _d5 w6 K3=>
 bf .lss 3 (s4.getD 0 undef) t22 fun t24=>zc t24 (xl w6 28 t2 (s4.getD 0 undef) 3 fun t27=>pw w6 (Instr.buildSlice 28 1 #[(0,t27)]) fun t30 w7=>
 ca xo #[t16,t30] w7 fun t31 w8=>
 pp (Op.unary .not t31) fun t32=>za (fun K9=>gIf t32 false (bt .gtr 3 (s4.getD 0 undef) (i6 0) fun t35=>K9 [t35] w8) (K9 [undef] w8)) (fun s10 _d11 w12=>
 za (fun K13=>gIf (s10.getD 0 undef) true (bt .sub 3 (s4.getD 0 undef) (i6 1) fun t40=>xl w12 28 t2 t40 3 fun t42=>xl w12 98 t16 t42 28 fun t44=>ca yk #[t44,t27] w12 fun t46 w17=>
 pp (Op.unary .not t46) fun t47=>K13 [t47] w17) (K13 [undef] w12)) (fun s14 _d15 w16=>
 za (fun K18=>gIf t32 false (zb (s10.getD 0 undef) (s14.getD 0 undef) fa_ fun t48=>K18 [t48] w16) (K18 [undef] w16)) (fun s19 _d20 w21=>
 zb t32 tr_ (s19.getD 0 undef) fun t49=>zc t49 (K (.tuple #[(s4.getD 0 undef),fa_,(i6 0)]) w21) (bt .add 3 (s4.getD 0 undef) (i6 1) fun t51=>K3 [t51] w21))))) (pp (Builtin.len_ #[28] 3 #[t2]) fun t53=>bt .gtr 3 t53 (i6 0) fun t54=>K (.tuple #[(i6 0),t54,(i6 0)]) w6)))
theorem acU {t0 t1 t2 : Value} {w : World} {K : VW} (h : Vu t0 t1 t2 w K) : zd prog YW #[t0,t1,t2] w K:=
 okC false (.s (.r (rz 4 0 2)) (.s (.r (rz 8 0 33)) (.s (.s (.r (rz 2 0 0)) (.c (.s (.r (rz 4 0 0)) (.n)) (.n))) (.s (.s (.r (rz 3 0 0)) (.b (.lp [23] (.s (.r (rz 1 0 0)) (.s (.c (.n) (.n)) (.s (.b (.s (.r (rz 5 0 16)) (.s (.r (ra 6 0 160 (.grp 33 false (ri 3 6 0) [36] (.grp 36 true (ri 11 9 541696) [47] (.grp 33 false (ri 1 20 0) [48] (rz 1 21 0)))))) (.c (.s (.r (rz 4 0 0)) (.n)) (.n))))) (.r (rz 2 0 0)))))))) (.s (.r (rz 6 0 0)) (.n)))))) func30 rfl (by kernel_rfl) (by kernel_rfl) h
def Vv (t0 t1 : Value) (w : World) (K : VW) : Prop:=
 pw w (Instr.box 25 t0) fun t2 w1=>
 bt .lss 3 t1 (i6 0) fun t10=>za (fun K2=>gIf t10 false (fl w1 t2 25 1 23 fun t14=>pp (Builtin.len_ #[23] 3 #[t14]) fun t15=>bf .geq 3 t1 t15 fun t16=>K2 [t16] w1) (K2 [undef] w1)) (fun s3 _d4 w5=>
 zb t10 tr_ (s3.getD 0 undef) fun t17=>za (fun K6=>gIf t17 false (lo w5 25 t2 fun t19=>ca kQ #[t19] w5 fun t20 w10=>
 pp (Op.unary .not t20) fun t21=>K6 [t21] w10) (K6 [undef] w5)) (fun s7 _d8 w9=>
 zb t17 tr_ (s7.getD 0 undef) fun t22=>zc t22 (K (.tuple #[(Value.slice Option.none 0 0),(i6 2)]) w9) (fl w9 t2 25 1 23 fun t24=>px 23 t24 t1 fun t26=>fl w9 t26 38 6 36 fun t28=>pp (Builtin.len_ #[36] 3 #[t28]) fun t29=>zr [(Value.slice Option.none 0 0),(i6 0)] w9 (fun s12 _d13 w14 K11=>
 bf .lss 3 (s12.getD 1 undef) t29 fun t31=>zc t31 (za (fun K15=>
 xl w14 36 t28 (s12.getD 1 undef) 87 fun t33=>pw w14 (Instr.alloc 87 true (.tuple #[])) fun t8 w19=>
 so w19 87 t8 t33 fun w20=>fl w20 t8 87 0 78 fun t42=>bt .eql 78 t42 (Value.int .u8 14) fun t43=>zc t43 (pw w20 (Instr.buildSlice 98 1 #[(0,(Value.slice Option.none 0 0))]) fun t45 w21=>
 pw w21 (Builtin.append_ #[98,98] 98 #[(s12.getD 0 undef),t45]) fun t46 w22=>
 K15 [t46] w22) (fl w20 t8 87 0 78 fun t49=>bt .eql 78 t49 (Value.int .u8 12) fun t50=>za (fun K23=>gIf t50 true (fl w20 t8 87 11 3 fun t53=>fl w20 t8 87 10 3 fun t55=>bf .neq 3 t53 t55 fun t56=>K23 [t56] w20) (K23 [undef] w20)) (fun s24 _d25 w26=>
 zb t50 (s24.getD 0 undef) fa_ fun t57=>zc t57 (fl w26 t8 87 10 3 fun t60=>fl w26 t8 87 11 3 fun t62=>pw w26 (Instr.buildSlice 28 2 #[(0,t60),(1,t62)]) fun t63 w27=>
 pw w27 (Instr.buildSlice 98 1 #[(0,t63)]) fun t64 w28=>
 pw w28 (Builtin.append_ #[98,98] 98 #[(s12.getD 0 undef),t64]) fun t65 w29=>
 K15 [t65] w29) (fl w26 t8 87 10 3 fun t36=>pw w26 (Instr.buildSlice 28 1 #[(0,t36)]) fun t37 w30=>
 pw w30 (Instr.buildSlice 98 1 #[(0,t37)]) fun t38 w31=>
 pw w31 (Builtin.append_ #[98,98] 98 #[(s12.getD 0 undef),t38]) fun t39 w32=>
 K15 [t39] w32)))) (fun s16 _d17 w18=>
 bt .add 3 (s12.getD 1 undef) (i6 1) fun t66=>K11 [(s16.getD 0 undef),t66] w18)) (K (.tuple #[(s12.getD 0 undef),(i6 0)]) w14)))))
theorem acV {t0 t1 : Value} {w : World} {K : VW} (h : Vv t0 t1 w K) : zd prog Zd #[t0,t1] w K:=
 okC false (.s (.r (rz 3 0 2)) (.s (.s (.r (ra 3 0 0 (.grp 11 false (ri 5 3 16) [16] (ra 2 8 0 (.grp 18 false (ri 3 10 9) [21] (rz 1 13 0)))))) (.c (.s (.r (rz 2 0 0)) (.n)) (.n))) (.s (.r (rz 1 0 0)) (.s (.s (.r (rz 8 0 1028)) (.b (.lp [6,30] (.s (.r (rz 1 0 0)) (.s (.c (.n) (.n)) (.j [6] (.b (.s (.r (rz 4 0 164)) (.b (.s (.r (rz 4 0 4)) (.c (.r (rz 4 0 40)) (.s (.r (ra 4 0 4 (.grp 51 true (ri 5 4 68) [56] (rz 2 9 0)))) (.c (.r (rz 9 0 43280)) (.r (rz 7 0 2704))))))))) (.r (rz 2 0 0)))))))) (.s (.r (rz 3 0 0)) (.n)))))) func55 rfl (by kernel_rfl) (by kernel_rfl) h
def Z3 (t0 t1 : Value) (w : World) (K : VW) : Prop:=
 pw w (Instr.box 98 t0) fun t2 w1=>
 pp (Instr.makeFunc (.func 96) #[] #[t2]) fun t6=>ca zE #[t1,t6] w1 fun t7 w2=>
 pp (Op.unary .not t7) fun t8=>K t8 w2
theorem Jl {t0 t1 : Value} {w : World} {K : VW} (h : Z3 t0 t1 w K) : zd prog xo #[t0,t1] w K:=
 okC false (.s (.r (rz 2 0 2)) (.s (.r (rz 5 0 32)) (.n))) func56 rfl (by kernel_rfl) (by kernel_rfl) h
def vM (t0 t1 : Value) (w : World) (K : VW) : Prop:=
 bt .lss 3 t0 (i6 0) fun t5=>za (fun K1=>gIf t5 false (lo w 98 t1 fun t8=>pp (Builtin.len_ #[98] 3 #[t8]) fun t9=>bf .geq 3 t0 t9 fun t10=>K1 [t10] w) (K1 [undef] w)) (fun s2 _d3 w4=>
 zb t5 tr_ (s2.getD 0 undef) fun t11=>K t11 w4)
theorem XO {t0 t1 : Value} {w : World} {K : VW} (h : vM t0 t1 w K) : zd prog Ql #[t0,t1] w K:=
 okC false (.s (.r (rz 1 0 0)) (.s (.r (ra 3 0 0 (.grp 6 false (ri 4 3 4) [10] (rz 2 7 0)))) (.n))) func96 rfl (by kernel_rfl) (by kernel_rfl) h
end Go.Proofs.Tryz
end
section
namespace Go.Proofs
open Go.Sh Go.RowKit
set_option maxRecDepth 100000
set_option linter.unusedSimpArgs false
set_option linter.unusedVariables false
theorem Z4 {r : Gh} {p : Option Addr} {k cap : Nat} {n : zs} (h : NetG r (.slice p k cap) n) {i : Nat} (hi : i<n.length) : ∃ b off v,p=some ⟨b,off,none⟩∧k=n.length∧(Ob r fun w=>w.cell? ⟨b,off+i,none⟩=some v)∧SlB 1 r zO v n[i]:=by
 obtain ⟨p',cap',e,_,_⟩:=h.sl.shape
 obtain ⟨b,off,c,hE,hc,hcc,hcl⟩:=h.sl.get (by decide) hi
 obtain ⟨v,rfl,hv⟩:=hcc
 cases e
 cases hE
 refine ⟨b,off,v,rfl,rfl,?_,hv⟩
 have:=hcl 0 _ rfl
 rwa [show off+i*1+0=off+i by omega] at this
theorem acW {n : zs} {l : List Int} {v u : Value} {w : World} {r : Gh} {K : Value→World→Prop} (hr : Holds r w) (hn : NetG r v n) (hl : SlG 1 r zO u l) (hf : l.length≤1000000)
  (h : ∀ w',Ext w w'→K (.bool (decide (∀ x ∈ l,isN n x))) w') : zd Tryz.prog Tryz.xo #[v,u] w K:=by
 refine Tryz.Jl ?_
 unfold Tryz.Z3
 obtain ⟨p,cap,rfl,_,_⟩:=hn.sl.shape
 obtain ⟨q,cap',rfl,_,_⟩:=hl.shape
 have S:=St.start hr
 refine S.box fun b2 w1 S=>?_
 have S : StX noX w r w1 [.cell b2 [.slice p n.length cap] 98]:=S
 refine gp_ ?_
 have hsl : Sl w1 q (ints l):=fun i v hv=>by
  have hi : i<l.length:=by
   have:=(List.getElem?_eq_some_iff.1 hv).1
   rwa [kk] at this
  obtain ⟨b,off,rfl,_,hc⟩:=zI hl hi
  rw [ints,List.getElem?_map,List.getElem?_eq_getElem hi] at hv
  cases hv
  exact ⟨b,off,rfl,S.at hc⟩
 refine qN (f:=fun x=>!decide (isN n x)) (fun x K hK=>?_) hsl (by omega) ?_
 ·refine Ye (by kernel_rfl) ?_
  refine Tryz.XO ?_
  unfold Tryz.vM
  refine gg_ ?_
  refine zi (c:=decide ((n.length : Int)≤x)) (fun _ K2 hK2=>by refine gg_ ?_;exact hK2) ?_
  have e : (decide (x<0)||decide ((n.length : Int)≤x)) = !decide (isN n x):=by
   by_cases hx : isN n x
   ·have h1:=hx.1;have h2:=hx.2
    rw [decide_eq_true hx,decide_eq_false (by omega),decide_eq_false (by omega)];rfl
   ·rw [decide_eq_false hx]
    by_cases h1 : x<0
    ·rw [decide_eq_true h1];rfl
    ·have h2 : (n.length : Int)≤x:=by
      refine Int.not_lt.1 fun h2=>hx ⟨by omega,h2⟩
     rw [decide_eq_true h2,Bool.or_true];rfl
  rw [e];exact hK
 refine gp_ ?_
 have:=h _ S.ext
 have e : (decide (∀ x ∈ l,isN n x)) = !(l.any fun x=>!decide (isN n x)):=by
  rw [Bool.eq_iff_iff]
  simp
 rwa [e] at this
theorem Yo {m : List Bool} {i : Nat} (hi : i<m.length) : mkd (m.take (i+1))=mkd (m.take i)++(if m[i]=true then [(i : Int)] else []):=by
 have hl : (m.take (i+1)).length=i+1:=by rw [List.length_take];omega
 have hl' : (m.take i).length=i:=by rw [List.length_take];omega
 rw [mkd,mkd,hl,hl',List.range_succ,List.filter_append,List.map_append]
 congr 1
 ·congr 1
  refine List.filter_congr fun x hx=>?_
  have:=List.mem_range.1 hx
  rw [List.getD_eq_getElem?_getD,List.getD_eq_getElem?_getD,List.getElem?_take,List.getElem?_take,if_pos (by omega),if_pos this]
 ·have e : (m.take (i+1)).getD i false=m[i]:=by
   rw [List.getD_eq_getElem?_getD,List.getElem?_take,if_pos (by omega),List.getElem?_eq_getElem hi];rfl
  cases hm : m[i] with
  |true=>rw [List.filter_cons_of_pos (by rw [e,hm])];simp
  |false=>rw [List.filter_cons_of_neg (by rw [e,hm];simp)];simp
theorem xB {l : List Int} {x : Int} : ints (l ++ [x])=ints l ++ [.int .i64 x]:=by simp [ints]
end Go.Proofs
end
section
namespace Go.Proofs
open Go.Sh Go.RowKit
set_option maxRecDepth 100000
set_option linter.unusedSimpArgs false
set_option linter.unusedVariables false
set_option maxHeartbeats 1000000 in
theorem Vx {u : UnD} {n : Int} {v : Value} {w : World} {r : Gh} {K : Value→World→Prop} (hr : Holds r w) (hu : UnG r v u)
  (h : ∀ v' s w',Ext w w'→New w s w'→(fnE u n=0→∃ hn : n.toNat<u.fs.length,NetG s v' (ze u.fs[n.toNat]))→K (.tuple #[v',.int .i64 (fnE u n)]) w') : zd Tryz.prog Tryz.Zd #[v,.int .i64 n] w K:=by
 refine Tryz.acV ?_
 unfold Tryz.Vv
 have hu0:=hu
 obtain ⟨p0,cap0,vf,rfl,_,_,hst,hsl,hfn⟩:=hu
 obtain ⟨qf,capf,rfl,_,_⟩:=hfn.sl.shape
 have S:=St.start hr
 refine S.box fun b2 w1 S=>?_
 have S : StX noX w r w1 [.cell b2 [.slice p0 u.ss.length cap0,.slice qf u.fs.length capf,.int .i64 u.mn] 25]:=S
 refine gp_ ?_
 refine zi (c:=decide ((u.fs.length : Int)≤n)) (fun _ K2 hK2=>by refine gg_ ?_;exact hK2) ?_
 refine xk (c:=!Qw u) (fun _ K2 hK2=>?_) fun w5 e5=>?_
 ·refine S.ldB (b:=b2) ?_ rfl
  refine ZH S.holds hu0 fun w5 e5=>?_
  refine gp_ ?_
  exact hK2 _ e5
 have S:=S.go e5
 refine c_b (fun hbad=>?_) (fun hgood=>?_)
 ·have hE : fnE u n=2:=by rw [fnE,if_pos hbad]
  rw [hE] at h
  exact h _ nothing _ S.ext New.nothing (fun h=>by cases h)
 have hE : fnE u n=0:=by rw [fnE,if_neg (by rw [hgood];simp)]
 rw [hE] at h
 obtain ⟨hM,hn0,hlt⟩:=ZZ hE
 simp only [Bool.or_eq_false_iff,decide_eq_false_iff_not,Bool.not_eq_false'] at hgood
 obtain ⟨⟨_,hn1⟩,_⟩:=hgood
 obtain ⟨bf,of,cf,hqE,hcf,hgc,hfo⟩:=hfn.sl.get (by decide) hlt
 cases hqE
 have hp24:=(hM.hd hlt).pt1024
 generalize hg : u.fs[n.toNat]=g at hgc hp24
 obtain ⟨x1,x2,x3,x4,y1,y2,y3,y4,rfl,hg0⟩:=Z0 hgc
 obtain ⟨_,_,_,_,hEE,m1,m2,m3,m4⟩:=id hg0
 cases hEE
 refine gg_ ?_
 refine zf (S.at (hfo 6 _ rfl)) ?_
 refine gg_ ?_
 have S:=S.ownNil 28 1
 refine zk (ι:=Nat × Value × Gh × List Value) (fun i=>[i.2.1,.int .i64 (i.1 : Nat)])
  (fun i w'=>i.1≤g.pts.length∧Above w i.2.2.1∧RowOf 1 (RowC i.2.2.1) i.2.2.2 ((ze g).take i.1)∧StX noX w (r.or i.2.2.1) w' [.row i.2.1 28 1 i.1 i.2.2.2,.cell b2 [.slice p0 u.ss.length cap0,.slice (some ⟨bf,of,none⟩) u.fs.length capf,.int .i64 u.mn] 25])
  (fun i=>g.pts.length - i.1) (0,.slice none 0 0,nothing,[]) rfl ⟨Nat.zero_le _,Above.no,by simpa using RowOf.nil,S.to _⟩ ?_
 repeat clear S
 rintro ⟨i,vr,s,xs⟩ d w6 ⟨hi,ha,hR,S⟩ K11 hK11
 simp only at hi ha hR S ⊢
 simp only [List.getD_cons_zero,List.getD_cons_succ]
 refine gg_ ?_
 refine zm (fun hlt2=>?_) (fun hge=>?_)
 ·have hlt2 : i<g.pts.length:=by omega
  have hil : i<(ze g).length:=by rw [zQ];exact hlt2
  obtain ⟨bp,op,cp,hqp,hcp,hpc,hpo⟩:=m4.sl.get (by decide) hlt2
  cases hqp
  have hni : (ze g)[i]=yv g.pts[i]:=by simp [ze]
  have htk : (ze g).take (i+1)=(ze g).take i ++ [yv g.pts[i]]:=by rw [List.take_succ_eq_append_getElem hil,hni]
  generalize g.pts[i]=p at hpc htk
  obtain ⟨z1,z2,z3,z4,z5,t1,t2,t3,t4,t5,rfl,hp0⟩:=qW hpc
  refine zq (fun x w'=>∃ vq s' xs',x = [vq]∧Above w s'∧RowOf 1 (RowC s') xs' ((ze g).take (i+1))∧StX noX w (r.or s') w' [.row vq 28 1 (i+1) xs',.cell b2 [.slice p0 u.ss.length cap0,.slice (some ⟨bf,of,none⟩) u.fs.length capf,.int .i64 u.mn] 25]) (fun K15 hK15=>?_) ?_
  ·refine gg_ ?_
   refine zF (n:=21) hcp (fun j v hj=>by rw [Int.toNat_natCast];exact S.at (hpo j v hj)) ?_
   refine S.al fun b8 w7 S=>?_
   refine S.stB (b:=b8) fun w8 S=>?_
   have S : StX noX w (r.or s) w8 [.cell b8 (ptL p z1 z2 z3 z4 z5 t1 t2 t3 t4 t5) 87,.row vr 28 1 i xs,.cell b2 [.slice p0 u.ss.length cap0,.slice (some ⟨bf,of,none⟩) u.fs.length capf,.int .i64 u.mn] 25]:=S
   refine gg_ ?_
   refine zm (fun h14=>?_) (fun h14=>?_)
   ·have hnp : yv p = []:=by rw [yv,if_pos h14]
    have S:=S.drop b8
    refine S.lit (e:=28) (cs:=[.slice none 0 0]) (by kernel_rfl) fun b9 w9 S=>?_
    refine S.ap (v:=vr) (m':=1) (Sl.blk (S.blk b9)) (fun v4 w10 S=>?_) (by omega)
    refine hK15 _ _ ⟨v4,s,xs ++ [.slice none 0 0],rfl,ha,?_,S.drop b9⟩
    rw [htk,hnp]
    exact hR.snoc rfl ⟨_,rfl,SlG.nil,Nat.zero_le _⟩
   ·refine gg_ ?_
    refine zh (c:=decide (p.el≠p.nx)) (fun _ K2 hK2=>by refine gg_ ?_;exact hK2) ?_
    refine c_b (fun hc=>?_) (fun hc=>?_)
    ·simp only [Bool.and_eq_true,decide_eq_true_eq] at hc
     have hnp : yv p = [p.nx,p.el]:=by rw [yv,if_neg h14,if_pos ⟨hc.1,fun e=>hc.2 e.symm⟩]
     refine gg_ ?_
     have S:=S.drop b8
     refine S.lit (e:=3) (cs:=[.int .i64 p.nx,.int .i64 p.el]) (by kernel_rfl) fun b9 w9 S=>?_
     obtain ⟨S,hs,hb9⟩:=S.litNew b9 (sz:=1) (R:=zO) (l:=[p.nx,p.el]) (yf (c:=[.int .i64 p.nx]) rfl rfl (zZ rfl rfl)) (by decide)
     refine S.lit (e:=28) (cs:=[.slice (some ⟨b9,0,none⟩) 2 2]) (by kernel_rfl) fun b10 w10 S=>?_
     refine S.ap (v:=vr) (m':=1) (Sl.blk (S.blk b10)) (fun v4 w11 S=>?_) (by omega)
     refine hK15 _ _ ⟨v4,s.or (Go.Sh.one b9 [.int .i64 p.nx,.int .i64 p.el] 3),_,rfl,ha.or' hb9,?_,(S.drop b10).reGh⟩
     rw [htk,hnp]
     exact (hR.mono fun _ _ h=>RowC.up h).snoc rfl ⟨_,rfl,(show SlG 1 (Go.Sh.one b9 [.int .i64 p.nx,.int .i64 p.el] 3) zO _ _ from hs).cells,show (2 : Nat)≤maxLen by decide⟩
    ·have hnp : yv p = [p.nx]:=by
      simp only [Bool.and_eq_false_iff,decide_eq_false_iff_not] at hc
      rw [yv,if_neg h14,if_neg (by rintro ⟨h1,h2⟩;rcases hc with hc|hc;exact hc h1;exact hc fun e=>h2 e.symm)]
     refine gg_ ?_
     have S:=S.drop b8
     refine S.lit (e:=3) (cs:=[.int .i64 p.nx]) (by kernel_rfl) fun b9 w9 S=>?_
     obtain ⟨S,hs,hb9⟩:=S.litNew b9 (sz:=1) (R:=zO) (l:=[p.nx]) (zZ rfl rfl) (by decide)
     refine S.lit (e:=28) (cs:=[.slice (some ⟨b9,0,none⟩) 1 1]) (by kernel_rfl) fun b10 w10 S=>?_
     refine S.ap (v:=vr) (m':=1) (Sl.blk (S.blk b10)) (fun v4 w11 S=>?_) (by omega)
     refine hK15 _ _ ⟨v4,s.or (Go.Sh.one b9 [.int .i64 p.nx] 3),_,rfl,ha.or' hb9,?_,(S.drop b10).reGh⟩
     rw [htk,hnp]
     exact (hR.mono fun _ _ h=>RowC.up h).snoc rfl ⟨_,rfl,hs.cells,show (1 : Nat)≤maxLen by decide⟩
  rintro x w9 ⟨vq,s',xs',rfl,ha',hR',S⟩ d
  simp only [List.getD_cons_zero]
  refine gp_ ?_
  exact hK11 (i+1,vq,s',xs') _ ⟨hlt2,ha',hR',S⟩ (by show g.pts.length - (i+1)<g.pts.length - i;omega)
 have hie : i=g.pts.length:=by omega
 subst hie
 rw [← zQ,List.take_length] at hR
 rw [← zQ] at S
 obtain ⟨s2,T,hs,_,hab⟩:=S.doneRow hR (by decide) rfl
 refine h _ (s.or s2) _ T.ext (StX.newOf (q:=s.or s2) T.reGh (ha.or' fun b o ho=>(hab b o ho).resolve_right id)) fun _=>⟨hlt,?_⟩
 rw [hg]
 exact ⟨hs.up' inferInstance fun _ _ h=>RowC.up h,by rw [zQ];exact Nat.le_trans hp24 (by decide)⟩
theorem agk {m : List Bool} {q : Int} (h : 0≤q) : (bls m).set (0+q.toNat) (.bool true)=bls (xt m q):=by
 rw [Nat.zero_add,bls,bls,xt,List.map_set]
theorem ag3 {m : List Bool} {q : Int} (h : q.toNat<m.length) : (bls m)[0+q.toNat]? = some (.bool (mk' m q)):=by
 rw [Nat.zero_add,bls,List.getElem?_map,mk',List.getD_eq_getElem?_getD,List.getElem?_eq_getElem h];rfl
theorem agl {k : Nat} : List.replicate k (Value.bool false)=bls (List.replicate k false):=by simp [bls]
end Go.Proofs
end
section
namespace Go.Proofs
open Go.Sh Go.RowKit
set_option maxRecDepth 100000
set_option linter.unusedSimpArgs false
set_option linter.unusedVariables false
def ahQ (n : zs) : Prop:=∀ l ∈ n,l.length≤2
theorem Yp {l : List (Int × Int)} {p : Int × Int} : ky (l ++ [p])=ky l ++ [.int .i64 p.1,.int .i64 p.2]:=by rw [aaB];rfl
end Go.Proofs
end
section
namespace Go.Sh
end Go.Sh
namespace Go.Proofs
open Go.Sh Go.RowKit
set_option maxRecDepth 100000
set_option linter.unusedSimpArgs false
set_option linter.unusedVariables false
end Go.Proofs
end
section
namespace Go.Proofs
open Go.Sh Go.RowKit
set_option maxRecDepth 100000
set_option linter.unusedSimpArgs false
set_option linter.unusedVariables false
end Go.Proofs
end
section
namespace Go.Proofs
open Go.Sh Go.RowKit
set_option maxRecDepth 100000
set_option linter.unusedSimpArgs false
set_option linter.unusedVariables false
def netU (u : UnD) (n : Int) : zs:=match u.fs[n.toNat]? with|some g=>ze g|none=>[]
noncomputable def okQ (u : UnD) (n q : Int) : Bool:=!(decide (fnE u n≠0) || !decide (isN (netU u n) q))
theorem agm {u : UnD} {n : Int} (h : fnE u n≠0) : fnE u n=2:=by
 rw [fnE] at h ⊢
 split
 ·rfl
 ·rename_i hc;rw [if_neg hc] at h;exact absurd rfl h
structure afe (n : zs) : Prop where
 ok : yw n
 nd : ∀ q,(nxt n q).Nodup
 nar : ahQ n
 pos : 0<n.length
 few : n.length≤1024
theorem xJ {u : UnD} {n : Int} (h : fnE u n=0) : ∃ hlt : n.toNat<u.fs.length,netU u n=ze u.fs[n.toNat]∧afe (netU u n):=by
 obtain ⟨hM,hn0,hlt⟩:=ZZ h
 have e : netU u n=ze u.fs[n.toNat]:=by rw [netU,List.getElem?_eq_getElem hlt]
 refine ⟨hlt,e,?_⟩
 rw [e]
 obtain ⟨h1,h2⟩:=ae0 hM hlt
 exact ⟨agc hM (List.getElem_mem hlt),fun q=>acP,fun l hl=>by obtain ⟨p,_,rfl⟩:=List.mem_map.1 hl;exact ad0,h1,h2⟩
end Go.Proofs
end
section
namespace Go.Proofs
open Go.Sh
set_option maxRecDepth 100000
abbrev Tryz.xC : FuncId:=73
instance {x0_0 : Value} {x0_1 : Value} {x0_2 : Value} {x0_3 : Value} {x0_4 : Value} {x0_5 : Value} {x0_6 : Value} : PStep Tryz.prog (Instr.build 129 #[(0,.agg #[x0_0,x0_1,x0_2,x0_3,x0_4,x0_5,x0_6])]) (.agg #[x0_0,x0_1,x0_2,x0_3,x0_4,x0_5,x0_6,(.slice none 0 0)]):=.of fun _ k=>zu (by kernel_rfl) k
instance : zx Tryz.prog 129 0 0:=⟨by kernel_rfl⟩
instance : zx Tryz.prog 129 1 7:=⟨by kernel_rfl⟩
abbrev Tryz.yo : FuncId:=76
abbrev Tryz.kF : FuncId:=110
abbrev Tryz.yT : FuncId:=77
abbrev Tryz.yU : FuncId:=85
abbrev Tryz.Xj : FuncId:=112
instance : Ld1 Tryz.prog 118:=⟨by kernel_rfl⟩
instance : SzT Tryz.prog 118 1:=⟨by kernel_rfl⟩
abbrev Tryz.yV : FuncId:=80
abbrev Tryz.xK : FuncId:=74
instance : ZrT Tryz.prog 67 [(.slice none 0 0)]:=⟨by kernel_rfl⟩
instance : Ld1 Tryz.prog 157:=⟨by kernel_rfl⟩
instance : SzT Tryz.prog 157 1:=⟨by kernel_rfl⟩
instance : SlT Tryz.prog 157 159 2:=⟨by kernel_rfl⟩
instance : LdN Tryz.prog 159 2:=⟨by kernel_rfl⟩
instance : SzT Tryz.prog 159 2:=⟨by kernel_rfl⟩
instance : ZrT Tryz.prog 157 [(.slice none 0 0)]:=⟨by kernel_rfl⟩
instance : Ld1 Tryz.prog 160:=⟨by kernel_rfl⟩
instance : SzT Tryz.prog 160 1:=⟨by kernel_rfl⟩
instance : ZrT Tryz.prog 160 [.nilFunc]:=⟨by kernel_rfl⟩
instance : ZrT Tryz.prog 159 [(.int .i64 0),(.int .i64 0)]:=⟨by kernel_rfl⟩
instance : zx Tryz.prog 159 0 0:=⟨by kernel_rfl⟩
instance : zx Tryz.prog 159 1 1:=⟨by kernel_rfl⟩
abbrev Tryz.zw : FuncId:=108
instance : ApT Tryz.prog 157 159 2 16:=⟨by kernel_rfl⟩
abbrev Tryz.Xk : FuncId:=109
abbrev Tryz.Zt : FuncId:=36
instance : LdN Tryz.prog 72 2:=⟨by kernel_rfl⟩
instance : SzT Tryz.prog 72 2:=⟨by kernel_rfl⟩
instance : ZrT Tryz.prog 72 [(.int .i64 0),(.slice none 0 0)]:=⟨by kernel_rfl⟩
instance : zx Tryz.prog 72 1 1:=⟨by kernel_rfl⟩
instance : Ld1 Tryz.prog 70:=⟨by kernel_rfl⟩
instance : SlT Tryz.prog 70 76 1:=⟨by kernel_rfl⟩
instance : SlT Tryz.prog 63 72 2:=⟨by kernel_rfl⟩
instance : ApT Tryz.prog 63 72 2 32:=⟨by kernel_rfl⟩
abbrev Tryz.kW : FuncId:=38
abbrev Tryz.VV : FuncId:=78
abbrev Tryz.jl : FuncId:=39
abbrev Tryz.jx : FuncId:=37
abbrev Tryz.j9 : FuncId:=46
instance : ZrT Tryz.prog 118 [(.pointer none)]:=⟨by kernel_rfl⟩
abbrev Tryz.Xl : FuncId:=84
abbrev Tryz.jM : FuncId:=47
abbrev Tryz.Zu : FuncId:=88
instance : zx Tryz.prog 72 0 0:=⟨by kernel_rfl⟩
abbrev Tryz.Zv : FuncId:=90
abbrev Tryz.jX : FuncId:=11
abbrev Tryz.vN : FuncId:=34
abbrev Tryz.xP : FuncId:=35
abbrev Tryz.xw : FuncId:=53
abbrev Tryz.vO : FuncId:=72
instance : ZrT Tryz.prog 81 [(.int .i64 0),(.slice none 0 0)]:=⟨by kernel_rfl⟩
instance : ApT Tryz.prog 35 9 1 16:=⟨by kernel_rfl⟩
instance : ZrT Tryz.prog 9 [(.string ByteArray.empty)]:=⟨by kernel_rfl⟩
abbrev Tryz.yP : FuncId:=105
abbrev Tryz.xV : FuncId:=106
abbrev Tryz.zn : FuncId:=107
abbrev Tryz.Yq : FuncId:=75
instance : ApT Tryz.prog 70 76 1 8:=⟨by kernel_rfl⟩
instance : ZrT Tryz.prog 76 [(.int .u64 0)]:=⟨by kernel_rfl⟩
abbrev Tryz.Yr : FuncId:=89
abbrev Tryz.z7 : FuncId:=111
abbrev Tryz.yh : FuncId:=134
abbrev Tryz.yW : FuncId:=86
abbrev Tryz.zW : FuncId:=87
abbrev Tryz.ya : FuncId:=114
end Go.Proofs
end
