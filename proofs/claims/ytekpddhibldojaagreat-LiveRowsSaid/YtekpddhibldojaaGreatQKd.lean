/-
  Contracts: what outlives what.
  Elements of rows of one's own written over.
  Contracts: places among types: walk, May, Type.
  A map of strings of one's own: made, filled, asked.
  Contracts: whether a point is as it must be.
  Which programs may be: what it tells when one may.
  Contracts: heads of graphs; Check and May of graph.
  Contracts: the regions of a function, numbered.
  Contracts: all regions of a function; Of, Width.
  Contracts: Of, Width, Place, Borrowed, Called of region.
  Texts of points, of both sides.
  Contracts: Borrowed, Called of region.
  Contracts: SameType of the reference, typeFits and spoil of law 13.
  Contracts: the example of law 13, and what is told of it.
  What is told of the example of law 13; awake.
  Contracts: fits of law 13; lists of numbers read in a memory that stays.
  What is cleared: the end of a slice of one's own.
  Contracts: a function, a point of a program; Assigns, Type, Operands of graph.
  graph.Text, graph.Lines, graph.Next.
  Shallow readings of functions. Made by a program (wip/gen/gen.py) out of the translation; the kernel checks each equality.
  Points compared: slices.EqualFunc of any kind; places, operands, points.
  graph.Same: two programs are the same.
  graph.Same: points, graphs, structs, units compared.
  graph.Same: graphs, structs, units compared.
  loanwordlaw10: fits; graph.Next.
  Contracts: the operands of a point.
  Shapes: what regions say nothing of; the plain law of RegionShapes.
  Contracts: Operands of graph.
  graph.Next; the example of law 10.
  loanwordlaw10: awake.
  Shallow readings of functions. Made by a program (wip/gen/gen.py) out of the translation; the kernel checks each equality.
  The document's answer of layer 9: which types may be; how many words.
-/
import Derived.Test.YtekpddhibldojaaGreatQKc
import Derived.MapKept
import Derived.Test.YtekpddhibldojaaGreatQKb
import GoSem.Builtin.Clear
section
namespace Go.Proofs
open Go.Sh
set_option maxRecDepth 100000
set_option linter.unusedSimpArgs false
set_option linter.unusedVariables false
theorem TysG.take {s : Gh} {q : Option Addr} {ts : List TyD} (h : TysG s q ts) (n : Nat) : TysG s q (ts.take n):=fun i hi=>by
 rw [List.length_take] at hi
 obtain ⟨b,off,c,h1,h2,h3,h4⟩:=h i (by omega)
 refine ⟨b,off,c,h1,h2,h3,?_⟩
 rw [List.getElem_take];exact h4
theorem jf {f : Nat→Nat→Bool} {a b : Nat} (ha : a<8) (hb : b<8) : (zJ f)[0+((a : Nat) : Int).toNat*8+((b : Nat) : Int).toNat*1]? = some (.bool (f a b)):=by
 rw [show 0+((a : Nat) : Int).toNat*8+((b : Nat) : Int).toNat*1=a*8+b by omega]
 exact aiV ha hb
abbrev syF (l : List (Int × Int)) : Nat→Nat→Bool:=fun x y=>qM l (x : Int) (y : Int)
abbrev muF (l : List TyD) : Nat→Nat→Bool:=fun x y=>js l (x : Int) (y : Int)
def clH (sy : Nat→Nat→Bool) (a b c : Nat) : Bool:=!((sy a b&&sy b c)&&(!decide (a=c) && !sy a c))
def clG (n : Nat) (mu sy : Nat→Nat→Bool) (a b : Nat) : Bool:=(List.range n).all (clH sy a b) && !(!decide (a=b)&&(mu a b && !sy a b))
def clF (n : Nat) (mu sy : Nat→Nat→Bool) (a : Nat) : Bool:=(List.range n).all (clG n mu sy a)
theorem agj (n : Nat) (l : List TyD) (o : List (Int × Int)) : ag0 n (js l) (qM o)=(List.range n).all (clF n (muF l) (syF o)):=by
 unfold ag0 clF clG clH;simp only [decide_not,Int.natCast_inj]
def qe (l : List (Int × Int)) (i : Nat) : Option (Int × Int):=if i=0 then none else l[i - 1]?
def ag2 (w : Option (Int × Int)) (o : Int × Int) : Bool:=match w with|none=>true|some w=>j2 w o
theorem aeQ {lv : Int} {l : List (Int × Int)} {i : Nat} (h : i<l.length) : kU lv (qe l i) (l.drop i)=((kc lv l[i]&&ag2 (qe l i) l[i])&&kU lv (qe l (i+1)) (l.drop (i+1))):=by
 rw [aj6 h,qe,qe,if_neg (Nat.succ_ne_zero i),Nat.add_sub_cancel,List.getElem?_eq_getElem h];rfl
set_option maxHeartbeats 2000000 in
theorem aaA {g : GrD} {c : List Value} {w : World} {r : Gh} {K : Value→World→Prop} (hr : Holds r w) (hg : GrG r c g) (hlv0 : 0≤g.lv) (hlv8 : g.lv≤8) (hpn0 : 0≤g.pn) (hpn1 : g.pn<g.tys.length)
  (hx : ∀ t ∈ g.tys.take (g.pn.toNat+1),∀ x ∈ regsT t,0≤x∧x<8) (h : ∀ w',Ext w w'→K (.bool (qN g)) w') : zd Tryz.prog Tryz.ju #[.agg c.toArray] w K:=by
 obtain ⟨vo,vt,vn,vp,rfl,h1,h2,h3,h4⟩:=hg
 obtain ⟨qo,capo,rfl,_,_⟩:=h1.sl.shape
 obtain ⟨qt,capt,rfl,_,hct⟩:=h2.sl.shape
 obtain ⟨qn,capn,rfl,_,_⟩:=h3.sl.shape
 obtain ⟨qp,capp,rfl,_,_⟩:=h4.sl.shape
 have hol : g.outs.length≤9223372036854775807:=h1.few
 have htl : g.tys.length≤9223372036854775807:=h2.few
 refine Tryz.Vt ?_
 unfold Tryz.Yr
 have S:=St.start hr
 refine S.box fun b1 w1 S=>?_
 refine S.al fun b3 w2 S=>?_
 refine S.al fun b4 w3 S=>?_
 have S : StX noX w r w3 (.cell b3 (zJ fun _ _=>false) 161 :: [.cell b4 (zJ fun _ _=>false) 161,.cell b1 [.string g.name,.int .i64 g.lv,.slice qo g.outs.length capo,.int .i64 g.pn,.slice qt g.tys.length capt,.slice qn g.nms.length capn,.slice qp g.pts.length capp] 43]):=S.swap
 refine gG_ ?_
 rw [show (g.pn+1).toNat=(g.tys.take (g.pn.toNat+1)).length by rw [List.length_take];omega]
 refine abn (l:=g.tys.take (g.pn.toNat+1)) ((X0 h2.sl).take _) (by rw [List.length_take];have:=h2.few;omega) hx S fun w4 S=>?_
 have S : StX noX w r w4 ([.cell b3 (zJ (muF (g.tys.take (g.pn.toNat+1)))) 161,.cell b4 (zJ fun _ _=>false) 161,.cell b1 [.string g.name,.int .i64 g.lv,.slice qo g.outs.length capo,.int .i64 g.pn,.slice qt g.tys.length capt,.slice qn g.nms.length capn,.slice qp g.pts.length capp] 43]):=by
  rw [yA (f:=muF (g.tys.take (g.pn.toNat+1))) (g:=aaz (fun _ _=>false) (g.tys.take (g.pn.toNat+1))) (fun x y _ _=>(Bool.false_or _).symm)]
  exact S
 rw [qN,← ac2,agj] at h
 generalize hmu : muF (g.tys.take (g.pn.toNat+1))=mu at h S
 refine gG_ ?_
 refine zi (ι:=Nat) (fun i=>[.int .i64 (i : Nat)]) (fun i w'=>i≤g.outs.length∧kU g.lv (qe g.outs i) (g.outs.drop i)=kU g.lv none g.outs∧
  StX noX w r w' ([.cell b3 (zJ mu) 161,.cell b4 (zJ (syF (g.outs.take i))) 161,.cell b1 [.string g.name,.int .i64 g.lv,.slice qo g.outs.length capo,.int .i64 g.pn,.slice qt g.tys.length capt,.slice qn g.nms.length capn,.slice qp g.pts.length capp] 43])) (fun i=>g.outs.length - i) 0 rfl
  ⟨Nat.zero_le _,rfl,by
   rw [yA (f:=syF (g.outs.take 0)) (g:=fun _ _=>false) (fun x y _ _=>by simp [syF,qM])]
   exact S⟩ ?_
 clear S
 rintro i d w5 ⟨hi,hd,S⟩ K6 hK6
 rw [List.getD_cons_zero]
 refine gP_ ?_
 refine zk (fun hlt=>?_) (fun hge=>?_)
 ·have hlt : i<g.outs.length:=by omega
  obtain ⟨bo,oo,co,rfl,hco,hoo,hoc⟩:=h1.sl.get (by decide) hlt
  obtain rfl : co=_:=hoo
  rw [aeQ hlt] at hd
  have hgo:=fun (j : Nat) (hj : j<g.outs.length)=>h1.sl.get (by decide) hj
  obtain ⟨⟨o1,o2⟩,ho⟩ : ∃ o,g.outs[i]=o:=⟨_,rfl⟩
  rw [ho] at hd
  have hst : syF (g.outs.take (i+1))=fun x y=>syF (g.outs.take i) x y||(decide ((x : Int)=o1)&&decide ((y : Int)=o2)):=by
   funext x y
   show qM _ _ _=(qM _ _ _||_)
   rw [ac0 hlt,ho]
  refine gP_ ?_
  refine zq (n:=2) hco (fun j v hj=>by rw [Int.toNat_natCast];exact S.at (hoc j v hj)) ?_
  rw [ho]
  refine S.al fun b6 w6 S=>?_
  refine S.stB (b:=b6) fun w7 S=>?_
  refine gG_ ?_
  refine zj (c:=decide (g.lv≤max o1 o2)) (fun _ K2 hK2=>?_) ?_
  ·refine gG_ ?_
   exact hK2
  refine zj (c:=decide (o1=o2)) (fun _ K2 hK2=>?_) ?_
  ·refine gG_ ?_
   exact hK2
  refine c_b (fun hbad=>?_) (fun hgood=>?_)
  ·have hin : kc g.lv (o1,o2)=false:=by rw [kc,hbad];rfl
   rw [hin,Bool.false_and,Bool.false_and] at hd
   rw [← hd,Bool.false_and] at h
   exact h _ S.ext
  have hin : kc g.lv (o1,o2)=true:=by rw [kc,hgood];rfl
  rw [hin,Bool.true_and] at hd
  have hrg : (0≤o1∧o1<8)∧(0≤o2∧o2<8):=by
   simp only [Bool.or_eq_false_iff,decide_eq_false_iff_not] at hgood;omega
  clear hgood hin
  obtain ⟨⟨ho10,ho18⟩,ho20,ho28⟩:=hrg
  refine zp (fun _ w'=>ag2 (qe g.outs i) (o1,o2)=true∧StX noX w r w' ([.cell b6 [.int .i64 o1,.int .i64 o2] 165,.cell b3 (zJ mu) 161,.cell b4 (zJ (syF (g.outs.take i))) 161,.cell b1 [.string g.name,.int .i64 g.lv,.slice (some ⟨bo,oo,none⟩) g.outs.length capo,.int .i64 g.pn,.slice qt g.tys.length capt,.slice qn g.nms.length capn,.slice qp g.pts.length capp] 43])) (fun K9 hK9=>?_) ?_
  ·refine gP_ ?_
   refine zk (fun hpos=>?_) (fun hz=>?_)
   ·have hpos : 0<i:=by omega
    have hlt2 : i - 1<g.outs.length:=by omega
    obtain ⟨bo2,oo2,co2,hbe,hco2,hoo2,hoc2⟩:=h1.sl.get (by decide) hlt2
    obtain rfl : co2=_:=hoo2
    cases hbe
    have hpv : qe g.outs i=some g.outs[i - 1]:=by rw [qe,if_neg (by omega),List.getElem?_eq_getElem hlt2]
    rw [hpv] at hd hK9
    obtain ⟨⟨p1,p2⟩,hp⟩ : ∃ o,g.outs[i - 1]=o:=⟨_,rfl⟩
    rw [hp] at hd hK9
    refine gG_ ?_
    refine zq (n:=2) hco2 (fun j v hj=>by rw [show ((i : Int) - 1).toNat=i - 1 by omega];exact S.at (hoc2 j v hj)) ?_
    rw [hp]
    refine S.al fun b7 w8 S=>?_
    refine S.stB (b:=b7) fun w9 S=>?_
    refine gG_ ?_
    refine vT (g:=decide (p1=o1)) (c:=decide (o2≤p2)) (fun _ K2 hK2=>?_) (fun _ K2 hK2=>?_) ?_
    ·refine gG_ ?_
     exact hK2
    ·refine gG_ ?_
     exact hK2
    rw [not_lt (o:=(o1,o2)) (w:=(p1,p2))]
    refine c_b (fun hb=>?_) (fun hb=>?_)
    ·have hb : j2 (p1,p2) (o1,o2)=false:=by simpa using hb
     rw [show ag2 (some (p1,p2)) (o1,o2)=j2 (p1,p2) (o1,o2) from rfl,hb,Bool.false_and] at hd
     rw [← hd,Bool.false_and] at h
     exact h _ S.ext
    ·have hb : j2 (p1,p2) (o1,o2)=true:=by simpa using hb
     exact hK9 _ _ ⟨hb,S.drop b7⟩
   ·have hz : i=0:=by omega
    refine hK9 _ _ ⟨?_,S⟩
    rw [hz];rfl
  clear S
  rintro _ w10 ⟨haf,S⟩ d10
  have S:=S.go (Ext.drew _)
  rw [haf,Bool.true_and] at hd
  refine gG_ ?_
  refine S.st (b:=b4) (fun w11 S=>?_) (by rw [jz];omega)
  refine gP_ ?_
  rw [show ((i : Int)+1)=((i+1 : Nat) : Int) by omega]
  refine hK6 (i+1) _ ⟨hlt,hd,?_⟩ (by omega)
  rw [show 0+o1.toNat*8+o2.toNat*1=o1.toNat*8+o2.toNat by omega,Qh (by omega) (by omega)] at S
  rw [hst,yA (f:=fun x y=>syF (g.outs.take i) x y||(decide ((x : Int)=o1)&&decide ((y : Int)=o2))) (g:=fun x y=>syF (g.outs.take i) x y||(decide (x=o1.toNat)&&decide (y=o2.toNat))) (fun x y _ _=>by
   show (syF (g.outs.take i) x y||(decide ((x : Int)=o1)&&decide ((y : Int)=o2)))=(syF (g.outs.take i) x y||(decide (x=o1.toNat)&&decide (y=o2.toNat)))
   rw [show decide ((x : Int)=o1)=decide (x=o1.toNat) from decide_eq_decide.2 (by omega),show decide ((y : Int)=o2)=decide (y=o2.toNat) from decide_eq_decide.2 (by omega)])]
  exact S.drop b6
 have hie : i=g.outs.length:=by omega
 rw [hie,List.take_length] at S
 rw [hie,List.drop_length] at hd
 rw [← hd,show kU g.lv (qe g.outs g.outs.length) []=true from by rw [kU],Bool.true_and] at h
 clear hd hK6 K6 hie hge hi
 generalize hsy : syF g.outs=sy at h S
 obtain ⟨n,hn⟩ : ∃ n : Nat,g.lv.toNat=n:=⟨_,rfl⟩
 have hn8 : n≤8:=by omega
 have hlvn : g.lv=(n : Int):=by omega
 rw [hn] at h
 refine gG_ ?_
 refine zi (ι:=Nat) (fun i=>[.int .i64 (i : Nat)]) (fun i w'=>i≤n∧((List.range n).drop i).all (clF n mu sy)=(List.range n).all (clF n mu sy)∧
  StX noX w r w' ([.cell b3 (zJ mu) 161,.cell b4 (zJ sy) 161,.cell b1 [.string g.name,.int .i64 g.lv,.slice qo g.outs.length capo,.int .i64 g.pn,.slice qt g.tys.length capt,.slice qn g.nms.length capn,.slice qp g.pts.length capp] 43])) (fun i=>n - i) 0 rfl
  ⟨Nat.zero_le _,rfl,S⟩ ?_
 clear S
 rintro a d2 w12 ⟨ha,hda,S⟩ K7 hK7
 rw [List.getD_cons_zero,hlvn]
 refine gP_ ?_
 refine zk (fun hlta=>?_) (fun hgea=>?_)
 rotate_left
 ·have hae : a=n:=by omega
  rw [hae,jN] at hda
  rw [← hda] at h
  exact h _ S.ext
 have hlta : a<n:=by omega
 rw [jM hlta] at hda
 refine gG_ ?_
 refine zi (ι:=Nat) (fun i=>[.int .i64 (i : Nat)]) (fun i w'=>i≤n∧((List.range n).drop i).all (clG n mu sy a)=(List.range n).all (clG n mu sy a)∧
  StX noX w r w' ([.cell b3 (zJ mu) 161,.cell b4 (zJ sy) 161,.cell b1 [.string g.name,.int .i64 g.lv,.slice qo g.outs.length capo,.int .i64 g.pn,.slice qt g.tys.length capt,.slice qn g.nms.length capn,.slice qp g.pts.length capp] 43])) (fun i=>n - i) 0 rfl
  ⟨Nat.zero_le _,rfl,S⟩ ?_
 clear S
 rintro b d3 w13 ⟨hb,hdb,S⟩ K8 hK8
 rw [List.getD_cons_zero,hlvn]
 refine gP_ ?_
 refine zk (fun hltb=>?_) (fun hgeb=>?_)
 rotate_left
 ·have hbe : b=n:=by omega
  rw [hbe,jN] at hdb
  have hF : clF n mu sy a=true:=hdb.symm
  rw [hF,Bool.true_and] at hda
  refine gP_ ?_
  rw [show ((a : Int)+1)=((a+1 : Nat) : Int) by omega]
  exact hK7 (a+1) _ ⟨hlta,hda,S⟩ (by omega)
 have hltb : b<n:=by omega
 rw [jM hltb] at hdb
 refine gG_ ?_
 refine zi (ι:=Nat) (fun i=>[.int .i64 (i : Nat)]) (fun i w'=>i≤n∧((List.range n).drop i).all (clH sy a b)=(List.range n).all (clH sy a b)∧
  StX noX w r w' ([.cell b3 (zJ mu) 161,.cell b4 (zJ sy) 161,.cell b1 [.string g.name,.int .i64 g.lv,.slice qo g.outs.length capo,.int .i64 g.pn,.slice qt g.tys.length capt,.slice qn g.nms.length capn,.slice qp g.pts.length capp] 43])) (fun i=>n - i) 0 rfl
  ⟨Nat.zero_le _,rfl,S⟩ ?_
 clear S
 have hfalse : clG n mu sy a b=false→(List.range n).all (clF n mu sy)=false:=fun e=>by
  rw [e,Bool.false_and] at hdb
  have hF : clF n mu sy a=false:=hdb.symm
  rw [hF,Bool.false_and] at hda
  exact hda.symm
 rintro cc d4 w14 ⟨hc,hdc,S⟩ K9 hK9
 rw [List.getD_cons_zero,hlvn]
 refine gP_ ?_
 refine zk (fun hltc=>?_) (fun hgec=>?_)
 ·have hltc : cc<n:=by omega
  rw [jM hltc] at hdc
  refine gP_ ?_
  refine gP_ ?_
  refine S.ld (b:=b4) ?_ (jf (f:=sy) (by omega) (by omega))
  refine zf (c:=sy b cc) (fun _ K2 hK2=>?_) ?_
  ·refine gP_ ?_
   refine gP_ ?_
   refine S.ld (b:=b4) ?_ (jf (f:=sy) (by omega) (by omega))
   exact hK2
  refine zf (c:=decide (a≠cc)) (fun _ K2 hK2=>?_) ?_
  ·refine gP_ ?_
   rw [show decide ((a : Int)≠(cc : Int))=decide (a≠cc) from decide_eq_decide.2 (by omega)]
   exact hK2
  refine zf (c:=!sy a cc) (fun _ K2 hK2=>?_) ?_
  ·refine gP_ ?_
   refine gP_ ?_
   refine S.ld (b:=b4) ?_ (jf (f:=sy) (by omega) (by omega))
   refine gP_ ?_
   exact hK2
  have hH : clH sy a b cc = !(((sy a b&&sy b cc)&&decide (a≠cc)) && !sy a cc):=by
   rw [clH,Bool.and_assoc (sy a b&&sy b cc),decide_not]
  refine c_b (fun hbad=>?_) (fun hgood=>?_)
  ·rw [hH,hbad] at hdc
   have hA : (List.range n).all (clH sy a b)=false:=by rw [← hdc];rfl
   rw [hfalse (by rw [clG,hA,Bool.false_and])] at h
   exact h _ S.ext
  ·rw [hH,hgood,Bool.not_false,Bool.true_and] at hdc
   refine gP_ ?_
   rw [show ((cc : Int)+1)=((cc+1 : Nat) : Int) by omega]
   exact hK9 (cc+1) _ ⟨hltc,hdc,S⟩ (by omega)
 have hce : cc=n:=by omega
 rw [hce,jN] at hdc
 refine gP_ ?_
 refine zf (c:=mu a b) (fun _ K2 hK2=>?_) ?_
 ·refine gP_ ?_
  refine gP_ ?_
  refine S.ld (b:=b3) ?_ (jf (f:=mu) (by omega) (by omega))
  exact hK2
 refine zf (c:=!sy a b) (fun _ K2 hK2=>?_) ?_
 ·refine gP_ ?_
  refine gP_ ?_
  refine S.ld (b:=b4) ?_ (jf (f:=sy) (by omega) (by omega))
  refine gP_ ?_
  exact hK2
 have hG : clG n mu sy a b = !((decide ((a : Int)≠(b : Int))&&mu a b) && !sy a b):=by
  rw [clG,← hdc,Bool.true_and,Bool.and_assoc,show decide ((a : Int)≠(b : Int)) = !decide (a=b) from by rw [← decide_not];exact decide_eq_decide.2 (by omega)]
 refine c_b (fun hbad=>?_) (fun hgood=>?_)
 ·rw [hfalse (by rw [hG,hbad];rfl)] at h
  exact h _ S.ext
 ·rw [hG,hgood,Bool.not_false,Bool.true_and] at hdb
  refine gP_ ?_
  rw [show ((b : Int)+1)=((b+1 : Nat) : Int) by omega]
  exact hK8 (b+1) _ ⟨hltb,hdb,S⟩ (by omega)
end Go.Proofs
end
section
namespace Go.Sh
open Go.RowKit
end Go.Sh
end
section
namespace Go.Proofs
open Go.Sh
set_option maxRecDepth 100000
set_option linter.unusedSimpArgs false
set_option linter.unusedVariables false
def ye (ss : List StD) (t : TyD) (k : Int) : Option (TyD × Int):=
 if k = -1∧t.k=3 then t.of.head?.map fun u=>(u,1)
 else if k = -1∧t.k=4 then t.of.head?.map fun u=>(u,if t.m then 2 else 3)
 else if 0≤k∧t.k=5 then (ze ss t.st)[k.toNat]?.map fun u=>(u,0)
 else none
def zS (ss : List StD) : List Int→TyD→Option (TyD × List Int)
 |[],t=>some (t,[])
 |k::l,t=>(ye ss t k).bind fun s=>(zS ss l s.1).map fun x=>(x.1,s.2::x.2)
theorem abo (ss : List StD) : ∀ (l : List Int) (k : Int) (t : TyD),zS ss (l ++ [k]) t=(zS ss l t).bind fun x=>(ye ss x.1 k).map fun s=>(s.1,x.2 ++ [s.2])
 |[],k,t=>by
  show (ye ss t k).bind _=(ye ss t k).map _
  cases ye ss t k<;>rfl
 |x::l,k,t=>by
  rw [List.cons_append,zS,zS]
  cases h : ye ss t x with
  |none=>rfl
  |some s=>
   show (zS ss (l ++ [k]) s.1).map _=((zS ss l s.1).map _).bind _
   rw [abo ss l k s.1]
   cases zS ss l s.1 with
   |none=>rfl
   |some y=>
    show ((ye ss y.1 k).map _).map _=(ye ss y.1 k).map _
    cases ye ss y.1 k<;>rfl
theorem abp {ss : List StD} : ∀ {l m : List Int} {t : TyD},zS ss l t=none→zS ss (l++m) t=none
 |[],m,t,h=>by cases h
 |x::l,m,t,h=>by
  rw [List.cons_append,zS]
  rw [zS] at h
  cases hs : ye ss t x with
  |none=>rfl
  |some s=>
   rw [hs] at h
   have h : (zS ss l s.1).map (fun x=>(x.1,s.2::x.2))=none:=h
   have : zS ss l s.1=none:=by cases hw : zS ss l s.1 with|none=>rfl|some y=>rw [hw] at h;cases h
   show (zS ss (l++m) s.1).map _=none
   rw [abp this];rfl
theorem Jt {ss : List StD} : ∀ {l : List Int} {t : TyD} {x : TyD × List Int},zS ss l t=some x→x.2.length=l.length
 |[],t,x,h=>by cases h;rfl
 |k::l,t,x,h=>by
  rw [zS] at h
  cases hs : ye ss t k with
  |none=>rw [hs] at h;cases h
  |some s=>
   rw [hs] at h
   have h : (zS ss l s.1).map (fun x=>(x.1,s.2::x.2))=some x:=h
   cases hw : zS ss l s.1 with
   |none=>rw [hw] at h;cases h
   |some y=>rw [hw] at h;cases h;simp [Jt hw]
theorem ag3 {ss : List StD} (hg : xG ss) {t : TyD} {k : Int} {s : TyD × Int} (h : Fine ss t) (e : ye ss t k=some s) : Fine ss s.1:=by
 have inside : ∀ {n : Int},t.of.head?.map (fun u=>(u,n))=some s→Fine ss s.1:=by
  intro n e
  rcases h.cases with ⟨h1,_⟩|⟨u,h1,h2,_⟩
  ·rw [h1] at e;cases e
  ·rw [h1] at e;cases e;exact h2
 unfold ye at e
 split at e
 ·exact inside e
 split at e
 ·exact inside e
 split at e
 ·cases hu : (ze ss t.st)[k.toNat]? with
  |none=>rw [hu] at e;cases e
  |some u=>rw [hu] at e;cases e;exact hg _ u (List.mem_of_getElem? hu)
 ·cases e
theorem abq {ss : List StD} (hg : xG ss) : ∀ {l : List Int} {t : TyD} {x : TyD × List Int},Fine ss t→zS ss l t=some x→Fine ss x.1
 |[],t,x,h,e=>by cases e;exact h
 |k::l,t,x,h,e=>by
  rw [zS] at e
  cases hs : ye ss t k with
  |none=>rw [hs] at e;cases e
  |some s=>
   rw [hs] at e
   have e : (zS ss l s.1).map (fun x=>(x.1,s.2::x.2))=some x:=e
   cases hw : zS ss l s.1 with
   |none=>rw [hw] at e;cases e
   |some y=>rw [hw] at e;cases e;show Fine ss y.1;exact abq hg (ag3 hg h hs) hw
noncomputable def Zu (ss : List StD) (tys : List TyD) (p : PlD) : Bool:=
 ((decide (0≤p.l)&&decide (p.l<tys.length))&&decide (p.ps.length≤8))&&(decide ((zw ss).2=0)&&tys.all fun t=>mayB ss t)
noncomputable def j3 (ss : List StD) (tys : List TyD) (p : PlD) : Option (TyD × List Int):=if Zu ss tys p then zS ss p.ps (tys.getD p.l.toNat yc) else none
theorem ahZ {ss : List StD} {tys : List TyD} {p : PlD} (h : Zu ss tys p=false) : j3 ss tys p=none:=by rw [j3,h];rfl
end Go.Proofs
end
section
namespace Go.Sh
open Go.RowKit Go.MapKept
set_option linter.unusedVariables false
def zr1 (P : Program) (t : TypeId) : Option Value:=(P.info? t).bind fun i=>i.zero
theorem ac5 {P : Program} {t : TypeId} {z : Value} (hz : zr1 P t=some z) (w : World) : (zeroValue t).run P w = .ok z w:=by
 unfold zr1 at hz
 cases hi : P.info? t with
 |none=>rw [hi] at hz;cases hz
 |some i=>
  rw [hi] at hz
  have hz : i.zero=some z:=hz
  simp [zeroValue,typeInfo,Sem.run,pure,hi,hz,Sem.run_bind,Result.andThen]
def mpT (P : Program) (t : TypeId) : Option (TypeId × TypeId):=match P.underlying t with
 |some (.map k e)=>(match P.underlying k with|some .string=>some (k,e)|_=>none)
 |_=>none
theorem aeR {P : Program} {t k e : TypeId} (h : mpT P t=some (k,e)) : P.underlying t=some (.map k e)∧P.underlying k=some .string:=by
 unfold mpT at h
 split at h
 ·rename_i k' e' h1
  split at h
  ·rename_i h2
   cases h;exact ⟨h1,h2⟩
  ·cases h
 ·cases h
def Qk (x : ByteArray) : List MapEntry→Option Value
 |[]=>none
 |m::l=>match m.key with|.string s=>if x == s then some m.val else Qk x l|_=>Qk x l
def aiW (l : List MapEntry) : Prop:=∀ m ∈ l,∃ s,m.key = .string s
theorem aaB {x : ByteArray} : ∀ {l : List MapEntry} {i : Nat},aiW l→∃ o,Instr.findNow .string (.string x) l i=some o∧o.map (·.2)=Qk x l
 |[],i,_=>⟨none,rfl,rfl⟩
 |m::l,i,h=>by
  obtain ⟨s,hs⟩:=h m List.mem_cons_self
  cases hx : (x == s) with
  |true=>
   refine ⟨some (i,m.val),?_,?_⟩
   ·rw [Instr.findNow,hs]
    simp [Instr.sameNow,hx]
   ·rw [Qk,hs];simp [hx]
  |false=>
   obtain ⟨o,h1,h2⟩:=aaB (x:=x) (l:=l) (i:=i+1) fun y hy=>h y (List.mem_cons_of_mem _ hy)
   refine ⟨o,?_,?_⟩
   ·rw [Instr.findNow,hs]
    simp [Instr.sameNow,hx,h1]
   ·rw [h2,Qk,hs];simp [hx]
theorem ah0 (x y : ByteArray) : (x == y)=(x.toList == y.toList):=by
 rw [show (x == y)=(x.data == y.data) by cases x;cases y;rfl,ByteArray.toList_eq,ByteArray.toList_eq,Bool.eq_iff_iff,beq_iff_eq,beq_iff_eq,Array.toList_inj]
section
variable {P : Program} {X : Nat→Prop} {w0 w : World} {r : Gh} {L : List Asr} {t k e : TypeId} {b c : Nat} {es : Array MapEntry}
theorem StX.addO (S : StX X w0 r w L) {w' : World} (ex : Ext w w') {o : Obj} (hb : w.heap.size≤b) (B : w'.heap[b]? = some o) (ho : Obj.isBook o=false) : StX X w0 r w' (.obj b (· = o)::L):=by
 have S':=S.go ex
 refine ⟨S'.x,S'.holds,?_,?_,.cons ?_ S'.apart⟩
 ·intro x hx;rcases List.mem_cons.1 hx with rfl|hx
  ·exact ⟨o,B,ho,rfl⟩
  ·exact S'.has x hx
 ·intro x hx;rcases List.mem_cons.1 hx with rfl|hx
  ·rintro k rfl
   exact ⟨.inl (by have:=S.x.size;omega),fun o ho=>by have:=S.holds.lt ho;omega⟩
  ·exact S'.mine x hx
 ·rintro y hy k rfl hk
  have:=Asr.lt (S.has y hy) hk;omega
theorem StX.mkMap (S : StX X w0 r w L) {K : Value→World→Prop} (h : ∀ b w',StX X w0 r w' (.obj b (· = .map #[] 0)::L)→K (.map (some b)) w') : opW P w (Instr.makeMap t none) K:=by
 refine ⟨.map (some w.heap.size),{ w with heap:=w.heap.push (.map #[] 0) },?_,h _ _ (S.addO ?_ (Nat.le_refl _) ?_ rfl)⟩
 ·simp [Instr.makeMap,newObj,Sem.run_bind,Sem.run,pure,Result.andThen]
  try rfl
 ·exact ⟨rfl,rfl,rfl,by simp,fun b hb=>by simp [Array.getElem?_push,Nat.ne_of_lt hb]⟩
 ·simp
theorem StX.mapAdd (S : StX X w0 r w (.obj b (· = .map es c)::L)) {x : ByteArray} {v : Value} (ht : mpT P t=some (k,e)) (hs : aiW es.toList) (hn : Qk x es.toList=none) {K : World→Prop}
  (h : ∀ w',StX X w0 r w' (.obj b (· = .map (es.push { key:=.string x,val:=v,born:=c }) (c+1))::L)→K w') : opU P w (Instr.mapUpdate t (.map (some b)) (.string x) v) K:=by
 obtain ⟨ht,hk⟩:=aeR ht
 obtain ⟨o,hb,_,rfl⟩:=S.has _ List.mem_cons_self
 obtain ⟨o,h1,h2⟩:=aaB (x:=x) (i:=0) hs
 have h3 : o=none:=by
  rw [hn] at h2
  cases o with
  |none=>rfl
  |some y=>cases h2
 subst h3
 have hf:=run_findKey (w:=w) hk h1
 refine ⟨{ w with heap:=w.heap.setIfInBounds b (.map (es.push { key:=.string x,val:=v,born:=c }) (c+1)) },?_,h _ ?_⟩
 ·simp [Instr.mapUpdate,run_underlying ht,MapKept.run_getObj_map hb,run_checkKey (w:=w) hk (k:=.string x) trivial false 9999,hf,MapKept.run_setObj_map _ hb,Result.andThen]
 ·obtain ⟨e1,e2⟩:=heap_set hb (o':=.map (es.push { key:=.string x,val:=v,born:=c }) (c+1))
  exact S.turn (p:=[]) (x:=.obj b (· = .map es c)) (y:=.obj b (· = .map (es.push { key:=.string x,val:=v,born:=c }) (c+1))) ⟨rfl,rfl,rfl,by simp,fun k _ hk=>e2 k hk⟩ ⟨_,e1,rfl,rfl⟩ fun k hk=>.inl hk
theorem StX.mapGet (S : StX X w0 r w (.obj b (· = .map es c)::L)) {x : ByteArray} {z : Value} (ht : mpT P t=some (k,e)) (hz : zr1 P e=some z) (hs : aiW es.toList) {K : Value→Prop} (h : K ((Qk x es.toList).getD z)) :
  opQ P w (Instr.lookup t (.map (some b)) (.string x) false) K:=by
 obtain ⟨ht,hk⟩:=aeR ht
 obtain ⟨o,hb,_,rfl⟩:=S.has _ List.mem_cons_self
 obtain ⟨o,h1,h2⟩:=aaB (x:=x) (i:=0) hs
 refine ⟨_,fun w' ex=>?_,h⟩
 have hb' : w'.heap[b]? = some (.map es c):=(ex.block b (Array.getElem?_eq_some_iff.1 hb).1).trans hb
 have hf:=run_findKey (w:=w') hk h1
 rw [← h2]
 cases o with
 |none=>simp [Instr.lookup,run_underlying ht,MapKept.run_getObj_map hb',run_checkKey (w:=w') hk (k:=.string x) trivial _ 9999,hf,ac5 hz,Result.andThen]
 |some y=>simp [Instr.lookup,run_underlying ht,MapKept.run_getObj_map hb',run_checkKey (w:=w') hk (k:=.string x) trivial _ 9999,hf,Result.andThen]
end
end Go.Sh
end
section
namespace Go.Proofs
open Go.Sh
set_option maxRecDepth 100000
set_option linter.unusedSimpArgs false
set_option linter.unusedVariables false
structure PaD where
 tt : TyD
 tm : Int
 tok : Bool
 ft : TyD
 fm : Int
 fok : Bool
 at' : TyD
 aok : Bool
 bt : TyD
 bok : Bool
noncomputable def ptH (u : UnD) (g : GrD) (p : PtD) (x : PaD) : Bool:=
 if p.op=1 then ((zB p { to:=true,a:=true } && (x.tok&&decide (x.tm<3)))&&x.aok)&&zO yg x.at' x.tt
 else if p.op=2 then
  (zB p { to:=true,a:=true,b:=true,sign:=true } && ((x.tok&&decide (x.tm<3))&&(x.aok&&x.bok))) &&
   (if yd p.sign [[43],[45],[42],[47],[37]] then isK x.tt 1&&(isK x.at' 1&&isK x.bt 1)
    else if yd p.sign [[60],[60,61],[62],[62,61]] then isK x.tt 2&&(isK x.at' 1&&isK x.bt 1)
    else if yd p.sign [[61,61],[33,61]] then isK x.tt 2&&((isK x.at' 1&&isK x.bt 1)||(isK x.at' 2&&isK x.bt 2)) else false)
 else if p.op=3 then
  ((zB p { to:=true,a:=true,sign:=true } && (x.tok&&decide (x.tm<3)))&&x.aok) &&
   (if yd p.sign [[45]] then isK x.tt 1&&isK x.at' 1 else if yd p.sign [[33]] then isK x.tt 2&&isK x.at' 2 else false)
 else if p.op=4 then
  ((((zB p { to:=true,fr:=true,mu:=true } && (x.tok&&decide (x.tm<3)))&&x.fok)&&isK x.tt 4)&&(x.tt.m == p.mu))&&(zO yg (x.tt.of.headD yc) x.ft && !(p.mu&&decide (x.fm=3)))
 else if p.op=5 then (((zB p { to:=true,a:=true } && (x.tok&&decide (x.tm<3)))&&x.aok)&&isK x.tt 3)&&zO yg (x.tt.of.headD yc) x.at'
 else if p.op=6 then
  (((zB p { to:=true,args:=true,st:=true } && (x.tok&&decide (x.tm<3)))&&isK x.tt 5)&&decide (x.tt.st=p.st))&&yS u.ss g.tys p.args (yl u.ss x.tt).1
 else if p.op=7 then
  ((zB p { to:=true,args:=true,fn:=true } && (x.tok&&decide (x.tm<3)))&&(decide (0≤p.fn)&&decide (p.fn<u.fs.length))) &&
   (match u.fs[p.fn.toNat]? with
    |some f=>zO yg x.tt (f.tys.headD yc)&&yS u.ss g.tys p.args ((f.tys.drop 1).take f.pn.toNat)
    |none=>false)
 else if p.op=8 then (zB p { to:=true } && (x.tok&&decide (x.tm<3)))&&isK x.tt 1
 else if p.op=9 then (zB p { a:=true } && x.aok)&&isK x.at' 1
 else if p.op=10 then ((zB p { fr:=true } && x.fok)&&(kL u.ss x.ft).1)&&decide (x.fm<2)
 else if p.op=11 then ((zB p { fr:=true } && x.fok)&&decide (0<p.fr.l))&&decide (p.fr.ps.length=0)
 else if p.op=12 then ((zB p { a:=true,el:=true } && x.aok)&&isK x.at' 2)&&vR g p.el
 else if p.op=13∨p.op=14 then zB p {}
 else false
noncomputable def pad (u : UnD) (g : GrD) (p : PtD) : PaD:=
 ⟨(zm u.ss g.tys p.to).1,(zm u.ss g.tys p.to).2.1,(zm u.ss g.tys p.to).2.2,(zm u.ss g.tys p.fr).1,(zm u.ss g.tys p.fr).2.1,(zm u.ss g.tys p.fr).2.2,
  (zr u.ss g.tys p.a).1,(zr u.ss g.tys p.a).2,(zr u.ss g.tys p.b).1,(zr u.ss g.tys p.b).2⟩
theorem akT (u : UnD) (g : GrD) (p : PtD) : ptG u g p=ptH u g p (pad u g p):=rfl
theorem bb4 {a b c d : Bool} (h : (((!a || !b) || !c) || !d)=true) : (a&&(b&&(c&&d)))=false:=by revert h;cases a<;>cases b<;>cases c<;>cases d<;>simp
theorem akU {a b c d : Bool} (h : (((!a || !b) || !c) || !d)=false) : (a&&(b&&(c&&d)))=true:=by revert h;cases a<;>cases b<;>cases c<;>cases d<;>simp
theorem bb3 {a b c : Bool} {x y : Int} (h : (((!a || !b) || !c)||decide (x≠y))=true) : (((a&&b)&&c)&&decide (x=y))=false:=by
 by_cases e : x=y
 ·simp only [e] at h ⊢;revert h;cases a<;>cases b<;>cases c<;>simp
 ·simp [e]
theorem akV {a b c : Bool} {x y : Int} (h : (((!a || !b) || !c)||decide (x≠y))=false) : (((a&&b)&&c)&&decide (x=y))=true:=by
 by_cases e : x=y
 ·simp only [e] at h ⊢;revert h;cases a<;>cases b<;>cases c<;>simp
 ·simp [e] at h
theorem bb5 {a b : Bool} {x y : Int} (h : (((!a || !b)||decide (x<0))||decide (y≤x))=true) : ((a&&b)&&(decide (0≤x)&&decide (x<y)))=false:=by
 by_cases e : 0≤x<;>by_cases f : x<y
 ·rw [decide_eq_false (show ¬ x<0 by omega),decide_eq_false (show ¬ y≤x by omega)] at h
  revert h;cases a<;>cases b<;>simp
 all_goals simp [e,f]
theorem akW {a b : Bool} {x y : Int} (h : (((!a || !b)||decide (x<0))||decide (y≤x))=false) : ((a&&b)&&(decide (0≤x)&&decide (x<y)))=true:=by
 simp only [Bool.or_eq_false_iff,decide_eq_false_iff_not,Bool.not_eq_false'] at h
 obtain ⟨⟨⟨h1,h2⟩,h3⟩,h4⟩:=h
 rw [h1,h2,decide_eq_true (show 0≤x by omega),decide_eq_true (show x<y by omega)];rfl
theorem mpK : mpT Tryz.prog 197=some (9,91):=by kernel_rfl
theorem mpZ : zr1 Tryz.prog 91=some (.int .u8 0):=by kernel_rfl
theorem aiX (x : ByteArray) (f g : Int→Bool) : ∃ ks : Int,(Qk x ((#[].push (⟨.string (bs [45]),.int .u8 1,0⟩ : MapEntry)).push ⟨.string (bs [33]),.int .u8 2,0+1⟩).toList).getD (.int .u8 0) = .int .u8 ks∧
  ((decide (ks≠0)&&f ks)&&g ks)=(if yd x [[45]] then f 1&&g 1 else if yd x [[33]] then f 2&&g 2 else false):=by
 have e : ((#[].push (⟨.string (bs [45]),.int .u8 1,0⟩ : MapEntry)).push ⟨.string (bs [33]),.int .u8 2,0+1⟩).toList = [⟨.string (bs [45]),.int .u8 1,0⟩,⟨.string (bs [33]),.int .u8 2,0+1⟩]:=rfl
 rw [e]
 simp only [Qk,ah0,acQ,yd,List.any_cons,List.any_nil,Bool.or_false]
 by_cases h1 : (x.toList == [45])=true
 ·exact ⟨1,by rw [if_pos h1];rfl,by rw [if_pos h1];simp⟩
 ·by_cases h2 : (x.toList == [33])=true
  ·exact ⟨2,by rw [if_neg h1,if_pos h2];rfl,by rw [if_neg h1,if_pos h2];simp⟩
  ·exact ⟨0,by rw [if_neg h1,if_neg h2];rfl,by rw [if_neg h1,if_neg h2];simp⟩
set_option maxHeartbeats 20000000 in
theorem QY {u : UnD} {g : GrD} {p : PtD} {c : List Value} {v : Value} {w : World} {r : Gh} {K : Value→World→Prop} (hr : Holds r w) (hx : AskG r v u g) (hf : xq u.ss g.tys) (hfs : ∀ f ∈ u.fs,0≤f.pn∧f.pn<f.tys.length) (hp : PtG r c p)
  (h : ∀ w',Ext w w'→K (.bool (zR u g p)) w') : zd Tryz.prog Tryz.kR #[v,.agg c.toArray] w K:=by
 have hx0:=hx
 obtain ⟨p0,cap0,vf,vo,vt,vn,vp,rfl,hu,hg⟩:=hx
 have hu0:=hu
 obtain ⟨_,_,_,hE,_,_,hst,_,hfn⟩:=hu
 cases hE
 obtain ⟨qfn,capfn,rfl,_,_⟩:=hfn.sl.shape
 obtain ⟨_,_,_,_,hE,_,htys,_,hpts⟩:=hg
 cases hE
 obtain ⟨qp,capp,rfl,_,_⟩:=hpts.sl.shape
 have hp0:=hp
 obtain ⟨vto,va,vb,vl,vfr,rfl,h1,h2,h3,h4,h5⟩:=hp
 obtain ⟨qto,capto,rfl,_,_⟩:=h1.sl.shape
 obtain ⟨qa,capa,rfl,_,_⟩:=h2.sl.shape
 obtain ⟨qb,capb,rfl,_,_⟩:=h3.sl.shape
 obtain ⟨ql,capl,rfl,_,_⟩:=h4.sl.shape
 obtain ⟨qf,capf,rfl,_,_⟩:=h5.sl.shape
 have hpto : PlG r [.int .i64 p.to.l,.slice qto p.to.ps.length capto] p.to:=⟨_,rfl,h1⟩
 have hpfr : PlG r [.int .i64 p.fr.l,.slice qf p.fr.ps.length capf] p.fr:=⟨_,rfl,h5⟩
 have hoa : OpG r [.int .u8 p.a.k,.int .i64 p.a.n,.int .i64 p.a.pl.l,.slice qa p.a.pl.ps.length capa] p.a:=⟨_,rfl,h2⟩
 have hob : OpG r [.int .u8 p.b.k,.int .i64 p.b.n,.int .i64 p.b.pl.l,.slice qb p.b.pl.ps.length capb] p.b:=⟨_,rfl,h3⟩
 refine Tryz.Qd ?_
 unfold Tryz.vB
 have S:=St.start hr
 refine S.box fun b2 w1 S=>?_
 refine S.box fun b3 w2 S=>?_
 refine gg_ ?_
 refine S.al fun b5 w3 S=>?_
 refine S.st (b:=b5) fun w4 S=>?_
 refine gg_ ?_
 refine vT (g:=decide (p.op≠14)) (c:=!vR g p.nx) (fun _ K2 hK2=>?_) (fun _ K2 hK2=>?_) ?_
 ·refine gg_ ?_
  exact hK2
 ·refine gg_ ?_
  refine acW (b:=b5) S ?_
  refine gp_ ?_
  exact hK2
 refine vT (g:=decide (p.op=14)) (c:=decide (p.nx≠0)) (fun _ K2 hK2=>?_) (fun _ K2 hK2=>?_) ?_
 ·refine gg_ ?_
  exact hK2
 ·refine gg_ ?_
  exact hK2
 have hpg : zR u g p=(!((decide (p.tx<0)||(decide (p.op≠14) && !vR g p.nx))||(decide (p.op=14)&&decide (p.nx≠0)))&&ptG u g p):=by
  rw [zR];simp only [decide_not]
 rw [hpg] at h
 refine c_b (fun hbad=>?_) (fun hgood=>?_)
 ·rw [hbad,Bool.not_true,Bool.false_and] at h
  exact h _ S.ext
 rw [hgood,Bool.not_false,Bool.true_and,akT] at h
 clear hpg hgood
 have S:=S.go (Ext.drew _)
 have S : StX noX w r w4.drew [.cell b5 [.int .i64 (g.pts.length : Nat)] 3,
   .cell b3 [.int .u8 p.op,.int .i64 p.to.l,.slice qto p.to.ps.length capto,.int .u8 p.a.k,.int .i64 p.a.n,.int .i64 p.a.pl.l,.slice qa p.a.pl.ps.length capa,.int .u8 p.b.k,.int .i64 p.b.n,.int .i64 p.b.pl.l,.slice qb p.b.pl.ps.length capb,.slice ql p.args.length capl,
    .string p.sign,.int .i64 p.fr.l,.slice qf p.fr.ps.length capf,.bool p.mu,.int .i64 p.fn,.int .i64 p.st,.int .i64 p.nx,.int .i64 p.el,.int .i64 p.tx] 64,
   .cell b2 [.slice p0 u.ss.length cap0,.slice qfn u.fs.length capfn,.int .i64 u.mn,.string g.name,.int .i64 g.lv,vo,.int .i64 g.pn,vt,vn,.slice qp g.pts.length capp] 147]:=S
 obtain ⟨tt,tm,tok,hspt⟩ : ∃ tt tm tok,zm u.ss g.tys p.to=(tt,tm,tok):=⟨_,_,_,rfl⟩
 obtain ⟨ft,fm,fok,hspf⟩ : ∃ tt tm tok,zm u.ss g.tys p.fr=(tt,tm,tok):=⟨_,_,_,rfl⟩
 obtain ⟨ta,aok,hopa⟩ : ∃ t ok,zr u.ss g.tys p.a=(t,ok):=⟨_,_,rfl⟩
 obtain ⟨tb,bok,hopb⟩ : ∃ t ok,zr u.ss g.tys p.b=(t,ok):=⟨_,_,rfl⟩
 have hpad : pad u g p=⟨tt,tm,tok,ft,fm,fok,ta,aok,tb,bok⟩:=by simp only [pad,hspt,hspf,hopa,hopb]
 rw [hpad,ptH] at h
 dsimp only at h
 have inside : tok=true→(tt.k=3∨tt.k=4)→∃ uu,tt.of = [uu]:=by
  intro h1 h2
  have hfi:=qu hf (p:=p.to) (by rw [hspt];exact h1)
  rw [hspt] at hfi
  rcases Fine.cases hfi with ⟨_,h3⟩|⟨uu,h3,_⟩
  ·have h3 : tt.k=1∨tt.k=2∨tt.k=5:=h3
   omega
  ·exact ⟨uu,h3⟩
 refine zp (fun s w'=>∃ b7 b8 q7 c7 q8 c8,s = [.pointer (some ⟨b7,0,none⟩),.pointer (some ⟨b8,0,none⟩)]∧TyG r (tyV tt q7 c7) tt∧TyG r (tyV ft q8 c8) ft∧
  StX noX w r w' (.cell b8 (spL ft q8 c8 fm fok) 189 :: .cell b7 (spL tt q7 c7 tm tok) 189 :: [.cell b5 [.int .i64 (g.pts.length : Nat)] 3,
   .cell b3 [.int .u8 p.op,.int .i64 p.to.l,.slice qto p.to.ps.length capto,.int .u8 p.a.k,.int .i64 p.a.n,.int .i64 p.a.pl.l,.slice qa p.a.pl.ps.length capa,.int .u8 p.b.k,.int .i64 p.b.n,.int .i64 p.b.pl.l,.slice qb p.b.pl.ps.length capb,.slice ql p.args.length capl,
    .string p.sign,.int .i64 p.fr.l,.slice qf p.fr.ps.length capf,.bool p.mu,.int .i64 p.fn,.int .i64 p.st,.int .i64 p.nx,.int .i64 p.el,.int .i64 p.tx] 64,
   .cell b2 [.slice p0 u.ss.length cap0,.slice qfn u.fs.length capfn,.int .i64 u.mn,.string g.name,.int .i64 g.lv,vo,.int .i64 g.pn,vt,vn,.slice qp g.pts.length capp] 147])) (fun K30 hK30=>?_) ?_
 ·refine S.ldB (b:=b2) ?_ rfl
  refine gp_ ?_
  refine S.ldN (b:=b3) ?_
  refine S.ldB (b:=b2) ?_ rfl
  refine gp_ ?_
  refine S.ldN (b:=b3) ?_
  repeat' (first
   |(refine S.alU fun b9 w9 S=>?_)
   |(refine S.al fun b9 w9 S=>?_)
   |(refine S.stB fun w9 S=>?_)
   |(refine xc S.holds hx0 hf hpto hspt (fun q7 c7 w9 e9 ht7=>⟨e9,?_⟩);have S:=S.go e9)
   |(refine xc S.holds hx0 hf hpto hspt (fun q7 c7 w9 e9 ht7=>?_);have S:=S.go e9)
   |(refine xc S.holds hx0 hf hpfr hspf (fun q8 c8 w9 e9 ht8=>⟨e9,?_⟩);have S:=S.go e9)
   |(refine xc S.holds hx0 hf hpfr hspf (fun q8 c8 w9 e9 ht8=>?_);have S:=S.go e9)
   |exact hK30 _ _ ⟨_,_,_,_,_,_,rfl,ht7,ht8,S⟩
   |exact hK30 _ _ ⟨_,_,_,_,_,_,rfl,ht7,ht8,S.swap⟩
   |refine ⟨?_,?_⟩)
 clear S
 rintro _ w33 ⟨b7,b8,q7,c7,q8,c8,rfl,ht7,ht8,S⟩ d33
 simp only [List.getD_cons_zero,List.getD_cons_succ]
 refine gg_ ?_
 refine zf (c:=decide (tm<3)) (fun _ K2 hK2=>?_) ?_
 ·refine gg_ ?_
  exact hK2
 refine S.ldB (b:=b2) ?_ rfl
 refine gp_ ?_
 refine S.ldN (b:=b3) ?_
 refine kj S.holds hx0 hf hoa hopa fun q10 c10 w34 e34 hta=>?_
 have S:=S.go e34
 refine gp_ ?_
 refine gp_ ?_
 refine S.al fun b10 w35 S=>?_
 refine S.stB (b:=b10) fun w36 S=>?_
 refine S.ldB (b:=b2) ?_ rfl
 refine gp_ ?_
 refine S.ldN (b:=b3) ?_
 refine kj S.holds hx0 hf hob hopb fun q12 c12 w37 e37 htb=>?_
 have S:=S.go e37
 refine gp_ ?_
 refine gp_ ?_
 refine S.al fun b12 w38 S=>?_
 refine S.stB (b:=b12) fun w39 S=>?_
 refine gg_ ?_
 refine zk (fun ho=>?_) (fun ho=>?_)
 ·rw [if_pos ho] at h
  refine S.ldB (b:=b3) ?_ rfl
  refine gp_ ?_
  refine yb (f:={ to:=true,a:=true }) S.holds hp0 fun w31 e31=>?_
  have S:=S.go e31
  refine zf (c:=tok&&decide (tm<3)) (fun _ K2 hK2=>hK2) ?_
  refine zf (c:=aok) (fun _ K2 hK2=>hK2) ?_
  refine zs (c:=zO yg ta tt) (fun _ K2 hK2=>?_) fun w32 e32=>h _ (S.go e32).ext
  refine S.ldB (b:=b10) ?_ rfl
  refine gp_ ?_
  refine S.ldN (b:=b7) ?_
  exact kK S.holds hta ht7 fun w33 e33=>hK2 _ e33
 rw [if_neg ho] at h
 clear ho
 refine gg_ ?_
 refine zk (fun ho=>?_) (fun ho=>?_)
 ·rw [if_pos ho] at h
  refine S.ldB (b:=b3) ?_ rfl
  refine gp_ ?_
  refine yb (f:={ to:=true,a:=true,b:=true,sign:=true }) S.holds hp0 fun w31 e31=>?_
  have S:=S.go e31
  refine gp_ ?_
  refine zj (c:=!(tok&&decide (tm<3))) (fun _ K2 hK2=>?_) ?_
  ·refine gp_ ?_
   exact hK2
  refine zj (c:=!aok) (fun _ K2 hK2=>?_) ?_
  ·refine gp_ ?_
   exact hK2
  refine zj (c:=!bok) (fun _ K2 hK2=>?_) ?_
  ·refine gp_ ?_
   exact hK2
  refine c_b (fun hc=>?_) (fun hc=>?_)
  ·rw [bb4 hc,Bool.false_and] at h
   exact h _ S.ext
  rw [akU hc,Bool.true_and] at h
  refine S.ldB (b:=b10) ?_ rfl
  refine yp S.holds fun w34 e34=>?_
  have S:=S.go e34
  refine zs (c:=isK tb 1) (fun hb K2 hK2=>?_) fun w32 e32=>?_
  ·refine S.ldB (b:=b12) ?_ rfl
   exact yp S.holds fun w33 e33=>hK2 _ e33
  have S:=S.go e32
  refine gg_ ?_
  refine zp (fun s w'=>s = [.bool (yd p.sign [[43],[45],[42],[47],[37]])]∧Ext w32 w') (fun K9 hK9=>?_) ?_
  ·have hk:=hK9 _ _ ⟨rfl,Ext.refl _⟩
   simp only [yd,List.any_cons,List.any_nil,Bool.or_false] at hk
   refine gp_ ?_
   refine kA hk fun _ hk=>?_
   refine gp_ ?_
   refine kA hk fun _ hk=>?_
   refine gp_ ?_
   refine kA hk fun _ hk=>?_
   refine gp_ ?_
   refine kA hk fun _ hk=>?_
   refine gp_ ?_
   exact hk
  rintro _ w41 ⟨rfl,e41⟩ d41
  have S:=S.go e41
  rw [List.getD_cons_zero]
  refine c_b (fun hs=>?_) (fun hs=>?_)
  ·rw [if_pos hs] at h
   refine gp_ ?_
   refine S.ldN (b:=b7) ?_
   refine yp S.holds fun w35 e35=>?_
   have S:=S.go e35
   exact zf (c:=isK ta 1&&isK tb 1) (fun _ K2 hK2=>hK2) (h _ S.ext)
  rw [if_neg (by rw [hs];decide)] at h
  refine zp (fun s w'=>s = [.bool (yd p.sign [[60],[60,61],[62],[62,61]])]∧Ext w41 w') (fun K9 hK9=>?_) ?_
  ·have hk:=hK9 _ _ ⟨rfl,Ext.refl _⟩
   simp only [yd,List.any_cons,List.any_nil,Bool.or_false] at hk
   refine gp_ ?_
   refine kA hk fun _ hk=>?_
   refine gp_ ?_
   refine kA hk fun _ hk=>?_
   refine gp_ ?_
   refine kA hk fun _ hk=>?_
   refine gp_ ?_
   exact hk
  rintro _ w41 ⟨rfl,e41⟩ d41
  have S:=S.go e41
  rw [List.getD_cons_zero]
  refine c_b (fun hs=>?_) (fun hs=>?_)
  ·rw [if_pos hs] at h
   refine gp_ ?_
   refine S.ldN (b:=b7) ?_
   refine yp S.holds fun w35 e35=>?_
   have S:=S.go e35
   exact zf (c:=isK ta 1&&isK tb 1) (fun _ K2 hK2=>hK2) (h _ S.ext)
  rw [if_neg (by rw [hs];decide)] at h
  refine zp (fun s w'=>s = [.bool (yd p.sign [[61,61],[33,61]])]∧Ext w41 w') (fun K9 hK9=>?_) ?_
  ·have hk:=hK9 _ _ ⟨rfl,Ext.refl _⟩
   simp only [yd,List.any_cons,List.any_nil,Bool.or_false] at hk
   refine gp_ ?_
   refine kA hk fun _ hk=>?_
   refine gp_ ?_
   exact hk
  rintro _ w41 ⟨rfl,e41⟩ d41
  have S:=S.go e41
  rw [List.getD_cons_zero]
  refine c_b (fun hs=>?_) (fun hs=>?_)
  rotate_left
  ·rw [if_neg (by rw [hs];decide)] at h
   exact h _ S.ext
  rw [if_pos hs] at h
  refine gp_ ?_
  refine S.ldN (b:=b7) ?_
  refine yp S.holds fun w35 e35=>?_
  have S:=S.go e35
  generalize isK tt 2=x1 at h ⊢
  generalize (isK ta 1&&isK tb 1)=x2 at h ⊢
  cases x1 with
  |false=>
   (intro K9 hK9;refine gd_ ?_;refine hK9 _ _ fun _=>?_;clear hK9 K9)
   (intro K9 hK9;refine gd_ ?_;refine hK9 _ _ fun _=>?_;clear hK9 K9)
   (intro K9 hK9;refine gd_ ?_;refine hK9 _ _ fun _=>?_;clear hK9 K9)
   (intro K9 hK9;refine gd_ ?_;refine hK9 _ _ fun _=>?_;clear hK9 K9)
   (intro K9 hK9;refine gd_ ?_;refine hK9 _ _ fun _=>?_;clear hK9 K9)
   refine gd_ ?_
   exact h _ S.ext
  |true=>
   cases x2 with
   |true=>
    (intro K9 hK9;refine gd_ ?_;refine hK9 _ _ fun _=>?_;clear hK9 K9)
    (intro K9 hK9;refine gd_ ?_;refine hK9 _ _ fun _=>?_;clear hK9 K9)
    (intro K9 hK9;refine gd_ ?_;refine hK9 _ _ fun _=>?_;clear hK9 K9)
    (intro K9 hK9;refine gd_ ?_;refine hK9 _ _ fun _=>?_;clear hK9 K9)
    (intro K9 hK9;refine gd_ ?_;refine hK9 _ _ fun _=>?_;clear hK9 K9)
    refine gd_ ?_
    exact h _ S.ext
   |false=>
    (intro K9 hK9;refine gd_ ?_;refine hK9 _ _ fun _=>?_;clear hK9 K9)
    refine zp (fun s w'=>s = [.bool (isK ta 2)]∧Ext w35 w') (fun K9 hK9=>?_) ?_
    ·refine gd_ ?_
     exact yp S.holds fun w36 e36=>hK9 _ _ ⟨rfl,e36⟩
    rintro _ w37 ⟨rfl,e37⟩ d37
    have S:=S.go e37
    generalize isK ta 2=x3 at h ⊢
    cases x3 with
    |false=>
     (intro K9 hK9;refine gd_ ?_;refine hK9 _ _ fun _=>?_;clear hK9 K9)
     (intro K9 hK9;refine gd_ ?_;refine hK9 _ _ fun _=>?_;clear hK9 K9)
     (intro K9 hK9;refine gd_ ?_;refine hK9 _ _ fun _=>?_;clear hK9 K9)
     refine gd_ ?_
     exact h _ S.ext
    |true=>
     refine zp (fun s w'=>s = [.bool (isK tb 2)]∧Ext w37 w') (fun K9 hK9=>?_) ?_
     ·refine gd_ ?_
      exact yp S.holds fun w36 e36=>hK9 _ _ ⟨rfl,e36⟩
     rintro _ w38 ⟨rfl,e38⟩ d38
     have S:=S.go e38
     generalize isK tb 2=x4 at h ⊢
     (intro K9 hK9;refine gd_ ?_;refine hK9 _ _ fun _=>?_;clear hK9 K9)
     (intro K9 hK9;refine gd_ ?_;refine hK9 _ _ fun _=>?_;clear hK9 K9)
     refine gd_ ?_
     cases x4<;>exact h _ S.ext
 rw [if_neg ho] at h
 clear ho
 refine gg_ ?_
 refine zk (fun ho=>?_) (fun ho=>?_)
 ·rw [if_pos ho] at h
  refine S.mkMap fun b70 w70 S=>?_
  refine S.mapAdd mpK (by intro m hm;cases hm) rfl fun w71 S=>?_
  refine S.mapAdd mpK (by intro m hm;rcases List.mem_cons.1 hm with rfl|hm<;>first|exact ⟨_,rfl⟩|cases hm) (by decide) fun w72 S=>?_
  refine gg_ ?_
  refine S.mapGet mpK mpZ (by
   intro m hm
   rcases List.mem_cons.1 hm with rfl|hm
   ·exact ⟨_,rfl⟩
   rcases List.mem_cons.1 hm with rfl|hm<;>first|exact ⟨_,rfl⟩|cases hm) ?_
  obtain ⟨ks,hks,hk2⟩:=aiX p.sign (isK tt) (isK ta)
  rw [hks]
  refine S.ldB (b:=b3) ?_ rfl
  refine gp_ ?_
  refine yb (f:={ to:=true,a:=true,sign:=true }) S.holds hp0 fun w31 e31=>?_
  have S:=S.go e31
  refine zf (c:=tok&&decide (tm<3)) (fun _ K2 hK2=>hK2) ?_
  refine zf (c:=aok) (fun _ K2 hK2=>hK2) ?_
  refine zf (c:=decide (ks≠0)) (fun _ K2 hK2=>?_) ?_
  ·refine gp_ ?_
   exact hK2
  refine zs (c:=isK tt ks) (fun hb K2 hK2=>?_) fun w32 e32=>?_
  ·refine gp_ ?_
   refine S.ldN (b:=b7) ?_
   exact yp S.holds fun w33 e33=>hK2 _ e33
  have S:=S.go e32
  refine zs (c:=isK ta ks) (fun hb K2 hK2=>?_) fun w32 e32=>?_
  ·refine S.ldB (b:=b10) ?_ rfl
   exact yp S.holds fun w33 e33=>hK2 _ e33
  have S:=S.go e32
  have:=h _ S.ext
  rw [← hk2] at this
  simpa only [Bool.and_assoc] using this
 rw [if_neg ho] at h
 clear ho
 refine gg_ ?_
 refine zk (fun ho=>?_) (fun ho=>?_)
 ·rw [if_pos ho] at h
  have S:=S.go (Ext.drew _)
  refine S.ldB (b:=b3) ?_ rfl
  refine gp_ ?_
  refine yb (f:={ to:=true,fr:=true,mu:=true }) S.holds hp0 fun w31 e31=>?_
  have S:=S.go e31
  refine zf (c:=tok&&decide (tm<3)) (fun _ K2 hK2=>hK2) ?_
  refine zf (c:=fok) (fun _ K2 hK2=>?_) ?_
  ·refine gg_ ?_
   exact hK2
  refine zs (c:=isK tt 4) (fun hb K2 hK2=>?_) fun w32 e32=>?_
  ·refine gp_ ?_
   refine S.ldN (b:=b7) ?_
   exact yp S.holds fun w33 e33=>hK2 _ e33
  have S:=S.go e32
  refine zf (c:=tt.m == p.mu) (fun _ K2 hK2=>?_) ?_
  ·refine gg_ ?_
   exact hK2
  refine zs (c:=zO yg (tt.of.headD yc) ft) (fun hb K2 hK2=>?_) fun w33 e33=>?_
  ·simp only [Bool.and_eq_true] at hb
   obtain ⟨uu,hof⟩:=inside hb.1.1.1.2.1 (.inr (of_decide_eq_true hb.1.2))
   obtain ⟨bo,oo,q2,cap2,rfl,ht2,hcc⟩:=Zg ht7 hof
   have hl1 : tt.of.length=1:=by rw [hof];rfl
   rw [hof] at hK2
   refine gg_ ?_
   refine zq (n:=5) (c:=tyL uu q2 cap2) rfl (fun j v hj=>by simpa using S.at (hcc j v hj)) ?_
   refine gp_ ?_
   refine S.ldN (b:=b8) ?_
   exact kK S.holds ht2 ht8 fun w34 e34=>hK2 _ e34
  have S:=S.go e33
  have:=h _ S.ext
  rw [← Bool.and_assoc] at this
  generalize ((((((zB p { to:=true,fr:=true,mu:=true } && (tok&&decide (tm<3)))&&fok)&&isK tt 4)&&(tt.m == p.mu))&&zO yg (tt.of.headD yc) ft))=B at this ⊢
  cases B with
  |false=>
   (intro K9 hK9;refine gd_ ?_;refine hK9 _ _ fun _=>?_;clear hK9 K9)
   (intro K9 hK9;refine gd_ ?_;refine hK9 _ _ fun _=>?_;clear hK9 K9)
   (intro K9 hK9;refine gd_ ?_;refine hK9 _ _ fun _=>?_;clear hK9 K9)
   refine gd_ ?_
   exact this
  |true=>
   refine zp (fun s w'=>s = [.bool p.mu]∧w'=w33) (fun K9 hK9=>?_) ?_
   ·refine gd_ ?_
    exact hK9 _ _ ⟨rfl,rfl⟩
   rintro _ w33 ⟨rfl,rfl⟩ d33
   generalize p.mu=mu at this ⊢
   cases mu with
   |false=>
    (intro K9 hK9;refine gd_ ?_;refine hK9 _ _ fun _=>?_;clear hK9 K9)
    (intro K9 hK9;refine gd_ ?_;refine hK9 _ _ fun _=>?_;clear hK9 K9)
    refine gd_ ?_
    exact this
   |true=>
    refine zp (fun s w'=>s = [.bool (decide (fm=3))]∧w'=w33) (fun K9 hK9=>?_) ?_
    ·refine gd_ ?_
     exact hK9 _ _ ⟨rfl,rfl⟩
    rintro _ w33 ⟨rfl,rfl⟩ d33
    (intro K9 hK9;refine gd_ ?_;refine hK9 _ _ fun _=>?_;clear hK9 K9)
    refine gd_ ?_
    simpa using this
 rw [if_neg ho] at h
 clear ho
 refine gg_ ?_
 refine zk (fun ho=>?_) (fun ho=>?_)
 ·rw [if_pos ho] at h
  have S:=S.go (Ext.drew _)
  refine S.ldB (b:=b3) ?_ rfl
  refine gp_ ?_
  refine yb (f:={ to:=true,a:=true }) S.holds hp0 fun w31 e31=>?_
  have S:=S.go e31
  refine zf (c:=tok&&decide (tm<3)) (fun _ K2 hK2=>hK2) ?_
  refine zf (c:=aok) (fun _ K2 hK2=>hK2) ?_
  refine zs (c:=isK tt 3) (fun hb K2 hK2=>?_) fun w32 e32=>?_
  ·refine gp_ ?_
   refine S.ldN (b:=b7) ?_
   exact yp S.holds fun w33 e33=>hK2 _ e33
  have S:=S.go e32
  refine zs (c:=zO yg (tt.of.headD yc) ta) (fun hb K2 hK2=>?_) fun w33 e33=>h _ (S.go e33).ext
  simp only [Bool.and_eq_true] at hb
  obtain ⟨uu,hof⟩:=inside hb.1.1.2.1 (.inl (of_decide_eq_true hb.2))
  obtain ⟨bo,oo,q2,cap2,rfl,ht2,hcc⟩:=Zg ht7 hof
  have hl1 : tt.of.length=1:=by rw [hof];rfl
  rw [hof] at hK2
  refine gg_ ?_
  refine zq (n:=5) (c:=tyL uu q2 cap2) rfl (fun j v hj=>by simpa using S.at (hcc j v hj)) ?_
  refine S.ldB (b:=b10) ?_ rfl
  exact kK S.holds ht2 hta fun w34 e34=>hK2 _ e34
 rw [if_neg ho] at h
 clear ho
 refine gg_ ?_
 refine zk (fun ho=>?_) (fun ho=>?_)
 ·rw [if_pos ho] at h
  refine S.ldB (b:=b3) ?_ rfl
  refine gp_ ?_
  refine yb (f:={ to:=true,args:=true,st:=true }) S.holds hp0 fun w31 e31=>?_
  have S:=S.go e31
  refine gp_ ?_
  refine zj (c:=!(tok&&decide (tm<3))) (fun _ K2 hK2=>?_) ?_
  ·refine gp_ ?_
   exact hK2
  refine yP (c:=!isK tt 5) (fun _ K2 hK2=>?_) fun w32 e32=>?_
  ·refine gp_ ?_
   refine S.ldN (b:=b7) ?_
   refine yp S.holds fun w33 e33=>?_
   refine gp_ ?_
   exact hK2 _ e33
  have S:=S.go e32
  refine zj (c:=decide (tt.st≠p.st)) (fun _ K2 hK2=>?_) ?_
  ·refine gg_ ?_
   exact hK2
  refine c_b (fun hc=>?_) (fun hc=>?_)
  ·rw [bb3 hc,Bool.false_and] at h
   exact h _ S.ext
  rw [akV hc,Bool.true_and] at h
  refine gg_ ?_
  refine S.ldN (b:=b7) ?_
  refine aci S.holds hst ht7 fun q9 cp9 top gs w35 e35 n35 hfd hcp=>?_
  have S:=S.new e35 n35
  refine gp_ ?_
  refine gp_ ?_
  refine acX (r:=((r.or (top.or (un gs 0 (yl u.ss tt).1.length))).or (Go.Sh.one b2 _ _)).or (Go.Sh.one b3 _ _)) ((S.holdW b2).or (ku (S.blk b3))) (zG (b:=b2)).up (zG (b:=b3)).up hx0.up rfl hf hp0.up (aiT hfd).up fun w44 e44=>?_
  exact h _ (S.go e44).ext
 rw [if_neg ho] at h
 clear ho
 refine gg_ ?_
 refine zk (fun ho=>?_) (fun ho=>?_)
 ·rw [if_pos ho] at h
  refine S.ldB (b:=b3) ?_ rfl
  refine gp_ ?_
  refine yb (f:={ to:=true,args:=true,fn:=true }) S.holds hp0 fun w31 e31=>?_
  have S:=S.go e31
  refine gp_ ?_
  refine zj (c:=!(tok&&decide (tm<3))) (fun _ K2 hK2=>?_) ?_
  ·refine gp_ ?_
   exact hK2
  refine zj (c:=decide (p.fn<0)) (fun _ K2 hK2=>?_) ?_
  ·refine gg_ ?_
   exact hK2
  refine zj (c:=decide ((u.fs.length : Int)≤p.fn)) (fun _ K2 hK2=>?_) ?_
  ·refine gg_ ?_
   exact hK2
  refine c_b (fun hc=>?_) (fun hc=>?_)
  ·rw [bb5 hc,Bool.false_and] at h
   exact h _ S.ext
  rw [akW hc,Bool.true_and] at h
  have hfl : 0≤p.fn∧p.fn<u.fs.length:=by
   simp only [Bool.or_eq_false_iff,decide_eq_false_iff_not] at hc;omega
  have hfi : p.fn.toNat<u.fs.length:=by omega
  rw [List.getElem?_eq_getElem hfi] at h
  obtain ⟨bg,og,cg,rfl,hcg,hgg,hgc⟩:=hfn.sl.get (by decide) hfi
  have hfp:=hfs _ (List.getElem_mem hfi)
  generalize u.fs[p.fn.toNat]=fd at h hgg hfp
  obtain ⟨vo2,vt2,vn2,vp2,rfl,hg1,hg2,hg3,hg4⟩:=hgg
  obtain ⟨qo2,co2,rfl,_,_⟩:=hg1.sl.shape
  obtain ⟨qt2,ct2,rfl,_,hct2⟩:=hg2.sl.shape
  obtain ⟨qn2,cn2,rfl,_,_⟩:=hg3.sl.shape
  obtain ⟨qp2,cp2,rfl,_,_⟩:=hg4.sl.shape
  refine gg_ ?_
  refine zq (n:=7) hcg (fun j v hj=>S.at (hgc j v hj)) ?_
  refine S.al fun b20 w50 S=>?_
  refine S.stB (b:=b20) fun w51 S=>?_
  have S:=S.go (Ext.drew _)
  have htl:=X0 hg2.sl
  have htl9 : fd.tys.length≤9223372036854775807:=hg2.few
  obtain ⟨bt2,ot2,cc2,rfl,hcc2,hcl2,hct3⟩:=htl 0 (by omega)
  obtain ⟨q4,cap4,rfl,ht4⟩:=yU hct3
  have hhd : fd.tys.headD yc=fd.tys[0]'(by omega):=by
   rw [List.headD_eq_head?_getD,List.head?_eq_getElem?,List.getElem?_eq_getElem (by omega),Option.getD_some]
  dsimp only at h
  rw [hhd] at h
  refine gp_ ?_
  refine S.ldN (b:=b7) ?_
  refine gg_ ?_
  refine zq (n:=5) hcc2 (fun j v hj=>by simpa using S.at (hcl2 j v hj)) ?_
  refine kK S.holds ht7 ht4 fun w52 e52=>?_
  have S:=S.go e52
  refine zs (c:=yS u.ss g.tys p.args ((fd.tys.drop 1).take fd.pn.toNat)) (fun _ K2 hK2=>?_) fun w53 e53=>h _ (S.go e53).ext
  refine gg_ ?_
  have hl9 : (fd.pn+1).toNat - (1 : Int).toNat=((fd.tys.drop 1).take fd.pn.toNat).length:=by
   rw [List.length_take,List.length_drop];omega
  rw [hl9]
  refine acX (r:=(r.or (Go.Sh.one b2 _ _)).or (Go.Sh.one b3 _ _)) ((S.holdW b2).or (ku (S.blk b3))) (zG (b:=b2)).up (zG (b:=b3)).up hx0.up rfl hf hp0.up (htl.sub (a:=(1 : Int).toNat) (n:=fd.pn.toNat) hct2).up fun w44 e44=>?_
  exact hK2 _ e44
 rw [if_neg ho] at h
 clear ho
 refine gg_ ?_
 refine zk (fun ho=>?_) (fun ho=>?_)
 ·rw [if_pos ho] at h
  refine S.ldB (b:=b3) ?_ rfl
  refine gp_ ?_
  refine yb (f:={ to:=true }) S.holds hp0 fun w31 e31=>?_
  have S:=S.go e31
  refine zf (c:=tok&&decide (tm<3)) (fun _ K2 hK2=>hK2) ?_
  refine zs (c:=isK tt 1) (fun hb K2 hK2=>?_) fun w32 e32=>?_
  ·refine gp_ ?_
   refine S.ldN (b:=b7) ?_
   exact yp S.holds fun w33 e33=>hK2 _ e33
  have S:=S.go e32
  exact h _ S.ext
 rw [if_neg ho] at h
 clear ho
 refine gg_ ?_
 refine zk (fun ho=>?_) (fun ho=>?_)
 ·rw [if_pos ho] at h
  refine S.ldB (b:=b3) ?_ rfl
  refine gp_ ?_
  refine yb (f:={ a:=true }) S.holds hp0 fun w31 e31=>?_
  have S:=S.go e31
  refine zf (c:=aok) (fun _ K2 hK2=>hK2) ?_
  refine zs (c:=isK ta 1) (fun hb K2 hK2=>?_) fun w32 e32=>?_
  ·refine S.ldB (b:=b10) ?_ rfl
   exact yp S.holds fun w33 e33=>hK2 _ e33
  have S:=S.go e32
  exact h _ S.ext
 rw [if_neg ho] at h
 clear ho
 refine gg_ ?_
 refine zk (fun ho=>?_) (fun ho=>?_)
 ·rw [if_pos ho] at h
  refine gg_ ?_
  refine S.ldN (b:=b8) ?_
  refine adu S.holds hst ht8 fun w35 e35=>?_
  have S:=S.go e35
  refine gp_ ?_
  refine gp_ ?_
  refine S.ldB (b:=b3) ?_ rfl
  refine gp_ ?_
  refine yb (f:={ fr:=true }) S.holds hp0 fun w31 e31=>?_
  have S:=S.go e31
  refine zf (c:=fok) (fun _ K2 hK2=>?_) ?_
  ·refine gg_ ?_
   exact hK2
  refine zf (c:=(kL u.ss ft).1) (fun _ K2 hK2=>hK2) ?_
  refine zf (c:=decide (fm<2)) (fun _ K2 hK2=>?_) (h _ S.ext)
  refine gg_ ?_
  exact hK2
 rw [if_neg ho] at h
 clear ho
 refine gg_ ?_
 refine zk (fun ho=>?_) (fun ho=>?_)
 ·rw [if_pos ho] at h
  refine S.ldB (b:=b3) ?_ rfl
  refine gp_ ?_
  refine yb (f:={ fr:=true }) S.holds hp0 fun w31 e31=>?_
  have S:=S.go e31
  refine zf (c:=fok) (fun _ K2 hK2=>?_) ?_
  ·refine gg_ ?_
   exact hK2
  refine zf (c:=decide (0<p.fr.l)) (fun _ K2 hK2=>?_) ?_
  ·refine gg_ ?_
   exact hK2
  refine zf (c:=decide (p.fr.ps.length=0)) (fun _ K2 hK2=>?_) (h _ S.ext)
  refine gg_ ?_
  rw [XD]
  exact hK2
 rw [if_neg ho] at h
 clear ho
 refine gg_ ?_
 refine zk (fun ho=>?_) (fun ho=>?_)
 ·rw [if_pos ho] at h
  refine S.ldB (b:=b3) ?_ rfl
  refine gp_ ?_
  refine yb (f:={ a:=true,el:=true }) S.holds hp0 fun w31 e31=>?_
  have S:=S.go e31
  refine zf (c:=aok) (fun _ K2 hK2=>hK2) ?_
  refine zs (c:=isK ta 2) (fun hb K2 hK2=>?_) fun w32 e32=>?_
  ·refine S.ldB (b:=b10) ?_ rfl
   exact yp S.holds fun w33 e33=>hK2 _ e33
  have S:=S.go e32
  refine zf (c:=vR g p.el) (fun _ K2 hK2=>?_) (h _ S.ext)
  refine gg_ ?_
  exact acW (b:=b5) S hK2
 rw [if_neg ho] at h
 clear ho
 refine gg_ ?_
 refine zp (fun s w'=>s = [.bool (decide (p.op=13∨p.op=14))]∧Ext w39 w') (fun K9 hK9=>?_) ?_
 ·have hk:=hK9 _ _ ⟨rfl,Ext.refl _⟩
  rw [Bool.decide_or] at hk
  refine gp_ ?_
  refine kA hk fun _ hk=>?_
  refine gp_ ?_
  exact hk
 rintro _ w41 ⟨rfl,e41⟩ d41
 have S:=S.go e41
 rw [List.getD_cons_zero]
 refine zk (fun ho=>?_) (fun ho=>?_)
 ·rw [if_pos ho] at h
  refine S.ldB (b:=b3) ?_ rfl
  refine gp_ ?_
  refine yb (f:={}) S.holds hp0 fun w31 e31=>h _ (S.go e31).ext
 ·rw [if_neg ho] at h
  exact h _ S.ext
end Go.Proofs
end
section
namespace Go.Proofs
open Go.Sh
set_option linter.unusedVariables false
theorem jg {u : UnD} : ∀ {l : List GrD} {i : Nat},jd u i l=none↔∀ (j : Nat) (h : j<l.length),yT u (i+j) l[j]=true
 |[],i=>⟨fun _ j h=>absurd h (Nat.not_lt_zero _),fun _=>rfl⟩
 |g::l,i=>by
  rw [jd]
  constructor
  ·intro h j hj
   split at h
   ·rename_i hg
    cases j with
    |zero=>exact hg
    |succ j=>
     have:=(jg (l:=l) (i:=i+1)).1 h j (by simpa using hj)
     rw [List.getElem_cons_succ,show i+(j+1)=i+1+j by omega];exact this
   ·cases h
  ·intro h
   rw [if_pos (show yT u i g=true from h 0 (Nat.zero_lt_succ _))]
   refine (jg (l:=l) (i:=i+1)).2 fun j hj=>?_
   have:=h (j+1) (by simpa using hj)
   rwa [List.getElem_cons_succ,show i+(j+1)=i+1+j by omega] at this
theorem Ya {u : UnD} {g : GrD} : ∀ {l : List PtD} {q : Nat},Z9 u g q l=none↔∀ p ∈ l,zR u g p=true
 |[],q=>⟨fun _ p h=>(by cases h),fun _=>rfl⟩
 |x::l,q=>by
  rw [Z9]
  constructor
  ·intro h p hp
   split at h
   ·rename_i hx
    rcases List.mem_cons.1 hp with rfl|hp
    ·exact hx
    ·exact (Ya (l:=l) (q:=q+1)).1 h p hp
   ·cases h
  ·intro h
   rw [if_pos (h x List.mem_cons_self)]
   exact (Ya (l:=l) (q:=q+1)).2 fun p hp=>h p (List.mem_cons_of_mem _ hp)
theorem Xi {u : UnD} : ∀ {l : List GrD} {i : Nat},YB u i l=none↔∀ g ∈ l,∀ p ∈ g.pts,zR u g p=true
 |[],i=>⟨fun _ g h=>(by cases h),fun _=>rfl⟩
 |x::l,i=>by
  rw [YB]
  constructor
  ·intro h g hg
   split at h
   ·cases h
   ·rename_i hx
    rcases List.mem_cons.1 hg with rfl|hg
    ·exact Ya.1 hx
    ·exact (Xi (l:=l) (i:=i+1)).1 h g hg
  ·intro h
   rw [Ya.2 (h x List.mem_cons_self)]
   exact (Xi (l:=l) (i:=i+1)).2 fun g hg=>h g (List.mem_cons_of_mem _ hg)
structure MayU (u : UnD) : Prop where
 ok : (zw u.ss).2=0
 fs1 : 1≤u.fs.length
 fs32 : u.fs.length≤32
 mn0 : 0≤u.mn
 mn1 : u.mn<u.fs.length
 head : ∀ (i : Nat) (h : i<u.fs.length),yT u i u.fs[i]=true
 pts : ∀ g ∈ u.fs,∀ p ∈ g.pts,zR u g p=true
theorem ah1 {u : UnD} (h : MayU u) : je u=(0,0,0):=by
 have h1:=h.fs1;have h2:=h.fs32;have h3:=h.mn0;have h4:=h.mn1
 unfold je
 rw [if_neg (by rw [h.ok,decide_eq_false (show ¬ u.fs.length<1 by omega),decide_eq_false (show ¬ 32<u.fs.length by omega),decide_eq_false (show ¬ u.mn<0 by omega),decide_eq_false (show ¬ (u.fs.length : Int)≤u.mn by omega)];decide),
  jg.2 (fun j hj=>by rw [Nat.zero_add];exact h.head j hj)]
 dsimp only
 rw [Xi.2 h.pts]
theorem ah2 {u : UnD} (h : (je u).2.2=0) : MayU u:=by
 unfold je at h
 split at h
 ·cases h
 ·rename_i h1
  split at h
  ·cases h
  ·rename_i h2
   split at h
   ·cases h
   ·rename_i h3
    simp only [Bool.or_eq_true,Bool.not_eq_true',decide_eq_false_iff_not,decide_eq_true_eq,not_or] at h1
    obtain ⟨⟨h4,h5,h6⟩,h7,h8⟩:=h1
    exact ⟨by omega,by omega,by omega,by omega,by omega,fun i hi=>by have:=jg.1 h2 i hi;rwa [Nat.zero_add] at this,Xi.1 h3⟩
theorem aaC {u : UnD} : vS u=true↔MayU u:=by
 rw [vS,decide_eq_true_eq]
 exact ⟨ah2,fun h=>by rw [ah1 h]⟩
structure HeadU (u : UnD) (fn : Nat) (g : GrD) : Prop where
 lv0 : 0≤g.lv
 lv8 : g.lv≤8
 pn0 : 0≤g.pn
 pn8 : g.pn≤8
 pn1 : g.pn<g.tys.length
 ty512 : g.tys.length≤512
 nms : g.nms.length=g.tys.length
 tys : qY u g 0 g.tys=true
 pt1 : 1≤g.pts.length
 pt1024 : g.pts.length≤1024
 outs : qN g=true
 loans : yo g.pts≤256
 main : (fn : Int)=u.mn→g.lv=0∧g.pn=0∧(g.tys.headD yc).k=1
theorem abr {u : UnD} {fn : Nat} {g : GrD} (h : yT u fn g=true) : HeadU u fn g:=by
 simp only [yT,Bool.and_eq_true,Bool.or_eq_true,Bool.not_eq_true',decide_eq_true_eq,decide_eq_false_iff_not,isK] at h
 obtain ⟨⟨⟨⟨⟨⟨⟨h1,h2⟩,h3,h4⟩,h5,h6⟩,h7⟩,h8⟩,⟨h9,h10⟩,h11⟩,h12,h13⟩:=h
 exact ⟨h1,h2,h3,h4,by omega,h6,h7,h8,h9,h10,h11,h12,fun e=>by rcases h13 with h|⟨⟨h,h'⟩,h2⟩
                                                               ·exact absurd e h
                                                               ·exact ⟨h,h',h2⟩⟩
theorem HeadU.fine {u : UnD} {fn : Nat} {g : GrD} (h : HeadU u fn g) (ok : (zw u.ss).2=0) : xq u.ss g.tys:=by
 obtain ⟨h1,h2,h3,h4,_⟩:=xS ok
 exact ⟨h1,h3,h4,fun t ht=>(Yz (aeP h.tys t ht)).2⟩
theorem MayU.hd {u : UnD} (h : MayU u) {i : Nat} (hi : i<u.fs.length) : HeadU u i u.fs[i]:=abr (h.head i hi)
end Go.Proofs
end
section
namespace Go.Sh
theorem aiY {w : World} {A2 : (List Value→World→Prop)→Prop} {A3 A4 A5 : (List Value→World→Prop)→World→Prop} {Z : Value→World→Prop} {b1 b2 b3 b4 b5 : Bool}
  (h2 : ∀ K : List Value→World→Prop,K [.bool b2] w→A2 K) (h3 : ∀ K : List Value→World→Prop,K [.bool b3] w→A3 K w) (h4 : ∀ K : List Value→World→Prop,K [.bool b4] w→A4 K w) (h5 : ∀ K : List Value→World→Prop,K [.bool b5] w→A5 K w)
  (hZ : Z (.bool (b1&&(b2||((b3&&b4)&&b5)))) w) :
  za (fun K=>gIf (.bool b1) true (A2 K) (K [undef] w)) fun s64 _ w66=>
   za (fun K=>gIf (s64.getD 0 undef) false (A3 K w66) (K [undef] w66)) fun s68 _ w70=>
    za (fun K=>gIf (s68.getD 0 undef) true (A4 K w70) (K [undef] w70)) fun s72 _ w74=>
     za (fun K=>gIf (s64.getD 0 undef) false (zb (s68.getD 0 undef) (s72.getD 0 undef) (.bool false) fun t=>K [t] w74) (K [undef] w74)) fun s76 _ w78=>
      za (fun K=>gIf (s76.getD 0 undef) true (A5 K w78) (K [undef] w78)) fun s80 _ w82=>
       za (fun K=>gIf (s64.getD 0 undef) false (zb (s76.getD 0 undef) (s80.getD 0 undef) (.bool false) fun t=>K [t] w82) (K [undef] w82)) fun s84 _ w86=>
        za (fun K=>gIf (.bool b1) true (zb (s64.getD 0 undef) (.bool true) (s84.getD 0 undef) fun t=>K [t] w86) (K [undef] w86)) fun s88 _ w90=>
         zb (.bool b1) (s88.getD 0 undef) (.bool false) fun t=>Z t w90:=by
 cases b1<;>cases b2<;>cases b3<;>cases b4 <;>
  (iterate 7 (intro K hK;first|refine hK _ _ fun _=>?_|refine h2 _ (hK _ _ fun _=>?_)|refine h3 _ (hK _ _ fun _=>?_)|refine h4 _ (hK _ _ fun _=>?_)|refine h5 _ (hK _ _ fun _=>?_)|refine ⟨_,rfl,hK _ _ fun _=>?_⟩)) <;>
  exact ⟨_,rfl,by simpa using hZ⟩
end Go.Sh
namespace Go.Proofs
open Go.Sh
set_option maxRecDepth 100000
set_option linter.unusedSimpArgs false
set_option linter.unusedVariables false
theorem abs {a b : Nat} : decide ((a : Int)≠(b : Int))=decide (a≠b):=decide_eq_decide.2 (by omega)
theorem agk {u : UnD} {g : GrD} {i : Nat} {t : TyD} : tyG u g i t=(mayB u.ss t && !((regsT t).any fun r=>decide (r<(if (i : Int)≤g.pn then 0 else -1))||decide (g.lv≤r))):=by
 rw [tyG,List.not_any_eq_all_not]
set_option maxHeartbeats 4000000 in
theorem aeS {u : UnD} {i : Nat} {v : Value} {w : World} {r : Gh} {K : Value→World→Prop} (hi : i<u.fs.length) (hr : Holds r w) (hu : UnG r v u)
  (h : ∀ w',Ext w w'→K (.bool (yT u i u.fs[i])) w') : zd Tryz.prog Tryz.Yk #[v,.int .i64 i] w K:=by
 obtain ⟨p0,cap0,vf,rfl,_,_,hst,hsl,hfn⟩:=hu
 obtain ⟨qf,capf,rfl,_,_⟩:=hfn.sl.shape
 obtain ⟨bf,of,cf,rfl,hcf,hgc,hfo⟩:=hfn.sl.get (by decide) hi
 refine Tryz.adn ?_
 unfold Tryz.Jc
 generalize hgi : u.fs[i]=g at h hgc
 obtain ⟨vo,vt,vn,vp,rfl,h1,h2,h3,h4⟩:=id hgc
 obtain ⟨qo,capo,rfl,_,_⟩:=h1.sl.shape
 obtain ⟨qt,capt,rfl,_,hct⟩:=h2.sl.shape
 obtain ⟨qn,capn,rfl,_,_⟩:=h3.sl.shape
 obtain ⟨qp,capp,rfl,_,_⟩:=h4.sl.shape
 have hptl : g.pts.length≤9223372036854775807:=h4.few
 have htl : g.tys.length≤9223372036854775807:=h2.few
 have S:=St.start hr
 refine S.box fun b2 w1 S=>?_
 refine gG_ ?_
 refine zq (n:=7) hcf (fun j v hj=>by rw [Int.toNat_natCast];exact S.at (hfo j v hj)) ?_
 refine S.al fun b5 w2 S=>?_
 refine S.stB (b:=b5) fun w3 S=>?_
 refine gG_ ?_
 have no : (HeadU u i g→False)→yT u i g=false:=fun hh=>by
  cases e : yT u i g
  ·rfl
  ·exact (hh (abr e)).elim
 refine zj (c:=decide (8<g.lv)) (fun _ K2 hK2=>?_) ?_
 ·refine gG_ ?_
  exact hK2
 refine zj (c:=decide (g.pn<0)) (fun _ K2 hK2=>?_) ?_
 ·refine gG_ ?_
  exact hK2
 refine zj (c:=decide (8<g.pn)) (fun _ K2 hK2=>?_) ?_
 ·refine gG_ ?_
  exact hK2
 refine zj (c:=decide ((g.tys.length : Int)≤g.pn)) (fun _ K2 hK2=>?_) ?_
 ·refine gG_ ?_
  exact hK2
 refine zj (c:=decide (512<g.tys.length)) (fun _ K2 hK2=>?_) ?_
 ·refine gG_ ?_
  rw [show decide ((512 : Int)<(g.tys.length : Int))=decide (512<g.tys.length) from decide_eq_decide.2 (by omega)]
  exact hK2
 refine zj (c:=decide (g.nms.length≠g.tys.length)) (fun _ K2 hK2=>?_) ?_
 ·refine gG_ ?_
  rw [abs]
  exact hK2
 refine c_b (fun hbad=>?_) (fun hgood=>?_)
 ·rw [no fun H=>by
   have:=H.lv0;have:=H.lv8;have:=H.pn0;have:=H.pn8;have:=H.pn1;have:=H.ty512;have:=H.nms
   simp only [Bool.or_eq_true,decide_eq_true_eq] at hbad;omega] at h
  exact h _ S.ext
 have hnum : (0≤g.lv∧g.lv≤8∧0≤g.pn∧g.pn≤8)∧g.pn<g.tys.length∧g.tys.length≤512∧g.nms.length=g.tys.length:=by
  simp only [Bool.or_eq_false_iff,decide_eq_false_iff_not] at hgood;omega
 clear hgood
 obtain ⟨⟨hlv0,hlv8,hpn0,hpn8⟩,hpn1,hty,hnm⟩:=hnum
 refine gG_ ?_
 refine zi (ι:=Nat) (fun i=>[.int .i64 (i : Nat)]) (fun j w'=>j≤g.tys.length∧qY u g j (g.tys.drop j)=qY u g 0 g.tys∧StX noX w r w' _) (fun i=>g.tys.length - i) 0 rfl ⟨Nat.zero_le _,rfl,S⟩ ?_
 clear S
 rintro j d w5 ⟨hj,hd,S⟩ K6 hK6
 rw [List.getD_cons_zero]
 refine gP_ ?_
 refine zk (fun hlt=>?_) (fun hge=>?_)
 ·have hlt : j<g.tys.length:=by omega
  obtain ⟨bt,ot,ct,rfl,hct,htc,hcell⟩:=h2.sl.get (by decide) hlt
  obtain ⟨q2,cap2,rfl,ht2⟩:=yU htc
  rw [ac4 hlt] at hd
  refine gP_ ?_
  refine zq (n:=5) hct (fun j v hj=>by rw [Int.toNat_natCast];exact S.at (hcell j v hj)) ?_
  refine S.al fun b7 w6 S=>?_
  refine S.stB (b:=b7) fun w7 S=>?_
  refine gG_ ?_
  refine XB S.holds hst ht2 fun w8 e8=>?_
  have S:=S.go e8
  refine gP_ ?_
  refine c_b (fun hm=>?_) (fun hm=>?_)
  ·have hm : mayB u.ss g.tys[j]=false:=by simpa using hm
   rw [no fun H=>by
    have:=H.tys
    rw [← hd,tyG,hm,Bool.false_and,Bool.false_and] at this;cases this] at h
   exact h _ S.ext
  have hm : mayB u.ss g.tys[j]=true:=by simpa using hm
  refine S.al fun b8 w9 S=>?_
  refine S.st (b:=b8) fun w10 S=>?_
  refine zp (fun _ w'=>StX noX w r w' [.cell b8 [.int .i64 (if (j : Int)≤g.pn then 0 else -1)] 3,.cell b7 (tyL g.tys[j] q2 cap2) 93,.cell b5 [.string g.name,.int .i64 g.lv,.slice qo g.outs.length capo,.int .i64 g.pn,.slice (some ⟨bt,ot,none⟩) g.tys.length capt,.slice qn g.nms.length capn,.slice qp g.pts.length capp] 43,
   .cell b2 [.slice p0 u.ss.length cap0,.slice (some ⟨bf,of,none⟩) u.fs.length capf,.int .i64 u.mn] 25]) (fun K3 hK3=>?_) ?_
  ·refine gG_ ?_
   refine zk (fun hle=>?_) (fun hgt=>?_)
   ·refine S.st (b:=b8) fun w11 S=>?_
    refine hK3 [] _ ?_
    rw [if_pos hle];exact S
   ·refine hK3 [] _ ?_
    rw [if_neg hgt];exact S
  clear S
  rintro _ w11 S d11
  refine S.ldB (b:=b7) ?_ rfl
  refine Xd S.holds ht2 fun v7 w12 e12 o12=>?_
  have S:=S.go e12
  obtain ⟨p7,cap7,rfl,_,_,_,hs7⟩:=Ja o12
  refine gP_ ?_
  have hr48 : (regsT g.tys[j]).length≤1000:=by
   rw [regsT];split
   ·have:=Xf (by assumption);omega
   ·simp
  refine vD (f:=fun x=>decide (x<(if (j : Int)≤g.pn then 0 else -1))||decide (g.lv≤x)) (fun x K hK=>?_) hs7 (by omega) ?_
  ·refine abc (by kernel_rfl) ?_
   refine Tryz.aa2 ?_
   unfold Tryz.XM
   refine S.ld (b:=b8) ?_ rfl
   refine gP_ ?_
   refine zj (c:=decide (g.lv≤x)) (fun _ K2 hK2=>?_) hK
   refine gG_ ?_
   exact hK2
  have hty : tyG u g j g.tys[j] = !((regsT g.tys[j]).any fun x=>decide (x<(if (j : Int)≤g.pn then 0 else -1))||decide (g.lv≤x)):=by
   rw [agk,hm,Bool.true_and]
  refine c_b (fun hx=>?_) (fun hx=>?_)
  ·rw [hty,hx,Bool.not_true,Bool.false_and] at hd
   rw [no fun H=>by have:=H.tys;rw [← hd] at this;cases this] at h
   exact h _ S.ext
  ·rw [hty,hx,Bool.not_false,Bool.true_and] at hd
   refine gP_ ?_
   rw [show ((j : Int)+1)=((j+1 : Nat) : Int) by omega]
   exact hK6 (j+1) _ ⟨hlt,hd,(S.drop b8).drop b7⟩ (by omega)
 have hje : j=g.tys.length:=by omega
 rw [hje,List.drop_length] at hd
 have htys : qY u g 0 g.tys=true:=hd.symm
 clear hd hK6 K6 hge hj hje
 refine gG_ ?_
 refine zj (c:=decide (1024<g.pts.length)) (fun _ K2 hK2=>?_) ?_
 ·refine gG_ ?_
  rw [show decide ((1024 : Int)<(g.pts.length : Int))=decide (1024<g.pts.length) from decide_eq_decide.2 (by omega)]
  exact hK2
 refine yP (c:=!qN g) (fun _ K2 hK2=>?_) fun w20 e20=>?_
 ·refine S.ldB (b:=b5) ?_ rfl
  refine aaA S.holds hgc hlv0 hlv8 hpn0 hpn1 (fun t ht x hx=>?_) fun w21 e21=>?_
  ·obtain ⟨k,hk,rfl⟩:=List.getElem_of_mem ht
   rw [List.length_take] at hk
   rw [List.getElem_take] at hx
   have:=aay htys (j:=k) (by omega) (by omega) x hx
   omega
  refine gP_ ?_
  exact hK2 _ e21
 have S:=S.go e20
 refine c_b (fun hbad=>?_) (fun hgood=>?_)
 ·rw [no fun H=>by
   have:=H.pt1;have:=H.pt1024;have h3:=H.outs
   rw [h3] at hbad
   simp only [Bool.or_eq_true,decide_eq_true_eq,Bool.not_true,Bool.false_eq_true,or_false] at hbad;omega] at h
  exact h _ S.ext
 have hnum : (1≤g.pts.length∧g.pts.length≤1024)∧qN g=true:=by
  cases ho : qN g
  ·rw [ho] at hgood;simp at hgood
  ·simp only [Bool.or_eq_false_iff,decide_eq_false_iff_not] at hgood
   exact ⟨by omega,rfl⟩
 clear hgood
 obtain ⟨⟨hp1,hp1024⟩,hout⟩:=hnum
 refine gG_ ?_
 refine zi (ι:=Nat) (fun i=>[.int .i64 (yo (g.pts.take i) : Nat),.int .i64 (i : Nat)]) (fun j w'=>j≤g.pts.length∧yo (g.pts.take j)≤j∧StX noX w r w' _) (fun i=>g.pts.length - i) 0 rfl ⟨Nat.zero_le _,Nat.le_refl _,S⟩ ?_
 clear S
 rintro j d w22 ⟨hj,hlj,S⟩ K7 hK7
 simp only [List.getD_cons_zero,List.getD_cons_succ]
 refine gP_ ?_
 refine zk (fun hlt=>?_) (fun hge=>?_)
 ·have hlt : j<g.pts.length:=by omega
  obtain ⟨bp,op,cp,rfl,hcp,hpc,hcell⟩:=h4.sl.get (by decide) hlt
  refine zp (fun s w'=>s = [.int .i64 (yo (g.pts.take (j+1)) : Nat)]∧StX noX w r w' [.cell b5 [.string g.name,.int .i64 g.lv,.slice qo g.outs.length capo,.int .i64 g.pn,.slice qt g.tys.length capt,.slice qn g.nms.length capn,.slice (some ⟨bp,op,none⟩) g.pts.length capp] 43,
   .cell b2 [.slice p0 u.ss.length cap0,.slice (some ⟨bf,of,none⟩) u.fs.length capf,.int .i64 u.mn] 25]) (fun K3 hK3=>?_) ?_
  ·refine gP_ ?_
   refine zq (n:=21) hcp (fun j v hj=>by rw [Int.toNat_natCast];exact S.at (hcell j v hj)) ?_
   obtain ⟨vto,va,vb,vl,vfr,rfl,k1,k2,k3,k4,k5⟩:=hpc
   obtain ⟨_,_,rfl,_⟩:=k1.sl.shape
   obtain ⟨_,_,rfl,_⟩:=k2.sl.shape
   obtain ⟨_,_,rfl,_⟩:=k3.sl.shape
   obtain ⟨_,_,rfl,_⟩:=k4.sl.shape
   obtain ⟨_,_,rfl,_⟩:=k5.sl.shape
   refine S.al fun b11 w23 S=>?_
   refine S.stB (b:=b11) fun w24 S=>?_
   refine gG_ ?_
   have hlo:=Qi hlt
   refine zk (fun ho=>?_) (fun ho=>?_)
   ·rw [if_pos ho] at hlo
    refine gP_ ?_
    rw [show ((yo (g.pts.take j) : Nat) : Int)+1=((yo (g.pts.take (j+1)) : Nat) : Int) by omega]
    exact hK3 _ _ ⟨rfl,S.drop b11⟩
   ·rw [if_neg ho] at hlo
    rw [show ((yo (g.pts.take j) : Nat) : Int)=((yo (g.pts.take (j+1)) : Nat) : Int) by omega]
    exact hK3 _ _ ⟨rfl,S.drop b11⟩
  clear S
  rintro _ w25 ⟨rfl,S⟩ d25
  rw [List.getD_cons_zero]
  refine gP_ ?_
  rw [show ((j : Int)+1)=((j+1 : Nat) : Int) by omega]
  refine hK7 (j+1) _ ⟨hlt,?_,S⟩ (by omega)
  rw [Qi hlt];split<;>omega
 have hje : j=g.pts.length:=by omega
 rw [hje,List.take_length]
 refine gP_ ?_
 have hfin : yT u i g=(decide (yo g.pts≤256)&&(decide ((i : Int)≠u.mn)||((decide (g.lv=0)&&decide (g.pn=0))&&isK (g.tys.headD yc) 1))):=by
  rw [yT,htys,hout,decide_eq_true hlv0,decide_eq_true hlv8,decide_eq_true hpn0,decide_eq_true hpn8,decide_eq_true hpn1,decide_eq_true hty,decide_eq_true hnm,decide_eq_true hp1,decide_eq_true hp1024,decide_not];rfl
 rw [hfin] at h
 rw [show decide ((yo g.pts : Int)≤256)=decide (yo g.pts≤256) from decide_eq_decide.2 (by omega)]
 refine aiY (b2:=decide ((i : Int)≠u.mn)) (b3:=decide (g.lv=0)) (b4:=decide (g.pn=0)) (b5:=isK (g.tys.headD yc) 1) (fun K2 hK2=>?_) (fun K2 hK2=>?_) (fun K2 hK2=>?_) (fun K2 hK2=>?_) (h _ S.ext)
 ·refine gG_ ?_
  exact hK2
 ·refine gG_ ?_
  exact hK2
 ·refine gG_ ?_
  exact hK2
 ·have hpos : 0<g.tys.length:=by omega
  obtain ⟨bt,ot,ct,rfl,hct,htc,hcell⟩:=h2.sl.get (by decide) hpos
  obtain ⟨q2,cap2,rfl,ht2⟩:=yU htc
  refine gG_ ?_
  refine zg (v:=.int .u8 g.tys[0].k) (by simpa using S.at (hcell 0 _ rfl)) ?_
  refine gG_ ?_
  have he : g.tys.headD yc=g.tys[0]:=by
   rw [List.headD_eq_head?_getD,List.head?_eq_getElem?,List.getElem?_eq_getElem hpos,Option.getD_some]
  rw [he] at hK2
  exact hK2
theorem ah3 {u : UnD} {i : Nat} {l : List GrD} (hi : i<l.length) : jd u i (l.drop i)=if yT u i l[i] then jd u (i+1) (l.drop (i+1)) else some i:=by
 rw [List.drop_eq_getElem_cons hi];rfl
theorem aiZ {u : UnD} {g : GrD} {q : Nat} {l : List PtD} (hq : q<l.length) : Z9 u g q (l.drop q)=if zR u g l[q] then Z9 u g (q+1) (l.drop (q+1)) else some q:=by
 rw [List.drop_eq_getElem_cons hq];rfl
theorem aj7 {u : UnD} {i : Nat} {l : List GrD} (hi : i<l.length) : YB u i (l.drop i)=match Z9 u l[i] 0 l[i].pts with|some q=>some (i,q)|none=>YB u (i+1) (l.drop (i+1)):=by
 rw [List.drop_eq_getElem_cons hi];rfl
noncomputable def abt (u : UnD) : Int × Int × Int:=match jd u 0 u.fs with
  |some i=>(i,-1,100)
  |none=>match YB u 0 u.fs with
   |some (i,q)=>(i,q,100)
   |none=>(0,0,0)
set_option maxHeartbeats 4000000 in
theorem adA {u : UnD} {v : Value} {w : World} {r : Gh} {K : Value→World→Prop} (hr : Holds r w) (hu : UnG r v u)
  (h : ∀ w',Ext w w'→K (.tuple #[.int .i64 (je u).1,.int .i64 (je u).2.1,.int .i64 (je u).2.2]) w') : zd Tryz.prog Tryz.ZA #[v] w K:=by
 have hu0:=hu
 obtain ⟨p0,cap0,vf,rfl,_,_,hst,hsl,hfn⟩:=hu
 obtain ⟨qf,capf,rfl,_,_⟩:=hfn.sl.shape
 have hfl : u.fs.length≤9223372036854775807:=hfn.few
 refine Tryz.ab8 ?_
 unfold Tryz.QD
 have S:=St.start hr
 refine S.box fun b1 w1 S=>?_
 refine gG_ ?_
 refine Xg S.holds hst fun w2 e2=>?_
 have S:=S.go e2
 refine gS_ ?_
 refine zj (c:=decide (u.fs.length<1)) (fun _ K2 hK2=>?_) ?_
 ·refine gG_ ?_
  rw [show decide ((u.fs.length : Int)<1)=decide (u.fs.length<1) from decide_eq_decide.2 (by omega)]
  exact hK2
 refine zj (c:=decide (32<u.fs.length)) (fun _ K2 hK2=>?_) ?_
 ·refine gG_ ?_
  rw [show decide ((32 : Int)<(u.fs.length : Int))=decide (32<u.fs.length) from decide_eq_decide.2 (by omega)]
  exact hK2
 refine zj (c:=decide (u.mn<0)) (fun _ K2 hK2=>?_) ?_
 ·refine gG_ ?_
  exact hK2
 refine zj (c:=decide ((u.fs.length : Int)≤u.mn)) (fun _ K2 hK2=>?_) ?_
 ·refine gG_ ?_
  exact hK2
 have hC : je u=if ((((decide ((zw u.ss).2≠0)||decide (u.fs.length<1))||decide (32<u.fs.length))||decide (u.mn<0))||decide ((u.fs.length : Int)≤u.mn))=true then (-1,-1,100) else abt u:=by
  rw [je,abt]
  simp only [ne_eq,decide_not,Bool.or_assoc] <;>
  rfl
 rw [hC] at h
 refine c_b (fun hbad=>?_) (fun hgood=>?_)
 ·rw [if_pos hbad] at h
  exact h _ S.ext
 rw [if_neg (by rw [hgood];decide)] at h
 have hok : (zw u.ss).2=0:=by
  simp only [Bool.or_eq_false_iff,decide_eq_false_iff_not] at hgood;omega
 clear hC hgood
 refine gG_ ?_
 refine zi (ι:=Nat × Int) (fun i=>[.int .i64 i.2,.int .i64 0,.int .i64 (i.1 : Nat)]) (fun j w'=>j.1≤u.fs.length∧jd u j.1 (u.fs.drop j.1)=jd u 0 u.fs∧StX noX w r w' _) (fun i=>u.fs.length - i.1) (0,0) rfl ⟨Nat.zero_le _,rfl,S⟩ ?_
 clear S
 rintro ⟨j,a⟩ d w5 ⟨hj,hd,S⟩ K6 hK6
 simp only at hj hd S ⊢
 simp only [List.getD_cons_zero,List.getD_cons_succ]
 refine gP_ ?_
 refine zk (fun hlt=>?_) (fun hge=>?_)
 ·have hlt : j<u.fs.length:=by omega
  rw [ah3 hlt] at hd
  refine S.ldB (b:=b1) ?_ rfl
  refine aeS hlt S.holds hu0 fun w6 e6=>?_
  have S:=S.go e6
  refine gP_ ?_
  refine c_b (fun hx=>?_) (fun hx=>?_)
  ·rw [if_neg (by simpa using hx)] at hd
   rw [abt,← hd] at h
   exact h _ S.ext
  ·rw [if_pos (by simpa using hx)] at hd
   refine gP_ ?_
   rw [show ((j : Int)+1)=((j+1 : Nat) : Int) by omega]
   exact hK6 (j+1,j) _ ⟨hlt,hd,S⟩ (by show u.fs.length - (j+1)<u.fs.length - j;omega)
 have hje : j=u.fs.length:=by omega
 rw [hje,List.drop_length] at hd
 have hnone : jd u 0 u.fs=none:=hd.symm
 have hheads:=fun (i : Nat) (hi : i<u.fs.length)=>abr (by have:=jg.1 hnone i hi;rwa [Nat.zero_add] at this : yT u i u.fs[i]=true)
 rw [abt,hnone] at h
 dsimp only at h
 clear hd hK6 K6 hge hj hje
 refine zp (fun s w'=>Ext w w'∧((∃ x y : Nat,s = [.int .i64 (x : Int),.int .i64 (y : Int),.bool true]∧YB u 0 u.fs=some (x,y))∨∃ x y,s = [x,y,.bool false]∧YB u 0 u.fs=none)) (fun K3 hK3=>?_) ?_
 rotate_left
 ·rintro _ w9 ⟨e9,⟨x,y,rfl,hb⟩|⟨x,y,rfl,hb⟩⟩ d9
  ·rw [hb] at h
   refine c_t rfl ?_
   exact h _ e9
  ·rw [hb] at h
   refine c_f rfl ?_
   exact h _ e9
 refine gG_ ?_
 refine zi (ι:=Nat × Value × Value) (fun i=>[i.2.1,i.2.2,.bool false,.int .i64 (i.1 : Nat)]) (fun j w'=>j.1≤u.fs.length∧YB u j.1 (u.fs.drop j.1)=YB u 0 u.fs∧StX noX w r w' _) (fun i=>u.fs.length - i.1) (0,.int .i64 a,.int .i64 0) rfl ⟨Nat.zero_le _,rfl,S⟩ ?_
 clear S
 rintro ⟨j,x1,x2⟩ d w5 ⟨hj,hd,S⟩ K6 hK6
 simp only at hj hd S ⊢
 simp only [List.getD_cons_zero,List.getD_cons_succ]
 refine gP_ ?_
 refine zk (fun hlt=>?_) (fun hge=>?_)
 rotate_left
 ·have hje : j=u.fs.length:=by omega
  rw [hje,List.drop_length] at hd
  exact hK3 _ _ ⟨S.ext,.inr ⟨_,_,rfl,hd.symm⟩⟩
 have hlt : j<u.fs.length:=by omega
 obtain ⟨bf,of,cf,rfl,hcf,hgc,hfo⟩:=hfn.sl.get (by decide) hlt
 rw [aj7 hlt] at hd
 have hH:=hheads j hlt
 have hfin:=hH.fine hok
 have hpn : ∀ f ∈ u.fs,0≤f.pn∧f.pn<f.tys.length:=fun f hf=>by
  obtain ⟨i,hi,rfl⟩:=List.getElem_of_mem hf
  exact ⟨(hheads i hi).pn0,(hheads i hi).pn1⟩
 generalize hgi : u.fs[j]=g at hd hgc hH hfin
 obtain ⟨vo,vt,vn,vp,rfl,h1,h2,h3,h4⟩:=id hgc
 obtain ⟨qo,capo,rfl,_,_⟩:=h1.sl.shape
 obtain ⟨qt,capt,rfl,_,hct⟩:=h2.sl.shape
 obtain ⟨qn,capn,rfl,_,_⟩:=h3.sl.shape
 obtain ⟨qp,capp,rfl,_,_⟩:=h4.sl.shape
 have hptl : g.pts.length≤9223372036854775807:=h4.few
 refine gP_ ?_
 refine zq (n:=7) hcf (fun j v hj=>by rw [Int.toNat_natCast];exact S.at (hfo j v hj)) ?_
 refine S.al fun b9 w6 S=>?_
 refine S.stB (b:=b9) fun w7 S=>?_
 refine S.ldB (b:=b1) ?_ rfl
 refine S.ldB (b:=b9) ?_ rfl
 refine zy (cs:=#[.slice p0 u.ss.length cap0,.slice (some ⟨bf,of,none⟩) u.fs.length capf,.int .i64 u.mn,.string g.name,.int .i64 g.lv,.slice qo g.outs.length capo,.int .i64 g.pn,.slice qt g.tys.length capt,.slice qn g.nms.length capn,.slice qp g.pts.length capp]) (by kernel_rfl) ?_
 refine S.al fun b10 w8 S=>?_
 refine S.stB (b:=b10) fun w9 S=>?_
 refine gG_ ?_
 have hask : AskG r (.agg #[.slice p0 u.ss.length cap0,.slice (some ⟨bf,of,none⟩) u.fs.length capf,.int .i64 u.mn,.string g.name,.int .i64 g.lv,.slice qo g.outs.length capo,.int .i64 g.pn,.slice qt g.tys.length capt,.slice qn g.nms.length capn,.slice qp g.pts.length capp]) u g:=⟨_,_,_,_,_,_,_,rfl,hu0,hgc⟩
 refine zi (ι:=Nat) (fun i=>[x1,x2,.bool false,.int .i64 (i : Nat)]) (fun k w'=>k≤g.pts.length∧Z9 u g k (g.pts.drop k)=Z9 u g 0 g.pts∧StX noX w r w' _) (fun i=>g.pts.length - i) 0 rfl ⟨Nat.zero_le _,rfl,S⟩ ?_
 clear S
 rintro k d w10 ⟨hk,hdk,S⟩ K7 hK7
 simp only [List.getD_cons_zero,List.getD_cons_succ]
 refine gP_ ?_
 refine zk (fun hlt2=>?_) (fun hge=>?_)
 ·have hlt2 : k<g.pts.length:=by omega
  obtain ⟨bp,op,cp,rfl,hcp,hpc,hcell⟩:=h4.sl.get (by decide) hlt2
  rw [aiZ hlt2] at hdk
  refine gP_ ?_
  refine zq (n:=21) hcp (fun j v hj=>by rw [Int.toNat_natCast];exact S.at (hcell j v hj)) ?_
  obtain ⟨vto,va,vb,vl,vfr,rfl,k1,k2,k3,k4,k5⟩:=id hpc
  obtain ⟨_,_,rfl,_⟩:=k1.sl.shape
  obtain ⟨_,_,rfl,_⟩:=k2.sl.shape
  obtain ⟨_,_,rfl,_⟩:=k3.sl.shape
  obtain ⟨_,_,rfl,_⟩:=k4.sl.shape
  obtain ⟨_,_,rfl,_⟩:=k5.sl.shape
  refine S.al fun b12 w11 S=>?_
  refine S.stB (b:=b12) fun w12 S=>?_
  refine S.ldB (b:=b10) ?_ rfl
  refine S.ldB (b:=b12) ?_ rfl
  refine QY S.holds hask hfin hpn hpc fun w13 e13=>?_
  have S:=S.go e13
  refine gP_ ?_
  refine c_b (fun hx=>?_) (fun hx=>?_)
  ·rw [if_neg (by simpa using hx)] at hdk
   rw [← hdk] at hd
   exact hK3 _ _ ⟨S.ext,.inl ⟨j,k,rfl,hd.symm⟩⟩
  ·rw [if_pos (by simpa using hx)] at hdk
   refine gP_ ?_
   rw [show ((k : Int)+1)=((k+1 : Nat) : Int) by omega]
   exact hK7 (k+1) _ ⟨hlt2,hdk,S.drop b12⟩ (by omega)
 have hke : k=g.pts.length:=by omega
 rw [hke,List.drop_length] at hdk
 rw [← hdk] at hd
 refine gP_ ?_
 rw [show ((j : Int)+1)=((j+1 : Nat) : Int) by omega]
 exact hK6 (j+1,x1,x2) _ ⟨hlt,hd,(S.drop b10).drop b9⟩ (by show u.fs.length - (j+1)<u.fs.length - j;omega)
theorem VY {u : UnD} {v : Value} {w : World} {r : Gh} {K : Value→World→Prop} (hr : Holds r w) (hu : UnG r v u)
  (h : ∀ w',Ext w w'→K (.bool (vS u)) w') : zd Tryz.prog Tryz.Zc #[v] w K:=by
 refine Tryz.aez ?_
 unfold Tryz.VN
 have hu0:=hu
 obtain ⟨p0,cap0,vf,rfl,_,_,hst,hsl,hfn⟩:=hu
 obtain ⟨qf,capf,rfl,_,_⟩:=hfn.sl.shape
 have S:=St.start hr
 refine S.box fun b1 w1 S=>?_
 refine S.ldB (b:=b1) ?_ rfl
 refine adA S.holds hu0 fun w2 e2=>?_
 have S:=S.go e2
 refine gS_ ?_
 exact h _ S.ext
end Go.Proofs
end
section
namespace Go.Proofs
open Go.Sh
set_option maxRecDepth 100000
set_option linter.unusedSimpArgs false
set_option linter.unusedVariables false
end Go.Proofs
end
section
namespace Go.Sh
theorem StX.front {X : Nat→Prop} {w0 w : World} {r : Gh} {L M : List Asr} (S : StX X w0 r w L) (b : Nat) {c : List Value} {T : TypeId} [h : ZI b L c T M] : StX X w0 r w (.cell b c T::M):=S.permO h.h.symm
end Go.Sh
namespace Go.Proofs
open Go.Sh
set_option maxRecDepth 100000
set_option linter.unusedSimpArgs false
set_option linter.unusedVariables false
end Go.Proofs
end
section
namespace Go.Proofs
open Go.Sh
set_option maxRecDepth 100000
set_option linter.unusedSimpArgs false
set_option linter.unusedVariables false
def X1 : PlD:=⟨0,[]⟩
def Vm : OpD:=⟨0,0,X1⟩
theorem aj8 {α : Type} {sz : Nat} {r : Gh} {R : List Value→α→Prop} : SlB sz r R (.slice none 0 0) ([] : List α):=⟨SlG.nil,Nat.zero_le _⟩
abbrev ptL (p : PtD) (q1 q2 q3 q4 q5 : Option Addr) (c1 c2 c3 c4 c5 : Nat) : List Value:=[.int .u8 p.op,.int .i64 p.to.l,.slice q1 p.to.ps.length c1,.int .u8 p.a.k,.int .i64 p.a.n,.int .i64 p.a.pl.l,.slice q2 p.a.pl.ps.length c2,.int .u8 p.b.k,.int .i64 p.b.n,.int .i64 p.b.pl.l,.slice q3 p.b.pl.ps.length c3,.slice q4 p.args.length c4,
 .string p.sign,.int .i64 p.fr.l,.slice q5 p.fr.ps.length c5,.bool p.mu,.int .i64 p.fn,.int .i64 p.st,.int .i64 p.nx,.int .i64 p.el,.int .i64 p.tx]
theorem xf {r : Gh} {c : List Value} {p : PtD} (h : PtG r c p) : ∃ q1 q2 q3 q4 q5 c1 c2 c3 c4 c5,c=ptL p q1 q2 q3 q4 q5 c1 c2 c3 c4 c5∧PtG r (ptL p q1 q2 q3 q4 q5 c1 c2 c3 c4 c5) p:=by
 obtain ⟨vto,va,vb,vl,vfr,rfl,k1,k2,k3,k4,k5⟩:=id h
 obtain ⟨q1,c1,rfl,_⟩:=k1.sl.shape
 obtain ⟨q2,c2,rfl,_⟩:=k2.sl.shape
 obtain ⟨q3,c3,rfl,_⟩:=k3.sl.shape
 obtain ⟨q4,c4,rfl,_⟩:=k4.sl.shape
 obtain ⟨q5,c5,rfl,_⟩:=k5.sl.shape
 exact ⟨q1,q2,q3,q4,q5,c1,c2,c3,c4,c5,rfl,h⟩
end Go.Proofs
end
section
namespace Go.Proofs
open Go.Sh
set_option maxRecDepth 100000
set_option linter.unusedSimpArgs false
set_option linter.unusedVariables false
theorem Ql {r : Gh} {p : PtD} {q1 q2 q3 q4 q5 : Option Addr} {c1 c2 c3 c4 c5 : Nat} (h : PtG r (ptL p q1 q2 q3 q4 q5 c1 c2 c3 c4 c5) p) :
  PlG r [.int .i64 p.to.l,.slice q1 p.to.ps.length c1] p.to∧OpG r [.int .u8 p.a.k,.int .i64 p.a.n,.int .i64 p.a.pl.l,.slice q2 p.a.pl.ps.length c2] p.a∧
  OpG r [.int .u8 p.b.k,.int .i64 p.b.n,.int .i64 p.b.pl.l,.slice q3 p.b.pl.ps.length c3] p.b∧SlB 4 r (OpG r) (.slice q4 p.args.length c4) p.args∧PlG r [.int .i64 p.fr.l,.slice q5 p.fr.ps.length c5] p.fr:=by
 obtain ⟨_,_,_,_,_,hE,k1,k2,k3,k4,k5⟩:=h
 cases hE
 exact ⟨⟨_,rfl,k1⟩,⟨_,rfl,k2⟩,⟨_,rfl,k3⟩,k4,⟨_,rfl,k5⟩⟩
end Go.Proofs
end
section
namespace Go.Proofs
open Go.Sh
set_option maxRecDepth 100000
set_option linter.unusedSimpArgs false
set_option linter.unusedVariables false
end Go.Proofs
end
section
namespace Go.Proofs
open Go.Sh
set_option maxRecDepth 100000
set_option linter.unusedSimpArgs false
set_option linter.unusedVariables false
end Go.Proofs
end
section
namespace Go.Sh
theorem StX.mkSU {P : Program} {X : Nat→Prop} {w0 w : World} {r : Gh} {L : List Asr} {t e : TypeId} {bytes : Nat} {kl : IntKind} {n : Int} {z : Value} (S : StX X w0 r w L) [hT : ApT P t e 1 bytes] [hz : ZrT P e [z]] {K : Value→World→Prop} (h0 : 0≤n) (hb : (bytes : Int)*n≤281474976710656)
  (h : ∀ b w',StX X w0 r w' (.cell b (List.replicate n.toNat z) e::L)→K (.slice (some ⟨b,0,none⟩) n.toNat n.toNat) w') : opW P w (Instr.makeSlice t (.int kl n) (.int kl n)) fun t' w'=>Ext w w'∧K t' w':=
 aes hT.h hz.h h0 hb fun b w' hb e _ B=>⟨e,h b w' (S.add e (by omega) B)⟩
theorem StX.litNew {w0 w : World} {r : Gh} {L M : List Asr} {α : Type} {sz : Nat} {R : List Value→α→Prop} {l : List α} {e : TypeId} {xs : List Value} (S : StX noX w0 r w L) (b : Nat) [h : ZI b L xs e M] (hr : RowOf sz R xs l) (hz : 0<sz) :
  StX noX w0 (r.or (Go.Sh.one b xs e)) w M∧SlG sz (Go.Sh.one b xs e) R (.slice (some ⟨b,0,none⟩) l.length l.length) l∧Above w0 (Go.Sh.one b xs e):=by
 have S1:=S.front b
 have hm:=S1.mine (.cell b xs e) List.mem_cons_self b rfl
 obtain ⟨S2,h2⟩:=S1.litSl hr hz
 exact ⟨S2,h2,by rintro b' o ⟨rfl,_⟩;exact hm.1.resolve_right id⟩
end Go.Sh
namespace Go.Proofs
open Go.Sh
set_option maxRecDepth 100000
set_option linter.unusedSimpArgs false
set_option linter.unusedVariables false
theorem yq {α : Type} {sz : Nat} {R : List Value→α→Prop} {c : List Value} {x : α} (hc : c.length=sz) (hx : R c x) : RowOf sz R c [x]:=RowOf.nil.snoc (xs:=[]) hc hx
theorem yH {α : Type} {sz : Nat} {R : List Value→α→Prop} {c xs : List Value} {x : α} {l : List α} (hc : c.length=sz) (hx : R c x) (h : RowOf sz R xs l) : RowOf sz R (c++xs) (x::l):=by
 obtain ⟨h1,h2⟩:=h
 refine ⟨by rw [List.length_append,List.length_cons,h1,hc,Nat.succ_mul,Nat.add_comm],fun i hi=>?_⟩
 cases i with
 |zero=>rw [Nat.zero_mul,List.drop_zero,List.take_append_of_le_length (by omega),List.take_of_length_le (by omega)];exact hx
 |succ i=>
  have e : ((c++xs).drop ((i+1)*sz))=xs.drop (i*sz):=by
   rw [show (i+1)*sz=c.length+i*sz by rw [hc,Nat.succ_mul,Nat.add_comm],← List.drop_drop,List.drop_left'];rfl
  rw [e]
  exact h2 i (by simpa using hi)
theorem X2 {α : Type} {sz : Nat} {r : Gh} {R : List Value→α→Prop} {v : Value} {l : List α} (h : SlG sz r R v l) (hl : l.length≤1000000:=by decide) : SlB sz r R v l:=⟨h,by simp only [maxLen];omega⟩
def Ju : TyD:=.mk 4 true (-1) 0 [jy]
def plD (l : Int) : PlD:=⟨l,[]⟩
def akX (n : Int) : OpD:=⟨1,n,X1⟩
def hp0 : PtD:=⟨4,plD 2,Vm,Vm,[],ByteArray.empty,plD 1,true,0,0,1,0,0⟩
def hp1 : PtD:=⟨1,plD 1,akX 2,Vm,[],ByteArray.empty,X1,false,0,0,2,0,0⟩
def hp2 : PtD:=⟨1,⟨2,[-1]⟩,akX 3,Vm,[],ByteArray.empty,X1,false,0,0,3,0,0⟩
def hp3 : PtD:=⟨14,X1,Vm,Vm,[],ByteArray.empty,X1,false,0,0,0,0,0⟩
def zA : GrD:=⟨ByteArray.empty,0,[],0,[jy,jy,Ju],[ByteArray.empty,ByteArray.empty,ByteArray.empty],[hp0,hp1,hp2,hp3]⟩
def xF : UnD:=⟨[],[zA],0⟩
abbrev YD : List Value:=[.int .u8 1,.bool false,.int .i64 0,.int .i64 0,.slice none 0 0]
abbrev akY : Value:=.agg #[.int .u8 1,.bool false,.int .i64 0,.int .i64 0,.slice none 0 0]
abbrev akZ (n : Int) : Value:=.agg #[.int .u8 1,.int .i64 n,.int .i64 0,.slice none 0 0]
abbrev hl0 : List Value:=[.int .u8 4,.int .i64 2,.slice none 0 0,.int .u8 0,.int .i64 0,.int .i64 0,.slice none 0 0,.int .u8 0,.int .i64 0,.int .i64 0,.slice none 0 0,.slice none 0 0,.string ByteArray.empty,.int .i64 1,.slice none 0 0,.bool true,.int .i64 0,.int .i64 0,.int .i64 1,.int .i64 0,.int .i64 0]
abbrev hl1 : List Value:=[.int .u8 1,.int .i64 1,.slice none 0 0,.int .u8 1,.int .i64 2,.int .i64 0,.slice none 0 0,.int .u8 0,.int .i64 0,.int .i64 0,.slice none 0 0,.slice none 0 0,.string ByteArray.empty,.int .i64 0,.slice none 0 0,.bool false,.int .i64 0,.int .i64 0,.int .i64 2,.int .i64 0,.int .i64 0]
abbrev hl2 (b : Nat) : List Value:=[.int .u8 1,.int .i64 2,.slice (some ⟨b,0,none⟩) 1 1,.int .u8 1,.int .i64 3,.int .i64 0,.slice none 0 0,.int .u8 0,.int .i64 0,.int .i64 0,.slice none 0 0,.slice none 0 0,.string ByteArray.empty,.int .i64 0,.slice none 0 0,.bool false,.int .i64 0,.int .i64 0,.int .i64 3,.int .i64 0,.int .i64 0]
abbrev hl3 : List Value:=[.int .u8 14,.int .i64 0,.slice none 0 0,.int .u8 0,.int .i64 0,.int .i64 0,.slice none 0 0,.int .u8 0,.int .i64 0,.int .i64 0,.slice none 0 0,.slice none 0 0,.string ByteArray.empty,.int .i64 0,.slice none 0 0,.bool false,.int .i64 0,.int .i64 0,.int .i64 0,.int .i64 0,.int .i64 0]
end Go.Proofs
end
section
namespace Go.Proofs
open Go.Sh
set_option maxRecDepth 100000
set_option linter.unusedSimpArgs false
set_option linter.unusedVariables false
theorem hst : zw ([] : List StD)=(0,0):=by unfold zw;simp [xb]
theorem hmay (t : TyD) : mayB [] t=zz 0 48 t:=by rw [mayB,hst];simp
theorem Yb : ByteArray.empty.toList = []:=by rw [ByteArray.toList_eq];rfl
theorem ah4 : yT xF 0 zA=true:=by
 have h1 : qY xF zA 0 zA.tys=true:=by
  show ((mayB [] jy&&_)&&((mayB [] jy&&_)&&((mayB [] Ju&&_)&&true)))=true
  rw [hmay,hmay]
  kernel_rfl
 unfold yT
 rw [h1]
 show (_ : Bool)=true
 kernel_rfl
theorem ai0 : ∀ p ∈ zA.pts,zR xF zA p=true:=by
 have hp : zA.pts = [hp0,hp1,hp2,hp3]:=rfl
 rw [hp]
 intro p h
 simp only [List.mem_cons,List.not_mem_nil,or_false] at h
 rcases h with rfl|rfl|rfl|rfl
 ·have e : zB hp0 { to:=true,fr:=true,mu:=true } = true:=by
   rw [zB,x9,show hp0.sign=ByteArray.empty from rfl,Yb];kernel_rfl
  have : zR xF zA hp0=(((((zB hp0 { to:=true,fr:=true,mu:=true } && true)&&true)&&true)&&true)&&(true&&true)):=by kernel_rfl
  rw [this,e];rfl
 ·have e : zB hp1 { to:=true,a:=true } = true:=by
   rw [zB,x9,show hp1.sign=ByteArray.empty from rfl,Yb];kernel_rfl
  have : zR xF zA hp1=(((zB hp1 { to:=true,a:=true } && true)&&true)&&true):=by kernel_rfl
  rw [this,e];rfl
 ·have e : zB hp2 { to:=true,a:=true } = true:=by
   rw [zB,x9,show hp2.sign=ByteArray.empty from rfl,Yb];kernel_rfl
  have : zR xF zA hp2=(((zB hp2 { to:=true,a:=true } && true)&&true)&&true):=by kernel_rfl
  rw [this,e];rfl
 ·have e : zB hp3 {} = true:=by
   rw [zB,x9,show hp3.sign=ByteArray.empty from rfl,Yb];kernel_rfl
  have : zR xF zA hp3=zB hp3 {}:=by kernel_rfl
  rw [this,e]
theorem ai1 : MayU xF:=by
 refine ⟨by show (zw []).2=0;rw [hst],by decide,by decide,by decide,by decide,fun i hi=>?_,fun g hg=>?_⟩
 ·have : i=0:=by have : xF.fs.length=1:=rfl;omega
  subst this
  exact ah4
 ·rw [List.mem_singleton.1 hg]
  exact ai0
end Go.Proofs
end
section
namespace Go.Sh
section
variable {P : Program} {t : TypeId} {c : Bool} {K : Value→Prop}
theorem ah5 {a b : Int} (k : ∀ x : Int,K (.int .i64 x)) : opP P (zM .add t c (.int .i64 a) (.int .i64 b)) K:=
 yi (fun w=>by rw [yx];simp [binOp,Op.intArith]) (k (IntKind.i64.wrap (a+b)))
end
end Go.Sh
namespace Go.Proofs
open Go.Sh
set_option maxRecDepth 100000
set_option linter.unusedSimpArgs false
set_option linter.unusedVariables false
theorem ag4 {s : Gh} {p : Option Addr} {l : List Int} (h : Ob s fun w=>Sl w p (ints l)) {w : World} (hw : Holds s w) {i : Nat} (hi : i<l.length) : ∃ b off,p=some ⟨b,off,none⟩∧Ob s fun w=>w.cell? ⟨b,off+i,none⟩=some (.int .i64 l[i]):=by
 obtain ⟨b,off,rfl,_⟩:=Yd (h w hw) hi
 refine ⟨b,off,rfl,fun w' hw'=>?_⟩
 obtain ⟨b',off',hp,hc⟩:=Yd (h w' hw') hi
 cases hp
 exact hc
end Go.Proofs
end
section
namespace Go.Sh
open Go.RowKit
section
variable {P : Program} {X : Nat→Prop} {w0 w : World} {r : Gh} {L : List Asr} {t e T ty : TypeId} {b sz n off cap : Nat} {c z : List Value} {f : List Value→List Asr}
end
end Go.Sh
end
section
namespace Go.Proofs
open Go.Sh
set_option maxRecDepth 100000
set_option linter.unusedSimpArgs false
set_option linter.unusedVariables false
theorem jA {u : UnD} {g : GrD} {p : PtD} (h : zR u g p=true) : ptG u g p=true:=by
 rw [zR,Bool.and_eq_true] at h;exact h.2
theorem aeT {u : UnD} {g : GrD} {p : PtD} (h : zR u g p=true) (ho : 1≤p.op∧p.op≤8) : (zm u.ss g.tys p.to).2.2=true:=by
 have h2:=jA h
 cases hf : (zm u.ss g.tys p.to).2.2 with
 |true=>rfl
 |false=>
  have hc : p.op=1∨p.op=2∨p.op=3∨p.op=4∨p.op=5∨p.op=6∨p.op=7∨p.op=8:=by omega
  rw [ptG] at h2
  rcases hc with hc|hc|hc|hc|hc|hc|hc|hc<;>simp [hc,hf] at h2
theorem abu {ss : List StD} {tys : List TyD} {p : PlD} (h : (zm ss tys p).2.2=true) : p.ps.length≤8:=by
 unfold zm at h
 split at h
 ·simpa using h
 ·cases h
noncomputable def fnE (u : UnD) (n : Int) : Int:=if (decide (n<0)||decide ((u.fs.length : Int)≤n)) || !vS u then 2 else 0
theorem Jv {u : UnD} {n : Int} (h : fnE u n=0) : MayU u∧0≤n∧n.toNat<u.fs.length:=by
 unfold fnE at h
 split at h
 ·cases h
 ·rename_i hc
  simp only [Bool.or_eq_true,decide_eq_true_eq,Bool.not_eq_true',not_or,Bool.not_eq_false] at hc
  exact ⟨aaC.1 hc.2,by omega,by omega⟩
abbrev grL (g : GrD) (q1 q2 q3 q4 : Option Addr) (c1 c2 c3 c4 : Nat) : List Value:=[.string g.name,.int .i64 g.lv,.slice q1 g.outs.length c1,.int .i64 g.pn,.slice q2 g.tys.length c2,.slice q3 g.nms.length c3,.slice q4 g.pts.length c4]
theorem Ye {r : Gh} {c : List Value} {g : GrD} (h : GrG r c g) : ∃ q1 q2 q3 q4 c1 c2 c3 c4,c=grL g q1 q2 q3 q4 c1 c2 c3 c4∧GrG r (grL g q1 q2 q3 q4 c1 c2 c3 c4) g:=by
 obtain ⟨vo,vt,vn,vp,rfl,k1,k2,k3,k4⟩:=id h
 obtain ⟨q1,c1,rfl,_⟩:=k1.sl.shape
 obtain ⟨q2,c2,rfl,_⟩:=k2.sl.shape
 obtain ⟨q3,c3,rfl,_⟩:=k3.sl.shape
 obtain ⟨q4,c4,rfl,_⟩:=k4.sl.shape
 exact ⟨q1,q2,q3,q4,c1,c2,c3,c4,rfl,h⟩
end Go.Proofs
end
section
namespace Go.Proofs
open Go.Sh
set_option maxRecDepth 100000
set_option linter.unusedSimpArgs false
set_option linter.unusedVariables false
end Go.Proofs
end
section
namespace Go.Proofs.Tryz
open Go.Sh
set_option maxRecDepth 100000
def Z1 (t0 t1 : Value) (w : World) (K : VW) : Prop:=
 ca k9 #[t0] w fun t8 w1=>
 ca k9 #[t1] w1 fun t10 w2=>
 zc t8 (zc t10 (K (i6 0) w2) (K (i6 (-1)) w2)) (zc t10 (K (i6 1) w2) (bf .lss 3 t0 t1 fun t16=>zc t16 (K (i6 (-1)) w2) (bf .gtr 3 t0 t1 fun t19=>zc t19 (K (i6 1) w2) (K (i6 0) w2))))
theorem Jw {t0 t1 : Value} {w : World} {K : VW} (h : Z1 t0 t1 w K) : zd prog qW #[t0,t1] w K:=
 okC false (.s (.r (rz 1 0 0)) (.s (.r (rz 3 0 8)) (.s (.r (rz 3 0 8)) (.s (.s (.r (rz 1 0 0)) (.c (.s (.s (.r (rz 1 0 0)) (.c (.s (.r (rz 1 0 0)) (.n)) (.n))) (.s (.r (rz 1 0 0)) (.n))) (.n))) (.s (.s (.r (rz 1 0 0)) (.c (.s (.r (rz 1 0 0)) (.n)) (.n))) (.s (.s (.r (rz 3 0 0)) (.c (.s (.r (rz 1 0 0)) (.n)) (.n))) (.s (.s (.r (rz 3 0 0)) (.c (.s (.r (rz 1 0 0)) (.n)) (.n))) (.s (.r (rz 1 0 0)) (.n))))))))) func61 rfl (by kernel_rfl) (by kernel_rfl) h
def Xj (t0 : Value) (w : World) (K : VW) : Prop:=
 bf .neq 3 t0 t0 fun t5=>K t5 w
theorem aaD {t0 : Value} {w : World} {K : VW} (h : Xj t0 w K) : zd prog k9 #[t0] w K:=
 okC false (.s (.r (rz 1 0 0)) (.s (.r (rz 4 0 0)) (.n))) func82 rfl (by kernel_rfl) (by kernel_rfl) h
end Go.Proofs.Tryz
end
section
namespace Go.Proofs
open Go.Sh
set_option maxRecDepth 100000
set_option linter.unusedSimpArgs false
set_option linter.unusedVariables false
theorem VZ {x : Int} {w : World} {K : Value→World→Prop} (h : K (.bool false) w) : zd Tryz.prog Tryz.k9 #[.int .i64 x] w K:=by
 refine Tryz.aaD ?_
 unfold Tryz.Xj
 refine gg_ ?_
 simpa using h
def aeU (x y : Int) : Int:=if x<y then -1 else if y<x then 1 else 0
theorem ac6 {x y : Int} : aeU x y=0↔x=y:=by
 unfold aeU;split
 ·constructor<;>intro h<;>omega
 split<;>constructor<;>intro h<;>omega
theorem adB {x y : Int} {w : World} {K : Value→World→Prop} (h : K (.int .i64 (aeU x y)) w) : zd Tryz.prog Tryz.qW #[.int .i64 x,.int .i64 y] w K:=by
 refine Tryz.Jw ?_
 unfold Tryz.Z1
 refine VZ (VZ (c_f rfl (c_f rfl ?_)))
 unfold aeU at h
 refine gg_ ?_
 refine zk (fun h1=>?_) (fun h1=>?_)
 ·rwa [if_pos h1] at h
 refine gg_ ?_
 refine zk (fun h2=>?_) (fun h2=>?_)
 ·rwa [if_neg h1,if_pos h2] at h
 ·rwa [if_neg h1,if_neg h2] at h
end Go.Proofs
end
section
namespace Go.Proofs
open Go.Sh
set_option maxRecDepth 100000
set_option linter.unusedSimpArgs false
set_option linter.unusedVariables false
end Go.Proofs
end
section
namespace Go.Proofs
open Go.Sh
set_option maxRecDepth 100000
set_option linter.unusedSimpArgs false
set_option linter.unusedVariables false
end Go.Proofs
end
section
namespace Go.Proofs
open Go.Sh
set_option maxRecDepth 100000
set_option linter.unusedSimpArgs false
set_option linter.unusedVariables false
end Go.Proofs
end
section
namespace Go.Proofs
open Go.Sh
set_option maxRecDepth 100000
set_option linter.unusedSimpArgs false
set_option linter.unusedVariables false
end Go.Proofs
end
section
namespace Go.Sh
open Go.RowKit
section
variable {P : Program} {X : Nat→Prop} {w0 w : World} {r : Gh} {L : List Asr} {α : Type} {sz n : Nat} {R : List Value→α→Prop} {l : List α} {e : TypeId} {p : Option Addr} {cap : Nat}
theorem agl (hz : 0<sz) (h : SlG sz r R (.slice p n cap) l) : ∃ xs,RowOf sz R xs l∧Ob r fun w=>Sl w p xs:=by
 have key : ∀ k,k≤l.length→∃ xs,RowOf sz R xs (l.take k)∧Ob r fun w=>Sl w p xs:=by
  intro k
  induction k with
  |zero=>intro _;exact ⟨[],by rw [List.take_zero];exact RowOf.nil,fun w _=>Sl.nil w _⟩
  |succ k ih=>
   intro hk
   obtain ⟨xs,h1,h2⟩:=ih (by omega)
   obtain ⟨b,off,c,rfl,hc,hcc,hcell⟩:=h.get hz (show k<l.length by omega)
   have hxl : xs.length=k*sz:=by rw [h1.1,List.length_take,Nat.min_eq_left (by omega)]
   refine ⟨xs++c,by rw [List.take_succ_eq_append_getElem (by omega)];exact h1.snoc hc hcc,fun w hw i v hi=>?_⟩
   by_cases hlt : i<xs.length
   ·rw [List.getElem?_append_left hlt] at hi;exact h2 w hw i v hi
   ·rw [List.getElem?_append_right (by omega)] at hi
    have:=hcell _ v hi w hw
    exact ⟨b,off,rfl,by rwa [show off+k*sz+(i - xs.length)=off+i by omega] at this⟩
 have:=key l.length (Nat.le_refl _)
 rwa [List.take_length] at this
theorem abv {xs : List Value} (h : RowOf sz R xs l) (hz : 0<sz) (h1 : ∀ c x,R c x→∀ u ∈ c,u.oneCell'=true) : ∀ u ∈ xs,u.oneCell'=true:=fun u hu=>by
 obtain ⟨i,hi,rfl⟩:=List.getElem_of_mem hu
 have hj : i / sz<l.length:=by
  rw [h.1] at hi
  exact Nat.div_lt_of_lt_mul (by rw [Nat.mul_comm];exact hi)
 refine h1 _ _ (h.2 _ hj) _ ?_
 have hm:=Nat.mod_lt i hz
 have hd:=Nat.div_add_mod i sz
 refine List.mem_of_getElem? (i:=i % sz) ?_
 rw [List.getElem?_take,if_pos hm,List.getElem?_drop,show i / sz*sz+i % sz=i by rw [Nat.mul_comm];exact hd,List.getElem?_eq_getElem hi]
end
end Go.Sh
namespace Go.Proofs
open Go.Sh
set_option maxRecDepth 100000
set_option linter.unusedSimpArgs false
set_option linter.unusedVariables false
theorem acn {r : Gh} {c : List Value} {o : OpD} (h : OpG r c o) : ∃ q k,c = [.int .u8 o.k,.int .i64 o.n,.int .i64 o.pl.l,.slice q o.pl.ps.length k]:=by
 obtain ⟨v,rfl,hl⟩:=h
 obtain ⟨q,k,rfl,_⟩:=hl.sl.shape
 exact ⟨q,k,rfl⟩
theorem agm {r : Gh} {c : List Value} {o : OpD} (h : OpG r c o) : ∀ u ∈ c,u.oneCell'=true:=by obtain ⟨q,k,rfl⟩:=acn h;simp [Value.oneCell']
def ag5 (o : OpD) : Bool:=decide (o.k≠0)
def aeV (p : PtD) : List OpD:=(p.a::p.b::p.args).filter ag5
end Go.Proofs
end
section
namespace Go.Proofs
open Go.Sh
set_option maxRecDepth 100000
set_option linter.unusedSimpArgs false
set_option linter.unusedVariables false
theorem Qm {ss : List StD} {tys : List TyD} : ∀ {l : List OpD} {ts : List TyD},yS ss tys l ts=true→l.length=ts.length∧∀ (i : Nat) (hi : i<l.length) (hj : i<ts.length),(zr ss tys l[i]).2=true∧zO yg (zr ss tys l[i]).1 ts[i]=true
 |[],[],_=>⟨rfl,fun i hi=>absurd hi (Nat.not_lt_zero _)⟩
 |[],_::_,h=>by cases h
 |_::_,[],h=>by cases h
 |o::l,t::r,h=>by
  rw [kE,Bool.and_eq_true,Bool.and_eq_true] at h
  obtain ⟨h1,h2⟩:=Qm h.2
  refine ⟨by simp [h1],fun i hi hj=>?_⟩
  cases i with
  |zero=>exact h.1
  |succ i=>exact h2 i (by simpa using hi) (by simpa using hj)
theorem aj9 {o : OpD} (h : o.k≠0) : jr o=false:=by rw [jr,decide_eq_false h];rfl
theorem V0 {u : UnD} {g : GrD} {p : PtD} (h : ptG u g p=true) : 1≤p.op∧p.op≤14:=by
 refine Classical.byContradiction fun hc=>?_
 rw [ptG] at h
 rw [if_neg (by omega),if_neg (by omega),if_neg (by omega),if_neg (by omega),if_neg (by omega),if_neg (by omega),if_neg (by omega),if_neg (by omega),if_neg (by omega),if_neg (by omega),if_neg (by omega),if_neg (by omega),if_neg (by omega)] at h
 cases h
theorem ah6 {u : UnD} {g : GrD} {p : PtD} (h : zR u g p=true) : ∀ o ∈ aeV p,(zr u.ss g.tys o).2=true:=by
 have h2:=jA h
 intro o ho
 rw [aeV,List.mem_filter,ag5,decide_eq_true_eq] at ho
 obtain ⟨hm,hk⟩:=ho
 have hn:=aj9 hk
 have hc : p.op=1∨p.op=2∨p.op=3∨p.op=4∨p.op=5∨p.op=6∨p.op=7∨p.op=8∨p.op=9∨p.op=10∨p.op=11∨p.op=12∨p.op=13∨p.op=14:=by
  have:=V0 h2
  omega
 cases hf : (zr u.ss g.tys o).2 with
 |true=>rfl
 |false=>
  exfalso
  rw [List.mem_cons,List.mem_cons] at hm
  rw [ptG] at h2
  rcases hm with rfl|rfl|hm
  ·rcases hc with hc|hc|hc|hc|hc|hc|hc|hc|hc|hc|hc|hc|hc|hc<;>simp [hc,hf,hn,zB,x9] at h2
  ·rcases hc with hc|hc|hc|hc|hc|hc|hc|hc|hc|hc|hc|hc|hc|hc<;>simp [hc,hf,hn,zB,x9] at h2
  ·have hne : p.args.length≠0:=fun h0=>by rw [List.eq_nil_of_length_eq_zero h0] at hm;cases hm
   obtain ⟨i,hi,rfl⟩:=List.getElem_of_mem hm
   have harg : ∀ ts,yS u.ss g.tys p.args ts=false:=fun ts=>by
    cases ha : yS u.ss g.tys p.args ts with
    |false=>rfl
    |true=>
     obtain ⟨hl,hx⟩:=Qm ha
     have:=(hx i hi (by omega)).1
     rw [hf] at this;cases this
   have hne' : p.args≠[]:=fun h0=>hne (by rw [h0];rfl)
   rcases hc with hc|hc|hc|hc|hc|hc|hc|hc|hc|hc|hc|hc|hc|hc<;>first|(simp [hc,hne,hne',zB,x9] at h2;done)|(simp [hc,hne,hne',zB,x9,harg] at h2;try (split at h2<;>simp_all))
theorem ai2 {u : UnD} {g : GrD} {p : PtD} (hM : MayU u) (h : zR u g p=true) : p.args.length≤1000:=by
 have h2:=jA h
 by_cases hne : p.args.length=0
 ·omega
 have hne' : p.args≠[]:=fun h0=>hne (by rw [h0];rfl)
 rw [ptG] at h2
 by_cases h6 : p.op=6
 ·simp only [h6,Int.reduceEq,if_false,if_true,Bool.and_eq_true,decide_eq_true_eq,isK] at h2
  have hl:=(Qm h2.2).1
  have hf : (yl u.ss (zm u.ss g.tys p.to).1).1.length≤8:=by
   rw [yl]
   split
   ·exact xL (xS hM.ok).2.1 _
   ·simp
  omega
 by_cases h7 : p.op=7
 ·simp only [h7,Int.reduceEq,if_false,if_true,Bool.and_eq_true,decide_eq_true_eq] at h2
  have hlt : p.fn.toNat<u.fs.length:=by omega
  rw [List.getElem?_eq_getElem hlt] at h2
  have h3:=h2.2
  simp only [Bool.and_eq_true] at h3
  have hl:=(Qm h3.2).1
  have:=(hM.hd hlt).pn8
  rw [List.length_take] at hl
  omega
 ·exfalso
  have hc : p.op=1∨p.op=2∨p.op=3∨p.op=4∨p.op=5∨p.op=8∨p.op=9∨p.op=10∨p.op=11∨p.op=12∨p.op=13∨p.op=14:=by
   have:=V0 (jA h)
   omega
  rcases hc with hc|hc|hc|hc|hc|hc|hc|hc|hc|hc|hc|hc<;>simp [hc,hne,hne',zB,x9] at h2
end Go.Proofs
end
section
namespace Go.Proofs
open Go.Sh
set_option maxRecDepth 100000
set_option linter.unusedSimpArgs false
set_option linter.unusedVariables false
end Go.Proofs
end
section
namespace Go.Proofs
open Go.Sh
set_option maxRecDepth 100000
set_option linter.unusedSimpArgs false
set_option linter.unusedVariables false
theorem ak0 {α : Type} {sz b : Nat} {R : List Value→α→Prop} {xs : List Value} {e : TypeId} {l : List α} {w : World} (h : RowOf sz R xs l) (hz : 0<sz) (B : Blk w b xs e) : SlG sz (Go.Sh.one b xs e) R (.slice (some ⟨b,0,none⟩) l.length l.length) l:=
 h.sl (by simp) (Nat.le_refl _) (fun w k=>Sl.blk (zG w k)) hz ⟨w,ku B⟩
def xg (p : PtD) : List Int:=if p.op=14 then [] else if p.op=12∧p.nx≠p.el then [p.nx,p.el] else [p.nx]
end Go.Proofs
end
section
namespace Go.Proofs
open Go.Sh
set_option maxRecDepth 100000
set_option linter.unusedSimpArgs false
set_option linter.unusedVariables false
end Go.Proofs
end
section
namespace Go.Proofs.Tryz
open Go.Sh
set_option maxRecDepth 100000
def Jy (t0 t1 t2 : Value) (w : World) (K : VW) : Prop:=
 pw w (Instr.box 58 t2) fun t5 w1=>
 pw w1 (Instr.alloc 93 true (.tuple #[])) fun t6 w2=>
 fl w2 t5 58 0 3 fun t16=>bt .lss 3 t16 (i6 0) fun t17=>za (fun K3=>gIf t17 false (fl w2 t5 58 0 3 fun t20=>pp (Builtin.len_ #[39] 3 #[t1]) fun t22=>bf .geq 3 t20 t22 fun t23=>K3 [t23] w2) (K3 [undef] w2)) (fun s4 _d5 w6=>
 zb t17 tr_ (s4.getD 0 undef) fun t24=>za (fun K7=>gIf t24 false (fl w6 t5 58 1 56 fun t27=>pp (Builtin.len_ #[56] 3 #[t27]) fun t28=>bt .gtr 3 t28 (i6 8) fun t29=>K7 [t29] w6) (K7 [undef] w6)) (fun s8 _d9 w10=>
 zb t24 tr_ (s8.getD 0 undef) fun t30=>za (fun K11=>gIf t30 false (ca ZC #[t0,t1] w10 fun t34 w15=>
 pp (Op.unary .not t34) fun t35=>K11 [t35] w15) (K11 [undef] w10)) (fun s12 _d13 w14=>
 zb t30 tr_ (s12.getD 0 undef) fun t36=>zc t36 (pp (Instr.build 93 #[]) fun t37=>so w14 93 t6 t37 fun w16=>pq w16 (zn 93 t6) fun r17=>K (.tuple #[r17,(Value.slice Option.none 0 0),fa_]) w16) (fl w14 t5 58 0 3 fun t40=>xl w14 39 t1 t40 93 fun t42=>pw w14 (Instr.alloc 93 true (.tuple #[])) fun t9 w18=>
 so w18 93 t9 t42 fun w19=>zo [(Value.slice Option.none 0 0),(i6 0)] w19 (fun s21 _d22 w23 K20=>
 fl w23 t5 58 1 56 fun t45=>pp (Builtin.len_ #[56] 3 #[t45]) fun t46=>bf .lss 3 (s21.getD 1 undef) t46 fun t47=>zc t47 (za (fun K24=>
 lo w23.drew 93 t9 fun t52=>fl w23.drew t5 58 1 56 fun t54=>xl w23.drew 56 t54 (s21.getD 1 undef) 90 fun t57=>((ca jZ #[t0,t52,t57] w23.drew fun t58 w28=>
 pe t58 0 fun t59=>pe t58 1 fun t60=>pe t58 2 fun t61=>pw w28 (Instr.alloc 93 true (.tuple #[])) fun t12 w29=>
 Ext w28 w29∧
 so w29 93 t12 t59 fun w30=>K24 [t12,t60,t61] w30)∧
 (pw w23.drew (Instr.alloc 93 true (.tuple #[])) fun t12_32 w31=>
 Ext w23.drew w31∧
 ca jZ #[t0,t52,t57] w31 fun t58_34 w33=>
 pe t58_34 0 fun t59_35=>pe t58_34 1 fun t60_36=>pe t58_34 2 fun t61_37=>so w33 93 t12_32 t59_35 fun w38=>K24 [t12_32,t60_36,t61_37] w38))) (fun s25 _d26 w27=>
 pp (Op.unary .not (s25.getD 2 undef)) fun t63=>zc t63 (pp (Instr.build 93 #[]) fun t64=>so w27 93 t6 t64 fun w39=>pq w39 (zn 93 t6) fun r40=>K (.tuple #[r40,(Value.slice Option.none 0 0),fa_]) w39) (lo w27 93 (s25.getD 0 undef) fun t65=>so w27 93 t9 t65 fun w41=>pw w41 (Instr.buildSlice 32 1 #[(0,(s25.getD 1 undef))]) fun t68 w42=>
 pw w42 (Builtin.append_ #[32,32] 32 #[(s21.getD 0 undef),t68]) fun t69 w43=>
 bt .add 3 (s21.getD 1 undef) (i6 1) fun t49=>K20 [t69,t49] w43))) (lo w23 93 t9 fun t70=>so w23 93 t6 t70 fun w44=>pq w44 (zn 93 t6) fun r45=>K (.tuple #[r45,(s21.getD 0 undef),tr_]) w44))))))
theorem adC {t0 t1 t2 : Value} {w : World} {K : VW} (h : Jy t0 t1 t2 w K) : zd prog Yl #[t0,t1,t2] w K:=
 okC false (.s (.r (rz 4 0 10)) (.s (.s (.r (ra 4 0 4 (.grp 18 false (ri 5 4 4) [23] (ra 2 9 0 (.grp 25 false (ri 4 11 4) [29] (ra 2 15 0 (.grp 31 false (ri 4 17 32) [35] (rz 1 21 0)))))))) (.c (.s (.r (rz 4 0 8)) (.n)) (.n))) (.s (.r (rz 7 0 10512)) (.s (.r (rz 1 0 0)) (.s (.s (.r (rz 1 0 0)) (.b (.lp [10,11] (.s (.s (.r (rz 5 0 16)) (.c (.n) (.n))) (.s (.b (.j [12,13,14] (.r (ra 7 0 4164 (.alt 7 .l (rz 8 8 2816) (ra 1 12 3 (ra 5 7 2 (rz 3 13 2)))))) (.s (.s (.r (rz 2 0 0)) (.c (.s (.r (rz 4 0 8)) (.n)) (.n))) (.s (.r (rz 2 0 9)) (.r (rz 5 0 160)))))) (.r (rz 3 0 0))))))) (.s (.r (rz 5 0 33)) (.n))))))) func137 rfl (by kernel_rfl) (by kernel_rfl) h
def Xk (t0 : Value) (w : World) (K : VW) : Prop:=
 pp (Builtin.len_ #[22] 3 #[t0]) fun t8=>bt .gtr 3 t8 (i6 32) fun t9=>zc t9 (K fa_ w) (zo [(i6 0)] w (fun s2 _d3 w4 K1=>
 pp (Builtin.len_ #[22] 3 #[t0]) fun t12=>bf .lss 3 (s2.getD 0 undef) t12 fun t13=>zc t13 (px 22 t0 (s2.getD 0 undef) fun t18=>fl w4 t18 67 1 65 fun t20=>pp (Builtin.len_ #[65] 3 #[t20]) fun t21=>bt .lss 3 t21 (i6 1) fun t22=>za (fun K5=>gIf t22 false (px 22 t0 (s2.getD 0 undef) fun t26=>fl w4 t26 67 1 65 fun t28=>pp (Builtin.len_ #[65] 3 #[t28]) fun t29=>bt .gtr 3 t29 (i6 8) fun t30=>K5 [t30] w4) (K5 [undef] w4)) (fun s6 _d7 w8=>
 zb t22 tr_ (s6.getD 0 undef) fun t31=>zc t31 (K fa_ w8) (zo [(i6 0)] w8 (fun s10 _d11 w12 K9=>
 px 22 t0 (s2.getD 0 undef) fun t35=>fl w12 t35 67 1 65 fun t37=>pp (Builtin.len_ #[65] 3 #[t37]) fun t38=>bf .lss 3 (s10.getD 0 undef) t38 fun t39=>zc t39 (px 22 t0 (s2.getD 0 undef) fun t44=>fl w12 t44 67 1 65 fun t46=>px 65 t46 (s10.getD 0 undef) fun t48=>fl w12 t48 156 1 93 fun t50=>pp (Builtin.len_ #[22] 3 #[t0]) fun t52=>ca yQ #[t50,t52,(i6 48),fa_] w12 fun t53 w13=>
 pp (Op.unary .not t53) fun t54=>zc t54 (K fa_ w13) (bt .add 3 (s10.getD 0 undef) (i6 1) fun t41=>K9 [t41] w13)) (bt .add 3 (s2.getD 0 undef) (i6 1) fun t15=>K1 [t15] w12))))) (zo [(i6 0)] w4 (fun s15 _d16 w17 K14=>
 pp (Builtin.len_ #[22] 3 #[t0]) fun t57=>bf .lss 3 (s15.getD 0 undef) t57 fun t58=>zc t58 (ca j0 #[t0,(s15.getD 0 undef)] w17 fun t63 w18=>
 zc t63 (K fa_ w18) (bt .add 3 (s15.getD 0 undef) (i6 1) fun t60=>K14 [t60] w18)) (zo [(i6 0)] w17 (fun s20 _d21 w22 K19=>
 pp (Builtin.len_ #[22] 3 #[t0]) fun t66=>bf .lss 3 (s20.getD 0 undef) t66 fun t67=>zc t67 (pp (Instr.build 93 #[(0,(Value.int .u8 5)),(3,(s20.getD 0 undef))]) fun t72=>ca jq #[t0,t72] w22 fun t73 w23=>
 bt .gtr 3 t73 (i6 16) fun t74=>zc t74 (K fa_ w23) (bt .add 3 (s20.getD 0 undef) (i6 1) fun t69=>K19 [t69] w23)) (K tr_ w22)))))))
theorem aaE {t0 : Value} {w : World} {K : VW} (h : Xk t0 w K) : zd prog k8 #[t0] w K:=
 okC false (.s (.r (rz 1 0 0)) (.s (.s (.r (rz 3 0 0)) (.c (.s (.r (rz 1 0 0)) (.n)) (.n))) (.s (.s (.r (rz 1 0 0)) (.b (.lp [3] (.s (.s (.r (rz 4 0 0)) (.c (.n) (.n))) (.s (.b (.s (.s (.r (ra 8 0 256 (.grp 23 false (ri 7 8 256) [30] (rz 1 15 0)))) (.c (.s (.r (rz 1 0 0)) (.n)) (.n))) (.s (.r (rz 1 0 0)) (.b (.lp [4] (.s (.s (.r (rz 8 0 1024)) (.c (.n) (.n))) (.s (.b (.s (.r (rz 13 0 8454400)) (.c (.s (.r (rz 1 0 0)) (.n)) (.n)))) (.r (rz 3 0 0))))))))) (.r (rz 3 0 0))))))) (.s (.s (.r (rz 1 0 0)) (.b (.lp [5] (.s (.s (.r (rz 4 0 0)) (.c (.n) (.n))) (.s (.b (.s (.r (rz 3 0 32)) (.c (.s (.r (rz 1 0 0)) (.n)) (.n)))) (.r (rz 3 0 0))))))) (.s (.s (.r (rz 1 0 0)) (.b (.lp [6] (.s (.s (.r (rz 4 0 0)) (.c (.n) (.n))) (.s (.b (.s (.r (rz 5 0 128)) (.c (.s (.r (rz 1 0 0)) (.n)) (.n)))) (.r (rz 3 0 0))))))) (.s (.r (rz 1 0 0)) (.n))))))) func77 rfl (by kernel_rfl) (by kernel_rfl) h
def QN (t0 t1 : Value) (w : World) (K : VW) : Prop:=
 ca k8 #[t0] w fun t7 w1=>
 pp (Op.unary .not t7) fun t8=>zc t8 (K fa_ w1) (zo [(i6 0)] w1 (fun s3 _d4 w5 K2=>
 pp (Builtin.len_ #[39] 3 #[t1]) fun t11=>bf .lss 3 (s3.getD 0 undef) t11 fun t12=>zc t12 (xl w5 39 t1 (s3.getD 0 undef) 93 fun t18=>pp (Builtin.len_ #[22] 3 #[t0]) fun t20=>ca yQ #[t18,t20,(i6 48),tr_] w5 fun t21 w6=>
 pp (Op.unary .not t21) fun t22=>zc t22 (K fa_ w6) (bt .add 3 (s3.getD 0 undef) (i6 1) fun t14=>K2 [t14] w6)) (K tr_ w5)))
theorem aco {t0 t1 : Value} {w : World} {K : VW} (h : QN t0 t1 w K) : zd prog ZC #[t0,t1] w K:=
 okC false (.s (.r (rz 1 0 0)) (.s (.s (.r (rz 3 0 8)) (.c (.s (.r (rz 1 0 0)) (.n)) (.n))) (.s (.s (.r (rz 1 0 0)) (.b (.lp [5] (.s (.s (.r (rz 4 0 0)) (.c (.n) (.n))) (.s (.b (.s (.r (rz 8 0 8256)) (.c (.s (.r (rz 1 0 0)) (.n)) (.n)))) (.r (rz 3 0 0))))))) (.s (.r (rz 1 0 0)) (.n))))) func156 rfl (by kernel_rfl) (by kernel_rfl) h
def Jz (t0 t1 t2 : Value) (w : World) (K : VW) : Prop:=
 pw w (Instr.box 93 t1) fun t4 w1=>
 pw w1 (Instr.alloc 93 true (.tuple #[])) fun t6 w2=>
 bt .eql 90 t2 (i6 (-1)) fun t10=>zc t10 (fl w2 t4 93 0 91 fun t13=>bt .eql 91 t13 (Value.int .u8 3) fun t14=>zc t14 (fl w2 t4 93 4 39 fun t16=>xl w2 39 t16 (i6 0) 93 fun t18=>so w2 93 t6 t18 fun w3=>pq w3 (zn 93 t6) fun r4=>K (.tuple #[r4,(i6 1),tr_]) w3) (fl w2 t4 93 0 91 fun t21=>bt .eql 91 t21 (Value.int .u8 4) fun t22=>za (fun K5=>gIf t22 true (fl w2 t4 93 1 4 fun t25=>K5 [t25] w2) (K5 [undef] w2)) (fun s6 _d7 w8=>
 zb t22 (s6.getD 0 undef) fa_ fun t26=>zc t26 (fl w8 t4 93 4 39 fun t28=>xl w8 39 t28 (i6 0) 93 fun t30=>so w8 93 t6 t30 fun w9=>pq w9 (zn 93 t6) fun r10=>K (.tuple #[r10,(i6 2),tr_]) w9) (fl w8 t4 93 0 91 fun t33=>bt .eql 91 t33 (Value.int .u8 4) fun t34=>zc t34 (fl w8 t4 93 4 39 fun t36=>xl w8 39 t36 (i6 0) 93 fun t38=>so w8 93 t6 t38 fun w11=>pq w11 (zn 93 t6) fun r12=>K (.tuple #[r12,(i6 3),tr_]) w11) (lo w8 93 t4 fun t39=>so w8 93 t6 t39 fun w13=>pq w13 (zn 93 t6) fun r14=>K (.tuple #[r14,(i6 0),fa_]) w13))))) (fl w2 t4 93 0 91 fun t41=>bt .neq 91 t41 (Value.int .u8 5) fun t42=>za (fun K15=>gIf t42 false (bt .lss 90 t2 (i6 0) fun t45=>K15 [t45] w2) (K15 [undef] w2)) (fun s16 _d17 w18=>
 zb t42 tr_ (s16.getD 0 undef) fun t46=>za (fun K19=>gIf t46 false (fl w18 t4 93 3 3 fun t51=>px 22 t0 t51 fun t52=>fl w18 t52 67 1 65 fun t54=>pp (Builtin.len_ #[65] 3 #[t54]) fun t55=>bf .geq 3 t2 t55 fun t56=>K19 [t56] w18) (K19 [undef] w18)) (fun s20 _d21 w22=>
 zb t46 tr_ (s20.getD 0 undef) fun t57=>zc t57 (lo w22 93 t4 fun t58=>so w22 93 t6 t58 fun w23=>pq w23 (zn 93 t6) fun r24=>K (.tuple #[r24,(i6 0),fa_]) w23) (fl w22 t4 93 3 3 fun t61=>px 22 t0 t61 fun t62=>fl w22 t62 67 1 65 fun t64=>px 65 t64 t2 fun t66=>fl w22 t66 156 1 93 fun t68=>so w22 93 t6 t68 fun w25=>pq w25 (zn 93 t6) fun r26=>K (.tuple #[r26,(i6 0),tr_]) w25))))
theorem adE {t0 t1 t2 : Value} {w : World} {K : VW} (h : Jz t0 t1 t2 w K) : zd prog jZ #[t0,t1,t2] w K:=
 okC false (.s (.r (rz 4 0 10)) (.s (.s (.r (rz 2 0 0)) (.c (.s (.b (.s (.r (rz 4 0 4)) (.c (.s (.r (rz 7 0 580)) (.n)) (.s (.r (ra 4 0 4 (.grp 23 true (ri 2 4 4) [25] (rz 2 6 0)))) (.c (.s (.r (rz 7 0 580)) (.n)) (.s (.r (rz 4 0 4)) (.c (.s (.r (rz 7 0 580)) (.n)) (.n)))))))) (.s (.r (rz 4 0 9)) (.n))) (.n))) (.s (.s (.r (ra 4 0 4 (.grp 43 false (ri 2 4 0) [45] (ra 2 6 0 (.grp 47 false (ri 9 8 4160) [56] (rz 1 17 0)))))) (.c (.s (.r (rz 4 0 9)) (.n)) (.n))) (.s (.r (rz 13 0 2360336)) (.n))))) func157 rfl (by kernel_rfl) (by kernel_rfl) h
def j4 (t0 t1 t2 t3 : Value) (w : World) (K : VW) : Prop:=
 pw w (Instr.box 93 t0) fun t4 w1=>
 bt .lss 3 t2 (i6 1) fun t10=>za (fun K2=>gIf t10 false (fl w1 t4 93 0 91 fun t13=>bt .neq 91 t13 (Value.int .u8 4) fun t14=>K2 [t14] w1) (K2 [undef] w1)) (fun s3 _d4 w5=>
 za (fun K6=>gIf (s3.getD 0 undef) true (fl w5 t4 93 1 4 fun t17=>K6 [t17] w5) (K6 [undef] w5)) (fun s7 _d8 w9=>
 za (fun K10=>gIf (s7.getD 0 undef) false (fl w9 t4 93 2 3 fun t20=>bt .neq 3 t20 (i6 0) fun t21=>K10 [t21] w9) (K10 [undef] w9)) (fun s11 _d12 w13=>
 za (fun K14=>gIf (s3.getD 0 undef) true (zb (s7.getD 0 undef) tr_ (s11.getD 0 undef) fun t22=>K14 [t22] w13) (K14 [undef] w13)) (fun s15 _d16 w17=>
 za (fun K18=>gIf t10 false (zb (s3.getD 0 undef) (s15.getD 0 undef) fa_ fun t23=>K18 [t23] w17) (K18 [undef] w17)) (fun s19 _d20 w21=>
 zb t10 tr_ (s19.getD 0 undef) fun t24=>za (fun K22=>gIf t24 false (fl w21 t4 93 0 91 fun t27=>bt .neq 91 t27 (Value.int .u8 5) fun t28=>K22 [t28] w21) (K22 [undef] w21)) (fun s23 _d24 w25=>
 za (fun K26=>gIf (s23.getD 0 undef) true (fl w25 t4 93 3 3 fun t31=>bt .neq 3 t31 (i6 0) fun t32=>K26 [t32] w25) (K26 [undef] w25)) (fun s27 _d28 w29=>
 za (fun K30=>gIf t24 false (zb (s23.getD 0 undef) (s27.getD 0 undef) fa_ fun t33=>K30 [t33] w29) (K30 [undef] w29)) (fun s31 _d32 w33=>
 zb t24 tr_ (s31.getD 0 undef) fun t34=>zc t34 (K fa_ w33) (fl w33 t4 93 0 91 fun t36=>za (fun K34=>
 bt .eql 91 t36 (Value.int .u8 1) fun t38=>zc t38 (K34 [t38] w33) (bt .eql 91 t36 (Value.int .u8 2) fun t39=>K34 [t39] w33)) (fun s35 _d36 w37=>
 zc (s35.getD 0 undef) (fl w37 t4 93 4 39 fun t41=>pp (Builtin.len_ #[39] 3 #[t41]) fun t42=>bt .eql 3 t42 (i6 0) fun t43=>K t43 w37) (bt .eql 91 t36 (Value.int .u8 5) fun t45=>zc t45 (fl w37 t4 93 4 39 fun t47=>pp (Builtin.len_ #[39] 3 #[t47]) fun t48=>bt .eql 3 t48 (i6 0) fun t49=>za (fun K38=>gIf t49 true (fl w37 t4 93 3 3 fun t52=>bt .geq 3 t52 (i6 0) fun t53=>K38 [t53] w37) (K38 [undef] w37)) (fun s39 _d40 w41=>
 zb t49 (s39.getD 0 undef) fa_ fun t54=>za (fun K42=>gIf t54 true (fl w41 t4 93 3 3 fun t57=>bf .lss 3 t57 t1 fun t59=>K42 [t59] w41) (K42 [undef] w41)) (fun s43 _d44 w45=>
 zb t54 (s43.getD 0 undef) fa_ fun t60=>K t60 w45))) (bt .eql 91 t36 (Value.int .u8 3) fun t62=>zc t62 (fl w37 t4 93 4 39 fun t64=>pp (Builtin.len_ #[39] 3 #[t64]) fun t65=>bt .eql 3 t65 (i6 1) fun t66=>za (fun K46=>gIf t66 true (fl w37 t4 93 4 39 fun t69=>xl w37 39 t69 (i6 0) 93 fun t71=>bt .sub 3 t2 (i6 1) fun t74=>ca yQ #[t71,t1,t74,t3] w37 fun t76 w50=>
 K46 [t76] w50) (K46 [undef] w37)) (fun s47 _d48 w49=>
 zb t66 (s47.getD 0 undef) fa_ fun t77=>K t77 w49)) (bt .eql 91 t36 (Value.int .u8 4) fun t79=>zc t79 (za (fun K51=>gIf t3 true (fl w37 t4 93 4 39 fun t83=>pp (Builtin.len_ #[39] 3 #[t83]) fun t84=>bt .eql 3 t84 (i6 1) fun t85=>K51 [t85] w37) (K51 [undef] w37)) (fun s52 _d53 w54=>
 zb t3 (s52.getD 0 undef) fa_ fun t86=>za (fun K55=>gIf t86 true (fl w54 t4 93 2 3 fun t89=>bt .geq 3 t89 (i6 (-1)) fun t90=>K55 [t90] w54) (K55 [undef] w54)) (fun s56 _d57 w58=>
 zb t86 (s56.getD 0 undef) fa_ fun t91=>za (fun K59=>gIf t91 true (fl w58 t4 93 4 39 fun t94=>xl w58 39 t94 (i6 0) 93 fun t96=>bt .sub 3 t2 (i6 1) fun t99=>ca yQ #[t96,t1,t99,t3] w58 fun t101 w63=>
 K59 [t101] w63) (K59 [undef] w58)) (fun s60 _d61 w62=>
 zb t91 (s60.getD 0 undef) fa_ fun t102=>K t102 w62)))) (K fa_ w37))))))))))))))
theorem YE {t0 t1 t2 t3 : Value} {w : World} {K : VW} (h : j4 t0 t1 t2 t3 w K) : zd prog yQ #[t0,t1,t2,t3] w K:=
 okC false (.s (.r (rz 2 0 2)) (.s (.s (.r (ra 3 0 0 (.grp 11 false (ri 4 3 4) [15] (.grp 15 true (ri 3 7 4) [18] (.grp 18 false (ri 3 10 4) [21] (.grp 15 true (ri 1 13 0) [22] (.grp 11 false (ri 1 14 0) [23] (ra 2 15 0 (.grp 25 false (ri 4 17 4) [29] (.grp 29 true (ri 3 21 4) [32] (.grp 25 false (ri 1 24 0) [33] (rz 1 25 0)))))))))))) (.c (.s (.r (rz 1 0 0)) (.n)) (.n))) (.s (.s (.r (rz 2 0 4)) (.b (.j [37] (.s (.r (rz 2 0 0)) (.c (.n) (.r (rz 2 0 0)))) (.c (.s (.r (rz 5 0 4)) (.n)) (.s (.r (rz 2 0 0)) (.c (.s (.r (ra 5 0 4 (.grp 50 true (ri 3 5 4) [53] (ra 2 8 0 (.grp 55 true (ri 4 10 4) [59] (rz 2 14 0)))))) (.n)) (.s (.r (rz 2 0 0)) (.c (.s (.r (ra 5 0 4 (.grp 67 true (ri 9 5 131140) [76] (rz 2 14 0)))) (.n)) (.s (.r (rz 2 0 0)) (.c (.s (.r (ra 2 0 0 (.grp 81 true (ri 4 2 4) [85] (ra 2 6 0 (.grp 87 true (ri 3 8 4) [90] (ra 2 11 0 (.grp 92 true (ri 9 13 131140) [101] (rz 2 22 0)))))))) (.n)) (.n))))))))))) (.s (.r (rz 1 0 0)) (.n))))) func91 rfl (by kernel_rfl) (by kernel_rfl) h
def Xl (t0 t1 : Value) (w : World) (K : VW) : Prop:=
 pw w (Instr.alloc 205 true (.tuple #[])) fun t5 w1=>
 zo [(i6 0)] w1 (fun s3 _d4 w5 K2=>
 pp (Builtin.len_ #[22] 3 #[t0]) fun t11=>bf .leq 3 (s3.getD 0 undef) t11 fun t12=>zc t12 (zo [(i6 0)] w5 (fun s7 _d8 w9 K6=>
 pp (Builtin.len_ #[22] 3 #[t0]) fun t17=>bf .lss 3 (s7.getD 0 undef) t17 fun t18=>zc t18 (zo [(i6 0)] w9 (fun s11 _d12 w13 K10=>
 px 22 t0 (s7.getD 0 undef) fun t24=>fl w13 t24 67 1 65 fun t26=>pp (Builtin.len_ #[65] 3 #[t26]) fun t27=>bf .lss 3 (s11.getD 0 undef) t27 fun t28=>za (fun K14=>gIf t28 true (bf .eql 3 (s7.getD 0 undef) t1 fun t32=>K14 [t32] w13) (K14 [undef] w13)) (fun s15 _d16 w17=>
 za (fun K18=>gIf (s15.getD 0 undef) false (xl w17 205 t5 (s7.getD 0 undef) 4 fun t36=>K18 [t36] w17) (K18 [undef] w17)) (fun s19 _d20 w21=>
 za (fun K22=>gIf t28 true (zb (s15.getD 0 undef) tr_ (s19.getD 0 undef) fun t37=>K22 [t37] w21) (K22 [undef] w21)) (fun s23 _d24 w25=>
 zb t28 (s23.getD 0 undef) fa_ fun t38=>zc t38 (za (fun K26=>
 px 22 t0 (s7.getD 0 undef) fun t43=>fl w25 t43 67 1 65 fun t45=>px 65 t45 (s11.getD 0 undef) fun t47=>pf 156 t47 1 fun t48=>fl w25 t48 93 0 91 fun t50=>bt .eql 91 t50 (Value.int .u8 5) fun t51=>zc t51 (px 22 t0 (s7.getD 0 undef) fun t54=>fl w25 t54 67 1 65 fun t56=>px 65 t56 (s11.getD 0 undef) fun t58=>pf 156 t58 1 fun t59=>fl w25 t59 93 3 3 fun t61=>px 205 t5 t61 fun t62=>so w25 4 t62 tr_ fun w30=>K26 [] w30) (K26 [] w25)) (fun _s27 _d28 w29=>
 bt .add 3 (s11.getD 0 undef) (i6 1) fun t40=>K10 [t40] w29)) (bt .add 3 (s7.getD 0 undef) (i6 1) fun t20=>K6 [t20] w25)))))) (bt .add 3 (s3.getD 0 undef) (i6 1) fun t14=>K2 [t14] w9))) (xl w5 205 t5 t1 4 fun t65=>K t65 w5))
theorem aaF {t0 t1 : Value} {w : World} {K : VW} (h : Xl t0 t1 w K) : zd prog j0 #[t0,t1] w K:=
 okC false (.s (.r (rz 1 0 0)) (.s (.r (rz 1 0 2)) (.s (.s (.r (rz 1 0 0)) (.b (.lp [6] (.s (.s (.r (rz 4 0 0)) (.c (.n) (.n))) (.s (.b (.s (.r (rz 1 0 0)) (.b (.lp [7] (.s (.s (.r (rz 4 0 0)) (.c (.n) (.n))) (.s (.b (.s (.r (rz 1 0 0)) (.b (.lp [8] (.s (.s (.r (ra 9 0 1024 (.grp 29 true (ri 4 9 0) [33] (.grp 33 false (ri 3 13 16) [36] (.grp 29 true (ri 1 16 0) [37] (rz 1 17 0)))))) (.c (.n) (.n))) (.j [] (.b (.s (.r (rz 11 0 262400)) (.c (.r (rz 12 0 8651008)) (.n)))) (.r (rz 3 0 0)))))))) (.r (rz 3 0 0)))))))) (.r (rz 3 0 0))))))) (.s (.r (rz 4 0 16)) (.n))))) func92 rfl (by kernel_rfl) (by kernel_rfl) h
def ZM (t0 t1 : Value) (w : World) (K : VW) : Prop:=
 pw w (Instr.box 93 t1) fun t3 w1=>
 fl w1 t3 93 0 91 fun t8=>bt .neq 91 t8 (Value.int .u8 5) fun t9=>zc t9 (K (i6 1) w1) (zo [(i6 0),(i6 0)] w1 (fun s3 _d4 w5 K2=>
 fl w5 t3 93 3 3 fun t13=>px 22 t0 t13 fun t14=>fl w5 t14 67 1 65 fun t16=>pp (Builtin.len_ #[65] 3 #[t16]) fun t17=>bf .lss 3 (s3.getD 1 undef) t17 fun t18=>za (fun K6=>gIf t18 true (bt .leq 3 (s3.getD 0 undef) (i6 16) fun t21=>K6 [t21] w5) (K6 [undef] w5)) (fun s7 _d8 w9=>
 zb t18 (s7.getD 0 undef) fa_ fun t22=>zc t22 (fl w9 t3 93 3 3 fun t29=>px 22 t0 t29 fun t30=>fl w9 t30 67 1 65 fun t32=>px 65 t32 (s3.getD 1 undef) fun t34=>fl w9 t34 156 1 93 fun t36=>ca jq #[t0,t36] w9 fun t37 w10=>
 bf .add 3 (s3.getD 0 undef) t37 fun t38=>bt .add 3 (s3.getD 1 undef) (i6 1) fun t24=>K2 [t38,t24] w10) (K (s3.getD 0 undef) w9))))
theorem X3 {t0 t1 : Value} {w : World} {K : VW} (h : ZM t0 t1 w K) : zd prog jq #[t0,t1] w K:=
 okC false (.s (.r (rz 2 0 2)) (.s (.s (.r (rz 3 0 4)) (.c (.s (.r (rz 1 0 0)) (.n)) (.n))) (.s (.r (rz 1 0 0)) (.s (.s (.r (rz 1 0 0)) (.b (.lp [5,6] (.s (.s (.r (ra 10 0 4160 (.grp 19 true (ri 2 10 0) [21] (rz 1 12 0)))) (.c (.n) (.n))) (.s (.b (.r (rz 15 0 37765376))) (.r (rz 3 0 0))))))) (.s (.r (rz 2 0 0)) (.n)))))) func93 rfl (by kernel_rfl) (by kernel_rfl) h
def abw (t0 t1 t2 : Value) (w : World) (K : VW) : Prop:=
 pw w (Instr.box 25 t0) fun t3 w1=>
 lo w1 25 t3 fun t7=>ca Xv #[t7] w1 fun t8 w2=>
 za (fun K3=>gIf t8 true (bt .geq 3 t1 (i6 0) fun t11=>K3 [t11] w2) (K3 [undef] w2)) (fun s4 _d5 w6=>
 zb t8 (s4.getD 0 undef) fa_ fun t12=>za (fun K7=>gIf t12 true (fl w6 t3 25 1 23 fun t16=>pp (Builtin.len_ #[23] 3 #[t16]) fun t17=>bf .lss 3 t1 t17 fun t18=>K7 [t18] w6) (K7 [undef] w6)) (fun s8 _d9 w10=>
 zb t12 (s8.getD 0 undef) fa_ fun t19=>za (fun K11=>gIf t19 true (fl w10 t3 25 1 23 fun t23=>px 23 t23 t1 fun t25=>fl w10 t25 43 6 41 fun t27=>pp (Builtin.len_ #[41] 3 #[t27]) fun t28=>bf .lss 3 t2 t28 fun t29=>K11 [t29] w10) (K11 [undef] w10)) (fun s12 _d13 w14=>
 zb t19 (s12.getD 0 undef) fa_ fun t30=>K t30 w14)))
theorem afU {t0 t1 t2 : Value} {w : World} {K : VW} (h : abw t0 t1 t2 w K) : zd prog Qb #[t0,t1,t2] w K:=
 okC false (.s (.r (rz 2 0 2)) (.s (.r (ra 3 0 9 (.grp 9 true (ri 2 3 0) [11] (ra 2 5 0 (.grp 13 true (ri 5 7 16) [18] (ra 2 12 0 (.grp 20 true (ri 9 14 4112) [29] (rz 2 23 0)))))))) (.n))) func10 rfl (by kernel_rfl) (by kernel_rfl) h
def V1 (t0 : Value) (w : World) (K : VW) : Prop:=
 pw w (Instr.box 25 t0) fun t1 w1=>
 lo w1 25 t1 fun t7=>ca ZD #[t7] w1 fun t8 w2=>
 pe t8 0 fun _t9=>pe t8 1 fun _t10=>pe t8 2 fun t11=>bt .eql 3 t11 (i6 0) fun t13=>K t13 w2
theorem aeW {t0 : Value} {w : World} {K : VW} (h : V1 t0 w K) : zd prog Xv #[t0] w K:=
 okC false (.s (.r (rz 2 0 2)) (.s (.r (rz 9 0 9)) (.s (.r (rz 3 0 0)) (.n)))) func29 rfl (by kernel_rfl) (by kernel_rfl) h
def QO (t0 : Value) (w : World) (K : VW) : Prop:=
 pw w (Instr.box 25 t0) fun t1 w1=>
 fl w1 t1 25 0 22 fun t10=>ca k8 #[t10] w1 fun t11 w2=>
 pp (Op.unary .not t11) fun t12=>za (fun K3=>gIf t12 false (fl w2 t1 25 1 23 fun t15=>pp (Builtin.len_ #[23] 3 #[t15]) fun t16=>bt .lss 3 t16 (i6 1) fun t17=>K3 [t17] w2) (K3 [undef] w2)) (fun s4 _d5 w6=>
 zb t12 tr_ (s4.getD 0 undef) fun t18=>za (fun K7=>gIf t18 false (fl w6 t1 25 1 23 fun t21=>pp (Builtin.len_ #[23] 3 #[t21]) fun t22=>bt .gtr 3 t22 (i6 32) fun t23=>K7 [t23] w6) (K7 [undef] w6)) (fun s8 _d9 w10=>
 zb t18 tr_ (s8.getD 0 undef) fun t24=>za (fun K11=>gIf t24 false (fl w10 t1 25 2 3 fun t27=>bt .lss 3 t27 (i6 0) fun t28=>K11 [t28] w10) (K11 [undef] w10)) (fun s12 _d13 w14=>
 zb t24 tr_ (s12.getD 0 undef) fun t29=>za (fun K15=>gIf t29 false (fl w14 t1 25 2 3 fun t32=>fl w14 t1 25 1 23 fun t34=>pp (Builtin.len_ #[23] 3 #[t34]) fun t35=>bf .geq 3 t32 t35 fun t36=>K15 [t36] w14) (K15 [undef] w14)) (fun s16 _d17 w18=>
 zb t29 tr_ (s16.getD 0 undef) fun t37=>zc t37 (K (.tuple #[(i6 (-1)),(i6 (-1)),(i6 100)]) w18) (zo [(i6 0)] w18 (fun s20 _d21 w22 K19=>
 fl w22 t1 25 1 23 fun t40=>pp (Builtin.len_ #[23] 3 #[t40]) fun t41=>bf .lss 3 (s20.getD 0 undef) t41 fun t42=>zc t42 (lo w22 25 t1 fun t45=>ca Ym #[t45,(s20.getD 0 undef)] w22 fun t47 w23=>
 pp (Op.unary .not t47) fun t48=>zc t48 (K (.tuple #[(s20.getD 0 undef),(i6 (-1)),(i6 100)]) w23) (bt .add 3 (s20.getD 0 undef) (i6 1) fun t44=>K19 [t44] w23)) (zo [(i6 0)] w22 (fun s25 _d26 w27 K24=>
 fl w27 t1 25 1 23 fun t52=>pp (Builtin.len_ #[23] 3 #[t52]) fun t53=>bf .lss 3 (s25.getD 0 undef) t53 fun t54=>zc t54 (lo w27.drew 25 t1 fun t57=>fl w27.drew t1 25 1 23 fun t59=>xl w27.drew 23 t59 (s25.getD 0 undef) 43 fun t62=>pp (Instr.build 142 #[(0,t57),(1,t62)]) fun t63=>pw w27.drew (Instr.box 142 t63) fun t64 w28=>
 zo [(i6 0)] w28 (fun s30 _d31 w32 K29=>
 fl w32 t1 25 1 23 fun t67=>px 23 t67 (s25.getD 0 undef) fun t69=>fl w32 t69 43 6 41 fun t71=>pp (Builtin.len_ #[41] 3 #[t71]) fun t72=>bf .lss 3 (s30.getD 0 undef) t72 fun t73=>zc t73 (fl w32 t1 25 1 23 fun t78=>px 23 t78 (s25.getD 0 undef) fun t80=>fl w32 t80 43 6 41 fun t82=>xl w32 41 t82 (s30.getD 0 undef) 64 fun t85=>ca kS #[t64,t85] w32 fun t86 w33=>
 pp (Op.unary .not t86) fun t87=>zc t87 (K (.tuple #[(s25.getD 0 undef),(s30.getD 0 undef),(i6 100)]) w33) (bt .add 3 (s30.getD 0 undef) (i6 1) fun t75=>K29 [t75] w33)) (bt .add 3 (s25.getD 0 undef) (i6 1) fun t56=>K24 [t56] w32))) (K (.tuple #[(i6 0),(i6 0),(i6 0)]) w27)))))))))
theorem acp {t0 : Value} {w : World} {K : VW} (h : QO t0 w K) : zd prog ZD #[t0] w K:=
 okC false (.s (.r (rz 4 0 2)) (.s (.s (.r (ra 5 0 36 (.grp 13 false (ri 4 5 4) [17] (ra 2 9 0 (.grp 19 false (ri 4 11 4) [23] (ra 2 15 0 (.grp 25 false (ri 3 17 4) [28] (ra 2 20 0 (.grp 30 false (ri 6 22 68) [36] (rz 1 28 0)))))))))) (.c (.s (.r (rz 3 0 0)) (.n)) (.n))) (.s (.s (.r (rz 1 0 0)) (.b (.lp [5] (.s (.s (.r (rz 5 0 16)) (.c (.n) (.n))) (.s (.b (.s (.r (rz 4 0 33)) (.c (.s (.r (rz 4 0 0)) (.n)) (.n)))) (.r (rz 3 0 0))))))) (.s (.s (.r (rz 1 0 0)) (.b (.lp [6] (.s (.s (.r (rz 5 0 16)) (.c (.n) (.n))) (.s (.b (.s (.r (rz 9 0 33809)) (.s (.r (rz 1 0 0)) (.b (.lp [8] (.s (.s (.r (rz 9 0 4112)) (.c (.n) (.n))) (.s (.b (.s (.r (rz 12 0 2363408)) (.c (.s (.r (rz 5 0 0)) (.n)) (.n)))) (.r (rz 3 0 0))))))))) (.r (rz 3 0 0))))))) (.s (.r (rz 3 0 0)) (.n)))))) func54 rfl (by kernel_rfl) (by kernel_rfl) h
def JA (t0 t1 : Value) (w : World) (K : VW) : Prop:=
 pw w (Instr.box 25 t0) fun t2 w1=>
 fl w1 t2 25 1 23 fun t20=>xl w1 23 t20 t1 43 fun t23=>pw w1 (Instr.alloc 43 true (.tuple #[])) fun t5 w2=>
 so w2 43 t5 t23 fun w3=>fl w3 t5 43 1 3 fun t25=>bt .lss 3 t25 (i6 0) fun t26=>za (fun K4=>gIf t26 false (fl w3 t5 43 1 3 fun t29=>bt .gtr 3 t29 (i6 8) fun t30=>K4 [t30] w3) (K4 [undef] w3)) (fun s5 _d6 w7=>
 zb t26 tr_ (s5.getD 0 undef) fun t31=>za (fun K8=>gIf t31 false (fl w7 t5 43 3 3 fun t34=>bt .lss 3 t34 (i6 0) fun t35=>K8 [t35] w7) (K8 [undef] w7)) (fun s9 _d10 w11=>
 zb t31 tr_ (s9.getD 0 undef) fun t36=>za (fun K12=>gIf t36 false (fl w11 t5 43 3 3 fun t39=>bt .gtr 3 t39 (i6 8) fun t40=>K12 [t40] w11) (K12 [undef] w11)) (fun s13 _d14 w15=>
 zb t36 tr_ (s13.getD 0 undef) fun t41=>za (fun K16=>gIf t41 false (fl w15 t5 43 4 39 fun t44=>pp (Builtin.len_ #[39] 3 #[t44]) fun t45=>fl w15 t5 43 3 3 fun t47=>bf .leq 3 t45 t47 fun t48=>K16 [t48] w15) (K16 [undef] w15)) (fun s17 _d18 w19=>
 zb t41 tr_ (s17.getD 0 undef) fun t49=>za (fun K20=>gIf t49 false (fl w19 t5 43 4 39 fun t52=>pp (Builtin.len_ #[39] 3 #[t52]) fun t53=>bt .gtr 3 t53 (i6 512) fun t54=>K20 [t54] w19) (K20 [undef] w19)) (fun s21 _d22 w23=>
 zb t49 tr_ (s21.getD 0 undef) fun t55=>za (fun K24=>gIf t55 false (fl w23 t5 43 5 40 fun t58=>pp (Builtin.len_ #[40] 3 #[t58]) fun t59=>fl w23 t5 43 4 39 fun t61=>pp (Builtin.len_ #[39] 3 #[t61]) fun t62=>bf .neq 3 t59 t62 fun t63=>K24 [t63] w23) (K24 [undef] w23)) (fun s25 _d26 w27=>
 zb t55 tr_ (s25.getD 0 undef) fun t64=>zc t64 (K fa_ w27) (zo [(i6 0)] w27 (fun s29 _d30 w31 K28=>
 fl w31 t5 43 4 39 fun t67=>pp (Builtin.len_ #[39] 3 #[t67]) fun t68=>bf .lss 3 (s29.getD 0 undef) t68 fun t69=>zc t69 (fl w31.drew t5 43 4 39 fun t73=>xl w31.drew 39 t73 (s29.getD 0 undef) 93 fun t76=>fl w31.drew t2 25 0 22 fun t78=>pp (Builtin.len_ #[22] 3 #[t78]) fun t79=>ca yQ #[t76,t79,(i6 48),tr_] w31.drew fun t80 w32=>
 pp (Op.unary .not t80) fun t81=>zc t81 (K fa_ w32) (fl w32 t5 43 4 39 fun t83=>xl w32 39 t83 (s29.getD 0 undef) 93 fun t86=>ca k7 #[t86] w32 fun t87 w33=>
 zo [(i6 0)] w33 (fun s35 _d36 w37 K34=>
 pp (Builtin.len_ #[32] 3 #[t87]) fun t90=>bf .lss 3 (s35.getD 0 undef) t90 fun t91=>zc t91 (xl w37.drew 32 t87 (s35.getD 0 undef) 3 fun t97=>fl w37.drew t5 43 1 3 fun t99=>bf .geq 3 t97 t99 fun t100=>za (fun K38=>gIf t100 false (fl w37.drew t5 43 3 3 fun t104=>bf .leq 3 (s29.getD 0 undef) t104 fun t105=>K38 [t105] w37.drew) (K38 [undef] w37.drew)) (fun s39 _d40 w41=>
 za (fun K42=>gIf (s39.getD 0 undef) true (xl w41 32 t87 (s35.getD 0 undef) 3 fun t110=>bt .lss 3 t110 (i6 0) fun t111=>K42 [t111] w41) (K42 [undef] w41)) (fun s43 _d44 w45=>
 za (fun K46=>gIf t100 false (zb (s39.getD 0 undef) (s43.getD 0 undef) fa_ fun t112=>K46 [t112] w45) (K46 [undef] w45)) (fun s47 _d48 w49=>
 zb t100 tr_ (s47.getD 0 undef) fun t113=>zc t113 (K fa_ w49) (bt .add 3 (s35.getD 0 undef) (i6 1) fun t93=>K34 [t93] w49))))) (bt .add 3 (s29.getD 0 undef) (i6 1) fun t71=>K28 [t71] w37)))) (pw w31 (Instr.alloc 161 true (.tuple #[])) fun t9 w50=>
 pw w50 (Instr.alloc 161 true (.tuple #[])) fun t10 w51=>
 zo [(i6 0)] w51 (fun s53 _d54 w55 K52=>
 fl w55 t5 43 3 3 fun t116=>bf .leq 3 (s53.getD 0 undef) t116 fun t117=>zc t117 (fl w55 t5 43 4 39 fun t121=>xl w55 39 t121 (s53.getD 0 undef) 93 fun t124=>ca Yn #[t124,t9] w55 fun _t125 w56=>
 bt .add 3 (s53.getD 0 undef) (i6 1) fun t119=>K52 [t119] w56) (zo [(i6 0)] w55 (fun s58 _d59 w60 K57=>
 fl w60 t5 43 2 38 fun t128=>pp (Builtin.len_ #[38] 3 #[t128]) fun t129=>bf .lss 3 (s58.getD 0 undef) t129 fun t130=>zc t130 (fl w60 t5 43 2 38 fun t134=>xl w60 38 t134 (s58.getD 0 undef) 165 fun t137=>pw w60 (Instr.alloc 165 true (.tuple #[])) fun t13 w61=>
 so w61 165 t13 t137 fun w62=>fl w62 t13 165 0 3 fun t139=>bt .lss 3 t139 (i6 0) fun t140=>za (fun K63=>gIf t140 false (fl w62 t13 165 0 3 fun t143=>fl w62 t5 43 1 3 fun t145=>bf .geq 3 t143 t145 fun t146=>K63 [t146] w62) (K63 [undef] w62)) (fun s64 _d65 w66=>
 zb t140 tr_ (s64.getD 0 undef) fun t147=>za (fun K67=>gIf t147 false (fl w66 t13 165 1 3 fun t150=>bt .lss 3 t150 (i6 0) fun t151=>K67 [t151] w66) (K67 [undef] w66)) (fun s68 _d69 w70=>
 zb t147 tr_ (s68.getD 0 undef) fun t152=>za (fun K71=>gIf t152 false (fl w70 t13 165 1 3 fun t155=>fl w70 t5 43 1 3 fun t157=>bf .geq 3 t155 t157 fun t158=>K71 [t158] w70) (K71 [undef] w70)) (fun s72 _d73 w74=>
 zb t152 tr_ (s72.getD 0 undef) fun t159=>za (fun K75=>gIf t159 false (fl w74 t13 165 0 3 fun t162=>fl w74 t13 165 1 3 fun t164=>bf .eql 3 t162 t164 fun t165=>K75 [t165] w74) (K75 [undef] w74)) (fun s76 _d77 w78=>
 zb t159 tr_ (s76.getD 0 undef) fun t166=>zc t166 (K fa_ w78) (bt .gtr 3 (s58.getD 0 undef) (i6 0) fun t168=>za (fun K79=>gIf t168 true (fl w78.drew t5 43 2 38 fun t171=>bt .sub 3 (s58.getD 0 undef) (i6 1) fun t173=>px 38 t171 t173 fun t174=>fl w78.drew t174 165 0 3 fun t176=>fl w78.drew t13 165 0 3 fun t178=>bf .gtr 3 t176 t178 fun t179=>K79 [t179] w78.drew) (K79 [undef] w78.drew)) (fun s80 _d81 w82=>
 za (fun K83=>gIf (s80.getD 0 undef) false (fl w82 t5 43 2 38 fun t182=>bt .sub 3 (s58.getD 0 undef) (i6 1) fun t184=>px 38 t182 t184 fun t185=>fl w82 t185 165 0 3 fun t187=>fl w82 t13 165 0 3 fun t189=>bf .eql 3 t187 t189 fun t190=>K83 [t190] w82) (K83 [undef] w82)) (fun s84 _d85 w86=>
 za (fun K87=>gIf (s84.getD 0 undef) true (fl w86 t5 43 2 38 fun t193=>bt .sub 3 (s58.getD 0 undef) (i6 1) fun t195=>px 38 t193 t195 fun t196=>fl w86 t196 165 1 3 fun t198=>fl w86 t13 165 1 3 fun t200=>bf .geq 3 t198 t200 fun t201=>K87 [t201] w86) (K87 [undef] w86)) (fun s88 _d89 w90=>
 za (fun K91=>gIf (s80.getD 0 undef) false (zb (s84.getD 0 undef) (s88.getD 0 undef) fa_ fun t202=>K91 [t202] w90) (K91 [undef] w90)) (fun s92 _d93 w94=>
 za (fun K95=>gIf t168 true (zb (s80.getD 0 undef) tr_ (s92.getD 0 undef) fun t203=>K95 [t203] w94) (K95 [undef] w94)) (fun s96 _d97 w98=>
 zb t168 (s96.getD 0 undef) fa_ fun t204=>zc t204 (K fa_ w98) (fl w98.drew t13 165 0 3 fun t206=>fl w98.drew t13 165 1 3 fun t208=>px 161 t10 t206 fun t209=>px 160 t209 t208 fun t210=>so w98.drew 4 t210 tr_ fun w99=>bt .add 3 (s58.getD 0 undef) (i6 1) fun t132=>K57 [t132] w99)))))))))))) (zo [(i6 0)] w60 (fun s101 _d102 w103 K100=>
 fl w103 t5 43 1 3 fun t213=>bf .lss 3 (s101.getD 0 undef) t213 fun t214=>zc t214 (zo [(i6 0)] w103 (fun s105 _d106 w107 K104=>
 fl w107 t5 43 1 3 fun t219=>bf .lss 3 (s105.getD 0 undef) t219 fun t220=>zc t220 (bf .neq 3 (s101.getD 0 undef) (s105.getD 0 undef) fun t225=>za (fun K108=>gIf t225 true (px 161 t9 (s101.getD 0 undef) fun t229=>xl w107 160 t229 (s105.getD 0 undef) 4 fun t231=>K108 [t231] w107) (K108 [undef] w107)) (fun s109 _d110 w111=>
 zb t225 (s109.getD 0 undef) fa_ fun t232=>za (fun K112=>gIf t232 true (px 161 t10 (s101.getD 0 undef) fun t236=>xl w111 160 t236 (s105.getD 0 undef) 4 fun t238=>pp (Op.unary .not t238) fun t239=>K112 [t239] w111) (K112 [undef] w111)) (fun s113 _d114 w115=>
 zb t232 (s113.getD 0 undef) fa_ fun t240=>zc t240 (K fa_ w115) (zo [(i6 0)] w115 (fun s117 _d118 w119 K116=>
 fl w119 t5 43 1 3 fun t243=>bf .lss 3 (s117.getD 0 undef) t243 fun t244=>zc t244 (bf .neq 3 (s101.getD 0 undef) (s117.getD 0 undef) fun t249=>za (fun K120=>gIf t249 true (px 161 t10 (s101.getD 0 undef) fun t253=>xl w119 160 t253 (s105.getD 0 undef) 4 fun t255=>K120 [t255] w119) (K120 [undef] w119)) (fun s121 _d122 w123=>
 zb t249 (s121.getD 0 undef) fa_ fun t256=>za (fun K124=>gIf t256 true (px 161 t10 (s105.getD 0 undef) fun t260=>xl w123 160 t260 (s117.getD 0 undef) 4 fun t262=>K124 [t262] w123) (K124 [undef] w123)) (fun s125 _d126 w127=>
 zb t256 (s125.getD 0 undef) fa_ fun t263=>za (fun K128=>gIf t263 true (px 161 t10 (s101.getD 0 undef) fun t267=>xl w127 160 t267 (s117.getD 0 undef) 4 fun t269=>pp (Op.unary .not t269) fun t270=>K128 [t270] w127) (K128 [undef] w127)) (fun s129 _d130 w131=>
 zb t263 (s129.getD 0 undef) fa_ fun t271=>zc t271 (K fa_ w131) (bt .add 3 (s117.getD 0 undef) (i6 1) fun t246=>K116 [t246] w131))))) (bt .add 3 (s105.getD 0 undef) (i6 1) fun t222=>K104 [t222] w119)))))) (bt .add 3 (s101.getD 0 undef) (i6 1) fun t216=>K100 [t216] w107))) (zo [(i6 0),(i6 0)] w103 (fun s133 _d134 w135 K132=>
 fl w135 t5 43 6 41 fun t274=>pp (Builtin.len_ #[41] 3 #[t274]) fun t275=>bf .lss 3 (s133.getD 1 undef) t275 fun t276=>za (fun K136=>gIf t276 true (bt .leq 3 (s133.getD 1 undef) (i6 1024) fun t279=>K136 [t279] w135) (K136 [undef] w135)) (fun s137 _d138 w139=>
 zb t276 (s137.getD 0 undef) fa_ fun t280=>zc t280 (za (fun K140=>
 fl w139 t5 43 6 41 fun t284=>px 41 t284 (s133.getD 1 undef) fun t286=>fl w139 t286 64 0 55 fun t288=>bt .eql 55 t288 (Value.int .u8 4) fun t289=>zc t289 (bt .add 3 (s133.getD 0 undef) (i6 1) fun t291=>K140 [t291] w139) (K140 [(s133.getD 0 undef)] w139)) (fun s141 _d142 w143=>
 bt .add 3 (s133.getD 1 undef) (i6 1) fun t282=>K132 [(s141.getD 0 undef),t282] w143)) (fl w139 t5 43 6 41 fun t293=>pp (Builtin.len_ #[41] 3 #[t293]) fun t294=>bt .lss 3 t294 (i6 1) fun t295=>za (fun K144=>gIf t295 false (fl w139 t5 43 6 41 fun t298=>pp (Builtin.len_ #[41] 3 #[t298]) fun t299=>bt .gtr 3 t299 (i6 1024) fun t300=>K144 [t300] w139) (K144 [undef] w139)) (fun s145 _d146 w147=>
 zb t295 tr_ (s145.getD 0 undef) fun t301=>za (fun K148=>gIf t301 false (bt .gtr 3 (s133.getD 0 undef) (i6 256) fun t304=>K148 [t304] w147) (K148 [undef] w147)) (fun s149 _d150 w151=>
 zb t301 tr_ (s149.getD 0 undef) fun t305=>zc t305 (K fa_ w151) (fl w151 t2 25 2 3 fun t308=>bf .neq 3 t1 t308 fun t309=>za (fun K152=>gIf t309 false (fl w151 t5 43 1 3 fun t312=>bt .eql 3 t312 (i6 0) fun t313=>K152 [t313] w151) (K152 [undef] w151)) (fun s153 _d154 w155=>
 za (fun K156=>gIf (s153.getD 0 undef) true (fl w155 t5 43 3 3 fun t316=>bt .eql 3 t316 (i6 0) fun t317=>K156 [t317] w155) (K156 [undef] w155)) (fun s157 _d158 w159=>
 za (fun K160=>gIf t309 false (zb (s153.getD 0 undef) (s157.getD 0 undef) fa_ fun t318=>K160 [t318] w159) (K160 [undef] w159)) (fun s161 _d162 w163=>
 za (fun K164=>gIf (s161.getD 0 undef) true (fl w163 t5 43 4 39 fun t321=>px 39 t321 (i6 0) fun t322=>fl w163 t322 93 0 91 fun t324=>bt .eql 91 t324 (Value.int .u8 1) fun t325=>K164 [t325] w163) (K164 [undef] w163)) (fun s165 _d166 w167=>
 za (fun K168=>gIf t309 false (zb (s161.getD 0 undef) (s165.getD 0 undef) fa_ fun t326=>K168 [t326] w167) (K168 [undef] w167)) (fun s169 _d170 w171=>
 zb t309 tr_ (s169.getD 0 undef) fun t327=>K t327 w171))))))))))))))))))))))))))
theorem adF {t0 t1 : Value} {w : World} {K : VW} (h : JA t0 t1 w K) : zd prog Ym #[t0,t1] w K:=
 okC false (.s (.r (rz 2 0 2)) (.s (.r (rz 7 0 10500)) (.s (.s (.r (ra 4 0 4 (.grp 27 false (ri 3 4 4) [30] (ra 2 7 0 (.grp 32 false (ri 3 9 4) [35] (ra 2 12 0 (.grp 37 false (ri 3 14 4) [40] (ra 2 17 0 (.grp 42 false (ri 6 19 260) [48] (ra 2 25 0 (.grp 50 false (ri 4 27 4) [54] (ra 2 31 0 (.grp 56 false (ri 7 33 260) [63] (rz 1 40 0)))))))))))))) (.c (.s (.r (rz 1 0 0)) (.n)) (.n))) (.s (.s (.r (rz 1 0 0)) (.b (.lp [6] (.s (.s (.r (rz 5 0 16)) (.c (.n) (.n))) (.s (.b (.s (.s (.r (rz 10 0 135428)) (.c (.s (.r (rz 1 0 0)) (.n)) (.n))) (.s (.r (rz 7 0 2308)) (.s (.r (rz 1 0 0)) (.b (.lp [8] (.s (.s (.r (rz 4 0 0)) (.c (.n) (.n))) (.s (.b (.s (.r (ra 8 0 1088 (.grp 101 false (ri 5 8 16) [106] (.grp 106 true (ri 5 13 64) [111] (.grp 101 false (ri 1 18 0) [112] (rz 1 19 0)))))) (.c (.s (.r (rz 1 0 0)) (.n)) (.n)))) (.r (rz 3 0 0)))))))))) (.r (rz 3 0 0))))))) (.s (.r (rz 2 0 10)) (.s (.s (.r (rz 1 0 0)) (.b (.lp [11] (.s (.s (.r (rz 4 0 16)) (.c (.n) (.n))) (.s (.b (.r (rz 6 0 2308))) (.r (rz 3 0 0))))))) (.s (.s (.r (rz 1 0 0)) (.b (.lp [12] (.s (.s (.r (rz 5 0 16)) (.c (.n) (.n))) (.s (.b (.s (.r (rz 7 0 10500)) (.s (.s (.r (ra 4 0 4 (.grp 141 false (ri 5 4 68) [146] (ra 2 9 0 (.grp 148 false (ri 3 11 4) [151] (ra 2 14 0 (.grp 153 false (ri 5 16 68) [158] (ra 2 21 0 (.grp 160 false (ri 5 23 68) [165] (rz 1 28 0)))))))))) (.c (.s (.r (rz 1 0 0)) (.n)) (.n))) (.s (.s (.r (ra 3 0 0 (.grp 169 true (ri 11 3 69636) [180] (.grp 180 false (ri 11 14 69636) [191] (.grp 191 true (ri 10 25 69636) [201] (.grp 180 false (ri 1 35 0) [202] (.grp 169 true (ri 1 36 0) [203] (rz 1 37 0)))))))) (.c (.s (.r (rz 1 0 0)) (.n)) (.n))) (.r (rz 7 0 8260)))))) (.r (rz 3 0 0))))))) (.s (.s (.r (rz 1 0 0)) (.b (.lp [14] (.s (.s (.r (rz 4 0 16)) (.c (.n) (.n))) (.s (.b (.s (.r (rz 1 0 0)) (.b (.lp [15] (.s (.s (.r (rz 4 0 16)) (.c (.n) (.n))) (.s (.b (.s (.s (.r (ra 4 0 0 (.grp 226 true (ri 5 4 256) [231] (ra 2 9 0 (.grp 233 true (ri 6 11 256) [239] (rz 1 17 0)))))) (.c (.s (.r (rz 1 0 0)) (.n)) (.n))) (.s (.r (rz 1 0 0)) (.b (.lp [16] (.s (.s (.r (rz 4 0 16)) (.c (.n) (.n))) (.s (.b (.s (.r (ra 4 0 0 (.grp 250 true (ri 5 4 256) [255] (ra 2 9 0 (.grp 257 true (ri 5 11 256) [262] (ra 2 16 0 (.grp 264 true (ri 6 18 256) [270] (rz 1 24 0)))))))) (.c (.s (.r (rz 1 0 0)) (.n)) (.n)))) (.r (rz 3 0 0))))))))) (.r (rz 3 0 0)))))))) (.r (rz 3 0 0))))))) (.s (.r (rz 1 0 0)) (.s (.s (.r (rz 1 0 0)) (.b (.lp [17,18] (.s (.s (.r (ra 6 0 16 (.grp 277 true (ri 2 6 0) [279] (rz 1 8 0)))) (.c (.n) (.n))) (.j [17] (.b (.s (.r (rz 7 0 1028)) (.c (.r (rz 3 0 0)) (.n)))) (.r (rz 3 0 0))))))) (.s (.s (.r (ra 5 0 4 (.grp 296 false (ri 4 5 4) [300] (ra 2 9 0 (.grp 302 false (ri 2 11 0) [304] (rz 1 13 0)))))) (.c (.s (.r (rz 1 0 0)) (.n)) (.n))) (.s (.r (ra 5 0 16 (.grp 310 false (ri 4 5 4) [314] (.grp 314 true (ri 3 9 4) [317] (.grp 310 false (ri 2 12 0) [319] (.grp 319 true (ri 6 14 260) [325] (.grp 310 false (ri 1 20 0) [326] (rz 2 21 0)))))))) (.n))))))))))))) func78 rfl (by kernel_rfl) (by kernel_rfl) h
def vE (t0 t1 : Value) (w : World) (K : VW) : Prop:=
 pw w (Instr.box 64 t1) fun t3 w1=>
 fa t0 142 1 fun t23=>fl w1 t23 43 6 41 fun t25=>pp (Builtin.len_ #[41] 3 #[t25]) fun t26=>fl w1 t3 64 12 3 fun t28=>bt .lss 3 t28 (i6 0) fun t29=>za (fun K2=>gIf t29 false (fl w1 t3 64 0 55 fun t32=>bt .eql 55 t32 (Value.int .u8 14) fun t33=>K2 [t33] w1) (K2 [undef] w1)) (fun s3 _d4 w5=>
 za (fun K6=>gIf (s3.getD 0 undef) true (fl w5 t3 64 10 3 fun t36=>bt .neq 3 t36 (i6 0) fun t37=>K6 [t37] w5) (K6 [undef] w5)) (fun s7 _d8 w9=>
 za (fun K10=>gIf t29 false (zb (s3.getD 0 undef) (s7.getD 0 undef) fa_ fun t38=>K10 [t38] w9) (K10 [undef] w9)) (fun s11 _d12 w13=>
 zb t29 tr_ (s11.getD 0 undef) fun t39=>za (fun K14=>gIf t39 false (fl w13 t3 64 0 55 fun t42=>bt .neq 55 t42 (Value.int .u8 14) fun t43=>K14 [t43] w13) (K14 [undef] w13)) (fun s15 _d16 w17=>
 za (fun K18=>gIf (s15.getD 0 undef) true (fl w17 t3 64 10 3 fun t46=>bt .lss 3 t46 (i6 0) fun t47=>K18 [t47] w17) (K18 [undef] w17)) (fun s19 _d20 w21=>
 za (fun K22=>gIf (s19.getD 0 undef) false (fl w21 t3 64 10 3 fun t50=>bf .geq 3 t50 t26 fun t52=>K22 [t52] w21) (K22 [undef] w21)) (fun s23 _d24 w25=>
 za (fun K26=>gIf (s15.getD 0 undef) true (zb (s19.getD 0 undef) tr_ (s23.getD 0 undef) fun t53=>K26 [t53] w25) (K26 [undef] w25)) (fun s27 _d28 w29=>
 za (fun K30=>gIf t39 false (zb (s15.getD 0 undef) (s27.getD 0 undef) fa_ fun t54=>K30 [t54] w29) (K30 [undef] w29)) (fun s31 _d32 w33=>
 zb t39 tr_ (s31.getD 0 undef) fun t55=>zc t55 (K fa_ w33) (fl w33 t3 64 1 58 fun t59=>ca jv #[t0,t59] w33 fun t60 w34=>
 pe t60 0 fun t61=>pe t60 1 fun t62=>pw w34 (Instr.alloc 93 true (.tuple #[])) fun t6 w35=>
 so w35 93 t6 t61 fun w36=>fl w36 t3 64 2 61 fun t66=>ca yK #[t0,t66] w36 fun t67 w37=>
 pe t67 0 fun t68=>pe t67 1 fun t69=>pw w37 (Instr.alloc 93 true (.tuple #[])) fun t8 w38=>
 so w38 93 t8 t68 fun w39=>fl w39 t3 64 3 61 fun t73=>ca yK #[t0,t73] w39 fun t74 w40=>
 pe t74 0 fun t75=>pe t74 1 fun t76=>pw w40 (Instr.alloc 93 true (.tuple #[])) fun t10 w41=>
 so w41 93 t10 t75 fun w42=>fl w42 t3 64 6 58 fun t80=>ca yL #[t0,t80] w42 fun t81 w43=>
 pe t81 0 fun t82=>pe t81 1 fun t83=>pe t81 2 fun t84=>pw w43 (Instr.alloc 93 true (.tuple #[])) fun t12 w44=>
 so w44 93 t12 t82 fun w45=>fl w45 t3 64 0 55 fun t86=>bt .eql 55 t86 (Value.int .u8 1) fun t88=>zc t88 (lo w45 64 t3 fun t89=>ca zN #[t89,(Value.string { data:=#[84,65] })] w45 fun t90 w46=>
 za (fun K47=>gIf t90 true (K47 [t62] w46) (K47 [undef] w46)) (fun s48 _d49 w50=>
 zb t90 (s48.getD 0 undef) fa_ fun t93=>za (fun K51=>gIf t93 true (K51 [t69] w50) (K51 [undef] w50)) (fun s52 _d53 w54=>
 zb t93 (s52.getD 0 undef) fa_ fun t96=>za (fun K55=>gIf t96 true (lo w54 93 t8 fun t98=>lo w54 93 t6 fun t99=>ca yG #[t98,t99] w54 fun t100 w59=>
 K55 [t100] w59) (K55 [undef] w54)) (fun s56 _d57 w58=>
 zb t96 (s56.getD 0 undef) fa_ fun t101=>K t101 w58)))) (bt .eql 55 t86 (Value.int .u8 2) fun t103=>zc t103 (lo w45 64 t3 fun t104=>ca zN #[t104,(Value.string { data:=#[84,65,66,83] })] w45 fun t105 w60=>
 pp (Op.unary .not t105) fun t106=>za (fun K61=>gIf t106 false (pp (Op.unary .not t62) fun t109=>K61 [t109] w60) (K61 [undef] w60)) (fun s62 _d63 w64=>
 zb t106 tr_ (s62.getD 0 undef) fun t110=>za (fun K65=>gIf t110 false (pp (Op.unary .not t69) fun t113=>K65 [t113] w64) (K65 [undef] w64)) (fun s66 _d67 w68=>
 zb t110 tr_ (s66.getD 0 undef) fun t114=>za (fun K69=>gIf t114 false (pp (Op.unary .not t76) fun t117=>K69 [t117] w68) (K69 [undef] w68)) (fun s70 _d71 w72=>
 zb t114 tr_ (s70.getD 0 undef) fun t118=>zc t118 (K fa_ w72) (fl w72 t3 64 5 9 fun t120=>ca Yo #[t120] w72 fun t121 w73=>
 zc t121 (lo w73 93 t6 fun t122=>ca zI #[t122,(Value.int .u8 1)] w73 fun t123 w74=>
 za (fun K75=>gIf t123 true (lo w74 93 t8 fun t125=>ca zI #[t125,(Value.int .u8 1)] w74 fun t126 w79=>
 K75 [t126] w79) (K75 [undef] w74)) (fun s76 _d77 w78=>
 zb t123 (s76.getD 0 undef) fa_ fun t127=>za (fun K80=>gIf t127 true (lo w78 93 t10 fun t129=>ca zI #[t129,(Value.int .u8 1)] w78 fun t130 w84=>
 K80 [t130] w84) (K80 [undef] w78)) (fun s81 _d82 w83=>
 zb t127 (s81.getD 0 undef) fa_ fun t131=>K t131 w83))) (lo w73 93 t8 fun t132=>ca zI #[t132,(Value.int .u8 1)] w73 fun t133 w85=>
 za (fun K86=>gIf t133 true (lo w85 93 t10 fun t135=>ca zI #[t135,(Value.int .u8 1)] w85 fun t136 w90=>
 K86 [t136] w90) (K86 [undef] w85)) (fun s87 _d88 w89=>
 zb t133 (s87.getD 0 undef) fa_ fun t137=>za (fun K91=>gIf t137 false (fl w89 t3 64 5 9 fun t140=>bt .eql 9 t140 (Value.string { data:=#[61,61] }) fun t141=>K91 [t141] w89) (K91 [undef] w89)) (fun s92 _d93 w94=>
 za (fun K95=>gIf (s92.getD 0 undef) false (fl w94 t3 64 5 9 fun t144=>bt .eql 9 t144 (Value.string { data:=#[33,61] }) fun t145=>K95 [t145] w94) (K95 [undef] w94)) (fun s96 _d97 w98=>
 za (fun K99=>gIf t137 false (zb (s92.getD 0 undef) tr_ (s96.getD 0 undef) fun t146=>K99 [t146] w98) (K99 [undef] w98)) (fun s100 _d101 w102=>
 za (fun K103=>gIf (s100.getD 0 undef) true (lo w102 93 t8 fun t148=>ca zI #[t148,(Value.int .u8 2)] w102 fun t149 w107=>
 K103 [t149] w107) (K103 [undef] w102)) (fun s104 _d105 w106=>
 za (fun K108=>gIf t137 false (zb (s100.getD 0 undef) (s104.getD 0 undef) fa_ fun t150=>K108 [t150] w106) (K108 [undef] w106)) (fun s109 _d110 w111=>
 za (fun K112=>gIf (s109.getD 0 undef) true (lo w111 93 t10 fun t152=>ca zI #[t152,(Value.int .u8 2)] w111 fun t153 w116=>
 K112 [t153] w116) (K112 [undef] w111)) (fun s113 _d114 w115=>
 za (fun K117=>gIf t137 false (zb (s109.getD 0 undef) (s113.getD 0 undef) fa_ fun t154=>K117 [t154] w115) (K117 [undef] w115)) (fun s118 _d119 w120=>
 zb t137 tr_ (s118.getD 0 undef) fun t155=>fl w120 t3 64 5 9 fun t157=>ca vO #[t157] w120 fun t158 w121=>
 za (fun K122=>gIf t158 true (lo w121 93 t6 fun t160=>ca zI #[t160,(Value.int .u8 2)] w121 fun t161 w126=>
 K122 [t161] w126) (K122 [undef] w121)) (fun s123 _d124 w125=>
 zb t158 (s123.getD 0 undef) fa_ fun t162=>za (fun K127=>gIf t162 true (K127 [t155] w125) (K127 [undef] w125)) (fun s128 _d129 w130=>
 zb t162 (s128.getD 0 undef) fa_ fun t165=>K t165 w130)))))))))))))))) (bt .eql 55 t86 (Value.int .u8 3) fun t167=>zc t167 (lo w45 64 t3 fun t168=>ca zN #[t168,(Value.string { data:=#[84,65,83] })] w45 fun t169 w131=>
 za (fun K132=>gIf t169 true (K132 [t62] w131) (K132 [undef] w131)) (fun s133 _d134 w135=>
 zb t169 (s133.getD 0 undef) fa_ fun t172=>za (fun K136=>gIf t172 true (K136 [t69] w135) (K136 [undef] w135)) (fun s137 _d138 w139=>
 zb t172 (s137.getD 0 undef) fa_ fun t175=>za (fun K140=>gIf t175 true (fl w139 t3 64 5 9 fun t178=>bt .eql 9 t178 (Value.string { data:=#[45] }) fun t179=>K140 [t179] w139) (K140 [undef] w139)) (fun s141 _d142 w143=>
 za (fun K144=>gIf (s141.getD 0 undef) true (lo w143 93 t6 fun t181=>ca zI #[t181,(Value.int .u8 1)] w143 fun t182 w148=>
 K144 [t182] w148) (K144 [undef] w143)) (fun s145 _d146 w147=>
 za (fun K149=>gIf t175 true (zb (s141.getD 0 undef) (s145.getD 0 undef) fa_ fun t183=>K149 [t183] w147) (K149 [undef] w147)) (fun s150 _d151 w152=>
 za (fun K153=>gIf (s150.getD 0 undef) true (lo w152 93 t8 fun t185=>ca zI #[t185,(Value.int .u8 1)] w152 fun t186 w157=>
 K153 [t186] w157) (K153 [undef] w152)) (fun s154 _d155 w156=>
 za (fun K158=>gIf t175 true (zb (s150.getD 0 undef) (s154.getD 0 undef) fa_ fun t187=>K158 [t187] w156) (K158 [undef] w156)) (fun s159 _d160 w161=>
 za (fun K162=>gIf (s159.getD 0 undef) false (fl w161 t3 64 5 9 fun t190=>bt .eql 9 t190 (Value.string { data:=#[33] }) fun t191=>K162 [t191] w161) (K162 [undef] w161)) (fun s163 _d164 w165=>
 za (fun K166=>gIf (s163.getD 0 undef) true (lo w165 93 t6 fun t193=>ca zI #[t193,(Value.int .u8 2)] w165 fun t194 w170=>
 K166 [t194] w170) (K166 [undef] w165)) (fun s167 _d168 w169=>
 za (fun K171=>gIf (s159.getD 0 undef) false (zb (s163.getD 0 undef) (s167.getD 0 undef) fa_ fun t195=>K171 [t195] w169) (K171 [undef] w169)) (fun s172 _d173 w174=>
 za (fun K175=>gIf (s172.getD 0 undef) true (lo w174 93 t8 fun t197=>ca zI #[t197,(Value.int .u8 2)] w174 fun t198 w179=>
 K175 [t198] w179) (K175 [undef] w174)) (fun s176 _d177 w178=>
 za (fun K180=>gIf (s159.getD 0 undef) false (zb (s172.getD 0 undef) (s176.getD 0 undef) fa_ fun t199=>K180 [t199] w178) (K180 [undef] w178)) (fun s181 _d182 w183=>
 za (fun K184=>gIf t175 true (zb (s159.getD 0 undef) tr_ (s181.getD 0 undef) fun t200=>K184 [t200] w183) (K184 [undef] w183)) (fun s185 _d186 w187=>
 zb t175 (s185.getD 0 undef) fa_ fun t201=>K t201 w187)))))))))))))) (bt .eql 55 t86 (Value.int .u8 4) fun t203=>zc t203 (lo w45.drew 64 t3 fun t204=>ca zN #[t204,(Value.string { data:=#[84,70,77] })] w45.drew fun t205 w188=>
 za (fun K189=>gIf t205 true (K189 [t62] w188) (K189 [undef] w188)) (fun s190 _d191 w192=>
 zb t205 (s190.getD 0 undef) fa_ fun t208=>za (fun K193=>gIf t208 true (K193 [t84] w192) (K193 [undef] w192)) (fun s194 _d195 w196=>
 zb t208 (s194.getD 0 undef) fa_ fun t211=>za (fun K197=>gIf t211 true (lo w196 93 t6 fun t213=>ca zI #[t213,(Value.int .u8 4)] w196 fun t214 w201=>
 K197 [t214] w201) (K197 [undef] w196)) (fun s198 _d199 w200=>
 zb t211 (s198.getD 0 undef) fa_ fun t215=>za (fun K202=>gIf t215 true (fl w200 t6 93 1 4 fun t218=>fl w200 t3 64 7 4 fun t220=>bf .eql 4 t218 t220 fun t221=>K202 [t221] w200) (K202 [undef] w200)) (fun s203 _d204 w205=>
 zb t215 (s203.getD 0 undef) fa_ fun t222=>za (fun K206=>gIf t222 true (fl w205 t6 93 4 39 fun t225=>xl w205 39 t225 (i6 0) 93 fun t227=>lo w205 93 t12 fun t228=>ca yG #[t227,t228] w205 fun t229 w210=>
 K206 [t229] w210) (K206 [undef] w205)) (fun s207 _d208 w209=>
 zb t222 (s207.getD 0 undef) fa_ fun t230=>za (fun K211=>gIf t230 true (fl w209 t3 64 7 4 fun t233=>pp (Op.unary .not t233) fun t234=>K211 [t234] w209) (K211 [undef] w209)) (fun s212 _d213 w214=>
 za (fun K215=>gIf (s212.getD 0 undef) false (ca kh #[t83] w214 fun t237 w219=>
 bt .lss 3 t237 (i6 3) fun t238=>K215 [t238] w219) (K215 [undef] w214)) (fun s216 _d217 w218=>
 za (fun K220=>gIf t230 true (zb (s212.getD 0 undef) tr_ (s216.getD 0 undef) fun t239=>K220 [t239] w218) (K220 [undef] w218)) (fun s221 _d222 w223=>
 zb t230 (s221.getD 0 undef) fa_ fun t240=>K t240 w223))))))))) (bt .eql 55 t86 (Value.int .u8 5) fun t242=>zc t242 (lo w45.drew 64 t3 fun t243=>ca zN #[t243,(Value.string { data:=#[84,65] })] w45.drew fun t244 w224=>
 za (fun K225=>gIf t244 true (K225 [t62] w224) (K225 [undef] w224)) (fun s226 _d227 w228=>
 zb t244 (s226.getD 0 undef) fa_ fun t247=>za (fun K229=>gIf t247 true (K229 [t69] w228) (K229 [undef] w228)) (fun s230 _d231 w232=>
 zb t247 (s230.getD 0 undef) fa_ fun t250=>za (fun K233=>gIf t250 true (lo w232 93 t6 fun t252=>ca zI #[t252,(Value.int .u8 3)] w232 fun t253 w237=>
 K233 [t253] w237) (K233 [undef] w232)) (fun s234 _d235 w236=>
 zb t250 (s234.getD 0 undef) fa_ fun t254=>za (fun K238=>gIf t254 true (fl w236 t6 93 4 39 fun t257=>xl w236 39 t257 (i6 0) 93 fun t259=>lo w236 93 t8 fun t260=>ca yG #[t259,t260] w236 fun t261 w242=>
 K238 [t261] w242) (K238 [undef] w236)) (fun s239 _d240 w241=>
 zb t254 (s239.getD 0 undef) fa_ fun t262=>K t262 w241))))) (bt .eql 55 t86 (Value.int .u8 6) fun t264=>zc t264 (lo w45 64 t3 fun t265=>ca zN #[t265,(Value.string { data:=#[84,76,85] })] w45 fun t266 w243=>
 pp (Op.unary .not t266) fun t267=>za (fun K244=>gIf t267 false (pp (Op.unary .not t62) fun t270=>K244 [t270] w243) (K244 [undef] w243)) (fun s245 _d246 w247=>
 zb t267 tr_ (s245.getD 0 undef) fun t271=>za (fun K248=>gIf t271 false (lo w247 93 t6 fun t273=>ca zI #[t273,(Value.int .u8 5)] w247 fun t274 w252=>
 pp (Op.unary .not t274) fun t275=>K248 [t275] w252) (K248 [undef] w247)) (fun s249 _d250 w251=>
 zb t271 tr_ (s249.getD 0 undef) fun t276=>za (fun K253=>gIf t276 false (fl w251 t6 93 3 3 fun t279=>fl w251 t3 64 9 3 fun t281=>bf .neq 3 t279 t281 fun t282=>K253 [t282] w251) (K253 [undef] w251)) (fun s254 _d255 w256=>
 zb t276 tr_ (s254.getD 0 undef) fun t283=>zc t283 (K fa_ w256) (fa t0 142 0 fun t287=>fl w256.drew t287 25 0 22 fun t289=>lo w256.drew 93 t6 fun t290=>ca vM #[t289,t290] w256.drew fun t291 w257=>
 pe t291 0 fun t292=>pe t291 1 fun _t293=>fl w257 t3 64 4 62 fun t296=>ca xP #[t0,t296,t292] w257 fun t298 w258=>
 K t298 w258))))) (bt .eql 55 t86 (Value.int .u8 7) fun t300=>zc t300 (lo w45.drew 64 t3 fun t301=>ca zN #[t301,(Value.string { data:=#[84,76,78] })] w45.drew fun t302 w259=>
 pp (Op.unary .not t302) fun t303=>za (fun K260=>gIf t303 false (pp (Op.unary .not t62) fun t306=>K260 [t306] w259) (K260 [undef] w259)) (fun s261 _d262 w263=>
 zb t303 tr_ (s261.getD 0 undef) fun t307=>za (fun K264=>gIf t307 false (fl w263 t3 64 8 3 fun t310=>bt .lss 3 t310 (i6 0) fun t311=>K264 [t311] w263) (K264 [undef] w263)) (fun s265 _d266 w267=>
 zb t307 tr_ (s265.getD 0 undef) fun t312=>za (fun K268=>gIf t312 false (fl w267 t3 64 8 3 fun t315=>fa t0 142 0 fun t318=>fl w267 t318 25 1 23 fun t320=>pp (Builtin.len_ #[23] 3 #[t320]) fun t321=>bf .geq 3 t315 t321 fun t322=>K268 [t322] w267) (K268 [undef] w267)) (fun s269 _d270 w271=>
 zb t312 tr_ (s269.getD 0 undef) fun t323=>zc t323 (K fa_ w271) (fa t0 142 0 fun t326=>fl w271.drew t326 25 1 23 fun t328=>fl w271.drew t3 64 8 3 fun t330=>xl w271.drew 23 t328 t330 43 fun t332=>pw w271.drew (Instr.alloc 43 true (.tuple #[])) fun t18 w272=>
 Ext w271.drew w272∧
 so w272 43 t18 t332 fun w273=>fl w273.drew t3 64 4 62 fun t335=>fl w273.drew t18 43 4 39 fun t337=>fl w273.drew t18 43 3 3 fun t339=>bt .add 3 t339 (i6 1) fun t340=>pp (Instr.sliceAt 39 t337 (some (i6 1)) (some t340) none) fun t341=>ca xP #[t0,t335,t341] w273.drew fun t342 w274=>
 za (fun K275=>gIf t342 true (lo w274 93 t6 fun t344=>fl w274 t18 43 4 39 fun t346=>xl w274 39 t346 (i6 0) 93 fun t348=>ca yG #[t344,t348] w274 fun t349 w279=>
 K275 [t349] w279) (K275 [undef] w274)) (fun s276 _d277 w278=>
 zb t342 (s276.getD 0 undef) fa_ fun t350=>K t350 w278)))))) (bt .eql 55 t86 (Value.int .u8 8) fun t352=>zc t352 (lo w45 64 t3 fun t353=>ca zN #[t353,(Value.string { data:=#[84] })] w45 fun t354 w280=>
 za (fun K281=>gIf t354 true (K281 [t62] w280) (K281 [undef] w280)) (fun s282 _d283 w284=>
 zb t354 (s282.getD 0 undef) fa_ fun t357=>za (fun K285=>gIf t357 true (lo w284 93 t6 fun t359=>ca zI #[t359,(Value.int .u8 1)] w284 fun t360 w289=>
 K285 [t360] w289) (K285 [undef] w284)) (fun s286 _d287 w288=>
 zb t357 (s286.getD 0 undef) fa_ fun t361=>K t361 w288))) (bt .eql 55 t86 (Value.int .u8 9) fun t363=>zc t363 (lo w45 64 t3 fun t364=>ca zN #[t364,(Value.string { data:=#[65] })] w45 fun t365 w290=>
 za (fun K291=>gIf t365 true (K291 [t69] w290) (K291 [undef] w290)) (fun s292 _d293 w294=>
 zb t365 (s292.getD 0 undef) fa_ fun t368=>za (fun K295=>gIf t368 true (lo w294 93 t8 fun t370=>ca zI #[t370,(Value.int .u8 1)] w294 fun t371 w299=>
 K295 [t371] w299) (K295 [undef] w294)) (fun s296 _d297 w298=>
 zb t368 (s296.getD 0 undef) fa_ fun t372=>K t372 w298))) (bt .eql 55 t86 (Value.int .u8 10) fun t374=>zc t374 (fa t0 142 0 fun t378=>fl w45.drew t378 25 0 22 fun t380=>lo w45.drew 93 t12 fun t381=>ca ZB #[t380,t381] w45.drew fun t382 w300=>
 pe t382 0 fun t383=>pe t382 1 fun _t384=>lo w300 64 t3 fun t385=>ca zN #[t385,(Value.string { data:=#[70] })] w300 fun t386 w301=>
 za (fun K302=>gIf t386 true (K302 [t84] w301) (K302 [undef] w301)) (fun s303 _d304 w305=>
 zb t386 (s303.getD 0 undef) fa_ fun t389=>za (fun K306=>gIf t389 true (K306 [t383] w305) (K306 [undef] w305)) (fun s307 _d308 w309=>
 zb t389 (s307.getD 0 undef) fa_ fun t392=>za (fun K310=>gIf t392 true (ca kh #[t83] w309 fun t395 w314=>
 bt .lss 3 t395 (i6 2) fun t396=>K310 [t396] w314) (K310 [undef] w309)) (fun s311 _d312 w313=>
 zb t392 (s311.getD 0 undef) fa_ fun t397=>K t397 w313)))) (bt .eql 55 t86 (Value.int .u8 11) fun t399=>zc t399 (lo w45 64 t3 fun t400=>ca zN #[t400,(Value.string { data:=#[70] })] w45 fun t401 w315=>
 za (fun K316=>gIf t401 true (K316 [t84] w315) (K316 [undef] w315)) (fun s317 _d318 w319=>
 zb t401 (s317.getD 0 undef) fa_ fun t404=>za (fun K320=>gIf t404 true (pf 64 t3 6 fun t406=>fl w319 t406 58 0 3 fun t408=>bt .gtr 3 t408 (i6 0) fun t409=>K320 [t409] w319) (K320 [undef] w319)) (fun s321 _d322 w323=>
 zb t404 (s321.getD 0 undef) fa_ fun t410=>za (fun K324=>gIf t410 true (pf 64 t3 6 fun t412=>fl w323 t412 58 1 56 fun t414=>pp (Builtin.len_ #[56] 3 #[t414]) fun t415=>bt .eql 3 t415 (i6 0) fun t416=>K324 [t416] w323) (K324 [undef] w323)) (fun s325 _d326 w327=>
 zb t410 (s325.getD 0 undef) fa_ fun t417=>K t417 w327)))) (bt .eql 55 t86 (Value.int .u8 12) fun t419=>zc t419 (lo w45 64 t3 fun t420=>ca zN #[t420,(Value.string { data:=#[65,69] })] w45 fun t421 w328=>
 za (fun K329=>gIf t421 true (K329 [t69] w328) (K329 [undef] w328)) (fun s330 _d331 w332=>
 zb t421 (s330.getD 0 undef) fa_ fun t424=>za (fun K333=>gIf t424 true (lo w332 93 t8 fun t426=>ca zI #[t426,(Value.int .u8 2)] w332 fun t427 w337=>
 K333 [t427] w337) (K333 [undef] w332)) (fun s334 _d335 w336=>
 zb t424 (s334.getD 0 undef) fa_ fun t428=>za (fun K338=>gIf t428 true (fl w336 t3 64 11 3 fun t431=>bt .geq 3 t431 (i6 0) fun t432=>K338 [t432] w336) (K338 [undef] w336)) (fun s339 _d340 w341=>
 zb t428 (s339.getD 0 undef) fa_ fun t433=>za (fun K342=>gIf t433 true (fl w341 t3 64 11 3 fun t436=>bf .lss 3 t436 t26 fun t438=>K342 [t438] w341) (K342 [undef] w341)) (fun s343 _d344 w345=>
 zb t433 (s343.getD 0 undef) fa_ fun t439=>K t439 w345))))) (za (fun K346=>
 bt .eql 55 t86 (Value.int .u8 13) fun t441=>zc t441 (K346 [t441] w45) (bt .eql 55 t86 (Value.int .u8 14) fun t442=>K346 [t442] w45)) (fun s347 _d348 w349=>
 zc (s347.getD 0 undef) (lo w349 64 t3 fun t443=>ca zN #[t443,(Value.string { data:=#[] })] w349 fun t444 w350=>
 K t444 w350) (K fa_ w349)))))))))))))))))))))))
theorem Qn {t0 t1 : Value} {w : World} {K : VW} (h : vE t0 t1 w K) : zd prog kS #[t0,t1] w K:=
 okC false (.s (.r (rz 2 0 2)) (.s (.r (rz 7 0 256)) (.s (.s (.r (ra 4 0 4 (.grp 30 false (ri 4 4 4) [34] (.grp 34 true (ri 3 8 4) [37] (.grp 30 false (ri 1 11 0) [38] (ra 2 12 0 (.grp 40 false (ri 4 14 4) [44] (.grp 44 true (ri 4 18 4) [48] (.grp 48 false (ri 4 22 4) [52] (.grp 44 true (ri 1 26 0) [53] (.grp 40 false (ri 1 27 0) [54] (rz 1 28 0)))))))))))) (.c (.s (.r (rz 1 0 0)) (.n)) (.n))) (.s (.r (rz 10 0 163984)) (.s (.r (rz 10 0 163984)) (.s (.r (rz 10 0 163984)) (.s (.r (rz 12 0 655504)) (.s (.s (.r (rz 2 0 4)) (.b (.s (.r (rz 2 0 0)) (.c (.s (.r (ra 3 0 9 (.grp 91 true (ri 1 3 0) [92] (ra 2 4 0 (.grp 94 true (ri 1 6 0) [95] (ra 2 7 0 (.grp 97 true (ri 3 9 37) [100] (rz 2 12 0)))))))) (.n)) (.s (.r (rz 2 0 0)) (.c (.s (.s (.r (ra 4 0 9 (.grp 107 false (ri 2 4 0) [109] (ra 2 6 0 (.grp 111 false (ri 2 8 0) [113] (ra 2 10 0 (.grp 115 false (ri 2 12 0) [117] (rz 1 14 0)))))))) (.c (.s (.r (rz 1 0 0)) (.n)) (.n))) (.s (.s (.r (rz 3 0 36)) (.c (.s (.r (ra 3 0 9 (.grp 124 true (ri 2 3 9) [126] (ra 2 5 0 (.grp 128 true (ri 2 7 9) [130] (rz 2 9 0)))))) (.n)) (.n))) (.s (.r (ra 3 0 9 (.grp 134 true (ri 2 3 9) [136] (ra 2 5 0 (.grp 138 false (ri 4 7 4) [142] (.grp 142 false (ri 3 11 4) [145] (.grp 138 false (ri 2 14 0) [147] (.grp 147 true (ri 2 16 9) [149] (.grp 138 false (ri 2 18 0) [151] (.grp 151 true (ri 2 20 9) [153] (.grp 138 false (ri 1 22 0) [154] (rz 2 23 0)))))))))))) (.s (.r (ra 4 0 36 (.grp 159 true (ri 2 4 9) [161] (ra 2 6 0 (.grp 163 true (ri 1 8 0) [164] (rz 2 9 0)))))) (.n))))) (.s (.r (rz 2 0 0)) (.c (.s (.r (ra 3 0 9 (.grp 170 true (ri 1 3 0) [171] (ra 2 4 0 (.grp 173 true (ri 1 6 0) [174] (ra 2 7 0 (.grp 176 true (ri 4 9 4) [180] (.grp 180 true (ri 2 13 9) [182] (.grp 176 true (ri 2 15 0) [184] (.grp 184 true (ri 2 17 9) [186] (.grp 176 true (ri 2 19 0) [188] (.grp 188 false (ri 4 21 4) [192] (.grp 192 true (ri 2 25 9) [194] (.grp 188 false (ri 2 27 0) [196] (.grp 196 true (ri 2 29 9) [198] (.grp 188 false (ri 1 31 0) [199] (.grp 176 true (ri 1 32 0) [200] (rz 2 33 0)))))))))))))))))) (.n)) (.s (.r (rz 2 0 0)) (.c (.s (.r (ra 3 0 9 (.grp 206 true (ri 1 3 0) [207] (ra 2 4 0 (.grp 209 true (ri 1 6 0) [210] (ra 2 7 0 (.grp 212 true (ri 2 9 9) [214] (ra 2 11 0 (.grp 216 true (ri 5 13 68) [221] (ra 2 18 0 (.grp 223 true (ri 6 20 2372) [229] (ra 2 26 0 (.grp 231 true (ri 4 28 4) [235] (.grp 235 false (ri 3 32 8) [238] (.grp 231 true (ri 1 35 0) [239] (rz 2 36 0)))))))))))))))) (.n)) (.s (.r (rz 2 0 0)) (.c (.s (.r (ra 3 0 9 (.grp 245 true (ri 1 3 0) [246] (ra 2 4 0 (.grp 248 true (ri 1 6 0) [249] (ra 2 7 0 (.grp 251 true (ri 2 9 9) [253] (ra 2 11 0 (.grp 255 true (ri 6 13 2372) [261] (rz 2 19 0)))))))))) (.n)) (.s (.r (rz 2 0 0)) (.c (.s (.s (.r (ra 4 0 9 (.grp 268 false (ri 2 4 0) [270] (ra 2 6 0 (.grp 272 false (ri 3 8 9) [275] (ra 2 11 0 (.grp 277 false (ri 5 13 68) [282] (rz 1 18 0)))))))) (.c (.s (.r (rz 1 0 0)) (.n)) (.n))) (.s (.r (rz 12 0 9472)) (.s (.r (rz 6 0 528)) (.n)))) (.s (.r (rz 2 0 0)) (.c (.s (.s (.r (ra 4 0 9 (.grp 304 false (ri 2 4 0) [306] (ra 2 6 0 (.grp 308 false (ri 3 8 4) [311] (ra 2 11 0 (.grp 313 false (ri 9 13 4100) [322] (rz 1 22 0)))))))) (.c (.s (.r (rz 1 0 0)) (.n)) (.n))) (.s (.r (rz 11 0 2953472)) (.s (.r (ra 11 0 528656 (.grp 343 true (ri 6 11 2321) [349] (rz 2 17 0)))) (.n)))) (.s (.r (rz 2 0 0)) (.c (.s (.r (ra 3 0 9 (.grp 355 true (ri 1 3 0) [356] (ra 2 4 0 (.grp 358 true (ri 2 6 9) [360] (rz 2 8 0)))))) (.n)) (.s (.r (rz 2 0 0)) (.c (.s (.r (ra 3 0 9 (.grp 366 true (ri 1 3 0) [367] (ra 2 4 0 (.grp 369 true (ri 2 6 9) [371] (rz 2 8 0)))))) (.n)) (.s (.r (rz 2 0 0)) (.c (.s (.r (rz 12 0 9472)) (.s (.r (ra 3 0 9 (.grp 387 true (ri 1 3 0) [388] (ra 2 4 0 (.grp 390 true (ri 1 6 0) [391] (ra 2 7 0 (.grp 393 true (ri 3 9 8) [396] (rz 2 12 0)))))))) (.n))) (.s (.r (rz 2 0 0)) (.c (.s (.r (ra 3 0 9 (.grp 402 true (ri 1 3 0) [403] (ra 2 4 0 (.grp 405 true (ri 4 6 16) [409] (ra 2 10 0 (.grp 411 true (ri 5 12 16) [416] (rz 2 17 0)))))))) (.n)) (.s (.r (rz 2 0 0)) (.c (.s (.r (ra 3 0 9 (.grp 422 true (ri 1 3 0) [423] (ra 2 4 0 (.grp 425 true (ri 2 6 9) [427] (ra 2 8 0 (.grp 429 true (ri 3 10 4) [432] (ra 2 13 0 (.grp 434 true (ri 4 15 4) [438] (rz 2 19 0)))))))))) (.n)) (.j [440] (.s (.r (rz 2 0 0)) (.c (.n) (.r (rz 2 0 0)))) (.c (.s (.r (rz 3 0 9)) (.n)) (.n))))))))))))))))))))))))))))) (.s (.r (rz 1 0 0)) (.n)))))))))) func79 rfl (by kernel_rfl) (by kernel_rfl) h
def JB (t0 t1 : Value) (w : World) (K : VW) : Prop:=
 pw w (Instr.box 93 t0) fun t2 w1=>
 lo w1 93 t2 fun t7=>ca k7 #[t7] w1 fun t8 w2=>
 zo [(i6 0)] w2 (fun s4 _d5 w6 K3=>
 pp (Builtin.len_ #[32] 3 #[t8]) fun t11=>bf .lss 3 (s4.getD 0 undef) t11 fun t12=>zc t12 (bt .add 3 (s4.getD 0 undef) (i6 1) fun t16=>zo [t16] w6 (fun s8 _d9 w10 K7=>
 pp (Builtin.len_ #[32] 3 #[t8]) fun t19=>bf .lss 3 (s8.getD 0 undef) t19 fun t20=>zc t20 (xl w10.drew 32 t8 (s8.getD 0 undef) 3 fun t27=>xl w10.drew 32 t8 (s4.getD 0 undef) 3 fun t31=>aad t1 fun t32=>px 161 t32 t27 fun t33=>px 160 t33 t31 fun t34=>so w10.drew 4 t34 tr_ fun w11=>bt .add 3 (s8.getD 0 undef) (i6 1) fun t22=>K7 [t22] w11) (bt .add 3 (s4.getD 0 undef) (i6 1) fun t14=>K3 [t14] w10))) (K (.tuple #[]) w6))
theorem adG {t0 t1 : Value} {w : World} {K : VW} (h : JB t0 t1 w K) : zd prog Yn #[t0,t1] w K:=
 okC false (.s (.r (rz 1 0 2)) (.s (.r (rz 3 0 9)) (.s (.r (rz 1 0 0)) (.b (.lp [5] (.s (.s (.r (rz 4 0 0)) (.c (.n) (.n))) (.s (.b (.s (.r (rz 3 0 0)) (.b (.lp [6] (.s (.s (.r (rz 4 0 0)) (.c (.n) (.n))) (.s (.b (.r (rz 13 0 33620224))) (.r (rz 3 0 0)))))))) (.r (rz 3 0 0))))))))) func95 rfl (by kernel_rfl) (by kernel_rfl) h
def YF (t0 t1 : Value) (w : World) (K : VW) : Prop:=
 pw w (Instr.box 58 t1) fun t3 w1=>
 pw w1 (Instr.alloc 93 true (.tuple #[])) fun t4 w2=>
 lo w2 58 t3 fun t11=>ca yL #[t0,t11] w2 fun t12 w3=>
 pe t12 0 fun t13=>pe t12 1 fun t14=>pe t12 2 fun t15=>pw w3 (Instr.alloc 93 true (.tuple #[])) fun t6 w4=>
 so w4 93 t6 t13 fun w5=>lo w5.drew 93 t6 fun t16=>za (fun K6=>gIf t15 true (ca kh #[t14] w5.drew fun t20 w10=>
 Ext w5.drew w10∧
 bt .lss 3 t20 (i6 3) fun t21=>K6 [t21] w10) (K6 [undef] w5.drew)) (fun s7 _d8 w9=>
 zb t15 (s7.getD 0 undef) fa_ fun t22=>so w9 93 t4 t16 fun w11=>pq w11 (zn 93 t4) fun r12=>K (.tuple #[r12,t22]) w11)
theorem VB {t0 t1 : Value} {w : World} {K : VW} (h : YF t0 t1 w K) : zd prog jv #[t0,t1] w K:=
 okC false (.s (.r (rz 3 0 10)) (.s (.r (rz 11 0 163876)) (.s (.r (ra 3 0 1 (.grp 18 true (ri 3 3 12) [21] (rz 3 6 8)))) (.n)))) func96 rfl (by kernel_rfl) (by kernel_rfl) h
def jO (t0 t1 : Value) (w : World) (K : VW) : Prop:=
 pw w (Instr.box 61 t1) fun t3 w1=>
 pw w1 (Instr.alloc 93 true (.tuple #[])) fun t4 w2=>
 fl w2 t3 61 0 59 fun t10=>bt .eql 59 t10 (Value.int .u8 1) fun t12=>zc t12 (pp (Instr.build 93 #[(0,(Value.int .u8 1))]) fun t13=>fl w2 t3 61 2 58 fun t15=>ca yy #[t15] w2 fun t16 w3=>
 so w3 93 t4 t13 fun w4=>pq w4 (zn 93 t4) fun r5=>K (.tuple #[r5,t16]) w4) (bt .eql 59 t10 (Value.int .u8 2) fun t18=>zc t18 (pp (Instr.build 93 #[(0,(Value.int .u8 2))]) fun t19=>fl w2.drew t3 61 2 58 fun t21=>ca yy #[t21] w2.drew fun t22 w6=>
 za (fun K7=>gIf t22 true (fl w6 t3 61 1 2 fun t25=>bt .eql 2 t25 (i6 0) fun t26=>K7 [t26] w6) (K7 [undef] w6)) (fun s8 _d9 w10=>
 za (fun K11=>gIf (s8.getD 0 undef) false (pf 61 t3 1 fun t28=>K11 [t28] w10) (K11 [undef] w10)) (fun s12 _d13 w14=>
 ((za (fun K15=>gIf (s8.getD 0 undef) false (pw w14 (Instr.loadAt 2 (s12.getD 0 undef)) fun t29 w19=>
 bt .eql 2 t29 (i6 1) fun t30=>K15 [t30] w19) (K15 [undef] w14)) (fun s16 _d17 w18=>
 za (fun K20=>gIf t22 true (zb (s8.getD 0 undef) tr_ (s16.getD 0 undef) fun t31=>K20 [t31] w18) (K20 [undef] w18)) (fun s21 _d22 w23=>
 zb t22 (s21.getD 0 undef) fa_ fun t32=>so w23 93 t4 t19 fun w24=>pq w24 (zn 93 t4) fun r25=>K (.tuple #[r25,t32]) w24)))∧
 (so w14 93 t4 t19 fun w26=>za (fun K27=>gIf (s8.getD 0 undef) false (pw w26 (Instr.loadAt 2 (s12.getD 0 undef)) fun t29_32 w31=>
 bt .eql 2 t29_32 (i6 1) fun t30_33=>K27 [t30_33] w31) (K27 [undef] w26)) (fun s28 _d29 w30=>
 za (fun K34=>gIf t22 true (zb (s8.getD 0 undef) tr_ (s28.getD 0 undef) fun t31_38=>K34 [t31_38] w30) (K34 [undef] w30)) (fun s35 _d36 w37=>
 zb t22 (s35.getD 0 undef) fa_ fun t32_39=>pq w37 (zn 93 t4) fun r40=>K (.tuple #[r40,t32_39]) w37))))))) (za (fun K41=>
 bt .eql 59 t10 (Value.int .u8 3) fun t34=>zc t34 (K41 [t34] w2) (bt .eql 59 t10 (Value.int .u8 4) fun t35=>K41 [t35] w2)) (fun s42 _d43 w44=>
 zc (s42.getD 0 undef) (fl w44 t3 61 2 58 fun t39=>ca yL #[t0,t39] w44 fun t40 w45=>
 pe t40 0 fun t41=>pe t40 1 fun t42=>pe t40 2 fun t43=>pw w45 (Instr.alloc 93 true (.tuple #[])) fun t6 w46=>
 so w46 93 t6 t41 fun w47=>pp (Op.unary .not t43) fun t45=>za (fun K48=>gIf t45 false (fl w47 t3 61 1 2 fun t48=>bt .neq 2 t48 (i6 0) fun t49=>K48 [t49] w47) (K48 [undef] w47)) (fun s49 _d50 w51=>
 zb t45 tr_ (s49.getD 0 undef) fun t50=>zc t50 (lo w51 93 t6 fun t51=>so w51 93 t4 t51 fun w52=>pq w52 (zn 93 t4) fun r53=>K (.tuple #[r53,fa_]) w52) (fl w51 t3 61 0 59 fun t53=>bt .eql 59 t53 (Value.int .u8 3) fun t54=>zc t54 (lo w51.drew 93 t6 fun t55=>lo w51.drew 93 t6 fun t56=>ca qF #[t56] w51.drew fun t57 w54=>
 Ext w51.drew w54∧
 so w54 93 t4 t55 fun w55=>pq w55 (zn 93 t4) fun r56=>K (.tuple #[r56,t57]) w55) (lo w51.drew 93 t6 fun t58=>lo w51.drew 93 t6 fun t59=>ca qF #[t59] w51.drew fun t60 w57=>
 Ext w51.drew w57∧
 pp (Op.unary .not t60) fun t61=>za (fun K58=>gIf t61 true (ca kh #[t42] w57 fun t64 w62=>
 Ext w57 w62∧
 bt .lss 3 t64 (i6 2) fun t65=>K58 [t65] w62) (K58 [undef] w57)) (fun s59 _d60 w61=>
 zb t61 (s59.getD 0 undef) fa_ fun t66=>so w61 93 t4 t58 fun w63=>pq w63 (zn 93 t4) fun r64=>K (.tuple #[r64,t66]) w63))))) (pp (Instr.build 93 #[]) fun t67=>so w44 93 t4 t67 fun w65=>pq w65 (zn 93 t4) fun r66=>K (.tuple #[r66,fa_]) w65))))
theorem XE {t0 t1 : Value} {w : World} {K : VW} (h : jO t0 t1 w K) : zd prog yK #[t0,t1] w K:=
 okC false (.s (.r (rz 3 0 10)) (.s (.s (.r (rz 2 0 4)) (.b (.s (.r (rz 2 0 0)) (.c (.s (.r (rz 6 0 656)) (.n)) (.s (.r (rz 2 0 0)) (.c (.s (.r (ra 5 0 144 (.grp 23 true (ri 4 5 4) [27] (.grp 27 false (ri 1 9 0) [28] (.bth (.grp 27 false (ri 2 10 2) [30] (.grp 23 true (ri 1 12 0) [31] (rz 3 13 8))) (ra 1 14 2 (.grp 27 false (ri 2 10 2) [30] (.grp 23 true (ri 1 12 0) [31] (ra 1 13 0 (rz 1 15 0)))))))))) (.n)) (.j [33] (.s (.r (rz 2 0 0)) (.c (.n) (.r (rz 2 0 0)))) (.c (.s (.r (rz 12 0 655504)) (.s (.s (.r (ra 3 0 0 (.grp 46 false (ri 3 3 4) [49] (rz 1 6 0)))) (.c (.s (.r (rz 3 0 9)) (.n)) (.n))) (.s (.s (.r (rz 3 0 4)) (.c (.s (.r (rz 5 0 181)) (.n)) (.n))) (.s (.r (ra 5 0 53 (.grp 62 true (ri 3 5 12) [65] (rz 3 8 8)))) (.n))))) (.n))))))))) (.s (.r (rz 3 0 8)) (.n)))) func97 rfl (by kernel_rfl) (by kernel_rfl) h
def Zv (t0 t1 : Value) (w : World) (K : VW) : Prop:=
 pw w (Instr.box 58 t1) fun t3 w1=>
 pw w1 (Instr.alloc 93 true (.tuple #[])) fun t4 w2=>
 fl w2.drew t3 58 0 3 fun t8=>bt .lss 3 t8 (i6 0) fun t9=>za (fun K3=>gIf t9 false (fl w2.drew t3 58 0 3 fun t12=>fa t0 142 1 fun t15=>fl w2.drew t15 43 4 39 fun t17=>pp (Builtin.len_ #[39] 3 #[t17]) fun t18=>bf .geq 3 t12 t18 fun t19=>K3 [t19] w2.drew) (K3 [undef] w2.drew)) (fun s4 _d5 w6=>
 zb t9 tr_ (s4.getD 0 undef) fun t20=>zc t20 (pp (Instr.build 93 #[]) fun t21=>so w6 93 t4 t21 fun w7=>pq w7 (zn 93 t4) fun r8=>K (.tuple #[r8,(Value.slice Option.none 0 0),fa_]) w7) (fa t0 142 0 fun t24=>fl w6.drew t24 25 0 22 fun t26=>fa t0 142 1 fun t29=>fl w6.drew t29 43 4 39 fun t31=>fl w6.drew t3 58 0 3 fun t33=>fl w6.drew t3 58 0 3 fun t35=>bt .add 3 t35 (i6 1) fun t36=>pp (Instr.sliceAt 39 t31 (some t33) (some t36) none) fun t37=>fl w6.drew t3 58 1 56 fun t39=>pp (Instr.build 58 #[(1,t39)]) fun t40=>ca Yl #[t26,t37,t40] w6.drew fun t41 w9=>
 pe t41 0 fun t42=>pe t41 1 fun t43=>pe t41 2 fun t44=>so w9 93 t4 t42 fun w10=>pq w10 (zn 93 t4) fun r11=>K (.tuple #[r11,t43,t44]) w10))
theorem QZ {t0 t1 : Value} {w : World} {K : VW} (h : Zv t0 t1 w K) : zd prog yL #[t0,t1] w K:=
 okC false (.s (.r (rz 4 0 10)) (.s (.s (.r (ra 4 0 4 (.grp 10 false (ri 9 4 4100) [19] (rz 1 13 0)))) (.c (.s (.r (rz 4 0 8)) (.n)) (.n))) (.s (.r (rz 26 0 141304495603968)) (.n)))) func98 rfl (by kernel_rfl) (by kernel_rfl) h
def JC (t0 t1 : Value) (w : World) (K : VW) : Prop:=
 pw w (Instr.box 64 t0) fun t2 w1=>
 zo [tr_,(i6 0)] w1 (fun s3 _d4 w5 K2=>
 bt .lss 3 (s3.getD 1 undef) (i6 10) fun t11=>zc t11 (za (fun K6=>
 pp (Instr.index 9 (Value.string { data:=#[84,65,66,76,70,83,78,85,77,69] }) (s3.getD 1 undef)) fun t15=>zo [fa_,(i6 0)] w5 (fun s11 _d12 w13 K10=>
 pp (Builtin.len_ #[9] 3 #[t1]) fun t18=>bf .lss 3 (s11.getD 1 undef) t18 fun t19=>zc t19 (za (fun K14=>gIf (s11.getD 0 undef) false (pp (Instr.index 9 t1 (s11.getD 1 undef)) fun t26=>bf .eql 5 t26 t15 fun t28=>K14 [t28] w13) (K14 [undef] w13)) (fun s15 _d16 w17=>
 zb (s11.getD 0 undef) tr_ (s15.getD 0 undef) fun t29=>bt .add 3 (s11.getD 1 undef) (i6 1) fun t21=>K10 [t29,t21] w17)) (zc (s11.getD 0 undef) (K6 [(s3.getD 0 undef)] w13) (bt .eql 5 t15 (Value.int .u8 84) fun t33=>zc t33 (za (fun K18=>gIf (s3.getD 0 undef) true (fl w13 t2 64 1 58 fun t37=>ca yy #[t37] w13 fun t38 w22=>
 K18 [t38] w22) (K18 [undef] w13)) (fun s19 _d20 w21=>
 zb (s3.getD 0 undef) (s19.getD 0 undef) fa_ fun t39=>K6 [t39] w21)) (bt .eql 5 t15 (Value.int .u8 65) fun t41=>zc t41 (za (fun K23=>gIf (s3.getD 0 undef) true (fl w13 t2 64 2 61 fun t45=>ca xD #[t45] w13 fun t46 w27=>
 K23 [t46] w27) (K23 [undef] w13)) (fun s24 _d25 w26=>
 zb (s3.getD 0 undef) (s24.getD 0 undef) fa_ fun t47=>K6 [t47] w26)) (bt .eql 5 t15 (Value.int .u8 66) fun t49=>zc t49 (za (fun K28=>gIf (s3.getD 0 undef) true (fl w13 t2 64 3 61 fun t53=>ca xD #[t53] w13 fun t54 w32=>
 K28 [t54] w32) (K28 [undef] w13)) (fun s29 _d30 w31=>
 zb (s3.getD 0 undef) (s29.getD 0 undef) fa_ fun t55=>K6 [t55] w31)) (bt .eql 5 t15 (Value.int .u8 76) fun t57=>zc t57 (za (fun K33=>gIf (s3.getD 0 undef) true (fl w13 t2 64 4 62 fun t61=>pp (Builtin.len_ #[62] 3 #[t61]) fun t62=>bt .eql 3 t62 (i6 0) fun t63=>K33 [t63] w13) (K33 [undef] w13)) (fun s34 _d35 w36=>
 zb (s3.getD 0 undef) (s34.getD 0 undef) fa_ fun t64=>K6 [t64] w36)) (bt .eql 5 t15 (Value.int .u8 70) fun t66=>zc t66 (za (fun K37=>gIf (s3.getD 0 undef) true (fl w13 t2 64 6 58 fun t70=>ca yy #[t70] w13 fun t71 w41=>
 K37 [t71] w41) (K37 [undef] w13)) (fun s38 _d39 w40=>
 zb (s3.getD 0 undef) (s38.getD 0 undef) fa_ fun t72=>K6 [t72] w40)) (bt .eql 5 t15 (Value.int .u8 83) fun t74=>zc t74 (za (fun K42=>gIf (s3.getD 0 undef) true (fl w13 t2 64 5 9 fun t78=>bt .eql 9 t78 (Value.string { data:=#[] }) fun t79=>K42 [t79] w13) (K42 [undef] w13)) (fun s43 _d44 w45=>
 zb (s3.getD 0 undef) (s43.getD 0 undef) fa_ fun t80=>K6 [t80] w45)) (bt .eql 5 t15 (Value.int .u8 78) fun t82=>zc t82 (za (fun K46=>gIf (s3.getD 0 undef) true (fl w13 t2 64 8 3 fun t86=>bt .eql 3 t86 (i6 0) fun t87=>K46 [t87] w13) (K46 [undef] w13)) (fun s47 _d48 w49=>
 zb (s3.getD 0 undef) (s47.getD 0 undef) fa_ fun t88=>K6 [t88] w49)) (bt .eql 5 t15 (Value.int .u8 85) fun t90=>zc t90 (za (fun K50=>gIf (s3.getD 0 undef) true (fl w13 t2 64 9 3 fun t94=>bt .eql 3 t94 (i6 0) fun t95=>K50 [t95] w13) (K50 [undef] w13)) (fun s51 _d52 w53=>
 zb (s3.getD 0 undef) (s51.getD 0 undef) fa_ fun t96=>K6 [t96] w53)) (bt .eql 5 t15 (Value.int .u8 77) fun t98=>zc t98 (za (fun K54=>gIf (s3.getD 0 undef) true (fl w13 t2 64 7 4 fun t102=>pp (Op.unary .not t102) fun t103=>K54 [t103] w13) (K54 [undef] w13)) (fun s55 _d56 w57=>
 zb (s3.getD 0 undef) (s55.getD 0 undef) fa_ fun t104=>K6 [t104] w57)) (bt .eql 5 t15 (Value.int .u8 69) fun t106=>zc t106 (za (fun K58=>gIf (s3.getD 0 undef) true (fl w13 t2 64 11 3 fun t110=>bt .eql 3 t110 (i6 0) fun t111=>K58 [t111] w13) (K58 [undef] w13)) (fun s59 _d60 w61=>
 zb (s3.getD 0 undef) (s59.getD 0 undef) fa_ fun t112=>K6 [t112] w61)) (K6 [(s3.getD 0 undef)] w13)))))))))))))) (fun s7 _d8 w9=>
 bt .add 3 (s3.getD 1 undef) (i6 1) fun t13=>K2 [(s7.getD 0 undef),t13] w9)) (K (s3.getD 0 undef) w5))
theorem adH {t0 t1 : Value} {w : World} {K : VW} (h : JC t0 t1 w K) : zd prog zN #[t0,t1] w K:=
 okC false (.s (.r (rz 2 0 2)) (.s (.r (rz 1 0 0)) (.s (.s (.r (rz 1 0 0)) (.b (.lp [5,6] (.s (.s (.r (rz 2 0 0)) (.c (.n) (.n))) (.j [5] (.b (.s (.r (rz 3 0 0)) (.s (.r (rz 1 0 0)) (.s (.s (.r (rz 1 0 0)) (.b (.lp [8,9] (.s (.s (.r (rz 4 0 0)) (.c (.n) (.n))) (.s (.b (.r (ra 2 0 0 (.grp 23 false (ri 5 2 0) [28] (rz 2 7 0))))) (.r (rz 3 0 0))))))) (.s (.s (.r (rz 1 0 0)) (.c (.n) (.n))) (.s (.r (rz 1 0 0)) (.b (.s (.r (rz 2 0 0)) (.c (.r (ra 2 0 0 (.grp 35 true (ri 3 2 36) [38] (rz 2 5 0)))) (.s (.r (rz 2 0 0)) (.c (.r (ra 2 0 0 (.grp 43 true (ri 3 2 36) [46] (rz 2 5 0)))) (.s (.r (rz 2 0 0)) (.c (.r (ra 2 0 0 (.grp 51 true (ri 3 2 36) [54] (rz 2 5 0)))) (.s (.r (rz 2 0 0)) (.c (.r (ra 2 0 0 (.grp 59 true (ri 4 2 4) [63] (rz 2 6 0)))) (.s (.r (rz 2 0 0)) (.c (.r (ra 2 0 0 (.grp 68 true (ri 3 2 36) [71] (rz 2 5 0)))) (.s (.r (rz 2 0 0)) (.c (.r (ra 2 0 0 (.grp 76 true (ri 3 2 4) [79] (rz 2 5 0)))) (.s (.r (rz 2 0 0)) (.c (.r (ra 2 0 0 (.grp 84 true (ri 3 2 4) [87] (rz 2 5 0)))) (.s (.r (rz 2 0 0)) (.c (.r (ra 2 0 0 (.grp 92 true (ri 3 2 4) [95] (rz 2 5 0)))) (.s (.r (rz 2 0 0)) (.c (.r (ra 2 0 0 (.grp 100 true (ri 3 2 4) [103] (rz 2 5 0)))) (.s (.r (rz 2 0 0)) (.c (.r (ra 2 0 0 (.grp 108 true (ri 3 2 4) [111] (rz 2 5 0)))) (.n)))))))))))))))))))))))))))) (.r (rz 3 0 0))))))) (.s (.r (rz 2 0 0)) (.n))))) func99 rfl (by kernel_rfl) (by kernel_rfl) h
def QP (t0 t1 : Value) (w : World) (K : VW) : Prop:=
 pw w (Instr.box 93 t0) fun t2 w1=>
 pw w1 (Instr.box 93 t1) fun t3 w2=>
 fl w2 t2 93 0 91 fun t6=>fl w2 t3 93 0 91 fun t8=>bf .neq 91 t6 t8 fun t9=>za (fun K3=>gIf t9 false (fl w2 t2 93 1 4 fun t12=>fl w2 t3 93 1 4 fun t14=>bf .neq 4 t12 t14 fun t15=>K3 [t15] w2) (K3 [undef] w2)) (fun s4 _d5 w6=>
 zb t9 tr_ (s4.getD 0 undef) fun t16=>za (fun K7=>gIf t16 false (fl w6 t2 93 3 3 fun t19=>fl w6 t3 93 3 3 fun t21=>bf .neq 3 t19 t21 fun t22=>K7 [t22] w6) (K7 [undef] w6)) (fun s8 _d9 w10=>
 zb t16 tr_ (s8.getD 0 undef) fun t23=>za (fun K11=>gIf t23 false (fl w10 t2 93 4 39 fun t26=>pp (Builtin.len_ #[39] 3 #[t26]) fun t27=>fl w10 t3 93 4 39 fun t29=>pp (Builtin.len_ #[39] 3 #[t29]) fun t30=>bf .neq 3 t27 t30 fun t31=>K11 [t31] w10) (K11 [undef] w10)) (fun s12 _d13 w14=>
 zb t23 tr_ (s12.getD 0 undef) fun t32=>zc t32 (K fa_ w14) (fl w14.drew t2 93 4 39 fun t34=>pp (Builtin.len_ #[39] 3 #[t34]) fun t35=>bt .eql 3 t35 (i6 0) fun t36=>za (fun K15=>gIf t36 false (fl w14.drew t2 93 4 39 fun t39=>xl w14.drew 39 t39 (i6 0) 93 fun t41=>fl w14.drew t3 93 4 39 fun t43=>xl w14.drew 39 t43 (i6 0) 93 fun t45=>ca yG #[t41,t45] w14.drew fun t46 w19=>
 K15 [t46] w19) (K15 [undef] w14.drew)) (fun s16 _d17 w18=>
 zb t36 tr_ (s16.getD 0 undef) fun t47=>K t47 w18)))))
theorem acq {t0 t1 : Value} {w : World} {K : VW} (h : QP t0 t1 w K) : zd prog yG #[t0,t1] w K:=
 okC false (.s (.r (rz 3 0 10)) (.s (.s (.r (ra 6 0 68 (.grp 10 false (ri 5 6 68) [15] (ra 2 11 0 (.grp 17 false (ri 5 13 68) [22] (ra 2 18 0 (.grp 24 false (ri 7 20 260) [31] (rz 1 27 0)))))))) (.c (.s (.r (rz 1 0 0)) (.n)) (.n))) (.s (.r (ra 5 0 4 (.grp 37 false (ri 9 5 148548) [46] (rz 2 14 0)))) (.n)))) func100 rfl (by kernel_rfl) (by kernel_rfl) h
def JD (t0 : Value) (w : World) (K : VW) : Prop:=
 bt .eql 9 t0 (Value.string { data:=#[43] }) fun t4=>za (fun K1=>gIf t4 false (bt .eql 9 t0 (Value.string { data:=#[45] }) fun t7=>K1 [t7] w) (K1 [undef] w)) (fun s2 _d3 w4=>
 zb t4 tr_ (s2.getD 0 undef) fun t8=>za (fun K5=>gIf t8 false (bt .eql 9 t0 (Value.string { data:=#[42] }) fun t11=>K5 [t11] w4) (K5 [undef] w4)) (fun s6 _d7 w8=>
 zb t8 tr_ (s6.getD 0 undef) fun t12=>za (fun K9=>gIf t12 false (bt .eql 9 t0 (Value.string { data:=#[47] }) fun t15=>K9 [t15] w8) (K9 [undef] w8)) (fun s10 _d11 w12=>
 zb t12 tr_ (s10.getD 0 undef) fun t16=>za (fun K13=>gIf t16 false (bt .eql 9 t0 (Value.string { data:=#[37] }) fun t19=>K13 [t19] w12) (K13 [undef] w12)) (fun s14 _d15 w16=>
 zb t16 tr_ (s14.getD 0 undef) fun t20=>K t20 w16))))
theorem adI {t0 : Value} {w : World} {K : VW} (h : JD t0 w K) : zd prog Yo #[t0] w K:=
 okC false (.s (.r (rz 1 0 0)) (.s (.r (ra 3 0 0 (.grp 5 false (ri 2 3 0) [7] (ra 2 5 0 (.grp 9 false (ri 2 7 0) [11] (ra 2 9 0 (.grp 13 false (ri 2 11 0) [15] (ra 2 13 0 (.grp 17 false (ri 2 15 0) [19] (rz 2 17 0)))))))))) (.n))) func101 rfl (by kernel_rfl) (by kernel_rfl) h
def abx (t0 t1 : Value) (w : World) (K : VW) : Prop:=
 pw w (Instr.box 93 t0) fun t2 w1=>
 fl w1 t2 93 0 91 fun t6=>bf .eql 91 t6 t1 fun t8=>K t8 w1
theorem afV {t0 t1 : Value} {w : World} {K : VW} (h : abx t0 t1 w K) : zd prog zI #[t0,t1] w K:=
 okC false (.s (.r (rz 2 0 2)) (.s (.r (rz 5 0 4)) (.n))) func102 rfl (by kernel_rfl) (by kernel_rfl) h
def X4 (t0 : Value) (w : World) (K : VW) : Prop:=
 bt .eql 9 t0 (Value.string { data:=#[61,61] }) fun t4=>za (fun K1=>gIf t4 false (bt .eql 9 t0 (Value.string { data:=#[33,61] }) fun t7=>K1 [t7] w) (K1 [undef] w)) (fun s2 _d3 w4=>
 zb t4 tr_ (s2.getD 0 undef) fun t8=>za (fun K5=>gIf t8 false (bt .eql 9 t0 (Value.string { data:=#[60] }) fun t11=>K5 [t11] w4) (K5 [undef] w4)) (fun s6 _d7 w8=>
 zb t8 tr_ (s6.getD 0 undef) fun t12=>za (fun K9=>gIf t12 false (bt .eql 9 t0 (Value.string { data:=#[60,61] }) fun t15=>K9 [t15] w8) (K9 [undef] w8)) (fun s10 _d11 w12=>
 zb t12 tr_ (s10.getD 0 undef) fun t16=>za (fun K13=>gIf t16 false (bt .eql 9 t0 (Value.string { data:=#[62] }) fun t19=>K13 [t19] w12) (K13 [undef] w12)) (fun s14 _d15 w16=>
 zb t16 tr_ (s14.getD 0 undef) fun t20=>za (fun K17=>gIf t20 false (bt .eql 9 t0 (Value.string { data:=#[62,61] }) fun t23=>K17 [t23] w16) (K17 [undef] w16)) (fun s18 _d19 w20=>
 zb t20 tr_ (s18.getD 0 undef) fun t24=>K t24 w20)))))
theorem aby {t0 : Value} {w : World} {K : VW} (h : X4 t0 w K) : zd prog vO #[t0] w K:=
 okC false (.s (.r (rz 1 0 0)) (.s (.r (ra 3 0 0 (.grp 5 false (ri 2 3 0) [7] (ra 2 5 0 (.grp 9 false (ri 2 7 0) [11] (ra 2 9 0 (.grp 13 false (ri 2 11 0) [15] (ra 2 13 0 (.grp 17 false (ri 2 15 0) [19] (ra 2 17 0 (.grp 21 false (ri 2 19 0) [23] (rz 2 21 0)))))))))))) (.n))) func103 rfl (by kernel_rfl) (by kernel_rfl) h
def JE (t0 : Value) (w : World) (K : VW) : Prop:=
 zo [(i6 0),(i6 0)] w (fun s2 _d3 w4 K1=>
 pp (Builtin.len_ #[32] 3 #[t0]) fun t7=>bf .lss 3 (s2.getD 1 undef) t7 fun t8=>zc t8 (za (fun K5=>
 xl w4 32 t0 (s2.getD 1 undef) 3 fun t14=>bf .gtr 3 t14 (s2.getD 0 undef) fun t16=>zc t16 (xl w4 32 t0 (s2.getD 1 undef) 3 fun t20=>K5 [t20] w4) (K5 [(s2.getD 0 undef)] w4)) (fun s6 _d7 w8=>
 bt .add 3 (s2.getD 1 undef) (i6 1) fun t10=>K1 [(s6.getD 0 undef),t10] w8)) (K (s2.getD 0 undef) w4))
theorem adJ {t0 : Value} {w : World} {K : VW} (h : JE t0 w K) : zd prog kh #[t0] w K:=
 okC false (.s (.r (rz 1 0 0)) (.s (.r (rz 1 0 0)) (.s (.s (.r (rz 1 0 0)) (.b (.lp [3,4] (.s (.s (.r (rz 4 0 0)) (.c (.n) (.n))) (.j [3] (.b (.s (.r (rz 6 0 64)) (.c (.r (rz 5 0 64)) (.n)))) (.r (rz 3 0 0))))))) (.s (.r (rz 2 0 0)) (.n))))) func104 rfl (by kernel_rfl) (by kernel_rfl) h
def Zw (t0 t1 t2 : Value) (w : World) (K : VW) : Prop:=
 pp (Builtin.len_ #[62] 3 #[t1]) fun t11=>pp (Builtin.len_ #[39] 3 #[t2]) fun t13=>bf .neq 3 t11 t13 fun t14=>zc t14 (K fa_ w) (zo [(i6 0)] w (fun s2 _d3 w4 K1=>
 pp (Builtin.len_ #[62] 3 #[t1]) fun t17=>bf .lss 3 (s2.getD 0 undef) t17 fun t18=>zc t18 (xl w4 62 t1 (s2.getD 0 undef) 61 fun t26=>ca yK #[t0,t26] w4 fun t27 w5=>
 pe t27 0 fun t28=>pe t27 1 fun t29=>pw w5 (Instr.alloc 93 true (.tuple #[])) fun t8 w6=>
 so w6 93 t8 t28 fun w7=>pp (Op.unary .not t29) fun t31=>za (fun K8=>gIf t31 false (lo w7.drew 93 t8 fun t33=>xl w7.drew 39 t2 (s2.getD 0 undef) 93 fun t37=>ca yG #[t33,t37] w7.drew fun t38 w12=>
 pp (Op.unary .not t38) fun t39=>K8 [t39] w12) (K8 [undef] w7.drew)) (fun s9 _d10 w11=>
 zb t31 tr_ (s9.getD 0 undef) fun t40=>zc t40 (K fa_ w11) (bt .add 3 (s2.getD 0 undef) (i6 1) fun t20=>K1 [t20] w11))) (K tr_ w4)))
theorem Q0 {t0 t1 t2 : Value} {w : World} {K : VW} (h : Zw t0 t1 t2 w K) : zd prog xP #[t0,t1,t2] w K:=
 okC false (.s (.r (rz 1 0 0)) (.s (.s (.r (rz 5 0 0)) (.c (.s (.r (rz 1 0 0)) (.n)) (.n))) (.s (.s (.r (rz 1 0 0)) (.b (.lp [7] (.s (.s (.r (rz 4 0 0)) (.c (.n) (.n))) (.s (.b (.s (.r (rz 12 0 2623744)) (.s (.r (ra 3 0 0 (.grp 32 false (ri 7 3 2305) [39] (rz 1 10 0)))) (.c (.s (.r (rz 1 0 0)) (.n)) (.n))))) (.r (rz 3 0 0))))))) (.s (.r (rz 1 0 0)) (.n))))) func106 rfl (by kernel_rfl) (by kernel_rfl) h
def Z2 (t0 : Value) (w : World) (K : VW) : Prop:=
 pw w (Instr.box 58 t0) fun t1 w1=>
 fl w1 t1 58 0 3 fun t4=>bt .eql 3 t4 (i6 0) fun t5=>za (fun K2=>gIf t5 true (fl w1 t1 58 1 56 fun t8=>pp (Builtin.len_ #[56] 3 #[t8]) fun t9=>bt .eql 3 t9 (i6 0) fun t10=>K2 [t10] w1) (K2 [undef] w1)) (fun s3 _d4 w5=>
 zb t5 (s3.getD 0 undef) fa_ fun t11=>K t11 w5)
theorem JF {t0 : Value} {w : World} {K : VW} (h : Z2 t0 w K) : zd prog yy #[t0] w K:=
 okC false (.s (.r (rz 2 0 2)) (.s (.r (ra 4 0 4 (.grp 6 true (ri 4 4 4) [10] (rz 2 8 0)))) (.n))) func135 rfl (by kernel_rfl) (by kernel_rfl) h
def vF (t0 : Value) (w : World) (K : VW) : Prop:=
 pw w (Instr.box 61 t0) fun t1 w1=>
 fl w1 t1 61 0 59 fun t4=>bt .eql 59 t4 (Value.int .u8 0) fun t5=>za (fun K2=>gIf t5 true (fl w1 t1 61 1 2 fun t8=>bt .eql 2 t8 (i6 0) fun t9=>K2 [t9] w1) (K2 [undef] w1)) (fun s3 _d4 w5=>
 zb t5 (s3.getD 0 undef) fa_ fun t10=>za (fun K6=>gIf t10 true (fl w5 t1 61 2 58 fun t13=>ca yy #[t13] w5 fun t14 w10=>
 K6 [t14] w10) (K6 [undef] w5)) (fun s7 _d8 w9=>
 zb t10 (s7.getD 0 undef) fa_ fun t15=>K t15 w9))
theorem Qo {t0 : Value} {w : World} {K : VW} (h : vF t0 w K) : zd prog xD #[t0] w K:=
 okC false (.s (.r (rz 2 0 2)) (.s (.r (ra 4 0 4 (.grp 6 true (ri 3 4 4) [9] (ra 2 7 0 (.grp 11 true (ri 3 9 36) [14] (rz 2 12 0)))))) (.n))) func138 rfl (by kernel_rfl) (by kernel_rfl) h
end Go.Proofs.Tryz
end
section
namespace Go.Sh
theorem acr {w : World} {b g m c : Bool} {A1 : (List Value→World→Prop)→Prop} {A2 A3 : (List Value→World→Prop)→World→Prop} {Z : Value→World→Prop}
  (h1 : ∀ K : List Value→World→Prop,K [.bool g] w→A1 K) (h2 : ∀ K : List Value→World→Prop,K [.bool m] w→A2 K w) (h3 : ∀ K : List Value→World→Prop,K [.bool c] w→A3 K w)
  (hZ : Z (.bool (b||(g&&(m||c)))) w) :
  za (fun K=>gIf (.bool b) false (A1 K) (K [undef] w)) fun s3 _ w5=>
   za (fun K=>gIf (s3.getD 0 undef) true (A2 K w5) (K [undef] w5)) fun s7 _ w9=>
    za (fun K=>gIf (s7.getD 0 undef) false (A3 K w9) (K [undef] w9)) fun s11 _ w13=>
     za (fun K=>gIf (s3.getD 0 undef) true (zb (s7.getD 0 undef) (.bool true) (s11.getD 0 undef) fun t=>K [t] w13) (K [undef] w13)) fun s15 _ w17=>
      za (fun K=>gIf (.bool b) false (zb (s3.getD 0 undef) (s15.getD 0 undef) (.bool false) fun t=>K [t] w17) (K [undef] w17)) fun s19 _ w21=>
       zb (.bool b) (.bool true) (s19.getD 0 undef) fun t=>Z t w21:=by
 cases b<;>cases g<;>cases m<;>cases c <;>
  (iterate 5 (intro K hK;first|refine hK _ _ fun _=>?_|refine h1 _ (hK _ _ fun _=>?_)|refine h2 _ (hK _ _ fun _=>?_)|refine h3 _ (hK _ _ fun _=>?_)|refine ⟨_,rfl,hK _ _ fun _=>?_⟩)) <;>
  exact ⟨_,rfl,by simpa using hZ⟩
end Go.Sh
namespace Go.Proofs
open Go.Sh
set_option maxRecDepth 100000
set_option linter.unusedSimpArgs false
set_option linter.unusedVariables false
def mtB (s : Int) (n : Nat) (refs : Bool) (t : TyD) : Bool:=zz s n t&&(refs||decide (t.regs.length=0))
def Qp (s : Int) (n : Nat) (refs : Bool) (t : TyD) : Bool:=match t.of with|u::_=>mtB s n refs u|[]=>false
theorem agn {s : Int} {n : Nat} {refs : Bool} : ∀ {t : TyD} {h : 0<t.of.length},Qp s n refs t=mtB s n refs t.of[0]
 |.mk _ _ _ _ (_::_),_=>rfl
 |.mk _ _ _ _ [],h=>absurd h (Nat.not_lt_zero _)
theorem ai3 (s : Int) (n : Nat) (refs : Bool) (t : TyD) : mtB s (n+1) refs t =
  if ((decide (t.k≠4)&&(t.m||decide (t.re≠0)))||(decide (t.k≠5)&&decide (t.st≠0)))=true then false
  else if t.k=1∨t.k=2 then decide (t.of.length=0)
  else if t.k=5 then (decide (t.of.length=0)&&decide (0≤t.st))&&decide (t.st<s)
  else if t.k=3 then decide (t.of.length=1)&&Qp s n refs t
  else if t.k=4 then ((refs&&decide (t.of.length=1))&&decide (-1≤t.re))&&Qp s n refs t
  else false:=by
 have hreg0 : t.of = []→t.k≠4→t.regs = []:=fun ho hk=>by rw [aas ho,if_neg hk]
 rw [mtB,xp]
 cases hof : t.of with
 |nil=>
  have hi : inB s n t=false:=by rw [inB,hof]
  have hi2 : Qp s n refs t=false:=by rw [Qp,hof]
  rw [hi,hi2]
  by_cases h4 : t.k=4
  ·simp [h4]
  ·rw [hreg0 hof h4]
   by_cases h12 : t.k=1∨t.k=2
   ·rw [if_pos h12,if_pos h12]
    have h5 : ¬ t.k=5:=by omega
    by_cases hm : t.m=true<;>by_cases hr : t.re=0<;>by_cases hs : t.st=0<;>simp [hm,hr,hs,h4,h5]
   ·rw [if_neg h12,if_neg h12]
    by_cases h5 : t.k=5
    ·by_cases hm : t.m=true<;>by_cases hr : t.re=0<;>simp [hm,hr,h4,h5]
    ·simp [h5,h4]
 |cons u l=>
  have hi : inB s n t=zz s n u:=by rw [inB,hof]
  have hi2 : Qp s n refs t=mtB s n refs u:=by rw [Qp,hof]
  rw [hi,hi2,mtB]
  by_cases h12 : t.k=1∨t.k=2
  ·rw [if_pos h12,if_pos h12];simp
  rw [if_neg h12,if_neg h12]
  by_cases h5 : t.k=5
  ·simp [h5]
  rw [if_neg h5,if_neg h5]
  cases l with
  |cons x l=>simp
  |nil=>
   rw [aat hof]
   by_cases h3 : t.k=3
   ·have h4 : ¬ t.k=4:=by omega
    by_cases hm : t.m=true<;>by_cases hr : t.re=0<;>by_cases hs : t.st=0<;>simp [hm,hr,hs,h3,h4]
   ·rw [if_neg h3,if_neg h3]
    by_cases h4 : t.k=4
    ·by_cases hs : t.st=0<;>cases refs<;>by_cases hr : -1≤t.re<;>simp [hs,hr,h4,h5]
    ·simp [h4]
theorem aeX (s : Int) (n : Nat) (t : TyD) : mtB s n true t=zz s n t:=by rw [mtB,Bool.true_or,Bool.and_true]
set_option maxHeartbeats 1000000 in
theorem j5 : ∀ (n : Nat) {t : TyD} {refs : Bool} {w : World} {r : Gh} {v : Value} {s : Int} {K : Value→World→Prop},n≤1000→Holds r w→TyG r v t→
  (∀ w',Ext w w'→K (.bool (mtB s n refs t)) w')→zd Tryz.prog Tryz.yQ #[v,.int .i64 s,.int .i64 (n : Int),.bool refs] w K:=by
 intro n
 induction n with
 |zero=>
  intro t refs w r v s K _ hr hv h
  refine Tryz.YE ?_
  unfold Tryz.j4
  obtain ⟨p,cap,rfl,_,_,hof⟩:=hv
  have S:=St.start hr
  refine S.box fun b2 w1 S=>?_
  refine gg_ ?_
  refine acr (g:=decide (t.k≠4)) (m:=t.m) (c:=decide (t.re≠0)) (fun K hK=>by refine gg_ ?_;exact hK) (fun K hK=>by refine gg_ ?_;exact hK) (fun K hK=>by refine gg_ ?_;exact hK) ?_
  refine vT (g:=decide (t.k≠5)) (c:=decide (t.st≠0)) (fun _ K hK=>by refine gg_ ?_;exact hK) (fun _ K hK=>by refine gg_ ?_;exact hK) ?_
  refine c_t (by simp) ?_
  exact h _ S.ext
 |succ n ih=>
  intro t refs w r v s K hn hr hv h
  refine Tryz.YE ?_
  unfold Tryz.j4
  obtain ⟨p,cap,rfl,_,_,hof⟩:=hv
  have S:=St.start hr
  refine S.box fun b2 w1 S=>?_
  have S : StX noX w r w1 [.cell b2 (tyL t p cap) 93]:=S
  refine gg_ ?_
  refine acr (g:=decide (t.k≠4)) (m:=t.m) (c:=decide (t.re≠0)) (fun K hK=>by refine gg_ ?_;exact hK) (fun K hK=>by refine gg_ ?_;exact hK) (fun K hK=>by refine gg_ ?_;exact hK) ?_
  refine vT (g:=decide (t.k≠5)) (c:=decide (t.st≠0)) (fun _ K hK=>by refine gg_ ?_;exact hK) (fun _ K hK=>by refine gg_ ?_;exact hK) ?_
  rw [decide_eq_false (show ¬ ((n+1 : Nat) : Int)<1 by omega),Bool.false_or]
  rw [ai3] at h
  refine c_b (fun hbad=>?_) (fun hok=>?_)
  ·rw [if_pos hbad] at h;exact h _ S.ext
  rw [if_neg (by rw [hok];decide)] at h
  refine gg_ ?_
  intro K11 hK11
  refine gg_ ?_
  refine kA (c:=decide (t.k=2)) (hK11 _ _ fun _=>?_) fun _ hk=>?_
  rotate_left
  ·refine gg_ ?_;exact hk
  simp only [List.getD_cons_zero]
  refine c_b (fun h12=>?_) (fun h12=>?_)
  ·have h12 : t.k=1∨t.k=2:=by simpa using h12
   rw [if_pos h12] at h
   refine gg_ ?_
   rw [decide_eq_decide.2 (kB t.of.length)]
   exact h _ S.ext
  have h12 : ¬ (t.k=1∨t.k=2):=by simpa using h12
  rw [if_neg h12] at h
  refine gg_ ?_
  refine zk (fun h5=>?_) (fun h5=>?_)
  ·rw [if_pos h5] at h
   refine gg_ ?_
   refine zf (c:=decide (0≤t.st)) (fun _ K2 hK2=>by refine gg_ ?_;exact hK2) ?_
   refine zf (c:=decide (t.st<s)) (fun _ K2 hK2=>by refine gg_ ?_;exact hK2) ?_
   rw [decide_eq_decide.2 (kB t.of.length)]
   exact h _ S.ext
  rw [if_neg h5] at h
  refine gg_ ?_
  refine zk (fun h3=>?_) (fun h3=>?_)
  ·rw [if_pos h3] at h
   refine gg_ ?_
   refine zs (c:=Qp s n refs t) (fun hb K2 hK2=>?_) fun w5 e5=>?_
   ·have hlen : t.of.length=1:=by simpa [jL] using hb
    refine gg_ ?_
    obtain ⟨b,off,c,rfl,hc,hcell,ht⟩:=jK S hof (i:=0) (by omega)
    refine gg_ ?_
    refine zq (n:=5) hc (by simpa using hcell) ?_
    refine gg_ ?_
    rw [show ((n+1 : Nat) : Int) - 1=(n : Int) by omega]
    refine ih (by omega) S.holds ht fun w6 e6=>?_
    rw [← agn]
    exact hK2 _ e6
   rw [decide_eq_decide.2 (jL t.of.length)]
   exact h _ (S.go e5).ext
  rw [if_neg h3] at h
  refine gg_ ?_
  refine zk (fun h4=>?_) (fun h4=>?_)
  ·rw [if_pos h4] at h
   refine zf (c:=decide (t.of.length=1)) (fun _ K2 hK2=>by refine gg_ ?_;rw [decide_eq_decide.2 (jL t.of.length)];exact hK2) ?_
   refine zf (c:=decide (-1≤t.re)) (fun _ K2 hK2=>by refine gg_ ?_;exact hK2) ?_
   refine zs (c:=Qp s n refs t) (fun hb K2 hK2=>?_) fun w5 e5=>?_
   ·have hlen : t.of.length=1:=by
     simp only [Bool.and_eq_true,decide_eq_true_eq] at hb;exact hb.1.2
    refine gg_ ?_
    obtain ⟨b,off,c,rfl,hc,hcell,ht⟩:=jK S hof (i:=0) (by omega)
    refine gg_ ?_
    refine zq (n:=5) hc (by simpa using hcell) ?_
    refine gg_ ?_
    rw [show ((n+1 : Nat) : Int) - 1=(n : Int) by omega]
    refine ih (by omega) S.holds ht fun w6 e6=>?_
    rw [← agn]
    exact hK2 _ e6
   exact h _ (S.go e5).ext
  rw [if_neg h4] at h
  exact h _ S.ext
end Go.Proofs
end
