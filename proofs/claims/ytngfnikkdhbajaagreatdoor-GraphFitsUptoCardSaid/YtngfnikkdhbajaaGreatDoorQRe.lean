/-
  loanwordlaw10: fits; graph.Next.
  Contracts: the operands of a point.
  Shapes: what regions say nothing of; the plain law of RegionShapes.
  Contracts: Operands of graph.
  graph.Next; the example of law 10.
  loanwordref10.Own: places and operands; what a memory of one's own tells.
  Contract: loanwordref10.Own, a program in memory of its own; one function's lists are told as rows that may be written over.
  Plain: a program that may be still may be with another point, or a local more; what it tells of sizes.
  Plain: a program that may be, with one function changed; what a point that may be tells of its operands' types.
  A program in memory of its own, one function's lists as rows: looked at, written over.
  loanwordlaw10: awake.
  Shallow readings of functions. Made by a program (wip/gen/gen.py) out of the translation; the kernel checks each equality.
  The document's answer of layer 9: which types may be; how many words.
  The document's answer of layer 9: words, endless, Structs, Types.
  The document's answer of layer 9: Structs, Types, step, Walk.
  The document's answer of layer 9: step, Walk.
  The document's answer of layer 10: small parts.
  The document's answer of layer 10: rest.
  The document's answer of layer 10: walk, to, operand, args of an asker.
  The document's answer of layer 10: operand, args of an asker.
  Joined conditions with calls in them; facts of an asker.
  The document's answer of layer 10: a point.
  The document's answer of layer 10: what a type implies; the head of a graph.
  The document's answer of layer 10: the head of a graph.
  The document's answer of layer 10: Check, May, Is.
  loanwordlaw10.GraphTexts: whatever the program, the function, the point: the law returns true.
  Contracts of the library, laid at this program (by the kit's own tools).
  slices.Sort, slices.Compact, slices.Clip of a row of numbers that the walk has made itself.
  graph.Calls and the document's Calls.
  What the document says of points: Next, Operands, Assigns, Calls, places compared.
  The document's Calls and Place.
  loanwordlaw10.GraphAsks: whatever the program, the function, the point, the place: the law returns true.
  loanwordlaw10.GraphFits: whatever the program, the function, the point, the type: the law returns true.
  Openings: what arguments that are types, programs, lists of numbers tell.
  Openings of layer 10: programs with their numbers, places; the table of tens.
  loanwordlaw10.GraphFits: the card: whatever the input, the law returns true and the input reads as it did.
-/
import Derived.Test.YtngfnikkdhbajaaGreatDoorQRd
import Derived.Test.YtngfnikkdhbajaaGreatDoorQRb
import Derived.Test.YtngfnikkdhbajaaGreatDoorQRc
import Derived.Shelf.Sort.Plain
import Derived.Shelf.Slices.CompactI
import Derived.Shelf.Slices.In.SortNone
import Derived.Test.YtngfnikkdhbajaaGreatDoorProg
import Derived.KernelRfl
import Derived.Test.YtngfnikkdhbajaaGreatDoorRows
import Derived.WalkKit
import Derived.Test.YtngfnikkdhbajaaGreatDoorCards
import Derived.Test.YtngfnikkdhbajaaGreatDoorTie
import Derived.Stop.LaidErr
import Derived.Lib.LaidTab
section
namespace Go.Proofs
open Go.Sh
set_option maxRecDepth 100000
set_option linter.unusedSimpArgs false
set_option linter.unusedVariables false
theorem qO : ∀ (n : Nat) {t : TyD} {w : World} {r : Gh} {v : Value} {deep : Int} {K : Value→World→Prop},0≤deep→deep≤n→n≤60→Holds r w→TyG r v t→
  (∀ b w',Ext w w'→K (.bool b) w')→zd Tryz.prog Tryz.yM #[v,.int .i64 deep] w K:=by
 intro n
 induction n with
 |zero=>
  intro t w r v deep K h0 h1 _ hr hv h
  obtain rfl : deep=0:=by omega
  refine Tryz.vD ?_
  unfold Tryz.qL
  have S:=St.start hr
  refine S.box fun b2 w1 S=>?_
  refine gG_ ?_
  refine abX (fun _=>?_) (fun hn=>absurd rfl hn)
  exact c_T (h _ _ S.ext)
 |succ n ih=>
  intro t w r v deep K h0 h1 h2 hr hv h
  refine Tryz.vD ?_
  unfold Tryz.qL
  obtain ⟨p,cap,rfl,_,_,hof⟩:=hv
  have S:=St.start hr
  refine S.box fun b2 w1 S=>?_
  refine gG_ ?_
  refine abX (fun _=>?_) (fun hz=>?_)
  ·exact c_T (h _ _ S.ext)
  intro K2 hK2;refine gG_ ?_;refine hK2 _ _ ?_;clear hK2 K2
  refine zg (fun _=>h _ _ S.ext) (fun hlen=>?_)
  refine zk (ι:=Nat) (fun i=>[.int .i64 i]) (fun i w'=>i≤t.of.length∧St w r w' _) (fun i=>t.of.length - i) 0 rfl ⟨Nat.zero_le _,S⟩ ?_
  clear S
  rintro i d w9 ⟨hi,S⟩ K6 hK6
  simp only [List.getD_cons_zero]
  refine gG_ ?_
  refine zg (fun hlt=>?_) (fun _=>h _ _ S.ext)
  have hlt : i<t.of.length:=by omega
  obtain ⟨b,off,c,rfl,hc,hcell,ht⟩:=XT S hof hlt
  refine gG_ ?_
  refine zs (n:=5) hc (by simpa using hcell) ?_
  refine gG_ ?_
  refine ih (by omega) (by omega) (by omega) S.holds ht fun bb w10 e10=>?_
  have S:=S.go e10
  refine gG_ ?_
  refine c_b (fun _=>h _ _ S.ext) (fun _=>?_)
  refine gG_ ?_
  exact hK6 (i+1) _ ⟨hlt,S⟩ (by omega)
theorem jM {o : OpD} {c : List Value} {w : World} {r : Gh} {K : Value→World→Prop} (hr : Holds r w) (ho : OpG r c o)
  (h : ∀ w',Ext w w'→K (.bool (decide (o.pl.ps.length≤40))) w') : zd Tryz.prog Tryz.xQ #[.agg c.toArray] w K:=by
 refine Tryz.Jd ?_
 unfold Tryz.Yj
 obtain ⟨v,rfl,hv⟩:=ho
 obtain ⟨q,cap,rfl,_,_⟩:=hv.sl.shape
 have S:=St.start hr
 refine S.box fun b1 w1 S=>?_
 have S : StX noX w r w1 [.cell b1 [.int .u8 o.k,.int .i64 o.n,.int .i64 o.pl.l,.slice q o.pl.ps.length cap] 41]:=S
 refine gg_ ?_
 have:=h _ S.ext
 rwa [show decide (o.pl.ps.length≤40)=decide ((o.pl.ps.length : Int)≤40) from decide_eq_decide.2 (by omega)] at this
structure adV (p : PtD) : Prop where
 to : p.to.ps.length≤40
 fr : p.fr.ps.length≤40
 a : p.a.pl.ps.length≤40
 b : p.b.pl.ps.length≤40
 args : p.args.length≤40
 sign : p.sign.size≤40
 ops : ∀ o ∈ p.args,o.pl.ps.length≤40
def aa2 (g : GrD) : Prop:=g.pts.length≤1100∧∀ p ∈ g.pts,adV p
theorem QQ {α : Type} {P : α→Prop} {l : List α} {i : Nat} (hi : i<l.length) (h : ∀ x ∈ l.take i,P x) (hx : P l[i]) : ∀ x ∈ l.take (i+1),P x:=fun x hm=>by
 rw [List.take_succ_eq_append_getElem hi] at hm
 rcases List.mem_append.1 hm with hm|hm
 ·exact h x hm
 ·rw [List.mem_singleton.1 hm];exact hx
set_option maxHeartbeats 4000000 in
theorem aa3 {u : UnD} {v : Value} {w : World} {r : Gh} {K : Value→World→Prop} (hr : Holds r w) (hu : UnG r v u) (h : ∀ (b : Bool) w',Ext w w'→(b=true→∀ g ∈ u.fs,aa2 g)→K (.bool b) w') : zd Tryz.prog Tryz.vW #[v] w K:=by
 refine Tryz.VI ?_
 unfold Tryz.Xn
 obtain ⟨p0,cap0,vf,rfl,_,_,hst,hsl,hfn⟩:=hu
 obtain ⟨qf,capf,rfl,_,_⟩:=hfn.sl.shape
 have hfl : u.fs.length≤9223372036854775807:=hfn.few
 have hsl' : u.ss.length≤9223372036854775807:=hsl
 have no : ∀ {w'},Ext w w'→K (.bool false) w':=fun e=>h false _ e (fun e=>by cases e)
 have S:=St.start hr
 refine S.box fun b1 w1 S=>?_
 have S : StX noX w r w1 [.cell b1 [.slice p0 u.ss.length cap0,.slice qf u.fs.length capf,.int .i64 u.mn] 25]:=S
 refine gg_ ?_
 refine zh (c:=decide (40<(u.fs.length : Int))) (fun _ K2 hK2=>by refine gg_ ?_;exact hK2) ?_
 refine c_b (fun _=>no S.ext) (fun hsm=>?_)
 simp only [Bool.or_eq_false_iff,decide_eq_false_iff_not] at hsm
 refine zk (ι:=Nat) (fun i=>[.int .i64 (i : Nat)]) (fun i w'=>i≤u.ss.length∧StX noX w r w' _) (fun i=>u.ss.length - i) 0 rfl ⟨Nat.zero_le _,S⟩ ?_
 clear S
 rintro i d w2 ⟨hi,S⟩ K6 hK6
 rw [List.getD_cons_zero]
 refine gg_ ?_
 refine zg (fun hlt=>?_) (fun hge=>?_)
 ·have hlt : i<u.ss.length:=by omega
  obtain ⟨b,off,q,capq,rfl,hcell,_,hfc,hfl2⟩:=vL hst hlt
  refine gg_ ?_
  refine zE (by rw [Int.toNat_natCast];exact S.at hcell) ?_
  refine gg_ ?_
  refine zg (fun _=>no S.ext) (fun hfew=>?_)
  refine zk (ι:=Nat) (fun k=>[.int .i64 (k : Nat)]) (fun k w'=>k≤u.ss[i].fs.length∧StX noX w r w' _) (fun k=>u.ss[i].fs.length - k) 0 rfl ⟨Nat.zero_le _,S⟩ ?_
  clear S
  rintro k d w3 ⟨hk,S⟩ K10 hK10
  rw [List.getD_cons_zero]
  refine gg_ ?_
  refine zE (by rw [Int.toNat_natCast];exact S.at hcell) ?_
  refine gg_ ?_
  refine zg (fun hlt2=>?_) (fun hge2=>?_)
  ·have hlt2 : k<u.ss[i].fs.length:=by omega
   obtain ⟨b',off',c,rfl,hc5,hcl,hty⟩:=YD hfl2 hlt2
   refine gg_ ?_
   refine zE (by rw [Int.toNat_natCast];exact S.at hcell) ?_
   refine gg_ ?_
   refine zs (n:=5) hc5 (fun j v hj=>by rw [Int.toNat_natCast];have:=S.at (hcl (j+1) v (by simpa using hj));rwa [show off'+k*6+(j+1)=off'+k*6+1+j by omega] at this) ?_
   refine qO 60 (by decide) (by decide) (by decide) S.holds hty fun x w4 e4=>?_
   have S:=S.go e4
   refine gp_ ?_
   refine c_b (fun _=>no S.ext) (fun _=>?_)
   refine gg_ ?_
   exact hK10 (k+1) _ ⟨hlt2,S⟩ (by omega)
  refine gg_ ?_
  exact hK6 (i+1) _ ⟨hlt,S⟩ (by omega)
 refine zk (ι:=Nat × Int) (fun i=>[.int .i64 i.2,.int .i64 (i.1 : Nat)]) (fun i w'=>i.1≤u.fs.length∧(∀ g ∈ u.fs.take i.1,aa2 g)∧StX noX w r w' _) (fun i=>u.fs.length - i.1) (0,0) rfl ⟨Nat.zero_le _,by simp,S⟩ ?_
 clear S hK6 K6 hge hi
 rintro ⟨i,n⟩ d w3 ⟨hi,hfit,S⟩ K7 hK7
 simp only at hi hfit S ⊢
 simp only [List.getD_cons_zero,List.getD_cons_succ]
 refine gg_ ?_
 refine zg (fun hlt=>?_) (fun hge=>?_)
 rotate_left
 ·have hie : i=u.fs.length:=by omega
  subst hie
  rw [List.take_length] at hfit
  refine gg_ ?_
  exact h _ _ S.ext fun _=>hfit
 have hlt : i<u.fs.length:=by omega
 obtain ⟨bf,of,cf,rfl,hcf,hgc,hfo⟩:=hfn.sl.get (by decide) hlt
 have htk:=fun hx : aa2 u.fs[i]=>QQ hlt hfit hx
 generalize u.fs[i]=g at hgc htk
 obtain ⟨x1,x2,x3,x4,y1,y2,y3,y4,rfl,hg0⟩:=xr hgc
 obtain ⟨_,_,_,_,hE,m1,m2,m3,m4⟩:=hg0
 cases hE
 have hml : g.tys.length≤9223372036854775807:=m2.few
 have hmp : g.pts.length≤9223372036854775807:=m4.few
 refine gg_ ?_
 refine zs (n:=7) hcf (fun j v hj=>by rw [Int.toNat_natCast];exact S.at (hfo j v hj)) ?_
 refine S.al fun b7 w4 S=>?_
 refine S.stB (b:=b7) fun w5 S=>?_
 have S : StX noX w r w5 [.cell b7 (grL g x1 x2 x3 x4 y1 y2 y3 y4) 33,.cell b1 [.slice p0 u.ss.length cap0,.slice (some ⟨bf,of,none⟩) u.fs.length capf,.int .i64 u.mn] 25]:=S
 refine gg_ ?_
 refine zh (c:=decide (1100<(g.nms.length : Int))) (fun _ K2 hK2=>by refine gg_ ?_;exact hK2) ?_
 refine zh (c:=decide (200<(g.outs.length : Int))) (fun _ K2 hK2=>by refine gg_ ?_;exact hK2) ?_
 refine zh (c:=decide (1100<(g.pts.length : Int))) (fun _ K2 hK2=>by refine gg_ ?_;exact hK2) ?_
 refine c_b (fun _=>no S.ext) (fun hgs=>?_)
 simp only [Bool.or_eq_false_iff,decide_eq_false_iff_not] at hgs
 refine gg_ ?_
 refine afc fun y=>?_
 refine zk (ι:=Nat) (fun k=>[.int .i64 (k : Nat)]) (fun k w'=>k≤g.tys.length∧StX noX w r w' _) (fun k=>g.tys.length - k) 0 rfl ⟨Nat.zero_le _,S⟩ ?_
 clear S
 rintro k d w6 ⟨hk,S⟩ K33 hK33
 rw [List.getD_cons_zero]
 refine gg_ ?_
 refine zg (fun hlt2=>?_) (fun hge2=>?_)
 ·have hlt2 : k<g.tys.length:=by omega
  obtain ⟨bt,ot,ct,hE,hct,hty,hto⟩:=m2.sl.get (by decide) hlt2
  cases hE
  refine gg_ ?_
  refine zs (n:=5) hct (fun j v hj=>by rw [Int.toNat_natCast];exact S.at (hto j v hj)) ?_
  refine qO 60 (by decide) (by decide) (by decide) S.holds hty fun x w4 e4=>?_
  have S:=S.go e4
  refine gp_ ?_
  refine c_b (fun _=>no S.ext) (fun _=>?_)
  refine gg_ ?_
  exact hK33 (k+1) _ ⟨hlt2,S⟩ (by omega)
 refine zk (ι:=Nat) (fun k=>[.int .i64 (k : Nat)]) (fun k w'=>k≤g.pts.length∧(∀ p ∈ g.pts.take k,adV p)∧StX noX w r w' [.cell b7 (grL g x1 x2 x3 x4 y1 y2 y3 y4) 33,.cell b1 [.slice p0 u.ss.length cap0,.slice (some ⟨bf,of,none⟩) u.fs.length capf,.int .i64 u.mn] 25]) (fun k=>g.pts.length - k) 0 rfl ⟨Nat.zero_le _,by simp,S⟩ ?_
 clear S hK33 K33 hge2 hk k
 rintro k d w8 ⟨hk,hps,S⟩ K38 hK38
 rw [List.getD_cons_zero]
 refine gg_ ?_
 refine zg (fun hlt2=>?_) (fun hge2=>?_)
 ·have hlt2 : k<g.pts.length:=by omega
  obtain ⟨bp,op,cp,hE,hcp,hpc,hpo⟩:=m4.sl.get (by decide) hlt2
  cases hE
  have hpk:=fun hx : adV g.pts[k]=>QQ hlt2 hps hx
  generalize g.pts[k]=p at hpc hpk
  obtain ⟨z1,z2,z3,z4,z5,t1,t2,t3,t4,t5,rfl,hp0⟩:=yV hpc
  obtain ⟨kto,ka,kb,kl,kf⟩:=Zq hp0
  have hkl : p.args.length≤9223372036854775807:=kl.few
  refine gg_ ?_
  refine zs (n:=21) hcp (fun j v hj=>by rw [Int.toNat_natCast];exact S.at (hpo j v hj)) ?_
  refine S.al fun b10 w9 S=>?_
  refine S.stB (b:=b10) fun w10 S=>?_
  have S : StX noX w r w10 [.cell b10 (ptL p z1 z2 z3 z4 z5 t1 t2 t3 t4 t5) 44,.cell b7 (grL g x1 x2 x3 (some ⟨bp,op,none⟩) y1 y2 y3 y4) 33,.cell b1 [.slice p0 u.ss.length cap0,.slice (some ⟨bf,of,none⟩) u.fs.length capf,.int .i64 u.mn] 25]:=S
  refine gg_ ?_
  refine zh (c:=decide (40<(p.fr.ps.length : Int))) (fun _ K2 hK2=>by refine gg_ ?_;exact hK2) ?_
  refine xw (c:=!decide (p.a.pl.ps.length≤40)) (fun _ K2 hK2=>?_) fun w11 e11=>?_
  ·refine gg_ ?_
   refine S.ldN (b:=b10) ?_
   refine jM S.holds ka fun w4 e4=>?_
   refine gp_ ?_
   exact hK2 _ e4
  have S:=S.go e11
  refine xw (c:=!decide (p.b.pl.ps.length≤40)) (fun _ K2 hK2=>?_) fun w12 e12=>?_
  ·refine gg_ ?_
   refine S.ldN (b:=b10) ?_
   refine jM S.holds kb fun w4 e4=>?_
   refine gp_ ?_
   exact hK2 _ e4
  have S:=S.go e12
  refine zh (c:=decide (40<(p.args.length : Int))) (fun _ K2 hK2=>by refine gg_ ?_;exact hK2) ?_
  refine zh (c:=decide (40<(p.sign.size : Int))) (fun _ K2 hK2=>by refine gg_ ?_;exact hK2) ?_
  refine c_b (fun _=>no S.ext) (fun hgood=>?_)
  simp only [Bool.or_eq_false_iff,decide_eq_false_iff_not,Bool.not_eq_false',decide_eq_true_eq] at hgood
  refine zk (ι:=Nat) (fun m=>[.int .i64 (m : Nat)]) (fun m w'=>m≤p.args.length∧(∀ o ∈ p.args.take m,o.pl.ps.length≤40)∧StX noX w r w' _) (fun m=>p.args.length - m) 0 rfl ⟨Nat.zero_le _,by simp,S⟩ ?_
  clear S
  rintro m d w13 ⟨hm,hops,S⟩ K66 hK66
  rw [List.getD_cons_zero]
  refine gg_ ?_
  refine zg (fun hlt3=>?_) (fun hge3=>?_)
  ·have hlt3 : m<p.args.length:=by omega
   obtain ⟨bo,oo,co,hE,hco,hoc,hoo⟩:=kl.sl.get (by decide) hlt3
   cases hE
   refine gg_ ?_
   refine zs (n:=4) hco (fun j v hj=>by rw [Int.toNat_natCast];exact S.at (hoo j v hj)) ?_
   refine jM S.holds hoc fun w4 e4=>?_
   have S:=S.go e4
   refine gp_ ?_
   refine c_b (fun _=>no S.ext) (fun hk=>?_)
   refine gg_ ?_
   exact hK66 (m+1) _ ⟨hlt3,QQ hlt3 hops (by simpa using hk),S⟩ (by omega)
  have hme : m=p.args.length:=by omega
  subst hme
  rw [List.take_length] at hops
  have S:=S.drop b10
  refine gg_ ?_
  exact hK38 (k+1) _ ⟨hlt2,hpk ⟨by omega,by omega,by omega,by omega,by omega,by omega,hops⟩,S⟩ (by omega)
 have hke : k=g.pts.length:=by omega
 subst hke
 rw [List.take_length] at hps
 have S:=S.drop b7
 refine gg_ ?_
 exact hK7 (i+1,y) _ ⟨hlt,htk ⟨by omega,hps⟩,S⟩ (by show u.fs.length - (i+1)<u.fs.length - i;omega)
end Go.Proofs
end
section
namespace Go.Sh
open Go.RowKit
section
variable {P : Program} {X : Nat→Prop} {w0 w : World} {r : Gh} {L : List Asr} {α : Type} {sz n : Nat} {R : List Value→α→Prop} {l : List α} {e : TypeId} {p : Option Addr} {cap : Nat}
theorem aeB (hz : 0<sz) (h : SlG sz r R (.slice p n cap) l) : ∃ xs,RowOf sz R xs l∧Ob r fun w=>Sl w p xs:=by
 have key : ∀ k,k≤l.length→∃ xs,RowOf sz R xs (l.take k)∧Ob r fun w=>Sl w p xs:=by
  intro k
  induction k with
  |zero=>intro _;exact ⟨[],by rw [List.take_zero];exact RowOf.nil,fun w _=>Sl.nil w _⟩
  |succ k ih=>
   intro hk
   obtain ⟨xs,h1,h2⟩:=ih (by omega)
   obtain ⟨b,off,c,rfl,hc,hcc,hcell⟩:=h.get hz (show k<l.length by omega)
   have hxl : xs.length=k*sz:=by rw [h1.1,List.length_take,Nat.min_eq_left (by omega)]
   refine ⟨xs++c,by rw [List.take_succ_eq_append_getElem (by omega)];exact h1.snoc hc hcc,fun w hw i v hi=>?_⟩
   by_cases hlt : i<xs.length
   ·rw [List.getElem?_append_left hlt] at hi;exact h2 w hw i v hi
   ·rw [List.getElem?_append_right (by omega)] at hi
    have:=hcell _ v hi w hw
    exact ⟨b,off,rfl,by rwa [show off+k*sz+(i - xs.length)=off+i by omega] at this⟩
 have:=key l.length (Nat.le_refl _)
 rwa [List.take_length] at this
theorem ab9 {xs : List Value} (h : RowOf sz R xs l) (hz : 0<sz) (h1 : ∀ c x,R c x→∀ u ∈ c,u.oneCell'=true) : ∀ u ∈ xs,u.oneCell'=true:=fun u hu=>by
 obtain ⟨i,hi,rfl⟩:=List.getElem_of_mem hu
 have hj : i / sz<l.length:=by
  rw [h.1] at hi
  exact Nat.div_lt_of_lt_mul (by rw [Nat.mul_comm];exact hi)
 refine h1 _ _ (h.2 _ hj) _ ?_
 have hm:=Nat.mod_lt i hz
 have hd:=Nat.div_add_mod i sz
 refine List.mem_of_getElem? (i:=i % sz) ?_
 rw [List.getElem?_take,if_pos hm,List.getElem?_drop,show i / sz*sz+i % sz=i by rw [Nat.mul_comm];exact hd,List.getElem?_eq_getElem hi]
theorem StX.cellRow {b : Nat} {c : List Value} (S : StX X w0 r w (.cell b c e::L)) (hn : n≤cap) (hc : c.length=cap*sz) (hm : cap≤maxLen) : StX X w0 r w (.row (.slice (some ⟨b,0,none⟩) n cap) e sz n (c.take (n*sz))::L):=by
 have:=vH (w:=w) (base:=0) (size:=sz) (n:=n) (cap:=cap) (Nat.zero_le _) (S.has (.cell b c e) List.mem_cons_self) hn hm hc
 exact S.turn (p:=[]) (x:=.cell b c e) (y:=.row (.slice (some ⟨b,0,none⟩) n cap) e sz n (c.take (n*sz))) (ExtBut.refl _ _) this fun k hk=>.inl (by cases hk;rfl)
end
end Go.Sh
namespace Go.Proofs
open Go.Sh
set_option maxRecDepth 100000
set_option linter.unusedSimpArgs false
set_option linter.unusedVariables false
theorem Yu {r : Gh} {c : List Value} {o : OpD} (h : OpG r c o) : ∃ q k,c = [.int .u8 o.k,.int .i64 o.n,.int .i64 o.pl.l,.slice q o.pl.ps.length k]:=by
 obtain ⟨v,rfl,hl⟩:=h
 obtain ⟨q,k,rfl,_⟩:=hl.sl.shape
 exact ⟨q,k,rfl⟩
theorem y5 {r : Gh} {c : List Value} {o : OpD} (h : OpG r c o) : c.length=4:=by obtain ⟨q,k,rfl⟩:=Yu h;rfl
theorem XY {r : Gh} {c : List Value} {o : OpD} (h : OpG r c o) : ∀ u ∈ c,u.oneCell'=true:=by obtain ⟨q,k,rfl⟩:=Yu h;simp [Value.oneCell']
def zX (o : OpD) : Bool:=decide (o.k≠0)
def opersG (p : PtD) : List OpD:=(p.a::p.b::p.args).filter zX
abbrev aca : Value:=.func (.func Tryz.jX) #[] #[]
theorem XK {o : OpD} {c : List Value} {w0 w : World} {r : Gh} {L : List Asr} {K : Value→World→Prop} (S : StX noX w0 r w L) (ho : OpG r c o)
  (h : ∀ w',StX noX w0 r w' L→K (.bool (decide (o.k=0))) w') : zO Tryz.prog aca #[.agg c.toArray] w K:=by
 refine ad9 (by kernel_rfl) ?_
 refine Tryz.Y3 ?_
 unfold Tryz.j6
 obtain ⟨q,k,rfl⟩:=Yu ho
 refine S.box fun b1 w1 S=>?_
 have S : StX noX w0 r w1 (.cell b1 [.int .u8 o.k,.int .i64 o.n,.int .i64 o.pl.l,.slice q o.pl.ps.length k] 41::L):=S
 refine gg_ ?_
 exact h _ S.tl
abbrev kF (c : List Value) (i : Nat) : List Value:=(c.drop (i*4)).take 4
theorem J7 {l : List OpD} {b n cap : Nat} {c : List Value} {w0 w : World} {r : Gh} {L : List Asr} {K : Value→World→Prop} (S : StX noX w0 r w (.cell b c 41::L)) (hn : n=l.length) (hb : n≤1000000)
  (hrow : ∀ (i : Nat) (hi : i<l.length),OpG r (kF c i) l[i])
  (h : ∀ (i : Int) w',StX noX w0 r w' (.cell b c 41::L)→(i = -1∧(∀ o ∈ l,o.k≠0))∨(∃ j : Nat,i=j∧∃ hj : j<l.length,l[j].k=0∧∀ o ∈ l.take j,o.k≠0)→K (.int .i64 i) w') :
  zd Tryz.prog Tryz.zP #[.slice (some ⟨b,0,none⟩) n cap,aca] w K:=by
 subst hn
 refine Tryz.xJ ?_
 unfold Tryz.ym
 refine gp_ ?_
 refine zk (ι:=Nat) (fun i=>[.int .i64 (i : Nat)]) (fun i w'=>i≤l.length∧(∀ o ∈ l.take i,o.k≠0)∧StX noX w0 r w' (.cell b c 41::L)) (fun i=>l.length - i) 0 rfl ⟨Nat.zero_le _,by simp,S⟩ ?_
 clear S
 rintro i d w' ⟨hi,hno,S⟩ K6 hK6
 rw [List.getD_cons_zero]
 refine gp_ ?_
 refine zg (fun hlt=>?_) (fun hge=>?_)
 ·have hlt : i<l.length:=by omega
  have hr:=hrow i hlt
  refine s_c (by omega) ?_
  rw [show 0+((i : Nat) : Int).toNat*4=i*4 by omega]
  refine S.ldN (b:=b) (vs:=kF c i) ?_ rfl (y5 hr)
  refine XK S hr fun w2 S=>?_
  refine zg (fun hk=>?_) (fun hk=>?_)
  ·exact h _ _ S (.inr ⟨i,rfl,hlt,hk,hno⟩)
  ·refine gp_ ?_
   rw [show ((i : Int)+1)=((i+1 : Nat) : Int) by omega]
   refine hK6 (i+1) _ ⟨hlt,fun o ho=>?_,S⟩ (by omega)
   rw [List.take_succ_eq_append_getElem hlt,List.mem_append] at ho
   rcases ho with ho|ho
   ·exact hno o ho
   ·rw [List.mem_singleton.1 ho];exact hk
 ·have hie : i=l.length:=by omega
  rw [hie,List.take_length] at hno
  exact h _ _ S (.inl ⟨rfl,hno⟩)
theorem abH {o : OpD} (h : o.k=0) : [o].filter zX = []:=by simp [zX,h]
theorem adW {o : OpD} (h : o.k≠0) : [o].filter zX = [o]:=by simp [zX,h]
theorem YL {l : List OpD} (h : ∀ o ∈ l,o.k≠0) : l.filter zX=l:=List.filter_eq_self.2 fun o ho=>decide_eq_true (h o ho)
theorem abI {c cs : List Value} {i m : Nat} (hc : i*4+4≤c.length) (hl : cs.length=4) (hm : i<m) : kF (c.take (i*4)++cs++c.drop (i*4+4)) m=kF c m:=by
 have e : (c.take (i*4)++cs++c.drop (i*4+4)).drop (m*4)=c.drop (m*4):=by
  rw [List.drop_append,List.drop_of_length_le (by rw [List.length_append,List.length_take,hl];omega),List.nil_append,List.length_append,List.length_take,hl,List.drop_drop]
  congr 1;omega
 rw [kF,e]
theorem abJ {c cs : List Value} {i : Nat} (hc : i*4+4≤c.length) (hl : cs.length=4) : (c.take (i*4)++cs++c.drop (i*4+4)).take ((i+1)*4)=c.take (i*4)++cs:=by
 rw [List.take_append_of_le_length (by rw [List.length_append,List.length_take,hl];omega),List.take_of_length_le (by rw [List.length_append,List.length_take,hl];omega)]
set_option maxHeartbeats 1000000 in
theorem Jw {l : List OpD} {b n cap : Nat} {c : List Value} {w0 w : World} {r : Gh} {L : List Asr} {K : Value→World→Prop} (S : StX noX w0 r w (.cell b c 41::L)) (hn : n=l.length) (hb : n≤1000000) (hnc : n≤cap) (hc : c.length=cap*4)
  (hrow : ∀ (i : Nat) (hi : i<l.length),OpG r (kF c i) l[i])
  (h : ∀ c' w',StX noX w0 r w' (.cell b c' 41::L)→c'.length=cap*4→RowOf 4 (OpG r) (c'.take ((l.filter zX).length*4)) (l.filter zX)→K (.slice (some ⟨b,0,none⟩) (l.filter zX).length cap) w') :
  zd Tryz.prog Tryz.zN #[.slice (some ⟨b,0,none⟩) n cap,aca] w K:=by
 subst hn
 refine Tryz.xE ?_
 unfold Tryz.yj
 have hrow0 : ∀ k,k≤l.length→RowOf 4 (OpG r) (c.take (k*4)) (l.take k):=fun k hk=>⟨by rw [List.length_take,List.length_take];omega,fun i hi=>by
  rw [List.length_take] at hi
  rw [List.getElem_take,List.drop_take,List.take_take,Nat.min_eq_left (by omega)]
  exact hrow i (by omega)⟩
 refine J7 S rfl hb hrow fun i0 w1 S hi0=>?_
 refine gp_ ?_
 rcases hi0 with ⟨rfl,hall⟩|⟨j,rfl,hj,hjk,hbef⟩
 ·refine c_t (by decide) ?_
  have:=h c w1 S hc (by rw [YL hall];have:=hrow0 l.length (Nat.le_refl _);rwa [List.take_length] at this)
  rw [YL hall] at this
  exact this
 refine c_f (decide_eq_false (by omega)) ?_
 refine gp_ ?_
 have hf0 : (l.take j).filter zX=l.take j:=YL hbef
 have hf1 : (l.take (j+1)).filter zX=l.take j:=by
  rw [List.take_succ_eq_append_getElem hj,List.filter_append,hf0,abH hjk,List.append_nil]
 refine zk (ι:=Nat × Nat × List Value) (fun i=>[.int .i64 (i.1 : Nat),.int .i64 (i.2.1 : Nat)]) (fun i w'=>i.1<i.2.1∧i.2.1≤l.length∧i.1=((l.take i.2.1).filter zX).length∧i.2.2.length=cap*4∧RowOf 4 (OpG r) (i.2.2.take (i.1*4)) ((l.take i.2.1).filter zX)∧
  (∀ (m : Nat) (hm : m<l.length),i.2.1≤m→OpG r (kF i.2.2 m) l[m])∧StX noX w0 r w' (.cell b i.2.2 41::L)) (fun i=>l.length - i.2.1) (j,j+1,c) (by simp) ⟨by simp,hj,by rw [hf1,List.length_take];omega,hc,by rw [hf1];exact hrow0 j (by omega),fun m hm _=>hrow m hm,S⟩ ?_
 clear S
 rintro ⟨i,k,c1⟩ d w2 ⟨hik,hk,hie,hc1,hr1,hrest,S⟩ K2 hK2
 simp only at hik hk hie hc1 hr1 hrest S ⊢
 simp only [List.getD_cons_zero,List.getD_cons_succ]
 refine gp_ ?_
 refine gp_ ?_
 refine zg (fun hlt=>?_) (fun hge=>?_)
 ·have hlt : k<l.length:=by omega
  have hrk:=hrest k hlt (Nat.le_refl _)
  have hs : l.take (k+1)=l.take k ++ [l[k]]:=List.take_succ_eq_append_getElem hlt
  refine zq (fun s w'=>∃ i' c',s = [.int .i64 (i' : Nat)]∧i'<k+1∧i'=((l.take (k+1)).filter zX).length∧c'.length=cap*4∧RowOf 4 (OpG r) (c'.take (i'*4)) ((l.take (k+1)).filter zX)∧
   (∀ (m : Nat) (hm : m<l.length),k+1≤m→OpG r (kF c' m) l[m])∧StX noX w0 r w' (.cell b c' 41::L)) (fun K6 hK6=>?_) ?_
  rotate_left
  ·rintro _ w3 ⟨i',c',rfl,g1,g2,g3,g4,g5,S⟩ d3
   rw [List.getD_cons_zero]
   refine gp_ ?_
   rw [show ((k : Int)+1)=((k+1 : Nat) : Int) by omega]
   exact hK2 (i',k+1,c') _ ⟨g1,hlt,g2,g3,g4,g5,S⟩ (by show l.length - (k+1)<l.length - k;omega)
  refine s_c (by omega) ?_
  rw [show 0+((k : Nat) : Int).toNat*4=k*4 by omega]
  refine S.ldN (b:=b) (vs:=kF c1 k) ?_ rfl (y5 hrk)
  refine S.al fun b7 w3 S=>?_
  refine S.stB (b:=b7) (cs:=(kF c1 k).toArray) (fun w4 S=>?_) rfl (by simpa using y5 hrk) (by simpa using XY hrk)
  have S : StX noX w0 r w4 (.cell b7 (kF c1 k) 41 :: .cell b c1 41::L):=S
  refine S.ldB (b:=b7) ?_ (y5 hrk)
  refine XK S hrk fun w5 S=>?_
  refine gp_ ?_
  by_cases hk0 : l[k].k=0
  ·refine c_f (by rw [decide_eq_true hk0];rfl) ?_
   have hfe : (l.take (k+1)).filter zX=(l.take k).filter zX:=by
    rw [hs,List.filter_append,abH hk0,List.append_nil]
   refine hK6 _ _ ⟨i,c1,rfl,by omega,by rw [hfe];exact hie,hc1,by rw [hfe];exact hr1,fun m hm hkm=>hrest m hm (by omega),S.tl⟩
  ·refine c_t (by rw [decide_eq_false hk0];rfl) ?_
   have hfe : (l.take (k+1)).filter zX=(l.take k).filter zX ++ [l[k]]:=by
    rw [hs,List.filter_append,adW hk0]
   refine S.ldB (b:=b7) ?_ (y5 hrk)
   refine s_c (by omega) ?_
   rw [show 0+((i : Nat) : Int).toNat*4=i*4 by omega]
   refine S.stN (b:=b) (cs:=(kF c1 k).toArray) (fun w6 S=>?_) (by omega) (by simpa using y5 hrk) (by simpa using XY hrk)
   have S : StX noX w0 r w6 (.cell b7 (kF c1 k) 41 :: .cell b (c1.take (i*4)++kF c1 k++c1.drop (i*4+4)) 41::L):=S
   refine gp_ ?_
   rw [show ((i : Int)+1)=((i+1 : Nat) : Int) by omega]
   refine hK6 _ _ ⟨i+1,c1.take (i*4)++kF c1 k++c1.drop (i*4+4),rfl,by omega,by rw [hfe,List.length_append,← hie];rfl,?_,?_,fun m hm hkm=>?_,S.tl⟩
   ·rw [List.length_append,List.length_append,List.length_take,List.length_drop,y5 hrk];omega
   ·rw [abJ (by omega) (y5 hrk),hfe]
    exact hr1.snoc (y5 hrk) hrk
   ·rw [abI (by omega) (y5 hrk) (by omega)]
    exact hrest m hm (by omega)
 ·have hke : k=l.length:=by omega
  rw [hke,List.take_length] at hie hr1
  refine s_c (by omega) ?_
  rw [if_neg (by omega),Option.map_some,xC,Int.toNat_natCast,Nat.zero_add]
  refine S.clr (b:=b) (by
   have e : (List.length [Value.int .u8 0,Value.int .i64 0,Value.int .i64 0,Value.slice none 0 0])=4:=rfl
   rw [e];omega) (by simp [Value.oneCell']) fun c2 w3 hc2 ht2 S=>?_
  refine s_c (by omega) ?_
  rw [Int.toNat_natCast,hie]
  exact h c2 w3 S (by omega) (by rw [← hie,ht2];exact hr1)
set_option maxHeartbeats 1000000 in
theorem QR {p : PtD} {c : List Value} {w : World} {r : Gh} {K : Value→World→Prop} (hr : Holds r w) (hp : PtG r c p) (hb : p.args.length≤1000)
  (h : ∀ b cap c' w',StX noX w r w' [.cell b c' 41]→c'.length=cap*4→(opersG p).length≤cap→RowOf 4 (OpG r) (c'.take ((opersG p).length*4)) (opersG p)→K (.slice (some ⟨b,0,none⟩) (opersG p).length cap) w') :
  zd Tryz.prog Tryz.qK #[.agg c.toArray] w K:=by
 refine Tryz.X2 ?_
 unfold Tryz.Zi
 obtain ⟨q1,q2,q3,q4,q5,c1,c2,c3,c4,c5,rfl,hp0⟩:=yV hp
 obtain ⟨_,_,_,_,_,hE,k1,k2,k3,k4,k5⟩:=hp0
 cases hE
 have S:=St.start hr
 refine S.box fun b1 w1 S=>?_
 have S : StX noX w r w1 [.cell b1 (ptL p q1 q2 q3 q4 q5 c1 c2 c3 c4 c5) 44]:=S
 have hoa : OpG r [.int .u8 p.a.k,.int .i64 p.a.n,.int .i64 p.a.pl.l,.slice q2 p.a.pl.ps.length c2] p.a:=⟨_,rfl,k2⟩
 have hob : OpG r [.int .u8 p.b.k,.int .i64 p.b.n,.int .i64 p.b.pl.l,.slice q3 p.b.pl.ps.length c3] p.b:=⟨_,rfl,k3⟩
 refine gg_ ?_
 refine S.ldN (b:=b1) ?_
 refine gg_ ?_
 refine S.ldN (b:=b1) ?_
 refine S.lit (e:=41) (cs:=[.int .u8 p.a.k,.int .i64 p.a.n,.int .i64 p.a.pl.l,.slice q2 p.a.pl.ps.length c2] ++ [.int .u8 p.b.k,.int .i64 p.b.n,.int .i64 p.b.pl.l,.slice q3 p.b.pl.ps.length c3]) (by kernel_rfl) fun b8 w2 S=>?_
 have S:=S.cellRow (n:=2) (cap:=2) (sz:=4) (Nat.le_refl _) rfl (by simp [maxLen])
 obtain ⟨xs,hxr,hxs⟩:=aeB (by decide) k4.sl
 obtain ⟨_,_,hE,hq4,_⟩:=k4.sl.shape
 cases hE
 refine gg_ ?_
 refine S.ap (v:=.slice (some ⟨b8,0,none⟩) 2 2) (S.at hxs) (fun v3 w3 S=>?_) (by omega) hxr.1 hq4 (ab9 hxr (by decide) fun c x hx=>XY hx)
 obtain ⟨b9,cap9,c9,rfl,hc9,hcl9,htk9,S⟩:=S.rowCell v3 (by omega)
 have hlen : (p.a::p.b::p.args).length=2+p.args.length:=by simp;omega
 have hrw : RowOf 4 (OpG r) (c9.take ((2+p.args.length)*4)) (p.a::p.b::p.args):=by
  rw [htk9]
  exact vN (c:=[.int .u8 p.a.k,.int .i64 p.a.n,.int .i64 p.a.pl.l,.slice q2 p.a.pl.ps.length c2]) rfl hoa (vN (c:=[.int .u8 p.b.k,.int .i64 p.b.n,.int .i64 p.b.pl.l,.slice q3 p.b.pl.ps.length c3]) rfl hob hxr)
 refine Jw (l:=p.a::p.b::p.args) (L:=[.cell b1 (ptL p q1 q2 q3 q4 q5 c1 c2 c3 c4 c5) 44]) S hlen.symm (by omega) hc9 hcl9 (fun i hi=>?_) fun c' w4 S hc' hrow=>?_
 ·have:=hrw.2 i hi
  rw [List.drop_take,List.take_take,Nat.min_eq_left (by omega)] at this
  exact this
 have hle : (opersG p).length≤cap9:=by
  have:=List.length_filter_le zX (p.a::p.b::p.args)
  show ((p.a::p.b::p.args).filter zX).length≤cap9
  omega
 exact h b9 cap9 c' w4 (S.less (fun _ _ h=>h) (.cons_cons _ (List.nil_sublist _))) hc' hle hrow
end Go.Proofs
end
section
namespace Go.Proofs
open Go.Sh
set_option maxRecDepth 100000
set_option linter.unusedSimpArgs false
set_option linter.unusedVariables false
theorem jN {ss : List StD} {tys : List TyD} : ∀ {l : List OpD} {ts : List TyD},y9 ss tys l ts=true→l.length=ts.length∧∀ (i : Nat) (hi : i<l.length) (hj : i<ts.length),(zF ss tys l[i]).2=true∧zU yX (zF ss tys l[i]).1 ts[i]=true
 |[],[],_=>⟨rfl,fun i hi=>absurd hi (Nat.not_lt_zero _)⟩
 |[],_::_,h=>by cases h
 |_::_,[],h=>by cases h
 |o::l,t::r,h=>by
  rw [YG,Bool.and_eq_true,Bool.and_eq_true] at h
  obtain ⟨h1,h2⟩:=jN h.2
  refine ⟨by simp [h1],fun i hi hj=>?_⟩
  cases i with
  |zero=>exact h.1
  |succ i=>exact h2 i (by simpa using hi) (by simpa using hj)
theorem acb {ss : List StD} {tys : List TyD} {o : OpD} (h : (zF ss tys o).2=true) : o.pl.ps.length≤8:=by
 unfold zF at h
 split at h
 ·simp only [k8,Bool.and_eq_true,decide_eq_true_eq] at h;omega
 split at h
 ·simp only [k8,Bool.and_eq_true,decide_eq_true_eq] at h;omega
 split at h
 ·simp only [Bool.and_eq_true] at h;exact YI h.1.1
 split at h
 ·simp only [Bool.and_eq_true] at h;exact YI h.1.1.1
 ·cases h
theorem aeC {o : OpD} (h : o.k≠0) : jp o=false:=by rw [jp,decide_eq_false h];rfl
theorem Qs {u : UnD} {g : GrD} {p : PtD} (h : ptG u g p=true) : 1≤p.op∧p.op≤14:=by
 refine Classical.byContradiction fun hc=>?_
 rw [ptG] at h
 rw [if_neg (by omega),if_neg (by omega),if_neg (by omega),if_neg (by omega),if_neg (by omega),if_neg (by omega),if_neg (by omega),if_neg (by omega),if_neg (by omega),if_neg (by omega),if_neg (by omega),if_neg (by omega),if_neg (by omega)] at h
 cases h
theorem Vu {u : UnD} {g : GrD} {p : PtD} (h : zC u g p=true) : ∀ o ∈ opersG p,(zF u.ss g.tys o).2=true:=by
 have h2:=jK h
 intro o ho
 rw [opersG,List.mem_filter,zX,decide_eq_true_eq] at ho
 obtain ⟨hm,hk⟩:=ho
 have hn:=aeC hk
 have hc : p.op=1∨p.op=2∨p.op=3∨p.op=4∨p.op=5∨p.op=6∨p.op=7∨p.op=8∨p.op=9∨p.op=10∨p.op=11∨p.op=12∨p.op=13∨p.op=14:=by
  have:=Qs h2
  omega
 cases hf : (zF u.ss g.tys o).2 with
 |true=>rfl
 |false=>
  exfalso
  rw [List.mem_cons,List.mem_cons] at hm
  rw [ptG] at h2
  rcases hm with rfl|rfl|hm
  ·rcases hc with hc|hc|hc|hc|hc|hc|hc|hc|hc|hc|hc|hc|hc|hc<;>simp [hc,hf,hn,zG,qH] at h2
  ·rcases hc with hc|hc|hc|hc|hc|hc|hc|hc|hc|hc|hc|hc|hc|hc<;>simp [hc,hf,hn,zG,qH] at h2
  ·have hne : p.args.length≠0:=fun h0=>by rw [List.eq_nil_of_length_eq_zero h0] at hm;cases hm
   obtain ⟨i,hi,rfl⟩:=List.getElem_of_mem hm
   have harg : ∀ ts,y9 u.ss g.tys p.args ts=false:=fun ts=>by
    cases ha : y9 u.ss g.tys p.args ts with
    |false=>rfl
    |true=>
     obtain ⟨hl,hx⟩:=jN ha
     have:=(hx i hi (by omega)).1
     rw [hf] at this;cases this
   have hne' : p.args≠[]:=fun h0=>hne (by rw [h0];rfl)
   rcases hc with hc|hc|hc|hc|hc|hc|hc|hc|hc|hc|hc|hc|hc|hc<;>first|(simp [hc,hne,hne',zG,qH] at h2;done)|(simp [hc,hne,hne',zG,qH,harg] at h2;try (split at h2<;>simp_all))
theorem aa4 {u : UnD} {g : GrD} {p : PtD} (hM : MayU u) (h : zC u g p=true) : p.args.length≤1000:=by
 have h2:=jK h
 by_cases hne : p.args.length=0
 ·omega
 have hne' : p.args≠[]:=fun h0=>hne (by rw [h0];rfl)
 rw [ptG] at h2
 by_cases h6 : p.op=6
 ·simp only [h6,Int.reduceEq,if_false,if_true,Bool.and_eq_true,decide_eq_true_eq,isK] at h2
  have hl:=(jN h2.2).1
  have hf : (xk u.ss (zp u.ss g.tys p.to).1).1.length≤8:=by
   rw [xk]
   split
   ·exact Yl (kY hM.ok).2.1 _
   ·simp
  omega
 by_cases h7 : p.op=7
 ·simp only [h7,Int.reduceEq,if_false,if_true,Bool.and_eq_true,decide_eq_true_eq] at h2
  have hlt : p.fn.toNat<u.fs.length:=by omega
  rw [List.getElem?_eq_getElem hlt] at h2
  have h3:=h2.2
  simp only [Bool.and_eq_true] at h3
  have hl:=(jN h3.2).1
  have:=(hM.hd hlt).pn8
  rw [List.length_take] at hl
  omega
 ·exfalso
  have hc : p.op=1∨p.op=2∨p.op=3∨p.op=4∨p.op=5∨p.op=8∨p.op=9∨p.op=10∨p.op=11∨p.op=12∨p.op=13∨p.op=14:=by
   have:=Qs (jK h)
   omega
  rcases hc with hc|hc|hc|hc|hc|hc|hc|hc|hc|hc|hc|hc<;>simp [hc,hne,hne',zG,qH] at h2
end Go.Proofs
end
section
namespace Go.Proofs
open Go.Sh
set_option maxRecDepth 100000
set_option linter.unusedSimpArgs false
set_option linter.unusedVariables false
theorem StX.cutSl {α : Type} {sz b cap : Nat} {R : List Value→α→Prop} {l : List α} {X : Nat→Prop} {w0 w : World} {r : Gh} {L : List Asr} {xs : List Value} {e : TypeId} (S : StX X w0 r w (.cell b xs e::L)) (h : RowOf sz R (xs.take (l.length*sz)) l) (hz : 0<sz) (hc : l.length≤cap) :
  StX X w0 (r.or (Go.Sh.one b xs e)) w L∧SlG sz (Go.Sh.one b xs e) R (.slice (some ⟨b,0,none⟩) l.length cap) l:=
 ⟨StX.frz S,h.sl (by simp) hc (fun w k=>(Sl.blk (yy w k)).take _) hz ⟨w,yc (S.has _ (List.mem_cons_self ..))⟩⟩
noncomputable def Z6 (u : UnD) (n q : Int) : List OpD × Int:=if ptE u n q≠0 then ([],ptE u n q) else match qr u n q with|some p=>(opersG p,0)|none=>([],2)
theorem aeD {u : UnD} {n q : Int} {p : PtD} (h0 : ptE u n q=0) (hp : qr u n q=some p) : MayU u∧∃ g ∈ u.fs,u.fs[n.toNat]? = some g∧p ∈ g.pts∧zC u g p=true∧HeadU u n.toNat g:=by
 obtain ⟨hf,hq0,hn,hql⟩:=Js h0
 obtain ⟨hM,_,_⟩:=Zr hf
 obtain ⟨hl,hpe⟩:=QN hn hp
 have hm : p ∈ u.fs[n.toNat].pts:=by rw [← hpe];exact List.getElem_mem _
 exact ⟨hM,_,List.getElem_mem hn,List.getElem?_eq_getElem hn,hm,hM.pts _ (List.getElem_mem hn) p hm,hM.hd hn⟩
set_option maxHeartbeats 1000000 in
theorem Zv {u : UnD} {n q : Int} {v : Value} {w : World} {r : Gh} {K : Value→World→Prop} (hr : Holds r w) (hu : UnG r v u)
  (h : ∀ vl s w',Ext w w'→New w s w'→SlG 4 s (OpG s) vl (Z6 u n q).1→K (.tuple #[vl,.int .i64 (Z6 u n q).2]) w') : zd Tryz.prog Tryz.x7 #[v,.int .i64 n,.int .i64 q] w K:=by
 refine Tryz.X0 ?_
 unfold Tryz.Zg
 have hu0:=hu
 obtain ⟨p0,cap0,vf,rfl,_,_,hst,hsl,hfn⟩:=hu
 obtain ⟨qf,capf,rfl,_,_⟩:=hfn.sl.shape
 have S:=St.start hr
 refine S.box fun b3 w1 S=>?_
 have S : StX noX w r w1 [.cell b3 [.slice p0 u.ss.length cap0,.slice qf u.fs.length capf,.int .i64 u.mn] 25]:=S
 refine S.ldB (b:=b3) ?_ rfl
 refine kt S.holds hu0 fun c p w3 e3 hp hpi=>?_
 have S:=S.go e3
 obtain ⟨z1,z2,z3,z4,z5,t1,t2,t3,t4,t5,rfl,hp0⟩:=yV hp
 refine gS_ ?_
 refine S.al fun b8 w4 S=>?_
 refine S.stB (b:=b8) fun w5 S=>?_
 refine gp_ ?_
 refine zg (fun hne=>?_) (fun heq=>?_)
 ·have hG : Z6 u n q=([],ptE u n q):=by rw [Z6,if_pos hne]
  rw [hG] at h
  exact h _ nothing _ S.ext New.nothing SlG.nil
 have h0 : ptE u n q=0:=by omega
 have hpn:=hpi h0
 have hG : Z6 u n q=(opersG p,0):=by rw [Z6,if_neg (by omega),hpn]
 rw [hG] at h
 rw [h0]
 obtain ⟨hM,g,hgm,hgi,hpm,hpg,hH⟩:=aeD h0 hpn
 have harg:=aa4 hM hpg
 have hsh : ∀ o ∈ opersG p,o.pl.ps.length≤8:=fun o ho=>acb (Vu hpg o ho)
 have hfw : (opersG p).length≤1002:=by
  have:=List.length_filter_le zX (p.a::p.b::p.args)
  show ((p.a::p.b::p.args).filter zX).length≤1002
  simp only [List.length_cons] at this
  omega
 refine S.ldB (b:=b8) ?_ rfl
 refine QR S.holds hp0 harg fun b cap c w6 S6 hc hcap hrow=>?_
 have S : StX noX w r w6 [.cell b c 41]:=S.whole S6 fun _ h=>h.elim
 clear S6
 generalize opersG p=l at h hsh hfw hcap hrow ⊢
 refine gp_ ?_
 refine zk (ι:=Nat × Gh × List Value) (fun i=>[.int .i64 (i.1 : Nat)]) (fun i w'=>i.1≤l.length∧i.2.2.length=cap*4∧Above w i.2.1∧RowOf 4 (OpG i.2.1) (i.2.2.take (i.1*4)) (l.take i.1)∧
  (∀ (m : Nat) (hm : m<l.length),i.1≤m→OpG r (kF i.2.2 m) l[m])∧StX noX w (r.or i.2.1) w' [.cell b i.2.2 41]) (fun i=>l.length - i.1) (0,nothing,c) rfl ⟨Nat.zero_le _,hc,Above.no,by simpa using RowOf.nil,fun m hm _=>by
   have:=hrow.2 m hm
   rw [List.drop_take,List.take_take,Nat.min_eq_left (by omega)] at this
   exact this,S.to _⟩ ?_
 clear S hrow hc
 rintro ⟨i,s,c1⟩ d w7 ⟨hi,hc1,hab,hr1,hrest,S⟩ K6 hK6
 simp only at hi hc1 hab hr1 hrest S ⊢
 rw [List.getD_cons_zero]
 refine gp_ ?_
 refine zg (fun hlt=>?_) (fun hge=>?_)
 ·have hlt : i<l.length:=by omega
  have hri:=hrest i hlt (Nat.le_refl _)
  refine s_c (by omega) ?_
  rw [show 0+((i : Nat) : Int).toNat*4=i*4 by omega]
  refine S.ldN (b:=b) (vs:=kF c1 i) ?_ rfl (y5 hri)
  refine XE S.holds (OpG.up hri) (by have:=hsh _ (List.getElem_mem hlt);omega) fun c' sn w8 e8 n8 h8=>?_
  obtain ⟨S,d8,a8⟩:=S.tell e8 n8
  have S:=S.reGh
  refine s_c (by omega) ?_
  rw [show 0+((i : Nat) : Int).toNat*4=i*4 by omega]
  refine S.stN (b:=b) (cs:=c'.toArray) (fun w9 S=>?_) (by omega) (by simpa using y5 h8) (by simpa using XY h8)
  have S : StX noX w (r.or (s.or sn)) w9 [.cell b (c1.take (i*4)++c'++c1.drop (i*4+4)) 41]:=S
  refine gp_ ?_
  rw [show ((i : Int)+1)=((i+1 : Nat) : Int) by omega]
  refine hK6 (i+1,s.or sn,c1.take (i*4)++c'++c1.drop (i*4+4)) _ ⟨hlt,?_,hab.or' a8,?_,fun m hm hkm=>?_,S⟩ (by show l.length - (i+1)<l.length - i;omega)
  ·show (c1.take (i*4)++c'++c1.drop (i*4+4)).length=cap*4
   rw [List.length_append,List.length_append,List.length_take,List.length_drop,y5 h8];omega
  ·show RowOf 4 (OpG (s.or sn)) ((c1.take (i*4)++c'++c1.drop (i*4+4)).take ((i+1)*4)) (l.take (i+1))
   rw [abJ (by omega) (y5 h8),List.take_succ_eq_append_getElem hlt]
   exact (hr1.mono fun c x hx=>OpG.up hx).snoc (y5 h8) (OpG.up h8)
  ·show OpG r (kF (c1.take (i*4)++c'++c1.drop (i*4+4)) m) l[m]
   have hkm : i+1≤m:=hkm
   rw [abI (by omega) (y5 h8) (by omega)]
   exact hrest m hm (by omega)
 have hie : i=l.length:=by omega
 subst hie
 rw [List.take_length] at hr1
 have hmine:=S.mine _ (List.mem_cons_self ..) b rfl
 obtain ⟨S,hs2⟩:=StX.cutSl (cap:=cap) S hr1 (by decide) hcap
 have S:=S.reGh
 have hab2 : Above w (Go.Sh.one b c1 41):=fun b' o ho=>by rw [ho.1];exact hmine.1.resolve_right id
 exact h _ (s.or (Go.Sh.one b c1 41)) _ S.ext (S.newOf (hab.or' hab2)) (hs2.up' inferInstance fun c x hx=>OpG.up hx)
end Go.Proofs
end
section
namespace Go.Proofs
open Go.Sh
set_option maxRecDepth 100000
set_option linter.unusedSimpArgs false
set_option linter.unusedVariables false
theorem Jy {α : Type} {sz b : Nat} {R : List Value→α→Prop} {xs : List Value} {e : TypeId} {l : List α} {w : World} (h : RowOf sz R xs l) (hz : 0<sz) (B : Blk w b xs e) : SlG sz (Go.Sh.one b xs e) R (.slice (some ⟨b,0,none⟩) l.length l.length) l:=
 h.sl (by simp) (Nat.le_refl _) (fun w k=>Sl.blk (yy w k)) hz ⟨w,yc B⟩
def V7 (p : PtD) : List Int:=if p.op=14 then [] else if p.op=12∧p.nx≠p.el then [p.nx,p.el] else [p.nx]
noncomputable def ZS (u : UnD) (n q : Int) : List Int:=if ptE u n q=0 then (match qr u n q with|some p=>V7 p|none=>[]) else []
theorem aa5 {u : UnD} {n q : Int} {v : Value} {w : World} {r : Gh} {K : Value→World→Prop} (hr : Holds r w) (hu : UnG r v u)
  (h : ∀ v' s w',Ext w w'→New w s w'→SlG 1 s JY v' (ZS u n q)→K (.tuple #[v',.int .i64 (ptE u n q)]) w') : zd Tryz.prog Tryz.vZ #[v,.int .i64 n,.int .i64 q] w K:=by
 refine Tryz.VP ?_
 unfold Tryz.Xv
 have hu0:=hu
 obtain ⟨p0,cap0,vf,rfl,_,_,hst,hsl,hfn⟩:=hu
 obtain ⟨qf,capf,rfl,_,_⟩:=hfn.sl.shape
 have S:=St.start hr
 refine S.box fun b3 w1 S=>?_
 have S : StX noX w r w1 [.cell b3 [.slice p0 u.ss.length cap0,.slice qf u.fs.length capf,.int .i64 u.mn] 25]:=S
 refine S.ldB (b:=b3) ?_ rfl
 refine kt S.holds hu0 fun c p w2 e2 hp hpt=>?_
 have S:=S.go e2
 obtain ⟨z1,z2,z3,z4,z5,t1,t2,t3,t4,t5,rfl,hp0⟩:=yV hp
 have hN : ptE u n q=0→ZS u n q=V7 p:=fun h0=>by rw [ZS,if_pos h0,hpt h0]
 have hN0 : ptE u n q≠0→ZS u n q = []:=fun h0=>by rw [ZS,if_neg h0]
 refine gS_ ?_
 refine S.al fun b8 w3 S=>?_
 refine S.stB (b:=b8) fun w4 S=>?_
 have S : StX noX w r w4 [.cell b8 (ptL p z1 z2 z3 z4 z5 t1 t2 t3 t4 t5) 44,.cell b3 [.slice p0 u.ss.length cap0,.slice qf u.fs.length capf,.int .i64 u.mn] 25]:=S
 refine gp_ ?_
 refine zh (c:=decide (p.op=14)) (fun _ K2 hK2=>by refine gg_ ?_;exact hK2) ?_
 refine c_b (fun hb=>?_) (fun hb=>?_)
 ·have hE : ZS u n q = []:=by
   by_cases h0 : ptE u n q=0
   ·rw [hN h0,V7,if_pos (by simpa [h0] using hb)]
   ·exact hN0 h0
  rw [hE] at h
  exact h _ nothing _ S.ext New.nothing SlG.nil
 simp only [Bool.or_eq_false_iff,decide_eq_false_iff_not] at hb
 have h0 : ptE u n q=0:=Decidable.not_not.1 hb.1
 have hE:=hN h0
 rw [V7,if_neg hb.2] at hE
 refine gg_ ?_
 refine zi (c:=decide (p.nx≠p.el)) (fun _ K2 hK2=>by refine gg_ ?_;exact hK2) ?_
 refine c_b (fun hc=>?_) (fun hc=>?_)
 ·simp only [Bool.and_eq_true,decide_eq_true_eq] at hc
  rw [if_pos hc] at hE
  rw [hE] at h
  refine gg_ ?_
  refine S.lit (e:=3) (cs:=[.int .i64 p.nx,.int .i64 p.el]) (by kernel_rfl) fun b9 w9 S=>?_
  obtain ⟨S,hs,ha⟩:=S.litNew b9 (sz:=1) (R:=JY) (l:=[p.nx,p.el]) (vN (c:=[.int .i64 p.nx]) rfl rfl (ja rfl rfl)) (by decide)
  exact h _ _ _ S.ext (S.newOf ha) hs
 ·simp only [Bool.and_eq_false_iff,decide_eq_false_iff_not] at hc
  rw [if_neg (by rintro ⟨h1,h2⟩;rcases hc with hc|hc<;>contradiction)] at hE
  rw [hE] at h
  refine gg_ ?_
  refine S.lit (e:=3) (cs:=[.int .i64 p.nx]) (by kernel_rfl) fun b9 w9 S=>?_
  obtain ⟨S,hs,ha⟩:=S.litNew b9 (sz:=1) (R:=JY) (l:=[p.nx]) (ja rfl rfl) (by decide)
  exact h _ _ _ S.ext (S.newOf ha) hs
def exA (k : Int) : PtD:=⟨1,yS,⟨k,7,yS⟩,XW,[],ByteArray.empty,yS,false,0,0,1,0,0⟩
def exB : PtD:=⟨14,yS,XW,XW,[],ByteArray.empty,yS,false,0,0,0,0,0⟩
def exG (k : Int) : GrD:=⟨⟨#[109,97,105,110]⟩,0,[],0,[aaN],[⟨#[]⟩],[exA k,exB]⟩
def exU (k : Int) : UnD:=⟨[],[exG k],0⟩
theorem abK (k : Int) : yi (exU k) 0 (exG k)=true:=by
 have h1 : yZ (exU k) (exG k) 0 (exG k).tys=true:=by
  show ((xU [] aaN&&_)&&true)=true
  rw [ab7]
  kernel_rfl
 unfold yi
 rw [h1]
 show (_ : Bool)=true
 kernel_rfl
theorem agc (k : Int) : zC (exU k) (exG k) exB=true:=by
 have e : zG exB {} = true:=by
  rw [zG,qH,show exB.sign=ByteArray.empty from rfl,Jr];kernel_rfl
 have : zC (exU k) (exG k) exB=zG exB {}:=by kernel_rfl
 rw [this,e]
theorem afT : zC (exU 1) (exG 1) (exA 1)=true:=by
 have e : zG (exA 1) { to:=true,a:=true } = true:=by
  rw [zG,qH,show (exA 1).sign=ByteArray.empty from rfl,Jr];kernel_rfl
 have : zC (exU 1) (exG 1) (exA 1)=(((zG (exA 1) { to:=true,a:=true } && true)&&true)&&true):=by kernel_rfl
 rw [this,e];rfl
theorem afU : zC (exU 2) (exG 2) (exA 2)=false:=by
 have : zC (exU 2) (exG 2) (exA 2)=(((zG (exA 2) { to:=true,a:=true } && true)&&true)&&false):=by kernel_rfl
 rw [this,Bool.and_false]
theorem Jz : MayU (exU 1):=by
 refine ⟨by show (zS []).2=0;rw [hst],by decide,by decide,by decide,by decide,fun i hi=>?_,fun g hg=>?_⟩
 ·have : i=0:=by have : (exU 1).fs.length=1:=rfl;omega
  subst this
  exact abK 1
 ·rw [List.mem_singleton.1 hg]
  intro p hp
  have hp : p ∈ [exA 1,exB]:=hp
  simp only [List.mem_cons,List.not_mem_nil,or_false] at hp
  rcases hp with rfl|rfl
  ·exact afT
  ·exact agc 1
theorem Vv : kr (exU 2)=(0,0,100):=by
 have h1 : kS (exU 2) 0 (exU 2).fs=none:=by
  show (if yi (exU 2) 0 (exG 2) then none else some 0)=none
  rw [abK];rfl
 have h2 : jI (exU 2) 0 (exU 2).fs=some (0,0):=by
  show (match (if zC (exU 2) (exG 2) (exA 2) then jR (exU 2) (exG 2) 1 [exB] else some 0) with|some q=>some (0,q)|none=>jI (exU 2) 1 [])=some (0,0)
  rw [afU];rfl
 have h3 : (zS (exU 2).ss).2=0:=by show (zS []).2=0;rw [hst]
 unfold kr
 rw [if_neg (by rw [h3];decide),h1,h2]
 rfl
theorem afV : qM (exU 2)=false:=by
 rw [qM,Vv];rfl
theorem jT : ptE (exU 1) 0 0=0∧qr (exU 1) 0 0=some (exA 1):=by
 have hf : fnE (exU 1) 0=0:=by
  rw [fnE,kh.2 Jz];rfl
 refine ⟨?_,rfl⟩
 rw [ptE,if_pos ⟨hf,by decide,by decide⟩]
theorem aeE : Jv (exU 1) 0 0 = [95,48,32,61,32,55]:=by
 rw [Jv,if_pos jT.1,jT.2]
 have h0 : Lib.itoa 0 = [48]:=by rw [Lib.itoa,if_neg (by decide),Lib.decDigits];rfl
 have h7 : Lib.itoa 7 = [55]:=by rw [Lib.itoa,if_neg (by decide),Lib.decDigits];rfl
 show ptT (exA 1) 0=_
 have hp : plT yS = [95,48]:=by show [95]++Lib.itoa 0 ++ []=_;rw [h0];rfl
 show (plT yS ++ [32,61,32])++Lib.itoa 7 ++ [] ++ []=_
 rw [hp,h7];rfl
theorem aeF : ZS (exU 1) 0 0 = [1]:=by
 rw [ZS,if_pos jT.1,jT.2];rfl
theorem ac7 : Z6 (exU 1) 0 0=([⟨1,7,yS⟩],0):=by
 rw [Z6,if_neg (by rw [jT.1];decide),jT.2];rfl
theorem afl : XF (exU 1) 0 0=some yS:=by
 rw [XF,if_neg (by rw [jT.1];decide),jT.2];rfl
theorem yx {x : Int} (h : 0≤x∧x≤1000) : yD x:=⟨by omega,by omega⟩
theorem afm : afd (exU 1):=by
 intro g hg
 rw [List.mem_singleton.1 hg]
 have z : yS.fit:=⟨yx (by decide),by decide,by intro k hk;cases hk⟩
 have zo : XW.fit:=⟨yx (by decide),z⟩
 refine ⟨by decide,fun p hp=>?_⟩
 have hp : p ∈ [exA 1,exB]:=hp
 simp only [List.mem_cons,List.not_mem_nil,or_false] at hp
 rcases hp with rfl|rfl
 ·exact ⟨by decide,by decide,z,⟨yx (by decide),z⟩,zo,⟨by decide,by intro o ho;cases ho⟩,by decide,z,yx (by decide),yx (by decide),yx (by decide),yx (by decide)⟩
 ·exact ⟨by decide,by decide,z,zo,zo,⟨by decide,by intro o ho;cases ho⟩,by decide,z,yx (by decide),yx (by decide),yx (by decide),yx (by decide)⟩
end Go.Proofs
end
section
namespace Go.Proofs
open Go.Sh
set_option maxRecDepth 100000
set_option linter.unusedSimpArgs false
set_option linter.unusedVariables false
theorem aa6 {α : Type} {sz : Nat} {r : Gh} {R : List Value→α→Prop} {l : List α} {p : Option Addr} {n cap : Nat} (h : SlG sz r R (.slice p n cap) l) {i : Nat} (hi : i<l.length) : ∃ c,c.length=sz∧CellsAt r p (i*sz) c∧R c l[i]:=by
 obtain ⟨p',cap',h1,h2,h3,h4⟩:=h
 cases h1
 exact h4 i hi
theorem JA {α : Type} {D : α→Dat} {sz : Nat} {r : Gh} {R : List Value→α→Prop} {l : List α} {p : Option Addr} {n cap : Nat} (h : SlG sz r R (.slice p n cap) l) (hR : ∀ c x,R c x→Rep r (D x) c) : RepS r sz p 0 (l.map D):=by
 refine RepS.of fun i d hi=>?_
 rw [List.getElem?_map] at hi
 cases hx : l[i]? with
 |none=>rw [hx] at hi;cases hi
 |some x=>
  rw [hx] at hi
  obtain ⟨hil,rfl⟩:=List.getElem?_eq_some_iff.1 hx
  cases hi
  obtain ⟨c,h1,h2,h3⟩:=aa6 h hil
  exact ⟨c,h1,by rw [Nat.zero_add];exact h2,hR _ _ h3⟩
theorem Vw {α : Type} {sz : Nat} {r : Gh} {R : List Value→α→Prop} {l : List α} {p : Option Addr} {n cap : Nat} (h : SlG sz r R (.slice p n cap) l) (hz : 0<sz) (h1 : ∀ c x,R c x→∀ u ∈ c,u.oneCell'=true) :
  ∃ xs,RowOf sz R xs l∧(∀ u ∈ xs,u.oneCell'=true)∧Ob r fun w=>Sl w p xs:=by
 suffices H : ∀ k,k≤l.length→∃ xs,RowOf sz R xs (l.take k)∧(∀ u ∈ xs,u.oneCell'=true)∧CellsAt r p 0 xs by
  obtain ⟨xs,a,b,c⟩:=H l.length (Nat.le_refl _)
  rw [List.take_length] at a
  refine ⟨xs,a,b,fun w hw j v hj=>?_⟩
  obtain ⟨b,off,e1,e2⟩:=c j v hj
  exact ⟨b,off,e1,e2 w hw⟩
 intro k
 induction k with
 |zero=>exact fun _=>⟨[],by simpa using RowOf.nil,by simp,fun j v hj=>by simp at hj⟩
 |succ k ih=>
  intro hk
  obtain ⟨xs,a,b,c⟩:=ih (by omega)
  obtain ⟨d,e1,e2,e3⟩:=aa6 h (i:=k) (by omega)
  refine ⟨xs++d,?_,fun u hu=>?_,fun j v hj=>?_⟩
  ·rw [List.take_succ_eq_append_getElem (by omega)]
   exact a.snoc e1 e3
  ·rcases List.mem_append.1 hu with hu|hu
   ·exact b u hu
   ·exact h1 _ _ e3 u hu
  ·have hx : xs.length=k*sz:=by rw [a.1,List.length_take,Nat.min_eq_left (by omega)]
   rcases Nat.lt_or_ge j xs.length with hj'|hj'
   ·rw [List.getElem?_append_left hj'] at hj
    exact c j v hj
   ·rw [List.getElem?_append_right hj'] at hj
    obtain ⟨b,off,f1,f2⟩:=e2 _ v hj
    refine ⟨b,off,f1,?_⟩
    rw [show off+0+j=off+k*sz+(j - xs.length) by omega]
    exact f2
theorem StX.join {X : Nat→Prop} {w0 w w' : World} {r s : Gh} {L M : List Asr} (S : StX X w0 r w L) (T : StX noX w s w' M) (n : Above w s) : StX X w0 (r.or s) w' (M++L):=by
 have S':=S.go T.x.ext
 refine ⟨S'.x,S'.holds.or T.holds,fun x hx=>?_,fun x hx k hk=>?_,?_⟩
 ·rcases List.mem_append.1 hx with hx|hx
  ·exact T.has x hx
  ·exact S'.has x hx
 ·rcases List.mem_append.1 hx with hx|hx
  ·obtain ⟨h1,h2⟩:=T.mine x hx k hk
   have h1:=h1.resolve_right id
   refine ⟨.inl (Nat.le_trans S.x.size h1),fun o ho=>ho.elim (fun h=>?_) (h2 o)⟩
   have:=S.holds.lt h;omega
  ·refine ⟨(S.mine x hx k hk).1,fun o ho=>ho.elim ((S.mine x hx k hk).2 o) fun h=>?_⟩
   have:=n k o h
   have:=Asr.lt (S.has x hx) hk;omega
 ·refine List.pairwise_append.2 ⟨T.apart,S.apart,fun x hx y hy k hk hk'=>?_⟩
  have h1:=(T.mine x hx k hk).1.resolve_right id
  have:=Asr.lt (S.has y hy) hk';omega
theorem afn {r w} {l : List Int} {p : Option Addr} {n cap : Nat} (hr : Holds r w) (h : SlB 1 r qm (.slice p n cap) l) : ∀ x ∈ l,yD x:=fun x hx=>by
 obtain ⟨i,hi,rfl⟩:=List.getElem_of_mem hx
 obtain ⟨_,_,_,_,_,hc,_⟩:=h.sl.get (by decide) hi
 exact hc.2
theorem qP {p : PlD} {c : List Value} {w : World} {r : Gh} {K : Value→World→Prop} (hr : Holds r w) (hp : PlG r c p) (hb : p.ps.length≤1000000)
  (h : ∀ c' s w',Ext w w'→New w s w'→PlG s c' p→K (.agg c'.toArray) w') : zd Tryz.prog Tryz.xe #[.agg c.toArray] w K:=by
 refine Tryz.X8 ?_
 unfold Tryz.Zn
 obtain ⟨v,rfl,hl⟩:=hp
 obtain ⟨qs,caps,rfl,hpn,_⟩:=hl.sl.shape
 have hin:=afn hr hl
 have S:=St.start hr
 refine S.box fun b1 w1 S=>?_
 have S : StX noX w r w1 [.cell b1 [.int .i64 p.l,.slice qs p.ps.length caps] 38]:=S
 refine S.al fun b2 w2 S=>?_
 refine gg_ ?_
 refine S.al fun b3 w3 S=>?_
 refine S.stB (b:=b3) fun w4 S=>?_
 have S : StX noX w r w4 [.cell b3 [.int .i64 p.l,.slice none 0 0] 38,.cell b2 [.int .i64 0,.slice none 0 0] 38,.cell b1 [.int .i64 p.l,.slice qs p.ps.length caps] 38]:=S
 have S:=S.ownNil 138 1
 refine gg_ ?_
 refine S.ap (v:=.slice none 0 0) (S.at (aaX hl)) (fun v2 w5 S=>?_) (by omega) (by rw [ke];omega) hpn (Ve _)
 obtain ⟨s,T,hs,_,ha⟩:=S.doneRow (l:=p.ps) (R:=qm) (sz:=1) (by rw [List.nil_append];exact Vt hin) (by decide) (by omega)
 obtain ⟨q2,c2,rfl,_⟩:=hs.shape
 have S:=T
 refine gg_ ?_
 refine S.st (b:=b3) fun w6 S=>?_
 refine S.ldB (b:=b3) ?_ rfl
 refine S.stB (b:=b2) fun w7 S=>?_
 refine S.ceB (b:=b2) ?_ rfl
 exact h _ s _ S.ext (S.newOf fun b o ho=>(ha b o ho).resolve_right id) ⟨_,rfl,hs,by simp only [maxLen];omega⟩
theorem kU {o : OpD} {c : List Value} {w : World} {r : Gh} {K : Value→World→Prop} (hr : Holds r w) (ho : OpG r c o) (hb : o.pl.ps.length≤1000000)
  (h : ∀ c' s w',Ext w w'→New w s w'→OpG s c' o→K (.agg c'.toArray) w') : zd Tryz.prog Tryz.yR #[.agg c.toArray] w K:=by
 refine Tryz.Y4 ?_
 unfold Tryz.j9
 obtain ⟨v,rfl,hl⟩:=ho
 obtain ⟨qs,caps,rfl,_,_⟩:=hl.sl.shape
 have S:=St.start hr
 refine S.box fun b1 w1 S=>?_
 have S : StX noX w r w1 [.cell b1 [.int .u8 o.k,.int .i64 o.n,.int .i64 o.pl.l,.slice qs o.pl.ps.length caps] 41]:=S
 refine S.al fun b2 w2 S=>?_
 refine gg_ ?_
 refine S.ldN (b:=b1) ?_
 refine qP (p:=o.pl) S.holds ⟨_,rfl,hl⟩ hb fun c3 s w3 e3 n3 h3=>?_
 obtain ⟨S,d3,a3⟩:=S.tell e3 n3
 obtain ⟨v3,rfl,hl3⟩:=h3
 obtain ⟨q3,k3,rfl,_,_⟩:=hl3.sl.shape
 refine gg_ ?_
 refine S.stN (b:=b1) fun w4 S=>?_
 refine S.ldB (b:=b1) ?_ rfl
 refine S.stB (b:=b2) fun w5 S=>?_
 refine S.ceB (b:=b2) ?_ rfl
 exact h _ s _ S.ext (S.newOf a3) ⟨_,rfl,hl3⟩
end Go.Proofs
end
section
namespace Go.Proofs
open Go.Sh
set_option maxRecDepth 100000
set_option linter.unusedSimpArgs false
set_option linter.unusedVariables false
structure agd (s : Int) (g : GrD) : Prop where
 outs : g.outs.length≤1000
 tys : g.tys.length≤1000
 nms : g.nms.length≤1000
 look : ∀ t ∈ g.tys,zM s 48 t=true
 pts : aa2 g
structure afo (u : UnD) : Prop where
 ss : u.ss.length≤1000
 fl : ∀ x ∈ u.ss,x.fs.length≤1000∧∀ f ∈ x.fs,zM u.ss.length 48 f.2=true
 fs : u.fs.length≤1000
 gs : ∀ g ∈ u.fs,agd u.ss.length g
def FlC (s : Gh) (c : List Value) (f : ByteArray × TyD) : Prop:=Rep s (JV f) c
def StC (s : Gh) (c : List Value) (x : StD) : Prop:=Rep s x.dat c
theorem FlC.up {s t : Gh} {c : List Value} {f : ByteArray × TyD} (h : FlC s c f) [l : Le s t] : FlC t c f:=Rep.up' l h
theorem StC.up {s t : Gh} {c : List Value} {f : StD} (h : StC s c f) [l : Le s t] : StC t c f:=Rep.up' l h
theorem afW {s : Gh} {v : Value} {f : ByteArray × TyD} (h : TyG s v f.2) : ∃ a b c d e,v = .agg #[a,b,c,d,e]∧FlC s [.string f.1,a,b,c,d,e] f∧∀ u ∈ [a,b,c,d,e],u.oneCell'=true:=by
 obtain ⟨c,hv,hc,hR⟩:=h.rep
 obtain ⟨p,cap,rfl,_⟩:=h
 have hE:=congrArg (fun v=>match v with|Value.agg x=>x.toList|_=>[]) hv
 simp only at hE
 subst hE
 exact ⟨_,_,_,_,_,rfl,⟨[_],_,rfl,rfl,_,[],rfl,hR,rfl⟩,by simp [Value.oneCell']⟩
theorem afX {s : Gh} {x : StD} {v : Value} (h : SlG 6 s (FlC s) v x.fs) : StC s [.string x.name,v] x:=by
 obtain ⟨p,cap,rfl,h1,h2⟩:=h.shape
 exact ⟨[_],_,rfl,rfl,[_],[],rfl,⟨p,cap,by rw [List.length_map],h1,by rw [List.length_map];exact h2,JA h fun _ _ h=>h⟩,rfl⟩
theorem aeG {r : Gh} {p : Option Addr} {ss : List StD} (h : StG r p ss) {i : Nat} (hi : i<ss.length) {b off : Nat} (hp : p=some ⟨b,off,none⟩) : Ob r fun w=>w.cell? ⟨b,off+i*2,none⟩=some (.string ss[i].name):=by
 subst hp
 obtain ⟨c,h1,h2,h3⟩:=RepS.get h (i:=i) (d:=StD.dat ss[i]) (by rw [List.getElem?_map,List.getElem?_eq_getElem hi];rfl)
 obtain ⟨a1,b1,rfl,e1,_⟩:=h3
 obtain rfl : a1=_:=e1
 rw [Nat.zero_add] at h2
 obtain ⟨b',off',hp,ho⟩:=h2 0 (.string ss[i].name) (by rfl)
 cases hp
 exact ho
structure PkG (s : Gh) (c : List Value) (g : GrD) (M : List Asr) : Prop where
 ex : ∃ vo vt vn vp xt xn xp,c = [.string g.name,.int .i64 g.lv,vo,.int .i64 g.pn,vt,vn,vp]∧SlB 2 s QF vo g.outs∧
  M = [.row vp 44 21 g.pts.length xp,.row vt 57 5 g.tys.length xt,.row vn 9 1 g.nms.length xn]∧RowOf 5 (TyC s) xt g.tys∧RowOf 1 Z2 xn g.nms∧RowOf 21 (PtG s) xp g.pts
def AtG (f : Nat) (s : Gh) (M : List Asr) (c : List Value) (x : GrD × Nat) : Prop:=(x.2=f→PkG s c x.1 M)∧(x.2≠f→GrG s c x.1)
theorem PkG.up {s t : Gh} {c : List Value} {g : GrD} {M : List Asr} (h : PkG s c g M) [l : Le s t] : PkG t c g M:=by
 obtain ⟨vo,vt,vn,vp,xt,xn,xp,h0,h1,h2,h3,h4,h5⟩:=h
 exact ⟨vo,vt,vn,vp,xt,xn,xp,h0,h1.cells,h2,h3.mono fun _ _ h=>TyG.up h,h4,h5.mono fun _ _ h=>PtG.up h⟩
theorem AtG.up {f : Nat} {s t : Gh} {c : List Value} {x : GrD × Nat} {M : List Asr} (h : AtG f s M c x) [l : Le s t] : AtG f t M c x:=⟨fun e=>(h.1 e).up,fun e=>GrG.up (h.2 e)⟩
theorem ac8 {f i : Nat} {s t : Gh} {fs : List GrD} {xf : List Value} {M N : List Asr} (h : RowOf 7 (AtG f s M) xf (fs.zipIdx.take i)) (hi : i≤f) [l : Le s t] : RowOf 7 (AtG f t N) xf (fs.zipIdx.take i):=by
 refine ⟨h.1,fun j hj=>?_⟩
 have h2:=h.2 j hj
 have hx : ((fs.zipIdx.take i)[j]).2≠f:=by
  have : j<i:=by rw [List.length_take] at hj;omega
  simp;omega
 exact ⟨fun e=>absurd e hx,fun e=>GrG.up (h2.2 e)⟩
set_option maxHeartbeats 4000000 in
theorem abv {u : UnD} {f : Nat} {v : Value} {w : World} {r : Gh} {K : Value→World→Prop} (hr : Holds r w) (hu : UnG r v u) (hO : afo u) (hf : f<u.fs.length)
  (h : ∀ p cap vf xf s M w',St w s w' (.row vf 33 7 u.fs.length xf::M)→Above w s→StG s p u.ss→(p=none→cap=0)→u.ss.length≤cap→RowOf 7 (AtG f s M) xf u.fs.zipIdx→
   K (.agg #[.slice p u.ss.length cap,vf,.int .i64 u.mn]) w') : zd Tryz.prog Tryz.ZW #[v] w K:=by
 refine Tryz.aaL ?_
 unfold Tryz.Qq
 obtain ⟨p0,cap0,vf,rfl,hp0,hc0,hst,hsl,hfn⟩:=hu
 obtain ⟨qf,capf,rfl,_,_⟩:=hfn.sl.shape
 have hss:=hO.ss
 have hfs:=hO.fs
 have S:=St.start hr
 refine S.box fun b1 w1 S=>?_
 have S : StX noX w r w1 [.cell b1 [.slice p0 u.ss.length cap0,.slice qf u.fs.length capf,.int .i64 u.mn] 25]:=S
 refine S.al fun b2 w2 S=>?_
 refine gg_ ?_
 refine S.al fun b3 w3 S=>?_
 refine S.stB (b:=b3) fun w4 S=>?_
 have S : StX noX w r w4 [.cell b3 [.slice none 0 0,.slice none 0 0,.int .i64 u.mn] 25,.cell b2 [.slice none 0 0,.slice none 0 0,.int .i64 0] 25,.cell b1 [.slice p0 u.ss.length cap0,.slice qf u.fs.length capf,.int .i64 u.mn] 25]:=S
 have S:=S.ownNil 84 2
 refine zk (ι:=Nat × Value × Gh × List Value) (fun i=>[.int .i64 (i.1 : Nat)])
  (fun i w'=>i.1≤u.ss.length∧Above w i.2.2.1∧RowOf 2 (StC i.2.2.1) i.2.2.2 (u.ss.take i.1)∧
   StX noX w (r.or i.2.2.1) w' [.row i.2.1 84 2 i.1 i.2.2.2,.cell b3 [i.2.1,.slice none 0 0,.int .i64 u.mn] 25,.cell b2 [.slice none 0 0,.slice none 0 0,.int .i64 0] 25,.cell b1 [.slice p0 u.ss.length cap0,.slice qf u.fs.length capf,.int .i64 u.mn] 25])
  (fun i=>u.ss.length - i.1) (0,.slice none 0 0,nothing,[]) rfl ⟨Nat.zero_le _,Above.no,by simpa using RowOf.nil,S.to _⟩ ?_
 repeat clear S
 rintro ⟨i,v1,s1,x1⟩ d w5 ⟨hi,ha1,hR1,S⟩ K5 hK5
 simp only at hi ha1 hR1 S ⊢
 rw [List.getD_cons_zero]
 refine gg_ ?_
 refine zg (fun hlt=>?_) (fun hge=>?_)
 ·have hlt : i<u.ss.length:=by omega
  obtain ⟨b,off,q,capq,rfl,hcell,_,hqc,hfl⟩:=vL hst hlt
  have hname:=aeG hst hlt rfl
  obtain ⟨hfl8,hlook⟩:=hO.fl _ (List.getElem_mem hlt)
  refine gg_ ?_
  refine zE (by rw [Int.toNat_natCast];exact S.at hname) ?_
  refine gg_ ?_
  refine S.al fun b5 w6 S=>?_
  refine S.stB (b:=b5) fun w7 S=>?_
  have S : StX noX w (r.or s1) w7 [.cell b5 [.string u.ss[i].name,.slice none 0 0] 84,.row v1 84 2 i x1,.cell b3 [v1,.slice none 0 0,.int .i64 u.mn] 25,.cell b2 [.slice none 0 0,.slice none 0 0,.int .i64 0] 25,.cell b1 [.slice (some ⟨b,off,none⟩) u.ss.length cap0,.slice qf u.fs.length capf,.int .i64 u.mn] 25]:=S
  have S:=S.ownNil 86 6
  refine zk (ι:=Nat × Value × Gh × List Value) (fun k=>[.int .i64 (k.1 : Nat)])
   (fun k w'=>k.1≤u.ss[i].fs.length∧Above w k.2.2.1∧RowOf 6 (FlC k.2.2.1) k.2.2.2 (u.ss[i].fs.take k.1)∧
    StX noX w ((r.or s1).or k.2.2.1) w' [.row k.2.1 86 6 k.1 k.2.2.2,.cell b5 [.string u.ss[i].name,k.2.1] 84,.row v1 84 2 i x1,.cell b3 [v1,.slice none 0 0,.int .i64 u.mn] 25,.cell b2 [.slice none 0 0,.slice none 0 0,.int .i64 0] 25,.cell b1 [.slice (some ⟨b,off,none⟩) u.ss.length cap0,.slice qf u.fs.length capf,.int .i64 u.mn] 25])
   (fun k=>u.ss[i].fs.length - k.1) (0,.slice none 0 0,nothing,[]) rfl ⟨Nat.zero_le _,Above.no,by simpa using RowOf.nil,S.to _⟩ ?_
  repeat clear S
  rintro ⟨k,v2,s2,x2⟩ d w8 ⟨hk,ha2,hR2,S⟩ K11 hK11
  simp only at hk ha2 hR2 S ⊢
  rw [List.getD_cons_zero]
  refine gg_ ?_
  refine zE (by rw [Int.toNat_natCast];exact S.at hcell) ?_
  refine gg_ ?_
  refine zg (fun hlt2=>?_) (fun hge2=>?_)
  ·have hlt2 : k<u.ss[i].fs.length:=by omega
   obtain ⟨b',off',c,rfl,hc5,hcl,hty⟩:=YD hfl hlt2
   obtain ⟨q9,k9,hE,_⟩:=id hty
   have hE:=congrArg (fun v=>match v with|Value.agg x=>x.toList|_=>[]) hE
   simp only at hE
   subst hE
   refine gg_ ?_
   refine zE (by rw [Int.toNat_natCast];exact S.at hcell) ?_
   refine gg_ ?_
   refine zs (n:=6) rfl (fun j v hj=>by rw [Int.toNat_natCast];exact S.at (hcl j v hj)) ?_
   refine S.al fun b7 w9 S=>?_
   refine S.stB (b:=b7) fun w10 S=>?_
   refine gg_ ?_
   refine S.ldN (b:=b7) ?_
   refine Qn 48 (by decide) (hlook _ (List.getElem_mem hlt2)) S.holds (TyG.up hty) fun v' sn w11 e11 n11 h11=>?_
   obtain ⟨S,_,a11⟩:=S.tell e11 n11
   obtain ⟨d1,d2,d3,d4,d5,rfl,hfc,h1⟩:=afW h11
   refine gg_ ?_
   refine S.stN (b:=b7) (fun w12 S=>?_) (h1:=h1)
   refine gg_ ?_
   refine S.lit (e:=86) (cs:=[.string u.ss[i].fs[k].1,d1,d2,d3,d4,d5]) (by kernel_rfl) fun b9 w13 S=>?_
   refine S.ap (v:=v2) (m':=1) (Sl.blk (S.blk b9)) (fun v4 w14 S=>?_) (by omega) (h1:=List.forall_mem_cons.2 ⟨rfl,h1⟩)
   refine gg_ ?_
   refine S.st (b:=b5) (fun w15 S=>?_) (h1:=S.row1 v4)
   refine gg_ ?_
   refine hK11 (k+1,v4,s2.or sn,x2 ++ [.string u.ss[i].fs[k].1,d1,d2,d3,d4,d5]) _ ⟨hlt2,ha2.or' a11,?_,((S.drop b9).drop b7).reGh⟩ (by show u.ss[i].fs.length - (k+1)<u.ss[i].fs.length - k;omega)
   show RowOf 6 (FlC (s2.or sn)) _ (u.ss[i].fs.take (k+1))
   rw [List.take_succ_eq_append_getElem hlt2]
   exact (hR2.mono fun _ _ h=>h.up).snoc rfl hfc.up
  have hke : k=u.ss[i].fs.length:=by omega
  subst hke
  rw [List.take_length] at hR2
  obtain ⟨s3,T,hsl3,_,ha3⟩:=S.doneRow hR2 (by decide) rfl
  obtain ⟨q3,k3,rfl,_,_⟩:=hsl3.shape
  have S:=T
  have hsc : StC (s2.or s3) [.string u.ss[i].name,.slice q3 u.ss[i].fs.length k3] u.ss[i]:=afX (hsl3.up' inferInstance fun _ _ h=>h.up)
  refine gg_ ?_
  refine S.lit (e:=84) (cs:=[.string u.ss[i].name,.slice q3 u.ss[i].fs.length k3]) (by kernel_rfl) fun b9 w13 S=>?_
  refine S.ap (v:=v1) (m':=1) (Sl.blk (S.blk b9)) (fun v4 w14 S=>?_) (by omega)
  refine gg_ ?_
  refine S.st (b:=b3) (fun w15 S=>?_) (h1:=S.row1 v4)
  refine gg_ ?_
  refine hK5 (i+1,v4,s1.or (s2.or s3),x1 ++ [.string u.ss[i].name,.slice q3 u.ss[i].fs.length k3]) _ ⟨hlt,ha1.or' (ha2.or' fun b o ho=>(ha3 b o ho).resolve_right id),?_,((S.drop b9).drop b5).less (fun b o h=>by rcases h with h|h|h|h<;>simp [Gh.or,h]) (List.Sublist.refl _)⟩ (by show u.ss.length - (i+1)<u.ss.length - i;omega)
  show RowOf 2 (StC (s1.or (s2.or s3))) _ (u.ss.take (i+1))
  rw [List.take_succ_eq_append_getElem hlt]
  exact (hR1.mono fun _ _ h=>h.up).snoc rfl hsc.up
 have hie : i=u.ss.length:=by omega
 subst hie
 rw [List.take_length] at hR1
 obtain ⟨s4,T,hsl4,_,ha4⟩:=S.doneRow hR1 (by decide) rfl
 obtain ⟨q4,k4,rfl,hq4,hk4⟩:=hsl4.shape
 have hS4 : StG (s1.or s4) q4 u.ss:=JA (hsl4.up' (s:=s1.or s4) (Q:=StC (s1.or s4)) inferInstance fun _ _ h=>h.up) fun _ _ h=>h
 have ha5 : Above w (s1.or s4):=ha1.or' fun b o ho=>(ha4 b o ho).resolve_right id
 have S:=T.reGh
 clear T hsl4 hR1 hK5 ha1 ha4
 generalize s1.or s4=sS at S hS4 ha5
 have S:=S.ownNil 33 7
 refine zk (ι:=Nat × Value × Gh × List Value × List Asr) (fun i=>[.int .i64 (i.1 : Nat)])
  (fun i w'=>i.1≤u.fs.length∧Above w i.2.2.1∧RowOf 7 (AtG f i.2.2.1 i.2.2.2.2) i.2.2.2.1 (u.fs.zipIdx.take i.1)∧(i.1≤f→i.2.2.2.2 = [])∧
   StX noX w ((r.or sS).or i.2.2.1) w' (.row i.2.1 33 7 i.1 i.2.2.2.1 :: .cell b3 [.slice q4 u.ss.length k4,i.2.1,.int .i64 u.mn] 25 :: .cell b2 [.slice none 0 0,.slice none 0 0,.int .i64 0] 25 :: .cell b1 [.slice p0 u.ss.length cap0,.slice qf u.fs.length capf,.int .i64 u.mn] 25::i.2.2.2.2))
  (fun i=>u.fs.length - i.1) (0,.slice none 0 0,nothing,[],[]) rfl ⟨Nat.zero_le _,Above.no,by simpa using RowOf.nil,fun _=>rfl,S.to _⟩ ?_
 repeat clear S
 rintro ⟨i,vf,s,xf,M⟩ d w6 ⟨hi,ha,hR,hM,S⟩ K25 hK25
 simp only at hi ha hR hM S ⊢
 rw [List.getD_cons_zero]
 refine gg_ ?_
 refine zg (fun hlt=>?_) (fun hge=>?_)
 ·have hlt : i<u.fs.length:=by omega
  obtain ⟨bf,off,c,rfl,hc7,hgr,hcell⟩:=hfn.sl.get (by decide) hlt
  have hOg:=hO.gs _ (List.getElem_mem hlt)
  have hzi : u.fs.zipIdx.take (i+1)=u.fs.zipIdx.take i ++ [(u.fs[i],i)]:=by
   rw [List.take_succ_eq_append_getElem (by simpa using hlt)]
   simp
  generalize u.fs[i]=g at hOg hgr hzi
  obtain ⟨z1,z2,z3,z4,y1,y2,y3,y4,rfl,hg0⟩:=xr hgr
  obtain ⟨hL1,hL2,hL3,hL4,hL5⟩:=hOg
  refine gg_ ?_
  refine zs (n:=7) rfl (fun j v hj=>by rw [Int.toNat_natCast];exact S.at (hcell j v hj)) ?_
  refine S.al fun b9 w7 S=>?_
  refine S.stB (b:=b9) fun w8 S=>?_
  refine gg_ ?_
  refine S.al fun b10 w9 S=>?_
  refine S.stB (b:=b10) fun w10 S=>?_
  obtain ⟨_,_,_,_,hE,k1,k2,k3,k4'⟩:=id hg0
  cases hE
  obtain ⟨xo,ro1,ro2,ro3⟩:=Vw k1.sl (by decide) (fun c x h=>by rw [show c=_ from h];simp [Value.oneCell'])
  obtain ⟨xn,rn1,rn2,rn3⟩:=Vw k3.sl (by decide) (fun c x h=>by rw [show c=_ from h];simp [Value.oneCell'])
  obtain ⟨_,_,hE,ho9,_⟩:=k1.sl.shape
  cases hE
  obtain ⟨_,_,hE,hn9,_⟩:=k3.sl.shape
  cases hE
  have S : StX noX w ((r.or sS).or s) w10 (.cell b10 [.string g.name,.int .i64 g.lv,.slice none 0 0,.int .i64 g.pn,.slice none 0 0,.slice none 0 0,.slice none 0 0] 33 :: .cell b9 (grL g z1 z2 z3 z4 y1 y2 y3 y4) 33 :: .row vf 33 7 i xf :: .cell b3 [.slice q4 u.ss.length k4,vf,.int .i64 u.mn] 25 :: .cell b2 [.slice none 0 0,.slice none 0 0,.int .i64 0] 25 :: .cell b1 [.slice p0 u.ss.length cap0,.slice (some ⟨bf,off,none⟩) u.fs.length capf,.int .i64 u.mn] 25::M):=S
  have S:=S.ownNil 101 2
  refine gg_ ?_
  refine S.ap (v:=.slice none 0 0) (S.at ro3) (fun vo w11 S=>?_) (by omega) ro1.1 ho9 ro2
  rw [Nat.zero_add,List.nil_append] at S
  obtain ⟨so,T,hso,_,hao⟩:=S.doneRow ro1 (by decide) rfl
  obtain ⟨qo,ko,rfl,hqo,hko⟩:=hso.shape
  have S:=T
  clear T
  refine gg_ ?_
  refine S.st (b:=b10) fun w12 S=>?_
  have S:=S.ownNil 9 1
  refine gg_ ?_
  refine S.ap (v:=.slice none 0 0) (S.at rn3) (fun vn w13 S=>?_) (by omega) rn1.1 hn9 rn2
  rw [Nat.zero_add,List.nil_append] at S
  refine gg_ ?_
  refine S.st (b:=b10) (fun w14 S=>?_) (h1:=S.row1 vn)
  have S : StX noX w (((r.or sS).or s).or so) w14 (.row vn 9 1 g.nms.length xn :: .cell b10 [.string g.name,.int .i64 g.lv,.slice qo g.outs.length ko,.int .i64 g.pn,.slice none 0 0,vn,.slice none 0 0] 33 :: .cell b9 (grL g z1 z2 z3 z4 y1 y2 y3 y4) 33 :: .row vf 33 7 i xf :: .cell b3 [.slice q4 u.ss.length k4,vf,.int .i64 u.mn] 25 :: .cell b2 [.slice none 0 0,.slice none 0 0,.int .i64 0] 25 :: .cell b1 [.slice p0 u.ss.length cap0,.slice (some ⟨bf,off,none⟩) u.fs.length capf,.int .i64 u.mn] 25::M):=S
  have S:=S.ownNil 57 5
  refine zk (ι:=Nat × Value × Gh × List Value) (fun k=>[.int .i64 (k.1 : Nat)])
   (fun k w'=>k.1≤g.tys.length∧Above w k.2.2.1∧RowOf 5 (TyC k.2.2.1) k.2.2.2 (g.tys.take k.1)∧
    StX noX w ((((r.or sS).or s).or so).or k.2.2.1) w' (.row k.2.1 57 5 k.1 k.2.2.2 :: .row vn 9 1 g.nms.length xn :: .cell b10 [.string g.name,.int .i64 g.lv,.slice qo g.outs.length ko,.int .i64 g.pn,k.2.1,vn,.slice none 0 0] 33 :: .cell b9 (grL g z1 z2 z3 z4 y1 y2 y3 y4) 33 :: .row vf 33 7 i xf :: .cell b3 [.slice q4 u.ss.length k4,vf,.int .i64 u.mn] 25 :: .cell b2 [.slice none 0 0,.slice none 0 0,.int .i64 0] 25 :: .cell b1 [.slice p0 u.ss.length cap0,.slice (some ⟨bf,off,none⟩) u.fs.length capf,.int .i64 u.mn] 25::M))
   (fun k=>g.tys.length - k.1) (0,.slice none 0 0,nothing,[]) rfl ⟨Nat.zero_le _,Above.no,by simpa using RowOf.nil,S.to _⟩ ?_
  repeat clear S
  rintro ⟨k,vt,s2,x2⟩ d w15 ⟨hk,ha2,hR2,S⟩ K37 hK37
  simp only at hk ha2 hR2 S ⊢
  rw [List.getD_cons_zero]
  refine gg_ ?_
  refine zg (fun hlt2=>?_) (fun hge2=>?_)
  ·have hlt2 : k<g.tys.length:=by omega
   have S:=S.go (Ext.drew _)
   obtain ⟨bt,ot,c,rfl,hc5,hty,hcl⟩:=k2.sl.get (by decide) hlt2
   refine gg_ ?_
   refine zs (n:=5) hc5 (fun j v hj=>by rw [Int.toNat_natCast];exact S.at (hcl j v hj)) ?_
   refine Qn 48 (by decide) (hL4 _ (List.getElem_mem hlt2)) S.holds (TyG.up hty) fun v' sn w16 e16 n16 h16=>⟨e16,?_⟩
   obtain ⟨S,_,a16⟩:=S.tell e16 n16
   obtain ⟨q7,k7,rfl,_⟩:=id h16
   refine S.litU (e:=57) (cs:=[.int .u8 g.tys[k].k,.bool g.tys[k].m,.int .i64 g.tys[k].re,.int .i64 g.tys[k].st,.slice q7 g.tys[k].of.length k7]) (by kernel_rfl) fun b17 w17 S=>?_
   refine S.ap (v:=vt) (m':=1) (Sl.blk (S.blk b17)) (fun v4 w18 S=>?_) (by omega)
   refine gg_ ?_
   refine S.st (b:=b10) (fun w19 S=>?_) (h1:=S.row1 v4)
   refine gg_ ?_
   refine hK37 (k+1,v4,s2.or sn,_) _ ⟨hlt2,ha2.or' a16,?_,(S.drop b17).reGh⟩ (by show g.tys.length - (k+1)<g.tys.length - k;omega)
   show RowOf 5 (TyC (s2.or sn)) _ (g.tys.take (k+1))
   rw [List.take_succ_eq_append_getElem hlt2]
   exact (hR2.mono fun _ _ h=>TyG.up h).snoc rfl (TyG.up h16)
  have hke : k=g.tys.length:=by omega
  subst hke
  rw [List.take_length] at hR2
  clear hK37
  have S:=S.ownNil 44 21
  refine gg_ ?_
  refine zk (ι:=Nat × Value × Gh × List Value) (fun k=>[.int .i64 (k.1 : Nat)])
   (fun k w'=>k.1≤g.pts.length∧Above w k.2.2.1∧RowOf 21 (PtG k.2.2.1) k.2.2.2 (g.pts.take k.1)∧
    StX noX w (((((r.or sS).or s).or so).or s2).or k.2.2.1) w' (.row k.2.1 44 21 k.1 k.2.2.2 :: .row vt 57 5 g.tys.length x2 :: .row vn 9 1 g.nms.length xn :: .cell b10 [.string g.name,.int .i64 g.lv,.slice qo g.outs.length ko,.int .i64 g.pn,vt,vn,k.2.1] 33 :: .cell b9 (grL g z1 z2 z3 z4 y1 y2 y3 y4) 33 :: .row vf 33 7 i xf :: .cell b3 [.slice q4 u.ss.length k4,vf,.int .i64 u.mn] 25 :: .cell b2 [.slice none 0 0,.slice none 0 0,.int .i64 0] 25 :: .cell b1 [.slice p0 u.ss.length cap0,.slice (some ⟨bf,off,none⟩) u.fs.length capf,.int .i64 u.mn] 25::M))
   (fun k=>g.pts.length - k.1) (0,.slice none 0 0,nothing,[]) rfl ⟨Nat.zero_le _,Above.no,by simpa using RowOf.nil,S.to _⟩ ?_
  repeat clear S
  rintro ⟨k,vp,s3,x3⟩ d w20 ⟨hk,ha3,hR3,S⟩ K45 hK45
  simp only at hk ha3 hR3 S ⊢
  rw [List.getD_cons_zero]
  have hp1:=hL5.1
  refine gg_ ?_
  refine zg (fun hlt3=>?_) (fun hge3=>?_)
  ·have hlt3 : k<g.pts.length:=by omega
   obtain ⟨bp,op,c,rfl,hc21,hpt,hcl⟩:=k4'.sl.get (by decide) hlt3
   have hFp:=hL5.2 _ (List.getElem_mem hlt3)
   have hzp : g.pts.take (k+1)=g.pts.take k ++ [g.pts[k]]:=List.take_succ_eq_append_getElem hlt3
   generalize g.pts[k]=p at hpt hFp hzp
   obtain ⟨j1,j2,j3,j4,j5,i1,i2,i3,i4,i5,rfl,hp0⟩:=yV hpt
   obtain ⟨_,_,_,_,_,hE,m1,m2,m3,m4,m5⟩:=id hp0
   cases hE
   have harg:=hcl 11 _ rfl
   refine gg_ ?_
   refine zs (n:=21) rfl (fun j v hj=>by rw [Int.toNat_natCast];exact S.at (hcl j v hj)) ?_
   refine S.al fun b13 w21 S=>?_
   refine S.stB (b:=b13) fun w22 S=>?_
   refine gg_ ?_
   refine S.ldN (b:=b13) ?_
   refine qP (p:=p.to) S.holds ⟨_,rfl,m1.cells⟩ (by have:=hFp.to;omega) fun c1 s4 w23 e23 n23 h23=>?_
   obtain ⟨S,_,u4⟩:=S.tell e23 n23
   obtain ⟨_,rfl,h23⟩:=h23
   obtain ⟨a1,e1,rfl,_⟩:=h23.sl.shape
   refine gg_ ?_
   refine S.stN (b:=b13) fun w24 S=>?_
   refine gg_ ?_
   refine S.ldN (b:=b13) ?_
   refine qP (p:=p.fr) S.holds ⟨_,rfl,m5.cells⟩ (by have:=hFp.fr;omega) fun c1 s5 w25 e25 n25 h25=>?_
   obtain ⟨S,_,u5⟩:=S.tell e25 n25
   obtain ⟨_,rfl,h25⟩:=h25
   obtain ⟨a5,e5,rfl,_⟩:=h25.sl.shape
   refine gg_ ?_
   refine S.stN (b:=b13) fun w26 S=>?_
   refine gg_ ?_
   refine S.ldN (b:=b13) ?_
   refine kU (o:=p.a) S.holds ⟨_,rfl,m2.cells⟩ (by have:=hFp.a;omega) fun c1 s6 w27 e27 n27 h27=>?_
   obtain ⟨S,_,u6⟩:=S.tell e27 n27
   obtain ⟨_,rfl,h27⟩:=h27
   obtain ⟨a2,e2,rfl,_⟩:=h27.sl.shape
   refine gg_ ?_
   refine S.stN (b:=b13) fun w28 S=>?_
   refine gg_ ?_
   refine S.ldN (b:=b13) ?_
   refine kU (o:=p.b) S.holds ⟨_,rfl,m3.cells⟩ (by have:=hFp.b;omega) fun c1 s7 w29 e29 n29 h29=>?_
   obtain ⟨S,_,u7⟩:=S.tell e29 n29
   obtain ⟨_,rfl,h29⟩:=h29
   obtain ⟨a3,e3,rfl,_⟩:=h29.sl.shape
   refine gg_ ?_
   refine S.stN (b:=b13) fun w30 S=>?_
   refine gg_ ?_
   refine S.st (b:=b13) fun w31 S=>?_
   have S : StX noX w (((((((((r.or sS).or s).or so).or s2).or s3).or s4).or s5).or s6).or s7) w31 (.cell b13 [.int .u8 p.op,.int .i64 p.to.l,.slice a1 p.to.ps.length e1,.int .u8 p.a.k,.int .i64 p.a.n,.int .i64 p.a.pl.l,.slice a2 p.a.pl.ps.length e2,.int .u8 p.b.k,.int .i64 p.b.n,.int .i64 p.b.pl.l,.slice a3 p.b.pl.ps.length e3,.slice none 0 0,.string p.sign,.int .i64 p.fr.l,.slice a5 p.fr.ps.length e5,.bool p.mu,.int .i64 p.fn,.int .i64 p.st,.int .i64 p.nx,.int .i64 p.el,.int .i64 p.tx] 44 :: .row vp 44 21 k x3 :: .row vt 57 5 g.tys.length x2 :: .row vn 9 1 g.nms.length xn :: .cell b10 [.string g.name,.int .i64 g.lv,.slice qo g.outs.length ko,.int .i64 g.pn,vt,vn,vp] 33 :: .cell b9 (grL g z1 z2 z3 (some ⟨bp,op,none⟩) y1 y2 y3 y4) 33 :: .row vf 33 7 i xf :: .cell b3 [.slice q4 u.ss.length k4,vf,.int .i64 u.mn] 25 :: .cell b2 [.slice none 0 0,.slice none 0 0,.int .i64 0] 25 :: .cell b1 [.slice p0 u.ss.length cap0,.slice (some ⟨bf,off,none⟩) u.fs.length capf,.int .i64 u.mn] 25::M):=S
   have S:=S.ownNil 41 4
   refine zk (ι:=Nat × Value × Gh × List Value) (fun j=>[.int .i64 (j.1 : Nat)])
    (fun j w'=>j.1≤p.args.length∧Above w j.2.2.1∧RowOf 4 (OpG j.2.2.1) j.2.2.2 (p.args.take j.1)∧
     StX noX w ((((((((((r.or sS).or s).or so).or s2).or s3).or s4).or s5).or s6).or s7).or j.2.2.1) w' (.row j.2.1 41 4 j.1 j.2.2.2 :: .cell b13 [.int .u8 p.op,.int .i64 p.to.l,.slice a1 p.to.ps.length e1,.int .u8 p.a.k,.int .i64 p.a.n,.int .i64 p.a.pl.l,.slice a2 p.a.pl.ps.length e2,.int .u8 p.b.k,.int .i64 p.b.n,.int .i64 p.b.pl.l,.slice a3 p.b.pl.ps.length e3,j.2.1,.string p.sign,.int .i64 p.fr.l,.slice a5 p.fr.ps.length e5,.bool p.mu,.int .i64 p.fn,.int .i64 p.st,.int .i64 p.nx,.int .i64 p.el,.int .i64 p.tx] 44 :: .row vp 44 21 k x3 :: .row vt 57 5 g.tys.length x2 :: .row vn 9 1 g.nms.length xn :: .cell b10 [.string g.name,.int .i64 g.lv,.slice qo g.outs.length ko,.int .i64 g.pn,vt,vn,vp] 33 :: .cell b9 (grL g z1 z2 z3 (some ⟨bp,op,none⟩) y1 y2 y3 y4) 33 :: .row vf 33 7 i xf :: .cell b3 [.slice q4 u.ss.length k4,vf,.int .i64 u.mn] 25 :: .cell b2 [.slice none 0 0,.slice none 0 0,.int .i64 0] 25 :: .cell b1 [.slice p0 u.ss.length cap0,.slice (some ⟨bf,off,none⟩) u.fs.length capf,.int .i64 u.mn] 25::M))
    (fun j=>p.args.length - j.1) (0,.slice none 0 0,nothing,[]) rfl ⟨Nat.zero_le _,Above.no,by simpa using RowOf.nil,S.to _⟩ ?_
   repeat clear S
   rintro ⟨j,va,s8,x8⟩ d w32 ⟨hj,ha8,hR8,S⟩ K60 hK60
   simp only at hj ha8 hR8 S ⊢
   rw [List.getD_cons_zero]
   have hp2:=hFp.args
   refine gg_ ?_
   refine zE (by rw [Int.toNat_natCast];exact S.at harg) ?_
   refine gg_ ?_
   refine zg (fun hlt4=>?_) (fun hge4=>?_)
   ·have hlt4 : j<p.args.length:=by omega
    have S:=S.go (Ext.drew _)
    obtain ⟨bo,oo,c,rfl,hc4,hop,hcl4⟩:=m4.sl.get (by decide) hlt4
    have hFo:=hFp.ops _ (List.getElem_mem hlt4)
    have hzo : p.args.take (j+1)=p.args.take j ++ [p.args[j]]:=List.take_succ_eq_append_getElem hlt4
    generalize p.args[j]=o at hop hFo hzo
    refine gg_ ?_
    refine zE (by rw [Int.toNat_natCast];exact S.at harg) ?_
    refine gg_ ?_
    refine zs (n:=4) hc4 (fun j v hj=>by rw [Int.toNat_natCast];exact S.at (hcl4 j v hj)) ?_
    refine kU S.holds (OpG.up hop) (by omega) fun c1 sn w33 e33 n33 h33=>⟨e33,?_⟩
    obtain ⟨S,_,u33⟩:=S.tell e33 n33
    obtain ⟨q9,k9,rfl⟩:=Yu h33
    refine S.litU (e:=41) (cs:=[.int .u8 o.k,.int .i64 o.n,.int .i64 o.pl.l,.slice q9 o.pl.ps.length k9]) (by kernel_rfl) fun b14 w34 S=>?_
    refine S.ap (v:=va) (m':=1) (Sl.blk (S.blk b14)) (fun v4 w35 S=>?_) (by omega)
    refine gg_ ?_
    refine S.st (b:=b13) (fun w36 S=>?_) (h1:=S.row1 v4)
    refine gg_ ?_
    refine hK60 (j+1,v4,s8.or sn,_) _ ⟨hlt4,ha8.or' u33,?_,(S.drop b14).reGh⟩ (by show p.args.length - (j+1)<p.args.length - j;omega)
    show RowOf 4 (OpG (s8.or sn)) _ (p.args.take (j+1))
    rw [hzo]
    exact (hR8.mono fun _ _ h=>OpG.up h).snoc rfl (OpG.up h33)
   have hje : j=p.args.length:=by omega
   subst hje
   rw [List.take_length] at hR8
   clear hK60
   obtain ⟨s9,T,hs9,_,ha9⟩:=S.doneRow hR8 (by decide) rfl
   obtain ⟨a4,e4,rfl,_,_⟩:=hs9.shape
   have S:=T
   clear T
   have hpg : PtG (s4.or (s5.or (s6.or (s7.or (s8.or s9))))) (ptL p a1 a2 a3 a4 a5 e1 e2 e3 e4 e5) p:=⟨_,_,_,_,_,rfl,h23.cells,h27.cells,h29.cells,⟨hs9.up' inferInstance fun _ _ h=>OpG.up h,m4.few⟩,h25.cells⟩
   refine gg_ ?_
   refine S.lit (e:=44) (cs:=ptL p a1 a2 a3 a4 a5 e1 e2 e3 e4 e5) (by kernel_rfl) fun b14 w34 S=>?_
   refine S.ap (v:=vp) (m':=1) (Sl.blk (S.blk b14)) (fun v4 w35 S=>?_) (by omega)
   refine gg_ ?_
   refine S.st (b:=b10) (fun w36 S=>?_) (h1:=S.row1 v4)
   refine gg_ ?_
   refine hK45 (k+1,v4,s3.or (s4.or (s5.or (s6.or (s7.or (s8.or s9))))),_) _ ⟨hlt3,ha3.or' (u4.or' (u5.or' (u6.or' (u7.or' (ha8.or' fun b o ho=>(ha9 b o ho).resolve_right id))))),?_,((S.drop b14).drop b13).to _⟩ (by show g.pts.length - (k+1)<g.pts.length - k;omega)
   show RowOf 21 (PtG _) _ (g.pts.take (k+1))
   rw [hzp]
   exact (hR3.mono fun _ _ h=>PtG.up h).snoc rfl (PtG.up hpg)
  have hke : k=g.pts.length:=by omega
  subst hke
  rw [List.take_length] at hR3
  clear hK45
  have o1:=S.row1 vp
  have o2:=S.row1 vt
  have o3:=S.row1 vn
  refine gg_ ?_
  refine S.lit (e:=33) (cs:=[.string g.name,.int .i64 g.lv,.slice qo g.outs.length ko,.int .i64 g.pn,vt,vn,vp]) (by kernel_rfl) fun b14 w34 S=>?_
  refine S.ap (v:=vf) (m':=1) (Sl.blk (S.blk b14)) (fun v4 w35 S=>?_) (by omega) (h1:=by
   intro u hu
   simp only [List.mem_cons,List.not_mem_nil,or_false] at hu
   rcases hu with rfl|rfl|rfl|rfl|rfl|rfl|rfl<;>first|rfl|assumption)
  refine gg_ ?_
  refine S.st (b:=b3) (fun w36 S=>?_) (h1:=S.row1 v4)
  refine gg_ ?_
  have S:=((S.drop b14).drop b10).drop b9
  have hab : ∀ {q : Gh},(∀ b o,q b o→w.heap.size≤b∨noX b)→Above w q:=fun h b o ho=>(h b o ho).resolve_right id
  by_cases hif : i=f
  ·have hM' : M = []:=hM (by omega)
   subst hM'
   have S:=S.perm (List.perm_append_comm (l₁:=[_,_,_]) (l₂:=[_,_,_,_]))
   refine hK25 (i+1,v4,s.or (so.or (s2.or s3)),_,_) _ ⟨hlt,ha.or' ((hab hao).or' (ha2.or' ha3)),?_,fun hh=>absurd hh (by omega),S.to _⟩ (by show u.fs.length - (i+1)<u.fs.length - i;omega)
   show RowOf 7 (AtG f _ _) _ (u.fs.zipIdx.take (i+1))
   rw [hzi]
   refine (ac8 hR (by omega)).snoc rfl ⟨fun _=>⟨_,_,_,_,_,_,_,rfl,⟨hso.cells,k1.few⟩,rfl,hR2.mono fun _ _ h=>TyG.up h,rn1,hR3.mono fun _ _ h=>PtG.up h⟩,fun hh=>absurd hif hh⟩
  ·obtain ⟨sp,T,hsp,_,hap⟩:=S.doneRow hR3 (by decide) rfl
   obtain ⟨st,T,hst',_,hat⟩:=T.doneRow hR2 (by decide) rfl
   obtain ⟨sn,T,hsn,_,han⟩:=T.doneRow rn1 (by decide) rfl
   refine hK25 (i+1,v4,s.or (so.or (s2.or (s3.or (sp.or (st.or sn))))),_,M) _ ⟨hlt,ha.or' ((hab hao).or' (ha2.or' (ha3.or' ((hab hap).or' ((hab hat).or' (hab han)))))),?_,fun hh=>hM (by simp only at hh;omega),T.to _⟩ (by show u.fs.length - (i+1)<u.fs.length - i;omega)
   show RowOf 7 (AtG f _ _) _ (u.fs.zipIdx.take (i+1))
   rw [hzi]
   refine (hR.mono fun _ _ h=>AtG.up h).snoc rfl ⟨fun hh=>absurd hh hif,fun _=>⟨_,_,_,_,rfl,⟨hso.cells,k1.few⟩,⟨hst'.up' inferInstance fun _ _ h=>TyG.up h,k2.few⟩,⟨hsn.cells,k3.few⟩,⟨hsp.up' inferInstance fun _ _ h=>PtG.up h,k4'.few⟩⟩⟩
 have hie : i=u.fs.length:=by omega
 subst hie
 rw [List.take_of_length_le (by simp)] at hR
 have o1:=S.row1 vf
 refine gg_ ?_
 refine S.stB (b:=b2) (h1:=by
  intro u hu
  simp only [List.mem_cons,List.not_mem_nil,or_false] at hu
  rcases hu with rfl|rfl|rfl<;>first|rfl|assumption) fun w40 S=>?_
 refine gg_ ?_
 exact h q4 k4 vf xf (sS.or s) M _ ((((S.drop b3).drop b2).drop b1).to _) (ha5.or' ha) hS4.up hq4 hk4 (hR.mono fun _ _ h=>AtG.up h)
end Go.Proofs
end
section
namespace Go.Proofs
open Go.Sh
set_option maxRecDepth 100000
set_option linter.unusedSimpArgs false
set_option linter.unusedVariables false
def V8 (o : Int × Int) : Int:=8*o.1+o.2
theorem aa7 {lv : Int} (hl : lv≤8) : ∀ {a : Int × Int} {l : List (Int × Int)},ZO (a::l)=true→(∀ o ∈ a::l,xb lv o=true)→(l.length : Int)+V8 a≤63
 |a,[],_,h=>by
  have:=h a List.mem_cons_self
  simp only [xb,Bool.not_eq_true',Bool.or_eq_false_iff,decide_eq_false_iff_not] at this
  simp only [V8,List.length_nil];omega
 |a,b::l,hr,h=>by
  rw [ZO,Bool.and_eq_true] at hr
  have ih:=aa7 hl hr.2 fun o ho=>h o (List.mem_cons_of_mem _ ho)
  have h1:=h a List.mem_cons_self
  have h2:=h b (by simp)
  simp only [xb,Bool.not_eq_true',Bool.or_eq_false_iff,decide_eq_false_iff_not] at h1 h2
  have h3:=hr.1
  simp only [js,Bool.or_eq_true,Bool.and_eq_true,decide_eq_true_eq] at h3
  simp only [V8,List.length_cons] at ih ⊢
  omega
theorem adX {g : GrD} (h : jt g=true) (hl : g.lv≤8) : g.outs.length≤64:=by
 simp only [jt,Bool.and_eq_true,List.all_eq_true] at h
 obtain ⟨⟨h1,h2⟩,_⟩:=h
 cases ho : g.outs with
 |nil=>simp
 |cons a l=>
  rw [ho] at h1 h2
  have:=aa7 hl h2 h1
  have h3:=h1 a List.mem_cons_self
  simp only [xb,Bool.not_eq_true',Bool.or_eq_false_iff,decide_eq_false_iff_not] at h3
  simp only [V8,List.length_cons] at this ⊢
  omega
theorem adY {u : UnD} (h : MayU u) (hf : ∀ g ∈ u.fs,aa2 g) : afo u:=by
 obtain ⟨h1,h2,_⟩:=kY h.ok
 refine ⟨by omega,fun x hx=>?_,by have:=h.fs32;omega,fun g hg=>?_⟩
 ·obtain ⟨i,hi,rfl⟩:=List.getElem_of_mem hx
  have hb:=h2 i hi
  rw [qk,kR hi] at hb
  simp only [Bool.or_eq_false_iff,decide_eq_false_iff_not,List.length_map] at hb
  refine ⟨by omega,fun f hff=>?_⟩
  have:=List.any_eq_false.1 hb.2 f.2 (List.mem_map.2 ⟨f,hff,rfl⟩)
  simp only [Bool.or_eq_true,Bool.not_eq_true',not_or] at this
  simpa using this.1
 ·obtain ⟨i,hH⟩:=h.mem hg
  have:=hH.ty512
  have:=hH.nms
  exact ⟨by have:=adX hH.outs hH.lv8;omega,by omega,by omega,fun t ht=>(Jh (QJ hH.tys t ht)).2,hf g hg⟩
structure GrowG (g g' : GrD) : Prop where
 pn : g'.pn=g.pn
 tys : ∃ x,g'.tys=g.tys++x
 len : g'.pts.length=g.pts.length
 pn0 : 0≤g.pn
 pn1 : g.pn<g.tys.length
structure acd (u u' : UnD) : Prop where
 ss : u'.ss=u.ss
 len : u'.fs.length=u.fs.length
 fs : ∀ (i : Nat) (g : GrD),u.fs[i]? = some g→∃ g',u'.fs[i]? = some g'∧GrowG g g'
theorem XL {ss : List StD} {tys x : List TyD} {p : PlD} (h : (zp ss tys p).2.2=true) : zp ss (tys++x) p=zp ss tys p:=by
 unfold zp at h ⊢
 by_cases h0 : p.l<0
 ·rw [if_pos h0] at h;cases h
 rw [if_neg h0] at h ⊢
 rw [if_neg h0]
 cases ht : tys[p.l.toNat]? with
 |none=>rw [ht] at h;cases h
 |some t=>
  rw [List.getElem?_append_left (by have:=(List.getElem?_eq_some_iff.1 ht).1;omega),ht]
theorem Vx {ss : List StD} {tys x : List TyD} {o : OpD} (h : (zF ss tys o).2=true) : zF ss (tys++x) o=zF ss tys o:=by
 unfold zF at h ⊢
 split
 ·rfl
 split
 ·rfl
 rename_i h1 h2
 rw [if_neg h1,if_neg h2] at h
 split
 ·rename_i h3
  rw [if_pos h3] at h
  simp only [Bool.and_eq_true] at h
  rw [XL h.1.1]
 split
 ·rename_i h3 h4
  rw [if_neg h3,if_pos h4] at h
  simp only [Bool.and_eq_true] at h
  rw [XL h.1.1.1]
 rfl
theorem XM {ss : List StD} {tys x : List TyD} : ∀ {l : List OpD} {ts : List TyD},y9 ss tys l ts=true→y9 ss (tys++x) l ts=true
 |[],[],_=>rfl
 |[],_::_,h=>by cases h
 |_::_,[],h=>by cases h
 |o::l,t::ts,h=>by
  simp only [y9,Bool.and_eq_true] at h ⊢
  rw [Vx h.1.1]
  exact ⟨h.1,XM h.2⟩
theorem aeH {u u' : UnD} {g g' : GrD} {p : PtD} (hU : acd u u') (hG : GrowG g g') (h : ptG u g p=true) : ptG u' g' p=true:=by
 obtain ⟨x,hx⟩:=hG.tys
 unfold ptG at h ⊢
 rw [hU.ss,hU.len,hx]
 have hin : ∀ q,kD g' q=kD g q:=fun q=>by rw [kD,kD,hG.len]
 rw [hin]
 dsimp only at h ⊢
 have hS : ∀ {q : PlD},(zp u.ss g.tys q).2.2=true→zp u.ss (g.tys++x) q=zp u.ss g.tys q:=fun h=>XL h
 have hO : ∀ {o : OpD},(zF u.ss g.tys o).2=true→zF u.ss (g.tys++x) o=zF u.ss g.tys o:=fun h=>Vx h
 by_cases h1 : p.op=1
 ·rw [if_pos h1] at h ⊢
  have k:=h
  simp only [Bool.and_eq_true] at k
  rw [hS k.1.1.2.1,hO k.1.2];exact h
 rw [if_neg h1] at h ⊢
 by_cases h2 : p.op=2
 ·rw [if_pos h2] at h ⊢
  have k:=h
  simp only [Bool.and_eq_true] at k
  rw [hS k.1.2.1.1,hO k.1.2.2.1,hO k.1.2.2.2];exact h
 rw [if_neg h2] at h ⊢
 by_cases h3 : p.op=3
 ·rw [if_pos h3] at h ⊢
  have k:=h
  simp only [Bool.and_eq_true] at k
  rw [hS k.1.1.2.1,hO k.1.2];exact h
 rw [if_neg h3] at h ⊢
 by_cases h4 : p.op=4
 ·rw [if_pos h4] at h ⊢
  have k:=h
  simp only [Bool.and_eq_true] at k
  rw [hS k.1.1.1.1.2.1,hS k.1.1.1.2];exact h
 rw [if_neg h4] at h ⊢
 by_cases h5 : p.op=5
 ·rw [if_pos h5] at h ⊢
  have k:=h
  simp only [Bool.and_eq_true] at k
  rw [hS k.1.1.1.2.1,hO k.1.1.2];exact h
 rw [if_neg h5] at h ⊢
 by_cases h6 : p.op=6
 ·rw [if_pos h6] at h ⊢
  have k:=h
  simp only [Bool.and_eq_true] at k h ⊢
  rw [hS k.1.1.1.2.1];exact ⟨h.1,XM h.2⟩
 rw [if_neg h6] at h ⊢
 by_cases h7 : p.op=7
 ·rw [if_pos h7] at h ⊢
  have k:=h
  simp only [Bool.and_eq_true] at k h ⊢
  rw [hS k.1.1.2.1]
  refine ⟨h.1,?_⟩
  have h:=h.2
  cases hf : u.fs[p.fn.toNat]? with
  |none=>rw [hf] at h;cases h
  |some f=>
   rw [hf] at h
   obtain ⟨f',hf',hg'⟩:=hU.fs _ _ hf
   rw [hf']
   simp only [Bool.and_eq_true] at h ⊢
   obtain ⟨y,hy⟩:=hg'.tys
   have hp1:=hg'.pn1
   have hp0:=hg'.pn0
   rw [hy,hg'.pn]
   have e1 : (f.tys++y).headD zL=f.tys.headD zL:=by cases ht : f.tys with
    |nil=>rw [ht] at hp1;simp only [List.length_nil] at hp1;omega
    |cons a l=>rfl
   have e2 : ((f.tys++y).drop 1).take f.pn.toNat=(f.tys.drop 1).take f.pn.toNat:=by
    rw [List.drop_append_of_le_length (by omega),List.take_append_of_le_length (by rw [List.length_drop];omega)]
   rw [e1,e2]
   exact ⟨h.1,XM h.2⟩
 rw [if_neg h7] at h ⊢
 by_cases h8 : p.op=8
 ·rw [if_pos h8] at h ⊢
  have k:=h
  simp only [Bool.and_eq_true] at k
  rw [hS k.1.2.1];exact h
 rw [if_neg h8] at h ⊢
 by_cases h9 : p.op=9
 ·rw [if_pos h9] at h ⊢
  have k:=h
  simp only [Bool.and_eq_true] at k
  rw [hO k.1.2];exact h
 rw [if_neg h9] at h ⊢
 by_cases h10 : p.op=10
 ·rw [if_pos h10] at h ⊢
  have k:=h
  simp only [Bool.and_eq_true] at k
  rw [hS k.1.1.2];exact h
 rw [if_neg h10] at h ⊢
 by_cases h11 : p.op=11
 ·rw [if_pos h11] at h ⊢
  have k:=h
  simp only [Bool.and_eq_true] at k
  rw [hS k.1.1.2];exact h
 rw [if_neg h11] at h ⊢
 by_cases h12 : p.op=12
 ·rw [if_pos h12] at h ⊢
  have k:=h
  simp only [Bool.and_eq_true] at k
  rw [hO k.1.1.2];exact h
 rw [if_neg h12] at h ⊢
 exact h
theorem JB {u u' : UnD} {g g' : GrD} {p : PtD} (hU : acd u u') (hG : GrowG g g') (h : zC u g p=true) : zC u' g' p=true:=by
 unfold zC at h ⊢
 rw [Bool.and_eq_true] at h ⊢
 have hin : ∀ q,kD g' q=kD g q:=fun q=>by rw [kD,kD,hG.len]
 rw [hin]
 exact ⟨h.1,aeH hU hG h.2⟩
end Go.Proofs
end
section
namespace Go.Proofs
open Go.Sh
set_option maxRecDepth 100000
set_option linter.unusedSimpArgs false
set_option linter.unusedVariables false
def zY (u : UnD) (n : Nat) (g' : GrD) : UnD:=⟨u.ss,u.fs.set n g',u.mn⟩
theorem Yv {u u' : UnD} {g g' : GrD} (h1 : u'.ss=u.ss) (h2 : g'.pn=g.pn) (h3 : g'.lv=g.lv) : ∀ {l : List TyD} {i : Nat},yZ u' g' i l=yZ u g i l
 |[],_=>rfl
 |t::l,i=>by rw [yZ,yZ,Yv h1 h2 h3,tyG,tyG,h1,h2,h3]
theorem aa8 {u : UnD} {g : GrD} : ∀ {l m : List TyD} {i : Nat},yZ u g i (l++m)=(yZ u g i l&&yZ u g (i+l.length) m)
 |[],m,i=>by simp [yZ]
 |t::l,m,i=>by
  rw [List.cons_append,yZ,yZ,aa8,Bool.and_assoc,List.length_cons,show i+1+l.length=i+(l.length+1) by omega]
theorem adZ {u u' : UnD} {g : GrD} {i : Nat} (h1 : u'.ss=u.ss) (h2 : u'.mn=u.mn) : yi u' i g=yi u i g:=by
 rw [yi,yi,Yv h1 rfl rfl,h2]
theorem GrowG.refl {u : UnD} {i : Nat} {g : GrD} (h : HeadU u i g) : GrowG g g:=⟨rfl,⟨[],by simp⟩,rfl,h.pn0,h.pn1⟩
theorem aa9 {u : UnD} {n : Nat} {g' : GrD} (h : MayU u) (hn : n<u.fs.length) (hG : GrowG u.fs[n] g') (hh : yi u n g'=true) (hp : ∀ p ∈ g'.pts,zC u u.fs[n] p=true) : MayU (zY u n g'):=by
 have hU : acd u (zY u n g'):=⟨rfl,by simp [zY],fun i g hi=>by
  obtain ⟨hil,rfl⟩:=List.getElem?_eq_some_iff.1 hi
  by_cases hin : i=n
  ·subst hin
   exact ⟨g',by simp [zY,hil],hG⟩
  ·exact ⟨u.fs[i],by rw [show (zY u n g').fs=u.fs.set n g' from rfl,List.getElem?_set_ne (by omega)];exact hi,.refl (h.hd hil)⟩⟩
 have hl : (zY u n g').fs.length=u.fs.length:=hU.len
 refine ⟨h.ok,by rw [hl];exact h.fs1,by rw [hl];exact h.fs32,h.mn0,by rw [hl];exact h.mn1,fun i hi=>?_,fun g hg p hpp=>?_⟩
 ·rw [adZ (u:=u) (u':=zY u n g') rfl rfl]
  have hi' : i<u.fs.length:=by omega
  by_cases hin : i=n
  ·subst hin
   simpa [zY] using hh
  ·have : (zY u n g').fs[i]=u.fs[i]:=List.getElem_set_ne (by omega) _
   rw [this];exact h.head i hi'
 ·obtain ⟨i,hi,rfl⟩:=List.getElem_of_mem hg
  have hi' : i<u.fs.length:=by omega
  by_cases hin : i=n
  ·subst hin
   have e : (zY u i g').fs[i]=g':=List.getElem_set_self _
   rw [e] at hpp ⊢
   exact JB hU hG (hp p hpp)
  ·have e : (zY u n g').fs[i]=u.fs[i]:=List.getElem_set_ne (by omega) _
   rw [e] at hpp ⊢
   exact JB hU (.refl (h.hd hi')) (h.pts _ (List.getElem_mem hi') p hpp)
def xh (g : GrD) (q : Nat) (p : PtD) : GrD:=⟨g.name,g.lv,g.outs,g.pn,g.tys,g.nms,g.pts.set q p⟩
theorem aba {u : UnD} {fn : Nat} {g : GrD} (h : HeadU u fn g) : yi u fn g=true:=by
 simp only [yi,Bool.and_eq_true,Bool.or_eq_true,Bool.not_eq_true',decide_eq_true_eq,decide_eq_false_iff_not,isK]
 refine ⟨⟨⟨⟨⟨⟨⟨h.lv0,h.lv8⟩,h.pn0,h.pn8⟩,h.pn1,h.ty512⟩,h.nms⟩,h.tys⟩,⟨h.pt1,h.pt1024⟩,h.outs⟩,h.loans,?_⟩
 by_cases e : (fn : Int)=u.mn
 ·exact .inr ⟨⟨(h.main e).1,(h.main e).2.1⟩,(h.main e).2.2⟩
 ·exact .inl e
theorem ac9 {u : UnD} {g : GrD} {p : PtD} (h0 : 0≤p.tx) (h1 : p.op≠14→kD g p.nx=true) (h2 : p.op=14→p.nx=0) (h3 : ptG u g p=true) : zC u g p=true:=by
 have h1' : p.op=14∨kD g p.nx=true:=by
  by_cases h : p.op=14
  ·exact .inl h
  ·exact .inr (h1 h)
 have h2' : p.op≠14∨p.nx=0:=by
  by_cases h : p.op=14
  ·exact .inr (h2 h)
  ·exact .inl h
 simp only [zC,Bool.and_eq_true,Bool.not_eq_true',Bool.or_eq_false_iff,decide_eq_false_iff_not,Bool.and_eq_false_iff,Bool.not_eq_false',decide_eq_true_eq]
 refine ⟨⟨⟨by omega,?_⟩,?_⟩,h3⟩
 ·exact h1'
 ·exact h2'
theorem abb {u : UnD} {g : GrD} {p : PtD} (h : zC u g p=true) : 0≤p.tx∧(p.op≠14→kD g p.nx=true)∧(p.op=14→p.nx=0)∧ptG u g p=true:=by
 simp only [zC,Bool.and_eq_true,Bool.not_eq_true',Bool.or_eq_false_iff,decide_eq_false_iff_not,Bool.and_eq_false_iff,Bool.not_eq_false',decide_eq_true_eq] at h
 obtain ⟨⟨⟨a,b⟩,c⟩,d⟩:=h
 exact ⟨by omega,fun h=>b.resolve_left h,fun h=>c.resolve_left (fun h'=>h' h),d⟩
theorem ace {u : UnD} {n q : Nat} {g : GrD} {p : PtD} (h : yi u n g=true) (hl : yf (g.pts.set q p)≤256) : yi u n (xh g q p)=true:=by
 have hH:=V6 h
 exact aba ⟨hH.lv0,hH.lv8,hH.pn0,hH.pn8,hH.pn1,hH.ty512,hH.nms,by rw [Yv (u:=u) (g:=g) (g':=xh g q p) rfl rfl rfl];exact hH.tys,by simpa [xh] using hH.pt1,by simpa [xh] using hH.pt1024,hH.outs,hl,hH.main⟩
theorem ada {u : UnD} {n q : Nat} {p : PtD} (h : MayU u) (hn : n<u.fs.length) (hl : yf (u.fs[n].pts.set q p)≤256) (hp : zC u u.fs[n] p=true) : MayU (zY u n (xh u.fs[n] q p)):=by
 have hH:=h.hd hn
 refine aa9 h hn ⟨rfl,⟨[],by simp [xh]⟩,by simp [xh],hH.pn0,hH.pn1⟩ (ace (h.head n hn) hl) fun x hx=>?_
 rcases List.mem_or_eq_of_mem_set hx with hx|rfl
 ·exact h.pts _ (List.getElem_mem hn) x hx
 ·exact hp
def jv (p : PtD) (k : Int) : PtD:=⟨p.op,p.to,p.a,p.b,p.args,p.sign,p.fr,p.mu,p.fn,p.st,k,p.el,p.tx⟩
theorem adb {u : UnD} {g : GrD} {p : PtD} {k : Int} (h : zC u g p=true) (h14 : p.op≠14) (h0 : 0≤k) (h1 : k<g.pts.length) : zC u g (jv p k)=true:=by
 obtain ⟨a,b,c,d⟩:=abb h
 exact ac9 a (fun _=>by rw [kD,Bool.and_eq_true,decide_eq_true_eq,decide_eq_true_eq];exact ⟨h0,h1⟩) (fun e=>absurd e h14) d
theorem acf {l : List PtD} {q : Nat} {p : PtD} (hq : q<l.length) (h : p.op=l[q].op) : yf (l.set q p)=yf l:=by
 have e : ∀ m : List PtD,yf m=(m.map PtD.op).countP fun k=>decide (k=4):=fun m=>by rw [List.countP_map];rfl
 rw [e,e,List.map_set,h]
 congr 1
 refine List.ext_getElem (by simp) fun i h1 h2=>?_
 rw [List.getElem_set]
 split
 ·rename_i hi;subst hi;simp
 ·rfl
theorem aeI {u : UnD} {n q : Nat} {k : Int} (h : MayU u) (hn : n<u.fs.length) (hq : q<u.fs[n].pts.length) (h14 : u.fs[n].pts[q].op≠14) (h0 : 0≤k) (h1 : k<u.fs[n].pts.length) : MayU (zY u n (xh u.fs[n] q (jv u.fs[n].pts[q] k))):=
 ada h hn (by rw [acf hq (by rfl)];exact (h.hd hn).loans) (adb (h.pts _ (List.getElem_mem hn) _ (List.getElem_mem hq)) h14 h0 h1)
def xY (g : GrD) (t : TyD) (s : ByteArray) : GrD:=⟨g.name,g.lv,g.outs,g.pn,g.tys ++ [t],g.nms ++ [s],g.pts⟩
theorem adc {u : UnD} {n : Nat} {t : TyD} {s : ByteArray} (h : MayU u) (hn : n<u.fs.length) (ht : xU u.ss t=true) (hr : ∀ x ∈ zV t,x = -1) (hl : u.fs[n].tys.length<512) : MayU (zY u n (xY u.fs[n] t s)):=by
 have hH:=h.hd hn
 have h0:=hH.pn0
 have h1:=hH.pn1
 refine aa9 h hn ⟨rfl,⟨[t],rfl⟩,rfl,h0,h1⟩ ?_ fun x hx=>h.pts _ (List.getElem_mem hn) x hx
 have hh:=h.head n hn
 generalize u.fs[n]=g at *
 have ho : jt (xY g t s)=jt g:=by
  have e : (g.tys ++ [t]).take (g.pn.toNat+1)=g.tys.take (g.pn.toNat+1):=List.take_append_of_le_length (by omega)
  show ((g.outs.all (xb g.lv)&&ZO g.outs)&&V4 g.lv.toNat (qI ((g.tys ++ [t]).take (g.pn.toNat+1))) (jr g.outs))=_
  rw [e];rfl
 have hd : (g.tys ++ [t]).headD zL=g.tys.headD zL:=by cases hg : g.tys with
  |nil=>rw [hg] at h1;simp only [List.length_nil] at h1;omega
  |cons a l=>rfl
 have hT : yZ u g (0+g.tys.length) [t]=true:=by
  simp only [yZ,tyG,Bool.and_true,Bool.and_eq_true,List.all_eq_true,Bool.not_eq_true',Bool.or_eq_false_iff,decide_eq_false_iff_not]
  refine ⟨ht,fun x hx=>?_⟩
  have hx:=hr x hx
  have:=hH.lv0
  rw [hx,if_neg (by omega)]
  omega
 have hn7:=hH.nms
 exact aba ⟨hH.lv0,hH.lv8,hH.pn0,hH.pn8,by simp only [xY,List.length_append,List.length_singleton];omega,by simp only [xY,List.length_append,List.length_singleton];omega,by simp only [xY,List.length_append,List.length_singleton];omega,
  by rw [show (xY g t s).tys=g.tys ++ [t] from rfl,aa8,Yv (u:=u) (g:=g) (g':=xY g t s) rfl rfl rfl,Yv (u:=u) (g:=g) (g':=xY g t s) rfl rfl rfl,hT,hH.tys];rfl,
  hH.pt1,hH.pt1024,by rw [ho];exact hH.outs,hH.loans,fun e=>by rw [show (xY g t s).tys=g.tys ++ [t] from rfl,hd];exact hH.main e⟩
theorem Vy {o : OpD} (h : jp o=true) : o.k=0:=by
 simp only [jp,Bool.and_eq_true,decide_eq_true_eq] at h;exact h.1.1
theorem aeJ {ss : List StD} {tys : List TyD} {o : OpD} (h : (zF ss tys o).2=true) : o.k≠0:=fun h0=>by
 unfold zF at h
 rw [if_neg (by omega),if_neg (by omega),if_neg (by omega),if_neg (by omega)] at h
 cases h
theorem acg {ss : List StD} {tys : List TyD} {o : OpD} (h : (zF ss tys o).2=true) (hk : o.k=3∨o.k=4) : (zp ss tys o.pl).2.2=true∧(zF ss tys o).1=(zp ss tys o.pl).1∧kW (zp ss tys o.pl).1=decide (o.k=3):=by
 unfold zF at h ⊢
 rcases hk with hk|hk
 ·rw [if_neg (by omega),if_neg (by omega),if_pos hk] at h ⊢
  simp only [Bool.and_eq_true] at h
  exact ⟨h.1.1,rfl,by rw [h.2,hk];rfl⟩
 ·rw [if_neg (by omega),if_neg (by omega),if_neg (by omega),if_pos hk] at h ⊢
  simp only [Bool.and_eq_true,Bool.not_eq_true'] at h
  exact ⟨h.1.1.1,rfl,by rw [h.1.2,hk];rfl⟩
theorem Vz {u : UnD} {g : GrD} {p : PtD} (h : zC u g p=true) (h7 : p.op=7) : ∃ hf : p.fn.toNat<u.fs.length,0≤p.fn∧p.fn<u.fs.length∧opersG p=p.args∧zU yX (zp u.ss g.tys p.to).1 (u.fs[p.fn.toNat].tys.headD zL)=true∧y9 u.ss g.tys p.args ((u.fs[p.fn.toNat].tys.drop 1).take u.fs[p.fn.toNat].pn.toNat)=true:=by
 have h2:=jK h
 rw [ptG] at h2
 simp only [h7,Int.reduceEq,if_false,if_true,Bool.and_eq_true,decide_eq_true_eq] at h2
 have hlt : p.fn.toNat<u.fs.length:=by omega
 rw [List.getElem?_eq_getElem hlt] at h2
 obtain ⟨⟨⟨hr,hto⟩,hf0,hf1⟩,h3⟩:=h2
 simp only [Bool.and_eq_true] at h3
 have ha : jp p.a=true∧jp p.b=true:=by
  simp only [zG,qH,List.all_cons,Bool.and_eq_true,id,Bool.false_or,Bool.true_or] at hr
  exact ⟨hr.2.1,hr.2.2.1⟩
 refine ⟨hlt,hf0,hf1,?_,h3.1,h3.2⟩
 rw [opersG,List.filter_cons_of_neg (by simp [zX,Vy ha.1]),List.filter_cons_of_neg (by simp [zX,Vy ha.2])]
 refine List.filter_eq_self.2 fun o ho=>?_
 obtain ⟨i,hi,rfl⟩:=List.getElem_of_mem ho
 obtain ⟨hl,hx⟩:=jN h3.2
 have:=aeJ (hx i hi (by omega)).1
 simpa [zX] using this
end Go.Proofs
end
section
namespace Go.Proofs
open Go.Sh
set_option maxRecDepth 100000
set_option linter.unusedSimpArgs false
set_option linter.unusedVariables false
theorem abc {α : Type} {l : List α} {z n j i : Nat} {v : α} (hj : j<z) (hi : i≠n) : ((l.set (n*z+j) v).drop (i*z)).take z=(l.drop (i*z)).take z:=by
 refine List.ext_getElem? fun m=>?_
 rw [List.getElem?_take,List.getElem?_take]
 split
 ·rename_i hm
  rw [List.getElem?_drop,List.getElem?_drop,List.getElem?_set_ne]
  intro h
  rcases Nat.lt_or_gt_of_ne hi with h1|h1
  ·have:=Nat.mul_le_mul_right z (show i+1≤n from h1)
   rw [Nat.succ_mul] at this;omega
  ·have:=Nat.mul_le_mul_right z (show n+1≤i from h1)
   rw [Nat.succ_mul] at this;omega
 ·rfl
theorem abd {α : Type} {l : List α} {z n j : Nat} {v : α} (hj : j<z) : ((l.set (n*z+j) v).drop (n*z)).take z=((l.drop (n*z)).take z).set j v:=by
 rw [List.drop_set,if_neg (by omega),show n*z+j - n*z=j by omega,List.take_set]
theorem Zw {α : Type} {l : List α} {z n i : Nat} (hi : i<n) : ((l.take (n*z)).drop (i*z)).take z=(l.drop (i*z)).take z:=by
 have:=Nat.mul_le_mul_right z (show i+1≤n from hi)
 rw [Nat.succ_mul] at this
 rw [List.drop_take,List.take_take,Nat.min_eq_left (by omega)]
structure PkS (u : UnD) (n : Nat) (s : Gh) (bp capf capp : Nat) (cf cp : List Value) (vt vn : Value) (xt xn : List Value) (g' : GrD) : Prop where
 flen : cf.length=capf*7
 fcap : u.fs.length≤capf
 few : u.fs.length≤1000
 plen : cp.length=capp*21
 pcap : g'.pts.length≤capp
 hn : n<u.fs.length
 oth : ∀ (i : Nat) (h : i<u.fs.length),i≠n→GrG s ((cf.drop (i*7)).take 7) u.fs[i]
 me : ∃ vo,(cf.drop (n*7)).take 7 = [.string g'.name,.int .i64 g'.lv,vo,.int .i64 g'.pn,vt,vn,.slice (some ⟨bp,0,none⟩) g'.pts.length capp]∧SlB 2 s QF vo g'.outs
 tys : RowOf 5 (TyC s) xt g'.tys
 nms : RowOf 1 Z2 xn g'.nms
 pts : RowOf 21 (PtG s) (cp.take (g'.pts.length*21)) g'.pts
 few1 : g'.tys.length≤1000000∧g'.nms.length≤1000000∧g'.pts.length≤1000000
theorem PkS.peek {u : UnD} {n : Nat} {s : Gh} {bf bp capf capp : Nat} {cf cp : List Value} {vt vn : Value} {xt xn : List Value} {g' : GrD} (h : PkS u n s bp capf capp cf cp vt vn xt xn g')
  {X : Nat→Prop} {w0 w : World} {r : Gh} {L : List Asr} (S : StX X w0 r w (.cell bf cf 33 :: .cell bp cp 44 :: .row vt 57 5 g'.tys.length xt :: .row vn 9 1 g'.nms.length xn::L)) [Le s r] :
  ∃ q,Holds q w∧Le r q∧SlB 7 q (GrG q) (.slice (some ⟨bf,0,none⟩) u.fs.length capf) (zY u n g').fs:=by
 have S:=S.perm (M:=.row vt 57 5 g'.tys.length xt :: .row vn 9 1 g'.nms.length xn :: .cell bp cp 44 :: .cell bf cf 33::L) (by
  refine List.Perm.trans (l₂:=.row vt 57 5 g'.tys.length xt :: .cell bf cf 33 :: .cell bp cp 44 :: .row vn 9 1 g'.nms.length xn::L) ?_ ?_
  ·exact (List.perm_middle (l₁:=[Asr.cell bf cf 33,Asr.cell bp cp 44]))
  ·refine .cons _ (List.Perm.trans (l₂:=.row vn 9 1 g'.nms.length xn :: .cell bf cf 33 :: .cell bp cp 44::L) ?_ ?_)
   ·exact (List.perm_middle (l₁:=[Asr.cell bf cf 33,Asr.cell bp cp 44]))
   ·exact .cons _ (.swap _ _ _))
 obtain ⟨s1,T,h1,_,_⟩:=S.doneRow h.tys (by decide) rfl
 obtain ⟨s2,T,h2,_,_⟩:=T.doneRow h.nms (by decide) rfl
 obtain ⟨T,h3⟩:=StX.cutSl T h.pts (by decide) h.pcap
 have T:=StX.frz T
 obtain ⟨vo,hm,hvo⟩:=h.me
 obtain ⟨f1,f2,f3⟩:=h.few1
 have few:=h.few
 refine ⟨_,T.holds,inferInstance,⟨?_,by rw [show (zY u n g').fs=u.fs.set n g' from rfl,List.length_set];simp only [maxLen];omega⟩⟩
 have hl : (zY u n g').fs.length=u.fs.length:=by simp [zY]
 have hR : RowOf 7 (GrG ((((r.or s1).or s2).or (Go.Sh.one bp cp 44)).or (Go.Sh.one bf cf 33))) (cf.take ((zY u n g').fs.length*7)) (zY u n g').fs:=by
  refine ⟨by rw [List.length_take,h.flen,hl,Nat.min_eq_left (Nat.mul_le_mul_right _ h.fcap)],fun i hi=>?_⟩
  rw [Zw hi]
  have hi' : i<u.fs.length:=by omega
  by_cases hin : i=n
  ·subst hin
   have e : (zY u i g').fs[i]=g':=List.getElem_set_self _
   rw [e,hm]
   exact ⟨vo,vt,vn,_,rfl,hvo.cells,⟨h1.up' inferInstance fun _ _ h=>TyG.up h,by simp only [maxLen];omega⟩,⟨h2.cells,by simp only [maxLen];omega⟩,⟨h3.up' inferInstance fun _ _ h=>PtG.up h,by simp only [maxLen];omega⟩⟩
  ·have e : (zY u n g').fs[i]=u.fs[i]:=List.getElem_set_ne (by omega) _
   rw [e]
   exact GrG.up (h.oth i hi' hin)
 have:=hR.sl (p:=some ⟨bf,0,none⟩) (cap:=capf) (by simp) (by rw [hl];exact h.fcap) (fun w k=>(Sl.blk (yy (b:=bf) (c:=cf) (T:=33) w (k.le (h:=inferInstance)))).take _) (by decide) ⟨_,T.holds⟩
 rwa [hl] at this
theorem PkS.nx {u : UnD} {n : Nat} {s : Gh} {bp capf capp : Nat} {cf cp : List Value} {vt vn : Value} {xt xn : List Value} {g : GrD} (h : PkS u n s bp capf capp cf cp vt vn xt xn g) {q : Nat} (hq : q<g.pts.length) {k : Int} :
  PkS u n s bp capf capp cf (cp.set (q*21+18) (.int .i64 k)) vt vn xt xn (xh g q (jv g.pts[q] k)):=by
 have hl : (xh g q (jv g.pts[q] k)).pts.length=g.pts.length:=List.length_set
 refine ⟨h.flen,h.fcap,h.few,by rw [List.length_set];exact h.plen,by rw [hl];exact h.pcap,h.hn,h.oth,?_,h.tys,h.nms,?_,by rw [hl];exact h.few1⟩
 ·obtain ⟨vo,a,b⟩:=h.me
  exact ⟨vo,by rw [a,hl];rfl,b⟩
 ·refine ⟨by rw [hl,List.take_set,List.length_set];exact h.pts.1,fun i hi=>?_⟩
  have hi' : i<g.pts.length:=by omega
  rw [hl,Zw hi']
  have hp:=h.pts.2 i hi'
  rw [Zw hi'] at hp
  by_cases hiq : i=q
  ·subst hiq
   have e : (xh g i (jv g.pts[i] k)).pts[i]=jv g.pts[i] k:=List.getElem_set_self _
   rw [e,abd (by decide)]
   generalize (cp.drop (i*21)).take 21=c at hp
   obtain ⟨_,_,_,_,_,rfl,k1,k2,k3,k4,k5⟩:=hp
   exact ⟨_,_,_,_,_,rfl,k1,k2,k3,k4,k5⟩
  ·have e : (xh g q (jv g.pts[q] k)).pts[i]=g.pts[i]:=List.getElem_set_ne (by omega) _
   rw [e,abc (by decide) hiq]
   exact hp
theorem PkS.more {u : UnD} {n : Nat} {s s' : Gh} {bp capf capp : Nat} {cf cp : List Value} {vt vn vt' vn' : Value} {xt xn c : List Value} {g : GrD} {t : TyD} {x : ByteArray} (h : PkS u n s bp capf capp cf cp vt vn xt xn g) (ht : TyC s' c t) (hc : c.length=5) (hb : g.tys.length≤1000∧g.nms.length≤1000) [Le s s'] :
  PkS u n s' bp capf capp ((cf.set (n*7+4) vt').set (n*7+5) vn') cp vt' vn' (xt++c) (xn ++ [.string x]) (xY g t x):=by
 obtain ⟨f1,f2,f3⟩:=h.few1
 have l1 : (xY g t x).tys.length=g.tys.length+1:=by simp [xY]
 have l2 : (xY g t x).nms.length=g.nms.length+1:=by simp [xY]
 refine ⟨by rw [List.length_set,List.length_set];exact h.flen,h.fcap,h.few,h.plen,h.pcap,h.hn,fun i hi hin=>?_,?_,?_,?_,h.pts.mono fun _ _ h=>PtG.up h,⟨by omega,by omega,f3⟩⟩
 ·rw [abc (by decide) hin,abc (by decide) hin]
  exact GrG.up (h.oth i hi hin)
 ·obtain ⟨vo,a,b⟩:=h.me
  refine ⟨vo,?_,b.cells⟩
  rw [abd (by decide),abd (by decide),a]
  rfl
 ·exact (h.tys.mono fun _ _ h=>TyG.up h).snoc hc ht
 ·exact h.nms.snoc rfl rfl
end Go.Proofs
end
section
namespace Go.Proofs
open Go.Sh
set_option maxRecDepth 100000
set_option linter.unusedSimpArgs false
set_option linter.unusedVariables false
abbrev exL (k : Int) : List Value:=[.int .u8 1,.int .i64 0,.slice none 0 0,.int .u8 k,.int .i64 7,.int .i64 0,.slice none 0 0,.int .u8 0,.int .i64 0,.int .i64 0,.slice none 0 0,.slice none 0 0,.string ByteArray.empty,.int .i64 0,.slice none 0 0,.bool false,.int .i64 0,.int .i64 0,.int .i64 1,.int .i64 0,.int .i64 0]
abbrev QS (bt bn bp : Nat) : List Value:=[.string ⟨#[109,97,105,110]⟩,.int .i64 0,.slice none 0 0,.int .i64 0,.slice (some ⟨bt,0,none⟩) 1 1,.slice (some ⟨bn,0,none⟩) 1 1,.slice (some ⟨bp,0,none⟩) 2 2]
abbrev exM (k : Int) (bt bn bp bg b2 : Nat) : List Asr:=[.cell b2 [.slice none 0 0,.slice (some ⟨bg,0,none⟩) 1 1,.int .i64 0] 25,.cell bg (QS bt bn bp) 33,.cell bp (exL k++hl3) 44,.cell bn [.string ⟨#[]⟩] 9,.cell bt Z4 57]
abbrev ad0 (k : Int) (bt bn bp bg : Nat) : Gh:=(((Go.Sh.one bt Z4 57).or (Go.Sh.one bn [.string ⟨#[]⟩] 9)).or (Go.Sh.one bp (exL k++hl3) 44)).or (Go.Sh.one bg (QS bt bn bp) 33)
abbrev exV (bg : Nat) : Value:=.agg #[.slice none 0 0,.slice (some ⟨bg,0,none⟩) 1 1,.int .i64 0]
theorem ki {k : Int} {bt bn bp bg b2 : Nat} {w0 w : World} {r : Gh} {M : List Asr} (S : StX noX w0 r w (exM k bt bn bp bg b2)) : Holds (ad0 k bt bn bp bg) w:=
 (((yc (S.has _ (by simp : Asr.cell bt Z4 57 ∈ _))).or (yc (S.has (.cell bn [.string ⟨#[]⟩] 9) (by simp)))).or (yc (S.has (.cell bp (exL k++hl3) 44) (by simp)))).or (yc (S.has (.cell bg (QS bt bn bp) 33) (by simp)))
theorem aee {k : Int} {bt bn bp bg b2 : Nat} {w0 w : World} {r : Gh} {M : List Asr} (S : StX noX w0 r w (exM k bt bn bp bg b2)) : UnG (ad0 k bt bn bp bg) (exV bg) (exU k):=by
 have hz : ∀ {r : Gh} {α : Type} {sz : Nat} {R : List Value→α→Prop},SlB sz r R (.slice none 0 0) ([] : List α):=xm
 have ht:=Jy (sz:=5) (b:=bt) (e:=57) (R:=TyC nothing) (l:=[aaN]) (w:=w) (xs:=Z4) (ja (c:=Z4) rfl (show TyC nothing Z4 aaN from Jm)) (by decide) (S.has (.cell bt Z4 57) (by simp))
 have hn:=Jy (sz:=1) (b:=bn) (e:=9) (R:=Z2) (l:=[(⟨#[]⟩ : ByteArray)]) (w:=w) (xs:=[.string ⟨#[]⟩]) (ja rfl rfl) (by decide) (S.has (.cell bn [.string ⟨#[]⟩] 9) (by simp))
 have hp:=Jy (sz:=21) (b:=bp) (e:=44) (R:=PtG nothing) (l:=[exA k,exB]) (w:=w) (xs:=exL k++hl3) (vN rfl ⟨_,_,_,_,_,rfl,hz,hz,hz,hz,hz⟩ (ja rfl ⟨_,_,_,_,_,rfl,hz,hz,hz,hz,hz⟩)) (by decide) (S.has (.cell bp (exL k++hl3) 44) (by simp))
 have hg:=Jy (sz:=7) (b:=bg) (e:=33) (R:=GrG ((((Go.Sh.one bt Z4 57).or (Go.Sh.one bn [.string ⟨#[]⟩] 9)).or (Go.Sh.one bp (exL k++hl3) 44)))) (l:=[exG k]) (w:=w) (xs:=QS bt bn bp)
  (ja rfl ⟨_,_,_,_,rfl,hz,XX (hl:=Nat.le_of_ble_eq_true rfl) (ht.up' inferInstance fun c x hx=>TyG.up hx),XX (hl:=Nat.le_of_ble_eq_true rfl) hn.cells,XX (hl:=Nat.le_of_ble_eq_true rfl) (hp.up' inferInstance fun c x hx=>PtG.up hx)⟩) (by decide) (S.has (.cell bg (QS bt bn bp) 33) (by simp))
 exact ⟨none,0,_,rfl,fun _=>rfl,Nat.zero_le _,trivial,Nat.zero_le _,XX (hl:=Nat.le_of_ble_eq_true rfl) (hg.up' inferInstance fun c x hx=>GrG.up hx)⟩
set_option maxHeartbeats 4000000 in
theorem YZ {w : World} {r : Gh} {K : Value→World→Prop} (hT : TabZ r) (hr : Holds r w) (h : ∀ w',Ext w w'→K (.bool true) w') : zd Tryz.prog Tryz.qF #[] w K:=by
 refine Tryz.JR ?_
 unfold Tryz.YV
 have S:=St.start hr
 refine zu (cs:=Z4.toArray) (by kernel_rfl) ?_
 refine S.al fun b1 w1 S=>?_
 refine S.stB (b:=b1) fun w2 S=>?_
 refine S.ldB (b:=b1) ?_ rfl
 refine S.lit (e:=57) (cs:=Z4) (by kernel_rfl) fun bt w3 S=>?_
 refine S.lit (e:=9) (cs:=[.string ⟨#[]⟩]) (by kernel_rfl) fun bn w4 S=>?_
 refine zu (cs:=#[.int .u8 1,.int .i64 7,.int .i64 0,.slice none 0 0]) (by kernel_rfl) ?_
 refine zu (cs:=(exL 1).toArray) (by kernel_rfl) ?_
 refine zu (cs:=hl3.toArray) (by kernel_rfl) ?_
 refine S.lit (e:=44) (cs:=exL 1++hl3) (by kernel_rfl) fun bp w5 S=>?_
 refine zu (cs:=(QS bt bn bp).toArray) (by kernel_rfl) ?_
 refine S.lit (e:=33) (cs:=QS bt bn bp) (by kernel_rfl) fun bg w6 S=>?_
 refine zu (cs:=#[.slice none 0 0,.slice (some ⟨bg,0,none⟩) 1 1,.int .i64 0]) (by kernel_rfl) ?_
 refine S.al fun b2 w7 S=>?_
 refine S.stB (b:=b2) fun w8 S=>?_
 have S:=S.drop b1
 have S : StX noX w r w8 (exM 1 bt bn bp bg b2):=S
 refine S.ldB (b:=b2) ?_ rfl
 have hu:=aee (M:=[]) S
 refine vm (ki (M:=[]) S) hu fun w9 e9=>?_
 have S:=S.go e9
 rw [Vs Jz]
 refine gS_ ?_
 refine S.ldB (b:=b2) ?_ rfl
 refine aaY (hT.up (s:=r.or (ad0 1 bt bn bp bg))) (S.holds.or (ki (M:=[]) S)) hu.up (fun _=>afm) fun w10 e10=>?_
 have S:=S.go e10
 rw [aeE,jT.1]
 refine gS_ ?_
 refine S.ldB (b:=b2) ?_ rfl
 refine aa5 (ki (M:=[]) S) hu fun v11 s11 w11 e11 n11 hn=>?_
 rw [aeF] at hn
 rw [jT.1]
 obtain ⟨S,d11,a11⟩:=S.tell e11 n11
 obtain ⟨px,capx,rfl,_,_⟩:=hn.shape
 obtain ⟨bx,ox,cx,rfl,hcx,hcc,hcell⟩:=hn.get (by decide) (i:=0) (by decide)
 obtain rfl : cx=_:=hcc
 refine gS_ ?_
 refine S.ldB (b:=b2) ?_ rfl
 refine Zv (ki (M:=[]) S) hu fun v12 s12 w12 e12 n12 ho=>?_
 rw [ac7] at ho
 rw [ac7]
 obtain ⟨S,d12,a12⟩:=S.tell e12 n12
 obtain ⟨py,capy,rfl,_,_⟩:=ho.shape
 refine gS_ ?_
 refine S.ldB (b:=b2) ?_ rfl
 refine Ju (ki (M:=[]) S) hu (fun e w13 hn _=>by rw [afl] at hn;cases hn) fun p c s13 w13 hp e13 n13 hpl=>?_
 obtain ⟨S,d13,a13⟩:=S.tell e13 n13
 obtain ⟨va,rfl,hva⟩:=hpl
 obtain ⟨qa,ca,rfl,_,_⟩:=hva.sl.shape
 refine gS_ ?_
 refine S.al fun b12 w14 S=>?_
 refine S.stB (b:=b12) fun w15 S=>?_
 have S:=S.drop b12
 refine gp_ ?_
 refine zh (c:=false) (fun _ K2 hK2=>by refine gg_ ?_;exact hK2) ?_
 refine zh (c:=false) (fun _ K2 hK2=>by refine gg_ ?_;exact hK2) ?_
 refine zh (c:=false) (fun _ K2 hK2=>by refine gg_ ?_;exact hK2) ?_
 refine zh (c:=false) (fun _ K2 hK2=>by refine gg_ ?_;exact hK2) ?_
 refine zh (c:=false) (fun _ K2 hK2=>by refine gg_ ?_;exact hK2) ?_
 refine zh (c:=false) (fun _ K2 hK2=>?_) ?_
 ·refine gg_ ?_
  refine s_c (by decide) ?_
  refine zE (v:=.int .i64 1) (by simpa using S.at (hcell 0 _ rfl)) ?_
  refine gg_ ?_
  exact hK2
 refine zh (c:=false) (fun _ K2 hK2=>by refine gg_ ?_;exact hK2) ?_
 refine zh (c:=false) (fun _ K2 hK2=>by refine gg_ ?_;exact hK2) ?_
 refine zh (c:=false) (fun _ K2 hK2=>by refine gg_ ?_;exact hK2) ?_
 refine zh (c:=false) (fun _ K2 hK2=>by refine gg_ ?_;exact hK2) ?_
 refine zh (c:=false) (fun _ K2 hK2=>by refine gg_ ?_;exact hK2) ?_
 refine xw (c:=false) (fun _ K2 hK2=>?_) fun w20 e20=>?_
 ·refine S.ldB (b:=b2) ?_ rfl
  refine xc (ki (M:=[]) S) hu fun w21 e21=>?_
  rw [kh.2 Jz]
  refine gp_ ?_
  exact hK2 _ e21
 have S:=S.go e20
 refine xw (c:=false) (fun _ K2 hK2=>?_) fun w22 e22=>?_
 ·refine S.ldB (b:=b2) ?_ rfl
  refine S.ldB (b:=b2) ?_ rfl
  refine aa1 (ki (M:=[]) S) hu hu fun w21 e21=>?_
  rw [kh.2 Jz,YJ]
  refine gp_ ?_
  exact hK2 _ e21
 have S:=S.go e22
 refine c_f (by simp) ?_
 refine gg_ ?_
 refine S.st (b:=bp) fun w30 S=>?_
 have S : StX noX w _ w30 (exM 2 bt bn bp bg b2):=S
 have hu2:=aee (M:=[]) S
 refine S.ldB (b:=b2) ?_ rfl
 refine vm (ki (M:=[]) S) hu2 fun w31 e31=>?_
 have S:=S.go e31
 rw [Vv]
 refine gS_ ?_
 refine zi (c:=true) (fun _ K2 hK2=>by refine gg_ ?_;exact hK2) ?_
 refine zi (c:=true) (fun _ K2 hK2=>by refine gg_ ?_;exact hK2) ?_
 refine zn (c:=true) (fun _ K2 hK2=>?_) fun w32 e32=>?_
 ·refine S.ldB (b:=b2) ?_ rfl
  refine xc (ki (M:=[]) S) hu2 fun w33 e33=>?_
  rw [afV]
  refine gp_ ?_
  exact hK2 _ e33
 have:=h _ (S.go e32).ext
 simpa using this
end Go.Proofs
end
section
namespace Go.Proofs.Tryz
open Go.Sh
set_option maxRecDepth 100000
end Go.Proofs.Tryz
end
section
namespace Go.Sh
end Go.Sh
namespace Go.Proofs
open Go.Sh
set_option maxRecDepth 100000
set_option linter.unusedSimpArgs false
set_option linter.unusedVariables false
end Go.Proofs
end
section
namespace Go.Sh
end Go.Sh
namespace Go.Proofs
open Go.Sh
set_option maxRecDepth 100000
set_option linter.unusedSimpArgs false
set_option linter.unusedVariables false
end Go.Proofs
end
section
namespace Go.Proofs
open Go.Sh
set_option maxRecDepth 100000
set_option linter.unusedSimpArgs false
set_option linter.unusedVariables false
end Go.Proofs
end
section
namespace Go.Proofs
open Go.Sh
set_option maxRecDepth 100000
set_option linter.unusedSimpArgs false
set_option linter.unusedVariables false
end Go.Proofs
end
section
namespace Go.Proofs
open Go.Sh
set_option maxRecDepth 100000
set_option linter.unusedSimpArgs false
set_option linter.unusedVariables false
end Go.Proofs
end
section
namespace Go.Proofs
open Go.Sh
set_option maxRecDepth 100000
set_option linter.unusedSimpArgs false
set_option linter.unusedVariables false
end Go.Proofs
end
section
namespace Go.Proofs
open Go.Sh
set_option maxRecDepth 100000
set_option linter.unusedSimpArgs false
set_option linter.unusedVariables false
end Go.Proofs
end
section
namespace Go.Proofs
open Go.Sh
set_option maxRecDepth 100000
set_option linter.unusedSimpArgs false
set_option linter.unusedVariables false
end Go.Proofs
end
section
namespace Go.Sh
end Go.Sh
namespace Go.Proofs
open Go.Sh
set_option maxRecDepth 100000
set_option linter.unusedSimpArgs false
set_option linter.unusedVariables false
end Go.Proofs
end
section
namespace Go.Proofs
open Go.Sh
set_option maxRecDepth 100000
set_option linter.unusedSimpArgs false
set_option linter.unusedVariables false
end Go.Proofs
end
section
namespace Go.Sh
end Go.Sh
namespace Go.Proofs
open Go.Sh
set_option maxRecDepth 100000
set_option linter.unusedSimpArgs false
set_option linter.unusedVariables false
end Go.Proofs
end
section
namespace Go.Proofs
open Go.Sh
set_option maxRecDepth 100000
set_option linter.unusedSimpArgs false
set_option linter.unusedVariables false
end Go.Proofs
end
section
namespace Go.Proofs
open Go.Sh
set_option maxRecDepth 100000
set_option linter.unusedSimpArgs false
set_option linter.unusedVariables false
end Go.Proofs
end
section
namespace Go.Proofs
open Go.Sh
set_option maxRecDepth 100000
set_option linter.unusedSimpArgs false
set_option linter.unusedVariables false
def PlN (p : PlD) : Prop:=yD p.l∧∀ k ∈ p.ps,yD k
def OpN (o : OpD) : Prop:=yD o.n∧PlN o.pl
structure PtN (p : PtD) : Prop where
 to : PlN p.to
 a : OpN p.a
 b : OpN p.b
 args : ∀ o ∈ p.args,OpN o
 fr : PlN p.fr
 fn : yD p.fn
 st : yD p.st
 nx : yD p.nx
 el : yD p.el
def UnN (u : UnD) : Prop:=∀ g ∈ u.fs,∀ p ∈ g.pts,PtN p
end Go.Proofs
end
section
namespace Go.Proofs
open Go.Shelf
set_option maxRecDepth 100000
end Go.Proofs
end
section
namespace Go.Sh
open Go.RowKit
end Go.Sh
namespace Go.Proofs
open Go.Sh Go.RowKit
set_option maxRecDepth 100000
set_option linter.unusedSimpArgs false
set_option linter.unusedVariables false
variable {w0 w : World} {r : Gh} {L : List Asr} {X : Nat→Prop}
end Go.Proofs
end
section
namespace Go.Proofs
open Go.Sh
set_option maxRecDepth 100000
set_option linter.unusedSimpArgs false
set_option linter.unusedVariables false
end Go.Proofs
end
section
namespace Go.Proofs
open Go.Sh
set_option maxRecDepth 100000
set_option linter.unusedSimpArgs false
set_option linter.unusedVariables false
end Go.Proofs
end
section
namespace Go.Sh
theorem afp {w : World} {b n m x : Bool} {A0 : (List Value→World→Prop)→Prop} {A1 A2 : (List Value→World→Prop)→World→Prop} {Z : Value→World→Prop}
  (h0 : b=false→∀ K : List Value→World→Prop,K [.bool n] w→A0 K) (h1 : n=true→∀ K : List Value→World→Prop,K [.bool m] w→A1 K w)
  (h2 : n=true→m=false→∀ K : List Value→World→Prop,(∀ w',Ext w w'→K [.bool x] w')→A2 K w) (hZ : ∀ w',Ext w w'→Z (.bool (b||(n&&(m||x)))) w') :
  za (fun K=>gIf (.bool b) false (A0 K) (K [undef] w)) fun s135 _ w137=>
   za (fun K=>gIf (s135.getD 0 undef) true (A1 K w137) (K [undef] w137)) fun s139 _ w141=>
    za (fun K=>gIf (s139.getD 0 undef) false (A2 K w141) (K [undef] w141)) fun s143 _ w145=>
     za (fun K=>gIf (s135.getD 0 undef) true (zc (s139.getD 0 undef) (.bool true) (s143.getD 0 undef) fun t=>K [t] w145) (K [undef] w145)) fun s148 _ w150=>
      za (fun K=>gIf (.bool b) false (zc (s135.getD 0 undef) (s148.getD 0 undef) (.bool false) fun t=>K [t] w150) (K [undef] w150)) fun s152 _ w154=>
       zc (.bool b) (.bool true) (s152.getD 0 undef) fun t=>Z t w154:=by
 cases b<;>cases n<;>cases m<;>cases x <;>
  (iterate 5 (intro K hK;first|refine hK _ _ fun _=>?_|refine h0 rfl _ (hK _ _ fun _=>?_)|refine h1 rfl _ (hK _ _ fun _=>?_)|(refine h2 rfl rfl _ fun w1 e1=>hK _ _ fun _=>?_)|refine ⟨_,rfl,hK _ _ fun _=>?_⟩)) <;>
  exact ⟨_,rfl,by simpa using hZ _ (by first|assumption|exact Ext.refl _)⟩
end Go.Sh
namespace Go.Proofs
open Go.Sh
set_option maxRecDepth 100000
set_option linter.unusedSimpArgs false
set_option linter.unusedVariables false
end Go.Proofs
end
section
namespace Go.Proofs
open Go.Sh
set_option maxRecDepth 100000
set_option linter.unusedSimpArgs false
set_option linter.unusedVariables false
noncomputable def vu (u : UnD) (n q : Int) : PlD × Bool × Int:=if ptE u n q≠0 then (yS,false,ptE u n q) else match qr u n q with|some p=>if 1≤p.op∧p.op≤8 then (p.to,true,0) else (yS,false,0)|none=>(yS,false,0)
theorem QT {u : UnD} {n q : Int} {v : Value} {w : World} {r : Gh} {K : Value→World→Prop} (hr : Holds r w) (hu : UnG r v u)
  (h : ∀ c s w',Ext w w'→New w s w'→PlG s c (vu u n q).1→K (.tuple #[.agg c.toArray,.bool (vu u n q).2.1,.int .i64 (vu u n q).2.2]) w') : zd Tryz.prog Tryz.xy #[v,.int .i64 n,.int .i64 q] w K:=by
 refine Tryz.Zf ?_
 unfold Tryz.ji
 have hu0:=hu
 obtain ⟨p0,cap0,vf,rfl,_,_,hst,hsl,hfn⟩:=hu
 obtain ⟨qf,capf,rfl,_,_⟩:=hfn.sl.shape
 have S:=St.start hr
 refine S.box fun b3 w1 S=>?_
 have S : StX noX w r w1 [.cell b3 [.slice p0 u.ss.length cap0,.slice qf u.fs.length capf,.int .i64 u.mn] 25]:=S
 refine S.al fun b6 w2 S=>?_
 refine S.ldB (b:=b3) ?_ rfl
 refine kt S.holds hu0 fun c p w3 e3 hp hpi=>?_
 have S:=S.go e3
 obtain ⟨z1,z2,z3,z4,z5,t1,t2,t3,t4,t5,rfl,hp0⟩:=yV hp
 refine gS_ ?_
 refine S.al fun b9 w4 S=>?_
 refine S.stB (b:=b9) fun w5 S=>?_
 refine gp_ ?_
 refine zh (c:=decide (p.op<1)) (fun _ K2 hK2=>by refine gg_ ?_;exact hK2) ?_
 refine zh (c:=decide (8<p.op)) (fun _ K2 hK2=>by refine gg_ ?_;exact hK2) ?_
 refine c_b (fun hb=>?_) (fun hb=>?_)
 ·refine S.ldB (b:=b6) ?_ rfl
  refine S.stB (b:=b6) fun w6 S=>?_
  refine S.ceB (b:=b6) ?_ rfl
  have hz : vu u n q=(yS,false,ptE u n q):=by
   unfold vu
   by_cases h0 : ptE u n q=0
   ·rw [if_neg (by omega),hpi h0,h0]
    simp only [Bool.or_eq_true,decide_eq_true_eq] at hb
    dsimp only
    rw [if_neg (by omega)]
   ·rw [if_pos h0]
  rw [hz] at h
  exact h [.int .i64 0,.slice none 0 0] nothing _ S.ext New.nothing ⟨_,rfl,xm⟩
 ·simp only [Bool.or_eq_false_iff,decide_eq_false_iff_not] at hb
  have h0 : ptE u n q=0:=by omega
  have hA : vu u n q=(p.to,true,0):=by
   unfold vu
   rw [if_neg (by omega),hpi h0]
   dsimp only
   rw [if_pos (by omega)]
  rw [hA] at h
  obtain ⟨_,_,_,_,_,hE,k1,_⟩:=id hp0
  cases hE
  have hpl : p.to.ps.length≤1000000:=by
   obtain ⟨hf,hq0,hn,hql⟩:=Js h0
   obtain ⟨hM,_,_⟩:=Zr hf
   obtain ⟨_,hpe⟩:=QN hn (hpi h0)
   have hpg:=hM.pts _ (List.getElem_mem hn) p (by rw [← hpe];exact List.getElem_mem _)
   have:=aaW hpg (by omega)
   omega
  refine gg_ ?_
  refine S.ldN (b:=b9) ?_
  refine qN (p:=p.to) S.holds ⟨_,rfl,k1⟩ hpl fun c6 s w6 e6 n6 h6=>?_
  obtain ⟨S,d6,a6⟩:=S.tell e6 n6
  obtain ⟨v6,rfl,hl6⟩:=id h6
  obtain ⟨q6,k6,rfl,_,_⟩:=hl6.sl.shape
  refine S.stB (b:=b6) fun w7 S=>?_
  refine S.ceB (b:=b6) ?_ rfl
  exact h _ s _ S.ext (S.newOf a6) h6
end Go.Proofs
end
section
namespace Go.Proofs
open Go.Sh
set_option maxRecDepth 100000
set_option linter.unusedSimpArgs false
set_option linter.unusedVariables false
theorem ZT {u : UnD} {n : Int} {r : Gh} {qf : Option Addr} {capf : Nat} (hfn : SlB 7 r (GrG r) (.slice qf u.fs.length capf) u.fs) (hn0 : 0≤n) (hn1 : n<u.fs.length) :
  ∃ g bf of cf,qf=some ⟨bf,of,none⟩∧cf.length=7∧GrG r cf g∧(∀ j v,cf[j]? = some v→Ob r fun w=>w.cell? ⟨bf,of+n.toNat*7+j,none⟩=some v)∧u.fs[n.toNat]? = some g:=by
 have hlt : n.toNat<u.fs.length:=by omega
 obtain ⟨bf,of,cf,hE,hcf,hgc,hfo⟩:=hfn.sl.get (by decide) hlt
 exact ⟨u.fs[n.toNat],bf,of,cf,hE,hcf,hgc,hfo,List.getElem?_eq_getElem hlt⟩
theorem afq {w : World} {b n x : Bool} {A0 : (List Value→World→Prop)→Prop} {A1 : (List Value→World→Prop)→World→Prop} {Z : Value→World→Prop}
  (h0 : b=false→∀ K : List Value→World→Prop,K [.bool n] w→A0 K) (h1 : n=true→∀ K : List Value→World→Prop,(∀ w',Ext w w'→K [.bool x] w')→A1 K w) (hZ : ∀ w',Ext w w'→Z (.bool (b||(n&&x))) w') :
  za (fun K=>gIf (.bool b) false (A0 K) (K [undef] w)) fun s135 _ w137=>
   za (fun K=>gIf (s135.getD 0 undef) true (A1 K w137) (K [undef] w137)) fun s139 _ w141=>
    za (fun K=>gIf (.bool b) false (zc (s135.getD 0 undef) (s139.getD 0 undef) (.bool false) fun t=>K [t] w141) (K [undef] w141)) fun s152 _ w154=>
     zc (.bool b) (.bool true) (s152.getD 0 undef) fun t=>Z t w154:=by
 cases b with
 |true=>
  intro K hK
  refine hK _ _ fun _=>?_
  intro K hK
  refine hK _ _ fun _=>?_
  intro K hK
  refine hK _ _ fun _=>?_
  exact ⟨_,rfl,by simpa using hZ _ (Ext.refl _)⟩
 |false=>
  intro K hK
  refine h0 rfl _ (hK _ _ fun _=>?_)
  cases n with
  |false=>
   intro K hK
   refine hK _ _ fun _=>?_
   intro K hK
   refine ⟨_,rfl,hK _ _ fun _=>?_⟩
   exact ⟨_,rfl,by simpa using hZ _ (Ext.refl _)⟩
  |true=>
   intro K hK
   refine h1 rfl _ fun w1 e1=>hK _ _ fun _=>?_
   intro K hK
   refine ⟨_,rfl,hK _ _ fun _=>?_⟩
   exact ⟨_,rfl,by simpa using hZ _ e1⟩
theorem ad1 {l : List TyD} (h : 0<l.length) : l.headD zL=l[0]:=by
 cases l with
 |nil=>simp at h
 |cons a l=>rfl
theorem VA {u : UnD} {g : GrD} {p : PtD} (h : zC u g p=true) (h4 : p.op=4) : (zp u.ss g.tys p.to).1.k=4∧(zp u.ss g.tys p.to).1.m=p.mu:=by
 have h2:=jK h
 rw [ptG] at h2
 simp only [h4,Int.reduceEq,if_false,if_true,Bool.and_eq_true,decide_eq_true_eq,isK] at h2
 obtain ⟨⟨⟨_,hk4⟩,hm⟩,_⟩:=h2
 exact ⟨hk4,hm⟩
theorem ade {l : List Int} : RowOf 1 JY (ints l) l:=⟨by rw [ke,Nat.mul_one],fun j hj=>by
 rw [Nat.mul_one,ints,← List.map_drop,← List.map_take,List.drop_eq_getElem_cons hj];rfl⟩
theorem adf {u : UnD} {n : Nat} {g g' : GrD} : zY (zY u n g) n g'=zY u n g':=by simp [zY]
theorem aeK {w : World} {base : Nat} {e : TypeId} {sz n : Nat} {v : Value} {xs : List Value} (h : w.ownsRow base e sz v n xs) : n≤maxLen:=by
 rcases qQ h with ⟨_,h1,_⟩|⟨_,_,_,_,_,_,h1,h2,_⟩
 ·omega
 ·omega
noncomputable def plen (u : UnD) (n : Int) : Nat:=(u.fs[n.toNat]?.map fun g=>g.pts.length).getD 0
theorem abL {u : UnD} {n : Int} {g : GrD} (h : u.fs[n.toNat]? = some g) : plen u n=g.pts.length:=by rw [plen,h];rfl
set_option maxHeartbeats 8000000 in
theorem Qb {u : UnD} {n q nx : Int} {t : TyD} {vt v : Value} {w : World} {r : Gh} {K : Value→World→Prop} (hT : TabZ r) (hr : Holds r w) (hu : UnG r v u) (hvt : TyG r vt t)
  (h : ∀ w',Ext w w'→K (.bool true) w') : zd Tryz.prog Tryz.vx #[v,.int .i64 n,.int .i64 q,.int .i64 nx,vt] w K:=by
 refine Tryz.Xm ?_
 unfold Tryz.vC
 have hu0:=hu
 have hvt0:=hvt
 obtain ⟨p0,cap0,vf,rfl,_,_,hst,hsl,hfn⟩:=hu
 obtain ⟨qf,capf,rfl,_,_⟩:=hfn.sl.shape
 obtain ⟨pt,capt,rfl,_,_,_⟩:=hvt
 have hfl : u.fs.length≤9223372036854775807:=hfn.few
 have hsl':=hsl
 have S:=St.start hr
 refine S.box fun b5 w1 S=>?_
 have S : StX noX w r w1 [.cell b5 [.slice p0 u.ss.length cap0,.slice qf u.fs.length capf,.int .i64 u.mn] 25]:=S
 refine S.box fun b9 w2 S=>?_
 have S : StX noX w r w2 [.cell b9 [.int .u8 t.k,.bool t.m,.int .i64 t.re,.int .i64 t.st,.slice pt t.of.length capt] 57,.cell b5 [.slice p0 u.ss.length cap0,.slice qf u.fs.length capf,.int .i64 u.mn] 25]:=S
 refine S.ldB (b:=b5) ?_ rfl
 refine aa3 S.holds hu0 fun b w3 e3 hfit=>?_
 have S:=S.go e3
 refine gp_ ?_
 refine afR (fun c w'=>(c=false→b=true)∧Ext w3 w') (fun hb=>⟨fun h=>(by cases h),.refl _⟩) (fun hb K2 hK2=>?_) fun c w4 hc=>?_
 ·refine S.ldB (b:=b9) ?_ rfl
  refine qO 60 (by decide) (by decide) (by decide) S.holds hvt0 fun x w4 e4=>?_
  refine gp_ ?_
  exact hK2 _ _ ⟨fun _=>by simpa using hb,e4⟩
 obtain ⟨hc,e4⟩:=hc
 have S:=S.go e4
 refine xw (c:=!qM u) (fun _ K2 hK2=>?_) fun w5 e5=>?_
 ·refine S.ldB (b:=b5) ?_ rfl
  refine xc S.holds hu0 fun w5 e5=>?_
  refine gp_ ?_
  exact hK2 _ e5
 have S:=S.go e5
 refine zh (c:=decide (n<0)) (fun _ K2 hK2=>by refine gg_ ?_;exact hK2) ?_
 refine zh (c:=decide ((u.fs.length : Int)≤n)) (fun _ K2 hK2=>by refine gg_ ?_;exact hK2) ?_
 refine zh (c:=decide (q<0)) (fun _ K2 hK2=>by refine gg_ ?_;exact hK2) ?_
 refine zh (c:=decide ((plen u n : Int)≤q)) (fun hb K2 hK2=>?_) ?_
 ·simp only [Bool.or_eq_false_iff,decide_eq_false_iff_not] at hb
  obtain ⟨⟨⟨_,h0⟩,h1⟩,_⟩:=hb
  obtain ⟨g,bf,of,cf,rfl,hcf,hgc,hfo,hgi⟩:=ZT hfn (n:=n) (by omega) (by omega)
  obtain ⟨x1,x2,x3,x4,y1,y2,y3,y4,rfl,hg0⟩:=xr hgc
  rw [abL hgi] at hK2
  refine gg_ ?_
  refine zE (S.at (hfo 6 _ rfl)) ?_
  refine gg_ ?_
  exact hK2
 refine c_b (fun _=>YZ hT S.holds fun w3 e3=>h _ (S.go e3).ext) (fun hgood=>?_)
 simp only [Bool.or_eq_false_iff,decide_eq_false_iff_not,Bool.not_eq_false'] at hgood
 obtain ⟨⟨⟨⟨⟨hcf,ab7⟩,hn0⟩,hn1⟩,hq0⟩,hq1⟩:=hgood
 have hM:=kh.1 ab7
 have hF:=hfit (hc hcf)
 obtain ⟨g,bf,of,cf,rfl,hcf,hgc,hfo,hgi⟩:=ZT hfn (n:=n) (by omega) (by omega)
 rw [abL hgi] at hq1
 have hql : q.toNat<g.pts.length:=by omega
 obtain ⟨x1,x2,x3,x4,y1,y2,y3,y4,rfl,hg0⟩:=xr hgc
 obtain ⟨_,_,_,_,hE,m1,m2,m3,m4⟩:=id hg0
 cases hE
 have hml : g.pts.length≤9223372036854775807:=m4.few
 obtain ⟨bp,op,cp,hE,hcp,hpc,hpo⟩:=m4.sl.get (by decide) hql
 cases hE
 have hlt : n.toNat<u.fs.length:=by omega
 have hge : u.fs[n.toNat]=g:=by rw [List.getElem?_eq_getElem hlt] at hgi;exact Option.some.inj hgi
 have hfE : fnE u n=0:=by rw [fnE,ab7,decide_eq_false (by omega),decide_eq_false (by omega)];rfl
 have hz : ptE u n q=0:=by rw [ptE,hgi,if_pos ⟨hfE,by omega,by simp only [Option.map_some,Option.getD_some];omega⟩]
 have hpA : qr u n q=some g.pts[q.toNat]:=by rw [qr,hgi,Option.bind_some,List.getElem?_eq_getElem hql]
 have hpg : zC u g g.pts[q.toNat]=true:=hM.pts g (List.mem_of_getElem? hgi) _ (List.getElem_mem hql)
 generalize hp : g.pts[q.toNat]=p at *
 obtain ⟨z1,z2,z3,z4,z5,t1,t2,t3,t4,t5,rfl,hp0⟩:=yV hpc
 obtain ⟨kto,kka,kkb,kkl,kkf⟩:=Zq hp0
 refine gg_ ?_
 refine zs (n:=7) hcf (fun j v hj=>S.at (hfo j v hj)) ?_
 refine S.al fun b11 w6 S=>?_
 refine S.stB (b:=b11) fun w7 S=>?_
 refine gg_ ?_
 refine zs (n:=21) hcp (fun j v hj=>S.at (hpo j v hj)) ?_
 refine S.al fun b12 w8 S=>?_
 refine S.stB (b:=b12) fun w9 S=>?_
 have S : StX noX w r w9 [.cell b12 (ptL p z1 z2 z3 z4 z5 t1 t2 t3 t4 t5) 44,.cell b11 (grL g x1 x2 x3 (some ⟨bp,op,none⟩) y1 y2 y3 y4) 33,.cell b9 [.int .u8 t.k,.bool t.m,.int .i64 t.re,.int .i64 t.st,.slice pt t.of.length capt] 57,.cell b5 [.slice p0 u.ss.length cap0,.slice (some ⟨bf,of,none⟩) u.fs.length capf,.int .i64 u.mn] 25]:=S
 refine S.ldB (b:=b5) ?_ rfl
 refine Zv S.holds hu0 fun vo so w10 e10 n10 ho=>?_
 obtain ⟨S,d10,a10⟩:=S.tell e10 n10
 have hgo : Z6 u n q=(opersG p,0):=by rw [Z6,if_neg (by omega),hpA]
 rw [hgo] at ho ⊢
 dsimp only at ho ⊢
 obtain ⟨po,capo,rfl,_,_⟩:=ho.shape
 refine gS_ ?_
 refine c_f (by rfl) ?_
 have hops : ∀ (i : Nat) (hi : i<(opersG p).length),(zF u.ss g.tys (opersG p)[i]).2=true:=fun i hi=>Vu hpg _ (List.getElem_mem hi)
 have hcall : p.op=7→∃ g2,u.fs[p.fn.toNat]? = some g2∧0≤p.fn∧p.fn<u.fs.length∧∀ (i : Nat) (hi : i<(opersG p).length),∃ h2 : i+1<g2.tys.length,zU yX (zF u.ss g.tys (opersG p)[i]).1 g2.tys[i+1]=true:=fun h7=>by
  obtain ⟨hf,hf0,hf1,ho,_,ha⟩:=Vz hpg h7
  refine ⟨u.fs[p.fn.toNat],List.getElem?_eq_getElem hf,hf0,hf1,fun i hi=>?_⟩
  obtain ⟨hl,hx⟩:=jN ha
  have hpn:=(hM.hd hf).pn1
  rw [List.length_take,List.length_drop] at hl
  have hi' : i<p.args.length:=by rw [← ho];exact hi
  refine ⟨by omega,?_⟩
  have:=(hx i hi' (by rw [List.length_take,List.length_drop];omega)).2
  simp only [ho,List.getElem_take,List.getElem_drop] at this ⊢
  simp only [Nat.add_comm 1 i] at this
  exact this
 have hl9 : (opersG p).length≤1002:=by
  have harg:=aa4 hM hpg
  have:=List.length_filter_le zX (p.a::p.b::p.args)
  show ((p.a::p.b::p.args).filter zX).length≤1002
  simp only [List.length_cons] at this
  omega
 generalize opersG p=l at ho hops hcall hl9
 refine zk (ι:=Nat) (fun i=>[.int .i64 (i : Nat)]) (fun i w'=>i≤l.length∧StX noX w (r.or so) w' [.cell b12 (ptL p z1 z2 z3 z4 z5 t1 t2 t3 t4 t5) 44,.cell b11 (grL g x1 x2 x3 (some ⟨bp,op,none⟩) y1 y2 y3 y4) 33,.cell b9 [.int .u8 t.k,.bool t.m,.int .i64 t.re,.int .i64 t.st,.slice pt t.of.length capt] 57,.cell b5 [.slice p0 u.ss.length cap0,.slice (some ⟨bf,of,none⟩) u.fs.length capf,.int .i64 u.mn] 25]) (fun i=>l.length - i) 0 rfl ⟨Nat.zero_le _,S⟩ ?_
 repeat clear S
 rintro i d w11 ⟨hi,S⟩ K36 hK36
 rw [List.getD_cons_zero]
 refine gg_ ?_
 refine zg (fun hlt2=>?_) (fun hge2=>?_)
 ·have hlt2 : i<l.length:=by omega
  obtain ⟨bo,oo,co,rfl,hco,hog,hcl⟩:=ho.get (by decide) hlt2
  have hop:=hops i hlt2
  have hcl7:=fun h7=>(hcall h7)
  obtain ⟨q9,k9,rfl⟩:=Yu hog
  obtain ⟨_,hE,hop9⟩:=id hog
  cases hE
  refine zq (fun _ w'=>StX noX w (r.or so) w' [.cell b12 (ptL p z1 z2 z3 z4 z5 t1 t2 t3 t4 t5) 44,.cell b11 (grL g x1 x2 x3 (some ⟨bp,op,none⟩) y1 y2 y3 y4) 33,.cell b9 [.int .u8 t.k,.bool t.m,.int .i64 t.re,.int .i64 t.st,.slice pt t.of.length capt] 57,.cell b5 [.slice p0 u.ss.length cap0,.slice (some ⟨bf,of,none⟩) u.fs.length capf,.int .i64 u.mn] 25]) (fun K40 hK40=>?_) ?_
  ·refine gg_ ?_
   refine zE (by rw [Int.toNat_natCast];exact S.at (hcl 0 _ rfl)) ?_
   refine gg_ ?_
   refine zi (c:=decide (l[i].k≠4)) (fun _ K2 hK2=>?_) ?_
   ·refine gg_ ?_
    refine zE (by rw [Int.toNat_natCast];exact S.at (hcl 0 _ rfl)) ?_
    refine gg_ ?_
    exact hK2
   refine c_b (fun _=>hK40 [] _ S) (fun hk=>?_)
   have hk : l[i].k=3∨l[i].k=4:=by
    simp only [Bool.and_eq_false_iff,decide_eq_false_iff_not,Decidable.not_not] at hk
    exact hk
   obtain ⟨hs1,hs2,hs3⟩:=acg hop hk
   have hgt : Z5 u n l[i].pl=((zp u.ss g.tys l[i].pl).1,0):=by rw [Z5,if_neg (by omega),hgi];simp only [hs1,if_true]
   refine zq (fun s w'=>∃ b16 c16 sn,s = [.pointer (some ⟨b16,0,none⟩),.int .i64 0]∧TyG sn (.agg c16.toArray) (zp u.ss g.tys l[i].pl).1∧StX noX w ((r.or so).or sn) w' (.cell b16 c16 57 :: [.cell b12 (ptL p z1 z2 z3 z4 z5 t1 t2 t3 t4 t5) 44,.cell b11 (grL g x1 x2 x3 (some ⟨bp,op,none⟩) y1 y2 y3 y4) 33,.cell b9 [.int .u8 t.k,.bool t.m,.int .i64 t.re,.int .i64 t.st,.slice pt t.of.length capt] 57,.cell b5 [.slice p0 u.ss.length cap0,.slice (some ⟨bf,of,none⟩) u.fs.length capf,.int .i64 u.mn] 25])) (fun K48 hK48=>?_) ?_
   ·have S:=S.go (Ext.drew _)
    refine S.ldB (b:=b5) ?_ rfl
    refine gg_ ?_
    refine zs (n:=2) (c:=[.int .i64 l[i].pl.l,.slice q9 l[i].pl.ps.length k9]) rfl (fun j v hj=>by rw [Int.toNat_natCast];have:=S.at (hcl (j+2) v (by simpa using hj));rwa [show oo+i*4+(j+2)=oo+i*4+2+j by omega] at this) ?_
    refine ⟨?_,?_⟩
    ·refine Zs S.holds hu0.up ⟨_,rfl,hop9.cells⟩ fun v' sn w12 e12 n12 h12=>?_
     obtain ⟨S,_,_⟩:=S.tell e12 n12
     rw [hgt] at h12 ⊢
     dsimp only at h12 ⊢
     obtain ⟨qq,kq,rfl,_⟩:=id h12
     refine gS_ ?_
     refine S.alU fun b16 w13 S=>?_
     refine S.stB (b:=b16) fun w14 S=>?_
     exact hK48 _ _ ⟨b16,_,sn,rfl,h12,S⟩
    ·refine S.alU fun b16 w13 S=>?_
     refine Zs S.holds hu0.up ⟨_,rfl,hop9.cells⟩ fun v' sn w12 e12 n12 h12=>?_
     obtain ⟨S,_,_⟩:=S.tell e12 n12
     rw [hgt] at h12 ⊢
     dsimp only at h12 ⊢
     obtain ⟨qq,kq,rfl,_⟩:=id h12
     refine gS_ ?_
     refine S.stB (b:=b16) fun w14 S=>?_
     exact hK48 _ _ ⟨b16,_,sn,rfl,h12,S⟩
   rintro s w12 ⟨b16,c16,sn,rfl,h16,S⟩ d
   obtain ⟨qq,kq,hE,_⟩:=id h16
   have hE:=congrArg (fun v=>match v with|Value.agg x=>x.toList|_=>[]) hE
   simp only at hE
   subst hE
   have S:=S.go (Ext.drew _)
   simp only [List.getD_cons_zero,List.getD_cons_succ]
   refine gp_ ?_
   refine xw (c:=false) (fun _ K2 hK2=>?_) fun w13 e13=>?_
   ·refine S.ldB (b:=b16) ?_ rfl
    refine gg_ ?_
    refine zE (by rw [Int.toNat_natCast];exact S.at (hcl 0 _ rfl)) ?_
    refine gg_ ?_
    refine jH S.holds h16.up fun w14 e14=>⟨e14,?_⟩
    rw [hs3]
    refine gp_ ?_
    simpa using hK2 _ e14
   have S:=S.go e13
   refine c_f (by simp) ?_
   have S:=S.go (Ext.drew _)
   refine gg_ ?_
   refine zn (c:=false) (fun h7 K2 hK2=>?_) fun w15 e15=>?_
   ·have h7 : p.op=7:=by simpa using h7
    obtain ⟨g2,hg2,hf0,hf1,hal⟩:=hcall h7
    obtain ⟨h2l,hal⟩:=hal i hlt2
    obtain ⟨g2',bf2,of2,cf2,hE,hcf2,hgc2,hfo2,hgi2⟩:=ZT hfn (n:=p.fn) hf0 hf1
    rw [hg2] at hgi2
    cases hgi2
    cases hE
    obtain ⟨r1,r2,r3,r4,s1,s2,s3,s4,rfl,hg20⟩:=xr hgc2
    obtain ⟨_,_,_,_,hE,n1,n2,n3,n4⟩:=id hg20
    cases hE
    obtain ⟨bt,ot,ct,hE,hct,hty,htl⟩:=n2.sl.get (by decide) h2l
    cases hE
    refine S.ldB (b:=b16) ?_ rfl
    refine gg_ ?_
    refine zE (S.at (hfo2 4 _ rfl)) ?_
    refine gg_ ?_
    refine zs (n:=5) hct (fun j v hj=>by rw [show ((i : Int)+1).toNat=i+1 by omega];exact S.at (htl j v hj)) ?_
    refine yY S.holds h16.up (TyG.up hty) fun w16 e16=>?_
    rw [← hs2,hal]
    refine gp_ ?_
    exact hK2 _ e16
   have S:=S.go e15
   refine c_f (by simp) ?_
   exact hK40 [] _ ((S.drop b16).to _)
  ·rintro s w12 S d
   refine gg_ ?_
   exact hK36 (i+1) _ ⟨hlt2,S⟩ (by omega)
 clear hK36
 have hV0 : (vu u n q).2.2=0:=by
  rw [vu,if_neg (by omega),hpA]
  dsimp only
  split<;>rfl
 have hV1 : (vu u n q).2.1=true→(1≤p.op∧p.op≤8)∧(vu u n q).1=p.to:=fun e=>by
  rw [vu,if_neg (by omega),hpA] at e ⊢
  dsimp only at e ⊢
  split at e
  ·rename_i h8
   rw [if_pos h8]
   exact ⟨h8,rfl⟩
  ·cases e
 refine S.ldB (b:=b5) ?_ rfl
 refine QT S.holds hu0.up fun ca sa w13 e13 n13 hpa=>?_
 obtain ⟨S,_,_⟩:=S.tell e13 n13
 obtain ⟨va,rfl,hva⟩:=hpa
 obtain ⟨qa,ka,rfl,_⟩:=hva.sl.shape
 rw [hV0]
 refine gS_ ?_
 refine S.al fun b18 w14 S=>?_
 refine S.stB (b:=b18) fun w15 S=>?_
 refine gp_ ?_
 refine zq (fun _ w'=>StX noX w (r.or so) w' [.cell b12 (ptL p z1 z2 z3 z4 z5 t1 t2 t3 t4 t5) 44,.cell b11 (grL g x1 x2 x3 (some ⟨bp,op,none⟩) y1 y2 y3 y4) 33,.cell b9 [.int .u8 t.k,.bool t.m,.int .i64 t.re,.int .i64 t.st,.slice pt t.of.length capt] 57,.cell b5 [.slice p0 u.ss.length cap0,.slice (some ⟨bf,of,none⟩) u.fs.length capf,.int .i64 u.mn] 25]) (fun K75 hK75=>?_) ?_
 ·refine c_b (fun his=>?_) (fun _=>hK75 [] _ ((S.drop b18).to _))
  obtain ⟨h8,hto⟩:=hV1 his
  rw [hto] at S hva
  have hs1:=aaV hpg h8
  have hgt : Z5 u n p.to=((zp u.ss g.tys p.to).1,0):=by rw [Z5,if_neg (by omega),hgi];simp only [hs1,if_true]
  refine S.ldB (b:=b5) ?_ rfl
  refine S.ldB (b:=b18) ?_ rfl
  refine Zs (p:=p.to) S.holds hu0.up ⟨_,rfl,hva.cells⟩ fun v' sn w16 e16 n16 h16=>?_
  obtain ⟨S,_,_⟩:=S.tell e16 n16
  rw [hgt] at h16 ⊢
  dsimp only at h16 ⊢
  obtain ⟨qq,kq,rfl,_⟩:=id h16
  refine gS_ ?_
  refine S.al fun b20 w17 S=>?_
  refine S.stB (b:=b20) fun w18 S=>?_
  have S:=S.go (Ext.drew _)
  refine gp_ ?_
  refine afq (n:=decide (p.op=7)) (x:=false) (fun _ K2 hK2=>by refine gg_ ?_;exact hK2) (fun h7 K2 hK2=>?_) fun w19 e19=>?_
  ·have h7 : p.op=7:=by simpa using h7
   obtain ⟨hf,hf0,hf1,_,hal,_⟩:=Vz hpg h7
   have hpn:=(hM.hd hf).pn1
   have hpn0:=(hM.hd hf).pn0
   obtain ⟨g2',bf2,of2,cf2,hE,hcf2,hgc2,hfo2,hgi2⟩:=ZT hfn (n:=p.fn) hf0 hf1
   rw [List.getElem?_eq_getElem hf] at hgi2
   generalize u.fs[p.fn.toNat]=g2 at hgi2 hal hpn hpn0
   cases hgi2
   cases hE
   obtain ⟨r1,r2,r3,r4,s1,s2,s3,s4,rfl,hg20⟩:=xr hgc2
   obtain ⟨_,_,_,_,hE,n1,n2,n3,n4⟩:=id hg20
   cases hE
   obtain ⟨bt,ot,ct,hE,hct,hty,htl⟩:=n2.sl.get (i:=0) (by decide) (by omega)
   cases hE
   have hhd:=ad1 (l:=g2'.tys) (by omega)
   refine S.ldB (b:=b20) ?_ rfl
   refine gg_ ?_
   refine zE (S.at (hfo2 4 _ rfl)) ?_
   refine gg_ ?_
   refine zs (n:=5) hct (fun j v hj=>by simpa using S.at (htl j v hj)) ?_
   refine yY S.holds h16.up (TyG.up hty) fun w16 e16=>?_
   rw [← hhd,hal]
   refine gp_ ?_
   exact hK2 _ e16
  have S:=S.go e19
  refine afp (n:=decide (p.op=4)) (m:=false) (x:=false) (fun _ K2 hK2=>by refine gg_ ?_;exact hK2) (fun h4 K2 hK2=>?_) (fun h4 _ K2 hK2=>?_) fun w20 e20=>?_
  ·have h4 : p.op=4:=by simpa using h4
   obtain ⟨hk4,hm⟩:=VA hpg h4
   refine gg_ ?_
   simpa [hk4] using hK2
  ·have h4 : p.op=4:=by simpa using h4
   obtain ⟨hk4,hm⟩:=VA hpg h4
   refine gg_ ?_
   simpa [hm] using hK2 _ (Ext.refl _)
  have S:=S.go e20
  refine c_f (by simp) ?_
  exact hK75 [] _ (((S.drop b20).drop b18).to _)
 rintro s w16 S d
 refine S.ldB (b:=b5) ?_ rfl
 refine abv (f:=n.toNat) S.holds hu0.up (adY hM hF) hlt fun p3 cap3 vf3 xf s3 M w17 T hab hst3 hp3 hc3 hR3=>?_
 have S:=StX.join S T hab
 clear T
 have hzl : u.fs.zipIdx.length=u.fs.length:=by simp
 have hfew:=(adY hM hF).fs
 obtain ⟨hog1,hog2,hog3,hog4,hog5⟩:=(adY hM hF).gs g (List.mem_of_getElem? hgi)
 have hpk : PkG s3 ((xf.drop (n.toNat*7)).take 7) g M:=by
  have h1:=(hR3.2 n.toNat (by rw [hzl];exact hlt)).1
  simp only [List.getElem_zipIdx,hge] at h1
  exact h1 (by omega)
 obtain ⟨vo,vt3,vn3,vp3,xt,xn,xp,hcme,hvo,rfl,hxt,hxn,hxp⟩:=hpk.ex
 obtain ⟨bf3,capf3,cf3,rfl,hcf1,hcf2,hcf3,T⟩:=StX.rowCell (L:=.row vf3 33 7 u.fs.length xf :: .row vp3 44 21 g.pts.length xp :: .row vt3 57 5 g.tys.length xt :: .row vn3 9 1 g.nms.length xn::_) S vf3 (by omega)
 repeat clear S
 obtain ⟨bp3,capp3,cp3,rfl,hcp1,hcp2,hcp3,S⟩:=T.rowCell vp3 (by omega)
 repeat clear T
 have hoth : ∀ (i : Nat) (h : i<u.fs.length),i≠n.toNat→GrG s3 ((cf3.drop (i*7)).take 7) u.fs[i]:=fun i hi hin=>by
  have h1:=(hR3.2 i (by rw [hzl];exact hi)).2
  simp only [List.getElem_zipIdx,Nat.zero_add] at h1
  have h1:=h1 hin
  rwa [← hcf3,Zw hi] at h1
 rw [← hcf3,Zw hlt] at hcme
 have P0 : PkS u n.toNat s3 bp3 capf3 capp3 cf3 cp3 vt3 vn3 xt xn g:=⟨hcf2,hcf1,hfew,hcp2,hcp1,hlt,hoth,⟨vo,hcme,hvo⟩,hxt,hxn,by rw [hcp3];exact hxp,by omega,by omega,by have:=hog5.1;omega⟩
 clear hR3 hoth hpk hxp hcp3 hcf3
 have hat : ∀ (c : List Value) (l : List Value) (j : Nat),(c.drop (n.toNat*7)).take 7=l→j<7→c[n.toNat*7+j]? = l[j]?:=fun c l j e hj=>by
  rw [← e,List.getElem?_take,if_pos hj,List.getElem?_drop]
 have hrep : zY u n.toNat g=u:=by
  rw [zY,← hge,List.set_getElem_self]
 refine S.al fun b22 w18 S=>?_
 refine S.stB (b:=b22) fun w19 S=>?_
 have S : StX noX w ((r.or so).or s3) w19 [.cell b22 [.slice p3 u.ss.length cap3,.slice (some ⟨bf3,0,none⟩) u.fs.length capf3,.int .i64 u.mn] 25,.cell bf3 cf3 33,.cell bp3 cp3 44,.row vt3 57 5 g.tys.length xt,.row vn3 9 1 g.nms.length xn,.cell b12 (ptL p z1 z2 z3 z4 z5 t1 t2 t3 t4 t5) 44,.cell b11 (grL g x1 x2 x3 (some ⟨bp,op,none⟩) y1 y2 y3 y4) 33,.cell b9 [.int .u8 t.k,.bool t.m,.int .i64 t.re,.int .i64 t.st,.slice pt t.of.length capt] 57,.cell b5 [.slice p0 u.ss.length cap0,.slice (some ⟨bf,of,none⟩) u.fs.length capf,.int .i64 u.mn] 25]:=S
 refine zq (fun _ w'=>∃ ps cp1,StX noX w ((r.or so).or s3) w' [.cell b22 [.slice p3 u.ss.length cap3,.slice (some ⟨bf3,0,none⟩) u.fs.length capf3,.int .i64 u.mn] 25,.cell bf3 cf3 33,.cell bp3 cp1 44,.row vt3 57 5 g.tys.length xt,.row vn3 9 1 g.nms.length xn,.cell b12 (ptL p z1 z2 z3 z4 z5 t1 t2 t3 t4 t5) 44,.cell b11 (grL g x1 x2 x3 (some ⟨bp,op,none⟩) y1 y2 y3 y4) 33,.cell b9 [.int .u8 t.k,.bool t.m,.int .i64 t.re,.int .i64 t.st,.slice pt t.of.length capt] 57,.cell b5 [.slice p0 u.ss.length cap0,.slice (some ⟨bf,of,none⟩) u.fs.length capf,.int .i64 u.mn] 25]∧PkS u n.toNat s3 bp3 capf3 capp3 cf3 cp1 vt3 vn3 xt xn (GrD.mk g.name g.lv g.outs g.pn g.tys g.nms ps)∧MayU (zY u n.toNat (GrD.mk g.name g.lv g.outs g.pn g.tys g.nms ps))) (fun K118 hK118=>?_) ?_
 ·refine gg_ ?_
  refine zi (c:=decide (0≤nx)) (fun _ K2 hK2=>by refine gg_ ?_;exact hK2) ?_
  refine zi (c:=decide (nx<(g.pts.length : Int))) (fun _ K2 hK2=>by refine gg_ ?_;exact hK2) ?_
  refine c_b (fun hb=>?_) (fun _=>hK118 [] _ ⟨g.pts,cp3,S,P0,by rw [show (GrD.mk g.name g.lv g.outs g.pn g.tys g.nms g.pts)=g from rfl,hrep];exact hM⟩)
  simp only [Bool.and_eq_true,decide_eq_true_eq] at hb
  obtain ⟨⟨h14,hx0⟩,hx1⟩:=hb
  refine gg_ ?_
  refine S.ld (b:=bf3) ?_ (by rw [Nat.zero_add];exact hat _ _ 6 hcme (by decide))
  refine gg_ ?_
  refine S.st (b:=bp3) (fun w20 S=>?_) (by rw [hcp2];omega)
  refine S.ldB (b:=b22) ?_ rfl
  have P1:=P0.nx hql (k:=nx)
  rw [hp] at P1
  have S : StX noX w ((r.or so).or s3) w20 [.cell b22 [.slice p3 u.ss.length cap3,.slice (some ⟨bf3,0,none⟩) u.fs.length capf3,.int .i64 u.mn] 25,.cell bf3 cf3 33,.cell bp3 (cp3.set (q.toNat*21+18) (.int .i64 nx)) 44,.row vt3 57 5 g.tys.length xt,.row vn3 9 1 g.nms.length xn,.cell b12 (ptL p z1 z2 z3 z4 z5 t1 t2 t3 t4 t5) 44,.cell b11 (grL g x1 x2 x3 (some ⟨bp,op,none⟩) y1 y2 y3 y4) 33,.cell b9 [.int .u8 t.k,.bool t.m,.int .i64 t.re,.int .i64 t.st,.slice pt t.of.length capt] 57,.cell b5 [.slice p0 u.ss.length cap0,.slice (some ⟨bf,of,none⟩) u.fs.length capf,.int .i64 u.mn] 25]:=by
   rw [show 0+q.toNat*21+18=q.toNat*21+18 by omega] at S
   exact S
  obtain ⟨qq,hh,le,hsl⟩:=P1.peek (S.drop b22)
  have le3 : Le s3 qq:=⟨fun b o h=>le.le b o (.inr h)⟩
  refine xc (u:=zY u n.toNat (xh g q.toNat (jv p nx))) hh ⟨p3,cap3,_,rfl,hp3,hc3,hst3.up,hsl',hsl⟩ fun w21 e21=>?_
  have hMn : MayU (zY u n.toNat (xh g q.toNat (jv p nx))):=by
   have:=aeI (k:=nx) hM hlt (q:=q.toNat) (by rw [hge];exact hql) (by simp only [hge,hp];exact h14) hx0 (by rw [hge];exact hx1)
   simp only [hge,hp] at this
   exact this
  rw [kh.2 hMn]
  refine gp_ ?_
  exact hK118 [] _ ⟨_,_,S.go e21,P1,hMn⟩
 rintro s w20 ⟨ps,cp1,S,P1,hM1⟩ d
 refine S.ldB (b:=b9) ?_ rfl
 refine jk S.holds hvt0.up fun vr w21 e21 hrow=>?_
 have hrl : (zV t).length≤9223372036854775807:=aeK hrow
 have T:=S.take e21 hrow
 repeat clear S
 obtain ⟨s4,S,hs4,_,_⟩:=T.doneRow (R:=JY) (l:=zV t) ade (by decide) rfl
 repeat clear T
 have T:=S
 repeat clear S
 obtain ⟨q4,k4,rfl,_⟩:=hs4.shape
 have S:=T
 clear T
 refine zk (ι:=Nat) (fun i=>[.bool (((zV t).take i).any fun x=>decide (x≠-1)),.int .i64 (i : Nat)]) (fun i w'=>i≤(zV t).length∧StX noX w (((r.or so).or s3).or s4) w' [.cell b22 [.slice p3 u.ss.length cap3,.slice (some ⟨bf3,0,none⟩) u.fs.length capf3,.int .i64 u.mn] 25,.cell bf3 cf3 33,.cell bp3 cp1 44,.row vt3 57 5 g.tys.length xt,.row vn3 9 1 g.nms.length xn,.cell b12 (ptL p z1 z2 z3 z4 z5 t1 t2 t3 t4 t5) 44,.cell b11 (grL g x1 x2 x3 (some ⟨bp,op,none⟩) y1 y2 y3 y4) 33,.cell b9 [.int .u8 t.k,.bool t.m,.int .i64 t.re,.int .i64 t.st,.slice pt t.of.length capt] 57,.cell b5 [.slice p0 u.ss.length cap0,.slice (some ⟨bf,of,none⟩) u.fs.length capf,.int .i64 u.mn] 25]) (fun i=>(zV t).length - i) 0 (by simp) ⟨Nat.zero_le _,S⟩ ?_
 repeat clear S
 rintro i d w22 ⟨hi,S⟩ K133 hK133
 simp only [List.getD_cons_zero,List.getD_cons_succ]
 refine gg_ ?_
 refine zg (fun hlt2=>?_) (fun hge2=>?_)
 ·have hlt2 : i<(zV t).length:=by omega
  obtain ⟨bi,oi,ci,rfl,hci,hcc,hil⟩:=hs4.get (by decide) hlt2
  obtain rfl : ci=_:=hcc
  refine zh (c:=decide ((zV t)[i]≠-1)) (fun _ K2 hK2=>?_) ?_
  ·refine gg_ ?_
   refine zE (by rw [Int.toNat_natCast];have:=S.at (hil 0 _ rfl);rwa [show oi+i*1+0=oi+i by omega] at this) ?_
   refine gg_ ?_
   exact hK2
  refine gg_ ?_
  have:=hK133 (i+1) _ ⟨hlt2,S⟩ (by omega)
  rw [List.take_succ_eq_append_getElem hlt2,List.any_append] at this
  simpa using this
 have hie : i=(zV t).length:=by omega
 subst hie
 rw [List.take_length]
 clear hK133
 refine zq (fun _ w'=>Ext w w') (fun K141 hK141=>?_) (fun s w' e d=>YZ hT (hr.ext e) fun w'' e'=>h _ (e.trans e'))
 refine gg_ ?_
 refine jO S.holds hst.up hvt0.up fun w23 e23=>?_
 have S:=S.go e23
 refine zi (c:=!((zV t).any fun x=>decide (x≠-1))) (fun _ K2 hK2=>by refine gg_ ?_;exact hK2) ?_
 refine zi (c:=decide ((g.tys.length : Int)<512)) (fun _ K2 hK2=>by refine gg_ ?_;exact hK2) ?_
 refine c_b (fun hb=>?_) (fun _=>hK141 [] _ S.ext)
 simp only [Bool.and_eq_true,decide_eq_true_eq,Bool.not_eq_true',List.any_eq_false] at hb
 obtain ⟨⟨hmt,hro⟩,h512⟩:=hb
 have hro : ∀ x ∈ zV t,x = -1:=fun x hx=>by simpa using hro x hx
 obtain ⟨vo1,hme1,_⟩:=P1.me
 dsimp only at hme1
 obtain ⟨qv,kv,hE,_⟩:=S.rowS vt3
 have T:=S
 repeat clear S
 subst hE
 have S:=T
 clear T
 refine zq (fun _ w'=>∃ vt4,StX noX w (((r.or so).or s3).or s4) w' [.cell b22 [.slice p3 u.ss.length cap3,.slice (some ⟨bf3,0,none⟩) u.fs.length capf3,.int .i64 u.mn] 25,.cell bf3 (cf3.set (n.toNat*7+4) vt4) 33,.cell bp3 cp1 44,.row vt4 57 5 (g.tys.length+1) (xt ++ [.int .u8 t.k,.bool t.m,.int .i64 t.re,.int .i64 t.st,.slice pt t.of.length capt]),.row vn3 9 1 g.nms.length xn,.cell b12 (ptL p z1 z2 z3 z4 z5 t1 t2 t3 t4 t5) 44,.cell b11 (grL g x1 x2 x3 (some ⟨bp,op,none⟩) y1 y2 y3 y4) 33,.cell b9 [.int .u8 t.k,.bool t.m,.int .i64 t.re,.int .i64 t.st,.slice pt t.of.length capt] 57,.cell b5 [.slice p0 u.ss.length cap0,.slice (some ⟨bf,of,none⟩) u.fs.length capf,.int .i64 u.mn] 25]) (fun K154 hK154=>?_) ?_
 ·have S:=S.go (Ext.drew _)
  refine zq (fun s w'=>∃ b,s = [.bool b]∧StX noX w (((r.or so).or s3).or s4) w' [.cell b22 [.slice p3 u.ss.length cap3,.slice (some ⟨bf3,0,none⟩) u.fs.length capf3,.int .i64 u.mn] 25,.cell bf3 cf3 33,.cell bp3 cp1 44,.row (.slice qv g.tys.length kv) 57 5 g.tys.length xt,.row vn3 9 1 g.nms.length xn,.cell b12 (ptL p z1 z2 z3 z4 z5 t1 t2 t3 t4 t5) 44,.cell b11 (grL g x1 x2 x3 (some ⟨bp,op,none⟩) y1 y2 y3 y4) 33,.cell b9 [.int .u8 t.k,.bool t.m,.int .i64 t.re,.int .i64 t.st,.slice pt t.of.length capt] 57,.cell b5 [.slice p0 u.ss.length cap0,.slice (some ⟨bf,of,none⟩) u.fs.length capf,.int .i64 u.mn] 25]) (fun K158 hK158=>?_) ?_
  ·refine S.al fun b30 w24 S=>?_
   refine ⟨?_,?_⟩
   ·refine S.st (b:=b30) fun w25 S=>?_
    refine S.st (b:=b30) fun w26 S=>?_
    refine S.ld (b:=b30) ?_ rfl
    exact hK158 _ _ ⟨_,rfl,S.drop b30⟩
   ·refine S.st (b:=b30) fun w25 S=>?_
    refine S.st (b:=b30) fun w26 S=>?_
    refine S.ld (b:=b30) ?_ rfl
    exact hK158 _ _ ⟨_,rfl,S.drop b30⟩
  rintro s w27 ⟨bb,rfl,S⟩ d
  have S:=S.go (Ext.drew _)
  simp only [List.getD_cons_zero]
  refine c_b (fun _=>?_) (fun _=>?_)
  ·refine gg_ ?_
   refine S.ld (b:=bf3) ?_ (by rw [Nat.zero_add];exact hat _ _ 4 hme1 (by decide))
   refine S.ldB (b:=b9) ?_ rfl
   refine gg_ ?_
   refine S.litU (e:=57) (cs:=[.int .u8 0,.bool false,.int .i64 0,.int .i64 0,.slice none 0 0]) (by kernel_rfl) fun b31 w28 S=>?_
   refine S.ap (v:=.slice qv g.tys.length kv) (m':=1) (Sl.blk (S.blk b31)) (fun v4 w29 S=>?_) (by omega)
   have hv4:=S.row1 v4
   refine gg_ ?_
   refine S.st (b:=bf3) (fun w30 S=>?_) (by rw [hcf2];omega) (h1:=hv4)
   obtain ⟨p9,k9,hE9,_⟩:=S.rowS v4
   have T:=S
   repeat clear S
   subst hE9
   have S:=T
   clear T
   obtain ⟨b9',hE9⟩:=S.row0N (p:=p9) (n:=g.tys.length+1) (cap:=k9) trivial (by omega)
   have T:=S
   repeat clear S
   subst hE9
   have S:=T
   clear T
   refine gg_ ?_
   rw [show 0+((g.tys.length : Nat) : Int).toNat*5=g.tys.length*5 by omega]
   refine S.stRowN (n:=g.tys.length+1) (cap:=k9) (i:=g.tys.length) (by omega) fun w31 S=>?_
   refine hK154 [] _ ⟨.slice (some ⟨b9',0,none⟩) (g.tys.length+1) k9,?_⟩
   have S:=S.drop b31
   rw [show 0+n.toNat*7+4=n.toNat*7+4 by omega,List.take_left' hxt.1,List.drop_eq_nil_iff.2 (by rw [List.length_append,hxt.1];simp),List.append_nil] at S
   exact S
  ·refine gg_ ?_
   refine S.ld (b:=bf3) ?_ (by rw [Nat.zero_add];exact hat _ _ 4 hme1 (by decide))
   refine S.ldB (b:=b9) ?_ rfl
   refine ⟨?_,?_⟩
   ·refine Xb (S.ld (b:=b22) ?_ rfl)
    refine S.litU (e:=57) (cs:=[.int .u8 t.k,.bool t.m,.int .i64 t.re,.int .i64 t.st,.slice pt t.of.length capt]) (by kernel_rfl) fun b31 w28 S=>?_
    refine S.ap (v:=.slice qv g.tys.length kv) (m':=1) (Sl.blk (S.blk b31)) (fun v4 w29 S=>?_) (by omega)
    have hv4:=S.row1 v4
    refine gg_ ?_
    refine S.st (b:=bf3) (fun w30 S=>?_) (by rw [hcf2];omega) (h1:=hv4)
    refine hK154 [] _ ⟨v4,?_⟩
    have S:=S.drop b31
    rw [show 0+n.toNat*7+4=n.toNat*7+4 by omega] at S
    exact S
   ·refine S.litU (e:=57) (cs:=[.int .u8 t.k,.bool t.m,.int .i64 t.re,.int .i64 t.st,.slice pt t.of.length capt]) (by kernel_rfl) fun b31 w28 S=>?_
    refine ⟨?_,?_⟩
    ·refine Xb (S.ld (b:=b22) ?_ rfl)
     refine S.ap (v:=.slice qv g.tys.length kv) (m':=1) (Sl.blk (S.blk b31)) (fun v4 w29 S=>?_) (by omega)
     have hv4:=S.row1 v4
     refine gg_ ?_
     refine S.st (b:=bf3) (fun w30 S=>?_) (by rw [hcf2];omega) (h1:=hv4)
     refine hK154 [] _ ⟨v4,?_⟩
     have S:=S.drop b31
     rw [show 0+n.toNat*7+4=n.toNat*7+4 by omega] at S
     exact S
    ·refine S.ap (v:=.slice qv g.tys.length kv) (m':=1) (Sl.blk (S.blk b31)) (fun v4 w29 S=>?_) (by omega)
     refine Xb (S.ld (b:=b22) ?_ rfl)
     have hv4:=S.row1 v4
     refine gg_ ?_
     refine S.st (b:=bf3) (fun w30 S=>?_) (by rw [hcf2];omega) (h1:=hv4)
     refine hK154 [] _ ⟨v4,?_⟩
     have S:=S.drop b31
     rw [show 0+n.toNat*7+4=n.toNat*7+4 by omega] at S
     exact S
 rintro s w30 ⟨vt4,S⟩ d
 obtain ⟨qw,kw,hE,_⟩:=S.rowS vn3
 have T:=S
 repeat clear S
 subst hE
 have S:=T
 clear T
 have hmn : (cf3.set (n.toNat*7+4) vt4)[n.toNat*7+5]? = some (.slice qw g.nms.length kw):=by
  rw [List.getElem?_set_ne (by omega)]
  exact hat _ _ 5 hme1 (by decide)
 refine zq (fun _ w'=>∃ vn4,StX noX w (((r.or so).or s3).or s4) w' [.cell b22 [.slice p3 u.ss.length cap3,.slice (some ⟨bf3,0,none⟩) u.fs.length capf3,.int .i64 u.mn] 25,.cell bf3 ((cf3.set (n.toNat*7+4) vt4).set (n.toNat*7+5) vn4) 33,.cell bp3 cp1 44,.row vt4 57 5 (g.tys.length+1) (xt ++ [.int .u8 t.k,.bool t.m,.int .i64 t.re,.int .i64 t.st,.slice pt t.of.length capt]),.row vn4 9 1 (g.nms.length+1) (xn ++ [.string { data:=#[109,111,114,101] }]),.cell b12 (ptL p z1 z2 z3 z4 z5 t1 t2 t3 t4 t5) 44,.cell b11 (grL g x1 x2 x3 (some ⟨bp,op,none⟩) y1 y2 y3 y4) 33,.cell b9 [.int .u8 t.k,.bool t.m,.int .i64 t.re,.int .i64 t.st,.slice pt t.of.length capt] 57,.cell b5 [.slice p0 u.ss.length cap0,.slice (some ⟨bf,of,none⟩) u.fs.length capf,.int .i64 u.mn] 25]) (fun K192 hK192=>?_) ?_
 ·have S:=S.go (Ext.drew _)
  refine gg_ ?_
  refine S.ld (b:=bf3) ?_ (by rw [Nat.zero_add];exact hmn)
  refine ⟨?_,?_⟩
  ·refine Xb (S.ld (b:=b22) ?_ rfl)
   refine S.litU (e:=9) (cs:=[.string { data:=#[109,111,114,101] }]) (by kernel_rfl) fun b31 w28 S=>?_
   refine S.ap (v:=.slice qw g.nms.length kw) (m':=1) (Sl.blk (S.blk b31)) (fun v4 w29 S=>?_) (by omega)
   have hv4:=S.row1 v4
   refine gg_ ?_
   refine S.st (b:=bf3) (fun w30 S=>?_) (by rw [List.length_set,hcf2];omega) (h1:=hv4)
   refine hK192 [] _ ⟨v4,?_⟩
   have S:=S.drop b31
   rw [show 0+n.toNat*7+5=n.toNat*7+5 by omega] at S
   exact S
  ·refine S.litU (e:=9) (cs:=[.string { data:=#[109,111,114,101] }]) (by kernel_rfl) fun b31 w28 S=>?_
   refine ⟨?_,?_⟩
   ·refine Xb (S.ld (b:=b22) ?_ rfl)
    refine S.ap (v:=.slice qw g.nms.length kw) (m':=1) (Sl.blk (S.blk b31)) (fun v4 w29 S=>?_) (by omega)
    have hv4:=S.row1 v4
    refine gg_ ?_
    refine S.st (b:=bf3) (fun w30 S=>?_) (by rw [List.length_set,hcf2];omega) (h1:=hv4)
    refine hK192 [] _ ⟨v4,?_⟩
    have S:=S.drop b31
    rw [show 0+n.toNat*7+5=n.toNat*7+5 by omega] at S
    exact S
   ·refine S.ap (v:=.slice qw g.nms.length kw) (m':=1) (Sl.blk (S.blk b31)) (fun v4 w29 S=>?_) (by omega)
    refine Xb (S.ld (b:=b22) ?_ rfl)
    have hv4:=S.row1 v4
    refine gg_ ?_
    refine S.st (b:=bf3) (fun w30 S=>?_) (by rw [List.length_set,hcf2];omega) (h1:=hv4)
    refine hK192 [] _ ⟨v4,?_⟩
    have S:=S.drop b31
    rw [show 0+n.toNat*7+5=n.toNat*7+5 by omega] at S
    exact S
 rintro s w31 ⟨vn4,S⟩ d
 refine S.ldB (b:=b22) ?_ rfl
 have P2:=P1.more (s':=(((r.or so).or s3).or s4)) (vt':=vt4) (vn':=vn4) (x:={ data:=#[109,111,114,101] }) (t:=t) (c:=[.int .u8 t.k,.bool t.m,.int .i64 t.re,.int .i64 t.st,.slice pt t.of.length capt]) (TyG.up hvt0) rfl ⟨hog2,hog3⟩
 have l1 : (xY (GrD.mk g.name g.lv g.outs g.pn g.tys g.nms ps) t { data:=#[109,111,114,101] }).tys.length=g.tys.length+1:=by simp [xY]
 have l2 : (xY (GrD.mk g.name g.lv g.outs g.pn g.tys g.nms ps) t { data:=#[109,111,114,101] }).nms.length=g.nms.length+1:=by simp [xY]
 have S0:=S.drop b22
 rw [← l1,← l2] at S0
 obtain ⟨qq,hh,le,hsl2⟩:=P2.peek S0
 have le3 : Le s3 qq:=⟨fun b o h=>le.le b o (.inl (.inr h))⟩
 refine xc (u:=zY u n.toNat (xY (GrD.mk g.name g.lv g.outs g.pn g.tys g.nms ps) t { data:=#[109,111,114,101] })) hh ⟨p3,cap3,_,rfl,hp3,hc3,hst3.up,hsl',hsl2⟩ fun w32 e32=>?_
 have hMn : MayU (zY u n.toNat (xY (GrD.mk g.name g.lv g.outs g.pn g.tys g.nms ps) t { data:=#[109,111,114,101] })):=by
  have hlt' : n.toNat<(zY u n.toNat (GrD.mk g.name g.lv g.outs g.pn g.tys g.nms ps)).fs.length:=by simpa [zY] using hlt
  have e : (zY u n.toNat (GrD.mk g.name g.lv g.outs g.pn g.tys g.nms ps)).fs[n.toNat]=GrD.mk g.name g.lv g.outs g.pn g.tys g.nms ps:=List.getElem_set_self _
  have:=adc (t:=t) (s:={ data:=#[109,111,114,101] }) hM1 hlt' hmt hro (by rw [e];show g.tys.length<512;omega)
  rwa [e,adf] at this
 rw [kh.2 hMn]
 refine gp_ ?_
 exact hK141 [] _ (S.go e32).ext
end Go.Proofs
end
section
namespace Go.Proofs.YtngfnikkdhbajaaGreatDoor.openG
open Go.Sh Go.ChangeShapes Go.WideShapes Go.ChangeAt Go.RowKit
set_option maxRecDepth 100000
set_option linter.unusedSimpArgs false
set_option linter.unusedVariables false
theorem own : ownKnob Tryz.prog.godebug=none:=by kernel_rfl
theorem aeL : laidOutB Tryz.prog=true:=by kernel_rfl
theorem afY : mapsRowed Tryz.prog=true:=by kernel_rfl
theorem age : ((List.range Tryz.prog.types.size).all fun t=>match Tryz.prog.underlying t with|some (.slice e)=>decide (0<Tryz.prog.cellsOf e)|_=>true)=true:=by kernel_rfl
theorem kj : Tryz.prog.underlying 3=some (.int .i64):=by kernel_rfl
theorem afr : Tryz.prog.underlying 2=some (.int .i64):=by kernel_rfl
theorem afs : Tryz.prog.underlying 138=some (.int .i64):=by kernel_rfl
theorem ach : Tryz.prog.underlying 4=some .bool:=by kernel_rfl
theorem agf : Tryz.prog.underlying 9=some .string:=by kernel_rfl
theorem uTk : Tryz.prog.underlying 55=some (.int .u8):=by kernel_rfl
theorem uOk : Tryz.prog.underlying 39=some (.int .u8):=by kernel_rfl
theorem uPo : Tryz.prog.underlying 35=some (.int .u8):=by kernel_rfl
theorem sTy : Tryz.prog.underlying 29=some (.slice 57)∧Tryz.prog.cellsOf 57=5:=⟨by kernel_rfl,by kernel_rfl⟩
theorem sFd : Tryz.prog.underlying 82=some (.slice 86)∧Tryz.prog.cellsOf 86=6:=⟨by kernel_rfl,by kernel_rfl⟩
theorem sSt : Tryz.prog.underlying 22=some (.slice 84)∧Tryz.prog.cellsOf 84=2:=⟨by kernel_rfl,by kernel_rfl⟩
theorem sGr : Tryz.prog.underlying 23=some (.slice 33)∧Tryz.prog.cellsOf 33=7:=⟨by kernel_rfl,by kernel_rfl⟩
theorem sOu : Tryz.prog.underlying 28=some (.slice 101)∧Tryz.prog.cellsOf 101=2:=⟨by kernel_rfl,by kernel_rfl⟩
theorem sSs : Tryz.prog.underlying 30=some (.slice 9)∧Tryz.prog.cellsOf 9=1:=⟨by kernel_rfl,by kernel_rfl⟩
theorem sPt : Tryz.prog.underlying 31=some (.slice 44)∧Tryz.prog.cellsOf 44=21:=⟨by kernel_rfl,by kernel_rfl⟩
theorem sOp : Tryz.prog.underlying 42=some (.slice 41)∧Tryz.prog.cellsOf 41=4:=⟨by kernel_rfl,by kernel_rfl⟩
theorem sSp : Tryz.prog.underlying 36=some (.slice 138)∧Tryz.prog.cellsOf 138=1:=⟨by kernel_rfl,by kernel_rfl⟩
theorem aTy : ∃ fs,Tryz.prog.underlying 57=some (.struct fs)∧fs.toList.map (·.type) = [55,4,3,3,29]:=xA (by kernel_rfl)
theorem aFd : ∃ fs,Tryz.prog.underlying 86=some (.struct fs)∧fs.toList.map (·.type) = [9,57]:=xA (by kernel_rfl)
theorem aSt : ∃ fs,Tryz.prog.underlying 84=some (.struct fs)∧fs.toList.map (·.type) = [9,82]:=xA (by kernel_rfl)
theorem aPl : ∃ fs,Tryz.prog.underlying 38=some (.struct fs)∧fs.toList.map (·.type) = [3,36]:=xA (by kernel_rfl)
theorem aOp : ∃ fs,Tryz.prog.underlying 41=some (.struct fs)∧fs.toList.map (·.type) = [39,2,38]:=xA (by kernel_rfl)
theorem aPt : ∃ fs,Tryz.prog.underlying 44=some (.struct fs)∧fs.toList.map (·.type) = [35,38,41,41,42,9,38,4,3,3,3,3,3]:=xA (by kernel_rfl)
theorem aOu : ∃ fs,Tryz.prog.underlying 101=some (.struct fs)∧fs.toList.map (·.type) = [3,3]:=xA (by kernel_rfl)
theorem aGr : ∃ fs,Tryz.prog.underlying 33=some (.struct fs)∧fs.toList.map (·.type) = [9,3,28,3,29,30,31]:=xA (by kernel_rfl)
theorem aUn : ∃ fs,Tryz.prog.underlying 25=some (.struct fs)∧fs.toList.map (·.type) = [22,23,3]:=xA (by kernel_rfl)
theorem aeM : aaF Tryz.prog [57,55,4,3,29]=true:=by kernel_rfl
theorem aeN : aaF Tryz.prog [25,22,84,82,86,9,57,55,4,3,29,23,33,28,101,30,31,44,35,
 38,36,138,41,39,2,42]=true:=by kernel_rfl
theorem jU {α : Type} {f : α→Dat} {G : α→Prop} {d : Dat} {T e : TypeId} {n : Nat} (u : Tryz.prog.underlying T=some (.slice e)∧Tryz.prog.cellsOf e=n) (h : d.ok Tryz.prog T) (hf : ∀ x : Dat,SizeOf.sizeOf x<SizeOf.sizeOf d→x.ok Tryz.prog e→∃ t,x=f t∧G t) :
  ∃ l : List α,d = .sl n (l.map f)∧l.length≤maxLen∧∀ t ∈ l,G t:=by
 obtain ⟨es,rfl,hl,hk⟩:=acL u.1 h
 obtain ⟨l,rfl,hg⟩:=aaH (f:=f) (G:=G) es fun x hx=>hf x (by
  have:=List.sizeOf_lt_of_mem hx
  simp only [Dat.sl.sizeOf_spec];omega) (hk x hx)
 exact ⟨l,by rw [u.2],by simpa using hl,hg⟩
theorem aef : ∀ (n : Nat) (d : Dat),SizeOf.sizeOf d≤n→d.ok Tryz.prog 57→∃ t : TyD,d=t.dat:=by
 intro n
 induction n with
 |zero=>intro d h _;cases d<;>simp at h
 |succ n ih=>
  intro d hs h
  obtain ⟨ds,rfl,e0⟩:=yU aTy h
  obtain ⟨d0,ds,rfl,h0,e1⟩:=zf e0
  obtain ⟨d1,ds,rfl,h1,e2⟩:=zf e1
  obtain ⟨d2,ds,rfl,h2,e3⟩:=zf e2
  obtain ⟨d3,ds,rfl,h3,e4⟩:=zf e3
  obtain ⟨d4,ds,rfl,h4,e5⟩:=zf e4
  obtain rfl:=k0 e5
  obtain ⟨k,rfl,_⟩:=z7 uTk h0
  obtain ⟨m,rfl⟩:=aaG ach h1
  obtain ⟨re,rfl,_⟩:=z7 kj h2
  obtain ⟨st,rfl,_⟩:=z7 kj h3
  obtain ⟨l,rfl,_,_⟩:=jU (f:=TyD.dat) (G:=fun _=>True) sTy h4 fun x hx hk=>by
   obtain ⟨t,ht⟩:=ih x (by
    simp only [Dat.agg.sizeOf_spec,List.cons.sizeOf_spec] at hs
    omega) hk
   exact ⟨t,ht,trivial⟩
  exact ⟨.mk k m re st l,by rw [TyD.dat,TyD.dats_map]⟩
theorem adg {d : Dat} (h : d.ok Tryz.prog 57) : ∃ t : TyD,d=t.dat∧True:=by
 obtain ⟨t,ht⟩:=aef _ d (Nat.le_refl _) h
 exact ⟨t,ht,trivial⟩
theorem XN {d : Dat} (h : d.ok Tryz.prog 9) : ∃ s : ByteArray,d = .str s∧True:=by
 obtain ⟨s,hs,_⟩:=aeq agf h
 exact ⟨s,hs,trivial⟩
theorem abM {n : Int} (h : (Lit.int .i64 n).wf=true) : yD n:=by have:=acM h;exact ⟨this.1,by omega⟩
theorem aft {d : Dat} (h : d.ok Tryz.prog 138) : ∃ n : Int,d=Dat.int .i64 n∧yD n:=by
 obtain ⟨n,hn,hw⟩:=z7 afs h
 exact ⟨n,hn,abM hw⟩
theorem afZ {d : Dat} (h : d.ok Tryz.prog 86) : ∃ f : ByteArray × TyD,d=JV f∧True:=by
 obtain ⟨ds,rfl,e0⟩:=yU aFd h
 obtain ⟨d0,ds,rfl,h0,e1⟩:=zf e0
 obtain ⟨d1,ds,rfl,h1,e2⟩:=zf e1
 obtain rfl:=k0 e2
 obtain ⟨s,rfl,_⟩:=XN h0
 obtain ⟨t,rfl,_⟩:=adg h1
 exact ⟨(s,t),rfl,trivial⟩
theorem af0 {d : Dat} (h : d.ok Tryz.prog 84) : ∃ s : StD,d=s.dat∧True:=by
 obtain ⟨ds,rfl,e0⟩:=yU aSt h
 obtain ⟨d0,ds,rfl,h0,e1⟩:=zf e0
 obtain ⟨d1,ds,rfl,h1,e2⟩:=zf e1
 obtain rfl:=k0 e2
 obtain ⟨s,rfl,_⟩:=XN h0
 obtain ⟨l,rfl,_,_⟩:=jU (f:=JV) (G:=fun _=>True) sFd h1 fun x _ hk=>afZ hk
 exact ⟨⟨s,l⟩,rfl,trivial⟩
theorem aci {d : Dat} (h : d.ok Tryz.prog 38) : ∃ p : PlD,d=p.dat∧p.ok:=by
 obtain ⟨ds,rfl,e0⟩:=yU aPl h
 obtain ⟨d0,ds,rfl,h0,e1⟩:=zf e0
 obtain ⟨d1,ds,rfl,h1,e2⟩:=zf e1
 obtain rfl:=k0 e2
 obtain ⟨n,rfl,_⟩:=z7 kj h0
 obtain ⟨l,rfl,hl,hg⟩:=jU (f:=Dat.int .i64) (G:=yD) sSp h1 fun x _ hk=>aft hk
 exact ⟨⟨n,l⟩,rfl,hl,hg⟩
theorem acj {d : Dat} (h : d.ok Tryz.prog 41) : ∃ o : OpD,d=o.dat∧o.ok:=by
 obtain ⟨ds,rfl,e0⟩:=yU aOp h
 obtain ⟨d0,ds,rfl,h0,e1⟩:=zf e0
 obtain ⟨d1,ds,rfl,h1,e2⟩:=zf e1
 obtain ⟨d2,ds,rfl,h2,e3⟩:=zf e2
 obtain rfl:=k0 e3
 obtain ⟨k,rfl,_⟩:=z7 uOk h0
 obtain ⟨n,rfl,_⟩:=z7 afr h1
 obtain ⟨p,rfl,hp⟩:=aci h2
 exact ⟨⟨k,n,p⟩,rfl,hp⟩
theorem af1 {d : Dat} (h : d.ok Tryz.prog 44) : ∃ p : PtD,d=p.dat∧p.ok:=by
 obtain ⟨ds,rfl,e0⟩:=yU aPt h
 obtain ⟨d0,ds,rfl,h0,e1⟩:=zf e0
 obtain ⟨d1,ds,rfl,h1,e2⟩:=zf e1
 obtain ⟨d2,ds,rfl,h2,e3⟩:=zf e2
 obtain ⟨d3,ds,rfl,h3,e4⟩:=zf e3
 obtain ⟨d4,ds,rfl,h4,e5⟩:=zf e4
 obtain ⟨d5,ds,rfl,h5,e6⟩:=zf e5
 obtain ⟨d6,ds,rfl,h6,e7⟩:=zf e6
 obtain ⟨d7,ds,rfl,h7,e8⟩:=zf e7
 obtain ⟨d8,ds,rfl,h8,e9⟩:=zf e8
 obtain ⟨d9,ds,rfl,h9,e10⟩:=zf e9
 obtain ⟨d10,ds,rfl,h10,e11⟩:=zf e10
 obtain ⟨d11,ds,rfl,h11,e12⟩:=zf e11
 obtain ⟨d12,ds,rfl,h12,e13⟩:=zf e12
 obtain rfl:=k0 e13
 obtain ⟨op,rfl,_⟩:=z7 uPo h0
 obtain ⟨to,rfl,g1⟩:=aci h1
 obtain ⟨a,rfl,g2⟩:=acj h2
 obtain ⟨b,rfl,g3⟩:=acj h3
 obtain ⟨l,rfl,hl,g4⟩:=jU (f:=OpD.dat) (G:=OpD.ok) sOp h4 fun x _ hk=>acj hk
 obtain ⟨s,rfl,_⟩:=XN h5
 obtain ⟨fr,rfl,g6⟩:=aci h6
 obtain ⟨mu,rfl⟩:=aaG ach h7
 obtain ⟨fn,rfl,_⟩:=z7 kj h8
 obtain ⟨st,rfl,_⟩:=z7 kj h9
 obtain ⟨nx,rfl,_⟩:=z7 kj h10
 obtain ⟨el,rfl,_⟩:=z7 kj h11
 obtain ⟨tx,rfl,_⟩:=z7 kj h12
 exact ⟨⟨op,to,a,b,l,s,fr,mu,fn,st,nx,el,tx⟩,rfl,g1,g2,g3,⟨hl,g4⟩,g6⟩
theorem af2 {d : Dat} (h : d.ok Tryz.prog 101) : ∃ x : Int × Int,d=ab1 x∧True:=by
 obtain ⟨ds,rfl,e0⟩:=yU aOu h
 obtain ⟨d0,ds,rfl,h0,e1⟩:=zf e0
 obtain ⟨d1,ds,rfl,h1,e2⟩:=zf e1
 obtain rfl:=k0 e2
 obtain ⟨a,rfl,_⟩:=z7 kj h0
 obtain ⟨b,rfl,_⟩:=z7 kj h1
 exact ⟨(a,b),rfl,trivial⟩
theorem af3 {d : Dat} (h : d.ok Tryz.prog 33) : ∃ g : GrD,d=g.dat∧g.ok:=by
 obtain ⟨ds,rfl,e0⟩:=yU aGr h
 obtain ⟨d0,ds,rfl,h0,e1⟩:=zf e0
 obtain ⟨d1,ds,rfl,h1,e2⟩:=zf e1
 obtain ⟨d2,ds,rfl,h2,e3⟩:=zf e2
 obtain ⟨d3,ds,rfl,h3,e4⟩:=zf e3
 obtain ⟨d4,ds,rfl,h4,e5⟩:=zf e4
 obtain ⟨d5,ds,rfl,h5,e6⟩:=zf e5
 obtain ⟨d6,ds,rfl,h6,e7⟩:=zf e6
 obtain rfl:=k0 e7
 obtain ⟨s,rfl,_⟩:=XN h0
 obtain ⟨lv,rfl,_⟩:=z7 kj h1
 obtain ⟨lo,rfl,g2,_⟩:=jU (f:=ab1) (G:=fun _=>True) sOu h2 fun x _ hk=>af2 hk
 obtain ⟨pn,rfl,_⟩:=z7 kj h3
 obtain ⟨lt,rfl,g4,_⟩:=jU (f:=TyD.dat) (G:=fun _=>True) sTy h4 fun x _ hk=>adg hk
 obtain ⟨ln,rfl,g5,_⟩:=jU (f:=Dat.str) (G:=fun _=>True) sSs h5 fun x _ hk=>XN hk
 obtain ⟨lp,rfl,g6,hp⟩:=jU (f:=PtD.dat) (G:=PtD.ok) sPt h6 fun x _ hk=>af1 hk
 exact ⟨⟨s,lv,lo,pn,lt,ln,lp⟩,rfl,g2,g4,g5,g6,hp⟩
theorem af4 {d : Dat} (h : d.ok Tryz.prog 25) : ∃ u : UnD,d=u.dat∧u.ok:=by
 obtain ⟨ds,rfl,e0⟩:=yU aUn h
 obtain ⟨d0,ds,rfl,h0,e1⟩:=zf e0
 obtain ⟨d1,ds,rfl,h1,e2⟩:=zf e1
 obtain ⟨d2,ds,rfl,h2,e3⟩:=zf e2
 obtain rfl:=k0 e3
 obtain ⟨ss,rfl,g0,_⟩:=jU (f:=StD.dat) (G:=fun _=>True) sSt h0 fun x _ hk=>af0 hk
 obtain ⟨fs,rfl,g1,hg⟩:=jU (f:=GrD.dat) (G:=GrD.ok) sGr h1 fun x _ hk=>af3 hk
 obtain ⟨mn,rfl,_⟩:=z7 kj h2
 exact ⟨⟨ss,fs,mn⟩,rfl,g0,g1,hg⟩
section
variable {H : Type} {enc : TypeId × Value→H} {W : World} {base : Nat} {v : Value} {d : DataW H} {p : List MemPlace}
theorem aeO (hv : Value.okWide Tryz.prog W .any base 57 v) (h : DataW.Trod enc Tryz.prog W 0 (fun _=>true) true 57 v d p) : ∃ t : TyD,TyG (all W) v t:=by
 obtain ⟨fs,hu,_⟩:=aTy
 obtain ⟨cs,rfl,hsz⟩:=okWide_struct hu hv
 obtain ⟨fuel,hf⟩:=h
 obtain ⟨d,hr,hd⟩:=jP aeM fuel 57 _ _ (by simp) hf
 obtain ⟨t,rfl⟩:=aef _ d (Nat.le_refl _) hd
 exact ⟨t,by simpa [Value.cells] using TyG.of_rep hr⟩
theorem QU (hv : Value.okWide Tryz.prog W .any base 3 v) (h : DataW.Trod enc Tryz.prog W 0 (fun _=>true) true 3 v d p) : ∃ n : Int,v = .int .i64 n∧-9223372036854775808≤n∧n≤9223372036854775807:=by
 obtain ⟨n,rfl,_,_,hw⟩:=open_int kj hv h
 exact ⟨n,rfl,acM hw⟩
end
end Go.Proofs.YtngfnikkdhbajaaGreatDoor.openG
end
section
namespace Go.Proofs.YtngfnikkdhbajaaGreatDoor.openG
open Go.Sh Go.ChangeShapes Go.WideShapes Go.ChangeAt Go.RowKit
set_option maxRecDepth 100000
set_option linter.unusedSimpArgs false
set_option linter.unusedVariables false
theorem Zx {x : Int} {t : TypeId} (u : Tryz.prog.underlying t=some (.int .i64)) (h : (Dat.int .i64 x).ok Tryz.prog t) : yD x:=by
 obtain ⟨n,hn,hw⟩:=z7 u h
 cases hn
 exact abM hw
theorem JC {α : Type} {f : α→Dat} {n : Nat} {T e : TypeId} {l : List α} (u : Tryz.prog.underlying T=some (.slice e)) (h : (Dat.sl n (l.map f)).ok Tryz.prog T) : ∀ x ∈ l,(f x).ok Tryz.prog e:=fun x hx=>by
 obtain ⟨es,hE,_,hs⟩:=acL u h
 injection hE with _ hE
 exact hs _ (hE ▸ List.mem_map_of_mem hx)
theorem abe {p : PlD} (h : p.dat.ok Tryz.prog 38) : PlN p:=by
 unfold PlD.dat at h
 obtain ⟨ds,hE,e0⟩:=yU aPl h
 cases hE
 obtain ⟨d0,ds,hE,h0,e1⟩:=zf e0
 cases hE
 obtain ⟨d1,ds,hE,h1,e2⟩:=zf e1
 cases hE
 exact ⟨Zx kj h0,fun k hk=>Zx afs (JC sSp.1 h1 k hk)⟩
theorem abf {o : OpD} (h : o.dat.ok Tryz.prog 41) : OpN o:=by
 unfold OpD.dat at h
 obtain ⟨ds,hE,e0⟩:=yU aOp h
 cases hE
 obtain ⟨d0,ds,hE,h0,e1⟩:=zf e0
 cases hE
 obtain ⟨d1,ds,hE,h1,e2⟩:=zf e1
 cases hE
 obtain ⟨d2,ds,hE,h2,e3⟩:=zf e2
 cases hE
 exact ⟨Zx afr h1,abe h2⟩
theorem afu {p : PtD} (h : p.dat.ok Tryz.prog 44) : PtN p:=by
 unfold PtD.dat at h
 obtain ⟨ds,hE,e0⟩:=yU aPt h
 cases hE
 obtain ⟨d0,ds,hE,h0,e1⟩:=zf e0
 cases hE
 obtain ⟨d1,ds,hE,h1,e2⟩:=zf e1
 cases hE
 obtain ⟨d2,ds,hE,h2,e3⟩:=zf e2
 cases hE
 obtain ⟨d3,ds,hE,h3,e4⟩:=zf e3
 cases hE
 obtain ⟨d4,ds,hE,h4,e5⟩:=zf e4
 cases hE
 obtain ⟨d5,ds,hE,h5,e6⟩:=zf e5
 cases hE
 obtain ⟨d6,ds,hE,h6,e7⟩:=zf e6
 cases hE
 obtain ⟨d7,ds,hE,h7,e8⟩:=zf e7
 cases hE
 obtain ⟨d8,ds,hE,h8,e9⟩:=zf e8
 cases hE
 obtain ⟨d9,ds,hE,h9,e10⟩:=zf e9
 cases hE
 obtain ⟨d10,ds,hE,h10,e11⟩:=zf e10
 cases hE
 obtain ⟨d11,ds,hE,h11,e12⟩:=zf e11
 cases hE
 exact ⟨abe h1,abf h2,abf h3,fun o ho=>abf (JC sOp.1 h4 o ho),abe h6,Zx kj h8,Zx kj h9,Zx kj h10,Zx kj h11⟩
theorem afv {u : UnD} (h : u.dat.ok Tryz.prog 25) : UnN u:=fun g hg p hp=>by
 unfold UnD.dat at h
 obtain ⟨ds,hE,e0⟩:=yU aUn h
 cases hE
 obtain ⟨d0,ds,hE,h0,e1⟩:=zf e0
 cases hE
 obtain ⟨d1,ds,hE,h1,e2⟩:=zf e1
 cases hE
 have k:=JC sGr.1 h1 g hg
 unfold GrD.dat at k
 obtain ⟨ds,hE,e0⟩:=yU aGr k
 cases hE
 obtain ⟨c0,ds,hE,g0,e1⟩:=zf e0
 cases hE
 obtain ⟨c1,ds,hE,g1,e2⟩:=zf e1
 cases hE
 obtain ⟨c2,ds,hE,g2,e3⟩:=zf e2
 cases hE
 obtain ⟨c3,ds,hE,g3,e4⟩:=zf e3
 cases hE
 obtain ⟨c4,ds,hE,g4,e5⟩:=zf e4
 cases hE
 obtain ⟨c5,ds,hE,g5,e6⟩:=zf e5
 cases hE
 obtain ⟨c6,ds,hE,g6,e7⟩:=zf e6
 cases hE
 exact afu (JC sPt.1 g6 p hp)
section
variable {H : Type} {enc : TypeId × Value→H} {W : World} {base : Nat} {v : Value} {d : DataW H} {p : List MemPlace}
theorem ad2 (hv : Value.okWide Tryz.prog W .any base 25 v) (h : DataW.Trod enc Tryz.prog W 0 (fun _=>true) true 25 v d p) : ∃ u : UnD,UnG (all W) v u∧UnN u:=by
 obtain ⟨fs,hu,_⟩:=aUn
 obtain ⟨cs,rfl,hsz⟩:=okWide_struct hu hv
 obtain ⟨fuel,hf⟩:=h
 obtain ⟨d,hr,hd⟩:=jP aeN fuel 25 _ _ (by simp) hf
 obtain ⟨u,rfl,hk⟩:=af4 hd
 exact ⟨u,by simpa [Value.cells] using acP hr hk,afv hd⟩
end
theorem afw : Tryz.prog.globalNamed "internal/strconv.uint64pow10" = some 0 := by kernel_rfl
theorem ad3 : (Tryz.prog.globals[0]?).map (·.type)=some 231:=by kernel_rfl
theorem af5 : Tryz.prog.underlying 231=some (.array 20 185):=by kernel_rfl
theorem af6 : Tryz.prog.underlying 185=some (.int .u64):=by kernel_rfl
theorem adh : Tryz.prog.cellsOf 231=20:=by kernel_rfl
theorem adi : Tryz.prog.cellsOf 185=1:=by kernel_rfl
theorem aeP : (Rows.laid_internal_strconv_uint64pow10 : DataW Unit)=Lib.tabData .u64 Lib.pow10Tab:=by kernel_rfl
theorem afx {W : World} (h : laidMetH Tryz.prog Rows.graphTextsRow.laid W) : TabZ (all W):=by
 have h0 : laidMet Tryz.prog Rows.graphTextsRow.laid W:=h
 have h1 : laidMet Tryz.prog [("internal/strconv.uint64pow10", Rows.laid_internal_strconv_uint64pow10)] W := laidMet.tail (laidMet.tail h0)
 rw [aeP] at h1
 have ht : Lib.TabIs Tryz.prog W "internal/strconv.uint64pow10" .u64 Lib.pow10Tab := Lib.tabIs_of_head (rest := []) afw ad3 af5 af6 adi adh h1
 intro w' hw
 unfold Lib.TabIs World.var? at ht ⊢
 rw [afw] at ht ⊢
 simp only [Option.bind] at ht ⊢
 cases ho : W.heap[0]? with
 |none=>rw [ho] at ht;cases ht
 |some o=>rw [hw 0 o ho];rw [ho] at ht;exact ht
def afy : DataW Unit→List Value
 |.agg l=>l.map fun
  |.lit (.int k n)=>.int k n
  |_=>undef
 |_=>[]
def abg (d : DataW Unit) : Obj→Obj
 |.cells _ t frozen=>.cells (afy d).toArray t frozen
 |o=>o
noncomputable def YM (os : Os) : World:=
 { World.holding Tryz.prog os ⟨#[],#[],[]⟩ with heap:=(((World.holding Tryz.prog os ⟨#[],#[],[]⟩).heap.modify 0 (abg Rows.laid_internal_strconv_uint64pow10)).modify 2 (abg Rows.laid_math_bits_deBruijn32tab)).modify 3 (abg Rows.laid_math_bits_deBruijn64tab) }
end Go.Proofs.YtngfnikkdhbajaaGreatDoor.openG
end
section
namespace Go.Proofs.YtngfnikkdhbajaaGreatDoor.graphFits
open Go.Sh Go.ChangeShapes Go.WideShapes Go.ChangeAt Go.RowKit openG
set_option maxRecDepth 100000
set_option linter.unusedVariables false
theorem ad4 (H : Type) (enc : TypeId × Value→H) (W : World) (base : Nat) (args : Array Value) (ds gs : List (DataW H)) (before : List MemPlace)
  (hval : ∀ (j : Nat) t v,Tryz.f5.params[j]? = some t→args[j]? = some v→Value.okWide Tryz.prog W .any base t v)
  (hW : DataW.Whole enc Tryz.prog Tryz.f5.params.toList Rows.graphFitsSpec.vars false W args.toList ds gs before) (hL : laidMetH Tryz.prog Rows.graphFitsRow.laid W)
  (hwt : (DataW.weightsEach Tryz.prog (Tryz.f5.params.toList++(Rows.OpenSpec.upto Rows.graphFitsSpec).bare.plain.varTypes Tryz.prog) (ds++gs)).all (·≤reachBytes)=true) :
  Calls Tryz.prog 5 args W fun e W'=>∃ v,e = .returned v∧Rows.graphFitsSpec.post enc Tryz.prog Tryz.f5 false true false false W args v W':=by
 have hW':=hW
 obtain ⟨p,q,hA,hV,rfl,hfz,hnd⟩:=hW
 rw [show Tryz.f5.params.toList = [25,3,3,3,57] by kernel_rfl] at hA
 obtain ⟨v0,vs0,d0,ds0,p0,q100,hargs,rfl,rfl,h0,r0⟩:=trodAll_cons hA
 obtain ⟨v1,vs1,d1,ds1,p1,q101,rfl,rfl,rfl,h1,r1⟩:=trodAll_cons r0
 obtain ⟨v2,vs2,d2,ds2,p2,q102,rfl,rfl,rfl,h2,r2⟩:=trodAll_cons r1
 obtain ⟨v3,vs3,d3,ds3,p3,q103,rfl,rfl,rfl,h3,r3⟩:=trodAll_cons r2
 obtain ⟨v4,vs4,d4,ds4,p4,q104,rfl,rfl,rfl,h4,r4⟩:=trodAll_cons r3
 obtain ⟨rfl,rfl,rfl⟩:=trodAll_nil r4
 obtain rfl : args=#[v0,v1,v2,v3,v4]:=by cases args;simp_all
 obtain ⟨rfl,rfl⟩:=trodVars_none hV
 obtain ⟨u0,hu0,hn0⟩:=ad2 (hval 0 25 v0 (by kernel_rfl) rfl) h0
 obtain ⟨n1,rfl,hi1⟩:=QU (hval 1 3 v1 (by kernel_rfl) rfl) h1
 obtain ⟨n2,rfl,hi2⟩:=QU (hval 2 3 v2 (by kernel_rfl) rfl) h2
 obtain ⟨n3,rfl,hi3⟩:=QU (hval 3 3 v3 (by kernel_rfl) rfl) h3
 obtain ⟨t4,ht4⟩:=aeO (hval 4 57 v4 (by kernel_rfl) rfl) h4
 refine Calls.mono (Qb (K:=fun v W'=>v = .bool true∧Ext W W') (afx hL) (acv W) hu0 ht4 fun w' e=>⟨rfl,e⟩) ?_
 rintro e W' ⟨v,he,rfl,hE⟩
 exact ⟨_,he,acJ aeL afY age (by rw [show Tryz.f5.params.toList = [25,3,3,3,57] by kernel_rfl];decide) rfl (by kernel_rfl) ach hW' rfl hE⟩
def wit : Array Value:=#[.agg #[.slice none 0 0,.slice none 0 0,.int .i64 0],.int .i64 0,.int .i64 0,.int .i64 0,.agg #[.int .u8 0,.bool false,.int .i64 0,.int .i64 0,.slice none 0 0]]
theorem ad5 (os : Os) : laidMet Tryz.prog Rows.graphFitsRow.laid ((YM os).forCall (fun _ _=>0) ⟨#[],wit,[]⟩).memory:=
 laidMet_of_run' 8 (by kernel_rfl) (by kernel_rfl)
theorem af7 (os : Os) {H : Type} (enc : TypeId × Value→H) : ∃ places,DataW.whole enc Tryz.prog ((YM os).forCall (fun _ _=>0) ⟨#[],wit,[]⟩).memory Tryz.f5.params.toList Rows.graphFitsSpec.vars false wit.toList 8=some ([.agg [.nil,.nil,.lit (.int .i64 0)],.lit (.int .i64 0),.lit (.int .i64 0),.lit (.int .i64 0),.agg [.lit (.int .u8 0),.lit (.bool false),.lit (.int .i64 0),.lit (.int .i64 0),.nil]],[],places):=
 ⟨[],by kernel_rfl⟩
theorem afz (os : Os) (started : os.Started) (H : Type) (enc : TypeId × Value→H) (F : Stop.Interp) :
  ReturnsInHanded {} Tryz.checked os 5 .any ((Rows.OpenSpec.upto Rows.graphFitsSpec).preRow enc Tryz.prog Tryz.f5 Rows.graphFitsUptoRow.domain false Rows.graphFitsUptoRow.laid) (((Rows.OpenSpec.upto Rows.graphFitsSpec).at F).post enc Tryz.prog Tryz.f5 false true false false):=by
 obtain ⟨places,hx⟩:=af7 os enc
 refine returnsInHanded_of_row (C:=Tryz.checked) (s:=Rows.OpenSpec.upto Rows.graphFitsSpec) own started (by kernel_rfl) Tryz.func5
  (witness_row_at (enc:=enc) (C:=Tryz.checked) false (YM os) wit rfl (by kernel_rfl) (by kernel_rfl) (by kernel_rfl)
   (OpenSpec.preRow_of_cond 8 hx (by kernel_rfl) (fun k hk=>by cases hk;kernel_rfl) (by kernel_rfl) (ad5 os))) ?_
 intro W base args ds gs before hval hW _ _ hwt hL _ _
 exact ad4 H enc W base args ds gs before hval hW hL hwt
theorem said : Rows.GraphFitsUptoSaid:=
 OpenClaim.holds_of_cond 5 Tryz.f5 rfl rfl rfl rfl rfl rfl rfl ⟨rfl,rfl,rfl,rfl,rfl⟩ rfl rfl rfl rfl rfl (by kernel_rfl) Tryz.func5 (by kernel_rfl)
  (of_decide_eq_true (by kernel_rfl)) (by unfold Func.isWrapper;first|(rw [if_pos (by decide +kernel)];kernel_rfl)|(rw [if_neg (by decide +kernel)];exact ⟨rfl,rfl⟩))
  (fun os started H enc _ F=>by rw [OpenClaim.pre_eq_preRow];exact afz os started H enc F)
theorem plain (f : FuncId) (fn : Func) (hf : Tryz.pinned.checked.prog.funcNamed "loanword/loanwordlaw10.GraphFits" = some f) (hfn : Tryz.pinned.checked.prog.funcs[f]? = some fn) :
  false=Tryz.pinned.checked.prog.looks []∧∀ (j : Nat) t,fn.params[j]? = some t→Tryz.pinned.checked.prog.wantsStandIn t=false:=by
 obtain rfl : f = 5 := Option.some.inj ((show Tryz.prog.funcNamed "loanword/loanwordlaw10.GraphFits" = some 5 by kernel_rfl).symm.trans hf) |>.symm
 obtain rfl : fn=Tryz.f5:=(Option.some.inj (Tryz.func5.symm.trans hfn)).symm
 refine ⟨by kernel_rfl,fun j t ht=>?_⟩
 have hall : (Tryz.f5.params.all fun t=>!(Tryz.prog.wantsStandIn t))=true:=by kernel_rfl
 have:=Array.all_eq_true_iff_forall_mem.1 hall t (Array.mem_of_getElem? ht)
 show Tryz.prog.wantsStandIn t=false
 simpa using this
theorem card : Rows.GraphFitsUptoCardSaid:=
 Claim7.holds_tied_plain_at .later [] _ _ _ _ said (fun _ h=>by cases h) (by kernel_rfl) (fun _ h=>by cases h) graphFitsUpto_row_tie rfl ⟨rfl,rfl⟩ (by kernel_rfl) rfl plain (by kernel_rfl)
end Go.Proofs.YtngfnikkdhbajaaGreatDoor.graphFits
end
