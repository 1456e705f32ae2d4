/-
  Contracts: the operands of a point.
  Shapes: what regions say nothing of; the plain law of RegionShapes.
  Contracts: Operands of graph.
  graph.Next; the example of law 10.
  loanwordref10.Own: places and operands; what a memory of one's own tells.
  Contract: loanwordref10.Own, a program in memory of its own; one function's lists are told as rows that may be written over.
  Plain: a program that may be still may be with another point, or a local more; what it tells of sizes.
  Plain: a program that may be, with one function changed; what a point that may be tells of its operands' types.
  A program in memory of its own, one function's lists as rows: looked at, written over.
  Plain: what was written of a point is read again: numbers, places, operands.
  Plain: a point's text is read again.
  loanwordlaw10: awake.
  Shallow readings of functions. Made by a program (wip/gen/gen.py) out of the translation; the kernel checks each equality.
  The document's answer of layer 9: which types may be; how many words.
  The document's answer of layer 9: words, endless, Structs, Types.
  The document's answer of layer 9: Structs, Types, step, Walk.
  The document's answer of layer 9: step, Walk.
  The document's answer of layer 10: small parts.
  The document's answer of layer 10: rest.
  The document's answer of layer 10: walk, to, operand, args of an asker.
  The document's answer of layer 10: operand, args of an asker.
  Joined conditions with calls in them; facts of an asker.
  The document's answer of layer 10: a point.
  The document's answer of layer 10: what a type implies; the head of a graph.
  The document's answer of layer 10: the head of a graph.
  The document's answer of layer 10: Check, May, Is.
  loanwordlaw10.GraphTexts: whatever the program, the function, the point: the law returns true.
  A program in memory of its own: a whole point written over. Plain: which points have one text.
  Contracts of the library, laid at this program (by the kit's own tools).
  slices.Sort, slices.Compact, slices.Clip of a row of numbers that the walk has made itself.
  graph.Calls and the document's Calls.
  What the document says of points: Next, Operands, Assigns, Calls, places compared.
  The document's Calls and Place.
  loanwordlaw10.GraphAsks: whatever the program, the function, the point, the place: the law returns true.
  loanwordlaw10.GraphFits: whatever the program, the function, the point, the type: the law returns true.
  loanwordlaw10.GraphLike: whatever the program, the function, the two points: the law returns true.
  Openings: what arguments that are types, programs, lists of numbers tell.
  Openings of layer 10: programs with their numbers, places; the table of tens.
  loanwordlaw10.GraphLike: the card: whatever the input, the law returns true and the input reads as it did.
-/
import Derived.Test.YtngfnikkdhbajaaGreatDoorQPd
import Derived.Test.YtngfnikkdhbajaaGreatDoorQPc
import Derived.Lib.ItoaMem
import Derived.Test.YtngfnikkdhbajaaGreatDoorQPb
import Derived.Shelf.Sort.Plain
import Derived.Shelf.Slices.CompactI
import Derived.Shelf.Slices.In.SortNone
import Derived.Test.YtngfnikkdhbajaaGreatDoorProg
import Derived.KernelRfl
import Derived.Test.YtngfnikkdhbajaaGreatDoorRows
import Derived.WalkKit
import Derived.Test.YtngfnikkdhbajaaGreatDoorCards
import Derived.Test.YtngfnikkdhbajaaGreatDoorTie
import Derived.Stop.LaidErr
import Derived.Lib.LaidTab
section
namespace Go.Sh
open Go.RowKit
section
variable {P : Program} {X : Nat→Prop} {w0 w : World} {r : Gh} {L : List Asr} {α : Type} {sz n : Nat} {R : List Value→α→Prop} {l : List α} {e : TypeId} {p : Option Addr} {cap : Nat}
theorem aeN (hz : 0<sz) (h : SlG sz r R (.slice p n cap) l) : ∃ xs,RowOf sz R xs l∧Ob r fun w=>Sl w p xs:=by
 have key : ∀ k,k≤l.length→∃ xs,RowOf sz R xs (l.take k)∧Ob r fun w=>Sl w p xs:=by
  intro k
  induction k with
  |zero=>intro _;exact ⟨[],by rw [List.take_zero];exact RowOf.nil,fun w _=>Sl.nil w _⟩
  |succ k ih=>
   intro hk
   obtain ⟨xs,h1,h2⟩:=ih (by omega)
   obtain ⟨b,off,c,rfl,hc,hcc,hcell⟩:=h.get hz (show k<l.length by omega)
   have hxl : xs.length=k*sz:=by rw [h1.1,List.length_take,Nat.min_eq_left (by omega)]
   refine ⟨xs++c,by rw [List.take_succ_eq_append_getElem (by omega)];exact h1.snoc hc hcc,fun w hw i v hi=>?_⟩
   by_cases hlt : i<xs.length
   ·rw [List.getElem?_append_left hlt] at hi;exact h2 w hw i v hi
   ·rw [List.getElem?_append_right (by omega)] at hi
    have:=hcell _ v hi w hw
    exact ⟨b,off,rfl,by rwa [show off+k*sz+(i - xs.length)=off+i by omega] at this⟩
 have:=key l.length (Nat.le_refl _)
 rwa [List.take_length] at this
theorem aca {xs : List Value} (h : RowOf sz R xs l) (hz : 0<sz) (h1 : ∀ c x,R c x→∀ u ∈ c,u.oneCell'=true) : ∀ u ∈ xs,u.oneCell'=true:=fun u hu=>by
 obtain ⟨i,hi,rfl⟩:=List.getElem_of_mem hu
 have hj : i / sz<l.length:=by
  rw [h.1] at hi
  exact Nat.div_lt_of_lt_mul (by rw [Nat.mul_comm];exact hi)
 refine h1 _ _ (h.2 _ hj) _ ?_
 have hm:=Nat.mod_lt i hz
 have hd:=Nat.div_add_mod i sz
 refine List.mem_of_getElem? (i:=i % sz) ?_
 rw [List.getElem?_take,if_pos hm,List.getElem?_drop,show i / sz*sz+i % sz=i by rw [Nat.mul_comm];exact hd,List.getElem?_eq_getElem hi]
theorem StX.cellRow {b : Nat} {c : List Value} (S : StX X w0 r w (.cell b c e::L)) (hn : n≤cap) (hc : c.length=cap*sz) (hm : cap≤maxLen) : StX X w0 r w (.row (.slice (some ⟨b,0,none⟩) n cap) e sz n (c.take (n*sz))::L):=by
 have:=Yt (w:=w) (base:=0) (size:=sz) (n:=n) (cap:=cap) (Nat.zero_le _) (S.has (.cell b c e) List.mem_cons_self) hn hm hc
 exact S.turn (p:=[]) (x:=.cell b c e) (y:=.row (.slice (some ⟨b,0,none⟩) n cap) e sz n (c.take (n*sz))) (ExtBut.refl _ _) this fun k hk=>.inl (by cases hk;rfl)
end
end Go.Sh
namespace Go.Proofs
open Go.Sh
set_option maxRecDepth 100000
set_option linter.unusedSimpArgs false
set_option linter.unusedVariables false
theorem XY {r : Gh} {c : List Value} {o : OpD} (h : OpG r c o) : ∃ q k,c = [.int .u8 o.k,.int .i64 o.n,.int .i64 o.pl.l,.slice q o.pl.ps.length k]:=by
 obtain ⟨v,rfl,hl⟩:=h
 obtain ⟨q,k,rfl,_⟩:=hl.sl.shape
 exact ⟨q,k,rfl⟩
theorem y0 {r : Gh} {c : List Value} {o : OpD} (h : OpG r c o) : c.length=4:=by obtain ⟨q,k,rfl⟩:=XY h;rfl
theorem XZ {r : Gh} {c : List Value} {o : OpD} (h : OpG r c o) : ∀ u ∈ c,u.oneCell'=true:=by obtain ⟨q,k,rfl⟩:=XY h;simp [Value.oneCell']
def yp (o : OpD) : Bool:=decide (o.k≠0)
def opersG (p : PtD) : List OpD:=(p.a::p.b::p.args).filter yp
abbrev acb : Value:=.func (.func Tryz.jU) #[] #[]
theorem XI {o : OpD} {c : List Value} {w0 w : World} {r : Gh} {L : List Asr} {K : Value→World→Prop} (S : StX noX w0 r w L) (ho : OpG r c o)
  (h : ∀ w',StX noX w0 r w' L→K (.bool (decide (o.k=0))) w') : zQ Tryz.prog acb #[.agg c.toArray] w K:=by
 refine ael (by kernel_rfl) ?_
 refine Tryz.Y3 ?_
 unfold Tryz.jY
 obtain ⟨q,k,rfl⟩:=XY ho
 refine S.box fun b1 w1 S=>?_
 have S : StX noX w0 r w1 (.cell b1 [.int .u8 o.k,.int .i64 o.n,.int .i64 o.pl.l,.slice q o.pl.ps.length k] 41::L):=S
 refine gg_ ?_
 exact h _ S.tl
abbrev kz (c : List Value) (i : Nat) : List Value:=(c.drop (i*4)).take 4
theorem J9 {l : List OpD} {b n cap : Nat} {c : List Value} {w0 w : World} {r : Gh} {L : List Asr} {K : Value→World→Prop} (S : StX noX w0 r w (.cell b c 41::L)) (hn : n=l.length) (hb : n≤1000000)
  (hrow : ∀ (i : Nat) (hi : i<l.length),OpG r (kz c i) l[i])
  (h : ∀ (i : Int) w',StX noX w0 r w' (.cell b c 41::L)→(i = -1∧(∀ o ∈ l,o.k≠0))∨(∃ j : Nat,i=j∧∃ hj : j<l.length,l[j].k=0∧∀ o ∈ l.take j,o.k≠0)→K (.int .i64 i) w') :
  zd Tryz.prog Tryz.zR #[.slice (some ⟨b,0,none⟩) n cap,acb] w K:=by
 subst hn
 refine Tryz.xH ?_
 unfold Tryz.yl
 refine gp_ ?_
 refine zk (ι:=Nat) (fun i=>[.int .i64 (i : Nat)]) (fun i w'=>i≤l.length∧(∀ o ∈ l.take i,o.k≠0)∧StX noX w0 r w' (.cell b c 41::L)) (fun i=>l.length - i) 0 rfl ⟨Nat.zero_le _,by simp,S⟩ ?_
 clear S
 rintro i d w' ⟨hi,hno,S⟩ K6 hK6
 rw [List.getD_cons_zero]
 refine gp_ ?_
 refine zg (fun hlt=>?_) (fun hge=>?_)
 ·have hlt : i<l.length:=by omega
  have hr:=hrow i hlt
  refine s_c (by omega) ?_
  rw [show 0+((i : Nat) : Int).toNat*4=i*4 by omega]
  refine S.ldN (b:=b) (vs:=kz c i) ?_ rfl (y0 hr)
  refine XI S hr fun w2 S=>?_
  refine zg (fun hk=>?_) (fun hk=>?_)
  ·exact h _ _ S (.inr ⟨i,rfl,hlt,hk,hno⟩)
  ·refine gp_ ?_
   rw [show ((i : Int)+1)=((i+1 : Nat) : Int) by omega]
   refine hK6 (i+1) _ ⟨hlt,fun o ho=>?_,S⟩ (by omega)
   rw [List.take_succ_eq_append_getElem hlt,List.mem_append] at ho
   rcases ho with ho|ho
   ·exact hno o ho
   ·rw [List.mem_singleton.1 ho];exact hk
 ·have hie : i=l.length:=by omega
  rw [hie,List.take_length] at hno
  exact h _ _ S (.inl ⟨rfl,hno⟩)
theorem abC {o : OpD} (h : o.k=0) : [o].filter yp = []:=by simp [yp,h]
theorem ad3 {o : OpD} (h : o.k≠0) : [o].filter yp = [o]:=by simp [yp,h]
theorem YL {l : List OpD} (h : ∀ o ∈ l,o.k≠0) : l.filter yp=l:=List.filter_eq_self.2 fun o ho=>decide_eq_true (h o ho)
theorem abD {c cs : List Value} {i m : Nat} (hc : i*4+4≤c.length) (hl : cs.length=4) (hm : i<m) : kz (c.take (i*4)++cs++c.drop (i*4+4)) m=kz c m:=by
 have e : (c.take (i*4)++cs++c.drop (i*4+4)).drop (m*4)=c.drop (m*4):=by
  rw [List.drop_append,List.drop_of_length_le (by rw [List.length_append,List.length_take,hl];omega),List.nil_append,List.length_append,List.length_take,hl,List.drop_drop]
  congr 1;omega
 rw [kz,e]
theorem abE {c cs : List Value} {i : Nat} (hc : i*4+4≤c.length) (hl : cs.length=4) : (c.take (i*4)++cs++c.drop (i*4+4)).take ((i+1)*4)=c.take (i*4)++cs:=by
 rw [List.take_append_of_le_length (by rw [List.length_append,List.length_take,hl];omega),List.take_of_length_le (by rw [List.length_append,List.length_take,hl];omega)]
set_option maxHeartbeats 1000000 in
theorem Ju {l : List OpD} {b n cap : Nat} {c : List Value} {w0 w : World} {r : Gh} {L : List Asr} {K : Value→World→Prop} (S : StX noX w0 r w (.cell b c 41::L)) (hn : n=l.length) (hb : n≤1000000) (hnc : n≤cap) (hc : c.length=cap*4)
  (hrow : ∀ (i : Nat) (hi : i<l.length),OpG r (kz c i) l[i])
  (h : ∀ c' w',StX noX w0 r w' (.cell b c' 41::L)→c'.length=cap*4→RowOf 4 (OpG r) (c'.take ((l.filter yp).length*4)) (l.filter yp)→K (.slice (some ⟨b,0,none⟩) (l.filter yp).length cap) w') :
  zd Tryz.prog Tryz.zP #[.slice (some ⟨b,0,none⟩) n cap,acb] w K:=by
 subst hn
 refine Tryz.xC ?_
 unfold Tryz.yi
 have hrow0 : ∀ k,k≤l.length→RowOf 4 (OpG r) (c.take (k*4)) (l.take k):=fun k hk=>⟨by rw [List.length_take,List.length_take];omega,fun i hi=>by
  rw [List.length_take] at hi
  rw [List.getElem_take,List.drop_take,List.take_take,Nat.min_eq_left (by omega)]
  exact hrow i (by omega)⟩
 refine J9 S rfl hb hrow fun i0 w1 S hi0=>?_
 refine gp_ ?_
 rcases hi0 with ⟨rfl,hall⟩|⟨j,rfl,hj,hjk,hbef⟩
 ·refine c_t (by decide) ?_
  have:=h c w1 S hc (by rw [YL hall];have:=hrow0 l.length (Nat.le_refl _);rwa [List.take_length] at this)
  rw [YL hall] at this
  exact this
 refine c_f (decide_eq_false (by omega)) ?_
 refine gp_ ?_
 have hf0 : (l.take j).filter yp=l.take j:=YL hbef
 have hf1 : (l.take (j+1)).filter yp=l.take j:=by
  rw [List.take_succ_eq_append_getElem hj,List.filter_append,hf0,abC hjk,List.append_nil]
 refine zk (ι:=Nat × Nat × List Value) (fun i=>[.int .i64 (i.1 : Nat),.int .i64 (i.2.1 : Nat)]) (fun i w'=>i.1<i.2.1∧i.2.1≤l.length∧i.1=((l.take i.2.1).filter yp).length∧i.2.2.length=cap*4∧RowOf 4 (OpG r) (i.2.2.take (i.1*4)) ((l.take i.2.1).filter yp)∧
  (∀ (m : Nat) (hm : m<l.length),i.2.1≤m→OpG r (kz i.2.2 m) l[m])∧StX noX w0 r w' (.cell b i.2.2 41::L)) (fun i=>l.length - i.2.1) (j,j+1,c) (by simp) ⟨by simp,hj,by rw [hf1,List.length_take];omega,hc,by rw [hf1];exact hrow0 j (by omega),fun m hm _=>hrow m hm,S⟩ ?_
 clear S
 rintro ⟨i,k,c1⟩ d w2 ⟨hik,hk,hie,hc1,hr1,hrest,S⟩ K2 hK2
 simp only at hik hk hie hc1 hr1 hrest S ⊢
 simp only [List.getD_cons_zero,List.getD_cons_succ]
 refine gp_ ?_
 refine gp_ ?_
 refine zg (fun hlt=>?_) (fun hge=>?_)
 ·have hlt : k<l.length:=by omega
  have hrk:=hrest k hlt (Nat.le_refl _)
  have hs : l.take (k+1)=l.take k ++ [l[k]]:=List.take_succ_eq_append_getElem hlt
  refine zA (fun s w'=>∃ i' c',s = [.int .i64 (i' : Nat)]∧i'<k+1∧i'=((l.take (k+1)).filter yp).length∧c'.length=cap*4∧RowOf 4 (OpG r) (c'.take (i'*4)) ((l.take (k+1)).filter yp)∧
   (∀ (m : Nat) (hm : m<l.length),k+1≤m→OpG r (kz c' m) l[m])∧StX noX w0 r w' (.cell b c' 41::L)) (fun K6 hK6=>?_) ?_
  rotate_left
  ·rintro _ w3 ⟨i',c',rfl,g1,g2,g3,g4,g5,S⟩ d3
   rw [List.getD_cons_zero]
   refine gp_ ?_
   rw [show ((k : Int)+1)=((k+1 : Nat) : Int) by omega]
   exact hK2 (i',k+1,c') _ ⟨g1,hlt,g2,g3,g4,g5,S⟩ (by show l.length - (k+1)<l.length - k;omega)
  refine s_c (by omega) ?_
  rw [show 0+((k : Nat) : Int).toNat*4=k*4 by omega]
  refine S.ldN (b:=b) (vs:=kz c1 k) ?_ rfl (y0 hrk)
  refine S.al fun b7 w3 S=>?_
  refine S.stB (b:=b7) (cs:=(kz c1 k).toArray) (fun w4 S=>?_) rfl (by simpa using y0 hrk) (by simpa using XZ hrk)
  have S : StX noX w0 r w4 (.cell b7 (kz c1 k) 41 :: .cell b c1 41::L):=S
  refine S.ldB (b:=b7) ?_ (y0 hrk)
  refine XI S hrk fun w5 S=>?_
  refine gp_ ?_
  by_cases hk0 : l[k].k=0
  ·refine c_f (by rw [decide_eq_true hk0];rfl) ?_
   have hfe : (l.take (k+1)).filter yp=(l.take k).filter yp:=by
    rw [hs,List.filter_append,abC hk0,List.append_nil]
   refine hK6 _ _ ⟨i,c1,rfl,by omega,by rw [hfe];exact hie,hc1,by rw [hfe];exact hr1,fun m hm hkm=>hrest m hm (by omega),S.tl⟩
  ·refine c_t (by rw [decide_eq_false hk0];rfl) ?_
   have hfe : (l.take (k+1)).filter yp=(l.take k).filter yp ++ [l[k]]:=by
    rw [hs,List.filter_append,ad3 hk0]
   refine S.ldB (b:=b7) ?_ (y0 hrk)
   refine s_c (by omega) ?_
   rw [show 0+((i : Nat) : Int).toNat*4=i*4 by omega]
   refine S.stN (b:=b) (cs:=(kz c1 k).toArray) (fun w6 S=>?_) (by omega) (by simpa using y0 hrk) (by simpa using XZ hrk)
   have S : StX noX w0 r w6 (.cell b7 (kz c1 k) 41 :: .cell b (c1.take (i*4)++kz c1 k++c1.drop (i*4+4)) 41::L):=S
   refine gp_ ?_
   rw [show ((i : Int)+1)=((i+1 : Nat) : Int) by omega]
   refine hK6 _ _ ⟨i+1,c1.take (i*4)++kz c1 k++c1.drop (i*4+4),rfl,by omega,by rw [hfe,List.length_append,← hie];rfl,?_,?_,fun m hm hkm=>?_,S.tl⟩
   ·rw [List.length_append,List.length_append,List.length_take,List.length_drop,y0 hrk];omega
   ·rw [abE (by omega) (y0 hrk),hfe]
    exact hr1.snoc (y0 hrk) hrk
   ·rw [abD (by omega) (y0 hrk) (by omega)]
    exact hrest m hm (by omega)
 ·have hke : k=l.length:=by omega
  rw [hke,List.take_length] at hie hr1
  refine s_c (by omega) ?_
  rw [if_neg (by omega),Option.map_some,xA,Int.toNat_natCast,Nat.zero_add]
  refine S.clr (b:=b) (by
   have e : (List.length [Value.int .u8 0,Value.int .i64 0,Value.int .i64 0,Value.slice none 0 0])=4:=rfl
   rw [e];omega) (by simp [Value.oneCell']) fun c2 w3 hc2 ht2 S=>?_
  refine s_c (by omega) ?_
  rw [Int.toNat_natCast,hie]
  exact h c2 w3 S (by omega) (by rw [← hie,ht2];exact hr1)
set_option maxHeartbeats 1000000 in
theorem QR {p : PtD} {c : List Value} {w : World} {r : Gh} {K : Value→World→Prop} (hr : Holds r w) (hp : PtG r c p) (hb : p.args.length≤1000)
  (h : ∀ b cap c' w',StX noX w r w' [.cell b c' 41]→c'.length=cap*4→(opersG p).length≤cap→RowOf 4 (OpG r) (c'.take ((opersG p).length*4)) (opersG p)→K (.slice (some ⟨b,0,none⟩) (opersG p).length cap) w') :
  zd Tryz.prog Tryz.qI #[.agg c.toArray] w K:=by
 refine Tryz.X3 ?_
 unfold Tryz.Zf
 obtain ⟨q1,q2,q3,q4,q5,c1,c2,c3,c4,c5,rfl,hp0⟩:=yU hp
 obtain ⟨_,_,_,_,_,hE,k1,k2,k3,k4,k5⟩:=hp0
 cases hE
 have S:=St.start hr
 refine S.box fun b1 w1 S=>?_
 have S : StX noX w r w1 [.cell b1 (ptL p q1 q2 q3 q4 q5 c1 c2 c3 c4 c5) 44]:=S
 have hoa : OpG r [.int .u8 p.a.k,.int .i64 p.a.n,.int .i64 p.a.pl.l,.slice q2 p.a.pl.ps.length c2] p.a:=⟨_,rfl,k2⟩
 have hob : OpG r [.int .u8 p.b.k,.int .i64 p.b.n,.int .i64 p.b.pl.l,.slice q3 p.b.pl.ps.length c3] p.b:=⟨_,rfl,k3⟩
 refine gg_ ?_
 refine S.ldN (b:=b1) ?_
 refine gg_ ?_
 refine S.ldN (b:=b1) ?_
 refine S.lit (e:=41) (cs:=[.int .u8 p.a.k,.int .i64 p.a.n,.int .i64 p.a.pl.l,.slice q2 p.a.pl.ps.length c2] ++ [.int .u8 p.b.k,.int .i64 p.b.n,.int .i64 p.b.pl.l,.slice q3 p.b.pl.ps.length c3]) (by kernel_rfl) fun b8 w2 S=>?_
 have S:=S.cellRow (n:=2) (cap:=2) (sz:=4) (Nat.le_refl _) rfl (by simp [maxLen])
 obtain ⟨xs,hxr,hxs⟩:=aeN (by decide) k4.sl
 obtain ⟨_,_,hE,hq4,_⟩:=k4.sl.shape
 cases hE
 refine gg_ ?_
 refine S.ap (v:=.slice (some ⟨b8,0,none⟩) 2 2) (S.at hxs) (fun v3 w3 S=>?_) (by omega) hxr.1 hq4 (aca hxr (by decide) fun c x hx=>XZ hx)
 obtain ⟨b9,cap9,c9,rfl,hc9,hcl9,htk9,S⟩:=S.rowCell v3 (by omega)
 have hlen : (p.a::p.b::p.args).length=2+p.args.length:=by simp;omega
 have hrw : RowOf 4 (OpG r) (c9.take ((2+p.args.length)*4)) (p.a::p.b::p.args):=by
  rw [htk9]
  exact vK (c:=[.int .u8 p.a.k,.int .i64 p.a.n,.int .i64 p.a.pl.l,.slice q2 p.a.pl.ps.length c2]) rfl hoa (vK (c:=[.int .u8 p.b.k,.int .i64 p.b.n,.int .i64 p.b.pl.l,.slice q3 p.b.pl.ps.length c3]) rfl hob hxr)
 refine Ju (l:=p.a::p.b::p.args) (L:=[.cell b1 (ptL p q1 q2 q3 q4 q5 c1 c2 c3 c4 c5) 44]) S hlen.symm (by omega) hc9 hcl9 (fun i hi=>?_) fun c' w4 S hc' hrow=>?_
 ·have:=hrw.2 i hi
  rw [List.drop_take,List.take_take,Nat.min_eq_left (by omega)] at this
  exact this
 have hle : (opersG p).length≤cap9:=by
  have:=List.length_filter_le yp (p.a::p.b::p.args)
  show ((p.a::p.b::p.args).filter yp).length≤cap9
  omega
 exact h b9 cap9 c' w4 (S.less (fun _ _ h=>h) (.cons_cons _ (List.nil_sublist _))) hc' hle hrow
end Go.Proofs
end
section
namespace Go.Proofs
open Go.Sh
set_option maxRecDepth 100000
set_option linter.unusedSimpArgs false
set_option linter.unusedVariables false
theorem YM {ss : List StD} {tys : List TyD} : ∀ {l : List OpD} {ts : List TyD},yT ss tys l ts=true→l.length=ts.length∧∀ (i : Nat) (hi : i<l.length) (hj : i<ts.length),(zK ss tys l[i]).2=true∧zY xh (zK ss tys l[i]).1 ts[i]=true
 |[],[],_=>⟨rfl,fun i hi=>absurd hi (Nat.not_lt_zero _)⟩
 |[],_::_,h=>by cases h
 |_::_,[],h=>by cases h
 |o::l,t::r,h=>by
  rw [YF,Bool.and_eq_true,Bool.and_eq_true] at h
  obtain ⟨h1,h2⟩:=YM h.2
  refine ⟨by simp [h1],fun i hi hj=>?_⟩
  cases i with
  |zero=>exact h.1
  |succ i=>exact h2 i (by simpa using hi) (by simpa using hj)
theorem acd {ss : List StD} {tys : List TyD} {o : OpD} (h : (zK ss tys o).2=true) : o.pl.ps.length≤8:=by
 unfold zK at h
 split at h
 ·simp only [x9,Bool.and_eq_true,decide_eq_true_eq] at h;omega
 split at h
 ·simp only [x9,Bool.and_eq_true,decide_eq_true_eq] at h;omega
 split at h
 ·simp only [Bool.and_eq_true] at h;exact YI h.1.1
 split at h
 ·simp only [Bool.and_eq_true] at h;exact YI h.1.1.1
 ·cases h
theorem aeO {o : OpD} (h : o.k≠0) : vH o=false:=by rw [vH,decide_eq_false h];rfl
theorem Qr {u : UnD} {g : GrD} {p : PtD} (h : ptG u g p=true) : 1≤p.op∧p.op≤14:=by
 refine Classical.byContradiction fun hc=>?_
 rw [ptG] at h
 rw [if_neg (by omega),if_neg (by omega),if_neg (by omega),if_neg (by omega),if_neg (by omega),if_neg (by omega),if_neg (by omega),if_neg (by omega),if_neg (by omega),if_neg (by omega),if_neg (by omega),if_neg (by omega),if_neg (by omega)] at h
 cases h
theorem ada {u : UnD} {g : GrD} {p : PtD} (h : zu u g p=true) : ∀ o ∈ opersG p,(zK u.ss g.tys o).2=true:=by
 have h2:=jF h
 intro o ho
 rw [opersG,List.mem_filter,yp,decide_eq_true_eq] at ho
 obtain ⟨hm,hk⟩:=ho
 have hn:=aeO hk
 have hc : p.op=1∨p.op=2∨p.op=3∨p.op=4∨p.op=5∨p.op=6∨p.op=7∨p.op=8∨p.op=9∨p.op=10∨p.op=11∨p.op=12∨p.op=13∨p.op=14:=by
  have:=Qr h2
  omega
 cases hf : (zK u.ss g.tys o).2 with
 |true=>rfl
 |false=>
  exfalso
  rw [List.mem_cons,List.mem_cons] at hm
  rw [ptG] at h2
  rcases hm with rfl|rfl|hm
  ·rcases hc with hc|hc|hc|hc|hc|hc|hc|hc|hc|hc|hc|hc|hc|hc<;>simp [hc,hf,hn,zE,qD] at h2
  ·rcases hc with hc|hc|hc|hc|hc|hc|hc|hc|hc|hc|hc|hc|hc|hc<;>simp [hc,hf,hn,zE,qD] at h2
  ·have hne : p.args.length≠0:=fun h0=>by rw [List.eq_nil_of_length_eq_zero h0] at hm;cases hm
   obtain ⟨i,hi,rfl⟩:=List.getElem_of_mem hm
   have harg : ∀ ts,yT u.ss g.tys p.args ts=false:=fun ts=>by
    cases ha : yT u.ss g.tys p.args ts with
    |false=>rfl
    |true=>
     obtain ⟨hl,hx⟩:=YM ha
     have:=(hx i hi (by omega)).1
     rw [hf] at this;cases this
   have hne' : p.args≠[]:=fun h0=>hne (by rw [h0];rfl)
   rcases hc with hc|hc|hc|hc|hc|hc|hc|hc|hc|hc|hc|hc|hc|hc<;>first|(simp [hc,hne,hne',zE,qD] at h2;done)|(simp [hc,hne,hne',zE,qD,harg] at h2;try (split at h2<;>simp_all))
theorem ad4 {u : UnD} {g : GrD} {p : PtD} (hM : MayU u) (h : zu u g p=true) : p.args.length≤1000:=by
 have h2:=jF h
 by_cases hne : p.args.length=0
 ·omega
 have hne' : p.args≠[]:=fun h0=>hne (by rw [h0];rfl)
 rw [ptG] at h2
 by_cases h6 : p.op=6
 ·simp only [h6,Int.reduceEq,if_false,if_true,Bool.and_eq_true,decide_eq_true_eq,isK] at h2
  have hl:=(YM h2.2).1
  have hf : (xq u.ss (zC u.ss g.tys p.to).1).1.length≤8:=by
   rw [xq]
   split
   ·exact Yi (kX hM.ok).2.1 _
   ·simp
  omega
 by_cases h7 : p.op=7
 ·simp only [h7,Int.reduceEq,if_false,if_true,Bool.and_eq_true,decide_eq_true_eq] at h2
  have hlt : p.fn.toNat<u.fs.length:=by omega
  rw [List.getElem?_eq_getElem hlt] at h2
  have h3:=h2.2
  simp only [Bool.and_eq_true] at h3
  have hl:=(YM h3.2).1
  have:=(hM.hd hlt).pn8
  rw [List.length_take] at hl
  omega
 ·exfalso
  have hc : p.op=1∨p.op=2∨p.op=3∨p.op=4∨p.op=5∨p.op=8∨p.op=9∨p.op=10∨p.op=11∨p.op=12∨p.op=13∨p.op=14:=by
   have:=Qr (jF h)
   omega
  rcases hc with hc|hc|hc|hc|hc|hc|hc|hc|hc|hc|hc|hc<;>simp [hc,hne,hne',zE,qD] at h2
end Go.Proofs
end
section
namespace Go.Proofs
open Go.Sh
set_option maxRecDepth 100000
set_option linter.unusedSimpArgs false
set_option linter.unusedVariables false
theorem StX.cutSl {α : Type} {sz b cap : Nat} {R : List Value→α→Prop} {l : List α} {X : Nat→Prop} {w0 w : World} {r : Gh} {L : List Asr} {xs : List Value} {e : TypeId} (S : StX X w0 r w (.cell b xs e::L)) (h : RowOf sz R (xs.take (l.length*sz)) l) (hz : 0<sz) (hc : l.length≤cap) :
  StX X w0 (r.or (Go.Sh.one b xs e)) w L∧SlG sz (Go.Sh.one b xs e) R (.slice (some ⟨b,0,none⟩) l.length cap) l:=
 ⟨StX.frz S,h.sl (by simp) hc (fun w k=>(Sl.blk (yx w k)).take _) hz ⟨w,yc (S.has _ (List.mem_cons_self ..))⟩⟩
noncomputable def XJ (u : UnD) (n q : Int) : List OpD × Int:=if ptE u n q≠0 then ([],ptE u n q) else match kS u n q with|some p=>(opersG p,0)|none=>([],2)
theorem aeP {u : UnD} {n q : Int} {p : PtD} (h0 : ptE u n q=0) (hp : kS u n q=some p) : MayU u∧∃ g ∈ u.fs,u.fs[n.toNat]? = some g∧p ∈ g.pts∧zu u g p=true∧HeadU u n.toNat g:=by
 obtain ⟨hf,hq0,hn,hql⟩:=aaU h0
 obtain ⟨hM,_,_⟩:=XA hf
 obtain ⟨hl,hpe⟩:=aaT hn hp
 have hm : p ∈ u.fs[n.toNat].pts:=by rw [← hpe];exact List.getElem_mem _
 exact ⟨hM,_,List.getElem_mem hn,List.getElem?_eq_getElem hn,hm,hM.pts _ (List.getElem_mem hn) p hm,hM.hd hn⟩
set_option maxHeartbeats 1000000 in
theorem QS {u : UnD} {n q : Int} {v : Value} {w : World} {r : Gh} {K : Value→World→Prop} (hr : Holds r w) (hu : UnG r v u)
  (h : ∀ vl s w',Ext w w'→New w s w'→SlG 4 s (OpG s) vl (XJ u n q).1→K (.tuple #[vl,.int .i64 (XJ u n q).2]) w') : zd Tryz.prog Tryz.qH #[v,.int .i64 n,.int .i64 q] w K:=by
 refine Tryz.X1 ?_
 unfold Tryz.Zd
 have hu0:=hu
 obtain ⟨p0,cap0,vf,rfl,_,_,hst,hsl,hfn⟩:=hu
 obtain ⟨qf,capf,rfl,_,_⟩:=hfn.sl.shape
 have S:=St.start hr
 refine S.box fun b3 w1 S=>?_
 have S : StX noX w r w1 [.cell b3 [.slice p0 u.ss.length cap0,.slice qf u.fs.length capf,.int .i64 u.mn] 25]:=S
 refine S.ldB (b:=b3) ?_ rfl
 refine qE S.holds hu0 fun c p w3 e3 hp hpi=>?_
 have S:=S.go e3
 obtain ⟨z1,z2,z3,z4,z5,t1,t2,t3,t4,t5,rfl,hp0⟩:=yU hp
 refine gS_ ?_
 refine S.al fun b8 w4 S=>?_
 refine S.stB (b:=b8) fun w5 S=>?_
 refine gp_ ?_
 refine zg (fun hne=>?_) (fun heq=>?_)
 ·have hG : XJ u n q=([],ptE u n q):=by rw [XJ,if_pos hne]
  rw [hG] at h
  exact h _ nothing _ S.ext New.nothing SlG.nil
 have h0 : ptE u n q=0:=by omega
 have hpn:=hpi h0
 have hG : XJ u n q=(opersG p,0):=by rw [XJ,if_neg (by omega),hpn]
 rw [hG] at h
 rw [h0]
 obtain ⟨hM,g,hgm,hgi,hpm,hpg,hH⟩:=aeP h0 hpn
 have harg:=ad4 hM hpg
 have hsh : ∀ o ∈ opersG p,o.pl.ps.length≤8:=fun o ho=>acd (ada hpg o ho)
 have hfw : (opersG p).length≤1002:=by
  have:=List.length_filter_le yp (p.a::p.b::p.args)
  show ((p.a::p.b::p.args).filter yp).length≤1002
  simp only [List.length_cons] at this
  omega
 refine S.ldB (b:=b8) ?_ rfl
 refine QR S.holds hp0 harg fun b cap c w6 S6 hc hcap hrow=>?_
 have S : StX noX w r w6 [.cell b c 41]:=S.whole S6 fun _ h=>h.elim
 clear S6
 generalize opersG p=l at h hsh hfw hcap hrow ⊢
 refine gp_ ?_
 refine zk (ι:=Nat × Gh × List Value) (fun i=>[.int .i64 (i.1 : Nat)]) (fun i w'=>i.1≤l.length∧i.2.2.length=cap*4∧Above w i.2.1∧RowOf 4 (OpG i.2.1) (i.2.2.take (i.1*4)) (l.take i.1)∧
  (∀ (m : Nat) (hm : m<l.length),i.1≤m→OpG r (kz i.2.2 m) l[m])∧StX noX w (r.or i.2.1) w' [.cell b i.2.2 41]) (fun i=>l.length - i.1) (0,nothing,c) rfl ⟨Nat.zero_le _,hc,Above.no,by simpa using RowOf.nil,fun m hm _=>by
   have:=hrow.2 m hm
   rw [List.drop_take,List.take_take,Nat.min_eq_left (by omega)] at this
   exact this,S.to _⟩ ?_
 clear S hrow hc
 rintro ⟨i,s,c1⟩ d w7 ⟨hi,hc1,hab,hr1,hrest,S⟩ K6 hK6
 simp only at hi hc1 hab hr1 hrest S ⊢
 rw [List.getD_cons_zero]
 refine gp_ ?_
 refine zg (fun hlt=>?_) (fun hge=>?_)
 ·have hlt : i<l.length:=by omega
  have hri:=hrest i hlt (Nat.le_refl _)
  refine s_c (by omega) ?_
  rw [show 0+((i : Nat) : Int).toNat*4=i*4 by omega]
  refine S.ldN (b:=b) (vs:=kz c1 i) ?_ rfl (y0 hri)
  refine XB S.holds (OpG.up hri) (by have:=hsh _ (List.getElem_mem hlt);omega) fun c' sn w8 e8 n8 h8=>?_
  obtain ⟨S,d8,a8⟩:=S.tell e8 n8
  have S:=S.reGh
  refine s_c (by omega) ?_
  rw [show 0+((i : Nat) : Int).toNat*4=i*4 by omega]
  refine S.stN (b:=b) (cs:=c'.toArray) (fun w9 S=>?_) (by omega) (by simpa using y0 h8) (by simpa using XZ h8)
  have S : StX noX w (r.or (s.or sn)) w9 [.cell b (c1.take (i*4)++c'++c1.drop (i*4+4)) 41]:=S
  refine gp_ ?_
  rw [show ((i : Int)+1)=((i+1 : Nat) : Int) by omega]
  refine hK6 (i+1,s.or sn,c1.take (i*4)++c'++c1.drop (i*4+4)) _ ⟨hlt,?_,hab.or' a8,?_,fun m hm hkm=>?_,S⟩ (by show l.length - (i+1)<l.length - i;omega)
  ·show (c1.take (i*4)++c'++c1.drop (i*4+4)).length=cap*4
   rw [List.length_append,List.length_append,List.length_take,List.length_drop,y0 h8];omega
  ·show RowOf 4 (OpG (s.or sn)) ((c1.take (i*4)++c'++c1.drop (i*4+4)).take ((i+1)*4)) (l.take (i+1))
   rw [abE (by omega) (y0 h8),List.take_succ_eq_append_getElem hlt]
   exact (hr1.mono fun c x hx=>OpG.up hx).snoc (y0 h8) (OpG.up h8)
  ·show OpG r (kz (c1.take (i*4)++c'++c1.drop (i*4+4)) m) l[m]
   have hkm : i+1≤m:=hkm
   rw [abD (by omega) (y0 h8) (by omega)]
   exact hrest m hm (by omega)
 have hie : i=l.length:=by omega
 subst hie
 rw [List.take_length] at hr1
 have hmine:=S.mine _ (List.mem_cons_self ..) b rfl
 obtain ⟨S,hs2⟩:=StX.cutSl (cap:=cap) S hr1 (by decide) hcap
 have S:=S.reGh
 have hab2 : Above w (Go.Sh.one b c1 41):=fun b' o ho=>by rw [ho.1];exact hmine.1.resolve_right id
 exact h _ (s.or (Go.Sh.one b c1 41)) _ S.ext (S.newOf (hab.or' hab2)) (hs2.up' inferInstance fun c x hx=>OpG.up hx)
end Go.Proofs
end
section
namespace Go.Proofs
open Go.Sh
set_option maxRecDepth 100000
set_option linter.unusedSimpArgs false
set_option linter.unusedVariables false
theorem Jv {α : Type} {sz b : Nat} {R : List Value→α→Prop} {xs : List Value} {e : TypeId} {l : List α} {w : World} (h : RowOf sz R xs l) (hz : 0<sz) (B : Blk w b xs e) : SlG sz (Go.Sh.one b xs e) R (.slice (some ⟨b,0,none⟩) l.length l.length) l:=
 h.sl (by simp) (Nat.le_refl _) (fun w k=>Sl.blk (yx w k)) hz ⟨w,yc B⟩
def V5 (p : PtD) : List Int:=if p.op=14 then [] else if p.op=12∧p.nx≠p.el then [p.nx,p.el] else [p.nx]
noncomputable def ZQ (u : UnD) (n q : Int) : List Int:=if ptE u n q=0 then (match kS u n q with|some p=>V5 p|none=>[]) else []
theorem aaZ {u : UnD} {n q : Int} {v : Value} {w : World} {r : Gh} {K : Value→World→Prop} (hr : Holds r w) (hu : UnG r v u)
  (h : ∀ v' s w',Ext w w'→New w s w'→SlG 1 s ab0 v' (ZQ u n q)→K (.tuple #[v',.int .i64 (ptE u n q)]) w') : zd Tryz.prog Tryz.vX #[v,.int .i64 n,.int .i64 q] w K:=by
 refine Tryz.VO ?_
 unfold Tryz.Xr
 have hu0:=hu
 obtain ⟨p0,cap0,vf,rfl,_,_,hst,hsl,hfn⟩:=hu
 obtain ⟨qf,capf,rfl,_,_⟩:=hfn.sl.shape
 have S:=St.start hr
 refine S.box fun b3 w1 S=>?_
 have S : StX noX w r w1 [.cell b3 [.slice p0 u.ss.length cap0,.slice qf u.fs.length capf,.int .i64 u.mn] 25]:=S
 refine S.ldB (b:=b3) ?_ rfl
 refine qE S.holds hu0 fun c p w2 e2 hp hpt=>?_
 have S:=S.go e2
 obtain ⟨z1,z2,z3,z4,z5,t1,t2,t3,t4,t5,rfl,hp0⟩:=yU hp
 have hN : ptE u n q=0→ZQ u n q=V5 p:=fun h0=>by rw [ZQ,if_pos h0,hpt h0]
 have hN0 : ptE u n q≠0→ZQ u n q = []:=fun h0=>by rw [ZQ,if_neg h0]
 refine gS_ ?_
 refine S.al fun b8 w3 S=>?_
 refine S.stB (b:=b8) fun w4 S=>?_
 have S : StX noX w r w4 [.cell b8 (ptL p z1 z2 z3 z4 z5 t1 t2 t3 t4 t5) 44,.cell b3 [.slice p0 u.ss.length cap0,.slice qf u.fs.length capf,.int .i64 u.mn] 25]:=S
 refine gp_ ?_
 refine zh (c:=decide (p.op=14)) (fun _ K2 hK2=>by refine gg_ ?_;exact hK2) ?_
 refine c_b (fun hb=>?_) (fun hb=>?_)
 ·have hE : ZQ u n q = []:=by
   by_cases h0 : ptE u n q=0
   ·rw [hN h0,V5,if_pos (by simpa [h0] using hb)]
   ·exact hN0 h0
  rw [hE] at h
  exact h _ nothing _ S.ext New.nothing SlG.nil
 simp only [Bool.or_eq_false_iff,decide_eq_false_iff_not] at hb
 have h0 : ptE u n q=0:=Decidable.not_not.1 hb.1
 have hE:=hN h0
 rw [V5,if_neg hb.2] at hE
 refine gg_ ?_
 refine zj (c:=decide (p.nx≠p.el)) (fun _ K2 hK2=>by refine gg_ ?_;exact hK2) ?_
 refine c_b (fun hc=>?_) (fun hc=>?_)
 ·simp only [Bool.and_eq_true,decide_eq_true_eq] at hc
  rw [if_pos hc] at hE
  rw [hE] at h
  refine gg_ ?_
  refine S.lit (e:=3) (cs:=[.int .i64 p.nx,.int .i64 p.el]) (by kernel_rfl) fun b9 w9 S=>?_
  obtain ⟨S,hs,ha⟩:=S.litNew b9 (sz:=1) (R:=ab0) (l:=[p.nx,p.el]) (vK (c:=[.int .i64 p.nx]) rfl rfl (qW rfl rfl)) (by decide)
  exact h _ _ _ S.ext (S.newOf ha) hs
 ·simp only [Bool.and_eq_false_iff,decide_eq_false_iff_not] at hc
  rw [if_neg (by rintro ⟨h1,h2⟩;rcases hc with hc|hc<;>contradiction)] at hE
  rw [hE] at h
  refine gg_ ?_
  refine S.lit (e:=3) (cs:=[.int .i64 p.nx]) (by kernel_rfl) fun b9 w9 S=>?_
  obtain ⟨S,hs,ha⟩:=S.litNew b9 (sz:=1) (R:=ab0) (l:=[p.nx]) (qW rfl rfl) (by decide)
  exact h _ _ _ S.ext (S.newOf ha) hs
def exA (k : Int) : PtD:=⟨1,xT,⟨k,7,xT⟩,XW,[],ByteArray.empty,xT,false,0,0,1,0,0⟩
def exB : PtD:=⟨14,xT,XW,XW,[],ByteArray.empty,xT,false,0,0,0,0,0⟩
def exG (k : Int) : GrD:=⟨⟨#[109,97,105,110]⟩,0,[],0,[aaK],[⟨#[]⟩],[exA k,exB]⟩
def exU (k : Int) : UnD:=⟨[],[exG k],0⟩
theorem abF (k : Int) : yh (exU k) 0 (exG k)=true:=by
 have h1 : kP (exU k) (exG k) 0 (exG k).tys=true:=by
  show ((x7 [] aaK&&_)&&true)=true
  rw [ab7]
  kernel_rfl
 unfold yh
 rw [h1]
 show (_ : Bool)=true
 kernel_rfl
theorem agp (k : Int) : zu (exU k) (exG k) exB=true:=by
 have e : zE exB {} = true:=by
  rw [zE,qD,show exB.sign=ByteArray.empty from rfl,Js];kernel_rfl
 have : zu (exU k) (exG k) exB=zE exB {}:=by kernel_rfl
 rw [this,e]
theorem af4 : zu (exU 1) (exG 1) (exA 1)=true:=by
 have e : zE (exA 1) { to:=true,a:=true } = true:=by
  rw [zE,qD,show (exA 1).sign=ByteArray.empty from rfl,Js];kernel_rfl
 have : zu (exU 1) (exG 1) (exA 1)=(((zE (exA 1) { to:=true,a:=true } && true)&&true)&&true):=by kernel_rfl
 rw [this,e];rfl
theorem af5 : zu (exU 2) (exG 2) (exA 2)=false:=by
 have : zu (exU 2) (exG 2) (exA 2)=(((zE (exA 2) { to:=true,a:=true } && true)&&true)&&false):=by kernel_rfl
 rw [this,Bool.and_false]
theorem Jw : MayU (exU 1):=by
 refine ⟨by show (zU []).2=0;rw [hst],by decide,by decide,by decide,by decide,fun i hi=>?_,fun g hg=>?_⟩
 ·have : i=0:=by have : (exU 1).fs.length=1:=rfl;omega
  subst this
  exact abF 1
 ·rw [List.mem_singleton.1 hg]
  intro p hp
  have hp : p ∈ [exA 1,exB]:=hp
  simp only [List.mem_cons,List.not_mem_nil,or_false] at hp
  rcases hp with rfl|rfl
  ·exact af4
  ·exact agp 1
theorem Vw : kn (exU 2)=(0,0,100):=by
 have h1 : kQ (exU 2) 0 (exU 2).fs=none:=by
  show (if yh (exU 2) 0 (exG 2) then none else some 0)=none
  rw [abF];rfl
 have h2 : jD (exU 2) 0 (exU 2).fs=some (0,0):=by
  show (match (if zu (exU 2) (exG 2) (exA 2) then jN (exU 2) (exG 2) 1 [exB] else some 0) with|some q=>some (0,q)|none=>jD (exU 2) 1 [])=some (0,0)
  rw [af5];rfl
 have h3 : (zU (exU 2).ss).2=0:=by show (zU []).2=0;rw [hst]
 unfold kn
 rw [if_neg (by rw [h3];decide),h1,h2]
 rfl
theorem af6 : kx (exU 2)=false:=by
 rw [kx,Vw];rfl
theorem jP : ptE (exU 1) 0 0=0∧kS (exU 1) 0 0=some (exA 1):=by
 have hf : fnE (exU 1) 0=0:=by
  rw [fnE,yY.2 Jw];rfl
 refine ⟨?_,rfl⟩
 rw [ptE,if_pos ⟨hf,by decide,by decide⟩]
theorem aeQ : vL (exU 1) 0 0 = [95,48,32,61,32,55]:=by
 rw [vL,if_pos jP.1,jP.2]
 have h0 : Lib.itoa 0 = [48]:=by rw [Lib.itoa,if_neg (by decide),Lib.decDigits];rfl
 have h7 : Lib.itoa 7 = [55]:=by rw [Lib.itoa,if_neg (by decide),Lib.decDigits];rfl
 show ptT (exA 1) 0=_
 have hp : plT xT = [95,48]:=by show [95]++Lib.itoa 0 ++ []=_;rw [h0];rfl
 show (plT xT ++ [32,61,32])++Lib.itoa 7 ++ [] ++ []=_
 rw [hp,h7];rfl
theorem aeR : ZQ (exU 1) 0 0 = [1]:=by
 rw [ZQ,if_pos jP.1,jP.2];rfl
theorem adb : XJ (exU 1) 0 0=([⟨1,7,xT⟩],0):=by
 rw [XJ,if_neg (by rw [jP.1];decide),jP.2];rfl
theorem afw : XC (exU 1) 0 0=some xT:=by
 rw [XC,if_neg (by rw [jP.1];decide),jP.2];rfl
theorem yw {x : Int} (h : 0≤x∧x≤1000) : yC x:=⟨by omega,by omega⟩
theorem afx : J6 (exU 1):=by
 intro g hg
 rw [List.mem_singleton.1 hg]
 have z : xT.fit:=⟨yw (by decide),by decide,by intro k hk;cases hk⟩
 have zo : XW.fit:=⟨yw (by decide),z⟩
 refine ⟨by decide,fun p hp=>?_⟩
 have hp : p ∈ [exA 1,exB]:=hp
 simp only [List.mem_cons,List.not_mem_nil,or_false] at hp
 rcases hp with rfl|rfl
 ·exact ⟨by decide,by decide,z,⟨yw (by decide),z⟩,zo,⟨by decide,by intro o ho;cases ho⟩,by decide,z,yw (by decide),yw (by decide),yw (by decide),yw (by decide)⟩
 ·exact ⟨by decide,by decide,z,zo,zo,⟨by decide,by intro o ho;cases ho⟩,by decide,z,yw (by decide),yw (by decide),yw (by decide),yw (by decide)⟩
end Go.Proofs
end
section
namespace Go.Proofs
open Go.Sh
set_option maxRecDepth 100000
set_option linter.unusedSimpArgs false
set_option linter.unusedVariables false
theorem aa0 {α : Type} {sz : Nat} {r : Gh} {R : List Value→α→Prop} {l : List α} {p : Option Addr} {n cap : Nat} (h : SlG sz r R (.slice p n cap) l) {i : Nat} (hi : i<l.length) : ∃ c,c.length=sz∧CellsAt r p (i*sz) c∧R c l[i]:=by
 obtain ⟨p',cap',h1,h2,h3,h4⟩:=h
 cases h1
 exact h4 i hi
theorem Jy {α : Type} {D : α→Dat} {sz : Nat} {r : Gh} {R : List Value→α→Prop} {l : List α} {p : Option Addr} {n cap : Nat} (h : SlG sz r R (.slice p n cap) l) (hR : ∀ c x,R c x→Rep r (D x) c) : RepS r sz p 0 (l.map D):=by
 refine RepS.of fun i d hi=>?_
 rw [List.getElem?_map] at hi
 cases hx : l[i]? with
 |none=>rw [hx] at hi;cases hi
 |some x=>
  rw [hx] at hi
  obtain ⟨hil,rfl⟩:=List.getElem?_eq_some_iff.1 hx
  cases hi
  obtain ⟨c,h1,h2,h3⟩:=aa0 h hil
  exact ⟨c,h1,by rw [Nat.zero_add];exact h2,hR _ _ h3⟩
theorem Vx {α : Type} {sz : Nat} {r : Gh} {R : List Value→α→Prop} {l : List α} {p : Option Addr} {n cap : Nat} (h : SlG sz r R (.slice p n cap) l) (hz : 0<sz) (h1 : ∀ c x,R c x→∀ u ∈ c,u.oneCell'=true) :
  ∃ xs,RowOf sz R xs l∧(∀ u ∈ xs,u.oneCell'=true)∧Ob r fun w=>Sl w p xs:=by
 suffices H : ∀ k,k≤l.length→∃ xs,RowOf sz R xs (l.take k)∧(∀ u ∈ xs,u.oneCell'=true)∧CellsAt r p 0 xs by
  obtain ⟨xs,a,b,c⟩:=H l.length (Nat.le_refl _)
  rw [List.take_length] at a
  refine ⟨xs,a,b,fun w hw j v hj=>?_⟩
  obtain ⟨b,off,e1,e2⟩:=c j v hj
  exact ⟨b,off,e1,e2 w hw⟩
 intro k
 induction k with
 |zero=>exact fun _=>⟨[],by simpa using RowOf.nil,by simp,fun j v hj=>by simp at hj⟩
 |succ k ih=>
  intro hk
  obtain ⟨xs,a,b,c⟩:=ih (by omega)
  obtain ⟨d,e1,e2,e3⟩:=aa0 h (i:=k) (by omega)
  refine ⟨xs++d,?_,fun u hu=>?_,fun j v hj=>?_⟩
  ·rw [List.take_succ_eq_append_getElem (by omega)]
   exact a.snoc e1 e3
  ·rcases List.mem_append.1 hu with hu|hu
   ·exact b u hu
   ·exact h1 _ _ e3 u hu
  ·have hx : xs.length=k*sz:=by rw [a.1,List.length_take,Nat.min_eq_left (by omega)]
   rcases Nat.lt_or_ge j xs.length with hj'|hj'
   ·rw [List.getElem?_append_left hj'] at hj
    exact c j v hj
   ·rw [List.getElem?_append_right hj'] at hj
    obtain ⟨b,off,f1,f2⟩:=e2 _ v hj
    refine ⟨b,off,f1,?_⟩
    rw [show off+0+j=off+k*sz+(j - xs.length) by omega]
    exact f2
theorem StX.join {X : Nat→Prop} {w0 w w' : World} {r s : Gh} {L M : List Asr} (S : StX X w0 r w L) (T : StX noX w s w' M) (n : Above w s) : StX X w0 (r.or s) w' (M++L):=by
 have S':=S.go T.x.ext
 refine ⟨S'.x,S'.holds.or T.holds,fun x hx=>?_,fun x hx k hk=>?_,?_⟩
 ·rcases List.mem_append.1 hx with hx|hx
  ·exact T.has x hx
  ·exact S'.has x hx
 ·rcases List.mem_append.1 hx with hx|hx
  ·obtain ⟨h1,h2⟩:=T.mine x hx k hk
   have h1:=h1.resolve_right id
   refine ⟨.inl (Nat.le_trans S.x.size h1),fun o ho=>ho.elim (fun h=>?_) (h2 o)⟩
   have:=S.holds.lt h;omega
  ·refine ⟨(S.mine x hx k hk).1,fun o ho=>ho.elim ((S.mine x hx k hk).2 o) fun h=>?_⟩
   have:=n k o h
   have:=Asr.lt (S.has x hx) hk;omega
 ·refine List.pairwise_append.2 ⟨T.apart,S.apart,fun x hx y hy k hk hk'=>?_⟩
  have h1:=(T.mine x hx k hk).1.resolve_right id
  have:=Asr.lt (S.has y hy) hk';omega
theorem afy {r w} {l : List Int} {p : Option Addr} {n cap : Nat} (hr : Holds r w) (h : SlB 1 r qk (.slice p n cap) l) : ∀ x ∈ l,yC x:=fun x hx=>by
 obtain ⟨i,hi,rfl⟩:=List.getElem_of_mem hx
 obtain ⟨_,_,_,_,_,hc,_⟩:=h.sl.get (by decide) hi
 exact hc.2
theorem qK {p : PlD} {c : List Value} {w : World} {r : Gh} {K : Value→World→Prop} (hr : Holds r w) (hp : PlG r c p) (hb : p.ps.length≤1000000)
  (h : ∀ c' s w',Ext w w'→New w s w'→PlG s c' p→K (.agg c'.toArray) w') : zd Tryz.prog Tryz.xe #[.agg c.toArray] w K:=by
 refine Tryz.X9 ?_
 unfold Tryz.Zk
 obtain ⟨v,rfl,hl⟩:=hp
 obtain ⟨qs,caps,rfl,hpn,_⟩:=hl.sl.shape
 have hin:=afy hr hl
 have S:=St.start hr
 refine S.box fun b1 w1 S=>?_
 have S : StX noX w r w1 [.cell b1 [.int .i64 p.l,.slice qs p.ps.length caps] 38]:=S
 refine S.al fun b2 w2 S=>?_
 refine gg_ ?_
 refine S.al fun b3 w3 S=>?_
 refine S.stB (b:=b3) fun w4 S=>?_
 have S : StX noX w r w4 [.cell b3 [.int .i64 p.l,.slice none 0 0] 38,.cell b2 [.int .i64 0,.slice none 0 0] 38,.cell b1 [.int .i64 p.l,.slice qs p.ps.length caps] 38]:=S
 have S:=S.ownNil 138 1
 refine gg_ ?_
 refine S.ap (v:=.slice none 0 0) (S.at (aaV hl)) (fun v2 w5 S=>?_) (by omega) (by rw [kM];omega) hpn (Vh _)
 obtain ⟨s,T,hs,_,ha⟩:=S.doneRow (l:=p.ps) (R:=qk) (sz:=1) (by rw [List.nil_append];exact Vv hin) (by decide) (by omega)
 obtain ⟨q2,c2,rfl,_⟩:=hs.shape
 have S:=T
 refine gg_ ?_
 refine S.st (b:=b3) fun w6 S=>?_
 refine S.ldB (b:=b3) ?_ rfl
 refine S.stB (b:=b2) fun w7 S=>?_
 refine S.ceB (b:=b2) ?_ rfl
 exact h _ s _ S.ext (S.newOf fun b o ho=>(ha b o ho).resolve_right id) ⟨_,rfl,hs,by simp only [maxLen];omega⟩
theorem kT {o : OpD} {c : List Value} {w : World} {r : Gh} {K : Value→World→Prop} (hr : Holds r w) (ho : OpG r c o) (hb : o.pl.ps.length≤1000000)
  (h : ∀ c' s w',Ext w w'→New w s w'→OpG s c' o→K (.agg c'.toArray) w') : zd Tryz.prog Tryz.yP #[.agg c.toArray] w K:=by
 refine Tryz.Y4 ?_
 unfold Tryz.j6
 obtain ⟨v,rfl,hl⟩:=ho
 obtain ⟨qs,caps,rfl,_,_⟩:=hl.sl.shape
 have S:=St.start hr
 refine S.box fun b1 w1 S=>?_
 have S : StX noX w r w1 [.cell b1 [.int .u8 o.k,.int .i64 o.n,.int .i64 o.pl.l,.slice qs o.pl.ps.length caps] 41]:=S
 refine S.al fun b2 w2 S=>?_
 refine gg_ ?_
 refine S.ldN (b:=b1) ?_
 refine qK (p:=o.pl) S.holds ⟨_,rfl,hl⟩ hb fun c3 s w3 e3 n3 h3=>?_
 obtain ⟨S,d3,a3⟩:=S.tell e3 n3
 obtain ⟨v3,rfl,hl3⟩:=h3
 obtain ⟨q3,k3,rfl,_,_⟩:=hl3.sl.shape
 refine gg_ ?_
 refine S.stN (b:=b1) fun w4 S=>?_
 refine S.ldB (b:=b1) ?_ rfl
 refine S.stB (b:=b2) fun w5 S=>?_
 refine S.ceB (b:=b2) ?_ rfl
 exact h _ s _ S.ext (S.newOf a3) ⟨_,rfl,hl3⟩
end Go.Proofs
end
section
namespace Go.Proofs
open Go.Sh
set_option maxRecDepth 100000
set_option linter.unusedSimpArgs false
set_option linter.unusedVariables false
structure agq (s : Int) (g : GrD) : Prop where
 outs : g.outs.length≤1000
 tys : g.tys.length≤1000
 nms : g.nms.length≤1000
 look : ∀ t ∈ g.tys,zO s 48 t=true
 pts : J8 g
structure afz (u : UnD) : Prop where
 ss : u.ss.length≤1000
 fl : ∀ x ∈ u.ss,x.fs.length≤1000∧∀ f ∈ x.fs,zO u.ss.length 48 f.2=true
 fs : u.fs.length≤1000
 gs : ∀ g ∈ u.fs,agq u.ss.length g
def FlC (s : Gh) (c : List Value) (f : ByteArray × TyD) : Prop:=Rep s (JW f) c
def StC (s : Gh) (c : List Value) (x : StD) : Prop:=Rep s x.dat c
theorem FlC.up {s t : Gh} {c : List Value} {f : ByteArray × TyD} (h : FlC s c f) [l : Le s t] : FlC t c f:=Rep.up' l h
theorem StC.up {s t : Gh} {c : List Value} {f : StD} (h : StC s c f) [l : Le s t] : StC t c f:=Rep.up' l h
theorem af7 {s : Gh} {v : Value} {f : ByteArray × TyD} (h : TyG s v f.2) : ∃ a b c d e,v = .agg #[a,b,c,d,e]∧FlC s [.string f.1,a,b,c,d,e] f∧∀ u ∈ [a,b,c,d,e],u.oneCell'=true:=by
 obtain ⟨c,hv,hc,hR⟩:=h.rep
 obtain ⟨p,cap,rfl,_⟩:=h
 have hE:=congrArg (fun v=>match v with|Value.agg x=>x.toList|_=>[]) hv
 simp only at hE
 subst hE
 exact ⟨_,_,_,_,_,rfl,⟨[_],_,rfl,rfl,_,[],rfl,hR,rfl⟩,by simp [Value.oneCell']⟩
theorem af8 {s : Gh} {x : StD} {v : Value} (h : SlG 6 s (FlC s) v x.fs) : StC s [.string x.name,v] x:=by
 obtain ⟨p,cap,rfl,h1,h2⟩:=h.shape
 exact ⟨[_],_,rfl,rfl,[_],[],rfl,⟨p,cap,by rw [List.length_map],h1,by rw [List.length_map];exact h2,Jy h fun _ _ h=>h⟩,rfl⟩
theorem aeS {r : Gh} {p : Option Addr} {ss : List StD} (h : StG r p ss) {i : Nat} (hi : i<ss.length) {b off : Nat} (hp : p=some ⟨b,off,none⟩) : Ob r fun w=>w.cell? ⟨b,off+i*2,none⟩=some (.string ss[i].name):=by
 subst hp
 obtain ⟨c,h1,h2,h3⟩:=RepS.get h (i:=i) (d:=StD.dat ss[i]) (by rw [List.getElem?_map,List.getElem?_eq_getElem hi];rfl)
 obtain ⟨a1,b1,rfl,e1,_⟩:=h3
 obtain rfl : a1=_:=e1
 rw [Nat.zero_add] at h2
 obtain ⟨b',off',hp,ho⟩:=h2 0 (.string ss[i].name) (by rfl)
 cases hp
 exact ho
structure PkG (s : Gh) (c : List Value) (g : GrD) (M : List Asr) : Prop where
 ex : ∃ vo vt vn vp xt xn xp,c = [.string g.name,.int .i64 g.lv,vo,.int .i64 g.pn,vt,vn,vp]∧SlB 2 s QG vo g.outs∧
  M = [.row vp 44 21 g.pts.length xp,.row vt 57 5 g.tys.length xt,.row vn 9 1 g.nms.length xn]∧RowOf 5 (TyC s) xt g.tys∧RowOf 1 Z0 xn g.nms∧RowOf 21 (PtG s) xp g.pts
def AtG (f : Nat) (s : Gh) (M : List Asr) (c : List Value) (x : GrD × Nat) : Prop:=(x.2=f→PkG s c x.1 M)∧(x.2≠f→GrG s c x.1)
theorem PkG.up {s t : Gh} {c : List Value} {g : GrD} {M : List Asr} (h : PkG s c g M) [l : Le s t] : PkG t c g M:=by
 obtain ⟨vo,vt,vn,vp,xt,xn,xp,h0,h1,h2,h3,h4,h5⟩:=h
 exact ⟨vo,vt,vn,vp,xt,xn,xp,h0,h1.cells,h2,h3.mono fun _ _ h=>TyG.up h,h4,h5.mono fun _ _ h=>PtG.up h⟩
theorem AtG.up {f : Nat} {s t : Gh} {c : List Value} {x : GrD × Nat} {M : List Asr} (h : AtG f s M c x) [l : Le s t] : AtG f t M c x:=⟨fun e=>(h.1 e).up,fun e=>GrG.up (h.2 e)⟩
theorem adc {f i : Nat} {s t : Gh} {fs : List GrD} {xf : List Value} {M N : List Asr} (h : RowOf 7 (AtG f s M) xf (fs.zipIdx.take i)) (hi : i≤f) [l : Le s t] : RowOf 7 (AtG f t N) xf (fs.zipIdx.take i):=by
 refine ⟨h.1,fun j hj=>?_⟩
 have h2:=h.2 j hj
 have hx : ((fs.zipIdx.take i)[j]).2≠f:=by
  have : j<i:=by rw [List.length_take] at hj;omega
  simp;omega
 exact ⟨fun e=>absurd e hx,fun e=>GrG.up (h2.2 e)⟩
set_option maxHeartbeats 4000000 in
theorem Qs {u : UnD} {f : Nat} {v : Value} {w : World} {r : Gh} {K : Value→World→Prop} (hr : Holds r w) (hu : UnG r v u) (hO : afz u) (hf : f<u.fs.length)
  (h : ∀ p cap vf xf s M w',St w s w' (.row vf 33 7 u.fs.length xf::M)→Above w s→StG s p u.ss→(p=none→cap=0)→u.ss.length≤cap→RowOf 7 (AtG f s M) xf u.fs.zipIdx→
   K (.agg #[.slice p u.ss.length cap,vf,.int .i64 u.mn]) w') : zd Tryz.prog Tryz.jK #[v] w K:=by
 refine Tryz.aaI ?_
 unfold Tryz.Qp
 obtain ⟨p0,cap0,vf,rfl,hp0,hc0,hst,hsl,hfn⟩:=hu
 obtain ⟨qf,capf,rfl,_,_⟩:=hfn.sl.shape
 have hss:=hO.ss
 have hfs:=hO.fs
 have S:=St.start hr
 refine S.box fun b1 w1 S=>?_
 have S : StX noX w r w1 [.cell b1 [.slice p0 u.ss.length cap0,.slice qf u.fs.length capf,.int .i64 u.mn] 25]:=S
 refine S.al fun b2 w2 S=>?_
 refine gg_ ?_
 refine S.al fun b3 w3 S=>?_
 refine S.stB (b:=b3) fun w4 S=>?_
 have S : StX noX w r w4 [.cell b3 [.slice none 0 0,.slice none 0 0,.int .i64 u.mn] 25,.cell b2 [.slice none 0 0,.slice none 0 0,.int .i64 0] 25,.cell b1 [.slice p0 u.ss.length cap0,.slice qf u.fs.length capf,.int .i64 u.mn] 25]:=S
 have S:=S.ownNil 84 2
 refine zk (ι:=Nat × Value × Gh × List Value) (fun i=>[.int .i64 (i.1 : Nat)])
  (fun i w'=>i.1≤u.ss.length∧Above w i.2.2.1∧RowOf 2 (StC i.2.2.1) i.2.2.2 (u.ss.take i.1)∧
   StX noX w (r.or i.2.2.1) w' [.row i.2.1 84 2 i.1 i.2.2.2,.cell b3 [i.2.1,.slice none 0 0,.int .i64 u.mn] 25,.cell b2 [.slice none 0 0,.slice none 0 0,.int .i64 0] 25,.cell b1 [.slice p0 u.ss.length cap0,.slice qf u.fs.length capf,.int .i64 u.mn] 25])
  (fun i=>u.ss.length - i.1) (0,.slice none 0 0,nothing,[]) rfl ⟨Nat.zero_le _,Above.no,by simpa using RowOf.nil,S.to _⟩ ?_
 repeat clear S
 rintro ⟨i,v1,s1,x1⟩ d w5 ⟨hi,ha1,hR1,S⟩ K5 hK5
 simp only at hi ha1 hR1 S ⊢
 rw [List.getD_cons_zero]
 refine gg_ ?_
 refine zg (fun hlt=>?_) (fun hge=>?_)
 ·have hlt : i<u.ss.length:=by omega
  obtain ⟨b,off,q,capq,rfl,hcell,_,hqc,hfl⟩:=vG hst hlt
  have hname:=aeS hst hlt rfl
  obtain ⟨hfl8,hlook⟩:=hO.fl _ (List.getElem_mem hlt)
  refine gg_ ?_
  refine zG (by rw [Int.toNat_natCast];exact S.at hname) ?_
  refine gg_ ?_
  refine S.al fun b5 w6 S=>?_
  refine S.stB (b:=b5) fun w7 S=>?_
  have S : StX noX w (r.or s1) w7 [.cell b5 [.string u.ss[i].name,.slice none 0 0] 84,.row v1 84 2 i x1,.cell b3 [v1,.slice none 0 0,.int .i64 u.mn] 25,.cell b2 [.slice none 0 0,.slice none 0 0,.int .i64 0] 25,.cell b1 [.slice (some ⟨b,off,none⟩) u.ss.length cap0,.slice qf u.fs.length capf,.int .i64 u.mn] 25]:=S
  have S:=S.ownNil 86 6
  refine zk (ι:=Nat × Value × Gh × List Value) (fun k=>[.int .i64 (k.1 : Nat)])
   (fun k w'=>k.1≤u.ss[i].fs.length∧Above w k.2.2.1∧RowOf 6 (FlC k.2.2.1) k.2.2.2 (u.ss[i].fs.take k.1)∧
    StX noX w ((r.or s1).or k.2.2.1) w' [.row k.2.1 86 6 k.1 k.2.2.2,.cell b5 [.string u.ss[i].name,k.2.1] 84,.row v1 84 2 i x1,.cell b3 [v1,.slice none 0 0,.int .i64 u.mn] 25,.cell b2 [.slice none 0 0,.slice none 0 0,.int .i64 0] 25,.cell b1 [.slice (some ⟨b,off,none⟩) u.ss.length cap0,.slice qf u.fs.length capf,.int .i64 u.mn] 25])
   (fun k=>u.ss[i].fs.length - k.1) (0,.slice none 0 0,nothing,[]) rfl ⟨Nat.zero_le _,Above.no,by simpa using RowOf.nil,S.to _⟩ ?_
  repeat clear S
  rintro ⟨k,v2,s2,x2⟩ d w8 ⟨hk,ha2,hR2,S⟩ K11 hK11
  simp only at hk ha2 hR2 S ⊢
  rw [List.getD_cons_zero]
  refine gg_ ?_
  refine zG (by rw [Int.toNat_natCast];exact S.at hcell) ?_
  refine gg_ ?_
  refine zg (fun hlt2=>?_) (fun hge2=>?_)
  ·have hlt2 : k<u.ss[i].fs.length:=by omega
   obtain ⟨b',off',c,rfl,hc5,hcl,hty⟩:=YA hfl hlt2
   obtain ⟨q9,k9,hE,_⟩:=id hty
   have hE:=congrArg (fun v=>match v with|Value.agg x=>x.toList|_=>[]) hE
   simp only at hE
   subst hE
   refine gg_ ?_
   refine zG (by rw [Int.toNat_natCast];exact S.at hcell) ?_
   refine gg_ ?_
   refine zt (n:=6) rfl (fun j v hj=>by rw [Int.toNat_natCast];exact S.at (hcl j v hj)) ?_
   refine S.al fun b7 w9 S=>?_
   refine S.stB (b:=b7) fun w10 S=>?_
   refine gg_ ?_
   refine S.ldN (b:=b7) ?_
   refine Qm 48 (by decide) (hlook _ (List.getElem_mem hlt2)) S.holds (TyG.up hty) fun v' sn w11 e11 n11 h11=>?_
   obtain ⟨S,_,a11⟩:=S.tell e11 n11
   obtain ⟨d1,d2,d3,d4,d5,rfl,hfc,h1⟩:=af7 h11
   refine gg_ ?_
   refine S.stN (b:=b7) (fun w12 S=>?_) (h1:=h1)
   refine gg_ ?_
   refine S.lit (e:=86) (cs:=[.string u.ss[i].fs[k].1,d1,d2,d3,d4,d5]) (by kernel_rfl) fun b9 w13 S=>?_
   refine S.ap (v:=v2) (m':=1) (Sl.blk (S.blk b9)) (fun v4 w14 S=>?_) (by omega) (h1:=List.forall_mem_cons.2 ⟨rfl,h1⟩)
   refine gg_ ?_
   refine S.st (b:=b5) (fun w15 S=>?_) (h1:=S.row1 v4)
   refine gg_ ?_
   refine hK11 (k+1,v4,s2.or sn,x2 ++ [.string u.ss[i].fs[k].1,d1,d2,d3,d4,d5]) _ ⟨hlt2,ha2.or' a11,?_,((S.drop b9).drop b7).reGh⟩ (by show u.ss[i].fs.length - (k+1)<u.ss[i].fs.length - k;omega)
   show RowOf 6 (FlC (s2.or sn)) _ (u.ss[i].fs.take (k+1))
   rw [List.take_succ_eq_append_getElem hlt2]
   exact (hR2.mono fun _ _ h=>h.up).snoc rfl hfc.up
  have hke : k=u.ss[i].fs.length:=by omega
  subst hke
  rw [List.take_length] at hR2
  obtain ⟨s3,T,hsl3,_,ha3⟩:=S.doneRow hR2 (by decide) rfl
  obtain ⟨q3,k3,rfl,_,_⟩:=hsl3.shape
  have S:=T
  have hsc : StC (s2.or s3) [.string u.ss[i].name,.slice q3 u.ss[i].fs.length k3] u.ss[i]:=af8 (hsl3.up' inferInstance fun _ _ h=>h.up)
  refine gg_ ?_
  refine S.lit (e:=84) (cs:=[.string u.ss[i].name,.slice q3 u.ss[i].fs.length k3]) (by kernel_rfl) fun b9 w13 S=>?_
  refine S.ap (v:=v1) (m':=1) (Sl.blk (S.blk b9)) (fun v4 w14 S=>?_) (by omega)
  refine gg_ ?_
  refine S.st (b:=b3) (fun w15 S=>?_) (h1:=S.row1 v4)
  refine gg_ ?_
  refine hK5 (i+1,v4,s1.or (s2.or s3),x1 ++ [.string u.ss[i].name,.slice q3 u.ss[i].fs.length k3]) _ ⟨hlt,ha1.or' (ha2.or' fun b o ho=>(ha3 b o ho).resolve_right id),?_,((S.drop b9).drop b5).less (fun b o h=>by rcases h with h|h|h|h<;>simp [Gh.or,h]) (List.Sublist.refl _)⟩ (by show u.ss.length - (i+1)<u.ss.length - i;omega)
  show RowOf 2 (StC (s1.or (s2.or s3))) _ (u.ss.take (i+1))
  rw [List.take_succ_eq_append_getElem hlt]
  exact (hR1.mono fun _ _ h=>h.up).snoc rfl hsc.up
 have hie : i=u.ss.length:=by omega
 subst hie
 rw [List.take_length] at hR1
 obtain ⟨s4,T,hsl4,_,ha4⟩:=S.doneRow hR1 (by decide) rfl
 obtain ⟨q4,k4,rfl,hq4,hk4⟩:=hsl4.shape
 have hS4 : StG (s1.or s4) q4 u.ss:=Jy (hsl4.up' (s:=s1.or s4) (Q:=StC (s1.or s4)) inferInstance fun _ _ h=>h.up) fun _ _ h=>h
 have ha5 : Above w (s1.or s4):=ha1.or' fun b o ho=>(ha4 b o ho).resolve_right id
 have S:=T.reGh
 clear T hsl4 hR1 hK5 ha1 ha4
 generalize s1.or s4=sS at S hS4 ha5
 have S:=S.ownNil 33 7
 refine zk (ι:=Nat × Value × Gh × List Value × List Asr) (fun i=>[.int .i64 (i.1 : Nat)])
  (fun i w'=>i.1≤u.fs.length∧Above w i.2.2.1∧RowOf 7 (AtG f i.2.2.1 i.2.2.2.2) i.2.2.2.1 (u.fs.zipIdx.take i.1)∧(i.1≤f→i.2.2.2.2 = [])∧
   StX noX w ((r.or sS).or i.2.2.1) w' (.row i.2.1 33 7 i.1 i.2.2.2.1 :: .cell b3 [.slice q4 u.ss.length k4,i.2.1,.int .i64 u.mn] 25 :: .cell b2 [.slice none 0 0,.slice none 0 0,.int .i64 0] 25 :: .cell b1 [.slice p0 u.ss.length cap0,.slice qf u.fs.length capf,.int .i64 u.mn] 25::i.2.2.2.2))
  (fun i=>u.fs.length - i.1) (0,.slice none 0 0,nothing,[],[]) rfl ⟨Nat.zero_le _,Above.no,by simpa using RowOf.nil,fun _=>rfl,S.to _⟩ ?_
 repeat clear S
 rintro ⟨i,vf,s,xf,M⟩ d w6 ⟨hi,ha,hR,hM,S⟩ K25 hK25
 simp only at hi ha hR hM S ⊢
 rw [List.getD_cons_zero]
 refine gg_ ?_
 refine zg (fun hlt=>?_) (fun hge=>?_)
 ·have hlt : i<u.fs.length:=by omega
  obtain ⟨bf,off,c,rfl,hc7,hgr,hcell⟩:=hfn.sl.get (by decide) hlt
  have hOg:=hO.gs _ (List.getElem_mem hlt)
  have hzi : u.fs.zipIdx.take (i+1)=u.fs.zipIdx.take i ++ [(u.fs[i],i)]:=by
   rw [List.take_succ_eq_append_getElem (by simpa using hlt)]
   simp
  generalize u.fs[i]=g at hOg hgr hzi
  obtain ⟨z1,z2,z3,z4,y1,y2,y3,y4,rfl,hg0⟩:=qX hgr
  obtain ⟨hL1,hL2,hL3,hL4,hL5⟩:=hOg
  refine gg_ ?_
  refine zt (n:=7) rfl (fun j v hj=>by rw [Int.toNat_natCast];exact S.at (hcell j v hj)) ?_
  refine S.al fun b9 w7 S=>?_
  refine S.stB (b:=b9) fun w8 S=>?_
  refine gg_ ?_
  refine S.al fun b10 w9 S=>?_
  refine S.stB (b:=b10) fun w10 S=>?_
  obtain ⟨_,_,_,_,hE,k1,k2,k3,k4'⟩:=id hg0
  cases hE
  obtain ⟨xo,ro1,ro2,ro3⟩:=Vx k1.sl (by decide) (fun c x h=>by rw [show c=_ from h];simp [Value.oneCell'])
  obtain ⟨xn,rn1,rn2,rn3⟩:=Vx k3.sl (by decide) (fun c x h=>by rw [show c=_ from h];simp [Value.oneCell'])
  obtain ⟨_,_,hE,ho9,_⟩:=k1.sl.shape
  cases hE
  obtain ⟨_,_,hE,hn9,_⟩:=k3.sl.shape
  cases hE
  have S : StX noX w ((r.or sS).or s) w10 (.cell b10 [.string g.name,.int .i64 g.lv,.slice none 0 0,.int .i64 g.pn,.slice none 0 0,.slice none 0 0,.slice none 0 0] 33 :: .cell b9 (grL g z1 z2 z3 z4 y1 y2 y3 y4) 33 :: .row vf 33 7 i xf :: .cell b3 [.slice q4 u.ss.length k4,vf,.int .i64 u.mn] 25 :: .cell b2 [.slice none 0 0,.slice none 0 0,.int .i64 0] 25 :: .cell b1 [.slice p0 u.ss.length cap0,.slice (some ⟨bf,off,none⟩) u.fs.length capf,.int .i64 u.mn] 25::M):=S
  have S:=S.ownNil 101 2
  refine gg_ ?_
  refine S.ap (v:=.slice none 0 0) (S.at ro3) (fun vo w11 S=>?_) (by omega) ro1.1 ho9 ro2
  rw [Nat.zero_add,List.nil_append] at S
  obtain ⟨so,T,hso,_,hao⟩:=S.doneRow ro1 (by decide) rfl
  obtain ⟨qo,ko,rfl,hqo,hko⟩:=hso.shape
  have S:=T
  clear T
  refine gg_ ?_
  refine S.st (b:=b10) fun w12 S=>?_
  have S:=S.ownNil 9 1
  refine gg_ ?_
  refine S.ap (v:=.slice none 0 0) (S.at rn3) (fun vn w13 S=>?_) (by omega) rn1.1 hn9 rn2
  rw [Nat.zero_add,List.nil_append] at S
  refine gg_ ?_
  refine S.st (b:=b10) (fun w14 S=>?_) (h1:=S.row1 vn)
  have S : StX noX w (((r.or sS).or s).or so) w14 (.row vn 9 1 g.nms.length xn :: .cell b10 [.string g.name,.int .i64 g.lv,.slice qo g.outs.length ko,.int .i64 g.pn,.slice none 0 0,vn,.slice none 0 0] 33 :: .cell b9 (grL g z1 z2 z3 z4 y1 y2 y3 y4) 33 :: .row vf 33 7 i xf :: .cell b3 [.slice q4 u.ss.length k4,vf,.int .i64 u.mn] 25 :: .cell b2 [.slice none 0 0,.slice none 0 0,.int .i64 0] 25 :: .cell b1 [.slice p0 u.ss.length cap0,.slice (some ⟨bf,off,none⟩) u.fs.length capf,.int .i64 u.mn] 25::M):=S
  have S:=S.ownNil 57 5
  refine zk (ι:=Nat × Value × Gh × List Value) (fun k=>[.int .i64 (k.1 : Nat)])
   (fun k w'=>k.1≤g.tys.length∧Above w k.2.2.1∧RowOf 5 (TyC k.2.2.1) k.2.2.2 (g.tys.take k.1)∧
    StX noX w ((((r.or sS).or s).or so).or k.2.2.1) w' (.row k.2.1 57 5 k.1 k.2.2.2 :: .row vn 9 1 g.nms.length xn :: .cell b10 [.string g.name,.int .i64 g.lv,.slice qo g.outs.length ko,.int .i64 g.pn,k.2.1,vn,.slice none 0 0] 33 :: .cell b9 (grL g z1 z2 z3 z4 y1 y2 y3 y4) 33 :: .row vf 33 7 i xf :: .cell b3 [.slice q4 u.ss.length k4,vf,.int .i64 u.mn] 25 :: .cell b2 [.slice none 0 0,.slice none 0 0,.int .i64 0] 25 :: .cell b1 [.slice p0 u.ss.length cap0,.slice (some ⟨bf,off,none⟩) u.fs.length capf,.int .i64 u.mn] 25::M))
   (fun k=>g.tys.length - k.1) (0,.slice none 0 0,nothing,[]) rfl ⟨Nat.zero_le _,Above.no,by simpa using RowOf.nil,S.to _⟩ ?_
  repeat clear S
  rintro ⟨k,vt,s2,x2⟩ d w15 ⟨hk,ha2,hR2,S⟩ K37 hK37
  simp only at hk ha2 hR2 S ⊢
  rw [List.getD_cons_zero]
  refine gg_ ?_
  refine zg (fun hlt2=>?_) (fun hge2=>?_)
  ·have hlt2 : k<g.tys.length:=by omega
   have S:=S.go (Ext.drew _)
   obtain ⟨bt,ot,c,rfl,hc5,hty,hcl⟩:=k2.sl.get (by decide) hlt2
   refine gg_ ?_
   refine zt (n:=5) hc5 (fun j v hj=>by rw [Int.toNat_natCast];exact S.at (hcl j v hj)) ?_
   refine Qm 48 (by decide) (hL4 _ (List.getElem_mem hlt2)) S.holds (TyG.up hty) fun v' sn w16 e16 n16 h16=>⟨e16,?_⟩
   obtain ⟨S,_,a16⟩:=S.tell e16 n16
   obtain ⟨q7,k7,rfl,_⟩:=id h16
   refine S.litU (e:=57) (cs:=[.int .u8 g.tys[k].k,.bool g.tys[k].m,.int .i64 g.tys[k].re,.int .i64 g.tys[k].st,.slice q7 g.tys[k].of.length k7]) (by kernel_rfl) fun b17 w17 S=>?_
   refine S.ap (v:=vt) (m':=1) (Sl.blk (S.blk b17)) (fun v4 w18 S=>?_) (by omega)
   refine gg_ ?_
   refine S.st (b:=b10) (fun w19 S=>?_) (h1:=S.row1 v4)
   refine gg_ ?_
   refine hK37 (k+1,v4,s2.or sn,_) _ ⟨hlt2,ha2.or' a16,?_,(S.drop b17).reGh⟩ (by show g.tys.length - (k+1)<g.tys.length - k;omega)
   show RowOf 5 (TyC (s2.or sn)) _ (g.tys.take (k+1))
   rw [List.take_succ_eq_append_getElem hlt2]
   exact (hR2.mono fun _ _ h=>TyG.up h).snoc rfl (TyG.up h16)
  have hke : k=g.tys.length:=by omega
  subst hke
  rw [List.take_length] at hR2
  clear hK37
  have S:=S.ownNil 44 21
  refine gg_ ?_
  refine zk (ι:=Nat × Value × Gh × List Value) (fun k=>[.int .i64 (k.1 : Nat)])
   (fun k w'=>k.1≤g.pts.length∧Above w k.2.2.1∧RowOf 21 (PtG k.2.2.1) k.2.2.2 (g.pts.take k.1)∧
    StX noX w (((((r.or sS).or s).or so).or s2).or k.2.2.1) w' (.row k.2.1 44 21 k.1 k.2.2.2 :: .row vt 57 5 g.tys.length x2 :: .row vn 9 1 g.nms.length xn :: .cell b10 [.string g.name,.int .i64 g.lv,.slice qo g.outs.length ko,.int .i64 g.pn,vt,vn,k.2.1] 33 :: .cell b9 (grL g z1 z2 z3 z4 y1 y2 y3 y4) 33 :: .row vf 33 7 i xf :: .cell b3 [.slice q4 u.ss.length k4,vf,.int .i64 u.mn] 25 :: .cell b2 [.slice none 0 0,.slice none 0 0,.int .i64 0] 25 :: .cell b1 [.slice p0 u.ss.length cap0,.slice (some ⟨bf,off,none⟩) u.fs.length capf,.int .i64 u.mn] 25::M))
   (fun k=>g.pts.length - k.1) (0,.slice none 0 0,nothing,[]) rfl ⟨Nat.zero_le _,Above.no,by simpa using RowOf.nil,S.to _⟩ ?_
  repeat clear S
  rintro ⟨k,vp,s3,x3⟩ d w20 ⟨hk,ha3,hR3,S⟩ K45 hK45
  simp only at hk ha3 hR3 S ⊢
  rw [List.getD_cons_zero]
  have hp1:=hL5.1
  refine gg_ ?_
  refine zg (fun hlt3=>?_) (fun hge3=>?_)
  ·have hlt3 : k<g.pts.length:=by omega
   obtain ⟨bp,op,c,rfl,hc21,hpt,hcl⟩:=k4'.sl.get (by decide) hlt3
   have hFp:=hL5.2 _ (List.getElem_mem hlt3)
   have hzp : g.pts.take (k+1)=g.pts.take k ++ [g.pts[k]]:=List.take_succ_eq_append_getElem hlt3
   generalize g.pts[k]=p at hpt hFp hzp
   obtain ⟨j1,j2,j3,j4,j5,i1,i2,i3,i4,i5,rfl,hp0⟩:=yU hpt
   obtain ⟨_,_,_,_,_,hE,m1,m2,m3,m4,m5⟩:=id hp0
   cases hE
   have harg:=hcl 11 _ rfl
   refine gg_ ?_
   refine zt (n:=21) rfl (fun j v hj=>by rw [Int.toNat_natCast];exact S.at (hcl j v hj)) ?_
   refine S.al fun b13 w21 S=>?_
   refine S.stB (b:=b13) fun w22 S=>?_
   refine gg_ ?_
   refine S.ldN (b:=b13) ?_
   refine qK (p:=p.to) S.holds ⟨_,rfl,m1.cells⟩ (by have:=hFp.to;omega) fun c1 s4 w23 e23 n23 h23=>?_
   obtain ⟨S,_,u4⟩:=S.tell e23 n23
   obtain ⟨_,rfl,h23⟩:=h23
   obtain ⟨a1,e1,rfl,_⟩:=h23.sl.shape
   refine gg_ ?_
   refine S.stN (b:=b13) fun w24 S=>?_
   refine gg_ ?_
   refine S.ldN (b:=b13) ?_
   refine qK (p:=p.fr) S.holds ⟨_,rfl,m5.cells⟩ (by have:=hFp.fr;omega) fun c1 s5 w25 e25 n25 h25=>?_
   obtain ⟨S,_,u5⟩:=S.tell e25 n25
   obtain ⟨_,rfl,h25⟩:=h25
   obtain ⟨a5,e5,rfl,_⟩:=h25.sl.shape
   refine gg_ ?_
   refine S.stN (b:=b13) fun w26 S=>?_
   refine gg_ ?_
   refine S.ldN (b:=b13) ?_
   refine kT (o:=p.a) S.holds ⟨_,rfl,m2.cells⟩ (by have:=hFp.a;omega) fun c1 s6 w27 e27 n27 h27=>?_
   obtain ⟨S,_,u6⟩:=S.tell e27 n27
   obtain ⟨_,rfl,h27⟩:=h27
   obtain ⟨a2,e2,rfl,_⟩:=h27.sl.shape
   refine gg_ ?_
   refine S.stN (b:=b13) fun w28 S=>?_
   refine gg_ ?_
   refine S.ldN (b:=b13) ?_
   refine kT (o:=p.b) S.holds ⟨_,rfl,m3.cells⟩ (by have:=hFp.b;omega) fun c1 s7 w29 e29 n29 h29=>?_
   obtain ⟨S,_,u7⟩:=S.tell e29 n29
   obtain ⟨_,rfl,h29⟩:=h29
   obtain ⟨a3,e3,rfl,_⟩:=h29.sl.shape
   refine gg_ ?_
   refine S.stN (b:=b13) fun w30 S=>?_
   refine gg_ ?_
   refine S.st (b:=b13) fun w31 S=>?_
   have S : StX noX w (((((((((r.or sS).or s).or so).or s2).or s3).or s4).or s5).or s6).or s7) w31 (.cell b13 [.int .u8 p.op,.int .i64 p.to.l,.slice a1 p.to.ps.length e1,.int .u8 p.a.k,.int .i64 p.a.n,.int .i64 p.a.pl.l,.slice a2 p.a.pl.ps.length e2,.int .u8 p.b.k,.int .i64 p.b.n,.int .i64 p.b.pl.l,.slice a3 p.b.pl.ps.length e3,.slice none 0 0,.string p.sign,.int .i64 p.fr.l,.slice a5 p.fr.ps.length e5,.bool p.mu,.int .i64 p.fn,.int .i64 p.st,.int .i64 p.nx,.int .i64 p.el,.int .i64 p.tx] 44 :: .row vp 44 21 k x3 :: .row vt 57 5 g.tys.length x2 :: .row vn 9 1 g.nms.length xn :: .cell b10 [.string g.name,.int .i64 g.lv,.slice qo g.outs.length ko,.int .i64 g.pn,vt,vn,vp] 33 :: .cell b9 (grL g z1 z2 z3 (some ⟨bp,op,none⟩) y1 y2 y3 y4) 33 :: .row vf 33 7 i xf :: .cell b3 [.slice q4 u.ss.length k4,vf,.int .i64 u.mn] 25 :: .cell b2 [.slice none 0 0,.slice none 0 0,.int .i64 0] 25 :: .cell b1 [.slice p0 u.ss.length cap0,.slice (some ⟨bf,off,none⟩) u.fs.length capf,.int .i64 u.mn] 25::M):=S
   have S:=S.ownNil 41 4
   refine zk (ι:=Nat × Value × Gh × List Value) (fun j=>[.int .i64 (j.1 : Nat)])
    (fun j w'=>j.1≤p.args.length∧Above w j.2.2.1∧RowOf 4 (OpG j.2.2.1) j.2.2.2 (p.args.take j.1)∧
     StX noX w ((((((((((r.or sS).or s).or so).or s2).or s3).or s4).or s5).or s6).or s7).or j.2.2.1) w' (.row j.2.1 41 4 j.1 j.2.2.2 :: .cell b13 [.int .u8 p.op,.int .i64 p.to.l,.slice a1 p.to.ps.length e1,.int .u8 p.a.k,.int .i64 p.a.n,.int .i64 p.a.pl.l,.slice a2 p.a.pl.ps.length e2,.int .u8 p.b.k,.int .i64 p.b.n,.int .i64 p.b.pl.l,.slice a3 p.b.pl.ps.length e3,j.2.1,.string p.sign,.int .i64 p.fr.l,.slice a5 p.fr.ps.length e5,.bool p.mu,.int .i64 p.fn,.int .i64 p.st,.int .i64 p.nx,.int .i64 p.el,.int .i64 p.tx] 44 :: .row vp 44 21 k x3 :: .row vt 57 5 g.tys.length x2 :: .row vn 9 1 g.nms.length xn :: .cell b10 [.string g.name,.int .i64 g.lv,.slice qo g.outs.length ko,.int .i64 g.pn,vt,vn,vp] 33 :: .cell b9 (grL g z1 z2 z3 (some ⟨bp,op,none⟩) y1 y2 y3 y4) 33 :: .row vf 33 7 i xf :: .cell b3 [.slice q4 u.ss.length k4,vf,.int .i64 u.mn] 25 :: .cell b2 [.slice none 0 0,.slice none 0 0,.int .i64 0] 25 :: .cell b1 [.slice p0 u.ss.length cap0,.slice (some ⟨bf,off,none⟩) u.fs.length capf,.int .i64 u.mn] 25::M))
    (fun j=>p.args.length - j.1) (0,.slice none 0 0,nothing,[]) rfl ⟨Nat.zero_le _,Above.no,by simpa using RowOf.nil,S.to _⟩ ?_
   repeat clear S
   rintro ⟨j,va,s8,x8⟩ d w32 ⟨hj,ha8,hR8,S⟩ K60 hK60
   simp only at hj ha8 hR8 S ⊢
   rw [List.getD_cons_zero]
   have hp2:=hFp.args
   refine gg_ ?_
   refine zG (by rw [Int.toNat_natCast];exact S.at harg) ?_
   refine gg_ ?_
   refine zg (fun hlt4=>?_) (fun hge4=>?_)
   ·have hlt4 : j<p.args.length:=by omega
    have S:=S.go (Ext.drew _)
    obtain ⟨bo,oo,c,rfl,hc4,hop,hcl4⟩:=m4.sl.get (by decide) hlt4
    have hFo:=hFp.ops _ (List.getElem_mem hlt4)
    have hzo : p.args.take (j+1)=p.args.take j ++ [p.args[j]]:=List.take_succ_eq_append_getElem hlt4
    generalize p.args[j]=o at hop hFo hzo
    refine gg_ ?_
    refine zG (by rw [Int.toNat_natCast];exact S.at harg) ?_
    refine gg_ ?_
    refine zt (n:=4) hc4 (fun j v hj=>by rw [Int.toNat_natCast];exact S.at (hcl4 j v hj)) ?_
    refine kT S.holds (OpG.up hop) (by omega) fun c1 sn w33 e33 n33 h33=>⟨e33,?_⟩
    obtain ⟨S,_,u33⟩:=S.tell e33 n33
    obtain ⟨q9,k9,rfl⟩:=XY h33
    refine S.litU (e:=41) (cs:=[.int .u8 o.k,.int .i64 o.n,.int .i64 o.pl.l,.slice q9 o.pl.ps.length k9]) (by kernel_rfl) fun b14 w34 S=>?_
    refine S.ap (v:=va) (m':=1) (Sl.blk (S.blk b14)) (fun v4 w35 S=>?_) (by omega)
    refine gg_ ?_
    refine S.st (b:=b13) (fun w36 S=>?_) (h1:=S.row1 v4)
    refine gg_ ?_
    refine hK60 (j+1,v4,s8.or sn,_) _ ⟨hlt4,ha8.or' u33,?_,(S.drop b14).reGh⟩ (by show p.args.length - (j+1)<p.args.length - j;omega)
    show RowOf 4 (OpG (s8.or sn)) _ (p.args.take (j+1))
    rw [hzo]
    exact (hR8.mono fun _ _ h=>OpG.up h).snoc rfl (OpG.up h33)
   have hje : j=p.args.length:=by omega
   subst hje
   rw [List.take_length] at hR8
   clear hK60
   obtain ⟨s9,T,hs9,_,ha9⟩:=S.doneRow hR8 (by decide) rfl
   obtain ⟨a4,e4,rfl,_,_⟩:=hs9.shape
   have S:=T
   clear T
   have hpg : PtG (s4.or (s5.or (s6.or (s7.or (s8.or s9))))) (ptL p a1 a2 a3 a4 a5 e1 e2 e3 e4 e5) p:=⟨_,_,_,_,_,rfl,h23.cells,h27.cells,h29.cells,⟨hs9.up' inferInstance fun _ _ h=>OpG.up h,m4.few⟩,h25.cells⟩
   refine gg_ ?_
   refine S.lit (e:=44) (cs:=ptL p a1 a2 a3 a4 a5 e1 e2 e3 e4 e5) (by kernel_rfl) fun b14 w34 S=>?_
   refine S.ap (v:=vp) (m':=1) (Sl.blk (S.blk b14)) (fun v4 w35 S=>?_) (by omega)
   refine gg_ ?_
   refine S.st (b:=b10) (fun w36 S=>?_) (h1:=S.row1 v4)
   refine gg_ ?_
   refine hK45 (k+1,v4,s3.or (s4.or (s5.or (s6.or (s7.or (s8.or s9))))),_) _ ⟨hlt3,ha3.or' (u4.or' (u5.or' (u6.or' (u7.or' (ha8.or' fun b o ho=>(ha9 b o ho).resolve_right id))))),?_,((S.drop b14).drop b13).to _⟩ (by show g.pts.length - (k+1)<g.pts.length - k;omega)
   show RowOf 21 (PtG _) _ (g.pts.take (k+1))
   rw [hzp]
   exact (hR3.mono fun _ _ h=>PtG.up h).snoc rfl (PtG.up hpg)
  have hke : k=g.pts.length:=by omega
  subst hke
  rw [List.take_length] at hR3
  clear hK45
  have o1:=S.row1 vp
  have o2:=S.row1 vt
  have o3:=S.row1 vn
  refine gg_ ?_
  refine S.lit (e:=33) (cs:=[.string g.name,.int .i64 g.lv,.slice qo g.outs.length ko,.int .i64 g.pn,vt,vn,vp]) (by kernel_rfl) fun b14 w34 S=>?_
  refine S.ap (v:=vf) (m':=1) (Sl.blk (S.blk b14)) (fun v4 w35 S=>?_) (by omega) (h1:=by
   intro u hu
   simp only [List.mem_cons,List.not_mem_nil,or_false] at hu
   rcases hu with rfl|rfl|rfl|rfl|rfl|rfl|rfl<;>first|rfl|assumption)
  refine gg_ ?_
  refine S.st (b:=b3) (fun w36 S=>?_) (h1:=S.row1 v4)
  refine gg_ ?_
  have S:=((S.drop b14).drop b10).drop b9
  have hab : ∀ {q : Gh},(∀ b o,q b o→w.heap.size≤b∨noX b)→Above w q:=fun h b o ho=>(h b o ho).resolve_right id
  by_cases hif : i=f
  ·have hM' : M = []:=hM (by omega)
   subst hM'
   have S:=S.perm (List.perm_append_comm (l₁:=[_,_,_]) (l₂:=[_,_,_,_]))
   refine hK25 (i+1,v4,s.or (so.or (s2.or s3)),_,_) _ ⟨hlt,ha.or' ((hab hao).or' (ha2.or' ha3)),?_,fun hh=>absurd hh (by omega),S.to _⟩ (by show u.fs.length - (i+1)<u.fs.length - i;omega)
   show RowOf 7 (AtG f _ _) _ (u.fs.zipIdx.take (i+1))
   rw [hzi]
   refine (adc hR (by omega)).snoc rfl ⟨fun _=>⟨_,_,_,_,_,_,_,rfl,⟨hso.cells,k1.few⟩,rfl,hR2.mono fun _ _ h=>TyG.up h,rn1,hR3.mono fun _ _ h=>PtG.up h⟩,fun hh=>absurd hif hh⟩
  ·obtain ⟨sp,T,hsp,_,hap⟩:=S.doneRow hR3 (by decide) rfl
   obtain ⟨st,T,hst',_,hat⟩:=T.doneRow hR2 (by decide) rfl
   obtain ⟨sn,T,hsn,_,han⟩:=T.doneRow rn1 (by decide) rfl
   refine hK25 (i+1,v4,s.or (so.or (s2.or (s3.or (sp.or (st.or sn))))),_,M) _ ⟨hlt,ha.or' ((hab hao).or' (ha2.or' (ha3.or' ((hab hap).or' ((hab hat).or' (hab han)))))),?_,fun hh=>hM (by simp only at hh;omega),T.to _⟩ (by show u.fs.length - (i+1)<u.fs.length - i;omega)
   show RowOf 7 (AtG f _ _) _ (u.fs.zipIdx.take (i+1))
   rw [hzi]
   refine (hR.mono fun _ _ h=>AtG.up h).snoc rfl ⟨fun hh=>absurd hh hif,fun _=>⟨_,_,_,_,rfl,⟨hso.cells,k1.few⟩,⟨hst'.up' inferInstance fun _ _ h=>TyG.up h,k2.few⟩,⟨hsn.cells,k3.few⟩,⟨hsp.up' inferInstance fun _ _ h=>PtG.up h,k4'.few⟩⟩⟩
 have hie : i=u.fs.length:=by omega
 subst hie
 rw [List.take_of_length_le (by simp)] at hR
 have o1:=S.row1 vf
 refine gg_ ?_
 refine S.stB (b:=b2) (h1:=by
  intro u hu
  simp only [List.mem_cons,List.not_mem_nil,or_false] at hu
  rcases hu with rfl|rfl|rfl<;>first|rfl|assumption) fun w40 S=>?_
 refine gg_ ?_
 exact h q4 k4 vf xf (sS.or s) M _ ((((S.drop b3).drop b2).drop b1).to _) (ha5.or' ha) hS4.up hq4 hk4 (hR.mono fun _ _ h=>AtG.up h)
end Go.Proofs
end
section
namespace Go.Proofs
open Go.Sh
set_option maxRecDepth 100000
set_option linter.unusedSimpArgs false
set_option linter.unusedVariables false
def V6 (o : Int × Int) : Int:=8*o.1+o.2
theorem aa1 {lv : Int} (hl : lv≤8) : ∀ {a : Int × Int} {l : List (Int × Int)},YD (a::l)=true→(∀ o ∈ a::l,xi lv o=true)→(l.length : Int)+V6 a≤63
 |a,[],_,h=>by
  have:=h a List.mem_cons_self
  simp only [xi,Bool.not_eq_true',Bool.or_eq_false_iff,decide_eq_false_iff_not] at this
  simp only [V6,List.length_nil];omega
 |a,b::l,hr,h=>by
  rw [YD,Bool.and_eq_true] at hr
  have ih:=aa1 hl hr.2 fun o ho=>h o (List.mem_cons_of_mem _ ho)
  have h1:=h a List.mem_cons_self
  have h2:=h b (by simp)
  simp only [xi,Bool.not_eq_true',Bool.or_eq_false_iff,decide_eq_false_iff_not] at h1 h2
  have h3:=hr.1
  simp only [jq,Bool.or_eq_true,Bool.and_eq_true,decide_eq_true_eq] at h3
  simp only [V6,List.length_cons] at ih ⊢
  omega
theorem ad5 {g : GrD} (h : vI g=true) (hl : g.lv≤8) : g.outs.length≤64:=by
 simp only [vI,Bool.and_eq_true,List.all_eq_true] at h
 obtain ⟨⟨h1,h2⟩,_⟩:=h
 cases ho : g.outs with
 |nil=>simp
 |cons a l=>
  rw [ho] at h1 h2
  have:=aa1 hl h2 h1
  have h3:=h1 a List.mem_cons_self
  simp only [xi,Bool.not_eq_true',Bool.or_eq_false_iff,decide_eq_false_iff_not] at h3
  simp only [V6,List.length_cons] at this ⊢
  omega
theorem ace {u : UnD} (h : MayU u) (hf : ∀ g ∈ u.fs,J8 g) : afz u:=by
 obtain ⟨h1,h2,_⟩:=kX h.ok
 refine ⟨by omega,fun x hx=>?_,by have:=h.fs32;omega,fun g hg=>?_⟩
 ·obtain ⟨i,hi,rfl⟩:=List.getElem_of_mem hx
  have hb:=h2 i hi
  rw [qj,kN hi] at hb
  simp only [Bool.or_eq_false_iff,decide_eq_false_iff_not,List.length_map] at hb
  refine ⟨by omega,fun f hff=>?_⟩
  have:=List.any_eq_false.1 hb.2 f.2 (List.mem_map.2 ⟨f,hff,rfl⟩)
  simp only [Bool.or_eq_true,Bool.not_eq_true',not_or] at this
  simpa using this.1
 ·obtain ⟨i,hH⟩:=h.mem hg
  have:=hH.ty512
  have:=hH.nms
  exact ⟨by have:=ad5 hH.outs hH.lv8;omega,by omega,by omega,fun t ht=>(Ji (QK hH.tys t ht)).2,hf g hg⟩
structure GrowG (g g' : GrD) : Prop where
 pn : g'.pn=g.pn
 tys : ∃ x,g'.tys=g.tys++x
 len : g'.pts.length=g.pts.length
 pn0 : 0≤g.pn
 pn1 : g.pn<g.tys.length
structure acf (u u' : UnD) : Prop where
 ss : u'.ss=u.ss
 len : u'.fs.length=u.fs.length
 fs : ∀ (i : Nat) (g : GrD),u.fs[i]? = some g→∃ g',u'.fs[i]? = some g'∧GrowG g g'
theorem XK {ss : List StD} {tys x : List TyD} {p : PlD} (h : (zC ss tys p).2.2=true) : zC ss (tys++x) p=zC ss tys p:=by
 unfold zC at h ⊢
 by_cases h0 : p.l<0
 ·rw [if_pos h0] at h;cases h
 rw [if_neg h0] at h ⊢
 rw [if_neg h0]
 cases ht : tys[p.l.toNat]? with
 |none=>rw [ht] at h;cases h
 |some t=>
  rw [List.getElem?_append_left (by have:=(List.getElem?_eq_some_iff.1 ht).1;omega),ht]
theorem Vy {ss : List StD} {tys x : List TyD} {o : OpD} (h : (zK ss tys o).2=true) : zK ss (tys++x) o=zK ss tys o:=by
 unfold zK at h ⊢
 split
 ·rfl
 split
 ·rfl
 rename_i h1 h2
 rw [if_neg h1,if_neg h2] at h
 split
 ·rename_i h3
  rw [if_pos h3] at h
  simp only [Bool.and_eq_true] at h
  rw [XK h.1.1]
 split
 ·rename_i h3 h4
  rw [if_neg h3,if_pos h4] at h
  simp only [Bool.and_eq_true] at h
  rw [XK h.1.1.1]
 rfl
theorem XL {ss : List StD} {tys x : List TyD} : ∀ {l : List OpD} {ts : List TyD},yT ss tys l ts=true→yT ss (tys++x) l ts=true
 |[],[],_=>rfl
 |[],_::_,h=>by cases h
 |_::_,[],h=>by cases h
 |o::l,t::ts,h=>by
  simp only [yT,Bool.and_eq_true] at h ⊢
  rw [Vy h.1.1]
  exact ⟨h.1,XL h.2⟩
theorem aeT {u u' : UnD} {g g' : GrD} {p : PtD} (hU : acf u u') (hG : GrowG g g') (h : ptG u g p=true) : ptG u' g' p=true:=by
 obtain ⟨x,hx⟩:=hG.tys
 unfold ptG at h ⊢
 rw [hU.ss,hU.len,hx]
 have hin : ∀ q,kO g' q=kO g q:=fun q=>by rw [kO,kO,hG.len]
 rw [hin]
 dsimp only at h ⊢
 have hS : ∀ {q : PlD},(zC u.ss g.tys q).2.2=true→zC u.ss (g.tys++x) q=zC u.ss g.tys q:=fun h=>XK h
 have hO : ∀ {o : OpD},(zK u.ss g.tys o).2=true→zK u.ss (g.tys++x) o=zK u.ss g.tys o:=fun h=>Vy h
 by_cases h1 : p.op=1
 ·rw [if_pos h1] at h ⊢
  have k:=h
  simp only [Bool.and_eq_true] at k
  rw [hS k.1.1.2.1,hO k.1.2];exact h
 rw [if_neg h1] at h ⊢
 by_cases h2 : p.op=2
 ·rw [if_pos h2] at h ⊢
  have k:=h
  simp only [Bool.and_eq_true] at k
  rw [hS k.1.2.1.1,hO k.1.2.2.1,hO k.1.2.2.2];exact h
 rw [if_neg h2] at h ⊢
 by_cases h3 : p.op=3
 ·rw [if_pos h3] at h ⊢
  have k:=h
  simp only [Bool.and_eq_true] at k
  rw [hS k.1.1.2.1,hO k.1.2];exact h
 rw [if_neg h3] at h ⊢
 by_cases h4 : p.op=4
 ·rw [if_pos h4] at h ⊢
  have k:=h
  simp only [Bool.and_eq_true] at k
  rw [hS k.1.1.1.1.2.1,hS k.1.1.1.2];exact h
 rw [if_neg h4] at h ⊢
 by_cases h5 : p.op=5
 ·rw [if_pos h5] at h ⊢
  have k:=h
  simp only [Bool.and_eq_true] at k
  rw [hS k.1.1.1.2.1,hO k.1.1.2];exact h
 rw [if_neg h5] at h ⊢
 by_cases h6 : p.op=6
 ·rw [if_pos h6] at h ⊢
  have k:=h
  simp only [Bool.and_eq_true] at k h ⊢
  rw [hS k.1.1.1.2.1];exact ⟨h.1,XL h.2⟩
 rw [if_neg h6] at h ⊢
 by_cases h7 : p.op=7
 ·rw [if_pos h7] at h ⊢
  have k:=h
  simp only [Bool.and_eq_true] at k h ⊢
  rw [hS k.1.1.2.1]
  refine ⟨h.1,?_⟩
  have h:=h.2
  cases hf : u.fs[p.fn.toNat]? with
  |none=>rw [hf] at h;cases h
  |some f=>
   rw [hf] at h
   obtain ⟨f',hf',hg'⟩:=hU.fs _ _ hf
   rw [hf']
   simp only [Bool.and_eq_true] at h ⊢
   obtain ⟨y,hy⟩:=hg'.tys
   have hp1:=hg'.pn1
   have hp0:=hg'.pn0
   rw [hy,hg'.pn]
   have e1 : (f.tys++y).headD yo=f.tys.headD yo:=by cases ht : f.tys with
    |nil=>rw [ht] at hp1;simp only [List.length_nil] at hp1;omega
    |cons a l=>rfl
   have e2 : ((f.tys++y).drop 1).take f.pn.toNat=(f.tys.drop 1).take f.pn.toNat:=by
    rw [List.drop_append_of_le_length (by omega),List.take_append_of_le_length (by rw [List.length_drop];omega)]
   rw [e1,e2]
   exact ⟨h.1,XL h.2⟩
 rw [if_neg h7] at h ⊢
 by_cases h8 : p.op=8
 ·rw [if_pos h8] at h ⊢
  have k:=h
  simp only [Bool.and_eq_true] at k
  rw [hS k.1.2.1];exact h
 rw [if_neg h8] at h ⊢
 by_cases h9 : p.op=9
 ·rw [if_pos h9] at h ⊢
  have k:=h
  simp only [Bool.and_eq_true] at k
  rw [hO k.1.2];exact h
 rw [if_neg h9] at h ⊢
 by_cases h10 : p.op=10
 ·rw [if_pos h10] at h ⊢
  have k:=h
  simp only [Bool.and_eq_true] at k
  rw [hS k.1.1.2];exact h
 rw [if_neg h10] at h ⊢
 by_cases h11 : p.op=11
 ·rw [if_pos h11] at h ⊢
  have k:=h
  simp only [Bool.and_eq_true] at k
  rw [hS k.1.1.2];exact h
 rw [if_neg h11] at h ⊢
 by_cases h12 : p.op=12
 ·rw [if_pos h12] at h ⊢
  have k:=h
  simp only [Bool.and_eq_true] at k
  rw [hO k.1.1.2];exact h
 rw [if_neg h12] at h ⊢
 exact h
theorem Jz {u u' : UnD} {g g' : GrD} {p : PtD} (hU : acf u u') (hG : GrowG g g') (h : zu u g p=true) : zu u' g' p=true:=by
 unfold zu at h ⊢
 rw [Bool.and_eq_true] at h ⊢
 have hin : ∀ q,kO g' q=kO g q:=fun q=>by rw [kO,kO,hG.len]
 rw [hin]
 exact ⟨h.1,aeT hU hG h.2⟩
end Go.Proofs
end
section
namespace Go.Proofs
open Go.Sh
set_option maxRecDepth 100000
set_option linter.unusedSimpArgs false
set_option linter.unusedVariables false
def zN (u : UnD) (n : Nat) (g' : GrD) : UnD:=⟨u.ss,u.fs.set n g',u.mn⟩
theorem Va {u u' : UnD} {g g' : GrD} (h1 : u'.ss=u.ss) (h2 : g'.pn=g.pn) (h3 : g'.lv=g.lv) : ∀ {l : List TyD} {i : Nat},kP u' g' i l=kP u g i l
 |[],_=>rfl
 |t::l,i=>by rw [kP,kP,Va h1 h2 h3,tyG,tyG,h1,h2,h3]
theorem ad6 {u u' : UnD} {g : GrD} {i : Nat} (h1 : u'.ss=u.ss) (h2 : u'.mn=u.mn) : yh u' i g=yh u i g:=by
 rw [yh,yh,Va h1 rfl rfl,h2]
theorem GrowG.refl {u : UnD} {i : Nat} {g : GrD} (h : HeadU u i g) : GrowG g g:=⟨rfl,⟨[],by simp⟩,rfl,h.pn0,h.pn1⟩
theorem ad7 {u : UnD} {n : Nat} {g' : GrD} (h : MayU u) (hn : n<u.fs.length) (hG : GrowG u.fs[n] g') (hh : yh u n g'=true) (hp : ∀ p ∈ g'.pts,zu u u.fs[n] p=true) : MayU (zN u n g'):=by
 have hU : acf u (zN u n g'):=⟨rfl,by simp [zN],fun i g hi=>by
  obtain ⟨hil,rfl⟩:=List.getElem?_eq_some_iff.1 hi
  by_cases hin : i=n
  ·subst hin
   exact ⟨g',by simp [zN,hil],hG⟩
  ·exact ⟨u.fs[i],by rw [show (zN u n g').fs=u.fs.set n g' from rfl,List.getElem?_set_ne (by omega)];exact hi,.refl (h.hd hil)⟩⟩
 have hl : (zN u n g').fs.length=u.fs.length:=hU.len
 refine ⟨h.ok,by rw [hl];exact h.fs1,by rw [hl];exact h.fs32,h.mn0,by rw [hl];exact h.mn1,fun i hi=>?_,fun g hg p hpp=>?_⟩
 ·rw [ad6 (u:=u) (u':=zN u n g') rfl rfl]
  have hi' : i<u.fs.length:=by omega
  by_cases hin : i=n
  ·subst hin
   simpa [zN] using hh
  ·have : (zN u n g').fs[i]=u.fs[i]:=List.getElem_set_ne (by omega) _
   rw [this];exact h.head i hi'
 ·obtain ⟨i,hi,rfl⟩:=List.getElem_of_mem hg
  have hi' : i<u.fs.length:=by omega
  by_cases hin : i=n
  ·subst hin
   have e : (zN u i g').fs[i]=g':=List.getElem_set_self _
   rw [e] at hpp ⊢
   exact Jz hU hG (hp p hpp)
  ·have e : (zN u n g').fs[i]=u.fs[i]:=List.getElem_set_ne (by omega) _
   rw [e] at hpp ⊢
   exact Jz hU (.refl (h.hd hi')) (h.pts _ (List.getElem_mem hi') p hpp)
def zr (g : GrD) (q : Nat) (p : PtD) : GrD:=⟨g.name,g.lv,g.outs,g.pn,g.tys,g.nms,g.pts.set q p⟩
theorem ad8 {u : UnD} {fn : Nat} {g : GrD} (h : HeadU u fn g) : yh u fn g=true:=by
 simp only [yh,Bool.and_eq_true,Bool.or_eq_true,Bool.not_eq_true',decide_eq_true_eq,decide_eq_false_iff_not,isK]
 refine ⟨⟨⟨⟨⟨⟨⟨h.lv0,h.lv8⟩,h.pn0,h.pn8⟩,h.pn1,h.ty512⟩,h.nms⟩,h.tys⟩,⟨h.pt1,h.pt1024⟩,h.outs⟩,h.loans,?_⟩
 by_cases e : (fn : Int)=u.mn
 ·exact .inr ⟨⟨(h.main e).1,(h.main e).2.1⟩,(h.main e).2.2⟩
 ·exact .inl e
theorem ade {u : UnD} {g : GrD} {p : PtD} (h0 : 0≤p.tx) (h1 : p.op≠14→kO g p.nx=true) (h2 : p.op=14→p.nx=0) (h3 : ptG u g p=true) : zu u g p=true:=by
 have h1' : p.op=14∨kO g p.nx=true:=by
  by_cases h : p.op=14
  ·exact .inl h
  ·exact .inr (h1 h)
 have h2' : p.op≠14∨p.nx=0:=by
  by_cases h : p.op=14
  ·exact .inr (h2 h)
  ·exact .inl h
 simp only [zu,Bool.and_eq_true,Bool.not_eq_true',Bool.or_eq_false_iff,decide_eq_false_iff_not,Bool.and_eq_false_iff,Bool.not_eq_false',decide_eq_true_eq]
 refine ⟨⟨⟨by omega,?_⟩,?_⟩,h3⟩
 ·exact h1'
 ·exact h2'
theorem Zs {u : UnD} {g : GrD} {p : PtD} (h : zu u g p=true) : 0≤p.tx∧(p.op≠14→kO g p.nx=true)∧(p.op=14→p.nx=0)∧ptG u g p=true:=by
 simp only [zu,Bool.and_eq_true,Bool.not_eq_true',Bool.or_eq_false_iff,decide_eq_false_iff_not,Bool.and_eq_false_iff,Bool.not_eq_false',decide_eq_true_eq] at h
 obtain ⟨⟨⟨a,b⟩,c⟩,d⟩:=h
 exact ⟨by omega,fun h=>b.resolve_left h,fun h=>c.resolve_left (fun h'=>h' h),d⟩
theorem acg {u : UnD} {n q : Nat} {g : GrD} {p : PtD} (h : yh u n g=true) (hl : zJ (g.pts.set q p)≤256) : yh u n (zr g q p)=true:=by
 have hH:=V4 h
 exact ad8 ⟨hH.lv0,hH.lv8,hH.pn0,hH.pn8,hH.pn1,hH.ty512,hH.nms,by rw [Va (u:=u) (g:=g) (g':=zr g q p) rfl rfl rfl];exact hH.tys,by simpa [zr] using hH.pt1,by simpa [zr] using hH.pt1024,hH.outs,hl,hH.main⟩
theorem Vz {u : UnD} {n q : Nat} {p : PtD} (h : MayU u) (hn : n<u.fs.length) (hl : zJ (u.fs[n].pts.set q p)≤256) (hp : zu u u.fs[n] p=true) : MayU (zN u n (zr u.fs[n] q p)):=by
 have hH:=h.hd hn
 refine ad7 h hn ⟨rfl,⟨[],by simp [zr]⟩,by simp [zr],hH.pn0,hH.pn1⟩ (acg (h.head n hn) hl) fun x hx=>?_
 rcases List.mem_or_eq_of_mem_set hx with hx|rfl
 ·exact h.pts _ (List.getElem_mem hn) x hx
 ·exact hp
end Go.Proofs
end
section
namespace Go.Proofs
open Go.Sh
set_option maxRecDepth 100000
set_option linter.unusedSimpArgs false
set_option linter.unusedVariables false
theorem afA {α : Type} {l : List α} {z n j i : Nat} {v : α} (hj : j<z) (hi : i≠n) : ((l.set (n*z+j) v).drop (i*z)).take z=(l.drop (i*z)).take z:=by
 refine List.ext_getElem? fun m=>?_
 rw [List.getElem?_take,List.getElem?_take]
 split
 ·rename_i hm
  rw [List.getElem?_drop,List.getElem?_drop,List.getElem?_set_ne]
  intro h
  rcases Nat.lt_or_gt_of_ne hi with h1|h1
  ·have:=Nat.mul_le_mul_right z (show i+1≤n from h1)
   rw [Nat.succ_mul] at this;omega
  ·have:=Nat.mul_le_mul_right z (show n+1≤i from h1)
   rw [Nat.succ_mul] at this;omega
 ·rfl
theorem afB {α : Type} {l : List α} {z n j : Nat} {v : α} (hj : j<z) : ((l.set (n*z+j) v).drop (n*z)).take z=((l.drop (n*z)).take z).set j v:=by
 rw [List.drop_set,if_neg (by omega),show n*z+j - n*z=j by omega,List.take_set]
theorem kU {α : Type} {l : List α} {z n i : Nat} (hi : i<n) : ((l.take (n*z)).drop (i*z)).take z=(l.drop (i*z)).take z:=by
 have:=Nat.mul_le_mul_right z (show i+1≤n from hi)
 rw [Nat.succ_mul] at this
 rw [List.drop_take,List.take_take,Nat.min_eq_left (by omega)]
structure PkS (u : UnD) (n : Nat) (s : Gh) (bp capf capp : Nat) (cf cp : List Value) (vt vn : Value) (xt xn : List Value) (g' : GrD) : Prop where
 flen : cf.length=capf*7
 fcap : u.fs.length≤capf
 few : u.fs.length≤1000
 plen : cp.length=capp*21
 pcap : g'.pts.length≤capp
 hn : n<u.fs.length
 oth : ∀ (i : Nat) (h : i<u.fs.length),i≠n→GrG s ((cf.drop (i*7)).take 7) u.fs[i]
 me : ∃ vo,(cf.drop (n*7)).take 7 = [.string g'.name,.int .i64 g'.lv,vo,.int .i64 g'.pn,vt,vn,.slice (some ⟨bp,0,none⟩) g'.pts.length capp]∧SlB 2 s QG vo g'.outs
 tys : RowOf 5 (TyC s) xt g'.tys
 nms : RowOf 1 Z0 xn g'.nms
 pts : RowOf 21 (PtG s) (cp.take (g'.pts.length*21)) g'.pts
 few1 : g'.tys.length≤1000000∧g'.nms.length≤1000000∧g'.pts.length≤1000000
theorem PkS.peek {u : UnD} {n : Nat} {s : Gh} {bf bp capf capp : Nat} {cf cp : List Value} {vt vn : Value} {xt xn : List Value} {g' : GrD} (h : PkS u n s bp capf capp cf cp vt vn xt xn g')
  {X : Nat→Prop} {w0 w : World} {r : Gh} {L : List Asr} (S : StX X w0 r w (.cell bf cf 33 :: .cell bp cp 44 :: .row vt 57 5 g'.tys.length xt :: .row vn 9 1 g'.nms.length xn::L)) [Le s r] :
  ∃ q,Holds q w∧Le r q∧SlB 7 q (GrG q) (.slice (some ⟨bf,0,none⟩) u.fs.length capf) (zN u n g').fs:=by
 have S:=S.perm (M:=.row vt 57 5 g'.tys.length xt :: .row vn 9 1 g'.nms.length xn :: .cell bp cp 44 :: .cell bf cf 33::L) (by
  refine List.Perm.trans (l₂:=.row vt 57 5 g'.tys.length xt :: .cell bf cf 33 :: .cell bp cp 44 :: .row vn 9 1 g'.nms.length xn::L) ?_ ?_
  ·exact (List.perm_middle (l₁:=[Asr.cell bf cf 33,Asr.cell bp cp 44]))
  ·refine .cons _ (List.Perm.trans (l₂:=.row vn 9 1 g'.nms.length xn :: .cell bf cf 33 :: .cell bp cp 44::L) ?_ ?_)
   ·exact (List.perm_middle (l₁:=[Asr.cell bf cf 33,Asr.cell bp cp 44]))
   ·exact .cons _ (.swap _ _ _))
 obtain ⟨s1,T,h1,_,_⟩:=S.doneRow h.tys (by decide) rfl
 obtain ⟨s2,T,h2,_,_⟩:=T.doneRow h.nms (by decide) rfl
 obtain ⟨T,h3⟩:=StX.cutSl T h.pts (by decide) h.pcap
 have T:=StX.frz T
 obtain ⟨vo,hm,hvo⟩:=h.me
 obtain ⟨f1,f2,f3⟩:=h.few1
 have few:=h.few
 refine ⟨_,T.holds,inferInstance,⟨?_,by rw [show (zN u n g').fs=u.fs.set n g' from rfl,List.length_set];simp only [maxLen];omega⟩⟩
 have hl : (zN u n g').fs.length=u.fs.length:=by simp [zN]
 have hR : RowOf 7 (GrG ((((r.or s1).or s2).or (Go.Sh.one bp cp 44)).or (Go.Sh.one bf cf 33))) (cf.take ((zN u n g').fs.length*7)) (zN u n g').fs:=by
  refine ⟨by rw [List.length_take,h.flen,hl,Nat.min_eq_left (Nat.mul_le_mul_right _ h.fcap)],fun i hi=>?_⟩
  rw [kU hi]
  have hi' : i<u.fs.length:=by omega
  by_cases hin : i=n
  ·subst hin
   have e : (zN u i g').fs[i]=g':=List.getElem_set_self _
   rw [e,hm]
   exact ⟨vo,vt,vn,_,rfl,hvo.cells,⟨h1.up' inferInstance fun _ _ h=>TyG.up h,by simp only [maxLen];omega⟩,⟨h2.cells,by simp only [maxLen];omega⟩,⟨h3.up' inferInstance fun _ _ h=>PtG.up h,by simp only [maxLen];omega⟩⟩
  ·have e : (zN u n g').fs[i]=u.fs[i]:=List.getElem_set_ne (by omega) _
   rw [e]
   exact GrG.up (h.oth i hi' hin)
 have:=hR.sl (p:=some ⟨bf,0,none⟩) (cap:=capf) (by simp) (by rw [hl];exact h.fcap) (fun w k=>(Sl.blk (yx (b:=bf) (c:=cf) (T:=33) w (k.le (h:=inferInstance)))).take _) (by decide) ⟨_,T.holds⟩
 rwa [hl] at this
end Go.Proofs
end
section
namespace Go.Proofs
open Go.Sh
set_option maxRecDepth 100000
set_option linter.unusedSimpArgs false
set_option linter.unusedVariables false
def XM (c : UInt8) : Bool:=decide (48≤c.toNat)&&decide (c.toNat≤57)
def rdN : List UInt8→Nat→Nat × List UInt8
 |c::r,n=>if XM c then rdN r (n*10+(c.toNat - 48)) else (n,c::r)
 |[],n=>(n,[])
def noD : List UInt8→Bool
 |c::_=>!XM c
 |[]=>true
theorem aa2 {r : List UInt8} {n : Nat} (h : noD r=true) : rdN r n=(n,r):=by
 cases r with
 |nil=>rfl
 |cons c l=>rw [rdN,if_neg (by simpa [noD] using h)]
theorem JA {k : Nat} (h : k<10) : XM (UInt8.ofNat (48+k))=true∧(UInt8.ofNat (48+k)).toNat - 48=k:=by
 have e : (UInt8.ofNat (48+k)).toNat=48+k:=by rw [UInt8.toNat_ofNat'];omega
 rw [XM,e]
 exact ⟨by simp;omega,by omega⟩
theorem abG : ∀ (f x : Nat) (r : List UInt8),x<f→rdN (Lib.decDigits x++r) 0=rdN r x:=by
 intro f
 induction f with
 |zero=>intro x r h;omega
 |succ f ih=>
  intro x r h
  rw [Lib.decDigits]
  split
  ·rename_i h10
   rw [List.singleton_append,rdN,if_pos (JA h10).1,(JA h10).2]
   simp
  ·rename_i h10
   rw [List.append_assoc,ih _ _ (by omega),List.singleton_append,rdN,if_pos (JA (by omega)).1,(JA (by omega)).2]
   rw [show x / 10*10+x % 10=x by omega]
def rdI : List UInt8→Int × List UInt8
 |c::r=>if c=45 then (-((rdN r 0).1 : Int),(rdN r 0).2) else (((rdN (c::r) 0).1 : Int),(rdN (c::r) 0).2)
 |[]=>(0,[])
theorem ZR (x : Nat) : ∃ c r,Lib.decDigits x=c::r∧XM c=true:=by
 induction x using Nat.strongRecOn with
 |_ x ih=>
  rw [Lib.decDigits]
  split
  ·rename_i h;exact ⟨_,_,rfl,(JA h).1⟩
  ·obtain ⟨c,r,e,h⟩:=ih (x / 10) (by omega)
   exact ⟨c,r ++ [UInt8.ofNat (48+x % 10)],by rw [e];rfl,h⟩
theorem qL (x : Int) {r : List UInt8} (h : noD r=true) : rdI (Lib.itoa x++r)=(x,r):=by
 rcases (show x<0∨0≤x by omega) with hx|hx
 ·obtain ⟨u,rfl⟩ : ∃ u : Nat,x = -(u : Int):=⟨x.natAbs,by omega⟩
  rw [Lib.itoa_neg u (by omega),List.cons_append,rdI,if_pos rfl,abG (u+1) u r (by omega),aa2 h]
 ·obtain ⟨u,rfl⟩ : ∃ u : Nat,x=(u : Int):=⟨x.toNat,by omega⟩
  rw [Lib.itoa_nonneg]
  obtain ⟨c,l,e,hc⟩:=ZR u
  have hn : c≠45:=fun h=>by rw [h] at hc;exact absurd hc (by decide)
  have:=abG (u+1) u r (by omega)
  rw [e,List.cons_append] at this ⊢
  rw [rdI,if_neg hn,this,aa2 h]
theorem vM (x : Int) : ∃ c r,Lib.itoa x=c::r∧(c=45∨XM c=true):=by
 rcases (show x<0∨0≤x by omega) with hx|hx
 ·obtain ⟨u,rfl⟩ : ∃ u : Nat,x = -(u : Int):=⟨x.natAbs,by omega⟩
  exact ⟨_,_,Lib.itoa_neg u (by omega),.inl rfl⟩
 ·obtain ⟨u,rfl⟩ : ∃ u : Nat,x=(u : Int):=⟨x.toNat,by omega⟩
  obtain ⟨c,l,e,hc⟩:=ZR u
  exact ⟨c,l,by rw [Lib.itoa_nonneg,e],.inr hc⟩
def rdS : Nat→List UInt8→List Int × List UInt8
 |0,s=>([],s)
 |f+1,s=>if s.take 2 = [46,42] then (-1::(rdS f (s.drop 2)).1,(rdS f (s.drop 2)).2)
  else if s.take 1 = [46] then ((rdI (s.drop 1)).1::(rdS f (rdI (s.drop 1)).2).1,(rdS f (rdI (s.drop 1)).2).2) else ([],s)
def noP : List UInt8→Bool
 |c::_=>!XM c && !decide (c=46)
 |[]=>true
theorem V7 {r : List UInt8} (h : noP r=true) : noD r=true:=by
 cases r with
 |nil=>rfl
 |cons c l=>simp only [noP,Bool.and_eq_true] at h;exact h.1
theorem ad9 {r : List UInt8} (h : noP r=true) : ∀ f,rdS f r=([],r)
 |0=>rfl
 |f+1=>by
  cases r with
  |nil=>rfl
  |cons c l=>
   have hc : c≠46:=by simp only [noP,Bool.and_eq_true,Bool.not_eq_true',decide_eq_false_iff_not] at h;exact h.2
   rw [rdS]
   simp [hc]
theorem abH : ∀ (l : List Int) (f : Nat) (r : List UInt8),noP r=true→l.length≤f→rdS f ((l.map stT).flatten++r)=(l,r)
 |[],f,r,h,_=>ad9 h f
 |k::l,0,r,h,hf=>by simp at hf
 |k::l,f+1,r,h,hf=>by
  have ih:=abH l f r h (by simpa using hf)
  have hd : noD ((l.map stT).flatten++r)=true:=by
   cases l with
   |nil=>exact V7 h
   |cons k2 l2=>
    simp only [List.map_cons,List.flatten_cons,stT]
    split<;>rfl
  simp only [List.map_cons,List.flatten_cons,List.append_assoc]
  rw [stT]
  split
  ·rename_i hk
   rw [List.cons_append,List.cons_append,List.nil_append,rdS,if_pos (show List.take 2 ((46 : UInt8)::42::_) = [46,42] from rfl),hk]
   simp only [List.drop_succ_cons,List.drop_zero,ih]
  ·rename_i hk
   obtain ⟨c,m,e,hc⟩:=vM k
   have hc42 : c≠42:=fun h=>by subst h;rcases hc with hc|hc<;>exact absurd hc (by decide)
   have hI:=qL k hd
   rw [List.singleton_append,List.cons_append]
   rw [e,List.cons_append] at hI
   rw [e,List.cons_append]
   rw [rdS,if_neg (show ¬ List.take 2 ((46 : UInt8)::c::_) = [46,42] from fun h=>hc42 (List.cons.inj (List.cons.inj h).2).1),if_pos (show List.take 1 ((46 : UInt8)::c::_) = [46] from rfl)]
   simp only [List.drop_succ_cons,List.drop_zero,hI,ih]
def qm (s : List UInt8) : PlD × List UInt8:=(⟨(rdI (s.drop 1)).1,(rdS s.length (rdI (s.drop 1)).2).1⟩,(rdS s.length (rdI (s.drop 1)).2).2)
theorem VA : ∀ {l : List Int},l.length≤((l.map stT).flatten).length
 |[]=>Nat.zero_le _
 |k::l=>by
  have ih:=VA (l:=l)
  have : 1≤(stT k).length:=by
   rw [stT]
   split
   ·decide
   ·simp only [List.length_append,List.length_cons,List.length_nil];omega
  simp only [List.map_cons,List.flatten_cons,List.length_append,List.length_cons]
  omega
theorem adf {l : List Int} {r : List UInt8} (h : noP r=true) : noD ((l.map stT).flatten++r)=true:=by
 cases l with
 |nil=>exact V7 h
 |cons k2 l2=>
  simp only [List.map_cons,List.flatten_cons,stT]
  split<;>rfl
theorem Zt {p : PlD} {r : List UInt8} (h0 : 0≤p.l) (hk : ∀ k ∈ p.ps,-1≤k) (hr : noP r=true) : qm (plT p++r)=(p,r):=by
 have hany : p.ps.any (fun k=>decide (k < -1))=false:=List.any_eq_false.2 fun k hm=>by have:=hk k hm;simp;omega
 have e : plT p++r=95::(Lib.itoa p.l++((p.ps.map stT).flatten++r)):=by
  rw [plT,if_neg (by omega),hany]
  simp
 have hI:=qL p.l (adf (l:=p.ps) hr)
 have hS:=abH p.ps (plT p++r).length r hr (by
  rw [e]
  have:=VA (l:=p.ps)
  simp only [List.length_cons,List.length_append]
  omega)
 rw [qm]
 rw [e] at hS ⊢
 simp only [List.drop_succ_cons,List.drop_zero,hI,hS]
def rdO (s : List UInt8) : OpD × List UInt8:=
 if s.take 4 = [116,114,117,101] then (⟨2,1,⟨0,[]⟩⟩,s.drop 4)
 else if s.take 5 = [102,97,108,115,101] then (⟨2,0,⟨0,[]⟩⟩,s.drop 5)
 else if s.take 5 = [99,111,112,121,32] then (⟨3,0,(qm (s.drop 5)).1⟩,(qm (s.drop 5)).2)
 else if s.take 5 = [109,111,118,101,32] then (⟨4,0,(qm (s.drop 5)).1⟩,(qm (s.drop 5)).2)
 else (⟨1,(rdI s).1,⟨0,[]⟩⟩,(rdI s).2)
def OpV (o : OpD) : Prop:=(o.k=1∧o.pl=⟨0,[]⟩)∨(o.k=2∧(o.n=0∨o.n=1)∧o.pl=⟨0,[]⟩)∨((o.k=3∨o.k=4)∧o.n=0∧0≤o.pl.l∧∀ k ∈ o.pl.ps,-1≤k)
theorem k8 {o : OpD} {r : List UInt8} (h : OpV o) (hr : noP r=true) : rdO (opT o++r)=(o,r):=by
 obtain ⟨k,n,pl⟩:=o
 rcases h with ⟨h1,h2⟩|⟨h1,h2,h3⟩|⟨h1,h2,h3,h4⟩
 ·simp only at h1 h2
  subst h1 h2
  have hI:=qL n (V7 hr)
  obtain ⟨c,m,e,hc⟩:=vM n
  have e1 : opT ⟨1,n,⟨0,[]⟩⟩=Lib.itoa n:=by rw [opT,if_pos rfl]
  have hx : c≠116∧c≠102∧c≠99∧c≠109:=by
   refine ⟨?_,?_,?_,?_⟩<;>(intro h;subst h;rcases hc with hc|hc<;>exact absurd hc (by decide))
  rw [e1,rdO,hI]
  rw [e]
  simp [hx]
 ·simp only at h1 h2 h3
  subst h1 h3
  rcases h2 with rfl|rfl
  ·have e1 : opT ⟨2,0,⟨0,[]⟩⟩ = [102,97,108,115,101]:=by rw [opT];rfl
   rw [e1];simp [rdO]
  ·have e1 : opT ⟨2,1,⟨0,[]⟩⟩ = [116,114,117,101]:=by rw [opT];rfl
   rw [e1];simp [rdO]
 ·simp only at h1 h2 h3 h4
  subst h2
  have hP:=Zt h3 h4 hr
  rcases h1 with rfl|rfl
  ·have e1 : opT ⟨3,0,pl⟩ = [99,111,112,121,32]++plT pl:=by rw [opT];rfl
   rw [e1];simp [rdO,hP]
  ·have e1 : opT ⟨4,0,pl⟩ = [109,111,118,101,32]++plT pl:=by rw [opT];rfl
   rw [e1];simp [rdO,hP]
def rdJ : Nat→List UInt8→List OpD × List UInt8
 |0,s=>([],s)
 |f+1,s=>if (rdO s).2.take 2 = [44,32] then ((rdO s).1::(rdJ f ((rdO s).2.drop 2)).1,(rdJ f ((rdO s).2.drop 2)).2) else ([(rdO s).1],(rdO s).2)
theorem abI : ∀ (l : List OpD) (f : Nat) (r : List UInt8),(∀ o ∈ l,OpV o)→l≠[]→l.length≤f→rdJ f (yg (l.map opT)++41::r)=(l,41::r)
 |[],f,r,_,h,_=>absurd rfl h
 |o::l,0,r,_,_,hf=>by simp at hf
 |[o],f+1,r,h,_,_=>by
  have h1:=k8 (r:=41::r) (h o List.mem_cons_self) (by rfl)
  show rdJ (f+1) (opT o++41::r)=_
  rw [rdJ,h1]
  simp
 |o::o2::l,f+1,r,h,_,hf=>by
  have ih:=abI (o2::l) f r (fun x hx=>h x (List.mem_cons_of_mem _ hx)) (by simp) (by simpa using hf)
  have h1:=k8 (r:=[44,32]++(yg ((o2::l).map opT)++41::r)) (h o List.mem_cons_self) (by rfl)
  have e : yg ((o::o2::l).map opT)++41::r=opT o++([44,32]++(yg ((o2::l).map opT)++41::r)):=by
   simp [yg]
  rw [e,rdJ,h1]
  simp only [List.cons_append,List.nil_append,List.take_succ_cons,List.take_zero,if_true,List.drop_succ_cons,List.drop_zero,ih]
end Go.Proofs
end
section
namespace Go.Proofs
open Go.Sh
set_option maxRecDepth 100000
set_option linter.unusedSimpArgs false
set_option linter.unusedVariables false
def zPl : PlD:=⟨0,[]⟩
def zOp : OpD:=⟨0,0,zPl⟩
def aa3 (q : Int) (s : List UInt8) : Int × List UInt8:=if s.take 4 = [32,45,62,32] then rdI (s.drop 4) else (q+1,s)
theorem aea {p : PtD} {q : Int} {r : List UInt8} (hr : noD r=true) (h : r = []∨p.op=12∨p.op=13) : aa3 q (goT p q++r)=(p.nx,r):=by
 rw [goT]
 split
 ·rw [aa3,if_pos (by rfl)]
  simp only [List.cons_append,List.nil_append,List.drop_succ_cons,List.drop_zero]
  exact qL _ hr
 ·rename_i hc
  have h1 : p.nx=q+1:=by omega
  rcases h with rfl|h|h
  ·rw [aa3];simp [h1]
  ·exact absurd (.inr (.inl h)) hc
  ·exact absurd (.inr (.inr h)) hc
def spc : List UInt8→Bool
 |c::_=>decide (c=32)
 |[]=>true
theorem jQ {s : List UInt8} (h : spc s=true) : noP s=true:=by
 cases s with
 |nil=>rfl
 |cons c l=>
  have : c=32:=by simpa [spc] using h
  subst this;rfl
theorem aeU {p : PtD} {q : Int} {r : List UInt8} (hr : spc r=true) : spc (goT p q++r)=true:=by
 rw [goT]
 split
 ·rfl
 ·exact hr
theorem abJ {p : PtD} : spc (elT p)=true:=by
 rw [elT]
 split<;>rfl
theorem adg {p : PtD} (h : p.op≠12) : elT p = []:=by rw [elT,if_neg h]
def PlV (p : PlD) : Prop:=0≤p.l∧∀ k ∈ p.ps,-1≤k
theorem abK {ss : List StD} : ∀ {l : List Int} {s s' : TyD × Int},goG ss l s=some s'→∀ k ∈ l,-1≤k
 |[],_,_,_,k,hk=>by cases hk
 |a::l,s,s',h,k,hk=>by
  rw [goG] at h
  cases hs : stepG ss s a with
  |none=>rw [hs] at h;cases h
  |some t=>
   rw [hs] at h
   rcases List.mem_cons.1 hk with rfl|hk
   ·rw [stepG] at hs
    split at hs
    ·omega
    split at hs
    ·omega
    split at hs
    ·omega
    ·cases hs
   ·exact abK h k hk
theorem xW {ss : List StD} {tys : List TyD} {p : PlD} (h : (zC ss tys p).2.2=true) : PlV p:=by
 rw [zC] at h
 split at h
 ·rename_i s hs
  by_cases h0 : p.l<0
  ·rw [if_pos h0] at hs;cases hs
  ·rw [if_neg h0] at hs
   cases ht : tys[p.l.toNat]? with
   |none=>rw [ht] at hs;cases hs
   |some t=>rw [ht] at hs;exact ⟨by omega,abK hs⟩
 ·cases h
theorem Zu {p : PlD} (h : x9 p=true) : p=zPl:=by
 obtain ⟨l,ps⟩:=p
 simp only [x9,Bool.and_eq_true,decide_eq_true_eq] at h
 obtain ⟨rfl,h2⟩:=h
 rw [List.length_eq_zero_iff.1 h2];rfl
theorem aa4 {o : OpD} (h : vH o=true) : o=zOp:=by
 obtain ⟨k,n,pl⟩:=o
 simp only [vH,Bool.and_eq_true,decide_eq_true_eq] at h
 obtain ⟨⟨rfl,rfl⟩,h2⟩:=h
 rw [Zu h2];rfl
theorem j7 {ss : List StD} {tys : List TyD} {o : OpD} (h : (zK ss tys o).2=true) : OpV o:=by
 unfold zK at h
 by_cases h1 : o.k=1
 ·rw [if_pos h1] at h;exact .inl ⟨h1,Zu h⟩
 rw [if_neg h1] at h
 by_cases h2 : o.k=2
 ·rw [if_pos h2] at h
  simp only [Bool.and_eq_true,Bool.or_eq_true,decide_eq_true_eq] at h
  exact .inr (.inl ⟨h2,h.2,Zu h.1⟩)
 rw [if_neg h2] at h
 by_cases h3 : o.k=3
 ·rw [if_pos h3] at h
  simp only [Bool.and_eq_true,decide_eq_true_eq] at h
  have:=xW h.1.1
  exact .inr (.inr ⟨.inl h3,h.1.2,this.1,this.2⟩)
 rw [if_neg h3] at h
 by_cases h4 : o.k=4
 ·rw [if_pos h4] at h
  simp only [Bool.and_eq_true,decide_eq_true_eq] at h
  have:=xW h.1.1.1
  exact .inr (.inr ⟨.inr h4,h.1.1.2,this.1,this.2⟩)
 rw [if_neg h4] at h
 cases h
theorem aa5 {ss : List StD} {tys : List TyD} : ∀ {l : List OpD} {ts : List TyD},yT ss tys l ts=true→∀ o ∈ l,OpV o
 |[],_,_,o,ho=>by cases ho
 |a::l,[],h,_,_=>by cases h
 |a::l,t::ts,h,o,ho=>by
  simp only [yT,Bool.and_eq_true] at h
  rcases List.mem_cons.1 ho with rfl|ho
  ·exact j7 h.1.1
  ·exact aa5 h.2 o ho
theorem yV {p : PtD} {h : aaL} (r : zE p h=true) : p=⟨p.op,if h.to then p.to else zPl,if h.a then p.a else zOp,if h.b then p.b else zOp,if h.args then p.args else [],
  if h.sign then p.sign else ByteArray.empty,if h.fr then p.fr else zPl,if h.mu then p.mu else false,if h.fn then p.fn else 0,if h.st then p.st else 0,p.nx,if h.el then p.el else 0,p.tx⟩:=by
 obtain ⟨op,to,a,b,args,sign,fr,mu,fn,st,nx,el,tx⟩:=p
 simp only [zE,qD,List.all_cons,List.all_nil,id,Bool.and_eq_true,Bool.and_true,Bool.or_eq_true,decide_eq_true_eq,Bool.not_eq_true',beq_iff_eq] at r
 obtain ⟨r1,r2,r3,r4,r5,r6,r7,r8,r9,r10⟩:=r
 simp only [PtD.mk.injEq,true_and,and_true]
 refine ⟨?_,?_,?_,?_,?_,?_,?_,?_,?_,?_⟩
 ·split
  ·rfl
  ·exact Zu (r1.resolve_left ‹_›)
 ·split
  ·rfl
  ·exact aa4 (r2.resolve_left ‹_›)
 ·split
  ·rfl
  ·exact aa4 (r3.resolve_left ‹_›)
 ·split
  ·rfl
  ·exact List.length_eq_zero_iff.1 (r4.resolve_left ‹_›)
 ·split
  ·rfl
  ·have e:=r5.resolve_left ‹_›
   rw [ByteArray.toList_eq] at e
   exact jH.1 (by rw [e];rfl)
 ·split
  ·rfl
  ·exact Zu (r6.resolve_left ‹_›)
 ·split
  ·rfl
  ·exact r7.resolve_left ‹_›
 ·split
  ·rfl
  ·exact r8.resolve_left ‹_›
 ·split
  ·rfl
  ·exact r9.resolve_left ‹_›
 ·split
  ·rfl
  ·exact r10.resolve_left ‹_›
theorem aa6 {o : OpD} (h : OpV o) : ∃ c m,opT o=c::m∧c≠41:=by
 obtain ⟨k,n,pl⟩:=o
 rcases h with ⟨h1,h2⟩|⟨h1,h2,h3⟩|⟨h1,_⟩
 ·simp only at h1;subst h1
  obtain ⟨c,m,e,hc⟩:=vM n
  refine ⟨c,m,by rw [opT,if_pos rfl];exact e,?_⟩
  intro h;subst h;rcases hc with hc|hc<;>exact absurd hc (by decide)
 ·simp only at h1 h2;subst h1
  rcases h2 with rfl|rfl
  ·exact ⟨102,_,rfl,by decide⟩
  ·exact ⟨116,_,rfl,by decide⟩
 ·simp only at h1
  rcases h1 with rfl|rfl
  ·exact ⟨99,_,rfl,by decide⟩
  ·exact ⟨109,_,rfl,by decide⟩
def rdA (s : List UInt8) : List OpD × List UInt8:=if s.take 2 = [40,41] then ([],s.drop 2) else ((rdJ s.length (s.drop 1)).1,(rdJ s.length (s.drop 1)).2.drop 1)
theorem aa7 : ∀ {l : List OpD},(∀ o ∈ l,OpV o)→l.length≤(yg (l.map opT)).length
 |[],_=>Nat.zero_le _
 |[o],h=>by
  obtain ⟨c,m,e,_⟩:=aa6 (h o List.mem_cons_self)
  simp [yg,e]
 |o::o2::l,h=>by
  have ih:=aa7 (l:=o2::l) fun x hx=>h x (List.mem_cons_of_mem _ hx)
  simp only [List.map_cons,yg,List.length_append,List.length_cons,List.length_nil] at ih ⊢
  omega
theorem aa8 {l : List OpD} {r : List UInt8} (h : ∀ o ∈ l,OpV o) : rdA (jk l++r)=(l,r):=by
 have e : jk l++r=40::(yg (l.map opT)++41::r):=by simp [jk]
 rw [e,rdA]
 cases l with
 |nil=>rfl
 |cons o l=>
  have hJ:=abI (o::l) (40::(yg ((o::l).map opT)++41::r)).length r h (by simp) (by
   have:=aa7 h
   simp only [List.length_cons,List.length_append] at this ⊢
   omega)
  have hx : ∃ c m,yg ((o::l).map opT)=c::m∧c≠41:=by
   obtain ⟨c,m,e0,hc⟩:=aa6 (h o List.mem_cons_self)
   clear hJ e
   cases l with
   |nil=>exact ⟨c,m,e0,hc⟩
   |cons o2 l=>exact ⟨c,m ++ [44,32]++yg ((o2::l).map opT),by simp [yg,e0],hc⟩
  obtain ⟨c,m,e2,hc⟩:=hx
  rw [if_neg]
  ·rw [List.drop_succ_cons,List.drop_zero,hJ];rfl
  ·rw [e2]
   intro h
   exact hc (List.cons.inj (List.cons.inj h).2).1
def isO (s : List UInt8) : Bool:=!(decide (s.take 1 = [38])||decide (s.take 4 = [98,111,120,32])||decide (s.take 1 = [35])||(decide (s.take 1 = [102]) && !decide (s.take 2 = [102,97]))||decide (s.take 4 = [114,101,97,100])||decide (s.take 2 = [45,32])||decide (s.take 2 = [33,32]))
theorem adh {o : OpD} {r : List UInt8} (h : OpV o) : isO (opT o++r)=true:=by
 obtain ⟨k,n,pl⟩:=o
 rcases h with ⟨h1,h2⟩|⟨h1,h2,h3⟩|⟨h1,_⟩
 ·simp only at h1;subst h1
  have e : opT ⟨1,n,pl⟩=Lib.itoa n:=by rw [opT,if_pos rfl]
  rw [e]
  rcases (show n<0∨0≤n by omega) with hx|hx
  ·obtain ⟨u,rfl⟩ : ∃ u : Nat,n = -(u : Int):=⟨n.natAbs,by omega⟩
   obtain ⟨c,m,e,hc⟩:=ZR u
   have : c≠32:=by intro h;subst h;exact absurd hc (by decide)
   rw [Lib.itoa_neg u (by omega),e]
   simp [isO,this]
  ·obtain ⟨u,rfl⟩ : ∃ u : Nat,n=(u : Int):=⟨n.toNat,by omega⟩
   obtain ⟨c,m,e,hc⟩:=ZR u
   rw [Lib.itoa_nonneg,e]
   have hx : c≠38∧c≠98∧c≠35∧c≠102∧c≠114∧c≠45∧c≠33:=by
    refine ⟨?_,?_,?_,?_,?_,?_,?_⟩<;>(intro h;subst h;exact absurd hc (by decide))
   simp [isO,hx]
 ·simp only at h1 h2;subst h1
  rcases h2 with rfl|rfl
  ·rfl
  ·rfl
 ·simp only at h1
  rcases h1 with rfl|rfl<;>rfl
def sgn (l : List UInt8) : ByteArray:=bs l
def rdG (s : List UInt8) : ByteArray × List UInt8:=(sgn (s.takeWhile fun c=>!decide (c=32)),(s.dropWhile fun c=>!decide (c=32)).drop 1)
def rdD (to : PlD) (s : List UInt8) : PtD × List UInt8:=
 if isO s then
  if (rdO s).2 = []∨(rdO s).2.take 4 = [32,45,62,32] then (⟨1,to,(rdO s).1,zOp,[],ByteArray.empty,zPl,false,0,0,0,0,0⟩,(rdO s).2)
  else (⟨2,to,(rdO s).1,(rdO (rdG ((rdO s).2.drop 1)).2).1,[],(rdG ((rdO s).2.drop 1)).1,zPl,false,0,0,0,0,0⟩,(rdO (rdG ((rdO s).2.drop 1)).2).2)
 else if s.take 2 = [45,32]∨s.take 2 = [33,32] then (⟨3,to,(rdO (rdG s).2).1,zOp,[],(rdG s).1,zPl,false,0,0,0,0,0⟩,(rdO (rdG s).2).2)
 else if s.take 5 = [38,109,117,116,32] then (⟨4,to,zOp,zOp,[],ByteArray.empty,(qm (s.drop 5)).1,true,0,0,0,0,0⟩,(qm (s.drop 5)).2)
 else if s.take 1 = [38] then (⟨4,to,zOp,zOp,[],ByteArray.empty,(qm (s.drop 2)).1,false,0,0,0,0,0⟩,(qm (s.drop 2)).2)
 else if s.take 1 = [98] then (⟨5,to,(rdO (s.drop 4)).1,zOp,[],ByteArray.empty,zPl,false,0,0,0,0,0⟩,(rdO (s.drop 4)).2)
 else if s.take 1 = [35] then (⟨6,to,zOp,zOp,(rdA (rdI (s.drop 1)).2).1,ByteArray.empty,zPl,false,0,(rdI (s.drop 1)).1,0,0,0⟩,(rdA (rdI (s.drop 1)).2).2)
 else if s.take 1 = [102] then (⟨7,to,zOp,zOp,(rdA (rdI (s.drop 1)).2).1,ByteArray.empty,zPl,false,(rdI (s.drop 1)).1,0,0,0,0⟩,(rdA (rdI (s.drop 1)).2).2)
 else (⟨8,to,zOp,zOp,[],ByteArray.empty,zPl,false,0,0,0,0,0⟩,s.drop 4)
def rdH (s : List UInt8) : PtD × List UInt8:=
 if s.take 1 = [95] then rdD (qm s).1 ((qm s).2.drop 3)
 else if s.take 1 = [112] then (⟨9,zPl,(rdO (s.drop 6)).1,zOp,[],ByteArray.empty,zPl,false,0,0,0,0,0⟩,(rdO (s.drop 6)).2)
 else if s.take 2 = [100,114] then (⟨10,zPl,zOp,zOp,[],ByteArray.empty,(qm (s.drop 5)).1,false,0,0,0,0,0⟩,(qm (s.drop 5)).2)
 else if s.take 1 = [100] then (⟨11,zPl,zOp,zOp,[],ByteArray.empty,(qm (s.drop 5)).1,false,0,0,0,0,0⟩,(qm (s.drop 5)).2)
 else if s.take 1 = [105] then (⟨12,zPl,(rdO (s.drop 3)).1,zOp,[],ByteArray.empty,zPl,false,0,0,0,0,0⟩,(rdO (s.drop 3)).2)
 else if s.take 1 = [103] then (⟨13,zPl,zOp,zOp,[],ByteArray.empty,zPl,false,0,0,0,0,0⟩,s.drop 4)
 else (⟨14,zPl,zOp,zOp,[],ByteArray.empty,zPl,false,0,0,0,0,0⟩,s)
def ach (q : Int) (s : List UInt8) : PtD:=
 let h:=rdH s
 if h.1.op=14 then h.1 else ⟨h.1.op,h.1.to,h.1.a,h.1.b,h.1.args,h.1.sign,h.1.fr,h.1.mu,h.1.fn,h.1.st,(aa3 q h.2).1,if h.1.op=12 then (rdI ((aa3 q h.2).2.drop 6)).1 else 0,0⟩
def XN (p : PtD) : PtD:=⟨p.op,p.to,p.a,p.b,p.args,p.sign,p.fr,p.mu,p.fn,p.st,p.nx,p.el,0⟩
def qr (p : PtD) : PtD:=⟨p.op,p.to,p.a,p.b,p.args,p.sign,p.fr,p.mu,p.fn,p.st,0,0,0⟩
def toT (p : PtD) : List UInt8:=if p.op≤8 then plT p.to ++ [32,61,32] else []
theorem xb {p : PtD} {q : Int} (h14 : p.op≠14) (h : ∀ r : List UInt8,spc r=true→(r = []∨r.take 4 = [32,45,62,32])→rdH (toT p++doT p++r)=(qr p,r)) (hel : p.op≠12→p.el=0) : ach q (ptT p q)=XN p:=by
 have e : ptT p q=toT p++doT p++(goT p q++elT p):=by
  rw [ptT,if_neg h14,toT]
  simp
 have hs:=aeU (p:=p) (q:=q) (r:=elT p) abJ
 have hr : goT p q++elT p = []∨(goT p q++elT p).take 4 = [32,45,62,32]:=by
  rw [goT]
  split
  ·exact .inr rfl
  ·rename_i hc
   rw [adg (fun h=>hc (.inr (.inl h)))]
   exact .inl rfl
 have hg:=aea (p:=p) (q:=q) (r:=elT p) (V7 (jQ abJ)) (by
  by_cases h : p.op=12
  ·exact .inr (.inl h)
  ·exact .inl (adg h))
 rw [ach,e,h _ hs hr]
 simp only [qr,XN,if_neg h14,hg]
 by_cases h12 : p.op=12
 ·have : elT p = [32,101,108,115,101,32]++(Lib.itoa p.el ++ []):=by rw [elT,if_pos h12,List.append_nil]
  rw [if_pos h12,this]
  simp only [List.cons_append,List.nil_append,List.drop_succ_cons,List.drop_zero]
  rw [qL _ (by rfl)]
 ·rw [if_neg h12,hel h12]
theorem j8 {p : PtD} {r : List UInt8} (h8 : p.op≤8) (hto : PlV p.to) : rdH (toT p++doT p++r)=rdD p.to (doT p++r):=by
 have hP:=Zt (r:=[32,61,32]++(doT p++r)) hto.1 hto.2 (by rfl)
 have hany : p.to.ps.any (fun k=>decide (k < -1))=false:=List.any_eq_false.2 fun k hm=>by have:=hto.2 k hm;simp;omega
 have e : toT p++doT p++r=plT p.to++([32,61,32]++(doT p++r)):=by rw [toT,if_pos h8];simp
 rw [e,rdH,if_pos,hP]
 ·rfl
 ·rw [plT,if_neg (by have:=hto.1;omega),hany]
  rfl
theorem aa9 {l r : List UInt8} (h : ∀ c ∈ l,c≠32) : rdG (l++32::r)=(bs l,r):=by
 rw [rdG,List.takeWhile_append_of_pos (by simpa using h),List.dropWhile_append_of_pos (by simpa using h)]
 simp [sgn]
theorem afC {p : PtD} (h : (z8 p.sign [[43],[45],[42],[47],[37]]||z8 p.sign [[60],[60,61],[62],[62,61]]||z8 p.sign [[61,61],[33,61]])=true) (r : List UInt8) :
  (∀ c ∈ p.sign.data.toList,c≠32)∧p.sign.data.toList≠[]∧([32]++p.sign.data.toList++32::r).take 4≠[32,45,62,32]:=by
 simp only [z8,ByteArray.toList_eq,List.any_cons,List.any_nil,Bool.or_false,Bool.or_eq_true,beq_iff_eq] at h
 generalize p.sign.data.toList=s at *
 rcases h with ((h|h|h|h|h)|(h|h|h|h))|(h|h)<;>subst h<;>simp
theorem aeq {u : UnD} {g : GrD} {p : PtD} {q : Int} (h : zu u g p=true) (h1 : 1≤p.op) (h2 : p.op≤14) : ach q (ptT p q)=XN p:=by
 have h0:=jF h
 have h14:=(Zs h).2.2.1
 rw [ptG] at h0
 rcases (show p.op=1∨p.op=2∨p.op=3∨p.op=4∨p.op=5∨p.op=6∨p.op=7∨p.op=8∨p.op=9∨p.op=10∨p.op=11∨p.op=12∨p.op=13∨p.op=14 by omega) with e|e|e|e|e|e|e|e|e|e|e|e|e|e <;>
  simp only [e,Int.reduceEq,if_false,if_true,or_false,false_or,or_true,true_or,Bool.and_eq_true,decide_eq_true_eq] at h0
 ·have hr:=yV h0.1.1.1
  simp only [if_true,Bool.false_eq_true,if_false] at hr
  have hV:=j7 h0.1.2
  refine xb (by omega) (fun r hs hc=>?_) fun _=>by rw [hr]
  rw [j8 (by omega) (xW h0.1.1.2.1),doT,if_pos e,rdD,if_pos (adh hV),k8 hV (jQ hs),if_pos hc,hr,qr]
  simp only [e]
 ·have hr:=yV h0.1.1
  simp only [if_true,Bool.false_eq_true,if_false] at hr
  have hA:=j7 h0.1.2.2.1
  have hB:=j7 h0.1.2.2.2
  refine xb (by omega) (fun r hs hc=>?_) fun _=>by rw [hr]
  obtain ⟨g1,g2,g3⟩:=afC (p:=p) (by
   have:=h0.2
   cases hx : z8 p.sign [[43],[45],[42],[47],[37]]<;>cases hy : z8 p.sign [[60],[60,61],[62],[62,61]]<;>cases hz : z8 p.sign [[61,61],[33,61]]<;>simp [hx,hy,hz] at this ⊢) (opT p.b++r)
  have e2 : doT p++r=opT p.a++([32]++p.sign.data.toList++32::(opT p.b++r)):=by rw [doT,if_neg (by omega),if_pos e];simp
  have h3 : noP ([32]++p.sign.data.toList++32::(opT p.b++r))=true:=by simp [noP,XM]
  rw [j8 (by omega) (xW h0.1.2.1.1),e2,rdD,if_pos (adh hA),k8 hA h3,if_neg (by
   rintro (hx|hx)
   ·simp at hx
   ·exact g3 hx)]
  have e3 : ([32]++p.sign.data.toList++32::(opT p.b++r)).drop 1=p.sign.data.toList++32::(opT p.b++r):=by simp
  rw [e3,aa9 g1,k8 hB (jQ hs),hr,qr]
  simp only [e]
 ·have hr:=yV h0.1.1.1
  simp only [if_true,Bool.false_eq_true,if_false] at hr
  have hA:=j7 h0.1.2
  refine xb (by omega) (fun r hs hc=>?_) fun _=>by rw [hr]
  have hs2 : p.sign.data.toList = [45]∨p.sign.data.toList = [33]:=by
   have:=h0.2
   simp only [z8,ByteArray.toList_eq,List.any_cons,List.any_nil,Bool.or_false,beq_iff_eq] at this
   split at this
   ·exact .inl ‹_›
   split at this
   ·exact .inr ‹_›
   ·cases this
  have e2 : doT p++r=p.sign.data.toList++32::(opT p.a++r):=by rw [doT,if_neg (by omega),if_neg (by omega),if_pos e];simp
  have hx : isO (p.sign.data.toList++32::(opT p.a++r))=false∧((p.sign.data.toList++32::(opT p.a++r)).take 2 = [45,32]∨(p.sign.data.toList++32::(opT p.a++r)).take 2 = [33,32])∧∀ c ∈ p.sign.data.toList,c≠32:=by
   rcases hs2 with h|h<;>rw [h]<;>simp [isO]
  rw [j8 (by omega) (xW h0.1.1.2.1),e2,rdD,if_neg (by rw [hx.1];simp),if_pos hx.2.1,aa9 hx.2.2,k8 hA (jQ hs),hr,qr]
  simp only [e]
 ·have hr:=yV h0.1.1.1.1.1
  simp only [if_true,Bool.false_eq_true,if_false] at hr
  have hF:=xW h0.1.1.1.2
  refine xb (by omega) (fun r hs hc=>?_) fun _=>by rw [hr]
  have hP:=Zt hF.1 hF.2 (jQ hs)
  rw [j8 (by omega) (xW h0.1.1.1.1.2.1),doT,if_neg (by omega),if_neg (by omega),if_neg (by omega),if_pos e]
  cases hm : p.mu with
  |true=>
   have e2 : (if (true : Bool)=true then [38,109,117,116,32]++plT p.fr else [38,32]++plT p.fr)++r=38::109::117::116::32::(plT p.fr++r):=by simp
   rw [e2,rdD,if_neg (by simp [isO]),if_neg (by simp),if_pos (by rfl)]
   simp only [List.drop_succ_cons,List.drop_zero,hP]
   rw [hr,qr]
   simp only [e,hm]
  |false=>
   have e2 : (if (false : Bool)=true then [38,109,117,116,32]++plT p.fr else [38,32]++plT p.fr)++r=38::32::(plT p.fr++r):=by simp
   rw [e2,rdD,if_neg (by simp [isO]),if_neg (by simp),if_neg (by simp),if_pos (by rfl)]
   simp only [List.drop_succ_cons,List.drop_zero,hP]
   rw [hr,qr]
   simp only [e,hm]
 ·have hr:=yV h0.1.1.1.1
  simp only [if_true,Bool.false_eq_true,if_false] at hr
  have hA:=j7 h0.1.1.2
  refine xb (by omega) (fun r hs hc=>?_) fun _=>by rw [hr]
  have e2 : doT p++r=98::111::120::32::(opT p.a++r):=by rw [doT,if_neg (by omega),if_neg (by omega),if_neg (by omega),if_neg (by omega),if_pos e];simp
  rw [j8 (by omega) (xW h0.1.1.1.2.1),e2,rdD,if_neg (by simp [isO]),if_neg (by simp),if_neg (by simp),if_neg (by simp),if_pos (by rfl)]
  simp only [List.drop_succ_cons,List.drop_zero,k8 hA (jQ hs)]
  rw [hr,qr]
  simp only [e]
 ·have hr:=yV h0.1.1.1.1
  simp only [if_true,Bool.false_eq_true,if_false] at hr
  have hA:=aa5 h0.2
  refine xb (by omega) (fun r hs hc=>?_) fun _=>by rw [hr]
  have e2 : doT p++r=35::(Lib.itoa p.st++(jk p.args++r)):=by rw [doT,if_neg (by omega),if_neg (by omega),if_neg (by omega),if_neg (by omega),if_neg (by omega),if_pos e];simp
  rw [j8 (by omega) (xW h0.1.1.1.2.1),e2,rdD,if_neg (by simp [isO]),if_neg (by simp),if_neg (by simp),if_neg (by simp),if_neg (by simp),if_pos (by rfl)]
  simp only [List.drop_succ_cons,List.drop_zero]
  rw [qL _ (by rfl),aa8 hA,hr,qr]
  simp only [e]
 ·have hr:=yV h0.1.1.1
  simp only [if_true,Bool.false_eq_true,if_false] at hr
  have hA : ∀ o ∈ p.args,OpV o:=by
   have:=h0.2
   split at this
   ·simp only [Bool.and_eq_true] at this;exact aa5 this.2
   ·cases this
  refine xb (by omega) (fun r hs hc=>?_) fun _=>by rw [hr]
  have e2 : doT p++r=102::(Lib.itoa p.fn++(jk p.args++r)):=by rw [doT,if_neg (by omega),if_neg (by omega),if_neg (by omega),if_neg (by omega),if_neg (by omega),if_neg (by omega),if_pos e];simp
  obtain ⟨c,m,ei,hc⟩:=vM p.fn
  have hca : c≠97:=by intro h;subst h;rcases hc with hc|hc<;>exact absurd hc (by decide)
  have hO : isO (102::(Lib.itoa p.fn++(jk p.args++r)))=false:=by rw [ei];simp [isO,hca]
  rw [j8 (by omega) (xW h0.1.1.2.1),e2,rdD,if_neg (by rw [hO];simp),if_neg (by simp),if_neg (by simp),if_neg (by simp),if_neg (by simp),if_neg (by simp),if_pos (by rfl)]
  simp only [List.drop_succ_cons,List.drop_zero]
  rw [qL _ (by rfl),aa8 hA,hr,qr]
  simp only [e]
 ·have hr:=yV h0.1.1
  simp only [if_true,Bool.false_eq_true,if_false] at hr
  refine xb (by omega) (fun r hs hc=>?_) fun _=>by rw [hr]
  have e2 : doT p++r=114::101::97::100::r:=by rw [doT,if_neg (by omega),if_neg (by omega),if_neg (by omega),if_neg (by omega),if_neg (by omega),if_neg (by omega),if_neg (by omega),if_pos e];simp
  rw [j8 (by omega) (xW h0.1.2.1),e2,rdD,if_neg (by simp [isO]),if_neg (by simp),if_neg (by simp),if_neg (by simp),if_neg (by simp),if_neg (by simp),if_neg (by simp)]
  simp only [List.drop_succ_cons,List.drop_zero]
  rw [hr,qr]
  simp only [e]
 ·have hr:=yV h0.1.1
  simp only [if_true,Bool.false_eq_true,if_false] at hr
  have hA:=j7 h0.1.2
  refine xb (by omega) (fun r hs hc=>?_) fun _=>by rw [hr]
  have e2 : toT p++doT p++r=112::114::105::110::116::32::(opT p.a++r):=by rw [toT,if_neg (by omega)];simp [doT,e]
  rw [e2,rdH,if_neg (by simp),if_pos (by rfl)]
  simp only [List.drop_succ_cons,List.drop_zero,k8 hA (jQ hs)]
  rw [hr,qr]
  simp only [e]
 ·have hr:=yV h0.1.1.1
  simp only [if_true,Bool.false_eq_true,if_false] at hr
  have hF:=xW h0.1.1.2
  refine xb (by omega) (fun r hs hc=>?_) fun _=>by rw [hr]
  have hP:=Zt hF.1 hF.2 (jQ hs)
  have e2 : toT p++doT p++r=100::114::111::112::32::(plT p.fr++r):=by rw [toT,if_neg (by omega)];simp [doT,e]
  rw [e2,rdH,if_neg (by simp),if_neg (by simp),if_pos (by rfl)]
  simp only [List.drop_succ_cons,List.drop_zero,hP]
  rw [hr,qr]
  simp only [e]
 ·have hr:=yV h0.1.1.1
  simp only [if_true,Bool.false_eq_true,if_false] at hr
  have hF:=xW h0.1.1.2
  refine xb (by omega) (fun r hs hc=>?_) fun _=>by rw [hr]
  have hP:=Zt hF.1 hF.2 (jQ hs)
  have e2 : toT p++doT p++r=100::101::97::100::32::(plT p.fr++r):=by rw [toT,if_neg (by omega)];simp [doT,e]
  rw [e2,rdH,if_neg (by simp),if_neg (by simp),if_neg (by simp),if_pos (by rfl)]
  simp only [List.drop_succ_cons,List.drop_zero,hP]
  rw [hr,qr]
  simp only [e]
 ·have hr:=yV h0.1.1.1
  simp only [if_true,Bool.false_eq_true,if_false] at hr
  have hA:=j7 h0.1.1.2
  refine xb (by omega) (fun r hs hc=>?_) fun h=>absurd e h
  have e2 : toT p++doT p++r=105::102::32::(opT p.a++r):=by rw [toT,if_neg (by omega)];simp [doT,e]
  rw [e2,rdH,if_neg (by simp),if_neg (by simp),if_neg (by simp),if_neg (by simp),if_pos (by rfl)]
  simp only [List.drop_succ_cons,List.drop_zero,k8 hA (jQ hs)]
  rw [hr,qr]
  simp only [e]
 ·have hr:=yV h0
  simp only [if_true,Bool.false_eq_true,if_false] at hr
  refine xb (by omega) (fun r hs hc=>?_) fun _=>by rw [hr]
  have e2 : toT p++doT p++r=103::111::116::111::r:=by rw [toT,if_neg (by omega)];simp [doT,e]
  rw [e2,rdH,if_neg (by simp),if_neg (by simp),if_neg (by simp),if_neg (by simp),if_neg (by simp),if_pos (by rfl)]
  simp only [List.drop_succ_cons,List.drop_zero]
  rw [hr,qr]
  simp only [e]
 ·have hr:=yV h0
  simp only [if_true,Bool.false_eq_true,if_false] at hr
  have hn:=h14 e
  rw [ptT,if_pos e,ach]
  have : rdH [114,101,116,117,114,110]=(⟨14,zPl,zOp,zOp,[],ByteArray.empty,zPl,false,0,0,0,0,0⟩,[114,101,116,117,114,110]):=rfl
  rw [this]
  simp only [if_true]
  rw [hr,XN]
  simp only [e,hn]
theorem aci {u : UnD} {g g' : GrD} {u' : UnD} {p p' : PtD} {q : Int} (h : zu u g p=true) (h1 : 1≤p.op) (h2 : p.op≤14) (h' : zu u' g' p'=true) (h1' : 1≤p'.op) (h2' : p'.op≤14) : ptT p q=ptT p' q↔XN p=XN p':=by
 constructor
 ·intro e
  rw [← aeq (q:=q) h h1 h2,← aeq (q:=q) h' h1' h2',e]
 ·intro e
  have f : ∀ x : PtD,ptT (XN x) q=ptT x q:=fun x=>rfl
  rw [← f p,← f p',e]
end Go.Proofs
end
section
namespace Go.Proofs
open Go.Sh
set_option maxRecDepth 100000
set_option linter.unusedSimpArgs false
set_option linter.unusedVariables false
abbrev exL (k : Int) : List Value:=[.int .u8 1,.int .i64 0,.slice none 0 0,.int .u8 k,.int .i64 7,.int .i64 0,.slice none 0 0,.int .u8 0,.int .i64 0,.int .i64 0,.slice none 0 0,.slice none 0 0,.string ByteArray.empty,.int .i64 0,.slice none 0 0,.bool false,.int .i64 0,.int .i64 0,.int .i64 1,.int .i64 0,.int .i64 0]
abbrev QT (bt bn bp : Nat) : List Value:=[.string ⟨#[109,97,105,110]⟩,.int .i64 0,.slice none 0 0,.int .i64 0,.slice (some ⟨bt,0,none⟩) 1 1,.slice (some ⟨bn,0,none⟩) 1 1,.slice (some ⟨bp,0,none⟩) 2 2]
abbrev exM (k : Int) (bt bn bp bg b2 : Nat) : List Asr:=[.cell b2 [.slice none 0 0,.slice (some ⟨bg,0,none⟩) 1 1,.int .i64 0] 25,.cell bg (QT bt bn bp) 33,.cell bp (exL k++hl3) 44,.cell bn [.string ⟨#[]⟩] 9,.cell bt Z2 57]
abbrev aeb (k : Int) (bt bn bp bg : Nat) : Gh:=(((Go.Sh.one bt Z2 57).or (Go.Sh.one bn [.string ⟨#[]⟩] 9)).or (Go.Sh.one bp (exL k++hl3) 44)).or (Go.Sh.one bg (QT bt bn bp) 33)
abbrev exV (bg : Nat) : Value:=.agg #[.slice none 0 0,.slice (some ⟨bg,0,none⟩) 1 1,.int .i64 0]
theorem ke {k : Int} {bt bn bp bg b2 : Nat} {w0 w : World} {r : Gh} {M : List Asr} (S : StX noX w0 r w (exM k bt bn bp bg b2)) : Holds (aeb k bt bn bp bg) w:=
 (((yc (S.has _ (by simp : Asr.cell bt Z2 57 ∈ _))).or (yc (S.has (.cell bn [.string ⟨#[]⟩] 9) (by simp)))).or (yc (S.has (.cell bp (exL k++hl3) 44) (by simp)))).or (yc (S.has (.cell bg (QT bt bn bp) 33) (by simp)))
theorem aer {k : Int} {bt bn bp bg b2 : Nat} {w0 w : World} {r : Gh} {M : List Asr} (S : StX noX w0 r w (exM k bt bn bp bg b2)) : UnG (aeb k bt bn bp bg) (exV bg) (exU k):=by
 have hz : ∀ {r : Gh} {α : Type} {sz : Nat} {R : List Value→α→Prop},SlB sz r R (.slice none 0 0) ([] : List α):=xU
 have ht:=Jv (sz:=5) (b:=bt) (e:=57) (R:=TyC nothing) (l:=[aaK]) (w:=w) (xs:=Z2) (qW (c:=Z2) rfl (show TyC nothing Z2 aaK from Jn)) (by decide) (S.has (.cell bt Z2 57) (by simp))
 have hn:=Jv (sz:=1) (b:=bn) (e:=9) (R:=Z0) (l:=[(⟨#[]⟩ : ByteArray)]) (w:=w) (xs:=[.string ⟨#[]⟩]) (qW rfl rfl) (by decide) (S.has (.cell bn [.string ⟨#[]⟩] 9) (by simp))
 have hp:=Jv (sz:=21) (b:=bp) (e:=44) (R:=PtG nothing) (l:=[exA k,exB]) (w:=w) (xs:=exL k++hl3) (vK rfl ⟨_,_,_,_,_,rfl,hz,hz,hz,hz,hz⟩ (qW rfl ⟨_,_,_,_,_,rfl,hz,hz,hz,hz,hz⟩)) (by decide) (S.has (.cell bp (exL k++hl3) 44) (by simp))
 have hg:=Jv (sz:=7) (b:=bg) (e:=33) (R:=GrG ((((Go.Sh.one bt Z2 57).or (Go.Sh.one bn [.string ⟨#[]⟩] 9)).or (Go.Sh.one bp (exL k++hl3) 44)))) (l:=[exG k]) (w:=w) (xs:=QT bt bn bp)
  (qW rfl ⟨_,_,_,_,rfl,hz,XX (hl:=Nat.le_of_ble_eq_true rfl) (ht.up' inferInstance fun c x hx=>TyG.up hx),XX (hl:=Nat.le_of_ble_eq_true rfl) hn.cells,XX (hl:=Nat.le_of_ble_eq_true rfl) (hp.up' inferInstance fun c x hx=>PtG.up hx)⟩) (by decide) (S.has (.cell bg (QT bt bn bp) 33) (by simp))
 exact ⟨none,0,_,rfl,fun _=>rfl,Nat.zero_le _,trivial,Nat.zero_le _,XX (hl:=Nat.le_of_ble_eq_true rfl) (hg.up' inferInstance fun c x hx=>GrG.up hx)⟩
set_option maxHeartbeats 4000000 in
theorem qF {w : World} {r : Gh} {K : Value→World→Prop} (hT : TabZ r) (hr : Holds r w) (h : ∀ w',Ext w w'→K (.bool true) w') : zd Tryz.prog Tryz.xm #[] w K:=by
 refine Tryz.JR ?_
 unfold Tryz.YW
 have S:=St.start hr
 refine zz (cs:=Z2.toArray) (by kernel_rfl) ?_
 refine S.al fun b1 w1 S=>?_
 refine S.stB (b:=b1) fun w2 S=>?_
 refine S.ldB (b:=b1) ?_ rfl
 refine S.lit (e:=57) (cs:=Z2) (by kernel_rfl) fun bt w3 S=>?_
 refine S.lit (e:=9) (cs:=[.string ⟨#[]⟩]) (by kernel_rfl) fun bn w4 S=>?_
 refine zz (cs:=#[.int .u8 1,.int .i64 7,.int .i64 0,.slice none 0 0]) (by kernel_rfl) ?_
 refine zz (cs:=(exL 1).toArray) (by kernel_rfl) ?_
 refine zz (cs:=hl3.toArray) (by kernel_rfl) ?_
 refine S.lit (e:=44) (cs:=exL 1++hl3) (by kernel_rfl) fun bp w5 S=>?_
 refine zz (cs:=(QT bt bn bp).toArray) (by kernel_rfl) ?_
 refine S.lit (e:=33) (cs:=QT bt bn bp) (by kernel_rfl) fun bg w6 S=>?_
 refine zz (cs:=#[.slice none 0 0,.slice (some ⟨bg,0,none⟩) 1 1,.int .i64 0]) (by kernel_rfl) ?_
 refine S.al fun b2 w7 S=>?_
 refine S.stB (b:=b2) fun w8 S=>?_
 have S:=S.drop b1
 have S : StX noX w r w8 (exM 1 bt bn bp bg b2):=S
 refine S.ldB (b:=b2) ?_ rfl
 have hu:=aer (M:=[]) S
 refine vk (ke (M:=[]) S) hu fun w9 e9=>?_
 have S:=S.go e9
 rw [Vu Jw]
 refine gS_ ?_
 refine S.ldB (b:=b2) ?_ rfl
 refine Zo (hT.up (s:=r.or (aeb 1 bt bn bp bg))) (S.holds.or (ke (M:=[]) S)) hu.up (fun _=>afx) fun w10 e10=>?_
 have S:=S.go e10
 rw [aeQ,jP.1]
 refine gS_ ?_
 refine S.ldB (b:=b2) ?_ rfl
 refine aaZ (ke (M:=[]) S) hu fun v11 s11 w11 e11 n11 hn=>?_
 rw [aeR] at hn
 rw [jP.1]
 obtain ⟨S,d11,a11⟩:=S.tell e11 n11
 obtain ⟨px,capx,rfl,_,_⟩:=hn.shape
 obtain ⟨bx,ox,cx,rfl,hcx,hcc,hcell⟩:=hn.get (by decide) (i:=0) (by decide)
 obtain rfl : cx=_:=hcc
 refine gS_ ?_
 refine S.ldB (b:=b2) ?_ rfl
 refine QS (ke (M:=[]) S) hu fun v12 s12 w12 e12 n12 ho=>?_
 rw [adb] at ho
 rw [adb]
 obtain ⟨S,d12,a12⟩:=S.tell e12 n12
 obtain ⟨py,capy,rfl,_,_⟩:=ho.shape
 refine gS_ ?_
 refine S.ldB (b:=b2) ?_ rfl
 refine Jt (ke (M:=[]) S) hu (fun e w13 hn _=>by rw [afw] at hn;cases hn) fun p c s13 w13 hp e13 n13 hpl=>?_
 obtain ⟨S,d13,a13⟩:=S.tell e13 n13
 obtain ⟨va,rfl,hva⟩:=hpl
 obtain ⟨qa,ca,rfl,_,_⟩:=hva.sl.shape
 refine gS_ ?_
 refine S.al fun b12 w14 S=>?_
 refine S.stB (b:=b12) fun w15 S=>?_
 have S:=S.drop b12
 refine gp_ ?_
 refine zh (c:=false) (fun _ K2 hK2=>by refine gg_ ?_;exact hK2) ?_
 refine zh (c:=false) (fun _ K2 hK2=>by refine gg_ ?_;exact hK2) ?_
 refine zh (c:=false) (fun _ K2 hK2=>by refine gg_ ?_;exact hK2) ?_
 refine zh (c:=false) (fun _ K2 hK2=>by refine gg_ ?_;exact hK2) ?_
 refine zh (c:=false) (fun _ K2 hK2=>by refine gg_ ?_;exact hK2) ?_
 refine zh (c:=false) (fun _ K2 hK2=>?_) ?_
 ·refine gg_ ?_
  refine s_c (by decide) ?_
  refine zG (v:=.int .i64 1) (by simpa using S.at (hcell 0 _ rfl)) ?_
  refine gg_ ?_
  exact hK2
 refine zh (c:=false) (fun _ K2 hK2=>by refine gg_ ?_;exact hK2) ?_
 refine zh (c:=false) (fun _ K2 hK2=>by refine gg_ ?_;exact hK2) ?_
 refine zh (c:=false) (fun _ K2 hK2=>by refine gg_ ?_;exact hK2) ?_
 refine zh (c:=false) (fun _ K2 hK2=>by refine gg_ ?_;exact hK2) ?_
 refine zh (c:=false) (fun _ K2 hK2=>by refine gg_ ?_;exact hK2) ?_
 refine xM (c:=false) (fun _ K2 hK2=>?_) fun w20 e20=>?_
 ·refine S.ldB (b:=b2) ?_ rfl
  refine xD (ke (M:=[]) S) hu fun w21 e21=>?_
  rw [yY.2 Jw]
  refine gp_ ?_
  exact hK2 _ e21
 have S:=S.go e20
 refine xM (c:=false) (fun _ K2 hK2=>?_) fun w22 e22=>?_
 ·refine S.ldB (b:=b2) ?_ rfl
  refine S.ldB (b:=b2) ?_ rfl
  refine XH (ke (M:=[]) S) hu hu fun w21 e21=>?_
  rw [yY.2 Jw,YJ]
  refine gp_ ?_
  exact hK2 _ e21
 have S:=S.go e22
 refine c_f (by simp) ?_
 refine gg_ ?_
 refine S.st (b:=bp) fun w30 S=>?_
 have S : StX noX w _ w30 (exM 2 bt bn bp bg b2):=S
 have hu2:=aer (M:=[]) S
 refine S.ldB (b:=b2) ?_ rfl
 refine vk (ke (M:=[]) S) hu2 fun w31 e31=>?_
 have S:=S.go e31
 rw [Vw]
 refine gS_ ?_
 refine zj (c:=true) (fun _ K2 hK2=>by refine gg_ ?_;exact hK2) ?_
 refine zj (c:=true) (fun _ K2 hK2=>by refine gg_ ?_;exact hK2) ?_
 refine zm (c:=true) (fun _ K2 hK2=>?_) fun w32 e32=>?_
 ·refine S.ldB (b:=b2) ?_ rfl
  refine xD (ke (M:=[]) S) hu2 fun w33 e33=>?_
  rw [af6]
  refine gp_ ?_
  exact hK2 _ e33
 have:=h _ (S.go e32).ext
 simpa using this
end Go.Proofs
end
section
namespace Go.Proofs.Tryz
open Go.Sh
set_option maxRecDepth 100000
end Go.Proofs.Tryz
end
section
namespace Go.Sh
end Go.Sh
namespace Go.Proofs
open Go.Sh
set_option maxRecDepth 100000
set_option linter.unusedSimpArgs false
set_option linter.unusedVariables false
end Go.Proofs
end
section
namespace Go.Sh
end Go.Sh
namespace Go.Proofs
open Go.Sh
set_option maxRecDepth 100000
set_option linter.unusedSimpArgs false
set_option linter.unusedVariables false
end Go.Proofs
end
section
namespace Go.Proofs
open Go.Sh
set_option maxRecDepth 100000
set_option linter.unusedSimpArgs false
set_option linter.unusedVariables false
end Go.Proofs
end
section
namespace Go.Proofs
open Go.Sh
set_option maxRecDepth 100000
set_option linter.unusedSimpArgs false
set_option linter.unusedVariables false
end Go.Proofs
end
section
namespace Go.Proofs
open Go.Sh
set_option maxRecDepth 100000
set_option linter.unusedSimpArgs false
set_option linter.unusedVariables false
end Go.Proofs
end
section
namespace Go.Proofs
open Go.Sh
set_option maxRecDepth 100000
set_option linter.unusedSimpArgs false
set_option linter.unusedVariables false
end Go.Proofs
end
section
namespace Go.Proofs
open Go.Sh
set_option maxRecDepth 100000
set_option linter.unusedSimpArgs false
set_option linter.unusedVariables false
end Go.Proofs
end
section
namespace Go.Proofs
open Go.Sh
set_option maxRecDepth 100000
set_option linter.unusedSimpArgs false
set_option linter.unusedVariables false
end Go.Proofs
end
section
namespace Go.Sh
end Go.Sh
namespace Go.Proofs
open Go.Sh
set_option maxRecDepth 100000
set_option linter.unusedSimpArgs false
set_option linter.unusedVariables false
end Go.Proofs
end
section
namespace Go.Proofs
open Go.Sh
set_option maxRecDepth 100000
set_option linter.unusedSimpArgs false
set_option linter.unusedVariables false
end Go.Proofs
end
section
namespace Go.Sh
end Go.Sh
namespace Go.Proofs
open Go.Sh
set_option maxRecDepth 100000
set_option linter.unusedSimpArgs false
set_option linter.unusedVariables false
end Go.Proofs
end
section
namespace Go.Proofs
open Go.Sh
set_option maxRecDepth 100000
set_option linter.unusedSimpArgs false
set_option linter.unusedVariables false
end Go.Proofs
end
section
namespace Go.Proofs
open Go.Sh
set_option maxRecDepth 100000
set_option linter.unusedSimpArgs false
set_option linter.unusedVariables false
end Go.Proofs
end
section
namespace Go.Proofs
open Go.Sh
set_option maxRecDepth 100000
set_option linter.unusedSimpArgs false
set_option linter.unusedVariables false
def PlN (p : PlD) : Prop:=yC p.l∧∀ k ∈ p.ps,yC k
def OpN (o : OpD) : Prop:=yC o.n∧PlN o.pl
structure PtN (p : PtD) : Prop where
 to : PlN p.to
 a : OpN p.a
 b : OpN p.b
 args : ∀ o ∈ p.args,OpN o
 fr : PlN p.fr
 fn : yC p.fn
 st : yC p.st
 nx : yC p.nx
 el : yC p.el
def UnN (u : UnD) : Prop:=∀ g ∈ u.fs,∀ p ∈ g.pts,PtN p
theorem QU {u : UnD} {g : GrD} {p : PtD} (h : zu u g p=true) : 1≤p.op∧p.op≤14:=by
 have h:=jF h
 refine Decidable.byContradiction fun hn=>?_
 simp only [ptG,show ¬ p.op=1 by omega,show ¬ p.op=2 by omega,show ¬ p.op=3 by omega,show ¬ p.op=4 by omega,show ¬ p.op=5 by omega,show ¬ p.op=6 by omega,show ¬ p.op=7 by omega,show ¬ p.op=8 by omega,show ¬ p.op=9 by omega,show ¬ p.op=10 by omega,show ¬ p.op=11 by omega,show ¬ p.op=12 by omega,show ¬ p.op=13 by omega,show ¬ p.op=14 by omega,or_self,if_false] at h
 cases h
theorem aeV {u : UnD} (hM : MayU u) (hN : UnN u) (hF : ∀ g ∈ u.fs,J8 g) : J6 u:=fun g hg=>by
 obtain ⟨h1,h2⟩:=hF g hg
 refine ⟨h1,fun p hp=>?_⟩
 have f:=h2 p hp
 have k:=hN g hg p hp
 obtain ⟨o1,o2⟩:=QU (hM.pts g hg p hp)
 have pl : ∀ {x : PlD},PlN x→x.ps.length≤40→x.fit:=fun h hl=>⟨h.1,by omega,h.2⟩
 have fa:=f.args;have fs:=f.sign
 exact ⟨o1,o2,pl k.to f.to,⟨k.a.1,pl k.a.2 f.a⟩,⟨k.b.1,pl k.b.2 f.b⟩,⟨by omega,fun o ho=>⟨(k.args o ho).1,pl (k.args o ho).2 (f.ops o ho)⟩⟩,by omega,pl k.fr f.fr,k.fn,k.st,k.nx,k.el⟩
end Go.Proofs
end
section
namespace Go.Proofs
open Go.Sh
set_option maxRecDepth 100000
set_option linter.unusedSimpArgs false
set_option linter.unusedVariables false
def fvT (P : Program) (t : TypeId) (i : Nat) : Option Nat:=match P.underlying t with
 |some (.struct fs)=>(fs[i]?).bind fun f=>match P.underlying f.type with
  |some (.slice _)=>some f.offset
  |some (.int _)=>some f.offset
  |_=>none
 |_=>none
theorem agr {P : Program} {t : TypeId} {i k : Nat} {cs : Array Value} {v : Value} {K : Value→Prop} (h : fvT P t i=some k) (hc : cs[k]? = some v) (hk : K v) : opP P (Instr.field t (.agg cs) i) K:=by
 refine z6 (fun w=>?_) hk
 unfold fvT at h
 cases hu : P.underlying t with
 |none=>rw [hu] at h;cases h
 |some d=>
  rw [hu] at h
  cases d<;>first|cases h|skip
  rename_i fs
  simp only at h
  cases hf : fs[i]? with
  |none=>rw [hf] at h;cases h
  |some f=>
   rw [hf] at h
   simp only [Option.bind_some] at h
   cases hs : P.underlying f.type with
   |none=>rw [hs] at h;cases h
   |some m=>
    rw [hs] at h
    cases m<;>first|cases h|skip
    all_goals
     simp [Instr.field,asAgg,part,isAgg,Sem.run_bind,zn hu,zn hs,Result.andThen,hf,Sem.run,pure,hc]
theorem aeW {α : Type} {l c : List α} {z q i : Nat} (hc : c.length=z) (hl : q*z+z≤l.length) (hi : i≠q) : ((l.take (q*z)++c++l.drop (q*z+z)).drop (i*z)).take z=(l.drop (i*z)).take z:=by
 refine List.ext_getElem? fun m=>?_
 rw [List.getElem?_take,List.getElem?_take]
 split
 ·rename_i hm
  rw [List.getElem?_drop,List.getElem?_drop]
  have hq : (l.take (q*z)).length=q*z:=by rw [List.length_take];omega
  rcases Nat.lt_or_gt_of_ne hi with h1|h1
  ·have:=Nat.mul_le_mul_right z (show i+1≤q from h1)
   rw [Nat.succ_mul] at this
   rw [List.append_assoc,List.getElem?_append_left (by omega),List.getElem?_take,if_pos (by omega)]
  ·have:=Nat.mul_le_mul_right z (show q+1≤i from h1)
   rw [Nat.succ_mul] at this
   rw [List.getElem?_append_right (by rw [List.length_append,hq,hc];omega),List.length_append,hq,hc,List.getElem?_drop]
   congr 1;omega
 ·rfl
theorem aec {α : Type} {l c : List α} {z q : Nat} (hc : c.length=z) (hl : q*z+z≤l.length) : ((l.take (q*z)++c++l.drop (q*z+z)).drop (q*z)).take z=c:=by
 have hq : (l.take (q*z)).length=q*z:=by rw [List.length_take];omega
 rw [List.append_assoc,List.drop_left' hq,List.take_left' hc]
theorem PkS.put {u : UnD} {n : Nat} {s s' : Gh} {bp capf capp : Nat} {cf cp : List Value} {vt vn : Value} {xt xn : List Value} {g : GrD} (h : PkS u n s bp capf capp cf cp vt vn xt xn g) [Le s s'] {q : Nat} (hq : q<g.pts.length) {c : List Value} {p : PtD} (hc : c.length=21) (hp : PtG s' c p) :
  PkS u n s' bp capf capp cf (cp.take (q*21)++c++cp.drop (q*21+21)) vt vn xt xn (zr g q p):=by
 have hl : (zr g q p).pts.length=g.pts.length:=List.length_set
 have h1:=h.plen
 have h2:=h.pcap
 have hle : q*21+21≤cp.length:=by omega
 refine ⟨h.flen,h.fcap,h.few,by simp only [List.length_append,List.length_take,List.length_drop,hc];omega,by rw [hl];exact h2,h.hn,fun i hi hin=>GrG.up (h.oth i hi hin),?_,h.tys.mono fun _ _ h=>TyG.up h,h.nms,?_,by rw [hl];exact h.few1⟩
 ·obtain ⟨vo,a,b⟩:=h.me
  exact ⟨vo,by rw [a,hl];rfl,b.cells⟩
 ·refine ⟨by rw [hl,List.length_take];simp only [List.length_append,List.length_take,List.length_drop,hc];omega,fun i hi=>?_⟩
  have hi' : i<g.pts.length:=by omega
  rw [hl,kU hi']
  have hp':=h.pts.2 i hi'
  rw [kU hi'] at hp'
  by_cases hiq : i=q
  ·subst hiq
   have e : (zr g i p).pts[i]=p:=List.getElem_set_self _
   rw [e,aec hc hle]
   exact hp
  ·have e : (zr g q p).pts[i]=g.pts[i]:=List.getElem_set_ne (by omega) _
   rw [e,aeW hc hle hiq]
   exact PtG.up hp'
def y5 (p : PtD) (k : Int) : PtD:=⟨p.op,p.to,p.a,p.b,p.args,p.sign,p.fr,p.mu,p.fn,p.st,p.nx,p.el,k⟩
theorem PkS.tx {u : UnD} {n : Nat} {s : Gh} {bp capf capp : Nat} {cf cp : List Value} {vt vn : Value} {xt xn : List Value} {g : GrD} (h : PkS u n s bp capf capp cf cp vt vn xt xn g) {q : Nat} (hq : q<g.pts.length) {k : Int} :
  PkS u n s bp capf capp cf (cp.set (q*21+20) (.int .i64 k)) vt vn xt xn (zr g q (y5 g.pts[q] k)):=by
 have hl : (zr g q (y5 g.pts[q] k)).pts.length=g.pts.length:=List.length_set
 refine ⟨h.flen,h.fcap,h.few,by rw [List.length_set];exact h.plen,by rw [hl];exact h.pcap,h.hn,h.oth,?_,h.tys,h.nms,?_,by rw [hl];exact h.few1⟩
 ·obtain ⟨vo,a,b⟩:=h.me
  exact ⟨vo,by rw [a,hl];rfl,b⟩
 ·refine ⟨by rw [hl,List.take_set,List.length_set];exact h.pts.1,fun i hi=>?_⟩
  have hi' : i<g.pts.length:=by omega
  rw [hl,kU hi']
  have hp:=h.pts.2 i hi'
  rw [kU hi'] at hp
  by_cases hiq : i=q
  ·subst hiq
   have e : (zr g i (y5 g.pts[i] k)).pts[i]=y5 g.pts[i] k:=List.getElem_set_self _
   rw [e,afB (by decide)]
   generalize (cp.drop (i*21)).take 21=c at hp
   obtain ⟨_,_,_,_,_,rfl,k1,k2,k3,k4,k5⟩:=hp
   exact ⟨_,_,_,_,_,rfl,k1,k2,k3,k4,k5⟩
  ·have e : (zr g q (y5 g.pts[q] k)).pts[i]=g.pts[i]:=List.getElem_set_ne (by omega) _
   rw [e,afA (by decide) hiq]
   exact hp
theorem PkS.op {u : UnD} {n : Nat} {s : Gh} {bp capf capp : Nat} {cf cp : List Value} {vt vn : Value} {xt xn : List Value} {g : GrD} (h : PkS u n s bp capf capp cf cp vt vn xt xn g) {i : Nat} (hi : i<g.pts.length) : cp[i*21]? = some (.int .u8 g.pts[i].op):=by
 have hp:=h.pts.2 i hi
 rw [kU hi] at hp
 obtain ⟨_,_,_,_,_,e,_⟩:=hp
 have:=congrArg (fun l=>l[0]?) e
 simp only [List.getElem?_take,List.getElem?_drop,Nat.add_zero] at this
 simpa using this
theorem adi {u : UnD} {n q : Nat} {p : PtD} (h : J6 u) (hn : n<u.fs.length) (hp : p ∈ u.fs[n].pts) : J6 (zN u n (zr u.fs[n] q p)):=fun g hg=>by
 rcases List.mem_or_eq_of_mem_set hg with hg|rfl
 ·exact h g hg
 ·have h1:=h _ (List.getElem_mem hn)
  refine ⟨by simpa [zr] using h1.1,fun x hx=>?_⟩
  rcases List.mem_or_eq_of_mem_set hx with hx|rfl
  ·exact h1.2 x hx
  ·exact h1.2 _ hp
theorem adj {u : UnD} {g : GrD} {p : PtD} {k : Int} (h : zu u g p=true) (hk : 0≤k) : zu u g (y5 p k)=true:=by
 obtain ⟨_,h1,h2,h3⟩:=Zs h
 exact ade hk h1 h2 h3
theorem aed {u : UnD} {n a b : Nat} (hM : MayU u) (hn : n<u.fs.length) (ha : a<u.fs[n].pts.length) (hb : b<u.fs[n].pts.length) (hl : MayU (zN u n (zr u.fs[n] a u.fs[n].pts[b]))) :
  (ptT u.fs[n].pts[a] a == ptT u.fs[n].pts[b] a)=((kx u&&kx (zN u n (zr u.fs[n] a (y5 u.fs[n].pts[b] u.fs[n].pts[a].tx))))&&eqb u (zN u n (zr u.fs[n] a (y5 u.fs[n].pts[b] u.fs[n].pts[a].tx)))):=by
 have hpa:=hM.pts _ (List.getElem_mem hn) _ (List.getElem_mem ha)
 have hpb:=hM.pts _ (List.getElem_mem hn) _ (List.getElem_mem hb)
 have hl2 : MayU (zN u n (zr u.fs[n] a (y5 u.fs[n].pts[b] u.fs[n].pts[a].tx))):=by
  have hh:=(hl.hd (i:=n) (by simpa [zN] using hn)).loans
  have e : (zN u n (zr u.fs[n] a u.fs[n].pts[b])).fs[n]'(by simpa [zN] using hn)=zr u.fs[n] a u.fs[n].pts[b]:=List.getElem_set_self _
  rw [e] at hh
  refine Vz hM hn ?_ (adj hpb (Zs hpa).1)
  have e1 : ∀ m : List PtD,zJ m=(m.map PtD.op).countP fun k=>decide (k=4):=fun m=>by rw [List.countP_map];rfl
  have hh : zJ (u.fs[n].pts.set a u.fs[n].pts[b])≤256:=hh
  rw [e1,List.map_set] at hh ⊢
  exact hh
 rw [yY.2 hM,yY.2 hl2,Bool.true_and,Bool.true_and,Bool.eq_iff_iff,beq_iff_eq,xu]
 obtain ⟨oa1,oa2⟩:=QU hpa
 obtain ⟨ob1,ob2⟩:=QU hpb
 rw [aci hpa oa1 oa2 hpb ob1 ob2]
 constructor
 ·intro e
  have : y5 u.fs[n].pts[b] u.fs[n].pts[a].tx=u.fs[n].pts[a]:=by
   have e2:=congrArg (fun x=>y5 x u.fs[n].pts[a].tx) e
   exact e2.symm
  rw [this,zN,zr,List.set_getElem_self]
  rw [show (⟨u.fs[n].name,u.fs[n].lv,u.fs[n].outs,u.fs[n].pn,u.fs[n].tys,u.fs[n].nms,u.fs[n].pts⟩ : GrD)=u.fs[n] from rfl,List.set_getElem_self]
 ·intro e
  have e1 : u.fs[n]=zr u.fs[n] a (y5 u.fs[n].pts[b] u.fs[n].pts[a].tx):=by
   have h1:=congrArg (fun x=>x.fs[n]?) e
   simp only [zN,List.getElem?_set_self hn,List.getElem?_eq_getElem hn] at h1
   exact Option.some.inj h1
  have e2 : u.fs[n].pts[a]=y5 u.fs[n].pts[b] u.fs[n].pts[a].tx:=by
   have h1:=congrArg (fun x=>x.pts[a]?) e1
   simp only [zr,List.getElem?_set_self ha,List.getElem?_eq_getElem ha] at h1
   exact Option.some.inj h1
  have e3:=congrArg XN e2
  exact e3
end Go.Proofs
end
section
namespace Go.Proofs
open Go.Shelf
set_option maxRecDepth 100000
end Go.Proofs
end
section
namespace Go.Sh
open Go.RowKit
end Go.Sh
namespace Go.Proofs
open Go.Sh Go.RowKit
set_option maxRecDepth 100000
set_option linter.unusedSimpArgs false
set_option linter.unusedVariables false
variable {w0 w : World} {r : Gh} {L : List Asr} {X : Nat→Prop}
end Go.Proofs
end
section
namespace Go.Proofs
open Go.Sh
set_option maxRecDepth 100000
set_option linter.unusedSimpArgs false
set_option linter.unusedVariables false
end Go.Proofs
end
section
namespace Go.Proofs
open Go.Sh
set_option maxRecDepth 100000
set_option linter.unusedSimpArgs false
set_option linter.unusedVariables false
end Go.Proofs
end
section
namespace Go.Sh
end Go.Sh
namespace Go.Proofs
open Go.Sh
set_option maxRecDepth 100000
set_option linter.unusedSimpArgs false
set_option linter.unusedVariables false
end Go.Proofs
end
section
namespace Go.Proofs
open Go.Sh
set_option maxRecDepth 100000
set_option linter.unusedSimpArgs false
set_option linter.unusedVariables false
end Go.Proofs
end
section
namespace Go.Proofs
open Go.Sh
set_option maxRecDepth 100000
set_option linter.unusedSimpArgs false
set_option linter.unusedVariables false
theorem adk {u : UnD} {n : Int} {r : Gh} {qf : Option Addr} {capf : Nat} (hfn : SlB 7 r (GrG r) (.slice qf u.fs.length capf) u.fs) (hn0 : 0≤n) (hn1 : n<u.fs.length) :
  ∃ g bf of cf,qf=some ⟨bf,of,none⟩∧cf.length=7∧GrG r cf g∧(∀ j v,cf[j]? = some v→Ob r fun w=>w.cell? ⟨bf,of+n.toNat*7+j,none⟩=some v)∧u.fs[n.toNat]? = some g:=by
 have hlt : n.toNat<u.fs.length:=by omega
 obtain ⟨bf,of,cf,hE,hcf,hgc,hfo⟩:=hfn.sl.get (by decide) hlt
 exact ⟨u.fs[n.toNat],bf,of,cf,hE,hcf,hgc,hfo,List.getElem?_eq_getElem hlt⟩
end Go.Proofs
end
section
namespace Go.Proofs
open Go.Sh
set_option maxRecDepth 100000
set_option linter.unusedSimpArgs false
set_option linter.unusedVariables false
set_option maxHeartbeats 4000000 in
theorem Qc {u : UnD} {n a b : Int} {v : Value} {w : World} {r : Gh} {K : Value→World→Prop} (hT : TabZ r) (hr : Holds r w) (hu : UnG r v u) (hN : UnN u)
  (h : ∀ w',Ext w w'→K (.bool true) w') : zd Tryz.prog Tryz.vu #[v,.int .i64 n,.int .i64 a,.int .i64 b] w K:=by
 refine Tryz.Xk ?_
 unfold Tryz.vz
 have hu0:=hu
 obtain ⟨p0,cap0,vf,rfl,_,_,hst,hsl,hfn⟩:=hu
 obtain ⟨qf,capf,rfl,_,_⟩:=hfn.sl.shape
 have hfl : u.fs.length≤9223372036854775807:=hfn.few
 have hsl':=hsl
 have S:=St.start hr
 refine S.box fun b5 w1 S=>?_
 have S : StX noX w r w1 [.cell b5 [.slice p0 u.ss.length cap0,.slice qf u.fs.length capf,.int .i64 u.mn] 25]:=S
 refine S.ldB (b:=b5) ?_ rfl
 refine aaY S.holds hu0 fun c w3 e3 hfit=>?_
 have S:=S.go e3
 refine gp_ ?_
 refine xM (c:=!kx u) (fun _ K2 hK2=>?_) fun w5 e5=>?_
 ·refine S.ldB (b:=b5) ?_ rfl
  refine xD S.holds hu0 fun w5 e5=>?_
  refine gp_ ?_
  exact hK2 _ e5
 have S:=S.go e5
 refine zh (c:=decide (n<0)) (fun _ K2 hK2=>by refine gg_ ?_;exact hK2) ?_
 refine zh (c:=decide ((u.fs.length : Int)≤n)) (fun _ K2 hK2=>by refine gg_ ?_;exact hK2) ?_
 refine c_b (fun _=>qF hT S.holds fun w3 e3=>h _ (S.go e3).ext) (fun hgood=>?_)
 simp only [Bool.or_eq_false_iff,decide_eq_false_iff_not,Bool.not_eq_false'] at hgood
 obtain ⟨⟨⟨hcf,ab7⟩,hn0⟩,hn1⟩:=hgood
 have hM:=yY.1 ab7
 have hF:=hfit hcf
 have hFU:=aeV hM hN hF
 obtain ⟨g,bf,of,cf,rfl,hcf,hgc,hfo,hgi⟩:=adk hfn (n:=n) (by omega) (by omega)
 obtain ⟨x1,x2,x3,x4,y1,y2,y3,y4,rfl,hg0⟩:=qX hgc
 obtain ⟨_,_,_,_,hE,m1,m2,m3,m4⟩:=id hg0
 cases hE
 have hml : g.pts.length≤9223372036854775807:=m4.few
 have hlt : n.toNat<u.fs.length:=by omega
 have hge : u.fs[n.toNat]=g:=by rw [List.getElem?_eq_getElem hlt] at hgi;exact Option.some.inj hgi
 refine gg_ ?_
 refine zG (S.at (hfo 6 _ rfl)) ?_
 refine gg_ ?_
 refine zh (c:=decide (b<0)) (fun _ K2 hK2=>by refine gg_ ?_;exact hK2) ?_
 refine zh (c:=decide ((g.pts.length : Int)≤a)) (fun _ K2 hK2=>by refine gg_ ?_;exact hK2) ?_
 refine zh (c:=decide ((g.pts.length : Int)≤b)) (fun _ K2 hK2=>by refine gg_ ?_;exact hK2) ?_
 refine c_b (fun _=>qF hT S.holds fun w3 e3=>h _ (S.go e3).ext) (fun hgood=>?_)
 simp only [Bool.or_eq_false_iff,decide_eq_false_iff_not] at hgood
 obtain ⟨⟨⟨ha0,hb0⟩,ha1⟩,hb1⟩:=hgood
 have hal : a.toNat<g.pts.length:=by omega
 have hbl : b.toNat<g.pts.length:=by omega
 obtain ⟨bp,op,cp,hE,hcp,hpc,hpo⟩:=m4.sl.get (by decide) hal
 cases hE
 have hfE : fnE u n=0:=by rw [fnE,ab7,decide_eq_false (by omega),decide_eq_false (by omega)];rfl
 have hz : ptE u n a=0:=by rw [ptE,hgi,if_pos ⟨hfE,by omega,by simp only [Option.map_some,Option.getD_some];omega⟩]
 have hpA : kS u n a=some g.pts[a.toNat]:=by rw [kS,hgi,Option.bind_some,List.getElem?_eq_getElem hal]
 have htA : vL u n a=ptT g.pts[a.toNat] a:=by rw [vL,if_pos hz,hpA]
 have hgm : g ∈ u.fs:=List.mem_of_getElem? hgi
 have hpgb : zu u g g.pts[b.toNat]=true:=hM.pts g hgm _ (List.getElem_mem hbl)
 obtain ⟨z1,z2,z3,z4,z5,t1,t2,t3,t4,t5,hE,hp0⟩:=yU hpc
 subst hE
 refine S.ldB (b:=b5) ?_ rfl
 refine Qs (f:=n.toNat) S.holds hu0 (ace hM hF) hlt fun p3 cap3 vf3 xf s3 M w17 T hab hst3 hp3 hc3 hR3=>?_
 have S:=StX.join S T hab
 clear T
 have hzl : u.fs.zipIdx.length=u.fs.length:=by simp
 have hfew:=(ace hM hF).fs
 obtain ⟨hog1,hog2,hog3,hog4,hog5⟩:=(ace hM hF).gs g hgm
 have hpk : PkG s3 ((xf.drop (n.toNat*7)).take 7) g M:=by
  have h1:=(hR3.2 n.toNat (by rw [hzl];exact hlt)).1
  simp only [List.getElem_zipIdx,hge] at h1
  exact h1 (by omega)
 obtain ⟨vo,vt3,vn3,vp3,xt,xn,xp,hcme,hvo,rfl,hxt,hxn,hxp⟩:=hpk.ex
 obtain ⟨bf3,capf3,cf3,rfl,hcf1,hcf2,hcf3,T⟩:=StX.rowCell (L:=.row vf3 33 7 u.fs.length xf :: .row vp3 44 21 g.pts.length xp :: .row vt3 57 5 g.tys.length xt :: .row vn3 9 1 g.nms.length xn::_) S vf3 (by omega)
 repeat clear S
 obtain ⟨bp3,capp3,cp3,rfl,hcp1,hcp2,hcp3,S⟩:=T.rowCell vp3 (by omega)
 repeat clear T
 have hoth : ∀ (i : Nat) (h : i<u.fs.length),i≠n.toNat→GrG s3 ((cf3.drop (i*7)).take 7) u.fs[i]:=fun i hi hin=>by
  have h1:=(hR3.2 i (by rw [hzl];exact hi)).2
  simp only [List.getElem_zipIdx,Nat.zero_add] at h1
  have h1:=h1 hin
  rwa [← hcf3,kU hi] at h1
 rw [← hcf3,kU hlt] at hcme
 have P0 : PkS u n.toNat s3 bp3 capf3 capp3 cf3 cp3 vt3 vn3 xt xn g:=⟨hcf2,hcf1,hfew,hcp2,hcp1,hlt,hoth,⟨vo,hcme,hvo⟩,hxt,hxn,by rw [hcp3];exact hxp,by omega,by omega,by have:=hog5.1;omega⟩
 clear hR3 hoth hpk hxp hcp3 hcf3
 have hat : ∀ (c : List Value) (l : List Value) (j : Nat),(c.drop (n.toNat*7)).take 7=l→j<7→c[n.toNat*7+j]? = l[j]?:=fun c l j e hj=>by
  rw [← e,List.getElem?_take,if_pos hj,List.getElem?_drop]
 refine S.al fun b22 w18 S=>?_
 refine S.stB (b:=b22) fun w19 S=>?_
 have S:=S.go (Ext.drew _)
 have S : StX noX w (r.or s3) _ [.cell b22 [.slice p3 u.ss.length cap3,.slice (some ⟨bf3,0,none⟩) u.fs.length capf3,.int .i64 u.mn] 25,.cell bf3 cf3 33,.cell bp3 cp3 44,.row vt3 57 5 g.tys.length xt,.row vn3 9 1 g.nms.length xn,.cell b5 [.slice p0 u.ss.length cap0,.slice (some ⟨bf,of,none⟩) u.fs.length capf,.int .i64 u.mn] 25]:=S
 refine gg_ ?_
 refine S.ld (b:=bf3) ?_ (by rw [Nat.zero_add];exact hat _ _ 6 hcme (by decide))
 refine S.ldB (b:=b5) ?_ rfl
 refine Qs (f:=n.toNat) S.holds hu0.up (ace hM hF) hlt fun p5 cap5 vf5 xf5 s5 M5 w20 T hab5 hst5 hp5 hc5 hR5=>⟨T.x.ext,?_⟩
 have S:=StX.join S T hab5
 clear T
 have hpk5 : PkG s5 ((xf5.drop (n.toNat*7)).take 7) g M5:=by
  have h1:=(hR5.2 n.toNat (by rw [hzl];exact hlt)).1
  simp only [List.getElem_zipIdx,hge] at h1
  exact h1 (by omega)
 obtain ⟨vo5,vt5,vn5,vp5,xt5,xn5,xp5,hcme5,hvo5,hM5,hxt5,hxn5,hxp5⟩:=hpk5.ex
 rw [hM5] at S
 obtain ⟨s6,T,hs6,_,_⟩:=StX.doneRow S hR5 (by decide) hzl.symm
 repeat clear S
 obtain ⟨s7,S,hs7,_,_⟩:=StX.doneRow T hxp5 (by decide) rfl
 repeat clear T
 have S : StX noX w ((((r.or s3).or s5).or s6).or s7) w20 [.cell b22 [.slice p3 u.ss.length cap3,.slice (some ⟨bf3,0,none⟩) u.fs.length capf3,.int .i64 u.mn] 25,.cell bf3 cf3 33,.cell bp3 cp3 44,.row vt3 57 5 g.tys.length xt,.row vn3 9 1 g.nms.length xn,.cell b5 [.slice p0 u.ss.length cap0,.slice (some ⟨bf,of,none⟩) u.fs.length capf,.int .i64 u.mn] 25]:=S.tl.tl
 obtain ⟨qf5,capf5,rfl,_,_⟩:=hs6.shape
 obtain ⟨bf5,of5,cf5,rfl,hcl5,hgc5,hfo5⟩:=hs6.get (i:=n.toNat) (by decide) (by rw [hzl];exact hlt)
 have hgc5 : PkG s5 cf5 g M5:=by
  have h1:=hgc5.1
  simp only [List.getElem_zipIdx,hge] at h1
  exact h1 (by omega)
 obtain ⟨vo9,vt9,vn9,vp9,xt9,xn9,xp9,rfl,_,hM9,_,_,_⟩:=hgc5.ex
 have e9 : vp9=vp5:=by rw [hM5] at hM9;simp only [List.cons.injEq,Asr.row.injEq] at hM9;exact hM9.1.1.symm
 subst e9
 obtain ⟨qp5,capp5,rfl,_,_⟩:=hs7.shape
 obtain ⟨bp5,op5,cp5,rfl,hcp5,hpc5,hpo5⟩:=hs7.get (by decide) hbl
 rw [hzl]
 refine agr (k:=1) (v:=.slice (some ⟨bf5,of5,none⟩) u.fs.length capf5) (by kernel_rfl) rfl ?_
 refine gg_ ?_
 refine zG (S.at (hfo5 6 _ rfl)) ?_
 refine gg_ ?_
 refine zt (n:=21) hcp5 (fun j v hj=>S.at (hpo5 j v hj)) ?_
 have P1:=P0.put (s':=((r.or s3).or s5).or (s6.or s7)) hal hcp5 (PtG.up hpc5)
 have hle21 : 0+a.toNat*21+21≤cp3.length:=by have:=P0.plen;have:=P0.pcap;omega
 generalize hpb : g.pts[b.toNat]=pb at *
 obtain ⟨k1,k2,k3,k4,k5,j1,j2,j3,j4,j5,rfl,hpb0⟩:=yU hpc5
 refine gg_ ?_
 refine S.stN (b:=bp3) (fun w21 S=>?_) hle21
 generalize hcs : (cp3.take (a.toNat*21)++ptL pb k1 k2 k3 k4 k5 j1 j2 j3 j4 j5++cp3.drop (a.toNat*21+21))=cp1 at P1
 have S : StX noX w (((r.or s3).or s5).or (s6.or s7)) w21 [.cell b22 [.slice p3 u.ss.length cap3,.slice (some ⟨bf3,0,none⟩) u.fs.length capf3,.int .i64 u.mn] 25,.cell bf3 cf3 33,.cell bp3 cp1 44,.row vt3 57 5 g.tys.length xt,.row vn3 9 1 g.nms.length xn,.cell b5 [.slice p0 u.ss.length cap0,.slice (some ⟨bf,of,none⟩) u.fs.length capf,.int .i64 u.mn] 25]:=by
  have S:=S.to (((r.or s3).or s5).or (s6.or s7))
  rw [show 0+a.toNat*21=a.toNat*21 by omega] at S
  rw [← hcs]
  exact S
 clear hcs
 have hlp : (zr g a.toNat pb).pts.length=g.pts.length:=List.length_set
 obtain ⟨qq,hh,le,hsl1⟩:=P1.peek (S.drop b22)
 have hsf : (zN u n.toNat (zr g a.toNat pb)).fs.length=u.fs.length:=by simp [zN]
 refine S.ldB (b:=b22) ?_ rfl
 refine xD (u:=zN u n.toNat (zr g a.toNat pb)) hh ⟨p3,cap3,_,rfl,hp3,hc3,StG.up (l:=⟨fun b o h=>le.le b o (.inl (.inl (.inr h)))⟩) hst3,hsl',hsl1⟩ fun w22 e22=>?_
 have T:=S.go e22
 repeat clear S
 have S:=T
 clear T
 refine gp_ ?_
 refine c_b (fun hbad=>?_) (fun hgd=>?_)
 ·have hb0 : kx (zN u n.toNat (zr g a.toNat pb))=false:=by simpa using hbad
  have h256 : 256<zJ (zr g a.toNat pb).pts:=by
   refine Nat.lt_of_not_le fun hle=>?_
   have:=Vz (q:=a.toNat) (p:=pb) hM hlt (by simp only [hge];exact hle) (by simpa only [hge] using hpgb)
   rw [hge] at this
   rw [yY.2 this] at hb0
   cases hb0
  refine zk (ι:=Nat) (fun i=>[.int .i64 (zJ ((zr g a.toNat pb).pts.take i) : Nat),.int .i64 (i : Nat)]) (fun i w'=>i≤g.pts.length∧StX noX w (((r.or s3).or s5).or (s6.or s7)) w' [.cell b22 [.slice p3 u.ss.length cap3,.slice (some ⟨bf3,0,none⟩) u.fs.length capf3,.int .i64 u.mn] 25,.cell bf3 cf3 33,.cell bp3 cp1 44,.row vt3 57 5 g.tys.length xt,.row vn3 9 1 g.nms.length xn,.cell b5 [.slice p0 u.ss.length cap0,.slice (some ⟨bf,of,none⟩) u.fs.length capf,.int .i64 u.mn] 25]) (fun i=>g.pts.length - i) 0 (by rfl) ⟨Nat.zero_le _,S⟩ ?_
  repeat clear S
  rintro i d w23 ⟨hi,S⟩ K36 hK36
  simp only [List.getD_cons_zero,List.getD_cons_succ]
  refine gg_ ?_
  refine zg (fun hlt2=>?_) (fun hge2=>?_)
  ·have hlt2 : i<g.pts.length:=by omega
   have hop:=P1.op (i:=i) (by omega)
   have htk : zJ ((zr g a.toNat pb).pts.take (i+1))=zJ ((zr g a.toNat pb).pts.take i)+(if (zr g a.toNat pb).pts[i].op=4 then 1 else 0):=by
    rw [List.take_succ_eq_append_getElem (by omega),zJ,zJ,List.countP_append,List.countP_singleton]
    simp
   have hln : zJ ((zr g a.toNat pb).pts.take i)≤i:=Nat.le_trans List.countP_le_length (by rw [List.length_take];omega)
   refine zA (fun s w'=>s = [.int .i64 (zJ ((zr g a.toNat pb).pts.take (i+1)) : Nat)]∧StX noX w (((r.or s3).or s5).or (s6.or s7)) w' [.cell b22 [.slice p3 u.ss.length cap3,.slice (some ⟨bf3,0,none⟩) u.fs.length capf3,.int .i64 u.mn] 25,.cell bf3 cf3 33,.cell bp3 cp1 44,.row vt3 57 5 g.tys.length xt,.row vn3 9 1 g.nms.length xn,.cell b5 [.slice p0 u.ss.length cap0,.slice (some ⟨bf,of,none⟩) u.fs.length capf,.int .i64 u.mn] 25]) (fun K40 hK40=>?_) ?_
   ·refine gg_ ?_
    refine S.ld (b:=bf3) ?_ (by rw [Nat.zero_add];exact hat _ _ 6 hcme (by decide))
    refine gg_ ?_
    refine S.ld (b:=bp3) ?_ (by rw [show 0+((i : Nat) : Int).toNat*21=i*21 by omega];exact hop)
    refine gg_ ?_
    refine zg (fun h4=>?_) (fun h4=>?_)
    ·refine gg_ ?_
     refine hK40 _ _ ⟨?_,S⟩
     rw [htk,if_pos h4];simp
    ·refine hK40 _ _ ⟨?_,S⟩
     rw [htk,if_neg h4];simp
   ·rintro s w24 ⟨rfl,S⟩ d
    simp only [List.getD_cons_zero]
    refine gg_ ?_
    exact hK36 (i+1) _ ⟨hlt2,S⟩ (by omega)
  have hie : i=g.pts.length:=by omega
  subst hie
  rw [List.take_of_length_le (by omega)]
  clear hK36
  have hln : zJ (zr g a.toNat pb).pts≤g.pts.length:=Nat.le_trans List.countP_le_length (by omega)
  refine gg_ ?_
  rw [decide_eq_true (show (256 : Int)<(zJ (zr g a.toNat pb).pts : Nat) by omega)]
  refine zm (c:=true) (fun _ K2 hK2=>?_) fun w25 e25=>?_
  ·exact qF hT.up S.holds fun w26 e26=>hK2 _ e26
  simpa using h _ (S.go e25).ext
 have hM1 : MayU (zN u n.toNat (zr g a.toNat pb)):=yY.1 (by simpa using hgd)
 have hTr : TabZ (((r.or s3).or s5).or (s6.or s7)):=hT.up
 have hFU1 : J6 (zN u n.toNat (zr g a.toNat pb)):=by
  have:=adi (q:=a.toNat) (p:=pb) hFU hlt (by rw [hge,← hpb];exact List.getElem_mem hbl)
  rwa [hge] at this
 have hget1 : (zN u n.toNat (zr g a.toNat pb)).fs[n.toNat]? = some (zr g a.toNat pb):=by
  rw [zN,List.getElem?_set_self hlt]
 have hfE1 : fnE (zN u n.toNat (zr g a.toNat pb)) n=0:=by rw [fnE,yY.2 hM1,hsf,decide_eq_false (by omega),decide_eq_false (by omega)];rfl
 have hz1 : ptE (zN u n.toNat (zr g a.toNat pb)) n a=0:=by rw [ptE,hget1,if_pos ⟨hfE1,by omega,by simp only [Option.map_some,Option.getD_some];omega⟩]
 have hpB : kS (zN u n.toNat (zr g a.toNat pb)) n a=some pb:=by
  rw [kS,hget1,Option.bind_some,zr,List.getElem?_set_self hal]
 have htB : vL (zN u n.toNat (zr g a.toNat pb)) n a=ptT pb a:=by rw [vL,if_pos hz1,hpB]
 refine S.ldB (b:=b5) ?_ rfl
 refine Zo hTr S.holds hu0.up (fun _=>hFU) fun w23 e23=>?_
 have T:=S.go e23
 repeat clear S
 have S:=T
 clear T
 rw [htA,hz]
 refine gS_ ?_
 obtain ⟨qq2,hh2,le2,hsl2⟩:=P1.peek (S.drop b22)
 refine S.ldB (b:=b22) ?_ rfl
 refine Zo (u:=zN u n.toNat (zr g a.toNat pb)) (TabZ.up (l:=⟨fun b o h=>le2.le b o (.inl (.inl (.inl h)))⟩) hT) hh2 ⟨p3,cap3,_,rfl,hp3,hc3,StG.up (l:=⟨fun b o h=>le2.le b o (.inl (.inl (.inr h)))⟩) hst3,hsl',hsl2⟩ (fun _=>hFU1) fun w24 e24=>?_
 have T:=S.go e24
 repeat clear S
 have S:=T
 clear T
 rw [htB,hz1]
 refine gS_ ?_
 refine zh (c:=false) (fun _ K2 hK2=>by refine gg_ ?_;exact hK2) ?_
 refine c_f (by rfl) ?_
 have S:=S.go (Ext.drew _)
 refine gg_ ?_
 refine S.ld (b:=bf3) ?_ (by rw [Nat.zero_add];exact hat _ _ 6 hcme (by decide))
 refine gg_ ?_
 refine zG (S.at (hfo 6 _ rfl)) ?_
 refine gg_ ?_
 refine zG (S.at (hpo 20 _ rfl)) ?_
 refine gg_ ?_
 have hl20 : 0+a.toNat*21+20<cp1.length:=by have:=P1.plen;have:=P1.pcap;omega
 refine S.st (b:=bp3) (fun w25 S=>?_) hl20
 have hspt : (zr g a.toNat pb).pts[a.toNat]'(by omega)=pb:=List.getElem_set_self _
 have P2:=P1.tx (q:=a.toNat) (k:=g.pts[a.toNat].tx) (by omega)
 rw [hspt] at P2
 have hss : zr (zr g a.toNat pb) a.toNat (y5 pb g.pts[a.toNat].tx)=zr g a.toNat (y5 pb g.pts[a.toNat].tx):=by simp [zr]
 rw [hss] at P2
 rw [show 0+a.toNat*21+20=a.toNat*21+20 by omega] at S
 have S : StX noX w (((r.or s3).or s5).or (s6.or s7)) w25 [.cell b22 [.slice p3 u.ss.length cap3,.slice (some ⟨bf3,0,none⟩) u.fs.length capf3,.int .i64 u.mn] 25,.cell bf3 cf3 33,.cell bp3 (cp1.set (a.toNat*21+20) (.int .i64 g.pts[a.toNat].tx)) 44,.row vt3 57 5 g.tys.length xt,.row vn3 9 1 g.nms.length xn,.cell b5 [.slice p0 u.ss.length cap0,.slice (some ⟨bf,of,none⟩) u.fs.length capf,.int .i64 u.mn] 25]:=S
 refine gg_ ?_
 obtain ⟨qq3,hh3,le3,hsl3⟩:=P2.peek (S.drop b22)
 refine XH (a:=u) (b:=zN u n.toNat (zr g a.toNat (y5 pb g.pts[a.toNat].tx))) hh3 (UnG.up (l:=⟨fun b o h=>le3.le b o (.inl (.inl (.inl h)))⟩) hu0) ⟨p3,cap3,_,rfl,hp3,hc3,StG.up (l:=⟨fun b o h=>le3.le b o (.inl (.inl (.inr h)))⟩) hst3,hsl',hsl3⟩ fun w26 e26=>?_
 have hlaw:=aed (a:=a.toNat) (b:=b.toNat) hM hlt (by rw [hge];exact hal) (by rw [hge];exact hbl) (by simp only [hge,hpb];exact hM1)
 simp only [hge,hpb] at hlaw
 rw [Int.toNat_of_nonneg (show 0≤a by omega)] at hlaw
 rw [← hlaw]
 have S:=S.go e26
 refine gg_ ?_
 refine zm (c:=true) (fun _ K2 hK2=>?_) fun w27 e27=>?_
 ·exact qF hTr S.holds fun w28 e28=>hK2 _ e28
 simpa using h _ (S.go e27).ext
end Go.Proofs
end
section
namespace Go.Proofs.YtngfnikkdhbajaaGreatDoor.openG
open Go.Sh Go.ChangeShapes Go.WideShapes Go.ChangeAt Go.RowKit
set_option maxRecDepth 100000
set_option linter.unusedSimpArgs false
set_option linter.unusedVariables false
theorem own : ownKnob Tryz.prog.godebug=none:=by kernel_rfl
theorem aeX : laidOutB Tryz.prog=true:=by kernel_rfl
theorem af9 : mapsRowed Tryz.prog=true:=by kernel_rfl
theorem ags : ((List.range Tryz.prog.types.size).all fun t=>match Tryz.prog.underlying t with|some (.slice e)=>decide (0<Tryz.prog.cellsOf e)|_=>true)=true:=by kernel_rfl
theorem kg : Tryz.prog.underlying 3=some (.int .i64):=by kernel_rfl
theorem afD : Tryz.prog.underlying 2=some (.int .i64):=by kernel_rfl
theorem afE : Tryz.prog.underlying 138=some (.int .i64):=by kernel_rfl
theorem acj : Tryz.prog.underlying 4=some .bool:=by kernel_rfl
theorem agt : Tryz.prog.underlying 9=some .string:=by kernel_rfl
theorem uTk : Tryz.prog.underlying 55=some (.int .u8):=by kernel_rfl
theorem uOk : Tryz.prog.underlying 39=some (.int .u8):=by kernel_rfl
theorem uPo : Tryz.prog.underlying 35=some (.int .u8):=by kernel_rfl
theorem sTy : Tryz.prog.underlying 29=some (.slice 57)∧Tryz.prog.cellsOf 57=5:=⟨by kernel_rfl,by kernel_rfl⟩
theorem sFd : Tryz.prog.underlying 82=some (.slice 86)∧Tryz.prog.cellsOf 86=6:=⟨by kernel_rfl,by kernel_rfl⟩
theorem sSt : Tryz.prog.underlying 22=some (.slice 84)∧Tryz.prog.cellsOf 84=2:=⟨by kernel_rfl,by kernel_rfl⟩
theorem sGr : Tryz.prog.underlying 23=some (.slice 33)∧Tryz.prog.cellsOf 33=7:=⟨by kernel_rfl,by kernel_rfl⟩
theorem sOu : Tryz.prog.underlying 28=some (.slice 101)∧Tryz.prog.cellsOf 101=2:=⟨by kernel_rfl,by kernel_rfl⟩
theorem sSs : Tryz.prog.underlying 30=some (.slice 9)∧Tryz.prog.cellsOf 9=1:=⟨by kernel_rfl,by kernel_rfl⟩
theorem sPt : Tryz.prog.underlying 31=some (.slice 44)∧Tryz.prog.cellsOf 44=21:=⟨by kernel_rfl,by kernel_rfl⟩
theorem sOp : Tryz.prog.underlying 42=some (.slice 41)∧Tryz.prog.cellsOf 41=4:=⟨by kernel_rfl,by kernel_rfl⟩
theorem sSp : Tryz.prog.underlying 36=some (.slice 138)∧Tryz.prog.cellsOf 138=1:=⟨by kernel_rfl,by kernel_rfl⟩
theorem aTy : ∃ fs,Tryz.prog.underlying 57=some (.struct fs)∧fs.toList.map (·.type) = [55,4,3,3,29]:=xy (by kernel_rfl)
theorem aFd : ∃ fs,Tryz.prog.underlying 86=some (.struct fs)∧fs.toList.map (·.type) = [9,57]:=xy (by kernel_rfl)
theorem aSt : ∃ fs,Tryz.prog.underlying 84=some (.struct fs)∧fs.toList.map (·.type) = [9,82]:=xy (by kernel_rfl)
theorem aPl : ∃ fs,Tryz.prog.underlying 38=some (.struct fs)∧fs.toList.map (·.type) = [3,36]:=xy (by kernel_rfl)
theorem aOp : ∃ fs,Tryz.prog.underlying 41=some (.struct fs)∧fs.toList.map (·.type) = [39,2,38]:=xy (by kernel_rfl)
theorem aPt : ∃ fs,Tryz.prog.underlying 44=some (.struct fs)∧fs.toList.map (·.type) = [35,38,41,41,42,9,38,4,3,3,3,3,3]:=xy (by kernel_rfl)
theorem aOu : ∃ fs,Tryz.prog.underlying 101=some (.struct fs)∧fs.toList.map (·.type) = [3,3]:=xy (by kernel_rfl)
theorem aGr : ∃ fs,Tryz.prog.underlying 33=some (.struct fs)∧fs.toList.map (·.type) = [9,3,28,3,29,30,31]:=xy (by kernel_rfl)
theorem aUn : ∃ fs,Tryz.prog.underlying 25=some (.struct fs)∧fs.toList.map (·.type) = [22,23,3]:=xy (by kernel_rfl)
theorem aeY : acM Tryz.prog [25,22,84,82,86,9,57,55,4,3,29,23,33,28,101,30,31,44,35,
 38,36,138,41,39,2,42]=true:=by kernel_rfl
theorem jR {α : Type} {f : α→Dat} {G : α→Prop} {d : Dat} {T e : TypeId} {n : Nat} (u : Tryz.prog.underlying T=some (.slice e)∧Tryz.prog.cellsOf e=n) (h : d.ok Tryz.prog T) (hf : ∀ x : Dat,SizeOf.sizeOf x<SizeOf.sizeOf d→x.ok Tryz.prog e→∃ t,x=f t∧G t) :
  ∃ l : List α,d = .sl n (l.map f)∧l.length≤maxLen∧∀ t ∈ l,G t:=by
 obtain ⟨es,rfl,hl,hk⟩:=acN u.1 h
 obtain ⟨l,rfl,hg⟩:=aaE (f:=f) (G:=G) es fun x hx=>hf x (by
  have:=List.sizeOf_lt_of_mem hx
  simp only [Dat.sl.sizeOf_spec];omega) (hk x hx)
 exact ⟨l,by rw [u.2],by simpa using hl,hg⟩
theorem aga : ∀ (n : Nat) (d : Dat),SizeOf.sizeOf d≤n→d.ok Tryz.prog 57→∃ t : TyD,d=t.dat:=by
 intro n
 induction n with
 |zero=>intro d h _;cases d<;>simp at h
 |succ n ih=>
  intro d hs h
  obtain ⟨ds,rfl,e0⟩:=yS aTy h
  obtain ⟨d0,ds,rfl,h0,e1⟩:=zf e0
  obtain ⟨d1,ds,rfl,h1,e2⟩:=zf e1
  obtain ⟨d2,ds,rfl,h2,e3⟩:=zf e2
  obtain ⟨d3,ds,rfl,h3,e4⟩:=zf e3
  obtain ⟨d4,ds,rfl,h4,e5⟩:=zf e4
  obtain rfl:=kZ e5
  obtain ⟨k,rfl,_⟩:=z7 uTk h0
  obtain ⟨m,rfl⟩:=aaD acj h1
  obtain ⟨re,rfl,_⟩:=z7 kg h2
  obtain ⟨st,rfl,_⟩:=z7 kg h3
  obtain ⟨l,rfl,_,_⟩:=jR (f:=TyD.dat) (G:=fun _=>True) sTy h4 fun x hx hk=>by
   obtain ⟨t,ht⟩:=ih x (by
    simp only [Dat.agg.sizeOf_spec,List.cons.sizeOf_spec] at hs
    omega) hk
   exact ⟨t,ht,trivial⟩
  exact ⟨.mk k m re st l,by rw [TyD.dat,TyD.dats_map]⟩
theorem adl {d : Dat} (h : d.ok Tryz.prog 57) : ∃ t : TyD,d=t.dat∧True:=by
 obtain ⟨t,ht⟩:=aga _ d (Nat.le_refl _) h
 exact ⟨t,ht,trivial⟩
theorem XO {d : Dat} (h : d.ok Tryz.prog 9) : ∃ s : ByteArray,d = .str s∧True:=by
 obtain ⟨s,hs,_⟩:=aeC agt h
 exact ⟨s,hs,trivial⟩
theorem abL {n : Int} (h : (Lit.int .i64 n).wf=true) : yC n:=by have:=acO h;exact ⟨this.1,by omega⟩
theorem afF {d : Dat} (h : d.ok Tryz.prog 138) : ∃ n : Int,d=Dat.int .i64 n∧yC n:=by
 obtain ⟨n,hn,hw⟩:=z7 afE h
 exact ⟨n,hn,abL hw⟩
theorem agb {d : Dat} (h : d.ok Tryz.prog 86) : ∃ f : ByteArray × TyD,d=JW f∧True:=by
 obtain ⟨ds,rfl,e0⟩:=yS aFd h
 obtain ⟨d0,ds,rfl,h0,e1⟩:=zf e0
 obtain ⟨d1,ds,rfl,h1,e2⟩:=zf e1
 obtain rfl:=kZ e2
 obtain ⟨s,rfl,_⟩:=XO h0
 obtain ⟨t,rfl,_⟩:=adl h1
 exact ⟨(s,t),rfl,trivial⟩
theorem agc {d : Dat} (h : d.ok Tryz.prog 84) : ∃ s : StD,d=s.dat∧True:=by
 obtain ⟨ds,rfl,e0⟩:=yS aSt h
 obtain ⟨d0,ds,rfl,h0,e1⟩:=zf e0
 obtain ⟨d1,ds,rfl,h1,e2⟩:=zf e1
 obtain rfl:=kZ e2
 obtain ⟨s,rfl,_⟩:=XO h0
 obtain ⟨l,rfl,_,_⟩:=jR (f:=JW) (G:=fun _=>True) sFd h1 fun x _ hk=>agb hk
 exact ⟨⟨s,l⟩,rfl,trivial⟩
theorem ack {d : Dat} (h : d.ok Tryz.prog 38) : ∃ p : PlD,d=p.dat∧p.ok:=by
 obtain ⟨ds,rfl,e0⟩:=yS aPl h
 obtain ⟨d0,ds,rfl,h0,e1⟩:=zf e0
 obtain ⟨d1,ds,rfl,h1,e2⟩:=zf e1
 obtain rfl:=kZ e2
 obtain ⟨n,rfl,_⟩:=z7 kg h0
 obtain ⟨l,rfl,hl,hg⟩:=jR (f:=Dat.int .i64) (G:=yC) sSp h1 fun x _ hk=>afF hk
 exact ⟨⟨n,l⟩,rfl,hl,hg⟩
theorem acl {d : Dat} (h : d.ok Tryz.prog 41) : ∃ o : OpD,d=o.dat∧o.ok:=by
 obtain ⟨ds,rfl,e0⟩:=yS aOp h
 obtain ⟨d0,ds,rfl,h0,e1⟩:=zf e0
 obtain ⟨d1,ds,rfl,h1,e2⟩:=zf e1
 obtain ⟨d2,ds,rfl,h2,e3⟩:=zf e2
 obtain rfl:=kZ e3
 obtain ⟨k,rfl,_⟩:=z7 uOk h0
 obtain ⟨n,rfl,_⟩:=z7 afD h1
 obtain ⟨p,rfl,hp⟩:=ack h2
 exact ⟨⟨k,n,p⟩,rfl,hp⟩
theorem agd {d : Dat} (h : d.ok Tryz.prog 44) : ∃ p : PtD,d=p.dat∧p.ok:=by
 obtain ⟨ds,rfl,e0⟩:=yS aPt h
 obtain ⟨d0,ds,rfl,h0,e1⟩:=zf e0
 obtain ⟨d1,ds,rfl,h1,e2⟩:=zf e1
 obtain ⟨d2,ds,rfl,h2,e3⟩:=zf e2
 obtain ⟨d3,ds,rfl,h3,e4⟩:=zf e3
 obtain ⟨d4,ds,rfl,h4,e5⟩:=zf e4
 obtain ⟨d5,ds,rfl,h5,e6⟩:=zf e5
 obtain ⟨d6,ds,rfl,h6,e7⟩:=zf e6
 obtain ⟨d7,ds,rfl,h7,e8⟩:=zf e7
 obtain ⟨d8,ds,rfl,h8,e9⟩:=zf e8
 obtain ⟨d9,ds,rfl,h9,e10⟩:=zf e9
 obtain ⟨d10,ds,rfl,h10,e11⟩:=zf e10
 obtain ⟨d11,ds,rfl,h11,e12⟩:=zf e11
 obtain ⟨d12,ds,rfl,h12,e13⟩:=zf e12
 obtain rfl:=kZ e13
 obtain ⟨op,rfl,_⟩:=z7 uPo h0
 obtain ⟨to,rfl,g1⟩:=ack h1
 obtain ⟨a,rfl,g2⟩:=acl h2
 obtain ⟨b,rfl,g3⟩:=acl h3
 obtain ⟨l,rfl,hl,g4⟩:=jR (f:=OpD.dat) (G:=OpD.ok) sOp h4 fun x _ hk=>acl hk
 obtain ⟨s,rfl,_⟩:=XO h5
 obtain ⟨fr,rfl,g6⟩:=ack h6
 obtain ⟨mu,rfl⟩:=aaD acj h7
 obtain ⟨fn,rfl,_⟩:=z7 kg h8
 obtain ⟨st,rfl,_⟩:=z7 kg h9
 obtain ⟨nx,rfl,_⟩:=z7 kg h10
 obtain ⟨el,rfl,_⟩:=z7 kg h11
 obtain ⟨tx,rfl,_⟩:=z7 kg h12
 exact ⟨⟨op,to,a,b,l,s,fr,mu,fn,st,nx,el,tx⟩,rfl,g1,g2,g3,⟨hl,g4⟩,g6⟩
theorem age {d : Dat} (h : d.ok Tryz.prog 101) : ∃ x : Int × Int,d=ab1 x∧True:=by
 obtain ⟨ds,rfl,e0⟩:=yS aOu h
 obtain ⟨d0,ds,rfl,h0,e1⟩:=zf e0
 obtain ⟨d1,ds,rfl,h1,e2⟩:=zf e1
 obtain rfl:=kZ e2
 obtain ⟨a,rfl,_⟩:=z7 kg h0
 obtain ⟨b,rfl,_⟩:=z7 kg h1
 exact ⟨(a,b),rfl,trivial⟩
theorem agf {d : Dat} (h : d.ok Tryz.prog 33) : ∃ g : GrD,d=g.dat∧g.ok:=by
 obtain ⟨ds,rfl,e0⟩:=yS aGr h
 obtain ⟨d0,ds,rfl,h0,e1⟩:=zf e0
 obtain ⟨d1,ds,rfl,h1,e2⟩:=zf e1
 obtain ⟨d2,ds,rfl,h2,e3⟩:=zf e2
 obtain ⟨d3,ds,rfl,h3,e4⟩:=zf e3
 obtain ⟨d4,ds,rfl,h4,e5⟩:=zf e4
 obtain ⟨d5,ds,rfl,h5,e6⟩:=zf e5
 obtain ⟨d6,ds,rfl,h6,e7⟩:=zf e6
 obtain rfl:=kZ e7
 obtain ⟨s,rfl,_⟩:=XO h0
 obtain ⟨lv,rfl,_⟩:=z7 kg h1
 obtain ⟨lo,rfl,g2,_⟩:=jR (f:=ab1) (G:=fun _=>True) sOu h2 fun x _ hk=>age hk
 obtain ⟨pn,rfl,_⟩:=z7 kg h3
 obtain ⟨lt,rfl,g4,_⟩:=jR (f:=TyD.dat) (G:=fun _=>True) sTy h4 fun x _ hk=>adl hk
 obtain ⟨ln,rfl,g5,_⟩:=jR (f:=Dat.str) (G:=fun _=>True) sSs h5 fun x _ hk=>XO hk
 obtain ⟨lp,rfl,g6,hp⟩:=jR (f:=PtD.dat) (G:=PtD.ok) sPt h6 fun x _ hk=>agd hk
 exact ⟨⟨s,lv,lo,pn,lt,ln,lp⟩,rfl,g2,g4,g5,g6,hp⟩
theorem agh {d : Dat} (h : d.ok Tryz.prog 25) : ∃ u : UnD,d=u.dat∧u.ok:=by
 obtain ⟨ds,rfl,e0⟩:=yS aUn h
 obtain ⟨d0,ds,rfl,h0,e1⟩:=zf e0
 obtain ⟨d1,ds,rfl,h1,e2⟩:=zf e1
 obtain ⟨d2,ds,rfl,h2,e3⟩:=zf e2
 obtain rfl:=kZ e3
 obtain ⟨ss,rfl,g0,_⟩:=jR (f:=StD.dat) (G:=fun _=>True) sSt h0 fun x _ hk=>agc hk
 obtain ⟨fs,rfl,g1,hg⟩:=jR (f:=GrD.dat) (G:=GrD.ok) sGr h1 fun x _ hk=>agf hk
 obtain ⟨mn,rfl,_⟩:=z7 kg h2
 exact ⟨⟨ss,fs,mn⟩,rfl,g0,g1,hg⟩
section
variable {H : Type} {enc : TypeId × Value→H} {W : World} {base : Nat} {v : Value} {d : DataW H} {p : List MemPlace}
theorem QV (hv : Value.okWide Tryz.prog W .any base 3 v) (h : DataW.Trod enc Tryz.prog W 0 (fun _=>true) true 3 v d p) : ∃ n : Int,v = .int .i64 n∧-9223372036854775808≤n∧n≤9223372036854775807:=by
 obtain ⟨n,rfl,_,_,hw⟩:=open_int kg hv h
 exact ⟨n,rfl,acO hw⟩
end
end Go.Proofs.YtngfnikkdhbajaaGreatDoor.openG
end
section
namespace Go.Proofs.YtngfnikkdhbajaaGreatDoor.openG
open Go.Sh Go.ChangeShapes Go.WideShapes Go.ChangeAt Go.RowKit
set_option maxRecDepth 100000
set_option linter.unusedSimpArgs false
set_option linter.unusedVariables false
theorem Zv {x : Int} {t : TypeId} (u : Tryz.prog.underlying t=some (.int .i64)) (h : (Dat.int .i64 x).ok Tryz.prog t) : yC x:=by
 obtain ⟨n,hn,hw⟩:=z7 u h
 cases hn
 exact abL hw
theorem JB {α : Type} {f : α→Dat} {n : Nat} {T e : TypeId} {l : List α} (u : Tryz.prog.underlying T=some (.slice e)) (h : (Dat.sl n (l.map f)).ok Tryz.prog T) : ∀ x ∈ l,(f x).ok Tryz.prog e:=fun x hx=>by
 obtain ⟨es,hE,_,hs⟩:=acN u h
 injection hE with _ hE
 exact hs _ (hE ▸ List.mem_map_of_mem hx)
theorem aba {p : PlD} (h : p.dat.ok Tryz.prog 38) : PlN p:=by
 unfold PlD.dat at h
 obtain ⟨ds,hE,e0⟩:=yS aPl h
 cases hE
 obtain ⟨d0,ds,hE,h0,e1⟩:=zf e0
 cases hE
 obtain ⟨d1,ds,hE,h1,e2⟩:=zf e1
 cases hE
 exact ⟨Zv kg h0,fun k hk=>Zv afE (JB sSp.1 h1 k hk)⟩
theorem abb {o : OpD} (h : o.dat.ok Tryz.prog 41) : OpN o:=by
 unfold OpD.dat at h
 obtain ⟨ds,hE,e0⟩:=yS aOp h
 cases hE
 obtain ⟨d0,ds,hE,h0,e1⟩:=zf e0
 cases hE
 obtain ⟨d1,ds,hE,h1,e2⟩:=zf e1
 cases hE
 obtain ⟨d2,ds,hE,h2,e3⟩:=zf e2
 cases hE
 exact ⟨Zv afD h1,aba h2⟩
theorem afG {p : PtD} (h : p.dat.ok Tryz.prog 44) : PtN p:=by
 unfold PtD.dat at h
 obtain ⟨ds,hE,e0⟩:=yS aPt h
 cases hE
 obtain ⟨d0,ds,hE,h0,e1⟩:=zf e0
 cases hE
 obtain ⟨d1,ds,hE,h1,e2⟩:=zf e1
 cases hE
 obtain ⟨d2,ds,hE,h2,e3⟩:=zf e2
 cases hE
 obtain ⟨d3,ds,hE,h3,e4⟩:=zf e3
 cases hE
 obtain ⟨d4,ds,hE,h4,e5⟩:=zf e4
 cases hE
 obtain ⟨d5,ds,hE,h5,e6⟩:=zf e5
 cases hE
 obtain ⟨d6,ds,hE,h6,e7⟩:=zf e6
 cases hE
 obtain ⟨d7,ds,hE,h7,e8⟩:=zf e7
 cases hE
 obtain ⟨d8,ds,hE,h8,e9⟩:=zf e8
 cases hE
 obtain ⟨d9,ds,hE,h9,e10⟩:=zf e9
 cases hE
 obtain ⟨d10,ds,hE,h10,e11⟩:=zf e10
 cases hE
 obtain ⟨d11,ds,hE,h11,e12⟩:=zf e11
 cases hE
 exact ⟨aba h1,abb h2,abb h3,fun o ho=>abb (JB sOp.1 h4 o ho),aba h6,Zv kg h8,Zv kg h9,Zv kg h10,Zv kg h11⟩
theorem afH {u : UnD} (h : u.dat.ok Tryz.prog 25) : UnN u:=fun g hg p hp=>by
 unfold UnD.dat at h
 obtain ⟨ds,hE,e0⟩:=yS aUn h
 cases hE
 obtain ⟨d0,ds,hE,h0,e1⟩:=zf e0
 cases hE
 obtain ⟨d1,ds,hE,h1,e2⟩:=zf e1
 cases hE
 have k:=JB sGr.1 h1 g hg
 unfold GrD.dat at k
 obtain ⟨ds,hE,e0⟩:=yS aGr k
 cases hE
 obtain ⟨c0,ds,hE,g0,e1⟩:=zf e0
 cases hE
 obtain ⟨c1,ds,hE,g1,e2⟩:=zf e1
 cases hE
 obtain ⟨c2,ds,hE,g2,e3⟩:=zf e2
 cases hE
 obtain ⟨c3,ds,hE,g3,e4⟩:=zf e3
 cases hE
 obtain ⟨c4,ds,hE,g4,e5⟩:=zf e4
 cases hE
 obtain ⟨c5,ds,hE,g5,e6⟩:=zf e5
 cases hE
 obtain ⟨c6,ds,hE,g6,e7⟩:=zf e6
 cases hE
 exact afG (JB sPt.1 g6 p hp)
section
variable {H : Type} {enc : TypeId × Value→H} {W : World} {base : Nat} {v : Value} {d : DataW H} {p : List MemPlace}
theorem aee (hv : Value.okWide Tryz.prog W .any base 25 v) (h : DataW.Trod enc Tryz.prog W 0 (fun _=>true) true 25 v d p) : ∃ u : UnD,UnG (all W) v u∧UnN u:=by
 obtain ⟨fs,hu,_⟩:=aUn
 obtain ⟨cs,rfl,hsz⟩:=okWide_struct hu hv
 obtain ⟨fuel,hf⟩:=h
 obtain ⟨d,hr,hd⟩:=ZZ aeY fuel 25 _ _ (by simp) hf
 obtain ⟨u,rfl,hk⟩:=agh hd
 exact ⟨u,by simpa [Value.cells] using acR hr hk,afH hd⟩
end
theorem afI : Tryz.prog.globalNamed "internal/strconv.uint64pow10" = some 0 := by kernel_rfl
theorem aef : (Tryz.prog.globals[0]?).map (·.type)=some 231:=by kernel_rfl
theorem agi : Tryz.prog.underlying 231=some (.array 20 185):=by kernel_rfl
theorem agj : Tryz.prog.underlying 185=some (.int .u64):=by kernel_rfl
theorem adm : Tryz.prog.cellsOf 231=20:=by kernel_rfl
theorem adn : Tryz.prog.cellsOf 185=1:=by kernel_rfl
theorem aeZ : (Rows.laid_internal_strconv_uint64pow10 : DataW Unit)=Lib.tabData .u64 Lib.pow10Tab:=by kernel_rfl
theorem afJ {W : World} (h : laidMetH Tryz.prog Rows.graphTextsRow.laid W) : TabZ (all W):=by
 have h0 : laidMet Tryz.prog Rows.graphTextsRow.laid W:=h
 have h1 : laidMet Tryz.prog [("internal/strconv.uint64pow10", Rows.laid_internal_strconv_uint64pow10)] W := laidMet.tail (laidMet.tail h0)
 rw [aeZ] at h1
 have ht : Lib.TabIs Tryz.prog W "internal/strconv.uint64pow10" .u64 Lib.pow10Tab := Lib.tabIs_of_head (rest := []) afI aef agi agj adn adm h1
 intro w' hw
 unfold Lib.TabIs World.var? at ht ⊢
 rw [afI] at ht ⊢
 simp only [Option.bind] at ht ⊢
 cases ho : W.heap[0]? with
 |none=>rw [ho] at ht;cases ht
 |some o=>rw [hw 0 o ho];rw [ho] at ht;exact ht
def afK : DataW Unit→List Value
 |.agg l=>l.map fun
  |.lit (.int k n)=>.int k n
  |_=>undef
 |_=>[]
def abc (d : DataW Unit) : Obj→Obj
 |.cells _ t frozen=>.cells (afK d).toArray t frozen
 |o=>o
noncomputable def YN (os : Os) : World:=
 { World.holding Tryz.prog os ⟨#[],#[],[]⟩ with heap:=(((World.holding Tryz.prog os ⟨#[],#[],[]⟩).heap.modify 0 (abc Rows.laid_internal_strconv_uint64pow10)).modify 2 (abc Rows.laid_math_bits_deBruijn32tab)).modify 3 (abc Rows.laid_math_bits_deBruijn64tab) }
end Go.Proofs.YtngfnikkdhbajaaGreatDoor.openG
end
section
namespace Go.Proofs.YtngfnikkdhbajaaGreatDoor.graphLike
open Go.Sh Go.ChangeShapes Go.WideShapes Go.ChangeAt Go.RowKit openG
set_option maxRecDepth 100000
set_option linter.unusedVariables false
theorem aeg (H : Type) (enc : TypeId × Value→H) (W : World) (base : Nat) (args : Array Value) (ds gs : List (DataW H)) (before : List MemPlace)
  (hval : ∀ (j : Nat) t v,Tryz.f3.params[j]? = some t→args[j]? = some v→Value.okWide Tryz.prog W .any base t v)
  (hW : DataW.Whole enc Tryz.prog Tryz.f3.params.toList Rows.graphLikeSpec.vars false W args.toList ds gs before) (hL : laidMetH Tryz.prog Rows.graphLikeRow.laid W)
  (hwt : (DataW.weightsEach Tryz.prog (Tryz.f3.params.toList++(Rows.OpenSpec.upto Rows.graphLikeSpec).bare.plain.varTypes Tryz.prog) (ds++gs)).all (·≤reachBytes)=true) :
  Calls Tryz.prog 3 args W fun e W'=>∃ v,e = .returned v∧Rows.graphLikeSpec.post enc Tryz.prog Tryz.f3 false true false false W args v W':=by
 have hW':=hW
 obtain ⟨p,q,hA,hV,rfl,hfz,hnd⟩:=hW
 rw [show Tryz.f3.params.toList = [25,3,3,3] by kernel_rfl] at hA
 obtain ⟨v0,vs0,d0,ds0,p0,q100,hargs,rfl,rfl,h0,r0⟩:=trodAll_cons hA
 obtain ⟨v1,vs1,d1,ds1,p1,q101,rfl,rfl,rfl,h1,r1⟩:=trodAll_cons r0
 obtain ⟨v2,vs2,d2,ds2,p2,q102,rfl,rfl,rfl,h2,r2⟩:=trodAll_cons r1
 obtain ⟨v3,vs3,d3,ds3,p3,q103,rfl,rfl,rfl,h3,r3⟩:=trodAll_cons r2
 obtain ⟨rfl,rfl,rfl⟩:=trodAll_nil r3
 obtain rfl : args=#[v0,v1,v2,v3]:=by cases args;simp_all
 obtain ⟨rfl,rfl⟩:=trodVars_none hV
 obtain ⟨u0,hu0,hn0⟩:=aee (hval 0 25 v0 (by kernel_rfl) rfl) h0
 obtain ⟨n1,rfl,hi1⟩:=QV (hval 1 3 v1 (by kernel_rfl) rfl) h1
 obtain ⟨n2,rfl,hi2⟩:=QV (hval 2 3 v2 (by kernel_rfl) rfl) h2
 obtain ⟨n3,rfl,hi3⟩:=QV (hval 3 3 v3 (by kernel_rfl) rfl) h3
 refine Calls.mono (Qc (K:=fun v W'=>v = .bool true∧Ext W W') (afJ hL) (acx W) hu0 hn0 fun w' e=>⟨rfl,e⟩) ?_
 rintro e W' ⟨v,he,rfl,hE⟩
 exact ⟨_,he,acK aeX af9 ags (by rw [show Tryz.f3.params.toList = [25,3,3,3] by kernel_rfl];decide) rfl (by kernel_rfl) acj hW' rfl hE⟩
def wit : Array Value:=#[.agg #[.slice none 0 0,.slice none 0 0,.int .i64 0],.int .i64 0,.int .i64 0,.int .i64 0]
theorem aeh (os : Os) : laidMet Tryz.prog Rows.graphLikeRow.laid ((YN os).forCall (fun _ _=>0) ⟨#[],wit,[]⟩).memory:=
 laidMet_of_run' 8 (by kernel_rfl) (by kernel_rfl)
theorem agk (os : Os) {H : Type} (enc : TypeId × Value→H) : ∃ places,DataW.whole enc Tryz.prog ((YN os).forCall (fun _ _=>0) ⟨#[],wit,[]⟩).memory Tryz.f3.params.toList Rows.graphLikeSpec.vars false wit.toList 8=some ([.agg [.nil,.nil,.lit (.int .i64 0)],.lit (.int .i64 0),.lit (.int .i64 0),.lit (.int .i64 0)],[],places):=
 ⟨[],by kernel_rfl⟩
theorem afL (os : Os) (started : os.Started) (H : Type) (enc : TypeId × Value→H) (F : Stop.Interp) :
  ReturnsInHanded {} Tryz.checked os 3 .any ((Rows.OpenSpec.upto Rows.graphLikeSpec).preRow enc Tryz.prog Tryz.f3 Rows.graphLikeUptoRow.domain false Rows.graphLikeUptoRow.laid) (((Rows.OpenSpec.upto Rows.graphLikeSpec).at F).post enc Tryz.prog Tryz.f3 false true false false):=by
 obtain ⟨places,hx⟩:=agk os enc
 refine returnsInHanded_of_row (C:=Tryz.checked) (s:=Rows.OpenSpec.upto Rows.graphLikeSpec) own started (by kernel_rfl) Tryz.func3
  (witness_row_at (enc:=enc) (C:=Tryz.checked) false (YN os) wit rfl (by kernel_rfl) (by kernel_rfl) (by kernel_rfl)
   (OpenSpec.preRow_of_cond 8 hx (by kernel_rfl) (fun k hk=>by cases hk;kernel_rfl) (by kernel_rfl) (aeh os))) ?_
 intro W base args ds gs before hval hW _ _ hwt hL _ _
 exact aeg H enc W base args ds gs before hval hW hL hwt
theorem said : Rows.GraphLikeUptoSaid:=
 OpenClaim.holds_of_cond 3 Tryz.f3 rfl rfl rfl rfl rfl rfl rfl ⟨rfl,rfl,rfl,rfl,rfl⟩ rfl rfl rfl rfl rfl (by kernel_rfl) Tryz.func3 (by kernel_rfl)
  (of_decide_eq_true (by kernel_rfl)) (by unfold Func.isWrapper;first|(rw [if_pos (by decide +kernel)];kernel_rfl)|(rw [if_neg (by decide +kernel)];exact ⟨rfl,rfl⟩))
  (fun os started H enc _ F=>by rw [OpenClaim.pre_eq_preRow];exact afL os started H enc F)
theorem plain (f : FuncId) (fn : Func) (hf : Tryz.pinned.checked.prog.funcNamed "loanword/loanwordlaw10.GraphLike" = some f) (hfn : Tryz.pinned.checked.prog.funcs[f]? = some fn) :
  false=Tryz.pinned.checked.prog.looks []∧∀ (j : Nat) t,fn.params[j]? = some t→Tryz.pinned.checked.prog.wantsStandIn t=false:=by
 obtain rfl : f = 3 := Option.some.inj ((show Tryz.prog.funcNamed "loanword/loanwordlaw10.GraphLike" = some 3 by kernel_rfl).symm.trans hf) |>.symm
 obtain rfl : fn=Tryz.f3:=(Option.some.inj (Tryz.func3.symm.trans hfn)).symm
 refine ⟨by kernel_rfl,fun j t ht=>?_⟩
 have hall : (Tryz.f3.params.all fun t=>!(Tryz.prog.wantsStandIn t))=true:=by kernel_rfl
 have:=Array.all_eq_true_iff_forall_mem.1 hall t (Array.mem_of_getElem? ht)
 show Tryz.prog.wantsStandIn t=false
 simpa using this
theorem card : Rows.GraphLikeUptoCardSaid:=
 Claim7.holds_tied_plain_at .later [] _ _ _ _ said (fun _ h=>by cases h) (by kernel_rfl) (fun _ h=>by cases h) graphLikeUpto_row_tie rfl ⟨rfl,rfl⟩ (by kernel_rfl) rfl plain (by kernel_rfl)
end Go.Proofs.YtngfnikkdhbajaaGreatDoor.graphLike
end
