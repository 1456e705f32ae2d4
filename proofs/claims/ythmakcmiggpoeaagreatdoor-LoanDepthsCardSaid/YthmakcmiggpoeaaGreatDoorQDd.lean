/-
  Contracts and plain laws that the last text leans on.
-/
import Derived.Test.YthmakcmiggpoeaaGreatDoorQDc
import Derived.MapKept
import Derived.Test.YthmakcmiggpoeaaGreatDoorQDa
import Derived.Test.YthmakcmiggpoeaaGreatDoorQDb
import GoSem.Builtin.Clear
import Derived.Lib.ItoaLen
import Derived.Shelf.Strings.Builder1
import Derived.Shelf.Strings.OnBuilder
import Derived.Shelf.Small.Wraps
import Derived.Shelf.Strconv.Itoa3
import Derived.Shelf.Strconv.Itoa4
import Derived.Shelf.Slices.CompactI
import Derived.Test.YthmakcmiggpoeaaGreatDoorProg
import Derived.KernelRfl
import Derived.Shelf.Sort.Plain
import Derived.Shelf.Bits.Mul64
import Derived.Shelf.Slices.Reverse
import Derived.Shelf.Slices.Clone
import Derived.Shelf.Slices.In.SortNone
import Derived.Lib.TrailingZeros
set_option maxRecDepth 100000
set_option maxHeartbeats 8000000
set_option linter.unusedVariables false
set_option linter.unusedSimpArgs false
namespace Go.Sh
open Go.RowKit
section
variable {n sz cap:Nat} {xs:List Value} {X:Nat→Prop} {w0 w:World} {r:Gh} {L:List Asr} {e:TypeId} {K:World→Prop}
theorem StX.stRowN{P:Program}{e t:TypeId}{sz n cap b i:Nat}{xs:List Value}{f:Asr→List Asr}{cs:Array Value}{K:World→Prop}(S:StX X w0 r w L)
  [h:x6 (.slice (some ⟨b,0,none⟩) n cap) L e sz n xs f] [z:SzT P t sz] (hi:i<n) (k:∀w',StX X w0 r w' (f (.row (.slice (some ⟨b,0,none⟩) n cap) e sz n (xs.take (i*sz)++cs.toList++xs.drop (i*sz+sz))))→K w')
  (hcs:cs.size=sz:=by rfl) (h1:∀u∈cs.toList,u.oneCell'=true:=by simp[Value.oneCell']):opU P w (Instr.storeAt t (.pointer (some ⟨b,i*sz,none⟩)) (.agg cs)) K:=by
 obtain⟨pp,qq,h2,h3⟩:=h.h
 have hr:=S.has (.row (.slice (some ⟨b,0,none⟩) n cap) e sz n xs) (by rw[h2];simp)
 rcases xK hr with⟨h0,_⟩|⟨g,cap',c,hv,hb,B,hn,hm,hc,ht⟩
 ·cases h0
 cases hv
 have hle:i*sz+sz≤n*sz:=by rw[← Nat.succ_mul];exact Nat.mul_le_mul_right _ hi
 have hle2:n*sz≤cap*sz:=Nat.mul_le_mul_right _ hn
 refine Jh (v:=.agg cs) (by rw[show (Value.agg cs).cells.size=sz from hcs];exact z.h) B (by rw[show (Value.agg cs).cells.size=sz from hcs];omega) h1 λw' x _ B'=>k w' ?_
 rw[show (Value.agg cs).cells.size=sz from hcs,show (Value.agg cs).cells=cs from rfl]at B'
 rw[h3]
 rw[h2]at S
 refine S.turn (x:=.row (.slice (some ⟨b,0,none⟩) n cap) e sz n xs) (y:=.row (.slice (some ⟨b,0,none⟩) n cap) e sz n (xs.take (i*sz)++cs.toList++xs.drop (i*sz+sz))) ⟨x.os,x.tape,x.output,x.size,λk hk hn=>x.block k hk λhe=>hn (by subst he;rfl)⟩ ?_ λk hk=>.inl hk
 have hcl:cs.toList.length=sz:=by simpa using hcs
 have:=qh (base:=0) (size:=sz) (n:=n) (cap:=cap) (gzl _) B' hn hm (by simp only[gla,List.length_take,List.length_drop,hcl,hc];omega)
 have he:(c.take (i*sz)++cs.toList++c.drop (i*sz+sz)).take (n*sz)=xs.take (i*sz)++cs.toList++xs.drop (i*sz+sz):=by
  rw[← ht,List.take_take,Nat.min_eq_left (by omega),List.take_append,List.take_of_length_le (by simp only[gla,List.length_take,hcl,hc];omega),List.drop_take]
  congr 2
  simp only[gla,List.length_take,hcl,hc]
  omega
 rw[he]at this
 exact this
theorem StX.row0N{e:TypeId}{sz n cap:Nat}{p:Option Addr}{xs:List Value}{f:Asr→List Asr}(S:StX X w0 r w L)
  (_:True) [h:x6 (.slice p n cap) L e sz n xs f] (hn:n≠0):∃b,p=some ⟨b,0,none⟩:=by
 obtain⟨b,cap',c,hv,_⟩:=S.rowCell (.slice p n cap) hn
 cases hv
 exact⟨b,rfl⟩
theorem StX.stRow1{P:Program}{e t:TypeId}{n cap b i:Nat}{xs:List Value}{f:Asr→List Asr}{v:Value}{K:World→Prop}(S:StX X w0 r w L)
  [h:x6 (.slice (some ⟨b,0,none⟩) n cap) L e 1 n xs f] [z:SzT P t 1] (hi:i<n) (k:∀w',StX X w0 r w' (f (.row (.slice (some ⟨b,0,none⟩) n cap) e 1 n (xs.set i v)))→K w')
  (h1:v.oneCell'=true:=by rfl):opU P w (Instr.storeAt t (.pointer (some ⟨b,i,none⟩)) v) K:=by
 obtain⟨pp,qq,h2,h3⟩:=h.h
 have hr:=S.has (.row (.slice (some ⟨b,0,none⟩) n cap) e 1 n xs) (by rw[h2];simp)
 rcases xK hr with⟨h0,_⟩|⟨g,cap',c,hv,hb,B,hn,hm,hc,ht⟩
 ·cases h0
 cases hv
 refine acH z.h B (by omega) h1 λw' x _ B'=>k w' ?_
 rw[h3]
 rw[h2]at S
 refine S.turn (x:=.row (.slice (some ⟨b,0,none⟩) n cap) e 1 n xs) (y:=.row (.slice (some ⟨b,0,none⟩) n cap) e 1 n (xs.set i v)) ⟨x.os,x.tape,x.output,x.size,λk hk hn=>x.block k hk λhe=>hn (by subst he;rfl)⟩ ?_ λk hk=>.inl hk
 have:=qh (base:=0) (size:=1) (n:=n) (cap:=cap) (gzl _) B' hn hm (by rw[List.length_set,hc])
 rw[List.take_set,ht]at this
 exact this
theorem af1{z cs:List Value}(hx:xs.length=n*sz)(hz:z.length=sz):(xs++z).take (n*sz)++cs++(xs++z).drop (n*sz+sz)=xs++cs:=by
 rw[← hx,List.take_left' rfl,List.drop_of_length_le (by rw[gla];omega),List.append_nil]
end
end Go.Sh
namespace Go.Proofs
open Go.Sh
section
variable {ss:List StD} {tys l:List TyD} {p:PlD} {w:World} {r:Gh} {q p0:Option Addr} {K:Value→World→Prop} {c:List Value} {cap0 capt:Nat}
def zR(ss:List StD)(t:TyD)(k:Int):Option (TyD×Int):=
 if k = -1∧t.k=3 then t.of.head?.map λu=>(u,1)
 else if k = -1∧t.k=4 then t.of.head?.map λu=>(u,if t.m then 2 else 3)
 else if 0≤k∧t.k=5 then(ze ss t.st)[k.toNat]?.map λu=>(u,0)
 else none
def zD(ss:List StD):List Int→TyD→Option (TyD×List Int)
 |[],t=>some (t,[])
 |k::l,t=>(zR ss t k).bind λs=>(zD ss l s.1).map λx=>(x.1,s.2::x.2)
theorem aaf(ss:List StD):∀(l:List Int)(k:Int)(t:TyD),zD ss (l++[k]) t=(zD ss l t).bind λx=>(zR ss x.1 k).map λs=>(s.1,x.2++[s.2])
 |[],k,t=>by
  show(zR ss t k).bind _=(zR ss t k).map _
  cases zR ss t k<;>rfl
 |x::l,k,t=>by
  rw[List.cons_append,zD,zD]
  cases h:zR ss t x with
  |none=>rfl
  |some s=>
   show(zD ss (l++[k]) s.1).map _=((zD ss l s.1).map _).bind _
   rw[aaf ss l k s.1]
   cases zD ss l s.1 with
   |none=>rfl
   |some y=>
    show((zR ss y.1 k).map _).map _=(zR ss y.1 k).map _
    cases zR ss y.1 k<;>rfl
theorem aag{ss:List StD}:∀{l m:List Int}{t:TyD},zD ss l t=none→zD ss (l++m) t=none
 |[],m,t,h=>by cases h
 |x::l,m,t,h=>by
  rw[List.cons_append,zD]
  rw[zD]at h
  cases hs:zR ss t x with
  |none=>rfl
  |some s=>
   rw[hs]at h
   have h:(zD ss l s.1).map (λx=>(x.1,s.2::x.2))=none:=h
   have :zD ss l s.1=none:=by cases hw:zD ss l s.1 with|none=>rfl|some y=>rw [hw]at h;cases h
   show(zD ss (l++m) s.1).map _=none
   rw[aag this];rfl
theorem QQ{ss:List StD}:∀{l:List Int}{t:TyD}{x:TyD×List Int},zD ss l t=some x→x.2.length=l.length
 |[],t,x,h=>by cases h;rfl
 |k::l,t,x,h=>by
  rw[zD]at h
  cases hs:zR ss t k with
  |none=>rw [hs]at h;cases h
  |some s=>
   rw[hs]at h
   have h:(zD ss l s.1).map (λx=>(x.1,s.2::x.2))=some x:=h
   cases hw:zD ss l s.1 with
   |none=>rw [hw]at h;cases h
   |some y=>rw [hw]at h;cases h;simp[QQ hw]
theorem aah(hg:kW ss){t:TyD}{k:Int}{s:TyD×Int}(h:Fine ss t)(e:zR ss t k=some s):Fine ss s.1:=by
 have inside:∀{n:Int},t.of.head?.map (λu=>(u,n))=some s→Fine ss s.1:=by
  intro n e
  rcases h.cases with⟨h1,_⟩|⟨u,h1,h2,_⟩
  ·rw[h1]at e;cases e
  ·rw[h1]at e;cases e;exact h2
 unfold zR at e
 split at e
 ·exact inside e
 split at e
 ·exact inside e
 split at e
 ·cases hu:(ze ss t.st)[k.toNat]? with
  |none=>rw [hu]at e;cases e
  |some u=>rw [hu]at e;cases e;exact hg _ u (List.mem_of_getElem? hu)
 ·cases e
theorem XK{ss:List StD}(hg:kW ss):∀{l:List Int}{t:TyD}{x:TyD×List Int},Fine ss t→zD ss l t=some x→Fine ss x.1
 |[],t,x,h,e=>by cases e;exact h
 |k::l,t,x,h,e=>by
  rw[zD]at e
  cases hs:zR ss t k with
  |none=>rw [hs]at e;cases e
  |some s=>
   rw[hs]at e
   have e:(zD ss l s.1).map (λx=>(x.1,s.2::x.2))=some x:=e
   cases hw:zD ss l s.1 with
   |none=>rw [hw]at e;cases e
   |some y=>rw [hw]at e;cases e;show Fine ss y.1;exact XK hg (aah hg h hs) hw
noncomputable def z6(ss:List StD)(tys:List TyD)(p:PlD):Bool:=
 ((decide (0≤p.l)&&decide (p.l<tys.length))&&decide (p.ps.length≤8))&&(decide ((zI ss).2=0)&&tys.all λt=>mayB ss t)
noncomputable def zt(ss:List StD)(tys:List TyD)(p:PlD):Option (TyD×List Int):=if z6 ss tys p then zD ss p.ps (tys.getD p.l.toNat zK)else none
noncomputable def yj(ss:List StD)(tys:List TyD)(p:PlD):TyD×Int:=match zt ss tys p with|some x=>(x.1,0)|none=>(zK,2)
theorem YM{x:TyD×List Int}(h:zt ss tys p=some x):Fine ss x.1∧ss.length≤32:=by
 unfold zt at h
 split at h
 ·rename_i ho
  simp only[z6,gba,gdt,List.all_eq_true]at ho
  obtain⟨⟨⟨h1,h2⟩,h3⟩,h4,h5⟩:=ho
  obtain⟨h32,_,hg,_⟩:=qw h4
  have hlt:p.l.toNat<tys.length:=by omega
  have hm:=h5 tys[p.l.toNat] (gem hlt)
  have he:tys.getD p.l.toNat zK=tys[p.l.toNat]:=by rw[ggd,gqg hlt];rfl
  rw[he]at h
  exact⟨XK hg (QG hm).2 h,h32⟩
 ·cases h
theorem aa2{f:TyD→Bool}{fv:Value}{cap:Nat}{K:Value→World→Prop}(hr:Holds r w)(hl:TysG r q l)(hb:l.length≤maxLen)
  (hf:∀t∈l,∀(q:Option Addr)(cap:Nat)(w:World)(K:Value→World→Prop),Holds r w→TyG r (tyV t q cap) t→(∀w',Ext w w'→K (.bool (f t)) w')→zy Tryz.prog fv #[tyV t q cap] w K)
  (h:∀(i:Int) w',Ext w w'→(0≤i↔l.any f=true)→K (.int .i64 i) w'):zc Tryz.prog Tryz.yg #[.slice q l.length cap,fv] w K:=by
 refine Tryz.kR ?_
 unfold Tryz.yW
 have S:=St.start hr
 have hb':l.length≤9223372036854775807:=hb
 refine gP_ ?_
 refine zk (ι:=Nat) (λi=>[.int .i64 (i:Nat)]) (λi w'=>i≤l.length∧(l.take i).any f=false∧StX noX w r w' []) (λi=>l.length-i) 0 rfl ⟨gzl _,by simp,S⟩ ?_
 clear S
 rintro i d w' ⟨hi,hn,S⟩ K6 hK6
 simp only[gdz]
 refine gP_ ?_
 refine zj (λhlt=>?_) (λhge=>?_)
 ·have hlt:i<l.length:=by omega
  obtain⟨b,off,c,rfl,hc,hcell,hto⟩:=hl i hlt
  obtain⟨q2,cap2,rfl,ht2⟩:=xh hto
  refine gP_ ?_
  refine zq (n:=5) hc (λj v hj=>by rw[tnc];exact S.at (hcell j v hj)) ?_
  refine hf l[i] (gem hlt) _ _ _ _ S.holds ht2 λw2 e2=>?_
  have S:=S.go e2
  have ht:(l.take (i+1)).any f=((l.take i).any f||f l[i]):=by
   rw[List.take_succ_eq_append_getElem hlt,List.any_append];simp only[List.any_cons,List.any_nil,Bool.or_false]
  refine c_b (λhy=>?_) (λhno=>?_)
  ·refine h _ _ S.ext ⟨λ_=>?_,λ_=>Int.natCast_nonneg _⟩
   exact List.any_eq_true.2 ⟨l[i],gem hlt,hy⟩
  ·refine gP_ ?_
   rw[show ((i:Int)+1)=((i+1:Nat):Int)by omega]
   refine hK6 (i+1) _ ⟨hlt,?_,S⟩ (by omega)
   rw[ht,hn,hno];rfl
 ·have :i=l.length:=by omega
  subst this
  rw[List.take_length]at hn
  exact h _ _ S.ext ⟨λh=>by omega,λh=>by rw[hn]at h;cases h⟩
theorem Jv{f:TyD→Bool}{fv:Value}{cap:Nat}{K:Value→World→Prop}(hr:Holds r w)(hl:TysG r q l)(hb:l.length≤maxLen)
  (hf:∀t∈l,∀(q:Option Addr)(cap:Nat)(w:World)(K:Value→World→Prop),Holds r w→TyG r (tyV t q cap) t→(∀w',Ext w w'→K (.bool (f t)) w')→zy Tryz.prog fv #[tyV t q cap] w K)
  (h:∀w',Ext w w'→K (.bool (l.any f)) w'):zc Tryz.prog Tryz.yb #[.slice q l.length cap,fv] w K:=by
 refine Tryz.ke ?_
 unfold Tryz.yF
 refine aa2 hr hl hb hf λi w' e hi=>?_
 refine gP_ ?_
 have e2:decide (i≥0)=l.any f:=by
  by_cases hh:l.any f=true
  ·rw[hh];exact gde (hi.2 hh)
  ·rw[Bool.eq_false_iff.2 hh];exact decide_eq_false λh=>hh (hi.1 h)
 rw[e2];exact h _ e
theorem abF(h:z6 ss tys p=false):zt ss tys p=none:=by rw[zt,h];rfl
theorem Z1{cap0 capt:Nat}{K:Value→World→Prop}(hr:Holds r w)(hs:StG r p0 ss)(ht:TysG r q tys)(htl:tys.length≤maxLen)(hp:PlG r c p)
  (hN:∀w',zt ss tys p=none→Ext w w'→K (.tuple #[ajZ,.slice none 0 0,.bool false]) w')
  (hS:∀t g q cap vg s w',zt ss tys p=some (t,g)→Ext w w'→New w s w'→TyG r (tyV t q cap) t→SlG 1 s xn vg g→K (.tuple #[tyV t q cap,vg,.bool true]) w'):
  zc Tryz.prog Tryz.kS #[.slice p0 ss.length cap0,.slice q tys.length capt,.agg c.toArray] w K:=by
 obtain⟨v,rfl,hl⟩:=hp
 obtain⟨qs,caps,rfl,_,_⟩:=hl.sl.shape
 have hbl:=hl.lt
 have htl':tys.length≤9223372036854775807:=htl
 refine Tryz.ab4 ?_
 unfold Tryz.QM
 have S:=St.start hr
 refine S.box λb3 w1 S=>?_
 refine S.box λb5 w2 S=>?_
 refine S.al λb6 w3 S=>?_
 have S:StX noX w r w3 [.cell b6 XJ 43,.cell b5 [.int .i64 p.l,.slice qs p.ps.length caps] 80,.cell b3 [.slice p0 ss.length cap0] 22]:=S
 refine gG_ ?_
 refine zn (c:=decide ((tys.length:Int)≤p.l)) (λ_ K2 hK2=>?_) ?_
 ·refine gG_ ?_
  exact hK2
 refine zn (c:=decide (8<p.ps.length)) (λ_ K2 hK2=>?_) ?_
 ·refine gG_ ?_
  rw[show decide ((8:Int)<(p.ps.length:Int))=decide (8<p.ps.length)from decide_eq_decide.2 (by omega)]
  exact hK2
 refine c_b (λhbad=>?_) (λhgood=>?_)
 ·have hn:z6 ss tys p=false:=by
   cases e:z6 ss tys p
   ·rfl
   ·simp only[z6,gba,gdt]at e
    simp only[Bool.or_eq_true,gdt]at hbad;omega
  refine S.ldB (b:=b6) ?_ rfl
  refine S.stB (b:=b6) λw4 S=>?_
  refine gG_ ?_
  exact hN _ (abF hn) S.ext
 have hlo:(0≤p.l∧p.l<tys.length)∧p.ps.length≤8:=by
  simp only[Bool.or_eq_false_iff,decide_eq_false_iff_not]at hgood;omega
 clear hgood
 obtain⟨⟨hl0,hl1⟩,hl8⟩:=hlo
 refine gG_ ?_
 refine jI S.holds hs λw4 e4=>?_
 have S:=S.go e4
 refine gS_ ?_
 have S:=S.frzAt b3
 refine kq (c:=tys.any λt=>!mayB ss t) (λ_ K2 hK2=>?_) λw5 e5=>?_
 ·refine gP_ ?_
  refine Jv (f:=λt=>!mayB ss t) S.holds (TysG.up ht) htl (λt _ q cap w K hr htt hK=>?_) λw6 e6=>?_
  ·refine Jj (by kernel_rfl) ?_
   refine Tryz.V9 ?_
   unfold Tryz.Xb
   have B:Blk w b3 [.slice p0 ss.length cap0] 22:=hr b3 _ (.inr ⟨rfl,rfl⟩)
   have S:=St.start hr
   refine S.box λb1 w1 S=>?_
   have S:StX noX w _ w1 [.cell b1 (tyL t q cap) 43]:=S
   refine zf (v:=.slice p0 ss.length cap0) (by
    have B:Blk w1 b3 [.slice p0 ss.length cap0] 22:=S.holds b3 _ (.inr ⟨rfl,rfl⟩)
    rw[B.cell];rfl) ?_
   refine S.ldB (b:=b1) ?_ rfl
   refine vj S.holds hs.up htt λw2 e2=>?_
   refine gP_ ?_
   exact hK _ (S.go e2).ext
  exact hK2 _ e6
 have S:=S.go e5
 refine c_b (λhbad=>?_) (λhgood=>?_)
 ·have hn:z6 ss tys p=false:=by
   cases e:z6 ss tys p
   ·rfl
   ·simp only[z6,gba,gdt,List.all_eq_true]at e
    simp only[Bool.or_eq_true,gdt,List.any_eq_true,Bool.not_eq_true']at hbad
    rcases hbad with h1|⟨t,h1,h2⟩
    ·exact absurd e.2.1 h1
    ·rw[e.2.2 t h1]at h2;cases h2
  refine S.ldB (b:=b6) ?_ rfl
  refine S.stB (b:=b6) λw4 S=>?_
  refine gG_ ?_
  exact hN _ (abF hn) S.ext
 have hok:(zI ss).2=0∧∀t∈tys,mayB ss t=true:=by
  simp only[Bool.or_eq_false_iff,decide_eq_false_iff_not,List.any_eq_false,Bool.not_eq_true',Bool.not_eq_false]at hgood
  exact⟨by omega,hgood.2⟩
 clear hgood
 obtain⟨hst,hmay⟩:=hok
 obtain⟨h32,_,hg,_⟩:=qw hst
 have hO:z6 ss tys p=true:=by
  simp only[z6,gba,gdt,List.all_eq_true]
  exact⟨⟨⟨hl0,hl1⟩,hl8⟩,hst,hmay⟩
 have hlt0:p.l.toNat<tys.length:=by omega
 have hW:zt ss tys p=zD ss p.ps tys[p.l.toNat]:=by
  rw[zt,if_pos hO,ggd,gqg hlt0];rfl
 rw[hW]at hN hS
 obtain⟨bt,ot,ct,rfl,hct,hcell,htc⟩:=ht p.l.toNat hlt0
 have hfi:Fine ss tys[p.l.toNat]:=(QG (hmay _ (gem hlt0))).2
 generalize tys[p.l.toNat]=t0 at hN hS htc hfi
 obtain⟨q0,cap1,rfl,ht0⟩:=xh htc
 refine gG_ ?_
 refine zq (n:=5) hct (λj v hj=>S.at (hcell j v hj)) ?_
 refine S.stB (b:=b6) λw7 S=>?_
 refine gG_ ?_
 have S:=S.ownNil 3 1
 refine zk (ι:=Nat×Value×TyD×Option Addr×Nat×List Int) (λi=>[i.2.1,.int .i64 (i.1:Nat)]) (λi w'=>i.1≤p.ps.length∧zD ss (p.ps.take i.1) t0=some (i.2.2.1,i.2.2.2.2.2)∧TyG r (tyV i.2.2.1 i.2.2.2.1 i.2.2.2.2.1) i.2.2.1∧
  StX noX w (r.or (Go.Sh.one b3 [.slice p0 ss.length cap0] 22)) w' [.row i.2.1 3 1 i.1 (ints i.2.2.2.2.2),.cell b6 (tyL i.2.2.1 i.2.2.2.1 i.2.2.2.2.1) 43,.cell b5 [.int .i64 p.l,.slice qs p.ps.length caps] 80]) (λi=>p.ps.length-i.1) (0,.slice none 0 0,t0,q0,cap1,[]) rfl ⟨gzl _,rfl,ht0,S⟩ ?_
 clear S
 rintro⟨i,vg,t,q,cap,g⟩ d w8 ⟨hi,hw,htt,S⟩ K6 hK6
 simp only at hi hw htt S⊢
 simp only[gdz,gds]
 refine gP_ ?_
 have hft:Fine ss t:=XK hg hfi hw
 have hgl:g.length=(p.ps.take i).length:=QQ hw
 rw[List.length_take]at hgl
 refine zj (λhlt=>?_) (λhge=>?_)
 rotate_left
 ·have hie:i=p.ps.length:=by omega
  rw[hie,List.take_length]at hw
  have hvo:=S.row1 vg
  refine S.ldB (b:=b6) ?_ rfl
  refine S.stB (b:=b6) λw9 S=>?_
  refine gG_ ?_
  obtain⟨s,S,hsl,_,hab⟩:=S.doneRow (l:=g) (R:=xn) (sz:=1) ⟨by rw[ym,Nat.mul_one],λj hj=>by
   show _=_
   rw[Nat.mul_one,ints,← List.map_drop,← List.map_take,List.drop_eq_getElem_cons hj];rfl⟩ (by decide) (by omega)
  exact hS _ _ _ _ _ s _ hw S.ext (S.newOf λb o ho=>(hab b o ho).resolve_right id) htt hsl
 have hlt:i<p.ps.length:=by omega
 obtain⟨k,hke⟩:∃k,p.ps[i]=k:=⟨_,rfl⟩
 obtain⟨bs,os,cs,rfl,hcs,hck,hcl⟩:=hl.sl.get (by decide) hlt
 rw[hke]at hck
 obtain⟨rfl,hin⟩:=hck
 have hstep:zD ss (p.ps.take (i+1)) t0=(zR ss t k).map λs=>(s.1,g++[s.2]):=by
  rw[List.take_succ_eq_append_getElem hlt,aaf,hw,hke];rfl
 have hbadk:zR ss t k=none→zD ss p.ps t0=none:=λe=>by
  have:=aag (m:=p.ps.drop (i+1)) (hstep.trans (by rw[e];rfl))
  rwa[List.take_append_drop]at this
 have down:(t.k=3∨t.k=4)→∃uu,t.of=[uu]:=by
  intro hk
  rcases hft.cases with⟨_,h1⟩|⟨uu,h1,_⟩
  ·omega
  ·exact⟨uu,h1⟩
 refine zi (λs w'=>∃how t' q' cap' v',zR ss t k=some (t',how)∧s=[v']∧TyG r (tyV t' q' cap') t'∧
  StX noX w (r.or (Go.Sh.one b3 [.slice p0 ss.length cap0] 22)) w' [.row v' 3 1 (i+1) (ints (g++[how])),.cell b6 (tyL t' q' cap') 43,.cell b5 [.int .i64 p.l,.slice (some ⟨bs,os,none⟩) p.ps.length caps] 80]) (λK27 hK27=>?_) ?_
 rotate_left
 ·rintro _ w9 ⟨how,t',q',cap',v',h1,rfl,h2,S⟩ d9
  rw[gdz]
  refine gP_ ?_
  rw[show ((i:Int)+1)=((i+1:Nat):Int)by omega]
  exact hK6 (i+1,v',t',q',cap',g++[how]) _ ⟨hlt,hstep.trans (by rw[h1];rfl),h2,S⟩ (by show p.ps.length-(i+1)<p.ps.length-i;omega)
 refine gP_ ?_
 refine zf (v:=.int .i64 k) (by simpa using S.at (hcl 0 _ rfl)) ?_
 refine zi (λs w'=>w'=w8∧∃how:Int,s=[vg,.int .i64 how]∧((k = -1∧t.k=3∧how=1)∨(k = -1∧t.k=4∧how=if t.m then 2 else 3)∨(0≤k∧t.k=5∧k<(ze ss t.st).length∧how=0))) (λK31 hK31=>?_) ?_
 ·refine gP_ ?_
  refine zh (c:=decide (t.k=3)) (λ_ K2 hK2=>?_) ?_
  ·refine gG_ ?_
   exact hK2
  refine c_b (λhB=>?_) (λhB=>?_)
  ·have hB:k = -1∧t.k=3:=by simpa using hB
   exact hK31 _ _ ⟨rfl,1,rfl,.inl ⟨hB.1,hB.2,rfl⟩⟩
  have hB:¬(k = -1∧t.k=3):=by simpa using hB
  refine gP_ ?_
  refine zh (c:=decide (t.k=4)) (λ_ K2 hK2=>?_) ?_
  ·refine gG_ ?_
   exact hK2
  refine zh (c:=t.m) (λ_ K2 hK2=>?_) ?_
  ·refine gG_ ?_
   exact hK2
  refine c_b (λhM=>?_) (λhM=>?_)
  ·have hM:(k = -1∧t.k=4)∧t.m=true:=by simpa using hM
   exact hK31 _ _ ⟨rfl,2,rfl,.inr (.inl ⟨hM.1.1,hM.1.2,by rw[hM.2];rfl⟩)⟩
  refine gP_ ?_
  refine zh (c:=decide (t.k=4)) (λ_ K2 hK2=>?_) ?_
  ·refine gG_ ?_
   exact hK2
  refine c_b (λhR=>?_) (λhR=>?_)
  ·have hR:k = -1∧t.k=4:=by simpa using hR
   have hm:t.m=false:=by
    cases e:t.m
    ·rfl
    ·rw[e,gde hR.1,gde hR.2]at hM;cases hM
   exact hK31 _ _ ⟨rfl,3,rfl,.inr (.inl ⟨hR.1,hR.2,by rw[hm];rfl⟩)⟩
  have hR:¬(k = -1∧t.k=4):=by simpa using hR
  refine gG_ ?_
  refine zn (c:=decide (k<0)) (λ_ K2 hK2=>?_) ?_
  ·refine gG_ ?_
   exact hK2
  refine zn (c:=decide (((ze ss t.st).length:Int)≤k)) (λh5 K2 hK2=>?_) ?_
  ·have h5:t.k=5∧0≤k:=by simpa using h5
   obtain⟨hst0,hst1⟩:=hft.st h5.1
   have hslt:t.st.toNat<ss.length:=by omega
   obtain⟨b,off,q9,capq,rfl,hcell9,_,_,hfl⟩:=vh hs hslt
   have hlen:(ze ss t.st).length=ss[t.st.toNat].fs.length:=by
    rw[← QF hslt];simp only[ze,tnc]
   refine zf (v:=.slice (some ⟨b,off,none⟩) ss.length cap0) (by
    have B:Blk w8 b3 [.slice (some ⟨b,off,none⟩) ss.length cap0] 22:=S.holds b3 _ (.inr ⟨rfl,rfl⟩)
    rw[B.cell];rfl) ?_
   refine gG_ ?_
   refine zf (S.at hcell9) ?_
   refine gG_ ?_
   rw[← hlen]
   exact hK2
  refine c_b (λhX=>?_) (λhX=>?_)
  ·have hnone:zR ss t k=none:=by
    rw[zR,if_neg hB,if_neg hR]
    split
    ·rename_i h5
     have h50:=h5.1
     rw[List.getElem?_eq_none]
     ·rfl
     ·have :((ze ss t.st).length:Int)≤k:=by
       simp only[Bool.or_eq_true,gdt]at hX;omega
      omega
    ·rfl
   refine zo (cs:=#[.int .u8 0,.bool false,.int .i64 0,.int .i64 0,.slice none 0 0]) (by kernel_rfl) ?_
   refine S.stB (b:=b6) λw9 S=>?_
   refine gG_ ?_
   exact hN _ (hbadk hnone) S.ext
  ·have hX:(t.k=5∧0≤k)∧k<(ze ss t.st).length:=by
    simp only[Bool.or_eq_false_iff,decide_eq_false_iff_not]at hX;omega
   exact hK31 _ _ ⟨rfl,0,rfl,.inr (.inr ⟨hX.1.2,hX.1.1,hX.2,rfl⟩)⟩
 rintro _ _ ⟨rfl,how,rfl,hcase⟩ d10
 simp only[gdz,gds]
 refine S.lit (e:=3) (cs:=[.int .i64 how]) (by kernel_rfl) λb9 w9 S=>?_
 refine S.ap (m':=1) (Sl.blk (S.blk b9)) (λv9 w10 S=>?_) (by omega)
 have S:=S.tl
 have hins:ints g++[.int .i64 how]=ints (g++[how]):=by rw[ints,ints,List.map_append];rfl
 rw[hins]at S
 refine gP_ ?_
 refine zj (λhz=>?_) (λhnz=>?_)
 ·have h5:0≤k∧t.k=5∧k<(ze ss t.st).length:=by
   rcases hcase with⟨_,_,h⟩|⟨_,_,h⟩|⟨h1,h2,h3,_⟩
   ·omega
   ·split at h<;>omega
   ·exact⟨h1,h2,h3⟩
  obtain⟨hk0,hk5,hkl⟩:=h5
  obtain⟨hst0,hst1⟩:=hft.st hk5
  have hslt:t.st.toNat<ss.length:=by omega
  obtain⟨b,off,q9,capq,rfl,hcell9,_,_,hfl⟩:=vh hs hslt
  have htl2:ze ss t.st=ss[t.st.toNat].fs.map (·.2):=by
   rw[← kX hslt];simp only[ze,tnc]
  have hkf:k.toNat<ss[t.st.toNat].fs.length:=by
   rw[htl2,List.length_map]at hkl;omega
  obtain⟨b10,off9,c9,rfl,hc9,hcell8,ht9⟩:=Jl hfl hkf
  obtain⟨q2,cap2,rfl,ht2⟩:=xh ht9
  refine zf (v:=.slice (some ⟨b,off,none⟩) ss.length cap0) (by
   have B:Blk w10 b3 [.slice (some ⟨b,off,none⟩) ss.length cap0] 22:=S.holds b3 _ (.inr ⟨rfl,rfl⟩)
   rw[B.cell];rfl) ?_
  refine gG_ ?_
  refine zf (S.at hcell9) ?_
  refine gG_ ?_
  refine zq (n:=5) (c:=tyL _ q2 cap2) rfl (λj v hj=>by have:=S.at (hcell8 (j+1) v hj);rwa[show off9+k.toNat*6+(j+1)=off9+k.toNat*6+1+j by omega]at this) ?_
  refine S.stB (b:=b6) λw11 S=>?_
  refine hK27 _ _ ⟨how,_,q2,cap2,v9,?_,rfl,ht2,S⟩
  rw[zR,if_neg (by omega),if_neg (by omega),if_pos ⟨hk0,hk5⟩,htl2,List.getElem?_map,gqg hkf,hz];rfl
 ·have h34:k = -1∧((t.k=3∧how=1)∨(t.k=4∧how=if t.m then 2 else 3)):=by
   rcases hcase with⟨h1,h2,h⟩|⟨h1,h2,h⟩|⟨h1,h2,h3,h⟩
   ·exact⟨h1,.inl ⟨h2,h⟩⟩
   ·exact⟨h1,.inr ⟨h2,h⟩⟩
   ·exact absurd h hnz
  obtain⟨hk1,h34⟩:=h34
  obtain⟨uu,hof⟩:=down (h34.imp (·.1) (·.1))
  obtain⟨bo,oo,q2,cap2,rfl,ht2,hcc⟩:=V5 htt hof
  have hl1:t.of.length=1:=by rw[hof];rfl
  refine gG_ ?_
  refine zq (n:=5) (c:=tyL uu q2 cap2) rfl (λj v hj=>by simpa using S.at (hcc j v hj)) ?_
  refine S.stB (b:=b6) λw11 S=>?_
  refine hK27 _ _ ⟨how,uu,q2,cap2,v9,?_,rfl,ht2,S⟩
  rcases h34 with⟨h1,h2⟩|⟨h1,h2⟩
  ·rw[zR,if_pos ⟨hk1,h1⟩,hof,h2];rfl
  ·rw[zR,if_neg (by omega),if_pos ⟨hk1,h1⟩,hof,h2];rfl
theorem JO{cap0 capt:Nat}{K:Value→World→Prop}(hr:Holds r w)(hs:StG r p0 ss)(ht:TysG r q tys)(htl:tys.length≤maxLen)(hp:PlG r c p)
  (h:∀w',Ext w w'→K (.bool (zt ss tys p).isSome) w'):zc Tryz.prog Tryz.vd #[.slice p0 ss.length cap0,.slice q tys.length capt,.agg c.toArray] w K:=by
 refine Tryz.ada ?_
 unfold Tryz.JN
 obtain⟨v,rfl,hl⟩:=id hp
 obtain⟨qs,caps,rfl,_,_⟩:=hl.sl.shape
 have S:=St.start hr
 refine S.box λb5 w1 S=>?_
 have S:StX noX w r w1 [.cell b5 [.int .i64 p.l,.slice qs p.ps.length caps] 80]:=S
 refine S.ldB (b:=b5) ?_ rfl
 refine Z1 S.holds hs ht htl hp (λw2 hn e2=>?_) λt g q cap vg s w2 hsm e2 n2 htt hg=>?_
 ·have S:=S.go e2
  refine gP_ ?_
  refine gP_ ?_
  refine gP_ ?_
  refine S.al λb7 w3 S=>?_
  refine S.stB (b:=b7) λw4 S=>?_
  have:=h _ S.ext
  rw[hn]at this;exact this
 ·have S:=S.go e2
  refine gP_ ?_
  refine gP_ ?_
  refine gP_ ?_
  refine S.al λb7 w3 S=>?_
  refine S.stB (b:=b7) λw4 S=>?_
  have:=h _ S.ext
  rw[hsm]at this;exact this
theorem QR{cap0 capt:Nat}{K:Value→World→Prop}(hr:Holds r w)(hs:StG r p0 ss)(ht:TysG r q tys)(htl:tys.length≤maxLen)(hp:PlG r c p)
  (h:∀v' sn w',Ext w w'→New w sn w'→TyG sn v' (yj ss tys p).1→ZV sn v' (yj ss tys p).1→K (.tuple #[v',.int .i64 (yj ss tys p).2]) w'):zc Tryz.prog Tryz.jF #[.slice p0 ss.length cap0,.slice q tys.length capt,.agg c.toArray] w K:=by
 refine Tryz.ab3 ?_
 unfold Tryz.QL
 obtain⟨v,rfl,hl⟩:=id hp
 obtain⟨qs,caps,rfl,_,_⟩:=hl.sl.shape
 have S:=St.start hr
 refine S.box λb5 w1 S=>?_
 have S:StX noX w r w1 [.cell b5 [.int .i64 p.l,.slice qs p.ps.length caps] 80]:=S
 refine S.al λb6 w2 S=>?_
 refine S.ldB (b:=b5) ?_ rfl
 unfold yj at h
 refine Z1 S.holds hs ht htl hp (λw2 hn e2=>?_) λt g q cap vg s w2 hsm e2 n2 htt hg=>?_
 ·have S:=S.go e2
  rw[hn]at h
  refine gP_ ?_
  refine gP_ ?_
  refine gP_ ?_
  refine S.al λb7 w3 S=>?_
  refine S.stB (b:=b7) λw4 S=>?_
  refine gP_ ?_
  refine c_t rfl ?_
  refine zo (cs:=#[.int .u8 0,.bool false,.int .i64 0,.int .i64 0,.slice none 0 0]) (by kernel_rfl) ?_
  refine S.stB (b:=b6) λw5 S=>?_
  refine gG_ ?_
  exact h _ nothing _ S.ext New.nothing qm .nil
 ·have S:=S.go e2
  rw[hsm]at h
  have hB:isB t=true:=(YM hsm).1.is (YM hsm).2
  refine gP_ ?_
  refine gP_ ?_
  refine gP_ ?_
  refine S.al λb7 w3 S=>?_
  refine S.stB (b:=b7) λw4 S=>?_
  refine gP_ ?_
  refine c_f rfl ?_
  refine S.ldB (b:=b7) ?_ rfl
  refine adS S.holds htt λv5 sn w5 e5 n5 h5 hc5=>?_
  rw[hB]at h5 hc5⊢
  obtain⟨S,d5,a5⟩:=S.tell e5 n5
  have h50:=h5
  obtain⟨p5,cap5,rfl,_⟩:=h5
  refine gP_ ?_
  refine gP_ ?_
  refine S.stB (b:=b6) λw6 S=>?_
  refine gG_ ?_
  exact h _ sn _ S.ext (S.newOf a5) h50 hc5
end
end Go.Proofs
namespace Go.Sh
open Go.RowKit Go.MapKept
section
def zr1(P:Program)(t:TypeId):Option Value:=(P.info? t).bind λi=>i.zero
theorem abG{P:Program}{t:TypeId}{z:Value}(hz:zr1 P t=some z)(w:World):(zeroValue t).run P w=.ok z w:=by
 unfold zr1 at hz
 cases hi:P.info? t with
 |none=>rw [hi]at hz;cases hz
 |some i=>
  rw[hi]at hz
  have hz:i.zero=some z:=hz
  simp[zeroValue,typeInfo,Sem.run,pure,hi,hz,Sem.run_bind,Result.andThen]
def mpT(P:Program)(t:TypeId):Option (TypeId×TypeId):=match P.underlying t with
 |some (.map k e)=>(match P.underlying k with|some .string=>some (k,e)|_=>none)
 |_=>none
theorem adg{P:Program}{t k e:TypeId}(h:mpT P t=some (k,e)):P.underlying t=some (.map k e)∧P.underlying k=some .string:=by
 unfold mpT at h
 split at h
 ·rename_i k' e' h1
  split at h
  ·rename_i h2
   cases h;exact⟨h1,h2⟩
  ·cases h
 ·cases h
def XL(x:ByteArray):List MapEntry→Option Value
 |[]=>none
 |m::l=>match m.key with|.string s=>if x == s then some m.val else XL x l|_=>XL x l
def ag5(l:List MapEntry):Prop:=∀m∈l,∃s,m.key=.string s
theorem Vn{x:ByteArray}:∀{l:List MapEntry}{i:Nat},ag5 l→∃o,Instr.findNow .string (.string x) l i=some o∧o.map (·.2)=XL x l
 |[],i,_=>⟨none,rfl,rfl⟩
 |m::l,i,h=>by
  obtain⟨s,hs⟩:=h m List.mem_cons_self
  cases hx:(x == s)with
  |true=>
   refine⟨some (i,m.val),?_,?_⟩
   ·rw[Instr.findNow,hs]
    simp[Instr.sameNow,hx]
   ·rw[XL,hs];simp[hx]
  |false=>
   obtain⟨o,h1,h2⟩:=Vn (x:=x) (l:=l) (i:=i+1) λy hy=>h y (List.mem_cons_of_mem _ hy)
   refine⟨o,?_,?_⟩
   ·rw[Instr.findNow,hs]
    simp[Instr.sameNow,hx,h1]
   ·rw[h2,XL,hs];simp[hx]
theorem af2(x y:ByteArray):(x == y)=(x.toList == y.toList):=by
 rw[show (x == y)=(x.data == y.data)by cases x;cases y;rfl,ByteArray.toList_eq,ByteArray.toList_eq,Bool.eq_iff_iff,beq_iff_eq,beq_iff_eq,Array.toList_inj]
section
variable {P:Program} {X:Nat→Prop} {w0 w:World} {r:Gh} {L:List Asr} {t k e:TypeId} {b c:Nat} {es:Array MapEntry}
theorem StX.addO(S:StX X w0 r w L){w':World}(ex:Ext w w'){o:Obj}(hb:w.heap.size≤b)(B:w'.heap[b]? = some o)(ho:Obj.isBook o=false):StX X w0 r w' (.obj b (· = o)::L):=by
 have S':=S.go ex
 refine⟨S'.x,S'.holds,?_,?_,.cons ?_ S'.apart⟩
 ·intro x hx;rcases List.mem_cons.1 hx with rfl|hx
  ·exact⟨o,B,ho,rfl⟩
  ·exact S'.has x hx
 ·intro x hx;rcases List.mem_cons.1 hx with rfl|hx
  ·rintro k rfl
   exact⟨.inl (by have:=S.x.size;omega),λo ho=>by have:=S.holds.lt ho;omega⟩
  ·exact S'.mine x hx
 ·rintro y hy k rfl hk
  have:=Asr.lt (S.has y hy) hk;omega
theorem StX.mkMap(S:StX X w0 r w L){K:Value→World→Prop}(h:∀b w',StX X w0 r w' (.obj b (· = .map #[] 0)::L)→K (.map (some b)) w'):opW P w (Instr.makeMap t none) K:=by
 refine⟨.map (some w.heap.size),{ w with heap:=w.heap.push (.map #[] 0) },?_,h _ _ (S.addO ?_ (Nat.le_refl _) ?_ rfl)⟩
 ·simp[Instr.makeMap,newObj,Sem.run_bind,Sem.run,pure,Result.andThen]
  try rfl
 ·exact⟨rfl,rfl,rfl,by simp,λb hb=>by simp[Array.getElem?_push,Nat.ne_of_lt hb]⟩
 ·simp
theorem StX.mapAdd(S:StX X w0 r w (.obj b (· = .map es c)::L)){x:ByteArray}{v:Value}(ht:mpT P t=some (k,e))(hs:ag5 es.toList)(hn:XL x es.toList=none){K:World→Prop}
  (h:∀w',StX X w0 r w' (.obj b (· = .map (es.push { key:=.string x,val:=v,born:=c }) (c+1))::L)→K w'):opU P w (Instr.mapUpdate t (.map (some b)) (.string x) v) K:=by
 obtain⟨ht,hk⟩:=adg ht
 obtain⟨o,hb,_,rfl⟩:=S.has _ List.mem_cons_self
 obtain⟨o,h1,h2⟩:=Vn (x:=x) (i:=0) hs
 have h3:o=none:=by
  rw[hn]at h2
  cases o with
  |none=>rfl
  |some y=>cases h2
 subst h3
 have hf:=run_findKey (w:=w) hk h1
 refine⟨{ w with heap:=w.heap.setIfInBounds b (.map (es.push { key:=.string x,val:=v,born:=c }) (c+1)) },?_,h _ ?_⟩
 ·simp[Instr.mapUpdate,run_underlying ht,MapKept.run_getObj_map hb,run_checkKey (w:=w) hk (k:=.string x) trivial false 9999,hf,MapKept.run_setObj_map _ hb,Result.andThen]
 ·obtain⟨e1,e2⟩:=heap_set hb (o':=.map (es.push { key:=.string x,val:=v,born:=c }) (c+1))
  exact S.turn (p:=[]) (x:=.obj b (· = .map es c)) (y:=.obj b (· = .map (es.push { key:=.string x,val:=v,born:=c }) (c+1))) ⟨rfl,rfl,rfl,by simp,λk _ hk=>e2 k hk⟩ ⟨_,e1,rfl,rfl⟩ λk hk=>.inl hk
theorem StX.mapGet(S:StX X w0 r w (.obj b (· = .map es c)::L)){x:ByteArray}{z:Value}(ht:mpT P t=some (k,e))(hz:zr1 P e=some z)(hs:ag5 es.toList){K:Value→Prop}(h:K ((XL x es.toList).getD z)):
  opQ P w (Instr.lookup t (.map (some b)) (.string x) false) K:=by
 obtain⟨ht,hk⟩:=adg ht
 obtain⟨o,hb,_,rfl⟩:=S.has _ List.mem_cons_self
 obtain⟨o,h1,h2⟩:=Vn (x:=x) (i:=0) hs
 refine⟨_,λw' ex=>?_,h⟩
 have hb':w'.heap[b]? = some (.map es c):=(ex.block b (Array.getElem?_eq_some_iff.1 hb).1).trans hb
 have hf:=run_findKey (w:=w') hk h1
 rw[← h2]
 cases o with
 |none=>simp [Instr.lookup,run_underlying ht,MapKept.run_getObj_map hb',run_checkKey (w:=w') hk (k:=.string x) trivial _ 9999,hf,abG hz,Result.andThen]
 |some y=>simp [Instr.lookup,run_underlying ht,MapKept.run_getObj_map hb',run_checkKey (w:=w') hk (k:=.string x) trivial _ 9999,hf,Result.andThen]
end
end
end Go.Sh
namespace Go.Sh
section
variable {K:Value→Prop}
theorem p_id{P:Program}{s:Sem Value}(h:opP P s K):opP P s K:=h
theorem q_id{P:Program}{w:World}{s:Sem Value}(h:opQ P w s K):opQ P w s K:=h
end
end Go.Sh
namespace Go.Proofs
open Go.Sh
section
variable {u:UnD} {a b c:Bool} {x y:Int} {g:GrD}
structure PaD where
 tt:TyD
 tm:Int
 tok:Bool
 ft:TyD
 fm:Int
 fok:Bool
 at':TyD
 aok:Bool
 bt:TyD
 bok:Bool
noncomputable def ptH(u:UnD)(g:GrD)(p:PtD)(x:PaD):Bool:=
 if p.op=1 then((zE p { to:=true,a:=true } && (x.tok&&decide (x.tm<3)))&&x.aok)&&yi yP x.at' x.tt
 else if p.op=2 then
  (zE p { to:=true,a:=true,b:=true,sign:=true } && ((x.tok&&decide (x.tm<3))&&(x.aok&&x.bok))) &&
   (if xe p.sign [[43],[45],[42],[47],[37]]then isK x.tt 1&&(isK x.at' 1&&isK x.bt 1)
    else if xe p.sign [[60],[60,61],[62],[62,61]]then isK x.tt 2&&(isK x.at' 1&&isK x.bt 1)
    else if xe p.sign [[61,61],[33,61]]then isK x.tt 2&&((isK x.at' 1&&isK x.bt 1)||(isK x.at' 2&&isK x.bt 2))else false)
 else if p.op=3 then
  ((zE p { to:=true,a:=true,sign:=true } && (x.tok&&decide (x.tm<3)))&&x.aok) &&
   (if xe p.sign [[45]]then isK x.tt 1&&isK x.at' 1 else if xe p.sign [[33]]then isK x.tt 2&&isK x.at' 2 else false)
 else if p.op=4 then
  ((((zE p { to:=true,fr:=true,mu:=true } && (x.tok&&decide (x.tm<3)))&&x.fok)&&isK x.tt 4)&&(x.tt.m == p.mu))&&(yi yP (x.tt.of.headD zK) x.ft && !(p.mu&&decide (x.fm=3)))
 else if p.op=5 then(((zE p { to:=true,a:=true } && (x.tok&&decide (x.tm<3)))&&x.aok)&&isK x.tt 3)&&yi yP (x.tt.of.headD zK) x.at'
 else if p.op=6 then
  (((zE p { to:=true,args:=true,st:=true } && (x.tok&&decide (x.tm<3)))&&isK x.tt 5)&&decide (x.tt.st=p.st))&&kh u.ss g.tys p.args (xu u.ss x.tt).1
 else if p.op=7 then
  ((zE p { to:=true,args:=true,fn:=true } && (x.tok&&decide (x.tm<3)))&&(decide (0≤p.fn)&&decide (p.fn<u.fs.length))) &&
   (match u.fs[p.fn.toNat]? with
    |some f=>yi yP x.tt (f.tys.headD zK)&&kh u.ss g.tys p.args ((f.tys.drop 1).take f.pn.toNat)
    |none=>false)
 else if p.op=8 then(zE p { to:=true } && (x.tok&&decide (x.tm<3)))&&isK x.tt 1
 else if p.op=9 then(zE p { a:=true } && x.aok)&&isK x.at' 1
 else if p.op=10 then((zE p { fr:=true } && x.fok)&&(xm u.ss x.ft).1)&&decide (x.fm<2)
 else if p.op=11 then((zE p { fr:=true } && x.fok)&&decide (0<p.fr.l))&&decide (p.fr.ps.length=0)
 else if p.op=12 then((zE p { a:=true,el:=true } && x.aok)&&isK x.at' 2)&&XE g p.el
 else if p.op=13∨p.op=14 then zE p {}
 else false
noncomputable def pad(u:UnD)(g:GrD)(p:PtD):PaD:=
 ⟨(zs u.ss g.tys p.to).1,(zs u.ss g.tys p.to).2.1,(zs u.ss g.tys p.to).2.2,(zs u.ss g.tys p.fr).1,(zs u.ss g.tys p.fr).2.1,(zs u.ss g.tys p.fr).2.2,
  (yd u.ss g.tys p.a).1,(yd u.ss g.tys p.a).2,(yd u.ss g.tys p.b).1,(yd u.ss g.tys p.b).2⟩
theorem ajd(u:UnD)(g:GrD)(p:PtD):ptG u g p=ptH u g p (pad u g p):=rfl
theorem bb4{d:Bool}(h:(((!a || !b) || !c) || !d)=true):(a&&(b&&(c&&d)))=false:=by revert h;cases a<;>cases b<;>cases c<;>cases d<;>simp
theorem akf{d:Bool}(h:(((!a || !b) || !c) || !d)=false):(a&&(b&&(c&&d)))=true:=by revert h;cases a<;>cases b<;>cases c<;>cases d<;>simp
theorem bb3(h:(((!a || !b) || !c)||decide (x≠y))=true):(((a&&b)&&c)&&decide (x=y))=false:=by
 by_cases e:x=y
 ·simp only[e]at h⊢;revert h;cases a<;>cases b<;>cases c<;>simp
 ·simp[e]
theorem akg(h:(((!a || !b) || !c)||decide (x≠y))=false):(((a&&b)&&c)&&decide (x=y))=true:=by
 by_cases e:x=y
 ·simp only[e]at h⊢;revert h;cases a<;>cases b<;>cases c<;>simp
 ·simp[e]at h
theorem bb5(h:(((!a || !b)||decide (x<0))||decide (y≤x))=true):((a&&b)&&(decide (0≤x)&&decide (x<y)))=false:=by
 by_cases e:0≤x<;>by_cases f:x<y
 ·rw[decide_eq_false (show¬x<0 by omega),decide_eq_false (show¬y≤x by omega)]at h
  revert h;cases a<;>cases b<;>simp
 all_goals simp[e,f]
theorem akh(h:(((!a || !b)||decide (x<0))||decide (y≤x))=false):((a&&b)&&(decide (0≤x)&&decide (x<y)))=true:=by
 simp only[Bool.or_eq_false_iff,decide_eq_false_iff_not,Bool.not_eq_false']at h
 obtain⟨⟨⟨h1,h2⟩,h3⟩,h4⟩:=h
 rw[h1,h2,gde (show 0≤x by omega),gde (show x<y by omega)];rfl
theorem mpK:mpT Tryz.prog 321=some (9,40):=by kernel_rfl
theorem mpZ:zr1 Tryz.prog 40=some (.int .u8 0):=by kernel_rfl
theorem ag6(x:ByteArray)(f g:Int→Bool):∃ks:Int,(XL x ((#[].push (⟨.string (bs [45]),.int .u8 1,0⟩:MapEntry)).push ⟨.string (bs [33]),.int .u8 2,0+1⟩).toList).getD (.int .u8 0)=.int .u8 ks∧
  ((decide (ks≠0)&&f ks)&&g ks)=(if xe x [[45]]then f 1&&g 1 else if xe x [[33]]then f 2&&g 2 else false):=by
 have e:((#[].push (⟨.string (bs [45]),.int .u8 1,0⟩:MapEntry)).push ⟨.string (bs [33]),.int .u8 2,0+1⟩).toList=[⟨.string (bs [45]),.int .u8 1,0⟩,⟨.string (bs [33]),.int .u8 2,0+1⟩]:=rfl
 rw[e]
 simp only[XL,af2,abu,xe,List.any_cons,List.any_nil,Bool.or_false]
 by_cases h1:(x.toList == [45])=true
 ·exact⟨1,by rw[if_pos h1];rfl,by rw[if_pos h1];simp⟩
 ·by_cases h2:(x.toList == [33])=true
  ·exact⟨2,by rw[if_neg h1,if_pos h2];rfl,by rw[if_neg h1,if_pos h2];simp⟩
  ·exact⟨0,by rw[if_neg h1,if_neg h2];rfl,by rw[if_neg h1,if_neg h2];simp⟩
theorem Qm{p:PtD}{c:List Value}{v:Value}{w:World}{r:Gh}{K:Value→World→Prop}(hr:Holds r w)(hx:AskG r v u g)(hf:qD u.ss g.tys)(hfs:∀f∈u.fs,0≤f.pn∧f.pn<f.tys.length)(hp:PtG r c p)
  (h:∀w',Ext w w'→K (.bool (zG u g p)) w'):zc Tryz.prog Tryz.kI #[v,.agg c.toArray] w K:=by
 have hx0:=hx
 obtain⟨p0,cap0,vf,vo,vt,vn,vp,rfl,hu,hg⟩:=hx
 have hu0:=hu
 obtain⟨_,_,_,hE,_,_,hst,_,hfn⟩:=hu
 cases hE
 obtain⟨qfn,capfn,rfl,_,_⟩:=hfn.sl.shape
 obtain⟨_,_,_,_,hE,_,htys,_,hpts⟩:=hg
 cases hE
 obtain⟨qp,capp,rfl,_,_⟩:=hpts.sl.shape
 have hp0:=hp
 obtain⟨vto,va,vb,vl,vfr,rfl,h1,h2,h3,h4,h5⟩:=hp
 obtain⟨qto,capto,rfl,_,_⟩:=h1.sl.shape
 obtain⟨qa,capa,rfl,_,_⟩:=h2.sl.shape
 obtain⟨qb,capb,rfl,_,_⟩:=h3.sl.shape
 obtain⟨ql,capl,rfl,_,_⟩:=h4.sl.shape
 obtain⟨qf,capf,rfl,_,_⟩:=h5.sl.shape
 have hpto:PlG r [.int .i64 p.to.l,.slice qto p.to.ps.length capto] p.to:=⟨_,rfl,h1⟩
 have hpfr:PlG r [.int .i64 p.fr.l,.slice qf p.fr.ps.length capf] p.fr:=⟨_,rfl,h5⟩
 have hoa:OpG r [.int .u8 p.a.k,.int .i64 p.a.n,.int .i64 p.a.pl.l,.slice qa p.a.pl.ps.length capa] p.a:=⟨_,rfl,h2⟩
 have hob:OpG r [.int .u8 p.b.k,.int .i64 p.b.n,.int .i64 p.b.pl.l,.slice qb p.b.pl.ps.length capb] p.b:=⟨_,rfl,h3⟩
 refine Tryz.Xz ?_
 unfold Tryz.jU
 have S:=St.start hr
 refine S.box λb2 w1 S=>?_
 refine S.box λb3 w2 S=>?_
 refine gg_ ?_
 refine S.al λb5 w3 S=>?_
 refine S.st (b:=b5) λw4 S=>?_
 refine gg_ ?_
 refine aaX (g:=decide (p.op≠14)) (c:=!XE g p.nx) (λ_ K2 hK2=>?_) (λ_ K2 hK2=>?_) ?_
 ·refine gg_ ?_
  exact hK2
 ·refine gg_ ?_
  refine abA (b:=b5) S ?_
  refine gp_ ?_
  exact hK2
 refine aaX (g:=decide (p.op=14)) (c:=decide (p.nx≠0)) (λ_ K2 hK2=>?_) (λ_ K2 hK2=>?_) ?_
 ·refine gg_ ?_
  exact hK2
 ·refine gg_ ?_
  exact hK2
 have hpg:zG u g p=(!((decide (p.tx<0)||(decide (p.op≠14) && !XE g p.nx))||(decide (p.op=14)&&decide (p.nx≠0)))&&ptG u g p):=by
  rw[zG];simp only[decide_not]
 rw[hpg]at h
 refine c_b (λhbad=>?_) (λhgood=>?_)
 ·rw[hbad,Bool.not_true,Bool.false_and]at h
  exact h _ S.ext
 rw[hgood,Bool.not_false,Bool.true_and,ajd]at h
 clear hpg hgood
 have S:=S.go (Ext.drew _)
 have S:StX noX w r w4.drew [.cell b5 [.int .i64 (g.pts.length:Nat)] 3,
   .cell b3 [.int .u8 p.op,.int .i64 p.to.l,.slice qto p.to.ps.length capto,.int .u8 p.a.k,.int .i64 p.a.n,.int .i64 p.a.pl.l,.slice qa p.a.pl.ps.length capa,.int .u8 p.b.k,.int .i64 p.b.n,.int .i64 p.b.pl.l,.slice qb p.b.pl.ps.length capb,.slice ql p.args.length capl,
    .string p.sign,.int .i64 p.fr.l,.slice qf p.fr.ps.length capf,.bool p.mu,.int .i64 p.fn,.int .i64 p.st,.int .i64 p.nx,.int .i64 p.el,.int .i64 p.tx] 96,
   .cell b2 [.slice p0 u.ss.length cap0,.slice qfn u.fs.length capfn,.int .i64 u.mn,.string g.name,.int .i64 g.lv,vo,.int .i64 g.pn,vt,vn,.slice qp g.pts.length capp] 294]:=S
 obtain⟨tt,tm,tok,hspt⟩:∃tt tm tok,zs u.ss g.tys p.to=(tt,tm,tok):=⟨_,_,_,rfl⟩
 obtain⟨ft,fm,fok,hspf⟩:∃tt tm tok,zs u.ss g.tys p.fr=(tt,tm,tok):=⟨_,_,_,rfl⟩
 obtain⟨ta,aok,hopa⟩:∃t ok,yd u.ss g.tys p.a=(t,ok):=⟨_,_,rfl⟩
 obtain⟨tb,bok,hopb⟩:∃t ok,yd u.ss g.tys p.b=(t,ok):=⟨_,_,rfl⟩
 have hpad:pad u g p=⟨tt,tm,tok,ft,fm,fok,ta,aok,tb,bok⟩:=by simp only[pad,hspt,hspf,hopa,hopb]
 rw[hpad,ptH]at h
 dsimp only at h
 have inside:tok=true→(tt.k=3∨tt.k=4)→∃uu,tt.of=[uu]:=by
  intro h1 h2
  have hfi:=abz hf (p:=p.to) (by rw[hspt];exact h1)
  rw[hspt]at hfi
  rcases Fine.cases hfi with⟨_,h3⟩|⟨uu,h3,_⟩
  ·have h3:tt.k=1∨tt.k=2∨tt.k=5:=h3
   omega
  ·exact⟨uu,h3⟩
 refine zi (λs w'=>∃b7 b8 q7 c7 q8 c8,s=[.pointer (some ⟨b7,0,none⟩),.pointer (some ⟨b8,0,none⟩)]∧TyG r (tyV tt q7 c7) tt∧TyG r (tyV ft q8 c8) ft∧
  StX noX w r w' (.cell b8 (spL ft q8 c8 fm fok) 313::.cell b7 (spL tt q7 c7 tm tok) 313::[.cell b5 [.int .i64 (g.pts.length:Nat)] 3,
   .cell b3 [.int .u8 p.op,.int .i64 p.to.l,.slice qto p.to.ps.length capto,.int .u8 p.a.k,.int .i64 p.a.n,.int .i64 p.a.pl.l,.slice qa p.a.pl.ps.length capa,.int .u8 p.b.k,.int .i64 p.b.n,.int .i64 p.b.pl.l,.slice qb p.b.pl.ps.length capb,.slice ql p.args.length capl,
    .string p.sign,.int .i64 p.fr.l,.slice qf p.fr.ps.length capf,.bool p.mu,.int .i64 p.fn,.int .i64 p.st,.int .i64 p.nx,.int .i64 p.el,.int .i64 p.tx] 96,
   .cell b2 [.slice p0 u.ss.length cap0,.slice qfn u.fs.length capfn,.int .i64 u.mn,.string g.name,.int .i64 g.lv,vo,.int .i64 g.pn,vt,vn,.slice qp g.pts.length capp] 294])) (λK30 hK30=>?_) ?_
 ·refine S.ldB (b:=b2) ?_ rfl
  refine gp_ ?_
  refine S.ldN (b:=b3) ?_
  refine S.ldB (b:=b2) ?_ rfl
  refine gp_ ?_
  refine S.ldN (b:=b3) ?_
  repeat' (first
   |(refine S.alU λb9 w9 S=>?_)
   |(refine S.al λb9 w9 S=>?_)
   |(refine S.stB λw9 S=>?_)
   |(refine yX S.holds hx0 hf hpto hspt (λq7 c7 w9 e9 ht7=>⟨e9,?_⟩);have S:=S.go e9)
   |(refine yX S.holds hx0 hf hpto hspt (λq7 c7 w9 e9 ht7=>?_);have S:=S.go e9)
   |(refine yX S.holds hx0 hf hpfr hspf (λq8 c8 w9 e9 ht8=>⟨e9,?_⟩);have S:=S.go e9)
   |(refine yX S.holds hx0 hf hpfr hspf (λq8 c8 w9 e9 ht8=>?_);have S:=S.go e9)
   |exact hK30 _ _ ⟨_,_,_,_,_,_,rfl,ht7,ht8,S⟩
   |exact hK30 _ _ ⟨_,_,_,_,_,_,rfl,ht7,ht8,S.swap⟩
   |refine ⟨?_,?_⟩)
 clear S
 rintro _ w33 ⟨b7,b8,q7,c7,q8,c8,rfl,ht7,ht8,S⟩ d33
 simp only[gdz,gds]
 refine gg_ ?_
 refine zh (c:=decide (tm<3)) (λ_ K2 hK2=>?_) ?_
 ·refine gg_ ?_
  exact hK2
 refine S.ldB (b:=b2) ?_ rfl
 refine gp_ ?_
 refine S.ldN (b:=b3) ?_
 refine xQ S.holds hx0 hf hoa hopa λq10 c10 w34 e34 hta=>?_
 have S:=S.go e34
 refine gp_ ?_
 refine gp_ ?_
 refine S.al λb10 w35 S=>?_
 refine S.stB (b:=b10) λw36 S=>?_
 refine S.ldB (b:=b2) ?_ rfl
 refine gp_ ?_
 refine S.ldN (b:=b3) ?_
 refine xQ S.holds hx0 hf hob hopb λq12 c12 w37 e37 htb=>?_
 have S:=S.go e37
 refine gp_ ?_
 refine gp_ ?_
 refine S.al λb12 w38 S=>?_
 refine S.stB (b:=b12) λw39 S=>?_
 refine gg_ ?_
 refine zj (λho=>?_) (λho=>?_)
 ·rw[if_pos ho]at h
  refine S.ldB (b:=b3) ?_ rfl
  refine gp_ ?_
  refine zZ (f:={ to:=true,a:=true }) S.holds hp0 λw31 e31=>?_
  have S:=S.go e31
  refine zh (c:=tok&&decide (tm<3)) (λ_ K2 hK2=>hK2) ?_
  refine zh (c:=aok) (λ_ K2 hK2=>hK2) ?_
  refine zH (c:=yi yP ta tt) (λ_ K2 hK2=>?_) λw32 e32=>h _ (S.go e32).ext
  refine S.ldB (b:=b10) ?_ rfl
  refine gp_ ?_
  refine S.ldN (b:=b7) ?_
  exact ky S.holds hta ht7 λw33 e33=>hK2 _ e33
 rw[if_neg ho]at h
 clear ho
 refine gg_ ?_
 refine zj (λho=>?_) (λho=>?_)
 ·rw[if_pos ho]at h
  refine S.ldB (b:=b3) ?_ rfl
  refine gp_ ?_
  refine zZ (f:={ to:=true,a:=true,b:=true,sign:=true }) S.holds hp0 λw31 e31=>?_
  have S:=S.go e31
  refine gp_ ?_
  refine zn (c:=!(tok&&decide (tm<3))) (λ_ K2 hK2=>?_) ?_
  ·refine gp_ ?_
   exact hK2
  refine zn (c:=!aok) (λ_ K2 hK2=>?_) ?_
  ·refine gp_ ?_
   exact hK2
  refine zn (c:=!bok) (λ_ K2 hK2=>?_) ?_
  ·refine gp_ ?_
   exact hK2
  refine c_b (λhc=>?_) (λhc=>?_)
  ·rw[bb4 hc,Bool.false_and]at h
   exact h _ S.ext
  rw[akf hc,Bool.true_and]at h
  refine S.ldB (b:=b10) ?_ rfl
  refine yh S.holds λw34 e34=>?_
  have S:=S.go e34
  refine zH (c:=isK tb 1) (λhb K2 hK2=>?_) λw32 e32=>?_
  ·refine S.ldB (b:=b12) ?_ rfl
   exact yh S.holds λw33 e33=>hK2 _ e33
  have S:=S.go e32
  refine gg_ ?_
  refine zi (λs w'=>s=[.bool (xe p.sign [[43],[45],[42],[47],[37]])]∧Ext w32 w') (λK9 hK9=>?_) ?_
  ·have hk:=hK9 _ _ ⟨rfl,Ext.refl _⟩
   simp only[xe,List.any_cons,List.any_nil,Bool.or_false]at hk
   refine gp_ ?_
   refine jC hk λ_ hk=>?_
   refine gp_ ?_
   refine jC hk λ_ hk=>?_
   refine gp_ ?_
   refine jC hk λ_ hk=>?_
   refine gp_ ?_
   refine jC hk λ_ hk=>?_
   refine gp_ ?_
   exact hk
  rintro _ w41 ⟨rfl,e41⟩ d41
  have S:=S.go e41
  rw[gdz]
  refine c_b (λhs=>?_) (λhs=>?_)
  ·rw[if_pos hs]at h
   refine gp_ ?_
   refine S.ldN (b:=b7) ?_
   refine yh S.holds λw35 e35=>?_
   have S:=S.go e35
   exact zh (c:=isK ta 1&&isK tb 1) (λ_ K2 hK2=>hK2) (h _ S.ext)
  rw[if_neg (by rw[hs];decide)]at h
  refine zi (λs w'=>s=[.bool (xe p.sign [[60],[60,61],[62],[62,61]])]∧Ext w41 w') (λK9 hK9=>?_) ?_
  ·have hk:=hK9 _ _ ⟨rfl,Ext.refl _⟩
   simp only[xe,List.any_cons,List.any_nil,Bool.or_false]at hk
   refine gp_ ?_
   refine jC hk λ_ hk=>?_
   refine gp_ ?_
   refine jC hk λ_ hk=>?_
   refine gp_ ?_
   refine jC hk λ_ hk=>?_
   refine gp_ ?_
   exact hk
  rintro _ w41 ⟨rfl,e41⟩ d41
  have S:=S.go e41
  rw[gdz]
  refine c_b (λhs=>?_) (λhs=>?_)
  ·rw[if_pos hs]at h
   refine gp_ ?_
   refine S.ldN (b:=b7) ?_
   refine yh S.holds λw35 e35=>?_
   have S:=S.go e35
   exact zh (c:=isK ta 1&&isK tb 1) (λ_ K2 hK2=>hK2) (h _ S.ext)
  rw[if_neg (by rw[hs];decide)]at h
  refine zi (λs w'=>s=[.bool (xe p.sign [[61,61],[33,61]])]∧Ext w41 w') (λK9 hK9=>?_) ?_
  ·have hk:=hK9 _ _ ⟨rfl,Ext.refl _⟩
   simp only[xe,List.any_cons,List.any_nil,Bool.or_false]at hk
   refine gp_ ?_
   refine jC hk λ_ hk=>?_
   refine gp_ ?_
   exact hk
  rintro _ w41 ⟨rfl,e41⟩ d41
  have S:=S.go e41
  rw[gdz]
  refine c_b (λhs=>?_) (λhs=>?_)
  rotate_left
  ·rw[if_neg (by rw[hs];decide)]at h
   exact h _ S.ext
  rw[if_pos hs]at h
  refine gp_ ?_
  refine S.ldN (b:=b7) ?_
  refine yh S.holds λw35 e35=>?_
  have S:=S.go e35
  generalize isK tt 2=x1 at h⊢
  generalize (isK ta 1&&isK tb 1)=x2 at h⊢
  cases x1 with
  |false=>
   (intro K9 hK9;refine gd_ ?_;refine hK9 _ _ λ_=>?_;clear hK9 K9)
   (intro K9 hK9;refine gd_ ?_;refine hK9 _ _ λ_=>?_;clear hK9 K9)
   (intro K9 hK9;refine gd_ ?_;refine hK9 _ _ λ_=>?_;clear hK9 K9)
   (intro K9 hK9;refine gd_ ?_;refine hK9 _ _ λ_=>?_;clear hK9 K9)
   (intro K9 hK9;refine gd_ ?_;refine hK9 _ _ λ_=>?_;clear hK9 K9)
   refine gd_ ?_
   exact h _ S.ext
  |true=>
   cases x2 with
   |true=>
    (intro K9 hK9;refine gd_ ?_;refine hK9 _ _ λ_=>?_;clear hK9 K9)
    (intro K9 hK9;refine gd_ ?_;refine hK9 _ _ λ_=>?_;clear hK9 K9)
    (intro K9 hK9;refine gd_ ?_;refine hK9 _ _ λ_=>?_;clear hK9 K9)
    (intro K9 hK9;refine gd_ ?_;refine hK9 _ _ λ_=>?_;clear hK9 K9)
    (intro K9 hK9;refine gd_ ?_;refine hK9 _ _ λ_=>?_;clear hK9 K9)
    refine gd_ ?_
    exact h _ S.ext
   |false=>
    (intro K9 hK9;refine gd_ ?_;refine hK9 _ _ λ_=>?_;clear hK9 K9)
    refine zi (λs w'=>s=[.bool (isK ta 2)]∧Ext w35 w') (λK9 hK9=>?_) ?_
    ·refine gd_ ?_
     exact yh S.holds λw36 e36=>hK9 _ _ ⟨rfl,e36⟩
    rintro _ w37 ⟨rfl,e37⟩ d37
    have S:=S.go e37
    generalize isK ta 2=x3 at h⊢
    cases x3 with
    |false=>
     (intro K9 hK9;refine gd_ ?_;refine hK9 _ _ λ_=>?_;clear hK9 K9)
     (intro K9 hK9;refine gd_ ?_;refine hK9 _ _ λ_=>?_;clear hK9 K9)
     (intro K9 hK9;refine gd_ ?_;refine hK9 _ _ λ_=>?_;clear hK9 K9)
     refine gd_ ?_
     exact h _ S.ext
    |true=>
     refine zi (λs w'=>s=[.bool (isK tb 2)]∧Ext w37 w') (λK9 hK9=>?_) ?_
     ·refine gd_ ?_
      exact yh S.holds λw36 e36=>hK9 _ _ ⟨rfl,e36⟩
     rintro _ w38 ⟨rfl,e38⟩ d38
     have S:=S.go e38
     generalize isK tb 2=x4 at h⊢
     (intro K9 hK9;refine gd_ ?_;refine hK9 _ _ λ_=>?_;clear hK9 K9)
     (intro K9 hK9;refine gd_ ?_;refine hK9 _ _ λ_=>?_;clear hK9 K9)
     refine gd_ ?_
     cases x4<;>exact h _ S.ext
 rw[if_neg ho]at h
 clear ho
 refine gg_ ?_
 refine zj (λho=>?_) (λho=>?_)
 ·rw[if_pos ho]at h
  refine S.mkMap λb70 w70 S=>?_
  refine S.mapAdd mpK (by intro m hm;cases hm) rfl λw71 S=>?_
  refine S.mapAdd mpK (by intro m hm;rcases List.mem_cons.1 hm with rfl|hm<;>first|exact ⟨_,rfl⟩|cases hm) (by decide) λw72 S=>?_
  refine gg_ ?_
  refine S.mapGet mpK mpZ (by
   intro m hm
   rcases List.mem_cons.1 hm with rfl|hm
   ·exact⟨_,rfl⟩
   rcases List.mem_cons.1 hm with rfl|hm<;>first|exact ⟨_,rfl⟩|cases hm) ?_
  obtain⟨ks,hks,hk2⟩:=ag6 p.sign (isK tt) (isK ta)
  rw[hks]
  refine S.ldB (b:=b3) ?_ rfl
  refine gp_ ?_
  refine zZ (f:={ to:=true,a:=true,sign:=true }) S.holds hp0 λw31 e31=>?_
  have S:=S.go e31
  refine zh (c:=tok&&decide (tm<3)) (λ_ K2 hK2=>hK2) ?_
  refine zh (c:=aok) (λ_ K2 hK2=>hK2) ?_
  refine zh (c:=decide (ks≠0)) (λ_ K2 hK2=>?_) ?_
  ·refine gp_ ?_
   exact hK2
  refine zH (c:=isK tt ks) (λhb K2 hK2=>?_) λw32 e32=>?_
  ·refine gp_ ?_
   refine S.ldN (b:=b7) ?_
   exact yh S.holds λw33 e33=>hK2 _ e33
  have S:=S.go e32
  refine zH (c:=isK ta ks) (λhb K2 hK2=>?_) λw32 e32=>?_
  ·refine S.ldB (b:=b10) ?_ rfl
   exact yh S.holds λw33 e33=>hK2 _ e33
  have S:=S.go e32
  have:=h _ S.ext
  rw[← hk2]at this
  simpa only[Bool.and_assoc]using this
 rw[if_neg ho]at h
 clear ho
 refine gg_ ?_
 refine zj (λho=>?_) (λho=>?_)
 ·rw[if_pos ho]at h
  have S:=S.go (Ext.drew _)
  refine S.ldB (b:=b3) ?_ rfl
  refine gp_ ?_
  refine zZ (f:={ to:=true,fr:=true,mu:=true }) S.holds hp0 λw31 e31=>?_
  have S:=S.go e31
  refine zh (c:=tok&&decide (tm<3)) (λ_ K2 hK2=>hK2) ?_
  refine zh (c:=fok) (λ_ K2 hK2=>?_) ?_
  ·refine gg_ ?_
   exact hK2
  refine zH (c:=isK tt 4) (λhb K2 hK2=>?_) λw32 e32=>?_
  ·refine gp_ ?_
   refine S.ldN (b:=b7) ?_
   exact yh S.holds λw33 e33=>hK2 _ e33
  have S:=S.go e32
  refine zh (c:=tt.m == p.mu) (λ_ K2 hK2=>?_) ?_
  ·refine gg_ ?_
   exact hK2
  refine zH (c:=yi yP (tt.of.headD zK) ft) (λhb K2 hK2=>?_) λw33 e33=>?_
  ·simp only[gba]at hb
   obtain⟨uu,hof⟩:=inside hb.1.1.1.2.1 (.inr (of_decide_eq_true hb.1.2))
   obtain⟨bo,oo,q2,cap2,rfl,ht2,hcc⟩:=V5 ht7 hof
   have hl1:tt.of.length=1:=by rw[hof];rfl
   rw[hof]at hK2
   refine gg_ ?_
   refine zq (n:=5) (c:=tyL uu q2 cap2) rfl (λj v hj=>by simpa using S.at (hcc j v hj)) ?_
   refine gp_ ?_
   refine S.ldN (b:=b8) ?_
   exact ky S.holds ht2 ht8 λw34 e34=>hK2 _ e34
  have S:=S.go e33
  have:=h _ S.ext
  rw[← Bool.and_assoc]at this
  generalize ((((((zE p { to:=true,fr:=true,mu:=true } && (tok&&decide (tm<3)))&&fok)&&isK tt 4)&&(tt.m == p.mu))&&yi yP (tt.of.headD zK) ft))=B at this⊢
  cases B with
  |false=>
   (intro K9 hK9;refine gd_ ?_;refine hK9 _ _ λ_=>?_;clear hK9 K9)
   (intro K9 hK9;refine gd_ ?_;refine hK9 _ _ λ_=>?_;clear hK9 K9)
   (intro K9 hK9;refine gd_ ?_;refine hK9 _ _ λ_=>?_;clear hK9 K9)
   refine gd_ ?_
   exact this
  |true=>
   refine zi (λs w'=>s=[.bool p.mu]∧w'=w33) (λK9 hK9=>?_) ?_
   ·refine gd_ ?_
    exact hK9 _ _ ⟨rfl,rfl⟩
   rintro _ w33 ⟨rfl,rfl⟩ d33
   generalize p.mu=mu at this⊢
   cases mu with
   |false=>
    (intro K9 hK9;refine gd_ ?_;refine hK9 _ _ λ_=>?_;clear hK9 K9)
    (intro K9 hK9;refine gd_ ?_;refine hK9 _ _ λ_=>?_;clear hK9 K9)
    refine gd_ ?_
    exact this
   |true=>
    refine zi (λs w'=>s=[.bool (decide (fm=3))]∧w'=w33) (λK9 hK9=>?_) ?_
    ·refine gd_ ?_
     exact hK9 _ _ ⟨rfl,rfl⟩
    rintro _ w33 ⟨rfl,rfl⟩ d33
    (intro K9 hK9;refine gd_ ?_;refine hK9 _ _ λ_=>?_;clear hK9 K9)
    refine gd_ ?_
    simpa using this
 rw[if_neg ho]at h
 clear ho
 refine gg_ ?_
 refine zj (λho=>?_) (λho=>?_)
 ·rw[if_pos ho]at h
  have S:=S.go (Ext.drew _)
  refine S.ldB (b:=b3) ?_ rfl
  refine gp_ ?_
  refine zZ (f:={ to:=true,a:=true }) S.holds hp0 λw31 e31=>?_
  have S:=S.go e31
  refine zh (c:=tok&&decide (tm<3)) (λ_ K2 hK2=>hK2) ?_
  refine zh (c:=aok) (λ_ K2 hK2=>hK2) ?_
  refine zH (c:=isK tt 3) (λhb K2 hK2=>?_) λw32 e32=>?_
  ·refine gp_ ?_
   refine S.ldN (b:=b7) ?_
   exact yh S.holds λw33 e33=>hK2 _ e33
  have S:=S.go e32
  refine zH (c:=yi yP (tt.of.headD zK) ta) (λhb K2 hK2=>?_) λw33 e33=>h _ (S.go e33).ext
  simp only[gba]at hb
  obtain⟨uu,hof⟩:=inside hb.1.1.2.1 (.inl (of_decide_eq_true hb.2))
  obtain⟨bo,oo,q2,cap2,rfl,ht2,hcc⟩:=V5 ht7 hof
  have hl1:tt.of.length=1:=by rw[hof];rfl
  rw[hof]at hK2
  refine gg_ ?_
  refine zq (n:=5) (c:=tyL uu q2 cap2) rfl (λj v hj=>by simpa using S.at (hcc j v hj)) ?_
  refine S.ldB (b:=b10) ?_ rfl
  exact ky S.holds ht2 hta λw34 e34=>hK2 _ e34
 rw[if_neg ho]at h
 clear ho
 refine gg_ ?_
 refine zj (λho=>?_) (λho=>?_)
 ·rw[if_pos ho]at h
  refine S.ldB (b:=b3) ?_ rfl
  refine gp_ ?_
  refine zZ (f:={ to:=true,args:=true,st:=true }) S.holds hp0 λw31 e31=>?_
  have S:=S.go e31
  refine gp_ ?_
  refine zn (c:=!(tok&&decide (tm<3))) (λ_ K2 hK2=>?_) ?_
  ·refine gp_ ?_
   exact hK2
  refine kq (c:=!isK tt 5) (λ_ K2 hK2=>?_) λw32 e32=>?_
  ·refine gp_ ?_
   refine S.ldN (b:=b7) ?_
   refine yh S.holds λw33 e33=>?_
   refine gp_ ?_
   exact hK2 _ e33
  have S:=S.go e32
  refine zn (c:=decide (tt.st≠p.st)) (λ_ K2 hK2=>?_) ?_
  ·refine gg_ ?_
   exact hK2
  refine c_b (λhc=>?_) (λhc=>?_)
  ·rw[bb3 hc,Bool.false_and]at h
   exact h _ S.ext
  rw[akg hc,Bool.true_and]at h
  refine gg_ ?_
  refine S.ldN (b:=b7) ?_
  refine aaV S.holds hst ht7 λq9 cp9 top gs w35 e35 n35 hfd hcp=>?_
  have S:=S.new e35 n35
  refine gp_ ?_
  refine gp_ ?_
  refine abC (r:=((r.or (top.or (un gs 0 (xu u.ss tt).1.length))).or (Go.Sh.one b2 _ _)).or (Go.Sh.one b3 _ _)) ((S.holdW b2).or (xx (S.blk b3))) (xt (b:=b2)).up (xt (b:=b3)).up hx0.up rfl hf hp0.up (agY hfd).up λw44 e44=>?_
  exact h _ (S.go e44).ext
 rw[if_neg ho]at h
 clear ho
 refine gg_ ?_
 refine zj (λho=>?_) (λho=>?_)
 ·rw[if_pos ho]at h
  refine S.ldB (b:=b3) ?_ rfl
  refine gp_ ?_
  refine zZ (f:={ to:=true,args:=true,fn:=true }) S.holds hp0 λw31 e31=>?_
  have S:=S.go e31
  refine gp_ ?_
  refine zn (c:=!(tok&&decide (tm<3))) (λ_ K2 hK2=>?_) ?_
  ·refine gp_ ?_
   exact hK2
  refine zn (c:=decide (p.fn<0)) (λ_ K2 hK2=>?_) ?_
  ·refine gg_ ?_
   exact hK2
  refine zn (c:=decide ((u.fs.length:Int)≤p.fn)) (λ_ K2 hK2=>?_) ?_
  ·refine gg_ ?_
   exact hK2
  refine c_b (λhc=>?_) (λhc=>?_)
  ·rw[bb5 hc,Bool.false_and]at h
   exact h _ S.ext
  rw[akh hc,Bool.true_and]at h
  have hfl:0≤p.fn∧p.fn<u.fs.length:=by
   simp only[Bool.or_eq_false_iff,decide_eq_false_iff_not]at hc;omega
  have hfi:p.fn.toNat<u.fs.length:=by omega
  rw[gqg hfi]at h
  obtain⟨bg,og,cg,rfl,hcg,hgg,hgc⟩:=hfn.sl.get (by decide) hfi
  have hfp:=hfs _ (gem hfi)
  generalize u.fs[p.fn.toNat]=fd at h hgg hfp
  obtain⟨vo2,vt2,vn2,vp2,rfl,hg1,hg2,hg3,hg4⟩:=hgg
  obtain⟨qo2,co2,rfl,_,_⟩:=hg1.sl.shape
  obtain⟨qt2,ct2,rfl,_,hct2⟩:=hg2.sl.shape
  obtain⟨qn2,cn2,rfl,_,_⟩:=hg3.sl.shape
  obtain⟨qp2,cp2,rfl,_,_⟩:=hg4.sl.shape
  refine gg_ ?_
  refine zq (n:=7) hcg (λj v hj=>S.at (hgc j v hj)) ?_
  refine S.al λb20 w50 S=>?_
  refine S.stB (b:=b20) λw51 S=>?_
  have S:=S.go (Ext.drew _)
  have htl:=ZB hg2.sl
  have htl9:fd.tys.length≤9223372036854775807:=hg2.few
  obtain⟨bt2,ot2,cc2,rfl,hcc2,hcl2,hct3⟩:=htl 0 (by omega)
  obtain⟨q4,cap4,rfl,ht4⟩:=xh hct3
  have hhd:fd.tys.headD zK=fd.tys[0]'(by omega):=by
   rw[List.headD_eq_head?_getD,List.head?_eq_getElem?,gqg (by omega),Option.getD_some]
  dsimp only at h
  rw[hhd]at h
  refine gp_ ?_
  refine S.ldN (b:=b7) ?_
  refine gg_ ?_
  refine zq (n:=5) hcc2 (λj v hj=>by simpa using S.at (hcl2 j v hj)) ?_
  refine ky S.holds ht7 ht4 λw52 e52=>?_
  have S:=S.go e52
  refine zH (c:=kh u.ss g.tys p.args ((fd.tys.drop 1).take fd.pn.toNat)) (λ_ K2 hK2=>?_) λw53 e53=>h _ (S.go e53).ext
  refine gg_ ?_
  have hl9:(fd.pn+1).toNat-(1:Int).toNat=((fd.tys.drop 1).take fd.pn.toNat).length:=by
   rw[List.length_take,List.length_drop];omega
  rw[hl9]
  refine abC (r:=(r.or (Go.Sh.one b2 _ _)).or (Go.Sh.one b3 _ _)) ((S.holdW b2).or (xx (S.blk b3))) (xt (b:=b2)).up (xt (b:=b3)).up hx0.up rfl hf hp0.up (htl.sub (a:=(1:Int).toNat) (n:=fd.pn.toNat) hct2).up λw44 e44=>?_
  exact hK2 _ e44
 rw[if_neg ho]at h
 clear ho
 refine gg_ ?_
 refine zj (λho=>?_) (λho=>?_)
 ·rw[if_pos ho]at h
  refine S.ldB (b:=b3) ?_ rfl
  refine gp_ ?_
  refine zZ (f:={ to:=true }) S.holds hp0 λw31 e31=>?_
  have S:=S.go e31
  refine zh (c:=tok&&decide (tm<3)) (λ_ K2 hK2=>hK2) ?_
  refine zH (c:=isK tt 1) (λhb K2 hK2=>?_) λw32 e32=>?_
  ·refine gp_ ?_
   refine S.ldN (b:=b7) ?_
   exact yh S.holds λw33 e33=>hK2 _ e33
  have S:=S.go e32
  exact h _ S.ext
 rw[if_neg ho]at h
 clear ho
 refine gg_ ?_
 refine zj (λho=>?_) (λho=>?_)
 ·rw[if_pos ho]at h
  refine S.ldB (b:=b3) ?_ rfl
  refine gp_ ?_
  refine zZ (f:={ a:=true }) S.holds hp0 λw31 e31=>?_
  have S:=S.go e31
  refine zh (c:=aok) (λ_ K2 hK2=>hK2) ?_
  refine zH (c:=isK ta 1) (λhb K2 hK2=>?_) λw32 e32=>?_
  ·refine S.ldB (b:=b10) ?_ rfl
   exact yh S.holds λw33 e33=>hK2 _ e33
  have S:=S.go e32
  exact h _ S.ext
 rw[if_neg ho]at h
 clear ho
 refine gg_ ?_
 refine zj (λho=>?_) (λho=>?_)
 ·rw[if_pos ho]at h
  refine gg_ ?_
  refine S.ldN (b:=b8) ?_
  refine X7 S.holds hst ht8 λw35 e35=>?_
  have S:=S.go e35
  refine gp_ ?_
  refine gp_ ?_
  refine S.ldB (b:=b3) ?_ rfl
  refine gp_ ?_
  refine zZ (f:={ fr:=true }) S.holds hp0 λw31 e31=>?_
  have S:=S.go e31
  refine zh (c:=fok) (λ_ K2 hK2=>?_) ?_
  ·refine gg_ ?_
   exact hK2
  refine zh (c:=(xm u.ss ft).1) (λ_ K2 hK2=>hK2) ?_
  refine zh (c:=decide (fm<2)) (λ_ K2 hK2=>?_) (h _ S.ext)
  refine gg_ ?_
  exact hK2
 rw[if_neg ho]at h
 clear ho
 refine gg_ ?_
 refine zj (λho=>?_) (λho=>?_)
 ·rw[if_pos ho]at h
  refine S.ldB (b:=b3) ?_ rfl
  refine gp_ ?_
  refine zZ (f:={ fr:=true }) S.holds hp0 λw31 e31=>?_
  have S:=S.go e31
  refine zh (c:=fok) (λ_ K2 hK2=>?_) ?_
  ·refine gg_ ?_
   exact hK2
  refine zh (c:=decide (0<p.fr.l)) (λ_ K2 hK2=>?_) ?_
  ·refine gg_ ?_
   exact hK2
  refine zh (c:=decide (p.fr.ps.length=0)) (λ_ K2 hK2=>?_) (h _ S.ext)
  refine gg_ ?_
  rw[YL]
  exact hK2
 rw[if_neg ho]at h
 clear ho
 refine gg_ ?_
 refine zj (λho=>?_) (λho=>?_)
 ·rw[if_pos ho]at h
  refine S.ldB (b:=b3) ?_ rfl
  refine gp_ ?_
  refine zZ (f:={ a:=true,el:=true }) S.holds hp0 λw31 e31=>?_
  have S:=S.go e31
  refine zh (c:=aok) (λ_ K2 hK2=>hK2) ?_
  refine zH (c:=isK ta 2) (λhb K2 hK2=>?_) λw32 e32=>?_
  ·refine S.ldB (b:=b10) ?_ rfl
   exact yh S.holds λw33 e33=>hK2 _ e33
  have S:=S.go e32
  refine zh (c:=XE g p.el) (λ_ K2 hK2=>?_) (h _ S.ext)
  refine gg_ ?_
  exact abA (b:=b5) S hK2
 rw[if_neg ho]at h
 clear ho
 refine gg_ ?_
 refine zi (λs w'=>s=[.bool (decide (p.op=13∨p.op=14))]∧Ext w39 w') (λK9 hK9=>?_) ?_
 ·have hk:=hK9 _ _ ⟨rfl,Ext.refl _⟩
  rw[Bool.decide_or]at hk
  refine gp_ ?_
  refine jC hk λ_ hk=>?_
  refine gp_ ?_
  exact hk
 rintro _ w41 ⟨rfl,e41⟩ d41
 have S:=S.go e41
 rw[gdz]
 refine zj (λho=>?_) (λho=>?_)
 ·rw[if_pos ho]at h
  refine S.ldB (b:=b3) ?_ rfl
  refine gp_ ?_
  refine zZ (f:={}) S.holds hp0 λw31 e31=>h _ (S.go e31).ext
 ·rw[if_neg ho]at h
  exact h _ S.ext
theorem qV{u:UnD}:∀{l:List GrD}{i:Nat},qT u i l=none↔∀(j:Nat)(h:j<l.length),ki u (i+j) l[j]=true
 |[],i=>⟨λ_ j h=>absurd h (Nat.not_lt_zero _),λ_=>rfl⟩
 |g::l,i=>by
  rw[qT]
  constructor
  ·intro h j hj
   split at h
   ·rename_i hg
    cases j with
    |zero=>exact hg
    |succ j=>
     have:=(qV (l:=l) (i:=i+1)).1 h j (by simpa using hj)
     rw[List.getElem_cons_succ,show i+(j+1)=i+1+j by omega];exact this
   ·cases h
  ·intro h
   rw[if_pos (show ki u i g=true from h 0 (Nat.zero_lt_succ _))]
   refine(qV (l:=l) (i:=i+1)).2 λj hj=>?_
   have:=h (j+1) (by simpa using hj)
   rwa[List.getElem_cons_succ,show i+(j+1)=i+1+j by omega]at this
theorem Zv{u:UnD}{g:GrD}:∀{l:List PtD}{q:Nat},Zu u g q l=none↔∀p∈l,zG u g p=true
 |[],q=>⟨λ_ p h=>(by cases h),λ_=>rfl⟩
 |x::l,q=>by
  rw[Zu]
  constructor
  ·intro h p hp
   split at h
   ·rename_i hx
    rcases List.mem_cons.1 hp with rfl|hp
    ·exact hx
    ·exact(Zv (l:=l) (q:=q+1)).1 h p hp
   ·cases h
  ·intro h
   rw[if_pos (h x List.mem_cons_self)]
   exact(Zv (l:=l) (q:=q+1)).2 λp hp=>h p (List.mem_cons_of_mem _ hp)
theorem Yu{u:UnD}:∀{l:List GrD}{i:Nat},ZX u i l=none↔∀g∈l,∀p∈g.pts,zG u g p=true
 |[],i=>⟨λ_ g h=>(by cases h),λ_=>rfl⟩
 |x::l,i=>by
  rw[ZX]
  constructor
  ·intro h g hg
   split at h
   ·cases h
   ·rename_i hx
    rcases List.mem_cons.1 hg with rfl|hg
    ·exact Zv.1 hx
    ·exact(Yu (l:=l) (i:=i+1)).1 h g hg
  ·intro h
   rw[Zv.2 (h x List.mem_cons_self)]
   exact(Yu (l:=l) (i:=i+1)).2 λg hg=>h g (List.mem_cons_of_mem _ hg)
structure MayU(u:UnD):Prop where
 ok:(zI u.ss).2=0
 fs1:1≤u.fs.length
 fs32:u.fs.length≤32
 mn0:0≤u.mn
 mn1:u.mn<u.fs.length
 head:∀(i:Nat)(h:i<u.fs.length),ki u i u.fs[i]=true
 pts:∀g∈u.fs,∀p∈g.pts,zG u g p=true
theorem af3(h:MayU u):qU u=(0,0,0):=by
 have h1:=h.fs1;have h2:=h.fs32;have h3:=h.mn0;have h4:=h.mn1
 unfold qU
 rw[if_neg (by rw[h.ok,decide_eq_false (show¬u.fs.length<1 by omega),decide_eq_false (show¬32<u.fs.length by omega),decide_eq_false (show¬u.mn<0 by omega),decide_eq_false (show¬(u.fs.length:Int)≤u.mn by omega)];decide),
  qV.2 (λj hj=>by rw[Nat.zero_add];exact h.head j hj)]
 dsimp only
 rw[Yu.2 h.pts]
theorem af4(h:(qU u).2.2=0):MayU u:=by
 unfold qU at h
 split at h
 ·cases h
 ·rename_i h1
  split at h
  ·cases h
  ·rename_i h2
   split at h
   ·cases h
   ·rename_i h3
    simp only[Bool.or_eq_true,Bool.not_eq_true',decide_eq_false_iff_not,gdt,not_or]at h1
    obtain⟨⟨h4,h5,h6⟩,h7,h8⟩:=h1
    exact⟨by omega,by omega,by omega,by omega,by omega,λi hi=>by have:=qV.1 h2 i hi;rwa[Nat.zero_add]at this,Yu.1 h3⟩
theorem Vo:Vh u=true↔MayU u:=by
 rw[Vh,gdt]
 exact⟨af4,λh=>by rw[af3 h]⟩
structure HeadU(u:UnD)(fn:Nat)(g:GrD):Prop where
 lv0:0≤g.lv
 lv8:g.lv≤8
 pn0:0≤g.pn
 pn8:g.pn≤8
 pn1:g.pn<g.tys.length
 ty512:g.tys.length≤512
 nms:g.nms.length=g.tys.length
 tys:j4 u g 0 g.tys=true
 pt1:1≤g.pts.length
 pt1024:g.pts.length≤1024
 outs:XF g=true
 loans:xb g.pts≤256
 main:(fn:Int)=u.mn→g.lv=0∧g.pn=0∧(g.tys.headD zK).k=1
theorem ae0{fn:Nat}(h:ki u fn g=true):HeadU u fn g:=by
 simp only[ki,gba,Bool.or_eq_true,Bool.not_eq_true',gdt,decide_eq_false_iff_not,isK]at h
 obtain⟨⟨⟨⟨⟨⟨⟨h1,h2⟩,h3,h4⟩,h5,h6⟩,h7⟩,h8⟩,⟨h9,h10⟩,h11⟩,h12,h13⟩:=h
 exact⟨h1,h2,h3,h4,by omega,h6,h7,h8,h9,h10,h11,h12,λe=>by rcases h13 with h|⟨⟨h,h'⟩,h2⟩
                                                           ·exact absurd e h
                                                           ·exact⟨h,h',h2⟩⟩
theorem HeadU.fine{fn:Nat}(h:HeadU u fn g)(ok:(zI u.ss).2=0):qD u.ss g.tys:=by
 obtain⟨h1,h2,h3,h4,_⟩:=qw ok
 exact⟨h1,h3,h4,λt ht=>(QG (ade h.tys t ht)).2⟩
theorem MayU.hd(h:MayU u){i:Nat}(hi:i<u.fs.length):HeadU u i u.fs[i]:=ae0 (h.head i hi)
end
end Go.Proofs
namespace Go.Sh
theorem ag7{w:World}{A2:(List Value→World→Prop)→Prop}{A3 A4 A5:(List Value→World→Prop)→World→Prop}{Z:Value→World→Prop}{b1 b2 b3 b4 b5:Bool}
  (h2:∀K:List Value→World→Prop,K [.bool b2] w→A2 K) (h3:∀K:List Value→World→Prop,K [.bool b3] w→A3 K w) (h4:∀K:List Value→World→Prop,K [.bool b4] w→A4 K w) (h5:∀K:List Value→World→Prop,K [.bool b5] w→A5 K w)
  (hZ:Z (.bool (b1&&(b2||((b3&&b4)&&b5)))) w):
  za (λK=>gIf (.bool b1) true (A2 K) (K [u_] w)) λs64 _ w66=>
   za (λK=>gIf (s64.getD 0 u_) false (A3 K w66) (K [u_] w66)) λs68 _ w70=>
    za (λK=>gIf (s68.getD 0 u_) true (A4 K w70) (K [u_] w70)) λs72 _ w74=>
     za (λK=>gIf (s64.getD 0 u_) false (zd (s68.getD 0 u_) (s72.getD 0 u_) (.bool false) λt=>K [t] w74) (K [u_] w74)) λs76 _ w78=>
      za (λK=>gIf (s76.getD 0 u_) true (A5 K w78) (K [u_] w78)) λs80 _ w82=>
       za (λK=>gIf (s64.getD 0 u_) false (zd (s76.getD 0 u_) (s80.getD 0 u_) (.bool false) λt=>K [t] w82) (K [u_] w82)) λs84 _ w86=>
        za (λK=>gIf (.bool b1) true (zd (s64.getD 0 u_) (.bool true) (s84.getD 0 u_) λt=>K [t] w86) (K [u_] w86)) λs88 _ w90=>
         zd (.bool b1) (s88.getD 0 u_) (.bool false) λt=>Z t w90:=by
 cases b1<;>cases b2<;>cases b3<;>cases b4 <;>
  (iterate 7 (intro K hK;first|refine hK _ _ λ_=>?_|refine h2 _ (hK _ _ λ_=>?_)|refine h3 _ (hK _ _ λ_=>?_)|refine h4 _ (hK _ _ λ_=>?_)|refine h5 _ (hK _ _ λ_=>?_)|refine ⟨_,rfl,hK _ _ λ_=>?_⟩)) <;>
  exact⟨_,rfl,by simpa using hZ⟩
end Go.Sh
namespace Go.Proofs
open Go.Sh
theorem ae1{a b:Nat}:decide ((a:Int)≠(b:Int))=decide (a≠b):=decide_eq_decide.2 (by omega)
theorem aih{u:UnD}{g:GrD}{i:Nat}{t:TyD}:tyG u g i t=(mayB u.ss t && !((zz t).any λr=>decide (r<(if(i:Int)≤g.pn then 0 else -1))||decide (g.lv≤r))):=by
 rw[tyG,List.not_any_eq_all_not]
theorem adh{u:UnD}{i:Nat}{v:Value}{w:World}{r:Gh}{K:Value→World→Prop}(hi:i<u.fs.length)(hr:Holds r w)(hu:UnG r v u)
  (h:∀w',Ext w w'→K (.bool (ki u i u.fs[i])) w'):zc Tryz.prog Tryz.ZH #[v,.int .i64 i] w K:=by
 obtain⟨p0,cap0,vf,rfl,_,_,hst,hsl,hfn⟩:=hu
 obtain⟨qf,capf,rfl,_,_⟩:=hfn.sl.shape
 obtain⟨bf,of,cf,rfl,hcf,hgc,hfo⟩:=hfn.sl.get (by decide) hi
 refine Tryz.abU ?_
 unfold Tryz.Qv
 generalize hgi:u.fs[i]=g at h hgc
 obtain⟨vo,vt,vn,vp,rfl,h1,h2,h3,h4⟩:=id hgc
 obtain⟨qo,capo,rfl,_,_⟩:=h1.sl.shape
 obtain⟨qt,capt,rfl,_,hct⟩:=h2.sl.shape
 obtain⟨qn,capn,rfl,_,_⟩:=h3.sl.shape
 obtain⟨qp,capp,rfl,_,_⟩:=h4.sl.shape
 have hptl:g.pts.length≤9223372036854775807:=h4.few
 have htl:g.tys.length≤9223372036854775807:=h2.few
 have S:=St.start hr
 refine S.box λb2 w1 S=>?_
 refine gG_ ?_
 refine zq (n:=7) hcf (λj v hj=>by rw[tnc];exact S.at (hfo j v hj)) ?_
 refine S.al λb5 w2 S=>?_
 refine S.stB (b:=b5) λw3 S=>?_
 refine gG_ ?_
 have no:(HeadU u i g→False)→ki u i g=false:=λhh=>by
  cases e:ki u i g
  ·rfl
  ·exact(hh (ae0 e)).elim
 refine zn (c:=decide (8<g.lv)) (λ_ K2 hK2=>?_) ?_
 ·refine gG_ ?_
  exact hK2
 refine zn (c:=decide (g.pn<0)) (λ_ K2 hK2=>?_) ?_
 ·refine gG_ ?_
  exact hK2
 refine zn (c:=decide (8<g.pn)) (λ_ K2 hK2=>?_) ?_
 ·refine gG_ ?_
  exact hK2
 refine zn (c:=decide ((g.tys.length:Int)≤g.pn)) (λ_ K2 hK2=>?_) ?_
 ·refine gG_ ?_
  exact hK2
 refine zn (c:=decide (512<g.tys.length)) (λ_ K2 hK2=>?_) ?_
 ·refine gG_ ?_
  rw[show decide ((512:Int)<(g.tys.length:Int))=decide (512<g.tys.length)from decide_eq_decide.2 (by omega)]
  exact hK2
 refine zn (c:=decide (g.nms.length≠g.tys.length)) (λ_ K2 hK2=>?_) ?_
 ·refine gG_ ?_
  rw[ae1]
  exact hK2
 refine c_b (λhbad=>?_) (λhgood=>?_)
 ·rw[no λH=>by
   have:=H.lv0;have:=H.lv8;have:=H.pn0;have:=H.pn8;have:=H.pn1;have:=H.ty512;have:=H.nms
   simp only[Bool.or_eq_true,gdt]at hbad;omega]at h
  exact h _ S.ext
 have hnum:(0≤g.lv∧g.lv≤8∧0≤g.pn∧g.pn≤8)∧g.pn<g.tys.length∧g.tys.length≤512∧g.nms.length=g.tys.length:=by
  simp only[Bool.or_eq_false_iff,decide_eq_false_iff_not]at hgood;omega
 clear hgood
 obtain⟨⟨hlv0,hlv8,hpn0,hpn8⟩,hpn1,hty,hnm⟩:=hnum
 refine gG_ ?_
 refine zk (ι:=Nat) (λi=>[.int .i64 (i:Nat)]) (λj w'=>j≤g.tys.length∧j4 u g j (g.tys.drop j)=j4 u g 0 g.tys∧StX noX w r w' _) (λi=>g.tys.length-i) 0 rfl ⟨gzl _,rfl,S⟩ ?_
 clear S
 rintro j d w5 ⟨hj,hd,S⟩ K6 hK6
 rw[gdz]
 refine gP_ ?_
 refine zj (λhlt=>?_) (λhge=>?_)
 ·have hlt:j<g.tys.length:=by omega
  obtain⟨bt,ot,ct,rfl,hct,htc,hcell⟩:=h2.sl.get (by decide) hlt
  obtain⟨q2,cap2,rfl,ht2⟩:=xh htc
  rw[af0 hlt]at hd
  refine gP_ ?_
  refine zq (n:=5) hct (λj v hj=>by rw[tnc];exact S.at (hcell j v hj)) ?_
  refine S.al λb7 w6 S=>?_
  refine S.stB (b:=b7) λw7 S=>?_
  refine gG_ ?_
  refine vj S.holds hst ht2 λw8 e8=>?_
  have S:=S.go e8
  refine gP_ ?_
  refine c_b (λhm=>?_) (λhm=>?_)
  ·have hm:mayB u.ss g.tys[j]=false:=by simpa using hm
   rw[no λH=>by
    have:=H.tys
    rw[← hd,tyG,hm,Bool.false_and,Bool.false_and]at this;cases this]at h
   exact h _ S.ext
  have hm:mayB u.ss g.tys[j]=true:=by simpa using hm
  refine S.al λb8 w9 S=>?_
  refine S.st (b:=b8) λw10 S=>?_
  refine zi (λ_ w'=>StX noX w r w' [.cell b8 [.int .i64 (if(j:Int)≤g.pn then 0 else -1)] 3,.cell b7 (tyL g.tys[j] q2 cap2) 43,.cell b5 [.string g.name,.int .i64 g.lv,.slice qo g.outs.length capo,.int .i64 g.pn,.slice (some ⟨bt,ot,none⟩) g.tys.length capt,.slice qn g.nms.length capn,.slice qp g.pts.length capp] 101,
   .cell b2 [.slice p0 u.ss.length cap0,.slice (some ⟨bf,of,none⟩) u.fs.length capf,.int .i64 u.mn] 25]) (λK3 hK3=>?_) ?_
  ·refine gG_ ?_
   refine zj (λhle=>?_) (λhgt=>?_)
   ·refine S.st (b:=b8) λw11 S=>?_
    refine hK3 [] _ ?_
    rw[if_pos hle];exact S
   ·refine hK3 [] _ ?_
    rw[if_neg hgt];exact S
  clear S
  rintro _ w11 S d11
  refine S.ldB (b:=b7) ?_ rfl
  refine xD S.holds ht2 λv7 w12 e12 o12=>?_
  have S:=S.go e12
  obtain⟨p7,cap7,rfl,_,_,_,hs7⟩:=Yf o12
  refine gP_ ?_
  have hr48:(zz g.tys[j]).length≤1000:=by
   rw[zz];split
   ·have:=vK (by assumption);omega
   ·simp
  refine Ql (f:=λx=>decide (x<(if(j:Int)≤g.pn then 0 else -1))||decide (g.lv≤x)) (λx K hK=>?_) hs7 (by omega) ?_
  ·refine V1 (by kernel_rfl) ?_
   refine Tryz.VS ?_
   unfold Tryz.YX
   refine S.ld (b:=b8) ?_ rfl
   refine gP_ ?_
   refine zn (c:=decide (g.lv≤x)) (λ_ K2 hK2=>?_) hK
   refine gG_ ?_
   exact hK2
  have hty:tyG u g j g.tys[j] = !((zz g.tys[j]).any λx=>decide (x<(if(j:Int)≤g.pn then 0 else -1))||decide (g.lv≤x)):=by
   rw[aih,hm,Bool.true_and]
  refine c_b (λhx=>?_) (λhx=>?_)
  ·rw[hty,hx,Bool.not_true,Bool.false_and]at hd
   rw[no λH=>by have:=H.tys;rw[← hd]at this;cases this]at h
   exact h _ S.ext
  ·rw[hty,hx,Bool.not_false,Bool.true_and]at hd
   refine gP_ ?_
   rw[show ((j:Int)+1)=((j+1:Nat):Int)by omega]
   exact hK6 (j+1) _ ⟨hlt,hd,(S.drop b8).drop b7⟩ (by omega)
 have hje:j=g.tys.length:=by omega
 rw[hje,List.drop_length]at hd
 have htys:j4 u g 0 g.tys=true:=hd.symm
 clear hd hK6 K6 hge hj hje
 refine gG_ ?_
 refine zn (c:=decide (1024<g.pts.length)) (λ_ K2 hK2=>?_) ?_
 ·refine gG_ ?_
  rw[show decide ((1024:Int)<(g.pts.length:Int))=decide (1024<g.pts.length)from decide_eq_decide.2 (by omega)]
  exact hK2
 refine kq (c:=!XF g) (λ_ K2 hK2=>?_) λw20 e20=>?_
 ·refine S.ldB (b:=b5) ?_ rfl
  refine Vm S.holds hgc hlv0 hlv8 hpn0 hpn1 (λt ht x hx=>?_) λw21 e21=>?_
  ·obtain⟨k,hk,rfl⟩:=List.getElem_of_mem ht
   rw[List.length_take]at hk
   rw[List.getElem_take]at hx
   have:=adf htys (j:=k) (by omega) (by omega) x hx
   omega
  refine gP_ ?_
  exact hK2 _ e21
 have S:=S.go e20
 refine c_b (λhbad=>?_) (λhgood=>?_)
 ·rw[no λH=>by
   have:=H.pt1;have:=H.pt1024;have h3:=H.outs
   rw[h3]at hbad
   simp only[Bool.or_eq_true,gdt,Bool.not_true,Bool.false_eq_true,or_false]at hbad;omega]at h
  exact h _ S.ext
 have hnum:(1≤g.pts.length∧g.pts.length≤1024)∧XF g=true:=by
  cases ho:XF g
  ·rw[ho]at hgood;simp at hgood
  ·simp only[Bool.or_eq_false_iff,decide_eq_false_iff_not]at hgood
   exact⟨by omega,rfl⟩
 clear hgood
 obtain⟨⟨hp1,hp1024⟩,hout⟩:=hnum
 refine gG_ ?_
 refine zk (ι:=Nat) (λi=>[.int .i64 (xb (g.pts.take i):Nat),.int .i64 (i:Nat)]) (λj w'=>j≤g.pts.length∧xb (g.pts.take j)≤j∧StX noX w r w' _) (λi=>g.pts.length-i) 0 rfl ⟨gzl _,Nat.le_refl _,S⟩ ?_
 clear S
 rintro j d w22 ⟨hj,hlj,S⟩ K7 hK7
 simp only[gdz,gds]
 refine gP_ ?_
 refine zj (λhlt=>?_) (λhge=>?_)
 ·have hlt:j<g.pts.length:=by omega
  obtain⟨bp,op,cp,rfl,hcp,hpc,hcell⟩:=h4.sl.get (by decide) hlt
  refine zi (λs w'=>s=[.int .i64 (xb (g.pts.take (j+1)):Nat)]∧StX noX w r w' [.cell b5 [.string g.name,.int .i64 g.lv,.slice qo g.outs.length capo,.int .i64 g.pn,.slice qt g.tys.length capt,.slice qn g.nms.length capn,.slice (some ⟨bp,op,none⟩) g.pts.length capp] 101,
   .cell b2 [.slice p0 u.ss.length cap0,.slice (some ⟨bf,of,none⟩) u.fs.length capf,.int .i64 u.mn] 25]) (λK3 hK3=>?_) ?_
  ·refine gP_ ?_
   refine zq (n:=21) hcp (λj v hj=>by rw[tnc];exact S.at (hcell j v hj)) ?_
   obtain⟨vto,va,vb,vl,vfr,rfl,k1,k2,k3,k4,k5⟩:=hpc
   obtain⟨_,_,rfl,_⟩:=k1.sl.shape
   obtain⟨_,_,rfl,_⟩:=k2.sl.shape
   obtain⟨_,_,rfl,_⟩:=k3.sl.shape
   obtain⟨_,_,rfl,_⟩:=k4.sl.shape
   obtain⟨_,_,rfl,_⟩:=k5.sl.shape
   refine S.al λb11 w23 S=>?_
   refine S.stB (b:=b11) λw24 S=>?_
   refine gG_ ?_
   have hlo:=aad hlt
   refine zj (λho=>?_) (λho=>?_)
   ·rw[if_pos ho]at hlo
    refine gP_ ?_
    rw[show ((xb (g.pts.take j):Nat):Int)+1=((xb (g.pts.take (j+1)):Nat):Int)by omega]
    exact hK3 _ _ ⟨rfl,S.drop b11⟩
   ·rw[if_neg ho]at hlo
    rw[show ((xb (g.pts.take j):Nat):Int)=((xb (g.pts.take (j+1)):Nat):Int)by omega]
    exact hK3 _ _ ⟨rfl,S.drop b11⟩
  clear S
  rintro _ w25 ⟨rfl,S⟩ d25
  rw[gdz]
  refine gP_ ?_
  rw[show ((j:Int)+1)=((j+1:Nat):Int)by omega]
  refine hK7 (j+1) _ ⟨hlt,?_,S⟩ (by omega)
  rw[aad hlt];split<;>omega
 have hje:j=g.pts.length:=by omega
 rw[hje,List.take_length]
 refine gP_ ?_
 have hfin:ki u i g=(decide (xb g.pts≤256)&&(decide ((i:Int)≠u.mn)||((decide (g.lv=0)&&decide (g.pn=0))&&isK (g.tys.headD zK) 1))):=by
  rw[ki,htys,hout,gde hlv0,gde hlv8,gde hpn0,gde hpn8,gde hpn1,gde hty,gde hnm,gde hp1,gde hp1024,decide_not];rfl
 rw[hfin]at h
 rw[show decide ((xb g.pts:Int)≤256)=decide (xb g.pts≤256)from decide_eq_decide.2 (by omega)]
 refine ag7 (b2:=decide ((i:Int)≠u.mn)) (b3:=decide (g.lv=0)) (b4:=decide (g.pn=0)) (b5:=isK (g.tys.headD zK) 1) (λK2 hK2=>?_) (λK2 hK2=>?_) (λK2 hK2=>?_) (λK2 hK2=>?_) (h _ S.ext)
 ·refine gG_ ?_
  exact hK2
 ·refine gG_ ?_
  exact hK2
 ·refine gG_ ?_
  exact hK2
 ·have hpos:0<g.tys.length:=by omega
  obtain⟨bt,ot,ct,rfl,hct,htc,hcell⟩:=h2.sl.get (by decide) hpos
  obtain⟨q2,cap2,rfl,ht2⟩:=xh htc
  refine gG_ ?_
  refine zf (v:=.int .u8 g.tys[0].k) (by simpa using S.at (hcell 0 _ rfl)) ?_
  refine gG_ ?_
  have he:g.tys.headD zK=g.tys[0]:=by
   rw[List.headD_eq_head?_getD,List.head?_eq_getElem?,gqg hpos,Option.getD_some]
  rw[he]at hK2
  exact hK2
theorem af5{u:UnD}{i:Nat}{l:List GrD}(hi:i<l.length):qT u i (l.drop i)=if ki u i l[i]then qT u (i+1) (l.drop (i+1))else some i:=by
 rw[List.drop_eq_getElem_cons hi];rfl
theorem ag8{u:UnD}{g:GrD}{q:Nat}{l:List PtD}(hq:q<l.length):Zu u g q (l.drop q)=if zG u g l[q]then Zu u g (q+1) (l.drop (q+1))else some q:=by
 rw[List.drop_eq_getElem_cons hq];rfl
theorem aii{u:UnD}{i:Nat}{l:List GrD}(hi:i<l.length):ZX u i (l.drop i)=match Zu u l[i] 0 l[i].pts with|some q=>some (i,q)|none=>ZX u (i+1) (l.drop (i+1)):=by
 rw[List.drop_eq_getElem_cons hi];rfl
noncomputable def aai(u:UnD):Int×Int×Int:=match qT u 0 u.fs with
  |some i=>(i,-1,100)
  |none=>match ZX u 0 u.fs with
   |some (i,q)=>(i,q,100)
   |none=>(0,0,0)
theorem ab5{u:UnD}{v:Value}{w:World}{r:Gh}{K:Value→World→Prop}(hr:Holds r w)(hu:UnG r v u)
  (h:∀w',Ext w w'→K (.tuple #[.int .i64 (qU u).1,.int .i64 (qU u).2.1,.int .i64 (qU u).2.2]) w'):zc Tryz.prog Tryz.vT #[v] w K:=by
 have hu0:=hu
 obtain⟨p0,cap0,vf,rfl,_,_,hst,hsl,hfn⟩:=hu
 obtain⟨qf,capf,rfl,_,_⟩:=hfn.sl.shape
 have hfl:u.fs.length≤9223372036854775807:=hfn.few
 refine Tryz.aaN ?_
 unfold Tryz.X0
 have S:=St.start hr
 refine S.box λb1 w1 S=>?_
 refine gG_ ?_
 refine jI S.holds hst λw2 e2=>?_
 have S:=S.go e2
 refine gS_ ?_
 refine zn (c:=decide (u.fs.length<1)) (λ_ K2 hK2=>?_) ?_
 ·refine gG_ ?_
  rw[show decide ((u.fs.length:Int)<1)=decide (u.fs.length<1)from decide_eq_decide.2 (by omega)]
  exact hK2
 refine zn (c:=decide (32<u.fs.length)) (λ_ K2 hK2=>?_) ?_
 ·refine gG_ ?_
  rw[show decide ((32:Int)<(u.fs.length:Int))=decide (32<u.fs.length)from decide_eq_decide.2 (by omega)]
  exact hK2
 refine zn (c:=decide (u.mn<0)) (λ_ K2 hK2=>?_) ?_
 ·refine gG_ ?_
  exact hK2
 refine zn (c:=decide ((u.fs.length:Int)≤u.mn)) (λ_ K2 hK2=>?_) ?_
 ·refine gG_ ?_
  exact hK2
 have hC:qU u=if ((((decide ((zI u.ss).2≠0)||decide (u.fs.length<1))||decide (32<u.fs.length))||decide (u.mn<0))||decide ((u.fs.length:Int)≤u.mn))=true then(-1,-1,100)else aai u:=by
  rw[qU,aai]
  simp only[ne_eq,decide_not,Bool.or_assoc] <;>
  rfl
 rw[hC]at h
 refine c_b (λhbad=>?_) (λhgood=>?_)
 ·rw[if_pos hbad]at h
  exact h _ S.ext
 rw[if_neg (by rw[hgood];decide)]at h
 have hok:(zI u.ss).2=0:=by
  simp only[Bool.or_eq_false_iff,decide_eq_false_iff_not]at hgood;omega
 clear hC hgood
 refine gG_ ?_
 refine zk (ι:=Nat×Int) (λi=>[.int .i64 i.2,.int .i64 0,.int .i64 (i.1:Nat)]) (λj w'=>j.1≤u.fs.length∧qT u j.1 (u.fs.drop j.1)=qT u 0 u.fs∧StX noX w r w' _) (λi=>u.fs.length-i.1) (0,0) rfl ⟨gzl _,rfl,S⟩ ?_
 clear S
 rintro⟨j,a⟩ d w5 ⟨hj,hd,S⟩ K6 hK6
 simp only at hj hd S⊢
 simp only[gdz,gds]
 refine gP_ ?_
 refine zj (λhlt=>?_) (λhge=>?_)
 ·have hlt:j<u.fs.length:=by omega
  rw[af5 hlt]at hd
  refine S.ldB (b:=b1) ?_ rfl
  refine adh hlt S.holds hu0 λw6 e6=>?_
  have S:=S.go e6
  refine gP_ ?_
  refine c_b (λhx=>?_) (λhx=>?_)
  ·rw[if_neg (by simpa using hx)]at hd
   rw[aai,← hd]at h
   exact h _ S.ext
  ·rw[if_pos (by simpa using hx)]at hd
   refine gP_ ?_
   rw[show ((j:Int)+1)=((j+1:Nat):Int)by omega]
   exact hK6 (j+1,j) _ ⟨hlt,hd,S⟩ (by show u.fs.length-(j+1)<u.fs.length-j;omega)
 have hje:j=u.fs.length:=by omega
 rw[hje,List.drop_length]at hd
 have hnone:qT u 0 u.fs=none:=hd.symm
 have hheads:=λ(i:Nat) (hi:i<u.fs.length)=>ae0 (by have:=qV.1 hnone i hi;rwa[Nat.zero_add]at this:ki u i u.fs[i]=true)
 rw[aai,hnone]at h
 dsimp only at h
 clear hd hK6 K6 hge hj hje
 refine zi (λs w'=>Ext w w'∧((∃x y:Nat,s=[.int .i64 (x:Int),.int .i64 (y:Int),.bool true]∧ZX u 0 u.fs=some (x,y))∨∃x y,s=[x,y,.bool false]∧ZX u 0 u.fs=none)) (λK3 hK3=>?_) ?_
 rotate_left
 ·rintro _ w9 ⟨e9,⟨x,y,rfl,hb⟩|⟨x,y,rfl,hb⟩⟩ d9
  ·rw[hb]at h
   refine c_t rfl ?_
   exact h _ e9
  ·rw[hb]at h
   refine c_f rfl ?_
   exact h _ e9
 refine gG_ ?_
 refine zk (ι:=Nat×Value×Value) (λi=>[i.2.1,i.2.2,.bool false,.int .i64 (i.1:Nat)]) (λj w'=>j.1≤u.fs.length∧ZX u j.1 (u.fs.drop j.1)=ZX u 0 u.fs∧StX noX w r w' _) (λi=>u.fs.length-i.1) (0,.int .i64 a,.int .i64 0) rfl ⟨gzl _,rfl,S⟩ ?_
 clear S
 rintro⟨j,x1,x2⟩ d w5 ⟨hj,hd,S⟩ K6 hK6
 simp only at hj hd S⊢
 simp only[gdz,gds]
 refine gP_ ?_
 refine zj (λhlt=>?_) (λhge=>?_)
 rotate_left
 ·have hje:j=u.fs.length:=by omega
  rw[hje,List.drop_length]at hd
  exact hK3 _ _ ⟨S.ext,.inr ⟨_,_,rfl,hd.symm⟩⟩
 have hlt:j<u.fs.length:=by omega
 obtain⟨bf,of,cf,rfl,hcf,hgc,hfo⟩:=hfn.sl.get (by decide) hlt
 rw[aii hlt]at hd
 have hH:=hheads j hlt
 have hfin:=hH.fine hok
 have hpn:∀f∈u.fs,0≤f.pn∧f.pn<f.tys.length:=λf hf=>by
  obtain⟨i,hi,rfl⟩:=List.getElem_of_mem hf
  exact⟨(hheads i hi).pn0,(hheads i hi).pn1⟩
 generalize hgi:u.fs[j]=g at hd hgc hH hfin
 obtain⟨vo,vt,vn,vp,rfl,h1,h2,h3,h4⟩:=id hgc
 obtain⟨qo,capo,rfl,_,_⟩:=h1.sl.shape
 obtain⟨qt,capt,rfl,_,hct⟩:=h2.sl.shape
 obtain⟨qn,capn,rfl,_,_⟩:=h3.sl.shape
 obtain⟨qp,capp,rfl,_,_⟩:=h4.sl.shape
 have hptl:g.pts.length≤9223372036854775807:=h4.few
 refine gP_ ?_
 refine zq (n:=7) hcf (λj v hj=>by rw[tnc];exact S.at (hfo j v hj)) ?_
 refine S.al λb9 w6 S=>?_
 refine S.stB (b:=b9) λw7 S=>?_
 refine S.ldB (b:=b1) ?_ rfl
 refine S.ldB (b:=b9) ?_ rfl
 refine zo (cs:=#[.slice p0 u.ss.length cap0,.slice (some ⟨bf,of,none⟩) u.fs.length capf,.int .i64 u.mn,.string g.name,.int .i64 g.lv,.slice qo g.outs.length capo,.int .i64 g.pn,.slice qt g.tys.length capt,.slice qn g.nms.length capn,.slice qp g.pts.length capp]) (by kernel_rfl) ?_
 refine S.al λb10 w8 S=>?_
 refine S.stB (b:=b10) λw9 S=>?_
 refine gG_ ?_
 have hask:AskG r (.agg #[.slice p0 u.ss.length cap0,.slice (some ⟨bf,of,none⟩) u.fs.length capf,.int .i64 u.mn,.string g.name,.int .i64 g.lv,.slice qo g.outs.length capo,.int .i64 g.pn,.slice qt g.tys.length capt,.slice qn g.nms.length capn,.slice qp g.pts.length capp]) u g:=⟨_,_,_,_,_,_,_,rfl,hu0,hgc⟩
 refine zk (ι:=Nat) (λi=>[x1,x2,.bool false,.int .i64 (i:Nat)]) (λk w'=>k≤g.pts.length∧Zu u g k (g.pts.drop k)=Zu u g 0 g.pts∧StX noX w r w' _) (λi=>g.pts.length-i) 0 rfl ⟨gzl _,rfl,S⟩ ?_
 clear S
 rintro k d w10 ⟨hk,hdk,S⟩ K7 hK7
 simp only[gdz,gds]
 refine gP_ ?_
 refine zj (λhlt2=>?_) (λhge=>?_)
 ·have hlt2:k<g.pts.length:=by omega
  obtain⟨bp,op,cp,rfl,hcp,hpc,hcell⟩:=h4.sl.get (by decide) hlt2
  rw[ag8 hlt2]at hdk
  refine gP_ ?_
  refine zq (n:=21) hcp (λj v hj=>by rw[tnc];exact S.at (hcell j v hj)) ?_
  obtain⟨vto,va,vb,vl,vfr,rfl,k1,k2,k3,k4,k5⟩:=id hpc
  obtain⟨_,_,rfl,_⟩:=k1.sl.shape
  obtain⟨_,_,rfl,_⟩:=k2.sl.shape
  obtain⟨_,_,rfl,_⟩:=k3.sl.shape
  obtain⟨_,_,rfl,_⟩:=k4.sl.shape
  obtain⟨_,_,rfl,_⟩:=k5.sl.shape
  refine S.al λb12 w11 S=>?_
  refine S.stB (b:=b12) λw12 S=>?_
  refine S.ldB (b:=b10) ?_ rfl
  refine S.ldB (b:=b12) ?_ rfl
  refine Qm S.holds hask hfin hpn hpc λw13 e13=>?_
  have S:=S.go e13
  refine gP_ ?_
  refine c_b (λhx=>?_) (λhx=>?_)
  ·rw[if_neg (by simpa using hx)]at hdk
   rw[← hdk]at hd
   exact hK3 _ _ ⟨S.ext,.inl ⟨j,k,rfl,hd.symm⟩⟩
  ·rw[if_pos (by simpa using hx)]at hdk
   refine gP_ ?_
   rw[show ((k:Int)+1)=((k+1:Nat):Int)by omega]
   exact hK7 (k+1) _ ⟨hlt2,hdk,S.drop b12⟩ (by omega)
 have hke:k=g.pts.length:=by omega
 rw[hke,List.drop_length]at hdk
 rw[← hdk]at hd
 refine gP_ ?_
 rw[show ((j:Int)+1)=((j+1:Nat):Int)by omega]
 exact hK6 (j+1,x1,x2) _ ⟨hlt,hd,(S.drop b10).drop b9⟩ (by show u.fs.length-(j+1)<u.fs.length-j;omega)
theorem adW{u:UnD}{v:Value}{w:World}{r:Gh}{K:Value→World→Prop}(hr:Holds r w)(hu:UnG r v u)
  (h:∀w',Ext w w'→K (.bool (Vh u)) w'):zc Tryz.prog Tryz.YB #[v] w K:=by
 refine Tryz.acR ?_
 unfold Tryz.JF
 have hu0:=hu
 obtain⟨p0,cap0,vf,rfl,_,_,hst,hsl,hfn⟩:=hu
 obtain⟨qf,capf,rfl,_,_⟩:=hfn.sl.shape
 have S:=St.start hr
 refine S.box λb1 w1 S=>?_
 refine S.ldB (b:=b1) ?_ rfl
 refine ab5 S.holds hu0 λw2 e2=>?_
 have S:=S.go e2
 refine gS_ ?_
 exact h _ S.ext
section
variable {m:List Int}
theorem aij{t:TyD}(hB:isB t=true)(hm:m.length=t.regs.length)(hlow:∀x∈m,-1≤x):Zt t m=(t.lay m,0):=by
 have :Yr t m=true:=by
  rw[Yr,hB,gde hm.symm,Bool.true_and,Bool.true_and,Bool.not_eq_true',List.any_eq_false]
  intro x hx
  have:=hlow x hx
  simp only[gdt];omega
 rw[Zt,if_pos this]
theorem aep{s:Gh}{p:Option Addr}{n cap:Nat}{l:List Int}(h:SlG 1 s xn (.slice p n cap) l):Ob s λw=>Sl w p (ints l):=λw hw i v hi=>by
 have hlt:i<l.length:=by
  have:=(List.getElem?_eq_some_iff.1 hi).1
  rwa[ym]at this
 have hv:v=.int .i64 l[i]:=by
  rw[ints,List.getElem?_map,gqg hlt]at hi
  exact(Option.some.inj hi).symm
 subst hv
 obtain⟨b,off,c,rfl,hc,hcc,hcell⟩:=h.get (by decide) hlt
 obtain rfl:c=_:=hcc
 have:=hcell 0 _ rfl w hw
 exact⟨b,off,rfl,by simpa using this⟩
theorem aaj{X:Nat→Prop}{w0:World}{r:Gh}{t:TyD}{Lc:Nat→List Asr}{fv:Value}(hB:isB t=true)(hm:m.length=t.regs.length)(hlow:∀x∈m,-1≤x)
  (hf:∀(i:Nat)(hi:i<t.regs.length){M:List Asr}{w:World}{K:Value→World→Prop},StX X w0 r w (Lc i++M)→(∀w',StX X w0 r w' (Lc (i+1)++M)→K (.int .i64 (m[i]'(by omega))) w')→zy Tryz.prog fv #[.int .i64 t.regs[i]] w K)
  {M:List Asr} {w:World} {v:Value} {K:Value→World→Prop} (S:StX X w0 r w (Lc 0++M)) (hv:TyG r v t)
  (h:∀v' sn w',StX X w0 (r.or sn) w' (Lc t.regs.length++M)→Above w0 sn→TyG sn v' (t.lay m)→ZV sn v' (t.lay m)→K v' w'):zc Tryz.prog Tryz.yn #[v,fv] w K:=by
 refine Tryz.Vi ?_
 unfold Tryz.Yt
 have h48:=vK hB
 have hrT:zz t=t.regs:=by rw[zz,hB];rfl
 have hv0:=hv
 obtain⟨p1,cap1,rfl,_⟩:=hv
 refine S.box λb2 w1 S=>?_
 have S:StX X w0 r w1 (.cell b2 (tyL t p1 cap1) 43::(Lc 0++M)):=S
 refine S.al λb4 w2 S=>?_
 refine S.ldB (b:=b2) ?_ rfl
 refine xD S.holds hv0 λv9 w3 e3 o3=>?_
 rw[hrT]at o3
 have S:=S.take e3 o3
 obtain⟨p9,cap9,rfl,_⟩:=S.rowS v9
 refine gP_ ?_
 refine zk (ι:=Nat) (λi=>[.int .i64 (i:Nat)]) (λi w'=>i≤t.regs.length∧StX X w0 r w' (Lc i++(.row (.slice p9 t.regs.length cap9) 3 1 t.regs.length (ints (m.take i++t.regs.drop i))::.cell b4 XJ 43::.cell b2 (tyL t p1 cap1) 43::M))) (λi=>t.regs.length-i) 0 rfl
  ⟨gzl _,by
   rw[List.take_zero,List.drop_zero,List.nil_append]
   exact S.perm (by
    refine((List.Perm.cons _ ((List.Perm.cons _ List.perm_middle.symm).trans List.perm_middle.symm))).trans List.perm_middle.symm)⟩ ?_
 clear S
 rintro i d w4 ⟨hi,S⟩ K6 hK6
 rw[gdz]
 refine gP_ ?_
 refine zj (λhlt=>?_) (λhge=>?_)
 ·have hlt:i<t.regs.length:=by omega
  have S1:=S.perm (M:=.row (.slice p9 t.regs.length cap9) 3 1 t.regs.length (ints (m.take i++t.regs.drop i))::(Lc i++(.cell b4 XJ 43::.cell b2 (tyL t p1 cap1) 43::M))) List.perm_middle
  obtain⟨b9,rfl⟩:=S1.row0N (p:=p9) (n:=t.regs.length) (cap:=cap9) trivial (by omega)
  obtain⟨_,_,hv9,_,_,_,hs9⟩:=S1.rowS (.slice (some ⟨b9,0,none⟩) t.regs.length cap9)
  cases hv9
  have hlen:(m.take i++t.regs.drop i).length=t.regs.length:=by rw[gla,List.length_take,List.length_drop];omega
  obtain⟨bx,ox,hbx,hcell⟩:=Y6 hs9 (i:=i) (by omega)
  cases hbx
  have hel:(m.take i++t.regs.drop i)[i]=t.regs[i]:=by
   rw[List.getElem_append_right (by rw[List.length_take];omega)]
   simp only[List.length_take,List.getElem_drop]
   congr 1;omega
  refine gP_ ?_
  refine zf (v:=.int .i64 t.regs[i]) (by rw[← hel];simpa using hcell) ?_
  refine hf i hlt S λw5 S=>?_
  have S:=S.perm (M:=.row (.slice (some ⟨b9,0,none⟩) t.regs.length cap9) 3 1 t.regs.length (ints (m.take i++t.regs.drop i))::(Lc (i+1)++(.cell b4 XJ 43::.cell b2 (tyL t p1 cap1) 43::M))) List.perm_middle
  refine gP_ ?_
  rw[show 0+((i:Nat):Int).toNat=i by omega]
  refine S.stRow1 (cap:=cap9) hlt λw6 S=>?_
  refine gP_ ?_
  rw[show ((i:Int)+1)=((i+1:Nat):Int)by omega]
  refine hK6 (i+1) _ ⟨hlt,?_⟩ (by omega)
  have hset:(ints (m.take i++t.regs.drop i)).set i (.int .i64 (m[i]'(by omega)))=ints (m.take (i+1)++t.regs.drop (i+1)):=by
   rw[ints,ints,← List.map_set]
   congr 1
   rw[List.set_append_right _ _ (by rw[List.length_take];omega),List.length_take,Nat.min_eq_left (by omega),Nat.sub_self,List.drop_eq_getElem_cons hlt,List.set_cons_zero,show m.take (i+1)=m.take i++[m[i]'(by omega)]from List.take_succ_eq_append_getElem (by omega),List.append_assoc]
   rfl
  rw[hset]at S
  exact S.perm List.perm_middle.symm
 ·have hie:i=t.regs.length:=by omega
  rw[hie,List.drop_of_length_le (Nat.le_refl _),List.append_nil,List.take_of_length_le (by omega)]at S
  have S:=S.perm (M:=.row (.slice p9 t.regs.length cap9) 3 1 t.regs.length (ints m)::(Lc t.regs.length++(.cell b4 XJ 43::.cell b2 (tyL t p1 cap1) 43::M))) List.perm_middle
  have S:=S.perm (M:=.row (.slice p9 t.regs.length cap9) 3 1 t.regs.length (ints m)::.cell b4 XJ 43::.cell b2 (tyL t p1 cap1) 43::(Lc t.regs.length++M)) (List.Perm.cons _ (List.perm_middle.trans (List.Perm.cons _ List.perm_middle)))
  obtain⟨s9,S,hsl,_,hab9⟩:=S.doneRow (l:=m) (R:=xn) (sz:=1) ⟨by rw[ym,Nat.mul_one],λj hj=>by
   show _=_
   rw[Nat.mul_one,ints,← List.map_drop,← List.map_take,List.drop_eq_getElem_cons hj];rfl⟩ (by decide) (by omega)
  refine S.ldB (b:=b2) ?_ rfl
  rw[show t.regs.length=m.length from hm.symm]at hsl⊢
  refine ac0 S.holds hv0.up (aep hsl).up (by omega) λv' sn w7 e7 n7 ht7 hc7=>?_
  rw[aij hB hm hlow]at ht7 hc7⊢
  obtain⟨S,d7,a7⟩:=S.tell e7 n7
  have ht70:=ht7
  obtain⟨p7,cap7,rfl,_⟩:=ht7
  refine gP_ ?_
  refine gP_ ?_
  refine S.stB (b:=b2) λw8 S=>?_
  refine S.ldB (b:=b2) ?_ rfl
  refine S.stB (b:=b4) λw9 S=>?_
  refine S.ceB (b:=b4) ?_ rfl
  have S:=(S.tl.tl).to (r.or sn)
  exact h _ sn _ S a7 ht70 hc7
end
end Go.Proofs
namespace Go.Sh
theorem StX.front{X:Nat→Prop}{w0 w:World}{r:Gh}{L M:List Asr}(S:StX X w0 r w L)(b:Nat){c:List Value}{T:TypeId}[h:j2 b L c T M]:StX X w0 r w (.cell b c T::M):=S.permO h.h.symm
end Go.Sh
namespace Go.Proofs
open Go.Sh
theorem XM{u:UnD}{g:GrD}{p:PtD}(h:zG u g p=true)(ho:p.op=7):0≤p.fn∧p.fn<u.fs.length:=by
 rw[zG,gba]at h
 have h2:=h.2
 rw[ptG]at h2
 simp only[ho,Int.reduceEq,if_false,if_true,gba,gdt]at h2
 exact⟨h2.1.2.1,h2.1.2.2⟩
theorem aik(t:TyD):yw (zz t)≤48:=by
 have:=(ZA (zz t)).2
 have :(zz t).length≤48:=by
  rw[zz];split
  ·exact vK (by assumption)
  ·simp
 omega
theorem aeq(l:List TyD):zY l≤48*l.length:=by
 induction l with
 |nil=>simp [zY]
 |cons t l ih=>rw [zY,List.length_cons];have:=aik t;omega
theorem MayU.ptN{u:UnD}(h:MayU u){g:GrD}(hg:g∈u.fs){p:PtD}(hp:p∈g.pts):0≤Go.Proofs.ptN u p∧Go.Proofs.ptN u p≤8:=by
 unfold Go.Proofs.ptN
 split
 ·omega
 split
 ·rename_i h7
  have hc:=XM (h.pts g hg p hp) h7
  rw[agW,gqg (show p.fn.toNat<u.fs.length by omega)]
  have:=h.hd (show p.fn.toNat<u.fs.length by omega)
  exact⟨this.lv0,this.lv8⟩
 ·omega
theorem aje{u:UnD}{l:List PtD}(h:∀p∈l,ptN u p≤8):atC u l≤8*l.length:=by
 induction l with
 |nil=>simp [atC]
 |cons t l ih=>
  rw[atC,List.length_cons]
  have:=h t List.mem_cons_self
  have:=ih λp hp=>h p (List.mem_cons_of_mem _ hp)
  omega
abbrev rgL(lv pt ct:Int)(vl va:Value):List Value:=[.int .i64 lv,.int .i64 pt,.int .i64 ct,vl,va]
theorem aa3{X:Nat→Prop}{w0:World}{r:Gh}{b6:Nat}{lv pt c:Int}{vl va:Value}{regs:List Int}(hc0:0≤c)(hc1:c≤1000000)(hn:regs.length≤1000000):
  ∀(i:Nat)(hi:i<regs.length){M:List Asr}{w:World}{K:Value→World→Prop},StX X w0 r w ([.cell b6 (rgL lv pt (c+yw (regs.take i)) vl va) 74]++M)→
   (∀w',StX X w0 r w' ([.cell b6 (rgL lv pt (c+yw (regs.take (i+1))) vl va) 74]++M)→K (.int .i64 ((xp regs c)[i]'(by rw[jf];exact hi))) w')→zy Tryz.prog (.func (.func Tryz.j0) #[] #[.pointer (some ⟨b6,0,none⟩)]) #[.int .i64 regs[i]] w K:=by
 intro i hi M w K S h
 refine Jj (by kernel_rfl) ?_
 refine Tryz.V8 ?_
 unfold Tryz.Xa
 have S:StX X w0 r w (.cell b6 (rgL lv pt (c+yw (regs.take i)) vl va) 74::M):=S
 have hk:=aaZ (c:=c) hi
 have ht:=afT hi
 have hle:=ZA (regs.take i)
 rw[List.length_take]at hle
 rw[hk]at h
 refine zi (λs w'=>s=[.int .i64 (if regs[i]<0 then c+yw (regs.take i)else regs[i])]∧StX X w0 r w' ([.cell b6 (rgL lv pt (c+yw (regs.take (i+1))) vl va) 74]++M)) (λK3 hK3=>?_) ?_
 ·refine gP_ ?_
  refine zj (λhlt=>?_) (λhge=>?_)
  ·refine gG_ ?_
   refine S.st (b:=b6) λw2 S=>?_
   refine hK3 _ _ ⟨by rw[if_pos hlt],?_⟩
   rw[ht,if_pos hlt,show c+(yw (regs.take i)+1)=c+yw (regs.take i)+1 by omega]
   exact S
  ·refine hK3 _ _ ⟨by rw[if_neg hge],?_⟩
   rw[ht,if_neg hge,Int.add_zero]
   exact S
 rintro _ w3 ⟨rfl,S⟩ d3
 rw[gdz]
 exact h _ S
theorem ae2(l:List Int):RowOf 1 xn (ints l) l:=⟨by rw[ym,Nat.mul_one],λj hj=>by
 show _=_
 rw[Nat.mul_one,ints,← List.map_drop,← List.map_take,List.drop_eq_getElem_cons hj];rfl⟩
theorem adi{u:UnD}{fn q:Int}{v:Value}{w:World}{r:Gh}{K:Value→World→Prop}(hr:Holds r w)(hu:UnG r v u)
  (h:∀v' s w',Ext w w'→New w s w'→RgG s v' (zF u fn q).1→K (.tuple #[v',.int .i64 (zF u fn q).2]) w'):zc Tryz.prog Tryz.ZJ #[v,.int .i64 fn,.int .i64 q] w K:=by
 have hu0:=hu
 obtain⟨p0,cap0,vf,rfl,_,_,hst,hsl,hfn⟩:=hu
 obtain⟨qf,capf,rfl,_,_⟩:=hfn.sl.shape
 have hfl:u.fs.length≤9223372036854775807:=hfn.few
 refine Tryz.ab2 ?_
 unfold Tryz.QK
 have S:=St.start hr
 refine S.box λb3 w1 S=>?_
 have S:StX noX w r w1 [.cell b3 [.slice p0 u.ss.length cap0,.slice qf u.fs.length capf,.int .i64 u.mn] 25]:=S
 refine S.al λb6 w2 S=>?_
 refine gP_ ?_
 refine zn (c:=decide ((u.fs.length:Int)≤fn)) (λ_ K2 hK2=>?_) ?_
 ·refine gG_ ?_
  exact hK2
 refine kq (c:=!Vh u) (λ_ K2 hK2=>?_) λw3 e3=>?_
 ·refine S.ldB (b:=b3) ?_ rfl
  refine adW S.holds hu0 λw3 e3=>?_
  refine gP_ ?_
  exact hK2 _ e3
 have S:=S.go e3
 have hlen:∀{K9:Value→World→Prop},True:=fun {_}=>trivial
 refine zn (c:=decide (((u.fs[fn.toNat]?.map λg=>(g.pts.length:Int)).getD 0)≤q)) (λhb K2 hK2=>?_) ?_
 ·simp only[Bool.or_eq_false_iff,decide_eq_false_iff_not,Bool.not_eq_false']at hb
  have hlt:fn.toNat<u.fs.length:=by omega
  obtain⟨bf,of,cf,rfl,hcf,hgc,hfo⟩:=hfn.sl.get (by decide) hlt
  rw[gqg hlt]at hK2
  obtain⟨vo,vt,vn,vp,rfl,h1,h2,h3,h4⟩:=hgc
  obtain⟨qp,capp,rfl,_,_⟩:=h4.sl.shape
  refine gG_ ?_
  refine zf (v:=.slice qp u.fs[fn.toNat].pts.length capp) (by simpa using S.at (hfo 6 _ rfl)) ?_
  refine gG_ ?_
  exact hK2
 have hU:isU u fn q = !(((decide (fn<0)||decide ((u.fs.length:Int)≤fn)) || !Vh u)||decide (((u.fs[fn.toNat]?.map λg=>(g.pts.length:Int)).getD 0)≤q)):=by
  rw[isU]
  generalize ((u.fs[fn.toNat]?.map λg=>(g.pts.length:Int)).getD 0)=n
  cases Vh u<;>by_cases h1:fn<0<;>by_cases h2:(u.fs.length:Int)≤fn<;>by_cases h3:n≤q <;>
   simp[h1,h2,h3,Int.not_lt.2,Int.not_le.1,show (0≤fn) = ¬fn<0 from propext (by omega),show (fn<(u.fs.length:Int)) = ¬(u.fs.length:Int)≤fn from propext (by omega),show (q<n) = ¬n≤q from propext (by omega)]
 cases hc:isU u fn q with
 |false=>
  have hT:zF u fn q=(vM,2):=by rw[zF,hc];rfl
  rw[hc]at hU
  rw[hT]at h
  refine c_t (ake hU) ?_
  refine S.ldB (b:=b6) ?_ rfl
  refine S.stB (b:=b6) λw4 S=>?_
  refine gG_ ?_
  exact h _ nothing _ S.ext New.nothing RgG.zero
 |true=>
 rw[hc]at hU
 refine c_f (ajb hU) ?_
 have hU:=ajb hU
 simp only[Bool.or_eq_false_iff,decide_eq_false_iff_not,Bool.not_eq_false']at hU
 obtain⟨⟨⟨hf0,hf1⟩,hmay⟩,hq⟩:=hU
 have hM:=Vo.1 hmay
 have hlt:fn.toNat<u.fs.length:=by omega
 have hT:zF u fn q=(yI u u.fs[fn.toNat],0):=by rw[zF,hc,gqg hlt];rfl
 rw[hT]at h
 have hH:=hM.hd hlt
 have hfin:=hH.fine hM.ok
 have hptN:=λp hp=>hM.ptN (gem hlt) (p:=p) hp
 have hpts:=hM.pts _ (gem hlt)
 obtain⟨bf,of,cf,rfl,hcf,hgc,hfo⟩:=hfn.sl.get (by decide) hlt
 clear hq hT
 generalize u.fs[fn.toNat]=g at h hH hfin hptN hpts hgc
 obtain⟨vo,vt,vn,vp,rfl,h1,h2,h3,h4⟩:=id hgc
 obtain⟨qo,capo,rfl,_,_⟩:=h1.sl.shape
 obtain⟨qt,capt,rfl,_,hct⟩:=h2.sl.shape
 obtain⟨qn,capn,rfl,_,_⟩:=h3.sl.shape
 obtain⟨qp,capp,rfl,_,_⟩:=h4.sl.shape
 obtain⟨hlv0,hlv8,_,_,_,hty,_,htys,hp1,hp1024,_,_,_⟩:=hH
 refine gG_ ?_
 refine zq (n:=7) hcf (λj v hj=>S.at (hfo j v hj)) ?_
 refine S.al λb8 w4 S=>?_
 refine S.stB (b:=b8) λw5 S=>?_
 have S:=S.go (Ext.drew _)
 have S:StX noX w r w5.drew [.cell b8 [.string g.name,.int .i64 g.lv,.slice qo g.outs.length capo,.int .i64 g.pn,.slice qt g.tys.length capt,.slice qn g.nms.length capn,.slice qp g.pts.length capp] 101,
  .cell b6 (rgL 0 0 0 (.slice none 0 0) (.slice none 0 0)) 74,.cell b3 [.slice p0 u.ss.length cap0,.slice (some ⟨bf,of,none⟩) u.fs.length capf,.int .i64 u.mn] 25]:=S
 refine zi (λ_ w'=>StX noX w r w' [.cell b8 [.string g.name,.int .i64 g.lv,.slice qo g.outs.length capo,.int .i64 g.pn,.slice qt g.tys.length capt,.slice qn g.nms.length capn,.slice qp g.pts.length capp] 101,
  .cell b6 (rgL g.lv g.pts.length g.lv (.slice none 0 0) (.slice none 0 0)) 74,.cell b3 [.slice p0 u.ss.length cap0,.slice (some ⟨bf,of,none⟩) u.fs.length capf,.int .i64 u.mn] 25]) (λK20 hK20=>?_) ?_
 ·repeat' (first
   |(first|refine s_p ?_|refine s_c (by omega) ?_|refine S.ld ?_|refine S.ldB ?_|refine S.ce ?_|refine S.ceB ?_|refine s_q ?_|refine s_qc (by omega) ?_|refine n_some ?_|rw [gdz]|rw [gds])
   |(refine S.st (b:=b6) λw6 S=>?_)
   |exact hK20 [] _ S
   |refine aeO ?_
   |refine And.intro ?_ ?_)
 clear S
 rintro _ w6 S d6
 have S:=S.swap
 have S:=S.ownNil 43 5
 have S:=S.swap
 refine gG_ ?_
 refine zk (ι:=Nat×Value×Gh×List Value) (λi=>[.int .i64 (i.1:Nat)]) (λi w'=>i.1≤g.tys.length∧RowOf 5 (TyC i.2.2.1) i.2.2.2 (kK (g.tys.take i.1) g.lv)∧Above w i.2.2.1∧
  StX noX w (r.or i.2.2.1) w' [.cell b6 (rgL g.lv g.pts.length (g.lv+zY (g.tys.take i.1)) i.2.1 (.slice none 0 0)) 74,.row i.2.1 43 5 i.1 i.2.2.2,
   .cell b8 [.string g.name,.int .i64 g.lv,.slice qo g.outs.length capo,.int .i64 g.pn,.slice qt g.tys.length capt,.slice qn g.nms.length capn,.slice qp g.pts.length capp] 101,.cell b3 [.slice p0 u.ss.length cap0,.slice (some ⟨bf,of,none⟩) u.fs.length capf,.int .i64 u.mn] 25]) (λi=>g.tys.length-i.1) (0,.slice none 0 0,nothing,[]) rfl
  ⟨gzl _,RowOf.nil,Above.no,by
   rw[List.take_zero,show g.lv+zY []=g.lv by simp[zY]];exact S.to (r.or nothing)⟩ ?_
 clear S
 rintro⟨i,v,s,xs⟩ d w7 ⟨hi,hrow,hab,S⟩ K6 hK6
 simp only at hi hrow hab S⊢
 rw[gdz]
 refine gP_ ?_
 refine zj (λhlt2=>?_) (λhge=>?_)
 ·have hlt2:i<g.tys.length:=by omega
  obtain⟨bt,ot,ct,rfl,hct2,htc,hcell⟩:=h2.sl.get (by decide) hlt2
  obtain⟨q2,cap2,rfl,ht2⟩:=xh htc
  have hfi:Fine u.ss g.tys[i]:=hfin.all _ (gem hlt2)
  have hB:=hfi.is hfin.few
  have hrT:zz g.tys[i]=g.tys[i].regs:=by rw[zz,hB];rfl
  have h48:=vK hB
  have hl0:=ZZ (g.tys.take i)
  have hl1:=aeq (g.tys.take i)
  rw[List.length_take]at hl1
  have hlow:∀x∈xp g.tys[i].regs (g.lv+zY (g.tys.take i)),-1≤x:=λx hx=>by
   obtain⟨j,hj,rfl⟩:=List.getElem_of_mem hx
   rw[jf]at hj
   rw[aaZ hj]
   have:=(ZA (g.tys[i].regs.take j)).1
   split<;>omega
  obtain⟨pv,capv,rfl,_,_,hxl,_⟩:=S.rowS v
  refine zi (λ_ w'=>∃v' s' xs',RowOf 5 (TyC s') xs' (kK (g.tys.take (i+1)) g.lv)∧Above w s'∧StX noX w (r.or s') w' [.cell b6 (rgL g.lv g.pts.length (g.lv+zY (g.tys.take (i+1))) v' (.slice none 0 0)) 74,.row v' 43 5 (i+1) xs',
   .cell b8 [.string g.name,.int .i64 g.lv,.slice qo g.outs.length capo,.int .i64 g.pn,.slice (some ⟨bt,ot,none⟩) g.tys.length capt,.slice qn g.nms.length capn,.slice qp g.pts.length capp] 101,.cell b3 [.slice p0 u.ss.length cap0,.slice (some ⟨bf,of,none⟩) u.fs.length capf,.int .i64 u.mn] 25]) (λK87 hK87=>?_) ?_
  rotate_left
  ·clear S
   rintro _ w8 ⟨v',s',xs',hr',ha',S⟩ d8
   refine gP_ ?_
   rw[show ((i:Int)+1)=((i+1:Nat):Int)by omega]
   exact hK6 (i+1,v',s',xs') _ ⟨hlt2,hr',ha',S⟩ (by show g.tys.length-(i+1)<g.tys.length-i;omega)
  refine gP_ ?_
  refine zq (n:=5) hct2 (λj v hj=>by rw[tnc];exact S.at (hcell j v hj)) ?_
  refine S.al λb10 w8 S=>?_
  refine S.stB (b:=b10) λw9 S=>?_
  have S:=S.go (Ext.drew _)
  refine gG_ ?_
  have hsnoc:=afV (c:=g.lv) hlt2
  have htak:=afU hlt2
  rw[hrT]at hsnoc htak
  have hcall:∀{M:List Asr}{w9:World}{K9:Value→World→Prop},StX noX w (r.or s) w9 (.cell b6 (rgL g.lv g.pts.length (g.lv+zY (g.tys.take i)) (.slice pv i capv) (.slice none 0 0)) 74::M)→
    (∀q' cap' sn w',StX noX w ((r.or s).or sn) w' (.cell b6 (rgL g.lv g.pts.length (g.lv+zY (g.tys.take (i+1))) (.slice pv i capv) (.slice none 0 0)) 74::M)→Above w (s.or sn)→
     RowOf 5 (TyC (s.or sn)) (xs++tyL (g.tys[i].lay (xp g.tys[i].regs (g.lv+zY (g.tys.take i)))) q' cap') (kK (g.tys.take (i+1)) g.lv)→K9 (tyV (g.tys[i].lay (xp g.tys[i].regs (g.lv+zY (g.tys.take i)))) q' cap') w')→
    zc Tryz.prog Tryz.yn #[tyV g.tys[i] q2 cap2,.func (.func Tryz.j0) #[] #[.pointer (some ⟨b6,0,none⟩)]] w9 K9:=by
   intro M w9 K9 S hk
   refine aaj (Lc:=λj=>[.cell b6 (rgL g.lv g.pts.length (g.lv+zY (g.tys.take i)+yw (g.tys[i].regs.take j)) (.slice pv i capv) (.slice none 0 0)) 74]) (M:=M) (m:=xp g.tys[i].regs (g.lv+zY (g.tys.take i))) hB (jf _ _) hlow
    (aa3 (by omega) (by omega) (by omega)) (by
     show StX _ _ _ _ (.cell b6 (rgL _ _ (_+yw (List.take 0 _)) _ _) _::M)
     rw[List.take_zero,show yw []=0 from rfl,Int.add_zero];exact S) ht2.up λv' sn w' S ha ht hc=>?_
   obtain⟨q',cap',rfl,_⟩:=id ht
   refine hk q' cap' sn w' ?_ (hab.or' ha) ?_
   ·rw[htak,← Int.add_assoc]
    have S:StX noX w ((r.or s).or sn) w' (.cell b6 (rgL g.lv g.pts.length (g.lv+zY (g.tys.take i)+yw (g.tys[i].regs.take g.tys[i].regs.length)) (.slice pv i capv) (.slice none 0 0)) 74::M):=S
    rw[List.take_length]at S
    exact S
   ·rw[hsnoc]
    exact(hrow.mono λc x hx=>TyG.up hx).snoc rfl (TyG.up ht)
  have hS:=S
  repeat' (first
   |(first|refine s_p ?_|refine s_c (by omega) ?_|refine S.ld ?_|refine S.ldB ?_|refine S.ce ?_|refine S.ceB ?_|refine s_q ?_|refine s_qc (by omega) ?_|refine n_some ?_|rw [gdz]|rw [gds])
   |(rw[show 0+((i:Nat):Int).toNat*5=i*5 by omega])
   |(refine S.litU (e:=43) (cs:=XJ) (by kernel_rfl) λb33 w33 S=>?_)
   |(refine hcall (S.front b6) λq' cap' sn w34 S ha9 hr9=>?_)
   |(refine S.ap (m':=1) (Sl.blk (S.blk b33)) (λv9 w35 S=>?_) (by omega);obtain⟨p9,cap9,rfl,_⟩:=S.rowS v9;obtain⟨b9,rfl⟩:=S.row0N (p:=p9) (n:=i+1) (cap:=cap9) trivial (by omega))
   |(refine S.stRowN (i:=i) (b:=b9) (n:=i+1) (cap:=cap9) (by omega) λw36 S=>?_;rw[af1 hxl rfl]at S)
   |(refine S.st (b:=b6) λw37 S=>?_)
   |exact hK87 [] _ ⟨_,_,_,hr9,ha9,((S.drop b33).drop b10).reGh⟩
   |refine aeO ?_
   |refine And.intro ?_ ?_)
 have hie:i=g.tys.length:=by omega
 subst hie
 rw[List.take_length]at hrow S
 have S:=S.swap
 obtain⟨s2,S,hsl2,_,hab2⟩:=S.doneRow hrow (by decide) (by rw[jg])
 have hab2:Above w s2:=λb o ho=>(hab2 b o ho).resolve_right id
 have hloc:=ZZ g.tys
 have hloc2:=aeq g.tys
 clear hK6 K6 hge hi
 have S:=S.ownNil 3 1
 have S:=S.swap
 refine gG_ ?_
 generalize hbase:g.lv+zY g.tys=base at S
 refine zk (ι:=Nat×Value) (λi=>[.int .i64 (i.1:Nat)]) (λi w'=>i.1≤g.pts.length∧
  StX noX w ((r.or s).or s2) w' [.cell b6 (rgL g.lv g.pts.length (base+atC u (g.pts.take i.1)) v i.2) 74,.row i.2 3 1 i.1 (ints (atK u (g.pts.take i.1) base)),
   .cell b8 [.string g.name,.int .i64 g.lv,.slice qo g.outs.length capo,.int .i64 g.pn,.slice qt g.tys.length capt,.slice qn g.nms.length capn,.slice qp g.pts.length capp] 101,.cell b3 [.slice p0 u.ss.length cap0,.slice (some ⟨bf,of,none⟩) u.fs.length capf,.int .i64 u.mn] 25]) (λi=>g.pts.length-i.1) (0,.slice none 0 0) rfl
  ⟨gzl _,by
   rw[List.take_zero,show base+atC u []=base by simp[atC]];exact S⟩ ?_
 clear S
 rintro⟨i,va⟩ d w8 ⟨hi,S⟩ K7 hK7
 simp only at hi S⊢
 rw[gdz]
 have ha0:=Vk (u:=u) (l:=g.pts) (λp hp=>(hptN p hp).1) i
 have ha1:=aje (u:=u) (l:=g.pts) λp hp=>(hptN p hp).2
 refine gP_ ?_
 refine zj (λhlt2=>?_) (λhge=>?_)
 ·have hlt2:i<g.pts.length:=by omega
  obtain⟨bp,op,cp,rfl,hcp,hpc,hcell⟩:=h4.sl.get (by decide) hlt2
  have hN:=hptN g.pts[i] (gem hlt2)
  have hpt:=hpts g.pts[i] (gem hlt2)
  have hsn:=ag0 (u:=u) (c:=base) hlt2
  have htk:=adb (u:=u) hlt2
  refine gP_ ?_
  refine zq (n:=21) hcp (λj v hj=>by rw[tnc];exact S.at (hcell j v hj)) ?_
  generalize g.pts[i]=p at hpc hN hpt hsn htk
  obtain⟨vto,vaa,vb,vl,vfr,rfl,k1,k2,k3,k4,k5⟩:=hpc
  obtain⟨_,_,rfl,_⟩:=k1.sl.shape
  obtain⟨_,_,rfl,_⟩:=k2.sl.shape
  obtain⟨_,_,rfl,_⟩:=k3.sl.shape
  obtain⟨_,_,rfl,_⟩:=k4.sl.shape
  obtain⟨_,_,rfl,_⟩:=k5.sl.shape
  refine S.al λb12 w9 S=>?_
  refine S.stB (b:=b12) λw10 S=>?_
  refine zi (λs w'=>s=[.int .i64 (ptN u p)]∧w'=w10) (λK9 hK9=>?_) ?_
  ·refine gG_ ?_
   refine zj (λho=>?_) (λho=>?_)
   ·refine hK9 _ _ ⟨by rw[ptN,if_pos ho],rfl⟩
   refine gG_ ?_
   refine zj (λho2=>?_) (λho2=>?_)
   ·have hcc:=XM hpt ho2
    have hlt3:p.fn.toNat<u.fs.length:=by omega
    obtain⟨bf2,of2,cf2,hbe,hcf2,hgc2,hfo2⟩:=hfn.sl.get (by decide) hlt3
    cases hbe
    obtain⟨vo',vt',vn',vp',rfl,_⟩:=hgc2
    refine gG_ ?_
    refine zf (v:=.int .i64 u.fs[p.fn.toNat].lv) (by simpa using S.at (hfo2 1 _ rfl)) ?_
    refine hK9 _ _ ⟨by rw[ptN,if_neg ho,if_pos ho2,agW,gqg hlt3],rfl⟩
   ·exact hK9 _ _ ⟨by rw[ptN,if_neg ho,if_neg ho2],rfl⟩
  rintro _ w10 ⟨rfl,rfl⟩ d10
  refine gG_ ?_
  refine zi (λs w'=>s=[.int .i64 (if ptN u p=0 then -1 else base+atC u (g.pts.take i))]∧w'=w10) (λK9 hK9=>?_) ?_
  ·refine gG_ ?_
   refine zj (λho=>?_) (λho=>?_)
   ·exact hK9 _ _ ⟨by rw[if_pos ho],rfl⟩
   ·exact hK9 _ _ ⟨by rw[if_neg ho],rfl⟩
  rintro _ w10 ⟨rfl,rfl⟩ d11
  obtain⟨pa,capa,rfl,_,_,hxl,_⟩:=S.rowS va
  refine gG_ ?_
  refine S.lit (e:=3) (cs:=[.int .i64 (if ptN u p=0 then -1 else base+atC u (g.pts.take i))]) (by kernel_rfl) λb13 w11 S=>?_
  refine S.ap (m':=1) (Sl.blk (S.blk b13)) (λv13 w12 S=>?_) (by omega)
  have hv1:=S.row1 v13
  refine gG_ ?_
  refine S.st (b:=b6) (h1:=hv1) λw13 S=>?_
  refine gG_ ?_
  refine S.st (b:=b6) λw14 S=>?_
  refine gG_ ?_
  rw[show ((i:Int)+1)=((i+1:Nat):Int)by omega]
  refine hK7 (i+1,v13) _ ⟨hlt2,?_⟩ (by show g.pts.length-(i+1)<g.pts.length-i;omega)
  have hins:ints (atK u (g.pts.take i) base)++[.int .i64 (if ptN u p=0 then -1 else base+atC u (g.pts.take i))]=ints (atK u (g.pts.take (i+1)) base):=by rw[hsn,ints,ints,List.map_append];rfl
  rw[hins]at S
  have S:=(S.drop b13).drop b12
  rw[htk,← Int.add_assoc]
  exact S
 have hie:i=g.pts.length:=by omega
 subst hie
 rw[List.take_length]at S
 have S:=S.swap
 obtain⟨s3,S,hsl3,_,hab3⟩:=S.doneRow (l:=atK u g.pts base) (R:=xn) (sz:=1) (ae2 _) (by decide) (by rw[Jm])
 have hab3:Above w s3:=λb o ho=>(hab3 b o ho).resolve_right id
 obtain⟨_,_,rfl,_⟩:=hsl2.shape
 obtain⟨_,_,rfl,_⟩:=hsl3.shape
 refine gG_ ?_
 refine S.stB (b:=b6) λw15 S=>?_
 refine gG_ ?_
 have hle:Le ((s.or s2).or s3) (((r.or s).or s2).or s3):=⟨λb o ho=>by
  rcases ho with(ho|ho)|ho
  ·exact .inl (.inl (.inr ho))
  ·exact .inl (.inr ho)
  ·exact .inr ho⟩
 refine h _ ((s.or s2).or s3) _ S.ext (S.newOf ((hab.or' hab2).or' hab3)) ⟨_,_,?_,hsl2.up' (s:=(s.or s2).or s3) inferInstance λc x hx=>TyG.up hx,by rw[show (yI u g).at'=atK u g.pts base by rw[← hbase];rfl];exact hsl3.cells⟩
 rw[← hbase];rfl
section
variable {u:UnD} {fn q:Int} {r:Gh} {v:Value} {p:PtD} {K:Value→World→Prop}
theorem RgG.shape{d:RgD}(h:RgG r v d):∃q1 c1 q2 c2,v=.agg (rgL d.lv d.pt d.ct (.slice q1 d.tys.length c1) (.slice q2 d.at'.length c2)).toArray∧SlG 5 r (TyC r) (.slice q1 d.tys.length c1) d.tys∧SlG 1 r xn (.slice q2 d.at'.length c2) d.at':=by
 obtain⟨vl,va,rfl,h1,h2⟩:=h
 obtain⟨q1,c1,rfl,_⟩:=h1.shape
 obtain⟨q2,c2,rfl,_⟩:=h2.shape
 exact⟨q1,c1,q2,c2,rfl,h1,h2⟩
abbrev rgZ:List Value:=rgL 0 0 0 (.slice none 0 0) (.slice none 0 0)
theorem adj{d:RgD}{e:Int}{w:World}{K:Value→World→Prop}(hr:Holds r w)(hd:RgG r v d)
  (h:∀v' w',Ext w w'→RgG r v' (zN (d,e)).1→K (.tuple #[v',.int .i64 (zN (d,e)).2]) w'):zc Tryz.prog Tryz.ZI #[v,.int .i64 e] w K:=by
 refine Tryz.ab1 ?_
 unfold Tryz.QJ
 have hd0:=hd
 obtain⟨q1,c1,q2,c2,rfl,h1,h2⟩:=hd.shape
 have S:=St.start hr
 refine S.box λb2 w1 S=>?_
 have S:StX noX w r w1 [.cell b2 (rgL d.lv d.pt d.ct (.slice q1 d.tys.length c1) (.slice q2 d.at'.length c2)) 74]:=S
 refine S.al λb4 w2 S=>?_
 have S:StX noX w r w2 [.cell b4 rgZ 74,.cell b2 (rgL d.lv d.pt d.ct (.slice q1 d.tys.length c1) (.slice q2 d.at'.length c2)) 74]:=S
 refine zi (λs w'=>s=[.int .i64 (zN (d,e)).2]∧w'=w2) (λK3 hK3=>?_) ?_
 ·refine gP_ ?_
  refine zh (c:=decide (512<d.ct)) (λ_ K2 hK2=>?_) ?_
  ·refine gG_ ?_
   exact hK2
  refine c_b (λhb=>?_) (λhb=>?_)
  ·have hb:e=0∧512<d.ct:=by simpa using hb
   refine hK3 _ _ ⟨?_,rfl⟩
   rw[zN,if_pos hb.1,if_pos hb.2]
  ·refine hK3 _ _ ⟨?_,rfl⟩
   rw[zN]
   by_cases he:e=0
   ·rw[if_pos he,if_neg (by rw[gde he,Bool.true_and,decide_eq_false_iff_not]at hb;exact hb)]
   ·rw[if_neg he]
 rintro _ w2 ⟨rfl,rfl⟩ d3
 refine gG_ ?_
 have hf:zN (d,e)=if (zN (d,e)).2=0 then(d,0)else(vM,(zN (d,e)).2):=by
  unfold zN
  by_cases he:e=0
  ·by_cases hc:512<d.ct
   ·simp[he,hc]
   ·simp[he,hc]
  ·simp[he]
 generalize (zN (d,e)).2=x at hf
 refine zj (λhne=>?_) (λheq=>?_)
 ·rw[if_neg hne]at hf
  rw[hf]at h
  refine zo (cs:=rgZ.toArray) (by kernel_rfl) ?_
  refine S.stB (b:=b4) λw3 S=>?_
  refine S.ceB (b:=b4) ?_ rfl
  exact h _ _ S.ext RgG.zero
 ·have heq:x=0:=by omega
  rw[if_pos heq]at hf
  rw[hf]at h
  refine S.ldB (b:=b2) ?_ rfl
  refine S.stB (b:=b4) λw3 S=>?_
  refine S.ceB (b:=b4) ?_ rfl
  rw[heq]
  exact h _ _ S.ext hd0
theorem adX{fn:Int}{w:World}{K:Value→World→Prop}(hr:Holds r w)(hu:UnG r v u)
  (h:∀v' s w',Ext w w'→New w s w'→RgG s v' (zN (zF u fn (-1))).1→K (.tuple #[v',.int .i64 (zN (zF u fn (-1))).2]) w'):zc Tryz.prog Tryz.YC #[v,.int .i64 fn] w K:=by
 refine Tryz.ac9 ?_
 unfold Tryz.JM
 have hu0:=hu
 obtain⟨p0,cap0,vf,rfl,_,_,hst,hsl,hfn⟩:=hu
 obtain⟨qf,capf,rfl,_,_⟩:=hfn.sl.shape
 have S:=St.start hr
 refine S.box λb2 w1 S=>?_
 refine S.al λb4 w2 S=>?_
 refine S.ldB (b:=b2) ?_ rfl
 refine adi S.holds hu0 λv3 s w3 e3 n3 h3=>?_
 obtain⟨S,d3,a3⟩:=S.tell e3 n3
 refine gS_ ?_
 refine adj (r:=s) (S.holds.le (h:=inferInstance)) h3 λv4 w4 e4 h4=>?_
 have S:=S.go e4
 obtain⟨q1,c1,q2,c2,rfl,_,_⟩:=h4.shape
 refine gS_ ?_
 refine S.stB (b:=b4) λw5 S=>?_
 refine S.ceB (b:=b4) ?_ rfl
 exact h _ s _ S.ext (S.newOf a3) h4
theorem kk(h:isU u fn q=true):MayU u∧0≤fn∧∃hlt:fn.toNat<u.fs.length,q<u.fs[fn.toNat].pts.length∧zF u fn q=(yI u u.fs[fn.toNat],0):=by
 have h0:=h
 rw[isU]at h
 simp only[gba,gdt]at h
 obtain⟨⟨h1,h2⟩,h3,h4⟩:=h
 have hlt:fn.toNat<u.fs.length:=by omega
 rw[gqg hlt]at h4
 exact⟨Vo.1 h3,h1,hlt,h4,by rw[zF,if_pos h0,gqg hlt]⟩
theorem ajf(h:isU u fn q=false):zF u fn q=(vM,2):=by rw[zF,h];rfl
theorem Z2{g:GrD}:(yI u g).tys.length=g.tys.length∧(yI u g).at'.length=g.pts.length:=⟨jg _ _,Jm _ _ _⟩
def Xe:PlD:=⟨0,[]⟩
def Jn:OpD:=⟨0,0,Xe⟩
theorem aer{α:Type}{sz:Nat}{R:List Value→α→Prop}:SlB sz r R (.slice none 0 0) ([]:List α):=⟨SlG.nil,gzl _⟩
abbrev ptL(p:PtD)(q1 q2 q3 q4 q5:Option Addr)(c1 c2 c3 c4 c5:Nat):List Value:=[.int .u8 p.op,.int .i64 p.to.l,.slice q1 p.to.ps.length c1,.int .u8 p.a.k,.int .i64 p.a.n,.int .i64 p.a.pl.l,.slice q2 p.a.pl.ps.length c2,.int .u8 p.b.k,.int .i64 p.b.n,.int .i64 p.b.pl.l,.slice q3 p.b.pl.ps.length c3,.slice q4 p.args.length c4,
 .string p.sign,.int .i64 p.fr.l,.slice q5 p.fr.ps.length c5,.bool p.mu,.int .i64 p.fn,.int .i64 p.st,.int .i64 p.nx,.int .i64 p.el,.int .i64 p.tx]
theorem j6{c:List Value}(h:PtG r c p):∃q1 q2 q3 q4 q5 c1 c2 c3 c4 c5,c=ptL p q1 q2 q3 q4 q5 c1 c2 c3 c4 c5∧PtG r (ptL p q1 q2 q3 q4 q5 c1 c2 c3 c4 c5) p:=by
 obtain⟨vto,va,vb,vl,vfr,rfl,k1,k2,k3,k4,k5⟩:=id h
 obtain⟨q1,c1,rfl,_⟩:=k1.sl.shape
 obtain⟨q2,c2,rfl,_⟩:=k2.sl.shape
 obtain⟨q3,c3,rfl,_⟩:=k3.sl.shape
 obtain⟨q4,c4,rfl,_⟩:=k4.sl.shape
 obtain⟨q5,c5,rfl,_⟩:=k5.sl.shape
 exact⟨q1,q2,q3,q4,q5,c1,c2,c3,c4,c5,rfl,h⟩
theorem ajg{x:RgD×Int}(h:(zN x).2=0):x.2=0∧(zN x).1=x.1∧x.1.ct≤512:=by
 unfold zN at h⊢
 split at h
 ·rename_i h1
  split at h
  ·cases h
  ·rename_i h2;rw[if_pos h1,if_neg h2];exact⟨h1,rfl,by omega⟩
 ·rename_i h1;exact absurd h h1
def adk(u:UnD)(fn q:Int):Option PtD:=u.fs[fn.toNat]?.bind λg=>g.pts[q.toNat]?
theorem ajh(hc:isU u fn q=true)(hq:0≤q):∃hl:q.toNat<(zF u fn q).1.at'.length,(zF u fn q).1.at'[q.toNat]=atL (zF u fn q).1.at' q:=by
 obtain⟨hM,hf0,hlt,hql,hT⟩:=kk hc
 have hl:q.toNat<(zF u fn q).1.at'.length:=by rw[hT,show (yI u u.fs[fn.toNat],(0:Int)).1=yI u u.fs[fn.toNat]from rfl,Z2.2];omega
 exact⟨hl,by rw[atL,ggd,gqg hl];rfl⟩
theorem ag9(hlt:fn.toNat<u.fs.length)(h:adk u fn q=some p):∃hq:q.toNat<u.fs[fn.toNat].pts.length,u.fs[fn.toNat].pts[q.toNat]=p:=by
 rw[adk,gqg hlt,Option.bind_some]at h
 exact List.getElem?_eq_some_iff.1 h
theorem aji(hc:isU u fn q=true)(hq:0≤q)(hp:adk u fn q=some p)(hn:ptN u p≠0):0≤atL (zF u fn q).1.at' q∧atL (zF u fn q).1.at' q+ptN u p≤(zF u fn q).1.ct:=by
 obtain⟨hM,hf0,hlt,hql,hT⟩:=kk hc
 obtain⟨hql',rfl⟩:=ag9 hlt hp
 obtain⟨hl,ha⟩:=ajh hc hq
 have hN:=λp hp=>hM.ptN (gem hlt) (p:=p) hp
 have hH:=hM.hd hlt
 have e1:(zF u fn q).1=yI u u.fs[fn.toNat]:=by rw[hT]
 rw[← ha]
 have e2:(zF u fn q).1.at'=atK u u.fs[fn.toNat].pts (u.fs[fn.toNat].lv+zY u.fs[fn.toNat].tys):=by rw[e1];rfl
 have e3:(zF u fn q).1.at'[q.toNat]=u.fs[fn.toNat].lv+zY u.fs[fn.toNat].tys+atC u (u.fs[fn.toNat].pts.take q.toNat):=by
  simp only[e2]
  rw[ajc hql',if_neg hn]
 rw[e3,e1]
 have h1:=Vk (u:=u) (l:=u.fs[fn.toNat].pts) (λp hp=>(hN p hp).1) q.toNat
 have h2:=Vk (u:=u) (l:=u.fs[fn.toNat].pts) (λp hp=>(hN p hp).1) (q.toNat+1)
 rw[adb hql']at h2
 have h3:=ZZ u.fs[fn.toNat].tys
 have h4:=hH.lv0
 show _∧_≤u.fs[fn.toNat].lv+zY u.fs[fn.toNat].tys+atC u u.fs[fn.toNat].pts
 omega
end
end Go.Proofs
namespace Go.Sh
theorem StX.mkSU{P:Program}{X:Nat→Prop}{w0 w:World}{r:Gh}{L:List Asr}{t e:TypeId}{bytes:Nat}{kl:IntKind}{n:Int}{z:Value}(S:StX X w0 r w L)[hT:ApT P t e 1 bytes][hz:ZrT P e [z]]{K:Value→World→Prop}(h0:0≤n)(hb:(bytes:Int)*n≤281474976710656)
  (h:∀b w',StX X w0 r w' (.cell b (List.replicate n.toNat z) e::L)→K (.slice (some ⟨b,0,none⟩) n.toNat n.toNat) w'):opW P w (Instr.makeSlice t (.int kl n) (.int kl n)) λt' w'=>Ext w w'∧K t' w':=
 afx hT.h hz.h h0 hb λb w' hb e _ B=>⟨e,h b w' (S.add e (by omega) B)⟩
theorem StX.litNew{w0 w:World}{r:Gh}{L M:List Asr}{α:Type}{sz:Nat}{R:List Value→α→Prop}{l:List α}{e:TypeId}{xs:List Value}(S:StX noX w0 r w L)(b:Nat)[h:j2 b L xs e M](hr:RowOf sz R xs l)(hz:0<sz):
  StX noX w0 (r.or (Go.Sh.one b xs e)) w M∧SlG sz (Go.Sh.one b xs e) R (.slice (some ⟨b,0,none⟩) l.length l.length) l∧Above w0 (Go.Sh.one b xs e):=by
 have S1:=S.front b
 have hm:=S1.mine (.cell b xs e) List.mem_cons_self b rfl
 obtain⟨S2,h2⟩:=S1.litSl hr hz
 exact⟨S2,h2,by rintro b' o ⟨rfl,_⟩;exact hm.1.resolve_right id⟩
end Go.Sh
namespace Go.Proofs
open Go.Sh
theorem yG{α:Type}{sz:Nat}{R:List Value→α→Prop}{c:List Value}{x:α}(hc:c.length=sz)(hx:R c x):RowOf sz R c [x]:=RowOf.nil.snoc (xs:=[]) hc hx
theorem yq{α:Type}{sz:Nat}{R:List Value→α→Prop}{c xs:List Value}{x:α}{l:List α}(hc:c.length=sz)(hx:R c x)(h:RowOf sz R xs l):RowOf sz R (c++xs) (x::l):=by
 obtain⟨h1,h2⟩:=h
 refine⟨by rw[gla,List.length_cons,h1,hc,Nat.succ_mul,Nat.add_comm],λi hi=>?_⟩
 cases i with
 |zero=>rw [Nat.zero_mul,List.drop_zero,List.take_append_of_le_length (by omega),List.take_of_length_le (by omega)];exact hx
 |succ i=>
  have e:((c++xs).drop ((i+1)*sz))=xs.drop (i*sz):=by
   rw[show (i+1)*sz=c.length+i*sz by rw[hc,Nat.succ_mul,Nat.add_comm],← List.drop_drop,List.drop_left'];rfl
  rw[e]
  exact h2 i (by simpa using hi)
theorem Xf{α:Type}{sz:Nat}{r:Gh}{R:List Value→α→Prop}{v:Value}{l:List α}(h:SlG sz r R v l)(hl:l.length≤1000000:=by decide):SlB sz r R v l:=⟨h,by simp only[maxLen];omega⟩
def kM:TyD:=.mk 4 true (-1) 0 [ya]
def plD(l:Int):PlD:=⟨l,[]⟩
def ajj(n:Int):OpD:=⟨1,n,Xe⟩
def hp0:PtD:=⟨4,plD 2,Jn,Jn,[],ByteArray.empty,plD 1,true,0,0,1,0,0⟩
def hp1:PtD:=⟨1,plD 1,ajj 2,Jn,[],ByteArray.empty,Xe,false,0,0,2,0,0⟩
def hp2:PtD:=⟨1,⟨2,[-1]⟩,ajj 3,Jn,[],ByteArray.empty,Xe,false,0,0,3,0,0⟩
def hp3:PtD:=⟨14,Xe,Jn,Jn,[],ByteArray.empty,Xe,false,0,0,0,0,0⟩
def zB:GrD:=⟨ByteArray.empty,0,[],0,[ya,ya,kM],[ByteArray.empty,ByteArray.empty,ByteArray.empty],[hp0,hp1,hp2,hp3]⟩
def zL:UnD:=⟨[],[zB],0⟩
abbrev Z3:List Value:=[.int .u8 1,.bool false,.int .i64 0,.int .i64 0,.slice none 0 0]
abbrev ajk:Value:=.agg #[.int .u8 1,.bool false,.int .i64 0,.int .i64 0,.slice none 0 0]
abbrev ajl(n:Int):Value:=.agg #[.int .u8 1,.int .i64 n,.int .i64 0,.slice none 0 0]
abbrev hl0:List Value:=[.int .u8 4,.int .i64 2,.slice none 0 0,.int .u8 0,.int .i64 0,.int .i64 0,.slice none 0 0,.int .u8 0,.int .i64 0,.int .i64 0,.slice none 0 0,.slice none 0 0,.string ByteArray.empty,.int .i64 1,.slice none 0 0,.bool true,.int .i64 0,.int .i64 0,.int .i64 1,.int .i64 0,.int .i64 0]
abbrev hl1:List Value:=[.int .u8 1,.int .i64 1,.slice none 0 0,.int .u8 1,.int .i64 2,.int .i64 0,.slice none 0 0,.int .u8 0,.int .i64 0,.int .i64 0,.slice none 0 0,.slice none 0 0,.string ByteArray.empty,.int .i64 0,.slice none 0 0,.bool false,.int .i64 0,.int .i64 0,.int .i64 2,.int .i64 0,.int .i64 0]
abbrev hl2(b:Nat):List Value:=[.int .u8 1,.int .i64 2,.slice (some ⟨b,0,none⟩) 1 1,.int .u8 1,.int .i64 3,.int .i64 0,.slice none 0 0,.int .u8 0,.int .i64 0,.int .i64 0,.slice none 0 0,.slice none 0 0,.string ByteArray.empty,.int .i64 0,.slice none 0 0,.bool false,.int .i64 0,.int .i64 0,.int .i64 3,.int .i64 0,.int .i64 0]
abbrev hl3:List Value:=[.int .u8 14,.int .i64 0,.slice none 0 0,.int .u8 0,.int .i64 0,.int .i64 0,.slice none 0 0,.int .u8 0,.int .i64 0,.int .i64 0,.slice none 0 0,.slice none 0 0,.string ByteArray.empty,.int .i64 0,.slice none 0 0,.bool false,.int .i64 0,.int .i64 0,.int .i64 0,.int .i64 0,.int .i64 0]
theorem hst:zI ([]:List StD)=(0,0):=by unfold zI;simp[xP]
theorem hmay(t:TyD):mayB [] t=zA 0 48 t:=by rw[mayB,hst];simp
theorem Zw:ByteArray.empty.toList=[]:=by rw[ByteArray.toList_eq];rfl
theorem af6:ki zL 0 zB=true:=by
 have h1:j4 zL zB 0 zB.tys=true:=by
  show((mayB [] ya&&_)&&((mayB [] ya&&_)&&((mayB [] kM&&_)&&true)))=true
  rw[hmay,hmay]
  kernel_rfl
 unfold ki
 rw[h1]
 show(_:Bool)=true
 kernel_rfl
theorem aha:∀p∈zB.pts,zG zL zB p=true:=by
 have hp:zB.pts=[hp0,hp1,hp2,hp3]:=rfl
 rw[hp]
 intro p h
 simp only[List.mem_cons,List.not_mem_nil,or_false]at h
 rcases h with rfl|rfl|rfl|rfl
 ·have e:zE hp0 { to:=true,fr:=true,mu:=true } = true:=by
   rw[zE,qC,show hp0.sign=ByteArray.empty from rfl,Zw];kernel_rfl
  have :zG zL zB hp0=(((((zE hp0 { to:=true,fr:=true,mu:=true } && true)&&true)&&true)&&true)&&(true&&true)):=by kernel_rfl
  rw[this,e];rfl
 ·have e:zE hp1 { to:=true,a:=true } = true:=by
   rw[zE,qC,show hp1.sign=ByteArray.empty from rfl,Zw];kernel_rfl
  have :zG zL zB hp1=(((zE hp1 { to:=true,a:=true } && true)&&true)&&true):=by kernel_rfl
  rw[this,e];rfl
 ·have e:zE hp2 { to:=true,a:=true } = true:=by
   rw[zE,qC,show hp2.sign=ByteArray.empty from rfl,Zw];kernel_rfl
  have :zG zL zB hp2=(((zE hp2 { to:=true,a:=true } && true)&&true)&&true):=by kernel_rfl
  rw[this,e];rfl
 ·have e:zE hp3 {} = true:=by
   rw[zE,qC,show hp3.sign=ByteArray.empty from rfl,Zw];kernel_rfl
  have :zG zL zB hp3=zE hp3 {}:=by kernel_rfl
  rw[this,e]
theorem ahb:MayU zL:=by
 refine⟨by show(zI []).2=0;rw[hst],by decide,by decide,by decide,by decide,λi hi=>?_,λg hg=>?_⟩
 ·have :i=0:=by have :zL.fs.length=1:=rfl;omega
  subst this
  exact af6
 ·rw[List.mem_singleton.1 hg]
  exact aha
def ahc(k:Int):TyD:=.mk 4 true k 0 [ya]
theorem Vp{q:Int}(h:q<4):isU zL 0 q=true:=by
 rw[isU,Vo.2 ahb]
 show(true&&(true&&decide (q<4)))=true
 rw[gde h];rfl
theorem ahd{q:Int}(h:q<4):zF zL 0 q=(⟨0,4,2,[ya,ya,ahc 0],[1,-1,-1,-1]⟩,0):=by
 rw[zF,if_pos (Vp h)]
 kernel_rfl
section
variable {g:GrD} {l:List Int}
theorem j7{u:UnD}{p:PtD}(h:zG u g p=true):ptG u g p=true:=by
 rw[zG,gba]at h;exact h.2
theorem ahe{u:UnD}{p:PtD}(h:zG u g p=true)(ho:1≤p.op∧p.op≤8):(zs u.ss g.tys p.to).2.2=true:=by
 have h2:=j7 h
 cases hf:(zs u.ss g.tys p.to).2.2 with
 |true=>rfl
 |false=>
  have hc:p.op=1∨p.op=2∨p.op=3∨p.op=4∨p.op=5∨p.op=6∨p.op=7∨p.op=8:=by omega
  rw[ptG]at h2
  rcases hc with hc|hc|hc|hc|hc|hc|hc|hc<;>simp [hc,hf]at h2
theorem jM{ss:List StD}{tys:List TyD}{p:PlD}(h:(zs ss tys p).2.2=true):p.ps.length≤8:=by
 unfold zs at h
 split at h
 ·simpa using h
 ·cases h
abbrev grL(g:GrD)(q1 q2 q3 q4:Option Addr)(c1 c2 c3 c4:Nat):List Value:=[.string g.name,.int .i64 g.lv,.slice q1 g.outs.length c1,.int .i64 g.pn,.slice q2 g.tys.length c2,.slice q3 g.nms.length c3,.slice q4 g.pts.length c4]
theorem ail{r:Gh}{c:List Value}(h:GrG r c g):∃q1 q2 q3 q4 c1 c2 c3 c4,c=grL g q1 q2 q3 q4 c1 c2 c3 c4∧GrG r (grL g q1 q2 q3 q4 c1 c2 c3 c4) g:=by
 obtain⟨vo,vt,vn,vp,rfl,k1,k2,k3,k4⟩:=id h
 obtain⟨q1,c1,rfl,_⟩:=k1.sl.shape
 obtain⟨q2,c2,rfl,_⟩:=k2.sl.shape
 obtain⟨q3,c3,rfl,_⟩:=k3.sl.shape
 obtain⟨q4,c4,rfl,_⟩:=k4.sl.shape
 exact⟨q1,q2,q3,q4,c1,c2,c3,c4,rfl,h⟩
theorem af7{r:Gh}{p:Option Addr}{n cap:Nat}(h:SlB 1 r xo (.slice p n cap) l):Ob r λw=>Sl w p (ints l):=aep (h.sl.mono λc x hx=>hx.1)
theorem abH(h:∀x∈l,YK x):RowOf 1 xo (ints l) l:=⟨by rw[ym,Nat.mul_one],λj hj=>by
 refine⟨?_,h _ (gem hj)⟩
 rw[Nat.mul_one,ints,← List.map_drop,← List.map_take,List.drop_eq_getElem_cons hj];rfl⟩
end
end Go.Proofs
namespace Go.Sh
open Go.RowKit
section
section
variable {P:Program} {X:Nat→Prop} {w0 w:World} {r:Gh} {L:List Asr} {α:Type} {sz n:Nat} {R:List Value→α→Prop} {l:List α} {e:TypeId} {p:Option Addr} {cap:Nat}
theorem aim(hz:0<sz)(h:SlG sz r R (.slice p n cap) l):∃xs,RowOf sz R xs l∧Ob r λw=>Sl w p xs:=by
 have key:∀k,k≤l.length→∃xs,RowOf sz R xs (l.take k)∧Ob r λw=>Sl w p xs:=by
  intro k
  induction k with
  |zero=>intro _;exact⟨[],by rw[List.take_zero];exact RowOf.nil,λw _=>Sl.nil w _⟩
  |succ k ih=>
   intro hk
   obtain⟨xs,h1,h2⟩:=ih (by omega)
   obtain⟨b,off,c,rfl,hc,hcc,hcell⟩:=h.get hz (show k<l.length by omega)
   have hxl:xs.length=k*sz:=by rw[h1.1,List.length_take,Nat.min_eq_left (by omega)]
   refine⟨xs++c,by rw[List.take_succ_eq_append_getElem (by omega)];exact h1.snoc hc hcc,λw hw i v hi=>?_⟩
   by_cases hlt:i<xs.length
   ·rw[List.getElem?_append_left hlt]at hi;exact h2 w hw i v hi
   ·rw[List.getElem?_append_right (by omega)]at hi
    have:=hcell _ v hi w hw
    exact⟨b,off,rfl,by rwa[show off+k*sz+(i-xs.length)=off+i by omega]at this⟩
 have:=key l.length (Nat.le_refl _)
 rwa[List.take_length]at this
theorem ae3{xs:List Value}(h:RowOf sz R xs l)(hz:0<sz)(h1:∀c x,R c x→∀u∈c,u.oneCell'=true):∀u∈xs,u.oneCell'=true:=λu hu=>by
 obtain⟨i,hi,rfl⟩:=List.getElem_of_mem hu
 have hj:i/sz<l.length:=by
  rw[h.1]at hi
  exact Nat.div_lt_of_lt_mul (by rw[Nat.mul_comm];exact hi)
 refine h1 _ _ (h.2 _ hj) _ ?_
 have hm:=Nat.mod_lt i hz
 have hd:=Nat.div_add_mod i sz
 refine List.mem_of_getElem? (i:=i%sz) ?_
 rw[List.getElem?_take,if_pos hm,List.getElem?_drop,show i/sz*sz+i%sz=i by rw[Nat.mul_comm];exact hd,gqg hi]
end
end
end Go.Sh
namespace Go.Proofs
open Go.Sh
theorem aes{r:Gh}{c:List Value}{o:OpD}(h:OpG r c o):∃q k,c=[.int .u8 o.k,.int .i64 o.n,.int .i64 o.pl.l,.slice q o.pl.ps.length k]:=by
 obtain⟨v,rfl,hl⟩:=h
 obtain⟨q,k,rfl,_⟩:=hl.sl.shape
 exact⟨q,k,rfl⟩
theorem ain{r:Gh}{c:List Value}{o:OpD}(h:OpG r c o):∀u∈c,u.oneCell'=true:=by obtain⟨q,k,rfl⟩:=aes h;simp[Value.oneCell']
def ae4(o:OpD):Bool:=decide (o.k≠0)
def adl(p:PtD):List OpD:=(p.a::p.b::p.args).filter ae4
section
variable {a b t:TyD} {u:UnD} {g:GrD} {s:Int} {p:PtD}
abbrev bare(t:TyD):TyD:=t.mapR qE
theorem j8(h:bare a=bare b):a.k=b.k∧a.m=b.m∧a.st=b.st∧TyD.mapsR qE a.of=TyD.mapsR qE b.of:=by
 cases a;cases b
 simp only[bare,TyD.mapR,TyD.mk.injEq]at h
 exact⟨h.1,h.2.1,h.2.2.2.1,h.2.2.2.2⟩
theorem aa4{u:TyD}(h:bare a=bare b)(ha:a.of=[u]):∃x,b.of=[x]∧bare u=bare x:=by
 have h4:=(j8 h).2.2.2
 rw[ha,TyD.mapsR,TyD.mapsR]at h4
 cases hb:b.of with
 |nil=>rw [hb,TyD.mapsR]at h4;cases h4
 |cons x l=>
  rw[hb,TyD.mapsR]at h4
  simp only[List.cons.injEq]at h4
  cases l with
  |nil=>exact ⟨x,rfl,h4.1⟩
  |cons y l=>rw [TyD.mapsR]at h4;cases h4.2
theorem adm(h:bare a=bare b)(ha:a.of=[]):b.of=[]:=by
 have h4:=(j8 h).2.2.2
 rw[ha,TyD.mapsR]at h4
 cases hb:b.of with
 |nil=>rfl
 |cons x l=>rw [hb,TyD.mapsR]at h4;cases h4
theorem aa5{u x:TyD}(hk:a.k=b.k)(hm:a.m=b.m)(hs:a.st=b.st)(hr:a.k≠4→a.re=b.re)(ha:a.of=[u])(hb:b.of=[x])(h:bare u=bare x):bare a=bare b:=by
 show a.mapR qE=b.mapR qE
 rw[XH ha,XH hb,hk,hm,hs,show u.mapR qE=x.mapR qE from h]
 by_cases h4:b.k=4
 ·rw[if_pos h4,if_pos h4];rfl
 ·rw[if_neg h4,if_neg h4,hr (by omega)]
theorem jh{n:Nat}(h:zA s n t=true)(hk:t.k≠4):t.re=0:=by
 cases n with
 |zero=>cases h
 |succ n=>exact (aeR h hk).2
theorem ahf:∀(n:Nat){t:TyD}{l:List Int},zA s n t=true→bare (t.lay l)=bare t:=by
 intro n
 induction n with
 |zero=>intro t l h;cases h
 |succ n ih=>
  intro t l h
  obtain⟨hk1,hk2,hk3⟩:=ahR t l
  rcases zQ h with⟨ho,hk⟩|⟨u,ho,hu,hk⟩
  ·show(t.lay l).mapR qE=t.mapR qE
   rw[XG (aeX ho),XG ho,hk1,hk2,hk3,if_neg (by omega),if_neg (by omega),Jk ho]
   show TyD.mk _ _ (if t.k=4 then _ else _) _ _=_
   rw[if_neg (by omega)]
  ·refine aa5 hk1 hk2 hk3 (λh4=>?_) (aac ho) ho (ih hu)
   rw[hk1]at h4
   rw[j3 ho]
   show(if t.k=4 then _ else _)=_
   rw[if_neg h4]
theorem ae5{s':Int}:∀(n:Nat){a b:TyD},zA s n a=true→zA s' n b=true→(kv yP n a b=true↔bare a=bare b):=by
 intro n
 induction n with
 |zero=>intro a b h;cases h
 |succ n ih=>
  intro a b ha hb
  have flat:(!(decide (a.k≠b.k) || !(a.m == b.m)||decide (a.st≠b.st) || !yP a.re b.re))=true↔a.k=b.k∧a.m=b.m∧a.st=b.st:=by
   simp only[yP,Bool.not_true,Bool.or_false,Bool.not_eq_true',Bool.or_eq_false_iff,decide_eq_false_iff_not,Bool.not_eq_false',beq_iff_eq]
   constructor
   ·rintro⟨⟨h1,h2⟩,h3⟩;exact⟨by omega,h2,by omega⟩
   ·rintro⟨h1,h2,h3⟩;exact⟨⟨by omega,h2⟩,by omega⟩
  rcases zQ ha with⟨ho,hk⟩|⟨u,ho,hu,hk⟩
  ·rw[VZ ho,flat]
   constructor
   ·rintro⟨h1,h2,h3⟩
    rcases zQ hb with⟨ho',hk'⟩|⟨x,ho',hx,hk'⟩
    ·show a.mapR qE=b.mapR qE
     rw[XG ho,XG ho',h1,h2,h3,if_neg (by omega),if_neg (by omega),jh ha (by omega),jh hb (by omega)]
    ·omega
   ·intro h;obtain⟨h1,h2,h3,_⟩:=j8 h;exact⟨h1,h2,h3⟩
  ·constructor
   ·intro h
    rcases zQ hb with⟨ho',hk'⟩|⟨x,ho',hx,hk'⟩
    ·exfalso
     have hne:a.k≠b.k:=by omega
     rw[QD (by rw[gde hne];rfl)]at h;cases h
    ·rw[XB ho ho',gba,flat]at h
     obtain⟨⟨h1,h2,h3⟩,h4⟩:=h
     exact aa5 h1 h2 h3 (λh5=>by rw[jh ha h5,jh hb (by omega)]) ho ho' ((ih hu hx).1 h4)
   ·intro h
    obtain⟨x,ho',hbx⟩:=aa4 h ho
    obtain⟨h1,h2,h3,_⟩:=j8 h
    have hx:zA s' n x=true:=by
     rcases zQ hb with⟨ho2,_⟩|⟨y,ho2,hy,_⟩
     ·rw[ho2]at ho';cases ho'
     ·rw[ho2]at ho';cases ho';exact hy
    rw[XB ho ho',gba,flat]
    exact⟨⟨h1,h2,h3⟩,(ih hu hx).2 hbx⟩
theorem adY(h:yi yP a b=true):isB a=true∧isB b=true∧bare a=bare b:=by
 rw[yi,gba,gba]at h
 exact⟨h.1.1,h.1.2,(ae5 48 h.1.1 h.1.2).1 h.2⟩
theorem af8:∀(n:Nat){a b:TyD},zA s n a=true→bare a=bare b→(b.k≠4→b.re=0)→(∀u,b.of=[u]→∃m,zA s m u=true)→(b.k=4→-1≤b.re)→zA s n b=true:=by
 intro n
 induction n with
 |zero=>intro a b h;cases h
 |succ n ih=>
  intro a b ha h hre hin hlow
  obtain⟨h1,h2,h3,_⟩:=j8 h
  rcases zQ ha with⟨ho,hk⟩|⟨u,ho,hu,hk⟩
  ·have hob:=adm h ho
   have hr:=hre (by omega)
   have hra:=jh ha (by omega)
   have :b=a:=by
    cases a;cases b
    simp only[TyD.k,TyD.m,TyD.re,TyD.st,TyD.of]at *
    subst h1 h2 h3 ho hob hr hra;rfl
   rw[this];exact ha
  ·obtain⟨x,hob,hbx⟩:=aa4 h ho
   obtain⟨m,hm⟩:=hin x hob
   have hx:zA s n x=true:=by
    refine ih hu hbx (λhk4=>jh hm hk4) (λy hy=>?_) (λhk4=>?_)
    ·cases m with
     |zero=>cases hm
     |succ m=>
      rcases zQ hm with⟨ho2,_⟩|⟨z,ho2,hz,_⟩
      ·rw[ho2]at hy;cases hy
      ·rw[ho2]at hy;cases hy;exact⟨m,hz⟩
    ·cases m with
     |zero=>cases hm
     |succ m=>exact aie hm hk4
   have hib:inB s n b=true:=by rw[inB,hob];exact hx
   have hia:inB s n a=true:=by rw[inB,ho];exact hu
   rw[yR]at ha⊢
   rw[if_neg (by omega),if_neg (by omega)]at ha⊢
   rw[hia]at ha
   rw[hib]
   by_cases hk3:a.k=3
   ·rw[if_pos hk3]at ha
    rw[if_pos (by omega),← h2,← h3,hre (by omega),hob]
    rw[jh (n:=n+1) (s:=s) (by rw[yR,if_neg (by omega),if_neg (by omega),if_pos hk3,hia];exact ha) (by omega),ho]at ha
    exact ha
   ·have hk4:a.k=4:=by omega
    rw[if_neg hk3,if_pos hk4]at ha
    rw[if_neg (by omega),if_pos (by omega),← h3,hob]
    rw[ho]at ha
    simp only[gba,gdt]at ha⊢
    exact⟨⟨hlow (by omega),ha.1.2⟩,ha.2⟩
abbrev acq(s:TyD×Int):TyD×Int:=(bare s.1,s.2)
theorem ae6{ss:List StD}{t':TyD}{k:Int}(h:bare t=bare t')(hf:Fine ss t):(zR ss t k).map acq=(zR ss t' k).map acq:=by
 obtain⟨h1,h2,h3,_⟩:=j8 h
 have hin:∀n:Int,(t.of.head?.map λu=>(u,n)).map acq=(t'.of.head?.map λu=>(u,n)).map acq:=by
  intro n
  rcases hf.cases with⟨ho,_⟩|⟨u,ho,_⟩
  ·rw[ho,adm h ho]
  ·obtain⟨x,ho',hx⟩:=aa4 h ho
   rw[ho,ho']
   show some (bare u,n)=some (bare x,n)
   rw[hx]
 unfold zR
 rw[← h1,← h2,← h3]
 split
 ·exact hin 1
 split
 ·exact hin _
 split
 ·rfl
 ·rfl
theorem aak{ss:List StD}(hg:kW ss):∀(l:List Int){t t':TyD},bare t=bare t'→Fine ss t→(zD ss l t).map (λx=>bare x.1)=(zD ss l t').map λx=>bare x.1
 |[],t,t',h,_=>by show some (bare t)=some (bare t');rw[h]
 |k::l,t,t',h,hf=>by
  have hs:=ae6 (k:=k) h hf
  rw[zD,zD]
  cases h1:zR ss t k with
  |none=>
   rw[h1]at hs
   cases h2:zR ss t' k with
   |none=>rfl
   |some s'=>rw [h2]at hs;cases hs
  |some s=>
   rw[h1]at hs
   cases h2:zR ss t' k with
   |none=>rw [h2]at hs;cases hs
   |some s'=>
    rw[h2]at hs
    have hb:bare s.1=bare s'.1:=congrArg Prod.fst (Option.some.inj hs)
    have:=aak hg l hb (aah hg hf h1)
    show((zD ss l s.1).map _).map _=((zD ss l s'.1).map _).map _
    rw[Option.map_map,Option.map_map]
    exact this
theorem abI{ss:List StD}:∀(l:List Int)(t:TyD)(m:Int),(goG ss l (t,m)).map (·.1)=(zD ss l t).map (·.1)
 |[],t,m=>rfl
 |k::l,t,m=>by
  have hs:(stepG ss (t,m) k).map (·.1)=(zR ss t k).map (·.1):=by
   unfold stepG zR
   split
   ·cases t.of.head?<;>rfl
   split
   ·cases t.of.head?<;>rfl
   split
   ·cases(ze ss t.st)[k.toNat]?<;>rfl
   ·rfl
  rw[goG,zD]
  cases h1:stepG ss (t,m) k with
  |none=>
   rw[h1]at hs
   cases h2:zR ss t k with
   |none=>rfl
   |some s'=>rw [h2]at hs;cases hs
  |some s=>
   rw[h1]at hs
   cases h2:zR ss t k with
   |none=>rw [h2]at hs;cases hs
   |some s'=>
    rw[h2]at hs
    have hb:s.1=s'.1:=Option.some.inj hs
    have:=abI (ss:=ss) l s.1 s.2
    show(goG ss l s).map _=((zD ss l s'.1).map _).map _
    rw[Option.map_map,← hb]
    exact this
theorem ae7{fn:Nat}(hM:MayU u)(hH:HeadU u fn g){p:PlD}(ho:(zs u.ss g.tys p).2.2=true):
  ∃x,zt u.ss (kK g.tys g.lv) p=some x∧bare x.1=bare (zs u.ss g.tys p).1:=by
 have hfin:=hH.fine hM.ok
 have h8:=jM ho
 unfold zs at ho⊢
 cases hb:(if p.l<0 then none else g.tys[p.l.toNat]?).bind λt=>goG u.ss p.ps (t,0)with
 |none=>rw [hb]at ho;cases ho
 |some s=>
  split at hb
  ·cases hb
  ·rename_i hl0
   cases ht:g.tys[p.l.toNat]? with
   |none=>rw [ht]at hb;cases hb
   |some t=>
    rw[ht]at hb
    have hb:goG u.ss p.ps (t,0)=some s:=hb
    obtain⟨hlt,rfl⟩:=List.getElem?_eq_some_iff.1 ht
    have hft:Fine u.ss g.tys[p.l.toNat]:=hfin.all _ (gem hlt)
    have hB:=hft.is hfin.few
    have hlow:∀i (hi:i<g.tys.length),∀x∈xp (zz g.tys[i]) (g.lv+zY (g.tys.take i)),-1≤x:=λi hi x hx=>by
     obtain⟨j,hj,rfl⟩:=List.getElem_of_mem hx
     rw[jf]at hj
     rw[aaZ hj]
     have:=(ZA ((zz g.tys[i]).take j)).1
     have:=hH.lv0
     have:=ZZ (g.tys.take i)
     split<;>omega
    have hmay:∀i (hi:i<g.tys.length),mayB u.ss (g.tys[i].lay (xp (zz g.tys[i]) (g.lv+zY (g.tys.take i))))=true:=λi hi=>by
     have hf:=hfin.all _ (gem hi)
     have hrT:zz g.tys[i]=g.tys[i].regs:=by rw[zz,hf.is hfin.few];rfl
     rw[mayB,hM.ok]
     have:=agZ (l:=xp (zz g.tys[i]) (g.lv+zY (g.tys.take i))) 48 hf (by rw[jf,hrT];exact Nat.le_refl _) (hlow i hi)
     rw[this];rfl
    have hO:z6 u.ss (kK g.tys g.lv) p=true:=by
     simp only[z6,gba,gdt,List.all_eq_true,jg]
     refine⟨⟨⟨by omega,by omega⟩,h8⟩,hM.ok,λx hx=>?_⟩
     obtain⟨i,hi,rfl⟩:=List.getElem_of_mem hx
     rw[jg]at hi
     rw[aeo hi]
     exact hmay i hi
    have hget:(kK g.tys g.lv).getD p.l.toNat zK=g.tys[p.l.toNat].lay (xp (zz g.tys[p.l.toNat]) (g.lv+zY (g.tys.take p.l.toNat))):=by
     rw[ggd,gqg (by rw[jg];exact hlt),Option.getD_some,aeo hlt]
    rw[zt,if_pos hO,hget]
    have e1:=aak hfin.good p.ps (ahf (l:=xp (zz g.tys[p.l.toNat]) (g.lv+zY (g.tys.take p.l.toNat))) 48 hB).symm hft
    have e2:=abI (ss:=u.ss) p.ps g.tys[p.l.toNat] 0
    rw[hb]at e2
    cases hw:zD u.ss p.ps g.tys[p.l.toNat]with
    |none=>rw [hw]at e2;cases e2
    |some y=>
     rw[hw]at e1 e2
     have e2:s.1=y.1:=Option.some.inj e2
     cases hw2:zD u.ss p.ps (g.tys[p.l.toNat].lay (xp (zz g.tys[p.l.toNat]) (g.lv+zY (g.tys.take p.l.toNat))))with
     |none=>rw [hw2]at e1;cases e1
     |some z=>
      rw[hw2]at e1
      have e1:bare y.1=bare z.1:=Option.some.inj e1
      exact⟨z,rfl,by show bare z.1=bare s.1;rw[← e1,e2]⟩
theorem XN{ss:List StD}{tys:List TyD}:∀{l:List OpD}{ts:List TyD},kh ss tys l ts=true→l.length=ts.length∧∀(i:Nat)(hi:i<l.length)(hj:i<ts.length),(yd ss tys l[i]).2=true∧yi yP (yd ss tys l[i]).1 ts[i]=true
 |[],[],_=>⟨rfl,λi hi=>absurd hi (Nat.not_lt_zero _)⟩
 |[],_::_,h=>by cases h
 |_::_,[],h=>by cases h
 |o::l,t::r,h=>by
  rw[XI,gba,gba]at h
  obtain⟨h1,h2⟩:=XN h.2
  refine⟨by simp[h1],λi hi hj=>?_⟩
  cases i with
  |zero=>exact h.1
  |succ i=>exact h2 i (by simpa using hi) (by simpa using hj)
theorem aio{o:OpD}(h:o.k≠0):XD o=false:=by rw[XD,decide_eq_false h];rfl
theorem JP(h:ptG u g p=true):1≤p.op∧p.op≤14:=by
 refine Classical.byContradiction λhc=>?_
 rw[ptG]at h
 rw[if_neg (by omega),if_neg (by omega),if_neg (by omega),if_neg (by omega),if_neg (by omega),if_neg (by omega),if_neg (by omega),if_neg (by omega),if_neg (by omega),if_neg (by omega),if_neg (by omega),if_neg (by omega),if_neg (by omega)]at h
 cases h
theorem af9(h:zG u g p=true):∀o∈adl p,(yd u.ss g.tys o).2=true:=by
 have h2:=j7 h
 intro o ho
 rw[adl,List.mem_filter,ae4,gdt]at ho
 obtain⟨hm,hk⟩:=ho
 have hn:=aio hk
 have hc:p.op=1∨p.op=2∨p.op=3∨p.op=4∨p.op=5∨p.op=6∨p.op=7∨p.op=8∨p.op=9∨p.op=10∨p.op=11∨p.op=12∨p.op=13∨p.op=14:=by
  have:=JP h2
  omega
 cases hf:(yd u.ss g.tys o).2 with
 |true=>rfl
 |false=>
  exfalso
  rw[List.mem_cons,List.mem_cons]at hm
  rw[ptG]at h2
  rcases hm with rfl|rfl|hm
  ·rcases hc with hc|hc|hc|hc|hc|hc|hc|hc|hc|hc|hc|hc|hc|hc<;>simp [hc,hf,hn,zE,qC]at h2
  ·rcases hc with hc|hc|hc|hc|hc|hc|hc|hc|hc|hc|hc|hc|hc|hc<;>simp [hc,hf,hn,zE,qC]at h2
  ·have hne:p.args.length≠0:=λh0=>by rw[List.eq_nil_of_length_eq_zero h0]at hm;cases hm
   obtain⟨i,hi,rfl⟩:=List.getElem_of_mem hm
   have harg:∀ts,kh u.ss g.tys p.args ts=false:=λts=>by
    cases ha:kh u.ss g.tys p.args ts with
    |false=>rfl
    |true=>
     obtain⟨hl,hx⟩:=XN ha
     have:=(hx i hi (by omega)).1
     rw[hf]at this;cases this
   have hne':p.args≠[]:=λh0=>hne (by rw[h0];rfl)
   rcases hc with hc|hc|hc|hc|hc|hc|hc|hc|hc|hc|hc|hc|hc|hc<;>first|(simp[hc,hne,hne',zE,qC]at h2;done)|(simp[hc,hne,hne',zE,qC,harg]at h2;try (split at h2<;>simp_all))
theorem ahg(hM:MayU u)(h:zG u g p=true):p.args.length≤1000:=by
 have h2:=j7 h
 by_cases hne:p.args.length=0
 ·omega
 have hne':p.args≠[]:=λh0=>hne (by rw[h0];rfl)
 rw[ptG]at h2
 by_cases h6:p.op=6
 ·simp only[h6,Int.reduceEq,if_false,if_true,gba,gdt,isK]at h2
  have hl:=(XN h2.2).1
  have hf:(xu u.ss (zs u.ss g.tys p.to).1).1.length≤8:=by
   rw[xu]
   split
   ·exact Y8 (qw hM.ok).2.1 _
   ·simp
  omega
 by_cases h7:p.op=7
 ·simp only[h7,Int.reduceEq,if_false,if_true,gba,gdt]at h2
  have hlt:p.fn.toNat<u.fs.length:=by omega
  rw[gqg hlt]at h2
  have h3:=h2.2
  simp only[gba]at h3
  have hl:=(XN h3.2).1
  have:=(hM.hd hlt).pn8
  rw[List.length_take]at hl
  omega
 ·exfalso
  have hc:p.op=1∨p.op=2∨p.op=3∨p.op=4∨p.op=5∨p.op=8∨p.op=9∨p.op=10∨p.op=11∨p.op=12∨p.op=13∨p.op=14:=by
   have:=JP (j7 h)
   omega
  rcases hc with hc|hc|hc|hc|hc|hc|hc|hc|hc|hc|hc|hc<;>simp [hc,hne,hne',zE,qC]at h2
theorem aga:(bare t).k=t.k∧(bare t).m=t.m∧(bare t).st=t.st:=by cases t;exact⟨rfl,rfl,rfl⟩
theorem ahh{n:Int}{p:PlD}{fn:Nat}(hM:MayU u)(hH:HeadU u fn g)(ho:(zs u.ss g.tys p).2.2=true):
  ∃x,yj u.ss (yI u g).tys p=(x,0)∧isB x=true∧bare x=bare (zs u.ss g.tys p).1∧zt u.ss (yI u g).tys p≠none:=by
 obtain⟨x,hw,hb⟩:=ae7 hM hH ho
 have hw:zt u.ss (yI u g).tys p=some x:=hw
 obtain⟨hf,h32⟩:=YM hw
 exact⟨x.1,by rw[yj,hw],hf.is h32,hb,by rw[hw];simp⟩
end
theorem XO{r:Gh}{p:PtD}{q1 q2 q3 q4 q5:Option Addr}{c1 c2 c3 c4 c5:Nat}(h:PtG r (ptL p q1 q2 q3 q4 q5 c1 c2 c3 c4 c5) p):
  PlG r [.int .i64 p.to.l,.slice q1 p.to.ps.length c1] p.to∧OpG r [.int .u8 p.a.k,.int .i64 p.a.n,.int .i64 p.a.pl.l,.slice q2 p.a.pl.ps.length c2] p.a∧
  OpG r [.int .u8 p.b.k,.int .i64 p.b.n,.int .i64 p.b.pl.l,.slice q3 p.b.pl.ps.length c3] p.b∧SlB 4 r (OpG r) (.slice q4 p.args.length c4) p.args∧PlG r [.int .i64 p.fr.l,.slice q5 p.fr.ps.length c5] p.fr:=by
 obtain⟨_,_,_,_,_,hE,k1,k2,k3,k4,k5⟩:=h
 cases hE
 exact⟨⟨_,rfl,k1⟩,⟨_,rfl,k2⟩,⟨_,rfl,k3⟩,k4,⟨_,rfl,k5⟩⟩
def nextP(p:PtD):List Int:=if p.op=14 then []else if p.op=12∧p.nx≠p.el then [p.nx,p.el]else [p.nx]
section
variable {ss:List StD} {tys:List TyD}
def Jo(m:Int):List Int→Int
 |[]=>m
 |k::l=>Jo (max m k) l
theorem Vq{ss:List StD}:∀(l:List Int)(t:TyD)(m:Int),0≤m→goG ss l (t,m)=(zD ss l t).map λx=>(x.1,Jo m x.2)
 |[],t,m,_=>rfl
 |k::l,t,m,hm=>by
  have hs:stepG ss (t,m) k=(zR ss t k).map λs=>(s.1,max m s.2):=by
   unfold stepG zR
   split
   ·cases t.of.head?<;>rfl
   split
   ·cases t.of.head?<;>rfl
   split
   ·cases(ze ss t.st)[k.toNat]? with
    |none=>rfl
    |some u=>show some (u,m)=some (u,max m 0);rw[Int.max_eq_left hm]
   ·rfl
  rw[goG,zD,hs]
  cases h1:zR ss t k with
  |none=>rfl
  |some s=>
   show goG ss l (s.1,max m s.2)=((zD ss l s.1).map _).map _
   rw[Vq l s.1 (max m s.2) (by omega),Option.map_map]
   rfl
theorem abJ{t:TyD}{ps:List Int}(hst:(zI ss).2=0)(hm:mayB ss t=true):zt ss [t] ⟨0,ps⟩=if ps.length≤8 then zD ss ps t else none:=by
 have e:z6 ss [t] ⟨0,ps⟩=decide (ps.length≤8):=by
  simp[z6,hst,hm]
 rw[zt,e]
 by_cases h:ps.length≤8
 ·rw[if_pos (gde h),if_pos h];rfl
 ·rw[if_neg (by simpa using h),if_neg h]
theorem agb{p:PlD}(hst:(zI ss).2=0)(hf:qD ss tys):(zs ss tys p).2.2=true↔0≤p.l∧∃(hl:p.l.toNat<tys.length)(x:TyD×List Int),zt ss [tys[p.l.toNat]] ⟨0,p.ps⟩=some x∧zs ss tys p=(x.1,Jo 0 x.2,true):=by
 constructor
 ·intro ho
  have h8:=jM ho
  unfold zs at ho⊢
  cases hb:(if p.l<0 then none else tys[p.l.toNat]?).bind λt=>goG ss p.ps (t,0)with
  |none=>rw [hb]at ho;cases ho
  |some s=>
   split at hb
   ·cases hb
   ·rename_i hl0
    cases ht:tys[p.l.toNat]? with
    |none=>rw [ht]at hb;cases hb
    |some t=>
     rw[ht]at hb
     have hb:goG ss p.ps (t,0)=some s:=hb
     obtain⟨hlt,rfl⟩:=List.getElem?_eq_some_iff.1 ht
     rw[Vq _ _ _ (Int.le_refl _)]at hb
     cases hw:zD ss p.ps tys[p.l.toNat]with
     |none=>rw [hw]at hb;cases hb
     |some x=>
      rw[hw]at hb
      have hb:(x.1,Jo 0 x.2)=s:=Option.some.inj hb
      refine⟨by omega,hlt,x,?_,?_⟩
      ·rw[abJ hst (by rw[mayB,gde hst,Bool.true_and];exact hf.all _ (gem hlt)),if_pos h8,hw]
      ·rw[← hb]
       show(x.1,Jo 0 x.2,decide (p.ps.length≤8))=_
       rw[gde h8]
 ·rintro⟨_,_,x,_,h⟩;rw[h]
theorem aet{i:Nat}(hi:i<tys.length):(tys.drop i).take 1=[tys[i]]:=by
 rw[List.drop_eq_getElem_cons hi];rfl
end
end Go.Proofs
namespace Go.Proofs
open Go.Shelf
def Tryz.adZ:Go.Shelf.Ren:=⟨fun|189=>69|125=>132|257=>131|128=>182|129=>183|294=>173|295=>174|296=>175|297=>176|298=>177|299=>178|216=>179|300=>180|301=>181|328=>208|329=>209|330=>210|331=>211|332=>212|215=>213|343=>234|n=>n,fun|28=>55|3=>3|46=>213|0=>0|51=>260|53=>205|4=>4|183=>254|182=>253|131=>140|5=>5|9=>9|218=>282|222=>286|228=>308|229=>288|n=>n,fun|n=>n⟩
theorem Tryz.aeu:Go.Proofs.Lays.n189 Tryz.prog Tryz.adZ:={
 mixed:=by kernel_rfl
 f125:=Tryz.func132.trans (congrArg some (by kernel_rfl))
 f128:=Tryz.func182.trans (congrArg some (by kernel_rfl))
 f129:=Tryz.func183.trans (congrArg some (by kernel_rfl))
 f189:=Tryz.func69.trans (congrArg some (by kernel_rfl))
 f215:=Tryz.func213.trans (congrArg some (by kernel_rfl))
 f216:=Tryz.func179.trans (congrArg some (by kernel_rfl))
 f257:=Tryz.func131.trans (congrArg some (by kernel_rfl))
 f294:=Tryz.func173.trans (congrArg some (by kernel_rfl))
 f295:=Tryz.func174.trans (congrArg some (by kernel_rfl))
 f296:=Tryz.func175.trans (congrArg some (by kernel_rfl))
 f297:=Tryz.func176.trans (congrArg some (by kernel_rfl))
 f298:=Tryz.func177.trans (congrArg some (by kernel_rfl))
 f299:=Tryz.func178.trans (congrArg some (by kernel_rfl))
 f300:=Tryz.func180.trans (congrArg some (by kernel_rfl))
 f301:=Tryz.func181.trans (congrArg some (by kernel_rfl))
 f328:=Tryz.func208.trans (congrArg some (by kernel_rfl))
 f329:=Tryz.func209.trans (congrArg some (by kernel_rfl))
 f330:=Tryz.func210.trans (congrArg some (by kernel_rfl))
 f331:=Tryz.func211.trans (congrArg some (by kernel_rfl))
 f332:=Tryz.func212.trans (congrArg some (by kernel_rfl))
 f343:=Tryz.func234.trans (congrArg some (by kernel_rfl))
 t0:=Tryz.underlying0
 a0:=Tryz.isAgg0
 z0:=Tryz.sizeOf0
 v0:=Tryz.zeroValue0
 t3:=Tryz.underlying3
 a3:=Tryz.isAgg3
 z3:=Tryz.sizeOf3
 v3:=Tryz.zeroValue3
 t4:=Tryz.underlying4
 a4:=Tryz.isAgg4
 z4:=Tryz.sizeOf4
 v4:=Tryz.zeroValue4
 t5:=Tryz.underlying5
 a5:=Tryz.isAgg5
 z5:=Tryz.sizeOf5
 v5:=Tryz.zeroValue5
 t9:=Tryz.underlying9
 a9:=Tryz.isAgg9
 z9:=Tryz.sizeOf9
 v9:=Tryz.zeroValue9
 t28:=Tryz.underlying55
 a28:=Tryz.isAgg55
 z28:=Tryz.sizeOf55
 v28:=Tryz.zeroValue55
 t46:=Tryz.underlying213
 a46:=Tryz.isAgg213
 z46:=Tryz.sizeOf213
 v46:=Tryz.zeroValue213
 t51:=Tryz.underlying260
 a51:=Tryz.isAgg260
 z51:=Tryz.sizeOf260
 v51:=Tryz.zeroValue260
 t53:=Tryz.underlying205
 a53:=Tryz.isAgg205
 z53:=Tryz.sizeOf205
 v53:=Tryz.zeroValue205
 t131:=Tryz.underlying140
 a131:=Tryz.isAgg140
 z131:=Tryz.sizeOf140
 v131:=Tryz.zeroValue140
 t182:=Tryz.underlying253
 a182:=Tryz.isAgg253
 z182:=Tryz.sizeOf253
 v182:=Tryz.zeroValue253
 t183:=Tryz.underlying254
 a183:=Tryz.isAgg254
 z183:=Tryz.sizeOf254
 v183:=Tryz.zeroValue254
 t218:=Tryz.underlying282
 a218:=Tryz.isAgg282
 z218:=Tryz.sizeOf282
 v218:=Tryz.zeroValue282
 t222:=Tryz.underlying286
 a222:=Tryz.isAgg286
 z222:=Tryz.sizeOf286
 v222:=Tryz.zeroValue286
 t228:=Tryz.underlying308
 a228:=Tryz.isAgg308
 z228:=Tryz.sizeOf308
 v228:=Tryz.zeroValue308
 t229:=Tryz.underlying288
 a229:=Tryz.isAgg288
 z229:=Tryz.sizeOf288
 v229:=Tryz.zeroValue288 }
def Tryz.ab6:Go.Shelf.Ren:=⟨fun|15=>140|n=>n,fun|22=>55|3=>3|4=>4|n=>n,fun|n=>n⟩
theorem Tryz.QS:Go.Proofs.Lays2.n15 Tryz.prog Tryz.ab6:={
 mixed:=by kernel_rfl
 f15:=Tryz.func140.trans (congrArg some (by kernel_rfl))
 t3:=Tryz.underlying3
 a3:=Tryz.isAgg3
 z3:=Tryz.sizeOf3
 v3:=Tryz.zeroValue3
 t4:=Tryz.underlying4
 a4:=Tryz.isAgg4
 z4:=Tryz.sizeOf4
 v4:=Tryz.zeroValue4
 t22:=Tryz.underlying55
 a22:=Tryz.isAgg55
 z22:=Tryz.sizeOf55
 v22:=Tryz.zeroValue55
 i3:=by kernel_rfl }
end Go.Proofs
namespace Go.Sh
open Go.RowKit
theorem agc{w w':World}{g q:Nat}{c:List Value}{e:TypeId}{d:Array Int}{os:Array Obj}(B:Blk w g c e)(hd:d.size≤c.length)
  (hw:w'=Sort.grow (Sort.putRow (Value.int .i64) (Sort.ahead w q) g 0 d) os):ExtBut (· = g) w w'∧Blk w' g (d.toList.map (Value.int .i64)++c.drop d.size) e:=by
 subst hw
 have hg:g<w.heap.size:=(Array.getElem?_eq_some_iff.1 B).1
 have hput:∀k,(Sort.putRow (Value.int .i64) (Sort.ahead w q) g 0 d).heap[k]? = if g=k then(w.heap[k]?).map (Sort.onCells (Sort.putCells (Value.int .i64) 0 d))else w.heap[k]?:=λk=>by
  simp only[Sort.putRow,Sort.mapBlock,Array.getElem?_modify]
  split<;>rfl
 have hsz:(Sort.putRow (Value.int .i64) (Sort.ahead w q) g 0 d).heap.size=w.heap.size:=by simp[Sort.ahead]
 refine⟨⟨rfl,rfl,rfl,by simp only[Sort.grow,Array.size_append,hsz];omega,λk hk hne=>?_⟩,?_⟩
 ·show((Sort.putRow (Value.int .i64) (Sort.ahead w q) g 0 d).heap++os)[k]? = _
  rw[Array.getElem?_append_left (by rw[hsz];exact hk),hput,if_neg (λh=>hne h.symm)]
 ·show((Sort.putRow (Value.int .i64) (Sort.ahead w q) g 0 d).heap++os)[g]? = _
  rw[Array.getElem?_append_left (by rw[hsz];exact hg),hput,if_pos rfl,B,Option.map_some]
  simp only[Sort.onCells]
  congr 2
  apply Array.ext_getElem?
  intro i
  simp only[Sort.putCells,Array.getElem?_mapIdx,List.getElem?_toArray,List.getElem?_append,List.length_map,Array.length_toList,List.getElem?_map,List.getElem?_drop,gzl,true_and,Nat.zero_add,Nat.sub_zero]
  by_cases hi:i<d.size
  ·rw[if_pos hi,gqg (by omega),Option.map_some,if_pos hi,Array.getElem?_toList,Array.getElem?_eq_getElem hi,getElem!_pos d i hi];rfl
  ·rw[if_neg hi,show d.size+(i-d.size)=i by omega]
   cases h:c[i]? with
   |none=>rfl
   |some x=>rw [Option.map_some,if_neg hi]
end Go.Sh
namespace Go.Proofs
open Go.Sh Go.RowKit
section
def jN(l:List Int):List Int:=l.mergeSort λx y=>decide (x≤y)
theorem Yv{l:List Int}:(jN l).length=l.length:=List.length_mergeSort l
variable {w0 w:World} {r:Gh} {L:List Asr} {X:Nat→Prop}
theorem ab7{v:Value}{l:List Int}{K:Value→World→Prop}(S:StX X w0 r w (.row v 3 1 l.length (ints l)::L))(hl:l.length<4611686018427387904)
  (h:∀w',StX X w0 r w' (.row v 3 1 l.length (ints (jN l))::L)→K (.tuple #[]) w'):zc Tryz.prog Tryz.jm #[v] w K:=by
 have hr:w.ownsRow 0 3 1 v l.length (ints l):=S.has _ (List.mem_cons_self ..)
 rcases xK hr with⟨rfl,h1,h2⟩|⟨g,cap,c,rfl,hg,B,hn,hm,hcl,ht⟩
 ·have hl0:l=[]:=List.eq_nil_of_length_eq_zero h1
  subst hl0
  refine Calls.mono (Any.slices_Sort_int_none Tryz.aeu none 0 w) ?_
  rintro e w' ⟨rfl,rfl⟩
  exact⟨_,rfl,h _ (by rw[show jN []=[]by simp[jN]];exact S)⟩
 ·rw[Nat.mul_one]at hcl ht
  have hcell:∀j,j<l.length→w.cell? ⟨g,j,none⟩=some (.int .i64 l[j]!):=λj hj=>by
   have :(c.take l.length)[j]? = some (.int .i64 l[j]!):=by
    rw[ht,ints,List.getElem?_map,gqg hj,getElem!_pos l j hj];rfl
   rw[List.getElem?_take,if_pos hj]at this
   rw[B.cell];exact this
  have hfz:∀j,w.frozen? ⟨g,j,none⟩=false:=λj=>B.unfrozen j
  refine Calls.mono (Any.slices_Sort_int Tryz.aeu g 0 cap l w (λj hj=>⟨?_,hfz _⟩) (Array.getElem?_eq_some_iff.1 B).1 hl) ?_
  ·have hj:j<l.length:=by simpa using hj
   rw[Nat.zero_add,hcell j hj]
   simp[getElem!_pos,hj]
  rintro e w' ⟨rfl,q,os,hw⟩
  obtain⟨hE,hB⟩:=agc (d:=(jN l).toArray) B (by simp[Yv];omega) hw
  refine⟨_,rfl,h w' ?_⟩
  refine S.turn (p:=[]) (x:=.row (.slice (some ⟨g,0,none⟩) l.length cap) 3 1 l.length (ints l)) (y:=.row (.slice (some ⟨g,0,none⟩) l.length cap) 3 1 l.length (ints (jN l))) ?_ ?_ λk hk=>.inl hk
  ·exact hE.mono λk _ hk=>by subst hk;rfl
  ·have:=qh (base:=0) (e:=3) (size:=1) (n:=l.length) (cap:=cap) (gzl _) hB hn hm (by simp[Yv];omega)
   have e:((jN l).toArray.toList.map (Value.int .i64)++c.drop (jN l).toArray.size).take (l.length*1)=ints (jN l):=by
    rw[Nat.mul_one,List.take_append_of_le_length (by simp[Yv])]
    exact List.take_of_length_le (by simp[Yv])
   rwa[e]at this
end
end Go.Proofs
namespace Go.Proofs
abbrev ajm:=List (List Int)
def isN(n:ajm)(q:Int):Prop:=0≤q∧q<n.length
def mkd(m:List Bool):List Int:=((List.range m.length).filter λi=>m.getD i false).map Int.ofNat
theorem aa6:∀{a b:List Int},a.Nodup→(∀x∈a,x∈b)→a.length≤b.length
 |[],b,_,_=>gzl _
 |x::a,b,hn,hs=>by
  have hn':=List.nodup_cons.1 hn
  have hx:=hs x List.mem_cons_self
  have:=aa6 (a:=a) (b:=b.erase x) hn'.2 λy hy=>by
   have hne:y≠x:=λe=>hn'.1 (e▸hy)
   exact(List.mem_erase_of_ne hne).2 (hs y (List.mem_cons_of_mem _ hy))
  rw[List.length_erase_of_mem hx]at this
  have hp:0<b.length:=List.length_pos_of_mem hx
  rw[List.length_cons];omega
end Go.Proofs
namespace Go.Proofs
open Go.Sh
section
variable {g:GrD}
abbrev CnD:=Int×Int
theorem abK{t u:TyD}(h:bare t=bare u):t.k=u.k∧t.m=u.m∧t.st=u.st:=by
 obtain⟨a1,a2,a3⟩:=aga (t:=t)
 obtain⟨b1,b2,b3⟩:=aga (t:=u)
 rw[← a1,← a2,← a3,h]
 exact⟨b1,b2,b3⟩
theorem agd{s:Int}{n:Nat}{t u:TyD}(ht:zA s (n+1) t=true)(hu:zA s (n+1) u=true)(hb:bare t=bare u):
  (t.of=[]∧u.of=[]∧t.k≠4)∨∃x y,t.of=[x]∧u.of=[y]∧zA s n x=true∧zA s n y=true∧bare x=bare y:=by
 obtain⟨hk,_,_⟩:=abK hb
 rcases zQ ht with⟨h1,h2⟩|⟨x,h1,h2,h3⟩
 ·rcases zQ hu with⟨h4,h5⟩|⟨y,h4,h5,h6⟩
  ·exact .inl ⟨h1,h4,by omega⟩
  ·omega
 ·rcases zQ hu with⟨h4,h5⟩|⟨y,h4,h5,h6⟩
  ·omega
  ·refine .inr ⟨x,y,h1,h4,h2,h5,?_⟩
   have e1:(bare t).of=[bare x]:=by show(t.mapR qE).of=_;rw[XH h1];rfl
   have e2:(bare u).of=[bare y]:=by show(u.mapR qE).of=_;rw[XH h4];rfl
   rw[hb,e2]at e1
   exact(List.cons.inj e1).1.symm
theorem RowOf.app{α:Type}{sz:Nat}{R:List Value→α→Prop}{xs ys:List Value}{l m:List α}(h:RowOf sz R xs l)(k:RowOf sz R ys m):RowOf sz R (xs++ys) (l++m):=by
 obtain⟨h1,h2⟩:=h
 obtain⟨k1,k2⟩:=k
 refine⟨by rw[gla,gla,h1,k1,Nat.add_mul],λi hi=>?_⟩
 by_cases hl:i<l.length
 ·have:=Nat.mul_le_mul_right sz (Nat.succ_le_of_lt hl)
  rw[Nat.succ_mul]at this
  rw[List.getElem_append_left hl,List.drop_append_of_le_length (by rw[h1];omega),List.take_append_of_le_length (by rw[List.length_drop,h1];omega)]
  exact h2 i hl
 ·rw[List.getElem_append_right (by omega)]
  have e:(xs++ys).drop (i*sz)=ys.drop ((i-l.length)*sz):=by
   rw[List.drop_append,List.drop_eq_nil_of_le (by rw[h1];exact Nat.mul_le_mul_right _ (by omega)),List.nil_append,h1,← Nat.sub_mul]
  rw[e]
  exact k2 _ _
theorem StX.join{X:Nat→Prop}{w0 w w':World}{r s:Gh}{L M:List Asr}(S:StX X w0 r w L)(T:StX noX w s w' M)(n:Above w s):StX X w0 (r.or s) w' (M++L):=by
 have S':=S.go T.x.ext
 refine⟨S'.x,S'.holds.or T.holds,λx hx=>?_,λx hx k hk=>?_,?_⟩
 ·rcases List.mem_append.1 hx with hx|hx
  ·exact T.has x hx
  ·exact S'.has x hx
 ·rcases List.mem_append.1 hx with hx|hx
  ·obtain⟨h1,h2⟩:=T.mine x hx k hk
   have h1:=h1.resolve_right id
   refine⟨.inl (Nat.le_trans S.x.size h1),λo ho=>ho.elim (λh=>?_) (h2 o)⟩
   have:=S.holds.lt h;omega
  ·refine⟨(S.mine x hx k hk).1,λo ho=>ho.elim ((S.mine x hx k hk).2 o) λh=>?_⟩
   have:=n k o h
   have:=Asr.lt (S.has x hx) hk;omega
 ·refine List.pairwise_append.2 ⟨T.apart,S.apart,λx hx y hy k hk hk'=>?_⟩
  have h1:=(T.mine x hx k hk).1.resolve_right id
  have:=Asr.lt (S.has y hy) hk';omega
theorem adn{u:UnD}{p:PtD}(h:zG u g p=true):0≤p.tx∧(p.op≠14→XE g p.nx=true)∧(p.op=14→p.nx=0)∧ptG u g p=true:=by
 simp only[zG,gba,Bool.not_eq_true',Bool.or_eq_false_iff,decide_eq_false_iff_not,Bool.and_eq_false_iff,Bool.not_eq_false',gdt]at h
 obtain⟨⟨⟨a,b⟩,c⟩,d⟩:=h
 exact⟨by omega,λh=>b.resolve_left h,λh=>c.resolve_left (λh'=>h' h),d⟩
def ahi(g:GrD):ajm:=g.pts.map nextP
theorem ado:(ahi g).length=g.pts.length:=List.length_map _
theorem adp{q:Int}:XE g q=true↔isN (ahi g) q:=by
 rw[XE,gba,gdt,gdt,isN,ado]
theorem ae8{u:UnD}{p:PtD}(h:zG u g p=true):∀x∈nextP p,isN (ahi g) x:=λx hx=>by
 obtain⟨_,h1,_,h3⟩:=adn h
 rw[nextP]at hx
 split at hx
 ·cases hx
 rename_i h14
 have hnx:=adp.1 (h1 h14)
 split at hx
 ·rename_i h12
  simp only[List.mem_cons,List.not_mem_nil,or_false]at hx
  rcases hx with rfl|rfl
  ·exact hnx
  ·rw[ptG]at h3
   simp only[h12.1,Int.reduceEq,if_false,if_true,gba]at h3
   exact adp.1 h3.2
 ·rw[List.mem_singleton.1 hx];exact hnx
end
end Go.Proofs
namespace Go.Proofs
def Vr(o:OpD):Bool:=decide (o.k=3)||decide (o.k=4)
def adq(p:PtD):Bool:=decide (1≤p.op)&&decide (p.op≤8)
end Go.Proofs
namespace Go.Proofs
open Go.Sh
theorem ae9{ss:List StD}{tys:List TyD}{p:PlD}(h:zt ss tys p≠none):zt ss [tys.getD p.l.toNat zK] ⟨0,p.ps⟩=zt ss tys p:=by
 unfold zt at h⊢
 by_cases ho:z6 ss tys p=true
 ·have ho2:z6 ss [tys.getD p.l.toNat zK] ⟨0,p.ps⟩=true:=by
   simp only[z6,gba,gdt,List.all_eq_true]at ho⊢
   obtain⟨⟨⟨h1,h2⟩,h3⟩,h4,h5⟩:=ho
   have hlt:p.l.toNat<tys.length:=by omega
   have he:tys.getD p.l.toNat zK=tys[p.l.toNat]:=by rw[ggd,gqg hlt];rfl
   refine⟨⟨⟨Int.le_refl 0,by simp⟩,h3⟩,h4,λt ht=>?_⟩
   rw[List.mem_singleton.1 ht,he];exact h5 _ (gem hlt)
  rw[if_pos ho,if_pos ho2];rfl
 ·rw[if_neg ho]at h;exact absurd rfl h
noncomputable def kZ(ss:List StD)(tys:List TyD)(p:PlD):TyD:=(yj ss [tys.getD p.l.toNat zK] ⟨0,p.ps⟩).1
theorem ajn{u:UnD}{n:Int}{g:GrD}{p:PlD}{fn:Nat}(hM:MayU u)(hH:HeadU u fn g)(ho:(zs u.ss g.tys p).2.2=true):
  yj u.ss (yI u g).tys p=(kZ u.ss (yI u g).tys p,0)∧yj u.ss [(yI u g).tys.getD p.l.toNat zK] ⟨0,p.ps⟩=(kZ u.ss (yI u g).tys p,0)∧isB (kZ u.ss (yI u g).tys p)=true∧bare (kZ u.ss (yI u g).tys p)=bare (zs u.ss g.tys p).1:=by
 obtain⟨x,h1,h2,h3,h4⟩:=ahh (n:=n) hM hH ho
 have e:yj u.ss [(yI u g).tys.getD p.l.toNat zK] ⟨0,p.ps⟩=(x,0):=by
  rw[← h1,yj,yj,ae9 h4]
 have e2:kZ u.ss (yI u g).tys p=x:=by rw[kZ,e]
 rw[e2]
 exact⟨h1,e,h2,h3⟩
theorem aip{α:Type}{P:List α→Prop}(h0:P [])(h:∀l x,P l→P (l++[x]))(l:List α):P l:=by
 have key:∀m:List α,P m.reverse:=by
  intro m
  induction m with
  |nil=>exact h0
  |cons x m ih=>rw [List.reverse_cons];exact h _ _ ih
 have:=key l.reverse
 rwa[List.reverse_reverse]at this
end Go.Proofs
namespace Go.BM
open Go.Sh
section
variable {ws:List (BitVec 64)} {W:Int}
def bit(ws:List (BitVec 64))(k:Nat):Bool:=(ws.getD (k/64) 0).getLsbD (k%64)
def May(W:Int)(ws:List (BitVec 64)):Prop:=0≤W∧W≤1032∧(ws.length:Int)=(W+63)/64∧∀k:Nat,W≤(k:Int)→k<64*ws.length→bit ws k=false
noncomputable def mayB(W:Int)(ws:List (BitVec 64)):Bool:=@decide (May W ws) (Classical.propDecidable _)
theorem mayB_iff:mayB W ws=true↔May W ws:=by simp[mayB]
theorem mayB_true(h:May W ws):mayB W ws=true:=mayB_iff.2 h
theorem mayB_false(h:¬May W ws):mayB W ws=false:=by simpa [mayB]using h
theorem ahj{i:Nat}(hi:i<ws.length)(j:Nat)(hj:j<64):bit ws (64*i+j)=ws[i].getLsbD j:=by
 have h1:(64*i+j)/64=i:=by omega
 have h2:(64*i+j)%64=j:=by omega
 simp[bit,h1,h2,ggd,hi]
theorem ahk(h0:0≤W)(h1:W≤1032)(hl:(ws.length:Int)=(W+63)/64)(hm:¬W%64=0)(hlt:ws.length-1<ws.length):
  May W ws↔ws[ws.length-1] >>> (W%64).toNat=0#64:=by
 have hp:ws.length=(W.toNat+63)/64:=by omega
 constructor
 ·rintro⟨_,_,_,hb⟩
  apply BitVec.eq_of_getLsbD_eq
  intro i hi
  rw[BitVec.getLsbD_ushiftRight,BitVec.getLsbD_zero]
  by_cases hi':(W%64).toNat+i<64
  ·have:=hb (64*(ws.length-1)+((W%64).toNat+i)) (by omega) (by omega)
   rwa[ahj hlt _ hi']at this
  ·exact BitVec.getLsbD_of_ge _ _ (by omega)
 ·intro hz
  refine⟨h0,h1,hl,λk hk hk'=>?_⟩
  have h2:k/64=ws.length-1:=by omega
  have h3:k%64=(W%64).toNat+(k%64-(W%64).toNat):=by omega
  have h4:bit ws k=ws[ws.length-1].getLsbD (k%64):=by
   simp[bit,h2,ggd,hlt]
  rw[h4,h3,← BitVec.getLsbD_ushiftRight,hz];simp
theorem ahl(h0:0≤W)(h1:W≤1032)(hl:(ws.length:Int)=(W+63)/64)(hm:W%64=0):May W ws:=
 ⟨h0,h1,hl,λk hk hk'=>by omega⟩
theorem ad0(x:BitVec 64)(n:Nat):(((x >>> n) &&& BitVec.ofInt 64 1).toNat:Int)=1↔x.getLsbD n=true:=by
 have h1:BitVec.ofInt 64 1=1#64:=rfl
 rw[h1]
 have h2:(x >>> n) &&& 1#64=if x.getLsbD n then 1#64 else 0#64:=by
  apply BitVec.eq_of_getLsbD_eq
  intro i hi
  rw[BitVec.getLsbD_and,BitVec.getLsbD_ushiftRight]
  by_cases h0:i=0
  ·subst h0;cases h:x.getLsbD n<;>simp
  ·have :(1#64).getLsbD i=false:=by
    rw[BitVec.getLsbD_ofNat]
    have :Nat.testBit 1 i=false:=by
     cases ht:Nat.testBit 1 i with
     |false=>rfl
     |true=>exact absurd (Nat.testBit_one_eq_true_iff_self_eq_zero.1 ht) h0
    simp[this]
   cases h:x.getLsbD n<;>simp [this]
 rw[h2]
 cases x.getLsbD n<;>simp
def Zx(g:BitVec 64→BitVec 64→BitVec 64)(ws:List (BitVec 64))(k:Int):List (BitVec 64):=
 ws.set (k.toNat/64) (g (ws.getD (k.toNat/64) 0) (BitVec.ofInt 64 1 <<< (k.toNat%64)))
def qF(g:BitVec 64→BitVec 64→BitVec 64)(ws:List (BitVec 64))(ls:List Int):List (BitVec 64):=ls.foldl (Zx g) ws
theorem Z4(g:BitVec 64→BitVec 64→BitVec 64)(ws:List (BitVec 64))(k:Int):(Zx g ws k).length=ws.length:=by simp[Zx]
theorem Xg(g:BitVec 64→BitVec 64→BitVec 64):∀(ls:List Int)(ws:List (BitVec 64)),(qF g ws ls).length=ws.length
 |[],_=>rfl
 |k::ls,ws=>by
  have:=Xg g ls (Zx g ws k)
  simp only[qF,List.foldl_cons]at this⊢
  rw[this,Z4]
theorem adr(g:BitVec 64→BitVec 64→BitVec 64)(ws:List (BitVec 64))(ls:List Int)(k:Int):qF g ws (ls++[k])=Zx g (qF g ws ls) k:=by
 simp[qF]
def vw(W:Int)(ls:List Int):Prop:=∀k∈ls,0≤k∧k<W
def Zy(x:BitVec 64):List Nat:=(List.range 64).filter x.getLsbD
theorem aiq(x:BitVec 64)(n m:Nat)(h:2 ^ n=m):(x >>> n).toNat=x.toNat/m:=by
 rw[BitVec.toNat_ushiftRight,Nat.shiftRight_eq_div_pow,h]
theorem afa:Zy 0#64=[]:=by decide
theorem air{x:BitVec 64}(h:x≠0#64):∃t,t<64∧(x &&& -x).toNat=2 ^ t∧Zy x=t::Zy (x &&& (x-BitVec.ofInt 64 1)):=by
 have h0:0<x.toNat:=by
  rcases Nat.eq_zero_or_pos x.toNat with h1|h1
  ·exact absurd (BitVec.eq_of_toNat_eq h1) h
  ·exact h1
 obtain⟨m,hm,ht⟩:=Lib.ctzFrom_spec 64 x.toNat h0 x.isLt
 generalize Lib.ctzFrom 64 x.toNat=t at hm ht
 have hand:=Lib.and_neg 64 t m (by rw[← hm];exact x.isLt)
 rw[← hm]at hand
 have hlt:∀j,j<t→x.getLsbD j=false:=λj hj=>by
  show x.toNat.testBit j=false
  rw[hm,Nat.testBit_two_pow_mul];simp;omega
 have hge:∀j,x.getLsbD (t+j)=(2*m+1).testBit j:=λj=>by
  show x.toNat.testBit (t+j)=_
  rw[hm,Nat.testBit_two_pow_mul];simp
 have hpos:0<2 ^ t:=Nat.two_pow_pos t
 have hsub:(x-BitVec.ofInt 64 1).toNat=2 ^ t*(2*m)+(2 ^ t-1):=by
  rw[show BitVec.ofInt 64 1=1#64 from rfl,BitVec.toNat_sub_of_le (by show(1#64).toNat≤x.toNat;exact h0),hm]
  have :2 ^ t*(2*m+1)=2 ^ t*(2*m)+2 ^ t:=by rw[Nat.mul_add,Nat.mul_one]
  show 2 ^ t*(2*m+1)-1=_
  omega
 have hsge:∀j,(x-BitVec.ofInt 64 1).getLsbD (t+j)=(2*m).testBit j:=λj=>by
  show(x-BitVec.ofInt 64 1).toNat.testBit (t+j)=_
  rw[hsub,Nat.testBit_two_pow_mul_add _ (i:=t) (by omega),if_neg (by omega),Nat.add_sub_cancel_left]
 refine⟨t,ht,?_,?_⟩
 ·rw[BitVec.toNat_and,BitVec.toNat_neg]
  have :(2 ^ 64-x.toNat)%2 ^ 64=2 ^ 64-x.toNat:=Nat.mod_eq_of_lt (by have:=x.isLt;omega)
  rw[this];exact hand
 ·unfold Zy
  have hr:List.range 64=List.range t++(t::List.range' (t+1) (63-t)):=by
   rw[List.range_eq_range',List.range_eq_range',← List.range'_succ]
   rw[show 63-t+1=64-t by omega]
   have:=List.range'_append (s:=0) (m:=t) (n:=64-t) (step:=1)
   simp only[Nat.one_mul,Nat.zero_add]at this
   rw[this,show t+(64-t)=64 by omega]
  have hxt:x.getLsbD t=true:=by have:=hge 0;simpa [Nat.testBit_zero]using this
  have hst:(x &&& (x-BitVec.ofInt 64 1)).getLsbD t=false:=by
   rw[BitVec.getLsbD_and];have:=hsge 0;rw[Nat.add_zero]at this;rw[this];simp[Nat.testBit_zero]
  have hA:∀z:BitVec 64,(∀j,j<t→z.getLsbD j=false)→(List.range t).filter z.getLsbD=[]:=λz hz=>by
   rw[List.filter_eq_nil_iff];intro j hj;rw[hz j (List.mem_range.1 hj)];simp
  rw[hr,List.filter_append,List.filter_append,hA x hlt,hA _ (λj hj=>by rw[BitVec.getLsbD_and,hlt j hj];rfl),List.nil_append,List.nil_append,
   List.filter_cons,List.filter_cons,hxt,hst]
  simp only[if_true,Bool.false_eq_true,if_false,List.cons.injEq,true_and]
  apply List.filter_congr
  intro j hj
  obtain⟨i,hi⟩:∃i,j=t+(i+1):=⟨j-t-1,by have:=(List.mem_range'_1.1 hj).1;omega⟩
  subst hi
  rw[BitVec.getLsbD_and,hge,hsge,Nat.testBit_succ,Nat.testBit_succ,show (2*m+1)/2=m by omega,show 2*m/2=m by omega]
  cases m.testBit i<;>rfl
theorem ahm{t:Nat}(ht:t<64){x:BitVec 64}(hx:x.toNat=2 ^ t):
  ((x*BitVec.ofNat 64 285870213051353865) >>> 58).toNat<64∧Lib.deBruijn64tab.getD ((x*BitVec.ofNat 64 285870213051353865) >>> 58).toNat 0=t:=by
 have h:=Lib.deBruijn64_at t ht
 have e:((x*BitVec.ofNat 64 285870213051353865) >>> 58).toNat=2 ^ t*285870213051353865%18446744073709551616/288230376151711744:=by
  rw[aiq _ 58 288230376151711744 (by decide),BitVec.toNat_mul,hx];rfl
 rw[e];exact h
def k7:Nat→List (BitVec 64)→List Nat
 |_,[]=>[]
 |i,x::ws=>(Zy x).map (64*i + ·)++k7 (i+1) ws
def Z5(ws:List (BitVec 64)):List Nat:=k7 0 ws
theorem ab8{i:Nat}(hi:i<ws.length)(k:Nat):
  k7 k (ws.drop i)=(Zy ws[i]).map (64*k + ·)++k7 (k+1) (ws.drop (i+1)):=by
 rw[List.drop_eq_getElem_cons hi];rfl
theorem Vs(p:Nat→Bool)(a n:Nat):((List.range n).filter λj=>p (a+j)).map (a + ·)=(List.range' a n).filter p:=by
 rw[List.range'_eq_map_range,List.filter_map];rfl
theorem Yw:∀(ws:List (BitVec 64))(i:Nat)(p:Nat→Bool),(∀k,k<64*ws.length→p (64*i+k)=bit ws k)→k7 i ws=(List.range' (64*i) (64*ws.length)).filter p
 |[],_,_,_=>rfl
 |x::ws,i,p,h=>by
  rw[k7,Yw ws (i+1) p (λk hk=>by
   have:=h (64+k) (by simp;omega)
   rw[show 64*i+(64+k)=64*(i+1)+k by omega]at this
   rw[this,bit,bit,show (64+k)/64=k/64+1 by omega,show (64+k)%64=k%64 by omega];rfl)]
  have h1:(Zy x).map (64*i + ·)=(List.range' (64*i) 64).filter p:=by
   rw[← Vs]
   congr 1
   apply List.filter_congr
   intro j hj
   have hj:=List.mem_range.1 hj
   rw[h j (by simp;omega),bit,show j/64=0 by omega,show j%64=j by omega];rfl
  rw[h1,← List.filter_append]
  congr 1
theorem ab9(ws:List (BitVec 64)):Z5 ws=(List.range (64*ws.length)).filter (bit ws):=by
 rw[Z5,Yw ws 0 (bit ws) (λk _=>by rw[Nat.mul_zero,Nat.zero_add]),List.range_eq_range']
theorem afb(h:May W ws):Z5 ws=(List.range W.toNat).filter (bit ws):=by
 obtain⟨h0,h1,h2,h3⟩:=h
 rw[ab9,show 64*ws.length=W.toNat+(64*ws.length-W.toNat)by omega,List.range_add,List.filter_append]
 have :((List.range (64*ws.length-W.toNat)).map (W.toNat + ·)).filter (bit ws)=[]:=by
  rw[List.filter_eq_nil_iff]
  intro k hk
  obtain⟨j,hj,rfl⟩:=List.mem_map.1 hk
  have:=List.mem_range.1 hj
  rw[h3 (W.toNat+j) (by omega) (by omega)];simp
 rw[this,List.append_nil]
theorem age(x y:BitVec 64)(j:Nat)(_:j<64):(x ||| y).getLsbD j=(x.getLsbD j||y.getLsbD j):=BitVec.getLsbD_or
theorem ais(j i:Nat)(_:j<64)(hi:i<64):(BitVec.ofInt 64 1 <<< j).getLsbD i=decide (i=j):=by
 rw[show BitVec.ofInt 64 1=1#64 from rfl,BitVec.getLsbD_shiftLeft,BitVec.getLsbD_one]
 by_cases h:i=j
 ·subst h;simp[hi]
 ·by_cases h2:i<j
  ·simp[h2,h]
  ·have :¬(i-j=0):=by omega
   simp[h,this]
theorem ahn(l:List (BitVec 64))(i j:Nat)(x:BitVec 64)(hi:i<l.length):(l.set i x).getD j 0=if j=i then x else l.getD j 0:=by
 rw[ggd,List.getElem?_set]
 by_cases h:i=j
 ·subst h;simp[hi]
 ·have :¬j=i:=λe=>h e.symm
  simp[h,this,ggd]
theorem abL{g:BitVec 64→BitVec 64→BitVec 64}{h:Bool→Bool→Bool}(hg:∀x y j,j<64→(g x y).getLsbD j=h (x.getLsbD j) (y.getLsbD j))
  (hh:∀b,h b false=b) {ws:List (BitVec 64)} {n:Int} (hn:n.toNat<64*ws.length) (k:Nat):bit (Zx g ws n) k=if k=n.toNat then h (bit ws k) true else bit ws k:=by
 rw[bit,Zx,ahn _ _ _ _ (by omega)]
 by_cases h1:k/64=n.toNat/64
 ·rw[if_pos h1,hg _ _ _ (by omega),ais _ _ (by omega) (by omega),h1.symm]
  by_cases h2:k=n.toNat
  ·rw[if_pos h2,h2,gde rfl];rfl
  ·have :¬k%64=n.toNat%64:=by omega
   rw[if_neg h2,decide_eq_false this,hh];rfl
 ·rw[if_neg h1,if_neg (λe=>h1 (by rw[e]))];rfl
theorem agf{g:BitVec 64→BitVec 64→BitVec 64}{h:Bool→Bool→Bool}(hg:∀x y j,j<64→(g x y).getLsbD j=h (x.getLsbD j) (y.getLsbD j))(hh:∀b,h b false=b)
  {W:Int} {ws:List (BitVec 64)} (hm:May W ws) {n:Int} (hn:0≤n∧n<W):May W (Zx g ws n):=by
 have hl:=hm.2.2.1
 refine⟨hm.1,hm.2.1,by rw[Z4];exact hl,λk hk hk'=>?_⟩
 rw[Z4]at hk'
 rw[abL hg hh (by omega),if_neg (by omega)]
 exact hm.2.2.2 k hk hk'
theorem aal{W:Int}:∀(ls:List Int)(ws:List (BitVec 64)),May W ws→vw W ls→∀k,bit (qF (λx y=>x ||| y) ws ls) k=(bit ws k||decide ((k:Int)∈ls))
 |[],_,_,_,k=>by simp[qF]
 |n::ls,ws,hm,ha,k=>by
  have hn:=ha n (List.mem_cons_self ..)
  have h1:=aal ls (Zx (λx y=>x ||| y) ws n) (agf (h:=λa b=>a||b) age (by simp) hm hn) (λk hk=>ha k (List.mem_cons_of_mem _ hk)) k
  have hl:=hm.2.2.1
  simp only[qF,List.foldl_cons]at h1⊢
  rw[h1,abL (h:=λa b=>a||b) age (by simp) (by omega)]
  by_cases h2:k=n.toNat
  ·have :(k:Int)=n:=by omega
   simp[h2,show ((n.toNat:Int))=n by omega]
  ·have :¬(k:Int)=n:=by omega
   simp[h2,this]
theorem agh(h0:0≤W)(h1:W≤1032):May W (List.replicate ((W.toNat+63)/64) 0#64):=by
 refine⟨h0,h1,by rw[List.length_replicate];omega,λk _ _=>?_⟩
 simp[bit,ggd,List.getElem?_replicate]
 split<;>simp
theorem agi(n k:Nat):bit (List.replicate n 0#64) k=false:=by
 simp[bit,ggd,List.getElem?_replicate]
 split<;>simp
end
end Go.BM
namespace Go.Proofs
theorem aho{ss:List StD}{tys:List TyD}{p:PlD}(h:(zs ss tys p).2.2=true):0≤p.l∧p.l<(tys.length:Int):=by
 unfold zs at h
 split at h
 ·rename_i s hs
  by_cases h0:p.l<0
  ·rw[if_pos h0]at hs;cases hs
  ·rw[if_neg h0]at hs
   cases ht:tys[p.l.toNat]? with
   |none=>rw [ht]at hs;cases hs
   |some t=>
    have:=(List.getElem?_eq_some_iff.1 ht).1
    omega
 ·cases h
theorem Vt{u:UnD}{g:GrD}{p:PtD}(h:zG u g p=true)(ho:p.op=4∨p.op=10∨p.op=11):(zs u.ss g.tys p.fr).2.2=true:=by
 have h2:=j7 h
 cases hf:(zs u.ss g.tys p.fr).2.2 with
 |true=>rfl
 |false=>
  rw[ptG]at h2
  rcases ho with hc|hc|hc<;>simp [hc,hf]at h2
end Go.Proofs
namespace Go.Sh
open Go.RowKit
section
section
variable {P:Program} {X:Nat→Prop} {w0 w:World} {r:Gh} {L:List Asr} {e:TypeId} {sz m:Nat} {xs:List Value} {g:Asr→List Asr}
theorem StX.cutRow{p:Option Addr}{cap n:Nat}(S:StX X w0 r w L)[h:x6 (.slice p m cap) L e sz m xs g](hn:n≤m):StX X w0 r w (g (.row (.slice p n cap) e sz n (xs.take (n*sz)))):=by
 obtain⟨pp,qq,h2,h3⟩:=h.h
 have hr:=S.has (.row (.slice p m cap) e sz m xs) (by rw[h2];simp)
 rw[h3]
 rw[h2]at S
 rcases xK hr with⟨hv,h0,hx⟩|⟨b,cap',c,hv,hb,B,hm,hM,hc,ht⟩
 ·cases hv
  have :n=0:=by omega
  subst this
  subst hx
  refine S.turn (x:=.row (.slice none 0 0) e sz 0 []) (y:=.row (.slice none 0 0) e sz 0 ([].take (0*sz))) (ExtBut.refl _ _) ?_ λk hk=>.inl hk
  simpa using hr
 ·cases hv
  refine S.turn (x:=.row (.slice (some ⟨b,0,none⟩) m cap) e sz m xs) (y:=.row (.slice (some ⟨b,0,none⟩) n cap) e sz n (xs.take (n*sz))) (ExtBut.refl _ _) ?_ λk hk=>.inl hk
  have:=qh (base:=0) (e:=e) (size:=sz) (n:=n) (gzl _) B (by omega) hM hc
  rw[← ht,List.take_take,Nat.min_eq_left (Nat.mul_le_mul_right _ hn)]
  exact this
end
end
end Go.Sh
