/-
  Contracts and plain laws that the last text leans on.
-/
import Derived.Test.YthmakcmiggpoeaaGreatDoorQBe
import Derived.Test.YthmakcmiggpoeaaGreatDoorQBc
import Derived.Test.YthmakcmiggpoeaaGreatDoorQBd
import Derived.Shelf.Sort.Plain
import Derived.Shelf.Bits.Mul64
import Derived.Shelf.Slices.Reverse
import Derived.Shelf.Slices.Clone
import Derived.Shelf.Slices.CompactI
import Derived.Shelf.Slices.In.SortNone
import Derived.Test.YthmakcmiggpoeaaGreatDoorProg
import Derived.KernelRfl
import Derived.Test.YthmakcmiggpoeaaGreatDoorQBa
import Derived.Lib.TrailingZeros
import Derived.Test.YthmakcmiggpoeaaGreatDoorQBb
import Derived.ChangeKeysEq
set_option maxRecDepth 100000
set_option maxHeartbeats 8000000
set_option linter.unusedVariables false
set_option linter.unusedSimpArgs false
namespace Go.Proofs
open Go.Sh
section
variable {r:Gh} {u:UnD} {g:GrD} {ss:List StD} {tys ts:List TyD} {bx:Nat} {w:World} {K:Value→World→Prop} {p:PlD} {c:List Value} {l:List OpD}
abbrev asL(u:UnD)(g:GrD)(p0:Option Addr)(cap0:Nat)(qf:Option Addr)(capf:Nat)(q1:Option Addr)(c1:Nat)(q2:Option Addr)(c2:Nat)(q3:Option Addr)(c3:Nat)(q4:Option Addr)(c4:Nat):List Value:=
 [.slice p0 u.ss.length cap0,.slice qf u.fs.length capf,.int .i64 u.mn,.string g.name,.int .i64 g.lv,.slice q1 g.outs.length c1,.int .i64 g.pn,.slice q2 g.tys.length c2,.slice q3 g.nms.length c3,.slice q4 g.pts.length c4]
def AsP(r:Gh)(b:Nat)(u:UnD)(g:GrD):Prop:=∃p0 cap0 qf capf q1 c1 q2 c2 q3 c3 q4 c4,(Ob r λw=>Blk w b (asL u g p0 cap0 qf capf q1 c1 q2 c2 q3 c3 q4 c4) 170)∧
 UnG r (.agg #[.slice p0 u.ss.length cap0,.slice qf u.fs.length capf,.int .i64 u.mn]) u∧GrG r [.string g.name,.int .i64 g.lv,.slice q1 g.outs.length c1,.int .i64 g.pn,.slice q2 g.tys.length c2,.slice q3 g.nms.length c3,.slice q4 g.pts.length c4] g
theorem AsP.up{s:Gh}{b:Nat}(h:AsP r b u g)[l:Le r s]:AsP s b u g:=by
 obtain⟨p0,cap0,qf,capf,q1,c1,q2,c2,q3,c3,q4,c4,h1,h2,h3⟩:=h
 exact⟨p0,cap0,qf,capf,q1,c1,q2,c2,q3,c3,q4,c4,h1.up,h2.up,h3.up⟩
theorem acz{ss:List StD}:∀(l:List Int)(t:TyD)(m:Int),0≤m→goG ss l (t,m)=(zC ss l t).map λx=>(x.1,yQ m x.2)
 |[],t,m,_=>rfl
 |k::l,t,m,hm=>by
  have hs:stepG ss (t,m) k=(zF ss t k).map λs=>(s.1,max m s.2):=by
   unfold stepG zF
   split
   ·cases t.of.head?<;>rfl
   split
   ·cases t.of.head?<;>rfl
   split
   ·cases(ze ss t.st)[k.toNat]? with
    |none=>rfl
    |some u=>show some (u,m)=some (u,max m 0);rw[Int.max_eq_left hm]
   ·rfl
  rw[goG,zC,hs]
  cases h1:zF ss t k with
  |none=>rfl
  |some s=>
   show goG ss l (s.1,max m s.2)=((zC ss l s.1).map _).map _
   rw[acz l s.1 (max m s.2) (by omega),Option.map_map]
   rfl
theorem aaD{t:TyD}{ps:List Int}(hst:(zx ss).2=0)(hm:mayB ss t=true):zK ss [t] ⟨0,ps⟩=if ps.length≤8 then zC ss ps t else none:=by
 have e:yd ss [t] ⟨0,ps⟩=decide (ps.length≤8):=by
  simp[yd,hst,hm]
 rw[zK,e]
 by_cases h:ps.length≤8
 ·rw[if_pos (gde h),if_pos h];rfl
 ·rw[if_neg (by simpa using h),if_neg h]
theorem QC(hst:(zx ss).2=0)(hf:xz ss tys):(zm ss tys p).2.2=true↔0≤p.l∧∃(hl:p.l.toNat<tys.length)(x:TyD×List Int),zK ss [tys[p.l.toNat]] ⟨0,p.ps⟩=some x∧zm ss tys p=(x.1,yQ 0 x.2,true):=by
 constructor
 ·intro ho
  have h8:=qA ho
  unfold zm at ho⊢
  cases hb:(if p.l<0 then none else tys[p.l.toNat]?).bind λt=>goG ss p.ps (t,0)with
  |none=>rw [hb]at ho;cases ho
  |some s=>
   split at hb
   ·cases hb
   ·rename_i hl0
    cases ht:tys[p.l.toNat]? with
    |none=>rw [ht]at hb;cases hb
    |some t=>
     rw[ht]at hb
     have hb:goG ss p.ps (t,0)=some s:=hb
     obtain⟨hlt,rfl⟩:=List.getElem?_eq_some_iff.1 ht
     rw[acz _ _ _ (Int.le_refl _)]at hb
     cases hw:zC ss p.ps tys[p.l.toNat]with
     |none=>rw [hw]at hb;cases hb
     |some x=>
      rw[hw]at hb
      have hb:(x.1,yQ 0 x.2)=s:=Option.some.inj hb
      refine⟨by omega,hlt,x,?_,?_⟩
      ·rw[aaD hst (by rw[mayB,gde hst,Bool.true_and];exact hf.all _ (gem hlt)),if_pos h8,hw]
      ·rw[← hb]
       show(x.1,yQ 0 x.2,decide (p.ps.length≤8))=_
       rw[gde h8]
 ·rintro⟨_,_,x,_,h⟩;rw[h]
theorem aeT{i:Nat}(hi:i<tys.length):(tys.drop i).take 1=[tys[i]]:=by
 rw[List.drop_eq_getElem_cons hi];rfl
theorem Zw{K:Value→World→Prop}(hr:Holds r w)(hx:AsP r bx u g)(hst:(zx u.ss).2=0)(hf:xz u.ss g.tys)(hp:PlG r c p)
  (hN:∀w',(zm u.ss g.tys p).2.2=false→Ext w w'→K (.tuple #[agK,.slice none 0 0,.bool false]) w')
  (hS:∀t how q cap vg s w',zm u.ss g.tys p=(t,yQ 0 how,true)→Ext w w'→New w s w'→TyG r (tyV t q cap) t→SlG 1 s yz vg how→how.length≤8→p.ps.length≤8∧zC u.ss p.ps (g.tys.getD p.l.toNat zI)=some (t,how)→K (.tuple #[tyV t q cap,vg,.bool true]) w'):
  zd Tryz.prog Tryz.yC #[.pointer (some ⟨bx,0,none⟩),.agg c.toArray] w K:=by
 refine Tryz.VX ?_
 unfold Tryz.Yo
 obtain⟨p0,cap0,qf,capf,q1,c1,q2,c2,q3,c3,q4,c4,hB,hu,hg⟩:=hx
 obtain⟨_,_,_,hE,_,_,hss,_,_⟩:=hu
 cases hE
 obtain⟨_,_,_,_,hE,_,ht,_,_⟩:=hg
 cases hE
 obtain⟨_,_,hE,_,hct2⟩:=ht.sl.shape
 cases hE
 have htl:=ht.few
 have htl':g.tys.length≤9223372036854775807:=htl
 obtain⟨v,rfl,hl⟩:=hp
 obtain⟨qs,caps,rfl,hqs,hcs⟩:=hl.sl.shape
 have S:=St.start hr
 refine S.box λb3 w1 S=>?_
 have S:StX noX w r w1 [.cell b3 [.int .i64 p.l,.slice qs p.ps.length caps] 80]:=S
 refine S.al λb4 w2 S=>?_
 have S:=S.go (Ext.drew _)
 have ld:∀{w9:World}{L:List Asr}{i:Nat}{v:Value},StX noX w r w9 L→(asL u g p0 cap0 qf capf q1 c1 q2 c2 q3 c3 q4 c4)[i]? = some v→w9.cell? ⟨bx,i,none⟩=some v:=λS hi=>by
  rw[(S.at hB).cell];exact hi
 refine gg_ ?_
 refine zn (c:=decide ((g.tys.length:Int)≤p.l)) (λ_ K2 hK2=>?_) ?_
 ·refine gg_ ?_
  refine zf (ld (i:=7) S rfl) ?_
  refine gg_ ?_
  exact hK2
 refine c_b (λhbad=>?_) (λhok=>?_)
 ·have hno:(zm u.ss g.tys p).2.2=false:=by
   cases hh:(zm u.ss g.tys p).2.2 with
   |false=>rfl
   |true=>
    obtain⟨h1,h2,_⟩:=(QC hst hf).1 hh
    simp only[Bool.or_eq_true,gdt]at hbad;omega
  refine zq (cs:=#[.int .u8 0,.bool false,.int .i64 0,.int .i64 0,.slice none 0 0]) (by kernel_rfl) ?_
  refine S.stB (b:=b4) λw4 S=>?_
  refine S.ceB (b:=b4) ?_ rfl
  exact hN _ hno S.ext
 simp only[Bool.or_eq_false_iff,decide_eq_false_iff_not]at hok
 have hlt:p.l.toNat<g.tys.length:=by omega
 have S:=S.go (Ext.drew _)
 refine gg_ ?_
 refine zf (ld (i:=0) S rfl) ?_
 refine gg_ ?_
 refine zf (ld (i:=7) S rfl) ?_
 refine gg_ ?_
 have hlen:(p.l+1).toNat-p.l.toNat=[g.tys[p.l.toNat]].length:=by show _=1;omega
 have hsub:=(vV ht.sl).sub (a:=p.l.toNat) (n:=1) (cap:=c2) hct2
 rw[aeT hlt]at hsub
 rw[hlen]
 generalize (if c2=p.l.toNat then q2 else q2.map (·.add (p.l.toNat*5)))=qx at hsub⊢
 have hp2:PlG r [.int .i64 0,.slice qs p.ps.length caps] ⟨0,p.ps⟩:=⟨_,rfl,hl⟩
 refine ahI (p:=⟨0,p.ps⟩) S.holds hss hsub (by simp[maxLen]) hp2 (λw5 hn e5=>?_) λt how q cap vg s w5 hs e5 n5 htt hsl=>?_
 ·have hno:(zm u.ss g.tys p).2.2=false:=by
   cases hh:(zm u.ss g.tys p).2.2 with
   |false=>rfl
   |true=>
    obtain⟨h1,h2,x,h3,_⟩:=(QC hst hf).1 hh
    rw[hn]at h3;cases h3
  have S:=S.go e5
  refine gS_ ?_
  refine S.stB (b:=b4) λw6 S=>?_
  refine S.ceB (b:=b4) ?_ rfl
  exact hN _ hno S.ext
 ·obtain⟨S,d5,a5⟩:=S.tell e5 n5
  have hm:mayB u.ss g.tys[p.l.toNat]=true:=by rw[mayB,gde hst,Bool.true_and];exact hf.all _ (gem hlt)
  have hs':=hs
  rw[aaD hst hm]at hs'
  have h8:p.ps.length≤8:=by
   refine Classical.byContradiction λhc=>?_
   rw[if_neg hc]at hs';cases hs'
  rw[if_pos h8]at hs'
  have hw:=Ym hs'
  have hsp:zm u.ss g.tys p=(t,yQ 0 how,true):=by
   unfold zm
   rw[if_neg (by omega),gqg hlt]
   show(match goG u.ss p.ps (g.tys[p.l.toNat],0) with|some s=>(s.1,s.2,decide (p.ps.length≤8))|none=>(zI,0,false))=_
   rw[acz _ _ _ (Int.le_refl _),hs']
   show(t,yQ 0 how,decide (p.ps.length≤8))=_
   rw[gde h8]
  refine gS_ ?_
  refine S.stB (b:=b4) λw6 S=>?_
  refine S.ceB (b:=b4) ?_ rfl
  exact hS t how _ _ _ s _ hsp S.ext (S.newOf a5) htt hsl (by rw[hw];exact h8) ⟨h8,by rw[ggd,gqg hlt];exact hs'⟩
theorem ajJ{K:Value→World→Prop}(hr:Holds r w)(hx:AsP r bx u g)(hst:(zx u.ss).2=0)(hf:xz u.ss g.tys)(hp:PlG r c p)
  (h:∀t q cap w',((zm u.ss g.tys p).2.2=true→t=(zm u.ss g.tys p).1)→Ext w w'→TyG r (tyV t q cap) t→K (.tuple #[tyV t q cap,.bool ((zm u.ss g.tys p).2.2&&decide ((zm u.ss g.tys p).2.1<3))]) w'):
  zd Tryz.prog Tryz.vu #[.pointer (some ⟨bx,0,none⟩),.agg c.toArray] w K:=by
 refine Tryz.abp ?_
 unfold Tryz.XX
 obtain⟨v,rfl,hl⟩:=hp
 obtain⟨qs,caps,rfl,_,_⟩:=hl.sl.shape
 have S:=St.start hr
 refine S.box λb3 w1 S=>?_
 have S:StX noX w r w1 [.cell b3 [.int .i64 p.l,.slice qs p.ps.length caps] 80]:=S
 refine S.al λb4 w2 S=>?_
 refine S.ldB (b:=b3) ?_ rfl
 refine Zw (p:=p) S.holds hx hst hf ⟨_,rfl,hl⟩ (λw3 hno e3=>?_) λt how q cap vg s w3 hsp e3 n3 htt hsl h8 _=>?_
 ·have S:=S.go e3
  rw[hno]at h
  refine gS_ ?_
  refine S.al λb6 w4 S=>?_
  refine S.stB (b:=b6) λw5 S=>?_
  have S:=S.go (Ext.drew _)
  refine S.ldB (b:=b6) ?_ rfl
  refine zr (c:=true) (λhh=>by cases hh) λw6 e6=>?_
  have S:=S.go e6
  refine S.stB (b:=b4) λw7 S=>?_
  refine S.ceB (b:=b4) ?_ rfl
  exact h zI none 0 _ (λhh=>by cases hh) S.ext yH
 ·obtain⟨S,d3,a3⟩:=S.tell e3 n3
  rw[hsp]at h
  refine gS_ ?_
  refine S.al λb6 w4 S=>?_
  refine S.stB (b:=b6) λw5 S=>?_
  have S:=S.go (Ext.drew _)
  refine S.ldB (b:=b6) ?_ rfl
  refine zr (c:=decide (yQ 0 how<3)) (λ_ K2 hK2=>?_) λw6 e6=>?_
  ·refine Zv S.holds (hsl.cells (s:=r.or s)) (by omega) λw7 e7=>⟨e7,?_⟩
   refine gp_ ?_
   exact hK2 _ e7
  have S:=S.go e6
  refine S.stB (b:=b4) λw7 S=>?_
  refine S.ceB (b:=b4) ?_ rfl
  exact h t q cap _ (λ_=>rfl) S.ext htt
theorem Zx{o:OpD}{K:Value→World→Prop}(hr:Holds r w)(hx:AsP r bx u g)(hst:(zx u.ss).2=0)(hf:xz u.ss g.tys)(ho:OpG r c o)
  (h:∀t q cap w',((zs u.ss g.tys o).2=true→t=(zs u.ss g.tys o).1)→Ext w w'→TyG r (tyV t q cap) t→K (.tuple #[tyV t q cap,.bool (zs u.ss g.tys o).2]) w'):
  zd Tryz.prog Tryz.y7 #[.pointer (some ⟨bx,0,none⟩),.agg c.toArray] w K:=by
 refine Tryz.Q2 ?_
 unfold Tryz.vY
 obtain⟨v,rfl,hl⟩:=ho
 obtain⟨qs,caps,rfl,_,_⟩:=hl.sl.shape
 have hpl:PlG r [.int .i64 o.pl.l,.slice qs o.pl.ps.length caps] o.pl:=⟨_,rfl,hl⟩
 have S:=St.start hr
 refine S.box λb3 w1 S=>?_
 have S:StX noX w r w1 [.cell b3 [.int .u8 o.k,.int .i64 o.n,.int .i64 o.pl.l,.slice qs o.pl.ps.length caps] 93]:=S
 refine S.al λb4 w2 S=>?_
 refine gg_ ?_
 refine zh (λh1=>?_) (λh1=>?_)
 ·rw[zs,if_pos h1]at h
  refine zq (cs:=#[.int .u8 1,.bool false,.int .i64 0,.int .i64 0,.slice none 0 0]) (by kernel_rfl) ?_
  refine gg_ ?_
  refine S.ldN (b:=b3) ?_
  refine xP S.holds hpl λw3 e3=>?_
  have S:=S.go e3
  refine S.stB (b:=b4) λw4 S=>?_
  refine S.ceB (b:=b4) ?_ rfl
  exact h ym none 0 _ (λ_=>rfl) S.ext yH
 refine gg_ ?_
 refine zh (λh2=>?_) (λh2=>?_)
 ·rw[zs,if_neg h1,if_pos h2]at h
  refine zq (cs:=#[.int .u8 2,.bool false,.int .i64 0,.int .i64 0,.slice none 0 0]) (by kernel_rfl) ?_
  have S:=S.go (Ext.drew _)
  refine gg_ ?_
  refine S.ldN (b:=b3) ?_
  refine xP S.holds hpl λw3 e3=>?_
  have S:=S.go e3
  have fin:∀{w4:World}{L:List Asr}{b:Bool},b=(xR o.pl&&(decide (o.n=0)||decide (o.n=1)))→StX noX w r w4 (.cell b4 [.int .u8 2,.bool false,.int .i64 0,.int .i64 0,.slice none 0 0] 43::L)→K (.tuple #[tyV abb none 0,.bool b]) w4:=λhb S=>by
   rw[hb];exact h abb none 0 _ (λ_=>rfl) S.ext yH
  cases hz:xR o.pl with
  |false=>
   rw[hz]at fin
   (intro K9 hK9;refine gd_ ?_;refine hK9 _ _ λ_=>?_;clear hK9 K9)
   (intro K9 hK9;refine gd_ ?_;refine hK9 _ _ λ_=>?_;clear hK9 K9)
   refine⟨?_,?_⟩
   ·(intro K9 hK9;refine gd_ ?_;refine hK9 _ _ λ_=>?_;clear hK9 K9)
    (intro K9 hK9;refine gd_ ?_;refine hK9 _ _ λ_=>?_;clear hK9 K9)
    refine gd_ ?_
    refine S.stB (b:=b4) λw10 S=>?_
    refine S.ceB (b:=b4) ?_ rfl
    exact fin rfl S
   ·refine S.stB (b:=b4) λw10 S=>?_
    (intro K9 hK9;refine gd_ ?_;refine hK9 _ _ λ_=>?_;clear hK9 K9)
    (intro K9 hK9;refine gd_ ?_;refine hK9 _ _ λ_=>?_;clear hK9 K9)
    refine gd_ ?_
    exact fin rfl S
  |true=>
   rw[hz]at fin
   refine zk (λs w'=>s=[.bool (decide (o.n=0))]∧w'=w3) (λK9 hK9=>?_) ?_
   ·refine gd_ ?_
    exact hK9 _ _ ⟨rfl,rfl⟩
   rintro _ w3 ⟨rfl,rfl⟩ d1
   simp only[gdz]
   by_cases hn:o.n=0
   ·rw[gde hn]
    rw[gde hn]at fin
    (intro K9 hK9;refine gd_ ?_;refine hK9 _ _ λ_=>?_;clear hK9 K9)
    refine⟨?_,?_⟩
    ·(intro K9 hK9;refine gd_ ?_;refine hK9 _ _ λ_=>?_;clear hK9 K9)
     (intro K9 hK9;refine gd_ ?_;refine hK9 _ _ λ_=>?_;clear hK9 K9)
     refine gd_ ?_
     refine S.stB (b:=b4) λw10 S=>?_
     refine S.ceB (b:=b4) ?_ rfl
     exact fin rfl S
    ·refine S.stB (b:=b4) λw10 S=>?_
     (intro K9 hK9;refine gd_ ?_;refine hK9 _ _ λ_=>?_;clear hK9 K9)
     (intro K9 hK9;refine gd_ ?_;refine hK9 _ _ λ_=>?_;clear hK9 K9)
     refine gd_ ?_
     exact fin rfl S
   ·rw[decide_eq_false hn]
    rw[decide_eq_false hn]at fin
    (intro K9 hK9;refine gd_ ?_;refine hK9 _ _ λ_=>?_;clear hK9 K9)
    refine⟨?_,?_⟩
    ·refine zk (λs w'=>s=[.bool (decide (o.n=1))]∧w'=w3) (λK9 hK9=>?_) ?_
     ·refine gd_ ?_
      refine w_q ?_
      refine gd_ ?_
      exact hK9 _ _ ⟨rfl,rfl⟩
     rintro _ _ ⟨rfl,rfl⟩ d1
     (intro K9 hK9;refine gd_ ?_;refine hK9 _ _ λ_=>?_;clear hK9 K9)
     refine gd_ ?_
     refine S.stB (b:=b4) λw10 S=>?_
     refine S.ceB (b:=b4) ?_ rfl
     exact fin (by simp) S
    ·refine S.stB (b:=b4) λw10 S=>?_
     refine zk (λs w'=>s=[.bool (decide (o.n=1))]∧w'=w10) (λK9 hK9=>?_) ?_
     ·refine gd_ ?_
      refine w_q ?_
      refine gd_ ?_
      exact hK9 _ _ ⟨rfl,rfl⟩
     rintro _ _ ⟨rfl,rfl⟩ d1
     (intro K9 hK9;refine gd_ ?_;refine hK9 _ _ λ_=>?_;clear hK9 K9)
     refine gd_ ?_
     exact fin (by simp) S
 intro K41 hK41
 refine gg_ ?_
 refine qd (c:=decide (o.k=4)) (hK41 _ _ λ_=>?_) λ_ hk=>?_
 rotate_left
 ·refine gg_ ?_;exact hk
 simp only[gdz]
 refine c_b (λh34=>?_) (λh34=>?_)
 rotate_left
 ·have h34:¬o.k=3∧¬o.k=4:=by simpa using h34
  rw[zs,if_neg h1,if_neg h2,if_neg h34.1,if_neg h34.2]at h
  refine zq (cs:=#[.int .u8 0,.bool false,.int .i64 0,.int .i64 0,.slice none 0 0]) (by kernel_rfl) ?_
  refine S.stB (b:=b4) λw10 S=>?_
  refine S.ceB (b:=b4) ?_ rfl
  exact h zI none 0 _ (λhh=>by cases hh) S.ext yH
 have h34:o.k=3∨o.k=4:=by simpa using h34
 have hop:zs u.ss g.tys o=if o.k=3 then((zm u.ss g.tys o.pl).1,((zm u.ss g.tys o.pl).2.2&&decide (o.n=0))&&ki (zm u.ss g.tys o.pl).1)
   else((zm u.ss g.tys o.pl).1,(((zm u.ss g.tys o.pl).2.2&&decide (o.n=0)) && !ki (zm u.ss g.tys o.pl).1)&&decide ((zm u.ss g.tys o.pl).2.1<2)):=by
  rw[zs,if_neg h1,if_neg h2]
  by_cases h3:o.k=3
  ·rw[if_pos h3,if_pos h3]
  ·rw[if_neg h3,if_neg h3,if_pos (by omega)]
 refine gg_ ?_
 refine S.ldN (b:=b3) ?_
 refine Zw (p:=o.pl) S.holds hx hst hf hpl (λw3 hno e3=>?_) λt how q cap vg s w3 hsp e3 n3 htt hsl h8 _=>?_
 ·have S:=S.go e3
  have hz:(zs u.ss g.tys o).2=false:=by
   rw[hop];split<;>simp [hno]
  rw[hz]at h
  refine gS_ ?_
  refine S.al λb6 w4 S=>?_
  refine S.stB (b:=b6) λw5 S=>?_
  refine gp_ ?_
  refine zn (c:=true) (λhh=>by cases hh) ?_
  refine c_t rfl ?_
  refine S.ldB (b:=b6) ?_ rfl
  refine S.stB (b:=b4) λw7 S=>?_
  refine S.ceB (b:=b4) ?_ rfl
  exact h zI none 0 _ (λhh=>by cases hh) S.ext yH
 obtain⟨S,d3,a3⟩:=S.tell e3 n3
 rw[hsp]at hop
 simp only[Bool.true_and]at hop
 refine gS_ ?_
 refine S.al λb6 w4 S=>?_
 refine S.stB (b:=b6) λw5 S=>?_
 refine gp_ ?_
 refine zn (c:=decide (o.n≠0)) (λ_ K2 hK2=>by refine gg_ ?_;exact hK2) ?_
 rw[show ((!true)||decide (o.n≠0))=decide (o.n≠0)by simp]
 refine zh (λhn=>?_) (λhn=>?_)
 ·have hz:(zs u.ss g.tys o).2=false:=by
   rw[hop];split<;>simp [hn]
  rw[hz]at h
  refine S.ldB (b:=b6) ?_ rfl
  refine S.stB (b:=b4) λw7 S=>?_
  refine S.ceB (b:=b4) ?_ rfl
  exact h t q cap _ (λhh=>by cases hh) S.ext htt
 have hn:o.n=0:=by omega
 rw[gde hn]at hop
 simp only[Bool.true_and]at hop
 refine gg_ ?_
 refine zh (λh3=>?_) (λh3=>?_)
 ·rw[if_pos h3]at hop
  rw[hop]at h
  have S:=S.go (Ext.drew _)
  refine S.ldB (b:=b6) ?_ rfl
  refine S.ldB (b:=b6) ?_ rfl
  refine Jr S.holds htt.up λw6 e6=>⟨e6,?_⟩
  have S:=S.go e6
  refine S.stB (b:=b4) λw7 S=>?_
  refine S.ceB (b:=b4) ?_ rfl
  exact h t q cap _ (λ_=>rfl) S.ext htt
 ·rw[if_neg h3]at hop
  rw[hop]at h
  have S:=S.go (Ext.drew _)
  refine S.ldB (b:=b6) ?_ rfl
  refine S.ldB (b:=b6) ?_ rfl
  refine Jr S.holds htt.up λw6 e6=>⟨e6,?_⟩
  have S:=S.go e6
  refine gp_ ?_
  refine zr (c:=decide (yQ 0 how<2)) (λ_ K2 hK2=>?_) λw7 e7=>?_
  ·refine Zv S.holds (hsl.cells (s:=r.or s)) (by omega) λw7 e7=>⟨e7,?_⟩
   refine gp_ ?_
   exact hK2 _ e7
  have S:=S.go e7
  refine S.stB (b:=b4) λw7 S=>?_
  refine S.ceB (b:=b4) ?_ rfl
  exact h t q cap _ (λ_=>rfl) S.ext htt
theorem adP(hf:xz ss tys){o:OpD}(h:(zs ss tys o).2=true):isB (zs ss tys o).1=true:=by
 by_cases hk:o.k=3∨o.k=4
 ·unfold zs at h⊢
  rw[if_neg (by omega),if_neg (by omega)]at h⊢
  rcases hk with hk|hk
  ·rw[if_pos hk]at h⊢
   simp only[gba]at h
   exact(kZ hf h.1.1).is hf.few
  ·rw[if_neg (by omega),if_pos hk]at h⊢
   simp only[gba]at h
   exact(kZ hf h.1.1.1).is hf.few
 ·unfold zs at h⊢
  by_cases h1:o.k=1
  ·rw[if_pos h1];rfl
  by_cases h2:o.k=2
  ·rw[if_neg h1,if_pos h2];rfl
  ·rw[if_neg h1,if_neg h2,if_neg (by omega),if_neg (by omega)]at h;cases h
theorem adQ{ss:List StD}{tys:List TyD}:∀{l:List OpD}{ts:List TyD}(i:Nat)(hi:i<l.length)(hj:i<ts.length),xe ss tys (l.take (i+1)) (ts.take (i+1))=(xe ss tys (l.take i) (ts.take i)&&((zs ss tys l[i]).2&&zN ya (zs ss tys l[i]).1 ts[i]))
 |[],_,i,hi,_=>absurd hi (Nat.not_lt_zero _)
 |_::_,[],i,_,hj=>absurd hj (Nat.not_lt_zero _)
 |o::l,t::r,0,hi,hj=>by
  rw[List.take_succ_cons,List.take_succ_cons,qz]
  simp[xe]
 |o::l,t::r,i+1,hi,hj=>by
  rw[List.take_succ_cons,List.take_succ_cons,qz,adQ i (by simpa using hi) (by simpa using hj),List.take_succ_cons,List.take_succ_cons,qz]
  simp only[List.getElem_cons_succ,Bool.and_assoc]
theorem alQ{i:Nat}(hi:i<l.length)(hj:i<ts.length)(h:((zs ss tys l[i]).2&&zN ya (zs ss tys l[i]).1 ts[i])=false):xe ss tys l ts=false:=by
 cases ha:xe ss tys l ts with
 |false=>rfl
 |true=>
  exfalso
  have key:∀{l:List OpD}{ts:List TyD}(i:Nat)(hi:i<l.length)(hj:i<ts.length),xe ss tys l ts=true→((zs ss tys l[i]).2&&zN ya (zs ss tys l[i]).1 ts[i])=true:=by
   intro l
   induction l with
   |nil=>intro ts i hi;exact absurd hi (Nat.not_lt_zero _)
   |cons o l ih=>
    intro ts i hi hj ha
    cases ts with
    |nil=>exact absurd hj (Nat.not_lt_zero _)
    |cons t r=>
     rw[qz,gba]at ha
     cases i with
     |zero=>exact ha.1
     |succ i=>exact ih i (by simpa using hi) (by simpa using hj) ha.2
  rw[key i hi hj ha]at h;cases h
theorem aaE{l:List OpD}{ts:List TyD}{p q:Option Addr}{cp cq:Nat}{K:Value→World→Prop}(hr:Holds r w)(hx:AsP r bx u g)(hst:(zx u.ss).2=0)(hf:xz u.ss g.tys)
  (hl:SlG 4 r (OpG r) (.slice p l.length cp) l) (hb:l.length≤maxLen) (ht:TysG r q ts) (htb:ts.length≤maxLen) (hts:∀t∈ts,isB t=true)
  (h:∀w',Ext w w'→K (.bool (xe u.ss g.tys l ts)) w'):zd Tryz.prog Tryz.kq #[.pointer (some ⟨bx,0,none⟩),.slice p l.length cp,.slice q ts.length cq] w K:=by
 refine Tryz.VY ?_
 unfold Tryz.Yp
 have S:=St.start hr
 have hb':l.length≤9223372036854775807:=hb
 refine gg_ ?_
 refine zh (λhne=>?_) (λheq=>?_)
 ·have:=h _ S.ext
  rw[aam (by omega)]at this
  exact this
 have heq:l.length=ts.length:=by omega
 refine zj (ι:=Nat) (λi=>[.int .i64 (i:Nat)]) (λi w'=>i≤l.length∧xe u.ss g.tys (l.take i) (ts.take i)=true∧StX noX w r w' []) (λi=>l.length-i) 0 rfl ⟨gzl _,rfl,S⟩ ?_
 clear S
 rintro i d w2 ⟨hi,hall,S⟩ K1 hK1
 rw[gdz]
 refine gg_ ?_
 refine zh (λhlt=>?_) (λhge=>?_)
 ·have hlt:i<l.length:=by omega
  have hlt2:i<ts.length:=by omega
  obtain⟨bo,oo,co,rfl,hco,hoc,hocell⟩:=hl.get (by decide) hlt
  obtain⟨bt,ot,ct,rfl,hct,htcell,htc⟩:=ht i hlt2
  obtain⟨qt,ct2,rfl,htt⟩:=yj htc
  refine gg_ ?_
  refine zo (n:=4) hco (λj v hj=>by rw[tnc];exact S.at (hocell j v hj)) ?_
  refine Zx S.holds hx hst hf hoc λt q cap w3 hte e3 ht3=>?_
  have S:=S.go e3
  refine gS_ ?_
  refine S.al λb8 w4 S=>?_
  refine S.stB (b:=b8) λw5 S=>?_
  refine gp_ ?_
  have S0:=S
  have S:=S.go (Ext.drew _)
  refine yZ (c:=!zN ya (zs u.ss g.tys l[i]).1 ts[i]) (λhok K2 hK2=>?_) λw6 e6=>?_
  ·have hok:(zs u.ss g.tys l[i]).2=true:=by simpa using hok
   obtain rfl:=hte hok
   refine S.ldB (b:=b8) ?_ rfl
   refine gg_ ?_
   refine zo (n:=5) hct (λj v hj=>by rw[tnc];exact S.at (htcell j v hj)) ?_
   have hB:=adP hf hok
   have hB2:=hts _ (gem hlt2)
   refine VF 48 hB hB2 S.holds ht3.up htt.up λw7 e7=>?_
   refine gp_ ?_
   have ea:x7 ya 48 (zs u.ss g.tys l[i]).1 ts[i]=zN ya (zs u.ss g.tys l[i]).1 ts[i]:=by rw[zN,hB,hB2];rfl
   rw[ea]
   exact hK2 _ e7
  have S:=S.go e6
  refine c_b (λhbad=>?_) (λhgood=>?_)
  ·have:=h _ S.ext
   rw[alQ hlt hlt2 (by revert hbad;cases(zs u.ss g.tys l[i]).2<;>cases (zN ya (zs u.ss g.tys l[i]).1 ts[i])<;>simp)]at this
   exact this
  ·refine gg_ ?_
   rw[show ((i:Int)+1)=((i+1:Nat):Int)by omega]
   refine hK1 (i+1) _ ⟨hlt,?_,S.tl⟩ (by omega)
   rw[adQ i hlt hlt2,hall,Bool.true_and]
   simpa using hgood
 ·have hie:i=l.length:=by omega
  have:=h _ S.ext
  rw[hie,List.take_length,heq,List.take_length]at hall
  rw[hall]at this
  exact this
end
end Go.Proofs
namespace Go.Sh
theorem anK{w:World}{b e n x y:Bool}{A1:(List Value→World→Prop)→Prop}{A2 A3 A4:(List Value→World→Prop)→World→Prop}{Z:Value→World→Prop}
  (h1:∀K:List Value→World→Prop,(∀w',Ext w w'→K [.bool e] w')→A1 K) (h2:∀(K:List Value→World→Prop) w1,Ext w w1→(∀w',Ext w w'→K [.bool n] w')→A2 K w1)
  (h3:∀(K:List Value→World→Prop) w1,Ext w w1→(∀w',Ext w w'→K [.bool x] w')→A3 K w1) (h4:∀(K:List Value→World→Prop) w1,Ext w w1→(∀w',Ext w w'→K [.bool y] w')→A4 K w1)
  (hZ:∀w',Ext w w'→Z (.bool (b||(((e||n)&&x)&&y))) w'):
  za (λK=>gIf (.bool b) false (A1 K) (K [u_] w)) λs92 _ w94=>
   za (λK=>gIf (s92.getD 0 u_) false (A2 K w94) (K [u_] w94)) λs96 _ w98=>
    za (λK=>gIf (.bool b) false (zb (s92.getD 0 u_) (.bool true) (s96.getD 0 u_) λt=>K [t] w98) (K [u_] w98)) λs100 _ w102=>
     za (λK=>gIf (s100.getD 0 u_) true (A3 K w102) (K [u_] w102)) λs104 _ w106=>
      za (λK=>gIf (.bool b) false (zb (s100.getD 0 u_) (s104.getD 0 u_) (.bool false) λt=>K [t] w106) (K [u_] w106)) λs109 _ w111=>
       za (λK=>gIf (s109.getD 0 u_) true (A4 K w111) (K [u_] w111)) λs113 _ w115=>
        za (λK=>gIf (.bool b) false (zb (s109.getD 0 u_) (s113.getD 0 u_) (.bool false) λt=>K [t] w115) (K [u_] w115)) λs118 _ w120=>
         zb (.bool b) (.bool true) (s118.getD 0 u_) λt=>Z t w120:=by
 cases b<;>cases e<;>cases n<;>cases x<;>cases y <;>
  (iterate 7 (intro K hK;first|refine hK _ _ λ_=>?_|(refine h1 _ λw1 e1=>hK _ _ λ_=>?_)|(refine h2 _ _ (by first|assumption|exact Ext.refl _) λw1 e1=>hK _ _ λ_=>?_)|(refine h3 _ _ (by first|assumption|exact Ext.refl _) λw1 e1=>hK _ _ λ_=>?_)|(refine h4 _ _ (by first|assumption|exact Ext.refl _) λw1 e1=>hK _ _ λ_=>?_)|refine ⟨_,rfl,hK _ _ λ_=>?_⟩)) <;>
  exact⟨_,rfl,by simpa using hZ _ (by first|assumption|exact Ext.refl _)⟩
theorem amN{w:World}{b m x y o u v:Bool}{A1:(List Value→World→Prop)→Prop}{A2 A3 A4 A5 A6:(List Value→World→Prop)→World→Prop}{Z:Value→World→Prop}
  (h1:∀K:List Value→World→Prop,(∀w',Ext w w'→K [.bool m] w')→A1 K) (h2:∀(K:List Value→World→Prop) w1,Ext w w1→(∀w',Ext w w'→K [.bool x] w')→A2 K w1)
  (h3:∀(K:List Value→World→Prop) w1,Ext w w1→(∀w',Ext w w'→K [.bool y] w')→A3 K w1) (h4:∀(K:List Value→World→Prop) w1,Ext w w1→(∀w',Ext w w'→K [.bool o] w')→A4 K w1)
  (h5:∀(K:List Value→World→Prop) w1,Ext w w1→(∀w',Ext w w'→K [.bool u] w')→A5 K w1) (h6:∀(K:List Value→World→Prop) w1,Ext w w1→(∀w',Ext w w'→K [.bool v] w')→A6 K w1)
  (hZ:∀w',Ext w w'→Z (.bool (b&&(((m&&x)&&y)||((o&&u)&&v)))) w'):
  za (λK=>gIf (.bool b) true (A1 K) (K [u_] w)) λs141 _ w143=>
   za (λK=>gIf (s141.getD 0 u_) true (A2 K w143) (K [u_] w143)) λs145 _ w147=>
    za (λK=>gIf (.bool b) true (zb (s141.getD 0 u_) (s145.getD 0 u_) (.bool false) λt=>K [t] w147) (K [u_] w147)) λs150 _ w152=>
     za (λK=>gIf (s150.getD 0 u_) true (A3 K w152) (K [u_] w152)) λs154 _ w156=>
      za (λK=>gIf (.bool b) true (zb (s150.getD 0 u_) (s154.getD 0 u_) (.bool false) λt=>K [t] w156) (K [u_] w156)) λs159 _ w161=>
       za (λK=>gIf (s159.getD 0 u_) false (A4 K w161) (K [u_] w161)) λs163 _ w165=>
        za (λK=>gIf (s163.getD 0 u_) true (A5 K w165) (K [u_] w165)) λs167 _ w169=>
         za (λK=>gIf (s159.getD 0 u_) false (zb (s163.getD 0 u_) (s167.getD 0 u_) (.bool false) λt=>K [t] w169) (K [u_] w169)) λs172 _ w174=>
          za (λK=>gIf (s172.getD 0 u_) true (A6 K w174) (K [u_] w174)) λs176 _ w178=>
           za (λK=>gIf (s159.getD 0 u_) false (zb (s172.getD 0 u_) (s176.getD 0 u_) (.bool false) λt=>K [t] w178) (K [u_] w178)) λs181 _ w183=>
            za (λK=>gIf (.bool b) true (zb (s159.getD 0 u_) (.bool true) (s181.getD 0 u_) λt=>K [t] w183) (K [u_] w183)) λs185 _ w187=>
             zb (.bool b) (s185.getD 0 u_) (.bool false) λt=>Z t w187:=by
 cases b<;>cases m<;>cases x<;>cases y<;>cases o<;>cases u<;>cases v <;>
  (iterate 11 (intro K hK;first|refine hK _ _ λ_=>?_|(refine h1 _ λw1 e1=>hK _ _ λ_=>?_)|(refine h2 _ _ (by first|assumption|exact Ext.refl _) λw1 e1=>hK _ _ λ_=>?_)|(refine h3 _ _ (by first|assumption|exact Ext.refl _) λw1 e1=>hK _ _ λ_=>?_)|(refine h4 _ _ (by first|assumption|exact Ext.refl _) λw1 e1=>hK _ _ λ_=>?_)|(refine h5 _ _ (by first|assumption|exact Ext.refl _) λw1 e1=>hK _ _ λ_=>?_)|(refine h6 _ _ (by first|assumption|exact Ext.refl _) λw1 e1=>hK _ _ λ_=>?_)|refine ⟨_,rfl,hK _ _ λ_=>?_⟩)) <;>
  exact⟨_,rfl,by simpa using hZ _ (by first|assumption|exact Ext.refl _)⟩
theorem amO{w:World}{b m x:Bool}{A1:(List Value→World→Prop)→Prop}{A2:(List Value→World→Prop)→World→Prop}{Z:Value→World→Prop}
  (h1:∀K:List Value→World→Prop,K [.bool m] w→A1 K) (h2:b=true→∀K:List Value→World→Prop,(∀w',Ext w w'→K [.bool x] w')→A2 K w) (hZ:∀w',Ext w w'→Z (.bool (b&&(m||x))) w'):
  za (λK=>gIf (.bool b) true (A1 K) (K [u_] w)) λs212 _ w214=>
   za (λK=>gIf (s212.getD 0 u_) false (A2 K w214) (K [u_] w214)) λs216 _ w218=>
    za (λK=>gIf (.bool b) true (zb (s212.getD 0 u_) (.bool true) (s216.getD 0 u_) λt=>K [t] w218) (K [u_] w218)) λs221 _ w223=>
     zb (.bool b) (s221.getD 0 u_) (.bool false) λt=>Z t w223:=by
 cases b<;>cases m<;>cases x <;>
  (iterate 3 (intro K hK;first|refine hK _ _ λ_=>?_|refine h1 _ (hK _ _ λ_=>?_)|(refine h2 rfl _ λw1 e1=>hK _ _ λ_=>?_)|refine ⟨_,rfl,hK _ _ λ_=>?_⟩)) <;>
  exact⟨_,rfl,by simpa using hZ _ (by first|assumption|exact Ext.refl _)⟩
end Go.Sh
namespace Go.Proofs
open Go.Sh
theorem ahL:∀(l:List Int)(m:Int),(m≤3)→(∀x∈l,x≤3)→yQ m l≤3
 |[],m,h,_=>h
 |k::l,m,h,hl=>ahL l _ (by have:=hl k List.mem_cons_self;omega) λx hx=>hl x (List.mem_cons_of_mem _ hx)
theorem ahM{ss:List StD}:∀(l:List Int)(t:TyD){x:TyD×List Int},zC ss l t=some x→∀k∈x.2,k≤3
 |[],t,x,h=>by cases h;intro k hk;cases hk
 |k::l,t,x,h=>by
  rw[zC]at h
  cases hs:zF ss t k with
  |none=>rw [hs]at h;cases h
  |some s=>
   rw[hs]at h
   have h:(zC ss l s.1).map (λx=>(x.1,s.2::x.2))=some x:=h
   cases hw:zC ss l s.1 with
   |none=>rw [hw]at h;cases h
   |some y=>
    rw[hw]at h
    cases h
    intro j hj
    rcases List.mem_cons.1 hj with rfl|hj
    ·unfold zF at hs
     split at hs
     ·cases ho:t.of.head? with
      |none=>rw [ho]at hs;cases hs
      |some u=>rw [ho]at hs;cases hs;show(1:Int)≤3;decide
     split at hs
     ·cases ho:t.of.head? with
      |none=>rw [ho]at hs;cases hs
      |some u=>rw [ho]at hs;cases hs;show(if t.m then(2:Int)else 3)≤3;split<;>decide
     split at hs
     ·cases ho:(ze ss t.st)[k.toNat]? with
      |none=>rw [ho]at hs;cases hs
      |some u=>rw [ho]at hs;cases hs;show(0:Int)≤3;decide
     ·cases hs
    ·exact ahM l s.1 hw j hj
theorem akF{ss:List StD}{tys:List TyD}{p:PlD}(hst:(zx ss).2=0)(hf:xz ss tys)(h:(zm ss tys p).2.2=true):(zm ss tys p).2.1≤3:=by
 have h8:=qA h
 obtain⟨h0,hl,x,h1,h2⟩:=(QC hst hf).1 h
 rw[aaD hst (by rw[mayB,gde hst,Bool.true_and];exact hf.all _ (gem hl)),if_pos h8]at h1
 rw[h2]
 exact ahL _ _ (by decide) (ahM _ _ h1)
theorem agi{u:UnD}{g:GrD}{p:PlD}{bx:Nat}{c:List Value}{w:World}{r:Gh}{K:Value→World→Prop}(hr:Holds r w)(hx:AsP r bx u g)(hst:(zx u.ss).2=0)(hf:xz u.ss g.tys)(hp:PlG r c p)
  (h:∀t how q cap vg s w',((zm u.ss g.tys p).2.2=true→zm u.ss g.tys p=(t,yQ 0 how,true))→Ext w w'→New w s w'→TyG r (tyV t q cap) t→SlG 1 s yz vg how→how.length≤8→K (.tuple #[tyV t q cap,vg,.bool (zm u.ss g.tys p).2.2]) w'):
  zd Tryz.prog Tryz.yC #[.pointer (some ⟨bx,0,none⟩),.agg c.toArray] w K:=by
 refine Zw hr hx hst hf hp (λw' hno e=>?_) λt how q cap vg s w' hsp e n htt hsl h8 _=>?_
 ·have:=h zI [] none 0 (.slice none 0 0) nothing w' (λhh=>by rw[hno]at hh;cases hh) e New.nothing yH SlG.nil (gzl _)
  rw[hno]at this
  exact this
 ·have:=h t how q cap vg s w' (λ_=>hsp) e n htt hsl h8
  rw[hsp]at this
  exact this
section
variable {p:PtD} {c:List Value} {K:Value→World→Prop} {s:ByteArray}
theorem alR{h:ack}{L:List UInt8}(e:([84,65,66,76,70,83,78,85,77,69]:List Int).map (qV L)=[h.to,h.a,h.b,h.args,h.fr,h.sign,h.fn,h.st,h.mu,h.el]):jI p L 10=zE p h:=by
 simp only[List.map_cons,List.map_nil,List.cons.injEq,and_true]at e
 obtain⟨e0,e1,e2,e3,e4,e5,e6,e7,e8,e9⟩:=e
 exact alP e0 e1 e2 e3 e4 e5 e6 e7 e8 e9
theorem xx{f:ack}{has:List UInt8}{w:World}{r:Gh}{K:Value→World→Prop}(e:([84,65,66,76,70,83,78,85,77,69]:List Int).map (qV has)=[f.to,f.a,f.b,f.args,f.fr,f.sign,f.fn,f.st,f.mu,f.el])(hh:has.length≤100)(hr:Holds r w)(hp:PtG r c p)
  (h:∀w',Ext w w'→K (.bool (zE p f)) w'):zd Tryz.prog Tryz.zR #[.agg c.toArray,.string (bs has)] w K:=by
 refine ahK hr hp hh λw' e'=>?_
 rw[alR e]
 exact h _ e'
theorem anL{t1 t2 i x:Bool}:(yl s [[61,61],[33,61],[60],[60,61],[62],[62,61]]&&t2&&(i||((s.toList == [61,61]||s.toList == [33,61])&&x))) =
  (if yl s [[60],[60,61],[62],[62,61]]=true then t2&&i else if yl s [[61,61],[33,61]]=true then t2&&(i||x)else false):=by
 have hx:∀a b:List UInt8,a≠b→(s.toList == a)=true→(s.toList == b)=false:=λa b hab h=>by
  rw[beq_iff_eq]at h
  rw[h]
  exact beq_eq_false_iff_ne.2 hab
 simp only[yl,List.any_cons,List.any_nil,Bool.or_false]
 by_cases h1:(s.toList == [61,61])=true
 ·rw[hx _ [60] (by decide) h1,hx _ [60,61] (by decide) h1,hx _ [62] (by decide) h1,hx _ [62,61] (by decide) h1,h1]
  simp
 by_cases h2:(s.toList == [33,61])=true
 ·rw[hx _ [60] (by decide) h2,hx _ [60,61] (by decide) h2,hx _ [62] (by decide) h2,hx _ [62,61] (by decide) h2,h2]
  simp
 rw[Bool.not_eq_true]at h1 h2
 rw[h1,h2]
 simp only[Bool.false_or,Bool.false_and,Bool.or_false,Bool.false_eq_true,if_false]
 by_cases h3:((s.toList == [60])||((s.toList == [60,61])||((s.toList == [62])||(s.toList == [62,61]))))=true
 ·rw[if_pos h3,h3,Bool.true_and]
 ·rw[if_neg h3]
  rw[Bool.not_eq_true]at h3
  rw[h3];rfl
theorem aop{b t1 a1 t2 a2:Bool}:(b&&(((s.toList == [45]&&t1)&&a1)||((s.toList == [33]&&t2)&&a2)))=(b&&(if yl s [[45]]=true then t1&&a1 else if yl s [[33]]=true then t2&&a2 else false)):=by
 congr 1
 simp only[yl,List.any_cons,List.any_nil,Bool.or_false]
 by_cases h1:(s.toList == [45])=true
 ·have h2:(s.toList == [33])=false:=by
   rw[beq_iff_eq]at h1;rw[h1];rfl
  rw[if_pos h1,h1,h2];simp
 ·rw[if_neg h1]
  rw[Bool.not_eq_true]at h1
  rw[h1]
  by_cases h2:(s.toList == [33])=true
  ·rw[if_pos h2,h2];simp
  ·rw[if_neg h2];rw[Bool.not_eq_true]at h2;rw[h2];simp
theorem agj{u:UnD}{g:GrD}{p:PtD}{bx:Nat}{c:List Value}{w:World}{r:Gh}{K:Value→World→Prop}(hr:Holds r w)(hx:AsP r bx u g)(hst:(zx u.ss).2=0)(hf:xz u.ss g.tys)
  (hfs:∀f∈u.fs,0≤f.pn∧f.pn<f.tys.length∧xz u.ss f.tys) (hp:PtG r c p)
  (h:∀w',Ext w w'→K (.bool (zG u g p)) w'):zd Tryz.prog Tryz.qQ #[.pointer (some ⟨bx,0,none⟩),.agg c.toArray] w K:=by
 refine Tryz.Vc ?_
 unfold Tryz.ZF
 have hx0:=hx
 obtain⟨p0,cap0,qf,capf,q1,c1,q2,c2,q3,c3,q4,c4,hB,hu,hg⟩:=hx
 obtain⟨_,_,_,hE,_,_,hss,hsl,hfn⟩:=hu
 cases hE
 have hfl:u.fs.length≤9223372036854775807:=hfn.few
 obtain⟨_,_,_,_,hE,_,_,_,hpts⟩:=hg
 cases hE
 have hpl:g.pts.length≤9223372036854775807:=hpts.few
 obtain⟨z1,z2,z3,z4,z5,d1,d2,d3,d4,d5,rfl,hp0⟩:=xm hp
 obtain⟨_,_,_,_,_,hE,k1,k2,k3,k4,k5⟩:=id hp0
 cases hE
 have hpto:PlG r [.int .i64 p.to.l,.slice z1 p.to.ps.length d1] p.to:=⟨_,rfl,k1⟩
 have hpfr:PlG r [.int .i64 p.fr.l,.slice z5 p.fr.ps.length d5] p.fr:=⟨_,rfl,k5⟩
 have hoa:OpG r [.int .u8 p.a.k,.int .i64 p.a.n,.int .i64 p.a.pl.l,.slice z2 p.a.pl.ps.length d2] p.a:=⟨_,rfl,k2⟩
 have hob:OpG r [.int .u8 p.b.k,.int .i64 p.b.n,.int .i64 p.b.pl.l,.slice z3 p.b.pl.ps.length d3] p.b:=⟨_,rfl,k3⟩
 have S:=St.start hr
 refine S.box λb3 w1 S=>?_
 have S:StX noX w r w1 [.cell b3 (ptL p z1 z2 z3 z4 z5 d1 d2 d3 d4 d5) 96]:=S
 have ld:∀{q:Gh}{w9:World}{L:List Asr}{i:Nat}{v:Value}[Le r q],StX noX w q w9 L→(asL u g p0 cap0 qf capf q1 c1 q2 c2 q3 c3 q4 c4)[i]? = some v→w9.cell? ⟨bx,i,none⟩=some v:=λS hi=>by
  rw[(S.at hB).cell];exact hi
 refine gg_ ?_
 refine zf (ld (i:=9) S rfl) ?_
 refine gg_ ?_
 refine ZY (g:=decide (p.op=14)) (c:=decide (p.nx≠0)) (λ_ K2 hK2=>by refine gg_ ?_;exact hK2) (λ_ K2 hK2=>by refine gg_ ?_;exact hK2) ?_
 refine aeQ (g:=decide (p.op≠14)) (m:=decide (p.nx<0)) (c:=decide ((g.pts.length:Int)≤p.nx)) (λK2 hK2=>by refine gg_ ?_;exact hK2) (λK2 hK2=>by refine gg_ ?_;exact hK2) (λK2 hK2=>by refine gg_ ?_;exact hK2) ?_
 have hbad:((decide (p.tx<0)||(decide (p.op=14)&&decide (p.nx≠0)))||(decide (p.op≠14)&&(decide (p.nx<0)||decide ((g.pts.length:Int)≤p.nx)))) =
   ((decide (p.tx<0)||(!decide (p.op=14) && !ZW g p.nx))||(decide (p.op=14) && !decide (p.nx=0))):=by
  have e1:(!ZW g p.nx)=(decide (p.nx<0)||decide ((g.pts.length:Int)≤p.nx)):=by
   rw[ZW,Bool.not_and,← decide_not,← decide_not]
   congr 1<;>exact decide_eq_decide.2 (by omega)
  rw[e1,← decide_not,← decide_not]
  show((decide (p.tx<0)||(decide (p.op=14)&&decide (¬p.nx=0)))||(decide (¬p.op=14)&&(decide (p.nx<0)||decide ((g.pts.length:Int)≤p.nx))))=_
  ac_rfl
 rw[hbad]
 refine c_b (λhc=>?_) (λhc=>?_)
 ·have:=h _ S.ext
  rw[zG,hc]at this
  exact this
 rw[zG,hc]at h
 simp only[Bool.not_false,Bool.true_and]at h
 clear hbad hc
 refine gg_ ?_
 refine S.ldN (b:=b3) ?_
 refine ajJ (p:=p.to) S.holds hx0 hst hf hpto λtt qt ct w2 htt e2 ht2=>?_
 have S:=S.go e2
 refine gS_ ?_
 refine S.al λb6 w3 S=>?_
 refine S.stB (b:=b6) λw4 S=>?_
 refine gg_ ?_
 refine S.ldN (b:=b3) ?_
 refine Zx (o:=p.a) S.holds hx0 hst hf hoa λta qa ca w5 hta e5 ht5=>?_
 have S:=S.go e5
 refine gS_ ?_
 refine S.al λb8 w6 S=>?_
 refine S.stB (b:=b8) λw7 S=>?_
 refine gg_ ?_
 refine S.ldN (b:=b3) ?_
 refine Zx (o:=p.b) S.holds hx0 hst hf hob λtb qb cb w8 htb e8 ht8=>?_
 have S:=S.go e8
 refine gS_ ?_
 refine S.al λb10 w9 S=>?_
 refine S.stB (b:=b10) λw10 S=>?_
 refine gg_ ?_
 refine S.ldN (b:=b3) ?_
 refine agi (p:=p.fr) S.holds hx0 hst hf hpfr λtf how qr cr vg s w11 htf e11 n11 ht11 hhow hh8=>?_
 obtain⟨S,dd,ad⟩:=S.tell e11 n11
 obtain⟨vgp,vgc,rfl,_,_⟩:=hhow.shape
 refine gS_ ?_
 refine S.al λb12 w12 S=>?_
 refine S.stB (b:=b12) λw13 S=>?_
 have S:StX noX w (r.or s) w13 [.cell b12 (tyL tf qr cr) 43,.cell b10 (tyL tb qb cb) 43,.cell b8 (tyL ta qa ca) 43,.cell b6 (tyL tt qt ct) 43,.cell b3 (ptL p z1 z2 z3 z4 z5 d1 d2 d3 d4 d5) 96]:=S
 have hpr:PtG (r.or s) (ptL p z1 z2 z3 z4 z5 d1 d2 d3 d4 d5) p:=hp0.up
 have ht2:TyG (r.or s) (tyV tt qt ct) tt:=ht2.up
 have ht5:TyG (r.or s) (tyV ta qa ca) ta:=ht5.up
 have ht8:TyG (r.or s) (tyV tb qb cb) tb:=ht8.up
 have ht11:TyG (r.or s) (tyV tf qr cr) tf:=ht11.up
 have hhow:SlG 1 (r.or s) yz (.slice vgp how.length vgc) how:=hhow.cells
 have hBto:(zm u.ss g.tys p.to).2.2=true→isB (zm u.ss g.tys p.to).1=true:=λho=>(kZ hf ho).is hf.few
 have hBa:(zs u.ss g.tys p.a).2=true→isB (zs u.ss g.tys p.a).1=true:=adP hf
 have hBf:(zm u.ss g.tys p.fr).2.2=true→isB (zm u.ss g.tys p.fr).1=true:=λho=>(kZ hf ho).is hf.few
 have ali:∀{a b:TyD}{va vb:Value}{w9:World}{L:List Asr}{K9:Value→World→Prop},isB a=true→isB b=true→StX noX w (r.or s) w9 L→TyG (r.or s) va a→TyG (r.or s) vb b→(∀w',Ext w9 w'→K9 (.bool (zN ya a b)) w')→zd Tryz.prog Tryz.yT #[va,vb] w9 K9:=λha hb S hva hvb hk=>by
  refine VF 48 ha hb S.holds hva hvb λw' e'=>?_
  have:=hk w' e'
  rw[zN,ha,hb]at this
  exact this
 refine gg_ ?_
 refine zh (λhop=>?_) (λhop=>?_)
 ·rw[ptG]at h
  simp only[hop,Int.reduceEq,if_false,if_true]at h
  refine S.ldB (b:=b3) ?_ rfl
  refine xx (f:={ to:=true,a:=true }) (by decide) (by decide) S.holds hpr λw14 e14=>?_
  have S:=S.go e14
  refine zg (c:=(zm u.ss g.tys p.to).2.2&&decide ((zm u.ss g.tys p.to).2.1<3)) (λ_ K2 hK2=>hK2) ?_
  refine zg (c:=(zs u.ss g.tys p.a).2) (λ_ K2 hK2=>hK2) ?_
  refine zr (c:=zN ya (zs u.ss g.tys p.a).1 (zm u.ss g.tys p.to).1) (λhb K2 hK2=>?_) λw15 e15=>h _ (S.go e15).ext
  simp only[gba]at hb
  obtain rfl:=htt hb.1.2.1
  obtain rfl:=hta hb.2
  refine S.ldB (b:=b8) ?_ rfl
  refine S.ldB (b:=b6) ?_ rfl
  exact ali (hBa hb.2) (hBto hb.1.2.1) S ht5 ht2 λw' e'=>hK2 _ e'
 refine gg_ ?_
 refine zh (λhop=>?_) (λhop=>?_)
 ·rw[ptG]at h
  simp only[hop,Int.reduceEq,if_false,if_true]at h
  refine S.ldB (b:=b3) ?_ rfl
  refine xx (f:={ to:=true,a:=true,b:=true,sign:=true }) (by decide) (by decide) S.holds hpr λw14 e14=>?_
  have S:=S.go e14
  refine gg_ ?_
  refine zn (c:=!((zm u.ss g.tys p.to).2.2&&decide ((zm u.ss g.tys p.to).2.1<3))) (λ_ K2 hK2=>by refine gg_ ?_;exact hK2) ?_
  refine zn (c:=!(zs u.ss g.tys p.a).2) (λ_ K2 hK2=>by refine gg_ ?_;exact hK2) ?_
  refine zn (c:=!(zs u.ss g.tys p.b).2) (λ_ K2 hK2=>by refine gg_ ?_;exact hK2) ?_
  refine c_b (λhc=>?_) (λhc=>?_)
  ·rw[bb4 hc,Bool.false_and]at h
   exact h _ S.ext
  rw[anz hc,Bool.true_and]at h
  simp only[Bool.or_eq_false_iff,Bool.not_eq_false',gba]at hc
  obtain⟨⟨⟨_,hto,_⟩,ha2⟩,hb2⟩:=hc
  obtain rfl:=htt hto
  obtain rfl:=hta ha2
  obtain rfl:=htb hb2
  refine gg_ ?_
  refine ahJ ?_
  refine c_b (λhs=>?_) (λhs=>?_)
  ·rw[if_pos hs]at h
   refine S.ldB (b:=b6) ?_ rfl
   refine zX S.holds λw15 e15=>?_
   have S:=S.go e15
   refine zr (c:=isK (zs u.ss g.tys p.a).1 1) (λ_ K2 hK2=>?_) λw16 e16=>?_
   ·refine S.ldB (b:=b8) ?_ rfl
    exact zX S.holds λw' e'=>hK2 _ e'
   have S:=S.go e16
   refine zr (c:=isK (zs u.ss g.tys p.b).1 1) (λ_ K2 hK2=>?_) λw17 e17=>?_
   ·refine S.ldB (b:=b10) ?_ rfl
    exact zX S.holds λw' e'=>hK2 _ e'
   have:=h _ (S.go e17).ext
   rw[← Bool.and_assoc]at this
   exact this
  rw[if_neg (by rw[hs];decide)]at h
  refine S.ldB (b:=b8) ?_ rfl
  refine zX S.holds λw15 e15=>?_
  have S:=S.go e15
  refine zr (c:=isK (zs u.ss g.tys p.b).1 1) (λ_ K2 hK2=>?_) λw16 e16=>?_
  ·refine S.ldB (b:=b10) ?_ rfl
   exact zX S.holds λw' e'=>hK2 _ e'
  have S:=S.go e16
  refine anK (e:=p.sign.toList == [61,61]) (n:=p.sign.toList == [33,61]) (x:=isK (zs u.ss g.tys p.a).1 2) (y:=isK (zs u.ss g.tys p.b).1 2) (λK2 hK2=>?_) (λK2 w1 e1 hK2=>?_) (λK2 w1 e1 hK2=>?_) (λK2 w1 e1 hK2=>?_) λw17 e17=>?_
  ·refine gg_ ?_
   exact hK2 _ (Ext.refl _)
  ·have S:=S.go e1
   refine gg_ ?_
   exact hK2 _ (by first|exact e1|exact Ext.refl _)
  ·have S:=S.go e1
   refine S.ldB (b:=b8) ?_ rfl
   exact zX S.holds λw' e'=>hK2 _ (e1.trans e')
  ·have S:=S.go e1
   refine S.ldB (b:=b10) ?_ rfl
   exact zX S.holds λw' e'=>hK2 _ (e1.trans e')
  have S:=S.go e17
  refine gg_ ?_
  refine aeS ?_
  refine zr (c:=isK (zm u.ss g.tys p.to).1 2) (λ_ K2 hK2=>?_) λw18 e18=>?_
  ·refine S.ldB (b:=b6) ?_ rfl
   exact zX S.holds λw' e'=>hK2 _ e'
  have S:=S.go e18
  refine zg (c:=(isK (zs u.ss g.tys p.a).1 1&&isK (zs u.ss g.tys p.b).1 1)||(((p.sign.toList == [61,61]||p.sign.toList == [33,61])&&isK (zs u.ss g.tys p.a).1 2)&&isK (zs u.ss g.tys p.b).1 2)) (λ_ K2 hK2=>hK2) ?_
  have:=h _ S.ext
  rw[← anL (t1:=true),← Bool.and_assoc ((p.sign.toList == [61,61])||(p.sign.toList == [33,61]))]at this
  exact this
 refine gg_ ?_
 refine zh (λhop=>?_) (λhop=>?_)
 ·rw[ptG]at h
  simp only[hop,Int.reduceEq,if_false,if_true]at h
  refine S.ldB (b:=b3) ?_ rfl
  refine xx (f:={ to:=true,a:=true,sign:=true }) (by decide) (by decide) S.holds hpr λw14 e14=>?_
  have S:=S.go e14
  refine zg (c:=(zm u.ss g.tys p.to).2.2&&decide ((zm u.ss g.tys p.to).2.1<3)) (λ_ K2 hK2=>hK2) ?_
  refine zg (c:=(zs u.ss g.tys p.a).2) (λ_ K2 hK2=>hK2) ?_
  rw[← aop]at h
  cases hb:((zE p { to:=true,a:=true,sign:=true } && ((zm u.ss g.tys p.to).2.2&&decide ((zm u.ss g.tys p.to).2.1<3)))&&(zs u.ss g.tys p.a).2)with
  |false=>
   rw[hb,Bool.false_and]at h
   (intro K9 hK9;refine gd_ ?_;refine hK9 _ _ λ_=>?_;clear hK9 K9)
   (intro K9 hK9;refine gd_ ?_;refine hK9 _ _ λ_=>?_;clear hK9 K9)
   (intro K9 hK9;refine gd_ ?_;refine hK9 _ _ λ_=>?_;clear hK9 K9)
   (intro K9 hK9;refine gd_ ?_;refine hK9 _ _ λ_=>?_;clear hK9 K9)
   (intro K9 hK9;refine gd_ ?_;refine hK9 _ _ λ_=>?_;clear hK9 K9)
   (intro K9 hK9;refine gd_ ?_;refine hK9 _ _ λ_=>?_;clear hK9 K9)
   (intro K9 hK9;refine gd_ ?_;refine hK9 _ _ λ_=>?_;clear hK9 K9)
   (intro K9 hK9;refine gd_ ?_;refine hK9 _ _ λ_=>?_;clear hK9 K9)
   (intro K9 hK9;refine gd_ ?_;refine hK9 _ _ λ_=>?_;clear hK9 K9)
   (intro K9 hK9;refine gd_ ?_;refine hK9 _ _ λ_=>?_;clear hK9 K9)
   (intro K9 hK9;refine gd_ ?_;refine hK9 _ _ λ_=>?_;clear hK9 K9)
   refine gd_ ?_
   exact h _ S.ext
  |true=>
   rw[hb]at h
   simp only[gba]at hb
   obtain rfl:=htt hb.1.2.1
   obtain rfl:=hta hb.2
   refine amN (m:=p.sign.toList == [45]) (x:=isK (zm u.ss g.tys p.to).1 1) (y:=isK (zs u.ss g.tys p.a).1 1) (o:=p.sign.toList == [33]) (u:=isK (zm u.ss g.tys p.to).1 2) (v:=isK (zs u.ss g.tys p.a).1 2) (λK2 hK2=>?_) (λK2 w1 e1 hK2=>?_) (λK2 w1 e1 hK2=>?_) (λK2 w1 e1 hK2=>?_) (λK2 w1 e1 hK2=>?_) (λK2 w1 e1 hK2=>?_) λw17 e17=>h _ (S.go e17).ext
   ·refine gg_ ?_
    exact hK2 _ (Ext.refl _)
   ·have S:=S.go e1
    refine S.ldB (b:=b6) ?_ rfl
    exact zX S.holds λw' e'=>hK2 _ (e1.trans e')
   ·have S:=S.go e1
    refine S.ldB (b:=b8) ?_ rfl
    exact zX S.holds λw' e'=>hK2 _ (e1.trans e')
   ·have S:=S.go e1
    refine gg_ ?_
    exact hK2 _ (by first|exact e1|exact Ext.refl _)
   ·have S:=S.go e1
    refine S.ldB (b:=b6) ?_ rfl
    exact zX S.holds λw' e'=>hK2 _ (e1.trans e')
   ·have S:=S.go e1
    refine S.ldB (b:=b8) ?_ rfl
    exact zX S.holds λw' e'=>hK2 _ (e1.trans e')
 have h8:∀k,(ze u.ss k).length≤8:=xV (yU hst).2.1
 have h32:=hf.few
 have inn:∀{t:TyD}{q:Option Addr}{cap:Nat},TyG (r.or s) (tyV t q cap) t→(∃k,t.k=k∧(k=3∨k=4))→Fine u.ss t→∃uu bo oo q2 cap2,t.of=[uu]∧q=some ⟨bo,oo,none⟩∧isB uu=true∧TyG (r.or s) (tyV uu q2 cap2) uu∧∀j v,(tyL uu q2 cap2)[j]? = some v→Ob (r.or s) λw=>w.cell? ⟨bo,oo+j,none⟩=some v:=λht hk hfi=>by
  obtain⟨k,hk1,hk2⟩:=hk
  rcases hfi.cases with⟨_,h1⟩|⟨uu,h1,h2,_⟩
  ·omega
  ·obtain⟨bo,oo,q2,cap2,rfl,ht2,hcc⟩:=Zs ht h1
   exact⟨uu,bo,oo,q2,cap2,h1,rfl,h2.is h32,ht2,hcc⟩
 refine gg_ ?_
 refine zh (λhop=>?_) (λhop=>?_)
 ·rw[ptG]at h
  simp only[hop,Int.reduceEq,if_false,if_true]at h
  have S:=S.go (Ext.drew _)
  refine S.ldB (b:=b3) ?_ rfl
  refine xx (f:={ to:=true,fr:=true,mu:=true }) (by decide) (by decide) S.holds hpr λw14 e14=>?_
  have S:=S.go e14
  refine zg (c:=(zm u.ss g.tys p.to).2.2&&decide ((zm u.ss g.tys p.to).2.1<3)) (λ_ K2 hK2=>hK2) ?_
  refine zg (c:=(zm u.ss g.tys p.fr).2.2) (λ_ K2 hK2=>hK2) ?_
  refine zr (c:=isK (zm u.ss g.tys p.to).1 4) (λhb K2 hK2=>?_) λw15 e15=>?_
  ·simp only[gba]at hb
   obtain rfl:=htt hb.1.2.1
   refine S.ldB (b:=b6) ?_ rfl
   exact zX S.holds λw' e'=>hK2 _ e'
  have S:=S.go e15
  refine zg (c:=(zm u.ss g.tys p.to).1.m == p.mu) (λhb K2 hK2=>?_) ?_
  ·simp only[gba]at hb
   obtain rfl:=htt hb.1.1.2.1
   refine gg_ ?_
   exact hK2
  refine zr (c:=zN ya ((zm u.ss g.tys p.to).1.of.headD zI) (zm u.ss g.tys p.fr).1) (λhb K2 hK2=>?_) λw16 e16=>?_
  ·simp only[gba]at hb
   have hto:=hb.1.1.1.2.1
   have hfr:=hb.1.1.2
   have hk4:(zm u.ss g.tys p.to).1.k=4:=by have:=hb.1.2;simpa [isK]using this
   obtain rfl:=htt hto
   have hff:=htf hfr
   have htfe:(zm u.ss g.tys p.fr).1=tf:=by rw[hff]
   have hBf:=hBf hfr
   rw[htfe]at hBf hK2
   obtain⟨uu,bo,oo,q2,cap2,hof,rfl,hBu,htu,hcc⟩:=inn ht2 ⟨_,hk4,.inr rfl⟩ (kZ hf hto)
   rw[hof]at hK2
   have hl1:(zm u.ss g.tys p.to).1.of.length=1:=by rw[hof];rfl
   refine gg_ ?_
   refine zo (n:=5) (c:=tyL uu q2 cap2) rfl (λj v hj=>by simpa using S.at (hcc j v hj)) ?_
   refine S.ldB (b:=b12) ?_ rfl
   exact ali hBu hBf S htu ht11 λw' e'=>hK2 _ e'
  have S:=S.go e16
  refine amO (m:=!p.mu) (x:=decide (yQ 0 how<3)) (λK2 hK2=>by refine gg_ ?_;exact hK2) (λ_ K2 hK2=>?_) λw17 e17=>?_
  ·refine Zv S.holds hhow (by omega) λw7 e7=>?_
   refine gp_ ?_
   exact hK2 _ e7
  have:=h _ (S.go e17).ext
  rw[Bool.beq_eq_decide_eq,Bool.and_assoc]
  cases hfr:(zm u.ss g.tys p.fr).2.2 with
  |false=>
   rw[hfr]at this
   simp only[Bool.and_false,Bool.false_and]at this⊢
   exact this
  |true=>
   have hm3:=akF hst hf hfr
   have hff:=htf hfr
   have e1:(zm u.ss g.tys p.fr).2.1=yQ 0 how:=by rw[hff]
   rw[e1]at hm3
   rw[hfr,e1]at this
   have e2:(!(p.mu&&decide (yQ 0 how=3)))=(!p.mu||decide (yQ 0 how<3)):=by
    rw[Bool.not_and,← decide_not]
    congr 1
    exact decide_eq_decide.2 (by omega)
   rw[e2]at this
   exact this
 refine gg_ ?_
 refine zh (λhop=>?_) (λhop=>?_)
 ·rw[ptG]at h
  simp only[hop,Int.reduceEq,if_false,if_true]at h
  have S:=S.go (Ext.drew _)
  refine S.ldB (b:=b3) ?_ rfl
  refine xx (f:={ to:=true,a:=true }) (by decide) (by decide) S.holds hpr λw14 e14=>?_
  have S:=S.go e14
  refine zg (c:=(zm u.ss g.tys p.to).2.2&&decide ((zm u.ss g.tys p.to).2.1<3)) (λ_ K2 hK2=>hK2) ?_
  refine zg (c:=(zs u.ss g.tys p.a).2) (λ_ K2 hK2=>hK2) ?_
  refine zr (c:=isK (zm u.ss g.tys p.to).1 3) (λhb K2 hK2=>?_) λw15 e15=>?_
  ·simp only[gba]at hb
   obtain rfl:=htt hb.1.2.1
   refine S.ldB (b:=b6) ?_ rfl
   exact zX S.holds λw' e'=>hK2 _ e'
  have S:=S.go e15
  refine zr (c:=zN ya ((zm u.ss g.tys p.to).1.of.headD zI) (zs u.ss g.tys p.a).1) (λhb K2 hK2=>?_) λw16 e16=>h _ (S.go e16).ext
  simp only[gba]at hb
  have hto:=hb.1.1.2.1
  have ha2:=hb.1.2
  have hk3:(zm u.ss g.tys p.to).1.k=3:=by have:=hb.2;simpa [isK]using this
  obtain rfl:=htt hto
  obtain rfl:=hta ha2
  obtain⟨uu,bo,oo,q2,cap2,hof,rfl,hBu,htu,hcc⟩:=inn ht2 ⟨_,hk3,.inl rfl⟩ (kZ hf hto)
  rw[hof]at hK2
  have hl1:(zm u.ss g.tys p.to).1.of.length=1:=by rw[hof];rfl
  refine gg_ ?_
  refine zo (n:=5) (c:=tyL uu q2 cap2) rfl (λj v hj=>by simpa using S.at (hcc j v hj)) ?_
  refine S.ldB (b:=b8) ?_ rfl
  exact ali hBu (hBa ha2) S htu ht5 λw' e'=>hK2 _ e'
 refine gg_ ?_
 refine zh (λhop=>?_) (λhop=>?_)
 ·rw[ptG]at h
  simp only[hop,Int.reduceEq,if_false,if_true]at h
  refine S.ldB (b:=b3) ?_ rfl
  refine xx (f:={ to:=true,args:=true,st:=true }) (by decide) (by decide) S.holds hpr λw14 e14=>?_
  have S:=S.go e14
  refine gg_ ?_
  refine zn (c:=!((zm u.ss g.tys p.to).2.2&&decide ((zm u.ss g.tys p.to).2.1<3))) (λ_ K2 hK2=>by refine gg_ ?_;exact hK2) ?_
  refine yZ (c:=!isK (zm u.ss g.tys p.to).1 5) (λhb K2 hK2=>?_) λw15 e15=>?_
  ·simp only[Bool.or_eq_false_iff,Bool.not_eq_false',gba]at hb
   obtain rfl:=htt hb.2.1
   refine S.ldB (b:=b6) ?_ rfl
   refine zX S.holds λw' e'=>?_
   refine gp_ ?_
   exact hK2 _ e'
  have S:=S.go e15
  refine zn (c:=decide ((zm u.ss g.tys p.to).1.st≠p.st)) (λhb K2 hK2=>?_) ?_
  ·simp only[Bool.or_eq_false_iff,Bool.not_eq_false',gba]at hb
   obtain rfl:=htt hb.1.2.1
   refine gg_ ?_
   exact hK2
  refine c_b (λhc=>?_) (λhc=>?_)
  ·rw[bb3 hc,Bool.false_and]at h
   exact h _ S.ext
  rw[anA hc,Bool.true_and]at h
  simp only[Bool.or_eq_false_iff,Bool.not_eq_false',gba,decide_eq_false_iff_not]at hc
  obtain⟨⟨⟨_,hto,_⟩,hk5⟩,hste⟩:=hc
  obtain rfl:=htt hto
  have S:=S.go (Ext.drew _)
  refine gg_ ?_
  refine zf (ld (i:=0) S rfl) ?_
  refine S.ldB (b:=b6) ?_ rfl
  refine aez S.holds hss.up (by omega) (λk=>by have:=h8 k;omega) ht2 λqx cx sn w16 e16 n16 hts=>?_
  obtain⟨S,_,_⟩:=S.tell e16 n16
  refine gS_ ?_
  refine gg_ ?_
  have hfb:∀t∈(yr u.ss (zm u.ss g.tys p.to).1).1,isB t=true:=λt ht=>by
   rw[yr]at ht
   split at ht
   ·exact Fine.is (ss:=u.ss) (hf.good _ t ht) h32
   ·cases ht
  have hfl8:(yr u.ss (zm u.ss g.tys p.to).1).1.length≤8:=by
   rw[yr]
   split
   ·exact h8 _
   ·simp
  refine aaE (l:=p.args) S.holds hx0.up hst hf (k4.sl.up' inferInstance λc x hx=>OpG.up hx) k4.few (TysG.up hts) (by simp only[maxLen];omega) hfb λw17 e17=>?_
  exact h _ (S.go e17).ext
 refine gg_ ?_
 refine zh (λhop=>?_) (λhop=>?_)
 ·rw[ptG]at h
  simp only[hop,Int.reduceEq,if_false,if_true]at h
  have S:=S.go (Ext.drew _)
  refine S.ldB (b:=b3) ?_ rfl
  refine xx (f:={ to:=true,args:=true,fn:=true }) (by decide) (by decide) S.holds hpr λw14 e14=>?_
  have S:=S.go e14
  refine gg_ ?_
  refine zn (c:=!((zm u.ss g.tys p.to).2.2&&decide ((zm u.ss g.tys p.to).2.1<3))) (λ_ K2 hK2=>by refine gg_ ?_;exact hK2) ?_
  refine zn (c:=decide (p.fn<0)) (λ_ K2 hK2=>by refine gg_ ?_;exact hK2) ?_
  refine zn (c:=decide ((u.fs.length:Int)≤p.fn)) (λ_ K2 hK2=>?_) ?_
  ·refine gg_ ?_
   refine zf (ld (i:=1) S rfl) ?_
   refine gg_ ?_
   exact hK2
  refine c_b (λhc=>?_) (λhc=>?_)
  ·rw[bb5 hc,Bool.false_and]at h
   exact h _ S.ext
  rw[anB hc,Bool.true_and]at h
  simp only[Bool.or_eq_false_iff,Bool.not_eq_false',gba,decide_eq_false_iff_not]at hc
  obtain⟨⟨⟨_,hto,_⟩,hfn0⟩,hfn1⟩:=hc
  obtain rfl:=htt hto
  have hltf:p.fn.toNat<u.fs.length:=by omega
  rw[gqg hltf]at h
  dsimp only at h
  obtain⟨hpn0,hpn1,hff⟩:=hfs _ (gem hltf)
  obtain⟨bf,of,cf,rfl,hcf,hgc,hfo⟩:=hfn.sl.get (by decide) hltf
  generalize u.fs[p.fn.toNat]=f at h hpn0 hpn1 hff hgc
  obtain⟨vo,vt,vn,vp,rfl,m1,m2,m3,m4⟩:=hgc
  obtain⟨qo,capo,rfl,_,_⟩:=m1.sl.shape
  obtain⟨qt2,capt2,rfl,_,hct2⟩:=m2.sl.shape
  obtain⟨qn,capn,rfl,_,_⟩:=m3.sl.shape
  obtain⟨qp,capp,rfl,_,_⟩:=m4.sl.shape
  have hml:=m2.few
  have hml':f.tys.length≤9223372036854775807:=hml
  have S:=S.go (Ext.drew _)
  refine gg_ ?_
  refine zf (ld (i:=1) S rfl) ?_
  refine gg_ ?_
  refine zo (n:=7) hcf (λj v hj=>S.at (hfo j v hj)) ?_
  refine S.alU λb18 w15 S=>?_
  refine S.stB (b:=b18) λw16 S=>?_
  have S:=S.go (Ext.drew _)
  refine gg_ ?_
  have hlen:(f.pn+1).toNat-(1:Int).toNat=((f.tys.drop 1).take f.pn.toNat).length:=by rw[List.length_take,List.length_drop];omega
  rw[hlen]
  have hsub:=(vV m2.sl).sub (a:=(1:Int).toNat) (n:=f.pn.toNat) (cap:=capt2) hct2
  have hlst:(f.tys.drop (1:Int).toNat).take f.pn.toNat=(f.tys.drop 1).take f.pn.toNat:=rfl
  rw[hlst]at hsub
  generalize (if capt2=(1:Int).toNat then qt2 else qt2.map (·.add ((1:Int).toNat*5)))=qs2 at hsub⊢
  have hpb:∀t∈(f.tys.drop 1).take f.pn.toNat,isB t=true:=λt ht=>(hff.all t (List.mem_of_mem_drop (List.mem_of_mem_take ht))).is h32
  refine aaE (l:=p.args) S.holds hx0.up hst hf (k4.sl.up' inferInstance λc x hx=>OpG.up hx) k4.few (TysG.up hsub) (by rw[List.length_take,List.length_drop];omega) hpb λw17 e17=>?_
  have S:=S.go e17
  have hpos:0<f.tys.length:=by omega
  have hhd:f.tys.headD zI=f.tys[0]:=by rw[List.headD_eq_head?_getD,List.head?_eq_getElem?,gqg hpos,Option.getD_some]
  rw[hhd]at h
  refine zr (c:=zN ya (zm u.ss g.tys p.to).1 f.tys[0]) (λ_ K2 hK2=>?_) λw18 e18=>?_
  ·obtain⟨bt,ot,ct3,rfl,hct3,htc,hto3⟩:=vV m2.sl 0 hpos
   obtain⟨q9,cap9,rfl,ht9⟩:=yj hto3
   refine S.ldB (b:=b6) ?_ rfl
   refine gg_ ?_
   refine zo (n:=5) hct3 (λj v hj=>by simpa using S.at (htc j v hj)) ?_
   exact ali (hBto hto) ((hff.all _ (gem hpos)).is h32) S ht2 ht9.up λw' e'=>hK2 _ e'
  have:=h _ (S.go e18).ext
  rw[Bool.and_comm]at this
  exact this
 refine gg_ ?_
 refine zh (λhop=>?_) (λhop=>?_)
 ·rw[ptG]at h
  simp only[hop,Int.reduceEq,if_false,if_true]at h
  refine S.ldB (b:=b3) ?_ rfl
  refine xx (f:={ to:=true }) (by decide) (by decide) S.holds hpr λw14 e14=>?_
  have S:=S.go e14
  refine zg (c:=(zm u.ss g.tys p.to).2.2&&decide ((zm u.ss g.tys p.to).2.1<3)) (λ_ K2 hK2=>hK2) ?_
  refine zr (c:=isK (zm u.ss g.tys p.to).1 1) (λhb K2 hK2=>?_) λw15 e15=>h _ (S.go e15).ext
  simp only[gba]at hb
  obtain rfl:=htt hb.2.1
  refine S.ldB (b:=b6) ?_ rfl
  exact zX S.holds λw' e'=>hK2 _ e'
 refine gg_ ?_
 refine zh (λhop=>?_) (λhop=>?_)
 ·rw[ptG]at h
  simp only[hop,Int.reduceEq,if_false,if_true]at h
  refine S.ldB (b:=b3) ?_ rfl
  refine xx (f:={ a:=true }) (by decide) (by decide) S.holds hpr λw14 e14=>?_
  have S:=S.go e14
  refine zg (c:=(zs u.ss g.tys p.a).2) (λ_ K2 hK2=>hK2) ?_
  refine zr (c:=isK (zs u.ss g.tys p.a).1 1) (λhb K2 hK2=>?_) λw15 e15=>h _ (S.go e15).ext
  simp only[gba]at hb
  obtain rfl:=hta hb.2
  refine S.ldB (b:=b8) ?_ rfl
  exact zX S.holds λw' e'=>hK2 _ e'
 refine gg_ ?_
 refine zh (λhop=>?_) (λhop=>?_)
 ·rw[ptG]at h
  simp only[hop,Int.reduceEq,if_false,if_true]at h
  have S:=S.go (Ext.drew _)
  refine gg_ ?_
  refine zf (ld (i:=0) S rfl) ?_
  refine S.ldB (b:=b12) ?_ rfl
  refine Vy S.holds hss.up (by omega) (λk=>by have:=h8 k;omega) ht11 λw14 e14=>?_
  have S:=S.go e14
  refine gS_ ?_
  refine S.ldB (b:=b3) ?_ rfl
  refine xx (f:={ fr:=true }) (by decide) (by decide) S.holds hpr λw15 e15=>?_
  have S:=S.go e15
  refine zg (c:=(zm u.ss g.tys p.fr).2.2) (λ_ K2 hK2=>hK2) ?_
  refine zg (c:=(yw u.ss tf).1) (λ_ K2 hK2=>hK2) ?_
  refine zr (c:=decide (yQ 0 how<2)) (λ_ K2 hK2=>?_) λw16 e16=>?_
  ·refine Zv S.holds hhow (by omega) λw7 e7=>?_
   refine gp_ ?_
   exact hK2 _ e7
  have:=h _ (S.go e16).ext
  cases hfr:(zm u.ss g.tys p.fr).2.2 with
  |false=>
   rw[hfr]at this
   simp only[Bool.and_false,Bool.false_and]at this⊢
   exact this
  |true=>
   rw[htf hfr]at this
   exact this
 refine gg_ ?_
 refine zh (λhop=>?_) (λhop=>?_)
 ·rw[ptG]at h
  simp only[hop,Int.reduceEq,if_false,if_true]at h
  refine S.ldB (b:=b3) ?_ rfl
  refine xx (f:={ fr:=true }) (by decide) (by decide) S.holds hpr λw14 e14=>?_
  have S:=S.go e14
  refine zg (c:=(zm u.ss g.tys p.fr).2.2) (λ_ K2 hK2=>hK2) ?_
  refine zg (c:=decide (0<p.fr.l)) (λ_ K2 hK2=>by refine gg_ ?_;exact hK2) ?_
  refine zg (c:=decide (p.fr.ps.length=0)) (λ_ K2 hK2=>?_) (h _ S.ext)
  refine gg_ ?_
  rw[decide_eq_decide.2 (qk p.fr.ps.length)]
  exact hK2
 refine gg_ ?_
 refine zh (λhop=>?_) (λhop=>?_)
 ·rw[ptG]at h
  simp only[hop,Int.reduceEq,if_false,if_true]at h
  refine S.ldB (b:=b3) ?_ rfl
  refine xx (f:={ a:=true,el:=true }) (by decide) (by decide) S.holds hpr λw14 e14=>?_
  have S:=S.go e14
  refine zg (c:=(zs u.ss g.tys p.a).2) (λ_ K2 hK2=>hK2) ?_
  refine zr (c:=isK (zs u.ss g.tys p.a).1 2) (λhb K2 hK2=>?_) λw15 e15=>?_
  ·simp only[gba]at hb
   obtain rfl:=hta hb.2
   refine S.ldB (b:=b8) ?_ rfl
   exact zX S.holds λw' e'=>hK2 _ e'
  have S:=S.go e15
  refine zg (c:=decide (0≤p.el)) (λ_ K2 hK2=>by refine gg_ ?_;exact hK2) ?_
  refine zg (c:=decide (p.el<(g.pts.length:Int))) (λ_ K2 hK2=>by refine gg_ ?_;exact hK2) ?_
  have:=h _ S.ext
  rw[ZW,← Bool.and_assoc]at this
  exact this
 intro K11 hK11
 refine gg_ ?_
 refine qd (c:=decide (p.op=14)) (hK11 _ _ λ_=>?_) λ_ hk=>?_
 rotate_left
 ·refine gg_ ?_;exact hk
 simp only[gdz]
 rw[ptG]at h
 rw[if_neg (by omega),if_neg (by omega),if_neg (by omega),if_neg (by omega),if_neg (by omega),if_neg (by omega),if_neg (by omega),if_neg (by omega),if_neg (by omega),if_neg (by omega),if_neg (by omega),if_neg (by omega)]at h
 refine c_b (λhh=>?_) (λhh=>?_)
 ·have hh:p.op=13∨p.op=14:=by simpa using hh
  rw[if_pos hh]at h
  refine S.ldB (b:=b3) ?_ rfl
  refine xx (f:={}) (by decide) (by decide) S.holds hpr λw14 e14=>?_
  exact h _ (S.go e14).ext
 ·have hh:¬(p.op=13∨p.op=14):=by simpa using hh
  rw[if_neg hh]at h
  exact h _ S.ext
end
end Go.Proofs
namespace Go.Sh
theorem alS{w:World}{b x y z:Bool}{A1:(List Value→World→Prop)→Prop}{A2 A3:(List Value→World→Prop)→World→Prop}{Z:Value→World→Prop}
  (h1:b=true→∀K:List Value→World→Prop,K [.bool x] w→A1 K) (h2:b=true→∀K:List Value→World→Prop,K [.bool y] w→A2 K w) (h3:b=true→∀K:List Value→World→Prop,K [.bool z] w→A3 K w)
  (hZ:Z (.bool (b&&(x||(y&&z)))) w):
  za (λK=>gIf (.bool b) true (A1 K) (K [u_] w)) λs80 _ w82=>
   za (λK=>gIf (s80.getD 0 u_) false (A2 K w82) (K [u_] w82)) λs84 _ w86=>
    za (λK=>gIf (s84.getD 0 u_) true (A3 K w86) (K [u_] w86)) λs88 _ w90=>
     za (λK=>gIf (s80.getD 0 u_) false (zb (s84.getD 0 u_) (s88.getD 0 u_) (.bool false) λt=>K [t] w90) (K [u_] w90)) λs92 _ w94=>
      za (λK=>gIf (.bool b) true (zb (s80.getD 0 u_) (.bool true) (s92.getD 0 u_) λt=>K [t] w94) (K [u_] w94)) λs96 _ w98=>
       zb (.bool b) (s96.getD 0 u_) (.bool false) λt=>Z t w98:=by
 cases b<;>cases x<;>cases y<;>cases z <;>
  (iterate 5 (intro K hK;first|refine hK _ _ λ_=>?_|refine h1 rfl _ (hK _ _ λ_=>?_)|refine h2 rfl _ (hK _ _ λ_=>?_)|refine h3 rfl _ (hK _ _ λ_=>?_)|refine ⟨_,rfl,hK _ _ λ_=>?_⟩)) <;>
  exact⟨_,rfl,by simpa using hZ⟩
theorem anM{w:World}{b c d e:Bool}{A1:(List Value→World→Prop)→Prop}{A2 A3:(List Value→World→Prop)→World→Prop}{Z:Value→World→Prop}
  (h1:∀K:List Value→World→Prop,K [.bool c] w→A1 K) (h2:∀K:List Value→World→Prop,K [.bool d] w→A2 K w) (h3:∀K:List Value→World→Prop,K [.bool e] w→A3 K w)
  (hZ:Z (.bool (b||((c&&d)&&e))) w):
  za (λK=>gIf (.bool b) false (A1 K) (K [u_] w)) λs153 _ w155=>
   za (λK=>gIf (s153.getD 0 u_) true (A2 K w155) (K [u_] w155)) λs157 _ w159=>
    za (λK=>gIf (.bool b) false (zb (s153.getD 0 u_) (s157.getD 0 u_) (.bool false) λt=>K [t] w159) (K [u_] w159)) λs161 _ w163=>
     za (λK=>gIf (s161.getD 0 u_) true (A3 K w163) (K [u_] w163)) λs165 _ w167=>
      za (λK=>gIf (.bool b) false (zb (s161.getD 0 u_) (s165.getD 0 u_) (.bool false) λt=>K [t] w167) (K [u_] w167)) λs169 _ w171=>
       zb (.bool b) (.bool true) (s169.getD 0 u_) λt=>Z t w171:=by
 cases b<;>cases c<;>cases d<;>cases e <;>
  (iterate 5 (intro K hK;first|refine hK _ _ λ_=>?_|refine h1 _ (hK _ _ λ_=>?_)|refine h2 _ (hK _ _ λ_=>?_)|refine h3 _ (hK _ _ λ_=>?_)|refine ⟨_,rfl,hK _ _ λ_=>?_⟩)) <;>
  exact⟨_,rfl,by simpa using hZ⟩
end Go.Sh
namespace Go.Proofs
open Go.Sh
theorem ahN{bt:Nat}{M:List Asr}{w0:World}{r:Gh}{t:TyD}{v:Value}{f:Nat→Nat→Bool}{w:World}{K:Value→World→Prop}(hv:TyG r v t)(hx:∀x∈regsT t,0≤x∧x<8)
  (S:StX noX w0 r w (.cell bt (zP f) 296::M))
  (h:∀w',StX noX w0 r w' (.cell bt (zP (J6 f (regsT t))) 296::M)→K (.tuple #[]) w'):zd Tryz.prog Tryz.Xw #[v,.pointer (some ⟨bt,0,none⟩)] w K:=by
 refine Tryz.agb ?_
 unfold Tryz.aax
 have hv0:=hv
 obtain⟨p1,cap1,rfl,_⟩:=hv
 refine S.box λb2 w1 S=>?_
 have S:StX noX w0 r w1 (.cell b2 (tyL t p1 cap1) 43::.cell bt (zP f) 296::M):=S
 refine S.ldB (b:=b2) ?_ rfl
 refine Qu S.holds hv0 λv7 w7 e7 o7=>?_
 obtain⟨s1,p7,cap7,n7,nb7,rfl,_,hc7,hs7⟩:=ag8 o7
 have S:=(S.new e7 n7).tl
 have hr48:(regsT t).length≤1000:=by
  rw[regsT];split
  ·have:=jo (by assumption);omega
  ·simp
 generalize regsT t=l at hx h hs7 hr48⊢
 refine zj (ι:=Nat×(Nat→Nat→Bool)) (λi=>[.int .i64 (i.1:Nat)]) (λi w'=>i.1≤l.length∧(∀x y:Nat,J6 i.2 (l.drop i.1) x y=J6 f l x y)∧StX noX w0 (r.or s1) w' (.cell bt (zP i.2) 296::M)) (λi=>l.length-i.1) (0,f) rfl ⟨gzl _,λx y=>rfl,S⟩ ?_
 clear S
 rintro⟨i,g⟩ d w2 ⟨hi,hbit,S⟩ K3 hK3
 simp only at hi hbit S⊢
 rw[gdz]
 refine gg_ ?_
 refine zh (λhlt=>?_) (λhge=>?_)
 rotate_left
 ·have hie:i=l.length:=by omega
  refine h _ ?_
  have e:zP g=zP (J6 f l):=yO λx y _ _=>by
   have:=hbit x y
   rw[hie,List.drop_length]at this
   rw[← this]
   show g x y=(g x y||qw x y [])
   rw[qw,Bool.or_false]
  rw[← e]
  exact S.to r
 have hlt:i<l.length:=by omega
 have hdrop:l.drop i=l[i]::l.drop (i+1):=List.drop_eq_getElem_cons hlt
 obtain⟨ha0,ha8⟩:=hx _ (gem hlt)
 obtain⟨bq,oq,rfl,hxi⟩:=ajC hs7 (S.holds.le (h:=inferInstance)) hlt
 generalize hai:l[i]=a at hdrop ha0 ha8 hxi
 have hrl:(l.drop (i+1)).length=l.length-(i+1):=List.length_drop
 refine gg_ ?_
 refine zj (ι:=Nat) (λj=>[.int .i64 ((i:Int)+1+(j:Nat))]) (λj w'=>j≤(l.drop (i+1)).length∧StX noX w0 (r.or s1) w' (.cell bt (zP (YK g a ((l.drop (i+1)).take j))) 296::M)) (λj=>(l.drop (i+1)).length-j) 0 (by simp) ⟨gzl _,by
  rw[yO (f:=YK g a ((l.drop (i+1)).take 0)) (g:=g) (λx y _ _=>by simp[YK])]
  exact S⟩ ?_
 clear S
 rintro j d w3 ⟨hj,S⟩ K7 hK7
 rw[gdz]
 refine gg_ ?_
 refine zh (λhlt2=>?_) (λhge2=>?_)
 ·have hlt2:j<(l.drop (i+1)).length:=by omega
  have hlt3:i+1+j<l.length:=by omega
  have hel:(l.drop (i+1))[j]=l[i+1+j]:=List.getElem_drop
  obtain⟨bk,ok,hbe,hxk⟩:=ajC hs7 (S.holds.le (h:=inferInstance)) hlt3
  cases hbe
  obtain⟨hi0,hi8⟩:=hx _ (gem hlt3)
  have S:=S.go (Ext.drew _)
  rw[show ((i:Int)+1+(j:Nat))=((i+1+j:Nat):Int)by omega]
  refine gg_ ?_
  refine zf (by rw[tnc];exact S.at hxk) ?_
  refine gg_ ?_
  refine zf (by simpa using S.at hxi) ?_
  refine gg_ ?_
  refine S.st (b:=bt) (λw4 S=>?_) (by rw[vA];omega)
  refine gg_ ?_
  rw[show (((i+1+j:Nat):Int)+1)=((i:Int)+1+((j+1:Nat):Int))by omega]
  refine hK7 (j+1) _ ⟨hlt2,?_⟩ (by omega)
  rw[show 0+l[i+1+j].toNat*8+a.toNat*1=l[i+1+j].toNat*8+a.toNat by omega,J4 (by omega) (by omega)]at S
  rw[yO (f:=YK g a ((l.drop (i+1)).take (j+1))) (g:=λx y=>YK g a ((l.drop (i+1)).take j) x y||(decide (x=l[i+1+j].toNat)&&decide (y=a.toNat))) (λx y _ _=>by
   show(g x y||(decide (a=(y:Int))&&((l.drop (i+1)).take (j+1)).contains (x:Int)))=((g x y||(decide (a=(y:Int))&&((l.drop (i+1)).take j).contains (x:Int)))||(decide (x=l[i+1+j].toNat)&&decide (y=a.toNat)))
   rw[aht hlt2,hel,show decide ((x:Int)=l[i+1+j])=decide (x=l[i+1+j].toNat)from decide_eq_decide.2 (by omega),show decide (a=(y:Int))=decide (y=a.toNat)from decide_eq_decide.2 (by omega)]
   cases g x y<;>cases decide (y=a.toNat)<;>cases ((l.drop (i+1)).take j).contains (x:Int)<;>cases decide (x=l[i+1+j].toNat)<;>rfl)]
  exact S
 ·have hje:j=(l.drop (i+1)).length:=by omega
  rw[hje,List.take_length]at S
  refine gg_ ?_
  rw[show ((i:Int)+1)=((i+1:Nat):Int)by omega]
  refine hK3 (i+1,YK g a (l.drop (i+1))) _ ⟨hlt,λx y=>?_,S⟩ (by simp only;omega)
  rw[← hbit x y,hdrop]
  show((g x y||(decide (a=(y:Int))&&(l.drop (i+1)).contains (x:Int)))||qw x y (l.drop (i+1)))=(g x y||qw x y (a::l.drop (i+1)))
  rw[afy,Bool.or_assoc]
section
variable {u:UnD} {v:Value} {w:World} {r:Gh} {K:Value→World→Prop}
theorem ahO{i:Nat}{K:Value→World→Prop}(hi:i<u.fs.length)(hok:(zx u.ss).2=0)(hr:Holds r w)(hu:UnG r v u)
  (h:∀w',Ext w w'→K (.bool (xf u i u.fs[i])) w'):zd Tryz.prog Tryz.Xv #[v,.int .i64 (i:Nat)] w K:=by
 obtain⟨p0,cap0,vf,rfl,_,_,hst,hsl,hfn⟩:=hu
 obtain⟨qf,capf,rfl,_,_⟩:=hfn.sl.shape
 obtain⟨bf,of,cf,rfl,hcf,hgc,hfo⟩:=hfn.sl.get (by decide) hi
 have hfl:u.fs.length≤9223372036854775807:=hfn.few
 refine Tryz.aga ?_
 unfold Tryz.aaw
 generalize hgi:u.fs[i]=g at h hgc
 obtain⟨vo,vt,vn,vp,rfl,h1,h2,h3,h4⟩:=id hgc
 obtain⟨qo,capo,rfl,_,_⟩:=h1.sl.shape
 obtain⟨qt,capt,rfl,_,hct⟩:=h2.sl.shape
 obtain⟨qn,capn,rfl,_,_⟩:=h3.sl.shape
 obtain⟨qp,capp,rfl,_,_⟩:=h4.sl.shape
 have hptl:g.pts.length≤9223372036854775807:=h4.few
 have htl:g.tys.length≤9223372036854775807:=h2.few
 have hol:g.outs.length≤9223372036854775807:=h1.few
 have S:=St.start hr
 refine S.box λb2 w1 S=>?_
 have S:StX noX w r w1 [.cell b2 [.slice p0 u.ss.length cap0,.slice (some ⟨bf,of,none⟩) u.fs.length capf,.int .i64 u.mn] 25]:=S
 refine gg_ ?_
 refine zo (n:=7) hcf (λj v hj=>by rw[tnc];exact S.at (hfo j v hj)) ?_
 refine S.al λb5 w2 S=>?_
 refine S.stB (b:=b5) λw3 S=>?_
 have S:StX noX w r w3 [.cell b5 [.string g.name,.int .i64 g.lv,.slice qo g.outs.length capo,.int .i64 g.pn,.slice qt g.tys.length capt,.slice qn g.nms.length capn,.slice qp g.pts.length capp] 101,
  .cell b2 [.slice p0 u.ss.length cap0,.slice (some ⟨bf,of,none⟩) u.fs.length capf,.int .i64 u.mn] 25]:=S
 refine gg_ ?_
 have no:(HeadU u i g→False)→xf u i g=false:=λhh=>by
  cases e:xf u i g
  ·rfl
  ·exact(hh (adz e)).elim
 refine zn (c:=decide (8<g.lv)) (λ_ K2 hK2=>by refine gg_ ?_;exact hK2) ?_
 refine zn (c:=decide (g.pn<0)) (λ_ K2 hK2=>by refine gg_ ?_;exact hK2) ?_
 refine zn (c:=decide (8<g.pn)) (λ_ K2 hK2=>by refine gg_ ?_;exact hK2) ?_
 refine zn (c:=decide ((g.tys.length:Int)≤g.pn)) (λ_ K2 hK2=>by refine gg_ ?_;exact hK2) ?_
 refine zn (c:=decide (512<g.tys.length)) (λ_ K2 hK2=>?_) ?_
 ·refine gg_ ?_
  rw[show decide ((512:Int)<(g.tys.length:Int))=decide (512<g.tys.length)from decide_eq_decide.2 (by omega)]
  exact hK2
 refine zn (c:=decide (g.nms.length≠g.tys.length)) (λ_ K2 hK2=>?_) ?_
 ·refine gg_ ?_
  rw[adA]
  exact hK2
 refine c_b (λhbad=>?_) (λhgood=>?_)
 ·rw[no λH=>by
   have:=H.lv0;have:=H.lv8;have:=H.pn0;have:=H.pn8;have:=H.pn1;have:=H.ty512;have:=H.nms
   simp only[Bool.or_eq_true,gdt]at hbad;omega]at h
  exact h _ S.ext
 have hnum:(0≤g.lv∧g.lv≤8∧0≤g.pn∧g.pn≤8)∧g.pn<g.tys.length∧g.tys.length≤512∧g.nms.length=g.tys.length:=by
  simp only[Bool.or_eq_false_iff,decide_eq_false_iff_not]at hgood;omega
 clear hgood
 obtain⟨⟨hlv0,hlv8,hpn0,hpn8⟩,hpn1,hty,hnm⟩:=hnum
 refine zj (ι:=Nat) (λi=>[.int .i64 (i:Nat)]) (λj w'=>j≤g.tys.length∧jS u g j (g.tys.drop j)=jS u g 0 g.tys∧StX noX w r w' [.cell b5 [.string g.name,.int .i64 g.lv,.slice qo g.outs.length capo,.int .i64 g.pn,.slice qt g.tys.length capt,.slice qn g.nms.length capn,.slice qp g.pts.length capp] 101,
  .cell b2 [.slice p0 u.ss.length cap0,.slice (some ⟨bf,of,none⟩) u.fs.length capf,.int .i64 u.mn] 25]) (λi=>g.tys.length-i) 0 rfl ⟨gzl _,rfl,S⟩ ?_
 clear S
 rintro j d w5 ⟨hj,hd,S⟩ K6 hK6
 rw[gdz]
 refine gg_ ?_
 refine zh (λhlt=>?_) (λhge=>?_)
 ·have hlt:j<g.tys.length:=by omega
  obtain⟨bt,ot,ct,rfl,hct,htc,hcell⟩:=h2.sl.get (by decide) hlt
  obtain⟨q2,cap2,rfl,ht2⟩:=yj htc
  rw[afE hlt]at hd
  have S:=S.go (Ext.drew _)
  refine gg_ ?_
  refine zo (n:=5) hct (λj v hj=>by rw[tnc];exact S.at (hcell j v hj)) ?_
  refine gg_ ?_
  refine Zu 48 (by decide) S.holds ht2 λw8 e8=>?_
  have S:=S.go e8
  rw[ahH]
  refine gp_ ?_
  have hmay:mayB u.ss g.tys[j]=zt u.ss.length 48 g.tys[j]:=by rw[mayB,gde hok,Bool.true_and]
  rw[← hmay]
  refine c_b (λhm=>?_) (λhm=>?_)
  ·have hm:mayB u.ss g.tys[j]=false:=by simpa using hm
   rw[no λH=>by
    have:=H.tys
    rw[← hd,tyG,hm,Bool.false_and,Bool.false_and]at this;cases this]at h
   exact h _ S.ext
  have hm:mayB u.ss g.tys[j]=true:=by simpa using hm
  refine gg_ ?_
  refine zo (n:=5) hct (λj v hj=>by rw[tnc];exact S.at (hcell j v hj)) ?_
  refine Qu S.holds ht2 λv7 w12 e12 o12=>?_
  obtain⟨s7,p7,cap7,n7,nb7,rfl,_,_,hs7⟩:=ag8 o12
  have S:=S.new e12 n7
  have hlow:∀x∈regsT g.tys[j],-1≤x:=λx hx=>by
   rw[regsT]at hx
   split at hx
   ·exact alv 48 (Zq hm).2 x hx
   ·cases hx
  have hr48:(regsT g.tys[j]).length≤1000:=by
   rw[regsT];split
   ·have:=jo (by assumption);omega
   ·simp
  have hty2:tyG u g j g.tys[j] = !((regsT g.tys[j]).any λx=>decide (g.lv≤x)||(decide ((j:Int)≤g.pn)&&decide (x<0))):=by
   rw[aiZ,hm,Bool.true_and]
   congr 1
   rw[Bool.eq_iff_iff,List.any_eq_true,List.any_eq_true]
   constructor<;>rintro ⟨x,hx,hc⟩<;>refine ⟨x,hx,?_⟩<;>have:=hlow x hx<;>simp only[Bool.or_eq_true,gba,gdt]at hc⊢
   ·rcases hc with hc|hc
    ·split at hc
     ·exact .inr ⟨by assumption,hc⟩
     ·omega
    ·exact .inl hc
   ·rcases hc with hc|⟨hc,hc2⟩
    ·exact .inr hc
    ·rw[if_pos hc];exact .inl hc2
  generalize regsT g.tys[j]=l at hs7 hr48 hty2⊢
  refine zj (ι:=Nat) (λk=>[.int .i64 (k:Nat)]) (λk w'=>k≤l.length∧((l.take k).any λx=>decide (g.lv≤x)||(decide ((j:Int)≤g.pn)&&decide (x<0)))=false∧StX noX w (r.or s7) w' [.cell b5 [.string g.name,.int .i64 g.lv,.slice qo g.outs.length capo,.int .i64 g.pn,.slice (some ⟨bt,ot,none⟩) g.tys.length capt,.slice qn g.nms.length capn,.slice qp g.pts.length capp] 101,
   .cell b2 [.slice p0 u.ss.length cap0,.slice (some ⟨bf,of,none⟩) u.fs.length capf,.int .i64 u.mn] 25]) (λk=>l.length-k) 0 rfl ⟨gzl _,by simp,S⟩ ?_
  clear S
  rintro k d w13 ⟨hk,hany,S⟩ K7 hK7
  rw[gdz]
  refine gg_ ?_
  refine zh (λhlt2=>?_) (λhge2=>?_)
  ·have hlt2:k<l.length:=by omega
   obtain⟨bk,ok,rfl,hxk⟩:=ajC hs7 (S.holds.le (h:=inferInstance)) hlt2
   have S:=S.go (Ext.drew _)
   refine gg_ ?_
   refine zf (by simpa using S.at hxk) ?_
   refine gg_ ?_
   refine ZY (g:=decide ((j:Int)≤g.pn)) (c:=decide (l[k]<0)) (λ_ K2 hK2=>by refine gg_ ?_;exact hK2) (λ_ K2 hK2=>?_) ?_
   ·refine gg_ ?_
    refine zf (by simpa using S.at hxk) ?_
    refine gg_ ?_
    exact hK2
   refine c_b (λhbad=>?_) (λhgood=>?_)
   ·have hA:(l.any λx=>decide (g.lv≤x)||(decide ((j:Int)≤g.pn)&&decide (x<0)))=true:=List.any_eq_true.2 ⟨_,gem hlt2,hbad⟩
    rw[hty2,hA,Bool.not_true,Bool.false_and]at hd
    rw[no λH=>by have:=H.tys;rw[← hd]at this;cases this]at h
    exact h _ S.ext
   ·refine gg_ ?_
    rw[show ((k:Int)+1)=((k+1:Nat):Int)by omega]
    refine hK7 (k+1) _ ⟨hlt2,?_,S⟩ (by omega)
    rw[List.take_succ_eq_append_getElem hlt2,List.any_append,hany]
    simp only[List.any_cons,List.any_nil,Bool.false_or,Bool.or_false]
    exact hgood
  ·have hke:k=l.length:=by omega
   rw[hke,List.take_length]at hany
   rw[hty2,hany,Bool.not_false,Bool.true_and]at hd
   refine gg_ ?_
   rw[show ((j:Int)+1)=((j+1:Nat):Int)by omega]
   exact hK6 (j+1) _ ⟨hlt,hd,S.to r⟩ (by omega)
 have hje:j=g.tys.length:=by omega
 rw[hje,List.drop_length]at hd
 have htys:jS u g 0 g.tys=true:=hd.symm
 clear hd hK6 K6 hge hj hje
 refine S.al λb9 w20 S=>?_
 refine S.al λb10 w21 S=>?_
 have S:StX noX w r w21 [.cell b9 (zP λ_ _=>false) 296,.cell b10 (zP λ_ _=>false) 296,.cell b5 [.string g.name,.int .i64 g.lv,.slice qo g.outs.length capo,.int .i64 g.pn,.slice qt g.tys.length capt,.slice qn g.nms.length capn,.slice qp g.pts.length capp] 101,
  .cell b2 [.slice p0 u.ss.length cap0,.slice (some ⟨bf,of,none⟩) u.fs.length capf,.int .i64 u.mn] 25]:=S.swap
 refine zj (ι:=Nat) (λi=>[.int .i64 (i:Nat)]) (λj w'=>j≤g.pn.toNat+1∧StX noX w r w' [.cell b9 (zP (muF (g.tys.take j))) 296,.cell b10 (zP λ_ _=>false) 296,.cell b5 [.string g.name,.int .i64 g.lv,.slice qo g.outs.length capo,.int .i64 g.pn,.slice qt g.tys.length capt,.slice qn g.nms.length capn,.slice qp g.pts.length capp] 101,
  .cell b2 [.slice p0 u.ss.length cap0,.slice (some ⟨bf,of,none⟩) u.fs.length capf,.int .i64 u.mn] 25]) (λi=>g.pn.toNat+1-i) 0 rfl ⟨gzl _,by
   rw[yO (f:=muF (g.tys.take 0)) (g:=λ_ _=>false) (λx y _ _=>by simp[muF,vk])]
   exact S⟩ ?_
 clear S
 rintro j d w22 ⟨hj,S⟩ K6 hK6
 rw[gdz]
 refine gg_ ?_
 refine zh (λhlt=>?_) (λhge=>?_)
 ·have hlt:j<g.tys.length:=by omega
  obtain⟨bt,ot,ct,rfl,hct,htc,hcell⟩:=h2.sl.get (by decide) hlt
  obtain⟨q2,cap2,rfl,ht2⟩:=yj htc
  refine gg_ ?_
  refine zo (n:=5) hct (λj v hj=>by rw[tnc];exact S.at (hcell j v hj)) ?_
  have hreg:∀x∈regsT g.tys[j],0≤x∧x<8:=λx hx=>by
   have:=aco htys (j:=j) hlt (by omega) x hx
   omega
  refine ahN ht2 hreg S λw23 S=>?_
  refine gg_ ?_
  rw[show ((j:Int)+1)=((j+1:Nat):Int)by omega]
  refine hK6 (j+1) _ ⟨by omega,?_⟩ (by omega)
  rw[yO (f:=muF (g.tys.take (j+1))) (g:=J6 (muF (g.tys.take j)) (regsT g.tys[j])) (λx y _ _=>afz hlt)]
  exact S
 have hje:j=g.pn.toNat+1:=by omega
 rw[hje]at S
 clear hK6 K6 hge hj hje
 have hout:jG g=true↔qT g.lv none g.outs=true∧(List.range g.lv.toNat).all (clF g.lv.toNat (muF (g.tys.take (g.pn.toNat+1))) (syF g.outs))=true:=by
  rw[jG,← afC,aiY,gba]
 have nout:jG g=false→xf u i g=false:=λe=>no λH=>by have:=H.outs;rw[e]at this;cases this
 generalize hmu:muF (g.tys.take (g.pn.toNat+1))=mu at hout S
 refine zj (ι:=Nat) (λi=>[.int .i64 (i:Nat)]) (λi w'=>i≤g.outs.length∧qT g.lv (jf g.outs i) (g.outs.drop i)=qT g.lv none g.outs∧
  StX noX w r w' [.cell b9 (zP mu) 296,.cell b10 (zP (syF (g.outs.take i))) 296,.cell b5 [.string g.name,.int .i64 g.lv,.slice qo g.outs.length capo,.int .i64 g.pn,.slice qt g.tys.length capt,.slice qn g.nms.length capn,.slice qp g.pts.length capp] 101,
  .cell b2 [.slice p0 u.ss.length cap0,.slice (some ⟨bf,of,none⟩) u.fs.length capf,.int .i64 u.mn] 25]) (λi=>g.outs.length-i) 0 rfl
  ⟨gzl _,rfl,by
   rw[yO (f:=syF (g.outs.take 0)) (g:=λ_ _=>false) (λx y _ _=>by simp[syF,jF])]
   exact S⟩ ?_
 clear S
 rintro k d w24 ⟨hk,hd,S⟩ K6 hK6
 rw[gdz]
 refine gg_ ?_
 refine zh (λhlt=>?_) (λhge=>?_)
 ·have hlt:k<g.outs.length:=by omega
  obtain⟨bo,oo,co,rfl,hco,hoo,hoc⟩:=h1.sl.get (by decide) hlt
  obtain rfl:co=_:=hoo
  rw[ahv hlt]at hd
  have hgo:=λ(j:Nat) (hj:j<g.outs.length)=>h1.sl.get (by decide) hj
  obtain⟨⟨o1,o2⟩,ho⟩:∃o,g.outs[k]=o:=⟨_,rfl⟩
  rw[ho]at hd
  have hst:syF (g.outs.take (k+1))=λx y=>syF (g.outs.take k) x y||(decide ((x:Int)=o1)&&decide ((y:Int)=o2)):=by
   funext x y
   show jF _ _ _=(jF _ _ _||_)
   rw[afA hlt,ho]
  have hno:qT g.lv none g.outs=false→∀w',Ext w w'→K (.bool false) w':=λe w' ew=>by
   have:=h w' ew
   rw[nout (by
    cases ho:jG g with
    |false=>rfl
    |true=>rw [(hout.1 ho).1]at e;cases e)]at this
   exact this
  refine gg_ ?_
  refine zo (n:=2) hco (λj v hj=>by rw[tnc];exact S.at (hoc j v hj)) ?_
  rw[ho]
  refine S.al λb13 w25 S=>?_
  refine S.stB (b:=b13) λw26 S=>?_
  refine gg_ ?_
  refine zn (c:=decide (g.lv≤o1)) (λ_ K2 hK2=>by refine gg_ ?_;exact hK2) ?_
  refine zn (c:=decide (o2<0)) (λ_ K2 hK2=>by refine gg_ ?_;exact hK2) ?_
  refine zn (c:=decide (g.lv≤o2)) (λ_ K2 hK2=>by refine gg_ ?_;exact hK2) ?_
  refine zn (c:=decide (o1=o2)) (λ_ K2 hK2=>by refine gg_ ?_;exact hK2) ?_
  have hio:kJ g.lv (o1,o2) = !((((decide (o1<0)||decide (g.lv≤o1))||decide (o2<0))||decide (g.lv≤o2))||decide (o1=o2)):=by
   rw[kJ]
   congr 1
   rw[Bool.eq_iff_iff]
   simp only[Bool.or_eq_true,gdt]
   omega
  refine c_b (λhbad=>?_) (λhgood=>?_)
  ·rw[hio,hbad,Bool.not_true,Bool.false_and,Bool.false_and]at hd
   exact hno hd.symm _ S.ext
  rw[hio,hgood,Bool.not_false,Bool.true_and]at hd
  have hrg:(0≤o1∧o1<8)∧(0≤o2∧o2<8):=by
   simp only[Bool.or_eq_false_iff,decide_eq_false_iff_not]at hgood;omega
  clear hgood hio
  obtain⟨⟨ho10,ho18⟩,ho20,ho28⟩:=hrg
  have S:=S.go (Ext.drew _)
  obtain⟨⟨p1,p2⟩,hp⟩:∃o,(g.outs[k-1]?).getD (0,0)=o:=⟨_,rfl⟩
  have hpv:0<k→∃(hl:k-1<g.outs.length),g.outs[k-1]=(p1,p2):=λhpos=>by
   have hl:k-1<g.outs.length:=by omega
   rw[gqg hl]at hp
   exact⟨hl,hp⟩
  have hprev:0<k→∀j v,[Value.int .i64 p1,.int .i64 p2][j]? = some v→Ob r λw=>w.cell? ⟨bo,oo+(k-1)*2+j,none⟩=some v:=λhpos j v hj=>by
   obtain⟨hl,he⟩:=hpv hpos
   obtain⟨bo2,oo2,co2,hbe,hco2,hoo2,hoc2⟩:=h1.sl.get (by decide) hl
   obtain rfl:co2=_:=hoo2
   cases hbe
   rw[he]at hoc2
   exact hoc2 j v hj
  refine gg_ ?_
  refine alS (x:=decide (o1<p1)) (y:=decide (p1=o1)) (z:=decide (o2≤p2)) (λhb K2 hK2=>?_) (λhb K2 hK2=>?_) (λhb K2 hK2=>?_) ?_
  ·have hpos:0<k:=by simp only[gdt]at hb;omega
   refine gg_ ?_
   refine zf (v:=.int .i64 p1) (by rw[show ((k:Int)-1).toNat=k-1 by omega];simpa using S.at (hprev hpos 0 _ rfl)) ?_
   refine gg_ ?_
   exact hK2
  ·have hpos:0<k:=by simp only[gdt]at hb;omega
   refine gg_ ?_
   refine zf (v:=.int .i64 p1) (by rw[show ((k:Int)-1).toNat=k-1 by omega];simpa using S.at (hprev hpos 0 _ rfl)) ?_
   refine gg_ ?_
   exact hK2
  ·have hpos:0<k:=by simp only[gdt]at hb;omega
   refine gg_ ?_
   refine zf (v:=.int .i64 p2) (by rw[show ((k:Int)-1).toNat=k-1 by omega];exact S.at (hprev hpos 1 _ rfl)) ?_
   refine gg_ ?_
   exact hK2
  rw[not_lt (o:=(o1,o2)) (w:=(p1,p2))]
  have haft:ajA (jf g.outs k) (o1,o2) = !(decide ((k:Int)>0) && !Zr (p1,p2) (o1,o2)):=by
   by_cases hpos:0<k
   ·obtain⟨hl,he⟩:=hpv hpos
    rw[jf,if_neg (by omega),gqg hl,he,gde (show(k:Int)>0 by omega),Bool.true_and,Bool.not_not];rfl
   ·rw[jf,if_pos (by omega),decide_eq_false (show¬(k:Int)>0 by omega)];rfl
  refine c_b (λhb=>?_) (λhb=>?_)
  ·rw[haft,hb,Bool.not_true,Bool.false_and]at hd
   exact hno hd.symm _ S.ext
  rw[haft,hb,Bool.not_false,Bool.true_and]at hd
  have S:=S.go (Ext.drew _)
  refine gg_ ?_
  refine S.st (b:=b10) (λw27 S=>?_) (by rw[vA];omega)
  refine gg_ ?_
  rw[show ((k:Int)+1)=((k+1:Nat):Int)by omega]
  refine hK6 (k+1) _ ⟨hlt,hd,?_⟩ (by omega)
  rw[show 0+o1.toNat*8+o2.toNat*1=o1.toNat*8+o2.toNat by omega,J4 (by omega) (by omega)]at S
  rw[hst,yO (f:=λx y=>syF (g.outs.take k) x y||(decide ((x:Int)=o1)&&decide ((y:Int)=o2))) (g:=λx y=>syF (g.outs.take k) x y||(decide (x=o1.toNat)&&decide (y=o2.toNat))) (λx y _ _=>by
   show(syF (g.outs.take k) x y||(decide ((x:Int)=o1)&&decide ((y:Int)=o2)))=(syF (g.outs.take k) x y||(decide (x=o1.toNat)&&decide (y=o2.toNat)))
   rw[show decide ((x:Int)=o1)=decide (x=o1.toNat)from decide_eq_decide.2 (by omega),show decide ((y:Int)=o2)=decide (y=o2.toNat)from decide_eq_decide.2 (by omega)])]
  exact S.drop b13
 have hke:k=g.outs.length:=by omega
 rw[hke,List.take_length]at S
 rw[hke,List.drop_length]at hd
 have hoR:qT g.lv none g.outs=true:=by rw[← hd];rfl
 clear hd hK6 K6 hge hk hke
 generalize hsy:syF g.outs=sy at hout S
 obtain⟨n,hn⟩:∃n:Nat,g.lv.toNat=n:=⟨_,rfl⟩
 have hn8:n≤8:=by omega
 have hlvn:g.lv=(n:Int):=by omega
 rw[hn]at hout
 have hno:(List.range n).all (clF n mu sy)=false→∀w',Ext w w'→K (.bool false) w':=λe w' ew=>by
  have:=h w' ew
  rw[nout (by
   cases ho:jG g with
   |false=>rfl
   |true=>rw [(hout.1 ho).2]at e;cases e)]at this
  exact this
 refine zj (ι:=Nat) (λi=>[.int .i64 (i:Nat)]) (λi w'=>i≤n∧((List.range n).drop i).all (clF n mu sy)=(List.range n).all (clF n mu sy)∧
  StX noX w r w' [.cell b9 (zP mu) 296,.cell b10 (zP sy) 296,.cell b5 [.string g.name,.int .i64 g.lv,.slice qo g.outs.length capo,.int .i64 g.pn,.slice qt g.tys.length capt,.slice qn g.nms.length capn,.slice qp g.pts.length capp] 101,
  .cell b2 [.slice p0 u.ss.length cap0,.slice (some ⟨bf,of,none⟩) u.fs.length capf,.int .i64 u.mn] 25]) (λi=>n-i) 0 rfl ⟨gzl _,rfl,S⟩ ?_
 clear S
 rintro a d2 w30 ⟨ha,hda,S⟩ K7 hK7
 rw[gdz]
 refine gg_ ?_
 rw[hlvn]
 refine zh (λhlta=>?_) (λhgea=>?_)
 ·have hlta:a<n:=by omega
  rw[vW hlta]at hda
  refine zj (ι:=Nat) (λi=>[.int .i64 (i:Nat)]) (λi w'=>i≤n∧((List.range n).drop i).all (clG n mu sy a)=(List.range n).all (clG n mu sy a)∧
   StX noX w r w' [.cell b9 (zP mu) 296,.cell b10 (zP sy) 296,.cell b5 [.string g.name,.int .i64 g.lv,.slice qo g.outs.length capo,.int .i64 g.pn,.slice qt g.tys.length capt,.slice qn g.nms.length capn,.slice qp g.pts.length capp] 101,
   .cell b2 [.slice p0 u.ss.length cap0,.slice (some ⟨bf,of,none⟩) u.fs.length capf,.int .i64 u.mn] 25]) (λi=>n-i) 0 rfl ⟨gzl _,rfl,S⟩ ?_
  clear S
  rintro b d3 w31 ⟨hb,hdb,S⟩ K8 hK8
  rw[gdz]
  refine gg_ ?_
  rw[hlvn]
  refine zh (λhltb=>?_) (λhgeb=>?_)
  rotate_left
  ·have hbe:b=n:=by omega
   rw[hbe,vX]at hdb
   have hF:clF n mu sy a=true:=hdb.symm
   rw[hF,Bool.true_and]at hda
   refine gg_ ?_
   rw[show ((a:Int)+1)=((a+1:Nat):Int)by omega]
   exact hK7 (a+1) _ ⟨hlta,hda,S⟩ (by omega)
  have hltb:b<n:=by omega
  rw[vW hltb]at hdb
  have hfalse:clG n mu sy a b=false→(List.range n).all (clF n mu sy)=false:=λe=>by
   rw[e,Bool.false_and]at hdb
   have hF:clF n mu sy a=false:=hdb.symm
   rw[hF,Bool.false_and]at hda
   exact hda.symm
  refine gg_ ?_
  refine zg (c:=mu a b) (λ_ K2 hK2=>?_) ?_
  ·refine gg_ ?_
   refine S.ld (b:=b9) ?_ (j0 (f:=mu) (by omega) (by omega))
   exact hK2
  refine zg (c:=!sy a b) (λ_ K2 hK2=>?_) ?_
  ·refine gg_ ?_
   refine S.ld (b:=b10) ?_ (j0 (f:=sy) (by omega) (by omega))
   refine gg_ ?_
   exact hK2
  have hG:clG n mu sy a b=((List.range n).all (clH sy a b) && !((decide ((a:Int)≠(b:Int))&&mu a b) && !sy a b)):=by
   rw[clG,Bool.and_assoc,show decide ((a:Int)≠(b:Int)) = !decide (a=b)from by rw[← decide_not];exact decide_eq_decide.2 (by omega)]
  refine c_b (λhbad=>?_) (λhgood=>?_)
  ·exact hno (hfalse (by rw[hG,hbad,Bool.not_true,Bool.and_false])) _ S.ext
  rw[hgood,Bool.not_false,Bool.and_true]at hG
  refine zj (ι:=Nat) (λi=>[.int .i64 (i:Nat)]) (λi w'=>i≤n∧((List.range n).drop i).all (clH sy a b)=(List.range n).all (clH sy a b)∧
   StX noX w r w' [.cell b9 (zP mu) 296,.cell b10 (zP sy) 296,.cell b5 [.string g.name,.int .i64 g.lv,.slice qo g.outs.length capo,.int .i64 g.pn,.slice qt g.tys.length capt,.slice qn g.nms.length capn,.slice qp g.pts.length capp] 101,
   .cell b2 [.slice p0 u.ss.length cap0,.slice (some ⟨bf,of,none⟩) u.fs.length capf,.int .i64 u.mn] 25]) (λi=>n-i) 0 rfl ⟨gzl _,rfl,S⟩ ?_
  clear S
  rintro cc d4 w32 ⟨hc,hdc,S⟩ K9 hK9
  rw[gdz]
  refine gg_ ?_
  rw[hlvn]
  refine zh (λhltc=>?_) (λhgec=>?_)
  ·have hltc:cc<n:=by omega
   rw[vW hltc]at hdc
   refine gg_ ?_
   refine zg (c:=sy a b) (λ_ K2 hK2=>?_) ?_
   ·refine gg_ ?_
    refine S.ld (b:=b10) ?_ (j0 (f:=sy) (by omega) (by omega))
    exact hK2
   refine zg (c:=sy b cc) (λ_ K2 hK2=>?_) ?_
   ·refine gg_ ?_
    refine S.ld (b:=b10) ?_ (j0 (f:=sy) (by omega) (by omega))
    exact hK2
   refine zg (c:=!sy a cc) (λ_ K2 hK2=>?_) ?_
   ·refine gg_ ?_
    refine S.ld (b:=b10) ?_ (j0 (f:=sy) (by omega) (by omega))
    refine gg_ ?_
    exact hK2
   have hH:clH sy a b cc = !(((decide ((a:Int)≠(cc:Int))&&sy a b)&&sy b cc) && !sy a cc):=by
    rw[clH,show decide ((a:Int)≠(cc:Int)) = !decide (a=cc)from by rw[← decide_not];exact decide_eq_decide.2 (by omega)]
    congr 1
    ac_rfl
   refine c_b (λhbad=>?_) (λhgood2=>?_)
   ·rw[hH,hbad,Bool.not_true,Bool.false_and]at hdc
    exact hno (hfalse (by rw[hG,← hdc])) _ S.ext
   ·rw[hH,hgood2,Bool.not_false,Bool.true_and]at hdc
    refine gg_ ?_
    rw[show ((cc:Int)+1)=((cc+1:Nat):Int)by omega]
    exact hK9 (cc+1) _ ⟨hltc,hdc,S⟩ (by omega)
  have hce:cc=n:=by omega
  rw[hce,vX]at hdc
  rw[hG,← hdc,Bool.true_and]at hdb
  refine gg_ ?_
  rw[show ((b:Int)+1)=((b+1:Nat):Int)by omega]
  exact hK8 (b+1) _ ⟨hltb,hdb,S⟩ (by omega)
 have hae:a=n:=by omega
 rw[hae,vX]at hda
 have hog:jG g=true:=hout.2 ⟨hoR,hda.symm⟩
 clear hda hK7 K7 hgea hae ha hno nout
 refine zj (ι:=Nat) (λi=>[.int .i64 (yE (g.pts.take i):Nat),.int .i64 (i:Nat)]) (λi w'=>i≤g.pts.length∧i≤1025∧StX noX w r w' [.cell b9 (zP mu) 296,.cell b10 (zP sy) 296,.cell b5 [.string g.name,.int .i64 g.lv,.slice qo g.outs.length capo,.int .i64 g.pn,.slice qt g.tys.length capt,.slice qn g.nms.length capn,.slice qp g.pts.length capp] 101,
  .cell b2 [.slice p0 u.ss.length cap0,.slice (some ⟨bf,of,none⟩) u.fs.length capf,.int .i64 u.mn] 25]) (λi=>g.pts.length-i) 0 rfl ⟨gzl _,gzl _,S⟩ ?_
 clear S
 rintro k d5 w33 ⟨hk,hk2,S⟩ K5 hK5
 simp only[gdz,gds]
 have hlk:yE (g.pts.take k)≤k:=by
  have:=List.countP_le_length (p:=λp:PtD=>decide (p.op=4)) (l:=g.pts.take k)
  rw[List.length_take]at this
  show List.countP _ _≤k
  omega
 refine gg_ ?_
 refine zg (c:=decide (k≤1024)) (λ_ K2 hK2=>?_) ?_
 ·refine gg_ ?_
  rw[show decide ((k:Int)≤1024)=decide (k≤1024)from decide_eq_decide.2 (by omega)]
  exact hK2
 refine c_b (λhgo=>?_) (λhstop=>?_)
 ·simp only[gba,gdt]at hgo
  have hlt:k<g.pts.length:=by omega
  have hlt':=J5 hlt
  obtain⟨bp,op,cp,rfl,hcp,hpc,hpo⟩:=h4.sl.get (by decide) hlt
  obtain⟨x1,x2,x3,x4,x5,y1,y2,y3,y4,y5,rfl,_⟩:=xm hpc
  have lop:Ob r λw=>w.cell? ⟨bp,op+k*21,none⟩=some (.int .u8 g.pts[k].op):=by simpa using hpo 0 _ rfl
  refine zk (λs w'=>s=[.int .i64 (yE (g.pts.take (k+1)):Nat)]∧w'=w33) (λK9 hK9=>?_) ?_
  rotate_left
  ·rintro _ _ ⟨rfl,rfl⟩ d6
   rw[gdz]
   refine gg_ ?_
   rw[show ((k:Int)+1)=((k+1:Nat):Int)by omega]
   exact hK5 (k+1) _ ⟨hlt,by omega,S⟩ (by omega)
  refine gg_ ?_
  refine zf (by simpa using S.at lop) ?_
  refine gg_ ?_
  refine zh (λh4'=>?_) (λh4'=>?_)
  ·refine gg_ ?_
   refine hK9 _ _ ⟨?_,rfl⟩
   rw[hlt',if_pos h4'];rfl
  ·refine hK9 _ _ ⟨?_,rfl⟩
   rw[hlt',if_neg h4',Nat.add_zero]
 refine gg_ ?_
 refine zn (c:=decide (1024<g.pts.length)) (λ_ K2 hK2=>?_) ?_
 ·refine gg_ ?_
  rw[show decide ((1024:Int)<(g.pts.length:Int))=decide (1024<g.pts.length)from decide_eq_decide.2 (by omega)]
  exact hK2
 refine zn (c:=decide (256<yE (g.pts.take k))) (λ_ K2 hK2=>?_) ?_
 ·refine gg_ ?_
  rw[show decide ((256:Int)<(yE (g.pts.take k):Int))=decide (256<yE (g.pts.take k))from decide_eq_decide.2 (by omega)]
  exact hK2
 have hend:g.pts.length≤1024→g.pts.take k=g.pts:=λhle=>by
  refine List.take_of_length_le ?_
  rw[Bool.and_eq_false_iff,decide_eq_false_iff_not,decide_eq_false_iff_not]at hstop
  omega
 refine c_b (λhbad=>?_) (λhgood=>?_)
 ·rw[no λH=>by
   have h1:=H.pt1
   have h2:=H.pt1024
   have h3:=H.loans
   rw[hend h2]at hbad
   simp only[Bool.or_eq_true,gdt]at hbad
   omega]at h
  exact h _ S.ext
 simp only[Bool.or_eq_false_iff,decide_eq_false_iff_not]at hgood
 rw[hend (by omega)]at hgood
 have hpos:0<g.tys.length:=by omega
 have hhd:g.tys.headD zI=g.tys[0]:=by rw[List.headD_eq_head?_getD,List.head?_eq_getElem?,gqg hpos,Option.getD_some]
 obtain⟨bt,ot,ct,rfl,hct2,htc,hcell⟩:=h2.sl.get (by decide) hpos
 obtain⟨q2,cap2,rfl,ht2⟩:=yj htc
 have lk:Ob r λw=>w.cell? ⟨bt,ot,none⟩=some (.int .u8 g.tys[0].k):=by simpa using hcell 0 _ rfl
 refine gg_ ?_
 refine anM (c:=decide (g.lv=0)) (d:=decide (g.pn=0)) (e:=isK g.tys[0] 1) (λK2 hK2=>by refine gg_ ?_;exact hK2) (λK2 hK2=>by refine gg_ ?_;exact hK2) (λK2 hK2=>?_) ?_
 ·refine gg_ ?_
  refine zf (by simpa using S.at lk) ?_
  refine gg_ ?_
  exact hK2
 have hE:xf u i g=(decide ((i:Int)≠u.mn)||((decide (g.lv=0)&&decide (g.pn=0))&&isK g.tys[0] 1)):=by
  rw[xf,gde hlv0,gde hlv8,gde hpn0,gde hpn8,gde hpn1,gde hty,gde hnm,htys,hog,gde (show 1≤g.pts.length by omega),gde (show g.pts.length≤1024 by omega),gde (show yE g.pts≤256 by omega),hhd,decide_not]
  simp
 rw[hE]at h
 exact h _ S.ext
theorem agk{K:Value→World→Prop}(hr:Holds r w)(hu:UnG r v u)
  (h:∀(a b e:Int) w',Ext w w'→(e=0↔MayU u)→K (.tuple #[.int .i64 a,.int .i64 b,.int .i64 e]) w'):zd Tryz.prog Tryz.Yw #[v] w K:=by
 refine Tryz.aeO ?_
 unfold Tryz.VD
 have hu0:=hu
 obtain⟨p0,cap0,vf,rfl,_,_,hst,hsl,hfn⟩:=hu
 obtain⟨qf,capf,rfl,_,_⟩:=hfn.sl.shape
 have hfl:u.fs.length≤9223372036854775807:=hfn.few
 have S:=St.start hr
 refine S.box λb1 w1 S=>?_
 have S:StX noX w r w1 [.cell b1 [.slice p0 u.ss.length cap0,.slice qf u.fs.length capf,.int .i64 u.mn] 25]:=S
 have bad:∀{a b:Int}{w':World},¬MayU u→Ext w w'→K (.tuple #[.int .i64 a,.int .i64 b,.int .i64 100]) w':=λhn e=>h _ _ _ _ e ⟨λh=>absurd h (by decide),λhM=>absurd hM hn⟩
 refine gg_ ?_
 refine QB S.holds hst λw2 e2=>?_
 have S:=S.go e2
 refine gg_ ?_
 refine zn (c:=decide (u.fs.length<1)) (λ_ K2 hK2=>?_) ?_
 ·refine gg_ ?_
  rw[show decide ((u.fs.length:Int)<1)=decide (u.fs.length<1)from decide_eq_decide.2 (by omega)]
  exact hK2
 refine zn (c:=decide (32<u.fs.length)) (λ_ K2 hK2=>?_) ?_
 ·refine gg_ ?_
  rw[show decide ((32:Int)<(u.fs.length:Int))=decide (32<u.fs.length)from decide_eq_decide.2 (by omega)]
  exact hK2
 refine zn (c:=decide (u.mn<0)) (λ_ K2 hK2=>by refine gg_ ?_;exact hK2) ?_
 refine zn (c:=decide ((u.fs.length:Int)≤u.mn)) (λ_ K2 hK2=>by refine gg_ ?_;exact hK2) ?_
 refine c_b (λhbad=>?_) (λhgood=>?_)
 ·refine bad (λhM=>?_) S.ext
  have h1:=hM.ok;have h2:=hM.fs1;have h3:=hM.fs32;have h4:=hM.mn0;have h5:=hM.mn1
  rw[gde h1]at hbad
  simp only[Bool.or_eq_true,gdt,Bool.not_true,Bool.false_eq_true,false_or]at hbad
  omega
 simp only[Bool.or_eq_false_iff,decide_eq_false_iff_not,Bool.not_eq_false',gdt]at hgood
 obtain⟨⟨⟨⟨hok,hf1⟩,hf32⟩,hm0⟩,hm1⟩:=hgood
 refine zj (ι:=Nat) (λi=>[.int .i64 (i:Nat)]) (λi w'=>i≤u.fs.length∧(∀(j:Nat)(hj:j<u.fs.length),j<i→xf u j u.fs[j]=true)∧StX noX w r w' [.cell b1 [.slice p0 u.ss.length cap0,.slice qf u.fs.length capf,.int .i64 u.mn] 25]) (λi=>u.fs.length-i) 0 rfl ⟨gzl _,λj _ hj=>absurd hj (Nat.not_lt_zero _),S⟩ ?_
 clear S
 rintro i d w3 ⟨hi,hall,S⟩ K1 hK1
 rw[gdz]
 refine gg_ ?_
 refine zh (λhlt=>?_) (λhge=>?_)
 ·have hlt:i<u.fs.length:=by omega
  refine S.ldB (b:=b1) ?_ rfl
  refine ahO hlt hok S.holds hu0 λw4 e4=>?_
  have S:=S.go e4
  refine gp_ ?_
  refine c_b (λhb=>?_) (λhb=>?_)
  ·refine bad (λhM=>?_) S.ext
   rw[hM.head i hlt]at hb;cases hb
  ·refine gg_ ?_
   rw[show ((i:Int)+1)=((i+1:Nat):Int)by omega]
   refine hK1 (i+1) _ ⟨hlt,λj hj hji=>?_,S⟩ (by omega)
   by_cases e:j=i
   ·subst e;simpa using hb
   ·exact hall j hj (by omega)
 have hheads:∀(j:Nat)(hj:j<u.fs.length),xf u j u.fs[j]=true:=λj hj=>hall j hj (by omega)
 clear hall hK1 K1 hge hi
 have hfine:∀f∈u.fs,xz u.ss f.tys∧(0≤f.pn∧f.pn<f.tys.length∧xz u.ss f.tys):=λf hf=>by
  obtain⟨j,hj,rfl⟩:=List.getElem_of_mem hf
  have H:=adz (hheads j hj)
  exact⟨H.fine hok,H.pn0,H.pn1,H.fine hok⟩
 refine zj (ι:=Nat) (λi=>[.int .i64 (i:Nat)]) (λi w'=>i≤u.fs.length∧(∀(j:Nat)(hj:j<u.fs.length),j<i→∀p∈u.fs[j].pts,zG u u.fs[j] p=true)∧StX noX w r w' [.cell b1 [.slice p0 u.ss.length cap0,.slice qf u.fs.length capf,.int .i64 u.mn] 25]) (λi=>u.fs.length-i) 0 rfl ⟨gzl _,λj _ hj=>absurd hj (Nat.not_lt_zero _),S⟩ ?_
 clear S
 rintro i d w5 ⟨hi,hall,S⟩ K2 hK2
 rw[gdz]
 refine gg_ ?_
 refine zh (λhlt=>?_) (λhge=>?_)
 rotate_left
 ·exact h 0 0 0 _ S.ext ⟨λ_=>⟨hok,by omega,by omega,by omega,by omega,hheads,λg hg p hp=>by
   obtain⟨j,hj,rfl⟩:=List.getElem_of_mem hg
   exact hall j hj (by omega) p hp⟩,λ_=>rfl⟩
 have hlt:i<u.fs.length:=by omega
 obtain⟨bf,of,cf,rfl,hcf,hgc,hfo⟩:=hfn.sl.get (by decide) hlt
 have hgm:=gem hlt
 generalize hgi:u.fs[i]=g at hgc hgm
 obtain⟨vo,vt,vn,vp,rfl,h1,h2,h3,h4⟩:=id hgc
 obtain⟨qo,capo,rfl,_,_⟩:=h1.sl.shape
 obtain⟨qt,capt,rfl,_,hct⟩:=h2.sl.shape
 obtain⟨qn,capn,rfl,_,_⟩:=h3.sl.shape
 obtain⟨qp,capp,rfl,_,_⟩:=h4.sl.shape
 have hptl:g.pts.length≤9223372036854775807:=h4.few
 have lpts:Ob r λw=>w.cell? ⟨bf,of+i*7+6,none⟩=some (.slice qp g.pts.length capp):=hfo 6 _ rfl
 have S:=S.go (Ext.drew _)
 refine S.ldB (b:=b1) ?_ rfl
 refine gg_ ?_
 refine zo (n:=7) hcf (λj v hj=>by rw[tnc];exact S.at (hfo j v hj)) ?_
 refine zq (cs:=#[.slice p0 u.ss.length cap0,.slice (some ⟨bf,of,none⟩) u.fs.length capf,.int .i64 u.mn,.string g.name,.int .i64 g.lv,.slice qo g.outs.length capo,.int .i64 g.pn,.slice qt g.tys.length capt,.slice qn g.nms.length capn,.slice qp g.pts.length capp]) (by kernel_rfl) ?_
 refine S.box λbx w6 S=>?_
 have S:StX noX w r w6 [.cell bx (asL u g p0 cap0 (some ⟨bf,of,none⟩) capf qo capo qt capt qn capn qp capp) 170,.cell b1 [.slice p0 u.ss.length cap0,.slice (some ⟨bf,of,none⟩) u.fs.length capf,.int .i64 u.mn] 25]:=S
 have S:=S.frz
 have hx:AsP (r.or (Go.Sh.one bx (asL u g p0 cap0 (some ⟨bf,of,none⟩) capf qo capo qt capt qn capn qp capp) 170)) bx u g:=⟨p0,cap0,some ⟨bf,of,none⟩,capf,qo,capo,qt,capt,qn,capn,qp,capp,(xj (b:=bx)).up,hu0.up,GrG.up hgc⟩
 refine zj (ι:=Nat) (λi=>[.int .i64 (i:Nat)]) (λq w'=>q≤g.pts.length∧(∀(j:Nat)(hj:j<g.pts.length),j<q→zG u g g.pts[j]=true)∧StX noX w (r.or (Go.Sh.one bx (asL u g p0 cap0 (some ⟨bf,of,none⟩) capf qo capo qt capt qn capn qp capp) 170)) w' [.cell b1 [.slice p0 u.ss.length cap0,.slice (some ⟨bf,of,none⟩) u.fs.length capf,.int .i64 u.mn] 25]) (λi=>g.pts.length-i) 0 rfl ⟨gzl _,λj _ hj=>absurd hj (Nat.not_lt_zero _),S⟩ ?_
 clear S
 rintro q d w7 ⟨hq,hpts,S⟩ K9 hK9
 rw[gdz]
 refine gg_ ?_
 refine zf (by rw[tnc];exact S.at lpts) ?_
 refine gg_ ?_
 refine zh (λhlt2=>?_) (λhge2=>?_)
 ·have hlt2:q<g.pts.length:=by omega
  obtain⟨bp,op,cp,rfl,hcp,hpc,hpo⟩:=h4.sl.get (by decide) hlt2
  refine gg_ ?_
  refine zf (by rw[tnc];exact S.at lpts) ?_
  refine gg_ ?_
  refine zo (n:=21) hcp (λj v hj=>by rw[tnc];exact S.at (hpo j v hj)) ?_
  refine agj S.holds hx hok (hfine g hgm).1 (λf hf=>(hfine f hf).2) hpc.up λw8 e8=>?_
  have S:=S.go e8
  refine gp_ ?_
  refine c_b (λhb=>?_) (λhb=>?_)
  ·refine bad (λhM=>?_) S.ext
   rw[hM.pts g hgm _ (gem hlt2)]at hb;cases hb
  ·refine gg_ ?_
   rw[show ((q:Int)+1)=((q+1:Nat):Int)by omega]
   refine hK9 (q+1) _ ⟨hlt2,λj hj hjq=>?_,S⟩ (by omega)
   by_cases e:j=q
   ·subst e;simpa using hb
   ·exact hpts j hj (by omega)
 ·refine gg_ ?_
  rw[show ((i:Int)+1)=((i+1:Nat):Int)by omega]
  refine hK2 (i+1) _ ⟨hlt,λj hj hji p hp=>?_,S.to r⟩ (by omega)
  by_cases e:j=i
  ·subst e
   rw[hgi]at hp⊢
   obtain⟨k,hk,rfl⟩:=List.getElem_of_mem hp
   exact hpts k hk (by omega)
  ·exact hall j hj (by omega) p hp
theorem aiw{K:Value→World→Prop}(hr:Holds r w)(hu:UnG r v u)
  (h:∀w',Ext w w'→K (.bool (XQ u)) w'):zd Tryz.prog Tryz.QO #[v] w K:=by
 refine Tryz.ahF ?_
 unfold Tryz.abO
 have hu0:=hu
 obtain⟨p0,cap0,vf,rfl,_,_,hst,hsl,hfn⟩:=hu
 have S:=St.start hr
 refine S.box λb1 w1 S=>?_
 have S:StX noX w r w1 [.cell b1 [.slice p0 u.ss.length cap0,vf,.int .i64 u.mn] 25]:=S
 refine S.ldB (b:=b1) ?_ rfl
 refine agk S.holds hu0 λa b e w2 e2 he=>?_
 have S:=S.go e2
 refine gg_ ?_
 have hm:decide (e=0)=XQ u:=by
  rw[Bool.eq_iff_iff,gdt,he]
  exact Va.symm
 rw[hm]
 exact h _ S.ext
theorem ajK{fn q:Int}{K:Value→World→Prop}(hr:Holds r w)(hu:UnG r v u)
  (h:∀w',Ext w w'→K (.bool (isU u fn q)) w'):zd Tryz.prog Tryz.JS #[v,.int .i64 fn,.int .i64 q] w K:=by
 refine Tryz.ait ?_
 unfold Tryz.adI
 have hu0:=hu
 obtain⟨p0,cap0,vf,rfl,_,_,hst,hsl,hfn⟩:=hu
 obtain⟨qf,capf,rfl,_,_⟩:=hfn.sl.shape
 have hfl:u.fs.length≤9223372036854775807:=hfn.few
 have S:=St.start hr
 refine S.box λb1 w1 S=>?_
 have S:StX noX w r w1 [.cell b1 [.slice p0 u.ss.length cap0,.slice qf u.fs.length capf,.int .i64 u.mn] 25]:=S
 refine S.ldB (b:=b1) ?_ rfl
 refine aiw S.holds hu0 λw2 e2=>?_
 have S:=S.go e2
 refine zg (c:=decide (0≤fn)) (λ_ K2 hK2=>by refine gg_ ?_;exact hK2) ?_
 refine zg (c:=decide (fn<(u.fs.length:Int))) (λ_ K2 hK2=>by refine gg_ ?_;exact hK2) ?_
 refine zg (c:=decide (q<((u.fs[fn.toNat]?.map λg=>(g.pts.length:Int)).getD 0))) (λhb K2 hK2=>?_) ?_
 ·simp only[gba,gdt]at hb
  have hlt:fn.toNat<u.fs.length:=by omega
  obtain⟨bf,of,cf,rfl,hcf,hgc,hfo⟩:=hfn.sl.get (by decide) hlt
  obtain⟨vo,vt,vn,vp,rfl,h1,h2,h3,h4⟩:=id hgc
  obtain⟨qp,capp,rfl,_,_⟩:=h4.sl.shape
  have hptl:u.fs[fn.toNat].pts.length≤9223372036854775807:=h4.few
  have lpts:Ob r λw=>w.cell? ⟨bf,of+fn.toNat*7+6,none⟩=some (.slice qp u.fs[fn.toNat].pts.length capp):=hfo 6 _ rfl
  refine gg_ ?_
  refine zf (S.at lpts) ?_
  refine gg_ ?_
  rw[gqg hlt]at hK2
  exact hK2
 have:=h _ S.ext
 rw[isU]at this
 have e:((((XQ u&&decide (0≤fn))&&decide (fn<(u.fs.length:Int)))&&decide (q<((u.fs[fn.toNat]?.map λg=>(g.pts.length:Int)).getD 0))))=((decide (0≤fn)&&decide (fn<(u.fs.length:Int)))&&(XQ u&&decide (q<((u.fs[fn.toNat]?.map λg=>(g.pts.length:Int)).getD 0)))):=by ac_rfl
 rw[e]
 exact this
end
end Go.Proofs
namespace Go.Proofs
open Go.Shelf
def Tryz.aix:Go.Shelf.Ren:=⟨fun|189=>69|125=>132|257=>131|128=>182|129=>183|294=>173|295=>174|296=>175|297=>176|298=>177|299=>178|216=>179|300=>180|301=>181|328=>208|329=>209|330=>210|331=>211|332=>212|215=>213|343=>234|n=>n,fun|28=>55|3=>3|46=>213|0=>0|51=>260|53=>205|4=>4|183=>254|182=>253|131=>140|5=>5|9=>9|218=>282|222=>286|228=>308|229=>288|n=>n,fun|n=>n⟩
theorem Tryz.ai6:Go.Proofs.Lays.n189 Tryz.prog Tryz.aix:={
 mixed:=by kernel_rfl
 f125:=Tryz.func132.trans (congrArg some (by kernel_rfl))
 f128:=Tryz.func182.trans (congrArg some (by kernel_rfl))
 f129:=Tryz.func183.trans (congrArg some (by kernel_rfl))
 f189:=Tryz.func69.trans (congrArg some (by kernel_rfl))
 f215:=Tryz.func213.trans (congrArg some (by kernel_rfl))
 f216:=Tryz.func179.trans (congrArg some (by kernel_rfl))
 f257:=Tryz.func131.trans (congrArg some (by kernel_rfl))
 f294:=Tryz.func173.trans (congrArg some (by kernel_rfl))
 f295:=Tryz.func174.trans (congrArg some (by kernel_rfl))
 f296:=Tryz.func175.trans (congrArg some (by kernel_rfl))
 f297:=Tryz.func176.trans (congrArg some (by kernel_rfl))
 f298:=Tryz.func177.trans (congrArg some (by kernel_rfl))
 f299:=Tryz.func178.trans (congrArg some (by kernel_rfl))
 f300:=Tryz.func180.trans (congrArg some (by kernel_rfl))
 f301:=Tryz.func181.trans (congrArg some (by kernel_rfl))
 f328:=Tryz.func208.trans (congrArg some (by kernel_rfl))
 f329:=Tryz.func209.trans (congrArg some (by kernel_rfl))
 f330:=Tryz.func210.trans (congrArg some (by kernel_rfl))
 f331:=Tryz.func211.trans (congrArg some (by kernel_rfl))
 f332:=Tryz.func212.trans (congrArg some (by kernel_rfl))
 f343:=Tryz.func234.trans (congrArg some (by kernel_rfl))
 t0:=Tryz.underlying0
 a0:=Tryz.isAgg0
 z0:=Tryz.sizeOf0
 v0:=Tryz.zeroValue0
 t3:=Tryz.underlying3
 a3:=Tryz.isAgg3
 z3:=Tryz.sizeOf3
 v3:=Tryz.zeroValue3
 t4:=Tryz.underlying4
 a4:=Tryz.isAgg4
 z4:=Tryz.sizeOf4
 v4:=Tryz.zeroValue4
 t5:=Tryz.underlying5
 a5:=Tryz.isAgg5
 z5:=Tryz.sizeOf5
 v5:=Tryz.zeroValue5
 t9:=Tryz.underlying9
 a9:=Tryz.isAgg9
 z9:=Tryz.sizeOf9
 v9:=Tryz.zeroValue9
 t28:=Tryz.underlying55
 a28:=Tryz.isAgg55
 z28:=Tryz.sizeOf55
 v28:=Tryz.zeroValue55
 t46:=Tryz.underlying213
 a46:=Tryz.isAgg213
 z46:=Tryz.sizeOf213
 v46:=Tryz.zeroValue213
 t51:=Tryz.underlying260
 a51:=Tryz.isAgg260
 z51:=Tryz.sizeOf260
 v51:=Tryz.zeroValue260
 t53:=Tryz.underlying205
 a53:=Tryz.isAgg205
 z53:=Tryz.sizeOf205
 v53:=Tryz.zeroValue205
 t131:=Tryz.underlying140
 a131:=Tryz.isAgg140
 z131:=Tryz.sizeOf140
 v131:=Tryz.zeroValue140
 t182:=Tryz.underlying253
 a182:=Tryz.isAgg253
 z182:=Tryz.sizeOf253
 v182:=Tryz.zeroValue253
 t183:=Tryz.underlying254
 a183:=Tryz.isAgg254
 z183:=Tryz.sizeOf254
 v183:=Tryz.zeroValue254
 t218:=Tryz.underlying282
 a218:=Tryz.isAgg282
 z218:=Tryz.sizeOf282
 v218:=Tryz.zeroValue282
 t222:=Tryz.underlying286
 a222:=Tryz.isAgg286
 z222:=Tryz.sizeOf286
 v222:=Tryz.zeroValue286
 t228:=Tryz.underlying308
 a228:=Tryz.isAgg308
 z228:=Tryz.sizeOf308
 v228:=Tryz.zeroValue308
 t229:=Tryz.underlying288
 a229:=Tryz.isAgg288
 z229:=Tryz.sizeOf288
 v229:=Tryz.zeroValue288 }
def Tryz.agl:Go.Shelf.Ren:=⟨fun|15=>140|n=>n,fun|22=>55|3=>3|4=>4|n=>n,fun|n=>n⟩
theorem Tryz.aaF:Go.Proofs.Lays2.n15 Tryz.prog Tryz.agl:={
 mixed:=by kernel_rfl
 f15:=Tryz.func140.trans (congrArg some (by kernel_rfl))
 t3:=Tryz.underlying3
 a3:=Tryz.isAgg3
 z3:=Tryz.sizeOf3
 v3:=Tryz.zeroValue3
 t4:=Tryz.underlying4
 a4:=Tryz.isAgg4
 z4:=Tryz.sizeOf4
 v4:=Tryz.zeroValue4
 t22:=Tryz.underlying55
 a22:=Tryz.isAgg55
 z22:=Tryz.sizeOf55
 v22:=Tryz.zeroValue55
 i3:=by kernel_rfl }
end Go.Proofs
namespace Go.Sh
open Go.RowKit
theorem akG{w w':World}{g q:Nat}{c:List Value}{e:TypeId}{d:Array Int}{os:Array Obj}(B:Blk w g c e)(hd:d.size≤c.length)
  (hw:w'=Sort.grow (Sort.putRow (Value.int .i64) (Sort.ahead w q) g 0 d) os):ExtBut (· = g) w w'∧Blk w' g (d.toList.map (Value.int .i64)++c.drop d.size) e:=by
 subst hw
 have hg:g<w.heap.size:=(Array.getElem?_eq_some_iff.1 B).1
 have hput:∀k,(Sort.putRow (Value.int .i64) (Sort.ahead w q) g 0 d).heap[k]? = if g=k then(w.heap[k]?).map (Sort.onCells (Sort.putCells (Value.int .i64) 0 d))else w.heap[k]?:=λk=>by
  simp only[Sort.putRow,Sort.mapBlock,Array.getElem?_modify]
  split<;>rfl
 have hsz:(Sort.putRow (Value.int .i64) (Sort.ahead w q) g 0 d).heap.size=w.heap.size:=by simp[Sort.ahead]
 refine⟨⟨rfl,rfl,rfl,by simp only[Sort.grow,Array.size_append,hsz];omega,λk hk hne=>?_⟩,?_⟩
 ·show((Sort.putRow (Value.int .i64) (Sort.ahead w q) g 0 d).heap++os)[k]? = _
  rw[Array.getElem?_append_left (by rw[hsz];exact hk),hput,if_neg (λh=>hne h.symm)]
 ·show((Sort.putRow (Value.int .i64) (Sort.ahead w q) g 0 d).heap++os)[g]? = _
  rw[Array.getElem?_append_left (by rw[hsz];exact hg),hput,if_pos rfl,B,Option.map_some]
  simp only[Sort.onCells]
  congr 2
  apply Array.ext_getElem?
  intro i
  simp only[Sort.putCells,Array.getElem?_mapIdx,List.getElem?_toArray,List.getElem?_append,List.length_map,Array.length_toList,List.getElem?_map,List.getElem?_drop,gzl,true_and,Nat.zero_add,Nat.sub_zero]
  by_cases hi:i<d.size
  ·rw[if_pos hi,gqg (by omega),Option.map_some,if_pos hi,Array.getElem?_toList,Array.getElem?_eq_getElem hi,getElem!_pos d i hi];rfl
  ·rw[if_neg hi,show d.size+(i-d.size)=i by omega]
   cases h:c[i]? with
   |none=>rfl
   |some x=>rw [Option.map_some,if_neg hi]
end Go.Sh
namespace Go.Proofs
open Go.Sh Go.RowKit
section
def Zy(l:List Int):List Int:=l.mergeSort λx y=>decide (x≤y)
theorem QD{l:List Int}:(Zy l).length=l.length:=List.length_mergeSort l
variable {w0 w:World} {r:Gh} {L:List Asr} {X:Nat→Prop}
theorem agm{v:Value}{l:List Int}{K:Value→World→Prop}(S:StX X w0 r w (.row v 3 1 l.length (ints l)::L))(hl:l.length<4611686018427387904)
  (h:∀w',StX X w0 r w' (.row v 3 1 l.length (ints (Zy l))::L)→K (.tuple #[]) w'):zd Tryz.prog Tryz.vE #[v] w K:=by
 have hr:w.ownsRow 0 3 1 v l.length (ints l):=S.has _ (List.mem_cons_self ..)
 rcases kK hr with⟨rfl,h1,h2⟩|⟨g,cap,c,rfl,hg,B,hn,hm,hcl,ht⟩
 ·have hl0:l=[]:=List.eq_nil_of_length_eq_zero h1
  subst hl0
  refine Calls.mono (Any.slices_Sort_int_none Tryz.ai6 none 0 w) ?_
  rintro e w' ⟨rfl,rfl⟩
  exact⟨_,rfl,h _ (by rw[show Zy []=[]by simp[Zy]];exact S)⟩
 ·rw[Nat.mul_one]at hcl ht
  have hcell:∀j,j<l.length→w.cell? ⟨g,j,none⟩=some (.int .i64 l[j]!):=λj hj=>by
   have :(c.take l.length)[j]? = some (.int .i64 l[j]!):=by
    rw[ht,ints,List.getElem?_map,gqg hj,getElem!_pos l j hj];rfl
   rw[List.getElem?_take,if_pos hj]at this
   rw[B.cell];exact this
  have hfz:∀j,w.frozen? ⟨g,j,none⟩=false:=λj=>B.unfrozen j
  refine Calls.mono (Any.slices_Sort_int Tryz.ai6 g 0 cap l w (λj hj=>⟨?_,hfz _⟩) (Array.getElem?_eq_some_iff.1 B).1 hl) ?_
  ·have hj:j<l.length:=by simpa using hj
   rw[Nat.zero_add,hcell j hj]
   simp[getElem!_pos,hj]
  rintro e w' ⟨rfl,q,os,hw⟩
  obtain⟨hE,hB⟩:=akG (d:=(Zy l).toArray) B (by simp[QD];omega) hw
  refine⟨_,rfl,h w' ?_⟩
  refine S.turn (p:=[]) (x:=.row (.slice (some ⟨g,0,none⟩) l.length cap) 3 1 l.length (ints l)) (y:=.row (.slice (some ⟨g,0,none⟩) l.length cap) 3 1 l.length (ints (Zy l))) ?_ ?_ λk hk=>.inl hk
  ·exact hE.mono λk _ hk=>by subst hk;rfl
  ·have:=jx (base:=0) (e:=3) (size:=1) (n:=l.length) (cap:=cap) (gzl _) hB hn hm (by simp[QD];omega)
   have e:((Zy l).toArray.toList.map (Value.int .i64)++c.drop (Zy l).toArray.size).take (l.length*1)=ints (Zy l):=by
    rw[Nat.mul_one,List.take_append_of_le_length (by simp[QD])]
    exact List.take_of_length_le (by simp[QD])
   rwa[e]at this
end
end Go.Proofs
namespace Go.Proofs
abbrev anN:=List (List Int)
def isN(n:anN)(q:Int):Prop:=0≤q∧q<n.length
def mkd(m:List Bool):List Int:=((List.range m.length).filter λi=>m.getD i false).map Int.ofNat
theorem aeU:∀{a b:List Int},a.Nodup→(∀x∈a,x∈b)→a.length≤b.length
 |[],b,_,_=>gzl _
 |x::a,b,hn,hs=>by
  have hn':=List.nodup_cons.1 hn
  have hx:=hs x List.mem_cons_self
  have:=aeU (a:=a) (b:=b.erase x) hn'.2 λy hy=>by
   have hne:y≠x:=λe=>hn'.1 (e▸hy)
   exact(List.mem_erase_of_ne hne).2 (hs y (List.mem_cons_of_mem _ hy))
  rw[List.length_erase_of_mem hx]at this
  have hp:0<b.length:=List.length_pos_of_mem hx
  rw[List.length_cons];omega
end Go.Proofs
namespace Go.Proofs
open Go.Sh
section
variable {w:World} {r:Gh} {p:PtD} {c d:List Value} {K:Value→World→Prop} {g:GrD}
abbrev CnD:=Int×Int
theorem afH{t u:TyD}(h:bare t=bare u):t.k=u.k∧t.m=u.m∧t.st=u.st:=by
 obtain⟨a1,a2,a3⟩:=akE (t:=t)
 obtain⟨b1,b2,b3⟩:=akE (t:=u)
 rw[← a1,← a2,← a3,h]
 exact⟨b1,b2,b3⟩
theorem akH{s:Int}{n:Nat}{t u:TyD}(ht:zt s (n+1) t=true)(hu:zt s (n+1) u=true)(hb:bare t=bare u):
  (t.of=[]∧u.of=[]∧t.k≠4)∨∃x y,t.of=[x]∧u.of=[y]∧zt s n x=true∧zt s n y=true∧bare x=bare y:=by
 obtain⟨hk,_,_⟩:=afH hb
 rcases zB ht with⟨h1,h2⟩|⟨x,h1,h2,h3⟩
 ·rcases zB hu with⟨h4,h5⟩|⟨y,h4,h5,h6⟩
  ·exact .inl ⟨h1,h4,by omega⟩
  ·omega
 ·rcases zB hu with⟨h4,h5⟩|⟨y,h4,h5,h6⟩
  ·omega
  ·refine .inr ⟨x,y,h1,h4,h2,h5,?_⟩
   have e1:(bare t).of=[bare x]:=by show(t.mapR jH).of=_;rw[J3 h1];rfl
   have e2:(bare u).of=[bare y]:=by show(u.mapR jH).of=_;rw[J3 h4];rfl
   rw[hb,e2]at e1
   exact(List.cons.inj e1).1.symm
theorem RowOf.app{α:Type}{sz:Nat}{R:List Value→α→Prop}{xs ys:List Value}{l m:List α}(h:RowOf sz R xs l)(k:RowOf sz R ys m):RowOf sz R (xs++ys) (l++m):=by
 obtain⟨h1,h2⟩:=h
 obtain⟨k1,k2⟩:=k
 refine⟨by rw[gla,gla,h1,k1,Nat.add_mul],λi hi=>?_⟩
 by_cases hl:i<l.length
 ·have:=Nat.mul_le_mul_right sz (Nat.succ_le_of_lt hl)
  rw[Nat.succ_mul]at this
  rw[List.getElem_append_left hl,List.drop_append_of_le_length (by rw[h1];omega),List.take_append_of_le_length (by rw[List.length_drop,h1];omega)]
  exact h2 i hl
 ·rw[List.getElem_append_right (by omega)]
  have e:(xs++ys).drop (i*sz)=ys.drop ((i-l.length)*sz):=by
   rw[List.drop_append,List.drop_eq_nil_of_le (by rw[h1];exact Nat.mul_le_mul_right _ (by omega)),List.nil_append,h1,← Nat.sub_mul]
  rw[e]
  exact k2 _ _
def refOps(p:PtD):List OpD:=(if p.a.k≠0 then [p.a]else [])++(if p.b.k≠0 then [p.b]else [])++p.args
theorem acA{K:Value→World→Prop}(hr:Holds r w)(hp:PtG r c p)(hb:p.args.length≤1000)
  (h:∀v' s w',Ext w w'→New w s w'→SlG 4 s (OpG r) v' (refOps p)→K v' w'):zd Tryz.prog Tryz.vv #[.agg c.toArray] w K:=by
 refine Tryz.abo ?_
 unfold Tryz.XV
 obtain⟨z1,z2,z3,z4,z5,t1,t2,t3,t4,t5,rfl,hp0⟩:=xm hp
 obtain⟨kto,ka,kb,kl,kf⟩:=js hp0
 have S:=St.start hr
 refine S.box λb1 w1 S=>?_
 have S:StX noX w r w1 [.cell b1 (ptL p z1 z2 z3 z4 z5 t1 t2 t3 t4 t5) 96]:=S
 refine zk (λx w'=>∃vq xs,x=[vq]∧RowOf 4 (OpG r) xs (if p.a.k≠0 then [p.a]else [])∧StX noX w r w' [.row vq 93 4 (if p.a.k≠0 then [p.a]else []).length xs,.cell b1 (ptL p z1 z2 z3 z4 z5 t1 t2 t3 t4 t5) 96]) (λK2 hK2=>?_) ?_
 ·refine gg_ ?_
  have S:=S.ownNil 93 4
  refine zh (λhne=>?_) (λheq=>?_)
  ·rw[if_pos hne]at hK2
   refine gg_ ?_
   refine S.ldN (b:=b1) (vs:=[.int .u8 p.a.k,.int .i64 p.a.n,.int .i64 p.a.pl.l,.slice z2 p.a.pl.ps.length t2]) ?_
   refine S.lit (e:=93) (cs:=[.int .u8 p.a.k,.int .i64 p.a.n,.int .i64 p.a.pl.l,.slice z2 p.a.pl.ps.length t2]) (by kernel_rfl) λb5 w5 S=>?_
   refine S.ap (v:=.slice none 0 0) (m':=1) (Sl.blk (S.blk b5)) (λv6 w6 S=>?_) (by omega)
   have S:=S.drop b5
   exact hK2 _ _ ⟨v6,_,rfl,y8 rfl ka,S⟩
  ·rw[if_neg heq]at hK2
   exact hK2 _ _ ⟨.slice none 0 0,[],rfl,RowOf.nil,S⟩
 clear S
 rintro _ w5 ⟨v3,xs3,rfl,hrow3,S⟩ d5
 have hl3:(if p.a.k≠0 then [p.a]else []).length≤1:=by split<;>simp
 have hR:refOps p=(if p.a.k≠0 then [p.a]else [])++(if p.b.k≠0 then [p.b]else [])++p.args:=rfl
 rw[hR]at h
 generalize (if p.a.k≠0 then [p.a]else([]:List OpD))=A at hrow3 S hl3 h
 rw[gdz]
 refine zk (λx w'=>∃vq xs,x=[vq]∧RowOf 4 (OpG r) xs (A++(if p.b.k≠0 then [p.b]else []))∧StX noX w r w' [.row vq 93 4 (A++(if p.b.k≠0 then [p.b]else [])).length xs,.cell b1 (ptL p z1 z2 z3 z4 z5 t1 t2 t3 t4 t5) 96]) (λK8 hK8=>?_) ?_
 ·refine gg_ ?_
  refine zh (λhne=>?_) (λheq=>?_)
  ·rw[if_pos hne]at hK8
   refine gg_ ?_
   refine S.ldN (b:=b1) (vs:=[.int .u8 p.b.k,.int .i64 p.b.n,.int .i64 p.b.pl.l,.slice z3 p.b.pl.ps.length t3]) ?_
   refine S.lit (e:=93) (cs:=[.int .u8 p.b.k,.int .i64 p.b.n,.int .i64 p.b.pl.l,.slice z3 p.b.pl.ps.length t3]) (by kernel_rfl) λb5 w6 S=>?_
   refine S.ap (v:=v3) (m':=1) (Sl.blk (S.blk b5)) (λv6 w7 S=>?_) (by omega)
   have S:=S.drop b5
   refine hK8 _ _ ⟨v6,_,rfl,hrow3.snoc rfl kb,?_⟩
   rw[gla]
   exact S
  ·rw[if_neg heq,List.append_nil]at hK8
   exact hK8 _ _ ⟨v3,xs3,rfl,hrow3,S⟩
 clear S
 rintro _ w11 ⟨v9,xs9,rfl,hrow9,S⟩ d11
 have hl9:(A++(if p.b.k≠0 then [p.b]else [])).length≤2:=by
  rw[gla]
  have :(if p.b.k≠0 then [p.b]else []).length≤1:=by split<;>simp
  omega
 generalize A++(if p.b.k≠0 then [p.b]else [])=B at hrow9 S hl9 h
 rw[gdz]
 refine gg_ ?_
 obtain⟨xs,hxr,hxs⟩:=ai2 (by decide) kl.sl
 obtain⟨_,_,hE,hq4,_⟩:=kl.sl.shape
 cases hE
 refine S.ap (v:=v9) (S.at hxs) (λv25 w14 S=>?_) (by omega) hxr.1 hq4 (adG hxr (by decide) λc x hx=>ai3 hx)
 obtain⟨s,T,hs,_,hab⟩:=S.doneRow (RowOf.app hrow9 hxr) (by decide) (by rw[gla])
 exact h _ s _ T.ext (StX.newOf (q:=s) T λb o ho=>(hab b o ho).resolve_right id) hs
theorem QE{K:Value→World→Prop}(hr:Holds r w)(hp:PtG r c p)
  (h:∀w',Ext w w'→K (.bool (decide (1≤p.op)&&decide (p.op≤8))) w'):zd Tryz.prog Tryz.jc #[.agg c.toArray] w K:=by
 refine Tryz.acu ?_
 unfold Tryz.Qy
 obtain⟨z1,z2,z3,z4,z5,t1,t2,t3,t4,t5,rfl,hp0⟩:=xm hp
 have S:=St.start hr
 refine S.box λb1 w1 S=>?_
 have S:StX noX w r w1 [.cell b1 (ptL p z1 z2 z3 z4 z5 t1 t2 t3 t4 t5) 96]:=S
 refine gg_ ?_
 refine zg (c:=decide (p.op≤8)) (λ_ K2 hK2=>by refine gg_ ?_;exact hK2) ?_
 exact h _ S.ext
theorem agn{p q:PlD}{K:Value→World→Prop}(hr:Holds r w)(hp:PlG r c p)(hq:PlG r d q)
  (h:∀x w',Ext w w'→(x=0↔p=q)→K (.int .i64 x) w'):zd Tryz.prog Tryz.Yy #[.agg c.toArray,.agg d.toArray] w K:=by
 refine Tryz.aeM ?_
 unfold Tryz.VB
 obtain⟨v,rfl,hv⟩:=hp
 obtain⟨u,rfl,hu⟩:=hq
 obtain⟨pa,ca,rfl,_,_⟩:=hv.sl.shape
 obtain⟨pb,cb,rfl,_,_⟩:=hu.sl.shape
 have hla:p.ps.length≤9223372036854775807:=hv.few
 have S:=St.start hr
 refine S.box λb2 w1 S=>?_
 have S:StX noX w r w1 [.cell b2 [.int .i64 p.l,.slice pa p.ps.length ca] 80]:=S
 refine S.box λb3 w2 S=>?_
 have S:StX noX w r w2 [.cell b3 [.int .i64 q.l,.slice pb q.ps.length cb] 80,.cell b2 [.int .i64 p.l,.slice pa p.ps.length ca] 80]:=S
 have no1:∀{w'}{x:Int},Ext w w'→x≠0→p≠q→K (.int .i64 x) w':=λe hx hne=>h _ _ e ⟨λe=>absurd e hx,λe=>absurd e hne⟩
 refine gg_ ?_
 refine zh (λhne=>?_) (λheq=>?_)
 ·have hpq:p≠q:=λe=>hne (by rw[e])
  refine gg_ ?_
  refine zh (λ_=>no1 S.ext (by decide) hpq) (λ_=>no1 S.ext (by decide) hpq)
 have hl:p.l=q.l:=Decidable.not_not.1 heq
 refine zj (ι:=Nat) (λi=>[.int .i64 (i:Nat)]) (λi w'=>i≤p.ps.length∧i≤q.ps.length∧p.ps.take i=q.ps.take i∧StX noX w r w' [.cell b3 [.int .i64 q.l,.slice pb q.ps.length cb] 80,.cell b2 [.int .i64 p.l,.slice pa p.ps.length ca] 80]) (λi=>p.ps.length-i) 0 rfl ⟨gzl _,gzl _,rfl,S⟩ ?_
 clear S
 rintro i dd w6 ⟨hi,hj,htk,S⟩ K3 hK3
 rw[gdz]
 refine gg_ ?_
 refine zg (c:=decide ((i:Int)<q.ps.length)) (λ_ K2 hK2=>by refine gg_ ?_;exact hK2) ?_
 refine c_b (λhb=>?_) (λhb=>?_)
 ·simp only[gba,gdt]at hb
  have hlt:i<p.ps.length:=by omega
  have hlt2:i<q.ps.length:=by omega
  obtain⟨ba,oa,cc,rfl,hcl,⟨rfl,_⟩,hca⟩:=hv.sl.get (by decide) hlt
  obtain⟨bb,ob,dc,rfl,hdl,⟨rfl,_⟩,hcb⟩:=hu.sl.get (by decide) hlt2
  have S:=S.go (Ext.drew _)
  have lo1:∀{w':World}{M:List Asr},StX noX w r w' M→w'.cell? ⟨ba,oa+i,none⟩=some (.int .i64 p.ps[i]):=λS=>by simpa using S.at (hca 0 _ rfl)
  have lo2:∀{w':World}{M:List Asr},StX noX w r w' M→w'.cell? ⟨bb,ob+i,none⟩=some (.int .i64 q.ps[i]):=λS=>by simpa using S.at (hcb 0 _ rfl)
  refine gg_ ?_
  refine zf (v:=.int .i64 p.ps[i]) (by rw[tnc];exact lo1 S) ?_
  refine gg_ ?_
  refine zf (v:=.int .i64 q.ps[i]) (by rw[tnc];exact lo2 S) ?_
  refine gg_ ?_
  have hpq:p.ps[i]≠q.ps[i]→p≠q:=λhne e=>by subst e;exact hne rfl
  refine zh (λh1=>no1 S.ext (by decide) (hpq (by omega))) (λh1=>?_)
  have S:=S.go (Ext.drew _)
  refine gg_ ?_
  refine zf (v:=.int .i64 p.ps[i]) (by rw[tnc];exact lo1 S) ?_
  refine gg_ ?_
  refine zf (v:=.int .i64 q.ps[i]) (by rw[tnc];exact lo2 S) ?_
  refine gg_ ?_
  refine zh (λh2=>no1 S.ext (by decide) (hpq (by omega))) (λh2=>?_)
  refine gg_ ?_
  refine hK3 (i+1) _ ⟨hlt,hlt2,?_,S⟩ (by omega)
  rw[List.take_succ_eq_append_getElem hlt,List.take_succ_eq_append_getElem hlt2,htk,show p.ps[i]=q.ps[i]by omega]
 ·simp only[Bool.and_eq_false_iff,decide_eq_false_iff_not]at hb
  have hpl:p.ps.length≠q.ps.length→p≠q:=λhne e=>by subst e;exact hne rfl
  refine gg_ ?_
  refine zh (λh1=>no1 S.ext (by decide) (hpl (by omega))) (λh1=>?_)
  refine gg_ ?_
  refine zh (λh2=>no1 S.ext (by decide) (hpl (by omega))) (λh2=>?_)
  refine h _ _ S.ext ⟨λ_=>PlD.eq_iff.2 ⟨hl,?_⟩,λ_=>rfl⟩
  have hpi:p.ps.length=i:=by omega
  have hqi:q.ps.length=i:=by omega
  rwa[List.take_of_length_le (by omega),List.take_of_length_le (by omega)]at htk
theorem XZ{p q:PlD}{K:Value→World→Prop}(hr:Holds r w)(hp:PlG r c p)(hq:PlG r d q)
  (h:∀w',Ext w w'→K (.bool (eqb p q)) w'):zd Tryz.prog Tryz.jk #[.agg c.toArray,.agg d.toArray] w K:=by
 refine Tryz.af7 ?_
 unfold Tryz.aat
 obtain⟨v,rfl,hv⟩:=id hp
 obtain⟨u,rfl,hu⟩:=id hq
 have S:=St.start hr
 refine S.box λb2 w1 S=>?_
 refine S.box λb3 w2 S=>?_
 refine S.ldB (b:=b2) ?_ rfl
 refine S.ldB (b:=b3) ?_ rfl
 refine agn S.holds hp hq λx w4 e4 hx=>?_
 refine gg_ ?_
 have:=h _ (S.go e4).ext
 rwa[← anJ (b:=decide (x=0)) (by rw[decide_eq_true_iff,hx])]at this
theorem StX.join{X:Nat→Prop}{w0 w':World}{s:Gh}{L M:List Asr}(S:StX X w0 r w L)(T:StX noX w s w' M)(n:Above w s):StX X w0 (r.or s) w' (M++L):=by
 have S':=S.go T.x.ext
 refine⟨S'.x,S'.holds.or T.holds,λx hx=>?_,λx hx k hk=>?_,?_⟩
 ·rcases List.mem_append.1 hx with hx|hx
  ·exact T.has x hx
  ·exact S'.has x hx
 ·rcases List.mem_append.1 hx with hx|hx
  ·obtain⟨h1,h2⟩:=T.mine x hx k hk
   have h1:=h1.resolve_right id
   refine⟨.inl (Nat.le_trans S.x.size h1),λo ho=>ho.elim (λh=>?_) (h2 o)⟩
   have:=S.holds.lt h;omega
  ·refine⟨(S.mine x hx k hk).1,λo ho=>ho.elim ((S.mine x hx k hk).2 o) λh=>?_⟩
   have:=n k o h
   have:=Asr.lt (S.has x hx) hk;omega
 ·refine List.pairwise_append.2 ⟨T.apart,S.apart,λx hx y hy k hk hk'=>?_⟩
  have h1:=(T.mine x hx k hk).1.resolve_right id
  have:=Asr.lt (S.has y hy) hk';omega
theorem ahP{u:UnD}(h:zG u g p=true):0≤p.tx∧(p.op≠14→ZW g p.nx=true)∧(p.op=14→p.nx=0)∧ptG u g p=true:=by
 simp only[zG,gba,Bool.not_eq_true',Bool.or_eq_false_iff,decide_eq_false_iff_not,Bool.and_eq_false_iff,Bool.not_eq_false',gdt]at h
 obtain⟨⟨⟨a,b⟩,c⟩,d⟩:=h
 exact⟨by omega,λh=>b.resolve_left h,λh=>c.resolve_left (λh'=>h' h),d⟩
def alT(g:GrD):anN:=g.pts.map nextP
theorem ahQ:(alT g).length=g.pts.length:=List.length_map _
theorem ahR{q:Int}:ZW g q=true↔isN (alT g) q:=by
 rw[ZW,gba,gdt,gdt,isN,ahQ]
theorem ajL{u:UnD}(h:zG u g p=true):∀x∈nextP p,isN (alT g) x:=λx hx=>by
 obtain⟨_,h1,_,h3⟩:=ahP h
 rw[nextP]at hx
 split at hx
 ·cases hx
 rename_i h14
 have hnx:=ahR.1 (h1 h14)
 split at hx
 ·rename_i h12
  simp only[List.mem_cons,List.not_mem_nil,or_false]at hx
  rcases hx with rfl|rfl
  ·exact hnx
  ·rw[ptG]at h3
   simp only[h12.1,Int.reduceEq,if_false,if_true,gba]at h3
   exact ahR.1 h3.2
 ·rw[List.mem_singleton.1 hx];exact hnx
end
end Go.Proofs
namespace Go.Proofs
def X0(o:OpD):Bool:=decide (o.k=3)||decide (o.k=4)
def acB(p:PtD):Bool:=decide (1≤p.op)&&decide (p.op≤8)
end Go.Proofs
namespace Go.Proofs
open Go.Sh
theorem ajM{ss:List StD}{tys:List TyD}{p:PlD}(h:zK ss tys p≠none):zK ss [tys.getD p.l.toNat zI] ⟨0,p.ps⟩=zK ss tys p:=by
 unfold zK at h⊢
 by_cases ho:yd ss tys p=true
 ·have ho2:yd ss [tys.getD p.l.toNat zI] ⟨0,p.ps⟩=true:=by
   simp only[yd,gba,gdt,List.all_eq_true]at ho⊢
   obtain⟨⟨⟨h1,h2⟩,h3⟩,h4,h5⟩:=ho
   have hlt:p.l.toNat<tys.length:=by omega
   have he:tys.getD p.l.toNat zI=tys[p.l.toNat]:=by rw[ggd,gqg hlt];rfl
   refine⟨⟨⟨Int.le_refl 0,by simp⟩,h3⟩,h4,λt ht=>?_⟩
   rw[List.mem_singleton.1 ht,he];exact h5 _ (gem hlt)
  rw[if_pos ho,if_pos ho2];rfl
 ·rw[if_neg ho]at h;exact absurd rfl h
noncomputable def qB(ss:List StD)(tys:List TyD)(p:PlD):TyD:=(yx ss [tys.getD p.l.toNat zI] ⟨0,p.ps⟩).1
theorem anO{u:UnD}{n:Int}{g:GrD}{p:PlD}{fn:Nat}(hM:MayU u)(hH:HeadU u fn g)(ho:(zm u.ss g.tys p).2.2=true):
  yx u.ss (allD u g).tys p=(qB u.ss (allD u g).tys p,0)∧yx u.ss [(allD u g).tys.getD p.l.toNat zI] ⟨0,p.ps⟩=(qB u.ss (allD u g).tys p,0)∧isB (qB u.ss (allD u g).tys p)=true∧bare (qB u.ss (allD u g).tys p)=bare (zm u.ss g.tys p).1:=by
 obtain⟨x,h1,h2,h3,h4⟩:=alK (n:=n) hM hH ho
 have e:yx u.ss [(allD u g).tys.getD p.l.toNat zI] ⟨0,p.ps⟩=(x,0):=by
  rw[← h1,yx,yx,ajM h4]
 have e2:qB u.ss (allD u g).tys p=x:=by rw[qB,e]
 rw[e2]
 exact⟨h1,e,h2,h3⟩
theorem amP{α:Type}{P:List α→Prop}(h0:P [])(h:∀l x,P l→P (l++[x]))(l:List α):P l:=by
 have key:∀m:List α,P m.reverse:=by
  intro m
  induction m with
  |nil=>exact h0
  |cons x m ih=>rw [List.reverse_cons];exact h _ _ ih
 have:=key l.reverse
 rwa[List.reverse_reverse]at this
end Go.Proofs
namespace Go.BM
open Go.Sh
section
variable {ws:List (BitVec 64)} {W:Int}
def bit(ws:List (BitVec 64))(k:Nat):Bool:=(ws.getD (k/64) 0).getLsbD (k%64)
def May(W:Int)(ws:List (BitVec 64)):Prop:=0≤W∧W≤1032∧(ws.length:Int)=(W+63)/64∧∀k:Nat,W≤(k:Int)→k<64*ws.length→bit ws k=false
noncomputable def mayB(W:Int)(ws:List (BitVec 64)):Bool:=@decide (May W ws) (Classical.propDecidable _)
theorem mayB_iff:mayB W ws=true↔May W ws:=by simp[mayB]
theorem mayB_true(h:May W ws):mayB W ws=true:=mayB_iff.2 h
theorem mayB_false(h:¬May W ws):mayB W ws=false:=by simpa [mayB]using h
theorem alV{i:Nat}(hi:i<ws.length)(j:Nat)(hj:j<64):bit ws (64*i+j)=ws[i].getLsbD j:=by
 have h1:(64*i+j)/64=i:=by omega
 have h2:(64*i+j)%64=j:=by omega
 simp[bit,h1,h2,ggd,hi]
theorem alW(h0:0≤W)(h1:W≤1032)(hl:(ws.length:Int)=(W+63)/64)(hm:¬W%64=0)(hlt:ws.length-1<ws.length):
  May W ws↔ws[ws.length-1] >>> (W%64).toNat=0#64:=by
 have hp:ws.length=(W.toNat+63)/64:=by omega
 constructor
 ·rintro⟨_,_,_,hb⟩
  apply BitVec.eq_of_getLsbD_eq
  intro i hi
  rw[BitVec.getLsbD_ushiftRight,BitVec.getLsbD_zero]
  by_cases hi':(W%64).toNat+i<64
  ·have:=hb (64*(ws.length-1)+((W%64).toNat+i)) (by omega) (by omega)
   rwa[alV hlt _ hi']at this
  ·exact BitVec.getLsbD_of_ge _ _ (by omega)
 ·intro hz
  refine⟨h0,h1,hl,λk hk hk'=>?_⟩
  have h2:k/64=ws.length-1:=by omega
  have h3:k%64=(W%64).toNat+(k%64-(W%64).toNat):=by omega
  have h4:bit ws k=ws[ws.length-1].getLsbD (k%64):=by
   simp[bit,h2,ggd,hlt]
  rw[h4,h3,← BitVec.getLsbD_ushiftRight,hz];simp
theorem alX(h0:0≤W)(h1:W≤1032)(hl:(ws.length:Int)=(W+63)/64)(hm:W%64=0):May W ws:=
 ⟨h0,h1,hl,λk hk hk'=>by omega⟩
theorem aiy(x:BitVec 64)(n:Nat):(((x >>> n) &&& BitVec.ofInt 64 1).toNat:Int)=1↔x.getLsbD n=true:=by
 have h1:BitVec.ofInt 64 1=1#64:=rfl
 rw[h1]
 have h2:(x >>> n) &&& 1#64=if x.getLsbD n then 1#64 else 0#64:=by
  apply BitVec.eq_of_getLsbD_eq
  intro i hi
  rw[BitVec.getLsbD_and,BitVec.getLsbD_ushiftRight]
  by_cases h0:i=0
  ·subst h0;cases h:x.getLsbD n<;>simp
  ·have :(1#64).getLsbD i=false:=by
    rw[BitVec.getLsbD_ofNat]
    have :Nat.testBit 1 i=false:=by
     cases ht:Nat.testBit 1 i with
     |false=>rfl
     |true=>exact absurd (Nat.testBit_one_eq_true_iff_self_eq_zero.1 ht) h0
    simp[this]
   cases h:x.getLsbD n<;>simp [this]
 rw[h2]
 cases x.getLsbD n<;>simp
def Xf(g:BitVec 64→BitVec 64→BitVec 64)(ws:List (BitVec 64))(k:Int):List (BitVec 64):=
 ws.set (k.toNat/64) (g (ws.getD (k.toNat/64) 0) (BitVec.ofInt 64 1 <<< (k.toNat%64)))
def jJ(g:BitVec 64→BitVec 64→BitVec 64)(ws:List (BitVec 64))(ls:List Int):List (BitVec 64):=ls.foldl (Xf g) ws
theorem X1(g:BitVec 64→BitVec 64→BitVec 64)(ws:List (BitVec 64))(k:Int):(Xf g ws k).length=ws.length:=by simp[Xf]
theorem JC(g:BitVec 64→BitVec 64→BitVec 64):∀(ls:List Int)(ws:List (BitVec 64)),(jJ g ws ls).length=ws.length
 |[],_=>rfl
 |k::ls,ws=>by
  have:=JC g ls (Xf g ws k)
  simp only[jJ,List.foldl_cons]at this⊢
  rw[this,X1]
theorem ahS(g:BitVec 64→BitVec 64→BitVec 64)(ws:List (BitVec 64))(ls:List Int)(k:Int):jJ g ws (ls++[k])=Xf g (jJ g ws ls) k:=by
 simp[jJ]
def Ya(W:Int)(ls:List Int):Prop:=∀k∈ls,0≤k∧k<W
def Xg(x:BitVec 64):List Nat:=(List.range 64).filter x.getLsbD
theorem amQ(x:BitVec 64)(n m:Nat)(h:2 ^ n=m):(x >>> n).toNat=x.toNat/m:=by
 rw[BitVec.toNat_ushiftRight,Nat.shiftRight_eq_div_pow,h]
theorem ajN:Xg 0#64=[]:=by decide
theorem amR{x:BitVec 64}(h:x≠0#64):∃t,t<64∧(x &&& -x).toNat=2 ^ t∧Xg x=t::Xg (x &&& (x-BitVec.ofInt 64 1)):=by
 have h0:0<x.toNat:=by
  rcases Nat.eq_zero_or_pos x.toNat with h1|h1
  ·exact absurd (BitVec.eq_of_toNat_eq h1) h
  ·exact h1
 obtain⟨m,hm,ht⟩:=Lib.ctzFrom_spec 64 x.toNat h0 x.isLt
 generalize Lib.ctzFrom 64 x.toNat=t at hm ht
 have hand:=Lib.and_neg 64 t m (by rw[← hm];exact x.isLt)
 rw[← hm]at hand
 have hlt:∀j,j<t→x.getLsbD j=false:=λj hj=>by
  show x.toNat.testBit j=false
  rw[hm,Nat.testBit_two_pow_mul];simp;omega
 have hge:∀j,x.getLsbD (t+j)=(2*m+1).testBit j:=λj=>by
  show x.toNat.testBit (t+j)=_
  rw[hm,Nat.testBit_two_pow_mul];simp
 have hpos:0<2 ^ t:=Nat.two_pow_pos t
 have hsub:(x-BitVec.ofInt 64 1).toNat=2 ^ t*(2*m)+(2 ^ t-1):=by
  rw[show BitVec.ofInt 64 1=1#64 from rfl,BitVec.toNat_sub_of_le (by show(1#64).toNat≤x.toNat;exact h0),hm]
  have :2 ^ t*(2*m+1)=2 ^ t*(2*m)+2 ^ t:=by rw[Nat.mul_add,Nat.mul_one]
  show 2 ^ t*(2*m+1)-1=_
  omega
 have hsge:∀j,(x-BitVec.ofInt 64 1).getLsbD (t+j)=(2*m).testBit j:=λj=>by
  show(x-BitVec.ofInt 64 1).toNat.testBit (t+j)=_
  rw[hsub,Nat.testBit_two_pow_mul_add _ (i:=t) (by omega),if_neg (by omega),Nat.add_sub_cancel_left]
 refine⟨t,ht,?_,?_⟩
 ·rw[BitVec.toNat_and,BitVec.toNat_neg]
  have :(2 ^ 64-x.toNat)%2 ^ 64=2 ^ 64-x.toNat:=Nat.mod_eq_of_lt (by have:=x.isLt;omega)
  rw[this];exact hand
 ·unfold Xg
  have hr:List.range 64=List.range t++(t::List.range' (t+1) (63-t)):=by
   rw[List.range_eq_range',List.range_eq_range',← List.range'_succ]
   rw[show 63-t+1=64-t by omega]
   have:=List.range'_append (s:=0) (m:=t) (n:=64-t) (step:=1)
   simp only[Nat.one_mul,Nat.zero_add]at this
   rw[this,show t+(64-t)=64 by omega]
  have hxt:x.getLsbD t=true:=by have:=hge 0;simpa [Nat.testBit_zero]using this
  have hst:(x &&& (x-BitVec.ofInt 64 1)).getLsbD t=false:=by
   rw[BitVec.getLsbD_and];have:=hsge 0;rw[Nat.add_zero]at this;rw[this];simp[Nat.testBit_zero]
  have hA:∀z:BitVec 64,(∀j,j<t→z.getLsbD j=false)→(List.range t).filter z.getLsbD=[]:=λz hz=>by
   rw[List.filter_eq_nil_iff];intro j hj;rw[hz j (List.mem_range.1 hj)];simp
  rw[hr,List.filter_append,List.filter_append,hA x hlt,hA _ (λj hj=>by rw[BitVec.getLsbD_and,hlt j hj];rfl),List.nil_append,List.nil_append,
   List.filter_cons,List.filter_cons,hxt,hst]
  simp only[if_true,Bool.false_eq_true,if_false,List.cons.injEq,true_and]
  apply List.filter_congr
  intro j hj
  obtain⟨i,hi⟩:∃i,j=t+(i+1):=⟨j-t-1,by have:=(List.mem_range'_1.1 hj).1;omega⟩
  subst hi
  rw[BitVec.getLsbD_and,hge,hsge,Nat.testBit_succ,Nat.testBit_succ,show (2*m+1)/2=m by omega,show 2*m/2=m by omega]
  cases m.testBit i<;>rfl
theorem alY{t:Nat}(ht:t<64){x:BitVec 64}(hx:x.toNat=2 ^ t):
  ((x*BitVec.ofNat 64 285870213051353865) >>> 58).toNat<64∧Lib.deBruijn64tab.getD ((x*BitVec.ofNat 64 285870213051353865) >>> 58).toNat 0=t:=by
 have h:=Lib.deBruijn64_at t ht
 have e:((x*BitVec.ofNat 64 285870213051353865) >>> 58).toNat=2 ^ t*285870213051353865%18446744073709551616/288230376151711744:=by
  rw[amQ _ 58 288230376151711744 (by decide),BitVec.toNat_mul,hx];rfl
 rw[e];exact h
def jt:Nat→List (BitVec 64)→List Nat
 |_,[]=>[]
 |i,x::ws=>(Xg x).map (64*i + ·)++jt (i+1) ws
def X2(ws:List (BitVec 64)):List Nat:=jt 0 ws
theorem ago{i:Nat}(hi:i<ws.length)(k:Nat):
  jt k (ws.drop i)=(Xg ws[i]).map (64*k + ·)++jt (k+1) (ws.drop (i+1)):=by
 rw[List.drop_eq_getElem_cons hi];rfl
theorem acC(p:Nat→Bool)(a n:Nat):((List.range n).filter λj=>p (a+j)).map (a + ·)=(List.range' a n).filter p:=by
 rw[List.range'_eq_map_range,List.filter_map];rfl
theorem QF:∀(ws:List (BitVec 64))(i:Nat)(p:Nat→Bool),(∀k,k<64*ws.length→p (64*i+k)=bit ws k)→jt i ws=(List.range' (64*i) (64*ws.length)).filter p
 |[],_,_,_=>rfl
 |x::ws,i,p,h=>by
  rw[jt,QF ws (i+1) p (λk hk=>by
   have:=h (64+k) (by simp;omega)
   rw[show 64*i+(64+k)=64*(i+1)+k by omega]at this
   rw[this,bit,bit,show (64+k)/64=k/64+1 by omega,show (64+k)%64=k%64 by omega];rfl)]
  have h1:(Xg x).map (64*i + ·)=(List.range' (64*i) 64).filter p:=by
   rw[← acC]
   congr 1
   apply List.filter_congr
   intro j hj
   have hj:=List.mem_range.1 hj
   rw[h j (by simp;omega),bit,show j/64=0 by omega,show j%64=j by omega];rfl
  rw[h1,← List.filter_append]
  congr 1
theorem agp(ws:List (BitVec 64)):X2 ws=(List.range (64*ws.length)).filter (bit ws):=by
 rw[X2,QF ws 0 (bit ws) (λk _=>by rw[Nat.mul_zero,Nat.zero_add]),List.range_eq_range']
theorem ajO(h:May W ws):X2 ws=(List.range W.toNat).filter (bit ws):=by
 obtain⟨h0,h1,h2,h3⟩:=h
 rw[agp,show 64*ws.length=W.toNat+(64*ws.length-W.toNat)by omega,List.range_add,List.filter_append]
 have :((List.range (64*ws.length-W.toNat)).map (W.toNat + ·)).filter (bit ws)=[]:=by
  rw[List.filter_eq_nil_iff]
  intro k hk
  obtain⟨j,hj,rfl⟩:=List.mem_map.1 hk
  have:=List.mem_range.1 hj
  rw[h3 (W.toNat+j) (by omega) (by omega)];simp
 rw[this,List.append_nil]
theorem akI(x y:BitVec 64)(j:Nat)(_:j<64):(x ||| y).getLsbD j=(x.getLsbD j||y.getLsbD j):=BitVec.getLsbD_or
theorem amS(j i:Nat)(_:j<64)(hi:i<64):(BitVec.ofInt 64 1 <<< j).getLsbD i=decide (i=j):=by
 rw[show BitVec.ofInt 64 1=1#64 from rfl,BitVec.getLsbD_shiftLeft,BitVec.getLsbD_one]
 by_cases h:i=j
 ·subst h;simp[hi]
 ·by_cases h2:i<j
  ·simp[h2,h]
  ·have :¬(i-j=0):=by omega
   simp[h,this]
theorem alZ(l:List (BitVec 64))(i j:Nat)(x:BitVec 64)(hi:i<l.length):(l.set i x).getD j 0=if j=i then x else l.getD j 0:=by
 rw[ggd,List.getElem?_set]
 by_cases h:i=j
 ·subst h;simp[hi]
 ·have :¬j=i:=λe=>h e.symm
  simp[h,this,ggd]
theorem afI{g:BitVec 64→BitVec 64→BitVec 64}{h:Bool→Bool→Bool}(hg:∀x y j,j<64→(g x y).getLsbD j=h (x.getLsbD j) (y.getLsbD j))
  (hh:∀b,h b false=b) {ws:List (BitVec 64)} {n:Int} (hn:n.toNat<64*ws.length) (k:Nat):bit (Xf g ws n) k=if k=n.toNat then h (bit ws k) true else bit ws k:=by
 rw[bit,Xf,alZ _ _ _ _ (by omega)]
 by_cases h1:k/64=n.toNat/64
 ·rw[if_pos h1,hg _ _ _ (by omega),amS _ _ (by omega) (by omega),h1.symm]
  by_cases h2:k=n.toNat
  ·rw[if_pos h2,h2,gde rfl];rfl
  ·have :¬k%64=n.toNat%64:=by omega
   rw[if_neg h2,decide_eq_false this,hh];rfl
 ·rw[if_neg h1,if_neg (λe=>h1 (by rw[e]))];rfl
theorem akJ{g:BitVec 64→BitVec 64→BitVec 64}{h:Bool→Bool→Bool}(hg:∀x y j,j<64→(g x y).getLsbD j=h (x.getLsbD j) (y.getLsbD j))(hh:∀b,h b false=b)
  {W:Int} {ws:List (BitVec 64)} (hm:May W ws) {n:Int} (hn:0≤n∧n<W):May W (Xf g ws n):=by
 have hl:=hm.2.2.1
 refine⟨hm.1,hm.2.1,by rw[X1];exact hl,λk hk hk'=>?_⟩
 rw[X1]at hk'
 rw[afI hg hh (by omega),if_neg (by omega)]
 exact hm.2.2.2 k hk hk'
theorem adR{W:Int}:∀(ls:List Int)(ws:List (BitVec 64)),May W ws→Ya W ls→∀k,bit (jJ (λx y=>x ||| y) ws ls) k=(bit ws k||decide ((k:Int)∈ls))
 |[],_,_,_,k=>by simp[jJ]
 |n::ls,ws,hm,ha,k=>by
  have hn:=ha n (List.mem_cons_self ..)
  have h1:=adR ls (Xf (λx y=>x ||| y) ws n) (akJ (h:=λa b=>a||b) akI (by simp) hm hn) (λk hk=>ha k (List.mem_cons_of_mem _ hk)) k
  have hl:=hm.2.2.1
  simp only[jJ,List.foldl_cons]at h1⊢
  rw[h1,afI (h:=λa b=>a||b) akI (by simp) (by omega)]
  by_cases h2:k=n.toNat
  ·have :(k:Int)=n:=by omega
   simp[h2,show ((n.toNat:Int))=n by omega]
  ·have :¬(k:Int)=n:=by omega
   simp[h2,this]
theorem akK(h0:0≤W)(h1:W≤1032):May W (List.replicate ((W.toNat+63)/64) 0#64):=by
 refine⟨h0,h1,by rw[List.length_replicate];omega,λk _ _=>?_⟩
 simp[bit,ggd,List.getElem?_replicate]
 split<;>simp
theorem akL(n k:Nat):bit (List.replicate n 0#64) k=false:=by
 simp[bit,ggd,List.getElem?_replicate]
 split<;>simp
end
end Go.BM
namespace Go.Proofs
theorem al0{ss:List StD}{tys:List TyD}{p:PlD}(h:(zm ss tys p).2.2=true):0≤p.l∧p.l<(tys.length:Int):=by
 unfold zm at h
 split at h
 ·rename_i s hs
  by_cases h0:p.l<0
  ·rw[if_pos h0]at hs;cases hs
  ·rw[if_neg h0]at hs
   cases ht:tys[p.l.toNat]? with
   |none=>rw [ht]at hs;cases hs
   |some t=>
    have:=(List.getElem?_eq_some_iff.1 ht).1
    omega
 ·cases h
theorem acD{u:UnD}{g:GrD}{p:PtD}(h:zG u g p=true)(ho:p.op=4∨p.op=10∨p.op=11):(zm u.ss g.tys p.fr).2.2=true:=by
 have h2:=Z0 h
 cases hf:(zm u.ss g.tys p.fr).2.2 with
 |true=>rfl
 |false=>
  rw[ptG]at h2
  rcases ho with hc|hc|hc<;>simp [hc,hf]at h2
end Go.Proofs
namespace Go.Sh
open Go.RowKit
section
section
variable {P:Program} {X:Nat→Prop} {w0 w:World} {r:Gh} {L:List Asr} {e:TypeId} {sz m:Nat} {xs:List Value} {g:Asr→List Asr}
theorem StX.cutRow{p:Option Addr}{cap n:Nat}(S:StX X w0 r w L)[h:qc (.slice p m cap) L e sz m xs g](hn:n≤m):StX X w0 r w (g (.row (.slice p n cap) e sz n (xs.take (n*sz)))):=by
 obtain⟨pp,qq,h2,h3⟩:=h.h
 have hr:=S.has (.row (.slice p m cap) e sz m xs) (by rw[h2];simp)
 rw[h3]
 rw[h2]at S
 rcases kK hr with⟨hv,h0,hx⟩|⟨b,cap',c,hv,hb,B,hm,hM,hc,ht⟩
 ·cases hv
  have :n=0:=by omega
  subst this
  subst hx
  refine S.turn (x:=.row (.slice none 0 0) e sz 0 []) (y:=.row (.slice none 0 0) e sz 0 ([].take (0*sz))) (ExtBut.refl _ _) ?_ λk hk=>.inl hk
  simpa using hr
 ·cases hv
  refine S.turn (x:=.row (.slice (some ⟨b,0,none⟩) m cap) e sz m xs) (y:=.row (.slice (some ⟨b,0,none⟩) n cap) e sz n (xs.take (n*sz))) (ExtBut.refl _ _) ?_ λk hk=>.inl hk
  have:=jx (base:=0) (e:=e) (size:=sz) (n:=n) (gzl _) B (by omega) hM hc
  rw[← ht,List.take_take,Nat.min_eq_left (Nat.mul_le_mul_right _ hn)]
  exact this
end
end
end Go.Sh
namespace Go.Proofs
open Go.Sh Go.RowKit
section
variable {l:List Int} {r:Gh} {p:Option Addr}
theorem qN:RowOf 1 yz (ints l) l:=⟨by rw[yh,Nat.mul_one],λj hj=>by
 rw[Nat.mul_one,ints,← List.map_drop,← List.map_take,List.drop_eq_getElem_cons hj];rfl⟩
theorem akM{α:Type}{V:α→Value}{n cap:Nat}{l:List α}(h:SlG 1 r (λc x=>c=[V x]) (.slice p n cap) l){i:Nat}(hi:i<l.length):
  ∃b off,p=some ⟨b,off,none⟩∧n=l.length∧Ob r λw=>w.cell? ⟨b,off+i,none⟩=some (V l[i]):=by
 have hsh:=h.shape
 obtain⟨p',cap',e,_,_⟩:=hsh
 obtain⟨b,off,c,hE,hc,hcc,hcl⟩:=h.get (by decide) hi
 obtain rfl:c=_:=hcc
 cases e
 cases hE
 refine⟨b,off,rfl,rfl,?_⟩
 have:=hcl 0 _ rfl
 rwa[show off+i*1+0=off+i by omega]at this
theorem xW{n cap:Nat}(h:SlG 1 r yz (.slice p n cap) l){i:Nat}(hi:i<l.length):∃b off,p=some ⟨b,off,none⟩∧n=l.length∧Ob r λw=>w.cell? ⟨b,off+i,none⟩=some (.int .i64 l[i]):=akM (V:=Value.int .i64) h hi
theorem aiz{v:Value}{w0 w:World}{L:List Asr}{X:Nat→Prop}{K:Value→World→Prop}(S:StX X w0 r w L)(hl:SlG 1 r yz v l)(hf:l.length≤1000000)
  (h:∀v' w',StX X w0 r w' (.row v' 3 1 l.length (ints l)::L)→K v' w'):zd Tryz.prog Tryz.jU #[v] w K:=by
 obtain⟨p,cap,rfl,hp,_⟩:=hl.shape
 by_cases h0:l=[]
 ·subst h0
  cases p with
  |none=>
   have:=hp rfl;subst this
   refine Calls.mono (Any.slices_Clone_int_nil Tryz.aaF 0 0 w) ?_
   rintro e w' ⟨rfl,rfl⟩
   exact⟨_,rfl,h _ _ (S.ownNil 3 1)⟩
  |some a=>
   refine Calls.mono (Any.slices_Clone_int_zero Tryz.aaF a cap w) ?_
   rintro e w' ⟨v',rfl,ho,_,hB⟩
   have hE:Ext w w':=⟨hB.os,hB.tape,hB.output,hB.size,hB.block⟩
   exact⟨_,rfl,h _ _ (S.take hE ho)⟩
 ·obtain⟨b,off,rfl,_,_⟩:=xW hl (i:=0) (List.length_pos_iff.2 h0)
  refine Calls.mono (Any.slices_Clone_int Tryz.aaF b off l.length cap l w (Nat.le_refl _) (by omega) λj hj=>?_) ?_
  ·obtain⟨b',off',hE,_,hc⟩:=xW hl hj
   cases hE
   rw[S.at hc,ggd,gqg hj];rfl
  rintro e w' ⟨v',rfl,ho,_,hB⟩
  have hE:Ext w w':=⟨hB.os,hB.tape,hB.output,hB.size,hB.block⟩
  rw[List.take_length]at ho
  exact⟨_,rfl,h _ _ (S.take hE ho)⟩
end
section
variable {m:List Bool}
theorem acE{i:Nat}(hi:i<m.length):mkd (m.take (i+1))=mkd (m.take i)++(if m[i]=true then [(i:Int)]else []):=by
 have hl:(m.take (i+1)).length=i+1:=by rw[List.length_take];omega
 have hl':(m.take i).length=i:=by rw[List.length_take];omega
 rw[mkd,mkd,hl,hl',List.range_succ,List.filter_append,List.map_append]
 congr 1
 ·congr 1
  refine List.filter_congr λx hx=>?_
  have:=List.mem_range.1 hx
  rw[ggd,ggd,List.getElem?_take,List.getElem?_take,if_pos (by omega),if_pos this]
 ·have e:(m.take (i+1)).getD i false=m[i]:=by
   rw[ggd,List.getElem?_take,if_pos (by omega),gqg hi];rfl
  cases hm:m[i]with
  |true=>rw [List.filter_cons_of_pos (by rw[e,hm])];simp
  |false=>rw [List.filter_cons_of_neg (by rw[e,hm];simp)];simp
theorem amT:(mkd m).length≤m.length:=by
 rw[mkd,List.length_map];exact Nat.le_trans (List.length_filter_le _ _) (by simp)
theorem QG{l:List Int}{x:Int}:ints (l++[x])=ints l++[.int .i64 x]:=by simp[ints]
end
end Go.Proofs
namespace Go.Proofs.Tryz
open Go.Sh
def xy(t0 t1:Value)(w:World)(K:VW):Prop:=
 ca yM #[t0,t1] w λt7 w1=>
 bt .geq 3 t7 (i6 0) λt8=>K t8 w1
theorem qW{t0 t1:Value}{w:World}{K:VW}(h:xy t0 t1 w K):zd prog yy #[t0,t1] w K:=
 okC false (.s (.r (rz 1 0 0)) (.s (.r (rz 5 0 32)) (.n))) func61 rfl (by kernel_rfl) (by kernel_rfl) h
def xQ(t0 t1:Value)(w:World)(K:VW):Prop:=
 pp (Builtin.len_ #[44] 3 #[t0]) λt7=>zp [(i6 0)] w (λs2 _d3 w4 K1=>
 bf .lss 3 (s2.getD 0 u_) t7 λt9=>zc t9 (xl w4 44 t0 (s2.getD 0 u_) 48 λt15=>cv t1 #[t15] w4 λt16 w5=>
 zc t16 (K (s2.getD 0 u_) w5) (bt .add 3 (s2.getD 0 u_) (i6 1) λt18=>K1 [t18] w5)) (K (i6 (-1)) w4))
theorem jK{t0 t1:Value}{w:World}{K:VW}(h:xQ t0 t1 w K):zd prog yM #[t0,t1] w K:=
 okC false (.s (.r (rz 1 0 0)) (.s (.s (.r (rz 3 0 0)) (.b (.lp [8] (.s (.r (rz 1 0 0)) (.s (.c (.n) (.n)) (.s (.b (.s (.r (rz 2 0 0)) (.s (.r (rz 6 0 2304)) (.c (.s (.r (rz 2 0 0)) (.n)) (.n))))) (.r (rz 2 0 0)))))))) (.s (.r (rz 1 0 0)) (.n)))) func125 rfl (by kernel_rfl) (by kernel_rfl) h
end Go.Proofs.Tryz
namespace Go.Proofs
open Go.Sh Go.RowKit
theorem abf{r:Gh}{p:Option Addr}{n cap:Nat}{l:List Int}(h:SlG 1 r xp (.slice p n cap) l){i:Nat}(hi:i<l.length):∃b off,p=some ⟨b,off,none⟩∧n=l.length∧Ob r λw=>w.cell? ⟨b,off+i,none⟩=some (.int .i64 l[i]):=
 xW (h.mono λc x hx=>hx.1) hi
end Go.Proofs
namespace Go.Proofs.Tryz
open Go.Sh
section
variable {t0:Value} {w:World} {K:VW}
def adS(t0:Value)(w:World)(K:VW):Prop:=
 pw w (Instr.alloc 48 true (.tuple #[])) λt2 w1=>
 bt .lss 3 t0 (i6 0) λt5=>za (λK2=>gIf t5 false (bt .gtr 3 t0 (i6 1032) λt8=>K2 [t8] w1) (K2 [u_] w1)) (λs3 _d4 w5=>
 zb t5 tr_ (s3.getD 0 u_) λt9=>zc t9 (pp (Instr.build 48 #[]) λt10=>so w5 48 t2 t10 λw6=>pq w6 (zi 48 t2) λr7=>K (.tuple #[r7,(i6 2)]) w6) (bt .add 3 t0 (i6 63) λt13=>bt .quo 3 t13 (i6 64) λt14=>pw w5 (Instr.makeSlice 46 t14 t14) λt15 w8=>
 pp (Instr.build 48 #[(0,t0),(1,t15)]) λt16=>so w8 48 t2 t16 λw9=>pq w9 (zi 48 t2) λr10=>K (.tuple #[r10,(i6 0)]) w9))
theorem aiA(h:adS t0 w K):zd prog JT #[t0] w K:=
 okC false (.s (.r (rz 2 0 2)) (.s (.s (.r (ra 3 0 0 (.grp 6 false (ri 2 3 0) [8] (rz 1 5 0)))) (.c (.s (.r (rz 3 0 8)) (.n)) (.n))) (.s (.r (rz 8 0 8704)) (.n)))) func154 rfl (by kernel_rfl) (by kernel_rfl) h
def adT(t0:Value)(w:World)(K:VW):Prop:=
 pw w (Instr.box 48 t0) λt1 w1=>
 fl w1 t1 48 0 3 λt4=>bt .lss 3 t4 (i6 0) λt5=>za (λK2=>gIf t5 false (fl w1 t1 48 0 3 λt8=>bt .gtr 3 t8 (i6 1032) λt9=>K2 [t9] w1) (K2 [u_] w1)) (λs3 _d4 w5=>
 zb t5 tr_ (s3.getD 0 u_) λt10=>za (λK6=>gIf t10 false (fl w5 t1 48 1 46 λt13=>pp (Builtin.len_ #[46] 3 #[t13]) λt14=>fl w5 t1 48 0 3 λt16=>bt .add 3 t16 (i6 63) λt17=>bt .quo 3 t17 (i6 64) λt18=>bf .neq 3 t14 t18 λt19=>K6 [t19] w5) (K6 [u_] w5)) (λs7 _d8 w9=>
 zb t10 tr_ (s7.getD 0 u_) λt20=>zc t20 (K fa_ w9) (fl w9.drew t1 48 0 3 λt22=>bt .rem 3 t22 (i6 64) λt23=>bt .eql 3 t23 (i6 0) λt24=>za (λK10=>gIf t24 false (fl w9.drew t1 48 1 46 λt27=>fl w9.drew t1 48 1 46 λt29=>pp (Builtin.len_ #[46] 3 #[t29]) λt30=>bt .sub 3 t30 (i6 1) λt31=>xl w9.drew 46 t27 t31 205 λt33=>fl w9.drew t1 48 0 3 λt35=>bt .rem 3 t35 (i6 64) λt36=>bf .shr 205 t33 t36 λt37=>bt .eql 205 t37 (Value.int .u64 0) λt38=>K10 [t38] w9.drew) (K10 [u_] w9.drew)) (λs11 _d12 w13=>
 zb t24 tr_ (s11.getD 0 u_) λt39=>K t39 w13))))
theorem aiB(h:adT t0 w K):zd prog Y6 #[t0] w K:=
 okC false (.s (.r (rz 2 0 2)) (.s (.s (.r (ra 4 0 4 (.grp 6 false (ri 3 4 4) [9] (ra 2 7 0 (.grp 11 false (ri 8 9 260) [19] (rz 1 17 0)))))) (.c (.s (.r (rz 1 0 0)) (.n)) (.n))) (.s (.r (ra 5 0 4 (.grp 25 false (ri 13 5 278596) [38] (rz 2 18 0)))) (.n)))) func63 rfl (by kernel_rfl) (by kernel_rfl) h
def aaG(t0 t1:Value)(w:World)(K:VW):Prop:=
 pw w (Instr.box 48 t0) λt2 w1=>
 pw w1 (Instr.box 48 t1) λt3 w2=>
 fl w2 t2 48 0 3 λt7=>fl w2 t3 48 0 3 λt9=>bf .neq 3 t7 t9 λt10=>za (λK3=>gIf t10 false (fl w2 t2 48 1 46 λt13=>pp (Builtin.len_ #[46] 3 #[t13]) λt14=>fl w2 t3 48 1 46 λt16=>pp (Builtin.len_ #[46] 3 #[t16]) λt17=>bf .neq 3 t14 t17 λt18=>K3 [t18] w2) (K3 [u_] w2)) (λs4 _d5 w6=>
 zb t10 tr_ (s4.getD 0 u_) λt19=>zc t19 (K fa_ w6) (zp [(i6 0)] w6 (λs8 _d9 w10 K7=>
 fl w10 t2 48 1 46 λt22=>pp (Builtin.len_ #[46] 3 #[t22]) λt23=>bf .lss 3 (s8.getD 0 u_) t23 λt24=>zc t24 (fl w10.drew t2 48 1 46 λt28=>xl w10.drew 46 t28 (s8.getD 0 u_) 205 λt31=>fl w10.drew t3 48 1 46 λt33=>xl w10.drew 46 t33 (s8.getD 0 u_) 205 λt36=>bf .neq 205 t31 t36 λt37=>zc t37 (K fa_ w10.drew) (bt .add 3 (s8.getD 0 u_) (i6 1) λt26=>K7 [t26] w10.drew)) (K tr_ w10))))
theorem agq{t1:Value}(h:aaG t0 t1 w K):zd prog Xy #[t0,t1] w K:=
 okC false (.s (.r (rz 3 0 10)) (.s (.s (.r (ra 6 0 68 (.grp 11 false (ri 7 6 260) [18] (rz 1 13 0)))) (.c (.s (.r (rz 1 0 0)) (.n)) (.n))) (.s (.s (.r (rz 1 0 0)) (.b (.lp [5] (.s (.s (.r (rz 5 0 16)) (.c (.n) (.n))) (.s (.b (.s (.r (rz 11 0 266500)) (.c (.s (.r (rz 1 0 0)) (.n)) (.n)))) (.r (rz 3 0 0))))))) (.s (.r (rz 1 0 0)) (.n))))) func77 rfl (by kernel_rfl) (by kernel_rfl) h
def adU(t0 t1:Value)(w:World)(K:VW):Prop:=
 pw w (Instr.alloc 48 true (.tuple #[])) λt4 w1=>
 ca Xz #[t0] w1 λt8 w2=>
 pw w2 (Instr.alloc 48 true (.tuple #[])) λt5 w3=>
 so w3 48 t5 t8 λw4=>zp [(i6 0)] w4 (λs6 _d7 w8 K5=>
 pp (Builtin.len_ #[55] 3 #[t1]) λt11=>bf .lss 3 (s6.getD 0 u_) t11 λt12=>zc t12 (fl w8.drew t5 48 1 46 λt16=>xl w8.drew 55 t1 (s6.getD 0 u_) 3 λt20=>bt .quo 3 t20 (i6 64) λt21=>fl w8.drew t5 48 1 46 λt23=>xl w8.drew 55 t1 (s6.getD 0 u_) 3 λt27=>bt .quo 3 t27 (i6 64) λt28=>xl w8.drew 46 t23 t28 205 λt30=>xl w8.drew 55 t1 (s6.getD 0 u_) 3 λt34=>bt .rem 3 t34 (i6 64) λt35=>bt .shl 205 (Value.int .u64 1) t35 λt36=>bf .or 205 t30 t36 λt37=>px 46 t16 t21 λt38=>so w8.drew 205 t38 t37 λw9=>bt .add 3 (s6.getD 0 u_) (i6 1) λt14=>K5 [t14] w9) (lo w8 48 t5 λt39=>so w8 48 t4 t39 λw10=>pq w10 (zi 48 t4) λr11=>K r11 w10))
theorem aiC{t1:Value}(h:adU t0 t1 w K):zd prog JU #[t0,t1] w K:=
 okC false (.s (.r (rz 1 0 2)) (.s (.r (rz 4 0 168)) (.s (.s (.r (rz 1 0 0)) (.b (.lp [6] (.s (.s (.r (rz 4 0 0)) (.c (.n) (.n))) (.s (.b (.r (rz 25 0 563225921913860))) (.r (rz 3 0 0))))))) (.s (.r (rz 2 0 9)) (.n))))) func139 rfl (by kernel_rfl) (by kernel_rfl) h
def aaH(t0:Value)(w:World)(K:VW):Prop:=
 pw w (Instr.alloc 48 true (.tuple #[])) λt2 w1=>
 bt .add 3 t0 (i6 63) λt5=>bt .quo 3 t5 (i6 64) λt6=>pw w1 (Instr.makeSlice 46 t6 t6) λt7 w2=>
 pp (Instr.build 48 #[(0,t0),(1,t7)]) λt8=>so w2 48 t2 t8 λw3=>pq w3 (zi 48 t2) λr4=>K r4 w3
theorem agr(h:aaH t0 w K):zd prog Xz #[t0] w K:=
 okC false (.s (.r (rz 1 0 2)) (.s (.r (rz 7 0 8704)) (.n))) func184 rfl (by kernel_rfl) (by kernel_rfl) h
end
end Go.Proofs.Tryz
namespace Go.Proofs
open Go.Sh Go.RowKit Go.BM
section
variable {r:Gh} {c:List Value}
def WdC(c:List Value)(x:BitVec 64):Prop:=c=[u64 x]
def RwbC(r:Gh)(c:List Value)(x:Int×List (BitVec 64)):Prop:=∃p cap,c=[.int .i64 x.1,.slice p x.2.length cap]∧SlB 1 r WdC (.slice p x.2.length cap) x.2
theorem RwbC.up{s:Gh}{x:Int×List (BitVec 64)}(h:RwbC r c x)[le:Le r s]:RwbC s c x:=by
 obtain⟨p,cap,h1,h2⟩:=h;exact⟨p,cap,h1,h2.cells⟩
theorem JD{p:Option Addr}{n cap:Nat}{l:List (BitVec 64)}(h:SlG 1 r WdC (.slice p n cap) l){i:Nat}(hi:i<l.length):∃b off,p=some ⟨b,off,none⟩∧n=l.length∧Ob r λw=>w.cell? ⟨b,off+i,none⟩=some (u64 l[i]):=akM (V:=u64) h hi
theorem adV{W:Int}{ws:List (BitVec 64)}{w:World}{K:Value→World→Prop}(hr:Holds r w)(hx:RwbC r c (W,ws))
  (h:∀w',Ext w w'→K (.bool (BM.mayB W ws)) w'):zd Tryz.prog Tryz.Y6 #[.agg c.toArray] w K:=by
 refine Tryz.aiB ?_
 unfold Tryz.adT
 obtain⟨p,cap,rfl,hS⟩:=hx
 have hfew:ws.length≤9223372036854775807:=hS.few
 have S:=St.start hr
 refine S.box λb1 w1 S=>?_
 have S:StX noX w r w1 [.cell b1 [.int .i64 W,.slice p ws.length cap] 48]:=S
 refine gg_ ?_
 refine zn (c:=decide (1032<W)) (λ_ K2 hK2=>by refine gg_ ?_;exact hK2) ?_
 refine zn (c:=decide ((ws.length:Int)≠(W+63)/64)) (λhb K2 hK2=>?_) ?_
 ·simp only[Bool.or_eq_false_iff,decide_eq_false_iff_not]at hb
  refine gg_ ?_
  exact hK2
 refine c_b (λhb=>?_) (λhb=>?_)
 ·rw[BM.mayB_false (λhm=>by
   simp only[Bool.or_eq_true,gdt]at hb
   have:=hm.1;have:=hm.2.1;have:=hm.2.2.1
   omega)]at h
  exact h _ S.ext
 simp only[Bool.or_eq_false_iff,decide_eq_false_iff_not,Decidable.not_not]at hb
 obtain⟨⟨h0,h1⟩,h2⟩:=hb
 have S:=S.go (Ext.drew _)
 refine gg_ ?_
 by_cases h3:W%64=0
 ·rw[gde h3]
  refine zn (c:=true) (λhc=>by cases hc) ?_
  rw[BM.mayB_true (alX (by omega) (by omega) h2 h3)]at h
  exact h _ S.ext
 rw[decide_eq_false h3]
 have hlt:ws.length-1<ws.length:=by omega
 obtain⟨b2,o2,rfl,_,hc⟩:=JD hS.sl hlt
 have hz:(((ws[ws.length-1] >>> (W%64).toNat).toNat:Int)=0)↔BM.May W ws:=by
  rw[alW (by omega) (by omega) h2 h3 hlt]
  constructor
  ·intro hz;apply BitVec.eq_of_toNat_eq;have h9:(ws[ws.length-1] >>> (W%64).toNat).toNat=0:=by omega
   rw[h9];rfl
  ·intro hz;rw[hz];rfl
 have hE:BM.mayB W ws=decide (((ws[ws.length-1] >>> (W%64).toNat).toNat:Int)=0):=by unfold BM.mayB;simp only[← hz]
 rw[hE]at h
 generalize ws[ws.length-1]=x at hc h
 refine zn (c:=decide (((x >>> (W%64).toNat).toNat:Int)=0)) (λ_ K2 hK2=>?_) ?_
 ·refine gg_ ?_
  refine zf (by rw[show ((ws.length:Int)-1).toNat=ws.length-1 by omega];exact S.at hc) ?_
  refine gg_ ?_
  exact hK2
 exact h _ S.ext
end
end Go.Proofs
namespace Go.Sh
open Go.RowKit Go.MapKept
section
def mpI(P:Program)(t:TypeId):Option (TypeId×TypeId):=match P.underlying t with
 |some (.map k e)=>(match P.underlying k with|some (.int .i64)=>some (k,e)|_=>none)
 |_=>none
theorem ahT{P:Program}{t k e:TypeId}(h:mpI P t=some (k,e)):P.underlying t=some (.map k e)∧P.underlying k=some (.int .i64):=by
 unfold mpI at h
 split at h
 ·rename_i k' e' h1
  split at h
  ·rename_i h2
   cases h;exact⟨h1,h2⟩
  ·cases h
 ·cases h
def anP(m:MapEntry)(x:Int×Value):Prop:=m.key=.int .i64 x.1∧m.val=x.2
inductive EntsI:List MapEntry→List (Int×Value)→Prop
 |nil:EntsI [] []
 |cons {m:MapEntry} {x:Int×Value} {l:List MapEntry} {M:List (Int×Value)}:anP m x→EntsI l M→EntsI (m::l) (x::M)
theorem EntsI.snoc{l:List MapEntry}{M:List (Int×Value)}{m:MapEntry}{x:Int×Value}(h:EntsI l M)(hm:anP m x):EntsI (l++[m]) (M++[x]):=by
 induction h with
 |nil=>exact .cons hm .nil
 |cons h _ ih=>exact .cons h ih
def Vf(M:List (Int×Value))(o:Obj):Prop:=∃es c,o=.map es c∧EntsI es.toList M
theorem afJ{x:Int}{kd:IntKind}{l:List MapEntry}{M:List (Int×Value)}(h:EntsI l M):∀{i:Nat},∃o,Instr.findNow (.int kd) (.int .i64 x) l i=some o∧o.map (·.2)=M.lookup x:=by
 induction h with
 |nil=>intro i;exact⟨none,rfl,rfl⟩
 |@cons m y l M hm h ih=>
  intro i
  obtain⟨hk,hv⟩:=hm
  obtain⟨y1,y2⟩:=y
  by_cases hx:x=y1
  ·subst hx
   refine⟨some (i,m.val),?_,?_⟩
   ·rw[Instr.findNow,hk];simp[Instr.sameNow]
   ·rw[List.lookup_cons,show (x == x)=true by simp,hv];rfl
  ·obtain⟨o,h1,h2⟩:=ih (i:=i+1)
   have hb:(x == y1)=false:=by simpa using hx
   refine⟨o,?_,?_⟩
   ·rw[Instr.findNow,hk];simp[Instr.sameNow,hb,h1]
   ·rw[List.lookup_cons,hb,h2]
class ahU(b:Nat)(L:List Asr)(Q:outParam (Obj→Prop))(f:outParam (Asr→List Asr)):Prop where
 h:∃p q,L=p++.obj b Q::q∧∀y,f y=p++y::q
instance {b:Nat} {Q:Obj→Prop} {L:List Asr}:ahU b (.obj b Q::L) Q λy=>y::L:=⟨[],L,rfl,λ_=>rfl⟩
instance (priority:=low) {b:Nat} {Q:Obj→Prop} {x:Asr} {L:List Asr} {f:Asr→List Asr} [h:ahU b L Q f]:ahU b (x::L) Q λy=>x::f y:=⟨by
 obtain⟨p,q,h1,h2⟩:=h.h
 exact⟨x::p,q,by rw[h1];rfl,λc'=>by rw[h2];rfl⟩⟩
section
variable {P:Program} {X:Nat→Prop} {w0 w:World} {r:Gh} {L:List Asr} {t k e:TypeId} {b:Nat} {M:List (Int×Value)} {f:Asr→List Asr}
theorem StX.mkMapI(S:StX X w0 r w L){K:Value→World→Prop}(h:∀b w',StX X w0 r w' (.obj b (Vf [])::L)→K (.map (some b)) w'):opW P w (Instr.makeMap t none) K:=
 S.mkMap λb w' S'=>h b w' ⟨S'.x,S'.holds,λx hx=>by
  rcases List.mem_cons.1 hx with rfl|hx
  ·obtain⟨o,h1,h2,rfl⟩:=S'.has _ List.mem_cons_self
   exact⟨_,h1,h2,_,_,rfl,.nil⟩
  ·exact S'.has x (List.mem_cons_of_mem _ hx),λx hx=>by
  rcases List.mem_cons.1 hx with rfl|hx
  ·exact S'.mine (.obj b (· = .map #[] 0)) List.mem_cons_self
  ·exact S'.mine x (List.mem_cons_of_mem _ hx),by
  have:=S'.apart
  rw[List.pairwise_cons]at this⊢
  exact this⟩
theorem StX.mapAddI(S:StX X w0 r w L){x:Int}{v:Value}[h0:ahU b L (Vf M) f](ht:mpI P t=some (k,e))(hn:M.lookup x=none){K:World→Prop}
  (h:∀w',StX X w0 r w' (f (.obj b (Vf (M++[(x,v)]))))→K w'):opU P w (Instr.mapUpdate t (.map (some b)) (.int .i64 x) v) K:=by
 obtain⟨ht,hk⟩:=ahT ht
 obtain⟨p,q,e1,e2⟩:=h0.h
 obtain⟨o,hb,_,es,c,rfl,hE⟩:=S.has (.obj b (Vf M)) (by rw[e1];simp)
 obtain⟨o,h1,h2⟩:=afJ (x:=x) (kd:=.i64) hE (i:=0)
 have h3:o=none:=by
  rw[hn]at h2
  cases o with
  |none=>rfl
  |some y=>cases h2
 subst h3
 have hf:=run_findKey (w:=w) hk h1
 refine⟨{ w with heap:=w.heap.setIfInBounds b (.map (es.push { key:=.int .i64 x,val:=v,born:=c }) (c+1)) },?_,h _ ?_⟩
 ·simp[Instr.mapUpdate,run_underlying ht,MapKept.run_getObj_map hb,run_checkKey (w:=w) hk (k:=.int .i64 x) rfl false 9999,hf,MapKept.run_setObj_map _ hb,Result.andThen]
 ·obtain⟨a1,a2⟩:=heap_set hb (o':=.map (es.push { key:=.int .i64 x,val:=v,born:=c }) (c+1))
  rw[e2]
  rw[e1]at S
  exact S.turn (x:=.obj b (Vf M)) (y:=.obj b (Vf (M++[(x,v)]))) ⟨rfl,rfl,rfl,by simp,λk _ hk=>a2 k hk⟩ ⟨_,a1,rfl,_,_,rfl,by rw[Array.toList_push];exact hE.snoc ⟨rfl,rfl⟩⟩ λk hk=>.inl hk
theorem StX.mapGetI(S:StX X w0 r w L){x:Int}{z:Value}[h0:ahU b L (Vf M) f](ht:mpI P t=some (k,e))(hz:zr1 P e=some z){K:Value→Prop}(h:K ((M.lookup x).getD z)):
  opQ P w (Instr.lookup t (.map (some b)) (.int .i64 x) false) K:=by
 obtain⟨ht,hk⟩:=ahT ht
 obtain⟨p,q,e1,e2⟩:=h0.h
 obtain⟨o,hb,_,es,c,rfl,hE⟩:=S.has (.obj b (Vf M)) (by rw[e1];simp)
 obtain⟨o,h1,h2⟩:=afJ (x:=x) (kd:=.i64) hE (i:=0)
 refine⟨_,λw' ex=>?_,h⟩
 have hb':w'.heap[b]? = some (.map es c):=(ex.block b (Array.getElem?_eq_some_iff.1 hb).1).trans hb
 have hf:=run_findKey (w:=w') hk h1
 rw[← h2]
 cases o with
 |none=>simp [Instr.lookup,run_underlying ht,MapKept.run_getObj_map hb',run_checkKey (w:=w') hk (k:=.int .i64 x) rfl _ 9999,hf,afF hz,Result.andThen]
 |some y=>simp [Instr.lookup,run_underlying ht,MapKept.run_getObj_map hb',run_checkKey (w:=w') hk (k:=.int .i64 x) rfl _ 9999,hf,Result.andThen]
end
end
end Go.Sh
namespace Go.Proofs
open Go.Sh Go.RowKit
theorem mpW:mpI Tryz.prog 218=some (3,55):=by kernel_rfl
theorem aeV:zr1 Tryz.prog 55=some (.slice none 0 0):=by kernel_rfl
end Go.Proofs
namespace Go.Proofs
open Go.Sh
theorem amU{m:List Bool}:(mkd m).length≤m.length:=by
 rw[mkd,List.length_map]
 exact Nat.le_trans (List.length_filter_le ..) (by simp)
end Go.Proofs
namespace Go.Sh
open Go.RowKit
section
theorem ahV{α β γ:Type}{f:α→β→γ}:∀{us:List α}{bs:List β}{i:Nat}(h1:i<us.length)(h2:i<bs.length),∃p q,List.zipWith f us bs=p++f us[i] bs[i]::q∧∀a b,List.zipWith f (us.set i a) (bs.set i b)=p++f a b::q
 |[],_,_,h1,_=>absurd h1 (Nat.not_lt_zero _)
 |_::_,[],_,_,h2=>absurd h2 (Nat.not_lt_zero _)
 |a::us,b::bs,0,_,_=>⟨[],List.zipWith f us bs,rfl,λ_ _=>rfl⟩
 |a::us,b::bs,i+1,h1,h2=>by
  obtain⟨p,q,h3,h4⟩:=ahV (f:=f) (us:=us) (bs:=bs) (i:=i) (by simpa using h1) (by simpa using h2)
  exact⟨f a b::p,q,by rw[List.zipWith_cons_cons,h3];rfl,λx y=>by rw[List.set_cons_succ,List.set_cons_succ,List.zipWith_cons_cons,h4];rfl⟩
theorem akN{α β γ:Type}{f:α→β→γ}{us:List α}{bs:List β}{i:Nat}(h1:i<us.length)(h2:i<bs.length):∃p q,List.zipWith f us bs=p++f us[i] bs[i]::q∧∀b,List.zipWith f us (bs.set i b)=p++f us[i] b::q:=by
 obtain⟨p,q,h3,h4⟩:=ahV (f:=f) h1 h2
 refine⟨p,q,h3,λb=>?_⟩
 have:=h4 us[i] b
 rwa[List.set_getElem_self]at this
section
variable {P:Program} {X:Nat→Prop} {w0 w w':World} {r:Gh} {L:List Asr}
theorem NC.of_doms(S:StX X w0 r w L)(e:ExtBut (Xo L) w w'):NC w w':=⟨e.size,λb o hb ho=>by
 have hlt:=(Array.getElem?_eq_some_iff.1 hb).1
 by_cases hd:Xo L b
 ·obtain⟨o',h1,h2⟩:=alh S b hd
  rw[hb]at h1;cases h1;rw[ho]at h2;cases h2
 ·rw[e.block b hlt hd];exact hb⟩
end
end
end Go.Sh
namespace Go.Proofs
open Go.Sh Go.RowKit Go.BM
abbrev wcs(ws:List (BitVec 64)):List Value:=ws.map u64
theorem ajP{n:Nat}(hn:n≤1032){X:Nat→Prop}{w0 w:World}{r:Gh}{L:List Asr}{K:Value→World→Prop}(S:StX X w0 r w L)
  (h:∀b w',StX X w0 r w' (.cell b (wcs (List.replicate ((n+63)/64) 0#64)) 205::L)→K (.tuple #[.agg #[.int .i64 n,.slice (some ⟨b,0,none⟩) ((n+63)/64) ((n+63)/64)],.int .i64 0]) w'):zd Tryz.prog Tryz.JT #[.int .i64 n] w K:=by
 refine Tryz.aiA ?_
 unfold Tryz.adS
 refine S.al λb2 w1 S=>?_
 refine gp_ ?_
 refine zn (c:=decide (1032<(n:Int))) (λ_ K2 hK2=>by refine gg_ ?_;exact hK2) ?_
 refine c_f (by simp;omega) ?_
 refine gg_ ?_
 refine S.mkS (by omega) (by omega) λb w2 S=>?_
 rw[show (((n:Int)+63)/64).toNat=(n+63)/64 by omega]at S⊢
 have S:=(show StX X w0 r w2 (.cell b (wcs (List.replicate ((n+63)/64) 0#64)) 205::.cell b2 [.int .i64 0,.slice none 0 0] 48::L)by
  rw[wcs,List.map_replicate];exact S)
 refine zq (cs:=#[.int .i64 n,.slice (some ⟨b,0,none⟩) ((n+63)/64) ((n+63)/64)]) (by kernel_rfl) ?_
 refine S.stB (b:=b2) λw3 S=>?_
 refine S.ceB (b:=b2) ?_ rfl
 exact h _ _ S.d2
abbrev rwL(n b:Nat):List Value:=[.int .i64 n,.slice (some ⟨b,0,none⟩) ((n+63)/64) ((n+63)/64)]
section
variable {K:Value→World→Prop}
abbrev xM:=Int×List (BitVec 64)
theorem adW{f:xM→Bool}{fv v:Value}{w:World}{r:Gh}{l:List xM}{K:Value→World→Prop}(hr:Holds r w)(hl:SlG 2 r (RwbC r) v l)(hb:l.length≤1000000000)
  (hf:∀x∈l,∀(c:List Value)(w:World)(K:Value→World→Prop),Holds r w→RwbC r c x→(∀w',Ext w w'→K (.bool (f x)) w')→zD Tryz.prog fv #[.agg c.toArray] w K)
  (h:∀(i:Int) w',Ext w w'→(0≤i↔l.any f=true)→K (.int .i64 i) w'):zd Tryz.prog Tryz.yM #[v,fv] w K:=by
 refine Tryz.jK ?_
 unfold Tryz.xQ
 obtain⟨p,cap,rfl,_,_⟩:=hl.shape
 have S:=St.start hr
 refine gP_ ?_
 refine zj (ι:=Nat) (λi=>[.int .i64 i]) (λi w'=>i≤l.length∧(l.take i).any f=false∧StX noX w r w' []) (λi=>l.length-i) 0 rfl ⟨gzl _,by simp,S⟩ ?_
 clear S
 rintro i d w' ⟨hi,hn,S⟩ K6 hK6
 simp only[gdz]
 refine gP_ ?_
 refine zh (λhlt=>?_) (λhge=>?_)
 ·have hlt:i<l.length:=by omega
  obtain⟨b,off,c,rfl,hcl,hcR,hcell⟩:=hl.get (by decide) hlt
  have hcR0:=hcR
  obtain⟨pw,cw,rfl,_⟩:=hcR
  refine gP_ ?_
  refine zo (n:=2) rfl (λj v hj=>by rw[tnc];exact S.at (hcell j v hj)) ?_
  refine hf _ (gem hlt) _ _ _ S.holds hcR0 λw2 e2=>?_
  have S:=S.go e2
  have ht:(l.take (i+1)).any f=((l.take i).any f||f l[i]):=by
   rw[List.take_succ_eq_append_getElem hlt,List.any_append];simp only[List.any_cons,List.any_nil,Bool.or_false]
  refine c_b (λhy=>?_) (λhno=>?_)
  ·exact h _ _ S.ext ⟨λ_=>List.any_eq_true.2 ⟨l[i],gem hlt,hy⟩,λ_=>Int.natCast_nonneg _⟩
  ·refine gP_ ?_
   refine hK6 (i+1) _ ⟨hlt,?_,S⟩ (by omega)
   rw[ht,hn,hno];rfl
 ·have :i=l.length:=by omega
  subst this
  rw[List.take_length]at hn
  exact h _ _ S.ext ⟨λh=>by omega,λh=>by rw[hn]at h;cases h⟩
theorem aaI{f:xM→Bool}{fv v:Value}{w:World}{r:Gh}{l:List xM}{K:Value→World→Prop}(hr:Holds r w)(hl:SlG 2 r (RwbC r) v l)(hb:l.length≤1000000000)
  (hf:∀x∈l,∀(c:List Value)(w:World)(K:Value→World→Prop),Holds r w→RwbC r c x→(∀w',Ext w w'→K (.bool (f x)) w')→zD Tryz.prog fv #[.agg c.toArray] w K)
  (h:∀w',Ext w w'→K (.bool (l.any f)) w'):zd Tryz.prog Tryz.yy #[v,fv] w K:=by
 refine Tryz.qW ?_
 unfold Tryz.xy
 refine adW hr hl hb hf λi w' e hi=>?_
 refine gP_ ?_
 have e2:decide (i≥0)=l.any f:=by
  by_cases hh:l.any f=true
  ·rw[hh];exact gde (hi.2 hh)
  ·rw[Bool.eq_false_iff.2 hh];exact decide_eq_false λh=>hh (hi.1 h)
 rw[e2];exact h _ e
def cls(b:Nat→Nat→Bool)(n k:Nat):Option (Nat×Nat):=(List.range n).findSome? λx=>(List.range k).findSome? λq=>if b x q=true then some (x,q)else none
theorem ai7{α:Type}{f:Nat→Option α}:∀{n x:Nat}{a:α},x<n→(∀y<x,f y=none)→f x=some a→(List.range n).findSome? f=some a
 |n,x,a,hx,hb,hf=>by
  have e:List.range n=List.range x++(x::List.range' (x+1) (n-x-1)):=by
   rw[← List.range'_succ,List.range_eq_range',List.range_eq_range',show n-x-1+1=n-x by omega]
   have:=List.range'_append_1 (s:=0) (m:=x) (n:=n-x)
   rw[Nat.zero_add]at this
   rw[this];congr 1;omega
  rw[e,List.findSome?_append,List.findSome?_eq_none_iff.2 λy hy=>hb y (List.mem_range.1 hy),List.findSome?_cons,hf]
  rfl
theorem akO{b:Nat→Nat→Bool}{n k x q:Nat}(hx:x<n)(hq:q<k)(h1:∀y<x,∀p<k,b y p=false)(h2:∀p<q,b x p=false)(h:b x q=true):cls b n k=some (x,q):=
 ai7 hx (λy hy=>List.findSome?_eq_none_iff.2 λp hp=>by rw[h1 y hy p (List.mem_range.1 hp)];rfl) (ai7 hq (λp hp=>by rw[h2 p hp];rfl) (by rw[h];rfl))
theorem amV{b:Nat→Nat→Bool}{n k:Nat}(h:∀y<n,∀p<k,b y p=false):cls b n k=none:=
 List.findSome?_eq_none_iff.2 λy hy=>List.findSome?_eq_none_iff.2 λp hp=>by rw[h y (List.mem_range.1 hy) p (List.mem_range.1 hp)];rfl
end
end Go.Proofs
namespace Go.Proofs.Tryz
open Go.Sh
section
variable {t0:Value} {w:World} {K:VW}
def adX(t0:Value)(w:World)(K:VW):Prop:=
 pw w (Instr.box 48 t0) λt1 w1=>
 pw w1 (Instr.alloc 48 true (.tuple #[])) λt2 w2=>
 lo w2 48 t1 λt4=>ca Y6 #[t4] w2 λt5 w3=>
 pp (Op.unary .not t5) λt6=>zc t6 (pp (Instr.build 48 #[]) λt7=>so w3 48 t2 t7 λw4=>pq w4 (zi 48 t2) λr5=>K (.tuple #[r5,(i6 2)]) w4) (fl w3.drew t1 48 0 3 λt9=>fl w3.drew t1 48 1 46 λt11=>ca xu #[t11] w3.drew λt12 w6=>
 Ext w3.drew w6∧
 pp (Instr.build 48 #[(0,t9),(1,t12)]) λt13=>so w6 48 t2 t13 λw7=>pq w7 (zi 48 t2) λr8=>K (.tuple #[r8,(i6 0)]) w7)
theorem aiD(h:adX t0 w K):zd prog JV #[t0] w K:=
 okC false (.s (.r (rz 3 0 10)) (.s (.s (.r (rz 3 0 9)) (.c (.s (.r (rz 3 0 8)) (.n)) (.n))) (.s (.r (rz 8 0 9028)) (.n)))) func158 rfl (by kernel_rfl) (by kernel_rfl) h
def abQ(t0:Value)(w:World)(K:VW):Prop:=
 pw w (Instr.box 48 t0) λt1 w1=>
 lo w1 48 t1 λt5=>ca JV #[t5] w1 λt6 w2=>
 pe t6 0 λt7=>pe t6 1 λt8=>pw w2 (Instr.alloc 29 true (.tuple #[])) λt3 w3=>
 so w3 48 t1 t7 λw4=>so w4 29 t3 t8 λw5=>pp (Instr.makeFunc (.func 159) #[] #[t3,t1]) λt9=>K t9 w5
theorem ahW(h:abQ t0 w K):zd prog QQ #[t0] w K:=
 okC false (.s (.r (rz 2 0 2)) (.s (.r (rz 8 0 43017)) (.s (.r (rz 2 0 0)) (.n)))) func103 rfl (by kernel_rfl) (by kernel_rfl) h
def YM(t0 t1 t2:Value)(w:World)(K:VW):Prop:=
 lo w 29 t1 λt6=>bt .neq 29 t6 (i6 0) λt7=>zc t7 (K (.tuple #[]) w) (fl w t2 48 1 46 λt9=>pp (Builtin.len_ #[46] 3 #[t9]) λt10=>zp [(i6 0)] w (λs2 _d3 w4 K1=>
 bf .lss 3 (s2.getD 0 u_) t10 λt12=>zc t12 (xl w4 46 t9 (s2.getD 0 u_) 205 λt15=>zp [t15] w4 (λs6 _d7 w8 K5=>
 bt .neq 205 (s6.getD 0 u_) (Value.int .u64 0) λt17=>zc t17 (bt .mul 3 (i6 64) (s2.getD 0 u_) λt24=>ca xC #[(s6.getD 0 u_)] w8 λt26 w9=>
 bf .add 3 t24 t26 λt27=>cv t0 #[t27] w9 λt28 w10=>
 pp (Op.unary .not t28) λt29=>zc t29 (K (.tuple #[]) w10) (bt .sub 205 (s6.getD 0 u_) (Value.int .u64 1) λt20=>bf .and 205 (s6.getD 0 u_) t20 λt21=>K5 [t21] w10)) (bt .add 3 (s2.getD 0 u_) (i6 1) λt30=>K1 [t30] w8))) (K (.tuple #[]) w4)))
theorem JE{t1 t2:Value}(h:YM t0 t1 t2 w K):zd prog Vl #[t0,t1,t2] w K:=
 okC false (.s (.s (.r (rz 2 0 1)) (.c (.n) (.n))) (.s (.r (rz 4 0 4)) (.b (.lp [11] (.s (.r (rz 1 0 0)) (.s (.c (.n) (.n)) (.s (.b (.s (.r (rz 5 0 16)) (.b (.lp [5] (.s (.s (.r (rz 2 0 0)) (.c (.n) (.n))) (.s (.b (.s (.r (rz 8 0 8704)) (.c (.n) (.n)))) (.r (rz 5 0 0)))))))) (.r (rz 2 0 0))))))))) func159 rfl (by kernel_rfl) (by kernel_rfl) h
def kS(t0:Value)(w:World)(K:VW):Prop:=
 bt .eql 46 t0 (Value.slice Option.none 0 0) λt4=>zc t4 (K (Value.slice Option.none 0 0) w) (pw w (Instr.buildSlice 46 0 #[]) λt5 w1=>
 pw w1 (Builtin.append_ #[46,46] 46 #[t5,t0]) λt7 w2=>
 K t7 w2)
theorem ZB(h:kS t0 w K):zd prog xu #[t0] w K:=
 okC false (.s (.r (rz 1 0 0)) (.s (.s (.r (rz 2 0 0)) (.c (.s (.r (rz 1 0 0)) (.n)) (.n))) (.s (.r (rz 4 0 34)) (.n)))) func201 rfl (by kernel_rfl) (by kernel_rfl) h
def k8(t0:Value)(w:World)(K:VW):Prop:=
 bt .eql 205 t0 (Value.int .u64 0) λt4=>zc t4 (K (i6 64) w) (pp (Op.unary .neg t0) λt7=>bf .and 205 t0 t7 λt8=>bt .mul 205 t8 (Value.int .u64 285870213051353865) λt9=>bt .shr 205 t9 (Value.int .u64 58) λt10=>xl w 275 (Value.pointer (some ⟨0,0,none⟩)) t10 5 λt12=>pp (convert 5 3 t12) λt13=>K t13 w)
theorem Z2(h:k8 t0 w K):zd prog xC #[t0] w K:=
 okC false (.s (.r (rz 1 0 0)) (.s (.s (.r (rz 2 0 0)) (.c (.s (.r (rz 1 0 0)) (.n)) (.n))) (.s (.r (rz 10 0 16384)) (.n)))) func160 rfl (by kernel_rfl) (by kernel_rfl) h
end
end Go.Proofs.Tryz
namespace Go.Proofs
open Go.Sh Go.RowKit Go.BM
section
variable {ws:List (BitVec 64)} {r:Gh} {p:Option Addr} {K:Value→World→Prop}
theorem akP{W:Int}(h:BM.mayB W ws=true):BM.May W ws:=Classical.byContradiction λhn=>by rw[BM.mayB_false hn]at h;cases h
theorem aeW:(wcs ws).length=ws.length:=List.length_map _
theorem al1(ws:List (BitVec 64)):∀u∈wcs ws,u.oneCell'=true:=λu hu=>by
 obtain⟨x,_,rfl⟩:=List.mem_map.1 hu;rfl
theorem vZ:RowOf 1 WdC (wcs ws) ws:=⟨by rw[aeW,Nat.mul_one],λj hj=>by
 rw[Nat.mul_one,wcs,← List.map_drop,← List.map_take,List.drop_eq_getElem_cons hj];rfl⟩
theorem akQ{n cap:Nat}(h:SlG 1 r WdC (.slice p n cap) ws):Ob r λw=>Sl w p (wcs ws):=λw hw i v hi=>by
 have hlt:i<ws.length:=by
  have:=(List.getElem?_eq_some_iff.1 hi).1
  rwa[aeW]at this
 obtain⟨b,off,hp,_,hc⟩:=JD h hlt
 have hv:v=u64 ws[i]:=by
  rw[wcs,List.getElem?_map,gqg hlt]at hi
  exact(Option.some.inj hi).symm
 subst hv
 exact⟨b,off,hp,hc w hw⟩
theorem aiE{cap:Nat}{w:World}{K:Value→World→Prop}(hr:Holds r w)(hl:SlB 1 r WdC (.slice p ws.length cap) ws)(hb:ws.length≤1000000)
  (h:∀v' w',Ext w w'→w'.ownsRow w.heap.size 205 1 v' ws.length (wcs ws)→K v' w'):zd Tryz.prog Tryz.xu #[.slice p ws.length cap] w K:=by
 refine Tryz.ZB ?_
 unfold Tryz.kS
 have S:=St.start hr
 obtain⟨_,_,hE,hp,_⟩:=hl.sl.shape
 cases hE
 refine JP (e:=205) (n:=1) (by kernel_rfl) ?_
 refine c_b (λhn=>?_) (λhn=>?_)
 ·have hws:ws=[]:=by
   cases ws with
   |nil=>rfl
   |cons a l=>
    obtain⟨b,off,hb,_⟩:=(S.at (akQ hl.sl)) 0 (u64 a) rfl
    rw[hb]at hn;cases hn
  subst hws
  have S:=S.ownNil 205 1
  exact h _ _ S.ext (S.give (.slice none 0 0))
 refine S.lit (e:=205) (cs:=[]) (by kernel_rfl) λb w1 S=>?_
 have S:=S.toRow 0 1 rfl (by decide)
 refine S.ap (v:=.slice (some ⟨b,0,none⟩) 0 0) (S.at (akQ hl.sl)) (λv2 w2 S=>?_) (by omega) (by rw[aeW,Nat.mul_one]) hp (al1 _)
 rw[Nat.zero_add,List.nil_append]at S
 exact h _ _ S.ext (S.give v2)
abbrev aoF:Value:=.agg #[.int .i64 0,.slice none 0 0]
theorem ajQ{x:xM}{c:List Value}{w:World}{K:Value→World→Prop}(hr:Holds r w)(hx:RwbC r c x)
  (h1:BM.mayB x.1 x.2=false→∀w',Ext w w'→K (.tuple #[aoF,.int .i64 2]) w')
  (h2:BM.mayB x.1 x.2=true→∀v' w',Ext w w'→w'.ownsRow w.heap.size 205 1 v' x.2.length (wcs x.2)→K (.tuple #[.agg #[.int .i64 x.1,v'],.int .i64 0]) w'):zd Tryz.prog Tryz.JV #[.agg c.toArray] w K:=by
 refine Tryz.aiD ?_
 unfold Tryz.adX
 have hx0:=hx
 obtain⟨W,ws⟩:=x
 simp only at h1 h2
 obtain⟨p,cap,rfl,hS⟩:=hx
 have S:=St.start hr
 refine S.box λb1 w1 S=>?_
 refine S.al λb2 w2 S=>?_
 have S:StX noX w r w2 [.cell b2 [.int .i64 0,.slice none 0 0] 48,.cell b1 [.int .i64 W,.slice p ws.length cap] 48]:=S
 refine S.ldB (b:=b1) ?_ rfl
 refine adV S.holds hx0 λw3 e3=>?_
 have S:=S.go e3
 refine gp_ ?_
 refine c_b (λhm=>?_) (λhm=>?_)
 ·refine zq (cs:=#[.int .i64 0,.slice none 0 0]) (by kernel_rfl) ?_
  refine S.stB (b:=b2) λw4 S=>?_
  refine S.ceB (b:=b2) ?_ rfl
  exact h1 (by simpa using hm) _ S.ext
 have hm:BM.mayB W ws=true:=by simpa using hm
 have hM:BM.May W ws:=akP hm
 have hl:ws.length≤1000000:=by have:=hM.2.1;have:=hM.2.2.1;omega
 have S:=S.go (Ext.drew _)
 refine gg_ ?_
 refine aiE S.holds hS hl λv4 w4 e4 h4=>⟨e4,?_⟩
 have S:=S.take e4 h4
 obtain⟨p4,cap4,rfl,_⟩:=S.rowS v4
 refine zq (cs:=#[.int .i64 W,.slice p4 ws.length cap4]) (by kernel_rfl) ?_
 refine S.stB (b:=b2) λw5 S=>?_
 refine S.ceB (b:=b2) ?_ rfl
 exact h2 hm _ _ S.ext (S.give (.slice p4 ws.length cap4))
end
end Go.Proofs
