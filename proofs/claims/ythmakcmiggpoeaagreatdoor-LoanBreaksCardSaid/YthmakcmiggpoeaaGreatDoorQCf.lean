/-
  Contracts and plain laws that the last text leans on.
-/
import Derived.Test.YthmakcmiggpoeaaGreatDoorQCe
import Derived.Test.YthmakcmiggpoeaaGreatDoorQCd
import Derived.Test.YthmakcmiggpoeaaGreatDoorQCc
import Derived.Shelf.Sort.Plain
import Derived.Shelf.Bits.Mul64
import Derived.Shelf.Slices.Reverse
import Derived.Shelf.Slices.Clone
import Derived.Shelf.Slices.CompactI
import Derived.Shelf.Slices.In.SortNone
import Derived.Test.YthmakcmiggpoeaaGreatDoorProg
import Derived.KernelRfl
import Derived.Test.YthmakcmiggpoeaaGreatDoorQCa
import Derived.Lib.TrailingZeros
import Derived.Test.YthmakcmiggpoeaaGreatDoorQCb
import Derived.ChangeKeysEq
import Derived.WideKeyRuns
set_option maxRecDepth 100000
set_option maxHeartbeats 8000000
set_option linter.unusedVariables false
set_option linter.unusedSimpArgs false
namespace Go.Proofs
open Go.Sh
section
variable {K:Value→World→Prop} {ss:List StD} {tys ts:List TyD} {l:List OpD}
theorem Zr{u:UnD}{g:GrD}{o:OpD}{bx:Nat}{c:List Value}{w:World}{r:Gh}{K:Value→World→Prop}(hr:Holds r w)(hx:AsP r bx u g)(hst:(zw u.ss).2=0)(hf:yY u.ss g.tys)(ho:OpG r c o)
  (h:∀t q cap w',((zs u.ss g.tys o).2=true→t=(zs u.ss g.tys o).1)→Ext w w'→TyG r (tyV t q cap) t→K (.tuple #[tyV t q cap,.bool (zs u.ss g.tys o).2]) w'):
  zd Tryz.prog Tryz.yW #[.pointer (some ⟨bx,0,none⟩),.agg c.toArray] w K:=by
 refine Tryz.QK ?_
 unfold Tryz.vT
 obtain⟨v,rfl,hl⟩:=ho
 obtain⟨qs,caps,rfl,_,_⟩:=hl.sl.shape
 have hpl:PlG r [.int .i64 o.pl.l,.slice qs o.pl.ps.length caps] o.pl:=⟨_,rfl,hl⟩
 have S:=St.start hr
 refine S.box λb3 w1 S=>?_
 have S:StX noX w r w1 [.cell b3 [.int .u8 o.k,.int .i64 o.n,.int .i64 o.pl.l,.slice qs o.pl.ps.length caps] 93]:=S
 refine S.al λb4 w2 S=>?_
 refine gg_ ?_
 refine zj (λh1=>?_) (λh1=>?_)
 ·rw[zs,if_pos h1]at h
  refine zq (cs:=#[.int .u8 1,.bool false,.int .i64 0,.int .i64 0,.slice none 0 0]) (by kernel_rfl) ?_
  refine gg_ ?_
  refine S.ldN (b:=b3) ?_
  refine xI S.holds hpl λw3 e3=>?_
  have S:=S.go e3
  refine S.stB (b:=b4) λw4 S=>?_
  refine S.ceB (b:=b4) ?_ rfl
  exact h yk none 0 _ (λ_=>rfl) S.ext yC
 refine gg_ ?_
 refine zj (λh2=>?_) (λh2=>?_)
 ·rw[zs,if_neg h1,if_pos h2]at h
  refine zq (cs:=#[.int .u8 2,.bool false,.int .i64 0,.int .i64 0,.slice none 0 0]) (by kernel_rfl) ?_
  have S:=S.go (Ext.drew _)
  refine gg_ ?_
  refine S.ldN (b:=b3) ?_
  refine xI S.holds hpl λw3 e3=>?_
  have S:=S.go e3
  have fin:∀{w4:World}{L:List Asr}{b:Bool},b=(xL o.pl&&(decide (o.n=0)||decide (o.n=1)))→StX noX w r w4 (.cell b4 [.int .u8 2,.bool false,.int .i64 0,.int .i64 0,.slice none 0 0] 43::L)→K (.tuple #[tyV aaS none 0,.bool b]) w4:=λhb S=>by
   rw[hb];exact h aaS none 0 _ (λ_=>rfl) S.ext yC
  cases hz:xL o.pl with
  |false=>
   rw[hz]at fin
   (intro K9 hK9;refine gd_ ?_;refine hK9 _ _ λ_=>?_;clear hK9 K9)
   (intro K9 hK9;refine gd_ ?_;refine hK9 _ _ λ_=>?_;clear hK9 K9)
   refine⟨?_,?_⟩
   ·(intro K9 hK9;refine gd_ ?_;refine hK9 _ _ λ_=>?_;clear hK9 K9)
    (intro K9 hK9;refine gd_ ?_;refine hK9 _ _ λ_=>?_;clear hK9 K9)
    refine gd_ ?_
    refine S.stB (b:=b4) λw10 S=>?_
    refine S.ceB (b:=b4) ?_ rfl
    exact fin rfl S
   ·refine S.stB (b:=b4) λw10 S=>?_
    (intro K9 hK9;refine gd_ ?_;refine hK9 _ _ λ_=>?_;clear hK9 K9)
    (intro K9 hK9;refine gd_ ?_;refine hK9 _ _ λ_=>?_;clear hK9 K9)
    refine gd_ ?_
    exact fin rfl S
  |true=>
   rw[hz]at fin
   refine zn (λs w'=>s=[.bool (decide (o.n=0))]∧w'=w3) (λK9 hK9=>?_) ?_
   ·refine gd_ ?_
    exact hK9 _ _ ⟨rfl,rfl⟩
   rintro _ w3 ⟨rfl,rfl⟩ d1
   simp only[gdz]
   by_cases hn:o.n=0
   ·rw[gde hn]
    rw[gde hn]at fin
    (intro K9 hK9;refine gd_ ?_;refine hK9 _ _ λ_=>?_;clear hK9 K9)
    refine⟨?_,?_⟩
    ·(intro K9 hK9;refine gd_ ?_;refine hK9 _ _ λ_=>?_;clear hK9 K9)
     (intro K9 hK9;refine gd_ ?_;refine hK9 _ _ λ_=>?_;clear hK9 K9)
     refine gd_ ?_
     refine S.stB (b:=b4) λw10 S=>?_
     refine S.ceB (b:=b4) ?_ rfl
     exact fin rfl S
    ·refine S.stB (b:=b4) λw10 S=>?_
     (intro K9 hK9;refine gd_ ?_;refine hK9 _ _ λ_=>?_;clear hK9 K9)
     (intro K9 hK9;refine gd_ ?_;refine hK9 _ _ λ_=>?_;clear hK9 K9)
     refine gd_ ?_
     exact fin rfl S
   ·rw[decide_eq_false hn]
    rw[decide_eq_false hn]at fin
    (intro K9 hK9;refine gd_ ?_;refine hK9 _ _ λ_=>?_;clear hK9 K9)
    refine⟨?_,?_⟩
    ·refine zn (λs w'=>s=[.bool (decide (o.n=1))]∧w'=w3) (λK9 hK9=>?_) ?_
     ·refine gd_ ?_
      refine w_q ?_
      refine gd_ ?_
      exact hK9 _ _ ⟨rfl,rfl⟩
     rintro _ _ ⟨rfl,rfl⟩ d1
     (intro K9 hK9;refine gd_ ?_;refine hK9 _ _ λ_=>?_;clear hK9 K9)
     refine gd_ ?_
     refine S.stB (b:=b4) λw10 S=>?_
     refine S.ceB (b:=b4) ?_ rfl
     exact fin (by simp) S
    ·refine S.stB (b:=b4) λw10 S=>?_
     refine zn (λs w'=>s=[.bool (decide (o.n=1))]∧w'=w10) (λK9 hK9=>?_) ?_
     ·refine gd_ ?_
      refine w_q ?_
      refine gd_ ?_
      exact hK9 _ _ ⟨rfl,rfl⟩
     rintro _ _ ⟨rfl,rfl⟩ d1
     (intro K9 hK9;refine gd_ ?_;refine hK9 _ _ λ_=>?_;clear hK9 K9)
     refine gd_ ?_
     exact fin (by simp) S
 intro K41 hK41
 refine gg_ ?_
 refine kX (c:=decide (o.k=4)) (hK41 _ _ λ_=>?_) λ_ hk=>?_
 rotate_left
 ·refine gg_ ?_;exact hk
 simp only[gdz]
 refine c_b (λh34=>?_) (λh34=>?_)
 rotate_left
 ·have h34:¬o.k=3∧¬o.k=4:=by simpa using h34
  rw[zs,if_neg h1,if_neg h2,if_neg h34.1,if_neg h34.2]at h
  refine zq (cs:=#[.int .u8 0,.bool false,.int .i64 0,.int .i64 0,.slice none 0 0]) (by kernel_rfl) ?_
  refine S.stB (b:=b4) λw10 S=>?_
  refine S.ceB (b:=b4) ?_ rfl
  exact h zF none 0 _ (λhh=>by cases hh) S.ext yC
 have h34:o.k=3∨o.k=4:=by simpa using h34
 have hop:zs u.ss g.tys o=if o.k=3 then((zk u.ss g.tys o.pl).1,((zk u.ss g.tys o.pl).2.2&&decide (o.n=0))&&x8 (zk u.ss g.tys o.pl).1)
   else((zk u.ss g.tys o.pl).1,(((zk u.ss g.tys o.pl).2.2&&decide (o.n=0)) && !x8 (zk u.ss g.tys o.pl).1)&&decide ((zk u.ss g.tys o.pl).2.1<2)):=by
  rw[zs,if_neg h1,if_neg h2]
  by_cases h3:o.k=3
  ·rw[if_pos h3,if_pos h3]
  ·rw[if_neg h3,if_neg h3,if_pos (by omega)]
 refine gg_ ?_
 refine S.ldN (b:=b3) ?_
 refine Zq (p:=o.pl) S.holds hx hst hf hpl (λw3 hno e3=>?_) λt how q cap vg s w3 hsp e3 n3 htt hsl h8 _=>?_
 ·have S:=S.go e3
  have hz:(zs u.ss g.tys o).2=false:=by
   rw[hop];split<;>simp [hno]
  rw[hz]at h
  refine gS_ ?_
  refine S.al λb6 w4 S=>?_
  refine S.stB (b:=b6) λw5 S=>?_
  refine gp_ ?_
  refine zm (c:=true) (λhh=>by cases hh) ?_
  refine c_t rfl ?_
  refine S.ldB (b:=b6) ?_ rfl
  refine S.stB (b:=b4) λw7 S=>?_
  refine S.ceB (b:=b4) ?_ rfl
  exact h zF none 0 _ (λhh=>by cases hh) S.ext yC
 obtain⟨S,d3,a3⟩:=S.tell e3 n3
 rw[hsp]at hop
 simp only[Bool.true_and]at hop
 refine gS_ ?_
 refine S.al λb6 w4 S=>?_
 refine S.stB (b:=b6) λw5 S=>?_
 refine gp_ ?_
 refine zm (c:=decide (o.n≠0)) (λ_ K2 hK2=>by refine gg_ ?_;exact hK2) ?_
 rw[show ((!true)||decide (o.n≠0))=decide (o.n≠0)by simp]
 refine zj (λhn=>?_) (λhn=>?_)
 ·have hz:(zs u.ss g.tys o).2=false:=by
   rw[hop];split<;>simp [hn]
  rw[hz]at h
  refine S.ldB (b:=b6) ?_ rfl
  refine S.stB (b:=b4) λw7 S=>?_
  refine S.ceB (b:=b4) ?_ rfl
  exact h t q cap _ (λhh=>by cases hh) S.ext htt
 have hn:o.n=0:=by omega
 rw[gde hn]at hop
 simp only[Bool.true_and]at hop
 refine gg_ ?_
 refine zj (λh3=>?_) (λh3=>?_)
 ·rw[if_pos h3]at hop
  rw[hop]at h
  have S:=S.go (Ext.drew _)
  refine S.ldB (b:=b6) ?_ rfl
  refine S.ldB (b:=b6) ?_ rfl
  refine Jb S.holds htt.up λw6 e6=>⟨e6,?_⟩
  have S:=S.go e6
  refine S.stB (b:=b4) λw7 S=>?_
  refine S.ceB (b:=b4) ?_ rfl
  exact h t q cap _ (λ_=>rfl) S.ext htt
 ·rw[if_neg h3]at hop
  rw[hop]at h
  have S:=S.go (Ext.drew _)
  refine S.ldB (b:=b6) ?_ rfl
  refine S.ldB (b:=b6) ?_ rfl
  refine Jb S.holds htt.up λw6 e6=>⟨e6,?_⟩
  have S:=S.go e6
  refine gp_ ?_
  refine zr (c:=decide (yE 0 how<2)) (λ_ K2 hK2=>?_) λw7 e7=>?_
  ·refine Zp S.holds (hsl.cells (s:=r.or s)) (by omega) λw7 e7=>⟨e7,?_⟩
   refine gp_ ?_
   exact hK2 _ e7
  have S:=S.go e7
  refine S.stB (b:=b4) λw7 S=>?_
  refine S.ceB (b:=b4) ?_ rfl
  exact h t q cap _ (λ_=>rfl) S.ext htt
theorem adm(hf:yY ss tys){o:OpD}(h:(zs ss tys o).2=true):isB (zs ss tys o).1=true:=by
 by_cases hk:o.k=3∨o.k=4
 ·unfold zs at h⊢
  rw[if_neg (by omega),if_neg (by omega)]at h⊢
  rcases hk with hk|hk
  ·rw[if_pos hk]at h⊢
   simp only[gba]at h
   exact(kS hf h.1.1).is hf.few
  ·rw[if_neg (by omega),if_pos hk]at h⊢
   simp only[gba]at h
   exact(kS hf h.1.1.1).is hf.few
 ·unfold zs at h⊢
  by_cases h1:o.k=1
  ·rw[if_pos h1];rfl
  by_cases h2:o.k=2
  ·rw[if_neg h1,if_pos h2];rfl
  ·rw[if_neg h1,if_neg h2,if_neg (by omega),if_neg (by omega)]at h;cases h
theorem adn{ss:List StD}{tys:List TyD}:∀{l:List OpD}{ts:List TyD}(i:Nat)(hi:i<l.length)(hj:i<ts.length),y9 ss tys (l.take (i+1)) (ts.take (i+1))=(y9 ss tys (l.take i) (ts.take i)&&((zs ss tys l[i]).2&&zN ya (zs ss tys l[i]).1 ts[i]))
 |[],_,i,hi,_=>absurd hi (Nat.not_lt_zero _)
 |_::_,[],i,_,hj=>absurd hj (Nat.not_lt_zero _)
 |o::l,t::r,0,hi,hj=>by
  rw[List.take_succ_cons,List.take_succ_cons,qh]
  simp[y9]
 |o::l,t::r,i+1,hi,hj=>by
  rw[List.take_succ_cons,List.take_succ_cons,qh,adn i (by simpa using hi) (by simpa using hj),List.take_succ_cons,List.take_succ_cons,qh]
  simp only[List.getElem_cons_succ,Bool.and_assoc]
theorem ak8{i:Nat}(hi:i<l.length)(hj:i<ts.length)(h:((zs ss tys l[i]).2&&zN ya (zs ss tys l[i]).1 ts[i])=false):y9 ss tys l ts=false:=by
 cases ha:y9 ss tys l ts with
 |false=>rfl
 |true=>
  exfalso
  have key:∀{l:List OpD}{ts:List TyD}(i:Nat)(hi:i<l.length)(hj:i<ts.length),y9 ss tys l ts=true→((zs ss tys l[i]).2&&zN ya (zs ss tys l[i]).1 ts[i])=true:=by
   intro l
   induction l with
   |nil=>intro ts i hi;exact absurd hi (Nat.not_lt_zero _)
   |cons o l ih=>
    intro ts i hi hj ha
    cases ts with
    |nil=>exact absurd hj (Nat.not_lt_zero _)
    |cons t r=>
     rw[qh,gba]at ha
     cases i with
     |zero=>exact ha.1
     |succ i=>exact ih i (by simpa using hi) (by simpa using hj) ha.2
  rw[key i hi hj ha]at h;cases h
theorem aao{u:UnD}{g:GrD}{l:List OpD}{ts:List TyD}{bx:Nat}{p q:Option Addr}{cp cq:Nat}{w:World}{r:Gh}{K:Value→World→Prop}(hr:Holds r w)(hx:AsP r bx u g)(hst:(zw u.ss).2=0)(hf:yY u.ss g.tys)
  (hl:SlG 4 r (OpG r) (.slice p l.length cp) l) (hb:l.length≤maxLen) (ht:TysG r q ts) (htb:ts.length≤maxLen) (hts:∀t∈ts,isB t=true)
  (h:∀w',Ext w w'→K (.bool (y9 u.ss g.tys l ts)) w'):zd Tryz.prog Tryz.kj #[.pointer (some ⟨bx,0,none⟩),.slice p l.length cp,.slice q ts.length cq] w K:=by
 refine Tryz.VJ ?_
 unfold Tryz.Yi
 have S:=St.start hr
 have hb':l.length≤9223372036854775807:=hb
 refine gg_ ?_
 refine zj (λhne=>?_) (λheq=>?_)
 ·have:=h _ S.ext
  rw[V7 (by omega)]at this
  exact this
 have heq:l.length=ts.length:=by omega
 refine zi (ι:=Nat) (λi=>[.int .i64 (i:Nat)]) (λi w'=>i≤l.length∧y9 u.ss g.tys (l.take i) (ts.take i)=true∧StX noX w r w' []) (λi=>l.length-i) 0 rfl ⟨gzl _,rfl,S⟩ ?_
 clear S
 rintro i d w2 ⟨hi,hall,S⟩ K1 hK1
 rw[gdz]
 refine gg_ ?_
 refine zj (λhlt=>?_) (λhge=>?_)
 ·have hlt:i<l.length:=by omega
  have hlt2:i<ts.length:=by omega
  obtain⟨bo,oo,co,rfl,hco,hoc,hocell⟩:=hl.get (by decide) hlt
  obtain⟨bt,ot,ct,rfl,hct,htcell,htc⟩:=ht i hlt2
  obtain⟨qt,ct2,rfl,htt⟩:=yh htc
  refine gg_ ?_
  refine zo (n:=4) hco (λj v hj=>by rw[tnc];exact S.at (hocell j v hj)) ?_
  refine Zr S.holds hx hst hf hoc λt q cap w3 hte e3 ht3=>?_
  have S:=S.go e3
  refine gS_ ?_
  refine S.al λb8 w4 S=>?_
  refine S.stB (b:=b8) λw5 S=>?_
  refine gp_ ?_
  have S0:=S
  have S:=S.go (Ext.drew _)
  refine xj (c:=!zN ya (zs u.ss g.tys l[i]).1 ts[i]) (λhok K2 hK2=>?_) λw6 e6=>?_
  ·have hok:(zs u.ss g.tys l[i]).2=true:=by simpa using hok
   obtain rfl:=hte hok
   refine S.ldB (b:=b8) ?_ rfl
   refine gg_ ?_
   refine zo (n:=5) hct (λj v hj=>by rw[tnc];exact S.at (htcell j v hj)) ?_
   have hB:=adm hf hok
   have hB2:=hts _ (gem hlt2)
   refine Vt 48 hB hB2 S.holds ht3.up htt.up λw7 e7=>?_
   refine gp_ ?_
   have ea:xW ya 48 (zs u.ss g.tys l[i]).1 ts[i]=zN ya (zs u.ss g.tys l[i]).1 ts[i]:=by rw[zN,hB,hB2];rfl
   rw[ea]
   exact hK2 _ e7
  have S:=S.go e6
  refine c_b (λhbad=>?_) (λhgood=>?_)
  ·have:=h _ S.ext
   rw[ak8 hlt hlt2 (by revert hbad;cases(zs u.ss g.tys l[i]).2<;>cases (zN ya (zs u.ss g.tys l[i]).1 ts[i])<;>simp)]at this
   exact this
  ·refine gg_ ?_
   rw[show ((i:Int)+1)=((i+1:Nat):Int)by omega]
   refine hK1 (i+1) _ ⟨hlt,?_,S.tl⟩ (by omega)
   rw[adn i hlt hlt2,hall,Bool.true_and]
   simpa using hgood
 ·have hie:i=l.length:=by omega
  have:=h _ S.ext
  rw[hie,List.take_length,heq,List.take_length]at hall
  rw[hall]at this
  exact this
end
end Go.Proofs
namespace Go.Sh
theorem anf{w:World}{b e n x y:Bool}{A1:(List Value→World→Prop)→Prop}{A2 A3 A4:(List Value→World→Prop)→World→Prop}{Z:Value→World→Prop}
  (h1:∀K:List Value→World→Prop,(∀w',Ext w w'→K [.bool e] w')→A1 K) (h2:∀(K:List Value→World→Prop) w1,Ext w w1→(∀w',Ext w w'→K [.bool n] w')→A2 K w1)
  (h3:∀(K:List Value→World→Prop) w1,Ext w w1→(∀w',Ext w w'→K [.bool x] w')→A3 K w1) (h4:∀(K:List Value→World→Prop) w1,Ext w w1→(∀w',Ext w w'→K [.bool y] w')→A4 K w1)
  (hZ:∀w',Ext w w'→Z (.bool (b||(((e||n)&&x)&&y))) w'):
  za (λK=>gIf (.bool b) false (A1 K) (K [u_] w)) λs92 _ w94=>
   za (λK=>gIf (s92.getD 0 u_) false (A2 K w94) (K [u_] w94)) λs96 _ w98=>
    za (λK=>gIf (.bool b) false (zb (s92.getD 0 u_) (.bool true) (s96.getD 0 u_) λt=>K [t] w98) (K [u_] w98)) λs100 _ w102=>
     za (λK=>gIf (s100.getD 0 u_) true (A3 K w102) (K [u_] w102)) λs104 _ w106=>
      za (λK=>gIf (.bool b) false (zb (s100.getD 0 u_) (s104.getD 0 u_) (.bool false) λt=>K [t] w106) (K [u_] w106)) λs109 _ w111=>
       za (λK=>gIf (s109.getD 0 u_) true (A4 K w111) (K [u_] w111)) λs113 _ w115=>
        za (λK=>gIf (.bool b) false (zb (s109.getD 0 u_) (s113.getD 0 u_) (.bool false) λt=>K [t] w115) (K [u_] w115)) λs118 _ w120=>
         zb (.bool b) (.bool true) (s118.getD 0 u_) λt=>Z t w120:=by
 cases b<;>cases e<;>cases n<;>cases x<;>cases y <;>
  (iterate 7 (intro K hK;first|refine hK _ _ λ_=>?_|(refine h1 _ λw1 e1=>hK _ _ λ_=>?_)|(refine h2 _ _ (by first|assumption|exact Ext.refl _) λw1 e1=>hK _ _ λ_=>?_)|(refine h3 _ _ (by first|assumption|exact Ext.refl _) λw1 e1=>hK _ _ λ_=>?_)|(refine h4 _ _ (by first|assumption|exact Ext.refl _) λw1 e1=>hK _ _ λ_=>?_)|refine ⟨_,rfl,hK _ _ λ_=>?_⟩)) <;>
  exact⟨_,rfl,by simpa using hZ _ (by first|assumption|exact Ext.refl _)⟩
theorem amh{w:World}{b m x y o u v:Bool}{A1:(List Value→World→Prop)→Prop}{A2 A3 A4 A5 A6:(List Value→World→Prop)→World→Prop}{Z:Value→World→Prop}
  (h1:∀K:List Value→World→Prop,(∀w',Ext w w'→K [.bool m] w')→A1 K) (h2:∀(K:List Value→World→Prop) w1,Ext w w1→(∀w',Ext w w'→K [.bool x] w')→A2 K w1)
  (h3:∀(K:List Value→World→Prop) w1,Ext w w1→(∀w',Ext w w'→K [.bool y] w')→A3 K w1) (h4:∀(K:List Value→World→Prop) w1,Ext w w1→(∀w',Ext w w'→K [.bool o] w')→A4 K w1)
  (h5:∀(K:List Value→World→Prop) w1,Ext w w1→(∀w',Ext w w'→K [.bool u] w')→A5 K w1) (h6:∀(K:List Value→World→Prop) w1,Ext w w1→(∀w',Ext w w'→K [.bool v] w')→A6 K w1)
  (hZ:∀w',Ext w w'→Z (.bool (b&&(((m&&x)&&y)||((o&&u)&&v)))) w'):
  za (λK=>gIf (.bool b) true (A1 K) (K [u_] w)) λs141 _ w143=>
   za (λK=>gIf (s141.getD 0 u_) true (A2 K w143) (K [u_] w143)) λs145 _ w147=>
    za (λK=>gIf (.bool b) true (zb (s141.getD 0 u_) (s145.getD 0 u_) (.bool false) λt=>K [t] w147) (K [u_] w147)) λs150 _ w152=>
     za (λK=>gIf (s150.getD 0 u_) true (A3 K w152) (K [u_] w152)) λs154 _ w156=>
      za (λK=>gIf (.bool b) true (zb (s150.getD 0 u_) (s154.getD 0 u_) (.bool false) λt=>K [t] w156) (K [u_] w156)) λs159 _ w161=>
       za (λK=>gIf (s159.getD 0 u_) false (A4 K w161) (K [u_] w161)) λs163 _ w165=>
        za (λK=>gIf (s163.getD 0 u_) true (A5 K w165) (K [u_] w165)) λs167 _ w169=>
         za (λK=>gIf (s159.getD 0 u_) false (zb (s163.getD 0 u_) (s167.getD 0 u_) (.bool false) λt=>K [t] w169) (K [u_] w169)) λs172 _ w174=>
          za (λK=>gIf (s172.getD 0 u_) true (A6 K w174) (K [u_] w174)) λs176 _ w178=>
           za (λK=>gIf (s159.getD 0 u_) false (zb (s172.getD 0 u_) (s176.getD 0 u_) (.bool false) λt=>K [t] w178) (K [u_] w178)) λs181 _ w183=>
            za (λK=>gIf (.bool b) true (zb (s159.getD 0 u_) (.bool true) (s181.getD 0 u_) λt=>K [t] w183) (K [u_] w183)) λs185 _ w187=>
             zb (.bool b) (s185.getD 0 u_) (.bool false) λt=>Z t w187:=by
 cases b<;>cases m<;>cases x<;>cases y<;>cases o<;>cases u<;>cases v <;>
  (iterate 11 (intro K hK;first|refine hK _ _ λ_=>?_|(refine h1 _ λw1 e1=>hK _ _ λ_=>?_)|(refine h2 _ _ (by first|assumption|exact Ext.refl _) λw1 e1=>hK _ _ λ_=>?_)|(refine h3 _ _ (by first|assumption|exact Ext.refl _) λw1 e1=>hK _ _ λ_=>?_)|(refine h4 _ _ (by first|assumption|exact Ext.refl _) λw1 e1=>hK _ _ λ_=>?_)|(refine h5 _ _ (by first|assumption|exact Ext.refl _) λw1 e1=>hK _ _ λ_=>?_)|(refine h6 _ _ (by first|assumption|exact Ext.refl _) λw1 e1=>hK _ _ λ_=>?_)|refine ⟨_,rfl,hK _ _ λ_=>?_⟩)) <;>
  exact⟨_,rfl,by simpa using hZ _ (by first|assumption|exact Ext.refl _)⟩
theorem ami{w:World}{b m x:Bool}{A1:(List Value→World→Prop)→Prop}{A2:(List Value→World→Prop)→World→Prop}{Z:Value→World→Prop}
  (h1:∀K:List Value→World→Prop,K [.bool m] w→A1 K) (h2:b=true→∀K:List Value→World→Prop,(∀w',Ext w w'→K [.bool x] w')→A2 K w) (hZ:∀w',Ext w w'→Z (.bool (b&&(m||x))) w'):
  za (λK=>gIf (.bool b) true (A1 K) (K [u_] w)) λs212 _ w214=>
   za (λK=>gIf (s212.getD 0 u_) false (A2 K w214) (K [u_] w214)) λs216 _ w218=>
    za (λK=>gIf (.bool b) true (zb (s212.getD 0 u_) (.bool true) (s216.getD 0 u_) λt=>K [t] w218) (K [u_] w218)) λs221 _ w223=>
     zb (.bool b) (s221.getD 0 u_) (.bool false) λt=>Z t w223:=by
 cases b<;>cases m<;>cases x <;>
  (iterate 3 (intro K hK;first|refine hK _ _ λ_=>?_|refine h1 _ (hK _ _ λ_=>?_)|(refine h2 rfl _ λw1 e1=>hK _ _ λ_=>?_)|refine ⟨_,rfl,hK _ _ λ_=>?_⟩)) <;>
  exact⟨_,rfl,by simpa using hZ _ (by first|assumption|exact Ext.refl _)⟩
end Go.Sh
namespace Go.Proofs
open Go.Sh
theorem ag4:∀(l:List Int)(m:Int),(m≤3)→(∀x∈l,x≤3)→yE m l≤3
 |[],m,h,_=>h
 |k::l,m,h,hl=>ag4 l _ (by have:=hl k List.mem_cons_self;omega) λx hx=>hl x (List.mem_cons_of_mem _ hx)
theorem ag5{ss:List StD}:∀(l:List Int)(t:TyD){x:TyD×List Int},zD ss l t=some x→∀k∈x.2,k≤3
 |[],t,x,h=>by cases h;intro k hk;cases hk
 |k::l,t,x,h=>by
  rw[zD]at h
  cases hs:zH ss t k with
  |none=>rw [hs]at h;cases h
  |some s=>
   rw[hs]at h
   have h:(zD ss l s.1).map (λx=>(x.1,s.2::x.2))=some x:=h
   cases hw:zD ss l s.1 with
   |none=>rw [hw]at h;cases h
   |some y=>
    rw[hw]at h
    cases h
    intro j hj
    rcases List.mem_cons.1 hj with rfl|hj
    ·unfold zH at hs
     split at hs
     ·cases ho:t.of.head? with
      |none=>rw [ho]at hs;cases hs
      |some u=>rw [ho]at hs;cases hs;show(1:Int)≤3;decide
     split at hs
     ·cases ho:t.of.head? with
      |none=>rw [ho]at hs;cases hs
      |some u=>rw [ho]at hs;cases hs;show(if t.m then(2:Int)else 3)≤3;split<;>decide
     split at hs
     ·cases ho:(ze ss t.st)[k.toNat]? with
      |none=>rw [ho]at hs;cases hs
      |some u=>rw [ho]at hs;cases hs;show(0:Int)≤3;decide
     ·cases hs
    ·exact ag5 l s.1 hw j hj
theorem ajZ{ss:List StD}{tys:List TyD}{p:PlD}(hst:(zw ss).2=0)(hf:yY ss tys)(h:(zk ss tys p).2.2=true):(zk ss tys p).2.1≤3:=by
 have h8:=qi h
 obtain⟨h0,hl,x,h1,h2⟩:=(Qm hst hf).1 h
 rw[Ql hst (by rw[mayB,gde hst,Bool.true_and];exact hf.all _ (gem hl)),if_pos h8]at h1
 rw[h2]
 exact ag4 _ _ (by decide) (ag5 _ _ h1)
theorem afD{u:UnD}{g:GrD}{p:PlD}{bx:Nat}{c:List Value}{w:World}{r:Gh}{K:Value→World→Prop}(hr:Holds r w)(hx:AsP r bx u g)(hst:(zw u.ss).2=0)(hf:yY u.ss g.tys)(hp:PlG r c p)
  (h:∀t how q cap vg s w',((zk u.ss g.tys p).2.2=true→zk u.ss g.tys p=(t,yE 0 how,true))→Ext w w'→New w s w'→TyG r (tyV t q cap) t→SlG 1 s yN vg how→how.length≤8→K (.tuple #[tyV t q cap,vg,.bool (zk u.ss g.tys p).2.2]) w'):
  zd Tryz.prog Tryz.yy #[.pointer (some ⟨bx,0,none⟩),.agg c.toArray] w K:=by
 refine Zq hr hx hst hf hp (λw' hno e=>?_) λt how q cap vg s w' hsp e n htt hsl h8 _=>?_
 ·have:=h zF [] none 0 (.slice none 0 0) nothing w' (λhh=>by rw[hno]at hh;cases hh) e New.nothing yC SlG.nil (gzl _)
  rw[hno]at this
  exact this
 ·have:=h t how q cap vg s w' (λ_=>hsp) e n htt hsl h8
  rw[hsp]at this
  exact this
section
variable {p:PtD} {c:List Value} {K:Value→World→Prop} {s:ByteArray}
theorem ak9{h:abZ}{L:List UInt8}(e:([84,65,66,76,70,83,78,85,77,69]:List Int).map (qR L)=[h.to,h.a,h.b,h.args,h.fr,h.sign,h.fn,h.st,h.mu,h.el]):jD p L 10=zG p h:=by
 simp only[List.map_cons,List.map_nil,List.cons.injEq,and_true]at e
 obtain⟨e0,e1,e2,e3,e4,e5,e6,e7,e8,e9⟩:=e
 exact ak7 e0 e1 e2 e3 e4 e5 e6 e7 e8 e9
theorem xq{f:abZ}{has:List UInt8}{w:World}{r:Gh}{K:Value→World→Prop}(e:([84,65,66,76,70,83,78,85,77,69]:List Int).map (qR has)=[f.to,f.a,f.b,f.args,f.fr,f.sign,f.fn,f.st,f.mu,f.el])(hh:has.length≤100)(hr:Holds r w)(hp:PtG r c p)
  (h:∀w',Ext w w'→K (.bool (zG p f)) w'):zd Tryz.prog Tryz.zR #[.agg c.toArray,.string (bs has)] w K:=by
 refine ag3 hr hp hh λw' e'=>?_
 rw[ak9 e]
 exact h _ e'
theorem ang{t1 t2 i x:Bool}:(yj s [[61,61],[33,61],[60],[60,61],[62],[62,61]]&&t2&&(i||((s.toList == [61,61]||s.toList == [33,61])&&x))) =
  (if yj s [[60],[60,61],[62],[62,61]]=true then t2&&i else if yj s [[61,61],[33,61]]=true then t2&&(i||x)else false):=by
 have hx:∀a b:List UInt8,a≠b→(s.toList == a)=true→(s.toList == b)=false:=λa b hab h=>by
  rw[beq_iff_eq]at h
  rw[h]
  exact beq_eq_false_iff_ne.2 hab
 simp only[yj,List.any_cons,List.any_nil,Bool.or_false]
 by_cases h1:(s.toList == [61,61])=true
 ·rw[hx _ [60] (by decide) h1,hx _ [60,61] (by decide) h1,hx _ [62] (by decide) h1,hx _ [62,61] (by decide) h1,h1]
  simp
 by_cases h2:(s.toList == [33,61])=true
 ·rw[hx _ [60] (by decide) h2,hx _ [60,61] (by decide) h2,hx _ [62] (by decide) h2,hx _ [62,61] (by decide) h2,h2]
  simp
 rw[Bool.not_eq_true]at h1 h2
 rw[h1,h2]
 simp only[Bool.false_or,Bool.false_and,Bool.or_false,Bool.false_eq_true,if_false]
 by_cases h3:((s.toList == [60])||((s.toList == [60,61])||((s.toList == [62])||(s.toList == [62,61]))))=true
 ·rw[if_pos h3,h3,Bool.true_and]
 ·rw[if_neg h3]
  rw[Bool.not_eq_true]at h3
  rw[h3];rfl
theorem anU{b t1 a1 t2 a2:Bool}:(b&&(((s.toList == [45]&&t1)&&a1)||((s.toList == [33]&&t2)&&a2)))=(b&&(if yj s [[45]]=true then t1&&a1 else if yj s [[33]]=true then t2&&a2 else false)):=by
 congr 1
 simp only[yj,List.any_cons,List.any_nil,Bool.or_false]
 by_cases h1:(s.toList == [45])=true
 ·have h2:(s.toList == [33])=false:=by
   rw[beq_iff_eq]at h1;rw[h1];rfl
  rw[if_pos h1,h1,h2];simp
 ·rw[if_neg h1]
  rw[Bool.not_eq_true]at h1
  rw[h1]
  by_cases h2:(s.toList == [33])=true
  ·rw[if_pos h2,h2];simp
  ·rw[if_neg h2];rw[Bool.not_eq_true]at h2;rw[h2];simp
theorem afE{u:UnD}{g:GrD}{p:PtD}{bx:Nat}{c:List Value}{w:World}{r:Gh}{K:Value→World→Prop}(hr:Holds r w)(hx:AsP r bx u g)(hst:(zw u.ss).2=0)(hf:yY u.ss g.tys)
  (hfs:∀f∈u.fs,0≤f.pn∧f.pn<f.tys.length∧yY u.ss f.tys) (hp:PtG r c p)
  (h:∀w',Ext w w'→K (.bool (zI u g p)) w'):zd Tryz.prog Tryz.qM #[.pointer (some ⟨bx,0,none⟩),.agg c.toArray] w K:=by
 refine Tryz.JW ?_
 unfold Tryz.ZB
 have hx0:=hx
 obtain⟨p0,cap0,qf,capf,q1,c1,q2,c2,q3,c3,q4,c4,hB,hu,hg⟩:=hx
 obtain⟨_,_,_,hE,_,_,hss,hsl,hfn⟩:=hu
 cases hE
 have hfl:u.fs.length≤9223372036854775807:=hfn.few
 obtain⟨_,_,_,_,hE,_,_,_,hpts⟩:=hg
 cases hE
 have hpl:g.pts.length≤9223372036854775807:=hpts.few
 obtain⟨z1,z2,z3,z4,z5,d1,d2,d3,d4,d5,rfl,hp0⟩:=xQ hp
 obtain⟨_,_,_,_,_,hE,k1,k2,k3,k4,k5⟩:=id hp0
 cases hE
 have hpto:PlG r [.int .i64 p.to.l,.slice z1 p.to.ps.length d1] p.to:=⟨_,rfl,k1⟩
 have hpfr:PlG r [.int .i64 p.fr.l,.slice z5 p.fr.ps.length d5] p.fr:=⟨_,rfl,k5⟩
 have hoa:OpG r [.int .u8 p.a.k,.int .i64 p.a.n,.int .i64 p.a.pl.l,.slice z2 p.a.pl.ps.length d2] p.a:=⟨_,rfl,k2⟩
 have hob:OpG r [.int .u8 p.b.k,.int .i64 p.b.n,.int .i64 p.b.pl.l,.slice z3 p.b.pl.ps.length d3] p.b:=⟨_,rfl,k3⟩
 have S:=St.start hr
 refine S.box λb3 w1 S=>?_
 have S:StX noX w r w1 [.cell b3 (ptL p z1 z2 z3 z4 z5 d1 d2 d3 d4 d5) 96]:=S
 have ld:∀{q:Gh}{w9:World}{L:List Asr}{i:Nat}{v:Value}[Le r q],StX noX w q w9 L→(asL u g p0 cap0 qf capf q1 c1 q2 c2 q3 c3 q4 c4)[i]? = some v→w9.cell? ⟨bx,i,none⟩=some v:=λS hi=>by
  rw[(S.at hB).cell];exact hi
 refine gg_ ?_
 refine zf (ld (i:=9) S rfl) ?_
 refine gg_ ?_
 refine jC (g:=decide (p.op=14)) (c:=decide (p.nx≠0)) (λ_ K2 hK2=>by refine gg_ ?_;exact hK2) (λ_ K2 hK2=>by refine gg_ ?_;exact hK2) ?_
 refine aei (g:=decide (p.op≠14)) (m:=decide (p.nx<0)) (c:=decide ((g.pts.length:Int)≤p.nx)) (λK2 hK2=>by refine gg_ ?_;exact hK2) (λK2 hK2=>by refine gg_ ?_;exact hK2) (λK2 hK2=>by refine gg_ ?_;exact hK2) ?_
 have hbad:((decide (p.tx<0)||(decide (p.op=14)&&decide (p.nx≠0)))||(decide (p.op≠14)&&(decide (p.nx<0)||decide ((g.pts.length:Int)≤p.nx)))) =
   ((decide (p.tx<0)||(!decide (p.op=14) && !ZR g p.nx))||(decide (p.op=14) && !decide (p.nx=0))):=by
  have e1:(!ZR g p.nx)=(decide (p.nx<0)||decide ((g.pts.length:Int)≤p.nx)):=by
   rw[ZR,Bool.not_and,← decide_not,← decide_not]
   congr 1<;>exact decide_eq_decide.2 (by omega)
  rw[e1,← decide_not,← decide_not]
  show((decide (p.tx<0)||(decide (p.op=14)&&decide (¬p.nx=0)))||(decide (¬p.op=14)&&(decide (p.nx<0)||decide ((g.pts.length:Int)≤p.nx))))=_
  ac_rfl
 rw[hbad]
 refine c_b (λhc=>?_) (λhc=>?_)
 ·have:=h _ S.ext
  rw[zI,hc]at this
  exact this
 rw[zI,hc]at h
 simp only[Bool.not_false,Bool.true_and]at h
 clear hbad hc
 refine gg_ ?_
 refine S.ldN (b:=b3) ?_
 refine ai2 (p:=p.to) S.holds hx0 hst hf hpto λtt qt ct w2 htt e2 ht2=>?_
 have S:=S.go e2
 refine gS_ ?_
 refine S.al λb6 w3 S=>?_
 refine S.stB (b:=b6) λw4 S=>?_
 refine gg_ ?_
 refine S.ldN (b:=b3) ?_
 refine Zr (o:=p.a) S.holds hx0 hst hf hoa λta qa ca w5 hta e5 ht5=>?_
 have S:=S.go e5
 refine gS_ ?_
 refine S.al λb8 w6 S=>?_
 refine S.stB (b:=b8) λw7 S=>?_
 refine gg_ ?_
 refine S.ldN (b:=b3) ?_
 refine Zr (o:=p.b) S.holds hx0 hst hf hob λtb qb cb w8 htb e8 ht8=>?_
 have S:=S.go e8
 refine gS_ ?_
 refine S.al λb10 w9 S=>?_
 refine S.stB (b:=b10) λw10 S=>?_
 refine gg_ ?_
 refine S.ldN (b:=b3) ?_
 refine afD (p:=p.fr) S.holds hx0 hst hf hpfr λtf how qr cr vg s w11 htf e11 n11 ht11 hhow hh8=>?_
 obtain⟨S,dd,ad⟩:=S.tell e11 n11
 obtain⟨vgp,vgc,rfl,_,_⟩:=hhow.shape
 refine gS_ ?_
 refine S.al λb12 w12 S=>?_
 refine S.stB (b:=b12) λw13 S=>?_
 have S:StX noX w (r.or s) w13 [.cell b12 (tyL tf qr cr) 43,.cell b10 (tyL tb qb cb) 43,.cell b8 (tyL ta qa ca) 43,.cell b6 (tyL tt qt ct) 43,.cell b3 (ptL p z1 z2 z3 z4 z5 d1 d2 d3 d4 d5) 96]:=S
 have hpr:PtG (r.or s) (ptL p z1 z2 z3 z4 z5 d1 d2 d3 d4 d5) p:=hp0.up
 have ht2:TyG (r.or s) (tyV tt qt ct) tt:=ht2.up
 have ht5:TyG (r.or s) (tyV ta qa ca) ta:=ht5.up
 have ht8:TyG (r.or s) (tyV tb qb cb) tb:=ht8.up
 have ht11:TyG (r.or s) (tyV tf qr cr) tf:=ht11.up
 have hhow:SlG 1 (r.or s) yN (.slice vgp how.length vgc) how:=hhow.cells
 have hBto:(zk u.ss g.tys p.to).2.2=true→isB (zk u.ss g.tys p.to).1=true:=λho=>(kS hf ho).is hf.few
 have hBa:(zs u.ss g.tys p.a).2=true→isB (zs u.ss g.tys p.a).1=true:=adm hf
 have hBf:(zk u.ss g.tys p.fr).2.2=true→isB (zk u.ss g.tys p.fr).1=true:=λho=>(kS hf ho).is hf.few
 have ali:∀{a b:TyD}{va vb:Value}{w9:World}{L:List Asr}{K9:Value→World→Prop},isB a=true→isB b=true→StX noX w (r.or s) w9 L→TyG (r.or s) va a→TyG (r.or s) vb b→(∀w',Ext w9 w'→K9 (.bool (zN ya a b)) w')→zd Tryz.prog Tryz.yQ #[va,vb] w9 K9:=λha hb S hva hvb hk=>by
  refine Vt 48 ha hb S.holds hva hvb λw' e'=>?_
  have:=hk w' e'
  rw[zN,ha,hb]at this
  exact this
 refine gg_ ?_
 refine zj (λhop=>?_) (λhop=>?_)
 ·rw[ptG]at h
  simp only[hop,Int.reduceEq,if_false,if_true]at h
  refine S.ldB (b:=b3) ?_ rfl
  refine xq (f:={ to:=true,a:=true }) (by decide) (by decide) S.holds hpr λw14 e14=>?_
  have S:=S.go e14
  refine zg (c:=(zk u.ss g.tys p.to).2.2&&decide ((zk u.ss g.tys p.to).2.1<3)) (λ_ K2 hK2=>hK2) ?_
  refine zg (c:=(zs u.ss g.tys p.a).2) (λ_ K2 hK2=>hK2) ?_
  refine zr (c:=zN ya (zs u.ss g.tys p.a).1 (zk u.ss g.tys p.to).1) (λhb K2 hK2=>?_) λw15 e15=>h _ (S.go e15).ext
  simp only[gba]at hb
  obtain rfl:=htt hb.1.2.1
  obtain rfl:=hta hb.2
  refine S.ldB (b:=b8) ?_ rfl
  refine S.ldB (b:=b6) ?_ rfl
  exact ali (hBa hb.2) (hBto hb.1.2.1) S ht5 ht2 λw' e'=>hK2 _ e'
 refine gg_ ?_
 refine zj (λhop=>?_) (λhop=>?_)
 ·rw[ptG]at h
  simp only[hop,Int.reduceEq,if_false,if_true]at h
  refine S.ldB (b:=b3) ?_ rfl
  refine xq (f:={ to:=true,a:=true,b:=true,sign:=true }) (by decide) (by decide) S.holds hpr λw14 e14=>?_
  have S:=S.go e14
  refine gg_ ?_
  refine zm (c:=!((zk u.ss g.tys p.to).2.2&&decide ((zk u.ss g.tys p.to).2.1<3))) (λ_ K2 hK2=>by refine gg_ ?_;exact hK2) ?_
  refine zm (c:=!(zs u.ss g.tys p.a).2) (λ_ K2 hK2=>by refine gg_ ?_;exact hK2) ?_
  refine zm (c:=!(zs u.ss g.tys p.b).2) (λ_ K2 hK2=>by refine gg_ ?_;exact hK2) ?_
  refine c_b (λhc=>?_) (λhc=>?_)
  ·rw[bb4 hc,Bool.false_and]at h
   exact h _ S.ext
  rw[am5 hc,Bool.true_and]at h
  simp only[Bool.or_eq_false_iff,Bool.not_eq_false',gba]at hc
  obtain⟨⟨⟨_,hto,_⟩,ha2⟩,hb2⟩:=hc
  obtain rfl:=htt hto
  obtain rfl:=hta ha2
  obtain rfl:=htb hb2
  refine gg_ ?_
  refine ag2 ?_
  refine c_b (λhs=>?_) (λhs=>?_)
  ·rw[if_pos hs]at h
   refine S.ldB (b:=b6) ?_ rfl
   refine zX S.holds λw15 e15=>?_
   have S:=S.go e15
   refine zr (c:=isK (zs u.ss g.tys p.a).1 1) (λ_ K2 hK2=>?_) λw16 e16=>?_
   ·refine S.ldB (b:=b8) ?_ rfl
    exact zX S.holds λw' e'=>hK2 _ e'
   have S:=S.go e16
   refine zr (c:=isK (zs u.ss g.tys p.b).1 1) (λ_ K2 hK2=>?_) λw17 e17=>?_
   ·refine S.ldB (b:=b10) ?_ rfl
    exact zX S.holds λw' e'=>hK2 _ e'
   have:=h _ (S.go e17).ext
   rw[← Bool.and_assoc]at this
   exact this
  rw[if_neg (by rw[hs];decide)]at h
  refine S.ldB (b:=b8) ?_ rfl
  refine zX S.holds λw15 e15=>?_
  have S:=S.go e15
  refine zr (c:=isK (zs u.ss g.tys p.b).1 1) (λ_ K2 hK2=>?_) λw16 e16=>?_
  ·refine S.ldB (b:=b10) ?_ rfl
   exact zX S.holds λw' e'=>hK2 _ e'
  have S:=S.go e16
  refine anf (e:=p.sign.toList == [61,61]) (n:=p.sign.toList == [33,61]) (x:=isK (zs u.ss g.tys p.a).1 2) (y:=isK (zs u.ss g.tys p.b).1 2) (λK2 hK2=>?_) (λK2 w1 e1 hK2=>?_) (λK2 w1 e1 hK2=>?_) (λK2 w1 e1 hK2=>?_) λw17 e17=>?_
  ·refine gg_ ?_
   exact hK2 _ (Ext.refl _)
  ·have S:=S.go e1
   refine gg_ ?_
   exact hK2 _ (by first|exact e1|exact Ext.refl _)
  ·have S:=S.go e1
   refine S.ldB (b:=b8) ?_ rfl
   exact zX S.holds λw' e'=>hK2 _ (e1.trans e')
  ·have S:=S.go e1
   refine S.ldB (b:=b10) ?_ rfl
   exact zX S.holds λw' e'=>hK2 _ (e1.trans e')
  have S:=S.go e17
  refine gg_ ?_
  refine aek ?_
  refine zr (c:=isK (zk u.ss g.tys p.to).1 2) (λ_ K2 hK2=>?_) λw18 e18=>?_
  ·refine S.ldB (b:=b6) ?_ rfl
   exact zX S.holds λw' e'=>hK2 _ e'
  have S:=S.go e18
  refine zg (c:=(isK (zs u.ss g.tys p.a).1 1&&isK (zs u.ss g.tys p.b).1 1)||(((p.sign.toList == [61,61]||p.sign.toList == [33,61])&&isK (zs u.ss g.tys p.a).1 2)&&isK (zs u.ss g.tys p.b).1 2)) (λ_ K2 hK2=>hK2) ?_
  have:=h _ S.ext
  rw[← ang (t1:=true),← Bool.and_assoc ((p.sign.toList == [61,61])||(p.sign.toList == [33,61]))]at this
  exact this
 refine gg_ ?_
 refine zj (λhop=>?_) (λhop=>?_)
 ·rw[ptG]at h
  simp only[hop,Int.reduceEq,if_false,if_true]at h
  refine S.ldB (b:=b3) ?_ rfl
  refine xq (f:={ to:=true,a:=true,sign:=true }) (by decide) (by decide) S.holds hpr λw14 e14=>?_
  have S:=S.go e14
  refine zg (c:=(zk u.ss g.tys p.to).2.2&&decide ((zk u.ss g.tys p.to).2.1<3)) (λ_ K2 hK2=>hK2) ?_
  refine zg (c:=(zs u.ss g.tys p.a).2) (λ_ K2 hK2=>hK2) ?_
  rw[← anU]at h
  cases hb:((zG p { to:=true,a:=true,sign:=true } && ((zk u.ss g.tys p.to).2.2&&decide ((zk u.ss g.tys p.to).2.1<3)))&&(zs u.ss g.tys p.a).2)with
  |false=>
   rw[hb,Bool.false_and]at h
   (intro K9 hK9;refine gd_ ?_;refine hK9 _ _ λ_=>?_;clear hK9 K9)
   (intro K9 hK9;refine gd_ ?_;refine hK9 _ _ λ_=>?_;clear hK9 K9)
   (intro K9 hK9;refine gd_ ?_;refine hK9 _ _ λ_=>?_;clear hK9 K9)
   (intro K9 hK9;refine gd_ ?_;refine hK9 _ _ λ_=>?_;clear hK9 K9)
   (intro K9 hK9;refine gd_ ?_;refine hK9 _ _ λ_=>?_;clear hK9 K9)
   (intro K9 hK9;refine gd_ ?_;refine hK9 _ _ λ_=>?_;clear hK9 K9)
   (intro K9 hK9;refine gd_ ?_;refine hK9 _ _ λ_=>?_;clear hK9 K9)
   (intro K9 hK9;refine gd_ ?_;refine hK9 _ _ λ_=>?_;clear hK9 K9)
   (intro K9 hK9;refine gd_ ?_;refine hK9 _ _ λ_=>?_;clear hK9 K9)
   (intro K9 hK9;refine gd_ ?_;refine hK9 _ _ λ_=>?_;clear hK9 K9)
   (intro K9 hK9;refine gd_ ?_;refine hK9 _ _ λ_=>?_;clear hK9 K9)
   refine gd_ ?_
   exact h _ S.ext
  |true=>
   rw[hb]at h
   simp only[gba]at hb
   obtain rfl:=htt hb.1.2.1
   obtain rfl:=hta hb.2
   refine amh (m:=p.sign.toList == [45]) (x:=isK (zk u.ss g.tys p.to).1 1) (y:=isK (zs u.ss g.tys p.a).1 1) (o:=p.sign.toList == [33]) (u:=isK (zk u.ss g.tys p.to).1 2) (v:=isK (zs u.ss g.tys p.a).1 2) (λK2 hK2=>?_) (λK2 w1 e1 hK2=>?_) (λK2 w1 e1 hK2=>?_) (λK2 w1 e1 hK2=>?_) (λK2 w1 e1 hK2=>?_) (λK2 w1 e1 hK2=>?_) λw17 e17=>h _ (S.go e17).ext
   ·refine gg_ ?_
    exact hK2 _ (Ext.refl _)
   ·have S:=S.go e1
    refine S.ldB (b:=b6) ?_ rfl
    exact zX S.holds λw' e'=>hK2 _ (e1.trans e')
   ·have S:=S.go e1
    refine S.ldB (b:=b8) ?_ rfl
    exact zX S.holds λw' e'=>hK2 _ (e1.trans e')
   ·have S:=S.go e1
    refine gg_ ?_
    exact hK2 _ (by first|exact e1|exact Ext.refl _)
   ·have S:=S.go e1
    refine S.ldB (b:=b6) ?_ rfl
    exact zX S.holds λw' e'=>hK2 _ (e1.trans e')
   ·have S:=S.go e1
    refine S.ldB (b:=b8) ?_ rfl
    exact zX S.holds λw' e'=>hK2 _ (e1.trans e')
 have h8:∀k,(ze u.ss k).length≤8:=kc (xt hst).2.1
 have h32:=hf.few
 have inn:∀{t:TyD}{q:Option Addr}{cap:Nat},TyG (r.or s) (tyV t q cap) t→(∃k,t.k=k∧(k=3∨k=4))→Fine u.ss t→∃uu bo oo q2 cap2,t.of=[uu]∧q=some ⟨bo,oo,none⟩∧isB uu=true∧TyG (r.or s) (tyV uu q2 cap2) uu∧∀j v,(tyL uu q2 cap2)[j]? = some v→Ob (r.or s) λw=>w.cell? ⟨bo,oo+j,none⟩=some v:=λht hk hfi=>by
  obtain⟨k,hk1,hk2⟩:=hk
  rcases hfi.cases with⟨_,h1⟩|⟨uu,h1,h2,_⟩
  ·omega
  ·obtain⟨bo,oo,q2,cap2,rfl,ht2,hcc⟩:=Zm ht h1
   exact⟨uu,bo,oo,q2,cap2,h1,rfl,h2.is h32,ht2,hcc⟩
 refine gg_ ?_
 refine zj (λhop=>?_) (λhop=>?_)
 ·rw[ptG]at h
  simp only[hop,Int.reduceEq,if_false,if_true]at h
  have S:=S.go (Ext.drew _)
  refine S.ldB (b:=b3) ?_ rfl
  refine xq (f:={ to:=true,fr:=true,mu:=true }) (by decide) (by decide) S.holds hpr λw14 e14=>?_
  have S:=S.go e14
  refine zg (c:=(zk u.ss g.tys p.to).2.2&&decide ((zk u.ss g.tys p.to).2.1<3)) (λ_ K2 hK2=>hK2) ?_
  refine zg (c:=(zk u.ss g.tys p.fr).2.2) (λ_ K2 hK2=>hK2) ?_
  refine zr (c:=isK (zk u.ss g.tys p.to).1 4) (λhb K2 hK2=>?_) λw15 e15=>?_
  ·simp only[gba]at hb
   obtain rfl:=htt hb.1.2.1
   refine S.ldB (b:=b6) ?_ rfl
   exact zX S.holds λw' e'=>hK2 _ e'
  have S:=S.go e15
  refine zg (c:=(zk u.ss g.tys p.to).1.m == p.mu) (λhb K2 hK2=>?_) ?_
  ·simp only[gba]at hb
   obtain rfl:=htt hb.1.1.2.1
   refine gg_ ?_
   exact hK2
  refine zr (c:=zN ya ((zk u.ss g.tys p.to).1.of.headD zF) (zk u.ss g.tys p.fr).1) (λhb K2 hK2=>?_) λw16 e16=>?_
  ·simp only[gba]at hb
   have hto:=hb.1.1.1.2.1
   have hfr:=hb.1.1.2
   have hk4:(zk u.ss g.tys p.to).1.k=4:=by have:=hb.1.2;simpa [isK]using this
   obtain rfl:=htt hto
   have hff:=htf hfr
   have htfe:(zk u.ss g.tys p.fr).1=tf:=by rw[hff]
   have hBf:=hBf hfr
   rw[htfe]at hBf hK2
   obtain⟨uu,bo,oo,q2,cap2,hof,rfl,hBu,htu,hcc⟩:=inn ht2 ⟨_,hk4,.inr rfl⟩ (kS hf hto)
   rw[hof]at hK2
   have hl1:(zk u.ss g.tys p.to).1.of.length=1:=by rw[hof];rfl
   refine gg_ ?_
   refine zo (n:=5) (c:=tyL uu q2 cap2) rfl (λj v hj=>by simpa using S.at (hcc j v hj)) ?_
   refine S.ldB (b:=b12) ?_ rfl
   exact ali hBu hBf S htu ht11 λw' e'=>hK2 _ e'
  have S:=S.go e16
  refine ami (m:=!p.mu) (x:=decide (yE 0 how<3)) (λK2 hK2=>by refine gg_ ?_;exact hK2) (λ_ K2 hK2=>?_) λw17 e17=>?_
  ·refine Zp S.holds hhow (by omega) λw7 e7=>?_
   refine gp_ ?_
   exact hK2 _ e7
  have:=h _ (S.go e17).ext
  rw[Bool.beq_eq_decide_eq,Bool.and_assoc]
  cases hfr:(zk u.ss g.tys p.fr).2.2 with
  |false=>
   rw[hfr]at this
   simp only[Bool.and_false,Bool.false_and]at this⊢
   exact this
  |true=>
   have hm3:=ajZ hst hf hfr
   have hff:=htf hfr
   have e1:(zk u.ss g.tys p.fr).2.1=yE 0 how:=by rw[hff]
   rw[e1]at hm3
   rw[hfr,e1]at this
   have e2:(!(p.mu&&decide (yE 0 how=3)))=(!p.mu||decide (yE 0 how<3)):=by
    rw[Bool.not_and,← decide_not]
    congr 1
    exact decide_eq_decide.2 (by omega)
   rw[e2]at this
   exact this
 refine gg_ ?_
 refine zj (λhop=>?_) (λhop=>?_)
 ·rw[ptG]at h
  simp only[hop,Int.reduceEq,if_false,if_true]at h
  have S:=S.go (Ext.drew _)
  refine S.ldB (b:=b3) ?_ rfl
  refine xq (f:={ to:=true,a:=true }) (by decide) (by decide) S.holds hpr λw14 e14=>?_
  have S:=S.go e14
  refine zg (c:=(zk u.ss g.tys p.to).2.2&&decide ((zk u.ss g.tys p.to).2.1<3)) (λ_ K2 hK2=>hK2) ?_
  refine zg (c:=(zs u.ss g.tys p.a).2) (λ_ K2 hK2=>hK2) ?_
  refine zr (c:=isK (zk u.ss g.tys p.to).1 3) (λhb K2 hK2=>?_) λw15 e15=>?_
  ·simp only[gba]at hb
   obtain rfl:=htt hb.1.2.1
   refine S.ldB (b:=b6) ?_ rfl
   exact zX S.holds λw' e'=>hK2 _ e'
  have S:=S.go e15
  refine zr (c:=zN ya ((zk u.ss g.tys p.to).1.of.headD zF) (zs u.ss g.tys p.a).1) (λhb K2 hK2=>?_) λw16 e16=>h _ (S.go e16).ext
  simp only[gba]at hb
  have hto:=hb.1.1.2.1
  have ha2:=hb.1.2
  have hk3:(zk u.ss g.tys p.to).1.k=3:=by have:=hb.2;simpa [isK]using this
  obtain rfl:=htt hto
  obtain rfl:=hta ha2
  obtain⟨uu,bo,oo,q2,cap2,hof,rfl,hBu,htu,hcc⟩:=inn ht2 ⟨_,hk3,.inl rfl⟩ (kS hf hto)
  rw[hof]at hK2
  have hl1:(zk u.ss g.tys p.to).1.of.length=1:=by rw[hof];rfl
  refine gg_ ?_
  refine zo (n:=5) (c:=tyL uu q2 cap2) rfl (λj v hj=>by simpa using S.at (hcc j v hj)) ?_
  refine S.ldB (b:=b8) ?_ rfl
  exact ali hBu (hBa ha2) S htu ht5 λw' e'=>hK2 _ e'
 refine gg_ ?_
 refine zj (λhop=>?_) (λhop=>?_)
 ·rw[ptG]at h
  simp only[hop,Int.reduceEq,if_false,if_true]at h
  refine S.ldB (b:=b3) ?_ rfl
  refine xq (f:={ to:=true,args:=true,st:=true }) (by decide) (by decide) S.holds hpr λw14 e14=>?_
  have S:=S.go e14
  refine gg_ ?_
  refine zm (c:=!((zk u.ss g.tys p.to).2.2&&decide ((zk u.ss g.tys p.to).2.1<3))) (λ_ K2 hK2=>by refine gg_ ?_;exact hK2) ?_
  refine xj (c:=!isK (zk u.ss g.tys p.to).1 5) (λhb K2 hK2=>?_) λw15 e15=>?_
  ·simp only[Bool.or_eq_false_iff,Bool.not_eq_false',gba]at hb
   obtain rfl:=htt hb.2.1
   refine S.ldB (b:=b6) ?_ rfl
   refine zX S.holds λw' e'=>?_
   refine gp_ ?_
   exact hK2 _ e'
  have S:=S.go e15
  refine zm (c:=decide ((zk u.ss g.tys p.to).1.st≠p.st)) (λhb K2 hK2=>?_) ?_
  ·simp only[Bool.or_eq_false_iff,Bool.not_eq_false',gba]at hb
   obtain rfl:=htt hb.1.2.1
   refine gg_ ?_
   exact hK2
  refine c_b (λhc=>?_) (λhc=>?_)
  ·rw[bb3 hc,Bool.false_and]at h
   exact h _ S.ext
  rw[am6 hc,Bool.true_and]at h
  simp only[Bool.or_eq_false_iff,Bool.not_eq_false',gba,decide_eq_false_iff_not]at hc
  obtain⟨⟨⟨_,hto,_⟩,hk5⟩,hste⟩:=hc
  obtain rfl:=htt hto
  have S:=S.go (Ext.drew _)
  refine gg_ ?_
  refine zf (ld (i:=0) S rfl) ?_
  refine S.ldB (b:=b6) ?_ rfl
  refine ad2 S.holds hss.up (by omega) (λk=>by have:=h8 k;omega) ht2 λqx cx sn w16 e16 n16 hts=>?_
  obtain⟨S,_,_⟩:=S.tell e16 n16
  refine gS_ ?_
  refine gg_ ?_
  have hfb:∀t∈(yq u.ss (zk u.ss g.tys p.to).1).1,isB t=true:=λt ht=>by
   rw[yq]at ht
   split at ht
   ·exact Fine.is (ss:=u.ss) (hf.good _ t ht) h32
   ·cases ht
  have hfl8:(yq u.ss (zk u.ss g.tys p.to).1).1.length≤8:=by
   rw[yq]
   split
   ·exact h8 _
   ·simp
  refine aao (l:=p.args) S.holds hx0.up hst hf (k4.sl.up' inferInstance λc x hx=>OpG.up hx) k4.few (TysG.up hts) (by simp only[maxLen];omega) hfb λw17 e17=>?_
  exact h _ (S.go e17).ext
 refine gg_ ?_
 refine zj (λhop=>?_) (λhop=>?_)
 ·rw[ptG]at h
  simp only[hop,Int.reduceEq,if_false,if_true]at h
  have S:=S.go (Ext.drew _)
  refine S.ldB (b:=b3) ?_ rfl
  refine xq (f:={ to:=true,args:=true,fn:=true }) (by decide) (by decide) S.holds hpr λw14 e14=>?_
  have S:=S.go e14
  refine gg_ ?_
  refine zm (c:=!((zk u.ss g.tys p.to).2.2&&decide ((zk u.ss g.tys p.to).2.1<3))) (λ_ K2 hK2=>by refine gg_ ?_;exact hK2) ?_
  refine zm (c:=decide (p.fn<0)) (λ_ K2 hK2=>by refine gg_ ?_;exact hK2) ?_
  refine zm (c:=decide ((u.fs.length:Int)≤p.fn)) (λ_ K2 hK2=>?_) ?_
  ·refine gg_ ?_
   refine zf (ld (i:=1) S rfl) ?_
   refine gg_ ?_
   exact hK2
  refine c_b (λhc=>?_) (λhc=>?_)
  ·rw[bb5 hc,Bool.false_and]at h
   exact h _ S.ext
  rw[am7 hc,Bool.true_and]at h
  simp only[Bool.or_eq_false_iff,Bool.not_eq_false',gba,decide_eq_false_iff_not]at hc
  obtain⟨⟨⟨_,hto,_⟩,hfn0⟩,hfn1⟩:=hc
  obtain rfl:=htt hto
  have hltf:p.fn.toNat<u.fs.length:=by omega
  rw[gqg hltf]at h
  dsimp only at h
  obtain⟨hpn0,hpn1,hff⟩:=hfs _ (gem hltf)
  obtain⟨bf,of,cf,rfl,hcf,hgc,hfo⟩:=hfn.sl.get (by decide) hltf
  generalize u.fs[p.fn.toNat]=f at h hpn0 hpn1 hff hgc
  obtain⟨vo,vt,vn,vp,rfl,m1,m2,m3,m4⟩:=hgc
  obtain⟨qo,capo,rfl,_,_⟩:=m1.sl.shape
  obtain⟨qt2,capt2,rfl,_,hct2⟩:=m2.sl.shape
  obtain⟨qn,capn,rfl,_,_⟩:=m3.sl.shape
  obtain⟨qp,capp,rfl,_,_⟩:=m4.sl.shape
  have hml:=m2.few
  have hml':f.tys.length≤9223372036854775807:=hml
  have S:=S.go (Ext.drew _)
  refine gg_ ?_
  refine zf (ld (i:=1) S rfl) ?_
  refine gg_ ?_
  refine zo (n:=7) hcf (λj v hj=>S.at (hfo j v hj)) ?_
  refine S.alU λb18 w15 S=>?_
  refine S.stB (b:=b18) λw16 S=>?_
  have S:=S.go (Ext.drew _)
  refine gg_ ?_
  have hlen:(f.pn+1).toNat-(1:Int).toNat=((f.tys.drop 1).take f.pn.toNat).length:=by rw[List.length_take,List.length_drop];omega
  rw[hlen]
  have hsub:=(vN m2.sl).sub (a:=(1:Int).toNat) (n:=f.pn.toNat) (cap:=capt2) hct2
  have hlst:(f.tys.drop (1:Int).toNat).take f.pn.toNat=(f.tys.drop 1).take f.pn.toNat:=rfl
  rw[hlst]at hsub
  generalize (if capt2=(1:Int).toNat then qt2 else qt2.map (·.add ((1:Int).toNat*5)))=qs2 at hsub⊢
  have hpb:∀t∈(f.tys.drop 1).take f.pn.toNat,isB t=true:=λt ht=>(hff.all t (List.mem_of_mem_drop (List.mem_of_mem_take ht))).is h32
  refine aao (l:=p.args) S.holds hx0.up hst hf (k4.sl.up' inferInstance λc x hx=>OpG.up hx) k4.few (TysG.up hsub) (by rw[List.length_take,List.length_drop];omega) hpb λw17 e17=>?_
  have S:=S.go e17
  have hpos:0<f.tys.length:=by omega
  have hhd:f.tys.headD zF=f.tys[0]:=by rw[List.headD_eq_head?_getD,List.head?_eq_getElem?,gqg hpos,Option.getD_some]
  rw[hhd]at h
  refine zr (c:=zN ya (zk u.ss g.tys p.to).1 f.tys[0]) (λ_ K2 hK2=>?_) λw18 e18=>?_
  ·obtain⟨bt,ot,ct3,rfl,hct3,htc,hto3⟩:=vN m2.sl 0 hpos
   obtain⟨q9,cap9,rfl,ht9⟩:=yh hto3
   refine S.ldB (b:=b6) ?_ rfl
   refine gg_ ?_
   refine zo (n:=5) hct3 (λj v hj=>by simpa using S.at (htc j v hj)) ?_
   exact ali (hBto hto) ((hff.all _ (gem hpos)).is h32) S ht2 ht9.up λw' e'=>hK2 _ e'
  have:=h _ (S.go e18).ext
  rw[Bool.and_comm]at this
  exact this
 refine gg_ ?_
 refine zj (λhop=>?_) (λhop=>?_)
 ·rw[ptG]at h
  simp only[hop,Int.reduceEq,if_false,if_true]at h
  refine S.ldB (b:=b3) ?_ rfl
  refine xq (f:={ to:=true }) (by decide) (by decide) S.holds hpr λw14 e14=>?_
  have S:=S.go e14
  refine zg (c:=(zk u.ss g.tys p.to).2.2&&decide ((zk u.ss g.tys p.to).2.1<3)) (λ_ K2 hK2=>hK2) ?_
  refine zr (c:=isK (zk u.ss g.tys p.to).1 1) (λhb K2 hK2=>?_) λw15 e15=>h _ (S.go e15).ext
  simp only[gba]at hb
  obtain rfl:=htt hb.2.1
  refine S.ldB (b:=b6) ?_ rfl
  exact zX S.holds λw' e'=>hK2 _ e'
 refine gg_ ?_
 refine zj (λhop=>?_) (λhop=>?_)
 ·rw[ptG]at h
  simp only[hop,Int.reduceEq,if_false,if_true]at h
  refine S.ldB (b:=b3) ?_ rfl
  refine xq (f:={ a:=true }) (by decide) (by decide) S.holds hpr λw14 e14=>?_
  have S:=S.go e14
  refine zg (c:=(zs u.ss g.tys p.a).2) (λ_ K2 hK2=>hK2) ?_
  refine zr (c:=isK (zs u.ss g.tys p.a).1 1) (λhb K2 hK2=>?_) λw15 e15=>h _ (S.go e15).ext
  simp only[gba]at hb
  obtain rfl:=hta hb.2
  refine S.ldB (b:=b8) ?_ rfl
  exact zX S.holds λw' e'=>hK2 _ e'
 refine gg_ ?_
 refine zj (λhop=>?_) (λhop=>?_)
 ·rw[ptG]at h
  simp only[hop,Int.reduceEq,if_false,if_true]at h
  have S:=S.go (Ext.drew _)
  refine gg_ ?_
  refine zf (ld (i:=0) S rfl) ?_
  refine S.ldB (b:=b12) ?_ rfl
  refine afo S.holds hss.up (by omega) (λk=>by have:=h8 k;omega) ht11 λw14 e14=>?_
  have S:=S.go e14
  refine gS_ ?_
  refine S.ldB (b:=b3) ?_ rfl
  refine xq (f:={ fr:=true }) (by decide) (by decide) S.holds hpr λw15 e15=>?_
  have S:=S.go e15
  refine zg (c:=(zk u.ss g.tys p.fr).2.2) (λ_ K2 hK2=>hK2) ?_
  refine zg (c:=(yX u.ss tf).1) (λ_ K2 hK2=>hK2) ?_
  refine zr (c:=decide (yE 0 how<2)) (λ_ K2 hK2=>?_) λw16 e16=>?_
  ·refine Zp S.holds hhow (by omega) λw7 e7=>?_
   refine gp_ ?_
   exact hK2 _ e7
  have:=h _ (S.go e16).ext
  cases hfr:(zk u.ss g.tys p.fr).2.2 with
  |false=>
   rw[hfr]at this
   simp only[Bool.and_false,Bool.false_and]at this⊢
   exact this
  |true=>
   rw[htf hfr]at this
   exact this
 refine gg_ ?_
 refine zj (λhop=>?_) (λhop=>?_)
 ·rw[ptG]at h
  simp only[hop,Int.reduceEq,if_false,if_true]at h
  refine S.ldB (b:=b3) ?_ rfl
  refine xq (f:={ fr:=true }) (by decide) (by decide) S.holds hpr λw14 e14=>?_
  have S:=S.go e14
  refine zg (c:=(zk u.ss g.tys p.fr).2.2) (λ_ K2 hK2=>hK2) ?_
  refine zg (c:=decide (0<p.fr.l)) (λ_ K2 hK2=>by refine gg_ ?_;exact hK2) ?_
  refine zg (c:=decide (p.fr.ps.length=0)) (λ_ K2 hK2=>?_) (h _ S.ext)
  refine gg_ ?_
  rw[decide_eq_decide.2 (qc p.fr.ps.length)]
  exact hK2
 refine gg_ ?_
 refine zj (λhop=>?_) (λhop=>?_)
 ·rw[ptG]at h
  simp only[hop,Int.reduceEq,if_false,if_true]at h
  refine S.ldB (b:=b3) ?_ rfl
  refine xq (f:={ a:=true,el:=true }) (by decide) (by decide) S.holds hpr λw14 e14=>?_
  have S:=S.go e14
  refine zg (c:=(zs u.ss g.tys p.a).2) (λ_ K2 hK2=>hK2) ?_
  refine zr (c:=isK (zs u.ss g.tys p.a).1 2) (λhb K2 hK2=>?_) λw15 e15=>?_
  ·simp only[gba]at hb
   obtain rfl:=hta hb.2
   refine S.ldB (b:=b8) ?_ rfl
   exact zX S.holds λw' e'=>hK2 _ e'
  have S:=S.go e15
  refine zg (c:=decide (0≤p.el)) (λ_ K2 hK2=>by refine gg_ ?_;exact hK2) ?_
  refine zg (c:=decide (p.el<(g.pts.length:Int))) (λ_ K2 hK2=>by refine gg_ ?_;exact hK2) ?_
  have:=h _ S.ext
  rw[ZR,← Bool.and_assoc]at this
  exact this
 intro K11 hK11
 refine gg_ ?_
 refine kX (c:=decide (p.op=14)) (hK11 _ _ λ_=>?_) λ_ hk=>?_
 rotate_left
 ·refine gg_ ?_;exact hk
 simp only[gdz]
 rw[ptG]at h
 rw[if_neg (by omega),if_neg (by omega),if_neg (by omega),if_neg (by omega),if_neg (by omega),if_neg (by omega),if_neg (by omega),if_neg (by omega),if_neg (by omega),if_neg (by omega),if_neg (by omega),if_neg (by omega)]at h
 refine c_b (λhh=>?_) (λhh=>?_)
 ·have hh:p.op=13∨p.op=14:=by simpa using hh
  rw[if_pos hh]at h
  refine S.ldB (b:=b3) ?_ rfl
  refine xq (f:={}) (by decide) (by decide) S.holds hpr λw14 e14=>?_
  exact h _ (S.go e14).ext
 ·have hh:¬(p.op=13∨p.op=14):=by simpa using hh
  rw[if_neg hh]at h
  exact h _ S.ext
end
end Go.Proofs
namespace Go.Sh
theorem ala{w:World}{b x y z:Bool}{A1:(List Value→World→Prop)→Prop}{A2 A3:(List Value→World→Prop)→World→Prop}{Z:Value→World→Prop}
  (h1:b=true→∀K:List Value→World→Prop,K [.bool x] w→A1 K) (h2:b=true→∀K:List Value→World→Prop,K [.bool y] w→A2 K w) (h3:b=true→∀K:List Value→World→Prop,K [.bool z] w→A3 K w)
  (hZ:Z (.bool (b&&(x||(y&&z)))) w):
  za (λK=>gIf (.bool b) true (A1 K) (K [u_] w)) λs80 _ w82=>
   za (λK=>gIf (s80.getD 0 u_) false (A2 K w82) (K [u_] w82)) λs84 _ w86=>
    za (λK=>gIf (s84.getD 0 u_) true (A3 K w86) (K [u_] w86)) λs88 _ w90=>
     za (λK=>gIf (s80.getD 0 u_) false (zb (s84.getD 0 u_) (s88.getD 0 u_) (.bool false) λt=>K [t] w90) (K [u_] w90)) λs92 _ w94=>
      za (λK=>gIf (.bool b) true (zb (s80.getD 0 u_) (.bool true) (s92.getD 0 u_) λt=>K [t] w94) (K [u_] w94)) λs96 _ w98=>
       zb (.bool b) (s96.getD 0 u_) (.bool false) λt=>Z t w98:=by
 cases b<;>cases x<;>cases y<;>cases z <;>
  (iterate 5 (intro K hK;first|refine hK _ _ λ_=>?_|refine h1 rfl _ (hK _ _ λ_=>?_)|refine h2 rfl _ (hK _ _ λ_=>?_)|refine h3 rfl _ (hK _ _ λ_=>?_)|refine ⟨_,rfl,hK _ _ λ_=>?_⟩)) <;>
  exact⟨_,rfl,by simpa using hZ⟩
theorem anh{w:World}{b c d e:Bool}{A1:(List Value→World→Prop)→Prop}{A2 A3:(List Value→World→Prop)→World→Prop}{Z:Value→World→Prop}
  (h1:∀K:List Value→World→Prop,K [.bool c] w→A1 K) (h2:∀K:List Value→World→Prop,K [.bool d] w→A2 K w) (h3:∀K:List Value→World→Prop,K [.bool e] w→A3 K w)
  (hZ:Z (.bool (b||((c&&d)&&e))) w):
  za (λK=>gIf (.bool b) false (A1 K) (K [u_] w)) λs153 _ w155=>
   za (λK=>gIf (s153.getD 0 u_) true (A2 K w155) (K [u_] w155)) λs157 _ w159=>
    za (λK=>gIf (.bool b) false (zb (s153.getD 0 u_) (s157.getD 0 u_) (.bool false) λt=>K [t] w159) (K [u_] w159)) λs161 _ w163=>
     za (λK=>gIf (s161.getD 0 u_) true (A3 K w163) (K [u_] w163)) λs165 _ w167=>
      za (λK=>gIf (.bool b) false (zb (s161.getD 0 u_) (s165.getD 0 u_) (.bool false) λt=>K [t] w167) (K [u_] w167)) λs169 _ w171=>
       zb (.bool b) (.bool true) (s169.getD 0 u_) λt=>Z t w171:=by
 cases b<;>cases c<;>cases d<;>cases e <;>
  (iterate 5 (intro K hK;first|refine hK _ _ λ_=>?_|refine h1 _ (hK _ _ λ_=>?_)|refine h2 _ (hK _ _ λ_=>?_)|refine h3 _ (hK _ _ λ_=>?_)|refine ⟨_,rfl,hK _ _ λ_=>?_⟩)) <;>
  exact⟨_,rfl,by simpa using hZ⟩
end Go.Sh
namespace Go.Proofs
open Go.Sh
theorem ag6{bt:Nat}{M:List Asr}{w0:World}{r:Gh}{t:TyD}{v:Value}{f:Nat→Nat→Bool}{w:World}{K:Value→World→Prop}(hv:TyG r v t)(hx:∀x∈regsT t,0≤x∧x<8)
  (S:StX noX w0 r w (.cell bt (zP f) 296::M))
  (h:∀w',StX noX w0 r w' (.cell bt (zP (JQ f (regsT t))) 296::M)→K (.tuple #[]) w'):zd Tryz.prog Tryz.Xi #[v,.pointer (some ⟨bt,0,none⟩)] w K:=by
 refine Tryz.afx ?_
 unfold Tryz.aai
 have hv0:=hv
 obtain⟨p1,cap1,rfl,_⟩:=hv
 refine S.box λb2 w1 S=>?_
 have S:StX noX w0 r w1 (.cell b2 (tyL t p1 cap1) 43::.cell bt (zP f) 296::M):=S
 refine S.ldB (b:=b2) ?_ rfl
 refine Qd S.holds hv0 λv7 w7 e7 o7=>?_
 obtain⟨s1,p7,cap7,n7,nb7,rfl,_,hc7,hs7⟩:=agr o7
 have S:=(S.new e7 n7).tl
 have hr48:(regsT t).length≤1000:=by
  rw[regsT];split
  ·have:=jf (by assumption);omega
  ·simp
 generalize regsT t=l at hx h hs7 hr48⊢
 refine zi (ι:=Nat×(Nat→Nat→Bool)) (λi=>[.int .i64 (i.1:Nat)]) (λi w'=>i.1≤l.length∧(∀x y:Nat,JQ i.2 (l.drop i.1) x y=JQ f l x y)∧StX noX w0 (r.or s1) w' (.cell bt (zP i.2) 296::M)) (λi=>l.length-i.1) (0,f) rfl ⟨gzl _,λx y=>rfl,S⟩ ?_
 clear S
 rintro⟨i,g⟩ d w2 ⟨hi,hbit,S⟩ K3 hK3
 simp only at hi hbit S⊢
 rw[gdz]
 refine gg_ ?_
 refine zj (λhlt=>?_) (λhge=>?_)
 rotate_left
 ·have hie:i=l.length:=by omega
  refine h _ ?_
  have e:zP g=zP (JQ f l):=yL λx y _ _=>by
   have:=hbit x y
   rw[hie,List.drop_length]at this
   rw[← this]
   show g x y=(g x y||qg x y [])
   rw[qg,Bool.or_false]
  rw[← e]
  exact S.to r
 have hlt:i<l.length:=by omega
 have hdrop:l.drop i=l[i]::l.drop (i+1):=List.drop_eq_getElem_cons hlt
 obtain⟨ha0,ha8⟩:=hx _ (gem hlt)
 obtain⟨bq,oq,rfl,hxi⟩:=aiU hs7 (S.holds.le (h:=inferInstance)) hlt
 generalize hai:l[i]=a at hdrop ha0 ha8 hxi
 have hrl:(l.drop (i+1)).length=l.length-(i+1):=List.length_drop
 refine gg_ ?_
 refine zi (ι:=Nat) (λj=>[.int .i64 ((i:Int)+1+(j:Nat))]) (λj w'=>j≤(l.drop (i+1)).length∧StX noX w0 (r.or s1) w' (.cell bt (zP (YA g a ((l.drop (i+1)).take j))) 296::M)) (λj=>(l.drop (i+1)).length-j) 0 (by simp) ⟨gzl _,by
  rw[yL (f:=YA g a ((l.drop (i+1)).take 0)) (g:=g) (λx y _ _=>by simp[YA])]
  exact S⟩ ?_
 clear S
 rintro j d w3 ⟨hj,S⟩ K7 hK7
 rw[gdz]
 refine gg_ ?_
 refine zj (λhlt2=>?_) (λhge2=>?_)
 ·have hlt2:j<(l.drop (i+1)).length:=by omega
  have hlt3:i+1+j<l.length:=by omega
  have hel:(l.drop (i+1))[j]=l[i+1+j]:=List.getElem_drop
  obtain⟨bk,ok,hbe,hxk⟩:=aiU hs7 (S.holds.le (h:=inferInstance)) hlt3
  cases hbe
  obtain⟨hi0,hi8⟩:=hx _ (gem hlt3)
  have S:=S.go (Ext.drew _)
  rw[show ((i:Int)+1+(j:Nat))=((i+1+j:Nat):Int)by omega]
  refine gg_ ?_
  refine zf (by rw[tnc];exact S.at hxk) ?_
  refine gg_ ?_
  refine zf (by simpa using S.at hxi) ?_
  refine gg_ ?_
  refine S.st (b:=bt) (λw4 S=>?_) (by rw[vr];omega)
  refine gg_ ?_
  rw[show (((i+1+j:Nat):Int)+1)=((i:Int)+1+((j+1:Nat):Int))by omega]
  refine hK7 (j+1) _ ⟨hlt2,?_⟩ (by omega)
  rw[show 0+l[i+1+j].toNat*8+a.toNat*1=l[i+1+j].toNat*8+a.toNat by omega,JO (by omega) (by omega)]at S
  rw[yL (f:=YA g a ((l.drop (i+1)).take (j+1))) (g:=λx y=>YA g a ((l.drop (i+1)).take j) x y||(decide (x=l[i+1+j].toNat)&&decide (y=a.toNat))) (λx y _ _=>by
   show(g x y||(decide (a=(y:Int))&&((l.drop (i+1)).take (j+1)).contains (x:Int)))=((g x y||(decide (a=(y:Int))&&((l.drop (i+1)).take j).contains (x:Int)))||(decide (x=l[i+1+j].toNat)&&decide (y=a.toNat)))
   rw[agM hlt2,hel,show decide ((x:Int)=l[i+1+j])=decide (x=l[i+1+j].toNat)from decide_eq_decide.2 (by omega),show decide (a=(y:Int))=decide (y=a.toNat)from decide_eq_decide.2 (by omega)]
   cases g x y<;>cases decide (y=a.toNat)<;>cases ((l.drop (i+1)).take j).contains (x:Int)<;>cases decide (x=l[i+1+j].toNat)<;>rfl)]
  exact S
 ·have hje:j=(l.drop (i+1)).length:=by omega
  rw[hje,List.take_length]at S
  refine gg_ ?_
  rw[show ((i:Int)+1)=((i+1:Nat):Int)by omega]
  refine hK3 (i+1,YA g a (l.drop (i+1))) _ ⟨hlt,λx y=>?_,S⟩ (by simp only;omega)
  rw[← hbit x y,hdrop]
  show((g x y||(decide (a=(y:Int))&&(l.drop (i+1)).contains (x:Int)))||qg x y (l.drop (i+1)))=(g x y||qg x y (a::l.drop (i+1)))
  rw[aeW,Bool.or_assoc]
section
variable {u:UnD} {v:Value} {w:World} {r:Gh} {K:Value→World→Prop}
theorem ag7{i:Nat}{K:Value→World→Prop}(hi:i<u.fs.length)(hok:(zw u.ss).2=0)(hr:Holds r w)(hu:UnG r v u)
  (h:∀w',Ext w w'→K (.bool (xa u i u.fs[i])) w'):zd Tryz.prog Tryz.Xh #[v,.int .i64 (i:Nat)] w K:=by
 obtain⟨p0,cap0,vf,rfl,_,_,hst,hsl,hfn⟩:=hu
 obtain⟨qf,capf,rfl,_,_⟩:=hfn.sl.shape
 obtain⟨bf,of,cf,rfl,hcf,hgc,hfo⟩:=hfn.sl.get (by decide) hi
 have hfl:u.fs.length≤9223372036854775807:=hfn.few
 refine Tryz.afw ?_
 unfold Tryz.aah
 generalize hgi:u.fs[i]=g at h hgc
 obtain⟨vo,vt,vn,vp,rfl,h1,h2,h3,h4⟩:=id hgc
 obtain⟨qo,capo,rfl,_,_⟩:=h1.sl.shape
 obtain⟨qt,capt,rfl,_,hct⟩:=h2.sl.shape
 obtain⟨qn,capn,rfl,_,_⟩:=h3.sl.shape
 obtain⟨qp,capp,rfl,_,_⟩:=h4.sl.shape
 have hptl:g.pts.length≤9223372036854775807:=h4.few
 have htl:g.tys.length≤9223372036854775807:=h2.few
 have hol:g.outs.length≤9223372036854775807:=h1.few
 have S:=St.start hr
 refine S.box λb2 w1 S=>?_
 have S:StX noX w r w1 [.cell b2 [.slice p0 u.ss.length cap0,.slice (some ⟨bf,of,none⟩) u.fs.length capf,.int .i64 u.mn] 25]:=S
 refine gg_ ?_
 refine zo (n:=7) hcf (λj v hj=>by rw[tnc];exact S.at (hfo j v hj)) ?_
 refine S.al λb5 w2 S=>?_
 refine S.stB (b:=b5) λw3 S=>?_
 have S:StX noX w r w3 [.cell b5 [.string g.name,.int .i64 g.lv,.slice qo g.outs.length capo,.int .i64 g.pn,.slice qt g.tys.length capt,.slice qn g.nms.length capn,.slice qp g.pts.length capp] 101,
  .cell b2 [.slice p0 u.ss.length cap0,.slice (some ⟨bf,of,none⟩) u.fs.length capf,.int .i64 u.mn] 25]:=S
 refine gg_ ?_
 have no:(HeadU u i g→False)→xa u i g=false:=λhh=>by
  cases e:xa u i g
  ·rfl
  ·exact(hh (ac9 e)).elim
 refine zm (c:=decide (8<g.lv)) (λ_ K2 hK2=>by refine gg_ ?_;exact hK2) ?_
 refine zm (c:=decide (g.pn<0)) (λ_ K2 hK2=>by refine gg_ ?_;exact hK2) ?_
 refine zm (c:=decide (8<g.pn)) (λ_ K2 hK2=>by refine gg_ ?_;exact hK2) ?_
 refine zm (c:=decide ((g.tys.length:Int)≤g.pn)) (λ_ K2 hK2=>by refine gg_ ?_;exact hK2) ?_
 refine zm (c:=decide (512<g.tys.length)) (λ_ K2 hK2=>?_) ?_
 ·refine gg_ ?_
  rw[show decide ((512:Int)<(g.tys.length:Int))=decide (512<g.tys.length)from decide_eq_decide.2 (by omega)]
  exact hK2
 refine zm (c:=decide (g.nms.length≠g.tys.length)) (λ_ K2 hK2=>?_) ?_
 ·refine gg_ ?_
  rw[ada]
  exact hK2
 refine c_b (λhbad=>?_) (λhgood=>?_)
 ·rw[no λH=>by
   have:=H.lv0;have:=H.lv8;have:=H.pn0;have:=H.pn8;have:=H.pn1;have:=H.ty512;have:=H.nms
   simp only[Bool.or_eq_true,gdt]at hbad;omega]at h
  exact h _ S.ext
 have hnum:(0≤g.lv∧g.lv≤8∧0≤g.pn∧g.pn≤8)∧g.pn<g.tys.length∧g.tys.length≤512∧g.nms.length=g.tys.length:=by
  simp only[Bool.or_eq_false_iff,decide_eq_false_iff_not]at hgood;omega
 clear hgood
 obtain⟨⟨hlv0,hlv8,hpn0,hpn8⟩,hpn1,hty,hnm⟩:=hnum
 refine zi (ι:=Nat) (λi=>[.int .i64 (i:Nat)]) (λj w'=>j≤g.tys.length∧jN u g j (g.tys.drop j)=jN u g 0 g.tys∧StX noX w r w' [.cell b5 [.string g.name,.int .i64 g.lv,.slice qo g.outs.length capo,.int .i64 g.pn,.slice qt g.tys.length capt,.slice qn g.nms.length capn,.slice qp g.pts.length capp] 101,
  .cell b2 [.slice p0 u.ss.length cap0,.slice (some ⟨bf,of,none⟩) u.fs.length capf,.int .i64 u.mn] 25]) (λi=>g.tys.length-i) 0 rfl ⟨gzl _,rfl,S⟩ ?_
 clear S
 rintro j d w5 ⟨hj,hd,S⟩ K6 hK6
 rw[gdz]
 refine gg_ ?_
 refine zj (λhlt=>?_) (λhge=>?_)
 ·have hlt:j<g.tys.length:=by omega
  obtain⟨bt,ot,ct,rfl,hct,htc,hcell⟩:=h2.sl.get (by decide) hlt
  obtain⟨q2,cap2,rfl,ht2⟩:=yh htc
  rw[ae2 hlt]at hd
  have S:=S.go (Ext.drew _)
  refine gg_ ?_
  refine zo (n:=5) hct (λj v hj=>by rw[tnc];exact S.at (hcell j v hj)) ?_
  refine gg_ ?_
  refine Zo 48 (by decide) S.holds ht2 λw8 e8=>?_
  have S:=S.go e8
  rw[ag0]
  refine gp_ ?_
  have hmay:mayB u.ss g.tys[j]=zt u.ss.length 48 g.tys[j]:=by rw[mayB,gde hok,Bool.true_and]
  rw[← hmay]
  refine c_b (λhm=>?_) (λhm=>?_)
  ·have hm:mayB u.ss g.tys[j]=false:=by simpa using hm
   rw[no λH=>by
    have:=H.tys
    rw[← hd,tyG,hm,Bool.false_and,Bool.false_and]at this;cases this]at h
   exact h _ S.ext
  have hm:mayB u.ss g.tys[j]=true:=by simpa using hm
  refine gg_ ?_
  refine zo (n:=5) hct (λj v hj=>by rw[tnc];exact S.at (hcell j v hj)) ?_
  refine Qd S.holds ht2 λv7 w12 e12 o12=>?_
  obtain⟨s7,p7,cap7,n7,nb7,rfl,_,_,hs7⟩:=agr o12
  have S:=S.new e12 n7
  have hlow:∀x∈regsT g.tys[j],-1≤x:=λx hx=>by
   rw[regsT]at hx
   split at hx
   ·exact akO 48 (Zk hm).2 x hx
   ·cases hx
  have hr48:(regsT g.tys[j]).length≤1000:=by
   rw[regsT];split
   ·have:=jf (by assumption);omega
   ·simp
  have hty2:tyG u g j g.tys[j] = !((regsT g.tys[j]).any λx=>decide (g.lv≤x)||(decide ((j:Int)≤g.pn)&&decide (x<0))):=by
   rw[aii,hm,Bool.true_and]
   congr 1
   rw[Bool.eq_iff_iff,List.any_eq_true,List.any_eq_true]
   constructor<;>rintro ⟨x,hx,hc⟩<;>refine ⟨x,hx,?_⟩<;>have:=hlow x hx<;>simp only[Bool.or_eq_true,gba,gdt]at hc⊢
   ·rcases hc with hc|hc
    ·split at hc
     ·exact .inr ⟨by assumption,hc⟩
     ·omega
    ·exact .inl hc
   ·rcases hc with hc|⟨hc,hc2⟩
    ·exact .inr hc
    ·rw[if_pos hc];exact .inl hc2
  generalize regsT g.tys[j]=l at hs7 hr48 hty2⊢
  refine zi (ι:=Nat) (λk=>[.int .i64 (k:Nat)]) (λk w'=>k≤l.length∧((l.take k).any λx=>decide (g.lv≤x)||(decide ((j:Int)≤g.pn)&&decide (x<0)))=false∧StX noX w (r.or s7) w' [.cell b5 [.string g.name,.int .i64 g.lv,.slice qo g.outs.length capo,.int .i64 g.pn,.slice (some ⟨bt,ot,none⟩) g.tys.length capt,.slice qn g.nms.length capn,.slice qp g.pts.length capp] 101,
   .cell b2 [.slice p0 u.ss.length cap0,.slice (some ⟨bf,of,none⟩) u.fs.length capf,.int .i64 u.mn] 25]) (λk=>l.length-k) 0 rfl ⟨gzl _,by simp,S⟩ ?_
  clear S
  rintro k d w13 ⟨hk,hany,S⟩ K7 hK7
  rw[gdz]
  refine gg_ ?_
  refine zj (λhlt2=>?_) (λhge2=>?_)
  ·have hlt2:k<l.length:=by omega
   obtain⟨bk,ok,rfl,hxk⟩:=aiU hs7 (S.holds.le (h:=inferInstance)) hlt2
   have S:=S.go (Ext.drew _)
   refine gg_ ?_
   refine zf (by simpa using S.at hxk) ?_
   refine gg_ ?_
   refine jC (g:=decide ((j:Int)≤g.pn)) (c:=decide (l[k]<0)) (λ_ K2 hK2=>by refine gg_ ?_;exact hK2) (λ_ K2 hK2=>?_) ?_
   ·refine gg_ ?_
    refine zf (by simpa using S.at hxk) ?_
    refine gg_ ?_
    exact hK2
   refine c_b (λhbad=>?_) (λhgood=>?_)
   ·have hA:(l.any λx=>decide (g.lv≤x)||(decide ((j:Int)≤g.pn)&&decide (x<0)))=true:=List.any_eq_true.2 ⟨_,gem hlt2,hbad⟩
    rw[hty2,hA,Bool.not_true,Bool.false_and]at hd
    rw[no λH=>by have:=H.tys;rw[← hd]at this;cases this]at h
    exact h _ S.ext
   ·refine gg_ ?_
    rw[show ((k:Int)+1)=((k+1:Nat):Int)by omega]
    refine hK7 (k+1) _ ⟨hlt2,?_,S⟩ (by omega)
    rw[List.take_succ_eq_append_getElem hlt2,List.any_append,hany]
    simp only[List.any_cons,List.any_nil,Bool.false_or,Bool.or_false]
    exact hgood
  ·have hke:k=l.length:=by omega
   rw[hke,List.take_length]at hany
   rw[hty2,hany,Bool.not_false,Bool.true_and]at hd
   refine gg_ ?_
   rw[show ((j:Int)+1)=((j+1:Nat):Int)by omega]
   exact hK6 (j+1) _ ⟨hlt,hd,S.to r⟩ (by omega)
 have hje:j=g.tys.length:=by omega
 rw[hje,List.drop_length]at hd
 have htys:jN u g 0 g.tys=true:=hd.symm
 clear hd hK6 K6 hge hj hje
 refine S.al λb9 w20 S=>?_
 refine S.al λb10 w21 S=>?_
 have S:StX noX w r w21 [.cell b9 (zP λ_ _=>false) 296,.cell b10 (zP λ_ _=>false) 296,.cell b5 [.string g.name,.int .i64 g.lv,.slice qo g.outs.length capo,.int .i64 g.pn,.slice qt g.tys.length capt,.slice qn g.nms.length capn,.slice qp g.pts.length capp] 101,
  .cell b2 [.slice p0 u.ss.length cap0,.slice (some ⟨bf,of,none⟩) u.fs.length capf,.int .i64 u.mn] 25]:=S.swap
 refine zi (ι:=Nat) (λi=>[.int .i64 (i:Nat)]) (λj w'=>j≤g.pn.toNat+1∧StX noX w r w' [.cell b9 (zP (muF (g.tys.take j))) 296,.cell b10 (zP λ_ _=>false) 296,.cell b5 [.string g.name,.int .i64 g.lv,.slice qo g.outs.length capo,.int .i64 g.pn,.slice qt g.tys.length capt,.slice qn g.nms.length capn,.slice qp g.pts.length capp] 101,
  .cell b2 [.slice p0 u.ss.length cap0,.slice (some ⟨bf,of,none⟩) u.fs.length capf,.int .i64 u.mn] 25]) (λi=>g.pn.toNat+1-i) 0 rfl ⟨gzl _,by
   rw[yL (f:=muF (g.tys.take 0)) (g:=λ_ _=>false) (λx y _ _=>by simp[muF,j9])]
   exact S⟩ ?_
 clear S
 rintro j d w22 ⟨hj,S⟩ K6 hK6
 rw[gdz]
 refine gg_ ?_
 refine zj (λhlt=>?_) (λhge=>?_)
 ·have hlt:j<g.tys.length:=by omega
  obtain⟨bt,ot,ct,rfl,hct,htc,hcell⟩:=h2.sl.get (by decide) hlt
  obtain⟨q2,cap2,rfl,ht2⟩:=yh htc
  refine gg_ ?_
  refine zo (n:=5) hct (λj v hj=>by rw[tnc];exact S.at (hcell j v hj)) ?_
  have hreg:∀x∈regsT g.tys[j],0≤x∧x<8:=λx hx=>by
   have:=ab3 htys (j:=j) hlt (by omega) x hx
   omega
  refine ag6 ht2 hreg S λw23 S=>?_
  refine gg_ ?_
  rw[show ((j:Int)+1)=((j+1:Nat):Int)by omega]
  refine hK6 (j+1) _ ⟨by omega,?_⟩ (by omega)
  rw[yL (f:=muF (g.tys.take (j+1))) (g:=JQ (muF (g.tys.take j)) (regsT g.tys[j])) (λx y _ _=>aeX hlt)]
  exact S
 have hje:j=g.pn.toNat+1:=by omega
 rw[hje]at S
 clear hK6 K6 hge hj hje
 have hout:jA g=true↔qP g.lv none g.outs=true∧(List.range g.lv.toNat).all (clF g.lv.toNat (muF (g.tys.take (g.pn.toNat+1))) (syF g.outs))=true:=by
  rw[jA,← ae0,aih,gba]
 have nout:jA g=false→xa u i g=false:=λe=>no λH=>by have:=H.outs;rw[e]at this;cases this
 generalize hmu:muF (g.tys.take (g.pn.toNat+1))=mu at hout S
 refine zi (ι:=Nat) (λi=>[.int .i64 (i:Nat)]) (λi w'=>i≤g.outs.length∧qP g.lv (qY g.outs i) (g.outs.drop i)=qP g.lv none g.outs∧
  StX noX w r w' [.cell b9 (zP mu) 296,.cell b10 (zP (syF (g.outs.take i))) 296,.cell b5 [.string g.name,.int .i64 g.lv,.slice qo g.outs.length capo,.int .i64 g.pn,.slice qt g.tys.length capt,.slice qn g.nms.length capn,.slice qp g.pts.length capp] 101,
  .cell b2 [.slice p0 u.ss.length cap0,.slice (some ⟨bf,of,none⟩) u.fs.length capf,.int .i64 u.mn] 25]) (λi=>g.outs.length-i) 0 rfl
  ⟨gzl _,rfl,by
   rw[yL (f:=syF (g.outs.take 0)) (g:=λ_ _=>false) (λx y _ _=>by simp[syF,jz])]
   exact S⟩ ?_
 clear S
 rintro k d w24 ⟨hk,hd,S⟩ K6 hK6
 rw[gdz]
 refine gg_ ?_
 refine zj (λhlt=>?_) (λhge=>?_)
 ·have hlt:k<g.outs.length:=by omega
  obtain⟨bo,oo,co,rfl,hco,hoo,hoc⟩:=h1.sl.get (by decide) hlt
  obtain rfl:co=_:=hoo
  rw[agO hlt]at hd
  have hgo:=λ(j:Nat) (hj:j<g.outs.length)=>h1.sl.get (by decide) hj
  obtain⟨⟨o1,o2⟩,ho⟩:∃o,g.outs[k]=o:=⟨_,rfl⟩
  rw[ho]at hd
  have hst:syF (g.outs.take (k+1))=λx y=>syF (g.outs.take k) x y||(decide ((x:Int)=o1)&&decide ((y:Int)=o2)):=by
   funext x y
   show jz _ _ _=(jz _ _ _||_)
   rw[aeY hlt,ho]
  have hno:qP g.lv none g.outs=false→∀w',Ext w w'→K (.bool false) w':=λe w' ew=>by
   have:=h w' ew
   rw[nout (by
    cases ho:jA g with
    |false=>rfl
    |true=>rw [(hout.1 ho).1]at e;cases e)]at this
   exact this
  refine gg_ ?_
  refine zo (n:=2) hco (λj v hj=>by rw[tnc];exact S.at (hoc j v hj)) ?_
  rw[ho]
  refine S.al λb13 w25 S=>?_
  refine S.stB (b:=b13) λw26 S=>?_
  refine gg_ ?_
  refine zm (c:=decide (g.lv≤o1)) (λ_ K2 hK2=>by refine gg_ ?_;exact hK2) ?_
  refine zm (c:=decide (o2<0)) (λ_ K2 hK2=>by refine gg_ ?_;exact hK2) ?_
  refine zm (c:=decide (g.lv≤o2)) (λ_ K2 hK2=>by refine gg_ ?_;exact hK2) ?_
  refine zm (c:=decide (o1=o2)) (λ_ K2 hK2=>by refine gg_ ?_;exact hK2) ?_
  have hio:kE g.lv (o1,o2) = !((((decide (o1<0)||decide (g.lv≤o1))||decide (o2<0))||decide (g.lv≤o2))||decide (o1=o2)):=by
   rw[kE]
   congr 1
   rw[Bool.eq_iff_iff]
   simp only[Bool.or_eq_true,gdt]
   omega
  refine c_b (λhbad=>?_) (λhgood=>?_)
  ·rw[hio,hbad,Bool.not_true,Bool.false_and,Bool.false_and]at hd
   exact hno hd.symm _ S.ext
  rw[hio,hgood,Bool.not_false,Bool.true_and]at hd
  have hrg:(0≤o1∧o1<8)∧(0≤o2∧o2<8):=by
   simp only[Bool.or_eq_false_iff,decide_eq_false_iff_not]at hgood;omega
  clear hgood hio
  obtain⟨⟨ho10,ho18⟩,ho20,ho28⟩:=hrg
  have S:=S.go (Ext.drew _)
  obtain⟨⟨p1,p2⟩,hp⟩:∃o,(g.outs[k-1]?).getD (0,0)=o:=⟨_,rfl⟩
  have hpv:0<k→∃(hl:k-1<g.outs.length),g.outs[k-1]=(p1,p2):=λhpos=>by
   have hl:k-1<g.outs.length:=by omega
   rw[gqg hl]at hp
   exact⟨hl,hp⟩
  have hprev:0<k→∀j v,[Value.int .i64 p1,.int .i64 p2][j]? = some v→Ob r λw=>w.cell? ⟨bo,oo+(k-1)*2+j,none⟩=some v:=λhpos j v hj=>by
   obtain⟨hl,he⟩:=hpv hpos
   obtain⟨bo2,oo2,co2,hbe,hco2,hoo2,hoc2⟩:=h1.sl.get (by decide) hl
   obtain rfl:co2=_:=hoo2
   cases hbe
   rw[he]at hoc2
   exact hoc2 j v hj
  refine gg_ ?_
  refine ala (x:=decide (o1<p1)) (y:=decide (p1=o1)) (z:=decide (o2≤p2)) (λhb K2 hK2=>?_) (λhb K2 hK2=>?_) (λhb K2 hK2=>?_) ?_
  ·have hpos:0<k:=by simp only[gdt]at hb;omega
   refine gg_ ?_
   refine zf (v:=.int .i64 p1) (by rw[show ((k:Int)-1).toNat=k-1 by omega];simpa using S.at (hprev hpos 0 _ rfl)) ?_
   refine gg_ ?_
   exact hK2
  ·have hpos:0<k:=by simp only[gdt]at hb;omega
   refine gg_ ?_
   refine zf (v:=.int .i64 p1) (by rw[show ((k:Int)-1).toNat=k-1 by omega];simpa using S.at (hprev hpos 0 _ rfl)) ?_
   refine gg_ ?_
   exact hK2
  ·have hpos:0<k:=by simp only[gdt]at hb;omega
   refine gg_ ?_
   refine zf (v:=.int .i64 p2) (by rw[show ((k:Int)-1).toNat=k-1 by omega];exact S.at (hprev hpos 1 _ rfl)) ?_
   refine gg_ ?_
   exact hK2
  rw[not_lt (o:=(o1,o2)) (w:=(p1,p2))]
  have haft:aiS (qY g.outs k) (o1,o2) = !(decide ((k:Int)>0) && !Zl (p1,p2) (o1,o2)):=by
   by_cases hpos:0<k
   ·obtain⟨hl,he⟩:=hpv hpos
    rw[qY,if_neg (by omega),gqg hl,he,gde (show(k:Int)>0 by omega),Bool.true_and,Bool.not_not];rfl
   ·rw[qY,if_pos (by omega),decide_eq_false (show¬(k:Int)>0 by omega)];rfl
  refine c_b (λhb=>?_) (λhb=>?_)
  ·rw[haft,hb,Bool.not_true,Bool.false_and]at hd
   exact hno hd.symm _ S.ext
  rw[haft,hb,Bool.not_false,Bool.true_and]at hd
  have S:=S.go (Ext.drew _)
  refine gg_ ?_
  refine S.st (b:=b10) (λw27 S=>?_) (by rw[vr];omega)
  refine gg_ ?_
  rw[show ((k:Int)+1)=((k+1:Nat):Int)by omega]
  refine hK6 (k+1) _ ⟨hlt,hd,?_⟩ (by omega)
  rw[show 0+o1.toNat*8+o2.toNat*1=o1.toNat*8+o2.toNat by omega,JO (by omega) (by omega)]at S
  rw[hst,yL (f:=λx y=>syF (g.outs.take k) x y||(decide ((x:Int)=o1)&&decide ((y:Int)=o2))) (g:=λx y=>syF (g.outs.take k) x y||(decide (x=o1.toNat)&&decide (y=o2.toNat))) (λx y _ _=>by
   show(syF (g.outs.take k) x y||(decide ((x:Int)=o1)&&decide ((y:Int)=o2)))=(syF (g.outs.take k) x y||(decide (x=o1.toNat)&&decide (y=o2.toNat)))
   rw[show decide ((x:Int)=o1)=decide (x=o1.toNat)from decide_eq_decide.2 (by omega),show decide ((y:Int)=o2)=decide (y=o2.toNat)from decide_eq_decide.2 (by omega)])]
  exact S.drop b13
 have hke:k=g.outs.length:=by omega
 rw[hke,List.take_length]at S
 rw[hke,List.drop_length]at hd
 have hoR:qP g.lv none g.outs=true:=by rw[← hd];rfl
 clear hd hK6 K6 hge hk hke
 generalize hsy:syF g.outs=sy at hout S
 obtain⟨n,hn⟩:∃n:Nat,g.lv.toNat=n:=⟨_,rfl⟩
 have hn8:n≤8:=by omega
 have hlvn:g.lv=(n:Int):=by omega
 rw[hn]at hout
 have hno:(List.range n).all (clF n mu sy)=false→∀w',Ext w w'→K (.bool false) w':=λe w' ew=>by
  have:=h w' ew
  rw[nout (by
   cases ho:jA g with
   |false=>rfl
   |true=>rw [(hout.1 ho).2]at e;cases e)]at this
  exact this
 refine zi (ι:=Nat) (λi=>[.int .i64 (i:Nat)]) (λi w'=>i≤n∧((List.range n).drop i).all (clF n mu sy)=(List.range n).all (clF n mu sy)∧
  StX noX w r w' [.cell b9 (zP mu) 296,.cell b10 (zP sy) 296,.cell b5 [.string g.name,.int .i64 g.lv,.slice qo g.outs.length capo,.int .i64 g.pn,.slice qt g.tys.length capt,.slice qn g.nms.length capn,.slice qp g.pts.length capp] 101,
  .cell b2 [.slice p0 u.ss.length cap0,.slice (some ⟨bf,of,none⟩) u.fs.length capf,.int .i64 u.mn] 25]) (λi=>n-i) 0 rfl ⟨gzl _,rfl,S⟩ ?_
 clear S
 rintro a d2 w30 ⟨ha,hda,S⟩ K7 hK7
 rw[gdz]
 refine gg_ ?_
 rw[hlvn]
 refine zj (λhlta=>?_) (λhgea=>?_)
 ·have hlta:a<n:=by omega
  rw[vO hlta]at hda
  refine zi (ι:=Nat) (λi=>[.int .i64 (i:Nat)]) (λi w'=>i≤n∧((List.range n).drop i).all (clG n mu sy a)=(List.range n).all (clG n mu sy a)∧
   StX noX w r w' [.cell b9 (zP mu) 296,.cell b10 (zP sy) 296,.cell b5 [.string g.name,.int .i64 g.lv,.slice qo g.outs.length capo,.int .i64 g.pn,.slice qt g.tys.length capt,.slice qn g.nms.length capn,.slice qp g.pts.length capp] 101,
   .cell b2 [.slice p0 u.ss.length cap0,.slice (some ⟨bf,of,none⟩) u.fs.length capf,.int .i64 u.mn] 25]) (λi=>n-i) 0 rfl ⟨gzl _,rfl,S⟩ ?_
  clear S
  rintro b d3 w31 ⟨hb,hdb,S⟩ K8 hK8
  rw[gdz]
  refine gg_ ?_
  rw[hlvn]
  refine zj (λhltb=>?_) (λhgeb=>?_)
  rotate_left
  ·have hbe:b=n:=by omega
   rw[hbe,vP]at hdb
   have hF:clF n mu sy a=true:=hdb.symm
   rw[hF,Bool.true_and]at hda
   refine gg_ ?_
   rw[show ((a:Int)+1)=((a+1:Nat):Int)by omega]
   exact hK7 (a+1) _ ⟨hlta,hda,S⟩ (by omega)
  have hltb:b<n:=by omega
  rw[vO hltb]at hdb
  have hfalse:clG n mu sy a b=false→(List.range n).all (clF n mu sy)=false:=λe=>by
   rw[e,Bool.false_and]at hdb
   have hF:clF n mu sy a=false:=hdb.symm
   rw[hF,Bool.false_and]at hda
   exact hda.symm
  refine gg_ ?_
  refine zg (c:=mu a b) (λ_ K2 hK2=>?_) ?_
  ·refine gg_ ?_
   refine S.ld (b:=b9) ?_ (jW (f:=mu) (by omega) (by omega))
   exact hK2
  refine zg (c:=!sy a b) (λ_ K2 hK2=>?_) ?_
  ·refine gg_ ?_
   refine S.ld (b:=b10) ?_ (jW (f:=sy) (by omega) (by omega))
   refine gg_ ?_
   exact hK2
  have hG:clG n mu sy a b=((List.range n).all (clH sy a b) && !((decide ((a:Int)≠(b:Int))&&mu a b) && !sy a b)):=by
   rw[clG,Bool.and_assoc,show decide ((a:Int)≠(b:Int)) = !decide (a=b)from by rw[← decide_not];exact decide_eq_decide.2 (by omega)]
  refine c_b (λhbad=>?_) (λhgood=>?_)
  ·exact hno (hfalse (by rw[hG,hbad,Bool.not_true,Bool.and_false])) _ S.ext
  rw[hgood,Bool.not_false,Bool.and_true]at hG
  refine zi (ι:=Nat) (λi=>[.int .i64 (i:Nat)]) (λi w'=>i≤n∧((List.range n).drop i).all (clH sy a b)=(List.range n).all (clH sy a b)∧
   StX noX w r w' [.cell b9 (zP mu) 296,.cell b10 (zP sy) 296,.cell b5 [.string g.name,.int .i64 g.lv,.slice qo g.outs.length capo,.int .i64 g.pn,.slice qt g.tys.length capt,.slice qn g.nms.length capn,.slice qp g.pts.length capp] 101,
   .cell b2 [.slice p0 u.ss.length cap0,.slice (some ⟨bf,of,none⟩) u.fs.length capf,.int .i64 u.mn] 25]) (λi=>n-i) 0 rfl ⟨gzl _,rfl,S⟩ ?_
  clear S
  rintro cc d4 w32 ⟨hc,hdc,S⟩ K9 hK9
  rw[gdz]
  refine gg_ ?_
  rw[hlvn]
  refine zj (λhltc=>?_) (λhgec=>?_)
  ·have hltc:cc<n:=by omega
   rw[vO hltc]at hdc
   refine gg_ ?_
   refine zg (c:=sy a b) (λ_ K2 hK2=>?_) ?_
   ·refine gg_ ?_
    refine S.ld (b:=b10) ?_ (jW (f:=sy) (by omega) (by omega))
    exact hK2
   refine zg (c:=sy b cc) (λ_ K2 hK2=>?_) ?_
   ·refine gg_ ?_
    refine S.ld (b:=b10) ?_ (jW (f:=sy) (by omega) (by omega))
    exact hK2
   refine zg (c:=!sy a cc) (λ_ K2 hK2=>?_) ?_
   ·refine gg_ ?_
    refine S.ld (b:=b10) ?_ (jW (f:=sy) (by omega) (by omega))
    refine gg_ ?_
    exact hK2
   have hH:clH sy a b cc = !(((decide ((a:Int)≠(cc:Int))&&sy a b)&&sy b cc) && !sy a cc):=by
    rw[clH,show decide ((a:Int)≠(cc:Int)) = !decide (a=cc)from by rw[← decide_not];exact decide_eq_decide.2 (by omega)]
    congr 1
    ac_rfl
   refine c_b (λhbad=>?_) (λhgood2=>?_)
   ·rw[hH,hbad,Bool.not_true,Bool.false_and]at hdc
    exact hno (hfalse (by rw[hG,← hdc])) _ S.ext
   ·rw[hH,hgood2,Bool.not_false,Bool.true_and]at hdc
    refine gg_ ?_
    rw[show ((cc:Int)+1)=((cc+1:Nat):Int)by omega]
    exact hK9 (cc+1) _ ⟨hltc,hdc,S⟩ (by omega)
  have hce:cc=n:=by omega
  rw[hce,vP]at hdc
  rw[hG,← hdc,Bool.true_and]at hdb
  refine gg_ ?_
  rw[show ((b:Int)+1)=((b+1:Nat):Int)by omega]
  exact hK8 (b+1) _ ⟨hltb,hdb,S⟩ (by omega)
 have hae:a=n:=by omega
 rw[hae,vP]at hda
 have hog:jA g=true:=hout.2 ⟨hoR,hda.symm⟩
 clear hda hK7 K7 hgea hae ha hno nout
 refine zi (ι:=Nat) (λi=>[.int .i64 (yA (g.pts.take i):Nat),.int .i64 (i:Nat)]) (λi w'=>i≤g.pts.length∧i≤1025∧StX noX w r w' [.cell b9 (zP mu) 296,.cell b10 (zP sy) 296,.cell b5 [.string g.name,.int .i64 g.lv,.slice qo g.outs.length capo,.int .i64 g.pn,.slice qt g.tys.length capt,.slice qn g.nms.length capn,.slice qp g.pts.length capp] 101,
  .cell b2 [.slice p0 u.ss.length cap0,.slice (some ⟨bf,of,none⟩) u.fs.length capf,.int .i64 u.mn] 25]) (λi=>g.pts.length-i) 0 rfl ⟨gzl _,gzl _,S⟩ ?_
 clear S
 rintro k d5 w33 ⟨hk,hk2,S⟩ K5 hK5
 simp only[gdz,gds]
 have hlk:yA (g.pts.take k)≤k:=by
  have:=List.countP_le_length (p:=λp:PtD=>decide (p.op=4)) (l:=g.pts.take k)
  rw[List.length_take]at this
  show List.countP _ _≤k
  omega
 refine gg_ ?_
 refine zg (c:=decide (k≤1024)) (λ_ K2 hK2=>?_) ?_
 ·refine gg_ ?_
  rw[show decide ((k:Int)≤1024)=decide (k≤1024)from decide_eq_decide.2 (by omega)]
  exact hK2
 refine c_b (λhgo=>?_) (λhstop=>?_)
 ·simp only[gba,gdt]at hgo
  have hlt:k<g.pts.length:=by omega
  have hlt':=JP hlt
  obtain⟨bp,op,cp,rfl,hcp,hpc,hpo⟩:=h4.sl.get (by decide) hlt
  obtain⟨x1,x2,x3,x4,x5,y1,y2,y3,y4,y5,rfl,_⟩:=xQ hpc
  have lop:Ob r λw=>w.cell? ⟨bp,op+k*21,none⟩=some (.int .u8 g.pts[k].op):=by simpa using hpo 0 _ rfl
  refine zn (λs w'=>s=[.int .i64 (yA (g.pts.take (k+1)):Nat)]∧w'=w33) (λK9 hK9=>?_) ?_
  rotate_left
  ·rintro _ _ ⟨rfl,rfl⟩ d6
   rw[gdz]
   refine gg_ ?_
   rw[show ((k:Int)+1)=((k+1:Nat):Int)by omega]
   exact hK5 (k+1) _ ⟨hlt,by omega,S⟩ (by omega)
  refine gg_ ?_
  refine zf (by simpa using S.at lop) ?_
  refine gg_ ?_
  refine zj (λh4'=>?_) (λh4'=>?_)
  ·refine gg_ ?_
   refine hK9 _ _ ⟨?_,rfl⟩
   rw[hlt',if_pos h4'];rfl
  ·refine hK9 _ _ ⟨?_,rfl⟩
   rw[hlt',if_neg h4',Nat.add_zero]
 refine gg_ ?_
 refine zm (c:=decide (1024<g.pts.length)) (λ_ K2 hK2=>?_) ?_
 ·refine gg_ ?_
  rw[show decide ((1024:Int)<(g.pts.length:Int))=decide (1024<g.pts.length)from decide_eq_decide.2 (by omega)]
  exact hK2
 refine zm (c:=decide (256<yA (g.pts.take k))) (λ_ K2 hK2=>?_) ?_
 ·refine gg_ ?_
  rw[show decide ((256:Int)<(yA (g.pts.take k):Int))=decide (256<yA (g.pts.take k))from decide_eq_decide.2 (by omega)]
  exact hK2
 have hend:g.pts.length≤1024→g.pts.take k=g.pts:=λhle=>by
  refine List.take_of_length_le ?_
  rw[Bool.and_eq_false_iff,decide_eq_false_iff_not,decide_eq_false_iff_not]at hstop
  omega
 refine c_b (λhbad=>?_) (λhgood=>?_)
 ·rw[no λH=>by
   have h1:=H.pt1
   have h2:=H.pt1024
   have h3:=H.loans
   rw[hend h2]at hbad
   simp only[Bool.or_eq_true,gdt]at hbad
   omega]at h
  exact h _ S.ext
 simp only[Bool.or_eq_false_iff,decide_eq_false_iff_not]at hgood
 rw[hend (by omega)]at hgood
 have hpos:0<g.tys.length:=by omega
 have hhd:g.tys.headD zF=g.tys[0]:=by rw[List.headD_eq_head?_getD,List.head?_eq_getElem?,gqg hpos,Option.getD_some]
 obtain⟨bt,ot,ct,rfl,hct2,htc,hcell⟩:=h2.sl.get (by decide) hpos
 obtain⟨q2,cap2,rfl,ht2⟩:=yh htc
 have lk:Ob r λw=>w.cell? ⟨bt,ot,none⟩=some (.int .u8 g.tys[0].k):=by simpa using hcell 0 _ rfl
 refine gg_ ?_
 refine anh (c:=decide (g.lv=0)) (d:=decide (g.pn=0)) (e:=isK g.tys[0] 1) (λK2 hK2=>by refine gg_ ?_;exact hK2) (λK2 hK2=>by refine gg_ ?_;exact hK2) (λK2 hK2=>?_) ?_
 ·refine gg_ ?_
  refine zf (by simpa using S.at lk) ?_
  refine gg_ ?_
  exact hK2
 have hE:xa u i g=(decide ((i:Int)≠u.mn)||((decide (g.lv=0)&&decide (g.pn=0))&&isK g.tys[0] 1)):=by
  rw[xa,gde hlv0,gde hlv8,gde hpn0,gde hpn8,gde hpn1,gde hty,gde hnm,htys,hog,gde (show 1≤g.pts.length by omega),gde (show g.pts.length≤1024 by omega),gde (show yA g.pts≤256 by omega),hhd,decide_not]
  simp
 rw[hE]at h
 exact h _ S.ext
theorem afF{K:Value→World→Prop}(hr:Holds r w)(hu:UnG r v u)
  (h:∀(a b e:Int) w',Ext w w'→(e=0↔MayU u)→K (.tuple #[.int .i64 a,.int .i64 b,.int .i64 e]) w'):zd Tryz.prog Tryz.Yr #[v] w K:=by
 refine Tryz.aeg ?_
 unfold Tryz.Vr
 have hu0:=hu
 obtain⟨p0,cap0,vf,rfl,_,_,hst,hsl,hfn⟩:=hu
 obtain⟨qf,capf,rfl,_,_⟩:=hfn.sl.shape
 have hfl:u.fs.length≤9223372036854775807:=hfn.few
 have S:=St.start hr
 refine S.box λb1 w1 S=>?_
 have S:StX noX w r w1 [.cell b1 [.slice p0 u.ss.length cap0,.slice qf u.fs.length capf,.int .i64 u.mn] 25]:=S
 have bad:∀{a b:Int}{w':World},¬MayU u→Ext w w'→K (.tuple #[.int .i64 a,.int .i64 b,.int .i64 100]) w':=λhn e=>h _ _ _ _ e ⟨λh=>absurd h (by decide),λhM=>absurd hM hn⟩
 refine gg_ ?_
 refine Qk S.holds hst λw2 e2=>?_
 have S:=S.go e2
 refine gg_ ?_
 refine zm (c:=decide (u.fs.length<1)) (λ_ K2 hK2=>?_) ?_
 ·refine gg_ ?_
  rw[show decide ((u.fs.length:Int)<1)=decide (u.fs.length<1)from decide_eq_decide.2 (by omega)]
  exact hK2
 refine zm (c:=decide (32<u.fs.length)) (λ_ K2 hK2=>?_) ?_
 ·refine gg_ ?_
  rw[show decide ((32:Int)<(u.fs.length:Int))=decide (32<u.fs.length)from decide_eq_decide.2 (by omega)]
  exact hK2
 refine zm (c:=decide (u.mn<0)) (λ_ K2 hK2=>by refine gg_ ?_;exact hK2) ?_
 refine zm (c:=decide ((u.fs.length:Int)≤u.mn)) (λ_ K2 hK2=>by refine gg_ ?_;exact hK2) ?_
 refine c_b (λhbad=>?_) (λhgood=>?_)
 ·refine bad (λhM=>?_) S.ext
  have h1:=hM.ok;have h2:=hM.fs1;have h3:=hM.fs32;have h4:=hM.mn0;have h5:=hM.mn1
  rw[gde h1]at hbad
  simp only[Bool.or_eq_true,gdt,Bool.not_true,Bool.false_eq_true,false_or]at hbad
  omega
 simp only[Bool.or_eq_false_iff,decide_eq_false_iff_not,Bool.not_eq_false',gdt]at hgood
 obtain⟨⟨⟨⟨hok,hf1⟩,hf32⟩,hm0⟩,hm1⟩:=hgood
 refine zi (ι:=Nat) (λi=>[.int .i64 (i:Nat)]) (λi w'=>i≤u.fs.length∧(∀(j:Nat)(hj:j<u.fs.length),j<i→xa u j u.fs[j]=true)∧StX noX w r w' [.cell b1 [.slice p0 u.ss.length cap0,.slice qf u.fs.length capf,.int .i64 u.mn] 25]) (λi=>u.fs.length-i) 0 rfl ⟨gzl _,λj _ hj=>absurd hj (Nat.not_lt_zero _),S⟩ ?_
 clear S
 rintro i d w3 ⟨hi,hall,S⟩ K1 hK1
 rw[gdz]
 refine gg_ ?_
 refine zj (λhlt=>?_) (λhge=>?_)
 ·have hlt:i<u.fs.length:=by omega
  refine S.ldB (b:=b1) ?_ rfl
  refine ag7 hlt hok S.holds hu0 λw4 e4=>?_
  have S:=S.go e4
  refine gp_ ?_
  refine c_b (λhb=>?_) (λhb=>?_)
  ·refine bad (λhM=>?_) S.ext
   rw[hM.head i hlt]at hb;cases hb
  ·refine gg_ ?_
   rw[show ((i:Int)+1)=((i+1:Nat):Int)by omega]
   refine hK1 (i+1) _ ⟨hlt,λj hj hji=>?_,S⟩ (by omega)
   by_cases e:j=i
   ·subst e;simpa using hb
   ·exact hall j hj (by omega)
 have hheads:∀(j:Nat)(hj:j<u.fs.length),xa u j u.fs[j]=true:=λj hj=>hall j hj (by omega)
 clear hall hK1 K1 hge hi
 have hfine:∀f∈u.fs,yY u.ss f.tys∧(0≤f.pn∧f.pn<f.tys.length∧yY u.ss f.tys):=λf hf=>by
  obtain⟨j,hj,rfl⟩:=List.getElem_of_mem hf
  have H:=ac9 (hheads j hj)
  exact⟨H.fine hok,H.pn0,H.pn1,H.fine hok⟩
 refine zi (ι:=Nat) (λi=>[.int .i64 (i:Nat)]) (λi w'=>i≤u.fs.length∧(∀(j:Nat)(hj:j<u.fs.length),j<i→∀p∈u.fs[j].pts,zI u u.fs[j] p=true)∧StX noX w r w' [.cell b1 [.slice p0 u.ss.length cap0,.slice qf u.fs.length capf,.int .i64 u.mn] 25]) (λi=>u.fs.length-i) 0 rfl ⟨gzl _,λj _ hj=>absurd hj (Nat.not_lt_zero _),S⟩ ?_
 clear S
 rintro i d w5 ⟨hi,hall,S⟩ K2 hK2
 rw[gdz]
 refine gg_ ?_
 refine zj (λhlt=>?_) (λhge=>?_)
 rotate_left
 ·exact h 0 0 0 _ S.ext ⟨λ_=>⟨hok,by omega,by omega,by omega,by omega,hheads,λg hg p hp=>by
   obtain⟨j,hj,rfl⟩:=List.getElem_of_mem hg
   exact hall j hj (by omega) p hp⟩,λ_=>rfl⟩
 have hlt:i<u.fs.length:=by omega
 obtain⟨bf,of,cf,rfl,hcf,hgc,hfo⟩:=hfn.sl.get (by decide) hlt
 have hgm:=gem hlt
 generalize hgi:u.fs[i]=g at hgc hgm
 obtain⟨vo,vt,vn,vp,rfl,h1,h2,h3,h4⟩:=id hgc
 obtain⟨qo,capo,rfl,_,_⟩:=h1.sl.shape
 obtain⟨qt,capt,rfl,_,hct⟩:=h2.sl.shape
 obtain⟨qn,capn,rfl,_,_⟩:=h3.sl.shape
 obtain⟨qp,capp,rfl,_,_⟩:=h4.sl.shape
 have hptl:g.pts.length≤9223372036854775807:=h4.few
 have lpts:Ob r λw=>w.cell? ⟨bf,of+i*7+6,none⟩=some (.slice qp g.pts.length capp):=hfo 6 _ rfl
 have S:=S.go (Ext.drew _)
 refine S.ldB (b:=b1) ?_ rfl
 refine gg_ ?_
 refine zo (n:=7) hcf (λj v hj=>by rw[tnc];exact S.at (hfo j v hj)) ?_
 refine zq (cs:=#[.slice p0 u.ss.length cap0,.slice (some ⟨bf,of,none⟩) u.fs.length capf,.int .i64 u.mn,.string g.name,.int .i64 g.lv,.slice qo g.outs.length capo,.int .i64 g.pn,.slice qt g.tys.length capt,.slice qn g.nms.length capn,.slice qp g.pts.length capp]) (by kernel_rfl) ?_
 refine S.box λbx w6 S=>?_
 have S:StX noX w r w6 [.cell bx (asL u g p0 cap0 (some ⟨bf,of,none⟩) capf qo capo qt capt qn capn qp capp) 170,.cell b1 [.slice p0 u.ss.length cap0,.slice (some ⟨bf,of,none⟩) u.fs.length capf,.int .i64 u.mn] 25]:=S
 have S:=S.frz
 have hx:AsP (r.or (Go.Sh.one bx (asL u g p0 cap0 (some ⟨bf,of,none⟩) capf qo capo qt capt qn capn qp capp) 170)) bx u g:=⟨p0,cap0,some ⟨bf,of,none⟩,capf,qo,capo,qt,capt,qn,capn,qp,capp,(xc (b:=bx)).up,hu0.up,GrG.up hgc⟩
 refine zi (ι:=Nat) (λi=>[.int .i64 (i:Nat)]) (λq w'=>q≤g.pts.length∧(∀(j:Nat)(hj:j<g.pts.length),j<q→zI u g g.pts[j]=true)∧StX noX w (r.or (Go.Sh.one bx (asL u g p0 cap0 (some ⟨bf,of,none⟩) capf qo capo qt capt qn capn qp capp) 170)) w' [.cell b1 [.slice p0 u.ss.length cap0,.slice (some ⟨bf,of,none⟩) u.fs.length capf,.int .i64 u.mn] 25]) (λi=>g.pts.length-i) 0 rfl ⟨gzl _,λj _ hj=>absurd hj (Nat.not_lt_zero _),S⟩ ?_
 clear S
 rintro q d w7 ⟨hq,hpts,S⟩ K9 hK9
 rw[gdz]
 refine gg_ ?_
 refine zf (by rw[tnc];exact S.at lpts) ?_
 refine gg_ ?_
 refine zj (λhlt2=>?_) (λhge2=>?_)
 ·have hlt2:q<g.pts.length:=by omega
  obtain⟨bp,op,cp,rfl,hcp,hpc,hpo⟩:=h4.sl.get (by decide) hlt2
  refine gg_ ?_
  refine zf (by rw[tnc];exact S.at lpts) ?_
  refine gg_ ?_
  refine zo (n:=21) hcp (λj v hj=>by rw[tnc];exact S.at (hpo j v hj)) ?_
  refine afE S.holds hx hok (hfine g hgm).1 (λf hf=>(hfine f hf).2) hpc.up λw8 e8=>?_
  have S:=S.go e8
  refine gp_ ?_
  refine c_b (λhb=>?_) (λhb=>?_)
  ·refine bad (λhM=>?_) S.ext
   rw[hM.pts g hgm _ (gem hlt2)]at hb;cases hb
  ·refine gg_ ?_
   rw[show ((q:Int)+1)=((q+1:Nat):Int)by omega]
   refine hK9 (q+1) _ ⟨hlt2,λj hj hjq=>?_,S⟩ (by omega)
   by_cases e:j=q
   ·subst e;simpa using hb
   ·exact hpts j hj (by omega)
 ·refine gg_ ?_
  rw[show ((i:Int)+1)=((i+1:Nat):Int)by omega]
  refine hK2 (i+1) _ ⟨hlt,λj hj hji p hp=>?_,S.to r⟩ (by omega)
  by_cases e:j=i
  ·subst e
   rw[hgi]at hp⊢
   obtain⟨k,hk,rfl⟩:=List.getElem_of_mem hp
   exact hpts k hk (by omega)
  ·exact hall j hj (by omega) p hp
theorem ahP{K:Value→World→Prop}(hr:Holds r w)(hu:UnG r v u)
  (h:∀w',Ext w w'→K (.bool (XD u)) w'):zd Tryz.prog Tryz.Qw #[v] w K:=by
 refine Tryz.agY ?_
 unfold Tryz.abs
 have hu0:=hu
 obtain⟨p0,cap0,vf,rfl,_,_,hst,hsl,hfn⟩:=hu
 have S:=St.start hr
 refine S.box λb1 w1 S=>?_
 have S:StX noX w r w1 [.cell b1 [.slice p0 u.ss.length cap0,vf,.int .i64 u.mn] 25]:=S
 refine S.ldB (b:=b1) ?_ rfl
 refine afF S.holds hu0 λa b e w2 e2 he=>?_
 have S:=S.go e2
 refine gg_ ?_
 have hm:decide (e=0)=XD u:=by
  rw[Bool.eq_iff_iff,gdt,he]
  exact JU.symm
 rw[hm]
 exact h _ S.ext
theorem ai3{fn q:Int}{K:Value→World→Prop}(hr:Holds r w)(hu:UnG r v u)
  (h:∀w',Ext w w'→K (.bool (isU u fn q)) w'):zd Tryz.prog Tryz.JC #[v,.int .i64 fn,.int .i64 q] w K:=by
 refine Tryz.ahM ?_
 unfold Tryz.adf
 have hu0:=hu
 obtain⟨p0,cap0,vf,rfl,_,_,hst,hsl,hfn⟩:=hu
 obtain⟨qf,capf,rfl,_,_⟩:=hfn.sl.shape
 have hfl:u.fs.length≤9223372036854775807:=hfn.few
 have S:=St.start hr
 refine S.box λb1 w1 S=>?_
 have S:StX noX w r w1 [.cell b1 [.slice p0 u.ss.length cap0,.slice qf u.fs.length capf,.int .i64 u.mn] 25]:=S
 refine S.ldB (b:=b1) ?_ rfl
 refine ahP S.holds hu0 λw2 e2=>?_
 have S:=S.go e2
 refine zg (c:=decide (0≤fn)) (λ_ K2 hK2=>by refine gg_ ?_;exact hK2) ?_
 refine zg (c:=decide (fn<(u.fs.length:Int))) (λ_ K2 hK2=>by refine gg_ ?_;exact hK2) ?_
 refine zg (c:=decide (q<((u.fs[fn.toNat]?.map λg=>(g.pts.length:Int)).getD 0))) (λhb K2 hK2=>?_) ?_
 ·simp only[gba,gdt]at hb
  have hlt:fn.toNat<u.fs.length:=by omega
  obtain⟨bf,of,cf,rfl,hcf,hgc,hfo⟩:=hfn.sl.get (by decide) hlt
  obtain⟨vo,vt,vn,vp,rfl,h1,h2,h3,h4⟩:=id hgc
  obtain⟨qp,capp,rfl,_,_⟩:=h4.sl.shape
  have hptl:u.fs[fn.toNat].pts.length≤9223372036854775807:=h4.few
  have lpts:Ob r λw=>w.cell? ⟨bf,of+fn.toNat*7+6,none⟩=some (.slice qp u.fs[fn.toNat].pts.length capp):=hfo 6 _ rfl
  refine gg_ ?_
  refine zf (S.at lpts) ?_
  refine gg_ ?_
  rw[gqg hlt]at hK2
  exact hK2
 have:=h _ S.ext
 rw[isU]at this
 have e:((((XD u&&decide (0≤fn))&&decide (fn<(u.fs.length:Int)))&&decide (q<((u.fs[fn.toNat]?.map λg=>(g.pts.length:Int)).getD 0))))=((decide (0≤fn)&&decide (fn<(u.fs.length:Int)))&&(XD u&&decide (q<((u.fs[fn.toNat]?.map λg=>(g.pts.length:Int)).getD 0)))):=by ac_rfl
 rw[e]
 exact this
end
end Go.Proofs
namespace Go.Proofs
open Go.Shelf
def Tryz.ahQ:Go.Shelf.Ren:=⟨fun|189=>69|125=>132|257=>131|128=>182|129=>183|294=>173|295=>174|296=>175|297=>176|298=>177|299=>178|216=>179|300=>180|301=>181|328=>208|329=>209|330=>210|331=>211|332=>212|215=>213|343=>234|n=>n,fun|28=>55|3=>3|46=>213|0=>0|51=>260|53=>205|4=>4|183=>254|182=>253|131=>140|5=>5|9=>9|218=>282|222=>286|228=>308|229=>288|n=>n,fun|n=>n⟩
theorem Tryz.ain:Go.Proofs.Lays.n189 Tryz.prog Tryz.ahQ:={
 mixed:=by kernel_rfl
 f125:=Tryz.func132.trans (congrArg some (by kernel_rfl))
 f128:=Tryz.func182.trans (congrArg some (by kernel_rfl))
 f129:=Tryz.func183.trans (congrArg some (by kernel_rfl))
 f189:=Tryz.func69.trans (congrArg some (by kernel_rfl))
 f215:=Tryz.func213.trans (congrArg some (by kernel_rfl))
 f216:=Tryz.func179.trans (congrArg some (by kernel_rfl))
 f257:=Tryz.func131.trans (congrArg some (by kernel_rfl))
 f294:=Tryz.func173.trans (congrArg some (by kernel_rfl))
 f295:=Tryz.func174.trans (congrArg some (by kernel_rfl))
 f296:=Tryz.func175.trans (congrArg some (by kernel_rfl))
 f297:=Tryz.func176.trans (congrArg some (by kernel_rfl))
 f298:=Tryz.func177.trans (congrArg some (by kernel_rfl))
 f299:=Tryz.func178.trans (congrArg some (by kernel_rfl))
 f300:=Tryz.func180.trans (congrArg some (by kernel_rfl))
 f301:=Tryz.func181.trans (congrArg some (by kernel_rfl))
 f328:=Tryz.func208.trans (congrArg some (by kernel_rfl))
 f329:=Tryz.func209.trans (congrArg some (by kernel_rfl))
 f330:=Tryz.func210.trans (congrArg some (by kernel_rfl))
 f331:=Tryz.func211.trans (congrArg some (by kernel_rfl))
 f332:=Tryz.func212.trans (congrArg some (by kernel_rfl))
 f343:=Tryz.func234.trans (congrArg some (by kernel_rfl))
 t0:=Tryz.underlying0
 a0:=Tryz.isAgg0
 z0:=Tryz.sizeOf0
 v0:=Tryz.zeroValue0
 t3:=Tryz.underlying3
 a3:=Tryz.isAgg3
 z3:=Tryz.sizeOf3
 v3:=Tryz.zeroValue3
 t4:=Tryz.underlying4
 a4:=Tryz.isAgg4
 z4:=Tryz.sizeOf4
 v4:=Tryz.zeroValue4
 t5:=Tryz.underlying5
 a5:=Tryz.isAgg5
 z5:=Tryz.sizeOf5
 v5:=Tryz.zeroValue5
 t9:=Tryz.underlying9
 a9:=Tryz.isAgg9
 z9:=Tryz.sizeOf9
 v9:=Tryz.zeroValue9
 t28:=Tryz.underlying55
 a28:=Tryz.isAgg55
 z28:=Tryz.sizeOf55
 v28:=Tryz.zeroValue55
 t46:=Tryz.underlying213
 a46:=Tryz.isAgg213
 z46:=Tryz.sizeOf213
 v46:=Tryz.zeroValue213
 t51:=Tryz.underlying260
 a51:=Tryz.isAgg260
 z51:=Tryz.sizeOf260
 v51:=Tryz.zeroValue260
 t53:=Tryz.underlying205
 a53:=Tryz.isAgg205
 z53:=Tryz.sizeOf205
 v53:=Tryz.zeroValue205
 t131:=Tryz.underlying140
 a131:=Tryz.isAgg140
 z131:=Tryz.sizeOf140
 v131:=Tryz.zeroValue140
 t182:=Tryz.underlying253
 a182:=Tryz.isAgg253
 z182:=Tryz.sizeOf253
 v182:=Tryz.zeroValue253
 t183:=Tryz.underlying254
 a183:=Tryz.isAgg254
 z183:=Tryz.sizeOf254
 v183:=Tryz.zeroValue254
 t218:=Tryz.underlying282
 a218:=Tryz.isAgg282
 z218:=Tryz.sizeOf282
 v218:=Tryz.zeroValue282
 t222:=Tryz.underlying286
 a222:=Tryz.isAgg286
 z222:=Tryz.sizeOf286
 v222:=Tryz.zeroValue286
 t228:=Tryz.underlying308
 a228:=Tryz.isAgg308
 z228:=Tryz.sizeOf308
 v228:=Tryz.zeroValue308
 t229:=Tryz.underlying288
 a229:=Tryz.isAgg288
 z229:=Tryz.sizeOf288
 v229:=Tryz.zeroValue288 }
def Tryz.afG:Go.Shelf.Ren:=⟨fun|15=>140|n=>n,fun|22=>55|3=>3|4=>4|n=>n,fun|n=>n⟩
theorem Tryz.aap:Go.Proofs.Lays2.n15 Tryz.prog Tryz.afG:={
 mixed:=by kernel_rfl
 f15:=Tryz.func140.trans (congrArg some (by kernel_rfl))
 t3:=Tryz.underlying3
 a3:=Tryz.isAgg3
 z3:=Tryz.sizeOf3
 v3:=Tryz.zeroValue3
 t4:=Tryz.underlying4
 a4:=Tryz.isAgg4
 z4:=Tryz.sizeOf4
 v4:=Tryz.zeroValue4
 t22:=Tryz.underlying55
 a22:=Tryz.isAgg55
 z22:=Tryz.sizeOf55
 v22:=Tryz.zeroValue55
 i3:=by kernel_rfl }
end Go.Proofs
namespace Go.Sh
open Go.RowKit
theorem aj0{w w':World}{g q:Nat}{c:List Value}{e:TypeId}{d:Array Int}{os:Array Obj}(B:Blk w g c e)(hd:d.size≤c.length)
  (hw:w'=Sort.grow (Sort.putRow (Value.int .i64) (Sort.ahead w q) g 0 d) os):ExtBut (· = g) w w'∧Blk w' g (d.toList.map (Value.int .i64)++c.drop d.size) e:=by
 subst hw
 have hg:g<w.heap.size:=(Array.getElem?_eq_some_iff.1 B).1
 have hput:∀k,(Sort.putRow (Value.int .i64) (Sort.ahead w q) g 0 d).heap[k]? = if g=k then(w.heap[k]?).map (Sort.onCells (Sort.putCells (Value.int .i64) 0 d))else w.heap[k]?:=λk=>by
  simp only[Sort.putRow,Sort.mapBlock,Array.getElem?_modify]
  split<;>rfl
 have hsz:(Sort.putRow (Value.int .i64) (Sort.ahead w q) g 0 d).heap.size=w.heap.size:=by simp[Sort.ahead]
 refine⟨⟨rfl,rfl,rfl,by simp only[Sort.grow,Array.size_append,hsz];omega,λk hk hne=>?_⟩,?_⟩
 ·show((Sort.putRow (Value.int .i64) (Sort.ahead w q) g 0 d).heap++os)[k]? = _
  rw[Array.getElem?_append_left (by rw[hsz];exact hk),hput,if_neg (λh=>hne h.symm)]
 ·show((Sort.putRow (Value.int .i64) (Sort.ahead w q) g 0 d).heap++os)[g]? = _
  rw[Array.getElem?_append_left (by rw[hsz];exact hg),hput,if_pos rfl,B,Option.map_some]
  simp only[Sort.onCells]
  congr 2
  apply Array.ext_getElem?
  intro i
  simp only[Sort.putCells,Array.getElem?_mapIdx,List.getElem?_toArray,List.getElem?_append,List.length_map,Array.length_toList,List.getElem?_map,List.getElem?_drop,gzl,true_and,Nat.zero_add,Nat.sub_zero]
  by_cases hi:i<d.size
  ·rw[if_pos hi,gqg (by omega),Option.map_some,if_pos hi,Array.getElem?_toList,Array.getElem?_eq_getElem hi,getElem!_pos d i hi];rfl
  ·rw[if_neg hi,show d.size+(i-d.size)=i by omega]
   cases h:c[i]? with
   |none=>rfl
   |some x=>rw [Option.map_some,if_neg hi]
end Go.Sh
namespace Go.Proofs
open Go.Sh Go.RowKit
section
def Zs(l:List Int):List Int:=l.mergeSort λx y=>decide (x≤y)
theorem Qn{l:List Int}:(Zs l).length=l.length:=List.length_mergeSort l
variable {w0 w:World} {r:Gh} {L:List Asr} {X:Nat→Prop}
theorem afH{v:Value}{l:List Int}{K:Value→World→Prop}(S:StX X w0 r w (.row v 3 1 l.length (ints l)::L))(hl:l.length<4611686018427387904)
  (h:∀w',StX X w0 r w' (.row v 3 1 l.length (ints (Zs l))::L)→K (.tuple #[]) w'):zd Tryz.prog Tryz.vz #[v] w K:=by
 have hr:w.ownsRow 0 3 1 v l.length (ints l):=S.has _ (List.mem_cons_self ..)
 rcases kF hr with⟨rfl,h1,h2⟩|⟨g,cap,c,rfl,hg,B,hn,hm,hcl,ht⟩
 ·have hl0:l=[]:=List.eq_nil_of_length_eq_zero h1
  subst hl0
  refine Calls.mono (Any.slices_Sort_int_none Tryz.ain none 0 w) ?_
  rintro e w' ⟨rfl,rfl⟩
  exact⟨_,rfl,h _ (by rw[show Zs []=[]by simp[Zs]];exact S)⟩
 ·rw[Nat.mul_one]at hcl ht
  have hcell:∀j,j<l.length→w.cell? ⟨g,j,none⟩=some (.int .i64 l[j]!):=λj hj=>by
   have :(c.take l.length)[j]? = some (.int .i64 l[j]!):=by
    rw[ht,ints,List.getElem?_map,gqg hj,getElem!_pos l j hj];rfl
   rw[List.getElem?_take,if_pos hj]at this
   rw[B.cell];exact this
  have hfz:∀j,w.frozen? ⟨g,j,none⟩=false:=λj=>B.unfrozen j
  refine Calls.mono (Any.slices_Sort_int Tryz.ain g 0 cap l w (λj hj=>⟨?_,hfz _⟩) (Array.getElem?_eq_some_iff.1 B).1 hl) ?_
  ·have hj:j<l.length:=by simpa using hj
   rw[Nat.zero_add,hcell j hj]
   simp[getElem!_pos,hj]
  rintro e w' ⟨rfl,q,os,hw⟩
  obtain⟨hE,hB⟩:=aj0 (d:=(Zs l).toArray) B (by simp[Qn];omega) hw
  refine⟨_,rfl,h w' ?_⟩
  refine S.turn (p:=[]) (x:=.row (.slice (some ⟨g,0,none⟩) l.length cap) 3 1 l.length (ints l)) (y:=.row (.slice (some ⟨g,0,none⟩) l.length cap) 3 1 l.length (ints (Zs l))) ?_ ?_ λk hk=>.inl hk
  ·exact hE.mono λk _ hk=>by subst hk;rfl
  ·have:=js (base:=0) (e:=3) (size:=1) (n:=l.length) (cap:=cap) (gzl _) hB hn hm (by simp[Qn];omega)
   have e:((Zs l).toArray.toList.map (Value.int .i64)++c.drop (Zs l).toArray.size).take (l.length*1)=ints (Zs l):=by
    rw[Nat.mul_one,List.take_append_of_le_length (by simp[Qn])]
    exact List.take_of_length_le (by simp[Qn])
   rwa[e]at this
end
end Go.Proofs
namespace Go.Proofs
abbrev ani:=List (List Int)
def isN(n:ani)(q:Int):Prop:=0≤q∧q<n.length
def mkd(m:List Bool):List Int:=((List.range m.length).filter λi=>m.getD i false).map Int.ofNat
theorem aem:∀{a b:List Int},a.Nodup→(∀x∈a,x∈b)→a.length≤b.length
 |[],b,_,_=>gzl _
 |x::a,b,hn,hs=>by
  have hn':=List.nodup_cons.1 hn
  have hx:=hs x List.mem_cons_self
  have:=aem (a:=a) (b:=b.erase x) hn'.2 λy hy=>by
   have hne:y≠x:=λe=>hn'.1 (e▸hy)
   exact(List.mem_erase_of_ne hne).2 (hs y (List.mem_cons_of_mem _ hy))
  rw[List.length_erase_of_mem hx]at this
  have hp:0<b.length:=List.length_pos_of_mem hx
  rw[List.length_cons];omega
end Go.Proofs
namespace Go.Proofs
open Go.Sh
section
variable {g:GrD}
abbrev CnD:=Int×Int
theorem ae5{t u:TyD}(h:bare t=bare u):t.k=u.k∧t.m=u.m∧t.st=u.st:=by
 obtain⟨a1,a2,a3⟩:=ajY (t:=t)
 obtain⟨b1,b2,b3⟩:=ajY (t:=u)
 rw[← a1,← a2,← a3,h]
 exact⟨b1,b2,b3⟩
theorem aj1{s:Int}{n:Nat}{t u:TyD}(ht:zt s (n+1) t=true)(hu:zt s (n+1) u=true)(hb:bare t=bare u):
  (t.of=[]∧u.of=[]∧t.k≠4)∨∃x y,t.of=[x]∧u.of=[y]∧zt s n x=true∧zt s n y=true∧bare x=bare y:=by
 obtain⟨hk,_,_⟩:=ae5 hb
 rcases zC ht with⟨h1,h2⟩|⟨x,h1,h2,h3⟩
 ·rcases zC hu with⟨h4,h5⟩|⟨y,h4,h5,h6⟩
  ·exact .inl ⟨h1,h4,by omega⟩
  ·omega
 ·rcases zC hu with⟨h4,h5⟩|⟨y,h4,h5,h6⟩
  ·omega
  ·refine .inr ⟨x,y,h1,h4,h2,h5,?_⟩
   have e1:(bare t).of=[bare x]:=by show(t.mapR jB).of=_;rw[JN h1];rfl
   have e2:(bare u).of=[bare y]:=by show(u.mapR jB).of=_;rw[JN h4];rfl
   rw[hb,e2]at e1
   exact(List.cons.inj e1).1.symm
theorem RowOf.app{α:Type}{sz:Nat}{R:List Value→α→Prop}{xs ys:List Value}{l m:List α}(h:RowOf sz R xs l)(k:RowOf sz R ys m):RowOf sz R (xs++ys) (l++m):=by
 obtain⟨h1,h2⟩:=h
 obtain⟨k1,k2⟩:=k
 refine⟨by rw[gla,gla,h1,k1,Nat.add_mul],λi hi=>?_⟩
 by_cases hl:i<l.length
 ·have:=Nat.mul_le_mul_right sz (Nat.succ_le_of_lt hl)
  rw[Nat.succ_mul]at this
  rw[List.getElem_append_left hl,List.drop_append_of_le_length (by rw[h1];omega),List.take_append_of_le_length (by rw[List.length_drop,h1];omega)]
  exact h2 i hl
 ·rw[List.getElem_append_right (by omega)]
  have e:(xs++ys).drop (i*sz)=ys.drop ((i-l.length)*sz):=by
   rw[List.drop_append,List.drop_eq_nil_of_le (by rw[h1];exact Nat.mul_le_mul_right _ (by omega)),List.nil_append,h1,← Nat.sub_mul]
  rw[e]
  exact k2 _ _
theorem StX.join{X:Nat→Prop}{w0 w w':World}{r s:Gh}{L M:List Asr}(S:StX X w0 r w L)(T:StX noX w s w' M)(n:Above w s):StX X w0 (r.or s) w' (M++L):=by
 have S':=S.go T.x.ext
 refine⟨S'.x,S'.holds.or T.holds,λx hx=>?_,λx hx k hk=>?_,?_⟩
 ·rcases List.mem_append.1 hx with hx|hx
  ·exact T.has x hx
  ·exact S'.has x hx
 ·rcases List.mem_append.1 hx with hx|hx
  ·obtain⟨h1,h2⟩:=T.mine x hx k hk
   have h1:=h1.resolve_right id
   refine⟨.inl (Nat.le_trans S.x.size h1),λo ho=>ho.elim (λh=>?_) (h2 o)⟩
   have:=S.holds.lt h;omega
  ·refine⟨(S.mine x hx k hk).1,λo ho=>ho.elim ((S.mine x hx k hk).2 o) λh=>?_⟩
   have:=n k o h
   have:=Asr.lt (S.has x hx) hk;omega
 ·refine List.pairwise_append.2 ⟨T.apart,S.apart,λx hx y hy k hk hk'=>?_⟩
  have h1:=(T.mine x hx k hk).1.resolve_right id
  have:=Asr.lt (S.has y hy) hk';omega
theorem ag8{u:UnD}{p:PtD}(h:zI u g p=true):0≤p.tx∧(p.op≠14→ZR g p.nx=true)∧(p.op=14→p.nx=0)∧ptG u g p=true:=by
 simp only[zI,gba,Bool.not_eq_true',Bool.or_eq_false_iff,decide_eq_false_iff_not,Bool.and_eq_false_iff,Bool.not_eq_false',gdt]at h
 obtain⟨⟨⟨a,b⟩,c⟩,d⟩:=h
 exact⟨by omega,λh=>b.resolve_left h,λh=>c.resolve_left (λh'=>h' h),d⟩
def alb(g:GrD):ani:=g.pts.map nextP
theorem ag9:(alb g).length=g.pts.length:=List.length_map _
theorem aha{q:Int}:ZR g q=true↔isN (alb g) q:=by
 rw[ZR,gba,gdt,gdt,isN,ag9]
theorem ai4{u:UnD}{p:PtD}(h:zI u g p=true):∀x∈nextP p,isN (alb g) x:=λx hx=>by
 obtain⟨_,h1,_,h3⟩:=ag8 h
 rw[nextP]at hx
 split at hx
 ·cases hx
 rename_i h14
 have hnx:=aha.1 (h1 h14)
 split at hx
 ·rename_i h12
  simp only[List.mem_cons,List.not_mem_nil,or_false]at hx
  rcases hx with rfl|rfl
  ·exact hnx
  ·rw[ptG]at h3
   simp only[h12.1,Int.reduceEq,if_false,if_true,gba]at h3
   exact aha.1 h3.2
 ·rw[List.mem_singleton.1 hx];exact hnx
end
end Go.Proofs
namespace Go.Proofs
def aca(o:OpD):Bool:=decide (o.k=3)||decide (o.k=4)
def ahb(p:PtD):Bool:=decide (1≤p.op)&&decide (p.op≤8)
end Go.Proofs
namespace Go.Proofs
open Go.Sh
theorem ai5{ss:List StD}{tys:List TyD}{p:PlD}(h:zz ss tys p≠none):zz ss [tys.getD p.l.toNat zF] ⟨0,p.ps⟩=zz ss tys p:=by
 unfold zz at h⊢
 by_cases ho:zW ss tys p=true
 ·have ho2:zW ss [tys.getD p.l.toNat zF] ⟨0,p.ps⟩=true:=by
   simp only[zW,gba,gdt,List.all_eq_true]at ho⊢
   obtain⟨⟨⟨h1,h2⟩,h3⟩,h4,h5⟩:=ho
   have hlt:p.l.toNat<tys.length:=by omega
   have he:tys.getD p.l.toNat zF=tys[p.l.toNat]:=by rw[ggd,gqg hlt];rfl
   refine⟨⟨⟨Int.le_refl 0,by simp⟩,h3⟩,h4,λt ht=>?_⟩
   rw[List.mem_singleton.1 ht,he];exact h5 _ (gem hlt)
  rw[if_pos ho,if_pos ho2];rfl
 ·rw[if_neg ho]at h;exact absurd rfl h
noncomputable def jj(ss:List StD)(tys:List TyD)(p:PlD):TyD:=(yG ss [tys.getD p.l.toNat zF] ⟨0,p.ps⟩).1
theorem anj{u:UnD}{n:Int}{g:GrD}{p:PlD}{fn:Nat}(hM:MayU u)(hH:HeadU u fn g)(ho:(zk u.ss g.tys p).2.2=true):
  yG u.ss (allD u g).tys p=(jj u.ss (allD u g).tys p,0)∧yG u.ss [(allD u g).tys.getD p.l.toNat zF] ⟨0,p.ps⟩=(jj u.ss (allD u g).tys p,0)∧isB (jj u.ss (allD u g).tys p)=true∧bare (jj u.ss (allD u g).tys p)=bare (zk u.ss g.tys p).1:=by
 obtain⟨x,h1,h2,h3,h4⟩:=ak4 (n:=n) hM hH ho
 have e:yG u.ss [(allD u g).tys.getD p.l.toNat zF] ⟨0,p.ps⟩=(x,0):=by
  rw[← h1,yG,yG,ai5 h4]
 have e2:jj u.ss (allD u g).tys p=x:=by rw[jj,e]
 rw[e2]
 exact⟨h1,e,h2,h3⟩
theorem amj{α:Type}{P:List α→Prop}(h0:P [])(h:∀l x,P l→P (l++[x]))(l:List α):P l:=by
 have key:∀m:List α,P m.reverse:=by
  intro m
  induction m with
  |nil=>exact h0
  |cons x m ih=>rw [List.reverse_cons];exact h _ _ ih
 have:=key l.reverse
 rwa[List.reverse_reverse]at this
end Go.Proofs
namespace Go.BM
open Go.Sh
section
variable {ws:List (BitVec 64)} {W:Int}
def bit(ws:List (BitVec 64))(k:Nat):Bool:=(ws.getD (k/64) 0).getLsbD (k%64)
def May(W:Int)(ws:List (BitVec 64)):Prop:=0≤W∧W≤1032∧(ws.length:Int)=(W+63)/64∧∀k:Nat,W≤(k:Int)→k<64*ws.length→bit ws k=false
noncomputable def mayB(W:Int)(ws:List (BitVec 64)):Bool:=@decide (May W ws) (Classical.propDecidable _)
theorem mayB_iff:mayB W ws=true↔May W ws:=by simp[mayB]
theorem mayB_true(h:May W ws):mayB W ws=true:=mayB_iff.2 h
theorem mayB_false(h:¬May W ws):mayB W ws=false:=by simpa [mayB]using h
theorem alc{i:Nat}(hi:i<ws.length)(j:Nat)(hj:j<64):bit ws (64*i+j)=ws[i].getLsbD j:=by
 have h1:(64*i+j)/64=i:=by omega
 have h2:(64*i+j)%64=j:=by omega
 simp[bit,h1,h2,ggd,hi]
theorem ald(h0:0≤W)(h1:W≤1032)(hl:(ws.length:Int)=(W+63)/64)(hm:¬W%64=0)(hlt:ws.length-1<ws.length):
  May W ws↔ws[ws.length-1] >>> (W%64).toNat=0#64:=by
 have hp:ws.length=(W.toNat+63)/64:=by omega
 constructor
 ·rintro⟨_,_,_,hb⟩
  apply BitVec.eq_of_getLsbD_eq
  intro i hi
  rw[BitVec.getLsbD_ushiftRight,BitVec.getLsbD_zero]
  by_cases hi':(W%64).toNat+i<64
  ·have:=hb (64*(ws.length-1)+((W%64).toNat+i)) (by omega) (by omega)
   rwa[alc hlt _ hi']at this
  ·exact BitVec.getLsbD_of_ge _ _ (by omega)
 ·intro hz
  refine⟨h0,h1,hl,λk hk hk'=>?_⟩
  have h2:k/64=ws.length-1:=by omega
  have h3:k%64=(W%64).toNat+(k%64-(W%64).toNat):=by omega
  have h4:bit ws k=ws[ws.length-1].getLsbD (k%64):=by
   simp[bit,h2,ggd,hlt]
  rw[h4,h3,← BitVec.getLsbD_ushiftRight,hz];simp
theorem ale(h0:0≤W)(h1:W≤1032)(hl:(ws.length:Int)=(W+63)/64)(hm:W%64=0):May W ws:=
 ⟨h0,h1,hl,λk hk hk'=>by omega⟩
theorem ahR(x:BitVec 64)(n:Nat):(((x >>> n) &&& BitVec.ofInt 64 1).toNat:Int)=1↔x.getLsbD n=true:=by
 have h1:BitVec.ofInt 64 1=1#64:=rfl
 rw[h1]
 have h2:(x >>> n) &&& 1#64=if x.getLsbD n then 1#64 else 0#64:=by
  apply BitVec.eq_of_getLsbD_eq
  intro i hi
  rw[BitVec.getLsbD_and,BitVec.getLsbD_ushiftRight]
  by_cases h0:i=0
  ·subst h0;cases h:x.getLsbD n<;>simp
  ·have :(1#64).getLsbD i=false:=by
    rw[BitVec.getLsbD_ofNat]
    have :Nat.testBit 1 i=false:=by
     cases ht:Nat.testBit 1 i with
     |false=>rfl
     |true=>exact absurd (Nat.testBit_one_eq_true_iff_self_eq_zero.1 ht) h0
    simp[this]
   cases h:x.getLsbD n<;>simp [this]
 rw[h2]
 cases x.getLsbD n<;>simp
def Y3(g:BitVec 64→BitVec 64→BitVec 64)(ws:List (BitVec 64))(k:Int):List (BitVec 64):=
 ws.set (k.toNat/64) (g (ws.getD (k.toNat/64) 0) (BitVec.ofInt 64 1 <<< (k.toNat%64)))
def jE(g:BitVec 64→BitVec 64→BitVec 64)(ws:List (BitVec 64))(ls:List Int):List (BitVec 64):=ls.foldl (Y3 g) ws
theorem XM(g:BitVec 64→BitVec 64→BitVec 64)(ws:List (BitVec 64))(k:Int):(Y3 g ws k).length=ws.length:=by simp[Y3]
theorem Jl(g:BitVec 64→BitVec 64→BitVec 64):∀(ls:List Int)(ws:List (BitVec 64)),(jE g ws ls).length=ws.length
 |[],_=>rfl
 |k::ls,ws=>by
  have:=Jl g ls (Y3 g ws k)
  simp only[jE,List.foldl_cons]at this⊢
  rw[this,XM]
theorem ahc(g:BitVec 64→BitVec 64→BitVec 64)(ws:List (BitVec 64))(ls:List Int)(k:Int):jE g ws (ls++[k])=Y3 g (jE g ws ls) k:=by
 simp[jE]
def Z4(W:Int)(ls:List Int):Prop:=∀k∈ls,0≤k∧k<W
def Y4(x:BitVec 64):List Nat:=(List.range 64).filter x.getLsbD
theorem amk(x:BitVec 64)(n m:Nat)(h:2 ^ n=m):(x >>> n).toNat=x.toNat/m:=by
 rw[BitVec.toNat_ushiftRight,Nat.shiftRight_eq_div_pow,h]
theorem ai6:Y4 0#64=[]:=by decide
theorem aml{x:BitVec 64}(h:x≠0#64):∃t,t<64∧(x &&& -x).toNat=2 ^ t∧Y4 x=t::Y4 (x &&& (x-BitVec.ofInt 64 1)):=by
 have h0:0<x.toNat:=by
  rcases Nat.eq_zero_or_pos x.toNat with h1|h1
  ·exact absurd (BitVec.eq_of_toNat_eq h1) h
  ·exact h1
 obtain⟨m,hm,ht⟩:=Lib.ctzFrom_spec 64 x.toNat h0 x.isLt
 generalize Lib.ctzFrom 64 x.toNat=t at hm ht
 have hand:=Lib.and_neg 64 t m (by rw[← hm];exact x.isLt)
 rw[← hm]at hand
 have hlt:∀j,j<t→x.getLsbD j=false:=λj hj=>by
  show x.toNat.testBit j=false
  rw[hm,Nat.testBit_two_pow_mul];simp;omega
 have hge:∀j,x.getLsbD (t+j)=(2*m+1).testBit j:=λj=>by
  show x.toNat.testBit (t+j)=_
  rw[hm,Nat.testBit_two_pow_mul];simp
 have hpos:0<2 ^ t:=Nat.two_pow_pos t
 have hsub:(x-BitVec.ofInt 64 1).toNat=2 ^ t*(2*m)+(2 ^ t-1):=by
  rw[show BitVec.ofInt 64 1=1#64 from rfl,BitVec.toNat_sub_of_le (by show(1#64).toNat≤x.toNat;exact h0),hm]
  have :2 ^ t*(2*m+1)=2 ^ t*(2*m)+2 ^ t:=by rw[Nat.mul_add,Nat.mul_one]
  show 2 ^ t*(2*m+1)-1=_
  omega
 have hsge:∀j,(x-BitVec.ofInt 64 1).getLsbD (t+j)=(2*m).testBit j:=λj=>by
  show(x-BitVec.ofInt 64 1).toNat.testBit (t+j)=_
  rw[hsub,Nat.testBit_two_pow_mul_add _ (i:=t) (by omega),if_neg (by omega),Nat.add_sub_cancel_left]
 refine⟨t,ht,?_,?_⟩
 ·rw[BitVec.toNat_and,BitVec.toNat_neg]
  have :(2 ^ 64-x.toNat)%2 ^ 64=2 ^ 64-x.toNat:=Nat.mod_eq_of_lt (by have:=x.isLt;omega)
  rw[this];exact hand
 ·unfold Y4
  have hr:List.range 64=List.range t++(t::List.range' (t+1) (63-t)):=by
   rw[List.range_eq_range',List.range_eq_range',← List.range'_succ]
   rw[show 63-t+1=64-t by omega]
   have:=List.range'_append (s:=0) (m:=t) (n:=64-t) (step:=1)
   simp only[Nat.one_mul,Nat.zero_add]at this
   rw[this,show t+(64-t)=64 by omega]
  have hxt:x.getLsbD t=true:=by have:=hge 0;simpa [Nat.testBit_zero]using this
  have hst:(x &&& (x-BitVec.ofInt 64 1)).getLsbD t=false:=by
   rw[BitVec.getLsbD_and];have:=hsge 0;rw[Nat.add_zero]at this;rw[this];simp[Nat.testBit_zero]
  have hA:∀z:BitVec 64,(∀j,j<t→z.getLsbD j=false)→(List.range t).filter z.getLsbD=[]:=λz hz=>by
   rw[List.filter_eq_nil_iff];intro j hj;rw[hz j (List.mem_range.1 hj)];simp
  rw[hr,List.filter_append,List.filter_append,hA x hlt,hA _ (λj hj=>by rw[BitVec.getLsbD_and,hlt j hj];rfl),List.nil_append,List.nil_append,
   List.filter_cons,List.filter_cons,hxt,hst]
  simp only[if_true,Bool.false_eq_true,if_false,List.cons.injEq,true_and]
  apply List.filter_congr
  intro j hj
  obtain⟨i,hi⟩:∃i,j=t+(i+1):=⟨j-t-1,by have:=(List.mem_range'_1.1 hj).1;omega⟩
  subst hi
  rw[BitVec.getLsbD_and,hge,hsge,Nat.testBit_succ,Nat.testBit_succ,show (2*m+1)/2=m by omega,show 2*m/2=m by omega]
  cases m.testBit i<;>rfl
theorem alf{t:Nat}(ht:t<64){x:BitVec 64}(hx:x.toNat=2 ^ t):
  ((x*BitVec.ofNat 64 285870213051353865) >>> 58).toNat<64∧Lib.deBruijn64tab.getD ((x*BitVec.ofNat 64 285870213051353865) >>> 58).toNat 0=t:=by
 have h:=Lib.deBruijn64_at t ht
 have e:((x*BitVec.ofNat 64 285870213051353865) >>> 58).toNat=2 ^ t*285870213051353865%18446744073709551616/288230376151711744:=by
  rw[amk _ 58 288230376151711744 (by decide),BitVec.toNat_mul,hx];rfl
 rw[e];exact h
def jk:Nat→List (BitVec 64)→List Nat
 |_,[]=>[]
 |i,x::ws=>(Y4 x).map (64*i + ·)++jk (i+1) ws
def XN(ws:List (BitVec 64)):List Nat:=jk 0 ws
theorem afI{i:Nat}(hi:i<ws.length)(k:Nat):
  jk k (ws.drop i)=(Y4 ws[i]).map (64*k + ·)++jk (k+1) (ws.drop (i+1)):=by
 rw[List.drop_eq_getElem_cons hi];rfl
theorem acb(p:Nat→Bool)(a n:Nat):((List.range n).filter λj=>p (a+j)).map (a + ·)=(List.range' a n).filter p:=by
 rw[List.range'_eq_map_range,List.filter_map];rfl
theorem Qo:∀(ws:List (BitVec 64))(i:Nat)(p:Nat→Bool),(∀k,k<64*ws.length→p (64*i+k)=bit ws k)→jk i ws=(List.range' (64*i) (64*ws.length)).filter p
 |[],_,_,_=>rfl
 |x::ws,i,p,h=>by
  rw[jk,Qo ws (i+1) p (λk hk=>by
   have:=h (64+k) (by simp;omega)
   rw[show 64*i+(64+k)=64*(i+1)+k by omega]at this
   rw[this,bit,bit,show (64+k)/64=k/64+1 by omega,show (64+k)%64=k%64 by omega];rfl)]
  have h1:(Y4 x).map (64*i + ·)=(List.range' (64*i) 64).filter p:=by
   rw[← acb]
   congr 1
   apply List.filter_congr
   intro j hj
   have hj:=List.mem_range.1 hj
   rw[h j (by simp;omega),bit,show j/64=0 by omega,show j%64=j by omega];rfl
  rw[h1,← List.filter_append]
  congr 1
theorem afJ(ws:List (BitVec 64)):XN ws=(List.range (64*ws.length)).filter (bit ws):=by
 rw[XN,Qo ws 0 (bit ws) (λk _=>by rw[Nat.mul_zero,Nat.zero_add]),List.range_eq_range']
theorem ai7(h:May W ws):XN ws=(List.range W.toNat).filter (bit ws):=by
 obtain⟨h0,h1,h2,h3⟩:=h
 rw[afJ,show 64*ws.length=W.toNat+(64*ws.length-W.toNat)by omega,List.range_add,List.filter_append]
 have :((List.range (64*ws.length-W.toNat)).map (W.toNat + ·)).filter (bit ws)=[]:=by
  rw[List.filter_eq_nil_iff]
  intro k hk
  obtain⟨j,hj,rfl⟩:=List.mem_map.1 hk
  have:=List.mem_range.1 hj
  rw[h3 (W.toNat+j) (by omega) (by omega)];simp
 rw[this,List.append_nil]
theorem aj2(x y:BitVec 64)(j:Nat)(_:j<64):(x ||| y).getLsbD j=(x.getLsbD j||y.getLsbD j):=BitVec.getLsbD_or
theorem amm(j i:Nat)(_:j<64)(hi:i<64):(BitVec.ofInt 64 1 <<< j).getLsbD i=decide (i=j):=by
 rw[show BitVec.ofInt 64 1=1#64 from rfl,BitVec.getLsbD_shiftLeft,BitVec.getLsbD_one]
 by_cases h:i=j
 ·subst h;simp[hi]
 ·by_cases h2:i<j
  ·simp[h2,h]
  ·have :¬(i-j=0):=by omega
   simp[h,this]
theorem alg(l:List (BitVec 64))(i j:Nat)(x:BitVec 64)(hi:i<l.length):(l.set i x).getD j 0=if j=i then x else l.getD j 0:=by
 rw[ggd,List.getElem?_set]
 by_cases h:i=j
 ·subst h;simp[hi]
 ·have :¬j=i:=λe=>h e.symm
  simp[h,this,ggd]
theorem ae6{g:BitVec 64→BitVec 64→BitVec 64}{h:Bool→Bool→Bool}(hg:∀x y j,j<64→(g x y).getLsbD j=h (x.getLsbD j) (y.getLsbD j))
  (hh:∀b,h b false=b) {ws:List (BitVec 64)} {n:Int} (hn:n.toNat<64*ws.length) (k:Nat):bit (Y3 g ws n) k=if k=n.toNat then h (bit ws k) true else bit ws k:=by
 rw[bit,Y3,alg _ _ _ _ (by omega)]
 by_cases h1:k/64=n.toNat/64
 ·rw[if_pos h1,hg _ _ _ (by omega),amm _ _ (by omega) (by omega),h1.symm]
  by_cases h2:k=n.toNat
  ·rw[if_pos h2,h2,gde rfl];rfl
  ·have :¬k%64=n.toNat%64:=by omega
   rw[if_neg h2,decide_eq_false this,hh];rfl
 ·rw[if_neg h1,if_neg (λe=>h1 (by rw[e]))];rfl
theorem aj3{g:BitVec 64→BitVec 64→BitVec 64}{h:Bool→Bool→Bool}(hg:∀x y j,j<64→(g x y).getLsbD j=h (x.getLsbD j) (y.getLsbD j))(hh:∀b,h b false=b)
  {W:Int} {ws:List (BitVec 64)} (hm:May W ws) {n:Int} (hn:0≤n∧n<W):May W (Y3 g ws n):=by
 have hl:=hm.2.2.1
 refine⟨hm.1,hm.2.1,by rw[XM];exact hl,λk hk hk'=>?_⟩
 rw[XM]at hk'
 rw[ae6 hg hh (by omega),if_neg (by omega)]
 exact hm.2.2.2 k hk hk'
theorem ado{W:Int}:∀(ls:List Int)(ws:List (BitVec 64)),May W ws→Z4 W ls→∀k,bit (jE (λx y=>x ||| y) ws ls) k=(bit ws k||decide ((k:Int)∈ls))
 |[],_,_,_,k=>by simp[jE]
 |n::ls,ws,hm,ha,k=>by
  have hn:=ha n (List.mem_cons_self ..)
  have h1:=ado ls (Y3 (λx y=>x ||| y) ws n) (aj3 (h:=λa b=>a||b) aj2 (by simp) hm hn) (λk hk=>ha k (List.mem_cons_of_mem _ hk)) k
  have hl:=hm.2.2.1
  simp only[jE,List.foldl_cons]at h1⊢
  rw[h1,ae6 (h:=λa b=>a||b) aj2 (by simp) (by omega)]
  by_cases h2:k=n.toNat
  ·have :(k:Int)=n:=by omega
   simp[h2,show ((n.toNat:Int))=n by omega]
  ·have :¬(k:Int)=n:=by omega
   simp[h2,this]
theorem aj4(h0:0≤W)(h1:W≤1032):May W (List.replicate ((W.toNat+63)/64) 0#64):=by
 refine⟨h0,h1,by rw[List.length_replicate];omega,λk _ _=>?_⟩
 simp[bit,ggd,List.getElem?_replicate]
 split<;>simp
theorem aj5(n k:Nat):bit (List.replicate n 0#64) k=false:=by
 simp[bit,ggd,List.getElem?_replicate]
 split<;>simp
end
end Go.BM
namespace Go.Proofs
theorem alh{ss:List StD}{tys:List TyD}{p:PlD}(h:(zk ss tys p).2.2=true):0≤p.l∧p.l<(tys.length:Int):=by
 unfold zk at h
 split at h
 ·rename_i s hs
  by_cases h0:p.l<0
  ·rw[if_pos h0]at hs;cases hs
  ·rw[if_neg h0]at hs
   cases ht:tys[p.l.toNat]? with
   |none=>rw [ht]at hs;cases hs
   |some t=>
    have:=(List.getElem?_eq_some_iff.1 ht).1
    omega
 ·cases h
theorem J0{u:UnD}{g:GrD}{p:PtD}(h:zI u g p=true)(ho:p.op=4∨p.op=10∨p.op=11):(zk u.ss g.tys p.fr).2.2=true:=by
 have h2:=ZU h
 cases hf:(zk u.ss g.tys p.fr).2.2 with
 |true=>rfl
 |false=>
  rw[ptG]at h2
  rcases ho with hc|hc|hc<;>simp [hc,hf]at h2
end Go.Proofs
namespace Go.Sh
open Go.RowKit
section
section
variable {P:Program} {X:Nat→Prop} {w0 w:World} {r:Gh} {L:List Asr} {e:TypeId} {sz m:Nat} {xs:List Value} {g:Asr→List Asr}
theorem StX.cutRow{p:Option Addr}{cap n:Nat}(S:StX X w0 r w L)[h:kW (.slice p m cap) L e sz m xs g](hn:n≤m):StX X w0 r w (g (.row (.slice p n cap) e sz n (xs.take (n*sz)))):=by
 obtain⟨pp,qq,h2,h3⟩:=h.h
 have hr:=S.has (.row (.slice p m cap) e sz m xs) (by rw[h2];simp)
 rw[h3]
 rw[h2]at S
 rcases kF hr with⟨hv,h0,hx⟩|⟨b,cap',c,hv,hb,B,hm,hM,hc,ht⟩
 ·cases hv
  have :n=0:=by omega
  subst this
  subst hx
  refine S.turn (x:=.row (.slice none 0 0) e sz 0 []) (y:=.row (.slice none 0 0) e sz 0 ([].take (0*sz))) (ExtBut.refl _ _) ?_ λk hk=>.inl hk
  simpa using hr
 ·cases hv
  refine S.turn (x:=.row (.slice (some ⟨b,0,none⟩) m cap) e sz m xs) (y:=.row (.slice (some ⟨b,0,none⟩) n cap) e sz n (xs.take (n*sz))) (ExtBut.refl _ _) ?_ λk hk=>.inl hk
  have:=js (base:=0) (e:=e) (size:=sz) (n:=n) (gzl _) B (by omega) hM hc
  rw[← ht,List.take_take,Nat.min_eq_left (Nat.mul_le_mul_right _ hn)]
  exact this
end
end
end Go.Sh
namespace Go.Proofs
open Go.Sh Go.RowKit
section
variable {l:List Int} {r:Gh} {p:Option Addr}
theorem qJ:RowOf 1 yN (ints l) l:=⟨by rw[ym,Nat.mul_one],λj hj=>by
 rw[Nat.mul_one,ints,← List.map_drop,← List.map_take,List.drop_eq_getElem_cons hj];rfl⟩
theorem aj6{α:Type}{V:α→Value}{n cap:Nat}{l:List α}(h:SlG 1 r (λc x=>c=[V x]) (.slice p n cap) l){i:Nat}(hi:i<l.length):
  ∃b off,p=some ⟨b,off,none⟩∧n=l.length∧Ob r λw=>w.cell? ⟨b,off+i,none⟩=some (V l[i]):=by
 have hsh:=h.shape
 obtain⟨p',cap',e,_,_⟩:=hsh
 obtain⟨b,off,c,hE,hc,hcc,hcl⟩:=h.get (by decide) hi
 obtain rfl:c=_:=hcc
 cases e
 cases hE
 refine⟨b,off,rfl,rfl,?_⟩
 have:=hcl 0 _ rfl
 rwa[show off+i*1+0=off+i by omega]at this
theorem xR{n cap:Nat}(h:SlG 1 r yN (.slice p n cap) l){i:Nat}(hi:i<l.length):∃b off,p=some ⟨b,off,none⟩∧n=l.length∧Ob r λw=>w.cell? ⟨b,off+i,none⟩=some (.int .i64 l[i]):=aj6 (V:=Value.int .i64) h hi
theorem ahS{v:Value}{w0 w:World}{L:List Asr}{X:Nat→Prop}{K:Value→World→Prop}(S:StX X w0 r w L)(hl:SlG 1 r yN v l)(hf:l.length≤1000000)
  (h:∀v' w',StX X w0 r w' (.row v' 3 1 l.length (ints l)::L)→K v' w'):zd Tryz.prog Tryz.jQ #[v] w K:=by
 obtain⟨p,cap,rfl,hp,_⟩:=hl.shape
 by_cases h0:l=[]
 ·subst h0
  cases p with
  |none=>
   have:=hp rfl;subst this
   refine Calls.mono (Any.slices_Clone_int_nil Tryz.aap 0 0 w) ?_
   rintro e w' ⟨rfl,rfl⟩
   exact⟨_,rfl,h _ _ (S.ownNil 3 1)⟩
  |some a=>
   refine Calls.mono (Any.slices_Clone_int_zero Tryz.aap a cap w) ?_
   rintro e w' ⟨v',rfl,ho,_,hB⟩
   have hE:Ext w w':=⟨hB.os,hB.tape,hB.output,hB.size,hB.block⟩
   exact⟨_,rfl,h _ _ (S.take hE ho)⟩
 ·obtain⟨b,off,rfl,_,_⟩:=xR hl (i:=0) (List.length_pos_iff.2 h0)
  refine Calls.mono (Any.slices_Clone_int Tryz.aap b off l.length cap l w (Nat.le_refl _) (by omega) λj hj=>?_) ?_
  ·obtain⟨b',off',hE,_,hc⟩:=xR hl hj
   cases hE
   rw[S.at hc,ggd,gqg hj];rfl
  rintro e w' ⟨v',rfl,ho,_,hB⟩
  have hE:Ext w w':=⟨hB.os,hB.tape,hB.output,hB.size,hB.block⟩
  rw[List.take_length]at ho
  exact⟨_,rfl,h _ _ (S.take hE ho)⟩
end
section
variable {m:List Bool}
theorem alj{i:Nat}(hi:i<m.length):mkd (m.take (i+1))=mkd (m.take i)++(if m[i]=true then [(i:Int)]else []):=by
 have hl:(m.take (i+1)).length=i+1:=by rw[List.length_take];omega
 have hl':(m.take i).length=i:=by rw[List.length_take];omega
 rw[mkd,mkd,hl,hl',List.range_succ,List.filter_append,List.map_append]
 congr 1
 ·congr 1
  refine List.filter_congr λx hx=>?_
  have:=List.mem_range.1 hx
  rw[ggd,ggd,List.getElem?_take,List.getElem?_take,if_pos (by omega),if_pos this]
 ·have e:(m.take (i+1)).getD i false=m[i]:=by
   rw[ggd,List.getElem?_take,if_pos (by omega),gqg hi];rfl
  cases hm:m[i]with
  |true=>rw [List.filter_cons_of_pos (by rw[e,hm])];simp
  |false=>rw [List.filter_cons_of_neg (by rw[e,hm];simp)];simp
theorem amn:(mkd m).length≤m.length:=by
 rw[mkd,List.length_map];exact Nat.le_trans (List.length_filter_le _ _) (by simp)
theorem Qp{l:List Int}{x:Int}:ints (l++[x])=ints l++[.int .i64 x]:=by simp[ints]
end
end Go.Proofs
namespace Go.Proofs.Tryz
open Go.Sh
def xr(t0 t1:Value)(w:World)(K:VW):Prop:=
 ca yJ #[t0,t1] w λt7 w1=>
 bt .geq 3 t7 (i6 0) λt8=>K t8 w1
theorem qS{t0 t1:Value}{w:World}{K:VW}(h:xr t0 t1 w K):zd prog yv #[t0,t1] w K:=
 okC false (.s (.r (rz 1 0 0)) (.s (.r (rz 5 0 32)) (.n))) func61 rfl (by kernel_rfl) (by kernel_rfl) h
def xJ(t0 t1:Value)(w:World)(K:VW):Prop:=
 pp (Builtin.len_ #[44] 3 #[t0]) λt7=>zp [(i6 0)] w (λs2 _d3 w4 K1=>
 bf .lss 3 (s2.getD 0 u_) t7 λt9=>zc t9 (xl w4 44 t0 (s2.getD 0 u_) 48 λt15=>cv t1 #[t15] w4 λt16 w5=>
 zc t16 (K (s2.getD 0 u_) w5) (bt .add 3 (s2.getD 0 u_) (i6 1) λt18=>K1 [t18] w5)) (K (i6 (-1)) w4))
theorem jF{t0 t1:Value}{w:World}{K:VW}(h:xJ t0 t1 w K):zd prog yJ #[t0,t1] w K:=
 okC false (.s (.r (rz 1 0 0)) (.s (.s (.r (rz 3 0 0)) (.b (.lp [8] (.s (.r (rz 1 0 0)) (.s (.c (.n) (.n)) (.s (.b (.s (.r (rz 2 0 0)) (.s (.r (rz 6 0 2304)) (.c (.s (.r (rz 2 0 0)) (.n)) (.n))))) (.r (rz 2 0 0)))))))) (.s (.r (rz 1 0 0)) (.n)))) func125 rfl (by kernel_rfl) (by kernel_rfl) h
end Go.Proofs.Tryz
namespace Go.Proofs
open Go.Sh Go.RowKit
theorem aaV{r:Gh}{p:Option Addr}{n cap:Nat}{l:List Int}(h:SlG 1 r xE (.slice p n cap) l){i:Nat}(hi:i<l.length):∃b off,p=some ⟨b,off,none⟩∧n=l.length∧Ob r λw=>w.cell? ⟨b,off+i,none⟩=some (.int .i64 l[i]):=
 xR (h.mono λc x hx=>hx.1) hi
end Go.Proofs
namespace Go.Proofs.Tryz
open Go.Sh
section
variable {t0:Value} {w:World} {K:VW}
def adp(t0:Value)(w:World)(K:VW):Prop:=
 pw w (Instr.alloc 48 true (.tuple #[])) λt2 w1=>
 bt .lss 3 t0 (i6 0) λt5=>za (λK2=>gIf t5 false (bt .gtr 3 t0 (i6 1032) λt8=>K2 [t8] w1) (K2 [u_] w1)) (λs3 _d4 w5=>
 zb t5 tr_ (s3.getD 0 u_) λt9=>zc t9 (pp (Instr.build 48 #[]) λt10=>so w5 48 t2 t10 λw6=>pq w6 (zh 48 t2) λr7=>K (.tuple #[r7,(i6 2)]) w6) (bt .add 3 t0 (i6 63) λt13=>bt .quo 3 t13 (i6 64) λt14=>pw w5 (Instr.makeSlice 46 t14 t14) λt15 w8=>
 pp (Instr.build 48 #[(0,t0),(1,t15)]) λt16=>so w8 48 t2 t16 λw9=>pq w9 (zh 48 t2) λr10=>K (.tuple #[r10,(i6 0)]) w9))
theorem ahT(h:adp t0 w K):zd prog JE #[t0] w K:=
 okC false (.s (.r (rz 2 0 2)) (.s (.s (.r (ra 3 0 0 (.grp 6 false (ri 2 3 0) [8] (rz 1 5 0)))) (.c (.s (.r (rz 3 0 8)) (.n)) (.n))) (.s (.r (rz 8 0 8704)) (.n)))) func154 rfl (by kernel_rfl) (by kernel_rfl) h
def adq(t0:Value)(w:World)(K:VW):Prop:=
 pw w (Instr.box 48 t0) λt1 w1=>
 fl w1 t1 48 0 3 λt4=>bt .lss 3 t4 (i6 0) λt5=>za (λK2=>gIf t5 false (fl w1 t1 48 0 3 λt8=>bt .gtr 3 t8 (i6 1032) λt9=>K2 [t9] w1) (K2 [u_] w1)) (λs3 _d4 w5=>
 zb t5 tr_ (s3.getD 0 u_) λt10=>za (λK6=>gIf t10 false (fl w5 t1 48 1 46 λt13=>pp (Builtin.len_ #[46] 3 #[t13]) λt14=>fl w5 t1 48 0 3 λt16=>bt .add 3 t16 (i6 63) λt17=>bt .quo 3 t17 (i6 64) λt18=>bf .neq 3 t14 t18 λt19=>K6 [t19] w5) (K6 [u_] w5)) (λs7 _d8 w9=>
 zb t10 tr_ (s7.getD 0 u_) λt20=>zc t20 (K fa_ w9) (fl w9.drew t1 48 0 3 λt22=>bt .rem 3 t22 (i6 64) λt23=>bt .eql 3 t23 (i6 0) λt24=>za (λK10=>gIf t24 false (fl w9.drew t1 48 1 46 λt27=>fl w9.drew t1 48 1 46 λt29=>pp (Builtin.len_ #[46] 3 #[t29]) λt30=>bt .sub 3 t30 (i6 1) λt31=>xl w9.drew 46 t27 t31 205 λt33=>fl w9.drew t1 48 0 3 λt35=>bt .rem 3 t35 (i6 64) λt36=>bf .shr 205 t33 t36 λt37=>bt .eql 205 t37 (Value.int .u64 0) λt38=>K10 [t38] w9.drew) (K10 [u_] w9.drew)) (λs11 _d12 w13=>
 zb t24 tr_ (s11.getD 0 u_) λt39=>K t39 w13))))
theorem ahU(h:adq t0 w K):zd prog YU #[t0] w K:=
 okC false (.s (.r (rz 2 0 2)) (.s (.s (.r (ra 4 0 4 (.grp 6 false (ri 3 4 4) [9] (ra 2 7 0 (.grp 11 false (ri 8 9 260) [19] (rz 1 17 0)))))) (.c (.s (.r (rz 1 0 0)) (.n)) (.n))) (.s (.r (ra 5 0 4 (.grp 25 false (ri 13 5 278596) [38] (rz 2 18 0)))) (.n)))) func63 rfl (by kernel_rfl) (by kernel_rfl) h
def aaq(t0 t1:Value)(w:World)(K:VW):Prop:=
 pw w (Instr.box 48 t0) λt2 w1=>
 pw w1 (Instr.box 48 t1) λt3 w2=>
 fl w2 t2 48 0 3 λt7=>fl w2 t3 48 0 3 λt9=>bf .neq 3 t7 t9 λt10=>za (λK3=>gIf t10 false (fl w2 t2 48 1 46 λt13=>pp (Builtin.len_ #[46] 3 #[t13]) λt14=>fl w2 t3 48 1 46 λt16=>pp (Builtin.len_ #[46] 3 #[t16]) λt17=>bf .neq 3 t14 t17 λt18=>K3 [t18] w2) (K3 [u_] w2)) (λs4 _d5 w6=>
 zb t10 tr_ (s4.getD 0 u_) λt19=>zc t19 (K fa_ w6) (zp [(i6 0)] w6 (λs8 _d9 w10 K7=>
 fl w10 t2 48 1 46 λt22=>pp (Builtin.len_ #[46] 3 #[t22]) λt23=>bf .lss 3 (s8.getD 0 u_) t23 λt24=>zc t24 (fl w10.drew t2 48 1 46 λt28=>xl w10.drew 46 t28 (s8.getD 0 u_) 205 λt31=>fl w10.drew t3 48 1 46 λt33=>xl w10.drew 46 t33 (s8.getD 0 u_) 205 λt36=>bf .neq 205 t31 t36 λt37=>zc t37 (K fa_ w10.drew) (bt .add 3 (s8.getD 0 u_) (i6 1) λt26=>K7 [t26] w10.drew)) (K tr_ w10))))
theorem afK{t1:Value}(h:aaq t0 t1 w K):zd prog Xk #[t0,t1] w K:=
 okC false (.s (.r (rz 3 0 10)) (.s (.s (.r (ra 6 0 68 (.grp 11 false (ri 7 6 260) [18] (rz 1 13 0)))) (.c (.s (.r (rz 1 0 0)) (.n)) (.n))) (.s (.s (.r (rz 1 0 0)) (.b (.lp [5] (.s (.s (.r (rz 5 0 16)) (.c (.n) (.n))) (.s (.b (.s (.r (rz 11 0 266500)) (.c (.s (.r (rz 1 0 0)) (.n)) (.n)))) (.r (rz 3 0 0))))))) (.s (.r (rz 1 0 0)) (.n))))) func77 rfl (by kernel_rfl) (by kernel_rfl) h
def adr(t0 t1:Value)(w:World)(K:VW):Prop:=
 pw w (Instr.alloc 48 true (.tuple #[])) λt4 w1=>
 ca Xl #[t0] w1 λt8 w2=>
 pw w2 (Instr.alloc 48 true (.tuple #[])) λt5 w3=>
 so w3 48 t5 t8 λw4=>zp [(i6 0)] w4 (λs6 _d7 w8 K5=>
 pp (Builtin.len_ #[55] 3 #[t1]) λt11=>bf .lss 3 (s6.getD 0 u_) t11 λt12=>zc t12 (fl w8.drew t5 48 1 46 λt16=>xl w8.drew 55 t1 (s6.getD 0 u_) 3 λt20=>bt .quo 3 t20 (i6 64) λt21=>fl w8.drew t5 48 1 46 λt23=>xl w8.drew 55 t1 (s6.getD 0 u_) 3 λt27=>bt .quo 3 t27 (i6 64) λt28=>xl w8.drew 46 t23 t28 205 λt30=>xl w8.drew 55 t1 (s6.getD 0 u_) 3 λt34=>bt .rem 3 t34 (i6 64) λt35=>bt .shl 205 (Value.int .u64 1) t35 λt36=>bf .or 205 t30 t36 λt37=>px 46 t16 t21 λt38=>so w8.drew 205 t38 t37 λw9=>bt .add 3 (s6.getD 0 u_) (i6 1) λt14=>K5 [t14] w9) (lo w8 48 t5 λt39=>so w8 48 t4 t39 λw10=>pq w10 (zh 48 t4) λr11=>K r11 w10))
theorem ahV{t1:Value}(h:adr t0 t1 w K):zd prog JF #[t0,t1] w K:=
 okC false (.s (.r (rz 1 0 2)) (.s (.r (rz 4 0 168)) (.s (.s (.r (rz 1 0 0)) (.b (.lp [6] (.s (.s (.r (rz 4 0 0)) (.c (.n) (.n))) (.s (.b (.r (rz 25 0 563225921913860))) (.r (rz 3 0 0))))))) (.s (.r (rz 2 0 9)) (.n))))) func139 rfl (by kernel_rfl) (by kernel_rfl) h
def aar(t0:Value)(w:World)(K:VW):Prop:=
 pw w (Instr.alloc 48 true (.tuple #[])) λt2 w1=>
 bt .add 3 t0 (i6 63) λt5=>bt .quo 3 t5 (i6 64) λt6=>pw w1 (Instr.makeSlice 46 t6 t6) λt7 w2=>
 pp (Instr.build 48 #[(0,t0),(1,t7)]) λt8=>so w2 48 t2 t8 λw3=>pq w3 (zh 48 t2) λr4=>K r4 w3
theorem afL(h:aar t0 w K):zd prog Xl #[t0] w K:=
 okC false (.s (.r (rz 1 0 2)) (.s (.r (rz 7 0 8704)) (.n))) func184 rfl (by kernel_rfl) (by kernel_rfl) h
end
end Go.Proofs.Tryz
namespace Go.Proofs
open Go.Sh Go.RowKit Go.BM
section
variable {r:Gh} {c:List Value}
def WdC(c:List Value)(x:BitVec 64):Prop:=c=[u64 x]
def RwbC(r:Gh)(c:List Value)(x:Int×List (BitVec 64)):Prop:=∃p cap,c=[.int .i64 x.1,.slice p x.2.length cap]∧SlB 1 r WdC (.slice p x.2.length cap) x.2
theorem RwbC.up{s:Gh}{x:Int×List (BitVec 64)}(h:RwbC r c x)[le:Le r s]:RwbC s c x:=by
 obtain⟨p,cap,h1,h2⟩:=h;exact⟨p,cap,h1,h2.cells⟩
theorem Jm{p:Option Addr}{n cap:Nat}{l:List (BitVec 64)}(h:SlG 1 r WdC (.slice p n cap) l){i:Nat}(hi:i<l.length):∃b off,p=some ⟨b,off,none⟩∧n=l.length∧Ob r λw=>w.cell? ⟨b,off+i,none⟩=some (u64 l[i]):=aj6 (V:=u64) h hi
theorem ads{W:Int}{ws:List (BitVec 64)}{w:World}{K:Value→World→Prop}(hr:Holds r w)(hx:RwbC r c (W,ws))
  (h:∀w',Ext w w'→K (.bool (BM.mayB W ws)) w'):zd Tryz.prog Tryz.YU #[.agg c.toArray] w K:=by
 refine Tryz.ahU ?_
 unfold Tryz.adq
 obtain⟨p,cap,rfl,hS⟩:=hx
 have hfew:ws.length≤9223372036854775807:=hS.few
 have S:=St.start hr
 refine S.box λb1 w1 S=>?_
 have S:StX noX w r w1 [.cell b1 [.int .i64 W,.slice p ws.length cap] 48]:=S
 refine gg_ ?_
 refine zm (c:=decide (1032<W)) (λ_ K2 hK2=>by refine gg_ ?_;exact hK2) ?_
 refine zm (c:=decide ((ws.length:Int)≠(W+63)/64)) (λhb K2 hK2=>?_) ?_
 ·simp only[Bool.or_eq_false_iff,decide_eq_false_iff_not]at hb
  refine gg_ ?_
  exact hK2
 refine c_b (λhb=>?_) (λhb=>?_)
 ·rw[BM.mayB_false (λhm=>by
   simp only[Bool.or_eq_true,gdt]at hb
   have:=hm.1;have:=hm.2.1;have:=hm.2.2.1
   omega)]at h
  exact h _ S.ext
 simp only[Bool.or_eq_false_iff,decide_eq_false_iff_not,Decidable.not_not]at hb
 obtain⟨⟨h0,h1⟩,h2⟩:=hb
 have S:=S.go (Ext.drew _)
 refine gg_ ?_
 by_cases h3:W%64=0
 ·rw[gde h3]
  refine zm (c:=true) (λhc=>by cases hc) ?_
  rw[BM.mayB_true (ale (by omega) (by omega) h2 h3)]at h
  exact h _ S.ext
 rw[decide_eq_false h3]
 have hlt:ws.length-1<ws.length:=by omega
 obtain⟨b2,o2,rfl,_,hc⟩:=Jm hS.sl hlt
 have hz:(((ws[ws.length-1] >>> (W%64).toNat).toNat:Int)=0)↔BM.May W ws:=by
  rw[ald (by omega) (by omega) h2 h3 hlt]
  constructor
  ·intro hz;apply BitVec.eq_of_toNat_eq;have h9:(ws[ws.length-1] >>> (W%64).toNat).toNat=0:=by omega
   rw[h9];rfl
  ·intro hz;rw[hz];rfl
 have hE:BM.mayB W ws=decide (((ws[ws.length-1] >>> (W%64).toNat).toNat:Int)=0):=by unfold BM.mayB;simp only[← hz]
 rw[hE]at h
 generalize ws[ws.length-1]=x at hc h
 refine zm (c:=decide (((x >>> (W%64).toNat).toNat:Int)=0)) (λ_ K2 hK2=>?_) ?_
 ·refine gg_ ?_
  refine zf (by rw[show ((ws.length:Int)-1).toNat=ws.length-1 by omega];exact S.at hc) ?_
  refine gg_ ?_
  exact hK2
 exact h _ S.ext
end
end Go.Proofs
namespace Go.Sh
open Go.RowKit Go.MapKept
section
def mpI(P:Program)(t:TypeId):Option (TypeId×TypeId):=match P.underlying t with
 |some (.map k e)=>(match P.underlying k with|some (.int .i64)=>some (k,e)|_=>none)
 |_=>none
theorem ahd{P:Program}{t k e:TypeId}(h:mpI P t=some (k,e)):P.underlying t=some (.map k e)∧P.underlying k=some (.int .i64):=by
 unfold mpI at h
 split at h
 ·rename_i k' e' h1
  split at h
  ·rename_i h2
   cases h;exact⟨h1,h2⟩
  ·cases h
 ·cases h
def ank(m:MapEntry)(x:Int×Value):Prop:=m.key=.int .i64 x.1∧m.val=x.2
inductive EntsI:List MapEntry→List (Int×Value)→Prop
 |nil:EntsI [] []
 |cons {m:MapEntry} {x:Int×Value} {l:List MapEntry} {M:List (Int×Value)}:ank m x→EntsI l M→EntsI (m::l) (x::M)
theorem EntsI.snoc{l:List MapEntry}{M:List (Int×Value)}{m:MapEntry}{x:Int×Value}(h:EntsI l M)(hm:ank m x):EntsI (l++[m]) (M++[x]):=by
 induction h with
 |nil=>exact .cons hm .nil
 |cons h _ ih=>exact .cons h ih
def J1(M:List (Int×Value))(o:Obj):Prop:=∃es c,o=.map es c∧EntsI es.toList M
theorem ae7{x:Int}{kd:IntKind}{l:List MapEntry}{M:List (Int×Value)}(h:EntsI l M):∀{i:Nat},∃o,Instr.findNow (.int kd) (.int .i64 x) l i=some o∧o.map (·.2)=M.lookup x:=by
 induction h with
 |nil=>intro i;exact⟨none,rfl,rfl⟩
 |@cons m y l M hm h ih=>
  intro i
  obtain⟨hk,hv⟩:=hm
  obtain⟨y1,y2⟩:=y
  by_cases hx:x=y1
  ·subst hx
   refine⟨some (i,m.val),?_,?_⟩
   ·rw[Instr.findNow,hk];simp[Instr.sameNow]
   ·rw[List.lookup_cons,show (x == x)=true by simp,hv];rfl
  ·obtain⟨o,h1,h2⟩:=ih (i:=i+1)
   have hb:(x == y1)=false:=by simpa using hx
   refine⟨o,?_,?_⟩
   ·rw[Instr.findNow,hk];simp[Instr.sameNow,hb,h1]
   ·rw[List.lookup_cons,hb,h2]
class ahe(b:Nat)(L:List Asr)(Q:outParam (Obj→Prop))(f:outParam (Asr→List Asr)):Prop where
 h:∃p q,L=p++.obj b Q::q∧∀y,f y=p++y::q
instance {b:Nat} {Q:Obj→Prop} {L:List Asr}:ahe b (.obj b Q::L) Q λy=>y::L:=⟨[],L,rfl,λ_=>rfl⟩
instance (priority:=low) {b:Nat} {Q:Obj→Prop} {x:Asr} {L:List Asr} {f:Asr→List Asr} [h:ahe b L Q f]:ahe b (x::L) Q λy=>x::f y:=⟨by
 obtain⟨p,q,h1,h2⟩:=h.h
 exact⟨x::p,q,by rw[h1];rfl,λc'=>by rw[h2];rfl⟩⟩
section
variable {P:Program} {X:Nat→Prop} {w0 w:World} {r:Gh} {L:List Asr} {t k e:TypeId} {b:Nat} {M:List (Int×Value)} {f:Asr→List Asr}
theorem StX.mkMapI(S:StX X w0 r w L){K:Value→World→Prop}(h:∀b w',StX X w0 r w' (.obj b (J1 [])::L)→K (.map (some b)) w'):opW P w (Instr.makeMap t none) K:=
 S.mkMap λb w' S'=>h b w' ⟨S'.x,S'.holds,λx hx=>by
  rcases List.mem_cons.1 hx with rfl|hx
  ·obtain⟨o,h1,h2,rfl⟩:=S'.has _ List.mem_cons_self
   exact⟨_,h1,h2,_,_,rfl,.nil⟩
  ·exact S'.has x (List.mem_cons_of_mem _ hx),λx hx=>by
  rcases List.mem_cons.1 hx with rfl|hx
  ·exact S'.mine (.obj b (· = .map #[] 0)) List.mem_cons_self
  ·exact S'.mine x (List.mem_cons_of_mem _ hx),by
  have:=S'.apart
  rw[List.pairwise_cons]at this⊢
  exact this⟩
theorem StX.mapAddI(S:StX X w0 r w L){x:Int}{v:Value}[h0:ahe b L (J1 M) f](ht:mpI P t=some (k,e))(hn:M.lookup x=none){K:World→Prop}
  (h:∀w',StX X w0 r w' (f (.obj b (J1 (M++[(x,v)]))))→K w'):opU P w (Instr.mapUpdate t (.map (some b)) (.int .i64 x) v) K:=by
 obtain⟨ht,hk⟩:=ahd ht
 obtain⟨p,q,e1,e2⟩:=h0.h
 obtain⟨o,hb,_,es,c,rfl,hE⟩:=S.has (.obj b (J1 M)) (by rw[e1];simp)
 obtain⟨o,h1,h2⟩:=ae7 (x:=x) (kd:=.i64) hE (i:=0)
 have h3:o=none:=by
  rw[hn]at h2
  cases o with
  |none=>rfl
  |some y=>cases h2
 subst h3
 have hf:=run_findKey (w:=w) hk h1
 refine⟨{ w with heap:=w.heap.setIfInBounds b (.map (es.push { key:=.int .i64 x,val:=v,born:=c }) (c+1)) },?_,h _ ?_⟩
 ·simp[Instr.mapUpdate,run_underlying ht,MapKept.run_getObj_map hb,run_checkKey (w:=w) hk (k:=.int .i64 x) rfl false 9999,hf,MapKept.run_setObj_map _ hb,Result.andThen]
 ·obtain⟨a1,a2⟩:=heap_set hb (o':=.map (es.push { key:=.int .i64 x,val:=v,born:=c }) (c+1))
  rw[e2]
  rw[e1]at S
  exact S.turn (x:=.obj b (J1 M)) (y:=.obj b (J1 (M++[(x,v)]))) ⟨rfl,rfl,rfl,by simp,λk _ hk=>a2 k hk⟩ ⟨_,a1,rfl,_,_,rfl,by rw[Array.toList_push];exact hE.snoc ⟨rfl,rfl⟩⟩ λk hk=>.inl hk
theorem StX.mapGetI(S:StX X w0 r w L){x:Int}{z:Value}[h0:ahe b L (J1 M) f](ht:mpI P t=some (k,e))(hz:zr1 P e=some z){K:Value→Prop}(h:K ((M.lookup x).getD z)):
  opQ P w (Instr.lookup t (.map (some b)) (.int .i64 x) false) K:=by
 obtain⟨ht,hk⟩:=ahd ht
 obtain⟨p,q,e1,e2⟩:=h0.h
 obtain⟨o,hb,_,es,c,rfl,hE⟩:=S.has (.obj b (J1 M)) (by rw[e1];simp)
 obtain⟨o,h1,h2⟩:=ae7 (x:=x) (kd:=.i64) hE (i:=0)
 refine⟨_,λw' ex=>?_,h⟩
 have hb':w'.heap[b]? = some (.map es c):=(ex.block b (Array.getElem?_eq_some_iff.1 hb).1).trans hb
 have hf:=run_findKey (w:=w') hk h1
 rw[← h2]
 cases o with
 |none=>simp [Instr.lookup,run_underlying ht,MapKept.run_getObj_map hb',run_checkKey (w:=w') hk (k:=.int .i64 x) rfl _ 9999,hf,ae3 hz,Result.andThen]
 |some y=>simp [Instr.lookup,run_underlying ht,MapKept.run_getObj_map hb',run_checkKey (w:=w') hk (k:=.int .i64 x) rfl _ 9999,hf,Result.andThen]
end
end
end Go.Sh
namespace Go.Proofs
open Go.Sh Go.RowKit
theorem mpW:mpI Tryz.prog 218=some (3,55):=by kernel_rfl
theorem aen:zr1 Tryz.prog 55=some (.slice none 0 0):=by kernel_rfl
end Go.Proofs
namespace Go.Sh
open Go.RowKit
section
section
variable {P:Program} {X:Nat→Prop} {w0 w w':World} {r:Gh} {L:List Asr}
theorem NC.of_doms(S:StX X w0 r w L)(e:ExtBut (Xb L) w w'):NC w w':=⟨e.size,λb o hb ho=>by
 have hlt:=(Array.getElem?_eq_some_iff.1 hb).1
 by_cases hd:Xb L b
 ·obtain⟨o',h1,h2⟩:=akD S b hd
  rw[hb]at h1;cases h1;rw[ho]at h2;cases h2
 ·rw[e.block b hlt hd];exact hb⟩
end
end
end Go.Sh
namespace Go.Proofs
open Go.Sh Go.RowKit Go.BM
abbrev wcs(ws:List (BitVec 64)):List Value:=ws.map u64
theorem ai8{n:Nat}(hn:n≤1032){X:Nat→Prop}{w0 w:World}{r:Gh}{L:List Asr}{K:Value→World→Prop}(S:StX X w0 r w L)
  (h:∀b w',StX X w0 r w' (.cell b (wcs (List.replicate ((n+63)/64) 0#64)) 205::L)→K (.tuple #[.agg #[.int .i64 n,.slice (some ⟨b,0,none⟩) ((n+63)/64) ((n+63)/64)],.int .i64 0]) w'):zd Tryz.prog Tryz.JE #[.int .i64 n] w K:=by
 refine Tryz.ahT ?_
 unfold Tryz.adp
 refine S.al λb2 w1 S=>?_
 refine gp_ ?_
 refine zm (c:=decide (1032<(n:Int))) (λ_ K2 hK2=>by refine gg_ ?_;exact hK2) ?_
 refine c_f (by simp;omega) ?_
 refine gg_ ?_
 refine S.mkS (by omega) (by omega) λb w2 S=>?_
 rw[show (((n:Int)+63)/64).toNat=(n+63)/64 by omega]at S⊢
 have S:=(show StX X w0 r w2 (.cell b (wcs (List.replicate ((n+63)/64) 0#64)) 205::.cell b2 [.int .i64 0,.slice none 0 0] 48::L)by
  rw[wcs,List.map_replicate];exact S)
 refine zq (cs:=#[.int .i64 n,.slice (some ⟨b,0,none⟩) ((n+63)/64) ((n+63)/64)]) (by kernel_rfl) ?_
 refine S.stB (b:=b2) λw3 S=>?_
 refine S.ceB (b:=b2) ?_ rfl
 exact h _ _ S.d2
abbrev rwL(n b:Nat):List Value:=[.int .i64 n,.slice (some ⟨b,0,none⟩) ((n+63)/64) ((n+63)/64)]
section
variable {K:Value→World→Prop}
abbrev xF:=Int×List (BitVec 64)
theorem adt{f:xF→Bool}{fv v:Value}{w:World}{r:Gh}{l:List xF}{K:Value→World→Prop}(hr:Holds r w)(hl:SlG 2 r (RwbC r) v l)(hb:l.length≤1000000000)
  (hf:∀x∈l,∀(c:List Value)(w:World)(K:Value→World→Prop),Holds r w→RwbC r c x→(∀w',Ext w w'→K (.bool (f x)) w')→zE Tryz.prog fv #[.agg c.toArray] w K)
  (h:∀(i:Int) w',Ext w w'→(0≤i↔l.any f=true)→K (.int .i64 i) w'):zd Tryz.prog Tryz.yJ #[v,fv] w K:=by
 refine Tryz.jF ?_
 unfold Tryz.xJ
 obtain⟨p,cap,rfl,_,_⟩:=hl.shape
 have S:=St.start hr
 refine gP_ ?_
 refine zi (ι:=Nat) (λi=>[.int .i64 i]) (λi w'=>i≤l.length∧(l.take i).any f=false∧StX noX w r w' []) (λi=>l.length-i) 0 rfl ⟨gzl _,by simp,S⟩ ?_
 clear S
 rintro i d w' ⟨hi,hn,S⟩ K6 hK6
 simp only[gdz]
 refine gP_ ?_
 refine zj (λhlt=>?_) (λhge=>?_)
 ·have hlt:i<l.length:=by omega
  obtain⟨b,off,c,rfl,hcl,hcR,hcell⟩:=hl.get (by decide) hlt
  have hcR0:=hcR
  obtain⟨pw,cw,rfl,_⟩:=hcR
  refine gP_ ?_
  refine zo (n:=2) rfl (λj v hj=>by rw[tnc];exact S.at (hcell j v hj)) ?_
  refine hf _ (gem hlt) _ _ _ S.holds hcR0 λw2 e2=>?_
  have S:=S.go e2
  have ht:(l.take (i+1)).any f=((l.take i).any f||f l[i]):=by
   rw[List.take_succ_eq_append_getElem hlt,List.any_append];simp only[List.any_cons,List.any_nil,Bool.or_false]
  refine c_b (λhy=>?_) (λhno=>?_)
  ·exact h _ _ S.ext ⟨λ_=>List.any_eq_true.2 ⟨l[i],gem hlt,hy⟩,λ_=>Int.natCast_nonneg _⟩
  ·refine gP_ ?_
   refine hK6 (i+1) _ ⟨hlt,?_,S⟩ (by omega)
   rw[ht,hn,hno];rfl
 ·have :i=l.length:=by omega
  subst this
  rw[List.take_length]at hn
  exact h _ _ S.ext ⟨λh=>by omega,λh=>by rw[hn]at h;cases h⟩
theorem aas{f:xF→Bool}{fv v:Value}{w:World}{r:Gh}{l:List xF}{K:Value→World→Prop}(hr:Holds r w)(hl:SlG 2 r (RwbC r) v l)(hb:l.length≤1000000000)
  (hf:∀x∈l,∀(c:List Value)(w:World)(K:Value→World→Prop),Holds r w→RwbC r c x→(∀w',Ext w w'→K (.bool (f x)) w')→zE Tryz.prog fv #[.agg c.toArray] w K)
  (h:∀w',Ext w w'→K (.bool (l.any f)) w'):zd Tryz.prog Tryz.yv #[v,fv] w K:=by
 refine Tryz.qS ?_
 unfold Tryz.xr
 refine adt hr hl hb hf λi w' e hi=>?_
 refine gP_ ?_
 have e2:decide (i≥0)=l.any f:=by
  by_cases hh:l.any f=true
  ·rw[hh];exact gde (hi.2 hh)
  ·rw[Bool.eq_false_iff.2 hh];exact decide_eq_false λh=>hh (hi.1 h)
 rw[e2];exact h _ e
def cls(b:Nat→Nat→Bool)(n k:Nat):Option (Nat×Nat):=(List.range n).findSome? λx=>(List.range k).findSome? λq=>if b x q=true then some (x,q)else none
theorem aio{α:Type}{f:Nat→Option α}:∀{n x:Nat}{a:α},x<n→(∀y<x,f y=none)→f x=some a→(List.range n).findSome? f=some a
 |n,x,a,hx,hb,hf=>by
  have e:List.range n=List.range x++(x::List.range' (x+1) (n-x-1)):=by
   rw[← List.range'_succ,List.range_eq_range',List.range_eq_range',show n-x-1+1=n-x by omega]
   have:=List.range'_append_1 (s:=0) (m:=x) (n:=n-x)
   rw[Nat.zero_add]at this
   rw[this];congr 1;omega
  rw[e,List.findSome?_append,List.findSome?_eq_none_iff.2 λy hy=>hb y (List.mem_range.1 hy),List.findSome?_cons,hf]
  rfl
theorem aj7{b:Nat→Nat→Bool}{n k x q:Nat}(hx:x<n)(hq:q<k)(h1:∀y<x,∀p<k,b y p=false)(h2:∀p<q,b x p=false)(h:b x q=true):cls b n k=some (x,q):=
 aio hx (λy hy=>List.findSome?_eq_none_iff.2 λp hp=>by rw[h1 y hy p (List.mem_range.1 hp)];rfl) (aio hq (λp hp=>by rw[h2 p hp];rfl) (by rw[h];rfl))
theorem amo{b:Nat→Nat→Bool}{n k:Nat}(h:∀y<n,∀p<k,b y p=false):cls b n k=none:=
 List.findSome?_eq_none_iff.2 λy hy=>List.findSome?_eq_none_iff.2 λp hp=>by rw[h y (List.mem_range.1 hy) p (List.mem_range.1 hp)];rfl
end
end Go.Proofs
namespace Go.Proofs.Tryz
open Go.Sh
section
variable {t0:Value} {w:World} {K:VW}
def adu(t0:Value)(w:World)(K:VW):Prop:=
 pw w (Instr.box 48 t0) λt1 w1=>
 pw w1 (Instr.alloc 48 true (.tuple #[])) λt2 w2=>
 lo w2 48 t1 λt4=>ca YU #[t4] w2 λt5 w3=>
 pp (Op.unary .not t5) λt6=>zc t6 (pp (Instr.build 48 #[]) λt7=>so w3 48 t2 t7 λw4=>pq w4 (zh 48 t2) λr5=>K (.tuple #[r5,(i6 2)]) w4) (fl w3.drew t1 48 0 3 λt9=>fl w3.drew t1 48 1 46 λt11=>ca xn #[t11] w3.drew λt12 w6=>
 Ext w3.drew w6∧
 pp (Instr.build 48 #[(0,t9),(1,t12)]) λt13=>so w6 48 t2 t13 λw7=>pq w7 (zh 48 t2) λr8=>K (.tuple #[r8,(i6 0)]) w7)
theorem ahW(h:adu t0 w K):zd prog JG #[t0] w K:=
 okC false (.s (.r (rz 3 0 10)) (.s (.s (.r (rz 3 0 9)) (.c (.s (.r (rz 3 0 8)) (.n)) (.n))) (.s (.r (rz 8 0 9028)) (.n)))) func158 rfl (by kernel_rfl) (by kernel_rfl) h
def abu(t0:Value)(w:World)(K:VW):Prop:=
 pw w (Instr.box 48 t0) λt1 w1=>
 lo w1 48 t1 λt5=>ca JG #[t5] w1 λt6 w2=>
 pe t6 0 λt7=>pe t6 1 λt8=>pw w2 (Instr.alloc 29 true (.tuple #[])) λt3 w3=>
 so w3 48 t1 t7 λw4=>so w4 29 t3 t8 λw5=>pp (Instr.makeFunc (.func 159) #[] #[t3,t1]) λt9=>K t9 w5
theorem ahf(h:abu t0 w K):zd prog Qy #[t0] w K:=
 okC false (.s (.r (rz 2 0 2)) (.s (.r (rz 8 0 43017)) (.s (.r (rz 2 0 0)) (.n)))) func103 rfl (by kernel_rfl) (by kernel_rfl) h
def YC(t0 t1 t2:Value)(w:World)(K:VW):Prop:=
 lo w 29 t1 λt6=>bt .neq 29 t6 (i6 0) λt7=>zc t7 (K (.tuple #[]) w) (fl w t2 48 1 46 λt9=>pp (Builtin.len_ #[46] 3 #[t9]) λt10=>zp [(i6 0)] w (λs2 _d3 w4 K1=>
 bf .lss 3 (s2.getD 0 u_) t10 λt12=>zc t12 (xl w4 46 t9 (s2.getD 0 u_) 205 λt15=>zp [t15] w4 (λs6 _d7 w8 K5=>
 bt .neq 205 (s6.getD 0 u_) (Value.int .u64 0) λt17=>zc t17 (bt .mul 3 (i6 64) (s2.getD 0 u_) λt24=>ca xv #[(s6.getD 0 u_)] w8 λt26 w9=>
 bf .add 3 t24 t26 λt27=>cv t0 #[t27] w9 λt28 w10=>
 pp (Op.unary .not t28) λt29=>zc t29 (K (.tuple #[]) w10) (bt .sub 205 (s6.getD 0 u_) (Value.int .u64 1) λt20=>bf .and 205 (s6.getD 0 u_) t20 λt21=>K5 [t21] w10)) (bt .add 3 (s2.getD 0 u_) (i6 1) λt30=>K1 [t30] w8))) (K (.tuple #[]) w4)))
theorem Jn{t1 t2:Value}(h:YC t0 t1 t2 w K):zd prog Vb #[t0,t1,t2] w K:=
 okC false (.s (.s (.r (rz 2 0 1)) (.c (.n) (.n))) (.s (.r (rz 4 0 4)) (.b (.lp [11] (.s (.r (rz 1 0 0)) (.s (.c (.n) (.n)) (.s (.b (.s (.r (rz 5 0 16)) (.b (.lp [5] (.s (.s (.r (rz 2 0 0)) (.c (.n) (.n))) (.s (.b (.s (.r (rz 8 0 8704)) (.c (.n) (.n)))) (.r (rz 5 0 0)))))))) (.r (rz 2 0 0))))))))) func159 rfl (by kernel_rfl) (by kernel_rfl) h
def kN(t0:Value)(w:World)(K:VW):Prop:=
 bt .eql 46 t0 (Value.slice Option.none 0 0) λt4=>zc t4 (K (Value.slice Option.none 0 0) w) (pw w (Instr.buildSlice 46 0 #[]) λt5 w1=>
 pw w1 (Builtin.append_ #[46,46] 46 #[t5,t0]) λt7 w2=>
 K t7 w2)
theorem Zx(h:kN t0 w K):zd prog xn #[t0] w K:=
 okC false (.s (.r (rz 1 0 0)) (.s (.s (.r (rz 2 0 0)) (.c (.s (.r (rz 1 0 0)) (.n)) (.n))) (.s (.r (rz 4 0 34)) (.n)))) func201 rfl (by kernel_rfl) (by kernel_rfl) h
def kU(t0:Value)(w:World)(K:VW):Prop:=
 bt .eql 205 t0 (Value.int .u64 0) λt4=>zc t4 (K (i6 64) w) (pp (Op.unary .neg t0) λt7=>bf .and 205 t0 t7 λt8=>bt .mul 205 t8 (Value.int .u64 285870213051353865) λt9=>bt .shr 205 t9 (Value.int .u64 58) λt10=>xl w 275 (Value.pointer (some ⟨0,0,none⟩)) t10 5 λt12=>pp (convert 5 3 t12) λt13=>K t13 w)
theorem ZW(h:kU t0 w K):zd prog xv #[t0] w K:=
 okC false (.s (.r (rz 1 0 0)) (.s (.s (.r (rz 2 0 0)) (.c (.s (.r (rz 1 0 0)) (.n)) (.n))) (.s (.r (rz 10 0 16384)) (.n)))) func160 rfl (by kernel_rfl) (by kernel_rfl) h
end
end Go.Proofs.Tryz
namespace Go.Proofs
open Go.Sh Go.RowKit Go.BM
section
variable {ws:List (BitVec 64)} {r:Gh} {w:World} {K:Value→World→Prop} {c:List Value} {W:Int} {p:Option Addr} {cap:Nat}
theorem aj8(h:BM.mayB W ws=true):BM.May W ws:=Classical.byContradiction λhn=>by rw[BM.mayB_false hn]at h;cases h
theorem aeo:(wcs ws).length=ws.length:=List.length_map _
theorem alk(ws:List (BitVec 64)):∀u∈wcs ws,u.oneCell'=true:=λu hu=>by
 obtain⟨x,_,rfl⟩:=List.mem_map.1 hu;rfl
theorem vU:RowOf 1 WdC (wcs ws) ws:=⟨by rw[aeo,Nat.mul_one],λj hj=>by
 rw[Nat.mul_one,wcs,← List.map_drop,← List.map_take,List.drop_eq_getElem_cons hj];rfl⟩
theorem aj9{n:Nat}(h:SlG 1 r WdC (.slice p n cap) ws):Ob r λw=>Sl w p (wcs ws):=λw hw i v hi=>by
 have hlt:i<ws.length:=by
  have:=(List.getElem?_eq_some_iff.1 hi).1
  rwa[aeo]at this
 obtain⟨b,off,hp,_,hc⟩:=Jm h hlt
 have hv:v=u64 ws[i]:=by
  rw[wcs,List.getElem?_map,gqg hlt]at hi
  exact(Option.some.inj hi).symm
 subst hv
 exact⟨b,off,hp,hc w hw⟩
theorem ahX{K:Value→World→Prop}(hr:Holds r w)(hl:SlB 1 r WdC (.slice p ws.length cap) ws)(hb:ws.length≤1000000)
  (h:∀v' w',Ext w w'→w'.ownsRow w.heap.size 205 1 v' ws.length (wcs ws)→K v' w'):zd Tryz.prog Tryz.xn #[.slice p ws.length cap] w K:=by
 refine Tryz.Zx ?_
 unfold Tryz.kN
 have S:=St.start hr
 obtain⟨_,_,hE,hp,_⟩:=hl.sl.shape
 cases hE
 refine Jz (e:=205) (n:=1) (by kernel_rfl) ?_
 refine c_b (λhn=>?_) (λhn=>?_)
 ·have hws:ws=[]:=by
   cases ws with
   |nil=>rfl
   |cons a l=>
    obtain⟨b,off,hb,_⟩:=(S.at (aj9 hl.sl)) 0 (u64 a) rfl
    rw[hb]at hn;cases hn
  subst hws
  have S:=S.ownNil 205 1
  exact h _ _ S.ext (S.give (.slice none 0 0))
 refine S.lit (e:=205) (cs:=[]) (by kernel_rfl) λb w1 S=>?_
 have S:=S.toRow 0 1 rfl (by decide)
 refine S.ap (v:=.slice (some ⟨b,0,none⟩) 0 0) (S.at (aj9 hl.sl)) (λv2 w2 S=>?_) (by omega) (by rw[aeo,Nat.mul_one]) hp (alk _)
 rw[Nat.zero_add,List.nil_append]at S
 exact h _ _ S.ext (S.give v2)
abbrev aob:Value:=.agg #[.int .i64 0,.slice none 0 0]
theorem ai9{x:xF}{K:Value→World→Prop}(hr:Holds r w)(hx:RwbC r c x)
  (h1:BM.mayB x.1 x.2=false→∀w',Ext w w'→K (.tuple #[aob,.int .i64 2]) w')
  (h2:BM.mayB x.1 x.2=true→∀v' w',Ext w w'→w'.ownsRow w.heap.size 205 1 v' x.2.length (wcs x.2)→K (.tuple #[.agg #[.int .i64 x.1,v'],.int .i64 0]) w'):zd Tryz.prog Tryz.JG #[.agg c.toArray] w K:=by
 refine Tryz.ahW ?_
 unfold Tryz.adu
 have hx0:=hx
 obtain⟨W,ws⟩:=x
 simp only at h1 h2
 obtain⟨p,cap,rfl,hS⟩:=hx
 have S:=St.start hr
 refine S.box λb1 w1 S=>?_
 refine S.al λb2 w2 S=>?_
 have S:StX noX w r w2 [.cell b2 [.int .i64 0,.slice none 0 0] 48,.cell b1 [.int .i64 W,.slice p ws.length cap] 48]:=S
 refine S.ldB (b:=b1) ?_ rfl
 refine ads S.holds hx0 λw3 e3=>?_
 have S:=S.go e3
 refine gp_ ?_
 refine c_b (λhm=>?_) (λhm=>?_)
 ·refine zq (cs:=#[.int .i64 0,.slice none 0 0]) (by kernel_rfl) ?_
  refine S.stB (b:=b2) λw4 S=>?_
  refine S.ceB (b:=b2) ?_ rfl
  exact h1 (by simpa using hm) _ S.ext
 have hm:BM.mayB W ws=true:=by simpa using hm
 have hM:BM.May W ws:=aj8 hm
 have hl:ws.length≤1000000:=by have:=hM.2.1;have:=hM.2.2.1;omega
 have S:=S.go (Ext.drew _)
 refine gg_ ?_
 refine ahX S.holds hS hl λv4 w4 e4 h4=>⟨e4,?_⟩
 have S:=S.take e4 h4
 obtain⟨p4,cap4,rfl,_⟩:=S.rowS v4
 refine zq (cs:=#[.int .i64 W,.slice p4 ws.length cap4]) (by kernel_rfl) ?_
 refine S.stB (b:=b2) λw5 S=>?_
 refine S.ceB (b:=b2) ?_ rfl
 exact h2 hm _ _ S.ext (S.give (.slice p4 ws.length cap4))
def Tab(w:World):Prop:=∀j,j<64→w.cell? ⟨0,j,none⟩=some (.int .u8 (Lib.deBruijn64tab.getD j 0:Nat))
def TabG(r:Gh):Prop:=Ob r Tab∧∃o,r 0 o
theorem TabG.up{s:Gh}(h:TabG r)[le:Le r s]:TabG s:=⟨h.1.up,h.2.imp λo=>le.le 0 o⟩
theorem aa5{x:BitVec 64}{t:Nat}(hT:Tab w)(hx:x≠0#64)(ht:t<64)(ha:(x &&& -x).toNat=2 ^ t)(h:K (.int .i64 t) w):
  zd Tryz.prog Tryz.xv #[u64 x] w K:=by
 refine Tryz.ZW ?_
 unfold Tryz.kU
 refine alF ?_
 refine zj (λh0=>absurd (BitVec.eq_of_toNat_eq (by have :(0#64).toNat=0:=rfl;omega)) hx) (λh0=>?_)
 refine al0 (adI ?_)
 rw[age]
 refine amT 285870213051353865 rfl ?_
 refine amS 58 rfl ?_
 have hta:=alf ht ha
 generalize ((x &&& -x)*BitVec.ofNat 64 285870213051353865) >>> 58=z at hta⊢
 refine agk (l:=64) (e:=5) (n:=1) (by kernel_rfl) (by omega) (by omega) ?_
 have hc:=hT _ hta.1
 rw[hta.2]at hc
 refine zf (v:=.int .u8 (t:Int)) (by rw[show 0+Int.toNat (z.toNat:Int)*1=z.toNat by omega];exact hc) ?_
 refine al1 (k1:=.u8) (by kernel_rfl) (by kernel_rfl) (by omega) h
abbrev acd(k:Nat):List Value:=[.int .i64 (k:Int)]
noncomputable def Z5(W:Int)(ws:List (BitVec 64)):List Nat:=if BM.mayB W ws then XN ws else []
theorem ae8(h:BM.May W ws):Z5 W ws=XN ws:=by simp[Z5,BM.mayB_true h]
theorem aka(h:BM.mayB W ws=false):Z5 W ws=[]:=by simp[Z5,h]
theorem alm{α:Type}{l:List α}{k:Nat}{x:α}{r:List α}(h:l.drop k=x::r):l[k]? = some x∧l.drop (k+1)=r:=by
 constructor
 ·have :(l.drop k)[0]? = some x:=by rw[h];rfl
  rwa[List.getElem?_drop,Nat.add_zero]at this
 ·rw[← List.drop_drop,h];rfl
theorem StX.frzNew{w0:World}{L M:List Asr}{T:TypeId}(S:StX noX w0 r w L)(b:Nat)[h:ZO b L c T M]:StX noX w0 (r.or (Go.Sh.one b c T)) w M∧Above w0 (Go.Sh.one b c T):=
 ⟨S.frzAt b,λk o ho=>by
  obtain⟨rfl,_⟩:=ho
  exact((S.permO h.h.symm).mine _ List.mem_cons_self k rfl).1.resolve_right id⟩
theorem xK{q:Gh}{b i:Nat}{T:TypeId}{v:Value}[Le (Go.Sh.one b c T) q](h:c[i]? = some v):Ob q λw=>w.cell? ⟨b,i,none⟩=some v:=λw hw=>by
 have B:Blk w b c T:=xc w (hw.le (h:=inferInstance))
 show w.cell? ⟨b,i,none⟩=some v
 rw[B.cell];exact h
theorem akb{q:Gh}{b1 b3:Nat}{D0:Nat→Prop}{w2:World}(B3:Ob q λw=>w.cell? ⟨b3,0,none⟩=some (.int .i64 0))(B1:Ob q λw=>w.cell? ⟨b1,1,none⟩=some (.slice p ws.length cap))
  (hw:SlG 1 q WdC (.slice p ws.length cap) ws) (hl:ws.length≤100000) (hT:TabG q) (hD:∀b,D0 b→∀o,¬q b o) (h2:Holds q w2):
  afW Tryz.prog (.func (.func Tryz.Vb) #[] #[.pointer (some ⟨b3,0,none⟩),.pointer (some ⟨b1,0,none⟩)]) w2 ((XN ws).map acd) D0:=by
 refine⟨_,_,rfl,by kernel_rfl,λl W J Jx hW hlw hlt hJ hJx hround hJ0=>?_⟩
 generalize hxs:(XN ws).map acd=xs at hround
 refine Calls.mono (Tryz.Jn (t0:=.func (.yield l) #[] #[]) (t1:=.pointer (some ⟨b3,0,none⟩)) (t2:=.pointer (some ⟨b1,0,none⟩)) (K:=λ_ W'=>(∃D,J xs.length D W')∨Jx W') ?_) (λe W' hh=>by obtain⟨v,he,hk⟩:=hh;exact⟨⟨v,he⟩,hk⟩)
 unfold Tryz.YC
 have hq:=h2.ext hW
 refine zf (B3 _ hq) ?_
 refine gp_ ?_
 refine c_f rfl ?_
 refine gg_ ?_
 refine zf (B1 _ hq) ?_
 refine gg_ ?_
 refine zi (ι:=Nat) (λi=>[.int .i64 i])
  (λi w'=>i≤ws.length∧Holds q w'∧∃k D,xs.drop k=(jk i (ws.drop i)).map acd∧k≤xs.length∧J k D w'∧∀b,D b→∀o,¬q b o)
  (λi=>ws.length-i) 0 rfl ⟨gzl _,hq,0,D0,by rw[← hxs];rfl,gzl _,hJ0,hD⟩ ?_
 rintro i d w7 ⟨hi,hq7,k,D,hdrop,hkl,hJk,hDk⟩ K8 hK8
 simp only[gdz]
 refine gp_ ?_
 refine zj (λhlt=>?_) (λhge=>?_)
 ·have hlt:i<ws.length:=by omega
  obtain⟨bw,ow,hpw,_,hcw⟩:=Jm hw hlt
  subst hpw
  refine gg_ ?_
  refine zf (by rw[tnc];exact hcw _ hq7) ?_
  rw[afI hlt,List.map_append,List.map_map]at hdrop
  refine zi (ι:=BitVec 64) (λx=>[u64 x])
   (λx w'=>Holds q w'∧∃k D,xs.drop k=(Y4 x).map (acd ∘ (64*i + ·))++(jk (i+1) (ws.drop (i+1))).map acd∧k≤xs.length∧J k D w'∧∀b,D b→∀o,¬q b o)
   (λx=>(Y4 x).length) ws[i] rfl ⟨hq7,k,D,hdrop,hkl,hJk,hDk⟩ ?_
  clear hdrop hkl hJk hDk hq7 k D
  rintro x d w8 ⟨hq8,k,D,hdrop,hkl,hJk,hDk⟩ K9 hK9
  simp only[gdz]
  refine aiD ?_
  refine zj (λhx=>?_) (λhx=>?_)
  ·have hx:x≠0#64:=by rintro rfl;exact hx rfl
   obtain⟨t,ht,hlow,hwb⟩:=aml hx
   refine gp_ ?_
   refine aa5 (hT.1 _ hq8) hx ht hlow ?_
   refine gp_ ?_
   refine alY ?_
   rw[hwb,List.map_cons,List.cons_append]at hdrop
   have hd:=alm hdrop
   have hkk:k<xs.length:=(List.getElem?_eq_some_iff.1 hd.1).1
   refine YieldC.mono (hround k _ D w8 hd.1 hJk) ?_
   rintro e w9 ⟨bb,rfl,x9,hJb⟩
   refine⟨_,rfl,?_⟩
   refine gp_ ?_
   refine c_b (λhbb=>?_) (λhbb=>?_)
   ·have hbb:bb=false:=by simpa using hbb
    subst hbb
    exact .inr hJb
   ·have hbb:bb=true:=by simpa using hbb
    subst hbb
    obtain⟨D2,hD2,hJ2⟩:=hJb
    refine gp_ ?_
    refine adI ?_
    rw[age]
    refine hK9 _ _ ⟨hq8.but x9 ?_,k+1,D2,hd.2,hkk,hJ2,?_⟩ (by rw[hwb];exact Nat.lt_succ_self _)
    ·rintro b o hb (hn|rfl)
     ·exact hDk b hn o hb
     ·have:=h2.lt hb;omega
    ·intro b hb o ho
     rcases hD2 b hb with h|⟨h,_⟩
     ·exact hDk b h o ho
     ·have:=hq8.lt ho;omega
  ·have hx:x=0#64:=BitVec.eq_of_toNat_eq (by have :(0#64).toNat=0:=rfl;omega)
   subst hx
   refine gg_ ?_
   rw[ai6,List.map_nil,List.nil_append]at hdrop
   exact hK8 (i+1) w8 ⟨hlt,hq8,k,D,hdrop,hkl,hJk,hDk⟩ (by omega)
 ·have hi':i=ws.length:=by omega
  subst hi'
  rw[List.drop_length]at hdrop
  have :k=xs.length:=by
   have h1:(xs.drop k).length=0:=by rw[hdrop];rfl
   rw[List.length_drop]at h1;omega
  subst this
  exact .inl ⟨D,hJk⟩
theorem ahY{x:xF}{K:Value→World→Prop}(hr:Holds r w)(hx:RwbC r c x)(hT:TabG r)
  (h:∀g s w',Ext w w'→New w s w'→jP s→(∀(D:Nat→Prop)(w2:World),(∀b,D b→∀o,¬(r.or s) b o)→Holds (r.or s) w2→afW Tryz.prog g w2 ((Z5 x.1 x.2).map acd) D)→K g w'):zd Tryz.prog Tryz.Qy #[.agg c.toArray] w K:=by
 refine Tryz.ahf ?_
 unfold Tryz.abu
 have hx0:=hx
 obtain⟨W,ws⟩:=x
 simp only at h
 obtain⟨p,cap,rfl,hS⟩:=hx
 have S:=St.start hr
 refine S.box λb1 w1 S=>?_
 have S:StX noX w r w1 [.cell b1 [.int .i64 W,.slice p ws.length cap] 48]:=S
 refine S.ldB (b:=b1) ?_ rfl
 refine ai9 S.holds hx0 (λhm w2 e2=>?_) (λhm v2 w2 e2 h2=>?_)
 ·have S:=S.go e2
  refine gS_ ?_
  refine S.al λb3 w3 S=>?_
  refine S.stB (b:=b1) λw4 S=>?_
  refine S.st (b:=b3) λw5 S=>?_
  refine gp_ ?_
  have S:StX noX w r w5 [.cell b3 [.int .i64 2] 29,.cell b1 [.int .i64 0,.slice none 0 0] 48]:=S
  obtain⟨S,a3⟩:=StX.frzNew S b3
  rw[aka hm]at h
  refine h _ _ _ S.ext (S.newOf a3) inferInstance λD w6 hD h6=>⟨_,_,rfl,by kernel_rfl,λl W1 J Jx hW hl hlt hJ hJx hround hJ0=>?_⟩
  refine Calls.mono (Tryz.Jn (t0:=.func (.yield l) #[] #[]) (t1:=.pointer (some ⟨b3,0,none⟩)) (t2:=.pointer (some ⟨b1,0,none⟩)) (K:=λ_ W'=>(∃D,J 0 D W')∨Jx W') ?_) (λe W' hh=>by obtain⟨v,he,hk⟩:=hh;exact⟨⟨v,he⟩,hk⟩)
  unfold Tryz.YC
  refine zf (xK (q:=r.or (Go.Sh.one b3 [.int .i64 2] 29)) (c:=[.int .i64 2]) (T:=29) (v:=.int .i64 2) rfl _ (h6.ext hW)) ?_
  refine gp_ ?_
  exact c_t rfl (.inl ⟨D,hJ0⟩)
 ·have S:=S.take e2 h2
  simp only at S
  have hM:BM.May W ws:=aj8 hm
  have hl:ws.length≤100000:=by have:=hM.2.1;have:=hM.2.2.1;omega
  obtain⟨p2,cap2,rfl,_⟩:=S.rowS v2
  refine gS_ ?_
  refine S.al λb3 w3 S=>?_
  refine S.stB (b:=b1) λw4 S=>?_
  refine S.st (b:=b3) λw5 S=>?_
  refine gp_ ?_
  have S:StX noX w r w5 [.cell b3 [.int .i64 0] 29,.row (.slice p2 ws.length cap2) 205 1 ws.length (wcs ws),.cell b1 [.int .i64 W,.slice p2 ws.length cap2] 48]:=S
  obtain⟨S,a3⟩:=StX.frzNew S b3
  obtain⟨s2,S,hw,hnb,a2⟩:=S.doneRow (l:=ws) vU (by decide) rfl
  obtain⟨S,a1⟩:=StX.frzNew S b1
  have a2:Above w s2:=λb o ho=>(a2 b o ho).resolve_right id
  have nb2:jP s2:=⟨λb o ho=>by obtain⟨c,rfl⟩:=hnb b o ho;rfl⟩
  have S:StX noX w (r.or (((Go.Sh.one b3 [.int .i64 0] 29).or s2).or (Go.Sh.one b1 [.int .i64 W,.slice p2 ws.length cap2] 48))) w5 []:=S.less (by
   rintro b o (h|(h|h)|h)
   ·exact .inl (.inl (.inl h))
   ·exact .inl (.inl (.inr h))
   ·exact .inl (.inr h)
   ·exact .inr h) (List.Sublist.refl _)
  rw[ae8 hM]at h
  refine h _ _ _ S.ext (S.newOf ((a3.or' a2).or' a1)) inferInstance λD w6 hD h6=>?_
  exact akb (xK (c:=[.int .i64 0]) (T:=29) rfl) (xK (c:=[.int .i64 W,.slice p2 ws.length cap2]) (T:=48) rfl) hw.cells hl hT.up hD h6
theorem ace{P:Program}{s:Sem Value}(h:opQ P w s λv=>K v w):opW P w s λv w'=>NC w w'∧K v w':=w_q (by
 obtain⟨v,h1,h2⟩:=h
 exact⟨v,h1,NC.of_ext (Ext.refl w),h2⟩)
end
end Go.Proofs
namespace Go.Proofs
open Go.Sh Go.RowKit
section
section
variable {σ:Type} {X:Nat→Prop} {w0:World} {r:Gh} {fv:Value} {Lc:σ→List Asr} {J:σ→List CnD→Prop} {ss:List StD} {tys:List TyD} {rgs:List Int} {b5 b6 b9 b10:Nat}
def Two(t u:TyD):Prop:=isB t=true∧isB u=true∧bare t=bare u
end
noncomputable abbrev tyD(u:UnD)(g:GrD)(p:PlD):TyD:=jj u.ss (allD u g).tys p
theorem amp{ss:List StD}{tys:List TyD}{o:OpD}(h:(zs ss tys o).2=true)(hp:aca o=true):(zk ss tys o.pl).2.2=true∧(zs ss tys o).1=(zk ss tys o.pl).1:=by
 rw[aca,Bool.or_eq_true,gdt,gdt]at hp
 rw[zs]at h⊢
 rcases hp with hk|hk
 ·rw[if_neg (by omega),if_neg (by omega),if_pos hk]at h⊢
  simp only[gba]at h
  exact⟨h.1.1,rfl⟩
 ·rw[if_neg (by omega),if_neg (by omega),if_neg (by omega),if_pos hk]at h⊢
  simp only[gba]at h
  exact⟨h.1.1.1,rfl⟩
structure aln(u:UnD)(g:GrD)(p:PlD):Prop where
 l0:0≤p.l
 l1:p.l.toNat<(allD u g).tys.length
 is:isB (tyD u g p)=true
 bare:bare (tyD u g p)=bare (zk u.ss g.tys p).1
 all:yG u.ss (allD u g).tys p=(tyD u g p,0)
section
variable {u:UnD} {g:GrD} {fn:Nat} {p:PtD}
theorem aja(hM:MayU u)(hH:HeadU u fn g){p:PlD}(ho:(zk u.ss g.tys p).2.2=true):aln u g p:=by
 obtain⟨h2,_,h3,h4⟩:=anj (n:=0) hM hH ho
 have hl:=alh ho
 exact⟨hl.1,by rw[(ZT).1];omega,h3,h4,h2⟩
theorem amq(hM:MayU u)(hH:HeadU u fn g){p:PlD}(ho:(zk u.ss g.tys p).2.2=true):isB (zk u.ss g.tys p).1=true:=
 (kS (hH.fine hM.ok) ho).is (hH.fine hM.ok).few
theorem akc{a:Int}(hM:MayU u)(hH:HeadU u fn g)(hp:zI u g p=true)(hop:p.op=4)(ha: -1≤a):aln u g p.to∧aln u g p.fr∧(zk u.ss g.tys p.fr).2.2=true∧Two (.mk 4 p.mu a 0 [tyD u g p.fr]) (tyD u g p.to):=by
 have h2:=ZU hp
 rw[ptG]at h2
 simp only[hop,Int.reduceEq,if_false,if_true,gba,gdt,isK]at h2
 obtain⟨⟨⟨⟨⟨_,hto,_⟩,hfr⟩,hk⟩,hm⟩,hal,_⟩:=h2
 have h:=aja hM hH hto
 have hf:=aja hM hH hfr
 refine⟨h,hf,hfr,?_⟩
 have hs:=amq hM hH hto
 obtain⟨k1,k2,k3⟩:=ae5 h.bare
 rcases aj1 (n:=47) h.is hs h.bare with⟨h1,h3,h4⟩|⟨x,y,h1,h3,h4,h5,h6⟩
 ·omega
 ·rw[h3]at hal
  have hal:=(ahL hal).2.2
  have hb:bare (tyD u g p.to)=bare (.mk 4 p.mu a 0 [tyD u g p.fr]):=by
   refine aed (u:=x) (x:=tyD u g p.fr) (by rw[k1];exact hk) (by rw[k2];exact hm) ?_ (λh=>absurd (by rw[k1];exact hk) h) h1 rfl (by rw[h6,hf.bare];exact hal)
   show(tyD u g p.to).st=0
   have:=h.is
   rw[isB,yu,if_neg (by omega),if_neg (by omega),if_neg (by omega),if_pos (by omega)]at this
   simp only[gba,gdt]at this
   omega
  refine⟨ajW 48 h.is hb (λh=>absurd rfl h) (λz hz=>?_) (λ_=>ha),h.is,hb.symm⟩
  cases hz;exact⟨48,hf.is⟩
end
section
variable {σ:Type} {X:Nat→Prop} {w0:World} {r ρ:Gh} {fv:Value} {Lc:σ→List Asr} {J:σ→List CnD→Prop} {u:UnD} {g:GrD} {q a:Int} {b5 b6 b8 b9 b10:Nat}
theorem akd{P:Program}{t e:TypeId}{n:Nat}{p:Option Addr}{len cap:Nat}{kd:IntKind}{i:Int}{K:Value→Prop}(h:slT P t=some (e,n))(h0:0≤i)(h1:i≤cap)
  (k:K (.slice p i.toNat i.toNat)):opP P (Instr.sliceAt t (.slice p len cap) none (some (.int kd i)) (some (.int kd i))) K:=by
 refine yd (λw=>?_) k
 unfold slT at h
 cases hu:P.underlying t with
 |none=>rw [hu]at h;cases h
 |some d=>
  rw[hu]at h
  cases d<;>first|cases h|skip
  rename_i e'
  simp only[Option.map_eq_some_iff,Prod.mk.injEq]at h
  obtain⟨m,hs,rfl,rfl⟩:=h
  cases p with
  |none=>simp [Instr.sliceAt,Instr.slice,Instr.sliceBounds,Instr.sliceBound,asIntOf,Sem.run_bind,zA hu,Result.andThen,Sem.run,pure,h0,h1,Int.max_eq_left h0,z8 hs]
  |some a=>simp [Instr.sliceAt,Instr.slice,Instr.sliceBounds,Instr.sliceBound,asIntOf,Sem.run_bind,zA hu,Result.andThen,Sem.run,pure,h0,h1,Int.max_eq_left h0,z8 hs,Addr.add]
theorem alo{ρ:Gh}{q1:Option Addr}{c1 n:Nat}{ps:List Int}(h:SlB 1 ρ xE (.slice q1 ps.length c1) ps)(hn:n≤ps.length):SlB 1 ρ xE (.slice q1 n n) (ps.take n):=by
 obtain⟨⟨p',cap',hE,h2,h3,h4⟩,h5⟩:=h
 cases hE
 have hl:(ps.take n).length=n:=by rw[List.length_take];omega
 refine⟨⟨q1,n,by rw[hl],λe=>?_,by omega,λi hi=>?_⟩,by omega⟩
 ·have:=h2 e;omega
 ·obtain⟨c,k1,k2,k3⟩:=h4 i (by omega)
  exact⟨c,k1,k2,by rw[List.getElem_take];exact k3⟩
end
end
end Go.Proofs
