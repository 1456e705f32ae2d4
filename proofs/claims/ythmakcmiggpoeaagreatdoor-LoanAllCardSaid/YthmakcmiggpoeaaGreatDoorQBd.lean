/-
  Contracts and plain laws that the last text leans on.
-/
import Derived.Test.YthmakcmiggpoeaaGreatDoorQBc
import Derived.Test.YthmakcmiggpoeaaGreatDoorQBb
import Derived.MapKept
import Derived.Test.YthmakcmiggpoeaaGreatDoorQBa
set_option maxRecDepth 100000
set_option maxHeartbeats 8000000
set_option linter.unusedVariables false
set_option linter.unusedSimpArgs false
namespace Go.Proofs
open Go.Sh
section
variable {r:Gh} {w:World} {K:Value→World→Prop} {c:List Value}
theorem XR{k:Int}{m:Bool}{re st:Int}:TyG r (tyV (.mk k m re st []) none 0) (.mk k m re st []):=yH
theorem kR{u:UnD}{g:GrD}{o:OpD}{v:Value}{K:Value→World→Prop}{t:TyD}{ok:Bool}(hr:Holds r w)(hx:AskG r v u g)(hf:xz u.ss g.tys)(ho:OpG r c o)(hop:zs u.ss g.tys o=(t,ok))
  (h:∀q cap w',Ext w w'→TyG r (tyV t q cap) t→K (.tuple #[tyV t q cap,.bool ok]) w'):zd Tryz.prog Tryz.y6 #[v,.agg c.toArray] w K:=by
 obtain⟨p0,cap0,vf,vo,vt,vn,vp,rfl,hu,hg⟩:=id hx
 obtain⟨vq,rfl,hl⟩:=ho
 obtain⟨qs,caps,rfl,_,_⟩:=hl.sl.shape
 have hpl:PlG r [.int .i64 o.pl.l,.slice qs o.pl.ps.length caps] o.pl:=⟨_,rfl,hl⟩
 refine Tryz.QT ?_
 unfold Tryz.vL
 have S:=St.start hr
 refine S.box λb2 w1 S=>?_
 refine S.box λb3 w2 S=>?_
 refine S.al λb4 w3 S=>?_
 refine gG_ ?_
 unfold zs at hop
 refine zh (λh1=>?_) (λh1=>?_)
 ·rw[if_pos h1]at hop;cases hop
  refine gG_ ?_
  refine S.ldN (b:=b3) ?_
  refine jr S.holds hpl λw4 e4=>?_
  have S:=S.go e4
  refine S.stB (b:=b4) λw5 S=>?_
  refine gG_ ?_
  exact h none 0 _ S.ext XR
 rw[if_neg h1]at hop
 refine gG_ ?_
 refine zh (λh2=>?_) (λh2=>?_)
 ·rw[if_pos h2]at hop;cases hop
  have S:=S.go (Ext.drew _)
  refine gG_ ?_
  refine S.ldN (b:=b3) ?_
  refine jr S.holds hpl λw44 e4=>?_
  have S:=S.go e4
  have fin:∀{w9:World},StX noX w r w9 [.cell b4 (tyL abb none 0) 43,.cell b3 [.int .u8 o.k,.int .i64 o.n,.int .i64 o.pl.l,.slice qs o.pl.ps.length caps] 93,.cell b2 (Value.agg #[.slice p0 u.ss.length cap0,vf,.int .i64 u.mn,.string g.name,.int .i64 g.lv,vo,.int .i64 g.pn,vt,vn,vp]).cells.toList 294]→∀x,x=(xR o.pl&&(decide (o.n=0)||decide (o.n=1)))→
    K (.tuple #[tyV abb none 0,.bool x]) w9:=by
   intro w9 S x hx
   subst hx
   exact h none 0 _ S.ext XR
  have st:∀{w8:World}{K:World→Prop},StX noX w r w8 [.cell b4 [.int .u8 0,.bool false,.int .i64 0,.int .i64 0,.slice none 0 0] 43,.cell b3 [.int .u8 o.k,.int .i64 o.n,.int .i64 o.pl.l,.slice qs o.pl.ps.length caps] 93,.cell b2 (Value.agg #[.slice p0 u.ss.length cap0,vf,.int .i64 u.mn,.string g.name,.int .i64 g.lv,vo,.int .i64 g.pn,vt,vn,vp]).cells.toList 294]→
    (∀w9,StX noX w r w9 [.cell b4 (tyL abb none 0) 43,.cell b3 [.int .u8 o.k,.int .i64 o.n,.int .i64 o.pl.l,.slice qs o.pl.ps.length caps] 93,.cell b2 (Value.agg #[.slice p0 u.ss.length cap0,vf,.int .i64 u.mn,.string g.name,.int .i64 g.lv,vo,.int .i64 g.pn,vt,vn,vp]).cells.toList 294]→K w9)→
    opU Tryz.prog w8 (Instr.storeAt 43 (.pointer (some ⟨b4,0,none⟩)) (.agg #[.int .u8 2,.bool false,.int .i64 0,.int .i64 0,.slice none 0 0])) K:=by
   intro w8 K S hK
   exact S.stB (b:=b4) λw9 S=>hK w9 S
  cases hz:xR o.pl with
  |false=>
   (intro K9 hK9;refine gD_ ?_;refine hK9 _ _ λ_=>?_;clear hK9 K9)
   (intro K9 hK9;refine gD_ ?_;refine hK9 _ _ λ_=>?_;clear hK9 K9)
   refine⟨?_,?_⟩
   ·(intro K9 hK9;refine gD_ ?_;refine hK9 _ _ λ_=>?_;clear hK9 K9)
    (intro K9 hK9;refine gD_ ?_;refine hK9 _ _ λ_=>?_;clear hK9 K9)
    refine gD_ ?_
    refine st S λw9 S=>?_
    refine gG_ ?_
    exact fin S _ (by rw[hz]<;>rfl)
   ·refine st S λw9 S=>?_
    (intro K9 hK9;refine gD_ ?_;refine hK9 _ _ λ_=>?_;clear hK9 K9)
    (intro K9 hK9;refine gD_ ?_;refine hK9 _ _ λ_=>?_;clear hK9 K9)
    refine gD_ ?_
    exact fin S _ (by rw[hz]<;>rfl)
  |true=>
   by_cases hn0:o.n=0
   ·refine zk (λs w'=>s=[.bool true]∧w'=w44) (λK9 hK9=>?_) ?_
    ·refine gD_ ?_
     rw[gde hn0]
     exact hK9 _ _ ⟨rfl,rfl⟩
    rintro _ w44 ⟨rfl,rfl⟩ d1
    (intro K9 hK9;refine gD_ ?_;refine hK9 _ _ λ_=>?_;clear hK9 K9)
    refine⟨?_,?_⟩
    ·(intro K9 hK9;refine gD_ ?_;refine hK9 _ _ λ_=>?_;clear hK9 K9)
     (intro K9 hK9;refine gD_ ?_;refine hK9 _ _ λ_=>?_;clear hK9 K9)
     refine gD_ ?_
     refine st S λw9 S=>?_
     refine gG_ ?_
     exact fin S _ (by rw[hz,hn0]<;>rfl)
    ·refine st S λw9 S=>?_
     (intro K9 hK9;refine gD_ ?_;refine hK9 _ _ λ_=>?_;clear hK9 K9)
     (intro K9 hK9;refine gD_ ?_;refine hK9 _ _ λ_=>?_;clear hK9 K9)
     refine gD_ ?_
     exact fin S _ (by rw[hz,hn0]<;>rfl)
   ·refine zk (λs w'=>s=[.bool false]∧w'=w44) (λK9 hK9=>?_) ?_
    ·refine gD_ ?_
     rw[decide_eq_false hn0]
     exact hK9 _ _ ⟨rfl,rfl⟩
    rintro _ w44 ⟨rfl,rfl⟩ d1
    (intro K9 hK9;refine gD_ ?_;refine hK9 _ _ λ_=>?_;clear hK9 K9)
    refine⟨?_,?_⟩
    ·refine zk (λs w'=>s=[.bool (decide (o.n=1))]∧w'=w44) (λK9 hK9=>?_) ?_
     ·refine gD_ ?_
      refine anv ?_
      refine gD_ ?_
      exact hK9 _ _ ⟨rfl,rfl⟩
     rintro _ w44 ⟨rfl,rfl⟩ d1
     (intro K9 hK9;refine gD_ ?_;refine hK9 _ _ λ_=>?_;clear hK9 K9)
     refine gD_ ?_
     refine st S λw9 S=>?_
     refine gG_ ?_
     exact fin S _ (by rw[hz,decide_eq_false hn0];first|rfl|simp)
    ·refine st S λw9 S=>?_
     refine zk (λs w'=>s=[.bool (decide (o.n=1))]∧w'=w9) (λK9 hK9=>?_) ?_
     ·refine gD_ ?_
      refine anv ?_
      refine gD_ ?_
      exact hK9 _ _ ⟨rfl,rfl⟩
     rintro _ w44 ⟨rfl,rfl⟩ d1
     (intro K9 hK9;refine gD_ ?_;refine hK9 _ _ λ_=>?_;clear hK9 K9)
     refine gD_ ?_
     exact fin S _ (by rw[hz,decide_eq_false hn0];first|rfl|simp)
 rw[if_neg h2]at hop
 obtain⟨sty,sm,sok,hsp⟩:∃sty sm sok,zm u.ss g.tys o.pl=(sty,sm,sok):=⟨_,_,_,rfl⟩
 simp only[hsp]at hop
 refine gG_ ?_
 refine S.ldN (b:=b3) ?_
 refine xG S.holds hx hf hpl hsp λq cap w5 e5 ht=>?_
 have S:=S.go e5
 refine S.al λb6 w6 S=>?_
 refine S.stB (b:=b6) λw7 S=>?_
 refine gG_ ?_
 refine zg (c:=decide (o.n=0)) (λ_ K2 hK2=>?_) ?_
 ·refine gG_ ?_
  exact hK2
 refine gG_ ?_
 refine zh (λh3=>?_) (λh3=>?_)
 ·rw[if_pos h3]at hop;cases hop
  have S:=S.go (Ext.drew _)
  refine gP_ ?_
  refine S.ldN (b:=b6) ?_
  refine zr (c:=ki t) (λ_ K2 hK2=>?_) λw9 e9=>?_
  ·refine gP_ ?_
   refine S.ldN (b:=b6) ?_
   exact Jo S.holds ht λw9 e9=>⟨e9,hK2 _ e9⟩
  have S:=S.go e9
  refine S.stB (b:=b4) λw10 S=>?_
  refine gG_ ?_
  exact h _ _ _ S.ext ht
 rw[if_neg h3]at hop
 refine gG_ ?_
 refine zh (λh4=>?_) (λh4=>?_)
 ·rw[if_pos h4]at hop;cases hop
  have S:=S.go (Ext.drew _)
  refine gP_ ?_
  refine S.ldN (b:=b6) ?_
  refine zr (c:=!ki t) (λ_ K2 hK2=>?_) λw9 e9=>?_
  ·refine gP_ ?_
   refine S.ldN (b:=b6) ?_
   refine Jo S.holds ht λw9 e9=>⟨e9,?_⟩
   refine gP_ ?_
   exact hK2 _ e9
  have S:=S.go e9
  cases hb:((sok&&decide (o.n=0)) && !ki t)with
  |false=>
   (intro K9 hK9;refine gD_ ?_;refine hK9 _ _ λ_=>?_;clear hK9 K9)
   refine⟨?_,?_⟩
   ·(intro K9 hK9;refine gD_ ?_;refine hK9 _ _ λ_=>?_;clear hK9 K9)
    refine gD_ ?_
    refine S.stB (b:=b4) λw10 S=>?_
    refine gG_ ?_
    have:=h _ _ _ S.ext ht
    rwa[hb]at this
   ·refine S.stB (b:=b4) λw10 S=>?_
    (intro K9 hK9;refine gD_ ?_;refine hK9 _ _ λ_=>?_;clear hK9 K9)
    refine gD_ ?_
    have:=h _ _ _ S.ext ht
    rwa[hb]at this
  |true=>
   (intro K9 hK9;refine gD_ ?_;refine hK9 _ _ λ_=>?_;clear hK9 K9)
   refine⟨?_,?_⟩
   ·refine zk (λs w'=>s=[.bool (decide (sm<2))]∧w'=w9) (λK9 hK9=>?_) ?_
    ·refine gD_ ?_
     refine Xp ?_
     refine gD_ ?_
     exact hK9 _ _ ⟨rfl,rfl⟩
    rintro _ _ ⟨rfl,rfl⟩ d1
    refine gD_ ?_
    refine S.stB (b:=b4) λw10 S=>?_
    refine gG_ ?_
    have:=h _ _ _ S.ext ht
    rwa[hb]at this
   ·refine S.stB (b:=b4) λw10 S=>?_
    refine zk (λs w'=>s=[.bool (decide (sm<2))]∧w'=w10) (λK9 hK9=>?_) ?_
    ·refine gD_ ?_
     refine Xp ?_
     refine gD_ ?_
     exact hK9 _ _ ⟨rfl,rfl⟩
    rintro _ _ ⟨rfl,rfl⟩ d1
    refine gD_ ?_
    have:=h _ _ _ S.ext ht
    rwa[hb]at this
 rw[if_neg h4]at hop;cases hop
 refine gG_ ?_
 refine S.stB (b:=b4) λw10 S=>?_
 refine gG_ ?_
 exact h none 0 _ S.ext XR
theorem adr{x:Bool}{p:Option Addr}{l:List Bool}{cap:Nat}(hl:Sl w p (l.map Value.bool))(hb:l.length≤1000000000)(h:K (.bool (l.contains x)) w):
  zd Tryz.prog Tryz.xB #[.slice p l.length cap,.bool x] w K:=by
 refine Tryz.ZS ?_
 unfold Tryz.kY
 refine Tryz.Y7 ?_
 unfold Tryz.jn
 refine gP_ ?_
 refine zj (ι:=Nat) (λi=>[.int .i64 (i:Nat)]) (λi w'=>w'=w∧i≤l.length∧(l.take i).contains x=false) (λi=>l.length-i) 0 rfl ⟨rfl,gzl _,by simp⟩ ?_
 rintro i d w' ⟨rfl,hi,hn⟩ K6 hK6
 simp only[gdz]
 refine gP_ ?_
 refine zh (λhlt=>?_) (λhge=>?_)
 ·have hlt:i<l.length:=by omega
  obtain⟨b,off,rfl,hc⟩:=hl.at (i:=i) (by rw[List.length_map];exact hlt)
  refine gP_ ?_
  have hv:(l.map Value.bool)[i]'(by rw[List.length_map];exact hlt)=.bool l[i]:=by simp
  rw[hv]at hc
  refine zf (by simpa using hc) ?_
  refine gP_ ?_
  have ht:(l.take (i+1)).contains x=((l.take i).contains x||(x == l[i])):=by
   rw[List.take_succ_eq_append_getElem hlt];simp only[List.contains_eq_any_beq,List.any_append,List.any_cons,List.any_nil,Bool.or_false]
  refine c_b (λhy=>?_) (λhno=>?_)
  ·refine gP_ ?_
   rw[show decide ((i:Int)≥0)=true by simp]
   have :l.contains x=true:=List.contains_iff_mem.2 (by rw[eq_of_beq hy];exact gem hlt)
   rwa[this]at h
  ·refine gP_ ?_
   refine hK6 (i+1) _ ⟨rfl,hlt,?_⟩ (by omega)
   rw[ht,hn,hno];rfl
 ·have :i=l.length:=by omega
  subst this
  rw[List.take_length]at hn
  refine gP_ ?_
  rwa[hn]at h
theorem Js{o:OpD}(hr:Holds r w)(ho:OpG r c o)(h:∀w',Ext w w'→K (.bool (vh o)) w'):
  zD Tryz.prog (.func (.func Tryz.Jb) #[] #[]) #[.agg c.toArray] w K:=by
 obtain⟨vq,rfl,hl⟩:=ho
 obtain⟨qs,caps,rfl,_,_⟩:=hl.sl.shape
 have hpl:PlG r [.int .i64 o.pl.l,.slice qs o.pl.ps.length caps] o.pl:=⟨_,rfl,hl⟩
 refine aol (by kernel_rfl) ?_
 refine Tryz.ac5 ?_
 unfold Tryz.Jd
 have S:=St.start hr
 refine S.box λb1 w1 S=>?_
 refine gG_ ?_
 refine zg (c:=decide (o.n=0)) (λ_ K2 hK2=>?_) ?_
 ·refine gG_ ?_
  exact hK2
 refine zr (c:=xR o.pl) (λ_ K2 hK2=>?_) λw3 e3=>h _ (S.go e3).ext
 refine gP_ ?_
 refine S.ldN (b:=b1) ?_
 exact jr S.holds hpl λw3 e3=>hK2 _ e3
abbrev aoD(h:ack):Value:=.agg #[.bool h.to,.bool h.a,.bool h.b,.bool h.args,.bool h.sign,.bool h.fr,.bool h.mu,.bool h.fn,.bool h.st,.bool h.el]
theorem ahq(l:List Bool):(!l.contains false)=l.all id:=by
 induction l with
 |nil=>rfl
 |cons x l ih=>
  rw[List.contains_cons,List.all_cons,← ih]
  cases x<;>simp
theorem yk{p:PtD}{f:ack}(hr:Holds r w)(hp:PtG r c p)(h:∀w',Ext w w'→K (.bool (zE p f)) w'):
  zd Tryz.prog Tryz.zW #[.agg c.toArray,aoD f] w K:=by
 obtain⟨vt,va,vb,vl,vf,rfl,h1,h2,h3,h4,h5⟩:=hp
 obtain⟨qt,capt,rfl,_,_⟩:=h1.sl.shape
 obtain⟨qa,capa,rfl,_,_⟩:=h2.sl.shape
 obtain⟨qb,capb,rfl,_,_⟩:=h3.sl.shape
 obtain⟨ql,capl,rfl,_,_⟩:=h4.sl.shape
 obtain⟨qf,capf,rfl,_,_⟩:=h5.sl.shape
 refine Tryz.afT ?_
 unfold Tryz.V7
 have S:=St.start hr
 refine S.box λb2 w1 S=>?_
 refine S.box λb3 w2 S=>?_
 have S:=S.go (Ext.drew _)
 refine gG_ ?_
 refine yZ (c:=xR p.to) (λ_ K2 hK2=>?_) λw4 e4=>?_
 ·refine gP_ ?_
  refine S.ldN (b:=b2) ?_
  exact jr S.holds ⟨_,rfl,h1⟩ λw3 e3=>⟨e3,hK2 _ e3⟩
 have S:=S.go e4
 refine yZ (c:=vh p.a) (λ_ K2 hK2=>?_) λw5 e5=>?_
 ·refine gP_ ?_
  refine S.ldN (b:=b2) ?_
  exact Js S.holds ⟨_,rfl,h2⟩ λw3 e3=>⟨e3,hK2 _ e3⟩
 have S:=S.go e5
 refine yZ (c:=vh p.b) (λ_ K2 hK2=>?_) λw5 e5=>?_
 ·refine gP_ ?_
  refine S.ldN (b:=b2) ?_
  exact Js S.holds ⟨_,rfl,h3⟩ λw3 e3=>⟨e3,hK2 _ e3⟩
 have S:=S.go e5
 refine zn (c:=decide (p.args.length=0)) (λ_ K2 hK2=>?_) ?_
 ·refine gG_ ?_
  rw[QZ]
  exact hK2
 refine zn (c:=p.sign.toList == []) (λ_ K2 hK2=>?_) ?_
 ·refine gG_ ?_
  exact hK2
 refine yZ (c:=xR p.fr) (λ_ K2 hK2=>?_) λw4 e4=>?_
 ·refine gP_ ?_
  refine S.ldN (b:=b2) ?_
  exact jr S.holds ⟨_,rfl,h5⟩ λw3 e3=>⟨e3,hK2 _ e3⟩
 have S:=S.go e4
 refine zn (c:=!p.mu) (λ_ K2 hK2=>?_) ?_
 ·refine gG_ ?_
  exact hK2
 refine zn (c:=decide (p.fn=0)) (λ_ K2 hK2=>?_) ?_
 ·refine gG_ ?_
  exact hK2
 refine zn (c:=decide (p.st=0)) (λ_ K2 hK2=>?_) ?_
 ·refine gG_ ?_
  exact hK2
 refine zn (c:=decide (p.el=0)) (λ_ K2 hK2=>?_) ?_
 ·refine gG_ ?_
  exact hK2
 refine S.lit (e:=4) (cs:=(jd p f).map Value.bool) (by kernel_rfl) λb80 w80 S=>?_
 refine adr (l:=jd p f) (x:=false) (Sl.blk (S.blk b80)) (by simp[jd]) ?_
 refine gP_ ?_
 rw[ahq]
 exact h _ S.ext
end
end Go.Proofs
namespace Go.Sh
section
section
variable {w:World} {Z:Value→World→Prop} {b c:Bool}
theorem ZY{g:Bool}{A:(List Value→World→Prop)→World→Prop}{G:(List Value→World→Prop)→Prop}(hG:b=false→∀K:List Value→World→Prop,K [.bool g] w→G K)(hA:g=true→∀K:List Value→World→Prop,K [.bool c] w→A K w)(hZ:Z (.bool (b||(g&&c))) w):
  za (λK1=>gIf (.bool b) false (G K1) (K1 [u_] w)) λs1 _ w1=>
   za (λK2=>gIf (s1.getD 0 u_) true (A K2 w1) (K2 [u_] w1)) λs2 _ w2=>
    za (λK3=>gIf (.bool b) false (zb (s1.getD 0 u_) (s2.getD 0 u_) (.bool false) λt=>K3 [t] w2) (K3 [u_] w2)) λs3 _ w3=>
     zb (.bool b) (.bool true) (s3.getD 0 u_) λt=>Z t w3:=by
 intro K1 hK1
 cases b with
 |true=>
  refine hK1 _ _ λ_=>?_
  intro K2 hK2
  refine hK2 _ _ λ_=>?_
  intro K3 hK3
  refine hK3 _ _ λ_=>⟨true,rfl,?_⟩
  rw[Bool.true_or]at hZ;exact hZ
 |false=>
  refine hG rfl _ (hK1 _ _ λ_=>?_)
  intro K2 hK2
  cases g with
  |true=>
   refine hA rfl _ (hK2 _ _ λ_=>?_)
   intro K3 hK3
   refine⟨true,rfl,hK3 _ _ λ_=>⟨false,rfl,?_⟩⟩
   rw[Bool.false_or,Bool.true_and]at hZ;exact hZ
  |false=>
   refine hK2 _ _ λ_=>?_
   intro K3 hK3
   refine⟨false,rfl,hK3 _ _ λ_=>⟨false,rfl,?_⟩⟩
   rw[Bool.false_or,Bool.false_and]at hZ;exact hZ
end
theorem ain{P:Program}{K:Value→Prop}{t e:TypeId}{n:Nat}{p:Option Addr}{len cap:Nat}{kd kd':IntKind}{a b:Int}(h:slT P t=some (e,n))(h0:0≤a)(h1:a≤b)(h2:b≤cap)
  (k:K (.slice (if cap=a.toNat then p else p.map (·.add (a.toNat*n))) (b.toNat-a.toNat) (cap-a.toNat))):opP P (Instr.sliceAt t (.slice p len cap) (some (.int kd a)) (some (.int kd' b)) none) K:=by
 refine ye (λw=>?_) k
 unfold slT at h
 cases hu:P.underlying t with
 |none=>rw [hu]at h;cases h
 |some d=>
  rw[hu]at h
  cases d<;>first|cases h|skip
  rename_i e'
  simp only[Option.map_eq_some_iff,Prod.mk.injEq]at h
  obtain⟨m,hs,rfl,rfl⟩:=h
  have h3:0≤b:=by omega
  have h5:a≤max b 0:=by omega
  simp[Instr.sliceAt,Instr.slice,Instr.sliceBounds,Instr.sliceBound,asIntOf,Sem.run_bind,zz hu,Result.andThen,Sem.run,pure,h0,h2,h3,h5,z8 hs]
instance {P:Program} {t e:TypeId} {n:Nat} {p:Option Addr} {len cap:Nat} {i j:IntKind} {a b:Int} [h:SlT P t e n]:PCond P (Instr.sliceAt t (.slice p len cap) (some (.int i a)) (some (.int j b)) none) (.slice (if cap=a.toNat then p else p.map (·.add (a.toNat*n))) (b.toNat-a.toNat) (cap-a.toNat)) (0≤a∧a≤b∧b≤cap):=
 .of λx _ k=>ain (e:=e) (n:=n) h.h x.1 x.2.1 x.2.2 k
theorem StX.holdW{X:Nat→Prop}{w0 w:World}{r:Gh}{L:List Asr}(S:StX X w0 r w L)(b:Nat){c:List Value}{T:TypeId}{f:List Value→List Asr}[h:At b L c T f]:Holds (r.or (Go.Sh.one b c T)) w:=S.holds.or (km (S.blk b))
end
end Go.Sh
namespace Go.Proofs
open Go.Sh
section
section
variable {X:Nat→Prop} {w0 w:World} {r:Gh} {L:List Asr}
theorem afv{x n:Int}{b:Nat}{f:List Value→List Asr}{K:Value→World→Prop}(S:StX X w0 r w L)[At b L [.int .i64 n] 3 f](h:K (.bool (decide (0≤x)&&decide (x<n))) w):
  zD Tryz.prog (.func (.func Tryz.vF) #[] #[.pointer (some ⟨b,0,none⟩)]) #[.int .i64 x] w K:=by
 refine aa8 (by kernel_rfl) ?_
 refine Tryz.QS ?_
 unfold Tryz.vK
 refine gP_ ?_
 refine zg (c:=decide (x<n)) (λ_ K2 hK2=>?_) h
 refine S.ld (b:=b) ?_ rfl
 refine gP_ ?_
 exact hK2
end
theorem yF{t:TyD}{q:Option Addr}{cap:Nat}{k:Int}{w:World}{r:Gh}{K:Value→World→Prop}(hr:Holds r w)(h:∀w',Ext w w'→K (.bool (isK t k)) w'):
  zD Tryz.prog (.func (.func Tryz.vG) #[] #[]) #[tyV t q cap,.int .u8 k] w K:=by
 refine aom (by kernel_rfl) ?_
 refine Tryz.QU ?_
 unfold Tryz.vM
 have S:=St.start hr
 refine S.box λb1 w1 S=>?_
 refine gG_ ?_
 exact h _ S.ext
theorem aio{u:UnD}{g:GrD}{o:OpD}{t:TyD}{b2:Nat}{c c2:List Value}{q:Option Addr}{cap:Nat}{w:World}{r:Gh}{K:Value→World→Prop}(hr:Holds r w)(hb2:Ob r λw=>Blk w b2 c2 294)(hx:AskG r (.agg c2.toArray) u g)
  (hc2:c2.length=10) (hf:xz u.ss g.tys) (ho:OpG r c o) (hc:c.length=4) (ht:TyG r (tyV t q cap) t)
  (h:∀w',Ext w w'→K (.bool ((zs u.ss g.tys o).2&&zN ya (zs u.ss g.tys o).1 t)) w'):
  zD Tryz.prog (.func (.func Tryz.jN) #[] #[.pointer (some ⟨b2,0,none⟩)]) #[.agg c.toArray,tyV t q cap] w K:=by
 refine aon (by kernel_rfl) ?_
 refine Tryz.XD ?_
 unfold Tryz.jO
 have S:=St.start hr
 refine S.box λb3 w1 S=>?_
 refine S.box λb4 w2 S=>?_
 refine zo (n:=10) (c:=c2) hc2 (λj v hj=>by rw[Nat.zero_add,(S.at hb2).cell];exact hj) ?_
 refine S.ldB (b:=b3) ?_ hc
 obtain⟨t1,ok,hop⟩:∃t1 ok,zs u.ss g.tys o=(t1,ok):=⟨_,_,rfl⟩
 rw[hop]at h
 refine kR S.holds hx hf ho hop λq1 cap1 w3 e3 ht1=>?_
 have S:=S.go e3
 refine gP_ ?_
 refine gP_ ?_
 refine S.al λb6 w4 S=>?_
 refine S.stB (b:=b6) λw5 S=>?_
 refine zr (c:=zN ya t1 t) (λ_ K2 hK2=>?_) λw9 e9=>h _ (S.go e9).ext
 refine S.ldB (b:=b6) ?_ rfl
 refine S.ldB (b:=b4) ?_ rfl
 exact qF S.holds ht1 ht λw9 e9=>hK2 _ e9
theorem qz{ss:List StD}{tys:List TyD}{o:OpD}{l:List OpD}{t:TyD}{r:List TyD}:xe ss tys (o::l) (t::r)=(((zs ss tys o).2&&zN ya (zs ss tys o).1 t)&&xe ss tys l r):=rfl
theorem aam{ss:List StD}{tys:List TyD}:∀{l:List OpD}{r:List TyD},l.length≠r.length→xe ss tys l r=false
 |[],[],h=>absurd rfl h
 |[],_::_,_=>rfl
 |_::_,[],_=>rfl
 |o::l,t::r,h=>by rw[qz,aam (by simpa using h),Bool.and_false]
theorem TysG.up{s t:Gh}{q:Option Addr}{ts:List TyD}(h:TysG s q ts)[l:Le s t]:TysG t q ts:=λi hi=>by
 obtain⟨b,off,c,h1,h2,h3,h4⟩:=h i hi
 exact⟨b,off,c,h1,h2,λj v hj=>(h3 j v hj).up,h4.up⟩
theorem vV{r:Gh}{q:Option Addr}{n cap:Nat}{ts:List TyD}(h:SlG 5 r (TyC r) (.slice q n cap) ts):TysG r q ts:=λi hi=>by
 obtain⟨b,off,c,h1,h2,h3,h4⟩:=h.get (by decide) hi
 exact⟨b,off,c,h1,h2,h4,h3⟩
theorem alu{top:Gh}{gs:Nat→Gh}{q:Option Addr}{ts:List TyD}(h:ans top gs q ts):TysG (top.or (un gs 0 ts.length)) q ts:=λi hi=>by
 obtain⟨b,off,c,h1,h2,h3,h4,_⟩:=h.at' i hi
 exact⟨b,off,c,h1,h2,λj v hj=>(h3 j v hj).up,TyG.up h4 (l:=⟨λb o hb=>.inr ⟨i,gzl _,hi,hb⟩⟩)⟩
theorem TysG.sub{s:Gh}{q:Option Addr}{ts:List TyD}(h:TysG s q ts){a n cap:Nat}(hc:ts.length≤cap):TysG s (if cap=a then q else q.map (·.add (a*5))) ((ts.drop a).take n):=λi hi=>by
 rw[List.length_take,List.length_drop]at hi
 obtain⟨b,off,c,h1,h2,h3,h4⟩:=h (a+i) (by omega)
 refine⟨b,off+a*5,c,?_,h2,λj v hj=>?_,?_⟩
 ·rw[if_neg (by omega),h1,Option.map_some,k9]
 ·have:=h3 j v hj
  rwa[show off+(a+i)*5+j=off+a*5+i*5+j by omega]at this
 ·rw[List.getElem_take,List.getElem_drop];exact h4
theorem afw{u:UnD}{g:GrD}{p:PtD}{l:List TyD}{b2 b3:Nat}{c2 c3:List Value}{ql:Option Addr}{capl:Nat}{w:World}{r:Gh}{K:Value→World→Prop}(hr:Holds r w)(hb2:Ob r λw=>Blk w b2 c2 294)(hb3:Ob r λw=>Blk w b3 c3 96)(hx:AskG r (.agg c2.toArray) u g)
  (hc2:c2.length=10) (hf:xz u.ss g.tys) (hp:PtG r c3 p) (hl:TysG r ql l)
  (h:∀w',Ext w w'→K (.bool (xe u.ss g.tys p.args l)) w'):
  zD Tryz.prog (.func (.func Tryz.vH) #[] #[.pointer (some ⟨b3,0,none⟩),.pointer (some ⟨b2,0,none⟩)]) #[.slice ql l.length capl] w K:=by
 refine adg (by kernel_rfl) ?_
 refine Tryz.QV ?_
 unfold Tryz.vN
 obtain⟨vt,va,vb,va',vf,rfl,h1,h2,h3,h4,h5⟩:=hp
 obtain⟨qa,capa,rfl,_,_⟩:=h4.sl.shape
 have S:=St.start hr
 have hlen:=h4.lt
 refine gP_ ?_
 refine zf (by rw[(S.at hb3).cell];rfl) ?_
 refine gP_ ?_
 refine Tryz.xb ?_
 unfold Tryz.zZ
 refine gG_ ?_
 refine zh (λhne=>?_) (λheq=>?_)
 ·rw[aam (by omega)]at h
  exact h _ S.ext
 have heq:p.args.length=l.length:=by omega
 refine gG_ ?_
 refine zj (ι:=Nat) (λi=>[.int .i64 (i:Nat)]) (λi w'=>i≤p.args.length∧xe u.ss g.tys (p.args.drop i) (l.drop i)=xe u.ss g.tys p.args l∧StX noX w r w' []) (λi=>p.args.length-i) 0 rfl ⟨gzl _,rfl,S⟩ ?_
 clear S
 rintro i d w1 ⟨hi,hd,S⟩ K6 hK6
 rw[gdz]
 refine gP_ ?_
 refine zh (λhlt=>?_) (λhge=>?_)
 ·have hlt:i<p.args.length:=by omega
  have hlt2:i<l.length:=by omega
  obtain⟨ba,oa,ca,rfl,hca,hao,hac⟩:=h4.sl.get (by decide) hlt
  obtain⟨bt,ot,ct,rfl,hct,htc,hto⟩:=hl i hlt2
  obtain⟨q2,cap2,rfl,ht2⟩:=yj hto
  rw[List.drop_eq_getElem_cons hlt,List.drop_eq_getElem_cons hlt2,qz]at hd
  refine gP_ ?_
  refine zo (n:=4) hca (λj v hj=>by rw[tnc];exact S.at (hac j v hj)) ?_
  refine S.al λb8 w2 S=>?_
  obtain⟨vq,hca',hlq⟩:=id hao
  subst hca'
  obtain⟨qs,caps,rfl,_⟩:=hlq.sl.shape
  refine S.stB (b:=b8) λw3 S=>?_
  refine gP_ ?_
  refine zo (n:=5) hct (λj v hj=>by rw[tnc];exact S.at (htc j v hj)) ?_
  refine S.al λb9 w4 S=>?_
  refine S.stB (b:=b9) λw5 S=>?_
  refine S.ldB (b:=b8) ?_ rfl
  refine S.ldB (b:=b9) ?_ rfl
  refine aio S.holds hb2 hx hc2 hf hao rfl ht2 λw6 e6=>?_
  have S:=S.go e6
  refine gP_ ?_
  refine c_b (λhno=>?_) (λhy=>?_)
  ·have hno:((zs u.ss g.tys p.args[i]).2&&zN ya (zs u.ss g.tys p.args[i]).1 l[i])=false:=by rw[← Bool.not_eq_true'];exact hno
   rw[hno,Bool.false_and]at hd
   rw[← hd]at h
   exact h _ S.ext
  ·have hy:((zs u.ss g.tys p.args[i]).2&&zN ya (zs u.ss g.tys p.args[i]).1 l[i])=true:=by rw[← Bool.not_eq_false'];exact hy
   rw[hy,Bool.true_and]at hd
   refine gP_ ?_
   rw[show ((i:Int)+1)=((i+1:Nat):Int)by omega]
   exact hK6 (i+1) _ ⟨hlt,hd,S.to r |>.less (λ_ _ h=>h) (List.nil_sublist _)⟩ (by omega)
 ·have hie:i=p.args.length:=by omega
  rw[hie,List.drop_length,heq,List.drop_length]at hd
  rw[← hd]at h
  exact h _ S.ext
end
end Go.Proofs
namespace Go.Proofs.Tryz
open Go.Sh
section
variable {t0 t1 t2:Value} {w:World} {K:VW}
def abK(t0 t1:Value)(w:World)(K:VW):Prop:=
 pw w (Instr.box 25 t0) λt2 w1=>
 pw w1 (Instr.alloc 74 true (.tuple #[])) λt4 w2=>
 lo w2 25 t2 λt6=>ca Xt #[t6,t1,(i6 (-1))] w2 λt8 w3=>
 pe t8 0 λt9=>pe t8 1 λt10=>ca Xs #[t9,t10] w3 λt11 w4=>
 pe t11 0 λt12=>pe t11 1 λt13=>so w4 74 t4 t12 λw5=>pq w5 (zi 74 t4) λr6=>K (.tuple #[r6,t13]) w5
theorem ahr(h:abK t0 t1 w K):zd prog QN #[t0,t1] w K:=
 okC false (.s (.r (rz 3 0 10)) (.s (.r (rz 10 0 133153)) (.n))) func49 rfl (by kernel_rfl) (by kernel_rfl) h
def aan(t0 t1:Value)(w:World)(K:VW):Prop:=
 pw w (Instr.box 74 t0) λt2 w1=>
 pw w1 (Instr.alloc 74 true (.tuple #[])) λt4 w2=>
 za (λK3=>
 bt .eql 29 t1 (i6 0) λt7=>za (λK7=>gIf t7 true (fl w2 t2 74 2 3 λt10=>bt .gtr 3 t10 (i6 512) λt11=>K7 [t11] w2) (K7 [u_] w2)) (λs8 _d9 w10=>
 zb t7 (s8.getD 0 u_) fa_ λt12=>zc t12 (K3 [(i6 5)] w10) (K3 [t1] w10))) (λs4 _d5 w6=>
 bt .neq 29 (s4.getD 0 u_) (i6 0) λt14=>zc t14 (pp (Instr.build 74 #[]) λt15=>so w6 74 t4 t15 λw11=>pq w11 (zi 74 t4) λr12=>K (.tuple #[r12,(s4.getD 0 u_)]) w11) (lo w6 74 t2 λt17=>so w6 74 t4 t17 λw13=>pq w13 (zi 74 t4) λr14=>K (.tuple #[r14,(s4.getD 0 u_)]) w13))
theorem af2(h:aan t0 t1 w K):zd prog Xs #[t0,t1] w K:=
 okC false (.s (.r (rz 3 0 10)) (.j [1] (.s (.r (ra 3 0 0 (.grp 8 true (ri 3 3 4) [11] (rz 1 6 0)))) (.c (.r (rz 1 0 0)) (.n))) (.s (.s (.r (rz 2 0 0)) (.c (.s (.r (rz 4 0 32)) (.n)) (.n))) (.s (.r (rz 4 0 33)) (.n))))) func109 rfl (by kernel_rfl) (by kernel_rfl) h
def aao(t0 t1 t2:Value)(w:World)(K:VW):Prop:=
 pw w (Instr.box 25 t0) λt3 w1=>
 pw w1 (Instr.alloc 74 true (.tuple #[])) λt6 w2=>
 bt .lss 3 t1 (i6 0) λt16=>za (λK3=>gIf t16 false (fl w2 t3 25 1 23 λt20=>pp (Builtin.len_ #[23] 3 #[t20]) λt21=>bf .geq 3 t1 t21 λt22=>K3 [t22] w2) (K3 [u_] w2)) (λs4 _d5 w6=>
 zb t16 tr_ (s4.getD 0 u_) λt23=>za (λK7=>gIf t23 false (lo w6 25 t3 λt25=>ca QM #[t25] w6 λt26 w11=>
 pp (Op.unary .not t26) λt27=>K7 [t27] w11) (K7 [u_] w6)) (λs8 _d9 w10=>
 zb t23 tr_ (s8.getD 0 u_) λt28=>za (λK12=>gIf t28 false (fl w10 t3 25 1 23 λt32=>px 23 t32 t1 λt34=>fl w10 t34 101 6 99 λt36=>pp (Builtin.len_ #[99] 3 #[t36]) λt37=>bf .geq 3 t2 t37 λt38=>K12 [t38] w10) (K12 [u_] w10)) (λs13 _d14 w15=>
 zb t28 tr_ (s13.getD 0 u_) λt39=>zc t39 (lo w15 74 t6 λt40=>so w15 74 t6 t40 λw16=>pq w16 (zi 74 t6) λr17=>K (.tuple #[r17,(i6 2)]) w16) (fl w15 t3 25 1 23 λt42=>xl w15 23 t42 t1 101 λt45=>pw w15 (Instr.alloc 101 true (.tuple #[])) λt8 w18=>
 so w18 101 t8 t45 λw19=>za (λK20=>
 fl w19.drew t8 101 1 3 λt47=>pf 101 t8 6 λt48=>pf 101 t8 1 λt51=>pf 74 t6 0 λt53=>((pw w19.drew (Instr.loadAt 99 t48) λt49 w24=>
 Ext w19.drew w24∧
 pp (Builtin.len_ #[99] 3 #[t49]) λt50=>((pw w24 (Instr.loadAt 3 t51) λt52 w25=>
 Ext w24 w25∧
 so w25 3 t53 t47 λw26=>pf 74 t6 1 λt54=>so w26 3 t54 t50 λw27=>pf 74 t6 2 λt55=>so w27 3 t55 t52 λw28=>K20 [] w28)∧
 (so w24 3 t53 t47 λw29=>pf 74 t6 1 λt54_30=>((pw w29 (Instr.loadAt 3 t51) λt52_32 w31=>
 Ext w29 w31∧
 so w31 3 t54_30 t50 λw33=>pf 74 t6 2 λt55_34=>so w33 3 t55_34 t52_32 λw35=>K20 [] w35)∧
 (so w29 3 t54_30 t50 λw36=>pw w36 (Instr.loadAt 3 t51) λt52_38 w37=>
 Ext w36 w37∧
 pf 74 t6 2 λt55_39=>so w37 3 t55_39 t52_38 λw40=>K20 [] w40)))))∧
 (((pw w19.drew (Instr.loadAt 3 t51) λt52_42 w41=>
 Ext w19.drew w41∧
 ((pw w41 (Instr.loadAt 99 t48) λt49_44 w43=>
 Ext w41 w43∧
 pp (Builtin.len_ #[99] 3 #[t49_44]) λt50_45=>so w43 3 t53 t47 λw46=>pf 74 t6 1 λt54_47=>so w46 3 t54_47 t50_45 λw48=>pf 74 t6 2 λt55_49=>so w48 3 t55_49 t52_42 λw50=>K20 [] w50)∧
 (so w41 3 t53 t47 λw51=>pw w51 (Instr.loadAt 99 t48) λt49_53 w52=>
 Ext w51 w52∧
 pp (Builtin.len_ #[99] 3 #[t49_53]) λt50_54=>pf 74 t6 1 λt54_55=>so w52 3 t54_55 t50_54 λw56=>pf 74 t6 2 λt55_57=>so w56 3 t55_57 t52_42 λw58=>K20 [] w58)))∧
 (so w19.drew 3 t53 t47 λw59=>((pw w59 (Instr.loadAt 99 t48) λt49_61 w60=>
 Ext w59 w60∧
 pp (Builtin.len_ #[99] 3 #[t49_61]) λt50_62=>pf 74 t6 1 λt54_63=>((pw w60 (Instr.loadAt 3 t51) λt52_65 w64=>
 Ext w60 w64∧
 so w64 3 t54_63 t50_62 λw66=>pf 74 t6 2 λt55_67=>so w66 3 t55_67 t52_65 λw68=>K20 [] w68)∧
 (so w60 3 t54_63 t50_62 λw69=>pw w69 (Instr.loadAt 3 t51) λt52_71 w70=>
 Ext w69 w70∧
 pf 74 t6 2 λt55_72=>so w70 3 t55_72 t52_71 λw73=>K20 [] w73)))∧
 (pw w59 (Instr.loadAt 3 t51) λt52_75 w74=>
 Ext w59 w74∧
 pw w74 (Instr.loadAt 99 t48) λt49_77 w76=>
 Ext w74 w76∧
 pp (Builtin.len_ #[99] 3 #[t49_77]) λt50_78=>pf 74 t6 1 λt54_79=>so w76 3 t54_79 t50_78 λw80=>pf 74 t6 2 λt55_81=>so w80 3 t55_81 t52_75 λw82=>K20 [] w82))))))) (λ_s21 _d22 w23=>
 fl w23 t8 101 4 41 λt57=>pp (Builtin.len_ #[41] 3 #[t57]) λt58=>zp [(i6 0)] w23 (λs84 _d85 w86 K83=>
 bf .lss 3 (s84.getD 0 u_) t58 λt60=>zc t60 (za (λK87=>
 xl w86 41 t57 (s84.getD 0 u_) 43 λt62=>pw w86 (Instr.alloc 43 true (.tuple #[])) λt10 w91=>
 so w91 43 t10 t62 λw92=>pf 74 t6 3 λt63=>lo w92.drew 43 t10 λt65=>pp (Instr.makeFunc (.func 164) #[] #[t6]) λt66=>((pw w92.drew (Instr.loadAt 41 t63) λt64 w93=>
 Ext w92.drew w93∧
 pp (Builtin.len_ #[41] 3 #[t64]) λt68=>((ca yP #[t65,t66] w93 λt67 w94=>
 pw w94 (Instr.buildSlice 41 1 #[(0,(Value.agg #[Value.int .u8 0,Value.bool false,Value.int .i64 0,Value.int .i64 0,Value.slice Option.none 0 0]))]) λt69 w95=>
 Ext w94 w95∧
 pw w95 (Builtin.append_ #[41,41] 41 #[t64,t69]) λt70 w96=>
 px 41 t70 t68 λt71=>pf 74 t6 3 λt72=>((so w96 43 t71 t67 λw97=>so w97 41 t72 t70 λw98=>K87 [] w98)∧
 (so w96 41 t72 t70 λw99=>so w99 43 t71 t67 λw100=>K87 [] w100)))∧
 (pw w93 (Instr.buildSlice 41 1 #[(0,(Value.agg #[Value.int .u8 0,Value.bool false,Value.int .i64 0,Value.int .i64 0,Value.slice Option.none 0 0]))]) λt69_102 w101=>
 Ext w93 w101∧
 ca yP #[t65,t66] w101 λt67_104 w103=>
 pw w103 (Builtin.append_ #[41,41] 41 #[t64,t69_102]) λt70_106 w105=>
 px 41 t70_106 t68 λt71_107=>pf 74 t6 3 λt72_108=>((so w105 43 t71_107 t67_104 λw109=>so w109 41 t72_108 t70_106 λw110=>K87 [] w110)∧
 (so w105 41 t72_108 t70_106 λw111=>so w111 43 t71_107 t67_104 λw112=>K87 [] w112)))))∧
 (((ca yP #[t65,t66] w92.drew λt67_114 w113=>
 ((pw w113 (Instr.loadAt 41 t63) λt64_116 w115=>
 Ext w113 w115∧
 pp (Builtin.len_ #[41] 3 #[t64_116]) λt68_117=>pw w115 (Instr.buildSlice 41 1 #[(0,(Value.agg #[Value.int .u8 0,Value.bool false,Value.int .i64 0,Value.int .i64 0,Value.slice Option.none 0 0]))]) λt69_119 w118=>
 Ext w115 w118∧
 pw w118 (Builtin.append_ #[41,41] 41 #[t64_116,t69_119]) λt70_121 w120=>
 px 41 t70_121 t68_117 λt71_122=>pf 74 t6 3 λt72_123=>((so w120 43 t71_122 t67_114 λw124=>so w124 41 t72_123 t70_121 λw125=>K87 [] w125)∧
 (so w120 41 t72_123 t70_121 λw126=>so w126 43 t71_122 t67_114 λw127=>K87 [] w127)))∧
 (pw w113 (Instr.buildSlice 41 1 #[(0,(Value.agg #[Value.int .u8 0,Value.bool false,Value.int .i64 0,Value.int .i64 0,Value.slice Option.none 0 0]))]) λt69_129 w128=>
 Ext w113 w128∧
 pw w128 (Instr.loadAt 41 t63) λt64_131 w130=>
 Ext w128 w130∧
 pp (Builtin.len_ #[41] 3 #[t64_131]) λt68_132=>pw w130 (Builtin.append_ #[41,41] 41 #[t64_131,t69_129]) λt70_134 w133=>
 px 41 t70_134 t68_132 λt71_135=>pf 74 t6 3 λt72_136=>((so w133 43 t71_135 t67_114 λw137=>so w137 41 t72_136 t70_134 λw138=>K87 [] w138)∧
 (so w133 41 t72_136 t70_134 λw139=>so w139 43 t71_135 t67_114 λw140=>K87 [] w140)))))∧
 (pw w92.drew (Instr.buildSlice 41 1 #[(0,(Value.agg #[Value.int .u8 0,Value.bool false,Value.int .i64 0,Value.int .i64 0,Value.slice Option.none 0 0]))]) λt69_142 w141=>
 Ext w92.drew w141∧
 ((pw w141 (Instr.loadAt 41 t63) λt64_144 w143=>
 Ext w141 w143∧
 pp (Builtin.len_ #[41] 3 #[t64_144]) λt68_145=>ca yP #[t65,t66] w143 λt67_147 w146=>
 pw w146 (Builtin.append_ #[41,41] 41 #[t64_144,t69_142]) λt70_149 w148=>
 px 41 t70_149 t68_145 λt71_150=>pf 74 t6 3 λt72_151=>((so w148 43 t71_150 t67_147 λw152=>so w152 41 t72_151 t70_149 λw153=>K87 [] w153)∧
 (so w148 41 t72_151 t70_149 λw154=>so w154 43 t71_150 t67_147 λw155=>K87 [] w155)))∧
 (ca yP #[t65,t66] w141 λt67_157 w156=>
 pw w156 (Instr.loadAt 41 t63) λt64_159 w158=>
 Ext w156 w158∧
 pp (Builtin.len_ #[41] 3 #[t64_159]) λt68_160=>pw w158 (Builtin.append_ #[41,41] 41 #[t64_159,t69_142]) λt70_162 w161=>
 px 41 t70_162 t68_160 λt71_163=>pf 74 t6 3 λt72_164=>((so w161 43 t71_163 t67_157 λw165=>so w165 41 t72_164 t70_162 λw166=>K87 [] w166)∧
 (so w161 41 t72_164 t70_162 λw167=>so w167 43 t71_163 t67_157 λw168=>K87 [] w168))))))))) (λ_s88 _d89 w90=>
 bt .add 3 (s84.getD 0 u_) (i6 1) λt73=>K83 [t73] w90)) (fl w86 t8 101 6 99 λt75=>pp (Builtin.len_ #[99] 3 #[t75]) λt76=>zp [(i6 0)] w86 (λs170 _d171 w172 K169=>
 bf .lss 3 (s170.getD 0 u_) t76 λt78=>zc t78 (xl w172 99 t75 (s170.getD 0 u_) 96 λt80=>pw w172 (Instr.alloc 96 true (.tuple #[])) λt12 w173=>
 so w173 96 t12 t80 λw174=>za (λK175=>
 fl w174 t12 96 0 90 λt82=>bt .eql 90 t82 (Value.int .u8 4) λt84=>zc t84 (K175 [(i6 1)] w174) (bt .eql 90 t82 (Value.int .u8 7) λt86=>zc t86 (fl w174 t3 25 1 23 λt88=>fl w174 t12 96 8 3 λt90=>px 23 t88 t90 λt91=>fl w174 t91 101 1 3 λt93=>K175 [t93] w174) (K175 [(i6 0)] w174))) (λs176 _d177 w178=>
 fl w178 t6 74 2 3 λt95=>za (λK179=>
 bt .eql 3 (s176.getD 0 u_) (i6 0) λt97=>zc t97 (K179 [(i6 (-1))] w178) (K179 [t95] w178)) (λs180 _d181 w182=>
 fl w182 t6 74 4 55 λt99=>pw w182 (Instr.buildSlice 55 1 #[(0,(s180.getD 0 u_))]) λt101 w183=>
 pw w183 (Builtin.append_ #[55,55] 55 #[t99,t101]) λt102 w184=>
 pf 74 t6 4 λt103=>so w184 55 t103 t102 λw185=>fl w185 t6 74 2 3 λt105=>bf .add 3 t105 (s176.getD 0 u_) λt107=>pf 74 t6 2 λt108=>so w185 3 t108 t107 λw186=>bt .add 3 (s170.getD 0 u_) (i6 1) λt109=>K169 [t109] w186))) (lo w172 74 t6 λt110=>so w172 74 t6 t110 λw187=>pq w187 (zi 74 t6) λr188=>K (.tuple #[r188,(i6 0)]) w187)))))))))
theorem af3(h:aao t0 t1 t2 w K):zd prog Xt #[t0,t1,t2] w K:=
 okC false (.s (.r (rz 3 0 10)) (.s (.s (.r (ra 3 0 0 (.grp 17 false (ri 5 3 16) [22] (ra 2 8 0 (.grp 24 false (ri 3 10 9) [27] (ra 2 13 0 (.grp 29 false (ri 9 15 4112) [38] (rz 1 24 0)))))))) (.c (.s (.r (rz 3 0 9)) (.n)) (.n))) (.s (.r (rz 7 0 10500)) (.j [] (.r (ra 3 0 4 (ra 1 5 0 (ra 1 7 0 (.alt 3 .u (ra 1 4 0 (.alt 6 .u (rz 5 8 546) (ra 2 8 2 (.alt 6 .u (rz 3 10 34) (ra 1 10 2 (ra 1 6 3 (rz 2 11 8))))))) (.alt 6 .u (.alt 3 .u (ra 1 4 0 (rz 5 8 546)) (ra 1 8 2 (ra 2 3 3 (rz 4 9 136)))) (ra 1 8 2 (.alt 3 .u (ra 1 4 0 (ra 1 9 0 (.alt 6 .u (rz 3 10 34) (ra 1 10 2 (ra 1 6 3 (rz 2 11 8)))))) (ra 1 6 3 (ra 2 3 3 (rz 4 9 136))))))))))) (.s (.s (.r (rz 4 0 4)) (.b (.lp [59] (.s (.r (rz 1 0 0)) (.s (.c (.n) (.n)) (.j [] (.b (.s (.r (rz 4 0 164)) (.r (ra 1 0 0 (ra 2 2 1 (.alt 1 .u (ra 1 5 0 (.alt 4 .l (ra 3 6 11 (ra 1 10 0 (.alt 9 .l (rz 1 11 2) (ra 1 11 2 (rz 1 9 2))))) (ra 1 6 3 (ra 1 4 2 (ra 2 7 2 (ra 1 10 0 (.alt 9 .l (rz 1 11 2) (ra 1 11 2 (rz 1 9 2))))))))) (.alt 4 .l (.alt 1 .u (ra 4 5 44 (ra 1 10 0 (.alt 9 .l (rz 1 11 2) (ra 1 11 2 (rz 1 9 2))))) (ra 1 6 3 (ra 1 1 3 (ra 1 5 0 (ra 2 7 2 (ra 1 10 0 (.alt 9 .l (rz 1 11 2) (ra 1 11 2 (rz 1 9 2))))))))) (ra 1 6 3 (.alt 1 .u (ra 1 5 0 (ra 1 4 2 (ra 2 7 2 (ra 1 10 0 (.alt 9 .l (rz 1 11 2) (ra 1 11 2 (rz 1 9 2))))))) (ra 1 4 2 (ra 1 1 3 (ra 1 5 0 (ra 2 7 2 (ra 1 10 0 (.alt 9 .l (rz 1 11 2) (ra 1 11 2 (rz 1 9 2))))))))))))))))) (.r (rz 2 0 0)))))))) (.s (.s (.r (rz 4 0 4)) (.b (.lp [77] (.s (.r (rz 1 0 0)) (.s (.c (.n) (.n)) (.s (.b (.s (.r (rz 4 0 164)) (.s (.r (rz 1 0 0)) (.j [13] (.s (.r (rz 2 0 4)) (.b (.s (.r (rz 2 0 0)) (.c (.r (rz 1 0 0)) (.s (.r (rz 2 0 0)) (.c (.r (rz 8 0 4164)) (.n))))))) (.s (.r (rz 3 0 4)) (.j [14] (.s (.r (rz 2 0 0)) (.c (.r (rz 1 0 0)) (.n))) (.s (.r (rz 7 0 8836)) (.r (rz 6 0 2052))))))))) (.r (rz 2 0 0)))))))) (.s (.r (rz 3 0 9)) (.n)))))))) func110 rfl (by kernel_rfl) (by kernel_rfl) h
def abL(t0 t1 t2:Value)(w:World)(K:VW):Prop:=
 pw w (Instr.box 80 t2) λt5 w1=>
 lo w1 80 t5 λt13=>ca ji #[t0,t1,t13] w1 λt14 w2=>
 pe t14 0 λt15=>pe t14 1 λ_t16=>pe t14 2 λt17=>pw w2 (Instr.alloc 43 true (.tuple #[])) λt7 w3=>
 so w3 43 t7 t15 λw4=>K t17 w4
theorem ahs(h:abL t0 t1 t2 w K):zd prog Z5 #[t0,t1,t2] w K:=
 okC false (.s (.r (rz 2 0 2)) (.s (.r (rz 12 0 655504)) (.s (.r (rz 2 0 0)) (.n)))) func91 rfl (by kernel_rfl) (by kernel_rfl) h
def aap(t0 t1 t2:Value)(w:World)(K:VW):Prop:=
 pw w (Instr.box 80 t2) λt5 w1=>
 pw w1 (Instr.alloc 43 true (.tuple #[])) λt6 w2=>
 lo w2 80 t5 λt14=>ca ji #[t0,t1,t14] w2 λt15 w3=>
 pe t15 0 λt16=>pe t15 1 λ_t17=>pe t15 2 λt18=>pw w3 (Instr.alloc 43 true (.tuple #[])) λt8 w4=>
 so w4 43 t8 t16 λw5=>pp (Op.unary .not t18) λt20=>zc t20 (pp (Instr.build 43 #[]) λt21=>so w5 43 t6 t21 λw6=>pq w6 (zi 43 t6) λr7=>K (.tuple #[r7,(i6 2)]) w6) (lo w5 43 t8 λt22=>ca QL #[t22] w5 λt23 w8=>
 pe t23 0 λt24=>pe t23 1 λt25=>so w8 43 t6 t24 λw9=>pq w9 (zi 43 t6) λr10=>K (.tuple #[r10,t25]) w9)
theorem af4(h:aap t0 t1 t2 w K):zd prog Zi #[t0,t1,t2] w K:=
 okC false (.s (.r (rz 3 0 10)) (.s (.r (rz 12 0 655504)) (.s (.s (.r (rz 2 0 0)) (.c (.s (.r (rz 3 0 8)) (.n)) (.n))) (.s (.r (rz 6 0 521)) (.n))))) func113 rfl (by kernel_rfl) (by kernel_rfl) h
def Qw(t0 t1:Value)(w:World)(K:VW):Prop:=
 pw w (Instr.box 43 t0) λt2 w1=>
 pw w1 (Instr.alloc 43 true (.tuple #[])) λt4 w2=>
 lo w2 43 t2 λt8=>ca xc #[t8] w2 λt9 w3=>
 pp (Builtin.len_ #[55] 3 #[t9]) λt11=>zp [(i6 0)] w3 (λs5 _d6 w7 K4=>
 bf .lss 3 (s5.getD 0 u_) t11 λt13=>zc t13 (xl w7 55 t9 (s5.getD 0 u_) 3 λt16=>cv t1 #[t16] w7 λt21 w8=>
 px 55 t9 (s5.getD 0 u_) λt22=>so w8 3 t22 t21 λw9=>bt .add 3 (s5.getD 0 u_) (i6 1) λt23=>K4 [t23] w9) (lo w7 43 t2 λt25=>ca Xq #[t25,t9] w7 λt27 w10=>
 pe t27 0 λt28=>pe t27 1 λ_t29=>so w10 43 t2 t28 λw11=>lo w11 43 t2 λt30=>so w11 43 t4 t30 λw12=>pq w12 (zi 43 t4) λr13=>K r13 w12))
theorem acl(h:Qw t0 t1 w K):zd prog yP #[t0,t1] w K:=
 okC false (.s (.r (rz 2 0 10)) (.s (.r (rz 3 0 9)) (.s (.s (.r (rz 3 0 0)) (.b (.lp [12] (.s (.r (rz 1 0 0)) (.s (.c (.n) (.n)) (.s (.b (.s (.r (rz 5 0 16)) (.r (rz 7 0 8704)))) (.r (rz 2 0 0)))))))) (.s (.r (rz 7 0 8225)) (.s (.r (rz 2 0 9)) (.n)))))) func163 rfl (by kernel_rfl) (by kernel_rfl) h
def Jt(t0 t1:Value)(w:World)(K:VW):Prop:=
 za (λK1=>
 bt .lss 3 t0 (i6 0) λt5=>zc t5 (fl w t1 74 2 3 λt7=>fl w t1 74 2 3 λt9=>bt .add 3 t9 (i6 1) λt10=>pf 74 t1 2 λt11=>so w 3 t11 t10 λw5=>K1 [t7] w5) (K1 [t0] w)) (λs2 _d3 w4=>
 K (s2.getD 0 u_) w4)
theorem ads(h:Jt t0 t1 w K):zd prog ZM #[t0,t1] w K:=
 okC false (.s (.r (rz 1 0 0)) (.j [0] (.s (.r (rz 2 0 0)) (.c (.s (.r (rz 3 0 4)) (.r (rz 5 0 516))) (.n))) (.s (.r (rz 2 0 0)) (.n)))) func164 rfl (by kernel_rfl) (by kernel_rfl) h
def aaq(t0 t1 t2:Value)(w:World)(K:VW):Prop:=
 pw w (Instr.box 22 t0) λt3 w1=>
 pw w1 (Instr.box 80 t2) λt5 w2=>
 pw w2 (Instr.alloc 43 true (.tuple #[])) λt6 w3=>
 fl w3 t5 80 0 3 λt15=>bt .lss 3 t15 (i6 0) λt16=>za (λK4=>gIf t16 false (fl w3 t5 80 0 3 λt19=>pp (Builtin.len_ #[41] 3 #[t1]) λt21=>bf .geq 3 t19 t21 λt22=>K4 [t22] w3) (K4 [u_] w3)) (λs5 _d6 w7=>
 zb t16 tr_ (s5.getD 0 u_) λt23=>za (λK8=>gIf t23 false (fl w7 t5 80 1 78 λt26=>pp (Builtin.len_ #[78] 3 #[t26]) λt27=>bt .gtr 3 t27 (i6 8) λt28=>K8 [t28] w7) (K8 [u_] w7)) (λs9 _d10 w11=>
 zb t23 tr_ (s9.getD 0 u_) λt29=>zc t29 (lo w11 43 t6 λt30=>so w11 43 t6 t30 λw12=>pq w12 (zi 43 t6) λr13=>K (.tuple #[r13,(Value.slice Option.none 0 0),fa_]) w12) (lo w11 22 t3 λt32=>ca kp #[t32] w11 λt33 w14=>
 pe t33 0 λ_t34=>pe t33 1 λt35=>bt .neq 29 t35 (i6 0) λt37=>za (λK15=>gIf t37 false (pp (Instr.makeFunc (.func 150) #[] #[t3]) λt40=>ca yp #[t1,t40] w14 λt41 w19=>
 K15 [t41] w19) (K15 [u_] w14)) (λs16 _d17 w18=>
 zb t37 tr_ (s16.getD 0 u_) λt42=>zc t42 (lo w18 43 t6 λt43=>so w18 43 t6 t43 λw20=>pq w20 (zi 43 t6) λr21=>K (.tuple #[r21,(Value.slice Option.none 0 0),fa_]) w20) (fl w18 t5 80 0 3 λt46=>xl w18 41 t1 t46 43 λt48=>so w18 43 t6 t48 λw22=>fl w22 t5 80 1 78 λt50=>pp (Builtin.len_ #[78] 3 #[t50]) λt51=>zp [(Value.slice Option.none 0 0),(i6 0)] w22 (λs24 _d25 w26 K23=>
 bf .lss 3 (s24.getD 1 u_) t51 λt53=>zc t53 (za (λK27=>
 xl w26 78 t50 (s24.getD 1 u_) 84 λt55=>za (λK31=>
 bt .eql 84 t55 (i6 (-1)) λt58=>za (λK35=>gIf t58 true (fl w26 t6 43 0 40 λt61=>bt .eql 40 t61 (Value.int .u8 3) λt62=>K35 [t62] w26) (K35 [u_] w26)) (λs36 _d37 w38=>
 zb t58 (s36.getD 0 u_) fa_ λt63=>zc t63 (K31 [(s24.getD 0 u_),(i6 1)] w38) (bt .eql 84 t55 (i6 (-1)) λt66=>za (λK39=>gIf t66 true (fl w38 t6 43 0 40 λt69=>bt .eql 40 t69 (Value.int .u8 4) λt70=>K39 [t70] w38) (K39 [u_] w38)) (λs40 _d41 w42=>
 zb t66 (s40.getD 0 u_) fa_ λt71=>za (λK43=>gIf t71 true (fl w42 t6 43 1 4 λt74=>K43 [t74] w42) (K43 [u_] w42)) (λs44 _d45 w46=>
 zb t71 (s44.getD 0 u_) fa_ λt75=>zc t75 (K31 [(s24.getD 0 u_),(i6 2)] w46) (bt .eql 84 t55 (i6 (-1)) λt78=>za (λK47=>gIf t78 true (fl w46 t6 43 0 40 λt81=>bt .eql 40 t81 (Value.int .u8 4) λt82=>K47 [t82] w46) (K47 [u_] w46)) (λs48 _d49 w50=>
 zb t78 (s48.getD 0 u_) fa_ λt83=>zc t83 (K31 [(s24.getD 0 u_),(i6 3)] w50) (fl w50 t6 43 0 40 λt86=>bt .neq 40 t86 (Value.int .u8 5) λt87=>za (λK51=>gIf t87 false (bt .lss 84 t55 (i6 0) λt90=>K51 [t90] w50) (K51 [u_] w50)) (λs52 _d53 w54=>
 zb t87 tr_ (s52.getD 0 u_) λt91=>za (λK55=>gIf t91 false (lo w54 22 t3 λt94=>fl w54 t6 43 3 3 λt96=>px 22 t94 t96 λt97=>fl w54 t97 117 1 115 λt99=>pp (Builtin.len_ #[115] 3 #[t99]) λt100=>bf .geq 3 t55 t100 λt101=>K55 [t101] w54) (K55 [u_] w54)) (λs56 _d57 w58=>
 zb t91 tr_ (s56.getD 0 u_) λt102=>zc t102 (pp (Instr.build 43 #[]) λt103=>so w58 43 t6 t103 λw59=>pq w59 (zi 43 t6) λr60=>K (.tuple #[r60,(Value.slice Option.none 0 0),fa_]) w59) (K31 [(s24.getD 0 u_),(i6 0)] w58))))))))))) (λs32 _d33 w34=>
 pw w34 (Instr.buildSlice 55 1 #[(0,(s32.getD 1 u_))]) λt106 w61=>
 pw w61 (Builtin.append_ #[55,55] 55 #[(s32.getD 0 u_),t106]) λt107 w62=>
 bt .eql 3 (s32.getD 1 u_) (i6 0) λt109=>zc t109 (lo w62 22 t3 λt110=>fl w62 t6 43 3 3 λt112=>px 22 t110 t112 λt113=>fl w62 t113 117 1 115 λt115=>px 115 t115 t55 λt117=>fl w62 t117 233 1 43 λt119=>so w62 43 t6 t119 λw63=>K27 [t107] w63) (fl w62 t6 43 4 41 λt121=>xl w62 41 t121 (i6 0) 43 λt123=>so w62 43 t6 t123 λw64=>K27 [t107] w64))) (λs28 _d29 w30=>
 bt .add 3 (s24.getD 1 u_) (i6 1) λt124=>K23 [(s28.getD 0 u_),t124] w30)) (lo w26 43 t6 λt125=>so w26 43 t6 t125 λw65=>pq w65 (zi 43 t6) λr66=>K (.tuple #[r66,(s24.getD 0 u_),tr_]) w65)))))))
theorem af5(h:aaq t0 t1 t2 w K):zd prog ji #[t0,t1,t2] w K:=
 okC false (.s (.r (rz 5 0 42)) (.s (.s (.r (ra 4 0 4 (.grp 17 false (ri 5 4 4) [22] (ra 2 9 0 (.grp 24 false (ri 4 11 4) [28] (rz 1 15 0)))))) (.c (.s (.r (rz 4 0 9)) (.n)) (.n))) (.s (.s (.r (rz 7 0 9)) (.s (.r (ra 3 0 0 (.grp 38 false (ri 3 3 32) [41] (rz 1 6 0)))) (.c (.s (.r (rz 4 0 9)) (.n)) (.n)))) (.s (.r (rz 6 0 2320)) (.s (.s (.r (rz 4 0 4)) (.b (.lp [7,52] (.s (.r (rz 1 0 0)) (.s (.c (.n) (.n)) (.j [7] (.b (.s (.r (rz 3 0 4)) (.s (.r (rz 1 0 0)) (.j [7,13] (.b (.s (.r (ra 3 0 0 (.grp 59 true (ri 3 3 4) [62] (rz 2 6 0)))) (.c (.r (rz 1 0 0)) (.s (.r (ra 3 0 0 (.grp 67 true (ri 3 3 4) [70] (ra 2 6 0 (.grp 72 true (ri 2 8 4) [74] (rz 2 10 0)))))) (.c (.r (rz 1 0 0)) (.s (.r (ra 3 0 0 (.grp 79 true (ri 3 3 4) [82] (rz 2 6 0)))) (.c (.r (rz 1 0 0)) (.s (.r (ra 4 0 4 (.grp 88 false (ri 2 4 0) [90] (ra 2 6 0 (.grp 92 false (ri 9 8 4164) [101] (rz 2 17 0)))))) (.c (.s (.r (rz 4 0 8)) (.n)) (.n)))))))))) (.s (.r (rz 5 0 160)) (.s (.r (rz 2 0 0)) (.c (.r (rz 11 0 2360337)) (.r (rz 5 0 580))))))))) (.r (rz 2 0 0)))))))) (.s (.r (rz 5 0 33)) (.n))))))) func95 rfl (by kernel_rfl) (by kernel_rfl) h
def Ju(t0 t1:Value)(w:World)(K:VW):Prop:=
 pw w (Instr.box 43 t0) λt2 w1=>
 lo w1 22 t1 λt4=>lo w1 43 t2 λt5=>ca qK #[t4,t5] w1 λt6 w2=>
 pp (Op.unary .not t6) λt7=>K t7 w2
theorem adt(h:Ju t0 t1 w K):zd prog aep #[t0,t1] w K:=
 okC false (.s (.r (rz 2 0 2)) (.s (.r (rz 5 0 37)) (.n))) func150 rfl (by kernel_rfl) (by kernel_rfl) h
def Jv(t0 t1:Value)(w:World)(K:VW):Prop:=
 pw w (Instr.box 80 t0) λt2 w1=>
 pw w1 (Instr.box 80 t1) λt3 w2=>
 fl w2.drew t2 80 0 3 λt6=>fl w2.drew t3 80 0 3 λt8=>bf .eql 3 t6 t8 λt9=>za (λK3=>gIf t9 true (fl w2.drew t2 80 1 78 λt12=>pp (Builtin.len_ #[78] 3 #[t12]) λt13=>fl w2.drew t3 80 1 78 λt15=>pp (Builtin.len_ #[78] 3 #[t15]) λt16=>bf .leq 3 t13 t16 λt17=>K3 [t17] w2.drew) (K3 [u_] w2.drew)) (λs4 _d5 w6=>
 zb t9 (s4.getD 0 u_) fa_ λt18=>za (λK7=>gIf t18 true (fl w6 t2 80 1 78 λt21=>fl w6 t3 80 1 78 λt23=>fl w6 t2 80 1 78 λt25=>pp (Builtin.len_ #[78] 3 #[t25]) λt26=>fl w6 t2 80 1 78 λt28=>pp (Builtin.len_ #[78] 3 #[t28]) λt29=>pp (Instr.sliceAt 78 t23 none (some t26) (some t29)) λt30=>ca yX #[t21,t30] w6 λt31 w11=>
 K7 [t31] w11) (K7 [u_] w6)) (λs8 _d9 w10=>
 zb t18 (s8.getD 0 u_) fa_ λt32=>K t32 w10))
theorem adu(h:Jv t0 t1 w K):zd prog xU #[t0,t1] w K:=
 okC false (.s (.r (rz 3 0 10)) (.s (.r (ra 6 0 68 (.grp 10 true (ri 7 6 260) [17] (ra 2 13 0 (.grp 19 true (ri 12 15 8455236) [31] (rz 2 27 0)))))) (.n))) func41 rfl (by kernel_rfl) (by kernel_rfl) h
def Jw(t0 t1 t2 t3 t4:Value)(w:World)(K:VW):Prop:=
 pw w (Instr.box 80 t2) λt7 w1=>
 pw w1 (Instr.box 80 t3) λt8 w2=>
 lo w2 80 t8 λt20=>ca ji #[t0,t1,t20] w2 λt21 w3=>
 pe t21 0 λt22=>pe t21 1 λt23=>pe t21 2 λt24=>pw w3 (Instr.alloc 43 true (.tuple #[])) λt12 w4=>
 so w4 43 t12 t22 λw5=>pp (Op.unary .not t24) λt26=>za (λK6=>gIf t26 false (lo w5 80 t7 λt30=>ca Z5 #[t0,t1,t30] w5 λt31 w10=>
 pp (Op.unary .not t31) λt32=>K6 [t32] w10) (K6 [u_] w5)) (λs7 _d8 w9=>
 zb t26 tr_ (s7.getD 0 u_) λt33=>za (λK11=>gIf t33 false (bt .lss 86 t4 (Value.int .u8 1) λt36=>K11 [t36] w9) (K11 [u_] w9)) (λs12 _d13 w14=>
 zb t33 tr_ (s12.getD 0 u_) λt37=>za (λK15=>gIf t37 false (bt .gtr 86 t4 (Value.int .u8 3) λt40=>K15 [t40] w14) (K15 [u_] w14)) (λs16 _d17 w18=>
 zb t37 tr_ (s16.getD 0 u_) λt41=>zc t41 (K (.tuple #[fa_,(i6 2)]) w18) (lo w18 80 t7 λt42=>lo w18 80 t8 λt43=>ca xU #[t42,t43] w18 λt44 w19=>
 pp (Op.unary .not t44) λt45=>zc t45 (K (.tuple #[fa_,(i6 0)]) w19) (fl w19 t7 80 1 78 λt48=>pp (Builtin.len_ #[78] 3 #[t48]) λt49=>pp (Instr.sliceAt 55 t23 (some t49) none none) λt50=>pp (Builtin.len_ #[55] 3 #[t50]) λt51=>zp [(i6 0)] w19 (λs21 _d22 w23 K20=>
 bf .lss 3 (s21.getD 0 u_) t51 λt53=>zc t53 (xl w23 55 t50 (s21.getD 0 u_) 3 λt55=>ca Yu #[t4] w23 λt58 w24=>
 bf .gtr 3 t55 t58 λt59=>zc t59 (K (.tuple #[fa_,(i6 0)]) w24) (bt .add 3 (s21.getD 0 u_) (i6 1) λt60=>K20 [t60] w24)) (K (.tuple #[tr_,(i6 0)]) w23)))))))
theorem adv{t3 t4:Value}(h:Jw t0 t1 t2 t3 t4 w K):zd prog ZN #[t0,t1,t2,t3,t4] w K:=
 okC false (.s (.r (rz 4 0 10)) (.s (.r (rz 12 0 655504)) (.s (.s (.r (ra 3 0 0 (.grp 27 false (ri 5 3 144) [32] (ra 2 8 0 (.grp 34 false (ri 2 10 0) [36] (ra 2 12 0 (.grp 38 false (ri 2 14 0) [40] (rz 1 16 0)))))))) (.c (.s (.r (rz 2 0 0)) (.n)) (.n))) (.s (.s (.r (rz 4 0 37)) (.c (.s (.r (rz 2 0 0)) (.n)) (.n))) (.s (.s (.r (rz 7 0 16)) (.b (.lp [52] (.s (.r (rz 1 0 0)) (.s (.c (.n) (.n)) (.s (.b (.s (.r (rz 3 0 4)) (.s (.r (rz 4 0 32)) (.c (.s (.r (rz 2 0 0)) (.n)) (.n))))) (.r (rz 2 0 0)))))))) (.s (.r (rz 2 0 0)) (.n))))))) func42 rfl (by kernel_rfl) (by kernel_rfl) h
def Vz(t0:Value)(w:World)(K:VW):Prop:=
 za (λK1=>
 za (λK5=>
 bt .eql 86 t0 (Value.int .u8 3) λt6=>zc t6 (bt .add 3 (i6 0) (i6 1) λt12=>K5 [t12] w) (bt .eql 86 t0 (Value.int .u8 2) λt8=>zc t8 (K5 [(i6 0)] w) (bt .eql 86 t0 (Value.int .u8 1) λt10=>zc t10 (K1 [(i6 0)] w) (K1 [(i6 0)] w)))) (λs6 _d7 w8=>
 bt .add 3 (s6.getD 0 u_) (i6 1) λt14=>K1 [t14] w8)) (λs2 _d3 w4=>
 K (s2.getD 0 u_) w4)
theorem aeB(h:Vz t0 w K):zd prog Yu #[t0] w K:=
 okC false (.s (.r (rz 1 0 0)) (.s (.r (rz 1 0 0)) (.j [3] (.s (.r (rz 1 0 0)) (.b (.s (.b (.j [3] (.b (.s (.b (.s (.s (.s (.r (rz 2 0 0)) (.c (.n) (.n))) (.s (.s (.r (rz 2 0 0)) (.c (.n) (.n))) (.s (.r (rz 2 0 0)) (.c (.n) (.n))))) (.n))) (.r (rz 3 0 0)))) (.r (rz 3 0 0)))) (.n)))) (.s (.r (rz 2 0 0)) (.n))))) func96 rfl (by kernel_rfl) (by kernel_rfl) h
end
end Go.Proofs.Tryz
namespace Go.Proofs
open Go.Sh
section
variable {i cap n:Nat} {l:List Int} {u:UnD} {w:World} {t:TyD} {c x s y:Int} {K:Value→World→Prop} {r:Gh} {p q:Option Addr} {g:GrD} {M:List Asr}
theorem acm{f:Int→Bool}{fv:Value}(hf:∀(x:Int)(K:Value→World→Prop),K (.bool (f x)) w→zD Tryz.prog fv #[.int .i64 x] w K){p:Option Addr}{l:List Int}{cap:Nat}
  (hl:Sl w p (ints l)) (hb:l.length≤1000000000) (h:∀i:Int,(0≤i↔l.any f=true)→K (.int .i64 i) w):zd Tryz.prog Tryz.yS #[.slice p l.length cap,fv] w K:=by
 refine Tryz.kX ?_
 unfold Tryz.xK
 refine gP_ ?_
 refine zj (ι:=Nat) (λi=>[.int .i64 i]) (λi w'=>w'=w∧i≤l.length∧(l.take i).any f=false) (λi=>l.length-i) 0 rfl ⟨rfl,gzl _,by simp⟩ ?_
 rintro i d w' ⟨rfl,hi,hn⟩ K6 hK6
 simp only[gdz]
 refine gP_ ?_
 refine zh (λhlt=>?_) (λhge=>?_)
 ·have hlt:i<l.length:=by omega
  obtain⟨b,off,rfl,hc⟩:=hl.at (i:=i) (by rw[yh];exact hlt)
  refine gP_ ?_
  have hv:(ints l)[i]'(by rw[yh];exact hlt)=.int .i64 l[i]:=by simp[ints]
  rw[hv]at hc
  refine zf (by simpa using hc) ?_
  refine hf _ _ ?_
  have ht:(l.take (i+1)).any f=((l.take i).any f||f l[i]):=by
   rw[List.take_succ_eq_append_getElem hlt,List.any_append];simp only[List.any_cons,List.any_nil,Bool.or_false]
  refine c_b (λhy=>?_) (λhno=>?_)
  ·refine h _ ⟨λ_=>?_,λ_=>Int.natCast_nonneg _⟩
   exact List.any_eq_true.2 ⟨l[i],gem hlt,hy⟩
  ·refine gP_ ?_
   refine hK6 (i+1) _ ⟨rfl,hlt,?_⟩ (by omega)
   rw[ht,hn,hno];rfl
 ·have :i=l.length:=by omega
  subst this
  rw[List.take_length]at hn
  exact h _ ⟨λh=>by omega,λh=>by rw[hn]at h;cases h⟩
theorem VU{f:Int→Bool}{fv:Value}(hf:∀(x:Int)(K:Value→World→Prop),K (.bool (f x)) w→zD Tryz.prog fv #[.int .i64 x] w K){p:Option Addr}{l:List Int}{cap:Nat}
  (hl:Sl w p (ints l)) (hb:l.length≤1000000000) (h:K (.bool (l.any f)) w):zd Tryz.prog Tryz.yc #[.slice p l.length cap,fv] w K:=by
 refine Tryz.kz ?_
 unfold Tryz.xo
 refine acm hf hl hb λi hi=>?_
 refine gP_ ?_
 have e:decide (i≥0)=l.any f:=by
  by_cases hh:l.any f=true
  ·rw[hh];exact gde (hi.2 hh)
  ·rw[Bool.eq_false_iff.2 hh];exact decide_eq_false λh=>hh (hi.1 h)
 rw[e];exact h
abbrev agK:Value:=.agg #[.int .u8 0,.bool false,.int .i64 0,.int .i64 0,.slice none 0 0]
abbrev je:List Value:=[.int .u8 0,.bool false,.int .i64 0,.int .i64 0,.slice none 0 0]
theorem aks{c:List Value}(h:TyG r (.agg c.toArray) t):aej Tryz.prog 41 1 #[(0,.agg c.toArray)]=some (43,c):=by
 obtain⟨q,cap,rfl,_⟩:=yj h
 kernel_rfl
theorem aoE{a:Bool}(h:false = !a):a=true:=by cases a;cases h;rfl
theorem anw{a:Bool}(h:true = !a):a=false:=by cases a;rfl;cases h
theorem amm(t:TyD)(l:List Int):(t.lay l).k=t.k∧(t.lay l).m=t.m∧(t.lay l).st=t.st:=by
 cases t with|mk k m re st of=>exact ⟨rfl,rfl,rfl⟩
theorem ajy(h:t.of=[]):(t.lay l).of=[]:=by rw[Jp h];rfl
theorem adw{u:TyD}(h:t.of=[u]):(t.lay l).of=[u.lay (if t.k=4 then l.tail else l)]:=by rw[vS h];rfl
theorem aeC(h:zt s (n+1) t=true)(h4:t.k=4): -1≤t.re:=by
 rw[yv,if_neg (by omega),if_neg (by omega),if_neg (by omega),if_pos h4]at h
 simp only[gba,gdt]at h
 exact h.1.1
theorem alv:∀(n:Nat){t:TyD},zt s n t=true→∀x∈t.regs,-1≤x:=by
 intro n
 induction n with
 |zero=>intro t h;cases h
 |succ n ih=>
  intro t h x hx
  rcases zB h with⟨ho,hk⟩|⟨u,ho,hu,hk⟩
  ·rw[XM ho,if_neg (by omega)]at hx;cases hx
  ·rw[ZU ho,List.mem_append]at hx
   rcases hx with hx|hx
   ·split at hx
    ·rw[List.mem_singleton.1 hx];exact aeC h (by assumption)
    ·cases hx
   ·exact ih hu x hx
theorem alw:∀(n:Nat){t:TyD}{l:List Int},zt s n t=true→t.regs.length≤l.length→(∀x∈l,-1≤x)→zt s n (t.lay l)=true:=by
 intro n
 induction n with
 |zero=>intro t l h;cases h
 |succ n ih=>
  intro t l h hl hx
  obtain⟨hk1,hk2,hk3⟩:=amm t l
  rcases zB h with⟨ho,hk⟩|⟨u,ho,hu,hk⟩
  ·have e:t.lay l=t:=by
    have he:t=.mk t.k t.m t.re t.st t.of:=by cases t;rfl
    rw[Jp ho,if_neg (by omega)]
    rw[ho]at he;exact he.symm
   rw[e];exact h
  ·have hreg:=congrArg List.length (ZU ho)
   rw[gla]at hreg
   have hin:zt s n (u.lay (if t.k=4 then l.tail else l))=true:=ih hu (by
    split
    ·rename_i h4
     rw[if_pos h4]at hreg
     rw[List.length_tail];simp at hreg;omega
    ·omega) (λx hxm=>hx x (by
     split at hxm
     ·exact List.mem_of_mem_tail hxm
     ·exact hxm))
   rw[yv]at h⊢
   rw[hk1,hk2,hk3]
   rw[adw ho]at *
   rw[if_neg (by omega),if_neg (by omega)]at h⊢
   rcases hk with h3|h4
   ·rw[if_pos h3]at h⊢
    have hre:(t.lay l).re=t.re:=by rw[vS ho];simp only[TyD.re];rw[if_neg (by omega)]
    have hib:inB s n (t.lay l)=true:=by rw[vS ho];exact hin
    rw[hre,hib]
    simp only[gba,gdt,gls]at h⊢
    exact⟨h.1,trivial,trivial⟩
   ·rw[if_neg (by omega),if_pos h4]at h⊢
    have hpos:0<l.length:=by rw[if_pos h4]at hreg;simp at hreg;omega
    have hre:(t.lay l).re=l.headD 0:=by rw[vS ho];simp only[TyD.re];rw[if_pos h4]
    have hib:inB s n (t.lay l)=true:=by rw[vS ho];exact hin
    rw[hre,hib]
    simp only[gba,gdt,gls]at h⊢
    refine⟨⟨?_,h.1.2⟩,trivial,trivial⟩
    cases l with
    |nil=>simp at hpos
    |cons x l=>exact hx x List.mem_cons_self
theorem akt(h:i<l.length):yo (l.take (i+1))=yo (l.take i)+(if l[i]<0 then 1 else 0):=by
 induction l generalizing i with
 |nil=>cases h
 |cons a l ih=>
  cases i with
  |zero=>simp [yo]
  |succ i=>
   rw[List.take_succ_cons,List.take_succ_cons,yo,yo,ih (by simpa using h),List.getElem_cons_succ];omega
theorem aeD(h:i<l.length):(yN l c)[i]'(by rw[vy];exact h)=if l[i]<0 then c+yo (l.take i)else l[i]:=by
 induction l generalizing i c with
 |nil=>cases h
 |cons a l ih=>
  cases i with
  |zero=>
   by_cases ha:a<0
   ·simp[yN,ha,yo]
   ·simp[yN,ha]
  |succ i=>
   have hi:i<l.length:=by simpa using h
   by_cases ha:a<0
   ·have:=ih (c:=c+1) hi
    simp only[yN,if_pos ha,List.getElem_cons_succ,List.take_succ_cons,yo]
    rw[this];split<;>omega
   ·have:=ih (c:=c) hi
    simp only[yN,if_neg ha,List.getElem_cons_succ,List.take_succ_cons,yo]
    rw[this];split<;>omega
theorem vz:∀l:List TyD,0≤zU l
 |[]=>Int.le_refl _
 |t::l=>by have:=vz l;have:=(Xk (regsT t)).1;rw[zU];omega
theorem afx{l:List TyD}(h:i<l.length):zU (l.take (i+1))=zU (l.take i)+yo (regsT l[i]):=by
 induction l generalizing i with
 |nil=>cases h
 |cons a l ih=>
  cases i with
  |zero=>simp [zU]
  |succ i=>rw [List.take_succ_cons,List.take_succ_cons,zU,zU,ih (by simpa using h),List.getElem_cons_succ];omega
theorem aeE{l:List TyD}(h:i<l.length):(kc l c)[i]'(by rw[kC];exact h)=l[i].lay (yN (regsT l[i]) (c+zU (l.take i))):=by
 induction l generalizing i c with
 |nil=>cases h
 |cons a l ih=>
  cases i with
  |zero=>simp [kc,zU]
  |succ i=>
   have:=ih (c:=c+yo (regsT a)) (i:=i) (by simpa using h)
   simp only[kc,List.getElem_cons_succ,List.take_succ_cons,zU]
   rw[this,Int.add_assoc]
theorem aku{l:List TyD}(h:i<l.length):kc (l.take (i+1)) c=kc (l.take i) c++[l[i].lay (yN (regsT l[i]) (c+zU (l.take i)))]:=by
 induction l generalizing i c with
 |nil=>cases h
 |cons a l ih=>
  cases i with
  |zero=>simp [kc,zU]
  |succ i=>
   have:=ih (c:=c+yo (regsT a)) (i:=i) (by simpa using h)
   rw[List.take_succ_cons,List.take_succ_cons,kc,kc,this,zU,List.getElem_cons_succ,Int.add_assoc];rfl
theorem acn{l:List PtD}(h:i<l.length):atC u (l.take (i+1))=atC u (l.take i)+ptN u l[i]:=by
 induction l generalizing i with
 |nil=>cases h
 |cons a l ih=>
  cases i with
  |zero=>simp [atC]
  |succ i=>rw [List.take_succ_cons,List.take_succ_cons,atC,atC,ih (by simpa using h),List.getElem_cons_succ];omega
theorem alx{l:List PtD}(h:i<l.length):atK u (l.take (i+1)) c=atK u (l.take i) c++[if ptN u l[i]=0 then -1 else c+atC u (l.take i)]:=by
 induction l generalizing i c with
 |nil=>cases h
 |cons a l ih=>
  cases i with
  |zero=>simp [atK,atC]
  |succ i=>
   have:=ih (c:=c+ptN u a) (i:=i) (by simpa using h)
   rw[List.take_succ_cons,List.take_succ_cons,atK,atK,this,atC,List.getElem_cons_succ,Int.add_assoc];rfl
theorem akv{l:List PtD}(h:i<l.length):(atK u l c)[i]'(by rw[ZX];exact h)=if ptN u l[i]=0 then -1 else c+atC u (l.take i):=by
 induction l generalizing i c with
 |nil=>cases h
 |cons a l ih=>
  cases i with
  |zero=>simp [atK,atC]
  |succ i=>
   have:=ih (c:=c+ptN u a) (i:=i) (by simpa using h)
   simp only[atK,List.getElem_cons_succ,List.take_succ_cons,atC]
   rw[this,Int.add_assoc]
theorem XS{l:List PtD}(h:∀p∈l,0≤ptN u p)(i:Nat):0≤atC u (l.take i)∧atC u (l.take i)≤atC u l:=by
 induction l generalizing i with
 |nil=>simp [atC]
 |cons a l ih=>
  have ha:=h a List.mem_cons_self
  cases i with
  |zero=>
   have:=ih (λp hp=>h p (List.mem_cons_of_mem _ hp)) l.length
   rw[List.take_length]at this
   rw[List.take_zero,atC,atC];omega
  |succ i=>
   have:=ih (λp hp=>h p (List.mem_cons_of_mem _ hp)) i
   rw[List.take_succ_cons,atC,atC];omega
def zP(f:Nat→Nat→Bool):List Value:=(List.range 64).map λk=>.bool (f (k/8) (k%8))
theorem vA{f:Nat→Nat→Bool}:(zP f).length=64:=by rw[zP,List.length_map,List.length_range]
theorem aeF{f:Nat→Nat→Bool}{k:Nat}(h:k<64):(zP f)[k]? = some (.bool (f (k/8) (k%8))):=by
 rw[zP,List.getElem?_map,List.getElem?_range h];rfl
theorem aly{f:Nat→Nat→Bool}{x y:Nat}(hx:x<8)(hy:y<8):(zP f)[x*8+y]? = some (.bool (f x y)):=by
 rw[aeF (by omega),show (x*8+y)/8=x by omega,show (x*8+y)%8=y by omega]
theorem yO{f g:Nat→Nat→Bool}(h:∀x y,x<8→y<8→f x y=g x y):zP f=zP g:=by
 refine List.map_congr_left λk hk=>?_
 have:=List.mem_range.1 hk
 rw[h _ _ (by omega) (by omega)]
theorem J4{f:Nat→Nat→Bool}{x y:Nat}(hx:x<8)(hy:y<8):(zP f).set (x*8+y) (.bool true)=zP λa b=>f a b||(decide (a=x)&&decide (b=y)):=by
 refine List.ext_getElem? λk=>?_
 by_cases hk:k<64
 ·rw[List.getElem?_set,aeF hk,aeF hk]
  by_cases e:x*8+y=k
  ·rw[if_pos e,if_pos (by rw[vA];omega)]
   subst e
   rw[show (x*8+y)/8=x by omega,show (x*8+y)%8=y by omega];simp
  ·rw[if_neg e]
   by_cases e1:k/8=x
   ·rw[decide_eq_false (show¬k%8=y by omega),Bool.and_false,Bool.or_false]
   ·rw[decide_eq_false e1,Bool.false_and,Bool.or_false]
 ·rw[List.getElem?_eq_none (by rw[List.length_set,vA];omega),List.getElem?_eq_none (by rw[vA];omega)]
theorem afy{a:Int}:qw x y (a::l)=((decide (a=y)&&l.contains x)||qw x y l):=rfl
theorem aht(h:i<l.length):(l.take (i+1)).contains x=((l.take i).contains x||decide (x=l[i])):=by
 rw[List.take_succ_eq_append_getElem h,List.contains_eq_any_beq,List.any_append,← List.contains_eq_any_beq]
 simp only[List.any_cons,List.any_nil,Bool.or_false]
 congr 1
theorem afz{l:List TyD}(h:i<l.length):vk (l.take (i+1)) x y=(vk (l.take i) x y||qw x y (regsT l[i])):=by
 rw[List.take_succ_eq_append_getElem h,vk,List.any_append,vk]
 simp only[List.any_cons,List.any_nil,Bool.or_false]
theorem afA{l:List (Int×Int)}(h:i<l.length):jF (l.take (i+1)) x y=(jF (l.take i) x y||(decide (x=l[i].1)&&decide (y=l[i].2))):=by
 rw[jF,List.take_succ_eq_append_getElem h,List.contains_eq_any_beq,List.any_append,← List.contains_eq_any_beq,← jF]
 simp only[List.any_cons,List.any_nil,Bool.or_false]
 congr 1
def qT(lv:Int):Option (Int×Int)→List (Int×Int)→Bool
 |_,[]=>true
 |w,o::l=>(kJ lv o&&(match w with|none=>true|some w=>Zr w o))&&qT lv (some o) l
theorem afB(lv:Int):∀(l:List (Int×Int))(w:Int×Int),qT lv (some w) l=(l.all (kJ lv)&&adp (w::l))
 |[],w=>rfl
 |o::l,w=>by
  rw[qT,afB lv l o,List.all_cons,adp]
  cases kJ lv o<;>cases Zr w o<;>cases l.all (kJ lv)<;>simp
theorem afC(lv:Int)(l:List (Int×Int)):qT lv none l=(l.all (kJ lv)&&adp l):=by
 cases l with
 |nil=>rfl
 |cons o l=>
  rw[qT,afB lv l o,List.all_cons]
  cases kJ lv o<;>cases l.all (kJ lv)<;>simp
theorem amH{lv:Int}{w:Option (Int×Int)}{l:List (Int×Int)}(h:i<l.length):qT lv w (l.drop i)=((kJ lv l[i]&&(match w with|none=>true|some w=>Zr w l[i]))&&qT lv (some l[i]) (l.drop (i+1))):=by
 rw[List.drop_eq_getElem_cons h];rfl
theorem not_lt{o w:Int×Int}:(decide (o.1<w.1)||(decide (w.1=o.1)&&decide (o.2≤w.2))) = !Zr w o:=by
 unfold Zr
 rcases Int.lt_trichotomy o.1 w.1 with h|h|h
 ·rw[gde h,decide_eq_false (show¬w.1<o.1 by omega),decide_eq_false (show¬w.1=o.1 by omega)];rfl
 ·rw[decide_eq_false (show¬o.1<w.1 by omega),decide_eq_false (show¬w.1<o.1 by omega),gde (show w.1=o.1 by omega)]
  by_cases h2:o.2≤w.2
  ·rw[gde h2,decide_eq_false (show¬w.2<o.2 by omega)];rfl
  ·rw[decide_eq_false h2,gde (show w.2<o.2 by omega)];rfl
 ·rw[decide_eq_false (show¬o.1<w.1 by omega),gde (show w.1<o.1 by omega),decide_eq_false (show¬w.1=o.1 by omega)];rfl
theorem ajz(h:i<n):(List.range n).drop i=i::(List.range n).drop (i+1):=by
 rw[List.drop_eq_getElem_cons (by rwa[List.length_range]),List.getElem_range]
theorem vW{f:Nat→Bool}(h:i<n):((List.range n).drop i).all f=(f i&&((List.range n).drop (i+1)).all f):=by rw[ajz h,List.all_cons]
theorem vX{f:Nat→Bool}:((List.range n).drop n).all f=true:=by rw[List.drop_of_length_le (by rw[List.length_range];exact Nat.le_refl _)];rfl
theorem afD{l:List TyD}:jS u g i (t::l)=(tyG u g i t&&jS u g (i+1) l):=rfl
theorem afE{j:Nat}{l:List TyD}(h:i<l.length):jS u g j (l.drop i)=(tyG u g j l[i]&&jS u g (j+1) (l.drop (i+1))):=by rw[List.drop_eq_getElem_cons h];rfl
theorem ahu{u:UnD}{g:GrD}:∀{l:List TyD}{i:Nat},jS u g i l=true→∀t∈l,mayB u.ss t=true
 |[],i,_,t,ht=>by cases ht
 |x::l,i,h,t,ht=>by
  rw[afD,gba]at h
  rcases List.mem_cons.1 ht with rfl|ht
  ·have:=h.1
   rw[tyG,gba]at this
   exact this.1
  ·exact ahu h.2 t ht
theorem aco{u:UnD}{g:GrD}:∀{l:List TyD}{i:Nat},jS u g i l=true→∀{j:Nat}(hj:j<l.length),((i+j:Nat):Int)≤g.pn→∀x∈regsT l[j],0≤x∧x<g.lv
 |[],i,_,j,hj,_=>absurd hj (Nat.not_lt_zero _)
 |y::l,i,h,j,hj,hle=>by
  rw[afD,gba]at h
  cases j with
  |zero=>
   have:=h.1
   rw[tyG,gba,List.all_eq_true]at this
   intro x hx
   have:=this.2 x hx
   rw[if_pos (by omega)]at this
   simp only[Bool.not_eq_true',Bool.or_eq_false_iff,decide_eq_false_iff_not]at this
   omega
  |succ j=>exact aco h.2 (j:=j) (by simpa using hj) (by omega)
theorem J5{l:List PtD}(h:i<l.length):yE (l.take (i+1))=yE (l.take i)+(if l[i].op=4 then 1 else 0):=by
 rw[List.take_succ_eq_append_getElem h,yE,List.countP_append,yE]
 congr 1
 rw[List.countP_singleton]
 by_cases e:l[i].op=4<;>simp [e]
theorem Sl.tail{a:Int}(h:Sl w p (ints (a::l)))(hc:(a::l).length≤cap):Sl w (if cap=(1:Int).toNat then p else p.map (·.add ((1:Int).toNat*1))) (ints l):=λi v hv=>by
 have h1:=h (i+1) v (by simpa [ints]using hv)
 have hi:i<l.length:=by
  have:=(List.getElem?_eq_some_iff.1 hv).1
  rwa[yh]at this
 obtain⟨b,off,hp,hcell⟩:=h1
 rw[List.length_cons]at hc
 rw[if_neg (show¬cap=(1:Int).toNat by have :(1:Int).toNat=1:=rfl;omega),hp,Option.map_some,k9]
 exact⟨b,off+1,rfl,by rwa[show off+1+i=off+(i+1)by omega]⟩
abbrev fvI(b3 b4:Nat):Value:=.func (.func Tryz.YR) #[] #[.pointer (some ⟨b3,0,none⟩),.pointer (some ⟨b4,0,none⟩)]
abbrev J6(f:Nat→Nat→Bool)(l:List Int):Nat→Nat→Bool:=λx y=>f x y||qw x y l
abbrev YK(f:Nat→Nat→Bool)(a:Int)(l:List Int):Nat→Nat→Bool:=λx y=>f x y||(decide (a=(y:Int))&&l.contains (x:Int))
theorem aip{b3 b4 bt:Nat}{M:List Asr}{w0:World}:∀(l:List Int){p:Option Addr}{cap:Nat}{f:Nat→Nat→Bool}{w:World}{K:Value→World→Prop},(∀x∈l,0≤x∧x<8)→(Ob r λw=>Sl w p (ints l))→l.length≤cap→l.length≤1000→
  StX noX w0 r w (.cell b4 [fvI b3 b4] 143::.cell b3 [.pointer (some ⟨bt,0,none⟩)] 298::.cell bt (zP f) 296::M)→
  (∀w',StX noX w0 r w' (.cell b4 [fvI b3 b4] 143::.cell b3 [.pointer (some ⟨bt,0,none⟩)] 298::.cell bt (zP (J6 f l)) 296::M)→K (.tuple #[]) w')→
  zD Tryz.prog (fvI b3 b4) #[.slice p l.length cap] w K:=by
 intro l
 induction l with
 |nil=>
  intro p cap f w K hx hl hc hb S h
  refine adg (by kernel_rfl) ?_
  refine Tryz.Yk ?_
  unfold Tryz.jR
  refine gP_ ?_
  refine gP_ ?_
  refine c_t (by simp) ?_
  refine h _ ?_
  rw[yO (g:=f) (λx y _ _=>by show(f x y||qw x y [])=f x y;rw[qw,Bool.or_false])]
  exact S
 |cons a l ih=>
  intro p cap f w K hx hl hc hb S h
  refine adg (by kernel_rfl) ?_
  refine Tryz.Yk ?_
  unfold Tryz.jR
  obtain⟨ha0,ha8⟩:=hx a List.mem_cons_self
  have hxl:∀x∈l,0≤x∧x<8:=λx h=>hx x (List.mem_cons_of_mem _ h)
  have hal:(a::l).length=l.length+1:=List.length_cons
  have hll:l.length≤1000:=by rw[List.length_cons]at hb;omega
  have hlc:l.length+1≤cap:=by rwa[List.length_cons]at hc
  have hsl:Ob r λw=>Sl w (if cap=(1:Int).toNat then p else p.map (·.add ((1:Int).toNat*1))) (ints l):=λw k=>Sl.tail (hl w k) hc
  have hlen:(a::l).length-(1:Int).toNat=l.length:=by simp
  obtain⟨bp,op,rfl,hcell⟩:=vT (S.at hl) (i:=0) (by simp)
  refine gP_ ?_
  refine gP_ ?_
  refine c_f (by rw[List.length_cons];exact decide_eq_false (by omega)) ?_
  refine gP_ ?_
  rw[hlen]
  refine gP_ ?_
  obtain⟨p2,hp2⟩:∃p2,(if cap=(1:Int).toNat then(some ⟨bp,op,none⟩:Option Addr)else(some ⟨bp,op,none⟩:Option Addr).map (·.add ((1:Int).toNat*1)))=p2:=⟨_,rfl⟩
  rw[hp2]at hsl⊢
  refine zj (ι:=Nat) (λi=>[.int .i64 (i:Nat)]) (λi w'=>i≤l.length∧StX noX w0 r w' (.cell b4 [fvI b3 b4] 143::.cell b3 [.pointer (some ⟨bt,0,none⟩)] 298::.cell bt (zP (YK f a (l.take i))) 296::M)) (λi=>l.length-i) 0 rfl
   ⟨gzl _,by
    rw[yO (f:=YK f a (l.take 0)) (g:=f) (λx y _ _=>by simp[YK])]
    exact S⟩ ?_
  clear S
  rintro i d w1 ⟨hi,S⟩ K6 hK6
  rw[gdz]
  refine gP_ ?_
  refine zh (λhlt=>?_) (λhge=>?_)
  ·have hlt:i<l.length:=by omega
   obtain⟨bq,oq,rfl,hcell2⟩:=vT (S.at hsl) hlt
   obtain⟨hi0,hi8⟩:=hxl _ (gem hlt)
   have S:=S.go (Ext.drew _)
   refine gP_ ?_
   refine zf (v:=.int .i64 l[i]) (by simpa using hcell2) ?_
   refine S.ld (b:=b3) ?_ rfl
   refine gP_ ?_
   have hc0:=(S.at hl 0 (.int .i64 a) (by simp[ints]))
   refine zf (v:=.int .i64 a) (by obtain⟨b',o',h1,h2⟩:=hc0;cases h1;simpa using h2) ?_
   refine gG_ ?_
   refine S.st (b:=bt) (λw2 S=>?_) (by rw[vA];omega)
   refine gP_ ?_
   rw[show ((i:Int)+1)=((i+1:Nat):Int)by omega]
   refine hK6 (i+1) _ ⟨hlt,?_⟩ (by omega)
   rw[show 0+l[i].toNat*8+a.toNat*1=l[i].toNat*8+a.toNat by omega,J4 (by omega) (by omega)]at S
   rw[yO (f:=YK f a (l.take (i+1))) (g:=λx y=>YK f a (l.take i) x y||(decide (x=l[i].toNat)&&decide (y=a.toNat))) (λx y _ _=>by
    show(f x y||(decide (a=(y:Int))&&(l.take (i+1)).contains (x:Int)))=((f x y||(decide (a=(y:Int))&&(l.take i).contains (x:Int)))||(decide (x=l[i].toNat)&&decide (y=a.toNat)))
    rw[aht hlt,show decide ((x:Int)=l[i])=decide (x=l[i].toNat)from decide_eq_decide.2 (by omega),show decide (a=(y:Int))=decide (y=a.toNat)from decide_eq_decide.2 (by omega)]
    cases f x y<;>cases decide (y=a.toNat)<;>cases (l.take i).contains (x:Int)<;>cases decide (x=l[i].toNat)<;>rfl)]
   exact S
  ·have hie:i=l.length:=by omega
   rw[hie,List.take_length]at S
   have S:=S.go (Ext.drew _)
   refine S.ld (b:=b4) ?_ rfl
   refine gP_ ?_
   rw[hlen,hp2]
   refine ih hxl hsl (by show l.length≤cap-(1:Int).toNat;have :(1:Int).toNat=1:=rfl;omega) hll S λw2 S=>?_
   refine h _ ?_
   rw[yO (f:=J6 f (a::l)) (g:=J6 (YK f a l) l) (λx y _ _=>by
    show(f x y||qw x y (a::l))=((f x y||(decide (a=(y:Int))&&l.contains (x:Int)))||qw x y l)
    rw[afy,Bool.or_assoc])]
   exact S
abbrev acp(f:Nat→Nat→Bool)(l:List TyD):Nat→Nat→Bool:=λx y=>f x y||vk l x y
theorem adx{bt:Nat}{M:List Asr}{w0:World}{l:List TyD}{cap:Nat}{f:Nat→Nat→Bool}{w:World}{K:Value→World→Prop}(hl:TysG r q l)(hn:l.length≤maxLen)(hx:∀t∈l,∀x∈regsT t,0≤x∧x<8)
  (S:StX noX w0 r w (.cell bt (zP f) 296::M))
  (h:∀w',StX noX w0 r w' (.cell bt (zP (acp f l)) 296::M)→K (.tuple #[]) w'):zd Tryz.prog Tryz.Zh #[.slice q l.length cap,.pointer (some ⟨bt,0,none⟩)] w K:=by
 refine Tryz.ab8 ?_
 unfold Tryz.Qj
 have hn':l.length≤9223372036854775807:=hn
 refine S.box λb3 w1 S=>?_
 refine S.al λb4 w2 S=>?_
 refine gP_ ?_
 refine S.st (b:=b4) λw3 S=>?_
 refine gP_ ?_
 refine zj (ι:=Nat) (λi=>[.int .i64 (i:Nat)]) (λi w'=>i≤l.length∧StX noX w0 r w' (.cell b4 [fvI b3 b4] 143::.cell b3 [.pointer (some ⟨bt,0,none⟩)] 298::.cell bt (zP (acp f (l.take i))) 296::M)) (λi=>l.length-i) 0 rfl
  ⟨gzl _,by
   rw[yO (f:=acp f (l.take 0)) (g:=f) (λx y _ _=>by simp[acp,vk])]
   exact S⟩ ?_
 clear S
 rintro i d w4 ⟨hi,S⟩ K6 hK6
 rw[gdz]
 refine gP_ ?_
 refine zh (λhlt=>?_) (λhge=>?_)
 ·have hlt:i<l.length:=by omega
  obtain⟨b1,o1,c1,rfl,hc1,htc,hto⟩:=hl i hlt
  obtain⟨q2,cap2,rfl,ht2⟩:=yj hto
  refine gP_ ?_
  refine zo (n:=5) hc1 (λj v hj=>by rw[tnc];exact S.at (htc j v hj)) ?_
  refine S.al λb6 w5 S=>?_
  refine S.stB (b:=b6) λw6 S=>?_
  have S:=S.go (Ext.drew _)
  refine S.ld (b:=b4) ?_ rfl
  refine S.ldB (b:=b6) ?_ rfl
  refine kA S.holds ht2 λv7 w7 e7 o7=>⟨e7,?_⟩
  obtain⟨s1,p1,cap1,n1,nb1,rfl,_,hc1,hs1⟩:=ag8 o7
  have S:=S.new e7 n1
  have S:=S.drop b6
  have hr48:(regsT l[i]).length≤1000:=by
   rw[regsT];split
   ·have:=jo (by assumption);omega
   ·simp
  refine aip (regsT l[i]) (λx h=>hx _ (gem hlt) x h) hs1.up hc1 hr48 S λw8 S=>?_
  refine gP_ ?_
  rw[show ((i:Int)+1)=((i+1:Nat):Int)by omega]
  refine hK6 (i+1) _ ⟨hlt,?_⟩ (by omega)
  have S:=S.to r
  rw[yO (f:=acp f (l.take (i+1))) (g:=J6 (acp f (l.take i)) (regsT l[i])) (λx y _ _=>by
   show(f x y||vk (l.take (i+1)) x y)=((f x y||vk (l.take i) x y)||qw x y (regsT l[i]))
   rw[afz hlt,Bool.or_assoc])]
  exact S
 ·have hie:i=l.length:=by omega
  rw[hie,List.take_length]at S
  exact h _ S.tl.tl
theorem TysG.take{s:Gh}{ts:List TyD}(h:TysG s q ts)(n:Nat):TysG s q (ts.take n):=λi hi=>by
 rw[List.length_take]at hi
 obtain⟨b,off,c,h1,h2,h3,h4⟩:=h i (by omega)
 refine⟨b,off,c,h1,h2,h3,?_⟩
 rw[List.getElem_take];exact h4
theorem j0{f:Nat→Nat→Bool}{a b:Nat}(ha:a<8)(hb:b<8):(zP f)[0+((a:Nat):Int).toNat*8+((b:Nat):Int).toNat*1]? = some (.bool (f a b)):=by
 rw[show 0+((a:Nat):Int).toNat*8+((b:Nat):Int).toNat*1=a*8+b by omega]
 exact aly ha hb
abbrev syF(l:List (Int×Int)):Nat→Nat→Bool:=λx y=>jF l (x:Int) (y:Int)
abbrev muF(l:List TyD):Nat→Nat→Bool:=λx y=>vk l (x:Int) (y:Int)
def clH(sy:Nat→Nat→Bool)(a b c:Nat):Bool:=!((sy a b&&sy b c)&&(!decide (a=c) && !sy a c))
def clG(n:Nat)(mu sy:Nat→Nat→Bool)(a b:Nat):Bool:=(List.range n).all (clH sy a b) && !(!decide (a=b)&&(mu a b && !sy a b))
def clF(n:Nat)(mu sy:Nat→Nat→Bool)(a:Nat):Bool:=(List.range n).all (clG n mu sy a)
theorem aiY(n:Nat)(l:List TyD)(o:List (Int×Int)):ajw n (vk l) (jF o)=(List.range n).all (clF n (muF l) (syF o)):=by
 unfold ajw clF clG clH;simp only[decide_not,Int.natCast_inj]
def jf(l:List (Int×Int))(i:Nat):Option (Int×Int):=if i=0 then none else l[i-1]?
def ajA(w:Option (Int×Int))(o:Int×Int):Bool:=match w with|none=>true|some w=>Zr w o
theorem ahv{lv:Int}{l:List (Int×Int)}(h:i<l.length):qT lv (jf l i) (l.drop i)=((kJ lv l[i]&&ajA (jf l i) l[i])&&qT lv (jf l (i+1)) (l.drop (i+1))):=by
 rw[amH h,jf,jf,if_neg (Nat.succ_ne_zero i),Nat.add_sub_cancel,gqg h];rfl
theorem acq{c:List Value}{K:Value→World→Prop}(hr:Holds r w)(hg:GrG r c g)(hlv0:0≤g.lv)(hlv8:g.lv≤8)(hpn0:0≤g.pn)(hpn1:g.pn<g.tys.length)
  (hx:∀t∈g.tys.take (g.pn.toNat+1),∀x∈regsT t,0≤x∧x<8) (h:∀w',Ext w w'→K (.bool (jG g)) w'):zd Tryz.prog Tryz.vr #[.agg c.toArray] w K:=by
 obtain⟨vo,vt,vn,vp,rfl,h1,h2,h3,h4⟩:=hg
 obtain⟨qo,capo,rfl,_,_⟩:=h1.sl.shape
 obtain⟨qt,capt,rfl,_,hct⟩:=h2.sl.shape
 obtain⟨qn,capn,rfl,_,_⟩:=h3.sl.shape
 obtain⟨qp,capp,rfl,_,_⟩:=h4.sl.shape
 have hol:g.outs.length≤9223372036854775807:=h1.few
 have htl:g.tys.length≤9223372036854775807:=h2.few
 refine Tryz.abh ?_
 unfold Tryz.XC
 have S:=St.start hr
 refine S.box λb1 w1 S=>?_
 refine S.al λb3 w2 S=>?_
 refine S.al λb4 w3 S=>?_
 have S:StX noX w r w3 (.cell b3 (zP λ_ _=>false) 296::[.cell b4 (zP λ_ _=>false) 296,.cell b1 [.string g.name,.int .i64 g.lv,.slice qo g.outs.length capo,.int .i64 g.pn,.slice qt g.tys.length capt,.slice qn g.nms.length capn,.slice qp g.pts.length capp] 101]):=S.swap
 refine gG_ ?_
 rw[show (g.pn+1).toNat=(g.tys.take (g.pn.toNat+1)).length by rw[List.length_take];omega]
 refine adx (l:=g.tys.take (g.pn.toNat+1)) ((vV h2.sl).take _) (by rw[List.length_take];have:=h2.few;omega) hx S λw4 S=>?_
 have S:StX noX w r w4 ([.cell b3 (zP (muF (g.tys.take (g.pn.toNat+1)))) 296,.cell b4 (zP λ_ _=>false) 296,.cell b1 [.string g.name,.int .i64 g.lv,.slice qo g.outs.length capo,.int .i64 g.pn,.slice qt g.tys.length capt,.slice qn g.nms.length capn,.slice qp g.pts.length capp] 101]):=by
  rw[yO (f:=muF (g.tys.take (g.pn.toNat+1))) (g:=acp (λ_ _=>false) (g.tys.take (g.pn.toNat+1))) (λx y _ _=>(Bool.false_or _).symm)]
  exact S
 rw[jG,← afC,aiY]at h
 generalize hmu:muF (g.tys.take (g.pn.toNat+1))=mu at h S
 refine gG_ ?_
 refine zj (ι:=Nat) (λi=>[.int .i64 (i:Nat)]) (λi w'=>i≤g.outs.length∧qT g.lv (jf g.outs i) (g.outs.drop i)=qT g.lv none g.outs∧
  StX noX w r w' ([.cell b3 (zP mu) 296,.cell b4 (zP (syF (g.outs.take i))) 296,.cell b1 [.string g.name,.int .i64 g.lv,.slice qo g.outs.length capo,.int .i64 g.pn,.slice qt g.tys.length capt,.slice qn g.nms.length capn,.slice qp g.pts.length capp] 101])) (λi=>g.outs.length-i) 0 rfl
  ⟨gzl _,rfl,by
   rw[yO (f:=syF (g.outs.take 0)) (g:=λ_ _=>false) (λx y _ _=>by simp[syF,jF])]
   exact S⟩ ?_
 clear S
 rintro i d w5 ⟨hi,hd,S⟩ K6 hK6
 rw[gdz]
 refine gP_ ?_
 refine zh (λhlt=>?_) (λhge=>?_)
 ·have hlt:i<g.outs.length:=by omega
  obtain⟨bo,oo,co,rfl,hco,hoo,hoc⟩:=h1.sl.get (by decide) hlt
  obtain rfl:co=_:=hoo
  rw[ahv hlt]at hd
  have hgo:=λ(j:Nat) (hj:j<g.outs.length)=>h1.sl.get (by decide) hj
  obtain⟨⟨o1,o2⟩,ho⟩:∃o,g.outs[i]=o:=⟨_,rfl⟩
  rw[ho]at hd
  have hst:syF (g.outs.take (i+1))=λx y=>syF (g.outs.take i) x y||(decide ((x:Int)=o1)&&decide ((y:Int)=o2)):=by
   funext x y
   show jF _ _ _=(jF _ _ _||_)
   rw[afA hlt,ho]
  refine gP_ ?_
  refine zo (n:=2) hco (λj v hj=>by rw[tnc];exact S.at (hoc j v hj)) ?_
  rw[ho]
  refine S.al λb6 w6 S=>?_
  refine S.stB (b:=b6) λw7 S=>?_
  refine gG_ ?_
  refine zn (c:=decide (g.lv≤max o1 o2)) (λ_ K2 hK2=>?_) ?_
  ·refine gG_ ?_
   exact hK2
  refine zn (c:=decide (o1=o2)) (λ_ K2 hK2=>?_) ?_
  ·refine gG_ ?_
   exact hK2
  refine c_b (λhbad=>?_) (λhgood=>?_)
  ·have hin:kJ g.lv (o1,o2)=false:=by rw[kJ,hbad];rfl
   rw[hin,Bool.false_and,Bool.false_and]at hd
   rw[← hd,Bool.false_and]at h
   exact h _ S.ext
  have hin:kJ g.lv (o1,o2)=true:=by rw[kJ,hgood];rfl
  rw[hin,Bool.true_and]at hd
  have hrg:(0≤o1∧o1<8)∧(0≤o2∧o2<8):=by
   simp only[Bool.or_eq_false_iff,decide_eq_false_iff_not]at hgood;omega
  clear hgood hin
  obtain⟨⟨ho10,ho18⟩,ho20,ho28⟩:=hrg
  refine zk (λ_ w'=>ajA (jf g.outs i) (o1,o2)=true∧StX noX w r w' ([.cell b6 [.int .i64 o1,.int .i64 o2] 194,.cell b3 (zP mu) 296,.cell b4 (zP (syF (g.outs.take i))) 296,.cell b1 [.string g.name,.int .i64 g.lv,.slice (some ⟨bo,oo,none⟩) g.outs.length capo,.int .i64 g.pn,.slice qt g.tys.length capt,.slice qn g.nms.length capn,.slice qp g.pts.length capp] 101])) (λK9 hK9=>?_) ?_
  ·refine gP_ ?_
   refine zh (λhpos=>?_) (λhz=>?_)
   ·have hpos:0<i:=by omega
    have hlt2:i-1<g.outs.length:=by omega
    obtain⟨bo2,oo2,co2,hbe,hco2,hoo2,hoc2⟩:=h1.sl.get (by decide) hlt2
    obtain rfl:co2=_:=hoo2
    cases hbe
    have hpv:jf g.outs i=some g.outs[i-1]:=by rw[jf,if_neg (by omega),gqg hlt2]
    rw[hpv]at hd hK9
    obtain⟨⟨p1,p2⟩,hp⟩:∃o,g.outs[i-1]=o:=⟨_,rfl⟩
    rw[hp]at hd hK9
    refine gG_ ?_
    refine zo (n:=2) hco2 (λj v hj=>by rw[show ((i:Int)-1).toNat=i-1 by omega];exact S.at (hoc2 j v hj)) ?_
    rw[hp]
    refine S.al λb7 w8 S=>?_
    refine S.stB (b:=b7) λw9 S=>?_
    refine gG_ ?_
    refine ZY (g:=decide (p1=o1)) (c:=decide (o2≤p2)) (λ_ K2 hK2=>?_) (λ_ K2 hK2=>?_) ?_
    ·refine gG_ ?_
     exact hK2
    ·refine gG_ ?_
     exact hK2
    rw[not_lt (o:=(o1,o2)) (w:=(p1,p2))]
    refine c_b (λhb=>?_) (λhb=>?_)
    ·have hb:Zr (p1,p2) (o1,o2)=false:=by simpa using hb
     rw[show ajA (some (p1,p2)) (o1,o2)=Zr (p1,p2) (o1,o2)from rfl,hb,Bool.false_and]at hd
     rw[← hd,Bool.false_and]at h
     exact h _ S.ext
    ·have hb:Zr (p1,p2) (o1,o2)=true:=by simpa using hb
     exact hK9 _ _ ⟨hb,S.drop b7⟩
   ·have hz:i=0:=by omega
    refine hK9 _ _ ⟨?_,S⟩
    rw[hz];rfl
  clear S
  rintro _ w10 ⟨haf,S⟩ d10
  have S:=S.go (Ext.drew _)
  rw[haf,Bool.true_and]at hd
  refine gG_ ?_
  refine S.st (b:=b4) (λw11 S=>?_) (by rw[vA];omega)
  refine gP_ ?_
  rw[show ((i:Int)+1)=((i+1:Nat):Int)by omega]
  refine hK6 (i+1) _ ⟨hlt,hd,?_⟩ (by omega)
  rw[show 0+o1.toNat*8+o2.toNat*1=o1.toNat*8+o2.toNat by omega,J4 (by omega) (by omega)]at S
  rw[hst,yO (f:=λx y=>syF (g.outs.take i) x y||(decide ((x:Int)=o1)&&decide ((y:Int)=o2))) (g:=λx y=>syF (g.outs.take i) x y||(decide (x=o1.toNat)&&decide (y=o2.toNat))) (λx y _ _=>by
   show(syF (g.outs.take i) x y||(decide ((x:Int)=o1)&&decide ((y:Int)=o2)))=(syF (g.outs.take i) x y||(decide (x=o1.toNat)&&decide (y=o2.toNat)))
   rw[show decide ((x:Int)=o1)=decide (x=o1.toNat)from decide_eq_decide.2 (by omega),show decide ((y:Int)=o2)=decide (y=o2.toNat)from decide_eq_decide.2 (by omega)])]
  exact S.drop b6
 have hie:i=g.outs.length:=by omega
 rw[hie,List.take_length]at S
 rw[hie,List.drop_length]at hd
 rw[← hd,show qT g.lv (jf g.outs g.outs.length) []=true from by rw[qT],Bool.true_and]at h
 clear hd hK6 K6 hie hge hi
 generalize hsy:syF g.outs=sy at h S
 obtain⟨n,hn⟩:∃n:Nat,g.lv.toNat=n:=⟨_,rfl⟩
 have hn8:n≤8:=by omega
 have hlvn:g.lv=(n:Int):=by omega
 rw[hn]at h
 refine gG_ ?_
 refine zj (ι:=Nat) (λi=>[.int .i64 (i:Nat)]) (λi w'=>i≤n∧((List.range n).drop i).all (clF n mu sy)=(List.range n).all (clF n mu sy)∧
  StX noX w r w' ([.cell b3 (zP mu) 296,.cell b4 (zP sy) 296,.cell b1 [.string g.name,.int .i64 g.lv,.slice qo g.outs.length capo,.int .i64 g.pn,.slice qt g.tys.length capt,.slice qn g.nms.length capn,.slice qp g.pts.length capp] 101])) (λi=>n-i) 0 rfl
  ⟨gzl _,rfl,S⟩ ?_
 clear S
 rintro a d2 w12 ⟨ha,hda,S⟩ K7 hK7
 rw[gdz,hlvn]
 refine gP_ ?_
 refine zh (λhlta=>?_) (λhgea=>?_)
 rotate_left
 ·have hae:a=n:=by omega
  rw[hae,vX]at hda
  rw[← hda]at h
  exact h _ S.ext
 have hlta:a<n:=by omega
 rw[vW hlta]at hda
 refine gG_ ?_
 refine zj (ι:=Nat) (λi=>[.int .i64 (i:Nat)]) (λi w'=>i≤n∧((List.range n).drop i).all (clG n mu sy a)=(List.range n).all (clG n mu sy a)∧
  StX noX w r w' ([.cell b3 (zP mu) 296,.cell b4 (zP sy) 296,.cell b1 [.string g.name,.int .i64 g.lv,.slice qo g.outs.length capo,.int .i64 g.pn,.slice qt g.tys.length capt,.slice qn g.nms.length capn,.slice qp g.pts.length capp] 101])) (λi=>n-i) 0 rfl
  ⟨gzl _,rfl,S⟩ ?_
 clear S
 rintro b d3 w13 ⟨hb,hdb,S⟩ K8 hK8
 rw[gdz,hlvn]
 refine gP_ ?_
 refine zh (λhltb=>?_) (λhgeb=>?_)
 rotate_left
 ·have hbe:b=n:=by omega
  rw[hbe,vX]at hdb
  have hF:clF n mu sy a=true:=hdb.symm
  rw[hF,Bool.true_and]at hda
  refine gP_ ?_
  rw[show ((a:Int)+1)=((a+1:Nat):Int)by omega]
  exact hK7 (a+1) _ ⟨hlta,hda,S⟩ (by omega)
 have hltb:b<n:=by omega
 rw[vW hltb]at hdb
 refine gG_ ?_
 refine zj (ι:=Nat) (λi=>[.int .i64 (i:Nat)]) (λi w'=>i≤n∧((List.range n).drop i).all (clH sy a b)=(List.range n).all (clH sy a b)∧
  StX noX w r w' ([.cell b3 (zP mu) 296,.cell b4 (zP sy) 296,.cell b1 [.string g.name,.int .i64 g.lv,.slice qo g.outs.length capo,.int .i64 g.pn,.slice qt g.tys.length capt,.slice qn g.nms.length capn,.slice qp g.pts.length capp] 101])) (λi=>n-i) 0 rfl
  ⟨gzl _,rfl,S⟩ ?_
 clear S
 have hfalse:clG n mu sy a b=false→(List.range n).all (clF n mu sy)=false:=λe=>by
  rw[e,Bool.false_and]at hdb
  have hF:clF n mu sy a=false:=hdb.symm
  rw[hF,Bool.false_and]at hda
  exact hda.symm
 rintro cc d4 w14 ⟨hc,hdc,S⟩ K9 hK9
 rw[gdz,hlvn]
 refine gP_ ?_
 refine zh (λhltc=>?_) (λhgec=>?_)
 ·have hltc:cc<n:=by omega
  rw[vW hltc]at hdc
  refine gP_ ?_
  refine gP_ ?_
  refine S.ld (b:=b4) ?_ (j0 (f:=sy) (by omega) (by omega))
  refine zg (c:=sy b cc) (λ_ K2 hK2=>?_) ?_
  ·refine gP_ ?_
   refine gP_ ?_
   refine S.ld (b:=b4) ?_ (j0 (f:=sy) (by omega) (by omega))
   exact hK2
  refine zg (c:=decide (a≠cc)) (λ_ K2 hK2=>?_) ?_
  ·refine gP_ ?_
   rw[show decide ((a:Int)≠(cc:Int))=decide (a≠cc)from decide_eq_decide.2 (by omega)]
   exact hK2
  refine zg (c:=!sy a cc) (λ_ K2 hK2=>?_) ?_
  ·refine gP_ ?_
   refine gP_ ?_
   refine S.ld (b:=b4) ?_ (j0 (f:=sy) (by omega) (by omega))
   refine gP_ ?_
   exact hK2
  have hH:clH sy a b cc = !(((sy a b&&sy b cc)&&decide (a≠cc)) && !sy a cc):=by
   rw[clH,Bool.and_assoc (sy a b&&sy b cc),decide_not]
  refine c_b (λhbad=>?_) (λhgood=>?_)
  ·rw[hH,hbad]at hdc
   have hA:(List.range n).all (clH sy a b)=false:=by rw[← hdc];rfl
   rw[hfalse (by rw[clG,hA,Bool.false_and])]at h
   exact h _ S.ext
  ·rw[hH,hgood,Bool.not_false,Bool.true_and]at hdc
   refine gP_ ?_
   rw[show ((cc:Int)+1)=((cc+1:Nat):Int)by omega]
   exact hK9 (cc+1) _ ⟨hltc,hdc,S⟩ (by omega)
 have hce:cc=n:=by omega
 rw[hce,vX]at hdc
 refine gP_ ?_
 refine zg (c:=mu a b) (λ_ K2 hK2=>?_) ?_
 ·refine gP_ ?_
  refine gP_ ?_
  refine S.ld (b:=b3) ?_ (j0 (f:=mu) (by omega) (by omega))
  exact hK2
 refine zg (c:=!sy a b) (λ_ K2 hK2=>?_) ?_
 ·refine gP_ ?_
  refine gP_ ?_
  refine S.ld (b:=b4) ?_ (j0 (f:=sy) (by omega) (by omega))
  refine gP_ ?_
  exact hK2
 have hG:clG n mu sy a b = !((decide ((a:Int)≠(b:Int))&&mu a b) && !sy a b):=by
  rw[clG,← hdc,Bool.true_and,Bool.and_assoc,show decide ((a:Int)≠(b:Int)) = !decide (a=b)from by rw[← decide_not];exact decide_eq_decide.2 (by omega)]
 refine c_b (λhbad=>?_) (λhgood=>?_)
 ·rw[hfalse (by rw[hG,hbad];rfl)]at h
  exact h _ S.ext
 ·rw[hG,hgood,Bool.not_false,Bool.true_and]at hdb
  refine gP_ ?_
  rw[show ((b:Int)+1)=((b+1:Nat):Int)by omega]
  exact hK8 (b+1) _ ⟨hltb,hdb,S⟩ (by omega)
end
end Go.Proofs
namespace Go.Sh
open Go.RowKit
section
variable {n sz cap:Nat} {xs:List Value} {X:Nat→Prop} {w0 w:World} {r:Gh} {L:List Asr} {e:TypeId} {K:World→Prop}
theorem StX.stRowN{P:Program}{e t:TypeId}{sz n cap b i:Nat}{xs:List Value}{f:Asr→List Asr}{cs:Array Value}{K:World→Prop}(S:StX X w0 r w L)
  [h:qc (.slice (some ⟨b,0,none⟩) n cap) L e sz n xs f] [z:SzT P t sz] (hi:i<n) (k:∀w',StX X w0 r w' (f (.row (.slice (some ⟨b,0,none⟩) n cap) e sz n (xs.take (i*sz)++cs.toList++xs.drop (i*sz+sz))))→K w')
  (hcs:cs.size=sz:=by rfl) (h1:∀u∈cs.toList,u.oneCell'=true:=by simp[Value.oneCell']):opU P w (Instr.storeAt t (.pointer (some ⟨b,i*sz,none⟩)) (.agg cs)) K:=by
 obtain⟨pp,qq,h2,h3⟩:=h.h
 have hr:=S.has (.row (.slice (some ⟨b,0,none⟩) n cap) e sz n xs) (by rw[h2];simp)
 rcases kK hr with⟨h0,_⟩|⟨g,cap',c,hv,hb,B,hn,hm,hc,ht⟩
 ·cases h0
 cases hv
 have hle:i*sz+sz≤n*sz:=by rw[← Nat.succ_mul];exact Nat.mul_le_mul_right _ hi
 have hle2:n*sz≤cap*sz:=Nat.mul_le_mul_right _ hn
 refine aa6 (v:=.agg cs) (by rw[show (Value.agg cs).cells.size=sz from hcs];exact z.h) B (by rw[show (Value.agg cs).cells.size=sz from hcs];omega) h1 λw' x _ B'=>k w' ?_
 rw[show (Value.agg cs).cells.size=sz from hcs,show (Value.agg cs).cells=cs from rfl]at B'
 rw[h3]
 rw[h2]at S
 refine S.turn (x:=.row (.slice (some ⟨b,0,none⟩) n cap) e sz n xs) (y:=.row (.slice (some ⟨b,0,none⟩) n cap) e sz n (xs.take (i*sz)++cs.toList++xs.drop (i*sz+sz))) ⟨x.os,x.tape,x.output,x.size,λk hk hn=>x.block k hk λhe=>hn (by subst he;rfl)⟩ ?_ λk hk=>.inl hk
 have hcl:cs.toList.length=sz:=by simpa using hcs
 have:=jx (base:=0) (size:=sz) (n:=n) (cap:=cap) (gzl _) B' hn hm (by simp only[gla,List.length_take,List.length_drop,hcl,hc];omega)
 have he:(c.take (i*sz)++cs.toList++c.drop (i*sz+sz)).take (n*sz)=xs.take (i*sz)++cs.toList++xs.drop (i*sz+sz):=by
  rw[← ht,List.take_take,Nat.min_eq_left (by omega),List.take_append,List.take_of_length_le (by simp only[gla,List.length_take,hcl,hc];omega),List.drop_take]
  congr 2
  simp only[gla,List.length_take,hcl,hc]
  omega
 rw[he]at this
 exact this
theorem StX.row0N{e:TypeId}{sz n cap:Nat}{p:Option Addr}{xs:List Value}{f:Asr→List Asr}(S:StX X w0 r w L)
  (_:True) [h:qc (.slice p n cap) L e sz n xs f] (hn:n≠0):∃b,p=some ⟨b,0,none⟩:=by
 obtain⟨b,cap',c,hv,_⟩:=S.rowCell (.slice p n cap) hn
 cases hv
 exact⟨b,rfl⟩
theorem StX.stRow1{P:Program}{e t:TypeId}{n cap b i:Nat}{xs:List Value}{f:Asr→List Asr}{v:Value}{K:World→Prop}(S:StX X w0 r w L)
  [h:qc (.slice (some ⟨b,0,none⟩) n cap) L e 1 n xs f] [z:SzT P t 1] (hi:i<n) (k:∀w',StX X w0 r w' (f (.row (.slice (some ⟨b,0,none⟩) n cap) e 1 n (xs.set i v)))→K w')
  (h1:v.oneCell'=true:=by rfl):opU P w (Instr.storeAt t (.pointer (some ⟨b,i,none⟩)) v) K:=by
 obtain⟨pp,qq,h2,h3⟩:=h.h
 have hr:=S.has (.row (.slice (some ⟨b,0,none⟩) n cap) e 1 n xs) (by rw[h2];simp)
 rcases kK hr with⟨h0,_⟩|⟨g,cap',c,hv,hb,B,hn,hm,hc,ht⟩
 ·cases h0
 cases hv
 refine agY z.h B (by omega) h1 λw' x _ B'=>k w' ?_
 rw[h3]
 rw[h2]at S
 refine S.turn (x:=.row (.slice (some ⟨b,0,none⟩) n cap) e 1 n xs) (y:=.row (.slice (some ⟨b,0,none⟩) n cap) e 1 n (xs.set i v)) ⟨x.os,x.tape,x.output,x.size,λk hk hn=>x.block k hk λhe=>hn (by subst he;rfl)⟩ ?_ λk hk=>.inl hk
 have:=jx (base:=0) (size:=1) (n:=n) (cap:=cap) (gzl _) B' hn hm (by rw[List.length_set,hc])
 rw[List.take_set,ht]at this
 exact this
theorem akw{z cs:List Value}(hx:xs.length=n*sz)(hz:z.length=sz):(xs++z).take (n*sz)++cs++(xs++z).drop (n*sz+sz)=xs++cs:=by
 rw[← hx,List.take_left' rfl,List.drop_of_length_le (by rw[gla];omega),List.append_nil]
end
end Go.Sh
namespace Go.Proofs
open Go.Sh
section
variable {ss:List StD} {tys l:List TyD} {p:PlD} {w:World} {r:Gh} {q p0:Option Addr} {K:Value→World→Prop} {c:List Value} {cap0 capt:Nat}
def zF(ss:List StD)(t:TyD)(k:Int):Option (TyD×Int):=
 if k = -1∧t.k=3 then t.of.head?.map λu=>(u,1)
 else if k = -1∧t.k=4 then t.of.head?.map λu=>(u,if t.m then 2 else 3)
 else if 0≤k∧t.k=5 then(ze ss t.st)[k.toNat]?.map λu=>(u,0)
 else none
def zC(ss:List StD):List Int→TyD→Option (TyD×List Int)
 |[],t=>some (t,[])
 |k::l,t=>(zF ss t k).bind λs=>(zC ss l s.1).map λx=>(x.1,s.2::x.2)
theorem J7(ss:List StD):∀(l:List Int)(k:Int)(t:TyD),zC ss (l++[k]) t=(zC ss l t).bind λx=>(zF ss x.1 k).map λs=>(s.1,x.2++[s.2])
 |[],k,t=>by
  show(zF ss t k).bind _=(zF ss t k).map _
  cases zF ss t k<;>rfl
 |x::l,k,t=>by
  rw[List.cons_append,zC,zC]
  cases h:zF ss t x with
  |none=>rfl
  |some s=>
   show(zC ss (l++[k]) s.1).map _=((zC ss l s.1).map _).bind _
   rw[J7 ss l k s.1]
   cases zC ss l s.1 with
   |none=>rfl
   |some y=>
    show((zF ss y.1 k).map _).map _=(zF ss y.1 k).map _
    cases zF ss y.1 k<;>rfl
theorem J8{ss:List StD}:∀{l m:List Int}{t:TyD},zC ss l t=none→zC ss (l++m) t=none
 |[],m,t,h=>by cases h
 |x::l,m,t,h=>by
  rw[List.cons_append,zC]
  rw[zC]at h
  cases hs:zF ss t x with
  |none=>rfl
  |some s=>
   rw[hs]at h
   have h:(zC ss l s.1).map (λx=>(x.1,s.2::x.2))=none:=h
   have :zC ss l s.1=none:=by cases hw:zC ss l s.1 with|none=>rfl|some y=>rw [hw]at h;cases h
   show(zC ss (l++m) s.1).map _=none
   rw[J8 this];rfl
theorem Ym{ss:List StD}:∀{l:List Int}{t:TyD}{x:TyD×List Int},zC ss l t=some x→x.2.length=l.length
 |[],t,x,h=>by cases h;rfl
 |k::l,t,x,h=>by
  rw[zC]at h
  cases hs:zF ss t k with
  |none=>rw [hs]at h;cases h
  |some s=>
   rw[hs]at h
   have h:(zC ss l s.1).map (λx=>(x.1,s.2::x.2))=some x:=h
   cases hw:zC ss l s.1 with
   |none=>rw [hw]at h;cases h
   |some y=>rw [hw]at h;cases h;simp[Ym hw]
theorem ady(hg:x8 ss){t:TyD}{k:Int}{s:TyD×Int}(h:Fine ss t)(e:zF ss t k=some s):Fine ss s.1:=by
 have inside:∀{n:Int},t.of.head?.map (λu=>(u,n))=some s→Fine ss s.1:=by
  intro n e
  rcases h.cases with⟨h1,_⟩|⟨u,h1,h2,_⟩
  ·rw[h1]at e;cases e
  ·rw[h1]at e;cases e;exact h2
 unfold zF at e
 split at e
 ·exact inside e
 split at e
 ·exact inside e
 split at e
 ·cases hu:(ze ss t.st)[k.toNat]? with
  |none=>rw [hu]at e;cases e
  |some u=>rw [hu]at e;cases e;exact hg _ u (List.mem_of_getElem? hu)
 ·cases e
theorem Xb{ss:List StD}(hg:x8 ss):∀{l:List Int}{t:TyD}{x:TyD×List Int},Fine ss t→zC ss l t=some x→Fine ss x.1
 |[],t,x,h,e=>by cases e;exact h
 |k::l,t,x,h,e=>by
  rw[zC]at e
  cases hs:zF ss t k with
  |none=>rw [hs]at e;cases e
  |some s=>
   rw[hs]at e
   have e:(zC ss l s.1).map (λx=>(x.1,s.2::x.2))=some x:=e
   cases hw:zC ss l s.1 with
   |none=>rw [hw]at e;cases e
   |some y=>rw [hw]at e;cases e;show Fine ss y.1;exact Xb hg (ady hg h hs) hw
noncomputable def yd(ss:List StD)(tys:List TyD)(p:PlD):Bool:=
 ((decide (0≤p.l)&&decide (p.l<tys.length))&&decide (p.ps.length≤8))&&(decide ((zx ss).2=0)&&tys.all λt=>mayB ss t)
noncomputable def zK(ss:List StD)(tys:List TyD)(p:PlD):Option (TyD×List Int):=if yd ss tys p then zC ss p.ps (tys.getD p.l.toNat zI)else none
noncomputable def yx(ss:List StD)(tys:List TyD)(p:PlD):TyD×Int:=match zK ss tys p with|some x=>(x.1,0)|none=>(zI,2)
theorem Q0{x:TyD×List Int}(h:zK ss tys p=some x):Fine ss x.1∧ss.length≤32:=by
 unfold zK at h
 split at h
 ·rename_i ho
  simp only[yd,gba,gdt,List.all_eq_true]at ho
  obtain⟨⟨⟨h1,h2⟩,h3⟩,h4,h5⟩:=ho
  obtain⟨h32,_,hg,_⟩:=yU h4
  have hlt:p.l.toNat<tys.length:=by omega
  have hm:=h5 tys[p.l.toNat] (gem hlt)
  have he:tys.getD p.l.toNat zI=tys[p.l.toNat]:=by rw[ggd,gqg hlt];rfl
  rw[he]at h
  exact⟨Xb hg (Zq hm).2 h,h32⟩
 ·cases h
theorem aeG{f:TyD→Bool}{fv:Value}{cap:Nat}{K:Value→World→Prop}(hr:Holds r w)(hl:TysG r q l)(hb:l.length≤maxLen)
  (hf:∀t∈l,∀(q:Option Addr)(cap:Nat)(w:World)(K:Value→World→Prop),Holds r w→TyG r (tyV t q cap) t→(∀w',Ext w w'→K (.bool (f t)) w')→zD Tryz.prog fv #[tyV t q cap] w K)
  (h:∀(i:Int) w',Ext w w'→(0≤i↔l.any f=true)→K (.int .i64 i) w'):zd Tryz.prog Tryz.yB #[.slice q l.length cap,fv] w K:=by
 refine Tryz.jh ?_
 unfold Tryz.xE
 have S:=St.start hr
 have hb':l.length≤9223372036854775807:=hb
 refine gP_ ?_
 refine zj (ι:=Nat) (λi=>[.int .i64 (i:Nat)]) (λi w'=>i≤l.length∧(l.take i).any f=false∧StX noX w r w' []) (λi=>l.length-i) 0 rfl ⟨gzl _,by simp,S⟩ ?_
 clear S
 rintro i d w' ⟨hi,hn,S⟩ K6 hK6
 simp only[gdz]
 refine gP_ ?_
 refine zh (λhlt=>?_) (λhge=>?_)
 ·have hlt:i<l.length:=by omega
  obtain⟨b,off,c,rfl,hc,hcell,hto⟩:=hl i hlt
  obtain⟨q2,cap2,rfl,ht2⟩:=yj hto
  refine gP_ ?_
  refine zo (n:=5) hc (λj v hj=>by rw[tnc];exact S.at (hcell j v hj)) ?_
  refine hf l[i] (gem hlt) _ _ _ _ S.holds ht2 λw2 e2=>?_
  have S:=S.go e2
  have ht:(l.take (i+1)).any f=((l.take i).any f||f l[i]):=by
   rw[List.take_succ_eq_append_getElem hlt,List.any_append];simp only[List.any_cons,List.any_nil,Bool.or_false]
  refine c_b (λhy=>?_) (λhno=>?_)
  ·refine h _ _ S.ext ⟨λ_=>?_,λ_=>Int.natCast_nonneg _⟩
   exact List.any_eq_true.2 ⟨l[i],gem hlt,hy⟩
  ·refine gP_ ?_
   rw[show ((i:Int)+1)=((i+1:Nat):Int)by omega]
   refine hK6 (i+1) _ ⟨hlt,?_,S⟩ (by omega)
   rw[ht,hn,hno];rfl
 ·have :i=l.length:=by omega
  subst this
  rw[List.take_length]at hn
  exact h _ _ S.ext ⟨λh=>by omega,λh=>by rw[hn]at h;cases h⟩
theorem abn{f:TyD→Bool}{fv:Value}{cap:Nat}{K:Value→World→Prop}(hr:Holds r w)(hl:TysG r q l)(hb:l.length≤maxLen)
  (hf:∀t∈l,∀(q:Option Addr)(cap:Nat)(w:World)(K:Value→World→Prop),Holds r w→TyG r (tyV t q cap) t→(∀w',Ext w w'→K (.bool (f t)) w')→zD Tryz.prog fv #[tyV t q cap] w K)
  (h:∀w',Ext w w'→K (.bool (l.any f)) w'):zd Tryz.prog Tryz.yp #[.slice q l.length cap,fv] w K:=by
 refine Tryz.qj ?_
 unfold Tryz.xn
 refine aeG hr hl hb hf λi w' e hi=>?_
 refine gP_ ?_
 have e2:decide (i≥0)=l.any f:=by
  by_cases hh:l.any f=true
  ·rw[hh];exact gde (hi.2 hh)
  ·rw[Bool.eq_false_iff.2 hh];exact decide_eq_false λh=>hh (hi.1 h)
 rw[e2];exact h _ e
theorem aar(h:yd ss tys p=false):zK ss tys p=none:=by rw[zK,h];rfl
theorem XT{cap0 capt:Nat}{K:Value→World→Prop}(hr:Holds r w)(hs:StG r p0 ss)(ht:TysG r q tys)(htl:tys.length≤maxLen)(hp:PlG r c p)
  (hN:∀w',zK ss tys p=none→Ext w w'→K (.tuple #[agK,.slice none 0 0,.bool false]) w')
  (hS:∀t g q cap vg s w',zK ss tys p=some (t,g)→Ext w w'→New w s w'→TyG r (tyV t q cap) t→SlG 1 s yz vg g→K (.tuple #[tyV t q cap,vg,.bool true]) w'):
  zd Tryz.prog Tryz.ji #[.slice p0 ss.length cap0,.slice q tys.length capt,.agg c.toArray] w K:=by
 obtain⟨v,rfl,hl⟩:=hp
 obtain⟨qs,caps,rfl,_,_⟩:=hl.sl.shape
 have hbl:=hl.lt
 have htl':tys.length≤9223372036854775807:=htl
 refine Tryz.af5 ?_
 unfold Tryz.aaq
 have S:=St.start hr
 refine S.box λb3 w1 S=>?_
 refine S.box λb5 w2 S=>?_
 refine S.al λb6 w3 S=>?_
 have S:StX noX w r w3 [.cell b6 je 43,.cell b5 [.int .i64 p.l,.slice qs p.ps.length caps] 80,.cell b3 [.slice p0 ss.length cap0] 22]:=S
 refine gG_ ?_
 refine zn (c:=decide ((tys.length:Int)≤p.l)) (λ_ K2 hK2=>?_) ?_
 ·refine gG_ ?_
  exact hK2
 refine zn (c:=decide (8<p.ps.length)) (λ_ K2 hK2=>?_) ?_
 ·refine gG_ ?_
  rw[show decide ((8:Int)<(p.ps.length:Int))=decide (8<p.ps.length)from decide_eq_decide.2 (by omega)]
  exact hK2
 refine c_b (λhbad=>?_) (λhgood=>?_)
 ·have hn:yd ss tys p=false:=by
   cases e:yd ss tys p
   ·rfl
   ·simp only[yd,gba,gdt]at e
    simp only[Bool.or_eq_true,gdt]at hbad;omega
  refine S.ldB (b:=b6) ?_ rfl
  refine S.stB (b:=b6) λw4 S=>?_
  refine gG_ ?_
  exact hN _ (aar hn) S.ext
 have hlo:(0≤p.l∧p.l<tys.length)∧p.ps.length≤8:=by
  simp only[Bool.or_eq_false_iff,decide_eq_false_iff_not]at hgood;omega
 clear hgood
 obtain⟨⟨hl0,hl1⟩,hl8⟩:=hlo
 refine gG_ ?_
 refine Zp S.holds hs λw4 e4=>?_
 have S:=S.go e4
 refine gS_ ?_
 have S:=S.frzAt b3
 refine yZ (c:=tys.any λt=>!mayB ss t) (λ_ K2 hK2=>?_) λw5 e5=>?_
 ·refine gP_ ?_
  refine abn (f:=λt=>!mayB ss t) S.holds (TysG.up ht) htl (λt _ q cap w K hr htt hK=>?_) λw6 e6=>?_
  ·refine aa8 (by kernel_rfl) ?_
   refine Tryz.adt ?_
   unfold Tryz.Ju
   have B:Blk w b3 [.slice p0 ss.length cap0] 22:=hr b3 _ (.inr ⟨rfl,rfl⟩)
   have S:=St.start hr
   refine S.box λb1 w1 S=>?_
   have S:StX noX w _ w1 [.cell b1 (tyL t q cap) 43]:=S
   refine zf (v:=.slice p0 ss.length cap0) (by
    have B:Blk w1 b3 [.slice p0 ss.length cap0] 22:=S.holds b3 _ (.inr ⟨rfl,rfl⟩)
    rw[B.cell];rfl) ?_
   refine S.ldB (b:=b1) ?_ rfl
   refine Z9 S.holds hs.up htt λw2 e2=>?_
   refine gP_ ?_
   exact hK _ (S.go e2).ext
  exact hK2 _ e6
 have S:=S.go e5
 refine c_b (λhbad=>?_) (λhgood=>?_)
 ·have hn:yd ss tys p=false:=by
   cases e:yd ss tys p
   ·rfl
   ·simp only[yd,gba,gdt,List.all_eq_true]at e
    simp only[Bool.or_eq_true,gdt,List.any_eq_true,Bool.not_eq_true']at hbad
    rcases hbad with h1|⟨t,h1,h2⟩
    ·exact absurd e.2.1 h1
    ·rw[e.2.2 t h1]at h2;cases h2
  refine S.ldB (b:=b6) ?_ rfl
  refine S.stB (b:=b6) λw4 S=>?_
  refine gG_ ?_
  exact hN _ (aar hn) S.ext
 have hok:(zx ss).2=0∧∀t∈tys,mayB ss t=true:=by
  simp only[Bool.or_eq_false_iff,decide_eq_false_iff_not,List.any_eq_false,Bool.not_eq_true',Bool.not_eq_false]at hgood
  exact⟨by omega,hgood.2⟩
 clear hgood
 obtain⟨hst,hmay⟩:=hok
 obtain⟨h32,_,hg,_⟩:=yU hst
 have hO:yd ss tys p=true:=by
  simp only[yd,gba,gdt,List.all_eq_true]
  exact⟨⟨⟨hl0,hl1⟩,hl8⟩,hst,hmay⟩
 have hlt0:p.l.toNat<tys.length:=by omega
 have hW:zK ss tys p=zC ss p.ps tys[p.l.toNat]:=by
  rw[zK,if_pos hO,ggd,gqg hlt0];rfl
 rw[hW]at hN hS
 obtain⟨bt,ot,ct,rfl,hct,hcell,htc⟩:=ht p.l.toNat hlt0
 have hfi:Fine ss tys[p.l.toNat]:=(Zq (hmay _ (gem hlt0))).2
 generalize tys[p.l.toNat]=t0 at hN hS htc hfi
 obtain⟨q0,cap1,rfl,ht0⟩:=yj htc
 refine gG_ ?_
 refine zo (n:=5) hct (λj v hj=>S.at (hcell j v hj)) ?_
 refine S.stB (b:=b6) λw7 S=>?_
 refine gG_ ?_
 have S:=S.ownNil 3 1
 refine zj (ι:=Nat×Value×TyD×Option Addr×Nat×List Int) (λi=>[i.2.1,.int .i64 (i.1:Nat)]) (λi w'=>i.1≤p.ps.length∧zC ss (p.ps.take i.1) t0=some (i.2.2.1,i.2.2.2.2.2)∧TyG r (tyV i.2.2.1 i.2.2.2.1 i.2.2.2.2.1) i.2.2.1∧
  StX noX w (r.or (Go.Sh.one b3 [.slice p0 ss.length cap0] 22)) w' [.row i.2.1 3 1 i.1 (ints i.2.2.2.2.2),.cell b6 (tyL i.2.2.1 i.2.2.2.1 i.2.2.2.2.1) 43,.cell b5 [.int .i64 p.l,.slice qs p.ps.length caps] 80]) (λi=>p.ps.length-i.1) (0,.slice none 0 0,t0,q0,cap1,[]) rfl ⟨gzl _,rfl,ht0,S⟩ ?_
 clear S
 rintro⟨i,vg,t,q,cap,g⟩ d w8 ⟨hi,hw,htt,S⟩ K6 hK6
 simp only at hi hw htt S⊢
 simp only[gdz,gds]
 refine gP_ ?_
 have hft:Fine ss t:=Xb hg hfi hw
 have hgl:g.length=(p.ps.take i).length:=Ym hw
 rw[List.length_take]at hgl
 refine zh (λhlt=>?_) (λhge=>?_)
 rotate_left
 ·have hie:i=p.ps.length:=by omega
  rw[hie,List.take_length]at hw
  have hvo:=S.row1 vg
  refine S.ldB (b:=b6) ?_ rfl
  refine S.stB (b:=b6) λw9 S=>?_
  refine gG_ ?_
  obtain⟨s,S,hsl,_,hab⟩:=S.doneRow (l:=g) (R:=yz) (sz:=1) ⟨by rw[yh,Nat.mul_one],λj hj=>by
   show _=_
   rw[Nat.mul_one,ints,← List.map_drop,← List.map_take,List.drop_eq_getElem_cons hj];rfl⟩ (by decide) (by omega)
  exact hS _ _ _ _ _ s _ hw S.ext (S.newOf λb o ho=>(hab b o ho).resolve_right id) htt hsl
 have hlt:i<p.ps.length:=by omega
 obtain⟨k,hke⟩:∃k,p.ps[i]=k:=⟨_,rfl⟩
 obtain⟨bs,os,cs,rfl,hcs,hck,hcl⟩:=hl.sl.get (by decide) hlt
 rw[hke]at hck
 obtain⟨rfl,hin⟩:=hck
 have hstep:zC ss (p.ps.take (i+1)) t0=(zF ss t k).map λs=>(s.1,g++[s.2]):=by
  rw[List.take_succ_eq_append_getElem hlt,J7,hw,hke];rfl
 have hbadk:zF ss t k=none→zC ss p.ps t0=none:=λe=>by
  have:=J8 (m:=p.ps.drop (i+1)) (hstep.trans (by rw[e];rfl))
  rwa[List.take_append_drop]at this
 have down:(t.k=3∨t.k=4)→∃uu,t.of=[uu]:=by
  intro hk
  rcases hft.cases with⟨_,h1⟩|⟨uu,h1,_⟩
  ·omega
  ·exact⟨uu,h1⟩
 refine zk (λs w'=>∃how t' q' cap' v',zF ss t k=some (t',how)∧s=[v']∧TyG r (tyV t' q' cap') t'∧
  StX noX w (r.or (Go.Sh.one b3 [.slice p0 ss.length cap0] 22)) w' [.row v' 3 1 (i+1) (ints (g++[how])),.cell b6 (tyL t' q' cap') 43,.cell b5 [.int .i64 p.l,.slice (some ⟨bs,os,none⟩) p.ps.length caps] 80]) (λK27 hK27=>?_) ?_
 rotate_left
 ·rintro _ w9 ⟨how,t',q',cap',v',h1,rfl,h2,S⟩ d9
  rw[gdz]
  refine gP_ ?_
  rw[show ((i:Int)+1)=((i+1:Nat):Int)by omega]
  exact hK6 (i+1,v',t',q',cap',g++[how]) _ ⟨hlt,hstep.trans (by rw[h1];rfl),h2,S⟩ (by show p.ps.length-(i+1)<p.ps.length-i;omega)
 refine gP_ ?_
 refine zf (v:=.int .i64 k) (by simpa using S.at (hcl 0 _ rfl)) ?_
 refine zk (λs w'=>w'=w8∧∃how:Int,s=[vg,.int .i64 how]∧((k = -1∧t.k=3∧how=1)∨(k = -1∧t.k=4∧how=if t.m then 2 else 3)∨(0≤k∧t.k=5∧k<(ze ss t.st).length∧how=0))) (λK31 hK31=>?_) ?_
 ·refine gP_ ?_
  refine zg (c:=decide (t.k=3)) (λ_ K2 hK2=>?_) ?_
  ·refine gG_ ?_
   exact hK2
  refine c_b (λhB=>?_) (λhB=>?_)
  ·have hB:k = -1∧t.k=3:=by simpa using hB
   exact hK31 _ _ ⟨rfl,1,rfl,.inl ⟨hB.1,hB.2,rfl⟩⟩
  have hB:¬(k = -1∧t.k=3):=by simpa using hB
  refine gP_ ?_
  refine zg (c:=decide (t.k=4)) (λ_ K2 hK2=>?_) ?_
  ·refine gG_ ?_
   exact hK2
  refine zg (c:=t.m) (λ_ K2 hK2=>?_) ?_
  ·refine gG_ ?_
   exact hK2
  refine c_b (λhM=>?_) (λhM=>?_)
  ·have hM:(k = -1∧t.k=4)∧t.m=true:=by simpa using hM
   exact hK31 _ _ ⟨rfl,2,rfl,.inr (.inl ⟨hM.1.1,hM.1.2,by rw[hM.2];rfl⟩)⟩
  refine gP_ ?_
  refine zg (c:=decide (t.k=4)) (λ_ K2 hK2=>?_) ?_
  ·refine gG_ ?_
   exact hK2
  refine c_b (λhR=>?_) (λhR=>?_)
  ·have hR:k = -1∧t.k=4:=by simpa using hR
   have hm:t.m=false:=by
    cases e:t.m
    ·rfl
    ·rw[e,gde hR.1,gde hR.2]at hM;cases hM
   exact hK31 _ _ ⟨rfl,3,rfl,.inr (.inl ⟨hR.1,hR.2,by rw[hm];rfl⟩)⟩
  have hR:¬(k = -1∧t.k=4):=by simpa using hR
  refine gG_ ?_
  refine zn (c:=decide (k<0)) (λ_ K2 hK2=>?_) ?_
  ·refine gG_ ?_
   exact hK2
  refine zn (c:=decide (((ze ss t.st).length:Int)≤k)) (λh5 K2 hK2=>?_) ?_
  ·have h5:t.k=5∧0≤k:=by simpa using h5
   obtain⟨hst0,hst1⟩:=hft.st h5.1
   have hslt:t.st.toNat<ss.length:=by omega
   obtain⟨b,off,q9,capq,rfl,hcell9,_,_,hfl⟩:=xI hs hslt
   have hlen:(ze ss t.st).length=ss[t.st.toNat].fs.length:=by
    rw[← vU hslt];simp only[ze,tnc]
   refine zf (v:=.slice (some ⟨b,off,none⟩) ss.length cap0) (by
    have B:Blk w8 b3 [.slice (some ⟨b,off,none⟩) ss.length cap0] 22:=S.holds b3 _ (.inr ⟨rfl,rfl⟩)
    rw[B.cell];rfl) ?_
   refine gG_ ?_
   refine zf (S.at hcell9) ?_
   refine gG_ ?_
   rw[← hlen]
   exact hK2
  refine c_b (λhX=>?_) (λhX=>?_)
  ·have hnone:zF ss t k=none:=by
    rw[zF,if_neg hB,if_neg hR]
    split
    ·rename_i h5
     have h50:=h5.1
     rw[List.getElem?_eq_none]
     ·rfl
     ·have :((ze ss t.st).length:Int)≤k:=by
       simp only[Bool.or_eq_true,gdt]at hX;omega
      omega
    ·rfl
   refine zq (cs:=#[.int .u8 0,.bool false,.int .i64 0,.int .i64 0,.slice none 0 0]) (by kernel_rfl) ?_
   refine S.stB (b:=b6) λw9 S=>?_
   refine gG_ ?_
   exact hN _ (hbadk hnone) S.ext
  ·have hX:(t.k=5∧0≤k)∧k<(ze ss t.st).length:=by
    simp only[Bool.or_eq_false_iff,decide_eq_false_iff_not]at hX;omega
   exact hK31 _ _ ⟨rfl,0,rfl,.inr (.inr ⟨hX.1.2,hX.1.1,hX.2,rfl⟩)⟩
 rintro _ _ ⟨rfl,how,rfl,hcase⟩ d10
 simp only[gdz,gds]
 refine S.lit (e:=3) (cs:=[.int .i64 how]) (by kernel_rfl) λb9 w9 S=>?_
 refine S.ap (m':=1) (Sl.blk (S.blk b9)) (λv9 w10 S=>?_) (by omega)
 have S:=S.tl
 have hins:ints g++[.int .i64 how]=ints (g++[how]):=by rw[ints,ints,List.map_append];rfl
 rw[hins]at S
 refine gP_ ?_
 refine zh (λhz=>?_) (λhnz=>?_)
 ·have h5:0≤k∧t.k=5∧k<(ze ss t.st).length:=by
   rcases hcase with⟨_,_,h⟩|⟨_,_,h⟩|⟨h1,h2,h3,_⟩
   ·omega
   ·split at h<;>omega
   ·exact⟨h1,h2,h3⟩
  obtain⟨hk0,hk5,hkl⟩:=h5
  obtain⟨hst0,hst1⟩:=hft.st hk5
  have hslt:t.st.toNat<ss.length:=by omega
  obtain⟨b,off,q9,capq,rfl,hcell9,_,_,hfl⟩:=xI hs hslt
  have htl2:ze ss t.st=ss[t.st.toNat].fs.map (·.2):=by
   rw[← yD hslt];simp only[ze,tnc]
  have hkf:k.toNat<ss[t.st.toNat].fs.length:=by
   rw[htl2,List.length_map]at hkl;omega
  obtain⟨b10,off9,c9,rfl,hc9,hcell8,ht9⟩:=qm hfl hkf
  obtain⟨q2,cap2,rfl,ht2⟩:=yj ht9
  refine zf (v:=.slice (some ⟨b,off,none⟩) ss.length cap0) (by
   have B:Blk w10 b3 [.slice (some ⟨b,off,none⟩) ss.length cap0] 22:=S.holds b3 _ (.inr ⟨rfl,rfl⟩)
   rw[B.cell];rfl) ?_
  refine gG_ ?_
  refine zf (S.at hcell9) ?_
  refine gG_ ?_
  refine zo (n:=5) (c:=tyL _ q2 cap2) rfl (λj v hj=>by have:=S.at (hcell8 (j+1) v hj);rwa[show off9+k.toNat*6+(j+1)=off9+k.toNat*6+1+j by omega]at this) ?_
  refine S.stB (b:=b6) λw11 S=>?_
  refine hK27 _ _ ⟨how,_,q2,cap2,v9,?_,rfl,ht2,S⟩
  rw[zF,if_neg (by omega),if_neg (by omega),if_pos ⟨hk0,hk5⟩,htl2,List.getElem?_map,gqg hkf,hz];rfl
 ·have h34:k = -1∧((t.k=3∧how=1)∨(t.k=4∧how=if t.m then 2 else 3)):=by
   rcases hcase with⟨h1,h2,h⟩|⟨h1,h2,h⟩|⟨h1,h2,h3,h⟩
   ·exact⟨h1,.inl ⟨h2,h⟩⟩
   ·exact⟨h1,.inr ⟨h2,h⟩⟩
   ·exact absurd h hnz
  obtain⟨hk1,h34⟩:=h34
  obtain⟨uu,hof⟩:=down (h34.imp (·.1) (·.1))
  obtain⟨bo,oo,q2,cap2,rfl,ht2,hcc⟩:=Zs htt hof
  have hl1:t.of.length=1:=by rw[hof];rfl
  refine gG_ ?_
  refine zo (n:=5) (c:=tyL uu q2 cap2) rfl (λj v hj=>by simpa using S.at (hcc j v hj)) ?_
  refine S.stB (b:=b6) λw11 S=>?_
  refine hK27 _ _ ⟨how,uu,q2,cap2,v9,?_,rfl,ht2,S⟩
  rcases h34 with⟨h1,h2⟩|⟨h1,h2⟩
  ·rw[zF,if_pos ⟨hk1,h1⟩,hof,h2];rfl
  ·rw[zF,if_neg (by omega),if_pos ⟨hk1,h1⟩,hof,h2];rfl
theorem abM{cap0 capt:Nat}{K:Value→World→Prop}(hr:Holds r w)(hs:StG r p0 ss)(ht:TysG r q tys)(htl:tys.length≤maxLen)(hp:PlG r c p)
  (h:∀w',Ext w w'→K (.bool (zK ss tys p).isSome) w'):zd Tryz.prog Tryz.Z5 #[.slice p0 ss.length cap0,.slice q tys.length capt,.agg c.toArray] w K:=by
 refine Tryz.ahs ?_
 unfold Tryz.abL
 obtain⟨v,rfl,hl⟩:=id hp
 obtain⟨qs,caps,rfl,_,_⟩:=hl.sl.shape
 have S:=St.start hr
 refine S.box λb5 w1 S=>?_
 have S:StX noX w r w1 [.cell b5 [.int .i64 p.l,.slice qs p.ps.length caps] 80]:=S
 refine S.ldB (b:=b5) ?_ rfl
 refine XT S.holds hs ht htl hp (λw2 hn e2=>?_) λt g q cap vg s w2 hsm e2 n2 htt hg=>?_
 ·have S:=S.go e2
  refine gP_ ?_
  refine gP_ ?_
  refine gP_ ?_
  refine S.al λb7 w3 S=>?_
  refine S.stB (b:=b7) λw4 S=>?_
  have:=h _ S.ext
  rw[hn]at this;exact this
 ·have S:=S.go e2
  refine gP_ ?_
  refine gP_ ?_
  refine gP_ ?_
  refine S.al λb7 w3 S=>?_
  refine S.stB (b:=b7) λw4 S=>?_
  have:=h _ S.ext
  rw[hsm]at this;exact this
theorem aas{cap0 capt:Nat}{K:Value→World→Prop}(hr:Holds r w)(hs:StG r p0 ss)(ht:TysG r q tys)(htl:tys.length≤maxLen)(hp:PlG r c p)
  (h:∀v' sn w',Ext w w'→New w sn w'→TyG sn v' (yx ss tys p).1→XL sn v' (yx ss tys p).1→K (.tuple #[v',.int .i64 (yx ss tys p).2]) w'):zd Tryz.prog Tryz.Zi #[.slice p0 ss.length cap0,.slice q tys.length capt,.agg c.toArray] w K:=by
 refine Tryz.af4 ?_
 unfold Tryz.aap
 obtain⟨v,rfl,hl⟩:=id hp
 obtain⟨qs,caps,rfl,_,_⟩:=hl.sl.shape
 have S:=St.start hr
 refine S.box λb5 w1 S=>?_
 have S:StX noX w r w1 [.cell b5 [.int .i64 p.l,.slice qs p.ps.length caps] 80]:=S
 refine S.al λb6 w2 S=>?_
 refine S.ldB (b:=b5) ?_ rfl
 unfold yx at h
 refine XT S.holds hs ht htl hp (λw2 hn e2=>?_) λt g q cap vg s w2 hsm e2 n2 htt hg=>?_
 ·have S:=S.go e2
  rw[hn]at h
  refine gP_ ?_
  refine gP_ ?_
  refine gP_ ?_
  refine S.al λb7 w3 S=>?_
  refine S.stB (b:=b7) λw4 S=>?_
  refine gP_ ?_
  refine c_t rfl ?_
  refine zq (cs:=#[.int .u8 0,.bool false,.int .i64 0,.int .i64 0,.slice none 0 0]) (by kernel_rfl) ?_
  refine S.stB (b:=b6) λw5 S=>?_
  refine gG_ ?_
  exact h _ nothing _ S.ext New.nothing yH .nil
 ·have S:=S.go e2
  rw[hsm]at h
  have hB:isB t=true:=(Q0 hsm).1.is (Q0 hsm).2
  refine gP_ ?_
  refine gP_ ?_
  refine gP_ ?_
  refine S.al λb7 w3 S=>?_
  refine S.stB (b:=b7) λw4 S=>?_
  refine gP_ ?_
  refine c_f rfl ?_
  refine S.ldB (b:=b7) ?_ rfl
  refine ail S.holds htt λv5 sn w5 e5 n5 h5 hc5=>?_
  rw[hB]at h5 hc5⊢
  obtain⟨S,d5,a5⟩:=S.tell e5 n5
  have h50:=h5
  obtain⟨p5,cap5,rfl,_⟩:=h5
  refine gP_ ?_
  refine gP_ ?_
  refine S.stB (b:=b6) λw6 S=>?_
  refine gG_ ?_
  exact h _ sn _ S.ext (S.newOf a5) h50 hc5
end
end Go.Proofs
namespace Go.Sh
open Go.RowKit Go.MapKept
section
def zr1(P:Program)(t:TypeId):Option Value:=(P.info? t).bind λi=>i.zero
theorem afF{P:Program}{t:TypeId}{z:Value}(hz:zr1 P t=some z)(w:World):(zeroValue t).run P w=.ok z w:=by
 unfold zr1 at hz
 cases hi:P.info? t with
 |none=>rw [hi]at hz;cases hz
 |some i=>
  rw[hi]at hz
  have hz:i.zero=some z:=hz
  simp[zeroValue,typeInfo,Sem.run,pure,hi,hz,Sem.run_bind,Result.andThen]
def mpT(P:Program)(t:TypeId):Option (TypeId×TypeId):=match P.underlying t with
 |some (.map k e)=>(match P.underlying k with|some .string=>some (k,e)|_=>none)
 |_=>none
theorem ahw{P:Program}{t k e:TypeId}(h:mpT P t=some (k,e)):P.underlying t=some (.map k e)∧P.underlying k=some .string:=by
 unfold mpT at h
 split at h
 ·rename_i k' e' h1
  split at h
  ·rename_i h2
   cases h;exact⟨h1,h2⟩
  ·cases h
 ·cases h
def J9(x:ByteArray):List MapEntry→Option Value
 |[]=>none
 |m::l=>match m.key with|.string s=>if x == s then some m.val else J9 x l|_=>J9 x l
def alz(l:List MapEntry):Prop:=∀m∈l,∃s,m.key=.string s
theorem acr{x:ByteArray}:∀{l:List MapEntry}{i:Nat},alz l→∃o,Instr.findNow .string (.string x) l i=some o∧o.map (·.2)=J9 x l
 |[],i,_=>⟨none,rfl,rfl⟩
 |m::l,i,h=>by
  obtain⟨s,hs⟩:=h m List.mem_cons_self
  cases hx:(x == s)with
  |true=>
   refine⟨some (i,m.val),?_,?_⟩
   ·rw[Instr.findNow,hs]
    simp[Instr.sameNow,hx]
   ·rw[J9,hs];simp[hx]
  |false=>
   obtain⟨o,h1,h2⟩:=acr (x:=x) (l:=l) (i:=i+1) λy hy=>h y (List.mem_cons_of_mem _ hy)
   refine⟨o,?_,?_⟩
   ·rw[Instr.findNow,hs]
    simp[Instr.sameNow,hx,h1]
   ·rw[h2,J9,hs];simp[hx]
theorem akx(x y:ByteArray):(x == y)=(x.toList == y.toList):=by
 rw[show (x == y)=(x.data == y.data)by cases x;cases y;rfl,ByteArray.toList_eq,ByteArray.toList_eq,Bool.eq_iff_iff,beq_iff_eq,beq_iff_eq,Array.toList_inj]
section
variable {P:Program} {X:Nat→Prop} {w0 w:World} {r:Gh} {L:List Asr} {t k e:TypeId} {b c:Nat} {es:Array MapEntry}
theorem StX.addO(S:StX X w0 r w L){w':World}(ex:Ext w w'){o:Obj}(hb:w.heap.size≤b)(B:w'.heap[b]? = some o)(ho:Obj.isBook o=false):StX X w0 r w' (.obj b (· = o)::L):=by
 have S':=S.go ex
 refine⟨S'.x,S'.holds,?_,?_,.cons ?_ S'.apart⟩
 ·intro x hx;rcases List.mem_cons.1 hx with rfl|hx
  ·exact⟨o,B,ho,rfl⟩
  ·exact S'.has x hx
 ·intro x hx;rcases List.mem_cons.1 hx with rfl|hx
  ·rintro k rfl
   exact⟨.inl (by have:=S.x.size;omega),λo ho=>by have:=S.holds.lt ho;omega⟩
  ·exact S'.mine x hx
 ·rintro y hy k rfl hk
  have:=Asr.lt (S.has y hy) hk;omega
theorem StX.mkMap(S:StX X w0 r w L){K:Value→World→Prop}(h:∀b w',StX X w0 r w' (.obj b (· = .map #[] 0)::L)→K (.map (some b)) w'):opW P w (Instr.makeMap t none) K:=by
 refine⟨.map (some w.heap.size),{ w with heap:=w.heap.push (.map #[] 0) },?_,h _ _ (S.addO ?_ (Nat.le_refl _) ?_ rfl)⟩
 ·simp[Instr.makeMap,newObj,Sem.run_bind,Sem.run,pure,Result.andThen]
  try rfl
 ·exact⟨rfl,rfl,rfl,by simp,λb hb=>by simp[Array.getElem?_push,Nat.ne_of_lt hb]⟩
 ·simp
theorem StX.mapAdd(S:StX X w0 r w (.obj b (· = .map es c)::L)){x:ByteArray}{v:Value}(ht:mpT P t=some (k,e))(hs:alz es.toList)(hn:J9 x es.toList=none){K:World→Prop}
  (h:∀w',StX X w0 r w' (.obj b (· = .map (es.push { key:=.string x,val:=v,born:=c }) (c+1))::L)→K w'):opU P w (Instr.mapUpdate t (.map (some b)) (.string x) v) K:=by
 obtain⟨ht,hk⟩:=ahw ht
 obtain⟨o,hb,_,rfl⟩:=S.has _ List.mem_cons_self
 obtain⟨o,h1,h2⟩:=acr (x:=x) (i:=0) hs
 have h3:o=none:=by
  rw[hn]at h2
  cases o with
  |none=>rfl
  |some y=>cases h2
 subst h3
 have hf:=run_findKey (w:=w) hk h1
 refine⟨{ w with heap:=w.heap.setIfInBounds b (.map (es.push { key:=.string x,val:=v,born:=c }) (c+1)) },?_,h _ ?_⟩
 ·simp[Instr.mapUpdate,run_underlying ht,MapKept.run_getObj_map hb,run_checkKey (w:=w) hk (k:=.string x) trivial false 9999,hf,MapKept.run_setObj_map _ hb,Result.andThen]
 ·obtain⟨e1,e2⟩:=heap_set hb (o':=.map (es.push { key:=.string x,val:=v,born:=c }) (c+1))
  exact S.turn (p:=[]) (x:=.obj b (· = .map es c)) (y:=.obj b (· = .map (es.push { key:=.string x,val:=v,born:=c }) (c+1))) ⟨rfl,rfl,rfl,by simp,λk _ hk=>e2 k hk⟩ ⟨_,e1,rfl,rfl⟩ λk hk=>.inl hk
theorem StX.mapGet(S:StX X w0 r w (.obj b (· = .map es c)::L)){x:ByteArray}{z:Value}(ht:mpT P t=some (k,e))(hz:zr1 P e=some z)(hs:alz es.toList){K:Value→Prop}(h:K ((J9 x es.toList).getD z)):
  opQ P w (Instr.lookup t (.map (some b)) (.string x) false) K:=by
 obtain⟨ht,hk⟩:=ahw ht
 obtain⟨o,hb,_,rfl⟩:=S.has _ List.mem_cons_self
 obtain⟨o,h1,h2⟩:=acr (x:=x) (i:=0) hs
 refine⟨_,λw' ex=>?_,h⟩
 have hb':w'.heap[b]? = some (.map es c):=(ex.block b (Array.getElem?_eq_some_iff.1 hb).1).trans hb
 have hf:=run_findKey (w:=w') hk h1
 rw[← h2]
 cases o with
 |none=>simp [Instr.lookup,run_underlying ht,MapKept.run_getObj_map hb',run_checkKey (w:=w') hk (k:=.string x) trivial _ 9999,hf,afF hz,Result.andThen]
 |some y=>simp [Instr.lookup,run_underlying ht,MapKept.run_getObj_map hb',run_checkKey (w:=w') hk (k:=.string x) trivial _ 9999,hf,Result.andThen]
end
end
end Go.Sh
namespace Go.Sh
section
variable {K:Value→Prop}
theorem p_id{P:Program}{s:Sem Value}(h:opP P s K):opP P s K:=h
theorem q_id{P:Program}{w:World}{s:Sem Value}(h:opQ P w s K):opQ P w s K:=h
end
end Go.Sh
namespace Go.Proofs
open Go.Sh
section
variable {u:UnD} {a b c:Bool} {g:GrD} {x y:Int}
structure PaD where
 tt:TyD
 tm:Int
 tok:Bool
 ft:TyD
 fm:Int
 fok:Bool
 at':TyD
 aok:Bool
 bt:TyD
 bok:Bool
noncomputable def ptH(u:UnD)(g:GrD)(p:PtD)(x:PaD):Bool:=
 if p.op=1 then((zE p { to:=true,a:=true } && (x.tok&&decide (x.tm<3)))&&x.aok)&&zN ya x.at' x.tt
 else if p.op=2 then
  (zE p { to:=true,a:=true,b:=true,sign:=true } && ((x.tok&&decide (x.tm<3))&&(x.aok&&x.bok))) &&
   (if yl p.sign [[43],[45],[42],[47],[37]]then isK x.tt 1&&(isK x.at' 1&&isK x.bt 1)
    else if yl p.sign [[60],[60,61],[62],[62,61]]then isK x.tt 2&&(isK x.at' 1&&isK x.bt 1)
    else if yl p.sign [[61,61],[33,61]]then isK x.tt 2&&((isK x.at' 1&&isK x.bt 1)||(isK x.at' 2&&isK x.bt 2))else false)
 else if p.op=3 then
  ((zE p { to:=true,a:=true,sign:=true } && (x.tok&&decide (x.tm<3)))&&x.aok) &&
   (if yl p.sign [[45]]then isK x.tt 1&&isK x.at' 1 else if yl p.sign [[33]]then isK x.tt 2&&isK x.at' 2 else false)
 else if p.op=4 then
  ((((zE p { to:=true,fr:=true,mu:=true } && (x.tok&&decide (x.tm<3)))&&x.fok)&&isK x.tt 4)&&(x.tt.m == p.mu))&&(zN ya (x.tt.of.headD zI) x.ft && !(p.mu&&decide (x.fm=3)))
 else if p.op=5 then(((zE p { to:=true,a:=true } && (x.tok&&decide (x.tm<3)))&&x.aok)&&isK x.tt 3)&&zN ya (x.tt.of.headD zI) x.at'
 else if p.op=6 then
  (((zE p { to:=true,args:=true,st:=true } && (x.tok&&decide (x.tm<3)))&&isK x.tt 5)&&decide (x.tt.st=p.st))&&xe u.ss g.tys p.args (yr u.ss x.tt).1
 else if p.op=7 then
  ((zE p { to:=true,args:=true,fn:=true } && (x.tok&&decide (x.tm<3)))&&(decide (0≤p.fn)&&decide (p.fn<u.fs.length))) &&
   (match u.fs[p.fn.toNat]? with
    |some f=>zN ya x.tt (f.tys.headD zI)&&xe u.ss g.tys p.args ((f.tys.drop 1).take f.pn.toNat)
    |none=>false)
 else if p.op=8 then(zE p { to:=true } && (x.tok&&decide (x.tm<3)))&&isK x.tt 1
 else if p.op=9 then(zE p { a:=true } && x.aok)&&isK x.at' 1
 else if p.op=10 then((zE p { fr:=true } && x.fok)&&(yw u.ss x.ft).1)&&decide (x.fm<2)
 else if p.op=11 then((zE p { fr:=true } && x.fok)&&decide (0<p.fr.l))&&decide (p.fr.ps.length=0)
 else if p.op=12 then((zE p { a:=true,el:=true } && x.aok)&&isK x.at' 2)&&ZW g p.el
 else if p.op=13∨p.op=14 then zE p {}
 else false
noncomputable def pad(u:UnD)(g:GrD)(p:PtD):PaD:=
 ⟨(zm u.ss g.tys p.to).1,(zm u.ss g.tys p.to).2.1,(zm u.ss g.tys p.to).2.2,(zm u.ss g.tys p.fr).1,(zm u.ss g.tys p.fr).2.1,(zm u.ss g.tys p.fr).2.2,
  (zs u.ss g.tys p.a).1,(zs u.ss g.tys p.a).2,(zs u.ss g.tys p.b).1,(zs u.ss g.tys p.b).2⟩
theorem anx(u:UnD)(g:GrD)(p:PtD):ptG u g p=ptH u g p (pad u g p):=rfl
theorem bb4{d:Bool}(h:(((!a || !b) || !c) || !d)=true):(a&&(b&&(c&&d)))=false:=by revert h;cases a<;>cases b<;>cases c<;>cases d<;>simp
theorem anz{d:Bool}(h:(((!a || !b) || !c) || !d)=false):(a&&(b&&(c&&d)))=true:=by revert h;cases a<;>cases b<;>cases c<;>cases d<;>simp
theorem bb3(h:(((!a || !b) || !c)||decide (x≠y))=true):(((a&&b)&&c)&&decide (x=y))=false:=by
 by_cases e:x=y
 ·simp only[e]at h⊢;revert h;cases a<;>cases b<;>cases c<;>simp
 ·simp[e]
theorem anA(h:(((!a || !b) || !c)||decide (x≠y))=false):(((a&&b)&&c)&&decide (x=y))=true:=by
 by_cases e:x=y
 ·simp only[e]at h⊢;revert h;cases a<;>cases b<;>cases c<;>simp
 ·simp[e]at h
theorem bb5(h:(((!a || !b)||decide (x<0))||decide (y≤x))=true):((a&&b)&&(decide (0≤x)&&decide (x<y)))=false:=by
 by_cases e:0≤x<;>by_cases f:x<y
 ·rw[decide_eq_false (show¬x<0 by omega),decide_eq_false (show¬y≤x by omega)]at h
  revert h;cases a<;>cases b<;>simp
 all_goals simp[e,f]
theorem anB(h:(((!a || !b)||decide (x<0))||decide (y≤x))=false):((a&&b)&&(decide (0≤x)&&decide (x<y)))=true:=by
 simp only[Bool.or_eq_false_iff,decide_eq_false_iff_not,Bool.not_eq_false']at h
 obtain⟨⟨⟨h1,h2⟩,h3⟩,h4⟩:=h
 rw[h1,h2,gde (show 0≤x by omega),gde (show x<y by omega)];rfl
theorem mpK:mpT Tryz.prog 321=some (9,40):=by kernel_rfl
theorem mpZ:zr1 Tryz.prog 40=some (.int .u8 0):=by kernel_rfl
theorem alA(x:ByteArray)(f g:Int→Bool):∃ks:Int,(J9 x ((#[].push (⟨.string (bs [45]),.int .u8 1,0⟩:MapEntry)).push ⟨.string (bs [33]),.int .u8 2,0+1⟩).toList).getD (.int .u8 0)=.int .u8 ks∧
  ((decide (ks≠0)&&f ks)&&g ks)=(if yl x [[45]]then f 1&&g 1 else if yl x [[33]]then f 2&&g 2 else false):=by
 have e:((#[].push (⟨.string (bs [45]),.int .u8 1,0⟩:MapEntry)).push ⟨.string (bs [33]),.int .u8 2,0+1⟩).toList=[⟨.string (bs [45]),.int .u8 1,0⟩,⟨.string (bs [33]),.int .u8 2,0+1⟩]:=rfl
 rw[e]
 simp only[J9,akx,afp,yl,List.any_cons,List.any_nil,Bool.or_false]
 by_cases h1:(x.toList == [45])=true
 ·exact⟨1,by rw[if_pos h1];rfl,by rw[if_pos h1];simp⟩
 ·by_cases h2:(x.toList == [33])=true
  ·exact⟨2,by rw[if_neg h1,if_pos h2];rfl,by rw[if_neg h1,if_pos h2];simp⟩
  ·exact⟨0,by rw[if_neg h1,if_neg h2];rfl,by rw[if_neg h1,if_neg h2];simp⟩
theorem VV{p:PtD}{c:List Value}{v:Value}{w:World}{r:Gh}{K:Value→World→Prop}(hr:Holds r w)(hx:AskG r v u g)(hf:xz u.ss g.tys)(hfs:∀f∈u.fs,0≤f.pn∧f.pn<f.tys.length)(hp:PtG r c p)
  (h:∀w',Ext w w'→K (.bool (zG u g p)) w'):zd Tryz.prog Tryz.qP #[v,.agg c.toArray] w K:=by
 have hx0:=hx
 obtain⟨p0,cap0,vf,vo,vt,vn,vp,rfl,hu,hg⟩:=hx
 have hu0:=hu
 obtain⟨_,_,_,hE,_,_,hst,_,hfn⟩:=hu
 cases hE
 obtain⟨qfn,capfn,rfl,_,_⟩:=hfn.sl.shape
 obtain⟨_,_,_,_,hE,_,htys,_,hpts⟩:=hg
 cases hE
 obtain⟨qp,capp,rfl,_,_⟩:=hpts.sl.shape
 have hp0:=hp
 obtain⟨vto,va,vb,vl,vfr,rfl,h1,h2,h3,h4,h5⟩:=hp
 obtain⟨qto,capto,rfl,_,_⟩:=h1.sl.shape
 obtain⟨qa,capa,rfl,_,_⟩:=h2.sl.shape
 obtain⟨qb,capb,rfl,_,_⟩:=h3.sl.shape
 obtain⟨ql,capl,rfl,_,_⟩:=h4.sl.shape
 obtain⟨qf,capf,rfl,_,_⟩:=h5.sl.shape
 have hpto:PlG r [.int .i64 p.to.l,.slice qto p.to.ps.length capto] p.to:=⟨_,rfl,h1⟩
 have hpfr:PlG r [.int .i64 p.fr.l,.slice qf p.fr.ps.length capf] p.fr:=⟨_,rfl,h5⟩
 have hoa:OpG r [.int .u8 p.a.k,.int .i64 p.a.n,.int .i64 p.a.pl.l,.slice qa p.a.pl.ps.length capa] p.a:=⟨_,rfl,h2⟩
 have hob:OpG r [.int .u8 p.b.k,.int .i64 p.b.n,.int .i64 p.b.pl.l,.slice qb p.b.pl.ps.length capb] p.b:=⟨_,rfl,h3⟩
 refine Tryz.JX ?_
 unfold Tryz.ZD
 have S:=St.start hr
 refine S.box λb2 w1 S=>?_
 refine S.box λb3 w2 S=>?_
 refine gg_ ?_
 refine S.al λb5 w3 S=>?_
 refine S.st (b:=b5) λw4 S=>?_
 refine gg_ ?_
 refine ZY (g:=decide (p.op≠14)) (c:=!ZW g p.nx) (λ_ K2 hK2=>?_) (λ_ K2 hK2=>?_) ?_
 ·refine gg_ ?_
  exact hK2
 ·refine gg_ ?_
  refine afv (b:=b5) S ?_
  refine gp_ ?_
  exact hK2
 refine ZY (g:=decide (p.op=14)) (c:=decide (p.nx≠0)) (λ_ K2 hK2=>?_) (λ_ K2 hK2=>?_) ?_
 ·refine gg_ ?_
  exact hK2
 ·refine gg_ ?_
  exact hK2
 have hpg:zG u g p=(!((decide (p.tx<0)||(decide (p.op≠14) && !ZW g p.nx))||(decide (p.op=14)&&decide (p.nx≠0)))&&ptG u g p):=by
  rw[zG];simp only[decide_not]
 rw[hpg]at h
 refine c_b (λhbad=>?_) (λhgood=>?_)
 ·rw[hbad,Bool.not_true,Bool.false_and]at h
  exact h _ S.ext
 rw[hgood,Bool.not_false,Bool.true_and,anx]at h
 clear hpg hgood
 have S:=S.go (Ext.drew _)
 have S:StX noX w r w4.drew [.cell b5 [.int .i64 (g.pts.length:Nat)] 3,
   .cell b3 [.int .u8 p.op,.int .i64 p.to.l,.slice qto p.to.ps.length capto,.int .u8 p.a.k,.int .i64 p.a.n,.int .i64 p.a.pl.l,.slice qa p.a.pl.ps.length capa,.int .u8 p.b.k,.int .i64 p.b.n,.int .i64 p.b.pl.l,.slice qb p.b.pl.ps.length capb,.slice ql p.args.length capl,
    .string p.sign,.int .i64 p.fr.l,.slice qf p.fr.ps.length capf,.bool p.mu,.int .i64 p.fn,.int .i64 p.st,.int .i64 p.nx,.int .i64 p.el,.int .i64 p.tx] 96,
   .cell b2 [.slice p0 u.ss.length cap0,.slice qfn u.fs.length capfn,.int .i64 u.mn,.string g.name,.int .i64 g.lv,vo,.int .i64 g.pn,vt,vn,.slice qp g.pts.length capp] 294]:=S
 obtain⟨tt,tm,tok,hspt⟩:∃tt tm tok,zm u.ss g.tys p.to=(tt,tm,tok):=⟨_,_,_,rfl⟩
 obtain⟨ft,fm,fok,hspf⟩:∃tt tm tok,zm u.ss g.tys p.fr=(tt,tm,tok):=⟨_,_,_,rfl⟩
 obtain⟨ta,aok,hopa⟩:∃t ok,zs u.ss g.tys p.a=(t,ok):=⟨_,_,rfl⟩
 obtain⟨tb,bok,hopb⟩:∃t ok,zs u.ss g.tys p.b=(t,ok):=⟨_,_,rfl⟩
 have hpad:pad u g p=⟨tt,tm,tok,ft,fm,fok,ta,aok,tb,bok⟩:=by simp only[pad,hspt,hspf,hopa,hopb]
 rw[hpad,ptH]at h
 dsimp only at h
 have inside:tok=true→(tt.k=3∨tt.k=4)→∃uu,tt.of=[uu]:=by
  intro h1 h2
  have hfi:=kZ hf (p:=p.to) (by rw[hspt];exact h1)
  rw[hspt]at hfi
  rcases Fine.cases hfi with⟨_,h3⟩|⟨uu,h3,_⟩
  ·have h3:tt.k=1∨tt.k=2∨tt.k=5:=h3
   omega
  ·exact⟨uu,h3⟩
 refine zk (λs w'=>∃b7 b8 q7 c7 q8 c8,s=[.pointer (some ⟨b7,0,none⟩),.pointer (some ⟨b8,0,none⟩)]∧TyG r (tyV tt q7 c7) tt∧TyG r (tyV ft q8 c8) ft∧
  StX noX w r w' (.cell b8 (spL ft q8 c8 fm fok) 313::.cell b7 (spL tt q7 c7 tm tok) 313::[.cell b5 [.int .i64 (g.pts.length:Nat)] 3,
   .cell b3 [.int .u8 p.op,.int .i64 p.to.l,.slice qto p.to.ps.length capto,.int .u8 p.a.k,.int .i64 p.a.n,.int .i64 p.a.pl.l,.slice qa p.a.pl.ps.length capa,.int .u8 p.b.k,.int .i64 p.b.n,.int .i64 p.b.pl.l,.slice qb p.b.pl.ps.length capb,.slice ql p.args.length capl,
    .string p.sign,.int .i64 p.fr.l,.slice qf p.fr.ps.length capf,.bool p.mu,.int .i64 p.fn,.int .i64 p.st,.int .i64 p.nx,.int .i64 p.el,.int .i64 p.tx] 96,
   .cell b2 [.slice p0 u.ss.length cap0,.slice qfn u.fs.length capfn,.int .i64 u.mn,.string g.name,.int .i64 g.lv,vo,.int .i64 g.pn,vt,vn,.slice qp g.pts.length capp] 294])) (λK30 hK30=>?_) ?_
 ·refine S.ldB (b:=b2) ?_ rfl
  refine gp_ ?_
  refine S.ldN (b:=b3) ?_
  refine S.ldB (b:=b2) ?_ rfl
  refine gp_ ?_
  refine S.ldN (b:=b3) ?_
  repeat' (first
   |(refine S.alU λb9 w9 S=>?_)
   |(refine S.al λb9 w9 S=>?_)
   |(refine S.stB λw9 S=>?_)
   |(refine xG S.holds hx0 hf hpto hspt (λq7 c7 w9 e9 ht7=>⟨e9,?_⟩);have S:=S.go e9)
   |(refine xG S.holds hx0 hf hpto hspt (λq7 c7 w9 e9 ht7=>?_);have S:=S.go e9)
   |(refine xG S.holds hx0 hf hpfr hspf (λq8 c8 w9 e9 ht8=>⟨e9,?_⟩);have S:=S.go e9)
   |(refine xG S.holds hx0 hf hpfr hspf (λq8 c8 w9 e9 ht8=>?_);have S:=S.go e9)
   |exact hK30 _ _ ⟨_,_,_,_,_,_,rfl,ht7,ht8,S⟩
   |exact hK30 _ _ ⟨_,_,_,_,_,_,rfl,ht7,ht8,S.swap⟩
   |refine ⟨?_,?_⟩)
 clear S
 rintro _ w33 ⟨b7,b8,q7,c7,q8,c8,rfl,ht7,ht8,S⟩ d33
 simp only[gdz,gds]
 refine gg_ ?_
 refine zg (c:=decide (tm<3)) (λ_ K2 hK2=>?_) ?_
 ·refine gg_ ?_
  exact hK2
 refine S.ldB (b:=b2) ?_ rfl
 refine gp_ ?_
 refine S.ldN (b:=b3) ?_
 refine kR S.holds hx0 hf hoa hopa λq10 c10 w34 e34 hta=>?_
 have S:=S.go e34
 refine gp_ ?_
 refine gp_ ?_
 refine S.al λb10 w35 S=>?_
 refine S.stB (b:=b10) λw36 S=>?_
 refine S.ldB (b:=b2) ?_ rfl
 refine gp_ ?_
 refine S.ldN (b:=b3) ?_
 refine kR S.holds hx0 hf hob hopb λq12 c12 w37 e37 htb=>?_
 have S:=S.go e37
 refine gp_ ?_
 refine gp_ ?_
 refine S.al λb12 w38 S=>?_
 refine S.stB (b:=b12) λw39 S=>?_
 refine gg_ ?_
 refine zh (λho=>?_) (λho=>?_)
 ·rw[if_pos ho]at h
  refine S.ldB (b:=b3) ?_ rfl
  refine gp_ ?_
  refine yk (f:={ to:=true,a:=true }) S.holds hp0 λw31 e31=>?_
  have S:=S.go e31
  refine zg (c:=tok&&decide (tm<3)) (λ_ K2 hK2=>hK2) ?_
  refine zg (c:=aok) (λ_ K2 hK2=>hK2) ?_
  refine zr (c:=zN ya ta tt) (λ_ K2 hK2=>?_) λw32 e32=>h _ (S.go e32).ext
  refine S.ldB (b:=b10) ?_ rfl
  refine gp_ ?_
  refine S.ldN (b:=b7) ?_
  exact qF S.holds hta ht7 λw33 e33=>hK2 _ e33
 rw[if_neg ho]at h
 clear ho
 refine gg_ ?_
 refine zh (λho=>?_) (λho=>?_)
 ·rw[if_pos ho]at h
  refine S.ldB (b:=b3) ?_ rfl
  refine gp_ ?_
  refine yk (f:={ to:=true,a:=true,b:=true,sign:=true }) S.holds hp0 λw31 e31=>?_
  have S:=S.go e31
  refine gp_ ?_
  refine zn (c:=!(tok&&decide (tm<3))) (λ_ K2 hK2=>?_) ?_
  ·refine gp_ ?_
   exact hK2
  refine zn (c:=!aok) (λ_ K2 hK2=>?_) ?_
  ·refine gp_ ?_
   exact hK2
  refine zn (c:=!bok) (λ_ K2 hK2=>?_) ?_
  ·refine gp_ ?_
   exact hK2
  refine c_b (λhc=>?_) (λhc=>?_)
  ·rw[bb4 hc,Bool.false_and]at h
   exact h _ S.ext
  rw[anz hc,Bool.true_and]at h
  refine S.ldB (b:=b10) ?_ rfl
  refine yF S.holds λw34 e34=>?_
  have S:=S.go e34
  refine zr (c:=isK tb 1) (λhb K2 hK2=>?_) λw32 e32=>?_
  ·refine S.ldB (b:=b12) ?_ rfl
   exact yF S.holds λw33 e33=>hK2 _ e33
  have S:=S.go e32
  refine gg_ ?_
  refine zk (λs w'=>s=[.bool (yl p.sign [[43],[45],[42],[47],[37]])]∧Ext w32 w') (λK9 hK9=>?_) ?_
  ·have hk:=hK9 _ _ ⟨rfl,Ext.refl _⟩
   simp only[yl,List.any_cons,List.any_nil,Bool.or_false]at hk
   refine gp_ ?_
   refine qd hk λ_ hk=>?_
   refine gp_ ?_
   refine qd hk λ_ hk=>?_
   refine gp_ ?_
   refine qd hk λ_ hk=>?_
   refine gp_ ?_
   refine qd hk λ_ hk=>?_
   refine gp_ ?_
   exact hk
  rintro _ w41 ⟨rfl,e41⟩ d41
  have S:=S.go e41
  rw[gdz]
  refine c_b (λhs=>?_) (λhs=>?_)
  ·rw[if_pos hs]at h
   refine gp_ ?_
   refine S.ldN (b:=b7) ?_
   refine yF S.holds λw35 e35=>?_
   have S:=S.go e35
   exact zg (c:=isK ta 1&&isK tb 1) (λ_ K2 hK2=>hK2) (h _ S.ext)
  rw[if_neg (by rw[hs];decide)]at h
  refine zk (λs w'=>s=[.bool (yl p.sign [[60],[60,61],[62],[62,61]])]∧Ext w41 w') (λK9 hK9=>?_) ?_
  ·have hk:=hK9 _ _ ⟨rfl,Ext.refl _⟩
   simp only[yl,List.any_cons,List.any_nil,Bool.or_false]at hk
   refine gp_ ?_
   refine qd hk λ_ hk=>?_
   refine gp_ ?_
   refine qd hk λ_ hk=>?_
   refine gp_ ?_
   refine qd hk λ_ hk=>?_
   refine gp_ ?_
   exact hk
  rintro _ w41 ⟨rfl,e41⟩ d41
  have S:=S.go e41
  rw[gdz]
  refine c_b (λhs=>?_) (λhs=>?_)
  ·rw[if_pos hs]at h
   refine gp_ ?_
   refine S.ldN (b:=b7) ?_
   refine yF S.holds λw35 e35=>?_
   have S:=S.go e35
   exact zg (c:=isK ta 1&&isK tb 1) (λ_ K2 hK2=>hK2) (h _ S.ext)
  rw[if_neg (by rw[hs];decide)]at h
  refine zk (λs w'=>s=[.bool (yl p.sign [[61,61],[33,61]])]∧Ext w41 w') (λK9 hK9=>?_) ?_
  ·have hk:=hK9 _ _ ⟨rfl,Ext.refl _⟩
   simp only[yl,List.any_cons,List.any_nil,Bool.or_false]at hk
   refine gp_ ?_
   refine qd hk λ_ hk=>?_
   refine gp_ ?_
   exact hk
  rintro _ w41 ⟨rfl,e41⟩ d41
  have S:=S.go e41
  rw[gdz]
  refine c_b (λhs=>?_) (λhs=>?_)
  rotate_left
  ·rw[if_neg (by rw[hs];decide)]at h
   exact h _ S.ext
  rw[if_pos hs]at h
  refine gp_ ?_
  refine S.ldN (b:=b7) ?_
  refine yF S.holds λw35 e35=>?_
  have S:=S.go e35
  generalize isK tt 2=x1 at h⊢
  generalize (isK ta 1&&isK tb 1)=x2 at h⊢
  cases x1 with
  |false=>
   (intro K9 hK9;refine gd_ ?_;refine hK9 _ _ λ_=>?_;clear hK9 K9)
   (intro K9 hK9;refine gd_ ?_;refine hK9 _ _ λ_=>?_;clear hK9 K9)
   (intro K9 hK9;refine gd_ ?_;refine hK9 _ _ λ_=>?_;clear hK9 K9)
   (intro K9 hK9;refine gd_ ?_;refine hK9 _ _ λ_=>?_;clear hK9 K9)
   (intro K9 hK9;refine gd_ ?_;refine hK9 _ _ λ_=>?_;clear hK9 K9)
   refine gd_ ?_
   exact h _ S.ext
  |true=>
   cases x2 with
   |true=>
    (intro K9 hK9;refine gd_ ?_;refine hK9 _ _ λ_=>?_;clear hK9 K9)
    (intro K9 hK9;refine gd_ ?_;refine hK9 _ _ λ_=>?_;clear hK9 K9)
    (intro K9 hK9;refine gd_ ?_;refine hK9 _ _ λ_=>?_;clear hK9 K9)
    (intro K9 hK9;refine gd_ ?_;refine hK9 _ _ λ_=>?_;clear hK9 K9)
    (intro K9 hK9;refine gd_ ?_;refine hK9 _ _ λ_=>?_;clear hK9 K9)
    refine gd_ ?_
    exact h _ S.ext
   |false=>
    (intro K9 hK9;refine gd_ ?_;refine hK9 _ _ λ_=>?_;clear hK9 K9)
    refine zk (λs w'=>s=[.bool (isK ta 2)]∧Ext w35 w') (λK9 hK9=>?_) ?_
    ·refine gd_ ?_
     exact yF S.holds λw36 e36=>hK9 _ _ ⟨rfl,e36⟩
    rintro _ w37 ⟨rfl,e37⟩ d37
    have S:=S.go e37
    generalize isK ta 2=x3 at h⊢
    cases x3 with
    |false=>
     (intro K9 hK9;refine gd_ ?_;refine hK9 _ _ λ_=>?_;clear hK9 K9)
     (intro K9 hK9;refine gd_ ?_;refine hK9 _ _ λ_=>?_;clear hK9 K9)
     (intro K9 hK9;refine gd_ ?_;refine hK9 _ _ λ_=>?_;clear hK9 K9)
     refine gd_ ?_
     exact h _ S.ext
    |true=>
     refine zk (λs w'=>s=[.bool (isK tb 2)]∧Ext w37 w') (λK9 hK9=>?_) ?_
     ·refine gd_ ?_
      exact yF S.holds λw36 e36=>hK9 _ _ ⟨rfl,e36⟩
     rintro _ w38 ⟨rfl,e38⟩ d38
     have S:=S.go e38
     generalize isK tb 2=x4 at h⊢
     (intro K9 hK9;refine gd_ ?_;refine hK9 _ _ λ_=>?_;clear hK9 K9)
     (intro K9 hK9;refine gd_ ?_;refine hK9 _ _ λ_=>?_;clear hK9 K9)
     refine gd_ ?_
     cases x4<;>exact h _ S.ext
 rw[if_neg ho]at h
 clear ho
 refine gg_ ?_
 refine zh (λho=>?_) (λho=>?_)
 ·rw[if_pos ho]at h
  refine S.mkMap λb70 w70 S=>?_
  refine S.mapAdd mpK (by intro m hm;cases hm) rfl λw71 S=>?_
  refine S.mapAdd mpK (by intro m hm;rcases List.mem_cons.1 hm with rfl|hm<;>first|exact ⟨_,rfl⟩|cases hm) (by decide) λw72 S=>?_
  refine gg_ ?_
  refine S.mapGet mpK mpZ (by
   intro m hm
   rcases List.mem_cons.1 hm with rfl|hm
   ·exact⟨_,rfl⟩
   rcases List.mem_cons.1 hm with rfl|hm<;>first|exact ⟨_,rfl⟩|cases hm) ?_
  obtain⟨ks,hks,hk2⟩:=alA p.sign (isK tt) (isK ta)
  rw[hks]
  refine S.ldB (b:=b3) ?_ rfl
  refine gp_ ?_
  refine yk (f:={ to:=true,a:=true,sign:=true }) S.holds hp0 λw31 e31=>?_
  have S:=S.go e31
  refine zg (c:=tok&&decide (tm<3)) (λ_ K2 hK2=>hK2) ?_
  refine zg (c:=aok) (λ_ K2 hK2=>hK2) ?_
  refine zg (c:=decide (ks≠0)) (λ_ K2 hK2=>?_) ?_
  ·refine gp_ ?_
   exact hK2
  refine zr (c:=isK tt ks) (λhb K2 hK2=>?_) λw32 e32=>?_
  ·refine gp_ ?_
   refine S.ldN (b:=b7) ?_
   exact yF S.holds λw33 e33=>hK2 _ e33
  have S:=S.go e32
  refine zr (c:=isK ta ks) (λhb K2 hK2=>?_) λw32 e32=>?_
  ·refine S.ldB (b:=b10) ?_ rfl
   exact yF S.holds λw33 e33=>hK2 _ e33
  have S:=S.go e32
  have:=h _ S.ext
  rw[← hk2]at this
  simpa only[Bool.and_assoc]using this
 rw[if_neg ho]at h
 clear ho
 refine gg_ ?_
 refine zh (λho=>?_) (λho=>?_)
 ·rw[if_pos ho]at h
  have S:=S.go (Ext.drew _)
  refine S.ldB (b:=b3) ?_ rfl
  refine gp_ ?_
  refine yk (f:={ to:=true,fr:=true,mu:=true }) S.holds hp0 λw31 e31=>?_
  have S:=S.go e31
  refine zg (c:=tok&&decide (tm<3)) (λ_ K2 hK2=>hK2) ?_
  refine zg (c:=fok) (λ_ K2 hK2=>?_) ?_
  ·refine gg_ ?_
   exact hK2
  refine zr (c:=isK tt 4) (λhb K2 hK2=>?_) λw32 e32=>?_
  ·refine gp_ ?_
   refine S.ldN (b:=b7) ?_
   exact yF S.holds λw33 e33=>hK2 _ e33
  have S:=S.go e32
  refine zg (c:=tt.m == p.mu) (λ_ K2 hK2=>?_) ?_
  ·refine gg_ ?_
   exact hK2
  refine zr (c:=zN ya (tt.of.headD zI) ft) (λhb K2 hK2=>?_) λw33 e33=>?_
  ·simp only[gba]at hb
   obtain⟨uu,hof⟩:=inside hb.1.1.1.2.1 (.inr (of_decide_eq_true hb.1.2))
   obtain⟨bo,oo,q2,cap2,rfl,ht2,hcc⟩:=Zs ht7 hof
   have hl1:tt.of.length=1:=by rw[hof];rfl
   rw[hof]at hK2
   refine gg_ ?_
   refine zo (n:=5) (c:=tyL uu q2 cap2) rfl (λj v hj=>by simpa using S.at (hcc j v hj)) ?_
   refine gp_ ?_
   refine S.ldN (b:=b8) ?_
   exact qF S.holds ht2 ht8 λw34 e34=>hK2 _ e34
  have S:=S.go e33
  have:=h _ S.ext
  rw[← Bool.and_assoc]at this
  generalize ((((((zE p { to:=true,fr:=true,mu:=true } && (tok&&decide (tm<3)))&&fok)&&isK tt 4)&&(tt.m == p.mu))&&zN ya (tt.of.headD zI) ft))=B at this⊢
  cases B with
  |false=>
   (intro K9 hK9;refine gd_ ?_;refine hK9 _ _ λ_=>?_;clear hK9 K9)
   (intro K9 hK9;refine gd_ ?_;refine hK9 _ _ λ_=>?_;clear hK9 K9)
   (intro K9 hK9;refine gd_ ?_;refine hK9 _ _ λ_=>?_;clear hK9 K9)
   refine gd_ ?_
   exact this
  |true=>
   refine zk (λs w'=>s=[.bool p.mu]∧w'=w33) (λK9 hK9=>?_) ?_
   ·refine gd_ ?_
    exact hK9 _ _ ⟨rfl,rfl⟩
   rintro _ w33 ⟨rfl,rfl⟩ d33
   generalize p.mu=mu at this⊢
   cases mu with
   |false=>
    (intro K9 hK9;refine gd_ ?_;refine hK9 _ _ λ_=>?_;clear hK9 K9)
    (intro K9 hK9;refine gd_ ?_;refine hK9 _ _ λ_=>?_;clear hK9 K9)
    refine gd_ ?_
    exact this
   |true=>
    refine zk (λs w'=>s=[.bool (decide (fm=3))]∧w'=w33) (λK9 hK9=>?_) ?_
    ·refine gd_ ?_
     exact hK9 _ _ ⟨rfl,rfl⟩
    rintro _ w33 ⟨rfl,rfl⟩ d33
    (intro K9 hK9;refine gd_ ?_;refine hK9 _ _ λ_=>?_;clear hK9 K9)
    refine gd_ ?_
    simpa using this
 rw[if_neg ho]at h
 clear ho
 refine gg_ ?_
 refine zh (λho=>?_) (λho=>?_)
 ·rw[if_pos ho]at h
  have S:=S.go (Ext.drew _)
  refine S.ldB (b:=b3) ?_ rfl
  refine gp_ ?_
  refine yk (f:={ to:=true,a:=true }) S.holds hp0 λw31 e31=>?_
  have S:=S.go e31
  refine zg (c:=tok&&decide (tm<3)) (λ_ K2 hK2=>hK2) ?_
  refine zg (c:=aok) (λ_ K2 hK2=>hK2) ?_
  refine zr (c:=isK tt 3) (λhb K2 hK2=>?_) λw32 e32=>?_
  ·refine gp_ ?_
   refine S.ldN (b:=b7) ?_
   exact yF S.holds λw33 e33=>hK2 _ e33
  have S:=S.go e32
  refine zr (c:=zN ya (tt.of.headD zI) ta) (λhb K2 hK2=>?_) λw33 e33=>h _ (S.go e33).ext
  simp only[gba]at hb
  obtain⟨uu,hof⟩:=inside hb.1.1.2.1 (.inl (of_decide_eq_true hb.2))
  obtain⟨bo,oo,q2,cap2,rfl,ht2,hcc⟩:=Zs ht7 hof
  have hl1:tt.of.length=1:=by rw[hof];rfl
  rw[hof]at hK2
  refine gg_ ?_
  refine zo (n:=5) (c:=tyL uu q2 cap2) rfl (λj v hj=>by simpa using S.at (hcc j v hj)) ?_
  refine S.ldB (b:=b10) ?_ rfl
  exact qF S.holds ht2 hta λw34 e34=>hK2 _ e34
 rw[if_neg ho]at h
 clear ho
 refine gg_ ?_
 refine zh (λho=>?_) (λho=>?_)
 ·rw[if_pos ho]at h
  refine S.ldB (b:=b3) ?_ rfl
  refine gp_ ?_
  refine yk (f:={ to:=true,args:=true,st:=true }) S.holds hp0 λw31 e31=>?_
  have S:=S.go e31
  refine gp_ ?_
  refine zn (c:=!(tok&&decide (tm<3))) (λ_ K2 hK2=>?_) ?_
  ·refine gp_ ?_
   exact hK2
  refine yZ (c:=!isK tt 5) (λ_ K2 hK2=>?_) λw32 e32=>?_
  ·refine gp_ ?_
   refine S.ldN (b:=b7) ?_
   refine yF S.holds λw33 e33=>?_
   refine gp_ ?_
   exact hK2 _ e33
  have S:=S.go e32
  refine zn (c:=decide (tt.st≠p.st)) (λ_ K2 hK2=>?_) ?_
  ·refine gg_ ?_
   exact hK2
  refine c_b (λhc=>?_) (λhc=>?_)
  ·rw[bb3 hc,Bool.false_and]at h
   exact h _ S.ext
  rw[anA hc,Bool.true_and]at h
  refine gg_ ?_
  refine S.ldN (b:=b7) ?_
  refine aey S.holds hst ht7 λq9 cp9 top gs w35 e35 n35 hfd hcp=>?_
  have S:=S.new e35 n35
  refine gp_ ?_
  refine gp_ ?_
  refine afw (r:=((r.or (top.or (un gs 0 (yr u.ss tt).1.length))).or (Go.Sh.one b2 _ _)).or (Go.Sh.one b3 _ _)) ((S.holdW b2).or (km (S.blk b3))) (xj (b:=b2)).up (xj (b:=b3)).up hx0.up rfl hf hp0.up (alu hfd).up λw44 e44=>?_
  exact h _ (S.go e44).ext
 rw[if_neg ho]at h
 clear ho
 refine gg_ ?_
 refine zh (λho=>?_) (λho=>?_)
 ·rw[if_pos ho]at h
  refine S.ldB (b:=b3) ?_ rfl
  refine gp_ ?_
  refine yk (f:={ to:=true,args:=true,fn:=true }) S.holds hp0 λw31 e31=>?_
  have S:=S.go e31
  refine gp_ ?_
  refine zn (c:=!(tok&&decide (tm<3))) (λ_ K2 hK2=>?_) ?_
  ·refine gp_ ?_
   exact hK2
  refine zn (c:=decide (p.fn<0)) (λ_ K2 hK2=>?_) ?_
  ·refine gg_ ?_
   exact hK2
  refine zn (c:=decide ((u.fs.length:Int)≤p.fn)) (λ_ K2 hK2=>?_) ?_
  ·refine gg_ ?_
   exact hK2
  refine c_b (λhc=>?_) (λhc=>?_)
  ·rw[bb5 hc,Bool.false_and]at h
   exact h _ S.ext
  rw[anB hc,Bool.true_and]at h
  have hfl:0≤p.fn∧p.fn<u.fs.length:=by
   simp only[Bool.or_eq_false_iff,decide_eq_false_iff_not]at hc;omega
  have hfi:p.fn.toNat<u.fs.length:=by omega
  rw[gqg hfi]at h
  obtain⟨bg,og,cg,rfl,hcg,hgg,hgc⟩:=hfn.sl.get (by decide) hfi
  have hfp:=hfs _ (gem hfi)
  generalize u.fs[p.fn.toNat]=fd at h hgg hfp
  obtain⟨vo2,vt2,vn2,vp2,rfl,hg1,hg2,hg3,hg4⟩:=hgg
  obtain⟨qo2,co2,rfl,_,_⟩:=hg1.sl.shape
  obtain⟨qt2,ct2,rfl,_,hct2⟩:=hg2.sl.shape
  obtain⟨qn2,cn2,rfl,_,_⟩:=hg3.sl.shape
  obtain⟨qp2,cp2,rfl,_,_⟩:=hg4.sl.shape
  refine gg_ ?_
  refine zo (n:=7) hcg (λj v hj=>S.at (hgc j v hj)) ?_
  refine S.al λb20 w50 S=>?_
  refine S.stB (b:=b20) λw51 S=>?_
  have S:=S.go (Ext.drew _)
  have htl:=vV hg2.sl
  have htl9:fd.tys.length≤9223372036854775807:=hg2.few
  obtain⟨bt2,ot2,cc2,rfl,hcc2,hcl2,hct3⟩:=htl 0 (by omega)
  obtain⟨q4,cap4,rfl,ht4⟩:=yj hct3
  have hhd:fd.tys.headD zI=fd.tys[0]'(by omega):=by
   rw[List.headD_eq_head?_getD,List.head?_eq_getElem?,gqg (by omega),Option.getD_some]
  dsimp only at h
  rw[hhd]at h
  refine gp_ ?_
  refine S.ldN (b:=b7) ?_
  refine gg_ ?_
  refine zo (n:=5) hcc2 (λj v hj=>by simpa using S.at (hcl2 j v hj)) ?_
  refine qF S.holds ht7 ht4 λw52 e52=>?_
  have S:=S.go e52
  refine zr (c:=xe u.ss g.tys p.args ((fd.tys.drop 1).take fd.pn.toNat)) (λ_ K2 hK2=>?_) λw53 e53=>h _ (S.go e53).ext
  refine gg_ ?_
  have hl9:(fd.pn+1).toNat-(1:Int).toNat=((fd.tys.drop 1).take fd.pn.toNat).length:=by
   rw[List.length_take,List.length_drop];omega
  rw[hl9]
  refine afw (r:=(r.or (Go.Sh.one b2 _ _)).or (Go.Sh.one b3 _ _)) ((S.holdW b2).or (km (S.blk b3))) (xj (b:=b2)).up (xj (b:=b3)).up hx0.up rfl hf hp0.up (htl.sub (a:=(1:Int).toNat) (n:=fd.pn.toNat) hct2).up λw44 e44=>?_
  exact hK2 _ e44
 rw[if_neg ho]at h
 clear ho
 refine gg_ ?_
 refine zh (λho=>?_) (λho=>?_)
 ·rw[if_pos ho]at h
  refine S.ldB (b:=b3) ?_ rfl
  refine gp_ ?_
  refine yk (f:={ to:=true }) S.holds hp0 λw31 e31=>?_
  have S:=S.go e31
  refine zg (c:=tok&&decide (tm<3)) (λ_ K2 hK2=>hK2) ?_
  refine zr (c:=isK tt 1) (λhb K2 hK2=>?_) λw32 e32=>?_
  ·refine gp_ ?_
   refine S.ldN (b:=b7) ?_
   exact yF S.holds λw33 e33=>hK2 _ e33
  have S:=S.go e32
  exact h _ S.ext
 rw[if_neg ho]at h
 clear ho
 refine gg_ ?_
 refine zh (λho=>?_) (λho=>?_)
 ·rw[if_pos ho]at h
  refine S.ldB (b:=b3) ?_ rfl
  refine gp_ ?_
  refine yk (f:={ a:=true }) S.holds hp0 λw31 e31=>?_
  have S:=S.go e31
  refine zg (c:=aok) (λ_ K2 hK2=>hK2) ?_
  refine zr (c:=isK ta 1) (λhb K2 hK2=>?_) λw32 e32=>?_
  ·refine S.ldB (b:=b10) ?_ rfl
   exact yF S.holds λw33 e33=>hK2 _ e33
  have S:=S.go e32
  exact h _ S.ext
 rw[if_neg ho]at h
 clear ho
 refine gg_ ?_
 refine zh (λho=>?_) (λho=>?_)
 ·rw[if_pos ho]at h
  refine gg_ ?_
  refine S.ldN (b:=b8) ?_
  refine Vx S.holds hst ht8 λw35 e35=>?_
  have S:=S.go e35
  refine gp_ ?_
  refine gp_ ?_
  refine S.ldB (b:=b3) ?_ rfl
  refine gp_ ?_
  refine yk (f:={ fr:=true }) S.holds hp0 λw31 e31=>?_
  have S:=S.go e31
  refine zg (c:=fok) (λ_ K2 hK2=>?_) ?_
  ·refine gg_ ?_
   exact hK2
  refine zg (c:=(yw u.ss ft).1) (λ_ K2 hK2=>hK2) ?_
  refine zg (c:=decide (fm<2)) (λ_ K2 hK2=>?_) (h _ S.ext)
  refine gg_ ?_
  exact hK2
 rw[if_neg ho]at h
 clear ho
 refine gg_ ?_
 refine zh (λho=>?_) (λho=>?_)
 ·rw[if_pos ho]at h
  refine S.ldB (b:=b3) ?_ rfl
  refine gp_ ?_
  refine yk (f:={ fr:=true }) S.holds hp0 λw31 e31=>?_
  have S:=S.go e31
  refine zg (c:=fok) (λ_ K2 hK2=>?_) ?_
  ·refine gg_ ?_
   exact hK2
  refine zg (c:=decide (0<p.fr.l)) (λ_ K2 hK2=>?_) ?_
  ·refine gg_ ?_
   exact hK2
  refine zg (c:=decide (p.fr.ps.length=0)) (λ_ K2 hK2=>?_) (h _ S.ext)
  refine gg_ ?_
  rw[QZ]
  exact hK2
 rw[if_neg ho]at h
 clear ho
 refine gg_ ?_
 refine zh (λho=>?_) (λho=>?_)
 ·rw[if_pos ho]at h
  refine S.ldB (b:=b3) ?_ rfl
  refine gp_ ?_
  refine yk (f:={ a:=true,el:=true }) S.holds hp0 λw31 e31=>?_
  have S:=S.go e31
  refine zg (c:=aok) (λ_ K2 hK2=>hK2) ?_
  refine zr (c:=isK ta 2) (λhb K2 hK2=>?_) λw32 e32=>?_
  ·refine S.ldB (b:=b10) ?_ rfl
   exact yF S.holds λw33 e33=>hK2 _ e33
  have S:=S.go e32
  refine zg (c:=ZW g p.el) (λ_ K2 hK2=>?_) (h _ S.ext)
  refine gg_ ?_
  exact afv (b:=b5) S hK2
 rw[if_neg ho]at h
 clear ho
 refine gg_ ?_
 refine zk (λs w'=>s=[.bool (decide (p.op=13∨p.op=14))]∧Ext w39 w') (λK9 hK9=>?_) ?_
 ·have hk:=hK9 _ _ ⟨rfl,Ext.refl _⟩
  rw[Bool.decide_or]at hk
  refine gp_ ?_
  refine qd hk λ_ hk=>?_
  refine gp_ ?_
  exact hk
 rintro _ w41 ⟨rfl,e41⟩ d41
 have S:=S.go e41
 rw[gdz]
 refine zh (λho=>?_) (λho=>?_)
 ·rw[if_pos ho]at h
  refine S.ldB (b:=b3) ?_ rfl
  refine gp_ ?_
  refine yk (f:={}) S.holds hp0 λw31 e31=>h _ (S.go e31).ext
 ·rw[if_neg ho]at h
  exact h _ S.ext
theorem j1{u:UnD}:∀{l:List GrD}{i:Nat},jX u i l=none↔∀(j:Nat)(h:j<l.length),xf u (i+j) l[j]=true
 |[],i=>⟨λ_ j h=>absurd h (Nat.not_lt_zero _),λ_=>rfl⟩
 |g::l,i=>by
  rw[jX]
  constructor
  ·intro h j hj
   split at h
   ·rename_i hg
    cases j with
    |zero=>exact hg
    |succ j=>
     have:=(j1 (l:=l) (i:=i+1)).1 h j (by simpa using hj)
     rw[List.getElem_cons_succ,show i+(j+1)=i+1+j by omega];exact this
   ·cases h
  ·intro h
   rw[if_pos (show xf u i g=true from h 0 (Nat.zero_lt_succ _))]
   refine(j1 (l:=l) (i:=i+1)).2 λj hj=>?_
   have:=h (j+1) (by simpa using hj)
   rwa[List.getElem_cons_succ,show i+(j+1)=i+1+j by omega]at this
theorem Xc{u:UnD}{g:GrD}:∀{l:List PtD}{q:Nat},Xa u g q l=none↔∀p∈l,zG u g p=true
 |[],q=>⟨λ_ p h=>(by cases h),λ_=>rfl⟩
 |x::l,q=>by
  rw[Xa]
  constructor
  ·intro h p hp
   split at h
   ·rename_i hx
    rcases List.mem_cons.1 hp with rfl|hp
    ·exact hx
    ·exact(Xc (l:=l) (q:=q+1)).1 h p hp
   ·cases h
  ·intro h
   rw[if_pos (h x List.mem_cons_self)]
   exact(Xc (l:=l) (q:=q+1)).2 λp hp=>h p (List.mem_cons_of_mem _ hp)
theorem Qx{u:UnD}:∀{l:List GrD}{i:Nat},XP u i l=none↔∀g∈l,∀p∈g.pts,zG u g p=true
 |[],i=>⟨λ_ g h=>(by cases h),λ_=>rfl⟩
 |x::l,i=>by
  rw[XP]
  constructor
  ·intro h g hg
   split at h
   ·cases h
   ·rename_i hx
    rcases List.mem_cons.1 hg with rfl|hg
    ·exact Xc.1 hx
    ·exact(Qx (l:=l) (i:=i+1)).1 h g hg
  ·intro h
   rw[Xc.2 (h x List.mem_cons_self)]
   exact(Qx (l:=l) (i:=i+1)).2 λg hg=>h g (List.mem_cons_of_mem _ hg)
structure MayU(u:UnD):Prop where
 ok:(zx u.ss).2=0
 fs1:1≤u.fs.length
 fs32:u.fs.length≤32
 mn0:0≤u.mn
 mn1:u.mn<u.fs.length
 head:∀(i:Nat)(h:i<u.fs.length),xf u i u.fs[i]=true
 pts:∀g∈u.fs,∀p∈g.pts,zG u g p=true
theorem aky(h:MayU u):jY u=(0,0,0):=by
 have h1:=h.fs1;have h2:=h.fs32;have h3:=h.mn0;have h4:=h.mn1
 unfold jY
 rw[if_neg (by rw[h.ok,decide_eq_false (show¬u.fs.length<1 by omega),decide_eq_false (show¬32<u.fs.length by omega),decide_eq_false (show¬u.mn<0 by omega),decide_eq_false (show¬(u.fs.length:Int)≤u.mn by omega)];decide),
  j1.2 (λj hj=>by rw[Nat.zero_add];exact h.head j hj)]
 dsimp only
 rw[Qx.2 h.pts]
theorem akz(h:(jY u).2.2=0):MayU u:=by
 unfold jY at h
 split at h
 ·cases h
 ·rename_i h1
  split at h
  ·cases h
  ·rename_i h2
   split at h
   ·cases h
   ·rename_i h3
    simp only[Bool.or_eq_true,Bool.not_eq_true',decide_eq_false_iff_not,gdt,not_or]at h1
    obtain⟨⟨h4,h5,h6⟩,h7,h8⟩:=h1
    exact⟨by omega,by omega,by omega,by omega,by omega,λi hi=>by have:=j1.1 h2 i hi;rwa[Nat.zero_add]at this,Qx.1 h3⟩
theorem Va:XQ u=true↔MayU u:=by
 rw[XQ,gdt]
 exact⟨akz,λh=>by rw[aky h]⟩
structure HeadU(u:UnD)(fn:Nat)(g:GrD):Prop where
 lv0:0≤g.lv
 lv8:g.lv≤8
 pn0:0≤g.pn
 pn8:g.pn≤8
 pn1:g.pn<g.tys.length
 ty512:g.tys.length≤512
 nms:g.nms.length=g.tys.length
 tys:jS u g 0 g.tys=true
 pt1:1≤g.pts.length
 pt1024:g.pts.length≤1024
 outs:jG g=true
 loans:yE g.pts≤256
 main:(fn:Int)=u.mn→g.lv=0∧g.pn=0∧(g.tys.headD zI).k=1
theorem adz{fn:Nat}(h:xf u fn g=true):HeadU u fn g:=by
 simp only[xf,gba,Bool.or_eq_true,Bool.not_eq_true',gdt,decide_eq_false_iff_not,isK]at h
 obtain⟨⟨⟨⟨⟨⟨⟨h1,h2⟩,h3,h4⟩,h5,h6⟩,h7⟩,h8⟩,⟨h9,h10⟩,h11⟩,h12,h13⟩:=h
 exact⟨h1,h2,h3,h4,by omega,h6,h7,h8,h9,h10,h11,h12,λe=>by rcases h13 with h|⟨⟨h,h'⟩,h2⟩
                                                           ·exact absurd e h
                                                           ·exact⟨h,h',h2⟩⟩
theorem HeadU.fine{fn:Nat}(h:HeadU u fn g)(ok:(zx u.ss).2=0):xz u.ss g.tys:=by
 obtain⟨h1,h2,h3,h4,_⟩:=yU ok
 exact⟨h1,h3,h4,λt ht=>(Zq (ahu h.tys t ht)).2⟩
theorem MayU.hd(h:MayU u){i:Nat}(hi:i<u.fs.length):HeadU u i u.fs[i]:=adz (h.head i hi)
theorem MayU.mem(h:MayU u)(hg:g∈u.fs):∃i,HeadU u i g:=by
 obtain⟨i,hi,rfl⟩:=List.getElem_of_mem hg
 exact⟨i,h.hd hi⟩
theorem MayU.fine(h:MayU u)(hg:g∈u.fs):xz u.ss g.tys:=by
 obtain⟨i,hi⟩:=h.mem hg
 exact hi.fine h.ok
end
end Go.Proofs
namespace Go.Sh
theorem alB{w:World}{A2:(List Value→World→Prop)→Prop}{A3 A4 A5:(List Value→World→Prop)→World→Prop}{Z:Value→World→Prop}{b1 b2 b3 b4 b5:Bool}
  (h2:∀K:List Value→World→Prop,K [.bool b2] w→A2 K) (h3:∀K:List Value→World→Prop,K [.bool b3] w→A3 K w) (h4:∀K:List Value→World→Prop,K [.bool b4] w→A4 K w) (h5:∀K:List Value→World→Prop,K [.bool b5] w→A5 K w)
  (hZ:Z (.bool (b1&&(b2||((b3&&b4)&&b5)))) w):
  za (λK=>gIf (.bool b1) true (A2 K) (K [u_] w)) λs64 _ w66=>
   za (λK=>gIf (s64.getD 0 u_) false (A3 K w66) (K [u_] w66)) λs68 _ w70=>
    za (λK=>gIf (s68.getD 0 u_) true (A4 K w70) (K [u_] w70)) λs72 _ w74=>
     za (λK=>gIf (s64.getD 0 u_) false (zb (s68.getD 0 u_) (s72.getD 0 u_) (.bool false) λt=>K [t] w74) (K [u_] w74)) λs76 _ w78=>
      za (λK=>gIf (s76.getD 0 u_) true (A5 K w78) (K [u_] w78)) λs80 _ w82=>
       za (λK=>gIf (s64.getD 0 u_) false (zb (s76.getD 0 u_) (s80.getD 0 u_) (.bool false) λt=>K [t] w82) (K [u_] w82)) λs84 _ w86=>
        za (λK=>gIf (.bool b1) true (zb (s64.getD 0 u_) (.bool true) (s84.getD 0 u_) λt=>K [t] w86) (K [u_] w86)) λs88 _ w90=>
         zb (.bool b1) (s88.getD 0 u_) (.bool false) λt=>Z t w90:=by
 cases b1<;>cases b2<;>cases b3<;>cases b4 <;>
  (iterate 7 (intro K hK;first|refine hK _ _ λ_=>?_|refine h2 _ (hK _ _ λ_=>?_)|refine h3 _ (hK _ _ λ_=>?_)|refine h4 _ (hK _ _ λ_=>?_)|refine h5 _ (hK _ _ λ_=>?_)|refine ⟨_,rfl,hK _ _ λ_=>?_⟩)) <;>
  exact⟨_,rfl,by simpa using hZ⟩
end Go.Sh
namespace Go.Proofs
open Go.Sh
theorem adA{a b:Nat}:decide ((a:Int)≠(b:Int))=decide (a≠b):=decide_eq_decide.2 (by omega)
theorem aiZ{u:UnD}{g:GrD}{i:Nat}{t:TyD}:tyG u g i t=(mayB u.ss t && !((regsT t).any λr=>decide (r<(if(i:Int)≤g.pn then 0 else -1))||decide (g.lv≤r))):=by
 rw[tyG,List.not_any_eq_all_not]
theorem ahx{u:UnD}{i:Nat}{v:Value}{w:World}{r:Gh}{K:Value→World→Prop}(hi:i<u.fs.length)(hr:Holds r w)(hu:UnG r v u)
  (h:∀w',Ext w w'→K (.bool (xf u i u.fs[i])) w'):zd Tryz.prog Tryz.Xr #[v,.int .i64 i] w K:=by
 obtain⟨p0,cap0,vf,rfl,_,_,hst,hsl,hfn⟩:=hu
 obtain⟨qf,capf,rfl,_,_⟩:=hfn.sl.shape
 obtain⟨bf,of,cf,rfl,hcf,hgc,hfo⟩:=hfn.sl.get (by decide) hi
 refine Tryz.afS ?_
 unfold Tryz.V6
 generalize hgi:u.fs[i]=g at h hgc
 obtain⟨vo,vt,vn,vp,rfl,h1,h2,h3,h4⟩:=id hgc
 obtain⟨qo,capo,rfl,_,_⟩:=h1.sl.shape
 obtain⟨qt,capt,rfl,_,hct⟩:=h2.sl.shape
 obtain⟨qn,capn,rfl,_,_⟩:=h3.sl.shape
 obtain⟨qp,capp,rfl,_,_⟩:=h4.sl.shape
 have hptl:g.pts.length≤9223372036854775807:=h4.few
 have htl:g.tys.length≤9223372036854775807:=h2.few
 have S:=St.start hr
 refine S.box λb2 w1 S=>?_
 refine gG_ ?_
 refine zo (n:=7) hcf (λj v hj=>by rw[tnc];exact S.at (hfo j v hj)) ?_
 refine S.al λb5 w2 S=>?_
 refine S.stB (b:=b5) λw3 S=>?_
 refine gG_ ?_
 have no:(HeadU u i g→False)→xf u i g=false:=λhh=>by
  cases e:xf u i g
  ·rfl
  ·exact(hh (adz e)).elim
 refine zn (c:=decide (8<g.lv)) (λ_ K2 hK2=>?_) ?_
 ·refine gG_ ?_
  exact hK2
 refine zn (c:=decide (g.pn<0)) (λ_ K2 hK2=>?_) ?_
 ·refine gG_ ?_
  exact hK2
 refine zn (c:=decide (8<g.pn)) (λ_ K2 hK2=>?_) ?_
 ·refine gG_ ?_
  exact hK2
 refine zn (c:=decide ((g.tys.length:Int)≤g.pn)) (λ_ K2 hK2=>?_) ?_
 ·refine gG_ ?_
  exact hK2
 refine zn (c:=decide (512<g.tys.length)) (λ_ K2 hK2=>?_) ?_
 ·refine gG_ ?_
  rw[show decide ((512:Int)<(g.tys.length:Int))=decide (512<g.tys.length)from decide_eq_decide.2 (by omega)]
  exact hK2
 refine zn (c:=decide (g.nms.length≠g.tys.length)) (λ_ K2 hK2=>?_) ?_
 ·refine gG_ ?_
  rw[adA]
  exact hK2
 refine c_b (λhbad=>?_) (λhgood=>?_)
 ·rw[no λH=>by
   have:=H.lv0;have:=H.lv8;have:=H.pn0;have:=H.pn8;have:=H.pn1;have:=H.ty512;have:=H.nms
   simp only[Bool.or_eq_true,gdt]at hbad;omega]at h
  exact h _ S.ext
 have hnum:(0≤g.lv∧g.lv≤8∧0≤g.pn∧g.pn≤8)∧g.pn<g.tys.length∧g.tys.length≤512∧g.nms.length=g.tys.length:=by
  simp only[Bool.or_eq_false_iff,decide_eq_false_iff_not]at hgood;omega
 clear hgood
 obtain⟨⟨hlv0,hlv8,hpn0,hpn8⟩,hpn1,hty,hnm⟩:=hnum
 refine gG_ ?_
 refine zj (ι:=Nat) (λi=>[.int .i64 (i:Nat)]) (λj w'=>j≤g.tys.length∧jS u g j (g.tys.drop j)=jS u g 0 g.tys∧StX noX w r w' _) (λi=>g.tys.length-i) 0 rfl ⟨gzl _,rfl,S⟩ ?_
 clear S
 rintro j d w5 ⟨hj,hd,S⟩ K6 hK6
 rw[gdz]
 refine gP_ ?_
 refine zh (λhlt=>?_) (λhge=>?_)
 ·have hlt:j<g.tys.length:=by omega
  obtain⟨bt,ot,ct,rfl,hct,htc,hcell⟩:=h2.sl.get (by decide) hlt
  obtain⟨q2,cap2,rfl,ht2⟩:=yj htc
  rw[afE hlt]at hd
  refine gP_ ?_
  refine zo (n:=5) hct (λj v hj=>by rw[tnc];exact S.at (hcell j v hj)) ?_
  refine S.al λb7 w6 S=>?_
  refine S.stB (b:=b7) λw7 S=>?_
  refine gG_ ?_
  refine Z9 S.holds hst ht2 λw8 e8=>?_
  have S:=S.go e8
  refine gP_ ?_
  refine c_b (λhm=>?_) (λhm=>?_)
  ·have hm:mayB u.ss g.tys[j]=false:=by simpa using hm
   rw[no λH=>by
    have:=H.tys
    rw[← hd,tyG,hm,Bool.false_and,Bool.false_and]at this;cases this]at h
   exact h _ S.ext
  have hm:mayB u.ss g.tys[j]=true:=by simpa using hm
  refine S.al λb8 w9 S=>?_
  refine S.st (b:=b8) λw10 S=>?_
  refine zk (λ_ w'=>StX noX w r w' [.cell b8 [.int .i64 (if(j:Int)≤g.pn then 0 else -1)] 3,.cell b7 (tyL g.tys[j] q2 cap2) 43,.cell b5 [.string g.name,.int .i64 g.lv,.slice qo g.outs.length capo,.int .i64 g.pn,.slice (some ⟨bt,ot,none⟩) g.tys.length capt,.slice qn g.nms.length capn,.slice qp g.pts.length capp] 101,
   .cell b2 [.slice p0 u.ss.length cap0,.slice (some ⟨bf,of,none⟩) u.fs.length capf,.int .i64 u.mn] 25]) (λK3 hK3=>?_) ?_
  ·refine gG_ ?_
   refine zh (λhle=>?_) (λhgt=>?_)
   ·refine S.st (b:=b8) λw11 S=>?_
    refine hK3 [] _ ?_
    rw[if_pos hle];exact S
   ·refine hK3 [] _ ?_
    rw[if_neg hgt];exact S
  clear S
  rintro _ w11 S d11
  refine S.ldB (b:=b7) ?_ rfl
  refine kA S.holds ht2 λv7 w12 e12 o12=>?_
  have S:=S.go e12
  obtain⟨p7,cap7,rfl,_,_,_,hs7⟩:=Qe o12
  refine gP_ ?_
  have hr48:(regsT g.tys[j]).length≤1000:=by
   rw[regsT];split
   ·have:=jo (by assumption);omega
   ·simp
  refine VU (f:=λx=>decide (x<(if(j:Int)≤g.pn then 0 else -1))||decide (g.lv≤x)) (λx K hK=>?_) hs7 (by omega) ?_
  ·refine adg (by kernel_rfl) ?_
   refine Tryz.ac4 ?_
   unfold Tryz.Jc
   refine S.ld (b:=b8) ?_ rfl
   refine gP_ ?_
   refine zn (c:=decide (g.lv≤x)) (λ_ K2 hK2=>?_) hK
   refine gG_ ?_
   exact hK2
  have hty:tyG u g j g.tys[j] = !((regsT g.tys[j]).any λx=>decide (x<(if(j:Int)≤g.pn then 0 else -1))||decide (g.lv≤x)):=by
   rw[aiZ,hm,Bool.true_and]
  refine c_b (λhx=>?_) (λhx=>?_)
  ·rw[hty,hx,Bool.not_true,Bool.false_and]at hd
   rw[no λH=>by have:=H.tys;rw[← hd]at this;cases this]at h
   exact h _ S.ext
  ·rw[hty,hx,Bool.not_false,Bool.true_and]at hd
   refine gP_ ?_
   rw[show ((j:Int)+1)=((j+1:Nat):Int)by omega]
   exact hK6 (j+1) _ ⟨hlt,hd,(S.drop b8).drop b7⟩ (by omega)
 have hje:j=g.tys.length:=by omega
 rw[hje,List.drop_length]at hd
 have htys:jS u g 0 g.tys=true:=hd.symm
 clear hd hK6 K6 hge hj hje
 refine gG_ ?_
 refine zn (c:=decide (1024<g.pts.length)) (λ_ K2 hK2=>?_) ?_
 ·refine gG_ ?_
  rw[show decide ((1024:Int)<(g.pts.length:Int))=decide (1024<g.pts.length)from decide_eq_decide.2 (by omega)]
  exact hK2
 refine yZ (c:=!jG g) (λ_ K2 hK2=>?_) λw20 e20=>?_
 ·refine S.ldB (b:=b5) ?_ rfl
  refine acq S.holds hgc hlv0 hlv8 hpn0 hpn1 (λt ht x hx=>?_) λw21 e21=>?_
  ·obtain⟨k,hk,rfl⟩:=List.getElem_of_mem ht
   rw[List.length_take]at hk
   rw[List.getElem_take]at hx
   have:=aco htys (j:=k) (by omega) (by omega) x hx
   omega
  refine gP_ ?_
  exact hK2 _ e21
 have S:=S.go e20
 refine c_b (λhbad=>?_) (λhgood=>?_)
 ·rw[no λH=>by
   have:=H.pt1;have:=H.pt1024;have h3:=H.outs
   rw[h3]at hbad
   simp only[Bool.or_eq_true,gdt,Bool.not_true,Bool.false_eq_true,or_false]at hbad;omega]at h
  exact h _ S.ext
 have hnum:(1≤g.pts.length∧g.pts.length≤1024)∧jG g=true:=by
  cases ho:jG g
  ·rw[ho]at hgood;simp at hgood
  ·simp only[Bool.or_eq_false_iff,decide_eq_false_iff_not]at hgood
   exact⟨by omega,rfl⟩
 clear hgood
 obtain⟨⟨hp1,hp1024⟩,hout⟩:=hnum
 refine gG_ ?_
 refine zj (ι:=Nat) (λi=>[.int .i64 (yE (g.pts.take i):Nat),.int .i64 (i:Nat)]) (λj w'=>j≤g.pts.length∧yE (g.pts.take j)≤j∧StX noX w r w' _) (λi=>g.pts.length-i) 0 rfl ⟨gzl _,Nat.le_refl _,S⟩ ?_
 clear S
 rintro j d w22 ⟨hj,hlj,S⟩ K7 hK7
 simp only[gdz,gds]
 refine gP_ ?_
 refine zh (λhlt=>?_) (λhge=>?_)
 ·have hlt:j<g.pts.length:=by omega
  obtain⟨bp,op,cp,rfl,hcp,hpc,hcell⟩:=h4.sl.get (by decide) hlt
  refine zk (λs w'=>s=[.int .i64 (yE (g.pts.take (j+1)):Nat)]∧StX noX w r w' [.cell b5 [.string g.name,.int .i64 g.lv,.slice qo g.outs.length capo,.int .i64 g.pn,.slice qt g.tys.length capt,.slice qn g.nms.length capn,.slice (some ⟨bp,op,none⟩) g.pts.length capp] 101,
   .cell b2 [.slice p0 u.ss.length cap0,.slice (some ⟨bf,of,none⟩) u.fs.length capf,.int .i64 u.mn] 25]) (λK3 hK3=>?_) ?_
  ·refine gP_ ?_
   refine zo (n:=21) hcp (λj v hj=>by rw[tnc];exact S.at (hcell j v hj)) ?_
   obtain⟨vto,va,vb,vl,vfr,rfl,k1,k2,k3,k4,k5⟩:=hpc
   obtain⟨_,_,rfl,_⟩:=k1.sl.shape
   obtain⟨_,_,rfl,_⟩:=k2.sl.shape
   obtain⟨_,_,rfl,_⟩:=k3.sl.shape
   obtain⟨_,_,rfl,_⟩:=k4.sl.shape
   obtain⟨_,_,rfl,_⟩:=k5.sl.shape
   refine S.al λb11 w23 S=>?_
   refine S.stB (b:=b11) λw24 S=>?_
   refine gG_ ?_
   have hlo:=J5 hlt
   refine zh (λho=>?_) (λho=>?_)
   ·rw[if_pos ho]at hlo
    refine gP_ ?_
    rw[show ((yE (g.pts.take j):Nat):Int)+1=((yE (g.pts.take (j+1)):Nat):Int)by omega]
    exact hK3 _ _ ⟨rfl,S.drop b11⟩
   ·rw[if_neg ho]at hlo
    rw[show ((yE (g.pts.take j):Nat):Int)=((yE (g.pts.take (j+1)):Nat):Int)by omega]
    exact hK3 _ _ ⟨rfl,S.drop b11⟩
  clear S
  rintro _ w25 ⟨rfl,S⟩ d25
  rw[gdz]
  refine gP_ ?_
  rw[show ((j:Int)+1)=((j+1:Nat):Int)by omega]
  refine hK7 (j+1) _ ⟨hlt,?_,S⟩ (by omega)
  rw[J5 hlt];split<;>omega
 have hje:j=g.pts.length:=by omega
 rw[hje,List.take_length]
 refine gP_ ?_
 have hfin:xf u i g=(decide (yE g.pts≤256)&&(decide ((i:Int)≠u.mn)||((decide (g.lv=0)&&decide (g.pn=0))&&isK (g.tys.headD zI) 1))):=by
  rw[xf,htys,hout,gde hlv0,gde hlv8,gde hpn0,gde hpn8,gde hpn1,gde hty,gde hnm,gde hp1,gde hp1024,decide_not];rfl
 rw[hfin]at h
 rw[show decide ((yE g.pts:Int)≤256)=decide (yE g.pts≤256)from decide_eq_decide.2 (by omega)]
 refine alB (b2:=decide ((i:Int)≠u.mn)) (b3:=decide (g.lv=0)) (b4:=decide (g.pn=0)) (b5:=isK (g.tys.headD zI) 1) (λK2 hK2=>?_) (λK2 hK2=>?_) (λK2 hK2=>?_) (λK2 hK2=>?_) (h _ S.ext)
 ·refine gG_ ?_
  exact hK2
 ·refine gG_ ?_
  exact hK2
 ·refine gG_ ?_
  exact hK2
 ·have hpos:0<g.tys.length:=by omega
  obtain⟨bt,ot,ct,rfl,hct,htc,hcell⟩:=h2.sl.get (by decide) hpos
  obtain⟨q2,cap2,rfl,ht2⟩:=yj htc
  refine gG_ ?_
  refine zf (v:=.int .u8 g.tys[0].k) (by simpa using S.at (hcell 0 _ rfl)) ?_
  refine gG_ ?_
  have he:g.tys.headD zI=g.tys[0]:=by
   rw[List.headD_eq_head?_getD,List.head?_eq_getElem?,gqg hpos,Option.getD_some]
  rw[he]at hK2
  exact hK2
theorem akA{u:UnD}{i:Nat}{l:List GrD}(hi:i<l.length):jX u i (l.drop i)=if xf u i l[i]then jX u (i+1) (l.drop (i+1))else some i:=by
 rw[List.drop_eq_getElem_cons hi];rfl
theorem alC{u:UnD}{g:GrD}{q:Nat}{l:List PtD}(hq:q<l.length):Xa u g q (l.drop q)=if zG u g l[q]then Xa u g (q+1) (l.drop (q+1))else some q:=by
 rw[List.drop_eq_getElem_cons hq];rfl
theorem amI{u:UnD}{i:Nat}{l:List GrD}(hi:i<l.length):XP u i (l.drop i)=match Xa u l[i] 0 l[i].pts with|some q=>some (i,q)|none=>XP u (i+1) (l.drop (i+1)):=by
 rw[List.drop_eq_getElem_cons hi];rfl
noncomputable def adB(u:UnD):Int×Int×Int:=match jX u 0 u.fs with
  |some i=>(i,-1,100)
  |none=>match XP u 0 u.fs with
   |some (i,q)=>(i,q,100)
   |none=>(0,0,0)
theorem af6{u:UnD}{v:Value}{w:World}{r:Gh}{K:Value→World→Prop}(hr:Holds r w)(hu:UnG r v u)
  (h:∀w',Ext w w'→K (.tuple #[.int .i64 (jY u).1,.int .i64 (jY u).2.1,.int .i64 (jY u).2.2]) w'):zd Tryz.prog Tryz.Yt #[v] w K:=by
 have hu0:=hu
 obtain⟨p0,cap0,vf,rfl,_,_,hst,hsl,hfn⟩:=hu
 obtain⟨qf,capf,rfl,_,_⟩:=hfn.sl.shape
 have hfl:u.fs.length≤9223372036854775807:=hfn.few
 refine Tryz.aeq ?_
 unfold Tryz.Vn
 have S:=St.start hr
 refine S.box λb1 w1 S=>?_
 refine gG_ ?_
 refine Zp S.holds hst λw2 e2=>?_
 have S:=S.go e2
 refine gS_ ?_
 refine zn (c:=decide (u.fs.length<1)) (λ_ K2 hK2=>?_) ?_
 ·refine gG_ ?_
  rw[show decide ((u.fs.length:Int)<1)=decide (u.fs.length<1)from decide_eq_decide.2 (by omega)]
  exact hK2
 refine zn (c:=decide (32<u.fs.length)) (λ_ K2 hK2=>?_) ?_
 ·refine gG_ ?_
  rw[show decide ((32:Int)<(u.fs.length:Int))=decide (32<u.fs.length)from decide_eq_decide.2 (by omega)]
  exact hK2
 refine zn (c:=decide (u.mn<0)) (λ_ K2 hK2=>?_) ?_
 ·refine gG_ ?_
  exact hK2
 refine zn (c:=decide ((u.fs.length:Int)≤u.mn)) (λ_ K2 hK2=>?_) ?_
 ·refine gG_ ?_
  exact hK2
 have hC:jY u=if ((((decide ((zx u.ss).2≠0)||decide (u.fs.length<1))||decide (32<u.fs.length))||decide (u.mn<0))||decide ((u.fs.length:Int)≤u.mn))=true then(-1,-1,100)else adB u:=by
  rw[jY,adB]
  simp only[ne_eq,decide_not,Bool.or_assoc] <;>
  rfl
 rw[hC]at h
 refine c_b (λhbad=>?_) (λhgood=>?_)
 ·rw[if_pos hbad]at h
  exact h _ S.ext
 rw[if_neg (by rw[hgood];decide)]at h
 have hok:(zx u.ss).2=0:=by
  simp only[Bool.or_eq_false_iff,decide_eq_false_iff_not]at hgood;omega
 clear hC hgood
 refine gG_ ?_
 refine zj (ι:=Nat×Int) (λi=>[.int .i64 i.2,.int .i64 0,.int .i64 (i.1:Nat)]) (λj w'=>j.1≤u.fs.length∧jX u j.1 (u.fs.drop j.1)=jX u 0 u.fs∧StX noX w r w' _) (λi=>u.fs.length-i.1) (0,0) rfl ⟨gzl _,rfl,S⟩ ?_
 clear S
 rintro⟨j,a⟩ d w5 ⟨hj,hd,S⟩ K6 hK6
 simp only at hj hd S⊢
 simp only[gdz,gds]
 refine gP_ ?_
 refine zh (λhlt=>?_) (λhge=>?_)
 ·have hlt:j<u.fs.length:=by omega
  rw[akA hlt]at hd
  refine S.ldB (b:=b1) ?_ rfl
  refine ahx hlt S.holds hu0 λw6 e6=>?_
  have S:=S.go e6
  refine gP_ ?_
  refine c_b (λhx=>?_) (λhx=>?_)
  ·rw[if_neg (by simpa using hx)]at hd
   rw[adB,← hd]at h
   exact h _ S.ext
  ·rw[if_pos (by simpa using hx)]at hd
   refine gP_ ?_
   rw[show ((j:Int)+1)=((j+1:Nat):Int)by omega]
   exact hK6 (j+1,j) _ ⟨hlt,hd,S⟩ (by show u.fs.length-(j+1)<u.fs.length-j;omega)
 have hje:j=u.fs.length:=by omega
 rw[hje,List.drop_length]at hd
 have hnone:jX u 0 u.fs=none:=hd.symm
 have hheads:=λ(i:Nat) (hi:i<u.fs.length)=>adz (by have:=j1.1 hnone i hi;rwa[Nat.zero_add]at this:xf u i u.fs[i]=true)
 rw[adB,hnone]at h
 dsimp only at h
 clear hd hK6 K6 hge hj hje
 refine zk (λs w'=>Ext w w'∧((∃x y:Nat,s=[.int .i64 (x:Int),.int .i64 (y:Int),.bool true]∧XP u 0 u.fs=some (x,y))∨∃x y,s=[x,y,.bool false]∧XP u 0 u.fs=none)) (λK3 hK3=>?_) ?_
 rotate_left
 ·rintro _ w9 ⟨e9,⟨x,y,rfl,hb⟩|⟨x,y,rfl,hb⟩⟩ d9
  ·rw[hb]at h
   refine c_t rfl ?_
   exact h _ e9
  ·rw[hb]at h
   refine c_f rfl ?_
   exact h _ e9
 refine gG_ ?_
 refine zj (ι:=Nat×Value×Value) (λi=>[i.2.1,i.2.2,.bool false,.int .i64 (i.1:Nat)]) (λj w'=>j.1≤u.fs.length∧XP u j.1 (u.fs.drop j.1)=XP u 0 u.fs∧StX noX w r w' _) (λi=>u.fs.length-i.1) (0,.int .i64 a,.int .i64 0) rfl ⟨gzl _,rfl,S⟩ ?_
 clear S
 rintro⟨j,x1,x2⟩ d w5 ⟨hj,hd,S⟩ K6 hK6
 simp only at hj hd S⊢
 simp only[gdz,gds]
 refine gP_ ?_
 refine zh (λhlt=>?_) (λhge=>?_)
 rotate_left
 ·have hje:j=u.fs.length:=by omega
  rw[hje,List.drop_length]at hd
  exact hK3 _ _ ⟨S.ext,.inr ⟨_,_,rfl,hd.symm⟩⟩
 have hlt:j<u.fs.length:=by omega
 obtain⟨bf,of,cf,rfl,hcf,hgc,hfo⟩:=hfn.sl.get (by decide) hlt
 rw[amI hlt]at hd
 have hH:=hheads j hlt
 have hfin:=hH.fine hok
 have hpn:∀f∈u.fs,0≤f.pn∧f.pn<f.tys.length:=λf hf=>by
  obtain⟨i,hi,rfl⟩:=List.getElem_of_mem hf
  exact⟨(hheads i hi).pn0,(hheads i hi).pn1⟩
 generalize hgi:u.fs[j]=g at hd hgc hH hfin
 obtain⟨vo,vt,vn,vp,rfl,h1,h2,h3,h4⟩:=id hgc
 obtain⟨qo,capo,rfl,_,_⟩:=h1.sl.shape
 obtain⟨qt,capt,rfl,_,hct⟩:=h2.sl.shape
 obtain⟨qn,capn,rfl,_,_⟩:=h3.sl.shape
 obtain⟨qp,capp,rfl,_,_⟩:=h4.sl.shape
 have hptl:g.pts.length≤9223372036854775807:=h4.few
 refine gP_ ?_
 refine zo (n:=7) hcf (λj v hj=>by rw[tnc];exact S.at (hfo j v hj)) ?_
 refine S.al λb9 w6 S=>?_
 refine S.stB (b:=b9) λw7 S=>?_
 refine S.ldB (b:=b1) ?_ rfl
 refine S.ldB (b:=b9) ?_ rfl
 refine zq (cs:=#[.slice p0 u.ss.length cap0,.slice (some ⟨bf,of,none⟩) u.fs.length capf,.int .i64 u.mn,.string g.name,.int .i64 g.lv,.slice qo g.outs.length capo,.int .i64 g.pn,.slice qt g.tys.length capt,.slice qn g.nms.length capn,.slice qp g.pts.length capp]) (by kernel_rfl) ?_
 refine S.al λb10 w8 S=>?_
 refine S.stB (b:=b10) λw9 S=>?_
 refine gG_ ?_
 have hask:AskG r (.agg #[.slice p0 u.ss.length cap0,.slice (some ⟨bf,of,none⟩) u.fs.length capf,.int .i64 u.mn,.string g.name,.int .i64 g.lv,.slice qo g.outs.length capo,.int .i64 g.pn,.slice qt g.tys.length capt,.slice qn g.nms.length capn,.slice qp g.pts.length capp]) u g:=⟨_,_,_,_,_,_,_,rfl,hu0,hgc⟩
 refine zj (ι:=Nat) (λi=>[x1,x2,.bool false,.int .i64 (i:Nat)]) (λk w'=>k≤g.pts.length∧Xa u g k (g.pts.drop k)=Xa u g 0 g.pts∧StX noX w r w' _) (λi=>g.pts.length-i) 0 rfl ⟨gzl _,rfl,S⟩ ?_
 clear S
 rintro k d w10 ⟨hk,hdk,S⟩ K7 hK7
 simp only[gdz,gds]
 refine gP_ ?_
 refine zh (λhlt2=>?_) (λhge=>?_)
 ·have hlt2:k<g.pts.length:=by omega
  obtain⟨bp,op,cp,rfl,hcp,hpc,hcell⟩:=h4.sl.get (by decide) hlt2
  rw[alC hlt2]at hdk
  refine gP_ ?_
  refine zo (n:=21) hcp (λj v hj=>by rw[tnc];exact S.at (hcell j v hj)) ?_
  obtain⟨vto,va,vb,vl,vfr,rfl,k1,k2,k3,k4,k5⟩:=id hpc
  obtain⟨_,_,rfl,_⟩:=k1.sl.shape
  obtain⟨_,_,rfl,_⟩:=k2.sl.shape
  obtain⟨_,_,rfl,_⟩:=k3.sl.shape
  obtain⟨_,_,rfl,_⟩:=k4.sl.shape
  obtain⟨_,_,rfl,_⟩:=k5.sl.shape
  refine S.al λb12 w11 S=>?_
  refine S.stB (b:=b12) λw12 S=>?_
  refine S.ldB (b:=b10) ?_ rfl
  refine S.ldB (b:=b12) ?_ rfl
  refine VV S.holds hask hfin hpn hpc λw13 e13=>?_
  have S:=S.go e13
  refine gP_ ?_
  refine c_b (λhx=>?_) (λhx=>?_)
  ·rw[if_neg (by simpa using hx)]at hdk
   rw[← hdk]at hd
   exact hK3 _ _ ⟨S.ext,.inl ⟨j,k,rfl,hd.symm⟩⟩
  ·rw[if_pos (by simpa using hx)]at hdk
   refine gP_ ?_
   rw[show ((k:Int)+1)=((k+1:Nat):Int)by omega]
   exact hK7 (k+1) _ ⟨hlt2,hdk,S.drop b12⟩ (by omega)
 have hke:k=g.pts.length:=by omega
 rw[hke,List.drop_length]at hdk
 rw[← hdk]at hd
 refine gP_ ?_
 rw[show ((j:Int)+1)=((j+1:Nat):Int)by omega]
 exact hK6 (j+1,x1,x2) _ ⟨hlt,hd,(S.drop b10).drop b9⟩ (by show u.fs.length-(j+1)<u.fs.length-j;omega)
theorem aiq{u:UnD}{v:Value}{w:World}{r:Gh}{K:Value→World→Prop}(hr:Holds r w)(hu:UnG r v u)
  (h:∀w',Ext w w'→K (.bool (XQ u)) w'):zd Tryz.prog Tryz.QM #[v] w K:=by
 refine Tryz.ag9 ?_
 unfold Tryz.abz
 have hu0:=hu
 obtain⟨p0,cap0,vf,rfl,_,_,hst,hsl,hfn⟩:=hu
 obtain⟨qf,capf,rfl,_,_⟩:=hfn.sl.shape
 have S:=St.start hr
 refine S.box λb1 w1 S=>?_
 refine S.ldB (b:=b1) ?_ rfl
 refine af6 S.holds hu0 λw2 e2=>?_
 have S:=S.go e2
 refine gS_ ?_
 exact h _ S.ext
section
variable {m:List Int}
theorem amJ{t:TyD}(hB:isB t=true)(hm:m.length=t.regs.length)(hlow:∀x∈m,-1≤x):Y9 t m=(t.lay m,0):=by
 have :Qv t m=true:=by
  rw[Qv,hB,gde hm.symm,Bool.true_and,Bool.true_and,Bool.not_eq_true',List.any_eq_false]
  intro x hx
  have:=hlow x hx
  simp only[gdt];omega
 rw[Y9,if_pos this]
theorem ai0{s:Gh}{p:Option Addr}{n cap:Nat}{l:List Int}(h:SlG 1 s yz (.slice p n cap) l):Ob s λw=>Sl w p (ints l):=λw hw i v hi=>by
 have hlt:i<l.length:=by
  have:=(List.getElem?_eq_some_iff.1 hi).1
  rwa[yh]at this
 have hv:v=.int .i64 l[i]:=by
  rw[ints,List.getElem?_map,gqg hlt]at hi
  exact(Option.some.inj hi).symm
 subst hv
 obtain⟨b,off,c,rfl,hc,hcc,hcell⟩:=h.get (by decide) hlt
 obtain rfl:c=_:=hcc
 have:=hcell 0 _ rfl w hw
 exact⟨b,off,rfl,by simpa using this⟩
theorem adC{X:Nat→Prop}{w0:World}{r:Gh}{t:TyD}{Lc:Nat→List Asr}{fv:Value}(hB:isB t=true)(hm:m.length=t.regs.length)(hlow:∀x∈m,-1≤x)
  (hf:∀(i:Nat)(hi:i<t.regs.length){M:List Asr}{w:World}{K:Value→World→Prop},StX X w0 r w (Lc i++M)→(∀w',StX X w0 r w' (Lc (i+1)++M)→K (.int .i64 (m[i]'(by omega))) w')→zD Tryz.prog fv #[.int .i64 t.regs[i]] w K)
  {M:List Asr} {w:World} {v:Value} {K:Value→World→Prop} (S:StX X w0 r w (Lc 0++M)) (hv:TyG r v t)
  (h:∀v' sn w',StX X w0 (r.or sn) w' (Lc t.regs.length++M)→Above w0 sn→TyG sn v' (t.lay m)→XL sn v' (t.lay m)→K v' w'):zd Tryz.prog Tryz.yP #[v,fv] w K:=by
 refine Tryz.acl ?_
 unfold Tryz.Qw
 have h48:=jo hB
 have hrT:regsT t=t.regs:=by rw[regsT,hB];rfl
 have hv0:=hv
 obtain⟨p1,cap1,rfl,_⟩:=hv
 refine S.box λb2 w1 S=>?_
 have S:StX X w0 r w1 (.cell b2 (tyL t p1 cap1) 43::(Lc 0++M)):=S
 refine S.al λb4 w2 S=>?_
 refine S.ldB (b:=b2) ?_ rfl
 refine kA S.holds hv0 λv9 w3 e3 o3=>?_
 rw[hrT]at o3
 have S:=S.take e3 o3
 obtain⟨p9,cap9,rfl,_⟩:=S.rowS v9
 refine gP_ ?_
 refine zj (ι:=Nat) (λi=>[.int .i64 (i:Nat)]) (λi w'=>i≤t.regs.length∧StX X w0 r w' (Lc i++(.row (.slice p9 t.regs.length cap9) 3 1 t.regs.length (ints (m.take i++t.regs.drop i))::.cell b4 je 43::.cell b2 (tyL t p1 cap1) 43::M))) (λi=>t.regs.length-i) 0 rfl
  ⟨gzl _,by
   rw[List.take_zero,List.drop_zero,List.nil_append]
   exact S.perm (by
    refine((List.Perm.cons _ ((List.Perm.cons _ List.perm_middle.symm).trans List.perm_middle.symm))).trans List.perm_middle.symm)⟩ ?_
 clear S
 rintro i d w4 ⟨hi,S⟩ K6 hK6
 rw[gdz]
 refine gP_ ?_
 refine zh (λhlt=>?_) (λhge=>?_)
 ·have hlt:i<t.regs.length:=by omega
  have S1:=S.perm (M:=.row (.slice p9 t.regs.length cap9) 3 1 t.regs.length (ints (m.take i++t.regs.drop i))::(Lc i++(.cell b4 je 43::.cell b2 (tyL t p1 cap1) 43::M))) List.perm_middle
  obtain⟨b9,rfl⟩:=S1.row0N (p:=p9) (n:=t.regs.length) (cap:=cap9) trivial (by omega)
  obtain⟨_,_,hv9,_,_,_,hs9⟩:=S1.rowS (.slice (some ⟨b9,0,none⟩) t.regs.length cap9)
  cases hv9
  have hlen:(m.take i++t.regs.drop i).length=t.regs.length:=by rw[gla,List.length_take,List.length_drop];omega
  obtain⟨bx,ox,hbx,hcell⟩:=vT hs9 (i:=i) (by omega)
  cases hbx
  have hel:(m.take i++t.regs.drop i)[i]=t.regs[i]:=by
   rw[List.getElem_append_right (by rw[List.length_take];omega)]
   simp only[List.length_take,List.getElem_drop]
   congr 1;omega
  refine gP_ ?_
  refine zf (v:=.int .i64 t.regs[i]) (by rw[← hel];simpa using hcell) ?_
  refine hf i hlt S λw5 S=>?_
  have S:=S.perm (M:=.row (.slice (some ⟨b9,0,none⟩) t.regs.length cap9) 3 1 t.regs.length (ints (m.take i++t.regs.drop i))::(Lc (i+1)++(.cell b4 je 43::.cell b2 (tyL t p1 cap1) 43::M))) List.perm_middle
  refine gP_ ?_
  rw[show 0+((i:Nat):Int).toNat=i by omega]
  refine S.stRow1 (cap:=cap9) hlt λw6 S=>?_
  refine gP_ ?_
  rw[show ((i:Int)+1)=((i+1:Nat):Int)by omega]
  refine hK6 (i+1) _ ⟨hlt,?_⟩ (by omega)
  have hset:(ints (m.take i++t.regs.drop i)).set i (.int .i64 (m[i]'(by omega)))=ints (m.take (i+1)++t.regs.drop (i+1)):=by
   rw[ints,ints,← List.map_set]
   congr 1
   rw[List.set_append_right _ _ (by rw[List.length_take];omega),List.length_take,Nat.min_eq_left (by omega),Nat.sub_self,List.drop_eq_getElem_cons hlt,List.set_cons_zero,show m.take (i+1)=m.take i++[m[i]'(by omega)]from List.take_succ_eq_append_getElem (by omega),List.append_assoc]
   rfl
  rw[hset]at S
  exact S.perm List.perm_middle.symm
 ·have hie:i=t.regs.length:=by omega
  rw[hie,List.drop_of_length_le (Nat.le_refl _),List.append_nil,List.take_of_length_le (by omega)]at S
  have S:=S.perm (M:=.row (.slice p9 t.regs.length cap9) 3 1 t.regs.length (ints m)::(Lc t.regs.length++(.cell b4 je 43::.cell b2 (tyL t p1 cap1) 43::M))) List.perm_middle
  have S:=S.perm (M:=.row (.slice p9 t.regs.length cap9) 3 1 t.regs.length (ints m)::.cell b4 je 43::.cell b2 (tyL t p1 cap1) 43::(Lc t.regs.length++M)) (List.Perm.cons _ (List.perm_middle.trans (List.Perm.cons _ List.perm_middle)))
  obtain⟨s9,S,hsl,_,hab9⟩:=S.doneRow (l:=m) (R:=yz) (sz:=1) ⟨by rw[yh,Nat.mul_one],λj hj=>by
   show _=_
   rw[Nat.mul_one,ints,← List.map_drop,← List.map_take,List.drop_eq_getElem_cons hj];rfl⟩ (by decide) (by omega)
  refine S.ldB (b:=b2) ?_ rfl
  rw[show t.regs.length=m.length from hm.symm]at hsl⊢
  refine ahj S.holds hv0.up (ai0 hsl).up (by omega) λv' sn w7 e7 n7 ht7 hc7=>?_
  rw[amJ hB hm hlow]at ht7 hc7⊢
  obtain⟨S,d7,a7⟩:=S.tell e7 n7
  have ht70:=ht7
  obtain⟨p7,cap7,rfl,_⟩:=ht7
  refine gP_ ?_
  refine gP_ ?_
  refine S.stB (b:=b2) λw8 S=>?_
  refine S.ldB (b:=b2) ?_ rfl
  refine S.stB (b:=b4) λw9 S=>?_
  refine S.ceB (b:=b4) ?_ rfl
  have S:=(S.tl.tl).to (r.or sn)
  exact h _ sn _ S a7 ht70 hc7
end
end Go.Proofs
namespace Go.Sh
theorem StX.front{X:Nat→Prop}{w0 w:World}{r:Gh}{L M:List Asr}(S:StX X w0 r w L)(b:Nat){c:List Value}{T:TypeId}[h:ZT b L c T M]:StX X w0 r w (.cell b c T::M):=S.permO h.h.symm
end Go.Sh
namespace Go.Proofs
open Go.Sh
theorem Xd{u:UnD}{g:GrD}{p:PtD}(h:zG u g p=true)(ho:p.op=7):0≤p.fn∧p.fn<u.fs.length:=by
 rw[zG,gba]at h
 have h2:=h.2
 rw[ptG]at h2
 simp only[ho,Int.reduceEq,if_false,if_true,gba,gdt]at h2
 exact⟨h2.1.2.1,h2.1.2.2⟩
theorem amK(t:TyD):yo (regsT t)≤48:=by
 have:=(Xk (regsT t)).2
 have :(regsT t).length≤48:=by
  rw[regsT];split
  ·exact jo (by assumption)
  ·simp
 omega
theorem abc(l:List TyD):zU l≤48*l.length:=by
 induction l with
 |nil=>simp [zU]
 |cons t l ih=>rw [zU,List.length_cons];have:=amK t;omega
theorem MayU.ptN{u:UnD}(h:MayU u){g:GrD}(hg:g∈u.fs){p:PtD}(hp:p∈g.pts):0≤Go.Proofs.ptN u p∧Go.Proofs.ptN u p≤8:=by
 unfold Go.Proofs.ptN
 split
 ·omega
 split
 ·rename_i h7
  have hc:=Xd (h.pts g hg p hp) h7
  rw[ajx,gqg (show p.fn.toNat<u.fs.length by omega)]
  have:=h.hd (show p.fn.toNat<u.fs.length by omega)
  exact⟨this.lv0,this.lv8⟩
 ·omega
theorem ahy{u:UnD}{l:List PtD}(h:∀p∈l,ptN u p≤8):atC u l≤8*l.length:=by
 induction l with
 |nil=>simp [atC]
 |cons t l ih=>
  rw[atC,List.length_cons]
  have:=h t List.mem_cons_self
  have:=ih λp hp=>h p (List.mem_cons_of_mem _ hp)
  omega
abbrev rgL(lv pt ct:Int)(vl va:Value):List Value:=[.int .i64 lv,.int .i64 pt,.int .i64 ct,vl,va]
theorem aeH{X:Nat→Prop}{w0:World}{r:Gh}{b6:Nat}{lv pt c:Int}{vl va:Value}{regs:List Int}(hc0:0≤c)(hc1:c≤1000000)(hn:regs.length≤1000000):
  ∀(i:Nat)(hi:i<regs.length){M:List Asr}{w:World}{K:Value→World→Prop},StX X w0 r w ([.cell b6 (rgL lv pt (c+yo (regs.take i)) vl va) 74]++M)→
   (∀w',StX X w0 r w' ([.cell b6 (rgL lv pt (c+yo (regs.take (i+1))) vl va) 74]++M)→K (.int .i64 ((yN regs c)[i]'(by rw[vy];exact hi))) w')→zD Tryz.prog (.func (.func Tryz.ZM) #[] #[.pointer (some ⟨b6,0,none⟩)]) #[.int .i64 regs[i]] w K:=by
 intro i hi M w K S h
 refine aa8 (by kernel_rfl) ?_
 refine Tryz.ads ?_
 unfold Tryz.Jt
 have S:StX X w0 r w (.cell b6 (rgL lv pt (c+yo (regs.take i)) vl va) 74::M):=S
 have hk:=aeD (c:=c) hi
 have ht:=akt hi
 have hle:=Xk (regs.take i)
 rw[List.length_take]at hle
 rw[hk]at h
 refine zk (λs w'=>s=[.int .i64 (if regs[i]<0 then c+yo (regs.take i)else regs[i])]∧StX X w0 r w' ([.cell b6 (rgL lv pt (c+yo (regs.take (i+1))) vl va) 74]++M)) (λK3 hK3=>?_) ?_
 ·refine gP_ ?_
  refine zh (λhlt=>?_) (λhge=>?_)
  ·refine gG_ ?_
   refine S.st (b:=b6) λw2 S=>?_
   refine hK3 _ _ ⟨by rw[if_pos hlt],?_⟩
   rw[ht,if_pos hlt,show c+(yo (regs.take i)+1)=c+yo (regs.take i)+1 by omega]
   exact S
  ·refine hK3 _ _ ⟨by rw[if_neg hge],?_⟩
   rw[ht,if_neg hge,Int.add_zero]
   exact S
 rintro _ w3 ⟨rfl,S⟩ d3
 rw[gdz]
 exact h _ S
theorem ajB(l:List Int):RowOf 1 yz (ints l) l:=⟨by rw[yh,Nat.mul_one],λj hj=>by
 show _=_
 rw[Nat.mul_one,ints,← List.map_drop,← List.map_take,List.drop_eq_getElem_cons hj];rfl⟩
theorem ahz{u:UnD}{fn q:Int}{v:Value}{w:World}{r:Gh}{K:Value→World→Prop}(hr:Holds r w)(hu:UnG r v u)
  (h:∀v' s w',Ext w w'→New w s w'→RgG s v' (zH u fn q).1→K (.tuple #[v',.int .i64 (zH u fn q).2]) w'):zd Tryz.prog Tryz.Xt #[v,.int .i64 fn,.int .i64 q] w K:=by
 have hu0:=hu
 obtain⟨p0,cap0,vf,rfl,_,_,hst,hsl,hfn⟩:=hu
 obtain⟨qf,capf,rfl,_,_⟩:=hfn.sl.shape
 have hfl:u.fs.length≤9223372036854775807:=hfn.few
 refine Tryz.af3 ?_
 unfold Tryz.aao
 have S:=St.start hr
 refine S.box λb3 w1 S=>?_
 have S:StX noX w r w1 [.cell b3 [.slice p0 u.ss.length cap0,.slice qf u.fs.length capf,.int .i64 u.mn] 25]:=S
 refine S.al λb6 w2 S=>?_
 refine gP_ ?_
 refine zn (c:=decide ((u.fs.length:Int)≤fn)) (λ_ K2 hK2=>?_) ?_
 ·refine gG_ ?_
  exact hK2
 refine yZ (c:=!XQ u) (λ_ K2 hK2=>?_) λw3 e3=>?_
 ·refine S.ldB (b:=b3) ?_ rfl
  refine aiq S.holds hu0 λw3 e3=>?_
  refine gP_ ?_
  exact hK2 _ e3
 have S:=S.go e3
 have hlen:∀{K9:Value→World→Prop},True:=fun {_}=>trivial
 refine zn (c:=decide (((u.fs[fn.toNat]?.map λg=>(g.pts.length:Int)).getD 0)≤q)) (λhb K2 hK2=>?_) ?_
 ·simp only[Bool.or_eq_false_iff,decide_eq_false_iff_not,Bool.not_eq_false']at hb
  have hlt:fn.toNat<u.fs.length:=by omega
  obtain⟨bf,of,cf,rfl,hcf,hgc,hfo⟩:=hfn.sl.get (by decide) hlt
  rw[gqg hlt]at hK2
  obtain⟨vo,vt,vn,vp,rfl,h1,h2,h3,h4⟩:=hgc
  obtain⟨qp,capp,rfl,_,_⟩:=h4.sl.shape
  refine gG_ ?_
  refine zf (v:=.slice qp u.fs[fn.toNat].pts.length capp) (by simpa using S.at (hfo 6 _ rfl)) ?_
  refine gG_ ?_
  exact hK2
 have hU:isU u fn q = !(((decide (fn<0)||decide ((u.fs.length:Int)≤fn)) || !XQ u)||decide (((u.fs[fn.toNat]?.map λg=>(g.pts.length:Int)).getD 0)≤q)):=by
  rw[isU]
  generalize ((u.fs[fn.toNat]?.map λg=>(g.pts.length:Int)).getD 0)=n
  cases XQ u<;>by_cases h1:fn<0<;>by_cases h2:(u.fs.length:Int)≤fn<;>by_cases h3:n≤q <;>
   simp[h1,h2,h3,Int.not_lt.2,Int.not_le.1,show (0≤fn) = ¬fn<0 from propext (by omega),show (fn<(u.fs.length:Int)) = ¬(u.fs.length:Int)≤fn from propext (by omega),show (q<n) = ¬n≤q from propext (by omega)]
 cases hc:isU u fn q with
 |false=>
  have hT:zH u fn q=(jZ,2):=by rw[zH,hc];rfl
  rw[hc]at hU
  rw[hT]at h
  refine c_t (aoE hU) ?_
  refine S.ldB (b:=b6) ?_ rfl
  refine S.stB (b:=b6) λw4 S=>?_
  refine gG_ ?_
  exact h _ nothing _ S.ext New.nothing RgG.zero
 |true=>
 rw[hc]at hU
 refine c_f (anw hU) ?_
 have hU:=anw hU
 simp only[Bool.or_eq_false_iff,decide_eq_false_iff_not,Bool.not_eq_false']at hU
 obtain⟨⟨⟨hf0,hf1⟩,hmay⟩,hq⟩:=hU
 have hM:=Va.1 hmay
 have hlt:fn.toNat<u.fs.length:=by omega
 have hT:zH u fn q=(allD u u.fs[fn.toNat],0):=by rw[zH,hc,gqg hlt];rfl
 rw[hT]at h
 have hH:=hM.hd hlt
 have hfin:=hH.fine hM.ok
 have hptN:=λp hp=>hM.ptN (gem hlt) (p:=p) hp
 have hpts:=hM.pts _ (gem hlt)
 obtain⟨bf,of,cf,rfl,hcf,hgc,hfo⟩:=hfn.sl.get (by decide) hlt
 clear hq hT
 generalize u.fs[fn.toNat]=g at h hH hfin hptN hpts hgc
 obtain⟨vo,vt,vn,vp,rfl,h1,h2,h3,h4⟩:=id hgc
 obtain⟨qo,capo,rfl,_,_⟩:=h1.sl.shape
 obtain⟨qt,capt,rfl,_,hct⟩:=h2.sl.shape
 obtain⟨qn,capn,rfl,_,_⟩:=h3.sl.shape
 obtain⟨qp,capp,rfl,_,_⟩:=h4.sl.shape
 obtain⟨hlv0,hlv8,_,_,_,hty,_,htys,hp1,hp1024,_,_,_⟩:=hH
 refine gG_ ?_
 refine zo (n:=7) hcf (λj v hj=>S.at (hfo j v hj)) ?_
 refine S.al λb8 w4 S=>?_
 refine S.stB (b:=b8) λw5 S=>?_
 have S:=S.go (Ext.drew _)
 have S:StX noX w r w5.drew [.cell b8 [.string g.name,.int .i64 g.lv,.slice qo g.outs.length capo,.int .i64 g.pn,.slice qt g.tys.length capt,.slice qn g.nms.length capn,.slice qp g.pts.length capp] 101,
  .cell b6 (rgL 0 0 0 (.slice none 0 0) (.slice none 0 0)) 74,.cell b3 [.slice p0 u.ss.length cap0,.slice (some ⟨bf,of,none⟩) u.fs.length capf,.int .i64 u.mn] 25]:=S
 refine zk (λ_ w'=>StX noX w r w' [.cell b8 [.string g.name,.int .i64 g.lv,.slice qo g.outs.length capo,.int .i64 g.pn,.slice qt g.tys.length capt,.slice qn g.nms.length capn,.slice qp g.pts.length capp] 101,
  .cell b6 (rgL g.lv g.pts.length g.lv (.slice none 0 0) (.slice none 0 0)) 74,.cell b3 [.slice p0 u.ss.length cap0,.slice (some ⟨bf,of,none⟩) u.fs.length capf,.int .i64 u.mn] 25]) (λK20 hK20=>?_) ?_
 ·repeat' (first
   |(first|refine s_p ?_|refine s_c (by omega) ?_|refine S.ld ?_|refine S.ldB ?_|refine S.ce ?_|refine S.ceB ?_|refine s_q ?_|refine s_qc (by omega) ?_|refine n_some ?_|rw [gdz]|rw [gds])
   |(refine S.st (b:=b6) λw6 S=>?_)
   |exact hK20 [] _ S
   |refine Xp ?_
   |refine And.intro ?_ ?_)
 clear S
 rintro _ w6 S d6
 have S:=S.swap
 have S:=S.ownNil 43 5
 have S:=S.swap
 refine gG_ ?_
 refine zj (ι:=Nat×Value×Gh×List Value) (λi=>[.int .i64 (i.1:Nat)]) (λi w'=>i.1≤g.tys.length∧RowOf 5 (TyC i.2.2.1) i.2.2.2 (kc (g.tys.take i.1) g.lv)∧Above w i.2.2.1∧
  StX noX w (r.or i.2.2.1) w' [.cell b6 (rgL g.lv g.pts.length (g.lv+zU (g.tys.take i.1)) i.2.1 (.slice none 0 0)) 74,.row i.2.1 43 5 i.1 i.2.2.2,
   .cell b8 [.string g.name,.int .i64 g.lv,.slice qo g.outs.length capo,.int .i64 g.pn,.slice qt g.tys.length capt,.slice qn g.nms.length capn,.slice qp g.pts.length capp] 101,.cell b3 [.slice p0 u.ss.length cap0,.slice (some ⟨bf,of,none⟩) u.fs.length capf,.int .i64 u.mn] 25]) (λi=>g.tys.length-i.1) (0,.slice none 0 0,nothing,[]) rfl
  ⟨gzl _,RowOf.nil,Above.no,by
   rw[List.take_zero,show g.lv+zU []=g.lv by simp[zU]];exact S.to (r.or nothing)⟩ ?_
 clear S
 rintro⟨i,v,s,xs⟩ d w7 ⟨hi,hrow,hab,S⟩ K6 hK6
 simp only at hi hrow hab S⊢
 rw[gdz]
 refine gP_ ?_
 refine zh (λhlt2=>?_) (λhge=>?_)
 ·have hlt2:i<g.tys.length:=by omega
  obtain⟨bt,ot,ct,rfl,hct2,htc,hcell⟩:=h2.sl.get (by decide) hlt2
  obtain⟨q2,cap2,rfl,ht2⟩:=yj htc
  have hfi:Fine u.ss g.tys[i]:=hfin.all _ (gem hlt2)
  have hB:=hfi.is hfin.few
  have hrT:regsT g.tys[i]=g.tys[i].regs:=by rw[regsT,hB];rfl
  have h48:=jo hB
  have hl0:=vz (g.tys.take i)
  have hl1:=abc (g.tys.take i)
  rw[List.length_take]at hl1
  have hlow:∀x∈yN g.tys[i].regs (g.lv+zU (g.tys.take i)),-1≤x:=λx hx=>by
   obtain⟨j,hj,rfl⟩:=List.getElem_of_mem hx
   rw[vy]at hj
   rw[aeD hj]
   have:=(Xk (g.tys[i].regs.take j)).1
   split<;>omega
  obtain⟨pv,capv,rfl,_,_,hxl,_⟩:=S.rowS v
  refine zk (λ_ w'=>∃v' s' xs',RowOf 5 (TyC s') xs' (kc (g.tys.take (i+1)) g.lv)∧Above w s'∧StX noX w (r.or s') w' [.cell b6 (rgL g.lv g.pts.length (g.lv+zU (g.tys.take (i+1))) v' (.slice none 0 0)) 74,.row v' 43 5 (i+1) xs',
   .cell b8 [.string g.name,.int .i64 g.lv,.slice qo g.outs.length capo,.int .i64 g.pn,.slice (some ⟨bt,ot,none⟩) g.tys.length capt,.slice qn g.nms.length capn,.slice qp g.pts.length capp] 101,.cell b3 [.slice p0 u.ss.length cap0,.slice (some ⟨bf,of,none⟩) u.fs.length capf,.int .i64 u.mn] 25]) (λK87 hK87=>?_) ?_
  rotate_left
  ·clear S
   rintro _ w8 ⟨v',s',xs',hr',ha',S⟩ d8
   refine gP_ ?_
   rw[show ((i:Int)+1)=((i+1:Nat):Int)by omega]
   exact hK6 (i+1,v',s',xs') _ ⟨hlt2,hr',ha',S⟩ (by show g.tys.length-(i+1)<g.tys.length-i;omega)
  refine gP_ ?_
  refine zo (n:=5) hct2 (λj v hj=>by rw[tnc];exact S.at (hcell j v hj)) ?_
  refine S.al λb10 w8 S=>?_
  refine S.stB (b:=b10) λw9 S=>?_
  have S:=S.go (Ext.drew _)
  refine gG_ ?_
  have hsnoc:=aku (c:=g.lv) hlt2
  have htak:=afx hlt2
  rw[hrT]at hsnoc htak
  have hcall:∀{M:List Asr}{w9:World}{K9:Value→World→Prop},StX noX w (r.or s) w9 (.cell b6 (rgL g.lv g.pts.length (g.lv+zU (g.tys.take i)) (.slice pv i capv) (.slice none 0 0)) 74::M)→
    (∀q' cap' sn w',StX noX w ((r.or s).or sn) w' (.cell b6 (rgL g.lv g.pts.length (g.lv+zU (g.tys.take (i+1))) (.slice pv i capv) (.slice none 0 0)) 74::M)→Above w (s.or sn)→
     RowOf 5 (TyC (s.or sn)) (xs++tyL (g.tys[i].lay (yN g.tys[i].regs (g.lv+zU (g.tys.take i)))) q' cap') (kc (g.tys.take (i+1)) g.lv)→K9 (tyV (g.tys[i].lay (yN g.tys[i].regs (g.lv+zU (g.tys.take i)))) q' cap') w')→
    zd Tryz.prog Tryz.yP #[tyV g.tys[i] q2 cap2,.func (.func Tryz.ZM) #[] #[.pointer (some ⟨b6,0,none⟩)]] w9 K9:=by
   intro M w9 K9 S hk
   refine adC (Lc:=λj=>[.cell b6 (rgL g.lv g.pts.length (g.lv+zU (g.tys.take i)+yo (g.tys[i].regs.take j)) (.slice pv i capv) (.slice none 0 0)) 74]) (M:=M) (m:=yN g.tys[i].regs (g.lv+zU (g.tys.take i))) hB (vy _ _) hlow
    (aeH (by omega) (by omega) (by omega)) (by
     show StX _ _ _ _ (.cell b6 (rgL _ _ (_+yo (List.take 0 _)) _ _) _::M)
     rw[List.take_zero,show yo []=0 from rfl,Int.add_zero];exact S) ht2.up λv' sn w' S ha ht hc=>?_
   obtain⟨q',cap',rfl,_⟩:=id ht
   refine hk q' cap' sn w' ?_ (hab.or' ha) ?_
   ·rw[htak,← Int.add_assoc]
    have S:StX noX w ((r.or s).or sn) w' (.cell b6 (rgL g.lv g.pts.length (g.lv+zU (g.tys.take i)+yo (g.tys[i].regs.take g.tys[i].regs.length)) (.slice pv i capv) (.slice none 0 0)) 74::M):=S
    rw[List.take_length]at S
    exact S
   ·rw[hsnoc]
    exact(hrow.mono λc x hx=>TyG.up hx).snoc rfl (TyG.up ht)
  have hS:=S
  repeat' (first
   |(first|refine s_p ?_|refine s_c (by omega) ?_|refine S.ld ?_|refine S.ldB ?_|refine S.ce ?_|refine S.ceB ?_|refine s_q ?_|refine s_qc (by omega) ?_|refine n_some ?_|rw [gdz]|rw [gds])
   |(rw[show 0+((i:Nat):Int).toNat*5=i*5 by omega])
   |(refine S.litU (e:=43) (cs:=je) (by kernel_rfl) λb33 w33 S=>?_)
   |(refine hcall (S.front b6) λq' cap' sn w34 S ha9 hr9=>?_)
   |(refine S.ap (m':=1) (Sl.blk (S.blk b33)) (λv9 w35 S=>?_) (by omega);obtain⟨p9,cap9,rfl,_⟩:=S.rowS v9;obtain⟨b9,rfl⟩:=S.row0N (p:=p9) (n:=i+1) (cap:=cap9) trivial (by omega))
   |(refine S.stRowN (i:=i) (b:=b9) (n:=i+1) (cap:=cap9) (by omega) λw36 S=>?_;rw[akw hxl rfl]at S)
   |(refine S.st (b:=b6) λw37 S=>?_)
   |exact hK87 [] _ ⟨_,_,_,hr9,ha9,((S.drop b33).drop b10).reGh⟩
   |refine Xp ?_
   |refine And.intro ?_ ?_)
 have hie:i=g.tys.length:=by omega
 subst hie
 rw[List.take_length]at hrow S
 have S:=S.swap
 obtain⟨s2,S,hsl2,_,hab2⟩:=S.doneRow hrow (by decide) (by rw[kC])
 have hab2:Above w s2:=λb o ho=>(hab2 b o ho).resolve_right id
 have hloc:=vz g.tys
 have hloc2:=abc g.tys
 clear hK6 K6 hge hi
 have S:=S.ownNil 3 1
 have S:=S.swap
 refine gG_ ?_
 generalize hbase:g.lv+zU g.tys=base at S
 refine zj (ι:=Nat×Value) (λi=>[.int .i64 (i.1:Nat)]) (λi w'=>i.1≤g.pts.length∧
  StX noX w ((r.or s).or s2) w' [.cell b6 (rgL g.lv g.pts.length (base+atC u (g.pts.take i.1)) v i.2) 74,.row i.2 3 1 i.1 (ints (atK u (g.pts.take i.1) base)),
   .cell b8 [.string g.name,.int .i64 g.lv,.slice qo g.outs.length capo,.int .i64 g.pn,.slice qt g.tys.length capt,.slice qn g.nms.length capn,.slice qp g.pts.length capp] 101,.cell b3 [.slice p0 u.ss.length cap0,.slice (some ⟨bf,of,none⟩) u.fs.length capf,.int .i64 u.mn] 25]) (λi=>g.pts.length-i.1) (0,.slice none 0 0) rfl
  ⟨gzl _,by
   rw[List.take_zero,show base+atC u []=base by simp[atC]];exact S⟩ ?_
 clear S
 rintro⟨i,va⟩ d w8 ⟨hi,S⟩ K7 hK7
 simp only at hi S⊢
 rw[gdz]
 have ha0:=XS (u:=u) (l:=g.pts) (λp hp=>(hptN p hp).1) i
 have ha1:=ahy (u:=u) (l:=g.pts) λp hp=>(hptN p hp).2
 refine gP_ ?_
 refine zh (λhlt2=>?_) (λhge=>?_)
 ·have hlt2:i<g.pts.length:=by omega
  obtain⟨bp,op,cp,rfl,hcp,hpc,hcell⟩:=h4.sl.get (by decide) hlt2
  have hN:=hptN g.pts[i] (gem hlt2)
  have hpt:=hpts g.pts[i] (gem hlt2)
  have hsn:=alx (u:=u) (c:=base) hlt2
  have htk:=acn (u:=u) hlt2
  refine gP_ ?_
  refine zo (n:=21) hcp (λj v hj=>by rw[tnc];exact S.at (hcell j v hj)) ?_
  generalize g.pts[i]=p at hpc hN hpt hsn htk
  obtain⟨vto,vaa,vb,vl,vfr,rfl,k1,k2,k3,k4,k5⟩:=hpc
  obtain⟨_,_,rfl,_⟩:=k1.sl.shape
  obtain⟨_,_,rfl,_⟩:=k2.sl.shape
  obtain⟨_,_,rfl,_⟩:=k3.sl.shape
  obtain⟨_,_,rfl,_⟩:=k4.sl.shape
  obtain⟨_,_,rfl,_⟩:=k5.sl.shape
  refine S.al λb12 w9 S=>?_
  refine S.stB (b:=b12) λw10 S=>?_
  refine zk (λs w'=>s=[.int .i64 (ptN u p)]∧w'=w10) (λK9 hK9=>?_) ?_
  ·refine gG_ ?_
   refine zh (λho=>?_) (λho=>?_)
   ·refine hK9 _ _ ⟨by rw[ptN,if_pos ho],rfl⟩
   refine gG_ ?_
   refine zh (λho2=>?_) (λho2=>?_)
   ·have hcc:=Xd hpt ho2
    have hlt3:p.fn.toNat<u.fs.length:=by omega
    obtain⟨bf2,of2,cf2,hbe,hcf2,hgc2,hfo2⟩:=hfn.sl.get (by decide) hlt3
    cases hbe
    obtain⟨vo',vt',vn',vp',rfl,_⟩:=hgc2
    refine gG_ ?_
    refine zf (v:=.int .i64 u.fs[p.fn.toNat].lv) (by simpa using S.at (hfo2 1 _ rfl)) ?_
    refine hK9 _ _ ⟨by rw[ptN,if_neg ho,if_pos ho2,ajx,gqg hlt3],rfl⟩
   ·exact hK9 _ _ ⟨by rw[ptN,if_neg ho,if_neg ho2],rfl⟩
  rintro _ w10 ⟨rfl,rfl⟩ d10
  refine gG_ ?_
  refine zk (λs w'=>s=[.int .i64 (if ptN u p=0 then -1 else base+atC u (g.pts.take i))]∧w'=w10) (λK9 hK9=>?_) ?_
  ·refine gG_ ?_
   refine zh (λho=>?_) (λho=>?_)
   ·exact hK9 _ _ ⟨by rw[if_pos ho],rfl⟩
   ·exact hK9 _ _ ⟨by rw[if_neg ho],rfl⟩
  rintro _ w10 ⟨rfl,rfl⟩ d11
  obtain⟨pa,capa,rfl,_,_,hxl,_⟩:=S.rowS va
  refine gG_ ?_
  refine S.lit (e:=3) (cs:=[.int .i64 (if ptN u p=0 then -1 else base+atC u (g.pts.take i))]) (by kernel_rfl) λb13 w11 S=>?_
  refine S.ap (m':=1) (Sl.blk (S.blk b13)) (λv13 w12 S=>?_) (by omega)
  have hv1:=S.row1 v13
  refine gG_ ?_
  refine S.st (b:=b6) (h1:=hv1) λw13 S=>?_
  refine gG_ ?_
  refine S.st (b:=b6) λw14 S=>?_
  refine gG_ ?_
  rw[show ((i:Int)+1)=((i+1:Nat):Int)by omega]
  refine hK7 (i+1,v13) _ ⟨hlt2,?_⟩ (by show g.pts.length-(i+1)<g.pts.length-i;omega)
  have hins:ints (atK u (g.pts.take i) base)++[.int .i64 (if ptN u p=0 then -1 else base+atC u (g.pts.take i))]=ints (atK u (g.pts.take (i+1)) base):=by rw[hsn,ints,ints,List.map_append];rfl
  rw[hins]at S
  have S:=(S.drop b13).drop b12
  rw[htk,← Int.add_assoc]
  exact S
 have hie:i=g.pts.length:=by omega
 subst hie
 rw[List.take_length]at S
 have S:=S.swap
 obtain⟨s3,S,hsl3,_,hab3⟩:=S.doneRow (l:=atK u g.pts base) (R:=yz) (sz:=1) (ajB _) (by decide) (by rw[ZX])
 have hab3:Above w s3:=λb o ho=>(hab3 b o ho).resolve_right id
 obtain⟨_,_,rfl,_⟩:=hsl2.shape
 obtain⟨_,_,rfl,_⟩:=hsl3.shape
 refine gG_ ?_
 refine S.stB (b:=b6) λw15 S=>?_
 refine gG_ ?_
 have hle:Le ((s.or s2).or s3) (((r.or s).or s2).or s3):=⟨λb o ho=>by
  rcases ho with(ho|ho)|ho
  ·exact .inl (.inl (.inr ho))
  ·exact .inl (.inr ho)
  ·exact .inr ho⟩
 refine h _ ((s.or s2).or s3) _ S.ext (S.newOf ((hab.or' hab2).or' hab3)) ⟨_,_,?_,hsl2.up' (s:=(s.or s2).or s3) inferInstance λc x hx=>TyG.up hx,by rw[show (allD u g).at'=atK u g.pts base by rw[← hbase];rfl];exact hsl3.cells⟩
 rw[← hbase];rfl
end Go.Proofs
