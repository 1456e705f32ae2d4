/-
  Contracts and plain laws that the last text leans on.
-/
import Derived.Test.YtaadilcboiiopaaGreatQCc
import Derived.MapKept
import Derived.Test.YtaadilcboiiopaaGreatQCa
import Derived.Test.YtaadilcboiiopaaGreatQCb
import GoSem.Builtin.Clear
import Derived.Lib.ItoaLen
import Derived.Shelf.Strings.Builder1
import Derived.Shelf.Strings.OnBuilder
import Derived.Shelf.Small.Wraps
import Derived.Shelf.Strconv.Itoa3
import Derived.Shelf.Strconv.Itoa4
import Derived.Shelf.Slices.CompactI
import Derived.Test.YtaadilcboiiopaaGreatProg
import Derived.KernelRfl
set_option maxRecDepth 100000
set_option maxHeartbeats 8000000
set_option linter.unusedVariables false
set_option linter.unusedSimpArgs false
namespace Go.Proofs
open Go.Sh
section
variable {w:World} {r:Gh} {M:List Asr} {q:Option Addr} {K:Value→World→Prop}
theorem Sl.tail{p:Option Addr}{a:Int}{l:List Int}{cap:Nat}(h:Sl w p (ints (a::l)))(hc:(a::l).length≤cap):Sl w (if cap=(1:Int).toNat then p else p.map (·.add ((1:Int).toNat*1))) (ints l):=λi v hv=>by
 have h1:=h (i+1) v (by simpa [ints]using hv)
 have hi:i<l.length:=by
  have:=(List.getElem?_eq_some_iff.1 hv).1
  rwa[kN]at this
 obtain⟨b,off,hp,hcell⟩:=h1
 rw[List.length_cons]at hc
 rw[if_neg (show¬cap=(1:Int).toNat by have :(1:Int).toNat=1:=rfl;omega),hp,Option.map_some,xv]
 exact⟨b,off+1,rfl,by rwa[show off+1+i=off+(i+1)by omega]⟩
abbrev fvI(b3 b4:Nat):Value:=.func (.func Tryz.YW) #[] #[.pointer (some ⟨b3,0,none⟩),.pointer (some ⟨b4,0,none⟩)]
abbrev JQ(f:Nat→Nat→Bool)(l:List Int):Nat→Nat→Bool:=λx y=>f x y||qF x y l
abbrev YQ(f:Nat→Nat→Bool)(a:Int)(l:List Int):Nat→Nat→Bool:=λx y=>f x y||(decide (a=(y:Int))&&l.contains (x:Int))
theorem ahC{b3 b4 bt:Nat}{M:List Asr}{w0:World}:∀(l:List Int){p:Option Addr}{cap:Nat}{f:Nat→Nat→Bool}{w:World}{K:Value→World→Prop},(∀x∈l,0≤x∧x<8)→(Ob r λw=>Sl w p (ints l))→l.length≤cap→l.length≤1000→
  StX noX w0 r w (.cell b4 [fvI b3 b4] 118::.cell b3 [.pointer (some ⟨bt,0,none⟩)] 206::.cell bt (zR f) 204::M)→
  (∀w',StX noX w0 r w' (.cell b4 [fvI b3 b4] 118::.cell b3 [.pointer (some ⟨bt,0,none⟩)] 206::.cell bt (zR (JQ f l)) 204::M)→K (.tuple #[]) w')→
  zF Tryz.prog (fvI b3 b4) #[.slice p l.length cap] w K:=by
 intro l
 induction l with
 |nil=>
  intro p cap f w K hx hl hc hb S h
  refine af4 (by kernel_rfl) ?_
  refine Tryz.Yq ?_
  unfold Tryz.jS
  refine gP_ ?_
  refine gP_ ?_
  refine c_t (by simp) ?_
  refine h _ ?_
  rw[yO (g:=f) (λx y _ _=>by show(f x y||qF x y [])=f x y;rw[qF,Bool.or_false])]
  exact S
 |cons a l ih=>
  intro p cap f w K hx hl hc hb S h
  refine af4 (by kernel_rfl) ?_
  refine Tryz.Yq ?_
  unfold Tryz.jS
  obtain⟨ha0,ha8⟩:=hx a List.mem_cons_self
  have hxl:∀x∈l,0≤x∧x<8:=λx h=>hx x (List.mem_cons_of_mem _ h)
  have hal:(a::l).length=l.length+1:=List.length_cons
  have hll:l.length≤1000:=by rw[List.length_cons]at hb;omega
  have hlc:l.length+1≤cap:=by rwa[List.length_cons]at hc
  have hsl:Ob r λw=>Sl w (if cap=(1:Int).toNat then p else p.map (·.add ((1:Int).toNat*1))) (ints l):=λw k=>Sl.tail (hl w k) hc
  have hlen:(a::l).length-(1:Int).toNat=l.length:=by simp
  obtain⟨bp,op,rfl,hcell⟩:=Xh (S.at hl) (i:=0) (by simp)
  refine gP_ ?_
  refine gP_ ?_
  refine c_f (by rw[List.length_cons];exact decide_eq_false (by omega)) ?_
  refine gP_ ?_
  rw[hlen]
  refine gP_ ?_
  obtain⟨p2,hp2⟩:∃p2,(if cap=(1:Int).toNat then(some ⟨bp,op,none⟩:Option Addr)else(some ⟨bp,op,none⟩:Option Addr).map (·.add ((1:Int).toNat*1)))=p2:=⟨_,rfl⟩
  rw[hp2]at hsl⊢
  refine zh (ι:=Nat) (λi=>[.int .i64 (i:Nat)]) (λi w'=>i≤l.length∧StX noX w0 r w' (.cell b4 [fvI b3 b4] 118::.cell b3 [.pointer (some ⟨bt,0,none⟩)] 206::.cell bt (zR (YQ f a (l.take i))) 204::M)) (λi=>l.length-i) 0 rfl
   ⟨gzl _,by
    rw[yO (f:=YQ f a (l.take 0)) (g:=f) (λx y _ _=>by simp[YQ])]
    exact S⟩ ?_
  clear S
  rintro i d w1 ⟨hi,S⟩ K6 hK6
  rw[gdz]
  refine gP_ ?_
  refine zf (λhlt=>?_) (λhge=>?_)
  ·have hlt:i<l.length:=by omega
   obtain⟨bq,oq,rfl,hcell2⟩:=Xh (S.at hsl) hlt
   obtain⟨hi0,hi8⟩:=hxl _ (gem hlt)
   have S:=S.go (Ext.drew _)
   refine gP_ ?_
   refine zg (v:=.int .i64 l[i]) (by simpa using hcell2) ?_
   refine S.ld (b:=b3) ?_ rfl
   refine gP_ ?_
   have hc0:=(S.at hl 0 (.int .i64 a) (by simp[ints]))
   refine zg (v:=.int .i64 a) (by obtain⟨b',o',h1,h2⟩:=hc0;cases h1;simpa using h2) ?_
   refine gG_ ?_
   refine S.st (b:=bt) (λw2 S=>?_) (by rw[vx];omega)
   refine gP_ ?_
   rw[show ((i:Int)+1)=((i+1:Nat):Int)by omega]
   refine hK6 (i+1) _ ⟨hlt,?_⟩ (by omega)
   rw[show 0+l[i].toNat*8+a.toNat*1=l[i].toNat*8+a.toNat by omega,JO (by omega) (by omega)]at S
   rw[yO (f:=YQ f a (l.take (i+1))) (g:=λx y=>YQ f a (l.take i) x y||(decide (x=l[i].toNat)&&decide (y=a.toNat))) (λx y _ _=>by
    show(f x y||(decide (a=(y:Int))&&(l.take (i+1)).contains (x:Int)))=((f x y||(decide (a=(y:Int))&&(l.take i).contains (x:Int)))||(decide (x=l[i].toNat)&&decide (y=a.toNat)))
    rw[agF hlt,show decide ((x:Int)=l[i])=decide (x=l[i].toNat)from decide_eq_decide.2 (by omega),show decide (a=(y:Int))=decide (y=a.toNat)from decide_eq_decide.2 (by omega)]
    cases f x y<;>cases decide (y=a.toNat)<;>cases (l.take i).contains (x:Int)<;>cases decide (x=l[i].toNat)<;>rfl)]
   exact S
  ·have hie:i=l.length:=by omega
   rw[hie,List.take_length]at S
   have S:=S.go (Ext.drew _)
   refine S.ld (b:=b4) ?_ rfl
   refine gP_ ?_
   rw[hlen,hp2]
   refine ih hxl hsl (by show l.length≤cap-(1:Int).toNat;have :(1:Int).toNat=1:=rfl;omega) hll S λw2 S=>?_
   refine h _ ?_
   rw[yO (f:=JQ f (a::l)) (g:=JQ (YQ f a l) l) (λx y _ _=>by
    show(f x y||qF x y (a::l))=((f x y||(decide (a=(y:Int))&&l.contains (x:Int)))||qF x y l)
    rw[aeX,Bool.or_assoc])]
   exact S
abbrev acg(f:Nat→Nat→Bool)(l:List TyD):Nat→Nat→Bool:=λx y=>f x y||vj l x y
theorem adh{bt:Nat}{M:List Asr}{w0:World}{l:List TyD}{cap:Nat}{f:Nat→Nat→Bool}{w:World}{K:Value→World→Prop}(hl:TysG r q l)(hn:l.length≤maxLen)(hx:∀t∈l,∀x∈regsT t,0≤x∧x<8)
  (S:StX noX w0 r w (.cell bt (zR f) 204::M))
  (h:∀w',StX noX w0 r w' (.cell bt (zR (acg f l)) 204::M)→K (.tuple #[]) w'):zd Tryz.prog Tryz.Ze #[.slice q l.length cap,.pointer (some ⟨bt,0,none⟩)] w K:=by
 refine Tryz.abZ ?_
 unfold Tryz.X7
 have hn':l.length≤9223372036854775807:=hn
 refine S.box λb3 w1 S=>?_
 refine S.al λb4 w2 S=>?_
 refine gP_ ?_
 refine S.st (b:=b4) λw3 S=>?_
 refine gP_ ?_
 refine zh (ι:=Nat) (λi=>[.int .i64 (i:Nat)]) (λi w'=>i≤l.length∧StX noX w0 r w' (.cell b4 [fvI b3 b4] 118::.cell b3 [.pointer (some ⟨bt,0,none⟩)] 206::.cell bt (zR (acg f (l.take i))) 204::M)) (λi=>l.length-i) 0 rfl
  ⟨gzl _,by
   rw[yO (f:=acg f (l.take 0)) (g:=f) (λx y _ _=>by simp[acg,vj])]
   exact S⟩ ?_
 clear S
 rintro i d w4 ⟨hi,S⟩ K6 hK6
 rw[gdz]
 refine gP_ ?_
 refine zf (λhlt=>?_) (λhge=>?_)
 ·have hlt:i<l.length:=by omega
  obtain⟨b1,o1,c1,rfl,hc1,htc,hto⟩:=hl i hlt
  obtain⟨q2,cap2,rfl,ht2⟩:=yJ hto
  refine gP_ ?_
  refine zp (n:=5) hc1 (λj v hj=>by rw[tnc];exact S.at (htc j v hj)) ?_
  refine S.al λb6 w5 S=>?_
  refine S.stB (b:=b6) λw6 S=>?_
  have S:=S.go (Ext.drew _)
  refine S.ld (b:=b4) ?_ rfl
  refine S.ldB (b:=b6) ?_ rfl
  refine Qi S.holds ht2 λv7 w7 e7 o7=>⟨e7,?_⟩
  obtain⟨s1,p1,cap1,n1,nb1,rfl,_,hc1,hs1⟩:=ago o7
  have S:=S.new e7 n1
  have S:=S.drop b6
  have hr48:(regsT l[i]).length≤1000:=by
   rw[regsT];split
   ·have:=Qk (by assumption);omega
   ·simp
  refine ahC (regsT l[i]) (λx h=>hx _ (gem hlt) x h) hs1.up hc1 hr48 S λw8 S=>?_
  refine gP_ ?_
  rw[show ((i:Int)+1)=((i+1:Nat):Int)by omega]
  refine hK6 (i+1) _ ⟨hlt,?_⟩ (by omega)
  have S:=S.to r
  rw[yO (f:=acg f (l.take (i+1))) (g:=JQ (acg f (l.take i)) (regsT l[i])) (λx y _ _=>by
   show(f x y||vj (l.take (i+1)) x y)=((f x y||vj (l.take i) x y)||qF x y (regsT l[i]))
   rw[aeY hlt,Bool.or_assoc])]
  exact S
 ·have hie:i=l.length:=by omega
  rw[hie,List.take_length]at S
  exact h _ S.tl.tl
theorem TysG.take{s:Gh}{ts:List TyD}(h:TysG s q ts)(n:Nat):TysG s q (ts.take n):=λi hi=>by
 rw[List.length_take]at hi
 obtain⟨b,off,c,h1,h2,h3,h4⟩:=h i (by omega)
 refine⟨b,off,c,h1,h2,h3,?_⟩
 rw[List.getElem_take];exact h4
theorem jZ{f:Nat→Nat→Bool}{a b:Nat}(ha:a<8)(hb:b<8):(zR f)[0+((a:Nat):Int).toNat*8+((b:Nat):Int).toNat*1]? = some (.bool (f a b)):=by
 rw[show 0+((a:Nat):Int).toNat*8+((b:Nat):Int).toNat*1=a*8+b by omega]
 exact akF ha hb
abbrev syF(l:List (Int×Int)):Nat→Nat→Bool:=λx y=>jG l (x:Int) (y:Int)
abbrev muF(l:List TyD):Nat→Nat→Bool:=λx y=>vj l (x:Int) (y:Int)
def clH(sy:Nat→Nat→Bool)(a b c:Nat):Bool:=!((sy a b&&sy b c)&&(!decide (a=c) && !sy a c))
def clG(n:Nat)(mu sy:Nat→Nat→Bool)(a b:Nat):Bool:=(List.range n).all (clH sy a b) && !(!decide (a=b)&&(mu a b && !sy a b))
def clF(n:Nat)(mu sy:Nat→Nat→Bool)(a:Nat):Bool:=(List.range n).all (clG n mu sy a)
theorem ah0(n:Nat)(l:List TyD)(o:List (Int×Int)):aiG n (vj l) (jG o)=(List.range n).all (clF n (muF l) (syF o)):=by
 unfold aiG clF clG clH;simp only[decide_not,Int.natCast_inj]
def jk(l:List (Int×Int))(i:Nat):Option (Int×Int):=if i=0 then none else l[i-1]?
def aiI(w:Option (Int×Int))(o:Int×Int):Bool:=match w with|none=>true|some w=>Zt w o
theorem agH{lv:Int}{l:List (Int×Int)}{i:Nat}(h:i<l.length):ja lv (jk l i) (l.drop i)=((kT lv l[i]&&aiI (jk l i) l[i])&&ja lv (jk l (i+1)) (l.drop (i+1))):=by
 rw[aly h,jk,jk,if_neg (Nat.succ_ne_zero i),Nat.add_sub_cancel,gqg h];rfl
theorem ach{g:GrD}{c:List Value}{K:Value→World→Prop}(hr:Holds r w)(hg:GrG r c g)(hlv0:0≤g.lv)(hlv8:g.lv≤8)(hpn0:0≤g.pn)(hpn1:g.pn<g.tys.length)
  (hx:∀t∈g.tys.take (g.pn.toNat+1),∀x∈regsT t,0≤x∧x<8) (h:∀w',Ext w w'→K (.bool (jH g)) w'):zd Tryz.prog Tryz.vr #[.agg c.toArray] w K:=by
 obtain⟨vo,vt,vn,vp,rfl,h1,h2,h3,h4⟩:=hg
 obtain⟨qo,capo,rfl,_,_⟩:=h1.sl.shape
 obtain⟨qt,capt,rfl,_,hct⟩:=h2.sl.shape
 obtain⟨qn,capn,rfl,_,_⟩:=h3.sl.shape
 obtain⟨qp,capp,rfl,_,_⟩:=h4.sl.shape
 have hol:g.outs.length≤9223372036854775807:=h1.few
 have htl:g.tys.length≤9223372036854775807:=h2.few
 refine Tryz.aa5 ?_
 unfold Tryz.XC
 have S:=St.start hr
 refine S.box λb1 w1 S=>?_
 refine S.al λb3 w2 S=>?_
 refine S.al λb4 w3 S=>?_
 have S:StX noX w r w3 (.cell b3 (zR λ_ _=>false) 204::[.cell b4 (zR λ_ _=>false) 204,.cell b1 [.string g.name,.int .i64 g.lv,.slice qo g.outs.length capo,.int .i64 g.pn,.slice qt g.tys.length capt,.slice qn g.nms.length capn,.slice qp g.pts.length capp] 74]):=S.swap
 refine gG_ ?_
 rw[show (g.pn+1).toNat=(g.tys.take (g.pn.toNat+1)).length by rw[List.length_take];omega]
 refine adh (l:=g.tys.take (g.pn.toNat+1)) ((Z0 h2.sl).take _) (by rw[List.length_take];have:=h2.few;omega) hx S λw4 S=>?_
 have S:StX noX w r w4 ([.cell b3 (zR (muF (g.tys.take (g.pn.toNat+1)))) 204,.cell b4 (zR λ_ _=>false) 204,.cell b1 [.string g.name,.int .i64 g.lv,.slice qo g.outs.length capo,.int .i64 g.pn,.slice qt g.tys.length capt,.slice qn g.nms.length capn,.slice qp g.pts.length capp] 74]):=by
  rw[yO (f:=muF (g.tys.take (g.pn.toNat+1))) (g:=acg (λ_ _=>false) (g.tys.take (g.pn.toNat+1))) (λx y _ _=>(Bool.false_or _).symm)]
  exact S
 rw[jH,← ae1,ah0]at h
 generalize hmu:muF (g.tys.take (g.pn.toNat+1))=mu at h S
 refine gG_ ?_
 refine zh (ι:=Nat) (λi=>[.int .i64 (i:Nat)]) (λi w'=>i≤g.outs.length∧ja g.lv (jk g.outs i) (g.outs.drop i)=ja g.lv none g.outs∧
  StX noX w r w' ([.cell b3 (zR mu) 204,.cell b4 (zR (syF (g.outs.take i))) 204,.cell b1 [.string g.name,.int .i64 g.lv,.slice qo g.outs.length capo,.int .i64 g.pn,.slice qt g.tys.length capt,.slice qn g.nms.length capn,.slice qp g.pts.length capp] 74])) (λi=>g.outs.length-i) 0 rfl
  ⟨gzl _,rfl,by
   rw[yO (f:=syF (g.outs.take 0)) (g:=λ_ _=>false) (λx y _ _=>by simp[syF,jG])]
   exact S⟩ ?_
 clear S
 rintro i d w5 ⟨hi,hd,S⟩ K6 hK6
 rw[gdz]
 refine gP_ ?_
 refine zf (λhlt=>?_) (λhge=>?_)
 ·have hlt:i<g.outs.length:=by omega
  obtain⟨bo,oo,co,rfl,hco,hoo,hoc⟩:=h1.sl.get (by decide) hlt
  obtain rfl:co=_:=hoo
  rw[agH hlt]at hd
  have hgo:=λ(j:Nat) (hj:j<g.outs.length)=>h1.sl.get (by decide) hj
  obtain⟨⟨o1,o2⟩,ho⟩:∃o,g.outs[i]=o:=⟨_,rfl⟩
  rw[ho]at hd
  have hst:syF (g.outs.take (i+1))=λx y=>syF (g.outs.take i) x y||(decide ((x:Int)=o1)&&decide ((y:Int)=o2)):=by
   funext x y
   show jG _ _ _=(jG _ _ _||_)
   rw[aeZ hlt,ho]
  refine gP_ ?_
  refine zp (n:=2) hco (λj v hj=>by rw[tnc];exact S.at (hoc j v hj)) ?_
  rw[ho]
  refine S.al λb6 w6 S=>?_
  refine S.stB (b:=b6) λw7 S=>?_
  refine gG_ ?_
  refine zj (c:=decide (g.lv≤max o1 o2)) (λ_ K2 hK2=>?_) ?_
  ·refine gG_ ?_
   exact hK2
  refine zj (c:=decide (o1=o2)) (λ_ K2 hK2=>?_) ?_
  ·refine gG_ ?_
   exact hK2
  refine c_b (λhbad=>?_) (λhgood=>?_)
  ·have hin:kT g.lv (o1,o2)=false:=by rw[kT,hbad];rfl
   rw[hin,Bool.false_and,Bool.false_and]at hd
   rw[← hd,Bool.false_and]at h
   exact h _ S.ext
  have hin:kT g.lv (o1,o2)=true:=by rw[kT,hgood];rfl
  rw[hin,Bool.true_and]at hd
  have hrg:(0≤o1∧o1<8)∧(0≤o2∧o2<8):=by
   simp only[Bool.or_eq_false_iff,decide_eq_false_iff_not]at hgood;omega
  clear hgood hin
  obtain⟨⟨ho10,ho18⟩,ho20,ho28⟩:=hrg
  refine zn (λ_ w'=>aiI (jk g.outs i) (o1,o2)=true∧StX noX w r w' ([.cell b6 [.int .i64 o1,.int .i64 o2] 208,.cell b3 (zR mu) 204,.cell b4 (zR (syF (g.outs.take i))) 204,.cell b1 [.string g.name,.int .i64 g.lv,.slice (some ⟨bo,oo,none⟩) g.outs.length capo,.int .i64 g.pn,.slice qt g.tys.length capt,.slice qn g.nms.length capn,.slice qp g.pts.length capp] 74])) (λK9 hK9=>?_) ?_
  ·refine gP_ ?_
   refine zf (λhpos=>?_) (λhz=>?_)
   ·have hpos:0<i:=by omega
    have hlt2:i-1<g.outs.length:=by omega
    obtain⟨bo2,oo2,co2,hbe,hco2,hoo2,hoc2⟩:=h1.sl.get (by decide) hlt2
    obtain rfl:co2=_:=hoo2
    cases hbe
    have hpv:jk g.outs i=some g.outs[i-1]:=by rw[jk,if_neg (by omega),gqg hlt2]
    rw[hpv]at hd hK9
    obtain⟨⟨p1,p2⟩,hp⟩:∃o,g.outs[i-1]=o:=⟨_,rfl⟩
    rw[hp]at hd hK9
    refine gG_ ?_
    refine zp (n:=2) hco2 (λj v hj=>by rw[show ((i:Int)-1).toNat=i-1 by omega];exact S.at (hoc2 j v hj)) ?_
    rw[hp]
    refine S.al λb7 w8 S=>?_
    refine S.stB (b:=b7) λw9 S=>?_
    refine gG_ ?_
    refine ZZ (g:=decide (p1=o1)) (c:=decide (o2≤p2)) (λ_ K2 hK2=>?_) (λ_ K2 hK2=>?_) ?_
    ·refine gG_ ?_
     exact hK2
    ·refine gG_ ?_
     exact hK2
    rw[ajB (o:=(o1,o2)) (w:=(p1,p2))]
    refine c_b (λhb=>?_) (λhb=>?_)
    ·have hb:Zt (p1,p2) (o1,o2)=false:=by simpa using hb
     rw[show aiI (some (p1,p2)) (o1,o2)=Zt (p1,p2) (o1,o2)from rfl,hb,Bool.false_and]at hd
     rw[← hd,Bool.false_and]at h
     exact h _ S.ext
    ·have hb:Zt (p1,p2) (o1,o2)=true:=by simpa using hb
     exact hK9 _ _ ⟨hb,S.drop b7⟩
   ·have hz:i=0:=by omega
    refine hK9 _ _ ⟨?_,S⟩
    rw[hz];rfl
  clear S
  rintro _ w10 ⟨haf,S⟩ d10
  have S:=S.go (Ext.drew _)
  rw[haf,Bool.true_and]at hd
  refine gG_ ?_
  refine S.st (b:=b4) (λw11 S=>?_) (by rw[vx];omega)
  refine gP_ ?_
  rw[show ((i:Int)+1)=((i+1:Nat):Int)by omega]
  refine hK6 (i+1) _ ⟨hlt,hd,?_⟩ (by omega)
  rw[show 0+o1.toNat*8+o2.toNat*1=o1.toNat*8+o2.toNat by omega,JO (by omega) (by omega)]at S
  rw[hst,yO (f:=λx y=>syF (g.outs.take i) x y||(decide ((x:Int)=o1)&&decide ((y:Int)=o2))) (g:=λx y=>syF (g.outs.take i) x y||(decide (x=o1.toNat)&&decide (y=o2.toNat))) (λx y _ _=>by
   show(syF (g.outs.take i) x y||(decide ((x:Int)=o1)&&decide ((y:Int)=o2)))=(syF (g.outs.take i) x y||(decide (x=o1.toNat)&&decide (y=o2.toNat)))
   rw[show decide ((x:Int)=o1)=decide (x=o1.toNat)from decide_eq_decide.2 (by omega),show decide ((y:Int)=o2)=decide (y=o2.toNat)from decide_eq_decide.2 (by omega)])]
  exact S.drop b6
 have hie:i=g.outs.length:=by omega
 rw[hie,List.take_length]at S
 rw[hie,List.drop_length]at hd
 rw[← hd,show ja g.lv (jk g.outs g.outs.length) []=true from by rw[ja],Bool.true_and]at h
 clear hd hK6 K6 hie hge hi
 generalize hsy:syF g.outs=sy at h S
 obtain⟨n,hn⟩:∃n:Nat,g.lv.toNat=n:=⟨_,rfl⟩
 have hn8:n≤8:=by omega
 have hlvn:g.lv=(n:Int):=by omega
 rw[hn]at h
 refine gG_ ?_
 refine zh (ι:=Nat) (λi=>[.int .i64 (i:Nat)]) (λi w'=>i≤n∧((List.range n).drop i).all (clF n mu sy)=(List.range n).all (clF n mu sy)∧
  StX noX w r w' ([.cell b3 (zR mu) 204,.cell b4 (zR sy) 204,.cell b1 [.string g.name,.int .i64 g.lv,.slice qo g.outs.length capo,.int .i64 g.pn,.slice qt g.tys.length capt,.slice qn g.nms.length capn,.slice qp g.pts.length capp] 74])) (λi=>n-i) 0 rfl
  ⟨gzl _,rfl,S⟩ ?_
 clear S
 rintro a d2 w12 ⟨ha,hda,S⟩ K7 hK7
 rw[gdz,hlvn]
 refine gP_ ?_
 refine zf (λhlta=>?_) (λhgea=>?_)
 rotate_left
 ·have hae:a=n:=by omega
  rw[hae,vS]at hda
  rw[← hda]at h
  exact h _ S.ext
 have hlta:a<n:=by omega
 rw[vR hlta]at hda
 refine gG_ ?_
 refine zh (ι:=Nat) (λi=>[.int .i64 (i:Nat)]) (λi w'=>i≤n∧((List.range n).drop i).all (clG n mu sy a)=(List.range n).all (clG n mu sy a)∧
  StX noX w r w' ([.cell b3 (zR mu) 204,.cell b4 (zR sy) 204,.cell b1 [.string g.name,.int .i64 g.lv,.slice qo g.outs.length capo,.int .i64 g.pn,.slice qt g.tys.length capt,.slice qn g.nms.length capn,.slice qp g.pts.length capp] 74])) (λi=>n-i) 0 rfl
  ⟨gzl _,rfl,S⟩ ?_
 clear S
 rintro b d3 w13 ⟨hb,hdb,S⟩ K8 hK8
 rw[gdz,hlvn]
 refine gP_ ?_
 refine zf (λhltb=>?_) (λhgeb=>?_)
 rotate_left
 ·have hbe:b=n:=by omega
  rw[hbe,vS]at hdb
  have hF:clF n mu sy a=true:=hdb.symm
  rw[hF,Bool.true_and]at hda
  refine gP_ ?_
  rw[show ((a:Int)+1)=((a+1:Nat):Int)by omega]
  exact hK7 (a+1) _ ⟨hlta,hda,S⟩ (by omega)
 have hltb:b<n:=by omega
 rw[vR hltb]at hdb
 refine gG_ ?_
 refine zh (ι:=Nat) (λi=>[.int .i64 (i:Nat)]) (λi w'=>i≤n∧((List.range n).drop i).all (clH sy a b)=(List.range n).all (clH sy a b)∧
  StX noX w r w' ([.cell b3 (zR mu) 204,.cell b4 (zR sy) 204,.cell b1 [.string g.name,.int .i64 g.lv,.slice qo g.outs.length capo,.int .i64 g.pn,.slice qt g.tys.length capt,.slice qn g.nms.length capn,.slice qp g.pts.length capp] 74])) (λi=>n-i) 0 rfl
  ⟨gzl _,rfl,S⟩ ?_
 clear S
 have hfalse:clG n mu sy a b=false→(List.range n).all (clF n mu sy)=false:=λe=>by
  rw[e,Bool.false_and]at hdb
  have hF:clF n mu sy a=false:=hdb.symm
  rw[hF,Bool.false_and]at hda
  exact hda.symm
 rintro cc d4 w14 ⟨hc,hdc,S⟩ K9 hK9
 rw[gdz,hlvn]
 refine gP_ ?_
 refine zf (λhltc=>?_) (λhgec=>?_)
 ·have hltc:cc<n:=by omega
  rw[vR hltc]at hdc
  refine gP_ ?_
  refine gP_ ?_
  refine S.ld (b:=b4) ?_ (jZ (f:=sy) (by omega) (by omega))
  refine zi (c:=sy b cc) (λ_ K2 hK2=>?_) ?_
  ·refine gP_ ?_
   refine gP_ ?_
   refine S.ld (b:=b4) ?_ (jZ (f:=sy) (by omega) (by omega))
   exact hK2
  refine zi (c:=decide (a≠cc)) (λ_ K2 hK2=>?_) ?_
  ·refine gP_ ?_
   rw[show decide ((a:Int)≠(cc:Int))=decide (a≠cc)from decide_eq_decide.2 (by omega)]
   exact hK2
  refine zi (c:=!sy a cc) (λ_ K2 hK2=>?_) ?_
  ·refine gP_ ?_
   refine gP_ ?_
   refine S.ld (b:=b4) ?_ (jZ (f:=sy) (by omega) (by omega))
   refine gP_ ?_
   exact hK2
  have hH:clH sy a b cc = !(((sy a b&&sy b cc)&&decide (a≠cc)) && !sy a cc):=by
   rw[clH,Bool.and_assoc (sy a b&&sy b cc),decide_not]
  refine c_b (λhbad=>?_) (λhgood=>?_)
  ·rw[hH,hbad]at hdc
   have hA:(List.range n).all (clH sy a b)=false:=by rw[← hdc];rfl
   rw[hfalse (by rw[clG,hA,Bool.false_and])]at h
   exact h _ S.ext
  ·rw[hH,hgood,Bool.not_false,Bool.true_and]at hdc
   refine gP_ ?_
   rw[show ((cc:Int)+1)=((cc+1:Nat):Int)by omega]
   exact hK9 (cc+1) _ ⟨hltc,hdc,S⟩ (by omega)
 have hce:cc=n:=by omega
 rw[hce,vS]at hdc
 refine gP_ ?_
 refine zi (c:=mu a b) (λ_ K2 hK2=>?_) ?_
 ·refine gP_ ?_
  refine gP_ ?_
  refine S.ld (b:=b3) ?_ (jZ (f:=mu) (by omega) (by omega))
  exact hK2
 refine zi (c:=!sy a b) (λ_ K2 hK2=>?_) ?_
 ·refine gP_ ?_
  refine gP_ ?_
  refine S.ld (b:=b4) ?_ (jZ (f:=sy) (by omega) (by omega))
  refine gP_ ?_
  exact hK2
 have hG:clG n mu sy a b = !((decide ((a:Int)≠(b:Int))&&mu a b) && !sy a b):=by
  rw[clG,← hdc,Bool.true_and,Bool.and_assoc,show decide ((a:Int)≠(b:Int)) = !decide (a=b)from by rw[← decide_not];exact decide_eq_decide.2 (by omega)]
 refine c_b (λhbad=>?_) (λhgood=>?_)
 ·rw[hfalse (by rw[hG,hbad];rfl)]at h
  exact h _ S.ext
 ·rw[hG,hgood,Bool.not_false,Bool.true_and]at hdb
  refine gP_ ?_
  rw[show ((b:Int)+1)=((b+1:Nat):Int)by omega]
  exact hK8 (b+1) _ ⟨hltb,hdb,S⟩ (by omega)
end
section
variable {ss:List StD} {w:World} {r:Gh} {q p0:Option Addr} {K:Value→World→Prop} {tys l:List TyD} {p:PlD} {c:List Value}
def zT(ss:List StD)(t:TyD)(k:Int):Option (TyD×Int):=
 if k = -1∧t.k=3 then t.of.head?.map λu=>(u,1)
 else if k = -1∧t.k=4 then t.of.head?.map λu=>(u,if t.m then 2 else 3)
 else if 0≤k∧t.k=5 then(ze ss t.st)[k.toNat]?.map λu=>(u,0)
 else none
def zH(ss:List StD):List Int→TyD→Option (TyD×List Int)
 |[],t=>some (t,[])
 |k::l,t=>(zT ss t k).bind λs=>(zH ss l s.1).map λx=>(x.1,s.2::x.2)
theorem JR(ss:List StD):∀(l:List Int)(k:Int)(t:TyD),zH ss (l++[k]) t=(zH ss l t).bind λx=>(zT ss x.1 k).map λs=>(s.1,x.2++[s.2])
 |[],k,t=>by
  show(zT ss t k).bind _=(zT ss t k).map _
  cases zT ss t k<;>rfl
 |x::l,k,t=>by
  rw[List.cons_append,zH,zH]
  cases h:zT ss t x with
  |none=>rfl
  |some s=>
   show(zH ss (l++[k]) s.1).map _=((zH ss l s.1).map _).bind _
   rw[JR ss l k s.1]
   cases zH ss l s.1 with
   |none=>rfl
   |some y=>
    show((zT ss y.1 k).map _).map _=(zT ss y.1 k).map _
    cases zT ss y.1 k<;>rfl
theorem JS{ss:List StD}:∀{l m:List Int}{t:TyD},zH ss l t=none→zH ss (l++m) t=none
 |[],m,t,h=>by cases h
 |x::l,m,t,h=>by
  rw[List.cons_append,zH]
  rw[zH]at h
  cases hs:zT ss t x with
  |none=>rfl
  |some s=>
   rw[hs]at h
   have h:(zH ss l s.1).map (λx=>(x.1,s.2::x.2))=none:=h
   have :zH ss l s.1=none:=by cases hw:zH ss l s.1 with|none=>rfl|some y=>rw [hw]at h;cases h
   show(zH ss (l++m) s.1).map _=none
   rw[JS this];rfl
theorem Yt{ss:List StD}:∀{l:List Int}{t:TyD}{x:TyD×List Int},zH ss l t=some x→x.2.length=l.length
 |[],t,x,h=>by cases h;rfl
 |k::l,t,x,h=>by
  rw[zH]at h
  cases hs:zT ss t k with
  |none=>rw [hs]at h;cases h
  |some s=>
   rw[hs]at h
   have h:(zH ss l s.1).map (λx=>(x.1,s.2::x.2))=some x:=h
   cases hw:zH ss l s.1 with
   |none=>rw [hw]at h;cases h
   |some y=>rw [hw]at h;cases h;simp[Yt hw]
theorem aiJ(hg:kx ss){t:TyD}{k:Int}{s:TyD×Int}(h:Fine ss t)(e:zT ss t k=some s):Fine ss s.1:=by
 have inside:∀{n:Int},t.of.head?.map (λu=>(u,n))=some s→Fine ss s.1:=by
  intro n e
  rcases h.cases with⟨h1,_⟩|⟨u,h1,h2,_⟩
  ·rw[h1]at e;cases e
  ·rw[h1]at e;cases e;exact h2
 unfold zT at e
 split at e
 ·exact inside e
 split at e
 ·exact inside e
 split at e
 ·cases hu:(ze ss t.st)[k.toNat]? with
  |none=>rw [hu]at e;cases e
  |some u=>rw [hu]at e;cases e;exact hg _ u (List.mem_of_getElem? hu)
 ·cases e
theorem JT{ss:List StD}(hg:kx ss):∀{l:List Int}{t:TyD}{x:TyD×List Int},Fine ss t→zH ss l t=some x→Fine ss x.1
 |[],t,x,h,e=>by cases e;exact h
 |k::l,t,x,h,e=>by
  rw[zH]at e
  cases hs:zT ss t k with
  |none=>rw [hs]at e;cases e
  |some s=>
   rw[hs]at e
   have e:(zH ss l s.1).map (λx=>(x.1,s.2::x.2))=some x:=e
   cases hw:zH ss l s.1 with
   |none=>rw [hw]at e;cases e
   |some y=>rw [hw]at e;cases e;show Fine ss y.1;exact JT hg (aiJ hg h hs) hw
noncomputable def yT(ss:List StD)(tys:List TyD)(p:PlD):Bool:=
 ((decide (0≤p.l)&&decide (p.l<tys.length))&&decide (p.ps.length≤8))&&(decide ((zw ss).2=0)&&tys.all λt=>zP ss t)
noncomputable def zL(ss:List StD)(tys:List TyD)(p:PlD):Option (TyD×List Int):=if yT ss tys p then zH ss p.ps (tys.getD p.l.toNat yc)else none
theorem aef{f:TyD→Bool}{fv:Value}{cap:Nat}{K:Value→World→Prop}(hr:Holds r w)(hl:TysG r q l)(hb:l.length≤maxLen)
  (hf:∀t∈l,∀(q:Option Addr)(cap:Nat)(w:World)(K:Value→World→Prop),Holds r w→TyG r (tyV t q cap) t→(∀w',Ext w w'→K (.bool (f t)) w')→zF Tryz.prog fv #[tyV t q cap] w K)
  (h:∀(i:Int) w',Ext w w'→(0≤i↔l.any f=true)→K (.int .i64 i) w'):zd Tryz.prog Tryz.yB #[.slice q l.length cap,fv] w K:=by
 refine Tryz.jl ?_
 unfold Tryz.xF
 have S:=St.start hr
 have hb':l.length≤9223372036854775807:=hb
 refine gP_ ?_
 refine zh (ι:=Nat) (λi=>[.int .i64 (i:Nat)]) (λi w'=>i≤l.length∧(l.take i).any f=false∧StX noX w r w' []) (λi=>l.length-i) 0 rfl ⟨gzl _,by simp,S⟩ ?_
 clear S
 rintro i d w' ⟨hi,hn,S⟩ K6 hK6
 simp only[gdz]
 refine gP_ ?_
 refine zf (λhlt=>?_) (λhge=>?_)
 ·have hlt:i<l.length:=by omega
  obtain⟨b,off,c,rfl,hc,hcell,hto⟩:=hl i hlt
  obtain⟨q2,cap2,rfl,ht2⟩:=yJ hto
  refine gP_ ?_
  refine zp (n:=5) hc (λj v hj=>by rw[tnc];exact S.at (hcell j v hj)) ?_
  refine hf l[i] (gem hlt) _ _ _ _ S.holds ht2 λw2 e2=>?_
  have S:=S.go e2
  have ht:(l.take (i+1)).any f=((l.take i).any f||f l[i]):=by
   rw[List.take_succ_eq_append_getElem hlt,List.any_append];simp only[List.any_cons,List.any_nil,Bool.or_false]
  refine c_b (λhy=>?_) (λhno=>?_)
  ·refine h _ _ S.ext ⟨λ_=>?_,λ_=>Int.natCast_nonneg _⟩
   exact List.any_eq_true.2 ⟨l[i],gem hlt,hy⟩
  ·refine gP_ ?_
   rw[show ((i:Int)+1)=((i+1:Nat):Int)by omega]
   refine hK6 (i+1) _ ⟨hlt,?_,S⟩ (by omega)
   rw[ht,hn,hno];rfl
 ·have :i=l.length:=by omega
  subst this
  rw[List.take_length]at hn
  exact h _ _ S.ext ⟨λh=>by omega,λh=>by rw[hn]at h;cases h⟩
theorem abc{f:TyD→Bool}{fv:Value}{cap:Nat}{K:Value→World→Prop}(hr:Holds r w)(hl:TysG r q l)(hb:l.length≤maxLen)
  (hf:∀t∈l,∀(q:Option Addr)(cap:Nat)(w:World)(K:Value→World→Prop),Holds r w→TyG r (tyV t q cap) t→(∀w',Ext w w'→K (.bool (f t)) w')→zF Tryz.prog fv #[tyV t q cap] w K)
  (h:∀w',Ext w w'→K (.bool (l.any f)) w'):zd Tryz.prog Tryz.yv #[.slice q l.length cap,fv] w K:=by
 refine Tryz.qA ?_
 unfold Tryz.xn
 refine aef hr hl hb hf λi w' e hi=>?_
 refine gP_ ?_
 have e2:decide (i≥0)=l.any f:=by
  by_cases hh:l.any f=true
  ·rw[hh];exact gde (hi.2 hh)
  ·rw[Bool.eq_false_iff.2 hh];exact decide_eq_false λh=>hh (hi.1 h)
 rw[e2];exact h _ e
theorem V7(h:yT ss tys p=false):zL ss tys p=none:=by rw[zL,h];rfl
theorem V8{cap0 capt:Nat}{K:Value→World→Prop}(hr:Holds r w)(hs:StG r p0 ss)(ht:TysG r q tys)(htl:tys.length≤maxLen)(hp:PlG r c p)
  (hN:∀w',zL ss tys p=none→Ext w w'→K (.tuple #[af6,.slice none 0 0,.bool false]) w')
  (hS:∀t g q cap vg s w',zL ss tys p=some (t,g)→Ext w w'→New w s w'→TyG r (tyV t q cap) t→SlG 1 s zQ vg g→K (.tuple #[tyV t q cap,vg,.bool true]) w'):
  zd Tryz.prog Tryz.Zf #[.slice p0 ss.length cap0,.slice q tys.length capt,.agg c.toArray] w K:=by
 obtain⟨v,rfl,hl⟩:=hp
 obtain⟨qs,caps,rfl,_,_⟩:=hl.sl.shape
 have hbl:=hl.lt
 have htl':tys.length≤9223372036854775807:=htl
 refine Tryz.aft ?_
 unfold Tryz.V5
 have S:=St.start hr
 refine S.box λb3 w1 S=>?_
 refine S.box λb5 w2 S=>?_
 refine S.al λb6 w3 S=>?_
 have S:StX noX w r w3 [.cell b6 aaY 112,.cell b5 [.int .i64 p.l,.slice qs p.ps.length caps] 59,.cell b3 [.slice p0 ss.length cap0] 22]:=S
 refine gG_ ?_
 refine zj (c:=decide ((tys.length:Int)≤p.l)) (λ_ K2 hK2=>?_) ?_
 ·refine gG_ ?_
  exact hK2
 refine zj (c:=decide (8<p.ps.length)) (λ_ K2 hK2=>?_) ?_
 ·refine gG_ ?_
  rw[show decide ((8:Int)<(p.ps.length:Int))=decide (8<p.ps.length)from decide_eq_decide.2 (by omega)]
  exact hK2
 refine c_b (λhbad=>?_) (λhgood=>?_)
 ·have hn:yT ss tys p=false:=by
   cases e:yT ss tys p
   ·rfl
   ·simp only[yT,gba,gdt]at e
    simp only[Bool.or_eq_true,gdt]at hbad;omega
  refine S.ldB (b:=b6) ?_ rfl
  refine S.stB (b:=b6) λw4 S=>?_
  refine gG_ ?_
  exact hN _ (V7 hn) S.ext
 have hlo:(0≤p.l∧p.l<tys.length)∧p.ps.length≤8:=by
  simp only[Bool.or_eq_false_iff,decide_eq_false_iff_not]at hgood;omega
 clear hgood
 obtain⟨⟨hl0,hl1⟩,hl8⟩:=hlo
 refine gG_ ?_
 refine Zs S.holds hs λw4 e4=>?_
 have S:=S.go e4
 refine gS_ ?_
 have S:=S.frzAt b3
 refine x8 (c:=tys.any λt=>!zP ss t) (λ_ K2 hK2=>?_) λw5 e5=>?_
 ·refine gP_ ?_
  refine abc (f:=λt=>!zP ss t) S.holds (TysG.up ht) htl (λt _ q cap w K hr htt hK=>?_) λw6 e6=>?_
  ·refine ac3 (by kernel_rfl) ?_
   refine Tryz.adf ?_
   unfold Tryz.Ji
   have B:Blk w b3 [.slice p0 ss.length cap0] 22:=hr b3 _ (.inr ⟨rfl,rfl⟩)
   have S:=St.start hr
   refine S.box λb1 w1 S=>?_
   have S:StX noX w _ w1 [.cell b1 (tyL t q cap) 112]:=S
   refine zg (v:=.slice p0 ss.length cap0) (by
    have B:Blk w1 b3 [.slice p0 ss.length cap0] 22:=S.holds b3 _ (.inr ⟨rfl,rfl⟩)
    rw[B.cell];rfl) ?_
   refine S.ldB (b:=b1) ?_ rfl
   refine Yi S.holds hs.up htt λw2 e2=>?_
   refine gP_ ?_
   exact hK _ (S.go e2).ext
  exact hK2 _ e6
 have S:=S.go e5
 refine c_b (λhbad=>?_) (λhgood=>?_)
 ·have hn:yT ss tys p=false:=by
   cases e:yT ss tys p
   ·rfl
   ·simp only[yT,gba,gdt,List.all_eq_true]at e
    simp only[Bool.or_eq_true,gdt,List.any_eq_true,Bool.not_eq_true']at hbad
    rcases hbad with h1|⟨t,h1,h2⟩
    ·exact absurd e.2.1 h1
    ·rw[e.2.2 t h1]at h2;cases h2
  refine S.ldB (b:=b6) ?_ rfl
  refine S.stB (b:=b6) λw4 S=>?_
  refine gG_ ?_
  exact hN _ (V7 hn) S.ext
 have hok:(zw ss).2=0∧∀t∈tys,zP ss t=true:=by
  simp only[Bool.or_eq_false_iff,decide_eq_false_iff_not,List.any_eq_false,Bool.not_eq_true',Bool.not_eq_false]at hgood
  exact⟨by omega,hgood.2⟩
 clear hgood
 obtain⟨hst,hmay⟩:=hok
 obtain⟨h32,_,hg,_⟩:=xT hst
 have hO:yT ss tys p=true:=by
  simp only[yT,gba,gdt,List.all_eq_true]
  exact⟨⟨⟨hl0,hl1⟩,hl8⟩,hst,hmay⟩
 have hlt0:p.l.toNat<tys.length:=by omega
 have hW:zL ss tys p=zH ss p.ps tys[p.l.toNat]:=by
  rw[zL,if_pos hO,ggd,gqg hlt0];rfl
 rw[hW]at hN hS
 obtain⟨bt,ot,ct,rfl,hct,hcell,htc⟩:=ht p.l.toNat hlt0
 have hfi:Fine ss tys[p.l.toNat]:=(Ys (hmay _ (gem hlt0))).2
 generalize tys[p.l.toNat]=t0 at hN hS htc hfi
 obtain⟨q0,cap1,rfl,ht0⟩:=yJ htc
 refine gG_ ?_
 refine zp (n:=5) hct (λj v hj=>S.at (hcell j v hj)) ?_
 refine S.stB (b:=b6) λw7 S=>?_
 refine gG_ ?_
 have S:=S.ownNil 3 1
 refine zh (ι:=Nat×Value×TyD×Option Addr×Nat×List Int) (λi=>[i.2.1,.int .i64 (i.1:Nat)]) (λi w'=>i.1≤p.ps.length∧zH ss (p.ps.take i.1) t0=some (i.2.2.1,i.2.2.2.2.2)∧TyG r (tyV i.2.2.1 i.2.2.2.1 i.2.2.2.2.1) i.2.2.1∧
  StX noX w (r.or (Go.Sh.one b3 [.slice p0 ss.length cap0] 22)) w' [.row i.2.1 3 1 i.1 (ints i.2.2.2.2.2),.cell b6 (tyL i.2.2.1 i.2.2.2.1 i.2.2.2.2.1) 112,.cell b5 [.int .i64 p.l,.slice qs p.ps.length caps] 59]) (λi=>p.ps.length-i.1) (0,.slice none 0 0,t0,q0,cap1,[]) rfl ⟨gzl _,rfl,ht0,S⟩ ?_
 clear S
 rintro⟨i,vg,t,q,cap,g⟩ d w8 ⟨hi,hw,htt,S⟩ K6 hK6
 simp only at hi hw htt S⊢
 simp only[gdz,gds]
 refine gP_ ?_
 have hft:Fine ss t:=JT hg hfi hw
 have hgl:g.length=(p.ps.take i).length:=Yt hw
 rw[List.length_take]at hgl
 refine zf (λhlt=>?_) (λhge=>?_)
 rotate_left
 ·have hie:i=p.ps.length:=by omega
  rw[hie,List.take_length]at hw
  have hvo:=S.row1 vg
  refine S.ldB (b:=b6) ?_ rfl
  refine S.stB (b:=b6) λw9 S=>?_
  refine gG_ ?_
  obtain⟨s,S,hsl,_,hab⟩:=S.doneRow (l:=g) (R:=zQ) (sz:=1) ⟨by rw[kN,Nat.mul_one],λj hj=>by
   show _=_
   rw[Nat.mul_one,ints,← List.map_drop,← List.map_take,List.drop_eq_getElem_cons hj];rfl⟩ (by decide) (by omega)
  exact hS _ _ _ _ _ s _ hw S.ext (S.newOf λb o ho=>(hab b o ho).resolve_right id) htt hsl
 have hlt:i<p.ps.length:=by omega
 obtain⟨k,hke⟩:∃k,p.ps[i]=k:=⟨_,rfl⟩
 obtain⟨bs,os,cs,rfl,hcs,hck,hcl⟩:=hl.sl.get (by decide) hlt
 rw[hke]at hck
 obtain⟨rfl,hin⟩:=hck
 have hstep:zH ss (p.ps.take (i+1)) t0=(zT ss t k).map λs=>(s.1,g++[s.2]):=by
  rw[List.take_succ_eq_append_getElem hlt,JR,hw,hke];rfl
 have hbadk:zT ss t k=none→zH ss p.ps t0=none:=λe=>by
  have:=JS (m:=p.ps.drop (i+1)) (hstep.trans (by rw[e];rfl))
  rwa[List.take_append_drop]at this
 have down:(t.k=3∨t.k=4)→∃uu,t.of=[uu]:=by
  intro hk
  rcases hft.cases with⟨_,h1⟩|⟨uu,h1,_⟩
  ·omega
  ·exact⟨uu,h1⟩
 refine zn (λs w'=>∃how t' q' cap' v',zT ss t k=some (t',how)∧s=[v']∧TyG r (tyV t' q' cap') t'∧
  StX noX w (r.or (Go.Sh.one b3 [.slice p0 ss.length cap0] 22)) w' [.row v' 3 1 (i+1) (ints (g++[how])),.cell b6 (tyL t' q' cap') 112,.cell b5 [.int .i64 p.l,.slice (some ⟨bs,os,none⟩) p.ps.length caps] 59]) (λK27 hK27=>?_) ?_
 rotate_left
 ·rintro _ w9 ⟨how,t',q',cap',v',h1,rfl,h2,S⟩ d9
  rw[gdz]
  refine gP_ ?_
  rw[show ((i:Int)+1)=((i+1:Nat):Int)by omega]
  exact hK6 (i+1,v',t',q',cap',g++[how]) _ ⟨hlt,hstep.trans (by rw[h1];rfl),h2,S⟩ (by show p.ps.length-(i+1)<p.ps.length-i;omega)
 refine gP_ ?_
 refine zg (v:=.int .i64 k) (by simpa using S.at (hcl 0 _ rfl)) ?_
 refine zn (λs w'=>w'=w8∧∃how:Int,s=[vg,.int .i64 how]∧((k = -1∧t.k=3∧how=1)∨(k = -1∧t.k=4∧how=if t.m then 2 else 3)∨(0≤k∧t.k=5∧k<(ze ss t.st).length∧how=0))) (λK31 hK31=>?_) ?_
 ·refine gP_ ?_
  refine zi (c:=decide (t.k=3)) (λ_ K2 hK2=>?_) ?_
  ·refine gG_ ?_
   exact hK2
  refine c_b (λhB=>?_) (λhB=>?_)
  ·have hB:k = -1∧t.k=3:=by simpa using hB
   exact hK31 _ _ ⟨rfl,1,rfl,.inl ⟨hB.1,hB.2,rfl⟩⟩
  have hB:¬(k = -1∧t.k=3):=by simpa using hB
  refine gP_ ?_
  refine zi (c:=decide (t.k=4)) (λ_ K2 hK2=>?_) ?_
  ·refine gG_ ?_
   exact hK2
  refine zi (c:=t.m) (λ_ K2 hK2=>?_) ?_
  ·refine gG_ ?_
   exact hK2
  refine c_b (λhM=>?_) (λhM=>?_)
  ·have hM:(k = -1∧t.k=4)∧t.m=true:=by simpa using hM
   exact hK31 _ _ ⟨rfl,2,rfl,.inr (.inl ⟨hM.1.1,hM.1.2,by rw[hM.2];rfl⟩)⟩
  refine gP_ ?_
  refine zi (c:=decide (t.k=4)) (λ_ K2 hK2=>?_) ?_
  ·refine gG_ ?_
   exact hK2
  refine c_b (λhR=>?_) (λhR=>?_)
  ·have hR:k = -1∧t.k=4:=by simpa using hR
   have hm:t.m=false:=by
    cases e:t.m
    ·rfl
    ·rw[e,gde hR.1,gde hR.2]at hM;cases hM
   exact hK31 _ _ ⟨rfl,3,rfl,.inr (.inl ⟨hR.1,hR.2,by rw[hm];rfl⟩)⟩
  have hR:¬(k = -1∧t.k=4):=by simpa using hR
  refine gG_ ?_
  refine zj (c:=decide (k<0)) (λ_ K2 hK2=>?_) ?_
  ·refine gG_ ?_
   exact hK2
  refine zj (c:=decide (((ze ss t.st).length:Int)≤k)) (λh5 K2 hK2=>?_) ?_
  ·have h5:t.k=5∧0≤k:=by simpa using h5
   obtain⟨hst0,hst1⟩:=hft.st h5.1
   have hslt:t.st.toNat<ss.length:=by omega
   obtain⟨b,off,q9,capq,rfl,hcell9,_,_,hfl⟩:=xK hs hslt
   have hlen:(ze ss t.st).length=ss[t.st.toNat].fs.length:=by
    rw[← vQ hslt];simp only[ze,tnc]
   refine zg (v:=.slice (some ⟨b,off,none⟩) ss.length cap0) (by
    have B:Blk w8 b3 [.slice (some ⟨b,off,none⟩) ss.length cap0] 22:=S.holds b3 _ (.inr ⟨rfl,rfl⟩)
    rw[B.cell];rfl) ?_
   refine gG_ ?_
   refine zg (S.at hcell9) ?_
   refine gG_ ?_
   rw[← hlen]
   exact hK2
  refine c_b (λhX=>?_) (λhX=>?_)
  ·have hnone:zT ss t k=none:=by
    rw[zT,if_neg hB,if_neg hR]
    split
    ·rename_i h5
     have h50:=h5.1
     rw[List.getElem?_eq_none]
     ·rfl
     ·have :((ze ss t.st).length:Int)≤k:=by
       simp only[Bool.or_eq_true,gdt]at hX;omega
      omega
    ·rfl
   refine zy (cs:=#[.int .u8 0,.bool false,.int .i64 0,.int .i64 0,.slice none 0 0]) (by kernel_rfl) ?_
   refine S.stB (b:=b6) λw9 S=>?_
   refine gG_ ?_
   exact hN _ (hbadk hnone) S.ext
  ·have hX:(t.k=5∧0≤k)∧k<(ze ss t.st).length:=by
    simp only[Bool.or_eq_false_iff,decide_eq_false_iff_not]at hX;omega
   exact hK31 _ _ ⟨rfl,0,rfl,.inr (.inr ⟨hX.1.2,hX.1.1,hX.2,rfl⟩)⟩
 rintro _ _ ⟨rfl,how,rfl,hcase⟩ d10
 simp only[gdz,gds]
 refine S.lit (e:=3) (cs:=[.int .i64 how]) (by kernel_rfl) λb9 w9 S=>?_
 refine S.ap (m':=1) (Sl.blk (S.blk b9)) (λv9 w10 S=>?_) (by omega)
 have S:=S.tl
 have hins:ints g++[.int .i64 how]=ints (g++[how]):=by rw[ints,ints,List.map_append];rfl
 rw[hins]at S
 refine gP_ ?_
 refine zf (λhz=>?_) (λhnz=>?_)
 ·have h5:0≤k∧t.k=5∧k<(ze ss t.st).length:=by
   rcases hcase with⟨_,_,h⟩|⟨_,_,h⟩|⟨h1,h2,h3,_⟩
   ·omega
   ·split at h<;>omega
   ·exact⟨h1,h2,h3⟩
  obtain⟨hk0,hk5,hkl⟩:=h5
  obtain⟨hst0,hst1⟩:=hft.st hk5
  have hslt:t.st.toNat<ss.length:=by omega
  obtain⟨b,off,q9,capq,rfl,hcell9,_,_,hfl⟩:=xK hs hslt
  have htl2:ze ss t.st=ss[t.st.toNat].fs.map (·.2):=by
   rw[← yD hslt];simp only[ze,tnc]
  have hkf:k.toNat<ss[t.st.toNat].fs.length:=by
   rw[htl2,List.length_map]at hkl;omega
  obtain⟨b10,off9,c9,rfl,hc9,hcell8,ht9⟩:=qC hfl hkf
  obtain⟨q2,cap2,rfl,ht2⟩:=yJ ht9
  refine zg (v:=.slice (some ⟨b,off,none⟩) ss.length cap0) (by
   have B:Blk w10 b3 [.slice (some ⟨b,off,none⟩) ss.length cap0] 22:=S.holds b3 _ (.inr ⟨rfl,rfl⟩)
   rw[B.cell];rfl) ?_
  refine gG_ ?_
  refine zg (S.at hcell9) ?_
  refine gG_ ?_
  refine zp (n:=5) (c:=tyL _ q2 cap2) rfl (λj v hj=>by have:=S.at (hcell8 (j+1) v hj);rwa[show off9+k.toNat*6+(j+1)=off9+k.toNat*6+1+j by omega]at this) ?_
  refine S.stB (b:=b6) λw11 S=>?_
  refine hK27 _ _ ⟨how,_,q2,cap2,v9,?_,rfl,ht2,S⟩
  rw[zT,if_neg (by omega),if_neg (by omega),if_pos ⟨hk0,hk5⟩,htl2,List.getElem?_map,gqg hkf,hz];rfl
 ·have h34:k = -1∧((t.k=3∧how=1)∨(t.k=4∧how=if t.m then 2 else 3)):=by
   rcases hcase with⟨h1,h2,h⟩|⟨h1,h2,h⟩|⟨h1,h2,h3,h⟩
   ·exact⟨h1,.inl ⟨h2,h⟩⟩
   ·exact⟨h1,.inr ⟨h2,h⟩⟩
   ·exact absurd h hnz
  obtain⟨hk1,h34⟩:=h34
  obtain⟨uu,hof⟩:=down (h34.imp (·.1) (·.1))
  obtain⟨bo,oo,q2,cap2,rfl,ht2,hcc⟩:=Zu htt hof
  have hl1:t.of.length=1:=by rw[hof];rfl
  refine gG_ ?_
  refine zp (n:=5) (c:=tyL uu q2 cap2) rfl (λj v hj=>by simpa using S.at (hcc j v hj)) ?_
  refine S.stB (b:=b6) λw11 S=>?_
  refine hK27 _ _ ⟨how,uu,q2,cap2,v9,?_,rfl,ht2,S⟩
  rcases h34 with⟨h1,h2⟩|⟨h1,h2⟩
  ·rw[zT,if_pos ⟨hk1,h1⟩,hof,h2];rfl
  ·rw[zT,if_neg (by omega),if_pos ⟨hk1,h1⟩,hof,h2];rfl
theorem ahD{cap0 capt:Nat}{K:Value→World→Prop}(hr:Holds r w)(hs:StG r p0 ss)(ht:TysG r q tys)(htl:tys.length≤maxLen)(hp:PlG r c p)
  (h:∀w',Ext w w'→K (.bool (zL ss tys p).isSome) w'):zd Tryz.prog Tryz.QB #[.slice p0 ss.length cap0,.slice q tys.length capt,.agg c.toArray] w K:=by
 refine Tryz.agD ?_
 unfold Tryz.abA
 obtain⟨v,rfl,hl⟩:=id hp
 obtain⟨qs,caps,rfl,_,_⟩:=hl.sl.shape
 have S:=St.start hr
 refine S.box λb5 w1 S=>?_
 have S:StX noX w r w1 [.cell b5 [.int .i64 p.l,.slice qs p.ps.length caps] 59]:=S
 refine S.ldB (b:=b5) ?_ rfl
 refine V8 S.holds hs ht htl hp (λw2 hn e2=>?_) λt g q cap vg s w2 hsm e2 n2 htt hg=>?_
 ·have S:=S.go e2
  refine gP_ ?_
  refine gP_ ?_
  refine gP_ ?_
  refine S.al λb7 w3 S=>?_
  refine S.stB (b:=b7) λw4 S=>?_
  have:=h _ S.ext
  rw[hn]at this;exact this
 ·have S:=S.go e2
  refine gP_ ?_
  refine gP_ ?_
  refine gP_ ?_
  refine S.al λb7 w3 S=>?_
  refine S.stB (b:=b7) λw4 S=>?_
  have:=h _ S.ext
  rw[hsm]at this;exact this
end
end Go.Proofs
namespace Go.Sh
open Go.RowKit Go.MapKept
section
def zr1(P:Program)(t:TypeId):Option Value:=(P.info? t).bind λi=>i.zero
theorem ae4{P:Program}{t:TypeId}{z:Value}(hz:zr1 P t=some z)(w:World):(zeroValue t).run P w=.ok z w:=by
 unfold zr1 at hz
 cases hi:P.info? t with
 |none=>rw [hi]at hz;cases hz
 |some i=>
  rw[hi]at hz
  have hz:i.zero=some z:=hz
  simp[zeroValue,typeInfo,Sem.run,pure,hi,hz,Sem.run_bind,Result.andThen]
def mpT(P:Program)(t:TypeId):Option (TypeId×TypeId):=match P.underlying t with
 |some (.map k e)=>(match P.underlying k with|some .string=>some (k,e)|_=>none)
 |_=>none
theorem agI{P:Program}{t k e:TypeId}(h:mpT P t=some (k,e)):P.underlying t=some (.map k e)∧P.underlying k=some .string:=by
 unfold mpT at h
 split at h
 ·rename_i k' e' h1
  split at h
  ·rename_i h2
   cases h;exact⟨h1,h2⟩
  ·cases h
 ·cases h
def JU(x:ByteArray):List MapEntry→Option Value
 |[]=>none
 |m::l=>match m.key with|.string s=>if x == s then some m.val else JU x l|_=>JU x l
def akG(l:List MapEntry):Prop:=∀m∈l,∃s,m.key=.string s
theorem aci{x:ByteArray}:∀{l:List MapEntry}{i:Nat},akG l→∃o,Instr.findNow .string (.string x) l i=some o∧o.map (·.2)=JU x l
 |[],i,_=>⟨none,rfl,rfl⟩
 |m::l,i,h=>by
  obtain⟨s,hs⟩:=h m List.mem_cons_self
  cases hx:(x == s)with
  |true=>
   refine⟨some (i,m.val),?_,?_⟩
   ·rw[Instr.findNow,hs]
    simp[Instr.sameNow,hx]
   ·rw[JU,hs];simp[hx]
  |false=>
   obtain⟨o,h1,h2⟩:=aci (x:=x) (l:=l) (i:=i+1) λy hy=>h y (List.mem_cons_of_mem _ hy)
   refine⟨o,?_,?_⟩
   ·rw[Instr.findNow,hs]
    simp[Instr.sameNow,hx,h1]
   ·rw[h2,JU,hs];simp[hx]
theorem ajC(x y:ByteArray):(x == y)=(x.toList == y.toList):=by
 rw[show (x == y)=(x.data == y.data)by cases x;cases y;rfl,ByteArray.toList_eq,ByteArray.toList_eq,Bool.eq_iff_iff,beq_iff_eq,beq_iff_eq,Array.toList_inj]
section
variable {P:Program} {X:Nat→Prop} {w0 w:World} {r:Gh} {L:List Asr} {t k e:TypeId} {b c:Nat} {es:Array MapEntry}
theorem StX.addO(S:StX X w0 r w L){w':World}(ex:Ext w w'){o:Obj}(hb:w.heap.size≤b)(B:w'.heap[b]? = some o)(ho:Obj.isBook o=false):StX X w0 r w' (.obj b (· = o)::L):=by
 have S':=S.go ex
 refine⟨S'.x,S'.holds,?_,?_,.cons ?_ S'.apart⟩
 ·intro x hx;rcases List.mem_cons.1 hx with rfl|hx
  ·exact⟨o,B,ho,rfl⟩
  ·exact S'.has x hx
 ·intro x hx;rcases List.mem_cons.1 hx with rfl|hx
  ·rintro k rfl
   exact⟨.inl (by have:=S.x.size;omega),λo ho=>by have:=S.holds.lt ho;omega⟩
  ·exact S'.mine x hx
 ·rintro y hy k rfl hk
  have:=Asr.lt (S.has y hy) hk;omega
theorem StX.mkMap(S:StX X w0 r w L){K:Value→World→Prop}(h:∀b w',StX X w0 r w' (.obj b (· = .map #[] 0)::L)→K (.map (some b)) w'):opW P w (Instr.makeMap t none) K:=by
 refine⟨.map (some w.heap.size),{ w with heap:=w.heap.push (.map #[] 0) },?_,h _ _ (S.addO ?_ (Nat.le_refl _) ?_ rfl)⟩
 ·simp[Instr.makeMap,newObj,Sem.run_bind,Sem.run,pure,Result.andThen]
  try rfl
 ·exact⟨rfl,rfl,rfl,by simp,λb hb=>by simp[Array.getElem?_push,Nat.ne_of_lt hb]⟩
 ·simp
theorem StX.mapAdd(S:StX X w0 r w (.obj b (· = .map es c)::L)){x:ByteArray}{v:Value}(ht:mpT P t=some (k,e))(hs:akG es.toList)(hn:JU x es.toList=none){K:World→Prop}
  (h:∀w',StX X w0 r w' (.obj b (· = .map (es.push { key:=.string x,val:=v,born:=c }) (c+1))::L)→K w'):opU P w (Instr.mapUpdate t (.map (some b)) (.string x) v) K:=by
 obtain⟨ht,hk⟩:=agI ht
 obtain⟨o,hb,_,rfl⟩:=S.has _ List.mem_cons_self
 obtain⟨o,h1,h2⟩:=aci (x:=x) (i:=0) hs
 have h3:o=none:=by
  rw[hn]at h2
  cases o with
  |none=>rfl
  |some y=>cases h2
 subst h3
 have hf:=run_findKey (w:=w) hk h1
 refine⟨{ w with heap:=w.heap.setIfInBounds b (.map (es.push { key:=.string x,val:=v,born:=c }) (c+1)) },?_,h _ ?_⟩
 ·simp[Instr.mapUpdate,run_underlying ht,MapKept.run_getObj_map hb,run_checkKey (w:=w) hk (k:=.string x) trivial false 9999,hf,MapKept.run_setObj_map _ hb,Result.andThen]
 ·obtain⟨e1,e2⟩:=heap_set hb (o':=.map (es.push { key:=.string x,val:=v,born:=c }) (c+1))
  exact S.turn (p:=[]) (x:=.obj b (· = .map es c)) (y:=.obj b (· = .map (es.push { key:=.string x,val:=v,born:=c }) (c+1))) ⟨rfl,rfl,rfl,by simp,λk _ hk=>e2 k hk⟩ ⟨_,e1,rfl,rfl⟩ λk hk=>.inl hk
theorem StX.mapGet(S:StX X w0 r w (.obj b (· = .map es c)::L)){x:ByteArray}{z:Value}(ht:mpT P t=some (k,e))(hz:zr1 P e=some z)(hs:akG es.toList){K:Value→Prop}(h:K ((JU x es.toList).getD z)):
  opQ P w (Instr.lookup t (.map (some b)) (.string x) false) K:=by
 obtain⟨ht,hk⟩:=agI ht
 obtain⟨o,hb,_,rfl⟩:=S.has _ List.mem_cons_self
 obtain⟨o,h1,h2⟩:=aci (x:=x) (i:=0) hs
 refine⟨_,λw' ex=>?_,h⟩
 have hb':w'.heap[b]? = some (.map es c):=(ex.block b (Array.getElem?_eq_some_iff.1 hb).1).trans hb
 have hf:=run_findKey (w:=w') hk h1
 rw[← h2]
 cases o with
 |none=>simp [Instr.lookup,run_underlying ht,MapKept.run_getObj_map hb',run_checkKey (w:=w') hk (k:=.string x) trivial _ 9999,hf,ae4 hz,Result.andThen]
 |some y=>simp [Instr.lookup,run_underlying ht,MapKept.run_getObj_map hb',run_checkKey (w:=w') hk (k:=.string x) trivial _ 9999,hf,Result.andThen]
end
end
end Go.Sh
namespace Go.Sh
section
variable {K:Value→Prop}
theorem p_id{P:Program}{s:Sem Value}(h:opP P s K):opP P s K:=h
theorem q_id{P:Program}{w:World}{s:Sem Value}(h:opQ P w s K):opQ P w s K:=h
end
end Go.Sh
namespace Go.Proofs
open Go.Sh
section
variable {u:UnD} {a b c:Bool} {x y:Int} {g:GrD}
structure PaD where
 tt:TyD
 tm:Int
 tok:Bool
 ft:TyD
 fm:Int
 fok:Bool
 at':TyD
 aok:Bool
 bt:TyD
 bok:Bool
noncomputable def ptH(u:UnD)(g:GrD)(p:PtD)(x:PaD):Bool:=
 if p.op=1 then((zG p { to:=true,a:=true } && (x.tok&&decide (x.tm<3)))&&x.aok)&&zY yr x.at' x.tt
 else if p.op=2 then
  (zG p { to:=true,a:=true,b:=true,sign:=true } && ((x.tok&&decide (x.tm<3))&&(x.aok&&x.bok))) &&
   (if yo p.sign [[43],[45],[42],[47],[37]]then isK x.tt 1&&(isK x.at' 1&&isK x.bt 1)
    else if yo p.sign [[60],[60,61],[62],[62,61]]then isK x.tt 2&&(isK x.at' 1&&isK x.bt 1)
    else if yo p.sign [[61,61],[33,61]]then isK x.tt 2&&((isK x.at' 1&&isK x.bt 1)||(isK x.at' 2&&isK x.bt 2))else false)
 else if p.op=3 then
  ((zG p { to:=true,a:=true,sign:=true } && (x.tok&&decide (x.tm<3)))&&x.aok) &&
   (if yo p.sign [[45]]then isK x.tt 1&&isK x.at' 1 else if yo p.sign [[33]]then isK x.tt 2&&isK x.at' 2 else false)
 else if p.op=4 then
  ((((zG p { to:=true,fr:=true,mu:=true } && (x.tok&&decide (x.tm<3)))&&x.fok)&&isK x.tt 4)&&(x.tt.m == p.mu))&&(zY yr (x.tt.of.headD yc) x.ft && !(p.mu&&decide (x.fm=3)))
 else if p.op=5 then(((zG p { to:=true,a:=true } && (x.tok&&decide (x.tm<3)))&&x.aok)&&isK x.tt 3)&&zY yr (x.tt.of.headD yc) x.at'
 else if p.op=6 then
  (((zG p { to:=true,args:=true,st:=true } && (x.tok&&decide (x.tm<3)))&&isK x.tt 5)&&decide (x.tt.st=p.st))&&xg u.ss g.tys p.args (yy u.ss x.tt).1
 else if p.op=7 then
  ((zG p { to:=true,args:=true,fn:=true } && (x.tok&&decide (x.tm<3)))&&(decide (0≤p.fn)&&decide (p.fn<u.fs.length))) &&
   (match u.fs[p.fn.toNat]? with
    |some f=>zY yr x.tt (f.tys.headD yc)&&xg u.ss g.tys p.args ((f.tys.drop 1).take f.pn.toNat)
    |none=>false)
 else if p.op=8 then(zG p { to:=true } && (x.tok&&decide (x.tm<3)))&&isK x.tt 1
 else if p.op=9 then(zG p { a:=true } && x.aok)&&isK x.at' 1
 else if p.op=10 then((zG p { fr:=true } && x.fok)&&(qN u.ss x.ft).1)&&decide (x.fm<2)
 else if p.op=11 then((zG p { fr:=true } && x.fok)&&decide (0<p.fr.l))&&decide (p.fr.ps.length=0)
 else if p.op=12 then((zG p { a:=true,el:=true } && x.aok)&&isK x.at' 2)&&QN g p.el
 else if p.op=13∨p.op=14 then zG p {}
 else false
noncomputable def pad(u:UnD)(g:GrD)(p:PtD):PaD:=
 ⟨(zm u.ss g.tys p.to).1,(zm u.ss g.tys p.to).2.1,(zm u.ss g.tys p.to).2.2,(zm u.ss g.tys p.fr).1,(zm u.ss g.tys p.fr).2.1,(zm u.ss g.tys p.fr).2.2,
  (zr u.ss g.tys p.a).1,(zr u.ss g.tys p.a).2,(zr u.ss g.tys p.b).1,(zr u.ss g.tys p.b).2⟩
theorem ami(u:UnD)(g:GrD)(p:PtD):ptG u g p=ptH u g p (pad u g p):=rfl
theorem bb4{d:Bool}(h:(((!a || !b) || !c) || !d)=true):(a&&(b&&(c&&d)))=false:=by revert h;cases a<;>cases b<;>cases c<;>cases d<;>simp
theorem amj{d:Bool}(h:(((!a || !b) || !c) || !d)=false):(a&&(b&&(c&&d)))=true:=by revert h;cases a<;>cases b<;>cases c<;>cases d<;>simp
theorem bb3(h:(((!a || !b) || !c)||decide (x≠y))=true):(((a&&b)&&c)&&decide (x=y))=false:=by
 by_cases e:x=y
 ·simp only[e]at h⊢;revert h;cases a<;>cases b<;>cases c<;>simp
 ·simp[e]
theorem amk(h:(((!a || !b) || !c)||decide (x≠y))=false):(((a&&b)&&c)&&decide (x=y))=true:=by
 by_cases e:x=y
 ·simp only[e]at h⊢;revert h;cases a<;>cases b<;>cases c<;>simp
 ·simp[e]at h
theorem bb5(h:(((!a || !b)||decide (x<0))||decide (y≤x))=true):((a&&b)&&(decide (0≤x)&&decide (x<y)))=false:=by
 by_cases e:0≤x<;>by_cases f:x<y
 ·rw[decide_eq_false (show¬x<0 by omega),decide_eq_false (show¬y≤x by omega)]at h
  revert h;cases a<;>cases b<;>simp
 all_goals simp[e,f]
theorem aml(h:(((!a || !b)||decide (x<0))||decide (y≤x))=false):((a&&b)&&(decide (0≤x)&&decide (x<y)))=true:=by
 simp only[Bool.or_eq_false_iff,decide_eq_false_iff_not,Bool.not_eq_false']at h
 obtain⟨⟨⟨h1,h2⟩,h3⟩,h4⟩:=h
 rw[h1,h2,gde (show 0≤x by omega),gde (show x<y by omega)];rfl
theorem mpK:mpT Tryz.prog 236=some (9,110):=by kernel_rfl
theorem mpZ:zr1 Tryz.prog 110=some (.int .u8 0):=by kernel_rfl
theorem akH(x:ByteArray)(f g:Int→Bool):∃ks:Int,(JU x ((#[].push (⟨.string (bs [45]),.int .u8 1,0⟩:MapEntry)).push ⟨.string (bs [33]),.int .u8 2,0+1⟩).toList).getD (.int .u8 0)=.int .u8 ks∧
  ((decide (ks≠0)&&f ks)&&g ks)=(if yo x [[45]]then f 1&&g 1 else if yo x [[33]]then f 2&&g 2 else false):=by
 have e:((#[].push (⟨.string (bs [45]),.int .u8 1,0⟩:MapEntry)).push ⟨.string (bs [33]),.int .u8 2,0+1⟩).toList=[⟨.string (bs [45]),.int .u8 1,0⟩,⟨.string (bs [33]),.int .u8 2,0+1⟩]:=rfl
 rw[e]
 simp only[JU,ajC,aeP,yo,List.any_cons,List.any_nil,Bool.or_false]
 by_cases h1:(x.toList == [45])=true
 ·exact⟨1,by rw[if_pos h1];rfl,by rw[if_pos h1];simp⟩
 ·by_cases h2:(x.toList == [33])=true
  ·exact⟨2,by rw[if_neg h1,if_pos h2];rfl,by rw[if_neg h1,if_pos h2];simp⟩
  ·exact⟨0,by rw[if_neg h1,if_neg h2];rfl,by rw[if_neg h1,if_neg h2];simp⟩
theorem VD{p:PtD}{c:List Value}{v:Value}{w:World}{r:Gh}{K:Value→World→Prop}(hr:Holds r w)(hx:AskG r v u g)(hf:yQ u.ss g.tys)(hfs:∀f∈u.fs,0≤f.pn∧f.pn<f.tys.length)(hp:PtG r c p)
  (h:∀w',Ext w w'→K (.bool (yw u g p)) w'):zd Tryz.prog Tryz.qX #[v,.agg c.toArray] w K:=by
 have hx0:=hx
 obtain⟨p0,cap0,vf,vo,vt,vn,vp,rfl,hu,hg⟩:=hx
 have hu0:=hu
 obtain⟨_,_,_,hE,_,_,hst,_,hfn⟩:=hu
 cases hE
 obtain⟨qfn,capfn,rfl,_,_⟩:=hfn.sl.shape
 obtain⟨_,_,_,_,hE,_,htys,_,hpts⟩:=hg
 cases hE
 obtain⟨qp,capp,rfl,_,_⟩:=hpts.sl.shape
 have hp0:=hp
 obtain⟨vto,va,vb,vl,vfr,rfl,h1,h2,h3,h4,h5⟩:=hp
 obtain⟨qto,capto,rfl,_,_⟩:=h1.sl.shape
 obtain⟨qa,capa,rfl,_,_⟩:=h2.sl.shape
 obtain⟨qb,capb,rfl,_,_⟩:=h3.sl.shape
 obtain⟨ql,capl,rfl,_,_⟩:=h4.sl.shape
 obtain⟨qf,capf,rfl,_,_⟩:=h5.sl.shape
 have hpto:PlG r [.int .i64 p.to.l,.slice qto p.to.ps.length capto] p.to:=⟨_,rfl,h1⟩
 have hpfr:PlG r [.int .i64 p.fr.l,.slice qf p.fr.ps.length capf] p.fr:=⟨_,rfl,h5⟩
 have hoa:OpG r [.int .u8 p.a.k,.int .i64 p.a.n,.int .i64 p.a.pl.l,.slice qa p.a.pl.ps.length capa] p.a:=⟨_,rfl,h2⟩
 have hob:OpG r [.int .u8 p.b.k,.int .i64 p.b.n,.int .i64 p.b.pl.l,.slice qb p.b.pl.ps.length capb] p.b:=⟨_,rfl,h3⟩
 refine Tryz.JK ?_
 unfold Tryz.ZH
 have S:=St.start hr
 refine S.box λb2 w1 S=>?_
 refine S.box λb3 w2 S=>?_
 refine gg_ ?_
 refine S.al λb5 w3 S=>?_
 refine S.st (b:=b5) λw4 S=>?_
 refine gg_ ?_
 refine ZZ (g:=decide (p.op≠14)) (c:=!QN g p.nx) (λ_ K2 hK2=>?_) (λ_ K2 hK2=>?_) ?_
 ·refine gg_ ?_
  exact hK2
 ·refine gg_ ?_
  refine aeV (b:=b5) S ?_
  refine gp_ ?_
  exact hK2
 refine ZZ (g:=decide (p.op=14)) (c:=decide (p.nx≠0)) (λ_ K2 hK2=>?_) (λ_ K2 hK2=>?_) ?_
 ·refine gg_ ?_
  exact hK2
 ·refine gg_ ?_
  exact hK2
 have hpg:yw u g p=(!((decide (p.tx<0)||(decide (p.op≠14) && !QN g p.nx))||(decide (p.op=14)&&decide (p.nx≠0)))&&ptG u g p):=by
  rw[yw];simp only[decide_not]
 rw[hpg]at h
 refine c_b (λhbad=>?_) (λhgood=>?_)
 ·rw[hbad,Bool.not_true,Bool.false_and]at h
  exact h _ S.ext
 rw[hgood,Bool.not_false,Bool.true_and,ami]at h
 clear hpg hgood
 have S:=S.go (Ext.drew _)
 have S:StX noX w r w4.drew [.cell b5 [.int .i64 (g.pts.length:Nat)] 3,
   .cell b3 [.int .u8 p.op,.int .i64 p.to.l,.slice qto p.to.ps.length capto,.int .u8 p.a.k,.int .i64 p.a.n,.int .i64 p.a.pl.l,.slice qa p.a.pl.ps.length capa,.int .u8 p.b.k,.int .i64 p.b.n,.int .i64 p.b.pl.l,.slice qb p.b.pl.ps.length capb,.slice ql p.args.length capl,
    .string p.sign,.int .i64 p.fr.l,.slice qf p.fr.ps.length capf,.bool p.mu,.int .i64 p.fn,.int .i64 p.st,.int .i64 p.nx,.int .i64 p.el,.int .i64 p.tx] 94,
   .cell b2 [.slice p0 u.ss.length cap0,.slice qfn u.fs.length capfn,.int .i64 u.mn,.string g.name,.int .i64 g.lv,vo,.int .i64 g.pn,vt,vn,.slice qp g.pts.length capp] 180]:=S
 obtain⟨tt,tm,tok,hspt⟩:∃tt tm tok,zm u.ss g.tys p.to=(tt,tm,tok):=⟨_,_,_,rfl⟩
 obtain⟨ft,fm,fok,hspf⟩:∃tt tm tok,zm u.ss g.tys p.fr=(tt,tm,tok):=⟨_,_,_,rfl⟩
 obtain⟨ta,aok,hopa⟩:∃t ok,zr u.ss g.tys p.a=(t,ok):=⟨_,_,rfl⟩
 obtain⟨tb,bok,hopb⟩:∃t ok,zr u.ss g.tys p.b=(t,ok):=⟨_,_,rfl⟩
 have hpad:pad u g p=⟨tt,tm,tok,ft,fm,fok,ta,aok,tb,bok⟩:=by simp only[pad,hspt,hspf,hopa,hopb]
 rw[hpad,ptH]at h
 dsimp only at h
 have inside:tok=true→(tt.k=3∨tt.k=4)→∃uu,tt.of=[uu]:=by
  intro h1 h2
  have hfi:=ju hf (p:=p.to) (by rw[hspt];exact h1)
  rw[hspt]at hfi
  rcases Fine.cases hfi with⟨_,h3⟩|⟨uu,h3,_⟩
  ·have h3:tt.k=1∨tt.k=2∨tt.k=5:=h3
   omega
  ·exact⟨uu,h3⟩
 refine zn (λs w'=>∃b7 b8 q7 c7 q8 c8,s=[.pointer (some ⟨b7,0,none⟩),.pointer (some ⟨b8,0,none⟩)]∧TyG r (tyV tt q7 c7) tt∧TyG r (tyV ft q8 c8) ft∧
  StX noX w r w' (.cell b8 (spL ft q8 c8 fm fok) 228::.cell b7 (spL tt q7 c7 tm tok) 228::[.cell b5 [.int .i64 (g.pts.length:Nat)] 3,
   .cell b3 [.int .u8 p.op,.int .i64 p.to.l,.slice qto p.to.ps.length capto,.int .u8 p.a.k,.int .i64 p.a.n,.int .i64 p.a.pl.l,.slice qa p.a.pl.ps.length capa,.int .u8 p.b.k,.int .i64 p.b.n,.int .i64 p.b.pl.l,.slice qb p.b.pl.ps.length capb,.slice ql p.args.length capl,
    .string p.sign,.int .i64 p.fr.l,.slice qf p.fr.ps.length capf,.bool p.mu,.int .i64 p.fn,.int .i64 p.st,.int .i64 p.nx,.int .i64 p.el,.int .i64 p.tx] 94,
   .cell b2 [.slice p0 u.ss.length cap0,.slice qfn u.fs.length capfn,.int .i64 u.mn,.string g.name,.int .i64 g.lv,vo,.int .i64 g.pn,vt,vn,.slice qp g.pts.length capp] 180])) (λK30 hK30=>?_) ?_
 ·refine S.ldB (b:=b2) ?_ rfl
  refine gp_ ?_
  refine S.ldN (b:=b3) ?_
  refine S.ldB (b:=b2) ?_ rfl
  refine gp_ ?_
  refine S.ldN (b:=b3) ?_
  repeat' (first
   |(refine S.alU λb9 w9 S=>?_)
   |(refine S.al λb9 w9 S=>?_)
   |(refine S.stB λw9 S=>?_)
   |(refine xH S.holds hx0 hf hpto hspt (λq7 c7 w9 e9 ht7=>⟨e9,?_⟩);have S:=S.go e9)
   |(refine xH S.holds hx0 hf hpto hspt (λq7 c7 w9 e9 ht7=>?_);have S:=S.go e9)
   |(refine xH S.holds hx0 hf hpfr hspf (λq8 c8 w9 e9 ht8=>⟨e9,?_⟩);have S:=S.go e9)
   |(refine xH S.holds hx0 hf hpfr hspf (λq8 c8 w9 e9 ht8=>?_);have S:=S.go e9)
   |exact hK30 _ _ ⟨_,_,_,_,_,_,rfl,ht7,ht8,S⟩
   |exact hK30 _ _ ⟨_,_,_,_,_,_,rfl,ht7,ht8,S.swap⟩
   |refine ⟨?_,?_⟩)
 clear S
 rintro _ w33 ⟨b7,b8,q7,c7,q8,c8,rfl,ht7,ht8,S⟩ d33
 simp only[gdz,gds]
 refine gg_ ?_
 refine zi (c:=decide (tm<3)) (λ_ K2 hK2=>?_) ?_
 ·refine gg_ ?_
  exact hK2
 refine S.ldB (b:=b2) ?_ rfl
 refine gp_ ?_
 refine S.ldN (b:=b3) ?_
 refine k6 S.holds hx0 hf hoa hopa λq10 c10 w34 e34 hta=>?_
 have S:=S.go e34
 refine gp_ ?_
 refine gp_ ?_
 refine S.al λb10 w35 S=>?_
 refine S.stB (b:=b10) λw36 S=>?_
 refine S.ldB (b:=b2) ?_ rfl
 refine gp_ ?_
 refine S.ldN (b:=b3) ?_
 refine k6 S.holds hx0 hf hob hopb λq12 c12 w37 e37 htb=>?_
 have S:=S.go e37
 refine gp_ ?_
 refine gp_ ?_
 refine S.al λb12 w38 S=>?_
 refine S.stB (b:=b12) λw39 S=>?_
 refine gg_ ?_
 refine zf (λho=>?_) (λho=>?_)
 ·rw[if_pos ho]at h
  refine S.ldB (b:=b3) ?_ rfl
  refine gp_ ?_
  refine ym (f:={ to:=true,a:=true }) S.holds hp0 λw31 e31=>?_
  have S:=S.go e31
  refine zi (c:=tok&&decide (tm<3)) (λ_ K2 hK2=>hK2) ?_
  refine zi (c:=aok) (λ_ K2 hK2=>hK2) ?_
  refine zt (c:=zY yr ta tt) (λ_ K2 hK2=>?_) λw32 e32=>h _ (S.go e32).ext
  refine S.ldB (b:=b10) ?_ rfl
  refine gp_ ?_
  refine S.ldN (b:=b7) ?_
  exact qM S.holds hta ht7 λw33 e33=>hK2 _ e33
 rw[if_neg ho]at h
 clear ho
 refine gg_ ?_
 refine zf (λho=>?_) (λho=>?_)
 ·rw[if_pos ho]at h
  refine S.ldB (b:=b3) ?_ rfl
  refine gp_ ?_
  refine ym (f:={ to:=true,a:=true,b:=true,sign:=true }) S.holds hp0 λw31 e31=>?_
  have S:=S.go e31
  refine gp_ ?_
  refine zj (c:=!(tok&&decide (tm<3))) (λ_ K2 hK2=>?_) ?_
  ·refine gp_ ?_
   exact hK2
  refine zj (c:=!aok) (λ_ K2 hK2=>?_) ?_
  ·refine gp_ ?_
   exact hK2
  refine zj (c:=!bok) (λ_ K2 hK2=>?_) ?_
  ·refine gp_ ?_
   exact hK2
  refine c_b (λhc=>?_) (λhc=>?_)
  ·rw[bb4 hc,Bool.false_and]at h
   exact h _ S.ext
  rw[amj hc,Bool.true_and]at h
  refine S.ldB (b:=b10) ?_ rfl
  refine yG S.holds λw34 e34=>?_
  have S:=S.go e34
  refine zt (c:=isK tb 1) (λhb K2 hK2=>?_) λw32 e32=>?_
  ·refine S.ldB (b:=b12) ?_ rfl
   exact yG S.holds λw33 e33=>hK2 _ e33
  have S:=S.go e32
  refine gg_ ?_
  refine zn (λs w'=>s=[.bool (yo p.sign [[43],[45],[42],[47],[37]])]∧Ext w32 w') (λK9 hK9=>?_) ?_
  ·have hk:=hK9 _ _ ⟨rfl,Ext.refl _⟩
   simp only[yo,List.any_cons,List.any_nil,Bool.or_false]at hk
   refine gp_ ?_
   refine qu hk λ_ hk=>?_
   refine gp_ ?_
   refine qu hk λ_ hk=>?_
   refine gp_ ?_
   refine qu hk λ_ hk=>?_
   refine gp_ ?_
   refine qu hk λ_ hk=>?_
   refine gp_ ?_
   exact hk
  rintro _ w41 ⟨rfl,e41⟩ d41
  have S:=S.go e41
  rw[gdz]
  refine c_b (λhs=>?_) (λhs=>?_)
  ·rw[if_pos hs]at h
   refine gp_ ?_
   refine S.ldN (b:=b7) ?_
   refine yG S.holds λw35 e35=>?_
   have S:=S.go e35
   exact zi (c:=isK ta 1&&isK tb 1) (λ_ K2 hK2=>hK2) (h _ S.ext)
  rw[if_neg (by rw[hs];decide)]at h
  refine zn (λs w'=>s=[.bool (yo p.sign [[60],[60,61],[62],[62,61]])]∧Ext w41 w') (λK9 hK9=>?_) ?_
  ·have hk:=hK9 _ _ ⟨rfl,Ext.refl _⟩
   simp only[yo,List.any_cons,List.any_nil,Bool.or_false]at hk
   refine gp_ ?_
   refine qu hk λ_ hk=>?_
   refine gp_ ?_
   refine qu hk λ_ hk=>?_
   refine gp_ ?_
   refine qu hk λ_ hk=>?_
   refine gp_ ?_
   exact hk
  rintro _ w41 ⟨rfl,e41⟩ d41
  have S:=S.go e41
  rw[gdz]
  refine c_b (λhs=>?_) (λhs=>?_)
  ·rw[if_pos hs]at h
   refine gp_ ?_
   refine S.ldN (b:=b7) ?_
   refine yG S.holds λw35 e35=>?_
   have S:=S.go e35
   exact zi (c:=isK ta 1&&isK tb 1) (λ_ K2 hK2=>hK2) (h _ S.ext)
  rw[if_neg (by rw[hs];decide)]at h
  refine zn (λs w'=>s=[.bool (yo p.sign [[61,61],[33,61]])]∧Ext w41 w') (λK9 hK9=>?_) ?_
  ·have hk:=hK9 _ _ ⟨rfl,Ext.refl _⟩
   simp only[yo,List.any_cons,List.any_nil,Bool.or_false]at hk
   refine gp_ ?_
   refine qu hk λ_ hk=>?_
   refine gp_ ?_
   exact hk
  rintro _ w41 ⟨rfl,e41⟩ d41
  have S:=S.go e41
  rw[gdz]
  refine c_b (λhs=>?_) (λhs=>?_)
  rotate_left
  ·rw[if_neg (by rw[hs];decide)]at h
   exact h _ S.ext
  rw[if_pos hs]at h
  refine gp_ ?_
  refine S.ldN (b:=b7) ?_
  refine yG S.holds λw35 e35=>?_
  have S:=S.go e35
  generalize isK tt 2=x1 at h⊢
  generalize (isK ta 1&&isK tb 1)=x2 at h⊢
  cases x1 with
  |false=>
   (intro K9 hK9;refine gd_ ?_;refine hK9 _ _ λ_=>?_;clear hK9 K9)
   (intro K9 hK9;refine gd_ ?_;refine hK9 _ _ λ_=>?_;clear hK9 K9)
   (intro K9 hK9;refine gd_ ?_;refine hK9 _ _ λ_=>?_;clear hK9 K9)
   (intro K9 hK9;refine gd_ ?_;refine hK9 _ _ λ_=>?_;clear hK9 K9)
   (intro K9 hK9;refine gd_ ?_;refine hK9 _ _ λ_=>?_;clear hK9 K9)
   refine gd_ ?_
   exact h _ S.ext
  |true=>
   cases x2 with
   |true=>
    (intro K9 hK9;refine gd_ ?_;refine hK9 _ _ λ_=>?_;clear hK9 K9)
    (intro K9 hK9;refine gd_ ?_;refine hK9 _ _ λ_=>?_;clear hK9 K9)
    (intro K9 hK9;refine gd_ ?_;refine hK9 _ _ λ_=>?_;clear hK9 K9)
    (intro K9 hK9;refine gd_ ?_;refine hK9 _ _ λ_=>?_;clear hK9 K9)
    (intro K9 hK9;refine gd_ ?_;refine hK9 _ _ λ_=>?_;clear hK9 K9)
    refine gd_ ?_
    exact h _ S.ext
   |false=>
    (intro K9 hK9;refine gd_ ?_;refine hK9 _ _ λ_=>?_;clear hK9 K9)
    refine zn (λs w'=>s=[.bool (isK ta 2)]∧Ext w35 w') (λK9 hK9=>?_) ?_
    ·refine gd_ ?_
     exact yG S.holds λw36 e36=>hK9 _ _ ⟨rfl,e36⟩
    rintro _ w37 ⟨rfl,e37⟩ d37
    have S:=S.go e37
    generalize isK ta 2=x3 at h⊢
    cases x3 with
    |false=>
     (intro K9 hK9;refine gd_ ?_;refine hK9 _ _ λ_=>?_;clear hK9 K9)
     (intro K9 hK9;refine gd_ ?_;refine hK9 _ _ λ_=>?_;clear hK9 K9)
     (intro K9 hK9;refine gd_ ?_;refine hK9 _ _ λ_=>?_;clear hK9 K9)
     refine gd_ ?_
     exact h _ S.ext
    |true=>
     refine zn (λs w'=>s=[.bool (isK tb 2)]∧Ext w37 w') (λK9 hK9=>?_) ?_
     ·refine gd_ ?_
      exact yG S.holds λw36 e36=>hK9 _ _ ⟨rfl,e36⟩
     rintro _ w38 ⟨rfl,e38⟩ d38
     have S:=S.go e38
     generalize isK tb 2=x4 at h⊢
     (intro K9 hK9;refine gd_ ?_;refine hK9 _ _ λ_=>?_;clear hK9 K9)
     (intro K9 hK9;refine gd_ ?_;refine hK9 _ _ λ_=>?_;clear hK9 K9)
     refine gd_ ?_
     cases x4<;>exact h _ S.ext
 rw[if_neg ho]at h
 clear ho
 refine gg_ ?_
 refine zf (λho=>?_) (λho=>?_)
 ·rw[if_pos ho]at h
  refine S.mkMap λb70 w70 S=>?_
  refine S.mapAdd mpK (by intro m hm;cases hm) rfl λw71 S=>?_
  refine S.mapAdd mpK (by intro m hm;rcases List.mem_cons.1 hm with rfl|hm<;>first|exact ⟨_,rfl⟩|cases hm) (by decide) λw72 S=>?_
  refine gg_ ?_
  refine S.mapGet mpK mpZ (by
   intro m hm
   rcases List.mem_cons.1 hm with rfl|hm
   ·exact⟨_,rfl⟩
   rcases List.mem_cons.1 hm with rfl|hm<;>first|exact ⟨_,rfl⟩|cases hm) ?_
  obtain⟨ks,hks,hk2⟩:=akH p.sign (isK tt) (isK ta)
  rw[hks]
  refine S.ldB (b:=b3) ?_ rfl
  refine gp_ ?_
  refine ym (f:={ to:=true,a:=true,sign:=true }) S.holds hp0 λw31 e31=>?_
  have S:=S.go e31
  refine zi (c:=tok&&decide (tm<3)) (λ_ K2 hK2=>hK2) ?_
  refine zi (c:=aok) (λ_ K2 hK2=>hK2) ?_
  refine zi (c:=decide (ks≠0)) (λ_ K2 hK2=>?_) ?_
  ·refine gp_ ?_
   exact hK2
  refine zt (c:=isK tt ks) (λhb K2 hK2=>?_) λw32 e32=>?_
  ·refine gp_ ?_
   refine S.ldN (b:=b7) ?_
   exact yG S.holds λw33 e33=>hK2 _ e33
  have S:=S.go e32
  refine zt (c:=isK ta ks) (λhb K2 hK2=>?_) λw32 e32=>?_
  ·refine S.ldB (b:=b10) ?_ rfl
   exact yG S.holds λw33 e33=>hK2 _ e33
  have S:=S.go e32
  have:=h _ S.ext
  rw[← hk2]at this
  simpa only[Bool.and_assoc]using this
 rw[if_neg ho]at h
 clear ho
 refine gg_ ?_
 refine zf (λho=>?_) (λho=>?_)
 ·rw[if_pos ho]at h
  have S:=S.go (Ext.drew _)
  refine S.ldB (b:=b3) ?_ rfl
  refine gp_ ?_
  refine ym (f:={ to:=true,fr:=true,mu:=true }) S.holds hp0 λw31 e31=>?_
  have S:=S.go e31
  refine zi (c:=tok&&decide (tm<3)) (λ_ K2 hK2=>hK2) ?_
  refine zi (c:=fok) (λ_ K2 hK2=>?_) ?_
  ·refine gg_ ?_
   exact hK2
  refine zt (c:=isK tt 4) (λhb K2 hK2=>?_) λw32 e32=>?_
  ·refine gp_ ?_
   refine S.ldN (b:=b7) ?_
   exact yG S.holds λw33 e33=>hK2 _ e33
  have S:=S.go e32
  refine zi (c:=tt.m == p.mu) (λ_ K2 hK2=>?_) ?_
  ·refine gg_ ?_
   exact hK2
  refine zt (c:=zY yr (tt.of.headD yc) ft) (λhb K2 hK2=>?_) λw33 e33=>?_
  ·simp only[gba]at hb
   obtain⟨uu,hof⟩:=inside hb.1.1.1.2.1 (.inr (of_decide_eq_true hb.1.2))
   obtain⟨bo,oo,q2,cap2,rfl,ht2,hcc⟩:=Zu ht7 hof
   have hl1:tt.of.length=1:=by rw[hof];rfl
   rw[hof]at hK2
   refine gg_ ?_
   refine zp (n:=5) (c:=tyL uu q2 cap2) rfl (λj v hj=>by simpa using S.at (hcc j v hj)) ?_
   refine gp_ ?_
   refine S.ldN (b:=b8) ?_
   exact qM S.holds ht2 ht8 λw34 e34=>hK2 _ e34
  have S:=S.go e33
  have:=h _ S.ext
  rw[← Bool.and_assoc]at this
  generalize ((((((zG p { to:=true,fr:=true,mu:=true } && (tok&&decide (tm<3)))&&fok)&&isK tt 4)&&(tt.m == p.mu))&&zY yr (tt.of.headD yc) ft))=B at this⊢
  cases B with
  |false=>
   (intro K9 hK9;refine gd_ ?_;refine hK9 _ _ λ_=>?_;clear hK9 K9)
   (intro K9 hK9;refine gd_ ?_;refine hK9 _ _ λ_=>?_;clear hK9 K9)
   (intro K9 hK9;refine gd_ ?_;refine hK9 _ _ λ_=>?_;clear hK9 K9)
   refine gd_ ?_
   exact this
  |true=>
   refine zn (λs w'=>s=[.bool p.mu]∧w'=w33) (λK9 hK9=>?_) ?_
   ·refine gd_ ?_
    exact hK9 _ _ ⟨rfl,rfl⟩
   rintro _ w33 ⟨rfl,rfl⟩ d33
   generalize p.mu=mu at this⊢
   cases mu with
   |false=>
    (intro K9 hK9;refine gd_ ?_;refine hK9 _ _ λ_=>?_;clear hK9 K9)
    (intro K9 hK9;refine gd_ ?_;refine hK9 _ _ λ_=>?_;clear hK9 K9)
    refine gd_ ?_
    exact this
   |true=>
    refine zn (λs w'=>s=[.bool (decide (fm=3))]∧w'=w33) (λK9 hK9=>?_) ?_
    ·refine gd_ ?_
     exact hK9 _ _ ⟨rfl,rfl⟩
    rintro _ w33 ⟨rfl,rfl⟩ d33
    (intro K9 hK9;refine gd_ ?_;refine hK9 _ _ λ_=>?_;clear hK9 K9)
    refine gd_ ?_
    simpa using this
 rw[if_neg ho]at h
 clear ho
 refine gg_ ?_
 refine zf (λho=>?_) (λho=>?_)
 ·rw[if_pos ho]at h
  have S:=S.go (Ext.drew _)
  refine S.ldB (b:=b3) ?_ rfl
  refine gp_ ?_
  refine ym (f:={ to:=true,a:=true }) S.holds hp0 λw31 e31=>?_
  have S:=S.go e31
  refine zi (c:=tok&&decide (tm<3)) (λ_ K2 hK2=>hK2) ?_
  refine zi (c:=aok) (λ_ K2 hK2=>hK2) ?_
  refine zt (c:=isK tt 3) (λhb K2 hK2=>?_) λw32 e32=>?_
  ·refine gp_ ?_
   refine S.ldN (b:=b7) ?_
   exact yG S.holds λw33 e33=>hK2 _ e33
  have S:=S.go e32
  refine zt (c:=zY yr (tt.of.headD yc) ta) (λhb K2 hK2=>?_) λw33 e33=>h _ (S.go e33).ext
  simp only[gba]at hb
  obtain⟨uu,hof⟩:=inside hb.1.1.2.1 (.inl (of_decide_eq_true hb.2))
  obtain⟨bo,oo,q2,cap2,rfl,ht2,hcc⟩:=Zu ht7 hof
  have hl1:tt.of.length=1:=by rw[hof];rfl
  rw[hof]at hK2
  refine gg_ ?_
  refine zp (n:=5) (c:=tyL uu q2 cap2) rfl (λj v hj=>by simpa using S.at (hcc j v hj)) ?_
  refine S.ldB (b:=b10) ?_ rfl
  exact qM S.holds ht2 hta λw34 e34=>hK2 _ e34
 rw[if_neg ho]at h
 clear ho
 refine gg_ ?_
 refine zf (λho=>?_) (λho=>?_)
 ·rw[if_pos ho]at h
  refine S.ldB (b:=b3) ?_ rfl
  refine gp_ ?_
  refine ym (f:={ to:=true,args:=true,st:=true }) S.holds hp0 λw31 e31=>?_
  have S:=S.go e31
  refine gp_ ?_
  refine zj (c:=!(tok&&decide (tm<3))) (λ_ K2 hK2=>?_) ?_
  ·refine gp_ ?_
   exact hK2
  refine x8 (c:=!isK tt 5) (λ_ K2 hK2=>?_) λw32 e32=>?_
  ·refine gp_ ?_
   refine S.ldN (b:=b7) ?_
   refine yG S.holds λw33 e33=>?_
   refine gp_ ?_
   exact hK2 _ e33
  have S:=S.go e32
  refine zj (c:=decide (tt.st≠p.st)) (λ_ K2 hK2=>?_) ?_
  ·refine gg_ ?_
   exact hK2
  refine c_b (λhc=>?_) (λhc=>?_)
  ·rw[bb3 hc,Bool.false_and]at h
   exact h _ S.ext
  rw[amk hc,Bool.true_and]at h
  refine gg_ ?_
  refine S.ldN (b:=b7) ?_
  refine aeb S.holds hst ht7 λq9 cp9 top gs w35 e35 n35 hfd hcp=>?_
  have S:=S.new e35 n35
  refine gp_ ?_
  refine gp_ ?_
  refine aeW (r:=((r.or (top.or (un gs 0 (yy u.ss tt).1.length))).or (Go.Sh.one b2 _ _)).or (Go.Sh.one b3 _ _)) ((S.holdW b2).or (qe (S.blk b3))) (yH (b:=b2)).up (yH (b:=b3)).up hx0.up rfl hf hp0.up (akD hfd).up λw44 e44=>?_
  exact h _ (S.go e44).ext
 rw[if_neg ho]at h
 clear ho
 refine gg_ ?_
 refine zf (λho=>?_) (λho=>?_)
 ·rw[if_pos ho]at h
  refine S.ldB (b:=b3) ?_ rfl
  refine gp_ ?_
  refine ym (f:={ to:=true,args:=true,fn:=true }) S.holds hp0 λw31 e31=>?_
  have S:=S.go e31
  refine gp_ ?_
  refine zj (c:=!(tok&&decide (tm<3))) (λ_ K2 hK2=>?_) ?_
  ·refine gp_ ?_
   exact hK2
  refine zj (c:=decide (p.fn<0)) (λ_ K2 hK2=>?_) ?_
  ·refine gg_ ?_
   exact hK2
  refine zj (c:=decide ((u.fs.length:Int)≤p.fn)) (λ_ K2 hK2=>?_) ?_
  ·refine gg_ ?_
   exact hK2
  refine c_b (λhc=>?_) (λhc=>?_)
  ·rw[bb5 hc,Bool.false_and]at h
   exact h _ S.ext
  rw[aml hc,Bool.true_and]at h
  have hfl:0≤p.fn∧p.fn<u.fs.length:=by
   simp only[Bool.or_eq_false_iff,decide_eq_false_iff_not]at hc;omega
  have hfi:p.fn.toNat<u.fs.length:=by omega
  rw[gqg hfi]at h
  obtain⟨bg,og,cg,rfl,hcg,hgg,hgc⟩:=hfn.sl.get (by decide) hfi
  have hfp:=hfs _ (gem hfi)
  generalize u.fs[p.fn.toNat]=fd at h hgg hfp
  obtain⟨vo2,vt2,vn2,vp2,rfl,hg1,hg2,hg3,hg4⟩:=hgg
  obtain⟨qo2,co2,rfl,_,_⟩:=hg1.sl.shape
  obtain⟨qt2,ct2,rfl,_,hct2⟩:=hg2.sl.shape
  obtain⟨qn2,cn2,rfl,_,_⟩:=hg3.sl.shape
  obtain⟨qp2,cp2,rfl,_,_⟩:=hg4.sl.shape
  refine gg_ ?_
  refine zp (n:=7) hcg (λj v hj=>S.at (hgc j v hj)) ?_
  refine S.al λb20 w50 S=>?_
  refine S.stB (b:=b20) λw51 S=>?_
  have S:=S.go (Ext.drew _)
  have htl:=Z0 hg2.sl
  have htl9:fd.tys.length≤9223372036854775807:=hg2.few
  obtain⟨bt2,ot2,cc2,rfl,hcc2,hcl2,hct3⟩:=htl 0 (by omega)
  obtain⟨q4,cap4,rfl,ht4⟩:=yJ hct3
  have hhd:fd.tys.headD yc=fd.tys[0]'(by omega):=by
   rw[List.headD_eq_head?_getD,List.head?_eq_getElem?,gqg (by omega),Option.getD_some]
  dsimp only at h
  rw[hhd]at h
  refine gp_ ?_
  refine S.ldN (b:=b7) ?_
  refine gg_ ?_
  refine zp (n:=5) hcc2 (λj v hj=>by simpa using S.at (hcl2 j v hj)) ?_
  refine qM S.holds ht7 ht4 λw52 e52=>?_
  have S:=S.go e52
  refine zt (c:=xg u.ss g.tys p.args ((fd.tys.drop 1).take fd.pn.toNat)) (λ_ K2 hK2=>?_) λw53 e53=>h _ (S.go e53).ext
  refine gg_ ?_
  have hl9:(fd.pn+1).toNat-(1:Int).toNat=((fd.tys.drop 1).take fd.pn.toNat).length:=by
   rw[List.length_take,List.length_drop];omega
  rw[hl9]
  refine aeW (r:=(r.or (Go.Sh.one b2 _ _)).or (Go.Sh.one b3 _ _)) ((S.holdW b2).or (qe (S.blk b3))) (yH (b:=b2)).up (yH (b:=b3)).up hx0.up rfl hf hp0.up (htl.sub (a:=(1:Int).toNat) (n:=fd.pn.toNat) hct2).up λw44 e44=>?_
  exact hK2 _ e44
 rw[if_neg ho]at h
 clear ho
 refine gg_ ?_
 refine zf (λho=>?_) (λho=>?_)
 ·rw[if_pos ho]at h
  refine S.ldB (b:=b3) ?_ rfl
  refine gp_ ?_
  refine ym (f:={ to:=true }) S.holds hp0 λw31 e31=>?_
  have S:=S.go e31
  refine zi (c:=tok&&decide (tm<3)) (λ_ K2 hK2=>hK2) ?_
  refine zt (c:=isK tt 1) (λhb K2 hK2=>?_) λw32 e32=>?_
  ·refine gp_ ?_
   refine S.ldN (b:=b7) ?_
   exact yG S.holds λw33 e33=>hK2 _ e33
  have S:=S.go e32
  exact h _ S.ext
 rw[if_neg ho]at h
 clear ho
 refine gg_ ?_
 refine zf (λho=>?_) (λho=>?_)
 ·rw[if_pos ho]at h
  refine S.ldB (b:=b3) ?_ rfl
  refine gp_ ?_
  refine ym (f:={ a:=true }) S.holds hp0 λw31 e31=>?_
  have S:=S.go e31
  refine zi (c:=aok) (λ_ K2 hK2=>hK2) ?_
  refine zt (c:=isK ta 1) (λhb K2 hK2=>?_) λw32 e32=>?_
  ·refine S.ldB (b:=b10) ?_ rfl
   exact yG S.holds λw33 e33=>hK2 _ e33
  have S:=S.go e32
  exact h _ S.ext
 rw[if_neg ho]at h
 clear ho
 refine gg_ ?_
 refine zf (λho=>?_) (λho=>?_)
 ·rw[if_pos ho]at h
  refine gg_ ?_
  refine S.ldN (b:=b8) ?_
  refine afo S.holds hst ht8 λw35 e35=>?_
  have S:=S.go e35
  refine gp_ ?_
  refine gp_ ?_
  refine S.ldB (b:=b3) ?_ rfl
  refine gp_ ?_
  refine ym (f:={ fr:=true }) S.holds hp0 λw31 e31=>?_
  have S:=S.go e31
  refine zi (c:=fok) (λ_ K2 hK2=>?_) ?_
  ·refine gg_ ?_
   exact hK2
  refine zi (c:=(qN u.ss ft).1) (λ_ K2 hK2=>hK2) ?_
  refine zi (c:=decide (fm<2)) (λ_ K2 hK2=>?_) (h _ S.ext)
  refine gg_ ?_
  exact hK2
 rw[if_neg ho]at h
 clear ho
 refine gg_ ?_
 refine zf (λho=>?_) (λho=>?_)
 ·rw[if_pos ho]at h
  refine S.ldB (b:=b3) ?_ rfl
  refine gp_ ?_
  refine ym (f:={ fr:=true }) S.holds hp0 λw31 e31=>?_
  have S:=S.go e31
  refine zi (c:=fok) (λ_ K2 hK2=>?_) ?_
  ·refine gg_ ?_
   exact hK2
  refine zi (c:=decide (0<p.fr.l)) (λ_ K2 hK2=>?_) ?_
  ·refine gg_ ?_
   exact hK2
  refine zi (c:=decide (p.fr.ps.length=0)) (λ_ K2 hK2=>?_) (h _ S.ext)
  refine gg_ ?_
  rw[QP]
  exact hK2
 rw[if_neg ho]at h
 clear ho
 refine gg_ ?_
 refine zf (λho=>?_) (λho=>?_)
 ·rw[if_pos ho]at h
  refine S.ldB (b:=b3) ?_ rfl
  refine gp_ ?_
  refine ym (f:={ a:=true,el:=true }) S.holds hp0 λw31 e31=>?_
  have S:=S.go e31
  refine zi (c:=aok) (λ_ K2 hK2=>hK2) ?_
  refine zt (c:=isK ta 2) (λhb K2 hK2=>?_) λw32 e32=>?_
  ·refine S.ldB (b:=b10) ?_ rfl
   exact yG S.holds λw33 e33=>hK2 _ e33
  have S:=S.go e32
  refine zi (c:=QN g p.el) (λ_ K2 hK2=>?_) (h _ S.ext)
  refine gg_ ?_
  exact aeV (b:=b5) S hK2
 rw[if_neg ho]at h
 clear ho
 refine gg_ ?_
 refine zn (λs w'=>s=[.bool (decide (p.op=13∨p.op=14))]∧Ext w39 w') (λK9 hK9=>?_) ?_
 ·have hk:=hK9 _ _ ⟨rfl,Ext.refl _⟩
  rw[Bool.decide_or]at hk
  refine gp_ ?_
  refine qu hk λ_ hk=>?_
  refine gp_ ?_
  exact hk
 rintro _ w41 ⟨rfl,e41⟩ d41
 have S:=S.go e41
 rw[gdz]
 refine zf (λho=>?_) (λho=>?_)
 ·rw[if_pos ho]at h
  refine S.ldB (b:=b3) ?_ rfl
  refine gp_ ?_
  refine ym (f:={}) S.holds hp0 λw31 e31=>h _ (S.go e31).ext
 ·rw[if_neg ho]at h
  exact h _ S.ext
theorem j0{u:UnD}:∀{l:List GrD}{i:Nat},jX u i l=none↔∀(j:Nat)(h:j<l.length),xh u (i+j) l[j]=true
 |[],i=>⟨λ_ j h=>absurd h (Nat.not_lt_zero _),λ_=>rfl⟩
 |g::l,i=>by
  rw[jX]
  constructor
  ·intro h j hj
   split at h
   ·rename_i hg
    cases j with
    |zero=>exact hg
    |succ j=>
     have:=(j0 (l:=l) (i:=i+1)).1 h j (by simpa using hj)
     rw[List.getElem_cons_succ,show i+(j+1)=i+1+j by omega];exact this
   ·cases h
  ·intro h
   rw[if_pos (show xh u i g=true from h 0 (Nat.zero_lt_succ _))]
   refine(j0 (l:=l) (i:=i+1)).2 λj hj=>?_
   have:=h (j+1) (by simpa using hj)
   rwa[List.getElem_cons_succ,show i+(j+1)=i+1+j by omega]at this
theorem Xc{u:UnD}{g:GrD}:∀{l:List PtD}{q:Nat},Xb u g q l=none↔∀p∈l,yw u g p=true
 |[],q=>⟨λ_ p h=>(by cases h),λ_=>rfl⟩
 |x::l,q=>by
  rw[Xb]
  constructor
  ·intro h p hp
   split at h
   ·rename_i hx
    rcases List.mem_cons.1 hp with rfl|hp
    ·exact hx
    ·exact(Xc (l:=l) (q:=q+1)).1 h p hp
   ·cases h
  ·intro h
   rw[if_pos (h x List.mem_cons_self)]
   exact(Xc (l:=l) (q:=q+1)).2 λp hp=>h p (List.mem_cons_of_mem _ hp)
theorem Ql{u:UnD}:∀{l:List GrD}{i:Nat},XK u i l=none↔∀g∈l,∀p∈g.pts,yw u g p=true
 |[],i=>⟨λ_ g h=>(by cases h),λ_=>rfl⟩
 |x::l,i=>by
  rw[XK]
  constructor
  ·intro h g hg
   split at h
   ·cases h
   ·rename_i hx
    rcases List.mem_cons.1 hg with rfl|hg
    ·exact Xc.1 hx
    ·exact(Ql (l:=l) (i:=i+1)).1 h g hg
  ·intro h
   rw[Xc.2 (h x List.mem_cons_self)]
   exact(Ql (l:=l) (i:=i+1)).2 λg hg=>h g (List.mem_cons_of_mem _ hg)
structure MayU(u:UnD):Prop where
 ok:(zw u.ss).2=0
 fs1:1≤u.fs.length
 fs32:u.fs.length≤32
 mn0:0≤u.mn
 mn1:u.mn<u.fs.length
 head:∀(i:Nat)(h:i<u.fs.length),xh u i u.fs[i]=true
 pts:∀g∈u.fs,∀p∈g.pts,yw u g p=true
theorem ajD(h:MayU u):jY u=(0,0,0):=by
 have h1:=h.fs1;have h2:=h.fs32;have h3:=h.mn0;have h4:=h.mn1
 unfold jY
 rw[if_neg (by rw[h.ok,decide_eq_false (show¬u.fs.length<1 by omega),decide_eq_false (show¬32<u.fs.length by omega),decide_eq_false (show¬u.mn<0 by omega),decide_eq_false (show¬(u.fs.length:Int)≤u.mn by omega)];decide),
  j0.2 (λj hj=>by rw[Nat.zero_add];exact h.head j hj)]
 dsimp only
 rw[Ql.2 h.pts]
theorem ajE(h:(jY u).2.2=0):MayU u:=by
 unfold jY at h
 split at h
 ·cases h
 ·rename_i h1
  split at h
  ·cases h
  ·rename_i h2
   split at h
   ·cases h
   ·rename_i h3
    simp only[Bool.or_eq_true,Bool.not_eq_true',decide_eq_false_iff_not,gdt,not_or]at h1
    obtain⟨⟨h4,h5,h6⟩,h7,h8⟩:=h1
    exact⟨by omega,by omega,by omega,by omega,by omega,λi hi=>by have:=j0.1 h2 i hi;rwa[Nat.zero_add]at this,Ql.1 h3⟩
theorem acj:QO u=true↔MayU u:=by
 rw[QO,gdt]
 exact⟨ajE,λh=>by rw[ajD h]⟩
structure HeadU(u:UnD)(fn:Nat)(g:GrD):Prop where
 lv0:0≤g.lv
 lv8:g.lv≤8
 pn0:0≤g.pn
 pn8:g.pn≤8
 pn1:g.pn<g.tys.length
 ty512:g.tys.length≤512
 nms:g.nms.length=g.tys.length
 tys:jT u g 0 g.tys=true
 pt1:1≤g.pts.length
 pt1024:g.pts.length≤1024
 outs:jH g=true
 loans:yF g.pts≤256
 main:(fn:Int)=u.mn→g.lv=0∧g.pn=0∧(g.tys.headD yc).k=1
theorem adi{fn:Nat}(h:xh u fn g=true):HeadU u fn g:=by
 simp only[xh,gba,Bool.or_eq_true,Bool.not_eq_true',gdt,decide_eq_false_iff_not,isK]at h
 obtain⟨⟨⟨⟨⟨⟨⟨h1,h2⟩,h3,h4⟩,h5,h6⟩,h7⟩,h8⟩,⟨h9,h10⟩,h11⟩,h12,h13⟩:=h
 exact⟨h1,h2,h3,h4,by omega,h6,h7,h8,h9,h10,h11,h12,λe=>by rcases h13 with h|⟨⟨h,h'⟩,h2⟩
                                                           ·exact absurd e h
                                                           ·exact⟨h,h',h2⟩⟩
theorem HeadU.fine{fn:Nat}(h:HeadU u fn g)(ok:(zw u.ss).2=0):yQ u.ss g.tys:=by
 obtain⟨h1,h2,h3,h4,_⟩:=xT ok
 exact⟨h1,h3,h4,λt ht=>(Ys (agG h.tys t ht)).2⟩
theorem MayU.hd(h:MayU u){i:Nat}(hi:i<u.fs.length):HeadU u i u.fs[i]:=adi (h.head i hi)
end
end Go.Proofs
namespace Go.Sh
theorem akI{w:World}{A2:(List Value→World→Prop)→Prop}{A3 A4 A5:(List Value→World→Prop)→World→Prop}{Z:Value→World→Prop}{b1 b2 b3 b4 b5:Bool}
  (h2:∀K:List Value→World→Prop,K [.bool b2] w→A2 K) (h3:∀K:List Value→World→Prop,K [.bool b3] w→A3 K w) (h4:∀K:List Value→World→Prop,K [.bool b4] w→A4 K w) (h5:∀K:List Value→World→Prop,K [.bool b5] w→A5 K w)
  (hZ:Z (.bool (b1&&(b2||((b3&&b4)&&b5)))) w):
  za (λK=>gIf (.bool b1) true (A2 K) (K [u_] w)) λs64 _ w66=>
   za (λK=>gIf (s64.getD 0 u_) false (A3 K w66) (K [u_] w66)) λs68 _ w70=>
    za (λK=>gIf (s68.getD 0 u_) true (A4 K w70) (K [u_] w70)) λs72 _ w74=>
     za (λK=>gIf (s64.getD 0 u_) false (zb (s68.getD 0 u_) (s72.getD 0 u_) (.bool false) λt=>K [t] w74) (K [u_] w74)) λs76 _ w78=>
      za (λK=>gIf (s76.getD 0 u_) true (A5 K w78) (K [u_] w78)) λs80 _ w82=>
       za (λK=>gIf (s64.getD 0 u_) false (zb (s76.getD 0 u_) (s80.getD 0 u_) (.bool false) λt=>K [t] w82) (K [u_] w82)) λs84 _ w86=>
        za (λK=>gIf (.bool b1) true (zb (s64.getD 0 u_) (.bool true) (s84.getD 0 u_) λt=>K [t] w86) (K [u_] w86)) λs88 _ w90=>
         zb (.bool b1) (s88.getD 0 u_) (.bool false) λt=>Z t w90:=by
 cases b1<;>cases b2<;>cases b3<;>cases b4 <;>
  (iterate 7 (intro K hK;first|refine hK _ _ λ_=>?_|refine h2 _ (hK _ _ λ_=>?_)|refine h3 _ (hK _ _ λ_=>?_)|refine h4 _ (hK _ _ λ_=>?_)|refine h5 _ (hK _ _ λ_=>?_)|refine ⟨_,rfl,hK _ _ λ_=>?_⟩)) <;>
  exact⟨_,rfl,by simpa using hZ⟩
end Go.Sh
namespace Go.Proofs
open Go.Sh
theorem adj{a b:Nat}:decide ((a:Int)≠(b:Int))=decide (a≠b):=decide_eq_decide.2 (by omega)
theorem ah1{u:UnD}{g:GrD}{i:Nat}{t:TyD}:tyG u g i t=(zP u.ss t && !((regsT t).any λr=>decide (r<(if(i:Int)≤g.pn then 0 else -1))||decide (g.lv≤r))):=by
 rw[tyG,List.not_any_eq_all_not]
theorem agJ{u:UnD}{i:Nat}{v:Value}{w:World}{r:Gh}{K:Value→World→Prop}(hi:i<u.fs.length)(hr:Holds r w)(hu:UnG r v u)
  (h:∀w',Ext w w'→K (.bool (xh u i u.fs[i])) w'):zd Tryz.prog Tryz.Xo #[v,.int .i64 i] w K:=by
 obtain⟨p0,cap0,vf,rfl,_,_,hst,hsl,hfn⟩:=hu
 obtain⟨qf,capf,rfl,_,_⟩:=hfn.sl.shape
 obtain⟨bf,of,cf,rfl,hcf,hgc,hfo⟩:=hfn.sl.get (by decide) hi
 refine Tryz.afh ?_
 unfold Tryz.VP
 generalize hgi:u.fs[i]=g at h hgc
 obtain⟨vo,vt,vn,vp,rfl,h1,h2,h3,h4⟩:=id hgc
 obtain⟨qo,capo,rfl,_,_⟩:=h1.sl.shape
 obtain⟨qt,capt,rfl,_,hct⟩:=h2.sl.shape
 obtain⟨qn,capn,rfl,_,_⟩:=h3.sl.shape
 obtain⟨qp,capp,rfl,_,_⟩:=h4.sl.shape
 have hptl:g.pts.length≤9223372036854775807:=h4.few
 have htl:g.tys.length≤9223372036854775807:=h2.few
 have S:=St.start hr
 refine S.box λb2 w1 S=>?_
 refine gG_ ?_
 refine zp (n:=7) hcf (λj v hj=>by rw[tnc];exact S.at (hfo j v hj)) ?_
 refine S.al λb5 w2 S=>?_
 refine S.stB (b:=b5) λw3 S=>?_
 refine gG_ ?_
 have no:(HeadU u i g→False)→xh u i g=false:=λhh=>by
  cases e:xh u i g
  ·rfl
  ·exact(hh (adi e)).elim
 refine zj (c:=decide (8<g.lv)) (λ_ K2 hK2=>?_) ?_
 ·refine gG_ ?_
  exact hK2
 refine zj (c:=decide (g.pn<0)) (λ_ K2 hK2=>?_) ?_
 ·refine gG_ ?_
  exact hK2
 refine zj (c:=decide (8<g.pn)) (λ_ K2 hK2=>?_) ?_
 ·refine gG_ ?_
  exact hK2
 refine zj (c:=decide ((g.tys.length:Int)≤g.pn)) (λ_ K2 hK2=>?_) ?_
 ·refine gG_ ?_
  exact hK2
 refine zj (c:=decide (512<g.tys.length)) (λ_ K2 hK2=>?_) ?_
 ·refine gG_ ?_
  rw[show decide ((512:Int)<(g.tys.length:Int))=decide (512<g.tys.length)from decide_eq_decide.2 (by omega)]
  exact hK2
 refine zj (c:=decide (g.nms.length≠g.tys.length)) (λ_ K2 hK2=>?_) ?_
 ·refine gG_ ?_
  rw[adj]
  exact hK2
 refine c_b (λhbad=>?_) (λhgood=>?_)
 ·rw[no λH=>by
   have:=H.lv0;have:=H.lv8;have:=H.pn0;have:=H.pn8;have:=H.pn1;have:=H.ty512;have:=H.nms
   simp only[Bool.or_eq_true,gdt]at hbad;omega]at h
  exact h _ S.ext
 have hnum:(0≤g.lv∧g.lv≤8∧0≤g.pn∧g.pn≤8)∧g.pn<g.tys.length∧g.tys.length≤512∧g.nms.length=g.tys.length:=by
  simp only[Bool.or_eq_false_iff,decide_eq_false_iff_not]at hgood;omega
 clear hgood
 obtain⟨⟨hlv0,hlv8,hpn0,hpn8⟩,hpn1,hty,hnm⟩:=hnum
 refine gG_ ?_
 refine zh (ι:=Nat) (λi=>[.int .i64 (i:Nat)]) (λj w'=>j≤g.tys.length∧jT u g j (g.tys.drop j)=jT u g 0 g.tys∧StX noX w r w' _) (λi=>g.tys.length-i) 0 rfl ⟨gzl _,rfl,S⟩ ?_
 clear S
 rintro j d w5 ⟨hj,hd,S⟩ K6 hK6
 rw[gdz]
 refine gP_ ?_
 refine zf (λhlt=>?_) (λhge=>?_)
 ·have hlt:j<g.tys.length:=by omega
  obtain⟨bt,ot,ct,rfl,hct,htc,hcell⟩:=h2.sl.get (by decide) hlt
  obtain⟨q2,cap2,rfl,ht2⟩:=yJ htc
  rw[ae3 hlt]at hd
  refine gP_ ?_
  refine zp (n:=5) hct (λj v hj=>by rw[tnc];exact S.at (hcell j v hj)) ?_
  refine S.al λb7 w6 S=>?_
  refine S.stB (b:=b7) λw7 S=>?_
  refine gG_ ?_
  refine Yi S.holds hst ht2 λw8 e8=>?_
  have S:=S.go e8
  refine gP_ ?_
  refine c_b (λhm=>?_) (λhm=>?_)
  ·have hm:zP u.ss g.tys[j]=false:=by simpa using hm
   rw[no λH=>by
    have:=H.tys
    rw[← hd,tyG,hm,Bool.false_and,Bool.false_and]at this;cases this]at h
   exact h _ S.ext
  have hm:zP u.ss g.tys[j]=true:=by simpa using hm
  refine S.al λb8 w9 S=>?_
  refine S.st (b:=b8) λw10 S=>?_
  refine zn (λ_ w'=>StX noX w r w' [.cell b8 [.int .i64 (if(j:Int)≤g.pn then 0 else -1)] 3,.cell b7 (tyL g.tys[j] q2 cap2) 112,.cell b5 [.string g.name,.int .i64 g.lv,.slice qo g.outs.length capo,.int .i64 g.pn,.slice (some ⟨bt,ot,none⟩) g.tys.length capt,.slice qn g.nms.length capn,.slice qp g.pts.length capp] 74,
   .cell b2 [.slice p0 u.ss.length cap0,.slice (some ⟨bf,of,none⟩) u.fs.length capf,.int .i64 u.mn] 25]) (λK3 hK3=>?_) ?_
  ·refine gG_ ?_
   refine zf (λhle=>?_) (λhgt=>?_)
   ·refine S.st (b:=b8) λw11 S=>?_
    refine hK3 [] _ ?_
    rw[if_pos hle];exact S
   ·refine hK3 [] _ ?_
    rw[if_neg hgt];exact S
  clear S
  rintro _ w11 S d11
  refine S.ldB (b:=b7) ?_ rfl
  refine Qi S.holds ht2 λv7 w12 e12 o12=>?_
  have S:=S.go e12
  obtain⟨p7,cap7,rfl,_,_,_,hs7⟩:=VO o12
  refine gP_ ?_
  have hr48:(regsT g.tys[j]).length≤1000:=by
   rw[regsT];split
   ·have:=Qk (by assumption);omega
   ·simp
  refine VC (f:=λx=>decide (x<(if(j:Int)≤g.pn then 0 else -1))||decide (g.lv≤x)) (λx K hK=>?_) hs7 (by omega) ?_
  ·refine af4 (by kernel_rfl) ?_
   refine Tryz.acT ?_
   unfold Tryz.Q4
   refine S.ld (b:=b8) ?_ rfl
   refine gP_ ?_
   refine zj (c:=decide (g.lv≤x)) (λ_ K2 hK2=>?_) hK
   refine gG_ ?_
   exact hK2
  have hty:tyG u g j g.tys[j] = !((regsT g.tys[j]).any λx=>decide (x<(if(j:Int)≤g.pn then 0 else -1))||decide (g.lv≤x)):=by
   rw[ah1,hm,Bool.true_and]
  refine c_b (λhx=>?_) (λhx=>?_)
  ·rw[hty,hx,Bool.not_true,Bool.false_and]at hd
   rw[no λH=>by have:=H.tys;rw[← hd]at this;cases this]at h
   exact h _ S.ext
  ·rw[hty,hx,Bool.not_false,Bool.true_and]at hd
   refine gP_ ?_
   rw[show ((j:Int)+1)=((j+1:Nat):Int)by omega]
   exact hK6 (j+1) _ ⟨hlt,hd,(S.drop b8).drop b7⟩ (by omega)
 have hje:j=g.tys.length:=by omega
 rw[hje,List.drop_length]at hd
 have htys:jT u g 0 g.tys=true:=hd.symm
 clear hd hK6 K6 hge hj hje
 refine gG_ ?_
 refine zj (c:=decide (1024<g.pts.length)) (λ_ K2 hK2=>?_) ?_
 ·refine gG_ ?_
  rw[show decide ((1024:Int)<(g.pts.length:Int))=decide (1024<g.pts.length)from decide_eq_decide.2 (by omega)]
  exact hK2
 refine x8 (c:=!jH g) (λ_ K2 hK2=>?_) λw20 e20=>?_
 ·refine S.ldB (b:=b5) ?_ rfl
  refine ach S.holds hgc hlv0 hlv8 hpn0 hpn1 (λt ht x hx=>?_) λw21 e21=>?_
  ·obtain⟨k,hk,rfl⟩:=List.getElem_of_mem ht
   rw[List.length_take]at hk
   rw[List.getElem_take]at hx
   have:=acf htys (j:=k) (by omega) (by omega) x hx
   omega
  refine gP_ ?_
  exact hK2 _ e21
 have S:=S.go e20
 refine c_b (λhbad=>?_) (λhgood=>?_)
 ·rw[no λH=>by
   have:=H.pt1;have:=H.pt1024;have h3:=H.outs
   rw[h3]at hbad
   simp only[Bool.or_eq_true,gdt,Bool.not_true,Bool.false_eq_true,or_false]at hbad;omega]at h
  exact h _ S.ext
 have hnum:(1≤g.pts.length∧g.pts.length≤1024)∧jH g=true:=by
  cases ho:jH g
  ·rw[ho]at hgood;simp at hgood
  ·simp only[Bool.or_eq_false_iff,decide_eq_false_iff_not]at hgood
   exact⟨by omega,rfl⟩
 clear hgood
 obtain⟨⟨hp1,hp1024⟩,hout⟩:=hnum
 refine gG_ ?_
 refine zh (ι:=Nat) (λi=>[.int .i64 (yF (g.pts.take i):Nat),.int .i64 (i:Nat)]) (λj w'=>j≤g.pts.length∧yF (g.pts.take j)≤j∧StX noX w r w' _) (λi=>g.pts.length-i) 0 rfl ⟨gzl _,Nat.le_refl _,S⟩ ?_
 clear S
 rintro j d w22 ⟨hj,hlj,S⟩ K7 hK7
 simp only[gdz,gds]
 refine gP_ ?_
 refine zf (λhlt=>?_) (λhge=>?_)
 ·have hlt:j<g.pts.length:=by omega
  obtain⟨bp,op,cp,rfl,hcp,hpc,hcell⟩:=h4.sl.get (by decide) hlt
  refine zn (λs w'=>s=[.int .i64 (yF (g.pts.take (j+1)):Nat)]∧StX noX w r w' [.cell b5 [.string g.name,.int .i64 g.lv,.slice qo g.outs.length capo,.int .i64 g.pn,.slice qt g.tys.length capt,.slice qn g.nms.length capn,.slice (some ⟨bp,op,none⟩) g.pts.length capp] 74,
   .cell b2 [.slice p0 u.ss.length cap0,.slice (some ⟨bf,of,none⟩) u.fs.length capf,.int .i64 u.mn] 25]) (λK3 hK3=>?_) ?_
  ·refine gP_ ?_
   refine zp (n:=21) hcp (λj v hj=>by rw[tnc];exact S.at (hcell j v hj)) ?_
   obtain⟨vto,va,vb,vl,vfr,rfl,k1,k2,k3,k4,k5⟩:=hpc
   obtain⟨_,_,rfl,_⟩:=k1.sl.shape
   obtain⟨_,_,rfl,_⟩:=k2.sl.shape
   obtain⟨_,_,rfl,_⟩:=k3.sl.shape
   obtain⟨_,_,rfl,_⟩:=k4.sl.shape
   obtain⟨_,_,rfl,_⟩:=k5.sl.shape
   refine S.al λb11 w23 S=>?_
   refine S.stB (b:=b11) λw24 S=>?_
   refine gG_ ?_
   have hlo:=JP hlt
   refine zf (λho=>?_) (λho=>?_)
   ·rw[if_pos ho]at hlo
    refine gP_ ?_
    rw[show ((yF (g.pts.take j):Nat):Int)+1=((yF (g.pts.take (j+1)):Nat):Int)by omega]
    exact hK3 _ _ ⟨rfl,S.drop b11⟩
   ·rw[if_neg ho]at hlo
    rw[show ((yF (g.pts.take j):Nat):Int)=((yF (g.pts.take (j+1)):Nat):Int)by omega]
    exact hK3 _ _ ⟨rfl,S.drop b11⟩
  clear S
  rintro _ w25 ⟨rfl,S⟩ d25
  rw[gdz]
  refine gP_ ?_
  rw[show ((j:Int)+1)=((j+1:Nat):Int)by omega]
  refine hK7 (j+1) _ ⟨hlt,?_,S⟩ (by omega)
  rw[JP hlt];split<;>omega
 have hje:j=g.pts.length:=by omega
 rw[hje,List.take_length]
 refine gP_ ?_
 have hfin:xh u i g=(decide (yF g.pts≤256)&&(decide ((i:Int)≠u.mn)||((decide (g.lv=0)&&decide (g.pn=0))&&isK (g.tys.headD yc) 1))):=by
  rw[xh,htys,hout,gde hlv0,gde hlv8,gde hpn0,gde hpn8,gde hpn1,gde hty,gde hnm,gde hp1,gde hp1024,decide_not];rfl
 rw[hfin]at h
 rw[show decide ((yF g.pts:Int)≤256)=decide (yF g.pts≤256)from decide_eq_decide.2 (by omega)]
 refine akI (b2:=decide ((i:Int)≠u.mn)) (b3:=decide (g.lv=0)) (b4:=decide (g.pn=0)) (b5:=isK (g.tys.headD yc) 1) (λK2 hK2=>?_) (λK2 hK2=>?_) (λK2 hK2=>?_) (λK2 hK2=>?_) (h _ S.ext)
 ·refine gG_ ?_
  exact hK2
 ·refine gG_ ?_
  exact hK2
 ·refine gG_ ?_
  exact hK2
 ·have hpos:0<g.tys.length:=by omega
  obtain⟨bt,ot,ct,rfl,hct,htc,hcell⟩:=h2.sl.get (by decide) hpos
  obtain⟨q2,cap2,rfl,ht2⟩:=yJ htc
  refine gG_ ?_
  refine zg (v:=.int .u8 g.tys[0].k) (by simpa using S.at (hcell 0 _ rfl)) ?_
  refine gG_ ?_
  have he:g.tys.headD yc=g.tys[0]:=by
   rw[List.headD_eq_head?_getD,List.head?_eq_getElem?,gqg hpos,Option.getD_some]
  rw[he]at hK2
  exact hK2
theorem ajF{u:UnD}{i:Nat}{l:List GrD}(hi:i<l.length):jX u i (l.drop i)=if xh u i l[i]then jX u (i+1) (l.drop (i+1))else some i:=by
 rw[List.drop_eq_getElem_cons hi];rfl
theorem akJ{u:UnD}{g:GrD}{q:Nat}{l:List PtD}(hq:q<l.length):Xb u g q (l.drop q)=if yw u g l[q]then Xb u g (q+1) (l.drop (q+1))else some q:=by
 rw[List.drop_eq_getElem_cons hq];rfl
theorem alz{u:UnD}{i:Nat}{l:List GrD}(hi:i<l.length):XK u i (l.drop i)=match Xb u l[i] 0 l[i].pts with|some q=>some (i,q)|none=>XK u (i+1) (l.drop (i+1)):=by
 rw[List.drop_eq_getElem_cons hi];rfl
noncomputable def adk(u:UnD):Int×Int×Int:=match jX u 0 u.fs with
  |some i=>(i,-1,100)
  |none=>match XK u 0 u.fs with
   |some (i,q)=>(i,q,100)
   |none=>(0,0,0)
theorem afv{u:UnD}{v:Value}{w:World}{r:Gh}{K:Value→World→Prop}(hr:Holds r w)(hu:UnG r v u)
  (h:∀w',Ext w w'→K (.tuple #[.int .i64 (jY u).1,.int .i64 (jY u).2.1,.int .i64 (jY u).2.2]) w'):zd Tryz.prog Tryz.YF #[v] w K:=by
 have hu0:=hu
 obtain⟨p0,cap0,vf,rfl,_,_,hst,hsl,hfn⟩:=hu
 obtain⟨qf,capf,rfl,_,_⟩:=hfn.sl.shape
 have hfl:u.fs.length≤9223372036854775807:=hfn.few
 refine Tryz.ad2 ?_
 unfold Tryz.Vf
 have S:=St.start hr
 refine S.box λb1 w1 S=>?_
 refine gG_ ?_
 refine Zs S.holds hst λw2 e2=>?_
 have S:=S.go e2
 refine gS_ ?_
 refine zj (c:=decide (u.fs.length<1)) (λ_ K2 hK2=>?_) ?_
 ·refine gG_ ?_
  rw[show decide ((u.fs.length:Int)<1)=decide (u.fs.length<1)from decide_eq_decide.2 (by omega)]
  exact hK2
 refine zj (c:=decide (32<u.fs.length)) (λ_ K2 hK2=>?_) ?_
 ·refine gG_ ?_
  rw[show decide ((32:Int)<(u.fs.length:Int))=decide (32<u.fs.length)from decide_eq_decide.2 (by omega)]
  exact hK2
 refine zj (c:=decide (u.mn<0)) (λ_ K2 hK2=>?_) ?_
 ·refine gG_ ?_
  exact hK2
 refine zj (c:=decide ((u.fs.length:Int)≤u.mn)) (λ_ K2 hK2=>?_) ?_
 ·refine gG_ ?_
  exact hK2
 have hC:jY u=if ((((decide ((zw u.ss).2≠0)||decide (u.fs.length<1))||decide (32<u.fs.length))||decide (u.mn<0))||decide ((u.fs.length:Int)≤u.mn))=true then(-1,-1,100)else adk u:=by
  rw[jY,adk]
  simp only[ne_eq,decide_not,Bool.or_assoc] <;>
  rfl
 rw[hC]at h
 refine c_b (λhbad=>?_) (λhgood=>?_)
 ·rw[if_pos hbad]at h
  exact h _ S.ext
 rw[if_neg (by rw[hgood];decide)]at h
 have hok:(zw u.ss).2=0:=by
  simp only[Bool.or_eq_false_iff,decide_eq_false_iff_not]at hgood;omega
 clear hC hgood
 refine gG_ ?_
 refine zh (ι:=Nat×Int) (λi=>[.int .i64 i.2,.int .i64 0,.int .i64 (i.1:Nat)]) (λj w'=>j.1≤u.fs.length∧jX u j.1 (u.fs.drop j.1)=jX u 0 u.fs∧StX noX w r w' _) (λi=>u.fs.length-i.1) (0,0) rfl ⟨gzl _,rfl,S⟩ ?_
 clear S
 rintro⟨j,a⟩ d w5 ⟨hj,hd,S⟩ K6 hK6
 simp only at hj hd S⊢
 simp only[gdz,gds]
 refine gP_ ?_
 refine zf (λhlt=>?_) (λhge=>?_)
 ·have hlt:j<u.fs.length:=by omega
  rw[ajF hlt]at hd
  refine S.ldB (b:=b1) ?_ rfl
  refine agJ hlt S.holds hu0 λw6 e6=>?_
  have S:=S.go e6
  refine gP_ ?_
  refine c_b (λhx=>?_) (λhx=>?_)
  ·rw[if_neg (by simpa using hx)]at hd
   rw[adk,← hd]at h
   exact h _ S.ext
  ·rw[if_pos (by simpa using hx)]at hd
   refine gP_ ?_
   rw[show ((j:Int)+1)=((j+1:Nat):Int)by omega]
   exact hK6 (j+1,j) _ ⟨hlt,hd,S⟩ (by show u.fs.length-(j+1)<u.fs.length-j;omega)
 have hje:j=u.fs.length:=by omega
 rw[hje,List.drop_length]at hd
 have hnone:jX u 0 u.fs=none:=hd.symm
 have hheads:=λ(i:Nat) (hi:i<u.fs.length)=>adi (by have:=j0.1 hnone i hi;rwa[Nat.zero_add]at this:xh u i u.fs[i]=true)
 rw[adk,hnone]at h
 dsimp only at h
 clear hd hK6 K6 hge hj hje
 refine zn (λs w'=>Ext w w'∧((∃x y:Nat,s=[.int .i64 (x:Int),.int .i64 (y:Int),.bool true]∧XK u 0 u.fs=some (x,y))∨∃x y,s=[x,y,.bool false]∧XK u 0 u.fs=none)) (λK3 hK3=>?_) ?_
 rotate_left
 ·rintro _ w9 ⟨e9,⟨x,y,rfl,hb⟩|⟨x,y,rfl,hb⟩⟩ d9
  ·rw[hb]at h
   refine c_t rfl ?_
   exact h _ e9
  ·rw[hb]at h
   refine c_f rfl ?_
   exact h _ e9
 refine gG_ ?_
 refine zh (ι:=Nat×Value×Value) (λi=>[i.2.1,i.2.2,.bool false,.int .i64 (i.1:Nat)]) (λj w'=>j.1≤u.fs.length∧XK u j.1 (u.fs.drop j.1)=XK u 0 u.fs∧StX noX w r w' _) (λi=>u.fs.length-i.1) (0,.int .i64 a,.int .i64 0) rfl ⟨gzl _,rfl,S⟩ ?_
 clear S
 rintro⟨j,x1,x2⟩ d w5 ⟨hj,hd,S⟩ K6 hK6
 simp only at hj hd S⊢
 simp only[gdz,gds]
 refine gP_ ?_
 refine zf (λhlt=>?_) (λhge=>?_)
 rotate_left
 ·have hje:j=u.fs.length:=by omega
  rw[hje,List.drop_length]at hd
  exact hK3 _ _ ⟨S.ext,.inr ⟨_,_,rfl,hd.symm⟩⟩
 have hlt:j<u.fs.length:=by omega
 obtain⟨bf,of,cf,rfl,hcf,hgc,hfo⟩:=hfn.sl.get (by decide) hlt
 rw[alz hlt]at hd
 have hH:=hheads j hlt
 have hfin:=hH.fine hok
 have hpn:∀f∈u.fs,0≤f.pn∧f.pn<f.tys.length:=λf hf=>by
  obtain⟨i,hi,rfl⟩:=List.getElem_of_mem hf
  exact⟨(hheads i hi).pn0,(hheads i hi).pn1⟩
 generalize hgi:u.fs[j]=g at hd hgc hH hfin
 obtain⟨vo,vt,vn,vp,rfl,h1,h2,h3,h4⟩:=id hgc
 obtain⟨qo,capo,rfl,_,_⟩:=h1.sl.shape
 obtain⟨qt,capt,rfl,_,hct⟩:=h2.sl.shape
 obtain⟨qn,capn,rfl,_,_⟩:=h3.sl.shape
 obtain⟨qp,capp,rfl,_,_⟩:=h4.sl.shape
 have hptl:g.pts.length≤9223372036854775807:=h4.few
 refine gP_ ?_
 refine zp (n:=7) hcf (λj v hj=>by rw[tnc];exact S.at (hfo j v hj)) ?_
 refine S.al λb9 w6 S=>?_
 refine S.stB (b:=b9) λw7 S=>?_
 refine S.ldB (b:=b1) ?_ rfl
 refine S.ldB (b:=b9) ?_ rfl
 refine zy (cs:=#[.slice p0 u.ss.length cap0,.slice (some ⟨bf,of,none⟩) u.fs.length capf,.int .i64 u.mn,.string g.name,.int .i64 g.lv,.slice qo g.outs.length capo,.int .i64 g.pn,.slice qt g.tys.length capt,.slice qn g.nms.length capn,.slice qp g.pts.length capp]) (by kernel_rfl) ?_
 refine S.al λb10 w8 S=>?_
 refine S.stB (b:=b10) λw9 S=>?_
 refine gG_ ?_
 have hask:AskG r (.agg #[.slice p0 u.ss.length cap0,.slice (some ⟨bf,of,none⟩) u.fs.length capf,.int .i64 u.mn,.string g.name,.int .i64 g.lv,.slice qo g.outs.length capo,.int .i64 g.pn,.slice qt g.tys.length capt,.slice qn g.nms.length capn,.slice qp g.pts.length capp]) u g:=⟨_,_,_,_,_,_,_,rfl,hu0,hgc⟩
 refine zh (ι:=Nat) (λi=>[x1,x2,.bool false,.int .i64 (i:Nat)]) (λk w'=>k≤g.pts.length∧Xb u g k (g.pts.drop k)=Xb u g 0 g.pts∧StX noX w r w' _) (λi=>g.pts.length-i) 0 rfl ⟨gzl _,rfl,S⟩ ?_
 clear S
 rintro k d w10 ⟨hk,hdk,S⟩ K7 hK7
 simp only[gdz,gds]
 refine gP_ ?_
 refine zf (λhlt2=>?_) (λhge=>?_)
 ·have hlt2:k<g.pts.length:=by omega
  obtain⟨bp,op,cp,rfl,hcp,hpc,hcell⟩:=h4.sl.get (by decide) hlt2
  rw[akJ hlt2]at hdk
  refine gP_ ?_
  refine zp (n:=21) hcp (λj v hj=>by rw[tnc];exact S.at (hcell j v hj)) ?_
  obtain⟨vto,va,vb,vl,vfr,rfl,k1,k2,k3,k4,k5⟩:=id hpc
  obtain⟨_,_,rfl,_⟩:=k1.sl.shape
  obtain⟨_,_,rfl,_⟩:=k2.sl.shape
  obtain⟨_,_,rfl,_⟩:=k3.sl.shape
  obtain⟨_,_,rfl,_⟩:=k4.sl.shape
  obtain⟨_,_,rfl,_⟩:=k5.sl.shape
  refine S.al λb12 w11 S=>?_
  refine S.stB (b:=b12) λw12 S=>?_
  refine S.ldB (b:=b10) ?_ rfl
  refine S.ldB (b:=b12) ?_ rfl
  refine VD S.holds hask hfin hpn hpc λw13 e13=>?_
  have S:=S.go e13
  refine gP_ ?_
  refine c_b (λhx=>?_) (λhx=>?_)
  ·rw[if_neg (by simpa using hx)]at hdk
   rw[← hdk]at hd
   exact hK3 _ _ ⟨S.ext,.inl ⟨j,k,rfl,hd.symm⟩⟩
  ·rw[if_pos (by simpa using hx)]at hdk
   refine gP_ ?_
   rw[show ((k:Int)+1)=((k+1:Nat):Int)by omega]
   exact hK7 (k+1) _ ⟨hlt2,hdk,S.drop b12⟩ (by omega)
 have hke:k=g.pts.length:=by omega
 rw[hke,List.drop_length]at hdk
 rw[← hdk]at hd
 refine gP_ ?_
 rw[show ((j:Int)+1)=((j+1:Nat):Int)by omega]
 exact hK6 (j+1,x1,x2) _ ⟨hlt,hd,(S.drop b10).drop b9⟩ (by show u.fs.length-(j+1)<u.fs.length-j;omega)
theorem ahE{u:UnD}{v:Value}{w:World}{r:Gh}{K:Value→World→Prop}(hr:Holds r w)(hu:UnG r v u)
  (h:∀w',Ext w w'→K (.bool (QO u)) w'):zd Tryz.prog Tryz.QA #[v] w K:=by
 refine Tryz.agp ?_
 unfold Tryz.abq
 have hu0:=hu
 obtain⟨p0,cap0,vf,rfl,_,_,hst,hsl,hfn⟩:=hu
 obtain⟨qf,capf,rfl,_,_⟩:=hfn.sl.shape
 have S:=St.start hr
 refine S.box λb1 w1 S=>?_
 refine S.ldB (b:=b1) ?_ rfl
 refine afv S.holds hu0 λw2 e2=>?_
 have S:=S.go e2
 refine gS_ ?_
 exact h _ S.ext
theorem alA{s:Gh}{p:Option Addr}{n cap:Nat}{l:List Int}(h:SlG 1 s zQ (.slice p n cap) l):Ob s λw=>Sl w p (ints l):=λw hw i v hi=>by
 have hlt:i<l.length:=by
  have:=(List.getElem?_eq_some_iff.1 hi).1
  rwa[kN]at this
 have hv:v=.int .i64 l[i]:=by
  rw[ints,List.getElem?_map,gqg hlt]at hi
  exact(Option.some.inj hi).symm
 subst hv
 obtain⟨b,off,c,rfl,hc,hcc,hcell⟩:=h.get (by decide) hlt
 obtain rfl:c=_:=hcc
 have:=hcell 0 _ rfl w hw
 exact⟨b,off,rfl,by simpa using this⟩
end Go.Proofs
namespace Go.Sh
theorem StX.front{X:Nat→Prop}{w0 w:World}{r:Gh}{L M:List Asr}(S:StX X w0 r w L)(b:Nat){c:List Value}{T:TypeId}[h:ZX b L c T M]:StX X w0 r w (.cell b c T::M):=S.permO h.h.symm
end Go.Sh
namespace Go.Proofs
open Go.Sh
theorem JV{u:UnD}{fn q:Int}(h:isU u fn q=true):MayU u∧0≤fn∧∃hlt:fn.toNat<u.fs.length,q<u.fs[fn.toNat].pts.length∧amg u fn q=(amf u u.fs[fn.toNat],0):=by
 have h0:=h
 rw[isU]at h
 simp only[gba,gdt]at h
 obtain⟨⟨h1,h2⟩,h3,h4⟩:=h
 have hlt:fn.toNat<u.fs.length:=by omega
 rw[gqg hlt]at h4
 exact⟨acj.1 h3,h1,hlt,h4,by rw[amg,if_pos h0,gqg hlt]⟩
def Jk:PlD:=⟨0,[]⟩
def aaZ:OpD:=⟨0,0,Jk⟩
theorem jI{α:Type}{sz:Nat}{r:Gh}{R:List Value→α→Prop}:SlB sz r R (.slice none 0 0) ([]:List α):=⟨SlG.nil,gzl _⟩
abbrev ptL(p:PtD)(q1 q2 q3 q4 q5:Option Addr)(c1 c2 c3 c4 c5:Nat):List Value:=[.int .u8 p.op,.int .i64 p.to.l,.slice q1 p.to.ps.length c1,.int .u8 p.a.k,.int .i64 p.a.n,.int .i64 p.a.pl.l,.slice q2 p.a.pl.ps.length c2,.int .u8 p.b.k,.int .i64 p.b.n,.int .i64 p.b.pl.l,.slice q3 p.b.pl.ps.length c3,.slice q4 p.args.length c4,
 .string p.sign,.int .i64 p.fr.l,.slice q5 p.fr.ps.length c5,.bool p.mu,.int .i64 p.fn,.int .i64 p.st,.int .i64 p.nx,.int .i64 p.el,.int .i64 p.tx]
theorem xZ{r:Gh}{c:List Value}{p:PtD}(h:PtG r c p):∃q1 q2 q3 q4 q5 c1 c2 c3 c4 c5,c=ptL p q1 q2 q3 q4 q5 c1 c2 c3 c4 c5∧PtG r (ptL p q1 q2 q3 q4 q5 c1 c2 c3 c4 c5) p:=by
 obtain⟨vto,va,vb,vl,vfr,rfl,k1,k2,k3,k4,k5⟩:=id h
 obtain⟨q1,c1,rfl,_⟩:=k1.sl.shape
 obtain⟨q2,c2,rfl,_⟩:=k2.sl.shape
 obtain⟨q3,c3,rfl,_⟩:=k3.sl.shape
 obtain⟨q4,c4,rfl,_⟩:=k4.sl.shape
 obtain⟨q5,c5,rfl,_⟩:=k5.sl.shape
 exact⟨q1,q2,q3,q4,q5,c1,c2,c3,c4,c5,rfl,h⟩
end Go.Proofs
namespace Go.Sh
theorem StX.mkSU{P:Program}{X:Nat→Prop}{w0 w:World}{r:Gh}{L:List Asr}{t e:TypeId}{bytes:Nat}{kl:IntKind}{n:Int}{z:Value}(S:StX X w0 r w L)[hT:ApT P t e 1 bytes][hz:ZrT P e [z]]{K:Value→World→Prop}(h0:0≤n)(hb:(bytes:Int)*n≤281474976710656)
  (h:∀b w',StX X w0 r w' (.cell b (List.replicate n.toNat z) e::L)→K (.slice (some ⟨b,0,none⟩) n.toNat n.toNat) w'):opW P w (Instr.makeSlice t (.int kl n) (.int kl n)) λt' w'=>Ext w w'∧K t' w':=
 aji hT.h hz.h h0 hb λb w' hb e _ B=>⟨e,h b w' (S.add e (by omega) B)⟩
theorem StX.litNew{w0 w:World}{r:Gh}{L M:List Asr}{α:Type}{sz:Nat}{R:List Value→α→Prop}{l:List α}{e:TypeId}{xs:List Value}(S:StX noX w0 r w L)(b:Nat)[h:ZX b L xs e M](hr:RowOf sz R xs l)(hz:0<sz):
  StX noX w0 (r.or (Go.Sh.one b xs e)) w M∧SlG sz (Go.Sh.one b xs e) R (.slice (some ⟨b,0,none⟩) l.length l.length) l∧Above w0 (Go.Sh.one b xs e):=by
 have S1:=S.front b
 have hm:=S1.mine (.cell b xs e) List.mem_cons_self b rfl
 obtain⟨S2,h2⟩:=S1.litSl hr hz
 exact⟨S2,h2,by rintro b' o ⟨rfl,_⟩;exact hm.1.resolve_right id⟩
end Go.Sh
namespace Go.Proofs
open Go.Sh
theorem kJ{α:Type}{sz:Nat}{R:List Value→α→Prop}{c:List Value}{x:α}(hc:c.length=sz)(hx:R c x):RowOf sz R c [x]:=RowOf.nil.snoc (xs:=[]) hc hx
theorem xD{α:Type}{sz:Nat}{R:List Value→α→Prop}{c xs:List Value}{x:α}{l:List α}(hc:c.length=sz)(hx:R c x)(h:RowOf sz R xs l):RowOf sz R (c++xs) (x::l):=by
 obtain⟨h1,h2⟩:=h
 refine⟨by rw[gla,List.length_cons,h1,hc,Nat.succ_mul,Nat.add_comm],λi hi=>?_⟩
 cases i with
 |zero=>rw [Nat.zero_mul,List.drop_zero,List.take_append_of_le_length (by omega),List.take_of_length_le (by omega)];exact hx
 |succ i=>
  have e:((c++xs).drop ((i+1)*sz))=xs.drop (i*sz):=by
   rw[show (i+1)*sz=c.length+i*sz by rw[hc,Nat.succ_mul,Nat.add_comm],← List.drop_drop,List.drop_left'];rfl
  rw[e]
  exact h2 i (by simpa using hi)
theorem vT{α:Type}{sz:Nat}{r:Gh}{R:List Value→α→Prop}{v:Value}{l:List α}(h:SlG sz r R v l)(hl:l.length≤1000000:=by decide):SlB sz r R v l:=⟨h,by simp only[maxLen];omega⟩
def V9:TyD:=.mk 4 true (-1) 0 [kZ]
def plD(l:Int):PlD:=⟨l,[]⟩
def amm(n:Int):OpD:=⟨1,n,Jk⟩
def hp0:PtD:=⟨4,plD 2,aaZ,aaZ,[],ByteArray.empty,plD 1,true,0,0,1,0,0⟩
def hp1:PtD:=⟨1,plD 1,amm 2,aaZ,[],ByteArray.empty,Jk,false,0,0,2,0,0⟩
def hp2:PtD:=⟨1,⟨2,[-1]⟩,amm 3,aaZ,[],ByteArray.empty,Jk,false,0,0,3,0,0⟩
def hp3:PtD:=⟨14,Jk,aaZ,aaZ,[],ByteArray.empty,Jk,false,0,0,0,0,0⟩
def zU:GrD:=⟨ByteArray.empty,0,[],0,[kZ,kZ,V9],[ByteArray.empty,ByteArray.empty,ByteArray.empty],[hp0,hp1,hp2,hp3]⟩
def ya:UnD:=⟨[],[zU],0⟩
abbrev XN:List Value:=[.int .u8 1,.bool false,.int .i64 0,.int .i64 0,.slice none 0 0]
abbrev amn:Value:=.agg #[.int .u8 1,.bool false,.int .i64 0,.int .i64 0,.slice none 0 0]
abbrev amo(n:Int):Value:=.agg #[.int .u8 1,.int .i64 n,.int .i64 0,.slice none 0 0]
abbrev hl0:List Value:=[.int .u8 4,.int .i64 2,.slice none 0 0,.int .u8 0,.int .i64 0,.int .i64 0,.slice none 0 0,.int .u8 0,.int .i64 0,.int .i64 0,.slice none 0 0,.slice none 0 0,.string ByteArray.empty,.int .i64 1,.slice none 0 0,.bool true,.int .i64 0,.int .i64 0,.int .i64 1,.int .i64 0,.int .i64 0]
abbrev hl1:List Value:=[.int .u8 1,.int .i64 1,.slice none 0 0,.int .u8 1,.int .i64 2,.int .i64 0,.slice none 0 0,.int .u8 0,.int .i64 0,.int .i64 0,.slice none 0 0,.slice none 0 0,.string ByteArray.empty,.int .i64 0,.slice none 0 0,.bool false,.int .i64 0,.int .i64 0,.int .i64 2,.int .i64 0,.int .i64 0]
abbrev hl2(b:Nat):List Value:=[.int .u8 1,.int .i64 2,.slice (some ⟨b,0,none⟩) 1 1,.int .u8 1,.int .i64 3,.int .i64 0,.slice none 0 0,.int .u8 0,.int .i64 0,.int .i64 0,.slice none 0 0,.slice none 0 0,.string ByteArray.empty,.int .i64 0,.slice none 0 0,.bool false,.int .i64 0,.int .i64 0,.int .i64 3,.int .i64 0,.int .i64 0]
abbrev hl3:List Value:=[.int .u8 14,.int .i64 0,.slice none 0 0,.int .u8 0,.int .i64 0,.int .i64 0,.slice none 0 0,.int .u8 0,.int .i64 0,.int .i64 0,.slice none 0 0,.slice none 0 0,.string ByteArray.empty,.int .i64 0,.slice none 0 0,.bool false,.int .i64 0,.int .i64 0,.int .i64 0,.int .i64 0,.int .i64 0]
theorem hst:zw ([]:List StD)=(0,0):=by unfold zw;simp[xG]
theorem hmay(t:TyD):zP [] t=zE 0 48 t:=by rw[zP,hst];simp
theorem Xd:ByteArray.empty.toList=[]:=by rw[ByteArray.toList_eq];rfl
theorem ajG:xh ya 0 zU=true:=by
 have h1:jT ya zU 0 zU.tys=true:=by
  show((zP [] kZ&&_)&&((zP [] kZ&&_)&&((zP [] V9&&_)&&true)))=true
  rw[hmay,hmay]
  kernel_rfl
 unfold xh
 rw[h1]
 show(_:Bool)=true
 kernel_rfl
theorem akK:∀p∈zU.pts,yw ya zU p=true:=by
 have hp:zU.pts=[hp0,hp1,hp2,hp3]:=rfl
 rw[hp]
 intro p h
 simp only[List.mem_cons,List.not_mem_nil,or_false]at h
 rcases h with rfl|rfl|rfl|rfl
 ·have e:zG hp0 { to:=true,fr:=true,mu:=true } = true:=by
   rw[zG,qE,show hp0.sign=ByteArray.empty from rfl,Xd];kernel_rfl
  have :yw ya zU hp0=(((((zG hp0 { to:=true,fr:=true,mu:=true } && true)&&true)&&true)&&true)&&(true&&true)):=by kernel_rfl
  rw[this,e];rfl
 ·have e:zG hp1 { to:=true,a:=true } = true:=by
   rw[zG,qE,show hp1.sign=ByteArray.empty from rfl,Xd];kernel_rfl
  have :yw ya zU hp1=(((zG hp1 { to:=true,a:=true } && true)&&true)&&true):=by kernel_rfl
  rw[this,e];rfl
 ·have e:zG hp2 { to:=true,a:=true } = true:=by
   rw[zG,qE,show hp2.sign=ByteArray.empty from rfl,Xd];kernel_rfl
  have :yw ya zU hp2=(((zG hp2 { to:=true,a:=true } && true)&&true)&&true):=by kernel_rfl
  rw[this,e];rfl
 ·have e:zG hp3 {} = true:=by
   rw[zG,qE,show hp3.sign=ByteArray.empty from rfl,Xd];kernel_rfl
  have :yw ya zU hp3=zG hp3 {}:=by kernel_rfl
  rw[this,e]
theorem akL:MayU ya:=by
 refine⟨by show(zw []).2=0;rw[hst],by decide,by decide,by decide,by decide,λi hi=>?_,λg hg=>?_⟩
 ·have :i=0:=by have :ya.fs.length=1:=rfl;omega
  subst this
  exact ajG
 ·rw[List.mem_singleton.1 hg]
  exact akK
theorem agK{q:Int}(h:q<4):isU ya 0 q=true:=by
 rw[isU,acj.2 akL]
 show(true&&(true&&decide (q<4)))=true
 rw[gde h];rfl
end Go.Proofs
namespace Go.Sh
section
section
variable {P:Program} {t:TypeId} {c:Bool} {K:Value→Prop}
theorem ajH{a b:Int}(k:∀x:Int,K (.int .i64 x)):opP P (yR .add t c (.int .i64 a) (.int .i64 b)) K:=
 yS (λw=>by rw[kK];simp[binOp,Op.intArith]) (k (IntKind.i64.wrap (a+b)))
end
end
end Go.Sh
namespace Go.Proofs
open Go.Sh
theorem aiK{s:Gh}{p:Option Addr}{l:List Int}(h:Ob s λw=>Sl w p (ints l)){w:World}(hw:Holds s w){i:Nat}(hi:i<l.length):∃b off,p=some ⟨b,off,none⟩∧Ob s λw=>w.cell? ⟨b,off+i,none⟩=some (.int .i64 l[i]):=by
 obtain⟨b,off,rfl,_⟩:=Xh (h w hw) hi
 refine⟨b,off,rfl,λw' hw'=>?_⟩
 obtain⟨b',off',hp,hc⟩:=Xh (h w' hw') hi
 cases hp
 exact hc
end Go.Proofs
namespace Go.Sh
open Go.RowKit
section
theorem aeg(z:Array Value)(n:Nat):(Go.Builtin.zeroCells z n).toList.length=n*z.size∧∀u∈(Go.Builtin.zeroCells z n).toList,u∈z.toList:=by
 refine⟨by simp[Go.Builtin.zeroCells],λu hu=>?_⟩
 simp only[Go.Builtin.zeroCells,Array.toList_map,Array.toList_range,List.mem_map,List.mem_range]at hu
 obtain⟨i,hi,rfl⟩:=hu
 have hz:0<z.size:=by
  rcases Nat.eq_zero_or_pos z.size with h|h
  ·rw[h,Nat.mul_zero]at hi;omega
  ·exact h
 have hm:=Nat.mod_lt i hz
 rw[getElem!_pos z (i%z.size) hm]
 simp
section
variable {P:Program} {X:Nat→Prop} {w0 w:World} {r:Gh} {L:List Asr} {t e T ty:TypeId} {b sz n off cap:Nat} {c z:List Value} {f:List Value→List Asr}
theorem StX.clr{K:Value→World→Prop}(S:StX X w0 r w L)[h:At b L c T f][hs:SlT P t e sz][hz:ZrT P e z](hl:off+n*z.length≤c.length)(h1:∀u∈z,u.oneCell'=true)
  (k:∀c' w',c'.length=c.length→c'.take off=c.take off→StX X w0 r w' (f c')→K (.tuple #[]) w'):opW P w (Builtin.clear_ #[t] ty #[.slice (some ⟨b,off,none⟩) n cap]) K:=by
 have hT:=hs.h
 unfold slT at hT
 cases hu:P.underlying t with
 |none=>rw [hu]at hT;cases hT
 |some d=>
  rw[hu]at hT
  cases d<;>first|(cases hT;done)|skip
  rename_i e'
  simp only[Option.map_eq_some_iff,Prod.mk.injEq]at hT
  obtain⟨m,hm,rfl,rfl⟩:=hT
  have B:=S.blk b (h:=h)
  obtain⟨zv,hzc,hzr⟩:=Xm hz.h
  cases n with
  |zero=>
   have S':StX X w0 r w (f c):=by
    obtain⟨p,q,h1,h2⟩:=h.h
    rw[h2,← h1];exact S
   refine⟨_,w,?_,k c w rfl rfl S'⟩
   simp[Builtin.clear_,run_underlying hu,Sem.run_bind,Sem.run,pure,Result.andThen]
  |succ n=>
   obtain⟨hzl,hzm⟩:=aeg zv.cells (n+1)
   have hzs:zv.cells.size=z.length:=by rw[← hzc,Array.length_toList]
   have hst:=run_storeCells_at P b off T (Go.Builtin.zeroCells zv.cells (n+1)).toList 0 c.toArray w B (by
    rw[hzl,hzs];simpa using hl) (λu hu=>h1 u (by rw[← hzc];exact hzm u hu))
   simp only[Nat.add_zero]at hst
   obtain⟨f1,f2,f3⟩:=Xn B (c.take off++(Go.Builtin.zeroCells zv.cells (n+1)).toList++c.drop (off+(Go.Builtin.zeroCells zv.cells (n+1)).toList.length))
   refine⟨_,_,?_,k _ _ ?_ ?_ (S.turnC (h:=h) f1 f3)⟩
   ·simp[Builtin.clear_,run_underlying hu,Sem.run_bind,Sem.run,pure,Result.andThen,hzr,hst]
    try rfl
   ·simp only[gla,List.length_take,List.length_drop,hzl,hzs];omega
   ·rw[List.append_assoc,List.take_append_of_le_length (by rw[List.length_take];omega),List.take_take,Nat.min_self]
end
end
end Go.Sh
namespace Go.Proofs
open Go.Sh
section
variable {g:GrD} {r:Gh} {l:List Int} {p:Option Addr}
theorem Z1{u:UnD}{p:PtD}(h:yw u g p=true):ptG u g p=true:=by
 rw[yw,gba]at h;exact h.2
theorem JW{u:UnD}{p:PtD}(h:yw u g p=true)(ho:1≤p.op∧p.op≤8):(zm u.ss g.tys p.to).2.2=true:=by
 have h2:=Z1 h
 cases hf:(zm u.ss g.tys p.to).2.2 with
 |true=>rfl
 |false=>
  have hc:p.op=1∨p.op=2∨p.op=3∨p.op=4∨p.op=5∨p.op=6∨p.op=7∨p.op=8:=by omega
  rw[ptG]at h2
  rcases hc with hc|hc|hc|hc|hc|hc|hc|hc<;>simp [hc,hf]at h2
theorem adl{ss:List StD}{tys:List TyD}{p:PlD}(h:(zm ss tys p).2.2=true):p.ps.length≤8:=by
 unfold zm at h
 split at h
 ·simpa using h
 ·cases h
abbrev grL(g:GrD)(q1 q2 q3 q4:Option Addr)(c1 c2 c3 c4:Nat):List Value:=[.string g.name,.int .i64 g.lv,.slice q1 g.outs.length c1,.int .i64 g.pn,.slice q2 g.tys.length c2,.slice q3 g.nms.length c3,.slice q4 g.pts.length c4]
theorem Xi{c:List Value}(h:GrG r c g):∃q1 q2 q3 q4 c1 c2 c3 c4,c=grL g q1 q2 q3 q4 c1 c2 c3 c4∧GrG r (grL g q1 q2 q3 q4 c1 c2 c3 c4) g:=by
 obtain⟨vo,vt,vn,vp,rfl,k1,k2,k3,k4⟩:=id h
 obtain⟨q1,c1,rfl,_⟩:=k1.sl.shape
 obtain⟨q2,c2,rfl,_⟩:=k2.sl.shape
 obtain⟨q3,c3,rfl,_⟩:=k3.sl.shape
 obtain⟨q4,c4,rfl,_⟩:=k4.sl.shape
 exact⟨q1,q2,q3,q4,c1,c2,c3,c4,rfl,h⟩
theorem ajI{n cap:Nat}(h:SlB 1 r yE (.slice p n cap) l):Ob r λw=>Sl w p (ints l):=alA (h.sl.mono λc x hx=>hx.1)
theorem ajJ(h:∀x∈l,JN x):RowOf 1 yE (ints l) l:=⟨by rw[kN,Nat.mul_one],λj hj=>by
 refine⟨?_,h _ (gem hj)⟩
 rw[Nat.mul_one,ints,← List.map_drop,← List.map_take,List.drop_eq_getElem_cons hj];rfl⟩
theorem ahF{cap:Nat}{w:World}{K:Value→World→Prop}(hr:Holds r w)(hl:SlB 1 r yE (.slice p l.length cap) l)(hb:l.length≤1000000)
  (h:∀v' s w',Ext w w'→New w s w'→SlB 1 s yE v' l→K v' w'):zd Tryz.prog Tryz.yY #[.slice p l.length cap] w K:=by
 refine Tryz.jW ?_
 unfold Tryz.kk
 have S:=St.start hr
 have hin:∀x∈l,JN x:=λx hx=>by
  obtain⟨i,hi,rfl⟩:=List.getElem_of_mem hx
  obtain⟨_,_,_,_,_,hc,_⟩:=hl.sl.get (by decide) hi
  exact hc.2
 obtain⟨_,_,hE,hp,_⟩:=hl.sl.shape
 cases hE
 refine akm (e:=76) (n:=1) (by kernel_rfl) ?_
 refine c_b (λhn=>?_) (λhn=>?_)
 ·have hws:l=[]:=by
   cases l with
   |nil=>rfl
   |cons a l=>obtain ⟨b,off,hb,_⟩:=(ajI hl w hr) 0 (.int .i64 a) rfl;rw[hb]at hn;cases hn
  subst hws
  exact h _ nothing _ S.ext New.nothing jI
 refine S.lit (e:=76) (cs:=[]) (by kernel_rfl) λb w1 S=>?_
 have S:StX noX w r w1 [.row (.slice (some ⟨b,0,none⟩) 0 0) 76 1 0 []]:=by
  refine⟨S.x,S.holds,λx hx=>?_,λx hx k hk=>?_,List.pairwise_singleton _ _⟩
  ·rw[List.mem_singleton.1 hx]
   have:=Za (w:=w1) (base:=0) (size:=1) (n:=0) (cap:=0) (gzl _) (S.has (.cell b [] 76) (by simp)) (Nat.le_refl _) (by simp[maxLen]) rfl
   exact this
  ·rw[List.mem_singleton.1 hx]at hk
   exact S.mine (.cell b [] 76) (by simp) k (by cases hk;rfl)
 refine S.ap (v:=.slice (some ⟨b,0,none⟩) 0 0) (S.at (ajI hl)) (λv2 w2 S=>?_) (by omega) (by rw[kN];omega) hp (ajl _)
 obtain⟨s,S,hs,_,ha⟩:=S.doneRow (l:=l) (R:=yE) (sz:=1) (by rw[List.nil_append];exact ajJ hin) (by decide) (by omega)
 exact h _ s _ S.ext (S.newOf λb o ho=>(ha b o ho).resolve_right id) ⟨hs,by simp only[maxLen];omega⟩
end
end Go.Proofs
namespace Go.Sh
open Go.RowKit
section
section
variable {P:Program} {X:Nat→Prop} {w0 w:World} {r:Gh} {L:List Asr} {α:Type} {sz n:Nat} {R:List Value→α→Prop} {l:List α} {e:TypeId} {p:Option Addr} {cap:Nat}
theorem vU(hz:0<sz)(h:SlG sz r R (.slice p n cap) l):∃xs,RowOf sz R xs l∧Ob r λw=>Sl w p xs:=by
 have key:∀k,k≤l.length→∃xs,RowOf sz R xs (l.take k)∧Ob r λw=>Sl w p xs:=by
  intro k
  induction k with
  |zero=>intro _;exact⟨[],by rw[List.take_zero];exact RowOf.nil,λw _=>Sl.nil w _⟩
  |succ k ih=>
   intro hk
   obtain⟨xs,h1,h2⟩:=ih (by omega)
   obtain⟨b,off,c,rfl,hc,hcc,hcell⟩:=h.get hz (show k<l.length by omega)
   have hxl:xs.length=k*sz:=by rw[h1.1,List.length_take,Nat.min_eq_left (by omega)]
   refine⟨xs++c,by rw[List.take_succ_eq_append_getElem (by omega)];exact h1.snoc hc hcc,λw hw i v hi=>?_⟩
   by_cases hlt:i<xs.length
   ·rw[List.getElem?_append_left hlt]at hi;exact h2 w hw i v hi
   ·rw[List.getElem?_append_right (by omega)]at hi
    have:=hcell _ v hi w hw
    exact⟨b,off,rfl,by rwa[show off+k*sz+(i-xs.length)=off+i by omega]at this⟩
 have:=key l.length (Nat.le_refl _)
 rwa[List.take_length]at this
theorem xU{xs:List Value}(h:RowOf sz R xs l)(hz:0<sz)(h1:∀c x,R c x→∀u∈c,u.oneCell'=true):∀u∈xs,u.oneCell'=true:=λu hu=>by
 obtain⟨i,hi,rfl⟩:=List.getElem_of_mem hu
 have hj:i/sz<l.length:=by
  rw[h.1]at hi
  exact Nat.div_lt_of_lt_mul (by rw[Nat.mul_comm];exact hi)
 refine h1 _ _ (h.2 _ hj) _ ?_
 have hm:=Nat.mod_lt i hz
 have hd:=Nat.div_add_mod i sz
 refine List.mem_of_getElem? (i:=i%sz) ?_
 rw[List.getElem?_take,if_pos hm,List.getElem?_drop,show i/sz*sz+i%sz=i by rw[Nat.mul_comm];exact hd,gqg hi]
theorem StX.cellRow{b:Nat}{c:List Value}(S:StX X w0 r w (.cell b c e::L))(hn:n≤cap)(hc:c.length=cap*sz)(hm:cap≤maxLen):StX X w0 r w (.row (.slice (some ⟨b,0,none⟩) n cap) e sz n (c.take (n*sz))::L):=by
 have:=Za (w:=w) (base:=0) (size:=sz) (n:=n) (cap:=cap) (gzl _) (S.has (.cell b c e) List.mem_cons_self) hn hm hc
 exact S.turn (p:=[]) (x:=.cell b c e) (y:=.row (.slice (some ⟨b,0,none⟩) n cap) e sz n (c.take (n*sz))) (ExtBut.refl _ _) this λk hk=>.inl (by cases hk;rfl)
end
end
end Go.Sh
namespace Go.Proofs
open Go.Sh
theorem qW{r:Gh}{c:List Value}{o:OpD}(h:OpG r c o):∃q k,c=[.int .u8 o.k,.int .i64 o.n,.int .i64 o.pl.l,.slice q o.pl.ps.length k]:=by
 obtain⟨v,rfl,hl⟩:=h
 obtain⟨q,k,rfl,_⟩:=hl.sl.shape
 exact⟨q,k,rfl⟩
theorem j1{r:Gh}{c:List Value}{o:OpD}(h:OpG r c o):c.length=4:=by obtain⟨q,k,rfl⟩:=qW h;rfl
theorem aa0{r:Gh}{c:List Value}{o:OpD}(h:OpG r c o):∀u∈c,u.oneCell'=true:=by obtain⟨q,k,rfl⟩:=qW h;simp[Value.oneCell']
def aiL(o:OpD):Bool:=decide (o.k≠0)
def agL(p:PtD):List OpD:=(p.a::p.b::p.args).filter aiL
abbrev vy(c:List Value)(i:Nat):List Value:=(c.drop (i*4)).take 4
theorem alB{c cs:List Value}{i m:Nat}(hc:i*4+4≤c.length)(hl:cs.length=4)(hm:i<m):vy (c.take (i*4)++cs++c.drop (i*4+4)) m=vy c m:=by
 have e:(c.take (i*4)++cs++c.drop (i*4+4)).drop (m*4)=c.drop (m*4):=by
  rw[List.drop_append,List.drop_of_length_le (by rw[gla,List.length_take,hl];omega),List.nil_append,gla,List.length_take,hl,List.drop_drop]
  congr 1;omega
 rw[vy,e]
theorem alC{c cs:List Value}{i:Nat}(hc:i*4+4≤c.length)(hl:cs.length=4):(c.take (i*4)++cs++c.drop (i*4+4)).take ((i+1)*4)=c.take (i*4)++cs:=by
 rw[List.take_append_of_le_length (by rw[gla,List.length_take,hl];omega),List.take_of_length_le (by rw[gla,List.length_take,hl];omega)]
section
variable {u:UnD} {g:GrD} {p:PtD}
theorem JX{ss:List StD}{tys:List TyD}:∀{l:List OpD}{ts:List TyD},xg ss tys l ts=true→l.length=ts.length∧∀(i:Nat)(hi:i<l.length)(hj:i<ts.length),(zr ss tys l[i]).2=true∧zY yr (zr ss tys l[i]).1 ts[i]=true
 |[],[],_=>⟨rfl,λi hi=>absurd hi (Nat.not_lt_zero _)⟩
 |[],_::_,h=>by cases h
 |_::_,[],h=>by cases h
 |o::l,t::r,h=>by
  rw[qG,gba,gba]at h
  obtain⟨h1,h2⟩:=JX h.2
  refine⟨by simp[h1],λi hi hj=>?_⟩
  cases i with
  |zero=>exact h.1
  |succ i=>exact h2 i (by simpa using hi) (by simpa using hj)
theorem ajK{ss:List StD}{tys:List TyD}{o:OpD}(h:(zr ss tys o).2=true)(hk:o.k=3∨o.k=4):(zm ss tys o.pl).2.2=true∧(zr ss tys o).1=(zm ss tys o.pl).1:=by
 unfold zr at h⊢
 rw[if_neg (by omega),if_neg (by omega)]at h⊢
 rcases hk with hk|hk
 ·rw[if_pos hk]at h⊢
  simp only[gba]at h
  exact⟨h.1.1,rfl⟩
 ·rw[if_neg (by omega),if_pos hk]at h⊢
  simp only[gba]at h
  exact⟨h.1.1.1,rfl⟩
theorem alD{o:OpD}(h:o.k≠0):vi o=false:=by rw[vi,decide_eq_false h];rfl
theorem QQ(h:ptG u g p=true):1≤p.op∧p.op≤14:=by
 refine Classical.byContradiction λhc=>?_
 rw[ptG]at h
 rw[if_neg (by omega),if_neg (by omega),if_neg (by omega),if_neg (by omega),if_neg (by omega),if_neg (by omega),if_neg (by omega),if_neg (by omega),if_neg (by omega),if_neg (by omega),if_neg (by omega),if_neg (by omega),if_neg (by omega)]at h
 cases h
theorem ajL(h:yw u g p=true):∀o∈agL p,(zr u.ss g.tys o).2=true:=by
 have h2:=Z1 h
 intro o ho
 rw[agL,List.mem_filter,aiL,gdt]at ho
 obtain⟨hm,hk⟩:=ho
 have hn:=alD hk
 have hc:p.op=1∨p.op=2∨p.op=3∨p.op=4∨p.op=5∨p.op=6∨p.op=7∨p.op=8∨p.op=9∨p.op=10∨p.op=11∨p.op=12∨p.op=13∨p.op=14:=by
  have:=QQ h2
  omega
 cases hf:(zr u.ss g.tys o).2 with
 |true=>rfl
 |false=>
  exfalso
  rw[List.mem_cons,List.mem_cons]at hm
  rw[ptG]at h2
  rcases hm with rfl|rfl|hm
  ·rcases hc with hc|hc|hc|hc|hc|hc|hc|hc|hc|hc|hc|hc|hc|hc<;>simp [hc,hf,hn,zG,qE]at h2
  ·rcases hc with hc|hc|hc|hc|hc|hc|hc|hc|hc|hc|hc|hc|hc|hc<;>simp [hc,hf,hn,zG,qE]at h2
  ·have hne:p.args.length≠0:=λh0=>by rw[List.eq_nil_of_length_eq_zero h0]at hm;cases hm
   obtain⟨i,hi,rfl⟩:=List.getElem_of_mem hm
   have harg:∀ts,xg u.ss g.tys p.args ts=false:=λts=>by
    cases ha:xg u.ss g.tys p.args ts with
    |false=>rfl
    |true=>
     obtain⟨hl,hx⟩:=JX ha
     have:=(hx i hi (by omega)).1
     rw[hf]at this;cases this
   have hne':p.args≠[]:=λh0=>hne (by rw[h0];rfl)
   rcases hc with hc|hc|hc|hc|hc|hc|hc|hc|hc|hc|hc|hc|hc|hc<;>first|(simp[hc,hne,hne',zG,qE]at h2;done)|(simp[hc,hne,hne',zG,qE,harg]at h2;try (split at h2<;>simp_all))
theorem jw(hM:MayU u)(h:yw u g p=true):p.args.length≤1000:=by
 have h2:=Z1 h
 by_cases hne:p.args.length=0
 ·omega
 have hne':p.args≠[]:=λh0=>hne (by rw[h0];rfl)
 rw[ptG]at h2
 by_cases h6:p.op=6
 ·simp only[h6,Int.reduceEq,if_false,if_true,gba,gdt,isK]at h2
  have hl:=(JX h2.2).1
  have hf:(yy u.ss (zm u.ss g.tys p.to).1).1.length≤8:=by
   rw[yy]
   split
   ·exact kA (xT hM.ok).2.1 _
   ·simp
  omega
 by_cases h7:p.op=7
 ·simp only[h7,Int.reduceEq,if_false,if_true,gba,gdt]at h2
  have hlt:p.fn.toNat<u.fs.length:=by omega
  rw[gqg hlt]at h2
  have h3:=h2.2
  simp only[gba]at h3
  have hl:=(JX h3.2).1
  have:=(hM.hd hlt).pn8
  rw[List.length_take]at hl
  omega
 ·exfalso
  have hc:p.op=1∨p.op=2∨p.op=3∨p.op=4∨p.op=5∨p.op=8∨p.op=9∨p.op=10∨p.op=11∨p.op=12∨p.op=13∨p.op=14:=by
   have:=QQ (Z1 h)
   omega
  rcases hc with hc|hc|hc|hc|hc|hc|hc|hc|hc|hc|hc|hc<;>simp [hc,hne,hne',zG,qE]at h2
end
end Go.Proofs
namespace Go.Proofs.Tryz
open Go.Sh
section
variable {t0 t1:Value} {w:World} {K:VW}
def XO(t0:Value)(w:World)(K:VW):Prop:=
 pw w (Instr.box 94 t0) λt1 w1=>
 za (λK2=>
 pf 94 t1 2 λt4=>fl w1 t4 61 0 56 λt6=>bt .neq 56 t6 (Value.int .u8 0) λt7=>zc t7 (fl w1 t1 94 2 61 λt10=>pw w1 (Instr.buildSlice 53 1 #[(0,t10)]) λt11 w6=>
 pw w6 (Builtin.append_ #[53,53] 53 #[(Value.slice Option.none 0 0),t11]) λt12 w7=>
 K2 [t12] w7) (K2 [(Value.slice Option.none 0 0)] w1)) (λs3 _d4 w5=>
 za (λK8=>
 pf 94 t1 3 λt13=>fl w5 t13 61 0 56 λt15=>bt .neq 56 t15 (Value.int .u8 0) λt16=>zc t16 (fl w5 t1 94 3 61 λt19=>pw w5 (Instr.buildSlice 53 1 #[(0,t19)]) λt20 w12=>
 pw w12 (Builtin.append_ #[53,53] 53 #[(s3.getD 0 u_),t20]) λt21 w13=>
 K8 [t21] w13) (K8 [(s3.getD 0 u_)] w5)) (λs9 _d10 w11=>
 fl w11 t1 94 4 53 λt24=>pw w11 (Builtin.append_ #[53,53] 53 #[(s9.getD 0 u_),t24]) λt25 w14=>
 K t25 w14))
theorem abd(h:XO t0 w K):zd prog ki #[t0] w K:=
 okC false (.s (.r (rz 2 0 2)) (.s (.r (rz 1 0 0)) (.j [3] (.s (.r (rz 4 0 16)) (.c (.r (rz 6 0 656)) (.n))) (.j [3] (.s (.r (rz 4 0 16)) (.c (.r (rz 6 0 656)) (.n))) (.s (.r (rz 5 0 144)) (.n)))))) func36 rfl (by kernel_rfl) (by kernel_rfl) h
def Qm(t0:Value)(w:World)(K:VW):Prop:=
 pw w (Instr.box 94 t0) λt1 w1=>
 fl w1 t1 94 0 92 λt4=>bt .geq 92 t4 (Value.int .u8 1) λt5=>za (λK2=>gIf t5 true (fl w1 t1 94 0 92 λt8=>bt .leq 92 t8 (Value.int .u8 8) λt9=>K2 [t9] w1) (K2 [u_] w1)) (λs3 _d4 w5=>
 zb t5 (s3.getD 0 u_) fa_ λt10=>K t10 w5)
theorem ack(h:Qm t0 w K):zd prog kG #[t0] w K:=
 okC false (.s (.r (rz 2 0 2)) (.s (.r (ra 4 0 4 (.grp 6 true (ri 3 4 4) [9] (rz 2 7 0)))) (.n))) func38 rfl (by kernel_rfl) (by kernel_rfl) h
def Vo(t0 t1 t2:Value)(w:World)(K:VW):Prop:=
 pw w (Instr.box 25 t0) λt3 w1=>
 pw w1 (Instr.box 59 t2) λt5 w2=>
 pw w2 (Instr.alloc 112 true (.tuple #[])) λt6 w3=>
 lo w3.drew 25 t3 λt10=>fl w3.drew t3 25 1 23 λt12=>xl w3.drew 23 t12 t1 74 λt15=>pp (Instr.build 149 #[(0,t10),(1,t15)]) λt16=>pw w3.drew (Instr.box 149 t16) λt17 w4=>
 lo w4 59 t5 λt19=>ca yC #[t17,t19] w4 λt20 w5=>
 pe t20 0 λt21=>pe t20 1 λt22=>pe t20 2 λt23=>so w5 112 t6 t21 λw6=>pq w6 (zk 112 t6) λr7=>K (.tuple #[r7,t22,t23]) w6
theorem aeh{t2:Value}(h:Vo t0 t1 t2 w K):zd prog YJ #[t0,t1,t2] w K:=
 okC false (.s (.r (rz 5 0 42)) (.s (.r (rz 9 0 33809)) (.s (.r (rz 9 0 8228)) (.n)))) func67 rfl (by kernel_rfl) (by kernel_rfl) h
def aaa(t0 t1:Value)(w:World)(K:VW):Prop:=
 pw w (Instr.box 59 t0) λt2 w1=>
 pw w1 (Instr.box 59 t1) λt3 w2=>
 lo w2 59 t2 λt5=>lo w2 59 t3 λt6=>ca qI #[t5,t6] w2 λt7 w3=>
 bt .eql 3 t7 (i6 0) λt8=>K t8 w3
theorem afw(h:aaa t0 t1 w K):zd prog Zn #[t0,t1] w K:=
 okC false (.s (.r (rz 3 0 10)) (.s (.r (rz 5 0 37)) (.n))) func93 rfl (by kernel_rfl) (by kernel_rfl) h
def YR(t0 t1:Value)(w:World)(K:VW):Prop:=
 pw w (Instr.box 59 t0) λt2 w1=>
 pw w1 (Instr.box 59 t1) λt3 w2=>
 fl w2 t2 59 0 3 λt7=>fl w2 t3 59 0 3 λt9=>bf .neq 3 t7 t9 λt10=>zc t10 (fl w2 t2 59 0 3 λt12=>fl w2 t3 59 0 3 λt14=>bf .lss 3 t12 t14 λt15=>zc t15 (K (i6 (-1)) w2) (K (i6 1) w2)) (zo [(i6 0)] w2 (λs4 _d5 w6 K3=>
 fl w6 t2 59 1 57 λt18=>pp (Builtin.len_ #[57] 3 #[t18]) λt19=>bf .lss 3 (s4.getD 0 u_) t19 λt20=>za (λK7=>gIf t20 true (fl w6 t3 59 1 57 λt24=>pp (Builtin.len_ #[57] 3 #[t24]) λt25=>bf .lss 3 (s4.getD 0 u_) t25 λt26=>K7 [t26] w6) (K7 [u_] w6)) (λs8 _d9 w10=>
 zb t20 (s8.getD 0 u_) fa_ λt27=>zc t27 (fl w10.drew t2 59 1 57 λt31=>xl w10.drew 57 t31 (s4.getD 0 u_) 76 λt34=>fl w10.drew t3 59 1 57 λt36=>xl w10.drew 57 t36 (s4.getD 0 u_) 76 λt39=>bf .lss 76 t34 t39 λt40=>zc t40 (K (i6 (-1)) w10.drew) (fl w10.drew.drew t2 59 1 57 λt42=>xl w10.drew.drew 57 t42 (s4.getD 0 u_) 76 λt45=>fl w10.drew.drew t3 59 1 57 λt47=>xl w10.drew.drew 57 t47 (s4.getD 0 u_) 76 λt50=>bf .gtr 76 t45 t50 λt51=>zc t51 (K (i6 1) w10.drew.drew) (bt .add 3 (s4.getD 0 u_) (i6 1) λt29=>K3 [t29] w10.drew.drew))) (fl w10 t2 59 1 57 λt53=>pp (Builtin.len_ #[57] 3 #[t53]) λt54=>fl w10 t3 59 1 57 λt56=>pp (Builtin.len_ #[57] 3 #[t56]) λt57=>bf .lss 3 t54 t57 λt58=>zc t58 (K (i6 (-1)) w10) (fl w10 t2 59 1 57 λt60=>pp (Builtin.len_ #[57] 3 #[t60]) λt61=>fl w10 t3 59 1 57 λt63=>pp (Builtin.len_ #[57] 3 #[t63]) λt64=>bf .gtr 3 t61 t64 λt65=>zc t65 (K (i6 1) w10) (K (i6 0) w10))))))
theorem Jl(h:YR t0 t1 w K):zd prog qI #[t0,t1] w K:=
 okC false (.s (.r (rz 3 0 10)) (.s (.s (.r (rz 5 0 68)) (.c (.s (.s (.r (rz 5 0 68)) (.c (.s (.r (rz 1 0 0)) (.n)) (.n))) (.s (.r (rz 1 0 0)) (.n))) (.n))) (.s (.s (.r (rz 1 0 0)) (.b (.lp [5] (.s (.s (.r (ra 6 0 16 (.grp 21 true (ri 5 6 16) [26] (rz 1 11 0)))) (.c (.n) (.n))) (.s (.b (.s (.s (.r (rz 11 0 266500)) (.c (.s (.r (rz 1 0 0)) (.n)) (.n))) (.s (.r (rz 11 0 266500)) (.c (.s (.r (rz 1 0 0)) (.n)) (.n))))) (.r (rz 3 0 0))))))) (.s (.s (.r (rz 7 0 260)) (.c (.s (.r (rz 1 0 0)) (.n)) (.n))) (.s (.s (.r (rz 7 0 260)) (.c (.s (.r (rz 1 0 0)) (.n)) (.n))) (.s (.r (rz 1 0 0)) (.n))))))) func92 rfl (by kernel_rfl) (by kernel_rfl) h
end
def aab(t0 t1:Value)(w:World)(K:VW):Prop:=
 pw w (Instr.box 59 t0) λt2 w1=>
 pw w1 (Instr.box 59 t1) λt3 w2=>
 lo w2 59 t2 λt5=>lo w2 59 t3 λt6=>ca yW #[t5,t6] w2 λt7 w3=>
 bt .eql 3 t7 (i6 0) λt8=>K t8 w3
theorem afx{t0 t1:Value}{w:World}{K:VW}(h:aab t0 t1 w K):zd prog Zl #[t0,t1] w K:=
 okC false (.s (.r (rz 3 0 10)) (.s (.r (rz 5 0 37)) (.n))) func59 rfl (by kernel_rfl) (by kernel_rfl) h
def YS(t0 t1:Value)(w:World)(K:VW):Prop:=
 pw w (Instr.box 59 t0) λt2 w1=>
 pw w1 (Instr.box 59 t1) λt3 w2=>
 fl w2.drew t2 59 0 3 λt6=>fl w2.drew t3 59 0 3 λt8=>fl w2.drew t2 59 1 57 λt11=>fl w2.drew t3 59 1 57 λt13=>ca jQ #[t6,t8] w2.drew λt9 w3=>
 Ext w2.drew w3∧
 ca yj #[t11,t13] w3 λt14 w4=>
 pw w4 (Instr.buildSlice 26 2 #[(0,t9),(1,t14)]) λt15 w5=>
 ca Zm #[t15] w5 λt16 w6=>
 K t16 w6
theorem Jm{t0 t1:Value}{w:World}{K:VW}(h:YS t0 t1 w K):zd prog yW #[t0,t1] w K:=
 okC false (.s (.r (rz 3 0 10)) (.s (.r (ra 4 0 68 (ra 4 5 68 (ra 1 4 3 (rz 4 9 42))))) (.n))) func49 rfl (by kernel_rfl) (by kernel_rfl) h
end Go.Proofs.Tryz
namespace Go.Proofs
open Go.Sh
theorem akM{r:Gh}{p:PtD}{q1 q2 q3 q4 q5:Option Addr}{c1 c2 c3 c4 c5:Nat}(h:PtG r (ptL p q1 q2 q3 q4 q5 c1 c2 c3 c4 c5) p):
  PlG r [.int .i64 p.to.l,.slice q1 p.to.ps.length c1] p.to∧OpG r [.int .u8 p.a.k,.int .i64 p.a.n,.int .i64 p.a.pl.l,.slice q2 p.a.pl.ps.length c2] p.a∧
  OpG r [.int .u8 p.b.k,.int .i64 p.b.n,.int .i64 p.b.pl.l,.slice q3 p.b.pl.ps.length c3] p.b∧SlB 4 r (OpG r) (.slice q4 p.args.length c4) p.args∧PlG r [.int .i64 p.fr.l,.slice q5 p.fr.ps.length c5] p.fr:=by
 obtain⟨_,_,_,_,_,hE,k1,k2,k3,k4,k5⟩:=h
 cases hE
 exact⟨⟨_,rfl,k1⟩,⟨_,rfl,k2⟩,⟨_,rfl,k3⟩,k4,⟨_,rfl,k5⟩⟩
end Go.Proofs
namespace Go.Proofs.Tryz
open Go.Sh
section
variable {t0 t1:Value} {w:World} {K:VW}
def XP(t0:Value)(w:World)(K:VW):Prop:=
 pp (Builtin.len_ #[26] 3 #[t0]) λt7=>zo [(i6 0)] w (λs2 _d3 w4 K1=>
 bf .lss 3 (s2.getD 0 u_) t7 λt9=>zc t9 (xl w4 26 t0 (s2.getD 0 u_) 3 λt11=>bf .neq 3 t11 (i6 0) λt14=>zc t14 (K t11 w4) (bt .add 3 (s2.getD 0 u_) (i6 1) λt16=>K1 [t16] w4)) (K (i6 0) w4))
theorem Vp(h:XP t0 w K):zd prog Zm #[t0] w K:=
 okC false (.s (.r (rz 1 0 0)) (.s (.r (rz 1 0 0)) (.s (.s (.r (rz 3 0 0)) (.b (.lp [8] (.s (.r (rz 1 0 0)) (.s (.c (.n) (.n)) (.s (.b (.s (.r (rz 3 0 4)) (.s (.r (rz 3 0 0)) (.c (.s (.r (rz 2 0 0)) (.n)) (.n))))) (.r (rz 2 0 0)))))))) (.s (.r (rz 2 0 0)) (.n))))) func81 rfl (by kernel_rfl) (by kernel_rfl) h
def Y2(t0 t1:Value)(w:World)(K:VW):Prop:=
 ca ji #[t0] w λt8 w1=>
 ca ji #[t1] w1 λt10 w2=>
 zc t8 (zc t10 (K (i6 0) w2) (K (i6 (-1)) w2)) (zc t10 (K (i6 1) w2) (bf .lss 3 t0 t1 λt16=>zc t16 (K (i6 (-1)) w2) (bf .gtr 3 t0 t1 λt19=>zc t19 (K (i6 1) w2) (K (i6 0) w2))))
theorem aac(h:Y2 t0 t1 w K):zd prog jQ #[t0,t1] w K:=
 okC false (.s (.r (rz 1 0 0)) (.s (.r (rz 3 0 8)) (.s (.r (rz 3 0 8)) (.s (.s (.r (rz 1 0 0)) (.c (.s (.s (.r (rz 1 0 0)) (.c (.s (.r (rz 1 0 0)) (.n)) (.n))) (.s (.r (rz 1 0 0)) (.n))) (.n))) (.s (.s (.r (rz 1 0 0)) (.c (.s (.r (rz 1 0 0)) (.n)) (.n))) (.s (.s (.r (rz 3 0 0)) (.c (.s (.r (rz 1 0 0)) (.n)) (.n))) (.s (.s (.r (rz 3 0 0)) (.c (.s (.r (rz 1 0 0)) (.n)) (.n))) (.s (.r (rz 1 0 0)) (.n))))))))) func82 rfl (by kernel_rfl) (by kernel_rfl) h
def yP(t0 t1:Value)(w:World)(K:VW):Prop:=
 pp (Builtin.len_ #[57] 3 #[t0]) λt10=>zo [(i6 0)] w (λs2 _d3 w4 K1=>
 bf .lss 3 (s2.getD 0 u_) t10 λt12=>zc t12 (xl w4 57 t0 (s2.getD 0 u_) 76 λt15=>pp (Builtin.len_ #[57] 3 #[t1]) λt18=>bf .geq 3 (s2.getD 0 u_) t18 λt19=>zc t19 (K (i6 1) w4) (xl w4 57 t1 (s2.getD 0 u_) 76 λt23=>ca kL #[t15,t23] w4 λt26 w5=>
 bt .neq 3 t26 (i6 0) λt28=>zc t28 (K t26 w5) (bt .add 3 (s2.getD 0 u_) (i6 1) λt30=>K1 [t30] w5))) (pp (Builtin.len_ #[57] 3 #[t0]) λt32=>pp (Builtin.len_ #[57] 3 #[t1]) λt34=>bf .lss 3 t32 t34 λt35=>zc t35 (K (i6 (-1)) w4) (K (i6 0) w4)))
theorem xL(h:yP t0 t1 w K):zd prog yj #[t0,t1] w K:=
 okC false (.s (.r (rz 1 0 0)) (.s (.s (.r (rz 3 0 0)) (.b (.lp [11] (.s (.r (rz 1 0 0)) (.s (.c (.n) (.n)) (.s (.b (.s (.r (rz 5 0 16)) (.s (.s (.r (rz 4 0 0)) (.c (.s (.r (rz 1 0 0)) (.n)) (.n))) (.s (.r (rz 5 0 64)) (.s (.r (rz 4 0 32)) (.s (.r (rz 2 0 0)) (.c (.s (.r (rz 2 0 0)) (.n)) (.n)))))))) (.r (rz 2 0 0)))))))) (.s (.s (.r (rz 5 0 0)) (.c (.s (.r (rz 1 0 0)) (.n)) (.n))) (.s (.r (rz 1 0 0)) (.n))))) func83 rfl (by kernel_rfl) (by kernel_rfl) h
def j2(t0 t1:Value)(w:World)(K:VW):Prop:=
 ca xR #[t0] w λt8 w1=>
 ca xR #[t1] w1 λt10 w2=>
 zc t8 (zc t10 (K (i6 0) w2) (K (i6 (-1)) w2)) (zc t10 (K (i6 1) w2) (bf .lss 76 t0 t1 λt16=>zc t16 (K (i6 (-1)) w2) (bf .gtr 76 t0 t1 λt19=>zc t19 (K (i6 1) w2) (K (i6 0) w2))))
theorem X1(h:j2 t0 t1 w K):zd prog kL #[t0,t1] w K:=
 okC false (.s (.r (rz 1 0 0)) (.s (.r (rz 3 0 8)) (.s (.r (rz 3 0 8)) (.s (.s (.r (rz 1 0 0)) (.c (.s (.s (.r (rz 1 0 0)) (.c (.s (.r (rz 1 0 0)) (.n)) (.n))) (.s (.r (rz 1 0 0)) (.n))) (.n))) (.s (.s (.r (rz 1 0 0)) (.c (.s (.r (rz 1 0 0)) (.n)) (.n))) (.s (.s (.r (rz 3 0 0)) (.c (.s (.r (rz 1 0 0)) (.n)) (.n))) (.s (.s (.r (rz 3 0 0)) (.c (.s (.r (rz 1 0 0)) (.n)) (.n))) (.s (.r (rz 1 0 0)) (.n))))))))) func108 rfl (by kernel_rfl) (by kernel_rfl) h
def Qn(t0:Value)(w:World)(K:VW):Prop:=
 bf .neq 3 t0 t0 λt5=>K t5 w
theorem acl(h:Qn t0 w K):zd prog ji #[t0] w K:=
 okC false (.s (.r (rz 1 0 0)) (.s (.r (rz 4 0 0)) (.n))) func107 rfl (by kernel_rfl) (by kernel_rfl) h
def Zv(t0:Value)(w:World)(K:VW):Prop:=
 bf .neq 76 t0 t0 λt5=>K t5 w
theorem Jn(h:Zv t0 w K):zd prog xR #[t0] w K:=
 okC false (.s (.r (rz 1 0 0)) (.s (.r (rz 4 0 0)) (.n))) func145 rfl (by kernel_rfl) (by kernel_rfl) h
end
end Go.Proofs.Tryz
namespace Go.Proofs
open Go.Sh
section
variable {w:World} {K:Value→World→Prop} {x y:Int} {α:Type} {r:Gh} {p q:PlD} {c d:List Value}
noncomputable def eqb{α:Type}(x y:α):Bool:=@decide (x=y) (Classical.propDecidable _)
theorem vV{x y:α}:eqb x y=true↔x=y:=by
 rw[eqb];exact @decide_eq_true_iff _ (Classical.propDecidable _)
theorem ajM{x y:α}{b:Bool}(h:b=true↔x=y):b=eqb x y:=by
 rw[Bool.eq_iff_iff,h,vV]
theorem amp{x y:α}(h:x≠y):eqb x y=false:=by
 cases e:eqb x y
 ·rfl
 ·exact absurd (vV.1 e) h
theorem agM(x:α):eqb x x=true:=vV.2 rfl
theorem abC(h:K (.bool false) w):zd Tryz.prog Tryz.ji #[.int .i64 x] w K:=by
 refine Tryz.acl ?_
 unfold Tryz.Qn
 refine gg_ ?_
 simpa using h
theorem aad(h:K (.bool false) w):zd Tryz.prog Tryz.xR #[.int .i64 x] w K:=by
 refine Tryz.Jn ?_
 unfold Tryz.Zv
 refine gg_ ?_
 simpa using h
def yU(x y:Int):Int:=if x<y then -1 else if y<x then 1 else 0
theorem xa:yU x y=0↔x=y:=by
 unfold yU;split
 ·constructor<;>intro h<;>omega
 split<;>constructor<;>intro h<;>omega
theorem Vq(h:K (.int .i64 (yU x y)) w):zd Tryz.prog Tryz.jQ #[.int .i64 x,.int .i64 y] w K:=by
 refine Tryz.aac ?_
 unfold Tryz.Y2
 refine abC (abC (c_f rfl (c_f rfl ?_)))
 unfold yU at h
 refine gg_ ?_
 refine zf (λh1=>?_) (λh1=>?_)
 ·rwa[if_pos h1]at h
 refine gg_ ?_
 refine zf (λh2=>?_) (λh2=>?_)
 ·rwa[if_neg h1,if_pos h2]at h
 ·rwa[if_neg h1,if_neg h2]at h
theorem Jo(h:K (.int .i64 (yU x y)) w):zd Tryz.prog Tryz.kL #[.int .i64 x,.int .i64 y] w K:=by
 refine Tryz.X1 ?_
 unfold Tryz.j2
 refine aad (aad (c_f rfl (c_f rfl ?_)))
 unfold yU at h
 refine gg_ ?_
 refine zf (λh1=>?_) (λh1=>?_)
 ·rwa[if_pos h1]at h
 refine gg_ ?_
 refine zf (λh2=>?_) (λh2=>?_)
 ·rwa[if_neg h1,if_pos h2]at h
 ·rwa[if_neg h1,if_neg h2]at h
theorem acm{l m:List Int}{va vb:Value}{K:Value→World→Prop}(hr:Holds r w)(ha:SlB 1 r yE va l)(hb:SlB 1 r yE vb m)
  (h:∀x w',Ext w w'→(x=0↔l=m)→K (.int .i64 x) w'):zd Tryz.prog Tryz.yj #[va,vb] w K:=by
 refine Tryz.xL ?_
 unfold Tryz.yP
 obtain⟨pa,ca,rfl,_,_⟩:=ha.sl.shape
 obtain⟨pb,cb,rfl,_,_⟩:=hb.sl.shape
 have hla:l.length≤9223372036854775807:=ha.few
 have S:=St.start hr
 refine gg_ ?_
 refine zh (ι:=Nat) (λi=>[.int .i64 (i:Nat)]) (λi w'=>i≤l.length∧i≤m.length∧l.take i=m.take i∧StX noX w r w' []) (λi=>l.length-i) 0 rfl ⟨gzl _,gzl _,rfl,S⟩ ?_
 clear S
 rintro i d w4 ⟨hi,him,htk,S⟩ K1 hK1
 rw[gdz]
 refine gg_ ?_
 refine zf (λhlt=>?_) (λhge=>?_)
 ·have hlt:i<l.length:=by omega
  obtain⟨ba,oa,c,rfl,hcl,⟨rfl,_⟩,hca⟩:=ha.sl.get (by decide) hlt
  refine gg_ ?_
  refine zg (v:=.int .i64 l[i]) (by simpa using S.at (hca 0 _ rfl)) ?_
  refine gg_ ?_
  refine zf (λhbig=>?_) (λhsm=>?_)
  ·refine h 1 _ S.ext ⟨λe=>absurd e (by decide),λe=>?_⟩
   subst e;omega
  have hlt2:i<m.length:=by omega
  obtain⟨bb,ob,d,rfl,hdl,⟨rfl,_⟩,hcb⟩:=hb.sl.get (by decide) hlt2
  refine gg_ ?_
  refine zg (v:=.int .i64 m[i]) (by simpa using S.at (hcb 0 _ rfl)) ?_
  refine Jo ?_
  refine gg_ ?_
  refine zf (λhne=>?_) (λheq=>?_)
  ·refine h _ _ S.ext ⟨λe=>absurd e hne,λe=>?_⟩
   subst e;exact xa.2 rfl
  ·have he:l[i]=m[i]:=xa.1 (Decidable.not_not.1 heq)
   refine gg_ ?_
   refine hK1 (i+1) _ ⟨hlt,hlt2,?_,S⟩ (by omega)
   rw[List.take_succ_eq_append_getElem hlt,List.take_succ_eq_append_getElem hlt2,htk,he]
 have hie:i=l.length:=by omega
 subst hie
 rw[List.take_length]at htk
 refine gg_ ?_
 refine zf (λh1=>?_) (λh1=>?_)
 ·refine h _ _ S.ext ⟨λe=>absurd e (by decide),λe=>?_⟩
  subst e;omega
 ·refine h _ _ S.ext ⟨λ_=>?_,λ_=>rfl⟩
  rw[htk,List.take_of_length_le (by omega)]
theorem akN{b:Nat}{K:Value→World→Prop}(hr:Holds r w)(h0:Ob r λw=>w.cell? ⟨b,0,none⟩=some (.int .i64 x))(h1:Ob r λw=>w.cell? ⟨b,1,none⟩=some (.int .i64 y))
  (h:∀w',Ext w w'→K (.int .i64 (if x≠0 then x else y)) w'):zd Tryz.prog Tryz.Zm #[.slice (some ⟨b,0,none⟩) 2 2] w K:=by
 refine Tryz.Vp ?_
 unfold Tryz.XP
 have S:=St.start hr
 refine gg_ ?_
 refine zh (ι:=Nat) (λi=>[.int .i64 (i:Nat)]) (λi w'=>i≤2∧(0<i→x=0)∧(1<i→y=0)∧StX noX w r w' []) (λi=>2-i) 0 rfl ⟨by decide,λh=>absurd h (by decide),λh=>absurd h (by decide),S⟩ ?_
 clear S
 rintro i d w4 ⟨hi,hx,hy,S⟩ K1 hK1
 rw[gdz]
 refine gg_ ?_
 refine zf (λhlt=>?_) (λhge=>?_)
 ·have hi2:i=0∨i=1:=by omega
  rcases hi2 with rfl|rfl
  ·refine gg_ ?_
   refine zg (v:=.int .i64 x) (by simpa using S.at h0) ?_
   refine gg_ ?_
   refine zf (λhne=>?_) (λheq=>?_)
   ·have:=h _ S.ext;rwa[if_pos hne]at this
   refine gg_ ?_
   exact hK1 1 _ ⟨by decide,λ_=>by omega,λh=>absurd h (by decide),S⟩ (by decide)
  ·refine gg_ ?_
   refine zg (v:=.int .i64 y) (by simpa using S.at h1) ?_
   refine gg_ ?_
   refine zf (λhne=>?_) (λheq=>?_)
   ·have:=h _ S.ext;rwa[if_neg (by have:=hx (by decide);omega)]at this
   refine gg_ ?_
   exact hK1 2 _ ⟨by decide,λ_=>hx (by decide),λ_=>by omega,S⟩ (by decide)
 have hie:i=2:=by omega
 subst hie
 have:=h _ S.ext
 rwa[if_neg (by have:=hx (by decide);omega),hy (by decide)]at this
theorem PlD.eq_iff:p=q↔p.l=q.l∧p.ps=q.ps:=by
 cases p;cases q;simp
theorem afy{K:Value→World→Prop}(hr:Holds r w)(hp:PlG r c p)(hq:PlG r d q)
  (h:∀x w',Ext w w'→(x=0↔p=q)→K (.int .i64 x) w'):zd Tryz.prog Tryz.yW #[.agg c.toArray,.agg d.toArray] w K:=by
 refine Tryz.Jm ?_
 unfold Tryz.YS
 obtain⟨v,rfl,hv⟩:=hp
 obtain⟨u,rfl,hu⟩:=hq
 obtain⟨pa,ca,rfl,_,_⟩:=hv.sl.shape
 obtain⟨pb,cb,rfl,_,_⟩:=hu.sl.shape
 have S:=St.start hr
 refine S.box λb2 w1 S=>?_
 have S:StX noX w r w1 [.cell b2 [.int .i64 p.l,.slice pa p.ps.length ca] 59]:=S
 refine S.box λb3 w2 S=>?_
 have S:StX noX w r w2 [.cell b3 [.int .i64 q.l,.slice pb q.ps.length cb] 59,.cell b2 [.int .i64 p.l,.slice pa p.ps.length ca] 59]:=S
 have S:=S.go (Ext.drew _)
 refine gg_ ?_
 refine Vq ⟨Ext.refl _,?_⟩
 refine acm S.holds hv hu λx w4 e4 hx=>?_
 have S:=S.go e4
 refine S.lit (e:=3) (cs:=[.int .i64 (yU p.l q.l),.int .i64 x]) (by kernel_rfl) λb15 w5 S=>?_
 have hB:=S.blk b15
 refine akN (x:=yU p.l q.l) (y:=x) (r:=Go.Sh.one b15 [.int .i64 (yU p.l q.l),.int .i64 x] 3) (qe hB) (λw h=>((yH w h).cell 0).trans rfl) (λw h=>((yH w h).cell 1).trans rfl) λw6 e6=>?_
 refine h _ _ (S.go e6).ext ?_
 rw[PlD.eq_iff,← hx,← xa (x:=p.l)]
 constructor
 ·intro e
  split at e
  ·exact absurd e (by assumption)
  ·exact⟨by omega,e⟩
 ·rintro⟨e1,e2⟩
  rw[if_neg (by omega),e2]
theorem aae{K:Value→World→Prop}(hr:Holds r w)(hp:PlG r c p)(hq:PlG r d q)
  (h:∀w',Ext w w'→K (.bool (eqb p q)) w'):zd Tryz.prog Tryz.Zl #[.agg c.toArray,.agg d.toArray] w K:=by
 refine Tryz.afx ?_
 unfold Tryz.aab
 obtain⟨v,rfl,hv⟩:=id hp
 obtain⟨u,rfl,hu⟩:=id hq
 have S:=St.start hr
 refine S.box λb2 w1 S=>?_
 refine S.box λb3 w2 S=>?_
 refine S.ldB (b:=b2) ?_ rfl
 refine S.ldB (b:=b3) ?_ rfl
 refine afy S.holds hp hq λx w4 e4 hx=>?_
 refine gg_ ?_
 have:=h _ (S.go e4).ext
 rwa[← ajM (b:=decide (x=0)) (by rw[decide_eq_true_iff,hx])]at this
end
end Go.Proofs
