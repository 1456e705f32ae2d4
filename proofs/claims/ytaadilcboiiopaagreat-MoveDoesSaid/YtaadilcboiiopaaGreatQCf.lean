/-
  Contracts and plain laws that the last text leans on.
-/
import Derived.Test.YtaadilcboiiopaaGreatQCe
import Derived.Test.YtaadilcboiiopaaGreatQCd
import Derived.Shelf.Sort.Plain
import Derived.Shelf.Bits.Mul64
import Derived.Shelf.Slices.Reverse
import Derived.Shelf.Slices.Clone
import Derived.Shelf.Slices.CompactI
import Derived.Shelf.Slices.In.SortNone
import Derived.Test.YtaadilcboiiopaaGreatProg
import Derived.KernelRfl
import Derived.Test.YtaadilcboiiopaaGreatQCa
import Derived.Test.YtaadilcboiiopaaGreatQCc
import Derived.Lib.TrailingZeros
import Derived.Test.YtaadilcboiiopaaGreatQCb
import Derived.ChangeKeysEq
import Derived.WideKeyRuns
set_option maxRecDepth 100000
set_option maxHeartbeats 8000000
set_option linter.unusedVariables false
set_option linter.unusedSimpArgs false
namespace Go.Sh
theorem akT{w:World}{b x y z:Bool}{A1:(List Value→World→Prop)→Prop}{A2 A3:(List Value→World→Prop)→World→Prop}{Z:Value→World→Prop}
  (h1:b=true→∀K:List Value→World→Prop,K [.bool x] w→A1 K) (h2:b=true→∀K:List Value→World→Prop,K [.bool y] w→A2 K w) (h3:b=true→∀K:List Value→World→Prop,K [.bool z] w→A3 K w)
  (hZ:Z (.bool (b&&(x||(y&&z)))) w):
  za (λK=>gIf (.bool b) true (A1 K) (K [u_] w)) λs80 _ w82=>
   za (λK=>gIf (s80.getD 0 u_) false (A2 K w82) (K [u_] w82)) λs84 _ w86=>
    za (λK=>gIf (s84.getD 0 u_) true (A3 K w86) (K [u_] w86)) λs88 _ w90=>
     za (λK=>gIf (s80.getD 0 u_) false (zb (s84.getD 0 u_) (s88.getD 0 u_) (.bool false) λt=>K [t] w90) (K [u_] w90)) λs92 _ w94=>
      za (λK=>gIf (.bool b) true (zb (s80.getD 0 u_) (.bool true) (s92.getD 0 u_) λt=>K [t] w94) (K [u_] w94)) λs96 _ w98=>
       zb (.bool b) (s96.getD 0 u_) (.bool false) λt=>Z t w98:=by
 cases b<;>cases x<;>cases y<;>cases z <;>
  (iterate 5 (intro K hK;first|refine hK _ _ λ_=>?_|refine h1 rfl _ (hK _ _ λ_=>?_)|refine h2 rfl _ (hK _ _ λ_=>?_)|refine h3 rfl _ (hK _ _ λ_=>?_)|refine ⟨_,rfl,hK _ _ λ_=>?_⟩)) <;>
  exact⟨_,rfl,by simpa using hZ⟩
theorem ams{w:World}{b c d e:Bool}{A1:(List Value→World→Prop)→Prop}{A2 A3:(List Value→World→Prop)→World→Prop}{Z:Value→World→Prop}
  (h1:∀K:List Value→World→Prop,K [.bool c] w→A1 K) (h2:∀K:List Value→World→Prop,K [.bool d] w→A2 K w) (h3:∀K:List Value→World→Prop,K [.bool e] w→A3 K w)
  (hZ:Z (.bool (b||((c&&d)&&e))) w):
  za (λK=>gIf (.bool b) false (A1 K) (K [u_] w)) λs153 _ w155=>
   za (λK=>gIf (s153.getD 0 u_) true (A2 K w155) (K [u_] w155)) λs157 _ w159=>
    za (λK=>gIf (.bool b) false (zb (s153.getD 0 u_) (s157.getD 0 u_) (.bool false) λt=>K [t] w159) (K [u_] w159)) λs161 _ w163=>
     za (λK=>gIf (s161.getD 0 u_) true (A3 K w163) (K [u_] w163)) λs165 _ w167=>
      za (λK=>gIf (.bool b) false (zb (s161.getD 0 u_) (s165.getD 0 u_) (.bool false) λt=>K [t] w167) (K [u_] w167)) λs169 _ w171=>
       zb (.bool b) (.bool true) (s169.getD 0 u_) λt=>Z t w171:=by
 cases b<;>cases c<;>cases d<;>cases e <;>
  (iterate 5 (intro K hK;first|refine hK _ _ λ_=>?_|refine h1 _ (hK _ _ λ_=>?_)|refine h2 _ (hK _ _ λ_=>?_)|refine h3 _ (hK _ _ λ_=>?_)|refine ⟨_,rfl,hK _ _ λ_=>?_⟩)) <;>
  exact⟨_,rfl,by simpa using hZ⟩
end Go.Sh
namespace Go.Proofs
open Go.Sh
theorem agU{bt:Nat}{M:List Asr}{w0:World}{r:Gh}{t:TyD}{v:Value}{f:Nat→Nat→Bool}{w:World}{K:Value→World→Prop}(hv:TyG r v t)(hx:∀x∈regsT t,0≤x∧x<8)
  (S:StX noX w0 r w (.cell bt (zR f) 204::M))
  (h:∀w',StX noX w0 r w' (.cell bt (zR (JQ f (regsT t))) 204::M)→K (.tuple #[]) w'):zd Tryz.prog Tryz.Xr #[v,.pointer (some ⟨bt,0,none⟩)] w K:=by
 refine Tryz.afC ?_
 unfold Tryz.aai
 have hv0:=hv
 obtain⟨p1,cap1,rfl,_⟩:=hv
 refine S.box λb2 w1 S=>?_
 have S:StX noX w0 r w1 (.cell b2 (tyL t p1 cap1) 112::.cell bt (zR f) 204::M):=S
 refine S.ldB (b:=b2) ?_ rfl
 refine Qj S.holds hv0 λv7 w7 e7 o7=>?_
 obtain⟨s1,p7,cap7,n7,nb7,rfl,_,hc7,hs7⟩:=ago o7
 have S:=(S.new e7 n7).tl
 have hr48:(regsT t).length≤1000:=by
  rw[regsT];split
  ·have:=Qk (by assumption);omega
  ·simp
 generalize regsT t=l at hx h hs7 hr48⊢
 refine zh (ι:=Nat×(Nat→Nat→Bool)) (λi=>[.int .i64 (i.1:Nat)]) (λi w'=>i.1≤l.length∧(∀x y:Nat,JQ i.2 (l.drop i.1) x y=JQ f l x y)∧StX noX w0 (r.or s1) w' (.cell bt (zR i.2) 204::M)) (λi=>l.length-i.1) (0,f) rfl ⟨gzl _,λx y=>rfl,S⟩ ?_
 clear S
 rintro⟨i,g⟩ d w2 ⟨hi,hbit,S⟩ K3 hK3
 simp only at hi hbit S⊢
 rw[gdz]
 refine gg_ ?_
 refine zf (λhlt=>?_) (λhge=>?_)
 rotate_left
 ·have hie:i=l.length:=by omega
  refine h _ ?_
  have e:zR g=zR (JQ f l):=yO λx y _ _=>by
   have:=hbit x y
   rw[hie,List.drop_length]at this
   rw[← this]
   show g x y=(g x y||qF x y [])
   rw[qF,Bool.or_false]
  rw[← e]
  exact S.to r
 have hlt:i<l.length:=by omega
 have hdrop:l.drop i=l[i]::l.drop (i+1):=List.drop_eq_getElem_cons hlt
 obtain⟨ha0,ha8⟩:=hx _ (gem hlt)
 obtain⟨bq,oq,rfl,hxi⟩:=aiK hs7 (S.holds.le (h:=inferInstance)) hlt
 generalize hai:l[i]=a at hdrop ha0 ha8 hxi
 have hrl:(l.drop (i+1)).length=l.length-(i+1):=List.length_drop
 refine gg_ ?_
 refine zh (ι:=Nat) (λj=>[.int .i64 ((i:Int)+1+(j:Nat))]) (λj w'=>j≤(l.drop (i+1)).length∧StX noX w0 (r.or s1) w' (.cell bt (zR (YQ g a ((l.drop (i+1)).take j))) 204::M)) (λj=>(l.drop (i+1)).length-j) 0 (by simp) ⟨gzl _,by
  rw[yO (f:=YQ g a ((l.drop (i+1)).take 0)) (g:=g) (λx y _ _=>by simp[YQ])]
  exact S⟩ ?_
 clear S
 rintro j d w3 ⟨hj,S⟩ K7 hK7
 rw[gdz]
 refine gg_ ?_
 refine zf (λhlt2=>?_) (λhge2=>?_)
 ·have hlt2:j<(l.drop (i+1)).length:=by omega
  have hlt3:i+1+j<l.length:=by omega
  have hel:(l.drop (i+1))[j]=l[i+1+j]:=List.getElem_drop
  obtain⟨bk,ok,hbe,hxk⟩:=aiK hs7 (S.holds.le (h:=inferInstance)) hlt3
  cases hbe
  obtain⟨hi0,hi8⟩:=hx _ (gem hlt3)
  have S:=S.go (Ext.drew _)
  rw[show ((i:Int)+1+(j:Nat))=((i+1+j:Nat):Int)by omega]
  refine gg_ ?_
  refine zg (by rw[tnc];exact S.at hxk) ?_
  refine gg_ ?_
  refine zg (by simpa using S.at hxi) ?_
  refine gg_ ?_
  refine S.st (b:=bt) (λw4 S=>?_) (by rw[vx];omega)
  refine gg_ ?_
  rw[show (((i+1+j:Nat):Int)+1)=((i:Int)+1+((j+1:Nat):Int))by omega]
  refine hK7 (j+1) _ ⟨hlt2,?_⟩ (by omega)
  rw[show 0+l[i+1+j].toNat*8+a.toNat*1=l[i+1+j].toNat*8+a.toNat by omega,JO (by omega) (by omega)]at S
  rw[yO (f:=YQ g a ((l.drop (i+1)).take (j+1))) (g:=λx y=>YQ g a ((l.drop (i+1)).take j) x y||(decide (x=l[i+1+j].toNat)&&decide (y=a.toNat))) (λx y _ _=>by
   show(g x y||(decide (a=(y:Int))&&((l.drop (i+1)).take (j+1)).contains (x:Int)))=((g x y||(decide (a=(y:Int))&&((l.drop (i+1)).take j).contains (x:Int)))||(decide (x=l[i+1+j].toNat)&&decide (y=a.toNat)))
   rw[agF hlt2,hel,show decide ((x:Int)=l[i+1+j])=decide (x=l[i+1+j].toNat)from decide_eq_decide.2 (by omega),show decide (a=(y:Int))=decide (y=a.toNat)from decide_eq_decide.2 (by omega)]
   cases g x y<;>cases decide (y=a.toNat)<;>cases ((l.drop (i+1)).take j).contains (x:Int)<;>cases decide (x=l[i+1+j].toNat)<;>rfl)]
  exact S
 ·have hje:j=(l.drop (i+1)).length:=by omega
  rw[hje,List.take_length]at S
  refine gg_ ?_
  rw[show ((i:Int)+1)=((i+1:Nat):Int)by omega]
  refine hK3 (i+1,YQ g a (l.drop (i+1))) _ ⟨hlt,λx y=>?_,S⟩ (by simp only;omega)
  rw[← hbit x y,hdrop]
  show((g x y||(decide (a=(y:Int))&&(l.drop (i+1)).contains (x:Int)))||qF x y (l.drop (i+1)))=(g x y||qF x y (a::l.drop (i+1)))
  rw[aeX,Bool.or_assoc]
section
variable {u:UnD} {v:Value} {w:World} {r:Gh} {K:Value→World→Prop}
theorem agV{i:Nat}{K:Value→World→Prop}(hi:i<u.fs.length)(hok:(zw u.ss).2=0)(hr:Holds r w)(hu:UnG r v u)
  (h:∀w',Ext w w'→K (.bool (xh u i u.fs[i])) w'):zd Tryz.prog Tryz.Xq #[v,.int .i64 (i:Nat)] w K:=by
 obtain⟨p0,cap0,vf,rfl,_,_,hst,hsl,hfn⟩:=hu
 obtain⟨qf,capf,rfl,_,_⟩:=hfn.sl.shape
 obtain⟨bf,of,cf,rfl,hcf,hgc,hfo⟩:=hfn.sl.get (by decide) hi
 have hfl:u.fs.length≤9223372036854775807:=hfn.few
 refine Tryz.afB ?_
 unfold Tryz.aah
 generalize hgi:u.fs[i]=g at h hgc
 obtain⟨vo,vt,vn,vp,rfl,h1,h2,h3,h4⟩:=id hgc
 obtain⟨qo,capo,rfl,_,_⟩:=h1.sl.shape
 obtain⟨qt,capt,rfl,_,hct⟩:=h2.sl.shape
 obtain⟨qn,capn,rfl,_,_⟩:=h3.sl.shape
 obtain⟨qp,capp,rfl,_,_⟩:=h4.sl.shape
 have hptl:g.pts.length≤9223372036854775807:=h4.few
 have htl:g.tys.length≤9223372036854775807:=h2.few
 have hol:g.outs.length≤9223372036854775807:=h1.few
 have S:=St.start hr
 refine S.box λb2 w1 S=>?_
 have S:StX noX w r w1 [.cell b2 [.slice p0 u.ss.length cap0,.slice (some ⟨bf,of,none⟩) u.fs.length capf,.int .i64 u.mn] 25]:=S
 refine gg_ ?_
 refine zp (n:=7) hcf (λj v hj=>by rw[tnc];exact S.at (hfo j v hj)) ?_
 refine S.al λb5 w2 S=>?_
 refine S.stB (b:=b5) λw3 S=>?_
 have S:StX noX w r w3 [.cell b5 [.string g.name,.int .i64 g.lv,.slice qo g.outs.length capo,.int .i64 g.pn,.slice qt g.tys.length capt,.slice qn g.nms.length capn,.slice qp g.pts.length capp] 74,
  .cell b2 [.slice p0 u.ss.length cap0,.slice (some ⟨bf,of,none⟩) u.fs.length capf,.int .i64 u.mn] 25]:=S
 refine gg_ ?_
 have no:(HeadU u i g→False)→xh u i g=false:=λhh=>by
  cases e:xh u i g
  ·rfl
  ·exact(hh (adi e)).elim
 refine zj (c:=decide (8<g.lv)) (λ_ K2 hK2=>by refine gg_ ?_;exact hK2) ?_
 refine zj (c:=decide (g.pn<0)) (λ_ K2 hK2=>by refine gg_ ?_;exact hK2) ?_
 refine zj (c:=decide (8<g.pn)) (λ_ K2 hK2=>by refine gg_ ?_;exact hK2) ?_
 refine zj (c:=decide ((g.tys.length:Int)≤g.pn)) (λ_ K2 hK2=>by refine gg_ ?_;exact hK2) ?_
 refine zj (c:=decide (512<g.tys.length)) (λ_ K2 hK2=>?_) ?_
 ·refine gg_ ?_
  rw[show decide ((512:Int)<(g.tys.length:Int))=decide (512<g.tys.length)from decide_eq_decide.2 (by omega)]
  exact hK2
 refine zj (c:=decide (g.nms.length≠g.tys.length)) (λ_ K2 hK2=>?_) ?_
 ·refine gg_ ?_
  rw[adj]
  exact hK2
 refine c_b (λhbad=>?_) (λhgood=>?_)
 ·rw[no λH=>by
   have:=H.lv0;have:=H.lv8;have:=H.pn0;have:=H.pn8;have:=H.pn1;have:=H.ty512;have:=H.nms
   simp only[Bool.or_eq_true,gdt]at hbad;omega]at h
  exact h _ S.ext
 have hnum:(0≤g.lv∧g.lv≤8∧0≤g.pn∧g.pn≤8)∧g.pn<g.tys.length∧g.tys.length≤512∧g.nms.length=g.tys.length:=by
  simp only[Bool.or_eq_false_iff,decide_eq_false_iff_not]at hgood;omega
 clear hgood
 obtain⟨⟨hlv0,hlv8,hpn0,hpn8⟩,hpn1,hty,hnm⟩:=hnum
 refine zh (ι:=Nat) (λi=>[.int .i64 (i:Nat)]) (λj w'=>j≤g.tys.length∧jT u g j (g.tys.drop j)=jT u g 0 g.tys∧StX noX w r w' [.cell b5 [.string g.name,.int .i64 g.lv,.slice qo g.outs.length capo,.int .i64 g.pn,.slice qt g.tys.length capt,.slice qn g.nms.length capn,.slice qp g.pts.length capp] 74,
  .cell b2 [.slice p0 u.ss.length cap0,.slice (some ⟨bf,of,none⟩) u.fs.length capf,.int .i64 u.mn] 25]) (λi=>g.tys.length-i) 0 rfl ⟨gzl _,rfl,S⟩ ?_
 clear S
 rintro j d w5 ⟨hj,hd,S⟩ K6 hK6
 rw[gdz]
 refine gg_ ?_
 refine zf (λhlt=>?_) (λhge=>?_)
 ·have hlt:j<g.tys.length:=by omega
  obtain⟨bt,ot,ct,rfl,hct,htc,hcell⟩:=h2.sl.get (by decide) hlt
  obtain⟨q2,cap2,rfl,ht2⟩:=yJ htc
  rw[ae3 hlt]at hd
  have S:=S.go (Ext.drew _)
  refine gg_ ?_
  refine zp (n:=5) hct (λj v hj=>by rw[tnc];exact S.at (hcell j v hj)) ?_
  refine gg_ ?_
  refine Zx 48 (by decide) S.holds ht2 λw8 e8=>?_
  have S:=S.go e8
  rw[agO]
  refine gp_ ?_
  have hmay:zP u.ss g.tys[j]=zE u.ss.length 48 g.tys[j]:=by rw[zP,gde hok,Bool.true_and]
  rw[← hmay]
  refine c_b (λhm=>?_) (λhm=>?_)
  ·have hm:zP u.ss g.tys[j]=false:=by simpa using hm
   rw[no λH=>by
    have:=H.tys
    rw[← hd,tyG,hm,Bool.false_and,Bool.false_and]at this;cases this]at h
   exact h _ S.ext
  have hm:zP u.ss g.tys[j]=true:=by simpa using hm
  refine gg_ ?_
  refine zp (n:=5) hct (λj v hj=>by rw[tnc];exact S.at (hcell j v hj)) ?_
  refine Qj S.holds ht2 λv7 w12 e12 o12=>?_
  obtain⟨s7,p7,cap7,n7,nb7,rfl,_,_,hs7⟩:=ago o12
  have S:=S.new e12 n7
  have hlow:∀x∈regsT g.tys[j],-1≤x:=λx hx=>by
   rw[regsT]at hx
   split at hx
   ·exact akE 48 (Ys hm).2 x hx
   ·cases hx
  have hr48:(regsT g.tys[j]).length≤1000:=by
   rw[regsT];split
   ·have:=Qk (by assumption);omega
   ·simp
  have hty2:tyG u g j g.tys[j] = !((regsT g.tys[j]).any λx=>decide (g.lv≤x)||(decide ((j:Int)≤g.pn)&&decide (x<0))):=by
   rw[ah1,hm,Bool.true_and]
   congr 1
   rw[Bool.eq_iff_iff,List.any_eq_true,List.any_eq_true]
   constructor<;>rintro ⟨x,hx,hc⟩<;>refine ⟨x,hx,?_⟩<;>have:=hlow x hx<;>simp only[Bool.or_eq_true,gba,gdt]at hc⊢
   ·rcases hc with hc|hc
    ·split at hc
     ·exact .inr ⟨by assumption,hc⟩
     ·omega
    ·exact .inl hc
   ·rcases hc with hc|⟨hc,hc2⟩
    ·exact .inr hc
    ·rw[if_pos hc];exact .inl hc2
  generalize regsT g.tys[j]=l at hs7 hr48 hty2⊢
  refine zh (ι:=Nat) (λk=>[.int .i64 (k:Nat)]) (λk w'=>k≤l.length∧((l.take k).any λx=>decide (g.lv≤x)||(decide ((j:Int)≤g.pn)&&decide (x<0)))=false∧StX noX w (r.or s7) w' [.cell b5 [.string g.name,.int .i64 g.lv,.slice qo g.outs.length capo,.int .i64 g.pn,.slice (some ⟨bt,ot,none⟩) g.tys.length capt,.slice qn g.nms.length capn,.slice qp g.pts.length capp] 74,
   .cell b2 [.slice p0 u.ss.length cap0,.slice (some ⟨bf,of,none⟩) u.fs.length capf,.int .i64 u.mn] 25]) (λk=>l.length-k) 0 rfl ⟨gzl _,by simp,S⟩ ?_
  clear S
  rintro k d w13 ⟨hk,hany,S⟩ K7 hK7
  rw[gdz]
  refine gg_ ?_
  refine zf (λhlt2=>?_) (λhge2=>?_)
  ·have hlt2:k<l.length:=by omega
   obtain⟨bk,ok,rfl,hxk⟩:=aiK hs7 (S.holds.le (h:=inferInstance)) hlt2
   have S:=S.go (Ext.drew _)
   refine gg_ ?_
   refine zg (by simpa using S.at hxk) ?_
   refine gg_ ?_
   refine ZZ (g:=decide ((j:Int)≤g.pn)) (c:=decide (l[k]<0)) (λ_ K2 hK2=>by refine gg_ ?_;exact hK2) (λ_ K2 hK2=>?_) ?_
   ·refine gg_ ?_
    refine zg (by simpa using S.at hxk) ?_
    refine gg_ ?_
    exact hK2
   refine c_b (λhbad=>?_) (λhgood=>?_)
   ·have hA:(l.any λx=>decide (g.lv≤x)||(decide ((j:Int)≤g.pn)&&decide (x<0)))=true:=List.any_eq_true.2 ⟨_,gem hlt2,hbad⟩
    rw[hty2,hA,Bool.not_true,Bool.false_and]at hd
    rw[no λH=>by have:=H.tys;rw[← hd]at this;cases this]at h
    exact h _ S.ext
   ·refine gg_ ?_
    rw[show ((k:Int)+1)=((k+1:Nat):Int)by omega]
    refine hK7 (k+1) _ ⟨hlt2,?_,S⟩ (by omega)
    rw[List.take_succ_eq_append_getElem hlt2,List.any_append,hany]
    simp only[List.any_cons,List.any_nil,Bool.false_or,Bool.or_false]
    exact hgood
  ·have hke:k=l.length:=by omega
   rw[hke,List.take_length]at hany
   rw[hty2,hany,Bool.not_false,Bool.true_and]at hd
   refine gg_ ?_
   rw[show ((j:Int)+1)=((j+1:Nat):Int)by omega]
   exact hK6 (j+1) _ ⟨hlt,hd,S.to r⟩ (by omega)
 have hje:j=g.tys.length:=by omega
 rw[hje,List.drop_length]at hd
 have htys:jT u g 0 g.tys=true:=hd.symm
 clear hd hK6 K6 hge hj hje
 refine S.al λb9 w20 S=>?_
 refine S.al λb10 w21 S=>?_
 have S:StX noX w r w21 [.cell b9 (zR λ_ _=>false) 204,.cell b10 (zR λ_ _=>false) 204,.cell b5 [.string g.name,.int .i64 g.lv,.slice qo g.outs.length capo,.int .i64 g.pn,.slice qt g.tys.length capt,.slice qn g.nms.length capn,.slice qp g.pts.length capp] 74,
  .cell b2 [.slice p0 u.ss.length cap0,.slice (some ⟨bf,of,none⟩) u.fs.length capf,.int .i64 u.mn] 25]:=S.swap
 refine zh (ι:=Nat) (λi=>[.int .i64 (i:Nat)]) (λj w'=>j≤g.pn.toNat+1∧StX noX w r w' [.cell b9 (zR (muF (g.tys.take j))) 204,.cell b10 (zR λ_ _=>false) 204,.cell b5 [.string g.name,.int .i64 g.lv,.slice qo g.outs.length capo,.int .i64 g.pn,.slice qt g.tys.length capt,.slice qn g.nms.length capn,.slice qp g.pts.length capp] 74,
  .cell b2 [.slice p0 u.ss.length cap0,.slice (some ⟨bf,of,none⟩) u.fs.length capf,.int .i64 u.mn] 25]) (λi=>g.pn.toNat+1-i) 0 rfl ⟨gzl _,by
   rw[yO (f:=muF (g.tys.take 0)) (g:=λ_ _=>false) (λx y _ _=>by simp[muF,vj])]
   exact S⟩ ?_
 clear S
 rintro j d w22 ⟨hj,S⟩ K6 hK6
 rw[gdz]
 refine gg_ ?_
 refine zf (λhlt=>?_) (λhge=>?_)
 ·have hlt:j<g.tys.length:=by omega
  obtain⟨bt,ot,ct,rfl,hct,htc,hcell⟩:=h2.sl.get (by decide) hlt
  obtain⟨q2,cap2,rfl,ht2⟩:=yJ htc
  refine gg_ ?_
  refine zp (n:=5) hct (λj v hj=>by rw[tnc];exact S.at (hcell j v hj)) ?_
  have hreg:∀x∈regsT g.tys[j],0≤x∧x<8:=λx hx=>by
   have:=acf htys (j:=j) hlt (by omega) x hx
   omega
  refine agU ht2 hreg S λw23 S=>?_
  refine gg_ ?_
  rw[show ((j:Int)+1)=((j+1:Nat):Int)by omega]
  refine hK6 (j+1) _ ⟨by omega,?_⟩ (by omega)
  rw[yO (f:=muF (g.tys.take (j+1))) (g:=JQ (muF (g.tys.take j)) (regsT g.tys[j])) (λx y _ _=>aeY hlt)]
  exact S
 have hje:j=g.pn.toNat+1:=by omega
 rw[hje]at S
 clear hK6 K6 hge hj hje
 have hout:jH g=true↔ja g.lv none g.outs=true∧(List.range g.lv.toNat).all (clF g.lv.toNat (muF (g.tys.take (g.pn.toNat+1))) (syF g.outs))=true:=by
  rw[jH,← ae1,ah0,gba]
 have nout:jH g=false→xh u i g=false:=λe=>no λH=>by have:=H.outs;rw[e]at this;cases this
 generalize hmu:muF (g.tys.take (g.pn.toNat+1))=mu at hout S
 refine zh (ι:=Nat) (λi=>[.int .i64 (i:Nat)]) (λi w'=>i≤g.outs.length∧ja g.lv (jk g.outs i) (g.outs.drop i)=ja g.lv none g.outs∧
  StX noX w r w' [.cell b9 (zR mu) 204,.cell b10 (zR (syF (g.outs.take i))) 204,.cell b5 [.string g.name,.int .i64 g.lv,.slice qo g.outs.length capo,.int .i64 g.pn,.slice qt g.tys.length capt,.slice qn g.nms.length capn,.slice qp g.pts.length capp] 74,
  .cell b2 [.slice p0 u.ss.length cap0,.slice (some ⟨bf,of,none⟩) u.fs.length capf,.int .i64 u.mn] 25]) (λi=>g.outs.length-i) 0 rfl
  ⟨gzl _,rfl,by
   rw[yO (f:=syF (g.outs.take 0)) (g:=λ_ _=>false) (λx y _ _=>by simp[syF,jG])]
   exact S⟩ ?_
 clear S
 rintro k d w24 ⟨hk,hd,S⟩ K6 hK6
 rw[gdz]
 refine gg_ ?_
 refine zf (λhlt=>?_) (λhge=>?_)
 ·have hlt:k<g.outs.length:=by omega
  obtain⟨bo,oo,co,rfl,hco,hoo,hoc⟩:=h1.sl.get (by decide) hlt
  obtain rfl:co=_:=hoo
  rw[agH hlt]at hd
  have hgo:=λ(j:Nat) (hj:j<g.outs.length)=>h1.sl.get (by decide) hj
  obtain⟨⟨o1,o2⟩,ho⟩:∃o,g.outs[k]=o:=⟨_,rfl⟩
  rw[ho]at hd
  have hst:syF (g.outs.take (k+1))=λx y=>syF (g.outs.take k) x y||(decide ((x:Int)=o1)&&decide ((y:Int)=o2)):=by
   funext x y
   show jG _ _ _=(jG _ _ _||_)
   rw[aeZ hlt,ho]
  have hno:ja g.lv none g.outs=false→∀w',Ext w w'→K (.bool false) w':=λe w' ew=>by
   have:=h w' ew
   rw[nout (by
    cases ho:jH g with
    |false=>rfl
    |true=>rw [(hout.1 ho).1]at e;cases e)]at this
   exact this
  refine gg_ ?_
  refine zp (n:=2) hco (λj v hj=>by rw[tnc];exact S.at (hoc j v hj)) ?_
  rw[ho]
  refine S.al λb13 w25 S=>?_
  refine S.stB (b:=b13) λw26 S=>?_
  refine gg_ ?_
  refine zj (c:=decide (g.lv≤o1)) (λ_ K2 hK2=>by refine gg_ ?_;exact hK2) ?_
  refine zj (c:=decide (o2<0)) (λ_ K2 hK2=>by refine gg_ ?_;exact hK2) ?_
  refine zj (c:=decide (g.lv≤o2)) (λ_ K2 hK2=>by refine gg_ ?_;exact hK2) ?_
  refine zj (c:=decide (o1=o2)) (λ_ K2 hK2=>by refine gg_ ?_;exact hK2) ?_
  have hio:kT g.lv (o1,o2) = !((((decide (o1<0)||decide (g.lv≤o1))||decide (o2<0))||decide (g.lv≤o2))||decide (o1=o2)):=by
   rw[kT]
   congr 1
   rw[Bool.eq_iff_iff]
   simp only[Bool.or_eq_true,gdt]
   omega
  refine c_b (λhbad=>?_) (λhgood=>?_)
  ·rw[hio,hbad,Bool.not_true,Bool.false_and,Bool.false_and]at hd
   exact hno hd.symm _ S.ext
  rw[hio,hgood,Bool.not_false,Bool.true_and]at hd
  have hrg:(0≤o1∧o1<8)∧(0≤o2∧o2<8):=by
   simp only[Bool.or_eq_false_iff,decide_eq_false_iff_not]at hgood;omega
  clear hgood hio
  obtain⟨⟨ho10,ho18⟩,ho20,ho28⟩:=hrg
  have S:=S.go (Ext.drew _)
  obtain⟨⟨p1,p2⟩,hp⟩:∃o,(g.outs[k-1]?).getD (0,0)=o:=⟨_,rfl⟩
  have hpv:0<k→∃(hl:k-1<g.outs.length),g.outs[k-1]=(p1,p2):=λhpos=>by
   have hl:k-1<g.outs.length:=by omega
   rw[gqg hl]at hp
   exact⟨hl,hp⟩
  have hprev:0<k→∀j v,[Value.int .i64 p1,.int .i64 p2][j]? = some v→Ob r λw=>w.cell? ⟨bo,oo+(k-1)*2+j,none⟩=some v:=λhpos j v hj=>by
   obtain⟨hl,he⟩:=hpv hpos
   obtain⟨bo2,oo2,co2,hbe,hco2,hoo2,hoc2⟩:=h1.sl.get (by decide) hl
   obtain rfl:co2=_:=hoo2
   cases hbe
   rw[he]at hoc2
   exact hoc2 j v hj
  refine gg_ ?_
  refine akT (x:=decide (o1<p1)) (y:=decide (p1=o1)) (z:=decide (o2≤p2)) (λhb K2 hK2=>?_) (λhb K2 hK2=>?_) (λhb K2 hK2=>?_) ?_
  ·have hpos:0<k:=by simp only[gdt]at hb;omega
   refine gg_ ?_
   refine zg (v:=.int .i64 p1) (by rw[show ((k:Int)-1).toNat=k-1 by omega];simpa using S.at (hprev hpos 0 _ rfl)) ?_
   refine gg_ ?_
   exact hK2
  ·have hpos:0<k:=by simp only[gdt]at hb;omega
   refine gg_ ?_
   refine zg (v:=.int .i64 p1) (by rw[show ((k:Int)-1).toNat=k-1 by omega];simpa using S.at (hprev hpos 0 _ rfl)) ?_
   refine gg_ ?_
   exact hK2
  ·have hpos:0<k:=by simp only[gdt]at hb;omega
   refine gg_ ?_
   refine zg (v:=.int .i64 p2) (by rw[show ((k:Int)-1).toNat=k-1 by omega];exact S.at (hprev hpos 1 _ rfl)) ?_
   refine gg_ ?_
   exact hK2
  rw[ajB (o:=(o1,o2)) (w:=(p1,p2))]
  have haft:aiI (jk g.outs k) (o1,o2) = !(decide ((k:Int)>0) && !Zt (p1,p2) (o1,o2)):=by
   by_cases hpos:0<k
   ·obtain⟨hl,he⟩:=hpv hpos
    rw[jk,if_neg (by omega),gqg hl,he,gde (show(k:Int)>0 by omega),Bool.true_and,Bool.not_not];rfl
   ·rw[jk,if_pos (by omega),decide_eq_false (show¬(k:Int)>0 by omega)];rfl
  refine c_b (λhb=>?_) (λhb=>?_)
  ·rw[haft,hb,Bool.not_true,Bool.false_and]at hd
   exact hno hd.symm _ S.ext
  rw[haft,hb,Bool.not_false,Bool.true_and]at hd
  have S:=S.go (Ext.drew _)
  refine gg_ ?_
  refine S.st (b:=b10) (λw27 S=>?_) (by rw[vx];omega)
  refine gg_ ?_
  rw[show ((k:Int)+1)=((k+1:Nat):Int)by omega]
  refine hK6 (k+1) _ ⟨hlt,hd,?_⟩ (by omega)
  rw[show 0+o1.toNat*8+o2.toNat*1=o1.toNat*8+o2.toNat by omega,JO (by omega) (by omega)]at S
  rw[hst,yO (f:=λx y=>syF (g.outs.take k) x y||(decide ((x:Int)=o1)&&decide ((y:Int)=o2))) (g:=λx y=>syF (g.outs.take k) x y||(decide (x=o1.toNat)&&decide (y=o2.toNat))) (λx y _ _=>by
   show(syF (g.outs.take k) x y||(decide ((x:Int)=o1)&&decide ((y:Int)=o2)))=(syF (g.outs.take k) x y||(decide (x=o1.toNat)&&decide (y=o2.toNat)))
   rw[show decide ((x:Int)=o1)=decide (x=o1.toNat)from decide_eq_decide.2 (by omega),show decide ((y:Int)=o2)=decide (y=o2.toNat)from decide_eq_decide.2 (by omega)])]
  exact S.drop b13
 have hke:k=g.outs.length:=by omega
 rw[hke,List.take_length]at S
 rw[hke,List.drop_length]at hd
 have hoR:ja g.lv none g.outs=true:=by rw[← hd];rfl
 clear hd hK6 K6 hge hk hke
 generalize hsy:syF g.outs=sy at hout S
 obtain⟨n,hn⟩:∃n:Nat,g.lv.toNat=n:=⟨_,rfl⟩
 have hn8:n≤8:=by omega
 have hlvn:g.lv=(n:Int):=by omega
 rw[hn]at hout
 have hno:(List.range n).all (clF n mu sy)=false→∀w',Ext w w'→K (.bool false) w':=λe w' ew=>by
  have:=h w' ew
  rw[nout (by
   cases ho:jH g with
   |false=>rfl
   |true=>rw [(hout.1 ho).2]at e;cases e)]at this
  exact this
 refine zh (ι:=Nat) (λi=>[.int .i64 (i:Nat)]) (λi w'=>i≤n∧((List.range n).drop i).all (clF n mu sy)=(List.range n).all (clF n mu sy)∧
  StX noX w r w' [.cell b9 (zR mu) 204,.cell b10 (zR sy) 204,.cell b5 [.string g.name,.int .i64 g.lv,.slice qo g.outs.length capo,.int .i64 g.pn,.slice qt g.tys.length capt,.slice qn g.nms.length capn,.slice qp g.pts.length capp] 74,
  .cell b2 [.slice p0 u.ss.length cap0,.slice (some ⟨bf,of,none⟩) u.fs.length capf,.int .i64 u.mn] 25]) (λi=>n-i) 0 rfl ⟨gzl _,rfl,S⟩ ?_
 clear S
 rintro a d2 w30 ⟨ha,hda,S⟩ K7 hK7
 rw[gdz]
 refine gg_ ?_
 rw[hlvn]
 refine zf (λhlta=>?_) (λhgea=>?_)
 ·have hlta:a<n:=by omega
  rw[vR hlta]at hda
  refine zh (ι:=Nat) (λi=>[.int .i64 (i:Nat)]) (λi w'=>i≤n∧((List.range n).drop i).all (clG n mu sy a)=(List.range n).all (clG n mu sy a)∧
   StX noX w r w' [.cell b9 (zR mu) 204,.cell b10 (zR sy) 204,.cell b5 [.string g.name,.int .i64 g.lv,.slice qo g.outs.length capo,.int .i64 g.pn,.slice qt g.tys.length capt,.slice qn g.nms.length capn,.slice qp g.pts.length capp] 74,
   .cell b2 [.slice p0 u.ss.length cap0,.slice (some ⟨bf,of,none⟩) u.fs.length capf,.int .i64 u.mn] 25]) (λi=>n-i) 0 rfl ⟨gzl _,rfl,S⟩ ?_
  clear S
  rintro b d3 w31 ⟨hb,hdb,S⟩ K8 hK8
  rw[gdz]
  refine gg_ ?_
  rw[hlvn]
  refine zf (λhltb=>?_) (λhgeb=>?_)
  rotate_left
  ·have hbe:b=n:=by omega
   rw[hbe,vS]at hdb
   have hF:clF n mu sy a=true:=hdb.symm
   rw[hF,Bool.true_and]at hda
   refine gg_ ?_
   rw[show ((a:Int)+1)=((a+1:Nat):Int)by omega]
   exact hK7 (a+1) _ ⟨hlta,hda,S⟩ (by omega)
  have hltb:b<n:=by omega
  rw[vR hltb]at hdb
  have hfalse:clG n mu sy a b=false→(List.range n).all (clF n mu sy)=false:=λe=>by
   rw[e,Bool.false_and]at hdb
   have hF:clF n mu sy a=false:=hdb.symm
   rw[hF,Bool.false_and]at hda
   exact hda.symm
  refine gg_ ?_
  refine zi (c:=mu a b) (λ_ K2 hK2=>?_) ?_
  ·refine gg_ ?_
   refine S.ld (b:=b9) ?_ (jZ (f:=mu) (by omega) (by omega))
   exact hK2
  refine zi (c:=!sy a b) (λ_ K2 hK2=>?_) ?_
  ·refine gg_ ?_
   refine S.ld (b:=b10) ?_ (jZ (f:=sy) (by omega) (by omega))
   refine gg_ ?_
   exact hK2
  have hG:clG n mu sy a b=((List.range n).all (clH sy a b) && !((decide ((a:Int)≠(b:Int))&&mu a b) && !sy a b)):=by
   rw[clG,Bool.and_assoc,show decide ((a:Int)≠(b:Int)) = !decide (a=b)from by rw[← decide_not];exact decide_eq_decide.2 (by omega)]
  refine c_b (λhbad=>?_) (λhgood=>?_)
  ·exact hno (hfalse (by rw[hG,hbad,Bool.not_true,Bool.and_false])) _ S.ext
  rw[hgood,Bool.not_false,Bool.and_true]at hG
  refine zh (ι:=Nat) (λi=>[.int .i64 (i:Nat)]) (λi w'=>i≤n∧((List.range n).drop i).all (clH sy a b)=(List.range n).all (clH sy a b)∧
   StX noX w r w' [.cell b9 (zR mu) 204,.cell b10 (zR sy) 204,.cell b5 [.string g.name,.int .i64 g.lv,.slice qo g.outs.length capo,.int .i64 g.pn,.slice qt g.tys.length capt,.slice qn g.nms.length capn,.slice qp g.pts.length capp] 74,
   .cell b2 [.slice p0 u.ss.length cap0,.slice (some ⟨bf,of,none⟩) u.fs.length capf,.int .i64 u.mn] 25]) (λi=>n-i) 0 rfl ⟨gzl _,rfl,S⟩ ?_
  clear S
  rintro cc d4 w32 ⟨hc,hdc,S⟩ K9 hK9
  rw[gdz]
  refine gg_ ?_
  rw[hlvn]
  refine zf (λhltc=>?_) (λhgec=>?_)
  ·have hltc:cc<n:=by omega
   rw[vR hltc]at hdc
   refine gg_ ?_
   refine zi (c:=sy a b) (λ_ K2 hK2=>?_) ?_
   ·refine gg_ ?_
    refine S.ld (b:=b10) ?_ (jZ (f:=sy) (by omega) (by omega))
    exact hK2
   refine zi (c:=sy b cc) (λ_ K2 hK2=>?_) ?_
   ·refine gg_ ?_
    refine S.ld (b:=b10) ?_ (jZ (f:=sy) (by omega) (by omega))
    exact hK2
   refine zi (c:=!sy a cc) (λ_ K2 hK2=>?_) ?_
   ·refine gg_ ?_
    refine S.ld (b:=b10) ?_ (jZ (f:=sy) (by omega) (by omega))
    refine gg_ ?_
    exact hK2
   have hH:clH sy a b cc = !(((decide ((a:Int)≠(cc:Int))&&sy a b)&&sy b cc) && !sy a cc):=by
    rw[clH,show decide ((a:Int)≠(cc:Int)) = !decide (a=cc)from by rw[← decide_not];exact decide_eq_decide.2 (by omega)]
    congr 1
    ac_rfl
   refine c_b (λhbad=>?_) (λhgood2=>?_)
   ·rw[hH,hbad,Bool.not_true,Bool.false_and]at hdc
    exact hno (hfalse (by rw[hG,← hdc])) _ S.ext
   ·rw[hH,hgood2,Bool.not_false,Bool.true_and]at hdc
    refine gg_ ?_
    rw[show ((cc:Int)+1)=((cc+1:Nat):Int)by omega]
    exact hK9 (cc+1) _ ⟨hltc,hdc,S⟩ (by omega)
  have hce:cc=n:=by omega
  rw[hce,vS]at hdc
  rw[hG,← hdc,Bool.true_and]at hdb
  refine gg_ ?_
  rw[show ((b:Int)+1)=((b+1:Nat):Int)by omega]
  exact hK8 (b+1) _ ⟨hltb,hdb,S⟩ (by omega)
 have hae:a=n:=by omega
 rw[hae,vS]at hda
 have hog:jH g=true:=hout.2 ⟨hoR,hda.symm⟩
 clear hda hK7 K7 hgea hae ha hno nout
 refine zh (ι:=Nat) (λi=>[.int .i64 (yF (g.pts.take i):Nat),.int .i64 (i:Nat)]) (λi w'=>i≤g.pts.length∧i≤1025∧StX noX w r w' [.cell b9 (zR mu) 204,.cell b10 (zR sy) 204,.cell b5 [.string g.name,.int .i64 g.lv,.slice qo g.outs.length capo,.int .i64 g.pn,.slice qt g.tys.length capt,.slice qn g.nms.length capn,.slice qp g.pts.length capp] 74,
  .cell b2 [.slice p0 u.ss.length cap0,.slice (some ⟨bf,of,none⟩) u.fs.length capf,.int .i64 u.mn] 25]) (λi=>g.pts.length-i) 0 rfl ⟨gzl _,gzl _,S⟩ ?_
 clear S
 rintro k d5 w33 ⟨hk,hk2,S⟩ K5 hK5
 simp only[gdz,gds]
 have hlk:yF (g.pts.take k)≤k:=by
  have:=List.countP_le_length (p:=λp:PtD=>decide (p.op=4)) (l:=g.pts.take k)
  rw[List.length_take]at this
  show List.countP _ _≤k
  omega
 refine gg_ ?_
 refine zi (c:=decide (k≤1024)) (λ_ K2 hK2=>?_) ?_
 ·refine gg_ ?_
  rw[show decide ((k:Int)≤1024)=decide (k≤1024)from decide_eq_decide.2 (by omega)]
  exact hK2
 refine c_b (λhgo=>?_) (λhstop=>?_)
 ·simp only[gba,gdt]at hgo
  have hlt:k<g.pts.length:=by omega
  have hlt':=JP hlt
  obtain⟨bp,op,cp,rfl,hcp,hpc,hpo⟩:=h4.sl.get (by decide) hlt
  obtain⟨x1,x2,x3,x4,x5,y1,y2,y3,y4,y5,rfl,_⟩:=xZ hpc
  have lop:Ob r λw=>w.cell? ⟨bp,op+k*21,none⟩=some (.int .u8 g.pts[k].op):=by simpa using hpo 0 _ rfl
  refine zn (λs w'=>s=[.int .i64 (yF (g.pts.take (k+1)):Nat)]∧w'=w33) (λK9 hK9=>?_) ?_
  rotate_left
  ·rintro _ _ ⟨rfl,rfl⟩ d6
   rw[gdz]
   refine gg_ ?_
   rw[show ((k:Int)+1)=((k+1:Nat):Int)by omega]
   exact hK5 (k+1) _ ⟨hlt,by omega,S⟩ (by omega)
  refine gg_ ?_
  refine zg (by simpa using S.at lop) ?_
  refine gg_ ?_
  refine zf (λh4'=>?_) (λh4'=>?_)
  ·refine gg_ ?_
   refine hK9 _ _ ⟨?_,rfl⟩
   rw[hlt',if_pos h4'];rfl
  ·refine hK9 _ _ ⟨?_,rfl⟩
   rw[hlt',if_neg h4',Nat.add_zero]
 refine gg_ ?_
 refine zj (c:=decide (1024<g.pts.length)) (λ_ K2 hK2=>?_) ?_
 ·refine gg_ ?_
  rw[show decide ((1024:Int)<(g.pts.length:Int))=decide (1024<g.pts.length)from decide_eq_decide.2 (by omega)]
  exact hK2
 refine zj (c:=decide (256<yF (g.pts.take k))) (λ_ K2 hK2=>?_) ?_
 ·refine gg_ ?_
  rw[show decide ((256:Int)<(yF (g.pts.take k):Int))=decide (256<yF (g.pts.take k))from decide_eq_decide.2 (by omega)]
  exact hK2
 have hend:g.pts.length≤1024→g.pts.take k=g.pts:=λhle=>by
  refine List.take_of_length_le ?_
  rw[Bool.and_eq_false_iff,decide_eq_false_iff_not,decide_eq_false_iff_not]at hstop
  omega
 refine c_b (λhbad=>?_) (λhgood=>?_)
 ·rw[no λH=>by
   have h1:=H.pt1
   have h2:=H.pt1024
   have h3:=H.loans
   rw[hend h2]at hbad
   simp only[Bool.or_eq_true,gdt]at hbad
   omega]at h
  exact h _ S.ext
 simp only[Bool.or_eq_false_iff,decide_eq_false_iff_not]at hgood
 rw[hend (by omega)]at hgood
 have hpos:0<g.tys.length:=by omega
 have hhd:g.tys.headD yc=g.tys[0]:=by rw[List.headD_eq_head?_getD,List.head?_eq_getElem?,gqg hpos,Option.getD_some]
 obtain⟨bt,ot,ct,rfl,hct2,htc,hcell⟩:=h2.sl.get (by decide) hpos
 obtain⟨q2,cap2,rfl,ht2⟩:=yJ htc
 have lk:Ob r λw=>w.cell? ⟨bt,ot,none⟩=some (.int .u8 g.tys[0].k):=by simpa using hcell 0 _ rfl
 refine gg_ ?_
 refine ams (c:=decide (g.lv=0)) (d:=decide (g.pn=0)) (e:=isK g.tys[0] 1) (λK2 hK2=>by refine gg_ ?_;exact hK2) (λK2 hK2=>by refine gg_ ?_;exact hK2) (λK2 hK2=>?_) ?_
 ·refine gg_ ?_
  refine zg (by simpa using S.at lk) ?_
  refine gg_ ?_
  exact hK2
 have hE:xh u i g=(decide ((i:Int)≠u.mn)||((decide (g.lv=0)&&decide (g.pn=0))&&isK g.tys[0] 1)):=by
  rw[xh,gde hlv0,gde hlv8,gde hpn0,gde hpn8,gde hpn1,gde hty,gde hnm,htys,hog,gde (show 1≤g.pts.length by omega),gde (show g.pts.length≤1024 by omega),gde (show yF g.pts≤256 by omega),hhd,decide_not]
  simp
 rw[hE]at h
 exact h _ S.ext
theorem afK{K:Value→World→Prop}(hr:Holds r w)(hu:UnG r v u)
  (h:∀(a b e:Int) w',Ext w w'→(e=0↔MayU u)→K (.tuple #[.int .i64 a,.int .i64 b,.int .i64 e]) w'):zd Tryz.prog Tryz.YI #[v] w K:=by
 refine Tryz.aej ?_
 unfold Tryz.Vs
 have hu0:=hu
 obtain⟨p0,cap0,vf,rfl,_,_,hst,hsl,hfn⟩:=hu
 obtain⟨qf,capf,rfl,_,_⟩:=hfn.sl.shape
 have hfl:u.fs.length≤9223372036854775807:=hfn.few
 have S:=St.start hr
 refine S.box λb1 w1 S=>?_
 have S:StX noX w r w1 [.cell b1 [.slice p0 u.ss.length cap0,.slice qf u.fs.length capf,.int .i64 u.mn] 25]:=S
 have bad:∀{a b:Int}{w':World},¬MayU u→Ext w w'→K (.tuple #[.int .i64 a,.int .i64 b,.int .i64 100]) w':=λhn e=>h _ _ _ _ e ⟨λh=>absurd h (by decide),λhM=>absurd hM hn⟩
 refine gg_ ?_
 refine Qq S.holds hst λw2 e2=>?_
 have S:=S.go e2
 refine gg_ ?_
 refine zj (c:=decide (u.fs.length<1)) (λ_ K2 hK2=>?_) ?_
 ·refine gg_ ?_
  rw[show decide ((u.fs.length:Int)<1)=decide (u.fs.length<1)from decide_eq_decide.2 (by omega)]
  exact hK2
 refine zj (c:=decide (32<u.fs.length)) (λ_ K2 hK2=>?_) ?_
 ·refine gg_ ?_
  rw[show decide ((32:Int)<(u.fs.length:Int))=decide (32<u.fs.length)from decide_eq_decide.2 (by omega)]
  exact hK2
 refine zj (c:=decide (u.mn<0)) (λ_ K2 hK2=>by refine gg_ ?_;exact hK2) ?_
 refine zj (c:=decide ((u.fs.length:Int)≤u.mn)) (λ_ K2 hK2=>by refine gg_ ?_;exact hK2) ?_
 refine c_b (λhbad=>?_) (λhgood=>?_)
 ·refine bad (λhM=>?_) S.ext
  have h1:=hM.ok;have h2:=hM.fs1;have h3:=hM.fs32;have h4:=hM.mn0;have h5:=hM.mn1
  rw[gde h1]at hbad
  simp only[Bool.or_eq_true,gdt,Bool.not_true,Bool.false_eq_true,false_or]at hbad
  omega
 simp only[Bool.or_eq_false_iff,decide_eq_false_iff_not,Bool.not_eq_false',gdt]at hgood
 obtain⟨⟨⟨⟨hok,hf1⟩,hf32⟩,hm0⟩,hm1⟩:=hgood
 refine zh (ι:=Nat) (λi=>[.int .i64 (i:Nat)]) (λi w'=>i≤u.fs.length∧(∀(j:Nat)(hj:j<u.fs.length),j<i→xh u j u.fs[j]=true)∧StX noX w r w' [.cell b1 [.slice p0 u.ss.length cap0,.slice qf u.fs.length capf,.int .i64 u.mn] 25]) (λi=>u.fs.length-i) 0 rfl ⟨gzl _,λj _ hj=>absurd hj (Nat.not_lt_zero _),S⟩ ?_
 clear S
 rintro i d w3 ⟨hi,hall,S⟩ K1 hK1
 rw[gdz]
 refine gg_ ?_
 refine zf (λhlt=>?_) (λhge=>?_)
 ·have hlt:i<u.fs.length:=by omega
  refine S.ldB (b:=b1) ?_ rfl
  refine agV hlt hok S.holds hu0 λw4 e4=>?_
  have S:=S.go e4
  refine gp_ ?_
  refine c_b (λhb=>?_) (λhb=>?_)
  ·refine bad (λhM=>?_) S.ext
   rw[hM.head i hlt]at hb;cases hb
  ·refine gg_ ?_
   rw[show ((i:Int)+1)=((i+1:Nat):Int)by omega]
   refine hK1 (i+1) _ ⟨hlt,λj hj hji=>?_,S⟩ (by omega)
   by_cases e:j=i
   ·subst e;simpa using hb
   ·exact hall j hj (by omega)
 have hheads:∀(j:Nat)(hj:j<u.fs.length),xh u j u.fs[j]=true:=λj hj=>hall j hj (by omega)
 clear hall hK1 K1 hge hi
 have hfine:∀f∈u.fs,yQ u.ss f.tys∧(0≤f.pn∧f.pn<f.tys.length∧yQ u.ss f.tys):=λf hf=>by
  obtain⟨j,hj,rfl⟩:=List.getElem_of_mem hf
  have H:=adi (hheads j hj)
  exact⟨H.fine hok,H.pn0,H.pn1,H.fine hok⟩
 refine zh (ι:=Nat) (λi=>[.int .i64 (i:Nat)]) (λi w'=>i≤u.fs.length∧(∀(j:Nat)(hj:j<u.fs.length),j<i→∀p∈u.fs[j].pts,yw u u.fs[j] p=true)∧StX noX w r w' [.cell b1 [.slice p0 u.ss.length cap0,.slice qf u.fs.length capf,.int .i64 u.mn] 25]) (λi=>u.fs.length-i) 0 rfl ⟨gzl _,λj _ hj=>absurd hj (Nat.not_lt_zero _),S⟩ ?_
 clear S
 rintro i d w5 ⟨hi,hall,S⟩ K2 hK2
 rw[gdz]
 refine gg_ ?_
 refine zf (λhlt=>?_) (λhge=>?_)
 rotate_left
 ·exact h 0 0 0 _ S.ext ⟨λ_=>⟨hok,by omega,by omega,by omega,by omega,hheads,λg hg p hp=>by
   obtain⟨j,hj,rfl⟩:=List.getElem_of_mem hg
   exact hall j hj (by omega) p hp⟩,λ_=>rfl⟩
 have hlt:i<u.fs.length:=by omega
 obtain⟨bf,of,cf,rfl,hcf,hgc,hfo⟩:=hfn.sl.get (by decide) hlt
 have hgm:=gem hlt
 generalize hgi:u.fs[i]=g at hgc hgm
 obtain⟨vo,vt,vn,vp,rfl,h1,h2,h3,h4⟩:=id hgc
 obtain⟨qo,capo,rfl,_,_⟩:=h1.sl.shape
 obtain⟨qt,capt,rfl,_,hct⟩:=h2.sl.shape
 obtain⟨qn,capn,rfl,_,_⟩:=h3.sl.shape
 obtain⟨qp,capp,rfl,_,_⟩:=h4.sl.shape
 have hptl:g.pts.length≤9223372036854775807:=h4.few
 have lpts:Ob r λw=>w.cell? ⟨bf,of+i*7+6,none⟩=some (.slice qp g.pts.length capp):=hfo 6 _ rfl
 have S:=S.go (Ext.drew _)
 refine S.ldB (b:=b1) ?_ rfl
 refine gg_ ?_
 refine zp (n:=7) hcf (λj v hj=>by rw[tnc];exact S.at (hfo j v hj)) ?_
 refine zy (cs:=#[.slice p0 u.ss.length cap0,.slice (some ⟨bf,of,none⟩) u.fs.length capf,.int .i64 u.mn,.string g.name,.int .i64 g.lv,.slice qo g.outs.length capo,.int .i64 g.pn,.slice qt g.tys.length capt,.slice qn g.nms.length capn,.slice qp g.pts.length capp]) (by kernel_rfl) ?_
 refine S.box λbx w6 S=>?_
 have S:StX noX w r w6 [.cell bx (asL u g p0 cap0 (some ⟨bf,of,none⟩) capf qo capo qt capt qn capn qp capp) 149,.cell b1 [.slice p0 u.ss.length cap0,.slice (some ⟨bf,of,none⟩) u.fs.length capf,.int .i64 u.mn] 25]:=S
 have S:=S.frz
 have hx:AsP (r.or (Go.Sh.one bx (asL u g p0 cap0 (some ⟨bf,of,none⟩) capf qo capo qt capt qn capn qp capp) 149)) bx u g:=⟨p0,cap0,some ⟨bf,of,none⟩,capf,qo,capo,qt,capt,qn,capn,qp,capp,(yH (b:=bx)).up,hu0.up,GrG.up hgc⟩
 refine zh (ι:=Nat) (λi=>[.int .i64 (i:Nat)]) (λq w'=>q≤g.pts.length∧(∀(j:Nat)(hj:j<g.pts.length),j<q→yw u g g.pts[j]=true)∧StX noX w (r.or (Go.Sh.one bx (asL u g p0 cap0 (some ⟨bf,of,none⟩) capf qo capo qt capt qn capn qp capp) 149)) w' [.cell b1 [.slice p0 u.ss.length cap0,.slice (some ⟨bf,of,none⟩) u.fs.length capf,.int .i64 u.mn] 25]) (λi=>g.pts.length-i) 0 rfl ⟨gzl _,λj _ hj=>absurd hj (Nat.not_lt_zero _),S⟩ ?_
 clear S
 rintro q d w7 ⟨hq,hpts,S⟩ K9 hK9
 rw[gdz]
 refine gg_ ?_
 refine zg (by rw[tnc];exact S.at lpts) ?_
 refine gg_ ?_
 refine zf (λhlt2=>?_) (λhge2=>?_)
 ·have hlt2:q<g.pts.length:=by omega
  obtain⟨bp,op,cp,rfl,hcp,hpc,hpo⟩:=h4.sl.get (by decide) hlt2
  refine gg_ ?_
  refine zg (by rw[tnc];exact S.at lpts) ?_
  refine gg_ ?_
  refine zp (n:=21) hcp (λj v hj=>by rw[tnc];exact S.at (hpo j v hj)) ?_
  refine afJ S.holds hx hok (hfine g hgm).1 (λf hf=>(hfine f hf).2) hpc.up λw8 e8=>?_
  have S:=S.go e8
  refine gp_ ?_
  refine c_b (λhb=>?_) (λhb=>?_)
  ·refine bad (λhM=>?_) S.ext
   rw[hM.pts g hgm _ (gem hlt2)]at hb;cases hb
  ·refine gg_ ?_
   rw[show ((q:Int)+1)=((q+1:Nat):Int)by omega]
   refine hK9 (q+1) _ ⟨hlt2,λj hj hjq=>?_,S⟩ (by omega)
   by_cases e:j=q
   ·subst e;simpa using hb
   ·exact hpts j hj (by omega)
 ·refine gg_ ?_
  rw[show ((i:Int)+1)=((i+1:Nat):Int)by omega]
  refine hK2 (i+1) _ ⟨hlt,λj hj hji p hp=>?_,S.to r⟩ (by omega)
  by_cases e:j=i
  ·subst e
   rw[hgi]at hp⊢
   obtain⟨k,hk,rfl⟩:=List.getElem_of_mem hp
   exact hpts k hk (by omega)
  ·exact hall j hj (by omega) p hp
theorem ahI{K:Value→World→Prop}(hr:Holds r w)(hu:UnG r v u)
  (h:∀w',Ext w w'→K (.bool (QO u)) w'):zd Tryz.prog Tryz.QC #[v] w K:=by
 refine Tryz.agN ?_
 unfold Tryz.abD
 have hu0:=hu
 obtain⟨p0,cap0,vf,rfl,_,_,hst,hsl,hfn⟩:=hu
 have S:=St.start hr
 refine S.box λb1 w1 S=>?_
 have S:StX noX w r w1 [.cell b1 [.slice p0 u.ss.length cap0,vf,.int .i64 u.mn] 25]:=S
 refine S.ldB (b:=b1) ?_ rfl
 refine afK S.holds hu0 λa b e w2 e2 he=>?_
 have S:=S.go e2
 refine gg_ ?_
 have hm:decide (e=0)=QO u:=by
  rw[Bool.eq_iff_iff,gdt,he]
  exact acj.symm
 rw[hm]
 exact h _ S.ext
theorem aiP{fn q:Int}{K:Value→World→Prop}(hr:Holds r w)(hu:UnG r v u)
  (h:∀w',Ext w w'→K (.bool (isU u fn q)) w'):zd Tryz.prog Tryz.JI #[v,.int .i64 fn,.int .i64 q] w K:=by
 refine Tryz.ahG ?_
 unfold Tryz.adm
 have hu0:=hu
 obtain⟨p0,cap0,vf,rfl,_,_,hst,hsl,hfn⟩:=hu
 obtain⟨qf,capf,rfl,_,_⟩:=hfn.sl.shape
 have hfl:u.fs.length≤9223372036854775807:=hfn.few
 have S:=St.start hr
 refine S.box λb1 w1 S=>?_
 have S:StX noX w r w1 [.cell b1 [.slice p0 u.ss.length cap0,.slice qf u.fs.length capf,.int .i64 u.mn] 25]:=S
 refine S.ldB (b:=b1) ?_ rfl
 refine ahI S.holds hu0 λw2 e2=>?_
 have S:=S.go e2
 refine zi (c:=decide (0≤fn)) (λ_ K2 hK2=>by refine gg_ ?_;exact hK2) ?_
 refine zi (c:=decide (fn<(u.fs.length:Int))) (λ_ K2 hK2=>by refine gg_ ?_;exact hK2) ?_
 refine zi (c:=decide (q<((u.fs[fn.toNat]?.map λg=>(g.pts.length:Int)).getD 0))) (λhb K2 hK2=>?_) ?_
 ·simp only[gba,gdt]at hb
  have hlt:fn.toNat<u.fs.length:=by omega
  obtain⟨bf,of,cf,rfl,hcf,hgc,hfo⟩:=hfn.sl.get (by decide) hlt
  obtain⟨vo,vt,vn,vp,rfl,h1,h2,h3,h4⟩:=id hgc
  obtain⟨qp,capp,rfl,_,_⟩:=h4.sl.shape
  have hptl:u.fs[fn.toNat].pts.length≤9223372036854775807:=h4.few
  have lpts:Ob r λw=>w.cell? ⟨bf,of+fn.toNat*7+6,none⟩=some (.slice qp u.fs[fn.toNat].pts.length capp):=hfo 6 _ rfl
  refine gg_ ?_
  refine zg (S.at lpts) ?_
  refine gg_ ?_
  rw[gqg hlt]at hK2
  exact hK2
 have:=h _ S.ext
 rw[isU]at this
 have e:((((QO u&&decide (0≤fn))&&decide (fn<(u.fs.length:Int)))&&decide (q<((u.fs[fn.toNat]?.map λg=>(g.pts.length:Int)).getD 0))))=((decide (0≤fn)&&decide (fn<(u.fs.length:Int)))&&(QO u&&decide (q<((u.fs[fn.toNat]?.map λg=>(g.pts.length:Int)).getD 0)))):=by ac_rfl
 rw[e]
 exact this
end
end Go.Proofs
namespace Go.Proofs
open Go.Shelf
def Tryz.ahJ:Go.Shelf.Ren:=⟨fun|189=>57|125=>88|257=>87|128=>118|129=>119|294=>109|295=>110|296=>111|297=>112|298=>113|299=>114|216=>115|300=>116|301=>117|328=>146|329=>147|330=>148|331=>149|332=>150|215=>107|343=>190|n=>n,fun|28=>26|3=>3|46=>137|0=>0|51=>174|53=>176|4=>4|183=>167|182=>166|131=>106|5=>5|9=>9|218=>196|222=>200|228=>248|229=>249|n=>n,fun|n=>n⟩
theorem Tryz.ah4:Go.Proofs.Lays.n189 Tryz.prog Tryz.ahJ:={
 mixed:=by kernel_rfl
 f125:=Tryz.func88.trans (congrArg some (by kernel_rfl))
 f128:=Tryz.func118.trans (congrArg some (by kernel_rfl))
 f129:=Tryz.func119.trans (congrArg some (by kernel_rfl))
 f189:=Tryz.func57.trans (congrArg some (by kernel_rfl))
 f215:=Tryz.func107.trans (congrArg some (by kernel_rfl))
 f216:=Tryz.func115.trans (congrArg some (by kernel_rfl))
 f257:=Tryz.func87.trans (congrArg some (by kernel_rfl))
 f294:=Tryz.func109.trans (congrArg some (by kernel_rfl))
 f295:=Tryz.func110.trans (congrArg some (by kernel_rfl))
 f296:=Tryz.func111.trans (congrArg some (by kernel_rfl))
 f297:=Tryz.func112.trans (congrArg some (by kernel_rfl))
 f298:=Tryz.func113.trans (congrArg some (by kernel_rfl))
 f299:=Tryz.func114.trans (congrArg some (by kernel_rfl))
 f300:=Tryz.func116.trans (congrArg some (by kernel_rfl))
 f301:=Tryz.func117.trans (congrArg some (by kernel_rfl))
 f328:=Tryz.func146.trans (congrArg some (by kernel_rfl))
 f329:=Tryz.func147.trans (congrArg some (by kernel_rfl))
 f330:=Tryz.func148.trans (congrArg some (by kernel_rfl))
 f331:=Tryz.func149.trans (congrArg some (by kernel_rfl))
 f332:=Tryz.func150.trans (congrArg some (by kernel_rfl))
 f343:=Tryz.func190.trans (congrArg some (by kernel_rfl))
 t0:=Tryz.underlying0
 a0:=Tryz.isAgg0
 z0:=Tryz.sizeOf0
 v0:=Tryz.zeroValue0
 t3:=Tryz.underlying3
 a3:=Tryz.isAgg3
 z3:=Tryz.sizeOf3
 v3:=Tryz.zeroValue3
 t4:=Tryz.underlying4
 a4:=Tryz.isAgg4
 z4:=Tryz.sizeOf4
 v4:=Tryz.zeroValue4
 t5:=Tryz.underlying5
 a5:=Tryz.isAgg5
 z5:=Tryz.sizeOf5
 v5:=Tryz.zeroValue5
 t9:=Tryz.underlying9
 a9:=Tryz.isAgg9
 z9:=Tryz.sizeOf9
 v9:=Tryz.zeroValue9
 t28:=Tryz.underlying26
 a28:=Tryz.isAgg26
 z28:=Tryz.sizeOf26
 v28:=Tryz.zeroValue26
 t46:=Tryz.underlying137
 a46:=Tryz.isAgg137
 z46:=Tryz.sizeOf137
 v46:=Tryz.zeroValue137
 t51:=Tryz.underlying174
 a51:=Tryz.isAgg174
 z51:=Tryz.sizeOf174
 v51:=Tryz.zeroValue174
 t53:=Tryz.underlying176
 a53:=Tryz.isAgg176
 z53:=Tryz.sizeOf176
 v53:=Tryz.zeroValue176
 t131:=Tryz.underlying106
 a131:=Tryz.isAgg106
 z131:=Tryz.sizeOf106
 v131:=Tryz.zeroValue106
 t182:=Tryz.underlying166
 a182:=Tryz.isAgg166
 z182:=Tryz.sizeOf166
 v182:=Tryz.zeroValue166
 t183:=Tryz.underlying167
 a183:=Tryz.isAgg167
 z183:=Tryz.sizeOf167
 v183:=Tryz.zeroValue167
 t218:=Tryz.underlying196
 a218:=Tryz.isAgg196
 z218:=Tryz.sizeOf196
 v218:=Tryz.zeroValue196
 t222:=Tryz.underlying200
 a222:=Tryz.isAgg200
 z222:=Tryz.sizeOf200
 v222:=Tryz.zeroValue200
 t228:=Tryz.underlying248
 a228:=Tryz.isAgg248
 z228:=Tryz.sizeOf248
 v228:=Tryz.zeroValue248
 t229:=Tryz.underlying249
 a229:=Tryz.isAgg249
 z229:=Tryz.sizeOf249
 v229:=Tryz.zeroValue249 }
end Go.Proofs
namespace Go.Sh
open Go.RowKit
theorem ajO{w w':World}{g q:Nat}{c:List Value}{e:TypeId}{d:Array Int}{os:Array Obj}(B:Blk w g c e)(hd:d.size≤c.length)
  (hw:w'=Sort.grow (Sort.putRow (Value.int .i64) (Sort.ahead w q) g 0 d) os):ExtBut (· = g) w w'∧Blk w' g (d.toList.map (Value.int .i64)++c.drop d.size) e:=by
 subst hw
 have hg:g<w.heap.size:=(Array.getElem?_eq_some_iff.1 B).1
 have hput:∀k,(Sort.putRow (Value.int .i64) (Sort.ahead w q) g 0 d).heap[k]? = if g=k then(w.heap[k]?).map (Sort.onCells (Sort.putCells (Value.int .i64) 0 d))else w.heap[k]?:=λk=>by
  simp only[Sort.putRow,Sort.mapBlock,Array.getElem?_modify]
  split<;>rfl
 have hsz:(Sort.putRow (Value.int .i64) (Sort.ahead w q) g 0 d).heap.size=w.heap.size:=by simp[Sort.ahead]
 refine⟨⟨rfl,rfl,rfl,by simp only[Sort.grow,Array.size_append,hsz];omega,λk hk hne=>?_⟩,?_⟩
 ·show((Sort.putRow (Value.int .i64) (Sort.ahead w q) g 0 d).heap++os)[k]? = _
  rw[Array.getElem?_append_left (by rw[hsz];exact hk),hput,if_neg (λh=>hne h.symm)]
 ·show((Sort.putRow (Value.int .i64) (Sort.ahead w q) g 0 d).heap++os)[g]? = _
  rw[Array.getElem?_append_left (by rw[hsz];exact hg),hput,if_pos rfl,B,Option.map_some]
  simp only[Sort.onCells]
  congr 2
  apply Array.ext_getElem?
  intro i
  simp only[Sort.putCells,Array.getElem?_mapIdx,List.getElem?_toArray,List.getElem?_append,List.length_map,Array.length_toList,List.getElem?_map,List.getElem?_drop,gzl,true_and,Nat.zero_add,Nat.sub_zero]
  by_cases hi:i<d.size
  ·rw[if_pos hi,gqg (by omega),Option.map_some,if_pos hi,Array.getElem?_toList,Array.getElem?_eq_getElem hi,getElem!_pos d i hi];rfl
  ·rw[if_neg hi,show d.size+(i-d.size)=i by omega]
   cases h:c[i]? with
   |none=>rfl
   |some x=>rw [Option.map_some,if_neg hi]
end Go.Sh
namespace Go.Proofs
open Go.Sh Go.RowKit
section
def xM(l:List Int):List Int:=l.mergeSort λx y=>decide (x≤y)
theorem Qt{l:List Int}:(xM l).length=l.length:=List.length_mergeSort l
variable {w0 w:World} {r:Gh} {L:List Asr} {X:Nat→Prop}
theorem afL{v:Value}{l:List Int}{K:Value→World→Prop}(S:StX X w0 r w (.row v 3 1 l.length (ints l)::L))(hl:l.length<4611686018427387904)
  (h:∀w',StX X w0 r w' (.row v 3 1 l.length (ints (xM l))::L)→K (.tuple #[]) w'):zd Tryz.prog Tryz.vF #[v] w K:=by
 have hr:w.ownsRow 0 3 1 v l.length (ints l):=S.has _ (List.mem_cons_self ..)
 rcases vE hr with⟨rfl,h1,h2⟩|⟨g,cap,c,rfl,hg,B,hn,hm,hcl,ht⟩
 ·have hl0:l=[]:=List.eq_nil_of_length_eq_zero h1
  subst hl0
  refine Calls.mono (Any.slices_Sort_int_none Tryz.ah4 none 0 w) ?_
  rintro e w' ⟨rfl,rfl⟩
  exact⟨_,rfl,h _ (by rw[show xM []=[]by simp[xM]];exact S)⟩
 ·rw[Nat.mul_one]at hcl ht
  have hcell:∀j,j<l.length→w.cell? ⟨g,j,none⟩=some (.int .i64 l[j]!):=λj hj=>by
   have :(c.take l.length)[j]? = some (.int .i64 l[j]!):=by
    rw[ht,ints,List.getElem?_map,gqg hj,getElem!_pos l j hj];rfl
   rw[List.getElem?_take,if_pos hj]at this
   rw[B.cell];exact this
  have hfz:∀j,w.frozen? ⟨g,j,none⟩=false:=λj=>B.unfrozen j
  refine Calls.mono (Any.slices_Sort_int Tryz.ah4 g 0 cap l w (λj hj=>⟨?_,hfz _⟩) (Array.getElem?_eq_some_iff.1 B).1 hl) ?_
  ·have hj:j<l.length:=by simpa using hj
   rw[Nat.zero_add,hcell j hj]
   simp[getElem!_pos,hj]
  rintro e w' ⟨rfl,q,os,hw⟩
  obtain⟨hE,hB⟩:=ajO (d:=(xM l).toArray) B (by simp[Qt];omega) hw
  refine⟨_,rfl,h w' ?_⟩
  refine S.turn (p:=[]) (x:=.row (.slice (some ⟨g,0,none⟩) l.length cap) 3 1 l.length (ints l)) (y:=.row (.slice (some ⟨g,0,none⟩) l.length cap) 3 1 l.length (ints (xM l))) ?_ ?_ λk hk=>.inl hk
  ·exact hE.mono λk _ hk=>by subst hk;rfl
  ·have:=Za (base:=0) (e:=3) (size:=1) (n:=l.length) (cap:=cap) (gzl _) hB hn hm (by simp[Qt];omega)
   have e:((xM l).toArray.toList.map (Value.int .i64)++c.drop (xM l).toArray.size).take (l.length*1)=ints (xM l):=by
    rw[Nat.mul_one,List.take_append_of_le_length (by simp[Qt])]
    exact List.take_of_length_le (by simp[Qt])
   rwa[e]at this
theorem adu:∀{l m:List Int},l.Pairwise (· < ·)→m.Pairwise (· < ·)→(∀x,x∈l↔x∈m)→l=m
 |[],[],_,_,_=>rfl
 |[],y::m,_,_,h=>absurd ((h y).2 (List.mem_cons_self ..)) (by simp)
 |x::l,[],_,_,h=>absurd ((h x).1 (List.mem_cons_self ..)) (by simp)
 |x::l,y::m,hl,hm,h=>by
  have hl':=List.pairwise_cons.1 hl
  have hm':=List.pairwise_cons.1 hm
  have hxy:x=y:=by
   have h1:=(h x).1 (List.mem_cons_self ..)
   have h2:=(h y).2 (List.mem_cons_self ..)
   rcases List.mem_cons.1 h1 with e|h1
   ·exact e
   rcases List.mem_cons.1 h2 with e|h2
   ·exact e.symm
   have:=hl'.1 y h2;have:=hm'.1 x h1;omega
  subst hxy
  rw[adu hl'.2 hm'.2 λz=>?_]
  constructor
  ·intro hz
   rcases List.mem_cons.1 ((h z).1 (List.mem_cons_of_mem _ hz))with e|hz'
   ·have:=hl'.1 z hz;omega
   ·exact hz'
  ·intro hz
   rcases List.mem_cons.1 ((h z).2 (List.mem_cons_of_mem _ hz))with e|hz'
   ·have:=hm'.1 z hz;omega
   ·exact hz'
end
end Go.Proofs
namespace Go.Proofs
def mkd(m:List Bool):List Int:=((List.range m.length).filter λi=>m.getD i false).map Int.ofNat
end Go.Proofs
namespace Go.Proofs
open Go.Sh
section
variable {c d:List Value} {w:World} {r:Gh} {K:Value→World→Prop}
abbrev CnD:=Int×Int
theorem RowOf.app{α:Type}{sz:Nat}{R:List Value→α→Prop}{xs ys:List Value}{l m:List α}(h:RowOf sz R xs l)(k:RowOf sz R ys m):RowOf sz R (xs++ys) (l++m):=by
 obtain⟨h1,h2⟩:=h
 obtain⟨k1,k2⟩:=k
 refine⟨by rw[gla,gla,h1,k1,Nat.add_mul],λi hi=>?_⟩
 by_cases hl:i<l.length
 ·have:=Nat.mul_le_mul_right sz (Nat.succ_le_of_lt hl)
  rw[Nat.succ_mul]at this
  rw[List.getElem_append_left hl,List.drop_append_of_le_length (by rw[h1];omega),List.take_append_of_le_length (by rw[List.length_drop,h1];omega)]
  exact h2 i hl
 ·rw[List.getElem_append_right (by omega)]
  have e:(xs++ys).drop (i*sz)=ys.drop ((i-l.length)*sz):=by
   rw[List.drop_append,List.drop_eq_nil_of_le (by rw[h1];exact Nat.mul_le_mul_right _ (by omega)),List.nil_append,h1,← Nat.sub_mul]
  rw[e]
  exact k2 _ _
def zu(p:PtD):List OpD:=(if p.a.k≠0 then [p.a]else [])++(if p.b.k≠0 then [p.b]else [])++p.args
theorem vz{p:PtD}{K:Value→World→Prop}(hr:Holds r w)(hp:PtG r c p)(hb:p.args.length≤1000)
  (h:∀v' s w',Ext w w'→New w s w'→SlG 4 s (OpG r) v' (zu p)→K v' w'):zd Tryz.prog Tryz.ki #[.agg c.toArray] w K:=by
 refine Tryz.abd ?_
 unfold Tryz.XO
 obtain⟨z1,z2,z3,z4,z5,t1,t2,t3,t4,t5,rfl,hp0⟩:=xZ hp
 obtain⟨kto,ka,kb,kl,kf⟩:=akM hp0
 have S:=St.start hr
 refine S.box λb1 w1 S=>?_
 have S:StX noX w r w1 [.cell b1 (ptL p z1 z2 z3 z4 z5 t1 t2 t3 t4 t5) 94]:=S
 refine zn (λx w'=>∃vq xs,x=[vq]∧RowOf 4 (OpG r) xs (if p.a.k≠0 then [p.a]else [])∧StX noX w r w' [.row vq 61 4 (if p.a.k≠0 then [p.a]else []).length xs,.cell b1 (ptL p z1 z2 z3 z4 z5 t1 t2 t3 t4 t5) 94]) (λK2 hK2=>?_) ?_
 ·refine gg_ ?_
  have S:=S.ownNil 61 4
  refine zf (λhne=>?_) (λheq=>?_)
  ·rw[if_pos hne]at hK2
   refine gg_ ?_
   refine S.ldN (b:=b1) (vs:=[.int .u8 p.a.k,.int .i64 p.a.n,.int .i64 p.a.pl.l,.slice z2 p.a.pl.ps.length t2]) ?_
   refine S.lit (e:=61) (cs:=[.int .u8 p.a.k,.int .i64 p.a.n,.int .i64 p.a.pl.l,.slice z2 p.a.pl.ps.length t2]) (by kernel_rfl) λb5 w5 S=>?_
   refine S.ap (v:=.slice none 0 0) (m':=1) (Sl.blk (S.blk b5)) (λv6 w6 S=>?_) (by omega)
   have S:=S.drop b5
   exact hK2 _ _ ⟨v6,_,rfl,kJ rfl ka,S⟩
  ·rw[if_neg heq]at hK2
   exact hK2 _ _ ⟨.slice none 0 0,[],rfl,RowOf.nil,S⟩
 clear S
 rintro _ w5 ⟨v3,xs3,rfl,hrow3,S⟩ d5
 have hl3:(if p.a.k≠0 then [p.a]else []).length≤1:=by split<;>simp
 have hR:zu p=(if p.a.k≠0 then [p.a]else [])++(if p.b.k≠0 then [p.b]else [])++p.args:=rfl
 rw[hR]at h
 generalize (if p.a.k≠0 then [p.a]else([]:List OpD))=A at hrow3 S hl3 h
 rw[gdz]
 refine zn (λx w'=>∃vq xs,x=[vq]∧RowOf 4 (OpG r) xs (A++(if p.b.k≠0 then [p.b]else []))∧StX noX w r w' [.row vq 61 4 (A++(if p.b.k≠0 then [p.b]else [])).length xs,.cell b1 (ptL p z1 z2 z3 z4 z5 t1 t2 t3 t4 t5) 94]) (λK8 hK8=>?_) ?_
 ·refine gg_ ?_
  refine zf (λhne=>?_) (λheq=>?_)
  ·rw[if_pos hne]at hK8
   refine gg_ ?_
   refine S.ldN (b:=b1) (vs:=[.int .u8 p.b.k,.int .i64 p.b.n,.int .i64 p.b.pl.l,.slice z3 p.b.pl.ps.length t3]) ?_
   refine S.lit (e:=61) (cs:=[.int .u8 p.b.k,.int .i64 p.b.n,.int .i64 p.b.pl.l,.slice z3 p.b.pl.ps.length t3]) (by kernel_rfl) λb5 w6 S=>?_
   refine S.ap (v:=v3) (m':=1) (Sl.blk (S.blk b5)) (λv6 w7 S=>?_) (by omega)
   have S:=S.drop b5
   refine hK8 _ _ ⟨v6,_,rfl,hrow3.snoc rfl kb,?_⟩
   rw[gla]
   exact S
  ·rw[if_neg heq,List.append_nil]at hK8
   exact hK8 _ _ ⟨v3,xs3,rfl,hrow3,S⟩
 clear S
 rintro _ w11 ⟨v9,xs9,rfl,hrow9,S⟩ d11
 have hl9:(A++(if p.b.k≠0 then [p.b]else [])).length≤2:=by
  rw[gla]
  have :(if p.b.k≠0 then [p.b]else []).length≤1:=by split<;>simp
  omega
 generalize A++(if p.b.k≠0 then [p.b]else [])=B at hrow9 S hl9 h
 rw[gdz]
 refine gg_ ?_
 obtain⟨xs,hxr,hxs⟩:=vU (by decide) kl.sl
 obtain⟨_,_,hE,hq4,_⟩:=kl.sl.shape
 cases hE
 refine S.ap (v:=v9) (S.at hxs) (λv25 w14 S=>?_) (by omega) hxr.1 hq4 (xU hxr (by decide) λc x hx=>aa0 hx)
 obtain⟨s,T,hs,_,hab⟩:=S.doneRow (RowOf.app hrow9 hxr) (by decide) (by rw[gla])
 exact h _ s _ T.ext (StX.newOf (q:=s) T λb o ho=>(hab b o ho).resolve_right id) hs
theorem ZB{p:PtD}{K:Value→World→Prop}(hr:Holds r w)(hp:PtG r c p)
  (h:∀w',Ext w w'→K (.bool (decide (1≤p.op)&&decide (p.op≤8))) w'):zd Tryz.prog Tryz.kG #[.agg c.toArray] w K:=by
 refine Tryz.ack ?_
 unfold Tryz.Qm
 obtain⟨z1,z2,z3,z4,z5,t1,t2,t3,t4,t5,rfl,hp0⟩:=xZ hp
 have S:=St.start hr
 refine S.box λb1 w1 S=>?_
 have S:StX noX w r w1 [.cell b1 (ptL p z1 z2 z3 z4 z5 t1 t2 t3 t4 t5) 94]:=S
 refine gg_ ?_
 refine zi (c:=decide (p.op≤8)) (λ_ K2 hK2=>by refine gg_ ?_;exact hK2) ?_
 exact h _ S.ext
theorem afM{p q:PlD}{K:Value→World→Prop}(hr:Holds r w)(hp:PlG r c p)(hq:PlG r d q)
  (h:∀x w',Ext w w'→(x=0↔p=q)→K (.int .i64 x) w'):zd Tryz.prog Tryz.qI #[.agg c.toArray,.agg d.toArray] w K:=by
 refine Tryz.Jl ?_
 unfold Tryz.YR
 obtain⟨v,rfl,hv⟩:=hp
 obtain⟨u,rfl,hu⟩:=hq
 obtain⟨pa,ca,rfl,_,_⟩:=hv.sl.shape
 obtain⟨pb,cb,rfl,_,_⟩:=hu.sl.shape
 have hla:p.ps.length≤9223372036854775807:=hv.few
 have S:=St.start hr
 refine S.box λb2 w1 S=>?_
 have S:StX noX w r w1 [.cell b2 [.int .i64 p.l,.slice pa p.ps.length ca] 59]:=S
 refine S.box λb3 w2 S=>?_
 have S:StX noX w r w2 [.cell b3 [.int .i64 q.l,.slice pb q.ps.length cb] 59,.cell b2 [.int .i64 p.l,.slice pa p.ps.length ca] 59]:=S
 have no1:∀{w'}{x:Int},Ext w w'→x≠0→p≠q→K (.int .i64 x) w':=λe hx hne=>h _ _ e ⟨λe=>absurd e hx,λe=>absurd e hne⟩
 refine gg_ ?_
 refine zf (λhne=>?_) (λheq=>?_)
 ·have hpq:p≠q:=λe=>hne (by rw[e])
  refine gg_ ?_
  refine zf (λ_=>no1 S.ext (by decide) hpq) (λ_=>no1 S.ext (by decide) hpq)
 have hl:p.l=q.l:=Decidable.not_not.1 heq
 refine zh (ι:=Nat) (λi=>[.int .i64 (i:Nat)]) (λi w'=>i≤p.ps.length∧i≤q.ps.length∧p.ps.take i=q.ps.take i∧StX noX w r w' [.cell b3 [.int .i64 q.l,.slice pb q.ps.length cb] 59,.cell b2 [.int .i64 p.l,.slice pa p.ps.length ca] 59]) (λi=>p.ps.length-i) 0 rfl ⟨gzl _,gzl _,rfl,S⟩ ?_
 clear S
 rintro i dd w6 ⟨hi,hj,htk,S⟩ K3 hK3
 rw[gdz]
 refine gg_ ?_
 refine zi (c:=decide ((i:Int)<q.ps.length)) (λ_ K2 hK2=>by refine gg_ ?_;exact hK2) ?_
 refine c_b (λhb=>?_) (λhb=>?_)
 ·simp only[gba,gdt]at hb
  have hlt:i<p.ps.length:=by omega
  have hlt2:i<q.ps.length:=by omega
  obtain⟨ba,oa,cc,rfl,hcl,⟨rfl,_⟩,hca⟩:=hv.sl.get (by decide) hlt
  obtain⟨bb,ob,dc,rfl,hdl,⟨rfl,_⟩,hcb⟩:=hu.sl.get (by decide) hlt2
  have S:=S.go (Ext.drew _)
  have lo1:∀{w':World}{M:List Asr},StX noX w r w' M→w'.cell? ⟨ba,oa+i,none⟩=some (.int .i64 p.ps[i]):=λS=>by simpa using S.at (hca 0 _ rfl)
  have lo2:∀{w':World}{M:List Asr},StX noX w r w' M→w'.cell? ⟨bb,ob+i,none⟩=some (.int .i64 q.ps[i]):=λS=>by simpa using S.at (hcb 0 _ rfl)
  refine gg_ ?_
  refine zg (v:=.int .i64 p.ps[i]) (by rw[tnc];exact lo1 S) ?_
  refine gg_ ?_
  refine zg (v:=.int .i64 q.ps[i]) (by rw[tnc];exact lo2 S) ?_
  refine gg_ ?_
  have hpq:p.ps[i]≠q.ps[i]→p≠q:=λhne e=>by subst e;exact hne rfl
  refine zf (λh1=>no1 S.ext (by decide) (hpq (by omega))) (λh1=>?_)
  have S:=S.go (Ext.drew _)
  refine gg_ ?_
  refine zg (v:=.int .i64 p.ps[i]) (by rw[tnc];exact lo1 S) ?_
  refine gg_ ?_
  refine zg (v:=.int .i64 q.ps[i]) (by rw[tnc];exact lo2 S) ?_
  refine gg_ ?_
  refine zf (λh2=>no1 S.ext (by decide) (hpq (by omega))) (λh2=>?_)
  refine gg_ ?_
  refine hK3 (i+1) _ ⟨hlt,hlt2,?_,S⟩ (by omega)
  rw[List.take_succ_eq_append_getElem hlt,List.take_succ_eq_append_getElem hlt2,htk,show p.ps[i]=q.ps[i]by omega]
 ·simp only[Bool.and_eq_false_iff,decide_eq_false_iff_not]at hb
  have hpl:p.ps.length≠q.ps.length→p≠q:=λhne e=>by subst e;exact hne rfl
  refine gg_ ?_
  refine zf (λh1=>no1 S.ext (by decide) (hpl (by omega))) (λh1=>?_)
  refine gg_ ?_
  refine zf (λh2=>no1 S.ext (by decide) (hpl (by omega))) (λh2=>?_)
  refine h _ _ S.ext ⟨λ_=>PlD.eq_iff.2 ⟨hl,?_⟩,λ_=>rfl⟩
  have hpi:p.ps.length=i:=by omega
  have hqi:q.ps.length=i:=by omega
  rwa[List.take_of_length_le (by omega),List.take_of_length_le (by omega)]at htk
theorem aap{p q:PlD}{K:Value→World→Prop}(hr:Holds r w)(hp:PlG r c p)(hq:PlG r d q)
  (h:∀w',Ext w w'→K (.bool (eqb p q)) w'):zd Tryz.prog Tryz.Zn #[.agg c.toArray,.agg d.toArray] w K:=by
 refine Tryz.afw ?_
 unfold Tryz.aaa
 obtain⟨v,rfl,hv⟩:=id hp
 obtain⟨u,rfl,hu⟩:=id hq
 have S:=St.start hr
 refine S.box λb2 w1 S=>?_
 refine S.box λb3 w2 S=>?_
 refine S.ldB (b:=b2) ?_ rfl
 refine S.ldB (b:=b3) ?_ rfl
 refine afM S.holds hp hq λx w4 e4 hx=>?_
 refine gg_ ?_
 have:=h _ (S.go e4).ext
 rwa[← ajM (b:=decide (x=0)) (by rw[decide_eq_true_iff,hx])]at this
end
end Go.Proofs
namespace Go.Proofs
theorem acp{u:UnD}{g:GrD}{p:PtD}(h:yw u g p=true)(ho:p.op=4∨p.op=10∨p.op=11):(zm u.ss g.tys p.fr).2.2=true:=by
 have h2:=Z1 h
 cases hf:(zm u.ss g.tys p.fr).2.2 with
 |true=>rfl
 |false=>
  rw[ptG]at h2
  rcases ho with hc|hc|hc<;>simp [hc,hf]at h2
end Go.Proofs
namespace Go.Proofs
open Go.Sh Go.RowKit
section
variable {r:Gh} {p:Option Addr} {n cap i:Nat} {m:List Bool} {l:List Int}
def jU(c:List Value)(x:Bool):Prop:=c=[.bool x]
def bls(m:List Bool):List Value:=m.map Value.bool
theorem alH:(bls m).length=m.length:=List.length_map _
theorem ajP:RowOf 1 jU (bls m) m:=⟨by rw[alH,Nat.mul_one],λj hj=>by
 rw[Nat.mul_one,bls,← List.map_drop,← List.map_take,List.drop_eq_getElem_cons hj];rfl⟩
theorem QS:RowOf 1 zQ (ints l) l:=⟨by rw[kN,Nat.mul_one],λj hj=>by
 rw[Nat.mul_one,ints,← List.map_drop,← List.map_take,List.drop_eq_getElem_cons hj];rfl⟩
theorem ajQ{α:Type}{V:α→Value}{l:List α}(h:SlG 1 r (λc x=>c=[V x]) (.slice p n cap) l)(hi:i<l.length):
  ∃b off,p=some ⟨b,off,none⟩∧n=l.length∧Ob r λw=>w.cell? ⟨b,off+i,none⟩=some (V l[i]):=by
 have hsh:=h.shape
 obtain⟨p',cap',e,_,_⟩:=hsh
 obtain⟨b,off,c,hE,hc,hcc,hcl⟩:=h.get (by decide) hi
 obtain rfl:c=_:=hcc
 cases e
 cases hE
 refine⟨b,off,rfl,rfl,?_⟩
 have:=hcl 0 _ rfl
 rwa[show off+i*1+0=off+i by omega]at this
theorem xz(h:SlG 1 r zQ (.slice p n cap) l)(hi:i<l.length):∃b off,p=some ⟨b,off,none⟩∧n=l.length∧Ob r λw=>w.cell? ⟨b,off+i,none⟩=some (.int .i64 l[i]):=ajQ (V:=Value.int .i64) h hi
theorem aeo{l:List Bool}(h:SlG 1 r jU (.slice p n cap) l)(hi:i<l.length):∃b off,p=some ⟨b,off,none⟩∧n=l.length∧Ob r λw=>w.cell? ⟨b,off+i,none⟩=some (.bool l[i]):=ajQ (V:=Value.bool) h hi
end
theorem agW{m:List Bool}{i:Nat}(hi:i<m.length):mkd (m.take (i+1))=mkd (m.take i)++(if m[i]=true then [(i:Int)]else []):=by
 have hl:(m.take (i+1)).length=i+1:=by rw[List.length_take];omega
 have hl':(m.take i).length=i:=by rw[List.length_take];omega
 rw[mkd,mkd,hl,hl',List.range_succ,List.filter_append,List.map_append]
 congr 1
 ·congr 1
  refine List.filter_congr λx hx=>?_
  have:=List.mem_range.1 hx
  rw[ggd,ggd,List.getElem?_take,List.getElem?_take,if_pos (by omega),if_pos this]
 ·have e:(m.take (i+1)).getD i false=m[i]:=by
   rw[ggd,List.getElem?_take,if_pos (by omega),gqg hi];rfl
  cases hm:m[i]with
  |true=>rw [List.filter_cons_of_pos (by rw[e,hm])];simp
  |false=>rw [List.filter_cons_of_neg (by rw[e,hm];simp)];simp
theorem aa1{r:Gh}{p:Option Addr}{n cap:Nat}{l:List Int}(h:SlG 1 r yE (.slice p n cap) l){i:Nat}(hi:i<l.length):∃b off,p=some ⟨b,off,none⟩∧n=l.length∧Ob r λw=>w.cell? ⟨b,off+i,none⟩=some (.int .i64 l[i]):=
 xz (h.mono λc x hx=>hx.1) hi
end Go.Proofs
namespace Go.Sh
open Go.RowKit Go.MapKept
def mpI(P:Program)(t:TypeId):Option (TypeId×TypeId):=match P.underlying t with
 |some (.map k e)=>(match P.underlying k with|some (.int .i64)=>some (k,e)|_=>none)
 |_=>none
theorem J2{P:Program}{t k e:TypeId}(h:mpI P t=some (k,e)):P.underlying t=some (.map k e)∧P.underlying k=some (.int .i64):=by
 unfold mpI at h
 split at h
 ·rename_i k' e' h1
  split at h
  ·rename_i h2
   cases h;exact⟨h1,h2⟩
  ·cases h
 ·cases h
def amt(m:MapEntry)(x:Int×Value):Prop:=m.key=.int .i64 x.1∧m.val=x.2
inductive EntsI:List MapEntry→List (Int×Value)→Prop
 |nil:EntsI [] []
 |cons {m:MapEntry} {x:Int×Value} {l:List MapEntry} {M:List (Int×Value)}:amt m x→EntsI l M→EntsI (m::l) (x::M)
theorem EntsI.snoc{l:List MapEntry}{M:List (Int×Value)}{m:MapEntry}{x:Int×Value}(h:EntsI l M)(hm:amt m x):EntsI (l++[m]) (M++[x]):=by
 induction h with
 |nil=>exact .cons hm .nil
 |cons h _ ih=>exact .cons h ih
theorem ajR{x:Int}{kd:IntKind}{l:List MapEntry}{M:List (Int×Value)}(h:EntsI l M):∀{i:Nat},∃o,Instr.findNow (.int kd) (.int .i64 x) l i=some o∧o.map (·.2)=M.lookup x:=by
 induction h with
 |nil=>intro i;exact⟨none,rfl,rfl⟩
 |@cons m y l M hm h ih=>
  intro i
  obtain⟨hk,hv⟩:=hm
  obtain⟨y1,y2⟩:=y
  by_cases hx:x=y1
  ·subst hx
   refine⟨some (i,m.val),?_,?_⟩
   ·rw[Instr.findNow,hk];simp[Instr.sameNow]
   ·rw[List.lookup_cons,show (x == x)=true by simp,hv];rfl
  ·obtain⟨o,h1,h2⟩:=ih (i:=i+1)
   have hb:(x == y1)=false:=by simpa using hx
   refine⟨o,?_,?_⟩
   ·rw[Instr.findNow,hk];simp[Instr.sameNow,hb,h1]
   ·rw[List.lookup_cons,hb,h2]
class km(b:Nat)(L:List Asr)(Q:outParam (Obj→Prop))(f:outParam (Asr→List Asr)):Prop where
 h:∃p q,L=p++.obj b Q::q∧∀y,f y=p++y::q
instance {b:Nat} {Q:Obj→Prop} {L:List Asr}:km b (.obj b Q::L) Q λy=>y::L:=⟨[],L,rfl,λ_=>rfl⟩
instance (priority:=low) {b:Nat} {Q:Obj→Prop} {x:Asr} {L:List Asr} {f:Asr→List Asr} [h:km b L Q f]:km b (x::L) Q λy=>x::f y:=⟨by
 obtain⟨p,q,h1,h2⟩:=h.h
 exact⟨x::p,q,by rw[h1];rfl,λc'=>by rw[h2];rfl⟩⟩
end Go.Sh
namespace Go.Proofs
open Go.Sh Go.RowKit
section
variable {c:List Value}
theorem StX.frzNew{w0 w:World}{r:Gh}{L M:List Asr}{T:TypeId}(S:StX noX w0 r w L)(b:Nat)[h:ZX b L c T M]:StX noX w0 (r.or (Go.Sh.one b c T)) w M∧Above w0 (Go.Sh.one b c T):=
 ⟨S.frzAt b,λk o ho=>by
  obtain⟨rfl,_⟩:=ho
  exact((S.permO h.h.symm).mine _ List.mem_cons_self k rfl).1.resolve_right id⟩
theorem xb{q:Gh}{b i:Nat}{T:TypeId}{v:Value}[Le (Go.Sh.one b c T) q](h:c[i]? = some v):Ob q λw=>w.cell? ⟨b,i,none⟩=some v:=λw hw=>by
 have B:Blk w b c T:=yH w (hw.le (h:=inferInstance))
 show w.cell? ⟨b,i,none⟩=some v
 rw[B.cell];exact h
end
end Go.Proofs
namespace Go.Proofs.Tryz
open Go.Sh
section
variable {t0 t1 t2 t3:Value} {w:World} {K:VW}
def ae5(t0 t1 t2:Value)(w:World)(K:VW):Prop:=
 pw w (Instr.box 25 t0) λt3 w1=>
 bt .lss 3 t1 (i6 0) λt16=>za (λK2=>gIf t16 false (fl w1 t3 25 1 23 λt20=>pp (Builtin.len_ #[23] 3 #[t20]) λt21=>bf .geq 3 t1 t21 λt22=>K2 [t22] w1) (K2 [u_] w1)) (λs3 _d4 w5=>
 zb t16 tr_ (s3.getD 0 u_) λt23=>za (λK6=>gIf t23 false (fl w5 t3 25 1 23 λt27=>px 23 t27 t1 λt29=>fl w5 t29 74 6 72 λt31=>pp (Builtin.len_ #[72] 3 #[t31]) λt32=>bf .geq 3 t2 t32 λt33=>K6 [t33] w5) (K6 [u_] w5)) (λs7 _d8 w9=>
 zb t23 tr_ (s7.getD 0 u_) λt34=>za (λK10=>gIf t34 false (lo w9 25 t3 λt36=>ca QA #[t36] w9 λt37 w14=>
 pp (Op.unary .not t37) λt38=>K10 [t38] w14) (K10 [u_] w9)) (λs11 _d12 w13=>
 zb t34 tr_ (s11.getD 0 u_) λt39=>zc t39 (K (.tuple #[(Value.pointer Option.none),(i6 2)]) w13) (za (λK15=>
 lo w13.drew 25 t3 λt40=>fl w13.drew t3 25 1 23 λt42=>xl w13.drew 23 t42 t1 74 λt45=>pp (Instr.build 90 #[(0,t40),(1,t45)]) λt46=>((pw w13.drew (Instr.box 90 t46) λt47 w19=>
 pw w19 (Instr.alloc 78 true (.tuple #[])) λt8 w20=>
 Ext w19 w20∧
 so w20 78 t8 t47 λw21=>K15 [t8] w21)∧
 (pw w13.drew (Instr.alloc 78 true (.tuple #[])) λt8_23 w22=>
 Ext w13.drew w22∧
 pw w22 (Instr.box 90 t46) λt47_25 w24=>
 so w24 78 t8_23 t47_25 λw26=>K15 [t8_23] w26))) (λs16 _d17 w18=>
 pp (Instr.makeFunc (.func 71) #[] #[(s16.getD 0 u_)]) λt48=>lo w18 78 (s16.getD 0 u_) λt49=>fa t49 90 1 λt51=>fl w18 t51 74 4 70 λt53=>pp (Builtin.len_ #[70] 3 #[t53]) λt54=>zo [(i6 0)] w18 (λs28 _d29 w30 K27=>
 bf .lss 3 (s28.getD 0 u_) t54 λt56=>zc t56 (pp (Instr.build 59 #[(0,(s28.getD 0 u_))]) λt60=>cv t48 #[t60] w30 λ_t61 w31=>
 bt .add 3 (s28.getD 0 u_) (i6 1) λt62=>K27 [t62] w31) (lo w30 78 (s16.getD 0 u_) λt63=>fa t63 90 1 λt65=>fl w30 t65 74 6 72 λt67=>pp (Builtin.len_ #[72] 3 #[t67]) λt68=>zo [(i6 0)] w30 (λs33 _d34 w35 K32=>
 bf .lss 3 (s33.getD 0 u_) t68 λt70=>zc t70 (za (λK36=>
 xl w35 72 t67 (s33.getD 0 u_) 94 λt72=>pw w35 (Instr.alloc 94 true (.tuple #[])) λt12 w40=>
 so w40 94 t12 t72 λw41=>lo w41 94 t12 λt73=>ca xI #[t73] w41 λt74 w42=>
 pp (Builtin.len_ #[53] 3 #[t74]) λt75=>zo [(i6 0)] w42 (λs44 _d45 w46 K43=>
 bf .lss 3 (s44.getD 0 u_) t75 λt77=>zc t77 (xl w46 53 t74 (s44.getD 0 u_) 61 λt79=>pw w46 (Instr.alloc 61 true (.tuple #[])) λt14 w47=>
 so w47 61 t14 t79 λw48=>fl w48 t14 61 2 59 λt82=>cv t48 #[t82] w48 λ_t83 w49=>
 bt .add 3 (s44.getD 0 u_) (i6 1) λt84=>K43 [t84] w49) (za (λK50=>
 fl w46 t12 94 0 92 λt86=>bt .eql 92 t86 (Value.int .u8 4) λt87=>za (λK54=>gIf t87 false (fl w46 t12 94 0 92 λt90=>bt .eql 92 t90 (Value.int .u8 10) λt91=>K54 [t91] w46) (K54 [u_] w46)) (λs55 _d56 w57=>
 zb t87 tr_ (s55.getD 0 u_) λt92=>za (λK58=>gIf t92 false (fl w57 t12 94 0 92 λt95=>bt .eql 92 t95 (Value.int .u8 11) λt96=>K58 [t96] w57) (K58 [u_] w57)) (λs59 _d60 w61=>
 zb t92 tr_ (s59.getD 0 u_) λt97=>zc t97 (fl w61 t12 94 6 59 λt100=>cv t48 #[t100] w61 λ_t101 w62=>
 K50 [] w62) (K50 [] w61)))) (λ_s51 _d52 w53=>
 lo w53 94 t12 λt102=>ca kW #[t102] w53 λt103 w63=>
 zc t103 (fl w63 t12 94 1 59 λt106=>cv t48 #[t106] w63 λ_t107 w64=>
 K36 [] w64) (K36 [] w63))))) (λ_s37 _d38 w39=>
 bt .add 3 (s33.getD 0 u_) (i6 1) λt108=>K32 [t108] w39)) (lo w35 78 (s16.getD 0 u_) λt109=>ff w35 t109 90 2 37 λt112=>ca xC #[t112,(Value.func (.func 49) #[] #[])] w35 λ_t113 w65=>
 za (λK66=>
 lo w65.drew 78 (s16.getD 0 u_) λt115=>ff w65.drew t115 90 2 37 λt118=>((pw w65.drew (Instr.loadAt 78 (s16.getD 0 u_)) λt114 w70=>
 Ext w65.drew w70∧
 ca zZ #[t118,(Value.func (.func 59) #[] #[])] w70 λt119 w71=>
 fa t114 90 2 λt121=>so w71 37 t121 t119 λw72=>K66 [] w72)∧
 (ca zZ #[t118,(Value.func (.func 59) #[] #[])] w65.drew λt119_74 w73=>
 pw w73 (Instr.loadAt 78 (s16.getD 0 u_)) λt114_76 w75=>
 Ext w73 w75∧
 fa t114_76 90 2 λt121_78=>so w75 37 t121_78 t119_74 λw79=>K66 [] w79))) (λ_s67 _d68 w69=>
 lo w69 78 (s16.getD 0 u_) λt122=>ff w69 t122 90 2 37 λt125=>pp (Builtin.len_ #[37] 3 #[t125]) λt126=>bt .gtr 3 t126 (i6 256) λt127=>zc t127 (K (.tuple #[(Value.pointer Option.none),(i6 5)]) w69) (lo w69 78 (s16.getD 0 u_) λt128=>K (.tuple #[t128,(i6 0)]) w69)))))))))))
theorem aiQ(h:ae5 t0 t1 t2 w K):zd prog qh #[t0,t1,t2] w K:=
 okC false (.s (.r (rz 3 0 2)) (.s (.s (.r (ra 3 0 0 (.grp 17 false (ri 5 3 16) [22] (ra 2 8 0 (.grp 24 false (ri 9 10 4112) [33] (ra 2 19 0 (.grp 35 false (ri 3 21 9) [38] (rz 1 24 0)))))))) (.c (.s (.r (rz 2 0 0)) (.n)) (.n))) (.j [8] (.r (ra 7 0 1041 (.alt 7 .l (rz 2 8 11) (ra 1 8 3 (ra 1 7 2 (rz 1 9 2)))))) (.s (.r (rz 2 0 0)) (.s (.s (.r (rz 7 0 257)) (.b (.lp [55] (.s (.r (rz 1 0 0)) (.s (.c (.n) (.n)) (.s (.b (.s (.r (rz 2 0 0)) (.r (rz 4 0 128)))) (.r (rz 2 0 0)))))))) (.s (.s (.r (rz 7 0 257)) (.b (.lp [69] (.s (.r (rz 1 0 0)) (.s (.c (.n) (.n)) (.j [] (.b (.s (.r (rz 4 0 164)) (.s (.s (.r (rz 4 0 9)) (.b (.lp [76] (.s (.r (rz 1 0 0)) (.s (.c (.n) (.n)) (.s (.b (.s (.r (rz 4 0 164)) (.r (rz 4 0 144)))) (.r (rz 2 0 0)))))))) (.j [] (.s (.r (ra 4 0 4 (.grp 88 false (ri 3 4 4) [91] (ra 2 7 0 (.grp 93 false (ri 3 9 4) [96] (rz 1 12 0)))))) (.c (.r (rz 4 0 144)) (.n))) (.s (.r (rz 2 0 9)) (.c (.r (rz 4 0 144)) (.n))))))) (.r (rz 2 0 0)))))))) (.s (.r (rz 5 0 577)) (.j [] (.r (ra 4 1 65 (.alt 0 .u (rz 4 5 130) (ra 1 5 2 (ra 1 0 3 (rz 3 6 32)))))) (.s (.s (.r (rz 6 0 65)) (.c (.s (.r (rz 2 0 0)) (.n)) (.n))) (.s (.r (rz 3 0 1)) (.n))))))))))) func41 rfl (by kernel_rfl) (by kernel_rfl) h
def abE(t0 t1:Value)(w:World)(K:VW):Prop:=
 pw w (Instr.box 59 t0) λt2 w1=>
 lo w1 78 t1 λt6=>lo w1 59 t2 λt7=>ca xw #[t6,t7] w1 λt8 w2=>
 pe t8 0 λt9=>pe t8 1 λ_t10=>pw w2 (Instr.alloc 59 true (.tuple #[])) λt3 w3=>
 so w3 59 t3 t9 λw4=>lo w4.drew 78 t1 λt12=>ff w4.drew t12 90 2 37 λt15=>lo w4.drew 59 t3 λt16=>((pw w4.drew (Instr.loadAt 78 t1) λt11 w5=>
 Ext w4.drew w5∧
 ca kg #[t16] w5 λt17 w6=>
 Ext w5 w6∧
 pw w6 (Builtin.append_ #[37,37] 37 #[t15,t17]) λt18 w7=>
 fa t11 90 2 λt20=>so w7 37 t20 t18 λw8=>K (.tuple #[]) w8)∧
 (ca kg #[t16] w4.drew λt17_10 w9=>
 Ext w4.drew w9∧
 ((pw w9 (Instr.loadAt 78 t1) λt11_12 w11=>
 Ext w9 w11∧
 pw w11 (Builtin.append_ #[37,37] 37 #[t15,t17_10]) λt18_14 w13=>
 fa t11_12 90 2 λt20_16=>so w13 37 t20_16 t18_14 λw17=>K (.tuple #[]) w17)∧
 (pw w9 (Builtin.append_ #[37,37] 37 #[t15,t17_10]) λt18_19 w18=>
 pw w18 (Instr.loadAt 78 t1) λt11_21 w20=>
 Ext w18 w20∧
 fa t11_21 90 2 λt20_23=>so w20 37 t20_23 t18_19 λw24=>K (.tuple #[]) w24))))
theorem agX(h:abE t0 t1 w K):zd prog abp #[t0,t1] w K:=
 okC false (.s (.r (rz 1 0 2)) (.s (.r (rz 9 0 40997)) (.r (ra 5 1 321 (.alt 0 .u (rz 5 6 523) (ra 1 6 3 (.alt 0 .u (rz 4 7 130) (ra 1 7 2 (ra 1 0 3 (rz 3 8 32)))))))))) func71 rfl (by kernel_rfl) (by kernel_rfl) h
def Qu(t0:Value)(w:World)(K:VW):Prop:=
 pw w (Instr.box 94 t0) λt1 w1=>
 fl w1 t1 94 2 61 λt4=>fl w1 t1 94 3 61 λt6=>pw w1 (Instr.buildSlice 53 2 #[(0,t4),(1,t6)]) λt7 w2=>
 fl w2 t1 94 4 53 λt9=>pw w2 (Builtin.append_ #[53,53] 53 #[t7,t9]) λt10 w3=>
 ca yi #[t10,(Value.func (.func 89) #[] #[])] w3 λt11 w4=>
 K t11 w4
theorem acq(h:Qu t0 w K):zd prog xI #[t0] w K:=
 okC false (.s (.r (rz 2 0 2)) (.s (.r (rz 10 0 168516)) (.n))) func60 rfl (by kernel_rfl) (by kernel_rfl) h
def Y4(t0:Value)(w:World)(K:VW):Prop:=
 pw w (Instr.box 61 t0) λt1 w1=>
 fl w1 t1 61 0 56 λt4=>bt .neq 56 t4 (Value.int .u8 3) λt5=>za (λK2=>gIf t5 true (fl w1 t1 61 0 56 λt8=>bt .neq 56 t8 (Value.int .u8 4) λt9=>K2 [t9] w1) (K2 [u_] w1)) (λs3 _d4 w5=>
 zb t5 (s3.getD 0 u_) fa_ λt10=>K t10 w5)
theorem aaq(h:Y4 t0 w K):zd prog YX #[t0] w K:=
 okC false (.s (.r (rz 2 0 2)) (.s (.r (ra 4 0 4 (.grp 6 true (ri 3 4 4) [9] (rz 2 7 0)))) (.n))) func89 rfl (by kernel_rfl) (by kernel_rfl) h
def Jr(t0:Value)(w:World)(K:VW):Prop:=
 pw w (Instr.box 94 t0) λt1 w1=>
 fl w1 t1 94 0 92 λt4=>bt .geq 92 t4 (Value.int .u8 1) λt5=>za (λK2=>gIf t5 true (fl w1 t1 94 0 92 λt8=>bt .leq 92 t8 (Value.int .u8 8) λt9=>K2 [t9] w1) (K2 [u_] w1)) (λs3 _d4 w5=>
 zb t5 (s3.getD 0 u_) fa_ λt10=>K t10 w5)
theorem adv(h:Jr t0 w K):zd prog kW #[t0] w K:=
 okC false (.s (.r (rz 2 0 2)) (.s (.r (ra 4 0 4 (.grp 6 true (ri 3 4 4) [9] (rz 2 7 0)))) (.n))) func61 rfl (by kernel_rfl) (by kernel_rfl) h
def XS(t0 t1:Value)(w:World)(K:VW):Prop:=
 pw w (Instr.box 59 t1) λt3 w1=>
 pw w1 (Instr.alloc 59 true (.tuple #[])) λt4 w2=>
 fl w2 t3 59 1 57 λt9=>pp (Builtin.len_ #[57] 3 #[t9]) λt10=>bt .eql 3 t10 (i6 0) λt11=>zc t11 (lo w2 59 t3 λt12=>so w2 59 t4 t12 λw3=>pq w3 (zk 59 t4) λr4=>K (.tuple #[r4,tr_]) w3) (za (λK5=>
 fa t0 90 0 λt16=>fl w2.drew t16 25 0 22 λt18=>fa t0 90 1 λt21=>fl w2.drew t21 74 4 70 λt23=>fl w2.drew t3 59 0 3 λt25=>fl w2.drew t3 59 0 3 λt27=>bt .add 3 t27 (i6 1) λt28=>pp (Instr.sliceAt 70 t23 (some t25) (some t28) none) λt29=>fl w2.drew t3 59 1 57 λt31=>pp (Instr.build 59 #[(1,t31)]) λt32=>((ca Zg #[t18,t29,t32] w2.drew λt33 w9=>
 pe t33 0 λt34=>pe t33 1 λ_t35=>pw w9 (Instr.alloc 59 true (.tuple #[])) λt6 w10=>
 Ext w9 w10∧
 so w10 59 t6 t34 λw11=>K5 [t6] w11)∧
 (pw w2.drew (Instr.alloc 59 true (.tuple #[])) λt6_13 w12=>
 Ext w2.drew w12∧
 ca Zg #[t18,t29,t32] w12 λt33_15 w14=>
 pe t33_15 0 λt34_16=>pe t33_15 1 λ_t35_17=>so w14 59 t6_13 t34_16 λw18=>K5 [t6_13] w18))) (λs6 _d7 w8=>
 fl w8 t3 59 0 3 λt37=>pf 59 (s6.getD 0 u_) 0 λt38=>so w8 3 t38 t37 λw19=>lo w19.drew 59 (s6.getD 0 u_) λt39=>pf 59 (s6.getD 0 u_) 1 λt40=>pf 59 t3 1 λt43=>((pw w19.drew (Instr.loadAt 57 t40) λt41 w20=>
 Ext w19.drew w20∧
 pp (Builtin.len_ #[57] 3 #[t41]) λt42=>((pw w20 (Instr.loadAt 57 t43) λt44 w21=>
 Ext w20 w21∧
 pp (Builtin.len_ #[57] 3 #[t44]) λt45=>bf .eql 3 t42 t45 λt46=>so w21 59 t4 t39 λw22=>pq w22 (zk 59 t4) λr23=>K (.tuple #[r23,t46]) w22)∧
 (so w20 59 t4 t39 λw24=>pw w24 (Instr.loadAt 57 t43) λt44_26 w25=>
 Ext w24 w25∧
 pp (Builtin.len_ #[57] 3 #[t44_26]) λt45_27=>bf .eql 3 t42 t45_27 λt46_28=>pq w25 (zk 59 t4) λr29=>K (.tuple #[r29,t46_28]) w25)))∧
 (((pw w19.drew (Instr.loadAt 57 t43) λt44_31 w30=>
 Ext w19.drew w30∧
 pp (Builtin.len_ #[57] 3 #[t44_31]) λt45_32=>((pw w30 (Instr.loadAt 57 t40) λt41_34 w33=>
 Ext w30 w33∧
 pp (Builtin.len_ #[57] 3 #[t41_34]) λt42_35=>bf .eql 3 t42_35 t45_32 λt46_36=>so w33 59 t4 t39 λw37=>pq w37 (zk 59 t4) λr38=>K (.tuple #[r38,t46_36]) w37)∧
 (so w30 59 t4 t39 λw39=>pw w39 (Instr.loadAt 57 t40) λt41_41 w40=>
 Ext w39 w40∧
 pp (Builtin.len_ #[57] 3 #[t41_41]) λt42_42=>bf .eql 3 t42_42 t45_32 λt46_43=>pq w40 (zk 59 t4) λr44=>K (.tuple #[r44,t46_43]) w40)))∧
 (so w19.drew 59 t4 t39 λw45=>((pw w45 (Instr.loadAt 57 t40) λt41_47 w46=>
 Ext w45 w46∧
 pp (Builtin.len_ #[57] 3 #[t41_47]) λt42_48=>pw w46 (Instr.loadAt 57 t43) λt44_50 w49=>
 Ext w46 w49∧
 pp (Builtin.len_ #[57] 3 #[t44_50]) λt45_51=>bf .eql 3 t42_48 t45_51 λt46_52=>pq w49 (zk 59 t4) λr53=>K (.tuple #[r53,t46_52]) w49)∧
 (pw w45 (Instr.loadAt 57 t43) λt44_55 w54=>
 Ext w45 w54∧
 pp (Builtin.len_ #[57] 3 #[t44_55]) λt45_56=>pw w54 (Instr.loadAt 57 t40) λt41_58 w57=>
 Ext w54 w57∧
 pp (Builtin.len_ #[57] 3 #[t41_58]) λt42_59=>bf .eql 3 t42_59 t45_56 λt46_60=>pq w57 (zk 59 t4) λr61=>K (.tuple #[r61,t46_60]) w57))))))))
theorem abf(h:XS t0 t1 w K):zd prog xw #[t0,t1] w K:=
 okC false (.s (.r (rz 3 0 10)) (.s (.s (.r (rz 4 0 4)) (.c (.s (.r (rz 3 0 9)) (.n)) (.n))) (.j [6] (.r (ra 19 0 17251434752 (.alt 19 .l (rz 6 20 704) (ra 1 23 3 (ra 4 19 2 (rz 2 24 2)))))) (.s (.r (rz 4 0 132)) (.s (.r (ra 2 0 1 (ra 1 4 0 (.alt 2 .u (ra 1 3 0 (.alt 5 .u (rz 4 6 32) (ra 1 8 2 (ra 3 5 3 (rz 1 9 0))))) (.alt 5 .u (ra 1 6 0 (.alt 2 .u (ra 1 3 0 (rz 3 7 8)) (ra 1 8 2 (ra 2 2 3 (ra 1 7 0 (rz 1 9 0)))))) (ra 1 8 2 (.alt 2 .u (ra 1 3 0 (ra 3 5 3 (rz 1 9 0))) (ra 2 5 3 (ra 2 2 3 (ra 1 7 0 (rz 1 9 0))))))))))) (.n)))))) func47 rfl (by kernel_rfl) (by kernel_rfl) h
def Y5(t0 t1 t2:Value)(w:World)(K:VW):Prop:=
 pw w (Instr.box 59 t1) λt4 w1=>
 ff w1 t0 90 2 37 λt11=>pp (Builtin.len_ #[37] 3 #[t11]) λt12=>zo [(i6 0)] w1 (λs3 _d4 w5 K2=>
 bf .lss 3 (s3.getD 0 u_) t12 λt14=>zc t14 (za (λK6=>
 xl w5 37 t11 (s3.getD 0 u_) 59 λt17=>pw w5 (Instr.alloc 59 true (.tuple #[])) λt7 w10=>
 so w10 59 t7 t17 λw11=>lo w11 59 t4 λt18=>lo w11 59 t7 λt19=>ca xX #[t18,t19] w11 λt20 w12=>
 zc t20 (cv t2 #[(s3.getD 0 u_)] w12 λ_t23 w13=>
 K6 [] w13) (K6 [] w12)) (λ_s7 _d8 w9=>
 bt .add 3 (s3.getD 0 u_) (i6 1) λt24=>K2 [t24] w9)) (K (.tuple #[]) w5))
theorem aar(h:Y5 t0 t1 t2 w K):zd prog zX #[t0,t1,t2] w K:=
 okC false (.s (.r (rz 1 0 2)) (.s (.r (rz 6 0 64)) (.b (.lp [13] (.s (.r (rz 1 0 0)) (.s (.c (.n) (.n)) (.j [] (.b (.s (.r (rz 6 0 2192)) (.s (.r (rz 3 0 37)) (.c (.r (rz 3 0 32)) (.n))))) (.r (rz 2 0 0))))))))) func42 rfl (by kernel_rfl) (by kernel_rfl) h
def Js(t0 t1:Value)(w:World)(K:VW):Prop:=
 pq w (Instr.lookup 82 t0 t1 false) λt6=>bt .add 3 t6 (i6 1) λt7=>pu w (Instr.mapUpdate 82 t0 t1 t7) λw1=>K (.tuple #[]) w1
theorem adw(h:Js t0 t1 w K):zd prog y8 #[t0,t1] w K:=
 okC false (.r (rz 5 0 528)) func31 rfl (by kernel_rfl) (by kernel_rfl) h
def Qv(t0 t1:Value)(w:World)(K:VW):Prop:=
 pw w (Builtin.delete_ #[82,3] 0 #[t0,t1]) λ_ w1=>
 K (.tuple #[]) w1
theorem acr(h:Qv t0 t1 w K):zd prog jj #[t0,t1] w K:=
 okC false (.r (rz 3 0 32)) func33 rfl (by kernel_rfl) (by kernel_rfl) h
def Qw(t0:Value)(w:World)(K:VW):Prop:=
 pw w (Instr.range 82 t0) λt6 w1=>
 zo [(Value.slice Option.none 0 0)] w1 (λs3 _d4 w5 K2=>
 pw w5 (Instr.next t6 false 0) λt7 w6=>
 pe t7 0 λt8=>zc t8 (pw w6 (Instr.entry t6) λt9 w7=>
 pe t9 0 λt10=>pw w7 (Instr.buildSlice 26 1 #[(0,t10)]) λt13 w8=>
 pw w8 (Builtin.append_ #[26,26] 26 #[(s3.getD 0 u_),t13]) λt14 w9=>
 K2 [t14] w9) (ca vF #[(s3.getD 0 u_)] w6 λ_t16 w10=>
 K (s3.getD 0 u_) w10))
theorem acs(h:Qw t0 w K):zd prog yn #[t0] w K:=
 okC false (.s (.r (rz 1 0 0)) (.s (.r (rz 1 0 0)) (.s (.s (.r (rz 2 0 8)) (.b (.lp [3] (.s (.r (rz 2 0 2)) (.s (.c (.n) (.n)) (.b (.s (.r (rz 3 0 2)) (.r (rz 5 0 160))))))))) (.s (.r (rz 2 0 8)) (.s (.r (rz 2 0 0)) (.n)))))) func28 rfl (by kernel_rfl) (by kernel_rfl) h
def aas(t0 t1:Value)(w:World)(K:VW):Prop:=
 pw w (Instr.box 25 t0) λt2 w1=>
 lo w1 25 t2 λt9=>ca qh #[t9,t1,(i6 (-1))] w1 λt11 w2=>
 pe t11 0 λt12=>pe t11 1 λt13=>bt .neq 29 t13 (i6 0) λt15=>zc t15 (K (.tuple #[(Value.slice Option.none 0 0),t13]) w2) (ff w2 t12 90 2 37 λt20=>K (.tuple #[t20,t13]) w2)
theorem afN(h:aas t0 t1 w K):zd prog Xt #[t0,t1] w K:=
 okC false (.s (.r (rz 3 0 2)) (.s (.r (rz 8 0 33)) (.s (.s (.r (rz 2 0 0)) (.c (.s (.r (rz 3 0 0)) (.n)) (.n))) (.s (.r (rz 7 0 64)) (.n))))) func20 rfl (by kernel_rfl) (by kernel_rfl) h
def abF(t0 t1 t2:Value)(w:World)(K:VW):Prop:=
 pw w (Instr.box 25 t0) λt3 w1=>
 pw w1 (Instr.box 59 t2) λt5 w2=>
 lo w2 25 t3 λt15=>ca qh #[t15,t1,(i6 (-1))] w2 λt17 w3=>
 pe t17 0 λt18=>pe t17 1 λt19=>bt .neq 29 t19 (i6 0) λt21=>zc t21 (K (.tuple #[(i6 0),t19]) w3) (fl w3.drew t3 25 0 22 λt24=>fa t18 90 1 λt27=>fl w3.drew t27 74 4 70 λt29=>lo w3.drew 59 t5 λt30=>ca QB #[t24,t29,t30] w3.drew λt31 w4=>
 pp (Op.unary .not t31) λt32=>zc t32 (K (.tuple #[(i6 0),(i6 2)]) w4) (lo w4 59 t5 λt35=>ca xw #[t18,t35] w4 λt36 w5=>
 pe t36 0 λt37=>pe t36 1 λ_t38=>pw w5 (Instr.alloc 59 true (.tuple #[])) λt10 w6=>
 so w6 59 t10 t37 λw7=>ff w7.drew t18 90 2 37 λt43=>lo w7.drew 59 t10 λt44=>ca zM #[t43,t44,(Value.func (.func 49) #[] #[])] w7.drew λt45 w8=>
 pe t45 0 λt46=>pe t45 1 λt47=>pp (Op.unary .not t47) λt49=>zc t49 (K (.tuple #[(i6 0),(i6 2)]) w8) (K (.tuple #[t46,t19]) w8)))
theorem agY(h:abF t0 t1 t2 w K):zd prog QD #[t0,t1,t2] w K:=
 okC false (.s (.r (rz 4 0 10)) (.s (.r (rz 8 0 33)) (.s (.s (.r (rz 2 0 0)) (.c (.s (.r (rz 3 0 0)) (.n)) (.n))) (.s (.s (.r (rz 10 0 151556)) (.c (.s (.r (rz 2 0 0)) (.n)) (.n))) (.s (.r (rz 9 0 40996)) (.s (.r (rz 11 0 2368)) (.s (.s (.r (rz 2 0 0)) (.c (.s (.r (rz 2 0 0)) (.n)) (.n))) (.s (.r (rz 4 0 0)) (.n))))))))) func22 rfl (by kernel_rfl) (by kernel_rfl) h
def aat(t0 t1 t2:Value)(w:World)(K:VW):Prop:=
 pw w (Instr.box 25 t0) λt3 w1=>
 lo w1 25 t3 λt12=>ca qh #[t12,t1,(i6 (-1))] w1 λt14 w2=>
 pe t14 0 λt15=>pe t14 1 λt16=>bt .neq 29 t16 (i6 0) λt18=>zc t18 (K (.tuple #[(Value.slice Option.none 0 0),t16]) w2) (bt .lss 3 t2 (i6 0) λt21=>za (λK3=>gIf t21 false (ff w2 t15 90 2 37 λt27=>pp (Builtin.len_ #[37] 3 #[t27]) λt28=>bf .geq 3 t2 t28 λt29=>K3 [t29] w2) (K3 [u_] w2)) (λs4 _d5 w6=>
 zb t21 tr_ (s4.getD 0 u_) λt30=>zc t30 (K (.tuple #[(Value.slice Option.none 0 0),(i6 2)]) w6) (pw w6 (Instr.makeMap 82 none) λt31 w7=>
 ff w7 t15 90 2 37 λt36=>xl w7 37 t36 t2 59 λt39=>pp (Instr.makeFunc (.func 31) #[t31] #[]) λt41=>ca zX #[t15,t39,t41] w7 λ_t42 w8=>
 ca yn #[t31] w8 λt44 w9=>
 K (.tuple #[t44,t16]) w9)))
theorem afO(h:aat t0 t1 t2 w K):zd prog Xu #[t0,t1,t2] w K:=
 okC false (.s (.r (rz 3 0 2)) (.s (.r (rz 8 0 33)) (.s (.s (.r (rz 2 0 0)) (.c (.s (.r (rz 3 0 0)) (.n)) (.n))) (.s (.s (.r (ra 3 0 0 (.grp 22 false (ri 7 3 256) [29] (rz 1 10 0)))) (.c (.s (.r (rz 2 0 0)) (.n)) (.n))) (.s (.r (rz 2 0 2)) (.s (.r (rz 11 0 2113792)) (.s (.r (rz 5 0 8)) (.n)))))))) func17 rfl (by kernel_rfl) (by kernel_rfl) h
def aau(t0 t1:Value)(w:World)(K:VW):Prop:=
 pw w (Instr.box 25 t0) λt2 w1=>
 lo w1 25 t2 λt11=>ca qh #[t11,t1,(i6 (-1))] w1 λt13 w2=>
 pe t13 0 λt14=>pe t13 1 λt15=>bt .neq 29 t15 (i6 0) λt17=>zc t17 (K (.tuple #[(Value.slice Option.none 0 0),t15]) w2) (pw w2 (Instr.makeMap 82 none) λt19 w3=>
 fa t14 90 1 λt22=>fl w3 t22 74 4 70 λt24=>pp (Builtin.len_ #[70] 3 #[t24]) λt25=>zo [(i6 0)] w3 (λs5 _d6 w7 K4=>
 bf .lss 3 (s5.getD 0 u_) t25 λt27=>zc t27 (za (λK8=>
 bt .eql 3 (s5.getD 0 u_) (i6 0) λt30=>za (λK12=>gIf t30 false (fa t14 90 1 λt35=>fl w7 t35 74 3 3 λt37=>bf .gtr 3 (s5.getD 0 u_) t37 λt38=>K12 [t38] w7) (K12 [u_] w7)) (λs13 _d14 w15=>
 zb t30 tr_ (s13.getD 0 u_) λt39=>zc t39 (pp (Instr.build 59 #[(0,(s5.getD 0 u_))]) λt42=>pp (Instr.makeFunc (.func 31) #[t19] #[]) λt44=>ca zX #[t14,t42,t44] w15 λ_t45 w16=>
 K8 [] w16) (K8 [] w15))) (λ_s9 _d10 w11=>
 bt .add 3 (s5.getD 0 u_) (i6 1) λt46=>K4 [t46] w11)) (ca yn #[t19] w7 λt48 w17=>
 K (.tuple #[t48,t15]) w17)))
theorem afP(h:aau t0 t1 w K):zd prog Xv #[t0,t1] w K:=
 okC false (.s (.r (rz 3 0 2)) (.s (.r (rz 8 0 33)) (.s (.s (.r (rz 2 0 0)) (.c (.s (.r (rz 3 0 0)) (.n)) (.n))) (.s (.r (rz 2 0 2)) (.s (.s (.r (rz 7 0 256)) (.b (.lp [26] (.s (.r (rz 1 0 0)) (.s (.c (.n) (.n)) (.j [] (.b (.s (.r (rz 2 0 0)) (.s (.r (ra 3 0 0 (.grp 31 false (ri 7 3 1024) [38] (rz 1 10 0)))) (.c (.r (rz 6 0 2048)) (.n))))) (.r (rz 2 0 0)))))))) (.s (.r (rz 5 0 8)) (.n))))))) func25 rfl (by kernel_rfl) (by kernel_rfl) h
def Y6(t0 t1 t2 t3:Value)(w:World)(K:VW):Prop:=
 pw w (Instr.box 117 t2) λt6 w1=>
 pw w1 (Instr.box 117 t3) λt7 w2=>
 fa t0 90 1 λt18=>fl w2 t18 74 6 72 λt20=>xl w2 72 t20 t1 94 λt23=>pw w2 (Instr.alloc 94 true (.tuple #[])) λt8 w3=>
 so w3 94 t8 t23 λw4=>lo w4 94 t8 λt24=>ca xI #[t24] w4 λt25 w5=>
 pp (Builtin.len_ #[53] 3 #[t25]) λt26=>zo [(Value.slice Option.none 0 0),(i6 0)] w5 (λs7 _d8 w9 K6=>
 bf .lss 3 (s7.getD 1 u_) t26 λt28=>zc t28 (za (λK10=>
 xl w9 53 t25 (s7.getD 1 u_) 61 λt30=>pw w9 (Instr.alloc 61 true (.tuple #[])) λt11 w14=>
 so w14 61 t11 t30 λw15=>fl w15 t11 61 0 56 λt32=>bt .eql 56 t32 (Value.int .u8 4) λt33=>zc t33 (pp (Instr.makeFunc (.func 84) #[] #[t6,t11]) λt35=>pw w15 (Instr.buildSlice 141 1 #[(0,t35)]) λt36 w16=>
 pw w16 (Builtin.append_ #[141,141] 141 #[(s7.getD 0 u_),t36]) λt37 w17=>
 K10 [t37] w17) (K10 [(s7.getD 0 u_)] w15)) (λs11 _d12 w13=>
 bt .add 3 (s7.getD 1 u_) (i6 1) λt38=>K6 [(s11.getD 0 u_),t38] w13)) (za (λK18=>
 fl w9 t8 94 0 92 λt40=>bt .eql 92 t40 (Value.int .u8 10) λt41=>za (λK22=>gIf t41 false (fl w9 t8 94 0 92 λt44=>bt .eql 92 t44 (Value.int .u8 11) λt45=>K22 [t45] w9) (K22 [u_] w9)) (λs23 _d24 w25=>
 zb t41 tr_ (s23.getD 0 u_) λt46=>zc t46 (pp (Instr.makeFunc (.func 85) #[] #[t6,t8]) λt48=>pw w25 (Instr.buildSlice 141 1 #[(0,t48)]) λt49 w26=>
 pw w26 (Builtin.append_ #[141,141] 141 #[(s7.getD 0 u_),t49]) λt50 w27=>
 K18 [t50] w27) (K18 [(s7.getD 0 u_)] w25))) (λs19 _d20 w21=>
 za (λK28=>
 fl w21 t8 94 1 59 λt54=>ca xw #[t0,t54] w21 λt55 w32=>
 pe t55 0 λt56=>pe t55 1 λt57=>pw w32 (Instr.alloc 59 true (.tuple #[])) λt12 w33=>
 so w33 59 t12 t56 λw34=>lo w34 94 t8 λt58=>ca kW #[t58] w34 λt59 w35=>
 za (λK36=>gIf t59 true (K36 [t57] w35) (K36 [u_] w35)) (λs37 _d38 w39=>
 zb t59 (s37.getD 0 u_) fa_ λt62=>zc t62 (pp (Instr.makeFunc (.func 86) #[] #[t7,t8]) λt64=>pw w39 (Instr.buildSlice 141 1 #[(0,t64)]) λt65 w40=>
 pw w40 (Builtin.append_ #[141,141] 141 #[(s19.getD 0 u_),t65]) λt66 w41=>
 K28 [t66] w41) (K28 [(s19.getD 0 u_)] w39))) (λs29 _d30 w31=>
 pp (Builtin.len_ #[141] 3 #[(s29.getD 0 u_)]) λt68=>zo [(i6 0)] w31 (λs43 _d44 w45 K42=>
 bf .lss 3 (s43.getD 0 u_) t68 λt70=>zc t70 (xl w45 141 (s29.getD 0 u_) (s43.getD 0 u_) 1 λt72=>cv t72 #[] w45 λ_t74 w46=>
 bt .add 3 (s43.getD 0 u_) (i6 1) λt75=>K42 [t75] w46) (K (.tuple #[]) w45))))))
theorem aav(h:Y6 t0 t1 t2 t3 w K):zd prog jR #[t0,t1,t2,t3] w K:=
 okC false (.s (.r (rz 2 0 10)) (.s (.r (rz 10 0 672000)) (.s (.r (rz 1 0 0)) (.s (.s (.r (rz 4 0 9)) (.b (.lp [9,27] (.s (.r (rz 1 0 0)) (.s (.c (.n) (.n)) (.j [9] (.b (.s (.r (rz 4 0 164)) (.s (.r (rz 3 0 4)) (.c (.r (rz 5 0 160)) (.n))))) (.r (rz 2 0 0)))))))) (.j [9] (.s (.r (ra 4 0 4 (.grp 42 false (ri 3 4 4) [45] (rz 1 7 0)))) (.c (.r (rz 5 0 160)) (.n))) (.j [9] (.s (.r (rz 10 0 163984)) (.s (.r (ra 3 0 9 (.grp 60 true (ri 1 3 0) [61] (rz 1 4 0)))) (.c (.r (rz 5 0 160)) (.n)))) (.s (.r (rz 3 0 0)) (.b (.lp [69] (.s (.r (rz 1 0 0)) (.s (.c (.n) (.n)) (.s (.b (.s (.r (rz 3 0 4)) (.r (rz 2 0 8)))) (.r (rz 2 0 0)))))))))))))) func54 rfl (by kernel_rfl) (by kernel_rfl) h
def ZM(t0 t1:Value)(w:World)(K:VW):Prop:=
 lo w 117 t0 λt2=>fl w t1 61 2 59 λt4=>cv t2 #[t4] w λ_t5 w1=>
 K (.tuple #[]) w1
theorem J3(h:ZM t0 t1 w K):zd prog kt #[t0,t1] w K:=
 okC false (.r (rz 4 0 145)) func84 rfl (by kernel_rfl) (by kernel_rfl) h
def ZN(t0 t1:Value)(w:World)(K:VW):Prop:=
 lo w 117 t0 λt2=>fl w t1 94 6 59 λt4=>cv t2 #[t4] w λ_t5 w1=>
 K (.tuple #[]) w1
theorem J4(h:ZN t0 t1 w K):zd prog ku #[t0,t1] w K:=
 okC false (.r (rz 4 0 145)) func85 rfl (by kernel_rfl) (by kernel_rfl) h
def ZO(t0 t1:Value)(w:World)(K:VW):Prop:=
 lo w 117 t0 λt2=>fl w t1 94 1 59 λt4=>cv t2 #[t4] w λ_t5 w1=>
 K (.tuple #[]) w1
theorem J5(h:ZO t0 t1 w K):zd prog kv #[t0,t1] w K:=
 okC false (.r (rz 4 0 145)) func86 rfl (by kernel_rfl) (by kernel_rfl) h
def XT(t0 t1:Value)(w:World)(K:VW):Prop:=
 pw w (Instr.box 78 t0) λt2 w1=>
 pw w1 (Instr.alloc 82 true (.tuple #[])) λt4 w2=>
 pw w2 (Instr.alloc 82 true (.tuple #[])) λt5 w3=>
 pw w3 (Instr.makeMap 82 none) λt6 w4=>
 pw w4 (Instr.makeMap 82 none) λt7 w5=>
 so w5 82 t4 t6 λw6=>so w6 82 t5 t7 λw7=>lo w7 78 t2 λt8=>pp (Instr.makeFunc (.func 55) #[] #[t2,t4,t5]) λt10=>pp (Instr.makeFunc (.func 56) #[] #[t2,t4,t5]) λt11=>ca jR #[t8,t1,t10,t11] w7 λ_t12 w8=>
 lo w8.drew 82 t4 λt13=>((pw w8.drew (Instr.loadAt 82 t5) λt14 w9=>
 Ext w8.drew w9∧
 so w9 82 t4 t13 λw10=>so w10 82 t5 t14 λw11=>pq w11 (zk 82 t4) λr12=>pq w11 (zk 82 t5) λr13=>K (.tuple #[r12,r13]) w11)∧
 (so w8.drew 82 t4 t13 λw14=>pw w14 (Instr.loadAt 82 t5) λt14_16 w15=>
 Ext w14 w15∧
 so w15 82 t5 t14_16 λw17=>pq w17 (zk 82 t4) λr18=>pq w17 (zk 82 t5) λr19=>K (.tuple #[r18,r19]) w17))
theorem abg(h:XT t0 t1 w K):zd prog qw #[t0,t1] w K:=
 okC false (.s (.r (rz 3 0 42)) (.s (.r (rz 4 0 170)) (.s (.r (rz 5 0 513)) (.s (.r (ra 1 0 1 (.alt 1 .u (rz 2 2 10) (ra 1 2 2 (ra 1 1 3 (rz 1 3 2)))))) (.n))))) func27 rfl (by kernel_rfl) (by kernel_rfl) h
def Yw(t0 t1 t2 t3:Value)(w:World)(K:VW):Prop:=
 pw w (Instr.box 59 t0) λt4 w1=>
 lo w1 78 t1 λt5=>lo w1 59 t4 λt6=>lo w1 82 t2 λt7=>pp (Instr.makeFunc (.func 31) #[t7] #[]) λt8=>ca zX #[t5,t6,t8] w1 λ_t9 w2=>
 lo w2 78 t1 λt10=>lo w2 59 t4 λt11=>lo w2 82 t3 λt12=>pp (Instr.makeFunc (.func 33) #[t12] #[]) λt13=>ca zX #[t10,t11,t13] w2 λ_t14 w3=>
 K (.tuple #[]) w3
theorem VG(h:Yw t0 t1 t2 t3 w K):zd prog jo #[t0,t1,t2,t3] w K:=
 okC false (.s (.r (rz 1 0 2)) (.s (.r (rz 5 0 533)) (.r (rz 5 0 533)))) func55 rfl (by kernel_rfl) (by kernel_rfl) h
def Yx(t0 t1 t2 t3:Value)(w:World)(K:VW):Prop:=
 pw w (Instr.box 59 t0) λt4 w1=>
 lo w1 78 t1 λt5=>lo w1 59 t4 λt6=>lo w1 82 t2 λt7=>pp (Instr.makeFunc (.func 33) #[t7] #[]) λt8=>ca zX #[t5,t6,t8] w1 λ_t9 w2=>
 lo w2 78 t1 λt10=>lo w2 59 t4 λt11=>lo w2 82 t3 λt12=>pp (Instr.makeFunc (.func 31) #[t12] #[]) λt13=>ca zX #[t10,t11,t13] w2 λ_t14 w3=>
 K (.tuple #[]) w3
theorem VH(h:Yx t0 t1 t2 t3 w K):zd prog jp #[t0,t1,t2,t3] w K:=
 okC false (.s (.r (rz 1 0 2)) (.s (.r (rz 5 0 533)) (.r (rz 5 0 533)))) func56 rfl (by kernel_rfl) (by kernel_rfl) h
def ae6(t0 t1 t2:Value)(w:World)(K:VW):Prop:=
 pw w (Instr.box 25 t0) λt3 w1=>
 bt .lss 3 t2 (i6 0) λt9=>zc t9 (K (.tuple #[(Value.pointer Option.none),(i6 2)]) w1) (lo w1 25 t3 λt10=>ca qh #[t10,t1,t2] w1 λt13 w2=>
 pe t13 0 λt14=>pe t13 1 λt15=>K (.tuple #[t14,t15]) w2)
theorem aiR(h:ae6 t0 t1 t2 w K):zd prog vJ #[t0,t1,t2] w K:=
 okC false (.s (.r (rz 3 0 2)) (.s (.s (.r (rz 2 0 0)) (.c (.s (.r (rz 2 0 0)) (.n)) (.n))) (.s (.r (rz 8 0 129)) (.n)))) func26 rfl (by kernel_rfl) (by kernel_rfl) h
def abG(t0 t1 t2:Value)(w:World)(K:VW):Prop:=
 pw w (Instr.box 25 t0) λt3 w1=>
 lo w1 25 t3 λt13=>ca vJ #[t13,t1,t2] w1 λt16 w2=>
 pe t16 0 λt17=>pe t16 1 λt18=>bt .neq 29 t18 (i6 0) λt20=>zc t20 (K (.tuple #[(Value.slice Option.none 0 0),(Value.slice Option.none 0 0),t18]) w2) (ca qw #[t17,t2] w2 λt25 w3=>
 pe t25 0 λt26=>pe t25 1 λt27=>ca yn #[t26] w3 λt29 w4=>
 ca yn #[t27] w4 λt31 w5=>
 K (.tuple #[t29,t31,t18]) w5)
theorem agZ(h:abG t0 t1 t2 w K):zd prog Yf #[t0,t1,t2] w K:=
 okC false (.s (.r (rz 4 0 2)) (.s (.r (rz 9 0 129)) (.s (.s (.r (rz 2 0 0)) (.c (.s (.r (rz 4 0 0)) (.n)) (.n))) (.s (.r (rz 8 0 32)) (.s (.r (rz 8 0 136)) (.n)))))) func8 rfl (by kernel_rfl) (by kernel_rfl) h
def XU(t0 t1 t2:Value)(w:World)(K:VW):Prop:=
 pw w (Instr.box 78 t0) λt3 w1=>
 pw w1 (Instr.box 88 t2) λt5 w2=>
 lo w2 78 t3 λt11=>fa t11 90 1 λt13=>fl w2 t13 74 6 72 λt15=>xl w2 72 t15 t1 94 λt18=>pw w2 (Instr.alloc 94 true (.tuple #[])) λt6 w3=>
 so w3 94 t6 t18 λw4=>pw w4 (Instr.makeMap 82 none) λt19 w5=>
 pw w5 (Instr.alloc 82 true (.tuple #[])) λt7 w6=>
 so w6 82 t7 t19 λw7=>pp (Instr.makeFunc (.func 58) #[] #[t3,t5,t7]) λt20=>lo w7 94 t6 λt21=>ca xI #[t21] w7 λt22 w8=>
 pp (Builtin.len_ #[53] 3 #[t22]) λt23=>zo [(i6 0)] w8 (λs10 _d11 w12 K9=>
 bf .lss 3 (s10.getD 0 u_) t23 λt25=>zc t25 (za (λK13=>
 xl w12 53 t22 (s10.getD 0 u_) 61 λt27=>pw w12 (Instr.alloc 61 true (.tuple #[])) λt10 w17=>
 so w17 61 t10 t27 λw18=>fl w18 t10 61 2 59 λt30=>cv t20 #[t30,fa_] w18 λ_t31 w19=>
 fl w19 t10 61 0 56 λt33=>bt .eql 56 t33 (Value.int .u8 4) λt34=>zc t34 (lo w19 78 t3 λt35=>fl w19 t10 61 2 59 λt37=>lo w19 82 t7 λt38=>pp (Instr.makeFunc (.func 31) #[t38] #[]) λt39=>ca zX #[t35,t37,t39] w19 λ_t40 w20=>
 K13 [] w20) (K13 [] w19)) (λ_s14 _d15 w16=>
 bt .add 3 (s10.getD 0 u_) (i6 1) λt41=>K9 [t41] w16)) (za (λK21=>
 fl w12 t6 94 0 92 λt44=>bt .eql 92 t44 (Value.int .u8 4) λt45=>zc t45 (fl w12 t6 94 6 59 λt48=>cv t20 #[t48,fa_] w12 λ_t49 w25=>
 K21 [] w25) (fl w12 t6 94 0 92 λt52=>bt .eql 92 t52 (Value.int .u8 14) λt53=>zc t53 (pp (Instr.build 59 #[]) λt55=>cv t20 #[t55,fa_] w12 λ_t56 w26=>
 K21 [] w26) (K21 [] w12))) (λ_s22 _d23 w24=>
 lo w24 94 t6 λt57=>ca kW #[t57] w24 λt58 w27=>
 zc t58 (fl w27 t6 94 1 59 λt61=>cv t20 #[t61,tr_] w27 λ_t62 w28=>
 K (.tuple #[]) w28) (K (.tuple #[]) w27))))
theorem abh(h:XU t0 t1 t2 w K):zd prog qz #[t0,t1,t2] w K:=
 okC false (.s (.r (rz 2 0 10)) (.s (.r (rz 10 0 672001)) (.s (.r (rz 3 0 42)) (.s (.r (rz 2 0 0)) (.s (.s (.r (rz 4 0 9)) (.b (.lp [24] (.s (.r (rz 1 0 0)) (.s (.c (.n) (.n)) (.j [] (.b (.s (.r (rz 4 0 164)) (.s (.r (rz 4 0 144)) (.s (.r (rz 3 0 4)) (.c (.r (rz 6 0 2129)) (.n)))))) (.r (rz 2 0 0)))))))) (.j [] (.b (.s (.r (rz 4 0 4)) (.c (.r (rz 4 0 144)) (.s (.r (rz 4 0 4)) (.c (.r (rz 3 0 32)) (.n)))))) (.s (.r (rz 2 0 9)) (.c (.r (rz 4 0 144)) (.n))))))))) func29 rfl (by kernel_rfl) (by kernel_rfl) h
def Yy(t0 t1 t2 t3 t4:Value)(w:World)(K:VW):Prop:=
 pw w (Instr.box 59 t0) λt5 w1=>
 lo w1 78 t2 λt13=>lo w1 59 t5 λt14=>ca xw #[t13,t14] w1 λt15 w2=>
 pe t15 0 λt16=>pe t15 1 λt17=>pw w2 (Instr.alloc 59 true (.tuple #[])) λt7 w3=>
 so w3 59 t7 t16 λw4=>lo w4 78 t2 λt18=>ff w4 t18 90 2 37 λt21=>pp (Builtin.len_ #[37] 3 #[t21]) λt22=>zo [(i6 0)] w4 (λs6 _d7 w8 K5=>
 bf .lss 3 (s6.getD 0 u_) t22 λt24=>zc t24 (za (λK9=>
 xl w8 37 t21 (s6.getD 0 u_) 59 λt27=>pw w8 (Instr.alloc 59 true (.tuple #[])) λt10 w13=>
 so w13 59 t10 t27 λw14=>za (λK15=>gIf t17 true (lo w14 59 t10 λt30=>lo w14 59 t5 λt31=>ca Zl #[t30,t31] w14 λt32 w19=>
 K15 [t32] w19) (K15 [u_] w14)) (λs16 _d17 w18=>
 zb t17 (s16.getD 0 u_) fa_ λt33=>lo w18 59 t10 λt34=>lo w18 59 t7 λt35=>ca xX #[t34,t35] w18 λt36 w20=>
 za (λK21=>gIf t36 true (K21 [t1] w20) (K21 [u_] w20)) (λs22 _d23 w24=>
 za (λK25=>gIf (s22.getD 0 u_) true (K25 [t33] w24) (K25 [u_] w24)) (λs26 _d27 w28=>
 za (λK29=>gIf t36 true (zb (s22.getD 0 u_) (s26.getD 0 u_) fa_ λt41=>pp (Op.unary .not t41) λt42=>K29 [t42] w28) (K29 [u_] w28)) (λs30 _d31 w32=>
 zb t36 (s30.getD 0 u_) fa_ λt43=>za (λK33=>gIf t43 false (pp (Op.unary .not t1) λt46=>K33 [t46] w32) (K33 [u_] w32)) (λs34 _d35 w36=>
 za (λK37=>gIf (s34.getD 0 u_) true (K37 [t17] w36) (K37 [u_] w36)) (λs38 _d39 w40=>
 za (λK41=>gIf t43 false (zb (s34.getD 0 u_) (s38.getD 0 u_) fa_ λt49=>K41 [t49] w40) (K41 [u_] w40)) (λs42 _d43 w44=>
 za (λK45=>gIf (s42.getD 0 u_) true (lo w44 59 t5 λt51=>lo w44 59 t10 λt52=>ca xX #[t51,t52] w44 λt53 w49=>
 K45 [t53] w49) (K45 [u_] w44)) (λs46 _d47 w48=>
 za (λK50=>gIf t43 false (zb (s42.getD 0 u_) (s46.getD 0 u_) fa_ λt54=>K50 [t54] w48) (K50 [u_] w48)) (λs51 _d52 w53=>
 zb t43 tr_ (s51.getD 0 u_) λt55=>zc t55 (lo w53 88 t3 λt56=>lo w53 82 t4 λt58=>cv t56 #[(s6.getD 0 u_),t58] w53 λ_t59 w54=>
 K9 [] w54) (K9 [] w53))))))))))) (λ_s10 _d11 w12=>
 bt .add 3 (s6.getD 0 u_) (i6 1) λt60=>K5 [t60] w12)) (K (.tuple #[]) w8))
theorem VI{t4:Value}(h:Yy t0 t1 t2 t3 t4 w K):zd prog Yo #[t0,t1,t2,t3,t4] w K:=
 okC false (.s (.r (rz 1 0 2)) (.s (.r (rz 9 0 40997)) (.s (.r (rz 6 0 65)) (.b (.lp [23] (.s (.r (rz 1 0 0)) (.s (.c (.n) (.n)) (.j [] (.b (.s (.r (rz 6 0 2192)) (.s (.r (ra 2 0 0 (.grp 29 true (ri 3 2 37) [32] (rz 2 5 0)))) (.s (.r (ra 4 0 37 (.grp 37 true (ri 2 4 0) [39] (.grp 39 true (ri 1 6 0) [40] (.grp 37 true (ri 2 7 0) [42] (ra 2 9 0 (.grp 44 false (ri 3 11 0) [47] (.grp 47 true (ri 1 14 0) [48] (.grp 44 false (ri 2 15 0) [50] (.grp 50 true (ri 3 17 37) [53] (.grp 44 false (ri 1 20 0) [54] (rz 1 21 0)))))))))))) (.c (.r (rz 4 0 145)) (.n)))))) (.r (rz 2 0 0)))))))))) func58 rfl (by kernel_rfl) (by kernel_rfl) h
def abH(t0 t1 t2:Value)(w:World)(K:VW):Prop:=
 pw w (Instr.box 25 t0) λt3 w1=>
 lo w1 25 t3 λt12=>ca vJ #[t12,t1,t2] w1 λt15 w2=>
 pe t15 0 λt16=>pe t15 1 λt17=>bt .neq 29 t17 (i6 0) λt19=>zc t19 (K (.tuple #[(Value.slice Option.none 0 0),t17]) w2) (pw w2 (Instr.makeMap 82 none) λt21 w3=>
 pw w3 (Instr.alloc 82 true (.tuple #[])) λt10 w4=>
 so w4 82 t10 t21 λw5=>pp (Instr.makeFunc (.func 30) #[] #[t10]) λt24=>ca qz #[t16,t2,t24] w5 λ_t25 w6=>
 lo w6 82 t10 λt26=>ca yn #[t26] w6 λt27 w7=>
 K (.tuple #[t27,t17]) w7)
theorem ag0(h:abH t0 t1 t2 w K):zd prog Yg #[t0,t1,t2] w K:=
 okC false (.s (.r (rz 3 0 2)) (.s (.r (rz 9 0 129)) (.s (.s (.r (rz 2 0 0)) (.c (.s (.r (rz 3 0 0)) (.n)) (.n))) (.s (.r (rz 3 0 42)) (.s (.r (rz 4 0 128)) (.s (.r (rz 5 0 9)) (.n))))))) func9 rfl (by kernel_rfl) (by kernel_rfl) h
def Vv(t0 _t1 t2:Value)(w:World)(K:VW):Prop:=
 lo w 82 t2 λt5=>ca y8 #[t5,t0] w λ_t7 w1=>
 K (.tuple #[]) w1
theorem aep(h:Vv t0 t1 t2 w K):zd prog YK #[t0,t1,t2] w K:=
 okC false (.r (rz 3 0 33)) func30 rfl (by kernel_rfl) (by kernel_rfl) h
def aaw(t0 t1 t2:Value)(w:World)(K:VW):Prop:=
 pw w (Instr.box 25 t0) λt3 w1=>
 lo w1 25 t3 λt13=>ca vJ #[t13,t1,t2] w1 λt16 w2=>
 pe t16 0 λt17=>pe t16 1 λt18=>bt .neq 29 t18 (i6 0) λt20=>zc t20 (K (.tuple #[(i6 0),fa_,t18]) w2) (pw w2 (Instr.makeMap 82 none) λt22 w3=>
 pw w3 (Instr.alloc 82 true (.tuple #[])) λt10 w4=>
 so w4 82 t10 t22 λw5=>pp (Instr.makeFunc (.func 32) #[] #[t10]) λt25=>ca qz #[t17,t2,t25] w5 λ_t26 w6=>
 lo w6 82 t10 λt27=>ca yn #[t27] w6 λt28 w7=>
 pp (Builtin.len_ #[26] 3 #[t28]) λt30=>bt .gtr 3 t30 (i6 0) λt31=>zc t31 (xl w7 26 t28 (i6 0) 3 λt34=>K (.tuple #[t34,tr_,t18]) w7) (K (.tuple #[(i6 0),fa_,t18]) w7))
theorem afQ(h:aaw t0 t1 t2 w K):zd prog Zo #[t0,t1,t2] w K:=
 okC false (.s (.r (rz 4 0 2)) (.s (.r (rz 9 0 129)) (.s (.s (.r (rz 2 0 0)) (.c (.s (.r (rz 4 0 0)) (.n)) (.n))) (.s (.r (rz 3 0 42)) (.s (.r (rz 4 0 128)) (.s (.s (.r (rz 3 0 9)) (.s (.r (rz 3 0 0)) (.c (.s (.r (rz 7 0 16)) (.n)) (.n)))) (.s (.r (rz 4 0 0)) (.n)))))))) func10 rfl (by kernel_rfl) (by kernel_rfl) h
def Jt(t0 t1 t2:Value)(w:World)(K:VW):Prop:=
 pq w (Instr.lookup 82 t1 t0 false) λt7=>bt .gtr 3 t7 (i6 0) λt8=>zc t8 (lo w 82 t2 λt9=>ca y8 #[t9,t0] w λ_t11 w1=>
 K (.tuple #[]) w1) (K (.tuple #[]) w)
theorem adx(h:Jt t0 t1 t2 w K):zd prog ZT #[t0,t1,t2] w K:=
 okC false (.s (.r (rz 4 0 16)) (.c (.r (rz 3 0 33)) (.n))) func32 rfl (by kernel_rfl) (by kernel_rfl) h
def Vw(t0 t1 t2 t3:Value)(w:World)(K:VW):Prop:=
 pw w (Instr.box 25 t0) λt4 w1=>
 lo w1 25 t4 λt20=>ca vJ #[t20,t1,t2] w1 λt23 w2=>
 pe t23 0 λt24=>pe t23 1 λt25=>bt .neq 29 t25 (i6 0) λt27=>zc t27 (K (.tuple #[(Value.slice Option.none 0 0),t25]) w2) (pw w2 (Instr.makeMap 82 none) λt29 w3=>
 pp (Builtin.len_ #[26] 3 #[t3]) λt31=>zo [(i6 0)] w3 (λs5 _d6 w7 K4=>
 bf .lss 3 (s5.getD 0 u_) t31 λt33=>zc t33 (xl w7 26 t3 (s5.getD 0 u_) 3 λt36=>bt .lss 3 t36 (i6 0) λt38=>za (λK8=>gIf t38 false (ff w7 t24 90 2 37 λt44=>pp (Builtin.len_ #[37] 3 #[t44]) λt45=>bf .geq 3 t36 t45 λt46=>K8 [t46] w7) (K8 [u_] w7)) (λs9 _d10 w11=>
 zb t38 tr_ (s9.getD 0 u_) λt47=>za (λK12=>gIf t47 false (bt .gtr 3 (s5.getD 0 u_) (i6 0) λt50=>K12 [t50] w11) (K12 [u_] w11)) (λs13 _d14 w15=>
 za (λK16=>gIf (s13.getD 0 u_) true (bt .sub 3 (s5.getD 0 u_) (i6 1) λt54=>xl w15 26 t3 t54 3 λt56=>bf .geq 3 t56 t36 λt58=>K16 [t58] w15) (K16 [u_] w15)) (λs17 _d18 w19=>
 za (λK20=>gIf t47 false (zb (s13.getD 0 u_) (s17.getD 0 u_) fa_ λt59=>K20 [t59] w19) (K20 [u_] w19)) (λs21 _d22 w23=>
 zb t47 tr_ (s21.getD 0 u_) λt60=>zc t60 (K (.tuple #[(Value.slice Option.none 0 0),(i6 2)]) w23) (ca y8 #[t29,t36] w23 λ_t63 w24=>
 bt .add 3 (s5.getD 0 u_) (i6 1) λt64=>K4 [t64] w24)))))) (ca qw #[t24,t2] w7 λt68 w25=>
 pe t68 0 λt69=>pe t68 1 λt70=>pw w25 (Instr.range 82 t69) λt72 w26=>
 zo [] w26 (λ_s28 _d29 w30 K27=>
 pw w30 (Instr.next t72 false 0) λt73 w31=>
 pe t73 0 λt74=>zc t74 (pw w31 (Instr.entry t72) λt75 w32=>
 pe t75 0 λt76=>ca y8 #[t29,t76] w32 λ_t79 w33=>
 K27 [] w33) (pw w31 (Instr.range 82 t70) λt81 w34=>
 zo [] w34 (λ_s36 _d37 w38 K35=>
 pw w38 (Instr.next t81 false 0) λt82 w39=>
 pe t82 0 λt83=>zc t83 (pw w39 (Instr.entry t81) λt84 w40=>
 pe t84 0 λt85=>ca jj #[t29,t85] w40 λ_t88 w41=>
 K35 [] w41) (ca yn #[t29] w39 λt90 w42=>
 K (.tuple #[t90,t25]) w42)))))))
theorem aeq(h:Vw t0 t1 t2 t3 w K):zd prog qJ #[t0,t1,t2,t3] w K:=
 okC false (.s (.r (rz 3 0 2)) (.s (.r (rz 9 0 129)) (.s (.s (.r (rz 2 0 0)) (.c (.s (.r (rz 3 0 0)) (.n)) (.n))) (.s (.r (rz 2 0 2)) (.s (.s (.r (rz 3 0 0)) (.b (.lp [32] (.s (.r (rz 1 0 0)) (.s (.c (.n) (.n)) (.s (.b (.s (.r (rz 5 0 16)) (.s (.s (.r (ra 3 0 0 (.grp 39 false (ri 7 3 256) [46] (ra 2 10 0 (.grp 48 false (ri 3 12 0) [51] (.grp 51 true (ri 7 15 256) [58] (.grp 48 false (ri 1 22 0) [59] (rz 1 23 0)))))))) (.c (.s (.r (rz 2 0 0)) (.n)) (.n))) (.r (rz 3 0 32))))) (.r (rz 2 0 0)))))))) (.s (.r (rz 8 0 32)) (.s (.s (.r (rz 2 0 8)) (.b (.lp [] (.s (.r (rz 2 0 2)) (.s (.c (.n) (.n)) (.b (.s (.r (rz 3 0 2)) (.r (rz 3 0 32))))))))) (.s (.s (.r (rz 2 0 8)) (.b (.lp [] (.s (.r (rz 2 0 2)) (.s (.c (.n) (.n)) (.b (.s (.r (rz 3 0 2)) (.r (rz 3 0 32))))))))) (.s (.r (rz 5 0 8)) (.n)))))))))) func11 rfl (by kernel_rfl) (by kernel_rfl) h
def Ju(t0:Value)(w:World)(K:VW):Prop:=
 bt .geq 3 t0 (i6 2) λt4=>K t4 w
theorem ady(h:Ju t0 w K):zd prog Q3 #[t0] w K:=
 okC false (.s (.r (rz 1 0 0)) (.s (.r (rz 3 0 0)) (.n))) func106 rfl (by kernel_rfl) (by kernel_rfl) h
def xi(t0 t1:Value)(w:World)(K:VW):Prop:=
 pp (Builtin.len_ #[37] 3 #[t0]) λt9=>bt .lss 3 t9 (i6 2) λt10=>zc t10 (K t0 w) (zo [(i6 1)] w (λs2 _d3 w4 K1=>
 pp (Builtin.len_ #[37] 3 #[t0]) λt14=>bf .lss 3 (s2.getD 0 u_) t14 λt15=>zc t15 (xl w4.drew 37 t0 (s2.getD 0 u_) 59 λt22=>bt .sub 3 (s2.getD 0 u_) (i6 1) λt25=>xl w4.drew 37 t0 t25 59 λt27=>cv t1 #[t22,t27] w4.drew λt28 w5=>
 zc t28 (pp (Instr.sliceAt 37 t0 (some (s2.getD 0 u_)) none none) λt31=>zo [(s2.getD 0 u_),(i6 1)] w5 (λs7 _d8 w9 K6=>
 pp (Builtin.len_ #[37] 3 #[t31]) λt34=>bf .lss 3 (s7.getD 1 u_) t34 λt35=>zc t35 (za (λK10=>
 xl w9.drew 37 t31 (s7.getD 1 u_) 59 λt42=>bt .sub 3 (s7.getD 1 u_) (i6 1) λt45=>xl w9.drew 37 t31 t45 59 λt47=>cv t1 #[t42,t47] w9.drew λt48 w14=>
 pp (Op.unary .not t48) λt49=>zc t49 (xl w14 37 t31 (s7.getD 1 u_) 59 λt55=>px 37 t0 (s7.getD 0 u_) λt56=>so w14 59 t56 t55 λw15=>bt .add 3 (s7.getD 0 u_) (i6 1) λt58=>K10 [t58] w15) (K10 [(s7.getD 0 u_)] w14)) (λs11 _d12 w13=>
 bt .add 3 (s7.getD 1 u_) (i6 1) λt37=>K6 [(s11.getD 0 u_),t37] w13)) (pp (Instr.sliceAt 37 t0 (some (s7.getD 0 u_)) none none) λt61=>pw w9 (Builtin.clear_ #[37] 0 #[t61]) λ_ w16=>
 pp (Instr.sliceAt 37 t0 none (some (s7.getD 0 u_)) none) λt64=>K t64 w16))) (bt .add 3 (s2.getD 0 u_) (i6 1) λt17=>K1 [t17] w5)) (K t0 w4)))
theorem k8(h:xi t0 t1 w K):zd prog zZ #[t0,t1] w K:=
 okC false (.s (.r (rz 1 0 0)) (.s (.s (.r (rz 3 0 0)) (.c (.s (.r (rz 2 0 0)) (.n)) (.n))) (.s (.s (.r (rz 1 0 0)) (.b (.lp [5] (.s (.s (.r (rz 4 0 0)) (.c (.n) (.n))) (.s (.b (.s (.r (rz 11 0 2359552)) (.c (.s (.r (rz 4 0 0)) (.s (.s (.r (rz 1 0 0)) (.b (.lp [5,7] (.s (.s (.r (rz 4 0 0)) (.c (.n) (.n))) (.j [5] (.b (.s (.r (rz 12 0 2359552)) (.c (.s (.r (rz 8 0 33792)) (.r (rz 3 0 0))) (.n)))) (.r (rz 3 0 0))))))) (.s (.r (rz 4 0 128)) (.s (.r (rz 4 0 0)) (.n))))) (.n)))) (.r (rz 3 0 0))))))) (.s (.r (rz 2 0 0)) (.n))))) func74 rfl (by kernel_rfl) (by kernel_rfl) h
def yp(t0 t1 t2:Value)(w:World)(K:VW):Prop:=
 pw w (Instr.box 59 t1) λt4 w1=>
 pp (Builtin.len_ #[37] 3 #[t0]) λt13=>zo [(i6 0),t13] w1 (λs3 _d4 w5 K2=>
 bf .lss 3 (s3.getD 0 u_) (s3.getD 1 u_) λt17=>zc t17 (bf .add 3 (s3.getD 0 u_) (s3.getD 1 u_) λt20=>pp (convert 3 137 t20) λt21=>bt .shr 137 t21 (Value.int .u64 1) λt22=>pp (convert 137 3 t22) λt23=>xl w5.drew 37 t0 t23 59 λt28=>lo w5.drew 59 t4 λt29=>cv t2 #[t28,t29] w5.drew λt30 w6=>
 bt .lss 3 t30 (i6 0) λt31=>zc t31 (bt .add 3 t23 (i6 1) λt33=>K2 [t33,(s3.getD 1 u_)] w6) (K2 [(s3.getD 0 u_),t23] w6)) (bf .lss 3 (s3.getD 0 u_) t13 λt38=>za (λK7=>gIf t38 true (xl w5.drew 37 t0 (s3.getD 0 u_) 59 λt44=>lo w5.drew 59 t4 λt45=>cv t2 #[t44,t45] w5.drew λt46 w11=>
 bt .eql 3 t46 (i6 0) λt47=>K7 [t47] w11) (K7 [u_] w5.drew)) (λs8 _d9 w10=>
 zb t38 (s8.getD 0 u_) fa_ λt48=>K (.tuple #[(s3.getD 0 u_),t48]) w10)))
theorem xA(h:yp t0 t1 t2 w K):zd prog zM #[t0,t1,t2] w K:=
 okC false (.s (.r (rz 3 0 2)) (.s (.r (rz 3 0 0)) (.s (.r (rz 3 0 0)) (.s (.b (.lp [9,10] (.s (.s (.r (rz 3 0 0)) (.c (.n) (.n))) (.b (.s (.r (rz 7 0 0)) (.s (.r (rz 8 0 9472)) (.c (.r (rz 3 0 0)) (.r (rz 2 0 0))))))))) (.s (.r (ra 5 0 0 (.grp 39 true (ri 8 5 9472) [47] (rz 3 13 0)))) (.n)))))) func48 rfl (by kernel_rfl) (by kernel_rfl) h
end
end Go.Proofs.Tryz
namespace Go.Proofs
open Go.Sh Go.RowKit
section
section
variable {σ:Type} {X:Nat→Prop} {w0:World} {r ρ:Gh} {fv:Value} {Lc:σ→List Asr} {J:σ→List CnD→Prop} {u:UnD} {g:GrD} {q a:Int} {b5 b6 b8 b9 b10:Nat}
theorem ae7{P:Program}{t e:TypeId}{n:Nat}{p:Option Addr}{len cap:Nat}{kd:IntKind}{i:Int}{K:Value→Prop}(h:slT P t=some (e,n))(h0:0≤i)(h1:i≤cap)
  (k:K (.slice p i.toNat i.toNat)):opP P (Instr.sliceAt t (.slice p len cap) none (some (.int kd i)) (some (.int kd i))) K:=by
 refine yS (λw=>?_) k
 unfold slT at h
 cases hu:P.underlying t with
 |none=>rw [hu]at h;cases h
 |some d=>
  rw[hu]at h
  cases d<;>first|cases h|skip
  rename_i e'
  simp only[Option.map_eq_some_iff,Prod.mk.injEq]at h
  obtain⟨m,hs,rfl,rfl⟩:=h
  cases p with
  |none=>simp [Instr.sliceAt,Instr.slice,Instr.sliceBounds,Instr.sliceBound,asIntOf,Sem.run_bind,zA hu,Result.andThen,Sem.run,pure,h0,h1,Int.max_eq_left h0,z6 hs]
  |some a=>simp [Instr.sliceAt,Instr.slice,Instr.sliceBounds,Instr.sliceBound,asIntOf,Sem.run_bind,zA hu,Result.andThen,Sem.run,pure,h0,h1,Int.max_eq_left h0,z6 hs,Addr.add]
theorem ag1{ρ:Gh}{q1:Option Addr}{c1 n:Nat}{ps:List Int}(h:SlB 1 ρ yE (.slice q1 ps.length c1) ps)(hn:n≤ps.length):SlB 1 ρ yE (.slice q1 n n) (ps.take n):=by
 obtain⟨⟨p',cap',hE,h2,h3,h4⟩,h5⟩:=h
 cases hE
 have hl:(ps.take n).length=n:=by rw[List.length_take];omega
 refine⟨⟨q1,n,by rw[hl],λe=>?_,by omega,λi hi=>?_⟩,by omega⟩
 ·have:=h2 e;omega
 ·obtain⟨c,k1,k2,k3⟩:=h4 i (by omega)
  exact⟨c,k1,k2,by rw[List.getElem_take];exact k3⟩
end
end
end Go.Proofs
namespace Go.Sh
open Go.RowKit Go.MapKept
def Born(l:List MapEntry)(c:Nat):Prop:=l.Pairwise (λa b=>a.born<b.born)∧∀m∈l,m.born<c
theorem Born.nil{c:Nat}:Born [] c:=⟨.nil,λm hm=>by cases hm⟩
theorem Born.push{l:List MapEntry}{c:Nat}{k v:Value}(h:Born l c):Born (l++[{ key:=k,val:=v,born:=c }]) (c+1):=by
 refine⟨List.pairwise_append.2 ⟨h.1,List.pairwise_singleton _ _,λa ha b hb=>?_⟩,λm hm=>?_⟩
 ·rw[List.mem_singleton.1 hb];exact h.2 a ha
 ·rw[List.mem_append,List.mem_singleton]at hm
  rcases hm with hm|rfl
  ·have:=h.2 m hm;omega
  ·exact Nat.lt_succ_self c
theorem Born.mod{l:List MapEntry}{c j:Nat}{f:MapEntry→MapEntry}(h:Born l c)(hf:∀m,(f m).born=m.born):Born (l.modify j f) c:=by
 have e:(l.modify j f).map (·.born)=l.map (·.born):=by
  refine List.ext_getElem (by simp) λi h1 h2=>?_
  simp only[List.getElem_map,List.getElem_modify]
  split
  ·exact hf _
  ·rfl
 have key:∀{l:List MapEntry},l.Pairwise (λa b=>a.born<b.born)↔(l.map (·.born)).Pairwise (· < ·):=fun {l}=>List.pairwise_map.symm
 refine⟨key.2 (by rw[e];exact key.1 h.1),λm hm=>?_⟩
 have :m.born∈(l.modify j f).map (·.born):=List.mem_map.2 ⟨m,hm,rfl⟩
 rw[e]at this
 obtain⟨m',hm',he⟩:=List.mem_map.1 this
 have:=h.2 m' hm'
 omega
end Go.Sh
namespace Go.Proofs.Tryz
open Go.Sh
section
variable {t0 t1 t2 t3 t4:Value} {w:World} {K:VW}
def adz(t0 t1 t2:Value)(w:World)(K:VW):Prop:=
 pw w (Instr.box 25 t0) λt3 w1=>
 lo w1 25 t3 λt9=>ca JI #[t9,t1,t2] w1 λt12 w2=>
 pp (Op.unary .not t12) λt13=>zc t13 (K (.tuple #[(Value.slice Option.none 0 0),(i6 2)]) w2) (lo w2 25 t3 λt14=>ca QE #[t14,t1] w2 λt16 w3=>
 pp (Builtin.len_ #[37] 3 #[t16]) λt18=>bt .gtr 3 t18 (i6 256) λt19=>zc t19 (K (.tuple #[(Value.slice Option.none 0 0),(i6 5)]) w3) (K (.tuple #[t16,(i6 0)]) w3))
theorem ahK(h:adz t0 t1 t2 w K):zd prog JJ #[t0,t1,t2] w K:=
 okC false (.s (.r (rz 3 0 2)) (.s (.s (.r (rz 5 0 129)) (.c (.s (.r (rz 2 0 0)) (.n)) (.n))) (.s (.r (rz 4 0 33)) (.s (.s (.r (rz 3 0 0)) (.c (.s (.r (rz 2 0 0)) (.n)) (.n))) (.s (.r (rz 3 0 0)) (.n)))))) func12 rfl (by kernel_rfl) (by kernel_rfl) h
def abI(t0 t1:Value)(w:World)(K:VW):Prop:=
 pw w (Instr.box 25 t0) λt2 w1=>
 fl w1 t2 25 1 23 λt16=>xl w1 23 t16 t1 74 λt19=>pw w1 (Instr.alloc 74 true (.tuple #[])) λt5 w2=>
 so w2 74 t5 t19 λw3=>zo [(Value.slice Option.none 0 0),(i6 0)] w3 (λs5 _d6 w7 K4=>
 fl w7 t5 74 4 70 λt22=>pp (Builtin.len_ #[70] 3 #[t22]) λt23=>bf .lss 3 (s5.getD 1 u_) t23 λt24=>zc t24 (pp (Instr.build 59 #[(0,(s5.getD 1 u_))]) λt29=>pw w7 (Instr.buildSlice 37 1 #[(0,t29)]) λt30 w8=>
 pw w8 (Builtin.append_ #[37,37] 37 #[(s5.getD 0 u_),t30]) λt31 w9=>
 bt .add 3 (s5.getD 1 u_) (i6 1) λt26=>K4 [t31,t26] w9) (zo [(s5.getD 0 u_),(i6 0)] w7 (λs11 _d12 w13 K10=>
 fl w13 t5 74 6 72 λt34=>pp (Builtin.len_ #[72] 3 #[t34]) λt35=>bf .lss 3 (s11.getD 1 u_) t35 λt36=>zc t36 (fl w13 t5 74 6 72 λt40=>xl w13 72 t40 (s11.getD 1 u_) 94 λt43=>ca ZU #[t43] w13 λt44 w14=>
 zo [(s11.getD 0 u_),(i6 0)] w14 (λs16 _d17 w18 K15=>
 pp (Builtin.len_ #[37] 3 #[t44]) λt47=>bf .lss 3 (s16.getD 1 u_) t47 λt48=>zc t48 (za (λK19=>
 lo w18.drew 25 t2 λt52=>xl w18.drew 37 t44 (s16.getD 1 u_) 59 λt57=>((ca kj #[t52,t1,t57] w18.drew λt58 w23=>
 pe t58 0 λt59=>pe t58 1 λ_t60=>pw w23 (Instr.alloc 59 true (.tuple #[])) λt11 w24=>
 Ext w23 w24∧
 so w24 59 t11 t59 λw25=>K19 [t11] w25)∧
 (pw w18.drew (Instr.alloc 59 true (.tuple #[])) λt11_27 w26=>
 Ext w18.drew w26∧
 ca kj #[t52,t1,t57] w26 λt58_29 w28=>
 pe t58_29 0 λt59_30=>pe t58_29 1 λ_t60_31=>so w28 59 t11_27 t59_30 λw32=>K19 [t11_27] w32))) (λs20 _d21 w22=>
 lo w22 59 (s20.getD 0 u_) λt61=>ca vw #[t61] w22 λt62 w33=>
 zo [(s16.getD 0 u_),(i6 1)] w33 (λs35 _d36 w37 K34=>
 pp (Builtin.len_ #[37] 3 #[t62]) λt65=>bf .lss 3 (s35.getD 1 u_) t65 λt66=>zc t66 (xl w37 37 t62 (s35.getD 1 u_) 59 λt73=>ca QF #[(s35.getD 0 u_),t73] w37 λt74 w38=>
 bt .add 3 (s35.getD 1 u_) (i6 1) λt68=>K34 [t74,t68] w38) (bt .add 3 (s16.getD 1 u_) (i6 1) λt50=>K15 [(s35.getD 0 u_),t50] w37)))) (bt .add 3 (s11.getD 1 u_) (i6 1) λt38=>K10 [(s16.getD 0 u_),t38] w18))) (K (s11.getD 0 u_) w13))))
theorem ag2(h:abI t0 t1 w K):zd prog QE #[t0,t1] w K:=
 okC false (.s (.r (rz 2 0 2)) (.s (.r (rz 7 0 10500)) (.s (.r (rz 1 0 0)) (.s (.s (.r (rz 1 0 0)) (.b (.lp [6,7] (.s (.s (.r (rz 5 0 16)) (.c (.n) (.n))) (.s (.b (.r (rz 6 0 640))) (.r (rz 3 0 0))))))) (.s (.s (.r (rz 1 0 0)) (.b (.lp [6,8] (.s (.s (.r (rz 5 0 16)) (.c (.n) (.n))) (.s (.b (.s (.r (rz 7 0 2308)) (.s (.r (rz 1 0 0)) (.b (.lp [6,10] (.s (.s (.r (rz 4 0 0)) (.c (.n) (.n))) (.s (.b (.j [11] (.r (ra 6 0 1025 (.alt 6 .l (rz 6 7 704) (ra 1 10 3 (ra 4 6 2 (rz 2 11 2)))))) (.s (.r (rz 3 0 9)) (.s (.r (rz 1 0 0)) (.b (.lp [6,14] (.s (.s (.r (rz 4 0 0)) (.c (.n) (.n))) (.s (.b (.r (rz 7 0 2304))) (.r (rz 3 0 0)))))))))) (.r (rz 3 0 0))))))))) (.r (rz 3 0 0))))))) (.s (.r (rz 2 0 0)) (.n))))))) func35 rfl (by kernel_rfl) (by kernel_rfl) h
def abJ(t0 t1 t2 t3 t4:Value)(w:World)(K:VW):Prop:=
 pw w (Instr.box 59 t1) λt6 w1=>
 lo w1 59 t6 λt11=>ca qK #[t0,t11,t2,t4] w1 λ_t14 w2=>
 lo w2 59 t6 λt16=>pp (Op.unary .not t4) λt19=>ca qK #[t0,t16,t3,t19] w2 λ_t20 w3=>
 K (.tuple #[]) w3
theorem ag3(h:abJ t0 t1 t2 t3 t4 w K):zd prog jV #[t0,t1,t2,t3,t4] w K:=
 okC false (.s (.r (rz 1 0 2)) (.s (.r (rz 5 0 516)) (.r (rz 6 0 2052)))) func37 rfl (by kernel_rfl) (by kernel_rfl) h
def aax(t0 t1 t2:Value)(w:World)(K:VW):Prop:=
 pw w (Instr.box 25 t0) λt3 w1=>
 pw w1 (Instr.box 59 t2) λt5 w2=>
 pw w2 (Instr.alloc 59 true (.tuple #[])) λt6 w3=>
 lo w3 25 t3 λt14=>lo w3 59 t5 λt16=>ca YJ #[t14,t1,t16] w3 λt17 w4=>
 pe t17 0 λt18=>pe t17 1 λt19=>pe t17 2 λ_t20=>pw w4 (Instr.alloc 112 true (.tuple #[])) λt8 w5=>
 so w5 112 t8 t18 λw6=>zo [(i6 0)] w6 (λs8 _d9 w10 K7=>
 pp (Builtin.len_ #[26] 3 #[t19]) λt23=>bf .lss 3 (s8.getD 0 u_) t23 λt24=>za (λK11=>gIf t24 true (xl w10 26 t19 (s8.getD 0 u_) 3 λt29=>bt .lss 3 t29 (i6 2) λt30=>K11 [t30] w10) (K11 [u_] w10)) (λs12 _d13 w14=>
 zb t24 (s12.getD 0 u_) fa_ λt31=>zc t31 (bt .add 3 (s8.getD 0 u_) (i6 1) λt33=>K7 [t33] w14) (fl w14 t5 59 0 3 λt35=>pp (Instr.build 59 #[(0,t35)]) λt36=>pw w14 (Instr.alloc 59 true (.tuple #[])) λt12 w15=>
 so w15 59 t12 t36 λw16=>fl w16.drew t12 59 1 57 λt38=>fl w16.drew t5 59 1 57 λt40=>pp (Instr.sliceAt 57 t40 none (some (s8.getD 0 u_)) none) λt42=>pw w16.drew (Builtin.append_ #[57,57] 57 #[t38,t42]) λt43 w17=>
 pf 59 t12 1 λt44=>so w17 57 t44 t43 λw18=>lo w18 59 t12 λt45=>pp (Builtin.len_ #[26] 3 #[t19]) λt48=>bf .eql 3 (s8.getD 0 u_) t48 λt49=>so w18 59 t6 t45 λw19=>pq w19 (zk 59 t6) λr20=>K (.tuple #[r20,t49]) w19)))
theorem afR(h:aax t0 t1 t2 w K):zd prog kj #[t0,t1,t2] w K:=
 okC false (.s (.r (rz 4 0 42)) (.s (.r (rz 12 0 655505)) (.s (.r (rz 1 0 0)) (.s (.b (.lp [11] (.s (.s (.r (ra 5 0 0 (.grp 25 true (ri 5 5 64) [30] (rz 1 10 0)))) (.c (.n) (.n))) (.b (.r (rz 3 0 0)))))) (.s (.r (rz 5 0 644)) (.s (.r (rz 9 0 139332)) (.s (.r (rz 7 0 2049)) (.n)))))))) func39 rfl (by kernel_rfl) (by kernel_rfl) h
def aay(t0 t1 t2 t3:Value)(w:World)(K:VW):Prop:=
 pw w (Instr.box 25 t0) λt4 w1=>
 fl w1 t4 25 1 23 λt19=>px 23 t19 t1 λt21=>fl w1 t21 74 6 72 λt23=>xl w1 72 t23 t2 94 λt26=>pw w1 (Instr.alloc 94 true (.tuple #[])) λt10 w2=>
 so w2 94 t10 t26 λw3=>za (λK4=>
 pp (Builtin.len_ #[37] 3 #[t3]) λt28=>pp (Builtin.len_ #[37] 3 #[t3]) λt31=>((pw w3.drew (Instr.makeSlice 40 t28 t28) λt29 w8=>
 pw w8 (Instr.makeSlice 40 t31 t31) λt32 w9=>
 K4 [t29,t32] w9)∧
 (pw w3.drew (Instr.makeSlice 40 t31 t31) λt32_11 w10=>
 pw w10 (Instr.makeSlice 40 t28 t28) λt29_13 w12=>
 K4 [t29_13,t32_11] w12))) (λs5 _d6 w7=>
 pp (Builtin.len_ #[37] 3 #[t3]) λt34=>pw w7 (Instr.makeSlice 40 t34 t34) λt35 w14=>
 lo w14 94 t10 λt36=>ca ki #[t36] w14 λt37 w15=>
 zo [(i6 0)] w15 (λs17 _d18 w19 K16=>
 pp (Builtin.len_ #[53] 3 #[t37]) λt40=>bf .leq 3 (s17.getD 0 u_) t40 λt41=>zc t41 (za (λK20=>
 pp (Builtin.len_ #[37] 3 #[t3]) λt45=>pw w19 (Instr.makeSlice 40 t45 t45) λt46 w24=>
 za (λK25=>
 pp (Builtin.len_ #[53] 3 #[t37]) λt49=>bf .lss 3 (s17.getD 0 u_) t49 λt50=>zc t50 (px 53 t37 (s17.getD 0 u_) λt53=>fl w24 t53 61 0 56 λt55=>bt .eql 56 t55 (Value.int .u8 3) λt56=>za (λK29=>gIf t56 false (px 53 t37 (s17.getD 0 u_) λt60=>fl w24 t60 61 0 56 λt62=>bt .eql 56 t62 (Value.int .u8 4) λt63=>K29 [t63] w24) (K29 [u_] w24)) (λs30 _d31 w32=>
 zb t56 tr_ (s30.getD 0 u_) λt64=>zc t64 (lo w32.drew 25 t4 λt65=>px 53 t37 (s17.getD 0 u_) λt70=>fl w32.drew t70 61 2 59 λt72=>ca jq #[t65,t1,t3,t72,t46] w32.drew λ_t74 w33=>
 K25 [] w33) (K25 [] w32))) (za (λK34=>
 fl w24 t10 94 0 92 λt76=>bt .eql 92 t76 (Value.int .u8 4) λt77=>zc t77 (lo w24 25 t4 λt78=>fl w24 t10 94 6 59 λt82=>ca jq #[t78,t1,t3,t82,t46] w24 λ_t84 w38=>
 K34 [] w38) (K34 [] w24)) (λ_s35 _d36 w37=>
 za (λK39=>
 fl w37 t10 94 0 92 λt86=>bt .eql 92 t86 (Value.int .u8 14) λt87=>zc t87 (lo w37 25 t4 λt88=>pp (Instr.build 59 #[]) λt91=>ca jq #[t88,t1,t3,t91,t46] w37 λ_t93 w43=>
 K39 [] w43) (K39 [] w37)) (λ_s40 _d41 w42=>
 lo w42 94 t10 λt94=>ca kG #[t94] w42 λt95 w44=>
 zc t95 (lo w44 25 t4 λt96=>fl w44 t10 94 1 59 λt100=>ca Xx #[t96,t1,t3,t100,t46] w44 λ_t102 w45=>
 K25 [] w45) (K25 [] w44))))) (λ_s26 _d27 w28=>
 zo [(i6 0)] w28 (λs47 _d48 w49 K46=>
 pp (Builtin.len_ #[37] 3 #[t3]) λt105=>bf .lss 3 (s47.getD 0 u_) t105 λt106=>zc t106 (za (λK50=>
 xl w49 40 t46 (s47.getD 0 u_) 4 λt112=>zc t112 (px 40 (s5.getD 0 u_) (s47.getD 0 u_) λt115=>so w49 4 t115 tr_ λw54=>xl w54 40 t35 (s47.getD 0 u_) 4 λt121=>za (λK55=>gIf t121 false (xl w54 40 (s5.getD 1 u_) (s47.getD 0 u_) 4 λt126=>K55 [t126] w54) (K55 [u_] w54)) (λs56 _d57 w58=>
 zb t121 tr_ (s56.getD 0 u_) λt127=>px 40 t35 (s47.getD 0 u_) λt128=>so w58 4 t128 t127 λw59=>K50 [] w59)) (K50 [] w49)) (λ_s51 _d52 w53=>
 bt .add 3 (s47.getD 0 u_) (i6 1) λt108=>K46 [t108] w53)) (pp (Builtin.len_ #[53] 3 #[t37]) λt131=>bf .lss 3 (s17.getD 0 u_) t131 λt132=>za (λK60=>gIf t132 true (px 53 t37 (s17.getD 0 u_) λt136=>fl w49 t136 61 0 56 λt138=>bt .eql 56 t138 (Value.int .u8 4) λt139=>K60 [t139] w49) (K60 [u_] w49)) (λs61 _d62 w63=>
 zb t132 (s61.getD 0 u_) fa_ λt140=>zc t140 (px 53 t37 (s17.getD 0 u_) λt144=>fl w63 t144 61 2 59 λt146=>ca qK #[t3,t146,(s5.getD 1 u_),tr_] w63 λ_t148 w64=>
 K20 [] w64) (K20 [] w63)))))) (λ_s21 _d22 w23=>
 bt .add 3 (s17.getD 0 u_) (i6 1) λt43=>K16 [t43] w23)) (K (.tuple #[(s5.getD 0 u_),t35]) w19)))
theorem afS(h:aay t0 t1 t2 t3 w K):zd prog Xw #[t0,t1,t2,t3] w K:=
 okC false (.s (.r (rz 3 0 2)) (.s (.r (rz 11 0 2688004)) (.j [11,12] (.r (ra 2 0 0 (ra 2 3 0 (.alt 2 .l (ra 1 6 0 (ra 1 5 2 (rz 1 7 0))) (ra 1 5 2 (ra 1 2 2 (rz 2 6 0))))))) (.s (.r (rz 4 0 32)) (.s (.r (rz 3 0 9)) (.s (.s (.r (rz 1 0 0)) (.b (.lp [15] (.s (.s (.r (rz 4 0 0)) (.c (.n) (.n))) (.j [] (.b (.s (.r (rz 4 0 32)) (.j [] (.s (.r (rz 4 0 0)) (.c (.s (.r (ra 7 0 256 (.grp 57 false (ri 6 7 256) [63] (rz 1 13 0)))) (.c (.r (rz 10 0 540673)) (.n))) (.j [] (.s (.r (rz 3 0 4)) (.c (.r (rz 7 0 8449)) (.n))) (.j [] (.s (.r (rz 3 0 4)) (.c (.r (rz 6 0 2049)) (.n))) (.s (.r (rz 2 0 9)) (.c (.r (rz 7 0 8449)) (.n))))))) (.s (.s (.r (rz 1 0 0)) (.b (.lp [17] (.s (.s (.r (rz 4 0 0)) (.c (.n) (.n))) (.j [] (.b (.s (.r (rz 4 0 64)) (.c (.s (.r (rz 4 0 128)) (.r (ra 7 0 1024 (.grp 122 false (ri 4 7 64) [126] (rz 3 11 32))))) (.n)))) (.r (rz 3 0 0))))))) (.s (.r (ra 5 0 0 (.grp 133 true (ri 6 5 256) [139] (rz 1 11 0)))) (.c (.r (rz 8 0 33792)) (.n))))))) (.r (rz 3 0 0))))))) (.s (.r (rz 4 0 0)) (.n)))))))) func40 rfl (by kernel_rfl) (by kernel_rfl) h
def Jv(t0:Value)(w:World)(K:VW):Prop:=
 pw w (Instr.box 94 t0) λt1 w1=>
 lo w1 94 t1 λt6=>ca ki #[t6] w1 λt7 w2=>
 zo [(Value.slice Option.none 0 0),(i6 0)] w2 (λs4 _d5 w6 K3=>
 pp (Builtin.len_ #[53] 3 #[t7]) λt10=>bf .lss 3 (s4.getD 1 u_) t10 λt11=>zc t11 (za (λK7=>
 px 53 t7 (s4.getD 1 u_) λt16=>fl w6 t16 61 0 56 λt18=>bt .eql 56 t18 (Value.int .u8 3) λt19=>za (λK11=>gIf t19 false (px 53 t7 (s4.getD 1 u_) λt23=>fl w6 t23 61 0 56 λt25=>bt .eql 56 t25 (Value.int .u8 4) λt26=>K11 [t26] w6) (K11 [u_] w6)) (λs12 _d13 w14=>
 zb t19 tr_ (s12.getD 0 u_) λt27=>zc t27 (px 53 t7 (s4.getD 1 u_) λt31=>fl w14 t31 61 2 59 λt33=>pw w14 (Instr.buildSlice 37 1 #[(0,t33)]) λt34 w15=>
 pw w15 (Builtin.append_ #[37,37] 37 #[(s4.getD 0 u_),t34]) λt35 w16=>
 K7 [t35] w16) (K7 [(s4.getD 0 u_)] w14))) (λs8 _d9 w10=>
 bt .add 3 (s4.getD 1 u_) (i6 1) λt13=>K3 [(s8.getD 0 u_),t13] w10)) (za (λK17=>
 fl w6 t1 94 0 92 λt37=>bt .eql 92 t37 (Value.int .u8 4) λt38=>za (λK21=>gIf t38 false (fl w6 t1 94 0 92 λt41=>bt .eql 92 t41 (Value.int .u8 10) λt42=>K21 [t42] w6) (K21 [u_] w6)) (λs22 _d23 w24=>
 zb t38 tr_ (s22.getD 0 u_) λt43=>za (λK25=>gIf t43 false (fl w24 t1 94 0 92 λt46=>bt .eql 92 t46 (Value.int .u8 11) λt47=>K25 [t47] w24) (K25 [u_] w24)) (λs26 _d27 w28=>
 zb t43 tr_ (s26.getD 0 u_) λt48=>zc t48 (fl w28 t1 94 6 59 λt51=>pw w28 (Instr.buildSlice 37 1 #[(0,t51)]) λt52 w29=>
 pw w29 (Builtin.append_ #[37,37] 37 #[(s4.getD 0 u_),t52]) λt53 w30=>
 K17 [t53] w30) (K17 [(s4.getD 0 u_)] w28)))) (λs18 _d19 w20=>
 za (λK31=>
 lo w20 94 t1 λt54=>ca kG #[t54] w20 λt55 w35=>
 zc t55 (fl w35 t1 94 1 59 λt58=>pw w35 (Instr.buildSlice 37 1 #[(0,t58)]) λt59 w36=>
 pw w36 (Builtin.append_ #[37,37] 37 #[(s18.getD 0 u_),t59]) λt60 w37=>
 K31 [t60] w37) (K31 [(s18.getD 0 u_)] w35)) (λs32 _d33 w34=>
 K (s32.getD 0 u_) w34))))
theorem adA(h:Jv t0 w K):zd prog ZU #[t0] w K:=
 okC false (.s (.r (rz 2 0 2)) (.s (.r (rz 1 0 0)) (.s (.r (rz 3 0 9)) (.s (.s (.r (rz 1 0 0)) (.b (.lp [3,5] (.s (.s (.r (rz 4 0 0)) (.c (.n) (.n))) (.j [3] (.b (.s (.r (ra 7 0 256 (.grp 20 false (ri 6 7 256) [26] (rz 1 13 0)))) (.c (.r (rz 9 0 41984)) (.n)))) (.r (rz 3 0 0))))))) (.j [3] (.s (.r (ra 4 0 4 (.grp 39 false (ri 3 4 4) [42] (ra 2 7 0 (.grp 44 false (ri 3 9 4) [47] (rz 1 12 0)))))) (.c (.r (rz 6 0 656)) (.n))) (.j [3] (.s (.r (rz 2 0 9)) (.c (.r (rz 6 0 656)) (.n))) (.s (.r (rz 2 0 0)) (.n)))))))) func63 rfl (by kernel_rfl) (by kernel_rfl) h
def abK(t0 t1:Value)(w:World)(K:VW):Prop:=
 pw w (Instr.box 59 t1) λt3 w1=>
 zo [(i6 0)] w1 (λs3 _d4 w5 K2=>
 pp (Builtin.len_ #[37] 3 #[t0]) λt9=>bf .lss 3 (s3.getD 0 u_) t9 λt10=>za (λK6=>gIf t10 true (xl w5.drew 37 t0 (s3.getD 0 u_) 59 λt15=>lo w5.drew 59 t3 λt16=>ca qI #[t15,t16] w5.drew λt17 w10=>
 bt .lss 3 t17 (i6 0) λt18=>K6 [t18] w10) (K6 [u_] w5.drew)) (λs7 _d8 w9=>
 zb t10 (s7.getD 0 u_) fa_ λt19=>zc t19 (bt .add 3 (s3.getD 0 u_) (i6 1) λt21=>K2 [t21] w9) (pp (Builtin.len_ #[37] 3 #[t0]) λt24=>bf .lss 3 (s3.getD 0 u_) t24 λt25=>za (λK11=>gIf t25 true (xl w9.drew 37 t0 (s3.getD 0 u_) 59 λt30=>lo w9.drew 59 t3 λt31=>ca Zn #[t30,t31] w9.drew λt32 w15=>
 K11 [t32] w15) (K11 [u_] w9.drew)) (λs12 _d13 w14=>
 zb t25 (s12.getD 0 u_) fa_ λt33=>zc t33 (K t0 w14) (pp (Instr.sliceAt 37 t0 none (some (s3.getD 0 u_)) none) λt38=>pw w14 (Builtin.append_ #[37,37] 37 #[(Value.slice Option.none 0 0),t38]) λt39 w16=>
 lo w16 59 t3 λt41=>pw w16 (Instr.buildSlice 37 1 #[(0,t41)]) λt42 w17=>
 pw w17 (Builtin.append_ #[37,37] 37 #[t39,t42]) λt43 w18=>
 pp (Instr.sliceAt 37 t0 (some (s3.getD 0 u_)) none none) λt47=>pw w18 (Builtin.append_ #[37,37] 37 #[t43,t47]) λt48 w19=>
 K t48 w19)))))
theorem ag4(h:abK t0 t1 w K):zd prog QF #[t0,t1] w K:=
 okC false (.s (.r (rz 2 0 2)) (.s (.r (rz 1 0 0)) (.s (.b (.lp [5] (.s (.s (.r (ra 5 0 0 (.grp 11 true (ri 7 5 2368) [18] (rz 1 12 0)))) (.c (.n) (.n))) (.b (.r (rz 3 0 0)))))) (.s (.s (.r (ra 5 0 0 (.grp 26 true (ri 6 5 2368) [32] (rz 1 11 0)))) (.c (.s (.r (rz 2 0 0)) (.n)) (.n))) (.s (.r (rz 1 0 0)) (.s (.r (rz 6 0 512)) (.s (.r (rz 5 0 164)) (.s (.r (rz 6 0 512)) (.n))))))))) func65 rfl (by kernel_rfl) (by kernel_rfl) h
def Vx(t0 t1 t2 t3:Value)(w:World)(K:VW):Prop:=
 pw w (Instr.box 59 t1) λt5 w1=>
 zo [(i6 0)] w1 (λs3 _d4 w5 K2=>
 pp (Builtin.len_ #[37] 3 #[t0]) λt11=>bf .lss 3 (s3.getD 0 u_) t11 λt12=>zc t12 (za (λK6=>
 lo w5.drew 59 t5 λt15=>xl w5.drew 37 t0 (s3.getD 0 u_) 59 λt19=>ca xY #[t15,t19] w5.drew λt20 w10=>
 zc t20 (px 40 t2 (s3.getD 0 u_) λt24=>so w10 4 t24 t3 λw11=>K6 [] w11) (K6 [] w10)) (λ_s7 _d8 w9=>
 bt .add 3 (s3.getD 0 u_) (i6 1) λt14=>K2 [t14] w9)) (K (.tuple #[]) w5))
theorem aer(h:Vx t0 t1 t2 t3 w K):zd prog qK #[t0,t1,t2,t3] w K:=
 okC false (.s (.r (rz 1 0 2)) (.s (.r (rz 1 0 0)) (.b (.lp [8] (.s (.s (.r (rz 4 0 0)) (.c (.n) (.n))) (.j [] (.b (.s (.r (rz 6 0 2305)) (.c (.r (rz 5 0 512)) (.n)))) (.r (rz 3 0 0)))))))) func66 rfl (by kernel_rfl) (by kernel_rfl) h
def aaz(t0 t1 t2 t3 t4:Value)(w:World)(K:VW):Prop:=
 pw w (Instr.box 25 t0) λt5 w1=>
 pw w1 (Instr.box 59 t3) λt8 w2=>
 lo w2 25 t5 λt14=>lo w2 59 t8 λt16=>ca kj #[t14,t1,t16] w2 λt17 w3=>
 pe t17 0 λt18=>pe t17 1 λt19=>pw w3 (Instr.alloc 59 true (.tuple #[])) λt10 w4=>
 so w4 59 t10 t18 λw5=>zo [(i6 0)] w5 (λs7 _d8 w9 K6=>
 pp (Builtin.len_ #[37] 3 #[t2]) λt22=>bf .lss 3 (s7.getD 0 u_) t22 λt23=>zc t23 (za (λK10=>
 xl w9.drew 37 t2 (s7.getD 0 u_) 59 λt29=>lo w9.drew 59 t10 λt30=>ca xY #[t29,t30] w9.drew λt31 w14=>
 za (λK15=>gIf t31 false (K15 [t19] w14) (K15 [u_] w14)) (λs16 _d17 w18=>
 za (λK19=>gIf (s16.getD 0 u_) true (lo w18 59 t8 λt35=>xl w18 37 t2 (s7.getD 0 u_) 59 λt39=>ca xY #[t35,t39] w18 λt40 w23=>
 K19 [t40] w23) (K19 [u_] w18)) (λs20 _d21 w22=>
 za (λK24=>gIf t31 false (zb (s16.getD 0 u_) (s20.getD 0 u_) fa_ λt41=>K24 [t41] w22) (K24 [u_] w22)) (λs25 _d26 w27=>
 zb t31 tr_ (s25.getD 0 u_) λt42=>zc t42 (px 40 t4 (s7.getD 0 u_) λt45=>so w27 4 t45 tr_ λw28=>K10 [] w28) (K10 [] w27))))) (λ_s11 _d12 w13=>
 bt .add 3 (s7.getD 0 u_) (i6 1) λt25=>K6 [t25] w13)) (K (.tuple #[]) w9))
theorem afT(h:aaz t0 t1 t2 t3 t4 w K):zd prog jq #[t0,t1,t2,t3,t4] w K:=
 okC false (.s (.r (rz 2 0 10)) (.s (.r (rz 10 0 163985)) (.s (.r (rz 1 0 0)) (.b (.lp [12] (.s (.s (.r (rz 4 0 0)) (.c (.n) (.n))) (.j [] (.b (.s (.r (ra 7 0 2368 (.grp 32 false (ri 2 7 0) [34] (.grp 34 true (ri 6 9 2305) [40] (.grp 32 false (ri 1 15 0) [41] (rz 1 16 0)))))) (.c (.r (rz 4 0 128)) (.n)))) (.r (rz 3 0 0))))))))) func68 rfl (by kernel_rfl) (by kernel_rfl) h
def aaA(t0 t1 t2 t3 t4:Value)(w:World)(K:VW):Prop:=
 pw w (Instr.box 25 t0) λt5 w1=>
 pw w1 (Instr.box 59 t3) λt8 w2=>
 lo w2 25 t5 λt14=>lo w2 59 t8 λt16=>ca kj #[t14,t1,t16] w2 λt17 w3=>
 pe t17 0 λt18=>pe t17 1 λt19=>pw w3 (Instr.alloc 59 true (.tuple #[])) λt10 w4=>
 so w4 59 t10 t18 λw5=>zo [(i6 0)] w5 (λs7 _d8 w9 K6=>
 pp (Builtin.len_ #[37] 3 #[t2]) λt22=>bf .lss 3 (s7.getD 0 u_) t22 λt23=>zc t23 (za (λK10=>
 xl w9.drew 37 t2 (s7.getD 0 u_) 59 λt29=>lo w9.drew 59 t10 λt30=>ca xY #[t29,t30] w9.drew λt31 w14=>
 za (λK15=>gIf t31 true (K15 [t19] w14) (K15 [u_] w14)) (λs16 _d17 w18=>
 za (λK19=>gIf (s16.getD 0 u_) true (xl w18 37 t2 (s7.getD 0 u_) 59 λt38=>lo w18 59 t8 λt39=>ca Zn #[t38,t39] w18 λt40 w23=>
 K19 [t40] w23) (K19 [u_] w18)) (λs20 _d21 w22=>
 za (λK24=>gIf t31 true (zb (s16.getD 0 u_) (s20.getD 0 u_) fa_ λt41=>pp (Op.unary .not t41) λt42=>K24 [t42] w22) (K24 [u_] w22)) (λs25 _d26 w27=>
 zb t31 (s25.getD 0 u_) fa_ λt43=>zc t43 (px 40 t4 (s7.getD 0 u_) λt46=>so w27 4 t46 tr_ λw28=>K10 [] w28) (K10 [] w27))))) (λ_s11 _d12 w13=>
 bt .add 3 (s7.getD 0 u_) (i6 1) λt25=>K6 [t25] w13)) (K (.tuple #[]) w9))
theorem afU(h:aaA t0 t1 t2 t3 t4 w K):zd prog Xx #[t0,t1,t2,t3,t4] w K:=
 okC false (.s (.r (rz 2 0 10)) (.s (.r (rz 10 0 163985)) (.s (.r (rz 1 0 0)) (.b (.lp [12] (.s (.s (.r (rz 4 0 0)) (.c (.n) (.n))) (.j [] (.b (.s (.r (ra 7 0 2368 (.grp 32 true (ri 2 7 0) [34] (.grp 34 true (ri 6 9 2368) [40] (.grp 32 true (ri 2 15 0) [42] (rz 1 17 0)))))) (.c (.r (rz 4 0 128)) (.n)))) (.r (rz 3 0 0))))))))) func69 rfl (by kernel_rfl) (by kernel_rfl) h
def aaB(t0 t1 t2 t3:Value)(w:World)(K:VW):Prop:=
 pw w (Instr.box 25 t0) λt4 w1=>
 fl w1 t4 25 1 23 λt18=>px 23 t18 t1 λt20=>fl w1 t20 74 6 72 λt22=>xl w1 72 t22 t2 94 λt25=>pw w1 (Instr.alloc 94 true (.tuple #[])) λt10 w2=>
 so w2 94 t10 t25 λw3=>za (λK4=>
 pp (Builtin.len_ #[37] 3 #[t3]) λt27=>pp (Builtin.len_ #[37] 3 #[t3]) λt30=>((pw w3.drew (Instr.makeSlice 40 t27 t27) λt28 w8=>
 pw w8 (Instr.makeSlice 40 t30 t30) λt31 w9=>
 K4 [t28,t31] w9)∧
 (pw w3.drew (Instr.makeSlice 40 t30 t30) λt31_11 w10=>
 pw w10 (Instr.makeSlice 40 t27 t27) λt28_13 w12=>
 K4 [t28_13,t31_11] w12))) (λs5 _d6 w7=>
 lo w7 94 t10 λt32=>ca ki #[t32] w7 λt33 w14=>
 zo [(i6 0)] w14 (λs16 _d17 w18 K15=>
 pp (Builtin.len_ #[53] 3 #[t33]) λt36=>bf .lss 3 (s16.getD 0 u_) t36 λt37=>zc t37 (za (λK19=>
 px 53 t33 (s16.getD 0 u_) λt42=>fl w18 t42 61 0 56 λt44=>bt .eql 56 t44 (Value.int .u8 4) λt45=>zc t45 (px 53 t33 (s16.getD 0 u_) λt49=>fl w18 t49 61 2 59 λt51=>ca jV #[t3,t51,(s5.getD 0 u_),(s5.getD 1 u_),tr_] w18 λ_t54 w23=>
 K19 [] w23) (K19 [] w18)) (λ_s20 _d21 w22=>
 bt .add 3 (s16.getD 0 u_) (i6 1) λt39=>K15 [t39] w22)) (za (λK24=>
 fl w18 t10 94 0 92 λt56=>bt .eql 92 t56 (Value.int .u8 10) λt57=>za (λK28=>gIf t57 false (fl w18 t10 94 0 92 λt60=>bt .eql 92 t60 (Value.int .u8 11) λt61=>K28 [t61] w18) (K28 [u_] w18)) (λs29 _d30 w31=>
 zb t57 tr_ (s29.getD 0 u_) λt62=>zc t62 (fl w31 t10 94 6 59 λt65=>ca jV #[t3,t65,(s5.getD 0 u_),(s5.getD 1 u_),tr_] w31 λ_t68 w32=>
 K24 [] w32) (K24 [] w31))) (λ_s25 _d26 w27=>
 za (λK33=>
 lo w27 94 t10 λt69=>ca kG #[t69] w27 λt70 w37=>
 zc t70 (lo w37 25 t4 λt72=>fl w37 t10 94 1 59 λt75=>ca kj #[t72,t1,t75] w37 λt76 w38=>
 pe t76 0 λt77=>pe t76 1 λt78=>pw w38 (Instr.alloc 59 true (.tuple #[])) λt15 w39=>
 so w39 59 t15 t77 λw40=>zc t78 (fl w40 t10 94 1 59 λt82=>ca jV #[t3,t82,(s5.getD 0 u_),(s5.getD 1 u_),fa_] w40 λ_t85 w41=>
 K33 [] w41) (K33 [] w40)) (K33 [] w37)) (λ_s34 _d35 w36=>
 K (.tuple #[(s5.getD 0 u_),(s5.getD 1 u_)]) w36)))))
theorem afV(h:aaB t0 t1 t2 t3 w K):zd prog Zp #[t0,t1,t2,t3] w K:=
 okC false (.s (.r (rz 3 0 2)) (.s (.r (rz 11 0 2688004)) (.j [11,12] (.r (ra 2 0 0 (ra 2 3 0 (.alt 2 .l (ra 1 6 0 (ra 1 5 2 (rz 1 7 0))) (ra 1 5 2 (ra 1 2 2 (rz 2 6 0))))))) (.s (.r (rz 3 0 9)) (.s (.s (.r (rz 1 0 0)) (.b (.lp [14] (.s (.s (.r (rz 4 0 0)) (.c (.n) (.n))) (.j [] (.b (.s (.r (rz 6 0 256)) (.c (.r (rz 9 0 132096)) (.n)))) (.r (rz 3 0 0))))))) (.j [] (.s (.r (ra 4 0 4 (.grp 58 false (ri 3 4 4) [61] (rz 1 7 0)))) (.c (.r (rz 6 0 2064)) (.n))) (.j [] (.s (.r (rz 2 0 9)) (.c (.s (.r (rz 11 0 655937)) (.s (.r (rz 1 0 0)) (.c (.r (rz 6 0 2064)) (.n)))) (.n))) (.s (.r (rz 4 0 0)) (.n))))))))) func13 rfl (by kernel_rfl) (by kernel_rfl) h
def aaC(t0 t1 t2 t3:Value)(w:World)(K:VW):Prop:=
 pw w (Instr.box 25 t0) λt4 w1=>
 lo w1 25 t4 λt14=>ca Xw #[t14,t1,t2,t3] w1 λt18 w2=>
 pe t18 0 λt19=>pe t18 1 λt20=>zo [(i6 0)] w2 (λs4 _d5 w6 K3=>
 pp (Builtin.len_ #[37] 3 #[t3]) λt23=>bf .lss 3 (s4.getD 0 u_) t23 λt24=>zc t24 (xl w6 40 t20 (s4.getD 0 u_) 4 λt30=>zc t30 (K (.tuple #[t19,(s4.getD 0 u_)]) w6) (bt .add 3 (s4.getD 0 u_) (i6 1) λt26=>K3 [t26] w6)) (K (.tuple #[t19,(i6 (-1))]) w6))
theorem afW(h:aaC t0 t1 t2 t3 w K):zd prog Xy #[t0,t1,t2,t3] w K:=
 okC false (.s (.r (rz 3 0 2)) (.s (.r (rz 10 0 513)) (.s (.s (.r (rz 1 0 0)) (.b (.lp [12] (.s (.s (.r (rz 4 0 0)) (.c (.n) (.n))) (.s (.b (.s (.r (rz 4 0 64)) (.c (.s (.r (rz 4 0 0)) (.n)) (.n)))) (.r (rz 3 0 0))))))) (.s (.r (rz 3 0 0)) (.n))))) func14 rfl (by kernel_rfl) (by kernel_rfl) h
def Jw(t0 t1 t2 t3 t4:Value)(w:World)(K:VW):Prop:=
 pw w (Instr.box 25 t0) λt5 w1=>
 lo w1 25 t5 λt16=>ca Zp #[t16,t1,t2,t3] w1 λt20 w2=>
 pe t20 0 λt21=>pe t20 1 λt22=>pp (Builtin.len_ #[37] 3 #[t3]) λt24=>pw w2 (Instr.makeSlice 40 t24 t24) λt25 w3=>
 zo [(i6 0)] w3 (λs5 _d6 w7 K4=>
 pp (Builtin.len_ #[37] 3 #[t3]) λt28=>bf .lss 3 (s5.getD 0 u_) t28 λt29=>zc t29 (xl w7 40 t4 (s5.getD 0 u_) 4 λt37=>za (λK8=>gIf t37 false (xl w7 40 t21 (s5.getD 0 u_) 4 λt42=>K8 [t42] w7) (K8 [u_] w7)) (λs9 _d10 w11=>
 zb t37 tr_ (s9.getD 0 u_) λt43=>za (λK12=>gIf t43 true (xl w11 40 t22 (s5.getD 0 u_) 4 λt48=>pp (Op.unary .not t48) λt49=>K12 [t49] w11) (K12 [u_] w11)) (λs13 _d14 w15=>
 zb t43 (s13.getD 0 u_) fa_ λt50=>px 40 t25 (s5.getD 0 u_) λt51=>so w15 4 t51 t50 λw16=>bt .add 3 (s5.getD 0 u_) (i6 1) λt31=>K4 [t31] w16))) (K t25 w7))
theorem adB(h:Jw t0 t1 t2 t3 t4 w K):zd prog ZV #[t0,t1,t2,t3,t4] w K:=
 okC false (.s (.r (rz 2 0 2)) (.s (.r (rz 10 0 513)) (.s (.r (rz 4 0 32)) (.s (.s (.r (rz 1 0 0)) (.b (.lp [14] (.s (.s (.r (rz 4 0 0)) (.c (.n) (.n))) (.s (.b (.r (ra 7 0 1024 (.grp 38 false (ri 4 7 64) [42] (ra 2 11 0 (.grp 44 true (ri 5 13 64) [49] (rz 3 18 32))))))) (.r (rz 3 0 0))))))) (.s (.r (rz 2 0 0)) (.n)))))) func16 rfl (by kernel_rfl) (by kernel_rfl) h
def XV(t0:Value)(w:World)(K:VW):Prop:=
 pw w (Instr.box 59 t0) λt1 w1=>
 zo [(Value.slice Option.none 0 0),(i6 0)] w1 (λs3 _d4 w5 K2=>
 fl w5 t1 59 1 57 λt7=>pp (Builtin.len_ #[57] 3 #[t7]) λt8=>bf .leq 3 (s3.getD 1 u_) t8 λt9=>zc t9 (lo w5 59 t1 λt13=>ca QG #[t13,(s3.getD 1 u_)] w5 λt15 w6=>
 pw w6 (Instr.buildSlice 37 1 #[(0,t15)]) λt16 w7=>
 pw w7 (Builtin.append_ #[37,37] 37 #[(s3.getD 0 u_),t16]) λt17 w8=>
 bt .add 3 (s3.getD 1 u_) (i6 1) λt11=>K2 [t17,t11] w8) (K (s3.getD 0 u_) w5))
theorem abi(h:XV t0 w K):zd prog vw #[t0] w K:=
 okC false (.s (.r (rz 2 0 2)) (.s (.r (rz 1 0 0)) (.s (.s (.r (rz 1 0 0)) (.b (.lp [3,4] (.s (.s (.r (rz 5 0 16)) (.c (.n) (.n))) (.s (.b (.r (rz 7 0 2692))) (.r (rz 3 0 0))))))) (.s (.r (rz 2 0 0)) (.n))))) func64 rfl (by kernel_rfl) (by kernel_rfl) h
def abL(t0 t1:Value)(w:World)(K:VW):Prop:=
 pw w (Instr.box 59 t0) λt2 w1=>
 pw w1 (Instr.alloc 59 true (.tuple #[])) λt4 w2=>
 fl w2 t2 59 0 3 λt7=>pp (Instr.build 59 #[(0,t7)]) λt8=>pw w2 (Instr.alloc 59 true (.tuple #[])) λt5 w3=>
 so w3 59 t5 t8 λw4=>fl w4.drew t5 59 1 57 λt10=>fl w4.drew t2 59 1 57 λt12=>pp (Instr.sliceAt 57 t12 none (some t1) none) λt14=>pw w4.drew (Builtin.append_ #[57,57] 57 #[t10,t14]) λt15 w5=>
 pf 59 t5 1 λt16=>so w5 57 t16 t15 λw6=>lo w6 59 t5 λt17=>so w6 59 t4 t17 λw7=>pq w7 (zk 59 t4) λr8=>K r8 w7
theorem ag5(h:abL t0 t1 w K):zd prog QG #[t0,t1] w K:=
 okC false (.s (.r (rz 2 0 10)) (.s (.r (rz 5 0 644)) (.s (.r (rz 9 0 139332)) (.s (.r (rz 2 0 9)) (.n))))) func91 rfl (by kernel_rfl) (by kernel_rfl) h
end
end Go.Proofs.Tryz
namespace Go.Proofs
open Go.Sh
theorem aaD{ss:List StD}{tys:List TyD}{p:PlD}{x:TyD×List Int}(h:zL ss tys p=some x):x.2.length=p.ps.length:=by
 unfold zL at h
 split at h
 ·exact Yt h
 ·cases h
end Go.Proofs
namespace Go.Proofs.Tryz
open Go.Sh
def Jy(t0 t1:Value)(w:World)(K:VW):Prop:=
 pw w (Instr.box 59 t0) λt2 w1=>
 pw w1 (Instr.box 59 t1) λt3 w2=>
 fl w2 t2 59 0 3 λt7=>fl w2 t3 59 0 3 λt9=>bf .neq 3 t7 t9 λt10=>za (λK3=>gIf t10 false (fl w2 t2 59 1 57 λt13=>pp (Builtin.len_ #[57] 3 #[t13]) λt14=>fl w2 t3 59 1 57 λt16=>pp (Builtin.len_ #[57] 3 #[t16]) λt17=>bf .gtr 3 t14 t17 λt18=>K3 [t18] w2) (K3 [u_] w2)) (λs4 _d5 w6=>
 zb t10 tr_ (s4.getD 0 u_) λt19=>zc t19 (K fa_ w6) (zo [(i6 0)] w6 (λs8 _d9 w10 K7=>
 fl w10 t2 59 1 57 λt22=>pp (Builtin.len_ #[57] 3 #[t22]) λt23=>bf .lss 3 (s8.getD 0 u_) t23 λt24=>zc t24 (fl w10.drew t2 59 1 57 λt28=>xl w10.drew 57 t28 (s8.getD 0 u_) 76 λt31=>fl w10.drew t3 59 1 57 λt33=>xl w10.drew 57 t33 (s8.getD 0 u_) 76 λt36=>bf .neq 76 t31 t36 λt37=>zc t37 (K fa_ w10.drew) (bt .add 3 (s8.getD 0 u_) (i6 1) λt26=>K7 [t26] w10.drew)) (K tr_ w10))))
theorem adC{t0 t1:Value}{w:World}{K:VW}(h:Jy t0 t1 w K):zd prog xY #[t0,t1] w K:=
 okC false (.s (.r (rz 3 0 10)) (.s (.s (.r (ra 6 0 68 (.grp 11 false (ri 7 6 260) [18] (rz 1 13 0)))) (.c (.s (.r (rz 1 0 0)) (.n)) (.n))) (.s (.s (.r (rz 1 0 0)) (.b (.lp [5] (.s (.s (.r (rz 5 0 16)) (.c (.n) (.n))) (.s (.b (.s (.r (rz 11 0 266500)) (.c (.s (.r (rz 1 0 0)) (.n)) (.n)))) (.r (rz 3 0 0))))))) (.s (.r (rz 1 0 0)) (.n))))) func94 rfl (by kernel_rfl) (by kernel_rfl) h
def kn(t0 t1:Value)(w:World)(K:VW):Prop:=
 pp (Builtin.len_ #[57] 3 #[t0]) λt7=>pp (Builtin.len_ #[57] 3 #[t1]) λt9=>bf .neq 3 t7 t9 λt10=>zc t10 (K fa_ w) (pp (Builtin.len_ #[57] 3 #[t0]) λt12=>zo [(i6 0)] w (λs2 _d3 w4 K1=>
 bf .lss 3 (s2.getD 0 u_) t12 λt14=>zc t14 (xl w4.drew 57 t0 (s2.getD 0 u_) 76 λt19=>xl w4.drew 57 t1 (s2.getD 0 u_) 76 λt23=>bf .neq 76 t19 t23 λt24=>zc t24 (K fa_ w4.drew) (bt .add 3 (s2.getD 0 u_) (i6 1) λt25=>K1 [t25] w4.drew)) (K tr_ w4)))
theorem j3{t0 t1:Value}{w:World}{K:VW}(h:kn t0 t1 w K):zd prog yZ #[t0,t1] w K:=
 okC false (.s (.r (rz 1 0 0)) (.s (.s (.r (rz 5 0 0)) (.c (.s (.r (rz 1 0 0)) (.n)) (.n))) (.s (.s (.r (rz 3 0 0)) (.b (.lp [13] (.s (.r (rz 1 0 0)) (.s (.c (.n) (.n)) (.s (.b (.s (.r (rz 2 0 0)) (.s (.r (rz 9 0 16448)) (.c (.s (.r (rz 1 0 0)) (.n)) (.n))))) (.r (rz 2 0 0)))))))) (.s (.r (rz 1 0 0)) (.n))))) func50 rfl (by kernel_rfl) (by kernel_rfl) h
end Go.Proofs.Tryz
namespace Go.Proofs
open Go.Sh Go.RowKit
section
def prefP(p q:PlD):Bool:=decide (p.l=q.l)&&(decide (p.ps.length≤q.ps.length)&&decide (p.ps=q.ps.take p.ps.length))
theorem ahL{l m:List Int}{v vm:Value}{w:World}{r:Gh}{K:Value→World→Prop}(hr:Holds r w)(hl:SlB 1 r yE v l)(hm:SlB 1 r yE vm m)(h:∀w',Ext w w'→K (.bool (decide (l=m))) w'):zd Tryz.prog Tryz.yZ #[v,vm] w K:=by
 refine Tryz.j3 ?_
 unfold Tryz.kn
 have hlf:=hl.lt
 have hmf:=hm.lt
 obtain⟨p,cap,rfl,_,_⟩:=hl.sl.shape
 obtain⟨pm,cm,rfl,_,_⟩:=hm.sl.shape
 have S:=St.start hr
 refine gg_ ?_
 refine zf (λhne=>?_) (λheq=>?_)
 ·have:=h _ S.ext
  have hn:¬l=m:=λe=>hne (by rw[e])
  rwa[decide_eq_false hn]at this
 have heq:l.length=m.length:=by omega
 refine gg_ ?_
 refine zh (ι:=Nat) (λi=>[.int .i64 (i:Nat)]) (λi w'=>i≤l.length∧(∀k (h1:k<l.length) (h2:k<m.length),k<i→l[k]=m[k])∧StX noX w r w' []) (λi=>l.length-i) 0 rfl ⟨gzl _,λk _ _ h0=>absurd h0 (Nat.not_lt_zero _),S⟩ ?_
 repeat clear S
 rintro i d w6 ⟨hi,hno,S⟩ K4 hK4
 rw[gdz]
 refine gp_ ?_
 refine zf (λhlt=>?_) (λhge=>?_)
 ·have hlt:i<l.length:=by omega
  have hlt2:i<m.length:=by omega
  have S:=S.go (Ext.drew _)
  obtain⟨b,off,hE,_,hc⟩:=aa1 hl.sl hlt
  obtain⟨b2,off2,hE2,_,hc2⟩:=aa1 hm.sl hlt2
  subst hE
  subst hE2
  refine gg_ ?_
  refine zg (by rw[tnc];exact S.at hc) ?_
  refine gg_ ?_
  refine zg (by rw[tnc];exact S.at hc2) ?_
  refine gp_ ?_
  refine zf (λhb=>?_) (λhb=>?_)
  ·have:=h _ S.ext
   have hne:¬l=m:=λe=>by subst e;exact hb rfl
   rwa[decide_eq_false hne]at this
  ·refine gp_ ?_
   refine hK4 (i+1) _ ⟨hlt,λk h1 h2 hk=>?_,S⟩ (by omega)
   rcases Nat.lt_or_ge k i with h|h
   ·exact hno k h1 h2 h
   ·obtain rfl:k=i:=by omega
    exact Decidable.not_not.1 hb
 ·have hil:i=l.length:=by omega
  have:=h _ S.ext
  have hy:l=m:=List.ext_getElem heq λk h1 h2=>hno k h1 h2 (by omega)
  rwa[gde hy]at this
theorem Z2{p q:PlD}{c d:List Value}{w:World}{r:Gh}{K:Value→World→Prop}(hr:Holds r w)(hp:PlG r c p)(hq:PlG r d q)(h:∀w',Ext w w'→K (.bool (prefP p q)) w'):zd Tryz.prog Tryz.xX #[.agg c.toArray,.agg d.toArray] w K:=by
 refine Tryz.adg ?_
 unfold Tryz.Jj
 obtain⟨v,rfl,hl⟩:=hp
 obtain⟨v2,rfl,hm⟩:=hq
 have hl0:=hl;have hm0:=hm
 have hlf:=hl.lt
 have hmf:=hm.lt
 obtain⟨x,cx,rfl,_,_⟩:=hl.sl.shape
 obtain⟨y,cy,rfl,_,hcy⟩:=hm.sl.shape
 have S:=St.start hr
 refine S.box λb2 w1 S=>?_
 refine S.box λb3 w2 S=>?_
 have S:=S.go (Ext.drew _)
 have S:StX noX w r _ [.cell b3 [.int .i64 q.l,.slice y q.ps.length cy] 59,.cell b2 [.int .i64 p.l,.slice x p.ps.length cx] 59]:=S
 refine gg_ ?_
 refine zi (c:=decide ((p.ps.length:Int)≤(q.ps.length:Int))) (λ_ K2 hK2=>by refine gg_ ?_;exact hK2) ?_
 refine zt (c:=decide (p.ps=q.ps.take p.ps.length)) (λhb K2 hK2=>?_) λw4 e4=>?_
 ·simp only[gba,gdt]at hb
  refine gg_ ?_
  refine ae7 (e:=76) (n:=1) (p:=y) (i:=(p.ps.length:Int)) (by kernel_rfl) (by omega) (by omega) ?_
  rw[tnc]
  refine ahL S.holds hl0 (ag1 hm0 (by omega)) λw4 e4=>hK2 _ e4
 have:=h _ (S.go e4).ext
 rwa[prefP,show decide (p.ps.length≤q.ps.length)=decide ((p.ps.length:Int)≤(q.ps.length:Int))by rw[decide_eq_decide];omega,← Bool.and_assoc]at this
theorem jK{p q:PlD}{c d:List Value}{w:World}{r:Gh}{K:Value→World→Prop}(hr:Holds r w)(hp:PlG r c p)(hq:PlG r d q)(h:∀w',Ext w w'→K (.bool (prefP p q)) w'):zd Tryz.prog Tryz.xY #[.agg c.toArray,.agg d.toArray] w K:=by
 refine Tryz.adC ?_
 unfold Tryz.Jy
 obtain⟨v,rfl,hl⟩:=hp
 obtain⟨v2,rfl,hm⟩:=hq
 have hlf:=hl.lt
 have hmf:=hm.lt
 obtain⟨x,cx,rfl,_,_⟩:=hl.sl.shape
 obtain⟨y,cy,rfl,_,hcy⟩:=hm.sl.shape
 have S:=St.start hr
 refine S.box λb2 w1 S=>?_
 refine S.box λb3 w2 S=>?_
 have S:StX noX w r w2 [.cell b3 [.int .i64 q.l,.slice y q.ps.length cy] 59,.cell b2 [.int .i64 p.l,.slice x p.ps.length cx] 59]:=S
 refine gg_ ?_
 refine zj (c:=decide ((p.ps.length:Int)>(q.ps.length:Int))) (λ_ K2 hK2=>by refine gg_ ?_;exact hK2) ?_
 refine c_b (λhb=>?_) (λhb=>?_)
 ·have:=h _ S.ext
  have hn:prefP p q=false:=by
   simp only[Bool.or_eq_true,gdt]at hb
   rw[prefP]
   rcases hb with hb|hb
   ·rw[decide_eq_false hb];rfl
   ·rw[decide_eq_false (show¬p.ps.length≤q.ps.length by omega),Bool.false_and,Bool.and_false]
  rwa[hn]at this
 simp only[Bool.or_eq_false_iff,decide_eq_false_iff_not,Decidable.not_not]at hb
 obtain⟨h1,h2⟩:=hb
 have hE:prefP p q=decide (p.ps=q.ps.take p.ps.length):=by rw[prefP,gde h1,gde (show p.ps.length≤q.ps.length by omega),Bool.true_and,Bool.true_and]
 rw[hE]at h
 refine zh (ι:=Nat) (λi=>[.int .i64 (i:Nat)]) (λi w'=>i≤p.ps.length∧(∀k (h1:k<p.ps.length) (h2:k<q.ps.length),k<i→p.ps[k]=q.ps[k])∧StX noX w r w' [.cell b3 [.int .i64 q.l,.slice y q.ps.length cy] 59,.cell b2 [.int .i64 p.l,.slice x p.ps.length cx] 59]) (λi=>p.ps.length-i) 0 rfl ⟨gzl _,λk _ _ h0=>absurd h0 (Nat.not_lt_zero _),S⟩ ?_
 repeat clear S
 rintro i d w6 ⟨hi,hno,S⟩ K4 hK4
 rw[gdz]
 refine gg_ ?_
 refine zf (λhlt=>?_) (λhge=>?_)
 ·have hlt:i<p.ps.length:=by omega
  have hlt2:i<q.ps.length:=by omega
  have S:=S.go (Ext.drew _)
  obtain⟨b,off,hE1,_,hc⟩:=aa1 hl.sl hlt
  obtain⟨b',off',hE2,_,hc2⟩:=aa1 hm.sl hlt2
  subst hE1
  subst hE2
  refine gg_ ?_
  refine zg (by rw[tnc];exact S.at hc) ?_
  refine gg_ ?_
  refine zg (by rw[tnc];exact S.at hc2) ?_
  refine gp_ ?_
  refine zf (λhb=>?_) (λhb=>?_)
  ·have:=h _ S.ext
   have hne:¬p.ps=q.ps.take p.ps.length:=λe=>hb (by
    have h5:(q.ps.take p.ps.length)[i]'(by rw[← e];exact hlt)=q.ps[i]:=List.getElem_take
    rw[← h5];congr 1)
   rwa[decide_eq_false hne]at this
  ·refine gp_ ?_
   refine hK4 (i+1) _ ⟨hlt,λk h1 h2 hk=>?_,S⟩ (by omega)
   rcases Nat.lt_or_ge k i with h|h
   ·exact hno k h1 h2 h
   ·obtain rfl:k=i:=by omega
    exact Decidable.not_not.1 hb
 ·have:=h _ S.ext
  have hy:p.ps=q.ps.take p.ps.length:=List.ext_getElem (by rw[List.length_take];omega) λk h1 h2=>by rw[List.getElem_take];exact hno k h1 (by omega) (by omega)
  rwa[gde hy]at this
section
variable {ss:List StD} {tys:List TyD} {p q:PlD} {d:Int}
theorem Z3(hst:(zw ss).2=0)(hf:yQ ss tys)(h0:0≤p.l)(hl:p.l.toNat<tys.length):zL ss tys p=if p.ps.length≤8 then zH ss p.ps tys[p.l.toNat]else none:=by
 have hall:(tys.all λt=>zP ss t)=true:=List.all_eq_true.2 λt ht=>by
  rw[zP,gde hst,Bool.true_and];exact hf.all _ ht
 have hg:tys.getD p.l.toNat yc=tys[p.l.toNat]:=by rw[ggd,gqg hl];rfl
 have ho:yT ss tys p=decide (p.ps.length≤8):=by
  rw[yT,gde h0,gde (show p.l<tys.length by omega),gde hst,hall];simp
 rw[zL,ho,hg]
 by_cases h:p.ps.length≤8
 ·rw[if_pos (gde h),if_pos h]
 ·rw[if_neg (by simpa using h),if_neg h]
theorem XW(hst:(zw ss).2=0)(hf:yQ ss tys)(h0:0≤p.l)(hl:p.l.toNat<tys.length):zL ss [tys[p.l.toNat]] ⟨0,p.ps⟩=zL ss tys p:=by
 rw[Z3 hst hf h0 hl]
 exact Qr hst (by rw[zP,gde hst,Bool.true_and];exact hf.all _ (gem hl))
theorem J6(h:(zL ss tys p).isSome=true):0≤p.l∧p.l.toNat<tys.length:=by
 unfold zL at h
 split at h
 ·rename_i ho
  simp only[yT,gba,gdt]at ho
  exact⟨ho.1.1.1,by omega⟩
 ·cases h
theorem xj(hst:(zw ss).2=0)(hf:yQ ss tys):(zm ss tys p).2.2=(zL ss tys p).isSome:=by
 rw[Bool.eq_iff_iff,Qs hst hf]
 constructor
 ·rintro⟨h0,hl,x,hx,_⟩
  rw[← XW hst hf h0 hl,hx];rfl
 ·intro h
  obtain⟨h0,hl⟩:=J6 h
  obtain⟨x,hx⟩:=Option.isSome_iff_exists.1 h
  refine⟨h0,hl,x,by rw[XW hst hf h0 hl,hx],?_⟩
  rw[Z3 hst hf h0 hl]at hx
  split at hx
  ·rename_i h8
   unfold zm
   rw[if_neg (by omega),gqg hl]
   show(match goG ss p.ps (tys[p.l.toNat],0) with|some s=>(s.1,s.2,decide (p.ps.length≤8))|none=>(yc,0,false))=_
   rw[J1 _ _ _ (Int.le_refl _),hx]
   show(x.1,yK 0 x.2,decide (p.ps.length≤8))=_
   rw[gde h8]
  ·cases hx
end
def QT(p:PlD)(n:Nat):PlD:=⟨p.l,p.ps.take n⟩
def pfxs(p:PlD):List PlD:=(List.range (p.ps.length+1)).map (QT p)
def holdN(l:List Int):Nat:=(l.takeWhile λk=>decide (k<2)).length
noncomputable def heldW(ss:List StD)(tys:List TyD)(p:PlD):PlD:=match zL ss tys p with
 |some x=>QT p (holdN x.2)
 |none=>p
theorem XX{l:List Int}:holdN l≤l.length:=(List.takeWhile_sublist _).length_le
theorem Z4{p:PlD}:(pfxs p).length=p.ps.length+1:=by simp[pfxs]
theorem ag6{l:List Int}{i:Nat}(hi:i<l.length)(h:∀x∈l.take i,x<2)(h2:2≤l[i]):holdN l=i:=by
 have e:l=l.take i++l[i]::l.drop (i+1):=by rw[← List.drop_eq_getElem_cons hi,List.take_append_drop]
 have e2:l.takeWhile (λk=>decide (k<2))=l.take i:=by
  conv=>lhs;rw[e]
  rw[List.takeWhile_append_of_pos (λx hx=>gde (h x hx)),List.takeWhile_cons_of_neg (by simpa using h2),List.append_nil]
 rw[holdN,e2,List.length_take];omega
theorem ae8{l:List Int}(h:∀x∈l,x<2):holdN l=l.length:=by
 have:=List.takeWhile_append_of_pos (l₁:=l) (l₂:=[]) (p:=λk:Int=>decide (k<2)) λx hx=>gde (h x hx)
 rw[List.append_nil,List.takeWhile_nil,List.append_nil]at this
 rw[holdN,this]
theorem abM{p:PlD}{c:List Value}{n:Int}{w:World}{r:Gh}{K:Value→World→Prop}(hr:Holds r w)(hp:PlG r c p)(h0:0≤n)(hn:n≤p.ps.length)(hb:p.ps.length≤1000000)
  (h:∀v s w',Ext w w'→New w s w'→SlB 1 s yE v (p.ps.take n.toNat)→K (.agg #[.int .i64 p.l,v]) w'):zd Tryz.prog Tryz.Yc #[.agg c.toArray,.int .i64 n] w K:=by
 refine Tryz.agE ?_
 unfold Tryz.abB
 obtain⟨v,rfl,hl⟩:=hp
 obtain⟨qs,caps,rfl,_,hcap⟩:=hl.sl.shape
 have S:=St.start hr
 refine S.box λb1 w1 S=>?_
 have S:StX noX w r w1 [.cell b1 [.int .i64 p.l,.slice qs p.ps.length caps] 59]:=S
 refine S.al λb2 w2 S=>?_
 have S:=S.go (Ext.drew _)
 refine gg_ ?_
 refine ae7 (e:=76) (n:=1) (p:=qs) (i:=n) (by kernel_rfl) (by omega) (by omega) ?_
 have hlt:(p.ps.take n.toNat).length=n.toNat:=by rw[List.length_take];omega
 have hs:=ag1 hl (n:=n.toNat) (by omega)
 rw[← hlt]at hs⊢
 refine ahF (l:=p.ps.take n.toNat) S.holds (by rw[hlt]at hs⊢;exact hs) (by omega) λv3 s w3 e3 n3 h3=>⟨e3,?_⟩
 obtain⟨S,d3,a3⟩:=S.tell e3 n3
 obtain⟨q3,c3,rfl,_,_⟩:=h3.sl.shape
 refine zy (cs:=#[.int .i64 p.l,.slice q3 (p.ps.take n.toNat).length c3]) (by kernel_rfl) ?_
 refine S.stB (b:=b2) λw4 S=>?_
 refine S.ceB (b:=b2) ?_ rfl
 exact h _ s _ S.ext (S.newOf a3) h3
theorem acu{p:PlD}{c:List Value}{w:World}{r:Gh}{K:Value→World→Prop}(hr:Holds r w)(hp:PlG r c p)(hb:p.ps.length≤100000)
  (h:∀v s xs w',Above w s→StX noX w (r.or s) w' [.row v 59 2 (pfxs p).length xs]→RowOf 2 (PlG s) xs (pfxs p)→K v w'):zd Tryz.prog Tryz.kg #[.agg c.toArray] w K:=by
 refine Tryz.abb ?_
 unfold Tryz.XM
 have hp0:=hp
 obtain⟨v,rfl,hl⟩:=hp
 obtain⟨qs,caps,rfl,_,hcap⟩:=hl.sl.shape
 have S:=St.start hr
 refine S.box λb1 w1 S=>?_
 have S:StX noX w r w1 [.cell b1 [.int .i64 p.l,.slice qs p.ps.length caps] 59]:=S
 refine gg_ ?_
 have S:=(S.ownNil 59 2).less (q:=r.or nothing) (λb o h=>Or.elim h id λh=>h.elim) (List.Sublist.refl _)
 refine zh (ι:=Nat×Value) (λi=>[i.2,.int .i64 (i.1:Nat)]) (λi w'=>i.1≤p.ps.length+1∧∃s xs,Above w s∧RowOf 2 (PlG s) xs ((List.range i.1).map (QT p))∧StX noX w (r.or s) w' [.row i.2 59 2 i.1 xs,.cell b1 [.int .i64 p.l,.slice qs p.ps.length caps] 59]) (λi=>p.ps.length+1-i.1) (0,.slice none 0 0) rfl ⟨gzl _,nothing,[],Above.no,RowOf.nil,S⟩ ?_
 clear S
 rintro⟨i,v⟩ d w5 ⟨hi,s,xs,ha,hx,S⟩ K2 hK2
 simp only at hi hx S⊢
 simp only[gdz,gds]
 refine gp_ ?_
 refine zf (λhlt=>?_) (λhge=>?_)
 ·have hlt:i<p.ps.length+1:=by omega
  refine S.ldB (b:=b1) ?_ rfl
  refine abM S.holds (PlG.up hp0) (by omega) (by omega) (by omega) λv3 s3 w3 e3 n3 h3=>?_
  obtain⟨S,_,a3⟩:=S.tell e3 n3
  have S:=S.reGh
  rw[tnc]at h3
  obtain⟨q3,c3,rfl,_,_⟩:=h3.sl.shape
  refine S.lit (e:=59) (cs:=[.int .i64 p.l,.slice q3 (p.ps.take i).length c3]) (by kernel_rfl) λb4 w4 S=>?_
  refine S.ap (v:=v) (m':=1) (Sl.blk (S.blk b4)) (λv5 w5 S=>?_) (by omega)
  have S:=S.drop b4
  refine gp_ ?_
  rw[show ((i:Int)+1)=((i+1:Nat):Int)by omega]
  refine hK2 (i+1,v5) _ ⟨hlt,s.or s3,_,ha.or' a3,?_,S⟩ (by show p.ps.length+1-(i+1)<p.ps.length+1-i;omega)
  rw[List.range_succ,List.map_append]
  exact(hx.mono λc x hx=>PlG.up hx).snoc rfl ⟨_,rfl,h3.cells⟩
 ·obtain rfl:i=p.ps.length+1:=by omega
  exact h v s xs _ ha (by rw[Z4];exact S.d2) hx
abbrev amu:Value:=.func (.func Tryz.Q3) #[] #[]
theorem acv{l:List Int}{v:Value}{w:World}{r:Gh}{K:Value→World→Prop}(hr:Holds r w)(hl:SlG 1 r zQ v l)(hf:l.length≤maxLen)
  (h:K (.int .i64 (if holdN l=l.length then -1 else(holdN l:Int))) w):zd Tryz.prog Tryz.yu #[v,amu] w K:=by
 refine Tryz.qj ?_
 unfold Tryz.xP
 obtain⟨p,cap,rfl,_,_⟩:=hl.shape
 have hf:l.length≤9223372036854775807:=hf
 refine gp_ ?_
 refine zh (ι:=Nat) (λi=>[.int .i64 (i:Nat)]) (λi w'=>w'=w∧i≤l.length∧∀x∈l.take i,x<2) (λi=>l.length-i) 0 rfl ⟨rfl,gzl _,by simp⟩ ?_
 rintro i d w' ⟨rfl,hi,hn⟩ K1 hK1
 rw[gdz]
 refine gp_ ?_
 refine zf (λhlt=>?_) (λhge=>?_)
 ·have hlt:i<l.length:=by omega
  obtain⟨b,off,rfl,_,hc⟩:=xz hl hlt
  refine gp_ ?_
  refine zg (by rw[tnc];exact hc _ hr) ?_
  refine aiC (by kernel_rfl) ?_
  refine Tryz.ady ?_
  unfold Tryz.Ju
  refine gp_ ?_
  refine zf (λh2=>?_) (λh2=>?_)
  ·rw[ag6 hlt hn h2,if_neg (by omega)]at h;exact h
  ·refine gp_ ?_
   refine hK1 (i+1) _ ⟨rfl,hlt,λx hx=>?_⟩ (by omega)
   rw[List.take_succ_eq_append_getElem hlt,List.mem_append,List.mem_singleton]at hx
   rcases hx with hx|rfl
   ·exact hn x hx
   ·omega
 ·have :i=l.length:=by omega
  subst this
  rw[List.take_length]at hn
  rw[if_pos (ae8 hn)]at h
  exact h
theorem aaE{ss:List StD}{tys:List TyD}{p:PlD}{x:TyD×List Int}{c:List Value}{p0 q:Option Addr}{cap0 capt:Nat}{w:World}{r:Gh}{K:Value→World→Prop}(hr:Holds r w)(hs:StG r p0 ss)(ht:TysG r q tys)(htl:tys.length≤maxLen)(hp:PlG r c p)(hx:zL ss tys p=some x)
  (h:∀v s w',Ext w w'→New w s w'→SlB 1 s yE v (p.ps.take (holdN x.2))→K (.tuple #[.agg #[.int .i64 p.l,v],.int .i64 0]) w'):
  zd Tryz.prog Tryz.Zg #[.slice p0 ss.length cap0,.slice q tys.length capt,.agg c.toArray] w K:=by
 refine Tryz.afu ?_
 unfold Tryz.V6
 have hp0:=hp
 obtain⟨v,rfl,hl⟩:=hp
 obtain⟨qs,caps,rfl,_,hcap⟩:=hl.sl.shape
 have hlen:=aaD hx
 have hb8:p.ps.length≤8:=by
  unfold zL at hx
  split at hx
  ·rename_i ho
   simp only[yT,gba,gdt]at ho
   exact ho.1.2
  ·cases hx
 have S:=St.start hr
 refine S.box λb5 w1 S=>?_
 have S:StX noX w r w1 [.cell b5 [.int .i64 p.l,.slice qs p.ps.length caps] 59]:=S
 refine S.al λb6 w2 S=>?_
 refine S.ldB (b:=b5) ?_ rfl
 refine V8 S.holds hs ht htl hp0 (λw3 hn _=>by rw[hx]at hn;cases hn) λt g qa ca vg s w3 hg e3 n3 h4 hsg=>?_
 obtain⟨S,_,a3⟩:=S.tell e3 n3
 rw[hx]at hg
 cases hg
 simp only at hlen h
 obtain⟨pg,cg,rfl,_,hcg⟩:=hsg.shape
 refine gS_ ?_
 refine S.al λb8 w4 S=>?_
 refine S.stB (b:=b8) λw5 S=>?_
 refine gp_ ?_
 refine c_f rfl ?_
 have hsg2:SlG 1 (r.or s) zQ (.slice pg g.length cg) g:=hsg.cells
 refine acv S.holds hsg2 (by rw[maxLen];omega) ?_
 refine zn (λy w'=>y=[.int .i64 (holdN g)]∧w'=w5) (λK9 hK9=>?_) ?_
 ·refine gp_ ?_
  have hle:=XX (l:=g)
  by_cases he:holdN g=g.length
  ·rw[if_pos he]
   refine c_t (by decide) ?_
   refine gp_ ?_
   exact hK9 _ _ ⟨by rw[he],rfl⟩
  ·rw[if_neg he]
   refine c_f (decide_eq_false (by omega)) ?_
   exact hK9 _ _ ⟨rfl,rfl⟩
 ·rintro _ w12 ⟨rfl,rfl⟩ d
  rw[gdz]
  refine S.ldB (b:=b5) ?_ rfl
  have hle:=XX (l:=g)
  refine abM S.holds (PlG.up hp0) (by omega) (by omega) (by omega) λv13 s2 w13 e13 n13 h13=>?_
  obtain⟨S,_,a13⟩:=S.tell e13 n13
  rw[tnc]at h13
  obtain⟨q3,c3,rfl,_,_⟩:=h13.sl.shape
  refine S.stB (b:=b6) λw14 S=>?_
  refine S.ceB (b:=b6) ?_ rfl
  exact h _ s2 _ S.ext (S.newOf a13) h13
end
end Go.Proofs
