/-
  The document's answer of layer 10: what a type implies; the head of a graph.
  The document's answer of layer 10: the head of a graph.
  The document's answer of layer 10: Check, May, Is.
  loanwordlaw10.GraphTexts: whatever the program, the function, the point: the law returns true.
  Openings: what arguments that are types, programs, lists of numbers tell.
  Openings of layer 10: programs with their numbers, places; the table of tens.
  loanwordlaw10.GraphTexts: the card: whatever the input, the law returns true and the input reads as it did.
-/
import Derived.Test.YtngfnikkdhbajaaGreatDoorQTf
import Derived.Test.YtngfnikkdhbajaaGreatDoorQTd
import Derived.Test.YtngfnikkdhbajaaGreatDoorQTe
import Derived.Test.YtngfnikkdhbajaaGreatDoorQTc
import Derived.Test.YtngfnikkdhbajaaGreatDoorRows
import Derived.WalkKit
import Derived.Test.YtngfnikkdhbajaaGreatDoorCards
import Derived.Test.YtngfnikkdhbajaaGreatDoorTie
import Derived.Stop.LaidErr
import Derived.Lib.LaidTab
section
namespace Go.Sh
theorem agM {w : World} {b x y z : Bool} {A1 : (List Value→World→Prop)→Prop} {A2 A3 : (List Value→World→Prop)→World→Prop} {Z : Value→World→Prop}
  (h1 : b=true→∀ K : List Value→World→Prop,K [.bool x] w→A1 K) (h2 : b=true→∀ K : List Value→World→Prop,K [.bool y] w→A2 K w) (h3 : b=true→∀ K : List Value→World→Prop,K [.bool z] w→A3 K w)
  (hZ : Z (.bool (b&&(x||(y&&z)))) w) :
  za (fun K=>gIf (.bool b) true (A1 K) (K [undef] w)) fun s80 _ w82=>
   za (fun K=>gIf (s80.getD 0 undef) false (A2 K w82) (K [undef] w82)) fun s84 _ w86=>
    za (fun K=>gIf (s84.getD 0 undef) true (A3 K w86) (K [undef] w86)) fun s88 _ w90=>
     za (fun K=>gIf (s80.getD 0 undef) false (zb (s84.getD 0 undef) (s88.getD 0 undef) (.bool false) fun t=>K [t] w90) (K [undef] w90)) fun s92 _ w94=>
      za (fun K=>gIf (.bool b) true (zb (s80.getD 0 undef) (.bool true) (s92.getD 0 undef) fun t=>K [t] w94) (K [undef] w94)) fun s96 _ w98=>
       zb (.bool b) (s96.getD 0 undef) (.bool false) fun t=>Z t w98:=by
 cases b<;>cases x<;>cases y<;>cases z <;>
  (iterate 5 (intro K hK;first|refine hK _ _ fun _=>?_|refine h1 rfl _ (hK _ _ fun _=>?_)|refine h2 rfl _ (hK _ _ fun _=>?_)|refine h3 rfl _ (hK _ _ fun _=>?_)|refine ⟨_,rfl,hK _ _ fun _=>?_⟩)) <;>
  exact ⟨_,rfl,by simpa using hZ⟩
theorem ah7 {w : World} {b c d e : Bool} {A1 : (List Value→World→Prop)→Prop} {A2 A3 : (List Value→World→Prop)→World→Prop} {Z : Value→World→Prop}
  (h1 : ∀ K : List Value→World→Prop,K [.bool c] w→A1 K) (h2 : ∀ K : List Value→World→Prop,K [.bool d] w→A2 K w) (h3 : ∀ K : List Value→World→Prop,K [.bool e] w→A3 K w)
  (hZ : Z (.bool (b||((c&&d)&&e))) w) :
  za (fun K=>gIf (.bool b) false (A1 K) (K [undef] w)) fun s153 _ w155=>
   za (fun K=>gIf (s153.getD 0 undef) true (A2 K w155) (K [undef] w155)) fun s157 _ w159=>
    za (fun K=>gIf (.bool b) false (zb (s153.getD 0 undef) (s157.getD 0 undef) (.bool false) fun t=>K [t] w159) (K [undef] w159)) fun s161 _ w163=>
     za (fun K=>gIf (s161.getD 0 undef) true (A3 K w163) (K [undef] w163)) fun s165 _ w167=>
      za (fun K=>gIf (.bool b) false (zb (s161.getD 0 undef) (s165.getD 0 undef) (.bool false) fun t=>K [t] w167) (K [undef] w167)) fun s169 _ w171=>
       zb (.bool b) (.bool true) (s169.getD 0 undef) fun t=>Z t w171:=by
 cases b<;>cases c<;>cases d<;>cases e <;>
  (iterate 5 (intro K hK;first|refine hK _ _ fun _=>?_|refine h1 _ (hK _ _ fun _=>?_)|refine h2 _ (hK _ _ fun _=>?_)|refine h3 _ (hK _ _ fun _=>?_)|refine ⟨_,rfl,hK _ _ fun _=>?_⟩)) <;>
  exact ⟨_,rfl,by simpa using hZ⟩
end Go.Sh
namespace Go.Proofs
open Go.Sh
set_option maxRecDepth 100000
set_option linter.unusedSimpArgs false
set_option linter.unusedVariables false
set_option maxHeartbeats 1000000 in
theorem adY {bt : Nat} {M : List Asr} {w0 : World} {r : Gh} {t : TyD} {v : Value} {f : Nat→Nat→Bool} {w : World} {K : Value→World→Prop} (hv : TyG r v t) (hx : ∀ x ∈ regsT t,0≤x∧x<8)
  (S : StX noX w0 r w (.cell bt (zM f) 208::M))
  (h : ∀ w',StX noX w0 r w' (.cell bt (zM (X7 f (regsT t))) 208::M)→K (.tuple #[]) w') : zd Tryz.prog Tryz.Ya #[v,.pointer (some ⟨bt,0,none⟩)] w K:=by
 refine Tryz.acD ?_
 unfold Tryz.JB
 have hv0:=hv
 obtain ⟨p1,cap1,rfl,_⟩:=hv
 refine S.box fun b2 w1 S=>?_
 have S : StX noX w0 r w1 (.cell b2 (tyL t p1 cap1) 57 :: .cell bt (zM f) 208::M):=S
 refine S.ldB (b:=b2) ?_ rfl
 refine Y1 S.holds hv0 fun v7 w7 e7 o7=>?_
 obtain ⟨s1,p7,cap7,n7,nb7,rfl,_,hc7,hs7⟩:=adf o7
 have S:=(S.new e7 n7).tl
 have hr48 : (regsT t).length≤1000:=by
  rw [regsT];split
  ·have:=Y2 (by assumption);omega
  ·simp
 generalize regsT t=l at hx h hs7 hr48 ⊢
 refine zi (ι:=Nat × (Nat→Nat→Bool)) (fun i=>[.int .i64 (i.1 : Nat)]) (fun i w'=>i.1≤l.length∧(∀ x y : Nat,X7 i.2 (l.drop i.1) x y=X7 f l x y)∧StX noX w0 (r.or s1) w' (.cell bt (zM i.2) 208::M)) (fun i=>l.length - i.1) (0,f) rfl ⟨Nat.zero_le _,fun x y=>rfl,S⟩ ?_
 clear S
 rintro ⟨i,g⟩ d w2 ⟨hi,hbit,S⟩ K3 hK3
 simp only at hi hbit S ⊢
 rw [List.getD_cons_zero]
 refine gg_ ?_
 refine zf (fun hlt=>?_) (fun hge=>?_)
 rotate_left
 ·have hie : i=l.length:=by omega
  refine h _ ?_
  have e : zM g=zM (X7 f l):=yw fun x y _ _=>by
   have:=hbit x y
   rw [hie,List.drop_length] at this
   rw [← this]
   show g x y=(g x y||kH x y [])
   rw [kH,Bool.or_false]
  rw [← e]
  exact S.to r
 have hlt : i<l.length:=by omega
 have hdrop : l.drop i=l[i]::l.drop (i+1):=List.drop_eq_getElem_cons hlt
 obtain ⟨ha0,ha8⟩:=hx _ (List.getElem_mem hlt)
 obtain ⟨bq,oq,rfl,hxi⟩:=aeX hs7 (S.holds.le (h:=inferInstance)) hlt
 generalize hai : l[i]=a at hdrop ha0 ha8 hxi
 have hrl : (l.drop (i+1)).length=l.length - (i+1):=List.length_drop
 refine gg_ ?_
 refine zi (ι:=Nat) (fun j=>[.int .i64 ((i : Int)+1+(j : Nat))]) (fun j w'=>j≤(l.drop (i+1)).length∧StX noX w0 (r.or s1) w' (.cell bt (zM (ZD g a ((l.drop (i+1)).take j))) 208::M)) (fun j=>(l.drop (i+1)).length - j) 0 (by simp) ⟨Nat.zero_le _,by
  rw [yw (f:=ZD g a ((l.drop (i+1)).take 0)) (g:=g) (fun x y _ _=>by simp [ZD])]
  exact S⟩ ?_
 clear S
 rintro j d w3 ⟨hj,S⟩ K7 hK7
 rw [List.getD_cons_zero]
 refine gg_ ?_
 refine zf (fun hlt2=>?_) (fun hge2=>?_)
 ·have hlt2 : j<(l.drop (i+1)).length:=by omega
  have hlt3 : i+1+j<l.length:=by omega
  have hel : (l.drop (i+1))[j]=l[i+1+j]:=List.getElem_drop
  obtain ⟨bk,ok,hbe,hxk⟩:=aeX hs7 (S.holds.le (h:=inferInstance)) hlt3
  cases hbe
  obtain ⟨hi0,hi8⟩:=hx _ (List.getElem_mem hlt3)
  have S:=S.go (Ext.drew _)
  rw [show ((i : Int)+1+(j : Nat))=((i+1+j : Nat) : Int) by omega]
  refine gg_ ?_
  refine zr (by rw [Int.toNat_natCast];exact S.at hxk) ?_
  refine gg_ ?_
  refine zr (by simpa using S.at hxi) ?_
  refine gg_ ?_
  refine S.st (b:=bt) (fun w4 S=>?_) (by rw [jA];omega)
  refine gg_ ?_
  rw [show (((i+1+j : Nat) : Int)+1)=((i : Int)+1+((j+1 : Nat) : Int)) by omega]
  refine hK7 (j+1) _ ⟨hlt2,?_⟩ (by omega)
  rw [show 0+l[i+1+j].toNat*8+a.toNat*1=l[i+1+j].toNat*8+a.toNat by omega,X5 (by omega) (by omega)] at S
  rw [yw (f:=ZD g a ((l.drop (i+1)).take (j+1))) (g:=fun x y=>ZD g a ((l.drop (i+1)).take j) x y||(decide (x=l[i+1+j].toNat)&&decide (y=a.toNat))) (fun x y _ _=>by
   show (g x y||(decide (a=(y : Int))&&((l.drop (i+1)).take (j+1)).contains (x : Int)))=((g x y||(decide (a=(y : Int))&&((l.drop (i+1)).take j).contains (x : Int)))||(decide (x=l[i+1+j].toNat)&&decide (y=a.toNat)))
   rw [adE hlt2,hel,show decide ((x : Int)=l[i+1+j])=decide (x=l[i+1+j].toNat) from decide_eq_decide.2 (by omega),show decide (a=(y : Int))=decide (y=a.toNat) from decide_eq_decide.2 (by omega)]
   cases g x y<;>cases decide (y=a.toNat)<;>cases ((l.drop (i+1)).take j).contains (x : Int)<;>cases decide (x=l[i+1+j].toNat)<;>rfl)]
  exact S
 ·have hje : j=(l.drop (i+1)).length:=by omega
  rw [hje,List.take_length] at S
  refine gg_ ?_
  rw [show ((i : Int)+1)=((i+1 : Nat) : Int) by omega]
  refine hK3 (i+1,ZD g a (l.drop (i+1))) _ ⟨hlt,fun x y=>?_,S⟩ (by simp only;omega)
  rw [← hbit x y,hdrop]
  show ((g x y||(decide (a=(y : Int))&&(l.drop (i+1)).contains (x : Int)))||kH x y (l.drop (i+1)))=(g x y||kH x y (a::l.drop (i+1)))
  rw [abU,Bool.or_assoc]
end Go.Proofs
end
section
namespace Go.Proofs
open Go.Sh
set_option maxRecDepth 100000
set_option linter.unusedSimpArgs false
set_option linter.unusedVariables false
set_option maxHeartbeats 8000000 in
theorem adZ {u : UnD} {i : Nat} {v : Value} {w : World} {r : Gh} {K : Value→World→Prop} (hi : i<u.fs.length) (hok : (zu u.ss).2=0) (hr : Holds r w) (hu : UnG r v u)
  (h : ∀ w',Ext w w'→K (.bool (yM u i u.fs[i])) w') : zd Tryz.prog Tryz.Z9 #[v,.int .i64 (i : Nat)] w K:=by
 obtain ⟨p0,cap0,vf,rfl,_,_,hst,hsl,hfn⟩:=hu
 obtain ⟨qf,capf,rfl,_,_⟩:=hfn.sl.shape
 obtain ⟨bf,of,cf,rfl,hcf,hgc,hfo⟩:=hfn.sl.get (by decide) hi
 have hfl : u.fs.length≤9223372036854775807:=hfn.few
 refine Tryz.acC ?_
 unfold Tryz.JA
 generalize hgi : u.fs[i]=g at h hgc
 obtain ⟨vo,vt,vn,vp,rfl,h1,h2,h3,h4⟩:=id hgc
 obtain ⟨qo,capo,rfl,_,_⟩:=h1.sl.shape
 obtain ⟨qt,capt,rfl,_,hct⟩:=h2.sl.shape
 obtain ⟨qn,capn,rfl,_,_⟩:=h3.sl.shape
 obtain ⟨qp,capp,rfl,_,_⟩:=h4.sl.shape
 have hptl : g.pts.length≤9223372036854775807:=h4.few
 have htl : g.tys.length≤9223372036854775807:=h2.few
 have hol : g.outs.length≤9223372036854775807:=h1.few
 have S:=St.start hr
 refine S.box fun b2 w1 S=>?_
 have S : StX noX w r w1 [.cell b2 [.slice p0 u.ss.length cap0,.slice (some ⟨bf,of,none⟩) u.fs.length capf,.int .i64 u.mn] 25]:=S
 refine gg_ ?_
 refine zp (n:=7) hcf (fun j v hj=>by rw [Int.toNat_natCast];exact S.at (hfo j v hj)) ?_
 refine S.al fun b5 w2 S=>?_
 refine S.stB (b:=b5) fun w3 S=>?_
 have S : StX noX w r w3 [.cell b5 [.string g.name,.int .i64 g.lv,.slice qo g.outs.length capo,.int .i64 g.pn,.slice qt g.tys.length capt,.slice qn g.nms.length capn,.slice qp g.pts.length capp] 33,
  .cell b2 [.slice p0 u.ss.length cap0,.slice (some ⟨bf,of,none⟩) u.fs.length capf,.int .i64 u.mn] 25]:=S
 refine gg_ ?_
 have no : (HeadU u i g→False)→yM u i g=false:=fun hh=>by
  cases e : yM u i g
  ·rfl
  ·exact (hh (aaK e)).elim
 refine zh (c:=decide (8<g.lv)) (fun _ K2 hK2=>by refine gg_ ?_;exact hK2) ?_
 refine zh (c:=decide (g.pn<0)) (fun _ K2 hK2=>by refine gg_ ?_;exact hK2) ?_
 refine zh (c:=decide (8<g.pn)) (fun _ K2 hK2=>by refine gg_ ?_;exact hK2) ?_
 refine zh (c:=decide ((g.tys.length : Int)≤g.pn)) (fun _ K2 hK2=>by refine gg_ ?_;exact hK2) ?_
 refine zh (c:=decide (512<g.tys.length)) (fun _ K2 hK2=>?_) ?_
 ·refine gg_ ?_
  rw [show decide ((512 : Int)<(g.tys.length : Int))=decide (512<g.tys.length) from decide_eq_decide.2 (by omega)]
  exact hK2
 refine zh (c:=decide (g.nms.length≠g.tys.length)) (fun _ K2 hK2=>?_) ?_
 ·refine gg_ ?_
  rw [aaL]
  exact hK2
 refine c_b (fun hbad=>?_) (fun hgood=>?_)
 ·rw [no fun H=>by
   have:=H.lv0;have:=H.lv8;have:=H.pn0;have:=H.pn8;have:=H.pn1;have:=H.ty512;have:=H.nms
   simp only [Bool.or_eq_true,decide_eq_true_eq] at hbad;omega] at h
  exact h _ S.ext
 have hnum : (0≤g.lv∧g.lv≤8∧0≤g.pn∧g.pn≤8)∧g.pn<g.tys.length∧g.tys.length≤512∧g.nms.length=g.tys.length:=by
  simp only [Bool.or_eq_false_iff,decide_eq_false_iff_not] at hgood;omega
 clear hgood
 obtain ⟨⟨hlv0,hlv8,hpn0,hpn8⟩,hpn1,hty,hnm⟩:=hnum
 refine zi (ι:=Nat) (fun i=>[.int .i64 (i : Nat)]) (fun j w'=>j≤g.tys.length∧jd u g j (g.tys.drop j)=jd u g 0 g.tys∧StX noX w r w' [.cell b5 [.string g.name,.int .i64 g.lv,.slice qo g.outs.length capo,.int .i64 g.pn,.slice qt g.tys.length capt,.slice qn g.nms.length capn,.slice qp g.pts.length capp] 33,
  .cell b2 [.slice p0 u.ss.length cap0,.slice (some ⟨bf,of,none⟩) u.fs.length capf,.int .i64 u.mn] 25]) (fun i=>g.tys.length - i) 0 rfl ⟨Nat.zero_le _,rfl,S⟩ ?_
 clear S
 rintro j d w5 ⟨hj,hd,S⟩ K6 hK6
 rw [List.getD_cons_zero]
 refine gg_ ?_
 refine zf (fun hlt=>?_) (fun hge=>?_)
 ·have hlt : j<g.tys.length:=by omega
  obtain ⟨bt,ot,ct,rfl,hct,htc,hcell⟩:=h2.sl.get (by decide) hlt
  obtain ⟨q2,cap2,rfl,ht2⟩:=yX htc
  rw [ab0 hlt] at hd
  have S:=S.go (Ext.drew _)
  refine gg_ ?_
  refine zp (n:=5) hct (fun j v hj=>by rw [Int.toNat_natCast];exact S.at (hcell j v hj)) ?_
  refine gg_ ?_
  refine vv 48 (by decide) S.holds ht2 fun w8 e8=>?_
  have S:=S.go e8
  rw [adS]
  refine gp_ ?_
  have hmay : zX u.ss g.tys[j]=zx u.ss.length 48 g.tys[j]:=by rw [zX,decide_eq_true hok,Bool.true_and]
  rw [← hmay]
  refine c_b (fun hm=>?_) (fun hm=>?_)
  ·have hm : zX u.ss g.tys[j]=false:=by simpa using hm
   rw [no fun H=>by
    have:=H.tys
    rw [← hd,tyG,hm,Bool.false_and,Bool.false_and] at this;cases this] at h
   exact h _ S.ext
  have hm : zX u.ss g.tys[j]=true:=by simpa using hm
  refine gg_ ?_
  refine zp (n:=5) hct (fun j v hj=>by rw [Int.toNat_natCast];exact S.at (hcell j v hj)) ?_
  refine Y1 S.holds ht2 fun v7 w12 e12 o12=>?_
  obtain ⟨s7,p7,cap7,n7,nb7,rfl,_,_,hs7⟩:=adf o12
  have S:=S.new e12 n7
  have hlow : ∀ x ∈ regsT g.tys[j],-1≤x:=fun x hx=>by
   rw [regsT] at hx
   split at hx
   ·exact ago 48 (Yr hm).2 x hx
   ·cases hx
  have hr48 : (regsT g.tys[j]).length≤1000:=by
   rw [regsT];split
   ·have:=Y2 (by assumption);omega
   ·simp
  have hty2 : tyG u g j g.tys[j] = !((regsT g.tys[j]).any fun x=>decide (g.lv≤x)||(decide ((j : Int)≤g.pn)&&decide (x<0))):=by
   rw [aeu,hm,Bool.true_and]
   congr 1
   rw [Bool.eq_iff_iff,List.any_eq_true,List.any_eq_true]
   constructor<;>rintro ⟨x,hx,hc⟩<;>refine ⟨x,hx,?_⟩<;>have:=hlow x hx<;>simp only [Bool.or_eq_true,Bool.and_eq_true,decide_eq_true_eq] at hc ⊢
   ·rcases hc with hc|hc
    ·split at hc
     ·exact .inr ⟨by assumption,hc⟩
     ·omega
    ·exact .inl hc
   ·rcases hc with hc|⟨hc,hc2⟩
    ·exact .inr hc
    ·rw [if_pos hc];exact .inl hc2
  generalize regsT g.tys[j]=l at hs7 hr48 hty2 ⊢
  refine zi (ι:=Nat) (fun k=>[.int .i64 (k : Nat)]) (fun k w'=>k≤l.length∧((l.take k).any fun x=>decide (g.lv≤x)||(decide ((j : Int)≤g.pn)&&decide (x<0)))=false∧StX noX w (r.or s7) w' [.cell b5 [.string g.name,.int .i64 g.lv,.slice qo g.outs.length capo,.int .i64 g.pn,.slice (some ⟨bt,ot,none⟩) g.tys.length capt,.slice qn g.nms.length capn,.slice qp g.pts.length capp] 33,
   .cell b2 [.slice p0 u.ss.length cap0,.slice (some ⟨bf,of,none⟩) u.fs.length capf,.int .i64 u.mn] 25]) (fun k=>l.length - k) 0 rfl ⟨Nat.zero_le _,by simp,S⟩ ?_
  clear S
  rintro k d w13 ⟨hk,hany,S⟩ K7 hK7
  rw [List.getD_cons_zero]
  refine gg_ ?_
  refine zf (fun hlt2=>?_) (fun hge2=>?_)
  ·have hlt2 : k<l.length:=by omega
   obtain ⟨bk,ok,rfl,hxk⟩:=aeX hs7 (S.holds.le (h:=inferInstance)) hlt2
   have S:=S.go (Ext.drew _)
   refine gg_ ?_
   refine zr (by simpa using S.at hxk) ?_
   refine gg_ ?_
   refine vP (g:=decide ((j : Int)≤g.pn)) (c:=decide (l[k]<0)) (fun _ K2 hK2=>by refine gg_ ?_;exact hK2) (fun _ K2 hK2=>?_) ?_
   ·refine gg_ ?_
    refine zr (by simpa using S.at hxk) ?_
    refine gg_ ?_
    exact hK2
   refine c_b (fun hbad=>?_) (fun hgood=>?_)
   ·have hA : (l.any fun x=>decide (g.lv≤x)||(decide ((j : Int)≤g.pn)&&decide (x<0)))=true:=List.any_eq_true.2 ⟨_,List.getElem_mem hlt2,hbad⟩
    rw [hty2,hA,Bool.not_true,Bool.false_and] at hd
    rw [no fun H=>by have:=H.tys;rw [← hd] at this;cases this] at h
    exact h _ S.ext
   ·refine gg_ ?_
    rw [show ((k : Int)+1)=((k+1 : Nat) : Int) by omega]
    refine hK7 (k+1) _ ⟨hlt2,?_,S⟩ (by omega)
    rw [List.take_succ_eq_append_getElem hlt2,List.any_append,hany]
    simp only [List.any_cons,List.any_nil,Bool.false_or,Bool.or_false]
    exact hgood
  ·have hke : k=l.length:=by omega
   rw [hke,List.take_length] at hany
   rw [hty2,hany,Bool.not_false,Bool.true_and] at hd
   refine gg_ ?_
   rw [show ((j : Int)+1)=((j+1 : Nat) : Int) by omega]
   exact hK6 (j+1) _ ⟨hlt,hd,S.to r⟩ (by omega)
 have hje : j=g.tys.length:=by omega
 rw [hje,List.drop_length] at hd
 have htys : jd u g 0 g.tys=true:=hd.symm
 clear hd hK6 K6 hge hj hje
 refine S.al fun b9 w20 S=>?_
 refine S.al fun b10 w21 S=>?_
 have S : StX noX w r w21 [.cell b9 (zM fun _ _=>false) 208,.cell b10 (zM fun _ _=>false) 208,.cell b5 [.string g.name,.int .i64 g.lv,.slice qo g.outs.length capo,.int .i64 g.pn,.slice qt g.tys.length capt,.slice qn g.nms.length capn,.slice qp g.pts.length capp] 33,
  .cell b2 [.slice p0 u.ss.length cap0,.slice (some ⟨bf,of,none⟩) u.fs.length capf,.int .i64 u.mn] 25]:=S.swap
 refine zi (ι:=Nat) (fun i=>[.int .i64 (i : Nat)]) (fun j w'=>j≤g.pn.toNat+1∧StX noX w r w' [.cell b9 (zM (muF (g.tys.take j))) 208,.cell b10 (zM fun _ _=>false) 208,.cell b5 [.string g.name,.int .i64 g.lv,.slice qo g.outs.length capo,.int .i64 g.pn,.slice qt g.tys.length capt,.slice qn g.nms.length capn,.slice qp g.pts.length capp] 33,
  .cell b2 [.slice p0 u.ss.length cap0,.slice (some ⟨bf,of,none⟩) u.fs.length capf,.int .i64 u.mn] 25]) (fun i=>g.pn.toNat+1 - i) 0 rfl ⟨Nat.zero_le _,by
   rw [yw (f:=muF (g.tys.take 0)) (g:=fun _ _=>false) (fun x y _ _=>by simp [muF,jt])]
   exact S⟩ ?_
 clear S
 rintro j d w22 ⟨hj,S⟩ K6 hK6
 rw [List.getD_cons_zero]
 refine gg_ ?_
 refine zf (fun hlt=>?_) (fun hge=>?_)
 ·have hlt : j<g.tys.length:=by omega
  obtain ⟨bt,ot,ct,rfl,hct,htc,hcell⟩:=h2.sl.get (by decide) hlt
  obtain ⟨q2,cap2,rfl,ht2⟩:=yX htc
  refine gg_ ?_
  refine zp (n:=5) hct (fun j v hj=>by rw [Int.toNat_natCast];exact S.at (hcell j v hj)) ?_
  have hreg : ∀ x ∈ regsT g.tys[j],0≤x∧x<8:=fun x hx=>by
   have:=VS htys (j:=j) hlt (by omega) x hx
   omega
  refine adY ht2 hreg S fun w23 S=>?_
  refine gg_ ?_
  rw [show ((j : Int)+1)=((j+1 : Nat) : Int) by omega]
  refine hK6 (j+1) _ ⟨by omega,?_⟩ (by omega)
  rw [yw (f:=muF (g.tys.take (j+1))) (g:=X7 (muF (g.tys.take j)) (regsT g.tys[j])) (fun x y _ _=>abV hlt)]
  exact S
 have hje : j=g.pn.toNat+1:=by omega
 rw [hje] at S
 clear hK6 K6 hge hj hje
 have hout : qS g=true↔qd g.lv none g.outs=true∧(List.range g.lv.toNat).all (clF g.lv.toNat (muF (g.tys.take (g.pn.toNat+1))) (syF g.outs))=true:=by
  rw [qS,← abY,aet,Bool.and_eq_true]
 have nout : qS g=false→yM u i g=false:=fun e=>no fun H=>by have:=H.outs;rw [e] at this;cases this
 generalize hmu : muF (g.tys.take (g.pn.toNat+1))=mu at hout S
 refine zi (ι:=Nat) (fun i=>[.int .i64 (i : Nat)]) (fun i w'=>i≤g.outs.length∧qd g.lv (qw g.outs i) (g.outs.drop i)=qd g.lv none g.outs∧
  StX noX w r w' [.cell b9 (zM mu) 208,.cell b10 (zM (syF (g.outs.take i))) 208,.cell b5 [.string g.name,.int .i64 g.lv,.slice qo g.outs.length capo,.int .i64 g.pn,.slice qt g.tys.length capt,.slice qn g.nms.length capn,.slice qp g.pts.length capp] 33,
  .cell b2 [.slice p0 u.ss.length cap0,.slice (some ⟨bf,of,none⟩) u.fs.length capf,.int .i64 u.mn] 25]) (fun i=>g.outs.length - i) 0 rfl
  ⟨Nat.zero_le _,rfl,by
   rw [yw (f:=syF (g.outs.take 0)) (g:=fun _ _=>false) (fun x y _ _=>by simp [syF,qR])]
   exact S⟩ ?_
 clear S
 rintro k d w24 ⟨hk,hd,S⟩ K6 hK6
 rw [List.getD_cons_zero]
 refine gg_ ?_
 refine zf (fun hlt=>?_) (fun hge=>?_)
 ·have hlt : k<g.outs.length:=by omega
  obtain ⟨bo,oo,co,rfl,hco,hoo,hoc⟩:=h1.sl.get (by decide) hlt
  obtain rfl : co=_:=hoo
  rw [adG hlt] at hd
  have hgo:=fun (j : Nat) (hj : j<g.outs.length)=>h1.sl.get (by decide) hj
  obtain ⟨⟨o1,o2⟩,ho⟩ : ∃ o,g.outs[k]=o:=⟨_,rfl⟩
  rw [ho] at hd
  have hst : syF (g.outs.take (k+1))=fun x y=>syF (g.outs.take k) x y||(decide ((x : Int)=o1)&&decide ((y : Int)=o2)):=by
   funext x y
   show qR _ _ _=(qR _ _ _||_)
   rw [abW hlt,ho]
  have hno : qd g.lv none g.outs=false→∀ w',Ext w w'→K (.bool false) w':=fun e w' ew=>by
   have:=h w' ew
   rw [nout (by
    cases ho : qS g with
    |false=>rfl
    |true=>rw [(hout.1 ho).1] at e;cases e)] at this
   exact this
  refine gg_ ?_
  refine zp (n:=2) hco (fun j v hj=>by rw [Int.toNat_natCast];exact S.at (hoc j v hj)) ?_
  rw [ho]
  refine S.al fun b13 w25 S=>?_
  refine S.stB (b:=b13) fun w26 S=>?_
  refine gg_ ?_
  refine zh (c:=decide (g.lv≤o1)) (fun _ K2 hK2=>by refine gg_ ?_;exact hK2) ?_
  refine zh (c:=decide (o2<0)) (fun _ K2 hK2=>by refine gg_ ?_;exact hK2) ?_
  refine zh (c:=decide (g.lv≤o2)) (fun _ K2 hK2=>by refine gg_ ?_;exact hK2) ?_
  refine zh (c:=decide (o1=o2)) (fun _ K2 hK2=>by refine gg_ ?_;exact hK2) ?_
  have hio : ki g.lv (o1,o2) = !((((decide (o1<0)||decide (g.lv≤o1))||decide (o2<0))||decide (g.lv≤o2))||decide (o1=o2)):=by
   rw [ki]
   congr 1
   rw [Bool.eq_iff_iff]
   simp only [Bool.or_eq_true,decide_eq_true_eq]
   omega
  refine c_b (fun hbad=>?_) (fun hgood=>?_)
  ·rw [hio,hbad,Bool.not_true,Bool.false_and,Bool.false_and] at hd
   exact hno hd.symm _ S.ext
  rw [hio,hgood,Bool.not_false,Bool.true_and] at hd
  have hrg : (0≤o1∧o1<8)∧(0≤o2∧o2<8):=by
   simp only [Bool.or_eq_false_iff,decide_eq_false_iff_not] at hgood;omega
  clear hgood hio
  obtain ⟨⟨ho10,ho18⟩,ho20,ho28⟩:=hrg
  have S:=S.go (Ext.drew _)
  obtain ⟨⟨p1,p2⟩,hp⟩ : ∃ o,(g.outs[k - 1]?).getD (0,0)=o:=⟨_,rfl⟩
  have hpv : 0<k→∃ (hl : k - 1<g.outs.length),g.outs[k - 1]=(p1,p2):=fun hpos=>by
   have hl : k - 1<g.outs.length:=by omega
   rw [List.getElem?_eq_getElem hl] at hp
   exact ⟨hl,hp⟩
  have hprev : 0<k→∀ j v,[Value.int .i64 p1,.int .i64 p2][j]? = some v→Ob r fun w=>w.cell? ⟨bo,oo+(k - 1)*2+j,none⟩=some v:=fun hpos j v hj=>by
   obtain ⟨hl,he⟩:=hpv hpos
   obtain ⟨bo2,oo2,co2,hbe,hco2,hoo2,hoc2⟩:=h1.sl.get (by decide) hl
   obtain rfl : co2=_:=hoo2
   cases hbe
   rw [he] at hoc2
   exact hoc2 j v hj
  refine gg_ ?_
  refine agM (x:=decide (o1<p1)) (y:=decide (p1=o1)) (z:=decide (o2≤p2)) (fun hb K2 hK2=>?_) (fun hb K2 hK2=>?_) (fun hb K2 hK2=>?_) ?_
  ·have hpos : 0<k:=by simp only [decide_eq_true_eq] at hb;omega
   refine gg_ ?_
   refine zr (v:=.int .i64 p1) (by rw [show ((k : Int) - 1).toNat=k - 1 by omega];simpa using S.at (hprev hpos 0 _ rfl)) ?_
   refine gg_ ?_
   exact hK2
  ·have hpos : 0<k:=by simp only [decide_eq_true_eq] at hb;omega
   refine gg_ ?_
   refine zr (v:=.int .i64 p1) (by rw [show ((k : Int) - 1).toNat=k - 1 by omega];simpa using S.at (hprev hpos 0 _ rfl)) ?_
   refine gg_ ?_
   exact hK2
  ·have hpos : 0<k:=by simp only [decide_eq_true_eq] at hb;omega
   refine gg_ ?_
   refine zr (v:=.int .i64 p2) (by rw [show ((k : Int) - 1).toNat=k - 1 by omega];exact S.at (hprev hpos 1 _ rfl)) ?_
   refine gg_ ?_
   exact hK2
  rw [afH (o:=(o1,o2)) (w:=(p1,p2))]
  have haft : aeV (qw g.outs k) (o1,o2) = !(decide ((k : Int) > 0) && !ve (p1,p2) (o1,o2)):=by
   by_cases hpos : 0<k
   ·obtain ⟨hl,he⟩:=hpv hpos
    rw [qw,if_neg (by omega),List.getElem?_eq_getElem hl,he,decide_eq_true (show (k : Int) > 0 by omega),Bool.true_and,Bool.not_not];rfl
   ·rw [qw,if_pos (by omega),decide_eq_false (show ¬ (k : Int) > 0 by omega)];rfl
  refine c_b (fun hb=>?_) (fun hb=>?_)
  ·rw [haft,hb,Bool.not_true,Bool.false_and] at hd
   exact hno hd.symm _ S.ext
  rw [haft,hb,Bool.not_false,Bool.true_and] at hd
  have S:=S.go (Ext.drew _)
  refine gg_ ?_
  refine S.st (b:=b10) (fun w27 S=>?_) (by rw [jA];omega)
  refine gg_ ?_
  rw [show ((k : Int)+1)=((k+1 : Nat) : Int) by omega]
  refine hK6 (k+1) _ ⟨hlt,hd,?_⟩ (by omega)
  rw [show 0+o1.toNat*8+o2.toNat*1=o1.toNat*8+o2.toNat by omega,X5 (by omega) (by omega)] at S
  rw [hst,yw (f:=fun x y=>syF (g.outs.take k) x y||(decide ((x : Int)=o1)&&decide ((y : Int)=o2))) (g:=fun x y=>syF (g.outs.take k) x y||(decide (x=o1.toNat)&&decide (y=o2.toNat))) (fun x y _ _=>by
   show (syF (g.outs.take k) x y||(decide ((x : Int)=o1)&&decide ((y : Int)=o2)))=(syF (g.outs.take k) x y||(decide (x=o1.toNat)&&decide (y=o2.toNat)))
   rw [show decide ((x : Int)=o1)=decide (x=o1.toNat) from decide_eq_decide.2 (by omega),show decide ((y : Int)=o2)=decide (y=o2.toNat) from decide_eq_decide.2 (by omega)])]
  exact S.drop b13
 have hke : k=g.outs.length:=by omega
 rw [hke,List.take_length] at S
 rw [hke,List.drop_length] at hd
 have hoR : qd g.lv none g.outs=true:=by rw [← hd];rfl
 clear hd hK6 K6 hge hk hke
 generalize hsy : syF g.outs=sy at hout S
 obtain ⟨n,hn⟩ : ∃ n : Nat,g.lv.toNat=n:=⟨_,rfl⟩
 have hn8 : n≤8:=by omega
 have hlvn : g.lv=(n : Int):=by omega
 rw [hn] at hout
 have hno : (List.range n).all (clF n mu sy)=false→∀ w',Ext w w'→K (.bool false) w':=fun e w' ew=>by
  have:=h w' ew
  rw [nout (by
   cases ho : qS g with
   |false=>rfl
   |true=>rw [(hout.1 ho).2] at e;cases e)] at this
  exact this
 refine zi (ι:=Nat) (fun i=>[.int .i64 (i : Nat)]) (fun i w'=>i≤n∧((List.range n).drop i).all (clF n mu sy)=(List.range n).all (clF n mu sy)∧
  StX noX w r w' [.cell b9 (zM mu) 208,.cell b10 (zM sy) 208,.cell b5 [.string g.name,.int .i64 g.lv,.slice qo g.outs.length capo,.int .i64 g.pn,.slice qt g.tys.length capt,.slice qn g.nms.length capn,.slice qp g.pts.length capp] 33,
  .cell b2 [.slice p0 u.ss.length cap0,.slice (some ⟨bf,of,none⟩) u.fs.length capf,.int .i64 u.mn] 25]) (fun i=>n - i) 0 rfl ⟨Nat.zero_le _,rfl,S⟩ ?_
 clear S
 rintro a d2 w30 ⟨ha,hda,S⟩ K7 hK7
 rw [List.getD_cons_zero]
 refine gg_ ?_
 rw [hlvn]
 refine zf (fun hlta=>?_) (fun hgea=>?_)
 ·have hlta : a<n:=by omega
  rw [jL hlta] at hda
  refine zi (ι:=Nat) (fun i=>[.int .i64 (i : Nat)]) (fun i w'=>i≤n∧((List.range n).drop i).all (clG n mu sy a)=(List.range n).all (clG n mu sy a)∧
   StX noX w r w' [.cell b9 (zM mu) 208,.cell b10 (zM sy) 208,.cell b5 [.string g.name,.int .i64 g.lv,.slice qo g.outs.length capo,.int .i64 g.pn,.slice qt g.tys.length capt,.slice qn g.nms.length capn,.slice qp g.pts.length capp] 33,
   .cell b2 [.slice p0 u.ss.length cap0,.slice (some ⟨bf,of,none⟩) u.fs.length capf,.int .i64 u.mn] 25]) (fun i=>n - i) 0 rfl ⟨Nat.zero_le _,rfl,S⟩ ?_
  clear S
  rintro b d3 w31 ⟨hb,hdb,S⟩ K8 hK8
  rw [List.getD_cons_zero]
  refine gg_ ?_
  rw [hlvn]
  refine zf (fun hltb=>?_) (fun hgeb=>?_)
  rotate_left
  ·have hbe : b=n:=by omega
   rw [hbe,jM] at hdb
   have hF : clF n mu sy a=true:=hdb.symm
   rw [hF,Bool.true_and] at hda
   refine gg_ ?_
   rw [show ((a : Int)+1)=((a+1 : Nat) : Int) by omega]
   exact hK7 (a+1) _ ⟨hlta,hda,S⟩ (by omega)
  have hltb : b<n:=by omega
  rw [jL hltb] at hdb
  have hfalse : clG n mu sy a b=false→(List.range n).all (clF n mu sy)=false:=fun e=>by
   rw [e,Bool.false_and] at hdb
   have hF : clF n mu sy a=false:=hdb.symm
   rw [hF,Bool.false_and] at hda
   exact hda.symm
  refine gg_ ?_
  refine zg (c:=mu a b) (fun _ K2 hK2=>?_) ?_
  ·refine gg_ ?_
   refine S.ld (b:=b9) ?_ (jg (f:=mu) (by omega) (by omega))
   exact hK2
  refine zg (c:=!sy a b) (fun _ K2 hK2=>?_) ?_
  ·refine gg_ ?_
   refine S.ld (b:=b10) ?_ (jg (f:=sy) (by omega) (by omega))
   refine gg_ ?_
   exact hK2
  have hG : clG n mu sy a b=((List.range n).all (clH sy a b) && !((decide ((a : Int)≠(b : Int))&&mu a b) && !sy a b)):=by
   rw [clG,Bool.and_assoc,show decide ((a : Int)≠(b : Int)) = !decide (a=b) from by rw [← decide_not];exact decide_eq_decide.2 (by omega)]
  refine c_b (fun hbad=>?_) (fun hgood=>?_)
  ·exact hno (hfalse (by rw [hG,hbad,Bool.not_true,Bool.and_false])) _ S.ext
  rw [hgood,Bool.not_false,Bool.and_true] at hG
  refine zi (ι:=Nat) (fun i=>[.int .i64 (i : Nat)]) (fun i w'=>i≤n∧((List.range n).drop i).all (clH sy a b)=(List.range n).all (clH sy a b)∧
   StX noX w r w' [.cell b9 (zM mu) 208,.cell b10 (zM sy) 208,.cell b5 [.string g.name,.int .i64 g.lv,.slice qo g.outs.length capo,.int .i64 g.pn,.slice qt g.tys.length capt,.slice qn g.nms.length capn,.slice qp g.pts.length capp] 33,
   .cell b2 [.slice p0 u.ss.length cap0,.slice (some ⟨bf,of,none⟩) u.fs.length capf,.int .i64 u.mn] 25]) (fun i=>n - i) 0 rfl ⟨Nat.zero_le _,rfl,S⟩ ?_
  clear S
  rintro cc d4 w32 ⟨hc,hdc,S⟩ K9 hK9
  rw [List.getD_cons_zero]
  refine gg_ ?_
  rw [hlvn]
  refine zf (fun hltc=>?_) (fun hgec=>?_)
  ·have hltc : cc<n:=by omega
   rw [jL hltc] at hdc
   refine gg_ ?_
   refine zg (c:=sy a b) (fun _ K2 hK2=>?_) ?_
   ·refine gg_ ?_
    refine S.ld (b:=b10) ?_ (jg (f:=sy) (by omega) (by omega))
    exact hK2
   refine zg (c:=sy b cc) (fun _ K2 hK2=>?_) ?_
   ·refine gg_ ?_
    refine S.ld (b:=b10) ?_ (jg (f:=sy) (by omega) (by omega))
    exact hK2
   refine zg (c:=!sy a cc) (fun _ K2 hK2=>?_) ?_
   ·refine gg_ ?_
    refine S.ld (b:=b10) ?_ (jg (f:=sy) (by omega) (by omega))
    refine gg_ ?_
    exact hK2
   have hH : clH sy a b cc = !(((decide ((a : Int)≠(cc : Int))&&sy a b)&&sy b cc) && !sy a cc):=by
    rw [clH,show decide ((a : Int)≠(cc : Int)) = !decide (a=cc) from by rw [← decide_not];exact decide_eq_decide.2 (by omega)]
    congr 1
    ac_rfl
   refine c_b (fun hbad=>?_) (fun hgood2=>?_)
   ·rw [hH,hbad,Bool.not_true,Bool.false_and] at hdc
    exact hno (hfalse (by rw [hG,← hdc])) _ S.ext
   ·rw [hH,hgood2,Bool.not_false,Bool.true_and] at hdc
    refine gg_ ?_
    rw [show ((cc : Int)+1)=((cc+1 : Nat) : Int) by omega]
    exact hK9 (cc+1) _ ⟨hltc,hdc,S⟩ (by omega)
  have hce : cc=n:=by omega
  rw [hce,jM] at hdc
  rw [hG,← hdc,Bool.true_and] at hdb
  refine gg_ ?_
  rw [show ((b : Int)+1)=((b+1 : Nat) : Int) by omega]
  exact hK8 (b+1) _ ⟨hltb,hdb,S⟩ (by omega)
 have hae : a=n:=by omega
 rw [hae,jM] at hda
 have hog : qS g=true:=hout.2 ⟨hoR,hda.symm⟩
 clear hda hK7 K7 hgea hae ha hno nout
 refine zi (ι:=Nat) (fun i=>[.int .i64 (ym (g.pts.take i) : Nat),.int .i64 (i : Nat)]) (fun i w'=>i≤g.pts.length∧i≤1025∧StX noX w r w' [.cell b9 (zM mu) 208,.cell b10 (zM sy) 208,.cell b5 [.string g.name,.int .i64 g.lv,.slice qo g.outs.length capo,.int .i64 g.pn,.slice qt g.tys.length capt,.slice qn g.nms.length capn,.slice qp g.pts.length capp] 33,
  .cell b2 [.slice p0 u.ss.length cap0,.slice (some ⟨bf,of,none⟩) u.fs.length capf,.int .i64 u.mn] 25]) (fun i=>g.pts.length - i) 0 rfl ⟨Nat.zero_le _,Nat.zero_le _,S⟩ ?_
 clear S
 rintro k d5 w33 ⟨hk,hk2,S⟩ K5 hK5
 simp only [List.getD_cons_zero,List.getD_cons_succ]
 have hlk : ym (g.pts.take k)≤k:=by
  have:=List.countP_le_length (p:=fun p : PtD=>decide (p.op=4)) (l:=g.pts.take k)
  rw [List.length_take] at this
  show List.countP _ _≤k
  omega
 refine gg_ ?_
 refine zg (c:=decide (k≤1024)) (fun _ K2 hK2=>?_) ?_
 ·refine gg_ ?_
  rw [show decide ((k : Int)≤1024)=decide (k≤1024) from decide_eq_decide.2 (by omega)]
  exact hK2
 refine c_b (fun hgo=>?_) (fun hstop=>?_)
 ·simp only [Bool.and_eq_true,decide_eq_true_eq] at hgo
  have hlt : k<g.pts.length:=by omega
  have hlt':=X6 hlt
  obtain ⟨bp,op,cp,rfl,hcp,hpc,hpo⟩:=h4.sl.get (by decide) hlt
  obtain ⟨x1,x2,x3,x4,x5,y1,y2,y3,y4,y5,rfl,_⟩:=yY hpc
  have lop : Ob r fun w=>w.cell? ⟨bp,op+k*21,none⟩=some (.int .u8 g.pts[k].op):=by simpa using hpo 0 _ rfl
  refine zs (fun s w'=>s = [.int .i64 (ym (g.pts.take (k+1)) : Nat)]∧w'=w33) (fun K9 hK9=>?_) ?_
  rotate_left
  ·rintro _ _ ⟨rfl,rfl⟩ d6
   rw [List.getD_cons_zero]
   refine gg_ ?_
   rw [show ((k : Int)+1)=((k+1 : Nat) : Int) by omega]
   exact hK5 (k+1) _ ⟨hlt,by omega,S⟩ (by omega)
  refine gg_ ?_
  refine zr (by simpa using S.at lop) ?_
  refine gg_ ?_
  refine zf (fun h4'=>?_) (fun h4'=>?_)
  ·refine gg_ ?_
   refine hK9 _ _ ⟨?_,rfl⟩
   rw [hlt',if_pos h4'];rfl
  ·refine hK9 _ _ ⟨?_,rfl⟩
   rw [hlt',if_neg h4',Nat.add_zero]
 refine gg_ ?_
 refine zh (c:=decide (1024<g.pts.length)) (fun _ K2 hK2=>?_) ?_
 ·refine gg_ ?_
  rw [show decide ((1024 : Int)<(g.pts.length : Int))=decide (1024<g.pts.length) from decide_eq_decide.2 (by omega)]
  exact hK2
 refine zh (c:=decide (256<ym (g.pts.take k))) (fun _ K2 hK2=>?_) ?_
 ·refine gg_ ?_
  rw [show decide ((256 : Int)<(ym (g.pts.take k) : Int))=decide (256<ym (g.pts.take k)) from decide_eq_decide.2 (by omega)]
  exact hK2
 have hend : g.pts.length≤1024→g.pts.take k=g.pts:=fun hle=>by
  refine List.take_of_length_le ?_
  rw [Bool.and_eq_false_iff,decide_eq_false_iff_not,decide_eq_false_iff_not] at hstop
  omega
 refine c_b (fun hbad=>?_) (fun hgood=>?_)
 ·rw [no fun H=>by
   have h1:=H.pt1
   have h2:=H.pt1024
   have h3:=H.loans
   rw [hend h2] at hbad
   simp only [Bool.or_eq_true,decide_eq_true_eq] at hbad
   omega] at h
  exact h _ S.ext
 simp only [Bool.or_eq_false_iff,decide_eq_false_iff_not] at hgood
 rw [hend (by omega)] at hgood
 have hpos : 0<g.tys.length:=by omega
 have hhd : g.tys.headD yd=g.tys[0]:=by rw [List.headD_eq_head?_getD,List.head?_eq_getElem?,List.getElem?_eq_getElem hpos,Option.getD_some]
 obtain ⟨bt,ot,ct,rfl,hct2,htc,hcell⟩:=h2.sl.get (by decide) hpos
 obtain ⟨q2,cap2,rfl,ht2⟩:=yX htc
 have lk : Ob r fun w=>w.cell? ⟨bt,ot,none⟩=some (.int .u8 g.tys[0].k):=by simpa using hcell 0 _ rfl
 refine gg_ ?_
 refine ah7 (c:=decide (g.lv=0)) (d:=decide (g.pn=0)) (e:=isK g.tys[0] 1) (fun K2 hK2=>by refine gg_ ?_;exact hK2) (fun K2 hK2=>by refine gg_ ?_;exact hK2) (fun K2 hK2=>?_) ?_
 ·refine gg_ ?_
  refine zr (by simpa using S.at lk) ?_
  refine gg_ ?_
  exact hK2
 have hE : yM u i g=(decide ((i : Int)≠u.mn)||((decide (g.lv=0)&&decide (g.pn=0))&&isK g.tys[0] 1)):=by
  rw [yM,decide_eq_true hlv0,decide_eq_true hlv8,decide_eq_true hpn0,decide_eq_true hpn8,decide_eq_true hpn1,decide_eq_true hty,decide_eq_true hnm,htys,hog,decide_eq_true (show 1≤g.pts.length by omega),decide_eq_true (show g.pts.length≤1024 by omega),decide_eq_true (show ym g.pts≤256 by omega),hhd,decide_not]
  simp
 rw [hE] at h
 exact h _ S.ext
end Go.Proofs
end
section
namespace Go.Proofs
open Go.Sh
set_option maxRecDepth 100000
set_option linter.unusedSimpArgs false
set_option linter.unusedVariables false
set_option maxHeartbeats 2000000 in
theorem acL {u : UnD} {v : Value} {w : World} {r : Gh} {K : Value→World→Prop} (hr : Holds r w) (hu : UnG r v u)
  (h : ∀ (a b e : Int) w',Ext w w'→(e=0↔MayU u)→K (.tuple #[.int .i64 a,.int .i64 b,.int .i64 e]) w') : zd Tryz.prog Tryz.Zu #[v] w K:=by
 refine Tryz.abz ?_
 unfold Tryz.Qy
 have hu0:=hu
 obtain ⟨p0,cap0,vf,rfl,_,_,hst,hsl,hfn⟩:=hu
 obtain ⟨qf,capf,rfl,_,_⟩:=hfn.sl.shape
 have hfl : u.fs.length≤9223372036854775807:=hfn.few
 have S:=St.start hr
 refine S.box fun b1 w1 S=>?_
 have S : StX noX w r w1 [.cell b1 [.slice p0 u.ss.length cap0,.slice qf u.fs.length capf,.int .i64 u.mn] 25]:=S
 have bad : ∀ {a b : Int} {w' : World},¬ MayU u→Ext w w'→K (.tuple #[.int .i64 a,.int .i64 b,.int .i64 100]) w':=fun hn e=>h _ _ _ _ e ⟨fun h=>absurd h (by decide),fun hM=>absurd hM hn⟩
 refine gg_ ?_
 refine Xb S.holds hst fun w2 e2=>?_
 have S:=S.go e2
 refine gg_ ?_
 refine zh (c:=decide (u.fs.length<1)) (fun _ K2 hK2=>?_) ?_
 ·refine gg_ ?_
  rw [show decide ((u.fs.length : Int)<1)=decide (u.fs.length<1) from decide_eq_decide.2 (by omega)]
  exact hK2
 refine zh (c:=decide (32<u.fs.length)) (fun _ K2 hK2=>?_) ?_
 ·refine gg_ ?_
  rw [show decide ((32 : Int)<(u.fs.length : Int))=decide (32<u.fs.length) from decide_eq_decide.2 (by omega)]
  exact hK2
 refine zh (c:=decide (u.mn<0)) (fun _ K2 hK2=>by refine gg_ ?_;exact hK2) ?_
 refine zh (c:=decide ((u.fs.length : Int)≤u.mn)) (fun _ K2 hK2=>by refine gg_ ?_;exact hK2) ?_
 refine c_b (fun hbad=>?_) (fun hgood=>?_)
 ·refine bad (fun hM=>?_) S.ext
  have h1:=hM.ok;have h2:=hM.fs1;have h3:=hM.fs32;have h4:=hM.mn0;have h5:=hM.mn1
  rw [decide_eq_true h1] at hbad
  simp only [Bool.or_eq_true,decide_eq_true_eq,Bool.not_true,Bool.false_eq_true,false_or] at hbad
  omega
 simp only [Bool.or_eq_false_iff,decide_eq_false_iff_not,Bool.not_eq_false',decide_eq_true_eq] at hgood
 obtain ⟨⟨⟨⟨hok,hf1⟩,hf32⟩,hm0⟩,hm1⟩:=hgood
 refine zi (ι:=Nat) (fun i=>[.int .i64 (i : Nat)]) (fun i w'=>i≤u.fs.length∧(∀ (j : Nat) (hj : j<u.fs.length),j<i→yM u j u.fs[j]=true)∧StX noX w r w' [.cell b1 [.slice p0 u.ss.length cap0,.slice qf u.fs.length capf,.int .i64 u.mn] 25]) (fun i=>u.fs.length - i) 0 rfl ⟨Nat.zero_le _,fun j _ hj=>absurd hj (Nat.not_lt_zero _),S⟩ ?_
 clear S
 rintro i d w3 ⟨hi,hall,S⟩ K1 hK1
 rw [List.getD_cons_zero]
 refine gg_ ?_
 refine zf (fun hlt=>?_) (fun hge=>?_)
 ·have hlt : i<u.fs.length:=by omega
  refine S.ldB (b:=b1) ?_ rfl
  refine adZ hlt hok S.holds hu0 fun w4 e4=>?_
  have S:=S.go e4
  refine gp_ ?_
  refine c_b (fun hb=>?_) (fun hb=>?_)
  ·refine bad (fun hM=>?_) S.ext
   rw [hM.head i hlt] at hb;cases hb
  ·refine gg_ ?_
   rw [show ((i : Int)+1)=((i+1 : Nat) : Int) by omega]
   refine hK1 (i+1) _ ⟨hlt,fun j hj hji=>?_,S⟩ (by omega)
   by_cases e : j=i
   ·subst e;simpa using hb
   ·exact hall j hj (by omega)
 have hheads : ∀ (j : Nat) (hj : j<u.fs.length),yM u j u.fs[j]=true:=fun j hj=>hall j hj (by omega)
 clear hall hK1 K1 hge hi
 have hfine : ∀ f ∈ u.fs,xE u.ss f.tys∧(0≤f.pn∧f.pn<f.tys.length∧xE u.ss f.tys):=fun f hf=>by
  obtain ⟨j,hj,rfl⟩:=List.getElem_of_mem hf
  have H:=aaK (hheads j hj)
  exact ⟨H.fine hok,H.pn0,H.pn1,H.fine hok⟩
 refine zi (ι:=Nat) (fun i=>[.int .i64 (i : Nat)]) (fun i w'=>i≤u.fs.length∧(∀ (j : Nat) (hj : j<u.fs.length),j<i→∀ p ∈ u.fs[j].pts,zZ u u.fs[j] p=true)∧StX noX w r w' [.cell b1 [.slice p0 u.ss.length cap0,.slice qf u.fs.length capf,.int .i64 u.mn] 25]) (fun i=>u.fs.length - i) 0 rfl ⟨Nat.zero_le _,fun j _ hj=>absurd hj (Nat.not_lt_zero _),S⟩ ?_
 clear S
 rintro i d w5 ⟨hi,hall,S⟩ K2 hK2
 rw [List.getD_cons_zero]
 refine gg_ ?_
 refine zf (fun hlt=>?_) (fun hge=>?_)
 rotate_left
 ·exact h 0 0 0 _ S.ext ⟨fun _=>⟨hok,by omega,by omega,by omega,by omega,hheads,fun g hg p hp=>by
   obtain ⟨j,hj,rfl⟩:=List.getElem_of_mem hg
   exact hall j hj (by omega) p hp⟩,fun _=>rfl⟩
 have hlt : i<u.fs.length:=by omega
 obtain ⟨bf,of,cf,rfl,hcf,hgc,hfo⟩:=hfn.sl.get (by decide) hlt
 have hgm:=List.getElem_mem hlt
 generalize hgi : u.fs[i]=g at hgc hgm
 obtain ⟨vo,vt,vn,vp,rfl,h1,h2,h3,h4⟩:=id hgc
 obtain ⟨qo,capo,rfl,_,_⟩:=h1.sl.shape
 obtain ⟨qt,capt,rfl,_,hct⟩:=h2.sl.shape
 obtain ⟨qn,capn,rfl,_,_⟩:=h3.sl.shape
 obtain ⟨qp,capp,rfl,_,_⟩:=h4.sl.shape
 have hptl : g.pts.length≤9223372036854775807:=h4.few
 have lpts : Ob r fun w=>w.cell? ⟨bf,of+i*7+6,none⟩=some (.slice qp g.pts.length capp):=hfo 6 _ rfl
 have S:=S.go (Ext.drew _)
 refine S.ldB (b:=b1) ?_ rfl
 refine gg_ ?_
 refine zp (n:=7) hcf (fun j v hj=>by rw [Int.toNat_natCast];exact S.at (hfo j v hj)) ?_
 refine zz (cs:=#[.slice p0 u.ss.length cap0,.slice (some ⟨bf,of,none⟩) u.fs.length capf,.int .i64 u.mn,.string g.name,.int .i64 g.lv,.slice qo g.outs.length capo,.int .i64 g.pn,.slice qt g.tys.length capt,.slice qn g.nms.length capn,.slice qp g.pts.length capp]) (by kernel_rfl) ?_
 refine S.box fun bx w6 S=>?_
 have S : StX noX w r w6 [.cell bx (asL u g p0 cap0 (some ⟨bf,of,none⟩) capf qo capo qt capt qn capn qp capp) 130,.cell b1 [.slice p0 u.ss.length cap0,.slice (some ⟨bf,of,none⟩) u.fs.length capf,.int .i64 u.mn] 25]:=S
 have S:=S.frz
 have hx : AsP (r.or (one bx (asL u g p0 cap0 (some ⟨bf,of,none⟩) capf qo capo qt capt qn capn qp capp) 130)) bx u g:=⟨p0,cap0,some ⟨bf,of,none⟩,capf,qo,capo,qt,capt,qn,capn,qp,capp,(yF (b:=bx)).up,hu0.up,GrG.up hgc⟩
 refine zi (ι:=Nat) (fun i=>[.int .i64 (i : Nat)]) (fun q w'=>q≤g.pts.length∧(∀ (j : Nat) (hj : j<g.pts.length),j<q→zZ u g g.pts[j]=true)∧StX noX w (r.or (one bx (asL u g p0 cap0 (some ⟨bf,of,none⟩) capf qo capo qt capt qn capn qp capp) 130)) w' [.cell b1 [.slice p0 u.ss.length cap0,.slice (some ⟨bf,of,none⟩) u.fs.length capf,.int .i64 u.mn] 25]) (fun i=>g.pts.length - i) 0 rfl ⟨Nat.zero_le _,fun j _ hj=>absurd hj (Nat.not_lt_zero _),S⟩ ?_
 clear S
 rintro q d w7 ⟨hq,hpts,S⟩ K9 hK9
 rw [List.getD_cons_zero]
 refine gg_ ?_
 refine zr (by rw [Int.toNat_natCast];exact S.at lpts) ?_
 refine gg_ ?_
 refine zf (fun hlt2=>?_) (fun hge2=>?_)
 ·have hlt2 : q<g.pts.length:=by omega
  obtain ⟨bp,op,cp,rfl,hcp,hpc,hpo⟩:=h4.sl.get (by decide) hlt2
  refine gg_ ?_
  refine zr (by rw [Int.toNat_natCast];exact S.at lpts) ?_
  refine gg_ ?_
  refine zp (n:=21) hcp (fun j v hj=>by rw [Int.toNat_natCast];exact S.at (hpo j v hj)) ?_
  refine acK S.holds hx hok (hfine g hgm).1 (fun f hf=>(hfine f hf).2) hpc.up fun w8 e8=>?_
  have S:=S.go e8
  refine gp_ ?_
  refine c_b (fun hb=>?_) (fun hb=>?_)
  ·refine bad (fun hM=>?_) S.ext
   rw [hM.pts g hgm _ (List.getElem_mem hlt2)] at hb;cases hb
  ·refine gg_ ?_
   rw [show ((q : Int)+1)=((q+1 : Nat) : Int) by omega]
   refine hK9 (q+1) _ ⟨hlt2,fun j hj hjq=>?_,S⟩ (by omega)
   by_cases e : j=q
   ·subst e;simpa using hb
   ·exact hpts j hj (by omega)
 ·refine gg_ ?_
  rw [show ((i : Int)+1)=((i+1 : Nat) : Int) by omega]
  refine hK2 (i+1) _ ⟨hlt,fun j hj hji p hp=>?_,S.to r⟩ (by omega)
  by_cases e : j=i
  ·subst e
   rw [hgi] at hp ⊢
   obtain ⟨k,hk,rfl⟩:=List.getElem_of_mem hp
   exact hpts k hk (by omega)
  ·exact hall j hj (by omega) p hp
theorem aek {u : UnD} {v : Value} {w : World} {r : Gh} {K : Value→World→Prop} (hr : Holds r w) (hu : UnG r v u)
  (h : ∀ w',Ext w w'→K (.bool (kq u)) w') : zd Tryz.prog Tryz.Xc #[v] w K:=by
 refine Tryz.adR ?_
 unfold Tryz.Vu
 have hu0:=hu
 obtain ⟨p0,cap0,vf,rfl,_,_,hst,hsl,hfn⟩:=hu
 have S:=St.start hr
 refine S.box fun b1 w1 S=>?_
 have S : StX noX w r w1 [.cell b1 [.slice p0 u.ss.length cap0,vf,.int .i64 u.mn] 25]:=S
 refine S.ldB (b:=b1) ?_ rfl
 refine acL S.holds hu0 fun a b e w2 e2 he=>?_
 have S:=S.go e2
 refine gg_ ?_
 have hm : decide (e=0)=kq u:=by
  rw [Bool.eq_iff_iff,decide_eq_true_eq,he]
  exact kJ.symm
 rw [hm]
 exact h _ S.ext
theorem ae6 {u : UnD} {fn q : Int} {v : Value} {w : World} {r : Gh} {K : Value→World→Prop} (hr : Holds r w) (hu : UnG r v u)
  (h : ∀ w',Ext w w'→K (.bool (isU u fn q)) w') : zd Tryz.prog Tryz.XW #[v,.int .i64 fn,.int .i64 q] w K:=by
 refine Tryz.aei ?_
 unfold Tryz.aaU
 have hu0:=hu
 obtain ⟨p0,cap0,vf,rfl,_,_,hst,hsl,hfn⟩:=hu
 obtain ⟨qf,capf,rfl,_,_⟩:=hfn.sl.shape
 have hfl : u.fs.length≤9223372036854775807:=hfn.few
 have S:=St.start hr
 refine S.box fun b1 w1 S=>?_
 have S : StX noX w r w1 [.cell b1 [.slice p0 u.ss.length cap0,.slice qf u.fs.length capf,.int .i64 u.mn] 25]:=S
 refine S.ldB (b:=b1) ?_ rfl
 refine aek S.holds hu0 fun w2 e2=>?_
 have S:=S.go e2
 refine zg (c:=decide (0≤fn)) (fun _ K2 hK2=>by refine gg_ ?_;exact hK2) ?_
 refine zg (c:=decide (fn<(u.fs.length : Int))) (fun _ K2 hK2=>by refine gg_ ?_;exact hK2) ?_
 refine zg (c:=decide (q<((u.fs[fn.toNat]?.map fun g=>(g.pts.length : Int)).getD 0))) (fun hb K2 hK2=>?_) ?_
 ·simp only [Bool.and_eq_true,decide_eq_true_eq] at hb
  have hlt : fn.toNat<u.fs.length:=by omega
  obtain ⟨bf,of,cf,rfl,hcf,hgc,hfo⟩:=hfn.sl.get (by decide) hlt
  obtain ⟨vo,vt,vn,vp,rfl,h1,h2,h3,h4⟩:=id hgc
  obtain ⟨qp,capp,rfl,_,_⟩:=h4.sl.shape
  have hptl : u.fs[fn.toNat].pts.length≤9223372036854775807:=h4.few
  have lpts : Ob r fun w=>w.cell? ⟨bf,of+fn.toNat*7+6,none⟩=some (.slice qp u.fs[fn.toNat].pts.length capp):=hfo 6 _ rfl
  refine gg_ ?_
  refine zr (S.at lpts) ?_
  refine gg_ ?_
  rw [List.getElem?_eq_getElem hlt] at hK2
  exact hK2
 have:=h _ S.ext
 rw [isU] at this
 have e : ((((kq u&&decide (0≤fn))&&decide (fn<(u.fs.length : Int)))&&decide (q<((u.fs[fn.toNat]?.map fun g=>(g.pts.length : Int)).getD 0))))=((decide (0≤fn)&&decide (fn<(u.fs.length : Int)))&&(kq u&&decide (q<((u.fs[fn.toNat]?.map fun g=>(g.pts.length : Int)).getD 0)))):=by ac_rfl
 rw [e]
 exact this
end Go.Proofs
end
section
namespace Go.Proofs
open Go.Sh
set_option maxRecDepth 100000
set_option linter.unusedSimpArgs false
set_option linter.unusedVariables false
def PlN (p : PlD) : Prop:=yT p.l∧∀ k ∈ p.ps,yT k
def OpN (o : OpD) : Prop:=yT o.n∧PlN o.pl
structure PtN (p : PtD) : Prop where
 to : PlN p.to
 a : OpN p.a
 b : OpN p.b
 args : ∀ o ∈ p.args,OpN o
 fr : PlN p.fr
 fn : yT p.fn
 st : yT p.st
 nx : yT p.nx
 el : yT p.el
def UnN (u : UnD) : Prop:=∀ g ∈ u.fs,∀ p ∈ g.pts,PtN p
theorem agN {u : UnD} {g : GrD} {p : PtD} (h : zZ u g p=true) : 1≤p.op∧p.op≤14:=by
 have h:=Yw h
 refine Decidable.byContradiction fun hn=>?_
 simp only [ptG,show ¬ p.op=1 by omega,show ¬ p.op=2 by omega,show ¬ p.op=3 by omega,show ¬ p.op=4 by omega,show ¬ p.op=5 by omega,show ¬ p.op=6 by omega,show ¬ p.op=7 by omega,show ¬ p.op=8 by omega,show ¬ p.op=9 by omega,show ¬ p.op=10 by omega,show ¬ p.op=11 by omega,show ¬ p.op=12 by omega,show ¬ p.op=13 by omega,show ¬ p.op=14 by omega,or_self,if_false] at h
 cases h
theorem aho {u : UnD} (hM : MayU u) (hN : UnN u) (hF : ∀ g ∈ u.fs,aeZ g) : adL u:=fun g hg=>by
 obtain ⟨h1,h2⟩:=hF g hg
 refine ⟨h1,fun p hp=>?_⟩
 have f:=h2 p hp
 have k:=hN g hg p hp
 obtain ⟨o1,o2⟩:=agN (hM.pts g hg p hp)
 have pl : ∀ {x : PlD},PlN x→x.ps.length≤40→x.fit:=fun h hl=>⟨h.1,by omega,h.2⟩
 have fa:=f.args;have fs:=f.sign
 exact ⟨o1,o2,pl k.to f.to,⟨k.a.1,pl k.a.2 f.a⟩,⟨k.b.1,pl k.b.2 f.b⟩,⟨by omega,fun o ho=>⟨(k.args o ho).1,pl (k.args o ho).2 (f.ops o ho)⟩⟩,by omega,pl k.fr f.fr,k.fn,k.st,k.nx,k.el⟩
theorem ah8 {u : UnD} {n : Int} (h : isU u n (-1)=true) : fnE u n=0:=by
 obtain ⟨hM,h0,hlt,_⟩:=agu h
 rw [fnE,kJ.2 hM,decide_eq_false (by omega),decide_eq_false (by omega)];rfl
theorem ahp {u : UnD} {n : Int} (h : isU u n (-1)=false) : fnE u n=2:=by
 rw [fnE]
 split
 ·rfl
 ·rename_i hc
  exfalso
  rw [Bool.not_eq_true,Bool.or_eq_false_iff,Bool.or_eq_false_iff,decide_eq_false_iff_not,decide_eq_false_iff_not] at hc
  obtain ⟨⟨h1,h2⟩,h3⟩:=hc
  have hlt : n.toNat<u.fs.length:=by omega
  rw [isU,decide_eq_true (show 0≤n by omega),decide_eq_true (show n<u.fs.length by omega),show kq u=true by simpa using h3,List.getElem?_eq_getElem hlt] at h
  have h : decide ((-1 : Int)<u.fs[n.toNat].pts.length)=false:=by simpa using h
  rw [decide_eq_false_iff_not] at h
  omega
set_option maxHeartbeats 4000000 in
theorem JK {u : UnD} {n q : Int} {v : Value} {w : World} {r : Gh} {K : Value→World→Prop} (hT : TabZ r) (hr : Holds r w) (hu : UnG r v u) (hN : UnN u)
  (h : ∀ w',Ext w w'→K (.bool true) w') : zd Tryz.prog Tryz.Ze #[v,.int .i64 n,.int .i64 q] w K:=by
 refine Tryz.QF ?_
 unfold Tryz.Zk
 have hu0:=hu
 obtain ⟨p0,cap0,vf,rfl,_,_,hst,hsl,hfn⟩:=hu
 obtain ⟨qf,capf,rfl,_,_⟩:=hfn.sl.shape
 have S:=St.start hr
 refine S.box fun b3 w1 S=>?_
 have S : StX noX w r w1 [.cell b3 [.slice p0 u.ss.length cap0,.slice qf u.fs.length capf,.int .i64 u.mn] 25]:=S
 refine S.ldB (b:=b3) ?_ rfl
 refine adP S.holds hu0 fun b w2 e2 hfit=>?_
 have S:=S.go e2
 refine gp_ ?_
 refine c_b (fun _=>ZF hT S.holds fun w3 e3=>h _ (S.go e3).ext) (fun hb=>?_)
 have hF : MayU u→adL u:=fun hM=>aho hM hN (hfit (by simpa using hb))
 refine S.ldB (b:=b3) ?_ rfl
 refine Jq hT S.holds hu0 hF fun w4 e4=>?_
 have S:=S.go e4
 refine gS_ ?_
 refine S.ldB (b:=b3) ?_ rfl
 refine acs hT S.holds hu0 hF fun vl s w5 e5 n5 hl=>?_
 obtain ⟨S,d5,a5⟩:=S.tell e5 n5
 obtain ⟨pl,capl,rfl,_,_⟩:=hl.shape
 refine gS_ ?_
 refine S.ldB (b:=b3) ?_ rfl
 refine ae6 S.holds hu0.up fun w6 e6=>?_
 have S:=S.go e6
 refine gp_ ?_
 refine c_b (fun hno=>?_) (fun hyes=>?_)
 ·have hf:=ahp (show isU u n (-1)=false by simpa using hno)
  have hp : ptE u n q=2:=by rw [ptE,if_neg (by rw [hf];rintro ⟨h,_⟩;cases h)]
  have ht : vk u n q = []:=by rw [vk,if_neg (by rw [hp];decide)]
  have hln : Yz u n = []:=by rw [Yz,if_neg (by rw [hf];decide)]
  rw [ht,hp,hf,hln]
  refine gp_ ?_
  refine zg (c:=true) (fun _ K2 hK2=>by refine gg_ ?_;exact hK2) ?_
  refine zg (c:=true) (fun _ K2 hK2=>by refine gg_ ?_;exact hK2) ?_
  refine zg (c:=true) (fun _ K2 hK2=>by refine gg_ ?_;exact hK2) ?_
  refine zm (c:=true) (fun _ K2 hK2=>ZF hT.up S.holds fun w3 e3=>hK2 _ e3) fun w7 e7=>?_
  have:=h _ (S.go e7).ext
  simpa using this
 have hf:=ah8 (show isU u n (-1)=true by simpa using hyes)
 obtain ⟨hM,hn0,hlt⟩:=Yx hf
 have hlE : Yz u n=kv u.fs[n.toNat].pts:=by rw [Yz,if_pos hf,List.getElem?_eq_getElem hlt]
 have hpE : ptE u n q=if 0≤q∧q<u.fs[n.toNat].pts.length then 0 else 2:=by
  rw [ptE,List.getElem?_eq_getElem hlt]
  by_cases hc : 0≤q∧q<u.fs[n.toNat].pts.length
  ·rw [if_pos hc,if_pos ⟨hf,hc.1,hc.2⟩]
  ·rw [if_neg hc,if_neg fun hh=>hc ⟨hh.2.1,hh.2.2⟩]
 have htE : ∀ (hq : q.toNat<u.fs[n.toNat].pts.length),0≤q→vk u n q=ptT u.fs[n.toNat].pts[q.toNat] q:=fun hq h0=>by
  rw [vk,if_pos (by rw [hpE,if_pos ⟨h0,by omega⟩]),vi,List.getElem?_eq_getElem hlt,Option.bind_some,List.getElem?_eq_getElem hq]
 have htE0 : ¬ (0≤q∧q<u.fs[n.toNat].pts.length)→vk u n q = []:=fun hq=>by
  rw [vk,if_neg (by rw [hpE,if_neg hq];decide)]
 have hfg:=hF hM _ (List.getElem_mem hlt)
 rw [hf,hlE]
 rw [hlE] at hl
 obtain ⟨bf,of,cf,rfl,hcf,hgc,hfo⟩:=hfn.sl.get (by decide) hlt
 generalize u.fs[n.toNat]=g at hgc hfg hpE htE htE0 hl ⊢
 obtain ⟨x1,x2,x3,x4,y1,y2,y3,y4,rfl,hg0⟩:=jO hgc
 have hg1:=hg0
 obtain ⟨_,_,_,_,hE,m1,m2,m3,m4⟩:=hg1
 cases hE
 have hll:=hl.shape
 have hlen : ((kv g.pts).map bs).length=g.pts.length:=by rw [List.length_map,vm]
 have hp11:=hfg.1
 refine gg_ ?_
 refine zp (n:=7) hcf (fun j v hj=>S.at (hfo j v hj)) ?_
 refine S.al fun b11 w7 S=>?_
 refine S.stB (b:=b11) fun w8 S=>?_
 have S : StX noX w (r.or s) w8 [.cell b11 (grL g x1 x2 x3 x4 y1 y2 y3 y4) 33,.cell b3 [.slice p0 u.ss.length cap0,.slice (some ⟨bf,of,none⟩) u.fs.length capf,.int .i64 u.mn] 25]:=S
 refine zs (fun _ w'=>StX noX w (r.or s) w' [.cell b11 (grL g x1 x2 x3 x4 y1 y2 y3 y4) 33,.cell b3 [.slice p0 u.ss.length cap0,.slice (some ⟨bf,of,none⟩) u.fs.length capf,.int .i64 u.mn] 25]) (fun K26 hK26=>?_) ?_
 ·refine gg_ ?_
  refine zh (c:=decide ((g.pts.length : Int)≤q)) (fun _ K2 hK2=>by refine gg_ ?_;exact hK2) ?_
  refine c_b (fun hbad=>?_) (fun hgood=>?_)
  ·have hq : ¬ (0≤q∧q<g.pts.length):=by
    simp only [Bool.or_eq_true,decide_eq_true_eq] at hbad;omega
   rw [htE0 hq,hpE,if_neg hq]
   refine gp_ ?_
   refine zh (c:=false) (fun _ K2 hK2=>by refine gg_ ?_;exact hK2) ?_
   refine c_f (by simp) ?_
   exact hK26 [] _ S
  ·have hq : 0≤q∧q<g.pts.length:=by
    simp only [Bool.or_eq_false_iff,decide_eq_false_iff_not] at hgood;omega
   rw [htE (by omega) hq.1,hpE,if_pos hq]
   refine gp_ ?_
   refine yR (c:=false) (fun _ K2 hK2=>?_) fun w9 e9=>?_
   ·refine S.ldB (b:=b11) ?_ rfl
    refine Jn hT.up S.holds hg0.up ⟨hq.1,by omega⟩ (by omega) rfl (hfg.2 _ (List.getElem_mem _)) fun w10 e10=>?_
    refine gg_ ?_
    have:=hK2 _ e10
    simpa using this
   refine c_f (by simp) ?_
   exact hK26 [] _ (S.go e9)
 clear S
 rintro _ w12 S d12
 refine gp_ ?_
 refine zh (c:=false) (fun _ K2 hK2=>?_) ?_
 ·rw [hlen]
  refine gg_ ?_
  simpa using hK2
 refine c_f (by simp) ?_
 refine zi (ι:=Nat) (fun i=>[.int .i64 (i : Nat)]) (fun i w'=>i≤g.pts.length∧StX noX w (r.or s) w' [.cell b11 (grL g x1 x2 x3 x4 y1 y2 y3 y4) 33,.cell b3 [.slice p0 u.ss.length cap0,.slice (some ⟨bf,of,none⟩) u.fs.length capf,.int .i64 u.mn] 25]) (fun i=>g.pts.length - i) 0 rfl ⟨Nat.zero_le _,S⟩ ?_
 clear S
 rintro i d w20 ⟨hi,S⟩ K47 hK47
 rw [List.getD_cons_zero]
 refine gg_ ?_
 refine zf (fun hlt2=>?_) (fun hge=>?_)
 ·rw [hlen] at hlt2
  have hlt2 : i<g.pts.length:=by omega
  obtain ⟨ba,oa,ca,hE,hca,hcc,hcell⟩:=hl.get (by decide) (i:=i) (by rw [hlen];exact hlt2)
  cases hE
  obtain rfl : ca = [.string (bs (Y6 (i : Nat) g.pts[i]))]:=by
   have : ca = [.string ((kv g.pts).map bs)[i]]:=hcc
   rw [this,List.getElem_map,aaQ hlt2]
  have hin : yT (i : Nat):=⟨by omega,by omega⟩
  have hil:=zK hin
  have hpf:=hfg.2 _ (List.getElem_mem hlt2)
  have hptl : (ptT g.pts[i] (i : Nat)).length≤27000000:=by
   have h1:=JU hpf;have h2:=JV (q:=(i : Nat)) hpf;have h3:=kY hpf.to;have h4:=zK hpf.el
   have h5 : (elT g.pts[i]).length≤28:=kZ (by simp only [List.length_append,List.length_cons,List.length_nil];omega) (Nat.zero_le _)
   have h6 : (if g.pts[i].op≤8 then plT g.pts[i].to ++ [32,61,32] else []).length≤23003:=kZ (by simp only [List.length_append,List.length_cons,List.length_nil];omega) (Nat.zero_le _)
   rw [ptT]
   refine kZ (by decide) ?_
   simp only [List.length_append];omega
  have S:=S.go (Ext.drew _)
  refine s_c (by rw [hlen];omega) ?_
  refine zr (v:=.string (bs (Y6 (i : Nat) g.pts[i]))) (by simpa using S.at (hcell 0 _ rfl)) ?_
  refine S.ldB (b:=b11) ?_ rfl
  refine xt hT.up hin S.holds fun w21 e21=>⟨e21,?_⟩
  have S:=S.go e21
  refine gA_ ?_
  refine Jn hT.up S.holds hg0.up ⟨by omega,by omega⟩ (by omega) rfl (by simpa using hpf) fun w22 e22=>⟨e22,?_⟩
  have S:=S.go e22
  simp only [Int.toNat_natCast]
  refine gA_ ?_
  refine c_f (by simp [Y6]) ?_
  refine gg_ ?_
  exact hK47 (i+1) _ ⟨hlt2,S⟩ (by omega)
 exact ZF hT.up S.holds fun w3 e3=>h _ (S.go e3).ext
end Go.Proofs
end
section
namespace Go.Proofs.YtngfnikkdhbajaaGreatDoor.openG
open Go.Sh Go.ChangeShapes Go.WideShapes Go.ChangeAt Go.RowKit
set_option maxRecDepth 100000
set_option linter.unusedSimpArgs false
set_option linter.unusedVariables false
theorem own : ownKnob Tryz.prog.godebug=none:=by kernel_rfl
theorem ahq : laidOutB Tryz.prog=true:=by kernel_rfl
theorem aiE : mapsRowed Tryz.prog=true:=by kernel_rfl
theorem aiS : ((List.range Tryz.prog.types.size).all fun t=>match Tryz.prog.underlying t with|some (.slice e)=>decide (0<Tryz.prog.cellsOf e)|_=>true)=true:=by kernel_rfl
theorem kL : Tryz.prog.underlying 3=some (.int .i64):=by kernel_rfl
theorem ah9 : Tryz.prog.underlying 2=some (.int .i64):=by kernel_rfl
theorem aia : Tryz.prog.underlying 138=some (.int .i64):=by kernel_rfl
theorem ae7 : Tryz.prog.underlying 4=some .bool:=by kernel_rfl
theorem aiT : Tryz.prog.underlying 9=some .string:=by kernel_rfl
theorem uTk : Tryz.prog.underlying 55=some (.int .u8):=by kernel_rfl
theorem uOk : Tryz.prog.underlying 39=some (.int .u8):=by kernel_rfl
theorem uPo : Tryz.prog.underlying 35=some (.int .u8):=by kernel_rfl
theorem sTy : Tryz.prog.underlying 29=some (.slice 57)∧Tryz.prog.cellsOf 57=5:=⟨by kernel_rfl,by kernel_rfl⟩
theorem sFd : Tryz.prog.underlying 82=some (.slice 86)∧Tryz.prog.cellsOf 86=6:=⟨by kernel_rfl,by kernel_rfl⟩
theorem sSt : Tryz.prog.underlying 22=some (.slice 84)∧Tryz.prog.cellsOf 84=2:=⟨by kernel_rfl,by kernel_rfl⟩
theorem sGr : Tryz.prog.underlying 23=some (.slice 33)∧Tryz.prog.cellsOf 33=7:=⟨by kernel_rfl,by kernel_rfl⟩
theorem sOu : Tryz.prog.underlying 28=some (.slice 101)∧Tryz.prog.cellsOf 101=2:=⟨by kernel_rfl,by kernel_rfl⟩
theorem sSs : Tryz.prog.underlying 30=some (.slice 9)∧Tryz.prog.cellsOf 9=1:=⟨by kernel_rfl,by kernel_rfl⟩
theorem sPt : Tryz.prog.underlying 31=some (.slice 44)∧Tryz.prog.cellsOf 44=21:=⟨by kernel_rfl,by kernel_rfl⟩
theorem sOp : Tryz.prog.underlying 42=some (.slice 41)∧Tryz.prog.cellsOf 41=4:=⟨by kernel_rfl,by kernel_rfl⟩
theorem sSp : Tryz.prog.underlying 36=some (.slice 138)∧Tryz.prog.cellsOf 138=1:=⟨by kernel_rfl,by kernel_rfl⟩
theorem aTy : ∃ fs,Tryz.prog.underlying 57=some (.struct fs)∧fs.toList.map (·.type) = [55,4,3,3,29]:=xT (by kernel_rfl)
theorem aFd : ∃ fs,Tryz.prog.underlying 86=some (.struct fs)∧fs.toList.map (·.type) = [9,57]:=xT (by kernel_rfl)
theorem aSt : ∃ fs,Tryz.prog.underlying 84=some (.struct fs)∧fs.toList.map (·.type) = [9,82]:=xT (by kernel_rfl)
theorem aPl : ∃ fs,Tryz.prog.underlying 38=some (.struct fs)∧fs.toList.map (·.type) = [3,36]:=xT (by kernel_rfl)
theorem aOp : ∃ fs,Tryz.prog.underlying 41=some (.struct fs)∧fs.toList.map (·.type) = [39,2,38]:=xT (by kernel_rfl)
theorem aPt : ∃ fs,Tryz.prog.underlying 44=some (.struct fs)∧fs.toList.map (·.type) = [35,38,41,41,42,9,38,4,3,3,3,3,3]:=xT (by kernel_rfl)
theorem aOu : ∃ fs,Tryz.prog.underlying 101=some (.struct fs)∧fs.toList.map (·.type) = [3,3]:=xT (by kernel_rfl)
theorem aGr : ∃ fs,Tryz.prog.underlying 33=some (.struct fs)∧fs.toList.map (·.type) = [9,3,28,3,29,30,31]:=xT (by kernel_rfl)
theorem aUn : ∃ fs,Tryz.prog.underlying 25=some (.struct fs)∧fs.toList.map (·.type) = [22,23,3]:=xT (by kernel_rfl)
theorem ahr : afu Tryz.prog [25,22,84,82,86,9,57,55,4,3,29,23,33,28,101,30,31,44,35,
 38,36,138,41,39,2,42]=true:=by kernel_rfl
theorem Za {α : Type} {f : α→Dat} {G : α→Prop} {d : Dat} {T e : TypeId} {n : Nat} (u : Tryz.prog.underlying T=some (.slice e)∧Tryz.prog.cellsOf e=n) (h : d.ok Tryz.prog T) (hf : ∀ x : Dat,SizeOf.sizeOf x<SizeOf.sizeOf d→x.ok Tryz.prog e→∃ t,x=f t∧G t) :
  ∃ l : List α,d = .sl n (l.map f)∧l.length≤maxLen∧∀ t ∈ l,G t:=by
 obtain ⟨es,rfl,hl,hk⟩:=afv u.1 h
 obtain ⟨l,rfl,hg⟩:=adt (f:=f) (G:=G) es fun x hx=>hf x (by
  have:=List.sizeOf_lt_of_mem hx
  simp only [Dat.sl.sizeOf_spec];omega) (hk x hx)
 exact ⟨l,by rw [u.2],by simpa using hl,hg⟩
theorem aiF : ∀ (n : Nat) (d : Dat),SizeOf.sizeOf d≤n→d.ok Tryz.prog 57→∃ t : TyD,d=t.dat:=by
 intro n
 induction n with
 |zero=>intro d h _;cases d<;>simp at h
 |succ n ih=>
  intro d hs h
  obtain ⟨ds,rfl,e0⟩:=xr aTy h
  obtain ⟨d0,ds,rfl,h0,e1⟩:=zk e0
  obtain ⟨d1,ds,rfl,h1,e2⟩:=zk e1
  obtain ⟨d2,ds,rfl,h2,e3⟩:=zk e2
  obtain ⟨d3,ds,rfl,h3,e4⟩:=zk e3
  obtain ⟨d4,ds,rfl,h4,e5⟩:=zk e4
  obtain rfl:=qQ e5
  obtain ⟨k,rfl,_⟩:=yp uTk h0
  obtain ⟨m,rfl⟩:=ads ae7 h1
  obtain ⟨re,rfl,_⟩:=yp kL h2
  obtain ⟨st,rfl,_⟩:=yp kL h3
  obtain ⟨l,rfl,_,_⟩:=Za (f:=TyD.dat) (G:=fun _=>True) sTy h4 fun x hx hk=>by
   obtain ⟨t,ht⟩:=ih x (by
    simp only [Dat.agg.sizeOf_spec,List.cons.sizeOf_spec] at hs
    omega) hk
   exact ⟨t,ht,trivial⟩
  exact ⟨.mk k m re st l,by rw [TyD.dat,TyD.dats_map]⟩
theorem afV {d : Dat} (h : d.ok Tryz.prog 57) : ∃ t : TyD,d=t.dat∧True:=by
 obtain ⟨t,ht⟩:=aiF _ d (Nat.le_refl _) h
 exact ⟨t,ht,trivial⟩
theorem JL {d : Dat} (h : d.ok Tryz.prog 9) : ∃ s : ByteArray,d = .str s∧True:=by
 obtain ⟨s,hs,_⟩:=ag7 aiT h
 exact ⟨s,hs,trivial⟩
theorem aeC {n : Int} (h : (Lit.int .i64 n).wf=true) : yT n:=by have:=afw h;exact ⟨this.1,by omega⟩
theorem aib {d : Dat} (h : d.ok Tryz.prog 138) : ∃ n : Int,d=Dat.int .i64 n∧yT n:=by
 obtain ⟨n,hn,hw⟩:=yp aia h
 exact ⟨n,hn,aeC hw⟩
theorem aiG {d : Dat} (h : d.ok Tryz.prog 86) : ∃ f : ByteArray × TyD,d=adp f∧True:=by
 obtain ⟨ds,rfl,e0⟩:=xr aFd h
 obtain ⟨d0,ds,rfl,h0,e1⟩:=zk e0
 obtain ⟨d1,ds,rfl,h1,e2⟩:=zk e1
 obtain rfl:=qQ e2
 obtain ⟨s,rfl,_⟩:=JL h0
 obtain ⟨t,rfl,_⟩:=afV h1
 exact ⟨(s,t),rfl,trivial⟩
theorem aiH {d : Dat} (h : d.ok Tryz.prog 84) : ∃ s : StD,d=s.dat∧True:=by
 obtain ⟨ds,rfl,e0⟩:=xr aSt h
 obtain ⟨d0,ds,rfl,h0,e1⟩:=zk e0
 obtain ⟨d1,ds,rfl,h1,e2⟩:=zk e1
 obtain rfl:=qQ e2
 obtain ⟨s,rfl,_⟩:=JL h0
 obtain ⟨l,rfl,_,_⟩:=Za (f:=adp) (G:=fun _=>True) sFd h1 fun x _ hk=>aiG hk
 exact ⟨⟨s,l⟩,rfl,trivial⟩
theorem ae8 {d : Dat} (h : d.ok Tryz.prog 38) : ∃ p : PlD,d=p.dat∧p.ok:=by
 obtain ⟨ds,rfl,e0⟩:=xr aPl h
 obtain ⟨d0,ds,rfl,h0,e1⟩:=zk e0
 obtain ⟨d1,ds,rfl,h1,e2⟩:=zk e1
 obtain rfl:=qQ e2
 obtain ⟨n,rfl,_⟩:=yp kL h0
 obtain ⟨l,rfl,hl,hg⟩:=Za (f:=Dat.int .i64) (G:=yT) sSp h1 fun x _ hk=>aib hk
 exact ⟨⟨n,l⟩,rfl,hl,hg⟩
theorem ae9 {d : Dat} (h : d.ok Tryz.prog 41) : ∃ o : OpD,d=o.dat∧o.ok:=by
 obtain ⟨ds,rfl,e0⟩:=xr aOp h
 obtain ⟨d0,ds,rfl,h0,e1⟩:=zk e0
 obtain ⟨d1,ds,rfl,h1,e2⟩:=zk e1
 obtain ⟨d2,ds,rfl,h2,e3⟩:=zk e2
 obtain rfl:=qQ e3
 obtain ⟨k,rfl,_⟩:=yp uOk h0
 obtain ⟨n,rfl,_⟩:=yp ah9 h1
 obtain ⟨p,rfl,hp⟩:=ae8 h2
 exact ⟨⟨k,n,p⟩,rfl,hp⟩
theorem aiI {d : Dat} (h : d.ok Tryz.prog 44) : ∃ p : PtD,d=p.dat∧p.ok:=by
 obtain ⟨ds,rfl,e0⟩:=xr aPt h
 obtain ⟨d0,ds,rfl,h0,e1⟩:=zk e0
 obtain ⟨d1,ds,rfl,h1,e2⟩:=zk e1
 obtain ⟨d2,ds,rfl,h2,e3⟩:=zk e2
 obtain ⟨d3,ds,rfl,h3,e4⟩:=zk e3
 obtain ⟨d4,ds,rfl,h4,e5⟩:=zk e4
 obtain ⟨d5,ds,rfl,h5,e6⟩:=zk e5
 obtain ⟨d6,ds,rfl,h6,e7⟩:=zk e6
 obtain ⟨d7,ds,rfl,h7,e8⟩:=zk e7
 obtain ⟨d8,ds,rfl,h8,e9⟩:=zk e8
 obtain ⟨d9,ds,rfl,h9,e10⟩:=zk e9
 obtain ⟨d10,ds,rfl,h10,e11⟩:=zk e10
 obtain ⟨d11,ds,rfl,h11,e12⟩:=zk e11
 obtain ⟨d12,ds,rfl,h12,e13⟩:=zk e12
 obtain rfl:=qQ e13
 obtain ⟨op,rfl,_⟩:=yp uPo h0
 obtain ⟨to,rfl,g1⟩:=ae8 h1
 obtain ⟨a,rfl,g2⟩:=ae9 h2
 obtain ⟨b,rfl,g3⟩:=ae9 h3
 obtain ⟨l,rfl,hl,g4⟩:=Za (f:=OpD.dat) (G:=OpD.ok) sOp h4 fun x _ hk=>ae9 hk
 obtain ⟨s,rfl,_⟩:=JL h5
 obtain ⟨fr,rfl,g6⟩:=ae8 h6
 obtain ⟨mu,rfl⟩:=ads ae7 h7
 obtain ⟨fn,rfl,_⟩:=yp kL h8
 obtain ⟨st,rfl,_⟩:=yp kL h9
 obtain ⟨nx,rfl,_⟩:=yp kL h10
 obtain ⟨el,rfl,_⟩:=yp kL h11
 obtain ⟨tx,rfl,_⟩:=yp kL h12
 exact ⟨⟨op,to,a,b,l,s,fr,mu,fn,st,nx,el,tx⟩,rfl,g1,g2,g3,⟨hl,g4⟩,g6⟩
theorem aiJ {d : Dat} (h : d.ok Tryz.prog 101) : ∃ x : Int × Int,d=aeR x∧True:=by
 obtain ⟨ds,rfl,e0⟩:=xr aOu h
 obtain ⟨d0,ds,rfl,h0,e1⟩:=zk e0
 obtain ⟨d1,ds,rfl,h1,e2⟩:=zk e1
 obtain rfl:=qQ e2
 obtain ⟨a,rfl,_⟩:=yp kL h0
 obtain ⟨b,rfl,_⟩:=yp kL h1
 exact ⟨(a,b),rfl,trivial⟩
theorem aiK {d : Dat} (h : d.ok Tryz.prog 33) : ∃ g : GrD,d=g.dat∧g.ok:=by
 obtain ⟨ds,rfl,e0⟩:=xr aGr h
 obtain ⟨d0,ds,rfl,h0,e1⟩:=zk e0
 obtain ⟨d1,ds,rfl,h1,e2⟩:=zk e1
 obtain ⟨d2,ds,rfl,h2,e3⟩:=zk e2
 obtain ⟨d3,ds,rfl,h3,e4⟩:=zk e3
 obtain ⟨d4,ds,rfl,h4,e5⟩:=zk e4
 obtain ⟨d5,ds,rfl,h5,e6⟩:=zk e5
 obtain ⟨d6,ds,rfl,h6,e7⟩:=zk e6
 obtain rfl:=qQ e7
 obtain ⟨s,rfl,_⟩:=JL h0
 obtain ⟨lv,rfl,_⟩:=yp kL h1
 obtain ⟨lo,rfl,g2,_⟩:=Za (f:=aeR) (G:=fun _=>True) sOu h2 fun x _ hk=>aiJ hk
 obtain ⟨pn,rfl,_⟩:=yp kL h3
 obtain ⟨lt,rfl,g4,_⟩:=Za (f:=TyD.dat) (G:=fun _=>True) sTy h4 fun x _ hk=>afV hk
 obtain ⟨ln,rfl,g5,_⟩:=Za (f:=Dat.str) (G:=fun _=>True) sSs h5 fun x _ hk=>JL hk
 obtain ⟨lp,rfl,g6,hp⟩:=Za (f:=PtD.dat) (G:=PtD.ok) sPt h6 fun x _ hk=>aiI hk
 exact ⟨⟨s,lv,lo,pn,lt,ln,lp⟩,rfl,g2,g4,g5,g6,hp⟩
theorem aiL {d : Dat} (h : d.ok Tryz.prog 25) : ∃ u : UnD,d=u.dat∧u.ok:=by
 obtain ⟨ds,rfl,e0⟩:=xr aUn h
 obtain ⟨d0,ds,rfl,h0,e1⟩:=zk e0
 obtain ⟨d1,ds,rfl,h1,e2⟩:=zk e1
 obtain ⟨d2,ds,rfl,h2,e3⟩:=zk e2
 obtain rfl:=qQ e3
 obtain ⟨ss,rfl,g0,_⟩:=Za (f:=StD.dat) (G:=fun _=>True) sSt h0 fun x _ hk=>aiH hk
 obtain ⟨fs,rfl,g1,hg⟩:=Za (f:=GrD.dat) (G:=GrD.ok) sGr h1 fun x _ hk=>aiK hk
 obtain ⟨mn,rfl,_⟩:=yp kL h2
 exact ⟨⟨ss,fs,mn⟩,rfl,g0,g1,hg⟩
section
variable {H : Type} {enc : TypeId × Value→H} {W : World} {base : Nat} {v : Value} {d : DataW H} {p : List MemPlace}
theorem ad0 (hv : Value.okWide Tryz.prog W .any base 3 v) (h : DataW.Trod enc Tryz.prog W 0 (fun _=>true) true 3 v d p) : ∃ n : Int,v = .int .i64 n∧-9223372036854775808≤n∧n≤9223372036854775807:=by
 obtain ⟨n,rfl,_,_,hw⟩:=open_int kL hv h
 exact ⟨n,rfl,afw hw⟩
end
end Go.Proofs.YtngfnikkdhbajaaGreatDoor.openG
end
section
namespace Go.Proofs.YtngfnikkdhbajaaGreatDoor.openG
open Go.Sh Go.ChangeShapes Go.WideShapes Go.ChangeAt Go.RowKit
set_option maxRecDepth 100000
set_option linter.unusedSimpArgs false
set_option linter.unusedVariables false
theorem YG {x : Int} {t : TypeId} (u : Tryz.prog.underlying t=some (.int .i64)) (h : (Dat.int .i64 x).ok Tryz.prog t) : yT x:=by
 obtain ⟨n,hn,hw⟩:=yp u h
 cases hn
 exact aeC hw
theorem aa2 {α : Type} {f : α→Dat} {n : Nat} {T e : TypeId} {l : List α} (u : Tryz.prog.underlying T=some (.slice e)) (h : (Dat.sl n (l.map f)).ok Tryz.prog T) : ∀ x ∈ l,(f x).ok Tryz.prog e:=fun x hx=>by
 obtain ⟨es,hE,_,hs⟩:=afv u h
 injection hE with _ hE
 exact hs _ (hE ▸ List.mem_map_of_mem hx)
theorem ad1 {p : PlD} (h : p.dat.ok Tryz.prog 38) : PlN p:=by
 unfold PlD.dat at h
 obtain ⟨ds,hE,e0⟩:=xr aPl h
 cases hE
 obtain ⟨d0,ds,hE,h0,e1⟩:=zk e0
 cases hE
 obtain ⟨d1,ds,hE,h1,e2⟩:=zk e1
 cases hE
 exact ⟨YG kL h0,fun k hk=>YG aia (aa2 sSp.1 h1 k hk)⟩
theorem ad2 {o : OpD} (h : o.dat.ok Tryz.prog 41) : OpN o:=by
 unfold OpD.dat at h
 obtain ⟨ds,hE,e0⟩:=xr aOp h
 cases hE
 obtain ⟨d0,ds,hE,h0,e1⟩:=zk e0
 cases hE
 obtain ⟨d1,ds,hE,h1,e2⟩:=zk e1
 cases hE
 obtain ⟨d2,ds,hE,h2,e3⟩:=zk e2
 cases hE
 exact ⟨YG ah9 h1,ad1 h2⟩
theorem aic {p : PtD} (h : p.dat.ok Tryz.prog 44) : PtN p:=by
 unfold PtD.dat at h
 obtain ⟨ds,hE,e0⟩:=xr aPt h
 cases hE
 obtain ⟨d0,ds,hE,h0,e1⟩:=zk e0
 cases hE
 obtain ⟨d1,ds,hE,h1,e2⟩:=zk e1
 cases hE
 obtain ⟨d2,ds,hE,h2,e3⟩:=zk e2
 cases hE
 obtain ⟨d3,ds,hE,h3,e4⟩:=zk e3
 cases hE
 obtain ⟨d4,ds,hE,h4,e5⟩:=zk e4
 cases hE
 obtain ⟨d5,ds,hE,h5,e6⟩:=zk e5
 cases hE
 obtain ⟨d6,ds,hE,h6,e7⟩:=zk e6
 cases hE
 obtain ⟨d7,ds,hE,h7,e8⟩:=zk e7
 cases hE
 obtain ⟨d8,ds,hE,h8,e9⟩:=zk e8
 cases hE
 obtain ⟨d9,ds,hE,h9,e10⟩:=zk e9
 cases hE
 obtain ⟨d10,ds,hE,h10,e11⟩:=zk e10
 cases hE
 obtain ⟨d11,ds,hE,h11,e12⟩:=zk e11
 cases hE
 exact ⟨ad1 h1,ad2 h2,ad2 h3,fun o ho=>ad2 (aa2 sOp.1 h4 o ho),ad1 h6,YG kL h8,YG kL h9,YG kL h10,YG kL h11⟩
theorem aid {u : UnD} (h : u.dat.ok Tryz.prog 25) : UnN u:=fun g hg p hp=>by
 unfold UnD.dat at h
 obtain ⟨ds,hE,e0⟩:=xr aUn h
 cases hE
 obtain ⟨d0,ds,hE,h0,e1⟩:=zk e0
 cases hE
 obtain ⟨d1,ds,hE,h1,e2⟩:=zk e1
 cases hE
 have k:=aa2 sGr.1 h1 g hg
 unfold GrD.dat at k
 obtain ⟨ds,hE,e0⟩:=xr aGr k
 cases hE
 obtain ⟨c0,ds,hE,g0,e1⟩:=zk e0
 cases hE
 obtain ⟨c1,ds,hE,g1,e2⟩:=zk e1
 cases hE
 obtain ⟨c2,ds,hE,g2,e3⟩:=zk e2
 cases hE
 obtain ⟨c3,ds,hE,g3,e4⟩:=zk e3
 cases hE
 obtain ⟨c4,ds,hE,g4,e5⟩:=zk e4
 cases hE
 obtain ⟨c5,ds,hE,g5,e6⟩:=zk e5
 cases hE
 obtain ⟨c6,ds,hE,g6,e7⟩:=zk e6
 cases hE
 exact aic (aa2 sPt.1 g6 p hp)
section
variable {H : Type} {enc : TypeId × Value→H} {W : World} {base : Nat} {v : Value} {d : DataW H} {p : List MemPlace}
theorem agO (hv : Value.okWide Tryz.prog W .any base 25 v) (h : DataW.Trod enc Tryz.prog W 0 (fun _=>true) true 25 v d p) : ∃ u : UnD,UnG (all W) v u∧UnN u:=by
 obtain ⟨fs,hu,_⟩:=aUn
 obtain ⟨cs,rfl,hsz⟩:=okWide_struct hu hv
 obtain ⟨fuel,hf⟩:=h
 obtain ⟨d,hr,hd⟩:=Xj ahr fuel 25 _ _ (by simp) hf
 obtain ⟨u,rfl,hk⟩:=aiL hd
 exact ⟨u,by simpa [Value.cells] using afz hr hk,aid hd⟩
end
theorem aie : Tryz.prog.globalNamed "internal/strconv.uint64pow10" = some 0 := by kernel_rfl
theorem agP : (Tryz.prog.globals[0]?).map (·.type)=some 231:=by kernel_rfl
theorem aiM : Tryz.prog.underlying 231=some (.array 20 185):=by kernel_rfl
theorem aiN : Tryz.prog.underlying 185=some (.int .u64):=by kernel_rfl
theorem afW : Tryz.prog.cellsOf 231=20:=by kernel_rfl
theorem afX : Tryz.prog.cellsOf 185=1:=by kernel_rfl
theorem ahs : (Rows.laid_internal_strconv_uint64pow10 : DataW Unit)=Lib.tabData .u64 Lib.pow10Tab:=by kernel_rfl
theorem aif {W : World} (h : laidMetH Tryz.prog Rows.graphTextsRow.laid W) : TabZ (all W):=by
 have h0 : laidMet Tryz.prog Rows.graphTextsRow.laid W:=h
 have h1 : laidMet Tryz.prog [("internal/strconv.uint64pow10", Rows.laid_internal_strconv_uint64pow10)] W := laidMet.tail (laidMet.tail h0)
 rw [ahs] at h1
 have ht : Lib.TabIs Tryz.prog W "internal/strconv.uint64pow10" .u64 Lib.pow10Tab := Lib.tabIs_of_head (rest := []) aie agP aiM aiN afX afW h1
 intro w' hw
 unfold Lib.TabIs World.var? at ht ⊢
 rw [aie] at ht ⊢
 simp only [Option.bind] at ht ⊢
 cases ho : W.heap[0]? with
 |none=>rw [ho] at ht;cases ht
 |some o=>rw [hw 0 o ho];rw [ho] at ht;exact ht
def aig : DataW Unit→List Value
 |.agg l=>l.map fun
  |.lit (.int k n)=>.int k n
  |_=>undef
 |_=>[]
def ad3 (d : DataW Unit) : Obj→Obj
 |.cells _ t frozen=>.cells (aig d).toArray t frozen
 |o=>o
noncomputable def Qg (os : Os) : World:=
 { World.holding Tryz.prog os ⟨#[],#[],[]⟩ with heap:=(((World.holding Tryz.prog os ⟨#[],#[],[]⟩).heap.modify 0 (ad3 Rows.laid_internal_strconv_uint64pow10)).modify 2 (ad3 Rows.laid_math_bits_deBruijn32tab)).modify 3 (ad3 Rows.laid_math_bits_deBruijn64tab) }
end Go.Proofs.YtngfnikkdhbajaaGreatDoor.openG
end
section
namespace Go.Proofs.YtngfnikkdhbajaaGreatDoor.graphTexts
open Go.Sh Go.ChangeShapes Go.WideShapes Go.ChangeAt Go.RowKit openG
set_option maxRecDepth 100000
set_option linter.unusedVariables false
theorem agQ (H : Type) (enc : TypeId × Value→H) (W : World) (base : Nat) (args : Array Value) (ds gs : List (DataW H)) (before : List MemPlace)
  (hval : ∀ (j : Nat) t v,Tryz.f4.params[j]? = some t→args[j]? = some v→Value.okWide Tryz.prog W .any base t v)
  (hW : DataW.Whole enc Tryz.prog Tryz.f4.params.toList Rows.graphTextsSpec.vars false W args.toList ds gs before) (hL : laidMetH Tryz.prog Rows.graphTextsRow.laid W)
  (hwt : (DataW.weightsEach Tryz.prog (Tryz.f4.params.toList++(Rows.OpenSpec.upto Rows.graphTextsSpec).bare.plain.varTypes Tryz.prog) (ds++gs)).all (·≤reachBytes)=true) :
  Calls Tryz.prog 4 args W fun e W'=>∃ v,e = .returned v∧Rows.graphTextsSpec.post enc Tryz.prog Tryz.f4 false true false false W args v W':=by
 have hW':=hW
 obtain ⟨p,q,hA,hV,rfl,hfz,hnd⟩:=hW
 rw [show Tryz.f4.params.toList = [25,3,3] by kernel_rfl] at hA
 obtain ⟨v0,vs0,d0,ds0,p0,q100,hargs,rfl,rfl,h0,r0⟩:=trodAll_cons hA
 obtain ⟨v1,vs1,d1,ds1,p1,q101,rfl,rfl,rfl,h1,r1⟩:=trodAll_cons r0
 obtain ⟨v2,vs2,d2,ds2,p2,q102,rfl,rfl,rfl,h2,r2⟩:=trodAll_cons r1
 obtain ⟨rfl,rfl,rfl⟩:=trodAll_nil r2
 obtain rfl : args=#[v0,v1,v2]:=by cases args;simp_all
 obtain ⟨rfl,rfl⟩:=trodVars_none hV
 obtain ⟨u0,hu0,hn0⟩:=agO (hval 0 25 v0 (by kernel_rfl) rfl) h0
 obtain ⟨n1,rfl,hi1⟩:=ad0 (hval 1 3 v1 (by kernel_rfl) rfl) h1
 obtain ⟨n2,rfl,hi2⟩:=ad0 (hval 2 3 v2 (by kernel_rfl) rfl) h2
 refine Calls.mono (JK (K:=fun v W'=>v = .bool true∧Ext W W') (aif hL) (afj W) hu0 hn0 fun w' e=>⟨rfl,e⟩) ?_
 rintro e W' ⟨v,he,rfl,hE⟩
 exact ⟨_,he,afs ahq aiE aiS (by rw [show Tryz.f4.params.toList = [25,3,3] by kernel_rfl];decide) rfl (by kernel_rfl) ae7 hW' rfl hE⟩
def wit : Array Value:=#[.agg #[.slice none 0 0,.slice none 0 0,.int .i64 0],.int .i64 0,.int .i64 0]
theorem agR (os : Os) : laidMet Tryz.prog Rows.graphTextsRow.laid ((Qg os).forCall (fun _ _=>0) ⟨#[],wit,[]⟩).memory:=
 laidMet_of_run' 8 (by kernel_rfl) (by kernel_rfl)
theorem aiO (os : Os) {H : Type} (enc : TypeId × Value→H) : ∃ places,DataW.whole enc Tryz.prog ((Qg os).forCall (fun _ _=>0) ⟨#[],wit,[]⟩).memory Tryz.f4.params.toList Rows.graphTextsSpec.vars false wit.toList 8=some ([.agg [.nil,.nil,.lit (.int .i64 0)],.lit (.int .i64 0),.lit (.int .i64 0)],[],places):=
 ⟨[],by kernel_rfl⟩
theorem aih (os : Os) (started : os.Started) (H : Type) (enc : TypeId × Value→H) (F : Stop.Interp) :
  ReturnsInHanded {} Tryz.checked os 4 .any ((Rows.OpenSpec.upto Rows.graphTextsSpec).preRow enc Tryz.prog Tryz.f4 Rows.graphTextsUptoRow.domain false Rows.graphTextsUptoRow.laid) (((Rows.OpenSpec.upto Rows.graphTextsSpec).at F).post enc Tryz.prog Tryz.f4 false true false false):=by
 obtain ⟨places,hx⟩:=aiO os enc
 refine returnsInHanded_of_row (C:=Tryz.checked) (s:=Rows.OpenSpec.upto Rows.graphTextsSpec) own started (by kernel_rfl) Tryz.func4
  (witness_row_at (enc:=enc) (C:=Tryz.checked) false (Qg os) wit rfl (by kernel_rfl) (by kernel_rfl) (by kernel_rfl)
   (OpenSpec.preRow_of_cond 8 hx (by kernel_rfl) (fun k hk=>by cases hk;kernel_rfl) (by kernel_rfl) (agR os))) ?_
 intro W base args ds gs before hval hW _ _ hwt hL _ _
 exact agQ H enc W base args ds gs before hval hW hL hwt
theorem said : Rows.GraphTextsUptoSaid:=
 OpenClaim.holds_of_cond 4 Tryz.f4 rfl rfl rfl rfl rfl rfl rfl ⟨rfl,rfl,rfl,rfl,rfl⟩ rfl rfl rfl rfl rfl (by kernel_rfl) Tryz.func4 (by kernel_rfl)
  (of_decide_eq_true (by kernel_rfl)) (by unfold Func.isWrapper;first|(rw [if_pos (by decide +kernel)];kernel_rfl)|(rw [if_neg (by decide +kernel)];exact ⟨rfl,rfl⟩))
  (fun os started H enc _ F=>by rw [OpenClaim.pre_eq_preRow];exact aih os started H enc F)
theorem plain (f : FuncId) (fn : Func) (hf : Tryz.pinned.checked.prog.funcNamed "loanword/loanwordlaw10.GraphTexts" = some f) (hfn : Tryz.pinned.checked.prog.funcs[f]? = some fn) :
  false=Tryz.pinned.checked.prog.looks []∧∀ (j : Nat) t,fn.params[j]? = some t→Tryz.pinned.checked.prog.wantsStandIn t=false:=by
 obtain rfl : f = 4 := Option.some.inj ((show Tryz.prog.funcNamed "loanword/loanwordlaw10.GraphTexts" = some 4 by kernel_rfl).symm.trans hf) |>.symm
 obtain rfl : fn=Tryz.f4:=(Option.some.inj (Tryz.func4.symm.trans hfn)).symm
 refine ⟨by kernel_rfl,fun j t ht=>?_⟩
 have hall : (Tryz.f4.params.all fun t=>!(Tryz.prog.wantsStandIn t))=true:=by kernel_rfl
 have:=Array.all_eq_true_iff_forall_mem.1 hall t (Array.mem_of_getElem? ht)
 show Tryz.prog.wantsStandIn t=false
 simpa using this
theorem card : Rows.GraphTextsUptoCardSaid:=
 Claim7.holds_tied_plain_at .later [] _ _ _ _ said (fun _ h=>by cases h) (by kernel_rfl) (fun _ h=>by cases h) graphTextsUpto_row_tie rfl ⟨rfl,rfl⟩ (by kernel_rfl) rfl plain (by kernel_rfl)
end Go.Proofs.YtngfnikkdhbajaaGreatDoor.graphTexts
end
