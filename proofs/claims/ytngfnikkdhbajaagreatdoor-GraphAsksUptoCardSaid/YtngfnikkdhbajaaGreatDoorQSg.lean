/-
  The document's answer of layer 10: what a type implies; the head of a graph.
  The document's answer of layer 10: the head of a graph.
  The document's answer of layer 10: Check, May, Is.
  loanwordlaw10.GraphTexts: whatever the program, the function, the point: the law returns true.
  Contracts of the library, laid at this program (by the kit's own tools).
  slices.Sort, slices.Compact, slices.Clip of a row of numbers that the walk has made itself.
  graph.Calls and the document's Calls.
  What the document says of points: Next, Operands, Assigns, Calls, places compared.
  The document's Calls and Place.
  loanwordlaw10.GraphAsks: whatever the program, the function, the point, the place: the law returns true.
  Openings: what arguments that are types, programs, lists of numbers tell.
  Openings of layer 10: programs with their numbers, places; the table of tens.
  loanwordlaw10.GraphAsks: the card: whatever the input, the law returns true and the input reads as it did.
-/
import Derived.Test.YtngfnikkdhbajaaGreatDoorQSf
import Derived.Test.YtngfnikkdhbajaaGreatDoorQSd
import Derived.Test.YtngfnikkdhbajaaGreatDoorQSe
import Derived.Shelf.Sort.Plain
import Derived.Shelf.Slices.CompactI
import Derived.Shelf.Slices.In.SortNone
import Derived.Test.YtngfnikkdhbajaaGreatDoorProg
import Derived.KernelRfl
import Derived.Test.YtngfnikkdhbajaaGreatDoorQSc
import Derived.Test.YtngfnikkdhbajaaGreatDoorRows
import Derived.WalkKit
import Derived.Test.YtngfnikkdhbajaaGreatDoorCards
import Derived.Test.YtngfnikkdhbajaaGreatDoorTie
import Derived.Stop.LaidErr
import Derived.Lib.LaidTab
section
namespace Go.Sh
theorem ahH {w : World} {b x y z : Bool} {A1 : (List Value→World→Prop)→Prop} {A2 A3 : (List Value→World→Prop)→World→Prop} {Z : Value→World→Prop}
  (h1 : b=true→∀ K : List Value→World→Prop,K [.bool x] w→A1 K) (h2 : b=true→∀ K : List Value→World→Prop,K [.bool y] w→A2 K w) (h3 : b=true→∀ K : List Value→World→Prop,K [.bool z] w→A3 K w)
  (hZ : Z (.bool (b&&(x||(y&&z)))) w) :
  za (fun K=>gIf (.bool b) true (A1 K) (K [undef] w)) fun s80 _ w82=>
   za (fun K=>gIf (s80.getD 0 undef) false (A2 K w82) (K [undef] w82)) fun s84 _ w86=>
    za (fun K=>gIf (s84.getD 0 undef) true (A3 K w86) (K [undef] w86)) fun s88 _ w90=>
     za (fun K=>gIf (s80.getD 0 undef) false (zb (s84.getD 0 undef) (s88.getD 0 undef) (.bool false) fun t=>K [t] w90) (K [undef] w90)) fun s92 _ w94=>
      za (fun K=>gIf (.bool b) true (zb (s80.getD 0 undef) (.bool true) (s92.getD 0 undef) fun t=>K [t] w94) (K [undef] w94)) fun s96 _ w98=>
       zb (.bool b) (s96.getD 0 undef) (.bool false) fun t=>Z t w98:=by
 cases b<;>cases x<;>cases y<;>cases z <;>
  (iterate 5 (intro K hK;first|refine hK _ _ fun _=>?_|refine h1 rfl _ (hK _ _ fun _=>?_)|refine h2 rfl _ (hK _ _ fun _=>?_)|refine h3 rfl _ (hK _ _ fun _=>?_)|refine ⟨_,rfl,hK _ _ fun _=>?_⟩)) <;>
  exact ⟨_,rfl,by simpa using hZ⟩
theorem ai4 {w : World} {b c d e : Bool} {A1 : (List Value→World→Prop)→Prop} {A2 A3 : (List Value→World→Prop)→World→Prop} {Z : Value→World→Prop}
  (h1 : ∀ K : List Value→World→Prop,K [.bool c] w→A1 K) (h2 : ∀ K : List Value→World→Prop,K [.bool d] w→A2 K w) (h3 : ∀ K : List Value→World→Prop,K [.bool e] w→A3 K w)
  (hZ : Z (.bool (b||((c&&d)&&e))) w) :
  za (fun K=>gIf (.bool b) false (A1 K) (K [undef] w)) fun s153 _ w155=>
   za (fun K=>gIf (s153.getD 0 undef) true (A2 K w155) (K [undef] w155)) fun s157 _ w159=>
    za (fun K=>gIf (.bool b) false (zb (s153.getD 0 undef) (s157.getD 0 undef) (.bool false) fun t=>K [t] w159) (K [undef] w159)) fun s161 _ w163=>
     za (fun K=>gIf (s161.getD 0 undef) true (A3 K w163) (K [undef] w163)) fun s165 _ w167=>
      za (fun K=>gIf (.bool b) false (zb (s161.getD 0 undef) (s165.getD 0 undef) (.bool false) fun t=>K [t] w167) (K [undef] w167)) fun s169 _ w171=>
       zb (.bool b) (.bool true) (s169.getD 0 undef) fun t=>Z t w171:=by
 cases b<;>cases c<;>cases d<;>cases e <;>
  (iterate 5 (intro K hK;first|refine hK _ _ fun _=>?_|refine h1 _ (hK _ _ fun _=>?_)|refine h2 _ (hK _ _ fun _=>?_)|refine h3 _ (hK _ _ fun _=>?_)|refine ⟨_,rfl,hK _ _ fun _=>?_⟩)) <;>
  exact ⟨_,rfl,by simpa using hZ⟩
end Go.Sh
namespace Go.Proofs
open Go.Sh
set_option maxRecDepth 100000
set_option linter.unusedSimpArgs false
set_option linter.unusedVariables false
set_option maxHeartbeats 1000000 in
theorem aeI {bt : Nat} {M : List Asr} {w0 : World} {r : Gh} {t : TyD} {v : Value} {f : Nat→Nat→Bool} {w : World} {K : Value→World→Prop} (hv : TyG r v t) (hx : ∀ x ∈ regsT t,0≤x∧x<8)
  (S : StX noX w0 r w (.cell bt (zL f) 208::M))
  (h : ∀ w',StX noX w0 r w' (.cell bt (zL (Qx f (regsT t))) 208::M)→K (.tuple #[]) w') : zd Tryz.prog Tryz.YA #[v,.pointer (some ⟨bt,0,none⟩)] w K:=by
 refine Tryz.adf ?_
 unfold Tryz.J1
 have hv0:=hv
 obtain ⟨p1,cap1,rfl,_⟩:=hv
 refine S.box fun b2 w1 S=>?_
 have S : StX noX w0 r w1 (.cell b2 (tyL t p1 cap1) 57 :: .cell bt (zL f) 208::M):=S
 refine S.ldB (b:=b2) ?_ rfl
 refine Xq S.holds hv0 fun v7 w7 e7 o7=>?_
 obtain ⟨s1,p7,cap7,n7,nb7,rfl,_,hc7,hs7⟩:=adY o7
 have S:=(S.new e7 n7).tl
 have hr48 : (regsT t).length≤1000:=by
  rw [regsT];split
  ·have:=Xr (by assumption);omega
  ·simp
 generalize regsT t=l at hx h hs7 hr48 ⊢
 refine zi (ι:=Nat × (Nat→Nat→Bool)) (fun i=>[.int .i64 (i.1 : Nat)]) (fun i w'=>i.1≤l.length∧(∀ x y : Nat,Qx i.2 (l.drop i.1) x y=Qx f l x y)∧StX noX w0 (r.or s1) w' (.cell bt (zL i.2) 208::M)) (fun i=>l.length - i.1) (0,f) rfl ⟨Nat.zero_le _,fun x y=>rfl,S⟩ ?_
 clear S
 rintro ⟨i,g⟩ d w2 ⟨hi,hbit,S⟩ K3 hK3
 simp only at hi hbit S ⊢
 rw [List.getD_cons_zero]
 refine gg_ ?_
 refine zh (fun hlt=>?_) (fun hge=>?_)
 rotate_left
 ·have hie : i=l.length:=by omega
  refine h _ ?_
  have e : zL g=zL (Qx f l):=yB fun x y _ _=>by
   have:=hbit x y
   rw [hie,List.drop_length] at this
   rw [← this]
   show g x y=(g x y||kQ x y [])
   rw [kQ,Bool.or_false]
  rw [← e]
  exact S.to r
 have hlt : i<l.length:=by omega
 have hdrop : l.drop i=l[i]::l.drop (i+1):=List.drop_eq_getElem_cons hlt
 obtain ⟨ha0,ha8⟩:=hx _ (List.getElem_mem hlt)
 obtain ⟨bq,oq,rfl,hxi⟩:=afR hs7 (S.holds.le (h:=inferInstance)) hlt
 generalize hai : l[i]=a at hdrop ha0 ha8 hxi
 have hrl : (l.drop (i+1)).length=l.length - (i+1):=List.length_drop
 refine gg_ ?_
 refine zi (ι:=Nat) (fun j=>[.int .i64 ((i : Int)+1+(j : Nat))]) (fun j w'=>j≤(l.drop (i+1)).length∧StX noX w0 (r.or s1) w' (.cell bt (zL (Z0 g a ((l.drop (i+1)).take j))) 208::M)) (fun j=>(l.drop (i+1)).length - j) 0 (by simp) ⟨Nat.zero_le _,by
  rw [yB (f:=Z0 g a ((l.drop (i+1)).take 0)) (g:=g) (fun x y _ _=>by simp [Z0])]
  exact S⟩ ?_
 clear S
 rintro j d w3 ⟨hj,S⟩ K7 hK7
 rw [List.getD_cons_zero]
 refine gg_ ?_
 refine zh (fun hlt2=>?_) (fun hge2=>?_)
 ·have hlt2 : j<(l.drop (i+1)).length:=by omega
  have hlt3 : i+1+j<l.length:=by omega
  have hel : (l.drop (i+1))[j]=l[i+1+j]:=List.getElem_drop
  obtain ⟨bk,ok,hbe,hxk⟩:=afR hs7 (S.holds.le (h:=inferInstance)) hlt3
  cases hbe
  obtain ⟨hi0,hi8⟩:=hx _ (List.getElem_mem hlt3)
  have S:=S.go (Ext.drew _)
  rw [show ((i : Int)+1+(j : Nat))=((i+1+j : Nat) : Int) by omega]
  refine gg_ ?_
  refine zp (by rw [Int.toNat_natCast];exact S.at hxk) ?_
  refine gg_ ?_
  refine zp (by simpa using S.at hxi) ?_
  refine gg_ ?_
  refine S.st (b:=bt) (fun w4 S=>?_) (by rw [jM];omega)
  refine gg_ ?_
  rw [show (((i+1+j : Nat) : Int)+1)=((i : Int)+1+((j+1 : Nat) : Int)) by omega]
  refine hK7 (j+1) _ ⟨hlt2,?_⟩ (by omega)
  rw [show 0+l[i+1+j].toNat*8+a.toNat*1=l[i+1+j].toNat*8+a.toNat by omega,Qv (by omega) (by omega)] at S
  rw [yB (f:=Z0 g a ((l.drop (i+1)).take (j+1))) (g:=fun x y=>Z0 g a ((l.drop (i+1)).take j) x y||(decide (x=l[i+1+j].toNat)&&decide (y=a.toNat))) (fun x y _ _=>by
   show (g x y||(decide (a=(y : Int))&&((l.drop (i+1)).take (j+1)).contains (x : Int)))=((g x y||(decide (a=(y : Int))&&((l.drop (i+1)).take j).contains (x : Int)))||(decide (x=l[i+1+j].toNat)&&decide (y=a.toNat)))
   rw [aem hlt2,hel,show decide ((x : Int)=l[i+1+j])=decide (x=l[i+1+j].toNat) from decide_eq_decide.2 (by omega),show decide (a=(y : Int))=decide (y=a.toNat) from decide_eq_decide.2 (by omega)]
   cases g x y<;>cases decide (y=a.toNat)<;>cases ((l.drop (i+1)).take j).contains (x : Int)<;>cases decide (x=l[i+1+j].toNat)<;>rfl)]
  exact S
 ·have hje : j=(l.drop (i+1)).length:=by omega
  rw [hje,List.take_length] at S
  refine gg_ ?_
  rw [show ((i : Int)+1)=((i+1 : Nat) : Int) by omega]
  refine hK3 (i+1,Z0 g a (l.drop (i+1))) _ ⟨hlt,fun x y=>?_,S⟩ (by simp only;omega)
  rw [← hbit x y,hdrop]
  show ((g x y||(decide (a=(y : Int))&&(l.drop (i+1)).contains (x : Int)))||kQ x y (l.drop (i+1)))=(g x y||kQ x y (a::l.drop (i+1)))
  rw [acw,Bool.or_assoc]
end Go.Proofs
end
section
namespace Go.Proofs
open Go.Sh
set_option maxRecDepth 100000
set_option linter.unusedSimpArgs false
set_option linter.unusedVariables false
set_option maxHeartbeats 8000000 in
theorem aeJ {u : UnD} {i : Nat} {v : Value} {w : World} {r : Gh} {K : Value→World→Prop} (hi : i<u.fs.length) (hok : (zw u.ss).2=0) (hr : Holds r w) (hu : UnG r v u)
  (h : ∀ w',Ext w w'→K (.bool (yU u i u.fs[i])) w') : zd Tryz.prog Tryz.Yz #[v,.int .i64 (i : Nat)] w K:=by
 obtain ⟨p0,cap0,vf,rfl,_,_,hst,hsl,hfn⟩:=hu
 obtain ⟨qf,capf,rfl,_,_⟩:=hfn.sl.shape
 obtain ⟨bf,of,cf,rfl,hcf,hgc,hfo⟩:=hfn.sl.get (by decide) hi
 have hfl : u.fs.length≤9223372036854775807:=hfn.few
 refine Tryz.ade ?_
 unfold Tryz.J0
 generalize hgi : u.fs[i]=g at h hgc
 obtain ⟨vo,vt,vn,vp,rfl,h1,h2,h3,h4⟩:=id hgc
 obtain ⟨qo,capo,rfl,_,_⟩:=h1.sl.shape
 obtain ⟨qt,capt,rfl,_,hct⟩:=h2.sl.shape
 obtain ⟨qn,capn,rfl,_,_⟩:=h3.sl.shape
 obtain ⟨qp,capp,rfl,_,_⟩:=h4.sl.shape
 have hptl : g.pts.length≤9223372036854775807:=h4.few
 have htl : g.tys.length≤9223372036854775807:=h2.few
 have hol : g.outs.length≤9223372036854775807:=h1.few
 have S:=St.start hr
 refine S.box fun b2 w1 S=>?_
 have S : StX noX w r w1 [.cell b2 [.slice p0 u.ss.length cap0,.slice (some ⟨bf,of,none⟩) u.fs.length capf,.int .i64 u.mn] 25]:=S
 refine gg_ ?_
 refine zq (n:=7) hcf (fun j v hj=>by rw [Int.toNat_natCast];exact S.at (hfo j v hj)) ?_
 refine S.al fun b5 w2 S=>?_
 refine S.stB (b:=b5) fun w3 S=>?_
 have S : StX noX w r w3 [.cell b5 [.string g.name,.int .i64 g.lv,.slice qo g.outs.length capo,.int .i64 g.pn,.slice qt g.tys.length capt,.slice qn g.nms.length capn,.slice qp g.pts.length capp] 33,
  .cell b2 [.slice p0 u.ss.length cap0,.slice (some ⟨bf,of,none⟩) u.fs.length capf,.int .i64 u.mn] 25]:=S
 refine gg_ ?_
 have no : (HeadU u i g→False)→yU u i g=false:=fun hh=>by
  cases e : yU u i g
  ·rfl
  ·exact (hh (abc e)).elim
 refine zf (c:=decide (8<g.lv)) (fun _ K2 hK2=>by refine gg_ ?_;exact hK2) ?_
 refine zf (c:=decide (g.pn<0)) (fun _ K2 hK2=>by refine gg_ ?_;exact hK2) ?_
 refine zf (c:=decide (8<g.pn)) (fun _ K2 hK2=>by refine gg_ ?_;exact hK2) ?_
 refine zf (c:=decide ((g.tys.length : Int)≤g.pn)) (fun _ K2 hK2=>by refine gg_ ?_;exact hK2) ?_
 refine zf (c:=decide (512<g.tys.length)) (fun _ K2 hK2=>?_) ?_
 ·refine gg_ ?_
  rw [show decide ((512 : Int)<(g.tys.length : Int))=decide (512<g.tys.length) from decide_eq_decide.2 (by omega)]
  exact hK2
 refine zf (c:=decide (g.nms.length≠g.tys.length)) (fun _ K2 hK2=>?_) ?_
 ·refine gg_ ?_
  rw [abd]
  exact hK2
 refine c_b (fun hbad=>?_) (fun hgood=>?_)
 ·rw [no fun H=>by
   have:=H.lv0;have:=H.lv8;have:=H.pn0;have:=H.pn8;have:=H.pn1;have:=H.ty512;have:=H.nms
   simp only [Bool.or_eq_true,decide_eq_true_eq] at hbad;omega] at h
  exact h _ S.ext
 have hnum : (0≤g.lv∧g.lv≤8∧0≤g.pn∧g.pn≤8)∧g.pn<g.tys.length∧g.tys.length≤512∧g.nms.length=g.tys.length:=by
  simp only [Bool.or_eq_false_iff,decide_eq_false_iff_not] at hgood;omega
 clear hgood
 obtain ⟨⟨hlv0,hlv8,hpn0,hpn8⟩,hpn1,hty,hnm⟩:=hnum
 refine zi (ι:=Nat) (fun i=>[.int .i64 (i : Nat)]) (fun j w'=>j≤g.tys.length∧jm u g j (g.tys.drop j)=jm u g 0 g.tys∧StX noX w r w' [.cell b5 [.string g.name,.int .i64 g.lv,.slice qo g.outs.length capo,.int .i64 g.pn,.slice qt g.tys.length capt,.slice qn g.nms.length capn,.slice qp g.pts.length capp] 33,
  .cell b2 [.slice p0 u.ss.length cap0,.slice (some ⟨bf,of,none⟩) u.fs.length capf,.int .i64 u.mn] 25]) (fun i=>g.tys.length - i) 0 rfl ⟨Nat.zero_le _,rfl,S⟩ ?_
 clear S
 rintro j d w5 ⟨hj,hd,S⟩ K6 hK6
 rw [List.getD_cons_zero]
 refine gg_ ?_
 refine zh (fun hlt=>?_) (fun hge=>?_)
 ·have hlt : j<g.tys.length:=by omega
  obtain ⟨bt,ot,ct,rfl,hct,htc,hcell⟩:=h2.sl.get (by decide) hlt
  obtain ⟨q2,cap2,rfl,ht2⟩:=y6 htc
  rw [acD hlt] at hd
  have S:=S.go (Ext.drew _)
  refine gg_ ?_
  refine zq (n:=5) hct (fun j v hj=>by rw [Int.toNat_natCast];exact S.at (hcell j v hj)) ?_
  refine gg_ ?_
  refine vL 48 (by decide) S.holds ht2 fun w8 e8=>?_
  have S:=S.go e8
  rw [aeC]
  refine gp_ ?_
  have hmay : zY u.ss g.tys[j]=zz u.ss.length 48 g.tys[j]:=by rw [zY,decide_eq_true hok,Bool.true_and]
  rw [← hmay]
  refine c_b (fun hm=>?_) (fun hm=>?_)
  ·have hm : zY u.ss g.tys[j]=false:=by simpa using hm
   rw [no fun H=>by
    have:=H.tys
    rw [← hd,tyG,hm,Bool.false_and,Bool.false_and] at this;cases this] at h
   exact h _ S.ext
  have hm : zY u.ss g.tys[j]=true:=by simpa using hm
  refine gg_ ?_
  refine zq (n:=5) hct (fun j v hj=>by rw [Int.toNat_natCast];exact S.at (hcell j v hj)) ?_
  refine Xq S.holds ht2 fun v7 w12 e12 o12=>?_
  obtain ⟨s7,p7,cap7,n7,nb7,rfl,_,_,hs7⟩:=adY o12
  have S:=S.new e12 n7
  have hlow : ∀ x ∈ regsT g.tys[j],-1≤x:=fun x hx=>by
   rw [regsT] at hx
   split at hx
   ·exact ahl 48 (YV hm).2 x hx
   ·cases hx
  have hr48 : (regsT g.tys[j]).length≤1000:=by
   rw [regsT];split
   ·have:=Xr (by assumption);omega
   ·simp
  have hty2 : tyG u g j g.tys[j] = !((regsT g.tys[j]).any fun x=>decide (g.lv≤x)||(decide ((j : Int)≤g.pn)&&decide (x<0))):=by
   rw [afj,hm,Bool.true_and]
   congr 1
   rw [Bool.eq_iff_iff,List.any_eq_true,List.any_eq_true]
   constructor<;>rintro ⟨x,hx,hc⟩<;>refine ⟨x,hx,?_⟩<;>have:=hlow x hx<;>simp only [Bool.or_eq_true,Bool.and_eq_true,decide_eq_true_eq] at hc ⊢
   ·rcases hc with hc|hc
    ·split at hc
     ·exact .inr ⟨by assumption,hc⟩
     ·omega
    ·exact .inl hc
   ·rcases hc with hc|⟨hc,hc2⟩
    ·exact .inr hc
    ·rw [if_pos hc];exact .inl hc2
  generalize regsT g.tys[j]=l at hs7 hr48 hty2 ⊢
  refine zi (ι:=Nat) (fun k=>[.int .i64 (k : Nat)]) (fun k w'=>k≤l.length∧((l.take k).any fun x=>decide (g.lv≤x)||(decide ((j : Int)≤g.pn)&&decide (x<0)))=false∧StX noX w (r.or s7) w' [.cell b5 [.string g.name,.int .i64 g.lv,.slice qo g.outs.length capo,.int .i64 g.pn,.slice (some ⟨bt,ot,none⟩) g.tys.length capt,.slice qn g.nms.length capn,.slice qp g.pts.length capp] 33,
   .cell b2 [.slice p0 u.ss.length cap0,.slice (some ⟨bf,of,none⟩) u.fs.length capf,.int .i64 u.mn] 25]) (fun k=>l.length - k) 0 rfl ⟨Nat.zero_le _,by simp,S⟩ ?_
  clear S
  rintro k d w13 ⟨hk,hany,S⟩ K7 hK7
  rw [List.getD_cons_zero]
  refine gg_ ?_
  refine zh (fun hlt2=>?_) (fun hge2=>?_)
  ·have hlt2 : k<l.length:=by omega
   obtain ⟨bk,ok,rfl,hxk⟩:=afR hs7 (S.holds.le (h:=inferInstance)) hlt2
   have S:=S.go (Ext.drew _)
   refine gg_ ?_
   refine zp (by simpa using S.at hxk) ?_
   refine gg_ ?_
   refine Zh (g:=decide ((j : Int)≤g.pn)) (c:=decide (l[k]<0)) (fun _ K2 hK2=>by refine gg_ ?_;exact hK2) (fun _ K2 hK2=>?_) ?_
   ·refine gg_ ?_
    refine zp (by simpa using S.at hxk) ?_
    refine gg_ ?_
    exact hK2
   refine c_b (fun hbad=>?_) (fun hgood=>?_)
   ·have hA : (l.any fun x=>decide (g.lv≤x)||(decide ((j : Int)≤g.pn)&&decide (x<0)))=true:=List.any_eq_true.2 ⟨_,List.getElem_mem hlt2,hbad⟩
    rw [hty2,hA,Bool.not_true,Bool.false_and] at hd
    rw [no fun H=>by have:=H.tys;rw [← hd] at this;cases this] at h
    exact h _ S.ext
   ·refine gg_ ?_
    rw [show ((k : Int)+1)=((k+1 : Nat) : Int) by omega]
    refine hK7 (k+1) _ ⟨hlt2,?_,S⟩ (by omega)
    rw [List.take_succ_eq_append_getElem hlt2,List.any_append,hany]
    simp only [List.any_cons,List.any_nil,Bool.false_or,Bool.or_false]
    exact hgood
  ·have hke : k=l.length:=by omega
   rw [hke,List.take_length] at hany
   rw [hty2,hany,Bool.not_false,Bool.true_and] at hd
   refine gg_ ?_
   rw [show ((j : Int)+1)=((j+1 : Nat) : Int) by omega]
   exact hK6 (j+1) _ ⟨hlt,hd,S.to r⟩ (by omega)
 have hje : j=g.tys.length:=by omega
 rw [hje,List.drop_length] at hd
 have htys : jm u g 0 g.tys=true:=hd.symm
 clear hd hK6 K6 hge hj hje
 refine S.al fun b9 w20 S=>?_
 refine S.al fun b10 w21 S=>?_
 have S : StX noX w r w21 [.cell b9 (zL fun _ _=>false) 208,.cell b10 (zL fun _ _=>false) 208,.cell b5 [.string g.name,.int .i64 g.lv,.slice qo g.outs.length capo,.int .i64 g.pn,.slice qt g.tys.length capt,.slice qn g.nms.length capn,.slice qp g.pts.length capp] 33,
  .cell b2 [.slice p0 u.ss.length cap0,.slice (some ⟨bf,of,none⟩) u.fs.length capf,.int .i64 u.mn] 25]:=S.swap
 refine zi (ι:=Nat) (fun i=>[.int .i64 (i : Nat)]) (fun j w'=>j≤g.pn.toNat+1∧StX noX w r w' [.cell b9 (zL (muF (g.tys.take j))) 208,.cell b10 (zL fun _ _=>false) 208,.cell b5 [.string g.name,.int .i64 g.lv,.slice qo g.outs.length capo,.int .i64 g.pn,.slice qt g.tys.length capt,.slice qn g.nms.length capn,.slice qp g.pts.length capp] 33,
  .cell b2 [.slice p0 u.ss.length cap0,.slice (some ⟨bf,of,none⟩) u.fs.length capf,.int .i64 u.mn] 25]) (fun i=>g.pn.toNat+1 - i) 0 rfl ⟨Nat.zero_le _,by
   rw [yB (f:=muF (g.tys.take 0)) (g:=fun _ _=>false) (fun x y _ _=>by simp [muF,jF])]
   exact S⟩ ?_
 clear S
 rintro j d w22 ⟨hj,S⟩ K6 hK6
 rw [List.getD_cons_zero]
 refine gg_ ?_
 refine zh (fun hlt=>?_) (fun hge=>?_)
 ·have hlt : j<g.tys.length:=by omega
  obtain ⟨bt,ot,ct,rfl,hct,htc,hcell⟩:=h2.sl.get (by decide) hlt
  obtain ⟨q2,cap2,rfl,ht2⟩:=y6 htc
  refine gg_ ?_
  refine zq (n:=5) hct (fun j v hj=>by rw [Int.toNat_natCast];exact S.at (hcell j v hj)) ?_
  have hreg : ∀ x ∈ regsT g.tys[j],0≤x∧x<8:=fun x hx=>by
   have:=aaj htys (j:=j) hlt (by omega) x hx
   omega
  refine aeI ht2 hreg S fun w23 S=>?_
  refine gg_ ?_
  rw [show ((j : Int)+1)=((j+1 : Nat) : Int) by omega]
  refine hK6 (j+1) _ ⟨by omega,?_⟩ (by omega)
  rw [yB (f:=muF (g.tys.take (j+1))) (g:=Qx (muF (g.tys.take j)) (regsT g.tys[j])) (fun x y _ _=>acx hlt)]
  exact S
 have hje : j=g.pn.toNat+1:=by omega
 rw [hje] at S
 clear hK6 K6 hge hj hje
 have hout : jd g=true↔qm g.lv none g.outs=true∧(List.range g.lv.toNat).all (clF g.lv.toNat (muF (g.tys.take (g.pn.toNat+1))) (syF g.outs))=true:=by
  rw [jd,← acB,afi,Bool.and_eq_true]
 have nout : jd g=false→yU u i g=false:=fun e=>no fun H=>by have:=H.outs;rw [e] at this;cases this
 generalize hmu : muF (g.tys.take (g.pn.toNat+1))=mu at hout S
 refine zi (ι:=Nat) (fun i=>[.int .i64 (i : Nat)]) (fun i w'=>i≤g.outs.length∧qm g.lv (qF g.outs i) (g.outs.drop i)=qm g.lv none g.outs∧
  StX noX w r w' [.cell b9 (zL mu) 208,.cell b10 (zL (syF (g.outs.take i))) 208,.cell b5 [.string g.name,.int .i64 g.lv,.slice qo g.outs.length capo,.int .i64 g.pn,.slice qt g.tys.length capt,.slice qn g.nms.length capn,.slice qp g.pts.length capp] 33,
  .cell b2 [.slice p0 u.ss.length cap0,.slice (some ⟨bf,of,none⟩) u.fs.length capf,.int .i64 u.mn] 25]) (fun i=>g.outs.length - i) 0 rfl
  ⟨Nat.zero_le _,rfl,by
   rw [yB (f:=syF (g.outs.take 0)) (g:=fun _ _=>false) (fun x y _ _=>by simp [syF,jc])]
   exact S⟩ ?_
 clear S
 rintro k d w24 ⟨hk,hd,S⟩ K6 hK6
 rw [List.getD_cons_zero]
 refine gg_ ?_
 refine zh (fun hlt=>?_) (fun hge=>?_)
 ·have hlt : k<g.outs.length:=by omega
  obtain ⟨bo,oo,co,rfl,hco,hoo,hoc⟩:=h1.sl.get (by decide) hlt
  obtain rfl : co=_:=hoo
  rw [aeo hlt] at hd
  have hgo:=fun (j : Nat) (hj : j<g.outs.length)=>h1.sl.get (by decide) hj
  obtain ⟨⟨o1,o2⟩,ho⟩ : ∃ o,g.outs[k]=o:=⟨_,rfl⟩
  rw [ho] at hd
  have hst : syF (g.outs.take (k+1))=fun x y=>syF (g.outs.take k) x y||(decide ((x : Int)=o1)&&decide ((y : Int)=o2)):=by
   funext x y
   show jc _ _ _=(jc _ _ _||_)
   rw [acz hlt,ho]
  have hno : qm g.lv none g.outs=false→∀ w',Ext w w'→K (.bool false) w':=fun e w' ew=>by
   have:=h w' ew
   rw [nout (by
    cases ho : jd g with
    |false=>rfl
    |true=>rw [(hout.1 ho).1] at e;cases e)] at this
   exact this
  refine gg_ ?_
  refine zq (n:=2) hco (fun j v hj=>by rw [Int.toNat_natCast];exact S.at (hoc j v hj)) ?_
  rw [ho]
  refine S.al fun b13 w25 S=>?_
  refine S.stB (b:=b13) fun w26 S=>?_
  refine gg_ ?_
  refine zf (c:=decide (g.lv≤o1)) (fun _ K2 hK2=>by refine gg_ ?_;exact hK2) ?_
  refine zf (c:=decide (o2<0)) (fun _ K2 hK2=>by refine gg_ ?_;exact hK2) ?_
  refine zf (c:=decide (g.lv≤o2)) (fun _ K2 hK2=>by refine gg_ ?_;exact hK2) ?_
  refine zf (c:=decide (o1=o2)) (fun _ K2 hK2=>by refine gg_ ?_;exact hK2) ?_
  have hio : ku g.lv (o1,o2) = !((((decide (o1<0)||decide (g.lv≤o1))||decide (o2<0))||decide (g.lv≤o2))||decide (o1=o2)):=by
   rw [ku]
   congr 1
   rw [Bool.eq_iff_iff]
   simp only [Bool.or_eq_true,decide_eq_true_eq]
   omega
  refine c_b (fun hbad=>?_) (fun hgood=>?_)
  ·rw [hio,hbad,Bool.not_true,Bool.false_and,Bool.false_and] at hd
   exact hno hd.symm _ S.ext
  rw [hio,hgood,Bool.not_false,Bool.true_and] at hd
  have hrg : (0≤o1∧o1<8)∧(0≤o2∧o2<8):=by
   simp only [Bool.or_eq_false_iff,decide_eq_false_iff_not] at hgood;omega
  clear hgood hio
  obtain ⟨⟨ho10,ho18⟩,ho20,ho28⟩:=hrg
  have S:=S.go (Ext.drew _)
  obtain ⟨⟨p1,p2⟩,hp⟩ : ∃ o,(g.outs[k - 1]?).getD (0,0)=o:=⟨_,rfl⟩
  have hpv : 0<k→∃ (hl : k - 1<g.outs.length),g.outs[k - 1]=(p1,p2):=fun hpos=>by
   have hl : k - 1<g.outs.length:=by omega
   rw [List.getElem?_eq_getElem hl] at hp
   exact ⟨hl,hp⟩
  have hprev : 0<k→∀ j v,[Value.int .i64 p1,.int .i64 p2][j]? = some v→Ob r fun w=>w.cell? ⟨bo,oo+(k - 1)*2+j,none⟩=some v:=fun hpos j v hj=>by
   obtain ⟨hl,he⟩:=hpv hpos
   obtain ⟨bo2,oo2,co2,hbe,hco2,hoo2,hoc2⟩:=h1.sl.get (by decide) hl
   obtain rfl : co2=_:=hoo2
   cases hbe
   rw [he] at hoc2
   exact hoc2 j v hj
  refine gg_ ?_
  refine ahH (x:=decide (o1<p1)) (y:=decide (p1=o1)) (z:=decide (o2≤p2)) (fun hb K2 hK2=>?_) (fun hb K2 hK2=>?_) (fun hb K2 hK2=>?_) ?_
  ·have hpos : 0<k:=by simp only [decide_eq_true_eq] at hb;omega
   refine gg_ ?_
   refine zp (v:=.int .i64 p1) (by rw [show ((k : Int) - 1).toNat=k - 1 by omega];simpa using S.at (hprev hpos 0 _ rfl)) ?_
   refine gg_ ?_
   exact hK2
  ·have hpos : 0<k:=by simp only [decide_eq_true_eq] at hb;omega
   refine gg_ ?_
   refine zp (v:=.int .i64 p1) (by rw [show ((k : Int) - 1).toNat=k - 1 by omega];simpa using S.at (hprev hpos 0 _ rfl)) ?_
   refine gg_ ?_
   exact hK2
  ·have hpos : 0<k:=by simp only [decide_eq_true_eq] at hb;omega
   refine gg_ ?_
   refine zp (v:=.int .i64 p2) (by rw [show ((k : Int) - 1).toNat=k - 1 by omega];exact S.at (hprev hpos 1 _ rfl)) ?_
   refine gg_ ?_
   exact hK2
  rw [agz (o:=(o1,o2)) (w:=(p1,p2))]
  have haft : afO (qF g.outs k) (o1,o2) = !(decide ((k : Int) > 0) && !vF (p1,p2) (o1,o2)):=by
   by_cases hpos : 0<k
   ·obtain ⟨hl,he⟩:=hpv hpos
    rw [qF,if_neg (by omega),List.getElem?_eq_getElem hl,he,decide_eq_true (show (k : Int) > 0 by omega),Bool.true_and,Bool.not_not];rfl
   ·rw [qF,if_pos (by omega),decide_eq_false (show ¬ (k : Int) > 0 by omega)];rfl
  refine c_b (fun hb=>?_) (fun hb=>?_)
  ·rw [haft,hb,Bool.not_true,Bool.false_and] at hd
   exact hno hd.symm _ S.ext
  rw [haft,hb,Bool.not_false,Bool.true_and] at hd
  have S:=S.go (Ext.drew _)
  refine gg_ ?_
  refine S.st (b:=b10) (fun w27 S=>?_) (by rw [jM];omega)
  refine gg_ ?_
  rw [show ((k : Int)+1)=((k+1 : Nat) : Int) by omega]
  refine hK6 (k+1) _ ⟨hlt,hd,?_⟩ (by omega)
  rw [show 0+o1.toNat*8+o2.toNat*1=o1.toNat*8+o2.toNat by omega,Qv (by omega) (by omega)] at S
  rw [hst,yB (f:=fun x y=>syF (g.outs.take k) x y||(decide ((x : Int)=o1)&&decide ((y : Int)=o2))) (g:=fun x y=>syF (g.outs.take k) x y||(decide (x=o1.toNat)&&decide (y=o2.toNat))) (fun x y _ _=>by
   show (syF (g.outs.take k) x y||(decide ((x : Int)=o1)&&decide ((y : Int)=o2)))=(syF (g.outs.take k) x y||(decide (x=o1.toNat)&&decide (y=o2.toNat)))
   rw [show decide ((x : Int)=o1)=decide (x=o1.toNat) from decide_eq_decide.2 (by omega),show decide ((y : Int)=o2)=decide (y=o2.toNat) from decide_eq_decide.2 (by omega)])]
  exact S.drop b13
 have hke : k=g.outs.length:=by omega
 rw [hke,List.take_length] at S
 rw [hke,List.drop_length] at hd
 have hoR : qm g.lv none g.outs=true:=by rw [← hd];rfl
 clear hd hK6 K6 hge hk hke
 generalize hsy : syF g.outs=sy at hout S
 obtain ⟨n,hn⟩ : ∃ n : Nat,g.lv.toNat=n:=⟨_,rfl⟩
 have hn8 : n≤8:=by omega
 have hlvn : g.lv=(n : Int):=by omega
 rw [hn] at hout
 have hno : (List.range n).all (clF n mu sy)=false→∀ w',Ext w w'→K (.bool false) w':=fun e w' ew=>by
  have:=h w' ew
  rw [nout (by
   cases ho : jd g with
   |false=>rfl
   |true=>rw [(hout.1 ho).2] at e;cases e)] at this
  exact this
 refine zi (ι:=Nat) (fun i=>[.int .i64 (i : Nat)]) (fun i w'=>i≤n∧((List.range n).drop i).all (clF n mu sy)=(List.range n).all (clF n mu sy)∧
  StX noX w r w' [.cell b9 (zL mu) 208,.cell b10 (zL sy) 208,.cell b5 [.string g.name,.int .i64 g.lv,.slice qo g.outs.length capo,.int .i64 g.pn,.slice qt g.tys.length capt,.slice qn g.nms.length capn,.slice qp g.pts.length capp] 33,
  .cell b2 [.slice p0 u.ss.length cap0,.slice (some ⟨bf,of,none⟩) u.fs.length capf,.int .i64 u.mn] 25]) (fun i=>n - i) 0 rfl ⟨Nat.zero_le _,rfl,S⟩ ?_
 clear S
 rintro a d2 w30 ⟨ha,hda,S⟩ K7 hK7
 rw [List.getD_cons_zero]
 refine gg_ ?_
 rw [hlvn]
 refine zh (fun hlta=>?_) (fun hgea=>?_)
 ·have hlta : a<n:=by omega
  rw [j2 hlta] at hda
  refine zi (ι:=Nat) (fun i=>[.int .i64 (i : Nat)]) (fun i w'=>i≤n∧((List.range n).drop i).all (clG n mu sy a)=(List.range n).all (clG n mu sy a)∧
   StX noX w r w' [.cell b9 (zL mu) 208,.cell b10 (zL sy) 208,.cell b5 [.string g.name,.int .i64 g.lv,.slice qo g.outs.length capo,.int .i64 g.pn,.slice qt g.tys.length capt,.slice qn g.nms.length capn,.slice qp g.pts.length capp] 33,
   .cell b2 [.slice p0 u.ss.length cap0,.slice (some ⟨bf,of,none⟩) u.fs.length capf,.int .i64 u.mn] 25]) (fun i=>n - i) 0 rfl ⟨Nat.zero_le _,rfl,S⟩ ?_
  clear S
  rintro b d3 w31 ⟨hb,hdb,S⟩ K8 hK8
  rw [List.getD_cons_zero]
  refine gg_ ?_
  rw [hlvn]
  refine zh (fun hltb=>?_) (fun hgeb=>?_)
  rotate_left
  ·have hbe : b=n:=by omega
   rw [hbe,j3] at hdb
   have hF : clF n mu sy a=true:=hdb.symm
   rw [hF,Bool.true_and] at hda
   refine gg_ ?_
   rw [show ((a : Int)+1)=((a+1 : Nat) : Int) by omega]
   exact hK7 (a+1) _ ⟨hlta,hda,S⟩ (by omega)
  have hltb : b<n:=by omega
  rw [j2 hltb] at hdb
  have hfalse : clG n mu sy a b=false→(List.range n).all (clF n mu sy)=false:=fun e=>by
   rw [e,Bool.false_and] at hdb
   have hF : clF n mu sy a=false:=hdb.symm
   rw [hF,Bool.false_and] at hda
   exact hda.symm
  refine gg_ ?_
  refine zg (c:=mu a b) (fun _ K2 hK2=>?_) ?_
  ·refine gg_ ?_
   refine S.ld (b:=b9) ?_ (jr (f:=mu) (by omega) (by omega))
   exact hK2
  refine zg (c:=!sy a b) (fun _ K2 hK2=>?_) ?_
  ·refine gg_ ?_
   refine S.ld (b:=b10) ?_ (jr (f:=sy) (by omega) (by omega))
   refine gg_ ?_
   exact hK2
  have hG : clG n mu sy a b=((List.range n).all (clH sy a b) && !((decide ((a : Int)≠(b : Int))&&mu a b) && !sy a b)):=by
   rw [clG,Bool.and_assoc,show decide ((a : Int)≠(b : Int)) = !decide (a=b) from by rw [← decide_not];exact decide_eq_decide.2 (by omega)]
  refine c_b (fun hbad=>?_) (fun hgood=>?_)
  ·exact hno (hfalse (by rw [hG,hbad,Bool.not_true,Bool.and_false])) _ S.ext
  rw [hgood,Bool.not_false,Bool.and_true] at hG
  refine zi (ι:=Nat) (fun i=>[.int .i64 (i : Nat)]) (fun i w'=>i≤n∧((List.range n).drop i).all (clH sy a b)=(List.range n).all (clH sy a b)∧
   StX noX w r w' [.cell b9 (zL mu) 208,.cell b10 (zL sy) 208,.cell b5 [.string g.name,.int .i64 g.lv,.slice qo g.outs.length capo,.int .i64 g.pn,.slice qt g.tys.length capt,.slice qn g.nms.length capn,.slice qp g.pts.length capp] 33,
   .cell b2 [.slice p0 u.ss.length cap0,.slice (some ⟨bf,of,none⟩) u.fs.length capf,.int .i64 u.mn] 25]) (fun i=>n - i) 0 rfl ⟨Nat.zero_le _,rfl,S⟩ ?_
  clear S
  rintro cc d4 w32 ⟨hc,hdc,S⟩ K9 hK9
  rw [List.getD_cons_zero]
  refine gg_ ?_
  rw [hlvn]
  refine zh (fun hltc=>?_) (fun hgec=>?_)
  ·have hltc : cc<n:=by omega
   rw [j2 hltc] at hdc
   refine gg_ ?_
   refine zg (c:=sy a b) (fun _ K2 hK2=>?_) ?_
   ·refine gg_ ?_
    refine S.ld (b:=b10) ?_ (jr (f:=sy) (by omega) (by omega))
    exact hK2
   refine zg (c:=sy b cc) (fun _ K2 hK2=>?_) ?_
   ·refine gg_ ?_
    refine S.ld (b:=b10) ?_ (jr (f:=sy) (by omega) (by omega))
    exact hK2
   refine zg (c:=!sy a cc) (fun _ K2 hK2=>?_) ?_
   ·refine gg_ ?_
    refine S.ld (b:=b10) ?_ (jr (f:=sy) (by omega) (by omega))
    refine gg_ ?_
    exact hK2
   have hH : clH sy a b cc = !(((decide ((a : Int)≠(cc : Int))&&sy a b)&&sy b cc) && !sy a cc):=by
    rw [clH,show decide ((a : Int)≠(cc : Int)) = !decide (a=cc) from by rw [← decide_not];exact decide_eq_decide.2 (by omega)]
    congr 1
    ac_rfl
   refine c_b (fun hbad=>?_) (fun hgood2=>?_)
   ·rw [hH,hbad,Bool.not_true,Bool.false_and] at hdc
    exact hno (hfalse (by rw [hG,← hdc])) _ S.ext
   ·rw [hH,hgood2,Bool.not_false,Bool.true_and] at hdc
    refine gg_ ?_
    rw [show ((cc : Int)+1)=((cc+1 : Nat) : Int) by omega]
    exact hK9 (cc+1) _ ⟨hltc,hdc,S⟩ (by omega)
  have hce : cc=n:=by omega
  rw [hce,j3] at hdc
  rw [hG,← hdc,Bool.true_and] at hdb
  refine gg_ ?_
  rw [show ((b : Int)+1)=((b+1 : Nat) : Int) by omega]
  exact hK8 (b+1) _ ⟨hltb,hdb,S⟩ (by omega)
 have hae : a=n:=by omega
 rw [hae,j3] at hda
 have hog : jd g=true:=hout.2 ⟨hoR,hda.symm⟩
 clear hda hK7 K7 hgea hae ha hno nout
 refine zi (ι:=Nat) (fun i=>[.int .i64 (yo (g.pts.take i) : Nat),.int .i64 (i : Nat)]) (fun i w'=>i≤g.pts.length∧i≤1025∧StX noX w r w' [.cell b9 (zL mu) 208,.cell b10 (zL sy) 208,.cell b5 [.string g.name,.int .i64 g.lv,.slice qo g.outs.length capo,.int .i64 g.pn,.slice qt g.tys.length capt,.slice qn g.nms.length capn,.slice qp g.pts.length capp] 33,
  .cell b2 [.slice p0 u.ss.length cap0,.slice (some ⟨bf,of,none⟩) u.fs.length capf,.int .i64 u.mn] 25]) (fun i=>g.pts.length - i) 0 rfl ⟨Nat.zero_le _,Nat.zero_le _,S⟩ ?_
 clear S
 rintro k d5 w33 ⟨hk,hk2,S⟩ K5 hK5
 simp only [List.getD_cons_zero,List.getD_cons_succ]
 have hlk : yo (g.pts.take k)≤k:=by
  have:=List.countP_le_length (p:=fun p : PtD=>decide (p.op=4)) (l:=g.pts.take k)
  rw [List.length_take] at this
  show List.countP _ _≤k
  omega
 refine gg_ ?_
 refine zg (c:=decide (k≤1024)) (fun _ K2 hK2=>?_) ?_
 ·refine gg_ ?_
  rw [show decide ((k : Int)≤1024)=decide (k≤1024) from decide_eq_decide.2 (by omega)]
  exact hK2
 refine c_b (fun hgo=>?_) (fun hstop=>?_)
 ·simp only [Bool.and_eq_true,decide_eq_true_eq] at hgo
  have hlt : k<g.pts.length:=by omega
  have hlt':=Qw hlt
  obtain ⟨bp,op,cp,rfl,hcp,hpc,hpo⟩:=h4.sl.get (by decide) hlt
  obtain ⟨x1,x2,x3,x4,x5,y1,y2,y3,y4,y5,rfl,_⟩:=yj hpc
  have lop : Ob r fun w=>w.cell? ⟨bp,op+k*21,none⟩=some (.int .u8 g.pts[k].op):=by simpa using hpo 0 _ rfl
  refine zu (fun s w'=>s = [.int .i64 (yo (g.pts.take (k+1)) : Nat)]∧w'=w33) (fun K9 hK9=>?_) ?_
  rotate_left
  ·rintro _ _ ⟨rfl,rfl⟩ d6
   rw [List.getD_cons_zero]
   refine gg_ ?_
   rw [show ((k : Int)+1)=((k+1 : Nat) : Int) by omega]
   exact hK5 (k+1) _ ⟨hlt,by omega,S⟩ (by omega)
  refine gg_ ?_
  refine zp (by simpa using S.at lop) ?_
  refine gg_ ?_
  refine zh (fun h4'=>?_) (fun h4'=>?_)
  ·refine gg_ ?_
   refine hK9 _ _ ⟨?_,rfl⟩
   rw [hlt',if_pos h4'];rfl
  ·refine hK9 _ _ ⟨?_,rfl⟩
   rw [hlt',if_neg h4',Nat.add_zero]
 refine gg_ ?_
 refine zf (c:=decide (1024<g.pts.length)) (fun _ K2 hK2=>?_) ?_
 ·refine gg_ ?_
  rw [show decide ((1024 : Int)<(g.pts.length : Int))=decide (1024<g.pts.length) from decide_eq_decide.2 (by omega)]
  exact hK2
 refine zf (c:=decide (256<yo (g.pts.take k))) (fun _ K2 hK2=>?_) ?_
 ·refine gg_ ?_
  rw [show decide ((256 : Int)<(yo (g.pts.take k) : Int))=decide (256<yo (g.pts.take k)) from decide_eq_decide.2 (by omega)]
  exact hK2
 have hend : g.pts.length≤1024→g.pts.take k=g.pts:=fun hle=>by
  refine List.take_of_length_le ?_
  rw [Bool.and_eq_false_iff,decide_eq_false_iff_not,decide_eq_false_iff_not] at hstop
  omega
 refine c_b (fun hbad=>?_) (fun hgood=>?_)
 ·rw [no fun H=>by
   have h1:=H.pt1
   have h2:=H.pt1024
   have h3:=H.loans
   rw [hend h2] at hbad
   simp only [Bool.or_eq_true,decide_eq_true_eq] at hbad
   omega] at h
  exact h _ S.ext
 simp only [Bool.or_eq_false_iff,decide_eq_false_iff_not] at hgood
 rw [hend (by omega)] at hgood
 have hpos : 0<g.tys.length:=by omega
 have hhd : g.tys.headD zD=g.tys[0]:=by rw [List.headD_eq_head?_getD,List.head?_eq_getElem?,List.getElem?_eq_getElem hpos,Option.getD_some]
 obtain ⟨bt,ot,ct,rfl,hct2,htc,hcell⟩:=h2.sl.get (by decide) hpos
 obtain ⟨q2,cap2,rfl,ht2⟩:=y6 htc
 have lk : Ob r fun w=>w.cell? ⟨bt,ot,none⟩=some (.int .u8 g.tys[0].k):=by simpa using hcell 0 _ rfl
 refine gg_ ?_
 refine ai4 (c:=decide (g.lv=0)) (d:=decide (g.pn=0)) (e:=isK g.tys[0] 1) (fun K2 hK2=>by refine gg_ ?_;exact hK2) (fun K2 hK2=>by refine gg_ ?_;exact hK2) (fun K2 hK2=>?_) ?_
 ·refine gg_ ?_
  refine zp (by simpa using S.at lk) ?_
  refine gg_ ?_
  exact hK2
 have hE : yU u i g=(decide ((i : Int)≠u.mn)||((decide (g.lv=0)&&decide (g.pn=0))&&isK g.tys[0] 1)):=by
  rw [yU,decide_eq_true hlv0,decide_eq_true hlv8,decide_eq_true hpn0,decide_eq_true hpn8,decide_eq_true hpn1,decide_eq_true hty,decide_eq_true hnm,htys,hog,decide_eq_true (show 1≤g.pts.length by omega),decide_eq_true (show g.pts.length≤1024 by omega),decide_eq_true (show yo g.pts≤256 by omega),hhd,decide_not]
  simp
 rw [hE] at h
 exact h _ S.ext
end Go.Proofs
end
section
namespace Go.Proofs
open Go.Sh
set_option maxRecDepth 100000
set_option linter.unusedSimpArgs false
set_option linter.unusedVariables false
set_option maxHeartbeats 2000000 in
theorem adn {u : UnD} {v : Value} {w : World} {r : Gh} {K : Value→World→Prop} (hr : Holds r w) (hu : UnG r v u)
  (h : ∀ (a b e : Int) w',Ext w w'→(e=0↔MayU u)→K (.tuple #[.int .i64 a,.int .i64 b,.int .i64 e]) w') : zd Tryz.prog Tryz.ZP #[v] w K:=by
 refine Tryz.ab8 ?_
 unfold Tryz.Q3
 have hu0:=hu
 obtain ⟨p0,cap0,vf,rfl,_,_,hst,hsl,hfn⟩:=hu
 obtain ⟨qf,capf,rfl,_,_⟩:=hfn.sl.shape
 have hfl : u.fs.length≤9223372036854775807:=hfn.few
 have S:=St.start hr
 refine S.box fun b1 w1 S=>?_
 have S : StX noX w r w1 [.cell b1 [.slice p0 u.ss.length cap0,.slice qf u.fs.length capf,.int .i64 u.mn] 25]:=S
 have bad : ∀ {a b : Int} {w' : World},¬ MayU u→Ext w w'→K (.tuple #[.int .i64 a,.int .i64 b,.int .i64 100]) w':=fun hn e=>h _ _ _ _ e ⟨fun h=>absurd h (by decide),fun hM=>absurd hM hn⟩
 refine gg_ ?_
 refine Xz S.holds hst fun w2 e2=>?_
 have S:=S.go e2
 refine gg_ ?_
 refine zf (c:=decide (u.fs.length<1)) (fun _ K2 hK2=>?_) ?_
 ·refine gg_ ?_
  rw [show decide ((u.fs.length : Int)<1)=decide (u.fs.length<1) from decide_eq_decide.2 (by omega)]
  exact hK2
 refine zf (c:=decide (32<u.fs.length)) (fun _ K2 hK2=>?_) ?_
 ·refine gg_ ?_
  rw [show decide ((32 : Int)<(u.fs.length : Int))=decide (32<u.fs.length) from decide_eq_decide.2 (by omega)]
  exact hK2
 refine zf (c:=decide (u.mn<0)) (fun _ K2 hK2=>by refine gg_ ?_;exact hK2) ?_
 refine zf (c:=decide ((u.fs.length : Int)≤u.mn)) (fun _ K2 hK2=>by refine gg_ ?_;exact hK2) ?_
 refine c_b (fun hbad=>?_) (fun hgood=>?_)
 ·refine bad (fun hM=>?_) S.ext
  have h1:=hM.ok;have h2:=hM.fs1;have h3:=hM.fs32;have h4:=hM.mn0;have h5:=hM.mn1
  rw [decide_eq_true h1] at hbad
  simp only [Bool.or_eq_true,decide_eq_true_eq,Bool.not_true,Bool.false_eq_true,false_or] at hbad
  omega
 simp only [Bool.or_eq_false_iff,decide_eq_false_iff_not,Bool.not_eq_false',decide_eq_true_eq] at hgood
 obtain ⟨⟨⟨⟨hok,hf1⟩,hf32⟩,hm0⟩,hm1⟩:=hgood
 refine zi (ι:=Nat) (fun i=>[.int .i64 (i : Nat)]) (fun i w'=>i≤u.fs.length∧(∀ (j : Nat) (hj : j<u.fs.length),j<i→yU u j u.fs[j]=true)∧StX noX w r w' [.cell b1 [.slice p0 u.ss.length cap0,.slice qf u.fs.length capf,.int .i64 u.mn] 25]) (fun i=>u.fs.length - i) 0 rfl ⟨Nat.zero_le _,fun j _ hj=>absurd hj (Nat.not_lt_zero _),S⟩ ?_
 clear S
 rintro i d w3 ⟨hi,hall,S⟩ K1 hK1
 rw [List.getD_cons_zero]
 refine gg_ ?_
 refine zh (fun hlt=>?_) (fun hge=>?_)
 ·have hlt : i<u.fs.length:=by omega
  refine S.ldB (b:=b1) ?_ rfl
  refine aeJ hlt hok S.holds hu0 fun w4 e4=>?_
  have S:=S.go e4
  refine gp_ ?_
  refine c_b (fun hb=>?_) (fun hb=>?_)
  ·refine bad (fun hM=>?_) S.ext
   rw [hM.head i hlt] at hb;cases hb
  ·refine gg_ ?_
   rw [show ((i : Int)+1)=((i+1 : Nat) : Int) by omega]
   refine hK1 (i+1) _ ⟨hlt,fun j hj hji=>?_,S⟩ (by omega)
   by_cases e : j=i
   ·subst e;simpa using hb
   ·exact hall j hj (by omega)
 have hheads : ∀ (j : Nat) (hj : j<u.fs.length),yU u j u.fs[j]=true:=fun j hj=>hall j hj (by omega)
 clear hall hK1 K1 hge hi
 have hfine : ∀ f ∈ u.fs,xx u.ss f.tys∧(0≤f.pn∧f.pn<f.tys.length∧xx u.ss f.tys):=fun f hf=>by
  obtain ⟨j,hj,rfl⟩:=List.getElem_of_mem hf
  have H:=abc (hheads j hj)
  exact ⟨H.fine hok,H.pn0,H.pn1,H.fine hok⟩
 refine zi (ι:=Nat) (fun i=>[.int .i64 (i : Nat)]) (fun i w'=>i≤u.fs.length∧(∀ (j : Nat) (hj : j<u.fs.length),j<i→∀ p ∈ u.fs[j].pts,zP u u.fs[j] p=true)∧StX noX w r w' [.cell b1 [.slice p0 u.ss.length cap0,.slice qf u.fs.length capf,.int .i64 u.mn] 25]) (fun i=>u.fs.length - i) 0 rfl ⟨Nat.zero_le _,fun j _ hj=>absurd hj (Nat.not_lt_zero _),S⟩ ?_
 clear S
 rintro i d w5 ⟨hi,hall,S⟩ K2 hK2
 rw [List.getD_cons_zero]
 refine gg_ ?_
 refine zh (fun hlt=>?_) (fun hge=>?_)
 rotate_left
 ·exact h 0 0 0 _ S.ext ⟨fun _=>⟨hok,by omega,by omega,by omega,by omega,hheads,fun g hg p hp=>by
   obtain ⟨j,hj,rfl⟩:=List.getElem_of_mem hg
   exact hall j hj (by omega) p hp⟩,fun _=>rfl⟩
 have hlt : i<u.fs.length:=by omega
 obtain ⟨bf,of,cf,rfl,hcf,hgc,hfo⟩:=hfn.sl.get (by decide) hlt
 have hgm:=List.getElem_mem hlt
 generalize hgi : u.fs[i]=g at hgc hgm
 obtain ⟨vo,vt,vn,vp,rfl,h1,h2,h3,h4⟩:=id hgc
 obtain ⟨qo,capo,rfl,_,_⟩:=h1.sl.shape
 obtain ⟨qt,capt,rfl,_,hct⟩:=h2.sl.shape
 obtain ⟨qn,capn,rfl,_,_⟩:=h3.sl.shape
 obtain ⟨qp,capp,rfl,_,_⟩:=h4.sl.shape
 have hptl : g.pts.length≤9223372036854775807:=h4.few
 have lpts : Ob r fun w=>w.cell? ⟨bf,of+i*7+6,none⟩=some (.slice qp g.pts.length capp):=hfo 6 _ rfl
 have S:=S.go (Ext.drew _)
 refine S.ldB (b:=b1) ?_ rfl
 refine gg_ ?_
 refine zq (n:=7) hcf (fun j v hj=>by rw [Int.toNat_natCast];exact S.at (hfo j v hj)) ?_
 refine zx (cs:=#[.slice p0 u.ss.length cap0,.slice (some ⟨bf,of,none⟩) u.fs.length capf,.int .i64 u.mn,.string g.name,.int .i64 g.lv,.slice qo g.outs.length capo,.int .i64 g.pn,.slice qt g.tys.length capt,.slice qn g.nms.length capn,.slice qp g.pts.length capp]) (by kernel_rfl) ?_
 refine S.box fun bx w6 S=>?_
 have S : StX noX w r w6 [.cell bx (asL u g p0 cap0 (some ⟨bf,of,none⟩) capf qo capo qt capt qn capn qp capp) 130,.cell b1 [.slice p0 u.ss.length cap0,.slice (some ⟨bf,of,none⟩) u.fs.length capf,.int .i64 u.mn] 25]:=S
 have S:=S.frz
 have hx : AsP (r.or (Go.Sh.one bx (asL u g p0 cap0 (some ⟨bf,of,none⟩) capf qo capo qt capt qn capn qp capp) 130)) bx u g:=⟨p0,cap0,some ⟨bf,of,none⟩,capf,qo,capo,qt,capt,qn,capn,qp,capp,(yF (b:=bx)).up,hu0.up,GrG.up hgc⟩
 refine zi (ι:=Nat) (fun i=>[.int .i64 (i : Nat)]) (fun q w'=>q≤g.pts.length∧(∀ (j : Nat) (hj : j<g.pts.length),j<q→zP u g g.pts[j]=true)∧StX noX w (r.or (Go.Sh.one bx (asL u g p0 cap0 (some ⟨bf,of,none⟩) capf qo capo qt capt qn capn qp capp) 130)) w' [.cell b1 [.slice p0 u.ss.length cap0,.slice (some ⟨bf,of,none⟩) u.fs.length capf,.int .i64 u.mn] 25]) (fun i=>g.pts.length - i) 0 rfl ⟨Nat.zero_le _,fun j _ hj=>absurd hj (Nat.not_lt_zero _),S⟩ ?_
 clear S
 rintro q d w7 ⟨hq,hpts,S⟩ K9 hK9
 rw [List.getD_cons_zero]
 refine gg_ ?_
 refine zp (by rw [Int.toNat_natCast];exact S.at lpts) ?_
 refine gg_ ?_
 refine zh (fun hlt2=>?_) (fun hge2=>?_)
 ·have hlt2 : q<g.pts.length:=by omega
  obtain ⟨bp,op,cp,rfl,hcp,hpc,hpo⟩:=h4.sl.get (by decide) hlt2
  refine gg_ ?_
  refine zp (by rw [Int.toNat_natCast];exact S.at lpts) ?_
  refine gg_ ?_
  refine zq (n:=21) hcp (fun j v hj=>by rw [Int.toNat_natCast];exact S.at (hpo j v hj)) ?_
  refine adm S.holds hx hok (hfine g hgm).1 (fun f hf=>(hfine f hf).2) hpc.up fun w8 e8=>?_
  have S:=S.go e8
  refine gp_ ?_
  refine c_b (fun hb=>?_) (fun hb=>?_)
  ·refine bad (fun hM=>?_) S.ext
   rw [hM.pts g hgm _ (List.getElem_mem hlt2)] at hb;cases hb
  ·refine gg_ ?_
   rw [show ((q : Int)+1)=((q+1 : Nat) : Int) by omega]
   refine hK9 (q+1) _ ⟨hlt2,fun j hj hjq=>?_,S⟩ (by omega)
   by_cases e : j=q
   ·subst e;simpa using hb
   ·exact hpts j hj (by omega)
 ·refine gg_ ?_
  rw [show ((i : Int)+1)=((i+1 : Nat) : Int) by omega]
  refine hK2 (i+1) _ ⟨hlt,fun j hj hji p hp=>?_,S.to r⟩ (by omega)
  by_cases e : j=i
  ·subst e
   rw [hgi] at hp ⊢
   obtain ⟨k,hk,rfl⟩:=List.getElem_of_mem hp
   exact hpts k hk (by omega)
  ·exact hall j hj (by omega) p hp
theorem ae7 {u : UnD} {v : Value} {w : World} {r : Gh} {K : Value→World→Prop} (hr : Holds r w) (hu : UnG r v u)
  (h : ∀ w',Ext w w'→K (.bool (kD u)) w') : zd Tryz.prog Tryz.XB #[v] w K:=by
 refine Tryz.aeB ?_
 unfold Tryz.VV
 have hu0:=hu
 obtain ⟨p0,cap0,vf,rfl,_,_,hst,hsl,hfn⟩:=hu
 have S:=St.start hr
 refine S.box fun b1 w1 S=>?_
 have S : StX noX w r w1 [.cell b1 [.slice p0 u.ss.length cap0,vf,.int .i64 u.mn] 25]:=S
 refine S.ldB (b:=b1) ?_ rfl
 refine adn S.holds hu0 fun a b e w2 e2 he=>?_
 have S:=S.go e2
 refine gg_ ?_
 have hm : decide (e=0)=kD u:=by
  rw [Bool.eq_iff_iff,decide_eq_true_eq,he]
  exact xN.symm
 rw [hm]
 exact h _ S.ext
theorem abu {u : UnD} {fn q : Int} {v : Value} {w : World} {r : Gh} {K : Value→World→Prop} (hr : Holds r w) (hu : UnG r v u)
  (h : ∀ w',Ext w w'→K (.bool (isU u fn q)) w') : zd Tryz.prog Tryz.Yj #[v,.int .i64 fn,.int .i64 q] w K:=by
 refine Tryz.ae5 ?_
 unfold Tryz.abm
 have hu0:=hu
 obtain ⟨p0,cap0,vf,rfl,_,_,hst,hsl,hfn⟩:=hu
 obtain ⟨qf,capf,rfl,_,_⟩:=hfn.sl.shape
 have hfl : u.fs.length≤9223372036854775807:=hfn.few
 have S:=St.start hr
 refine S.box fun b1 w1 S=>?_
 have S : StX noX w r w1 [.cell b1 [.slice p0 u.ss.length cap0,.slice qf u.fs.length capf,.int .i64 u.mn] 25]:=S
 refine S.ldB (b:=b1) ?_ rfl
 refine ae7 S.holds hu0 fun w2 e2=>?_
 have S:=S.go e2
 refine zg (c:=decide (0≤fn)) (fun _ K2 hK2=>by refine gg_ ?_;exact hK2) ?_
 refine zg (c:=decide (fn<(u.fs.length : Int))) (fun _ K2 hK2=>by refine gg_ ?_;exact hK2) ?_
 refine zg (c:=decide (q<((u.fs[fn.toNat]?.map fun g=>(g.pts.length : Int)).getD 0))) (fun hb K2 hK2=>?_) ?_
 ·simp only [Bool.and_eq_true,decide_eq_true_eq] at hb
  have hlt : fn.toNat<u.fs.length:=by omega
  obtain ⟨bf,of,cf,rfl,hcf,hgc,hfo⟩:=hfn.sl.get (by decide) hlt
  obtain ⟨vo,vt,vn,vp,rfl,h1,h2,h3,h4⟩:=id hgc
  obtain ⟨qp,capp,rfl,_,_⟩:=h4.sl.shape
  have hptl : u.fs[fn.toNat].pts.length≤9223372036854775807:=h4.few
  have lpts : Ob r fun w=>w.cell? ⟨bf,of+fn.toNat*7+6,none⟩=some (.slice qp u.fs[fn.toNat].pts.length capp):=hfo 6 _ rfl
  refine gg_ ?_
  refine zp (S.at lpts) ?_
  refine gg_ ?_
  rw [List.getElem?_eq_getElem hlt] at hK2
  exact hK2
 have:=h _ S.ext
 rw [isU] at this
 have e : ((((kD u&&decide (0≤fn))&&decide (fn<(u.fs.length : Int)))&&decide (q<((u.fs[fn.toNat]?.map fun g=>(g.pts.length : Int)).getD 0))))=((decide (0≤fn)&&decide (fn<(u.fs.length : Int)))&&(kD u&&decide (q<((u.fs[fn.toNat]?.map fun g=>(g.pts.length : Int)).getD 0)))):=by ac_rfl
 rw [e]
 exact this
end Go.Proofs
end
section
namespace Go.Proofs
open Go.Sh
set_option maxRecDepth 100000
set_option linter.unusedSimpArgs false
set_option linter.unusedVariables false
def PlN (p : PlD) : Prop:=xn p.l∧∀ k ∈ p.ps,xn k
def OpN (o : OpD) : Prop:=xn o.n∧PlN o.pl
structure PtN (p : PtD) : Prop where
 to : PlN p.to
 a : OpN p.a
 b : OpN p.b
 args : ∀ o ∈ p.args,OpN o
 fr : PlN p.fr
 fn : xn p.fn
 st : xn p.st
 nx : xn p.nx
 el : xn p.el
def UnN (u : UnD) : Prop:=∀ g ∈ u.fs,∀ p ∈ g.pts,PtN p
theorem ahI {u : UnD} {g : GrD} {p : PtD} (h : zP u g p=true) : 1≤p.op∧p.op≤14:=by
 have h:=qV h
 refine Decidable.byContradiction fun hn=>?_
 simp only [ptG,show ¬ p.op=1 by omega,show ¬ p.op=2 by omega,show ¬ p.op=3 by omega,show ¬ p.op=4 by omega,show ¬ p.op=5 by omega,show ¬ p.op=6 by omega,show ¬ p.op=7 by omega,show ¬ p.op=8 by omega,show ¬ p.op=9 by omega,show ¬ p.op=10 by omega,show ¬ p.op=11 by omega,show ¬ p.op=12 by omega,show ¬ p.op=13 by omega,show ¬ p.op=14 by omega,or_self,if_false] at h
 cases h
theorem ai5 {u : UnD} {n : Int} (h : isU u n (-1)=true) : fnE u n=0:=by
 obtain ⟨hM,h0,hlt,_⟩:=aer h
 rw [fnE,xN.2 hM,decide_eq_false (by omega),decide_eq_false (by omega)];rfl
theorem aik {u : UnD} {n : Int} (h : isU u n (-1)=false) : fnE u n=2:=by
 rw [fnE]
 split
 ·rfl
 ·rename_i hc
  exfalso
  rw [Bool.not_eq_true,Bool.or_eq_false_iff,Bool.or_eq_false_iff,decide_eq_false_iff_not,decide_eq_false_iff_not] at hc
  obtain ⟨⟨h1,h2⟩,h3⟩:=hc
  have hlt : n.toNat<u.fs.length:=by omega
  rw [isU,decide_eq_true (show 0≤n by omega),decide_eq_true (show n<u.fs.length by omega),show kD u=true by simpa using h3,List.getElem?_eq_getElem hlt] at h
  have h : decide ((-1 : Int)<u.fs[n.toNat].pts.length)=false:=by simpa using h
  rw [decide_eq_false_iff_not] at h
  omega
end Go.Proofs
end
section
namespace Go.Proofs
open Go.Shelf
set_option maxRecDepth 100000
def Tryz.ae8 : Go.Shelf.Ren:=⟨fun|189=>71|125=>102|257=>101|128=>139|129=>140|294=>130|295=>131|296=>132|297=>133|298=>134|299=>135|216=>136|300=>137|301=>138|328=>175|329=>176|330=>177|331=>178|332=>179|215=>180|343=>195|n=>n,fun|28=>67|3=>3|46=>154|0=>0|51=>202|53=>185|4=>4|183=>195|182=>194|131=>199|5=>5|9=>9|218=>233|222=>237|228=>244|229=>245|n=>n,fun|n=>n⟩
theorem Tryz.aft : Go.Proofs.Lays.n189 Tryz.prog Tryz.ae8:={
 mixed:=by kernel_rfl
 f125:=Tryz.func102.trans (congrArg some (by kernel_rfl))
 f128:=Tryz.func139.trans (congrArg some (by kernel_rfl))
 f129:=Tryz.func140.trans (congrArg some (by kernel_rfl))
 f189:=Tryz.func71.trans (congrArg some (by kernel_rfl))
 f215:=Tryz.func180.trans (congrArg some (by kernel_rfl))
 f216:=Tryz.func136.trans (congrArg some (by kernel_rfl))
 f257:=Tryz.func101.trans (congrArg some (by kernel_rfl))
 f294:=Tryz.func130.trans (congrArg some (by kernel_rfl))
 f295:=Tryz.func131.trans (congrArg some (by kernel_rfl))
 f296:=Tryz.func132.trans (congrArg some (by kernel_rfl))
 f297:=Tryz.func133.trans (congrArg some (by kernel_rfl))
 f298:=Tryz.func134.trans (congrArg some (by kernel_rfl))
 f299:=Tryz.func135.trans (congrArg some (by kernel_rfl))
 f300:=Tryz.func137.trans (congrArg some (by kernel_rfl))
 f301:=Tryz.func138.trans (congrArg some (by kernel_rfl))
 f328:=Tryz.func175.trans (congrArg some (by kernel_rfl))
 f329:=Tryz.func176.trans (congrArg some (by kernel_rfl))
 f330:=Tryz.func177.trans (congrArg some (by kernel_rfl))
 f331:=Tryz.func178.trans (congrArg some (by kernel_rfl))
 f332:=Tryz.func179.trans (congrArg some (by kernel_rfl))
 f343:=Tryz.func195.trans (congrArg some (by kernel_rfl))
 t0:=Tryz.underlying0
 a0:=Tryz.isAgg0
 z0:=Tryz.sizeOf0
 v0:=Tryz.zeroValue0
 t3:=Tryz.underlying3
 a3:=Tryz.isAgg3
 z3:=Tryz.sizeOf3
 v3:=Tryz.zeroValue3
 t4:=Tryz.underlying4
 a4:=Tryz.isAgg4
 z4:=Tryz.sizeOf4
 v4:=Tryz.zeroValue4
 t5:=Tryz.underlying5
 a5:=Tryz.isAgg5
 z5:=Tryz.sizeOf5
 v5:=Tryz.zeroValue5
 t9:=Tryz.underlying9
 a9:=Tryz.isAgg9
 z9:=Tryz.sizeOf9
 v9:=Tryz.zeroValue9
 t28:=Tryz.underlying67
 a28:=Tryz.isAgg67
 z28:=Tryz.sizeOf67
 v28:=Tryz.zeroValue67
 t46:=Tryz.underlying154
 a46:=Tryz.isAgg154
 z46:=Tryz.sizeOf154
 v46:=Tryz.zeroValue154
 t51:=Tryz.underlying202
 a51:=Tryz.isAgg202
 z51:=Tryz.sizeOf202
 v51:=Tryz.zeroValue202
 t53:=Tryz.underlying185
 a53:=Tryz.isAgg185
 z53:=Tryz.sizeOf185
 v53:=Tryz.zeroValue185
 t131:=Tryz.underlying199
 a131:=Tryz.isAgg199
 z131:=Tryz.sizeOf199
 v131:=Tryz.zeroValue199
 t182:=Tryz.underlying194
 a182:=Tryz.isAgg194
 z182:=Tryz.sizeOf194
 v182:=Tryz.zeroValue194
 t183:=Tryz.underlying195
 a183:=Tryz.isAgg195
 z183:=Tryz.sizeOf195
 v183:=Tryz.zeroValue195
 t218:=Tryz.underlying233
 a218:=Tryz.isAgg233
 z218:=Tryz.sizeOf233
 v218:=Tryz.zeroValue233
 t222:=Tryz.underlying237
 a222:=Tryz.isAgg237
 z222:=Tryz.sizeOf237
 v222:=Tryz.zeroValue237
 t228:=Tryz.underlying244
 a228:=Tryz.isAgg244
 z228:=Tryz.sizeOf244
 v228:=Tryz.zeroValue244
 t229:=Tryz.underlying245
 a229:=Tryz.isAgg245
 z229:=Tryz.sizeOf245
 v229:=Tryz.zeroValue245 }
def Tryz.ado : Go.Shelf.Ren:=⟨fun|20=>73|n=>n,fun|22=>67|3=>3|4=>4|0=>0|n=>n,fun|n=>n⟩
theorem Tryz.acG : Go.Proofs.Lays2.n20 Tryz.prog Tryz.ado:={
 mixed:=by kernel_rfl
 f20:=Tryz.func73.trans (congrArg some (by kernel_rfl))
 t0:=Tryz.underlying0
 a0:=Tryz.isAgg0
 z0:=Tryz.sizeOf0
 v0:=Tryz.zeroValue0
 t3:=Tryz.underlying3
 a3:=Tryz.isAgg3
 z3:=Tryz.sizeOf3
 v3:=Tryz.zeroValue3
 t4:=Tryz.underlying4
 a4:=Tryz.isAgg4
 z4:=Tryz.sizeOf4
 v4:=Tryz.zeroValue4
 t22:=Tryz.underlying67
 a22:=Tryz.isAgg67
 z22:=Tryz.sizeOf67
 v22:=Tryz.zeroValue67
 i3:=by kernel_rfl }
end Go.Proofs
end
section
namespace Go.Sh
open Go.RowKit
theorem acH {w w' : World} {g q : Nat} {c : List Value} {e : TypeId} {d : Array Int} {os : Array Obj} (B : Blk w g c e) (hd : d.size≤c.length)
  (hw : w'=Sort.grow (Sort.putRow (Value.int .i64) (Sort.ahead w q) g 0 d) os) : ExtBut (· = g) w w'∧Blk w' g (d.toList.map (Value.int .i64)++c.drop d.size) e:=by
 subst hw
 have hg : g<w.heap.size:=(Array.getElem?_eq_some_iff.1 B).1
 have hput : ∀ k,(Sort.putRow (Value.int .i64) (Sort.ahead w q) g 0 d).heap[k]? = if g=k then (w.heap[k]?).map (Sort.onCells (Sort.putCells (Value.int .i64) 0 d)) else w.heap[k]?:=fun k=>by
  simp only [Sort.putRow,Sort.mapBlock,Array.getElem?_modify]
  split<;>rfl
 have hsz : (Sort.putRow (Value.int .i64) (Sort.ahead w q) g 0 d).heap.size=w.heap.size:=by simp [Sort.ahead]
 refine ⟨⟨rfl,rfl,rfl,by simp only [Sort.grow,Array.size_append,hsz];omega,fun k hk hne=>?_⟩,?_⟩
 ·show ((Sort.putRow (Value.int .i64) (Sort.ahead w q) g 0 d).heap++os)[k]? = _
  rw [Array.getElem?_append_left (by rw [hsz];exact hk),hput,if_neg (fun h=>hne h.symm)]
 ·show ((Sort.putRow (Value.int .i64) (Sort.ahead w q) g 0 d).heap++os)[g]? = _
  rw [Array.getElem?_append_left (by rw [hsz];exact hg),hput,if_pos rfl,B,Option.map_some]
  simp only [Sort.onCells]
  congr 2
  apply Array.ext_getElem?
  intro i
  simp only [Sort.putCells,Array.getElem?_mapIdx,List.getElem?_toArray,List.getElem?_append,List.length_map,Array.length_toList,List.getElem?_map,List.getElem?_drop,Nat.zero_le,true_and,Nat.zero_add,Nat.sub_zero]
  by_cases hi : i<d.size
  ·rw [if_pos hi,List.getElem?_eq_getElem (by omega),Option.map_some,if_pos hi,Array.getElem?_toList,Array.getElem?_eq_getElem hi,getElem!_pos d i hi];rfl
  ·rw [if_neg hi,show d.size+(i - d.size)=i by omega]
   cases h : c[i]? with
   |none=>rfl
   |some x=>rw [Option.map_some,if_neg hi]
theorem aeK {P : Program} {t : TypeId} {K : Value→Prop} {e : TypeId} {n : Nat} {p : Option Addr} {len cap : Nat} {kd kj : IntKind} {i j : Int} [hT : SlT P t e n] (h0 : 0≤i) (h1 : i≤j) (h2 : j≤cap)
  (k : K (.slice p i.toNat j.toNat)) : opP P (Instr.sliceAt t (.slice p len cap) none (some (.int kd i)) (some (.int kj j))) K:=by
 refine yl (fun w=>?_) k
 have h:=hT.h
 unfold slT at h
 have hj : 0≤j:=by omega
 have hm : i≤max j 0:=by omega
 cases hu : P.underlying t with
 |none=>rw [hu] at h;cases h
 |some d=>
  rw [hu] at h
  cases d<;>first|cases h|skip
  rename_i e'
  simp only [Option.map_eq_some_iff,Prod.mk.injEq] at h
  obtain ⟨m,hs,rfl,rfl⟩:=h
  cases p with
  |none=>simp [Instr.sliceAt,Instr.slice,Instr.sliceBounds,Instr.sliceBound,asIntOf,Sem.run_bind,zy hu,Result.andThen,Sem.run,pure,h0,h2,hj,hm,zX hs]
  |some a=>simp [Instr.sliceAt,Instr.slice,Instr.sliceBounds,Instr.sliceBound,asIntOf,Sem.run_bind,zy hu,Result.andThen,Sem.run,pure,h0,h2,hj,hm,zX hs,Addr.add]
end Go.Sh
namespace Go.Proofs
open Go.Sh Go.RowKit
set_option maxRecDepth 100000
set_option linter.unusedSimpArgs false
set_option linter.unusedVariables false
def yu (l : List Int) : List Int:=l.mergeSort fun x y=>decide (x≤y)
theorem ZK {l : List Int} : (yu l).length=l.length:=List.length_mergeSort l
variable {w0 w : World} {r : Gh} {L : List Asr} {X : Nat→Prop}
theorem adp {v : Value} {l : List Int} {K : Value→World→Prop} (S : StX X w0 r w (.row v 3 1 l.length (ints l)::L)) (hl : l.length<4611686018427387904)
  (h : ∀ w',StX X w0 r w' (.row v 3 1 l.length (ints (yu l))::L)→K (.tuple #[]) w') : zd Tryz.prog Tryz.jT #[v] w K:=by
 have hr : w.ownsRow 0 3 1 v l.length (ints l):=S.has _ (List.mem_cons_self ..)
 rcases jR hr with ⟨rfl,h1,h2⟩|⟨g,cap,c,rfl,hg,B,hn,hm,hcl,ht⟩
 ·have hl0 : l = []:=List.eq_nil_of_length_eq_zero h1
  subst hl0
  refine Calls.mono (Any.slices_Sort_int_none Tryz.aft none 0 w) ?_
  rintro e w' ⟨rfl,rfl⟩
  exact ⟨_,rfl,h _ (by rw [show yu [] = [] by simp [yu]];exact S)⟩
 ·rw [Nat.mul_one] at hcl ht
  have hcell : ∀ j,j<l.length→w.cell? ⟨g,j,none⟩=some (.int .i64 l[j]!):=fun j hj=>by
   have : (c.take l.length)[j]? = some (.int .i64 l[j]!):=by
    rw [ht,ints,List.getElem?_map,List.getElem?_eq_getElem hj,getElem!_pos l j hj];rfl
   rw [List.getElem?_take,if_pos hj] at this
   rw [B.cell];exact this
  have hfz : ∀ j,w.frozen? ⟨g,j,none⟩=false:=fun j=>B.unfrozen j
  refine Calls.mono (Any.slices_Sort_int Tryz.aft g 0 cap l w (fun j hj=>⟨?_,hfz _⟩) (Array.getElem?_eq_some_iff.1 B).1 hl) ?_
  ·have hj : j<l.length:=by simpa using hj
   rw [Nat.zero_add,hcell j hj]
   simp [getElem!_pos,hj]
  rintro e w' ⟨rfl,q,os,hw⟩
  obtain ⟨hE,hB⟩:=acH (d:=(yu l).toArray) B (by simp [ZK];omega) hw
  refine ⟨_,rfl,h w' ?_⟩
  refine S.turn (p:=[]) (x:=.row (.slice (some ⟨g,0,none⟩) l.length cap) 3 1 l.length (ints l)) (y:=.row (.slice (some ⟨g,0,none⟩) l.length cap) 3 1 l.length (ints (yu l))) ?_ ?_ fun k hk=>.inl hk
  ·exact hE.mono fun k _ hk=>by subst hk;rfl
  ·have:=j8 (base:=0) (e:=3) (size:=1) (n:=l.length) (cap:=cap) (Nat.zero_le _) hB hn hm (by simp [ZK];omega)
   have e : ((yu l).toArray.toList.map (Value.int .i64)++c.drop (yu l).toArray.size).take (l.length*1)=ints (yu l):=by
    rw [Nat.mul_one,List.take_append_of_le_length (by simp [ZK])]
    exact List.take_of_length_le (by simp [ZK])
   rwa [e] at this
theorem abv : ∀ {l m : List Int},l.Pairwise (· < ·)→m.Pairwise (· < ·)→(∀ x,x ∈ l↔x ∈ m)→l=m
 |[],[],_,_,_=>rfl
 |[],y::m,_,_,h=>absurd ((h y).2 (List.mem_cons_self ..)) (by simp)
 |x::l,[],_,_,h=>absurd ((h x).1 (List.mem_cons_self ..)) (by simp)
 |x::l,y::m,hl,hm,h=>by
  have hl':=List.pairwise_cons.1 hl
  have hm':=List.pairwise_cons.1 hm
  have hxy : x=y:=by
   have h1:=(h x).1 (List.mem_cons_self ..)
   have h2:=(h y).2 (List.mem_cons_self ..)
   rcases List.mem_cons.1 h1 with e|h1
   ·exact e
   rcases List.mem_cons.1 h2 with e|h2
   ·exact e.symm
   have:=hl'.1 y h2;have:=hm'.1 x h1;omega
  subst hxy
  rw [abv hl'.2 hm'.2 fun z=>?_]
  constructor
  ·intro hz
   rcases List.mem_cons.1 ((h z).1 (List.mem_cons_of_mem _ hz)) with e|hz'
   ·have:=hl'.1 z hz;omega
   ·exact hz'
  ·intro hz
   rcases List.mem_cons.1 ((h z).2 (List.mem_cons_of_mem _ hz)) with e|hz'
   ·have:=hm'.1 z hz;omega
   ·exact hz'
theorem afY {l : List Int} : (Lib.compact l).length≤l.length:=by
 unfold Lib.compact Lib.compactUpTo
 rw [List.length_map]
 exact Nat.le_trans (List.length_filter_le _ _) (by simp)
theorem Va {d : Array Int} (hs : ∀ i j,i≤j→j<d.size→d[i]!≤d[j]!) : ∀ m,m≤d.size→(Lib.compactUpTo d m).Pairwise (· < ·)∧∀ x,x ∈ Lib.compactUpTo d m↔∃ j,j<m∧d[j]! = x
 |0,_=>⟨by simp [Lib.compactUpTo],fun x=>⟨fun h=>by simp [Lib.compactUpTo] at h,fun ⟨j,h,_⟩=>absurd h (Nat.not_lt_zero _)⟩⟩
 |m+1,hm=>by
  obtain ⟨h1,h2⟩:=Va hs m (by omega)
  rw [Lib.compactUpTo_succ]
  by_cases hk : Lib.keeps d m=true
  ·rw [if_pos hk]
   have hk' : m=0∨d[m]!≠d[m - 1]!:=by simpa [Lib.keeps] using hk
   refine ⟨List.pairwise_append.2 ⟨h1,by simp,fun a ha b hb=>?_⟩,fun x=>?_⟩
   ·rw [List.mem_singleton.1 hb]
    obtain ⟨j,hj,rfl⟩:=(h2 a).1 ha
    have h3:=hs j (m - 1) (by omega) (by omega)
    have h4:=hs (m - 1) m (by omega) (by omega)
    rcases hk' with h0|hne
    ·omega
    ·omega
   ·rw [List.mem_append,List.mem_singleton,h2]
    constructor
    ·rintro (⟨j,hj,e⟩|e)
     ·exact ⟨j,by omega,e⟩
     ·exact ⟨m,by omega,e.symm⟩
    ·rintro ⟨j,hj,e⟩
     by_cases hjm : j=m
     ·subst hjm;exact .inr e.symm
     ·exact .inl ⟨j,by omega,e⟩
  ·rw [if_neg hk,List.append_nil]
   have hk' : ¬ m=0∧d[m]! = d[m - 1]!:=by simpa [Lib.keeps,not_or] using hk
   refine ⟨h1,fun x=>?_⟩
   rw [h2]
   constructor
   ·rintro ⟨j,hj,e⟩;exact ⟨j,by omega,e⟩
   ·rintro ⟨j,hj,e⟩
    by_cases hjm : j=m
    ·subst hjm;exact ⟨j - 1,by omega,by rw [← e,hk'.2]⟩
    ·exact ⟨j,by omega,e⟩
theorem aeL {l : List Int} : (Lib.compact (yu l)).Pairwise (· < ·)∧∀ x,x ∈ Lib.compact (yu l)↔x ∈ l:=by
 have hp : (yu l).Pairwise (fun a b=>decide (a≤b)=true):=List.pairwise_mergeSort (fun a b c h1 h2=>by simp only [decide_eq_true_eq] at *;omega) (fun a b=>by simp only [Bool.or_eq_true,decide_eq_true_eq];omega) l
 have hg : ∀ (i : Nat) (hi : i<(yu l).length),(yu l).toArray[i]! = (yu l)[i]:=fun i hi=>by
  rw [getElem!_pos _ i (by simpa using hi)];simp
 have hs : ∀ i j,i≤j→j<(yu l).toArray.size→(yu l).toArray[i]!≤(yu l).toArray[j]!:=fun i j hij hj=>by
  have hj : j<(yu l).length:=by simpa using hj
  rw [hg i (by omega),hg j hj]
  by_cases e : i=j
  ·subst e;exact Int.le_refl _
  ·simpa using List.pairwise_iff_getElem.1 hp i j (by omega) hj (by omega)
 obtain ⟨h1,h2⟩:=Va hs (yu l).length (by simp)
 refine ⟨h1,fun x=>?_⟩
 show x ∈ Lib.compactUpTo (yu l).toArray (yu l).length↔_
 rw [h2,← List.mem_mergeSort (le:=fun x y=>decide (x≤y)) (l:=l)]
 constructor
 ·rintro ⟨j,hj,rfl⟩
  rw [hg j hj];exact List.getElem_mem hj
 ·intro hx
  obtain ⟨j,hj,rfl⟩:=List.getElem_of_mem hx
  exact ⟨j,hj,hg j hj⟩
theorem aav {v : Value} {l : List Int} {K : Value→World→Prop} (S : StX X w0 r w (.row v 3 1 l.length (ints l)::L))
  (h : ∀ v' w',StX X w0 r w' (.row v' 3 1 (Lib.compact l).length (ints (Lib.compact l))::L)→K v' w') : zd Tryz.prog Tryz.qJ #[v] w K:=by
 have hr : w.ownsRow 0 3 1 v l.length (ints l):=S.has _ (List.mem_cons_self ..)
 rcases jR hr with ⟨rfl,h1,h2⟩|⟨g,cap,c,rfl,hg,B,hn,hm,hcl,ht⟩
 ·have hl0 : l = []:=List.eq_nil_of_length_eq_zero h1
  subst hl0
  refine Calls.mono (Any.slices_Compact_int_empty Tryz.acG none 0 w) ?_
  rintro e w' ⟨rfl,rfl⟩
  exact ⟨_,rfl,h _ _ S⟩
 ·rw [Nat.mul_one] at hcl ht
  have hcell : ∀ j,j<l.length→w.cell? ⟨g,j,none⟩=some (.int .i64 l[j]!):=fun j hj=>by
   have : (c.take l.length)[j]? = some (.int .i64 l[j]!):=by
    rw [ht,ints,List.getElem?_map,List.getElem?_eq_getElem hj,getElem!_pos l j hj];rfl
   rw [List.getElem?_take,if_pos hj] at this
   rw [B.cell];exact this
  have hfz : ∀ j,w.frozen? ⟨g,j,none⟩=false:=fun j=>B.unfrozen j
  refine Calls.mono (Any.slices_Compact_int Tryz.acG g 0 cap l w (fun j hj=>⟨?_,hfz _⟩) (by have : cap≤9223372036854775807:=hm;omega) hn) ?_
  ·have hj : j<l.length:=by simpa using hj
   rw [Nat.zero_add,hcell j hj]
   simp [getElem!_pos,hj]
  rintro e w' ⟨rfl,q,hw⟩
  have hcm : (Lib.compact l).length≤l.length:=afY
  obtain ⟨hE,hB⟩:=acH (w':=w') (q:=q) (os:=#[]) (d:=(Lib.compact l++List.replicate (l.length - (Lib.compact l).length) 0).toArray) B (by simp;omega) (by rw [hw,Sort.grow_empty])
  refine ⟨_,rfl,h _ w' ?_⟩
  refine S.turn (p:=[]) (x:=.row (.slice (some ⟨g,0,none⟩) l.length cap) 3 1 l.length (ints l)) (y:=.row (.slice (some ⟨g,0,none⟩) (Lib.compact l).length cap) 3 1 (Lib.compact l).length (ints (Lib.compact l))) ?_ ?_ fun k hk=>.inl hk
  ·exact hE.mono fun k _ hk=>by subst hk;rfl
  ·have:=j8 (base:=0) (e:=3) (size:=1) (n:=(Lib.compact l).length) (cap:=cap) (Nat.zero_le _) hB (by omega) hm (by simp;omega)
   have e : (((Lib.compact l++List.replicate (l.length - (Lib.compact l).length) 0).toArray.toList.map (Value.int .i64))++c.drop (Lib.compact l++List.replicate (l.length - (Lib.compact l).length) 0).toArray.size).take ((Lib.compact l).length*1)=ints (Lib.compact l):=by
    rw [Nat.mul_one,List.take_append_of_le_length (by simp)]
    simp only [List.map_append]
    rw [List.take_append_of_le_length (by simp)]
    exact List.take_of_length_le (by simp)
   rwa [e] at this
theorem adq {v : Value} {l : List Int} {K : Value→World→Prop} (S : StX X w0 r w (.row v 3 1 l.length (ints l)::L)) (h : ∀ v' w' s,StX X w0 (r.or s) w' L→SlG 1 s xM v' l→(∀ b o,s b o→w0.heap.size≤b∨X b)→K v' w') : zd Tryz.prog Tryz.kA #[v] w K:=by
 refine Tryz.XM ?_
 unfold Tryz.j4
 have hrow : RowOf 1 xM (ints l) l:=⟨by simp [ints],fun i hi=>by simp [ints,xM,List.take_one,hi]⟩
 obtain ⟨s,T,hsl,_,hab⟩:=S.doneRow hrow (by decide) rfl
 obtain ⟨q,cap,rfl,hq,hc⟩:=hsl.shape
 refine gg_ ?_
 have hs2 : SlG 1 s xM (.slice q l.length l.length) l:=by
  obtain ⟨p',cap',hE,h1,h2,h3⟩:=hsl
  cases hE
  refine ⟨_,_,rfl,fun e=>?_,Nat.le_refl _,h3⟩
  have:=h1 e;omega
 refine aeK (by omega) (by omega) (by omega) ?_
 exact h _ _ s T hs2 hab
end Go.Proofs
end
section
namespace Go.Proofs
open Go.Sh
set_option maxRecDepth 100000
set_option linter.unusedSimpArgs false
set_option linter.unusedVariables false
def yw (l : List PtD) : List Int:=(l.filter fun p=>decide (p.op=7)).map (·.fn)
theorem ae9 {l : List PtD} {i : Nat} (hi : i<l.length) : yw (l.take (i+1))=if l[i].op=7 then yw (l.take i) ++ [l[i].fn] else yw (l.take i):=by
 rw [List.take_succ_eq_append_getElem hi,yw,List.filter_append,List.map_append]
 by_cases h : l[i].op=7
 ·rw [if_pos h,List.filter_cons_of_pos (by simpa using h)];rfl
 ·rw [if_neg h,List.filter_cons_of_neg (by simpa using h)];simp [yw]
theorem abw {l : List PtD} : (yw l).length≤l.length:=by
 rw [yw,List.length_map];exact List.length_filter_le _ _
noncomputable def Y4 (u : UnD) (n : Int) : List Int:=if fnE u n=0 then (match u.fs[n.toNat]? with|some g=>Lib.compact (yu (yw g.pts))|none=>[]) else []
set_option maxHeartbeats 1000000 in
theorem adr {u : UnD} {n : Int} {v : Value} {w : World} {r : Gh} {K : Value→World→Prop} (hr : Holds r w) (hu : UnG r v u)
  (h : ∀ v' s w',Ext w w'→New w s w'→SlG 1 s xM v' (Y4 u n)→K (.tuple #[v',.int .i64 (fnE u n)]) w') : zd Tryz.prog Tryz.ZQ #[v,.int .i64 n] w K:=by
 refine Tryz.abY ?_
 unfold Tryz.QY
 have hu0:=hu
 obtain ⟨p0,cap0,vf,rfl,_,_,hst,hsl,hfn⟩:=hu
 obtain ⟨qf,capf,rfl,_,_⟩:=hfn.sl.shape
 have S:=St.start hr
 refine S.box fun b2 w1 S=>?_
 have S : StX noX w r w1 [.cell b2 [.slice p0 u.ss.length cap0,.slice qf u.fs.length capf,.int .i64 u.mn] 25]:=S
 refine S.ldB (b:=b2) ?_ rfl
 refine Qz S.holds hu0 fun c g w2 e2 hg hgi hgz=>?_
 have S:=S.go e2
 obtain ⟨x1,x2,x3,x4,y1,y2,y3,y4,rfl,hg0⟩:=xV hg
 have hl : Y4 u n=Lib.compact (yu (yw g.pts))∧g.pts.length≤9223372036854775807∧(g.pts.length≤1024):=by
  rw [Y4]
  by_cases h0 : fnE u n=0
  ·have hge:=hgi h0
   rw [if_pos h0,hge]
   obtain ⟨hM,hn0,hlt⟩:=k8 h0
   rw [List.getElem?_eq_getElem hlt] at hge
   cases hge
   have:=(hM.hd hlt).pt1024
   exact ⟨rfl,by omega,by omega⟩
  ·have hp:=hgz h0
   rw [if_neg h0,hp]
   exact ⟨by simp [yw,yu];rfl,by simp,by simp⟩
 rw [hl.1] at h
 have hp24:=hl.2.2
 obtain ⟨_,_,_,_,hE,m1,m2,m3,m4⟩:=hg0
 cases hE
 refine gS_ ?_
 refine S.al fun b6 w3 S=>?_
 refine S.stB (b:=b6) fun w4 S=>?_
 have S : StX noX w r w4 [.cell b6 (grL g x1 x2 x3 x4 y1 y2 y3 y4) 33,.cell b2 [.slice p0 u.ss.length cap0,.slice qf u.fs.length capf,.int .i64 u.mn] 25]:=S
 refine gg_ ?_
 have S:=S.ownNil 3 1
 have S : StX noX w (r.or nothing) w4 [.row (.slice none 0 0) 3 1 0 [],.cell b6 (grL g x1 x2 x3 x4 y1 y2 y3 y4) 33,.cell b2 [.slice p0 u.ss.length cap0,.slice qf u.fs.length capf,.int .i64 u.mn] 25]:=S.to _
 refine zi (ι:=Nat × Value) (fun i=>[i.2,.int .i64 (i.1 : Nat)]) (fun i w'=>i.1≤g.pts.length∧
  StX noX w (r.or nothing) w' [.row i.2 3 1 (yw (g.pts.take i.1)).length (ints (yw (g.pts.take i.1))),.cell b6 (grL g x1 x2 x3 x4 y1 y2 y3 y4) 33,.cell b2 [.slice p0 u.ss.length cap0,.slice qf u.fs.length capf,.int .i64 u.mn] 25]) (fun i=>g.pts.length - i.1) (0,.slice none 0 0) rfl ⟨Nat.zero_le _,S⟩ ?_
 clear S
 rintro ⟨i,vp⟩ dd w10 ⟨hi,S⟩ K5 hK5
 simp only at hi S ⊢
 simp only [List.getD_cons_zero,List.getD_cons_succ]
 refine gg_ ?_
 refine zh (fun hlt=>?_) (fun hge=>?_)
 ·have hlt : i<g.pts.length:=by omega
  obtain ⟨bp,op,cp,hqp,hcp,hpc,hpo⟩:=m4.sl.get (by decide) hlt
  cases hqp
  have htl:=ae9 hlt
  have hcl : (yw (g.pts.take i)).length≤1024:=Nat.le_trans abw (by rw [List.length_take];omega)
  generalize g.pts[i]=p at hpc htl
  obtain ⟨z1,z2,z3,z4,z5,t1,t2,t3,t4,t5,rfl,hp0⟩:=yj hpc
  refine zu (fun x w'=>∃ vq,x = [vq]∧StX noX w (r.or nothing) w' [.row vq 3 1 (yw (g.pts.take (i+1))).length (ints (yw (g.pts.take (i+1)))),.cell b6 (grL g x1 x2 x3 (some ⟨bp,op,none⟩) y1 y2 y3 y4) 33,.cell b2 [.slice p0 u.ss.length cap0,.slice qf u.fs.length capf,.int .i64 u.mn] 25]) (fun K9 hK9=>?_) ?_
  ·refine gg_ ?_
   refine zq (n:=21) hcp (fun j v hj=>by rw [Int.toNat_natCast];exact S.at (hpo j v hj)) ?_
   refine S.al fun b10 w11 S=>?_
   refine S.stB (b:=b10) fun w12 S=>?_
   refine gg_ ?_
   refine zh (fun h7=>?_) (fun h7=>?_)
   ·rw [if_pos h7] at htl
    refine gg_ ?_
    have S:=S.drop b10
    refine S.lit (e:=3) (cs:=[.int .i64 p.fn]) (by kernel_rfl) fun b15 w15 S=>?_
    refine S.ap (m':=1) (Sl.blk (S.blk b15)) (fun v15 w16 S=>?_) (by omega)
    have S:=S.drop b15
    refine hK9 _ _ ⟨v15,rfl,?_⟩
    rw [htl,List.length_append,show ints (yw (g.pts.take i) ++ [p.fn])=ints (yw (g.pts.take i)) ++ [.int .i64 p.fn] by simp [ints]]
    exact S
   ·rw [if_neg h7] at htl
    have S:=S.drop b10
    refine hK9 _ _ ⟨vp,rfl,?_⟩
    rw [htl];exact S
  rintro _ w20 ⟨vq,rfl,S⟩ d20
  simp only [List.getD_cons_zero]
  refine gg_ ?_
  exact hK5 (i+1,vq) _ ⟨hlt,S⟩ (by show g.pts.length - (i+1)<g.pts.length - i;omega)
 have hie : i=g.pts.length:=by omega
 subst hie
 rw [List.take_length] at S
 have hcl : (yw g.pts).length≤1024:=Nat.le_trans abw hp24
 refine adp S (by omega) fun w21 S=>?_
 have S : StX noX w (r.or nothing) w21 (.row vp 3 1 (yu (yw g.pts)).length (ints (yu (yw g.pts))) :: [.cell b6 (grL g x1 x2 x3 x4 y1 y2 y3 y4) 33,.cell b2 [.slice p0 u.ss.length cap0,.slice qf u.fs.length capf,.int .i64 u.mn] 25]):=by rw [ZK];exact S
 refine aav S fun v22 w22 S=>?_
 refine adq S fun v23 w23 s T hs hab=>?_
 exact h _ s _ T.ext (StX.newOf (q:=s) T fun b o ho=>(hab b o ho).resolve_right id) hs
def refCalls (k : Nat) (l : List PtD) : List Int:=((List.range k).filter fun i=>l.any fun p=>decide (p.op=7)&&decide (p.fn=(i : Nat))).map fun i : Nat=>(i : Int)
theorem ads {k : Nat} {l : List PtD} : refCalls (k+1) l=if (l.any fun p=>decide (p.op=7)&&decide (p.fn=(k : Nat)))=true then refCalls k l ++ [(k : Int)] else refCalls k l:=by
 rw [refCalls,List.range_succ,List.filter_append,List.map_append]
 by_cases h : (l.any fun p=>decide (p.op=7)&&decide (p.fn=(k : Nat)))=true
 ·rw [if_pos h,List.filter_cons_of_pos (p:=fun i : Nat=>l.any fun p=>decide (p.op=7)&&decide (p.fn=(i : Nat))) h];rfl
 ·rw [if_neg h,List.filter_cons_of_neg (p:=fun i : Nat=>l.any fun p=>decide (p.op=7)&&decide (p.fn=(i : Nat))) h];simp [refCalls]
theorem Vb {k : Nat} {l : List PtD} : (refCalls k l).length≤k:=by
 rw [refCalls,List.length_map];exact Nat.le_trans (List.length_filter_le _ _) (by simp)
theorem ahJ {u : UnD} {n : Int} (h : fnE u n=0) {g : GrD} (hg : u.fs[n.toNat]? = some g) : Y4 u n=refCalls u.fs.length g.pts:=by
 obtain ⟨hM,hn0,hlt⟩:=k8 h
 rw [Y4,if_pos h,hg]
 rw [List.getElem?_eq_getElem hlt] at hg
 cases hg
 obtain ⟨h1,h2⟩:=aeL (l:=yw u.fs[n.toNat].pts)
 refine abv h1 ?_ fun x=>?_
 ·rw [refCalls]
  refine List.Pairwise.map _ (fun a b (hab : a<b)=>?_) (List.Pairwise.filter _ List.pairwise_lt_range)
  show (a : Int)<(b : Int);omega
 ·rw [h2,yw,refCalls]
  simp only [List.mem_map,List.mem_filter,List.mem_range,List.any_eq_true,Bool.and_eq_true,decide_eq_true_eq]
  constructor
  ·rintro ⟨p,⟨hp,h7⟩,rfl⟩
   have hc:=afQ (hM.pts _ (List.getElem_mem hlt) p hp) h7
   exact ⟨p.fn.toNat,⟨by omega,p,hp,h7,by omega⟩,by omega⟩
  ·rintro ⟨i,⟨hi,p,hp,h7,hf⟩,rfl⟩
   exact ⟨p,⟨hp,h7⟩,hf⟩
end Go.Proofs
end
section
namespace Go.Proofs
open Go.Sh
set_option maxRecDepth 100000
set_option linter.unusedSimpArgs false
set_option linter.unusedVariables false
theorem afZ {u : UnD} {g : GrD} {p : PtD} (hM : MayU u) (h : zP u g p=true) : ∀ o ∈ p.args,o.k≠0:=by
 have h2:=qV h
 intro o ho
 have hne' : p.args≠[]:=List.ne_nil_of_mem ho
 have hne : p.args.length≠0:=fun h0=>hne' (List.eq_nil_of_length_eq_zero h0)
 have key : ∀ ts,yT u.ss g.tys p.args ts=true→o.k≠0:=fun ts ha=>by
  obtain ⟨i,hi,rfl⟩:=List.getElem_of_mem ho
  obtain ⟨hl,hx⟩:=Y0 ha
  exact agK (hx i hi (by omega)).1
 rw [ptG] at h2
 by_cases h6 : p.op=6
 ·simp only [h6,Int.reduceEq,if_false,if_true,Bool.and_eq_true,decide_eq_true_eq,isK] at h2
  exact key _ h2.2
 by_cases h7 : p.op=7
 ·simp only [h7,Int.reduceEq,if_false,if_true,Bool.and_eq_true,decide_eq_true_eq] at h2
  have hlt : p.fn.toNat<u.fs.length:=by omega
  rw [List.getElem?_eq_getElem hlt] at h2
  have h3:=h2.2
  simp only [Bool.and_eq_true] at h3
  exact key _ h3.2
 ·exfalso
  have hc : p.op=1∨p.op=2∨p.op=3∨p.op=4∨p.op=5∨p.op=8∨p.op=9∨p.op=10∨p.op=11∨p.op=12∨p.op=13∨p.op=14:=by
   have:=Zs (qV h)
   omega
  rcases hc with hc|hc|hc|hc|hc|hc|hc|hc|hc|hc|hc|hc<;>simp [hc,hne,hne',zC,qE] at h2
theorem RowOf.app {α : Type} {sz : Nat} {R : List Value→α→Prop} {xs ys : List Value} {l m : List α} (h : RowOf sz R xs l) (k : RowOf sz R ys m) : RowOf sz R (xs++ys) (l++m):=by
 obtain ⟨h1,h2⟩:=h
 obtain ⟨k1,k2⟩:=k
 refine ⟨by rw [List.length_append,List.length_append,h1,k1,Nat.add_mul],fun i hi=>?_⟩
 by_cases hl : i<l.length
 ·have:=Nat.mul_le_mul_right sz (Nat.succ_le_of_lt hl)
  rw [Nat.succ_mul] at this
  rw [List.getElem_append_left hl,List.drop_append_of_le_length (by rw [h1];omega),List.take_append_of_le_length (by rw [List.length_drop,h1];omega)]
  exact h2 i hl
 ·rw [List.getElem_append_right (by omega)]
  have e : (xs++ys).drop (i*sz)=ys.drop ((i - l.length)*sz):=by
   rw [List.drop_append,List.drop_eq_nil_of_le (by rw [h1];exact Nat.mul_le_mul_right _ (by omega)),List.nil_append,h1,← Nat.sub_mul]
  rw [e]
  exact k2 _ _
def qc (p : PtD) : List OpD:=(if p.a.k≠0 then [p.a] else [])++(if p.b.k≠0 then [p.b] else [])++p.args
theorem agO {p : PtD} (h : ∀ o ∈ p.args,o.k≠0) : qc p=opersG p:=by
 have ha : p.args.filter yr=p.args:=List.filter_eq_self.2 fun o ho=>by rw [yr,decide_eq_true_eq];exact h o ho
 rw [qc,opersG,List.filter_cons,List.filter_cons,ha]
 by_cases h1 : p.a.k=0<;>by_cases h2 : p.b.k=0<;>simp [yr,h1,h2]
set_option maxHeartbeats 1000000 in
theorem aaw {p : PtD} {c : List Value} {w : World} {r : Gh} {K : Value→World→Prop} (hr : Holds r w) (hp : PtG r c p) (hb : p.args.length≤1000)
  (h : ∀ v' s w',Ext w w'→New w s w'→SlG 4 s (OpG r) v' (qc p)→K v' w') : zd Tryz.prog Tryz.jK #[.agg c.toArray] w K:=by
 refine Tryz.Vz ?_
 unfold Tryz.YW
 obtain ⟨z1,z2,z3,z4,z5,t1,t2,t3,t4,t5,rfl,hp0⟩:=yj hp
 obtain ⟨kto,ka,kb,kl,kf⟩:=Zi hp0
 have S:=St.start hr
 refine S.box fun b1 w1 S=>?_
 have S : StX noX w r w1 [.cell b1 (ptL p z1 z2 z3 z4 z5 t1 t2 t3 t4 t5) 44]:=S
 refine zu (fun x w'=>∃ vq xs,x = [vq]∧RowOf 4 (OpG r) xs (if p.a.k≠0 then [p.a] else [])∧StX noX w r w' [.row vq 41 4 (if p.a.k≠0 then [p.a] else []).length xs,.cell b1 (ptL p z1 z2 z3 z4 z5 t1 t2 t3 t4 t5) 44]) (fun K2 hK2=>?_) ?_
 ·refine gg_ ?_
  have S:=S.ownNil 41 4
  refine zh (fun hne=>?_) (fun heq=>?_)
  ·rw [if_pos hne] at hK2
   refine gg_ ?_
   refine S.ldN (b:=b1) (vs:=[.int .u8 p.a.k,.int .i64 p.a.n,.int .i64 p.a.pl.l,.slice z2 p.a.pl.ps.length t2]) ?_
   refine S.lit (e:=41) (cs:=[.int .u8 p.a.k,.int .i64 p.a.n,.int .i64 p.a.pl.l,.slice z2 p.a.pl.ps.length t2]) (by kernel_rfl) fun b5 w5 S=>?_
   refine S.ap (v:=.slice none 0 0) (m':=1) (Sl.blk (S.blk b5)) (fun v6 w6 S=>?_) (by omega)
   have S:=S.drop b5
   exact hK2 _ _ ⟨v6,_,rfl,x8 rfl ka,S⟩
  ·rw [if_neg heq] at hK2
   exact hK2 _ _ ⟨.slice none 0 0,[],rfl,RowOf.nil,S⟩
 clear S
 rintro _ w5 ⟨v3,xs3,rfl,hrow3,S⟩ d5
 have hl3 : (if p.a.k≠0 then [p.a] else []).length≤1:=by split<;>simp
 have hR : qc p=(if p.a.k≠0 then [p.a] else [])++(if p.b.k≠0 then [p.b] else [])++p.args:=rfl
 rw [hR] at h
 generalize (if p.a.k≠0 then [p.a] else ([] : List OpD))=A at hrow3 S hl3 h
 rw [List.getD_cons_zero]
 refine zu (fun x w'=>∃ vq xs,x = [vq]∧RowOf 4 (OpG r) xs (A++(if p.b.k≠0 then [p.b] else []))∧StX noX w r w' [.row vq 41 4 (A++(if p.b.k≠0 then [p.b] else [])).length xs,.cell b1 (ptL p z1 z2 z3 z4 z5 t1 t2 t3 t4 t5) 44]) (fun K8 hK8=>?_) ?_
 ·refine gg_ ?_
  refine zh (fun hne=>?_) (fun heq=>?_)
  ·rw [if_pos hne] at hK8
   refine gg_ ?_
   refine S.ldN (b:=b1) (vs:=[.int .u8 p.b.k,.int .i64 p.b.n,.int .i64 p.b.pl.l,.slice z3 p.b.pl.ps.length t3]) ?_
   refine S.lit (e:=41) (cs:=[.int .u8 p.b.k,.int .i64 p.b.n,.int .i64 p.b.pl.l,.slice z3 p.b.pl.ps.length t3]) (by kernel_rfl) fun b5 w6 S=>?_
   refine S.ap (v:=v3) (m':=1) (Sl.blk (S.blk b5)) (fun v6 w7 S=>?_) (by omega)
   have S:=S.drop b5
   refine hK8 _ _ ⟨v6,_,rfl,hrow3.snoc rfl kb,?_⟩
   rw [List.length_append]
   exact S
  ·rw [if_neg heq,List.append_nil] at hK8
   exact hK8 _ _ ⟨v3,xs3,rfl,hrow3,S⟩
 clear S
 rintro _ w11 ⟨v9,xs9,rfl,hrow9,S⟩ d11
 have hl9 : (A++(if p.b.k≠0 then [p.b] else [])).length≤2:=by
  rw [List.length_append]
  have : (if p.b.k≠0 then [p.b] else []).length≤1:=by split<;>simp
  omega
 generalize A++(if p.b.k≠0 then [p.b] else [])=B at hrow9 S hl9 h
 rw [List.getD_cons_zero]
 refine gg_ ?_
 obtain ⟨xs,hxr,hxs⟩:=afm (by decide) kl.sl
 obtain ⟨_,_,hE,hq4,_⟩:=kl.sl.shape
 cases hE
 refine S.ap (v:=v9) (S.at hxs) (fun v25 w14 S=>?_) (by omega) hxr.1 hq4 (abi hxr (by decide) fun c x hx=>Qh hx)
 obtain ⟨s,T,hs,_,hab⟩:=S.doneRow (RowOf.app hrow9 hxr) (by decide) (by rw [List.length_append])
 exact h _ s _ T.ext (StX.newOf (q:=s) T fun b o ho=>(hab b o ho).resolve_right id) hs
theorem abx {p : PtD} {c : List Value} {w : World} {r : Gh} {K : Value→World→Prop} (hr : Holds r w) (hp : PtG r c p)
  (h : ∀ w',Ext w w'→K (.bool (decide (1≤p.op)&&decide (p.op≤8))) w') : zd Tryz.prog Tryz.vw #[.agg c.toArray] w K:=by
 refine Tryz.aag ?_
 unfold Tryz.Xu
 obtain ⟨z1,z2,z3,z4,z5,t1,t2,t3,t4,t5,rfl,hp0⟩:=yj hp
 have S:=St.start hr
 refine S.box fun b1 w1 S=>?_
 have S : StX noX w r w1 [.cell b1 (ptL p z1 z2 z3 z4 z5 t1 t2 t3 t4 t5) 44]:=S
 refine gg_ ?_
 refine zg (c:=decide (p.op≤8)) (fun _ K2 hK2=>by refine gg_ ?_;exact hK2) ?_
 exact h _ S.ext
theorem aeM {g : GrD} {p : PtD} {q : Int} {c : List Value} {w : World} {r : Gh} {K : Value→World→Prop} (hr : Holds r w) (hg : GrG r c g) (hq : 0≤q) (hlt : q.toNat<g.pts.length) (hpe : g.pts[q.toNat]=p)
  (h : ∀ v' s w',Ext w w'→New w s w'→SlG 1 s xM v' (qG p)→K v' w') : zd Tryz.prog Tryz.YH #[.agg c.toArray,.int .i64 q] w K:=by
 refine Tryz.acX ?_
 unfold Tryz.JD
 obtain ⟨x1,x2,x3,x4,y1,y2,y3,y4,rfl,hg0⟩:=xV hg
 obtain ⟨_,_,_,_,hE,m1,m2,m3,m4⟩:=hg0
 cases hE
 have hll : g.pts.length≤9223372036854775807:=m4.few
 obtain ⟨bp,op,cp,hE,hcp,hpc,hpo⟩:=m4.sl.get (by decide) hlt
 cases hE
 rw [hpe] at hpc
 obtain ⟨z1,z2,z3,z4,z5,t1,t2,t3,t4,t5,rfl,hp0⟩:=yj hpc
 have S:=St.start hr
 refine S.box fun b2 w1 S=>?_
 have S : StX noX w r w1 [.cell b2 (grL g x1 x2 x3 (some ⟨bp,op,none⟩) y1 y2 y3 y4) 33]:=S
 refine gg_ ?_
 refine zq (n:=21) hcp (fun j v hj=>S.at (hpo j v hj)) ?_
 refine S.al fun b5 w2 S=>?_
 refine S.stB (b:=b5) fun w3 S=>?_
 have S : StX noX w r w3 [.cell b5 (ptL p z1 z2 z3 z4 z5 t1 t2 t3 t4 t5) 44,.cell b2 (grL g x1 x2 x3 (some ⟨bp,op,none⟩) y1 y2 y3 y4) 33]:=S
 refine gg_ ?_
 rw [qG] at h
 refine zh (fun h14=>?_) (fun h14=>?_)
 ·rw [if_pos h14] at h
  exact h _ nothing _ S.ext New.nothing SlG.nil
 rw [if_neg h14] at h
 refine gg_ ?_
 refine zg (c:=decide (p.el≠p.nx)) (fun _ K2 hK2=>by refine gg_ ?_;exact hK2) ?_
 refine c_b (fun hc=>?_) (fun hc=>?_)
 ·simp only [Bool.and_eq_true,decide_eq_true_eq] at hc
  rw [if_pos ⟨hc.1,fun e=>hc.2 e.symm⟩] at h
  refine gg_ ?_
  refine S.lit (e:=3) (cs:=[.int .i64 p.nx,.int .i64 p.el]) (by kernel_rfl) fun b9 w9 S=>?_
  obtain ⟨S,hs,ha⟩:=S.litNew b9 (sz:=1) (R:=xM) (l:=[p.nx,p.el]) (vH (c:=[.int .i64 p.nx]) rfl rfl (x8 rfl rfl)) (by decide)
  exact h _ _ _ S.ext (S.newOf ha) hs
 ·simp only [Bool.and_eq_false_iff,decide_eq_false_iff_not] at hc
  rw [if_neg (by rintro ⟨h1,h2⟩;rcases hc with hc|hc;· exact hc h1
                 ·exact hc fun e=>h2 e.symm)] at h
  refine gg_ ?_
  refine S.lit (e:=3) (cs:=[.int .i64 p.nx]) (by kernel_rfl) fun b9 w9 S=>?_
  obtain ⟨S,hs,ha⟩:=S.litNew b9 (sz:=1) (R:=xM) (l:=[p.nx]) (x8 rfl rfl) (by decide)
  exact h _ _ _ S.ext (S.newOf ha) hs
set_option maxHeartbeats 1000000 in
theorem adt {p q : PlD} {c d : List Value} {w : World} {r : Gh} {K : Value→World→Prop} (hr : Holds r w) (hp : PlG r c p) (hq : PlG r d q)
  (h : ∀ x w',Ext w w'→(x=0↔p=q)→K (.int .i64 x) w') : zd Tryz.prog Tryz.ZT #[.agg c.toArray,.agg d.toArray] w K:=by
 refine Tryz.abX ?_
 unfold Tryz.QX
 obtain ⟨v,rfl,hv⟩:=hp
 obtain ⟨u,rfl,hu⟩:=hq
 obtain ⟨pa,ca,rfl,_,_⟩:=hv.sl.shape
 obtain ⟨pb,cb,rfl,_,_⟩:=hu.sl.shape
 have hla : p.ps.length≤9223372036854775807:=hv.few
 have S:=St.start hr
 refine S.box fun b2 w1 S=>?_
 have S : StX noX w r w1 [.cell b2 [.int .i64 p.l,.slice pa p.ps.length ca] 38]:=S
 refine S.box fun b3 w2 S=>?_
 have S : StX noX w r w2 [.cell b3 [.int .i64 q.l,.slice pb q.ps.length cb] 38,.cell b2 [.int .i64 p.l,.slice pa p.ps.length ca] 38]:=S
 have no1 : ∀ {w'} {x : Int},Ext w w'→x≠0→p≠q→K (.int .i64 x) w':=fun e hx hne=>h _ _ e ⟨fun e=>absurd e hx,fun e=>absurd e hne⟩
 refine gg_ ?_
 refine zh (fun hne=>?_) (fun heq=>?_)
 ·have hpq : p≠q:=fun e=>hne (by rw [e])
  refine gg_ ?_
  refine zh (fun _=>no1 S.ext (by decide) hpq) (fun _=>no1 S.ext (by decide) hpq)
 have hl : p.l=q.l:=Decidable.not_not.1 heq
 refine zi (ι:=Nat) (fun i=>[.int .i64 (i : Nat)]) (fun i w'=>i≤p.ps.length∧i≤q.ps.length∧p.ps.take i=q.ps.take i∧StX noX w r w' [.cell b3 [.int .i64 q.l,.slice pb q.ps.length cb] 38,.cell b2 [.int .i64 p.l,.slice pa p.ps.length ca] 38]) (fun i=>p.ps.length - i) 0 rfl ⟨Nat.zero_le _,Nat.zero_le _,rfl,S⟩ ?_
 clear S
 rintro i dd w6 ⟨hi,hj,htk,S⟩ K3 hK3
 rw [List.getD_cons_zero]
 refine gg_ ?_
 refine zg (c:=decide ((i : Int)<q.ps.length)) (fun _ K2 hK2=>by refine gg_ ?_;exact hK2) ?_
 refine c_b (fun hb=>?_) (fun hb=>?_)
 ·simp only [Bool.and_eq_true,decide_eq_true_eq] at hb
  have hlt : i<p.ps.length:=by omega
  have hlt2 : i<q.ps.length:=by omega
  obtain ⟨ba,oa,cc,rfl,hcl,⟨rfl,_⟩,hca⟩:=hv.sl.get (by decide) hlt
  obtain ⟨bb,ob,dc,rfl,hdl,⟨rfl,_⟩,hcb⟩:=hu.sl.get (by decide) hlt2
  have S:=S.go (Ext.drew _)
  have lo1 : ∀ {w' : World} {M : List Asr},StX noX w r w' M→w'.cell? ⟨ba,oa+i,none⟩=some (.int .i64 p.ps[i]):=fun S=>by simpa using S.at (hca 0 _ rfl)
  have lo2 : ∀ {w' : World} {M : List Asr},StX noX w r w' M→w'.cell? ⟨bb,ob+i,none⟩=some (.int .i64 q.ps[i]):=fun S=>by simpa using S.at (hcb 0 _ rfl)
  refine gg_ ?_
  refine zp (v:=.int .i64 p.ps[i]) (by rw [Int.toNat_natCast];exact lo1 S) ?_
  refine gg_ ?_
  refine zp (v:=.int .i64 q.ps[i]) (by rw [Int.toNat_natCast];exact lo2 S) ?_
  refine gg_ ?_
  have hpq : p.ps[i]≠q.ps[i]→p≠q:=fun hne e=>by subst e;exact hne rfl
  refine zh (fun h1=>no1 S.ext (by decide) (hpq (by omega))) (fun h1=>?_)
  have S:=S.go (Ext.drew _)
  refine gg_ ?_
  refine zp (v:=.int .i64 p.ps[i]) (by rw [Int.toNat_natCast];exact lo1 S) ?_
  refine gg_ ?_
  refine zp (v:=.int .i64 q.ps[i]) (by rw [Int.toNat_natCast];exact lo2 S) ?_
  refine gg_ ?_
  refine zh (fun h2=>no1 S.ext (by decide) (hpq (by omega))) (fun h2=>?_)
  refine gg_ ?_
  refine hK3 (i+1) _ ⟨hlt,hlt2,?_,S⟩ (by omega)
  rw [List.take_succ_eq_append_getElem hlt,List.take_succ_eq_append_getElem hlt2,htk,show p.ps[i]=q.ps[i] by omega]
 ·simp only [Bool.and_eq_false_iff,decide_eq_false_iff_not] at hb
  have hpl : p.ps.length≠q.ps.length→p≠q:=fun hne e=>by subst e;exact hne rfl
  refine gg_ ?_
  refine zh (fun h1=>no1 S.ext (by decide) (hpl (by omega))) (fun h1=>?_)
  refine gg_ ?_
  refine zh (fun h2=>no1 S.ext (by decide) (hpl (by omega))) (fun h2=>?_)
  refine h _ _ S.ext ⟨fun _=>PlD.eq_iff.2 ⟨hl,?_⟩,fun _=>rfl⟩
  have hpi : p.ps.length=i:=by omega
  have hqi : q.ps.length=i:=by omega
  rwa [List.take_of_length_le (by omega),List.take_of_length_le (by omega)] at htk
theorem Y5 {p q : PlD} {c d : List Value} {w : World} {r : Gh} {K : Value→World→Prop} (hr : Holds r w) (hp : PlG r c p) (hq : PlG r d q)
  (h : ∀ w',Ext w w'→K (.bool (eqb p q)) w') : zd Tryz.prog Tryz.qO #[.agg c.toArray,.agg d.toArray] w K:=by
 refine Tryz.acY ?_
 unfold Tryz.JE
 obtain ⟨v,rfl,hv⟩:=id hp
 obtain ⟨u,rfl,hu⟩:=id hq
 have S:=St.start hr
 refine S.box fun b2 w1 S=>?_
 refine S.box fun b3 w2 S=>?_
 refine S.ldB (b:=b2) ?_ rfl
 refine S.ldB (b:=b3) ?_ rfl
 refine adt S.holds hp hq fun x w4 e4 hx=>?_
 refine gg_ ?_
 have:=h _ (S.go e4).ext
 rwa [← ZH (b:=decide (x=0)) (by rw [decide_eq_true_iff,hx])] at this
end Go.Proofs
end
section
namespace Go.Sh
theorem ai6 {w : World} {b n m x : Bool} {A0 : (List Value→World→Prop)→Prop} {A1 A2 : (List Value→World→Prop)→World→Prop} {Z : Value→World→Prop}
  (h0 : b=false→∀ K : List Value→World→Prop,K [.bool n] w→A0 K) (h1 : n=true→∀ K : List Value→World→Prop,K [.bool m] w→A1 K w)
  (h2 : n=true→m=false→∀ K : List Value→World→Prop,(∀ w',Ext w w'→K [.bool x] w')→A2 K w) (hZ : ∀ w',Ext w w'→Z (.bool (b||(n&&(m||x)))) w') :
  za (fun K=>gIf (.bool b) false (A0 K) (K [undef] w)) fun s135 _ w137=>
   za (fun K=>gIf (s135.getD 0 undef) true (A1 K w137) (K [undef] w137)) fun s139 _ w141=>
    za (fun K=>gIf (s139.getD 0 undef) false (A2 K w141) (K [undef] w141)) fun s143 _ w145=>
     za (fun K=>gIf (s135.getD 0 undef) true (zb (s139.getD 0 undef) (.bool true) (s143.getD 0 undef) fun t=>K [t] w145) (K [undef] w145)) fun s148 _ w150=>
      za (fun K=>gIf (.bool b) false (zb (s135.getD 0 undef) (s148.getD 0 undef) (.bool false) fun t=>K [t] w150) (K [undef] w150)) fun s152 _ w154=>
       zb (.bool b) (.bool true) (s152.getD 0 undef) fun t=>Z t w154:=by
 cases b<;>cases n<;>cases m<;>cases x <;>
  (iterate 5 (intro K hK;first|refine hK _ _ fun _=>?_|refine h0 rfl _ (hK _ _ fun _=>?_)|refine h1 rfl _ (hK _ _ fun _=>?_)|(refine h2 rfl rfl _ fun w1 e1=>hK _ _ fun _=>?_)|refine ⟨_,rfl,hK _ _ fun _=>?_⟩)) <;>
  exact ⟨_,rfl,by simpa using hZ _ (by first|assumption|exact Ext.refl _)⟩
end Go.Sh
namespace Go.Proofs
open Go.Sh
set_option maxRecDepth 100000
set_option linter.unusedSimpArgs false
set_option linter.unusedVariables false
set_option maxHeartbeats 1000000 in
theorem adu {u : UnD} {n : Int} {v : Value} {w : World} {r : Gh} {K : Value→World→Prop} (hr : Holds r w) (hu : UnG r v u) (hn0 : 0≤n) (hlt : n.toNat<u.fs.length) (hfew : u.fs.length≤32)
  (h : ∀ v' s w',Ext w w'→New w s w'→SlG 1 s xM v' (refCalls u.fs.length u.fs[n.toNat].pts)→K v' w') : zd Tryz.prog Tryz.ZS #[v,.int .i64 n] w K:=by
 refine Tryz.abW ?_
 unfold Tryz.QW
 obtain ⟨p0,cap0,vf,rfl,_,_,hst,hsl,hfn⟩:=hu
 obtain ⟨qf,capf,rfl,_,_⟩:=hfn.sl.shape
 obtain ⟨bf,of,cf,rfl,hcf,hgc,hfo⟩:=hfn.sl.get (by decide) hlt
 generalize u.fs[n.toNat]=g at h hgc
 obtain ⟨x1,x2,x3,x4,y1,y2,y3,y4,rfl,hg0⟩:=xV hgc
 obtain ⟨_,_,_,_,hE,m1,m2,m3,m4⟩:=hg0
 cases hE
 have hpl : g.pts.length≤9223372036854775807:=m4.few
 have lpts : Ob r fun w=>w.cell? ⟨bf,of+n.toNat*7+6,none⟩=some (.slice x4 g.pts.length y4):=hfo 6 _ rfl
 have S:=St.start hr
 refine S.box fun b2 w1 S=>?_
 have S : StX noX w r w1 [.cell b2 [.slice p0 u.ss.length cap0,.slice (some ⟨bf,of,none⟩) u.fs.length capf,.int .i64 u.mn] 25]:=S
 have S:=S.ownNil 3 1
 refine zi (ι:=Nat × Value) (fun i=>[i.2,.int .i64 (i.1 : Nat)]) (fun i w'=>i.1≤u.fs.length∧StX noX w r w' [.row i.2 3 1 (refCalls i.1 g.pts).length (ints (refCalls i.1 g.pts)),.cell b2 [.slice p0 u.ss.length cap0,.slice (some ⟨bf,of,none⟩) u.fs.length capf,.int .i64 u.mn] 25]) (fun i=>u.fs.length - i.1) (0,.slice none 0 0) rfl ⟨Nat.zero_le _,S⟩ ?_
 clear S
 rintro ⟨i,vp⟩ dd w5 ⟨hi,S⟩ K2 hK2
 simp only at hi S ⊢
 simp only [List.getD_cons_zero,List.getD_cons_succ]
 refine gg_ ?_
 refine zh (fun hlt2=>?_) (fun hge=>?_)
 ·have hlt2 : i<u.fs.length:=by omega
  have hsn:=ads (k:=i) (l:=g.pts)
  have hcl : (refCalls i g.pts).length≤32:=Nat.le_trans Vb (by omega)
  refine zu (fun x w'=>∃ vq,x = [vq]∧StX noX w r w' [.row vq 3 1 (refCalls (i+1) g.pts).length (ints (refCalls (i+1) g.pts)),.cell b2 [.slice p0 u.ss.length cap0,.slice (some ⟨bf,of,none⟩) u.fs.length capf,.int .i64 u.mn] 25]) (fun K6 hK6=>?_) ?_
  ·refine zi (ι:=Nat) (fun q=>[vp,.int .i64 (q : Nat)]) (fun q w'=>q≤g.pts.length∧(∀ p ∈ g.pts.take q,¬ (p.op=7∧p.fn=(i : Nat)))∧StX noX w r w' [.row vp 3 1 (refCalls i g.pts).length (ints (refCalls i g.pts)),.cell b2 [.slice p0 u.ss.length cap0,.slice (some ⟨bf,of,none⟩) u.fs.length capf,.int .i64 u.mn] 25]) (fun q=>g.pts.length - q) 0 rfl ⟨Nat.zero_le _,by simp,S⟩ ?_
   clear S
   rintro q dd w13 ⟨hq,hno,S⟩ K10 hK10
   simp only [List.getD_cons_zero,List.getD_cons_succ]
   refine gg_ ?_
   refine zp (S.at lpts) ?_
   refine gg_ ?_
   refine zh (fun hlt3=>?_) (fun hge3=>?_)
   ·have hlt3 : q<g.pts.length:=by omega
    obtain ⟨bp,op,cp,hE,hcp,hpc,hpo⟩:=m4.sl.get (by decide) hlt3
    cases hE
    have htk:=fun hx : ¬ (g.pts[q].op=7∧g.pts[q].fn=(i : Nat))=>QB hlt3 hno hx
    have hany : g.pts[q].op=7∧g.pts[q].fn=(i : Nat)→(g.pts.any fun p=>decide (p.op=7)&&decide (p.fn=(i : Nat)))=true:=fun hh=>List.any_eq_true.2 ⟨_,List.getElem_mem hlt3,by simpa using hh⟩
    generalize g.pts[q]=p at hpc htk hany
    obtain ⟨z1,z2,z3,z4,z5,t1,t2,t3,t4,t5,rfl,hp0⟩:=yj hpc
    have lop : Ob r fun w=>w.cell? ⟨bp,op+q*21,none⟩=some (.int .u8 p.op):=by simpa using hpo 0 _ rfl
    have lfn : Ob r fun w=>w.cell? ⟨bp,op+q*21+16,none⟩=some (.int .i64 p.fn):=hpo 16 _ rfl
    refine gg_ ?_
    refine zp (S.at lpts) ?_
    refine gg_ ?_
    refine zp (by rw [Int.toNat_natCast];exact S.at lop) ?_
    refine gg_ ?_
    refine zg (c:=decide (p.fn=(i : Nat))) (fun _ K2 hK2=>?_) ?_
    ·refine gg_ ?_
     refine zp (S.at lpts) ?_
     refine gg_ ?_
     refine zp (by rw [Int.toNat_natCast];exact S.at lfn) ?_
     refine gg_ ?_
     exact hK2
    refine c_b (fun hb=>?_) (fun hb=>?_)
    ·simp only [Bool.and_eq_true,decide_eq_true_eq] at hb
     rw [if_pos (hany hb)] at hsn
     refine S.lit (e:=3) (cs:=[.int .i64 (i : Nat)]) (by kernel_rfl) fun b15 w15 S=>?_
     refine S.ap (v:=vp) (m':=1) (Sl.blk (S.blk b15)) (fun v15 w16 S=>?_) (by omega)
     have S:=S.drop b15
     refine hK6 _ _ ⟨v15,rfl,?_⟩
     rw [hsn,List.length_append,show ints (refCalls i g.pts ++ [(i : Int)])=ints (refCalls i g.pts) ++ [.int .i64 (i : Nat)] by simp [ints]]
     exact S
    ·refine gg_ ?_
     exact hK10 (q+1) _ ⟨hlt3,htk (by simpa using hb),S⟩ (by omega)
   have hqe : q=g.pts.length:=by omega
   subst hqe
   rw [List.take_length] at hno
   rw [if_neg (by
    rw [List.any_eq_true]
    rintro ⟨p,hp,hh⟩
    exact hno p hp (by simpa using hh))] at hsn
   refine hK6 _ _ ⟨vp,rfl,?_⟩
   rw [hsn];exact S
  clear S
  rintro _ w9 ⟨vq,rfl,S⟩ d9
  simp only [List.getD_cons_zero]
  refine gg_ ?_
  exact hK2 (i+1,vq) _ ⟨hlt2,S⟩ (by show u.fs.length - (i+1)<u.fs.length - i;omega)
 have hie : i=u.fs.length:=by omega
 subst hie
 have hrow : RowOf 1 xM (ints (refCalls u.fs.length g.pts)) (refCalls u.fs.length g.pts):=⟨by simp [ints],fun i hi=>by simp [ints,xM,List.take_one,hi]⟩
 obtain ⟨s,T,hs,_,hab⟩:=S.doneRow hrow (by decide) rfl
 exact h _ s _ T.ext (StX.newOf (q:=s) T fun b o ho=>(hab b o ho).resolve_right id) hs
set_option maxHeartbeats 1000000 in
theorem adv {u : UnD} {n : Int} {p : PlD} {c : List Value} {v : Value} {w : World} {r : Gh} {K : Value→World→Prop} (hr : Holds r w) (hu : UnG r v u) (hM : MayU u) (hn0 : 0≤n) (hlt : n.toNat<u.fs.length) (hp : PlG r c p)
  (hN : ∀ w',(zj u.ss u.fs[n.toNat].tys p).2.2=false→Ext w w'→K (.tuple #[afM,.slice none 0 0,.bool false]) w')
  (hS : ∀ t m v' vg s w',zj u.ss u.fs[n.toNat].tys p=(t,m,true)→Ext w w'→New w s w'→TyG (r.or s) v' t→K (.tuple #[v',vg,.bool true]) w') : zd Tryz.prog Tryz.jC #[v,.int .i64 n,.agg c.toArray] w K:=by
 refine Tryz.abV ?_
 unfold Tryz.QV
 have hu0:=hu
 obtain ⟨p0,cap0,vf,rfl,_,_,hst,hsl,hfn⟩:=hu
 obtain ⟨qf,capf,rfl,_,_⟩:=hfn.sl.shape
 obtain ⟨bf,of,cf,rfl,hcf,hgc,hfo⟩:=hfn.sl.get (by decide) hlt
 have hff:=(hM.hd hlt).fine hM.ok
 generalize u.fs[n.toNat]=g at hN hS hgc hff
 obtain ⟨x1,x2,x3,x4,y1,y2,y3,y4,rfl,hg0⟩:=xV hgc
 have hp0:=hp
 obtain ⟨vp,rfl,hvp⟩:=hp
 obtain ⟨qs,caps,rfl,_,_⟩:=hvp.sl.shape
 have S:=St.start hr
 refine S.box fun b3 w1 S=>?_
 have S : StX noX w r w1 [.cell b3 [.slice p0 u.ss.length cap0,.slice (some ⟨bf,of,none⟩) u.fs.length capf,.int .i64 u.mn] 25]:=S
 refine S.box fun b5 w2 S=>?_
 refine S.al fun b6 w3 S=>?_
 have S:=S.go (Ext.drew _)
 refine S.ldB (b:=b3) ?_ rfl
 refine gg_ ?_
 refine zq (n:=7) hcf (fun j v hj=>S.at (hfo j v hj)) ?_
 refine zx (cs:=(asL u g p0 cap0 (some ⟨bf,of,none⟩) capf x1 y1 x2 y2 x3 y3 x4 y4).toArray) (by kernel_rfl) ?_
 refine S.box fun b17 w4 S=>?_
 have S : StX noX w r w4 [.cell b17 (asL u g p0 cap0 (some ⟨bf,of,none⟩) capf x1 y1 x2 y2 x3 y3 x4 y4) 130,.cell b6 aa7 57,.cell b5 [.int .i64 p.l,.slice qs p.ps.length caps] 38,.cell b3 [.slice p0 u.ss.length cap0,.slice (some ⟨bf,of,none⟩) u.fs.length capf,.int .i64 u.mn] 25]:=S
 refine S.ldB (b:=b5) ?_ rfl
 have hm:=S.mine (.cell b17 (asL u g p0 cap0 (some ⟨bf,of,none⟩) capf x1 y1 x2 y2 x3 y3 x4 y4) 130) (by simp) b17 rfl
 have S:=S.frzAt b17
 have hA : AsP (r.or (Go.Sh.one b17 (asL u g p0 cap0 (some ⟨bf,of,none⟩) capf x1 y1 x2 y2 x3 y3 x4 y4) 130)) b17 u g:=⟨_,_,_,_,_,_,_,_,_,_,_,_,yF.up,hu0.up,hg0.up⟩
 refine vN S.holds hA hM.ok hff hp0.up (fun w5 hno e5=>?_) fun t how q cap vg s w5 hsp e5 n5 ht _ _=>?_
 ·have S:=S.go e5
  refine gS_ ?_
  refine S.stB (b:=b6) fun w6 S=>?_
  refine S.ceB (b:=b6) ?_ rfl
  exact hN _ hno S.ext
 ·have S:=S.go e5
  refine gS_ ?_
  refine S.stB (b:=b6) fun w6 S=>?_
  refine S.ceB (b:=b6) ?_ rfl
  refine hS t _ _ vg (Go.Sh.one b17 _ _) _ hsp S.ext (S.newOf ?_) ht
  rintro b o ⟨rfl,_⟩
  exact hm.1.resolve_right id
end Go.Proofs
end
section
namespace Go.Proofs
open Go.Sh
set_option maxRecDepth 100000
set_option linter.unusedSimpArgs false
set_option linter.unusedVariables false
theorem agP {s : Int} : ∀ (n : Nat) {t : TyD},zz s n t=true→t.few:=by
 intro n
 induction n with
 |zero=>intro t h;cases h
 |succ n ih=>
  intro t h
  cases t with
  |mk k m re st of=>
   rcases zS h with ⟨ho,_⟩|⟨u,ho,hu,_⟩
   ·have ho : of = []:=ho
    subst ho;exact ⟨Nat.zero_le _,trivial⟩
   ·have ho : of = [u]:=ho
    subst ho;exact ⟨by simp,ih hu,trivial⟩
noncomputable def jQ (u : UnD) (n q : Int) : PlD × Bool × Int:=if ptE u n q≠0 then (yQ,false,ptE u n q) else match jn u n q with|some p=>if 1≤p.op∧p.op≤8 then (p.to,true,0) else (yQ,false,0)|none=>(yQ,false,0)
theorem aax {u : UnD} {n q : Int} {v : Value} {w : World} {r : Gh} {K : Value→World→Prop} (hr : Holds r w) (hu : UnG r v u)
  (h : ∀ c s w',Ext w w'→New w s w'→PlG s c (jQ u n q).1→K (.tuple #[.agg c.toArray,.bool (jQ u n q).2.1,.int .i64 (jQ u n q).2.2]) w') : zd Tryz.prog Tryz.xY #[v,.int .i64 n,.int .i64 q] w K:=by
 refine Tryz.YK ?_
 unfold Tryz.vy
 have hu0:=hu
 obtain ⟨p0,cap0,vf,rfl,_,_,hst,hsl,hfn⟩:=hu
 obtain ⟨qf,capf,rfl,_,_⟩:=hfn.sl.shape
 have S:=St.start hr
 refine S.box fun b3 w1 S=>?_
 have S : StX noX w r w1 [.cell b3 [.slice p0 u.ss.length cap0,.slice qf u.fs.length capf,.int .i64 u.mn] 25]:=S
 refine S.al fun b6 w2 S=>?_
 refine S.ldB (b:=b3) ?_ rfl
 refine k9 S.holds hu0 fun c p w3 e3 hp hpi=>?_
 have S:=S.go e3
 obtain ⟨z1,z2,z3,z4,z5,t1,t2,t3,t4,t5,rfl,hp0⟩:=yj hp
 refine gS_ ?_
 refine S.al fun b9 w4 S=>?_
 refine S.stB (b:=b9) fun w5 S=>?_
 refine gp_ ?_
 refine zf (c:=decide (p.op<1)) (fun _ K2 hK2=>by refine gg_ ?_;exact hK2) ?_
 refine zf (c:=decide (8<p.op)) (fun _ K2 hK2=>by refine gg_ ?_;exact hK2) ?_
 refine c_b (fun hb=>?_) (fun hb=>?_)
 ·refine S.ldB (b:=b6) ?_ rfl
  refine S.stB (b:=b6) fun w6 S=>?_
  refine S.ceB (b:=b6) ?_ rfl
  have hz : jQ u n q=(yQ,false,ptE u n q):=by
   unfold jQ
   by_cases h0 : ptE u n q=0
   ·rw [if_neg (by omega),hpi h0,h0]
    simp only [Bool.or_eq_true,decide_eq_true_eq] at hb
    dsimp only
    rw [if_neg (by omega)]
   ·rw [if_pos h0]
  rw [hz] at h
  exact h [.int .i64 0,.slice none 0 0] nothing _ S.ext New.nothing ⟨_,rfl,xH⟩
 ·simp only [Bool.or_eq_false_iff,decide_eq_false_iff_not] at hb
  have h0 : ptE u n q=0:=by omega
  have hA : jQ u n q=(p.to,true,0):=by
   unfold jQ
   rw [if_neg (by omega),hpi h0]
   dsimp only
   rw [if_pos (by omega)]
  rw [hA] at h
  obtain ⟨_,_,_,_,_,hE,k1,_⟩:=id hp0
  cases hE
  have hpl : p.to.ps.length≤1000000:=by
   obtain ⟨hf,hq0,hn,hql⟩:=ZG h0
   obtain ⟨hM,_,_⟩:=k8 hf
   obtain ⟨_,hpe⟩:=aan hn (hpi h0)
   have hpg:=hM.pts _ (List.getElem_mem hn) p (by rw [← hpe];exact List.getElem_mem _)
   have:=aet hpg (by omega)
   omega
  refine gg_ ?_
  refine S.ldN (b:=b9) ?_
  refine jO (p:=p.to) S.holds ⟨_,rfl,k1⟩ hpl fun c6 s w6 e6 n6 h6=>?_
  obtain ⟨S,d6,a6⟩:=S.tell e6 n6
  obtain ⟨v6,rfl,hl6⟩:=id h6
  obtain ⟨q6,k6,rfl,_,_⟩:=hl6.sl.shape
  refine S.stB (b:=b6) fun w7 S=>?_
  refine S.ceB (b:=b6) ?_ rfl
  exact h _ s _ S.ext (S.newOf a6) h6
theorem ace {u : UnD} {n : Int} {p : PlD} {c : List Value} {v : Value} {w : World} {r : Gh} {K : Value→World→Prop} (hr : Holds r w) (hu : UnG r v u) (hM : MayU u) (hn0 : 0≤n) (hlt : n.toNat<u.fs.length) (hp : PlG r c p)
  (h : ∀ ok t v' vg s w',Ext w w'→New w s w'→TyG (r.or s) v' t→(zj u.ss u.fs[n.toNat].tys p).2.2=ok→t=(if ok then (zj u.ss u.fs[n.toNat].tys p).1 else zD)→K (.tuple #[v',vg,.bool ok]) w') : zd Tryz.prog Tryz.jC #[v,.int .i64 n,.agg c.toArray] w K:=by
 refine adv hr hu hM hn0 hlt hp (fun w' hno e=>?_) fun t m v' vg s w' hsp e hn ht=>?_
 ·exact h false zD _ _ nothing w' e New.nothing yh hno rfl
 ·exact h true t _ _ s w' e hn ht (by rw [hsp]) (by rw [hsp];rfl)
theorem adw {u : UnD} {g : GrD} {p : PtD} (h : zP u g p=true) (ho : 8<p.op) : p.to=yQ:=by
 have h2:=qV h
 have hr:=Zs h2
 have hz : yS p.to=true:=by
  rw [ptG] at h2
  have hc : p.op=9∨p.op=10∨p.op=11∨p.op=12∨p.op=13∨p.op=14:=by omega
  cases hf : yS p.to with
  |true=>rfl
  |false=>exfalso;rcases hc with hc|hc|hc|hc|hc|hc<;>simp [hc,hf,zC,qE] at h2
 rw [yS,Bool.and_eq_true,decide_eq_true_eq,decide_eq_true_eq] at hz
 exact PlD.eq_iff.2 ⟨hz.1,List.eq_nil_of_length_eq_zero hz.2⟩
theorem agQ {u : UnD} {n q : Int} (hq : 0≤q) : isU u n q=decide (ptE u n q=0):=by
 rw [Bool.eq_iff_iff,decide_eq_true_iff]
 constructor
 ·intro h
  obtain ⟨hM,hn0,hlt,hql,_⟩:=aer h
  have hf : fnE u n=0:=by rw [fnE,xN.2 hM,decide_eq_false (by omega),decide_eq_false (by omega)];rfl
  rw [ptE,List.getElem?_eq_getElem hlt,if_pos ⟨hf,hq,by simpa using hql⟩]
 ·intro h
  obtain ⟨hf,_,hn,hql⟩:=ZG h
  obtain ⟨hM,hn0,_⟩:=k8 hf
  rw [isU,xN.2 hM,decide_eq_true hn0,decide_eq_true (show n<u.fs.length by omega),List.getElem?_eq_getElem hn]
  simp only [Option.map_some,Option.getD_some,Bool.true_and]
  exact decide_eq_true (by omega)
theorem ail {u : UnD} {n q : Int} (h : ptE u n q≠0) : ptE u n q=2:=by
 rw [ptE] at h ⊢;split
 ·rename_i hc;rw [if_pos hc] at h;exact absurd rfl h
 ·rfl
theorem ahK {u : UnD} {n q : Int} {r : Gh} {qf : Option Addr} {capf : Nat} (hfn : SlB 7 r (GrG r) (.slice qf u.fs.length capf) u.fs) (hz : ptE u n q=0) :
  ∃ g p bf of cf,qf=some ⟨bf,of,none⟩∧cf.length=7∧GrG r cf g∧(∀ j v,cf[j]? = some v→Ob r fun w=>w.cell? ⟨bf,of+n.toNat*7+j,none⟩=some v)∧0≤n∧n<u.fs.length∧0≤q∧(∃ hql : q.toNat<g.pts.length,g.pts[q.toNat]=p)∧
   p.args.length≤1000∧jG u n q=qG p∧Z2 u n q=(qc p,0)∧jQ u n q=(p.to,decide (1≤p.op)&&decide (p.op≤8),0):=by
 obtain ⟨hf,hq0,hlt,hql⟩:=ZG hz
 obtain ⟨hM,hn0,_⟩:=k8 hf
 have hpt : jn u n q=some u.fs[n.toNat].pts[q.toNat]:=by rw [jn,List.getElem?_eq_getElem hlt,Option.bind_some,List.getElem?_eq_getElem hql]
 have hpg:=hM.pts _ (List.getElem_mem hlt) _ (List.getElem_mem hql)
 obtain ⟨bf,of,cf,hE,hcf,hgc,hfo⟩:=hfn.sl.get (by decide) hlt
 refine ⟨u.fs[n.toNat],u.fs[n.toNat].pts[q.toNat],bf,of,cf,hE,hcf,hgc,hfo,hn0,by omega,hq0,⟨hql,rfl⟩,aeA hM hpg,?_,?_,?_⟩
 ·rw [jG,if_pos hz,hpt]
 ·rw [Z2,if_neg (by rw [hz];decide),hpt,agO (afZ hM hpg)]
 ·have hop:=ahI hpg
  rw [jQ,if_neg (by rw [hz];decide),hpt]
  dsimp only
  by_cases h8 : u.fs[n.toNat].pts[q.toNat].op≤8
  ·rw [if_pos ⟨hop.1,h8⟩,decide_eq_true hop.1,decide_eq_true h8];rfl
  ·rw [if_neg (fun hh=>h8 hh.2),decide_eq_false h8,Bool.and_false,adw hpg (by omega)]
set_option maxHeartbeats 8000000 in
theorem VD {u : UnD} {n q : Int} {x : PlD} {c : List Value} {v : Value} {w : World} {r : Gh} {K : Value→World→Prop} (hT : TabZ r) (hr : Holds r w) (hu : UnG r v u) (hN : UnN u) (hx : PlG r c x)
  (h : ∀ w',Ext w w'→K (.bool true) w') : zd Tryz.prog Tryz.Z7 #[v,.int .i64 n,.int .i64 q,.agg c.toArray] w K:=by
 refine Tryz.Js ?_
 unfold Tryz.Yc
 have hu0:=hu
 have hx0:=hx
 obtain ⟨p0,cap0,vf,rfl,_,_,hst,hsl,hfn⟩:=hu
 obtain ⟨qf,capf,rfl,_,_⟩:=hfn.sl.shape
 obtain ⟨vx,rfl,hvx⟩:=hx
 obtain ⟨qs,caps,rfl,_,_⟩:=hvx.sl.shape
 have S:=St.start hr
 refine S.box fun b4 w1 S=>?_
 have S : StX noX w r w1 [.cell b4 [.slice p0 u.ss.length cap0,.slice qf u.fs.length capf,.int .i64 u.mn] 25]:=S
 refine S.box fun b7 w2 S=>?_
 have S : StX noX w r w2 [.cell b7 [.int .i64 x.l,.slice qs x.ps.length caps] 38,.cell b4 [.slice p0 u.ss.length cap0,.slice qf u.fs.length capf,.int .i64 u.mn] 25]:=S
 refine S.ldB (b:=b4) ?_ rfl
 refine aez S.holds hu0 fun b w3 e3 hfit=>?_
 have S:=S.go e3
 refine gp_ ?_
 refine zf (c:=decide (40<(x.ps.length : Int))) (fun _ K2 hK2=>by refine gg_ ?_;exact hK2) ?_
 refine c_b (fun _=>Z3 hT S.holds fun w3 e3=>h _ (S.go e3).ext) (fun hb=>?_)
 refine S.ldB (b:=b4) ?_ rfl
 refine JX S.holds hu0 fun vl s9 w9 e9 n9 hl=>?_
 obtain ⟨S,d9,a9⟩:=S.tell e9 n9
 obtain ⟨pl,capl,rfl,_,_⟩:=hl.shape
 refine gS_ ?_
 refine S.ldB (b:=b4) ?_ rfl
 refine Y1 S.holds hu0.up fun vo s10 w10 e10 n10 ho=>?_
 obtain ⟨S,d10,a10⟩:=S.tell e10 n10
 obtain ⟨po,capo,rfl,_,_⟩:=ho.shape
 refine gS_ ?_
 refine S.ldB (b:=b4) ?_ rfl
 refine aax S.holds hu0.up fun ca sa w11 e11 n11 hpa=>?_
 obtain ⟨S,d11,a11⟩:=S.tell e11 n11
 have hpa0:=hpa
 obtain ⟨va,rfl,hva⟩:=hpa
 obtain ⟨qa,kapa,rfl,_,_⟩:=hva.sl.shape
 refine gS_ ?_
 refine S.al fun b13 w12 S=>?_
 refine S.stB (b:=b13) fun w13 S=>?_
 have S : StX noX w (((r.or s9).or s10).or sa) w13 [.cell b13 [.int .i64 (jQ u n q).1.l,.slice qa (jQ u n q).1.ps.length kapa] 38,.cell b7 [.int .i64 x.l,.slice qs x.ps.length caps] 38,.cell b4 [.slice p0 u.ss.length cap0,.slice qf u.fs.length capf,.int .i64 u.mn] 25]:=S
 refine zu (fun _ w'=>StX noX w (((r.or s9).or s10).or sa) w' [.cell b13 [.int .i64 (jQ u n q).1.l,.slice qa (jQ u n q).1.ps.length kapa] 38,.cell b7 [.int .i64 x.l,.slice qs x.ps.length caps] 38,.cell b4 [.slice p0 u.ss.length cap0,.slice qf u.fs.length capf,.int .i64 u.mn] 25]) (fun K14 hK14=>?_) ?_
 ·refine gp_ ?_
  refine ym (c:=!isU u n q) (fun _ K2 hK2=>?_) fun w14 e14=>?_
  ·refine S.ldB (b:=b4) ?_ rfl
   refine abu S.holds hu0.up fun w15 e15=>?_
   refine gp_ ?_
   exact hK2 _ e15
  have S:=S.go e14
  refine c_b (fun hbad=>?_) (fun hgood=>?_)
  ·have hne : ptE u n q≠0:=fun h0=>by
    simp only [Bool.or_eq_true,decide_eq_true_eq,Bool.not_eq_true'] at hbad
    rcases hbad with hbad|hbad
    ·have:=(ZG h0).2.1;omega
    ·rw [agQ (ZG h0).2.1,decide_eq_true h0] at hbad;cases hbad
   have h2:=ail hne
   have hn1 : jG u n q = []:=by rw [jG,if_neg hne]
   have ho1 : Z2 u n q=([],2):=by rw [Z2,if_pos hne,h2]
   have ha1 : jQ u n q=(yQ,false,2):=by rw [jQ,if_pos hne,h2]
   rw [ha1] at S hpa0
   rw [h2,hn1,ho1,ha1]
   refine gp_ ?_
   refine zf (c:=false) (fun _ K2 hK2=>by refine gg_ ?_;exact hK2) ?_
   refine zf (c:=false) (fun _ K2 hK2=>by refine gg_ ?_;exact hK2) ?_
   refine zf (c:=false) (fun _ K2 hK2=>by refine gg_ ?_;exact hK2) ?_
   refine zf (c:=false) (fun _ K2 hK2=>by refine gg_ ?_;exact hK2) ?_
   refine zf (c:=false) (fun _ K2 hK2=>hK2) ?_
   refine ym (c:=false) (fun _ K2 hK2=>?_) fun w16 e16=>?_
   ·refine S.ldB (b:=b13) ?_ rfl
    refine zx (cs:=#[.int .i64 0,.slice none 0 0]) (by kernel_rfl) ?_
    refine Y5 (q:=yQ) (d:=[.int .i64 0,.slice none 0 0]) S.holds hpa0.up ⟨_,rfl,xH⟩ fun w17 e17=>?_
    rw [jP]
    refine gp_ ?_
    exact hK2 _ e17
   have S:=S.go e16
   refine c_f (by simp) ?_
   rw [← ha1] at S
   exact hK14 [] _ S
  ·have hq0 : 0≤q:=by
    simp only [Bool.or_eq_false_iff,decide_eq_false_iff_not] at hgood;omega
   have hz : ptE u n q=0:=by
    simp only [Bool.or_eq_false_iff,decide_eq_false_iff_not,Bool.not_eq_false'] at hgood
    have:=hgood.2
    rw [agQ hq0,decide_eq_true_iff] at this;exact this
   obtain ⟨g,p,bf,of,cf,hE,hcf,hgc,hfo,hn0,hn1,_,⟨hql,hpe⟩,haf,he1,he2,he3⟩:=ahK hfn hz
   cases hE
   rw [he3] at S hpa0 hK14
   rw [he1] at hl
   rw [he2] at ho
   rw [hz,he1,he2,he3]
   dsimp only at ho hpa0 S hK14 ⊢
   obtain ⟨x1,x2,x3,x4,y1,y2,y3,y4,rfl,hg0⟩:=xV hgc
   have hg1:=hg0
   obtain ⟨_,_,_,_,hE,m1,m2,m3,m4⟩:=hg1
   cases hE
   have hml : g.pts.length≤9223372036854775807:=m4.few
   obtain ⟨bp,op,cp,hE,hcp,hpc,hpo⟩:=m4.sl.get (by decide) hql
   cases hE
   rw [hpe] at hpc
   obtain ⟨z1,z2,z3,z4,z5,t1,t2,t3,t4,t5,rfl,hp0⟩:=yj hpc
   obtain ⟨kto,kka,kkb,kkl,kkf⟩:=Zi hp0
   refine gg_ ?_
   refine zq (n:=7) hcf (fun j v hj=>S.at (hfo j v hj)) ?_
   refine S.al fun b16 w16 S=>?_
   refine S.stB (b:=b16) fun w17 S=>?_
   refine S.ldB (b:=b16) ?_ rfl
   refine aeM S.holds hg0.up hq0 hql hpe fun vn sn w18 e18 n18 hnx=>?_
   obtain ⟨S,d18,a18⟩:=S.tell e18 n18
   obtain ⟨pn,capn,rfl,_,_⟩:=hnx.shape
   refine gg_ ?_
   refine zq (n:=21) hcp (fun j v hj=>S.at (hpo j v hj)) ?_
   refine aaw S.holds hp0.up haf fun vr sr w19 e19 n19 hrf=>?_
   obtain ⟨S,d19,a19⟩:=S.tell e19 n19
   obtain ⟨pr,capr,rfl,_,_⟩:=hrf.shape
   have S:=S.go (Ext.drew _)
   refine gp_ ?_
   refine zf (c:=false) (fun _ K2 hK2=>by refine gg_ ?_;exact hK2) ?_
   refine zf (c:=false) (fun _ K2 hK2=>by refine gg_ ?_;exact hK2) ?_
   refine zf (c:=false) (fun _ K2 hK2=>by refine gg_ ?_;simpa using hK2) ?_
   refine zf (c:=false) (fun _ K2 hK2=>by refine gg_ ?_;simpa using hK2) ?_
   refine ym (c:=false) (fun _ K2 hK2=>?_) fun w20 e20=>?_
   ·refine gg_ ?_
    refine zq (n:=21) hcp (fun j v hj=>S.at (hpo j v hj)) ?_
    refine abx S.holds hp0.up fun w21 e21=>?_
    refine gg_ ?_
    have:=hK2 _ e21
    simpa using this
   have S:=S.go e20
   refine ym (c:=false) (fun _ K2 hK2=>?_) fun w22 e22=>?_
   ·refine S.ldB (b:=b13) ?_ rfl
    refine gg_ ?_
    refine zq (n:=2) (c:=[.int .i64 p.to.l,.slice z1 p.to.ps.length t1]) rfl (fun j v hj=>?_) ?_
    ·match j,hj with
     |0,hj=>cases hj;exact S.at (hpo 1 _ rfl)
     |1,hj=>cases hj;exact S.at (hpo 2 _ rfl)
    refine Y5 S.holds hpa0.up kto.up fun w23 e23=>?_
    rw [jP]
    refine gp_ ?_
    exact hK2 _ e23
   have S:=S.go e22
   refine c_f (by simp) ?_
   have hnl : (qG p).length≤2:=by
    rw [qG];(repeat' split)<;>simp
   have hrl : (qc p).length≤1002:=by
    rw [qc,List.length_append,List.length_append]
    have h1 : (if p.a.k≠0 then [p.a] else []).length≤1:=by split<;>simp
    have h2 : (if p.b.k≠0 then [p.b] else []).length≤1:=by split<;>simp
    omega
   have S:=S.drop b16
   refine zi (ι:=Nat) (fun i=>[.int .i64 (i : Nat)]) (fun i w'=>i≤(qG p).length∧StX noX w _ w' _) (fun i=>(qG p).length - i) 0 rfl ⟨Nat.zero_le _,S⟩ ?_
   clear S
   rintro i d w30 ⟨hi,S⟩ K78 hK78
   rw [List.getD_cons_zero]
   refine gg_ ?_
   refine zh (fun hlt2=>?_) (fun hge=>?_)
   ·have hlt2 : i<(qG p).length:=by omega
    obtain ⟨b1',o1',c1',hE,hc1,hR1,hcell1⟩:=hl.get (by decide) hlt2
    cases hE
    obtain rfl : c1'=_:=hR1
    obtain ⟨b2',o2',c2',hE,hc2,hR2,hcell2⟩:=hnx.get (by decide) hlt2
    cases hE
    obtain rfl : c2'=_:=hR2
    have S:=S.go (Ext.drew _)
    refine gg_ ?_
    refine zp (v:=.int .i64 (qG p)[i]) (by simpa using S.at (hcell1 0 _ rfl)) ?_
    refine gg_ ?_
    refine zp (v:=.int .i64 (qG p)[i]) (by simpa using S.at (hcell2 0 _ rfl)) ?_
    refine gg_ ?_
    refine c_f (by simp) ?_
    refine gg_ ?_
    exact hK78 (i+1) _ ⟨hlt2,S⟩ (by omega)
   refine zi (ι:=Nat) (fun i=>[.int .i64 (i : Nat)]) (fun i w'=>i≤(qc p).length∧StX noX w _ w' _) (fun i=>(qc p).length - i) 0 rfl ⟨Nat.zero_le _,S⟩ ?_
   clear S hK78 K78 hge hi i
   rintro i d w31 ⟨hi,S⟩ K82 hK82
   rw [List.getD_cons_zero]
   refine gg_ ?_
   refine zh (fun hlt2=>?_) (fun hge=>?_)
   ·have hlt2 : i<(qc p).length:=by omega
    obtain ⟨b1',o1',c1',hE,hc1,hR1,hcell1⟩:=ho.get (by decide) hlt2
    cases hE
    obtain ⟨b2',o2',c2',hE,hc2,hR2,hcell2⟩:=hrf.get (by decide) hlt2
    cases hE
    have hR1 : OpG s10 c1' (qc p)[i]:=hR1
    generalize (qc p)[i]=o at hR1 hR2
    obtain ⟨v1',rfl,hpl1⟩:=hR1.pl
    obtain ⟨v2',rfl,hpl2⟩:=hR2.pl
    have S:=S.go (Ext.drew _)
    refine gg_ ?_
    refine zp (v:=.int .u8 o.k) (by rw [Int.toNat_natCast];simpa using S.at (hcell1 0 _ rfl)) ?_
    refine gg_ ?_
    refine zp (v:=.int .u8 o.k) (by rw [Int.toNat_natCast];simpa using S.at (hcell2 0 _ rfl)) ?_
    refine gg_ ?_
    refine zf (c:=false) (fun _ K2 hK2=>?_) ?_
    ·refine gg_ ?_
     refine zp (v:=.int .i64 o.n) (by rw [Int.toNat_natCast];exact S.at (hcell1 1 _ rfl)) ?_
     refine gg_ ?_
     refine zp (v:=.int .i64 o.n) (by rw [Int.toNat_natCast];exact S.at (hcell2 1 _ rfl)) ?_
     refine gg_ ?_
     simpa using hK2
    refine ym (c:=false) (fun _ K2 hK2=>?_) fun w33 e33=>?_
    ·refine gg_ ?_
     refine zq (n:=2) (c:=[.int .i64 o.pl.l,v1']) rfl (fun j v hj=>?_) ?_
     ·rw [Int.toNat_natCast]
      match j,hj with
      |0,hj=>cases hj;exact S.at (hcell1 2 _ rfl)
      |1,hj=>cases hj;exact S.at (hcell1 3 _ rfl)
     refine gg_ ?_
     refine zq (n:=2) (c:=[.int .i64 o.pl.l,v2']) rfl (fun j v hj=>?_) ?_
     ·rw [Int.toNat_natCast]
      match j,hj with
      |0,hj=>cases hj;exact S.at (hcell2 2 _ rfl)
      |1,hj=>cases hj;exact S.at (hcell2 3 _ rfl)
     refine Y5 S.holds hpl1.up hpl2.up fun w34 e34=>?_
     rw [jP]
     refine gp_ ?_
     exact hK2 _ e34
    have S:=S.go e33
    refine c_f (by simp) ?_
    refine gg_ ?_
    exact hK82 (i+1) _ ⟨hlt2,S⟩ (by omega)
   refine hK14 [] _ (S.less (fun b o hb=>?_) (List.Sublist.refl _))
   exact .inl (.inl hb)
 clear S
 rintro _ w40 S d40
 have S:=S.drop b13
 refine S.ldB (b:=b4) ?_ rfl
 refine S.ldB (b:=b7) ?_ rfl
 refine aeu S.holds hu0.up hx0.up fun vt st w41 e41 n41 ht=>?_
 obtain ⟨S,d41,a41⟩:=S.tell e41 n41
 obtain ⟨pt,capt,rfl,_⟩:=id ht
 refine gS_ ?_
 refine S.al fun b21 w42 S=>?_
 refine S.stB (b:=b21) fun w43 S=>?_
 refine S.ldB (b:=b4) ?_ rfl
 refine adr S.holds hu0.up fun vc sc w44 e44 n44 hc=>?_
 obtain ⟨S,d44,a44⟩:=S.tell e44 n44
 obtain ⟨pc,capc,rfl,_,_⟩:=hc.shape
 refine gS_ ?_
 refine S.ldB (b:=b4) ?_ rfl
 refine abu S.holds hu0.up fun w45 e45=>?_
 have S:=S.go e45
 have hzf : TyD.few zD:=⟨Nat.zero_le _,trivial⟩
 refine gp_ ?_
 refine c_b (fun hno=>?_) (fun hyes=>?_)
 ·have hf:=aik (show isU u n (-1)=false by simpa using hno)
  have hg : XL u n x=(zD,2):=by rw [XL,if_pos (by rw [hf];decide)]
  have hcl : Y4 u n = []:=by rw [Y4,if_neg (by rw [hf];decide)]
  rw [hg] at ht S ⊢
  rw [hf,hcl]
  dsimp only at ht S ⊢
  refine gp_ ?_
  refine zg (c:=true) (fun _ K2 hK2=>by refine gg_ ?_;exact hK2) ?_
  refine zg (c:=true) (fun _ K2 hK2=>by refine gg_ ?_;exact hK2) ?_
  refine zm (c:=true) (fun _ K2 hK2=>?_) fun w46 e46=>?_
  ·refine S.ldB (b:=b21) ?_ rfl
   refine zx (cs:=#[.int .u8 0,.bool false,.int .i64 0,.int .i64 0,.slice none 0 0]) (by kernel_rfl) ?_
   exact jN _ zD (Nat.le_refl _) hzf S.holds ht.up yh fun w12 e12=>hK2 _ e12
  have S:=S.go e46
  refine zm (c:=true) (fun _ K2 hK2=>Z3 hT.up S.holds fun w3 e3=>hK2 _ e3) fun w47 e47=>?_
  have:=h _ (S.go e47).ext
  simpa using this
 have hf:=ai5 (show isU u n (-1)=true by simpa using hyes)
 obtain ⟨hM,hn0,hlt⟩:=k8 hf
 have hce:=ahJ hf (List.getElem?_eq_getElem hlt)
 have hff:=(hM.hd hlt).fine hM.ok
 refine S.ldB (b:=b4) ?_ rfl
 refine S.ldB (b:=b7) ?_ rfl
 refine ace S.holds hu0.up hM hn0 hlt hx0.up fun ok t v' vg s46 w46 e46 n46 hwt hok htt=>?_
 obtain ⟨S,d46,a46⟩:=S.tell e46 n46
 obtain ⟨pw,capw,rfl,_⟩:=id hwt
 have hg : XL u n x=(t,if ok=true then 0 else 2):=by
  rw [XL,if_neg (by rw [hf];decide),List.getElem?_eq_getElem hlt]
  dsimp only
  rw [hok,htt]
  cases ok<;>rfl
 have htf : t.few:=by
  rw [htt]
  cases ok with
  |false=>exact hzf
  |true=>exact agP 48 (x7 hff hok)
 rw [hg] at ht S ⊢
 rw [hf,hce]
 rw [hce] at hc
 dsimp only at ht S ⊢
 refine gS_ ?_
 refine S.al fun b23 w47 S=>?_
 refine S.stB (b:=b23) fun w48 S=>?_
 refine afs (m:=decide ((if ok=true then (0 : Int) else 2)≠0)) (x:=false) (fun K2 hK2=>by refine gg_ ?_;exact hK2) (fun _ K2 hK2=>?_) fun w49 e49=>?_
 ·refine S.ldB (b:=b21) ?_ rfl
  refine S.ldB (b:=b23) ?_ rfl
  refine jN _ _ (Nat.le_refl _) htf S.holds ht.up hwt.up fun w12 e12=>?_
  refine gp_ ?_
  exact hK2 _ e12
 have S:=S.go e49
 refine ai6 (n:=!ok) (m:=decide ((if ok=true then (0 : Int) else 2)≠2)) (x:=false) (fun _ K2 hK2=>by refine gg_ ?_;exact hK2) (fun _ K2 hK2=>by refine gg_ ?_;exact hK2) (fun hno _ K2 hK2=>?_) fun w50 e50=>?_
 ·have ho : ok=false:=by simpa using hno
  have hz : t=zD:=by rw [htt,ho];rfl
  subst hz
  refine S.ldB (b:=b21) ?_ rfl
  refine zx (cs:=#[.int .u8 0,.bool false,.int .i64 0,.int .i64 0,.slice none 0 0]) (by kernel_rfl) ?_
  refine jN _ zD (Nat.le_refl _) hzf S.holds ht.up yh fun w12 e12=>?_
  refine gp_ ?_
  exact hK2 _ e12
 have S:=S.go e50
 refine c_f (by cases ok<;>rfl) ?_
 refine S.ldB (b:=b4) ?_ rfl
 refine adu S.holds hu0.up hn0 hlt (by have:=hM.fs32;omega) fun vr sr w51 e51 n51 hrc=>?_
 obtain ⟨S,d51,a51⟩:=S.tell e51 n51
 obtain ⟨pr,capr,rfl,_,_⟩:=hrc.shape
 have hcl : (refCalls u.fs.length u.fs[n.toNat].pts).length≤32:=Nat.le_trans Vb hM.fs32
 generalize refCalls u.fs.length u.fs[n.toNat].pts=L at hc hrc hcl S ⊢
 refine gp_ ?_
 refine zf (c:=false) (fun _ K2 hK2=>by refine gg_ ?_;simpa using hK2) ?_
 refine c_f (by simp) ?_
 have e0:=S.ext
 obtain ⟨r2,hr2,hc2,hrc2,hT2⟩ : ∃ r2,Holds r2 w51∧SlG 1 r2 xM (.slice pc L.length capc) L∧SlG 1 r2 xM (.slice pr L.length capr) L∧TabZ r2:=⟨_,S.holds,hc.cells,hrc.cells,hT.up⟩
 clear S
 have S:=St.start hr2
 refine zi (ι:=Nat) (fun i=>[.int .i64 (i : Nat)]) (fun i w'=>i≤L.length∧StX noX w51 r2 w' []) (fun i=>L.length - i) 0 rfl ⟨Nat.zero_le _,S⟩ ?_
 clear S
 rintro i d w60 ⟨hi,S⟩ K160 hK160
 rw [List.getD_cons_zero]
 refine gg_ ?_
 refine zh (fun hlt2=>?_) (fun hge=>?_)
 ·have hlt2 : i<L.length:=by omega
  obtain ⟨b1',o1',c1',hE,hc1,hR1,hcell1⟩:=hc2.get (by decide) hlt2
  cases hE
  obtain rfl : c1'=_:=hR1
  obtain ⟨b2',o2',c2',hE,hc2',hR2,hcell2⟩:=hrc2.get (by decide) hlt2
  cases hE
  obtain rfl : c2'=_:=hR2
  have S:=S.go (Ext.drew _)
  refine gg_ ?_
  refine zp (v:=.int .i64 L[i]) (by simpa using S.at (hcell1 0 _ rfl)) ?_
  refine gg_ ?_
  refine zp (v:=.int .i64 L[i]) (by simpa using S.at (hcell2 0 _ rfl)) ?_
  refine gg_ ?_
  refine c_f (by simp) ?_
  refine gg_ ?_
  exact hK160 (i+1) _ ⟨hlt2,S⟩ (by omega)
 exact Z3 hT2 S.holds fun w3 e3=>h _ (e0.trans (S.go e3).ext)
end Go.Proofs
end
section
namespace Go.Proofs.YtngfnikkdhbajaaGreatDoor.openG
open Go.Sh Go.ChangeShapes Go.WideShapes Go.ChangeAt Go.RowKit
set_option maxRecDepth 100000
set_option linter.unusedSimpArgs false
set_option linter.unusedVariables false
theorem own : ownKnob Tryz.prog.godebug=none:=by kernel_rfl
theorem aim : laidOutB Tryz.prog=true:=by kernel_rfl
theorem ajC : mapsRowed Tryz.prog=true:=by kernel_rfl
theorem ajQ : ((List.range Tryz.prog.types.size).all fun t=>match Tryz.prog.underlying t with|some (.slice e)=>decide (0<Tryz.prog.cellsOf e)|_=>true)=true:=by kernel_rfl
theorem kT : Tryz.prog.underlying 3=some (.int .i64):=by kernel_rfl
theorem ai7 : Tryz.prog.underlying 2=some (.int .i64):=by kernel_rfl
theorem ai8 : Tryz.prog.underlying 138=some (.int .i64):=by kernel_rfl
theorem af0 : Tryz.prog.underlying 4=some .bool:=by kernel_rfl
theorem ajR : Tryz.prog.underlying 9=some .string:=by kernel_rfl
theorem uTk : Tryz.prog.underlying 55=some (.int .u8):=by kernel_rfl
theorem uOk : Tryz.prog.underlying 39=some (.int .u8):=by kernel_rfl
theorem uPo : Tryz.prog.underlying 35=some (.int .u8):=by kernel_rfl
theorem sTy : Tryz.prog.underlying 29=some (.slice 57)∧Tryz.prog.cellsOf 57=5:=⟨by kernel_rfl,by kernel_rfl⟩
theorem sFd : Tryz.prog.underlying 82=some (.slice 86)∧Tryz.prog.cellsOf 86=6:=⟨by kernel_rfl,by kernel_rfl⟩
theorem sSt : Tryz.prog.underlying 22=some (.slice 84)∧Tryz.prog.cellsOf 84=2:=⟨by kernel_rfl,by kernel_rfl⟩
theorem sGr : Tryz.prog.underlying 23=some (.slice 33)∧Tryz.prog.cellsOf 33=7:=⟨by kernel_rfl,by kernel_rfl⟩
theorem sOu : Tryz.prog.underlying 28=some (.slice 101)∧Tryz.prog.cellsOf 101=2:=⟨by kernel_rfl,by kernel_rfl⟩
theorem sSs : Tryz.prog.underlying 30=some (.slice 9)∧Tryz.prog.cellsOf 9=1:=⟨by kernel_rfl,by kernel_rfl⟩
theorem sPt : Tryz.prog.underlying 31=some (.slice 44)∧Tryz.prog.cellsOf 44=21:=⟨by kernel_rfl,by kernel_rfl⟩
theorem sOp : Tryz.prog.underlying 42=some (.slice 41)∧Tryz.prog.cellsOf 41=4:=⟨by kernel_rfl,by kernel_rfl⟩
theorem sSp : Tryz.prog.underlying 36=some (.slice 138)∧Tryz.prog.cellsOf 138=1:=⟨by kernel_rfl,by kernel_rfl⟩
theorem aTy : ∃ fs,Tryz.prog.underlying 57=some (.struct fs)∧fs.toList.map (·.type) = [55,4,3,3,29]:=x6 (by kernel_rfl)
theorem aFd : ∃ fs,Tryz.prog.underlying 86=some (.struct fs)∧fs.toList.map (·.type) = [9,57]:=x6 (by kernel_rfl)
theorem aSt : ∃ fs,Tryz.prog.underlying 84=some (.struct fs)∧fs.toList.map (·.type) = [9,82]:=x6 (by kernel_rfl)
theorem aPl : ∃ fs,Tryz.prog.underlying 38=some (.struct fs)∧fs.toList.map (·.type) = [3,36]:=x6 (by kernel_rfl)
theorem aOp : ∃ fs,Tryz.prog.underlying 41=some (.struct fs)∧fs.toList.map (·.type) = [39,2,38]:=x6 (by kernel_rfl)
theorem aPt : ∃ fs,Tryz.prog.underlying 44=some (.struct fs)∧fs.toList.map (·.type) = [35,38,41,41,42,9,38,4,3,3,3,3,3]:=x6 (by kernel_rfl)
theorem aOu : ∃ fs,Tryz.prog.underlying 101=some (.struct fs)∧fs.toList.map (·.type) = [3,3]:=x6 (by kernel_rfl)
theorem aGr : ∃ fs,Tryz.prog.underlying 33=some (.struct fs)∧fs.toList.map (·.type) = [9,3,28,3,29,30,31]:=x6 (by kernel_rfl)
theorem aUn : ∃ fs,Tryz.prog.underlying 25=some (.struct fs)∧fs.toList.map (·.type) = [22,23,3]:=x6 (by kernel_rfl)
theorem ain : aec Tryz.prog [25,22,84,82,86,9,57,55,4,3,29,23,33,28,101,30,31,44,35,
 38,36,138,41,39,2,42]=true:=by kernel_rfl
theorem Zu {α : Type} {f : α→Dat} {G : α→Prop} {d : Dat} {T e : TypeId} {n : Nat} (u : Tryz.prog.underlying T=some (.slice e)∧Tryz.prog.cellsOf e=n) (h : d.ok Tryz.prog T) (hf : ∀ x : Dat,SizeOf.sizeOf x<SizeOf.sizeOf d→x.ok Tryz.prog e→∃ t,x=f t∧G t) :
  ∃ l : List α,d = .sl n (l.map f)∧l.length≤maxLen∧∀ t ∈ l,G t:=by
 obtain ⟨es,rfl,hl,hk⟩:=ago u.1 h
 obtain ⟨l,rfl,hg⟩:=aee (f:=f) (G:=G) es fun x hx=>hf x (by
  have:=List.sizeOf_lt_of_mem hx
  simp only [Dat.sl.sizeOf_spec];omega) (hk x hx)
 exact ⟨l,by rw [u.2],by simpa using hl,hg⟩
theorem ajD : ∀ (n : Nat) (d : Dat),SizeOf.sizeOf d≤n→d.ok Tryz.prog 57→∃ t : TyD,d=t.dat:=by
 intro n
 induction n with
 |zero=>intro d h _;cases d<;>simp at h
 |succ n ih=>
  intro d hs h
  obtain ⟨ds,rfl,e0⟩:=xw aTy h
  obtain ⟨d0,ds,rfl,h0,e1⟩:=zk e0
  obtain ⟨d1,ds,rfl,h1,e2⟩:=zk e1
  obtain ⟨d2,ds,rfl,h2,e3⟩:=zk e2
  obtain ⟨d3,ds,rfl,h3,e4⟩:=zk e3
  obtain ⟨d4,ds,rfl,h4,e5⟩:=zk e4
  obtain rfl:=ja e5
  obtain ⟨k,rfl,_⟩:=yq uTk h0
  obtain ⟨m,rfl⟩:=aed af0 h1
  obtain ⟨re,rfl,_⟩:=yq kT h2
  obtain ⟨st,rfl,_⟩:=yq kT h3
  obtain ⟨l,rfl,_,_⟩:=Zu (f:=TyD.dat) (G:=fun _=>True) sTy h4 fun x hx hk=>by
   obtain ⟨t,ht⟩:=ih x (by
    simp only [Dat.agg.sizeOf_spec,List.cons.sizeOf_spec] at hs
    omega) hk
   exact ⟨t,ht,trivial⟩
  exact ⟨.mk k m re st l,by rw [TyD.dat,TyD.dats_map]⟩
theorem agR {d : Dat} (h : d.ok Tryz.prog 57) : ∃ t : TyD,d=t.dat∧True:=by
 obtain ⟨t,ht⟩:=ajD _ d (Nat.le_refl _) h
 exact ⟨t,ht,trivial⟩
theorem Vc {d : Dat} (h : d.ok Tryz.prog 9) : ∃ s : ByteArray,d = .str s∧True:=by
 obtain ⟨s,hs,_⟩:=ah3 ajR h
 exact ⟨s,hs,trivial⟩
theorem afu {n : Int} (h : (Lit.int .i64 n).wf=true) : xn n:=by have:=agp h;exact ⟨this.1,by omega⟩
theorem ai9 {d : Dat} (h : d.ok Tryz.prog 138) : ∃ n : Int,d=Dat.int .i64 n∧xn n:=by
 obtain ⟨n,hn,hw⟩:=yq ai8 h
 exact ⟨n,hn,afu hw⟩
theorem ajE {d : Dat} (h : d.ok Tryz.prog 86) : ∃ f : ByteArray × TyD,d=ad9 f∧True:=by
 obtain ⟨ds,rfl,e0⟩:=xw aFd h
 obtain ⟨d0,ds,rfl,h0,e1⟩:=zk e0
 obtain ⟨d1,ds,rfl,h1,e2⟩:=zk e1
 obtain rfl:=ja e2
 obtain ⟨s,rfl,_⟩:=Vc h0
 obtain ⟨t,rfl,_⟩:=agR h1
 exact ⟨(s,t),rfl,trivial⟩
theorem ajF {d : Dat} (h : d.ok Tryz.prog 84) : ∃ s : StD,d=s.dat∧True:=by
 obtain ⟨ds,rfl,e0⟩:=xw aSt h
 obtain ⟨d0,ds,rfl,h0,e1⟩:=zk e0
 obtain ⟨d1,ds,rfl,h1,e2⟩:=zk e1
 obtain rfl:=ja e2
 obtain ⟨s,rfl,_⟩:=Vc h0
 obtain ⟨l,rfl,_,_⟩:=Zu (f:=ad9) (G:=fun _=>True) sFd h1 fun x _ hk=>ajE hk
 exact ⟨⟨s,l⟩,rfl,trivial⟩
theorem adB {d : Dat} (h : d.ok Tryz.prog 38) : ∃ p : PlD,d=p.dat∧p.ok:=by
 obtain ⟨ds,rfl,e0⟩:=xw aPl h
 obtain ⟨d0,ds,rfl,h0,e1⟩:=zk e0
 obtain ⟨d1,ds,rfl,h1,e2⟩:=zk e1
 obtain rfl:=ja e2
 obtain ⟨n,rfl,_⟩:=yq kT h0
 obtain ⟨l,rfl,hl,hg⟩:=Zu (f:=Dat.int .i64) (G:=xn) sSp h1 fun x _ hk=>ai9 hk
 exact ⟨⟨n,l⟩,rfl,hl,hg⟩
theorem af1 {d : Dat} (h : d.ok Tryz.prog 41) : ∃ o : OpD,d=o.dat∧o.ok:=by
 obtain ⟨ds,rfl,e0⟩:=xw aOp h
 obtain ⟨d0,ds,rfl,h0,e1⟩:=zk e0
 obtain ⟨d1,ds,rfl,h1,e2⟩:=zk e1
 obtain ⟨d2,ds,rfl,h2,e3⟩:=zk e2
 obtain rfl:=ja e3
 obtain ⟨k,rfl,_⟩:=yq uOk h0
 obtain ⟨n,rfl,_⟩:=yq ai7 h1
 obtain ⟨p,rfl,hp⟩:=adB h2
 exact ⟨⟨k,n,p⟩,rfl,hp⟩
theorem ajG {d : Dat} (h : d.ok Tryz.prog 44) : ∃ p : PtD,d=p.dat∧p.ok:=by
 obtain ⟨ds,rfl,e0⟩:=xw aPt h
 obtain ⟨d0,ds,rfl,h0,e1⟩:=zk e0
 obtain ⟨d1,ds,rfl,h1,e2⟩:=zk e1
 obtain ⟨d2,ds,rfl,h2,e3⟩:=zk e2
 obtain ⟨d3,ds,rfl,h3,e4⟩:=zk e3
 obtain ⟨d4,ds,rfl,h4,e5⟩:=zk e4
 obtain ⟨d5,ds,rfl,h5,e6⟩:=zk e5
 obtain ⟨d6,ds,rfl,h6,e7⟩:=zk e6
 obtain ⟨d7,ds,rfl,h7,e8⟩:=zk e7
 obtain ⟨d8,ds,rfl,h8,e9⟩:=zk e8
 obtain ⟨d9,ds,rfl,h9,e10⟩:=zk e9
 obtain ⟨d10,ds,rfl,h10,e11⟩:=zk e10
 obtain ⟨d11,ds,rfl,h11,e12⟩:=zk e11
 obtain ⟨d12,ds,rfl,h12,e13⟩:=zk e12
 obtain rfl:=ja e13
 obtain ⟨op,rfl,_⟩:=yq uPo h0
 obtain ⟨to,rfl,g1⟩:=adB h1
 obtain ⟨a,rfl,g2⟩:=af1 h2
 obtain ⟨b,rfl,g3⟩:=af1 h3
 obtain ⟨l,rfl,hl,g4⟩:=Zu (f:=OpD.dat) (G:=OpD.ok) sOp h4 fun x _ hk=>af1 hk
 obtain ⟨s,rfl,_⟩:=Vc h5
 obtain ⟨fr,rfl,g6⟩:=adB h6
 obtain ⟨mu,rfl⟩:=aed af0 h7
 obtain ⟨fn,rfl,_⟩:=yq kT h8
 obtain ⟨st,rfl,_⟩:=yq kT h9
 obtain ⟨nx,rfl,_⟩:=yq kT h10
 obtain ⟨el,rfl,_⟩:=yq kT h11
 obtain ⟨tx,rfl,_⟩:=yq kT h12
 exact ⟨⟨op,to,a,b,l,s,fr,mu,fn,st,nx,el,tx⟩,rfl,g1,g2,g3,⟨hl,g4⟩,g6⟩
theorem ajH {d : Dat} (h : d.ok Tryz.prog 101) : ∃ x : Int × Int,d=afJ x∧True:=by
 obtain ⟨ds,rfl,e0⟩:=xw aOu h
 obtain ⟨d0,ds,rfl,h0,e1⟩:=zk e0
 obtain ⟨d1,ds,rfl,h1,e2⟩:=zk e1
 obtain rfl:=ja e2
 obtain ⟨a,rfl,_⟩:=yq kT h0
 obtain ⟨b,rfl,_⟩:=yq kT h1
 exact ⟨(a,b),rfl,trivial⟩
theorem ajI {d : Dat} (h : d.ok Tryz.prog 33) : ∃ g : GrD,d=g.dat∧g.ok:=by
 obtain ⟨ds,rfl,e0⟩:=xw aGr h
 obtain ⟨d0,ds,rfl,h0,e1⟩:=zk e0
 obtain ⟨d1,ds,rfl,h1,e2⟩:=zk e1
 obtain ⟨d2,ds,rfl,h2,e3⟩:=zk e2
 obtain ⟨d3,ds,rfl,h3,e4⟩:=zk e3
 obtain ⟨d4,ds,rfl,h4,e5⟩:=zk e4
 obtain ⟨d5,ds,rfl,h5,e6⟩:=zk e5
 obtain ⟨d6,ds,rfl,h6,e7⟩:=zk e6
 obtain rfl:=ja e7
 obtain ⟨s,rfl,_⟩:=Vc h0
 obtain ⟨lv,rfl,_⟩:=yq kT h1
 obtain ⟨lo,rfl,g2,_⟩:=Zu (f:=afJ) (G:=fun _=>True) sOu h2 fun x _ hk=>ajH hk
 obtain ⟨pn,rfl,_⟩:=yq kT h3
 obtain ⟨lt,rfl,g4,_⟩:=Zu (f:=TyD.dat) (G:=fun _=>True) sTy h4 fun x _ hk=>agR hk
 obtain ⟨ln,rfl,g5,_⟩:=Zu (f:=Dat.str) (G:=fun _=>True) sSs h5 fun x _ hk=>Vc hk
 obtain ⟨lp,rfl,g6,hp⟩:=Zu (f:=PtD.dat) (G:=PtD.ok) sPt h6 fun x _ hk=>ajG hk
 exact ⟨⟨s,lv,lo,pn,lt,ln,lp⟩,rfl,g2,g4,g5,g6,hp⟩
theorem ajJ {d : Dat} (h : d.ok Tryz.prog 25) : ∃ u : UnD,d=u.dat∧u.ok:=by
 obtain ⟨ds,rfl,e0⟩:=xw aUn h
 obtain ⟨d0,ds,rfl,h0,e1⟩:=zk e0
 obtain ⟨d1,ds,rfl,h1,e2⟩:=zk e1
 obtain ⟨d2,ds,rfl,h2,e3⟩:=zk e2
 obtain rfl:=ja e3
 obtain ⟨ss,rfl,g0,_⟩:=Zu (f:=StD.dat) (G:=fun _=>True) sSt h0 fun x _ hk=>ajF hk
 obtain ⟨fs,rfl,g1,hg⟩:=Zu (f:=GrD.dat) (G:=GrD.ok) sGr h1 fun x _ hk=>ajI hk
 obtain ⟨mn,rfl,_⟩:=yq kT h2
 exact ⟨⟨ss,fs,mn⟩,rfl,g0,g1,hg⟩
section
variable {H : Type} {enc : TypeId × Value→H} {W : World} {base : Nat} {v : Value} {d : DataW H} {p : List MemPlace}
theorem aeN (hv : Value.okWide Tryz.prog W .any base 3 v) (h : DataW.Trod enc Tryz.prog W 0 (fun _=>true) true 3 v d p) : ∃ n : Int,v = .int .i64 n∧-9223372036854775808≤n∧n≤9223372036854775807:=by
 obtain ⟨n,rfl,_,_,hw⟩:=open_int kT hv h
 exact ⟨n,rfl,agp hw⟩
end
end Go.Proofs.YtngfnikkdhbajaaGreatDoor.openG
end
section
namespace Go.Proofs.YtngfnikkdhbajaaGreatDoor.openG
open Go.Sh Go.ChangeShapes Go.WideShapes Go.ChangeAt Go.RowKit
set_option maxRecDepth 100000
set_option linter.unusedSimpArgs false
set_option linter.unusedVariables false
theorem Y6 {x : Int} {t : TypeId} (u : Tryz.prog.underlying t=some (.int .i64)) (h : (Dat.int .i64 x).ok Tryz.prog t) : xn x:=by
 obtain ⟨n,hn,hw⟩:=yq u h
 cases hn
 exact afu hw
theorem aby {α : Type} {f : α→Dat} {n : Nat} {T e : TypeId} {l : List α} (u : Tryz.prog.underlying T=some (.slice e)) (h : (Dat.sl n (l.map f)).ok Tryz.prog T) : ∀ x ∈ l,(f x).ok Tryz.prog e:=fun x hx=>by
 obtain ⟨es,hE,_,hs⟩:=ago u h
 injection hE with _ hE
 exact hs _ (hE ▸ List.mem_map_of_mem hx)
theorem abz {p : PlD} (h : p.dat.ok Tryz.prog 38) : PlN p:=by
 unfold PlD.dat at h
 obtain ⟨ds,hE,e0⟩:=xw aPl h
 cases hE
 obtain ⟨d0,ds,hE,h0,e1⟩:=zk e0
 cases hE
 obtain ⟨d1,ds,hE,h1,e2⟩:=zk e1
 cases hE
 exact ⟨Y6 kT h0,fun k hk=>Y6 ai8 (aby sSp.1 h1 k hk)⟩
theorem aeO {o : OpD} (h : o.dat.ok Tryz.prog 41) : OpN o:=by
 unfold OpD.dat at h
 obtain ⟨ds,hE,e0⟩:=xw aOp h
 cases hE
 obtain ⟨d0,ds,hE,h0,e1⟩:=zk e0
 cases hE
 obtain ⟨d1,ds,hE,h1,e2⟩:=zk e1
 cases hE
 obtain ⟨d2,ds,hE,h2,e3⟩:=zk e2
 cases hE
 exact ⟨Y6 ai7 h1,abz h2⟩
theorem aja {p : PtD} (h : p.dat.ok Tryz.prog 44) : PtN p:=by
 unfold PtD.dat at h
 obtain ⟨ds,hE,e0⟩:=xw aPt h
 cases hE
 obtain ⟨d0,ds,hE,h0,e1⟩:=zk e0
 cases hE
 obtain ⟨d1,ds,hE,h1,e2⟩:=zk e1
 cases hE
 obtain ⟨d2,ds,hE,h2,e3⟩:=zk e2
 cases hE
 obtain ⟨d3,ds,hE,h3,e4⟩:=zk e3
 cases hE
 obtain ⟨d4,ds,hE,h4,e5⟩:=zk e4
 cases hE
 obtain ⟨d5,ds,hE,h5,e6⟩:=zk e5
 cases hE
 obtain ⟨d6,ds,hE,h6,e7⟩:=zk e6
 cases hE
 obtain ⟨d7,ds,hE,h7,e8⟩:=zk e7
 cases hE
 obtain ⟨d8,ds,hE,h8,e9⟩:=zk e8
 cases hE
 obtain ⟨d9,ds,hE,h9,e10⟩:=zk e9
 cases hE
 obtain ⟨d10,ds,hE,h10,e11⟩:=zk e10
 cases hE
 obtain ⟨d11,ds,hE,h11,e12⟩:=zk e11
 cases hE
 exact ⟨abz h1,aeO h2,aeO h3,fun o ho=>aeO (aby sOp.1 h4 o ho),abz h6,Y6 kT h8,Y6 kT h9,Y6 kT h10,Y6 kT h11⟩
theorem ajb {u : UnD} (h : u.dat.ok Tryz.prog 25) : UnN u:=fun g hg p hp=>by
 unfold UnD.dat at h
 obtain ⟨ds,hE,e0⟩:=xw aUn h
 cases hE
 obtain ⟨d0,ds,hE,h0,e1⟩:=zk e0
 cases hE
 obtain ⟨d1,ds,hE,h1,e2⟩:=zk e1
 cases hE
 have k:=aby sGr.1 h1 g hg
 unfold GrD.dat at k
 obtain ⟨ds,hE,e0⟩:=xw aGr k
 cases hE
 obtain ⟨c0,ds,hE,g0,e1⟩:=zk e0
 cases hE
 obtain ⟨c1,ds,hE,g1,e2⟩:=zk e1
 cases hE
 obtain ⟨c2,ds,hE,g2,e3⟩:=zk e2
 cases hE
 obtain ⟨c3,ds,hE,g3,e4⟩:=zk e3
 cases hE
 obtain ⟨c4,ds,hE,g4,e5⟩:=zk e4
 cases hE
 obtain ⟨c5,ds,hE,g5,e6⟩:=zk e5
 cases hE
 obtain ⟨c6,ds,hE,g6,e7⟩:=zk e6
 cases hE
 exact aja (aby sPt.1 g6 p hp)
section
variable {H : Type} {enc : TypeId × Value→H} {W : World} {base : Nat} {v : Value} {d : DataW H} {p : List MemPlace}
theorem ahL (hv : Value.okWide Tryz.prog W .any base 25 v) (h : DataW.Trod enc Tryz.prog W 0 (fun _=>true) true 25 v d p) : ∃ u : UnD,UnG (all W) v u∧UnN u:=by
 obtain ⟨fs,hu,_⟩:=aUn
 obtain ⟨cs,rfl,hsz⟩:=okWide_struct hu hv
 obtain ⟨fuel,hf⟩:=h
 obtain ⟨d,hr,hd⟩:=Zo ain fuel 25 _ _ (by simp) hf
 obtain ⟨u,rfl,hk⟩:=ajJ hd
 exact ⟨u,by simpa [Value.cells] using ags hr hk,ajb hd⟩
theorem aio : aec Tryz.prog [38,3,36,138]=true:=by kernel_rfl
theorem aip (hv : Value.okWide Tryz.prog W .any base 38 v) (h : DataW.Trod enc Tryz.prog W 0 (fun _=>true) true 38 v d p) : ∃ (c : List Value) (x : PlD),v = .agg c.toArray∧PlG (all W) c x∧PlN x:=by
 obtain ⟨fs,hu,_⟩:=aPl
 obtain ⟨cs,rfl,hsz⟩:=okWide_struct hu hv
 obtain ⟨fuel,hf⟩:=h
 obtain ⟨d,hr,hd⟩:=Zo aio fuel 38 _ _ (by simp) hf
 obtain ⟨x,rfl,hk⟩:=adB hd
 exact ⟨cs.toList,x,by simp,by simpa [Value.cells] using Xt hr hk,abz hd⟩
end
theorem ajc : Tryz.prog.globalNamed "internal/strconv.uint64pow10" = some 0 := by kernel_rfl
theorem ahM : (Tryz.prog.globals[0]?).map (·.type)=some 231:=by kernel_rfl
theorem ajK : Tryz.prog.underlying 231=some (.array 20 185):=by kernel_rfl
theorem ajL : Tryz.prog.underlying 185=some (.int .u64):=by kernel_rfl
theorem agS : Tryz.prog.cellsOf 231=20:=by kernel_rfl
theorem agT : Tryz.prog.cellsOf 185=1:=by kernel_rfl
theorem aiq : (Rows.laid_internal_strconv_uint64pow10 : DataW Unit)=Lib.tabData .u64 Lib.pow10Tab:=by kernel_rfl
theorem ajd {W : World} (h : laidMetH Tryz.prog Rows.graphTextsRow.laid W) : TabZ (all W):=by
 have h0 : laidMet Tryz.prog Rows.graphTextsRow.laid W:=h
 have h1 : laidMet Tryz.prog [("internal/strconv.uint64pow10", Rows.laid_internal_strconv_uint64pow10)] W := laidMet.tail (laidMet.tail h0)
 rw [aiq] at h1
 have ht : Lib.TabIs Tryz.prog W "internal/strconv.uint64pow10" .u64 Lib.pow10Tab := Lib.tabIs_of_head (rest := []) ajc ahM ajK ajL agT agS h1
 intro w' hw
 unfold Lib.TabIs World.var? at ht ⊢
 rw [ajc] at ht ⊢
 simp only [Option.bind] at ht ⊢
 cases ho : W.heap[0]? with
 |none=>rw [ho] at ht;cases ht
 |some o=>rw [hw 0 o ho];rw [ho] at ht;exact ht
def aje : DataW Unit→List Value
 |.agg l=>l.map fun
  |.lit (.int k n)=>.int k n
  |_=>undef
 |_=>[]
def aeP (d : DataW Unit) : Obj→Obj
 |.cells _ t frozen=>.cells (aje d).toArray t frozen
 |o=>o
noncomputable def QG (os : Os) : World:=
 { World.holding Tryz.prog os ⟨#[],#[],[]⟩ with heap:=(((World.holding Tryz.prog os ⟨#[],#[],[]⟩).heap.modify 0 (aeP Rows.laid_internal_strconv_uint64pow10)).modify 2 (aeP Rows.laid_math_bits_deBruijn32tab)).modify 3 (aeP Rows.laid_math_bits_deBruijn64tab) }
end Go.Proofs.YtngfnikkdhbajaaGreatDoor.openG
end
section
namespace Go.Proofs.YtngfnikkdhbajaaGreatDoor.graphAsks
open Go.Sh Go.ChangeShapes Go.WideShapes Go.ChangeAt Go.RowKit openG
set_option maxRecDepth 100000
set_option linter.unusedVariables false
theorem ahN (H : Type) (enc : TypeId × Value→H) (W : World) (base : Nat) (args : Array Value) (ds gs : List (DataW H)) (before : List MemPlace)
  (hval : ∀ (j : Nat) t v,Tryz.f6.params[j]? = some t→args[j]? = some v→Value.okWide Tryz.prog W .any base t v)
  (hW : DataW.Whole enc Tryz.prog Tryz.f6.params.toList Rows.graphAsksSpec.vars false W args.toList ds gs before) (hL : laidMetH Tryz.prog Rows.graphAsksRow.laid W)
  (hwt : (DataW.weightsEach Tryz.prog (Tryz.f6.params.toList++(Rows.OpenSpec.upto Rows.graphAsksSpec).bare.plain.varTypes Tryz.prog) (ds++gs)).all (·≤reachBytes)=true) :
  Calls Tryz.prog 6 args W fun e W'=>∃ v,e = .returned v∧Rows.graphAsksSpec.post enc Tryz.prog Tryz.f6 false true false false W args v W':=by
 have hW':=hW
 obtain ⟨p,q,hA,hV,rfl,hfz,hnd⟩:=hW
 rw [show Tryz.f6.params.toList = [25,3,3,38] by kernel_rfl] at hA
 obtain ⟨v0,vs0,d0,ds0,p0,q100,hargs,rfl,rfl,h0,r0⟩:=trodAll_cons hA
 obtain ⟨v1,vs1,d1,ds1,p1,q101,rfl,rfl,rfl,h1,r1⟩:=trodAll_cons r0
 obtain ⟨v2,vs2,d2,ds2,p2,q102,rfl,rfl,rfl,h2,r2⟩:=trodAll_cons r1
 obtain ⟨v3,vs3,d3,ds3,p3,q103,rfl,rfl,rfl,h3,r3⟩:=trodAll_cons r2
 obtain ⟨rfl,rfl,rfl⟩:=trodAll_nil r3
 obtain rfl : args=#[v0,v1,v2,v3]:=by cases args;simp_all
 obtain ⟨rfl,rfl⟩:=trodVars_none hV
 obtain ⟨u0,hu0,hn0⟩:=ahL (hval 0 25 v0 (by kernel_rfl) rfl) h0
 obtain ⟨n1,rfl,hi1⟩:=aeN (hval 1 3 v1 (by kernel_rfl) rfl) h1
 obtain ⟨n2,rfl,hi2⟩:=aeN (hval 2 3 v2 (by kernel_rfl) rfl) h2
 obtain ⟨c3,x3,rfl,hp3,hq3⟩:=aip (hval 3 38 v3 (by kernel_rfl) rfl) h3
 refine Calls.mono (VD (K:=fun v W'=>v = .bool true∧Ext W W') (ajd hL) (agb W) hu0 hn0 hp3 fun w' e=>⟨rfl,e⟩) ?_
 rintro e W' ⟨v,he,rfl,hE⟩
 exact ⟨_,he,agm aim ajC ajQ (by rw [show Tryz.f6.params.toList = [25,3,3,38] by kernel_rfl];decide) rfl (by kernel_rfl) af0 hW' rfl hE⟩
def wit : Array Value:=#[.agg #[.slice none 0 0,.slice none 0 0,.int .i64 0],.int .i64 0,.int .i64 0,.agg #[.int .i64 0,.slice none 0 0]]
theorem ahO (os : Os) : laidMet Tryz.prog Rows.graphAsksRow.laid ((QG os).forCall (fun _ _=>0) ⟨#[],wit,[]⟩).memory:=
 laidMet_of_run' 8 (by kernel_rfl) (by kernel_rfl)
theorem ajM (os : Os) {H : Type} (enc : TypeId × Value→H) : ∃ places,DataW.whole enc Tryz.prog ((QG os).forCall (fun _ _=>0) ⟨#[],wit,[]⟩).memory Tryz.f6.params.toList Rows.graphAsksSpec.vars false wit.toList 8=some ([.agg [.nil,.nil,.lit (.int .i64 0)],.lit (.int .i64 0),.lit (.int .i64 0),.agg [.lit (.int .i64 0),.nil]],[],places):=
 ⟨[],by kernel_rfl⟩
theorem ajf (os : Os) (started : os.Started) (H : Type) (enc : TypeId × Value→H) (F : Stop.Interp) :
  ReturnsInHanded {} Tryz.checked os 6 .any ((Rows.OpenSpec.upto Rows.graphAsksSpec).preRow enc Tryz.prog Tryz.f6 Rows.graphAsksUptoRow.domain false Rows.graphAsksUptoRow.laid) (((Rows.OpenSpec.upto Rows.graphAsksSpec).at F).post enc Tryz.prog Tryz.f6 false true false false):=by
 obtain ⟨places,hx⟩:=ajM os enc
 refine returnsInHanded_of_row (C:=Tryz.checked) (s:=Rows.OpenSpec.upto Rows.graphAsksSpec) own started (by kernel_rfl) Tryz.func6
  (witness_row_at (enc:=enc) (C:=Tryz.checked) false (QG os) wit rfl (by kernel_rfl) (by kernel_rfl) (by kernel_rfl)
   (OpenSpec.preRow_of_cond 8 hx (by kernel_rfl) (fun k hk=>by cases hk;kernel_rfl) (by kernel_rfl) (ahO os))) ?_
 intro W base args ds gs before hval hW _ _ hwt hL _ _
 exact ahN H enc W base args ds gs before hval hW hL hwt
theorem said : Rows.GraphAsksUptoSaid:=
 OpenClaim.holds_of_cond 6 Tryz.f6 rfl rfl rfl rfl rfl rfl rfl ⟨rfl,rfl,rfl,rfl,rfl⟩ rfl rfl rfl rfl rfl (by kernel_rfl) Tryz.func6 (by kernel_rfl)
  (of_decide_eq_true (by kernel_rfl)) (by unfold Func.isWrapper;first|(rw [if_pos (by decide +kernel)];kernel_rfl)|(rw [if_neg (by decide +kernel)];exact ⟨rfl,rfl⟩))
  (fun os started H enc _ F=>by rw [OpenClaim.pre_eq_preRow];exact ajf os started H enc F)
theorem plain (f : FuncId) (fn : Func) (hf : Tryz.pinned.checked.prog.funcNamed "loanword/loanwordlaw10.GraphAsks" = some f) (hfn : Tryz.pinned.checked.prog.funcs[f]? = some fn) :
  false=Tryz.pinned.checked.prog.looks []∧∀ (j : Nat) t,fn.params[j]? = some t→Tryz.pinned.checked.prog.wantsStandIn t=false:=by
 obtain rfl : f = 6 := Option.some.inj ((show Tryz.prog.funcNamed "loanword/loanwordlaw10.GraphAsks" = some 6 by kernel_rfl).symm.trans hf) |>.symm
 obtain rfl : fn=Tryz.f6:=(Option.some.inj (Tryz.func6.symm.trans hfn)).symm
 refine ⟨by kernel_rfl,fun j t ht=>?_⟩
 have hall : (Tryz.f6.params.all fun t=>!(Tryz.prog.wantsStandIn t))=true:=by kernel_rfl
 have:=Array.all_eq_true_iff_forall_mem.1 hall t (Array.mem_of_getElem? ht)
 show Tryz.prog.wantsStandIn t=false
 simpa using this
theorem card : Rows.GraphAsksUptoCardSaid:=
 Claim7.holds_tied_plain_at .later [] _ _ _ _ said (fun _ h=>by cases h) (by kernel_rfl) (fun _ h=>by cases h) graphAsksUpto_row_tie rfl ⟨rfl,rfl⟩ (by kernel_rfl) rfl plain (by kernel_rfl)
end Go.Proofs.YtngfnikkdhbajaaGreatDoor.graphAsks
end
