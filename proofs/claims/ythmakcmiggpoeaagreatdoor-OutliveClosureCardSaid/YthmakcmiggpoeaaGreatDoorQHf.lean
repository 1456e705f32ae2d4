/-
  Contracts and plain laws that the last text leans on.
-/
import Derived.Test.YthmakcmiggpoeaaGreatDoorQHe
import Derived.Test.YthmakcmiggpoeaaGreatDoorQHd
import Derived.Test.YthmakcmiggpoeaaGreatDoorQHb
set_option maxRecDepth 100000
set_option maxHeartbeats 8000000
set_option linter.unusedVariables false
set_option linter.unusedSimpArgs false
section
namespace Go.Proofs
open Go.Sh Go.RowKit
variable {l:List CnD} {a:Int} {w:World} {r:Gh} {K:Value→World→Prop} {R:List yB}
theorem XL{n:Int}:ZT l n=ZQ l n:=by
 rw[Bool.eq_iff_iff,kq,ZT,Bool.not_eq_true',List.any_eq_false]
 refine forall_congr' λc=>forall_congr' λhc=>?_
 rw[ac9,Bool.or_eq_true,decide_eq_true_eq,decide_eq_true_eq]
 omega
noncomputable def frD(l:List CnD)(ct a:Int):List Int×Int:=if (((ct<0∨512<ct)∨a<0)∨ct≤a)∨ZT l ct=false then([],2)else(upL l ct.toNat a,0)
theorem afT{n:Nat}{out:List Int}(hl:ZQ l n=true)(h:UpS l n a out out.length):kD out=upL l n a:=by
 refine YG ?_ YH λx=>?_
 ·have hp:(kD out).Pairwise (λa b=>decide (a≤b)=true):=List.pairwise_mergeSort (λa b c h1 h2=>by simp only[decide_eq_true_eq]at *;omega) (λa b=>by simp only[Bool.or_eq_true,decide_eq_true_eq];omega) out
  have hn:(kD out).Nodup:=(List.mergeSort_perm out _).nodup_iff.2 h.nd
  rw[List.pairwise_iff_getElem]at hp⊢
  intro i j hi hj hij
  have h1:=hp i j hi hj hij
  have h2:=(List.pairwise_iff_getElem.1 hn) i j hi hj hij
  simp only[decide_eq_true_eq]at h1
  omega
 ·rw[← h.end hl]
  exact List.mem_mergeSort
theorem jp{ct a:Int}{v:Value}{K:Value→World→Prop}(hr:Holds r w)(hl:SlG 2 r CnC v l)(hb:l.length≤1000000)
  (h:∀v' s w',Ext w w'→New w s w'→SlG 1 s qP v' (frD l ct a).1→K (.tuple #[v',.int .i64 (frD l ct a).2]) w'):zd Tryz.prog Tryz.xv #[v,.int .i64 ct,.int .i64 a] w K:=by
 refine Tryz.JU ?_
 unfold Tryz.Yk
 have S:=St.start hr
 obtain⟨p,cap,rfl,_,_⟩:=hl.shape
 have hE:frD l ct a=if (((ct<0∨512<ct)∨a<0)∨ct≤a)∨ZT l ct=false then([],2)else(upL l ct.toNat a,0):=rfl
 refine gp_ ?_
 refine zi (c:=decide (ct>512)) (λ_ K2 hK2=>by refine gp_ ?_;exact hK2) ?_
 refine zi (c:=decide (a<0)) (λ_ K2 hK2=>by refine gp_ ?_;exact hK2) ?_
 refine zi (c:=decide (a≥ct)) (λ_ K2 hK2=>by refine gp_ ?_;exact hK2) ?_
 refine xq (c:=!ZT l ct) (λ_ K2 hK2=>?_) λw5 e5=>?_
 ·refine Za S.holds hl (by omega) λw5 e5=>?_
  refine gp_ ?_
  exact hK2 _ e5
 have S:=S.go e5
 refine c_b (λhbad=>?_) (λhgood=>?_)
 ·have hE:frD l ct a=([],2):=by
   rw[hE,if_pos]
   simp only[Bool.or_eq_true,decide_eq_true_eq,Bool.not_eq_true']at hbad
   exact hbad
  rw[hE]at h
  exact h _ nothing _ S.ext New.nothing SlG.nil
 simp only[Bool.or_eq_false_iff,decide_eq_false_iff_not,Bool.not_eq_false']at hgood
 obtain⟨⟨⟨⟨k1,k2⟩,k3⟩,k4⟩,k5⟩:=hgood
 have hE:frD l ct a=(upL l ct.toNat a,0):=by rw[hE,if_neg];rw[k5];simp;omega
 rw[hE]at h
 obtain⟨n,rfl⟩:∃n:Nat,ct=(n:Int):=⟨ct.toNat,by omega⟩
 rw[tnc]at h
 rw[XL]at k5
 clear hE
 refine S.lit (e:=3) (cs:=[.int .i64 a]) (by kernel_rfl) λb6 w6 S=>?_
 have S:StX noX w r w6 [.row (.slice (some ⟨b6,0,none⟩) 1 1) 3 1 1 (ints [a])]:=S.toRow 1 1 rfl (by decide)
 refine zp (ι:=(Value×List Int)×Nat) (λi=>[i.1.1,.int .i64 (i.2:Nat)]) (λi w'=>UpS l n a i.1.2 i.2∧StX noX w r w' [.row i.1.1 3 1 i.1.2.length (ints i.1.2)]) (λi=>n-i.2) ((.slice (some ⟨b6,0,none⟩) 1 1,[a]),0) rfl ⟨UpS.start (by omega),S⟩ ?_
 repeat clear S
 rintro⟨⟨v,out⟩,i⟩ d w7 ⟨hU,S⟩ K4 hK4
 simp only[gdz,gds]
 have hU:UpS l n a out i:=hU
 have S:StX noX w r w7 [.row v 3 1 out.length (ints out)]:=S
 have hfew:=hU.few
 have hile:=hU.le
 obtain⟨pv,capv,hv,_⟩:=S.rowS v
 rw[hv]
 refine gp_ ?_
 refine gp_ ?_
 rw[← hv]
 refine zn (λhlt=>?_) (λhge=>?_)
 ·have hlt:i<out.length:=by omega
  refine gp_ ?_
  refine zp (ι:=(Value×List Int)×Nat) (λj=>[j.1.1,.int .i64 (j.2:Nat)]) (λj w'=>UpS l n a j.1.2 i∧i<j.1.2.length∧j.2≤l.length∧(∀k (hk:k<l.length),k<j.2→j.1.2[i]? = some l[k].2→l[k].1∈j.1.2)∧StX noX w r w' [.row j.1.1 3 1 j.1.2.length (ints j.1.2)]) (λj=>l.length-j.2) ((v,out),0) rfl ⟨hU,hlt,Nat.zero_le _,λk hk h0=>absurd h0 (Nat.not_lt_zero _),S⟩ ?_
  repeat clear S
  clear hv hfew hile hlt hU
  rintro⟨⟨v,out⟩,j⟩ d w8 ⟨hU,hlt,hjl,hdn,S⟩ K5 hK5
  simp only[gdz,gds]
  have hU:UpS l n a out i:=hU
  have hlt:i<out.length:=hlt
  have hjl:j≤l.length:=hjl
  have hdn:∀k (hk:k<l.length),k<j→out[i]? = some l[k].2→l[k].1∈out:=hdn
  have S:StX noX w r w8 [.row v 3 1 out.length (ints out)]:=S
  have hfew:=hU.few
  refine gp_ ?_
  refine zn (λhltj=>?_) (λhgej=>?_)
  ·have hltj:j<l.length:=by omega
   have hjx:=kq.1 k5 _ (List.getElem_mem hltj)
   refine zt (λx w'=>∃v' out',x=[v']∧UpS l n a out' i∧i<out'.length∧(∀k (hk:k<l.length),k<j+1→out'[i]? = some l[k].2→l[k].1∈out')∧StX noX w r w' [.row v' 3 1 out'.length (ints out')]) (λK3 hK3=>?_) ?_
   ·obtain⟨b,off,hpE,_,_,_,hcell⟩:=Yl hl hltj
    rw[hpE]
    refine gg_ ?_
    refine zu (n:=2) rfl (λj v hj=>by rw[tnc];exact S.at (hcell j v hj)) ?_
    refine S.al λb11 w9 S=>?_
    refine S.stB (b:=b11) λw10 S=>?_
    have S:=S.go (Ext.drew _)
    have S:StX noX w r w10.drew [.cell b11 [.int .i64 l[j].1,.int .i64 l[j].2] 36,.row v 3 1 out.length (ints out)]:=S
    obtain⟨s,T,hs,_,_⟩:=(S.permO (.swap _ _ _)).doneRow (l:=out) ZR (by decide) rfl
    obtain⟨pv,capv,hv,_⟩:=hs.shape
    have hs0:=hs
    rw[hv]at hs0
    obtain⟨bo,oo,hpo,_,hco⟩:=kE hs0 hlt
    refine gg_ ?_
    rw[hv,hpo]
    refine gp_ ?_
    refine zh (v:=.int .i64 out[i]) (by simpa using T.at (hco.up (s:=r.or s))) ?_
    rw[← hpo,← hv]
    refine gp_ ?_
    refine zk (c:=!decide (l[j].1∈out)) (λhb K2 hK2=>?_) ?_
    ·refine gg_ ?_
     refine Vy T.holds hs.cells (by simp only[maxLen];omega) ?_
     refine gp_ ?_
     exact hK2
    refine c_b (λhb=>?_) (λhb=>?_)
    ·simp only[Bool.and_eq_true,decide_eq_true_eq,Bool.not_eq_true',decide_eq_false_iff_not]at hb
     obtain⟨hb1,hb2⟩:=hb
     have hU2:=hU.add k5 (List.getElem_mem hltj) (by rw[hb1];exact List.getElem_mem hlt) hb2
     refine gg_ ?_
     refine S.lit (e:=3) (cs:=[.int .i64 l[j].1]) (by kernel_rfl) λb12 w12 S=>?_
     refine S.ap (v:=v) (m':=1) (Sl.blk (S.blk b12)) (λv4 w13 S=>?_) (by omega)
     refine hK3 _ _ ⟨v4,out++[l[j].1],rfl,hU2,by rw[List.length_append];omega,λk hk hkj hx=>?_,?_⟩
     ·rw[List.getElem?_append_left hlt]at hx
      rcases Nat.lt_or_ge k j with h1|h1
      ·exact List.mem_append_left _ (hdn k hk h1 hx)
      ·obtain rfl:k=j:=by omega
       exact List.mem_append_right _ (List.mem_singleton.2 rfl)
     ·have hi2:ints (out++[l[j].1])=ints out++[.int .i64 l[j].1]:=by rw[ints,List.map_append];rfl
      rw[hi2,List.length_append,List.length_singleton]
      exact S.tl.tl
    ·refine hK3 _ _ ⟨v,out,rfl,hU,hlt,λk hk hkj hx=>?_,S.tl⟩
     rcases Nat.lt_or_ge k j with h1|h1
     ·exact hdn k hk h1 hx
     ·obtain rfl:k=j:=by omega
      rw[gqg hlt]at hx
      have hx:out[i]=l[k].2:=by simpa using hx
      rw[hx]at hb
      simpa using hb
   ·repeat clear S
    rintro _ w9 ⟨v',out',rfl,hU',hlt',hdn',S⟩ d
    rw[gdz]
    refine gp_ ?_
    exact hK5 ((v',out'),j+1) _ ⟨hU',hlt',hltj,hdn',S⟩ (by show l.length-(j+1)<l.length-j;omega)
  ·obtain rfl:j=l.length:=by omega
   have hn:=hU.next hlt λc hc hx=>by
    obtain⟨k,hk,rfl⟩:=List.getElem_of_mem hc
    exact hdn k hk hk hx
   refine gp_ ?_
   exact hK4 ((v,out),i+1) _ ⟨hn,S⟩ (by show n-(i+1)<n-i;omega)
 ·obtain rfl:i=out.length:=by omega
  refine aan S (by show out.length<4611686018427387904;omega) λw9 S=>?_
  obtain⟨s,T,hs,_,ha⟩:=S.doneRow (l:=kD out) ZR (by decide) (by rw[jH])
  rw[afT k5 hU]at hs
  exact h _ s _ T.ext (StX.newOf (q:=s) T λb o ho=>(ha b o ho).resolve_right id) hs
noncomputable def Zb(R:List yB)(x:yB):Bool:=!(BM.mayB x.1 x.2)||decide (x.1≠(R.headD (0,[])).1)
def XM(R:List yB)(a:Int):yB:=R.getD a.toNat (0,[])
def jx(R:List yB)(c:CnD):List Nat:=lackL (XM R c.1).1 (XM R c.1).2 (XM R c.2).2
theorem Ym(h:a.toNat<R.length):XM R a=R[a.toNat]:=by
 rw[XM,List.getD_eq_getElem?_getD,gqg h,Option.getD_some]
theorem adb{b3:Nat}{p:Option Addr}{cap:Nat}{x:yB}{c:List Value}{K:Value→World→Prop}(hr:Holds r w)(h3:Ob r λw=>w.cell? ⟨b3,0,none⟩=some (.slice p R.length cap))(hR:SlG 2 r (RwbC r) (.slice p R.length cap) R)(hn:R≠[])
  (hx:RwbC r c x) (h:∀w',Ext w w'→K (.bool (Zb R x)) w'):zr Tryz.prog (.func (.func Tryz.jC) #[] #[.pointer (some ⟨b3,0,none⟩)]) #[.agg c.toArray] w K:=by
 refine Yt (by kernel_rfl) ?_
 refine Tryz.Y3 ?_
 unfold Tryz.jJ
 have hx0:=hx
 obtain⟨q,capq,rfl,_⟩:=hx
 have hl0:0<R.length:=List.length_pos_iff.2 hn
 have S:=St.start hr
 refine S.box λb2 w1 S=>?_
 have S:=S.go (Ext.drew _)
 have S:StX noX w r _ [.cell b2 [.int .i64 x.1,.slice q x.2.length capq] 48]:=S
 refine S.ldB (b:=b2) ?_ rfl
 refine vk (W:=x.1) (ws:=x.2) S.holds hx0 λw3 e3=>?_
 have S:=S.go e3
 refine gp_ ?_
 have hh:(R.headD (0,[])).1=R[0].1:=by rw[List.headD_eq_head?_getD,List.head?_eq_getElem?,gqg hl0,Option.getD_some]
 refine zi (c:=decide (x.1≠(R.headD (0,[])).1)) (λ_ K2 hK2=>?_) ?_
 ·obtain⟨b,off,c,hE,hcl,hcR,hcell⟩:=hR.get (by decide) hl0
  obtain⟨pw,cw,rfl,_⟩:=hcR
  rw[hh]at hK2
  refine gg_ ?_
  refine zh (S.at h3) ?_
  rw[hE]
  refine gg_ ?_
  refine zh (v:=.int .i64 R[0].1) (by simpa using S.at (hcell 0 _ rfl)) ?_
  refine gp_ ?_
  exact hK2
 exact h _ S.ext
theorem Zc{v vr:Value}{K:Value→World→Prop}(hr:Holds r w)(hl:SlG 2 r CnC v l)(hb:l.length≤1000000)(hR:SlG 2 r (RwbC r) vr R)(hRb:R.length≤1000000)(hT:TabG r)
  (h1:R.any (Zb R)=true∨ZT l R.length=false→∀w',Ext w w'→K (.tuple #[.int .i64 0,.int .i64 0,.bool false,.int .i64 2]) w')
  (h2:R.any (Zb R)=false→ZQ l R.length=true→∀(i:Nat)(hi:i<l.length),(∀k (hk:k<l.length),k<i→jx R l[k]=[])→jx R l[i]≠[]→∀w',Ext w w'→K (.tuple #[.int .i64 (i:Nat),.int .i64 ((jx R l[i]).headD 0:Nat),.bool false,.int .i64 0]) w')
  (h3:R.any (Zb R)=false→ZQ l R.length=true→(∀k (hk:k<l.length),jx R l[k]=[])→∀w',Ext w w'→K (.tuple #[.int .i64 0,.int .i64 0,.bool true,.int .i64 0]) w'):
  zd Tryz.prog Tryz.y6 #[v,vr] w K:=by
 refine Tryz.Qb ?_
 unfold Tryz.vX
 obtain⟨p,cap,rfl,_,_⟩:=hl.shape
 obtain⟨pr,capr,rfl,_,_⟩:=hR.shape
 have S:=St.start hr
 refine S.box λb3 w1 S=>?_
 have S:StX noX w r w1 [.cell b3 [.slice pr R.length capr] 44]:=S
 have S:=S.frzAt b3
 have hT:TabG (r.or (Go.Sh.one b3 [.slice pr R.length capr] 44)):=hT.up
 have hl:SlG 2 (r.or (Go.Sh.one b3 [.slice pr R.length capr] 44)) CnC (.slice p l.length cap) l:=hl.cells
 have hR:SlG 2 (r.or (Go.Sh.one b3 [.slice pr R.length capr] 44)) (RwbC (r.or (Go.Sh.one b3 [.slice pr R.length capr] 44))) (.slice pr R.length capr) R:=hR.up' inferInstance λ_ _ h=>h.up
 have hc3:Ob (r.or (Go.Sh.one b3 [.slice pr R.length capr] 44)) λw=>w.cell? ⟨b3,0,none⟩=some (.slice pr R.length capr):=y8 (c:=[.slice pr R.length capr]) (T:=44) rfl
 generalize r.or (Go.Sh.one b3 [.slice pr R.length capr] 44)=ρ at S hT hl hR hc3
 refine zh (S.at hc3) ?_
 refine gp_ ?_
 refine XA (f:=Zb R) S.holds hR (by omega) (λx hx c w K hr hc h=>adb hr hc3 hR (List.ne_nil_of_mem hx) hc h) λw2 e2=>?_
 have S:=S.go e2
 refine xq (c:=!ZT l R.length) (λ_ K2 hK2=>?_) λw5 e5=>?_
 ·refine zh (S.at hc3) ?_
  refine gp_ ?_
  refine Za S.holds hl (by omega) λw5 e5=>?_
  refine gp_ ?_
  exact hK2 _ e5
 have S:=S.go e5
 refine c_b (λhbad=>?_) (λhgood=>?_)
 ·refine h1 ?_ _ S.ext
  simpa using hbad
 simp only[Bool.or_eq_false_iff,Bool.not_eq_false']at hgood
 obtain⟨k1,k2⟩:=hgood
 rw[XL]at k2
 clear h1
 refine gg_ ?_
 refine zp (ι:=Nat) (λi=>[.int .i64 (i:Nat)]) (λi w'=>i≤l.length∧(∀k (hk:k<l.length),k<i→jx R l[k]=[])∧StX noX w ρ w' []) (λi=>l.length-i) 0 rfl ⟨Nat.zero_le _,λk hk h0=>absurd h0 (Nat.not_lt_zero _),S⟩ ?_
 repeat clear S
 rintro i d w6 ⟨hi,hno,S⟩ K4 hK4
 rw[gdz]
 refine gp_ ?_
 refine zn (λhlt=>?_) (λhge=>?_)
 ·have hlt:i<l.length:=by omega
  have hix:=kq.1 k2 _ (List.getElem_mem hlt)
  obtain⟨b,off,hpE,_,_,_,hcell⟩:=Yl hl hlt
  rw[hpE]
  refine gg_ ?_
  refine zu (n:=2) rfl (λj v hj=>by rw[tnc];exact S.at (hcell j v hj)) ?_
  refine S.al λb9 w7 S=>?_
  refine S.stB (b:=b9) λw8 S=>?_
  have S:=S.go (Ext.drew _)
  have S:StX noX w ρ w8.drew [.cell b9 [.int .i64 l[i].1,.int .i64 l[i].2] 36]:=S
  have ha:l[i].1.toNat<R.length:=by omega
  have hb2:l[i].2.toNat<R.length:=by omega
  obtain⟨ba,oa,ca,hEa,_,hca,hcella⟩:=hR.get (by decide) ha
  obtain⟨bb,ob,cb,hEb,_,hcb,hcellb⟩:=hR.get (by decide) hb2
  have hca0:=hca
  have hcb0:=hcb
  obtain⟨pa,wa,rfl,_⟩:=hca
  obtain⟨pb,wb,rfl,_⟩:=hcb
  refine zh (S.at hc3) ?_
  refine gg_ ?_
  rw[hEa]
  refine gg_ ?_
  refine zu (n:=2) rfl (λj v hj=>S.at (hcella j v hj)) ?_
  refine zh (S.at hc3) ?_
  refine gg_ ?_
  rw[hEb]
  refine gg_ ?_
  refine zu (n:=2) rfl (λj v hj=>S.at (hcellb j v hj)) ?_
  have hma:∀x∈R,BM.mayB x.1 x.2=true∧x.1=(R.headD (0,[])).1:=λx hx=>by
   have:=List.any_eq_false.1 k1 x hx
   rw[Zb]at this
   simpa using this
  obtain⟨m1,m2⟩:=hma _ (List.getElem_mem ha)
  obtain⟨m3,m4⟩:=hma _ (List.getElem_mem hb2)
  refine XC S.holds hca0 hcb0 hT (λhn=>absurd ⟨m1,m3,by rw[m2,m4]⟩ hn) λ_ _ _ w9 e9=>?_
  have S:=S.go e9
  have hlk:lackL R[l[i].1.toNat].1 R[l[i].1.toNat].2 R[l[i].2.toNat].2=jx R l[i]:=by rw[jx,Ym ha,Ym hb2]
  rw[hlk]
  unfold JQ
  refine gS_ ?_
  refine c_b (λhy=>?_) (λhn=>?_)
  ·exact h2 k1 k2 i hlt hno (by intro e;rw[e]at hy;cases hy) _ S.ext
  ·refine gp_ ?_
   refine hK4 (i+1) _ ⟨hlt,λk hk hki=>?_,S.tl⟩ (by omega)
   rcases Nat.lt_or_ge k i with h|h
   ·exact hno k hk h
   ·obtain rfl:k=i:=by omega
    simpa using hn
 ·obtain rfl:i=l.length:=by omega
  exact h3 k1 k2 (λk hk=>hno k hk hk) _ S.ext
end Go.Proofs
end
section
namespace Go.Proofs.Tryz
open Go.Sh
end Go.Proofs.Tryz
end
section
namespace Go.Proofs
open Go.Sh Go.RowKit
end Go.Proofs
end
section
namespace Go.Proofs
open Go.Sh
end Go.Proofs
end
section
namespace Go.Proofs
open Go.Sh Go.RowKit
end Go.Proofs
end
section
namespace Go.Proofs
open Go.Sh
end Go.Proofs
end
section
namespace Go.Proofs
open Go.Sh Go.RowKit
end Go.Proofs
end
section
namespace Go.Proofs.Tryz
open Go.Sh
variable {w:World} {K:VW} {t0:Value}
def kU(t0 t1 t2:Value)(w:World)(K:VW):Prop:=
 pp (Builtin.len_ #[28] 3 #[t0]) λt25=>bt .gtr 3 t25 (i6 300) λt26=>za (λK1=>gIf t26 false (pp (Builtin.len_ #[44] 3 #[t1]) λt29=>bt .gtr 3 t29 (i6 300) λt30=>K1 [t30] w) (K1 [u_] w)) (λs2 _d3 w4=>
 zb t26 tr_ (s2.getD 0 u_) λt31=>zc t31 (ca xa #[] w4 λt32 w5=>
 K t32 w5) (zy [(i6 0)] w4 (λs7 _d8 w9 K6=>
 pp (Builtin.len_ #[44] 3 #[t1]) λt35=>bf .lss 3 (s7.getD 0 u_) t35 λt36=>zc t36 (px 44 t1 (s7.getD 0 u_) λt41=>fl w9 t41 48 1 46 λt43=>pp (Builtin.len_ #[46] 3 #[t43]) λt44=>bt .gtr 3 t44 (i6 100) λt45=>zc t45 (ca xa #[] w9 λt46 w10=>
 K t46 w10) (bt .add 3 (s7.getD 0 u_) (i6 1) λt38=>K6 [t38] w9)) (ca y6 #[t0,t1] w9 λt50 w11=>
 pe t50 0 λ_t51=>pe t50 1 λ_t52=>pe t50 2 λt53=>pe t50 3 λt54=>pp (Builtin.len_ #[44] 3 #[t1]) λt58=>ca xv #[t0,t58,t2] w11 λt60 w12=>
 pe t60 0 λt61=>pe t60 1 λt62=>bt .neq 29 t62 (i6 0) λt64=>zc t64 (pp (Builtin.len_ #[55] 3 #[t61]) λt66=>bt .eql 3 t66 (i6 0) λt67=>za (λK13=>gIf t67 true (ca xa #[] w12 λt69 w17=>
 K13 [t69] w17) (K13 [u_] w12)) (λs14 _d15 w16=>
 zb t67 (s14.getD 0 u_) fa_ λt70=>K t70 w16)) (pp (Builtin.len_ #[44] 3 #[t1]) λt72=>pw w12 (Instr.makeSlice 55 t72 t72) λt73 w18=>
 zy [(i6 0)] w18 (λs20 _d21 w22 K19=>
 pp (Builtin.len_ #[55] 3 #[t61]) λt76=>bf .lss 3 (s20.getD 0 u_) t76 λt77=>zc t77 (xl w22 55 t61 (s20.getD 0 u_) 3 λt83=>bt .lss 3 t83 (i6 0) λt84=>za (λK23=>gIf t84 false (xl w22 55 t61 (s20.getD 0 u_) 3 λt89=>pp (Builtin.len_ #[55] 3 #[t73]) λt91=>bf .geq 3 t89 t91 λt92=>K23 [t92] w22) (K23 [u_] w22)) (λs24 _d25 w26=>
 zb t84 tr_ (s24.getD 0 u_) λt93=>zc t93 (K fa_ w26) (xl w26 55 t61 (s20.getD 0 u_) 3 λt98=>xl w26 55 t73 t98 3 λt100=>bt .add 3 t100 (i6 1) λt101=>px 55 t73 t98 λt102=>so w26 3 t102 t101 λw27=>bt .add 3 (s20.getD 0 u_) (i6 1) λt79=>K19 [t79] w27))) (zy [(i6 0)] w22 (λs29 _d30 w31 K28=>
 pp (Builtin.len_ #[28] 3 #[t0]) λt105=>bf .lss 3 (s29.getD 0 u_) t105 λt106=>zc t106 (px 28 t0 (s29.getD 0 u_) λt111=>fl w31 t111 36 0 3 λt113=>bt .lss 3 t113 (i6 0) λt114=>za (λK32=>gIf t114 false (px 28 t0 (s29.getD 0 u_) λt118=>fl w31 t118 36 1 3 λt120=>bt .lss 3 t120 (i6 0) λt121=>K32 [t121] w31) (K32 [u_] w31)) (λs33 _d34 w35=>
 zb t114 tr_ (s33.getD 0 u_) λt122=>za (λK36=>gIf t122 false (px 28 t0 (s29.getD 0 u_) λt126=>fl w35 t126 36 0 3 λt128=>pp (Builtin.len_ #[55] 3 #[t73]) λt130=>bf .geq 3 t128 t130 λt131=>K36 [t131] w35) (K36 [u_] w35)) (λs37 _d38 w39=>
 zb t122 tr_ (s37.getD 0 u_) λt132=>za (λK40=>gIf t132 false (px 28 t0 (s29.getD 0 u_) λt136=>fl w39 t136 36 1 3 λt138=>pp (Builtin.len_ #[55] 3 #[t73]) λt140=>bf .geq 3 t138 t140 λt141=>K40 [t141] w39) (K40 [u_] w39)) (λs41 _d42 w43=>
 zb t132 tr_ (s41.getD 0 u_) λt142=>zc t142 (K fa_ w43) (bt .add 3 (s29.getD 0 u_) (i6 1) λt108=>K28 [t108] w43))))) (bt .lss 3 t2 (i6 0) λt144=>za (λK44=>gIf t144 false (pp (Builtin.len_ #[55] 3 #[t73]) λt148=>bf .geq 3 t2 t148 λt149=>K44 [t149] w31) (K44 [u_] w31)) (λs45 _d46 w47=>
 zb t144 tr_ (s45.getD 0 u_) λt150=>za (λK48=>gIf t150 false (xl w47 55 t73 t2 3 λt155=>bt .neq 3 t155 (i6 1) λt156=>K48 [t156] w47) (K48 [u_] w47)) (λs49 _d50 w51=>
 zb t150 tr_ (s49.getD 0 u_) λt157=>zc t157 (K fa_ w51) (zy [(i6 0)] w51 (λs53 _d54 w55 K52=>
 pp (Builtin.len_ #[28] 3 #[t0]) λt160=>bf .lss 3 (s53.getD 0 u_) t160 λt161=>zc t161 (px 28 t0 (s53.getD 0 u_) λt167=>fl w55 t167 36 1 3 λt169=>xl w55 55 t73 t169 3 λt171=>bt .gtr 3 t171 (i6 0) λt172=>za (λK56=>gIf t172 true (px 28 t0 (s53.getD 0 u_) λt177=>fl w55 t177 36 0 3 λt179=>xl w55 55 t73 t179 3 λt181=>bt .eql 3 t181 (i6 0) λt182=>K56 [t182] w55) (K56 [u_] w55)) (λs57 _d58 w59=>
 zb t172 (s57.getD 0 u_) fa_ λt183=>zc t183 (K fa_ w59) (bt .add 3 (s53.getD 0 u_) (i6 1) λt163=>K52 [t163] w59))) (zy [(i6 0)] w55 (λs61 _d62 w63 K60=>
 pp (Builtin.len_ #[55] 3 #[t61]) λt186=>bf .lss 3 (s61.getD 0 u_) t186 λt187=>za (λK64=>gIf t187 true (bt .lss 3 (s61.getD 0 u_) (i6 30) λt190=>K64 [t190] w63) (K64 [u_] w63)) (λs65 _d66 w67=>
 zb t187 (s65.getD 0 u_) fa_ λt191=>zc t191 (za (λK68=>
 pp (Builtin.len_ #[44] 3 #[t1]) λt197=>xl w67 55 t61 (s61.getD 0 u_) 3 λt201=>ca xv #[t0,t197,t201] w67 λt202 w72=>
 pe t202 0 λt203=>pe t202 1 λt204=>bt .neq 29 t204 (i6 0) λt206=>zc t206 (K fa_ w72) (zy [(i6 0)] w72 (λs74 _d75 w76 K73=>
 pp (Builtin.len_ #[55] 3 #[t203]) λt209=>bf .lss 3 (s74.getD 0 u_) t209 λt210=>zc t210 (xl w76 55 t203 (s74.getD 0 u_) 3 λt216=>bt .lss 3 t216 (i6 0) λt217=>za (λK77=>gIf t217 false (xl w76 55 t203 (s74.getD 0 u_) 3 λt222=>pp (Builtin.len_ #[55] 3 #[t73]) λt224=>bf .geq 3 t222 t224 λt225=>K77 [t225] w76) (K77 [u_] w76)) (λs78 _d79 w80=>
 zb t217 tr_ (s78.getD 0 u_) λt226=>za (λK81=>gIf t226 false (xl w80 55 t203 (s74.getD 0 u_) 3 λt232=>xl w80 55 t73 t232 3 λt234=>bt .eql 3 t234 (i6 0) λt235=>K81 [t235] w80) (K81 [u_] w80)) (λs82 _d83 w84=>
 zb t226 tr_ (s82.getD 0 u_) λt236=>zc t236 (K fa_ w84) (bt .add 3 (s74.getD 0 u_) (i6 1) λt212=>K73 [t212] w84)))) (zc t53 (xl w76.drew 55 t61 (s61.getD 0 u_) 3 λt243=>xl w76.drew 44 t1 t243 48 λt245=>xl w76.drew 44 t1 t2 48 λt249=>ca Yp #[t245,t249] w76.drew λt250 w85=>
 pe t250 0 λt251=>pe t250 1 λt252=>pp (Op.unary .not t251) λt254=>za (λK86=>gIf t254 false (bt .neq 29 t252 (i6 0) λt257=>K86 [t257] w85) (K86 [u_] w85)) (λs87 _d88 w89=>
 zb t254 tr_ (s87.getD 0 u_) λt258=>zc t258 (K fa_ w89) (K68 [] w89))) (K68 [] w76))))) (λ_s69 _d70 w71=>
 bt .add 3 (s61.getD 0 u_) (i6 1) λt193=>K60 [t193] w71)) (bt .eql 29 t54 (i6 0) λt260=>za (λK90=>gIf t260 false (pp (Op.unary .not t53) λt263=>K90 [t263] w67) (K90 [u_] w67)) (λs91 _d92 w93=>
 zb t260 tr_ (s91.getD 0 u_) λt264=>za (λK94=>gIf t264 true (ca xa #[] w93 λt266 w98=>
 K94 [t266] w98) (K94 [u_] w93)) (λs95 _d96 w97=>
 zb t264 (s95.getD 0 u_) fa_ λt267=>K t267 w97)))))))))))))))))))
theorem Zf{t1 t2:Value}(h:kU t0 t1 t2 w K):zd prog kP #[t0,t1,t2] w K:=
 okC false (.s (.r (rz 1 0 0)) (.s (.s (.r (ra 4 0 0 (.grp 27 false (ri 3 4 0) [30] (rz 1 7 0)))) (.c (.s (.r (rz 2 0 2)) (.n)) (.n))) (.s (.s (.r (rz 1 0 0)) (.b (.lp [7] (.s (.s (.r (rz 4 0 0)) (.c (.n) (.n))) (.s (.b (.s (.r (rz 7 0 256)) (.c (.s (.r (rz 2 0 2)) (.n)) (.n)))) (.r (rz 3 0 0))))))) (.s (.r (rz 12 0 32)) (.s (.r (rz 10 0 512)) (.s (.s (.r (rz 2 0 0)) (.c (.s (.r (ra 4 0 0 (.grp 68 true (ri 1 4 2) [69] (rz 2 5 0)))) (.n)) (.n))) (.s (.r (rz 4 0 32)) (.s (.s (.r (rz 1 0 0)) (.b (.lp [15] (.s (.s (.r (rz 4 0 0)) (.c (.n) (.n))) (.s (.b (.s (.s (.r (ra 6 0 64 (.grp 85 false (ri 7 6 64) [92] (rz 1 13 0)))) (.c (.s (.r (rz 1 0 0)) (.n)) (.n))) (.r (rz 10 0 528640)))) (.r (rz 3 0 0))))))) (.s (.s (.r (rz 1 0 0)) (.b (.lp [16] (.s (.s (.r (rz 4 0 0)) (.c (.n) (.n))) (.s (.b (.s (.r (ra 7 0 256 (.grp 115 false (ri 6 7 256) [121] (ra 2 13 0 (.grp 123 false (ri 8 15 256) [131] (ra 2 23 0 (.grp 133 false (ri 8 25 256) [141] (rz 1 33 0)))))))) (.c (.s (.r (rz 1 0 0)) (.n)) (.n)))) (.r (rz 3 0 0))))))) (.s (.s (.r (ra 3 0 0 (.grp 145 false (ri 4 3 0) [149] (ra 2 7 0 (.grp 151 false (ri 5 9 64) [156] (rz 1 14 0)))))) (.c (.s (.r (rz 1 0 0)) (.n)) (.n))) (.s (.s (.r (rz 1 0 0)) (.b (.lp [17] (.s (.s (.r (rz 4 0 0)) (.c (.n) (.n))) (.s (.b (.s (.r (ra 10 0 17408 (.grp 173 true (ri 9 10 17408) [182] (rz 1 19 0)))) (.c (.s (.r (rz 1 0 0)) (.n)) (.n)))) (.r (rz 3 0 0))))))) (.s (.s (.r (rz 1 0 0)) (.b (.lp [18] (.s (.s (.r (ra 5 0 0 (.grp 188 true (ri 2 5 0) [190] (rz 1 7 0)))) (.c (.n) (.n))) (.j [] (.b (.s (.r (rz 13 0 36864)) (.s (.s (.r (rz 2 0 0)) (.c (.s (.r (rz 1 0 0)) (.n)) (.n))) (.s (.s (.r (rz 1 0 0)) (.b (.lp [21] (.s (.s (.r (rz 4 0 0)) (.c (.n) (.n))) (.s (.b (.s (.r (ra 6 0 64 (.grp 218 false (ri 7 6 64) [225] (ra 2 13 0 (.grp 227 false (ri 8 15 4352) [235] (rz 1 23 0)))))) (.c (.s (.r (rz 1 0 0)) (.n)) (.n)))) (.r (rz 3 0 0))))))) (.s (.r (rz 1 0 0)) (.c (.s (.r (rz 17 0 9441536)) (.s (.r (ra 3 0 0 (.grp 255 false (ri 2 3 0) [257] (rz 1 5 0)))) (.c (.s (.r (rz 1 0 0)) (.n)) (.n)))) (.n))))))) (.r (rz 3 0 0))))))) (.s (.r (ra 3 0 0 (.grp 261 false (ri 2 3 0) [263] (ra 2 5 0 (.grp 265 true (ri 1 7 2) [266] (rz 2 8 0)))))) (.n)))))))))))))) func6 rfl (by kernel_rfl) (by kernel_rfl) h
def YY(w:World)(K:VW):Prop:=
 ca vF #[] w λt14 w1=>
 pw w1 (Instr.alloc 25 true (.tuple #[])) λt1 w2=>
 so w2 25 t1 t14 λw3=>lo w3 25 t1 λt16=>ca qK #[t16,(i6 0)] w3 λt17 w4=>
 pe t17 0 λt18=>pe t17 1 λt19=>lo w4 25 t1 λt21=>ca vE #[t21,(i6 0),(i6 0)] w4 λt22 w5=>
 pe t22 0 λt23=>pe t22 1 λt24=>ca j7 #[(i6 1)] w5 λt26 w6=>
 ca j7 #[(i6 2)] w6 λt27 w7=>
 ca qJ #[t26,t27] w7 λt28 w8=>
 pe t28 0 λt29=>pe t28 1 λt30=>ca xv #[t18,(i6 2),(i6 0)] w8 λt33 w9=>
 pe t33 0 λt34=>pe t33 1 λt35=>pp (Instr.build 48 #[]) λt38=>pp (Instr.build 48 #[]) λt39=>pw w9 (Instr.buildSlice 44 2 #[(0,t38),(1,t39)]) λt40 w10=>
 ca y6 #[t18,t40] w10 λt41 w11=>
 pe t41 0 λ_t42=>pe t41 1 λ_t43=>pe t41 2 λt44=>pe t41 3 λt45=>bt .eql 29 t19 (i6 0) λt47=>za (λK12=>gIf t47 true (pp (Builtin.len_ #[28] 3 #[t18]) λt50=>bt .eql 3 t50 (i6 1) λt51=>K12 [t51] w11) (K12 [u_] w11)) (λs13 _d14 w15=>
 zb t47 (s13.getD 0 u_) fa_ λt52=>za (λK16=>gIf t52 true (xl w15 28 t18 (i6 0) 36 λt56=>pp (Instr.build 36 #[(0,(i6 1)),(1,(i6 0))]) λt57=>pq w15 (zG .eql 36 false t56 t57) λt58=>K16 [t58] w15) (K16 [u_] w15)) (λs17 _d18 w19=>
 zb t52 (s17.getD 0 u_) fa_ λt59=>za (λK20=>gIf t59 true (bt .eql 29 t24 (i6 0) λt62=>K20 [t62] w19) (K20 [u_] w19)) (λs21 _d22 w23=>
 zb t59 (s21.getD 0 u_) fa_ λt63=>za (λK24=>gIf t63 true (pp (Builtin.len_ #[28] 3 #[t23]) λt66=>bt .eql 3 t66 (i6 1) λt67=>K24 [t67] w23) (K24 [u_] w23)) (λs25 _d26 w27=>
 zb t63 (s25.getD 0 u_) fa_ λt68=>za (λK28=>gIf t68 true (bt .eql 29 t30 (i6 0) λt71=>K28 [t71] w27) (K28 [u_] w27)) (λs29 _d30 w31=>
 zb t68 (s29.getD 0 u_) fa_ λt72=>za (λK32=>gIf t72 true (pp (Builtin.len_ #[28] 3 #[t29]) λt75=>bt .eql 3 t75 (i6 1) λt76=>K32 [t76] w31) (K32 [u_] w31)) (λs33 _d34 w35=>
 zb t72 (s33.getD 0 u_) fa_ λt77=>za (λK36=>gIf t77 true (bt .eql 29 t35 (i6 0) λt80=>K36 [t80] w35) (K36 [u_] w35)) (λs37 _d38 w39=>
 zb t77 (s37.getD 0 u_) fa_ λt81=>za (λK40=>gIf t81 true (pp (Builtin.len_ #[55] 3 #[t34]) λt84=>bt .eql 3 t84 (i6 2) λt85=>K40 [t85] w39) (K40 [u_] w39)) (λs41 _d42 w43=>
 zb t81 (s41.getD 0 u_) fa_ λt86=>za (λK44=>gIf t86 true (K44 [t44] w43) (K44 [u_] w43)) (λs45 _d46 w47=>
 zb t86 (s45.getD 0 u_) fa_ λt89=>za (λK48=>gIf t89 true (bt .eql 29 t45 (i6 0) λt92=>K48 [t92] w47) (K48 [u_] w47)) (λs49 _d50 w51=>
 zb t89 (s49.getD 0 u_) fa_ λt93=>K t93 w51))))))))))
theorem VF(h:YY  w K):zd prog xa #[] w K:=
 okC false (.s (.r (rz 1 0 0)) (.s (.r (rz 3 0 42)) (.s (.r (rz 7 0 9)) (.s (.r (rz 7 0 9)) (.s (.r (rz 8 0 42)) (.s (.r (rz 7 0 8)) (.s (.r (rz 14 0 640)) (.s (.r (ra 3 0 0 (.grp 48 true (ri 3 3 0) [51] (ra 2 6 0 (.grp 53 true (ri 5 8 272) [58] (ra 2 13 0 (.grp 60 true (ri 2 15 0) [62] (ra 2 17 0 (.grp 64 true (ri 3 19 0) [67] (ra 2 22 0 (.grp 69 true (ri 2 24 0) [71] (ra 2 26 0 (.grp 73 true (ri 3 28 0) [76] (ra 2 31 0 (.grp 78 true (ri 2 33 0) [80] (ra 2 35 0 (.grp 82 true (ri 3 37 0) [85] (ra 2 40 0 (.grp 87 true (ri 1 42 0) [88] (ra 2 43 0 (.grp 90 true (ri 2 45 0) [92] (rz 2 47 0)))))))))))))))))))))) (.n))))))))) func12 rfl (by kernel_rfl) (by kernel_rfl) h
def XN(w:World)(K:VW):Prop:=
 pw w (Instr.alloc 25 true (.tuple #[])) λt0 w1=>
 pw w1 (Instr.buildSlice 78 1 #[(0,(i6 (-1)))]) λt2 w2=>
 pp (Instr.build 80 #[(0,(i6 2)),(1,t2)]) λt3=>pw w2 (Instr.alloc 80 true (.tuple #[])) λt1 w3=>
 so w3 80 t1 t3 λw4=>pp (Instr.build 80 #[(0,(i6 2))]) λt9=>pp (Instr.build 80 #[(0,(i6 1))]) λt10=>pp (Instr.build 96 #[(0,(Value.int .u8 4)),(1,t9),(6,t10),(7,tr_),(10,(i6 1))]) λt11=>pp (Instr.build 80 #[(0,(i6 1))]) λt12=>lo w4.drew 80 t1 λt15=>pp (Instr.build 96 #[(0,(Value.int .u8 14))]) λt18=>((ca yW #[] w4.drew λt4 w5=>
 Ext w4.drew w5∧
 ((ca yW #[] w5 λt5 w6=>
 Ext w5 w6∧
 ((ca xk #[tr_] w6 λt6 w7=>
 Ext w6 w7∧
 ((pw w7 (Instr.buildSlice 41 3 #[(0,t4),(1,t5),(2,t6)]) λt7 w8=>
 Ext w7 w8∧
 ((pw w8 (Instr.makeSlice 98 (i6 3) (i6 3)) λt8 w9=>
 Ext w8 w9∧
 ca zj #[(i6 2)] w9 λt13 w10=>
 Ext w9 w10∧
 pp (Instr.build 96 #[(0,(Value.int .u8 1)),(1,t12),(2,t13),(10,(i6 2))]) λt14=>ca zj #[(i6 3)] w10 λt16 w11=>
 Ext w10 w11∧
 pp (Instr.build 96 #[(0,(Value.int .u8 1)),(1,t15),(2,t16),(10,(i6 3))]) λt17=>pw w11 (Instr.buildSlice 99 4 #[(0,t11),(1,t14),(2,t17),(3,t18)]) λt19 w12=>
 pp (Instr.build 101 #[(4,t7),(5,t8),(6,t19)]) λt20=>pw w12 (Instr.buildSlice 23 1 #[(0,t20)]) λt21 w13=>
 pp (Instr.build 25 #[(1,t21)]) λt22=>so w13 25 t0 t22 λw14=>pq w14 (ze 25 t0) λr15=>K r15 w14)∧
 (ca zj #[(i6 2)] w8 λt13_17 w16=>
 Ext w8 w16∧
 pp (Instr.build 96 #[(0,(Value.int .u8 1)),(1,t12),(2,t13_17),(10,(i6 2))]) λt14_18=>((pw w16 (Instr.makeSlice 98 (i6 3) (i6 3)) λt8_20 w19=>
 Ext w16 w19∧
 ca zj #[(i6 3)] w19 λt16_22 w21=>
 Ext w19 w21∧
 pp (Instr.build 96 #[(0,(Value.int .u8 1)),(1,t15),(2,t16_22),(10,(i6 3))]) λt17_23=>pw w21 (Instr.buildSlice 99 4 #[(0,t11),(1,t14_18),(2,t17_23),(3,t18)]) λt19_25 w24=>
 pp (Instr.build 101 #[(4,t7),(5,t8_20),(6,t19_25)]) λt20_26=>pw w24 (Instr.buildSlice 23 1 #[(0,t20_26)]) λt21_28 w27=>
 pp (Instr.build 25 #[(1,t21_28)]) λt22_29=>so w27 25 t0 t22_29 λw30=>pq w30 (ze 25 t0) λr31=>K r31 w30)∧
 (ca zj #[(i6 3)] w16 λt16_33 w32=>
 Ext w16 w32∧
 pp (Instr.build 96 #[(0,(Value.int .u8 1)),(1,t15),(2,t16_33),(10,(i6 3))]) λt17_34=>((pw w32 (Instr.makeSlice 98 (i6 3) (i6 3)) λt8_36 w35=>
 Ext w32 w35∧
 pw w35 (Instr.buildSlice 99 4 #[(0,t11),(1,t14_18),(2,t17_34),(3,t18)]) λt19_38 w37=>
 pp (Instr.build 101 #[(4,t7),(5,t8_36),(6,t19_38)]) λt20_39=>pw w37 (Instr.buildSlice 23 1 #[(0,t20_39)]) λt21_41 w40=>
 pp (Instr.build 25 #[(1,t21_41)]) λt22_42=>so w40 25 t0 t22_42 λw43=>pq w43 (ze 25 t0) λr44=>K r44 w43)∧
 (pw w32 (Instr.buildSlice 99 4 #[(0,t11),(1,t14_18),(2,t17_34),(3,t18)]) λt19_46 w45=>
 pw w45 (Instr.makeSlice 98 (i6 3) (i6 3)) λt8_48 w47=>
 Ext w45 w47∧
 pp (Instr.build 101 #[(4,t7),(5,t8_48),(6,t19_46)]) λt20_49=>pw w47 (Instr.buildSlice 23 1 #[(0,t20_49)]) λt21_51 w50=>
 pp (Instr.build 25 #[(1,t21_51)]) λt22_52=>so w50 25 t0 t22_52 λw53=>pq w53 (ze 25 t0) λr54=>K r54 w53)))))))∧
 (((pw w7 (Instr.makeSlice 98 (i6 3) (i6 3)) λt8_56 w55=>
 Ext w7 w55∧
 ((pw w55 (Instr.buildSlice 41 3 #[(0,t4),(1,t5),(2,t6)]) λt7_58 w57=>
 Ext w55 w57∧
 ca zj #[(i6 2)] w57 λt13_60 w59=>
 Ext w57 w59∧
 pp (Instr.build 96 #[(0,(Value.int .u8 1)),(1,t12),(2,t13_60),(10,(i6 2))]) λt14_61=>ca zj #[(i6 3)] w59 λt16_63 w62=>
 Ext w59 w62∧
 pp (Instr.build 96 #[(0,(Value.int .u8 1)),(1,t15),(2,t16_63),(10,(i6 3))]) λt17_64=>pw w62 (Instr.buildSlice 99 4 #[(0,t11),(1,t14_61),(2,t17_64),(3,t18)]) λt19_66 w65=>
 pp (Instr.build 101 #[(4,t7_58),(5,t8_56),(6,t19_66)]) λt20_67=>pw w65 (Instr.buildSlice 23 1 #[(0,t20_67)]) λt21_69 w68=>
 pp (Instr.build 25 #[(1,t21_69)]) λt22_70=>so w68 25 t0 t22_70 λw71=>pq w71 (ze 25 t0) λr72=>K r72 w71)∧
 (ca zj #[(i6 2)] w55 λt13_74 w73=>
 Ext w55 w73∧
 pp (Instr.build 96 #[(0,(Value.int .u8 1)),(1,t12),(2,t13_74),(10,(i6 2))]) λt14_75=>((pw w73 (Instr.buildSlice 41 3 #[(0,t4),(1,t5),(2,t6)]) λt7_77 w76=>
 Ext w73 w76∧
 ca zj #[(i6 3)] w76 λt16_79 w78=>
 Ext w76 w78∧
 pp (Instr.build 96 #[(0,(Value.int .u8 1)),(1,t15),(2,t16_79),(10,(i6 3))]) λt17_80=>pw w78 (Instr.buildSlice 99 4 #[(0,t11),(1,t14_75),(2,t17_80),(3,t18)]) λt19_82 w81=>
 pp (Instr.build 101 #[(4,t7_77),(5,t8_56),(6,t19_82)]) λt20_83=>pw w81 (Instr.buildSlice 23 1 #[(0,t20_83)]) λt21_85 w84=>
 pp (Instr.build 25 #[(1,t21_85)]) λt22_86=>so w84 25 t0 t22_86 λw87=>pq w87 (ze 25 t0) λr88=>K r88 w87)∧
 (ca zj #[(i6 3)] w73 λt16_90 w89=>
 Ext w73 w89∧
 pp (Instr.build 96 #[(0,(Value.int .u8 1)),(1,t15),(2,t16_90),(10,(i6 3))]) λt17_91=>((pw w89 (Instr.buildSlice 41 3 #[(0,t4),(1,t5),(2,t6)]) λt7_93 w92=>
 Ext w89 w92∧
 pw w92 (Instr.buildSlice 99 4 #[(0,t11),(1,t14_75),(2,t17_91),(3,t18)]) λt19_95 w94=>
 pp (Instr.build 101 #[(4,t7_93),(5,t8_56),(6,t19_95)]) λt20_96=>pw w94 (Instr.buildSlice 23 1 #[(0,t20_96)]) λt21_98 w97=>
 pp (Instr.build 25 #[(1,t21_98)]) λt22_99=>so w97 25 t0 t22_99 λw100=>pq w100 (ze 25 t0) λr101=>K r101 w100)∧
 (pw w89 (Instr.buildSlice 99 4 #[(0,t11),(1,t14_75),(2,t17_91),(3,t18)]) λt19_103 w102=>
 pw w102 (Instr.buildSlice 41 3 #[(0,t4),(1,t5),(2,t6)]) λt7_105 w104=>
 Ext w102 w104∧
 pp (Instr.build 101 #[(4,t7_105),(5,t8_56),(6,t19_103)]) λt20_106=>pw w104 (Instr.buildSlice 23 1 #[(0,t20_106)]) λt21_108 w107=>
 pp (Instr.build 25 #[(1,t21_108)]) λt22_109=>so w107 25 t0 t22_109 λw110=>pq w110 (ze 25 t0) λr111=>K r111 w110)))))))∧
 (ca zj #[(i6 2)] w7 λt13_113 w112=>
 Ext w7 w112∧
 pp (Instr.build 96 #[(0,(Value.int .u8 1)),(1,t12),(2,t13_113),(10,(i6 2))]) λt14_114=>((pw w112 (Instr.buildSlice 41 3 #[(0,t4),(1,t5),(2,t6)]) λt7_116 w115=>
 Ext w112 w115∧
 ((pw w115 (Instr.makeSlice 98 (i6 3) (i6 3)) λt8_118 w117=>
 Ext w115 w117∧
 ca zj #[(i6 3)] w117 λt16_120 w119=>
 Ext w117 w119∧
 pp (Instr.build 96 #[(0,(Value.int .u8 1)),(1,t15),(2,t16_120),(10,(i6 3))]) λt17_121=>pw w119 (Instr.buildSlice 99 4 #[(0,t11),(1,t14_114),(2,t17_121),(3,t18)]) λt19_123 w122=>
 pp (Instr.build 101 #[(4,t7_116),(5,t8_118),(6,t19_123)]) λt20_124=>pw w122 (Instr.buildSlice 23 1 #[(0,t20_124)]) λt21_126 w125=>
 pp (Instr.build 25 #[(1,t21_126)]) λt22_127=>so w125 25 t0 t22_127 λw128=>pq w128 (ze 25 t0) λr129=>K r129 w128)∧
 (ca zj #[(i6 3)] w115 λt16_131 w130=>
 Ext w115 w130∧
 pp (Instr.build 96 #[(0,(Value.int .u8 1)),(1,t15),(2,t16_131),(10,(i6 3))]) λt17_132=>((pw w130 (Instr.makeSlice 98 (i6 3) (i6 3)) λt8_134 w133=>
 Ext w130 w133∧
 pw w133 (Instr.buildSlice 99 4 #[(0,t11),(1,t14_114),(2,t17_132),(3,t18)]) λt19_136 w135=>
 pp (Instr.build 101 #[(4,t7_116),(5,t8_134),(6,t19_136)]) λt20_137=>pw w135 (Instr.buildSlice 23 1 #[(0,t20_137)]) λt21_139 w138=>
 pp (Instr.build 25 #[(1,t21_139)]) λt22_140=>so w138 25 t0 t22_140 λw141=>pq w141 (ze 25 t0) λr142=>K r142 w141)∧
 (pw w130 (Instr.buildSlice 99 4 #[(0,t11),(1,t14_114),(2,t17_132),(3,t18)]) λt19_144 w143=>
 pw w143 (Instr.makeSlice 98 (i6 3) (i6 3)) λt8_146 w145=>
 Ext w143 w145∧
 pp (Instr.build 101 #[(4,t7_116),(5,t8_146),(6,t19_144)]) λt20_147=>pw w145 (Instr.buildSlice 23 1 #[(0,t20_147)]) λt21_149 w148=>
 pp (Instr.build 25 #[(1,t21_149)]) λt22_150=>so w148 25 t0 t22_150 λw151=>pq w151 (ze 25 t0) λr152=>K r152 w151)))))∧
 (((pw w112 (Instr.makeSlice 98 (i6 3) (i6 3)) λt8_154 w153=>
 Ext w112 w153∧
 ((pw w153 (Instr.buildSlice 41 3 #[(0,t4),(1,t5),(2,t6)]) λt7_156 w155=>
 Ext w153 w155∧
 ca zj #[(i6 3)] w155 λt16_158 w157=>
 Ext w155 w157∧
 pp (Instr.build 96 #[(0,(Value.int .u8 1)),(1,t15),(2,t16_158),(10,(i6 3))]) λt17_159=>pw w157 (Instr.buildSlice 99 4 #[(0,t11),(1,t14_114),(2,t17_159),(3,t18)]) λt19_161 w160=>
 pp (Instr.build 101 #[(4,t7_156),(5,t8_154),(6,t19_161)]) λt20_162=>pw w160 (Instr.buildSlice 23 1 #[(0,t20_162)]) λt21_164 w163=>
 pp (Instr.build 25 #[(1,t21_164)]) λt22_165=>so w163 25 t0 t22_165 λw166=>pq w166 (ze 25 t0) λr167=>K r167 w166)∧
 (ca zj #[(i6 3)] w153 λt16_169 w168=>
 Ext w153 w168∧
 pp (Instr.build 96 #[(0,(Value.int .u8 1)),(1,t15),(2,t16_169),(10,(i6 3))]) λt17_170=>((pw w168 (Instr.buildSlice 41 3 #[(0,t4),(1,t5),(2,t6)]) λt7_172 w171=>
 Ext w168 w171∧
 pw w171 (Instr.buildSlice 99 4 #[(0,t11),(1,t14_114),(2,t17_170),(3,t18)]) λt19_174 w173=>
 pp (Instr.build 101 #[(4,t7_172),(5,t8_154),(6,t19_174)]) λt20_175=>pw w173 (Instr.buildSlice 23 1 #[(0,t20_175)]) λt21_177 w176=>
 pp (Instr.build 25 #[(1,t21_177)]) λt22_178=>so w176 25 t0 t22_178 λw179=>pq w179 (ze 25 t0) λr180=>K r180 w179)∧
 (pw w168 (Instr.buildSlice 99 4 #[(0,t11),(1,t14_114),(2,t17_170),(3,t18)]) λt19_182 w181=>
 pw w181 (Instr.buildSlice 41 3 #[(0,t4),(1,t5),(2,t6)]) λt7_184 w183=>
 Ext w181 w183∧
 pp (Instr.build 101 #[(4,t7_184),(5,t8_154),(6,t19_182)]) λt20_185=>pw w183 (Instr.buildSlice 23 1 #[(0,t20_185)]) λt21_187 w186=>
 pp (Instr.build 25 #[(1,t21_187)]) λt22_188=>so w186 25 t0 t22_188 λw189=>pq w189 (ze 25 t0) λr190=>K r190 w189)))))∧
 (ca zj #[(i6 3)] w112 λt16_192 w191=>
 Ext w112 w191∧
 pp (Instr.build 96 #[(0,(Value.int .u8 1)),(1,t15),(2,t16_192),(10,(i6 3))]) λt17_193=>((pw w191 (Instr.buildSlice 41 3 #[(0,t4),(1,t5),(2,t6)]) λt7_195 w194=>
 Ext w191 w194∧
 ((pw w194 (Instr.makeSlice 98 (i6 3) (i6 3)) λt8_197 w196=>
 Ext w194 w196∧
 pw w196 (Instr.buildSlice 99 4 #[(0,t11),(1,t14_114),(2,t17_193),(3,t18)]) λt19_199 w198=>
 pp (Instr.build 101 #[(4,t7_195),(5,t8_197),(6,t19_199)]) λt20_200=>pw w198 (Instr.buildSlice 23 1 #[(0,t20_200)]) λt21_202 w201=>
 pp (Instr.build 25 #[(1,t21_202)]) λt22_203=>so w201 25 t0 t22_203 λw204=>pq w204 (ze 25 t0) λr205=>K r205 w204)∧
 (pw w194 (Instr.buildSlice 99 4 #[(0,t11),(1,t14_114),(2,t17_193),(3,t18)]) λt19_207 w206=>
 pw w206 (Instr.makeSlice 98 (i6 3) (i6 3)) λt8_209 w208=>
 Ext w206 w208∧
 pp (Instr.build 101 #[(4,t7_195),(5,t8_209),(6,t19_207)]) λt20_210=>pw w208 (Instr.buildSlice 23 1 #[(0,t20_210)]) λt21_212 w211=>
 pp (Instr.build 25 #[(1,t21_212)]) λt22_213=>so w211 25 t0 t22_213 λw214=>pq w214 (ze 25 t0) λr215=>K r215 w214)))∧
 (((pw w191 (Instr.makeSlice 98 (i6 3) (i6 3)) λt8_217 w216=>
 Ext w191 w216∧
 ((pw w216 (Instr.buildSlice 41 3 #[(0,t4),(1,t5),(2,t6)]) λt7_219 w218=>
 Ext w216 w218∧
 pw w218 (Instr.buildSlice 99 4 #[(0,t11),(1,t14_114),(2,t17_193),(3,t18)]) λt19_221 w220=>
 pp (Instr.build 101 #[(4,t7_219),(5,t8_217),(6,t19_221)]) λt20_222=>pw w220 (Instr.buildSlice 23 1 #[(0,t20_222)]) λt21_224 w223=>
 pp (Instr.build 25 #[(1,t21_224)]) λt22_225=>so w223 25 t0 t22_225 λw226=>pq w226 (ze 25 t0) λr227=>K r227 w226)∧
 (pw w216 (Instr.buildSlice 99 4 #[(0,t11),(1,t14_114),(2,t17_193),(3,t18)]) λt19_229 w228=>
 pw w228 (Instr.buildSlice 41 3 #[(0,t4),(1,t5),(2,t6)]) λt7_231 w230=>
 Ext w228 w230∧
 pp (Instr.build 101 #[(4,t7_231),(5,t8_217),(6,t19_229)]) λt20_232=>pw w230 (Instr.buildSlice 23 1 #[(0,t20_232)]) λt21_234 w233=>
 pp (Instr.build 25 #[(1,t21_234)]) λt22_235=>so w233 25 t0 t22_235 λw236=>pq w236 (ze 25 t0) λr237=>K r237 w236)))∧
 (pw w191 (Instr.buildSlice 99 4 #[(0,t11),(1,t14_114),(2,t17_193),(3,t18)]) λt19_239 w238=>
 ((pw w238 (Instr.buildSlice 41 3 #[(0,t4),(1,t5),(2,t6)]) λt7_241 w240=>
 Ext w238 w240∧
 pw w240 (Instr.makeSlice 98 (i6 3) (i6 3)) λt8_243 w242=>
 Ext w240 w242∧
 pp (Instr.build 101 #[(4,t7_241),(5,t8_243),(6,t19_239)]) λt20_244=>pw w242 (Instr.buildSlice 23 1 #[(0,t20_244)]) λt21_246 w245=>
 pp (Instr.build 25 #[(1,t21_246)]) λt22_247=>so w245 25 t0 t22_247 λw248=>pq w248 (ze 25 t0) λr249=>K r249 w248)∧
 (pw w238 (Instr.makeSlice 98 (i6 3) (i6 3)) λt8_251 w250=>
 Ext w238 w250∧
 pw w250 (Instr.buildSlice 41 3 #[(0,t4),(1,t5),(2,t6)]) λt7_253 w252=>
 Ext w250 w252∧
 pp (Instr.build 101 #[(4,t7_253),(5,t8_251),(6,t19_239)]) λt20_254=>pw w252 (Instr.buildSlice 23 1 #[(0,t20_254)]) λt21_256 w255=>
 pp (Instr.build 25 #[(1,t21_256)]) λt22_257=>so w255 25 t0 t22_257 λw258=>pq w258 (ze 25 t0) λr259=>K r259 w258)))))))))))))))∧
 (pw w6 (Instr.makeSlice 98 (i6 3) (i6 3)) λt8_261 w260=>
 Ext w6 w260∧
 ca xk #[tr_] w260 λt6_263 w262=>
 Ext w260 w262∧
 ((pw w262 (Instr.buildSlice 41 3 #[(0,t4),(1,t5),(2,t6_263)]) λt7_265 w264=>
 Ext w262 w264∧
 ca zj #[(i6 2)] w264 λt13_267 w266=>
 Ext w264 w266∧
 pp (Instr.build 96 #[(0,(Value.int .u8 1)),(1,t12),(2,t13_267),(10,(i6 2))]) λt14_268=>ca zj #[(i6 3)] w266 λt16_270 w269=>
 Ext w266 w269∧
 pp (Instr.build 96 #[(0,(Value.int .u8 1)),(1,t15),(2,t16_270),(10,(i6 3))]) λt17_271=>pw w269 (Instr.buildSlice 99 4 #[(0,t11),(1,t14_268),(2,t17_271),(3,t18)]) λt19_273 w272=>
 pp (Instr.build 101 #[(4,t7_265),(5,t8_261),(6,t19_273)]) λt20_274=>pw w272 (Instr.buildSlice 23 1 #[(0,t20_274)]) λt21_276 w275=>
 pp (Instr.build 25 #[(1,t21_276)]) λt22_277=>so w275 25 t0 t22_277 λw278=>pq w278 (ze 25 t0) λr279=>K r279 w278)∧
 (ca zj #[(i6 2)] w262 λt13_281 w280=>
 Ext w262 w280∧
 pp (Instr.build 96 #[(0,(Value.int .u8 1)),(1,t12),(2,t13_281),(10,(i6 2))]) λt14_282=>((pw w280 (Instr.buildSlice 41 3 #[(0,t4),(1,t5),(2,t6_263)]) λt7_284 w283=>
 Ext w280 w283∧
 ca zj #[(i6 3)] w283 λt16_286 w285=>
 Ext w283 w285∧
 pp (Instr.build 96 #[(0,(Value.int .u8 1)),(1,t15),(2,t16_286),(10,(i6 3))]) λt17_287=>pw w285 (Instr.buildSlice 99 4 #[(0,t11),(1,t14_282),(2,t17_287),(3,t18)]) λt19_289 w288=>
 pp (Instr.build 101 #[(4,t7_284),(5,t8_261),(6,t19_289)]) λt20_290=>pw w288 (Instr.buildSlice 23 1 #[(0,t20_290)]) λt21_292 w291=>
 pp (Instr.build 25 #[(1,t21_292)]) λt22_293=>so w291 25 t0 t22_293 λw294=>pq w294 (ze 25 t0) λr295=>K r295 w294)∧
 (ca zj #[(i6 3)] w280 λt16_297 w296=>
 Ext w280 w296∧
 pp (Instr.build 96 #[(0,(Value.int .u8 1)),(1,t15),(2,t16_297),(10,(i6 3))]) λt17_298=>((pw w296 (Instr.buildSlice 41 3 #[(0,t4),(1,t5),(2,t6_263)]) λt7_300 w299=>
 Ext w296 w299∧
 pw w299 (Instr.buildSlice 99 4 #[(0,t11),(1,t14_282),(2,t17_298),(3,t18)]) λt19_302 w301=>
 pp (Instr.build 101 #[(4,t7_300),(5,t8_261),(6,t19_302)]) λt20_303=>pw w301 (Instr.buildSlice 23 1 #[(0,t20_303)]) λt21_305 w304=>
 pp (Instr.build 25 #[(1,t21_305)]) λt22_306=>so w304 25 t0 t22_306 λw307=>pq w307 (ze 25 t0) λr308=>K r308 w307)∧
 (pw w296 (Instr.buildSlice 99 4 #[(0,t11),(1,t14_282),(2,t17_298),(3,t18)]) λt19_310 w309=>
 pw w309 (Instr.buildSlice 41 3 #[(0,t4),(1,t5),(2,t6_263)]) λt7_312 w311=>
 Ext w309 w311∧
 pp (Instr.build 101 #[(4,t7_312),(5,t8_261),(6,t19_310)]) λt20_313=>pw w311 (Instr.buildSlice 23 1 #[(0,t20_313)]) λt21_315 w314=>
 pp (Instr.build 25 #[(1,t21_315)]) λt22_316=>so w314 25 t0 t22_316 λw317=>pq w317 (ze 25 t0) λr318=>K r318 w317)))))))))∧
 (pw w5 (Instr.makeSlice 98 (i6 3) (i6 3)) λt8_320 w319=>
 Ext w5 w319∧
 ca yW #[] w319 λt5_322 w321=>
 Ext w319 w321∧
 ca xk #[tr_] w321 λt6_324 w323=>
 Ext w321 w323∧
 ((pw w323 (Instr.buildSlice 41 3 #[(0,t4),(1,t5_322),(2,t6_324)]) λt7_326 w325=>
 Ext w323 w325∧
 ca zj #[(i6 2)] w325 λt13_328 w327=>
 Ext w325 w327∧
 pp (Instr.build 96 #[(0,(Value.int .u8 1)),(1,t12),(2,t13_328),(10,(i6 2))]) λt14_329=>ca zj #[(i6 3)] w327 λt16_331 w330=>
 Ext w327 w330∧
 pp (Instr.build 96 #[(0,(Value.int .u8 1)),(1,t15),(2,t16_331),(10,(i6 3))]) λt17_332=>pw w330 (Instr.buildSlice 99 4 #[(0,t11),(1,t14_329),(2,t17_332),(3,t18)]) λt19_334 w333=>
 pp (Instr.build 101 #[(4,t7_326),(5,t8_320),(6,t19_334)]) λt20_335=>pw w333 (Instr.buildSlice 23 1 #[(0,t20_335)]) λt21_337 w336=>
 pp (Instr.build 25 #[(1,t21_337)]) λt22_338=>so w336 25 t0 t22_338 λw339=>pq w339 (ze 25 t0) λr340=>K r340 w339)∧
 (ca zj #[(i6 2)] w323 λt13_342 w341=>
 Ext w323 w341∧
 pp (Instr.build 96 #[(0,(Value.int .u8 1)),(1,t12),(2,t13_342),(10,(i6 2))]) λt14_343=>((pw w341 (Instr.buildSlice 41 3 #[(0,t4),(1,t5_322),(2,t6_324)]) λt7_345 w344=>
 Ext w341 w344∧
 ca zj #[(i6 3)] w344 λt16_347 w346=>
 Ext w344 w346∧
 pp (Instr.build 96 #[(0,(Value.int .u8 1)),(1,t15),(2,t16_347),(10,(i6 3))]) λt17_348=>pw w346 (Instr.buildSlice 99 4 #[(0,t11),(1,t14_343),(2,t17_348),(3,t18)]) λt19_350 w349=>
 pp (Instr.build 101 #[(4,t7_345),(5,t8_320),(6,t19_350)]) λt20_351=>pw w349 (Instr.buildSlice 23 1 #[(0,t20_351)]) λt21_353 w352=>
 pp (Instr.build 25 #[(1,t21_353)]) λt22_354=>so w352 25 t0 t22_354 λw355=>pq w355 (ze 25 t0) λr356=>K r356 w355)∧
 (ca zj #[(i6 3)] w341 λt16_358 w357=>
 Ext w341 w357∧
 pp (Instr.build 96 #[(0,(Value.int .u8 1)),(1,t15),(2,t16_358),(10,(i6 3))]) λt17_359=>((pw w357 (Instr.buildSlice 41 3 #[(0,t4),(1,t5_322),(2,t6_324)]) λt7_361 w360=>
 Ext w357 w360∧
 pw w360 (Instr.buildSlice 99 4 #[(0,t11),(1,t14_343),(2,t17_359),(3,t18)]) λt19_363 w362=>
 pp (Instr.build 101 #[(4,t7_361),(5,t8_320),(6,t19_363)]) λt20_364=>pw w362 (Instr.buildSlice 23 1 #[(0,t20_364)]) λt21_366 w365=>
 pp (Instr.build 25 #[(1,t21_366)]) λt22_367=>so w365 25 t0 t22_367 λw368=>pq w368 (ze 25 t0) λr369=>K r369 w368)∧
 (pw w357 (Instr.buildSlice 99 4 #[(0,t11),(1,t14_343),(2,t17_359),(3,t18)]) λt19_371 w370=>
 pw w370 (Instr.buildSlice 41 3 #[(0,t4),(1,t5_322),(2,t6_324)]) λt7_373 w372=>
 Ext w370 w372∧
 pp (Instr.build 101 #[(4,t7_373),(5,t8_320),(6,t19_371)]) λt20_374=>pw w372 (Instr.buildSlice 23 1 #[(0,t20_374)]) λt21_376 w375=>
 pp (Instr.build 25 #[(1,t21_376)]) λt22_377=>so w375 25 t0 t22_377 λw378=>pq w378 (ze 25 t0) λr379=>K r379 w378)))))))))∧
 (pw w4.drew (Instr.makeSlice 98 (i6 3) (i6 3)) λt8_381 w380=>
 Ext w4.drew w380∧
 ca yW #[] w380 λt4_383 w382=>
 Ext w380 w382∧
 ca yW #[] w382 λt5_385 w384=>
 Ext w382 w384∧
 ca xk #[tr_] w384 λt6_387 w386=>
 Ext w384 w386∧
 ((pw w386 (Instr.buildSlice 41 3 #[(0,t4_383),(1,t5_385),(2,t6_387)]) λt7_389 w388=>
 Ext w386 w388∧
 ca zj #[(i6 2)] w388 λt13_391 w390=>
 Ext w388 w390∧
 pp (Instr.build 96 #[(0,(Value.int .u8 1)),(1,t12),(2,t13_391),(10,(i6 2))]) λt14_392=>ca zj #[(i6 3)] w390 λt16_394 w393=>
 Ext w390 w393∧
 pp (Instr.build 96 #[(0,(Value.int .u8 1)),(1,t15),(2,t16_394),(10,(i6 3))]) λt17_395=>pw w393 (Instr.buildSlice 99 4 #[(0,t11),(1,t14_392),(2,t17_395),(3,t18)]) λt19_397 w396=>
 pp (Instr.build 101 #[(4,t7_389),(5,t8_381),(6,t19_397)]) λt20_398=>pw w396 (Instr.buildSlice 23 1 #[(0,t20_398)]) λt21_400 w399=>
 pp (Instr.build 25 #[(1,t21_400)]) λt22_401=>so w399 25 t0 t22_401 λw402=>pq w402 (ze 25 t0) λr403=>K r403 w402)∧
 (ca zj #[(i6 2)] w386 λt13_405 w404=>
 Ext w386 w404∧
 pp (Instr.build 96 #[(0,(Value.int .u8 1)),(1,t12),(2,t13_405),(10,(i6 2))]) λt14_406=>((pw w404 (Instr.buildSlice 41 3 #[(0,t4_383),(1,t5_385),(2,t6_387)]) λt7_408 w407=>
 Ext w404 w407∧
 ca zj #[(i6 3)] w407 λt16_410 w409=>
 Ext w407 w409∧
 pp (Instr.build 96 #[(0,(Value.int .u8 1)),(1,t15),(2,t16_410),(10,(i6 3))]) λt17_411=>pw w409 (Instr.buildSlice 99 4 #[(0,t11),(1,t14_406),(2,t17_411),(3,t18)]) λt19_413 w412=>
 pp (Instr.build 101 #[(4,t7_408),(5,t8_381),(6,t19_413)]) λt20_414=>pw w412 (Instr.buildSlice 23 1 #[(0,t20_414)]) λt21_416 w415=>
 pp (Instr.build 25 #[(1,t21_416)]) λt22_417=>so w415 25 t0 t22_417 λw418=>pq w418 (ze 25 t0) λr419=>K r419 w418)∧
 (ca zj #[(i6 3)] w404 λt16_421 w420=>
 Ext w404 w420∧
 pp (Instr.build 96 #[(0,(Value.int .u8 1)),(1,t15),(2,t16_421),(10,(i6 3))]) λt17_422=>((pw w420 (Instr.buildSlice 41 3 #[(0,t4_383),(1,t5_385),(2,t6_387)]) λt7_424 w423=>
 Ext w420 w423∧
 pw w423 (Instr.buildSlice 99 4 #[(0,t11),(1,t14_406),(2,t17_422),(3,t18)]) λt19_426 w425=>
 pp (Instr.build 101 #[(4,t7_424),(5,t8_381),(6,t19_426)]) λt20_427=>pw w425 (Instr.buildSlice 23 1 #[(0,t20_427)]) λt21_429 w428=>
 pp (Instr.build 25 #[(1,t21_429)]) λt22_430=>so w428 25 t0 t22_430 λw431=>pq w431 (ze 25 t0) λr432=>K r432 w431)∧
 (pw w420 (Instr.buildSlice 99 4 #[(0,t11),(1,t14_406),(2,t17_422),(3,t18)]) λt19_434 w433=>
 pw w433 (Instr.buildSlice 41 3 #[(0,t4_383),(1,t5_385),(2,t6_387)]) λt7_436 w435=>
 Ext w433 w435∧
 pp (Instr.build 101 #[(4,t7_436),(5,t8_381),(6,t19_434)]) λt20_437=>pw w435 (Instr.buildSlice 23 1 #[(0,t20_437)]) λt21_439 w438=>
 pp (Instr.build 25 #[(1,t21_439)]) λt22_440=>so w438 25 t0 t22_440 λw441=>pq w441 (ze 25 t0) λr442=>K r442 w441))))))))
theorem aav(h:XN  w K):zd prog vF #[] w K:=
 okC false (.s (.r (rz 1 0 2)) (.s (.r (rz 4 0 162)) (.s (.r (ra 4 5 0 (ra 1 11 1 (ra 1 14 0 (.alt 0 .u (.alt 1 .u (.alt 2 .u (.alt 3 .u (.alt 4 .u (ra 2 9 3 (ra 2 12 3 (rz 5 15 546))) (ra 2 9 3 (.alt 4 .u (ra 2 12 3 (rz 5 15 546)) (ra 2 12 3 (.alt 4 .u (rz 5 15 546) (ra 1 15 2 (ra 1 4 3 (rz 4 16 136)))))))) (.alt 4 .u (.alt 3 .u (ra 2 9 3 (ra 2 12 3 (rz 5 15 546))) (ra 2 9 3 (.alt 3 .u (ra 2 12 3 (rz 5 15 546)) (ra 2 12 3 (.alt 3 .u (rz 5 15 546) (ra 1 15 2 (ra 1 3 3 (rz 4 16 136)))))))) (ra 2 9 3 (.alt 3 .u (.alt 4 .u (ra 2 12 3 (rz 5 15 546)) (ra 2 12 3 (.alt 4 .u (rz 5 15 546) (ra 1 15 2 (ra 1 4 3 (rz 4 16 136)))))) (.alt 4 .u (.alt 3 .u (ra 2 12 3 (rz 5 15 546)) (ra 2 12 3 (.alt 3 .u (rz 5 15 546) (ra 1 15 2 (ra 1 3 3 (rz 4 16 136)))))) (ra 2 12 3 (.alt 3 .u (.alt 4 .u (rz 5 15 546) (ra 1 15 2 (ra 1 4 3 (rz 4 16 136)))) (.alt 4 .u (.alt 3 .u (rz 5 15 546) (ra 1 15 2 (ra 1 3 3 (rz 4 16 136)))) (ra 1 15 2 (.alt 3 .u (ra 1 4 3 (rz 4 16 136)) (ra 1 4 3 (ra 1 3 3 (rz 4 16 136))))))))))))) (ra 1 4 3 (ra 1 2 3 (.alt 3 .u (ra 2 9 3 (ra 2 12 3 (rz 5 15 546))) (ra 2 9 3 (.alt 3 .u (ra 2 12 3 (rz 5 15 546)) (ra 2 12 3 (.alt 3 .u (rz 5 15 546) (ra 1 15 2 (ra 1 3 3 (rz 4 16 136))))))))))) (ra 1 4 3 (ra 2 1 15 (.alt 3 .u (ra 2 9 3 (ra 2 12 3 (rz 5 15 546))) (ra 2 9 3 (.alt 3 .u (ra 2 12 3 (rz 5 15 546)) (ra 2 12 3 (.alt 3 .u (rz 5 15 546) (ra 1 15 2 (ra 1 3 3 (rz 4 16 136))))))))))) (ra 1 4 3 (ra 3 0 63 (.alt 3 .u (ra 2 9 3 (ra 2 12 3 (rz 5 15 546))) (ra 2 9 3 (.alt 3 .u (ra 2 12 3 (rz 5 15 546)) (ra 2 12 3 (.alt 3 .u (rz 5 15 546) (ra 1 15 2 (ra 1 3 3 (rz 4 16 136))))))))))))))) (.n)))) func47 rfl (by kernel_rfl) (by kernel_rfl) h
def JY(t0:Value)(w:World)(K:VW):Prop:=
 pw w (Instr.alloc 43 true (.tuple #[])) λt2 w1=>
 ca xk #[fa_] w1 λt4 w2=>
 pw w2 (Instr.alloc 43 true (.tuple #[])) λt3 w3=>
 so w3 43 t3 t4 λw4=>pf 43 t3 2 λt6=>so w4 3 t6 t0 λw5=>lo w5 43 t3 λt7=>so w5 43 t2 t7 λw6=>pq w6 (ze 43 t2) λr7=>K r7 w6
theorem ab7(h:JY t0 w K):zd prog j7 #[t0] w K:=
 okC false (.s (.r (rz 1 0 2)) (.s (.r (rz 3 0 42)) (.s (.r (rz 3 0 32)) (.s (.r (rz 2 0 9)) (.n))))) func48 rfl (by kernel_rfl) (by kernel_rfl) h
def Qv(w:World)(K:VW):Prop:=
 pw w (Instr.alloc 43 true (.tuple #[])) λt0 w1=>
 pp (Instr.build 43 #[(0,(Value.int .u8 1))]) λt1=>so w1 43 t0 t1 λw2=>pq w2 (ze 43 t0) λr3=>K r3 w2
theorem abJ(h:Qv  w K):zd prog yW #[] w K:=
 okC false (.s (.r (rz 1 0 2)) (.s (.r (rz 2 0 8)) (.n))) func106 rfl (by kernel_rfl) (by kernel_rfl) h
def Qw(t0:Value)(w:World)(K:VW):Prop:=
 pw w (Instr.alloc 43 true (.tuple #[])) λt2 w1=>
 ca yW #[] w1 λt4 w2=>
 pw w2 (Instr.buildSlice 41 1 #[(0,t4)]) λt5 w3=>
 pp (Instr.build 43 #[(0,(Value.int .u8 4)),(1,t0),(2,(i6 (-1))),(4,t5)]) λt6=>so w3 43 t2 t6 λw4=>pq w4 (ze 43 t2) λr5=>K r5 w4
theorem abK(h:Qw t0 w K):zd prog xk #[t0] w K:=
 okC false (.s (.r (rz 1 0 2)) (.s (.r (rz 5 0 552)) (.n))) func107 rfl (by kernel_rfl) (by kernel_rfl) h
def Qx(t0:Value)(w:World)(K:VW):Prop:=
 pw w (Instr.alloc 93 true (.tuple #[])) λt2 w1=>
 pp (Instr.build 93 #[(0,(Value.int .u8 1)),(1,t0)]) λt4=>so w1 93 t2 t4 λw2=>pq w2 (ze 93 t2) λr3=>K r3 w2
theorem abL(h:Qx t0 w K):zd prog zj #[t0] w K:=
 okC false (.s (.r (rz 1 0 2)) (.s (.r (rz 3 0 32)) (.n))) func108 rfl (by kernel_rfl) (by kernel_rfl) h
end Go.Proofs.Tryz
end
section
namespace Go.Sh
theorem StX.any{X:Nat→Prop}{w0 w:World}{r:Gh}{L:List Asr}(S:StX X w0 r w L):∃σ,σ=r∧StX X w0 σ w L:=⟨r,rfl,S⟩
end Go.Sh
namespace Go.Proofs
open Go.Sh Go.RowKit
set_option maxRecDepth 100000
theorem Qy{w:World}{K:Value→World→Prop}(h:∀w',Ext w w'→K agx w'):zd Tryz.prog Tryz.yW #[] w K:=by
 refine Tryz.abJ ?_
 unfold Tryz.Qv
 have S:StX noX w nothing w []:=St.start (λ_ _ h=>h.elim)
 refine S.al λb0 w1 S=>?_
 refine zo (cs:=vU.toArray) (by kernel_rfl) ?_
 refine S.stB (b:=b0) λw2 S=>?_
 refine S.ceB (b:=b0) ?_ rfl
 exact h _ S.ext
theorem ab8{n:Int}{w:World}{K:Value→World→Prop}(h:∀w',Ext w w'→K (agy n) w'):zd Tryz.prog Tryz.zj #[.int .i64 n] w K:=by
 refine Tryz.abL ?_
 unfold Tryz.Qx
 have S:StX noX w nothing w []:=St.start (λ_ _ h=>h.elim)
 refine S.al λb0 w1 S=>?_
 refine zo (cs:=#[.int .u8 1,.int .i64 n,.int .i64 0,.slice none 0 0]) (by kernel_rfl) ?_
 refine S.stB (b:=b0) λw2 S=>?_
 refine S.ceB (b:=b0) ?_ rfl
 exact h _ S.ext
theorem Qz{m:Bool}{w:World}{K:Value→World→Prop}(h:∀q cap sn w',Ext w w'→New w sn w'→TyG sn (tyV (.mk 4 m (-1) 0 [zJ]) q cap) (.mk 4 m (-1) 0 [zJ])→K (tyV (.mk 4 m (-1) 0 [zJ]) q cap) w'):zd Tryz.prog Tryz.xk #[.bool m] w K:=by
 refine Tryz.abK ?_
 unfold Tryz.Qw
 have S:StX noX w nothing w []:=St.start (λ_ _ h=>h.elim)
 refine S.al λb2 w1 S=>?_
 refine Qy λw2 e2=>?_
 have S:=S.go e2
 refine S.lit (e:=43) (cs:=vU) (by kernel_rfl) λb5 w3 S=>?_
 refine zo (cs:=#[.int .u8 4,.bool m,.int .i64 (-1),.int .i64 0,.slice (some ⟨b5,0,none⟩) 1 1]) (by kernel_rfl) ?_
 refine S.stB (b:=b2) λw4 S=>?_
 refine S.ceB (b:=b2) ?_ rfl
 obtain⟨S,_,ha⟩:=S.litNew b5 (sz:=5) (R:=TyC nothing) (l:=[zJ]) (by exact(kp (c:=vU) rfl (show TyC nothing vU zJ from vQ))) (by decide)
 exact h (some ⟨b5,0,none⟩) 1 (nothing.or (Go.Sh.one b5 vU 43)) _ S.ext (S.newOf (Above.no.or' ha)) (Jp (u:=zJ) (v:=agx) vQ)
theorem abM{w:World}{K:Value→World→Prop}(h:∀v s w',Ext w w'→New w s w'→UnG s v zY→K v w'):zd Tryz.prog Tryz.vF #[] w K:=by
 refine Tryz.aav ?_
 unfold Tryz.XN
 have S:StX noX w nothing w []:=St.start (λ_ _ h=>h.elim)
 refine S.al λb0 w1 S=>?_
 refine S.lit (e:=84) (cs:=[.int .i64 (-1)]) (by kernel_rfl) λb2 w2 S=>?_
 refine zo (cs:=#[.int .i64 2,.slice (some ⟨b2,0,none⟩) 1 1]) (by kernel_rfl) ?_
 refine S.al λb1 w3 S=>?_
 refine S.stB (b:=b1) λw4 S=>?_
 have S:=S.go (Ext.drew _)
 refine zo (cs:=#[.int .i64 2,.slice none 0 0]) (by kernel_rfl) ?_
 refine zo (cs:=#[.int .i64 1,.slice none 0 0]) (by kernel_rfl) ?_
 refine zo (cs:=hl0.toArray) (by kernel_rfl) ?_
 refine zo (cs:=#[.int .i64 1,.slice none 0 0]) (by kernel_rfl) ?_
 refine S.ldB (b:=b1) ?_ rfl
 refine zo (cs:=hl3.toArray) (by kernel_rfl) ?_
 have S:=S.drop b1
 have fin:∀{w9:World}{b7 b8 b19 b21:Nat}{q6:Option Addr}{c6:Nat}{sn:Gh}{M M1 M2 M3 M4 M5:List Asr}(S:StX noX w (nothing.or sn) w9 M)
   [jh b7 M (vU++(vU++tyL Xx q6 c6)) 43 M1] [jh b8 M1 [.string ByteArray.empty,.string ByteArray.empty,.string ByteArray.empty] 9 M2] [jh b2 M2 [.int .i64 (-1)] 84 M3]
   [jh b19 M3 (hl0++(hl1++(hl2 b2++hl3))) 96 M4] [jh b21 M4 [.string ByteArray.empty,.int .i64 0,.slice none 0 0,.int .i64 0,.slice (some ⟨b7,0,none⟩) 3 3,.slice (some ⟨b8,0,none⟩) 3 3,.slice (some ⟨b19,0,none⟩) 4 4] 101 M5],
   Above w sn→TyG sn (tyV Xx q6 c6) Xx→K (.agg #[.slice none 0 0,.slice (some ⟨b21,0,none⟩) 1 1,.int .i64 0]) w9:=by
  intro w9 b7 b8 b19 b21 q6 c6 sn M M1 M2 M3 M4 M5 S _ _ _ _ _ ha ht
  obtain⟨S,h7,a7⟩:=S.litNew b7 (sz:=5) (R:=TyC sn) (l:=[zJ,zJ,Xx]) (by exact(xh rfl vQ (xh rfl vQ (kp rfl ht)))) (by decide)
  obtain⟨S,h8,a8⟩:=S.litNew b8 (sz:=1) (R:=agq) (l:=[ByteArray.empty,ByteArray.empty,ByteArray.empty]) (by exact(xh (c:=[.string ByteArray.empty]) rfl rfl (xh (c:=[.string ByteArray.empty]) rfl rfl (kp rfl rfl)))) (by decide)
  obtain⟨S,h2,a2⟩:=S.litNew b2 (sz:=1) (R:=ZN) (l:=[-1]) (by exact(kp rfl ⟨rfl,by unfold agp;omega⟩)) (by decide)
  have hz:∀{r:Gh}{α:Type}{sz:Nat}{R:List Value→α→Prop},SlB sz r R (.slice none 0 0) ([]:List α):=Vt
  obtain⟨S,h19,a19⟩:=S.litNew b19 (sz:=21) (R:=PtG (Go.Sh.one b2 [.int .i64 (-1)] 84)) (l:=[hp0,hp1,hp2,hp3])
   (by exact(xh rfl ⟨_,_,_,_,_,rfl,hz,hz,hz,hz,hz⟩ (xh rfl ⟨_,_,_,_,_,rfl,hz,hz,hz,hz,hz⟩ (xh rfl ⟨_,_,_,_,_,rfl,Ye h2,hz,hz,hz,hz⟩ (kp rfl ⟨_,_,_,_,_,rfl,hz,hz,hz,hz,hz⟩))))) (by decide)
  obtain⟨S,h21,a21⟩:=S.litNew b21 (sz:=7) (R:=GrG (((((nothing.or sn).or (Go.Sh.one b7 (vU++(vU++tyL Xx q6 c6)) 43)).or (Go.Sh.one b8 [.string ByteArray.empty,.string ByteArray.empty,.string ByteArray.empty] 9)).or (Go.Sh.one b2 [.int .i64 (-1)] 84)).or (Go.Sh.one b19 (hl0++(hl1++(hl2 b2++hl3))) 96))) (l:=[xi])
   (by exact(kp rfl ⟨_,_,_,_,rfl,hz,Ye (h7.up' inferInstance λc x hx=>TyG.up hx),Ye h8.cells,Ye (h19.up' inferInstance λc x hx=>PtG.up hx)⟩)) (by decide)
  exact h _ _ _ S.ext (S.newOf (((((Above.no.or' ha).or' a7).or' a8).or' a2).or' a19 |>.or' a21)) ⟨none,0,_,rfl,λ_=>rfl,Nat.zero_le _,trivial,Nat.zero_le _,Ye (h21.up' inferInstance λc x hx=>GrG.up hx)⟩
 repeat' (first
  |(with_reducible refine Qy λw9 e9=>⟨e9,?_⟩;have S:=S.go e9)
  |(with_reducible refine ab8 λw9 e9=>⟨e9,?_⟩;have S:=S.go e9)
  |(with_reducible refine Qz λq6 c6 sn w9 e9 n9 t9=>⟨e9,?_⟩;obtain⟨S,d9,a9⟩:=S.tell e9 n9)
  |(with_reducible refine S.litU (t:=41) (e:=43) (cs:=vU++(vU++tyL Xx q6 c6)) (by kernel_rfl) λb7 w9 S=>?_)
  |(with_reducible refine S.mkSU (by decide) (by decide) λb8 w9 S=>?_)
  |(with_reducible refine zo (t:=96) (parts:=#[(0,.int .u8 1),(1,.agg #[.int .i64 1,.slice none 0 0]),(2,agy 2),(10,.int .i64 2)]) (cs:=hl1.toArray) (by kernel_rfl) ?_)
  |(with_reducible refine zo (t:=96) (cs:=(hl2 b2).toArray) (by kernel_rfl) ?_)
  |(with_reducible refine S.lit (t:=99) (e:=96) (cs:=hl0++(hl1++(hl2 b2++hl3))) (by kernel_rfl) λb19 w9 S=>?_)
  |(with_reducible refine zo (t:=101) (cs:=#[.string ByteArray.empty,.int .i64 0,.slice none 0 0,.int .i64 0,.slice (some ⟨b7,0,none⟩) 3 3,.slice (some ⟨b8,0,none⟩) 3 3,.slice (some ⟨b19,0,none⟩) 4 4]) (by kernel_rfl) ?_)
  |(with_reducible refine S.lit (t:=23) (e:=101) (cs:=[.string ByteArray.empty,.int .i64 0,.slice none 0 0,.int .i64 0,.slice (some ⟨b7,0,none⟩) 3 3,.slice (some ⟨b8,0,none⟩) 3 3,.slice (some ⟨b19,0,none⟩) 4 4]) (by kernel_rfl) λb21 w9 S=>?_)
  |(with_reducible refine zo (t:=25) (cs:=#[.slice none 0 0,.slice (some ⟨b21,0,none⟩) 1 1,.int .i64 0]) (by kernel_rfl) ?_)
  |(with_reducible refine And.intro ?_ ?_)
  |(refine S.stB (b:=b0) λw9 S=>?_;refine S.ceB (b:=b0) ?_ rfl;exact fin (b7:=b7) (b8:=b8) (b19:=b19) (b21:=b21) S a9 t9)
)
theorem JZ{k:Int}{w:World}{K:Value→World→Prop}(h:∀q cap sn w',Ext w w'→New w sn w'→TyG sn (tyV (.mk 4 false k 0 [zJ]) q cap) (.mk 4 false k 0 [zJ])→K (tyV (.mk 4 false k 0 [zJ]) q cap) w'):zd Tryz.prog Tryz.j7 #[.int .i64 k] w K:=by
 refine Tryz.ab7 ?_
 unfold Tryz.JY
 have S:StX noX w nothing w []:=St.start (λ_ _ h=>h.elim)
 refine S.al λb2 w1 S=>?_
 refine Qz λq cap sn w2 e2 n2 t2=>?_
 obtain⟨S,_,a2⟩:=S.tell e2 n2
 refine S.al λb3 w3 S=>?_
 refine S.stB (b:=b3) λw4 S=>?_
 refine gp_ ?_
 refine S.st (b:=b3) (λw5 S=>?_) (by simp)
 refine S.ldB (b:=b3) ?_ rfl
 refine S.stB (b:=b2) λw6 S=>?_
 refine S.ceB (b:=b2) ?_ rfl
 refine h q cap sn _ S.ext (S.newOf a2) ?_
 obtain⟨p,c,hE,h1,h2,h3⟩:=t2
 cases hE
 exact⟨_,_,rfl,h1,h2,h3⟩
end Go.Proofs
end
section
namespace Go.Proofs
open Go.Sh Go.RowKit Go.BM
variable {l:List Int} {a:Int} {n:Nat}
theorem acA:zf zY xi=⟨0,4,2,[zJ,zJ,qU 0],[1,-1,-1,-1]⟩:=by kernel_rfl
theorem acB:yk (yq zY 0 (-1))=(⟨0,4,2,[zJ,zJ,qU 0],[1,-1,-1,-1]⟩,0):=by rw[aeI (by decide)];rfl
theorem abN{t:TyD}(ht:mayB [] t=true):(yx [] [t] ⟨0,[]⟩).1=t:=by
 have ho:yE [] [t] ⟨0,[]⟩=true:=by
  rw[yE,hst]
  show(((decide ((0:Int)≤0)&&decide ((0:Int)<1))&&decide (0≤8))&&(true&&(mayB [] t&&true)))=true
  rw[ht];rfl
 rw[yx,yF,if_pos ho];rfl
theorem agF:yn [] [zJ,zJ,qU 0] (plD 1)=zJ:=abN (by rw[hmay];kernel_rfl)
theorem agG:yn [] [zJ,zJ,qU 0] (plD 2)=qU 0:=abN (by rw[hmay];kernel_rfl)
theorem ad7:ys zY [zJ,zJ,qU 0] hp0 1=[(1,0)]:=by
 rw[ys,if_neg (by decide),if_neg (by decide),if_pos (by decide)]
 show k7 false (.mk 4 true 1 0 [yn [] _ (plD 1)]) (yn [] _ (plD 2))++[]=_
 rw[agF,agG];rfl
theorem agH:cnU zY xi=[(1,0)]:=by
 have h1:ys zY [zJ,zJ,qU 0] hp1 (-1)=[]:=by rw[ys,if_pos (by decide),flO,if_neg (by decide)]
 have h2:ys zY [zJ,zJ,qU 0] hp2 (-1)=[]:=by rw[ys,if_pos (by decide),flO,if_neg (by decide)]
 have h3:ys zY [zJ,zJ,qU 0] hp3 (-1)=[]:=by rw[ys,if_neg (by decide),if_neg (by decide),if_neg (by decide),if_neg (by decide)]
 rw[cnU,acA]
 show ys zY [zJ,zJ,qU 0] hp0 1++(ys zY [zJ,zJ,qU 0] hp1 (-1)++(ys zY [zJ,zJ,qU 0] hp2 (-1)++(ys zY [zJ,zJ,qU 0] hp3 (-1)++[])))=_
 rw[ad7,h1,h2,h3];rfl
theorem agI:ofD zY 0=([(1,0)],0):=by
 rw[ofD,acB,if_neg (by decide)]
 show(ddL (cnU zY xi),(0:Int))=_
 rw[agH];rfl
theorem agJ:atD zY 0 0=([(1,0)],0):=by
 rw[atD,acB,if_neg (by decide)]
 show(if(0:Int)≠0 then _ else(ys zY (zf zY xi).tys hp0 ((zf zY xi).at'.getD 0 0),(0:Int)))=_
 rw[if_neg (by decide),acA]
 exact congrArg (·,(0:Int)) ad7
theorem agK:YK (.mk 4 false 1 0 [zJ]) (.mk 4 false 2 0 [zJ])=([(1,2)],0):=by kernel_rfl
theorem agL:frD [(1,0)] 2 0=([0,1],0):=by
 rw[frD,if_neg (by decide)]
 congr 1
 refine YG YH (by decide) λx=>?_
 rw[X0]
 simp only[List.mem_cons,List.not_mem_nil,or_false]
 constructor
 ·rintro⟨h,_⟩;omega
 ·rintro(rfl|rfl)
  ·exact⟨by decide,.base⟩
  ·exact⟨by decide,.step .base (by simp)⟩
theorem afU:BM.mayB 0 []=true:=BM.mayB_true ⟨by decide,by decide,by decide,λk _ h=>by simp at h⟩
theorem afV:([(0,[]),(0,[])]:List yB).any (Zb [(0,[]),(0,[])])=false:=by
 have :Zb [(0,[]),(0,[])] (0,[])=false:=by rw[Zb,afU];rfl
 simp only[List.any_cons,List.any_nil,this];rfl
theorem abO{W:Int}{ws vs:List (BitVec 64)}:lackL W ws vs=[]↔∀k,k<W.toNat→bit vs k=true→bit ws k=true:=by
 rw[lackL,List.filter_eq_nil_iff]
 refine forall_congr' λk=>?_
 rw[List.mem_range]
 refine imp_congr_right λ_=>?_
 cases bit vs k<;>cases bit ws k<;>simp
theorem afW{R:List yB}{l:List CnD}{x W:Int}(hin:ZQ l R.length=true)(hw:∀y∈R,y.1=W)(hall:∀c∈l,jx R c=[])(h:Up l a x):lackL W (XM R x).2 (XM R a).2=[]:=by
 induction h with
 |base=>exact abO.2 λk _ h=>h
 |@step g s hs hm ih=>
  have h1:=hall _ hm
  have hi:=kq.1 hin _ hm
  have hg:(XM R g).1=W:=by
   rw[Ym (show g.toNat<R.length by have:=hi.1.1;have:=hi.2.1;omega)]
   exact hw _ (List.getElem_mem _)
  rw[jx,hg]at h1
  rw[abO]at h1 ih⊢
  exactλk hk hb=>h1 k hk (ih k hk hb)
def x6(n:Nat)(l:List Int):List Int:=(List.range n).map λx:Nat=>((l.count (x:Int):Nat):Int)
theorem Zd:(x6 n l).length=n:=by simp[x6]
theorem VG{i:Nat}(h:i<n):(x6 n l)[i]'(by rw[Zd];exact h)=((l.count (i:Int):Nat):Int):=by simp[x6]
theorem ae2(h0:0≤a)(h1:a<n):(x6 n l).set a.toNat (((l.count a:Nat):Int)+1)=x6 n (l++[a]):=by
 refine List.ext_getElem (by simp[Zd]) λi hi hi2=>?_
 rw[Zd]at hi2
 rw[VG hi2,List.getElem_set]
 split
 ·rename_i e
  have :a=(i:Int):=by omega
  subst this
  simp
 ·rename_i e
  rw[VG hi2,List.count_append,List.count_singleton]
  have :((a == (i:Int))=false):=by simp;omega
  rw[this];simp
theorem ab9(h:l.Pairwise (· < ·)):l.count a=if a∈l then 1 else 0:=by
 induction l with
 |nil=>simp
 |cons x l ih=>
  rw[List.pairwise_cons]at h
  rw[List.count_cons,ih h.2]
  by_cases e:x=a
  ·subst e
   have :x∉l:=λhm=>by have:=h.1 _ hm;omega
   simp[this]
  ·have e2:¬a=x:=λh=>e h.symm
   simp[e,e2]
theorem k9{w:World}{r:Gh}{K:Value→World→Prop}(hr:Holds r w)(hT:TabG r)(h:∀w',Ext w w'→K (.bool true) w'):zd Tryz.prog Tryz.xa #[] w K:=by
 refine Tryz.VF ?_
 unfold Tryz.YY
 have S:=St.start hr
 refine abM λv2 s2 w2 e2 n2 hu=>?_
 obtain⟨S,_,_⟩:=S.tell e2 n2
 refine S.al λb1 w3 S=>?_
 obtain⟨p0,cap0,vf,rfl,_,_,_,_,hfn⟩:=id hu
 obtain⟨qf,capf,rfl,_,_⟩:=hfn.sl.shape
 refine S.stB (b:=b1) λw4 S=>?_
 have S:StX noX w (r.or s2) w4 [.cell b1 [.slice p0 0 cap0,.slice qf 1 capf,.int .i64 0] 25]:=S
 have hu:UnG (r.or s2) (.agg #[.slice p0 0 cap0,.slice qf 1 capf,.int .i64 0]) zY:=UnG.up hu
 have hT:TabG (r.or s2):=hT.up
 generalize r.or s2=ρ at S hu hT
 refine S.ldB (b:=b1) ?_ rfl
 refine abI S.holds hu λv5 s5 w5 e5 n5 h5=>?_
 rw[agI]at h5⊢
 obtain⟨S,_,_⟩:=S.tell e5 n5
 obtain⟨p5,c5,rfl,_,_⟩:=h5.shape
 refine gp_ ?_
 refine gp_ ?_
 refine S.ldB (b:=b1) ?_ rfl
 refine abF S.holds hu.up λv6 s6 w6 e6 n6 h6=>?_
 rw[agJ]at h6⊢
 obtain⟨S,_,_⟩:=S.tell e6 n6
 obtain⟨p6,c6,rfl,_,_⟩:=h6.shape
 refine gp_ ?_
 refine gp_ ?_
 refine JZ λq7 c7 s7 w7 e7 n7 t7=>?_
 obtain⟨S,_,_⟩:=S.tell e7 n7
 refine JZ λq8 c8 s8 w8 e8 n8 t8=>?_
 obtain⟨S,_,_⟩:=S.tell e8 n8
 refine JV S.holds t7.up t8.up λv9 s9 w9 e9 n9 h9=>?_
 rw[agK]at h9⊢
 obtain⟨S,_,_⟩:=S.tell e9 n9
 obtain⟨p9,c9,rfl,_,_⟩:=h9.shape
 refine gp_ ?_
 refine gp_ ?_
 obtain⟨σ,hσ,S⟩:=S.any
 have l5:Le s5 σ:=by rw[hσ];infer_instance
 have l0:Le ρ σ:=by rw[hσ];infer_instance
 clear hσ
 have h5:SlG 2 σ CnC (.slice p5 ([(1,0)]:List CnD).length c5) [(1,0)]:=h5.cells
 refine jp S.holds h5 (by decide) λv10 s10 w10 e10 n10 h10=>?_
 rw[agL]at h10⊢
 obtain⟨S,_,_⟩:=S.tell e10 n10
 obtain⟨p10,c10,rfl,_,_⟩:=h10.shape
 refine gp_ ?_
 refine gp_ ?_
 refine zo (cs:=#[.int .i64 0,.slice none 0 0]) (by kernel_rfl) ?_
 refine zo (cs:=#[.int .i64 0,.slice none 0 0]) (by kernel_rfl) ?_
 refine S.lit (t:=44) (e:=48) (cs:=[.int .i64 0,.slice none 0 0,.int .i64 0,.slice none 0 0]) (by kernel_rfl) λb11 w11 S=>?_
 obtain⟨S,h11,_⟩:=S.litNew b11 (sz:=2) (R:=RwbC nothing) (l:=[(0,[]),(0,[])]) (by exact(xh (c:=[.int .i64 0,.slice none 0 0]) rfl ⟨none,0,rfl,Vt⟩ (kp (c:=[.int .i64 0,.slice none 0 0]) rfl ⟨none,0,rfl,Vt⟩))) (by decide)
 obtain⟨τ,hτ,S⟩:=S.any
 have l1:Le σ τ:=by rw[hτ];infer_instance
 have l2:Le ρ τ:=by rw[hτ];exact⟨λb o h=>.inl (.inl (l0.le b o h))⟩
 have l3:Le (Go.Sh.one b11 [.int .i64 0,.slice none 0 0,.int .i64 0,.slice none 0 0] 48) τ:=by rw[hτ];infer_instance
 have h11:=h11.up' l3 λc x h=>RwbC.up (s:=τ) h
 have hT:TabG τ:=hT.up
 have h5:SlG 2 τ CnC (.slice p5 ([(1,0)]:List CnD).length c5) [(1,0)]:=h5.cells
 have hins:ZT [((1:Int),(0:Int))] 2=true:=by decide
 refine Zc S.holds h5 (by decide) h11 (by decide) hT (λhb=>?_) (λ_ _ i hi _ hne=>?_) λ_ _ _ w12 e12=>?_
 ·exfalso
  rcases hb with hb|hb
  ·rw[afV]at hb;cases hb
  ·rw[show (([(0,[]),(0,[])]:List yB).length:Int)=2 by rfl,hins]at hb;cases hb
 ·exfalso
  have :i=0:=by have :i<1:=hi;omega
  subst this
  exact hne rfl
 have S:=S.go e12
 obtain⟨bq,oq,hq,_,g1,g2,gg⟩:=Yl h5 (i:=0) (by decide)
 subst hq
 refine gS_ ?_
 iterate 1 refine zk (c:=true) (λ_ K2 hK2=>by refine gg_ ?_;exact hK2) ?_
 refine zk (c:=true) (λ_ K2 hK2=>?_) ?_
 ·refine gg_ ?_
  refine s_c (by decide) ?_
  refine zu (n:=2) rfl (λj v hj=>by simpa using S.at (gg j v hj)) ?_
  refine zo (cs:=#[.int .i64 1,.int .i64 0]) (by kernel_rfl) ?_
  refine gg_ ?_
  exact hK2
 iterate 6 refine zk (c:=true) (λ_ K2 hK2=>by refine gg_ ?_;exact hK2) ?_
 refine zk (c:=true) (λ_ K2 hK2=>hK2) ?_
 refine zk (c:=true) (λ_ K2 hK2=>by refine gg_ ?_;exact hK2) ?_
 exact h _ S.ext
end Go.Proofs
end
section
namespace Go.Proofs
open Go.Sh Go.RowKit
variable {l:List CnD} {n:Nat} {R:List yB} {K:Value→World→Prop}
theorem abP{v vr:Value}{w:World}{r:Gh}{K:Value→World→Prop}(hr:Holds r w)(hl:SlG 2 r CnC v l)(hb:l.length≤1000000)(hR:SlG 2 r (RwbC r) vr R)(hRb:R.length≤1000000)(hT:TabG r)
  (h:∀a b (is:Bool) (e:Int) w',Ext w w'→(is=true→e=0∧R.any (Zb R)=false∧∀c∈l,jx R c=[])→K (.tuple #[.int .i64 a,.int .i64 b,.bool is,.int .i64 e]) w'):zd Tryz.prog Tryz.y6 #[v,vr] w K:=
 Zc hr hl hb hR hRb hT (λ_ w' e=>h _ _ _ _ w' e (λh=>by cases h)) (λ_ _ _ _ _ _ w' e=>h _ _ _ _ w' e (λh=>by cases h))
  (λh1 _ h3 w' e=>h _ _ _ _ w' e λ_=>⟨rfl,h1,λc hc=>by obtain⟨k,hk,rfl⟩:=List.getElem_of_mem hc;exact h3 k hk⟩)
theorem ae3{l:List Int}{i:Nat}(h:i<l.length):(ints l)[i]? = some (.int .i64 l[i]):=by rw[ints,List.getElem?_map,gqg h];rfl
theorem Yn{l:List Int}{x:Int}(h0:0≤x)(h1:x<n):(ints (x6 n l))[0+x.toNat]? = some (.int .i64 ((l.count x:Nat):Int)):=by
 have hx:x.toNat<n:=by omega
 rw[Nat.zero_add,ae3 (by rw[Zd];exact hx),VG hx,show ((x.toNat:Nat):Int)=x by omega]
theorem afX{l:List Int}{x:Int}(h0:0≤x)(h1:x<n):(ints (x6 n l)).set (0+x.toNat) (.int .i64 (((l.count x:Nat):Int)+1))=ints (x6 n (l++[x])):=by
 rw[← ae2 h0 h1,ints,ints,List.map_set,Nat.zero_add]
theorem afY:ints (x6 n [])=List.replicate n (.int .i64 0):=by
 rw[ints,x6,List.map_map]
 exact List.ext_getElem (by simp) λi h1 h2=>by simp
theorem abQ{ct a:Int}:(frD l ct a=([],2))∨(((0≤ct∧ct≤512)∧0≤a∧a<ct)∧ZQ l ct=true∧frD l ct a=(upL l ct.toNat a,0)):=by
 by_cases h:(((ct<0∨512<ct)∨a<0)∨ct≤a)∨ZT l ct=false
 ·exact .inl (by rw[frD,if_pos h])
 ·refine .inr ?_
  rw[not_or,not_or,not_or,not_or,Bool.not_eq_false,XL]at h
  refine⟨by omega,h.2,?_⟩
  rw[frD,if_neg]
  rw[XL,h.2];simp;omega
theorem ZU{a:Int}{v vr:Value}{w:World}{r:Gh}{K:Value→World→Prop}(hr:Holds r w)(hl:SlG 2 r CnC v l)(hR:SlG 2 r (RwbC r) vr R)(hT:TabG r)
  (h:∀w',Ext w w'→K (.bool true) w'):zd Tryz.prog Tryz.kP #[v,vr,.int .i64 a] w K:=by
 refine Tryz.Zf ?_
 unfold Tryz.kU
 have hl0:=hl;have hR0:=hR
 obtain⟨p,cap,rfl,_,_⟩:=hl.shape
 obtain⟨pr,capr,rfl,_,_⟩:=hR.shape
 have S:=St.start hr
 refine gp_ ?_
 refine gp_ ?_
 refine zi (c:=decide (300<(R.length:Int))) (λ_ K2 hK2=>by refine gg_ ?_;exact hK2) ?_
 refine c_b (λ_=>k9 S.holds hT λw5 e5=>h _ (S.go e5).ext) (λhsm=>?_)
 simp only[Bool.or_eq_false_iff,decide_eq_false_iff_not]at hsm
 obtain⟨hl3,hR3⟩:=hsm
 refine zp (ι:=Nat) (λi=>[.int .i64 (i:Nat)]) (λi w'=>i≤R.length∧StX noX w r w' []) (λi=>R.length-i) 0 rfl ⟨Nat.zero_le _,S⟩ ?_
 repeat clear S
 rintro i d w3 ⟨hi,S⟩ K4 hK4
 rw[gdz]
 refine gp_ ?_
 refine gp_ ?_
 refine zn (λhlt=>?_) (λhge=>?_)
 ·have hlt:i<R.length:=by omega
  obtain⟨b,off,c,hE,hcl,hcR,hcell⟩:=hR.get (by decide) hlt
  generalize R[i]=rw at hcR
  obtain⟨pw,cw,rfl,hS⟩:=hcR
  have hfew:rw.2.length≤9223372036854775807:=hS.few
  subst hE
  refine gg_ ?_
  refine zh (by rw[tnc];exact S.at (hcell 1 _ rfl)) ?_
  refine gg_ ?_
  refine zn (λ_=>k9 S.holds hT λw5 e5=>h _ (S.go e5).ext) (λhsm2=>?_)
  refine gg_ ?_
  exact hK4 (i+1) _ ⟨hlt,S⟩ (by omega)
 clear hK4 K4 hge hi d
 refine abP S.holds hl0 (by omega) hR0 (by omega) hT λa1 a2 is e1 w5 e5 his=>?_
 have S:=S.go e5
 refine gS_ ?_
 refine jp S.holds hl0 (by omega) λv6 s6 w6 e6 n6 h6=>?_
 obtain⟨S,_,_⟩:=S.tell e6 n6
 obtain⟨q6,c6,rfl,_,_⟩:=h6.shape
 rcases abQ (l:=l) (ct:=(R.length:Int)) (a:=a)with hE|⟨hrg,hin,hE⟩
 ·rw[hE]at h6⊢
  refine gp_ ?_
  refine gp_ ?_
  refine gp_ ?_
  refine c_t rfl ?_
  refine gp_ ?_
  refine gp_ ?_
  refine zU (c:=true) (λ_ K2 hK2=>k9 S.holds hT.up λw7 e7=>hK2 _ e7) λw7 e7=>?_
  exact h _ (S.go e7).ext
 rw[hE]at h6⊢
 rw[tnc]at h6⊢
 have hFm:∀x,x∈upL l R.length a↔(0≤x∧x<(R.length:Nat))∧Up l a x:=λx=>X0
 have hFs:=YH (l:=l) (n:=R.length) (a:=a)
 have hFl:=acv (l:=l) (n:=R.length) (a:=a)
 generalize hF:upL l R.length a=F at h6 hFm hFs hFl⊢
 dsimp only at h6⊢
 have hcn:∀x,F.count x=if x∈F then 1 else 0:=λx=>ab9 hFs
 have haF:a∈F:=(hFm a).2 ⟨⟨hrg.2.1,hrg.2.2⟩,.base⟩
 refine gp_ ?_
 refine gp_ ?_
 refine gp_ ?_
 refine c_f rfl ?_
 refine gp_ ?_
 refine S.mkS (by omega) (by omega) λb7 w7 S=>?_
 rw[tnc]at S⊢
 rw[← afY]at S
 have S:StX noX w (r.or s6) w7 [.cell b7 (ints (x6 R.length (F.take 0))) 3]:=S
 refine zp (ι:=Nat) (λi=>[.int .i64 (i:Nat)]) (λi w'=>i≤F.length∧StX noX w (r.or s6) w' [.cell b7 (ints (x6 R.length (F.take i))) 3]) (λi=>F.length-i) 0 rfl ⟨Nat.zero_le _,S⟩ ?_
 repeat clear S
 rintro i d w8 ⟨hi,S⟩ K4 hK4
 rw[gdz]
 refine gp_ ?_
 refine gp_ ?_
 refine zn (λhlt=>?_) (λhge=>?_)
 ·have hlt:i<F.length:=by omega
  obtain⟨bf,of,hpf,_,hcf⟩:=kE h6 hlt
  subst hpf
  have hx:=(hFm _).1 (List.getElem_mem hlt)
  have hc0:(F.take i).count F[i]≤1000:=Nat.le_trans List.count_le_length (by rw[List.length_take];omega)
  have hcf:=hcf.up (s:=r.or s6)
  refine gg_ ?_
  refine zh (by rw[tnc];exact S.at hcf) ?_
  refine gp_ ?_
  refine zi (c:=decide (((R.length:Nat):Int)≤F[i])) (λ_ K2 hK2=>?_) ?_
  ·refine gg_ ?_
   refine zh (by rw[tnc];exact S.at hcf) ?_
   refine gg_ ?_
   exact hK2
  refine c_f (by simp;omega) ?_
  refine gg_ ?_
  refine zh (by rw[tnc];exact S.at hcf) ?_
  refine gp_ ?_
  refine S.ld (b:=b7) ?_ (Yn hx.1.1 hx.1.2)
  refine gp_ ?_
  refine gp_ ?_
  refine S.st (b:=b7) (λw9 S=>?_) (by rw[yP,Zd];omega)
  rw[afX hx.1.1 hx.1.2,← List.take_succ_eq_append_getElem hlt]at S
  refine gp_ ?_
  exact hK4 (i+1) _ ⟨hlt,S⟩ (by omega)
 rw[List.take_of_length_le (by omega)]at S
 clear hK4 K4 hge hi d
 refine zp (ι:=Nat) (λi=>[.int .i64 (i:Nat)]) (λi w'=>i≤l.length∧StX noX w (r.or s6) w' [.cell b7 (ints (x6 R.length F)) 3]) (λi=>l.length-i) 0 rfl ⟨Nat.zero_le _,S⟩ ?_
 repeat clear S
 rintro i d w9 ⟨hi,S⟩ K4 hK4
 rw[gdz]
 refine gp_ ?_
 refine gp_ ?_
 refine zn (λhlt=>?_) (λhge=>?_)
 ·have hlt:i<l.length:=by omega
  have hix:=kq.1 hin _ (List.getElem_mem hlt)
  obtain⟨b,off,hpE,_,hc1,hc2,_⟩:=Yl hl hlt
  subst hpE
  have hc1:=hc1.up (s:=r.or s6)
  have hc2:=hc2.up (s:=r.or s6)
  refine gg_ ?_
  refine zh (v:=.int .i64 l[i].1) (by simpa using S.at hc1) ?_
  refine gp_ ?_
  refine zi (c:=decide (l[i].2<0)) (λ_ K2 hK2=>by refine gg_ ?_;refine zh (v:=.int .i64 l[i].2) (by simpa using S.at hc2) ?_;refine gg_ ?_;exact hK2) ?_
  refine zi (c:=decide (((R.length:Nat):Int)≤l[i].1)) (λ_ K2 hK2=>by refine gg_ ?_;refine zh (v:=.int .i64 l[i].1) (by simpa using S.at hc1) ?_;refine gg_ ?_;exact hK2) ?_
  refine zi (c:=decide (((R.length:Nat):Int)≤l[i].2)) (λ_ K2 hK2=>by refine gg_ ?_;refine zh (v:=.int .i64 l[i].2) (by simpa using S.at hc2) ?_;refine gg_ ?_;exact hK2) ?_
  refine c_f (by simp;omega) ?_
  refine gp_ ?_
  exact hK4 (i+1) _ ⟨hlt,S⟩ (by omega)
 clear hK4 K4 hge hi d
 refine gp_ ?_
 refine zi (c:=decide (((R.length:Nat):Int)≤a)) (λ_ K2 hK2=>by refine gg_ ?_;exact hK2) ?_
 refine zi (c:=false) (λ_ K2 hK2=>?_) ?_
 ·refine gp_ ?_
  refine S.ld (b:=b7) ?_ (Yn hrg.2.1 hrg.2.2)
  rw[hcn,if_pos haF]
  refine gg_ ?_
  exact hK2
 refine c_f (by simp;omega) ?_
 refine zp (ι:=Nat) (λi=>[.int .i64 (i:Nat)]) (λi w'=>i≤l.length∧StX noX w (r.or s6) w' [.cell b7 (ints (x6 R.length F)) 3]) (λi=>l.length-i) 0 rfl ⟨Nat.zero_le _,S⟩ ?_
 repeat clear S
 rintro i d w9 ⟨hi,S⟩ K4 hK4
 rw[gdz]
 refine gp_ ?_
 refine gp_ ?_
 refine zn (λhlt=>?_) (λhge=>?_)
 ·have hlt:i<l.length:=by omega
  have hlm:=List.getElem_mem hlt
  have hix:=kq.1 hin _ hlm
  obtain⟨b,off,hpE,_,hc1,hc2,_⟩:=Yl hl hlt
  subst hpE
  have hc1:=hc1.up (s:=r.or s6)
  have hc2:=hc2.up (s:=r.or s6)
  generalize l[i]=c at hix hc1 hc2 hlm
  refine gg_ ?_
  refine zh (v:=.int .i64 c.2) (by simpa using S.at hc2) ?_
  refine gp_ ?_
  refine S.ld (b:=b7) ?_ (Yn hix.1.2 hix.2.2)
  refine gp_ ?_
  refine zk (c:=decide (((F.count c.1:Nat):Int)=0)) (λ_ K2 hK2=>?_) ?_
  ·refine gg_ ?_
   refine zh (v:=.int .i64 c.1) (by simpa using S.at hc1) ?_
   refine gp_ ?_
   refine S.ld (b:=b7) ?_ (Yn hix.1.1 hix.2.1)
   refine gg_ ?_
   exact hK2
  refine c_f ?_ ?_
  ·rw[hcn,hcn]
   by_cases hm:c.2∈F
   ·have :c.1∈F:=(hFm _).2 ⟨⟨hix.1.1,hix.2.1⟩,.step ((hFm _).1 hm).2 (by exact hlm)⟩
    rw[if_pos hm,if_pos this];rfl
   ·rw[if_neg hm];rfl
  refine gp_ ?_
  exact hK4 (i+1) _ ⟨hlt,S⟩ (by omega)
 clear hK4 K4 hge hi d
 refine zp (ι:=Nat) (λi=>[.int .i64 (i:Nat)]) (λi w'=>i≤F.length∧StX noX w (r.or s6) w' [.cell b7 (ints (x6 R.length F)) 3]) (λi=>F.length-i) 0 rfl ⟨Nat.zero_le _,S⟩ ?_
 repeat clear S
 rintro i d w9 ⟨hi,S⟩ K4 hK4
 rw[gdz]
 refine gp_ ?_
 refine gp_ ?_
 refine zk (c:=decide ((i:Int)<30)) (λ_ K2 hK2=>by refine gg_ ?_;exact hK2) ?_
 refine c_b (λhlt=>?_) (λhge=>?_)
 ·have hlt:i<F.length:=by
   simp only[Bool.and_eq_true,decide_eq_true_eq]at hlt;omega
  obtain⟨bf,of,hpf,_,hcf⟩:=kE h6 hlt
  have hx:=(hFm _).1 (List.getElem_mem hlt)
  have hcf:=hcf.up (s:=r.or s6)
  subst hpf
  generalize F[i]=x at hx hcf
  refine zt (λy w'=>y=[]∧StX noX w (r.or s6) w' [.cell b7 (ints (x6 R.length F)) 3]) (λK3 hK3=>?_) ?_
  ·refine gg_ ?_
   refine zh (by rw[tnc];exact S.at hcf) ?_
   refine jp S.holds hl0.cells (by omega) λv10 s10 w10 e10 n10 h10=>?_
   have hE2:frD l (R.length:Int) x=(upL l R.length x,0):=by
    rcases abQ (l:=l) (ct:=(R.length:Int)) (a:=x)with hE|⟨_,_,hE⟩
    ·exfalso
     rw[frD,if_neg]at hE
     ·exact absurd (congrArg Prod.snd hE) (by show(0:Int)≠2;decide)
     ·rw[XL,hin];simp;omega
    ·rw[hE,tnc]
   rw[hE2]at h10⊢
   obtain⟨S,_,_⟩:=S.tell e10 n10
   obtain⟨q10,c10,rfl,_,_⟩:=h10.shape
   have hGm:∀y∈upL l R.length x,y∈F:=λy hy=>by
    have:=X0.1 hy
    exact(hFm y).2 ⟨this.1,hx.2.trans this.2⟩
   have hGl:=acv (l:=l) (n:=R.length) (a:=x)
   dsimp only at h10⊢
   generalize upL l R.length x=G at h10 hGm hGl⊢
   refine gp_ ?_
   refine gp_ ?_
   refine gp_ ?_
   refine c_f rfl ?_
   refine zp (ι:=Nat) (λi=>[.int .i64 (i:Nat)]) (λi w'=>i≤G.length∧StX noX w ((r.or s6).or s10) w' [.cell b7 (ints (x6 R.length F)) 3]) (λi=>G.length-i) 0 rfl ⟨Nat.zero_le _,S⟩ ?_
   repeat clear S
   rintro k d w11 ⟨hk,S⟩ K5 hK5
   rw[gdz]
   refine gp_ ?_
   refine gp_ ?_
   refine zn (λhltk=>?_) (λhgek=>?_)
   ·have hltk:k<G.length:=by omega
    obtain⟨bg,og,hpg,_,hcg⟩:=kE h10 hltk
    have hyF:=hGm _ (List.getElem_mem hltk)
    have hy:=(hFm _).1 hyF
    have hcg:=hcg.up (s:=(r.or s6).or s10)
    subst hpg
    generalize G[k]=y at hyF hy hcg
    refine gg_ ?_
    refine zh (by rw[tnc];exact S.at hcg) ?_
    refine gp_ ?_
    refine zi (c:=decide (((R.length:Nat):Int)≤y)) (λ_ K2 hK2=>?_) ?_
    ·refine gg_ ?_
     refine zh (by rw[tnc];exact S.at hcg) ?_
     refine gg_ ?_
     exact hK2
    refine zi (c:=false) (λ_ K2 hK2=>?_) ?_
    ·refine gg_ ?_
     refine zh (by rw[tnc];exact S.at hcg) ?_
     refine gp_ ?_
     refine S.ld (b:=b7) ?_ (Yn hy.1.1 hy.1.2)
     rw[hcn,if_pos hyF]
     refine gg_ ?_
     exact hK2
    refine c_f (by simp;omega) ?_
    refine gp_ ?_
    exact hK5 (k+1) _ ⟨hltk,S⟩ (by omega)
   ·refine c_b (λhi1=>?_) (λ_=>hK3 _ _ ⟨rfl,S.less (λb o h=>.inl h) (List.Sublist.refl _)⟩)
    obtain⟨_,hbd,hlk⟩:=his hi1
    have hma:∀z∈R,BM.mayB z.1 z.2=true∧z.1=(R.headD (0,[])).1:=λz hz=>by
     have:=List.any_eq_false.1 hbd z hz
     rw[Zb]at this
     simpa using this
    have hlack:=afW hin (λy hy=>(hma y hy).2) hlk hx.2
    have hxl:x.toNat<R.length:=by omega
    have hal:a.toNat<R.length:=by omega
    rw[Ym hxl,Ym hal]at hlack
    obtain⟨bx,ox,cx,hEx,_,hcx,hcellx⟩:=hR.get (by decide) hxl
    obtain⟨ba,oa,ca,hEa,_,hca,hcella⟩:=hR.get (by decide) hal
    rw[hEx]at hEa
    cases hEa
    obtain⟨m1,m2⟩:=hma _ (List.getElem_mem hxl)
    obtain⟨m3,m4⟩:=hma _ (List.getElem_mem hal)
    have hcx0:=hcx;have hca0:=hca
    obtain⟨px,wx,rfl,_⟩:=hcx
    obtain⟨pa,wa,rfl,_⟩:=hca
    rw[hEx]
    have S:=S.go (Ext.drew _)
    refine gg_ ?_
    refine zh (by rw[tnc];exact S.at (hcf.up (s:=(r.or s6).or s10))) ?_
    refine gg_ ?_
    refine zu (n:=2) rfl (λj v hj=>S.at ((hcellx j v hj).up (s:=(r.or s6).or s10))) ?_
    refine gg_ ?_
    refine zu (n:=2) rfl (λj v hj=>S.at ((hcella j v hj).up (s:=(r.or s6).or s10))) ?_
    refine ac8 S.holds hcx0.up hca0.up hT.up (λhn=>absurd ⟨m1,m3,by rw[m2,m4]⟩ hn) λ_ _ _ w12 e12=>?_
    have S:=S.go e12
    rw[m2,hlack]
    refine gS_ ?_
    refine zi (c:=false) (λ_ K2 hK2=>by refine gg_ ?_;exact hK2) ?_
    refine c_f rfl ?_
    exact hK3 _ _ ⟨rfl,S.less (λb o h=>.inl h) (List.Sublist.refl _)⟩
  ·repeat clear S
   rintro _ w10 ⟨rfl,S⟩ d
   refine gp_ ?_
   exact hK4 (i+1) _ ⟨hlt,S⟩ (by omega)
 ·refine gp_ ?_
  refine zi (c:=!is) (λ_ K2 hK2=>by refine gg_ ?_;exact hK2) ?_
  have he:(decide (e1=0) || !is)=true:=by
   cases is with
   |false=>simp
   |true=>rw [(his rfl).1];rfl
  rw[he]
  refine zU (c:=true) (λ_ K2 hK2=>k9 S.holds hT.up λw7 e7=>hK2 _ e7) λw7 e7=>?_
  exact h _ (S.go e7).ext
end Go.Proofs
end
