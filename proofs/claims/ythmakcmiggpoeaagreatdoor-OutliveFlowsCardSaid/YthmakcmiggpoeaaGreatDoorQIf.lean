/-
  Contracts and plain laws that the last text leans on.
-/
import Derived.Test.YthmakcmiggpoeaaGreatDoorQIe
import Derived.Test.YthmakcmiggpoeaaGreatDoorQId
import Derived.Test.YthmakcmiggpoeaaGreatDoorQIb
set_option maxRecDepth 100000
set_option maxHeartbeats 8000000
set_option linter.unusedVariables false
set_option linter.unusedSimpArgs false
section
namespace Go.Proofs
open Go.Sh Go.RowKit
variable {l:List CnD} {a:Int} {w:World} {r:Gh} {K:Value→World→Prop} {R:List xE}
theorem ad1{n:Int}:YN l n=XD l n:=by
 rw[Bool.eq_iff_iff,Zd,YN,Bool.not_eq_true',List.any_eq_false]
 refine forall_congr' λc=>forall_congr' λhc=>?_
 rw[ac5,Bool.or_eq_true,decide_eq_true_eq,decide_eq_true_eq]
 omega
noncomputable def frD(l:List CnD)(ct a:Int):List Int×Int:=if (((ct<0∨512<ct)∨a<0)∨ct≤a)∨YN l ct=false then([],2)else(upL l ct.toNat a,0)
theorem afM{n:Nat}{out:List Int}(hl:XD l n=true)(h:UpS l n a out out.length):kJ out=upL l n a:=by
 refine YJ ?_ JN λx=>?_
 ·have hp:(kJ out).Pairwise (λa b=>decide (a≤b)=true):=List.pairwise_mergeSort (λa b c h1 h2=>by simp only[decide_eq_true_eq]at *;omega) (λa b=>by simp only[Bool.or_eq_true,decide_eq_true_eq];omega) out
  have hn:(kJ out).Nodup:=(List.mergeSort_perm out _).nodup_iff.2 h.nd
  rw[List.pairwise_iff_getElem]at hp⊢
  intro i j hi hj hij
  have h1:=hp i j hi hj hij
  have h2:=(List.pairwise_iff_getElem.1 hn) i j hi hj hij
  simp only[decide_eq_true_eq]at h1
  omega
 ·rw[← h.end hl]
  exact List.mem_mergeSort
theorem VG{ct a:Int}{v:Value}{K:Value→World→Prop}(hr:Holds r w)(hl:SlG 2 r CnC v l)(hb:l.length≤1000000)
  (h:∀v' s w',Ext w w'→New w s w'→SlG 1 s qU v' (frD l ct a).1→K (.tuple #[v',.int .i64 (frD l ct a).2]) w'):ze Tryz.prog Tryz.jm #[v,.int .i64 ct,.int .i64 a] w K:=by
 refine Tryz.JW ?_
 unfold Tryz.Yq
 have S:=St.start hr
 obtain⟨p,cap,rfl,_,_⟩:=hl.shape
 have hE:frD l ct a=if (((ct<0∨512<ct)∨a<0)∨ct≤a)∨YN l ct=false then([],2)else(upL l ct.toNat a,0):=rfl
 refine gp_ ?_
 refine zj (c:=decide (ct>512)) (λ_ K2 hK2=>by refine gp_ ?_;exact hK2) ?_
 refine zj (c:=decide (a<0)) (λ_ K2 hK2=>by refine gp_ ?_;exact hK2) ?_
 refine zj (c:=decide (a≥ct)) (λ_ K2 hK2=>by refine gp_ ?_;exact hK2) ?_
 refine xx (c:=!YN l ct) (λ_ K2 hK2=>?_) λw5 e5=>?_
 ·refine Zk S.holds hl (by omega) λw5 e5=>?_
  refine gp_ ?_
  exact hK2 _ e5
 have S:=S.go e5
 refine c_b (λhbad=>?_) (λhgood=>?_)
 ·have hE:frD l ct a=([],2):=by
   rw[hE,if_pos]
   simp only[Bool.or_eq_true,decide_eq_true_eq,Bool.not_eq_true']at hbad
   exact hbad
  rw[hE]at h
  exact h _ nothing _ S.ext New.nothing SlG.nil
 simp only[Bool.or_eq_false_iff,decide_eq_false_iff_not,Bool.not_eq_false']at hgood
 obtain⟨⟨⟨⟨k1,k2⟩,k3⟩,k4⟩,k5⟩:=hgood
 have hE:frD l ct a=(upL l ct.toNat a,0):=by rw[hE,if_neg];rw[k5];simp;omega
 rw[hE]at h
 obtain⟨n,rfl⟩:∃n:Nat,ct=(n:Int):=⟨ct.toNat,by omega⟩
 rw[tnc]at h
 rw[ad1]at k5
 clear hE
 refine S.lit (e:=3) (cs:=[.int .i64 a]) (by kernel_rfl) λb6 w6 S=>?_
 have S:StX noX w r w6 [.row (.slice (some ⟨b6,0,none⟩) 1 1) 3 1 1 (ints [a])]:=S.toRow 1 1 rfl (by decide)
 refine zq (ι:=(Value×List Int)×Nat) (λi=>[i.1.1,.int .i64 (i.2:Nat)]) (λi w'=>UpS l n a i.1.2 i.2∧StX noX w r w' [.row i.1.1 3 1 i.1.2.length (ints i.1.2)]) (λi=>n-i.2) ((.slice (some ⟨b6,0,none⟩) 1 1,[a]),0) rfl ⟨UpS.start (by omega),S⟩ ?_
 repeat clear S
 rintro⟨⟨v,out⟩,i⟩ d w7 ⟨hU,S⟩ K4 hK4
 simp only[gdz,gds]
 have hU:UpS l n a out i:=hU
 have S:StX noX w r w7 [.row v 3 1 out.length (ints out)]:=S
 have hfew:=hU.few
 have hile:=hU.le
 obtain⟨pv,capv,hv,_⟩:=S.rowS v
 rw[hv]
 refine gp_ ?_
 refine gp_ ?_
 rw[← hv]
 refine zo (λhlt=>?_) (λhge=>?_)
 ·have hlt:i<out.length:=by omega
  refine gp_ ?_
  refine zq (ι:=(Value×List Int)×Nat) (λj=>[j.1.1,.int .i64 (j.2:Nat)]) (λj w'=>UpS l n a j.1.2 i∧i<j.1.2.length∧j.2≤l.length∧(∀k (hk:k<l.length),k<j.2→j.1.2[i]? = some l[k].2→l[k].1∈j.1.2)∧StX noX w r w' [.row j.1.1 3 1 j.1.2.length (ints j.1.2)]) (λj=>l.length-j.2) ((v,out),0) rfl ⟨hU,hlt,Nat.zero_le _,λk hk h0=>absurd h0 (Nat.not_lt_zero _),S⟩ ?_
  repeat clear S
  clear hv hfew hile hlt hU
  rintro⟨⟨v,out⟩,j⟩ d w8 ⟨hU,hlt,hjl,hdn,S⟩ K5 hK5
  simp only[gdz,gds]
  have hU:UpS l n a out i:=hU
  have hlt:i<out.length:=hlt
  have hjl:j≤l.length:=hjl
  have hdn:∀k (hk:k<l.length),k<j→out[i]? = some l[k].2→l[k].1∈out:=hdn
  have S:StX noX w r w8 [.row v 3 1 out.length (ints out)]:=S
  have hfew:=hU.few
  refine gp_ ?_
  refine zo (λhltj=>?_) (λhgej=>?_)
  ·have hltj:j<l.length:=by omega
   have hjx:=Zd.1 k5 _ (List.getElem_mem hltj)
   refine zy (λx w'=>∃v' out',x=[v']∧UpS l n a out' i∧i<out'.length∧(∀k (hk:k<l.length),k<j+1→out'[i]? = some l[k].2→l[k].1∈out')∧StX noX w r w' [.row v' 3 1 out'.length (ints out')]) (λK3 hK3=>?_) ?_
   ·obtain⟨b,off,hpE,_,_,_,hcell⟩:=Zi hl hltj
    rw[hpE]
    refine gg_ ?_
    refine zA (n:=2) rfl (λj v hj=>by rw[tnc];exact S.at (hcell j v hj)) ?_
    refine S.al λb11 w9 S=>?_
    refine S.stB (b:=b11) λw10 S=>?_
    have S:=S.go (Ext.drew _)
    have S:StX noX w r w10.drew [.cell b11 [.int .i64 l[j].1,.int .i64 l[j].2] 36,.row v 3 1 out.length (ints out)]:=S
    obtain⟨s,T,hs,_,_⟩:=(S.permO (.swap _ _ _)).doneRow (l:=out) kY (by decide) rfl
    obtain⟨pv,capv,hv,_⟩:=hs.shape
    have hs0:=hs
    rw[hv]at hs0
    obtain⟨bo,oo,hpo,_,hco⟩:=qF hs0 hlt
    refine gg_ ?_
    rw[hv,hpo]
    refine gp_ ?_
    refine zi (v:=.int .i64 out[i]) (by simpa using T.at (hco.up (s:=r.or s))) ?_
    rw[← hpo,← hv]
    refine gp_ ?_
    refine zp (c:=!decide (l[j].1∈out)) (λhb K2 hK2=>?_) ?_
    ·refine gg_ ?_
     refine Vz T.holds hs.cells (by simp only[maxLen];omega) ?_
     refine gp_ ?_
     exact hK2
    refine c_b (λhb=>?_) (λhb=>?_)
    ·simp only[Bool.and_eq_true,decide_eq_true_eq,Bool.not_eq_true',decide_eq_false_iff_not]at hb
     obtain⟨hb1,hb2⟩:=hb
     have hU2:=hU.add k5 (List.getElem_mem hltj) (by rw[hb1];exact List.getElem_mem hlt) hb2
     refine gg_ ?_
     refine S.lit (e:=3) (cs:=[.int .i64 l[j].1]) (by kernel_rfl) λb12 w12 S=>?_
     refine S.ap (v:=v) (m':=1) (Sl.blk (S.blk b12)) (λv4 w13 S=>?_) (by omega)
     refine hK3 _ _ ⟨v4,out++[l[j].1],rfl,hU2,by rw[List.length_append];omega,λk hk hkj hx=>?_,?_⟩
     ·rw[List.getElem?_append_left hlt]at hx
      rcases Nat.lt_or_ge k j with h1|h1
      ·exact List.mem_append_left _ (hdn k hk h1 hx)
      ·obtain rfl:k=j:=by omega
       exact List.mem_append_right _ (List.mem_singleton.2 rfl)
     ·have hi2:ints (out++[l[j].1])=ints out++[.int .i64 l[j].1]:=by rw[ints,List.map_append];rfl
      rw[hi2,List.length_append,List.length_singleton]
      exact S.tl.tl
    ·refine hK3 _ _ ⟨v,out,rfl,hU,hlt,λk hk hkj hx=>?_,S.tl⟩
     rcases Nat.lt_or_ge k j with h1|h1
     ·exact hdn k hk h1 hx
     ·obtain rfl:k=j:=by omega
      rw[gqg hlt]at hx
      have hx:out[i]=l[k].2:=by simpa using hx
      rw[hx]at hb
      simpa using hb
   ·repeat clear S
    rintro _ w9 ⟨v',out',rfl,hU',hlt',hdn',S⟩ d
    rw[gdz]
    refine gp_ ?_
    exact hK5 ((v',out'),j+1) _ ⟨hU',hlt',hltj,hdn',S⟩ (by show l.length-(j+1)<l.length-j;omega)
  ·obtain rfl:j=l.length:=by omega
   have hn:=hU.next hlt λc hc hx=>by
    obtain⟨k,hk,rfl⟩:=List.getElem_of_mem hc
    exact hdn k hk hk hx
   refine gp_ ?_
   exact hK4 ((v,out),i+1) _ ⟨hn,S⟩ (by show n-(i+1)<n-i;omega)
 ·obtain rfl:i=out.length:=by omega
  refine aao S (by show out.length<4611686018427387904;omega) λw9 S=>?_
  obtain⟨s,T,hs,_,ha⟩:=S.doneRow (l:=kJ out) kY (by decide) (by rw[jL])
  rw[afM k5 hU]at hs
  exact h _ s _ T.ext (StX.newOf (q:=s) T λb o ho=>(ha b o ho).resolve_right id) hs
noncomputable def YO(R:List xE)(x:xE):Bool:=!(BM.mayB x.1 x.2)||decide (x.1≠(R.headD (0,[])).1)
def abL(R:List xE)(a:Int):xE:=R.getD a.toNat (0,[])
def YP(R:List xE)(c:CnD):List Nat:=lackL (abL R c.1).1 (abL R c.1).2 (abL R c.2).2
theorem acw(h:a.toNat<R.length):abL R a=R[a.toNat]:=by
 rw[abL,List.getD_eq_getElem?_getD,gqg h,Option.getD_some]
theorem ac7{b3:Nat}{p:Option Addr}{cap:Nat}{x:xE}{c:List Value}{K:Value→World→Prop}(hr:Holds r w)(h3:Ob r λw=>w.cell? ⟨b3,0,none⟩=some (.slice p R.length cap))(hR:SlG 2 r (RwbC r) (.slice p R.length cap) R)(hn:R≠[])
  (hx:RwbC r c x) (h:∀w',Ext w w'→K (.bool (YO R x)) w'):zw Tryz.prog (.func (.func Tryz.jG) #[] #[.pointer (some ⟨b3,0,none⟩)]) #[.agg c.toArray] w K:=by
 refine Yx (by kernel_rfl) ?_
 refine Tryz.Y8 ?_
 unfold Tryz.jN
 have hx0:=hx
 obtain⟨q,capq,rfl,_⟩:=hx
 have hl0:0<R.length:=List.length_pos_iff.2 hn
 have S:=St.start hr
 refine S.box λb2 w1 S=>?_
 have S:=S.go (Ext.drew _)
 have S:StX noX w r _ [.cell b2 [.int .i64 x.1,.slice q x.2.length capq] 48]:=S
 refine S.ldB (b:=b2) ?_ rfl
 refine vy (W:=x.1) (ws:=x.2) S.holds hx0 λw3 e3=>?_
 have S:=S.go e3
 refine gp_ ?_
 have hh:(R.headD (0,[])).1=R[0].1:=by rw[List.headD_eq_head?_getD,List.head?_eq_getElem?,gqg hl0,Option.getD_some]
 refine zj (c:=decide (x.1≠(R.headD (0,[])).1)) (λ_ K2 hK2=>?_) ?_
 ·obtain⟨b,off,c,hE,hcl,hcR,hcell⟩:=hR.get (by decide) hl0
  obtain⟨pw,cw,rfl,_⟩:=hcR
  rw[hh]at hK2
  refine gg_ ?_
  refine zi (S.at h3) ?_
  rw[hE]
  refine gg_ ?_
  refine zi (v:=.int .i64 R[0].1) (by simpa using S.at (hcell 0 _ rfl)) ?_
  refine gp_ ?_
  exact hK2
 exact h _ S.ext
theorem Q7{v vr:Value}{K:Value→World→Prop}(hr:Holds r w)(hl:SlG 2 r CnC v l)(hb:l.length≤1000000)(hR:SlG 2 r (RwbC r) vr R)(hRb:R.length≤1000000)(hT:TabG r)
  (h1:R.any (YO R)=true∨YN l R.length=false→∀w',Ext w w'→K (.tuple #[.int .i64 0,.int .i64 0,.bool false,.int .i64 2]) w')
  (h2:R.any (YO R)=false→XD l R.length=true→∀(i:Nat)(hi:i<l.length),(∀k (hk:k<l.length),k<i→YP R l[k]=[])→YP R l[i]≠[]→∀w',Ext w w'→K (.tuple #[.int .i64 (i:Nat),.int .i64 ((YP R l[i]).headD 0:Nat),.bool false,.int .i64 0]) w')
  (h3:R.any (YO R)=false→XD l R.length=true→(∀k (hk:k<l.length),YP R l[k]=[])→∀w',Ext w w'→K (.tuple #[.int .i64 0,.int .i64 0,.bool true,.int .i64 0]) w'):
  ze Tryz.prog Tryz.qh #[v,vr] w K:=by
 refine Tryz.Qc ?_
 unfold Tryz.Zg
 obtain⟨p,cap,rfl,_,_⟩:=hl.shape
 obtain⟨pr,capr,rfl,_,_⟩:=hR.shape
 have S:=St.start hr
 refine S.box λb3 w1 S=>?_
 have S:StX noX w r w1 [.cell b3 [.slice pr R.length capr] 44]:=S
 have S:=S.frzAt b3
 have hT:TabG (r.or (Go.Sh.one b3 [.slice pr R.length capr] 44)):=hT.up
 have hl:SlG 2 (r.or (Go.Sh.one b3 [.slice pr R.length capr] 44)) CnC (.slice p l.length cap) l:=hl.cells
 have hR:SlG 2 (r.or (Go.Sh.one b3 [.slice pr R.length capr] 44)) (RwbC (r.or (Go.Sh.one b3 [.slice pr R.length capr] 44))) (.slice pr R.length capr) R:=hR.up' inferInstance λ_ _ h=>h.up
 have hc3:Ob (r.or (Go.Sh.one b3 [.slice pr R.length capr] 44)) λw=>w.cell? ⟨b3,0,none⟩=some (.slice pr R.length capr):=xe (c:=[.slice pr R.length capr]) (T:=44) rfl
 generalize r.or (Go.Sh.one b3 [.slice pr R.length capr] 44)=ρ at S hT hl hR hc3
 refine zi (S.at hc3) ?_
 refine gp_ ?_
 refine XF (f:=YO R) S.holds hR (by omega) (λx hx c w K hr hc h=>ac7 hr hc3 hR (List.ne_nil_of_mem hx) hc h) λw2 e2=>?_
 have S:=S.go e2
 refine xx (c:=!YN l R.length) (λ_ K2 hK2=>?_) λw5 e5=>?_
 ·refine zi (S.at hc3) ?_
  refine gp_ ?_
  refine Zk S.holds hl (by omega) λw5 e5=>?_
  refine gp_ ?_
  exact hK2 _ e5
 have S:=S.go e5
 refine c_b (λhbad=>?_) (λhgood=>?_)
 ·refine h1 ?_ _ S.ext
  simpa using hbad
 simp only[Bool.or_eq_false_iff,Bool.not_eq_false']at hgood
 obtain⟨k1,k2⟩:=hgood
 rw[ad1]at k2
 clear h1
 refine gg_ ?_
 refine zq (ι:=Nat) (λi=>[.int .i64 (i:Nat)]) (λi w'=>i≤l.length∧(∀k (hk:k<l.length),k<i→YP R l[k]=[])∧StX noX w ρ w' []) (λi=>l.length-i) 0 rfl ⟨Nat.zero_le _,λk hk h0=>absurd h0 (Nat.not_lt_zero _),S⟩ ?_
 repeat clear S
 rintro i d w6 ⟨hi,hno,S⟩ K4 hK4
 rw[gdz]
 refine gp_ ?_
 refine zo (λhlt=>?_) (λhge=>?_)
 ·have hlt:i<l.length:=by omega
  have hix:=Zd.1 k2 _ (List.getElem_mem hlt)
  obtain⟨b,off,hpE,_,_,_,hcell⟩:=Zi hl hlt
  rw[hpE]
  refine gg_ ?_
  refine zA (n:=2) rfl (λj v hj=>by rw[tnc];exact S.at (hcell j v hj)) ?_
  refine S.al λb9 w7 S=>?_
  refine S.stB (b:=b9) λw8 S=>?_
  have S:=S.go (Ext.drew _)
  have S:StX noX w ρ w8.drew [.cell b9 [.int .i64 l[i].1,.int .i64 l[i].2] 36]:=S
  have ha:l[i].1.toNat<R.length:=by omega
  have hb2:l[i].2.toNat<R.length:=by omega
  obtain⟨ba,oa,ca,hEa,_,hca,hcella⟩:=hR.get (by decide) ha
  obtain⟨bb,ob,cb,hEb,_,hcb,hcellb⟩:=hR.get (by decide) hb2
  have hca0:=hca
  have hcb0:=hcb
  obtain⟨pa,wa,rfl,_⟩:=hca
  obtain⟨pb,wb,rfl,_⟩:=hcb
  refine zi (S.at hc3) ?_
  refine gg_ ?_
  rw[hEa]
  refine gg_ ?_
  refine zA (n:=2) rfl (λj v hj=>S.at (hcella j v hj)) ?_
  refine zi (S.at hc3) ?_
  refine gg_ ?_
  rw[hEb]
  refine gg_ ?_
  refine zA (n:=2) rfl (λj v hj=>S.at (hcellb j v hj)) ?_
  have hma:∀x∈R,BM.mayB x.1 x.2=true∧x.1=(R.headD (0,[])).1:=λx hx=>by
   have:=List.any_eq_false.1 k1 x hx
   rw[YO]at this
   simpa using this
  obtain⟨m1,m2⟩:=hma _ (List.getElem_mem ha)
  obtain⟨m3,m4⟩:=hma _ (List.getElem_mem hb2)
  refine abB S.holds hca0 hcb0 hT (λhn=>absurd ⟨m1,m3,by rw[m2,m4]⟩ hn) λ_ _ _ w9 e9=>?_
  have S:=S.go e9
  have hlk:lackL R[l[i].1.toNat].1 R[l[i].1.toNat].2 R[l[i].2.toNat].2=YP R l[i]:=by rw[YP,acw ha,acw hb2]
  rw[hlk]
  unfold abA
  refine gS_ ?_
  refine c_b (λhy=>?_) (λhn=>?_)
  ·exact h2 k1 k2 i hlt hno (by intro e;rw[e]at hy;cases hy) _ S.ext
  ·refine gp_ ?_
   refine hK4 (i+1) _ ⟨hlt,λk hk hki=>?_,S.tl⟩ (by omega)
   rcases Nat.lt_or_ge k i with h|h
   ·exact hno k hk h
   ·obtain rfl:k=i:=by omega
    simpa using hn
 ·obtain rfl:i=l.length:=by omega
  exact h3 k1 k2 (λk hk=>hno k hk hk) _ S.ext
end Go.Proofs
end
section
namespace Go.Proofs.Tryz
open Go.Sh
end Go.Proofs.Tryz
end
section
namespace Go.Proofs
open Go.Sh Go.RowKit
end Go.Proofs
end
section
namespace Go.Proofs
open Go.Sh
end Go.Proofs
end
section
namespace Go.Proofs
open Go.Sh Go.RowKit
end Go.Proofs
end
section
namespace Go.Proofs
open Go.Sh
end Go.Proofs
end
section
namespace Go.Proofs
open Go.Sh Go.RowKit
end Go.Proofs
end
section
namespace Go.Proofs.Tryz
open Go.Sh
variable {w:World} {K:VW} {t0:Value}
def ja(t0 t1:Value)(w:World)(K:VW):Prop:=
 pw w (Instr.box 43 t0) λt2 w1=>
 pw w1 (Instr.box 43 t1) λt3 w2=>
 lo w2 43 t2 λt18=>ca xb #[t18,(i6 60)] w2 λt19 w3=>
 pp (Op.unary .not t19) λt20=>za (λK4=>gIf t20 false (lo w3 43 t3 λt22=>ca xb #[t22,(i6 60)] w3 λt23 w8=>
 pp (Op.unary .not t23) λt24=>K4 [t24] w8) (K4 [u_] w3)) (λs5 _d6 w7=>
 zc t20 tr_ (s5.getD 0 u_) λt25=>zd t25 (ca xg #[] w7 λt26 w9=>
 K t26 w9) (lo w7 43 t2 λt28=>lo w7 43 t2 λt29=>ca yQ #[t28,t29] w7 λt30 w10=>
 pe t30 0 λt31=>pe t30 1 λt32=>zB [(i6 0)] w10 (λs12 _d13 w14 K11=>
 pp (Builtin.len_ #[28] 3 #[t31]) λt35=>bf .lss 3 (s12.getD 0 u_) t35 λt36=>zd t36 (px 28 t31 (s12.getD 0 u_) λt41=>fl w14.drew t41 36 0 3 λt43=>px 28 t31 (s12.getD 0 u_) λt46=>fl w14.drew t46 36 1 3 λt48=>bf .neq 3 t43 t48 λt49=>zd t49 (K fa_ w14.drew) (bt .add 3 (s12.getD 0 u_) (i6 1) λt38=>K11 [t38] w14.drew)) (bt .neq 29 t32 (i6 0) λt51=>zd t51 (pp (Builtin.len_ #[28] 3 #[t31]) λt53=>bt .eql 3 t53 (i6 0) λt54=>za (λK15=>gIf t54 true (ca xg #[] w14 λt56 w19=>
 K15 [t56] w19) (K15 [u_] w14)) (λs16 _d17 w18=>
 zc t54 (s16.getD 0 u_) fa_ λt57=>K t57 w18)) (lo w14 43 t2 λt59=>lo w14 43 t3 λt60=>ca yQ #[t59,t60] w14 λt61 w20=>
 pe t61 0 λt62=>pe t61 1 λt63=>lo w20 43 t3 λt65=>lo w20 43 t2 λt66=>ca yQ #[t65,t66] w20 λt67 w21=>
 pe t67 0 λt68=>pe t67 1 λt69=>bt .eql 29 t63 (i6 0) λt71=>lo w21 43 t2 λt72=>lo w21 43 t3 λt73=>ca yq #[t72,t73] w21 λt74 w22=>
 bf .neq 4 t71 t74 λt75=>za (λK23=>gIf t75 false (bt .eql 29 t69 (i6 0) λt78=>bt .eql 29 t63 (i6 0) λt80=>bf .neq 4 t78 t80 λt81=>K23 [t81] w22) (K23 [u_] w22)) (λs24 _d25 w26=>
 zc t75 tr_ (s24.getD 0 u_) λt82=>zd t82 (K fa_ w26) (bt .neq 29 t63 (i6 0) λt84=>zd t84 (ca xg #[] w26 λt85 w27=>
 K t85 w27) (lo w26.drew 43 t2 λt86=>lo w26.drew 43 t3 λt88=>ca yb #[t86] w26.drew λt87 w28=>
 Ext w26.drew w28∧
 ca yb #[t88] w28 λt89 w29=>
 zB [(i6 0)] w29 (λs31 _d32 w33 K30=>
 pp (Builtin.len_ #[55] 3 #[t87]) λt92=>bf .lss 3 (s31.getD 0 u_) t92 λt93=>zd t93 (zB [fa_,(i6 0)] w33 (λs35 _d36 w37 K34=>
 pp (Builtin.len_ #[28] 3 #[t62]) λt98=>bf .lss 3 (s35.getD 1 u_) t98 λt99=>zd t99 (za (λK38=>gIf (s35.getD 0 u_) false (xl w37.drew 28 t62 (s35.getD 1 u_) 36 λt107=>xl w37.drew 55 t87 (s31.getD 0 u_) 3 λt111=>xl w37.drew 55 t89 (s31.getD 0 u_) 3 λt115=>pp (Instr.build 36 #[(0,t111),(1,t115)]) λt116=>pq w37.drew (zJ .eql 36 false t107 t116) λt117=>K38 [t117] w37.drew) (K38 [u_] w37.drew)) (λs39 _d40 w41=>
 zc (s35.getD 0 u_) tr_ (s39.getD 0 u_) λt118=>bt .add 3 (s35.getD 1 u_) (i6 1) λt101=>K34 [t118,t101] w41)) (zB [fa_,(i6 0)] w37 (λs43 _d44 w45 K42=>
 pp (Builtin.len_ #[28] 3 #[t68]) λt121=>bf .lss 3 (s43.getD 1 u_) t121 λt122=>zd t122 (za (λK46=>gIf (s43.getD 0 u_) false (xl w45.drew 28 t68 (s43.getD 1 u_) 36 λt130=>xl w45.drew 55 t89 (s31.getD 0 u_) 3 λt134=>xl w45.drew 55 t87 (s31.getD 0 u_) 3 λt138=>pp (Instr.build 36 #[(0,t134),(1,t138)]) λt139=>pq w45.drew (zJ .eql 36 false t130 t139) λt140=>K46 [t140] w45.drew) (K46 [u_] w45.drew)) (λs47 _d48 w49=>
 zc (s43.getD 0 u_) tr_ (s47.getD 0 u_) λt141=>bt .add 3 (s43.getD 1 u_) (i6 1) λt124=>K42 [t141,t124] w49)) (pp (Op.unary .not (s35.getD 0 u_)) λt143=>za (λK50=>gIf t143 false (pp (Op.unary .not (s43.getD 0 u_)) λt146=>K50 [t146] w45) (K50 [u_] w45)) (λs51 _d52 w53=>
 zc t143 tr_ (s51.getD 0 u_) λt147=>zd t147 (K fa_ w53) (bt .add 3 (s31.getD 0 u_) (i6 1) λt95=>K30 [t95] w53))))))) (pp (Builtin.len_ #[28] 3 #[t62]) λt149=>pp (Builtin.len_ #[55] 3 #[t87]) λt151=>bf .geq 3 t149 t151 λt152=>za (λK54=>gIf t152 true (pp (Builtin.len_ #[28] 3 #[t68]) λt155=>pp (Builtin.len_ #[28] 3 #[t62]) λt157=>bf .eql 3 t155 t157 λt158=>K54 [t158] w33) (K54 [u_] w33)) (λs55 _d56 w57=>
 zc t152 (s55.getD 0 u_) fa_ λt159=>za (λK58=>gIf t159 true (ca xg #[] w57 λt161 w62=>
 K58 [t161] w62) (K58 [u_] w57)) (λs59 _d60 w61=>
 zc t159 (s59.getD 0 u_) fa_ λt162=>K t162 w61))))))))))))
theorem Yr{t1:Value}(h:ja t0 t1 w K):ze prog qP #[t0,t1] w K:=
 okC false (.s (.r (rz 3 0 10)) (.s (.s (.r (ra 4 0 9 (.grp 21 false (ri 3 4 9) [24] (rz 1 7 0)))) (.c (.s (.r (rz 2 0 2)) (.n)) (.n))) (.s (.r (rz 8 0 37)) (.s (.s (.r (rz 1 0 0)) (.b (.lp [7] (.s (.s (.r (rz 4 0 0)) (.c (.n) (.n))) (.s (.b (.s (.r (rz 11 0 262400)) (.c (.s (.r (rz 1 0 0)) (.n)) (.n)))) (.r (rz 3 0 0))))))) (.s (.s (.r (rz 2 0 0)) (.c (.s (.r (ra 4 0 0 (.grp 55 true (ri 1 4 2) [56] (rz 2 5 0)))) (.n)) (.n))) (.s (.r (rz 8 0 37)) (.s (.r (rz 8 0 37)) (.s (.s (.r (ra 7 0 592 (.grp 76 false (ri 5 7 0) [81] (rz 1 12 0)))) (.c (.s (.r (rz 1 0 0)) (.n)) (.n))) (.s (.s (.r (rz 2 0 0)) (.c (.s (.r (rz 2 0 2)) (.n)) (.n))) (.s (.r (ra 1 0 1 (ra 1 2 1 (ra 1 1 3 (rz 3 3 2))))) (.s (.s (.r (rz 1 0 0)) (.b (.lp [13] (.s (.s (.r (rz 4 0 0)) (.c (.n) (.n))) (.s (.b (.s (.r (rz 2 0 0)) (.s (.s (.r (rz 1 0 0)) (.b (.lp [14,16] (.s (.s (.r (rz 4 0 0)) (.c (.n) (.n))) (.s (.b (.r (ra 2 0 0 (.grp 103 false (ri 14 2 71319616) [117] (rz 2 16 0))))) (.r (rz 3 0 0))))))) (.s (.s (.r (rz 1 0 0)) (.b (.lp [15,17] (.s (.s (.r (rz 4 0 0)) (.c (.n) (.n))) (.s (.b (.r (ra 2 0 0 (.grp 126 false (ri 14 2 71319616) [140] (rz 2 16 0))))) (.r (rz 3 0 0))))))) (.s (.r (ra 3 0 0 (.grp 144 false (ri 2 3 0) [146] (rz 1 5 0)))) (.c (.s (.r (rz 1 0 0)) (.n)) (.n))))))) (.r (rz 3 0 0))))))) (.s (.r (ra 6 0 0 (.grp 153 true (ri 5 6 0) [158] (ra 2 11 0 (.grp 160 true (ri 1 13 2) [161] (rz 2 14 0)))))) (.n))))))))))))) func5 rfl (by kernel_rfl) (by kernel_rfl) h
def Y3(w:World)(K:VW):Prop:=
 ca vM #[] w λt14 w1=>
 pw w1 (Instr.alloc 25 true (.tuple #[])) λt1 w2=>
 so w2 25 t1 t14 λw3=>lo w3 25 t1 λt16=>ca qO #[t16,(i6 0)] w3 λt17 w4=>
 pe t17 0 λt18=>pe t17 1 λt19=>lo w4 25 t1 λt21=>ca vL #[t21,(i6 0),(i6 0)] w4 λt22 w5=>
 pe t22 0 λt23=>pe t22 1 λt24=>ca vh #[(i6 1)] w5 λt26 w6=>
 ca vh #[(i6 2)] w6 λt27 w7=>
 ca yQ #[t26,t27] w7 λt28 w8=>
 pe t28 0 λt29=>pe t28 1 λt30=>ca jm #[t18,(i6 2),(i6 0)] w8 λt33 w9=>
 pe t33 0 λt34=>pe t33 1 λt35=>pp (Instr.build 48 #[]) λt38=>pp (Instr.build 48 #[]) λt39=>pw w9 (Instr.buildSlice 44 2 #[(0,t38),(1,t39)]) λt40 w10=>
 ca qh #[t18,t40] w10 λt41 w11=>
 pe t41 0 λ_t42=>pe t41 1 λ_t43=>pe t41 2 λt44=>pe t41 3 λt45=>bt .eql 29 t19 (i6 0) λt47=>za (λK12=>gIf t47 true (pp (Builtin.len_ #[28] 3 #[t18]) λt50=>bt .eql 3 t50 (i6 1) λt51=>K12 [t51] w11) (K12 [u_] w11)) (λs13 _d14 w15=>
 zc t47 (s13.getD 0 u_) fa_ λt52=>za (λK16=>gIf t52 true (xl w15 28 t18 (i6 0) 36 λt56=>pp (Instr.build 36 #[(0,(i6 1)),(1,(i6 0))]) λt57=>pq w15 (zJ .eql 36 false t56 t57) λt58=>K16 [t58] w15) (K16 [u_] w15)) (λs17 _d18 w19=>
 zc t52 (s17.getD 0 u_) fa_ λt59=>za (λK20=>gIf t59 true (bt .eql 29 t24 (i6 0) λt62=>K20 [t62] w19) (K20 [u_] w19)) (λs21 _d22 w23=>
 zc t59 (s21.getD 0 u_) fa_ λt63=>za (λK24=>gIf t63 true (pp (Builtin.len_ #[28] 3 #[t23]) λt66=>bt .eql 3 t66 (i6 1) λt67=>K24 [t67] w23) (K24 [u_] w23)) (λs25 _d26 w27=>
 zc t63 (s25.getD 0 u_) fa_ λt68=>za (λK28=>gIf t68 true (bt .eql 29 t30 (i6 0) λt71=>K28 [t71] w27) (K28 [u_] w27)) (λs29 _d30 w31=>
 zc t68 (s29.getD 0 u_) fa_ λt72=>za (λK32=>gIf t72 true (pp (Builtin.len_ #[28] 3 #[t29]) λt75=>bt .eql 3 t75 (i6 1) λt76=>K32 [t76] w31) (K32 [u_] w31)) (λs33 _d34 w35=>
 zc t72 (s33.getD 0 u_) fa_ λt77=>za (λK36=>gIf t77 true (bt .eql 29 t35 (i6 0) λt80=>K36 [t80] w35) (K36 [u_] w35)) (λs37 _d38 w39=>
 zc t77 (s37.getD 0 u_) fa_ λt81=>za (λK40=>gIf t81 true (pp (Builtin.len_ #[55] 3 #[t34]) λt84=>bt .eql 3 t84 (i6 2) λt85=>K40 [t85] w39) (K40 [u_] w39)) (λs41 _d42 w43=>
 zc t81 (s41.getD 0 u_) fa_ λt86=>za (λK44=>gIf t86 true (K44 [t44] w43) (K44 [u_] w43)) (λs45 _d46 w47=>
 zc t86 (s45.getD 0 u_) fa_ λt89=>za (λK48=>gIf t89 true (bt .eql 29 t45 (i6 0) λt92=>K48 [t92] w47) (K48 [u_] w47)) (λs49 _d50 w51=>
 zc t89 (s49.getD 0 u_) fa_ λt93=>K t93 w51))))))))))
theorem VH(h:Y3  w K):ze prog xg #[] w K:=
 okC false (.s (.r (rz 1 0 0)) (.s (.r (rz 3 0 42)) (.s (.r (rz 7 0 9)) (.s (.r (rz 7 0 9)) (.s (.r (rz 8 0 42)) (.s (.r (rz 7 0 8)) (.s (.r (rz 14 0 640)) (.s (.r (ra 3 0 0 (.grp 48 true (ri 3 3 0) [51] (ra 2 6 0 (.grp 53 true (ri 5 8 272) [58] (ra 2 13 0 (.grp 60 true (ri 2 15 0) [62] (ra 2 17 0 (.grp 64 true (ri 3 19 0) [67] (ra 2 22 0 (.grp 69 true (ri 2 24 0) [71] (ra 2 26 0 (.grp 73 true (ri 3 28 0) [76] (ra 2 31 0 (.grp 78 true (ri 2 33 0) [80] (ra 2 35 0 (.grp 82 true (ri 3 37 0) [85] (ra 2 40 0 (.grp 87 true (ri 1 42 0) [88] (ra 2 43 0 (.grp 90 true (ri 2 45 0) [92] (rz 2 47 0)))))))))))))))))))))) (.n))))))))) func12 rfl (by kernel_rfl) (by kernel_rfl) h
def qm(t0 t1:Value)(w:World)(K:VW):Prop:=
 pw w (Instr.box 43 t0) λt2 w1=>
 bt .eql 3 t1 (i6 0) λt7=>za (λK2=>gIf t7 false (fl w1 t2 43 4 41 λt10=>pp (Builtin.len_ #[41] 3 #[t10]) λt11=>bt .gtr 3 t11 (i6 3) λt12=>K2 [t12] w1) (K2 [u_] w1)) (λs3 _d4 w5=>
 zc t7 tr_ (s3.getD 0 u_) λt13=>zd t13 (K fa_ w5) (zB [(i6 0)] w5 (λs7 _d8 w9 K6=>
 fl w9 t2 43 4 41 λt16=>pp (Builtin.len_ #[41] 3 #[t16]) λt17=>bf .lss 3 (s7.getD 0 u_) t17 λt18=>zd t18 (fl w9 t2 43 4 41 λt22=>xl w9 41 t22 (s7.getD 0 u_) 43 λt25=>bt .sub 3 t1 (i6 1) λt27=>pp (Builtin.min_ #[3,3] 3 #[(s7.getD 0 u_),(i6 1)]) λt29=>bt .mul 3 (i6 57) t29 λt30=>bt .sub 3 (i6 60) t30 λt31=>pp (Builtin.min_ #[3,3] 3 #[t27,t31]) λt32=>ca xb #[t25,t32] w9 λt33 w10=>
 pp (Op.unary .not t33) λt34=>zd t34 (K fa_ w10) (bt .add 3 (s7.getD 0 u_) (i6 1) λt20=>K6 [t20] w10)) (K tr_ w9))))
theorem j8{t1:Value}(h:qm t0 t1 w K):ze prog xb #[t0,t1] w K:=
 okC false (.s (.r (rz 2 0 2)) (.s (.s (.r (ra 3 0 0 (.grp 8 false (ri 4 3 4) [12] (rz 1 7 0)))) (.c (.s (.r (rz 1 0 0)) (.n)) (.n))) (.s (.s (.r (rz 1 0 0)) (.b (.lp [5] (.s (.s (.r (rz 5 0 16)) (.c (.n) (.n))) (.s (.b (.s (.r (rz 14 0 33554692)) (.c (.s (.r (rz 1 0 0)) (.n)) (.n)))) (.r (rz 3 0 0))))))) (.s (.r (rz 1 0 0)) (.n))))) func18 rfl (by kernel_rfl) (by kernel_rfl) h
def XP(w:World)(K:VW):Prop:=
 pw w (Instr.alloc 25 true (.tuple #[])) λt0 w1=>
 pw w1 (Instr.buildSlice 78 1 #[(0,(i6 (-1)))]) λt2 w2=>
 pp (Instr.build 80 #[(0,(i6 2)),(1,t2)]) λt3=>pw w2 (Instr.alloc 80 true (.tuple #[])) λt1 w3=>
 so w3 80 t1 t3 λw4=>pp (Instr.build 80 #[(0,(i6 2))]) λt9=>pp (Instr.build 80 #[(0,(i6 1))]) λt10=>pp (Instr.build 96 #[(0,(Value.int .u8 4)),(1,t9),(6,t10),(7,tr_),(10,(i6 1))]) λt11=>pp (Instr.build 80 #[(0,(i6 1))]) λt12=>lo w4.drew 80 t1 λt15=>pp (Instr.build 96 #[(0,(Value.int .u8 14))]) λt18=>((ca y0 #[] w4.drew λt4 w5=>
 Ext w4.drew w5∧
 ((ca y0 #[] w5 λt5 w6=>
 Ext w5 w6∧
 ((ca xq #[tr_] w6 λt6 w7=>
 Ext w6 w7∧
 ((pw w7 (Instr.buildSlice 41 3 #[(0,t4),(1,t5),(2,t6)]) λt7 w8=>
 Ext w7 w8∧
 ((pw w8 (Instr.makeSlice 98 (i6 3) (i6 3)) λt8 w9=>
 Ext w8 w9∧
 ca zk #[(i6 2)] w9 λt13 w10=>
 Ext w9 w10∧
 pp (Instr.build 96 #[(0,(Value.int .u8 1)),(1,t12),(2,t13),(10,(i6 2))]) λt14=>ca zk #[(i6 3)] w10 λt16 w11=>
 Ext w10 w11∧
 pp (Instr.build 96 #[(0,(Value.int .u8 1)),(1,t15),(2,t16),(10,(i6 3))]) λt17=>pw w11 (Instr.buildSlice 99 4 #[(0,t11),(1,t14),(2,t17),(3,t18)]) λt19 w12=>
 pp (Instr.build 101 #[(4,t7),(5,t8),(6,t19)]) λt20=>pw w12 (Instr.buildSlice 23 1 #[(0,t20)]) λt21 w13=>
 pp (Instr.build 25 #[(1,t21)]) λt22=>so w13 25 t0 t22 λw14=>pq w14 (zf 25 t0) λr15=>K r15 w14)∧
 (ca zk #[(i6 2)] w8 λt13_17 w16=>
 Ext w8 w16∧
 pp (Instr.build 96 #[(0,(Value.int .u8 1)),(1,t12),(2,t13_17),(10,(i6 2))]) λt14_18=>((pw w16 (Instr.makeSlice 98 (i6 3) (i6 3)) λt8_20 w19=>
 Ext w16 w19∧
 ca zk #[(i6 3)] w19 λt16_22 w21=>
 Ext w19 w21∧
 pp (Instr.build 96 #[(0,(Value.int .u8 1)),(1,t15),(2,t16_22),(10,(i6 3))]) λt17_23=>pw w21 (Instr.buildSlice 99 4 #[(0,t11),(1,t14_18),(2,t17_23),(3,t18)]) λt19_25 w24=>
 pp (Instr.build 101 #[(4,t7),(5,t8_20),(6,t19_25)]) λt20_26=>pw w24 (Instr.buildSlice 23 1 #[(0,t20_26)]) λt21_28 w27=>
 pp (Instr.build 25 #[(1,t21_28)]) λt22_29=>so w27 25 t0 t22_29 λw30=>pq w30 (zf 25 t0) λr31=>K r31 w30)∧
 (ca zk #[(i6 3)] w16 λt16_33 w32=>
 Ext w16 w32∧
 pp (Instr.build 96 #[(0,(Value.int .u8 1)),(1,t15),(2,t16_33),(10,(i6 3))]) λt17_34=>((pw w32 (Instr.makeSlice 98 (i6 3) (i6 3)) λt8_36 w35=>
 Ext w32 w35∧
 pw w35 (Instr.buildSlice 99 4 #[(0,t11),(1,t14_18),(2,t17_34),(3,t18)]) λt19_38 w37=>
 pp (Instr.build 101 #[(4,t7),(5,t8_36),(6,t19_38)]) λt20_39=>pw w37 (Instr.buildSlice 23 1 #[(0,t20_39)]) λt21_41 w40=>
 pp (Instr.build 25 #[(1,t21_41)]) λt22_42=>so w40 25 t0 t22_42 λw43=>pq w43 (zf 25 t0) λr44=>K r44 w43)∧
 (pw w32 (Instr.buildSlice 99 4 #[(0,t11),(1,t14_18),(2,t17_34),(3,t18)]) λt19_46 w45=>
 pw w45 (Instr.makeSlice 98 (i6 3) (i6 3)) λt8_48 w47=>
 Ext w45 w47∧
 pp (Instr.build 101 #[(4,t7),(5,t8_48),(6,t19_46)]) λt20_49=>pw w47 (Instr.buildSlice 23 1 #[(0,t20_49)]) λt21_51 w50=>
 pp (Instr.build 25 #[(1,t21_51)]) λt22_52=>so w50 25 t0 t22_52 λw53=>pq w53 (zf 25 t0) λr54=>K r54 w53)))))))∧
 (((pw w7 (Instr.makeSlice 98 (i6 3) (i6 3)) λt8_56 w55=>
 Ext w7 w55∧
 ((pw w55 (Instr.buildSlice 41 3 #[(0,t4),(1,t5),(2,t6)]) λt7_58 w57=>
 Ext w55 w57∧
 ca zk #[(i6 2)] w57 λt13_60 w59=>
 Ext w57 w59∧
 pp (Instr.build 96 #[(0,(Value.int .u8 1)),(1,t12),(2,t13_60),(10,(i6 2))]) λt14_61=>ca zk #[(i6 3)] w59 λt16_63 w62=>
 Ext w59 w62∧
 pp (Instr.build 96 #[(0,(Value.int .u8 1)),(1,t15),(2,t16_63),(10,(i6 3))]) λt17_64=>pw w62 (Instr.buildSlice 99 4 #[(0,t11),(1,t14_61),(2,t17_64),(3,t18)]) λt19_66 w65=>
 pp (Instr.build 101 #[(4,t7_58),(5,t8_56),(6,t19_66)]) λt20_67=>pw w65 (Instr.buildSlice 23 1 #[(0,t20_67)]) λt21_69 w68=>
 pp (Instr.build 25 #[(1,t21_69)]) λt22_70=>so w68 25 t0 t22_70 λw71=>pq w71 (zf 25 t0) λr72=>K r72 w71)∧
 (ca zk #[(i6 2)] w55 λt13_74 w73=>
 Ext w55 w73∧
 pp (Instr.build 96 #[(0,(Value.int .u8 1)),(1,t12),(2,t13_74),(10,(i6 2))]) λt14_75=>((pw w73 (Instr.buildSlice 41 3 #[(0,t4),(1,t5),(2,t6)]) λt7_77 w76=>
 Ext w73 w76∧
 ca zk #[(i6 3)] w76 λt16_79 w78=>
 Ext w76 w78∧
 pp (Instr.build 96 #[(0,(Value.int .u8 1)),(1,t15),(2,t16_79),(10,(i6 3))]) λt17_80=>pw w78 (Instr.buildSlice 99 4 #[(0,t11),(1,t14_75),(2,t17_80),(3,t18)]) λt19_82 w81=>
 pp (Instr.build 101 #[(4,t7_77),(5,t8_56),(6,t19_82)]) λt20_83=>pw w81 (Instr.buildSlice 23 1 #[(0,t20_83)]) λt21_85 w84=>
 pp (Instr.build 25 #[(1,t21_85)]) λt22_86=>so w84 25 t0 t22_86 λw87=>pq w87 (zf 25 t0) λr88=>K r88 w87)∧
 (ca zk #[(i6 3)] w73 λt16_90 w89=>
 Ext w73 w89∧
 pp (Instr.build 96 #[(0,(Value.int .u8 1)),(1,t15),(2,t16_90),(10,(i6 3))]) λt17_91=>((pw w89 (Instr.buildSlice 41 3 #[(0,t4),(1,t5),(2,t6)]) λt7_93 w92=>
 Ext w89 w92∧
 pw w92 (Instr.buildSlice 99 4 #[(0,t11),(1,t14_75),(2,t17_91),(3,t18)]) λt19_95 w94=>
 pp (Instr.build 101 #[(4,t7_93),(5,t8_56),(6,t19_95)]) λt20_96=>pw w94 (Instr.buildSlice 23 1 #[(0,t20_96)]) λt21_98 w97=>
 pp (Instr.build 25 #[(1,t21_98)]) λt22_99=>so w97 25 t0 t22_99 λw100=>pq w100 (zf 25 t0) λr101=>K r101 w100)∧
 (pw w89 (Instr.buildSlice 99 4 #[(0,t11),(1,t14_75),(2,t17_91),(3,t18)]) λt19_103 w102=>
 pw w102 (Instr.buildSlice 41 3 #[(0,t4),(1,t5),(2,t6)]) λt7_105 w104=>
 Ext w102 w104∧
 pp (Instr.build 101 #[(4,t7_105),(5,t8_56),(6,t19_103)]) λt20_106=>pw w104 (Instr.buildSlice 23 1 #[(0,t20_106)]) λt21_108 w107=>
 pp (Instr.build 25 #[(1,t21_108)]) λt22_109=>so w107 25 t0 t22_109 λw110=>pq w110 (zf 25 t0) λr111=>K r111 w110)))))))∧
 (ca zk #[(i6 2)] w7 λt13_113 w112=>
 Ext w7 w112∧
 pp (Instr.build 96 #[(0,(Value.int .u8 1)),(1,t12),(2,t13_113),(10,(i6 2))]) λt14_114=>((pw w112 (Instr.buildSlice 41 3 #[(0,t4),(1,t5),(2,t6)]) λt7_116 w115=>
 Ext w112 w115∧
 ((pw w115 (Instr.makeSlice 98 (i6 3) (i6 3)) λt8_118 w117=>
 Ext w115 w117∧
 ca zk #[(i6 3)] w117 λt16_120 w119=>
 Ext w117 w119∧
 pp (Instr.build 96 #[(0,(Value.int .u8 1)),(1,t15),(2,t16_120),(10,(i6 3))]) λt17_121=>pw w119 (Instr.buildSlice 99 4 #[(0,t11),(1,t14_114),(2,t17_121),(3,t18)]) λt19_123 w122=>
 pp (Instr.build 101 #[(4,t7_116),(5,t8_118),(6,t19_123)]) λt20_124=>pw w122 (Instr.buildSlice 23 1 #[(0,t20_124)]) λt21_126 w125=>
 pp (Instr.build 25 #[(1,t21_126)]) λt22_127=>so w125 25 t0 t22_127 λw128=>pq w128 (zf 25 t0) λr129=>K r129 w128)∧
 (ca zk #[(i6 3)] w115 λt16_131 w130=>
 Ext w115 w130∧
 pp (Instr.build 96 #[(0,(Value.int .u8 1)),(1,t15),(2,t16_131),(10,(i6 3))]) λt17_132=>((pw w130 (Instr.makeSlice 98 (i6 3) (i6 3)) λt8_134 w133=>
 Ext w130 w133∧
 pw w133 (Instr.buildSlice 99 4 #[(0,t11),(1,t14_114),(2,t17_132),(3,t18)]) λt19_136 w135=>
 pp (Instr.build 101 #[(4,t7_116),(5,t8_134),(6,t19_136)]) λt20_137=>pw w135 (Instr.buildSlice 23 1 #[(0,t20_137)]) λt21_139 w138=>
 pp (Instr.build 25 #[(1,t21_139)]) λt22_140=>so w138 25 t0 t22_140 λw141=>pq w141 (zf 25 t0) λr142=>K r142 w141)∧
 (pw w130 (Instr.buildSlice 99 4 #[(0,t11),(1,t14_114),(2,t17_132),(3,t18)]) λt19_144 w143=>
 pw w143 (Instr.makeSlice 98 (i6 3) (i6 3)) λt8_146 w145=>
 Ext w143 w145∧
 pp (Instr.build 101 #[(4,t7_116),(5,t8_146),(6,t19_144)]) λt20_147=>pw w145 (Instr.buildSlice 23 1 #[(0,t20_147)]) λt21_149 w148=>
 pp (Instr.build 25 #[(1,t21_149)]) λt22_150=>so w148 25 t0 t22_150 λw151=>pq w151 (zf 25 t0) λr152=>K r152 w151)))))∧
 (((pw w112 (Instr.makeSlice 98 (i6 3) (i6 3)) λt8_154 w153=>
 Ext w112 w153∧
 ((pw w153 (Instr.buildSlice 41 3 #[(0,t4),(1,t5),(2,t6)]) λt7_156 w155=>
 Ext w153 w155∧
 ca zk #[(i6 3)] w155 λt16_158 w157=>
 Ext w155 w157∧
 pp (Instr.build 96 #[(0,(Value.int .u8 1)),(1,t15),(2,t16_158),(10,(i6 3))]) λt17_159=>pw w157 (Instr.buildSlice 99 4 #[(0,t11),(1,t14_114),(2,t17_159),(3,t18)]) λt19_161 w160=>
 pp (Instr.build 101 #[(4,t7_156),(5,t8_154),(6,t19_161)]) λt20_162=>pw w160 (Instr.buildSlice 23 1 #[(0,t20_162)]) λt21_164 w163=>
 pp (Instr.build 25 #[(1,t21_164)]) λt22_165=>so w163 25 t0 t22_165 λw166=>pq w166 (zf 25 t0) λr167=>K r167 w166)∧
 (ca zk #[(i6 3)] w153 λt16_169 w168=>
 Ext w153 w168∧
 pp (Instr.build 96 #[(0,(Value.int .u8 1)),(1,t15),(2,t16_169),(10,(i6 3))]) λt17_170=>((pw w168 (Instr.buildSlice 41 3 #[(0,t4),(1,t5),(2,t6)]) λt7_172 w171=>
 Ext w168 w171∧
 pw w171 (Instr.buildSlice 99 4 #[(0,t11),(1,t14_114),(2,t17_170),(3,t18)]) λt19_174 w173=>
 pp (Instr.build 101 #[(4,t7_172),(5,t8_154),(6,t19_174)]) λt20_175=>pw w173 (Instr.buildSlice 23 1 #[(0,t20_175)]) λt21_177 w176=>
 pp (Instr.build 25 #[(1,t21_177)]) λt22_178=>so w176 25 t0 t22_178 λw179=>pq w179 (zf 25 t0) λr180=>K r180 w179)∧
 (pw w168 (Instr.buildSlice 99 4 #[(0,t11),(1,t14_114),(2,t17_170),(3,t18)]) λt19_182 w181=>
 pw w181 (Instr.buildSlice 41 3 #[(0,t4),(1,t5),(2,t6)]) λt7_184 w183=>
 Ext w181 w183∧
 pp (Instr.build 101 #[(4,t7_184),(5,t8_154),(6,t19_182)]) λt20_185=>pw w183 (Instr.buildSlice 23 1 #[(0,t20_185)]) λt21_187 w186=>
 pp (Instr.build 25 #[(1,t21_187)]) λt22_188=>so w186 25 t0 t22_188 λw189=>pq w189 (zf 25 t0) λr190=>K r190 w189)))))∧
 (ca zk #[(i6 3)] w112 λt16_192 w191=>
 Ext w112 w191∧
 pp (Instr.build 96 #[(0,(Value.int .u8 1)),(1,t15),(2,t16_192),(10,(i6 3))]) λt17_193=>((pw w191 (Instr.buildSlice 41 3 #[(0,t4),(1,t5),(2,t6)]) λt7_195 w194=>
 Ext w191 w194∧
 ((pw w194 (Instr.makeSlice 98 (i6 3) (i6 3)) λt8_197 w196=>
 Ext w194 w196∧
 pw w196 (Instr.buildSlice 99 4 #[(0,t11),(1,t14_114),(2,t17_193),(3,t18)]) λt19_199 w198=>
 pp (Instr.build 101 #[(4,t7_195),(5,t8_197),(6,t19_199)]) λt20_200=>pw w198 (Instr.buildSlice 23 1 #[(0,t20_200)]) λt21_202 w201=>
 pp (Instr.build 25 #[(1,t21_202)]) λt22_203=>so w201 25 t0 t22_203 λw204=>pq w204 (zf 25 t0) λr205=>K r205 w204)∧
 (pw w194 (Instr.buildSlice 99 4 #[(0,t11),(1,t14_114),(2,t17_193),(3,t18)]) λt19_207 w206=>
 pw w206 (Instr.makeSlice 98 (i6 3) (i6 3)) λt8_209 w208=>
 Ext w206 w208∧
 pp (Instr.build 101 #[(4,t7_195),(5,t8_209),(6,t19_207)]) λt20_210=>pw w208 (Instr.buildSlice 23 1 #[(0,t20_210)]) λt21_212 w211=>
 pp (Instr.build 25 #[(1,t21_212)]) λt22_213=>so w211 25 t0 t22_213 λw214=>pq w214 (zf 25 t0) λr215=>K r215 w214)))∧
 (((pw w191 (Instr.makeSlice 98 (i6 3) (i6 3)) λt8_217 w216=>
 Ext w191 w216∧
 ((pw w216 (Instr.buildSlice 41 3 #[(0,t4),(1,t5),(2,t6)]) λt7_219 w218=>
 Ext w216 w218∧
 pw w218 (Instr.buildSlice 99 4 #[(0,t11),(1,t14_114),(2,t17_193),(3,t18)]) λt19_221 w220=>
 pp (Instr.build 101 #[(4,t7_219),(5,t8_217),(6,t19_221)]) λt20_222=>pw w220 (Instr.buildSlice 23 1 #[(0,t20_222)]) λt21_224 w223=>
 pp (Instr.build 25 #[(1,t21_224)]) λt22_225=>so w223 25 t0 t22_225 λw226=>pq w226 (zf 25 t0) λr227=>K r227 w226)∧
 (pw w216 (Instr.buildSlice 99 4 #[(0,t11),(1,t14_114),(2,t17_193),(3,t18)]) λt19_229 w228=>
 pw w228 (Instr.buildSlice 41 3 #[(0,t4),(1,t5),(2,t6)]) λt7_231 w230=>
 Ext w228 w230∧
 pp (Instr.build 101 #[(4,t7_231),(5,t8_217),(6,t19_229)]) λt20_232=>pw w230 (Instr.buildSlice 23 1 #[(0,t20_232)]) λt21_234 w233=>
 pp (Instr.build 25 #[(1,t21_234)]) λt22_235=>so w233 25 t0 t22_235 λw236=>pq w236 (zf 25 t0) λr237=>K r237 w236)))∧
 (pw w191 (Instr.buildSlice 99 4 #[(0,t11),(1,t14_114),(2,t17_193),(3,t18)]) λt19_239 w238=>
 ((pw w238 (Instr.buildSlice 41 3 #[(0,t4),(1,t5),(2,t6)]) λt7_241 w240=>
 Ext w238 w240∧
 pw w240 (Instr.makeSlice 98 (i6 3) (i6 3)) λt8_243 w242=>
 Ext w240 w242∧
 pp (Instr.build 101 #[(4,t7_241),(5,t8_243),(6,t19_239)]) λt20_244=>pw w242 (Instr.buildSlice 23 1 #[(0,t20_244)]) λt21_246 w245=>
 pp (Instr.build 25 #[(1,t21_246)]) λt22_247=>so w245 25 t0 t22_247 λw248=>pq w248 (zf 25 t0) λr249=>K r249 w248)∧
 (pw w238 (Instr.makeSlice 98 (i6 3) (i6 3)) λt8_251 w250=>
 Ext w238 w250∧
 pw w250 (Instr.buildSlice 41 3 #[(0,t4),(1,t5),(2,t6)]) λt7_253 w252=>
 Ext w250 w252∧
 pp (Instr.build 101 #[(4,t7_253),(5,t8_251),(6,t19_239)]) λt20_254=>pw w252 (Instr.buildSlice 23 1 #[(0,t20_254)]) λt21_256 w255=>
 pp (Instr.build 25 #[(1,t21_256)]) λt22_257=>so w255 25 t0 t22_257 λw258=>pq w258 (zf 25 t0) λr259=>K r259 w258)))))))))))))))∧
 (pw w6 (Instr.makeSlice 98 (i6 3) (i6 3)) λt8_261 w260=>
 Ext w6 w260∧
 ca xq #[tr_] w260 λt6_263 w262=>
 Ext w260 w262∧
 ((pw w262 (Instr.buildSlice 41 3 #[(0,t4),(1,t5),(2,t6_263)]) λt7_265 w264=>
 Ext w262 w264∧
 ca zk #[(i6 2)] w264 λt13_267 w266=>
 Ext w264 w266∧
 pp (Instr.build 96 #[(0,(Value.int .u8 1)),(1,t12),(2,t13_267),(10,(i6 2))]) λt14_268=>ca zk #[(i6 3)] w266 λt16_270 w269=>
 Ext w266 w269∧
 pp (Instr.build 96 #[(0,(Value.int .u8 1)),(1,t15),(2,t16_270),(10,(i6 3))]) λt17_271=>pw w269 (Instr.buildSlice 99 4 #[(0,t11),(1,t14_268),(2,t17_271),(3,t18)]) λt19_273 w272=>
 pp (Instr.build 101 #[(4,t7_265),(5,t8_261),(6,t19_273)]) λt20_274=>pw w272 (Instr.buildSlice 23 1 #[(0,t20_274)]) λt21_276 w275=>
 pp (Instr.build 25 #[(1,t21_276)]) λt22_277=>so w275 25 t0 t22_277 λw278=>pq w278 (zf 25 t0) λr279=>K r279 w278)∧
 (ca zk #[(i6 2)] w262 λt13_281 w280=>
 Ext w262 w280∧
 pp (Instr.build 96 #[(0,(Value.int .u8 1)),(1,t12),(2,t13_281),(10,(i6 2))]) λt14_282=>((pw w280 (Instr.buildSlice 41 3 #[(0,t4),(1,t5),(2,t6_263)]) λt7_284 w283=>
 Ext w280 w283∧
 ca zk #[(i6 3)] w283 λt16_286 w285=>
 Ext w283 w285∧
 pp (Instr.build 96 #[(0,(Value.int .u8 1)),(1,t15),(2,t16_286),(10,(i6 3))]) λt17_287=>pw w285 (Instr.buildSlice 99 4 #[(0,t11),(1,t14_282),(2,t17_287),(3,t18)]) λt19_289 w288=>
 pp (Instr.build 101 #[(4,t7_284),(5,t8_261),(6,t19_289)]) λt20_290=>pw w288 (Instr.buildSlice 23 1 #[(0,t20_290)]) λt21_292 w291=>
 pp (Instr.build 25 #[(1,t21_292)]) λt22_293=>so w291 25 t0 t22_293 λw294=>pq w294 (zf 25 t0) λr295=>K r295 w294)∧
 (ca zk #[(i6 3)] w280 λt16_297 w296=>
 Ext w280 w296∧
 pp (Instr.build 96 #[(0,(Value.int .u8 1)),(1,t15),(2,t16_297),(10,(i6 3))]) λt17_298=>((pw w296 (Instr.buildSlice 41 3 #[(0,t4),(1,t5),(2,t6_263)]) λt7_300 w299=>
 Ext w296 w299∧
 pw w299 (Instr.buildSlice 99 4 #[(0,t11),(1,t14_282),(2,t17_298),(3,t18)]) λt19_302 w301=>
 pp (Instr.build 101 #[(4,t7_300),(5,t8_261),(6,t19_302)]) λt20_303=>pw w301 (Instr.buildSlice 23 1 #[(0,t20_303)]) λt21_305 w304=>
 pp (Instr.build 25 #[(1,t21_305)]) λt22_306=>so w304 25 t0 t22_306 λw307=>pq w307 (zf 25 t0) λr308=>K r308 w307)∧
 (pw w296 (Instr.buildSlice 99 4 #[(0,t11),(1,t14_282),(2,t17_298),(3,t18)]) λt19_310 w309=>
 pw w309 (Instr.buildSlice 41 3 #[(0,t4),(1,t5),(2,t6_263)]) λt7_312 w311=>
 Ext w309 w311∧
 pp (Instr.build 101 #[(4,t7_312),(5,t8_261),(6,t19_310)]) λt20_313=>pw w311 (Instr.buildSlice 23 1 #[(0,t20_313)]) λt21_315 w314=>
 pp (Instr.build 25 #[(1,t21_315)]) λt22_316=>so w314 25 t0 t22_316 λw317=>pq w317 (zf 25 t0) λr318=>K r318 w317)))))))))∧
 (pw w5 (Instr.makeSlice 98 (i6 3) (i6 3)) λt8_320 w319=>
 Ext w5 w319∧
 ca y0 #[] w319 λt5_322 w321=>
 Ext w319 w321∧
 ca xq #[tr_] w321 λt6_324 w323=>
 Ext w321 w323∧
 ((pw w323 (Instr.buildSlice 41 3 #[(0,t4),(1,t5_322),(2,t6_324)]) λt7_326 w325=>
 Ext w323 w325∧
 ca zk #[(i6 2)] w325 λt13_328 w327=>
 Ext w325 w327∧
 pp (Instr.build 96 #[(0,(Value.int .u8 1)),(1,t12),(2,t13_328),(10,(i6 2))]) λt14_329=>ca zk #[(i6 3)] w327 λt16_331 w330=>
 Ext w327 w330∧
 pp (Instr.build 96 #[(0,(Value.int .u8 1)),(1,t15),(2,t16_331),(10,(i6 3))]) λt17_332=>pw w330 (Instr.buildSlice 99 4 #[(0,t11),(1,t14_329),(2,t17_332),(3,t18)]) λt19_334 w333=>
 pp (Instr.build 101 #[(4,t7_326),(5,t8_320),(6,t19_334)]) λt20_335=>pw w333 (Instr.buildSlice 23 1 #[(0,t20_335)]) λt21_337 w336=>
 pp (Instr.build 25 #[(1,t21_337)]) λt22_338=>so w336 25 t0 t22_338 λw339=>pq w339 (zf 25 t0) λr340=>K r340 w339)∧
 (ca zk #[(i6 2)] w323 λt13_342 w341=>
 Ext w323 w341∧
 pp (Instr.build 96 #[(0,(Value.int .u8 1)),(1,t12),(2,t13_342),(10,(i6 2))]) λt14_343=>((pw w341 (Instr.buildSlice 41 3 #[(0,t4),(1,t5_322),(2,t6_324)]) λt7_345 w344=>
 Ext w341 w344∧
 ca zk #[(i6 3)] w344 λt16_347 w346=>
 Ext w344 w346∧
 pp (Instr.build 96 #[(0,(Value.int .u8 1)),(1,t15),(2,t16_347),(10,(i6 3))]) λt17_348=>pw w346 (Instr.buildSlice 99 4 #[(0,t11),(1,t14_343),(2,t17_348),(3,t18)]) λt19_350 w349=>
 pp (Instr.build 101 #[(4,t7_345),(5,t8_320),(6,t19_350)]) λt20_351=>pw w349 (Instr.buildSlice 23 1 #[(0,t20_351)]) λt21_353 w352=>
 pp (Instr.build 25 #[(1,t21_353)]) λt22_354=>so w352 25 t0 t22_354 λw355=>pq w355 (zf 25 t0) λr356=>K r356 w355)∧
 (ca zk #[(i6 3)] w341 λt16_358 w357=>
 Ext w341 w357∧
 pp (Instr.build 96 #[(0,(Value.int .u8 1)),(1,t15),(2,t16_358),(10,(i6 3))]) λt17_359=>((pw w357 (Instr.buildSlice 41 3 #[(0,t4),(1,t5_322),(2,t6_324)]) λt7_361 w360=>
 Ext w357 w360∧
 pw w360 (Instr.buildSlice 99 4 #[(0,t11),(1,t14_343),(2,t17_359),(3,t18)]) λt19_363 w362=>
 pp (Instr.build 101 #[(4,t7_361),(5,t8_320),(6,t19_363)]) λt20_364=>pw w362 (Instr.buildSlice 23 1 #[(0,t20_364)]) λt21_366 w365=>
 pp (Instr.build 25 #[(1,t21_366)]) λt22_367=>so w365 25 t0 t22_367 λw368=>pq w368 (zf 25 t0) λr369=>K r369 w368)∧
 (pw w357 (Instr.buildSlice 99 4 #[(0,t11),(1,t14_343),(2,t17_359),(3,t18)]) λt19_371 w370=>
 pw w370 (Instr.buildSlice 41 3 #[(0,t4),(1,t5_322),(2,t6_324)]) λt7_373 w372=>
 Ext w370 w372∧
 pp (Instr.build 101 #[(4,t7_373),(5,t8_320),(6,t19_371)]) λt20_374=>pw w372 (Instr.buildSlice 23 1 #[(0,t20_374)]) λt21_376 w375=>
 pp (Instr.build 25 #[(1,t21_376)]) λt22_377=>so w375 25 t0 t22_377 λw378=>pq w378 (zf 25 t0) λr379=>K r379 w378)))))))))∧
 (pw w4.drew (Instr.makeSlice 98 (i6 3) (i6 3)) λt8_381 w380=>
 Ext w4.drew w380∧
 ca y0 #[] w380 λt4_383 w382=>
 Ext w380 w382∧
 ca y0 #[] w382 λt5_385 w384=>
 Ext w382 w384∧
 ca xq #[tr_] w384 λt6_387 w386=>
 Ext w384 w386∧
 ((pw w386 (Instr.buildSlice 41 3 #[(0,t4_383),(1,t5_385),(2,t6_387)]) λt7_389 w388=>
 Ext w386 w388∧
 ca zk #[(i6 2)] w388 λt13_391 w390=>
 Ext w388 w390∧
 pp (Instr.build 96 #[(0,(Value.int .u8 1)),(1,t12),(2,t13_391),(10,(i6 2))]) λt14_392=>ca zk #[(i6 3)] w390 λt16_394 w393=>
 Ext w390 w393∧
 pp (Instr.build 96 #[(0,(Value.int .u8 1)),(1,t15),(2,t16_394),(10,(i6 3))]) λt17_395=>pw w393 (Instr.buildSlice 99 4 #[(0,t11),(1,t14_392),(2,t17_395),(3,t18)]) λt19_397 w396=>
 pp (Instr.build 101 #[(4,t7_389),(5,t8_381),(6,t19_397)]) λt20_398=>pw w396 (Instr.buildSlice 23 1 #[(0,t20_398)]) λt21_400 w399=>
 pp (Instr.build 25 #[(1,t21_400)]) λt22_401=>so w399 25 t0 t22_401 λw402=>pq w402 (zf 25 t0) λr403=>K r403 w402)∧
 (ca zk #[(i6 2)] w386 λt13_405 w404=>
 Ext w386 w404∧
 pp (Instr.build 96 #[(0,(Value.int .u8 1)),(1,t12),(2,t13_405),(10,(i6 2))]) λt14_406=>((pw w404 (Instr.buildSlice 41 3 #[(0,t4_383),(1,t5_385),(2,t6_387)]) λt7_408 w407=>
 Ext w404 w407∧
 ca zk #[(i6 3)] w407 λt16_410 w409=>
 Ext w407 w409∧
 pp (Instr.build 96 #[(0,(Value.int .u8 1)),(1,t15),(2,t16_410),(10,(i6 3))]) λt17_411=>pw w409 (Instr.buildSlice 99 4 #[(0,t11),(1,t14_406),(2,t17_411),(3,t18)]) λt19_413 w412=>
 pp (Instr.build 101 #[(4,t7_408),(5,t8_381),(6,t19_413)]) λt20_414=>pw w412 (Instr.buildSlice 23 1 #[(0,t20_414)]) λt21_416 w415=>
 pp (Instr.build 25 #[(1,t21_416)]) λt22_417=>so w415 25 t0 t22_417 λw418=>pq w418 (zf 25 t0) λr419=>K r419 w418)∧
 (ca zk #[(i6 3)] w404 λt16_421 w420=>
 Ext w404 w420∧
 pp (Instr.build 96 #[(0,(Value.int .u8 1)),(1,t15),(2,t16_421),(10,(i6 3))]) λt17_422=>((pw w420 (Instr.buildSlice 41 3 #[(0,t4_383),(1,t5_385),(2,t6_387)]) λt7_424 w423=>
 Ext w420 w423∧
 pw w423 (Instr.buildSlice 99 4 #[(0,t11),(1,t14_406),(2,t17_422),(3,t18)]) λt19_426 w425=>
 pp (Instr.build 101 #[(4,t7_424),(5,t8_381),(6,t19_426)]) λt20_427=>pw w425 (Instr.buildSlice 23 1 #[(0,t20_427)]) λt21_429 w428=>
 pp (Instr.build 25 #[(1,t21_429)]) λt22_430=>so w428 25 t0 t22_430 λw431=>pq w431 (zf 25 t0) λr432=>K r432 w431)∧
 (pw w420 (Instr.buildSlice 99 4 #[(0,t11),(1,t14_406),(2,t17_422),(3,t18)]) λt19_434 w433=>
 pw w433 (Instr.buildSlice 41 3 #[(0,t4_383),(1,t5_385),(2,t6_387)]) λt7_436 w435=>
 Ext w433 w435∧
 pp (Instr.build 101 #[(4,t7_436),(5,t8_381),(6,t19_434)]) λt20_437=>pw w435 (Instr.buildSlice 23 1 #[(0,t20_437)]) λt21_439 w438=>
 pp (Instr.build 25 #[(1,t21_439)]) λt22_440=>so w438 25 t0 t22_440 λw441=>pq w441 (zf 25 t0) λr442=>K r442 w441))))))))
theorem aaw(h:XP  w K):ze prog vM #[] w K:=
 okC false (.s (.r (rz 1 0 2)) (.s (.r (rz 4 0 162)) (.s (.r (ra 4 5 0 (ra 1 11 1 (ra 1 14 0 (.alt 0 .u (.alt 1 .u (.alt 2 .u (.alt 3 .u (.alt 4 .u (ra 2 9 3 (ra 2 12 3 (rz 5 15 546))) (ra 2 9 3 (.alt 4 .u (ra 2 12 3 (rz 5 15 546)) (ra 2 12 3 (.alt 4 .u (rz 5 15 546) (ra 1 15 2 (ra 1 4 3 (rz 4 16 136)))))))) (.alt 4 .u (.alt 3 .u (ra 2 9 3 (ra 2 12 3 (rz 5 15 546))) (ra 2 9 3 (.alt 3 .u (ra 2 12 3 (rz 5 15 546)) (ra 2 12 3 (.alt 3 .u (rz 5 15 546) (ra 1 15 2 (ra 1 3 3 (rz 4 16 136)))))))) (ra 2 9 3 (.alt 3 .u (.alt 4 .u (ra 2 12 3 (rz 5 15 546)) (ra 2 12 3 (.alt 4 .u (rz 5 15 546) (ra 1 15 2 (ra 1 4 3 (rz 4 16 136)))))) (.alt 4 .u (.alt 3 .u (ra 2 12 3 (rz 5 15 546)) (ra 2 12 3 (.alt 3 .u (rz 5 15 546) (ra 1 15 2 (ra 1 3 3 (rz 4 16 136)))))) (ra 2 12 3 (.alt 3 .u (.alt 4 .u (rz 5 15 546) (ra 1 15 2 (ra 1 4 3 (rz 4 16 136)))) (.alt 4 .u (.alt 3 .u (rz 5 15 546) (ra 1 15 2 (ra 1 3 3 (rz 4 16 136)))) (ra 1 15 2 (.alt 3 .u (ra 1 4 3 (rz 4 16 136)) (ra 1 4 3 (ra 1 3 3 (rz 4 16 136))))))))))))) (ra 1 4 3 (ra 1 2 3 (.alt 3 .u (ra 2 9 3 (ra 2 12 3 (rz 5 15 546))) (ra 2 9 3 (.alt 3 .u (ra 2 12 3 (rz 5 15 546)) (ra 2 12 3 (.alt 3 .u (rz 5 15 546) (ra 1 15 2 (ra 1 3 3 (rz 4 16 136))))))))))) (ra 1 4 3 (ra 2 1 15 (.alt 3 .u (ra 2 9 3 (ra 2 12 3 (rz 5 15 546))) (ra 2 9 3 (.alt 3 .u (ra 2 12 3 (rz 5 15 546)) (ra 2 12 3 (.alt 3 .u (rz 5 15 546) (ra 1 15 2 (ra 1 3 3 (rz 4 16 136))))))))))) (ra 1 4 3 (ra 3 0 63 (.alt 3 .u (ra 2 9 3 (ra 2 12 3 (rz 5 15 546))) (ra 2 9 3 (.alt 3 .u (ra 2 12 3 (rz 5 15 546)) (ra 2 12 3 (.alt 3 .u (rz 5 15 546) (ra 1 15 2 (ra 1 3 3 (rz 4 16 136))))))))))))))) (.n)))) func47 rfl (by kernel_rfl) (by kernel_rfl) h
def JZ(t0:Value)(w:World)(K:VW):Prop:=
 pw w (Instr.alloc 43 true (.tuple #[])) λt2 w1=>
 ca xq #[fa_] w1 λt4 w2=>
 pw w2 (Instr.alloc 43 true (.tuple #[])) λt3 w3=>
 so w3 43 t3 t4 λw4=>pf 43 t3 2 λt6=>so w4 3 t6 t0 λw5=>lo w5 43 t3 λt7=>so w5 43 t2 t7 λw6=>pq w6 (zf 43 t2) λr7=>K r7 w6
theorem ab7(h:JZ t0 w K):ze prog vh #[t0] w K:=
 okC false (.s (.r (rz 1 0 2)) (.s (.r (rz 3 0 42)) (.s (.r (rz 3 0 32)) (.s (.r (rz 2 0 9)) (.n))))) func48 rfl (by kernel_rfl) (by kernel_rfl) h
def Qw(w:World)(K:VW):Prop:=
 pw w (Instr.alloc 43 true (.tuple #[])) λt0 w1=>
 pp (Instr.build 43 #[(0,(Value.int .u8 1))]) λt1=>so w1 43 t0 t1 λw2=>pq w2 (zf 43 t0) λr3=>K r3 w2
theorem abM(h:Qw  w K):ze prog y0 #[] w K:=
 okC false (.s (.r (rz 1 0 2)) (.s (.r (rz 2 0 8)) (.n))) func106 rfl (by kernel_rfl) (by kernel_rfl) h
def Qx(t0:Value)(w:World)(K:VW):Prop:=
 pw w (Instr.alloc 43 true (.tuple #[])) λt2 w1=>
 ca y0 #[] w1 λt4 w2=>
 pw w2 (Instr.buildSlice 41 1 #[(0,t4)]) λt5 w3=>
 pp (Instr.build 43 #[(0,(Value.int .u8 4)),(1,t0),(2,(i6 (-1))),(4,t5)]) λt6=>so w3 43 t2 t6 λw4=>pq w4 (zf 43 t2) λr5=>K r5 w4
theorem abN(h:Qx t0 w K):ze prog xq #[t0] w K:=
 okC false (.s (.r (rz 1 0 2)) (.s (.r (rz 5 0 552)) (.n))) func107 rfl (by kernel_rfl) (by kernel_rfl) h
def Qy(t0:Value)(w:World)(K:VW):Prop:=
 pw w (Instr.alloc 93 true (.tuple #[])) λt2 w1=>
 pp (Instr.build 93 #[(0,(Value.int .u8 1)),(1,t0)]) λt4=>so w1 93 t2 t4 λw2=>pq w2 (zf 93 t2) λr3=>K r3 w2
theorem abO(h:Qy t0 w K):ze prog zk #[t0] w K:=
 okC false (.s (.r (rz 1 0 2)) (.s (.r (rz 3 0 32)) (.n))) func108 rfl (by kernel_rfl) (by kernel_rfl) h
end Go.Proofs.Tryz
end
section
namespace Go.Sh
theorem StX.any{X:Nat→Prop}{w0 w:World}{r:Gh}{L:List Asr}(S:StX X w0 r w L):∃σ,σ=r∧StX X w0 σ w L:=⟨r,rfl,S⟩
theorem agY{w:World}{A:(List Value→World→Prop)→Prop}{Z:Value→World→Prop}{b:Bool}(hA:b=false→∀K:List Value→World→Prop,(∀c w',Ext w w'→K [.bool c] w')→A K)(hZ:∀c w',Ext w w'→Z (.bool c) w'):
  za (λK=>gIf (.bool b) false (A K) (K [u_] w)) λs _ w'=>zc (.bool b) (.bool true) (s.getD 0 u_) λt=>Z t w':=by
 intro K hK
 cases b with
 |true=>exact hK _ _ λ_=>⟨true,rfl,by simpa using hZ true w (.refl w)⟩
 |false=>exact hA rfl K λc w' e=>hK _ _ λ_=>⟨false,rfl,by simpa using hZ c w' e⟩
end Go.Sh
namespace Go.Proofs
open Go.Sh Go.RowKit
set_option maxRecDepth 100000
theorem Qz{w:World}{K:Value→World→Prop}(h:∀w',Ext w w'→K agl w'):ze Tryz.prog Tryz.y0 #[] w K:=by
 refine Tryz.abM ?_
 unfold Tryz.Qw
 have S:StX noX w nothing w []:=St.start (λ_ _ h=>h.elim)
 refine S.al λb0 w1 S=>?_
 refine zn (cs:=Zc.toArray) (by kernel_rfl) ?_
 refine S.stB (b:=b0) λw2 S=>?_
 refine S.ceB (b:=b0) ?_ rfl
 exact h _ S.ext
theorem ab8{n:Int}{w:World}{K:Value→World→Prop}(h:∀w',Ext w w'→K (agm n) w'):ze Tryz.prog Tryz.zk #[.int .i64 n] w K:=by
 refine Tryz.abO ?_
 unfold Tryz.Qy
 have S:StX noX w nothing w []:=St.start (λ_ _ h=>h.elim)
 refine S.al λb0 w1 S=>?_
 refine zn (cs:=#[.int .u8 1,.int .i64 n,.int .i64 0,.slice none 0 0]) (by kernel_rfl) ?_
 refine S.stB (b:=b0) λw2 S=>?_
 refine S.ceB (b:=b0) ?_ rfl
 exact h _ S.ext
theorem QA{m:Bool}{w:World}{K:Value→World→Prop}(h:∀q cap sn w',Ext w w'→New w sn w'→TyG sn (tyV (.mk 4 m (-1) 0 [zN]) q cap) (.mk 4 m (-1) 0 [zN])→K (tyV (.mk 4 m (-1) 0 [zN]) q cap) w'):ze Tryz.prog Tryz.xq #[.bool m] w K:=by
 refine Tryz.abN ?_
 unfold Tryz.Qx
 have S:StX noX w nothing w []:=St.start (λ_ _ h=>h.elim)
 refine S.al λb2 w1 S=>?_
 refine Qz λw2 e2=>?_
 have S:=S.go e2
 refine S.lit (e:=43) (cs:=Zc) (by kernel_rfl) λb5 w3 S=>?_
 refine zn (cs:=#[.int .u8 4,.bool m,.int .i64 (-1),.int .i64 0,.slice (some ⟨b5,0,none⟩) 1 1]) (by kernel_rfl) ?_
 refine S.stB (b:=b2) λw4 S=>?_
 refine S.ceB (b:=b2) ?_ rfl
 obtain⟨S,_,ha⟩:=S.litNew b5 (sz:=5) (R:=TyC nothing) (l:=[zN]) (by exact(kA (c:=Zc) rfl (show TyC nothing Zc zN from vY))) (by decide)
 exact h (some ⟨b5,0,none⟩) 1 (nothing.or (Go.Sh.one b5 Zc 43)) _ S.ext (S.newOf (Above.no.or' ha)) (Js (u:=zN) (v:=agl) vY)
theorem abP{w:World}{K:Value→World→Prop}(h:∀v s w',Ext w w'→New w s w'→UnG s v z8→K v w'):ze Tryz.prog Tryz.vM #[] w K:=by
 refine Tryz.aaw ?_
 unfold Tryz.XP
 have S:StX noX w nothing w []:=St.start (λ_ _ h=>h.elim)
 refine S.al λb0 w1 S=>?_
 refine S.lit (e:=84) (cs:=[.int .i64 (-1)]) (by kernel_rfl) λb2 w2 S=>?_
 refine zn (cs:=#[.int .i64 2,.slice (some ⟨b2,0,none⟩) 1 1]) (by kernel_rfl) ?_
 refine S.al λb1 w3 S=>?_
 refine S.stB (b:=b1) λw4 S=>?_
 have S:=S.go (Ext.drew _)
 refine zn (cs:=#[.int .i64 2,.slice none 0 0]) (by kernel_rfl) ?_
 refine zn (cs:=#[.int .i64 1,.slice none 0 0]) (by kernel_rfl) ?_
 refine zn (cs:=hl0.toArray) (by kernel_rfl) ?_
 refine zn (cs:=#[.int .i64 1,.slice none 0 0]) (by kernel_rfl) ?_
 refine S.ldB (b:=b1) ?_ rfl
 refine zn (cs:=hl3.toArray) (by kernel_rfl) ?_
 have S:=S.drop b1
 have fin:∀{w9:World}{b7 b8 b19 b21:Nat}{q6:Option Addr}{c6:Nat}{sn:Gh}{M M1 M2 M3 M4 M5:List Asr}(S:StX noX w (nothing.or sn) w9 M)
   [jo b7 M (Zc++(Zc++tyL XC q6 c6)) 43 M1] [jo b8 M1 [.string ByteArray.empty,.string ByteArray.empty,.string ByteArray.empty] 9 M2] [jo b2 M2 [.int .i64 (-1)] 84 M3]
   [jo b19 M3 (hl0++(hl1++(hl2 b2++hl3))) 96 M4] [jo b21 M4 [.string ByteArray.empty,.int .i64 0,.slice none 0 0,.int .i64 0,.slice (some ⟨b7,0,none⟩) 3 3,.slice (some ⟨b8,0,none⟩) 3 3,.slice (some ⟨b19,0,none⟩) 4 4] 101 M5],
   Above w sn→TyG sn (tyV XC q6 c6) XC→K (.agg #[.slice none 0 0,.slice (some ⟨b21,0,none⟩) 1 1,.int .i64 0]) w9:=by
  intro w9 b7 b8 b19 b21 q6 c6 sn M M1 M2 M3 M4 M5 S _ _ _ _ _ ha ht
  obtain⟨S,h7,a7⟩:=S.litNew b7 (sz:=5) (R:=TyC sn) (l:=[zN,zN,XC]) (by exact(xm rfl vY (xm rfl vY (kA rfl ht)))) (by decide)
  obtain⟨S,h8,a8⟩:=S.litNew b8 (sz:=1) (R:=agc) (l:=[ByteArray.empty,ByteArray.empty,ByteArray.empty]) (by exact(xm (c:=[.string ByteArray.empty]) rfl rfl (xm (c:=[.string ByteArray.empty]) rfl rfl (kA rfl rfl)))) (by decide)
  obtain⟨S,h2,a2⟩:=S.litNew b2 (sz:=1) (R:=ZX) (l:=[-1]) (by exact(kA rfl ⟨rfl,by unfold agb;omega⟩)) (by decide)
  have hz:∀{r:Gh}{α:Type}{sz:Nat}{R:List Value→α→Prop},SlB sz r R (.slice none 0 0) ([]:List α):=Vu
  obtain⟨S,h19,a19⟩:=S.litNew b19 (sz:=21) (R:=PtG (Go.Sh.one b2 [.int .i64 (-1)] 84)) (l:=[hp0,hp1,hp2,hp3])
   (by exact(xm rfl ⟨_,_,_,_,_,rfl,hz,hz,hz,hz,hz⟩ (xm rfl ⟨_,_,_,_,_,rfl,hz,hz,hz,hz,hz⟩ (xm rfl ⟨_,_,_,_,_,rfl,Yk h2,hz,hz,hz,hz⟩ (kA rfl ⟨_,_,_,_,_,rfl,hz,hz,hz,hz,hz⟩))))) (by decide)
  obtain⟨S,h21,a21⟩:=S.litNew b21 (sz:=7) (R:=GrG (((((nothing.or sn).or (Go.Sh.one b7 (Zc++(Zc++tyL XC q6 c6)) 43)).or (Go.Sh.one b8 [.string ByteArray.empty,.string ByteArray.empty,.string ByteArray.empty] 9)).or (Go.Sh.one b2 [.int .i64 (-1)] 84)).or (Go.Sh.one b19 (hl0++(hl1++(hl2 b2++hl3))) 96))) (l:=[xn])
   (by exact(kA rfl ⟨_,_,_,_,rfl,hz,Yk (h7.up' inferInstance λc x hx=>TyG.up hx),Yk h8.cells,Yk (h19.up' inferInstance λc x hx=>PtG.up hx)⟩)) (by decide)
  exact h _ _ _ S.ext (S.newOf (((((Above.no.or' ha).or' a7).or' a8).or' a2).or' a19 |>.or' a21)) ⟨none,0,_,rfl,λ_=>rfl,Nat.zero_le _,trivial,Nat.zero_le _,Yk (h21.up' inferInstance λc x hx=>GrG.up hx)⟩
 repeat' (first
  |(with_reducible refine Qz λw9 e9=>⟨e9,?_⟩;have S:=S.go e9)
  |(with_reducible refine ab8 λw9 e9=>⟨e9,?_⟩;have S:=S.go e9)
  |(with_reducible refine QA λq6 c6 sn w9 e9 n9 t9=>⟨e9,?_⟩;obtain⟨S,d9,a9⟩:=S.tell e9 n9)
  |(with_reducible refine S.litU (t:=41) (e:=43) (cs:=Zc++(Zc++tyL XC q6 c6)) (by kernel_rfl) λb7 w9 S=>?_)
  |(with_reducible refine S.mkSU (by decide) (by decide) λb8 w9 S=>?_)
  |(with_reducible refine zn (t:=96) (parts:=#[(0,.int .u8 1),(1,.agg #[.int .i64 1,.slice none 0 0]),(2,agm 2),(10,.int .i64 2)]) (cs:=hl1.toArray) (by kernel_rfl) ?_)
  |(with_reducible refine zn (t:=96) (cs:=(hl2 b2).toArray) (by kernel_rfl) ?_)
  |(with_reducible refine S.lit (t:=99) (e:=96) (cs:=hl0++(hl1++(hl2 b2++hl3))) (by kernel_rfl) λb19 w9 S=>?_)
  |(with_reducible refine zn (t:=101) (cs:=#[.string ByteArray.empty,.int .i64 0,.slice none 0 0,.int .i64 0,.slice (some ⟨b7,0,none⟩) 3 3,.slice (some ⟨b8,0,none⟩) 3 3,.slice (some ⟨b19,0,none⟩) 4 4]) (by kernel_rfl) ?_)
  |(with_reducible refine S.lit (t:=23) (e:=101) (cs:=[.string ByteArray.empty,.int .i64 0,.slice none 0 0,.int .i64 0,.slice (some ⟨b7,0,none⟩) 3 3,.slice (some ⟨b8,0,none⟩) 3 3,.slice (some ⟨b19,0,none⟩) 4 4]) (by kernel_rfl) λb21 w9 S=>?_)
  |(with_reducible refine zn (t:=25) (cs:=#[.slice none 0 0,.slice (some ⟨b21,0,none⟩) 1 1,.int .i64 0]) (by kernel_rfl) ?_)
  |(with_reducible refine And.intro ?_ ?_)
  |(refine S.stB (b:=b0) λw9 S=>?_;refine S.ceB (b:=b0) ?_ rfl;exact fin (b7:=b7) (b8:=b8) (b19:=b19) (b21:=b21) S a9 t9)
)
theorem J1{k:Int}{w:World}{K:Value→World→Prop}(h:∀q cap sn w',Ext w w'→New w sn w'→TyG sn (tyV (.mk 4 false k 0 [zN]) q cap) (.mk 4 false k 0 [zN])→K (tyV (.mk 4 false k 0 [zN]) q cap) w'):ze Tryz.prog Tryz.vh #[.int .i64 k] w K:=by
 refine Tryz.ab7 ?_
 unfold Tryz.JZ
 have S:StX noX w nothing w []:=St.start (λ_ _ h=>h.elim)
 refine S.al λb2 w1 S=>?_
 refine QA λq cap sn w2 e2 n2 t2=>?_
 obtain⟨S,_,a2⟩:=S.tell e2 n2
 refine S.al λb3 w3 S=>?_
 refine S.stB (b:=b3) λw4 S=>?_
 refine gp_ ?_
 refine S.st (b:=b3) (λw5 S=>?_) (by simp)
 refine S.ldB (b:=b3) ?_ rfl
 refine S.stB (b:=b2) λw6 S=>?_
 refine S.ceB (b:=b2) ?_ rfl
 refine h q cap sn _ S.ext (S.newOf a2) ?_
 obtain⟨p,c,hE,h1,h2,h3⟩:=t2
 cases hE
 exact⟨_,_,rfl,h1,h2,h3⟩
theorem Zl:∀(n:Nat){t:TyD}{w:World}{r:Gh}{v:Value}{deep:Int}{K:Value→World→Prop},0≤deep→deep≤n→n≤60→Holds r w→TyG r v t→
  (∀b w',Ext w w'→K (.bool b) w')→ze Tryz.prog Tryz.xb #[v,.int .i64 deep] w K:=by
 intro n
 induction n with
 |zero=>
  intro t w r v deep K h0 h1 _ hr hv h
  obtain rfl:deep=0:=by omega
  refine Tryz.j8 ?_
  unfold Tryz.qm
  have S:=St.start hr
  refine S.box λb2 w1 S=>?_
  refine gG_ ?_
  refine acM (λ_=>?_) (λhn=>absurd rfl hn)
  exact c_T (h _ _ S.ext)
 |succ n ih=>
  intro t w r v deep K h0 h1 h2 hr hv h
  refine Tryz.j8 ?_
  unfold Tryz.qm
  obtain⟨p,cap,rfl,_,_,hof⟩:=hv
  have S:=St.start hr
  refine S.box λb2 w1 S=>?_
  refine gG_ ?_
  refine acM (λ_=>?_) (λhz=>?_)
  ·exact c_T (h _ _ S.ext)
  intro K2 hK2;refine gG_ ?_;refine hK2 _ _ ?_;clear hK2 K2
  refine zo (λ_=>h _ _ S.ext) (λhlen=>?_)
  refine zq (ι:=Nat) (λi=>[.int .i64 i]) (λi w'=>i≤t.of.length∧St w r w' _) (λi=>t.of.length-i) 0 rfl ⟨Nat.zero_le _,S⟩ ?_
  clear S
  rintro i d w9 ⟨hi,S⟩ K6 hK6
  simp only[gdz]
  refine gG_ ?_
  refine zo (λhlt=>?_) (λ_=>h _ _ S.ext)
  have hlt:i<t.of.length:=by omega
  obtain⟨b,off,c,rfl,hc,hcell,ht⟩:=XV S hof hlt
  refine gG_ ?_
  refine zA (n:=5) hc (by simpa using hcell) ?_
  refine gG_ ?_
  refine ih (by omega) (by omega) (by omega) S.holds ht λbb w10 e10=>?_
  have S:=S.go e10
  refine gG_ ?_
  refine c_b (λ_=>h _ _ S.ext) (λ_=>?_)
  refine gG_ ?_
  exact hK6 (i+1) _ ⟨hlt,S⟩ (by omega)
end Go.Proofs
end
section
namespace Go.Proofs
open Go.Sh Go.RowKit Go.BM
theorem acx:zg z8 xn=⟨0,4,2,[zN,zN,qZ 0],[1,-1,-1,-1]⟩:=by kernel_rfl
theorem acz:yp (yw z8 0 (-1))=(⟨0,4,2,[zN,zN,qZ 0],[1,-1,-1,-1]⟩,0):=by rw[aeA (by decide)];rfl
theorem abQ{t:TyD}(ht:mayB [] t=true):(yC [] [t] ⟨0,[]⟩).1=t:=by
 have ho:yH [] [t] ⟨0,[]⟩=true:=by
  rw[yH,hst]
  show(((decide ((0:Int)≤0)&&decide ((0:Int)<1))&&decide (0≤8))&&(true&&(mayB [] t&&true)))=true
  rw[ht];rfl
 rw[yC,yI,if_pos ho];rfl
theorem agt:yu [] [zN,zN,qZ 0] (plD 1)=zN:=abQ (by rw[hmay];kernel_rfl)
theorem agu:yu [] [zN,zN,qZ 0] (plD 2)=qZ 0:=abQ (by rw[hmay];kernel_rfl)
theorem ad2:yy z8 [zN,zN,qZ 0] hp0 1=[(1,0)]:=by
 rw[yy,if_neg (by decide),if_neg (by decide),if_pos (by decide)]
 show flowT false (.mk 4 true 1 0 [yu [] _ (plD 1)]) (yu [] _ (plD 2))++[]=_
 rw[agt,agu];rfl
theorem agv:cnU z8 xn=[(1,0)]:=by
 have h1:yy z8 [zN,zN,qZ 0] hp1 (-1)=[]:=by rw[yy,if_pos (by decide),flO,if_neg (by decide)]
 have h2:yy z8 [zN,zN,qZ 0] hp2 (-1)=[]:=by rw[yy,if_pos (by decide),flO,if_neg (by decide)]
 have h3:yy z8 [zN,zN,qZ 0] hp3 (-1)=[]:=by rw[yy,if_neg (by decide),if_neg (by decide),if_neg (by decide),if_neg (by decide)]
 rw[cnU,acx]
 show yy z8 [zN,zN,qZ 0] hp0 1++(yy z8 [zN,zN,qZ 0] hp1 (-1)++(yy z8 [zN,zN,qZ 0] hp2 (-1)++(yy z8 [zN,zN,qZ 0] hp3 (-1)++[])))=_
 rw[ad2,h1,h2,h3];rfl
theorem agw:ofD z8 0=([(1,0)],0):=by
 rw[ofD,acz,if_neg (by decide)]
 show(ddL (cnU z8 xn),(0:Int))=_
 rw[agv];rfl
theorem agx:atD z8 0 0=([(1,0)],0):=by
 rw[atD,acz,if_neg (by decide)]
 show(if(0:Int)≠0 then _ else(yy z8 (zg z8 xn).tys hp0 ((zg z8 xn).at'.getD 0 0),(0:Int)))=_
 rw[if_neg (by decide),acx]
 exact congrArg (·,(0:Int)) ad2
theorem agy:xr (.mk 4 false 1 0 [zN]) (.mk 4 false 2 0 [zN])=([(1,2)],0):=by kernel_rfl
theorem agz:frD [(1,0)] 2 0=([0,1],0):=by
 rw[frD,if_neg (by decide)]
 congr 1
 refine YJ JN (by decide) λx=>?_
 rw[acr]
 simp only[List.mem_cons,List.not_mem_nil,or_false]
 constructor
 ·rintro⟨h,_⟩;omega
 ·rintro(rfl|rfl)
  ·exact⟨by decide,.base⟩
  ·exact⟨by decide,.step .base (by simp)⟩
theorem afN:BM.mayB 0 []=true:=BM.mayB_true ⟨by decide,by decide,by decide,λk _ h=>by simp at h⟩
theorem afO:([(0,[]),(0,[])]:List xE).any (YO [(0,[]),(0,[])])=false:=by
 have :YO [(0,[]),(0,[])] (0,[])=false:=by rw[YO,afN];rfl
 simp only[List.any_cons,List.any_nil,this];rfl
theorem qe{w:World}{r:Gh}{K:Value→World→Prop}(hr:Holds r w)(hT:TabG r)(h:∀w',Ext w w'→K (.bool true) w'):ze Tryz.prog Tryz.xg #[] w K:=by
 refine Tryz.VH ?_
 unfold Tryz.Y3
 have S:=St.start hr
 refine abP λv2 s2 w2 e2 n2 hu=>?_
 obtain⟨S,_,_⟩:=S.tell e2 n2
 refine S.al λb1 w3 S=>?_
 obtain⟨p0,cap0,vf,rfl,_,_,_,_,hfn⟩:=id hu
 obtain⟨qf,capf,rfl,_,_⟩:=hfn.sl.shape
 refine S.stB (b:=b1) λw4 S=>?_
 have S:StX noX w (r.or s2) w4 [.cell b1 [.slice p0 0 cap0,.slice qf 1 capf,.int .i64 0] 25]:=S
 have hu:UnG (r.or s2) (.agg #[.slice p0 0 cap0,.slice qf 1 capf,.int .i64 0]) z8:=UnG.up hu
 have hT:TabG (r.or s2):=hT.up
 generalize r.or s2=ρ at S hu hT
 refine S.ldB (b:=b1) ?_ rfl
 refine abK S.holds hu λv5 s5 w5 e5 n5 h5=>?_
 rw[agw]at h5⊢
 obtain⟨S,_,_⟩:=S.tell e5 n5
 obtain⟨p5,c5,rfl,_,_⟩:=h5.shape
 refine gp_ ?_
 refine gp_ ?_
 refine S.ldB (b:=b1) ?_ rfl
 refine abH S.holds hu.up λv6 s6 w6 e6 n6 h6=>?_
 rw[agx]at h6⊢
 obtain⟨S,_,_⟩:=S.tell e6 n6
 obtain⟨p6,c6,rfl,_,_⟩:=h6.shape
 refine gp_ ?_
 refine gp_ ?_
 refine J1 λq7 c7 s7 w7 e7 n7 t7=>?_
 obtain⟨S,_,_⟩:=S.tell e7 n7
 refine J1 λq8 c8 s8 w8 e8 n8 t8=>?_
 obtain⟨S,_,_⟩:=S.tell e8 n8
 refine kk S.holds t7.up t8.up λv9 s9 w9 e9 n9 h9=>?_
 rw[agy]at h9⊢
 obtain⟨S,_,_⟩:=S.tell e9 n9
 obtain⟨p9,c9,rfl,_,_⟩:=h9.shape
 refine gp_ ?_
 refine gp_ ?_
 obtain⟨σ,hσ,S⟩:=S.any
 have l5:Le s5 σ:=by rw[hσ];infer_instance
 have l0:Le ρ σ:=by rw[hσ];infer_instance
 clear hσ
 have h5:SlG 2 σ CnC (.slice p5 ([(1,0)]:List CnD).length c5) [(1,0)]:=h5.cells
 refine VG S.holds h5 (by decide) λv10 s10 w10 e10 n10 h10=>?_
 rw[agz]at h10⊢
 obtain⟨S,_,_⟩:=S.tell e10 n10
 obtain⟨p10,c10,rfl,_,_⟩:=h10.shape
 refine gp_ ?_
 refine gp_ ?_
 refine zn (cs:=#[.int .i64 0,.slice none 0 0]) (by kernel_rfl) ?_
 refine zn (cs:=#[.int .i64 0,.slice none 0 0]) (by kernel_rfl) ?_
 refine S.lit (t:=44) (e:=48) (cs:=[.int .i64 0,.slice none 0 0,.int .i64 0,.slice none 0 0]) (by kernel_rfl) λb11 w11 S=>?_
 obtain⟨S,h11,_⟩:=S.litNew b11 (sz:=2) (R:=RwbC nothing) (l:=[(0,[]),(0,[])]) (by exact(xm (c:=[.int .i64 0,.slice none 0 0]) rfl ⟨none,0,rfl,Vu⟩ (kA (c:=[.int .i64 0,.slice none 0 0]) rfl ⟨none,0,rfl,Vu⟩))) (by decide)
 obtain⟨τ,hτ,S⟩:=S.any
 have l1:Le σ τ:=by rw[hτ];infer_instance
 have l2:Le ρ τ:=by rw[hτ];exact⟨λb o h=>.inl (.inl (l0.le b o h))⟩
 have l3:Le (Go.Sh.one b11 [.int .i64 0,.slice none 0 0,.int .i64 0,.slice none 0 0] 48) τ:=by rw[hτ];infer_instance
 have h11:=h11.up' l3 λc x h=>RwbC.up (s:=τ) h
 have hT:TabG τ:=hT.up
 have h5:SlG 2 τ CnC (.slice p5 ([(1,0)]:List CnD).length c5) [(1,0)]:=h5.cells
 have hins:YN [((1:Int),(0:Int))] 2=true:=by decide
 refine Q7 S.holds h5 (by decide) h11 (by decide) hT (λhb=>?_) (λ_ _ i hi _ hne=>?_) λ_ _ _ w12 e12=>?_
 ·exfalso
  rcases hb with hb|hb
  ·rw[afO]at hb;cases hb
  ·rw[show (([(0,[]),(0,[])]:List xE).length:Int)=2 by rfl,hins]at hb;cases hb
 ·exfalso
  have :i=0:=by have :i<1:=hi;omega
  subst this
  exact hne rfl
 have S:=S.go e12
 obtain⟨bq,oq,hq,_,g1,g2,gg⟩:=Zi h5 (i:=0) (by decide)
 subst hq
 refine gS_ ?_
 iterate 1 refine zp (c:=true) (λ_ K2 hK2=>by refine gg_ ?_;exact hK2) ?_
 refine zp (c:=true) (λ_ K2 hK2=>?_) ?_
 ·refine gg_ ?_
  refine s_c (by decide) ?_
  refine zA (n:=2) rfl (λj v hj=>by simpa using S.at (gg j v hj)) ?_
  refine zn (cs:=#[.int .i64 1,.int .i64 0]) (by kernel_rfl) ?_
  refine gg_ ?_
  exact hK2
 iterate 6 refine zp (c:=true) (λ_ K2 hK2=>by refine gg_ ?_;exact hK2) ?_
 refine zp (c:=true) (λ_ K2 hK2=>hK2) ?_
 refine zp (c:=true) (λ_ K2 hK2=>by refine gg_ ?_;exact hK2) ?_
 exact h _ S.ext
end Go.Proofs
end
section
namespace Go.Proofs
open Go.Sh Go.RowKit
variable {t u:TyD}
theorem abR{x:List CnD}{c:CnD}{k:Nat}(h:k<x.length):(decide (c∈x.take k)||(decide (x[k].1=c.1)&&decide (x[k].2=c.2)))=decide (c∈x.take (k+1)):=by
 rw[Bool.eq_iff_iff,Bool.or_eq_true,Bool.and_eq_true,decide_eq_true_eq,decide_eq_true_eq,decide_eq_true_eq,decide_eq_true_eq,List.take_succ_eq_append_getElem h,List.mem_append,List.mem_singleton,Prod.ext_iff]
 exact⟨λh=>h.imp_right λh=>⟨h.1.symm,h.2.symm⟩,λh=>h.imp_right λh=>⟨h.1.symm,h.2.symm⟩⟩
theorem Ys(h:zE zT t u=false):(xr t u).2≠0∧(xr t u).1=[]:=by
 rw[xr]
 split
 ·exact⟨by show(2:Int)≠0;decide,rfl⟩
 ·rw[if_neg (by rw[h];decide)];exact⟨by show(150:Int)≠0;decide,rfl⟩
theorem vB(h:zE zT t u=true):xr t u=(flowT false t u,0)∧isB t=true∧isB u=true∧bare t=bare u:=by
 obtain⟨h1,h2,h3⟩:=y6 h
 exact⟨by rw[xr,h1,h2,if_neg (by decide),if_pos h],h1,h2,h3⟩
theorem ad3:zE zT t u=zE zT u t:=by
 rw[Bool.eq_iff_iff]
 have key:∀{t u:TyD},zE zT t u=true→zE zT u t=true:=fun {t u} h=>by
  obtain⟨h1,h2,h3⟩:=y6 h
  exact(JL h2 h1).2 h3.symm
 exact⟨key,key⟩
theorem YQ{vt vu:Value}{w:World}{r:Gh}{K:Value→World→Prop}(hr:Holds r w)(ht:TyG r vt t)(hu:TyG r vu u)(hT:TabG r)
  (h:∀w',Ext w w'→K (.bool true) w'):ze Tryz.prog Tryz.qP #[vt,vu] w K:=by
 refine Tryz.Yr ?_
 unfold Tryz.ja
 have ht0:=ht;have hu0:=hu
 obtain⟨p1,cap1,rfl,_⟩:=ht
 obtain⟨p2,cap2,rfl,_⟩:=hu
 have S:=St.start hr
 refine S.box λb2 w1 S=>?_
 refine S.box λb3 w2 S=>?_
 have S:StX noX w r w2 [.cell b3 (tyL u p2 cap2) 43,.cell b2 (tyL t p1 cap1) 43]:=S
 refine S.ldB (b:=b2) ?_ rfl
 refine Zl 60 (by decide) (by decide) (by decide) S.holds ht0 λx w3 e3=>?_
 have S:=S.go e3
 refine gp_ ?_
 refine agY (λ_ K2 hK2=>?_) λy w4 e4=>?_
 ·refine S.ldB (b:=b3) ?_ rfl
  refine Zl 60 (by decide) (by decide) (by decide) S.holds hu0 λx w3 e3=>?_
  refine gp_ ?_
  exact hK2 _ _ e3
 have S:=S.go e4
 refine c_b (λ_=>qe S.holds hT λw5 e5=>h _ (S.go e5).ext) (λ_=>?_)
 refine S.ldB (b:=b2) ?_ rfl
 refine S.ldB (b:=b2) ?_ rfl
 refine kk S.holds ht0 ht0 λv5 s5 w5 e5 n5 h5=>?_
 obtain⟨S,_,_⟩:=S.tell e5 n5
 obtain⟨q5,c5,rfl,_,_⟩:=h5.shape
 have hself:∀c∈(xr t t).1,c.1=c.2:=λc hc=>by
  cases ha:zE zT t t with
  |false=>rw [(Ys ha).2]at hc;cases hc
  |true=>
   obtain⟨h1,h2,_⟩:=vB ha
   rw[h1]at hc
   exact adR 48 h2 c hc
 have hfew:(xr t t).1.length≤96:=by
  cases ha:zE zT t t with
  |false=>rw [(Ys ha).2];exact Nat.zero_le _
  |true=>rw [(vB ha).1];exact xJ
 have hnil:(xr t t).2≠0→(xr t t).1=[]:=λhn=>by
  cases ha:zE zT t t with
  |false=>exact (Ys ha).2
  |true=>rw [(vB ha).1]at hn;exact absurd rfl hn
 have hz:(xr t t).2=0→isB t=true:=λhz=>by
  cases ha:zE zT t t with
  |false=>exact absurd hz (Ys ha).1
  |true=>exact (vB ha).2.1
 generalize (xr t t).1=L5 at h5 hself hfew hnil
 generalize (xr t t).2=E5 at hnil hz
 refine gp_ ?_
 refine gp_ ?_
 refine zq (ι:=Nat) (λi=>[.int .i64 (i:Nat)]) (λi w'=>i≤L5.length∧StX noX w (r.or s5) w' [.cell b3 (tyL u p2 cap2) 43,.cell b2 (tyL t p1 cap1) 43]) (λi=>L5.length-i) 0 rfl ⟨Nat.zero_le _,S⟩ ?_
 repeat clear S
 rintro i d w6 ⟨hi,S⟩ K4 hK4
 rw[gdz]
 refine gp_ ?_
 refine gp_ ?_
 refine zo (λhlt=>?_) (λhge=>?_)
 ·have hlt:i<L5.length:=by omega
  obtain⟨b,off,hpE,_,hc1,hc2,_⟩:=Zi h5 hlt
  subst hpE
  have S:=S.go (Ext.drew _)
  refine gg_ ?_
  refine zi (v:=.int .i64 L5[i].1) (by simpa using S.at (hc1.up (s:=r.or s5))) ?_
  refine gg_ ?_
  refine zi (v:=.int .i64 L5[i].2) (by simpa using S.at (hc2.up (s:=r.or s5))) ?_
  refine gp_ ?_
  refine c_f (by rw[hself _ (List.getElem_mem hlt)];simp) ?_
  refine gp_ ?_
  exact hK4 (i+1) _ ⟨hlt,S⟩ (by omega)
 clear hK4 K4 hge hi
 refine gp_ ?_
 refine zo (λhne=>?_) (λheq=>?_)
 ·obtain rfl:=hnil hne
  refine gp_ ?_
  refine gp_ ?_
  refine zY (c:=true) (λ_ K2 hK2=>qe S.holds hT.up λw7 e7=>hK2 _ e7) λw7 e7=>?_
  have:=h _ (S.go e7).ext
  simpa using this
 have hBt:=hz (by omega)
 refine S.ldB (b:=b2) ?_ rfl
 refine S.ldB (b:=b3) ?_ rfl
 refine kk S.holds ht0.up hu0.up λv7 s7 w7 e7 n7 h7=>?_
 obtain⟨S,_,_⟩:=S.tell e7 n7
 obtain⟨q7,c7,rfl,_,_⟩:=h7.shape
 refine gp_ ?_
 refine gp_ ?_
 refine S.ldB (b:=b3) ?_ rfl
 refine S.ldB (b:=b2) ?_ rfl
 refine kk S.holds hu0.up ht0.up λv8 s8 w8 e8 n8 h8=>?_
 obtain⟨S,_,_⟩:=S.tell e8 n8
 obtain⟨q8,c8,rfl,_,_⟩:=h8.shape
 refine gp_ ?_
 refine gp_ ?_
 refine gp_ ?_
 refine S.ldB (b:=b2) ?_ rfl
 refine S.ldB (b:=b3) ?_ rfl
 refine yT S.holds ht0.up hu0.up λw9 e9=>?_
 have S:=S.go e9
 have hsym:=ad3 (t:=t) (u:=u)
 cases ha:zE zT t u with
 |false=>
  rw[ha]at hsym
  obtain⟨z1,z2⟩:=Ys ha
  obtain⟨z3,z4⟩:=Ys hsym.symm
  rw[decide_eq_false z1]
  refine gp_ ?_
  refine zj (c:=false) (λ_ K2 hK2=>?_) ?_
  ·refine gp_ ?_
   refine gp_ ?_
   rw[decide_eq_false z1,decide_eq_false z3]
   refine gp_ ?_
   exact hK2
  refine c_f rfl ?_
  refine gp_ ?_
  refine c_t (by simpa using z1) ?_
  exact qe S.holds hT.up λw10 e10=>h _ (S.go e10).ext
 |true=>
  rw[ha]at hsym
  obtain⟨z1,zt,zu,zb⟩:=vB ha
  obtain⟨z3,_⟩:=vB hsym.symm
  have hfr:=V3 48 (both:=false) zt zu zb
  have hfr2:=V3 48 (both:=false) zu zt zb.symm
  have hfl:=aeD 48 (both:=false) zt zu zb
  rw[z1]at h7⊢
  rw[z3]at h8⊢
  have hx96:(flowT false t u).length≤96:=xJ
  have hy96:(flowT false u t).length≤96:=xJ
  change (flowT false t u).length=(flowT false u t).length at hfl
  have hfr:t.regs.length=u.regs.length∧t.regs.length≤(flowT false t u).length∧∀c∈t.regs.zip u.regs,c∈flowT false t u:=hfr
  have hfr2:u.regs.length=t.regs.length∧u.regs.length≤(flowT false u t).length∧∀c∈u.regs.zip t.regs,c∈flowT false u t:=hfr2
  dsimp only at h7 h8⊢
  generalize flowT false t u=X at h7 hfr hfl hx96⊢
  generalize flowT false u t=Y at h8 hfr2 hfl hy96⊢
  rw[show decide ((0:Int)=0)=true from rfl]
  refine gp_ ?_
  refine zj (c:=false) (λ_ K2 hK2=>by refine gg_ ?_;exact hK2) ?_
  refine c_f rfl ?_
  refine gp_ ?_
  refine c_f rfl ?_
  have S:=S.go (Ext.drew _)
  refine S.ldB (b:=b2) ?_ rfl
  refine S.ldB (b:=b3) ?_ rfl
  refine yB S.holds ht0.up λv10 w10 e10 hw10=>⟨e10,?_⟩
  have S:=S.take e10 hw10
  obtain⟨p10,cap10,rfl,_⟩:=S.rowS v10
  rw[show zx t=t.regs by rw[zx,zt];rfl]at S⊢
  obtain⟨s10,S,hs10,_,_⟩:=S.doneRow (l:=t.regs) kY (by decide) rfl
  refine yB S.holds hu0.up λv11 w11 e11 hw11=>?_
  have S:=S.take e11 hw11
  obtain⟨p11,cap11,rfl,_⟩:=S.rowS v11
  rw[show zx u=u.regs by rw[zx,zu];rfl]at S⊢
  obtain⟨s11,S,hs11,_,_⟩:=S.doneRow (l:=u.regs) kY (by decide) rfl
  have hr48:t.regs.length≤48:=kv zt
  have k7:=h7.cells (s:=((((r.or s5).or s7).or s8).or s10).or s11)
  have k8:=h8.cells (s:=((((r.or s5).or s7).or s8).or s10).or s11)
  have k10:=hs10.cells (s:=((((r.or s5).or s7).or s8).or s10).or s11)
  have k11:=hs11.cells (s:=((((r.or s5).or s7).or s8).or s10).or s11)
  have hT':TabG (((((r.or s5).or s7).or s8).or s10).or s11):=hT.up
  have S:StX noX w (((((r.or s5).or s7).or s8).or s10).or s11) w11 []:=S.less (λ_ _ h=>h) (List.nil_sublist _)
  generalize ((((r.or s5).or s7).or s8).or s10).or s11=ρ at S k7 k8 k10 k11 hT'
  generalize t.regs=P at k10 hfr hfr2 hr48⊢
  generalize u.regs=Q at k11 hfr hfr2⊢
  refine zq (ι:=Nat) (λi=>[.int .i64 (i:Nat)]) (λi w'=>i≤P.length∧StX noX w ρ w' []) (λi=>P.length-i) 0 rfl ⟨Nat.zero_le _,S⟩ ?_
  repeat clear S
  rintro i d w12 ⟨hi,S⟩ K4 hK4
  rw[gdz]
  refine gp_ ?_
  refine gp_ ?_
  refine zo (λhlt=>?_) (λhge=>?_)
  ·have hlt:i<P.length:=by omega
   have hltq:i<Q.length:=by omega
   obtain⟨bp,op,hpp,_,hcp⟩:=qF k10 hlt
   obtain⟨bq,oq,hqq,_,hcq⟩:=qF k11 hltq
   have hin:(P[i],Q[i])∈X:=hfr.2.2 _ (by rw[List.mem_iff_getElem];exact⟨i,by rw[List.length_zip];omega,by rw[List.getElem_zip]⟩)
   have hin2:(Q[i],P[i])∈Y:=hfr2.2.2 _ (by rw[List.mem_iff_getElem];exact⟨i,by rw[List.length_zip];omega,by rw[List.getElem_zip]⟩)
   subst hpp
   subst hqq
   refine zq (ι:=Nat) (λk=>[.bool (decide ((P[i],Q[i])∈X.take k)),.int .i64 (k:Nat)]) (λk w'=>k≤X.length∧StX noX w ρ w' []) (λk=>X.length-k) 0 rfl ⟨Nat.zero_le _,S⟩ ?_
   repeat clear S
   rintro k d w13 ⟨hk,S⟩ K5 hK5
   simp only[gdz,gds]
   refine gp_ ?_
   refine gp_ ?_
   refine zo (λhltk=>?_) (λhgek=>?_)
   ·have hltk:k<X.length:=by omega
    obtain⟨bx,ox,hxx,_,_,_,hcx⟩:=Zi k7 hltk
    subst hxx
    have S:=S.go (Ext.drew _)
    refine zj (c:=decide (X[k].1=P[i])&&decide (X[k].2=Q[i])) (λ_ K2 hK2=>?_) ?_
    ·refine gg_ ?_
     refine zA (n:=2) rfl (λj v hj=>by rw[tnc];exact S.at (hcx j v hj)) ?_
     refine gg_ ?_
     refine zi (by rw[tnc];exact S.at hcp) ?_
     refine gg_ ?_
     refine zi (by rw[tnc];exact S.at hcq) ?_
     refine zn (cs:=#[.int .i64 P[i],.int .i64 Q[i]]) (by kernel_rfl) ?_
     refine gg_ ?_
     exact hK2
    rw[abR (c:=(P[i],Q[i])) hltk]
    refine gp_ ?_
    exact hK5 (k+1) _ ⟨hltk,S⟩ (by omega)
   ·obtain rfl:k=X.length:=by omega
    rw[List.take_length,decide_eq_true hin]
    clear hK5
    refine zq (ι:=Nat) (λk=>[.bool (decide ((Q[i],P[i])∈Y.take k)),.int .i64 (k:Nat)]) (λk w'=>k≤Y.length∧StX noX w ρ w' []) (λk=>Y.length-k) 0 rfl ⟨Nat.zero_le _,S⟩ ?_
    repeat clear S
    rintro k d w13 ⟨hk,S⟩ K5 hK5
    simp only[gdz,gds]
    refine gp_ ?_
    refine gp_ ?_
    refine zo (λhltk=>?_) (λhgek=>?_)
    ·have hltk:k<Y.length:=by omega
     obtain⟨bx,ox,hxx,_,_,_,hcx⟩:=Zi k8 hltk
     subst hxx
     have S:=S.go (Ext.drew _)
     refine zj (c:=decide (Y[k].1=Q[i])&&decide (Y[k].2=P[i])) (λ_ K2 hK2=>?_) ?_
     ·refine gg_ ?_
      refine zA (n:=2) rfl (λj v hj=>by rw[tnc];exact S.at (hcx j v hj)) ?_
      refine gg_ ?_
      refine zi (by rw[tnc];exact S.at hcq) ?_
      refine gg_ ?_
      refine zi (by rw[tnc];exact S.at hcp) ?_
      refine zn (cs:=#[.int .i64 Q[i],.int .i64 P[i]]) (by kernel_rfl) ?_
      refine gg_ ?_
      exact hK2
     rw[abR (c:=(Q[i],P[i])) hltk]
     refine gp_ ?_
     exact hK5 (k+1) _ ⟨hltk,S⟩ (by omega)
    ·obtain rfl:k=Y.length:=by omega
     rw[List.take_length,decide_eq_true hin2]
     refine gp_ ?_
     refine zj (c:=false) (λ_ K2 hK2=>by refine gg_ ?_;exact hK2) ?_
     refine c_f rfl ?_
     refine gp_ ?_
     exact hK4 (i+1) _ ⟨hlt,S⟩ (by omega)
  ·refine gp_ ?_
   refine gp_ ?_
   refine gp_ ?_
   rw[decide_eq_true (show((P.length:Nat):Int)≤((X.length:Nat):Int)by omega)]
   refine zp (c:=true) (λ_ K2 hK2=>?_) ?_
   ·refine gp_ ?_
    refine gp_ ?_
    refine gp_ ?_
    rw[decide_eq_true (show((Y.length:Nat):Int)=((X.length:Nat):Int)by omega)]
    exact hK2
   refine zY (c:=true) (λ_ K2 hK2=>qe S.holds hT' λw14 e14=>hK2 _ e14) λw14 e14=>?_
   exact h _ (S.go e14).ext
end Go.Proofs
end
