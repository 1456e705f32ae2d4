/-
  Contracts and plain laws that the last text leans on.
-/
import Derived.Test.YthmakcmiggpoeaaGreatDoorQDb
import Derived.Test.YthmakcmiggpoeaaGreatDoorQDa
import Derived.ChangeSame
import Derived.ChangeStays
import Derived.ReadAgain
import Derived.ProofKit
import Derived.OpenShut
import Derived.Deep.DeepHandedRow
import Derived.Lib.LaidTab
import Derived.Lib.SmallJoins
import Derived.ChangeArms
import Derived.DataReads
set_option maxRecDepth 100000
set_option maxHeartbeats 8000000
set_option linter.unusedVariables false
set_option linter.unusedSimpArgs false
namespace Go.Proofs
open Go.Sh
section
structure StD where
 name:ByteArray
 fs:List (ByteArray×TyD)
def ac1(f:ByteArray×TyD):Dat:=.agg [.str f.1,f.2.dat]
def StD.dat(s:StD):Dat:=.agg [.str s.name,.sl 6 (s.fs.map ac1)]
def FlG(r:Gh)(p:Option Addr)(fs:List (ByteArray×TyD)):Prop:=RepS r 6 p 0 (fs.map ac1)
def StG(r:Gh)(p:Option Addr)(ss:List StD):Prop:=RepS r 2 p 0 (ss.map StD.dat)
theorem StG.up{r s:Gh}{p:Option Addr}{ss:List StD}(h:StG r p ss)[l:Le r s]:StG s p ss:=RepS.up' l h
theorem Jl{r:Gh}{p:Option Addr}{fs:List (ByteArray×TyD)}(h:FlG r p fs){k:Nat}(hk:k<fs.length):∃b off c,p=some ⟨b,off,none⟩∧c.length=5∧
  (∀j v,(Value.string fs[k].1::c)[j]? = some v→Ob r λw=>w.cell? ⟨b,off+k*6+j,none⟩=some v)∧TyG r (.agg c.toArray) fs[k].2:=by
 obtain⟨c,h1,h2,h3⟩:=RepS.get h (i:=k) (d:=ac1 fs[k]) (by rw[List.getElem?_map,gqg hk];rfl)
 obtain⟨a1,b1,rfl,e1,a2,b2,rfl,e2,e3⟩:=h3
 obtain rfl:a1=_:=e1
 obtain rfl:b2=[]:=e3
 rw[List.append_nil]at h1 h2
 obtain⟨b,off,rfl,_⟩:=h2 0 _ rfl
 refine⟨b,off,a2,rfl,by simpa using h1,λj v hj=>?_,TyG.of_rep e2⟩
 obtain⟨b',off',hp,ho⟩:=h2 j v hj
 cases hp
 rwa[Nat.zero_add]at ho
theorem vh{r:Gh}{p:Option Addr}{ss:List StD}(h:StG r p ss){i:Nat}(hi:i<ss.length):∃b off q cap,p=some ⟨b,off,none⟩∧
  (Ob r λw=>w.cell? ⟨b,off+i*2+1,none⟩=some (.slice q ss[i].fs.length cap))∧(q=none→cap=0)∧ss[i].fs.length≤cap∧FlG r q ss[i].fs:=by
 obtain⟨c,h1,h2,h3⟩:=RepS.get h (i:=i) (d:=StD.dat ss[i]) (by rw[List.getElem?_map,gqg hi];rfl)
 obtain⟨a1,b1,rfl,e1,a2,b2,rfl,e2,e3⟩:=h3
 obtain rfl:a1=_:=e1
 obtain rfl:b2=[]:=e3
 obtain⟨q,cap,rfl,hq,hc,hf⟩:=e2
 rw[List.length_map]at hc h2
 obtain⟨b,off,rfl,_⟩:=h2 0 _ rfl
 obtain⟨b',off',hp,ho⟩:=h2 1 (.slice q ss[i].fs.length cap) (by rfl)
 cases hp
 rw[Nat.zero_add]at ho
 exact⟨b,off,q,cap,rfl,ho,hq,hc,hf⟩
def ze(ss:List StD)(k:Int):List TyD:=match ss[k.toNat]? with|some s=>s.fs.map (·.2)|none=>[]
def Kid(ss:List StD)(k j:Int):Prop:=∃t∈ze ss k,t.k=5∧t.st=j
inductive Rch(ss:List StD):Int→Int→Prop
 |one {k j:Int}:Kid ss k j→Rch ss k j
 |more {k j i:Int}:Rch ss k j→Kid ss j i→Rch ss k i
theorem Rch.trans{ss:List StD}{a b c:Int}(h:Rch ss a b)(k:Rch ss b c):Rch ss a c:=by
 induction k with
 |one e=>exact .more h e
 |more _ e ih=>exact .more ih e
def kW(ss:List StD):Prop:=∀k,∀t∈ze ss k,zA ss.length 48 t=true
theorem Y7{n:Int}{m:Nat}{t:TyD}(h:zA n (m+1) t=true)(hk:t.k=5):0≤t.st∧t.st<n∧t.of=[]:=by
 rw[yR]at h
 rw[if_neg (by omega),if_pos hk]at h
 simp only[gba,gdt]at h
 exact⟨h.1.2,h.2,List.eq_nil_of_length_eq_zero h.1.1.2⟩
theorem ZW{ss:List StD}(hg:kW ss){k j:Int}(h:Kid ss k j):0≤j∧j<ss.length:=by
 obtain⟨t,ht,h5,rfl⟩:=h
 have:=Y7 (hg k t ht) h5
 exact⟨this.1,this.2.1⟩
theorem afE{ss:List StD}(hg:kW ss){k j:Int}(h:Rch ss k j):0≤j∧j<ss.length:=by
 cases h with
 |one h=>exact ZW hg h
 |more _ h=>exact ZW hg h
open Classical in
noncomputable def rkS(ss:List StD)(k:Int):Nat:=(List.range ss.length).countP λj:Nat=>decide (Rch ss k (j:Int))
noncomputable def rkT(ss:List StD)(t:TyD):Nat:=if t.k=5 then rkS ss t.st+1 else 0
open Classical in
theorem ahP(ss:List StD)(t:TyD):rkT ss t≤ss.length+1:=by
 unfold rkT rkS
 split
 ·have:=List.countP_le_length (p:=λj:Nat=>decide (Rch ss t.st (j:Int))) (l:=List.range ss.length)
  rw[List.length_range]at this
  omega
 ·omega
theorem abw{p q:Nat→Bool}:∀{l:List Nat},(∀x∈l,p x=true→q x=true)→(∃x∈l,p x=false∧q x=true)→l.countP p<l.countP q
 |[],_,h=>by obtain⟨x,hx,_⟩:=h;cases hx
 |a::l,h1,h2=>by
  rw[List.countP_cons,List.countP_cons]
  have hle:l.countP p≤l.countP q:=List.countP_mono_left λx hx=>h1 x (List.mem_cons_of_mem _ hx)
  have ha:=h1 a List.mem_cons_self
  by_cases hex:∃x∈l,p x=false∧q x=true
  ·have:=abw (λx hx=>h1 x (List.mem_cons_of_mem _ hx)) hex
   cases hp:p a<;>cases hq:q a<;>simp_all<;>omega
  ·obtain⟨x,hx,hx1,hx2⟩:=h2
   rcases List.mem_cons.1 hx with rfl|hx
   ·rw[hx1,hx2];simp;omega
   ·exact absurd ⟨x,hx,hx1,hx2⟩ hex
open Classical in
theorem ahQ{ss:List StD}(hg:kW ss)(hac:∀k,¬Rch ss k k){t u:TyD}(h5:t.k=5)(hu:u∈ze ss t.st):rkT ss u<rkT ss t:=by
 unfold rkT
 rw[if_pos h5]
 split
 ·rename_i hu5
  have hk:Kid ss t.st u.st:=⟨u,hu,hu5,rfl⟩
  have hin:=ZW hg hk
  have:=abw (p:=λj:Nat=>decide (Rch ss u.st (j:Int))) (q:=λj:Nat=>decide (Rch ss t.st (j:Int))) (l:=List.range ss.length)
   (λx _ hx=>gde (Rch.trans (.one hk) (of_decide_eq_true hx)))
   ⟨u.st.toNat,List.mem_range.2 (by omega),decide_eq_false (by rw[Int.toNat_of_nonneg hin.1];exact hac _),gde (by rw[Int.toNat_of_nonneg hin.1];exact .one hk)⟩
  unfold rkS
  omega
 ·omega
def xr:List Nat→Nat
 |[]=>0
 |x::l=>x+xr l
theorem YJ:∀(a b:List Nat),xr (a++b)=xr a+xr b
 |[],b=>by simp[xr]
 |x::a,b=>by simp only[List.cons_append,xr,YJ a b];omega
def wF(ss:List StD):Nat→TyD→Nat
 |0,_=>1
 |m+1,t=>if t.k=5 then xr ((ze ss t.st).map (wF ss m))else 1
def dF(ss:List StD):Nat→TyD→Bool
 |0,t=>decide (t.k=3)
 |m+1,t=>if t.k=5 then(ze ss t.st).any (dF ss m)else decide (t.k=3)
def xP(n:Nat)(p:Nat→Bool):Nat:=((List.range n).find? p).getD n
theorem afF{n:Nat}{p:Nat→Bool}(h:∀j,j<n→p j=false):xP n p=n:=by
 rw[xP,List.find?_eq_none.2 (by intro x hx;rw[h x (List.mem_range.1 hx)];decide)];rfl
theorem afG{n i:Nat}{p:Nat→Bool}(hi:i<n)(hp:p i=true)(h:∀j,j<i→p j=false):xP n p=i:=by
 have :(List.range n).find? p=some i:=by
  rw[List.find?_range_eq_some]
  exact⟨hp,List.mem_range.2 hi,λj hj=>by rw[h j hj];rfl⟩
 rw[xP,this];rfl
theorem qu{n:Nat}{p:Nat→Bool}(h:¬xP n p<n):∀j,j<n→p j=false:=by
 intro j hj
 by_cases hp:∀j,j<n→p j=false
 ·exact hp j hj
 ·exfalso
  apply h
  unfold xP
  cases hf:(List.range n).find? p with
  |none=>
   exfalso;apply hp
   intro j hj
   have:=List.find?_eq_none.1 hf j (List.mem_range.2 hj)
   simpa using this
  |some x=>exact List.mem_range.1 (List.mem_of_find?_eq_some hf)
def jH(ss:List StD)(k:Nat):Bool:=
 (decide ((ze ss k).length<1)||decide (8<(ze ss k).length))||(ze ss k).any λt=>!zA ss.length 48 t||decide (0<t.regs.length)
open Classical in
noncomputable def Za(ss:List StD)(k:Nat):Bool:=decide (Rch ss k k)
def Ve(ss:List StD)(k:Nat):Bool:=decide (16<wF ss 40 (.mk 5 false 0 k []))
noncomputable def zI(ss:List StD):Int×Int:=
 if 32<ss.length then(32,2)
 else if xP ss.length (jH ss)<ss.length then(xP ss.length (jH ss),2)
 else if xP ss.length (Za ss)<ss.length then(xP ss.length (Za ss),2)
 else if xP ss.length (Ve ss)<ss.length then(xP ss.length (Ve ss),2)
 else(0,0)
theorem kX{ss:List StD}{i:Nat}(hi:i<ss.length):ze ss i=ss[i].fs.map (·.2):=by
 rw[ze,tnc,gqg hi]
theorem QF{ss:List StD}{i:Nat}(hi:i<ss.length):(ze ss i).length=ss[i].fs.length:=by
 rw[kX hi,List.length_map]
theorem abx{ss:List StD}{k:Int}(h:¬k.toNat<ss.length):ze ss k=[]:=by
 rw[ze,List.getElem?_eq_none (by omega)]
theorem aaU{ss:List StD}(h:∀k,k<ss.length→jH ss k=false):kW ss:=by
 intro k t ht
 by_cases hk:k.toNat<ss.length
 ·have:=h k.toNat hk
  have e:ze ss (k.toNat:Int)=ze ss k:=by rw[ze,ze,tnc]
  rw[jH,e,Bool.or_eq_false_iff]at this
  have:=List.any_eq_false.1 this.2 t ht
  simp only[Bool.or_eq_true,Bool.not_eq_true',not_or]at this
  simpa using this.1
 ·rw[abx hk]at ht;cases ht
theorem ael{ss:List StD}(hg:kW ss)(h:∀k,k<ss.length→Za ss k=false):∀k,¬Rch ss k k:=by
 intro k hk
 have hin:=afE hg hk
 have:=h k.toNat (by omega)
 rw[Za,decide_eq_false_iff_not,Int.toNat_of_nonneg hin.1]at this
 exact this hk
theorem qw{ss:List StD}(h:(zI ss).2=0):ss.length≤32∧(∀k,k<ss.length→jH ss k=false)∧kW ss∧(∀k,¬Rch ss k k)∧(∀k,k<ss.length→Ve ss k=false)∧zI ss=(0,0):=by
 unfold zI at h⊢
 split at h
 ·cases h
 split at h
 ·cases h
 split at h
 ·cases h
 split at h
 ·cases h
 rename_i h1 h2 h3 h4
 have g:=aaU (qu h2)
 refine⟨by omega,qu h2,g,ael g (qu h3),qu h4,?_⟩
 rw[if_neg h1,if_neg h2,if_neg h3,if_neg h4]
theorem afH{α:Type}(f:α→Nat){l:List α}{i:Nat}(hi:i<l.length):xr ((l.take (i+1)).map f)=xr ((l.take i).map f)+f l[i]:=by
 rw[List.take_succ_eq_append_getElem hi,List.map_append,YJ];simp[xr]
theorem aia{α:Type}(f:α→Nat)(l:List α)(i:Nat):xr ((l.take i).map f)≤xr (l.map f):=by
 have:=congrArg (λl=>xr (l.map f)) (List.take_append_drop i l)
 simp only[List.map_append,YJ]at this
 rw[← this]
 exact Nat.le_add_right _ _
theorem Vf{r:Gh}{c:List Value}{s:ByteArray}{t:TyD}(h:TyG r (.agg c.toArray) t):∀u∈(Value.string s::c).toArray.toList,u.oneCell'=true:=by
 intro u hu
 rcases List.mem_cons.1 (by simpa using hu)with rfl|hu
 ·rfl
 ·exact ah8 h u (by simpa using hu)
theorem _root_.Go.Sh.StX.fty{X:Nat→Prop}{w0 w:World}{r:Gh}{L:List Asr}{f:List Value→List Asr}{T:TypeId}{b:Nat}{s:ByteArray}{c:List Value}(S:StX X w0 r w L)[h:At b L (.string s::c) T f](hc:c.length=5){K:Value→Prop}(k:K (.agg c.toArray)):
  opQ Tryz.prog w (Instr.loadAt 43 (.pointer (some ⟨b,0+1,none⟩))) K:=
 S.ldN (h:=h) (n:=5) (vs:=c) k (by rw[List.drop_succ_cons,List.drop_zero,List.take_of_length_le (by omega)]) hc
theorem abZ{ss:List StD}{p:Option Addr}{cap:Nat}(hg:kW ss)(hac:∀k,¬Rch ss k k):∀(m:Nat){t:TyD}{w:World}{r:Gh}{v:Value}{K:Value→World→Prop},m≤100→rkT ss t≤m→zA ss.length 48 t=true→ss.length≤32→(∀k,(ze ss k).length≤8)→
  Holds r w→StG r p ss→TyG r v t→(∀w',Ext w w'→K (.int .i64 (min (wF ss m t) 17:Nat)) w')→zc Tryz.prog Tryz.qX #[.slice p ss.length cap,v] w K:=by
 intro m
 induction m with
 |zero=>
  intro t w r v K _ hrk hl h32 h8 hr hs hv h
  have h5:¬t.k=5:=λh=>by unfold rkT at hrk;rw[if_pos h]at hrk;omega
  refine Tryz.Y1 ?_
  unfold Tryz.vY
  obtain⟨p1,cap1,rfl,_⟩:=hv
  have S:=St.start hr
  refine S.box λb3 w1 S=>?_
  refine gG_ ?_
  refine zj (λ_=>h _ S.ext) (λhn=>absurd (by omega) h5)
 |succ m ih=>
  intro t w r v K hm hrk hl h32 h8 hr hs hv h
  refine Tryz.Y1 ?_
  unfold Tryz.vY
  obtain⟨p1,cap1,rfl,_⟩:=hv
  have S:=St.start hr
  refine S.box λb3 w1 S=>?_
  refine gG_ ?_
  refine zj (λhn=>?_) (λh5=>?_)
  ·rw[wF,if_neg (by omega)]at h
   exact h _ S.ext
  have h5:t.k=5:=by omega
  obtain⟨hst0,hst1,_⟩:=Y7 hl h5
  have hlt:t.st.toNat<ss.length:=by omega
  obtain⟨b,off,q,capq,rfl,hcell,_,_,hf⟩:=vh hs hlt
  refine gG_ ?_
  refine zf (S.at hcell) ?_
  have htl:ze ss t.st=ss[t.st.toNat].fs.map (·.2):=by
   rw[← kX hlt];simp only[ze,tnc]
  have hlen:(ze ss t.st).length=ss[t.st.toNat].fs.length:=by rw[htl,List.length_map]
  have h88:=h8 t.st
  refine gG_ ?_
  refine zk (ι:=Nat) (λi=>[.int .i64 (xr (((ze ss t.st).take i).map (wF ss m)):Nat),.int .i64 i]) (λi w'=>i≤(ze ss t.st).length∧xr (((ze ss t.st).take i).map (wF ss m))≤16∧St w r w' _)
   (λi=>(ze ss t.st).length-i) 0 rfl ⟨gzl _,by simp[xr],S⟩ ?_
  clear S
  rintro i d w2 ⟨hi,hsum,S⟩ K6 hK6
  rw[gdz,gds,gdz]
  refine gG_ ?_
  refine c_b (λhlt2=>?_) (λhge=>?_)
  ·have hlt2:i<ss[t.st.toNat].fs.length:=by simpa using hlt2
   have hlt3:i<(ze ss t.st).length:=by omega
   obtain⟨b2,off2,c,rfl,hcl,hcc,hty⟩:=Jl hf hlt2
   refine gG_ ?_
   refine zq (n:=6) (c:=.string ss[t.st.toNat].fs[i].1::c) (by simp[hcl]) (λj v hj=>by rw[tnc];exact S.at (hcc j v hj)) ?_
   refine S.al λb7 w3 S=>?_
   refine S.stB (cs:=(Value.string ss[t.st.toNat].fs[i].1::c).toArray) (λw4 S=>?_) rfl (by simp[hcl]) (Vf hty)
   refine gP_ ?_
   refine S.fty hcl ?_
   have hel:(ze ss t.st)[i]=ss[t.st.toNat].fs[i].2:=by simp only[htl,List.getElem_map]
   have hmem:ss[t.st.toNat].fs[i].2∈ze ss t.st:=by rw[← hel];exact gem hlt3
   have hrk2:=ahQ hg hac h5 hmem
   refine ih (by omega) (by omega) (hg _ _ hmem) h32 h8 S.holds hs hty λw5 e5=>?_
   have S:=(S.go e5).tl
   have hst:=afH (wF ss m) hlt3
   rw[hel]at hst
   refine gP_ ?_
   refine gP_ ?_
   have htot:xr (((ze ss t.st).take (i+1)).map (wF ss m))≤wF ss (m+1) t:=by
    rw[wF,if_pos h5];exact aia _ _ _
   refine c_b (λhbig=>?_) (λhsm=>?_)
   ·have hbig:16<xr (((ze ss t.st).take i).map (wF ss m))+min (wF ss m ss[t.st.toNat].fs[i].2) 17:=by
     have:=of_decide_eq_true hbig;omega
    have e:min (wF ss (m+1) t) 17=17:=by omega
    rw[e]at h
    exact h _ S.ext
   ·have hsm:¬16<xr (((ze ss t.st).take i).map (wF ss m))+min (wF ss m ss[t.st.toNat].fs[i].2) 17:=by
     have:=of_decide_eq_false hsm;omega
    refine gP_ ?_
    have e:(xr (((ze ss t.st).take i).map (wF ss m)):Int)+((min (wF ss m ss[t.st.toNat].fs[i].2) 17:Nat):Int)=(xr (((ze ss t.st).take (i+1)).map (wF ss m)):Nat):=by omega
    rw[e,show ((i:Int)+1)=((i+1:Nat):Int)by omega]
    exact hK6 (i+1) _ ⟨hlt3,by omega,S⟩ (by omega)
  ·have hie:i=(ze ss t.st).length:=by
    have :¬i<ss[t.st.toNat].fs.length:=by simpa using hge
    omega
   rw[hie,List.take_length]at hsum⊢
   have e:min (wF ss (m+1) t) 17=xr ((ze ss t.st).map (wF ss m)):=by
    rw[wF,if_pos h5];omega
   rw[e]at h
   exact h _ S.ext
def mt(met:List Bool)(j:Int):Bool:=met.getD j.toNat false
def cf:List Bool→Nat
 |[]=>0
 |b::l=>(if b then 0 else 1)+cf l
theorem afI:∀{l:List Bool}{i:Nat},l[i]? = some false→cf (l.set i true)+1=cf l
 |[],i,h=>by simp at h
 |b::l,0,h=>by
  simp only[List.getElem?_cons_zero,Option.some.injEq]at h
  subst h
  simp[cf];omega
 |b::l,i+1,h=>by
  have:=afI (l:=l) (i:=i) (by simpa using h)
  simp only[List.set_cons_succ,cf];omega
theorem ai7{met:List Bool}{i j:Int}(hi:0≤i)(hj:0≤j)(hlt:i.toNat<met.length):mt (met.set i.toNat true) j=(decide (j=i)||mt met j):=by
 unfold mt
 rw[ggd,ggd,List.getElem?_set]
 by_cases h:i.toNat=j.toNat
 ·have :j=i:=by omega
  subst this
  simp[hlt]
 ·have :¬j=i:=λe=>h (by rw[e])
  rw[if_neg h];simp[this]
structure QI(ss:List StD)(k:Int)(N:Nat)(W:List Int)(met:List Bool)(x:Option (Int×Nat)):Prop where
 len:met.length=N
 dom:ss.length≤N
 rng:∀y∈W,0≤y∧y<ss.length
 s1:∀j,0≤j→mt met j=true→Rch ss k j
 s2:∀y∈W,y=k∨mt met y=true
 s3:∀y,0≤y→(y=k∨mt met y=true)→y∉W→(∀q,x=some q→y≠q.1)→∀j,Kid ss y j→mt met j=true
 s4:∀q,x=some q→(q.1=k∨Rch ss k q.1)∧∀t∈(ze ss q.1).take q.2,t.k=5→mt met t.st=true
theorem QI.start{ss:List StD}{k:Int}{N:Nat}(hd:ss.length≤N)(h0:0≤k)(h1:k<ss.length):QI ss k N [k] (List.replicate N false) none:=by
 have hm:∀j,mt (List.replicate N false) j=false:=λj=>by
  unfold mt;rw[ggd,List.getElem?_replicate];split<;>rfl
 refine⟨List.length_replicate,hd,by simp;omega,λj _ h=>?_,by simp,λy _ h hn=>?_,λq h=>by cases h⟩
 ·rw[hm]at h;cases h
 ·rcases h with rfl|h
  ·simp at hn
  ·rw[hm]at h;cases h
theorem QI.pop{ss:List StD}{k x:Int}{N:Nat}{W:List Int}{met:List Bool}(h:QI ss k N (x::W) met none):QI ss k N W met (some (x,0)):=by
 have hx:=h.rng x List.mem_cons_self
 refine⟨h.len,h.dom,λy hy=>h.rng y (List.mem_cons_of_mem _ hy),h.s1,λy hy=>h.s2 y (List.mem_cons_of_mem _ hy),λy hy hk hn hx j hj=>?_,λq hq=>?_⟩
 ·refine h.s3 y hy hk ?_ (λq hq=>by cases hq) j hj
  intro hm
  rcases List.mem_cons.1 hm with rfl|hm
  ·exact hx _ rfl rfl
  ·exact hn hm
 ·cases hq
  refine⟨(h.s2 x List.mem_cons_self).imp id (h.s1 x hx.1),by simp⟩
theorem QI.skip{ss:List StD}{k x:Int}{N i:Nat}{W:List Int}{met:List Bool}(h:QI ss k N W met (some (x,i)))(hi:i<(ze ss x).length)(hs:(ze ss x)[i].k=5→mt met (ze ss x)[i].st=true):QI ss k N W met (some (x,i+1)):=by
 refine⟨h.len,h.dom,h.rng,h.s1,h.s2,λy hy hk hn hx j hj=>h.s3 y hy hk hn (λq hq=>by cases hq;exact hx (x,i+1) rfl) j hj,λq hq=>?_⟩
 cases hq
 have:=h.s4 _ rfl
 refine⟨this.1,λt ht h5=>?_⟩
 simp only at ht
 rw[List.take_succ_eq_append_getElem hi,List.mem_append,List.mem_singleton]at ht
 rcases ht with ht|rfl
 ·exact this.2 t ht h5
 ·exact hs h5
theorem QI.push{ss:List StD}{k x:Int}{N i:Nat}{W:List Int}{met:List Bool}(hg:kW ss)(h:QI ss k N W met (some (x,i)))(hi:i<(ze ss x).length)(h5:(ze ss x)[i].k=5):
  QI ss k N (W++[(ze ss x)[i].st]) (met.set (ze ss x)[i].st.toNat true) (some (x,i+1)):=by
 have hk:Kid ss x (ze ss x)[i].st:=⟨_,gem hi,h5,rfl⟩
 have hin:=ZW hg hk
 have hd:=h.dom
 have hlen:=h.len
 have hms:∀j,0≤j→mt (met.set (ze ss x)[i].st.toNat true) j=(decide (j=(ze ss x)[i].st)||mt met j):=λj hj=>ai7 hin.1 hj (by omega)
 refine⟨by rw[List.length_set];exact h.len,h.dom,λy hy=>?_,λj hj hm=>?_,λy hy=>?_,λy hy hyk hn hx j hj=>?_,λq hq=>?_⟩
 ·rcases List.mem_append.1 hy with hy|hy
  ·exact h.rng y hy
  ·rw[List.mem_singleton.1 hy];exact hin
 ·rw[hms j hj,Bool.or_eq_true,gdt]at hm
  rcases hm with rfl|hm
  ·rcases(h.s4 _ rfl).1 with hx|hx
   ·have hx:x=k:=hx
    rw[← hx];exact .one hk
   ·exact .more hx hk
  ·exact h.s1 j hj hm
 ·rcases List.mem_append.1 hy with hy|hy
  ·refine(h.s2 y hy).imp id λhm=>?_
   rw[hms y (h.rng y hy).1,hm,Bool.or_true]
  ·rw[List.mem_singleton.1 hy,hms _ hin.1];simp
 ·have hj0:=(ZW hg hj).1
  rw[hms j hj0]
  rw[hms y hy,Bool.or_eq_true,gdt]at hyk
  have hnw:y∉W:=λhm=>hn (List.mem_append_left _ hm)
  have hne:y≠(ze ss x)[i].st:=λe=>hn (by rw[e];exact List.mem_append_right _ List.mem_cons_self)
  rw[h.s3 y hy (hyk.imp id λhh=>hh.resolve_left hne) hnw (λq hq=>by cases hq;exact hx (x,i+1) rfl) j hj,Bool.or_true]
 ·cases hq
  have:=h.s4 _ rfl
  refine⟨this.1,λt ht h5'=>?_⟩
  simp only at ht
  rw[List.take_succ_eq_append_getElem hi,List.mem_append,List.mem_singleton]at ht
  rcases ht with ht|rfl
  ·have ht0:=(ZW hg (k:=x) ⟨t,List.mem_of_mem_take ht,h5',rfl⟩).1
   rw[hms _ ht0,this.2 t ht h5',Bool.or_true]
  ·rw[hms _ hin.1];simp
theorem QI.done{ss:List StD}{k x:Int}{N i:Nat}{W:List Int}{met:List Bool}(h:QI ss k N W met (some (x,i)))(hi:(ze ss x).length≤i):QI ss k N W met none:=by
 refine⟨h.len,h.dom,h.rng,h.s1,h.s2,λy hy hk hn _ j hj=>?_,λq hq=>by cases hq⟩
 by_cases hyx:y=x
 ·subst hyx
  obtain⟨t,ht,h5,rfl⟩:=hj
  have:=(h.s4 _ rfl).2 t (by simp only;rw[List.take_of_length_le hi];exact ht) h5
  exact this
 ·exact h.s3 y hy hk hn (λq hq=>by cases hq;exact hyx) j hj
theorem QI.all{ss:List StD}{k:Int}{N:Nat}{met:List Bool}(hg:kW ss)(h0:0≤k)(h:QI ss k N [] met none){j:Int}(hr:Rch ss k j):mt met j=true:=by
 induction hr with
 |one e=>exact h.s3 k h0 (.inl rfl) (by simp) (λq hq=>by cases hq) _ e
 |more hr e ih=>exact h.s3 _ (afE hg hr).1 (.inr ih) (by simp) (λq hq=>by cases hq) _ e
open Classical in
theorem aib{ss:List StD}{k:Nat}{b:Bool}(h1:b=true→Rch ss k k)(h2:Rch ss k k→b=true):b=Za ss k:=by
 rw[Za]
 by_cases hr:Rch ss k k
 ·rw[gde hr];exact h2 hr
 ·rw[decide_eq_false hr]
  cases b
  ·rfl
  ·exact absurd (h1 rfl) hr
def qz(l:List Bool):List Value:=l.map .bool
theorem afJ(l:List Bool):(qz l).length=l.length:=List.length_map ..
theorem ac2{l:List Bool}{j:Int}(h:j.toNat<l.length):(qz l)[j.toNat]? = some (.bool (mt l j)):=by
 unfold qz mt
 rw[List.getElem?_map,ggd,gqg h];rfl
theorem V2{ss:List StD}{p:Option Addr}{cap k:Nat}(hg:kW ss)(h32:ss.length≤32)(hk:k<ss.length)(h8:∀k,(ze ss k).length≤8){w:World}{r:Gh}{K:Value→World→Prop}(hr:Holds r w)(hs:StG r p ss)
  (h:∀w',Ext w w'→K (.bool (Za ss k)) w'):zc Tryz.prog Tryz.jD #[.slice p ss.length cap,.int .i64 k] w K:=by
 refine Tryz.Va ?_
 unfold Tryz.Yn
 have S:=St.start hr
 refine S.al λb5 w1 S=>?_
 refine S.lit (e:=3) (cs:=[.int .i64 k]) (by kernel_rfl) λb11 w2 S=>?_
 have S:=S.toRow 1 1 rfl (by decide)
 have S:=S.toQue (.slice (some ⟨b11,0,none⟩) 1 1)
 have S:StX noX w r w2 [.que (.slice (some ⟨b11,0,none⟩) 1 1) 3 1 [(k:Int)].length (ints [(k:Int)]),.cell b5 (qz (List.replicate 32 false)) 292]:=S
 refine zk (ι:=List Int×List Bool×Value) (λi=>[i.2.2]) (λi w'=>QI ss k 32 i.1 i.2.1 none∧2*cf i.2.1+i.1.length≤65∧StX noX w r w' [.que i.2.2 3 1 i.1.length (ints i.1),.cell b5 (qz i.2.1) 292])
  (λi=>2*cf i.2.1+i.1.length) ([(k:Int)],List.replicate 32 false,_) rfl ⟨QI.start h32 (by omega) (by omega),(show 2*cf (List.replicate 32 false)+1≤65 by decide),S⟩ ?_
 clear S
 rintro⟨W,met,vq⟩ d w3 ⟨hq,h65,S⟩ K3 hK3
 simp only at hq h65 S⊢
 rw[gdz]
 obtain⟨pq,capq,rfl,hp0,hcq,_,hsl⟩:=S.queS vq
 refine gP_ ?_
 refine gP_ ?_
 refine c_b (λhpos=>?_) (λhz=>?_)
 ·have hpos:0<W.length:=by simpa using hpos
  cases W with
  |nil=>simp at hpos
  |cons x W=>
   obtain⟨bq,oq,rfl,hcell⟩:=Y6 hsl hpos
   have hx:=hq.rng x List.mem_cons_self
   refine gP_ ?_
   refine zf (by simpa using hcell) ?_
   refine S.loQ (by omega) (by omega) hpos λv' S=>?_
   have S:StX noX w r w3 [.que v' 3 1 W.length (ints W),.cell b5 (qz met) 292]:=S
   have hxn:x.toNat<ss.length:=by omega
   obtain⟨bs',os',q,capf,rfl,hcs,_,_,hf⟩:=vh hs hxn
   refine gP_ ?_
   refine gP_ ?_
   refine zf (S.at hcs) ?_
   refine gP_ ?_
   have htl:ze ss x=ss[x.toNat].fs.map (·.2):=by
    rw[← kX hxn];simp only[ze,tnc]
   have hlen:(ze ss x).length=ss[x.toNat].fs.length:=by rw[htl,List.length_map]
   have h88:=h8 x
   refine zk (ι:=Nat×List Int×List Bool×Value) (λi=>[i.2.2.2,.int .i64 i.1]) (λi w'=>i.1≤(ze ss x).length∧QI ss k 32 i.2.1 i.2.2.1 (some (x,i.1))∧2*cf i.2.2.1+i.2.1.length≤2*cf met+W.length∧
    StX noX w r w' [.que i.2.2.2 3 1 i.2.1.length (ints i.2.1),.cell b5 (qz i.2.2.1) 292]) (λi=>(ze ss x).length-i.1) (0,W,met,v') rfl ⟨gzl _,hq.pop,Nat.le_refl _,S⟩ ?_
   clear S
   rintro⟨i,W',met',vq'⟩ d w4 ⟨hi,hq',hme,S⟩ K7 hK7
   simp only at hi hq' hme S⊢
   rw[gdz,gds,gdz]
   refine gP_ ?_
   refine c_b (λhlt2=>?_) (λhge=>?_)
   ·have hlt2:i<ss[x.toNat].fs.length:=by simpa using hlt2
    have hlt3:i<(ze ss x).length:=by omega
    have hel:(ze ss x)[i]=ss[x.toNat].fs[i].2:=by simp only[htl,List.getElem_map]
    refine zi (λs w'=>∃W2 met2 v2,s=[v2]∧QI ss k 32 W2 met2 (some (x,i+1))∧2*cf met2+W2.length≤2*cf met'+W'.length∧StX noX w r w' [.que v2 3 1 W2.length (ints W2),.cell b5 (qz met2) 292]) (λK11 hK11=>?_) ?_
    ·obtain⟨b2,off2,c,rfl,hcl,hcc,hty⟩:=Jl hf hlt2
     refine gP_ ?_
     refine zq (n:=6) (c:=.string ss[x.toNat].fs[i].1::c) (by simp[hcl]) (λj v hj=>by rw[tnc];exact S.at (hcc j v hj)) ?_
     refine S.al λb9 w5 S=>?_
     refine S.stB (cs:=(Value.string ss[x.toNat].fs[i].1::c).toArray) (λw6 S=>?_) rfl (by simp[hcl]) (Vf hty)
     obtain⟨pt,capt,rfl,_⟩:=Vd hty
     have S:StX noX w r w6 [.cell b9 [.string ss[x.toNat].fs[i].1,.int .u8 ss[x.toNat].fs[i].2.k,.bool ss[x.toNat].fs[i].2.m,.int .i64 ss[x.toNat].fs[i].2.re,.int .i64 ss[x.toNat].fs[i].2.st,.slice pt ss[x.toNat].fs[i].2.of.length capt] 233,.que vq' 3 1 W'.length (ints W'),.cell b5 (qz met') 292]:=S
     refine gG_ ?_
     rw[← hel]
     by_cases h5:(ze ss x)[i].k=5
     ·have hkid:Kid ss x (ze ss x)[i].st:=⟨_,gem hlt3,h5,rfl⟩
      have hin:=ZW hg hkid
      have hml:=hq'.len
      refine zn (c:=mt met' (ze ss x)[i].st) (λ_ K2 hK2=>?_) ?_
      ·refine gG_ ?_
       rw[← hel]
       refine gP_ ?_
       refine S.ld (b:=b5) ?_ (by rw[Nat.zero_add,Nat.mul_one];exact ac2 (by omega))
       exact hK2
      rw[show decide ((ze ss x)[i].k≠5)=false by simp[h5],Bool.false_or]
      refine c_b (λhm=>?_) (λhm=>?_)
      ·exact hK11 _ _ ⟨W',met',vq',rfl,hq'.skip hlt3 λ_=>hm,Nat.le_refl _,S.tl⟩
      ·refine gG_ ?_
       rw[← hel]
       refine gP_ ?_
       refine S.st (b:=b5) (λw7 S=>?_) (by rw[afJ];omega)
       refine gG_ ?_
       rw[← hel]
       refine S.lit (e:=3) (cs:=[.int .i64 (ze ss x)[i].st]) (by kernel_rfl) λb49 w8 S=>?_
       simp only[List.length_cons]at h65
       refine S.apQ (m:=1) (Sl.blk (S.blk b49)) (λv50 w9 S=>?_) (by omega)
       have hset:mt met' (ze ss x)[i].st=false:=hm
       have hcf:=afI (l:=met') (i:=(ze ss x)[i].st.toNat) (by
        unfold mt at hset
        rw[ggd,gqg (by omega)]at hset
        rw[gqg (by omega)]
        simpa using hset)
       refine hK11 _ _ ⟨W'++[(ze ss x)[i].st],met'.set (ze ss x)[i].st.toNat true,v50,rfl,hq'.push hg hlt3 h5,by rw[gla,gls];omega,?_⟩
       have e1:(qz met').set (0+(ze ss x)[i].st.toNat*1) (.bool true)=qz (met'.set (ze ss x)[i].st.toNat true):=by
        rw[Nat.zero_add,Nat.mul_one,qz,qz,List.map_set]
       rw[e1]at S
       rw[gla,adR]
       exact S.tl.tl
     ·refine zn (c:=true) (λhn=>absurd hn (by simp[h5])) ?_
      rw[Bool.or_true]
      refine c_t rfl ?_
      exact hK11 _ _ ⟨W',met',vq',rfl,hq'.skip hlt3 λe=>absurd e h5,Nat.le_refl _,S.tl⟩
    ·rintro _ w5 ⟨W2,met2,v2,rfl,hq2,hme2,S⟩ d5
     rw[gdz]
     refine gP_ ?_
     rw[show ((i:Int)+1)=((i+1:Nat):Int)by omega]
     exact hK7 (i+1,W2,met2,v2) _ ⟨hlt3,hq2,by simp only;omega,S⟩ (by simp only;omega)
   ·have hge:(ze ss x).length≤i:=by
     have :¬i<ss[x.toNat].fs.length:=by simpa using hge
     omega
    exact hK3 (W',met',vq') _ ⟨hq'.done hge,by simp only[List.length_cons]at h65⊢;omega,S⟩ (by simp only[List.length_cons];omega)
 ·have hz:W=[]:=List.eq_nil_of_length_eq_zero (by
   have :¬0<W.length:=by simpa using hz
   omega)
  subst hz
  have hml:=hq.len
  refine gP_ ?_
  refine S.ld (b:=b5) ?_ (by rw[Nat.zero_add,Nat.mul_one];exact ac2 (by omega))
  have e:mt met (k:Int)=Za ss k:=aib (hq.s1 _ (by omega)) (hq.all hg (by omega))
  rw[e]
  exact h _ S.ext
theorem Zb{X:Nat→Prop}{w0:World}{r:Gh}{L:List Asr}{n:Nat}{q:Nat→Bool}{fv:Value}(hn:n≤1000)
  (hf:∀(i:Nat),i<n→∀{w:World}{K:Value→World→Prop},StX X w0 r w L→(∀w',StX X w0 r w' L→K (.bool (q i)) w')→zy Tryz.prog fv #[.int .i64 i] w K) {w:World} {K:Value→World→Prop} (S:StX X w0 r w L)
  (h:∀w',StX X w0 r w' L→K (.int .i64 (xP n q)) w'):zc Tryz.prog Tryz.vS #[.int .i64 n,fv] w K:=by
 refine Tryz.aaO ?_
 unfold Tryz.X3
 refine zk (ι:=Nat) (λi=>[.int .i64 i]) (λi w'=>i≤n∧(∀j,j<i→q j=false)∧StX X w0 r w' L) (λi=>n-i) 0 rfl ⟨gzl _,λj hj=>by omega,S⟩ ?_
 clear S
 rintro i d w1 ⟨hi,hq,S⟩ K6 hK6
 rw[gdz]
 refine gP_ ?_
 refine c_b (λhlt=>?_) (λhge=>?_)
 ·have hlt:i<n:=by simpa using hlt
  refine hf i hlt S λw2 S=>?_
  refine c_b (λhy=>?_) (λhno=>?_)
  ·have:=h _ S
   rwa[afG hlt hy hq]at this
  ·refine gP_ ?_
   rw[show ((i:Int)+1)=((i+1:Nat):Int)by omega]
   refine hK6 (i+1) _ ⟨hlt,λj hj=>?_,S⟩ (by omega)
   by_cases hji:j=i
   ·rw[hji];exact hno
   ·exact hq j (by omega)
 ·have hge:i=n:=by
   have :¬i<n:=by simpa using hge
   omega
  have:=h _ S
  rwa[afF (λj hj=>hq j (by omega))]at this
theorem vL{X:Nat→Prop}{w0:World}{r s:Gh}{L:List Asr}{p:Option Addr}{cap:Nat}{fs:List (ByteArray×TyD)}{g:TyD→Bool}{fv:Value}(hfl:FlG s p fs)[Le s r](hb:fs.length≤1000000000)
  (hf:∀f∈fs,∀{c:List Value}{w:World}{K:Value→World→Prop},c.length=5→TyG s (.agg c.toArray) f.2→StX X w0 r w L→(∀w',StX X w0 r w' L→K (.bool (g f.2)) w')→zy Tryz.prog fv #[.agg (.string f.1::c).toArray] w K)
  {w:World} {K:Value→World→Prop} (S:StX X w0 r w L) (h:∀w',StX X w0 r w' L→K (.bool ((fs.map (·.2)).any g)) w'):zc Tryz.prog Tryz.zJ #[.slice p fs.length cap,fv] w K:=by
 refine Tryz.xO ?_
 unfold Tryz.yA
 refine Tryz.ku ?_
 unfold Tryz.yL
 refine gP_ ?_
 refine zk (ι:=Nat) (λi=>[.int .i64 i]) (λi w'=>i≤fs.length∧((fs.take i).map (·.2)).any g=false∧StX X w0 r w' L) (λi=>fs.length-i) 0 rfl ⟨gzl _,by simp,S⟩ ?_
 clear S
 rintro i d w1 ⟨hi,hq,S⟩ K6 hK6
 rw[gdz]
 refine gP_ ?_
 refine c_b (λhlt=>?_) (λhge=>?_)
 ·have hlt:i<fs.length:=by simpa using hlt
  obtain⟨b2,off2,c,rfl,hcl,hcc,hty⟩:=Jl hfl hlt
  refine gP_ ?_
  refine zq (n:=6) (c:=.string fs[i].1::c) (by simp[hcl]) (λj v hj=>by rw[tnc];exact S.at (hcc j v hj)) ?_
  refine hf fs[i] (gem hlt) hcl hty S λw2 S=>?_
  refine c_b (λhy=>?_) (λhno=>?_)
  ·refine gP_ ?_
   have:=h _ S
   have e:(fs.map (·.2)).any g=true:=List.any_eq_true.2 ⟨fs[i].2,List.mem_map.2 ⟨_,gem hlt,rfl⟩,hy⟩
   rw[e]at this
   rw[show decide ((i:Int)≥0)=true by simp]
   exact this
  ·refine gP_ ?_
   rw[show ((i:Int)+1)=((i+1:Nat):Int)by omega]
   refine hK6 (i+1) _ ⟨hlt,?_,S⟩ (by omega)
   rw[List.take_succ_eq_append_getElem hlt,List.map_append,List.any_append,hq]
   simp[hno]
 ·have hge:i=fs.length:=by
   have :¬i<fs.length:=by simpa using hge
   omega
  rw[hge,List.take_length]at hq
  refine gP_ ?_
  have:=h _ S
  rw[hq]at this
  exact this
theorem Y8{ss:List StD}(h:∀k,k<ss.length→jH ss k=false)(k:Int):(ze ss k).length≤8:=by
 by_cases hk:k.toNat<ss.length
 ·have:=h k.toNat hk
  have e:ze ss (k.toNat:Int)=ze ss k:=by rw[ze,ze,tnc]
  rw[jH,e,Bool.or_eq_false_iff,Bool.or_eq_false_iff]at this
  simp only[decide_eq_false_iff_not]at this
  omega
 ·rw[abx hk];simp
section
variable {X:Nat→Prop} {w0 w:World} {r:Gh} {L:List Asr} {ss:List StD} {p:Option Addr} {cap b1 b4:Nat} {f1 f4:List Value→List Asr} {K:Value→World→Prop}
theorem Js{k:Nat}(hk:k<ss.length)(hs:StG r p ss)(S:StX X w0 r w L)[At b1 L [.slice p ss.length cap] 22 f1][At b4 L [.int .i64 (ss.length:Nat)] 3 f4](h:∀w',StX X w0 r w' L→K (.bool (jH ss k)) w'):
  zy Tryz.prog (.func (.func Tryz.xG) #[] #[.pointer (some ⟨b1,0,none⟩),.pointer (some ⟨b4,0,none⟩)]) #[.int .i64 k] w K:=by
 refine xw (by kernel_rfl) ?_
 refine Tryz.QA (t0:=.int .i64 k) (t1:=.pointer (some ⟨b1,0,none⟩)) (t2:=.pointer (some ⟨b4,0,none⟩)) ?_
 unfold Tryz.Zh
 refine gL_ ?_
 obtain⟨b,off,q,capq,rfl,hcell,hq0,hqc,hf⟩:=vh hs hk
 refine gP_ ?_
 refine gP_ ?_
 refine zf (by rw[tnc];exact S.at hcell) ?_
 refine gP_ ?_
 refine gP_ ?_
 have hlen:=QF hk
 refine zn (c:=decide (8<(ze ss k).length)) (λ_ K2 hK2=>?_) ?_
 ·refine gP_ ?_
  refine gP_ ?_
  rw[show decide ((8:Int)<(ss[k].fs.length:Int))=decide (8<(ze ss k).length)from decide_eq_decide.2 (by omega)]
  exact hK2
 refine ai6 (λw'=>StX X w0 r w' L) (c:=(ze ss k).any λt=>!zA ss.length 48 t||decide (0<t.regs.length)) (λ_=>S) (λhsm2 K2 hK2=>?_) λw9 S=>?_
 ·have hsm2:ss[k].fs.length≤8:=by
   simp only[Bool.or_eq_false_iff,decide_eq_false_iff_not]at hsm2;omega
  refine gP_ ?_
  refine vL (g:=λt=>!zA ss.length 48 t||decide (0<t.regs.length)) hf (by omega) (λf hfm {c} {w7} {K} hcl hty S hK=>?_) S λw8 S=>?_
  ·refine Jj (by kernel_rfl) ?_
   refine Tryz.XA ?_
   unfold Tryz.jV
   refine S.box λb2 w8 S=>?_
   have S:StX X w0 r w8 (.cell b2 (.string f.1::c) 233::L):=S
   refine gP_ ?_
   refine S.fty hcl ?_
   refine S.ld (b:=b4) ?_ rfl
   refine ZU 48 (by decide) S.holds hty λw9 e9=>?_
   have S:=S.go e9
   refine gP_ ?_
   refine kq (c:=decide (0<f.2.regs.length)) (λhl K2 hK2=>?_) λw10 e10=>?_
   ·have hl:zA ss.length 48 f.2=true:=by simpa using hl
    refine gP_ ?_
    refine S.fty hcl ?_
    refine Yq S.holds hty (by have:=Ji hl;omega) λv11 w11 e11 o11=>?_
    obtain⟨p11,cap11,rfl,_⟩:=Yf o11
    refine gP_ ?_
    refine gP_ ?_
    rw[show decide ((f.2.regs.length:Int)>0)=decide (0<f.2.regs.length)from decide_eq_decide.2 (by omega)]
    exact hK2 _ e11
   exact hK _ (S.go e10).tl
  ·rw[← kX hk]
   exact hK2 _ S
 ·have:=h _ S
  rw[jH]at this
  rw[show decide ((ss[k].fs.length:Int)<1)=decide ((ze ss k).length<1)from decide_eq_decide.2 (by omega)]
  exact this
theorem Jt{k:Nat}(hk:k<ss.length)(h32:ss.length≤32)(h1:¬xP ss.length (jH ss)<ss.length)(hs:StG r p ss)(S:StX X w0 r w L)[At b1 L [.slice p ss.length cap] 22 f1](h:∀w',StX X w0 r w' L→K (.bool (Za ss k)) w'):
  zy Tryz.prog (.func (.func Tryz.xH) #[] #[.pointer (some ⟨b1,0,none⟩)]) #[.int .i64 k] w K:=by
 refine xw (by kernel_rfl) ?_
 refine Tryz.QB (t0:=.int .i64 k) (t1:=.pointer (some ⟨b1,0,none⟩)) ?_
 unfold Tryz.Zi
 refine gL_ ?_
 exact V2 (aaU (qu h1)) h32 hk (λk=>Y8 (qu h1) k) S.holds hs λw9 e9=>h _ (S.go e9)
theorem Ju{k:Nat}(hk:k<ss.length)(h32:ss.length≤32)(h1:¬xP ss.length (jH ss)<ss.length)(h2:¬xP ss.length (Za ss)<ss.length)(hs:StG r p ss)(S:StX X w0 r w L)[At b1 L [.slice p ss.length cap] 22 f1](h:∀w',StX X w0 r w' L→K (.bool (Ve ss k)) w'):
  zy Tryz.prog (.func (.func Tryz.xI) #[] #[.pointer (some ⟨b1,0,none⟩)]) #[.int .i64 k] w K:=by
 refine xw (by kernel_rfl) ?_
 refine Tryz.QC (t0:=.int .i64 k) (t1:=.pointer (some ⟨b1,0,none⟩)) ?_
 unfold Tryz.Zj
 refine gL_ ?_
 refine zo (cs:=#[.int .u8 5,.bool false,.int .i64 0,.int .i64 k,.slice none 0 0]) (by kernel_rfl) ?_
 have hg:=aaU (qu h1)
 refine abZ hg (ael hg (qu h2)) 40 (t:=.mk 5 false 0 k []) (by decide) (by have:=ahP ss (.mk 5 false 0 k []);omega) ?_ (by omega) (λk=>Y8 (qu h1) k) S.holds hs (qm (r:=r)) λw9 e9=>?_
 ·rw[yR]
  simp[TyD.k,TyD.m,TyD.re,TyD.of,TyD.st]
  omega
 ·refine gP_ ?_
  have:=h _ (S.go e9)
  rw[Ve]at this
  rw[show decide ((((min (wF ss 40 (.mk 5 false 0 k [])) 17:Nat):Int))>16)=decide (16<wF ss 40 (.mk 5 false 0 k []))from decide_eq_decide.2 (by omega)]
  exact this
end
theorem jI{ss:List StD}{p:Option Addr}{cap:Nat}{w:World}{r:Gh}{K:Value→World→Prop}(hr:Holds r w)(hs:StG r p ss)
  (h:∀w',Ext w w'→K (.tuple #[.int .i64 (zI ss).1,.int .i64 (zI ss).2]) w'):zc Tryz.prog Tryz.xy #[.slice p ss.length cap] w K:=by
 refine Tryz.J9 ?_
 unfold Tryz.Ym
 have S:=St.start hr
 refine S.box λb1 w1 S=>?_
 refine gL_ ?_
 refine gP_ ?_
 refine S.al λb4 w2 S=>?_
 refine S.st λw3 S=>?_
 refine gL_ ?_
 refine gP_ ?_
 refine c_b (λhbig=>?_) (λhsm=>?_)
 ·have hbig:32<ss.length:=by have:=of_decide_eq_true hbig;omega
  rw[zI,if_pos hbig]at h
  exact h _ S.ext
 have hsm:¬32<ss.length:=by have:=of_decide_eq_false hsm;omega
 rw[zI,if_neg hsm]at h
 refine gP_ ?_
 refine gP_ ?_
 refine gP_ ?_
 refine S.lit (e:=157) (cs:=[.func (.func Tryz.xG) #[] #[.pointer (some ⟨b1,0,none⟩),.pointer (some ⟨b4,0,none⟩)],.func (.func Tryz.xH) #[] #[.pointer (some ⟨b1,0,none⟩)],.func (.func Tryz.xI) #[] #[.pointer (some ⟨b1,0,none⟩)]]) (by kernel_rfl) λb16 w4 S=>?_
 refine gP_ ?_
 have S:StX noX w r w4 [.cell b16 [.func (.func Tryz.xG) #[] #[.pointer (some ⟨b1,0,none⟩),.pointer (some ⟨b4,0,none⟩)],.func (.func Tryz.xH) #[] #[.pointer (some ⟨b1,0,none⟩)],.func (.func Tryz.xI) #[] #[.pointer (some ⟨b1,0,none⟩)]] 157,
  .cell b4 [.int .i64 (ss.length:Nat)] 3,.cell b1 [.slice p ss.length cap] 22]:=S
 refine zk (ι:=Nat) (λi=>[.int .i64 i]) (λi w'=>i≤3∧(0<i→¬xP ss.length (jH ss)<ss.length)∧(1<i→¬xP ss.length (Za ss)<ss.length)∧(2<i→¬xP ss.length (Ve ss)<ss.length)∧StX noX w r w' _) (λi=>3-i) 0 rfl
  ⟨by decide,λh=>by omega,λh=>by omega,λh=>by omega,S⟩ ?_
 clear S
 rintro i d w5 ⟨hi,h1,h2,h3,S⟩ K6 hK6
 rw[gdz]
 refine gP_ ?_
 match i,hi,h1,h2,h3 with
 |0,_,_,_,_=>
  refine c_t (by decide) ?_
  refine gP_ ?_
  refine S.ld (b:=b16) ?_ rfl
  refine S.ld (b:=b4) ?_ rfl
  refine Zb (q:=jH ss) (by omega) (λi hi {w} {K} S k=>Js hi hs S k) S λw9 S=>?_
  refine S.ld (b:=b4) ?_ rfl
  refine gP_ ?_
  refine c_b (λhl=>?_) (λhl=>?_)
  ·rw[if_pos (by have:=of_decide_eq_true hl;omega)]at h
   exact h _ S.ext
  ·refine gP_ ?_
   exact hK6 1 _ ⟨by decide,λ_=>by have:=of_decide_eq_false hl;omega,λh=>by omega,λh=>by omega,S⟩ (by decide)
 |1,_,h1,_,_=>
  have h1:=h1 (by decide)
  rw[if_neg h1]at h
  refine c_t (by decide) ?_
  refine gP_ ?_
  refine S.ld (b:=b16) ?_ rfl
  refine S.ld (b:=b4) ?_ rfl
  refine Zb (q:=Za ss) (by omega) (λi hi {w} {K} S k=>Jt hi (by omega) h1 hs S k) S λw9 S=>?_
  refine S.ld (b:=b4) ?_ rfl
  refine gP_ ?_
  refine c_b (λhl=>?_) (λhl=>?_)
  ·rw[if_pos (by have:=of_decide_eq_true hl;omega)]at h
   exact h _ S.ext
  ·refine gP_ ?_
   exact hK6 2 _ ⟨by decide,λ_=>h1,λ_=>by have:=of_decide_eq_false hl;omega,λh=>by omega,S⟩ (by decide)
 |2,_,h1,h2,_=>
  have h1:=h1 (by decide)
  have h2:=h2 (by decide)
  rw[if_neg h1,if_neg h2]at h
  refine c_t (by decide) ?_
  refine gP_ ?_
  refine S.ld (b:=b16) ?_ rfl
  refine S.ld (b:=b4) ?_ rfl
  refine Zb (q:=Ve ss) (by omega) (λi hi {w} {K} S k=>Ju hi (by omega) h1 h2 hs S k) S λw9 S=>?_
  refine S.ld (b:=b4) ?_ rfl
  refine gP_ ?_
  refine c_b (λhl=>?_) (λhl=>?_)
  ·rw[if_pos (by have:=of_decide_eq_true hl;omega)]at h
   exact h _ S.ext
  ·refine gP_ ?_
   exact hK6 3 _ ⟨by decide,λ_=>h1,λ_=>h2,λ_=>by have:=of_decide_eq_false hl;omega,S⟩ (by decide)
 |3,_,h1,h2,h3=>
  have h1:=h1 (by decide)
  have h2:=h2 (by decide)
  have h3:=h3 (by decide)
  rw[if_neg h1,if_neg h2,if_neg h3]at h
  refine c_f (by decide) ?_
  exact h _ S.ext
noncomputable def mayB(ss:List StD)(t:TyD):Bool:=decide ((zI ss).2=0)&&zA ss.length 48 t
theorem QG{ss:List StD}{t:TyD}(h:mayB ss t=true):(zI ss).2=0∧zA ss.length 48 t=true:=by
 simpa [mayB]using h
theorem vj{ss:List StD}{t:TyD}{p:Option Addr}{cap:Nat}{w:World}{r:Gh}{v:Value}{K:Value→World→Prop}(hr:Holds r w)(hs:StG r p ss)(hv:TyG r v t)
  (h:∀w',Ext w w'→K (.bool (mayB ss t)) w'):zc Tryz.prog Tryz.kD #[.slice p ss.length cap,v] w K:=by
 refine Tryz.acV ?_
 unfold Tryz.JJ
 have hv0:=hv
 obtain⟨p1,cap1,rfl,_⟩:=hv
 have S:=St.start hr
 refine S.box λb3 w1 S=>?_
 refine jI S.holds hs λw2 e2=>?_
 have S:=S.go e2
 refine gP_ ?_
 refine gP_ ?_
 refine gP_ ?_
 refine zH (c:=zA ss.length 48 t) (λ_ K2 hK2=>?_) λw3 e3=>h _ (S.go e3).ext
 refine gL_ ?_
 refine gP_ ?_
 exact ZU 48 (by decide) S.holds hv0 λw3 e3=>hK2 _ e3
theorem ab0{ss:List StD}{p:Option Addr}{cap:Nat}(hg:kW ss)(hac:∀k,¬Rch ss k k):∀(m:Nat){t:TyD}{w:World}{r:Gh}{v:Value}{K:Value→World→Prop},m≤100→rkT ss t≤m→zA ss.length 48 t=true→ss.length≤32→(∀k,(ze ss k).length≤8)→
  Holds r w→StG r p ss→TyG r v t→(∀w',Ext w w'→K (.bool (dF ss m t)) w')→zc Tryz.prog Tryz.ja #[.slice p ss.length cap,v] w K:=by
 intro m
 induction m with
 |zero=>
  intro t w r v K _ hrk hl h32 h8 hr hs hv h
  have h5:¬t.k=5:=λh=>by unfold rkT at hrk;rw[if_pos h]at hrk;omega
  refine Tryz.Y4 ?_
  unfold Tryz.vZ
  obtain⟨p1,cap1,rfl,_⟩:=hv
  have S:=St.start hr
  refine S.box λb2 w1 S=>?_
  refine S.box λb3 w2 S=>?_
  refine gG_ ?_
  refine c_b (λh3=>?_) (λh3=>?_)
  ·have:=h _ S.ext
   rwa[dF,h3]at this
  ·refine gG_ ?_
   refine c_b (λh5'=>absurd (of_decide_eq_true h5') h5) (λ_=>?_)
   have:=h _ S.ext
   rwa[dF,h3]at this
 |succ m ih=>
  intro t w r v K hm hrk hl h32 h8 hr hs hv h
  refine Tryz.Y4 ?_
  unfold Tryz.vZ
  obtain⟨p1,cap1,rfl,_⟩:=hv
  have S:=St.start hr
  refine S.box λb2 w1 S=>?_
  refine S.box λb3 w2 S=>?_
  refine gG_ ?_
  refine c_b (λh3=>?_) (λh3=>?_)
  ·have:=h _ S.ext
   have h3':=of_decide_eq_true h3
   rwa[dF,if_neg (by omega),h3]at this
  refine gG_ ?_
  refine c_b (λh5=>?_) (λh5=>?_)
  ·have h5:t.k=5:=of_decide_eq_true h5
   obtain⟨hst0,hst1,_⟩:=Y7 hl h5
   have hlt:t.st.toNat<ss.length:=by omega
   obtain⟨b,off,q,capq,rfl,hcell,_,_,hf⟩:=vh hs hlt
   refine gG_ ?_
   refine zf (S.at hcell) ?_
   have htl:ze ss t.st=ss[t.st.toNat].fs.map (·.2):=by
    rw[← kX hlt];simp only[ze,tnc]
   have hlen:(ze ss t.st).length=ss[t.st.toNat].fs.length:=by rw[htl,List.length_map]
   have h88:=h8 t.st
   refine gP_ ?_
   refine vL (g:=dF ss m) hf (by omega) (λf hfm {c} {w7} {K} hcl hty S hK=>?_) S λw8 S=>?_
   ·refine Jj (by kernel_rfl) ?_
    refine Tryz.Vc ?_
    unfold Tryz.Yp
    refine S.box λb4 w8 S=>?_
    have S:StX noX w r w8 (.cell b4 (.string f.1::c) 233::_):=S
    refine S.ld (b:=b2) ?_ rfl
    refine gP_ ?_
    refine S.fty hcl ?_
    have hmem:f.2∈ze ss t.st:=by rw[htl];exact List.mem_map.2 ⟨f,hfm,rfl⟩
    have hrk2:=ahQ hg hac h5 hmem
    exact ih (by omega) (by omega) (hg _ _ hmem) h32 h8 S.holds hs hty λw5 e5=>hK _ (S.go e5).tl
   ·rw[dF,if_pos h5,htl]at h
    exact h _ S.ext
  ·have:=h _ S.ext
   rwa[dF,if_neg (of_decide_eq_false h5),h3]at this
noncomputable def xm(ss:List StD)(t:TyD):Bool×Int:=if mayB ss t then(dF ss 40 t,0)else(false,2)
theorem X7{ss:List StD}{t:TyD}{p:Option Addr}{cap:Nat}{w:World}{r:Gh}{v:Value}{K:Value→World→Prop}(hr:Holds r w)(hs:StG r p ss)(hv:TyG r v t)
  (h:∀w',Ext w w'→K (.tuple #[.bool (xm ss t).1,.int .i64 (xm ss t).2]) w'):zc Tryz.prog Tryz.qY #[.slice p ss.length cap,v] w K:=by
 refine Tryz.aaQ ?_
 unfold Tryz.X5
 have hv0:=hv
 obtain⟨p1,cap1,rfl,_⟩:=hv
 have S:=St.start hr
 refine S.box λb3 w1 S=>?_
 refine gL_ ?_
 refine vj S.holds hs hv0 λw2 e2=>?_
 have S:=S.go e2
 refine gP_ ?_
 refine c_b (λhn=>?_) (λhn=>?_)
 ·have hn:mayB ss t=false:=by simpa using hn
  rw[xm,hn]at h
  exact h _ S.ext
 have hn:mayB ss t=true:=by simpa using hn
 rw[xm,if_pos hn]at h
 obtain⟨hok,hl⟩:=QG hn
 obtain⟨h32,hb1,hg,hac,_,_⟩:=qw hok
 refine gL_ ?_
 refine ab0 hg hac 40 (by decide) (by have:=ahP ss t;omega) hl h32 (Y8 hb1) S.holds hs hv0 λw3 e3=>h _ (S.go e3).ext
def un(gs:Nat→Gh)(i n:Nat):Gh:=λb o=>∃j,i≤j∧j<n∧gs j b o
structure ai8(top:Gh)(gs:Nat→Gh)(q:Option Addr)(ts:List TyD):Prop where
 at':∀(i:Nat)(hi:i<ts.length),∃(b off:Nat)(c:List Value),q=some ⟨b,off,none⟩∧c.length=5∧(∀j v,c[j]? = some v→Ob top λw=>w.cell? ⟨b,off+i*5+j,none⟩=some v)∧TyG (gs i) (.agg c.toArray) ts[i]∧ZV (gs i) (.agg c.toArray) ts[i]
 dis:∀i j,i≠j→i<ts.length→j<ts.length→Dis (gs i) (gs j)
 dtop:∀i,i<ts.length→Dis (gs i) top
def TysG(s:Gh)(q:Option Addr)(ts:List TyD):Prop:=
 ∀(i:Nat)(hi:i<ts.length),∃(b off:Nat)(c:List Value),q=some ⟨b,off,none⟩∧c.length=5∧(∀j v,c[j]? = some v→Ob s λw=>w.cell? ⟨b,off+i*5+j,none⟩=some v)∧TyG s (.agg c.toArray) ts[i]
theorem ChnL.frz2{X:Nat→Prop}{w0 w:World}{c:List Value}{t:TyD}{N:List Asr}(h:ChnL c t N):∀{r:Gh}{L:List Asr},StX X w0 r w (N++L)→
  ∃sn,StX X w0 (r.or sn) w L∧TyG sn (.agg c.toArray) t∧ZV sn (.agg c.toArray) t∧(∀b o,sn b o→w0.heap.size≤b∨X b)∧Dis sn r:=by
 induction h with
 |nil=>
  intro r L S
  exact⟨nothing,S.to _,qm,.nil,λ_ _ h=>h.elim,λ_ _ _ h=>h.elim⟩
 |@one b c k re st m u N hu ih=>
  intro r L S
  have S:StX X w0 r w (N++(.cell b c 43::L)):=S.perm List.perm_middle.symm
  have hm0:=S.mine (.cell b c 43) (by simp) b rfl
  obtain⟨sn,S,ht,hg,hf,hd⟩:=ih S
  have hm:=S.mine (.cell b c 43) (by simp) b rfl
  have S:=S.frz
  refine⟨sn.or (Go.Sh.one b c 43),S.to _,acX ht,.one (λo ho=>hm.2 o (.inr ho)) hu.len ht hg,λb' o ho=>?_,λb' o o' ho hr=>?_⟩
  ·rcases ho with ho|⟨rfl,_⟩
   ·exact hf b' o ho
   ·exact hm.1
  ·rcases ho with ho|⟨rfl,_⟩
   ·exact hd b' o o' ho hr
   ·exact hm0.2 o' hr
theorem aic{c:List Value}{t:TyD}{N:List Asr}(h:ChnL c t N):acJ Tryz.prog 41 1 #[(0,.agg c.toArray)]=some (43,c):=by
 cases h<;>kernel_rfl
noncomputable def xu(ss:List StD)(t:TyD):List TyD×Int:=if mayB ss t&&decide (t.k=5)then(ze ss t.st,0)else([],2)
theorem aaV{ss:List StD}{t:TyD}{p:Option Addr}{cap:Nat}{w:World}{r:Gh}{v:Value}{K:Value→World→Prop}(hr:Holds r w)(hs:StG r p ss)(hv:TyG r v t)
  (h:∀q cp top gs w',Ext w w'→New w (top.or (un gs 0 (xu ss t).1.length)) w'→ai8 top gs q (xu ss t).1→(xu ss t).1.length≤cp→K (.tuple #[.slice q (xu ss t).1.length cp,.int .i64 (xu ss t).2]) w'):zc Tryz.prog Tryz.jZ #[.slice p ss.length cap,v] w K:=by
 refine Tryz.VX ?_
 unfold Tryz.Y2
 have hv0:=hv
 obtain⟨p1,cap1,rfl,_⟩:=hv
 have S:=St.start hr
 refine S.box λb3 w1 S=>?_
 refine gL_ ?_
 refine vj S.holds hs hv0 λw2 e2=>?_
 have S:=S.go e2
 refine gP_ ?_
 refine zn (c:=decide (t.k≠5)) (λ_ K2 hK2=>?_) ?_
 ·refine gG_ ?_
  exact hK2
 refine c_b (λhn=>?_) (λhn=>?_)
 ·have hn:(mayB ss t&&decide (t.k=5))=false:=by
   cases hm:mayB ss t
   ·rfl
   ·rw[hm]at hn;simpa using hn
  rw[xu,hn]at h
  exact h none 0 nothing (λ_=>nothing) _ S.ext ⟨λb o ho=>by rcases ho with ho|⟨_,_,_,ho⟩<;>exact ho.elim,λb o ho=>by rcases ho with ho|⟨_,_,_,ho⟩<;>exact ho.elim⟩
   ⟨λi hi=>by simp at hi,λi j _ hi=>by simp at hi,λi hi=>by simp at hi⟩ (Nat.le_refl _)
 have hn:mayB ss t=true∧t.k=5:=by
  cases hm:mayB ss t
  ·rw[hm]at hn;simp at hn
  ·rw[hm]at hn;exact⟨rfl,by simpa using hn⟩
 obtain⟨hm,h5⟩:=hn
 rw[xu,hm,gde h5]at h
 simp only[Bool.and_true,if_true]at h
 obtain⟨hok,hl⟩:=QG hm
 obtain⟨h32,hb1,hg,hac,_,_⟩:=qw hok
 obtain⟨hst0,hst1,_⟩:=Y7 hl h5
 have hlt:t.st.toNat<ss.length:=by omega
 obtain⟨b,off,q,capq,rfl,hcell,_,_,hf⟩:=vh hs hlt
 have htl:ze ss t.st=ss[t.st.toNat].fs.map (·.2):=by
  rw[← kX hlt];simp only[ze,tnc]
 have hlen:(ze ss t.st).length=ss[t.st.toNat].fs.length:=by rw[htl,List.length_map]
 have h88:=Y8 hb1 t.st
 refine gG_ ?_
 refine zf (S.at hcell) ?_
 refine gP_ ?_
 have S:=S.tl
 have S:=S.ownNil 43 5
 have S:=S.to (r.or (un (λ_=>nothing) 0 0)) (l:=⟨λb o ho=>by rcases ho with ho|⟨_,_,h2,_⟩;exact ho;omega⟩)
 refine zk (ι:=Nat×Value×List Value×(Nat→Gh)) (λi=>[i.2.1,.int .i64 i.1]) (λi w'=>i.1≤(ze ss t.st).length∧i.2.2.1.length=i.1*5∧
   (∀j (hj:j<(ze ss t.st).length),j<i.1→((i.2.2.1.drop (j*5)).take 5).length=5∧TyG (i.2.2.2 j) (.agg ((i.2.2.1.drop (j*5)).take 5).toArray) (ze ss t.st)[j]∧ZV (i.2.2.2 j) (.agg ((i.2.2.1.drop (j*5)).take 5).toArray) (ze ss t.st)[j])∧
   (∀j,j<i.1→∀b o,i.2.2.2 j b o→w.heap.size≤b)∧(∀j k,j≠k→j<i.1→k<i.1→Dis (i.2.2.2 j) (i.2.2.2 k))∧StX noX w (r.or (un i.2.2.2 0 i.1)) w' [.row i.2.1 43 5 i.1 i.2.2.1])
  (λi=>(ze ss t.st).length-i.1) (0,.slice none 0 0,[],λ_=>nothing) rfl ⟨gzl _,rfl,λj _ hj=>by omega,λj hj=>by omega,λj k _ hj=>by omega,S⟩ ?_
 clear S
 rintro⟨i,v,xs,gs⟩ d w3 ⟨hi,hxl,hel,hfr,hdis,S⟩ K7 hK7
 simp only at hi hxl hel hfr hdis S⊢
 rw[gdz,gds,gdz]
 refine gP_ ?_
 refine c_b (λhlt2=>?_) (λhge=>?_)
 ·have hlt2:i<ss[t.st.toNat].fs.length:=by simpa using hlt2
  have hlt3:i<(ze ss t.st).length:=by omega
  have hel2:(ze ss t.st)[i]=ss[t.st.toNat].fs[i].2:=by simp only[htl,List.getElem_map]
  have hmem:ss[t.st.toNat].fs[i].2∈ze ss t.st:=by rw[← hel2];exact gem hlt3
  obtain⟨b2,off2,c,rfl,hcl,hcc,hty⟩:=Jl hf hlt2
  refine gP_ ?_
  refine zq (n:=6) (c:=.string ss[t.st.toNat].fs[i].1::c) (by simp[hcl]) (λj v hj=>by rw[tnc];exact S.at (hcc j v hj)) ?_
  refine S.al λb8 w4 S=>?_
  refine S.stB (b:=b8) (cs:=(Value.string ss[t.st.toNat].fs[i].1::c).toArray) (λw5 S=>?_) rfl (by simp[hcl]) (Vf hty)
  refine gP_ ?_
  refine S.fty hcl ?_
  refine YI (s:=ss.length) 48 (by decide) (hg _ _ hmem) S.tl hty.up λc' N w6 hch S=>?_
  have hcl':=hch.len
  have hone':=hch.ones
  obtain⟨sn,S,ht,hcg,hfn,hdn⟩:=hch.frz2 S
  refine S.lit (e:=43) (cs:=c') (aic hch) λb33 w7 S=>?_
  refine S.ap (m':=1) (Sl.blk (S.blk b33)) (λv34 w8 S=>?_) (by omega) (by omega) (by simp) hone'
  have S:=S.tl
  refine gP_ ?_
  rw[show ((i:Int)+1)=((i+1:Nat):Int)by omega]
  refine hK7 (i+1,v34,xs++c',λj=>if j=i then sn else gs j) _ ⟨hlt3,by simp only[gla];omega,λj hj hji=>?_,λj hj b o ho=>?_,λj k hjk hj hk=>?_,?_⟩ (by simp only;omega)
  ·by_cases hji':j=i
   ·subst hji'
    simp only[if_true]
    have e:((xs++c').drop (j*5)).take 5=c':=by
     rw[← hxl,List.drop_left',List.take_of_length_le (by omega)];rfl
    rw[e,hel2]
    exact⟨hcl',ht,hcg⟩
   ·simp only[if_neg hji']
    have e:((xs++c').drop (j*5)).take 5=(xs.drop (j*5)).take 5:=by
     rw[List.drop_append_of_le_length (by omega),List.take_append_of_le_length (by rw[List.length_drop];omega)]
    rw[e]
    exact hel j hj (by omega)
  ·simp only at ho
   split at ho
   ·exact(hfn b o ho).elim id λh=>h.elim
   ·exact hfr j (by omega) b o ho
  ·simp only
   by_cases h1:j=i
   ·rw[if_pos h1,if_neg (by omega)]
    exactλb o o' ho ho'=>hdn b o o' ho (.inr ⟨k,gzl _,by omega,ho'⟩)
   ·rw[if_neg h1]
    by_cases h2:k=i
    ·rw[if_pos h2]
     exactλb o o' ho ho'=>hdn b o' o ho' (.inr ⟨j,gzl _,by omega,ho⟩)
    ·rw[if_neg h2]
     exact hdis j k hjk (by omega) (by omega)
  ·simp only
   exact S.to _ (l:=⟨λb o ho=>by
    rcases ho with ho|⟨j,_,hj,ho⟩
    ·exact .inl (.inl ho)
    ·split at ho
     ·exact .inr ho
     ·exact .inl (.inr ⟨j,gzl _,by omega,ho⟩)⟩)
 ·have hge:i=(ze ss t.st).length:=by
   have :¬i<ss[t.st.toNat].fs.length:=by simpa using hge
   omega
  subst hge
  have hpos:(ze ss t.st).length≠0:=by
   have:=hb1 t.st.toNat hlt
   have e:ze ss (t.st.toNat:Int)=ze ss t.st:=by rw[ze,ze,tnc]
   rw[jH,e,Bool.or_eq_false_iff,Bool.or_eq_false_iff]at this
   simp only[decide_eq_false_iff_not]at this
   omega
  obtain⟨b9,cap9,c9,rfl,hc9,hcl9,htk9,S⟩:=S.rowCell v hpos
  have hm9:=S.mine (.cell b9 c9 43) (by simp) b9 rfl
  have S:=S.frz
  refine h _ _ (Go.Sh.one b9 c9 43) gs _ S.ext ⟨S.holds.le (h:=⟨λb o ho=>by
   rcases ho with ho|ho
   ·exact .inr ho
   ·exact .inl (.inr ho)⟩),λb o ho=>?_⟩ ⟨λj hj=>?_,λj k hjk hj hk=>hdis j k hjk hj hk,λj hj b o o' ho ho'=>?_⟩ hc9
  ·rcases ho with⟨rfl,_⟩|⟨j,_,hj,ho⟩
   ·exact hm9.1.resolve_right id
   ·exact hfr j hj b o ho
  ·obtain⟨h1,h2,h3⟩:=hel j hj hj
   refine⟨b9,0,_,rfl,h1,λk v hk w' hw=>?_,h2,h3⟩
   have B:=xt (b:=b9) (c:=c9) (T:=43) w' hw
   show w'.cell? _=some v
   rw[Nat.zero_add,B.cell]
   have hk5:k<5:=by have:=(List.getElem?_eq_some_iff.1 hk).1;omega
   rw[List.getElem?_take,if_pos hk5,List.getElem?_drop,← htk9,List.getElem?_take]at hk
   split at hk
   ·exact hk
   ·cases hk
  ·obtain⟨rfl,_⟩:=ho'
   exact hm9.2 o (.inr ⟨j,gzl _,hj,ho⟩)
end
end Go.Proofs
namespace Go.Sh
open Go.ChangeShapes Go.WideShapes Go.ChangeAt Go.RowKit
section
section
variable {H:Type} {enc:TypeId×Value→H} {P:Program}
theorem agT{W W':World}(e:Ext W W'){p:MemPlace}(hp:p.block<W.heap.size):W.sameAt W' p:=Below.same e hp
theorem JK{W W':World}(e:Ext W W')(K:Kids P (· < P.types.size))(hz:∀t e,t<P.types.size→P.underlying t=some (.slice e)→0<P.cellsOf e){sp:Nat→Bool}:
  ∀{ts:List TypeId}{vs:List Value}{ds:List (DataW H)}{ps:List MemPlace},(∀t∈ts,t<P.types.size)→DataW.TrodAll enc P W 0 (λ_=>true) true ts vs ds ps→(∀p∈ps,p.block<W.heap.size)→(∀p∈ps,sp p.block=true)→
   DataW.TrodAll enc P W' 0 sp true ts vs ds ps
 |[],[],[],_,_,h,_,_=>h
 |_::_,_::_,_::_,_,hT,⟨p,q,⟨n,h1⟩,h2,he⟩,hl,hs=>
  ⟨p,q,⟨n,DataW.trod_stays K (fun {t e}=>hz t e) (λh=>by cases h) (hT _ (List.mem_cons.2 (Or.inl rfl))) h1 (λx hx=>agT e (hl x (by rw[he];exact List.mem_append_left _ hx))) (λx hx=>hs x (by rw[he];exact List.mem_append_left _ hx))⟩,
   JK e K hz (λt ht=>hT t (List.mem_cons.2 (Or.inr ht))) h2 (λx hx=>hl x (by rw[he];exact List.mem_append_right _ hx)) (λx hx=>hs x (by rw[he];exact List.mem_append_right _ hx)),he⟩
theorem afK{f:Func}{s:ChangeSpec}{W W':World}{args:Array Value}{ds gs:List (DataW H)}{before:List MemPlace}{tb:TypeId}{fr ho:Bool}
  (hl:laidOutB P=true) (hm:mapsRowed P=true) (hz:((List.range P.types.size).all λt=>match P.underlying t with|some (.slice e)=>decide (0<P.cellsOf e)|_=>true)=true)
  (hts:∀t∈f.params.toList,t<P.types.size) (hv:s.vars=[]) (hrt:f.resultTypes=#[tb]) (htb:P.underlying tb=some .bool)
  (hW:DataW.Whole enc P f.params.toList s.vars false W args.toList ds gs before) (hs:s.fn H (ds++gs) = { results:=[.lit (.bool true)],args:=ds }) (e:Ext W W'):
  s.post enc P f false fr ho false W args (.bool true) W':=by
 have hW':=hW
 obtain⟨p,q,hA,hV,rfl,hfz,hnd⟩:=hW
 rw[hv]at hV
 obtain⟨rfl,rfl⟩:=trodVars_none hV
 have hlt:=hW'.lt
 refine⟨ds,[],p++[],[],p,[],hW',?_,?_,?_,Below.frame e _,λh=>by cases h⟩
 ·rw[hs,hrt]
  exact trodAll_mk1 (shut_bool htb _)
 ·rw[hs]
  exact JK e (kids_rows hl hm) (slices_full_of P hz) hts hA (λx hx=>hlt x (by simpa using hx)) (λx hx=>by simpa using hlt x (by simpa using hx))
 ·rw[hv,hs];rfl
end
end
end Go.Sh
namespace Go.Sh
open Go.RowKit
section
mutual
def Dat.ok(P:Program):Dat→TypeId→Prop
 |.int k n,t=>P.underlying t=some (.int k)∧(Lit.int k n).wf=true
 |.bool _,t=>P.underlying t=some .bool
 |.str s,t=>P.underlying t=some .string∧s.size≤maxLen
 |.agg ds,t=>∃fs,P.underlying t=some (.struct fs)∧Dat.okF P ds (fs.toList.map (·.type))
 |.sl sz es,t=>∃e,P.underlying t=some (.slice e)∧sz=P.cellsOf e∧es.length≤maxLen∧Dat.okS P es e
def Dat.okF(P:Program):List Dat→List TypeId→Prop
 |[],ts=>ts=[]
 |d::ds,ts=>∃t r,ts=t::r∧Dat.ok P d t∧Dat.okF P ds r
def Dat.okS(P:Program):List Dat→TypeId→Prop
 |[],_=>True
 |d::ds,t=>Dat.ok P d t∧Dat.okS P ds t
end
theorem afL{P:Program}{t:TypeId}:∀{es:List Dat},(∀(i:Nat)(d:Dat),es[i]? = some d→d.ok P t)→Dat.okS P es t
 |[],_=>trivial
 |d::es,h=>⟨h 0 d rfl,afL λi d hi=>h (i+1) d (by simpa using hi)⟩
theorem aem{P:Program}{t:TypeId}:∀{es:List Dat},Dat.okS P es t→∀d∈es,d.ok P t
 |[],_,d,hd=>by cases hd
 |e::es,h,d,hd=>by
  rcases List.mem_cons.1 hd with rfl|hd
  ·exact h.1
  ·exact aem h.2 d hd
def ac3(P:Program)(total:Nat):Nat→List Field→Bool
 |off,[]=>off == total
 |off,f::fs=>f.offset == off&&ac3 P total (off+P.cellsOf f.type) fs
def ac4(P:Program)(ts:List TypeId):Bool:=
 ts.all λt=>match P.underlying t with
  |some (.int _)=>true
  |some .bool=>true
  |some .string=>true
  |some (.struct fs)=>ac3 P (P.cellsOf t) 0 fs.toList&&fs.toList.all (λf=>ts.contains f.type)
  |some (.slice e)=>decide (0<P.cellsOf e)&&ts.contains e
  |_=>false
theorem JL{Q:Nat→Dat→Prop}:∀n:Nat,(∀i,i<n→∃d,Q i d)→∃es:List Dat,es.length=n∧∀i d,es[i]? = some d→Q i d
 |0,_=>⟨[],rfl,λi d h=>by cases h⟩
 |n+1,h=>by
  obtain⟨es,h1,h2⟩:=JL n λi hi=>h i (by omega)
  obtain⟨d,hd⟩:=h n (by omega)
  refine⟨es++[d],by simp[h1],λi x hx=>?_⟩
  rcases Nat.lt_or_ge i es.length with hi|hi
  ·rw[List.getElem?_append_left hi]at hx;exact h2 i x hx
  ·rw[List.getElem?_append_right hi]at hx
   have hl:=(List.getElem?_eq_some_iff.1 hx).1
   have :i=n:=by simp at hl;omega
   subst this
   rw[h1,Nat.sub_self]at hx
   cases hx;exact hd
section
variable {H:Type} {enc:TypeId×Value→H} {P:Program} {W:World}
theorem V3{cs:List Value}{total:Nat}(hcs:cs.length=total):∀(fl:List Field)(off:Nat),ac3 P total off fl=true→
  (∀f∈fl,∃d,Rep (all W) d ((cs.drop f.offset).take (P.cellsOf f.type))∧d.ok P f.type)→∃ds,RepA (all W) ds (cs.drop off)∧Dat.okF P ds (fl.map (·.type))
 |[],off,hl,_=>⟨[],by
  have :off=total:=by simpa [ac3]using hl
  rw[RepA,List.drop_eq_nil_iff];omega,rfl⟩
 |f::fl,off,hl,h=>by
  simp only[ac3,gba,beq_iff_eq]at hl
  obtain⟨d,h1,h2⟩:=h f List.mem_cons_self
  obtain⟨ds,h3,h4⟩:=V3 hcs fl _ hl.2 λg hg=>h g (List.mem_cons_of_mem _ hg)
  refine⟨d::ds,⟨_,_,?_,h1,h3⟩,_,_,rfl,h2,h4⟩
  rw[hl.1,← List.drop_drop,List.take_append_drop]
theorem vk{ts:List TypeId}(hp:ac4 P ts=true){sp:Nat→Bool}:∀(fuel:Nat)(t:TypeId)(cs:List Value)(x:DataW H×List MemPlace),t∈ts→
  DataW.trod enc P W 0 sp true fuel t cs=some x→∃d,Rep (all W) d cs∧d.ok P t
 |0,_,_,_,_,h=>by simp[DataW.trod]at h
 |fuel+1,t,cs,x,ht,h=>by
  have hpt:=List.all_eq_true.1 hp t ht
  cases hu:P.underlying t with
  |none=>rw [hu]at hpt;cases hpt
  |some k=>
   rw[hu]at hpt
   cases k with
   |int k=>obtain ⟨n,rfl,_,hw⟩:=DataW.trod_int hu h;exact⟨.int k n,rfl,hu,hw⟩
   |bool=>obtain ⟨b,rfl,_⟩:=DataW.trod_bool hu h;exact⟨.bool b,rfl,hu⟩
   |string=>obtain ⟨s,rfl,_,hs⟩:=DataW.trod_string hu h;exact⟨.str s,rfl,hu,hs⟩
   |struct fs=>
    simp only[gba]at hpt
    obtain⟨xs,n,hn,_,hl,hxl,hx⟩:=DataW.trod_struct hu h
    obtain rfl:fuel=n:=by omega
    obtain⟨ds,h1,h2⟩:=V3 (P:=P) (W:=W) hl fs.toList 0 hpt.1 (λf hf=>by
     obtain⟨i,hi,rfl⟩:=List.getElem_of_mem hf
     have hi':i<fs.size:=by simpa using hi
     have h1:=hx i fs[i] (Array.getElem?_eq_getElem hi')
     rw[gqg (by omega)]at h1
     have hmem:fs[i].type∈ts:=by
      have:=List.all_eq_true.1 hpt.2 _ hf
      simpa using this
     exact vk hp fuel _ _ _ hmem h1)
    rw[List.drop_zero]at h1
    exact⟨.agg ds,h1,fs,hu,h2⟩
   |slice e=>
    simp only[gba,gdt]at hpt
    have he:e∈ts:=by simpa using hpt.2
    rcases DataW.trod_slice hu h with⟨rfl,_⟩|⟨a,len,cap,elems,rest,n,hn,rfl,_,_,hlc,hcm,hel,hget,_,_⟩
    ·exact⟨.sl (P.cellsOf e) [],⟨none,0,rfl,λ_=>rfl,Nat.le_refl _,trivial⟩,e,hu,rfl,gzl _,trivial⟩
    obtain rfl:fuel=n:=by omega
    have hspot:0<len→a.spot=none:=λh0=>by
     have h1:=hget 0 h0
     rw[gqg (by omega)]at h1
     obtain⟨c,hc,_⟩:=Option.bind_eq_some_iff.1 h1
     obtain⟨_,hcl,hcc⟩:=World.cells?_some hc
     have hcell:=(hcc 0 hpt.1).trans (gqg (by omega))
     have:=World.cell?_spot hcell
     simpa [Addr.add]using this
    obtain⟨es,h1,h2⟩:=JL (Q:=λi d=>d.ok P e∧∃c,c.length=P.cellsOf e∧CellsAt (all W) (some a) (i*P.cellsOf e) c∧Rep (all W) d c) len (λi hi=>by
     have h1:=hget i hi
     rw[gqg (by omega)]at h1
     obtain⟨c,hc,ht⟩:=Option.bind_eq_some_iff.1 h1
     obtain⟨_,hcl,hcc⟩:=World.cells?_some hc
     obtain⟨d,hd,hok⟩:=vk hp fuel e c _ he ht
     refine⟨d,hok,c,hcl,λj v hj=>?_,hd⟩
     have hjl:=(List.getElem?_eq_some_iff.1 hj).1
     have hcell:W.cell? ((a.add (i*P.cellsOf e)).add j)=some v:=(hcc j (by omega)).trans hj
     obtain⟨b,off,sp⟩:=a
     have hsp:sp=none:=hspot (by omega)
     subst hsp
     rw[Qt,Qt]at hcell
     exact⟨b,off,rfl,acO hcell⟩)
    refine⟨.sl (P.cellsOf e) es,⟨some a,cap,by rw[h1],by simp,by omega,RepS.of λi d hi=>?_⟩,e,hu,rfl,by omega,afL λi d hi=>(h2 i d hi).1⟩
    rw[Nat.zero_add];exact(h2 i d hi).2
   |_=>cases hpt
end
end
section
def SlG{α:Type}(sz:Nat)(r:Gh)(R:List Value→α→Prop)(v:Value)(l:List α):Prop:=
 ∃p cap,v=.slice p l.length cap∧(p=none→cap=0)∧l.length≤cap∧∀(i:Nat)(h:i<l.length),∃c,c.length=sz∧CellsAt r p (i*sz) c∧R c l[i]
def RowOf{α:Type}(sz:Nat)(R:List Value→α→Prop)(xs:List Value)(l:List α):Prop:=
 xs.length=l.length*sz∧∀(i:Nat)(h:i<l.length),R ((xs.drop (i*sz)).take sz) l[i]
section
variable {α:Type} {sz:Nat} {r s:Gh} {R Q:List Value→α→Prop} {v:Value} {l:List α}
theorem SlG.up'(h:SlG sz r R v l)(le:Le r s)(hR:∀c x,R c x→Q c x):SlG sz s Q v l:=by
 obtain⟨p,cap,h1,h2,h3,h4⟩:=h
 refine⟨p,cap,h1,h2,h3,λi hi=>?_⟩
 obtain⟨c,h5,h6,h7⟩:=h4 i hi
 exact⟨c,h5,h6.up le,hR _ _ h7⟩
theorem SlG.mono(h:SlG sz r R v l)(hR:∀c x,R c x→Q c x):SlG sz r Q v l:=h.up' inferInstance hR
theorem SlG.cells(h:SlG sz r R v l)[le:Le r s]:SlG sz s R v l:=h.up' le λ_ _ h=>h
theorem SlG.nil:SlG sz r R (.slice none 0 0) ([]:List α):=⟨none,0,rfl,λ_=>rfl,Nat.le_refl _,λi hi=>absurd hi (Nat.not_lt_zero _)⟩
theorem SlG.shape(h:SlG sz r R v l):∃p cap,v=.slice p l.length cap∧(p=none→cap=0)∧l.length≤cap:=by
 obtain⟨p,cap,h1,h2,h3,_⟩:=h;exact⟨p,cap,h1,h2,h3⟩
theorem SlG.get(hz:0<sz){p:Option Addr}{n cap:Nat}(h:SlG sz r R (.slice p n cap) l){i:Nat}(hi:i<l.length):
  ∃b off c,p=some ⟨b,off,none⟩∧c.length=sz∧R c l[i]∧∀j v,c[j]? = some v→Ob r λw=>w.cell? ⟨b,off+i*sz+j,none⟩=some v:=by
 obtain⟨p',cap',h1,h2,h3,h4⟩:=h
 cases h1
 obtain⟨c,h5,h6,h7⟩:=h4 i hi
 obtain⟨b,off,hp,_⟩:=h6 0 c[0] (gqg (by omega))
 subst hp
 refine⟨b,off,c,rfl,h5,h7,λj v hj=>?_⟩
 obtain⟨b',off',hp,ho⟩:=h6 j v hj
 cases hp;exact ho
theorem RowOf.nil:RowOf sz R [] ([]:List α):=⟨by simp,λi hi=>absurd hi (Nat.not_lt_zero _)⟩
theorem RowOf.mono{xs:List Value}(h:RowOf sz R xs l)(hR:∀c x,R c x→Q c x):RowOf sz Q xs l:=⟨h.1,λi hi=>hR _ _ (h.2 i hi)⟩
theorem RowOf.snoc{xs c:List Value}{x:α}(h:RowOf sz R xs l)(hc:c.length=sz)(hx:R c x):RowOf sz R (xs++c) (l++[x]):=by
 obtain⟨h1,h2⟩:=h
 refine⟨by rw[gla,gla,h1,hc,gls,Nat.add_mul,Nat.one_mul],λi hi=>?_⟩
 rw[gla,gls]at hi
 rcases Nat.lt_or_ge i l.length with h|h
 ·have hm:i*sz+sz≤xs.length:=by rw[h1,← Nat.succ_mul];exact Nat.mul_le_mul_right _ h
  rw[List.getElem_append_left h,List.drop_append_of_le_length (by omega),List.take_append_of_le_length (by rw[List.length_drop];omega)]
  exact h2 i h
 ·obtain rfl:i=l.length:=by omega
  rw[List.getElem_append_right (Nat.le_refl _),← h1,List.drop_left',List.take_of_length_le (by omega)]
  ·simpa using hx
  ·rfl
theorem RowOf.sl{xs:List Value}(h:RowOf sz R xs l){p:Option Addr}{cap:Nat}(hp:p=none→cap=0)(hc:l.length≤cap)(ho:Ob r λw=>Sl w p xs)(hz:0<sz)(hk:∃w,Holds r w):SlG sz r R (.slice p l.length cap) l:=by
 refine⟨p,cap,rfl,hp,hc,λi hi=>⟨(xs.drop (i*sz)).take sz,?_,?_,h.2 i hi⟩⟩
 ·have :i*sz+sz≤xs.length:=by rw[h.1,← Nat.succ_mul];exact Nat.mul_le_mul_right _ hi
  rw[List.length_take,List.length_drop];omega
 ·intro j v hj
  rw[List.getElem?_take]at hj
  split at hj
  ·rw[List.getElem?_drop]at hj
   obtain⟨w,hw⟩:=hk
   obtain⟨b,off,rfl,_⟩:=ho w hw _ _ hj
   refine⟨b,off,rfl,λw' hw'=>?_⟩
   obtain⟨b',off',hp',hc'⟩:=ho w' hw' _ _ hj
   cases hp'
   rw[← Nat.add_assoc]at hc';exact hc'
  ·cases hj
end
section
variable {P:Program} {X:Nat→Prop} {w0 w:World} {r:Gh} {L:List Asr} {α:Type} {sz n:Nat} {R:List Value→α→Prop} {v:Value} {l:List α} {e:TypeId} {xs:List Value}
theorem StX.doneRow(S:StX X w0 r w (.row v e sz n xs::L))(h:RowOf sz R xs l)(hz:0<sz)(hn:n=l.length):
  ∃s,StX X w0 (r.or s) w L∧SlG sz s R v l∧(∀b o,s b o→∃c,o=.cells c e (0,0))∧(∀b o,s b o→w0.heap.size≤b∨X b):=by
 subst hn
 have hm:=S.mine _ (List.mem_cons_self ..)
 have hr:w.ownsRow 0 e sz v l.length xs:=S.has _ (List.mem_cons_self ..)
 rcases xK hr with⟨rfl,h1,h2⟩|⟨g,cap,c,rfl,hg,B,h1,_,h3,h4⟩
 ·have hl:l=[]:=List.eq_nil_of_length_eq_zero h1
  subst hl
  exact⟨nothing,S.tl.new (Ext.refl _) New.nothing,SlG.nil,λb o h=>h.elim,λb o h=>h.elim⟩
 ·have S':=S.turn (p:=[]) (x:=.row _ e sz l.length xs) (y:=.cell g c e) (ExtBut.refl _ _) B λk hk=>.inl (by cases hk;rfl)
  refine⟨one g c e,S'.frz,?_,λb o h=>⟨_,h.2⟩,λb o h=>(hm b (by rw[h.1];rfl)).1⟩
  refine h.sl (by simp) h1 (λw k=>?_) hz ⟨w,xx B⟩
  rw[← h4];exact(Sl.blk (xt w k)).take _
theorem StX.litSl{b:Nat}(S:StX X w0 r w (.cell b xs e::L))(h:RowOf sz R xs l)(hz:0<sz):StX X w0 (r.or (Go.Sh.one b xs e)) w L∧SlG sz (Go.Sh.one b xs e) R (.slice (some ⟨b,0,none⟩) l.length l.length) l:=
 ⟨S.frz,h.sl (by simp) (Nat.le_refl _) (λw k=>Sl.blk (xt w k)) hz ⟨w,xx (S.has _ (List.mem_cons_self ..))⟩⟩
theorem StX.d2{x y:Asr}(S:StX X w0 r w (x::y::L)):StX X w0 r w (x::L):=S.less (λ_ _ h=>h) (.cons_cons _ (List.sublist_cons_self _ _))
theorem StX.reGh{s t:Gh}(S:StX X w0 ((r.or s).or t) w L):StX X w0 (r.or (s.or t)) w L:=
 S.less (λb o h=>h.elim (λh=>.inl (.inl h)) λh=>h.elim (λh=>.inl (.inr h)) .inr) (List.Sublist.refl _)
theorem Above.or'{s t:Gh}(h:Above w0 s)(k:Above w0 t):Above w0 (s.or t):=λb o x=>x.elim (h b o) (k b o)
theorem Above.no:Above w0 nothing:=λb o h=>h.elim
theorem StX.newOf{q:Gh}(S:StX X w0 r w L)(h:Above w0 q)[Le q r]:New w0 q w:=⟨S.holds.le (h:=inferInstance),h⟩
end
def aeS(body:List Value→List Value→World→(List Value→World→Prop)→Prop):Nat→List Value→World→Prop
 |0,_,_=>False
 |n+1,s,w=>∀d K,(∀s' w',aeS body n s' w'→K s' w')→body s d w K
theorem Vg(n:Nat){init:List Value}{w:World}{body:List Value→List Value→World→(List Value→World→Prop)→Prop}(h:aeS body n init w):zu init w body:=by
 refine zk (ι:=List Value×World×Nat) (λi=>i.1) (λi w'=>i.2.1=w'∧aeS body i.2.2 i.1 w') (λi=>i.2.2) (init,w,n) rfl ⟨rfl,h⟩ ?_
 rintro⟨s,w0,n⟩ d w' ⟨rfl,h⟩ K hK
 cases n with
 |zero=>exact h.elim
 |succ n=>exact h d K λs' w' h'=>hK (s',w',n) w' ⟨rfl,h'⟩ (Nat.lt_succ_self n)
section
variable {P:Program}
theorem yo{d:Dat}{t:TypeId}{k:IntKind}(u:P.underlying t=some (.int k))(h:d.ok P t):∃n,d=.int k n∧(Lit.int k n).wf=true:=by
 cases d<;>simp only[Dat.ok,u]at h<;>try simp at h
 obtain⟨rfl,h⟩:=h
 exact⟨_,rfl,h⟩
theorem ac5{d:Dat}{t:TypeId}(u:P.underlying t=some .bool)(h:d.ok P t):∃b,d=.bool b:=by
 cases d<;>simp only[Dat.ok,u]at h<;>try simp at h
 exact⟨_,rfl⟩
theorem aid{d:Dat}{t:TypeId}(u:P.underlying t=some .string)(h:d.ok P t):∃s,d=.str s∧s.size≤maxLen:=by
 cases d<;>simp only[Dat.ok,u]at h<;>try simp at h
 exact⟨_,rfl,h⟩
theorem ai9{d:Dat}{t e:TypeId}(u:P.underlying t=some (.slice e))(h:d.ok P t):∃es,d=.sl (P.cellsOf e) es∧es.length≤maxLen∧∀x∈es,x.ok P e:=by
 cases d<;>simp only[Dat.ok,u]at h<;>try simp at h
 obtain⟨rfl,h1,h2⟩:=h
 exact⟨_,rfl,h1,aem h2⟩
theorem qA{d:Dat}{t:TypeId}{ts:List TypeId}(u:∃fs,P.underlying t=some (.struct fs)∧fs.toList.map (·.type)=ts)(h:d.ok P t):∃ds,d=.agg ds∧Dat.okF P ds ts:=by
 obtain⟨fs,u,rfl⟩:=u
 cases d<;>simp only[Dat.ok,u]at h<;>try simp at h
 exact⟨_,rfl,by simpa using h⟩
theorem zr{ds:List Dat}{t:TypeId}{ts:List TypeId}(h:Dat.okF P ds (t::ts)):∃d r,ds=d::r∧d.ok P t∧Dat.okF P r ts:=by
 cases ds with
 |nil=>cases h
 |cons d r=>obtain ⟨t',r',h1,h2,h3⟩:=h;cases h1;exact⟨d,r,rfl,h2,h3⟩
theorem qB{ds:List Dat}(h:Dat.okF P ds []):ds=[]:=by
 cases ds with
 |nil=>rfl
 |cons d r=>obtain ⟨t',r',h1,_⟩:=h;cases h1
noncomputable def aen(P:Program)(t:TypeId)(ts:List TypeId):Bool:=match P.underlying t with|some (.struct fs)=>decide (fs.toList.map (·.type)=ts)|_=>false
theorem xE{t:TypeId}{ts:List TypeId}(h:aen P t ts=true):∃fs,P.underlying t=some (.struct fs)∧fs.toList.map (·.type)=ts:=by
 unfold aen at h
 split at h
 ·rename_i fs hu;exact⟨fs,hu,of_decide_eq_true h⟩
 ·cases h
end
theorem afM{n:Int}(h:(Lit.int .i64 n).wf=true): -9223372036854775808≤n∧n≤9223372036854775807:=by
 simp only[Lit.wf,gba,gdt]at h
 exact⟨h.1,h.2⟩
theorem ac6{α:Type}{f:α→Dat}{G:α→Prop}:∀es:List Dat,(∀d∈es,∃t,d=f t∧G t)→∃l:List α,es=l.map f∧∀t∈l,G t
 |[],_=>⟨[],rfl,λt h=>by cases h⟩
 |d::es,h=>by
  obtain⟨t,rfl,ht⟩:=h d List.mem_cons_self
  obtain⟨l,rfl,hq⟩:=ac6 es λx hx=>h x (List.mem_cons_of_mem _ hx)
  refine⟨t::l,rfl,λx hx=>?_⟩
  rcases List.mem_cons.1 hx with rfl|hx
  ·exact ht
  ·exact hq x hx
end
end Go.Sh
namespace Go.Proofs
open Go.Sh
section
variable {r s:Gh} {c:List Value} {ss:List StD} {α:Type} {sz:Nat} {v:Value} {t:TyD}
structure PlD where
 l:Int
 ps:List Int
structure OpD where
 k:Int
 n:Int
 pl:PlD
structure PtD where
 op:Int
 to:PlD
 a:OpD
 b:OpD
 args:List OpD
 sign:ByteArray
 fr:PlD
 mu:Bool
 fn:Int
 st:Int
 nx:Int
 el:Int
 tx:Int
structure GrD where
 name:ByteArray
 lv:Int
 outs:List (Int×Int)
 pn:Int
 tys:List TyD
 nms:List ByteArray
 pts:List PtD
structure UnD where
 ss:List StD
 fs:List GrD
 mn:Int
def xn(c:List Value)(x:Int):Prop:=c=[.int .i64 x]
def YK(x:Int):Prop:=-9223372036854775808≤x∧x<9223372036854775808
def xo(c:List Value)(x:Int):Prop:=c=[.int .i64 x]∧YK x
structure SlB{α:Type}(sz:Nat)(r:Gh)(R:List Value→α→Prop)(v:Value)(l:List α):Prop where
 sl:SlG sz r R v l
 few:l.length≤maxLen
theorem SlB.cells{R:List Value→α→Prop}{l:List α}(h:SlB sz r R v l)[le:Le r s]:SlB sz s R v l:=⟨h.sl.cells,h.few⟩
theorem SlB.up'{R Q:List Value→α→Prop}{l:List α}(h:SlB sz r R v l)(le:Le r s)(hR:∀c x,R c x→Q c x):SlB sz s Q v l:=⟨h.sl.up' le hR,h.few⟩
theorem kg{D:α→Dat}{R:List Value→α→Prop}{cs:List Value}{l:List α}(hR:∀c x,x∈l→Rep r (D x) c→R c x)(h:Rep r (.sl sz (l.map D)) cs)(hl:l.length≤maxLen):∃v,cs=[v]∧SlB sz r R v l:=by
 obtain⟨p,cap,rfl,h1,h2,h3⟩:=h
 rw[List.length_map]at h2⊢
 refine⟨_,rfl,⟨p,cap,rfl,h1,h2,λi hi=>?_⟩,hl⟩
 obtain⟨c,h4,h5,h6⟩:=h3.get (i:=i) (d:=D l[i]) (by rw[List.getElem?_map,gqg hi];rfl)
 rw[Nat.zero_add]at h5
 exact⟨c,h4,h5,hR _ _ (gem hi) h6⟩
def PlD.ok(p:PlD):Prop:=p.ps.length≤maxLen∧∀k∈p.ps,YK k
def OpD.ok(o:OpD):Prop:=o.pl.ok
def PtD.ok(p:PtD):Prop:=p.to.ok∧p.a.ok∧p.b.ok∧(p.args.length≤maxLen∧∀o∈p.args,o.ok)∧p.fr.ok
def GrD.ok(g:GrD):Prop:=g.outs.length≤maxLen∧g.tys.length≤maxLen∧g.nms.length≤maxLen∧g.pts.length≤maxLen∧∀p∈g.pts,p.ok
def UnD.ok(u:UnD):Prop:=u.ss.length≤maxLen∧u.fs.length≤maxLen∧∀g∈u.fs,g.ok
def agU(c:List Value)(x:ByteArray):Prop:=c=[.string x]
def agV(c:List Value)(x:Int×Int):Prop:=c=[.int .i64 x.1,.int .i64 x.2]
def TyC(r:Gh)(c:List Value)(t:TyD):Prop:=TyG r (.agg c.toArray) t
def PlG(r:Gh)(c:List Value)(p:PlD):Prop:=∃v,c=[.int .i64 p.l,v]∧SlB 1 r xo v p.ps
def OpG(r:Gh)(c:List Value)(o:OpD):Prop:=∃v,c=[.int .u8 o.k,.int .i64 o.n,.int .i64 o.pl.l,v]∧SlB 1 r xo v o.pl.ps
def PtG(r:Gh)(c:List Value)(p:PtD):Prop:=∃vt va vb vl vf,
 c=[.int .u8 p.op,.int .i64 p.to.l,vt,.int .u8 p.a.k,.int .i64 p.a.n,.int .i64 p.a.pl.l,va,.int .u8 p.b.k,.int .i64 p.b.n,.int .i64 p.b.pl.l,vb,vl,.string p.sign,.int .i64 p.fr.l,vf,.bool p.mu,.int .i64 p.fn,.int .i64 p.st,.int .i64 p.nx,.int .i64 p.el,.int .i64 p.tx]∧
 SlB 1 r xo vt p.to.ps∧SlB 1 r xo va p.a.pl.ps∧SlB 1 r xo vb p.b.pl.ps∧SlB 4 r (OpG r) vl p.args∧SlB 1 r xo vf p.fr.ps
def GrG(r:Gh)(c:List Value)(g:GrD):Prop:=∃vo vt vn vp,c=[.string g.name,.int .i64 g.lv,vo,.int .i64 g.pn,vt,vn,vp]∧
 SlB 2 r agV vo g.outs∧SlB 5 r (TyC r) vt g.tys∧SlB 1 r agU vn g.nms∧SlB 21 r (PtG r) vp g.pts
def UnG(r:Gh)(v:Value)(u:UnD):Prop:=∃p cap vf,v=.agg #[.slice p u.ss.length cap,vf,.int .i64 u.mn]∧(p=none→cap=0)∧u.ss.length≤cap∧StG r p u.ss∧u.ss.length≤maxLen∧SlB 7 r (GrG r) vf u.fs
theorem PlG.up{p:PlD}(h:PlG r c p)[l:Le r s]:PlG s c p:=by
 obtain⟨v,h1,h2⟩:=h;exact⟨v,h1,h2.cells⟩
theorem OpG.up{p:OpD}(h:OpG r c p)[l:Le r s]:OpG s c p:=by
 obtain⟨v,h1,h2⟩:=h;exact⟨v,h1,h2.cells⟩
theorem PtG.up{p:PtD}(h:PtG r c p)[l:Le r s]:PtG s c p:=by
 obtain⟨vt,va,vb,vl,vf,h0,h1,h2,h3,h4,h5⟩:=h
 exact⟨vt,va,vb,vl,vf,h0,h1.cells,h2.cells,h3.cells,h4.up' l λ_ _ h=>h.up,h5.cells⟩
theorem GrG.up{g:GrD}(h:GrG r c g)[l:Le r s]:GrG s c g:=by
 obtain⟨vo,vt,vn,vp,h0,h1,h2,h3,h4⟩:=h
 exact⟨vo,vt,vn,vp,h0,h1.cells,h2.up' l λ_ _ h=>TyG.up h,h3.cells,h4.up' l λ_ _ h=>h.up⟩
theorem UnG.up{u:UnD}(h:UnG r v u)[l:Le r s]:UnG s v u:=by
 obtain⟨p,cap,vf,h0,h1,h2,h3,h5,h4⟩:=h
 exact⟨p,cap,vf,h0,h1,h2,h3.up,h5,h4.up' l λ_ _ h=>h.up⟩
def PlD.dat(p:PlD):Dat:=.agg [.int .i64 p.l,.sl 1 (p.ps.map (Dat.int .i64))]
def OpD.dat(o:OpD):Dat:=.agg [.int .u8 o.k,.int .i64 o.n,o.pl.dat]
def PtD.dat(p:PtD):Dat:=.agg [.int .u8 p.op,p.to.dat,p.a.dat,p.b.dat,.sl 4 (p.args.map OpD.dat),.str p.sign,p.fr.dat,.bool p.mu,.int .i64 p.fn,.int .i64 p.st,.int .i64 p.nx,.int .i64 p.el,.int .i64 p.tx]
def aeT(x:Int×Int):Dat:=.agg [.int .i64 x.1,.int .i64 x.2]
def GrD.dat(g:GrD):Dat:=.agg [.str g.name,.int .i64 g.lv,.sl 2 (g.outs.map aeT),.int .i64 g.pn,.sl 5 (g.tys.map TyD.dat),.sl 1 (g.nms.map Dat.str),.sl 21 (g.pts.map PtD.dat)]
def UnD.dat(u:UnD):Dat:=.agg [.sl 2 (u.ss.map StD.dat),.sl 7 (u.fs.map GrD.dat),.int .i64 u.mn]
theorem Ys{p:PlD}(h:Rep r p.dat c)(k:p.ok):PlG r c p:=by
 obtain⟨a1,b1,rfl,e1,a2,b2,rfl,e2,e3⟩:=h
 obtain rfl:a1=_:=e1
 obtain rfl:b2=[]:=e3
 obtain⟨v,rfl,hv⟩:=kg (D:=Dat.int .i64) (R:=xo) (λc x hx h=>⟨h,k.2 x hx⟩) e2 k.1
 exact⟨v,rfl,hv⟩
theorem QH{o:OpD}(h:Rep r o.dat c)(k:o.ok):OpG r c o:=by
 obtain⟨a1,b1,rfl,e1,a2,b2,rfl,e2,a3,b3,rfl,e3,e4⟩:=h
 obtain rfl:a1=_:=e1
 obtain rfl:a2=_:=e2
 obtain rfl:b3=[]:=e4
 obtain⟨v,rfl,hv⟩:=Ys e3 k
 exact⟨v,rfl,hv⟩
theorem afN{p:PtD}(h:Rep r p.dat c)(k:p.ok):PtG r c p:=by
 obtain⟨a1,b1,rfl,e1,a2,b2,rfl,e2,a3,b3,rfl,e3,a4,b4,rfl,e4,a5,b5,rfl,e5,a6,b6,rfl,e6,a7,b7,rfl,e7,a8,b8,rfl,e8,a9,b9,rfl,e9,a10,b10,rfl,e10,a11,b11,rfl,e11,a12,b12,rfl,e12,a13,b13,rfl,e13,e14⟩:=h
 obtain rfl:a1=_:=e1
 obtain rfl:a6=_:=e6
 obtain rfl:a8=_:=e8
 obtain rfl:a9=_:=e9
 obtain rfl:a10=_:=e10
 obtain rfl:a11=_:=e11
 obtain rfl:a12=_:=e12
 obtain rfl:a13=_:=e13
 obtain rfl:b13=[]:=e14
 obtain⟨v2,rfl,h2⟩:=Ys e2 k.1
 obtain⟨v3,rfl,h3⟩:=QH e3 k.2.1
 obtain⟨v4,rfl,h4⟩:=QH e4 k.2.2.1
 obtain⟨v5,rfl,h5⟩:=kg (R:=OpG r) (λc x hx h=>QH h (k.2.2.2.1.2 x hx)) e5 k.2.2.2.1.1
 obtain⟨v7,rfl,h7⟩:=Ys e7 k.2.2.2.2
 exact⟨v2,v3,v4,v5,v7,rfl,h2,h3,h4,h5,h7⟩
theorem aeU{x:Int×Int}(h:Rep r (aeT x) c):agV c x:=by
 obtain⟨a1,b1,rfl,e1,a2,b2,rfl,e2,e3⟩:=h
 obtain rfl:a1=_:=e1
 obtain rfl:a2=_:=e2
 obtain rfl:b2=[]:=e3
 rfl
theorem afO{g:GrD}(h:Rep r g.dat c)(k:g.ok):GrG r c g:=by
 obtain⟨a1,b1,rfl,e1,a2,b2,rfl,e2,a3,b3,rfl,e3,a4,b4,rfl,e4,a5,b5,rfl,e5,a6,b6,rfl,e6,a7,b7,rfl,e7,e8⟩:=h
 obtain rfl:a1=_:=e1
 obtain rfl:a2=_:=e2
 obtain rfl:a4=_:=e4
 obtain rfl:b7=[]:=e8
 obtain⟨v3,rfl,h3⟩:=kg (R:=agV) (λc x _ h=>aeU h) e3 k.1
 obtain⟨v5,rfl,h5⟩:=kg (R:=TyC r) (λc x _ h=>TyG.of_rep h) e5 k.2.1
 obtain⟨v6,rfl,h6⟩:=kg (D:=Dat.str) (R:=agU) (λc x _ h=>h) e6 k.2.2.1
 obtain⟨v7,rfl,h7⟩:=kg (R:=PtG r) (λc x hx h=>afN h (k.2.2.2.2 x hx)) e7 k.2.2.2.1
 exact⟨v3,v5,v6,v7,rfl,h3,h5,h6,h7⟩
theorem afP{u:UnD}(h:Rep r u.dat c)(k:u.ok):UnG r (.agg c.toArray) u:=by
 obtain⟨a1,b1,rfl,e1,a2,b2,rfl,e2,a3,b3,rfl,e3,e4⟩:=h
 obtain rfl:a3=_:=e3
 obtain rfl:b3=[]:=e4
 obtain⟨q,cap,rfl,h1,h2,h3⟩:=e1
 obtain⟨vf,rfl,hf⟩:=kg (R:=GrG r) (λc x hx h=>afO h (k.2.2 x hx)) e2 k.2.1
 rw[List.length_map]at h2⊢
 exact⟨q,cap,vf,rfl,h1,h2,h3,k.1,hf⟩
def stepG(ss:List StD)(s:TyD×Int)(k:Int):Option (TyD×Int):=
 if k = -1∧s.1.k=3 then s.1.of.head?.map λu=>(u,max s.2 1)
 else if k = -1∧s.1.k=4 then s.1.of.head?.map λu=>(u,max s.2 (if s.1.m then 2 else 3))
 else if 0≤k∧s.1.k=5 then(ze ss s.1.st)[k.toNat]?.map λu=>(u,s.2)
 else none
def goG(ss:List StD):List Int→TyD×Int→Option (TyD×Int)
 |[],s=>some s
 |k::l,s=>(stepG ss s k).bind (goG ss l)
def zs(ss:List StD)(tys:List TyD)(p:PlD):TyD×Int×Bool:=
 match (if p.l<0 then none else tys[p.l.toNat]?).bind λt=>goG ss p.ps (t,0)with
 |some s=>(s.1,s.2,decide (p.ps.length≤8))
 |none=>(zK,0,false)
def ya:TyD:=⟨1,false,0,0,[]⟩
def acp:TyD:=⟨2,false,0,0,[]⟩
def jJ(p:PlD):Bool:=decide (p.l=0)&&decide (p.ps.length=0)
def XD(o:OpD):Bool:=(decide (o.k=0)&&decide (o.n=0))&&jJ o.pl
def yd(ss:List StD)(tys:List TyD)(o:OpD):TyD×Bool:=
 if o.k=1 then(ya,jJ o.pl)
 else if o.k=2 then(acp,jJ o.pl&&(decide (o.n=0)||decide (o.n=1)))
 else if o.k=3 then((zs ss tys o.pl).1,((zs ss tys o.pl).2.2&&decide (o.n=0))&&jv (zs ss tys o.pl).1)
 else if o.k=4 then((zs ss tys o.pl).1,(((zs ss tys o.pl).2.2&&decide (o.n=0)) && !jv (zs ss tys o.pl).1)&&decide ((zs ss tys o.pl).2.1<2))
 else(zK,false)
structure aeV where
 to:Bool:=false
 a:Bool:=false
 b:Bool:=false
 args:Bool:=false
 sign:Bool:=false
 fr:Bool:=false
 mu:Bool:=false
 fn:Bool:=false
 st:Bool:=false
 el:Bool:=false
def qC(p:PtD)(h:aeV):List Bool:=
 [h.to||jJ p.to,h.a||XD p.a,h.b||XD p.b,h.args||decide (p.args.length=0),h.sign||(p.sign.toList == []),h.fr||jJ p.fr,h.mu || !p.mu,h.fn||decide (p.fn=0),h.st||decide (p.st=0),h.el||decide (p.el=0)]
def zE(p:PtD)(h:aeV):Bool:=(qC p h).all id
def kh(ss:List StD)(tys:List TyD):List OpD→List TyD→Bool
 |[],[]=>true
 |o::l,t::r=>((yd ss tys o).2&&yi yP (yd ss tys o).1 t)&&kh ss tys l r
 |_,_=>false
def XE(g:GrD)(q:Int):Bool:=decide (0≤q)&&decide (q<g.pts.length)
def isK(t:TyD)(k:Int):Bool:=decide (t.k=k)
def xe(s:ByteArray)(l:List (List UInt8)):Bool:=l.any λx=>s.toList == x
noncomputable def ptG(u:UnD)(g:GrD)(p:PtD):Bool:=
 let to:=zs u.ss g.tys p.to
 let fr:=zs u.ss g.tys p.fr
 let laid:=to.2.2&&decide (to.2.1<3)
 let a:=yd u.ss g.tys p.a
 let b:=yd u.ss g.tys p.b
 let ints:=isK a.1 1&&isK b.1 1
 if p.op=1 then((zE p { to:=true,a:=true } && laid)&&a.2)&&yi yP a.1 to.1
 else if p.op=2 then
  (zE p { to:=true,a:=true,b:=true,sign:=true } && (laid&&(a.2&&b.2))) &&
   (if xe p.sign [[43],[45],[42],[47],[37]]then isK to.1 1&&ints
    else if xe p.sign [[60],[60,61],[62],[62,61]]then isK to.1 2&&ints
    else if xe p.sign [[61,61],[33,61]]then isK to.1 2&&(ints||(isK a.1 2&&isK b.1 2))else false)
 else if p.op=3 then
  ((zE p { to:=true,a:=true,sign:=true } && laid)&&a.2) &&
   (if xe p.sign [[45]]then isK to.1 1&&isK a.1 1 else if xe p.sign [[33]]then isK to.1 2&&isK a.1 2 else false)
 else if p.op=4 then
  ((((zE p { to:=true,fr:=true,mu:=true } && laid)&&fr.2.2)&&isK to.1 4)&&decide (to.1.m=p.mu))&&(yi yP (to.1.of.headD zK) fr.1 && !(p.mu&&decide (fr.2.1=3)))
 else if p.op=5 then(((zE p { to:=true,a:=true } && laid)&&a.2)&&isK to.1 3)&&yi yP (to.1.of.headD zK) a.1
 else if p.op=6 then
  (((zE p { to:=true,args:=true,st:=true } && laid)&&isK to.1 5)&&decide (to.1.st=p.st))&&kh u.ss g.tys p.args (xu u.ss to.1).1
 else if p.op=7 then
  ((zE p { to:=true,args:=true,fn:=true } && laid)&&(decide (0≤p.fn)&&decide (p.fn<u.fs.length))) &&
   (match u.fs[p.fn.toNat]? with
    |some f=>yi yP to.1 (f.tys.headD zK)&&kh u.ss g.tys p.args ((f.tys.drop 1).take f.pn.toNat)
    |none=>false)
 else if p.op=8 then(zE p { to:=true } && laid)&&isK to.1 1
 else if p.op=9 then(zE p { a:=true } && a.2)&&isK a.1 1
 else if p.op=10 then((zE p { fr:=true } && fr.2.2)&&(xm u.ss fr.1).1)&&decide (fr.2.1<2)
 else if p.op=11 then((zE p { fr:=true } && fr.2.2)&&decide (0<p.fr.l))&&decide (p.fr.ps.length=0)
 else if p.op=12 then((zE p { a:=true,el:=true } && a.2)&&isK a.1 2)&&XE g p.el
 else if p.op=13∨p.op=14 then zE p {}
 else false
noncomputable def zG(u:UnD)(g:GrD)(p:PtD):Bool:=
 !((decide (p.tx<0)||(!decide (p.op=14) && !XE g p.nx))||(decide (p.op=14) && !decide (p.nx=0)))&&ptG u g p
def jK(x y:Int):List Int→Bool
 |[]=>false
 |a::l=>(decide (a=y)&&l.contains x)||jK x y l
def jL(tys:List TyD)(x y:Int):Bool:=tys.any λt=>jK x y (zz t)
def vr(outs:List (Int×Int))(x y:Int):Bool:=outs.contains (x,y)
def kP(lv:Int)(o:Int×Int):Bool:=!((decide (min o.1 o.2<0)||decide (lv≤max o.1 o.2))||decide (o.1=o.2))
def vu(o w:Int×Int):Bool:=decide (o.1<w.1)||(decide (o.1=w.1)&&decide (o.2<w.2))
def V4:List (Int×Int)→Bool
 |a::b::l=>vu a b&&V4 (b::l)
 |_=>true
def aeW(n:Nat)(must says:Int→Int→Bool):Bool:=
 (List.range n).all λa:Nat=>(List.range n).all λb:Nat=>
  ((List.range n).all λc:Nat=>!((says a b&&says b c)&&(!decide (a=c) && !says a c))) && !(!decide (a=b)&&(must a b && !says a b))
def XF(g:GrD):Bool:=
 (g.outs.all (kP g.lv)&&V4 g.outs)&&aeW g.lv.toNat (jL (g.tys.take (g.pn.toNat+1))) (vr g.outs)
noncomputable def tyG(u:UnD)(g:GrD)(i:Nat)(t:TyD):Bool:=
 mayB u.ss t&&(zz t).all λr=>!(decide (r<(if(i:Int)≤g.pn then 0 else -1))||decide (g.lv≤r))
noncomputable def j4(u:UnD)(g:GrD):Nat→List TyD→Bool
 |_,[]=>true
 |i,t::l=>tyG u g i t&&j4 u g (i+1) l
def xb(l:List PtD):Nat:=l.countP λp=>decide (p.op=4)
noncomputable def ki(u:UnD)(fn:Nat)(g:GrD):Bool:=
 ((((((decide (0≤g.lv)&&decide (g.lv≤8))&&(decide (0≤g.pn)&&decide (g.pn≤8)))&&(decide (g.pn<g.tys.length)&&decide (g.tys.length≤512)))&&decide (g.nms.length=g.tys.length)) &&
  j4 u g 0 g.tys)&&((decide (1≤g.pts.length)&&decide (g.pts.length≤1024))&&XF g)) &&
  (decide (xb g.pts≤256)&&(!decide ((fn:Int)=u.mn)||((decide (g.lv=0)&&decide (g.pn=0))&&isK (g.tys.headD zK) 1)))
noncomputable def qT(u:UnD):Nat→List GrD→Option Nat
 |_,[]=>none
 |i,g::l=>if ki u i g then qT u (i+1) l else some i
noncomputable def Zu(u:UnD)(g:GrD):Nat→List PtD→Option Nat
 |_,[]=>none
 |q,p::l=>if zG u g p then Zu u g (q+1) l else some q
noncomputable def ZX(u:UnD):Nat→List GrD→Option (Nat×Nat)
 |_,[]=>none
 |i,g::l=>match Zu u g 0 g.pts with|some q=>some (i,q)|none=>ZX u (i+1) l
noncomputable def qU(u:UnD):Int×Int×Int:=
 if !decide ((zI u.ss).2=0)||(decide (u.fs.length<1)||decide (32<u.fs.length))||(decide (u.mn<0)||decide ((u.fs.length:Int)≤u.mn))then(-1,-1,100)
 else match qT u 0 u.fs with
  |some i=>(i,-1,100)
  |none=>match ZX u 0 u.fs with
   |some (i,q)=>(i,q,100)
   |none=>(0,0,0)
noncomputable def Vh(u:UnD):Bool:=decide ((qU u).2.2=0)
theorem aby:∀{n:Nat}{s s':Int}{m:Nat}{t:TyD},zA s n t=true→n≤m→s≤s'→zA s' m t=true:=by
 intro n
 induction n with
 |zero=>intro s s' m t h;cases h
 |succ n ih=>
  intro s s' m t h hm hs
  obtain⟨m,rfl⟩:∃k,m=k+1:=⟨m-1,by omega⟩
  have inn:inB s n t=true→inB s' m t=true:=by
   intro hi
   cases t with
   |mk k mm re st of=>
    cases of with
    |nil=>cases hi
    |cons u l=>exact ih (t:=u) hi (by omega) hs
  rw[yR]at h⊢
  split
  ·rename_i h1;rw[if_pos h1]at h;exact h
  ·rename_i h1;rw[if_neg h1]at h
   split
   ·rename_i h2;rw[if_pos h2]at h
    simp only[gba,gdt]at h⊢
    exact⟨h.1,by omega⟩
   ·rename_i h2;rw[if_neg h2]at h
    split
    ·rename_i h3;rw[if_pos h3]at h
     simp only[gba,gdt]at h⊢
     exact⟨h.1,h.2.1,inn h.2.2⟩
    ·rename_i h3;rw[if_neg h3]at h
     split
     ·rename_i h4;rw[if_pos h4]at h
      simp only[gba,gdt]at h⊢
      exact⟨h.1,h.2.1,inn h.2.2⟩
     ·rename_i h4;rw[if_neg h4]at h;cases h
def Fine(ss:List StD)(t:TyD):Prop:=zA ss.length 48 t=true
theorem Fine.is(h:Fine ss t)(hs:ss.length≤32):isB t=true:=aby h (Nat.le_refl _) (by omega)
theorem Fine.cases(h:Fine ss t):(t.of=[]∧(t.k=1∨t.k=2∨t.k=5))∨∃u,t.of=[u]∧Fine ss u∧(t.k=3∨t.k=4):=by
 rcases zQ h with h|⟨u,h1,h2,h3⟩
 ·exact .inl h
 ·exact .inr ⟨u,h1,aby h2 (by omega) (Int.le_refl _),h3⟩
theorem Fine.st(h:Fine ss t)(hk:t.k=5):0≤t.st∧t.st<ss.length:=by
 have:=Y7 h hk
 exact⟨this.1,this.2.1⟩
theorem afQ(hg:kW ss){s:TyD×Int}{k:Int}{s':TyD×Int}(h:Fine ss s.1)(e:stepG ss s k=some s'):Fine ss s'.1:=by
 have inside:∀{f:TyD→TyD×Int},(∀u,(f u).1=u)→s.1.of.head?.map f=some s'→Fine ss s'.1:=by
  intro f hf e
  rcases h.cases with⟨h1,_⟩|⟨u,h1,h2,_⟩
  ·rw[h1]at e;cases e
  ·rw[h1]at e
   obtain rfl:=Option.some.inj e
   rw[hf];exact h2
 unfold stepG at e
 split at e
 ·exact inside (λ_=>rfl) e
 split at e
 ·exact inside (λ_=>rfl) e
 split at e
 ·rename_i h3
  cases hu:(ze ss s.1.st)[k.toNat]? with
  |none=>rw [hu]at e;cases e
  |some u=>
   rw[hu]at e
   obtain rfl:=Option.some.inj e
   exact hg _ u (List.mem_of_getElem? hu)
 ·cases e
theorem aaW{ss:List StD}(hg:kW ss):∀{l:List Int}{s s':TyD×Int},Fine ss s.1→goG ss l s=some s'→Fine ss s'.1
 |[],s,s',h,e=>by obtain rfl:=Option.some.inj e;exact h
 |k::l,s,s',h,e=>by
  rw[goG]at e
  cases hs:stepG ss s k with
  |none=>rw [hs]at e;cases e
  |some s2=>rw [hs]at e;exact aaW hg (afQ hg h hs) e
structure qD(ss:List StD)(tys:List TyD):Prop where
 few:ss.length≤32
 good:kW ss
 acy:∀k,¬Rch ss k k
 all:∀t∈tys,Fine ss t
theorem abz{tys:List TyD}(h:qD ss tys){p:PlD}(ho:(zs ss tys p).2.2=true):Fine ss (zs ss tys p).1:=by
 unfold zs at ho⊢
 cases hb:(if p.l<0 then none else tys[p.l.toNat]?).bind λt=>goG ss p.ps (t,0)with
 |none=>rw [hb]at ho;cases ho
 |some s=>
  show Fine ss s.1
  split at hb
  ·cases hb
  ·cases ht:tys[p.l.toNat]? with
   |none=>rw [ht]at hb;cases hb
   |some t=>
    rw[ht]at hb
    exact aaW h.good (h.all t (List.mem_of_getElem? ht)) hb
end
mutual
def TyD.mapR(f:Int→Int):TyD→TyD
 |.mk k m re st of=>.mk k m (if k=4 then f re else re) st (TyD.mapsR f of)
def TyD.mapsR(f:Int→Int):List TyD→List TyD
 |[]=>[]
 |t::l=>TyD.mapR f t::TyD.mapsR f l
end
theorem XG{f:Int→Int}{t:TyD}(h:t.of=[]):t.mapR f=.mk t.k t.m (if t.k=4 then f t.re else t.re) t.st []:=by
 cases t with|mk k m re st of=>cases h;rfl
theorem XH{f:Int→Int}{t u:TyD}(h:t.of=[u]):t.mapR f=.mk t.k t.m (if t.k=4 then f t.re else t.re) t.st [u.mapR f]:=by
 cases t with|mk k m re st of=>cases h;rfl
def atL(l:List Int)(x:Int):Int:=l.getD x.toNat 0
def qE(_:Int):Int:=-1
def xp:List Int→Int→List Int
 |[],_=>[]
 |k::l,c=>if k<0 then c::xp l (c+1)else k::xp l c
def yw:List Int→Int
 |[]=>0
 |k::l=>(if k<0 then 1 else 0)+yw l
theorem jf:∀(l:List Int)(c:Int),(xp l c).length=l.length
 |[],_=>rfl
 |k::l,c=>by
  rw[xp];split<;>simp [jf l]
theorem ZA:∀l:List Int,0≤yw l∧yw l≤l.length
 |[]=>by simp[yw]
 |k::l=>by
  have:=ZA l
  rw[yw,List.length_cons]
  split<;>omega
def kK:List TyD→Int→List TyD
 |[],_=>[]
 |t::l,c=>t.lay (xp (zz t) c)::kK l (c+yw (zz t))
def zY:List TyD→Int
 |[]=>0
 |t::l=>yw (zz t)+zY l
theorem jg:∀(l:List TyD)(c:Int),(kK l c).length=l.length
 |[],_=>rfl
 |t::l,c=>by rw[kK,List.length_cons,jg l,List.length_cons]
def agW(u:UnD)(fn:Int):Int:=match u.fs[fn.toNat]? with|some g=>g.lv|none=>0
def ptN(u:UnD)(p:PtD):Int:=if p.op=4 then 1 else if p.op=7 then agW u p.fn else 0
def atK(u:UnD):List PtD→Int→List Int
 |[],_=>[]
 |p::l,c=>(if ptN u p=0 then -1 else c)::atK u l (c+ptN u p)
def atC(u:UnD):List PtD→Int
 |[]=>0
 |p::l=>ptN u p+atC u l
theorem Jm(u:UnD):∀(l:List PtD)(c:Int),(atK u l c).length=l.length
 |[],_=>rfl
 |p::l,c=>by rw[atK,List.length_cons,Jm u l,List.length_cons]
structure RgD where
 lv:Int
 pt:Int
 ct:Int
 tys:List TyD
 at':List Int
def vM:RgD:=⟨0,0,0,[],[]⟩
def yI(u:UnD)(g:GrD):RgD:=⟨g.lv,g.pts.length,g.lv+zY g.tys+atC u g.pts,kK g.tys g.lv,atK u g.pts (g.lv+zY g.tys)⟩
noncomputable def isU(u:UnD)(fn q:Int):Bool:=(decide (0≤fn)&&decide (fn<u.fs.length))&&(Vh u&&decide (q<((u.fs[fn.toNat]?.map λg=>(g.pts.length:Int)).getD 0)))
noncomputable def zF(u:UnD)(fn q:Int):RgD×Int:=
 if isU u fn q then(match u.fs[fn.toNat]? with|some g=>(yI u g,0)|none=>(vM,2))else(vM,2)
def zN(x:RgD×Int):RgD×Int:=if x.2=0 then(if 512<x.1.ct then(vM,5)else x)else(vM,x.2)
def RgG(r:Gh)(v:Value)(d:RgD):Prop:=∃vl va,v=.agg #[.int .i64 d.lv,.int .i64 d.pt,.int .i64 d.ct,vl,va]∧SlG 5 r (TyC r) vl d.tys∧SlG 1 r xn va d.at'
theorem RgG.zero{r:Gh}:RgG r (.agg #[.int .i64 0,.int .i64 0,.int .i64 0,.slice none 0 0,.slice none 0 0]) vM:=⟨_,_,rfl,SlG.nil,SlG.nil⟩
section
variable {r:Gh} {w:World} {K:Value→World→Prop} {c:List Value} {p:PlD} {t:TyD} {v:Value} {u:UnD} {g:GrD} {ss:List StD} {tys:List TyD}
instance {P:Program} {t e ty:TypeId} {a b:Int}:PStep P (Builtin.max_ #[t,e] ty #[.int .i64 a,.int .i64 b]) (.int .i64 (max a b)):=⟨λw=>Lib.run_max_ints w _ _ _ _ _ _⟩
instance (priority:=low) {P:Program} {t:TypeId} {c:Bool} {x:ByteArray} {m:List UInt8}:PStep P (zC .eql t c (.string x) (.string (bs m))) (.bool (x.toList == m)):=.of λ_ k=>
 zX (λw=>by rw[agQ trivial,binOp_string_eql,abu m];rfl) k
theorem aja{P:Program}{s:Sem Value}(h:opQ P w s λv=>K v w):opW P w s K:=w_q (by
 obtain⟨v,h1,h2⟩:=h
 exact⟨v,h1,h2⟩)
theorem SlB.lt{α:Type}{sz:Nat}{R:List Value→α→Prop}{l:List α}(h:SlB sz r R v l):l.length≤9223372036854775807:=h.few
theorem YL{a:Nat}:decide ((a:Int)=0)=decide (a=0):=decide_eq_decide.2 (by omega)
theorem kY(hr:Holds r w)(hp:PlG r c p)(h:∀w',Ext w w'→K (.bool (jJ p)) w'):
  zc Tryz.prog Tryz.xi #[.agg c.toArray] w K:=by
 obtain⟨v,rfl,hl⟩:=hp
 obtain⟨q,cap,rfl,_,_⟩:=hl.sl.shape
 refine Tryz.abW ?_
 unfold Tryz.Qx
 have S:=St.start hr
 refine S.box λb1 w1 S=>?_
 refine gG_ ?_
 refine zh (c:=decide (p.ps.length=0)) (λ_ K2 hK2=>?_) ?_
 ·refine gG_ ?_
  rw[YL]
  exact hK2
 exact h _ S.ext
def AskG(r:Gh)(v:Value)(u:UnD)(g:GrD):Prop:=∃p cap vf vo vt vn vp,v=.agg #[.slice p u.ss.length cap,vf,.int .i64 u.mn,.string g.name,.int .i64 g.lv,vo,.int .i64 g.pn,vt,vn,vp]∧
 UnG r (.agg #[.slice p u.ss.length cap,vf,.int .i64 u.mn]) u∧GrG r [.string g.name,.int .i64 g.lv,vo,.int .i64 g.pn,vt,vn,vp] g
theorem AskG.up{s:Gh}(h:AskG r v u g)[l:Le r s]:AskG s v u g:=by
 obtain⟨p,cap,vf,vo,vt,vn,vp,h0,h1,h2⟩:=h
 exact⟨p,cap,vf,vo,vt,vn,vp,h0,h1.up,h2.up⟩
abbrev tyL(t:TyD)(q:Option Addr)(cap:Nat):List Value:=[.int .u8 t.k,.bool t.m,.int .i64 t.re,.int .i64 t.st,.slice q t.of.length cap]
abbrev tyV(t:TyD)(q:Option Addr)(cap:Nat):Value:=.agg #[.int .u8 t.k,.bool t.m,.int .i64 t.re,.int .i64 t.st,.slice q t.of.length cap]
abbrev spL(t:TyD)(q:Option Addr)(cap:Nat)(m:Int)(ok:Bool):List Value:=[.int .u8 t.k,.bool t.m,.int .i64 t.re,.int .i64 t.st,.slice q t.of.length cap,.int .i64 m,.bool ok]
abbrev spV(t:TyD)(q:Option Addr)(cap:Nat)(m:Int)(ok:Bool):Value:=.agg #[.int .u8 t.k,.bool t.m,.int .i64 t.re,.int .i64 t.st,.slice q t.of.length cap,.int .i64 m,.bool ok]
theorem xh(h:TyG r (.agg c.toArray) t):∃q cap,c=tyL t q cap∧TyG r (tyV t q cap) t:=by
 obtain⟨p,cap,h1,_⟩:=Vd h
 subst h1
 exact⟨p,cap,rfl,h⟩
theorem V5{s uu:TyD}{q:Option Addr}{cap:Nat}(h:TyG r (tyV s q cap) s)(hof:s.of=[uu]):∃b off q2 cap2,q=some ⟨b,off,none⟩∧TyG r (tyV uu q2 cap2) uu∧∀j v,(tyL uu q2 cap2)[j]? = some v→Ob r λw=>w.cell? ⟨b,off+j,none⟩=some v:=by
 obtain⟨_,_,hE,_,_,hreps⟩:=h
 cases hE
 obtain⟨b,off,rfl,c,h1,h2,h3⟩:=NdG.of hreps (i:=0) (by rw[hof];exact Nat.one_pos)
 have h3:TyG r (.agg c.toArray) uu:=by simpa [hof]using h3
 obtain⟨q2,cap2,rfl,ht⟩:=xh h3
 exact⟨b,off,q2,cap2,rfl,ht,by simpa using h2⟩
theorem V6(ss:List StD):∀(l:List Int)(k:Int)(s:TyD×Int),goG ss (l++[k]) s=(goG ss l s).bind λs'=>stepG ss s' k
 |[],k,s=>by
  show(stepG ss s k).bind (goG ss [])=stepG ss s k
  cases stepG ss s k<;>rfl
 |x::l,k,s=>by
  rw[List.cons_append,goG,goG]
  cases h:stepG ss s x with
  |none=>rfl
  |some s'=>exact V6 ss l k s'
theorem ac7{ss:List StD}:∀{l m:List Int}{s:TyD×Int},goG ss l s=none→goG ss (l++m) s=none
 |[],m,s,h=>by cases h
 |x::l,m,s,h=>by
  rw[List.cons_append,goG]
  rw[goG]at h
  cases hs:stepG ss s x with
  |none=>rfl
  |some s'=>rw [hs]at h;exact ac7 (l:=l) (m:=m) h
theorem afR{i:Nat}(h0:0≤p.l)(ht:tys[p.l.toNat]? = some t)(h:goG ss (p.ps.take i) (t,0)=none):zs ss tys p=(zK,0,false):=by
 have:=ac7 (m:=p.ps.drop i) h
 rw[List.take_append_drop]at this
 unfold zs
 rw[if_neg (by omega),ht]
 show(match goG ss p.ps (t,0) with|some s=>(s.1,s.2,decide (p.ps.length≤8))|none=>(zK,0,false))=_
 rw[this]
theorem afS{s:TyD×Int}(h0:0≤p.l)(ht:tys[p.l.toNat]? = some t)(h:goG ss p.ps (t,0)=some s):zs ss tys p=(s.1,s.2,decide (p.ps.length≤8)):=by
 unfold zs
 rw[if_neg (by omega),ht]
 show(match goG ss p.ps (t,0) with|some s=>(s.1,s.2,decide (p.ps.length≤8))|none=>(zK,0,false))=_
 rw[h]
theorem agX(h:p.l<0∨(tys.length:Int)≤p.l):zs ss tys p=(zK,0,false):=by
 unfold zs
 by_cases h0:p.l<0
 ·rw[if_pos h0];rfl
 ·rw[if_neg h0,List.getElem?_eq_none (by omega)];rfl
theorem yX{K:Value→World→Prop}{m:Int}{ok:Bool}(hr:Holds r w)(hx:AskG r v u g)(hf:qD u.ss g.tys)(hp:PlG r c p)(hsp:zs u.ss g.tys p=(t,m,ok))
  (h:∀q cap w',Ext w w'→TyG r (tyV t q cap) t→K (spV t q cap m ok) w'):zc Tryz.prog Tryz.zp #[v,.agg c.toArray] w K:=by
 obtain⟨p0,cap0,vf,vo,vt,vn,vp,rfl,hu,hg⟩:=hx
 obtain⟨_,_,_,_,hE,_,htys,_,_⟩:=hg
 cases hE
 obtain⟨_,_,_,hE,_,_,hst,_,_⟩:=hu
 cases hE
 obtain⟨qt,capt,rfl,_,_⟩:=htys.sl.shape
 obtain⟨v,rfl,hl⟩:=hp
 obtain⟨qs,caps,rfl,_,_⟩:=hl.sl.shape
 have hbl:=hl.lt
 refine Tryz.Qk ?_
 unfold Tryz.vI
 have S:=St.start hr
 refine S.box λb2 w1 S=>?_
 refine S.box λb3 w2 S=>?_
 refine S.al λb4 w3 S=>?_
 refine gG_ ?_
 refine zn (c:=decide ((g.tys.length:Int)≤p.l)) (λ_ K2 hK2=>?_) ?_
 ·refine gG_ ?_
  exact hK2
 refine c_b (λho=>?_) (λhi=>?_)
 ·have hz:=agX (ss:=u.ss) (tys:=g.tys) (p:=p) (by simpa using ho)
  rw[hz]at hsp;cases hsp
  refine zo (cs:=#[.int .u8 0,.bool false,.int .i64 0,.int .i64 0,.slice none 0 0,.int .i64 0,.bool false]) (by kernel_rfl) ?_
  refine S.stB (b:=b4) λw5 S=>?_
  refine gG_ ?_
  exact h none 0 _ S.ext qm
 have hlo:0≤p.l∧p.l<g.tys.length:=by
  simp only[Bool.or_eq_false_iff,decide_eq_false_iff_not]at hi;omega
 clear hi
 have hlt0:p.l.toNat<g.tys.length:=by omega
 obtain⟨bt,ot,ct,rfl,hct,htc,hcell⟩:=htys.sl.get (by decide) hlt0
 obtain⟨t0,hti⟩:∃t0,g.tys[p.l.toNat]=t0:=⟨_,rfl⟩
 rw[hti]at htc
 have hq:g.tys[p.l.toNat]? = some t0:=by rw[gqg hlt0,hti]
 have hfi:Fine u.ss t0:=hf.all _ (List.mem_of_getElem? hq)
 obtain⟨q0,cap1,rfl,ht0⟩:=xh htc
 have S:=S.go (Ext.drew _)
 refine gG_ ?_
 refine zq (n:=5) hct (λj v hj=>S.at (hcell j v hj)) ?_
 refine gG_ ?_
 refine S.alU λb5 w10 S=>?_
 refine S.stB (b:=b5) λw11 S=>?_
 refine gG_ ?_
 have hok:decide (p.ps.length≤8)=decide ((p.ps.length:Int)≤8):=decide_eq_decide.2 (by omega)
 refine zk (ι:=Nat×TyD×Int×Option Addr×Nat) (λi=>[.int .i64 (i.1:Nat)]) (λi w'=>i.1≤p.ps.length∧goG u.ss (p.ps.take i.1) (t0,0)=some (i.2.1,i.2.2.1)∧TyG r (tyV i.2.1 i.2.2.2.1 i.2.2.2.2) i.2.1∧
  StX noX w r w' [.cell b5 (spL i.2.1 i.2.2.2.1 i.2.2.2.2 i.2.2.1 (decide ((p.ps.length:Int)≤8))) 313,.cell b4 [.int .u8 0,.bool false,.int .i64 0,.int .i64 0,.slice none 0 0,.int .i64 0,.bool false] 313,.cell b3 [.int .i64 p.l,.slice qs p.ps.length caps] 80,
   .cell b2 [.slice p0 u.ss.length cap0,vf,.int .i64 u.mn,.string g.name,.int .i64 g.lv,vo,.int .i64 g.pn,.slice (some ⟨bt,ot,none⟩) g.tys.length capt,vn,vp] 294]) (λi=>p.ps.length-i.1) (0,t0,0,q0,cap1) rfl ⟨gzl _,rfl,ht0,S⟩ ?_
 clear S
 rintro⟨i,s,m',q,cap⟩ d w15 ⟨hi,hgo,hs,S⟩ K6 hK6
 simp only at hi hgo hs S⊢
 rw[gdz]
 refine gG_ ?_
 refine c_b (λhlt=>?_) (λhge=>?_)
 rotate_left
 ·have hie:i=p.ps.length:=by
   have:=of_decide_eq_false hge;omega
  rw[hie,List.take_length]at hgo
  rw[afS hlo.1 hq hgo,hok]at hsp
  cases hsp
  refine gG_ ?_
  refine S.stB (b:=b4) λw16 S=>?_
  refine gG_ ?_
  exact h _ _ _ S.ext hs
 have hlt:i<p.ps.length:=by simpa using hlt
 have hsf:Fine u.ss s:=aaW hf.good hfi hgo
 obtain⟨k,hke⟩:∃k,p.ps[i]=k:=⟨_,rfl⟩
 obtain⟨bs,os,cs,rfl,hcs,hck,hcl⟩:=hl.sl.get (by decide) hlt
 rw[hke]at hck
 obtain⟨rfl,hin⟩:=hck
 have hstep:goG u.ss (p.ps.take (i+1)) (t0,0)=stepG u.ss (s,m') k:=by
  rw[List.take_succ_eq_append_getElem hlt,V6,hgo,hke];rfl
 refine zi (λ_ w'=>∃s' m2 q' cap',stepG u.ss (s,m') k=some (s',m2)∧TyG r (tyV s' q' cap') s'∧
  StX noX w r w' [.cell b5 (spL s' q' cap' m2 (decide ((p.ps.length:Int)≤8))) 313,.cell b4 [.int .u8 0,.bool false,.int .i64 0,.int .i64 0,.slice none 0 0,.int .i64 0,.bool false] 313,.cell b3 [.int .i64 p.l,.slice (some ⟨bs,os,none⟩) p.ps.length caps] 80,
   .cell b2 [.slice p0 u.ss.length cap0,vf,.int .i64 u.mn,.string g.name,.int .i64 g.lv,vo,.int .i64 g.pn,.slice (some ⟨bt,ot,none⟩) g.tys.length capt,vn,vp] 294]) (λK16 hK16=>?_) ?_
 rotate_left
 ·rintro _ w19 ⟨s',m2,q',cap',h1,h2,S⟩ d2
  refine gG_ ?_
  rw[show ((i:Int)+1)=((i+1:Nat):Int)by omega]
  exact hK6 (i+1,s',m2,q',cap') _ ⟨hlt,hstep.trans h1,h2,S⟩ (by show p.ps.length-(i+1)<p.ps.length-i;omega)
 refine gG_ ?_
 refine zf (v:=.int .i64 k) (by simpa using S.at (hcl 0 _ rfl)) ?_
 refine gP_ ?_
 refine S.ldN (b:=b5) ?_
 refine S.al λb8 w20 S=>?_
 refine S.stB (b:=b8) λw21 S=>?_
 refine gG_ ?_
 refine zh (c:=decide (s.k=3)) (λ_ K2 hK2=>?_) ?_
 ·refine gG_ ?_
  exact hK2
 have down:(s.k=3∨s.k=4)→∃uu,s.of=[uu]:=by
  intro hk
  rcases hsf.cases with⟨_,h1⟩|⟨uu,h1,_⟩
  ·omega
  ·exact⟨uu,h1⟩
 refine c_b (λhB=>?_) (λhB=>?_)
 ·obtain⟨hk1,hk3⟩:k = -1∧s.k=3:=by simpa using hB
  obtain⟨uu,hof⟩:=down (.inl hk3)
  obtain⟨bo,oo,q2,cap2,rfl,ht2,hcc⟩:=V5 hs hof
  have hl1:s.of.length=1:=by rw[hof];rfl
  refine gG_ ?_
  refine S.st (b:=b5) λw26 S=>?_
  refine gG_ ?_
  refine zq (n:=5) (c:=tyL uu q2 cap2) rfl (λj v hj=>by simpa using S.at (hcc j v hj)) ?_
  refine gG_ ?_
  refine S.stN (b:=b5) λw27 S=>?_
  refine hK16 [] _ ⟨uu,max m' 1,q2,cap2,?_,ht2,S.drop b8⟩
  rw[stepG,if_pos ⟨hk1,hk3⟩,hof];rfl
 have hB:¬(k = -1∧s.k=3):=by simpa using hB
 refine gG_ ?_
 refine zh (c:=decide (s.k=4)) (λ_ K2 hK2=>?_) ?_
 ·refine gG_ ?_
  exact hK2
 refine c_b (λhR=>?_) (λhR=>?_)
 ·obtain⟨hk1,hk3⟩:k = -1∧s.k=4:=by simpa using hR
  obtain⟨uu,hof⟩:=down (.inr hk3)
  obtain⟨bo,oo,q2,cap2,rfl,ht2,hcc⟩:=V5 hs hof
  have hl1:s.of.length=1:=by rw[hof];rfl
  refine zi (λs' w'=>s'=[.int .i64 (if s.m then 2 else 3)]∧w'=w21) (λK7 hK7=>?_) ?_
  ·refine gG_ ?_
   refine c_b (λhm=>hK7 _ _ ⟨by rw[hm];rfl,rfl⟩) (λhm=>hK7 _ _ ⟨by rw[hm];rfl,rfl⟩)
  rintro _ _ ⟨rfl,rfl⟩ d3
  refine gG_ ?_
  refine S.st (b:=b5) λw26 S=>?_
  refine gG_ ?_
  refine zq (n:=5) (c:=tyL uu q2 cap2) rfl (λj v hj=>by simpa using S.at (hcc j v hj)) ?_
  refine gG_ ?_
  refine S.stN (b:=b5) λw27 S=>?_
  refine hK16 [] _ ⟨uu,max m' (if s.m then 2 else 3),q2,cap2,?_,ht2,S.drop b8⟩
  rw[stepG,if_neg (by omega),if_pos ⟨hk1,hk3⟩,hof];rfl
 have hR:¬(k = -1∧s.k=4):=by simpa using hR
 refine gG_ ?_
 refine zh (c:=decide (s.k=5)) (λ_ K2 hK2=>?_) ?_
 ·refine gG_ ?_
  exact hK2
 refine zh (c:=decide (k<(ze u.ss s.st).length)) (λh5 K2 hK2=>?_) ?_
 ·obtain⟨hk0,hk5⟩:0≤k∧s.k=5:=by simpa using h5
  obtain⟨hst0,hst1⟩:=hsf.st hk5
  have hslt:s.st.toNat<u.ss.length:=by omega
  obtain⟨b,off,q9,capq,rfl,hcell9,_,_,hfl⟩:=vh hst hslt
  have hlen:(ze u.ss s.st).length=u.ss[s.st.toNat].fs.length:=by
   rw[← QF hslt];simp only[ze,tnc]
  refine gG_ ?_
  refine zf (S.at hcell9) ?_
  refine gG_ ?_
  rw[← hlen]
  exact hK2
 refine c_b (λhS=>?_) (λhS=>?_)
 ·obtain⟨⟨hk0,hk5⟩,hkl⟩:(0≤k∧s.k=5)∧k<(ze u.ss s.st).length:=by simpa using hS
  obtain⟨hst0,hst1⟩:=hsf.st hk5
  have hslt:s.st.toNat<u.ss.length:=by omega
  obtain⟨b,off,q9,capq,rfl,hcell9,_,_,hfl⟩:=vh hst hslt
  have htl:ze u.ss s.st=u.ss[s.st.toNat].fs.map (·.2):=by
   rw[← kX hslt];simp only[ze,tnc]
  have hkf:k.toNat<u.ss[s.st.toNat].fs.length:=by
   rw[htl,List.length_map]at hkl;omega
  obtain⟨b9,off9,c9,rfl,hc9,hcell8,ht9⟩:=Jl hfl hkf
  obtain⟨q2,cap2,rfl,ht2⟩:=xh ht9
  refine gG_ ?_
  refine zf (S.at hcell9) ?_
  refine gG_ ?_
  refine zq (n:=5) (c:=tyL _ q2 cap2) rfl (λj v hj=>by have:=S.at (hcell8 (j+1) v hj);rwa[show off9+k.toNat*6+(j+1)=off9+k.toNat*6+1+j by omega]at this) ?_
  refine gG_ ?_
  refine S.stN (b:=b5) λw27 S=>?_
  refine hK16 [] _ ⟨_,m',q2,cap2,?_,ht2,S.drop b8⟩
  rw[stepG,if_neg (by omega),if_neg (by omega),if_pos ⟨hk0,hk5⟩,htl,List.getElem?_map,gqg hkf];rfl
 have hz:zs u.ss g.tys p=(zK,0,false):=by
  refine afR hlo.1 hq (i:=i+1) (hstep.trans ?_)
  rw[stepG,if_neg hB,if_neg hR]
  split
  ·rename_i h5
   rw[List.getElem?_eq_none];· rfl
   have :¬k<(ze u.ss s.st).length:=by
    intro hh
    have :((decide (0≤k)&&decide (s.k=5))&&decide (k<((ze u.ss s.st).length:Int)))=true:=by simp[h5,hh]
    rw[this]at hS;cases hS
   have h50:0≤k:=h5.1
   show(ze u.ss s.st).length≤k.toNat
   omega
  ·rfl
 rw[hz]at hsp;cases hsp
 refine gG_ ?_
 refine S.stB (b:=b4) λw16 S=>?_
 refine gG_ ?_
 exact h none 0 _ S.ext qm
theorem ZY{k:Int}{m:Bool}{re st:Int}:TyG r (tyV (.mk k m re st []) none 0) (.mk k m re st []):=qm
theorem xQ{o:OpD}{K:Value→World→Prop}{ok:Bool}(hr:Holds r w)(hx:AskG r v u g)(hf:qD u.ss g.tys)(ho:OpG r c o)(hop:yd u.ss g.tys o=(t,ok))
  (h:∀q cap w',Ext w w'→TyG r (tyV t q cap) t→K (.tuple #[tyV t q cap,.bool ok]) w'):zc Tryz.prog Tryz.yx #[v,.agg c.toArray] w K:=by
 obtain⟨p0,cap0,vf,vo,vt,vn,vp,rfl,hu,hg⟩:=id hx
 obtain⟨vq,rfl,hl⟩:=ho
 obtain⟨qs,caps,rfl,_,_⟩:=hl.sl.shape
 have hpl:PlG r [.int .i64 o.pl.l,.slice qs o.pl.ps.length caps] o.pl:=⟨_,rfl,hl⟩
 refine Tryz.YF ?_
 unfold Tryz.js
 have S:=St.start hr
 refine S.box λb2 w1 S=>?_
 refine S.box λb3 w2 S=>?_
 refine S.al λb4 w3 S=>?_
 refine gG_ ?_
 unfold yd at hop
 refine zj (λh1=>?_) (λh1=>?_)
 ·rw[if_pos h1]at hop;cases hop
  refine gG_ ?_
  refine S.ldN (b:=b3) ?_
  refine kY S.holds hpl λw4 e4=>?_
  have S:=S.go e4
  refine S.stB (b:=b4) λw5 S=>?_
  refine gG_ ?_
  exact h none 0 _ S.ext ZY
 rw[if_neg h1]at hop
 refine gG_ ?_
 refine zj (λh2=>?_) (λh2=>?_)
 ·rw[if_pos h2]at hop;cases hop
  have S:=S.go (Ext.drew _)
  refine gG_ ?_
  refine S.ldN (b:=b3) ?_
  refine kY S.holds hpl λw44 e4=>?_
  have S:=S.go e4
  have fin:∀{w9:World},StX noX w r w9 [.cell b4 (tyL acp none 0) 43,.cell b3 [.int .u8 o.k,.int .i64 o.n,.int .i64 o.pl.l,.slice qs o.pl.ps.length caps] 93,.cell b2 (Value.agg #[.slice p0 u.ss.length cap0,vf,.int .i64 u.mn,.string g.name,.int .i64 g.lv,vo,.int .i64 g.pn,vt,vn,vp]).cells.toList 294]→∀x,x=(jJ o.pl&&(decide (o.n=0)||decide (o.n=1)))→
    K (.tuple #[tyV acp none 0,.bool x]) w9:=by
   intro w9 S x hx
   subst hx
   exact h none 0 _ S.ext ZY
  have st:∀{w8:World}{K:World→Prop},StX noX w r w8 [.cell b4 [.int .u8 0,.bool false,.int .i64 0,.int .i64 0,.slice none 0 0] 43,.cell b3 [.int .u8 o.k,.int .i64 o.n,.int .i64 o.pl.l,.slice qs o.pl.ps.length caps] 93,.cell b2 (Value.agg #[.slice p0 u.ss.length cap0,vf,.int .i64 u.mn,.string g.name,.int .i64 g.lv,vo,.int .i64 g.pn,vt,vn,vp]).cells.toList 294]→
    (∀w9,StX noX w r w9 [.cell b4 (tyL acp none 0) 43,.cell b3 [.int .u8 o.k,.int .i64 o.n,.int .i64 o.pl.l,.slice qs o.pl.ps.length caps] 93,.cell b2 (Value.agg #[.slice p0 u.ss.length cap0,vf,.int .i64 u.mn,.string g.name,.int .i64 g.lv,vo,.int .i64 g.pn,vt,vn,vp]).cells.toList 294]→K w9)→
    opU Tryz.prog w8 (Instr.storeAt 43 (.pointer (some ⟨b4,0,none⟩)) (.agg #[.int .u8 2,.bool false,.int .i64 0,.int .i64 0,.slice none 0 0])) K:=by
   intro w8 K S hK
   exact S.stB (b:=b4) λw9 S=>hK w9 S
  cases hz:jJ o.pl with
  |false=>
   (intro K9 hK9;refine gD_ ?_;refine hK9 _ _ λ_=>?_;clear hK9 K9)
   (intro K9 hK9;refine gD_ ?_;refine hK9 _ _ λ_=>?_;clear hK9 K9)
   refine⟨?_,?_⟩
   ·(intro K9 hK9;refine gD_ ?_;refine hK9 _ _ λ_=>?_;clear hK9 K9)
    (intro K9 hK9;refine gD_ ?_;refine hK9 _ _ λ_=>?_;clear hK9 K9)
    refine gD_ ?_
    refine st S λw9 S=>?_
    refine gG_ ?_
    exact fin S _ (by rw[hz]<;>rfl)
   ·refine st S λw9 S=>?_
    (intro K9 hK9;refine gD_ ?_;refine hK9 _ _ λ_=>?_;clear hK9 K9)
    (intro K9 hK9;refine gD_ ?_;refine hK9 _ _ λ_=>?_;clear hK9 K9)
    refine gD_ ?_
    exact fin S _ (by rw[hz]<;>rfl)
  |true=>
   by_cases hn0:o.n=0
   ·refine zi (λs w'=>s=[.bool true]∧w'=w44) (λK9 hK9=>?_) ?_
    ·refine gD_ ?_
     rw[gde hn0]
     exact hK9 _ _ ⟨rfl,rfl⟩
    rintro _ w44 ⟨rfl,rfl⟩ d1
    (intro K9 hK9;refine gD_ ?_;refine hK9 _ _ λ_=>?_;clear hK9 K9)
    refine⟨?_,?_⟩
    ·(intro K9 hK9;refine gD_ ?_;refine hK9 _ _ λ_=>?_;clear hK9 K9)
     (intro K9 hK9;refine gD_ ?_;refine hK9 _ _ λ_=>?_;clear hK9 K9)
     refine gD_ ?_
     refine st S λw9 S=>?_
     refine gG_ ?_
     exact fin S _ (by rw[hz,hn0]<;>rfl)
    ·refine st S λw9 S=>?_
     (intro K9 hK9;refine gD_ ?_;refine hK9 _ _ λ_=>?_;clear hK9 K9)
     (intro K9 hK9;refine gD_ ?_;refine hK9 _ _ λ_=>?_;clear hK9 K9)
     refine gD_ ?_
     exact fin S _ (by rw[hz,hn0]<;>rfl)
   ·refine zi (λs w'=>s=[.bool false]∧w'=w44) (λK9 hK9=>?_) ?_
    ·refine gD_ ?_
     rw[decide_eq_false hn0]
     exact hK9 _ _ ⟨rfl,rfl⟩
    rintro _ w44 ⟨rfl,rfl⟩ d1
    (intro K9 hK9;refine gD_ ?_;refine hK9 _ _ λ_=>?_;clear hK9 K9)
    refine⟨?_,?_⟩
    ·refine zi (λs w'=>s=[.bool (decide (o.n=1))]∧w'=w44) (λK9 hK9=>?_) ?_
     ·refine gD_ ?_
      refine aja ?_
      refine gD_ ?_
      exact hK9 _ _ ⟨rfl,rfl⟩
     rintro _ w44 ⟨rfl,rfl⟩ d1
     (intro K9 hK9;refine gD_ ?_;refine hK9 _ _ λ_=>?_;clear hK9 K9)
     refine gD_ ?_
     refine st S λw9 S=>?_
     refine gG_ ?_
     exact fin S _ (by rw[hz,decide_eq_false hn0];first|rfl|simp)
    ·refine st S λw9 S=>?_
     refine zi (λs w'=>s=[.bool (decide (o.n=1))]∧w'=w9) (λK9 hK9=>?_) ?_
     ·refine gD_ ?_
      refine aja ?_
      refine gD_ ?_
      exact hK9 _ _ ⟨rfl,rfl⟩
     rintro _ w44 ⟨rfl,rfl⟩ d1
     (intro K9 hK9;refine gD_ ?_;refine hK9 _ _ λ_=>?_;clear hK9 K9)
     refine gD_ ?_
     exact fin S _ (by rw[hz,decide_eq_false hn0];first|rfl|simp)
 rw[if_neg h2]at hop
 obtain⟨sty,sm,sok,hsp⟩:∃sty sm sok,zs u.ss g.tys o.pl=(sty,sm,sok):=⟨_,_,_,rfl⟩
 simp only[hsp]at hop
 refine gG_ ?_
 refine S.ldN (b:=b3) ?_
 refine yX S.holds hx hf hpl hsp λq cap w5 e5 ht=>?_
 have S:=S.go e5
 refine S.al λb6 w6 S=>?_
 refine S.stB (b:=b6) λw7 S=>?_
 refine gG_ ?_
 refine zh (c:=decide (o.n=0)) (λ_ K2 hK2=>?_) ?_
 ·refine gG_ ?_
  exact hK2
 refine gG_ ?_
 refine zj (λh3=>?_) (λh3=>?_)
 ·rw[if_pos h3]at hop;cases hop
  have S:=S.go (Ext.drew _)
  refine gP_ ?_
  refine S.ldN (b:=b6) ?_
  refine zH (c:=jv t) (λ_ K2 hK2=>?_) λw9 e9=>?_
  ·refine gP_ ?_
   refine S.ldN (b:=b6) ?_
   exact Y5 S.holds ht λw9 e9=>⟨e9,hK2 _ e9⟩
  have S:=S.go e9
  refine S.stB (b:=b4) λw10 S=>?_
  refine gG_ ?_
  exact h _ _ _ S.ext ht
 rw[if_neg h3]at hop
 refine gG_ ?_
 refine zj (λh4=>?_) (λh4=>?_)
 ·rw[if_pos h4]at hop;cases hop
  have S:=S.go (Ext.drew _)
  refine gP_ ?_
  refine S.ldN (b:=b6) ?_
  refine zH (c:=!jv t) (λ_ K2 hK2=>?_) λw9 e9=>?_
  ·refine gP_ ?_
   refine S.ldN (b:=b6) ?_
   refine Y5 S.holds ht λw9 e9=>⟨e9,?_⟩
   refine gP_ ?_
   exact hK2 _ e9
  have S:=S.go e9
  cases hb:((sok&&decide (o.n=0)) && !jv t)with
  |false=>
   (intro K9 hK9;refine gD_ ?_;refine hK9 _ _ λ_=>?_;clear hK9 K9)
   refine⟨?_,?_⟩
   ·(intro K9 hK9;refine gD_ ?_;refine hK9 _ _ λ_=>?_;clear hK9 K9)
    refine gD_ ?_
    refine S.stB (b:=b4) λw10 S=>?_
    refine gG_ ?_
    have:=h _ _ _ S.ext ht
    rwa[hb]at this
   ·refine S.stB (b:=b4) λw10 S=>?_
    (intro K9 hK9;refine gD_ ?_;refine hK9 _ _ λ_=>?_;clear hK9 K9)
    refine gD_ ?_
    have:=h _ _ _ S.ext ht
    rwa[hb]at this
  |true=>
   (intro K9 hK9;refine gD_ ?_;refine hK9 _ _ λ_=>?_;clear hK9 K9)
   refine⟨?_,?_⟩
   ·refine zi (λs w'=>s=[.bool (decide (sm<2))]∧w'=w9) (λK9 hK9=>?_) ?_
    ·refine gD_ ?_
     refine aeO ?_
     refine gD_ ?_
     exact hK9 _ _ ⟨rfl,rfl⟩
    rintro _ _ ⟨rfl,rfl⟩ d1
    refine gD_ ?_
    refine S.stB (b:=b4) λw10 S=>?_
    refine gG_ ?_
    have:=h _ _ _ S.ext ht
    rwa[hb]at this
   ·refine S.stB (b:=b4) λw10 S=>?_
    refine zi (λs w'=>s=[.bool (decide (sm<2))]∧w'=w10) (λK9 hK9=>?_) ?_
    ·refine gD_ ?_
     refine aeO ?_
     refine gD_ ?_
     exact hK9 _ _ ⟨rfl,rfl⟩
    rintro _ _ ⟨rfl,rfl⟩ d1
    refine gD_ ?_
    have:=h _ _ _ S.ext ht
    rwa[hb]at this
 rw[if_neg h4]at hop;cases hop
 refine gG_ ?_
 refine S.stB (b:=b4) λw10 S=>?_
 refine gG_ ?_
 exact h none 0 _ S.ext ZY
theorem V7{x:Bool}{p:Option Addr}{l:List Bool}{cap:Nat}(hl:Sl w p (l.map Value.bool))(hb:l.length≤1000000000)(h:K (.bool (l.contains x)) w):
  zc Tryz.prog Tryz.yT #[.slice p l.length cap,.bool x] w K:=by
 refine Tryz.j1 ?_
 unfold Tryz.xX
 refine Tryz.Zs ?_
 unfold Tryz.kV
 refine gP_ ?_
 refine zk (ι:=Nat) (λi=>[.int .i64 (i:Nat)]) (λi w'=>w'=w∧i≤l.length∧(l.take i).contains x=false) (λi=>l.length-i) 0 rfl ⟨rfl,gzl _,by simp⟩ ?_
 rintro i d w' ⟨rfl,hi,hn⟩ K6 hK6
 simp only[gdz]
 refine gP_ ?_
 refine zj (λhlt=>?_) (λhge=>?_)
 ·have hlt:i<l.length:=by omega
  obtain⟨b,off,rfl,hc⟩:=hl.at (i:=i) (by rw[List.length_map];exact hlt)
  refine gP_ ?_
  have hv:(l.map Value.bool)[i]'(by rw[List.length_map];exact hlt)=.bool l[i]:=by simp
  rw[hv]at hc
  refine zf (by simpa using hc) ?_
  refine gP_ ?_
  have ht:(l.take (i+1)).contains x=((l.take i).contains x||(x == l[i])):=by
   rw[List.take_succ_eq_append_getElem hlt];simp only[List.contains_eq_any_beq,List.any_append,List.any_cons,List.any_nil,Bool.or_false]
  refine c_b (λhy=>?_) (λhno=>?_)
  ·refine gP_ ?_
   rw[show decide ((i:Int)≥0)=true by simp]
   have :l.contains x=true:=List.contains_iff_mem.2 (by rw[eq_of_beq hy];exact gem hlt)
   rwa[this]at h
  ·refine gP_ ?_
   refine hK6 (i+1) _ ⟨rfl,hlt,?_⟩ (by omega)
   rw[ht,hn,hno];rfl
 ·have :i=l.length:=by omega
  subst this
  rw[List.take_length]at hn
  refine gP_ ?_
  rwa[hn]at h
theorem Y9{o:OpD}(hr:Holds r w)(ho:OpG r c o)(h:∀w',Ext w w'→K (.bool (XD o)) w'):
  zy Tryz.prog (.func (.func Tryz.YW) #[] #[]) #[.agg c.toArray] w K:=by
 obtain⟨vq,rfl,hl⟩:=ho
 obtain⟨qs,caps,rfl,_,_⟩:=hl.sl.shape
 have hpl:PlG r [.int .i64 o.pl.l,.slice qs o.pl.ps.length caps] o.pl:=⟨_,rfl,hl⟩
 refine ajV (by kernel_rfl) ?_
 refine Tryz.VT ?_
 unfold Tryz.YY
 have S:=St.start hr
 refine S.box λb1 w1 S=>?_
 refine gG_ ?_
 refine zh (c:=decide (o.n=0)) (λ_ K2 hK2=>?_) ?_
 ·refine gG_ ?_
  exact hK2
 refine zH (c:=jJ o.pl) (λ_ K2 hK2=>?_) λw3 e3=>h _ (S.go e3).ext
 refine gP_ ?_
 refine S.ldN (b:=b1) ?_
 exact kY S.holds hpl λw3 e3=>hK2 _ e3
abbrev akd(h:aeV):Value:=.agg #[.bool h.to,.bool h.a,.bool h.b,.bool h.args,.bool h.sign,.bool h.fr,.bool h.mu,.bool h.fn,.bool h.st,.bool h.el]
theorem ac8(l:List Bool):(!l.contains false)=l.all id:=by
 induction l with
 |nil=>rfl
 |cons x l ih=>
  rw[List.contains_cons,List.all_cons,← ih]
  cases x<;>simp
theorem zZ{p:PtD}{f:aeV}(hr:Holds r w)(hp:PtG r c p)(h:∀w',Ext w w'→K (.bool (zE p f)) w'):
  zc Tryz.prog Tryz.zM #[.agg c.toArray,akd f] w K:=by
 obtain⟨vt,va,vb,vl,vf,rfl,h1,h2,h3,h4,h5⟩:=hp
 obtain⟨qt,capt,rfl,_,_⟩:=h1.sl.shape
 obtain⟨qa,capa,rfl,_,_⟩:=h2.sl.shape
 obtain⟨qb,capb,rfl,_,_⟩:=h3.sl.shape
 obtain⟨ql,capl,rfl,_,_⟩:=h4.sl.shape
 obtain⟨qf,capf,rfl,_,_⟩:=h5.sl.shape
 refine Tryz.abV ?_
 unfold Tryz.Qw
 have S:=St.start hr
 refine S.box λb2 w1 S=>?_
 refine S.box λb3 w2 S=>?_
 have S:=S.go (Ext.drew _)
 refine gG_ ?_
 refine kq (c:=jJ p.to) (λ_ K2 hK2=>?_) λw4 e4=>?_
 ·refine gP_ ?_
  refine S.ldN (b:=b2) ?_
  exact kY S.holds ⟨_,rfl,h1⟩ λw3 e3=>⟨e3,hK2 _ e3⟩
 have S:=S.go e4
 refine kq (c:=XD p.a) (λ_ K2 hK2=>?_) λw5 e5=>?_
 ·refine gP_ ?_
  refine S.ldN (b:=b2) ?_
  exact Y9 S.holds ⟨_,rfl,h2⟩ λw3 e3=>⟨e3,hK2 _ e3⟩
 have S:=S.go e5
 refine kq (c:=XD p.b) (λ_ K2 hK2=>?_) λw5 e5=>?_
 ·refine gP_ ?_
  refine S.ldN (b:=b2) ?_
  exact Y9 S.holds ⟨_,rfl,h3⟩ λw3 e3=>⟨e3,hK2 _ e3⟩
 have S:=S.go e5
 refine zn (c:=decide (p.args.length=0)) (λ_ K2 hK2=>?_) ?_
 ·refine gG_ ?_
  rw[YL]
  exact hK2
 refine zn (c:=p.sign.toList == []) (λ_ K2 hK2=>?_) ?_
 ·refine gG_ ?_
  exact hK2
 refine kq (c:=jJ p.fr) (λ_ K2 hK2=>?_) λw4 e4=>?_
 ·refine gP_ ?_
  refine S.ldN (b:=b2) ?_
  exact kY S.holds ⟨_,rfl,h5⟩ λw3 e3=>⟨e3,hK2 _ e3⟩
 have S:=S.go e4
 refine zn (c:=!p.mu) (λ_ K2 hK2=>?_) ?_
 ·refine gG_ ?_
  exact hK2
 refine zn (c:=decide (p.fn=0)) (λ_ K2 hK2=>?_) ?_
 ·refine gG_ ?_
  exact hK2
 refine zn (c:=decide (p.st=0)) (λ_ K2 hK2=>?_) ?_
 ·refine gG_ ?_
  exact hK2
 refine zn (c:=decide (p.el=0)) (λ_ K2 hK2=>?_) ?_
 ·refine gG_ ?_
  exact hK2
 refine S.lit (e:=4) (cs:=(qC p f).map Value.bool) (by kernel_rfl) λb80 w80 S=>?_
 refine V7 (l:=qC p f) (x:=false) (Sl.blk (S.blk b80)) (by simp[qC]) ?_
 refine gP_ ?_
 rw[ac8]
 exact h _ S.ext
end
end Go.Proofs
namespace Go.Sh
section
section
variable {w:World} {Z:Value→World→Prop} {b c:Bool}
theorem aaX{g:Bool}{A:(List Value→World→Prop)→World→Prop}{G:(List Value→World→Prop)→Prop}(hG:b=false→∀K:List Value→World→Prop,K [.bool g] w→G K)(hA:g=true→∀K:List Value→World→Prop,K [.bool c] w→A K w)(hZ:Z (.bool (b||(g&&c))) w):
  za (λK1=>gIf (.bool b) false (G K1) (K1 [u_] w)) λs1 _ w1=>
   za (λK2=>gIf (s1.getD 0 u_) true (A K2 w1) (K2 [u_] w1)) λs2 _ w2=>
    za (λK3=>gIf (.bool b) false (zd (s1.getD 0 u_) (s2.getD 0 u_) (.bool false) λt=>K3 [t] w2) (K3 [u_] w2)) λs3 _ w3=>
     zd (.bool b) (.bool true) (s3.getD 0 u_) λt=>Z t w3:=by
 intro K1 hK1
 cases b with
 |true=>
  refine hK1 _ _ λ_=>?_
  intro K2 hK2
  refine hK2 _ _ λ_=>?_
  intro K3 hK3
  refine hK3 _ _ λ_=>⟨true,rfl,?_⟩
  rw[Bool.true_or]at hZ;exact hZ
 |false=>
  refine hG rfl _ (hK1 _ _ λ_=>?_)
  intro K2 hK2
  cases g with
  |true=>
   refine hA rfl _ (hK2 _ _ λ_=>?_)
   intro K3 hK3
   refine⟨true,rfl,hK3 _ _ λ_=>⟨false,rfl,?_⟩⟩
   rw[Bool.false_or,Bool.true_and]at hZ;exact hZ
  |false=>
   refine hK2 _ _ λ_=>?_
   intro K3 hK3
   refine⟨false,rfl,hK3 _ _ λ_=>⟨false,rfl,?_⟩⟩
   rw[Bool.false_or,Bool.false_and]at hZ;exact hZ
end
theorem adT{P:Program}{K:Value→Prop}{t e:TypeId}{n:Nat}{p:Option Addr}{len cap:Nat}{kd kd':IntKind}{a b:Int}(h:slT P t=some (e,n))(h0:0≤a)(h1:a≤b)(h2:b≤cap)
  (k:K (.slice (if cap=a.toNat then p else p.map (·.add (a.toNat*n))) (b.toNat-a.toNat) (cap-a.toNat))):opP P (Instr.sliceAt t (.slice p len cap) (some (.int kd a)) (some (.int kd' b)) none) K:=by
 refine zX (λw=>?_) k
 unfold slT at h
 cases hu:P.underlying t with
 |none=>rw [hu]at h;cases h
 |some d=>
  rw[hu]at h
  cases d<;>first|cases h|skip
  rename_i e'
  simp only[Option.map_eq_some_iff,Prod.mk.injEq]at h
  obtain⟨m,hs,rfl,rfl⟩:=h
  have h3:0≤b:=by omega
  have h5:a≤max b 0:=by omega
  simp[Instr.sliceAt,Instr.slice,Instr.sliceBounds,Instr.sliceBound,asIntOf,Sem.run_bind,zx hu,Result.andThen,Sem.run,pure,h0,h2,h3,h5,zT hs]
instance {P:Program} {t e:TypeId} {n:Nat} {p:Option Addr} {len cap:Nat} {i j:IntKind} {a b:Int} [h:SlT P t e n]:PCond P (Instr.sliceAt t (.slice p len cap) (some (.int i a)) (some (.int j b)) none) (.slice (if cap=a.toNat then p else p.map (·.add (a.toNat*n))) (b.toNat-a.toNat) (cap-a.toNat)) (0≤a∧a≤b∧b≤cap):=
 .of λx _ k=>adT (e:=e) (n:=n) h.h x.1 x.2.1 x.2.2 k
theorem StX.holdW{X:Nat→Prop}{w0 w:World}{r:Gh}{L:List Asr}(S:StX X w0 r w L)(b:Nat){c:List Value}{T:TypeId}{f:List Value→List Asr}[h:At b L c T f]:Holds (r.or (Go.Sh.one b c T)) w:=S.holds.or (xx (S.blk b))
end
end Go.Sh
namespace Go.Proofs
open Go.Sh
section
section
variable {X:Nat→Prop} {w0 w:World} {r:Gh} {L:List Asr}
theorem abA{x n:Int}{b:Nat}{f:List Value→List Asr}{K:Value→World→Prop}(S:StX X w0 r w L)[At b L [.int .i64 n] 3 f](h:K (.bool (decide (0≤x)&&decide (x<n))) w):
  zy Tryz.prog (.func (.func Tryz.jn) #[] #[.pointer (some ⟨b,0,none⟩)]) #[.int .i64 x] w K:=by
 refine Jj (by kernel_rfl) ?_
 refine Tryz.YE ?_
 unfold Tryz.jr
 refine gP_ ?_
 refine zh (c:=decide (x<n)) (λ_ K2 hK2=>?_) h
 refine S.ld (b:=b) ?_ rfl
 refine gP_ ?_
 exact hK2
end
theorem yh{t:TyD}{q:Option Addr}{cap:Nat}{k:Int}{w:World}{r:Gh}{K:Value→World→Prop}(hr:Holds r w)(h:∀w',Ext w w'→K (.bool (isK t k)) w'):
  zy Tryz.prog (.func (.func Tryz.jo) #[] #[]) #[tyV t q cap,.int .u8 k] w K:=by
 refine ajW (by kernel_rfl) ?_
 refine Tryz.YG ?_
 unfold Tryz.jt
 have S:=St.start hr
 refine S.box λb1 w1 S=>?_
 refine gG_ ?_
 exact h _ S.ext
theorem adU{u:UnD}{g:GrD}{o:OpD}{t:TyD}{b2:Nat}{c c2:List Value}{q:Option Addr}{cap:Nat}{w:World}{r:Gh}{K:Value→World→Prop}(hr:Holds r w)(hb2:Ob r λw=>Blk w b2 c2 294)(hx:AskG r (.agg c2.toArray) u g)
  (hc2:c2.length=10) (hf:qD u.ss g.tys) (ho:OpG r c o) (hc:c.length=4) (ht:TyG r (tyV t q cap) t)
  (h:∀w',Ext w w'→K (.bool ((yd u.ss g.tys o).2&&yi yP (yd u.ss g.tys o).1 t)) w'):
  zy Tryz.prog (.func (.func Tryz.qI) #[] #[.pointer (some ⟨b2,0,none⟩)]) #[.agg c.toArray,tyV t q cap] w K:=by
 refine ajX (by kernel_rfl) ?_
 refine Tryz.ZR ?_
 unfold Tryz.qJ
 have S:=St.start hr
 refine S.box λb3 w1 S=>?_
 refine S.box λb4 w2 S=>?_
 refine zq (n:=10) (c:=c2) hc2 (λj v hj=>by rw[Nat.zero_add,(S.at hb2).cell];exact hj) ?_
 refine S.ldB (b:=b3) ?_ hc
 obtain⟨t1,ok,hop⟩:∃t1 ok,yd u.ss g.tys o=(t1,ok):=⟨_,_,rfl⟩
 rw[hop]at h
 refine xQ S.holds hx hf ho hop λq1 cap1 w3 e3 ht1=>?_
 have S:=S.go e3
 refine gP_ ?_
 refine gP_ ?_
 refine S.al λb6 w4 S=>?_
 refine S.stB (b:=b6) λw5 S=>?_
 refine zH (c:=yi yP t1 t) (λ_ K2 hK2=>?_) λw9 e9=>h _ (S.go e9).ext
 refine S.ldB (b:=b6) ?_ rfl
 refine S.ldB (b:=b4) ?_ rfl
 exact ky S.holds ht1 ht λw9 e9=>hK2 _ e9
theorem XI{ss:List StD}{tys:List TyD}{o:OpD}{l:List OpD}{t:TyD}{r:List TyD}:kh ss tys (o::l) (t::r)=(((yd ss tys o).2&&yi yP (yd ss tys o).1 t)&&kh ss tys l r):=rfl
theorem abB{ss:List StD}{tys:List TyD}:∀{l:List OpD}{r:List TyD},l.length≠r.length→kh ss tys l r=false
 |[],[],h=>absurd rfl h
 |[],_::_,_=>rfl
 |_::_,[],_=>rfl
 |o::l,t::r,h=>by rw[XI,abB (by simpa using h),Bool.and_false]
theorem TysG.up{s t:Gh}{q:Option Addr}{ts:List TyD}(h:TysG s q ts)[l:Le s t]:TysG t q ts:=λi hi=>by
 obtain⟨b,off,c,h1,h2,h3,h4⟩:=h i hi
 exact⟨b,off,c,h1,h2,λj v hj=>(h3 j v hj).up,h4.up⟩
theorem ZB{r:Gh}{q:Option Addr}{n cap:Nat}{ts:List TyD}(h:SlG 5 r (TyC r) (.slice q n cap) ts):TysG r q ts:=λi hi=>by
 obtain⟨b,off,c,h1,h2,h3,h4⟩:=h.get (by decide) hi
 exact⟨b,off,c,h1,h2,h4,h3⟩
theorem agY{top:Gh}{gs:Nat→Gh}{q:Option Addr}{ts:List TyD}(h:ai8 top gs q ts):TysG (top.or (un gs 0 ts.length)) q ts:=λi hi=>by
 obtain⟨b,off,c,h1,h2,h3,h4,_⟩:=h.at' i hi
 exact⟨b,off,c,h1,h2,λj v hj=>(h3 j v hj).up,TyG.up h4 (l:=⟨λb o hb=>.inr ⟨i,gzl _,hi,hb⟩⟩)⟩
theorem TysG.sub{s:Gh}{q:Option Addr}{ts:List TyD}(h:TysG s q ts){a n cap:Nat}(hc:ts.length≤cap):TysG s (if cap=a then q else q.map (·.add (a*5))) ((ts.drop a).take n):=λi hi=>by
 rw[List.length_take,List.length_drop]at hi
 obtain⟨b,off,c,h1,h2,h3,h4⟩:=h (a+i) (by omega)
 refine⟨b,off+a*5,c,?_,h2,λj v hj=>?_,?_⟩
 ·rw[if_neg (by omega),h1,Option.map_some,xZ]
 ·have:=h3 j v hj
  rwa[show off+(a+i)*5+j=off+a*5+i*5+j by omega]at this
 ·rw[List.getElem_take,List.getElem_drop];exact h4
theorem abC{u:UnD}{g:GrD}{p:PtD}{l:List TyD}{b2 b3:Nat}{c2 c3:List Value}{ql:Option Addr}{capl:Nat}{w:World}{r:Gh}{K:Value→World→Prop}(hr:Holds r w)(hb2:Ob r λw=>Blk w b2 c2 294)(hb3:Ob r λw=>Blk w b3 c3 96)(hx:AskG r (.agg c2.toArray) u g)
  (hc2:c2.length=10) (hf:qD u.ss g.tys) (hp:PtG r c3 p) (hl:TysG r ql l)
  (h:∀w',Ext w w'→K (.bool (kh u.ss g.tys p.args l)) w'):
  zy Tryz.prog (.func (.func Tryz.jp) #[] #[.pointer (some ⟨b3,0,none⟩),.pointer (some ⟨b2,0,none⟩)]) #[.slice ql l.length capl] w K:=by
 refine V1 (by kernel_rfl) ?_
 refine Tryz.YH ?_
 unfold Tryz.ju
 obtain⟨vt,va,vb,va',vf,rfl,h1,h2,h3,h4,h5⟩:=hp
 obtain⟨qa,capa,rfl,_,_⟩:=h4.sl.shape
 have S:=St.start hr
 have hlen:=h4.lt
 refine gP_ ?_
 refine zf (by rw[(S.at hb3).cell];rfl) ?_
 refine gP_ ?_
 refine Tryz.yB ?_
 unfold Tryz.zP
 refine gG_ ?_
 refine zj (λhne=>?_) (λheq=>?_)
 ·rw[abB (by omega)]at h
  exact h _ S.ext
 have heq:p.args.length=l.length:=by omega
 refine gG_ ?_
 refine zk (ι:=Nat) (λi=>[.int .i64 (i:Nat)]) (λi w'=>i≤p.args.length∧kh u.ss g.tys (p.args.drop i) (l.drop i)=kh u.ss g.tys p.args l∧StX noX w r w' []) (λi=>p.args.length-i) 0 rfl ⟨gzl _,rfl,S⟩ ?_
 clear S
 rintro i d w1 ⟨hi,hd,S⟩ K6 hK6
 rw[gdz]
 refine gP_ ?_
 refine zj (λhlt=>?_) (λhge=>?_)
 ·have hlt:i<p.args.length:=by omega
  have hlt2:i<l.length:=by omega
  obtain⟨ba,oa,ca,rfl,hca,hao,hac⟩:=h4.sl.get (by decide) hlt
  obtain⟨bt,ot,ct,rfl,hct,htc,hto⟩:=hl i hlt2
  obtain⟨q2,cap2,rfl,ht2⟩:=xh hto
  rw[List.drop_eq_getElem_cons hlt,List.drop_eq_getElem_cons hlt2,XI]at hd
  refine gP_ ?_
  refine zq (n:=4) hca (λj v hj=>by rw[tnc];exact S.at (hac j v hj)) ?_
  refine S.al λb8 w2 S=>?_
  obtain⟨vq,hca',hlq⟩:=id hao
  subst hca'
  obtain⟨qs,caps,rfl,_⟩:=hlq.sl.shape
  refine S.stB (b:=b8) λw3 S=>?_
  refine gP_ ?_
  refine zq (n:=5) hct (λj v hj=>by rw[tnc];exact S.at (htc j v hj)) ?_
  refine S.al λb9 w4 S=>?_
  refine S.stB (b:=b9) λw5 S=>?_
  refine S.ldB (b:=b8) ?_ rfl
  refine S.ldB (b:=b9) ?_ rfl
  refine adU S.holds hb2 hx hc2 hf hao rfl ht2 λw6 e6=>?_
  have S:=S.go e6
  refine gP_ ?_
  refine c_b (λhno=>?_) (λhy=>?_)
  ·have hno:((yd u.ss g.tys p.args[i]).2&&yi yP (yd u.ss g.tys p.args[i]).1 l[i])=false:=by rw[← Bool.not_eq_true'];exact hno
   rw[hno,Bool.false_and]at hd
   rw[← hd]at h
   exact h _ S.ext
  ·have hy:((yd u.ss g.tys p.args[i]).2&&yi yP (yd u.ss g.tys p.args[i]).1 l[i])=true:=by rw[← Bool.not_eq_false'];exact hy
   rw[hy,Bool.true_and]at hd
   refine gP_ ?_
   rw[show ((i:Int)+1)=((i+1:Nat):Int)by omega]
   exact hK6 (i+1) _ ⟨hlt,hd,S.to r |>.less (λ_ _ h=>h) (List.nil_sublist _)⟩ (by omega)
 ·have hie:i=p.args.length:=by omega
  rw[hie,List.drop_length,heq,List.drop_length]at hd
  rw[← hd]at h
  exact h _ S.ext
end
end Go.Proofs
namespace Go.Proofs.Tryz
open Go.Sh
section
variable {t0 t1 t2:Value} {w:World} {K:VW}
def JM(t0 t1:Value)(w:World)(K:VW):Prop:=
 pw w (Instr.box 25 t0) λt2 w1=>
 pw w1 (Instr.alloc 74 true (.tuple #[])) λt4 w2=>
 lo w2 25 t2 λt6=>ca ZJ #[t6,t1,(i6 (-1))] w2 λt8 w3=>
 pe t8 0 λt9=>pe t8 1 λt10=>ca ZI #[t9,t10] w3 λt11 w4=>
 pe t11 0 λt12=>pe t11 1 λt13=>so w4 74 t4 t12 λw5=>pq w5 (zg 74 t4) λr6=>K (.tuple #[r6,t13]) w5
theorem ac9(h:JM t0 t1 w K):zc prog YC #[t0,t1] w K:=
 okC false (.s (.r (rz 3 0 10)) (.s (.r (rz 10 0 133153)) (.n))) func49 rfl (by kernel_rfl) (by kernel_rfl) h
def QJ(t0 t1:Value)(w:World)(K:VW):Prop:=
 pw w (Instr.box 74 t0) λt2 w1=>
 pw w1 (Instr.alloc 74 true (.tuple #[])) λt4 w2=>
 za (λK3=>
 bt .eql 29 t1 (i6 0) λt7=>za (λK7=>gIf t7 true (fl w2 t2 74 2 3 λt10=>bt .gtr 3 t10 (i6 512) λt11=>K7 [t11] w2) (K7 [u_] w2)) (λs8 _d9 w10=>
 zd t7 (s8.getD 0 u_) fa_ λt12=>zb t12 (K3 [(i6 5)] w10) (K3 [t1] w10))) (λs4 _d5 w6=>
 bt .neq 29 (s4.getD 0 u_) (i6 0) λt14=>zb t14 (pp (Instr.build 74 #[]) λt15=>so w6 74 t4 t15 λw11=>pq w11 (zg 74 t4) λr12=>K (.tuple #[r12,(s4.getD 0 u_)]) w11) (lo w6 74 t2 λt17=>so w6 74 t4 t17 λw13=>pq w13 (zg 74 t4) λr14=>K (.tuple #[r14,(s4.getD 0 u_)]) w13))
theorem ab1(h:QJ t0 t1 w K):zc prog ZI #[t0,t1] w K:=
 okC false (.s (.r (rz 3 0 10)) (.j [1] (.s (.r (ra 3 0 0 (.grp 8 true (ri 3 3 4) [11] (rz 1 6 0)))) (.c (.r (rz 1 0 0)) (.n))) (.s (.s (.r (rz 2 0 0)) (.c (.s (.r (rz 4 0 32)) (.n)) (.n))) (.s (.r (rz 4 0 33)) (.n))))) func109 rfl (by kernel_rfl) (by kernel_rfl) h
def QK(t0 t1 t2:Value)(w:World)(K:VW):Prop:=
 pw w (Instr.box 25 t0) λt3 w1=>
 pw w1 (Instr.alloc 74 true (.tuple #[])) λt6 w2=>
 bt .lss 3 t1 (i6 0) λt16=>za (λK3=>gIf t16 false (fl w2 t3 25 1 23 λt20=>pp (Builtin.len_ #[23] 3 #[t20]) λt21=>bf .geq 3 t1 t21 λt22=>K3 [t22] w2) (K3 [u_] w2)) (λs4 _d5 w6=>
 zd t16 tr_ (s4.getD 0 u_) λt23=>za (λK7=>gIf t23 false (lo w6 25 t3 λt25=>ca YB #[t25] w6 λt26 w11=>
 pp (Op.unary .not t26) λt27=>K7 [t27] w11) (K7 [u_] w6)) (λs8 _d9 w10=>
 zd t23 tr_ (s8.getD 0 u_) λt28=>za (λK12=>gIf t28 false (fl w10 t3 25 1 23 λt32=>px 23 t32 t1 λt34=>fl w10 t34 101 6 99 λt36=>pp (Builtin.len_ #[99] 3 #[t36]) λt37=>bf .geq 3 t2 t37 λt38=>K12 [t38] w10) (K12 [u_] w10)) (λs13 _d14 w15=>
 zd t28 tr_ (s13.getD 0 u_) λt39=>zb t39 (lo w15 74 t6 λt40=>so w15 74 t6 t40 λw16=>pq w16 (zg 74 t6) λr17=>K (.tuple #[r17,(i6 2)]) w16) (fl w15 t3 25 1 23 λt42=>xl w15 23 t42 t1 101 λt45=>pw w15 (Instr.alloc 101 true (.tuple #[])) λt8 w18=>
 so w18 101 t8 t45 λw19=>za (λK20=>
 fl w19.drew t8 101 1 3 λt47=>pf 101 t8 6 λt48=>pf 101 t8 1 λt51=>pf 74 t6 0 λt53=>((pw w19.drew (Instr.loadAt 99 t48) λt49 w24=>
 Ext w19.drew w24∧
 pp (Builtin.len_ #[99] 3 #[t49]) λt50=>((pw w24 (Instr.loadAt 3 t51) λt52 w25=>
 Ext w24 w25∧
 so w25 3 t53 t47 λw26=>pf 74 t6 1 λt54=>so w26 3 t54 t50 λw27=>pf 74 t6 2 λt55=>so w27 3 t55 t52 λw28=>K20 [] w28)∧
 (so w24 3 t53 t47 λw29=>pf 74 t6 1 λt54_30=>((pw w29 (Instr.loadAt 3 t51) λt52_32 w31=>
 Ext w29 w31∧
 so w31 3 t54_30 t50 λw33=>pf 74 t6 2 λt55_34=>so w33 3 t55_34 t52_32 λw35=>K20 [] w35)∧
 (so w29 3 t54_30 t50 λw36=>pw w36 (Instr.loadAt 3 t51) λt52_38 w37=>
 Ext w36 w37∧
 pf 74 t6 2 λt55_39=>so w37 3 t55_39 t52_38 λw40=>K20 [] w40)))))∧
 (((pw w19.drew (Instr.loadAt 3 t51) λt52_42 w41=>
 Ext w19.drew w41∧
 ((pw w41 (Instr.loadAt 99 t48) λt49_44 w43=>
 Ext w41 w43∧
 pp (Builtin.len_ #[99] 3 #[t49_44]) λt50_45=>so w43 3 t53 t47 λw46=>pf 74 t6 1 λt54_47=>so w46 3 t54_47 t50_45 λw48=>pf 74 t6 2 λt55_49=>so w48 3 t55_49 t52_42 λw50=>K20 [] w50)∧
 (so w41 3 t53 t47 λw51=>pw w51 (Instr.loadAt 99 t48) λt49_53 w52=>
 Ext w51 w52∧
 pp (Builtin.len_ #[99] 3 #[t49_53]) λt50_54=>pf 74 t6 1 λt54_55=>so w52 3 t54_55 t50_54 λw56=>pf 74 t6 2 λt55_57=>so w56 3 t55_57 t52_42 λw58=>K20 [] w58)))∧
 (so w19.drew 3 t53 t47 λw59=>((pw w59 (Instr.loadAt 99 t48) λt49_61 w60=>
 Ext w59 w60∧
 pp (Builtin.len_ #[99] 3 #[t49_61]) λt50_62=>pf 74 t6 1 λt54_63=>((pw w60 (Instr.loadAt 3 t51) λt52_65 w64=>
 Ext w60 w64∧
 so w64 3 t54_63 t50_62 λw66=>pf 74 t6 2 λt55_67=>so w66 3 t55_67 t52_65 λw68=>K20 [] w68)∧
 (so w60 3 t54_63 t50_62 λw69=>pw w69 (Instr.loadAt 3 t51) λt52_71 w70=>
 Ext w69 w70∧
 pf 74 t6 2 λt55_72=>so w70 3 t55_72 t52_71 λw73=>K20 [] w73)))∧
 (pw w59 (Instr.loadAt 3 t51) λt52_75 w74=>
 Ext w59 w74∧
 pw w74 (Instr.loadAt 99 t48) λt49_77 w76=>
 Ext w74 w76∧
 pp (Builtin.len_ #[99] 3 #[t49_77]) λt50_78=>pf 74 t6 1 λt54_79=>so w76 3 t54_79 t50_78 λw80=>pf 74 t6 2 λt55_81=>so w80 3 t55_81 t52_75 λw82=>K20 [] w82))))))) (λ_s21 _d22 w23=>
 fl w23 t8 101 4 41 λt57=>pp (Builtin.len_ #[41] 3 #[t57]) λt58=>zu [(i6 0)] w23 (λs84 _d85 w86 K83=>
 bf .lss 3 (s84.getD 0 u_) t58 λt60=>zb t60 (za (λK87=>
 xl w86 41 t57 (s84.getD 0 u_) 43 λt62=>pw w86 (Instr.alloc 43 true (.tuple #[])) λt10 w91=>
 so w91 43 t10 t62 λw92=>pf 74 t6 3 λt63=>lo w92.drew 43 t10 λt65=>pp (Instr.makeFunc (.func 164) #[] #[t6]) λt66=>((pw w92.drew (Instr.loadAt 41 t63) λt64 w93=>
 Ext w92.drew w93∧
 pp (Builtin.len_ #[41] 3 #[t64]) λt68=>((ca yn #[t65,t66] w93 λt67 w94=>
 pw w94 (Instr.buildSlice 41 1 #[(0,(Value.agg #[Value.int .u8 0,Value.bool false,Value.int .i64 0,Value.int .i64 0,Value.slice Option.none 0 0]))]) λt69 w95=>
 Ext w94 w95∧
 pw w95 (Builtin.append_ #[41,41] 41 #[t64,t69]) λt70 w96=>
 px 41 t70 t68 λt71=>pf 74 t6 3 λt72=>((so w96 43 t71 t67 λw97=>so w97 41 t72 t70 λw98=>K87 [] w98)∧
 (so w96 41 t72 t70 λw99=>so w99 43 t71 t67 λw100=>K87 [] w100)))∧
 (pw w93 (Instr.buildSlice 41 1 #[(0,(Value.agg #[Value.int .u8 0,Value.bool false,Value.int .i64 0,Value.int .i64 0,Value.slice Option.none 0 0]))]) λt69_102 w101=>
 Ext w93 w101∧
 ca yn #[t65,t66] w101 λt67_104 w103=>
 pw w103 (Builtin.append_ #[41,41] 41 #[t64,t69_102]) λt70_106 w105=>
 px 41 t70_106 t68 λt71_107=>pf 74 t6 3 λt72_108=>((so w105 43 t71_107 t67_104 λw109=>so w109 41 t72_108 t70_106 λw110=>K87 [] w110)∧
 (so w105 41 t72_108 t70_106 λw111=>so w111 43 t71_107 t67_104 λw112=>K87 [] w112)))))∧
 (((ca yn #[t65,t66] w92.drew λt67_114 w113=>
 ((pw w113 (Instr.loadAt 41 t63) λt64_116 w115=>
 Ext w113 w115∧
 pp (Builtin.len_ #[41] 3 #[t64_116]) λt68_117=>pw w115 (Instr.buildSlice 41 1 #[(0,(Value.agg #[Value.int .u8 0,Value.bool false,Value.int .i64 0,Value.int .i64 0,Value.slice Option.none 0 0]))]) λt69_119 w118=>
 Ext w115 w118∧
 pw w118 (Builtin.append_ #[41,41] 41 #[t64_116,t69_119]) λt70_121 w120=>
 px 41 t70_121 t68_117 λt71_122=>pf 74 t6 3 λt72_123=>((so w120 43 t71_122 t67_114 λw124=>so w124 41 t72_123 t70_121 λw125=>K87 [] w125)∧
 (so w120 41 t72_123 t70_121 λw126=>so w126 43 t71_122 t67_114 λw127=>K87 [] w127)))∧
 (pw w113 (Instr.buildSlice 41 1 #[(0,(Value.agg #[Value.int .u8 0,Value.bool false,Value.int .i64 0,Value.int .i64 0,Value.slice Option.none 0 0]))]) λt69_129 w128=>
 Ext w113 w128∧
 pw w128 (Instr.loadAt 41 t63) λt64_131 w130=>
 Ext w128 w130∧
 pp (Builtin.len_ #[41] 3 #[t64_131]) λt68_132=>pw w130 (Builtin.append_ #[41,41] 41 #[t64_131,t69_129]) λt70_134 w133=>
 px 41 t70_134 t68_132 λt71_135=>pf 74 t6 3 λt72_136=>((so w133 43 t71_135 t67_114 λw137=>so w137 41 t72_136 t70_134 λw138=>K87 [] w138)∧
 (so w133 41 t72_136 t70_134 λw139=>so w139 43 t71_135 t67_114 λw140=>K87 [] w140)))))∧
 (pw w92.drew (Instr.buildSlice 41 1 #[(0,(Value.agg #[Value.int .u8 0,Value.bool false,Value.int .i64 0,Value.int .i64 0,Value.slice Option.none 0 0]))]) λt69_142 w141=>
 Ext w92.drew w141∧
 ((pw w141 (Instr.loadAt 41 t63) λt64_144 w143=>
 Ext w141 w143∧
 pp (Builtin.len_ #[41] 3 #[t64_144]) λt68_145=>ca yn #[t65,t66] w143 λt67_147 w146=>
 pw w146 (Builtin.append_ #[41,41] 41 #[t64_144,t69_142]) λt70_149 w148=>
 px 41 t70_149 t68_145 λt71_150=>pf 74 t6 3 λt72_151=>((so w148 43 t71_150 t67_147 λw152=>so w152 41 t72_151 t70_149 λw153=>K87 [] w153)∧
 (so w148 41 t72_151 t70_149 λw154=>so w154 43 t71_150 t67_147 λw155=>K87 [] w155)))∧
 (ca yn #[t65,t66] w141 λt67_157 w156=>
 pw w156 (Instr.loadAt 41 t63) λt64_159 w158=>
 Ext w156 w158∧
 pp (Builtin.len_ #[41] 3 #[t64_159]) λt68_160=>pw w158 (Builtin.append_ #[41,41] 41 #[t64_159,t69_142]) λt70_162 w161=>
 px 41 t70_162 t68_160 λt71_163=>pf 74 t6 3 λt72_164=>((so w161 43 t71_163 t67_157 λw165=>so w165 41 t72_164 t70_162 λw166=>K87 [] w166)∧
 (so w161 41 t72_164 t70_162 λw167=>so w167 43 t71_163 t67_157 λw168=>K87 [] w168))))))))) (λ_s88 _d89 w90=>
 bt .add 3 (s84.getD 0 u_) (i6 1) λt73=>K83 [t73] w90)) (fl w86 t8 101 6 99 λt75=>pp (Builtin.len_ #[99] 3 #[t75]) λt76=>zu [(i6 0)] w86 (λs170 _d171 w172 K169=>
 bf .lss 3 (s170.getD 0 u_) t76 λt78=>zb t78 (xl w172 99 t75 (s170.getD 0 u_) 96 λt80=>pw w172 (Instr.alloc 96 true (.tuple #[])) λt12 w173=>
 so w173 96 t12 t80 λw174=>za (λK175=>
 fl w174 t12 96 0 90 λt82=>bt .eql 90 t82 (Value.int .u8 4) λt84=>zb t84 (K175 [(i6 1)] w174) (bt .eql 90 t82 (Value.int .u8 7) λt86=>zb t86 (fl w174 t3 25 1 23 λt88=>fl w174 t12 96 8 3 λt90=>px 23 t88 t90 λt91=>fl w174 t91 101 1 3 λt93=>K175 [t93] w174) (K175 [(i6 0)] w174))) (λs176 _d177 w178=>
 fl w178 t6 74 2 3 λt95=>za (λK179=>
 bt .eql 3 (s176.getD 0 u_) (i6 0) λt97=>zb t97 (K179 [(i6 (-1))] w178) (K179 [t95] w178)) (λs180 _d181 w182=>
 fl w182 t6 74 4 55 λt99=>pw w182 (Instr.buildSlice 55 1 #[(0,(s180.getD 0 u_))]) λt101 w183=>
 pw w183 (Builtin.append_ #[55,55] 55 #[t99,t101]) λt102 w184=>
 pf 74 t6 4 λt103=>so w184 55 t103 t102 λw185=>fl w185 t6 74 2 3 λt105=>bf .add 3 t105 (s176.getD 0 u_) λt107=>pf 74 t6 2 λt108=>so w185 3 t108 t107 λw186=>bt .add 3 (s170.getD 0 u_) (i6 1) λt109=>K169 [t109] w186))) (lo w172 74 t6 λt110=>so w172 74 t6 t110 λw187=>pq w187 (zg 74 t6) λr188=>K (.tuple #[r188,(i6 0)]) w187)))))))))
theorem ab2(h:QK t0 t1 t2 w K):zc prog ZJ #[t0,t1,t2] w K:=
 okC false (.s (.r (rz 3 0 10)) (.s (.s (.r (ra 3 0 0 (.grp 17 false (ri 5 3 16) [22] (ra 2 8 0 (.grp 24 false (ri 3 10 9) [27] (ra 2 13 0 (.grp 29 false (ri 9 15 4112) [38] (rz 1 24 0)))))))) (.c (.s (.r (rz 3 0 9)) (.n)) (.n))) (.s (.r (rz 7 0 10500)) (.j [] (.r (ra 3 0 4 (ra 1 5 0 (ra 1 7 0 (.alt 3 .u (ra 1 4 0 (.alt 6 .u (rz 5 8 546) (ra 2 8 2 (.alt 6 .u (rz 3 10 34) (ra 1 10 2 (ra 1 6 3 (rz 2 11 8))))))) (.alt 6 .u (.alt 3 .u (ra 1 4 0 (rz 5 8 546)) (ra 1 8 2 (ra 2 3 3 (rz 4 9 136)))) (ra 1 8 2 (.alt 3 .u (ra 1 4 0 (ra 1 9 0 (.alt 6 .u (rz 3 10 34) (ra 1 10 2 (ra 1 6 3 (rz 2 11 8)))))) (ra 1 6 3 (ra 2 3 3 (rz 4 9 136))))))))))) (.s (.s (.r (rz 4 0 4)) (.b (.lp [59] (.s (.r (rz 1 0 0)) (.s (.c (.n) (.n)) (.j [] (.b (.s (.r (rz 4 0 164)) (.r (ra 1 0 0 (ra 2 2 1 (.alt 1 .u (ra 1 5 0 (.alt 4 .l (ra 3 6 11 (ra 1 10 0 (.alt 9 .l (rz 1 11 2) (ra 1 11 2 (rz 1 9 2))))) (ra 1 6 3 (ra 1 4 2 (ra 2 7 2 (ra 1 10 0 (.alt 9 .l (rz 1 11 2) (ra 1 11 2 (rz 1 9 2))))))))) (.alt 4 .l (.alt 1 .u (ra 4 5 44 (ra 1 10 0 (.alt 9 .l (rz 1 11 2) (ra 1 11 2 (rz 1 9 2))))) (ra 1 6 3 (ra 1 1 3 (ra 1 5 0 (ra 2 7 2 (ra 1 10 0 (.alt 9 .l (rz 1 11 2) (ra 1 11 2 (rz 1 9 2))))))))) (ra 1 6 3 (.alt 1 .u (ra 1 5 0 (ra 1 4 2 (ra 2 7 2 (ra 1 10 0 (.alt 9 .l (rz 1 11 2) (ra 1 11 2 (rz 1 9 2))))))) (ra 1 4 2 (ra 1 1 3 (ra 1 5 0 (ra 2 7 2 (ra 1 10 0 (.alt 9 .l (rz 1 11 2) (ra 1 11 2 (rz 1 9 2))))))))))))))))) (.r (rz 2 0 0)))))))) (.s (.s (.r (rz 4 0 4)) (.b (.lp [77] (.s (.r (rz 1 0 0)) (.s (.c (.n) (.n)) (.s (.b (.s (.r (rz 4 0 164)) (.s (.r (rz 1 0 0)) (.j [13] (.s (.r (rz 2 0 4)) (.b (.s (.r (rz 2 0 0)) (.c (.r (rz 1 0 0)) (.s (.r (rz 2 0 0)) (.c (.r (rz 8 0 4164)) (.n))))))) (.s (.r (rz 3 0 4)) (.j [14] (.s (.r (rz 2 0 0)) (.c (.r (rz 1 0 0)) (.n))) (.s (.r (rz 7 0 8836)) (.r (rz 6 0 2052))))))))) (.r (rz 2 0 0)))))))) (.s (.r (rz 3 0 9)) (.n)))))))) func110 rfl (by kernel_rfl) (by kernel_rfl) h
def JN(t0 t1 t2:Value)(w:World)(K:VW):Prop:=
 pw w (Instr.box 80 t2) λt5 w1=>
 lo w1 80 t5 λt13=>ca kS #[t0,t1,t13] w1 λt14 w2=>
 pe t14 0 λt15=>pe t14 1 λ_t16=>pe t14 2 λt17=>pw w2 (Instr.alloc 43 true (.tuple #[])) λt7 w3=>
 so w3 43 t7 t15 λw4=>K t17 w4
theorem ada(h:JN t0 t1 t2 w K):zc prog vd #[t0,t1,t2] w K:=
 okC false (.s (.r (rz 2 0 2)) (.s (.r (rz 12 0 655504)) (.s (.r (rz 2 0 0)) (.n)))) func91 rfl (by kernel_rfl) (by kernel_rfl) h
def QL(t0 t1 t2:Value)(w:World)(K:VW):Prop:=
 pw w (Instr.box 80 t2) λt5 w1=>
 pw w1 (Instr.alloc 43 true (.tuple #[])) λt6 w2=>
 lo w2 80 t5 λt14=>ca kS #[t0,t1,t14] w2 λt15 w3=>
 pe t15 0 λt16=>pe t15 1 λ_t17=>pe t15 2 λt18=>pw w3 (Instr.alloc 43 true (.tuple #[])) λt8 w4=>
 so w4 43 t8 t16 λw5=>pp (Op.unary .not t18) λt20=>zb t20 (pp (Instr.build 43 #[]) λt21=>so w5 43 t6 t21 λw6=>pq w6 (zg 43 t6) λr7=>K (.tuple #[r7,(i6 2)]) w6) (lo w5 43 t8 λt22=>ca YA #[t22] w5 λt23 w8=>
 pe t23 0 λt24=>pe t23 1 λt25=>so w8 43 t6 t24 λw9=>pq w9 (zg 43 t6) λr10=>K (.tuple #[r10,t25]) w9)
theorem ab3(h:QL t0 t1 t2 w K):zc prog jF #[t0,t1,t2] w K:=
 okC false (.s (.r (rz 3 0 10)) (.s (.r (rz 12 0 655504)) (.s (.s (.r (rz 2 0 0)) (.c (.s (.r (rz 3 0 8)) (.n)) (.n))) (.s (.r (rz 6 0 521)) (.n))))) func113 rfl (by kernel_rfl) (by kernel_rfl) h
def Yt(t0 t1:Value)(w:World)(K:VW):Prop:=
 pw w (Instr.box 43 t0) λt2 w1=>
 pw w1 (Instr.alloc 43 true (.tuple #[])) λt4 w2=>
 lo w2 43 t2 λt8=>ca yC #[t8] w2 λt9 w3=>
 pp (Builtin.len_ #[55] 3 #[t9]) λt11=>zu [(i6 0)] w3 (λs5 _d6 w7 K4=>
 bf .lss 3 (s5.getD 0 u_) t11 λt13=>zb t13 (xl w7 55 t9 (s5.getD 0 u_) 3 λt16=>cv t1 #[t16] w7 λt21 w8=>
 px 55 t9 (s5.getD 0 u_) λt22=>so w8 3 t22 t21 λw9=>bt .add 3 (s5.getD 0 u_) (i6 1) λt23=>K4 [t23] w9) (lo w7 43 t2 λt25=>ca ZG #[t25,t9] w7 λt27 w10=>
 pe t27 0 λt28=>pe t27 1 λ_t29=>so w10 43 t2 t28 λw11=>lo w11 43 t2 λt30=>so w11 43 t4 t30 λw12=>pq w12 (zg 43 t4) λr13=>K r13 w12))
theorem Vi(h:Yt t0 t1 w K):zc prog yn #[t0,t1] w K:=
 okC false (.s (.r (rz 2 0 10)) (.s (.r (rz 3 0 9)) (.s (.s (.r (rz 3 0 0)) (.b (.lp [12] (.s (.r (rz 1 0 0)) (.s (.c (.n) (.n)) (.s (.b (.s (.r (rz 5 0 16)) (.r (rz 7 0 8704)))) (.r (rz 2 0 0)))))))) (.s (.r (rz 7 0 8225)) (.s (.r (rz 2 0 9)) (.n)))))) func163 rfl (by kernel_rfl) (by kernel_rfl) h
def Xa(t0 t1:Value)(w:World)(K:VW):Prop:=
 za (λK1=>
 bt .lss 3 t0 (i6 0) λt5=>zb t5 (fl w t1 74 2 3 λt7=>fl w t1 74 2 3 λt9=>bt .add 3 t9 (i6 1) λt10=>pf 74 t1 2 λt11=>so w 3 t11 t10 λw5=>K1 [t7] w5) (K1 [t0] w)) (λs2 _d3 w4=>
 K (s2.getD 0 u_) w4)
theorem V8(h:Xa t0 t1 w K):zc prog j0 #[t0,t1] w K:=
 okC false (.s (.r (rz 1 0 0)) (.j [0] (.s (.r (rz 2 0 0)) (.c (.s (.r (rz 3 0 4)) (.r (rz 5 0 516))) (.n))) (.s (.r (rz 2 0 0)) (.n)))) func164 rfl (by kernel_rfl) (by kernel_rfl) h
def QM(t0 t1 t2:Value)(w:World)(K:VW):Prop:=
 pw w (Instr.box 22 t0) λt3 w1=>
 pw w1 (Instr.box 80 t2) λt5 w2=>
 pw w2 (Instr.alloc 43 true (.tuple #[])) λt6 w3=>
 fl w3 t5 80 0 3 λt15=>bt .lss 3 t15 (i6 0) λt16=>za (λK4=>gIf t16 false (fl w3 t5 80 0 3 λt19=>pp (Builtin.len_ #[41] 3 #[t1]) λt21=>bf .geq 3 t19 t21 λt22=>K4 [t22] w3) (K4 [u_] w3)) (λs5 _d6 w7=>
 zd t16 tr_ (s5.getD 0 u_) λt23=>za (λK8=>gIf t23 false (fl w7 t5 80 1 78 λt26=>pp (Builtin.len_ #[78] 3 #[t26]) λt27=>bt .gtr 3 t27 (i6 8) λt28=>K8 [t28] w7) (K8 [u_] w7)) (λs9 _d10 w11=>
 zd t23 tr_ (s9.getD 0 u_) λt29=>zb t29 (lo w11 43 t6 λt30=>so w11 43 t6 t30 λw12=>pq w12 (zg 43 t6) λr13=>K (.tuple #[r13,(Value.slice Option.none 0 0),fa_]) w12) (lo w11 22 t3 λt32=>ca xy #[t32] w11 λt33 w14=>
 pe t33 0 λ_t34=>pe t33 1 λt35=>bt .neq 29 t35 (i6 0) λt37=>za (λK15=>gIf t37 false (pp (Instr.makeFunc (.func 150) #[] #[t3]) λt40=>ca yb #[t1,t40] w14 λt41 w19=>
 K15 [t41] w19) (K15 [u_] w14)) (λs16 _d17 w18=>
 zd t37 tr_ (s16.getD 0 u_) λt42=>zb t42 (lo w18 43 t6 λt43=>so w18 43 t6 t43 λw20=>pq w20 (zg 43 t6) λr21=>K (.tuple #[r21,(Value.slice Option.none 0 0),fa_]) w20) (fl w18 t5 80 0 3 λt46=>xl w18 41 t1 t46 43 λt48=>so w18 43 t6 t48 λw22=>fl w22 t5 80 1 78 λt50=>pp (Builtin.len_ #[78] 3 #[t50]) λt51=>zu [(Value.slice Option.none 0 0),(i6 0)] w22 (λs24 _d25 w26 K23=>
 bf .lss 3 (s24.getD 1 u_) t51 λt53=>zb t53 (za (λK27=>
 xl w26 78 t50 (s24.getD 1 u_) 84 λt55=>za (λK31=>
 bt .eql 84 t55 (i6 (-1)) λt58=>za (λK35=>gIf t58 true (fl w26 t6 43 0 40 λt61=>bt .eql 40 t61 (Value.int .u8 3) λt62=>K35 [t62] w26) (K35 [u_] w26)) (λs36 _d37 w38=>
 zd t58 (s36.getD 0 u_) fa_ λt63=>zb t63 (K31 [(s24.getD 0 u_),(i6 1)] w38) (bt .eql 84 t55 (i6 (-1)) λt66=>za (λK39=>gIf t66 true (fl w38 t6 43 0 40 λt69=>bt .eql 40 t69 (Value.int .u8 4) λt70=>K39 [t70] w38) (K39 [u_] w38)) (λs40 _d41 w42=>
 zd t66 (s40.getD 0 u_) fa_ λt71=>za (λK43=>gIf t71 true (fl w42 t6 43 1 4 λt74=>K43 [t74] w42) (K43 [u_] w42)) (λs44 _d45 w46=>
 zd t71 (s44.getD 0 u_) fa_ λt75=>zb t75 (K31 [(s24.getD 0 u_),(i6 2)] w46) (bt .eql 84 t55 (i6 (-1)) λt78=>za (λK47=>gIf t78 true (fl w46 t6 43 0 40 λt81=>bt .eql 40 t81 (Value.int .u8 4) λt82=>K47 [t82] w46) (K47 [u_] w46)) (λs48 _d49 w50=>
 zd t78 (s48.getD 0 u_) fa_ λt83=>zb t83 (K31 [(s24.getD 0 u_),(i6 3)] w50) (fl w50 t6 43 0 40 λt86=>bt .neq 40 t86 (Value.int .u8 5) λt87=>za (λK51=>gIf t87 false (bt .lss 84 t55 (i6 0) λt90=>K51 [t90] w50) (K51 [u_] w50)) (λs52 _d53 w54=>
 zd t87 tr_ (s52.getD 0 u_) λt91=>za (λK55=>gIf t91 false (lo w54 22 t3 λt94=>fl w54 t6 43 3 3 λt96=>px 22 t94 t96 λt97=>fl w54 t97 117 1 115 λt99=>pp (Builtin.len_ #[115] 3 #[t99]) λt100=>bf .geq 3 t55 t100 λt101=>K55 [t101] w54) (K55 [u_] w54)) (λs56 _d57 w58=>
 zd t91 tr_ (s56.getD 0 u_) λt102=>zb t102 (pp (Instr.build 43 #[]) λt103=>so w58 43 t6 t103 λw59=>pq w59 (zg 43 t6) λr60=>K (.tuple #[r60,(Value.slice Option.none 0 0),fa_]) w59) (K31 [(s24.getD 0 u_),(i6 0)] w58))))))))))) (λs32 _d33 w34=>
 pw w34 (Instr.buildSlice 55 1 #[(0,(s32.getD 1 u_))]) λt106 w61=>
 pw w61 (Builtin.append_ #[55,55] 55 #[(s32.getD 0 u_),t106]) λt107 w62=>
 bt .eql 3 (s32.getD 1 u_) (i6 0) λt109=>zb t109 (lo w62 22 t3 λt110=>fl w62 t6 43 3 3 λt112=>px 22 t110 t112 λt113=>fl w62 t113 117 1 115 λt115=>px 115 t115 t55 λt117=>fl w62 t117 233 1 43 λt119=>so w62 43 t6 t119 λw63=>K27 [t107] w63) (fl w62 t6 43 4 41 λt121=>xl w62 41 t121 (i6 0) 43 λt123=>so w62 43 t6 t123 λw64=>K27 [t107] w64))) (λs28 _d29 w30=>
 bt .add 3 (s24.getD 1 u_) (i6 1) λt124=>K23 [(s28.getD 0 u_),t124] w30)) (lo w26 43 t6 λt125=>so w26 43 t6 t125 λw65=>pq w65 (zg 43 t6) λr66=>K (.tuple #[r66,(s24.getD 0 u_),tr_]) w65)))))))
theorem ab4(h:QM t0 t1 t2 w K):zc prog kS #[t0,t1,t2] w K:=
 okC false (.s (.r (rz 5 0 42)) (.s (.s (.r (ra 4 0 4 (.grp 17 false (ri 5 4 4) [22] (ra 2 9 0 (.grp 24 false (ri 4 11 4) [28] (rz 1 15 0)))))) (.c (.s (.r (rz 4 0 9)) (.n)) (.n))) (.s (.s (.r (rz 7 0 9)) (.s (.r (ra 3 0 0 (.grp 38 false (ri 3 3 32) [41] (rz 1 6 0)))) (.c (.s (.r (rz 4 0 9)) (.n)) (.n)))) (.s (.r (rz 6 0 2320)) (.s (.s (.r (rz 4 0 4)) (.b (.lp [7,52] (.s (.r (rz 1 0 0)) (.s (.c (.n) (.n)) (.j [7] (.b (.s (.r (rz 3 0 4)) (.s (.r (rz 1 0 0)) (.j [7,13] (.b (.s (.r (ra 3 0 0 (.grp 59 true (ri 3 3 4) [62] (rz 2 6 0)))) (.c (.r (rz 1 0 0)) (.s (.r (ra 3 0 0 (.grp 67 true (ri 3 3 4) [70] (ra 2 6 0 (.grp 72 true (ri 2 8 4) [74] (rz 2 10 0)))))) (.c (.r (rz 1 0 0)) (.s (.r (ra 3 0 0 (.grp 79 true (ri 3 3 4) [82] (rz 2 6 0)))) (.c (.r (rz 1 0 0)) (.s (.r (ra 4 0 4 (.grp 88 false (ri 2 4 0) [90] (ra 2 6 0 (.grp 92 false (ri 9 8 4164) [101] (rz 2 17 0)))))) (.c (.s (.r (rz 4 0 8)) (.n)) (.n)))))))))) (.s (.r (rz 5 0 160)) (.s (.r (rz 2 0 0)) (.c (.r (rz 11 0 2360337)) (.r (rz 5 0 580))))))))) (.r (rz 2 0 0)))))))) (.s (.r (rz 5 0 33)) (.n))))))) func95 rfl (by kernel_rfl) (by kernel_rfl) h
def Xb(t0 t1:Value)(w:World)(K:VW):Prop:=
 pw w (Instr.box 43 t0) λt2 w1=>
 lo w1 22 t1 λt4=>lo w1 43 t2 λt5=>ca kD #[t4,t5] w1 λt6 w2=>
 pp (Op.unary .not t6) λt7=>K t7 w2
theorem V9(h:Xb t0 t1 w K):zc prog aaM #[t0,t1] w K:=
 okC false (.s (.r (rz 2 0 2)) (.s (.r (rz 5 0 37)) (.n))) func150 rfl (by kernel_rfl) (by kernel_rfl) h
def Xc(t0 t1:Value)(w:World)(K:VW):Prop:=
 pw w (Instr.box 80 t0) λt2 w1=>
 pw w1 (Instr.box 80 t1) λt3 w2=>
 fl w2.drew t2 80 0 3 λt6=>fl w2.drew t3 80 0 3 λt8=>bf .eql 3 t6 t8 λt9=>za (λK3=>gIf t9 true (fl w2.drew t2 80 1 78 λt12=>pp (Builtin.len_ #[78] 3 #[t12]) λt13=>fl w2.drew t3 80 1 78 λt15=>pp (Builtin.len_ #[78] 3 #[t15]) λt16=>bf .leq 3 t13 t16 λt17=>K3 [t17] w2.drew) (K3 [u_] w2.drew)) (λs4 _d5 w6=>
 zd t9 (s4.getD 0 u_) fa_ λt18=>za (λK7=>gIf t18 true (fl w6 t2 80 1 78 λt21=>fl w6 t3 80 1 78 λt23=>fl w6 t2 80 1 78 λt25=>pp (Builtin.len_ #[78] 3 #[t25]) λt26=>fl w6 t2 80 1 78 λt28=>pp (Builtin.len_ #[78] 3 #[t28]) λt29=>pp (Instr.sliceAt 78 t23 none (some t26) (some t29)) λt30=>ca yv #[t21,t30] w6 λt31 w11=>
 K7 [t31] w11) (K7 [u_] w6)) (λs8 _d9 w10=>
 zd t18 (s8.getD 0 u_) fa_ λt32=>K t32 w10))
theorem aaa(h:Xc t0 t1 w K):zc prog yM #[t0,t1] w K:=
 okC false (.s (.r (rz 3 0 10)) (.s (.r (ra 6 0 68 (.grp 10 true (ri 7 6 260) [17] (ra 2 13 0 (.grp 19 true (ri 12 15 8455236) [31] (rz 2 27 0)))))) (.n))) func41 rfl (by kernel_rfl) (by kernel_rfl) h
def Xd(t0 t1 t2 t3 t4:Value)(w:World)(K:VW):Prop:=
 pw w (Instr.box 80 t2) λt7 w1=>
 pw w1 (Instr.box 80 t3) λt8 w2=>
 lo w2 80 t8 λt20=>ca kS #[t0,t1,t20] w2 λt21 w3=>
 pe t21 0 λt22=>pe t21 1 λt23=>pe t21 2 λt24=>pw w3 (Instr.alloc 43 true (.tuple #[])) λt12 w4=>
 so w4 43 t12 t22 λw5=>pp (Op.unary .not t24) λt26=>za (λK6=>gIf t26 false (lo w5 80 t7 λt30=>ca vd #[t0,t1,t30] w5 λt31 w10=>
 pp (Op.unary .not t31) λt32=>K6 [t32] w10) (K6 [u_] w5)) (λs7 _d8 w9=>
 zd t26 tr_ (s7.getD 0 u_) λt33=>za (λK11=>gIf t33 false (bt .lss 86 t4 (Value.int .u8 1) λt36=>K11 [t36] w9) (K11 [u_] w9)) (λs12 _d13 w14=>
 zd t33 tr_ (s12.getD 0 u_) λt37=>za (λK15=>gIf t37 false (bt .gtr 86 t4 (Value.int .u8 3) λt40=>K15 [t40] w14) (K15 [u_] w14)) (λs16 _d17 w18=>
 zd t37 tr_ (s16.getD 0 u_) λt41=>zb t41 (K (.tuple #[fa_,(i6 2)]) w18) (lo w18 80 t7 λt42=>lo w18 80 t8 λt43=>ca yM #[t42,t43] w18 λt44 w19=>
 pp (Op.unary .not t44) λt45=>zb t45 (K (.tuple #[fa_,(i6 0)]) w19) (fl w19 t7 80 1 78 λt48=>pp (Builtin.len_ #[78] 3 #[t48]) λt49=>pp (Instr.sliceAt 55 t23 (some t49) none none) λt50=>pp (Builtin.len_ #[55] 3 #[t50]) λt51=>zu [(i6 0)] w19 (λs21 _d22 w23 K20=>
 bf .lss 3 (s21.getD 0 u_) t51 λt53=>zb t53 (xl w23 55 t50 (s21.getD 0 u_) 3 λt55=>ca vU #[t4] w23 λt58 w24=>
 bf .gtr 3 t55 t58 λt59=>zb t59 (K (.tuple #[fa_,(i6 0)]) w24) (bt .add 3 (s21.getD 0 u_) (i6 1) λt60=>K20 [t60] w24)) (K (.tuple #[tr_,(i6 0)]) w23)))))))
theorem aab{t3 t4:Value}(h:Xd t0 t1 t2 t3 t4 w K):zc prog qj #[t0,t1,t2,t3,t4] w K:=
 okC false (.s (.r (rz 4 0 10)) (.s (.r (rz 12 0 655504)) (.s (.s (.r (ra 3 0 0 (.grp 27 false (ri 5 3 144) [32] (ra 2 8 0 (.grp 34 false (ri 2 10 0) [36] (ra 2 12 0 (.grp 38 false (ri 2 14 0) [40] (rz 1 16 0)))))))) (.c (.s (.r (rz 2 0 0)) (.n)) (.n))) (.s (.s (.r (rz 4 0 37)) (.c (.s (.r (rz 2 0 0)) (.n)) (.n))) (.s (.s (.r (rz 7 0 16)) (.b (.lp [52] (.s (.r (rz 1 0 0)) (.s (.c (.n) (.n)) (.s (.b (.s (.r (rz 3 0 4)) (.s (.r (rz 4 0 32)) (.c (.s (.r (rz 2 0 0)) (.n)) (.n))))) (.r (rz 2 0 0)))))))) (.s (.r (rz 2 0 0)) (.n))))))) func42 rfl (by kernel_rfl) (by kernel_rfl) h
def X8(t0:Value)(w:World)(K:VW):Prop:=
 za (λK1=>
 za (λK5=>
 bt .eql 86 t0 (Value.int .u8 3) λt6=>zb t6 (bt .add 3 (i6 0) (i6 1) λt12=>K5 [t12] w) (bt .eql 86 t0 (Value.int .u8 2) λt8=>zb t8 (K5 [(i6 0)] w) (bt .eql 86 t0 (Value.int .u8 1) λt10=>zb t10 (K1 [(i6 0)] w) (K1 [(i6 0)] w)))) (λs6 _d7 w8=>
 bt .add 3 (s6.getD 0 u_) (i6 1) λt14=>K1 [t14] w8)) (λs2 _d3 w4=>
 K (s2.getD 0 u_) w4)
theorem aaY(h:X8 t0 w K):zc prog vU #[t0] w K:=
 okC false (.s (.r (rz 1 0 0)) (.s (.r (rz 1 0 0)) (.j [3] (.s (.r (rz 1 0 0)) (.b (.s (.b (.j [3] (.b (.s (.b (.s (.s (.s (.r (rz 2 0 0)) (.c (.n) (.n))) (.s (.s (.r (rz 2 0 0)) (.c (.n) (.n))) (.s (.r (rz 2 0 0)) (.c (.n) (.n))))) (.n))) (.r (rz 3 0 0)))) (.r (rz 3 0 0)))) (.n)))) (.s (.r (rz 2 0 0)) (.n))))) func96 rfl (by kernel_rfl) (by kernel_rfl) h
end
end Go.Proofs.Tryz
namespace Go.Proofs
open Go.Sh
section
variable {i cap n:Nat} {l:List Int} {u:UnD} {w:World} {c x y:Int} {K:Value→World→Prop} {t:TyD} {p q:Option Addr} {g:GrD} {r:Gh} {M:List Asr}
theorem Vj{f:Int→Bool}{fv:Value}(hf:∀(x:Int)(K:Value→World→Prop),K (.bool (f x)) w→zy Tryz.prog fv #[.int .i64 x] w K){p:Option Addr}{l:List Int}{cap:Nat}
  (hl:Sl w p (ints l)) (hb:l.length≤1000000000) (h:∀i:Int,(0≤i↔l.any f=true)→K (.int .i64 i) w):zc Tryz.prog Tryz.yp #[.slice p l.length cap,fv] w K:=by
 refine Tryz.xW ?_
 unfold Tryz.y7
 refine gP_ ?_
 refine zk (ι:=Nat) (λi=>[.int .i64 i]) (λi w'=>w'=w∧i≤l.length∧(l.take i).any f=false) (λi=>l.length-i) 0 rfl ⟨rfl,gzl _,by simp⟩ ?_
 rintro i d w' ⟨rfl,hi,hn⟩ K6 hK6
 simp only[gdz]
 refine gP_ ?_
 refine zj (λhlt=>?_) (λhge=>?_)
 ·have hlt:i<l.length:=by omega
  obtain⟨b,off,rfl,hc⟩:=hl.at (i:=i) (by rw[ym];exact hlt)
  refine gP_ ?_
  have hv:(ints l)[i]'(by rw[ym];exact hlt)=.int .i64 l[i]:=by simp[ints]
  rw[hv]at hc
  refine zf (by simpa using hc) ?_
  refine hf _ _ ?_
  have ht:(l.take (i+1)).any f=((l.take i).any f||f l[i]):=by
   rw[List.take_succ_eq_append_getElem hlt,List.any_append];simp only[List.any_cons,List.any_nil,Bool.or_false]
  refine c_b (λhy=>?_) (λhno=>?_)
  ·refine h _ ⟨λ_=>?_,λ_=>Int.natCast_nonneg _⟩
   exact List.any_eq_true.2 ⟨l[i],gem hlt,hy⟩
  ·refine gP_ ?_
   refine hK6 (i+1) _ ⟨rfl,hlt,?_⟩ (by omega)
   rw[ht,hn,hno];rfl
 ·have :i=l.length:=by omega
  subst this
  rw[List.take_length]at hn
  exact h _ ⟨λh=>by omega,λh=>by rw[hn]at h;cases h⟩
theorem Ql{f:Int→Bool}{fv:Value}(hf:∀(x:Int)(K:Value→World→Prop),K (.bool (f x)) w→zy Tryz.prog fv #[.int .i64 x] w K){p:Option Addr}{l:List Int}{cap:Nat}
  (hl:Sl w p (ints l)) (hb:l.length≤1000000000) (h:K (.bool (l.any f)) w):zc Tryz.prog Tryz.zU #[.slice p l.length cap,fv] w K:=by
 refine Tryz.xC ?_
 unfold Tryz.yH
 refine Vj hf hl hb λi hi=>?_
 refine gP_ ?_
 have e:decide (i≥0)=l.any f:=by
  by_cases hh:l.any f=true
  ·rw[hh];exact gde (hi.2 hh)
  ·rw[Bool.eq_false_iff.2 hh];exact decide_eq_false λh=>hh (hi.1 h)
 rw[e];exact h
abbrev ajZ:Value:=.agg #[.int .u8 0,.bool false,.int .i64 0,.int .i64 0,.slice none 0 0]
abbrev XJ:List Value:=[.int .u8 0,.bool false,.int .i64 0,.int .i64 0,.slice none 0 0]
theorem ake{a:Bool}(h:false = !a):a=true:=by cases a;cases h;rfl
theorem ajb{a:Bool}(h:true = !a):a=false:=by cases a;rfl;cases h
theorem ahR(t:TyD)(l:List Int):(t.lay l).k=t.k∧(t.lay l).m=t.m∧(t.lay l).st=t.st:=by
 cases t with|mk k m re st of=>exact ⟨rfl,rfl,rfl⟩
theorem aeX(h:t.of=[]):(t.lay l).of=[]:=by rw[Jk h];rfl
theorem aac{u:TyD}(h:t.of=[u]):(t.lay l).of=[u.lay (if t.k=4 then l.tail else l)]:=by rw[j3 h];rfl
theorem aie{s:Int}(h:zA s (n+1) t=true)(h4:t.k=4): -1≤t.re:=by
 rw[yR,if_neg (by omega),if_neg (by omega),if_neg (by omega),if_pos h4]at h
 simp only[gba,gdt]at h
 exact h.1.1
theorem agZ{s:Int}:∀(n:Nat){t:TyD}{l:List Int},zA s n t=true→t.regs.length≤l.length→(∀x∈l,-1≤x)→zA s n (t.lay l)=true:=by
 intro n
 induction n with
 |zero=>intro t l h;cases h
 |succ n ih=>
  intro t l h hl hx
  obtain⟨hk1,hk2,hk3⟩:=ahR t l
  rcases zQ h with⟨ho,hk⟩|⟨u,ho,hu,hk⟩
  ·have e:t.lay l=t:=by
    have he:t=.mk t.k t.m t.re t.st t.of:=by cases t;rfl
    rw[Jk ho,if_neg (by omega)]
    rw[ho]at he;exact he.symm
   rw[e];exact h
  ·have hreg:=congrArg List.length (acY ho)
   rw[gla]at hreg
   have hin:zA s n (u.lay (if t.k=4 then l.tail else l))=true:=ih hu (by
    split
    ·rename_i h4
     rw[if_pos h4]at hreg
     rw[List.length_tail];simp at hreg;omega
    ·omega) (λx hxm=>hx x (by
     split at hxm
     ·exact List.mem_of_mem_tail hxm
     ·exact hxm))
   rw[yR]at h⊢
   rw[hk1,hk2,hk3]
   rw[aac ho]at *
   rw[if_neg (by omega),if_neg (by omega)]at h⊢
   rcases hk with h3|h4
   ·rw[if_pos h3]at h⊢
    have hre:(t.lay l).re=t.re:=by rw[j3 ho];simp only[TyD.re];rw[if_neg (by omega)]
    have hib:inB s n (t.lay l)=true:=by rw[j3 ho];exact hin
    rw[hre,hib]
    simp only[gba,gdt,gls]at h⊢
    exact⟨h.1,trivial,trivial⟩
   ·rw[if_neg (by omega),if_pos h4]at h⊢
    have hpos:0<l.length:=by rw[if_pos h4]at hreg;simp at hreg;omega
    have hre:(t.lay l).re=l.headD 0:=by rw[j3 ho];simp only[TyD.re];rw[if_pos h4]
    have hib:inB s n (t.lay l)=true:=by rw[j3 ho];exact hin
    rw[hre,hib]
    simp only[gba,gdt,gls]at h⊢
    refine⟨⟨?_,h.1.2⟩,trivial,trivial⟩
    cases l with
    |nil=>simp at hpos
    |cons x l=>exact hx x List.mem_cons_self
theorem afT(h:i<l.length):yw (l.take (i+1))=yw (l.take i)+(if l[i]<0 then 1 else 0):=by
 induction l generalizing i with
 |nil=>cases h
 |cons a l ih=>
  cases i with
  |zero=>simp [yw]
  |succ i=>
   rw[List.take_succ_cons,List.take_succ_cons,yw,yw,ih (by simpa using h),List.getElem_cons_succ];omega
theorem aaZ(h:i<l.length):(xp l c)[i]'(by rw[jf];exact h)=if l[i]<0 then c+yw (l.take i)else l[i]:=by
 induction l generalizing i c with
 |nil=>cases h
 |cons a l ih=>
  cases i with
  |zero=>
   by_cases ha:a<0
   ·simp[xp,ha,yw]
   ·simp[xp,ha]
  |succ i=>
   have hi:i<l.length:=by simpa using h
   by_cases ha:a<0
   ·have:=ih (c:=c+1) hi
    simp only[xp,if_pos ha,List.getElem_cons_succ,List.take_succ_cons,yw]
    rw[this];split<;>omega
   ·have:=ih (c:=c) hi
    simp only[xp,if_neg ha,List.getElem_cons_succ,List.take_succ_cons,yw]
    rw[this];split<;>omega
theorem ZZ:∀l:List TyD,0≤zY l
 |[]=>Int.le_refl _
 |t::l=>by have:=ZZ l;have:=(ZA (zz t)).1;rw[zY];omega
theorem afU{l:List TyD}(h:i<l.length):zY (l.take (i+1))=zY (l.take i)+yw (zz l[i]):=by
 induction l generalizing i with
 |nil=>cases h
 |cons a l ih=>
  cases i with
  |zero=>simp [zY]
  |succ i=>rw [List.take_succ_cons,List.take_succ_cons,zY,zY,ih (by simpa using h),List.getElem_cons_succ];omega
theorem aeo{l:List TyD}(h:i<l.length):(kK l c)[i]'(by rw[jg];exact h)=l[i].lay (xp (zz l[i]) (c+zY (l.take i))):=by
 induction l generalizing i c with
 |nil=>cases h
 |cons a l ih=>
  cases i with
  |zero=>simp [kK,zY]
  |succ i=>
   have:=ih (c:=c+yw (zz a)) (i:=i) (by simpa using h)
   simp only[kK,List.getElem_cons_succ,List.take_succ_cons,zY]
   rw[this,Int.add_assoc]
theorem afV{l:List TyD}(h:i<l.length):kK (l.take (i+1)) c=kK (l.take i) c++[l[i].lay (xp (zz l[i]) (c+zY (l.take i)))]:=by
 induction l generalizing i c with
 |nil=>cases h
 |cons a l ih=>
  cases i with
  |zero=>simp [kK,zY]
  |succ i=>
   have:=ih (c:=c+yw (zz a)) (i:=i) (by simpa using h)
   rw[List.take_succ_cons,List.take_succ_cons,kK,kK,this,zY,List.getElem_cons_succ,Int.add_assoc];rfl
theorem adb{l:List PtD}(h:i<l.length):atC u (l.take (i+1))=atC u (l.take i)+ptN u l[i]:=by
 induction l generalizing i with
 |nil=>cases h
 |cons a l ih=>
  cases i with
  |zero=>simp [atC]
  |succ i=>rw [List.take_succ_cons,List.take_succ_cons,atC,atC,ih (by simpa using h),List.getElem_cons_succ];omega
theorem ag0{l:List PtD}(h:i<l.length):atK u (l.take (i+1)) c=atK u (l.take i) c++[if ptN u l[i]=0 then -1 else c+atC u (l.take i)]:=by
 induction l generalizing i c with
 |nil=>cases h
 |cons a l ih=>
  cases i with
  |zero=>simp [atK,atC]
  |succ i=>
   have:=ih (c:=c+ptN u a) (i:=i) (by simpa using h)
   rw[List.take_succ_cons,List.take_succ_cons,atK,atK,this,atC,List.getElem_cons_succ,Int.add_assoc];rfl
theorem ajc{l:List PtD}(h:i<l.length):(atK u l c)[i]'(by rw[Jm];exact h)=if ptN u l[i]=0 then -1 else c+atC u (l.take i):=by
 induction l generalizing i c with
 |nil=>cases h
 |cons a l ih=>
  cases i with
  |zero=>simp [atK,atC]
  |succ i=>
   have:=ih (c:=c+ptN u a) (i:=i) (by simpa using h)
   simp only[atK,List.getElem_cons_succ,List.take_succ_cons,atC]
   rw[this,Int.add_assoc]
theorem Vk{l:List PtD}(h:∀p∈l,0≤ptN u p)(i:Nat):0≤atC u (l.take i)∧atC u (l.take i)≤atC u l:=by
 induction l generalizing i with
 |nil=>simp [atC]
 |cons a l ih=>
  have ha:=h a List.mem_cons_self
  cases i with
  |zero=>
   have:=ih (λp hp=>h p (List.mem_cons_of_mem _ hp)) l.length
   rw[List.take_length]at this
   rw[List.take_zero,atC,atC];omega
  |succ i=>
   have:=ih (λp hp=>h p (List.mem_cons_of_mem _ hp)) i
   rw[List.take_succ_cons,atC,atC];omega
def yy(f:Nat→Nat→Bool):List Value:=(List.range 64).map λk=>.bool (f (k/8) (k%8))
theorem Z0{f:Nat→Nat→Bool}:(yy f).length=64:=by rw[yy,List.length_map,List.length_range]
theorem aa0{f:Nat→Nat→Bool}{k:Nat}(h:k<64):(yy f)[k]? = some (.bool (f (k/8) (k%8))):=by
 rw[yy,List.getElem?_map,List.getElem?_range h];rfl
theorem ag1{f:Nat→Nat→Bool}{x y:Nat}(hx:x<8)(hy:y<8):(yy f)[x*8+y]? = some (.bool (f x y)):=by
 rw[aa0 (by omega),show (x*8+y)/8=x by omega,show (x*8+y)%8=y by omega]
theorem kj{f g:Nat→Nat→Bool}(h:∀x y,x<8→y<8→f x y=g x y):yy f=yy g:=by
 refine List.map_congr_left λk hk=>?_
 have:=List.mem_range.1 hk
 rw[h _ _ (by omega) (by omega)]
theorem adc{f:Nat→Nat→Bool}{x y:Nat}(hx:x<8)(hy:y<8):(yy f).set (x*8+y) (.bool true)=yy λa b=>f a b||(decide (a=x)&&decide (b=y)):=by
 refine List.ext_getElem? λk=>?_
 by_cases hk:k<64
 ·rw[List.getElem?_set,aa0 hk,aa0 hk]
  by_cases e:x*8+y=k
  ·rw[if_pos e,if_pos (by rw[Z0];omega)]
   subst e
   rw[show (x*8+y)/8=x by omega,show (x*8+y)%8=y by omega];simp
  ·rw[if_neg e]
   by_cases e1:k/8=x
   ·rw[decide_eq_false (show¬k%8=y by omega),Bool.and_false,Bool.or_false]
   ·rw[decide_eq_false e1,Bool.false_and,Bool.or_false]
 ·rw[List.getElem?_eq_none (by rw[List.length_set,Z0];omega),List.getElem?_eq_none (by rw[Z0];omega)]
theorem afW{a:Int}:jK x y (a::l)=((decide (a=y)&&l.contains x)||jK x y l):=rfl
theorem ag2(h:i<l.length):(l.take (i+1)).contains x=((l.take i).contains x||decide (x=l[i])):=by
 rw[List.take_succ_eq_append_getElem h,List.contains_eq_any_beq,List.any_append,← List.contains_eq_any_beq]
 simp only[List.any_cons,List.any_nil,Bool.or_false]
 congr 1
theorem afX{l:List TyD}(h:i<l.length):jL (l.take (i+1)) x y=(jL (l.take i) x y||jK x y (zz l[i])):=by
 rw[List.take_succ_eq_append_getElem h,jL,List.any_append,jL]
 simp only[List.any_cons,List.any_nil,Bool.or_false]
theorem afY{l:List (Int×Int)}(h:i<l.length):vr (l.take (i+1)) x y=(vr (l.take i) x y||(decide (x=l[i].1)&&decide (y=l[i].2))):=by
 rw[vr,List.take_succ_eq_append_getElem h,List.contains_eq_any_beq,List.any_append,← List.contains_eq_any_beq,← vr]
 simp only[List.any_cons,List.any_nil,Bool.or_false]
 congr 1
def j5(lv:Int):Option (Int×Int)→List (Int×Int)→Bool
 |_,[]=>true
 |w,o::l=>(kP lv o&&(match w with|none=>true|some w=>vu w o))&&j5 lv (some o) l
theorem abD(lv:Int):∀(l:List (Int×Int))(w:Int×Int),j5 lv (some w) l=(l.all (kP lv)&&V4 (w::l))
 |[],w=>rfl
 |o::l,w=>by
  rw[j5,abD lv l o,List.all_cons,V4]
  cases kP lv o<;>cases vu w o<;>cases l.all (kP lv)<;>simp
theorem afZ(lv:Int)(l:List (Int×Int)):j5 lv none l=(l.all (kP lv)&&V4 l):=by
 cases l with
 |nil=>rfl
 |cons o l=>
  rw[j5,abD lv l o,List.all_cons]
  cases kP lv o<;>cases l.all (kP lv)<;>simp
theorem aif{lv:Int}{w:Option (Int×Int)}{l:List (Int×Int)}(h:i<l.length):j5 lv w (l.drop i)=((kP lv l[i]&&(match w with|none=>true|some w=>vu w l[i]))&&j5 lv (some l[i]) (l.drop (i+1))):=by
 rw[List.drop_eq_getElem_cons h];rfl
theorem not_lt{o w:Int×Int}:(decide (o.1<w.1)||(decide (w.1=o.1)&&decide (o.2≤w.2))) = !vu w o:=by
 unfold vu
 rcases Int.lt_trichotomy o.1 w.1 with h|h|h
 ·rw[gde h,decide_eq_false (show¬w.1<o.1 by omega),decide_eq_false (show¬w.1=o.1 by omega)];rfl
 ·rw[decide_eq_false (show¬o.1<w.1 by omega),decide_eq_false (show¬w.1<o.1 by omega),gde (show w.1=o.1 by omega)]
  by_cases h2:o.2≤w.2
  ·rw[gde h2,decide_eq_false (show¬w.2<o.2 by omega)];rfl
  ·rw[decide_eq_false h2,gde (show w.2<o.2 by omega)];rfl
 ·rw[decide_eq_false (show¬o.1<w.1 by omega),gde (show w.1<o.1 by omega),decide_eq_false (show¬w.1=o.1 by omega)];rfl
theorem aeY(h:i<n):(List.range n).drop i=i::(List.range n).drop (i+1):=by
 rw[List.drop_eq_getElem_cons (by rwa[List.length_range]),List.getElem_range]
theorem QN{f:Nat→Bool}(h:i<n):((List.range n).drop i).all f=(f i&&((List.range n).drop (i+1)).all f):=by rw[aeY h,List.all_cons]
theorem QO{f:Nat→Bool}:((List.range n).drop n).all f=true:=by rw[List.drop_of_length_le (by rw[List.length_range];exact Nat.le_refl _)];rfl
theorem abE{l:List TyD}:j4 u g i (t::l)=(tyG u g i t&&j4 u g (i+1) l):=rfl
theorem af0{j:Nat}{l:List TyD}(h:i<l.length):j4 u g j (l.drop i)=(tyG u g j l[i]&&j4 u g (j+1) (l.drop (i+1))):=by rw[List.drop_eq_getElem_cons h];rfl
theorem ade{u:UnD}{g:GrD}:∀{l:List TyD}{i:Nat},j4 u g i l=true→∀t∈l,mayB u.ss t=true
 |[],i,_,t,ht=>by cases ht
 |x::l,i,h,t,ht=>by
  rw[abE,gba]at h
  rcases List.mem_cons.1 ht with rfl|ht
  ·have:=h.1
   rw[tyG,gba]at this
   exact this.1
  ·exact ade h.2 t ht
theorem adf{u:UnD}{g:GrD}:∀{l:List TyD}{i:Nat},j4 u g i l=true→∀{j:Nat}(hj:j<l.length),((i+j:Nat):Int)≤g.pn→∀x∈zz l[j],0≤x∧x<g.lv
 |[],i,_,j,hj,_=>absurd hj (Nat.not_lt_zero _)
 |y::l,i,h,j,hj,hle=>by
  rw[abE,gba]at h
  cases j with
  |zero=>
   have:=h.1
   rw[tyG,gba,List.all_eq_true]at this
   intro x hx
   have:=this.2 x hx
   rw[if_pos (by omega)]at this
   simp only[Bool.not_eq_true',Bool.or_eq_false_iff,decide_eq_false_iff_not]at this
   omega
  |succ j=>exact adf h.2 (j:=j) (by simpa using hj) (by omega)
theorem aad{l:List PtD}(h:i<l.length):xb (l.take (i+1))=xb (l.take i)+(if l[i].op=4 then 1 else 0):=by
 rw[List.take_succ_eq_append_getElem h,xb,List.countP_append,xb]
 congr 1
 rw[List.countP_singleton]
 by_cases e:l[i].op=4<;>simp [e]
theorem Sl.tail{a:Int}(h:Sl w p (ints (a::l)))(hc:(a::l).length≤cap):Sl w (if cap=(1:Int).toNat then p else p.map (·.add ((1:Int).toNat*1))) (ints l):=λi v hv=>by
 have h1:=h (i+1) v (by simpa [ints]using hv)
 have hi:i<l.length:=by
  have:=(List.getElem?_eq_some_iff.1 hv).1
  rwa[ym]at this
 obtain⟨b,off,hp,hcell⟩:=h1
 rw[List.length_cons]at hc
 rw[if_neg (show¬cap=(1:Int).toNat by have :(1:Int).toNat=1:=rfl;omega),hp,Option.map_some,xZ]
 exact⟨b,off+1,rfl,by rwa[show off+1+i=off+(i+1)by omega]⟩
abbrev fvI(b3 b4:Nat):Value:=.func (.func Tryz.Zf) #[] #[.pointer (some ⟨b3,0,none⟩),.pointer (some ⟨b4,0,none⟩)]
abbrev aeZ(f:Nat→Nat→Bool)(l:List Int):Nat→Nat→Bool:=λx y=>f x y||jK x y l
abbrev aa1(f:Nat→Nat→Bool)(a:Int)(l:List Int):Nat→Nat→Bool:=λx y=>f x y||(decide (a=(y:Int))&&l.contains (x:Int))
theorem adV{b3 b4 bt:Nat}{M:List Asr}{w0:World}:∀(l:List Int){p:Option Addr}{cap:Nat}{f:Nat→Nat→Bool}{w:World}{K:Value→World→Prop},(∀x∈l,0≤x∧x<8)→(Ob r λw=>Sl w p (ints l))→l.length≤cap→l.length≤1000→
  StX noX w0 r w (.cell b4 [fvI b3 b4] 143::.cell b3 [.pointer (some ⟨bt,0,none⟩)] 298::.cell bt (yy f) 296::M)→
  (∀w',StX noX w0 r w' (.cell b4 [fvI b3 b4] 143::.cell b3 [.pointer (some ⟨bt,0,none⟩)] 298::.cell bt (yy (aeZ f l)) 296::M)→K (.tuple #[]) w')→
  zy Tryz.prog (fvI b3 b4) #[.slice p l.length cap] w K:=by
 intro l
 induction l with
 |nil=>
  intro p cap f w K hx hl hc hb S h
  refine V1 (by kernel_rfl) ?_
  refine Tryz.vJ ?_
  unfold Tryz.qM
  refine gP_ ?_
  refine gP_ ?_
  refine c_t (by simp) ?_
  refine h _ ?_
  rw[kj (g:=f) (λx y _ _=>by show(f x y||jK x y [])=f x y;rw[jK,Bool.or_false])]
  exact S
 |cons a l ih=>
  intro p cap f w K hx hl hc hb S h
  refine V1 (by kernel_rfl) ?_
  refine Tryz.vJ ?_
  unfold Tryz.qM
  obtain⟨ha0,ha8⟩:=hx a List.mem_cons_self
  have hxl:∀x∈l,0≤x∧x<8:=λx h=>hx x (List.mem_cons_of_mem _ h)
  have hal:(a::l).length=l.length+1:=List.length_cons
  have hll:l.length≤1000:=by rw[List.length_cons]at hb;omega
  have hlc:l.length+1≤cap:=by rwa[List.length_cons]at hc
  have hsl:Ob r λw=>Sl w (if cap=(1:Int).toNat then p else p.map (·.add ((1:Int).toNat*1))) (ints l):=λw k=>Sl.tail (hl w k) hc
  have hlen:(a::l).length-(1:Int).toNat=l.length:=by simp
  obtain⟨bp,op,rfl,hcell⟩:=Y6 (S.at hl) (i:=0) (by simp)
  refine gP_ ?_
  refine gP_ ?_
  refine c_f (by rw[List.length_cons];exact decide_eq_false (by omega)) ?_
  refine gP_ ?_
  rw[hlen]
  refine gP_ ?_
  obtain⟨p2,hp2⟩:∃p2,(if cap=(1:Int).toNat then(some ⟨bp,op,none⟩:Option Addr)else(some ⟨bp,op,none⟩:Option Addr).map (·.add ((1:Int).toNat*1)))=p2:=⟨_,rfl⟩
  rw[hp2]at hsl⊢
  refine zk (ι:=Nat) (λi=>[.int .i64 (i:Nat)]) (λi w'=>i≤l.length∧StX noX w0 r w' (.cell b4 [fvI b3 b4] 143::.cell b3 [.pointer (some ⟨bt,0,none⟩)] 298::.cell bt (yy (aa1 f a (l.take i))) 296::M)) (λi=>l.length-i) 0 rfl
   ⟨gzl _,by
    rw[kj (f:=aa1 f a (l.take 0)) (g:=f) (λx y _ _=>by simp[aa1])]
    exact S⟩ ?_
  clear S
  rintro i d w1 ⟨hi,S⟩ K6 hK6
  rw[gdz]
  refine gP_ ?_
  refine zj (λhlt=>?_) (λhge=>?_)
  ·have hlt:i<l.length:=by omega
   obtain⟨bq,oq,rfl,hcell2⟩:=Y6 (S.at hsl) hlt
   obtain⟨hi0,hi8⟩:=hxl _ (gem hlt)
   have S:=S.go (Ext.drew _)
   refine gP_ ?_
   refine zf (v:=.int .i64 l[i]) (by simpa using hcell2) ?_
   refine S.ld (b:=b3) ?_ rfl
   refine gP_ ?_
   have hc0:=(S.at hl 0 (.int .i64 a) (by simp[ints]))
   refine zf (v:=.int .i64 a) (by obtain⟨b',o',h1,h2⟩:=hc0;cases h1;simpa using h2) ?_
   refine gG_ ?_
   refine S.st (b:=bt) (λw2 S=>?_) (by rw[Z0];omega)
   refine gP_ ?_
   rw[show ((i:Int)+1)=((i+1:Nat):Int)by omega]
   refine hK6 (i+1) _ ⟨hlt,?_⟩ (by omega)
   rw[show 0+l[i].toNat*8+a.toNat*1=l[i].toNat*8+a.toNat by omega,adc (by omega) (by omega)]at S
   rw[kj (f:=aa1 f a (l.take (i+1))) (g:=λx y=>aa1 f a (l.take i) x y||(decide (x=l[i].toNat)&&decide (y=a.toNat))) (λx y _ _=>by
    show(f x y||(decide (a=(y:Int))&&(l.take (i+1)).contains (x:Int)))=((f x y||(decide (a=(y:Int))&&(l.take i).contains (x:Int)))||(decide (x=l[i].toNat)&&decide (y=a.toNat)))
    rw[ag2 hlt,show decide ((x:Int)=l[i])=decide (x=l[i].toNat)from decide_eq_decide.2 (by omega),show decide (a=(y:Int))=decide (y=a.toNat)from decide_eq_decide.2 (by omega)]
    cases f x y<;>cases decide (y=a.toNat)<;>cases (l.take i).contains (x:Int)<;>cases decide (x=l[i].toNat)<;>rfl)]
   exact S
  ·have hie:i=l.length:=by omega
   rw[hie,List.take_length]at S
   have S:=S.go (Ext.drew _)
   refine S.ld (b:=b4) ?_ rfl
   refine gP_ ?_
   rw[hlen,hp2]
   refine ih hxl hsl (by show l.length≤cap-(1:Int).toNat;have :(1:Int).toNat=1:=rfl;omega) hll S λw2 S=>?_
   refine h _ ?_
   rw[kj (f:=aeZ f (a::l)) (g:=aeZ (aa1 f a l) l) (λx y _ _=>by
    show(f x y||jK x y (a::l))=((f x y||(decide (a=(y:Int))&&l.contains (x:Int)))||jK x y l)
    rw[afW,Bool.or_assoc])]
   exact S
abbrev Vl(f:Nat→Nat→Bool)(l:List TyD):Nat→Nat→Bool:=λx y=>f x y||jL l x y
theorem aae{bt:Nat}{M:List Asr}{w0:World}{l:List TyD}{cap:Nat}{f:Nat→Nat→Bool}{w:World}{K:Value→World→Prop}(hl:TysG r q l)(hn:l.length≤maxLen)(hx:∀t∈l,∀x∈zz t,0≤x∧x<8)
  (S:StX noX w0 r w (.cell bt (yy f) 296::M))
  (h:∀w',StX noX w0 r w' (.cell bt (yy (Vl f l)) 296::M)→K (.tuple #[]) w'):zc Tryz.prog Tryz.jE #[.slice q l.length cap,.pointer (some ⟨bt,0,none⟩)] w K:=by
 refine Tryz.J6 ?_
 unfold Tryz.Yj
 have hn':l.length≤9223372036854775807:=hn
 refine S.box λb3 w1 S=>?_
 refine S.al λb4 w2 S=>?_
 refine gP_ ?_
 refine S.st (b:=b4) λw3 S=>?_
 refine gP_ ?_
 refine zk (ι:=Nat) (λi=>[.int .i64 (i:Nat)]) (λi w'=>i≤l.length∧StX noX w0 r w' (.cell b4 [fvI b3 b4] 143::.cell b3 [.pointer (some ⟨bt,0,none⟩)] 298::.cell bt (yy (Vl f (l.take i))) 296::M)) (λi=>l.length-i) 0 rfl
  ⟨gzl _,by
   rw[kj (f:=Vl f (l.take 0)) (g:=f) (λx y _ _=>by simp[Vl,jL])]
   exact S⟩ ?_
 clear S
 rintro i d w4 ⟨hi,S⟩ K6 hK6
 rw[gdz]
 refine gP_ ?_
 refine zj (λhlt=>?_) (λhge=>?_)
 ·have hlt:i<l.length:=by omega
  obtain⟨b1,o1,c1,rfl,hc1,htc,hto⟩:=hl i hlt
  obtain⟨q2,cap2,rfl,ht2⟩:=xh hto
  refine gP_ ?_
  refine zq (n:=5) hc1 (λj v hj=>by rw[tnc];exact S.at (htc j v hj)) ?_
  refine S.al λb6 w5 S=>?_
  refine S.stB (b:=b6) λw6 S=>?_
  have S:=S.go (Ext.drew _)
  refine S.ld (b:=b4) ?_ rfl
  refine S.ldB (b:=b6) ?_ rfl
  refine xD S.holds ht2 λv7 w7 e7 o7=>⟨e7,?_⟩
  obtain⟨s1,p1,cap1,n1,nb1,rfl,_,hc1,hs1⟩:=ai2 o7
  have S:=S.new e7 n1
  have S:=S.drop b6
  have hr48:(zz l[i]).length≤1000:=by
   rw[zz];split
   ·have:=vK (by assumption);omega
   ·simp
  refine adV (zz l[i]) (λx h=>hx _ (gem hlt) x h) hs1.up hc1 hr48 S λw8 S=>?_
  refine gP_ ?_
  rw[show ((i:Int)+1)=((i+1:Nat):Int)by omega]
  refine hK6 (i+1) _ ⟨hlt,?_⟩ (by omega)
  have S:=S.to r
  rw[kj (f:=Vl f (l.take (i+1))) (g:=aeZ (Vl f (l.take i)) (zz l[i])) (λx y _ _=>by
   show(f x y||jL (l.take (i+1)) x y)=((f x y||jL (l.take i) x y)||jK x y (zz l[i]))
   rw[afX hlt,Bool.or_assoc])]
  exact S
 ·have hie:i=l.length:=by omega
  rw[hie,List.take_length]at S
  exact h _ S.tl.tl
theorem TysG.take{s:Gh}{ts:List TyD}(h:TysG s q ts)(n:Nat):TysG s q (ts.take n):=λi hi=>by
 rw[List.length_take]at hi
 obtain⟨b,off,c,h1,h2,h3,h4⟩:=h i (by omega)
 refine⟨b,off,c,h1,h2,h3,?_⟩
 rw[List.getElem_take];exact h4
theorem QP{f:Nat→Nat→Bool}{a b:Nat}(ha:a<8)(hb:b<8):(yy f)[0+((a:Nat):Int).toNat*8+((b:Nat):Int).toNat*1]? = some (.bool (f a b)):=by
 rw[show 0+((a:Nat):Int).toNat*8+((b:Nat):Int).toNat*1=a*8+b by omega]
 exact ag1 ha hb
abbrev syF(l:List (Int×Int)):Nat→Nat→Bool:=λx y=>vr l (x:Int) (y:Int)
abbrev muF(l:List TyD):Nat→Nat→Bool:=λx y=>jL l (x:Int) (y:Int)
def clH(sy:Nat→Nat→Bool)(a b c:Nat):Bool:=!((sy a b&&sy b c)&&(!decide (a=c) && !sy a c))
def clG(n:Nat)(mu sy:Nat→Nat→Bool)(a b:Nat):Bool:=(List.range n).all (clH sy a b) && !(!decide (a=b)&&(mu a b && !sy a b))
def clF(n:Nat)(mu sy:Nat→Nat→Bool)(a:Nat):Bool:=(List.range n).all (clG n mu sy a)
theorem aig(n:Nat)(l:List TyD)(o:List (Int×Int)):aeW n (jL l) (vr o)=(List.range n).all (clF n (muF l) (syF o)):=by
 unfold aeW clF clG clH;simp only[decide_not,Int.natCast_inj]
def vv(l:List (Int×Int))(i:Nat):Option (Int×Int):=if i=0 then none else l[i-1]?
def ag3(w:Option (Int×Int))(o:Int×Int):Bool:=match w with|none=>true|some w=>vu w o
theorem ag4{lv:Int}{l:List (Int×Int)}(h:i<l.length):j5 lv (vv l i) (l.drop i)=((kP lv l[i]&&ag3 (vv l i) l[i])&&j5 lv (vv l (i+1)) (l.drop (i+1))):=by
 rw[aif h,vv,vv,if_neg (Nat.succ_ne_zero i),Nat.add_sub_cancel,gqg h];rfl
theorem Vm{c:List Value}{K:Value→World→Prop}(hr:Holds r w)(hg:GrG r c g)(hlv0:0≤g.lv)(hlv8:g.lv≤8)(hpn0:0≤g.pn)(hpn1:g.pn<g.tys.length)
  (hx:∀t∈g.tys.take (g.pn.toNat+1),∀x∈zz t,0≤x∧x<8) (h:∀w',Ext w w'→K (.bool (XF g)) w'):zc Tryz.prog Tryz.je #[.agg c.toArray] w K:=by
 obtain⟨vo,vt,vn,vp,rfl,h1,h2,h3,h4⟩:=hg
 obtain⟨qo,capo,rfl,_,_⟩:=h1.sl.shape
 obtain⟨qt,capt,rfl,_,hct⟩:=h2.sl.shape
 obtain⟨qn,capn,rfl,_,_⟩:=h3.sl.shape
 obtain⟨qp,capp,rfl,_,_⟩:=h4.sl.shape
 have hol:g.outs.length≤9223372036854775807:=h1.few
 have htl:g.tys.length≤9223372036854775807:=h2.few
 refine Tryz.Jp ?_
 unfold Tryz.ZQ
 have S:=St.start hr
 refine S.box λb1 w1 S=>?_
 refine S.al λb3 w2 S=>?_
 refine S.al λb4 w3 S=>?_
 have S:StX noX w r w3 (.cell b3 (yy λ_ _=>false) 296::[.cell b4 (yy λ_ _=>false) 296,.cell b1 [.string g.name,.int .i64 g.lv,.slice qo g.outs.length capo,.int .i64 g.pn,.slice qt g.tys.length capt,.slice qn g.nms.length capn,.slice qp g.pts.length capp] 101]):=S.swap
 refine gG_ ?_
 rw[show (g.pn+1).toNat=(g.tys.take (g.pn.toNat+1)).length by rw[List.length_take];omega]
 refine aae (l:=g.tys.take (g.pn.toNat+1)) ((ZB h2.sl).take _) (by rw[List.length_take];have:=h2.few;omega) hx S λw4 S=>?_
 have S:StX noX w r w4 ([.cell b3 (yy (muF (g.tys.take (g.pn.toNat+1)))) 296,.cell b4 (yy λ_ _=>false) 296,.cell b1 [.string g.name,.int .i64 g.lv,.slice qo g.outs.length capo,.int .i64 g.pn,.slice qt g.tys.length capt,.slice qn g.nms.length capn,.slice qp g.pts.length capp] 101]):=by
  rw[kj (f:=muF (g.tys.take (g.pn.toNat+1))) (g:=Vl (λ_ _=>false) (g.tys.take (g.pn.toNat+1))) (λx y _ _=>(Bool.false_or _).symm)]
  exact S
 rw[XF,← afZ,aig]at h
 generalize hmu:muF (g.tys.take (g.pn.toNat+1))=mu at h S
 refine gG_ ?_
 refine zk (ι:=Nat) (λi=>[.int .i64 (i:Nat)]) (λi w'=>i≤g.outs.length∧j5 g.lv (vv g.outs i) (g.outs.drop i)=j5 g.lv none g.outs∧
  StX noX w r w' ([.cell b3 (yy mu) 296,.cell b4 (yy (syF (g.outs.take i))) 296,.cell b1 [.string g.name,.int .i64 g.lv,.slice qo g.outs.length capo,.int .i64 g.pn,.slice qt g.tys.length capt,.slice qn g.nms.length capn,.slice qp g.pts.length capp] 101])) (λi=>g.outs.length-i) 0 rfl
  ⟨gzl _,rfl,by
   rw[kj (f:=syF (g.outs.take 0)) (g:=λ_ _=>false) (λx y _ _=>by simp[syF,vr])]
   exact S⟩ ?_
 clear S
 rintro i d w5 ⟨hi,hd,S⟩ K6 hK6
 rw[gdz]
 refine gP_ ?_
 refine zj (λhlt=>?_) (λhge=>?_)
 ·have hlt:i<g.outs.length:=by omega
  obtain⟨bo,oo,co,rfl,hco,hoo,hoc⟩:=h1.sl.get (by decide) hlt
  obtain rfl:co=_:=hoo
  rw[ag4 hlt]at hd
  have hgo:=λ(j:Nat) (hj:j<g.outs.length)=>h1.sl.get (by decide) hj
  obtain⟨⟨o1,o2⟩,ho⟩:∃o,g.outs[i]=o:=⟨_,rfl⟩
  rw[ho]at hd
  have hst:syF (g.outs.take (i+1))=λx y=>syF (g.outs.take i) x y||(decide ((x:Int)=o1)&&decide ((y:Int)=o2)):=by
   funext x y
   show vr _ _ _=(vr _ _ _||_)
   rw[afY hlt,ho]
  refine gP_ ?_
  refine zq (n:=2) hco (λj v hj=>by rw[tnc];exact S.at (hoc j v hj)) ?_
  rw[ho]
  refine S.al λb6 w6 S=>?_
  refine S.stB (b:=b6) λw7 S=>?_
  refine gG_ ?_
  refine zn (c:=decide (g.lv≤max o1 o2)) (λ_ K2 hK2=>?_) ?_
  ·refine gG_ ?_
   exact hK2
  refine zn (c:=decide (o1=o2)) (λ_ K2 hK2=>?_) ?_
  ·refine gG_ ?_
   exact hK2
  refine c_b (λhbad=>?_) (λhgood=>?_)
  ·have hin:kP g.lv (o1,o2)=false:=by rw[kP,hbad];rfl
   rw[hin,Bool.false_and,Bool.false_and]at hd
   rw[← hd,Bool.false_and]at h
   exact h _ S.ext
  have hin:kP g.lv (o1,o2)=true:=by rw[kP,hgood];rfl
  rw[hin,Bool.true_and]at hd
  have hrg:(0≤o1∧o1<8)∧(0≤o2∧o2<8):=by
   simp only[Bool.or_eq_false_iff,decide_eq_false_iff_not]at hgood;omega
  clear hgood hin
  obtain⟨⟨ho10,ho18⟩,ho20,ho28⟩:=hrg
  refine zi (λ_ w'=>ag3 (vv g.outs i) (o1,o2)=true∧StX noX w r w' ([.cell b6 [.int .i64 o1,.int .i64 o2] 194,.cell b3 (yy mu) 296,.cell b4 (yy (syF (g.outs.take i))) 296,.cell b1 [.string g.name,.int .i64 g.lv,.slice (some ⟨bo,oo,none⟩) g.outs.length capo,.int .i64 g.pn,.slice qt g.tys.length capt,.slice qn g.nms.length capn,.slice qp g.pts.length capp] 101])) (λK9 hK9=>?_) ?_
  ·refine gP_ ?_
   refine zj (λhpos=>?_) (λhz=>?_)
   ·have hpos:0<i:=by omega
    have hlt2:i-1<g.outs.length:=by omega
    obtain⟨bo2,oo2,co2,hbe,hco2,hoo2,hoc2⟩:=h1.sl.get (by decide) hlt2
    obtain rfl:co2=_:=hoo2
    cases hbe
    have hpv:vv g.outs i=some g.outs[i-1]:=by rw[vv,if_neg (by omega),gqg hlt2]
    rw[hpv]at hd hK9
    obtain⟨⟨p1,p2⟩,hp⟩:∃o,g.outs[i-1]=o:=⟨_,rfl⟩
    rw[hp]at hd hK9
    refine gG_ ?_
    refine zq (n:=2) hco2 (λj v hj=>by rw[show ((i:Int)-1).toNat=i-1 by omega];exact S.at (hoc2 j v hj)) ?_
    rw[hp]
    refine S.al λb7 w8 S=>?_
    refine S.stB (b:=b7) λw9 S=>?_
    refine gG_ ?_
    refine aaX (g:=decide (p1=o1)) (c:=decide (o2≤p2)) (λ_ K2 hK2=>?_) (λ_ K2 hK2=>?_) ?_
    ·refine gG_ ?_
     exact hK2
    ·refine gG_ ?_
     exact hK2
    rw[not_lt (o:=(o1,o2)) (w:=(p1,p2))]
    refine c_b (λhb=>?_) (λhb=>?_)
    ·have hb:vu (p1,p2) (o1,o2)=false:=by simpa using hb
     rw[show ag3 (some (p1,p2)) (o1,o2)=vu (p1,p2) (o1,o2)from rfl,hb,Bool.false_and]at hd
     rw[← hd,Bool.false_and]at h
     exact h _ S.ext
    ·have hb:vu (p1,p2) (o1,o2)=true:=by simpa using hb
     exact hK9 _ _ ⟨hb,S.drop b7⟩
   ·have hz:i=0:=by omega
    refine hK9 _ _ ⟨?_,S⟩
    rw[hz];rfl
  clear S
  rintro _ w10 ⟨haf,S⟩ d10
  have S:=S.go (Ext.drew _)
  rw[haf,Bool.true_and]at hd
  refine gG_ ?_
  refine S.st (b:=b4) (λw11 S=>?_) (by rw[Z0];omega)
  refine gP_ ?_
  rw[show ((i:Int)+1)=((i+1:Nat):Int)by omega]
  refine hK6 (i+1) _ ⟨hlt,hd,?_⟩ (by omega)
  rw[show 0+o1.toNat*8+o2.toNat*1=o1.toNat*8+o2.toNat by omega,adc (by omega) (by omega)]at S
  rw[hst,kj (f:=λx y=>syF (g.outs.take i) x y||(decide ((x:Int)=o1)&&decide ((y:Int)=o2))) (g:=λx y=>syF (g.outs.take i) x y||(decide (x=o1.toNat)&&decide (y=o2.toNat))) (λx y _ _=>by
   show(syF (g.outs.take i) x y||(decide ((x:Int)=o1)&&decide ((y:Int)=o2)))=(syF (g.outs.take i) x y||(decide (x=o1.toNat)&&decide (y=o2.toNat)))
   rw[show decide ((x:Int)=o1)=decide (x=o1.toNat)from decide_eq_decide.2 (by omega),show decide ((y:Int)=o2)=decide (y=o2.toNat)from decide_eq_decide.2 (by omega)])]
  exact S.drop b6
 have hie:i=g.outs.length:=by omega
 rw[hie,List.take_length]at S
 rw[hie,List.drop_length]at hd
 rw[← hd,show j5 g.lv (vv g.outs g.outs.length) []=true from by rw[j5],Bool.true_and]at h
 clear hd hK6 K6 hie hge hi
 generalize hsy:syF g.outs=sy at h S
 obtain⟨n,hn⟩:∃n:Nat,g.lv.toNat=n:=⟨_,rfl⟩
 have hn8:n≤8:=by omega
 have hlvn:g.lv=(n:Int):=by omega
 rw[hn]at h
 refine gG_ ?_
 refine zk (ι:=Nat) (λi=>[.int .i64 (i:Nat)]) (λi w'=>i≤n∧((List.range n).drop i).all (clF n mu sy)=(List.range n).all (clF n mu sy)∧
  StX noX w r w' ([.cell b3 (yy mu) 296,.cell b4 (yy sy) 296,.cell b1 [.string g.name,.int .i64 g.lv,.slice qo g.outs.length capo,.int .i64 g.pn,.slice qt g.tys.length capt,.slice qn g.nms.length capn,.slice qp g.pts.length capp] 101])) (λi=>n-i) 0 rfl
  ⟨gzl _,rfl,S⟩ ?_
 clear S
 rintro a d2 w12 ⟨ha,hda,S⟩ K7 hK7
 rw[gdz,hlvn]
 refine gP_ ?_
 refine zj (λhlta=>?_) (λhgea=>?_)
 rotate_left
 ·have hae:a=n:=by omega
  rw[hae,QO]at hda
  rw[← hda]at h
  exact h _ S.ext
 have hlta:a<n:=by omega
 rw[QN hlta]at hda
 refine gG_ ?_
 refine zk (ι:=Nat) (λi=>[.int .i64 (i:Nat)]) (λi w'=>i≤n∧((List.range n).drop i).all (clG n mu sy a)=(List.range n).all (clG n mu sy a)∧
  StX noX w r w' ([.cell b3 (yy mu) 296,.cell b4 (yy sy) 296,.cell b1 [.string g.name,.int .i64 g.lv,.slice qo g.outs.length capo,.int .i64 g.pn,.slice qt g.tys.length capt,.slice qn g.nms.length capn,.slice qp g.pts.length capp] 101])) (λi=>n-i) 0 rfl
  ⟨gzl _,rfl,S⟩ ?_
 clear S
 rintro b d3 w13 ⟨hb,hdb,S⟩ K8 hK8
 rw[gdz,hlvn]
 refine gP_ ?_
 refine zj (λhltb=>?_) (λhgeb=>?_)
 rotate_left
 ·have hbe:b=n:=by omega
  rw[hbe,QO]at hdb
  have hF:clF n mu sy a=true:=hdb.symm
  rw[hF,Bool.true_and]at hda
  refine gP_ ?_
  rw[show ((a:Int)+1)=((a+1:Nat):Int)by omega]
  exact hK7 (a+1) _ ⟨hlta,hda,S⟩ (by omega)
 have hltb:b<n:=by omega
 rw[QN hltb]at hdb
 refine gG_ ?_
 refine zk (ι:=Nat) (λi=>[.int .i64 (i:Nat)]) (λi w'=>i≤n∧((List.range n).drop i).all (clH sy a b)=(List.range n).all (clH sy a b)∧
  StX noX w r w' ([.cell b3 (yy mu) 296,.cell b4 (yy sy) 296,.cell b1 [.string g.name,.int .i64 g.lv,.slice qo g.outs.length capo,.int .i64 g.pn,.slice qt g.tys.length capt,.slice qn g.nms.length capn,.slice qp g.pts.length capp] 101])) (λi=>n-i) 0 rfl
  ⟨gzl _,rfl,S⟩ ?_
 clear S
 have hfalse:clG n mu sy a b=false→(List.range n).all (clF n mu sy)=false:=λe=>by
  rw[e,Bool.false_and]at hdb
  have hF:clF n mu sy a=false:=hdb.symm
  rw[hF,Bool.false_and]at hda
  exact hda.symm
 rintro cc d4 w14 ⟨hc,hdc,S⟩ K9 hK9
 rw[gdz,hlvn]
 refine gP_ ?_
 refine zj (λhltc=>?_) (λhgec=>?_)
 ·have hltc:cc<n:=by omega
  rw[QN hltc]at hdc
  refine gP_ ?_
  refine gP_ ?_
  refine S.ld (b:=b4) ?_ (QP (f:=sy) (by omega) (by omega))
  refine zh (c:=sy b cc) (λ_ K2 hK2=>?_) ?_
  ·refine gP_ ?_
   refine gP_ ?_
   refine S.ld (b:=b4) ?_ (QP (f:=sy) (by omega) (by omega))
   exact hK2
  refine zh (c:=decide (a≠cc)) (λ_ K2 hK2=>?_) ?_
  ·refine gP_ ?_
   rw[show decide ((a:Int)≠(cc:Int))=decide (a≠cc)from decide_eq_decide.2 (by omega)]
   exact hK2
  refine zh (c:=!sy a cc) (λ_ K2 hK2=>?_) ?_
  ·refine gP_ ?_
   refine gP_ ?_
   refine S.ld (b:=b4) ?_ (QP (f:=sy) (by omega) (by omega))
   refine gP_ ?_
   exact hK2
  have hH:clH sy a b cc = !(((sy a b&&sy b cc)&&decide (a≠cc)) && !sy a cc):=by
   rw[clH,Bool.and_assoc (sy a b&&sy b cc),decide_not]
  refine c_b (λhbad=>?_) (λhgood=>?_)
  ·rw[hH,hbad]at hdc
   have hA:(List.range n).all (clH sy a b)=false:=by rw[← hdc];rfl
   rw[hfalse (by rw[clG,hA,Bool.false_and])]at h
   exact h _ S.ext
  ·rw[hH,hgood,Bool.not_false,Bool.true_and]at hdc
   refine gP_ ?_
   rw[show ((cc:Int)+1)=((cc+1:Nat):Int)by omega]
   exact hK9 (cc+1) _ ⟨hltc,hdc,S⟩ (by omega)
 have hce:cc=n:=by omega
 rw[hce,QO]at hdc
 refine gP_ ?_
 refine zh (c:=mu a b) (λ_ K2 hK2=>?_) ?_
 ·refine gP_ ?_
  refine gP_ ?_
  refine S.ld (b:=b3) ?_ (QP (f:=mu) (by omega) (by omega))
  exact hK2
 refine zh (c:=!sy a b) (λ_ K2 hK2=>?_) ?_
 ·refine gP_ ?_
  refine gP_ ?_
  refine S.ld (b:=b4) ?_ (QP (f:=sy) (by omega) (by omega))
  refine gP_ ?_
  exact hK2
 have hG:clG n mu sy a b = !((decide ((a:Int)≠(b:Int))&&mu a b) && !sy a b):=by
  rw[clG,← hdc,Bool.true_and,Bool.and_assoc,show decide ((a:Int)≠(b:Int)) = !decide (a=b)from by rw[← decide_not];exact decide_eq_decide.2 (by omega)]
 refine c_b (λhbad=>?_) (λhgood=>?_)
 ·rw[hfalse (by rw[hG,hbad];rfl)]at h
  exact h _ S.ext
 ·rw[hG,hgood,Bool.not_false,Bool.true_and]at hdb
  refine gP_ ?_
  rw[show ((b:Int)+1)=((b+1:Nat):Int)by omega]
  exact hK8 (b+1) _ ⟨hltb,hdb,S⟩ (by omega)
end
end Go.Proofs
