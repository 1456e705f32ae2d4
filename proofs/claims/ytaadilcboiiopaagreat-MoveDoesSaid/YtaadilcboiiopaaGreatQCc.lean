/-
  Contracts and plain laws that the last text leans on.
-/
import Derived.Test.YtaadilcboiiopaaGreatQCb
import Derived.Test.YtaadilcboiiopaaGreatQCa
import Derived.ChangeSame
import Derived.ChangeStays
import Derived.ReadAgain
import Derived.ProofKit
import Derived.OpenShut
import Derived.Deep.DeepHandedRow
import Derived.Lib.LaidTab
import Derived.Lib.SmallJoins
import Derived.ChangeArms
import Derived.DataReads
set_option maxRecDepth 100000
set_option maxHeartbeats 8000000
set_option linter.unusedVariables false
set_option linter.unusedSimpArgs false
namespace Go.Proofs
open Go.Sh
section
structure StD where
 name:ByteArray
 fs:List (ByteArray×TyD)
def agw(f:ByteArray×TyD):Dat:=.agg [.str f.1,f.2.dat]
def StD.dat(s:StD):Dat:=.agg [.str s.name,.sl 6 (s.fs.map agw)]
def FlG(r:Gh)(p:Option Addr)(fs:List (ByteArray×TyD)):Prop:=RepS r 6 p 0 (fs.map agw)
def StG(r:Gh)(p:Option Addr)(ss:List StD):Prop:=RepS r 2 p 0 (ss.map StD.dat)
theorem StG.up{r s:Gh}{p:Option Addr}{ss:List StD}(h:StG r p ss)[l:Le r s]:StG s p ss:=RepS.up' l h
theorem qC{r:Gh}{p:Option Addr}{fs:List (ByteArray×TyD)}(h:FlG r p fs){k:Nat}(hk:k<fs.length):∃b off c,p=some ⟨b,off,none⟩∧c.length=5∧
  (∀j v,(Value.string fs[k].1::c)[j]? = some v→Ob r λw=>w.cell? ⟨b,off+k*6+j,none⟩=some v)∧TyG r (.agg c.toArray) fs[k].2:=by
 obtain⟨c,h1,h2,h3⟩:=RepS.get h (i:=k) (d:=agw fs[k]) (by rw[List.getElem?_map,gqg hk];rfl)
 obtain⟨a1,b1,rfl,e1,a2,b2,rfl,e2,e3⟩:=h3
 obtain rfl:a1=_:=e1
 obtain rfl:b2=[]:=e3
 rw[List.append_nil]at h1 h2
 obtain⟨b,off,rfl,_⟩:=h2 0 _ rfl
 refine⟨b,off,a2,rfl,by simpa using h1,λj v hj=>?_,TyG.of_rep e2⟩
 obtain⟨b',off',hp,ho⟩:=h2 j v hj
 cases hp
 rwa[Nat.zero_add]at ho
theorem xK{r:Gh}{p:Option Addr}{ss:List StD}(h:StG r p ss){i:Nat}(hi:i<ss.length):∃b off q cap,p=some ⟨b,off,none⟩∧
  (Ob r λw=>w.cell? ⟨b,off+i*2+1,none⟩=some (.slice q ss[i].fs.length cap))∧(q=none→cap=0)∧ss[i].fs.length≤cap∧FlG r q ss[i].fs:=by
 obtain⟨c,h1,h2,h3⟩:=RepS.get h (i:=i) (d:=StD.dat ss[i]) (by rw[List.getElem?_map,gqg hi];rfl)
 obtain⟨a1,b1,rfl,e1,a2,b2,rfl,e2,e3⟩:=h3
 obtain rfl:a1=_:=e1
 obtain rfl:b2=[]:=e3
 obtain⟨q,cap,rfl,hq,hc,hf⟩:=e2
 rw[List.length_map]at hc h2
 obtain⟨b,off,rfl,_⟩:=h2 0 _ rfl
 obtain⟨b',off',hp,ho⟩:=h2 1 (.slice q ss[i].fs.length cap) (by rfl)
 cases hp
 rw[Nat.zero_add]at ho
 exact⟨b,off,q,cap,rfl,ho,hq,hc,hf⟩
def ze(ss:List StD)(k:Int):List TyD:=match ss[k.toNat]? with|some s=>s.fs.map (·.2)|none=>[]
def Kid(ss:List StD)(k j:Int):Prop:=∃t∈ze ss k,t.k=5∧t.st=j
inductive Rch(ss:List StD):Int→Int→Prop
 |one {k j:Int}:Kid ss k j→Rch ss k j
 |more {k j i:Int}:Rch ss k j→Kid ss j i→Rch ss k i
theorem Rch.trans{ss:List StD}{a b c:Int}(h:Rch ss a b)(k:Rch ss b c):Rch ss a c:=by
 induction k with
 |one e=>exact .more h e
 |more _ e ih=>exact .more ih e
def kx(ss:List StD):Prop:=∀k,∀t∈ze ss k,zE ss.length 48 t=true
theorem jC{n:Int}{m:Nat}{t:TyD}(h:zE n (m+1) t=true)(hk:t.k=5):0≤t.st∧t.st<n∧t.of=[]:=by
 rw[xS]at h
 rw[if_neg (by omega),if_pos hk]at h
 simp only[gba,gdt]at h
 exact⟨h.1.2,h.2,List.eq_nil_of_length_eq_zero h.1.1.2⟩
theorem Zr{ss:List StD}(hg:kx ss){k j:Int}(h:Kid ss k j):0≤j∧j<ss.length:=by
 obtain⟨t,ht,h5,rfl⟩:=h
 have:=jC (hg k t ht) h5
 exact⟨this.1,this.2.1⟩
theorem ac4{ss:List StD}(hg:kx ss){k j:Int}(h:Rch ss k j):0≤j∧j<ss.length:=by
 cases h with
 |one h=>exact Zr hg h
 |more _ h=>exact Zr hg h
open Classical in
noncomputable def rkS(ss:List StD)(k:Int):Nat:=(List.range ss.length).countP λj:Nat=>decide (Rch ss k (j:Int))
noncomputable def rkT(ss:List StD)(t:TyD):Nat:=if t.k=5 then rkS ss t.st+1 else 0
open Classical in
theorem ac5(ss:List StD)(t:TyD):rkT ss t≤ss.length+1:=by
 unfold rkT rkS
 split
 ·have:=List.countP_le_length (p:=λj:Nat=>decide (Rch ss t.st (j:Int))) (l:=List.range ss.length)
  rw[List.length_range]at this
  omega
 ·omega
theorem aeS{p q:Nat→Bool}:∀{l:List Nat},(∀x∈l,p x=true→q x=true)→(∃x∈l,p x=false∧q x=true)→l.countP p<l.countP q
 |[],_,h=>by obtain⟨x,hx,_⟩:=h;cases hx
 |a::l,h1,h2=>by
  rw[List.countP_cons,List.countP_cons]
  have hle:l.countP p≤l.countP q:=List.countP_mono_left λx hx=>h1 x (List.mem_cons_of_mem _ hx)
  have ha:=h1 a List.mem_cons_self
  by_cases hex:∃x∈l,p x=false∧q x=true
  ·have:=aeS (λx hx=>h1 x (List.mem_cons_of_mem _ hx)) hex
   cases hp:p a<;>cases hq:q a<;>simp_all<;>omega
  ·obtain⟨x,hx,hx1,hx2⟩:=h2
   rcases List.mem_cons.1 hx with rfl|hx
   ·rw[hx1,hx2];simp;omega
   ·exact absurd ⟨x,hx,hx1,hx2⟩ hex
open Classical in
theorem ac6{ss:List StD}(hg:kx ss)(hac:∀k,¬Rch ss k k){t u:TyD}(h5:t.k=5)(hu:u∈ze ss t.st):rkT ss u<rkT ss t:=by
 unfold rkT
 rw[if_pos h5]
 split
 ·rename_i hu5
  have hk:Kid ss t.st u.st:=⟨u,hu,hu5,rfl⟩
  have hin:=Zr hg hk
  have:=aeS (p:=λj:Nat=>decide (Rch ss u.st (j:Int))) (q:=λj:Nat=>decide (Rch ss t.st (j:Int))) (l:=List.range ss.length)
   (λx _ hx=>gde (Rch.trans (.one hk) (of_decide_eq_true hx)))
   ⟨u.st.toNat,List.mem_range.2 (by omega),decide_eq_false (by rw[Int.toNat_of_nonneg hin.1];exact hac _),gde (by rw[Int.toNat_of_nonneg hin.1];exact .one hk)⟩
  unfold rkS
  omega
 ·omega
def yl:List Nat→Nat
 |[]=>0
 |x::l=>x+yl l
theorem QM:∀(a b:List Nat),yl (a++b)=yl a+yl b
 |[],b=>by simp[yl]
 |x::a,b=>by simp only[List.cons_append,yl,QM a b];omega
def wF(ss:List StD):Nat→TyD→Nat
 |0,_=>1
 |m+1,t=>if t.k=5 then yl ((ze ss t.st).map (wF ss m))else 1
def dF(ss:List StD):Nat→TyD→Bool
 |0,t=>decide (t.k=3)
 |m+1,t=>if t.k=5 then(ze ss t.st).any (dF ss m)else decide (t.k=3)
def xG(n:Nat)(p:Nat→Bool):Nat:=((List.range n).find? p).getD n
theorem js{n:Nat}{p:Nat→Bool}(h:∀j,j<n→p j=false):xG n p=n:=by
 rw[xG,List.find?_eq_none.2 (by intro x hx;rw[h x (List.mem_range.1 hx)];decide)];rfl
theorem jt{n i:Nat}{p:Nat→Bool}(hi:i<n)(hp:p i=true)(h:∀j,j<i→p j=false):xG n p=i:=by
 have :(List.range n).find? p=some i:=by
  rw[List.find?_range_eq_some]
  exact⟨hp,List.mem_range.2 hi,λj hj=>by rw[h j hj];rfl⟩
 rw[xG,this];rfl
theorem jD{n:Nat}{p:Nat→Bool}(h:¬xG n p<n):∀j,j<n→p j=false:=by
 intro j hj
 by_cases hp:∀j,j<n→p j=false
 ·exact hp j hj
 ·exfalso
  apply h
  unfold xG
  cases hf:(List.range n).find? p with
  |none=>
   exfalso;apply hp
   intro j hj
   have:=List.find?_eq_none.1 hf j (List.mem_range.2 hj)
   simpa using this
  |some x=>exact List.mem_range.1 (List.mem_of_find?_eq_some hf)
def xx(ss:List StD)(k:Nat):Bool:=
 (decide ((ze ss k).length<1)||decide (8<(ze ss k).length))||(ze ss k).any λt=>!zE ss.length 48 t||decide (0<t.regs.length)
open Classical in
noncomputable def qZ(ss:List StD)(k:Nat):Bool:=decide (Rch ss k k)
def ZY(ss:List StD)(k:Nat):Bool:=decide (16<wF ss 40 (.mk 5 false 0 k []))
noncomputable def zw(ss:List StD):Int×Int:=
 if 32<ss.length then(32,2)
 else if xG ss.length (xx ss)<ss.length then(xG ss.length (xx ss),2)
 else if xG ss.length (qZ ss)<ss.length then(xG ss.length (qZ ss),2)
 else if xG ss.length (ZY ss)<ss.length then(xG ss.length (ZY ss),2)
 else(0,0)
theorem yD{ss:List StD}{i:Nat}(hi:i<ss.length):ze ss i=ss[i].fs.map (·.2):=by
 rw[ze,tnc,gqg hi]
theorem vQ{ss:List StD}{i:Nat}(hi:i<ss.length):(ze ss i).length=ss[i].fs.length:=by
 rw[yD hi,List.length_map]
theorem aeT{ss:List StD}{k:Int}(h:¬k.toNat<ss.length):ze ss k=[]:=by
 rw[ze,List.getElem?_eq_none (by omega)]
theorem Jf{ss:List StD}(h:∀k,k<ss.length→xx ss k=false):kx ss:=by
 intro k t ht
 by_cases hk:k.toNat<ss.length
 ·have:=h k.toNat hk
  have e:ze ss (k.toNat:Int)=ze ss k:=by rw[ze,ze,tnc]
  rw[xx,e,Bool.or_eq_false_iff]at this
  have:=List.any_eq_false.1 this.2 t ht
  simp only[Bool.or_eq_true,Bool.not_eq_true',not_or]at this
  simpa using this.1
 ·rw[aeT hk]at ht;cases ht
theorem aaV{ss:List StD}(hg:kx ss)(h:∀k,k<ss.length→qZ ss k=false):∀k,¬Rch ss k k:=by
 intro k hk
 have hin:=ac4 hg hk
 have:=h k.toNat (by omega)
 rw[qZ,decide_eq_false_iff_not,Int.toNat_of_nonneg hin.1]at this
 exact this hk
theorem xT{ss:List StD}(h:(zw ss).2=0):ss.length≤32∧(∀k,k<ss.length→xx ss k=false)∧kx ss∧(∀k,¬Rch ss k k)∧(∀k,k<ss.length→ZY ss k=false)∧zw ss=(0,0):=by
 unfold zw at h⊢
 split at h
 ·cases h
 split at h
 ·cases h
 split at h
 ·cases h
 split at h
 ·cases h
 rename_i h1 h2 h3 h4
 have g:=Jf (jD h2)
 refine⟨by omega,jD h2,g,aaV g (jD h3),jD h4,?_⟩
 rw[if_neg h1,if_neg h2,if_neg h3,if_neg h4]
theorem VZ{α:Type}(f:α→Nat){l:List α}{i:Nat}(hi:i<l.length):yl ((l.take (i+1)).map f)=yl ((l.take i).map f)+f l[i]:=by
 rw[List.take_succ_eq_append_getElem hi,List.map_append,QM];simp[yl]
theorem aea{α:Type}(f:α→Nat)(l:List α)(i:Nat):yl ((l.take i).map f)≤yl (l.map f):=by
 have:=congrArg (λl=>yl (l.map f)) (List.take_append_drop i l)
 simp only[List.map_append,QM]at this
 rw[← this]
 exact Nat.le_add_right _ _
theorem acb{r:Gh}{c:List Value}{s:ByteArray}{t:TyD}(h:TyG r (.agg c.toArray) t):∀u∈(Value.string s::c).toArray.toList,u.oneCell'=true:=by
 intro u hu
 rcases List.mem_cons.1 (by simpa using hu)with rfl|hu
 ·rfl
 ·exact ahX h u (by simpa using hu)
theorem _root_.Go.Sh.StX.fty{X:Nat→Prop}{w0 w:World}{r:Gh}{L:List Asr}{f:List Value→List Asr}{T:TypeId}{b:Nat}{s:ByteArray}{c:List Value}(S:StX X w0 r w L)[h:At b L (.string s::c) T f](hc:c.length=5){K:Value→Prop}(k:K (.agg c.toArray)):
  opQ Tryz.prog w (Instr.loadAt 112 (.pointer (some ⟨b,0+1,none⟩))) K:=
 S.ldN (h:=h) (n:=5) (vs:=c) k (by rw[List.drop_succ_cons,List.drop_zero,List.take_of_length_le (by omega)]) hc
theorem afm{ss:List StD}{p:Option Addr}{cap:Nat}(hg:kx ss)(hac:∀k,¬Rch ss k k):∀(m:Nat){t:TyD}{w:World}{r:Gh}{v:Value}{K:Value→World→Prop},m≤100→rkT ss t≤m→zE ss.length 48 t=true→ss.length≤32→(∀k,(ze ss k).length≤8)→
  Holds r w→StG r p ss→TyG r v t→(∀w',Ext w w'→K (.int .i64 (min (wF ss m t) 17:Nat)) w')→zd Tryz.prog Tryz.j6 #[.slice p ss.length cap,v] w K:=by
 intro m
 induction m with
 |zero=>
  intro t w r v K _ hrk hl h32 h8 hr hs hv h
  have h5:¬t.k=5:=λh=>by unfold rkT at hrk;rw[if_pos h]at hrk;omega
  refine Tryz.Q6 ?_
  unfold Tryz.YL
  obtain⟨p1,cap1,rfl,_⟩:=hv
  have S:=St.start hr
  refine S.box λb3 w1 S=>?_
  refine gG_ ?_
  refine zf (λ_=>h _ S.ext) (λhn=>absurd (by omega) h5)
 |succ m ih=>
  intro t w r v K hm hrk hl h32 h8 hr hs hv h
  refine Tryz.Q6 ?_
  unfold Tryz.YL
  obtain⟨p1,cap1,rfl,_⟩:=hv
  have S:=St.start hr
  refine S.box λb3 w1 S=>?_
  refine gG_ ?_
  refine zf (λhn=>?_) (λh5=>?_)
  ·rw[wF,if_neg (by omega)]at h
   exact h _ S.ext
  have h5:t.k=5:=by omega
  obtain⟨hst0,hst1,_⟩:=jC hl h5
  have hlt:t.st.toNat<ss.length:=by omega
  obtain⟨b,off,q,capq,rfl,hcell,_,_,hf⟩:=xK hs hlt
  refine gG_ ?_
  refine zg (S.at hcell) ?_
  have htl:ze ss t.st=ss[t.st.toNat].fs.map (·.2):=by
   rw[← yD hlt];simp only[ze,tnc]
  have hlen:(ze ss t.st).length=ss[t.st.toNat].fs.length:=by rw[htl,List.length_map]
  have h88:=h8 t.st
  refine gG_ ?_
  refine zh (ι:=Nat) (λi=>[.int .i64 (yl (((ze ss t.st).take i).map (wF ss m)):Nat),.int .i64 i]) (λi w'=>i≤(ze ss t.st).length∧yl (((ze ss t.st).take i).map (wF ss m))≤16∧St w r w' _)
   (λi=>(ze ss t.st).length-i) 0 rfl ⟨gzl _,by simp[yl],S⟩ ?_
  clear S
  rintro i d w2 ⟨hi,hsum,S⟩ K6 hK6
  rw[gdz,gds,gdz]
  refine gG_ ?_
  refine c_b (λhlt2=>?_) (λhge=>?_)
  ·have hlt2:i<ss[t.st.toNat].fs.length:=by simpa using hlt2
   have hlt3:i<(ze ss t.st).length:=by omega
   obtain⟨b2,off2,c,rfl,hcl,hcc,hty⟩:=qC hf hlt2
   refine gG_ ?_
   refine zp (n:=6) (c:=.string ss[t.st.toNat].fs[i].1::c) (by simp[hcl]) (λj v hj=>by rw[tnc];exact S.at (hcc j v hj)) ?_
   refine S.al λb7 w3 S=>?_
   refine S.stB (cs:=(Value.string ss[t.st.toNat].fs[i].1::c).toArray) (λw4 S=>?_) rfl (by simp[hcl]) (acb hty)
   refine gP_ ?_
   refine S.fty hcl ?_
   have hel:(ze ss t.st)[i]=ss[t.st.toNat].fs[i].2:=by simp only[htl,List.getElem_map]
   have hmem:ss[t.st.toNat].fs[i].2∈ze ss t.st:=by rw[← hel];exact gem hlt3
   have hrk2:=ac6 hg hac h5 hmem
   refine ih (by omega) (by omega) (hg _ _ hmem) h32 h8 S.holds hs hty λw5 e5=>?_
   have S:=(S.go e5).tl
   have hst:=VZ (wF ss m) hlt3
   rw[hel]at hst
   refine gP_ ?_
   refine gP_ ?_
   have htot:yl (((ze ss t.st).take (i+1)).map (wF ss m))≤wF ss (m+1) t:=by
    rw[wF,if_pos h5];exact aea _ _ _
   refine c_b (λhbig=>?_) (λhsm=>?_)
   ·have hbig:16<yl (((ze ss t.st).take i).map (wF ss m))+min (wF ss m ss[t.st.toNat].fs[i].2) 17:=by
     have:=of_decide_eq_true hbig;omega
    have e:min (wF ss (m+1) t) 17=17:=by omega
    rw[e]at h
    exact h _ S.ext
   ·have hsm:¬16<yl (((ze ss t.st).take i).map (wF ss m))+min (wF ss m ss[t.st.toNat].fs[i].2) 17:=by
     have:=of_decide_eq_false hsm;omega
    refine gP_ ?_
    have e:(yl (((ze ss t.st).take i).map (wF ss m)):Int)+((min (wF ss m ss[t.st.toNat].fs[i].2) 17:Nat):Int)=(yl (((ze ss t.st).take (i+1)).map (wF ss m)):Nat):=by omega
    rw[e,show ((i:Int)+1)=((i+1:Nat):Int)by omega]
    exact hK6 (i+1) _ ⟨hlt3,by omega,S⟩ (by omega)
  ·have hie:i=(ze ss t.st).length:=by
    have :¬i<ss[t.st.toNat].fs.length:=by simpa using hge
    omega
   rw[hie,List.take_length]at hsum⊢
   have e:min (wF ss (m+1) t) 17=yl ((ze ss t.st).map (wF ss m)):=by
    rw[wF,if_pos h5];omega
   rw[e]at h
   exact h _ S.ext
def mt(met:List Bool)(j:Int):Bool:=met.getD j.toNat false
def cf:List Bool→Nat
 |[]=>0
 |b::l=>(if b then 0 else 1)+cf l
theorem V0:∀{l:List Bool}{i:Nat},l[i]? = some false→cf (l.set i true)+1=cf l
 |[],i,h=>by simp at h
 |b::l,0,h=>by
  simp only[List.getElem?_cons_zero,Option.some.injEq]at h
  subst h
  simp[cf];omega
 |b::l,i+1,h=>by
  have:=V0 (l:=l) (i:=i) (by simpa using h)
  simp only[List.set_cons_succ,cf];omega
theorem agx{met:List Bool}{i j:Int}(hi:0≤i)(hj:0≤j)(hlt:i.toNat<met.length):mt (met.set i.toNat true) j=(decide (j=i)||mt met j):=by
 unfold mt
 rw[ggd,ggd,List.getElem?_set]
 by_cases h:i.toNat=j.toNat
 ·have :j=i:=by omega
  subst this
  simp[hlt]
 ·have :¬j=i:=λe=>h (by rw[e])
  rw[if_neg h];simp[this]
structure QI(ss:List StD)(k:Int)(N:Nat)(W:List Int)(met:List Bool)(x:Option (Int×Nat)):Prop where
 len:met.length=N
 dom:ss.length≤N
 rng:∀y∈W,0≤y∧y<ss.length
 s1:∀j,0≤j→mt met j=true→Rch ss k j
 s2:∀y∈W,y=k∨mt met y=true
 s3:∀y,0≤y→(y=k∨mt met y=true)→y∉W→(∀q,x=some q→y≠q.1)→∀j,Kid ss y j→mt met j=true
 s4:∀q,x=some q→(q.1=k∨Rch ss k q.1)∧∀t∈(ze ss q.1).take q.2,t.k=5→mt met t.st=true
theorem QI.start{ss:List StD}{k:Int}{N:Nat}(hd:ss.length≤N)(h0:0≤k)(h1:k<ss.length):QI ss k N [k] (List.replicate N false) none:=by
 have hm:∀j,mt (List.replicate N false) j=false:=λj=>by
  unfold mt;rw[ggd,List.getElem?_replicate];split<;>rfl
 refine⟨List.length_replicate,hd,by simp;omega,λj _ h=>?_,by simp,λy _ h hn=>?_,λq h=>by cases h⟩
 ·rw[hm]at h;cases h
 ·rcases h with rfl|h
  ·simp at hn
  ·rw[hm]at h;cases h
theorem QI.pop{ss:List StD}{k x:Int}{N:Nat}{W:List Int}{met:List Bool}(h:QI ss k N (x::W) met none):QI ss k N W met (some (x,0)):=by
 have hx:=h.rng x List.mem_cons_self
 refine⟨h.len,h.dom,λy hy=>h.rng y (List.mem_cons_of_mem _ hy),h.s1,λy hy=>h.s2 y (List.mem_cons_of_mem _ hy),λy hy hk hn hx j hj=>?_,λq hq=>?_⟩
 ·refine h.s3 y hy hk ?_ (λq hq=>by cases hq) j hj
  intro hm
  rcases List.mem_cons.1 hm with rfl|hm
  ·exact hx _ rfl rfl
  ·exact hn hm
 ·cases hq
  refine⟨(h.s2 x List.mem_cons_self).imp id (h.s1 x hx.1),by simp⟩
theorem QI.skip{ss:List StD}{k x:Int}{N i:Nat}{W:List Int}{met:List Bool}(h:QI ss k N W met (some (x,i)))(hi:i<(ze ss x).length)(hs:(ze ss x)[i].k=5→mt met (ze ss x)[i].st=true):QI ss k N W met (some (x,i+1)):=by
 refine⟨h.len,h.dom,h.rng,h.s1,h.s2,λy hy hk hn hx j hj=>h.s3 y hy hk hn (λq hq=>by cases hq;exact hx (x,i+1) rfl) j hj,λq hq=>?_⟩
 cases hq
 have:=h.s4 _ rfl
 refine⟨this.1,λt ht h5=>?_⟩
 simp only at ht
 rw[List.take_succ_eq_append_getElem hi,List.mem_append,List.mem_singleton]at ht
 rcases ht with ht|rfl
 ·exact this.2 t ht h5
 ·exact hs h5
theorem QI.push{ss:List StD}{k x:Int}{N i:Nat}{W:List Int}{met:List Bool}(hg:kx ss)(h:QI ss k N W met (some (x,i)))(hi:i<(ze ss x).length)(h5:(ze ss x)[i].k=5):
  QI ss k N (W++[(ze ss x)[i].st]) (met.set (ze ss x)[i].st.toNat true) (some (x,i+1)):=by
 have hk:Kid ss x (ze ss x)[i].st:=⟨_,gem hi,h5,rfl⟩
 have hin:=Zr hg hk
 have hd:=h.dom
 have hlen:=h.len
 have hms:∀j,0≤j→mt (met.set (ze ss x)[i].st.toNat true) j=(decide (j=(ze ss x)[i].st)||mt met j):=λj hj=>agx hin.1 hj (by omega)
 refine⟨by rw[List.length_set];exact h.len,h.dom,λy hy=>?_,λj hj hm=>?_,λy hy=>?_,λy hy hyk hn hx j hj=>?_,λq hq=>?_⟩
 ·rcases List.mem_append.1 hy with hy|hy
  ·exact h.rng y hy
  ·rw[List.mem_singleton.1 hy];exact hin
 ·rw[hms j hj,Bool.or_eq_true,gdt]at hm
  rcases hm with rfl|hm
  ·rcases(h.s4 _ rfl).1 with hx|hx
   ·have hx:x=k:=hx
    rw[← hx];exact .one hk
   ·exact .more hx hk
  ·exact h.s1 j hj hm
 ·rcases List.mem_append.1 hy with hy|hy
  ·refine(h.s2 y hy).imp id λhm=>?_
   rw[hms y (h.rng y hy).1,hm,Bool.or_true]
  ·rw[List.mem_singleton.1 hy,hms _ hin.1];simp
 ·have hj0:=(Zr hg hj).1
  rw[hms j hj0]
  rw[hms y hy,Bool.or_eq_true,gdt]at hyk
  have hnw:y∉W:=λhm=>hn (List.mem_append_left _ hm)
  have hne:y≠(ze ss x)[i].st:=λe=>hn (by rw[e];exact List.mem_append_right _ List.mem_cons_self)
  rw[h.s3 y hy (hyk.imp id λhh=>hh.resolve_left hne) hnw (λq hq=>by cases hq;exact hx (x,i+1) rfl) j hj,Bool.or_true]
 ·cases hq
  have:=h.s4 _ rfl
  refine⟨this.1,λt ht h5'=>?_⟩
  simp only at ht
  rw[List.take_succ_eq_append_getElem hi,List.mem_append,List.mem_singleton]at ht
  rcases ht with ht|rfl
  ·have ht0:=(Zr hg (k:=x) ⟨t,List.mem_of_mem_take ht,h5',rfl⟩).1
   rw[hms _ ht0,this.2 t ht h5',Bool.or_true]
  ·rw[hms _ hin.1];simp
theorem QI.done{ss:List StD}{k x:Int}{N i:Nat}{W:List Int}{met:List Bool}(h:QI ss k N W met (some (x,i)))(hi:(ze ss x).length≤i):QI ss k N W met none:=by
 refine⟨h.len,h.dom,h.rng,h.s1,h.s2,λy hy hk hn _ j hj=>?_,λq hq=>by cases hq⟩
 by_cases hyx:y=x
 ·subst hyx
  obtain⟨t,ht,h5,rfl⟩:=hj
  have:=(h.s4 _ rfl).2 t (by simp only;rw[List.take_of_length_le hi];exact ht) h5
  exact this
 ·exact h.s3 y hy hk hn (λq hq=>by cases hq;exact hyx) j hj
theorem QI.all{ss:List StD}{k:Int}{N:Nat}{met:List Bool}(hg:kx ss)(h0:0≤k)(h:QI ss k N [] met none){j:Int}(hr:Rch ss k j):mt met j=true:=by
 induction hr with
 |one e=>exact h.s3 k h0 (.inl rfl) (by simp) (λq hq=>by cases hq) _ e
 |more hr e ih=>exact h.s3 _ (ac4 hg hr).1 (.inr ih) (by simp) (λq hq=>by cases hq) _ e
open Classical in
theorem aaW{ss:List StD}{k:Nat}{b:Bool}(h1:b=true→Rch ss k k)(h2:Rch ss k k→b=true):b=qZ ss k:=by
 rw[qZ]
 by_cases hr:Rch ss k k
 ·rw[gde hr];exact h2 hr
 ·rw[decide_eq_false hr]
  cases b
  ·rfl
  ·exact absurd (h1 rfl) hr
def yg(l:List Bool):List Value:=l.map .bool
theorem V1(l:List Bool):(yg l).length=l.length:=List.length_map ..
theorem XJ{l:List Bool}{j:Int}(h:j.toNat<l.length):(yg l)[j.toNat]? = some (.bool (mt l j)):=by
 unfold yg mt
 rw[List.getElem?_map,ggd,gqg h];rfl
theorem ac7{ss:List StD}{p:Option Addr}{cap k:Nat}(hg:kx ss)(h32:ss.length≤32)(hk:k<ss.length)(h8:∀k,(ze ss k).length≤8){w:World}{r:Gh}{K:Value→World→Prop}(hr:Holds r w)(hs:StG r p ss)
  (h:∀w',Ext w w'→K (.bool (qZ ss k)) w'):zd Tryz.prog Tryz.Zd #[.slice p ss.length cap,.int .i64 k] w K:=by
 refine Tryz.ab3 ?_
 unfold Tryz.Qb
 have S:=St.start hr
 refine S.al λb5 w1 S=>?_
 refine S.lit (e:=3) (cs:=[.int .i64 k]) (by kernel_rfl) λb11 w2 S=>?_
 have S:=S.toRow 1 1 rfl (by decide)
 have S:=S.toQue (.slice (some ⟨b11,0,none⟩) 1 1)
 have S:StX noX w r w2 [.que (.slice (some ⟨b11,0,none⟩) 1 1) 3 1 [(k:Int)].length (ints [(k:Int)]),.cell b5 (yg (List.replicate 32 false)) 247]:=S
 refine zh (ι:=List Int×List Bool×Value) (λi=>[i.2.2]) (λi w'=>QI ss k 32 i.1 i.2.1 none∧2*cf i.2.1+i.1.length≤65∧StX noX w r w' [.que i.2.2 3 1 i.1.length (ints i.1),.cell b5 (yg i.2.1) 247])
  (λi=>2*cf i.2.1+i.1.length) ([(k:Int)],List.replicate 32 false,_) rfl ⟨QI.start h32 (by omega) (by omega),(show 2*cf (List.replicate 32 false)+1≤65 by decide),S⟩ ?_
 clear S
 rintro⟨W,met,vq⟩ d w3 ⟨hq,h65,S⟩ K3 hK3
 simp only at hq h65 S⊢
 rw[gdz]
 obtain⟨pq,capq,rfl,hp0,hcq,_,hsl⟩:=S.queS vq
 refine gP_ ?_
 refine gP_ ?_
 refine c_b (λhpos=>?_) (λhz=>?_)
 ·have hpos:0<W.length:=by simpa using hpos
  cases W with
  |nil=>simp at hpos
  |cons x W=>
   obtain⟨bq,oq,rfl,hcell⟩:=Xh hsl hpos
   have hx:=hq.rng x List.mem_cons_self
   refine gP_ ?_
   refine zg (by simpa using hcell) ?_
   refine S.loQ (by omega) (by omega) hpos λv' S=>?_
   have S:StX noX w r w3 [.que v' 3 1 W.length (ints W),.cell b5 (yg met) 247]:=S
   have hxn:x.toNat<ss.length:=by omega
   obtain⟨bs',os',q,capf,rfl,hcs,_,_,hf⟩:=xK hs hxn
   refine gP_ ?_
   refine gP_ ?_
   refine zg (S.at hcs) ?_
   refine gP_ ?_
   have htl:ze ss x=ss[x.toNat].fs.map (·.2):=by
    rw[← yD hxn];simp only[ze,tnc]
   have hlen:(ze ss x).length=ss[x.toNat].fs.length:=by rw[htl,List.length_map]
   have h88:=h8 x
   refine zh (ι:=Nat×List Int×List Bool×Value) (λi=>[i.2.2.2,.int .i64 i.1]) (λi w'=>i.1≤(ze ss x).length∧QI ss k 32 i.2.1 i.2.2.1 (some (x,i.1))∧2*cf i.2.2.1+i.2.1.length≤2*cf met+W.length∧
    StX noX w r w' [.que i.2.2.2 3 1 i.2.1.length (ints i.2.1),.cell b5 (yg i.2.2.1) 247]) (λi=>(ze ss x).length-i.1) (0,W,met,v') rfl ⟨gzl _,hq.pop,Nat.le_refl _,S⟩ ?_
   clear S
   rintro⟨i,W',met',vq'⟩ d w4 ⟨hi,hq',hme,S⟩ K7 hK7
   simp only at hi hq' hme S⊢
   rw[gdz,gds,gdz]
   refine gP_ ?_
   refine c_b (λhlt2=>?_) (λhge=>?_)
   ·have hlt2:i<ss[x.toNat].fs.length:=by simpa using hlt2
    have hlt3:i<(ze ss x).length:=by omega
    have hel:(ze ss x)[i]=ss[x.toNat].fs[i].2:=by simp only[htl,List.getElem_map]
    refine zn (λs w'=>∃W2 met2 v2,s=[v2]∧QI ss k 32 W2 met2 (some (x,i+1))∧2*cf met2+W2.length≤2*cf met'+W'.length∧StX noX w r w' [.que v2 3 1 W2.length (ints W2),.cell b5 (yg met2) 247]) (λK11 hK11=>?_) ?_
    ·obtain⟨b2,off2,c,rfl,hcl,hcc,hty⟩:=qC hf hlt2
     refine gP_ ?_
     refine zp (n:=6) (c:=.string ss[x.toNat].fs[i].1::c) (by simp[hcl]) (λj v hj=>by rw[tnc];exact S.at (hcc j v hj)) ?_
     refine S.al λb9 w5 S=>?_
     refine S.stB (cs:=(Value.string ss[x.toNat].fs[i].1::c).toArray) (λw6 S=>?_) rfl (by simp[hcl]) (acb hty)
     obtain⟨pt,capt,rfl,_⟩:=XI hty
     have S:StX noX w r w6 [.cell b9 [.string ss[x.toNat].fs[i].1,.int .u8 ss[x.toNat].fs[i].2.k,.bool ss[x.toNat].fs[i].2.m,.int .i64 ss[x.toNat].fs[i].2.re,.int .i64 ss[x.toNat].fs[i].2.st,.slice pt ss[x.toNat].fs[i].2.of.length capt] 161,.que vq' 3 1 W'.length (ints W'),.cell b5 (yg met') 247]:=S
     refine gG_ ?_
     rw[← hel]
     by_cases h5:(ze ss x)[i].k=5
     ·have hkid:Kid ss x (ze ss x)[i].st:=⟨_,gem hlt3,h5,rfl⟩
      have hin:=Zr hg hkid
      have hml:=hq'.len
      refine zj (c:=mt met' (ze ss x)[i].st) (λ_ K2 hK2=>?_) ?_
      ·refine gG_ ?_
       rw[← hel]
       refine gP_ ?_
       refine S.ld (b:=b5) ?_ (by rw[Nat.zero_add,Nat.mul_one];exact XJ (by omega))
       exact hK2
      rw[show decide ((ze ss x)[i].k≠5)=false by simp[h5],Bool.false_or]
      refine c_b (λhm=>?_) (λhm=>?_)
      ·exact hK11 _ _ ⟨W',met',vq',rfl,hq'.skip hlt3 λ_=>hm,Nat.le_refl _,S.tl⟩
      ·refine gG_ ?_
       rw[← hel]
       refine gP_ ?_
       refine S.st (b:=b5) (λw7 S=>?_) (by rw[V1];omega)
       refine gG_ ?_
       rw[← hel]
       refine S.lit (e:=3) (cs:=[.int .i64 (ze ss x)[i].st]) (by kernel_rfl) λb49 w8 S=>?_
       simp only[List.length_cons]at h65
       refine S.apQ (m:=1) (Sl.blk (S.blk b49)) (λv50 w9 S=>?_) (by omega)
       have hset:mt met' (ze ss x)[i].st=false:=hm
       have hcf:=V0 (l:=met') (i:=(ze ss x)[i].st.toNat) (by
        unfold mt at hset
        rw[ggd,gqg (by omega)]at hset
        rw[gqg (by omega)]
        simpa using hset)
       refine hK11 _ _ ⟨W'++[(ze ss x)[i].st],met'.set (ze ss x)[i].st.toNat true,v50,rfl,hq'.push hg hlt3 h5,by rw[gla,gls];omega,?_⟩
       have e1:(yg met').set (0+(ze ss x)[i].st.toNat*1) (.bool true)=yg (met'.set (ze ss x)[i].st.toNat true):=by
        rw[Nat.zero_add,Nat.mul_one,yg,yg,List.map_set]
       rw[e1]at S
       rw[gla,abw]
       exact S.tl.tl
     ·refine zj (c:=true) (λhn=>absurd hn (by simp[h5])) ?_
      rw[Bool.or_true]
      refine c_t rfl ?_
      exact hK11 _ _ ⟨W',met',vq',rfl,hq'.skip hlt3 λe=>absurd e h5,Nat.le_refl _,S.tl⟩
    ·rintro _ w5 ⟨W2,met2,v2,rfl,hq2,hme2,S⟩ d5
     rw[gdz]
     refine gP_ ?_
     rw[show ((i:Int)+1)=((i+1:Nat):Int)by omega]
     exact hK7 (i+1,W2,met2,v2) _ ⟨hlt3,hq2,by simp only;omega,S⟩ (by simp only;omega)
   ·have hge:(ze ss x).length≤i:=by
     have :¬i<ss[x.toNat].fs.length:=by simpa using hge
     omega
    exact hK3 (W',met',vq') _ ⟨hq'.done hge,by simp only[List.length_cons]at h65⊢;omega,S⟩ (by simp only[List.length_cons];omega)
 ·have hz:W=[]:=List.eq_nil_of_length_eq_zero (by
   have :¬0<W.length:=by simpa using hz
   omega)
  subst hz
  have hml:=hq.len
  refine gP_ ?_
  refine S.ld (b:=b5) ?_ (by rw[Nat.zero_add,Nat.mul_one];exact XJ (by omega))
  have e:mt met (k:Int)=qZ ss k:=aaW (hq.s1 _ (by omega)) (hq.all hg (by omega))
  rw[e]
  exact h _ S.ext
theorem YP{X:Nat→Prop}{w0:World}{r:Gh}{L:List Asr}{n:Nat}{q:Nat→Bool}{fv:Value}(hn:n≤1000)
  (hf:∀(i:Nat),i<n→∀{w:World}{K:Value→World→Prop},StX X w0 r w L→(∀w',StX X w0 r w' L→K (.bool (q i)) w')→zF Tryz.prog fv #[.int .i64 i] w K) {w:World} {K:Value→World→Prop} (S:StX X w0 r w L)
  (h:∀w',StX X w0 r w' L→K (.int .i64 (xG n q)) w'):zd Tryz.prog Tryz.YD #[.int .i64 n,fv] w K:=by
 refine Tryz.ad3 ?_
 unfold Tryz.Vh
 refine zh (ι:=Nat) (λi=>[.int .i64 i]) (λi w'=>i≤n∧(∀j,j<i→q j=false)∧StX X w0 r w' L) (λi=>n-i) 0 rfl ⟨gzl _,λj hj=>by omega,S⟩ ?_
 clear S
 rintro i d w1 ⟨hi,hq,S⟩ K6 hK6
 rw[gdz]
 refine gP_ ?_
 refine c_b (λhlt=>?_) (λhge=>?_)
 ·have hlt:i<n:=by simpa using hlt
  refine hf i hlt S λw2 S=>?_
  refine c_b (λhy=>?_) (λhno=>?_)
  ·have:=h _ S
   rwa[jt hlt hy hq]at this
  ·refine gP_ ?_
   rw[show ((i:Int)+1)=((i+1:Nat):Int)by omega]
   refine hK6 (i+1) _ ⟨hlt,λj hj=>?_,S⟩ (by omega)
   by_cases hji:j=i
   ·rw[hji];exact hno
   ·exact hq j (by omega)
 ·have hge:i=n:=by
   have :¬i<n:=by simpa using hge
   omega
  have:=h _ S
  rwa[js (λj hj=>hq j (by omega))]at this
theorem Yr{X:Nat→Prop}{w0:World}{r s:Gh}{L:List Asr}{p:Option Addr}{cap:Nat}{fs:List (ByteArray×TyD)}{g:TyD→Bool}{fv:Value}(hfl:FlG s p fs)[Le s r](hb:fs.length≤1000000000)
  (hf:∀f∈fs,∀{c:List Value}{w:World}{K:Value→World→Prop},c.length=5→TyG s (.agg c.toArray) f.2→StX X w0 r w L→(∀w',StX X w0 r w' L→K (.bool (g f.2)) w')→zF Tryz.prog fv #[.agg (.string f.1::c).toArray] w K)
  {w:World} {K:Value→World→Prop} (S:StX X w0 r w L) (h:∀w',StX X w0 r w' L→K (.bool ((fs.map (·.2)).any g)) w'):zd Tryz.prog Tryz.zS #[.slice p fs.length cap,fv] w K:=by
 refine Tryz.kY ?_
 unfold Tryz.xd
 refine Tryz.qL ?_
 unfold Tryz.xu
 refine gP_ ?_
 refine zh (ι:=Nat) (λi=>[.int .i64 i]) (λi w'=>i≤fs.length∧((fs.take i).map (·.2)).any g=false∧StX X w0 r w' L) (λi=>fs.length-i) 0 rfl ⟨gzl _,by simp,S⟩ ?_
 clear S
 rintro i d w1 ⟨hi,hq,S⟩ K6 hK6
 rw[gdz]
 refine gP_ ?_
 refine c_b (λhlt=>?_) (λhge=>?_)
 ·have hlt:i<fs.length:=by simpa using hlt
  obtain⟨b2,off2,c,rfl,hcl,hcc,hty⟩:=qC hfl hlt
  refine gP_ ?_
  refine zp (n:=6) (c:=.string fs[i].1::c) (by simp[hcl]) (λj v hj=>by rw[tnc];exact S.at (hcc j v hj)) ?_
  refine hf fs[i] (gem hlt) hcl hty S λw2 S=>?_
  refine c_b (λhy=>?_) (λhno=>?_)
  ·refine gP_ ?_
   have:=h _ S
   have e:(fs.map (·.2)).any g=true:=List.any_eq_true.2 ⟨fs[i].2,List.mem_map.2 ⟨_,gem hlt,rfl⟩,hy⟩
   rw[e]at this
   rw[show decide ((i:Int)≥0)=true by simp]
   exact this
  ·refine gP_ ?_
   rw[show ((i:Int)+1)=((i+1:Nat):Int)by omega]
   refine hK6 (i+1) _ ⟨hlt,?_,S⟩ (by omega)
   rw[List.take_succ_eq_append_getElem hlt,List.map_append,List.any_append,hq]
   simp[hno]
 ·have hge:i=fs.length:=by
   have :¬i<fs.length:=by simpa using hge
   omega
  rw[hge,List.take_length]at hq
  refine gP_ ?_
  have:=h _ S
  rw[hq]at this
  exact this
theorem kA{ss:List StD}(h:∀k,k<ss.length→xx ss k=false)(k:Int):(ze ss k).length≤8:=by
 by_cases hk:k.toNat<ss.length
 ·have:=h k.toNat hk
  have e:ze ss (k.toNat:Int)=ze ss k:=by rw[ze,ze,tnc]
  rw[xx,e,Bool.or_eq_false_iff,Bool.or_eq_false_iff]at this
  simp only[decide_eq_false_iff_not]at this
  omega
 ·rw[aeT hk];simp
section
variable {X:Nat→Prop} {w0 w:World} {r:Gh} {L:List Asr} {ss:List StD} {p:Option Addr} {cap b1 b4:Nat} {f1 f4:List Value→List Asr} {K:Value→World→Prop}
theorem aa8{k:Nat}(hk:k<ss.length)(hs:StG r p ss)(S:StX X w0 r w L)[At b1 L [.slice p ss.length cap] 22 f1][At b4 L [.int .i64 (ss.length:Nat)] 3 f4](h:∀w',StX X w0 r w' L→K (.bool (xx ss k)) w'):
  zF Tryz.prog (.func (.func Tryz.kQ) #[] #[.pointer (some ⟨b1,0,none⟩),.pointer (some ⟨b4,0,none⟩)]) #[.int .i64 k] w K:=by
 refine kD (by kernel_rfl) ?_
 refine Tryz.VU (t0:=.int .i64 k) (t1:=.pointer (some ⟨b1,0,none⟩)) (t2:=.pointer (some ⟨b4,0,none⟩)) ?_
 unfold Tryz.YZ
 refine gL_ ?_
 obtain⟨b,off,q,capq,rfl,hcell,hq0,hqc,hf⟩:=xK hs hk
 refine gP_ ?_
 refine gP_ ?_
 refine zg (by rw[tnc];exact S.at hcell) ?_
 refine gP_ ?_
 refine gP_ ?_
 have hlen:=vQ hk
 refine zj (c:=decide (8<(ze ss k).length)) (λ_ K2 hK2=>?_) ?_
 ·refine gP_ ?_
  refine gP_ ?_
  rw[show decide ((8:Int)<(ss[k].fs.length:Int))=decide (8<(ze ss k).length)from decide_eq_decide.2 (by omega)]
  exact hK2
 refine ama (λw'=>StX X w0 r w' L) (c:=(ze ss k).any λt=>!zE ss.length 48 t||decide (0<t.regs.length)) (λ_=>S) (λhsm2 K2 hK2=>?_) λw9 S=>?_
 ·have hsm2:ss[k].fs.length≤8:=by
   simp only[Bool.or_eq_false_iff,decide_eq_false_iff_not]at hsm2;omega
  refine gP_ ?_
  refine Yr (g:=λt=>!zE ss.length 48 t||decide (0<t.regs.length)) hf (by omega) (λf hfm {c} {w7} {K} hcl hty S hK=>?_) S λw8 S=>?_
  ·refine ac3 (by kernel_rfl) ?_
   refine Tryz.JL ?_
   unfold Tryz.ZI
   refine S.box λb2 w8 S=>?_
   have S:StX X w0 r w8 (.cell b2 (.string f.1::c) 161::L):=S
   refine gP_ ?_
   refine S.fty hcl ?_
   refine S.ld (b:=b4) ?_ rfl
   refine XG 48 (by decide) S.holds hty λw9 e9=>?_
   have S:=S.go e9
   refine gP_ ?_
   refine x8 (c:=decide (0<f.2.regs.length)) (λhl K2 hK2=>?_) λw10 e10=>?_
   ·have hl:zE ss.length 48 f.2=true:=by simpa using hl
    refine gP_ ?_
    refine S.fty hcl ?_
    refine Qh S.holds hty (by have:=aaU hl;omega) λv11 w11 e11 o11=>?_
    obtain⟨p11,cap11,rfl,_⟩:=VO o11
    refine gP_ ?_
    refine gP_ ?_
    rw[show decide ((f.2.regs.length:Int)>0)=decide (0<f.2.regs.length)from decide_eq_decide.2 (by omega)]
    exact hK2 _ e11
   exact hK _ (S.go e10).tl
  ·rw[← yD hk]
   exact hK2 _ S
 ·have:=h _ S
  rw[xx]at this
  rw[show decide ((ss[k].fs.length:Int)<1)=decide ((ze ss k).length<1)from decide_eq_decide.2 (by omega)]
  exact this
theorem aa9{k:Nat}(hk:k<ss.length)(h32:ss.length≤32)(h1:¬xG ss.length (xx ss)<ss.length)(hs:StG r p ss)(S:StX X w0 r w L)[At b1 L [.slice p ss.length cap] 22 f1](h:∀w',StX X w0 r w' L→K (.bool (qZ ss k)) w'):
  zF Tryz.prog (.func (.func Tryz.kR) #[] #[.pointer (some ⟨b1,0,none⟩)]) #[.int .i64 k] w K:=by
 refine kD (by kernel_rfl) ?_
 refine Tryz.VV (t0:=.int .i64 k) (t1:=.pointer (some ⟨b1,0,none⟩)) ?_
 unfold Tryz.Y0
 refine gL_ ?_
 exact ac7 (Jf (jD h1)) h32 hk (λk=>kA (jD h1) k) S.holds hs λw9 e9=>h _ (S.go e9)
theorem aba{k:Nat}(hk:k<ss.length)(h32:ss.length≤32)(h1:¬xG ss.length (xx ss)<ss.length)(h2:¬xG ss.length (qZ ss)<ss.length)(hs:StG r p ss)(S:StX X w0 r w L)[At b1 L [.slice p ss.length cap] 22 f1](h:∀w',StX X w0 r w' L→K (.bool (ZY ss k)) w'):
  zF Tryz.prog (.func (.func Tryz.kS) #[] #[.pointer (some ⟨b1,0,none⟩)]) #[.int .i64 k] w K:=by
 refine kD (by kernel_rfl) ?_
 refine Tryz.VX (t0:=.int .i64 k) (t1:=.pointer (some ⟨b1,0,none⟩)) ?_
 unfold Tryz.Y1
 refine gL_ ?_
 refine zy (cs:=#[.int .u8 5,.bool false,.int .i64 0,.int .i64 k,.slice none 0 0]) (by kernel_rfl) ?_
 have hg:=Jf (jD h1)
 refine afm hg (aaV hg (jD h2)) 40 (t:=.mk 5 false 0 k []) (by decide) (by have:=ac5 ss (.mk 5 false 0 k []);omega) ?_ (by omega) (λk=>kA (jD h1) k) S.holds hs (xJ (r:=r)) λw9 e9=>?_
 ·rw[xS]
  simp[TyD.k,TyD.m,TyD.re,TyD.of,TyD.st]
  omega
 ·refine gP_ ?_
  have:=h _ (S.go e9)
  rw[ZY]at this
  rw[show decide ((((min (wF ss 40 (.mk 5 false 0 k [])) 17:Nat):Int))>16)=decide (16<wF ss 40 (.mk 5 false 0 k []))from decide_eq_decide.2 (by omega)]
  exact this
end
theorem Zs{ss:List StD}{p:Option Addr}{cap:Nat}{w:World}{r:Gh}{K:Value→World→Prop}(hr:Holds r w)(hs:StG r p ss)
  (h:∀w',Ext w w'→K (.tuple #[.int .i64 (zw ss).1,.int .i64 (zw ss).2]) w'):zd Tryz.prog Tryz.kE #[.slice p ss.length cap] w K:=by
 refine Tryz.ab2 ?_
 unfold Tryz.Qa
 have S:=St.start hr
 refine S.box λb1 w1 S=>?_
 refine gL_ ?_
 refine gP_ ?_
 refine S.al λb4 w2 S=>?_
 refine S.st λw3 S=>?_
 refine gL_ ?_
 refine gP_ ?_
 refine c_b (λhbig=>?_) (λhsm=>?_)
 ·have hbig:32<ss.length:=by have:=of_decide_eq_true hbig;omega
  rw[zw,if_pos hbig]at h
  exact h _ S.ext
 have hsm:¬32<ss.length:=by have:=of_decide_eq_false hsm;omega
 rw[zw,if_neg hsm]at h
 refine gP_ ?_
 refine gP_ ?_
 refine gP_ ?_
 refine S.lit (e:=163) (cs:=[.func (.func Tryz.kQ) #[] #[.pointer (some ⟨b1,0,none⟩),.pointer (some ⟨b4,0,none⟩)],.func (.func Tryz.kR) #[] #[.pointer (some ⟨b1,0,none⟩)],.func (.func Tryz.kS) #[] #[.pointer (some ⟨b1,0,none⟩)]]) (by kernel_rfl) λb16 w4 S=>?_
 refine gP_ ?_
 have S:StX noX w r w4 [.cell b16 [.func (.func Tryz.kQ) #[] #[.pointer (some ⟨b1,0,none⟩),.pointer (some ⟨b4,0,none⟩)],.func (.func Tryz.kR) #[] #[.pointer (some ⟨b1,0,none⟩)],.func (.func Tryz.kS) #[] #[.pointer (some ⟨b1,0,none⟩)]] 163,
  .cell b4 [.int .i64 (ss.length:Nat)] 3,.cell b1 [.slice p ss.length cap] 22]:=S
 refine zh (ι:=Nat) (λi=>[.int .i64 i]) (λi w'=>i≤3∧(0<i→¬xG ss.length (xx ss)<ss.length)∧(1<i→¬xG ss.length (qZ ss)<ss.length)∧(2<i→¬xG ss.length (ZY ss)<ss.length)∧StX noX w r w' _) (λi=>3-i) 0 rfl
  ⟨by decide,λh=>by omega,λh=>by omega,λh=>by omega,S⟩ ?_
 clear S
 rintro i d w5 ⟨hi,h1,h2,h3,S⟩ K6 hK6
 rw[gdz]
 refine gP_ ?_
 match i,hi,h1,h2,h3 with
 |0,_,_,_,_=>
  refine c_t (by decide) ?_
  refine gP_ ?_
  refine S.ld (b:=b16) ?_ rfl
  refine S.ld (b:=b4) ?_ rfl
  refine YP (q:=xx ss) (by omega) (λi hi {w} {K} S k=>aa8 hi hs S k) S λw9 S=>?_
  refine S.ld (b:=b4) ?_ rfl
  refine gP_ ?_
  refine c_b (λhl=>?_) (λhl=>?_)
  ·rw[if_pos (by have:=of_decide_eq_true hl;omega)]at h
   exact h _ S.ext
  ·refine gP_ ?_
   exact hK6 1 _ ⟨by decide,λ_=>by have:=of_decide_eq_false hl;omega,λh=>by omega,λh=>by omega,S⟩ (by decide)
 |1,_,h1,_,_=>
  have h1:=h1 (by decide)
  rw[if_neg h1]at h
  refine c_t (by decide) ?_
  refine gP_ ?_
  refine S.ld (b:=b16) ?_ rfl
  refine S.ld (b:=b4) ?_ rfl
  refine YP (q:=qZ ss) (by omega) (λi hi {w} {K} S k=>aa9 hi (by omega) h1 hs S k) S λw9 S=>?_
  refine S.ld (b:=b4) ?_ rfl
  refine gP_ ?_
  refine c_b (λhl=>?_) (λhl=>?_)
  ·rw[if_pos (by have:=of_decide_eq_true hl;omega)]at h
   exact h _ S.ext
  ·refine gP_ ?_
   exact hK6 2 _ ⟨by decide,λ_=>h1,λ_=>by have:=of_decide_eq_false hl;omega,λh=>by omega,S⟩ (by decide)
 |2,_,h1,h2,_=>
  have h1:=h1 (by decide)
  have h2:=h2 (by decide)
  rw[if_neg h1,if_neg h2]at h
  refine c_t (by decide) ?_
  refine gP_ ?_
  refine S.ld (b:=b16) ?_ rfl
  refine S.ld (b:=b4) ?_ rfl
  refine YP (q:=ZY ss) (by omega) (λi hi {w} {K} S k=>aba hi (by omega) h1 h2 hs S k) S λw9 S=>?_
  refine S.ld (b:=b4) ?_ rfl
  refine gP_ ?_
  refine c_b (λhl=>?_) (λhl=>?_)
  ·rw[if_pos (by have:=of_decide_eq_true hl;omega)]at h
   exact h _ S.ext
  ·refine gP_ ?_
   exact hK6 3 _ ⟨by decide,λ_=>h1,λ_=>h2,λ_=>by have:=of_decide_eq_false hl;omega,S⟩ (by decide)
 |3,_,h1,h2,h3=>
  have h1:=h1 (by decide)
  have h2:=h2 (by decide)
  have h3:=h3 (by decide)
  rw[if_neg h1,if_neg h2,if_neg h3]at h
  refine c_f (by decide) ?_
  exact h _ S.ext
noncomputable def zP(ss:List StD)(t:TyD):Bool:=decide ((zw ss).2=0)&&zE ss.length 48 t
theorem Ys{ss:List StD}{t:TyD}(h:zP ss t=true):(zw ss).2=0∧zE ss.length 48 t=true:=by
 simpa [zP]using h
theorem Yi{ss:List StD}{t:TyD}{p:Option Addr}{cap:Nat}{w:World}{r:Gh}{v:Value}{K:Value→World→Prop}(hr:Holds r w)(hs:StG r p ss)(hv:TyG r v t)
  (h:∀w',Ext w w'→K (.bool (zP ss t)) w'):zd Tryz.prog Tryz.qU #[.slice p ss.length cap,v] w K:=by
 refine Tryz.ags ?_
 unfold Tryz.abt
 have hv0:=hv
 obtain⟨p1,cap1,rfl,_⟩:=hv
 have S:=St.start hr
 refine S.box λb3 w1 S=>?_
 refine Zs S.holds hs λw2 e2=>?_
 have S:=S.go e2
 refine gP_ ?_
 refine gP_ ?_
 refine gP_ ?_
 refine zt (c:=zE ss.length 48 t) (λ_ K2 hK2=>?_) λw3 e3=>h _ (S.go e3).ext
 refine gL_ ?_
 refine gP_ ?_
 exact XG 48 (by decide) S.holds hv0 λw3 e3=>hK2 _ e3
theorem afn{ss:List StD}{p:Option Addr}{cap:Nat}(hg:kx ss)(hac:∀k,¬Rch ss k k):∀(m:Nat){t:TyD}{w:World}{r:Gh}{v:Value}{K:Value→World→Prop},m≤100→rkT ss t≤m→zE ss.length 48 t=true→ss.length≤32→(∀k,(ze ss k).length≤8)→
  Holds r w→StG r p ss→TyG r v t→(∀w',Ext w w'→K (.bool (dF ss m t)) w')→zd Tryz.prog Tryz.j8 #[.slice p ss.length cap,v] w K:=by
 intro m
 induction m with
 |zero=>
  intro t w r v K _ hrk hl h32 h8 hr hs hv h
  have h5:¬t.k=5:=λh=>by unfold rkT at hrk;rw[if_pos h]at hrk;omega
  refine Tryz.Q9 ?_
  unfold Tryz.YM
  obtain⟨p1,cap1,rfl,_⟩:=hv
  have S:=St.start hr
  refine S.box λb2 w1 S=>?_
  refine S.box λb3 w2 S=>?_
  refine gG_ ?_
  refine c_b (λh3=>?_) (λh3=>?_)
  ·have:=h _ S.ext
   rwa[dF,h3]at this
  ·refine gG_ ?_
   refine c_b (λh5'=>absurd (of_decide_eq_true h5') h5) (λ_=>?_)
   have:=h _ S.ext
   rwa[dF,h3]at this
 |succ m ih=>
  intro t w r v K hm hrk hl h32 h8 hr hs hv h
  refine Tryz.Q9 ?_
  unfold Tryz.YM
  obtain⟨p1,cap1,rfl,_⟩:=hv
  have S:=St.start hr
  refine S.box λb2 w1 S=>?_
  refine S.box λb3 w2 S=>?_
  refine gG_ ?_
  refine c_b (λh3=>?_) (λh3=>?_)
  ·have:=h _ S.ext
   have h3':=of_decide_eq_true h3
   rwa[dF,if_neg (by omega),h3]at this
  refine gG_ ?_
  refine c_b (λh5=>?_) (λh5=>?_)
  ·have h5:t.k=5:=of_decide_eq_true h5
   obtain⟨hst0,hst1,_⟩:=jC hl h5
   have hlt:t.st.toNat<ss.length:=by omega
   obtain⟨b,off,q,capq,rfl,hcell,_,_,hf⟩:=xK hs hlt
   refine gG_ ?_
   refine zg (S.at hcell) ?_
   have htl:ze ss t.st=ss[t.st.toNat].fs.map (·.2):=by
    rw[← yD hlt];simp only[ze,tnc]
   have hlen:(ze ss t.st).length=ss[t.st.toNat].fs.length:=by rw[htl,List.length_map]
   have h88:=h8 t.st
   refine gP_ ?_
   refine Yr (g:=dF ss m) hf (by omega) (λf hfm {c} {w7} {K} hcl hty S hK=>?_) S λw8 S=>?_
   ·refine ac3 (by kernel_rfl) ?_
    refine Tryz.ab5 ?_
    unfold Tryz.Qd
    refine S.box λb4 w8 S=>?_
    have S:StX noX w r w8 (.cell b4 (.string f.1::c) 161::_):=S
    refine S.ld (b:=b2) ?_ rfl
    refine gP_ ?_
    refine S.fty hcl ?_
    have hmem:f.2∈ze ss t.st:=by rw[htl];exact List.mem_map.2 ⟨f,hfm,rfl⟩
    have hrk2:=ac6 hg hac h5 hmem
    exact ih (by omega) (by omega) (hg _ _ hmem) h32 h8 S.holds hs hty λw5 e5=>hK _ (S.go e5).tl
   ·rw[dF,if_pos h5,htl]at h
    exact h _ S.ext
  ·have:=h _ S.ext
   rwa[dF,if_neg (of_decide_eq_false h5),h3]at this
noncomputable def qN(ss:List StD)(t:TyD):Bool×Int:=if zP ss t then(dF ss 40 t,0)else(false,2)
theorem afo{ss:List StD}{t:TyD}{p:Option Addr}{cap:Nat}{w:World}{r:Gh}{v:Value}{K:Value→World→Prop}(hr:Holds r w)(hs:StG r p ss)(hv:TyG r v t)
  (h:∀w',Ext w w'→K (.tuple #[.bool (qN ss t).1,.int .i64 (qN ss t).2]) w'):zd Tryz.prog Tryz.YE #[.slice p ss.length cap,v] w K:=by
 refine Tryz.ad5 ?_
 unfold Tryz.Vj
 have hv0:=hv
 obtain⟨p1,cap1,rfl,_⟩:=hv
 have S:=St.start hr
 refine S.box λb3 w1 S=>?_
 refine gL_ ?_
 refine Yi S.holds hs hv0 λw2 e2=>?_
 have S:=S.go e2
 refine gP_ ?_
 refine c_b (λhn=>?_) (λhn=>?_)
 ·have hn:zP ss t=false:=by simpa using hn
  rw[qN,hn]at h
  exact h _ S.ext
 have hn:zP ss t=true:=by simpa using hn
 rw[qN,if_pos hn]at h
 obtain⟨hok,hl⟩:=Ys hn
 obtain⟨h32,hb1,hg,hac,_,_⟩:=xT hok
 refine gL_ ?_
 refine afn hg hac 40 (by decide) (by have:=ac5 ss t;omega) hl h32 (kA hb1) S.holds hs hv0 λw3 e3=>h _ (S.go e3).ext
theorem akv{s:Int}{n:Nat}{t:TyD}(h:zE s (n+1) t=true):(decide (t.regs.length=0))=(decide (t.k≠4)&&(decide (t.k≠3)||(match t.of with|u::_=>decide (u.regs.length=0)|[]=>false))):=by
 rcases yz h with⟨ho,hk⟩|⟨u,ho,_,hk⟩
 ·rw[ab9 ho,if_neg (by omega)]
  have h3:t.k≠3:=by omega
  have h4:t.k≠4:=by omega
  simp[h3,h4]
 ·rw[aca ho,ho]
  by_cases h4:t.k=4
  ·simp[h4]
  ·have h3:t.k=3:=by omega
   simp[h3]
theorem afp{s:Int}:∀(n:Nat){t:TyD}{w:World}{r:Gh}{v:Value}{K:Value→World→Prop},n≤1000→zE s n t=true→Holds r w→TyG r v t→
  (∀w',Ext w w'→K (.bool (decide (t.regs.length=0))) w')→zd Tryz.prog Tryz.vd #[v] w K:=by
 intro n
 induction n with
 |zero=>intro t w r v K _ h;cases h
 |succ n ih=>
  intro t w r v K hn hl hr hv h
  refine Tryz.ad8 ?_
  unfold Tryz.Vn
  obtain⟨p1,cap1,rfl,_,_,hof⟩:=hv
  have S:=St.start hr
  refine S.box λb1 w1 S=>?_
  refine gG_ ?_
  have hpl:=akv hl
  refine zn (λs w'=>s=(if t.k≠4 then [.bool (decide (t.k≠3))]else [u_])∧w'=w1) (λK2 hK2=>?_) ?_
  ·by_cases h4:t.k=4
   ·rw[decide_eq_false (by simpa using h4)]
    refine gD_ ?_
    exact hK2 _ _ ⟨by rw[if_neg (by simpa using h4)],rfl⟩
   ·rw[gde (by simpa using h4)]
    refine g_TT ?_
    refine gG_ ?_
    exact hK2 _ _ ⟨by rw[if_pos h4],rfl⟩
  rintro _ w1 ⟨rfl,rfl⟩ d
  by_cases h4:t.k=4
  ·rw[if_neg (by simpa using h4)]
   rw[show decide (t.k≠4)=false by simp[h4]]
   refine zn (λs w'=>s=[u_]∧w'=w1) (λK2 hK2=>?_) ?_
   ·refine gD_ ?_
    exact hK2 _ _ ⟨rfl,rfl⟩
   rintro _ w1 ⟨rfl,rfl⟩ d
   refine zn (λs w'=>s=[u_]∧w'=w1) (λK2 hK2=>?_) ?_
   ·refine gD_ ?_
    exact hK2 _ _ ⟨rfl,rfl⟩
   rintro _ w1 ⟨rfl,rfl⟩ d
   refine k_pickF ?_
   have:=h _ S.ext
   rw[hpl]at this
   simpa [h4]using this
  ·rw[if_pos h4,show decide (t.k≠4)=true by simp[h4],gdz]
   refine zn (λs w'=>s=[if t.k≠3 then u_ else .bool (decide (t.regs.length=0))]∧Ext w1 w') (λK2 hK2=>?_) ?_
   ·by_cases h3:t.k=3
    ·rw[decide_eq_false (by simpa using h3)]
     refine g_FF ?_
     refine gG_ ?_
     rcases yz hl with⟨_,hk⟩|⟨u,ho,hu,_⟩
     ·omega
     have hlen:t.of.length=1:=by rw[ho];rfl
     obtain⟨ba,oa,rfl,c,hc,hcell,ht⟩:=NdG.of hof (i:=0) (by omega)
     have ht:TyG r (.agg c.toArray) u:=by simpa [ho]using ht
     refine gG_ ?_
     refine zp (n:=5) hc (λj v hj=>by simpa using S.at (hcell j v hj)) ?_
     refine ih (by omega) hu S.holds ht λw2 e2=>hK2 _ _ ⟨?_,e2⟩
     rw[if_neg (by simpa using h3),hpl,ho]
     simp[h3]
    ·rw[gde (by simpa using h3)]
     refine g_TF ?_
     exact hK2 _ _ ⟨by rw[if_pos h3],.refl _⟩
   rintro _ w2 ⟨rfl,e2⟩ d
   have S:=S.go e2
   refine zn (λs w'=>s=[.bool (decide (t.regs.length=0))]∧w'=w2) (λK2 hK2=>?_) ?_
   ·refine g_TT ?_
    refine⟨_,rfl,?_⟩
    refine hK2 _ _ ⟨?_,rfl⟩
    by_cases h3:t.k=3
    ·simp[h3]
    ·rw[show decide (t.k≠3)=true by simp[h3],hpl];simp[h3,h4]
   rintro _ w3 ⟨rfl,rfl⟩ d
   refine k_pickT ?_
   exact h _ S.ext
theorem afq{ss:List StD}{p:Option Addr}{cap:Nat}(hg:kx ss)(hac:∀k,¬Rch ss k k):∀(m:Nat){t:TyD}{most:Nat}{w:World}{r:Gh}{v:Value}{K:Value→World→Prop},m≤100→most≤100→rkT ss t≤m→zE ss.length 48 t=true→ss.length≤32→(∀k,(ze ss k).length≤8)→
  Holds r w→StG r p ss→TyG r v t→(∀w',Ext w w'→K (.int .i64 (min (wF ss m t) (most+1):Nat)) w')→zd Tryz.prog Tryz.ve #[.slice p ss.length cap,v,.int .i64 (most:Nat)] w K:=by
 intro m
 induction m with
 |zero=>
  intro t most w r v K _ hmost hrk hl h32 h8 hr hs hv h
  have h5:¬t.k=5:=λh=>by unfold rkT at hrk;rw[if_pos h]at hrk;omega
  refine Tryz.Jd ?_
  unfold Tryz.YO
  obtain⟨p1,cap1,rfl,_⟩:=hv
  have S:=St.start hr
  refine S.box λb3 w1 S=>?_
  refine gG_ ?_
  refine zf (λ_=>?_) (λhn=>absurd (by omega) h5)
  have:=h _ S.ext
  rw[wF,show min 1 (most+1)=1 by omega]at this
  exact this
 |succ m ih=>
  intro t most w r v K hm hmost hrk hl h32 h8 hr hs hv h
  refine Tryz.Jd ?_
  unfold Tryz.YO
  obtain⟨p1,cap1,rfl,_⟩:=hv
  have S:=St.start hr
  refine S.box λb3 w1 S=>?_
  refine gG_ ?_
  refine zf (λhn=>?_) (λh5=>?_)
  ·have:=h _ S.ext
   rw[wF,if_neg (by omega),show min 1 (most+1)=1 by omega]at this
   exact this
  have h5:t.k=5:=by omega
  obtain⟨hst0,hst1,_⟩:=jC hl h5
  have hlt:t.st.toNat<ss.length:=by omega
  obtain⟨b,off,q,capq,rfl,hcell,_,_,hf⟩:=xK hs hlt
  refine gG_ ?_
  refine zg (S.at hcell) ?_
  have htl:ze ss t.st=ss[t.st.toNat].fs.map (·.2):=by
   rw[← yD hlt];simp only[ze,tnc]
  have hlen:(ze ss t.st).length=ss[t.st.toNat].fs.length:=by rw[htl,List.length_map]
  have h88:=h8 t.st
  refine zh (ι:=Nat) (λi=>[.int .i64 (min (yl (((ze ss t.st).take i).map (wF ss m))) (most+1):Nat),.int .i64 i]) (λi w'=>i≤(ze ss t.st).length∧St w r w' _)
   (λi=>(ze ss t.st).length-i) 0 (by simp[yl]) ⟨gzl _,S⟩ ?_
  clear S
  rintro i d w2 ⟨hi,S⟩ K6 hK6
  rw[gdz,gds,gdz]
  refine gP_ ?_
  refine gP_ ?_
  have hle:yl (((ze ss t.st).take i).map (wF ss m))≤wF ss (m+1) t:=by
   rw[wF,if_pos h5];exact aea _ _ _
  refine zi (c:=decide (yl (((ze ss t.st).take i).map (wF ss m))≤most)) (λ_ K2 hK2=>?_) ?_
  ·refine gP_ ?_
   rw[show decide (((min (yl (((ze ss t.st).take i).map (wF ss m))) (most+1):Nat):Int)≤(most:Int))=decide (yl (((ze ss t.st).take i).map (wF ss m))≤most)from decide_eq_decide.2 (by omega)]
   exact hK2
  refine c_b (λhlt2=>?_) (λhge=>?_)
  ·obtain⟨hlt2,hsm⟩:i<ss[t.st.toNat].fs.length∧yl (((ze ss t.st).take i).map (wF ss m))≤most:=by
    simp only[gba,gdt]at hlt2;omega
   have hlt3:i<(ze ss t.st).length:=by omega
   obtain⟨b2,off2,c,rfl,hcl,hcc,hty⟩:=qC hf hlt2
   refine gP_ ?_
   refine gP_ ?_
   refine zp (n:=5) (c:=c) hcl (λj v hj=>by
    have:=S.at (hcc (j+1) v (by simpa using hj))
    rw[tnc,Nat.add_assoc _ 1 j,Nat.add_comm 1 j];exact this) ?_
   have hel:(ze ss t.st)[i]=ss[t.st.toNat].fs[i].2:=by simp only[htl,List.getElem_map]
   have hmem:ss[t.st.toNat].fs[i].2∈ze ss t.st:=by rw[← hel];exact gem hlt3
   have hrk2:=ac6 hg hac h5 hmem
   refine gP_ ?_
   have e1:(most:Int)-((min (yl (((ze ss t.st).take i).map (wF ss m))) (most+1):Nat):Int)=((most-yl (((ze ss t.st).take i).map (wF ss m)):Nat):Int):=by omega
   rw[e1]
   refine ih (by omega) (by omega) (by omega) (hg _ _ hmem) h32 h8 S.holds hs hty λw5 e5=>?_
   have S:=S.go e5
   have hst:=VZ (wF ss m) hlt3
   rw[hel]at hst
   refine gP_ ?_
   refine gP_ ?_
   have e2:((min (yl (((ze ss t.st).take i).map (wF ss m))) (most+1):Nat):Int)+((min (wF ss m ss[t.st.toNat].fs[i].2) (most-yl (((ze ss t.st).take i).map (wF ss m))+1):Nat):Int)=((min (yl (((ze ss t.st).take (i+1)).map (wF ss m))) (most+1):Nat):Int):=by omega
   rw[e2,show ((i:Int)+1)=((i+1:Nat):Int)by omega]
   exact hK6 (i+1) _ ⟨hlt3,S⟩ (by omega)
  ·have:=h _ S.ext
   have e:min (wF ss (m+1) t) (most+1)=min (yl (((ze ss t.st).take i).map (wF ss m))) (most+1):=by
    by_cases hie:i=(ze ss t.st).length
    ·rw[hie,List.take_length,wF,if_pos h5]
    ·have h1:¬yl (((ze ss t.st).take i).map (wF ss m))≤most:=by
      intro hc
      rw[gde hc,Bool.and_true,decide_eq_false_iff_not]at hge
      omega
     omega
   rw[e]at this
   exact this
theorem afr{ss:List StD}{p:Option Addr}{cap:Nat}(hg:kx ss)(hac:∀k,¬Rch ss k k):∀(m:Nat){t:TyD}{w:World}{r:Gh}{v:Value}{K:Value→World→Prop},m≤100→rkT ss t≤m→zE ss.length 48 t=true→ss.length≤32→(∀k,(ze ss k).length≤8)→
  Holds r w→StG r p ss→TyG r v t→(∀w',Ext w w'→K (.bool (dF ss m t)) w')→zd Tryz.prog Tryz.j9 #[.slice p ss.length cap,v] w K:=by
 intro m
 induction m with
 |zero=>
  intro t w r v K _ hrk hl h32 h8 hr hs hv h
  have h5:¬t.k=5:=λh=>by unfold rkT at hrk;rw[if_pos h]at hrk;omega
  refine Tryz.Jc ?_
  unfold Tryz.YN
  obtain⟨p1,cap1,rfl,_⟩:=hv
  have S:=St.start hr
  refine S.box λb3 w1 S=>?_
  refine gG_ ?_
  refine zf (λ_=>?_) (λhn=>absurd (by omega) h5)
  refine gG_ ?_
  exact h _ S.ext
 |succ m ih=>
  intro t w r v K hm hrk hl h32 h8 hr hs hv h
  refine Tryz.Jc ?_
  unfold Tryz.YN
  obtain⟨p1,cap1,rfl,_⟩:=hv
  have S:=St.start hr
  refine S.box λb3 w1 S=>?_
  refine gG_ ?_
  refine zf (λhn=>?_) (λh5=>?_)
  ·refine gG_ ?_
   have:=h _ S.ext
   rw[dF,if_neg (by omega)]at this
   exact this
  have h5:t.k=5:=by omega
  obtain⟨hst0,hst1,_⟩:=jC hl h5
  have hlt:t.st.toNat<ss.length:=by omega
  obtain⟨b,off,q,capq,rfl,hcell,_,_,hf⟩:=xK hs hlt
  refine gG_ ?_
  refine zg (S.at hcell) ?_
  have htl:ze ss t.st=ss[t.st.toNat].fs.map (·.2):=by
   rw[← yD hlt];simp only[ze,tnc]
  have hlen:(ze ss t.st).length=ss[t.st.toNat].fs.length:=by rw[htl,List.length_map]
  have h88:=h8 t.st
  rw[dF,if_pos h5]at h
  refine zh (ι:=Nat) (λi=>[.int .i64 i]) (λi w'=>i≤(ze ss t.st).length∧((ze ss t.st).take i).any (dF ss m)=false∧St w r w' _)
   (λi=>(ze ss t.st).length-i) 0 rfl ⟨gzl _,by simp,S⟩ ?_
  clear S
  rintro i d w2 ⟨hi,hno,S⟩ K6 hK6
  rw[gdz]
  refine gP_ ?_
  refine gP_ ?_
  refine c_b (λhlt2=>?_) (λhge=>?_)
  ·have hlt2:i<ss[t.st.toNat].fs.length:=by simpa using hlt2
   have hlt3:i<(ze ss t.st).length:=by omega
   obtain⟨b2,off2,c,rfl,hcl,hcc,hty⟩:=qC hf hlt2
   refine gP_ ?_
   refine gP_ ?_
   refine zp (n:=5) (c:=c) hcl (λj v hj=>by
    have:=S.at (hcc (j+1) v (by simpa using hj))
    rw[tnc,Nat.add_assoc _ 1 j,Nat.add_comm 1 j];exact this) ?_
   have hel:(ze ss t.st)[i]=ss[t.st.toNat].fs[i].2:=by simp only[htl,List.getElem_map]
   have hmem:ss[t.st.toNat].fs[i].2∈ze ss t.st:=by rw[← hel];exact gem hlt3
   have hrk2:=ac6 hg hac h5 hmem
   refine ih (by omega) (by omega) (hg _ _ hmem) h32 h8 S.holds hs hty λw5 e5=>?_
   have S:=S.go e5
   refine c_b (λhy=>?_) (λhn=>?_)
   ·have:=h _ S.ext
    rwa[List.any_eq_true.2 ⟨_,hmem,hy⟩]at this
   ·refine gP_ ?_
    rw[show ((i:Int)+1)=((i+1:Nat):Int)by omega]
    refine hK6 (i+1) _ ⟨hlt3,?_,S⟩ (by omega)
    rw[List.take_succ_eq_append_getElem hlt3,List.any_append,hno,hel]
    simp[hn]
  ·have hie:i=(ze ss t.st).length:=by
    have :¬i<ss[t.st.toNat].fs.length:=by simpa using hge
    omega
   rw[hie,List.take_length]at hno
   have:=h _ S.ext
   rwa[hno]at this
theorem Jg{t:TyD}{w:World}{r:Gh}{v:Value}{K:Value→World→Prop}(hr:Holds r w)(hv:TyG r v t)(h:∀w',Ext w w'→K (.bool (kz t)) w'):zd Tryz.prog Tryz.jB #[v] w K:=by
 refine Tryz.acZ ?_
 unfold Tryz.Jb
 have hv0:=hv
 obtain⟨p1,cap1,rfl,_⟩:=hv
 have S:=St.start hr
 refine S.box λb1 w1 S=>?_
 refine gL_ ?_
 refine ac0 S.holds hv0 λw2 e2=>?_
 have S:=S.go e2
 have:=h _ S.ext
 rw[kz]at this
 cases hB:isB t
 ·rw[hB,Bool.false_and]at this
  (intro K9 hK9;refine gD_ ?_;refine hK9 _ _ λ_=>?_;clear hK9 K9)
  (intro K9 hK9;refine gD_ ?_;refine hK9 _ _ λ_=>?_;clear hK9 K9)
  (intro K9 hK9;refine gD_ ?_;refine hK9 _ _ λ_=>?_;clear hK9 K9)
  (intro K9 hK9;refine gD_ ?_;refine hK9 _ _ λ_=>?_;clear hK9 K9)
  (intro K9 hK9;refine gD_ ?_;refine hK9 _ _ λ_=>?_;clear hK9 K9)
  (intro K9 hK9;refine gD_ ?_;refine hK9 _ _ λ_=>?_;clear hK9 K9)
  (intro K9 hK9;refine gD_ ?_;refine hK9 _ _ λ_=>?_;clear hK9 K9)
  refine gD_ ?_
  exact this
 ·rw[hB,Bool.true_and]at this
  cases h1:decide (t.k=1)
  ·cases h2:decide (t.k=2)
   ·cases h4:decide (t.k=4)
    ·rw[h1,h2,h4]at this
     intro K9 hK9;refine g_TT ?_;refine gG_ ?_;rw[h1];refine hK9 _ _ λ_=>?_;clear hK9 K9
     intro K9 hK9;refine g_FF ?_;refine gG_ ?_;rw[h2];refine hK9 _ _ λ_=>?_;clear hK9 K9
     (intro K9 hK9;refine gD_ ?_;refine hK9 _ _ λ_=>?_;clear hK9 K9)
     intro K9 hK9;refine g_FF ?_;refine gG_ ?_;rw[h4];refine hK9 _ _ λ_=>?_;clear hK9 K9
     (intro K9 hK9;refine gD_ ?_;refine hK9 _ _ λ_=>?_;clear hK9 K9)
     (intro K9 hK9;refine gD_ ?_;refine hK9 _ _ λ_=>?_;clear hK9 K9)
     (intro K9 hK9;refine gD_ ?_;refine hK9 _ _ λ_=>?_;clear hK9 K9)
     refine gD_ ?_
     exact this
    ·rw[h1,h2,h4]at this
     intro K9 hK9;refine g_TT ?_;refine gG_ ?_;rw[h1];refine hK9 _ _ λ_=>?_;clear hK9 K9
     intro K9 hK9;refine g_FF ?_;refine gG_ ?_;rw[h2];refine hK9 _ _ λ_=>?_;clear hK9 K9
     (intro K9 hK9;refine gD_ ?_;refine hK9 _ _ λ_=>?_;clear hK9 K9)
     intro K9 hK9;refine g_FF ?_;refine gG_ ?_;rw[h4];refine hK9 _ _ λ_=>?_;clear hK9 K9
     (intro K9 hK9;refine gD_ ?_;refine hK9 _ _ λ_=>?_;clear hK9 K9)
     (intro K9 hK9;refine gD_ ?_;refine hK9 _ _ λ_=>?_;clear hK9 K9)
     (intro K9 hK9;refine gD_ ?_;refine hK9 _ _ λ_=>?_;clear hK9 K9)
     refine gD_ ?_
     simpa using this
   ·rw[h1,h2]at this
    intro K9 hK9;refine g_TT ?_;refine gG_ ?_;rw[h1];refine hK9 _ _ λ_=>?_;clear hK9 K9
    intro K9 hK9;refine g_FF ?_;refine gG_ ?_;rw[h2];refine hK9 _ _ λ_=>?_;clear hK9 K9
    (intro K9 hK9;refine gD_ ?_;refine hK9 _ _ λ_=>?_;clear hK9 K9)
    (intro K9 hK9;refine gD_ ?_;refine hK9 _ _ λ_=>?_;clear hK9 K9)
    (intro K9 hK9;refine gD_ ?_;refine hK9 _ _ λ_=>?_;clear hK9 K9)
    (intro K9 hK9;refine gD_ ?_;refine hK9 _ _ λ_=>?_;clear hK9 K9)
    (intro K9 hK9;refine gD_ ?_;refine hK9 _ _ λ_=>?_;clear hK9 K9)
    refine gD_ ?_
    exact this
  ·rw[h1]at this
   intro K9 hK9;refine g_TT ?_;refine gG_ ?_;rw[h1];refine hK9 _ _ λ_=>?_;clear hK9 K9
   (intro K9 hK9;refine gD_ ?_;refine hK9 _ _ λ_=>?_;clear hK9 K9)
   (intro K9 hK9;refine gD_ ?_;refine hK9 _ _ λ_=>?_;clear hK9 K9)
   (intro K9 hK9;refine gD_ ?_;refine hK9 _ _ λ_=>?_;clear hK9 K9)
   (intro K9 hK9;refine gD_ ?_;refine hK9 _ _ λ_=>?_;clear hK9 K9)
   (intro K9 hK9;refine gD_ ?_;refine hK9 _ _ λ_=>?_;clear hK9 K9)
   (intro K9 hK9;refine gD_ ?_;refine hK9 _ _ λ_=>?_;clear hK9 K9)
   refine gD_ ?_
   exact this
theorem ajp(n:Nat):yg (List.replicate n false)=List.replicate n (.bool false):=by rw[yg,List.map_replicate]
theorem amb(n:Nat):cf (List.replicate n false)=n:=by
 induction n with
 |zero=>rfl
 |succ n ih=>rw [List.replicate_succ,cf,ih];simp;omega
theorem ajq{T:List Int}{n:Nat}{j:Int}(h:n≤T.length):(T++[j]).drop n=T.drop n++[j]:=List.drop_append_of_le_length h
theorem ac8{ss:List StD}{p:Option Addr}{cap k:Nat}(hg:kx ss)(h32:ss.length≤32)(hk:k<ss.length)(h8:∀k,(ze ss k).length≤8){w:World}{r:Gh}{K:Value→World→Prop}(hr:Holds r w)(hs:StG r p ss)
  (h:∀w',Ext w w'→K (.bool (qZ ss k)) w'):zd Tryz.prog Tryz.Zi #[.slice p ss.length cap,.int .i64 k] w K:=by
 refine Tryz.ab8 ?_
 unfold Tryz.Qg
 have S:=St.start hr
 refine gP_ ?_
 refine S.mkS (z:=.bool false) (by omega) (by omega) λb13 w1 S=>?_
 rw[tnc,← ajp]at S
 refine S.lit (e:=3) (cs:=[.int .i64 k]) (by kernel_rfl) λb16 w2 S=>?_
 have S:=S.ownNil 3 1
 refine S.ap (Sl.blk (S.blk b16)) (λv17 w3 S=>?_) (by omega)
 rw[tnc]
 have S:StX noX w r w3 [.row v17 3 1 [(k:Int)].length (ints [(k:Int)]),.cell b13 (yg (List.replicate ss.length false)) 4]:=S.drop b16
 refine zh (ι:=List Int×Nat×List Bool×Value) (λi=>[i.2.2.2,.int .i64 i.2.1]) (λi w'=>QI ss k ss.length (i.1.drop i.2.1) i.2.2.1 none∧i.2.1≤i.1.length∧mt i.2.2.1 k=false∧cf i.2.2.1+i.1.length≤33∧StX noX w r w' [.row i.2.2.2 3 1 i.1.length (ints i.1),.cell b13 (yg i.2.2.1) 4])
  (λi=>2*cf i.2.2.1+(i.1.length-i.2.1)) ([(k:Int)],0,List.replicate ss.length false,v17) rfl ⟨QI.start (Nat.le_refl _) (by omega) (by omega),by simp,?_,by rw[amb,gls];omega,S⟩ ?_
 ·unfold mt;rw[ggd,List.getElem?_replicate];split<;>rfl
 clear S
 rintro⟨T,n,met,v⟩ d w4 ⟨hq,hn,hmk,hc33,S⟩ K4 hK4
 simp only at hq hn hmk hc33 S⊢
 rw[gdz,gds,gdz]
 have S0:=S
 obtain⟨pv,capv,rfl,hpv,hcv,_,hsl⟩:=S.rowS v
 refine gP_ ?_
 refine gP_ ?_
 refine c_b (λhlt=>?_) (λhge=>?_)
 ·have hlt:n<T.length:=by simpa using hlt
  obtain⟨x,hxT⟩:∃x,T[n]? = some x:=⟨_,gqg hlt⟩
  have hTn:T[n]=x:=by rw[gqg hlt]at hxT;exact Option.some.inj hxT
  have hdr:T.drop n=x::T.drop (n+1):=by rw[List.drop_eq_getElem_cons hlt,hTn]
  rw[hdr]at hq
  obtain⟨bq,oq,rfl,hcell⟩:=Xh hsl hlt
  rw[hTn]at hcell
  have hx:=hq.rng x List.mem_cons_self
  refine gP_ ?_
  refine zg (by simpa using hcell) ?_
  have hxn:x.toNat<ss.length:=by omega
  obtain⟨bs',os',q,capf,rfl,hcs,_,_,hf⟩:=xK hs hxn
  refine gP_ ?_
  refine gP_ ?_
  refine zg (S.at hcs) ?_
  have htl:ze ss x=ss[x.toNat].fs.map (·.2):=by
   rw[← yD hxn];simp only[ze,tnc]
  have hlen:(ze ss x).length=ss[x.toNat].fs.length:=by rw[htl,List.length_map]
  have h88:=h8 x
  refine zh (ι:=Nat×List Int×List Bool×Value) (λi=>[i.2.2.2,.int .i64 i.1]) (λi w'=>i.1≤(ze ss x).length∧QI ss k ss.length (i.2.1.drop (n+1)) i.2.2.1 (some (x,i.1))∧n+1≤i.2.1.length∧mt i.2.2.1 k=false∧cf i.2.2.1+i.2.1.length≤33∧
   2*cf i.2.2.1+(i.2.1.length-(n+1))≤2*cf met+(T.length-(n+1))∧StX noX w r w' [.row i.2.2.2 3 1 i.2.1.length (ints i.2.1),.cell b13 (yg i.2.2.1) 4]) (λi=>(ze ss x).length-i.1) (0,T,met,_) rfl ⟨gzl _,hq.pop,hlt,hmk,hc33,Nat.le_refl _,S⟩ ?_
  clear S
  rintro⟨i,T',met',v'⟩ d w5 ⟨hi,hq',hn',hmk',hc',hme,S⟩ K8 hK8
  simp only at hi hq' hn' hmk' hc' hme S⊢
  rw[gdz,gds,gdz]
  refine gP_ ?_
  refine gP_ ?_
  refine c_b (λhlt2=>?_) (λhge=>?_)
  ·have hlt2:i<ss[x.toNat].fs.length:=by simpa using hlt2
   have hlt3:i<(ze ss x).length:=by omega
   have hel:(ze ss x)[i]=ss[x.toNat].fs[i].2:=by simp only[htl,List.getElem_map]
   refine zn (λs w'=>∃T2 met2 v2,s=[v2]∧QI ss k ss.length (T2.drop (n+1)) met2 (some (x,i+1))∧n+1≤T2.length∧mt met2 k=false∧cf met2+T2.length≤33∧2*cf met2+T2.length≤2*cf met'+T'.length∧StX noX w r w' [.row v2 3 1 T2.length (ints T2),.cell b13 (yg met2) 4]) (λK12 hK12=>?_) ?_
   ·obtain⟨b2,off2,c,rfl,hcl,hcc,hty⟩:=qC hf hlt2
    refine gP_ ?_
    refine gP_ ?_
    refine zp (n:=5) (c:=c) hcl (λj v hj=>by
     have:=S.at (hcc (j+1) v (by simpa using hj))
     rw[tnc,Nat.add_assoc _ 1 j,Nat.add_comm 1 j];exact this) ?_
    refine S.al λb10 w6 S=>?_
    have hone:=ahX hty
    refine S.stB (λw7 S=>?_) rfl (by simpa using hcl) hone
    obtain⟨pt,capt,rfl,_⟩:=XI hty
    have S:StX noX w r w7 [.cell b10 [.int .u8 ss[x.toNat].fs[i].2.k,.bool ss[x.toNat].fs[i].2.m,.int .i64 ss[x.toNat].fs[i].2.re,.int .i64 ss[x.toNat].fs[i].2.st,.slice pt ss[x.toNat].fs[i].2.of.length capt] 112,.row v' 3 1 T'.length (ints T'),.cell b13 (yg met') 4]:=S
    refine gG_ ?_
    rw[← hel]
    refine c_b (λh5=>?_) (λh5=>?_)
    ·have h5:(ze ss x)[i].k≠5:=of_decide_eq_true h5
     exact hK12 _ _ ⟨T',met',v',rfl,hq'.skip hlt3 λe=>absurd e h5,hn',hmk',hc',Nat.le_refl _,S.tl⟩
    have h5:(ze ss x)[i].k=5:=by simpa using h5
    have hkid:Kid ss x (ze ss x)[i].st:=⟨_,gem hlt3,h5,rfl⟩
    have hin:=Zr hg hkid
    have hml:=hq'.len
    refine gG_ ?_
    rw[← hel]
    refine c_b (λhek=>?_) (λhek=>?_)
    ·have hek:(ze ss x)[i].st=k:=of_decide_eq_true hek
     have hR:Rch ss k k:=by
      rw[hek]at hkid
      rcases(hq'.s4 _ rfl).1 with hx|hx
      ·have hx:x=k:=hx
       rw[hx]at hkid;exact .one hkid
      ·exact .more hx hkid
     have:=h _ S.ext
     rw[← aaW (b:=true) (λ_=>hR) (λ_=>rfl)]at this
     exact this
    have hek:¬(ze ss x)[i].st=k:=of_decide_eq_false hek
    refine gG_ ?_
    rw[← hel]
    refine gP_ ?_
    refine S.ld (b:=b13) (v:=.bool (mt met' (ze ss x)[i].st)) ?_ (by rw[Nat.zero_add];exact XJ (by omega))
    refine gP_ ?_
    refine c_b (λhm=>?_) (λhm=>?_)
    ·have hm:mt met' (ze ss x)[i].st=false:=by simpa using hm
     refine gG_ ?_
     rw[← hel]
     refine gP_ ?_
     refine S.st (b:=b13) (λw8 S=>?_) (by rw[V1];omega)
     refine gG_ ?_
     rw[← hel]
     refine S.lit (e:=3) (cs:=[.int .i64 (ze ss x)[i].st]) (by kernel_rfl) λb49 w9 S=>?_
     refine S.ap (m':=1) (Sl.blk (S.blk b49)) (λv50 w10 S=>?_) (by omega)
     have hcf:=V0 (l:=met') (i:=(ze ss x)[i].st.toNat) (by
      unfold mt at hm
      rw[ggd,gqg (by omega)]at hm
      rw[gqg (by omega)]
      simpa using hm)
     refine hK12 _ _ ⟨T'++[(ze ss x)[i].st],met'.set (ze ss x)[i].st.toNat true,v50,rfl,?_,by rw[gla];omega,?_,by rw[gla,gls];omega,by rw[gla,gls];omega,?_⟩
     ·rw[ajq hn']
      exact hq'.push hg hlt3 h5
     ·rw[agx hin.1 (by omega) (by omega),hmk']
      simp only[Bool.or_false,decide_eq_false_iff_not]
      exactλe=>hek e.symm
     ·have e1:(yg met').set (0+(ze ss x)[i].st.toNat) (.bool true)=yg (met'.set (ze ss x)[i].st.toNat true):=by
       rw[Nat.zero_add,yg,yg,List.map_set]
      rw[e1]at S
      rw[gla,abw]
      exact S.tl.tl
    ·have hm:mt met' (ze ss x)[i].st=true:=by simpa using hm
     exact hK12 _ _ ⟨T',met',v',rfl,hq'.skip hlt3 λ_=>hm,hn',hmk',hc',Nat.le_refl _,S.tl⟩
   ·rintro _ w6 ⟨T2,met2,v2,rfl,hq2,hn2,hmk2,hc2,hme2,S⟩ d6
    rw[gdz]
    refine gP_ ?_
    rw[show ((i:Int)+1)=((i+1:Nat):Int)by omega]
    exact hK8 (i+1,T2,met2,v2) _ ⟨hlt3,hq2,hn2,hmk2,hc2,by simp only;omega,S⟩ (by simp only;omega)
  ·have hge:(ze ss x).length≤i:=by
    have :¬i<ss[x.toNat].fs.length:=by simpa using hge
    omega
   refine gP_ ?_
   rw[show ((n:Int)+1)=((n+1:Nat):Int)by omega]
   exact hK4 (T',n+1,met',v') _ ⟨hq'.done hge,hn',hmk',hc',S⟩ (by simp only;omega)
 ·have hge:T.length≤n:=by
   have :¬n<T.length:=by simpa using hge
   omega
  rw[List.drop_of_length_le hge]at hq
  have:=h _ S.ext
  rw[← aaW (b:=false) (λe=>by cases e) (λhR=>by rw[hq.all hg (by omega) hR]at hmk;cases hmk)]at this
  exact this
theorem ac9{ss:List StD}{p:Option Addr}{cap:Nat}{w:World}{r:Gh}{K:Value→World→Prop}(hr:Holds r w)(hs:StG r p ss)(hm:ss.length≤1000000000)(hmf:∀k,(ze ss k).length≤1000000000)
  (h:∀w',Ext w w'→K (.tuple #[.int .i64 (zw ss).1,.int .i64 (zw ss).2]) w'):zd Tryz.prog Tryz.Zh #[.slice p ss.length cap] w K:=by
 refine Tryz.ab7 ?_
 unfold Tryz.Qf
 have S:=St.start hr
 refine gP_ ?_
 refine gP_ ?_
 refine c_b (λhbig=>?_) (λhsm=>?_)
 ·have hbig:32<ss.length:=by have:=of_decide_eq_true hbig;omega
  rw[zw,if_pos hbig]at h
  exact h _ S.ext
 have hsm:¬32<ss.length:=by have:=of_decide_eq_false hsm;omega
 rw[zw,if_neg hsm]at h
 refine zh (ι:=Nat) (λi=>[.int .i64 i]) (λi w'=>i≤ss.length∧(∀j,j<i→xx ss j=false)∧StX noX w r w' []) (λi=>ss.length-i) 0 rfl ⟨gzl _,λj hj=>by omega,S⟩ ?_
 clear S
 rintro i d w1 ⟨hi,hb,S⟩ K1 hK1
 rw[gdz]
 refine gP_ ?_
 refine gP_ ?_
 refine c_b (λhlt=>?_) (λhge=>?_)
 ·have hlt:i<ss.length:=by simpa using hlt
  have hbadd:xx ss i=true→∀w',Ext w w'→K (.tuple #[.int .i64 (i:Nat),.int .i64 2]) w':=λhbd w' e=>by
   have hf:=jt hlt hbd hb
   have:=h w' e
   rw[hf,if_pos hlt]at this
   exact this
  obtain⟨b,off,q,capq,rfl,hcell,hq0,hqc,hf⟩:=xK hs hlt
  refine gP_ ?_
  refine gP_ ?_
  refine zg (by rw[tnc];exact S.at hcell) ?_
  have hlen:=vQ hlt
  have htl:=yD hlt
  have hmf':=hmf i
  refine gP_ ?_
  refine gP_ ?_
  refine zj (c:=decide (8<(ze ss i).length)) (λ_ K2 hK2=>?_) ?_
  ·refine gP_ ?_
   refine gP_ ?_
   rw[show decide ((8:Int)<(ss[i].fs.length:Int))=decide (8<(ze ss i).length)from decide_eq_decide.2 (by omega)]
   exact hK2
  rw[show decide ((ss[i].fs.length:Int)<1)=decide ((ze ss i).length<1)from decide_eq_decide.2 (by omega)]
  refine c_b (λhl=>?_) (λhl=>?_)
  ·refine hbadd ?_ _ S.ext
   rw[xx,hl];rfl
  refine zh (ι:=Nat) (λk=>[.int .i64 k]) (λk w'=>k≤(ze ss i).length∧(((ze ss i).take k).any λt=>!zE ss.length 48 t||decide (0<t.regs.length))=false∧StX noX w r w' []) (λk=>(ze ss i).length-k) 0 rfl ⟨gzl _,by simp,S⟩ ?_
  clear S
  rintro k d w2 ⟨hk,hno,S⟩ K9 hK9
  rw[gdz]
  refine gP_ ?_
  refine gP_ ?_
  refine c_b (λhlt2=>?_) (λhge2=>?_)
  ·have hlt2:k<ss[i].fs.length:=by simpa using hlt2
   have hlt3:k<(ze ss i).length:=by omega
   have hel:(ze ss i)[k]=ss[i].fs[k].2:=by simp only[htl,List.getElem_map]
   obtain⟨b2,off2,c,rfl,hcl,hcc,hty⟩:=qC hf hlt2
   have hrd:∀{w9:World}{K:Value→Prop},StX noX w r w9 []→K (.agg c.toArray)→opQ Tryz.prog w9 (Instr.loadAt 112 (.pointer (some ⟨b2,off2+((k:Int)).toNat*6+1,none⟩))) K:=λS k=>zp (n:=5) (c:=c) hcl (λj v hj=>by
    have:=S.at (hcc (j+1) v (by simpa using hj))
    rw[tnc,Nat.add_assoc _ 1 j,Nat.add_comm 1 j];exact this) k
   refine gP_ ?_
   refine gP_ ?_
   refine hrd S ?_
   refine gP_ ?_
   refine XH 48 (by decide) S.holds hty λw3 e3=>?_
   have S:=S.go e3
   refine gP_ ?_
   refine x8 (c:=decide (0<ss[i].fs[k].2.regs.length)) (λhl K2 hK2=>?_) λw4 e4=>?_
   ·have hl:zE ss.length 48 ss[i].fs[k].2=true:=by simpa using hl
    refine gP_ ?_
    refine gP_ ?_
    refine hrd S ?_
    refine afp 48 (by decide) hl S.holds hty λw4 e4=>?_
    refine gP_ ?_
    rw[show (!decide (ss[i].fs[k].2.regs.length=0))=decide (0<ss[i].fs[k].2.regs.length)by
     rw[← decide_not];exact decide_eq_decide.2 (by omega)]
    exact hK2 _ e4
   have S:=S.go e4
   refine c_b (λhy=>?_) (λhn=>?_)
   ·refine hbadd ?_ _ S.ext
    have :((ze ss i).any λt=>!zE ss.length 48 t||decide (0<t.regs.length))=true:=List.any_eq_true.2 ⟨_,gem hlt3,by rw[hel];exact hy⟩
    rw[xx,this,Bool.or_true]
   ·refine gP_ ?_
    rw[show ((k:Int)+1)=((k+1:Nat):Int)by omega]
    refine hK9 (k+1) _ ⟨hlt3,?_,S⟩ (by omega)
    rw[List.take_succ_eq_append_getElem hlt3,List.any_append,hno,hel]
    simp only[List.any_cons,List.any_nil,Bool.false_or,Bool.or_false]
    exact hn
  ·have hie:k=(ze ss i).length:=by
    have :¬k<ss[i].fs.length:=by simpa using hge2
    omega
   rw[hie,List.take_length]at hno
   refine gP_ ?_
   rw[show ((i:Int)+1)=((i+1:Nat):Int)by omega]
   refine hK1 (i+1) _ ⟨hlt,λj hj=>?_,S⟩ (by omega)
   by_cases hji:j=i
   ·rw[hji,xx,hl,hno];rfl
   ·exact hb j (by omega)
 have hie:i=ss.length:=by
  have :¬i<ss.length:=by simpa using hge
  omega
 rw[hie]at hb
 have h1:¬xG ss.length (xx ss)<ss.length:=by rw[js hb];omega
 rw[if_neg h1]at h
 have hgd:=Jf hb
 refine zh (ι:=Nat) (λi=>[.int .i64 i]) (λi w'=>i≤ss.length∧(∀j,j<i→qZ ss j=false)∧StX noX w r w' []) (λi=>ss.length-i) 0 rfl ⟨gzl _,λj hj=>by omega,S⟩ ?_
 clear S hie hge hi
 rintro i d w5 ⟨hi,hb2,S⟩ K1 hK1
 rw[gdz]
 refine gP_ ?_
 refine gP_ ?_
 refine c_b (λhlt=>?_) (λhge=>?_)
 ·have hlt:i<ss.length:=by simpa using hlt
  refine ac8 hgd (by omega) hlt (kA hb) S.holds hs λw6 e6=>?_
  have S:=S.go e6
  refine c_b (λhy=>?_) (λhn=>?_)
  ·have hf:=jt hlt hy hb2
   rw[hf,if_pos hlt]at h
   exact h _ S.ext
  ·refine gP_ ?_
   rw[show ((i:Int)+1)=((i+1:Nat):Int)by omega]
   refine hK1 (i+1) _ ⟨hlt,λj hj=>?_,S⟩ (by omega)
   by_cases hji:j=i
   ·rw[hji];exact hn
   ·exact hb2 j (by omega)
 have hie:i=ss.length:=by
  have :¬i<ss.length:=by simpa using hge
  omega
 rw[hie]at hb2
 have h2:¬xG ss.length (qZ ss)<ss.length:=by rw[js hb2];omega
 rw[if_neg h2]at h
 have hac:=aaV hgd hb2
 refine zh (ι:=Nat) (λi=>[.int .i64 i]) (λi w'=>i≤ss.length∧(∀j,j<i→ZY ss j=false)∧StX noX w r w' []) (λi=>ss.length-i) 0 rfl ⟨gzl _,λj hj=>by omega,S⟩ ?_
 clear S hie hge hi
 rintro i d w5 ⟨hi,hb3,S⟩ K1 hK1
 rw[gdz]
 refine gP_ ?_
 refine gP_ ?_
 refine c_b (λhlt=>?_) (λhge=>?_)
 ·have hlt:i<ss.length:=by simpa using hlt
  refine zy (cs:=#[.int .u8 5,.bool false,.int .i64 0,.int .i64 i,.slice none 0 0]) (by kernel_rfl) ?_
  refine afq hgd hac 40 (t:=.mk 5 false 0 i []) (most:=16) (by decide) (by decide) (by have:=ac5 ss (.mk 5 false 0 i []);omega) ?_ (by omega) (kA hb) S.holds hs (xJ (r:=r)) λw9 e9=>?_
  ·rw[xS]
   simp[TyD.k,TyD.m,TyD.re,TyD.of,TyD.st]
   omega
  have S:=S.go e9
  refine gP_ ?_
  rw[show decide ((((min (wF ss 40 (.mk 5 false 0 i [])) (16+1):Nat):Int))>16)=decide (16<wF ss 40 (.mk 5 false 0 i []))from decide_eq_decide.2 (by omega)]
  refine c_b (λhy=>?_) (λhn=>?_)
  ·have hf:=jt (p:=ZY ss) hlt hy hb3
   rw[hf,if_pos hlt]at h
   exact h _ S.ext
  ·refine gP_ ?_
   rw[show ((i:Int)+1)=((i+1:Nat):Int)by omega]
   refine hK1 (i+1) _ ⟨hlt,λj hj=>?_,S⟩ (by omega)
   by_cases hji:j=i
   ·rw[hji];exact hn
   ·exact hb3 j (by omega)
 have hie:i=ss.length:=by
  have :¬i<ss.length:=by simpa using hge
  omega
 rw[hie]at hb3
 have h3:¬xG ss.length (ZY ss)<ss.length:=by rw[js hb3];omega
 rw[if_neg h3]at h
 exact h _ S.ext
theorem abx{ss:List StD}{t:TyD}{p:Option Addr}{cap:Nat}{w:World}{r:Gh}{v:Value}{K:Value→World→Prop}(hr:Holds r w)(hs:StG r p ss)(hm:ss.length≤1000000000)(hmf:∀k,(ze ss k).length≤1000000000)(hv:TyG r v t)
  (h:∀w',Ext w w'→K (.bool (zP ss t)) w'):zd Tryz.prog Tryz.Yd #[.slice p ss.length cap,v] w K:=by
 refine Tryz.agt ?_
 unfold Tryz.abu
 have hv0:=hv
 obtain⟨p1,cap1,rfl,_⟩:=hv
 have S:=St.start hr
 refine S.box λb3 w1 S=>?_
 refine ac9 S.holds hs hm hmf λw2 e2=>?_
 have S:=S.go e2
 refine gP_ ?_
 refine gP_ ?_
 refine gP_ ?_
 refine zt (c:=zE ss.length 48 t) (λ_ K2 hK2=>?_) λw3 e3=>h _ (S.go e3).ext
 refine gL_ ?_
 refine gP_ ?_
 exact XH 48 (by decide) S.holds hv0 λw3 e3=>hK2 _ e3
theorem afs{ss:List StD}{t:TyD}{p:Option Addr}{cap:Nat}{w:World}{r:Gh}{v:Value}{K:Value→World→Prop}(hr:Holds r w)(hs:StG r p ss)(hm:ss.length≤1000000000)(hmf:∀k,(ze ss k).length≤1000000000)(hv:TyG r v t)
  (h:∀w',Ext w w'→K (.tuple #[.bool (qN ss t).1,.int .i64 (qN ss t).2]) w'):zd Tryz.prog Tryz.YG #[.slice p ss.length cap,v] w K:=by
 refine Tryz.ad7 ?_
 unfold Tryz.Vm
 have hv0:=hv
 obtain⟨p1,cap1,rfl,_⟩:=hv
 have S:=St.start hr
 refine S.box λb3 w1 S=>?_
 refine gL_ ?_
 refine abx S.holds hs hm hmf hv0 λw2 e2=>?_
 have S:=S.go e2
 refine gP_ ?_
 refine c_b (λhn=>?_) (λhn=>?_)
 ·have hn:zP ss t=false:=by simpa using hn
  rw[qN,hn]at h
  exact h _ S.ext
 have hn:zP ss t=true:=by simpa using hn
 rw[qN,if_pos hn]at h
 obtain⟨hok,hl⟩:=Ys hn
 obtain⟨h32,hb1,hg,hac,_,_⟩:=xT hok
 refine gL_ ?_
 exact afr hg hac 40 (by decide) (by have:=ac5 ss t;omega) hl h32 (kA hb1) S.holds hs hv0 λw3 e3=>h _ (S.go e3).ext
def un(gs:Nat→Gh)(i n:Nat):Gh:=λb o=>∃j,i≤j∧j<n∧gs j b o
structure amc(top:Gh)(gs:Nat→Gh)(q:Option Addr)(ts:List TyD):Prop where
 at':∀(i:Nat)(hi:i<ts.length),∃(b off:Nat)(c:List Value),q=some ⟨b,off,none⟩∧c.length=5∧(∀j v,c[j]? = some v→Ob top λw=>w.cell? ⟨b,off+i*5+j,none⟩=some v)∧TyG (gs i) (.agg c.toArray) ts[i]∧ad9 (gs i) (.agg c.toArray) ts[i]
 dis:∀i j,i≠j→i<ts.length→j<ts.length→Dis (gs i) (gs j)
 dtop:∀i,i<ts.length→Dis (gs i) top
def TysG(s:Gh)(q:Option Addr)(ts:List TyD):Prop:=
 ∀(i:Nat)(hi:i<ts.length),∃(b off:Nat)(c:List Value),q=some ⟨b,off,none⟩∧c.length=5∧(∀j v,c[j]? = some v→Ob s λw=>w.cell? ⟨b,off+i*5+j,none⟩=some v)∧TyG s (.agg c.toArray) ts[i]
theorem ChnL.frz2{X:Nat→Prop}{w0 w:World}{c:List Value}{t:TyD}{N:List Asr}(h:ChnL c t N):∀{r:Gh}{L:List Asr},StX X w0 r w (N++L)→
  ∃sn,StX X w0 (r.or sn) w L∧TyG sn (.agg c.toArray) t∧ad9 sn (.agg c.toArray) t∧(∀b o,sn b o→w0.heap.size≤b∨X b)∧Dis sn r:=by
 induction h with
 |nil=>
  intro r L S
  exact⟨nothing,S.to _,xJ,.nil,λ_ _ h=>h.elim,λ_ _ _ h=>h.elim⟩
 |@one b c k re st m u N hu ih=>
  intro r L S
  have S:StX X w0 r w (N++(.cell b c 112::L)):=S.perm List.perm_middle.symm
  have hm0:=S.mine (.cell b c 112) (by simp) b rfl
  obtain⟨sn,S,ht,hg,hf,hd⟩:=ih S
  have hm:=S.mine (.cell b c 112) (by simp) b rfl
  have S:=S.frz
  refine⟨sn.or (Go.Sh.one b c 112),S.to _,ajo ht,.one (λo ho=>hm.2 o (.inr ho)) hu.len ht hg,λb' o ho=>?_,λb' o o' ho hr=>?_⟩
  ·rcases ho with ho|⟨rfl,_⟩
   ·exact hf b' o ho
   ·exact hm.1
  ·rcases ho with ho|⟨rfl,_⟩
   ·exact hd b' o o' ho hr
   ·exact hm0.2 o' hr
theorem alu{c:List Value}{t:TyD}{N:List Asr}(h:ChnL c t N):abX Tryz.prog 70 1 #[(0,.agg c.toArray)]=some (112,c):=by
 cases h<;>kernel_rfl
noncomputable def yy(ss:List StD)(t:TyD):List TyD×Int:=if zP ss t&&decide (t.k=5)then(ze ss t.st,0)else([],2)
theorem aeb{ss:List StD}{t:TyD}{p:Option Addr}{cap:Nat}{w:World}{r:Gh}{v:Value}{K:Value→World→Prop}(hr:Holds r w)(hs:StG r p ss)(hv:TyG r v t)
  (h:∀q cp top gs w',Ext w w'→New w (top.or (un gs 0 (yy ss t).1.length)) w'→amc top gs q (yy ss t).1→(yy ss t).1.length≤cp→K (.tuple #[.slice q (yy ss t).1.length cp,.int .i64 (yy ss t).2]) w'):zd Tryz.prog Tryz.ZQ #[.slice p ss.length cap,v] w K:=by
 refine Tryz.acV ?_
 unfold Tryz.Q7
 have hv0:=hv
 obtain⟨p1,cap1,rfl,_⟩:=hv
 have S:=St.start hr
 refine S.box λb3 w1 S=>?_
 refine gL_ ?_
 refine Yi S.holds hs hv0 λw2 e2=>?_
 have S:=S.go e2
 refine gP_ ?_
 refine zj (c:=decide (t.k≠5)) (λ_ K2 hK2=>?_) ?_
 ·refine gG_ ?_
  exact hK2
 refine c_b (λhn=>?_) (λhn=>?_)
 ·have hn:(zP ss t&&decide (t.k=5))=false:=by
   cases hm:zP ss t
   ·rfl
   ·rw[hm]at hn;simpa using hn
  rw[yy,hn]at h
  exact h none 0 nothing (λ_=>nothing) _ S.ext ⟨λb o ho=>by rcases ho with ho|⟨_,_,_,ho⟩<;>exact ho.elim,λb o ho=>by rcases ho with ho|⟨_,_,_,ho⟩<;>exact ho.elim⟩
   ⟨λi hi=>by simp at hi,λi j _ hi=>by simp at hi,λi hi=>by simp at hi⟩ (Nat.le_refl _)
 have hn:zP ss t=true∧t.k=5:=by
  cases hm:zP ss t
  ·rw[hm]at hn;simp at hn
  ·rw[hm]at hn;exact⟨rfl,by simpa using hn⟩
 obtain⟨hm,h5⟩:=hn
 rw[yy,hm,gde h5]at h
 simp only[Bool.and_true,if_true]at h
 obtain⟨hok,hl⟩:=Ys hm
 obtain⟨h32,hb1,hg,hac,_,_⟩:=xT hok
 obtain⟨hst0,hst1,_⟩:=jC hl h5
 have hlt:t.st.toNat<ss.length:=by omega
 obtain⟨b,off,q,capq,rfl,hcell,_,_,hf⟩:=xK hs hlt
 have htl:ze ss t.st=ss[t.st.toNat].fs.map (·.2):=by
  rw[← yD hlt];simp only[ze,tnc]
 have hlen:(ze ss t.st).length=ss[t.st.toNat].fs.length:=by rw[htl,List.length_map]
 have h88:=kA hb1 t.st
 refine gG_ ?_
 refine zg (S.at hcell) ?_
 refine gP_ ?_
 have S:=S.tl
 have S:=S.ownNil 112 5
 have S:=S.to (r.or (un (λ_=>nothing) 0 0)) (l:=⟨λb o ho=>by rcases ho with ho|⟨_,_,h2,_⟩;exact ho;omega⟩)
 refine zh (ι:=Nat×Value×List Value×(Nat→Gh)) (λi=>[i.2.1,.int .i64 i.1]) (λi w'=>i.1≤(ze ss t.st).length∧i.2.2.1.length=i.1*5∧
   (∀j (hj:j<(ze ss t.st).length),j<i.1→((i.2.2.1.drop (j*5)).take 5).length=5∧TyG (i.2.2.2 j) (.agg ((i.2.2.1.drop (j*5)).take 5).toArray) (ze ss t.st)[j]∧ad9 (i.2.2.2 j) (.agg ((i.2.2.1.drop (j*5)).take 5).toArray) (ze ss t.st)[j])∧
   (∀j,j<i.1→∀b o,i.2.2.2 j b o→w.heap.size≤b)∧(∀j k,j≠k→j<i.1→k<i.1→Dis (i.2.2.2 j) (i.2.2.2 k))∧StX noX w (r.or (un i.2.2.2 0 i.1)) w' [.row i.2.1 112 5 i.1 i.2.2.1])
  (λi=>(ze ss t.st).length-i.1) (0,.slice none 0 0,[],λ_=>nothing) rfl ⟨gzl _,rfl,λj _ hj=>by omega,λj hj=>by omega,λj k _ hj=>by omega,S⟩ ?_
 clear S
 rintro⟨i,v,xs,gs⟩ d w3 ⟨hi,hxl,hel,hfr,hdis,S⟩ K7 hK7
 simp only at hi hxl hel hfr hdis S⊢
 rw[gdz,gds,gdz]
 refine gP_ ?_
 refine c_b (λhlt2=>?_) (λhge=>?_)
 ·have hlt2:i<ss[t.st.toNat].fs.length:=by simpa using hlt2
  have hlt3:i<(ze ss t.st).length:=by omega
  have hel2:(ze ss t.st)[i]=ss[t.st.toNat].fs[i].2:=by simp only[htl,List.getElem_map]
  have hmem:ss[t.st.toNat].fs[i].2∈ze ss t.st:=by rw[← hel2];exact gem hlt3
  obtain⟨b2,off2,c,rfl,hcl,hcc,hty⟩:=qC hf hlt2
  refine gP_ ?_
  refine zp (n:=6) (c:=.string ss[t.st.toNat].fs[i].1::c) (by simp[hcl]) (λj v hj=>by rw[tnc];exact S.at (hcc j v hj)) ?_
  refine S.al λb8 w4 S=>?_
  refine S.stB (b:=b8) (cs:=(Value.string ss[t.st.toNat].fs[i].1::c).toArray) (λw5 S=>?_) rfl (by simp[hcl]) (acb hty)
  refine gP_ ?_
  refine S.fty hcl ?_
  refine ahx (s:=ss.length) 48 (by decide) (hg _ _ hmem) S.tl hty.up λc' N w6 hch S=>?_
  have hcl':=hch.len
  have hone':=hch.ones
  obtain⟨sn,S,ht,hcg,hfn,hdn⟩:=hch.frz2 S
  refine S.lit (e:=112) (cs:=c') (alu hch) λb33 w7 S=>?_
  refine S.ap (m':=1) (Sl.blk (S.blk b33)) (λv34 w8 S=>?_) (by omega) (by omega) (by simp) hone'
  have S:=S.tl
  refine gP_ ?_
  rw[show ((i:Int)+1)=((i+1:Nat):Int)by omega]
  refine hK7 (i+1,v34,xs++c',λj=>if j=i then sn else gs j) _ ⟨hlt3,by simp only[gla];omega,λj hj hji=>?_,λj hj b o ho=>?_,λj k hjk hj hk=>?_,?_⟩ (by simp only;omega)
  ·by_cases hji':j=i
   ·subst hji'
    simp only[if_true]
    have e:((xs++c').drop (j*5)).take 5=c':=by
     rw[← hxl,List.drop_left',List.take_of_length_le (by omega)];rfl
    rw[e,hel2]
    exact⟨hcl',ht,hcg⟩
   ·simp only[if_neg hji']
    have e:((xs++c').drop (j*5)).take 5=(xs.drop (j*5)).take 5:=by
     rw[List.drop_append_of_le_length (by omega),List.take_append_of_le_length (by rw[List.length_drop];omega)]
    rw[e]
    exact hel j hj (by omega)
  ·simp only at ho
   split at ho
   ·exact(hfn b o ho).elim id λh=>h.elim
   ·exact hfr j (by omega) b o ho
  ·simp only
   by_cases h1:j=i
   ·rw[if_pos h1,if_neg (by omega)]
    exactλb o o' ho ho'=>hdn b o o' ho (.inr ⟨k,gzl _,by omega,ho'⟩)
   ·rw[if_neg h1]
    by_cases h2:k=i
    ·rw[if_pos h2]
     exactλb o o' ho ho'=>hdn b o' o ho' (.inr ⟨j,gzl _,by omega,ho⟩)
    ·rw[if_neg h2]
     exact hdis j k hjk (by omega) (by omega)
  ·simp only
   exact S.to _ (l:=⟨λb o ho=>by
    rcases ho with ho|⟨j,_,hj,ho⟩
    ·exact .inl (.inl ho)
    ·split at ho
     ·exact .inr ho
     ·exact .inl (.inr ⟨j,gzl _,by omega,ho⟩)⟩)
 ·have hge:i=(ze ss t.st).length:=by
   have :¬i<ss[t.st.toNat].fs.length:=by simpa using hge
   omega
  subst hge
  have hpos:(ze ss t.st).length≠0:=by
   have:=hb1 t.st.toNat hlt
   have e:ze ss (t.st.toNat:Int)=ze ss t.st:=by rw[ze,ze,tnc]
   rw[xx,e,Bool.or_eq_false_iff,Bool.or_eq_false_iff]at this
   simp only[decide_eq_false_iff_not]at this
   omega
  obtain⟨b9,cap9,c9,rfl,hc9,hcl9,htk9,S⟩:=S.rowCell v hpos
  have hm9:=S.mine (.cell b9 c9 112) (by simp) b9 rfl
  have S:=S.frz
  refine h _ _ (Go.Sh.one b9 c9 112) gs _ S.ext ⟨S.holds.le (h:=⟨λb o ho=>by
   rcases ho with ho|ho
   ·exact .inr ho
   ·exact .inl (.inr ho)⟩),λb o ho=>?_⟩ ⟨λj hj=>?_,λj k hjk hj hk=>hdis j k hjk hj hk,λj hj b o o' ho ho'=>?_⟩ hc9
  ·rcases ho with⟨rfl,_⟩|⟨j,_,hj,ho⟩
   ·exact hm9.1.resolve_right id
   ·exact hfr j hj b o ho
  ·obtain⟨h1,h2,h3⟩:=hel j hj hj
   refine⟨b9,0,_,rfl,h1,λk v hk w' hw=>?_,h2,h3⟩
   have B:=yH (b:=b9) (c:=c9) (T:=112) w' hw
   show w'.cell? _=some v
   rw[Nat.zero_add,B.cell]
   have hk5:k<5:=by have:=(List.getElem?_eq_some_iff.1 hk).1;omega
   rw[List.getElem?_take,if_pos hk5,List.getElem?_drop,← htk9,List.getElem?_take]at hk
   split at hk
   ·exact hk
   ·cases hk
  ·obtain⟨rfl,_⟩:=ho'
   exact hm9.2 o (.inr ⟨j,gzl _,hj,ho⟩)
theorem alv{r:Gh}{cs c:List Value}{u:TyD}{b cap:Nat}{k re st:Int}{m:Bool}(h:TyG r (.agg cs.toArray) u)(hc:c.take 5=cs)(hcap:1≤cap):
  TyG (r.or (Go.Sh.one b c 112)) (.agg #[.int .u8 k,.bool m,.int .i64 re,.int .i64 st,.slice (some ⟨b,0,none⟩) 1 cap]) (.mk k m re st [u]):=by
 obtain⟨c1,hc1,hcl,hr⟩:=h.rep
 have hc1:cs=c1:=List.toArray_inj (Value.agg.inj hc1)
 subst hc1
 refine⟨_,cap,rfl,by simp,hcap,?_⟩
 refine⟨⟨cs,hcl,λj x hj=>⟨b,0,rfl,λw hw=>?_⟩,hr.up⟩,trivial⟩
 have B:=yH (b:=b) (c:=c) (T:=112) w (hw.le (h:=inferInstance))
 show w.cell? ⟨b,0+0*5+j,none⟩=some x
 rw[show 0+0*5+j=j by omega,B.cell]
 rw[← hc,List.getElem?_take]at hj
 split at hj
 ·exact hj
 ·cases hj
theorem ahy{s:Int}:∀(n:Nat){t:TyD}{w:World}{r:Gh}{v:Value}{K:Value→World→Prop},n≤1000→zE s n t=true→Holds r w→TyG r v t→
  (∀v' sn w',Ext w w'→New w sn w'→TyG sn v' t→K v' w')→zd Tryz.prog Tryz.Ye #[v] w K:=by
 intro n
 induction n with
 |zero=>intro t w r v K _ h;cases h
 |succ n ih=>
  intro t w r v K hn hl hr hv h
  refine Tryz.agu ?_
  unfold Tryz.abv
  obtain⟨p1,cap1,rfl,hp1,hcap1,hof⟩:=hv
  have S:=St.start hr
  refine S.box λb1 w1 S=>?_
  refine S.al λb2 w2 S=>?_
  have S:StX noX w r w2 [.cell b2 [.int .u8 0,.bool false,.int .i64 0,.int .i64 0,.slice none 0 0] 112,.cell b1 [.int .u8 t.k,.bool t.m,.int .i64 t.re,.int .i64 t.st,.slice p1 t.of.length cap1] 112]:=S
  have he:t=.mk t.k t.m t.re t.st t.of:=by cases t;rfl
  refine gG_ ?_
  refine S.st λw3 S=>?_
  have fin:∀{w9:World}{q:Gh}{v9:Value},StX noX w q w9 [.cell b2 [.int .u8 0,.bool false,.int .i64 0,.int .i64 0,.slice none 0 0] 112,.cell b1 [.int .u8 t.k,.bool t.m,.int .i64 t.re,.int .i64 t.st,v9] 112]→v9.oneCell'=true→
    (∃sn,Le sn q∧(∀b o,sn b o→w.heap.size≤b)∧TyG sn (.agg #[.int .u8 t.k,.bool t.m,.int .i64 t.re,.int .i64 t.st,v9]) t)→
    opQ Tryz.prog w9 (Instr.loadAt 112 (.pointer (some ⟨b1,0,none⟩))) λt24=>opU Tryz.prog w9 (Instr.storeAt 112 (.pointer (some ⟨b2,0,none⟩)) t24) λw12=>opQ Tryz.prog w12 (zk 112 (.pointer (some ⟨b2,0,none⟩))) λr13=>K r13 w12:=by
   intro w9 q v9 S h1 ⟨sn,hle,hf,hty⟩
   refine gG_ ?_
   refine S.stB (h1:=by
    intro u hu
    simp only[List.mem_cons,List.not_mem_nil,or_false]at hu
    rcases hu with rfl|rfl|rfl|rfl|rfl<;>first|rfl|exact h1) λw7 S=>?_
   refine gG_ ?_
   exact h _ sn _ S.ext ⟨S.holds.le (h:=hle),hf⟩ hty
  rcases yz hl with⟨ho,_⟩|⟨u,ho,hu,_⟩
  ·refine zh (ι:=Unit) (λ_=>[.int .i64 0]) (λ_ w'=>w'=w3) (λ_=>0) () rfl rfl ?_
   rintro⟨⟩ d w5 rfl K6 hK6
   rw[gdz]
   refine gP_ ?_
   refine gP_ ?_
   refine c_f (by rw[ho];rfl) ?_
   refine fin S rfl ⟨nothing,inferInstance,λ_ _ h=>h.elim,?_⟩
   rw[he,ho]
   exact xJ
  ·have hlen:t.of.length=1:=by rw[ho];rfl
   have S3:=S
   obtain⟨ba,oa,rfl,c,hc,hcell,ht⟩:=NdG.of hof (i:=0) (by omega)
   have ht:TyG r (.agg c.toArray) u:=by simpa [ho]using ht
   refine zh (ι:=Bool) (λi=>[.int .i64 (if i then 1 else 0)]) (λi w'=>if i then∃q v9,StX noX w q w' [.cell b2 [.int .u8 0,.bool false,.int .i64 0,.int .i64 0,.slice none 0 0] 112,.cell b1 [.int .u8 t.k,.bool t.m,.int .i64 t.re,.int .i64 t.st,v9] 112]∧v9.oneCell'=true∧
     ∃sn,Le sn q∧(∀b o,sn b o→w.heap.size≤b)∧TyG sn (.agg #[.int .u8 t.k,.bool t.m,.int .i64 t.re,.int .i64 t.st,v9]) t
    else StX noX w r w' [.cell b2 [.int .u8 0,.bool false,.int .i64 0,.int .i64 0,.slice none 0 0] 112,.cell b1 [.int .u8 t.k,.bool t.m,.int .i64 t.re,.int .i64 t.st,.slice none 0 0] 112]) (λi=>if i then 0 else 1) false rfl S3 ?_
   clear S S3
   rintro i d w5 hI K6 hK6
   rw[gdz]
   refine gP_ ?_
   cases i with
   |true=>
    obtain⟨q,v9,S,h1,hx⟩:=hI
    refine gP_ ?_
    refine c_f (by rw[hlen];rfl) ?_
    exact fin S h1 hx
   |false=>
    have S:StX noX w r w5 [.cell b2 [.int .u8 0,.bool false,.int .i64 0,.int .i64 0,.slice none 0 0] 112,.cell b1 [.int .u8 t.k,.bool t.m,.int .i64 t.re,.int .i64 t.st,.slice none 0 0] 112]:=hI
    refine gP_ ?_
    refine c_t (by rw[hlen];rfl) ?_
    have S:=S.go (Ext.drew _)
    simp only[Bool.false_eq_true,if_false]
    refine gG_ ?_
    refine zp (n:=5) hc (λj v hj=>by simpa using S.at (hcell j v hj)) ?_
    refine ih (by omega) hu S.holds ht λv4 sn w6 e6 n6 ht6=>⟨e6,?_⟩
    obtain⟨S,_,hf⟩:=S.tell e6 n6
    obtain⟨p6,cap6,rfl,_⟩:=id ht6
    refine S.litU (e:=112) (cs:=[.int .u8 u.k,.bool u.m,.int .i64 u.re,.int .i64 u.st,.slice p6 u.of.length cap6]) (by kernel_rfl) λb7 w7 S=>?_
    have S:=S.ownNil 112 5
    refine S.ap (m':=1) (Sl.blk (S.blk b7)) (λv8 w8 S=>?_) (by omega)
    obtain⟨b9,cap9,c9,rfl,hc9,hcl9,htk9,S⟩:=S.rowCell v8 (by decide)
    have hm9:=S.mine (.cell b9 c9 112) (by simp) b9 rfl
    have S:=S.frz
    refine gP_ ?_
    refine S.st (b:=b1) λw9 S=>?_
    refine gP_ ?_
    refine hK6 true _ ⟨_,.slice (some ⟨b9,0,none⟩) 1 cap9,S.tl,rfl,sn.or (Go.Sh.one b9 c9 112),inferInstance,λb o hb=>?_,?_⟩ (by decide)
    ·rcases hb with hb|⟨rfl,_⟩
     ·exact hf b o hb
     ·exact hm9.1.resolve_right id
    ·rw[he,ho]
     exact alv ht6 htk9 (by omega)
theorem aec{ss:List StD}{t:TyD}{p:Option Addr}{cap:Nat}{w:World}{r:Gh}{v:Value}{K:Value→World→Prop}(hr:Holds r w)(hs:StG r p ss)(hm1:ss.length≤1000000000)(hmf:∀k,(ze ss k).length≤1000000000)(hv:TyG r v t)
  (h:∀q cp sn w',Ext w w'→New w sn w'→TysG sn q (yy ss t).1→K (.tuple #[.slice q (yy ss t).1.length cp,.int .i64 (yy ss t).2]) w'):zd Tryz.prog Tryz.ZR #[.slice p ss.length cap,v] w K:=by
 refine Tryz.acY ?_
 unfold Tryz.Ja
 have hv0:=hv
 obtain⟨p1,cap1,rfl,_⟩:=hv
 have S:=St.start hr
 refine S.box λb3 w1 S=>?_
 refine gL_ ?_
 refine abx S.holds hs hm1 hmf hv0 λw2 e2=>?_
 have S:=S.go e2
 refine gP_ ?_
 refine zj (c:=decide (t.k≠5)) (λ_ K2 hK2=>?_) ?_
 ·refine gG_ ?_
  exact hK2
 refine c_b (λhn=>?_) (λhn=>?_)
 ·have hn:(zP ss t&&decide (t.k=5))=false:=by
   cases hm:zP ss t
   ·rfl
   ·rw[hm]at hn;simpa using hn
  rw[yy,hn]at h
  exact h none 0 nothing _ S.ext New.nothing λi hi=>by simp at hi
 have hn:zP ss t=true∧t.k=5:=by
  cases hm:zP ss t
  ·rw[hm]at hn;simp at hn
  ·rw[hm]at hn;exact⟨rfl,by simpa using hn⟩
 obtain⟨hm,h5⟩:=hn
 rw[yy,hm,gde h5]at h
 simp only[Bool.and_true,if_true]at h
 obtain⟨hok,hl⟩:=Ys hm
 obtain⟨h32,hb1,hg,hac,_,_⟩:=xT hok
 obtain⟨hst0,hst1,_⟩:=jC hl h5
 have hlt:t.st.toNat<ss.length:=by omega
 obtain⟨b,off,q,capq,rfl,hcell,_,_,hf⟩:=xK hs hlt
 have htl:ze ss t.st=ss[t.st.toNat].fs.map (·.2):=by
  rw[← yD hlt];simp only[ze,tnc]
 have hlen:(ze ss t.st).length=ss[t.st.toNat].fs.length:=by rw[htl,List.length_map]
 have h88:=kA hb1 t.st
 refine gG_ ?_
 refine zg (S.at hcell) ?_
 have S:=S.tl
 have S:=S.ownNil 112 5
 have S:=S.to (r.or nothing) (l:=⟨λb o ho=>ho.elim id λh=>h.elim⟩)
 refine zh (ι:=Nat×Value×List Value×Gh) (λi=>[i.2.1,.int .i64 i.1]) (λi w'=>i.1≤(ze ss t.st).length∧i.2.2.1.length=i.1*5∧
   (∀j (hj:j<(ze ss t.st).length),j<i.1→((i.2.2.1.drop (j*5)).take 5).length=5∧TyG i.2.2.2 (.agg ((i.2.2.1.drop (j*5)).take 5).toArray) (ze ss t.st)[j])∧
   (∀b o,i.2.2.2 b o→w.heap.size≤b)∧StX noX w (r.or i.2.2.2) w' [.row i.2.1 112 5 i.1 i.2.2.1])
  (λi=>(ze ss t.st).length-i.1) (0,.slice none 0 0,[],nothing) rfl ⟨gzl _,rfl,λj _ hj=>by omega,λb o ho=>ho.elim,S⟩ ?_
 clear S
 rintro⟨i,v,xs,sn⟩ d w3 ⟨hi,hxl,hel,hfr,S⟩ K7 hK7
 simp only at hi hxl hel hfr S⊢
 rw[gdz,gds,gdz]
 refine gP_ ?_
 refine gP_ ?_
 refine c_b (λhlt2=>?_) (λhge=>?_)
 ·have hlt2:i<ss[t.st.toNat].fs.length:=by simpa using hlt2
  have hlt3:i<(ze ss t.st).length:=by omega
  have hel2:(ze ss t.st)[i]=ss[t.st.toNat].fs[i].2:=by simp only[htl,List.getElem_map]
  have hmem:ss[t.st.toNat].fs[i].2∈ze ss t.st:=by rw[← hel2];exact gem hlt3
  obtain⟨b2,off2,c,rfl,hcl,hcc,hty⟩:=qC hf hlt2
  refine gP_ ?_
  refine gP_ ?_
  refine zp (n:=5) (c:=c) hcl (λj v hj=>by
   have:=S.at (hcc (j+1) v (by simpa using hj))
   rw[tnc,Nat.add_assoc _ 1 j,Nat.add_comm 1 j];exact this) ?_
  refine ahy (s:=ss.length) 48 (by decide) (hg _ _ hmem) S.holds hty.up λv4 s4 w4 e4 n4 ht4=>?_
  obtain⟨S,_,hf4⟩:=S.tell e4 n4
  obtain⟨p4,cap4,rfl,_⟩:=id ht4
  refine S.lit (e:=112) (cs:=[.int .u8 ss[t.st.toNat].fs[i].2.k,.bool ss[t.st.toNat].fs[i].2.m,.int .i64 ss[t.st.toNat].fs[i].2.re,.int .i64 ss[t.st.toNat].fs[i].2.st,.slice p4 ss[t.st.toNat].fs[i].2.of.length cap4]) (by kernel_rfl) λb33 w7 S=>?_
  refine S.ap (m':=1) (Sl.blk (S.blk b33)) (λv34 w8 S=>?_) (by omega)
  have S:=S.tl
  refine gP_ ?_
  rw[show ((i:Int)+1)=((i+1:Nat):Int)by omega]
  refine hK7 (i+1,v34,xs++[.int .u8 ss[t.st.toNat].fs[i].2.k,.bool ss[t.st.toNat].fs[i].2.m,.int .i64 ss[t.st.toNat].fs[i].2.re,.int .i64 ss[t.st.toNat].fs[i].2.st,.slice p4 ss[t.st.toNat].fs[i].2.of.length cap4],sn.or s4) _ ⟨hlt3,by simp only[gla,List.length_cons,List.length_nil];omega,λj hj hji=>?_,λb o ho=>ho.elim (hfr b o) (hf4 b o),?_⟩ (by simp only;omega)
  rotate_left
  ·exact S.to _ (l:=⟨λb o ho=>by
    rcases ho with ho|ho|ho
    ·exact .inl (.inl ho)
    ·exact .inl (.inr ho)
    ·exact .inr ho⟩)
  ·simp only
   by_cases hji':j=i
   ·subst hji'
    rw[← hxl,List.drop_left',hel2]
    ·exact⟨rfl,ht4.up⟩
    ·rfl
   ·rw[List.drop_append_of_le_length (by omega),List.take_append_of_le_length (by rw[List.length_drop];omega)]
    exact⟨(hel j hj (by omega)).1,(hel j hj (by omega)).2.up⟩
 ·have hge:i=(ze ss t.st).length:=by
   have :¬i<ss[t.st.toNat].fs.length:=by simpa using hge
   omega
  subst hge
  have hpos:(ze ss t.st).length≠0:=by
   have:=hb1 t.st.toNat hlt
   have e:ze ss (t.st.toNat:Int)=ze ss t.st:=by rw[ze,ze,tnc]
   rw[xx,e,Bool.or_eq_false_iff,Bool.or_eq_false_iff]at this
   simp only[decide_eq_false_iff_not]at this
   omega
  obtain⟨b9,cap9,c9,rfl,hc9,hcl9,htk9,S⟩:=S.rowCell v hpos
  have hm9:=S.mine (.cell b9 c9 112) (by simp) b9 rfl
  have S:=S.frz
  refine h _ _ (sn.or (Go.Sh.one b9 c9 112)) _ S.ext ⟨S.holds.le (h:=⟨λb o ho=>by
   rcases ho with ho|ho
   ·exact .inl (.inr ho)
   ·exact .inr ho⟩),λb o ho=>?_⟩ λj hj=>?_
  ·rcases ho with ho|⟨rfl,_⟩
   ·exact hfr b o ho
   ·exact hm9.1.resolve_right id
  ·obtain⟨h1,h2⟩:=hel j hj hj
   refine⟨b9,0,_,rfl,h1,λk v hk w' hw=>?_,h2.up⟩
   have B:=yH (b:=b9) (c:=c9) (T:=112) w' (hw.le (h:=inferInstance))
   show w'.cell? _=some v
   rw[Nat.zero_add,B.cell]
   have hk5:k<5:=by have:=(List.getElem?_eq_some_iff.1 hk).1;omega
   rw[List.getElem?_take,if_pos hk5,List.getElem?_drop,← htk9,List.getElem?_take]at hk
   split at hk
   ·exact hk
   ·cases hk
end
end Go.Proofs
namespace Go.Sh
open Go.ChangeShapes Go.WideShapes Go.ChangeAt Go.RowKit
section
section
variable {H:Type} {enc:TypeId×Value→H} {P:Program}
theorem akw{W W':World}(e:Ext W W'){p:MemPlace}(hp:p.block<W.heap.size):W.sameAt W' p:=Below.same e hp
theorem aby{W W':World}(e:Ext W W')(K:Kids P (· < P.types.size))(hz:∀t e,t<P.types.size→P.underlying t=some (.slice e)→0<P.cellsOf e){sp:Nat→Bool}:
  ∀{ts:List TypeId}{vs:List Value}{ds:List (DataW H)}{ps:List MemPlace},(∀t∈ts,t<P.types.size)→DataW.TrodAll enc P W 0 (λ_=>true) true ts vs ds ps→(∀p∈ps,p.block<W.heap.size)→(∀p∈ps,sp p.block=true)→
   DataW.TrodAll enc P W' 0 sp true ts vs ds ps
 |[],[],[],_,_,h,_,_=>h
 |_::_,_::_,_::_,_,hT,⟨p,q,⟨n,h1⟩,h2,he⟩,hl,hs=>
  ⟨p,q,⟨n,DataW.trod_stays K (fun {t e}=>hz t e) (λh=>by cases h) (hT _ (List.mem_cons.2 (Or.inl rfl))) h1 (λx hx=>akw e (hl x (by rw[he];exact List.mem_append_left _ hx))) (λx hx=>hs x (by rw[he];exact List.mem_append_left _ hx))⟩,
   aby e K hz (λt ht=>hT t (List.mem_cons.2 (Or.inr ht))) h2 (λx hx=>hl x (by rw[he];exact List.mem_append_right _ hx)) (λx hx=>hs x (by rw[he];exact List.mem_append_right _ hx)),he⟩
theorem ajr{f:Func}{s:ChangeSpec}{W W':World}{args:Array Value}{ds gs:List (DataW H)}{before:List MemPlace}{tb:TypeId}{fr ho:Bool}
  (hl:laidOutB P=true) (hm:mapsRowed P=true) (hz:((List.range P.types.size).all λt=>match P.underlying t with|some (.slice e)=>decide (0<P.cellsOf e)|_=>true)=true)
  (hts:∀t∈f.params.toList,t<P.types.size) (hv:s.vars=[]) (hrt:f.resultTypes=#[tb]) (htb:P.underlying tb=some .bool)
  (hW:DataW.Whole enc P f.params.toList s.vars false W args.toList ds gs before) (hs:s.fn H (ds++gs) = { results:=[.lit (.bool true)],args:=ds }) (e:Ext W W'):
  s.post enc P f false fr ho false W args (.bool true) W':=by
 have hW':=hW
 obtain⟨p,q,hA,hV,rfl,hfz,hnd⟩:=hW
 rw[hv]at hV
 obtain⟨rfl,rfl⟩:=trodVars_none hV
 have hlt:=hW'.lt
 refine⟨ds,[],p++[],[],p,[],hW',?_,?_,?_,Below.frame e _,λh=>by cases h⟩
 ·rw[hs,hrt]
  exact trodAll_mk1 (shut_bool htb _)
 ·rw[hs]
  exact aby e (kids_rows hl hm) (slices_full_of P hz) hts hA (λx hx=>hlt x (by simpa using hx)) (λx hx=>by simpa using hlt x (by simpa using hx))
 ·rw[hv,hs];rfl
end
end
end Go.Sh
namespace Go.Sh
open Go.RowKit
section
mutual
def Dat.ok(P:Program):Dat→TypeId→Prop
 |.int k n,t=>P.underlying t=some (.int k)∧(Lit.int k n).wf=true
 |.bool _,t=>P.underlying t=some .bool
 |.str s,t=>P.underlying t=some .string∧s.size≤maxLen
 |.agg ds,t=>∃fs,P.underlying t=some (.struct fs)∧Dat.okF P ds (fs.toList.map (·.type))
 |.sl sz es,t=>∃e,P.underlying t=some (.slice e)∧sz=P.cellsOf e∧es.length≤maxLen∧Dat.okS P es e
def Dat.okF(P:Program):List Dat→List TypeId→Prop
 |[],ts=>ts=[]
 |d::ds,ts=>∃t r,ts=t::r∧Dat.ok P d t∧Dat.okF P ds r
def Dat.okS(P:Program):List Dat→TypeId→Prop
 |[],_=>True
 |d::ds,t=>Dat.ok P d t∧Dat.okS P ds t
end
theorem ajs{P:Program}{t:TypeId}:∀{es:List Dat},(∀(i:Nat)(d:Dat),es[i]? = some d→d.ok P t)→Dat.okS P es t
 |[],_=>trivial
 |d::es,h=>⟨h 0 d rfl,ajs λi d hi=>h (i+1) d (by simpa using hi)⟩
theorem ahY{P:Program}{t:TypeId}:∀{es:List Dat},Dat.okS P es t→∀d∈es,d.ok P t
 |[],_,d,hd=>by cases hd
 |e::es,h,d,hd=>by
  rcases List.mem_cons.1 hd with rfl|hd
  ·exact h.1
  ·exact ahY h.2 d hd
def ky(P:Program)(total:Nat):Nat→List Field→Bool
 |off,[]=>off == total
 |off,f::fs=>f.offset == off&&ky P total (off+P.cellsOf f.type) fs
def agy(P:Program)(ts:List TypeId):Bool:=
 ts.all λt=>match P.underlying t with
  |some (.int _)=>true
  |some .bool=>true
  |some .string=>true
  |some (.struct fs)=>ky P (P.cellsOf t) 0 fs.toList&&fs.toList.all (λf=>ts.contains f.type)
  |some (.slice e)=>decide (0<P.cellsOf e)&&ts.contains e
  |_=>false
theorem abz{Q:Nat→Dat→Prop}:∀n:Nat,(∀i,i<n→∃d,Q i d)→∃es:List Dat,es.length=n∧∀i d,es[i]? = some d→Q i d
 |0,_=>⟨[],rfl,λi d h=>by cases h⟩
 |n+1,h=>by
  obtain⟨es,h1,h2⟩:=abz n λi hi=>h i (by omega)
  obtain⟨d,hd⟩:=h n (by omega)
  refine⟨es++[d],by simp[h1],λi x hx=>?_⟩
  rcases Nat.lt_or_ge i es.length with hi|hi
  ·rw[List.getElem?_append_left hi]at hx;exact h2 i x hx
  ·rw[List.getElem?_append_right hi]at hx
   have hl:=(List.getElem?_eq_some_iff.1 hx).1
   have :i=n:=by simp at hl;omega
   subst this
   rw[h1,Nat.sub_self]at hx
   cases hx;exact hd
section
variable {H:Type} {enc:TypeId×Value→H} {P:Program} {W:World}
theorem ada{cs:List Value}{total:Nat}(hcs:cs.length=total):∀(fl:List Field)(off:Nat),ky P total off fl=true→
  (∀f∈fl,∃d,Rep (all W) d ((cs.drop f.offset).take (P.cellsOf f.type))∧d.ok P f.type)→∃ds,RepA (all W) ds (cs.drop off)∧Dat.okF P ds (fl.map (·.type))
 |[],off,hl,_=>⟨[],by
  have :off=total:=by simpa [ky]using hl
  rw[RepA,List.drop_eq_nil_iff];omega,rfl⟩
 |f::fl,off,hl,h=>by
  simp only[ky,gba,beq_iff_eq]at hl
  obtain⟨d,h1,h2⟩:=h f List.mem_cons_self
  obtain⟨ds,h3,h4⟩:=ada hcs fl _ hl.2 λg hg=>h g (List.mem_cons_of_mem _ hg)
  refine⟨d::ds,⟨_,_,?_,h1,h3⟩,_,_,rfl,h2,h4⟩
  rw[hl.1,← List.drop_drop,List.take_append_drop]
theorem Yj{ts:List TypeId}(hp:agy P ts=true){sp:Nat→Bool}:∀(fuel:Nat)(t:TypeId)(cs:List Value)(x:DataW H×List MemPlace),t∈ts→
  DataW.trod enc P W 0 sp true fuel t cs=some x→∃d,Rep (all W) d cs∧d.ok P t
 |0,_,_,_,_,h=>by simp[DataW.trod]at h
 |fuel+1,t,cs,x,ht,h=>by
  have hpt:=List.all_eq_true.1 hp t ht
  cases hu:P.underlying t with
  |none=>rw [hu]at hpt;cases hpt
  |some k=>
   rw[hu]at hpt
   cases k with
   |int k=>obtain ⟨n,rfl,_,hw⟩:=DataW.trod_int hu h;exact⟨.int k n,rfl,hu,hw⟩
   |bool=>obtain ⟨b,rfl,_⟩:=DataW.trod_bool hu h;exact⟨.bool b,rfl,hu⟩
   |string=>obtain ⟨s,rfl,_,hs⟩:=DataW.trod_string hu h;exact⟨.str s,rfl,hu,hs⟩
   |struct fs=>
    simp only[gba]at hpt
    obtain⟨xs,n,hn,_,hl,hxl,hx⟩:=DataW.trod_struct hu h
    obtain rfl:fuel=n:=by omega
    obtain⟨ds,h1,h2⟩:=ada (P:=P) (W:=W) hl fs.toList 0 hpt.1 (λf hf=>by
     obtain⟨i,hi,rfl⟩:=List.getElem_of_mem hf
     have hi':i<fs.size:=by simpa using hi
     have h1:=hx i fs[i] (Array.getElem?_eq_getElem hi')
     rw[gqg (by omega)]at h1
     have hmem:fs[i].type∈ts:=by
      have:=List.all_eq_true.1 hpt.2 _ hf
      simpa using this
     exact Yj hp fuel _ _ _ hmem h1)
    rw[List.drop_zero]at h1
    exact⟨.agg ds,h1,fs,hu,h2⟩
   |slice e=>
    simp only[gba,gdt]at hpt
    have he:e∈ts:=by simpa using hpt.2
    rcases DataW.trod_slice hu h with⟨rfl,_⟩|⟨a,len,cap,elems,rest,n,hn,rfl,_,_,hlc,hcm,hel,hget,_,_⟩
    ·exact⟨.sl (P.cellsOf e) [],⟨none,0,rfl,λ_=>rfl,Nat.le_refl _,trivial⟩,e,hu,rfl,gzl _,trivial⟩
    obtain rfl:fuel=n:=by omega
    have hspot:0<len→a.spot=none:=λh0=>by
     have h1:=hget 0 h0
     rw[gqg (by omega)]at h1
     obtain⟨c,hc,_⟩:=Option.bind_eq_some_iff.1 h1
     obtain⟨_,hcl,hcc⟩:=World.cells?_some hc
     have hcell:=(hcc 0 hpt.1).trans (gqg (by omega))
     have:=World.cell?_spot hcell
     simpa [Addr.add]using this
    obtain⟨es,h1,h2⟩:=abz (Q:=λi d=>d.ok P e∧∃c,c.length=P.cellsOf e∧CellsAt (all W) (some a) (i*P.cellsOf e) c∧Rep (all W) d c) len (λi hi=>by
     have h1:=hget i hi
     rw[gqg (by omega)]at h1
     obtain⟨c,hc,ht⟩:=Option.bind_eq_some_iff.1 h1
     obtain⟨_,hcl,hcc⟩:=World.cells?_some hc
     obtain⟨d,hd,hok⟩:=Yj hp fuel e c _ he ht
     refine⟨d,hok,c,hcl,λj v hj=>?_,hd⟩
     have hjl:=(List.getElem?_eq_some_iff.1 hj).1
     have hcell:W.cell? ((a.add (i*P.cellsOf e)).add j)=some v:=(hcc j (by omega)).trans hj
     obtain⟨b,off,sp⟩:=a
     have hsp:sp=none:=hspot (by omega)
     subst hsp
     rw[VM,VM]at hcell
     exact⟨b,off,rfl,akp hcell⟩)
    refine⟨.sl (P.cellsOf e) es,⟨some a,cap,by rw[h1],by simp,by omega,RepS.of λi d hi=>?_⟩,e,hu,rfl,by omega,ajs λi d hi=>(h2 i d hi).1⟩
    rw[Nat.zero_add];exact(h2 i d hi).2
   |_=>cases hpt
end
end
section
def SlG{α:Type}(sz:Nat)(r:Gh)(R:List Value→α→Prop)(v:Value)(l:List α):Prop:=
 ∃p cap,v=.slice p l.length cap∧(p=none→cap=0)∧l.length≤cap∧∀(i:Nat)(h:i<l.length),∃c,c.length=sz∧CellsAt r p (i*sz) c∧R c l[i]
def RowOf{α:Type}(sz:Nat)(R:List Value→α→Prop)(xs:List Value)(l:List α):Prop:=
 xs.length=l.length*sz∧∀(i:Nat)(h:i<l.length),R ((xs.drop (i*sz)).take sz) l[i]
section
variable {α:Type} {sz:Nat} {r s:Gh} {R Q:List Value→α→Prop} {v:Value} {l:List α}
theorem SlG.up'(h:SlG sz r R v l)(le:Le r s)(hR:∀c x,R c x→Q c x):SlG sz s Q v l:=by
 obtain⟨p,cap,h1,h2,h3,h4⟩:=h
 refine⟨p,cap,h1,h2,h3,λi hi=>?_⟩
 obtain⟨c,h5,h6,h7⟩:=h4 i hi
 exact⟨c,h5,h6.up le,hR _ _ h7⟩
theorem SlG.mono(h:SlG sz r R v l)(hR:∀c x,R c x→Q c x):SlG sz r Q v l:=h.up' inferInstance hR
theorem SlG.cells(h:SlG sz r R v l)[le:Le r s]:SlG sz s R v l:=h.up' le λ_ _ h=>h
theorem SlG.nil:SlG sz r R (.slice none 0 0) ([]:List α):=⟨none,0,rfl,λ_=>rfl,Nat.le_refl _,λi hi=>absurd hi (Nat.not_lt_zero _)⟩
theorem SlG.shape(h:SlG sz r R v l):∃p cap,v=.slice p l.length cap∧(p=none→cap=0)∧l.length≤cap:=by
 obtain⟨p,cap,h1,h2,h3,_⟩:=h;exact⟨p,cap,h1,h2,h3⟩
theorem SlG.get(hz:0<sz){p:Option Addr}{n cap:Nat}(h:SlG sz r R (.slice p n cap) l){i:Nat}(hi:i<l.length):
  ∃b off c,p=some ⟨b,off,none⟩∧c.length=sz∧R c l[i]∧∀j v,c[j]? = some v→Ob r λw=>w.cell? ⟨b,off+i*sz+j,none⟩=some v:=by
 obtain⟨p',cap',h1,h2,h3,h4⟩:=h
 cases h1
 obtain⟨c,h5,h6,h7⟩:=h4 i hi
 obtain⟨b,off,hp,_⟩:=h6 0 c[0] (gqg (by omega))
 subst hp
 refine⟨b,off,c,rfl,h5,h7,λj v hj=>?_⟩
 obtain⟨b',off',hp,ho⟩:=h6 j v hj
 cases hp;exact ho
theorem RowOf.nil:RowOf sz R [] ([]:List α):=⟨by simp,λi hi=>absurd hi (Nat.not_lt_zero _)⟩
theorem RowOf.mono{xs:List Value}(h:RowOf sz R xs l)(hR:∀c x,R c x→Q c x):RowOf sz Q xs l:=⟨h.1,λi hi=>hR _ _ (h.2 i hi)⟩
theorem RowOf.snoc{xs c:List Value}{x:α}(h:RowOf sz R xs l)(hc:c.length=sz)(hx:R c x):RowOf sz R (xs++c) (l++[x]):=by
 obtain⟨h1,h2⟩:=h
 refine⟨by rw[gla,gla,h1,hc,gls,Nat.add_mul,Nat.one_mul],λi hi=>?_⟩
 rw[gla,gls]at hi
 rcases Nat.lt_or_ge i l.length with h|h
 ·have hm:i*sz+sz≤xs.length:=by rw[h1,← Nat.succ_mul];exact Nat.mul_le_mul_right _ h
  rw[List.getElem_append_left h,List.drop_append_of_le_length (by omega),List.take_append_of_le_length (by rw[List.length_drop];omega)]
  exact h2 i h
 ·obtain rfl:i=l.length:=by omega
  rw[List.getElem_append_right (Nat.le_refl _),← h1,List.drop_left',List.take_of_length_le (by omega)]
  ·simpa using hx
  ·rfl
theorem RowOf.sl{xs:List Value}(h:RowOf sz R xs l){p:Option Addr}{cap:Nat}(hp:p=none→cap=0)(hc:l.length≤cap)(ho:Ob r λw=>Sl w p xs)(hz:0<sz)(hk:∃w,Holds r w):SlG sz r R (.slice p l.length cap) l:=by
 refine⟨p,cap,rfl,hp,hc,λi hi=>⟨(xs.drop (i*sz)).take sz,?_,?_,h.2 i hi⟩⟩
 ·have :i*sz+sz≤xs.length:=by rw[h.1,← Nat.succ_mul];exact Nat.mul_le_mul_right _ hi
  rw[List.length_take,List.length_drop];omega
 ·intro j v hj
  rw[List.getElem?_take]at hj
  split at hj
  ·rw[List.getElem?_drop]at hj
   obtain⟨w,hw⟩:=hk
   obtain⟨b,off,rfl,_⟩:=ho w hw _ _ hj
   refine⟨b,off,rfl,λw' hw'=>?_⟩
   obtain⟨b',off',hp',hc'⟩:=ho w' hw' _ _ hj
   cases hp'
   rw[← Nat.add_assoc]at hc';exact hc'
  ·cases hj
end
section
variable {P:Program} {X:Nat→Prop} {w0 w:World} {r:Gh} {L:List Asr} {α:Type} {sz n:Nat} {R:List Value→α→Prop} {v:Value} {l:List α} {e:TypeId} {xs:List Value}
theorem StX.doneRow(S:StX X w0 r w (.row v e sz n xs::L))(h:RowOf sz R xs l)(hz:0<sz)(hn:n=l.length):
  ∃s,StX X w0 (r.or s) w L∧SlG sz s R v l∧(∀b o,s b o→∃c,o=.cells c e (0,0))∧(∀b o,s b o→w0.heap.size≤b∨X b):=by
 subst hn
 have hm:=S.mine _ (List.mem_cons_self ..)
 have hr:w.ownsRow 0 e sz v l.length xs:=S.has _ (List.mem_cons_self ..)
 rcases vE hr with⟨rfl,h1,h2⟩|⟨g,cap,c,rfl,hg,B,h1,_,h3,h4⟩
 ·have hl:l=[]:=List.eq_nil_of_length_eq_zero h1
  subst hl
  exact⟨nothing,S.tl.new (Ext.refl _) New.nothing,SlG.nil,λb o h=>h.elim,λb o h=>h.elim⟩
 ·have S':=S.turn (p:=[]) (x:=.row _ e sz l.length xs) (y:=.cell g c e) (ExtBut.refl _ _) B λk hk=>.inl (by cases hk;rfl)
  refine⟨one g c e,S'.frz,?_,λb o h=>⟨_,h.2⟩,λb o h=>(hm b (by rw[h.1];rfl)).1⟩
  refine h.sl (by simp) h1 (λw k=>?_) hz ⟨w,qe B⟩
  rw[← h4];exact(Sl.blk (yH w k)).take _
theorem StX.litSl{b:Nat}(S:StX X w0 r w (.cell b xs e::L))(h:RowOf sz R xs l)(hz:0<sz):StX X w0 (r.or (Go.Sh.one b xs e)) w L∧SlG sz (Go.Sh.one b xs e) R (.slice (some ⟨b,0,none⟩) l.length l.length) l:=
 ⟨S.frz,h.sl (by simp) (Nat.le_refl _) (λw k=>Sl.blk (yH w k)) hz ⟨w,qe (S.has _ (List.mem_cons_self ..))⟩⟩
theorem StX.d2{x y:Asr}(S:StX X w0 r w (x::y::L)):StX X w0 r w (x::L):=S.less (λ_ _ h=>h) (.cons_cons _ (List.sublist_cons_self _ _))
theorem StX.reGh{s t:Gh}(S:StX X w0 ((r.or s).or t) w L):StX X w0 (r.or (s.or t)) w L:=
 S.less (λb o h=>h.elim (λh=>.inl (.inl h)) λh=>h.elim (λh=>.inl (.inr h)) .inr) (List.Sublist.refl _)
theorem Above.or'{s t:Gh}(h:Above w0 s)(k:Above w0 t):Above w0 (s.or t):=λb o x=>x.elim (h b o) (k b o)
theorem Above.no:Above w0 nothing:=λb o h=>h.elim
theorem StX.newOf{q:Gh}(S:StX X w0 r w L)(h:Above w0 q)[Le q r]:New w0 q w:=⟨S.holds.le (h:=inferInstance),h⟩
end
section
variable {P:Program}
theorem yI{d:Dat}{t:TypeId}{k:IntKind}(u:P.underlying t=some (.int k))(h:d.ok P t):∃n,d=.int k n∧(Lit.int k n).wf=true:=by
 cases d<;>simp only[Dat.ok,u]at h<;>try simp at h
 obtain⟨rfl,h⟩:=h
 exact⟨_,rfl,h⟩
theorem agz{d:Dat}{t:TypeId}(u:P.underlying t=some .bool)(h:d.ok P t):∃b,d=.bool b:=by
 cases d<;>simp only[Dat.ok,u]at h<;>try simp at h
 exact⟨_,rfl⟩
theorem alw{d:Dat}{t:TypeId}(u:P.underlying t=some .string)(h:d.ok P t):∃s,d=.str s∧s.size≤maxLen:=by
 cases d<;>simp only[Dat.ok,u]at h<;>try simp at h
 exact⟨_,rfl,h⟩
theorem amd{d:Dat}{t e:TypeId}(u:P.underlying t=some (.slice e))(h:d.ok P t):∃es,d=.sl (P.cellsOf e) es∧es.length≤maxLen∧∀x∈es,x.ok P e:=by
 cases d<;>simp only[Dat.ok,u]at h<;>try simp at h
 obtain⟨rfl,h1,h2⟩:=h
 exact⟨_,rfl,h1,ahY h2⟩
theorem jE{d:Dat}{t:TypeId}{ts:List TypeId}(u:∃fs,P.underlying t=some (.struct fs)∧fs.toList.map (·.type)=ts)(h:d.ok P t):∃ds,d=.agg ds∧Dat.okF P ds ts:=by
 obtain⟨fs,u,rfl⟩:=u
 cases d<;>simp only[Dat.ok,u]at h<;>try simp at h
 exact⟨_,rfl,by simpa using h⟩
theorem zC{ds:List Dat}{t:TypeId}{ts:List TypeId}(h:Dat.okF P ds (t::ts)):∃d r,ds=d::r∧d.ok P t∧Dat.okF P r ts:=by
 cases ds with
 |nil=>cases h
 |cons d r=>obtain ⟨t',r',h1,h2,h3⟩:=h;cases h1;exact⟨d,r,rfl,h2,h3⟩
theorem jF{ds:List Dat}(h:Dat.okF P ds []):ds=[]:=by
 cases ds with
 |nil=>rfl
 |cons d r=>obtain ⟨t',r',h1,_⟩:=h;cases h1
noncomputable def ahZ(P:Program)(t:TypeId)(ts:List TypeId):Bool:=match P.underlying t with|some (.struct fs)=>decide (fs.toList.map (·.type)=ts)|_=>false
theorem kI{t:TypeId}{ts:List TypeId}(h:ahZ P t ts=true):∃fs,P.underlying t=some (.struct fs)∧fs.toList.map (·.type)=ts:=by
 unfold ahZ at h
 split at h
 ·rename_i fs hu;exact⟨fs,hu,of_decide_eq_true h⟩
 ·cases h
end
theorem ajt{n:Int}(h:(Lit.int .i64 n).wf=true): -9223372036854775808≤n∧n≤9223372036854775807:=by
 simp only[Lit.wf,gba,gdt]at h
 exact⟨h.1,h.2⟩
theorem agA{α:Type}{f:α→Dat}{G:α→Prop}:∀es:List Dat,(∀d∈es,∃t,d=f t∧G t)→∃l:List α,es=l.map f∧∀t∈l,G t
 |[],_=>⟨[],rfl,λt h=>by cases h⟩
 |d::es,h=>by
  obtain⟨t,rfl,ht⟩:=h d List.mem_cons_self
  obtain⟨l,rfl,hq⟩:=agA es λx hx=>h x (List.mem_cons_of_mem _ hx)
  refine⟨t::l,rfl,λx hx=>?_⟩
  rcases List.mem_cons.1 hx with rfl|hx
  ·exact ht
  ·exact hq x hx
theorem ahz{α:Type}{k:IntKind}{f:α→Int}{r:Gh}{cs:List Value}{l:List α}(h:Rep r (.sl 1 (l.map λx=>.int k (f x))) cs):
  ∃p cap,cs=[.slice p l.length cap]∧(p=none→cap=0)∧l.length≤cap∧Ob r λw=>Sl w p (l.map λx=>.int k (f x)):=by
 obtain⟨p,cap,rfl,h1,h2,h3⟩:=h
 rw[List.length_map]at h2⊢
 refine⟨p,cap,rfl,h1,h2,λw hw i v hi=>?_⟩
 rw[List.getElem?_map]at hi
 cases hl:l[i]? with
 |none=>rw [hl]at hi;cases hi
 |some x=>
  rw[hl]at hi
  obtain rfl:v=.int k (f x):=(Option.some.inj hi).symm
  obtain⟨c,hc,hcc,hr⟩:=h3.get (i:=i) (d:=.int k (f x)) (by rw[List.getElem?_map,hl];rfl)
  obtain rfl:c=_:=hr
  obtain⟨b,off,rfl,ho⟩:=hcc 0 _ rfl
  refine⟨b,off,rfl,?_⟩
  have:=ho w hw
  simpa using this
end
end Go.Sh
namespace Go.Proofs
open Go.Sh
section
variable {r s:Gh} {c:List Value} {ss:List StD} {t:TyD} {v:Value} {w:World} {K:Value→World→Prop} {α:Type} {sz:Nat} {tys:List TyD}
structure PlD where
 l:Int
 ps:List Int
structure OpD where
 k:Int
 n:Int
 pl:PlD
structure PtD where
 op:Int
 to:PlD
 a:OpD
 b:OpD
 args:List OpD
 sign:ByteArray
 fr:PlD
 mu:Bool
 fn:Int
 st:Int
 nx:Int
 el:Int
 tx:Int
structure GrD where
 name:ByteArray
 lv:Int
 outs:List (Int×Int)
 pn:Int
 tys:List TyD
 nms:List ByteArray
 pts:List PtD
structure UnD where
 ss:List StD
 fs:List GrD
 mn:Int
def zQ(c:List Value)(x:Int):Prop:=c=[.int .i64 x]
def JN(x:Int):Prop:=-9223372036854775808≤x∧x<9223372036854775808
def yE(c:List Value)(x:Int):Prop:=c=[.int .i64 x]∧JN x
structure SlB{α:Type}(sz:Nat)(r:Gh)(R:List Value→α→Prop)(v:Value)(l:List α):Prop where
 sl:SlG sz r R v l
 few:l.length≤maxLen
theorem SlB.cells{R:List Value→α→Prop}{l:List α}(h:SlB sz r R v l)[le:Le r s]:SlB sz s R v l:=⟨h.sl.cells,h.few⟩
theorem SlB.up'{R Q:List Value→α→Prop}{l:List α}(h:SlB sz r R v l)(le:Le r s)(hR:∀c x,R c x→Q c x):SlB sz s Q v l:=⟨h.sl.up' le hR,h.few⟩
theorem qD{D:α→Dat}{R:List Value→α→Prop}{cs:List Value}{l:List α}(hR:∀c x,x∈l→Rep r (D x) c→R c x)(h:Rep r (.sl sz (l.map D)) cs)(hl:l.length≤maxLen):∃v,cs=[v]∧SlB sz r R v l:=by
 obtain⟨p,cap,rfl,h1,h2,h3⟩:=h
 rw[List.length_map]at h2⊢
 refine⟨_,rfl,⟨p,cap,rfl,h1,h2,λi hi=>?_⟩,hl⟩
 obtain⟨c,h4,h5,h6⟩:=h3.get (i:=i) (d:=D l[i]) (by rw[List.getElem?_map,gqg hi];rfl)
 rw[Nat.zero_add]at h5
 exact⟨c,h4,h5,hR _ _ (gem hi) h6⟩
def PlD.ok(p:PlD):Prop:=p.ps.length≤maxLen∧∀k∈p.ps,JN k
def OpD.ok(o:OpD):Prop:=o.pl.ok
def PtD.ok(p:PtD):Prop:=p.to.ok∧p.a.ok∧p.b.ok∧(p.args.length≤maxLen∧∀o∈p.args,o.ok)∧p.fr.ok
def GrD.ok(g:GrD):Prop:=g.outs.length≤maxLen∧g.tys.length≤maxLen∧g.nms.length≤maxLen∧g.pts.length≤maxLen∧∀p∈g.pts,p.ok
def UnD.ok(u:UnD):Prop:=u.ss.length≤maxLen∧u.fs.length≤maxLen∧∀g∈u.fs,g.ok
def akx(c:List Value)(x:ByteArray):Prop:=c=[.string x]
def aky(c:List Value)(x:Int×Int):Prop:=c=[.int .i64 x.1,.int .i64 x.2]
def TyC(r:Gh)(c:List Value)(t:TyD):Prop:=TyG r (.agg c.toArray) t
def PlG(r:Gh)(c:List Value)(p:PlD):Prop:=∃v,c=[.int .i64 p.l,v]∧SlB 1 r yE v p.ps
def OpG(r:Gh)(c:List Value)(o:OpD):Prop:=∃v,c=[.int .u8 o.k,.int .i64 o.n,.int .i64 o.pl.l,v]∧SlB 1 r yE v o.pl.ps
def PtG(r:Gh)(c:List Value)(p:PtD):Prop:=∃vt va vb vl vf,
 c=[.int .u8 p.op,.int .i64 p.to.l,vt,.int .u8 p.a.k,.int .i64 p.a.n,.int .i64 p.a.pl.l,va,.int .u8 p.b.k,.int .i64 p.b.n,.int .i64 p.b.pl.l,vb,vl,.string p.sign,.int .i64 p.fr.l,vf,.bool p.mu,.int .i64 p.fn,.int .i64 p.st,.int .i64 p.nx,.int .i64 p.el,.int .i64 p.tx]∧
 SlB 1 r yE vt p.to.ps∧SlB 1 r yE va p.a.pl.ps∧SlB 1 r yE vb p.b.pl.ps∧SlB 4 r (OpG r) vl p.args∧SlB 1 r yE vf p.fr.ps
def GrG(r:Gh)(c:List Value)(g:GrD):Prop:=∃vo vt vn vp,c=[.string g.name,.int .i64 g.lv,vo,.int .i64 g.pn,vt,vn,vp]∧
 SlB 2 r aky vo g.outs∧SlB 5 r (TyC r) vt g.tys∧SlB 1 r akx vn g.nms∧SlB 21 r (PtG r) vp g.pts
def UnG(r:Gh)(v:Value)(u:UnD):Prop:=∃p cap vf,v=.agg #[.slice p u.ss.length cap,vf,.int .i64 u.mn]∧(p=none→cap=0)∧u.ss.length≤cap∧StG r p u.ss∧u.ss.length≤maxLen∧SlB 7 r (GrG r) vf u.fs
theorem PlG.up{p:PlD}(h:PlG r c p)[l:Le r s]:PlG s c p:=by
 obtain⟨v,h1,h2⟩:=h;exact⟨v,h1,h2.cells⟩
theorem OpG.up{p:OpD}(h:OpG r c p)[l:Le r s]:OpG s c p:=by
 obtain⟨v,h1,h2⟩:=h;exact⟨v,h1,h2.cells⟩
theorem PtG.up{p:PtD}(h:PtG r c p)[l:Le r s]:PtG s c p:=by
 obtain⟨vt,va,vb,vl,vf,h0,h1,h2,h3,h4,h5⟩:=h
 exact⟨vt,va,vb,vl,vf,h0,h1.cells,h2.cells,h3.cells,h4.up' l λ_ _ h=>h.up,h5.cells⟩
theorem GrG.up{g:GrD}(h:GrG r c g)[l:Le r s]:GrG s c g:=by
 obtain⟨vo,vt,vn,vp,h0,h1,h2,h3,h4⟩:=h
 exact⟨vo,vt,vn,vp,h0,h1.cells,h2.up' l λ_ _ h=>TyG.up h,h3.cells,h4.up' l λ_ _ h=>h.up⟩
theorem UnG.up{u:UnD}(h:UnG r v u)[l:Le r s]:UnG s v u:=by
 obtain⟨p,cap,vf,h0,h1,h2,h3,h5,h4⟩:=h
 exact⟨p,cap,vf,h0,h1,h2,h3.up,h5,h4.up' l λ_ _ h=>h.up⟩
def PlD.dat(p:PlD):Dat:=.agg [.int .i64 p.l,.sl 1 (p.ps.map (Dat.int .i64))]
def OpD.dat(o:OpD):Dat:=.agg [.int .u8 o.k,.int .i64 o.n,o.pl.dat]
def PtD.dat(p:PtD):Dat:=.agg [.int .u8 p.op,p.to.dat,p.a.dat,p.b.dat,.sl 4 (p.args.map OpD.dat),.str p.sign,p.fr.dat,.bool p.mu,.int .i64 p.fn,.int .i64 p.st,.int .i64 p.nx,.int .i64 p.el,.int .i64 p.tx]
def aiE(x:Int×Int):Dat:=.agg [.int .i64 x.1,.int .i64 x.2]
def GrD.dat(g:GrD):Dat:=.agg [.str g.name,.int .i64 g.lv,.sl 2 (g.outs.map aiE),.int .i64 g.pn,.sl 5 (g.tys.map TyD.dat),.sl 1 (g.nms.map Dat.str),.sl 21 (g.pts.map PtD.dat)]
def UnD.dat(u:UnD):Dat:=.agg [.sl 2 (u.ss.map StD.dat),.sl 7 (u.fs.map GrD.dat),.int .i64 u.mn]
theorem V2{p:PlD}(h:Rep r p.dat c)(k:p.ok):PlG r c p:=by
 obtain⟨a1,b1,rfl,e1,a2,b2,rfl,e2,e3⟩:=h
 obtain rfl:a1=_:=e1
 obtain rfl:b2=[]:=e3
 obtain⟨v,rfl,hv⟩:=qD (D:=Dat.int .i64) (R:=yE) (λc x hx h=>⟨h,k.2 x hx⟩) e2 k.1
 exact⟨v,rfl,hv⟩
theorem V3{o:OpD}(h:Rep r o.dat c)(k:o.ok):OpG r c o:=by
 obtain⟨a1,b1,rfl,e1,a2,b2,rfl,e2,a3,b3,rfl,e3,e4⟩:=h
 obtain rfl:a1=_:=e1
 obtain rfl:a2=_:=e2
 obtain rfl:b3=[]:=e4
 obtain⟨v,rfl,hv⟩:=V2 e3 k
 exact⟨v,rfl,hv⟩
theorem aju{p:PtD}(h:Rep r p.dat c)(k:p.ok):PtG r c p:=by
 obtain⟨a1,b1,rfl,e1,a2,b2,rfl,e2,a3,b3,rfl,e3,a4,b4,rfl,e4,a5,b5,rfl,e5,a6,b6,rfl,e6,a7,b7,rfl,e7,a8,b8,rfl,e8,a9,b9,rfl,e9,a10,b10,rfl,e10,a11,b11,rfl,e11,a12,b12,rfl,e12,a13,b13,rfl,e13,e14⟩:=h
 obtain rfl:a1=_:=e1
 obtain rfl:a6=_:=e6
 obtain rfl:a8=_:=e8
 obtain rfl:a9=_:=e9
 obtain rfl:a10=_:=e10
 obtain rfl:a11=_:=e11
 obtain rfl:a12=_:=e12
 obtain rfl:a13=_:=e13
 obtain rfl:b13=[]:=e14
 obtain⟨v2,rfl,h2⟩:=V2 e2 k.1
 obtain⟨v3,rfl,h3⟩:=V3 e3 k.2.1
 obtain⟨v4,rfl,h4⟩:=V3 e4 k.2.2.1
 obtain⟨v5,rfl,h5⟩:=qD (R:=OpG r) (λc x hx h=>V3 h (k.2.2.2.1.2 x hx)) e5 k.2.2.2.1.1
 obtain⟨v7,rfl,h7⟩:=V2 e7 k.2.2.2.2
 exact⟨v2,v3,v4,v5,v7,rfl,h2,h3,h4,h5,h7⟩
theorem aiF{x:Int×Int}(h:Rep r (aiE x) c):aky c x:=by
 obtain⟨a1,b1,rfl,e1,a2,b2,rfl,e2,e3⟩:=h
 obtain rfl:a1=_:=e1
 obtain rfl:a2=_:=e2
 obtain rfl:b2=[]:=e3
 rfl
theorem ajv{g:GrD}(h:Rep r g.dat c)(k:g.ok):GrG r c g:=by
 obtain⟨a1,b1,rfl,e1,a2,b2,rfl,e2,a3,b3,rfl,e3,a4,b4,rfl,e4,a5,b5,rfl,e5,a6,b6,rfl,e6,a7,b7,rfl,e7,e8⟩:=h
 obtain rfl:a1=_:=e1
 obtain rfl:a2=_:=e2
 obtain rfl:a4=_:=e4
 obtain rfl:b7=[]:=e8
 obtain⟨v3,rfl,h3⟩:=qD (R:=aky) (λc x _ h=>aiF h) e3 k.1
 obtain⟨v5,rfl,h5⟩:=qD (R:=TyC r) (λc x _ h=>TyG.of_rep h) e5 k.2.1
 obtain⟨v6,rfl,h6⟩:=qD (D:=Dat.str) (R:=akx) (λc x _ h=>h) e6 k.2.2.1
 obtain⟨v7,rfl,h7⟩:=qD (R:=PtG r) (λc x hx h=>aju h (k.2.2.2.2 x hx)) e7 k.2.2.2.1
 exact⟨v3,v5,v6,v7,rfl,h3,h5,h6,h7⟩
theorem ajw{u:UnD}(h:Rep r u.dat c)(k:u.ok):UnG r (.agg c.toArray) u:=by
 obtain⟨a1,b1,rfl,e1,a2,b2,rfl,e2,a3,b3,rfl,e3,e4⟩:=h
 obtain rfl:a3=_:=e3
 obtain rfl:b3=[]:=e4
 obtain⟨q,cap,rfl,h1,h2,h3⟩:=e1
 obtain⟨vf,rfl,hf⟩:=qD (R:=GrG r) (λc x hx h=>ajv h (k.2.2 x hx)) e2 k.2.1
 rw[List.length_map]at h2⊢
 exact⟨q,cap,vf,rfl,h1,h2,h3,k.1,hf⟩
def stepG(ss:List StD)(s:TyD×Int)(k:Int):Option (TyD×Int):=
 if k = -1∧s.1.k=3 then s.1.of.head?.map λu=>(u,max s.2 1)
 else if k = -1∧s.1.k=4 then s.1.of.head?.map λu=>(u,max s.2 (if s.1.m then 2 else 3))
 else if 0≤k∧s.1.k=5 then(ze ss s.1.st)[k.toNat]?.map λu=>(u,s.2)
 else none
def goG(ss:List StD):List Int→TyD×Int→Option (TyD×Int)
 |[],s=>some s
 |k::l,s=>(stepG ss s k).bind (goG ss l)
def zm(ss:List StD)(tys:List TyD)(p:PlD):TyD×Int×Bool:=
 match (if p.l<0 then none else tys[p.l.toNat]?).bind λt=>goG ss p.ps (t,0)with
 |some s=>(s.1,s.2,decide (p.ps.length≤8))
 |none=>(yc,0,false)
def kZ:TyD:=⟨1,false,0,0,[]⟩
def aaX:TyD:=⟨2,false,0,0,[]⟩
def xp(p:PlD):Bool:=decide (p.l=0)&&decide (p.ps.length=0)
def vi(o:OpD):Bool:=(decide (o.k=0)&&decide (o.n=0))&&xp o.pl
def zr(ss:List StD)(tys:List TyD)(o:OpD):TyD×Bool:=
 if o.k=1 then(kZ,xp o.pl)
 else if o.k=2 then(aaX,xp o.pl&&(decide (o.n=0)||decide (o.n=1)))
 else if o.k=3 then((zm ss tys o.pl).1,((zm ss tys o.pl).2.2&&decide (o.n=0))&&kz (zm ss tys o.pl).1)
 else if o.k=4 then((zm ss tys o.pl).1,(((zm ss tys o.pl).2.2&&decide (o.n=0)) && !kz (zm ss tys o.pl).1)&&decide ((zm ss tys o.pl).2.1<2))
 else(yc,false)
structure acd where
 to:Bool:=false
 a:Bool:=false
 b:Bool:=false
 args:Bool:=false
 sign:Bool:=false
 fr:Bool:=false
 mu:Bool:=false
 fn:Bool:=false
 st:Bool:=false
 el:Bool:=false
def qE(p:PtD)(h:acd):List Bool:=
 [h.to||xp p.to,h.a||vi p.a,h.b||vi p.b,h.args||decide (p.args.length=0),h.sign||(p.sign.toList == []),h.fr||xp p.fr,h.mu || !p.mu,h.fn||decide (p.fn=0),h.st||decide (p.st=0),h.el||decide (p.el=0)]
def zG(p:PtD)(h:acd):Bool:=(qE p h).all id
def xg(ss:List StD)(tys:List TyD):List OpD→List TyD→Bool
 |[],[]=>true
 |o::l,t::r=>((zr ss tys o).2&&zY yr (zr ss tys o).1 t)&&xg ss tys l r
 |_,_=>false
def QN(g:GrD)(q:Int):Bool:=decide (0≤q)&&decide (q<g.pts.length)
def isK(t:TyD)(k:Int):Bool:=decide (t.k=k)
def yo(s:ByteArray)(l:List (List UInt8)):Bool:=l.any λx=>s.toList == x
noncomputable def ptG(u:UnD)(g:GrD)(p:PtD):Bool:=
 let to:=zm u.ss g.tys p.to
 let fr:=zm u.ss g.tys p.fr
 let laid:=to.2.2&&decide (to.2.1<3)
 let a:=zr u.ss g.tys p.a
 let b:=zr u.ss g.tys p.b
 let ints:=isK a.1 1&&isK b.1 1
 if p.op=1 then((zG p { to:=true,a:=true } && laid)&&a.2)&&zY yr a.1 to.1
 else if p.op=2 then
  (zG p { to:=true,a:=true,b:=true,sign:=true } && (laid&&(a.2&&b.2))) &&
   (if yo p.sign [[43],[45],[42],[47],[37]]then isK to.1 1&&ints
    else if yo p.sign [[60],[60,61],[62],[62,61]]then isK to.1 2&&ints
    else if yo p.sign [[61,61],[33,61]]then isK to.1 2&&(ints||(isK a.1 2&&isK b.1 2))else false)
 else if p.op=3 then
  ((zG p { to:=true,a:=true,sign:=true } && laid)&&a.2) &&
   (if yo p.sign [[45]]then isK to.1 1&&isK a.1 1 else if yo p.sign [[33]]then isK to.1 2&&isK a.1 2 else false)
 else if p.op=4 then
  ((((zG p { to:=true,fr:=true,mu:=true } && laid)&&fr.2.2)&&isK to.1 4)&&decide (to.1.m=p.mu))&&(zY yr (to.1.of.headD yc) fr.1 && !(p.mu&&decide (fr.2.1=3)))
 else if p.op=5 then(((zG p { to:=true,a:=true } && laid)&&a.2)&&isK to.1 3)&&zY yr (to.1.of.headD yc) a.1
 else if p.op=6 then
  (((zG p { to:=true,args:=true,st:=true } && laid)&&isK to.1 5)&&decide (to.1.st=p.st))&&xg u.ss g.tys p.args (yy u.ss to.1).1
 else if p.op=7 then
  ((zG p { to:=true,args:=true,fn:=true } && laid)&&(decide (0≤p.fn)&&decide (p.fn<u.fs.length))) &&
   (match u.fs[p.fn.toNat]? with
    |some f=>zY yr to.1 (f.tys.headD yc)&&xg u.ss g.tys p.args ((f.tys.drop 1).take f.pn.toNat)
    |none=>false)
 else if p.op=8 then(zG p { to:=true } && laid)&&isK to.1 1
 else if p.op=9 then(zG p { a:=true } && a.2)&&isK a.1 1
 else if p.op=10 then((zG p { fr:=true } && fr.2.2)&&(qN u.ss fr.1).1)&&decide (fr.2.1<2)
 else if p.op=11 then((zG p { fr:=true } && fr.2.2)&&decide (0<p.fr.l))&&decide (p.fr.ps.length=0)
 else if p.op=12 then((zG p { a:=true,el:=true } && a.2)&&isK a.1 2)&&QN g p.el
 else if p.op=13∨p.op=14 then zG p {}
 else false
noncomputable def yw(u:UnD)(g:GrD)(p:PtD):Bool:=
 !((decide (p.tx<0)||(!decide (p.op=14) && !QN g p.nx))||(decide (p.op=14) && !decide (p.nx=0)))&&ptG u g p
def qF(x y:Int):List Int→Bool
 |[]=>false
 |a::l=>(decide (a=y)&&l.contains x)||qF x y l
def vj(tys:List TyD)(x y:Int):Bool:=tys.any λt=>qF x y (regsT t)
def jG(outs:List (Int×Int))(x y:Int):Bool:=outs.contains (x,y)
def kT(lv:Int)(o:Int×Int):Bool:=!((decide (min o.1 o.2<0)||decide (lv≤max o.1 o.2))||decide (o.1=o.2))
def Zt(o w:Int×Int):Bool:=decide (o.1<w.1)||(decide (o.1=w.1)&&decide (o.2<w.2))
def adb:List (Int×Int)→Bool
 |a::b::l=>Zt a b&&adb (b::l)
 |_=>true
def aiG(n:Nat)(must says:Int→Int→Bool):Bool:=
 (List.range n).all λa:Nat=>(List.range n).all λb:Nat=>
  ((List.range n).all λc:Nat=>!((says a b&&says b c)&&(!decide (a=c) && !says a c))) && !(!decide (a=b)&&(must a b && !says a b))
def jH(g:GrD):Bool:=
 (g.outs.all (kT g.lv)&&adb g.outs)&&aiG g.lv.toNat (vj (g.tys.take (g.pn.toNat+1))) (jG g.outs)
noncomputable def tyG(u:UnD)(g:GrD)(i:Nat)(t:TyD):Bool:=
 zP u.ss t&&(regsT t).all λr=>!(decide (r<(if(i:Int)≤g.pn then 0 else -1))||decide (g.lv≤r))
noncomputable def jT(u:UnD)(g:GrD):Nat→List TyD→Bool
 |_,[]=>true
 |i,t::l=>tyG u g i t&&jT u g (i+1) l
def yF(l:List PtD):Nat:=l.countP λp=>decide (p.op=4)
noncomputable def xh(u:UnD)(fn:Nat)(g:GrD):Bool:=
 ((((((decide (0≤g.lv)&&decide (g.lv≤8))&&(decide (0≤g.pn)&&decide (g.pn≤8)))&&(decide (g.pn<g.tys.length)&&decide (g.tys.length≤512)))&&decide (g.nms.length=g.tys.length)) &&
  jT u g 0 g.tys)&&((decide (1≤g.pts.length)&&decide (g.pts.length≤1024))&&jH g)) &&
  (decide (yF g.pts≤256)&&(!decide ((fn:Int)=u.mn)||((decide (g.lv=0)&&decide (g.pn=0))&&isK (g.tys.headD yc) 1)))
noncomputable def jX(u:UnD):Nat→List GrD→Option Nat
 |_,[]=>none
 |i,g::l=>if xh u i g then jX u (i+1) l else some i
noncomputable def Xb(u:UnD)(g:GrD):Nat→List PtD→Option Nat
 |_,[]=>none
 |q,p::l=>if yw u g p then Xb u g (q+1) l else some q
noncomputable def XK(u:UnD):Nat→List GrD→Option (Nat×Nat)
 |_,[]=>none
 |i,g::l=>match Xb u g 0 g.pts with|some q=>some (i,q)|none=>XK u (i+1) l
noncomputable def jY(u:UnD):Int×Int×Int:=
 if !decide ((zw u.ss).2=0)||(decide (u.fs.length<1)||decide (32<u.fs.length))||(decide (u.mn<0)||decide ((u.fs.length:Int)≤u.mn))then(-1,-1,100)
 else match jX u 0 u.fs with
  |some i=>(i,-1,100)
  |none=>match XK u 0 u.fs with
   |some (i,q)=>(i,q,100)
   |none=>(0,0,0)
noncomputable def QO(u:UnD):Bool:=decide ((jY u).2.2=0)
theorem aeU:∀{n:Nat}{s s':Int}{m:Nat}{t:TyD},zE s n t=true→n≤m→s≤s'→zE s' m t=true:=by
 intro n
 induction n with
 |zero=>intro s s' m t h;cases h
 |succ n ih=>
  intro s s' m t h hm hs
  obtain⟨m,rfl⟩:∃k,m=k+1:=⟨m-1,by omega⟩
  have inn:inB s n t=true→inB s' m t=true:=by
   intro hi
   cases t with
   |mk k mm re st of=>
    cases of with
    |nil=>cases hi
    |cons u l=>exact ih (t:=u) hi (by omega) hs
  rw[xS]at h⊢
  split
  ·rename_i h1;rw[if_pos h1]at h;exact h
  ·rename_i h1;rw[if_neg h1]at h
   split
   ·rename_i h2;rw[if_pos h2]at h
    simp only[gba,gdt]at h⊢
    exact⟨h.1,by omega⟩
   ·rename_i h2;rw[if_neg h2]at h
    split
    ·rename_i h3;rw[if_pos h3]at h
     simp only[gba,gdt]at h⊢
     exact⟨h.1,h.2.1,inn h.2.2⟩
    ·rename_i h3;rw[if_neg h3]at h
     split
     ·rename_i h4;rw[if_pos h4]at h
      simp only[gba,gdt]at h⊢
      exact⟨h.1,h.2.1,inn h.2.2⟩
     ·rename_i h4;rw[if_neg h4]at h;cases h
def Fine(ss:List StD)(t:TyD):Prop:=zE ss.length 48 t=true
theorem Fine.is(h:Fine ss t)(hs:ss.length≤32):isB t=true:=aeU h (Nat.le_refl _) (by omega)
theorem Fine.cases(h:Fine ss t):(t.of=[]∧(t.k=1∨t.k=2∨t.k=5))∨∃u,t.of=[u]∧Fine ss u∧(t.k=3∨t.k=4):=by
 rcases yz h with h|⟨u,h1,h2,h3⟩
 ·exact .inl h
 ·exact .inr ⟨u,h1,aeU h2 (by omega) (Int.le_refl _),h3⟩
theorem Fine.st(h:Fine ss t)(hk:t.k=5):0≤t.st∧t.st<ss.length:=by
 have:=jC h hk
 exact⟨this.1,this.2.1⟩
theorem ajx(hg:kx ss){s:TyD×Int}{k:Int}{s':TyD×Int}(h:Fine ss s.1)(e:stepG ss s k=some s'):Fine ss s'.1:=by
 have inside:∀{f:TyD→TyD×Int},(∀u,(f u).1=u)→s.1.of.head?.map f=some s'→Fine ss s'.1:=by
  intro f hf e
  rcases h.cases with⟨h1,_⟩|⟨u,h1,h2,_⟩
  ·rw[h1]at e;cases e
  ·rw[h1]at e
   obtain rfl:=Option.some.inj e
   rw[hf];exact h2
 unfold stepG at e
 split at e
 ·exact inside (λ_=>rfl) e
 split at e
 ·exact inside (λ_=>rfl) e
 split at e
 ·rename_i h3
  cases hu:(ze ss s.1.st)[k.toNat]? with
  |none=>rw [hu]at e;cases e
  |some u=>
   rw[hu]at e
   obtain rfl:=Option.some.inj e
   exact hg _ u (List.mem_of_getElem? hu)
 ·cases e
theorem aed{ss:List StD}(hg:kx ss):∀{l:List Int}{s s':TyD×Int},Fine ss s.1→goG ss l s=some s'→Fine ss s'.1
 |[],s,s',h,e=>by obtain rfl:=Option.some.inj e;exact h
 |k::l,s,s',h,e=>by
  rw[goG]at e
  cases hs:stepG ss s k with
  |none=>rw [hs]at e;cases e
  |some s2=>rw [hs]at e;exact aed hg (ajx hg h hs) e
structure yQ(ss:List StD)(tys:List TyD):Prop where
 few:ss.length≤32
 good:kx ss
 acy:∀k,¬Rch ss k k
 all:∀t∈tys,Fine ss t
theorem ju(h:yQ ss tys){p:PlD}(ho:(zm ss tys p).2.2=true):Fine ss (zm ss tys p).1:=by
 unfold zm at ho⊢
 cases hb:(if p.l<0 then none else tys[p.l.toNat]?).bind λt=>goG ss p.ps (t,0)with
 |none=>rw [hb]at ho;cases ho
 |some s=>
  show Fine ss s.1
  split at hb
  ·cases hb
  ·cases ht:tys[p.l.toNat]? with
   |none=>rw [ht]at hb;cases hb
   |some t=>
    rw[ht]at hb
    exact aed h.good (h.all t (List.mem_of_getElem? ht)) hb
def akz:List Int→Int→List Int
 |[],_=>[]
 |k::l,c=>if k<0 then c::akz l (c+1)else k::akz l c
def akA:List Int→Int
 |[]=>0
 |k::l=>(if k<0 then 1 else 0)+akA l
def ame:List TyD→Int→List TyD
 |[],_=>[]
 |t::l,c=>t.lay (akz (regsT t) c)::ame l (c+akA (regsT t))
def akB:List TyD→Int
 |[]=>0
 |t::l=>akA (regsT t)+akB l
def anr(u:UnD)(fn:Int):Int:=match u.fs[fn.toNat]? with|some g=>g.lv|none=>0
def ptN(u:UnD)(p:PtD):Int:=if p.op=4 then 1 else if p.op=7 then anr u p.fn else 0
def atK(u:UnD):List PtD→Int→List Int
 |[],_=>[]
 |p::l,c=>(if ptN u p=0 then -1 else c)::atK u l (c+ptN u p)
def atC(u:UnD):List PtD→Int
 |[]=>0
 |p::l=>ptN u p+atC u l
structure RgD where
 lv:Int
 pt:Int
 ct:Int
 tys:List TyD
 at':List Int
def ajy:RgD:=⟨0,0,0,[],[]⟩
def amf(u:UnD)(g:GrD):RgD:=⟨g.lv,g.pts.length,g.lv+akB g.tys+atC u g.pts,ame g.tys g.lv,atK u g.pts (g.lv+akB g.tys)⟩
noncomputable def isU(u:UnD)(fn q:Int):Bool:=(decide (0≤fn)&&decide (fn<u.fs.length))&&(QO u&&decide (q<((u.fs[fn.toNat]?.map λg=>(g.pts.length:Int)).getD 0)))
noncomputable def amg(u:UnD)(fn q:Int):RgD×Int:=
 if isU u fn q then(match u.fs[fn.toNat]? with|some g=>(amf u g,0)|none=>(ajy,2))else(ajy,2)
instance {P:Program} {t e ty:TypeId} {a b:Int}:PStep P (Builtin.max_ #[t,e] ty #[.int .i64 a,.int .i64 b]) (.int .i64 (max a b)):=⟨λw=>Lib.run_max_ints w _ _ _ _ _ _⟩
instance (priority:=low) {P:Program} {t:TypeId} {c:Bool} {x:ByteArray} {m:List UInt8}:PStep P (yR .eql t c (.string x) (.string (bs m))) (.bool (x.toList == m)):=.of λ_ k=>
 yS (λw=>by rw[aks trivial,binOp_string_eql,aeP m];rfl) k
theorem amh{P:Program}{s:Sem Value}(h:opQ P w s λv=>K v w):opW P w s K:=w_q (by
 obtain⟨v,h1,h2⟩:=h
 exact⟨v,h1,h2⟩)
theorem SlB.lt{R:List Value→α→Prop}{l:List α}(h:SlB sz r R v l):l.length≤9223372036854775807:=h.few
theorem QP{a:Nat}:decide ((a:Int)=0)=decide (a=0):=decide_eq_decide.2 (by omega)
theorem jv{p:PlD}(hr:Holds r w)(hp:PlG r c p)(h:∀w',Ext w w'→K (.bool (xp p)) w'):
  zd Tryz.prog Tryz.ke #[.agg c.toArray] w K:=by
 obtain⟨v,rfl,hl⟩:=hp
 obtain⟨q,cap,rfl,_,_⟩:=hl.sl.shape
 refine Tryz.afj ?_
 unfold Tryz.VR
 have S:=St.start hr
 refine S.box λb1 w1 S=>?_
 refine gG_ ?_
 refine zi (c:=decide (p.ps.length=0)) (λ_ K2 hK2=>?_) ?_
 ·refine gG_ ?_
  rw[QP]
  exact hK2
 exact h _ S.ext
def AskG(r:Gh)(v:Value)(u:UnD)(g:GrD):Prop:=∃p cap vf vo vt vn vp,v=.agg #[.slice p u.ss.length cap,vf,.int .i64 u.mn,.string g.name,.int .i64 g.lv,vo,.int .i64 g.pn,vt,vn,vp]∧
 UnG r (.agg #[.slice p u.ss.length cap,vf,.int .i64 u.mn]) u∧GrG r [.string g.name,.int .i64 g.lv,vo,.int .i64 g.pn,vt,vn,vp] g
theorem AskG.up{u:UnD}{g:GrD}(h:AskG r v u g)[l:Le r s]:AskG s v u g:=by
 obtain⟨p,cap,vf,vo,vt,vn,vp,h0,h1,h2⟩:=h
 exact⟨p,cap,vf,vo,vt,vn,vp,h0,h1.up,h2.up⟩
abbrev tyL(t:TyD)(q:Option Addr)(cap:Nat):List Value:=[.int .u8 t.k,.bool t.m,.int .i64 t.re,.int .i64 t.st,.slice q t.of.length cap]
abbrev tyV(t:TyD)(q:Option Addr)(cap:Nat):Value:=.agg #[.int .u8 t.k,.bool t.m,.int .i64 t.re,.int .i64 t.st,.slice q t.of.length cap]
abbrev spL(t:TyD)(q:Option Addr)(cap:Nat)(m:Int)(ok:Bool):List Value:=[.int .u8 t.k,.bool t.m,.int .i64 t.re,.int .i64 t.st,.slice q t.of.length cap,.int .i64 m,.bool ok]
abbrev spV(t:TyD)(q:Option Addr)(cap:Nat)(m:Int)(ok:Bool):Value:=.agg #[.int .u8 t.k,.bool t.m,.int .i64 t.re,.int .i64 t.st,.slice q t.of.length cap,.int .i64 m,.bool ok]
theorem yJ(h:TyG r (.agg c.toArray) t):∃q cap,c=tyL t q cap∧TyG r (tyV t q cap) t:=by
 obtain⟨p,cap,h1,_⟩:=XI h
 subst h1
 exact⟨p,cap,rfl,h⟩
theorem Zu{s uu:TyD}{q:Option Addr}{cap:Nat}(h:TyG r (tyV s q cap) s)(hof:s.of=[uu]):∃b off q2 cap2,q=some ⟨b,off,none⟩∧TyG r (tyV uu q2 cap2) uu∧∀j v,(tyL uu q2 cap2)[j]? = some v→Ob r λw=>w.cell? ⟨b,off+j,none⟩=some v:=by
 obtain⟨_,_,hE,_,_,hreps⟩:=h
 cases hE
 obtain⟨b,off,rfl,c,h1,h2,h3⟩:=NdG.of hreps (i:=0) (by rw[hof];exact Nat.one_pos)
 have h3:TyG r (.agg c.toArray) uu:=by simpa [hof]using h3
 obtain⟨q2,cap2,rfl,ht⟩:=yJ h3
 exact⟨b,off,q2,cap2,rfl,ht,by simpa using h2⟩
theorem adc(ss:List StD):∀(l:List Int)(k:Int)(s:TyD×Int),goG ss (l++[k]) s=(goG ss l s).bind λs'=>stepG ss s' k
 |[],k,s=>by
  show(stepG ss s k).bind (goG ss [])=stepG ss s k
  cases stepG ss s k<;>rfl
 |x::l,k,s=>by
  rw[List.cons_append,goG,goG]
  cases h:stepG ss s x with
  |none=>rfl
  |some s'=>exact adc ss l k s'
theorem agB{ss:List StD}:∀{l m:List Int}{s:TyD×Int},goG ss l s=none→goG ss (l++m) s=none
 |[],m,s,h=>by cases h
 |x::l,m,s,h=>by
  rw[List.cons_append,goG]
  rw[goG]at h
  cases hs:stepG ss s x with
  |none=>rfl
  |some s'=>rw [hs]at h;exact agB (l:=l) (m:=m) h
theorem ajz{p:PlD}{i:Nat}(h0:0≤p.l)(ht:tys[p.l.toNat]? = some t)(h:goG ss (p.ps.take i) (t,0)=none):zm ss tys p=(yc,0,false):=by
 have:=agB (m:=p.ps.drop i) h
 rw[List.take_append_drop]at this
 unfold zm
 rw[if_neg (by omega),ht]
 show(match goG ss p.ps (t,0) with|some s=>(s.1,s.2,decide (p.ps.length≤8))|none=>(yc,0,false))=_
 rw[this]
theorem ajA{p:PlD}{s:TyD×Int}(h0:0≤p.l)(ht:tys[p.l.toNat]? = some t)(h:goG ss p.ps (t,0)=some s):zm ss tys p=(s.1,s.2,decide (p.ps.length≤8)):=by
 unfold zm
 rw[if_neg (by omega),ht]
 show(match goG ss p.ps (t,0) with|some s=>(s.1,s.2,decide (p.ps.length≤8))|none=>(yc,0,false))=_
 rw[h]
theorem akC{p:PlD}(h:p.l<0∨(tys.length:Int)≤p.l):zm ss tys p=(yc,0,false):=by
 unfold zm
 by_cases h0:p.l<0
 ·rw[if_pos h0];rfl
 ·rw[if_neg h0,List.getElem?_eq_none (by omega)];rfl
theorem xH{u:UnD}{g:GrD}{p:PlD}{K:Value→World→Prop}{m:Int}{ok:Bool}(hr:Holds r w)(hx:AskG r v u g)(hf:yQ u.ss g.tys)(hp:PlG r c p)(hsp:zm u.ss g.tys p=(t,m,ok))
  (h:∀q cap w',Ext w w'→TyG r (tyV t q cap) t→K (spV t q cap m ok) w'):zd Tryz.prog Tryz.zz #[v,.agg c.toArray] w K:=by
 obtain⟨p0,cap0,vf,vo,vt,vn,vp,rfl,hu,hg⟩:=hx
 obtain⟨_,_,_,_,hE,_,htys,_,_⟩:=hg
 cases hE
 obtain⟨_,_,_,hE,_,_,hst,_,_⟩:=hu
 cases hE
 obtain⟨qt,capt,rfl,_,_⟩:=htys.sl.shape
 obtain⟨v,rfl,hl⟩:=hp
 obtain⟨qs,caps,rfl,_,_⟩:=hl.sl.shape
 have hbl:=hl.lt
 refine Tryz.VB ?_
 unfold Tryz.Yp
 have S:=St.start hr
 refine S.box λb2 w1 S=>?_
 refine S.box λb3 w2 S=>?_
 refine S.al λb4 w3 S=>?_
 refine gG_ ?_
 refine zj (c:=decide ((g.tys.length:Int)≤p.l)) (λ_ K2 hK2=>?_) ?_
 ·refine gG_ ?_
  exact hK2
 refine c_b (λho=>?_) (λhi=>?_)
 ·have hz:=akC (ss:=u.ss) (tys:=g.tys) (p:=p) (by simpa using ho)
  rw[hz]at hsp;cases hsp
  refine zy (cs:=#[.int .u8 0,.bool false,.int .i64 0,.int .i64 0,.slice none 0 0,.int .i64 0,.bool false]) (by kernel_rfl) ?_
  refine S.stB (b:=b4) λw5 S=>?_
  refine gG_ ?_
  exact h none 0 _ S.ext xJ
 have hlo:0≤p.l∧p.l<g.tys.length:=by
  simp only[Bool.or_eq_false_iff,decide_eq_false_iff_not]at hi;omega
 clear hi
 have hlt0:p.l.toNat<g.tys.length:=by omega
 obtain⟨bt,ot,ct,rfl,hct,htc,hcell⟩:=htys.sl.get (by decide) hlt0
 obtain⟨t0,hti⟩:∃t0,g.tys[p.l.toNat]=t0:=⟨_,rfl⟩
 rw[hti]at htc
 have hq:g.tys[p.l.toNat]? = some t0:=by rw[gqg hlt0,hti]
 have hfi:Fine u.ss t0:=hf.all _ (List.mem_of_getElem? hq)
 obtain⟨q0,cap1,rfl,ht0⟩:=yJ htc
 have S:=S.go (Ext.drew _)
 refine gG_ ?_
 refine zp (n:=5) hct (λj v hj=>S.at (hcell j v hj)) ?_
 refine gG_ ?_
 refine S.alU λb5 w10 S=>?_
 refine S.stB (b:=b5) λw11 S=>?_
 refine gG_ ?_
 have hok:decide (p.ps.length≤8)=decide ((p.ps.length:Int)≤8):=decide_eq_decide.2 (by omega)
 refine zh (ι:=Nat×TyD×Int×Option Addr×Nat) (λi=>[.int .i64 (i.1:Nat)]) (λi w'=>i.1≤p.ps.length∧goG u.ss (p.ps.take i.1) (t0,0)=some (i.2.1,i.2.2.1)∧TyG r (tyV i.2.1 i.2.2.2.1 i.2.2.2.2) i.2.1∧
  StX noX w r w' [.cell b5 (spL i.2.1 i.2.2.2.1 i.2.2.2.2 i.2.2.1 (decide ((p.ps.length:Int)≤8))) 228,.cell b4 [.int .u8 0,.bool false,.int .i64 0,.int .i64 0,.slice none 0 0,.int .i64 0,.bool false] 228,.cell b3 [.int .i64 p.l,.slice qs p.ps.length caps] 59,
   .cell b2 [.slice p0 u.ss.length cap0,vf,.int .i64 u.mn,.string g.name,.int .i64 g.lv,vo,.int .i64 g.pn,.slice (some ⟨bt,ot,none⟩) g.tys.length capt,vn,vp] 180]) (λi=>p.ps.length-i.1) (0,t0,0,q0,cap1) rfl ⟨gzl _,rfl,ht0,S⟩ ?_
 clear S
 rintro⟨i,s,m',q,cap⟩ d w15 ⟨hi,hgo,hs,S⟩ K6 hK6
 simp only at hi hgo hs S⊢
 rw[gdz]
 refine gG_ ?_
 refine c_b (λhlt=>?_) (λhge=>?_)
 rotate_left
 ·have hie:i=p.ps.length:=by
   have:=of_decide_eq_false hge;omega
  rw[hie,List.take_length]at hgo
  rw[ajA hlo.1 hq hgo,hok]at hsp
  cases hsp
  refine gG_ ?_
  refine S.stB (b:=b4) λw16 S=>?_
  refine gG_ ?_
  exact h _ _ _ S.ext hs
 have hlt:i<p.ps.length:=by simpa using hlt
 have hsf:Fine u.ss s:=aed hf.good hfi hgo
 obtain⟨k,hke⟩:∃k,p.ps[i]=k:=⟨_,rfl⟩
 obtain⟨bs,os,cs,rfl,hcs,hck,hcl⟩:=hl.sl.get (by decide) hlt
 rw[hke]at hck
 obtain⟨rfl,hin⟩:=hck
 have hstep:goG u.ss (p.ps.take (i+1)) (t0,0)=stepG u.ss (s,m') k:=by
  rw[List.take_succ_eq_append_getElem hlt,adc,hgo,hke];rfl
 refine zn (λ_ w'=>∃s' m2 q' cap',stepG u.ss (s,m') k=some (s',m2)∧TyG r (tyV s' q' cap') s'∧
  StX noX w r w' [.cell b5 (spL s' q' cap' m2 (decide ((p.ps.length:Int)≤8))) 228,.cell b4 [.int .u8 0,.bool false,.int .i64 0,.int .i64 0,.slice none 0 0,.int .i64 0,.bool false] 228,.cell b3 [.int .i64 p.l,.slice (some ⟨bs,os,none⟩) p.ps.length caps] 59,
   .cell b2 [.slice p0 u.ss.length cap0,vf,.int .i64 u.mn,.string g.name,.int .i64 g.lv,vo,.int .i64 g.pn,.slice (some ⟨bt,ot,none⟩) g.tys.length capt,vn,vp] 180]) (λK16 hK16=>?_) ?_
 rotate_left
 ·rintro _ w19 ⟨s',m2,q',cap',h1,h2,S⟩ d2
  refine gG_ ?_
  rw[show ((i:Int)+1)=((i+1:Nat):Int)by omega]
  exact hK6 (i+1,s',m2,q',cap') _ ⟨hlt,hstep.trans h1,h2,S⟩ (by show p.ps.length-(i+1)<p.ps.length-i;omega)
 refine gG_ ?_
 refine zg (v:=.int .i64 k) (by simpa using S.at (hcl 0 _ rfl)) ?_
 refine gP_ ?_
 refine S.ldN (b:=b5) ?_
 refine S.al λb8 w20 S=>?_
 refine S.stB (b:=b8) λw21 S=>?_
 refine gG_ ?_
 refine zi (c:=decide (s.k=3)) (λ_ K2 hK2=>?_) ?_
 ·refine gG_ ?_
  exact hK2
 have down:(s.k=3∨s.k=4)→∃uu,s.of=[uu]:=by
  intro hk
  rcases hsf.cases with⟨_,h1⟩|⟨uu,h1,_⟩
  ·omega
  ·exact⟨uu,h1⟩
 refine c_b (λhB=>?_) (λhB=>?_)
 ·obtain⟨hk1,hk3⟩:k = -1∧s.k=3:=by simpa using hB
  obtain⟨uu,hof⟩:=down (.inl hk3)
  obtain⟨bo,oo,q2,cap2,rfl,ht2,hcc⟩:=Zu hs hof
  have hl1:s.of.length=1:=by rw[hof];rfl
  refine gG_ ?_
  refine S.st (b:=b5) λw26 S=>?_
  refine gG_ ?_
  refine zp (n:=5) (c:=tyL uu q2 cap2) rfl (λj v hj=>by simpa using S.at (hcc j v hj)) ?_
  refine gG_ ?_
  refine S.stN (b:=b5) λw27 S=>?_
  refine hK16 [] _ ⟨uu,max m' 1,q2,cap2,?_,ht2,S.drop b8⟩
  rw[stepG,if_pos ⟨hk1,hk3⟩,hof];rfl
 have hB:¬(k = -1∧s.k=3):=by simpa using hB
 refine gG_ ?_
 refine zi (c:=decide (s.k=4)) (λ_ K2 hK2=>?_) ?_
 ·refine gG_ ?_
  exact hK2
 refine c_b (λhR=>?_) (λhR=>?_)
 ·obtain⟨hk1,hk3⟩:k = -1∧s.k=4:=by simpa using hR
  obtain⟨uu,hof⟩:=down (.inr hk3)
  obtain⟨bo,oo,q2,cap2,rfl,ht2,hcc⟩:=Zu hs hof
  have hl1:s.of.length=1:=by rw[hof];rfl
  refine zn (λs' w'=>s'=[.int .i64 (if s.m then 2 else 3)]∧w'=w21) (λK7 hK7=>?_) ?_
  ·refine gG_ ?_
   refine c_b (λhm=>hK7 _ _ ⟨by rw[hm];rfl,rfl⟩) (λhm=>hK7 _ _ ⟨by rw[hm];rfl,rfl⟩)
  rintro _ _ ⟨rfl,rfl⟩ d3
  refine gG_ ?_
  refine S.st (b:=b5) λw26 S=>?_
  refine gG_ ?_
  refine zp (n:=5) (c:=tyL uu q2 cap2) rfl (λj v hj=>by simpa using S.at (hcc j v hj)) ?_
  refine gG_ ?_
  refine S.stN (b:=b5) λw27 S=>?_
  refine hK16 [] _ ⟨uu,max m' (if s.m then 2 else 3),q2,cap2,?_,ht2,S.drop b8⟩
  rw[stepG,if_neg (by omega),if_pos ⟨hk1,hk3⟩,hof];rfl
 have hR:¬(k = -1∧s.k=4):=by simpa using hR
 refine gG_ ?_
 refine zi (c:=decide (s.k=5)) (λ_ K2 hK2=>?_) ?_
 ·refine gG_ ?_
  exact hK2
 refine zi (c:=decide (k<(ze u.ss s.st).length)) (λh5 K2 hK2=>?_) ?_
 ·obtain⟨hk0,hk5⟩:0≤k∧s.k=5:=by simpa using h5
  obtain⟨hst0,hst1⟩:=hsf.st hk5
  have hslt:s.st.toNat<u.ss.length:=by omega
  obtain⟨b,off,q9,capq,rfl,hcell9,_,_,hfl⟩:=xK hst hslt
  have hlen:(ze u.ss s.st).length=u.ss[s.st.toNat].fs.length:=by
   rw[← vQ hslt];simp only[ze,tnc]
  refine gG_ ?_
  refine zg (S.at hcell9) ?_
  refine gG_ ?_
  rw[← hlen]
  exact hK2
 refine c_b (λhS=>?_) (λhS=>?_)
 ·obtain⟨⟨hk0,hk5⟩,hkl⟩:(0≤k∧s.k=5)∧k<(ze u.ss s.st).length:=by simpa using hS
  obtain⟨hst0,hst1⟩:=hsf.st hk5
  have hslt:s.st.toNat<u.ss.length:=by omega
  obtain⟨b,off,q9,capq,rfl,hcell9,_,_,hfl⟩:=xK hst hslt
  have htl:ze u.ss s.st=u.ss[s.st.toNat].fs.map (·.2):=by
   rw[← yD hslt];simp only[ze,tnc]
  have hkf:k.toNat<u.ss[s.st.toNat].fs.length:=by
   rw[htl,List.length_map]at hkl;omega
  obtain⟨b9,off9,c9,rfl,hc9,hcell8,ht9⟩:=qC hfl hkf
  obtain⟨q2,cap2,rfl,ht2⟩:=yJ ht9
  refine gG_ ?_
  refine zg (S.at hcell9) ?_
  refine gG_ ?_
  refine zp (n:=5) (c:=tyL _ q2 cap2) rfl (λj v hj=>by have:=S.at (hcell8 (j+1) v hj);rwa[show off9+k.toNat*6+(j+1)=off9+k.toNat*6+1+j by omega]at this) ?_
  refine gG_ ?_
  refine S.stN (b:=b5) λw27 S=>?_
  refine hK16 [] _ ⟨_,m',q2,cap2,?_,ht2,S.drop b8⟩
  rw[stepG,if_neg (by omega),if_neg (by omega),if_pos ⟨hk0,hk5⟩,htl,List.getElem?_map,gqg hkf];rfl
 have hz:zm u.ss g.tys p=(yc,0,false):=by
  refine ajz hlo.1 hq (i:=i+1) (hstep.trans ?_)
  rw[stepG,if_neg hB,if_neg hR]
  split
  ·rename_i h5
   rw[List.getElem?_eq_none];· rfl
   have :¬k<(ze u.ss s.st).length:=by
    intro hh
    have :((decide (0≤k)&&decide (s.k=5))&&decide (k<((ze u.ss s.st).length:Int)))=true:=by simp[h5,hh]
    rw[this]at hS;cases hS
   have h50:0≤k:=h5.1
   show(ze u.ss s.st).length≤k.toNat
   omega
  ·rfl
 rw[hz]at hsp;cases hsp
 refine gG_ ?_
 refine S.stB (b:=b4) λw16 S=>?_
 refine gG_ ?_
 exact h none 0 _ S.ext xJ
theorem XL{k:Int}{m:Bool}{re st:Int}:TyG r (tyV (.mk k m re st []) none 0) (.mk k m re st []):=xJ
theorem k6{u:UnD}{g:GrD}{o:OpD}{K:Value→World→Prop}{ok:Bool}(hr:Holds r w)(hx:AskG r v u g)(hf:yQ u.ss g.tys)(ho:OpG r c o)(hop:zr u.ss g.tys o=(t,ok))
  (h:∀q cap w',Ext w w'→TyG r (tyV t q cap) t→K (.tuple #[tyV t q cap,.bool ok]) w'):zd Tryz.prog Tryz.y6 #[v,.agg c.toArray] w K:=by
 obtain⟨p0,cap0,vf,vo,vt,vn,vp,rfl,hu,hg⟩:=id hx
 obtain⟨vq,rfl,hl⟩:=ho
 obtain⟨qs,caps,rfl,_,_⟩:=hl.sl.shape
 have hpl:PlG r [.int .i64 o.pl.l,.slice qs o.pl.ps.length caps] o.pl:=⟨_,rfl,hl⟩
 refine Tryz.QJ ?_
 unfold Tryz.vL
 have S:=St.start hr
 refine S.box λb2 w1 S=>?_
 refine S.box λb3 w2 S=>?_
 refine S.al λb4 w3 S=>?_
 refine gG_ ?_
 unfold zr at hop
 refine zf (λh1=>?_) (λh1=>?_)
 ·rw[if_pos h1]at hop;cases hop
  refine gG_ ?_
  refine S.ldN (b:=b3) ?_
  refine jv S.holds hpl λw4 e4=>?_
  have S:=S.go e4
  refine S.stB (b:=b4) λw5 S=>?_
  refine gG_ ?_
  exact h none 0 _ S.ext XL
 rw[if_neg h1]at hop
 refine gG_ ?_
 refine zf (λh2=>?_) (λh2=>?_)
 ·rw[if_pos h2]at hop;cases hop
  have S:=S.go (Ext.drew _)
  refine gG_ ?_
  refine S.ldN (b:=b3) ?_
  refine jv S.holds hpl λw44 e4=>?_
  have S:=S.go e4
  have fin:∀{w9:World},StX noX w r w9 [.cell b4 (tyL aaX none 0) 112,.cell b3 [.int .u8 o.k,.int .i64 o.n,.int .i64 o.pl.l,.slice qs o.pl.ps.length caps] 61,.cell b2 (Value.agg #[.slice p0 u.ss.length cap0,vf,.int .i64 u.mn,.string g.name,.int .i64 g.lv,vo,.int .i64 g.pn,vt,vn,vp]).cells.toList 180]→∀x,x=(xp o.pl&&(decide (o.n=0)||decide (o.n=1)))→
    K (.tuple #[tyV aaX none 0,.bool x]) w9:=by
   intro w9 S x hx
   subst hx
   exact h none 0 _ S.ext XL
  have st:∀{w8:World}{K:World→Prop},StX noX w r w8 [.cell b4 [.int .u8 0,.bool false,.int .i64 0,.int .i64 0,.slice none 0 0] 112,.cell b3 [.int .u8 o.k,.int .i64 o.n,.int .i64 o.pl.l,.slice qs o.pl.ps.length caps] 61,.cell b2 (Value.agg #[.slice p0 u.ss.length cap0,vf,.int .i64 u.mn,.string g.name,.int .i64 g.lv,vo,.int .i64 g.pn,vt,vn,vp]).cells.toList 180]→
    (∀w9,StX noX w r w9 [.cell b4 (tyL aaX none 0) 112,.cell b3 [.int .u8 o.k,.int .i64 o.n,.int .i64 o.pl.l,.slice qs o.pl.ps.length caps] 61,.cell b2 (Value.agg #[.slice p0 u.ss.length cap0,vf,.int .i64 u.mn,.string g.name,.int .i64 g.lv,vo,.int .i64 g.pn,vt,vn,vp]).cells.toList 180]→K w9)→
    opU Tryz.prog w8 (Instr.storeAt 112 (.pointer (some ⟨b4,0,none⟩)) (.agg #[.int .u8 2,.bool false,.int .i64 0,.int .i64 0,.slice none 0 0])) K:=by
   intro w8 K S hK
   exact S.stB (b:=b4) λw9 S=>hK w9 S
  cases hz:xp o.pl with
  |false=>
   (intro K9 hK9;refine gD_ ?_;refine hK9 _ _ λ_=>?_;clear hK9 K9)
   (intro K9 hK9;refine gD_ ?_;refine hK9 _ _ λ_=>?_;clear hK9 K9)
   refine⟨?_,?_⟩
   ·(intro K9 hK9;refine gD_ ?_;refine hK9 _ _ λ_=>?_;clear hK9 K9)
    (intro K9 hK9;refine gD_ ?_;refine hK9 _ _ λ_=>?_;clear hK9 K9)
    refine gD_ ?_
    refine st S λw9 S=>?_
    refine gG_ ?_
    exact fin S _ (by rw[hz]<;>rfl)
   ·refine st S λw9 S=>?_
    (intro K9 hK9;refine gD_ ?_;refine hK9 _ _ λ_=>?_;clear hK9 K9)
    (intro K9 hK9;refine gD_ ?_;refine hK9 _ _ λ_=>?_;clear hK9 K9)
    refine gD_ ?_
    exact fin S _ (by rw[hz]<;>rfl)
  |true=>
   by_cases hn0:o.n=0
   ·refine zn (λs w'=>s=[.bool true]∧w'=w44) (λK9 hK9=>?_) ?_
    ·refine gD_ ?_
     rw[gde hn0]
     exact hK9 _ _ ⟨rfl,rfl⟩
    rintro _ w44 ⟨rfl,rfl⟩ d1
    (intro K9 hK9;refine gD_ ?_;refine hK9 _ _ λ_=>?_;clear hK9 K9)
    refine⟨?_,?_⟩
    ·(intro K9 hK9;refine gD_ ?_;refine hK9 _ _ λ_=>?_;clear hK9 K9)
     (intro K9 hK9;refine gD_ ?_;refine hK9 _ _ λ_=>?_;clear hK9 K9)
     refine gD_ ?_
     refine st S λw9 S=>?_
     refine gG_ ?_
     exact fin S _ (by rw[hz,hn0]<;>rfl)
    ·refine st S λw9 S=>?_
     (intro K9 hK9;refine gD_ ?_;refine hK9 _ _ λ_=>?_;clear hK9 K9)
     (intro K9 hK9;refine gD_ ?_;refine hK9 _ _ λ_=>?_;clear hK9 K9)
     refine gD_ ?_
     exact fin S _ (by rw[hz,hn0]<;>rfl)
   ·refine zn (λs w'=>s=[.bool false]∧w'=w44) (λK9 hK9=>?_) ?_
    ·refine gD_ ?_
     rw[decide_eq_false hn0]
     exact hK9 _ _ ⟨rfl,rfl⟩
    rintro _ w44 ⟨rfl,rfl⟩ d1
    (intro K9 hK9;refine gD_ ?_;refine hK9 _ _ λ_=>?_;clear hK9 K9)
    refine⟨?_,?_⟩
    ·refine zn (λs w'=>s=[.bool (decide (o.n=1))]∧w'=w44) (λK9 hK9=>?_) ?_
     ·refine gD_ ?_
      refine amh ?_
      refine gD_ ?_
      exact hK9 _ _ ⟨rfl,rfl⟩
     rintro _ w44 ⟨rfl,rfl⟩ d1
     (intro K9 hK9;refine gD_ ?_;refine hK9 _ _ λ_=>?_;clear hK9 K9)
     refine gD_ ?_
     refine st S λw9 S=>?_
     refine gG_ ?_
     exact fin S _ (by rw[hz,decide_eq_false hn0];first|rfl|simp)
    ·refine st S λw9 S=>?_
     refine zn (λs w'=>s=[.bool (decide (o.n=1))]∧w'=w9) (λK9 hK9=>?_) ?_
     ·refine gD_ ?_
      refine amh ?_
      refine gD_ ?_
      exact hK9 _ _ ⟨rfl,rfl⟩
     rintro _ w44 ⟨rfl,rfl⟩ d1
     (intro K9 hK9;refine gD_ ?_;refine hK9 _ _ λ_=>?_;clear hK9 K9)
     refine gD_ ?_
     exact fin S _ (by rw[hz,decide_eq_false hn0];first|rfl|simp)
 rw[if_neg h2]at hop
 obtain⟨sty,sm,sok,hsp⟩:∃sty sm sok,zm u.ss g.tys o.pl=(sty,sm,sok):=⟨_,_,_,rfl⟩
 simp only[hsp]at hop
 refine gG_ ?_
 refine S.ldN (b:=b3) ?_
 refine xH S.holds hx hf hpl hsp λq cap w5 e5 ht=>?_
 have S:=S.go e5
 refine S.al λb6 w6 S=>?_
 refine S.stB (b:=b6) λw7 S=>?_
 refine gG_ ?_
 refine zi (c:=decide (o.n=0)) (λ_ K2 hK2=>?_) ?_
 ·refine gG_ ?_
  exact hK2
 refine gG_ ?_
 refine zf (λh3=>?_) (λh3=>?_)
 ·rw[if_pos h3]at hop;cases hop
  have S:=S.go (Ext.drew _)
  refine gP_ ?_
  refine S.ldN (b:=b6) ?_
  refine zt (c:=kz t) (λ_ K2 hK2=>?_) λw9 e9=>?_
  ·refine gP_ ?_
   refine S.ldN (b:=b6) ?_
   exact Je S.holds ht λw9 e9=>⟨e9,hK2 _ e9⟩
  have S:=S.go e9
  refine S.stB (b:=b4) λw10 S=>?_
  refine gG_ ?_
  exact h _ _ _ S.ext ht
 rw[if_neg h3]at hop
 refine gG_ ?_
 refine zf (λh4=>?_) (λh4=>?_)
 ·rw[if_pos h4]at hop;cases hop
  have S:=S.go (Ext.drew _)
  refine gP_ ?_
  refine S.ldN (b:=b6) ?_
  refine zt (c:=!kz t) (λ_ K2 hK2=>?_) λw9 e9=>?_
  ·refine gP_ ?_
   refine S.ldN (b:=b6) ?_
   refine Je S.holds ht λw9 e9=>⟨e9,?_⟩
   refine gP_ ?_
   exact hK2 _ e9
  have S:=S.go e9
  cases hb:((sok&&decide (o.n=0)) && !kz t)with
  |false=>
   (intro K9 hK9;refine gD_ ?_;refine hK9 _ _ λ_=>?_;clear hK9 K9)
   refine⟨?_,?_⟩
   ·(intro K9 hK9;refine gD_ ?_;refine hK9 _ _ λ_=>?_;clear hK9 K9)
    refine gD_ ?_
    refine S.stB (b:=b4) λw10 S=>?_
    refine gG_ ?_
    have:=h _ _ _ S.ext ht
    rwa[hb]at this
   ·refine S.stB (b:=b4) λw10 S=>?_
    (intro K9 hK9;refine gD_ ?_;refine hK9 _ _ λ_=>?_;clear hK9 K9)
    refine gD_ ?_
    have:=h _ _ _ S.ext ht
    rwa[hb]at this
  |true=>
   (intro K9 hK9;refine gD_ ?_;refine hK9 _ _ λ_=>?_;clear hK9 K9)
   refine⟨?_,?_⟩
   ·refine zn (λs w'=>s=[.bool (decide (sm<2))]∧w'=w9) (λK9 hK9=>?_) ?_
    ·refine gD_ ?_
     refine Qz ?_
     refine gD_ ?_
     exact hK9 _ _ ⟨rfl,rfl⟩
    rintro _ _ ⟨rfl,rfl⟩ d1
    refine gD_ ?_
    refine S.stB (b:=b4) λw10 S=>?_
    refine gG_ ?_
    have:=h _ _ _ S.ext ht
    rwa[hb]at this
   ·refine S.stB (b:=b4) λw10 S=>?_
    refine zn (λs w'=>s=[.bool (decide (sm<2))]∧w'=w10) (λK9 hK9=>?_) ?_
    ·refine gD_ ?_
     refine Qz ?_
     refine gD_ ?_
     exact hK9 _ _ ⟨rfl,rfl⟩
    rintro _ _ ⟨rfl,rfl⟩ d1
    refine gD_ ?_
    have:=h _ _ _ S.ext ht
    rwa[hb]at this
 rw[if_neg h4]at hop;cases hop
 refine gG_ ?_
 refine S.stB (b:=b4) λw10 S=>?_
 refine gG_ ?_
 exact h none 0 _ S.ext XL
theorem ade{x:Bool}{p:Option Addr}{l:List Bool}{cap:Nat}(hl:Sl w p (l.map Value.bool))(hb:l.length≤1000000000)(h:K (.bool (l.contains x)) w):
  zd Tryz.prog Tryz.xE #[.slice p l.length cap,.bool x] w K:=by
 refine Tryz.ZW ?_
 unfold Tryz.qk
 refine Tryz.Xa ?_
 unfold Tryz.jr
 refine gP_ ?_
 refine zh (ι:=Nat) (λi=>[.int .i64 (i:Nat)]) (λi w'=>w'=w∧i≤l.length∧(l.take i).contains x=false) (λi=>l.length-i) 0 rfl ⟨rfl,gzl _,by simp⟩ ?_
 rintro i d w' ⟨rfl,hi,hn⟩ K6 hK6
 simp only[gdz]
 refine gP_ ?_
 refine zf (λhlt=>?_) (λhge=>?_)
 ·have hlt:i<l.length:=by omega
  obtain⟨b,off,rfl,hc⟩:=hl.at (i:=i) (by rw[List.length_map];exact hlt)
  refine gP_ ?_
  have hv:(l.map Value.bool)[i]'(by rw[List.length_map];exact hlt)=.bool l[i]:=by simp
  rw[hv]at hc
  refine zg (by simpa using hc) ?_
  refine gP_ ?_
  have ht:(l.take (i+1)).contains x=((l.take i).contains x||(x == l[i])):=by
   rw[List.take_succ_eq_append_getElem hlt];simp only[List.contains_eq_any_beq,List.any_append,List.any_cons,List.any_nil,Bool.or_false]
  refine c_b (λhy=>?_) (λhno=>?_)
  ·refine gP_ ?_
   rw[show decide ((i:Int)≥0)=true by simp]
   have :l.contains x=true:=List.contains_iff_mem.2 (by rw[eq_of_beq hy];exact gem hlt)
   rwa[this]at h
  ·refine gP_ ?_
   refine hK6 (i+1) _ ⟨rfl,hlt,?_⟩ (by omega)
   rw[ht,hn,hno];rfl
 ·have :i=l.length:=by omega
  subst this
  rw[List.take_length]at hn
  refine gP_ ?_
  rwa[hn]at h
theorem Jh{o:OpD}(hr:Holds r w)(ho:OpG r c o)(h:∀w',Ext w w'→K (.bool (vi o)) w'):
  zF Tryz.prog (.func (.func Tryz.Q2) #[] #[]) #[.agg c.toArray] w K:=by
 obtain⟨vq,rfl,hl⟩:=ho
 obtain⟨qs,caps,rfl,_,_⟩:=hl.sl.shape
 have hpl:PlG r [.int .i64 o.pl.l,.slice qs o.pl.ps.length caps] o.pl:=⟨_,rfl,hl⟩
 refine aiC (by kernel_rfl) ?_
 refine Tryz.acU ?_
 unfold Tryz.Q5
 have S:=St.start hr
 refine S.box λb1 w1 S=>?_
 refine gG_ ?_
 refine zi (c:=decide (o.n=0)) (λ_ K2 hK2=>?_) ?_
 ·refine gG_ ?_
  exact hK2
 refine zt (c:=xp o.pl) (λ_ K2 hK2=>?_) λw3 e3=>h _ (S.go e3).ext
 refine gP_ ?_
 refine S.ldN (b:=b1) ?_
 exact jv S.holds hpl λw3 e3=>hK2 _ e3
abbrev ans(h:acd):Value:=.agg #[.bool h.to,.bool h.a,.bool h.b,.bool h.args,.bool h.sign,.bool h.fr,.bool h.mu,.bool h.fn,.bool h.st,.bool h.el]
theorem agC(l:List Bool):(!l.contains false)=l.all id:=by
 induction l with
 |nil=>rfl
 |cons x l ih=>
  rw[List.contains_cons,List.all_cons,← ih]
  cases x<;>simp
theorem ym{p:PtD}{f:acd}(hr:Holds r w)(hp:PtG r c p)(h:∀w',Ext w w'→K (.bool (zG p f)) w'):
  zd Tryz.prog Tryz.z8 #[.agg c.toArray,ans f] w K:=by
 obtain⟨vt,va,vb,vl,vf,rfl,h1,h2,h3,h4,h5⟩:=hp
 obtain⟨qt,capt,rfl,_,_⟩:=h1.sl.shape
 obtain⟨qa,capa,rfl,_,_⟩:=h2.sl.shape
 obtain⟨qb,capb,rfl,_,_⟩:=h3.sl.shape
 obtain⟨ql,capl,rfl,_,_⟩:=h4.sl.shape
 obtain⟨qf,capf,rfl,_,_⟩:=h5.sl.shape
 refine Tryz.afi ?_
 unfold Tryz.VQ
 have S:=St.start hr
 refine S.box λb2 w1 S=>?_
 refine S.box λb3 w2 S=>?_
 have S:=S.go (Ext.drew _)
 refine gG_ ?_
 refine x8 (c:=xp p.to) (λ_ K2 hK2=>?_) λw4 e4=>?_
 ·refine gP_ ?_
  refine S.ldN (b:=b2) ?_
  exact jv S.holds ⟨_,rfl,h1⟩ λw3 e3=>⟨e3,hK2 _ e3⟩
 have S:=S.go e4
 refine x8 (c:=vi p.a) (λ_ K2 hK2=>?_) λw5 e5=>?_
 ·refine gP_ ?_
  refine S.ldN (b:=b2) ?_
  exact Jh S.holds ⟨_,rfl,h2⟩ λw3 e3=>⟨e3,hK2 _ e3⟩
 have S:=S.go e5
 refine x8 (c:=vi p.b) (λ_ K2 hK2=>?_) λw5 e5=>?_
 ·refine gP_ ?_
  refine S.ldN (b:=b2) ?_
  exact Jh S.holds ⟨_,rfl,h3⟩ λw3 e3=>⟨e3,hK2 _ e3⟩
 have S:=S.go e5
 refine zj (c:=decide (p.args.length=0)) (λ_ K2 hK2=>?_) ?_
 ·refine gG_ ?_
  rw[QP]
  exact hK2
 refine zj (c:=p.sign.toList == []) (λ_ K2 hK2=>?_) ?_
 ·refine gG_ ?_
  exact hK2
 refine x8 (c:=xp p.fr) (λ_ K2 hK2=>?_) λw4 e4=>?_
 ·refine gP_ ?_
  refine S.ldN (b:=b2) ?_
  exact jv S.holds ⟨_,rfl,h5⟩ λw3 e3=>⟨e3,hK2 _ e3⟩
 have S:=S.go e4
 refine zj (c:=!p.mu) (λ_ K2 hK2=>?_) ?_
 ·refine gG_ ?_
  exact hK2
 refine zj (c:=decide (p.fn=0)) (λ_ K2 hK2=>?_) ?_
 ·refine gG_ ?_
  exact hK2
 refine zj (c:=decide (p.st=0)) (λ_ K2 hK2=>?_) ?_
 ·refine gG_ ?_
  exact hK2
 refine zj (c:=decide (p.el=0)) (λ_ K2 hK2=>?_) ?_
 ·refine gG_ ?_
  exact hK2
 refine S.lit (e:=4) (cs:=(qE p f).map Value.bool) (by kernel_rfl) λb80 w80 S=>?_
 refine ade (l:=qE p f) (x:=false) (Sl.blk (S.blk b80)) (by simp[qE]) ?_
 refine gP_ ?_
 rw[agC]
 exact h _ S.ext
end
end Go.Proofs
namespace Go.Sh
section
section
variable {w:World} {Z:Value→World→Prop} {b c:Bool}
theorem ZZ{g:Bool}{A:(List Value→World→Prop)→World→Prop}{G:(List Value→World→Prop)→Prop}(hG:b=false→∀K:List Value→World→Prop,K [.bool g] w→G K)(hA:g=true→∀K:List Value→World→Prop,K [.bool c] w→A K w)(hZ:Z (.bool (b||(g&&c))) w):
  za (λK1=>gIf (.bool b) false (G K1) (K1 [u_] w)) λs1 _ w1=>
   za (λK2=>gIf (s1.getD 0 u_) true (A K2 w1) (K2 [u_] w1)) λs2 _ w2=>
    za (λK3=>gIf (.bool b) false (zb (s1.getD 0 u_) (s2.getD 0 u_) (.bool false) λt=>K3 [t] w2) (K3 [u_] w2)) λs3 _ w3=>
     zb (.bool b) (.bool true) (s3.getD 0 u_) λt=>Z t w3:=by
 intro K1 hK1
 cases b with
 |true=>
  refine hK1 _ _ λ_=>?_
  intro K2 hK2
  refine hK2 _ _ λ_=>?_
  intro K3 hK3
  refine hK3 _ _ λ_=>⟨true,rfl,?_⟩
  rw[Bool.true_or]at hZ;exact hZ
 |false=>
  refine hG rfl _ (hK1 _ _ λ_=>?_)
  intro K2 hK2
  cases g with
  |true=>
   refine hA rfl _ (hK2 _ _ λ_=>?_)
   intro K3 hK3
   refine⟨true,rfl,hK3 _ _ λ_=>⟨false,rfl,?_⟩⟩
   rw[Bool.false_or,Bool.true_and]at hZ;exact hZ
  |false=>
   refine hK2 _ _ λ_=>?_
   intro K3 hK3
   refine⟨false,rfl,hK3 _ _ λ_=>⟨false,rfl,?_⟩⟩
   rw[Bool.false_or,Bool.false_and]at hZ;exact hZ
end
theorem ahA{P:Program}{K:Value→Prop}{t e:TypeId}{n:Nat}{p:Option Addr}{len cap:Nat}{kd kd':IntKind}{a b:Int}(h:slT P t=some (e,n))(h0:0≤a)(h1:a≤b)(h2:b≤cap)
  (k:K (.slice (if cap=a.toNat then p else p.map (·.add (a.toNat*n))) (b.toNat-a.toNat) (cap-a.toNat))):opP P (Instr.sliceAt t (.slice p len cap) (some (.int kd a)) (some (.int kd' b)) none) K:=by
 refine yS (λw=>?_) k
 unfold slT at h
 cases hu:P.underlying t with
 |none=>rw [hu]at h;cases h
 |some d=>
  rw[hu]at h
  cases d<;>first|cases h|skip
  rename_i e'
  simp only[Option.map_eq_some_iff,Prod.mk.injEq]at h
  obtain⟨m,hs,rfl,rfl⟩:=h
  have h3:0≤b:=by omega
  have h5:a≤max b 0:=by omega
  simp[Instr.sliceAt,Instr.slice,Instr.sliceBounds,Instr.sliceBound,asIntOf,Sem.run_bind,zA hu,Result.andThen,Sem.run,pure,h0,h2,h3,h5,z6 hs]
instance {P:Program} {t e:TypeId} {n:Nat} {p:Option Addr} {len cap:Nat} {i j:IntKind} {a b:Int} [h:SlT P t e n]:PCond P (Instr.sliceAt t (.slice p len cap) (some (.int i a)) (some (.int j b)) none) (.slice (if cap=a.toNat then p else p.map (·.add (a.toNat*n))) (b.toNat-a.toNat) (cap-a.toNat)) (0≤a∧a≤b∧b≤cap):=
 .of λx _ k=>ahA (e:=e) (n:=n) h.h x.1 x.2.1 x.2.2 k
theorem StX.holdW{X:Nat→Prop}{w0 w:World}{r:Gh}{L:List Asr}(S:StX X w0 r w L)(b:Nat){c:List Value}{T:TypeId}{f:List Value→List Asr}[h:At b L c T f]:Holds (r.or (Go.Sh.one b c T)) w:=S.holds.or (qe (S.blk b))
end
end Go.Sh
namespace Go.Proofs
open Go.Sh
section
section
variable {X:Nat→Prop} {w0 w:World} {r:Gh} {L:List Asr}
theorem aeV{x n:Int}{b:Nat}{f:List Value→List Asr}{K:Value→World→Prop}(S:StX X w0 r w L)[At b L [.int .i64 n] 3 f](h:K (.bool (decide (0≤x)&&decide (x<n))) w):
  zF Tryz.prog (.func (.func Tryz.vG) #[] #[.pointer (some ⟨b,0,none⟩)]) #[.int .i64 x] w K:=by
 refine ac3 (by kernel_rfl) ?_
 refine Tryz.QH ?_
 unfold Tryz.vK
 refine gP_ ?_
 refine zi (c:=decide (x<n)) (λ_ K2 hK2=>?_) h
 refine S.ld (b:=b) ?_ rfl
 refine gP_ ?_
 exact hK2
end
theorem yG{t:TyD}{q:Option Addr}{cap:Nat}{k:Int}{w:World}{r:Gh}{K:Value→World→Prop}(hr:Holds r w)(h:∀w',Ext w w'→K (.bool (isK t k)) w'):
  zF Tryz.prog (.func (.func Tryz.vH) #[] #[]) #[tyV t q cap,.int .u8 k] w K:=by
 refine af5 (by kernel_rfl) ?_
 refine Tryz.QK ?_
 unfold Tryz.vM
 have S:=St.start hr
 refine S.box λb1 w1 S=>?_
 refine gG_ ?_
 exact h _ S.ext
theorem ahB{u:UnD}{g:GrD}{o:OpD}{t:TyD}{b2:Nat}{c c2:List Value}{q:Option Addr}{cap:Nat}{w:World}{r:Gh}{K:Value→World→Prop}(hr:Holds r w)(hb2:Ob r λw=>Blk w b2 c2 180)(hx:AskG r (.agg c2.toArray) u g)
  (hc2:c2.length=10) (hf:yQ u.ss g.tys) (ho:OpG r c o) (hc:c.length=4) (ht:TyG r (tyV t q cap) t)
  (h:∀w',Ext w w'→K (.bool ((zr u.ss g.tys o).2&&zY yr (zr u.ss g.tys o).1 t)) w'):
  zF Tryz.prog (.func (.func Tryz.jN) #[] #[.pointer (some ⟨b2,0,none⟩)]) #[.agg c.toArray,tyV t q cap] w K:=by
 refine aiD (by kernel_rfl) ?_
 refine Tryz.XD ?_
 unfold Tryz.jO
 have S:=St.start hr
 refine S.box λb3 w1 S=>?_
 refine S.box λb4 w2 S=>?_
 refine zp (n:=10) (c:=c2) hc2 (λj v hj=>by rw[Nat.zero_add,(S.at hb2).cell];exact hj) ?_
 refine S.ldB (b:=b3) ?_ hc
 obtain⟨t1,ok,hop⟩:∃t1 ok,zr u.ss g.tys o=(t1,ok):=⟨_,_,rfl⟩
 rw[hop]at h
 refine k6 S.holds hx hf ho hop λq1 cap1 w3 e3 ht1=>?_
 have S:=S.go e3
 refine gP_ ?_
 refine gP_ ?_
 refine S.al λb6 w4 S=>?_
 refine S.stB (b:=b6) λw5 S=>?_
 refine zt (c:=zY yr t1 t) (λ_ K2 hK2=>?_) λw9 e9=>h _ (S.go e9).ext
 refine S.ldB (b:=b6) ?_ rfl
 refine S.ldB (b:=b4) ?_ rfl
 exact qM S.holds ht1 ht λw9 e9=>hK2 _ e9
theorem qG{ss:List StD}{tys:List TyD}{o:OpD}{l:List OpD}{t:TyD}{r:List TyD}:xg ss tys (o::l) (t::r)=(((zr ss tys o).2&&zY yr (zr ss tys o).1 t)&&xg ss tys l r):=rfl
theorem V4{ss:List StD}{tys:List TyD}:∀{l:List OpD}{r:List TyD},l.length≠r.length→xg ss tys l r=false
 |[],[],h=>absurd rfl h
 |[],_::_,_=>rfl
 |_::_,[],_=>rfl
 |o::l,t::r,h=>by rw[qG,V4 (by simpa using h),Bool.and_false]
theorem TysG.up{s t:Gh}{q:Option Addr}{ts:List TyD}(h:TysG s q ts)[l:Le s t]:TysG t q ts:=λi hi=>by
 obtain⟨b,off,c,h1,h2,h3,h4⟩:=h i hi
 exact⟨b,off,c,h1,h2,λj v hj=>(h3 j v hj).up,h4.up⟩
theorem Z0{r:Gh}{q:Option Addr}{n cap:Nat}{ts:List TyD}(h:SlG 5 r (TyC r) (.slice q n cap) ts):TysG r q ts:=λi hi=>by
 obtain⟨b,off,c,h1,h2,h3,h4⟩:=h.get (by decide) hi
 exact⟨b,off,c,h1,h2,h4,h3⟩
theorem akD{top:Gh}{gs:Nat→Gh}{q:Option Addr}{ts:List TyD}(h:amc top gs q ts):TysG (top.or (un gs 0 ts.length)) q ts:=λi hi=>by
 obtain⟨b,off,c,h1,h2,h3,h4,_⟩:=h.at' i hi
 exact⟨b,off,c,h1,h2,λj v hj=>(h3 j v hj).up,TyG.up h4 (l:=⟨λb o hb=>.inr ⟨i,gzl _,hi,hb⟩⟩)⟩
theorem TysG.sub{s:Gh}{q:Option Addr}{ts:List TyD}(h:TysG s q ts){a n cap:Nat}(hc:ts.length≤cap):TysG s (if cap=a then q else q.map (·.add (a*5))) ((ts.drop a).take n):=λi hi=>by
 rw[List.length_take,List.length_drop]at hi
 obtain⟨b,off,c,h1,h2,h3,h4⟩:=h (a+i) (by omega)
 refine⟨b,off+a*5,c,?_,h2,λj v hj=>?_,?_⟩
 ·rw[if_neg (by omega),h1,Option.map_some,xv]
 ·have:=h3 j v hj
  rwa[show off+(a+i)*5+j=off+a*5+i*5+j by omega]at this
 ·rw[List.getElem_take,List.getElem_drop];exact h4
theorem aeW{u:UnD}{g:GrD}{p:PtD}{l:List TyD}{b2 b3:Nat}{c2 c3:List Value}{ql:Option Addr}{capl:Nat}{w:World}{r:Gh}{K:Value→World→Prop}(hr:Holds r w)(hb2:Ob r λw=>Blk w b2 c2 180)(hb3:Ob r λw=>Blk w b3 c3 94)(hx:AskG r (.agg c2.toArray) u g)
  (hc2:c2.length=10) (hf:yQ u.ss g.tys) (hp:PtG r c3 p) (hl:TysG r ql l)
  (h:∀w',Ext w w'→K (.bool (xg u.ss g.tys p.args l)) w'):
  zF Tryz.prog (.func (.func Tryz.vI) #[] #[.pointer (some ⟨b3,0,none⟩),.pointer (some ⟨b2,0,none⟩)]) #[.slice ql l.length capl] w K:=by
 refine af4 (by kernel_rfl) ?_
 refine Tryz.QL ?_
 unfold Tryz.vN
 obtain⟨vt,va,vb,va',vf,rfl,h1,h2,h3,h4,h5⟩:=hp
 obtain⟨qa,capa,rfl,_,_⟩:=h4.sl.shape
 have S:=St.start hr
 have hlen:=h4.lt
 refine gP_ ?_
 refine zg (by rw[(S.at hb3).cell];rfl) ?_
 refine gP_ ?_
 refine Tryz.xe ?_
 unfold Tryz.ye
 refine gG_ ?_
 refine zf (λhne=>?_) (λheq=>?_)
 ·rw[V4 (by omega)]at h
  exact h _ S.ext
 have heq:p.args.length=l.length:=by omega
 refine gG_ ?_
 refine zh (ι:=Nat) (λi=>[.int .i64 (i:Nat)]) (λi w'=>i≤p.args.length∧xg u.ss g.tys (p.args.drop i) (l.drop i)=xg u.ss g.tys p.args l∧StX noX w r w' []) (λi=>p.args.length-i) 0 rfl ⟨gzl _,rfl,S⟩ ?_
 clear S
 rintro i d w1 ⟨hi,hd,S⟩ K6 hK6
 rw[gdz]
 refine gP_ ?_
 refine zf (λhlt=>?_) (λhge=>?_)
 ·have hlt:i<p.args.length:=by omega
  have hlt2:i<l.length:=by omega
  obtain⟨ba,oa,ca,rfl,hca,hao,hac⟩:=h4.sl.get (by decide) hlt
  obtain⟨bt,ot,ct,rfl,hct,htc,hto⟩:=hl i hlt2
  obtain⟨q2,cap2,rfl,ht2⟩:=yJ hto
  rw[List.drop_eq_getElem_cons hlt,List.drop_eq_getElem_cons hlt2,qG]at hd
  refine gP_ ?_
  refine zp (n:=4) hca (λj v hj=>by rw[tnc];exact S.at (hac j v hj)) ?_
  refine S.al λb8 w2 S=>?_
  obtain⟨vq,hca',hlq⟩:=id hao
  subst hca'
  obtain⟨qs,caps,rfl,_⟩:=hlq.sl.shape
  refine S.stB (b:=b8) λw3 S=>?_
  refine gP_ ?_
  refine zp (n:=5) hct (λj v hj=>by rw[tnc];exact S.at (htc j v hj)) ?_
  refine S.al λb9 w4 S=>?_
  refine S.stB (b:=b9) λw5 S=>?_
  refine S.ldB (b:=b8) ?_ rfl
  refine S.ldB (b:=b9) ?_ rfl
  refine ahB S.holds hb2 hx hc2 hf hao rfl ht2 λw6 e6=>?_
  have S:=S.go e6
  refine gP_ ?_
  refine c_b (λhno=>?_) (λhy=>?_)
  ·have hno:((zr u.ss g.tys p.args[i]).2&&zY yr (zr u.ss g.tys p.args[i]).1 l[i])=false:=by rw[← Bool.not_eq_true'];exact hno
   rw[hno,Bool.false_and]at hd
   rw[← hd]at h
   exact h _ S.ext
  ·have hy:((zr u.ss g.tys p.args[i]).2&&zY yr (zr u.ss g.tys p.args[i]).1 l[i])=true:=by rw[← Bool.not_eq_false'];exact hy
   rw[hy,Bool.true_and]at hd
   refine gP_ ?_
   rw[show ((i:Int)+1)=((i+1:Nat):Int)by omega]
   exact hK6 (i+1) _ ⟨hlt,hd,S.to r |>.less (λ_ _ h=>h) (List.nil_sublist _)⟩ (by omega)
 ·have hie:i=p.args.length:=by omega
  rw[hie,List.drop_length,heq,List.drop_length]at hd
  rw[← hd]at h
  exact h _ S.ext
end
end Go.Proofs
namespace Go.Proofs.Tryz
open Go.Sh
section
variable {t0 t1 t2:Value} {w:World} {K:VW}
def abA(t0 t1 t2:Value)(w:World)(K:VW):Prop:=
 pw w (Instr.box 59 t2) λt5 w1=>
 lo w1 59 t5 λt13=>ca Zf #[t0,t1,t13] w1 λt14 w2=>
 pe t14 0 λt15=>pe t14 1 λ_t16=>pe t14 2 λt17=>pw w2 (Instr.alloc 112 true (.tuple #[])) λt7 w3=>
 so w3 112 t7 t15 λw4=>K t17 w4
theorem agD(h:abA t0 t1 t2 w K):zd prog QB #[t0,t1,t2] w K:=
 okC false (.s (.r (rz 2 0 2)) (.s (.r (rz 12 0 655504)) (.s (.r (rz 2 0 0)) (.n)))) func46 rfl (by kernel_rfl) (by kernel_rfl) h
def V5(t0 t1 t2:Value)(w:World)(K:VW):Prop:=
 pw w (Instr.box 22 t0) λt3 w1=>
 pw w1 (Instr.box 59 t2) λt5 w2=>
 pw w2 (Instr.alloc 112 true (.tuple #[])) λt6 w3=>
 fl w3 t5 59 0 3 λt15=>bt .lss 3 t15 (i6 0) λt16=>za (λK4=>gIf t16 false (fl w3 t5 59 0 3 λt19=>pp (Builtin.len_ #[70] 3 #[t1]) λt21=>bf .geq 3 t19 t21 λt22=>K4 [t22] w3) (K4 [u_] w3)) (λs5 _d6 w7=>
 zb t16 tr_ (s5.getD 0 u_) λt23=>za (λK8=>gIf t23 false (fl w7 t5 59 1 57 λt26=>pp (Builtin.len_ #[57] 3 #[t26]) λt27=>bt .gtr 3 t27 (i6 8) λt28=>K8 [t28] w7) (K8 [u_] w7)) (λs9 _d10 w11=>
 zb t23 tr_ (s9.getD 0 u_) λt29=>zc t29 (lo w11 112 t6 λt30=>so w11 112 t6 t30 λw12=>pq w12 (zk 112 t6) λr13=>K (.tuple #[r13,(Value.slice Option.none 0 0),fa_]) w12) (lo w11 22 t3 λt32=>ca kE #[t32] w11 λt33 w14=>
 pe t33 0 λ_t34=>pe t33 1 λt35=>bt .neq 29 t35 (i6 0) λt37=>za (λK15=>gIf t37 false (pp (Instr.makeFunc (.func 103) #[] #[t3]) λt40=>ca yv #[t1,t40] w14 λt41 w19=>
 K15 [t41] w19) (K15 [u_] w14)) (λs16 _d17 w18=>
 zb t37 tr_ (s16.getD 0 u_) λt42=>zc t42 (lo w18 112 t6 λt43=>so w18 112 t6 t43 λw20=>pq w20 (zk 112 t6) λr21=>K (.tuple #[r21,(Value.slice Option.none 0 0),fa_]) w20) (fl w18 t5 59 0 3 λt46=>xl w18 70 t1 t46 112 λt48=>so w18 112 t6 t48 λw22=>fl w22 t5 59 1 57 λt50=>pp (Builtin.len_ #[57] 3 #[t50]) λt51=>zo [(Value.slice Option.none 0 0),(i6 0)] w22 (λs24 _d25 w26 K23=>
 bf .lss 3 (s24.getD 1 u_) t51 λt53=>zc t53 (za (λK27=>
 xl w26 57 t50 (s24.getD 1 u_) 76 λt55=>za (λK31=>
 bt .eql 76 t55 (i6 (-1)) λt58=>za (λK35=>gIf t58 true (fl w26 t6 112 0 110 λt61=>bt .eql 110 t61 (Value.int .u8 3) λt62=>K35 [t62] w26) (K35 [u_] w26)) (λs36 _d37 w38=>
 zb t58 (s36.getD 0 u_) fa_ λt63=>zc t63 (K31 [(s24.getD 0 u_),(i6 1)] w38) (bt .eql 76 t55 (i6 (-1)) λt66=>za (λK39=>gIf t66 true (fl w38 t6 112 0 110 λt69=>bt .eql 110 t69 (Value.int .u8 4) λt70=>K39 [t70] w38) (K39 [u_] w38)) (λs40 _d41 w42=>
 zb t66 (s40.getD 0 u_) fa_ λt71=>za (λK43=>gIf t71 true (fl w42 t6 112 1 4 λt74=>K43 [t74] w42) (K43 [u_] w42)) (λs44 _d45 w46=>
 zb t71 (s44.getD 0 u_) fa_ λt75=>zc t75 (K31 [(s24.getD 0 u_),(i6 2)] w46) (bt .eql 76 t55 (i6 (-1)) λt78=>za (λK47=>gIf t78 true (fl w46 t6 112 0 110 λt81=>bt .eql 110 t81 (Value.int .u8 4) λt82=>K47 [t82] w46) (K47 [u_] w46)) (λs48 _d49 w50=>
 zb t78 (s48.getD 0 u_) fa_ λt83=>zc t83 (K31 [(s24.getD 0 u_),(i6 3)] w50) (fl w50 t6 112 0 110 λt86=>bt .neq 110 t86 (Value.int .u8 5) λt87=>za (λK51=>gIf t87 false (bt .lss 76 t55 (i6 0) λt90=>K51 [t90] w50) (K51 [u_] w50)) (λs52 _d53 w54=>
 zb t87 tr_ (s52.getD 0 u_) λt91=>za (λK55=>gIf t91 false (lo w54 22 t3 λt94=>fl w54 t6 112 3 3 λt96=>px 22 t94 t96 λt97=>fl w54 t97 68 1 66 λt99=>pp (Builtin.len_ #[66] 3 #[t99]) λt100=>bf .geq 3 t55 t100 λt101=>K55 [t101] w54) (K55 [u_] w54)) (λs56 _d57 w58=>
 zb t91 tr_ (s56.getD 0 u_) λt102=>zc t102 (pp (Instr.build 112 #[]) λt103=>so w58 112 t6 t103 λw59=>pq w59 (zk 112 t6) λr60=>K (.tuple #[r60,(Value.slice Option.none 0 0),fa_]) w59) (K31 [(s24.getD 0 u_),(i6 0)] w58))))))))))) (λs32 _d33 w34=>
 pw w34 (Instr.buildSlice 26 1 #[(0,(s32.getD 1 u_))]) λt106 w61=>
 pw w61 (Builtin.append_ #[26,26] 26 #[(s32.getD 0 u_),t106]) λt107 w62=>
 bt .eql 3 (s32.getD 1 u_) (i6 0) λt109=>zc t109 (lo w62 22 t3 λt110=>fl w62 t6 112 3 3 λt112=>px 22 t110 t112 λt113=>fl w62 t113 68 1 66 λt115=>px 66 t115 t55 λt117=>fl w62 t117 161 1 112 λt119=>so w62 112 t6 t119 λw63=>K27 [t107] w63) (fl w62 t6 112 4 70 λt121=>xl w62 70 t121 (i6 0) 112 λt123=>so w62 112 t6 t123 λw64=>K27 [t107] w64))) (λs28 _d29 w30=>
 bt .add 3 (s24.getD 1 u_) (i6 1) λt124=>K23 [(s28.getD 0 u_),t124] w30)) (lo w26 112 t6 λt125=>so w26 112 t6 t125 λw65=>pq w65 (zk 112 t6) λr66=>K (.tuple #[r66,(s24.getD 0 u_),tr_]) w65)))))))
theorem aft(h:V5 t0 t1 t2 w K):zd prog Zf #[t0,t1,t2] w K:=
 okC false (.s (.r (rz 5 0 42)) (.s (.s (.r (ra 4 0 4 (.grp 17 false (ri 5 4 4) [22] (ra 2 9 0 (.grp 24 false (ri 4 11 4) [28] (rz 1 15 0)))))) (.c (.s (.r (rz 4 0 9)) (.n)) (.n))) (.s (.s (.r (rz 7 0 9)) (.s (.r (ra 3 0 0 (.grp 38 false (ri 3 3 32) [41] (rz 1 6 0)))) (.c (.s (.r (rz 4 0 9)) (.n)) (.n)))) (.s (.r (rz 6 0 2320)) (.s (.s (.r (rz 4 0 4)) (.b (.lp [7,52] (.s (.r (rz 1 0 0)) (.s (.c (.n) (.n)) (.j [7] (.b (.s (.r (rz 3 0 4)) (.s (.r (rz 1 0 0)) (.j [7,13] (.b (.s (.r (ra 3 0 0 (.grp 59 true (ri 3 3 4) [62] (rz 2 6 0)))) (.c (.r (rz 1 0 0)) (.s (.r (ra 3 0 0 (.grp 67 true (ri 3 3 4) [70] (ra 2 6 0 (.grp 72 true (ri 2 8 4) [74] (rz 2 10 0)))))) (.c (.r (rz 1 0 0)) (.s (.r (ra 3 0 0 (.grp 79 true (ri 3 3 4) [82] (rz 2 6 0)))) (.c (.r (rz 1 0 0)) (.s (.r (ra 4 0 4 (.grp 88 false (ri 2 4 0) [90] (ra 2 6 0 (.grp 92 false (ri 9 8 4164) [101] (rz 2 17 0)))))) (.c (.s (.r (rz 4 0 8)) (.n)) (.n)))))))))) (.s (.r (rz 5 0 160)) (.s (.r (rz 2 0 0)) (.c (.r (rz 11 0 2360337)) (.r (rz 5 0 580))))))))) (.r (rz 2 0 0)))))))) (.s (.r (rz 5 0 33)) (.n))))))) func79 rfl (by kernel_rfl) (by kernel_rfl) h
def Ji(t0 t1:Value)(w:World)(K:VW):Prop:=
 pw w (Instr.box 112 t0) λt2 w1=>
 lo w1 22 t1 λt4=>lo w1 112 t2 λt5=>ca qU #[t4,t5] w1 λt6 w2=>
 pp (Op.unary .not t6) λt7=>K t7 w2
theorem adf(h:Ji t0 t1 w K):zd prog ad1 #[t0,t1] w K:=
 okC false (.s (.r (rz 2 0 2)) (.s (.r (rz 5 0 37)) (.n))) func103 rfl (by kernel_rfl) (by kernel_rfl) h
def Jj(t0 t1:Value)(w:World)(K:VW):Prop:=
 pw w (Instr.box 59 t0) λt2 w1=>
 pw w1 (Instr.box 59 t1) λt3 w2=>
 fl w2.drew t2 59 0 3 λt6=>fl w2.drew t3 59 0 3 λt8=>bf .eql 3 t6 t8 λt9=>za (λK3=>gIf t9 true (fl w2.drew t2 59 1 57 λt12=>pp (Builtin.len_ #[57] 3 #[t12]) λt13=>fl w2.drew t3 59 1 57 λt15=>pp (Builtin.len_ #[57] 3 #[t15]) λt16=>bf .leq 3 t13 t16 λt17=>K3 [t17] w2.drew) (K3 [u_] w2.drew)) (λs4 _d5 w6=>
 zb t9 (s4.getD 0 u_) fa_ λt18=>za (λK7=>gIf t18 true (fl w6 t2 59 1 57 λt21=>fl w6 t3 59 1 57 λt23=>fl w6 t2 59 1 57 λt25=>pp (Builtin.len_ #[57] 3 #[t25]) λt26=>fl w6 t2 59 1 57 λt28=>pp (Builtin.len_ #[57] 3 #[t28]) λt29=>pp (Instr.sliceAt 57 t23 none (some t26) (some t29)) λt30=>ca yZ #[t21,t30] w6 λt31 w11=>
 K7 [t31] w11) (K7 [u_] w6)) (λs8 _d9 w10=>
 zb t18 (s8.getD 0 u_) fa_ λt32=>K t32 w10))
theorem adg(h:Jj t0 t1 w K):zd prog xX #[t0,t1] w K:=
 okC false (.s (.r (rz 3 0 10)) (.s (.r (ra 6 0 68 (.grp 10 true (ri 7 6 260) [17] (ra 2 13 0 (.grp 19 true (ri 12 15 8455236) [31] (rz 2 27 0)))))) (.n))) func23 rfl (by kernel_rfl) (by kernel_rfl) h
def V6(t0 t1 t2:Value)(w:World)(K:VW):Prop:=
 pw w (Instr.box 59 t2) λt5 w1=>
 pw w1 (Instr.alloc 59 true (.tuple #[])) λt6 w2=>
 lo w2 59 t5 λt15=>ca Zf #[t0,t1,t15] w2 λt16 w3=>
 pe t16 0 λt17=>pe t16 1 λt18=>pe t16 2 λt19=>pw w3 (Instr.alloc 112 true (.tuple #[])) λt8 w4=>
 so w4 112 t8 t17 λw5=>pp (Op.unary .not t19) λt21=>zc t21 (pp (Instr.build 59 #[]) λt22=>so w5 59 t6 t22 λw6=>pq w6 (zk 59 t6) λr7=>K (.tuple #[r7,(i6 2)]) w6) (ca yu #[t18,(Value.func (.func 106) #[] #[])] w5 λt24 w8=>
 za (λK9=>
 bt .lss 3 t24 (i6 0) λt26=>zc t26 (pp (Builtin.len_ #[26] 3 #[t18]) λt28=>K9 [t28] w8) (K9 [t24] w8)) (λs10 _d11 w12=>
 lo w12 59 t5 λt29=>ca Yc #[t29,(s10.getD 0 u_)] w12 λt31 w13=>
 so w13 59 t6 t31 λw14=>pq w14 (zk 59 t6) λr15=>K (.tuple #[r15,(i6 0)]) w14))
theorem afu(h:V6 t0 t1 t2 w K):zd prog Zg #[t0,t1,t2] w K:=
 okC false (.s (.r (rz 3 0 10)) (.s (.r (rz 12 0 655504)) (.s (.s (.r (rz 2 0 0)) (.c (.s (.r (rz 3 0 8)) (.n)) (.n))) (.s (.r (rz 3 0 8)) (.j [11] (.s (.r (rz 2 0 0)) (.c (.r (rz 3 0 0)) (.n))) (.s (.r (rz 5 0 161)) (.n))))))) func80 rfl (by kernel_rfl) (by kernel_rfl) h
def XM(t0:Value)(w:World)(K:VW):Prop:=
 pw w (Instr.box 59 t0) λt1 w1=>
 fl w1 t1 59 1 57 λt6=>pp (Builtin.len_ #[57] 3 #[t6]) λt7=>bt .add 3 t7 (i6 1) λt8=>zo [(Value.slice Option.none 0 0),(i6 0)] w1 (λs3 _d4 w5 K2=>
 bf .lss 3 (s3.getD 1 u_) t8 λt10=>zc t10 (lo w5 59 t1 λt13=>ca Yc #[t13,(s3.getD 1 u_)] w5 λt15 w6=>
 pw w6 (Instr.buildSlice 37 1 #[(0,t15)]) λt16 w7=>
 pw w7 (Builtin.append_ #[37,37] 37 #[(s3.getD 0 u_),t16]) λt17 w8=>
 bt .add 3 (s3.getD 1 u_) (i6 1) λt18=>K2 [t17,t18] w8) (K (s3.getD 0 u_) w5))
theorem abb(h:XM t0 w K):zd prog kg #[t0] w K:=
 okC false (.s (.r (rz 2 0 2)) (.s (.r (rz 1 0 0)) (.s (.s (.r (rz 5 0 4)) (.b (.lp [3,9] (.s (.r (rz 1 0 0)) (.s (.c (.n) (.n)) (.s (.b (.s (.r (rz 2 0 0)) (.r (rz 7 0 2692)))) (.r (rz 2 0 0)))))))) (.s (.r (rz 2 0 0)) (.n))))) func72 rfl (by kernel_rfl) (by kernel_rfl) h
def abB(t0 t1:Value)(w:World)(K:VW):Prop:=
 pw w (Instr.box 59 t0) λt2 w1=>
 pw w1 (Instr.alloc 59 true (.tuple #[])) λt4 w2=>
 fl w2.drew t2 59 0 3 λt6=>fl w2.drew t2 59 1 57 λt8=>pp (Instr.sliceAt 57 t8 none (some t1) (some t1)) λt11=>ca yY #[t11] w2.drew λt12 w3=>
 Ext w2.drew w3∧
 pp (Instr.build 59 #[(0,t6),(1,t12)]) λt13=>so w3 59 t4 t13 λw4=>pq w4 (zk 59 t4) λr5=>K r5 w4
theorem agE(h:abB t0 t1 w K):zd prog Yc #[t0,t1] w K:=
 okC false (.s (.r (rz 2 0 10)) (.s (.r (rz 10 0 573508)) (.n))) func97 rfl (by kernel_rfl) (by kernel_rfl) h
end
end Go.Proofs.Tryz
namespace Go.Proofs
open Go.Sh
section
variable {i n:Nat} {l:List Int} {x y:Int} {p:Option Addr} {K:Value→World→Prop}
theorem ace{f:Int→Bool}{fv:Value}{w:World}(hf:∀(x:Int)(K:Value→World→Prop),K (.bool (f x)) w→zF Tryz.prog fv #[.int .i64 x] w K){p:Option Addr}{l:List Int}{cap:Nat}
  (hl:Sl w p (ints l)) (hb:l.length≤1000000000) (h:∀i:Int,(0≤i↔l.any f=true)→K (.int .i64 i) w):zd Tryz.prog Tryz.yu #[.slice p l.length cap,fv] w K:=by
 refine Tryz.qj ?_
 unfold Tryz.xP
 refine gP_ ?_
 refine zh (ι:=Nat) (λi=>[.int .i64 i]) (λi w'=>w'=w∧i≤l.length∧(l.take i).any f=false) (λi=>l.length-i) 0 rfl ⟨rfl,gzl _,by simp⟩ ?_
 rintro i d w' ⟨rfl,hi,hn⟩ K6 hK6
 simp only[gdz]
 refine gP_ ?_
 refine zf (λhlt=>?_) (λhge=>?_)
 ·have hlt:i<l.length:=by omega
  obtain⟨b,off,rfl,hc⟩:=hl.at (i:=i) (by rw[kN];exact hlt)
  refine gP_ ?_
  have hv:(ints l)[i]'(by rw[kN];exact hlt)=.int .i64 l[i]:=by simp[ints]
  rw[hv]at hc
  refine zg (by simpa using hc) ?_
  refine hf _ _ ?_
  have ht:(l.take (i+1)).any f=((l.take i).any f||f l[i]):=by
   rw[List.take_succ_eq_append_getElem hlt,List.any_append];simp only[List.any_cons,List.any_nil,Bool.or_false]
  refine c_b (λhy=>?_) (λhno=>?_)
  ·refine h _ ⟨λ_=>?_,λ_=>Int.natCast_nonneg _⟩
   exact List.any_eq_true.2 ⟨l[i],gem hlt,hy⟩
  ·refine gP_ ?_
   refine hK6 (i+1) _ ⟨rfl,hlt,?_⟩ (by omega)
   rw[ht,hn,hno];rfl
 ·have :i=l.length:=by omega
  subst this
  rw[List.take_length]at hn
  exact h _ ⟨λh=>by omega,λh=>by rw[hn]at h;cases h⟩
theorem VC{f:Int→Bool}{fv:Value}{w:World}(hf:∀(x:Int)(K:Value→World→Prop),K (.bool (f x)) w→zF Tryz.prog fv #[.int .i64 x] w K){p:Option Addr}{l:List Int}{cap:Nat}
  (hl:Sl w p (ints l)) (hb:l.length≤1000000000) (h:K (.bool (l.any f)) w):zd Tryz.prog Tryz.xo #[.slice p l.length cap,fv] w K:=by
 refine Tryz.Zq ?_
 unfold Tryz.kO
 refine ace hf hl hb λi hi=>?_
 refine gP_ ?_
 have e:decide (i≥0)=l.any f:=by
  by_cases hh:l.any f=true
  ·rw[hh];exact gde (hi.2 hh)
  ·rw[Bool.eq_false_iff.2 hh];exact decide_eq_false λh=>hh (hi.1 h)
 rw[e];exact h
abbrev af6:Value:=.agg #[.int .u8 0,.bool false,.int .i64 0,.int .i64 0,.slice none 0 0]
abbrev aaY:List Value:=[.int .u8 0,.bool false,.int .i64 0,.int .i64 0,.slice none 0 0]
theorem alx{s:Int}{t:TyD}(h:zE s (n+1) t=true)(h4:t.k=4): -1≤t.re:=by
 rw[xS,if_neg (by omega),if_neg (by omega),if_neg (by omega),if_pos h4]at h
 simp only[gba,gdt]at h
 exact h.1.1
theorem akE{s:Int}:∀(n:Nat){t:TyD},zE s n t=true→∀x∈t.regs,-1≤x:=by
 intro n
 induction n with
 |zero=>intro t h;cases h
 |succ n ih=>
  intro t h x hx
  rcases yz h with⟨ho,hk⟩|⟨u,ho,hu,hk⟩
  ·rw[ab9 ho,if_neg (by omega)]at hx;cases hx
  ·rw[aca ho,List.mem_append]at hx
   rcases hx with hx|hx
   ·split at hx
    ·rw[List.mem_singleton.1 hx];exact alx h (by assumption)
    ·cases hx
   ·exact ih hu x hx
def zR(f:Nat→Nat→Bool):List Value:=(List.range 64).map λk=>.bool (f (k/8) (k%8))
theorem vx{f:Nat→Nat→Bool}:(zR f).length=64:=by rw[zR,List.length_map,List.length_range]
theorem aee{f:Nat→Nat→Bool}{k:Nat}(h:k<64):(zR f)[k]? = some (.bool (f (k/8) (k%8))):=by
 rw[zR,List.getElem?_map,List.getElem?_range h];rfl
theorem akF{f:Nat→Nat→Bool}{x y:Nat}(hx:x<8)(hy:y<8):(zR f)[x*8+y]? = some (.bool (f x y)):=by
 rw[aee (by omega),show (x*8+y)/8=x by omega,show (x*8+y)%8=y by omega]
theorem yO{f g:Nat→Nat→Bool}(h:∀x y,x<8→y<8→f x y=g x y):zR f=zR g:=by
 refine List.map_congr_left λk hk=>?_
 have:=List.mem_range.1 hk
 rw[h _ _ (by omega) (by omega)]
theorem JO{f:Nat→Nat→Bool}{x y:Nat}(hx:x<8)(hy:y<8):(zR f).set (x*8+y) (.bool true)=zR λa b=>f a b||(decide (a=x)&&decide (b=y)):=by
 refine List.ext_getElem? λk=>?_
 by_cases hk:k<64
 ·rw[List.getElem?_set,aee hk,aee hk]
  by_cases e:x*8+y=k
  ·rw[if_pos e,if_pos (by rw[vx];omega)]
   subst e
   rw[show (x*8+y)/8=x by omega,show (x*8+y)%8=y by omega];simp
  ·rw[if_neg e]
   by_cases e1:k/8=x
   ·rw[decide_eq_false (show¬k%8=y by omega),Bool.and_false,Bool.or_false]
   ·rw[decide_eq_false e1,Bool.false_and,Bool.or_false]
 ·rw[List.getElem?_eq_none (by rw[List.length_set,vx];omega),List.getElem?_eq_none (by rw[vx];omega)]
theorem aeX{a:Int}:qF x y (a::l)=((decide (a=y)&&l.contains x)||qF x y l):=rfl
theorem agF(h:i<l.length):(l.take (i+1)).contains x=((l.take i).contains x||decide (x=l[i])):=by
 rw[List.take_succ_eq_append_getElem h,List.contains_eq_any_beq,List.any_append,← List.contains_eq_any_beq]
 simp only[List.any_cons,List.any_nil,Bool.or_false]
 congr 1
theorem aeY{l:List TyD}(h:i<l.length):vj (l.take (i+1)) x y=(vj (l.take i) x y||qF x y (regsT l[i])):=by
 rw[List.take_succ_eq_append_getElem h,vj,List.any_append,vj]
 simp only[List.any_cons,List.any_nil,Bool.or_false]
theorem aeZ{l:List (Int×Int)}(h:i<l.length):jG (l.take (i+1)) x y=(jG (l.take i) x y||(decide (x=l[i].1)&&decide (y=l[i].2))):=by
 rw[jG,List.take_succ_eq_append_getElem h,List.contains_eq_any_beq,List.any_append,← List.contains_eq_any_beq,← jG]
 simp only[List.any_cons,List.any_nil,Bool.or_false]
 congr 1
def ja(lv:Int):Option (Int×Int)→List (Int×Int)→Bool
 |_,[]=>true
 |w,o::l=>(kT lv o&&(match w with|none=>true|some w=>Zt w o))&&ja lv (some o) l
theorem ae0(lv:Int):∀(l:List (Int×Int))(w:Int×Int),ja lv (some w) l=(l.all (kT lv)&&adb (w::l))
 |[],w=>rfl
 |o::l,w=>by
  rw[ja,ae0 lv l o,List.all_cons,adb]
  cases kT lv o<;>cases Zt w o<;>cases l.all (kT lv)<;>simp
theorem ae1(lv:Int)(l:List (Int×Int)):ja lv none l=(l.all (kT lv)&&adb l):=by
 cases l with
 |nil=>rfl
 |cons o l=>
  rw[ja,ae0 lv l o,List.all_cons]
  cases kT lv o<;>cases l.all (kT lv)<;>simp
theorem aly{lv:Int}{w:Option (Int×Int)}{l:List (Int×Int)}(h:i<l.length):ja lv w (l.drop i)=((kT lv l[i]&&(match w with|none=>true|some w=>Zt w l[i]))&&ja lv (some l[i]) (l.drop (i+1))):=by
 rw[List.drop_eq_getElem_cons h];rfl
theorem ajB{o w:Int×Int}:(decide (o.1<w.1)||(decide (w.1=o.1)&&decide (o.2≤w.2))) = !Zt w o:=by
 unfold Zt
 rcases Int.lt_trichotomy o.1 w.1 with h|h|h
 ·rw[gde h,decide_eq_false (show¬w.1<o.1 by omega),decide_eq_false (show¬w.1=o.1 by omega)];rfl
 ·rw[decide_eq_false (show¬o.1<w.1 by omega),decide_eq_false (show¬w.1<o.1 by omega),gde (show w.1=o.1 by omega)]
  by_cases h2:o.2≤w.2
  ·rw[gde h2,decide_eq_false (show¬w.2<o.2 by omega)];rfl
  ·rw[decide_eq_false h2,gde (show w.2<o.2 by omega)];rfl
 ·rw[decide_eq_false (show¬o.1<w.1 by omega),gde (show w.1<o.1 by omega),decide_eq_false (show¬w.1=o.1 by omega)];rfl
theorem aiH(h:i<n):(List.range n).drop i=i::(List.range n).drop (i+1):=by
 rw[List.drop_eq_getElem_cons (by rwa[List.length_range]),List.getElem_range]
theorem vR{f:Nat→Bool}(h:i<n):((List.range n).drop i).all f=(f i&&((List.range n).drop (i+1)).all f):=by rw[aiH h,List.all_cons]
theorem vS{f:Nat→Bool}:((List.range n).drop n).all f=true:=by rw[List.drop_of_length_le (by rw[List.length_range];exact Nat.le_refl _)];rfl
theorem ae2{u:UnD}{g:GrD}{t:TyD}{l:List TyD}:jT u g i (t::l)=(tyG u g i t&&jT u g (i+1) l):=rfl
theorem ae3{u:UnD}{g:GrD}{j:Nat}{l:List TyD}(h:i<l.length):jT u g j (l.drop i)=(tyG u g j l[i]&&jT u g (j+1) (l.drop (i+1))):=by rw[List.drop_eq_getElem_cons h];rfl
theorem agG{u:UnD}{g:GrD}:∀{l:List TyD}{i:Nat},jT u g i l=true→∀t∈l,zP u.ss t=true
 |[],i,_,t,ht=>by cases ht
 |x::l,i,h,t,ht=>by
  rw[ae2,gba]at h
  rcases List.mem_cons.1 ht with rfl|ht
  ·have:=h.1
   rw[tyG,gba]at this
   exact this.1
  ·exact agG h.2 t ht
theorem acf{u:UnD}{g:GrD}:∀{l:List TyD}{i:Nat},jT u g i l=true→∀{j:Nat}(hj:j<l.length),((i+j:Nat):Int)≤g.pn→∀x∈regsT l[j],0≤x∧x<g.lv
 |[],i,_,j,hj,_=>absurd hj (Nat.not_lt_zero _)
 |y::l,i,h,j,hj,hle=>by
  rw[ae2,gba]at h
  cases j with
  |zero=>
   have:=h.1
   rw[tyG,gba,List.all_eq_true]at this
   intro x hx
   have:=this.2 x hx
   rw[if_pos (by omega)]at this
   simp only[Bool.not_eq_true',Bool.or_eq_false_iff,decide_eq_false_iff_not]at this
   omega
  |succ j=>exact acf h.2 (j:=j) (by simpa using hj) (by omega)
theorem JP{l:List PtD}(h:i<l.length):yF (l.take (i+1))=yF (l.take i)+(if l[i].op=4 then 1 else 0):=by
 rw[List.take_succ_eq_append_getElem h,yF,List.countP_append,yF]
 congr 1
 rw[List.countP_singleton]
 by_cases e:l[i].op=4<;>simp [e]
end
end Go.Proofs
