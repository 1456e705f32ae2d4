/-
  Contracts and plain laws that the last text leans on.
-/
import Derived.Test.YtaadilcboiiopaaGreatQBb
import Derived.Test.YtaadilcboiiopaaGreatQBa
import Derived.ChangeSame
import Derived.ChangeStays
import Derived.ReadAgain
import Derived.ProofKit
import Derived.OpenShut
import Derived.Deep.DeepHandedRow
import Derived.Lib.LaidTab
import Derived.Lib.SmallJoins
import Derived.ChangeArms
import Derived.DataReads
import Derived.MapKept
set_option maxRecDepth 100000
set_option maxHeartbeats 8000000
set_option linter.unusedVariables false
set_option linter.unusedSimpArgs false
namespace Go.Proofs
open Go.Sh
section
theorem vB{X:Nat→Prop}{w0:World}{r:Gh}{L:List Asr}{n:Nat}{q:Nat→Bool}{fv:Value}(hn:n≤1000)
  (hf:∀(i:Nat),i<n→∀{w:World}{K:Value→World→Prop},StX X w0 r w L→(∀w',StX X w0 r w' L→K (.bool (q i)) w')→zx Tryz.prog fv #[.int .i64 i] w K) {w:World} {K:Value→World→Prop} (S:StX X w0 r w L)
  (h:∀w',StX X w0 r w' L→K (.int .i64 (xO n q)) w'):zc Tryz.prog Tryz.vr #[.int .i64 n,fv] w K:=by
 refine Tryz.VF ?_
 unfold Tryz.Xh
 refine zj (ι:=Nat) (λi=>[.int .i64 i]) (λi w'=>i≤n∧(∀j,j<i→q j=false)∧StX X w0 r w' L) (λi=>n-i) 0 rfl ⟨gzl _,λj hj=>by omega,S⟩ ?_
 clear S
 rintro i d w1 ⟨hi,hq,S⟩ K6 hK6
 rw[gdz]
 refine gP_ ?_
 refine c_b (λhlt=>?_) (λhge=>?_)
 ·have hlt:i<n:=by simpa using hlt
  refine hf i hlt S λw2 S=>?_
  refine c_b (λhy=>?_) (λhno=>?_)
  ·have:=h _ S
   rwa[ad6 hlt hy hq]at this
  ·refine gP_ ?_
   rw[show ((i:Int)+1)=((i+1:Nat):Int)by omega]
   refine hK6 (i+1) _ ⟨hlt,λj hj=>?_,S⟩ (by omega)
   by_cases hji:j=i
   ·rw[hji];exact hno
   ·exact hq j (by omega)
 ·have hge:i=n:=by
   have :¬i<n:=by simpa using hge
   omega
  have:=h _ S
  rwa[ad5 (λj hj=>hq j (by omega))]at this
theorem vc{X:Nat→Prop}{w0:World}{r s:Gh}{L:List Asr}{p:Option Addr}{cap:Nat}{fs:List (ByteArray×TyD)}{g:TyD→Bool}{fv:Value}(hfl:FlG s p fs)[Le s r](hb:fs.length≤1000000000)
  (hf:∀f∈fs,∀{c:List Value}{w:World}{K:Value→World→Prop},c.length=5→TyG s (.agg c.toArray) f.2→StX X w0 r w L→(∀w',StX X w0 r w' L→K (.bool (g f.2)) w')→zx Tryz.prog fv #[.agg (.string f.1::c).toArray] w K)
  {w:World} {K:Value→World→Prop} (S:StX X w0 r w L) (h:∀w',StX X w0 r w' L→K (.bool ((fs.map (·.2)).any g)) w'):zc Tryz.prog Tryz.zF #[.slice p fs.length cap,fv] w K:=by
 refine Tryz.xN ?_
 unfold Tryz.yD
 refine Tryz.ki ?_
 unfold Tryz.yM
 refine gP_ ?_
 refine zj (ι:=Nat) (λi=>[.int .i64 i]) (λi w'=>i≤fs.length∧((fs.take i).map (·.2)).any g=false∧StX X w0 r w' L) (λi=>fs.length-i) 0 rfl ⟨gzl _,by simp,S⟩ ?_
 clear S
 rintro i d w1 ⟨hi,hq,S⟩ K6 hK6
 rw[gdz]
 refine gP_ ?_
 refine c_b (λhlt=>?_) (λhge=>?_)
 ·have hlt:i<fs.length:=by simpa using hlt
  obtain⟨b2,off2,c,rfl,hcl,hcc,hty⟩:=Qq hfl hlt
  refine gP_ ?_
  refine zu (n:=6) (c:=.string fs[i].1::c) (by simp[hcl]) (λj v hj=>by rw[tnc];exact S.at (hcc j v hj)) ?_
  refine hf fs[i] (gem hlt) hcl hty S λw2 S=>?_
  refine c_b (λhy=>?_) (λhno=>?_)
  ·refine gP_ ?_
   have:=h _ S
   have e:(fs.map (·.2)).any g=true:=List.any_eq_true.2 ⟨fs[i].2,List.mem_map.2 ⟨_,gem hlt,rfl⟩,hy⟩
   rw[e]at this
   rw[show decide ((i:Int)≥0)=true by simp]
   exact this
  ·refine gP_ ?_
   rw[show ((i:Int)+1)=((i+1:Nat):Int)by omega]
   refine hK6 (i+1) _ ⟨hlt,?_,S⟩ (by omega)
   rw[List.take_succ_eq_append_getElem hlt,List.map_append,List.any_append,hq]
   simp[hno]
 ·have hge:i=fs.length:=by
   have :¬i<fs.length:=by simpa using hge
   omega
  rw[hge,List.take_length]at hq
  refine gP_ ?_
  have:=h _ S
  rw[hq]at this
  exact this
theorem Yw{ss:List StD}(h:∀k,k<ss.length→jp ss k=false)(k:Int):(ze ss k).length≤8:=by
 by_cases hk:k.toNat<ss.length
 ·have:=h k.toNat hk
  have e:ze ss (k.toNat:Int)=ze ss k:=by rw[ze,ze,tnc]
  rw[jp,e,Bool.or_eq_false_iff,Bool.or_eq_false_iff]at this
  simp only[decide_eq_false_iff_not]at this
  omega
 ·rw[aak hk];simp
section
variable {X:Nat→Prop} {w0 w:World} {r:Gh} {L:List Asr} {ss:List StD} {p:Option Addr} {cap b1 b4:Nat} {f1 f4:List Value→List Asr} {K:Value→World→Prop}
theorem Qx{k:Nat}(hk:k<ss.length)(hs:StG r p ss)(S:StX X w0 r w L)[At b1 L [.slice p ss.length cap] 22 f1][At b4 L [.int .i64 (ss.length:Nat)] 3 f4](h:∀w',StX X w0 r w' L→K (.bool (jp ss k)) w'):
  zx Tryz.prog (.func (.func Tryz.xI) #[] #[.pointer (some ⟨b1,0,none⟩),.pointer (some ⟨b4,0,none⟩)]) #[.int .i64 k] w K:=by
 refine xy (by kernel_rfl) ?_
 refine Tryz.XM (t0:=.int .i64 k) (t1:=.pointer (some ⟨b1,0,none⟩)) (t2:=.pointer (some ⟨b4,0,none⟩)) ?_
 unfold Tryz.vK
 refine gL_ ?_
 obtain⟨b,off,q,capq,rfl,hcell,hq0,hqc,hf⟩:=jW hs hk
 refine gP_ ?_
 refine gP_ ?_
 refine zg (by rw[tnc];exact S.at hcell) ?_
 refine gP_ ?_
 refine gP_ ?_
 have hlen:=XP hk
 refine zq (c:=decide (8<(ze ss k).length)) (λ_ K2 hK2=>?_) ?_
 ·refine gP_ ?_
  refine gP_ ?_
  rw[show decide ((8:Int)<(ss[k].fs.length:Int))=decide (8<(ze ss k).length)from decide_eq_decide.2 (by omega)]
  exact hK2
 refine agE (λw'=>StX X w0 r w' L) (c:=(ze ss k).any λt=>!z6 ss.length 48 t||decide (0<t.regs.length)) (λ_=>S) (λhsm2 K2 hK2=>?_) λw9 S=>?_
 ·have hsm2:ss[k].fs.length≤8:=by
   simp only[Bool.or_eq_false_iff,decide_eq_false_iff_not]at hsm2;omega
  refine gP_ ?_
  refine vc (g:=λt=>!z6 ss.length 48 t||decide (0<t.regs.length)) hf (by omega) (λf hfm {c} {w7} {K} hcl hty S hK=>?_) S λw8 S=>?_
  ·refine JV (by kernel_rfl) ?_
   refine Tryz.YV ?_
   unfold Tryz.jy
   refine S.box λb2 w8 S=>?_
   have S:StX X w0 r w8 (.cell b2 (.string f.1::c) 161::L):=S
   refine gP_ ?_
   refine S.fty hcl ?_
   refine S.ld (b:=b4) ?_ rfl
   refine Zs 48 (by decide) S.holds hty λw9 e9=>?_
   have S:=S.go e9
   refine gP_ ?_
   refine je (c:=decide (0<f.2.regs.length)) (λhl K2 hK2=>?_) λw10 e10=>?_
   ·have hl:z6 ss.length 48 f.2=true:=by simpa using hl
    refine gP_ ?_
    refine S.fty hcl ?_
    refine ZT S.holds hty (by have:=Qp hl;omega) λv11 w11 e11 o11=>?_
    obtain⟨p11,cap11,rfl,_⟩:=XG o11
    refine gP_ ?_
    refine gP_ ?_
    rw[show decide ((f.2.regs.length:Int)>0)=decide (0<f.2.regs.length)from decide_eq_decide.2 (by omega)]
    exact hK2 _ e11
   exact hK _ (S.go e10).tl
  ·rw[← kO hk]
   exact hK2 _ S
 ·have:=h _ S
  rw[jp]at this
  rw[show decide ((ss[k].fs.length:Int)<1)=decide ((ze ss k).length<1)from decide_eq_decide.2 (by omega)]
  exact this
theorem Qy{k:Nat}(hk:k<ss.length)(h32:ss.length≤32)(h1:¬xO ss.length (jp ss)<ss.length)(hs:StG r p ss)(S:StX X w0 r w L)[At b1 L [.slice p ss.length cap] 22 f1](h:∀w',StX X w0 r w' L→K (.bool (vA ss k)) w'):
  zx Tryz.prog (.func (.func Tryz.xJ) #[] #[.pointer (some ⟨b1,0,none⟩)]) #[.int .i64 k] w K:=by
 refine xy (by kernel_rfl) ?_
 refine Tryz.XN (t0:=.int .i64 k) (t1:=.pointer (some ⟨b1,0,none⟩)) ?_
 unfold Tryz.vL
 refine gL_ ?_
 exact JW (VN (kU h1)) h32 hk (λk=>Yw (kU h1) k) S.holds hs λw9 e9=>h _ (S.go e9)
theorem Qz{k:Nat}(hk:k<ss.length)(h32:ss.length≤32)(h1:¬xO ss.length (jp ss)<ss.length)(h2:¬xO ss.length (vA ss)<ss.length)(hs:StG r p ss)(S:StX X w0 r w L)[At b1 L [.slice p ss.length cap] 22 f1](h:∀w',StX X w0 r w' L→K (.bool (Jk ss k)) w'):
  zx Tryz.prog (.func (.func Tryz.xK) #[] #[.pointer (some ⟨b1,0,none⟩)]) #[.int .i64 k] w K:=by
 refine xy (by kernel_rfl) ?_
 refine Tryz.XO (t0:=.int .i64 k) (t1:=.pointer (some ⟨b1,0,none⟩)) ?_
 unfold Tryz.vM
 refine gL_ ?_
 refine zw (cs:=#[.int .u8 5,.bool false,.int .i64 0,.int .i64 k,.slice none 0 0]) (by kernel_rfl) ?_
 have hg:=VN (kU h1)
 refine aaM hg (acI hg (kU h2)) 40 (t:=.mk 5 false 0 k []) (by decide) (by have:=afM ss (.mk 5 false 0 k []);omega) ?_ (by omega) (λk=>Yw (kU h1) k) S.holds hs (Yu (r:=r)) λw9 e9=>?_
 ·rw[vV]
  simp[TyD.k,TyD.m,TyD.re,TyD.of,TyD.st]
  omega
 ·refine gP_ ?_
  have:=h _ (S.go e9)
  rw[Jk]at this
  rw[show decide ((((min (wF ss 40 (.mk 5 false 0 k [])) 17:Nat):Int))>16)=decide (16<wF ss 40 (.mk 5 false 0 k []))from decide_eq_decide.2 (by omega)]
  exact this
end
theorem jr{ss:List StD}{p:Option Addr}{cap:Nat}{w:World}{r:Gh}{K:Value→World→Prop}(hr:Holds r w)(hs:StG r p ss)
  (h:∀w',Ext w w'→K (.tuple #[.int .i64 (zC ss).1,.int .i64 (zC ss).2]) w'):zc Tryz.prog Tryz.xz #[.slice p ss.length cap] w K:=by
 refine Tryz.Jf ?_
 unfold Tryz.ZP
 have S:=St.start hr
 refine S.box λb1 w1 S=>?_
 refine gL_ ?_
 refine gP_ ?_
 refine S.al λb4 w2 S=>?_
 refine S.st λw3 S=>?_
 refine gL_ ?_
 refine gP_ ?_
 refine c_b (λhbig=>?_) (λhsm=>?_)
 ·have hbig:32<ss.length:=by have:=of_decide_eq_true hbig;omega
  rw[zC,if_pos hbig]at h
  exact h _ S.ext
 have hsm:¬32<ss.length:=by have:=of_decide_eq_false hsm;omega
 rw[zC,if_neg hsm]at h
 refine gP_ ?_
 refine gP_ ?_
 refine gP_ ?_
 refine S.lit (e:=163) (cs:=[.func (.func Tryz.xI) #[] #[.pointer (some ⟨b1,0,none⟩),.pointer (some ⟨b4,0,none⟩)],.func (.func Tryz.xJ) #[] #[.pointer (some ⟨b1,0,none⟩)],.func (.func Tryz.xK) #[] #[.pointer (some ⟨b1,0,none⟩)]]) (by kernel_rfl) λb16 w4 S=>?_
 refine gP_ ?_
 have S:StX noX w r w4 [.cell b16 [.func (.func Tryz.xI) #[] #[.pointer (some ⟨b1,0,none⟩),.pointer (some ⟨b4,0,none⟩)],.func (.func Tryz.xJ) #[] #[.pointer (some ⟨b1,0,none⟩)],.func (.func Tryz.xK) #[] #[.pointer (some ⟨b1,0,none⟩)]] 163,
  .cell b4 [.int .i64 (ss.length:Nat)] 3,.cell b1 [.slice p ss.length cap] 22]:=S
 refine zj (ι:=Nat) (λi=>[.int .i64 i]) (λi w'=>i≤3∧(0<i→¬xO ss.length (jp ss)<ss.length)∧(1<i→¬xO ss.length (vA ss)<ss.length)∧(2<i→¬xO ss.length (Jk ss)<ss.length)∧StX noX w r w' _) (λi=>3-i) 0 rfl
  ⟨by decide,λh=>by omega,λh=>by omega,λh=>by omega,S⟩ ?_
 clear S
 rintro i d w5 ⟨hi,h1,h2,h3,S⟩ K6 hK6
 rw[gdz]
 refine gP_ ?_
 match i,hi,h1,h2,h3 with
 |0,_,_,_,_=>
  refine c_t (by decide) ?_
  refine gP_ ?_
  refine S.ld (b:=b16) ?_ rfl
  refine S.ld (b:=b4) ?_ rfl
  refine vB (q:=jp ss) (by omega) (λi hi {w} {K} S k=>Qx hi hs S k) S λw9 S=>?_
  refine S.ld (b:=b4) ?_ rfl
  refine gP_ ?_
  refine c_b (λhl=>?_) (λhl=>?_)
  ·rw[if_pos (by have:=of_decide_eq_true hl;omega)]at h
   exact h _ S.ext
  ·refine gP_ ?_
   exact hK6 1 _ ⟨by decide,λ_=>by have:=of_decide_eq_false hl;omega,λh=>by omega,λh=>by omega,S⟩ (by decide)
 |1,_,h1,_,_=>
  have h1:=h1 (by decide)
  rw[if_neg h1]at h
  refine c_t (by decide) ?_
  refine gP_ ?_
  refine S.ld (b:=b16) ?_ rfl
  refine S.ld (b:=b4) ?_ rfl
  refine vB (q:=vA ss) (by omega) (λi hi {w} {K} S k=>Qy hi (by omega) h1 hs S k) S λw9 S=>?_
  refine S.ld (b:=b4) ?_ rfl
  refine gP_ ?_
  refine c_b (λhl=>?_) (λhl=>?_)
  ·rw[if_pos (by have:=of_decide_eq_true hl;omega)]at h
   exact h _ S.ext
  ·refine gP_ ?_
   exact hK6 2 _ ⟨by decide,λ_=>h1,λ_=>by have:=of_decide_eq_false hl;omega,λh=>by omega,S⟩ (by decide)
 |2,_,h1,h2,_=>
  have h1:=h1 (by decide)
  have h2:=h2 (by decide)
  rw[if_neg h1,if_neg h2]at h
  refine c_t (by decide) ?_
  refine gP_ ?_
  refine S.ld (b:=b16) ?_ rfl
  refine S.ld (b:=b4) ?_ rfl
  refine vB (q:=Jk ss) (by omega) (λi hi {w} {K} S k=>Qz hi (by omega) h1 h2 hs S k) S λw9 S=>?_
  refine S.ld (b:=b4) ?_ rfl
  refine gP_ ?_
  refine c_b (λhl=>?_) (λhl=>?_)
  ·rw[if_pos (by have:=of_decide_eq_true hl;omega)]at h
   exact h _ S.ext
  ·refine gP_ ?_
   exact hK6 3 _ ⟨by decide,λ_=>h1,λ_=>h2,λ_=>by have:=of_decide_eq_false hl;omega,S⟩ (by decide)
 |3,_,h1,h2,h3=>
  have h1:=h1 (by decide)
  have h2:=h2 (by decide)
  have h3:=h3 (by decide)
  rw[if_neg h1,if_neg h2,if_neg h3]at h
  refine c_f (by decide) ?_
  exact h _ S.ext
noncomputable def yA(ss:List StD)(t:TyD):Bool:=decide ((zC ss).2=0)&&z6 ss.length 48 t
theorem JX{ss:List StD}{t:TyD}(h:yA ss t=true):(zC ss).2=0∧z6 ss.length 48 t=true:=by
 simpa [yA]using h
theorem jX{ss:List StD}{t:TyD}{p:Option Addr}{cap:Nat}{w:World}{r:Gh}{v:Value}{K:Value→World→Prop}(hr:Holds r w)(hs:StG r p ss)(hv:TyG r v t)
  (h:∀w',Ext w w'→K (.bool (yA ss t)) w'):zc Tryz.prog Tryz.kr #[.slice p ss.length cap,v] w K:=by
 refine Tryz.abq ?_
 unfold Tryz.QQ
 have hv0:=hv
 obtain⟨p1,cap1,rfl,_⟩:=hv
 have S:=St.start hr
 refine S.box λb3 w1 S=>?_
 refine jr S.holds hs λw2 e2=>?_
 have S:=S.go e2
 refine gP_ ?_
 refine gP_ ?_
 refine gP_ ?_
 refine zR (c:=z6 ss.length 48 t) (λ_ K2 hK2=>?_) λw3 e3=>h _ (S.go e3).ext
 refine gL_ ?_
 refine gP_ ?_
 exact Zs 48 (by decide) S.holds hv0 λw3 e3=>hK2 _ e3
theorem aaN{ss:List StD}{p:Option Addr}{cap:Nat}(hg:qg ss)(hac:∀k,¬Rch ss k k):∀(m:Nat){t:TyD}{w:World}{r:Gh}{v:Value}{K:Value→World→Prop},m≤100→rkT ss t≤m→z6 ss.length 48 t=true→ss.length≤32→(∀k,(ze ss k).length≤8)→
  Holds r w→StG r p ss→TyG r v t→(∀w',Ext w w'→K (.bool (dF ss m t)) w')→zc Tryz.prog Tryz.qD #[.slice p ss.length cap,v] w K:=by
 intro m
 induction m with
 |zero=>
  intro t w r v K _ hrk hl h32 h8 hr hs hv h
  have h5:¬t.k=5:=λh=>by unfold rkT at hrk;rw[if_pos h]at hrk;omega
  refine Tryz.Ys ?_
  unfold Tryz.vz
  obtain⟨p1,cap1,rfl,_⟩:=hv
  have S:=St.start hr
  refine S.box λb2 w1 S=>?_
  refine S.box λb3 w2 S=>?_
  refine gG_ ?_
  refine c_b (λh3=>?_) (λh3=>?_)
  ·have:=h _ S.ext
   rwa[dF,h3]at this
  ·refine gG_ ?_
   refine c_b (λh5'=>absurd (of_decide_eq_true h5') h5) (λ_=>?_)
   have:=h _ S.ext
   rwa[dF,h3]at this
 |succ m ih=>
  intro t w r v K hm hrk hl h32 h8 hr hs hv h
  refine Tryz.Ys ?_
  unfold Tryz.vz
  obtain⟨p1,cap1,rfl,_⟩:=hv
  have S:=St.start hr
  refine S.box λb2 w1 S=>?_
  refine S.box λb3 w2 S=>?_
  refine gG_ ?_
  refine c_b (λh3=>?_) (λh3=>?_)
  ·have:=h _ S.ext
   have h3':=of_decide_eq_true h3
   rwa[dF,if_neg (by omega),h3]at this
  refine gG_ ?_
  refine c_b (λh5=>?_) (λh5=>?_)
  ·have h5:t.k=5:=of_decide_eq_true h5
   obtain⟨hst0,hst1,_⟩:=Yv hl h5
   have hlt:t.st.toNat<ss.length:=by omega
   obtain⟨b,off,q,capq,rfl,hcell,_,_,hf⟩:=jW hs hlt
   refine gG_ ?_
   refine zg (S.at hcell) ?_
   have htl:ze ss t.st=ss[t.st.toNat].fs.map (·.2):=by
    rw[← kO hlt];simp only[ze,tnc]
   have hlen:(ze ss t.st).length=ss[t.st.toNat].fs.length:=by rw[htl,List.length_map]
   have h88:=h8 t.st
   refine gP_ ?_
   refine vc (g:=dF ss m) hf (by omega) (λf hfm {c} {w7} {K} hcl hty S hK=>?_) S λw8 S=>?_
   ·refine JV (by kernel_rfl) ?_
    refine Tryz.Ji ?_
    unfold Tryz.ZS
    refine S.box λb4 w8 S=>?_
    have S:StX noX w r w8 (.cell b4 (.string f.1::c) 161::_):=S
    refine S.ld (b:=b2) ?_ rfl
    refine gP_ ?_
    refine S.fty hcl ?_
    have hmem:f.2∈ze ss t.st:=by rw[htl];exact List.mem_map.2 ⟨f,hfm,rfl⟩
    have hrk2:=afN hg hac h5 hmem
    exact ih (by omega) (by omega) (hg _ _ hmem) h32 h8 S.holds hs hty λw5 e5=>hK _ (S.go e5).tl
   ·rw[dF,if_pos h5,htl]at h
    exact h _ S.ext
  ·have:=h _ S.ext
   rwa[dF,if_neg (of_decide_eq_false h5),h3]at this
noncomputable def Zu(ss:List StD)(t:TyD):Bool×Int:=if yA ss t then(dF ss 40 t,0)else(false,2)
theorem aaO{ss:List StD}{t:TyD}{p:Option Addr}{cap:Nat}{w:World}{r:Gh}{v:Value}{K:Value→World→Prop}(hr:Holds r w)(hs:StG r p ss)(hv:TyG r v t)
  (h:∀w',Ext w w'→K (.tuple #[.bool (Zu ss t).1,.int .i64 (Zu ss t).2]) w'):zc Tryz.prog Tryz.vu #[.slice p ss.length cap,v] w K:=by
 refine Tryz.VH ?_
 unfold Tryz.Xj
 have hv0:=hv
 obtain⟨p1,cap1,rfl,_⟩:=hv
 have S:=St.start hr
 refine S.box λb3 w1 S=>?_
 refine gL_ ?_
 refine jX S.holds hs hv0 λw2 e2=>?_
 have S:=S.go e2
 refine gP_ ?_
 refine c_b (λhn=>?_) (λhn=>?_)
 ·have hn:yA ss t=false:=by simpa using hn
  rw[Zu,hn]at h
  exact h _ S.ext
 have hn:yA ss t=true:=by simpa using hn
 rw[Zu,if_pos hn]at h
 obtain⟨hok,hl⟩:=JX hn
 obtain⟨h32,hb1,hg,hac,_,_⟩:=jq hok
 refine gL_ ?_
 refine aaN hg hac 40 (by decide) (by have:=afM ss t;omega) hl h32 (Yw hb1) S.holds hs hv0 λw3 e3=>h _ (S.go e3).ext
def un(gs:Nat→Gh)(i n:Nat):Gh:=λb o=>∃j,i≤j∧j<n∧gs j b o
structure agG(top:Gh)(gs:Nat→Gh)(q:Option Addr)(ts:List TyD):Prop where
 at':∀(i:Nat)(hi:i<ts.length),∃(b off:Nat)(c:List Value),q=some ⟨b,off,none⟩∧c.length=5∧(∀j v,c[j]? = some v→Ob top λw=>w.cell? ⟨b,off+i*5+j,none⟩=some v)∧TyG (gs i) (.agg c.toArray) ts[i]∧VL (gs i) (.agg c.toArray) ts[i]
 dis:∀i j,i≠j→i<ts.length→j<ts.length→Dis (gs i) (gs j)
 dtop:∀i,i<ts.length→Dis (gs i) top
def TysG(s:Gh)(q:Option Addr)(ts:List TyD):Prop:=
 ∀(i:Nat)(hi:i<ts.length),∃(b off:Nat)(c:List Value),q=some ⟨b,off,none⟩∧c.length=5∧(∀j v,c[j]? = some v→Ob s λw=>w.cell? ⟨b,off+i*5+j,none⟩=some v)∧TyG s (.agg c.toArray) ts[i]
theorem ChnL.frz2{X:Nat→Prop}{w0 w:World}{c:List Value}{t:TyD}{N:List Asr}(h:ChnL c t N):∀{r:Gh}{L:List Asr},StX X w0 r w (N++L)→
  ∃sn,StX X w0 (r.or sn) w L∧TyG sn (.agg c.toArray) t∧VL sn (.agg c.toArray) t∧(∀b o,sn b o→w0.heap.size≤b∨X b)∧Dis sn r:=by
 induction h with
 |nil=>
  intro r L S
  exact⟨nothing,S.to _,Yu,.nil,λ_ _ h=>h.elim,λ_ _ _ h=>h.elim⟩
 |@one b c k re st m u N hu ih=>
  intro r L S
  have S:StX X w0 r w (N++(.cell b c 112::L)):=S.perm List.perm_middle.symm
  have hm0:=S.mine (.cell b c 112) (by simp) b rfl
  obtain⟨sn,S,ht,hg,hf,hd⟩:=ih S
  have hm:=S.mine (.cell b c 112) (by simp) b rfl
  have S:=S.frz
  refine⟨sn.or (Go.Sh.one b c 112),S.to _,ad3 ht,.one (λo ho=>hm.2 o (.inr ho)) hu.len ht hg,λb' o ho=>?_,λb' o o' ho hr=>?_⟩
  ·rcases ho with ho|⟨rfl,_⟩
   ·exact hf b' o ho
   ·exact hm.1
  ·rcases ho with ho|⟨rfl,_⟩
   ·exact hd b' o o' ho hr
   ·exact hm0.2 o' hr
theorem af0{c:List Value}{t:TyD}{N:List Asr}(h:ChnL c t N):Ja Tryz.prog 70 1 #[(0,.agg c.toArray)]=some (112,c):=by
 cases h<;>kernel_rfl
noncomputable def xu(ss:List StD)(t:TyD):List TyD×Int:=if yA ss t&&decide (t.k=5)then(ze ss t.st,0)else([],2)
theorem VO{ss:List StD}{t:TyD}{p:Option Addr}{cap:Nat}{w:World}{r:Gh}{v:Value}{K:Value→World→Prop}(hr:Holds r w)(hs:StG r p ss)(hv:TyG r v t)
  (h:∀q cp top gs w',Ext w w'→New w (top.or (un gs 0 (xu ss t).1.length)) w'→agG top gs q (xu ss t).1→(xu ss t).1.length≤cp→K (.tuple #[.slice q (xu ss t).1.length cp,.int .i64 (xu ss t).2]) w'):zc Tryz.prog Tryz.jD #[.slice p ss.length cap,v] w K:=by
 refine Tryz.JT ?_
 unfold Tryz.Yq
 have hv0:=hv
 obtain⟨p1,cap1,rfl,_⟩:=hv
 have S:=St.start hr
 refine S.box λb3 w1 S=>?_
 refine gL_ ?_
 refine jX S.holds hs hv0 λw2 e2=>?_
 have S:=S.go e2
 refine gP_ ?_
 refine zq (c:=decide (t.k≠5)) (λ_ K2 hK2=>?_) ?_
 ·refine gG_ ?_
  exact hK2
 refine c_b (λhn=>?_) (λhn=>?_)
 ·have hn:(yA ss t&&decide (t.k=5))=false:=by
   cases hm:yA ss t
   ·rfl
   ·rw[hm]at hn;simpa using hn
  rw[xu,hn]at h
  exact h none 0 nothing (λ_=>nothing) _ S.ext ⟨λb o ho=>by rcases ho with ho|⟨_,_,_,ho⟩<;>exact ho.elim,λb o ho=>by rcases ho with ho|⟨_,_,_,ho⟩<;>exact ho.elim⟩
   ⟨λi hi=>by simp at hi,λi j _ hi=>by simp at hi,λi hi=>by simp at hi⟩ (Nat.le_refl _)
 have hn:yA ss t=true∧t.k=5:=by
  cases hm:yA ss t
  ·rw[hm]at hn;simp at hn
  ·rw[hm]at hn;exact⟨rfl,by simpa using hn⟩
 obtain⟨hm,h5⟩:=hn
 rw[xu,hm,gde h5]at h
 simp only[Bool.and_true,if_true]at h
 obtain⟨hok,hl⟩:=JX hm
 obtain⟨h32,hb1,hg,hac,_,_⟩:=jq hok
 obtain⟨hst0,hst1,_⟩:=Yv hl h5
 have hlt:t.st.toNat<ss.length:=by omega
 obtain⟨b,off,q,capq,rfl,hcell,_,_,hf⟩:=jW hs hlt
 have htl:ze ss t.st=ss[t.st.toNat].fs.map (·.2):=by
  rw[← kO hlt];simp only[ze,tnc]
 have hlen:(ze ss t.st).length=ss[t.st.toNat].fs.length:=by rw[htl,List.length_map]
 have h88:=Yw hb1 t.st
 refine gG_ ?_
 refine zg (S.at hcell) ?_
 refine gP_ ?_
 have S:=S.tl
 have S:=S.ownNil 112 5
 have S:=S.to (r.or (un (λ_=>nothing) 0 0)) (l:=⟨λb o ho=>by rcases ho with ho|⟨_,_,h2,_⟩;exact ho;omega⟩)
 refine zj (ι:=Nat×Value×List Value×(Nat→Gh)) (λi=>[i.2.1,.int .i64 i.1]) (λi w'=>i.1≤(ze ss t.st).length∧i.2.2.1.length=i.1*5∧
   (∀j (hj:j<(ze ss t.st).length),j<i.1→((i.2.2.1.drop (j*5)).take 5).length=5∧TyG (i.2.2.2 j) (.agg ((i.2.2.1.drop (j*5)).take 5).toArray) (ze ss t.st)[j]∧VL (i.2.2.2 j) (.agg ((i.2.2.1.drop (j*5)).take 5).toArray) (ze ss t.st)[j])∧
   (∀j,j<i.1→∀b o,i.2.2.2 j b o→w.heap.size≤b)∧(∀j k,j≠k→j<i.1→k<i.1→Dis (i.2.2.2 j) (i.2.2.2 k))∧StX noX w (r.or (un i.2.2.2 0 i.1)) w' [.row i.2.1 112 5 i.1 i.2.2.1])
  (λi=>(ze ss t.st).length-i.1) (0,.slice none 0 0,[],λ_=>nothing) rfl ⟨gzl _,rfl,λj _ hj=>by omega,λj hj=>by omega,λj k _ hj=>by omega,S⟩ ?_
 clear S
 rintro⟨i,v,xs,gs⟩ d w3 ⟨hi,hxl,hel,hfr,hdis,S⟩ K7 hK7
 simp only at hi hxl hel hfr hdis S⊢
 rw[gdz,gds,gdz]
 refine gP_ ?_
 refine c_b (λhlt2=>?_) (λhge=>?_)
 ·have hlt2:i<ss[t.st.toNat].fs.length:=by simpa using hlt2
  have hlt3:i<(ze ss t.st).length:=by omega
  have hel2:(ze ss t.st)[i]=ss[t.st.toNat].fs[i].2:=by simp only[htl,List.getElem_map]
  have hmem:ss[t.st.toNat].fs[i].2∈ze ss t.st:=by rw[← hel2];exact gem hlt3
  obtain⟨b2,off2,c,rfl,hcl,hcc,hty⟩:=Qq hf hlt2
  refine gP_ ?_
  refine zu (n:=6) (c:=.string ss[t.st.toNat].fs[i].1::c) (by simp[hcl]) (λj v hj=>by rw[tnc];exact S.at (hcc j v hj)) ?_
  refine S.al λb8 w4 S=>?_
  refine S.stB (b:=b8) (cs:=(Value.string ss[t.st.toNat].fs[i].1::c).toArray) (λw5 S=>?_) rfl (by simp[hcl]) (Jl hty)
  refine gP_ ?_
  refine S.fty hcl ?_
  refine acj (s:=ss.length) 48 (by decide) (hg _ _ hmem) S.tl hty.up λc' N w6 hch S=>?_
  have hcl':=hch.len
  have hone':=hch.ones
  obtain⟨sn,S,ht,hcg,hfn,hdn⟩:=hch.frz2 S
  refine S.lit (e:=112) (cs:=c') (af0 hch) λb33 w7 S=>?_
  refine S.ap (m':=1) (Sl.blk (S.blk b33)) (λv34 w8 S=>?_) (by omega) (by omega) (by simp) hone'
  have S:=S.tl
  refine gP_ ?_
  rw[show ((i:Int)+1)=((i+1:Nat):Int)by omega]
  refine hK7 (i+1,v34,xs++c',λj=>if j=i then sn else gs j) _ ⟨hlt3,by simp only[gla];omega,λj hj hji=>?_,λj hj b o ho=>?_,λj k hjk hj hk=>?_,?_⟩ (by simp only;omega)
  ·by_cases hji':j=i
   ·subst hji'
    simp only[if_true]
    have e:((xs++c').drop (j*5)).take 5=c':=by
     rw[← hxl,List.drop_left',List.take_of_length_le (by omega)];rfl
    rw[e,hel2]
    exact⟨hcl',ht,hcg⟩
   ·simp only[if_neg hji']
    have e:((xs++c').drop (j*5)).take 5=(xs.drop (j*5)).take 5:=by
     rw[List.drop_append_of_le_length (by omega),List.take_append_of_le_length (by rw[List.length_drop];omega)]
    rw[e]
    exact hel j hj (by omega)
  ·simp only at ho
   split at ho
   ·exact(hfn b o ho).elim id λh=>h.elim
   ·exact hfr j (by omega) b o ho
  ·simp only
   by_cases h1:j=i
   ·rw[if_pos h1,if_neg (by omega)]
    exactλb o o' ho ho'=>hdn b o o' ho (.inr ⟨k,gzl _,by omega,ho'⟩)
   ·rw[if_neg h1]
    by_cases h2:k=i
    ·rw[if_pos h2]
     exactλb o o' ho ho'=>hdn b o' o ho' (.inr ⟨j,gzl _,by omega,ho⟩)
    ·rw[if_neg h2]
     exact hdis j k hjk (by omega) (by omega)
  ·simp only
   exact S.to _ (l:=⟨λb o ho=>by
    rcases ho with ho|⟨j,_,hj,ho⟩
    ·exact .inl (.inl ho)
    ·split at ho
     ·exact .inr ho
     ·exact .inl (.inr ⟨j,gzl _,by omega,ho⟩)⟩)
 ·have hge:i=(ze ss t.st).length:=by
   have :¬i<ss[t.st.toNat].fs.length:=by simpa using hge
   omega
  subst hge
  have hpos:(ze ss t.st).length≠0:=by
   have:=hb1 t.st.toNat hlt
   have e:ze ss (t.st.toNat:Int)=ze ss t.st:=by rw[ze,ze,tnc]
   rw[jp,e,Bool.or_eq_false_iff,Bool.or_eq_false_iff]at this
   simp only[decide_eq_false_iff_not]at this
   omega
  obtain⟨b9,cap9,c9,rfl,hc9,hcl9,htk9,S⟩:=S.rowCell v hpos
  have hm9:=S.mine (.cell b9 c9 112) (by simp) b9 rfl
  have S:=S.frz
  refine h _ _ (Go.Sh.one b9 c9 112) gs _ S.ext ⟨S.holds.le (h:=⟨λb o ho=>by
   rcases ho with ho|ho
   ·exact .inr ho
   ·exact .inl (.inr ho)⟩),λb o ho=>?_⟩ ⟨λj hj=>?_,λj k hjk hj hk=>hdis j k hjk hj hk,λj hj b o o' ho ho'=>?_⟩ hc9
  ·rcases ho with⟨rfl,_⟩|⟨j,_,hj,ho⟩
   ·exact hm9.1.resolve_right id
   ·exact hfr j hj b o ho
  ·obtain⟨h1,h2,h3⟩:=hel j hj hj
   refine⟨b9,0,_,rfl,h1,λk v hk w' hw=>?_,h2,h3⟩
   have B:=yN (b:=b9) (c:=c9) (T:=112) w' hw
   show w'.cell? _=some v
   rw[Nat.zero_add,B.cell]
   have hk5:k<5:=by have:=(List.getElem?_eq_some_iff.1 hk).1;omega
   rw[List.getElem?_take,if_pos hk5,List.getElem?_drop,← htk9,List.getElem?_take]at hk
   split at hk
   ·exact hk
   ·cases hk
  ·obtain⟨rfl,_⟩:=ho'
   exact hm9.2 o (.inr ⟨j,gzl _,hj,ho⟩)
end
end Go.Proofs
namespace Go.Sh
open Go.ChangeShapes Go.WideShapes Go.ChangeAt Go.RowKit
section
section
variable {H:Type} {enc:TypeId×Value→H} {P:Program}
theorem afa{W W':World}(e:Ext W W'){p:MemPlace}(hp:p.block<W.heap.size):W.sameAt W' p:=Below.same e hp
theorem QR{W W':World}(e:Ext W W')(K:Kids P (· < P.types.size))(hz:∀t e,t<P.types.size→P.underlying t=some (.slice e)→0<P.cellsOf e){sp:Nat→Bool}:
  ∀{ts:List TypeId}{vs:List Value}{ds:List (DataW H)}{ps:List MemPlace},(∀t∈ts,t<P.types.size)→DataW.TrodAll enc P W 0 (λ_=>true) true ts vs ds ps→(∀p∈ps,p.block<W.heap.size)→(∀p∈ps,sp p.block=true)→
   DataW.TrodAll enc P W' 0 sp true ts vs ds ps
 |[],[],[],_,_,h,_,_=>h
 |_::_,_::_,_::_,_,hT,⟨p,q,⟨n,h1⟩,h2,he⟩,hl,hs=>
  ⟨p,q,⟨n,DataW.trod_stays K (fun {t e}=>hz t e) (λh=>by cases h) (hT _ (List.mem_cons.2 (Or.inl rfl))) h1 (λx hx=>afa e (hl x (by rw[he];exact List.mem_append_left _ hx))) (λx hx=>hs x (by rw[he];exact List.mem_append_left _ hx))⟩,
   QR e K hz (λt ht=>hT t (List.mem_cons.2 (Or.inr ht))) h2 (λx hx=>hl x (by rw[he];exact List.mem_append_right _ hx)) (λx hx=>hs x (by rw[he];exact List.mem_append_right _ hx)),he⟩
theorem aea{f:Func}{s:ChangeSpec}{W W':World}{args:Array Value}{ds gs:List (DataW H)}{before:List MemPlace}{tb:TypeId}{fr ho:Bool}
  (hl:laidOutB P=true) (hm:mapsRowed P=true) (hz:((List.range P.types.size).all λt=>match P.underlying t with|some (.slice e)=>decide (0<P.cellsOf e)|_=>true)=true)
  (hts:∀t∈f.params.toList,t<P.types.size) (hv:s.vars=[]) (hrt:f.resultTypes=#[tb]) (htb:P.underlying tb=some .bool)
  (hW:DataW.Whole enc P f.params.toList s.vars false W args.toList ds gs before) (hs:s.fn H (ds++gs) = { results:=[.lit (.bool true)],args:=ds }) (e:Ext W W'):
  s.post enc P f false fr ho false W args (.bool true) W':=by
 have hW':=hW
 obtain⟨p,q,hA,hV,rfl,hfz,hnd⟩:=hW
 rw[hv]at hV
 obtain⟨rfl,rfl⟩:=trodVars_none hV
 have hlt:=hW'.lt
 refine⟨ds,[],p++[],[],p,[],hW',?_,?_,?_,Below.frame e _,λh=>by cases h⟩
 ·rw[hs,hrt]
  exact trodAll_mk1 (shut_bool htb _)
 ·rw[hs]
  exact QR e (kids_rows hl hm) (slices_full_of P hz) hts hA (λx hx=>hlt x (by simpa using hx)) (λx hx=>by simpa using hlt x (by simpa using hx))
 ·rw[hv,hs];rfl
end
end
end Go.Sh
namespace Go.Sh
open Go.RowKit
section
mutual
def Dat.ok(P:Program):Dat→TypeId→Prop
 |.int k n,t=>P.underlying t=some (.int k)∧(Lit.int k n).wf=true
 |.bool _,t=>P.underlying t=some .bool
 |.str s,t=>P.underlying t=some .string∧s.size≤maxLen
 |.agg ds,t=>∃fs,P.underlying t=some (.struct fs)∧Dat.okF P ds (fs.toList.map (·.type))
 |.sl sz es,t=>∃e,P.underlying t=some (.slice e)∧sz=P.cellsOf e∧es.length≤maxLen∧Dat.okS P es e
def Dat.okF(P:Program):List Dat→List TypeId→Prop
 |[],ts=>ts=[]
 |d::ds,ts=>∃t r,ts=t::r∧Dat.ok P d t∧Dat.okF P ds r
def Dat.okS(P:Program):List Dat→TypeId→Prop
 |[],_=>True
 |d::ds,t=>Dat.ok P d t∧Dat.okS P ds t
end
theorem aeb{P:Program}{t:TypeId}:∀{es:List Dat},(∀(i:Nat)(d:Dat),es[i]? = some d→d.ok P t)→Dat.okS P es t
 |[],_=>trivial
 |d::es,h=>⟨h 0 d rfl,aeb λi d hi=>h (i+1) d (by simpa using hi)⟩
theorem acJ{P:Program}{t:TypeId}:∀{es:List Dat},Dat.okS P es t→∀d∈es,d.ok P t
 |[],_,d,hd=>by cases hd
 |e::es,h,d,hd=>by
  rcases List.mem_cons.1 hd with rfl|hd
  ·exact h.1
  ·exact acJ h.2 d hd
def kv(P:Program)(total:Nat):Nat→List Field→Bool
 |off,[]=>off == total
 |off,f::fs=>f.offset == off&&kv P total (off+P.cellsOf f.type) fs
def abv(P:Program)(ts:List TypeId):Bool:=
 ts.all λt=>match P.underlying t with
  |some (.int _)=>true
  |some .bool=>true
  |some .string=>true
  |some (.struct fs)=>kv P (P.cellsOf t) 0 fs.toList&&fs.toList.all (λf=>ts.contains f.type)
  |some (.slice e)=>decide (0<P.cellsOf e)&&ts.contains e
  |_=>false
theorem QS{Q:Nat→Dat→Prop}:∀n:Nat,(∀i,i<n→∃d,Q i d)→∃es:List Dat,es.length=n∧∀i d,es[i]? = some d→Q i d
 |0,_=>⟨[],rfl,λi d h=>by cases h⟩
 |n+1,h=>by
  obtain⟨es,h1,h2⟩:=QS n λi hi=>h i (by omega)
  obtain⟨d,hd⟩:=h n (by omega)
  refine⟨es++[d],by simp[h1],λi x hx=>?_⟩
  rcases Nat.lt_or_ge i es.length with hi|hi
  ·rw[List.getElem?_append_left hi]at hx;exact h2 i x hx
  ·rw[List.getElem?_append_right hi]at hx
   have hl:=(List.getElem?_eq_some_iff.1 hx).1
   have :i=n:=by simp at hl;omega
   subst this
   rw[h1,Nat.sub_self]at hx
   cases hx;exact hd
section
variable {H:Type} {enc:TypeId×Value→H} {P:Program} {W:World}
theorem JY{cs:List Value}{total:Nat}(hcs:cs.length=total):∀(fl:List Field)(off:Nat),kv P total off fl=true→
  (∀f∈fl,∃d,Rep (all W) d ((cs.drop f.offset).take (P.cellsOf f.type))∧d.ok P f.type)→∃ds,RepA (all W) ds (cs.drop off)∧Dat.okF P ds (fl.map (·.type))
 |[],off,hl,_=>⟨[],by
  have :off=total:=by simpa [kv]using hl
  rw[RepA,List.drop_eq_nil_iff];omega,rfl⟩
 |f::fl,off,hl,h=>by
  simp only[kv,gba,beq_iff_eq]at hl
  obtain⟨d,h1,h2⟩:=h f List.mem_cons_self
  obtain⟨ds,h3,h4⟩:=JY hcs fl _ hl.2 λg hg=>h g (List.mem_cons_of_mem _ hg)
  refine⟨d::ds,⟨_,_,?_,h1,h3⟩,_,_,rfl,h2,h4⟩
  rw[hl.1,← List.drop_drop,List.take_append_drop]
theorem jY{ts:List TypeId}(hp:abv P ts=true){sp:Nat→Bool}:∀(fuel:Nat)(t:TypeId)(cs:List Value)(x:DataW H×List MemPlace),t∈ts→
  DataW.trod enc P W 0 sp true fuel t cs=some x→∃d,Rep (all W) d cs∧d.ok P t
 |0,_,_,_,_,h=>by simp[DataW.trod]at h
 |fuel+1,t,cs,x,ht,h=>by
  have hpt:=List.all_eq_true.1 hp t ht
  cases hu:P.underlying t with
  |none=>rw [hu]at hpt;cases hpt
  |some k=>
   rw[hu]at hpt
   cases k with
   |int k=>obtain ⟨n,rfl,_,hw⟩:=DataW.trod_int hu h;exact⟨.int k n,rfl,hu,hw⟩
   |bool=>obtain ⟨b,rfl,_⟩:=DataW.trod_bool hu h;exact⟨.bool b,rfl,hu⟩
   |string=>obtain ⟨s,rfl,_,hs⟩:=DataW.trod_string hu h;exact⟨.str s,rfl,hu,hs⟩
   |struct fs=>
    simp only[gba]at hpt
    obtain⟨xs,n,hn,_,hl,hxl,hx⟩:=DataW.trod_struct hu h
    obtain rfl:fuel=n:=by omega
    obtain⟨ds,h1,h2⟩:=JY (P:=P) (W:=W) hl fs.toList 0 hpt.1 (λf hf=>by
     obtain⟨i,hi,rfl⟩:=List.getElem_of_mem hf
     have hi':i<fs.size:=by simpa using hi
     have h1:=hx i fs[i] (Array.getElem?_eq_getElem hi')
     rw[gqg (by omega)]at h1
     have hmem:fs[i].type∈ts:=by
      have:=List.all_eq_true.1 hpt.2 _ hf
      simpa using this
     exact jY hp fuel _ _ _ hmem h1)
    rw[List.drop_zero]at h1
    exact⟨.agg ds,h1,fs,hu,h2⟩
   |slice e=>
    simp only[gba,gdt]at hpt
    have he:e∈ts:=by simpa using hpt.2
    rcases DataW.trod_slice hu h with⟨rfl,_⟩|⟨a,len,cap,elems,rest,n,hn,rfl,_,_,hlc,hcm,hel,hget,_,_⟩
    ·exact⟨.sl (P.cellsOf e) [],⟨none,0,rfl,λ_=>rfl,Nat.le_refl _,trivial⟩,e,hu,rfl,gzl _,trivial⟩
    obtain rfl:fuel=n:=by omega
    have hspot:0<len→a.spot=none:=λh0=>by
     have h1:=hget 0 h0
     rw[gqg (by omega)]at h1
     obtain⟨c,hc,_⟩:=Option.bind_eq_some_iff.1 h1
     obtain⟨_,hcl,hcc⟩:=World.cells?_some hc
     have hcell:=(hcc 0 hpt.1).trans (gqg (by omega))
     have:=World.cell?_spot hcell
     simpa [Addr.add]using this
    obtain⟨es,h1,h2⟩:=QS (Q:=λi d=>d.ok P e∧∃c,c.length=P.cellsOf e∧CellsAt (all W) (some a) (i*P.cellsOf e) c∧Rep (all W) d c) len (λi hi=>by
     have h1:=hget i hi
     rw[gqg (by omega)]at h1
     obtain⟨c,hc,ht⟩:=Option.bind_eq_some_iff.1 h1
     obtain⟨_,hcl,hcc⟩:=World.cells?_some hc
     obtain⟨d,hd,hok⟩:=jY hp fuel e c _ he ht
     refine⟨d,hok,c,hcl,λj v hj=>?_,hd⟩
     have hjl:=(List.getElem?_eq_some_iff.1 hj).1
     have hcell:W.cell? ((a.add (i*P.cellsOf e)).add j)=some v:=(hcc j (by omega)).trans hj
     obtain⟨b,off,sp⟩:=a
     have hsp:sp=none:=hspot (by omega)
     subst hsp
     rw[XD,XD]at hcell
     exact⟨b,off,rfl,ae5 hcell⟩)
    refine⟨.sl (P.cellsOf e) es,⟨some a,cap,by rw[h1],by simp,by omega,RepS.of λi d hi=>?_⟩,e,hu,rfl,by omega,aeb λi d hi=>(h2 i d hi).1⟩
    rw[Nat.zero_add];exact(h2 i d hi).2
   |_=>cases hpt
end
end
section
def SlG{α:Type}(sz:Nat)(r:Gh)(R:List Value→α→Prop)(v:Value)(l:List α):Prop:=
 ∃p cap,v=.slice p l.length cap∧(p=none→cap=0)∧l.length≤cap∧∀(i:Nat)(h:i<l.length),∃c,c.length=sz∧CellsAt r p (i*sz) c∧R c l[i]
def RowOf{α:Type}(sz:Nat)(R:List Value→α→Prop)(xs:List Value)(l:List α):Prop:=
 xs.length=l.length*sz∧∀(i:Nat)(h:i<l.length),R ((xs.drop (i*sz)).take sz) l[i]
section
variable {α:Type} {sz:Nat} {r s:Gh} {R Q:List Value→α→Prop} {v:Value} {l:List α}
theorem SlG.up'(h:SlG sz r R v l)(le:Le r s)(hR:∀c x,R c x→Q c x):SlG sz s Q v l:=by
 obtain⟨p,cap,h1,h2,h3,h4⟩:=h
 refine⟨p,cap,h1,h2,h3,λi hi=>?_⟩
 obtain⟨c,h5,h6,h7⟩:=h4 i hi
 exact⟨c,h5,h6.up le,hR _ _ h7⟩
theorem SlG.mono(h:SlG sz r R v l)(hR:∀c x,R c x→Q c x):SlG sz r Q v l:=h.up' inferInstance hR
theorem SlG.cells(h:SlG sz r R v l)[le:Le r s]:SlG sz s R v l:=h.up' le λ_ _ h=>h
theorem SlG.nil:SlG sz r R (.slice none 0 0) ([]:List α):=⟨none,0,rfl,λ_=>rfl,Nat.le_refl _,λi hi=>absurd hi (Nat.not_lt_zero _)⟩
theorem SlG.shape(h:SlG sz r R v l):∃p cap,v=.slice p l.length cap∧(p=none→cap=0)∧l.length≤cap:=by
 obtain⟨p,cap,h1,h2,h3,_⟩:=h;exact⟨p,cap,h1,h2,h3⟩
theorem SlG.get(hz:0<sz){p:Option Addr}{n cap:Nat}(h:SlG sz r R (.slice p n cap) l){i:Nat}(hi:i<l.length):
  ∃b off c,p=some ⟨b,off,none⟩∧c.length=sz∧R c l[i]∧∀j v,c[j]? = some v→Ob r λw=>w.cell? ⟨b,off+i*sz+j,none⟩=some v:=by
 obtain⟨p',cap',h1,h2,h3,h4⟩:=h
 cases h1
 obtain⟨c,h5,h6,h7⟩:=h4 i hi
 obtain⟨b,off,hp,_⟩:=h6 0 c[0] (gqg (by omega))
 subst hp
 refine⟨b,off,c,rfl,h5,h7,λj v hj=>?_⟩
 obtain⟨b',off',hp,ho⟩:=h6 j v hj
 cases hp;exact ho
theorem RowOf.nil:RowOf sz R [] ([]:List α):=⟨by simp,λi hi=>absurd hi (Nat.not_lt_zero _)⟩
theorem RowOf.mono{xs:List Value}(h:RowOf sz R xs l)(hR:∀c x,R c x→Q c x):RowOf sz Q xs l:=⟨h.1,λi hi=>hR _ _ (h.2 i hi)⟩
theorem RowOf.snoc{xs c:List Value}{x:α}(h:RowOf sz R xs l)(hc:c.length=sz)(hx:R c x):RowOf sz R (xs++c) (l++[x]):=by
 obtain⟨h1,h2⟩:=h
 refine⟨by rw[gla,gla,h1,hc,gls,Nat.add_mul,Nat.one_mul],λi hi=>?_⟩
 rw[gla,gls]at hi
 rcases Nat.lt_or_ge i l.length with h|h
 ·have hm:i*sz+sz≤xs.length:=by rw[h1,← Nat.succ_mul];exact Nat.mul_le_mul_right _ h
  rw[List.getElem_append_left h,List.drop_append_of_le_length (by omega),List.take_append_of_le_length (by rw[List.length_drop];omega)]
  exact h2 i h
 ·obtain rfl:i=l.length:=by omega
  rw[List.getElem_append_right (Nat.le_refl _),← h1,List.drop_left',List.take_of_length_le (by omega)]
  ·simpa using hx
  ·rfl
theorem RowOf.sl{xs:List Value}(h:RowOf sz R xs l){p:Option Addr}{cap:Nat}(hp:p=none→cap=0)(hc:l.length≤cap)(ho:Ob r λw=>Sl w p xs)(hz:0<sz)(hk:∃w,Holds r w):SlG sz r R (.slice p l.length cap) l:=by
 refine⟨p,cap,rfl,hp,hc,λi hi=>⟨(xs.drop (i*sz)).take sz,?_,?_,h.2 i hi⟩⟩
 ·have :i*sz+sz≤xs.length:=by rw[h.1,← Nat.succ_mul];exact Nat.mul_le_mul_right _ hi
  rw[List.length_take,List.length_drop];omega
 ·intro j v hj
  rw[List.getElem?_take]at hj
  split at hj
  ·rw[List.getElem?_drop]at hj
   obtain⟨w,hw⟩:=hk
   obtain⟨b,off,rfl,_⟩:=ho w hw _ _ hj
   refine⟨b,off,rfl,λw' hw'=>?_⟩
   obtain⟨b',off',hp',hc'⟩:=ho w' hw' _ _ hj
   cases hp'
   rw[← Nat.add_assoc]at hc';exact hc'
  ·cases hj
end
section
variable {P:Program} {X:Nat→Prop} {w0 w:World} {r:Gh} {L:List Asr} {α:Type} {sz n:Nat} {R:List Value→α→Prop} {v:Value} {l:List α} {e:TypeId} {xs:List Value}
theorem StX.doneRow(S:StX X w0 r w (.row v e sz n xs::L))(h:RowOf sz R xs l)(hz:0<sz)(hn:n=l.length):
  ∃s,StX X w0 (r.or s) w L∧SlG sz s R v l∧(∀b o,s b o→∃c,o=.cells c e (0,0))∧(∀b o,s b o→w0.heap.size≤b∨X b):=by
 subst hn
 have hm:=S.mine _ (List.mem_cons_self ..)
 have hr:w.ownsRow 0 e sz v l.length xs:=S.has _ (List.mem_cons_self ..)
 rcases qM hr with⟨rfl,h1,h2⟩|⟨g,cap,c,rfl,hg,B,h1,_,h3,h4⟩
 ·have hl:l=[]:=List.eq_nil_of_length_eq_zero h1
  subst hl
  exact⟨nothing,S.tl.new (Ext.refl _) New.nothing,SlG.nil,λb o h=>h.elim,λb o h=>h.elim⟩
 ·have S':=S.turn (p:=[]) (x:=.row _ e sz l.length xs) (y:=.cell g c e) (ExtBut.refl _ _) B λk hk=>.inl (by cases hk;rfl)
  refine⟨one g c e,S'.frz,?_,λb o h=>⟨_,h.2⟩,λb o h=>(hm b (by rw[h.1];rfl)).1⟩
  refine h.sl (by simp) h1 (λw k=>?_) hz ⟨w,xV B⟩
  rw[← h4];exact(Sl.blk (yN w k)).take _
theorem StX.litSl{b:Nat}(S:StX X w0 r w (.cell b xs e::L))(h:RowOf sz R xs l)(hz:0<sz):StX X w0 (r.or (Go.Sh.one b xs e)) w L∧SlG sz (Go.Sh.one b xs e) R (.slice (some ⟨b,0,none⟩) l.length l.length) l:=
 ⟨S.frz,h.sl (by simp) (Nat.le_refl _) (λw k=>Sl.blk (yN w k)) hz ⟨w,xV (S.has _ (List.mem_cons_self ..))⟩⟩
theorem StX.d2{x y:Asr}(S:StX X w0 r w (x::y::L)):StX X w0 r w (x::L):=S.less (λ_ _ h=>h) (.cons_cons _ (List.sublist_cons_self _ _))
theorem StX.reGh{s t:Gh}(S:StX X w0 ((r.or s).or t) w L):StX X w0 (r.or (s.or t)) w L:=
 S.less (λb o h=>h.elim (λh=>.inl (.inl h)) λh=>h.elim (λh=>.inl (.inr h)) .inr) (List.Sublist.refl _)
theorem Above.or'{s t:Gh}(h:Above w0 s)(k:Above w0 t):Above w0 (s.or t):=λb o x=>x.elim (h b o) (k b o)
theorem Above.no:Above w0 nothing:=λb o h=>h.elim
theorem StX.newOf{q:Gh}(S:StX X w0 r w L)(h:Above w0 q)[Le q r]:New w0 q w:=⟨S.holds.le (h:=inferInstance),h⟩
end
section
variable {P:Program}
theorem yc{d:Dat}{t:TypeId}{k:IntKind}(u:P.underlying t=some (.int k))(h:d.ok P t):∃n,d=.int k n∧(Lit.int k n).wf=true:=by
 cases d<;>simp only[Dat.ok,u]at h<;>try simp at h
 obtain⟨rfl,h⟩:=h
 exact⟨_,rfl,h⟩
theorem abw{d:Dat}{t:TypeId}(u:P.underlying t=some .bool)(h:d.ok P t):∃b,d=.bool b:=by
 cases d<;>simp only[Dat.ok,u]at h<;>try simp at h
 exact⟨_,rfl⟩
theorem af1{d:Dat}{t:TypeId}(u:P.underlying t=some .string)(h:d.ok P t):∃s,d=.str s∧s.size≤maxLen:=by
 cases d<;>simp only[Dat.ok,u]at h<;>try simp at h
 exact⟨_,rfl,h⟩
theorem agH{d:Dat}{t e:TypeId}(u:P.underlying t=some (.slice e))(h:d.ok P t):∃es,d=.sl (P.cellsOf e) es∧es.length≤maxLen∧∀x∈es,x.ok P e:=by
 cases d<;>simp only[Dat.ok,u]at h<;>try simp at h
 obtain⟨rfl,h1,h2⟩:=h
 exact⟨_,rfl,h1,acJ h2⟩
theorem kW{d:Dat}{t:TypeId}{ts:List TypeId}(u:∃fs,P.underlying t=some (.struct fs)∧fs.toList.map (·.type)=ts)(h:d.ok P t):∃ds,d=.agg ds∧Dat.okF P ds ts:=by
 obtain⟨fs,u,rfl⟩:=u
 cases d<;>simp only[Dat.ok,u]at h<;>try simp at h
 exact⟨_,rfl,by simpa using h⟩
theorem zp{ds:List Dat}{t:TypeId}{ts:List TypeId}(h:Dat.okF P ds (t::ts)):∃d r,ds=d::r∧d.ok P t∧Dat.okF P r ts:=by
 cases ds with
 |nil=>cases h
 |cons d r=>obtain ⟨t',r',h1,h2,h3⟩:=h;cases h1;exact⟨d,r,rfl,h2,h3⟩
theorem kX{ds:List Dat}(h:Dat.okF P ds []):ds=[]:=by
 cases ds with
 |nil=>rfl
 |cons d r=>obtain ⟨t',r',h1,_⟩:=h;cases h1
noncomputable def acK(P:Program)(t:TypeId)(ts:List TypeId):Bool:=match P.underlying t with|some (.struct fs)=>decide (fs.toList.map (·.type)=ts)|_=>false
theorem xA{t:TypeId}{ts:List TypeId}(h:acK P t ts=true):∃fs,P.underlying t=some (.struct fs)∧fs.toList.map (·.type)=ts:=by
 unfold acK at h
 split at h
 ·rename_i fs hu;exact⟨fs,hu,of_decide_eq_true h⟩
 ·cases h
end
theorem aec{n:Int}(h:(Lit.int .i64 n).wf=true): -9223372036854775808≤n∧n≤9223372036854775807:=by
 simp only[Lit.wf,gba,gdt]at h
 exact⟨h.1,h.2⟩
theorem abx{α:Type}{f:α→Dat}{G:α→Prop}:∀es:List Dat,(∀d∈es,∃t,d=f t∧G t)→∃l:List α,es=l.map f∧∀t∈l,G t
 |[],_=>⟨[],rfl,λt h=>by cases h⟩
 |d::es,h=>by
  obtain⟨t,rfl,ht⟩:=h d List.mem_cons_self
  obtain⟨l,rfl,hq⟩:=abx es λx hx=>h x (List.mem_cons_of_mem _ hx)
  refine⟨t::l,rfl,λx hx=>?_⟩
  rcases List.mem_cons.1 hx with rfl|hx
  ·exact ht
  ·exact hq x hx
theorem ack{α:Type}{k:IntKind}{f:α→Int}{r:Gh}{cs:List Value}{l:List α}(h:Rep r (.sl 1 (l.map λx=>.int k (f x))) cs):
  ∃p cap,cs=[.slice p l.length cap]∧(p=none→cap=0)∧l.length≤cap∧Ob r λw=>Sl w p (l.map λx=>.int k (f x)):=by
 obtain⟨p,cap,rfl,h1,h2,h3⟩:=h
 rw[List.length_map]at h2⊢
 refine⟨p,cap,rfl,h1,h2,λw hw i v hi=>?_⟩
 rw[List.getElem?_map]at hi
 cases hl:l[i]? with
 |none=>rw [hl]at hi;cases hi
 |some x=>
  rw[hl]at hi
  obtain rfl:v=.int k (f x):=(Option.some.inj hi).symm
  obtain⟨c,hc,hcc,hr⟩:=h3.get (i:=i) (d:=.int k (f x)) (by rw[List.getElem?_map,hl];rfl)
  obtain rfl:c=_:=hr
  obtain⟨b,off,rfl,ho⟩:=hcc 0 _ rfl
  refine⟨b,off,rfl,?_⟩
  have:=ho w hw
  simpa using this
end
end Go.Sh
namespace Go.Proofs
open Go.Sh
section
variable {r s:Gh} {c:List Value} {v:Value} {ss:List StD} {t:TyD} {w:World} {K:Value→World→Prop} {α:Type} {sz:Nat} {tys:List TyD}
structure PlD where
 l:Int
 ps:List Int
structure OpD where
 k:Int
 n:Int
 pl:PlD
structure PtD where
 op:Int
 to:PlD
 a:OpD
 b:OpD
 args:List OpD
 sign:ByteArray
 fr:PlD
 mu:Bool
 fn:Int
 st:Int
 nx:Int
 el:Int
 tx:Int
structure GrD where
 name:ByteArray
 lv:Int
 outs:List (Int×Int)
 pn:Int
 tys:List TyD
 nms:List ByteArray
 pts:List PtD
structure UnD where
 ss:List StD
 fs:List GrD
 mn:Int
def ye(c:List Value)(x:Int):Prop:=c=[.int .i64 x]
def YX(x:Int):Prop:=-9223372036854775808≤x∧x<9223372036854775808
def yI(c:List Value)(x:Int):Prop:=c=[.int .i64 x]∧YX x
structure SlB{α:Type}(sz:Nat)(r:Gh)(R:List Value→α→Prop)(v:Value)(l:List α):Prop where
 sl:SlG sz r R v l
 few:l.length≤maxLen
theorem SlB.cells{R:List Value→α→Prop}{l:List α}(h:SlB sz r R v l)[le:Le r s]:SlB sz s R v l:=⟨h.sl.cells,h.few⟩
theorem SlB.up'{R Q:List Value→α→Prop}{l:List α}(h:SlB sz r R v l)(le:Le r s)(hR:∀c x,R c x→Q c x):SlB sz s Q v l:=⟨h.sl.up' le hR,h.few⟩
theorem kb{D:α→Dat}{R:List Value→α→Prop}{cs:List Value}{l:List α}(hR:∀c x,x∈l→Rep r (D x) c→R c x)(h:Rep r (.sl sz (l.map D)) cs)(hl:l.length≤maxLen):∃v,cs=[v]∧SlB sz r R v l:=by
 obtain⟨p,cap,rfl,h1,h2,h3⟩:=h
 rw[List.length_map]at h2⊢
 refine⟨_,rfl,⟨p,cap,rfl,h1,h2,λi hi=>?_⟩,hl⟩
 obtain⟨c,h4,h5,h6⟩:=h3.get (i:=i) (d:=D l[i]) (by rw[List.getElem?_map,gqg hi];rfl)
 rw[Nat.zero_add]at h5
 exact⟨c,h4,h5,hR _ _ (gem hi) h6⟩
def PlD.ok(p:PlD):Prop:=p.ps.length≤maxLen∧∀k∈p.ps,YX k
def OpD.ok(o:OpD):Prop:=o.pl.ok
def PtD.ok(p:PtD):Prop:=p.to.ok∧p.a.ok∧p.b.ok∧(p.args.length≤maxLen∧∀o∈p.args,o.ok)∧p.fr.ok
def GrD.ok(g:GrD):Prop:=g.outs.length≤maxLen∧g.tys.length≤maxLen∧g.nms.length≤maxLen∧g.pts.length≤maxLen∧∀p∈g.pts,p.ok
def UnD.ok(u:UnD):Prop:=u.ss.length≤maxLen∧u.fs.length≤maxLen∧∀g∈u.fs,g.ok
def afb(c:List Value)(x:ByteArray):Prop:=c=[.string x]
def afc(c:List Value)(x:Int×Int):Prop:=c=[.int .i64 x.1,.int .i64 x.2]
def TyC(r:Gh)(c:List Value)(t:TyD):Prop:=TyG r (.agg c.toArray) t
def PlG(r:Gh)(c:List Value)(p:PlD):Prop:=∃v,c=[.int .i64 p.l,v]∧SlB 1 r yI v p.ps
def OpG(r:Gh)(c:List Value)(o:OpD):Prop:=∃v,c=[.int .u8 o.k,.int .i64 o.n,.int .i64 o.pl.l,v]∧SlB 1 r yI v o.pl.ps
def PtG(r:Gh)(c:List Value)(p:PtD):Prop:=∃vt va vb vl vf,
 c=[.int .u8 p.op,.int .i64 p.to.l,vt,.int .u8 p.a.k,.int .i64 p.a.n,.int .i64 p.a.pl.l,va,.int .u8 p.b.k,.int .i64 p.b.n,.int .i64 p.b.pl.l,vb,vl,.string p.sign,.int .i64 p.fr.l,vf,.bool p.mu,.int .i64 p.fn,.int .i64 p.st,.int .i64 p.nx,.int .i64 p.el,.int .i64 p.tx]∧
 SlB 1 r yI vt p.to.ps∧SlB 1 r yI va p.a.pl.ps∧SlB 1 r yI vb p.b.pl.ps∧SlB 4 r (OpG r) vl p.args∧SlB 1 r yI vf p.fr.ps
def GrG(r:Gh)(c:List Value)(g:GrD):Prop:=∃vo vt vn vp,c=[.string g.name,.int .i64 g.lv,vo,.int .i64 g.pn,vt,vn,vp]∧
 SlB 2 r afc vo g.outs∧SlB 5 r (TyC r) vt g.tys∧SlB 1 r afb vn g.nms∧SlB 21 r (PtG r) vp g.pts
def UnG(r:Gh)(v:Value)(u:UnD):Prop:=∃p cap vf,v=.agg #[.slice p u.ss.length cap,vf,.int .i64 u.mn]∧(p=none→cap=0)∧u.ss.length≤cap∧StG r p u.ss∧u.ss.length≤maxLen∧SlB 7 r (GrG r) vf u.fs
theorem PlG.up{p:PlD}(h:PlG r c p)[l:Le r s]:PlG s c p:=by
 obtain⟨v,h1,h2⟩:=h;exact⟨v,h1,h2.cells⟩
theorem OpG.up{p:OpD}(h:OpG r c p)[l:Le r s]:OpG s c p:=by
 obtain⟨v,h1,h2⟩:=h;exact⟨v,h1,h2.cells⟩
theorem PtG.up{p:PtD}(h:PtG r c p)[l:Le r s]:PtG s c p:=by
 obtain⟨vt,va,vb,vl,vf,h0,h1,h2,h3,h4,h5⟩:=h
 exact⟨vt,va,vb,vl,vf,h0,h1.cells,h2.cells,h3.cells,h4.up' l λ_ _ h=>h.up,h5.cells⟩
theorem GrG.up{g:GrD}(h:GrG r c g)[l:Le r s]:GrG s c g:=by
 obtain⟨vo,vt,vn,vp,h0,h1,h2,h3,h4⟩:=h
 exact⟨vo,vt,vn,vp,h0,h1.cells,h2.up' l λ_ _ h=>TyG.up h,h3.cells,h4.up' l λ_ _ h=>h.up⟩
theorem UnG.up{u:UnD}(h:UnG r v u)[l:Le r s]:UnG s v u:=by
 obtain⟨p,cap,vf,h0,h1,h2,h3,h5,h4⟩:=h
 exact⟨p,cap,vf,h0,h1,h2,h3.up,h5,h4.up' l λ_ _ h=>h.up⟩
def PlD.dat(p:PlD):Dat:=.agg [.int .i64 p.l,.sl 1 (p.ps.map (Dat.int .i64))]
def OpD.dat(o:OpD):Dat:=.agg [.int .u8 o.k,.int .i64 o.n,o.pl.dat]
def PtD.dat(p:PtD):Dat:=.agg [.int .u8 p.op,p.to.dat,p.a.dat,p.b.dat,.sl 4 (p.args.map OpD.dat),.str p.sign,p.fr.dat,.bool p.mu,.int .i64 p.fn,.int .i64 p.st,.int .i64 p.nx,.int .i64 p.el,.int .i64 p.tx]
def adn(x:Int×Int):Dat:=.agg [.int .i64 x.1,.int .i64 x.2]
def GrD.dat(g:GrD):Dat:=.agg [.str g.name,.int .i64 g.lv,.sl 2 (g.outs.map adn),.int .i64 g.pn,.sl 5 (g.tys.map TyD.dat),.sl 1 (g.nms.map Dat.str),.sl 21 (g.pts.map PtD.dat)]
def UnD.dat(u:UnD):Dat:=.agg [.sl 2 (u.ss.map StD.dat),.sl 7 (u.fs.map GrD.dat),.int .i64 u.mn]
theorem XQ{p:PlD}(h:Rep r p.dat c)(k:p.ok):PlG r c p:=by
 obtain⟨a1,b1,rfl,e1,a2,b2,rfl,e2,e3⟩:=h
 obtain rfl:a1=_:=e1
 obtain rfl:b2=[]:=e3
 obtain⟨v,rfl,hv⟩:=kb (D:=Dat.int .i64) (R:=yI) (λc x hx h=>⟨h,k.2 x hx⟩) e2 k.1
 exact⟨v,rfl,hv⟩
theorem XR{o:OpD}(h:Rep r o.dat c)(k:o.ok):OpG r c o:=by
 obtain⟨a1,b1,rfl,e1,a2,b2,rfl,e2,a3,b3,rfl,e3,e4⟩:=h
 obtain rfl:a1=_:=e1
 obtain rfl:a2=_:=e2
 obtain rfl:b3=[]:=e4
 obtain⟨v,rfl,hv⟩:=XQ e3 k
 exact⟨v,rfl,hv⟩
theorem aed{p:PtD}(h:Rep r p.dat c)(k:p.ok):PtG r c p:=by
 obtain⟨a1,b1,rfl,e1,a2,b2,rfl,e2,a3,b3,rfl,e3,a4,b4,rfl,e4,a5,b5,rfl,e5,a6,b6,rfl,e6,a7,b7,rfl,e7,a8,b8,rfl,e8,a9,b9,rfl,e9,a10,b10,rfl,e10,a11,b11,rfl,e11,a12,b12,rfl,e12,a13,b13,rfl,e13,e14⟩:=h
 obtain rfl:a1=_:=e1
 obtain rfl:a6=_:=e6
 obtain rfl:a8=_:=e8
 obtain rfl:a9=_:=e9
 obtain rfl:a10=_:=e10
 obtain rfl:a11=_:=e11
 obtain rfl:a12=_:=e12
 obtain rfl:a13=_:=e13
 obtain rfl:b13=[]:=e14
 obtain⟨v2,rfl,h2⟩:=XQ e2 k.1
 obtain⟨v3,rfl,h3⟩:=XR e3 k.2.1
 obtain⟨v4,rfl,h4⟩:=XR e4 k.2.2.1
 obtain⟨v5,rfl,h5⟩:=kb (R:=OpG r) (λc x hx h=>XR h (k.2.2.2.1.2 x hx)) e5 k.2.2.2.1.1
 obtain⟨v7,rfl,h7⟩:=XQ e7 k.2.2.2.2
 exact⟨v2,v3,v4,v5,v7,rfl,h2,h3,h4,h5,h7⟩
theorem ado{x:Int×Int}(h:Rep r (adn x) c):afc c x:=by
 obtain⟨a1,b1,rfl,e1,a2,b2,rfl,e2,e3⟩:=h
 obtain rfl:a1=_:=e1
 obtain rfl:a2=_:=e2
 obtain rfl:b2=[]:=e3
 rfl
theorem aee{g:GrD}(h:Rep r g.dat c)(k:g.ok):GrG r c g:=by
 obtain⟨a1,b1,rfl,e1,a2,b2,rfl,e2,a3,b3,rfl,e3,a4,b4,rfl,e4,a5,b5,rfl,e5,a6,b6,rfl,e6,a7,b7,rfl,e7,e8⟩:=h
 obtain rfl:a1=_:=e1
 obtain rfl:a2=_:=e2
 obtain rfl:a4=_:=e4
 obtain rfl:b7=[]:=e8
 obtain⟨v3,rfl,h3⟩:=kb (R:=afc) (λc x _ h=>ado h) e3 k.1
 obtain⟨v5,rfl,h5⟩:=kb (R:=TyC r) (λc x _ h=>TyG.of_rep h) e5 k.2.1
 obtain⟨v6,rfl,h6⟩:=kb (D:=Dat.str) (R:=afb) (λc x _ h=>h) e6 k.2.2.1
 obtain⟨v7,rfl,h7⟩:=kb (R:=PtG r) (λc x hx h=>aed h (k.2.2.2.2 x hx)) e7 k.2.2.2.1
 exact⟨v3,v5,v6,v7,rfl,h3,h5,h6,h7⟩
theorem aef{u:UnD}(h:Rep r u.dat c)(k:u.ok):UnG r (.agg c.toArray) u:=by
 obtain⟨a1,b1,rfl,e1,a2,b2,rfl,e2,a3,b3,rfl,e3,e4⟩:=h
 obtain rfl:a3=_:=e3
 obtain rfl:b3=[]:=e4
 obtain⟨q,cap,rfl,h1,h2,h3⟩:=e1
 obtain⟨vf,rfl,hf⟩:=kb (R:=GrG r) (λc x hx h=>aee h (k.2.2 x hx)) e2 k.2.1
 rw[List.length_map]at h2⊢
 exact⟨q,cap,vf,rfl,h1,h2,h3,k.1,hf⟩
def stepG(ss:List StD)(s:TyD×Int)(k:Int):Option (TyD×Int):=
 if k = -1∧s.1.k=3 then s.1.of.head?.map λu=>(u,max s.2 1)
 else if k = -1∧s.1.k=4 then s.1.of.head?.map λu=>(u,max s.2 (if s.1.m then 2 else 3))
 else if 0≤k∧s.1.k=5 then(ze ss s.1.st)[k.toNat]?.map λu=>(u,s.2)
 else none
def goG(ss:List StD):List Int→TyD×Int→Option (TyD×Int)
 |[],s=>some s
 |k::l,s=>(stepG ss s k).bind (goG ss l)
def zA(ss:List StD)(tys:List TyD)(p:PlD):TyD×Int×Bool:=
 match (if p.l<0 then none else tys[p.l.toNat]?).bind λt=>goG ss p.ps (t,0)with
 |some s=>(s.1,s.2,decide (p.ps.length≤8))
 |none=>(yk,0,false)
def kc:TyD:=⟨1,false,0,0,[]⟩
def aa5:TyD:=⟨2,false,0,0,[]⟩
def kC(p:PlD):Bool:=decide (p.l=0)&&decide (p.ps.length=0)
def YY(o:OpD):Bool:=(decide (o.k=0)&&decide (o.n=0))&&kC o.pl
def z7(ss:List StD)(tys:List TyD)(o:OpD):TyD×Bool:=
 if o.k=1 then(kc,kC o.pl)
 else if o.k=2 then(aa5,kC o.pl&&(decide (o.n=0)||decide (o.n=1)))
 else if o.k=3 then((zA ss tys o.pl).1,((zA ss tys o.pl).2.2&&decide (o.n=0))&&qW (zA ss tys o.pl).1)
 else if o.k=4 then((zA ss tys o.pl).1,(((zA ss tys o.pl).2.2&&decide (o.n=0)) && !qW (zA ss tys o.pl).1)&&decide ((zA ss tys o.pl).2.1<2))
 else(yk,false)
structure adp where
 to:Bool:=false
 a:Bool:=false
 b:Bool:=false
 args:Bool:=false
 sign:Bool:=false
 fr:Bool:=false
 mu:Bool:=false
 fn:Bool:=false
 st:Bool:=false
 el:Bool:=false
def kD(p:PtD)(h:adp):List Bool:=
 [h.to||kC p.to,h.a||YY p.a,h.b||YY p.b,h.args||decide (p.args.length=0),h.sign||(p.sign.toList == []),h.fr||kC p.fr,h.mu || !p.mu,h.fn||decide (p.fn=0),h.st||decide (p.st=0),h.el||decide (p.el=0)]
def zz(p:PtD)(h:adp):Bool:=(kD p h).all id
def ke(ss:List StD)(tys:List TyD):List OpD→List TyD→Bool
 |[],[]=>true
 |o::l,t::r=>((z7 ss tys o).2&&yw xj (z7 ss tys o).1 t)&&ke ss tys l r
 |_,_=>false
def VP(g:GrD)(q:Int):Bool:=decide (0≤q)&&decide (q<g.pts.length)
def isK(t:TyD)(k:Int):Bool:=decide (t.k=k)
def xc(s:ByteArray)(l:List (List UInt8)):Bool:=l.any λx=>s.toList == x
noncomputable def ptG(u:UnD)(g:GrD)(p:PtD):Bool:=
 let to:=zA u.ss g.tys p.to
 let fr:=zA u.ss g.tys p.fr
 let laid:=to.2.2&&decide (to.2.1<3)
 let a:=z7 u.ss g.tys p.a
 let b:=z7 u.ss g.tys p.b
 let ints:=isK a.1 1&&isK b.1 1
 if p.op=1 then((zz p { to:=true,a:=true } && laid)&&a.2)&&yw xj a.1 to.1
 else if p.op=2 then
  (zz p { to:=true,a:=true,b:=true,sign:=true } && (laid&&(a.2&&b.2))) &&
   (if xc p.sign [[43],[45],[42],[47],[37]]then isK to.1 1&&ints
    else if xc p.sign [[60],[60,61],[62],[62,61]]then isK to.1 2&&ints
    else if xc p.sign [[61,61],[33,61]]then isK to.1 2&&(ints||(isK a.1 2&&isK b.1 2))else false)
 else if p.op=3 then
  ((zz p { to:=true,a:=true,sign:=true } && laid)&&a.2) &&
   (if xc p.sign [[45]]then isK to.1 1&&isK a.1 1 else if xc p.sign [[33]]then isK to.1 2&&isK a.1 2 else false)
 else if p.op=4 then
  ((((zz p { to:=true,fr:=true,mu:=true } && laid)&&fr.2.2)&&isK to.1 4)&&decide (to.1.m=p.mu))&&(yw xj (to.1.of.headD yk) fr.1 && !(p.mu&&decide (fr.2.1=3)))
 else if p.op=5 then(((zz p { to:=true,a:=true } && laid)&&a.2)&&isK to.1 3)&&yw xj (to.1.of.headD yk) a.1
 else if p.op=6 then
  (((zz p { to:=true,args:=true,st:=true } && laid)&&isK to.1 5)&&decide (to.1.st=p.st))&&ke u.ss g.tys p.args (xu u.ss to.1).1
 else if p.op=7 then
  ((zz p { to:=true,args:=true,fn:=true } && laid)&&(decide (0≤p.fn)&&decide (p.fn<u.fs.length))) &&
   (match u.fs[p.fn.toNat]? with
    |some f=>yw xj to.1 (f.tys.headD yk)&&ke u.ss g.tys p.args ((f.tys.drop 1).take f.pn.toNat)
    |none=>false)
 else if p.op=8 then(zz p { to:=true } && laid)&&isK to.1 1
 else if p.op=9 then(zz p { a:=true } && a.2)&&isK a.1 1
 else if p.op=10 then((zz p { fr:=true } && fr.2.2)&&(Zu u.ss fr.1).1)&&decide (fr.2.1<2)
 else if p.op=11 then((zz p { fr:=true } && fr.2.2)&&decide (0<p.fr.l))&&decide (p.fr.ps.length=0)
 else if p.op=12 then((zz p { a:=true,el:=true } && a.2)&&isK a.1 2)&&VP g p.el
 else if p.op=13∨p.op=14 then zz p {}
 else false
noncomputable def yx(u:UnD)(g:GrD)(p:PtD):Bool:=
 !((decide (p.tx<0)||(!decide (p.op=14) && !VP g p.nx))||(decide (p.op=14) && !decide (p.nx=0)))&&ptG u g p
def js(x y:Int):List Int→Bool
 |[]=>false
 |a::l=>(decide (a=y)&&l.contains x)||js x y l
def jt(tys:List TyD)(x y:Int):Bool:=tys.any λt=>js x y (yJ t)
def jZ(outs:List (Int×Int))(x y:Int):Bool:=outs.contains (x,y)
def kE(lv:Int)(o:Int×Int):Bool:=!((decide (min o.1 o.2<0)||decide (lv≤max o.1 o.2))||decide (o.1=o.2))
def j0(o w:Int×Int):Bool:=decide (o.1<w.1)||(decide (o.1=w.1)&&decide (o.2<w.2))
def JZ:List (Int×Int)→Bool
 |a::b::l=>j0 a b&&JZ (b::l)
 |_=>true
def adq(n:Nat)(must says:Int→Int→Bool):Bool:=
 (List.range n).all λa:Nat=>(List.range n).all λb:Nat=>
  ((List.range n).all λc:Nat=>!((says a b&&says b c)&&(!decide (a=c) && !says a c))) && !(!decide (a=b)&&(must a b && !says a b))
def YZ(g:GrD):Bool:=
 (g.outs.all (kE g.lv)&&JZ g.outs)&&adq g.lv.toNat (jt (g.tys.take (g.pn.toNat+1))) (jZ g.outs)
noncomputable def tyG(u:UnD)(g:GrD)(i:Nat)(t:TyD):Bool:=
 yA u.ss t&&(yJ t).all λr=>!(decide (r<(if(i:Int)≤g.pn then 0 else -1))||decide (g.lv≤r))
noncomputable def jI(u:UnD)(g:GrD):Nat→List TyD→Bool
 |_,[]=>true
 |i,t::l=>tyG u g i t&&jI u g (i+1) l
def xa(l:List PtD):Nat:=l.countP λp=>decide (p.op=4)
noncomputable def kf(u:UnD)(fn:Nat)(g:GrD):Bool:=
 ((((((decide (0≤g.lv)&&decide (g.lv≤8))&&(decide (0≤g.pn)&&decide (g.pn≤8)))&&(decide (g.pn<g.tys.length)&&decide (g.tys.length≤512)))&&decide (g.nms.length=g.tys.length)) &&
  jI u g 0 g.tys)&&((decide (1≤g.pts.length)&&decide (g.pts.length≤1024))&&YZ g)) &&
  (decide (xa g.pts≤256)&&(!decide ((fn:Int)=u.mn)||((decide (g.lv=0)&&decide (g.pn=0))&&isK (g.tys.headD yk) 1)))
noncomputable def qj(u:UnD):Nat→List GrD→Option Nat
 |_,[]=>none
 |i,g::l=>if kf u i g then qj u (i+1) l else some i
noncomputable def vW(u:UnD)(g:GrD):Nat→List PtD→Option Nat
 |_,[]=>none
 |q,p::l=>if yx u g p then vW u g (q+1) l else some q
noncomputable def Zv(u:UnD):Nat→List GrD→Option (Nat×Nat)
 |_,[]=>none
 |i,g::l=>match vW u g 0 g.pts with|some q=>some (i,q)|none=>Zv u (i+1) l
noncomputable def qk(u:UnD):Int×Int×Int:=
 if !decide ((zC u.ss).2=0)||(decide (u.fs.length<1)||decide (32<u.fs.length))||(decide (u.mn<0)||decide ((u.fs.length:Int)≤u.mn))then(-1,-1,100)
 else match qj u 0 u.fs with
  |some i=>(i,-1,100)
  |none=>match Zv u 0 u.fs with
   |some (i,q)=>(i,q,100)
   |none=>(0,0,0)
noncomputable def VQ(u:UnD):Bool:=decide ((qk u).2.2=0)
theorem aeg:∀{n:Nat}{s s':Int}{m:Nat}{t:TyD},z6 s n t=true→n≤m→s≤s'→z6 s' m t=true:=by
 intro n
 induction n with
 |zero=>intro s s' m t h;cases h
 |succ n ih=>
  intro s s' m t h hm hs
  obtain⟨m,rfl⟩:∃k,m=k+1:=⟨m-1,by omega⟩
  have inn:inB s n t=true→inB s' m t=true:=by
   intro hi
   cases t with
   |mk k mm re st of=>
    cases of with
    |nil=>cases hi
    |cons u l=>exact ih (t:=u) hi (by omega) hs
  rw[vV]at h⊢
  split
  ·rename_i h1;rw[if_pos h1]at h;exact h
  ·rename_i h1;rw[if_neg h1]at h
   split
   ·rename_i h2;rw[if_pos h2]at h
    simp only[gba,gdt]at h⊢
    exact⟨h.1,by omega⟩
   ·rename_i h2;rw[if_neg h2]at h
    split
    ·rename_i h3;rw[if_pos h3]at h
     simp only[gba,gdt]at h⊢
     exact⟨h.1,h.2.1,inn h.2.2⟩
    ·rename_i h3;rw[if_neg h3]at h
     split
     ·rename_i h4;rw[if_pos h4]at h
      simp only[gba,gdt]at h⊢
      exact⟨h.1,h.2.1,inn h.2.2⟩
     ·rename_i h4;rw[if_neg h4]at h;cases h
def Fine(ss:List StD)(t:TyD):Prop:=z6 ss.length 48 t=true
theorem Fine.cases(h:Fine ss t):(t.of=[]∧(t.k=1∨t.k=2∨t.k=5))∨∃u,t.of=[u]∧Fine ss u∧(t.k=3∨t.k=4):=by
 rcases jo h with h|⟨u,h1,h2,h3⟩
 ·exact .inl h
 ·exact .inr ⟨u,h1,aeg h2 (by omega) (Int.le_refl _),h3⟩
theorem Fine.st(h:Fine ss t)(hk:t.k=5):0≤t.st∧t.st<ss.length:=by
 have:=Yv h hk
 exact⟨this.1,this.2.1⟩
theorem aeh(hg:qg ss){s:TyD×Int}{k:Int}{s':TyD×Int}(h:Fine ss s.1)(e:stepG ss s k=some s'):Fine ss s'.1:=by
 have inside:∀{f:TyD→TyD×Int},(∀u,(f u).1=u)→s.1.of.head?.map f=some s'→Fine ss s'.1:=by
  intro f hf e
  rcases h.cases with⟨h1,_⟩|⟨u,h1,h2,_⟩
  ·rw[h1]at e;cases e
  ·rw[h1]at e
   obtain rfl:=Option.some.inj e
   rw[hf];exact h2
 unfold stepG at e
 split at e
 ·exact inside (λ_=>rfl) e
 split at e
 ·exact inside (λ_=>rfl) e
 split at e
 ·rename_i h3
  cases hu:(ze ss s.1.st)[k.toNat]? with
  |none=>rw [hu]at e;cases e
  |some u=>
   rw[hu]at e
   obtain rfl:=Option.some.inj e
   exact hg _ u (List.mem_of_getElem? hu)
 ·cases e
theorem VR{ss:List StD}(hg:qg ss):∀{l:List Int}{s s':TyD×Int},Fine ss s.1→goG ss l s=some s'→Fine ss s'.1
 |[],s,s',h,e=>by obtain rfl:=Option.some.inj e;exact h
 |k::l,s,s',h,e=>by
  rw[goG]at e
  cases hs:stepG ss s k with
  |none=>rw [hs]at e;cases e
  |some s2=>rw [hs]at e;exact VR hg (aeh hg h hs) e
structure kg(ss:List StD)(tys:List TyD):Prop where
 few:ss.length≤32
 good:qg ss
 acy:∀k,¬Rch ss k k
 all:∀t∈tys,Fine ss t
theorem aei(h:kg ss tys){p:PlD}(ho:(zA ss tys p).2.2=true):Fine ss (zA ss tys p).1:=by
 unfold zA at ho⊢
 cases hb:(if p.l<0 then none else tys[p.l.toNat]?).bind λt=>goG ss p.ps (t,0)with
 |none=>rw [hb]at ho;cases ho
 |some s=>
  show Fine ss s.1
  split at hb
  ·cases hb
  ·cases ht:tys[p.l.toNat]? with
   |none=>rw [ht]at hb;cases hb
   |some t=>
    rw[ht]at hb
    exact VR h.good (h.all t (List.mem_of_getElem? ht)) hb
def afd:List Int→Int→List Int
 |[],_=>[]
 |k::l,c=>if k<0 then c::afd l (c+1)else k::afd l c
def afe:List Int→Int
 |[]=>0
 |k::l=>(if k<0 then 1 else 0)+afe l
def agI:List TyD→Int→List TyD
 |[],_=>[]
 |t::l,c=>t.lay (afd (yJ t) c)::agI l (c+afe (yJ t))
def aff:List TyD→Int
 |[]=>0
 |t::l=>afe (yJ t)+aff l
def ahS(u:UnD)(fn:Int):Int:=match u.fs[fn.toNat]? with|some g=>g.lv|none=>0
def ptN(u:UnD)(p:PtD):Int:=if p.op=4 then 1 else if p.op=7 then ahS u p.fn else 0
def atK(u:UnD):List PtD→Int→List Int
 |[],_=>[]
 |p::l,c=>(if ptN u p=0 then -1 else c)::atK u l (c+ptN u p)
def atC(u:UnD):List PtD→Int
 |[]=>0
 |p::l=>ptN u p+atC u l
structure RgD where
 lv:Int
 pt:Int
 ct:Int
 tys:List TyD
 at':List Int
def aej:RgD:=⟨0,0,0,[],[]⟩
def agJ(u:UnD)(g:GrD):RgD:=⟨g.lv,g.pts.length,g.lv+aff g.tys+atC u g.pts,agI g.tys g.lv,atK u g.pts (g.lv+aff g.tys)⟩
noncomputable def isU(u:UnD)(fn q:Int):Bool:=(decide (0≤fn)&&decide (fn<u.fs.length))&&(VQ u&&decide (q<((u.fs[fn.toNat]?.map λg=>(g.pts.length:Int)).getD 0)))
noncomputable def agK(u:UnD)(fn q:Int):RgD×Int:=
 if isU u fn q then(match u.fs[fn.toNat]? with|some g=>(agJ u g,0)|none=>(aej,2))else(aej,2)
instance {P:Program} {t e ty:TypeId} {a b:Int}:PStep P (Builtin.max_ #[t,e] ty #[.int .i64 a,.int .i64 b]) (.int .i64 (max a b)):=⟨λw=>Lib.run_max_ints w _ _ _ _ _ _⟩
instance (priority:=low) {P:Program} {t:TypeId} {c:Bool} {x:ByteArray} {m:List UInt8}:PStep P (yh .eql t c (.string x) (.string (bs m))) (.bool (x.toList == m)):=.of λ_ k=>
 yz (λw=>by rw[ae8 trivial,binOp_string_eql,aah m];rfl) k
theorem agL{P:Program}{s:Sem Value}(h:opQ P w s λv=>K v w):opW P w s K:=w_q (by
 obtain⟨v,h1,h2⟩:=h
 exact⟨v,h1,h2⟩)
theorem SlB.lt{R:List Value→α→Prop}{l:List α}(h:SlB sz r R v l):l.length≤9223372036854775807:=h.few
theorem Yd{a:Nat}:decide ((a:Int)=0)=decide (a=0):=decide_eq_decide.2 (by omega)
theorem kP{p:PlD}(hr:Holds r w)(hp:PlG r c p)(h:∀w',Ext w w'→K (.bool (kC p)) w'):
  zc Tryz.prog Tryz.xg #[.agg c.toArray] w K:=by
 obtain⟨v,rfl,hl⟩:=hp
 obtain⟨q,cap,rfl,_,_⟩:=hl.sl.shape
 refine Tryz.aaJ ?_
 unfold Tryz.XJ
 have S:=St.start hr
 refine S.box λb1 w1 S=>?_
 refine gG_ ?_
 refine zn (c:=decide (p.ps.length=0)) (λ_ K2 hK2=>?_) ?_
 ·refine gG_ ?_
  rw[Yd]
  exact hK2
 exact h _ S.ext
def AskG(r:Gh)(v:Value)(u:UnD)(g:GrD):Prop:=∃p cap vf vo vt vn vp,v=.agg #[.slice p u.ss.length cap,vf,.int .i64 u.mn,.string g.name,.int .i64 g.lv,vo,.int .i64 g.pn,vt,vn,vp]∧
 UnG r (.agg #[.slice p u.ss.length cap,vf,.int .i64 u.mn]) u∧GrG r [.string g.name,.int .i64 g.lv,vo,.int .i64 g.pn,vt,vn,vp] g
theorem AskG.up{u:UnD}{g:GrD}(h:AskG r v u g)[l:Le r s]:AskG s v u g:=by
 obtain⟨p,cap,vf,vo,vt,vn,vp,h0,h1,h2⟩:=h
 exact⟨p,cap,vf,vo,vt,vn,vp,h0,h1.up,h2.up⟩
abbrev tyL(t:TyD)(q:Option Addr)(cap:Nat):List Value:=[.int .u8 t.k,.bool t.m,.int .i64 t.re,.int .i64 t.st,.slice q t.of.length cap]
abbrev tyV(t:TyD)(q:Option Addr)(cap:Nat):Value:=.agg #[.int .u8 t.k,.bool t.m,.int .i64 t.re,.int .i64 t.st,.slice q t.of.length cap]
abbrev spL(t:TyD)(q:Option Addr)(cap:Nat)(m:Int)(ok:Bool):List Value:=[.int .u8 t.k,.bool t.m,.int .i64 t.re,.int .i64 t.st,.slice q t.of.length cap,.int .i64 m,.bool ok]
abbrev spV(t:TyD)(q:Option Addr)(cap:Nat)(m:Int)(ok:Bool):Value:=.agg #[.int .u8 t.k,.bool t.m,.int .i64 t.re,.int .i64 t.st,.slice q t.of.length cap,.int .i64 m,.bool ok]
theorem xP(h:TyG r (.agg c.toArray) t):∃q cap,c=tyL t q cap∧TyG r (tyV t q cap) t:=by
 obtain⟨p,cap,h1,_⟩:=Jj h
 subst h1
 exact⟨p,cap,rfl,h⟩
theorem J0{s uu:TyD}{q:Option Addr}{cap:Nat}(h:TyG r (tyV s q cap) s)(hof:s.of=[uu]):∃b off q2 cap2,q=some ⟨b,off,none⟩∧TyG r (tyV uu q2 cap2) uu∧∀j v,(tyL uu q2 cap2)[j]? = some v→Ob r λw=>w.cell? ⟨b,off+j,none⟩=some v:=by
 obtain⟨_,_,hE,_,_,hreps⟩:=h
 cases hE
 obtain⟨b,off,rfl,c,h1,h2,h3⟩:=NdG.of hreps (i:=0) (by rw[hof];exact Nat.one_pos)
 have h3:TyG r (.agg c.toArray) uu:=by simpa [hof]using h3
 obtain⟨q2,cap2,rfl,ht⟩:=xP h3
 exact⟨b,off,q2,cap2,rfl,ht,by simpa using h2⟩
theorem J1(ss:List StD):∀(l:List Int)(k:Int)(s:TyD×Int),goG ss (l++[k]) s=(goG ss l s).bind λs'=>stepG ss s' k
 |[],k,s=>by
  show(stepG ss s k).bind (goG ss [])=stepG ss s k
  cases stepG ss s k<;>rfl
 |x::l,k,s=>by
  rw[List.cons_append,goG,goG]
  cases h:stepG ss s x with
  |none=>rfl
  |some s'=>exact J1 ss l k s'
theorem aby{ss:List StD}:∀{l m:List Int}{s:TyD×Int},goG ss l s=none→goG ss (l++m) s=none
 |[],m,s,h=>by cases h
 |x::l,m,s,h=>by
  rw[List.cons_append,goG]
  rw[goG]at h
  cases hs:stepG ss s x with
  |none=>rfl
  |some s'=>rw [hs]at h;exact aby (l:=l) (m:=m) h
theorem aek{p:PlD}{i:Nat}(h0:0≤p.l)(ht:tys[p.l.toNat]? = some t)(h:goG ss (p.ps.take i) (t,0)=none):zA ss tys p=(yk,0,false):=by
 have:=aby (m:=p.ps.drop i) h
 rw[List.take_append_drop]at this
 unfold zA
 rw[if_neg (by omega),ht]
 show(match goG ss p.ps (t,0) with|some s=>(s.1,s.2,decide (p.ps.length≤8))|none=>(yk,0,false))=_
 rw[this]
theorem ael{p:PlD}{s:TyD×Int}(h0:0≤p.l)(ht:tys[p.l.toNat]? = some t)(h:goG ss p.ps (t,0)=some s):zA ss tys p=(s.1,s.2,decide (p.ps.length≤8)):=by
 unfold zA
 rw[if_neg (by omega),ht]
 show(match goG ss p.ps (t,0) with|some s=>(s.1,s.2,decide (p.ps.length≤8))|none=>(yk,0,false))=_
 rw[h]
theorem afg{p:PlD}(h:p.l<0∨(tys.length:Int)≤p.l):zA ss tys p=(yk,0,false):=by
 unfold zA
 by_cases h0:p.l<0
 ·rw[if_pos h0];rfl
 ·rw[if_neg h0,List.getElem?_eq_none (by omega)];rfl
theorem yV{u:UnD}{g:GrD}{p:PlD}{K:Value→World→Prop}{m:Int}{ok:Bool}(hr:Holds r w)(hx:AskG r v u g)(hf:kg u.ss g.tys)(hp:PlG r c p)(hsp:zA u.ss g.tys p=(t,m,ok))
  (h:∀q cap w',Ext w w'→TyG r (tyV t q cap) t→K (spV t q cap m ok) w'):zc Tryz.prog Tryz.zo #[v,.agg c.toArray] w K:=by
 obtain⟨p0,cap0,vf,vo,vt,vn,vp,rfl,hu,hg⟩:=hx
 obtain⟨_,_,_,_,hE,_,htys,_,_⟩:=hg
 cases hE
 obtain⟨_,_,_,hE,_,_,hst,_,_⟩:=hu
 cases hE
 obtain⟨qt,capt,rfl,_,_⟩:=htys.sl.shape
 obtain⟨v,rfl,hl⟩:=hp
 obtain⟨qs,caps,rfl,_,_⟩:=hl.sl.shape
 have hbl:=hl.lt
 refine Tryz.Xu ?_
 unfold Tryz.j8
 have S:=St.start hr
 refine S.box λb2 w1 S=>?_
 refine S.box λb3 w2 S=>?_
 refine S.al λb4 w3 S=>?_
 refine gG_ ?_
 refine zq (c:=decide ((g.tys.length:Int)≤p.l)) (λ_ K2 hK2=>?_) ?_
 ·refine gG_ ?_
  exact hK2
 refine c_b (λho=>?_) (λhi=>?_)
 ·have hz:=afg (ss:=u.ss) (tys:=g.tys) (p:=p) (by simpa using ho)
  rw[hz]at hsp;cases hsp
  refine zw (cs:=#[.int .u8 0,.bool false,.int .i64 0,.int .i64 0,.slice none 0 0,.int .i64 0,.bool false]) (by kernel_rfl) ?_
  refine S.stB (b:=b4) λw5 S=>?_
  refine gG_ ?_
  exact h none 0 _ S.ext Yu
 have hlo:0≤p.l∧p.l<g.tys.length:=by
  simp only[Bool.or_eq_false_iff,decide_eq_false_iff_not]at hi;omega
 clear hi
 have hlt0:p.l.toNat<g.tys.length:=by omega
 obtain⟨bt,ot,ct,rfl,hct,htc,hcell⟩:=htys.sl.get (by decide) hlt0
 obtain⟨t0,hti⟩:∃t0,g.tys[p.l.toNat]=t0:=⟨_,rfl⟩
 rw[hti]at htc
 have hq:g.tys[p.l.toNat]? = some t0:=by rw[gqg hlt0,hti]
 have hfi:Fine u.ss t0:=hf.all _ (List.mem_of_getElem? hq)
 obtain⟨q0,cap1,rfl,ht0⟩:=xP htc
 have S:=S.go (Ext.drew _)
 refine gG_ ?_
 refine zu (n:=5) hct (λj v hj=>S.at (hcell j v hj)) ?_
 refine gG_ ?_
 refine S.alU λb5 w10 S=>?_
 refine S.stB (b:=b5) λw11 S=>?_
 refine gG_ ?_
 have hok:decide (p.ps.length≤8)=decide ((p.ps.length:Int)≤8):=decide_eq_decide.2 (by omega)
 refine zj (ι:=Nat×TyD×Int×Option Addr×Nat) (λi=>[.int .i64 (i.1:Nat)]) (λi w'=>i.1≤p.ps.length∧goG u.ss (p.ps.take i.1) (t0,0)=some (i.2.1,i.2.2.1)∧TyG r (tyV i.2.1 i.2.2.2.1 i.2.2.2.2) i.2.1∧
  StX noX w r w' [.cell b5 (spL i.2.1 i.2.2.2.1 i.2.2.2.2 i.2.2.1 (decide ((p.ps.length:Int)≤8))) 228,.cell b4 [.int .u8 0,.bool false,.int .i64 0,.int .i64 0,.slice none 0 0,.int .i64 0,.bool false] 228,.cell b3 [.int .i64 p.l,.slice qs p.ps.length caps] 59,
   .cell b2 [.slice p0 u.ss.length cap0,vf,.int .i64 u.mn,.string g.name,.int .i64 g.lv,vo,.int .i64 g.pn,.slice (some ⟨bt,ot,none⟩) g.tys.length capt,vn,vp] 180]) (λi=>p.ps.length-i.1) (0,t0,0,q0,cap1) rfl ⟨gzl _,rfl,ht0,S⟩ ?_
 clear S
 rintro⟨i,s,m',q,cap⟩ d w15 ⟨hi,hgo,hs,S⟩ K6 hK6
 simp only at hi hgo hs S⊢
 rw[gdz]
 refine gG_ ?_
 refine c_b (λhlt=>?_) (λhge=>?_)
 rotate_left
 ·have hie:i=p.ps.length:=by
   have:=of_decide_eq_false hge;omega
  rw[hie,List.take_length]at hgo
  rw[ael hlo.1 hq hgo,hok]at hsp
  cases hsp
  refine gG_ ?_
  refine S.stB (b:=b4) λw16 S=>?_
  refine gG_ ?_
  exact h _ _ _ S.ext hs
 have hlt:i<p.ps.length:=by simpa using hlt
 have hsf:Fine u.ss s:=VR hf.good hfi hgo
 obtain⟨k,hke⟩:∃k,p.ps[i]=k:=⟨_,rfl⟩
 obtain⟨bs,os,cs,rfl,hcs,hck,hcl⟩:=hl.sl.get (by decide) hlt
 rw[hke]at hck
 obtain⟨rfl,hin⟩:=hck
 have hstep:goG u.ss (p.ps.take (i+1)) (t0,0)=stepG u.ss (s,m') k:=by
  rw[List.take_succ_eq_append_getElem hlt,J1,hgo,hke];rfl
 refine zs (λ_ w'=>∃s' m2 q' cap',stepG u.ss (s,m') k=some (s',m2)∧TyG r (tyV s' q' cap') s'∧
  StX noX w r w' [.cell b5 (spL s' q' cap' m2 (decide ((p.ps.length:Int)≤8))) 228,.cell b4 [.int .u8 0,.bool false,.int .i64 0,.int .i64 0,.slice none 0 0,.int .i64 0,.bool false] 228,.cell b3 [.int .i64 p.l,.slice (some ⟨bs,os,none⟩) p.ps.length caps] 59,
   .cell b2 [.slice p0 u.ss.length cap0,vf,.int .i64 u.mn,.string g.name,.int .i64 g.lv,vo,.int .i64 g.pn,.slice (some ⟨bt,ot,none⟩) g.tys.length capt,vn,vp] 180]) (λK16 hK16=>?_) ?_
 rotate_left
 ·rintro _ w19 ⟨s',m2,q',cap',h1,h2,S⟩ d2
  refine gG_ ?_
  rw[show ((i:Int)+1)=((i+1:Nat):Int)by omega]
  exact hK6 (i+1,s',m2,q',cap') _ ⟨hlt,hstep.trans h1,h2,S⟩ (by show p.ps.length-(i+1)<p.ps.length-i;omega)
 refine gG_ ?_
 refine zg (v:=.int .i64 k) (by simpa using S.at (hcl 0 _ rfl)) ?_
 refine gP_ ?_
 refine S.ldN (b:=b5) ?_
 refine S.al λb8 w20 S=>?_
 refine S.stB (b:=b8) λw21 S=>?_
 refine gG_ ?_
 refine zn (c:=decide (s.k=3)) (λ_ K2 hK2=>?_) ?_
 ·refine gG_ ?_
  exact hK2
 have down:(s.k=3∨s.k=4)→∃uu,s.of=[uu]:=by
  intro hk
  rcases hsf.cases with⟨_,h1⟩|⟨uu,h1,_⟩
  ·omega
  ·exact⟨uu,h1⟩
 refine c_b (λhB=>?_) (λhB=>?_)
 ·obtain⟨hk1,hk3⟩:k = -1∧s.k=3:=by simpa using hB
  obtain⟨uu,hof⟩:=down (.inl hk3)
  obtain⟨bo,oo,q2,cap2,rfl,ht2,hcc⟩:=J0 hs hof
  have hl1:s.of.length=1:=by rw[hof];rfl
  refine gG_ ?_
  refine S.st (b:=b5) λw26 S=>?_
  refine gG_ ?_
  refine zu (n:=5) (c:=tyL uu q2 cap2) rfl (λj v hj=>by simpa using S.at (hcc j v hj)) ?_
  refine gG_ ?_
  refine S.stN (b:=b5) λw27 S=>?_
  refine hK16 [] _ ⟨uu,max m' 1,q2,cap2,?_,ht2,S.drop b8⟩
  rw[stepG,if_pos ⟨hk1,hk3⟩,hof];rfl
 have hB:¬(k = -1∧s.k=3):=by simpa using hB
 refine gG_ ?_
 refine zn (c:=decide (s.k=4)) (λ_ K2 hK2=>?_) ?_
 ·refine gG_ ?_
  exact hK2
 refine c_b (λhR=>?_) (λhR=>?_)
 ·obtain⟨hk1,hk3⟩:k = -1∧s.k=4:=by simpa using hR
  obtain⟨uu,hof⟩:=down (.inr hk3)
  obtain⟨bo,oo,q2,cap2,rfl,ht2,hcc⟩:=J0 hs hof
  have hl1:s.of.length=1:=by rw[hof];rfl
  refine zs (λs' w'=>s'=[.int .i64 (if s.m then 2 else 3)]∧w'=w21) (λK7 hK7=>?_) ?_
  ·refine gG_ ?_
   refine c_b (λhm=>hK7 _ _ ⟨by rw[hm];rfl,rfl⟩) (λhm=>hK7 _ _ ⟨by rw[hm];rfl,rfl⟩)
  rintro _ _ ⟨rfl,rfl⟩ d3
  refine gG_ ?_
  refine S.st (b:=b5) λw26 S=>?_
  refine gG_ ?_
  refine zu (n:=5) (c:=tyL uu q2 cap2) rfl (λj v hj=>by simpa using S.at (hcc j v hj)) ?_
  refine gG_ ?_
  refine S.stN (b:=b5) λw27 S=>?_
  refine hK16 [] _ ⟨uu,max m' (if s.m then 2 else 3),q2,cap2,?_,ht2,S.drop b8⟩
  rw[stepG,if_neg (by omega),if_pos ⟨hk1,hk3⟩,hof];rfl
 have hR:¬(k = -1∧s.k=4):=by simpa using hR
 refine gG_ ?_
 refine zn (c:=decide (s.k=5)) (λ_ K2 hK2=>?_) ?_
 ·refine gG_ ?_
  exact hK2
 refine zn (c:=decide (k<(ze u.ss s.st).length)) (λh5 K2 hK2=>?_) ?_
 ·obtain⟨hk0,hk5⟩:0≤k∧s.k=5:=by simpa using h5
  obtain⟨hst0,hst1⟩:=hsf.st hk5
  have hslt:s.st.toNat<u.ss.length:=by omega
  obtain⟨b,off,q9,capq,rfl,hcell9,_,_,hfl⟩:=jW hst hslt
  have hlen:(ze u.ss s.st).length=u.ss[s.st.toNat].fs.length:=by
   rw[← XP hslt];simp only[ze,tnc]
  refine gG_ ?_
  refine zg (S.at hcell9) ?_
  refine gG_ ?_
  rw[← hlen]
  exact hK2
 refine c_b (λhS=>?_) (λhS=>?_)
 ·obtain⟨⟨hk0,hk5⟩,hkl⟩:(0≤k∧s.k=5)∧k<(ze u.ss s.st).length:=by simpa using hS
  obtain⟨hst0,hst1⟩:=hsf.st hk5
  have hslt:s.st.toNat<u.ss.length:=by omega
  obtain⟨b,off,q9,capq,rfl,hcell9,_,_,hfl⟩:=jW hst hslt
  have htl:ze u.ss s.st=u.ss[s.st.toNat].fs.map (·.2):=by
   rw[← kO hslt];simp only[ze,tnc]
  have hkf:k.toNat<u.ss[s.st.toNat].fs.length:=by
   rw[htl,List.length_map]at hkl;omega
  obtain⟨b9,off9,c9,rfl,hc9,hcell8,ht9⟩:=Qq hfl hkf
  obtain⟨q2,cap2,rfl,ht2⟩:=xP ht9
  refine gG_ ?_
  refine zg (S.at hcell9) ?_
  refine gG_ ?_
  refine zu (n:=5) (c:=tyL _ q2 cap2) rfl (λj v hj=>by have:=S.at (hcell8 (j+1) v hj);rwa[show off9+k.toNat*6+(j+1)=off9+k.toNat*6+1+j by omega]at this) ?_
  refine gG_ ?_
  refine S.stN (b:=b5) λw27 S=>?_
  refine hK16 [] _ ⟨_,m',q2,cap2,?_,ht2,S.drop b8⟩
  rw[stepG,if_neg (by omega),if_neg (by omega),if_pos ⟨hk0,hk5⟩,htl,List.getElem?_map,gqg hkf];rfl
 have hz:zA u.ss g.tys p=(yk,0,false):=by
  refine aek hlo.1 hq (i:=i+1) (hstep.trans ?_)
  rw[stepG,if_neg hB,if_neg hR]
  split
  ·rename_i h5
   rw[List.getElem?_eq_none];· rfl
   have :¬k<(ze u.ss s.st).length:=by
    intro hh
    have :((decide (0≤k)&&decide (s.k=5))&&decide (k<((ze u.ss s.st).length:Int)))=true:=by simp[h5,hh]
    rw[this]at hS;cases hS
   have h50:0≤k:=h5.1
   show(ze u.ss s.st).length≤k.toNat
   omega
  ·rfl
 rw[hz]at hsp;cases hsp
 refine gG_ ?_
 refine S.stB (b:=b4) λw16 S=>?_
 refine gG_ ?_
 exact h none 0 _ S.ext Yu
theorem Zw{k:Int}{m:Bool}{re st:Int}:TyG r (tyV (.mk k m re st []) none 0) (.mk k m re st []):=Yu
theorem xQ{u:UnD}{g:GrD}{o:OpD}{K:Value→World→Prop}{ok:Bool}(hr:Holds r w)(hx:AskG r v u g)(hf:kg u.ss g.tys)(ho:OpG r c o)(hop:z7 u.ss g.tys o=(t,ok))
  (h:∀q cap w',Ext w w'→TyG r (tyV t q cap) t→K (.tuple #[tyV t q cap,.bool ok]) w'):zc Tryz.prog Tryz.yr #[v,.agg c.toArray] w K:=by
 obtain⟨p0,cap0,vf,vo,vt,vn,vp,rfl,hu,hg⟩:=id hx
 obtain⟨vq,rfl,hl⟩:=ho
 obtain⟨qs,caps,rfl,_,_⟩:=hl.sl.shape
 have hpl:PlG r [.int .i64 o.pl.l,.slice qs o.pl.ps.length caps] o.pl:=⟨_,rfl,hl⟩
 refine Tryz.Z9 ?_
 unfold Tryz.qT
 have S:=St.start hr
 refine S.box λb2 w1 S=>?_
 refine S.box λb3 w2 S=>?_
 refine S.al λb4 w3 S=>?_
 refine gG_ ?_
 unfold z7 at hop
 refine zi (λh1=>?_) (λh1=>?_)
 ·rw[if_pos h1]at hop;cases hop
  refine gG_ ?_
  refine S.ldN (b:=b3) ?_
  refine kP S.holds hpl λw4 e4=>?_
  have S:=S.go e4
  refine S.stB (b:=b4) λw5 S=>?_
  refine gG_ ?_
  exact h none 0 _ S.ext Zw
 rw[if_neg h1]at hop
 refine gG_ ?_
 refine zi (λh2=>?_) (λh2=>?_)
 ·rw[if_pos h2]at hop;cases hop
  have S:=S.go (Ext.drew _)
  refine gG_ ?_
  refine S.ldN (b:=b3) ?_
  refine kP S.holds hpl λw44 e4=>?_
  have S:=S.go e4
  have fin:∀{w9:World},StX noX w r w9 [.cell b4 (tyL aa5 none 0) 112,.cell b3 [.int .u8 o.k,.int .i64 o.n,.int .i64 o.pl.l,.slice qs o.pl.ps.length caps] 61,.cell b2 (Value.agg #[.slice p0 u.ss.length cap0,vf,.int .i64 u.mn,.string g.name,.int .i64 g.lv,vo,.int .i64 g.pn,vt,vn,vp]).cells.toList 180]→∀x,x=(kC o.pl&&(decide (o.n=0)||decide (o.n=1)))→
    K (.tuple #[tyV aa5 none 0,.bool x]) w9:=by
   intro w9 S x hx
   subst hx
   exact h none 0 _ S.ext Zw
  have st:∀{w8:World}{K:World→Prop},StX noX w r w8 [.cell b4 [.int .u8 0,.bool false,.int .i64 0,.int .i64 0,.slice none 0 0] 112,.cell b3 [.int .u8 o.k,.int .i64 o.n,.int .i64 o.pl.l,.slice qs o.pl.ps.length caps] 61,.cell b2 (Value.agg #[.slice p0 u.ss.length cap0,vf,.int .i64 u.mn,.string g.name,.int .i64 g.lv,vo,.int .i64 g.pn,vt,vn,vp]).cells.toList 180]→
    (∀w9,StX noX w r w9 [.cell b4 (tyL aa5 none 0) 112,.cell b3 [.int .u8 o.k,.int .i64 o.n,.int .i64 o.pl.l,.slice qs o.pl.ps.length caps] 61,.cell b2 (Value.agg #[.slice p0 u.ss.length cap0,vf,.int .i64 u.mn,.string g.name,.int .i64 g.lv,vo,.int .i64 g.pn,vt,vn,vp]).cells.toList 180]→K w9)→
    opU Tryz.prog w8 (Instr.storeAt 112 (.pointer (some ⟨b4,0,none⟩)) (.agg #[.int .u8 2,.bool false,.int .i64 0,.int .i64 0,.slice none 0 0])) K:=by
   intro w8 K S hK
   exact S.stB (b:=b4) λw9 S=>hK w9 S
  cases hz:kC o.pl with
  |false=>
   (intro K9 hK9;refine gD_ ?_;refine hK9 _ _ λ_=>?_;clear hK9 K9)
   (intro K9 hK9;refine gD_ ?_;refine hK9 _ _ λ_=>?_;clear hK9 K9)
   refine⟨?_,?_⟩
   ·(intro K9 hK9;refine gD_ ?_;refine hK9 _ _ λ_=>?_;clear hK9 K9)
    (intro K9 hK9;refine gD_ ?_;refine hK9 _ _ λ_=>?_;clear hK9 K9)
    refine gD_ ?_
    refine st S λw9 S=>?_
    refine gG_ ?_
    exact fin S _ (by rw[hz]<;>rfl)
   ·refine st S λw9 S=>?_
    (intro K9 hK9;refine gD_ ?_;refine hK9 _ _ λ_=>?_;clear hK9 K9)
    (intro K9 hK9;refine gD_ ?_;refine hK9 _ _ λ_=>?_;clear hK9 K9)
    refine gD_ ?_
    exact fin S _ (by rw[hz]<;>rfl)
  |true=>
   by_cases hn0:o.n=0
   ·refine zs (λs w'=>s=[.bool true]∧w'=w44) (λK9 hK9=>?_) ?_
    ·refine gD_ ?_
     rw[gde hn0]
     exact hK9 _ _ ⟨rfl,rfl⟩
    rintro _ w44 ⟨rfl,rfl⟩ d1
    (intro K9 hK9;refine gD_ ?_;refine hK9 _ _ λ_=>?_;clear hK9 K9)
    refine⟨?_,?_⟩
    ·(intro K9 hK9;refine gD_ ?_;refine hK9 _ _ λ_=>?_;clear hK9 K9)
     (intro K9 hK9;refine gD_ ?_;refine hK9 _ _ λ_=>?_;clear hK9 K9)
     refine gD_ ?_
     refine st S λw9 S=>?_
     refine gG_ ?_
     exact fin S _ (by rw[hz,hn0]<;>rfl)
    ·refine st S λw9 S=>?_
     (intro K9 hK9;refine gD_ ?_;refine hK9 _ _ λ_=>?_;clear hK9 K9)
     (intro K9 hK9;refine gD_ ?_;refine hK9 _ _ λ_=>?_;clear hK9 K9)
     refine gD_ ?_
     exact fin S _ (by rw[hz,hn0]<;>rfl)
   ·refine zs (λs w'=>s=[.bool false]∧w'=w44) (λK9 hK9=>?_) ?_
    ·refine gD_ ?_
     rw[decide_eq_false hn0]
     exact hK9 _ _ ⟨rfl,rfl⟩
    rintro _ w44 ⟨rfl,rfl⟩ d1
    (intro K9 hK9;refine gD_ ?_;refine hK9 _ _ λ_=>?_;clear hK9 K9)
    refine⟨?_,?_⟩
    ·refine zs (λs w'=>s=[.bool (decide (o.n=1))]∧w'=w44) (λK9 hK9=>?_) ?_
     ·refine gD_ ?_
      refine agL ?_
      refine gD_ ?_
      exact hK9 _ _ ⟨rfl,rfl⟩
     rintro _ w44 ⟨rfl,rfl⟩ d1
     (intro K9 hK9;refine gD_ ?_;refine hK9 _ _ λ_=>?_;clear hK9 K9)
     refine gD_ ?_
     refine st S λw9 S=>?_
     refine gG_ ?_
     exact fin S _ (by rw[hz,decide_eq_false hn0];first|rfl|simp)
    ·refine st S λw9 S=>?_
     refine zs (λs w'=>s=[.bool (decide (o.n=1))]∧w'=w9) (λK9 hK9=>?_) ?_
     ·refine gD_ ?_
      refine agL ?_
      refine gD_ ?_
      exact hK9 _ _ ⟨rfl,rfl⟩
     rintro _ w44 ⟨rfl,rfl⟩ d1
     (intro K9 hK9;refine gD_ ?_;refine hK9 _ _ λ_=>?_;clear hK9 K9)
     refine gD_ ?_
     exact fin S _ (by rw[hz,decide_eq_false hn0];first|rfl|simp)
 rw[if_neg h2]at hop
 obtain⟨sty,sm,sok,hsp⟩:∃sty sm sok,zA u.ss g.tys o.pl=(sty,sm,sok):=⟨_,_,_,rfl⟩
 simp only[hsp]at hop
 refine gG_ ?_
 refine S.ldN (b:=b3) ?_
 refine yV S.holds hx hf hpl hsp λq cap w5 e5 ht=>?_
 have S:=S.go e5
 refine S.al λb6 w6 S=>?_
 refine S.stB (b:=b6) λw7 S=>?_
 refine gG_ ?_
 refine zn (c:=decide (o.n=0)) (λ_ K2 hK2=>?_) ?_
 ·refine gG_ ?_
  exact hK2
 refine gG_ ?_
 refine zi (λh3=>?_) (λh3=>?_)
 ·rw[if_pos h3]at hop;cases hop
  have S:=S.go (Ext.drew _)
  refine gP_ ?_
  refine S.ldN (b:=b6) ?_
  refine zR (c:=qW t) (λ_ K2 hK2=>?_) λw9 e9=>?_
  ·refine gP_ ?_
   refine S.ldN (b:=b6) ?_
   exact Yt S.holds ht λw9 e9=>⟨e9,hK2 _ e9⟩
  have S:=S.go e9
  refine S.stB (b:=b4) λw10 S=>?_
  refine gG_ ?_
  exact h _ _ _ S.ext ht
 rw[if_neg h3]at hop
 refine gG_ ?_
 refine zi (λh4=>?_) (λh4=>?_)
 ·rw[if_pos h4]at hop;cases hop
  have S:=S.go (Ext.drew _)
  refine gP_ ?_
  refine S.ldN (b:=b6) ?_
  refine zR (c:=!qW t) (λ_ K2 hK2=>?_) λw9 e9=>?_
  ·refine gP_ ?_
   refine S.ldN (b:=b6) ?_
   refine Yt S.holds ht λw9 e9=>⟨e9,?_⟩
   refine gP_ ?_
   exact hK2 _ e9
  have S:=S.go e9
  cases hb:((sok&&decide (o.n=0)) && !qW t)with
  |false=>
   (intro K9 hK9;refine gD_ ?_;refine hK9 _ _ λ_=>?_;clear hK9 K9)
   refine⟨?_,?_⟩
   ·(intro K9 hK9;refine gD_ ?_;refine hK9 _ _ λ_=>?_;clear hK9 K9)
    refine gD_ ?_
    refine S.stB (b:=b4) λw10 S=>?_
    refine gG_ ?_
    have:=h _ _ _ S.ext ht
    rwa[hb]at this
   ·refine S.stB (b:=b4) λw10 S=>?_
    (intro K9 hK9;refine gD_ ?_;refine hK9 _ _ λ_=>?_;clear hK9 K9)
    refine gD_ ?_
    have:=h _ _ _ S.ext ht
    rwa[hb]at this
  |true=>
   (intro K9 hK9;refine gD_ ?_;refine hK9 _ _ λ_=>?_;clear hK9 K9)
   refine⟨?_,?_⟩
   ·refine zs (λs w'=>s=[.bool (decide (sm<2))]∧w'=w9) (λK9 hK9=>?_) ?_
    ·refine gD_ ?_
     refine Z3 ?_
     refine gD_ ?_
     exact hK9 _ _ ⟨rfl,rfl⟩
    rintro _ _ ⟨rfl,rfl⟩ d1
    refine gD_ ?_
    refine S.stB (b:=b4) λw10 S=>?_
    refine gG_ ?_
    have:=h _ _ _ S.ext ht
    rwa[hb]at this
   ·refine S.stB (b:=b4) λw10 S=>?_
    refine zs (λs w'=>s=[.bool (decide (sm<2))]∧w'=w10) (λK9 hK9=>?_) ?_
    ·refine gD_ ?_
     refine Z3 ?_
     refine gD_ ?_
     exact hK9 _ _ ⟨rfl,rfl⟩
    rintro _ _ ⟨rfl,rfl⟩ d1
    refine gD_ ?_
    have:=h _ _ _ S.ext ht
    rwa[hb]at this
 rw[if_neg h4]at hop;cases hop
 refine gG_ ?_
 refine S.stB (b:=b4) λw10 S=>?_
 refine gG_ ?_
 exact h none 0 _ S.ext Zw
theorem J2{x:Bool}{p:Option Addr}{l:List Bool}{cap:Nat}(hl:Sl w p (l.map Value.bool))(hb:l.length≤1000000000)(h:K (.bool (l.contains x)) w):
  zc Tryz.prog Tryz.yT #[.slice p l.length cap,.bool x] w K:=by
 refine Tryz.jG ?_
 unfold Tryz.xY
 refine Tryz.vU ?_
 unfold Tryz.kM
 refine gP_ ?_
 refine zj (ι:=Nat) (λi=>[.int .i64 (i:Nat)]) (λi w'=>w'=w∧i≤l.length∧(l.take i).contains x=false) (λi=>l.length-i) 0 rfl ⟨rfl,gzl _,by simp⟩ ?_
 rintro i d w' ⟨rfl,hi,hn⟩ K6 hK6
 simp only[gdz]
 refine gP_ ?_
 refine zi (λhlt=>?_) (λhge=>?_)
 ·have hlt:i<l.length:=by omega
  obtain⟨b,off,rfl,hc⟩:=hl.at (i:=i) (by rw[List.length_map];exact hlt)
  refine gP_ ?_
  have hv:(l.map Value.bool)[i]'(by rw[List.length_map];exact hlt)=.bool l[i]:=by simp
  rw[hv]at hc
  refine zg (by simpa using hc) ?_
  refine gP_ ?_
  have ht:(l.take (i+1)).contains x=((l.take i).contains x||(x == l[i])):=by
   rw[List.take_succ_eq_append_getElem hlt];simp only[List.contains_eq_any_beq,List.any_append,List.any_cons,List.any_nil,Bool.or_false]
  refine c_b (λhy=>?_) (λhno=>?_)
  ·refine gP_ ?_
   rw[show decide ((i:Int)≥0)=true by simp]
   have :l.contains x=true:=List.contains_iff_mem.2 (by rw[eq_of_beq hy];exact gem hlt)
   rwa[this]at h
  ·refine gP_ ?_
   refine hK6 (i+1) _ ⟨rfl,hlt,?_⟩ (by omega)
   rw[ht,hn,hno];rfl
 ·have :i=l.length:=by omega
  subst this
  rw[List.take_length]at hn
  refine gP_ ?_
  rwa[hn]at h
theorem Yx{o:OpD}(hr:Holds r w)(ho:OpG r c o)(h:∀w',Ext w w'→K (.bool (YY o)) w'):
  zx Tryz.prog (.func (.func Tryz.Yk) #[] #[]) #[.agg c.toArray] w K:=by
 obtain⟨vq,rfl,hl⟩:=ho
 obtain⟨qs,caps,rfl,_,_⟩:=hl.sl.shape
 have hpl:PlG r [.int .i64 o.pl.l,.slice qs o.pl.ps.length caps] o.pl:=⟨_,rfl,hl⟩
 refine adl (by kernel_rfl) ?_
 refine Tryz.JS ?_
 unfold Tryz.Yo
 have S:=St.start hr
 refine S.box λb1 w1 S=>?_
 refine gG_ ?_
 refine zn (c:=decide (o.n=0)) (λ_ K2 hK2=>?_) ?_
 ·refine gG_ ?_
  exact hK2
 refine zR (c:=kC o.pl) (λ_ K2 hK2=>?_) λw3 e3=>h _ (S.go e3).ext
 refine gP_ ?_
 refine S.ldN (b:=b1) ?_
 exact kP S.holds hpl λw3 e3=>hK2 _ e3
abbrev ahT(h:adp):Value:=.agg #[.bool h.to,.bool h.a,.bool h.b,.bool h.args,.bool h.sign,.bool h.fr,.bool h.mu,.bool h.fn,.bool h.st,.bool h.el]
theorem abz(l:List Bool):(!l.contains false)=l.all id:=by
 induction l with
 |nil=>rfl
 |cons x l ih=>
  rw[List.contains_cons,List.all_cons,← ih]
  cases x<;>simp
theorem zV{p:PtD}{f:adp}(hr:Holds r w)(hp:PtG r c p)(h:∀w',Ext w w'→K (.bool (zz p f)) w'):
  zc Tryz.prog Tryz.zK #[.agg c.toArray,ahT f] w K:=by
 obtain⟨vt,va,vb,vl,vf,rfl,h1,h2,h3,h4,h5⟩:=hp
 obtain⟨qt,capt,rfl,_,_⟩:=h1.sl.shape
 obtain⟨qa,capa,rfl,_,_⟩:=h2.sl.shape
 obtain⟨qb,capb,rfl,_,_⟩:=h3.sl.shape
 obtain⟨ql,capl,rfl,_,_⟩:=h4.sl.shape
 obtain⟨qf,capf,rfl,_,_⟩:=h5.sl.shape
 refine Tryz.aaI ?_
 unfold Tryz.XI
 have S:=St.start hr
 refine S.box λb2 w1 S=>?_
 refine S.box λb3 w2 S=>?_
 have S:=S.go (Ext.drew _)
 refine gG_ ?_
 refine je (c:=kC p.to) (λ_ K2 hK2=>?_) λw4 e4=>?_
 ·refine gP_ ?_
  refine S.ldN (b:=b2) ?_
  exact kP S.holds ⟨_,rfl,h1⟩ λw3 e3=>⟨e3,hK2 _ e3⟩
 have S:=S.go e4
 refine je (c:=YY p.a) (λ_ K2 hK2=>?_) λw5 e5=>?_
 ·refine gP_ ?_
  refine S.ldN (b:=b2) ?_
  exact Yx S.holds ⟨_,rfl,h2⟩ λw3 e3=>⟨e3,hK2 _ e3⟩
 have S:=S.go e5
 refine je (c:=YY p.b) (λ_ K2 hK2=>?_) λw5 e5=>?_
 ·refine gP_ ?_
  refine S.ldN (b:=b2) ?_
  exact Yx S.holds ⟨_,rfl,h3⟩ λw3 e3=>⟨e3,hK2 _ e3⟩
 have S:=S.go e5
 refine zq (c:=decide (p.args.length=0)) (λ_ K2 hK2=>?_) ?_
 ·refine gG_ ?_
  rw[Yd]
  exact hK2
 refine zq (c:=p.sign.toList == []) (λ_ K2 hK2=>?_) ?_
 ·refine gG_ ?_
  exact hK2
 refine je (c:=kC p.fr) (λ_ K2 hK2=>?_) λw4 e4=>?_
 ·refine gP_ ?_
  refine S.ldN (b:=b2) ?_
  exact kP S.holds ⟨_,rfl,h5⟩ λw3 e3=>⟨e3,hK2 _ e3⟩
 have S:=S.go e4
 refine zq (c:=!p.mu) (λ_ K2 hK2=>?_) ?_
 ·refine gG_ ?_
  exact hK2
 refine zq (c:=decide (p.fn=0)) (λ_ K2 hK2=>?_) ?_
 ·refine gG_ ?_
  exact hK2
 refine zq (c:=decide (p.st=0)) (λ_ K2 hK2=>?_) ?_
 ·refine gG_ ?_
  exact hK2
 refine zq (c:=decide (p.el=0)) (λ_ K2 hK2=>?_) ?_
 ·refine gG_ ?_
  exact hK2
 refine S.lit (e:=4) (cs:=(kD p f).map Value.bool) (by kernel_rfl) λb80 w80 S=>?_
 refine J2 (l:=kD p f) (x:=false) (Sl.blk (S.blk b80)) (by simp[kD]) ?_
 refine gP_ ?_
 rw[abz]
 exact h _ S.ext
end
end Go.Proofs
namespace Go.Sh
section
section
variable {w:World} {Z:Value→World→Prop} {b c:Bool}
theorem VS{g:Bool}{A:(List Value→World→Prop)→World→Prop}{G:(List Value→World→Prop)→Prop}(hG:b=false→∀K:List Value→World→Prop,K [.bool g] w→G K)(hA:g=true→∀K:List Value→World→Prop,K [.bool c] w→A K w)(hZ:Z (.bool (b||(g&&c))) w):
  za (λK1=>gIf (.bool b) false (G K1) (K1 [u_] w)) λs1 _ w1=>
   za (λK2=>gIf (s1.getD 0 u_) true (A K2 w1) (K2 [u_] w1)) λs2 _ w2=>
    za (λK3=>gIf (.bool b) false (zd (s1.getD 0 u_) (s2.getD 0 u_) (.bool false) λt=>K3 [t] w2) (K3 [u_] w2)) λs3 _ w3=>
     zd (.bool b) (.bool true) (s3.getD 0 u_) λt=>Z t w3:=by
 intro K1 hK1
 cases b with
 |true=>
  refine hK1 _ _ λ_=>?_
  intro K2 hK2
  refine hK2 _ _ λ_=>?_
  intro K3 hK3
  refine hK3 _ _ λ_=>⟨true,rfl,?_⟩
  rw[Bool.true_or]at hZ;exact hZ
 |false=>
  refine hG rfl _ (hK1 _ _ λ_=>?_)
  intro K2 hK2
  cases g with
  |true=>
   refine hA rfl _ (hK2 _ _ λ_=>?_)
   intro K3 hK3
   refine⟨true,rfl,hK3 _ _ λ_=>⟨false,rfl,?_⟩⟩
   rw[Bool.false_or,Bool.true_and]at hZ;exact hZ
  |false=>
   refine hK2 _ _ λ_=>?_
   intro K3 hK3
   refine⟨false,rfl,hK3 _ _ λ_=>⟨false,rfl,?_⟩⟩
   rw[Bool.false_or,Bool.false_and]at hZ;exact hZ
end
theorem acl{P:Program}{K:Value→Prop}{t e:TypeId}{n:Nat}{p:Option Addr}{len cap:Nat}{kd kd':IntKind}{a b:Int}(h:slT P t=some (e,n))(h0:0≤a)(h1:a≤b)(h2:b≤cap)
  (k:K (.slice (if cap=a.toNat then p else p.map (·.add (a.toNat*n))) (b.toNat-a.toNat) (cap-a.toNat))):opP P (Instr.sliceAt t (.slice p len cap) (some (.int kd a)) (some (.int kd' b)) none) K:=by
 refine yz (λw=>?_) k
 unfold slT at h
 cases hu:P.underlying t with
 |none=>rw [hu]at h;cases h
 |some d=>
  rw[hu]at h
  cases d<;>first|cases h|skip
  rename_i e'
  simp only[Option.map_eq_some_iff,Prod.mk.injEq]at h
  obtain⟨m,hs,rfl,rfl⟩:=h
  have h3:0≤b:=by omega
  have h5:a≤max b 0:=by omega
  simp[Instr.sliceAt,Instr.slice,Instr.sliceBounds,Instr.sliceBound,asIntOf,Sem.run_bind,zr hu,Result.andThen,Sem.run,pure,h0,h2,h3,h5,zJ hs]
instance {P:Program} {t e:TypeId} {n:Nat} {p:Option Addr} {len cap:Nat} {i j:IntKind} {a b:Int} [h:SlT P t e n]:PCond P (Instr.sliceAt t (.slice p len cap) (some (.int i a)) (some (.int j b)) none) (.slice (if cap=a.toNat then p else p.map (·.add (a.toNat*n))) (b.toNat-a.toNat) (cap-a.toNat)) (0≤a∧a≤b∧b≤cap):=
 .of λx _ k=>acl (e:=e) (n:=n) h.h x.1 x.2.1 x.2.2 k
theorem StX.holdW{X:Nat→Prop}{w0 w:World}{r:Gh}{L:List Asr}(S:StX X w0 r w L)(b:Nat){c:List Value}{T:TypeId}{f:List Value→List Asr}[h:At b L c T f]:Holds (r.or (Go.Sh.one b c T)) w:=S.holds.or (xV (S.blk b))
end
end Go.Sh
namespace Go.Proofs
open Go.Sh
section
section
variable {X:Nat→Prop} {w0 w:World} {r:Gh} {L:List Asr}
theorem aal{x n:Int}{b:Nat}{f:List Value→List Asr}{K:Value→World→Prop}(S:StX X w0 r w L)[At b L [.int .i64 n] 3 f](h:K (.bool (decide (0≤x)&&decide (x<n))) w):
  zx Tryz.prog (.func (.func Tryz.qO) #[] #[.pointer (some ⟨b,0,none⟩)]) #[.int .i64 x] w K:=by
 refine JV (by kernel_rfl) ?_
 refine Tryz.Z8 ?_
 unfold Tryz.qS
 refine gP_ ?_
 refine zn (c:=decide (x<n)) (λ_ K2 hK2=>?_) h
 refine S.ld (b:=b) ?_ rfl
 refine gP_ ?_
 exact hK2
end
theorem yb{t:TyD}{q:Option Addr}{cap:Nat}{k:Int}{w:World}{r:Gh}{K:Value→World→Prop}(hr:Holds r w)(h:∀w',Ext w w'→K (.bool (isK t k)) w'):
  zx Tryz.prog (.func (.func Tryz.qP) #[] #[]) #[tyV t q cap,.int .u8 k] w K:=by
 refine aa4 (by kernel_rfl) ?_
 refine Tryz.Ya ?_
 unfold Tryz.qU
 have S:=St.start hr
 refine S.box λb1 w1 S=>?_
 refine gG_ ?_
 exact h _ S.ext
theorem acm{u:UnD}{g:GrD}{o:OpD}{t:TyD}{b2:Nat}{c c2:List Value}{q:Option Addr}{cap:Nat}{w:World}{r:Gh}{K:Value→World→Prop}(hr:Holds r w)(hb2:Ob r λw=>Blk w b2 c2 180)(hx:AskG r (.agg c2.toArray) u g)
  (hc2:c2.length=10) (hf:kg u.ss g.tys) (ho:OpG r c o) (hc:c.length=4) (ht:TyG r (tyV t q cap) t)
  (h:∀w',Ext w w'→K (.bool ((z7 u.ss g.tys o).2&&yw xj (z7 u.ss g.tys o).1 t)) w'):
  zx Tryz.prog (.func (.func Tryz.k6) #[] #[.pointer (some ⟨b2,0,none⟩)]) #[.agg c.toArray,tyV t q cap] w K:=by
 refine adm (by kernel_rfl) ?_
 refine Tryz.Zq ?_
 unfold Tryz.k7
 have S:=St.start hr
 refine S.box λb3 w1 S=>?_
 refine S.box λb4 w2 S=>?_
 refine zu (n:=10) (c:=c2) hc2 (λj v hj=>by rw[Nat.zero_add,(S.at hb2).cell];exact hj) ?_
 refine S.ldB (b:=b3) ?_ hc
 obtain⟨t1,ok,hop⟩:∃t1 ok,z7 u.ss g.tys o=(t1,ok):=⟨_,_,rfl⟩
 rw[hop]at h
 refine xQ S.holds hx hf ho hop λq1 cap1 w3 e3 ht1=>?_
 have S:=S.go e3
 refine gP_ ?_
 refine gP_ ?_
 refine S.al λb6 w4 S=>?_
 refine S.stB (b:=b6) λw5 S=>?_
 refine zR (c:=yw xj t1 t) (λ_ K2 hK2=>?_) λw9 e9=>h _ (S.go e9).ext
 refine S.ldB (b:=b6) ?_ rfl
 refine S.ldB (b:=b4) ?_ rfl
 exact kj S.holds ht1 ht λw9 e9=>hK2 _ e9
theorem Y0{ss:List StD}{tys:List TyD}{o:OpD}{l:List OpD}{t:TyD}{r:List TyD}:ke ss tys (o::l) (t::r)=(((z7 ss tys o).2&&yw xj (z7 ss tys o).1 t)&&ke ss tys l r):=rfl
theorem aam{ss:List StD}{tys:List TyD}:∀{l:List OpD}{r:List TyD},l.length≠r.length→ke ss tys l r=false
 |[],[],h=>absurd rfl h
 |[],_::_,_=>rfl
 |_::_,[],_=>rfl
 |o::l,t::r,h=>by rw[Y0,aam (by simpa using h),Bool.and_false]
theorem TysG.up{s t:Gh}{q:Option Addr}{ts:List TyD}(h:TysG s q ts)[l:Le s t]:TysG t q ts:=λi hi=>by
 obtain⟨b,off,c,h1,h2,h3,h4⟩:=h i hi
 exact⟨b,off,c,h1,h2,λj v hj=>(h3 j v hj).up,h4.up⟩
theorem Qr{r:Gh}{q:Option Addr}{n cap:Nat}{ts:List TyD}(h:SlG 5 r (TyC r) (.slice q n cap) ts):TysG r q ts:=λi hi=>by
 obtain⟨b,off,c,h1,h2,h3,h4⟩:=h.get (by decide) hi
 exact⟨b,off,c,h1,h2,h4,h3⟩
theorem afh{top:Gh}{gs:Nat→Gh}{q:Option Addr}{ts:List TyD}(h:agG top gs q ts):TysG (top.or (un gs 0 ts.length)) q ts:=λi hi=>by
 obtain⟨b,off,c,h1,h2,h3,h4,_⟩:=h.at' i hi
 exact⟨b,off,c,h1,h2,λj v hj=>(h3 j v hj).up,TyG.up h4 (l:=⟨λb o hb=>.inr ⟨i,gzl _,hi,hb⟩⟩)⟩
theorem TysG.sub{s:Gh}{q:Option Addr}{ts:List TyD}(h:TysG s q ts){a n cap:Nat}(hc:ts.length≤cap):TysG s (if cap=a then q else q.map (·.add (a*5))) ((ts.drop a).take n):=λi hi=>by
 rw[List.length_take,List.length_drop]at hi
 obtain⟨b,off,c,h1,h2,h3,h4⟩:=h (a+i) (by omega)
 refine⟨b,off+a*5,c,?_,h2,λj v hj=>?_,?_⟩
 ·rw[if_neg (by omega),h1,Option.map_some,y0]
 ·have:=h3 j v hj
  rwa[show off+(a+i)*5+j=off+a*5+i*5+j by omega]at this
 ·rw[List.getElem_take,List.getElem_drop];exact h4
theorem aan{u:UnD}{g:GrD}{p:PtD}{l:List TyD}{b2 b3:Nat}{c2 c3:List Value}{ql:Option Addr}{capl:Nat}{w:World}{r:Gh}{K:Value→World→Prop}(hr:Holds r w)(hb2:Ob r λw=>Blk w b2 c2 180)(hb3:Ob r λw=>Blk w b3 c3 94)(hx:AskG r (.agg c2.toArray) u g)
  (hc2:c2.length=10) (hf:kg u.ss g.tys) (hp:PtG r c3 p) (hl:TysG r ql l)
  (h:∀w',Ext w w'→K (.bool (ke u.ss g.tys p.args l)) w'):
  zx Tryz.prog (.func (.func Tryz.qQ) #[] #[.pointer (some ⟨b3,0,none⟩),.pointer (some ⟨b2,0,none⟩)]) #[.slice ql l.length capl] w K:=by
 refine aa3 (by kernel_rfl) ?_
 refine Tryz.Yb ?_
 unfold Tryz.qV
 obtain⟨vt,va,vb,va',vf,rfl,h1,h2,h3,h4,h5⟩:=hp
 obtain⟨qa,capa,rfl,_,_⟩:=h4.sl.shape
 have S:=St.start hr
 have hlen:=h4.lt
 refine gP_ ?_
 refine zg (by rw[(S.at hb3).cell];rfl) ?_
 refine gP_ ?_
 refine Tryz.yE ?_
 unfold Tryz.zP
 refine gG_ ?_
 refine zi (λhne=>?_) (λheq=>?_)
 ·rw[aam (by omega)]at h
  exact h _ S.ext
 have heq:p.args.length=l.length:=by omega
 refine gG_ ?_
 refine zj (ι:=Nat) (λi=>[.int .i64 (i:Nat)]) (λi w'=>i≤p.args.length∧ke u.ss g.tys (p.args.drop i) (l.drop i)=ke u.ss g.tys p.args l∧StX noX w r w' []) (λi=>p.args.length-i) 0 rfl ⟨gzl _,rfl,S⟩ ?_
 clear S
 rintro i d w1 ⟨hi,hd,S⟩ K6 hK6
 rw[gdz]
 refine gP_ ?_
 refine zi (λhlt=>?_) (λhge=>?_)
 ·have hlt:i<p.args.length:=by omega
  have hlt2:i<l.length:=by omega
  obtain⟨ba,oa,ca,rfl,hca,hao,hac⟩:=h4.sl.get (by decide) hlt
  obtain⟨bt,ot,ct,rfl,hct,htc,hto⟩:=hl i hlt2
  obtain⟨q2,cap2,rfl,ht2⟩:=xP hto
  rw[List.drop_eq_getElem_cons hlt,List.drop_eq_getElem_cons hlt2,Y0]at hd
  refine gP_ ?_
  refine zu (n:=4) hca (λj v hj=>by rw[tnc];exact S.at (hac j v hj)) ?_
  refine S.al λb8 w2 S=>?_
  obtain⟨vq,hca',hlq⟩:=id hao
  subst hca'
  obtain⟨qs,caps,rfl,_⟩:=hlq.sl.shape
  refine S.stB (b:=b8) λw3 S=>?_
  refine gP_ ?_
  refine zu (n:=5) hct (λj v hj=>by rw[tnc];exact S.at (htc j v hj)) ?_
  refine S.al λb9 w4 S=>?_
  refine S.stB (b:=b9) λw5 S=>?_
  refine S.ldB (b:=b8) ?_ rfl
  refine S.ldB (b:=b9) ?_ rfl
  refine acm S.holds hb2 hx hc2 hf hao rfl ht2 λw6 e6=>?_
  have S:=S.go e6
  refine gP_ ?_
  refine c_b (λhno=>?_) (λhy=>?_)
  ·have hno:((z7 u.ss g.tys p.args[i]).2&&yw xj (z7 u.ss g.tys p.args[i]).1 l[i])=false:=by rw[← Bool.not_eq_true'];exact hno
   rw[hno,Bool.false_and]at hd
   rw[← hd]at h
   exact h _ S.ext
  ·have hy:((z7 u.ss g.tys p.args[i]).2&&yw xj (z7 u.ss g.tys p.args[i]).1 l[i])=true:=by rw[← Bool.not_eq_false'];exact hy
   rw[hy,Bool.true_and]at hd
   refine gP_ ?_
   rw[show ((i:Int)+1)=((i+1:Nat):Int)by omega]
   exact hK6 (i+1) _ ⟨hlt,hd,S.to r |>.less (λ_ _ h=>h) (List.nil_sublist _)⟩ (by omega)
 ·have hie:i=p.args.length:=by omega
  rw[hie,List.drop_length,heq,List.drop_length]at hd
  rw[← hd]at h
  exact h _ S.ext
end
end Go.Proofs
namespace Go.Proofs.Tryz
open Go.Sh
section
variable {t0 t1 t2:Value} {w:World} {K:VW}
def QT(t0 t1 t2:Value)(w:World)(K:VW):Prop:=
 pw w (Instr.box 59 t2) λt5 w1=>
 lo w1 59 t5 λt13=>ca jj #[t0,t1,t13] w1 λt14 w2=>
 pe t14 0 λt15=>pe t14 1 λ_t16=>pe t14 2 λt17=>pw w2 (Instr.alloc 112 true (.tuple #[])) λt7 w3=>
 so w3 112 t7 t15 λw4=>K t17 w4
theorem abA(h:QT t0 t1 t2 w K):zc prog Z5 #[t0,t1,t2] w K:=
 okC false (.s (.r (rz 2 0 2)) (.s (.r (rz 12 0 655504)) (.s (.r (rz 2 0 0)) (.n)))) func46 rfl (by kernel_rfl) (by kernel_rfl) h
def XS(t0 t1 t2:Value)(w:World)(K:VW):Prop:=
 pw w (Instr.box 22 t0) λt3 w1=>
 pw w1 (Instr.box 59 t2) λt5 w2=>
 pw w2 (Instr.alloc 112 true (.tuple #[])) λt6 w3=>
 fl w3 t5 59 0 3 λt15=>bt .lss 3 t15 (i6 0) λt16=>za (λK4=>gIf t16 false (fl w3 t5 59 0 3 λt19=>pp (Builtin.len_ #[70] 3 #[t1]) λt21=>bf .geq 3 t19 t21 λt22=>K4 [t22] w3) (K4 [u_] w3)) (λs5 _d6 w7=>
 zd t16 tr_ (s5.getD 0 u_) λt23=>za (λK8=>gIf t23 false (fl w7 t5 59 1 57 λt26=>pp (Builtin.len_ #[57] 3 #[t26]) λt27=>bt .gtr 3 t27 (i6 8) λt28=>K8 [t28] w7) (K8 [u_] w7)) (λs9 _d10 w11=>
 zd t23 tr_ (s9.getD 0 u_) λt29=>zb t29 (lo w11 112 t6 λt30=>so w11 112 t6 t30 λw12=>pq w12 (zh 112 t6) λr13=>K (.tuple #[r13,(Value.slice Option.none 0 0),fa_]) w12) (lo w11 22 t3 λt32=>ca xz #[t32] w11 λt33 w14=>
 pe t33 0 λ_t34=>pe t33 1 λt35=>bt .neq 29 t35 (i6 0) λt37=>za (λK15=>gIf t37 false (pp (Instr.makeFunc (.func 103) #[] #[t3]) λt40=>ca zZ #[t1,t40] w14 λt41 w19=>
 K15 [t41] w19) (K15 [u_] w14)) (λs16 _d17 w18=>
 zd t37 tr_ (s16.getD 0 u_) λt42=>zb t42 (lo w18 112 t6 λt43=>so w18 112 t6 t43 λw20=>pq w20 (zh 112 t6) λr21=>K (.tuple #[r21,(Value.slice Option.none 0 0),fa_]) w20) (fl w18 t5 59 0 3 λt46=>xl w18 70 t1 t46 112 λt48=>so w18 112 t6 t48 λw22=>fl w22 t5 59 1 57 λt50=>pp (Builtin.len_ #[57] 3 #[t50]) λt51=>zt [(Value.slice Option.none 0 0),(i6 0)] w22 (λs24 _d25 w26 K23=>
 bf .lss 3 (s24.getD 1 u_) t51 λt53=>zb t53 (za (λK27=>
 xl w26 57 t50 (s24.getD 1 u_) 76 λt55=>za (λK31=>
 bt .eql 76 t55 (i6 (-1)) λt58=>za (λK35=>gIf t58 true (fl w26 t6 112 0 110 λt61=>bt .eql 110 t61 (Value.int .u8 3) λt62=>K35 [t62] w26) (K35 [u_] w26)) (λs36 _d37 w38=>
 zd t58 (s36.getD 0 u_) fa_ λt63=>zb t63 (K31 [(s24.getD 0 u_),(i6 1)] w38) (bt .eql 76 t55 (i6 (-1)) λt66=>za (λK39=>gIf t66 true (fl w38 t6 112 0 110 λt69=>bt .eql 110 t69 (Value.int .u8 4) λt70=>K39 [t70] w38) (K39 [u_] w38)) (λs40 _d41 w42=>
 zd t66 (s40.getD 0 u_) fa_ λt71=>za (λK43=>gIf t71 true (fl w42 t6 112 1 4 λt74=>K43 [t74] w42) (K43 [u_] w42)) (λs44 _d45 w46=>
 zd t71 (s44.getD 0 u_) fa_ λt75=>zb t75 (K31 [(s24.getD 0 u_),(i6 2)] w46) (bt .eql 76 t55 (i6 (-1)) λt78=>za (λK47=>gIf t78 true (fl w46 t6 112 0 110 λt81=>bt .eql 110 t81 (Value.int .u8 4) λt82=>K47 [t82] w46) (K47 [u_] w46)) (λs48 _d49 w50=>
 zd t78 (s48.getD 0 u_) fa_ λt83=>zb t83 (K31 [(s24.getD 0 u_),(i6 3)] w50) (fl w50 t6 112 0 110 λt86=>bt .neq 110 t86 (Value.int .u8 5) λt87=>za (λK51=>gIf t87 false (bt .lss 76 t55 (i6 0) λt90=>K51 [t90] w50) (K51 [u_] w50)) (λs52 _d53 w54=>
 zd t87 tr_ (s52.getD 0 u_) λt91=>za (λK55=>gIf t91 false (lo w54 22 t3 λt94=>fl w54 t6 112 3 3 λt96=>px 22 t94 t96 λt97=>fl w54 t97 68 1 66 λt99=>pp (Builtin.len_ #[66] 3 #[t99]) λt100=>bf .geq 3 t55 t100 λt101=>K55 [t101] w54) (K55 [u_] w54)) (λs56 _d57 w58=>
 zd t91 tr_ (s56.getD 0 u_) λt102=>zb t102 (pp (Instr.build 112 #[]) λt103=>so w58 112 t6 t103 λw59=>pq w59 (zh 112 t6) λr60=>K (.tuple #[r60,(Value.slice Option.none 0 0),fa_]) w59) (K31 [(s24.getD 0 u_),(i6 0)] w58))))))))))) (λs32 _d33 w34=>
 pw w34 (Instr.buildSlice 26 1 #[(0,(s32.getD 1 u_))]) λt106 w61=>
 pw w61 (Builtin.append_ #[26,26] 26 #[(s32.getD 0 u_),t106]) λt107 w62=>
 bt .eql 3 (s32.getD 1 u_) (i6 0) λt109=>zb t109 (lo w62 22 t3 λt110=>fl w62 t6 112 3 3 λt112=>px 22 t110 t112 λt113=>fl w62 t113 68 1 66 λt115=>px 66 t115 t55 λt117=>fl w62 t117 161 1 112 λt119=>so w62 112 t6 t119 λw63=>K27 [t107] w63) (fl w62 t6 112 4 70 λt121=>xl w62 70 t121 (i6 0) 112 λt123=>so w62 112 t6 t123 λw64=>K27 [t107] w64))) (λs28 _d29 w30=>
 bt .add 3 (s24.getD 1 u_) (i6 1) λt124=>K23 [(s28.getD 0 u_),t124] w30)) (lo w26 112 t6 λt125=>so w26 112 t6 t125 λw65=>pq w65 (zh 112 t6) λr66=>K (.tuple #[r66,(s24.getD 0 u_),tr_]) w65)))))))
theorem aaP(h:XS t0 t1 t2 w K):zc prog jj #[t0,t1,t2] w K:=
 okC false (.s (.r (rz 5 0 42)) (.s (.s (.r (ra 4 0 4 (.grp 17 false (ri 5 4 4) [22] (ra 2 9 0 (.grp 24 false (ri 4 11 4) [28] (rz 1 15 0)))))) (.c (.s (.r (rz 4 0 9)) (.n)) (.n))) (.s (.s (.r (rz 7 0 9)) (.s (.r (ra 3 0 0 (.grp 38 false (ri 3 3 32) [41] (rz 1 6 0)))) (.c (.s (.r (rz 4 0 9)) (.n)) (.n)))) (.s (.r (rz 6 0 2320)) (.s (.s (.r (rz 4 0 4)) (.b (.lp [7,52] (.s (.r (rz 1 0 0)) (.s (.c (.n) (.n)) (.j [7] (.b (.s (.r (rz 3 0 4)) (.s (.r (rz 1 0 0)) (.j [7,13] (.b (.s (.r (ra 3 0 0 (.grp 59 true (ri 3 3 4) [62] (rz 2 6 0)))) (.c (.r (rz 1 0 0)) (.s (.r (ra 3 0 0 (.grp 67 true (ri 3 3 4) [70] (ra 2 6 0 (.grp 72 true (ri 2 8 4) [74] (rz 2 10 0)))))) (.c (.r (rz 1 0 0)) (.s (.r (ra 3 0 0 (.grp 79 true (ri 3 3 4) [82] (rz 2 6 0)))) (.c (.r (rz 1 0 0)) (.s (.r (ra 4 0 4 (.grp 88 false (ri 2 4 0) [90] (ra 2 6 0 (.grp 92 false (ri 9 8 4164) [101] (rz 2 17 0)))))) (.c (.s (.r (rz 4 0 8)) (.n)) (.n)))))))))) (.s (.r (rz 5 0 160)) (.s (.r (rz 2 0 0)) (.c (.r (rz 11 0 2360337)) (.r (rz 5 0 580))))))))) (.r (rz 2 0 0)))))))) (.s (.r (rz 5 0 33)) (.n))))))) func79 rfl (by kernel_rfl) (by kernel_rfl) h
def Yy(t0 t1:Value)(w:World)(K:VW):Prop:=
 pw w (Instr.box 112 t0) λt2 w1=>
 lo w1 22 t1 λt4=>lo w1 112 t2 λt5=>ca kr #[t4,t5] w1 λt6 w2=>
 pp (Op.unary .not t6) λt7=>K t7 w2
theorem J3(h:Yy t0 t1 w K):zc prog VD #[t0,t1] w K:=
 okC false (.s (.r (rz 2 0 2)) (.s (.r (rz 5 0 37)) (.n))) func103 rfl (by kernel_rfl) (by kernel_rfl) h
def Yz(t0 t1:Value)(w:World)(K:VW):Prop:=
 pw w (Instr.box 59 t0) λt2 w1=>
 pw w1 (Instr.box 59 t1) λt3 w2=>
 fl w2.drew t2 59 0 3 λt6=>fl w2.drew t3 59 0 3 λt8=>bf .eql 3 t6 t8 λt9=>za (λK3=>gIf t9 true (fl w2.drew t2 59 1 57 λt12=>pp (Builtin.len_ #[57] 3 #[t12]) λt13=>fl w2.drew t3 59 1 57 λt15=>pp (Builtin.len_ #[57] 3 #[t15]) λt16=>bf .leq 3 t13 t16 λt17=>K3 [t17] w2.drew) (K3 [u_] w2.drew)) (λs4 _d5 w6=>
 zd t9 (s4.getD 0 u_) fa_ λt18=>za (λK7=>gIf t18 true (fl w6 t2 59 1 57 λt21=>fl w6 t3 59 1 57 λt23=>fl w6 t2 59 1 57 λt25=>pp (Builtin.len_ #[57] 3 #[t25]) λt26=>fl w6 t2 59 1 57 λt28=>pp (Builtin.len_ #[57] 3 #[t28]) λt29=>pp (Instr.sliceAt 57 t23 none (some t26) (some t29)) λt30=>ca yo #[t21,t30] w6 λt31 w11=>
 K7 [t31] w11) (K7 [u_] w6)) (λs8 _d9 w10=>
 zd t18 (s8.getD 0 u_) fa_ λt32=>K t32 w10))
theorem J4(h:Yz t0 t1 w K):zc prog xf #[t0,t1] w K:=
 okC false (.s (.r (rz 3 0 10)) (.s (.r (ra 6 0 68 (.grp 10 true (ri 7 6 260) [17] (ra 2 13 0 (.grp 19 true (ri 12 15 8455236) [31] (rz 2 27 0)))))) (.n))) func23 rfl (by kernel_rfl) (by kernel_rfl) h
def XT(t0 t1 t2:Value)(w:World)(K:VW):Prop:=
 pw w (Instr.box 59 t2) λt5 w1=>
 pw w1 (Instr.alloc 59 true (.tuple #[])) λt6 w2=>
 lo w2 59 t5 λt15=>ca jj #[t0,t1,t15] w2 λt16 w3=>
 pe t16 0 λt17=>pe t16 1 λt18=>pe t16 2 λt19=>pw w3 (Instr.alloc 112 true (.tuple #[])) λt8 w4=>
 so w4 112 t8 t17 λw5=>pp (Op.unary .not t19) λt21=>zb t21 (pp (Instr.build 59 #[]) λt22=>so w5 59 t6 t22 λw6=>pq w6 (zh 59 t6) λr7=>K (.tuple #[r7,(i6 2)]) w6) (ca zY #[t18,(Value.func (.func 106) #[] #[])] w5 λt24 w8=>
 za (λK9=>
 bt .lss 3 t24 (i6 0) λt26=>zb t26 (pp (Builtin.len_ #[26] 3 #[t18]) λt28=>K9 [t28] w8) (K9 [t24] w8)) (λs10 _d11 w12=>
 lo w12 59 t5 λt29=>ca jT #[t29,(s10.getD 0 u_)] w12 λt31 w13=>
 so w13 59 t6 t31 λw14=>pq w14 (zh 59 t6) λr15=>K (.tuple #[r15,(i6 0)]) w14))
theorem aaQ(h:XT t0 t1 t2 w K):zc prog jk #[t0,t1,t2] w K:=
 okC false (.s (.r (rz 3 0 10)) (.s (.r (rz 12 0 655504)) (.s (.s (.r (rz 2 0 0)) (.c (.s (.r (rz 3 0 8)) (.n)) (.n))) (.s (.r (rz 3 0 8)) (.j [11] (.s (.r (rz 2 0 0)) (.c (.r (rz 3 0 0)) (.n))) (.s (.r (rz 5 0 161)) (.n))))))) func80 rfl (by kernel_rfl) (by kernel_rfl) h
def Zx(t0:Value)(w:World)(K:VW):Prop:=
 pw w (Instr.box 59 t0) λt1 w1=>
 fl w1 t1 59 1 57 λt6=>pp (Builtin.len_ #[57] 3 #[t6]) λt7=>bt .add 3 t7 (i6 1) λt8=>zt [(Value.slice Option.none 0 0),(i6 0)] w1 (λs3 _d4 w5 K2=>
 bf .lss 3 (s3.getD 1 u_) t8 λt10=>zb t10 (lo w5 59 t1 λt13=>ca jT #[t13,(s3.getD 1 u_)] w5 λt15 w6=>
 pw w6 (Instr.buildSlice 37 1 #[(0,t15)]) λt16 w7=>
 pw w7 (Builtin.append_ #[37,37] 37 #[(s3.getD 0 u_),t16]) λt17 w8=>
 bt .add 3 (s3.getD 1 u_) (i6 1) λt18=>K2 [t17,t18] w8) (K (s3.getD 0 u_) w5))
theorem QA(h:Zx t0 w K):zc prog xh #[t0] w K:=
 okC false (.s (.r (rz 2 0 2)) (.s (.r (rz 1 0 0)) (.s (.s (.r (rz 5 0 4)) (.b (.lp [3,9] (.s (.r (rz 1 0 0)) (.s (.c (.n) (.n)) (.s (.b (.s (.r (rz 2 0 0)) (.r (rz 7 0 2692)))) (.r (rz 2 0 0)))))))) (.s (.r (rz 2 0 0)) (.n))))) func72 rfl (by kernel_rfl) (by kernel_rfl) h
def QU(t0 t1:Value)(w:World)(K:VW):Prop:=
 pw w (Instr.box 59 t0) λt2 w1=>
 pw w1 (Instr.alloc 59 true (.tuple #[])) λt4 w2=>
 fl w2.drew t2 59 0 3 λt6=>fl w2.drew t2 59 1 57 λt8=>pp (Instr.sliceAt 57 t8 none (some t1) (some t1)) λt11=>ca yn #[t11] w2.drew λt12 w3=>
 Ext w2.drew w3∧
 pp (Instr.build 59 #[(0,t6),(1,t12)]) λt13=>so w3 59 t4 t13 λw4=>pq w4 (zh 59 t4) λr5=>K r5 w4
theorem abB(h:QU t0 t1 w K):zc prog jT #[t0,t1] w K:=
 okC false (.s (.r (rz 2 0 10)) (.s (.r (rz 10 0 573508)) (.n))) func97 rfl (by kernel_rfl) (by kernel_rfl) h
end
end Go.Proofs.Tryz
namespace Go.Proofs
open Go.Sh
section
variable {i cap n:Nat} {w:World} {l:List Int} {K:Value→World→Prop} {x y:Int} {p q:Option Addr} {g:GrD} {r:Gh} {M:List Asr}
theorem Jm{f:Int→Bool}{fv:Value}(hf:∀(x:Int)(K:Value→World→Prop),K (.bool (f x)) w→zx Tryz.prog fv #[.int .i64 x] w K){p:Option Addr}{l:List Int}{cap:Nat}
  (hl:Sl w p (ints l)) (hb:l.length≤1000000000) (h:∀i:Int,(0≤i↔l.any f=true)→K (.int .i64 i) w):zc Tryz.prog Tryz.zY #[.slice p l.length cap,fv] w K:=by
 refine Tryz.xX ?_
 unfold Tryz.y9
 refine gP_ ?_
 refine zj (ι:=Nat) (λi=>[.int .i64 i]) (λi w'=>w'=w∧i≤l.length∧(l.take i).any f=false) (λi=>l.length-i) 0 rfl ⟨rfl,gzl _,by simp⟩ ?_
 rintro i d w' ⟨rfl,hi,hn⟩ K6 hK6
 simp only[gdz]
 refine gP_ ?_
 refine zi (λhlt=>?_) (λhge=>?_)
 ·have hlt:i<l.length:=by omega
  obtain⟨b,off,rfl,hc⟩:=hl.at (i:=i) (by rw[ka];exact hlt)
  refine gP_ ?_
  have hv:(ints l)[i]'(by rw[ka];exact hlt)=.int .i64 l[i]:=by simp[ints]
  rw[hv]at hc
  refine zg (by simpa using hc) ?_
  refine hf _ _ ?_
  have ht:(l.take (i+1)).any f=((l.take i).any f||f l[i]):=by
   rw[List.take_succ_eq_append_getElem hlt,List.any_append];simp only[List.any_cons,List.any_nil,Bool.or_false]
  refine c_b (λhy=>?_) (λhno=>?_)
  ·refine h _ ⟨λ_=>?_,λ_=>Int.natCast_nonneg _⟩
   exact List.any_eq_true.2 ⟨l[i],gem hlt,hy⟩
  ·refine gP_ ?_
   refine hK6 (i+1) _ ⟨rfl,hlt,?_⟩ (by omega)
   rw[ht,hn,hno];rfl
 ·have :i=l.length:=by omega
  subst this
  rw[List.take_length]at hn
  exact h _ ⟨λh=>by omega,λh=>by rw[hn]at h;cases h⟩
theorem Xv{f:Int→Bool}{fv:Value}(hf:∀(x:Int)(K:Value→World→Prop),K (.bool (f x)) w→zx Tryz.prog fv #[.int .i64 x] w K){p:Option Addr}{l:List Int}{cap:Nat}
  (hl:Sl w p (ints l)) (hb:l.length≤1000000000) (h:K (.bool (l.any f)) w):zc Tryz.prog Tryz.yH #[.slice p l.length cap,fv] w K:=by
 refine Tryz.jn ?_
 unfold Tryz.xG
 refine Jm hf hl hb λi hi=>?_
 refine gP_ ?_
 have e:decide (i≥0)=l.any f:=by
  by_cases hh:l.any f=true
  ·rw[hh];exact gde (hi.2 hh)
  ·rw[Bool.eq_false_iff.2 hh];exact decide_eq_false λh=>hh (hi.1 h)
 rw[e];exact h
abbrev ahz:Value:=.agg #[.int .u8 0,.bool false,.int .i64 0,.int .i64 0,.slice none 0 0]
abbrev ahA:List Value:=[.int .u8 0,.bool false,.int .i64 0,.int .i64 0,.slice none 0 0]
def yB(f:Nat→Nat→Bool):List Value:=(List.range 64).map λk=>.bool (f (k/8) (k%8))
theorem Zy{f:Nat→Nat→Bool}:(yB f).length=64:=by rw[yB,List.length_map,List.length_range]
theorem VT{f:Nat→Nat→Bool}{k:Nat}(h:k<64):(yB f)[k]? = some (.bool (f (k/8) (k%8))):=by
 rw[yB,List.getElem?_map,List.getElem?_range h];rfl
theorem afi{f:Nat→Nat→Bool}{x y:Nat}(hx:x<8)(hy:y<8):(yB f)[x*8+y]? = some (.bool (f x y)):=by
 rw[VT (by omega),show (x*8+y)/8=x by omega,show (x*8+y)%8=y by omega]
theorem kh{f g:Nat→Nat→Bool}(h:∀x y,x<8→y<8→f x y=g x y):yB f=yB g:=by
 refine List.map_congr_left λk hk=>?_
 have:=List.mem_range.1 hk
 rw[h _ _ (by omega) (by omega)]
theorem abC{f:Nat→Nat→Bool}{x y:Nat}(hx:x<8)(hy:y<8):(yB f).set (x*8+y) (.bool true)=yB λa b=>f a b||(decide (a=x)&&decide (b=y)):=by
 refine List.ext_getElem? λk=>?_
 by_cases hk:k<64
 ·rw[List.getElem?_set,VT hk,VT hk]
  by_cases e:x*8+y=k
  ·rw[if_pos e,if_pos (by rw[Zy];omega)]
   subst e
   rw[show (x*8+y)/8=x by omega,show (x*8+y)%8=y by omega];simp
  ·rw[if_neg e]
   by_cases e1:k/8=x
   ·rw[decide_eq_false (show¬k%8=y by omega),Bool.and_false,Bool.or_false]
   ·rw[decide_eq_false e1,Bool.false_and,Bool.or_false]
 ·rw[List.getElem?_eq_none (by rw[List.length_set,Zy];omega),List.getElem?_eq_none (by rw[Zy];omega)]
theorem aem{a:Int}:js x y (a::l)=((decide (a=y)&&l.contains x)||js x y l):=rfl
theorem afj(h:i<l.length):(l.take (i+1)).contains x=((l.take i).contains x||decide (x=l[i])):=by
 rw[List.take_succ_eq_append_getElem h,List.contains_eq_any_beq,List.any_append,← List.contains_eq_any_beq]
 simp only[List.any_cons,List.any_nil,Bool.or_false]
 congr 1
theorem aen{l:List TyD}(h:i<l.length):jt (l.take (i+1)) x y=(jt (l.take i) x y||js x y (yJ l[i])):=by
 rw[List.take_succ_eq_append_getElem h,jt,List.any_append,jt]
 simp only[List.any_cons,List.any_nil,Bool.or_false]
theorem aeo{l:List (Int×Int)}(h:i<l.length):jZ (l.take (i+1)) x y=(jZ (l.take i) x y||(decide (x=l[i].1)&&decide (y=l[i].2))):=by
 rw[jZ,List.take_succ_eq_append_getElem h,List.contains_eq_any_beq,List.any_append,← List.contains_eq_any_beq,← jZ]
 simp only[List.any_cons,List.any_nil,Bool.or_false]
 congr 1
def jJ(lv:Int):Option (Int×Int)→List (Int×Int)→Bool
 |_,[]=>true
 |w,o::l=>(kE lv o&&(match w with|none=>true|some w=>j0 w o))&&jJ lv (some o) l
theorem aao(lv:Int):∀(l:List (Int×Int))(w:Int×Int),jJ lv (some w) l=(l.all (kE lv)&&JZ (w::l))
 |[],w=>rfl
 |o::l,w=>by
  rw[jJ,aao lv l o,List.all_cons,JZ]
  cases kE lv o<;>cases j0 w o<;>cases l.all (kE lv)<;>simp
theorem aep(lv:Int)(l:List (Int×Int)):jJ lv none l=(l.all (kE lv)&&JZ l):=by
 cases l with
 |nil=>rfl
 |cons o l=>
  rw[jJ,aao lv l o,List.all_cons]
  cases kE lv o<;>cases l.all (kE lv)<;>simp
theorem af2{lv:Int}{w:Option (Int×Int)}{l:List (Int×Int)}(h:i<l.length):jJ lv w (l.drop i)=((kE lv l[i]&&(match w with|none=>true|some w=>j0 w l[i]))&&jJ lv (some l[i]) (l.drop (i+1))):=by
 rw[List.drop_eq_getElem_cons h];rfl
theorem agM{o w:Int×Int}:(decide (o.1<w.1)||(decide (w.1=o.1)&&decide (o.2≤w.2))) = !j0 w o:=by
 unfold j0
 rcases Int.lt_trichotomy o.1 w.1 with h|h|h
 ·rw[gde h,decide_eq_false (show¬w.1<o.1 by omega),decide_eq_false (show¬w.1=o.1 by omega)];rfl
 ·rw[decide_eq_false (show¬o.1<w.1 by omega),decide_eq_false (show¬w.1<o.1 by omega),gde (show w.1=o.1 by omega)]
  by_cases h2:o.2≤w.2
  ·rw[gde h2,decide_eq_false (show¬w.2<o.2 by omega)];rfl
  ·rw[decide_eq_false h2,gde (show w.2<o.2 by omega)];rfl
 ·rw[decide_eq_false (show¬o.1<w.1 by omega),gde (show w.1<o.1 by omega),decide_eq_false (show¬w.1=o.1 by omega)];rfl
theorem adr(h:i<n):(List.range n).drop i=i::(List.range n).drop (i+1):=by
 rw[List.drop_eq_getElem_cons (by rwa[List.length_range]),List.getElem_range]
theorem XU{f:Nat→Bool}(h:i<n):((List.range n).drop i).all f=(f i&&((List.range n).drop (i+1)).all f):=by rw[adr h,List.all_cons]
theorem XV{f:Nat→Bool}:((List.range n).drop n).all f=true:=by rw[List.drop_of_length_le (by rw[List.length_range];exact Nat.le_refl _)];rfl
theorem aap{u:UnD}{t:TyD}{l:List TyD}:jI u g i (t::l)=(tyG u g i t&&jI u g (i+1) l):=rfl
theorem aeq{u:UnD}{j:Nat}{l:List TyD}(h:i<l.length):jI u g j (l.drop i)=(tyG u g j l[i]&&jI u g (j+1) (l.drop (i+1))):=by rw[List.drop_eq_getElem_cons h];rfl
theorem abD{u:UnD}{g:GrD}:∀{l:List TyD}{i:Nat},jI u g i l=true→∀t∈l,yA u.ss t=true
 |[],i,_,t,ht=>by cases ht
 |x::l,i,h,t,ht=>by
  rw[aap,gba]at h
  rcases List.mem_cons.1 ht with rfl|ht
  ·have:=h.1
   rw[tyG,gba]at this
   exact this.1
  ·exact abD h.2 t ht
theorem abE{u:UnD}{g:GrD}:∀{l:List TyD}{i:Nat},jI u g i l=true→∀{j:Nat}(hj:j<l.length),((i+j:Nat):Int)≤g.pn→∀x∈yJ l[j],0≤x∧x<g.lv
 |[],i,_,j,hj,_=>absurd hj (Nat.not_lt_zero _)
 |y::l,i,h,j,hj,hle=>by
  rw[aap,gba]at h
  cases j with
  |zero=>
   have:=h.1
   rw[tyG,gba,List.all_eq_true]at this
   intro x hx
   have:=this.2 x hx
   rw[if_pos (by omega)]at this
   simp only[Bool.not_eq_true',Bool.or_eq_false_iff,decide_eq_false_iff_not]at this
   omega
  |succ j=>exact abE h.2 (j:=j) (by simpa using hj) (by omega)
theorem J5{l:List PtD}(h:i<l.length):xa (l.take (i+1))=xa (l.take i)+(if l[i].op=4 then 1 else 0):=by
 rw[List.take_succ_eq_append_getElem h,xa,List.countP_append,xa]
 congr 1
 rw[List.countP_singleton]
 by_cases e:l[i].op=4<;>simp [e]
theorem Sl.tail{a:Int}(h:Sl w p (ints (a::l)))(hc:(a::l).length≤cap):Sl w (if cap=(1:Int).toNat then p else p.map (·.add ((1:Int).toNat*1))) (ints l):=λi v hv=>by
 have h1:=h (i+1) v (by simpa [ints]using hv)
 have hi:i<l.length:=by
  have:=(List.getElem?_eq_some_iff.1 hv).1
  rwa[ka]at this
 obtain⟨b,off,hp,hcell⟩:=h1
 rw[List.length_cons]at hc
 rw[if_neg (show¬cap=(1:Int).toNat by have :(1:Int).toNat=1:=rfl;omega),hp,Option.map_some,y0]
 exact⟨b,off+1,rfl,by rwa[show off+1+i=off+(i+1)by omega]⟩
abbrev fvI(b3 b4:Nat):Value:=.func (.func Tryz.vG) #[] #[.pointer (some ⟨b3,0,none⟩),.pointer (some ⟨b4,0,none⟩)]
abbrev ads(f:Nat→Nat→Bool)(l:List Int):Nat→Nat→Bool:=λx y=>f x y||js x y l
abbrev VU(f:Nat→Nat→Bool)(a:Int)(l:List Int):Nat→Nat→Bool:=λx y=>f x y||(decide (a=(y:Int))&&l.contains (x:Int))
theorem acn{b3 b4 bt:Nat}{M:List Asr}{w0:World}:∀(l:List Int){p:Option Addr}{cap:Nat}{f:Nat→Nat→Bool}{w:World}{K:Value→World→Prop},(∀x∈l,0≤x∧x<8)→(Ob r λw=>Sl w p (ints l))→l.length≤cap→l.length≤1000→
  StX noX w0 r w (.cell b4 [fvI b3 b4] 118::.cell b3 [.pointer (some ⟨bt,0,none⟩)] 206::.cell bt (yB f) 204::M)→
  (∀w',StX noX w0 r w' (.cell b4 [fvI b3 b4] 118::.cell b3 [.pointer (some ⟨bt,0,none⟩)] 206::.cell bt (yB (ads f l)) 204::M)→K (.tuple #[]) w')→
  zx Tryz.prog (fvI b3 b4) #[.slice p l.length cap] w K:=by
 intro l
 induction l with
 |nil=>
  intro p cap f w K hx hl hc hb S h
  refine aa3 (by kernel_rfl) ?_
  refine Tryz.j9 ?_
  unfold Tryz.qe
  refine gP_ ?_
  refine gP_ ?_
  refine c_t (by simp) ?_
  refine h _ ?_
  rw[kh (g:=f) (λx y _ _=>by show(f x y||js x y [])=f x y;rw[js,Bool.or_false])]
  exact S
 |cons a l ih=>
  intro p cap f w K hx hl hc hb S h
  refine aa3 (by kernel_rfl) ?_
  refine Tryz.j9 ?_
  unfold Tryz.qe
  obtain⟨ha0,ha8⟩:=hx a List.mem_cons_self
  have hxl:∀x∈l,0≤x∧x<8:=λx h=>hx x (List.mem_cons_of_mem _ h)
  have hal:(a::l).length=l.length+1:=List.length_cons
  have hll:l.length≤1000:=by rw[List.length_cons]at hb;omega
  have hlc:l.length+1≤cap:=by rwa[List.length_cons]at hc
  have hsl:Ob r λw=>Sl w (if cap=(1:Int).toNat then p else p.map (·.add ((1:Int).toNat*1))) (ints l):=λw k=>Sl.tail (hl w k) hc
  have hlen:(a::l).length-(1:Int).toNat=l.length:=by simp
  obtain⟨bp,op,rfl,hcell⟩:=VM (S.at hl) (i:=0) (by simp)
  refine gP_ ?_
  refine gP_ ?_
  refine c_f (by rw[List.length_cons];exact decide_eq_false (by omega)) ?_
  refine gP_ ?_
  rw[hlen]
  refine gP_ ?_
  obtain⟨p2,hp2⟩:∃p2,(if cap=(1:Int).toNat then(some ⟨bp,op,none⟩:Option Addr)else(some ⟨bp,op,none⟩:Option Addr).map (·.add ((1:Int).toNat*1)))=p2:=⟨_,rfl⟩
  rw[hp2]at hsl⊢
  refine zj (ι:=Nat) (λi=>[.int .i64 (i:Nat)]) (λi w'=>i≤l.length∧StX noX w0 r w' (.cell b4 [fvI b3 b4] 118::.cell b3 [.pointer (some ⟨bt,0,none⟩)] 206::.cell bt (yB (VU f a (l.take i))) 204::M)) (λi=>l.length-i) 0 rfl
   ⟨gzl _,by
    rw[kh (f:=VU f a (l.take 0)) (g:=f) (λx y _ _=>by simp[VU])]
    exact S⟩ ?_
  clear S
  rintro i d w1 ⟨hi,S⟩ K6 hK6
  rw[gdz]
  refine gP_ ?_
  refine zi (λhlt=>?_) (λhge=>?_)
  ·have hlt:i<l.length:=by omega
   obtain⟨bq,oq,rfl,hcell2⟩:=VM (S.at hsl) hlt
   obtain⟨hi0,hi8⟩:=hxl _ (gem hlt)
   have S:=S.go (Ext.drew _)
   refine gP_ ?_
   refine zg (v:=.int .i64 l[i]) (by simpa using hcell2) ?_
   refine S.ld (b:=b3) ?_ rfl
   refine gP_ ?_
   have hc0:=(S.at hl 0 (.int .i64 a) (by simp[ints]))
   refine zg (v:=.int .i64 a) (by obtain⟨b',o',h1,h2⟩:=hc0;cases h1;simpa using h2) ?_
   refine gG_ ?_
   refine S.st (b:=bt) (λw2 S=>?_) (by rw[Zy];omega)
   refine gP_ ?_
   rw[show ((i:Int)+1)=((i+1:Nat):Int)by omega]
   refine hK6 (i+1) _ ⟨hlt,?_⟩ (by omega)
   rw[show 0+l[i].toNat*8+a.toNat*1=l[i].toNat*8+a.toNat by omega,abC (by omega) (by omega)]at S
   rw[kh (f:=VU f a (l.take (i+1))) (g:=λx y=>VU f a (l.take i) x y||(decide (x=l[i].toNat)&&decide (y=a.toNat))) (λx y _ _=>by
    show(f x y||(decide (a=(y:Int))&&(l.take (i+1)).contains (x:Int)))=((f x y||(decide (a=(y:Int))&&(l.take i).contains (x:Int)))||(decide (x=l[i].toNat)&&decide (y=a.toNat)))
    rw[afj hlt,show decide ((x:Int)=l[i])=decide (x=l[i].toNat)from decide_eq_decide.2 (by omega),show decide (a=(y:Int))=decide (y=a.toNat)from decide_eq_decide.2 (by omega)]
    cases f x y<;>cases decide (y=a.toNat)<;>cases (l.take i).contains (x:Int)<;>cases decide (x=l[i].toNat)<;>rfl)]
   exact S
  ·have hie:i=l.length:=by omega
   rw[hie,List.take_length]at S
   have S:=S.go (Ext.drew _)
   refine S.ld (b:=b4) ?_ rfl
   refine gP_ ?_
   rw[hlen,hp2]
   refine ih hxl hsl (by show l.length≤cap-(1:Int).toNat;have :(1:Int).toNat=1:=rfl;omega) hll S λw2 S=>?_
   refine h _ ?_
   rw[kh (f:=ads f (a::l)) (g:=ads (VU f a l) l) (λx y _ _=>by
    show(f x y||js x y (a::l))=((f x y||(decide (a=(y:Int))&&l.contains (x:Int)))||js x y l)
    rw[aem,Bool.or_assoc])]
   exact S
abbrev Jn(f:Nat→Nat→Bool)(l:List TyD):Nat→Nat→Bool:=λx y=>f x y||jt l x y
theorem J6{bt:Nat}{M:List Asr}{w0:World}{l:List TyD}{cap:Nat}{f:Nat→Nat→Bool}{w:World}{K:Value→World→Prop}(hl:TysG r q l)(hn:l.length≤maxLen)(hx:∀t∈l,∀x∈yJ t,0≤x∧x<8)
  (S:StX noX w0 r w (.cell bt (yB f) 204::M))
  (h:∀w',StX noX w0 r w' (.cell bt (yB (Jn f l)) 204::M)→K (.tuple #[]) w'):zc Tryz.prog Tryz.ji #[.slice q l.length cap,.pointer (some ⟨bt,0,none⟩)] w K:=by
 refine Tryz.Jc ?_
 unfold Tryz.ZM
 have hn':l.length≤9223372036854775807:=hn
 refine S.box λb3 w1 S=>?_
 refine S.al λb4 w2 S=>?_
 refine gP_ ?_
 refine S.st (b:=b4) λw3 S=>?_
 refine gP_ ?_
 refine zj (ι:=Nat) (λi=>[.int .i64 (i:Nat)]) (λi w'=>i≤l.length∧StX noX w0 r w' (.cell b4 [fvI b3 b4] 118::.cell b3 [.pointer (some ⟨bt,0,none⟩)] 206::.cell bt (yB (Jn f (l.take i))) 204::M)) (λi=>l.length-i) 0 rfl
  ⟨gzl _,by
   rw[kh (f:=Jn f (l.take 0)) (g:=f) (λx y _ _=>by simp[Jn,jt])]
   exact S⟩ ?_
 clear S
 rintro i d w4 ⟨hi,S⟩ K6 hK6
 rw[gdz]
 refine gP_ ?_
 refine zi (λhlt=>?_) (λhge=>?_)
 ·have hlt:i<l.length:=by omega
  obtain⟨b1,o1,c1,rfl,hc1,htc,hto⟩:=hl i hlt
  obtain⟨q2,cap2,rfl,ht2⟩:=xP hto
  refine gP_ ?_
  refine zu (n:=5) hc1 (λj v hj=>by rw[tnc];exact S.at (htc j v hj)) ?_
  refine S.al λb6 w5 S=>?_
  refine S.stB (b:=b6) λw6 S=>?_
  have S:=S.go (Ext.drew _)
  refine S.ld (b:=b4) ?_ rfl
  refine S.ldB (b:=b6) ?_ rfl
  refine ZU S.holds ht2 λv7 w7 e7 o7=>⟨e7,?_⟩
  obtain⟨s1,p1,cap1,n1,nb1,rfl,_,hc1,hs1⟩:=agz o7
  have S:=S.new e7 n1
  have S:=S.drop b6
  have hr48:(yJ l[i]).length≤1000:=by
   rw[yJ];split
   ·have:=aai (by assumption);omega
   ·simp
  refine acn (yJ l[i]) (λx h=>hx _ (gem hlt) x h) hs1.up hc1 hr48 S λw8 S=>?_
  refine gP_ ?_
  rw[show ((i:Int)+1)=((i+1:Nat):Int)by omega]
  refine hK6 (i+1) _ ⟨hlt,?_⟩ (by omega)
  have S:=S.to r
  rw[kh (f:=Jn f (l.take (i+1))) (g:=ads (Jn f (l.take i)) (yJ l[i])) (λx y _ _=>by
   show(f x y||jt (l.take (i+1)) x y)=((f x y||jt (l.take i) x y)||js x y (yJ l[i]))
   rw[aen hlt,Bool.or_assoc])]
  exact S
 ·have hie:i=l.length:=by omega
  rw[hie,List.take_length]at S
  exact h _ S.tl.tl
theorem TysG.take{s:Gh}{ts:List TyD}(h:TysG s q ts)(n:Nat):TysG s q (ts.take n):=λi hi=>by
 rw[List.length_take]at hi
 obtain⟨b,off,c,h1,h2,h3,h4⟩:=h i (by omega)
 refine⟨b,off,c,h1,h2,h3,?_⟩
 rw[List.getElem_take];exact h4
theorem XW{f:Nat→Nat→Bool}{a b:Nat}(ha:a<8)(hb:b<8):(yB f)[0+((a:Nat):Int).toNat*8+((b:Nat):Int).toNat*1]? = some (.bool (f a b)):=by
 rw[show 0+((a:Nat):Int).toNat*8+((b:Nat):Int).toNat*1=a*8+b by omega]
 exact afi ha hb
abbrev syF(l:List (Int×Int)):Nat→Nat→Bool:=λx y=>jZ l (x:Int) (y:Int)
abbrev muF(l:List TyD):Nat→Nat→Bool:=λx y=>jt l (x:Int) (y:Int)
def clH(sy:Nat→Nat→Bool)(a b c:Nat):Bool:=!((sy a b&&sy b c)&&(!decide (a=c) && !sy a c))
def clG(n:Nat)(mu sy:Nat→Nat→Bool)(a b:Nat):Bool:=(List.range n).all (clH sy a b) && !(!decide (a=b)&&(mu a b && !sy a b))
def clF(n:Nat)(mu sy:Nat→Nat→Bool)(a:Nat):Bool:=(List.range n).all (clG n mu sy a)
theorem af3(n:Nat)(l:List TyD)(o:List (Int×Int)):adq n (jt l) (jZ o)=(List.range n).all (clF n (muF l) (syF o)):=by
 unfold adq clF clG clH;simp only[decide_not,Int.natCast_inj]
def j1(l:List (Int×Int))(i:Nat):Option (Int×Int):=if i=0 then none else l[i-1]?
def afk(w:Option (Int×Int))(o:Int×Int):Bool:=match w with|none=>true|some w=>j0 w o
theorem afl{lv:Int}{l:List (Int×Int)}(h:i<l.length):jJ lv (j1 l i) (l.drop i)=((kE lv l[i]&&afk (j1 l i) l[i])&&jJ lv (j1 l (i+1)) (l.drop (i+1))):=by
 rw[af2 h,j1,j1,if_neg (Nat.succ_ne_zero i),Nat.add_sub_cancel,gqg h];rfl
theorem Jo{c:List Value}{K:Value→World→Prop}(hr:Holds r w)(hg:GrG r c g)(hlv0:0≤g.lv)(hlv8:g.lv≤8)(hpn0:0≤g.pn)(hpn1:g.pn<g.tys.length)
  (hx:∀t∈g.tys.take (g.pn.toNat+1),∀x∈yJ t,0≤x∧x<8) (h:∀w',Ext w w'→K (.bool (YZ g)) w'):zc Tryz.prog Tryz.qG #[.agg c.toArray] w K:=by
 obtain⟨vo,vt,vn,vp,rfl,h1,h2,h3,h4⟩:=hg
 obtain⟨qo,capo,rfl,_,_⟩:=h1.sl.shape
 obtain⟨qt,capt,rfl,_,hct⟩:=h2.sl.shape
 obtain⟨qn,capn,rfl,_,_⟩:=h3.sl.shape
 obtain⟨qp,capp,rfl,_,_⟩:=h4.sl.shape
 have hol:g.outs.length≤9223372036854775807:=h1.few
 have htl:g.tys.length≤9223372036854775807:=h2.few
 refine Tryz.Qu ?_
 unfold Tryz.Zp
 have S:=St.start hr
 refine S.box λb1 w1 S=>?_
 refine S.al λb3 w2 S=>?_
 refine S.al λb4 w3 S=>?_
 have S:StX noX w r w3 (.cell b3 (yB λ_ _=>false) 204::[.cell b4 (yB λ_ _=>false) 204,.cell b1 [.string g.name,.int .i64 g.lv,.slice qo g.outs.length capo,.int .i64 g.pn,.slice qt g.tys.length capt,.slice qn g.nms.length capn,.slice qp g.pts.length capp] 74]):=S.swap
 refine gG_ ?_
 rw[show (g.pn+1).toNat=(g.tys.take (g.pn.toNat+1)).length by rw[List.length_take];omega]
 refine J6 (l:=g.tys.take (g.pn.toNat+1)) ((Qr h2.sl).take _) (by rw[List.length_take];have:=h2.few;omega) hx S λw4 S=>?_
 have S:StX noX w r w4 ([.cell b3 (yB (muF (g.tys.take (g.pn.toNat+1)))) 204,.cell b4 (yB λ_ _=>false) 204,.cell b1 [.string g.name,.int .i64 g.lv,.slice qo g.outs.length capo,.int .i64 g.pn,.slice qt g.tys.length capt,.slice qn g.nms.length capn,.slice qp g.pts.length capp] 74]):=by
  rw[kh (f:=muF (g.tys.take (g.pn.toNat+1))) (g:=Jn (λ_ _=>false) (g.tys.take (g.pn.toNat+1))) (λx y _ _=>(Bool.false_or _).symm)]
  exact S
 rw[YZ,← aep,af3]at h
 generalize hmu:muF (g.tys.take (g.pn.toNat+1))=mu at h S
 refine gG_ ?_
 refine zj (ι:=Nat) (λi=>[.int .i64 (i:Nat)]) (λi w'=>i≤g.outs.length∧jJ g.lv (j1 g.outs i) (g.outs.drop i)=jJ g.lv none g.outs∧
  StX noX w r w' ([.cell b3 (yB mu) 204,.cell b4 (yB (syF (g.outs.take i))) 204,.cell b1 [.string g.name,.int .i64 g.lv,.slice qo g.outs.length capo,.int .i64 g.pn,.slice qt g.tys.length capt,.slice qn g.nms.length capn,.slice qp g.pts.length capp] 74])) (λi=>g.outs.length-i) 0 rfl
  ⟨gzl _,rfl,by
   rw[kh (f:=syF (g.outs.take 0)) (g:=λ_ _=>false) (λx y _ _=>by simp[syF,jZ])]
   exact S⟩ ?_
 clear S
 rintro i d w5 ⟨hi,hd,S⟩ K6 hK6
 rw[gdz]
 refine gP_ ?_
 refine zi (λhlt=>?_) (λhge=>?_)
 ·have hlt:i<g.outs.length:=by omega
  obtain⟨bo,oo,co,rfl,hco,hoo,hoc⟩:=h1.sl.get (by decide) hlt
  obtain rfl:co=_:=hoo
  rw[afl hlt]at hd
  have hgo:=λ(j:Nat) (hj:j<g.outs.length)=>h1.sl.get (by decide) hj
  obtain⟨⟨o1,o2⟩,ho⟩:∃o,g.outs[i]=o:=⟨_,rfl⟩
  rw[ho]at hd
  have hst:syF (g.outs.take (i+1))=λx y=>syF (g.outs.take i) x y||(decide ((x:Int)=o1)&&decide ((y:Int)=o2)):=by
   funext x y
   show jZ _ _ _=(jZ _ _ _||_)
   rw[aeo hlt,ho]
  refine gP_ ?_
  refine zu (n:=2) hco (λj v hj=>by rw[tnc];exact S.at (hoc j v hj)) ?_
  rw[ho]
  refine S.al λb6 w6 S=>?_
  refine S.stB (b:=b6) λw7 S=>?_
  refine gG_ ?_
  refine zq (c:=decide (g.lv≤max o1 o2)) (λ_ K2 hK2=>?_) ?_
  ·refine gG_ ?_
   exact hK2
  refine zq (c:=decide (o1=o2)) (λ_ K2 hK2=>?_) ?_
  ·refine gG_ ?_
   exact hK2
  refine c_b (λhbad=>?_) (λhgood=>?_)
  ·have hin:kE g.lv (o1,o2)=false:=by rw[kE,hbad];rfl
   rw[hin,Bool.false_and,Bool.false_and]at hd
   rw[← hd,Bool.false_and]at h
   exact h _ S.ext
  have hin:kE g.lv (o1,o2)=true:=by rw[kE,hgood];rfl
  rw[hin,Bool.true_and]at hd
  have hrg:(0≤o1∧o1<8)∧(0≤o2∧o2<8):=by
   simp only[Bool.or_eq_false_iff,decide_eq_false_iff_not]at hgood;omega
  clear hgood hin
  obtain⟨⟨ho10,ho18⟩,ho20,ho28⟩:=hrg
  refine zs (λ_ w'=>afk (j1 g.outs i) (o1,o2)=true∧StX noX w r w' ([.cell b6 [.int .i64 o1,.int .i64 o2] 208,.cell b3 (yB mu) 204,.cell b4 (yB (syF (g.outs.take i))) 204,.cell b1 [.string g.name,.int .i64 g.lv,.slice (some ⟨bo,oo,none⟩) g.outs.length capo,.int .i64 g.pn,.slice qt g.tys.length capt,.slice qn g.nms.length capn,.slice qp g.pts.length capp] 74])) (λK9 hK9=>?_) ?_
  ·refine gP_ ?_
   refine zi (λhpos=>?_) (λhz=>?_)
   ·have hpos:0<i:=by omega
    have hlt2:i-1<g.outs.length:=by omega
    obtain⟨bo2,oo2,co2,hbe,hco2,hoo2,hoc2⟩:=h1.sl.get (by decide) hlt2
    obtain rfl:co2=_:=hoo2
    cases hbe
    have hpv:j1 g.outs i=some g.outs[i-1]:=by rw[j1,if_neg (by omega),gqg hlt2]
    rw[hpv]at hd hK9
    obtain⟨⟨p1,p2⟩,hp⟩:∃o,g.outs[i-1]=o:=⟨_,rfl⟩
    rw[hp]at hd hK9
    refine gG_ ?_
    refine zu (n:=2) hco2 (λj v hj=>by rw[show ((i:Int)-1).toNat=i-1 by omega];exact S.at (hoc2 j v hj)) ?_
    rw[hp]
    refine S.al λb7 w8 S=>?_
    refine S.stB (b:=b7) λw9 S=>?_
    refine gG_ ?_
    refine VS (g:=decide (p1=o1)) (c:=decide (o2≤p2)) (λ_ K2 hK2=>?_) (λ_ K2 hK2=>?_) ?_
    ·refine gG_ ?_
     exact hK2
    ·refine gG_ ?_
     exact hK2
    rw[agM (o:=(o1,o2)) (w:=(p1,p2))]
    refine c_b (λhb=>?_) (λhb=>?_)
    ·have hb:j0 (p1,p2) (o1,o2)=false:=by simpa using hb
     rw[show afk (some (p1,p2)) (o1,o2)=j0 (p1,p2) (o1,o2)from rfl,hb,Bool.false_and]at hd
     rw[← hd,Bool.false_and]at h
     exact h _ S.ext
    ·have hb:j0 (p1,p2) (o1,o2)=true:=by simpa using hb
     exact hK9 _ _ ⟨hb,S.drop b7⟩
   ·have hz:i=0:=by omega
    refine hK9 _ _ ⟨?_,S⟩
    rw[hz];rfl
  clear S
  rintro _ w10 ⟨haf,S⟩ d10
  have S:=S.go (Ext.drew _)
  rw[haf,Bool.true_and]at hd
  refine gG_ ?_
  refine S.st (b:=b4) (λw11 S=>?_) (by rw[Zy];omega)
  refine gP_ ?_
  rw[show ((i:Int)+1)=((i+1:Nat):Int)by omega]
  refine hK6 (i+1) _ ⟨hlt,hd,?_⟩ (by omega)
  rw[show 0+o1.toNat*8+o2.toNat*1=o1.toNat*8+o2.toNat by omega,abC (by omega) (by omega)]at S
  rw[hst,kh (f:=λx y=>syF (g.outs.take i) x y||(decide ((x:Int)=o1)&&decide ((y:Int)=o2))) (g:=λx y=>syF (g.outs.take i) x y||(decide (x=o1.toNat)&&decide (y=o2.toNat))) (λx y _ _=>by
   show(syF (g.outs.take i) x y||(decide ((x:Int)=o1)&&decide ((y:Int)=o2)))=(syF (g.outs.take i) x y||(decide (x=o1.toNat)&&decide (y=o2.toNat)))
   rw[show decide ((x:Int)=o1)=decide (x=o1.toNat)from decide_eq_decide.2 (by omega),show decide ((y:Int)=o2)=decide (y=o2.toNat)from decide_eq_decide.2 (by omega)])]
  exact S.drop b6
 have hie:i=g.outs.length:=by omega
 rw[hie,List.take_length]at S
 rw[hie,List.drop_length]at hd
 rw[← hd,show jJ g.lv (j1 g.outs g.outs.length) []=true from by rw[jJ],Bool.true_and]at h
 clear hd hK6 K6 hie hge hi
 generalize hsy:syF g.outs=sy at h S
 obtain⟨n,hn⟩:∃n:Nat,g.lv.toNat=n:=⟨_,rfl⟩
 have hn8:n≤8:=by omega
 have hlvn:g.lv=(n:Int):=by omega
 rw[hn]at h
 refine gG_ ?_
 refine zj (ι:=Nat) (λi=>[.int .i64 (i:Nat)]) (λi w'=>i≤n∧((List.range n).drop i).all (clF n mu sy)=(List.range n).all (clF n mu sy)∧
  StX noX w r w' ([.cell b3 (yB mu) 204,.cell b4 (yB sy) 204,.cell b1 [.string g.name,.int .i64 g.lv,.slice qo g.outs.length capo,.int .i64 g.pn,.slice qt g.tys.length capt,.slice qn g.nms.length capn,.slice qp g.pts.length capp] 74])) (λi=>n-i) 0 rfl
  ⟨gzl _,rfl,S⟩ ?_
 clear S
 rintro a d2 w12 ⟨ha,hda,S⟩ K7 hK7
 rw[gdz,hlvn]
 refine gP_ ?_
 refine zi (λhlta=>?_) (λhgea=>?_)
 rotate_left
 ·have hae:a=n:=by omega
  rw[hae,XV]at hda
  rw[← hda]at h
  exact h _ S.ext
 have hlta:a<n:=by omega
 rw[XU hlta]at hda
 refine gG_ ?_
 refine zj (ι:=Nat) (λi=>[.int .i64 (i:Nat)]) (λi w'=>i≤n∧((List.range n).drop i).all (clG n mu sy a)=(List.range n).all (clG n mu sy a)∧
  StX noX w r w' ([.cell b3 (yB mu) 204,.cell b4 (yB sy) 204,.cell b1 [.string g.name,.int .i64 g.lv,.slice qo g.outs.length capo,.int .i64 g.pn,.slice qt g.tys.length capt,.slice qn g.nms.length capn,.slice qp g.pts.length capp] 74])) (λi=>n-i) 0 rfl
  ⟨gzl _,rfl,S⟩ ?_
 clear S
 rintro b d3 w13 ⟨hb,hdb,S⟩ K8 hK8
 rw[gdz,hlvn]
 refine gP_ ?_
 refine zi (λhltb=>?_) (λhgeb=>?_)
 rotate_left
 ·have hbe:b=n:=by omega
  rw[hbe,XV]at hdb
  have hF:clF n mu sy a=true:=hdb.symm
  rw[hF,Bool.true_and]at hda
  refine gP_ ?_
  rw[show ((a:Int)+1)=((a+1:Nat):Int)by omega]
  exact hK7 (a+1) _ ⟨hlta,hda,S⟩ (by omega)
 have hltb:b<n:=by omega
 rw[XU hltb]at hdb
 refine gG_ ?_
 refine zj (ι:=Nat) (λi=>[.int .i64 (i:Nat)]) (λi w'=>i≤n∧((List.range n).drop i).all (clH sy a b)=(List.range n).all (clH sy a b)∧
  StX noX w r w' ([.cell b3 (yB mu) 204,.cell b4 (yB sy) 204,.cell b1 [.string g.name,.int .i64 g.lv,.slice qo g.outs.length capo,.int .i64 g.pn,.slice qt g.tys.length capt,.slice qn g.nms.length capn,.slice qp g.pts.length capp] 74])) (λi=>n-i) 0 rfl
  ⟨gzl _,rfl,S⟩ ?_
 clear S
 have hfalse:clG n mu sy a b=false→(List.range n).all (clF n mu sy)=false:=λe=>by
  rw[e,Bool.false_and]at hdb
  have hF:clF n mu sy a=false:=hdb.symm
  rw[hF,Bool.false_and]at hda
  exact hda.symm
 rintro cc d4 w14 ⟨hc,hdc,S⟩ K9 hK9
 rw[gdz,hlvn]
 refine gP_ ?_
 refine zi (λhltc=>?_) (λhgec=>?_)
 ·have hltc:cc<n:=by omega
  rw[XU hltc]at hdc
  refine gP_ ?_
  refine gP_ ?_
  refine S.ld (b:=b4) ?_ (XW (f:=sy) (by omega) (by omega))
  refine zn (c:=sy b cc) (λ_ K2 hK2=>?_) ?_
  ·refine gP_ ?_
   refine gP_ ?_
   refine S.ld (b:=b4) ?_ (XW (f:=sy) (by omega) (by omega))
   exact hK2
  refine zn (c:=decide (a≠cc)) (λ_ K2 hK2=>?_) ?_
  ·refine gP_ ?_
   rw[show decide ((a:Int)≠(cc:Int))=decide (a≠cc)from decide_eq_decide.2 (by omega)]
   exact hK2
  refine zn (c:=!sy a cc) (λ_ K2 hK2=>?_) ?_
  ·refine gP_ ?_
   refine gP_ ?_
   refine S.ld (b:=b4) ?_ (XW (f:=sy) (by omega) (by omega))
   refine gP_ ?_
   exact hK2
  have hH:clH sy a b cc = !(((sy a b&&sy b cc)&&decide (a≠cc)) && !sy a cc):=by
   rw[clH,Bool.and_assoc (sy a b&&sy b cc),decide_not]
  refine c_b (λhbad=>?_) (λhgood=>?_)
  ·rw[hH,hbad]at hdc
   have hA:(List.range n).all (clH sy a b)=false:=by rw[← hdc];rfl
   rw[hfalse (by rw[clG,hA,Bool.false_and])]at h
   exact h _ S.ext
  ·rw[hH,hgood,Bool.not_false,Bool.true_and]at hdc
   refine gP_ ?_
   rw[show ((cc:Int)+1)=((cc+1:Nat):Int)by omega]
   exact hK9 (cc+1) _ ⟨hltc,hdc,S⟩ (by omega)
 have hce:cc=n:=by omega
 rw[hce,XV]at hdc
 refine gP_ ?_
 refine zn (c:=mu a b) (λ_ K2 hK2=>?_) ?_
 ·refine gP_ ?_
  refine gP_ ?_
  refine S.ld (b:=b3) ?_ (XW (f:=mu) (by omega) (by omega))
  exact hK2
 refine zn (c:=!sy a b) (λ_ K2 hK2=>?_) ?_
 ·refine gP_ ?_
  refine gP_ ?_
  refine S.ld (b:=b4) ?_ (XW (f:=sy) (by omega) (by omega))
  refine gP_ ?_
  exact hK2
 have hG:clG n mu sy a b = !((decide ((a:Int)≠(b:Int))&&mu a b) && !sy a b):=by
  rw[clG,← hdc,Bool.true_and,Bool.and_assoc,show decide ((a:Int)≠(b:Int)) = !decide (a=b)from by rw[← decide_not];exact decide_eq_decide.2 (by omega)]
 refine c_b (λhbad=>?_) (λhgood=>?_)
 ·rw[hfalse (by rw[hG,hbad];rfl)]at h
  exact h _ S.ext
 ·rw[hG,hgood,Bool.not_false,Bool.true_and]at hdb
  refine gP_ ?_
  rw[show ((b:Int)+1)=((b+1:Nat):Int)by omega]
  exact hK8 (b+1) _ ⟨hltb,hdb,S⟩ (by omega)
end
section
variable {ss:List StD} {w:World} {r:Gh} {q p0:Option Addr} {K:Value→World→Prop} {tys l:List TyD} {p:PlD} {c:List Value}
def yl(ss:List StD)(t:TyD)(k:Int):Option (TyD×Int):=
 if k = -1∧t.k=3 then t.of.head?.map λu=>(u,1)
 else if k = -1∧t.k=4 then t.of.head?.map λu=>(u,if t.m then 2 else 3)
 else if 0≤k∧t.k=5 then(ze ss t.st)[k.toNat]?.map λu=>(u,0)
 else none
def zL(ss:List StD):List Int→TyD→Option (TyD×List Int)
 |[],t=>some (t,[])
 |k::l,t=>(yl ss t k).bind λs=>(zL ss l s.1).map λx=>(x.1,s.2::x.2)
theorem J7(ss:List StD):∀(l:List Int)(k:Int)(t:TyD),zL ss (l++[k]) t=(zL ss l t).bind λx=>(yl ss x.1 k).map λs=>(s.1,x.2++[s.2])
 |[],k,t=>by
  show(yl ss t k).bind _=(yl ss t k).map _
  cases yl ss t k<;>rfl
 |x::l,k,t=>by
  rw[List.cons_append,zL,zL]
  cases h:yl ss t x with
  |none=>rfl
  |some s=>
   show(zL ss (l++[k]) s.1).map _=((zL ss l s.1).map _).bind _
   rw[J7 ss l k s.1]
   cases zL ss l s.1 with
   |none=>rfl
   |some y=>
    show((yl ss y.1 k).map _).map _=(yl ss y.1 k).map _
    cases yl ss y.1 k<;>rfl
theorem J8{ss:List StD}:∀{l m:List Int}{t:TyD},zL ss l t=none→zL ss (l++m) t=none
 |[],m,t,h=>by cases h
 |x::l,m,t,h=>by
  rw[List.cons_append,zL]
  rw[zL]at h
  cases hs:yl ss t x with
  |none=>rfl
  |some s=>
   rw[hs]at h
   have h:(zL ss l s.1).map (λx=>(x.1,s.2::x.2))=none:=h
   have :zL ss l s.1=none:=by cases hw:zL ss l s.1 with|none=>rfl|some y=>rw [hw]at h;cases h
   show(zL ss (l++m) s.1).map _=none
   rw[J8 this];rfl
theorem XX{ss:List StD}:∀{l:List Int}{t:TyD}{x:TyD×List Int},zL ss l t=some x→x.2.length=l.length
 |[],t,x,h=>by cases h;rfl
 |k::l,t,x,h=>by
  rw[zL]at h
  cases hs:yl ss t k with
  |none=>rw [hs]at h;cases h
  |some s=>
   rw[hs]at h
   have h:(zL ss l s.1).map (λx=>(x.1,s.2::x.2))=some x:=h
   cases hw:zL ss l s.1 with
   |none=>rw [hw]at h;cases h
   |some y=>rw [hw]at h;cases h;simp[XX hw]
theorem adt(hg:qg ss){t:TyD}{k:Int}{s:TyD×Int}(h:Fine ss t)(e:yl ss t k=some s):Fine ss s.1:=by
 have inside:∀{n:Int},t.of.head?.map (λu=>(u,n))=some s→Fine ss s.1:=by
  intro n e
  rcases h.cases with⟨h1,_⟩|⟨u,h1,h2,_⟩
  ·rw[h1]at e;cases e
  ·rw[h1]at e;cases e;exact h2
 unfold yl at e
 split at e
 ·exact inside e
 split at e
 ·exact inside e
 split at e
 ·cases hu:(ze ss t.st)[k.toNat]? with
  |none=>rw [hu]at e;cases e
  |some u=>rw [hu]at e;cases e;exact hg _ u (List.mem_of_getElem? hu)
 ·cases e
theorem J9{ss:List StD}(hg:qg ss):∀{l:List Int}{t:TyD}{x:TyD×List Int},Fine ss t→zL ss l t=some x→Fine ss x.1
 |[],t,x,h,e=>by cases e;exact h
 |k::l,t,x,h,e=>by
  rw[zL]at e
  cases hs:yl ss t k with
  |none=>rw [hs]at e;cases e
  |some s=>
   rw[hs]at e
   have e:(zL ss l s.1).map (λx=>(x.1,s.2::x.2))=some x:=e
   cases hw:zL ss l s.1 with
   |none=>rw [hw]at e;cases e
   |some y=>rw [hw]at e;cases e;show Fine ss y.1;exact J9 hg (adt hg h hs) hw
noncomputable def yW(ss:List StD)(tys:List TyD)(p:PlD):Bool:=
 ((decide (0≤p.l)&&decide (p.l<tys.length))&&decide (p.ps.length≤8))&&(decide ((zC ss).2=0)&&tys.all λt=>yA ss t)
noncomputable def zN(ss:List StD)(tys:List TyD)(p:PlD):Option (TyD×List Int):=if yW ss tys p then zL ss p.ps (tys.getD p.l.toNat yk)else none
theorem VV{f:TyD→Bool}{fv:Value}{cap:Nat}{K:Value→World→Prop}(hr:Holds r w)(hl:TysG r q l)(hb:l.length≤maxLen)
  (hf:∀t∈l,∀(q:Option Addr)(cap:Nat)(w:World)(K:Value→World→Prop),Holds r w→TyG r (tyV t q cap) t→(∀w',Ext w w'→K (.bool (f t)) w')→zx Tryz.prog fv #[tyV t q cap] w K)
  (h:∀(i:Int) w',Ext w w'→(0≤i↔l.any f=true)→K (.int .i64 i) w'):zc Tryz.prog Tryz.ya #[.slice q l.length cap,fv] w K:=by
 refine Tryz.kG ?_
 unfold Tryz.yU
 have S:=St.start hr
 have hb':l.length≤9223372036854775807:=hb
 refine gP_ ?_
 refine zj (ι:=Nat) (λi=>[.int .i64 (i:Nat)]) (λi w'=>i≤l.length∧(l.take i).any f=false∧StX noX w r w' []) (λi=>l.length-i) 0 rfl ⟨gzl _,by simp,S⟩ ?_
 clear S
 rintro i d w' ⟨hi,hn,S⟩ K6 hK6
 simp only[gdz]
 refine gP_ ?_
 refine zi (λhlt=>?_) (λhge=>?_)
 ·have hlt:i<l.length:=by omega
  obtain⟨b,off,c,rfl,hc,hcell,hto⟩:=hl i hlt
  obtain⟨q2,cap2,rfl,ht2⟩:=xP hto
  refine gP_ ?_
  refine zu (n:=5) hc (λj v hj=>by rw[tnc];exact S.at (hcell j v hj)) ?_
  refine hf l[i] (gem hlt) _ _ _ _ S.holds ht2 λw2 e2=>?_
  have S:=S.go e2
  have ht:(l.take (i+1)).any f=((l.take i).any f||f l[i]):=by
   rw[List.take_succ_eq_append_getElem hlt,List.any_append];simp only[List.any_cons,List.any_nil,Bool.or_false]
  refine c_b (λhy=>?_) (λhno=>?_)
  ·refine h _ _ S.ext ⟨λ_=>?_,λ_=>Int.natCast_nonneg _⟩
   exact List.any_eq_true.2 ⟨l[i],gem hlt,hy⟩
  ·refine gP_ ?_
   rw[show ((i:Int)+1)=((i+1:Nat):Int)by omega]
   refine hK6 (i+1) _ ⟨hlt,?_,S⟩ (by omega)
   rw[ht,hn,hno];rfl
 ·have :i=l.length:=by omega
  subst this
  rw[List.take_length]at hn
  exact h _ _ S.ext ⟨λh=>by omega,λh=>by rw[hn]at h;cases h⟩
theorem QB{f:TyD→Bool}{fv:Value}{cap:Nat}{K:Value→World→Prop}(hr:Holds r w)(hl:TysG r q l)(hb:l.length≤maxLen)
  (hf:∀t∈l,∀(q:Option Addr)(cap:Nat)(w:World)(K:Value→World→Prop),Holds r w→TyG r (tyV t q cap) t→(∀w',Ext w w'→K (.bool (f t)) w')→zx Tryz.prog fv #[tyV t q cap] w K)
  (h:∀w',Ext w w'→K (.bool (l.any f)) w'):zc Tryz.prog Tryz.zZ #[.slice q l.length cap,fv] w K:=by
 refine Tryz.x9 ?_
 unfold Tryz.yG
 refine VV hr hl hb hf λi w' e hi=>?_
 refine gP_ ?_
 have e2:decide (i≥0)=l.any f:=by
  by_cases hh:l.any f=true
  ·rw[hh];exact gde (hi.2 hh)
  ·rw[Bool.eq_false_iff.2 hh];exact decide_eq_false λh=>hh (hi.1 h)
 rw[e2];exact h _ e
theorem aaq(h:yW ss tys p=false):zN ss tys p=none:=by rw[zN,h];rfl
theorem XY{cap0 capt:Nat}{K:Value→World→Prop}(hr:Holds r w)(hs:StG r p0 ss)(ht:TysG r q tys)(htl:tys.length≤maxLen)(hp:PlG r c p)
  (hN:∀w',zN ss tys p=none→Ext w w'→K (.tuple #[ahz,.slice none 0 0,.bool false]) w')
  (hS:∀t g q cap vg s w',zN ss tys p=some (t,g)→Ext w w'→New w s w'→TyG r (tyV t q cap) t→SlG 1 s ye vg g→K (.tuple #[tyV t q cap,vg,.bool true]) w'):
  zc Tryz.prog Tryz.jj #[.slice p0 ss.length cap0,.slice q tys.length capt,.agg c.toArray] w K:=by
 obtain⟨v,rfl,hl⟩:=hp
 obtain⟨qs,caps,rfl,_,_⟩:=hl.sl.shape
 have hbl:=hl.lt
 have htl':tys.length≤9223372036854775807:=htl
 refine Tryz.aaP ?_
 unfold Tryz.XS
 have S:=St.start hr
 refine S.box λb3 w1 S=>?_
 refine S.box λb5 w2 S=>?_
 refine S.al λb6 w3 S=>?_
 have S:StX noX w r w3 [.cell b6 ahA 112,.cell b5 [.int .i64 p.l,.slice qs p.ps.length caps] 59,.cell b3 [.slice p0 ss.length cap0] 22]:=S
 refine gG_ ?_
 refine zq (c:=decide ((tys.length:Int)≤p.l)) (λ_ K2 hK2=>?_) ?_
 ·refine gG_ ?_
  exact hK2
 refine zq (c:=decide (8<p.ps.length)) (λ_ K2 hK2=>?_) ?_
 ·refine gG_ ?_
  rw[show decide ((8:Int)<(p.ps.length:Int))=decide (8<p.ps.length)from decide_eq_decide.2 (by omega)]
  exact hK2
 refine c_b (λhbad=>?_) (λhgood=>?_)
 ·have hn:yW ss tys p=false:=by
   cases e:yW ss tys p
   ·rfl
   ·simp only[yW,gba,gdt]at e
    simp only[Bool.or_eq_true,gdt]at hbad;omega
  refine S.ldB (b:=b6) ?_ rfl
  refine S.stB (b:=b6) λw4 S=>?_
  refine gG_ ?_
  exact hN _ (aaq hn) S.ext
 have hlo:(0≤p.l∧p.l<tys.length)∧p.ps.length≤8:=by
  simp only[Bool.or_eq_false_iff,decide_eq_false_iff_not]at hgood;omega
 clear hgood
 obtain⟨⟨hl0,hl1⟩,hl8⟩:=hlo
 refine gG_ ?_
 refine jr S.holds hs λw4 e4=>?_
 have S:=S.go e4
 refine gS_ ?_
 have S:=S.frzAt b3
 refine je (c:=tys.any λt=>!yA ss t) (λ_ K2 hK2=>?_) λw5 e5=>?_
 ·refine gP_ ?_
  refine QB (f:=λt=>!yA ss t) S.holds (TysG.up ht) htl (λt _ q cap w K hr htt hK=>?_) λw6 e6=>?_
  ·refine JV (by kernel_rfl) ?_
   refine Tryz.J3 ?_
   unfold Tryz.Yy
   have B:Blk w b3 [.slice p0 ss.length cap0] 22:=hr b3 _ (.inr ⟨rfl,rfl⟩)
   have S:=St.start hr
   refine S.box λb1 w1 S=>?_
   have S:StX noX w _ w1 [.cell b1 (tyL t q cap) 112]:=S
   refine zg (v:=.slice p0 ss.length cap0) (by
    have B:Blk w1 b3 [.slice p0 ss.length cap0] 22:=S.holds b3 _ (.inr ⟨rfl,rfl⟩)
    rw[B.cell];rfl) ?_
   refine S.ldB (b:=b1) ?_ rfl
   refine jX S.holds hs.up htt λw2 e2=>?_
   refine gP_ ?_
   exact hK _ (S.go e2).ext
  exact hK2 _ e6
 have S:=S.go e5
 refine c_b (λhbad=>?_) (λhgood=>?_)
 ·have hn:yW ss tys p=false:=by
   cases e:yW ss tys p
   ·rfl
   ·simp only[yW,gba,gdt,List.all_eq_true]at e
    simp only[Bool.or_eq_true,gdt,List.any_eq_true,Bool.not_eq_true']at hbad
    rcases hbad with h1|⟨t,h1,h2⟩
    ·exact absurd e.2.1 h1
    ·rw[e.2.2 t h1]at h2;cases h2
  refine S.ldB (b:=b6) ?_ rfl
  refine S.stB (b:=b6) λw4 S=>?_
  refine gG_ ?_
  exact hN _ (aaq hn) S.ext
 have hok:(zC ss).2=0∧∀t∈tys,yA ss t=true:=by
  simp only[Bool.or_eq_false_iff,decide_eq_false_iff_not,List.any_eq_false,Bool.not_eq_true',Bool.not_eq_false]at hgood
  exact⟨by omega,hgood.2⟩
 clear hgood
 obtain⟨hst,hmay⟩:=hok
 obtain⟨h32,_,hg,_⟩:=jq hst
 have hO:yW ss tys p=true:=by
  simp only[yW,gba,gdt,List.all_eq_true]
  exact⟨⟨⟨hl0,hl1⟩,hl8⟩,hst,hmay⟩
 have hlt0:p.l.toNat<tys.length:=by omega
 have hW:zN ss tys p=zL ss p.ps tys[p.l.toNat]:=by
  rw[zN,if_pos hO,ggd,gqg hlt0];rfl
 rw[hW]at hN hS
 obtain⟨bt,ot,ct,rfl,hct,hcell,htc⟩:=ht p.l.toNat hlt0
 have hfi:Fine ss tys[p.l.toNat]:=(JX (hmay _ (gem hlt0))).2
 generalize tys[p.l.toNat]=t0 at hN hS htc hfi
 obtain⟨q0,cap1,rfl,ht0⟩:=xP htc
 refine gG_ ?_
 refine zu (n:=5) hct (λj v hj=>S.at (hcell j v hj)) ?_
 refine S.stB (b:=b6) λw7 S=>?_
 refine gG_ ?_
 have S:=S.ownNil 3 1
 refine zj (ι:=Nat×Value×TyD×Option Addr×Nat×List Int) (λi=>[i.2.1,.int .i64 (i.1:Nat)]) (λi w'=>i.1≤p.ps.length∧zL ss (p.ps.take i.1) t0=some (i.2.2.1,i.2.2.2.2.2)∧TyG r (tyV i.2.2.1 i.2.2.2.1 i.2.2.2.2.1) i.2.2.1∧
  StX noX w (r.or (Go.Sh.one b3 [.slice p0 ss.length cap0] 22)) w' [.row i.2.1 3 1 i.1 (ints i.2.2.2.2.2),.cell b6 (tyL i.2.2.1 i.2.2.2.1 i.2.2.2.2.1) 112,.cell b5 [.int .i64 p.l,.slice qs p.ps.length caps] 59]) (λi=>p.ps.length-i.1) (0,.slice none 0 0,t0,q0,cap1,[]) rfl ⟨gzl _,rfl,ht0,S⟩ ?_
 clear S
 rintro⟨i,vg,t,q,cap,g⟩ d w8 ⟨hi,hw,htt,S⟩ K6 hK6
 simp only at hi hw htt S⊢
 simp only[gdz,gds]
 refine gP_ ?_
 have hft:Fine ss t:=J9 hg hfi hw
 have hgl:g.length=(p.ps.take i).length:=XX hw
 rw[List.length_take]at hgl
 refine zi (λhlt=>?_) (λhge=>?_)
 rotate_left
 ·have hie:i=p.ps.length:=by omega
  rw[hie,List.take_length]at hw
  have hvo:=S.row1 vg
  refine S.ldB (b:=b6) ?_ rfl
  refine S.stB (b:=b6) λw9 S=>?_
  refine gG_ ?_
  obtain⟨s,S,hsl,_,hab⟩:=S.doneRow (l:=g) (R:=ye) (sz:=1) ⟨by rw[ka,Nat.mul_one],λj hj=>by
   show _=_
   rw[Nat.mul_one,ints,← List.map_drop,← List.map_take,List.drop_eq_getElem_cons hj];rfl⟩ (by decide) (by omega)
  exact hS _ _ _ _ _ s _ hw S.ext (S.newOf λb o ho=>(hab b o ho).resolve_right id) htt hsl
 have hlt:i<p.ps.length:=by omega
 obtain⟨k,hke⟩:∃k,p.ps[i]=k:=⟨_,rfl⟩
 obtain⟨bs,os,cs,rfl,hcs,hck,hcl⟩:=hl.sl.get (by decide) hlt
 rw[hke]at hck
 obtain⟨rfl,hin⟩:=hck
 have hstep:zL ss (p.ps.take (i+1)) t0=(yl ss t k).map λs=>(s.1,g++[s.2]):=by
  rw[List.take_succ_eq_append_getElem hlt,J7,hw,hke];rfl
 have hbadk:yl ss t k=none→zL ss p.ps t0=none:=λe=>by
  have:=J8 (m:=p.ps.drop (i+1)) (hstep.trans (by rw[e];rfl))
  rwa[List.take_append_drop]at this
 have down:(t.k=3∨t.k=4)→∃uu,t.of=[uu]:=by
  intro hk
  rcases hft.cases with⟨_,h1⟩|⟨uu,h1,_⟩
  ·omega
  ·exact⟨uu,h1⟩
 refine zs (λs w'=>∃how t' q' cap' v',yl ss t k=some (t',how)∧s=[v']∧TyG r (tyV t' q' cap') t'∧
  StX noX w (r.or (Go.Sh.one b3 [.slice p0 ss.length cap0] 22)) w' [.row v' 3 1 (i+1) (ints (g++[how])),.cell b6 (tyL t' q' cap') 112,.cell b5 [.int .i64 p.l,.slice (some ⟨bs,os,none⟩) p.ps.length caps] 59]) (λK27 hK27=>?_) ?_
 rotate_left
 ·rintro _ w9 ⟨how,t',q',cap',v',h1,rfl,h2,S⟩ d9
  rw[gdz]
  refine gP_ ?_
  rw[show ((i:Int)+1)=((i+1:Nat):Int)by omega]
  exact hK6 (i+1,v',t',q',cap',g++[how]) _ ⟨hlt,hstep.trans (by rw[h1];rfl),h2,S⟩ (by show p.ps.length-(i+1)<p.ps.length-i;omega)
 refine gP_ ?_
 refine zg (v:=.int .i64 k) (by simpa using S.at (hcl 0 _ rfl)) ?_
 refine zs (λs w'=>w'=w8∧∃how:Int,s=[vg,.int .i64 how]∧((k = -1∧t.k=3∧how=1)∨(k = -1∧t.k=4∧how=if t.m then 2 else 3)∨(0≤k∧t.k=5∧k<(ze ss t.st).length∧how=0))) (λK31 hK31=>?_) ?_
 ·refine gP_ ?_
  refine zn (c:=decide (t.k=3)) (λ_ K2 hK2=>?_) ?_
  ·refine gG_ ?_
   exact hK2
  refine c_b (λhB=>?_) (λhB=>?_)
  ·have hB:k = -1∧t.k=3:=by simpa using hB
   exact hK31 _ _ ⟨rfl,1,rfl,.inl ⟨hB.1,hB.2,rfl⟩⟩
  have hB:¬(k = -1∧t.k=3):=by simpa using hB
  refine gP_ ?_
  refine zn (c:=decide (t.k=4)) (λ_ K2 hK2=>?_) ?_
  ·refine gG_ ?_
   exact hK2
  refine zn (c:=t.m) (λ_ K2 hK2=>?_) ?_
  ·refine gG_ ?_
   exact hK2
  refine c_b (λhM=>?_) (λhM=>?_)
  ·have hM:(k = -1∧t.k=4)∧t.m=true:=by simpa using hM
   exact hK31 _ _ ⟨rfl,2,rfl,.inr (.inl ⟨hM.1.1,hM.1.2,by rw[hM.2];rfl⟩)⟩
  refine gP_ ?_
  refine zn (c:=decide (t.k=4)) (λ_ K2 hK2=>?_) ?_
  ·refine gG_ ?_
   exact hK2
  refine c_b (λhR=>?_) (λhR=>?_)
  ·have hR:k = -1∧t.k=4:=by simpa using hR
   have hm:t.m=false:=by
    cases e:t.m
    ·rfl
    ·rw[e,gde hR.1,gde hR.2]at hM;cases hM
   exact hK31 _ _ ⟨rfl,3,rfl,.inr (.inl ⟨hR.1,hR.2,by rw[hm];rfl⟩)⟩
  have hR:¬(k = -1∧t.k=4):=by simpa using hR
  refine gG_ ?_
  refine zq (c:=decide (k<0)) (λ_ K2 hK2=>?_) ?_
  ·refine gG_ ?_
   exact hK2
  refine zq (c:=decide (((ze ss t.st).length:Int)≤k)) (λh5 K2 hK2=>?_) ?_
  ·have h5:t.k=5∧0≤k:=by simpa using h5
   obtain⟨hst0,hst1⟩:=hft.st h5.1
   have hslt:t.st.toNat<ss.length:=by omega
   obtain⟨b,off,q9,capq,rfl,hcell9,_,_,hfl⟩:=jW hs hslt
   have hlen:(ze ss t.st).length=ss[t.st.toNat].fs.length:=by
    rw[← XP hslt];simp only[ze,tnc]
   refine zg (v:=.slice (some ⟨b,off,none⟩) ss.length cap0) (by
    have B:Blk w8 b3 [.slice (some ⟨b,off,none⟩) ss.length cap0] 22:=S.holds b3 _ (.inr ⟨rfl,rfl⟩)
    rw[B.cell];rfl) ?_
   refine gG_ ?_
   refine zg (S.at hcell9) ?_
   refine gG_ ?_
   rw[← hlen]
   exact hK2
  refine c_b (λhX=>?_) (λhX=>?_)
  ·have hnone:yl ss t k=none:=by
    rw[yl,if_neg hB,if_neg hR]
    split
    ·rename_i h5
     have h50:=h5.1
     rw[List.getElem?_eq_none]
     ·rfl
     ·have :((ze ss t.st).length:Int)≤k:=by
       simp only[Bool.or_eq_true,gdt]at hX;omega
      omega
    ·rfl
   refine zw (cs:=#[.int .u8 0,.bool false,.int .i64 0,.int .i64 0,.slice none 0 0]) (by kernel_rfl) ?_
   refine S.stB (b:=b6) λw9 S=>?_
   refine gG_ ?_
   exact hN _ (hbadk hnone) S.ext
  ·have hX:(t.k=5∧0≤k)∧k<(ze ss t.st).length:=by
    simp only[Bool.or_eq_false_iff,decide_eq_false_iff_not]at hX;omega
   exact hK31 _ _ ⟨rfl,0,rfl,.inr (.inr ⟨hX.1.2,hX.1.1,hX.2,rfl⟩)⟩
 rintro _ _ ⟨rfl,how,rfl,hcase⟩ d10
 simp only[gdz,gds]
 refine S.lit (e:=3) (cs:=[.int .i64 how]) (by kernel_rfl) λb9 w9 S=>?_
 refine S.ap (m':=1) (Sl.blk (S.blk b9)) (λv9 w10 S=>?_) (by omega)
 have S:=S.tl
 have hins:ints g++[.int .i64 how]=ints (g++[how]):=by rw[ints,ints,List.map_append];rfl
 rw[hins]at S
 refine gP_ ?_
 refine zi (λhz=>?_) (λhnz=>?_)
 ·have h5:0≤k∧t.k=5∧k<(ze ss t.st).length:=by
   rcases hcase with⟨_,_,h⟩|⟨_,_,h⟩|⟨h1,h2,h3,_⟩
   ·omega
   ·split at h<;>omega
   ·exact⟨h1,h2,h3⟩
  obtain⟨hk0,hk5,hkl⟩:=h5
  obtain⟨hst0,hst1⟩:=hft.st hk5
  have hslt:t.st.toNat<ss.length:=by omega
  obtain⟨b,off,q9,capq,rfl,hcell9,_,_,hfl⟩:=jW hs hslt
  have htl2:ze ss t.st=ss[t.st.toNat].fs.map (·.2):=by
   rw[← kO hslt];simp only[ze,tnc]
  have hkf:k.toNat<ss[t.st.toNat].fs.length:=by
   rw[htl2,List.length_map]at hkl;omega
  obtain⟨b10,off9,c9,rfl,hc9,hcell8,ht9⟩:=Qq hfl hkf
  obtain⟨q2,cap2,rfl,ht2⟩:=xP ht9
  refine zg (v:=.slice (some ⟨b,off,none⟩) ss.length cap0) (by
   have B:Blk w10 b3 [.slice (some ⟨b,off,none⟩) ss.length cap0] 22:=S.holds b3 _ (.inr ⟨rfl,rfl⟩)
   rw[B.cell];rfl) ?_
  refine gG_ ?_
  refine zg (S.at hcell9) ?_
  refine gG_ ?_
  refine zu (n:=5) (c:=tyL _ q2 cap2) rfl (λj v hj=>by have:=S.at (hcell8 (j+1) v hj);rwa[show off9+k.toNat*6+(j+1)=off9+k.toNat*6+1+j by omega]at this) ?_
  refine S.stB (b:=b6) λw11 S=>?_
  refine hK27 _ _ ⟨how,_,q2,cap2,v9,?_,rfl,ht2,S⟩
  rw[yl,if_neg (by omega),if_neg (by omega),if_pos ⟨hk0,hk5⟩,htl2,List.getElem?_map,gqg hkf,hz];rfl
 ·have h34:k = -1∧((t.k=3∧how=1)∨(t.k=4∧how=if t.m then 2 else 3)):=by
   rcases hcase with⟨h1,h2,h⟩|⟨h1,h2,h⟩|⟨h1,h2,h3,h⟩
   ·exact⟨h1,.inl ⟨h2,h⟩⟩
   ·exact⟨h1,.inr ⟨h2,h⟩⟩
   ·exact absurd h hnz
  obtain⟨hk1,h34⟩:=h34
  obtain⟨uu,hof⟩:=down (h34.imp (·.1) (·.1))
  obtain⟨bo,oo,q2,cap2,rfl,ht2,hcc⟩:=J0 htt hof
  have hl1:t.of.length=1:=by rw[hof];rfl
  refine gG_ ?_
  refine zu (n:=5) (c:=tyL uu q2 cap2) rfl (λj v hj=>by simpa using S.at (hcc j v hj)) ?_
  refine S.stB (b:=b6) λw11 S=>?_
  refine hK27 _ _ ⟨how,uu,q2,cap2,v9,?_,rfl,ht2,S⟩
  rcases h34 with⟨h1,h2⟩|⟨h1,h2⟩
  ·rw[yl,if_pos ⟨hk1,h1⟩,hof,h2];rfl
  ·rw[yl,if_neg (by omega),if_pos ⟨hk1,h1⟩,hof,h2];rfl
theorem aco{cap0 capt:Nat}{K:Value→World→Prop}(hr:Holds r w)(hs:StG r p0 ss)(ht:TysG r q tys)(htl:tys.length≤maxLen)(hp:PlG r c p)
  (h:∀w',Ext w w'→K (.bool (zN ss tys p).isSome) w'):zc Tryz.prog Tryz.Z5 #[.slice p0 ss.length cap0,.slice q tys.length capt,.agg c.toArray] w K:=by
 refine Tryz.abA ?_
 unfold Tryz.QT
 obtain⟨v,rfl,hl⟩:=id hp
 obtain⟨qs,caps,rfl,_,_⟩:=hl.sl.shape
 have S:=St.start hr
 refine S.box λb5 w1 S=>?_
 have S:StX noX w r w1 [.cell b5 [.int .i64 p.l,.slice qs p.ps.length caps] 59]:=S
 refine S.ldB (b:=b5) ?_ rfl
 refine XY S.holds hs ht htl hp (λw2 hn e2=>?_) λt g q cap vg s w2 hsm e2 n2 htt hg=>?_
 ·have S:=S.go e2
  refine gP_ ?_
  refine gP_ ?_
  refine gP_ ?_
  refine S.al λb7 w3 S=>?_
  refine S.stB (b:=b7) λw4 S=>?_
  have:=h _ S.ext
  rw[hn]at this;exact this
 ·have S:=S.go e2
  refine gP_ ?_
  refine gP_ ?_
  refine gP_ ?_
  refine S.al λb7 w3 S=>?_
  refine S.stB (b:=b7) λw4 S=>?_
  have:=h _ S.ext
  rw[hsm]at this;exact this
end
end Go.Proofs
namespace Go.Sh
open Go.RowKit Go.MapKept
section
def zr1(P:Program)(t:TypeId):Option Value:=(P.info? t).bind λi=>i.zero
theorem aar{P:Program}{t:TypeId}{z:Value}(hz:zr1 P t=some z)(w:World):(zeroValue t).run P w=.ok z w:=by
 unfold zr1 at hz
 cases hi:P.info? t with
 |none=>rw [hi]at hz;cases hz
 |some i=>
  rw[hi]at hz
  have hz:i.zero=some z:=hz
  simp[zeroValue,typeInfo,Sem.run,pure,hi,hz,Sem.run_bind,Result.andThen]
def mpT(P:Program)(t:TypeId):Option (TypeId×TypeId):=match P.underlying t with
 |some (.map k e)=>(match P.underlying k with|some .string=>some (k,e)|_=>none)
 |_=>none
theorem abF{P:Program}{t k e:TypeId}(h:mpT P t=some (k,e)):P.underlying t=some (.map k e)∧P.underlying k=some .string:=by
 unfold mpT at h
 split at h
 ·rename_i k' e' h1
  split at h
  ·rename_i h2
   cases h;exact⟨h1,h2⟩
  ·cases h
 ·cases h
def Y1(x:ByteArray):List MapEntry→Option Value
 |[]=>none
 |m::l=>match m.key with|.string s=>if x == s then some m.val else Y1 x l|_=>Y1 x l
def afm(l:List MapEntry):Prop:=∀m∈l,∃s,m.key=.string s
theorem Jp{x:ByteArray}:∀{l:List MapEntry}{i:Nat},afm l→∃o,Instr.findNow .string (.string x) l i=some o∧o.map (·.2)=Y1 x l
 |[],i,_=>⟨none,rfl,rfl⟩
 |m::l,i,h=>by
  obtain⟨s,hs⟩:=h m List.mem_cons_self
  cases hx:(x == s)with
  |true=>
   refine⟨some (i,m.val),?_,?_⟩
   ·rw[Instr.findNow,hs]
    simp[Instr.sameNow,hx]
   ·rw[Y1,hs];simp[hx]
  |false=>
   obtain⟨o,h1,h2⟩:=Jp (x:=x) (l:=l) (i:=i+1) λy hy=>h y (List.mem_cons_of_mem _ hy)
   refine⟨o,?_,?_⟩
   ·rw[Instr.findNow,hs]
    simp[Instr.sameNow,hx,h1]
   ·rw[h2,Y1,hs];simp[hx]
theorem aer(x y:ByteArray):(x == y)=(x.toList == y.toList):=by
 rw[show (x == y)=(x.data == y.data)by cases x;cases y;rfl,ByteArray.toList_eq,ByteArray.toList_eq,Bool.eq_iff_iff,beq_iff_eq,beq_iff_eq,Array.toList_inj]
section
variable {P:Program} {X:Nat→Prop} {w0 w:World} {r:Gh} {L:List Asr} {t k e:TypeId} {b c:Nat} {es:Array MapEntry}
theorem StX.addO(S:StX X w0 r w L){w':World}(ex:Ext w w'){o:Obj}(hb:w.heap.size≤b)(B:w'.heap[b]? = some o)(ho:Obj.isBook o=false):StX X w0 r w' (.obj b (· = o)::L):=by
 have S':=S.go ex
 refine⟨S'.x,S'.holds,?_,?_,.cons ?_ S'.apart⟩
 ·intro x hx;rcases List.mem_cons.1 hx with rfl|hx
  ·exact⟨o,B,ho,rfl⟩
  ·exact S'.has x hx
 ·intro x hx;rcases List.mem_cons.1 hx with rfl|hx
  ·rintro k rfl
   exact⟨.inl (by have:=S.x.size;omega),λo ho=>by have:=S.holds.lt ho;omega⟩
  ·exact S'.mine x hx
 ·rintro y hy k rfl hk
  have:=Asr.lt (S.has y hy) hk;omega
theorem StX.mkMap(S:StX X w0 r w L){K:Value→World→Prop}(h:∀b w',StX X w0 r w' (.obj b (· = .map #[] 0)::L)→K (.map (some b)) w'):opW P w (Instr.makeMap t none) K:=by
 refine⟨.map (some w.heap.size),{ w with heap:=w.heap.push (.map #[] 0) },?_,h _ _ (S.addO ?_ (Nat.le_refl _) ?_ rfl)⟩
 ·simp[Instr.makeMap,newObj,Sem.run_bind,Sem.run,pure,Result.andThen]
  try rfl
 ·exact⟨rfl,rfl,rfl,by simp,λb hb=>by simp[Array.getElem?_push,Nat.ne_of_lt hb]⟩
 ·simp
theorem StX.mapAdd(S:StX X w0 r w (.obj b (· = .map es c)::L)){x:ByteArray}{v:Value}(ht:mpT P t=some (k,e))(hs:afm es.toList)(hn:Y1 x es.toList=none){K:World→Prop}
  (h:∀w',StX X w0 r w' (.obj b (· = .map (es.push { key:=.string x,val:=v,born:=c }) (c+1))::L)→K w'):opU P w (Instr.mapUpdate t (.map (some b)) (.string x) v) K:=by
 obtain⟨ht,hk⟩:=abF ht
 obtain⟨o,hb,_,rfl⟩:=S.has _ List.mem_cons_self
 obtain⟨o,h1,h2⟩:=Jp (x:=x) (i:=0) hs
 have h3:o=none:=by
  rw[hn]at h2
  cases o with
  |none=>rfl
  |some y=>cases h2
 subst h3
 have hf:=run_findKey (w:=w) hk h1
 refine⟨{ w with heap:=w.heap.setIfInBounds b (.map (es.push { key:=.string x,val:=v,born:=c }) (c+1)) },?_,h _ ?_⟩
 ·simp[Instr.mapUpdate,run_underlying ht,MapKept.run_getObj_map hb,run_checkKey (w:=w) hk (k:=.string x) trivial false 9999,hf,MapKept.run_setObj_map _ hb,Result.andThen]
 ·obtain⟨e1,e2⟩:=heap_set hb (o':=.map (es.push { key:=.string x,val:=v,born:=c }) (c+1))
  exact S.turn (p:=[]) (x:=.obj b (· = .map es c)) (y:=.obj b (· = .map (es.push { key:=.string x,val:=v,born:=c }) (c+1))) ⟨rfl,rfl,rfl,by simp,λk _ hk=>e2 k hk⟩ ⟨_,e1,rfl,rfl⟩ λk hk=>.inl hk
theorem StX.mapGet(S:StX X w0 r w (.obj b (· = .map es c)::L)){x:ByteArray}{z:Value}(ht:mpT P t=some (k,e))(hz:zr1 P e=some z)(hs:afm es.toList){K:Value→Prop}(h:K ((Y1 x es.toList).getD z)):
  opQ P w (Instr.lookup t (.map (some b)) (.string x) false) K:=by
 obtain⟨ht,hk⟩:=abF ht
 obtain⟨o,hb,_,rfl⟩:=S.has _ List.mem_cons_self
 obtain⟨o,h1,h2⟩:=Jp (x:=x) (i:=0) hs
 refine⟨_,λw' ex=>?_,h⟩
 have hb':w'.heap[b]? = some (.map es c):=(ex.block b (Array.getElem?_eq_some_iff.1 hb).1).trans hb
 have hf:=run_findKey (w:=w') hk h1
 rw[← h2]
 cases o with
 |none=>simp [Instr.lookup,run_underlying ht,MapKept.run_getObj_map hb',run_checkKey (w:=w') hk (k:=.string x) trivial _ 9999,hf,aar hz,Result.andThen]
 |some y=>simp [Instr.lookup,run_underlying ht,MapKept.run_getObj_map hb',run_checkKey (w:=w') hk (k:=.string x) trivial _ 9999,hf,Result.andThen]
end
end
end Go.Sh
namespace Go.Sh
section
variable {K:Value→Prop}
theorem p_id{P:Program}{s:Sem Value}(h:opP P s K):opP P s K:=h
theorem q_id{P:Program}{w:World}{s:Sem Value}(h:opQ P w s K):opQ P w s K:=h
end
end Go.Sh
