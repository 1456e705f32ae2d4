/-
  Contracts: Structs, May, Words, Drops of package types.
  Contracts: the document's answer: plain, endless, words, Structs, May, Words, Drops, Copies.
  Contracts: the document's answer: endless, Structs, May, Words, Drops.
  Contracts: fits; a struct's fields in new memory, of both sides.
  A law's end: the answer is true, the input reads as it did.
  Whatever an argument reads as, it is a datum: one theorem for all types of numbers, texts, structs and slices.
  Lists in memory, of whatever things: what a slice tells, read and grown.
  Data that are of a type, taken apart; what slices of data tell.
  Programs as graphs, as data; what a memory tells of them.
  Which programs may be: the plain law.
  Which programs may be: what is walked may be, plain facts.
  Contracts: zero, the type of a place of a graph.
  Contracts: the type of an operand of a graph.
  Contracts: which fields a point may have.
  Contracts: the functions that stand in point.
  A step of a kind, told by its kind alone.
  The document's answer of layer 9: which types may be; how many words.
  Regions of a graph: the plain law.
  Regions of a type turned, erased: step by step.
  Shallow readings of functions. Made by a program (wip/gen/gen.py) out of the translation; the kernel checks each equality.
-/
import Derived.Test.YtngfnikkdhbajaaGreatQUc
import Derived.Test.YtngfnikkdhbajaaGreatQUa
import Derived.ChangeSame
import Derived.ChangeStays
import Derived.ReadAgain
import Derived.ProofKit
import Derived.OpenShut
import Derived.Deep.DeepHandedRow
import Derived.Lib.LaidTab
import Derived.Lib.SmallJoins
import Derived.ChangeArms
import Derived.DataReads
import Derived.Test.YtngfnikkdhbajaaGreatQUb
section
namespace Go.Proofs
open Go.Sh
set_option maxRecDepth 100000
set_option linter.unusedSimpArgs false
set_option linter.unusedVariables false
theorem vJ {X : Nat→Prop} {w0 : World} {r : Gh} {L : List Asr} {n : Nat} {q : Nat→Bool} {fv : Value} (hn : n≤1000)
  (hf : ∀ (i : Nat),i<n→∀ {w : World} {K : Value→World→Prop},StX X w0 r w L→(∀ w',StX X w0 r w' L→K (.bool (q i)) w')→zJ Tryz.prog fv #[.int .i64 i] w K) {w : World} {K : Value→World→Prop} (S : StX X w0 r w L)
  (h : ∀ w',StX X w0 r w' L→K (.int .i64 (yX n q)) w') : ze Tryz.prog Tryz.vv #[.int .i64 n,fv] w K:=by
 refine Tryz.aar ?_
 unfold Tryz.Xy
 refine zk (ι:=Nat) (fun i=>[.int .i64 i]) (fun i w'=>i≤n∧(∀ j,j<i→q j=false)∧StX X w0 r w' L) (fun i=>n - i) 0 rfl ⟨Nat.zero_le _,fun j hj=>by omega,S⟩ ?_
 clear S
 rintro i d w1 ⟨hi,hq,S⟩ K6 hK6
 rw [List.getD_cons_zero]
 refine gP_ ?_
 refine c_b (fun hlt=>?_) (fun hge=>?_)
 ·have hlt : i<n:=by simpa using hlt
  refine hf i hlt S fun w2 S=>?_
  refine c_b (fun hy=>?_) (fun hno=>?_)
  ·have:=h _ S
   rwa [kJ hlt hy hq] at this
  ·refine gP_ ?_
   rw [show ((i : Int)+1)=((i+1 : Nat) : Int) by omega]
   refine hK6 (i+1) _ ⟨hlt,fun j hj=>?_,S⟩ (by omega)
   by_cases hji : j=i
   ·rw [hji];exact hno
   ·exact hq j (by omega)
 ·have hge : i=n:=by
   have : ¬ i<n:=by simpa using hge
   omega
  have:=h _ S
  rwa [kI (fun j hj=>hq j (by omega))] at this
theorem vj {X : Nat→Prop} {w0 : World} {r s : Gh} {L : List Asr} {p : Option Addr} {cap : Nat} {fs : List (ByteArray × TyD)} {g : TyD→Bool} {fv : Value} (hfl : FlG s p fs) [Le s r] (hb : fs.length≤1000000000)
  (hf : ∀ f ∈ fs,∀ {c : List Value} {w : World} {K : Value→World→Prop},c.length=5→TyG s (.agg c.toArray) f.2→StX X w0 r w L→(∀ w',StX X w0 r w' L→K (.bool (g f.2)) w')→zJ Tryz.prog fv #[.agg (.string f.1::c).toArray] w K)
  {w : World} {K : Value→World→Prop} (S : StX X w0 r w L) (h : ∀ w',StX X w0 r w' L→K (.bool ((fs.map (·.2)).any g)) w') : ze Tryz.prog Tryz.zN #[.slice p fs.length cap,fv] w K:=by
 refine Tryz.xI ?_
 unfold Tryz.yF
 refine Tryz.x7 ?_
 unfold Tryz.yQ
 refine gP_ ?_
 refine zk (ι:=Nat) (fun i=>[.int .i64 i]) (fun i w'=>i≤fs.length∧((fs.take i).map (·.2)).any g=false∧StX X w0 r w' L) (fun i=>fs.length - i) 0 rfl ⟨Nat.zero_le _,by simp,S⟩ ?_
 clear S
 rintro i d w1 ⟨hi,hq,S⟩ K6 hK6
 rw [List.getD_cons_zero]
 refine gP_ ?_
 refine c_b (fun hlt=>?_) (fun hge=>?_)
 ·have hlt : i<fs.length:=by simpa using hlt
  obtain ⟨b2,off2,c,rfl,hcl,hcc,hty⟩:=xV hfl hlt
  refine gP_ ?_
  refine zq (n:=6) (c:=.string fs[i].1::c) (by simp [hcl]) (fun j v hj=>by rw [Int.toNat_natCast];exact S.at (hcc j v hj)) ?_
  refine hf fs[i] (List.getElem_mem hlt) hcl hty S fun w2 S=>?_
  refine c_b (fun hy=>?_) (fun hno=>?_)
  ·refine gP_ ?_
   have:=h _ S
   have e : (fs.map (·.2)).any g=true:=List.any_eq_true.2 ⟨fs[i].2,List.mem_map.2 ⟨_,List.getElem_mem hlt,rfl⟩,hy⟩
   rw [e] at this
   rw [show decide ((i : Int)≥0)=true by simp]
   exact this
  ·refine gP_ ?_
   rw [show ((i : Int)+1)=((i+1 : Nat) : Int) by omega]
   refine hK6 (i+1) _ ⟨hlt,?_,S⟩ (by omega)
   rw [List.take_succ_eq_append_getElem hlt,List.map_append,List.any_append,hq]
   simp [hno]
 ·have hge : i=fs.length:=by
   have : ¬ i<fs.length:=by simpa using hge
   omega
  rw [hge,List.take_length] at hq
  refine gP_ ?_
  have:=h _ S
  rw [hq] at this
  exact this
theorem xJ {ss : List StD} (h : ∀ k,k<ss.length→yS ss k=false) (k : Int) : (zd ss k).length≤8:=by
 by_cases hk : k.toNat<ss.length
 ·have:=h k.toNat hk
  have e : zd ss (k.toNat : Int)=zd ss k:=by rw [zd,zd,Int.toNat_natCast]
  rw [yS,e,Bool.or_eq_false_iff,Bool.or_eq_false_iff] at this
  simp only [decide_eq_false_iff_not] at this
  omega
 ·rw [aa6 hk];simp
section
variable {X : Nat→Prop} {w0 w : World} {r : Gh} {L : List Asr} {ss : List StD} {p : Option Addr} {cap b1 b4 : Nat} {f1 f4 : List Value→List Asr} {K : Value→World→Prop}
theorem Q5 {k : Nat} (hk : k<ss.length) (hs : StG r p ss) (S : StX X w0 r w L) [At b1 L [.slice p ss.length cap] 22 f1] [At b4 L [.int .i64 (ss.length : Nat)] 3 f4] (h : ∀ w',StX X w0 r w' L→K (.bool (yS ss k)) w') :
  zJ Tryz.prog (.func (.func Tryz.xA) #[] #[.pointer (some ⟨b1,0,none⟩),.pointer (some ⟨b4,0,none⟩)]) #[.int .i64 k] w K:=by
 refine xZ (by kernel_rfl) ?_
 refine Tryz.X8 (t0:=.int .i64 k) (t1:=.pointer (some ⟨b1,0,none⟩)) (t2:=.pointer (some ⟨b4,0,none⟩)) ?_
 unfold Tryz.vQ
 refine gL_ ?_
 obtain ⟨b,off,q,capq,rfl,hcell,hq0,hqc,hf⟩:=yZ hs hk
 refine gP_ ?_
 refine gP_ ?_
 refine zm (by rw [Int.toNat_natCast];exact S.at hcell) ?_
 refine gP_ ?_
 refine gP_ ?_
 have hlen:=qU hk
 refine zh (c:=decide (8<(zd ss k).length)) (fun _ K2 hK2=>?_) ?_
 ·refine gP_ ?_
  refine gP_ ?_
  rw [show decide ((8 : Int)<(ss[k].fs.length : Int))=decide (8<(zd ss k).length) from decide_eq_decide.2 (by omega)]
  exact hK2
 refine agk (fun w'=>StX X w0 r w' L) (c:=(zd ss k).any fun t=>!zy ss.length 48 t||decide (0<t.regs.length)) (fun _=>S) (fun hsm2 K2 hK2=>?_) fun w9 S=>?_
 ·have hsm2 : ss[k].fs.length≤8:=by
   simp only [Bool.or_eq_false_iff,decide_eq_false_iff_not] at hsm2;omega
  refine gP_ ?_
  refine vj (g:=fun t=>!zy ss.length 48 t||decide (0<t.regs.length)) hf (by omega) (fun f hfm {c} {w7} {K} hcl hty S hK=>?_) S fun w8 S=>?_
  ·refine Xd (by kernel_rfl) ?_
   refine Tryz.Xb ?_
   unfold Tryz.jA
   refine S.box fun b2 w8 S=>?_
   have S : StX X w0 r w8 (.cell b2 (.string f.1::c) 105::L):=S
   refine gP_ ?_
   refine S.fty hcl ?_
   refine S.ld (b:=b4) ?_ rfl
   refine ZD 48 (by decide) S.holds hty fun w9 e9=>?_
   have S:=S.go e9
   refine gP_ ?_
   refine yw (c:=decide (0<f.2.regs.length)) (fun hl K2 hK2=>?_) fun w10 e10=>?_
   ·have hl : zy ss.length 48 f.2=true:=by simpa using hl
    refine gP_ ?_
    refine S.fty hcl ?_
    refine Ya S.holds hty (by have:=QO hl;omega) fun v11 w11 e11 o11=>?_
    obtain ⟨p11,cap11,rfl,_⟩:=j8 o11
    refine gP_ ?_
    refine gP_ ?_
    rw [show decide ((f.2.regs.length : Int) > 0)=decide (0<f.2.regs.length) from decide_eq_decide.2 (by omega)]
    exact hK2 _ e11
   exact hK _ (S.go e10).tl
  ·rw [← yi hk]
   exact hK2 _ S
 ·have:=h _ S
  rw [yS] at this
  rw [show decide ((ss[k].fs.length : Int)<1)=decide ((zd ss k).length<1) from decide_eq_decide.2 (by omega)]
  exact this
theorem Q6 {k : Nat} (hk : k<ss.length) (h32 : ss.length≤32) (h1 : ¬ yX ss.length (yS ss)<ss.length) (hs : StG r p ss) (S : StX X w0 r w L) [At b1 L [.slice p ss.length cap] 22 f1] (h : ∀ w',StX X w0 r w' L→K (.bool (ko ss k)) w') :
  zJ Tryz.prog (.func (.func Tryz.xB) #[] #[.pointer (some ⟨b1,0,none⟩)]) #[.int .i64 k] w K:=by
 refine xZ (by kernel_rfl) ?_
 refine Tryz.X9 (t0:=.int .i64 k) (t1:=.pointer (some ⟨b1,0,none⟩)) ?_
 unfold Tryz.vR
 refine gL_ ?_
 exact VJ (YW (kS h1)) h32 hk (fun k=>xJ (kS h1) k) S.holds hs fun w9 e9=>h _ (S.go e9)
theorem Q7 {k : Nat} (hk : k<ss.length) (h32 : ss.length≤32) (h1 : ¬ yX ss.length (yS ss)<ss.length) (h2 : ¬ yX ss.length (ko ss)<ss.length) (hs : StG r p ss) (S : StX X w0 r w L) [At b1 L [.slice p ss.length cap] 22 f1] (h : ∀ w',StX X w0 r w' L→K (.bool (jR ss k)) w') :
  zJ Tryz.prog (.func (.func Tryz.xC) #[] #[.pointer (some ⟨b1,0,none⟩)]) #[.int .i64 k] w K:=by
 refine xZ (by kernel_rfl) ?_
 refine Tryz.Qa (t0:=.int .i64 k) (t1:=.pointer (some ⟨b1,0,none⟩)) ?_
 unfold Tryz.vS
 refine gL_ ?_
 refine zo (cs:=#[.int .u8 5,.bool false,.int .i64 0,.int .i64 k,.slice none 0 0]) (by kernel_rfl) ?_
 have hg:=YW (kS h1)
 refine aby hg (QQ hg (kS h2)) 40 (t:=.mk 5 false 0 k []) (by decide) (by have:=VH ss (.mk 5 false 0 k []);omega) ?_ (by omega) (fun k=>xJ (kS h1) k) S.holds hs (zI (r:=r)) fun w9 e9=>?_
 ·rw [yU]
  simp [TyD.k,TyD.m,TyD.re,TyD.of,TyD.st]
  omega
 ·refine gP_ ?_
  have:=h _ (S.go e9)
  rw [jR] at this
  rw [show decide ((((min (wF ss 40 (.mk 5 false 0 k [])) 17 : Nat) : Int)) > 16)=decide (16<wF ss 40 (.mk 5 false 0 k [])) from decide_eq_decide.2 (by omega)]
  exact this
end
theorem jm {ss : List StD} {p : Option Addr} {cap : Nat} {w : World} {r : Gh} {K : Value→World→Prop} (hr : Holds r w) (hs : StG r p ss)
  (h : ∀ w',Ext w w'→K (.tuple #[.int .i64 (zz ss).1,.int .i64 (zz ss).2]) w') : ze Tryz.prog Tryz.xr #[.slice p ss.length cap] w K:=by
 refine Tryz.JL ?_
 unfold Tryz.Z3
 have S:=St.start hr
 refine S.box fun b1 w1 S=>?_
 refine gL_ ?_
 refine gP_ ?_
 refine S.al fun b4 w2 S=>?_
 refine S.st fun w3 S=>?_
 refine gL_ ?_
 refine gP_ ?_
 refine c_b (fun hbig=>?_) (fun hsm=>?_)
 ·have hbig : 32<ss.length:=by have:=of_decide_eq_true hbig;omega
  rw [zz,if_pos hbig] at h
  exact h _ S.ext
 have hsm : ¬ 32<ss.length:=by have:=of_decide_eq_false hsm;omega
 rw [zz,if_neg hsm] at h
 refine gP_ ?_
 refine gP_ ?_
 refine gP_ ?_
 refine S.lit (e:=90) (cs:=[.func (.func Tryz.xA) #[] #[.pointer (some ⟨b1,0,none⟩),.pointer (some ⟨b4,0,none⟩)],.func (.func Tryz.xB) #[] #[.pointer (some ⟨b1,0,none⟩)],.func (.func Tryz.xC) #[] #[.pointer (some ⟨b1,0,none⟩)]]) (by kernel_rfl) fun b16 w4 S=>?_
 refine gP_ ?_
 have S : StX noX w r w4 [.cell b16 [.func (.func Tryz.xA) #[] #[.pointer (some ⟨b1,0,none⟩),.pointer (some ⟨b4,0,none⟩)],.func (.func Tryz.xB) #[] #[.pointer (some ⟨b1,0,none⟩)],.func (.func Tryz.xC) #[] #[.pointer (some ⟨b1,0,none⟩)]] 90,
  .cell b4 [.int .i64 (ss.length : Nat)] 3,.cell b1 [.slice p ss.length cap] 22]:=S
 refine zk (ι:=Nat) (fun i=>[.int .i64 i]) (fun i w'=>i≤3∧(0<i→¬ yX ss.length (yS ss)<ss.length)∧(1<i→¬ yX ss.length (ko ss)<ss.length)∧(2<i→¬ yX ss.length (jR ss)<ss.length)∧StX noX w r w' _) (fun i=>3 - i) 0 rfl
  ⟨by decide,fun h=>by omega,fun h=>by omega,fun h=>by omega,S⟩ ?_
 clear S
 rintro i d w5 ⟨hi,h1,h2,h3,S⟩ K6 hK6
 rw [List.getD_cons_zero]
 refine gP_ ?_
 match i,hi,h1,h2,h3 with
 |0,_,_,_,_=>
  refine c_t (by decide) ?_
  refine gP_ ?_
  refine S.ld (b:=b16) ?_ rfl
  refine S.ld (b:=b4) ?_ rfl
  refine vJ (q:=yS ss) (by omega) (fun i hi {w} {K} S k=>Q5 hi hs S k) S fun w9 S=>?_
  refine S.ld (b:=b4) ?_ rfl
  refine gP_ ?_
  refine c_b (fun hl=>?_) (fun hl=>?_)
  ·rw [if_pos (by have:=of_decide_eq_true hl;omega)] at h
   exact h _ S.ext
  ·refine gP_ ?_
   exact hK6 1 _ ⟨by decide,fun _=>by have:=of_decide_eq_false hl;omega,fun h=>by omega,fun h=>by omega,S⟩ (by decide)
 |1,_,h1,_,_=>
  have h1:=h1 (by decide)
  rw [if_neg h1] at h
  refine c_t (by decide) ?_
  refine gP_ ?_
  refine S.ld (b:=b16) ?_ rfl
  refine S.ld (b:=b4) ?_ rfl
  refine vJ (q:=ko ss) (by omega) (fun i hi {w} {K} S k=>Q6 hi (by omega) h1 hs S k) S fun w9 S=>?_
  refine S.ld (b:=b4) ?_ rfl
  refine gP_ ?_
  refine c_b (fun hl=>?_) (fun hl=>?_)
  ·rw [if_pos (by have:=of_decide_eq_true hl;omega)] at h
   exact h _ S.ext
  ·refine gP_ ?_
   exact hK6 2 _ ⟨by decide,fun _=>h1,fun _=>by have:=of_decide_eq_false hl;omega,fun h=>by omega,S⟩ (by decide)
 |2,_,h1,h2,_=>
  have h1:=h1 (by decide)
  have h2:=h2 (by decide)
  rw [if_neg h1,if_neg h2] at h
  refine c_t (by decide) ?_
  refine gP_ ?_
  refine S.ld (b:=b16) ?_ rfl
  refine S.ld (b:=b4) ?_ rfl
  refine vJ (q:=jR ss) (by omega) (fun i hi {w} {K} S k=>Q7 hi (by omega) h1 h2 hs S k) S fun w9 S=>?_
  refine S.ld (b:=b4) ?_ rfl
  refine gP_ ?_
  refine c_b (fun hl=>?_) (fun hl=>?_)
  ·rw [if_pos (by have:=of_decide_eq_true hl;omega)] at h
   exact h _ S.ext
  ·refine gP_ ?_
   exact hK6 3 _ ⟨by decide,fun _=>h1,fun _=>h2,fun _=>by have:=of_decide_eq_false hl;omega,S⟩ (by decide)
 |3,_,h1,h2,h3=>
  have h1:=h1 (by decide)
  have h2:=h2 (by decide)
  have h3:=h3 (by decide)
  rw [if_neg h1,if_neg h2,if_neg h3] at h
  refine c_f (by decide) ?_
  exact h _ S.ext
noncomputable def zK (ss : List StD) (t : TyD) : Bool:=decide ((zz ss).2=0)&&zy ss.length 48 t
theorem jn {ss : List StD} {t : TyD} (h : zK ss t=true) : (zz ss).2=0∧zy ss.length 48 t=true:=by
 simpa [zK] using h
theorem j2 {ss : List StD} {t : TyD} {p : Option Addr} {cap : Nat} {w : World} {r : Gh} {v : Value} {K : Value→World→Prop} (hr : Holds r w) (hs : StG r p ss) (hv : TyG r v t)
  (h : ∀ w',Ext w w'→K (.bool (zK ss t)) w') : ze Tryz.prog Tryz.kg #[.slice p ss.length cap,v] w K:=by
 refine Tryz.acm ?_
 unfold Tryz.Jk
 have hv0:=hv
 obtain ⟨p1,cap1,rfl,_⟩:=hv
 have S:=St.start hr
 refine S.box fun b3 w1 S=>?_
 refine jm S.holds hs fun w2 e2=>?_
 have S:=S.go e2
 refine gP_ ?_
 refine gP_ ?_
 refine gP_ ?_
 refine zs (c:=zy ss.length 48 t) (fun _ K2 hK2=>?_) fun w3 e3=>h _ (S.go e3).ext
 refine gL_ ?_
 refine gP_ ?_
 exact ZD 48 (by decide) S.holds hv0 fun w3 e3=>hK2 _ e3
theorem abz {ss : List StD} {p : Option Addr} {cap : Nat} (hg : xj ss) (hac : ∀ k,¬ Rch ss k k) : ∀ (m : Nat) {t : TyD} {w : World} {r : Gh} {v : Value} {K : Value→World→Prop},m≤100→rkT ss t≤m→zy ss.length 48 t=true→ss.length≤32→(∀ k,(zd ss k).length≤8)→
  Holds r w→StG r p ss→TyG r v t→(∀ w',Ext w w'→K (.bool (dF ss m t)) w')→ze Tryz.prog Tryz.qu #[.slice p ss.length cap,v] w K:=by
 intro m
 induction m with
 |zero=>
  intro t w r v K _ hrk hl h32 h8 hr hs hv h
  have h5 : ¬ t.k=5:=fun h=>by unfold rkT at hrk;rw [if_pos h] at hrk;omega
  refine Tryz.YQ ?_
  unfold Tryz.vF
  obtain ⟨p1,cap1,rfl,_⟩:=hv
  have S:=St.start hr
  refine S.box fun b2 w1 S=>?_
  refine S.box fun b3 w2 S=>?_
  refine gG_ ?_
  refine c_b (fun h3=>?_) (fun h3=>?_)
  ·have:=h _ S.ext
   rwa [dF,h3] at this
  ·refine gG_ ?_
   refine c_b (fun h5'=>absurd (of_decide_eq_true h5') h5) (fun _=>?_)
   have:=h _ S.ext
   rwa [dF,h3] at this
 |succ m ih=>
  intro t w r v K hm hrk hl h32 h8 hr hs hv h
  refine Tryz.YQ ?_
  unfold Tryz.vF
  obtain ⟨p1,cap1,rfl,_⟩:=hv
  have S:=St.start hr
  refine S.box fun b2 w1 S=>?_
  refine S.box fun b3 w2 S=>?_
  refine gG_ ?_
  refine c_b (fun h3=>?_) (fun h3=>?_)
  ·have:=h _ S.ext
   have h3':=of_decide_eq_true h3
   rwa [dF,if_neg (by omega),h3] at this
  refine gG_ ?_
  refine c_b (fun h5=>?_) (fun h5=>?_)
  ·have h5 : t.k=5:=of_decide_eq_true h5
   obtain ⟨hst0,hst1,_⟩:=kR hl h5
   have hlt : t.st.toNat<ss.length:=by omega
   obtain ⟨b,off,q,capq,rfl,hcell,_,_,hf⟩:=yZ hs hlt
   refine gG_ ?_
   refine zm (S.at hcell) ?_
   have htl : zd ss t.st=ss[t.st.toNat].fs.map (·.2):=by
    rw [← yi hlt];simp only [zd,Int.toNat_natCast]
   have hlen : (zd ss t.st).length=ss[t.st.toNat].fs.length:=by rw [htl,List.length_map]
   have h88:=h8 t.st
   refine gP_ ?_
   refine vj (g:=dF ss m) hf (by omega) (fun f hfm {c} {w7} {K} hcl hty S hK=>?_) S fun w8 S=>?_
   ·refine Xd (by kernel_rfl) ?_
    refine Tryz.JO ?_
    unfold Tryz.Z6
    refine S.box fun b4 w8 S=>?_
    have S : StX noX w r w8 (.cell b4 (.string f.1::c) 105::_):=S
    refine S.ld (b:=b2) ?_ rfl
    refine gP_ ?_
    refine S.fty hcl ?_
    have hmem : f.2 ∈ zd ss t.st:=by rw [htl];exact List.mem_map.2 ⟨f,hfm,rfl⟩
    have hrk2:=VI hg hac h5 hmem
    exact ih (by omega) (by omega) (hg _ _ hmem) h32 h8 S.holds hs hty fun w5 e5=>hK _ (S.go e5).tl
   ·rw [dF,if_pos h5,htl] at h
    exact h _ S.ext
  ·have:=h _ S.ext
   rwa [dF,if_neg (of_decide_eq_false h5),h3] at this
noncomputable def x9 (ss : List StD) (t : TyD) : Bool × Int:=if zK ss t then (dF ss 40 t,0) else (false,2)
theorem abA {ss : List StD} {t : TyD} {p : Option Addr} {cap : Nat} {w : World} {r : Gh} {v : Value} {K : Value→World→Prop} (hr : Holds r w) (hs : StG r p ss) (hv : TyG r v t)
  (h : ∀ w',Ext w w'→K (.tuple #[.bool (x9 ss t).1,.int .i64 (x9 ss t).2]) w') : ze Tryz.prog Tryz.vw #[.slice p ss.length cap,v] w K:=by
 refine Tryz.aat ?_
 unfold Tryz.XA
 have hv0:=hv
 obtain ⟨p1,cap1,rfl,_⟩:=hv
 have S:=St.start hr
 refine S.box fun b3 w1 S=>?_
 refine gL_ ?_
 refine j2 S.holds hs hv0 fun w2 e2=>?_
 have S:=S.go e2
 refine gP_ ?_
 refine c_b (fun hn=>?_) (fun hn=>?_)
 ·have hn : zK ss t=false:=by simpa using hn
  rw [x9,hn] at h
  exact h _ S.ext
 have hn : zK ss t=true:=by simpa using hn
 rw [x9,if_pos hn] at h
 obtain ⟨hok,hl⟩:=jn hn
 obtain ⟨h32,hb1,hg,hac,_,_⟩:=xb hok
 refine gL_ ?_
 refine abz hg hac 40 (by decide) (by have:=VH ss t;omega) hl h32 (xJ hb1) S.holds hs hv0 fun w3 e3=>h _ (S.go e3).ext
end Go.Proofs
end
section
namespace Go.Proofs
open Go.Sh
set_option maxRecDepth 100000
set_option linter.unusedSimpArgs false
set_option linter.unusedVariables false
theorem ae3 {s : Int} {n : Nat} {t : TyD} (h : zy s (n+1) t=true) : (decide (t.regs.length=0))=(decide (t.k≠4)&&(decide (t.k≠3)||(match t.of with|u::_=>decide (u.regs.length=0)|[]=>false))):=by
 rcases zF h with ⟨ho,hk⟩|⟨u,ho,_,hk⟩
 ·rw [ZG ho,if_neg (by omega)]
  have h3 : t.k≠3:=by omega
  have h4 : t.k≠4:=by omega
  simp [h3,h4]
 ·rw [kH ho,ho]
  by_cases h4 : t.k=4
  ·simp [h4]
  ·have h3 : t.k=3:=by omega
   simp [h3]
theorem abB {s : Int} : ∀ (n : Nat) {t : TyD} {w : World} {r : Gh} {v : Value} {K : Value→World→Prop},n≤1000→zy s n t=true→Holds r w→TyG r v t→
  (∀ w',Ext w w'→K (.bool (decide (t.regs.length=0))) w')→ze Tryz.prog Tryz.qw #[v] w K:=by
 intro n
 induction n with
 |zero=>intro t w r v K _ h;cases h
 |succ n ih=>
  intro t w r v K hn hl hr hv h
  refine Tryz.aaw ?_
  unfold Tryz.XE
  obtain ⟨p1,cap1,rfl,_,_,hof⟩:=hv
  have S:=St.start hr
  refine S.box fun b1 w1 S=>?_
  refine gG_ ?_
  have hpl:=ae3 hl
  refine zp (fun s w'=>s=(if t.k≠4 then [.bool (decide (t.k≠3))] else [undef])∧w'=w1) (fun K2 hK2=>?_) ?_
  ·by_cases h4 : t.k=4
   ·rw [decide_eq_false (by simpa using h4)]
    refine gD_ ?_
    exact hK2 _ _ ⟨by rw [if_neg (by simpa using h4)],rfl⟩
   ·rw [decide_eq_true (by simpa using h4)]
    refine g_TT ?_
    refine gG_ ?_
    exact hK2 _ _ ⟨by rw [if_pos h4],rfl⟩
  rintro _ w1 ⟨rfl,rfl⟩ d
  by_cases h4 : t.k=4
  ·rw [if_neg (by simpa using h4)]
   rw [show decide (t.k≠4)=false by simp [h4]]
   refine zp (fun s w'=>s = [undef]∧w'=w1) (fun K2 hK2=>?_) ?_
   ·refine gD_ ?_
    exact hK2 _ _ ⟨rfl,rfl⟩
   rintro _ w1 ⟨rfl,rfl⟩ d
   refine zp (fun s w'=>s = [undef]∧w'=w1) (fun K2 hK2=>?_) ?_
   ·refine gD_ ?_
    exact hK2 _ _ ⟨rfl,rfl⟩
   rintro _ w1 ⟨rfl,rfl⟩ d
   refine k_pickF ?_
   have:=h _ S.ext
   rw [hpl] at this
   simpa [h4] using this
  ·rw [if_pos h4,show decide (t.k≠4)=true by simp [h4],List.getD_cons_zero]
   refine zp (fun s w'=>s = [if t.k≠3 then undef else .bool (decide (t.regs.length=0))]∧Ext w1 w') (fun K2 hK2=>?_) ?_
   ·by_cases h3 : t.k=3
    ·rw [decide_eq_false (by simpa using h3)]
     refine g_FF ?_
     refine gG_ ?_
     rcases zF hl with ⟨_,hk⟩|⟨u,ho,hu,_⟩
     ·omega
     have hlen : t.of.length=1:=by rw [ho];rfl
     obtain ⟨ba,oa,rfl,c,hc,hcell,ht⟩:=NdG.of hof (i:=0) (by omega)
     have ht : TyG r (.agg c.toArray) u:=by simpa [ho] using ht
     refine gG_ ?_
     refine zq (n:=5) hc (fun j v hj=>by simpa using S.at (hcell j v hj)) ?_
     refine ih (by omega) hu S.holds ht fun w2 e2=>hK2 _ _ ⟨?_,e2⟩
     rw [if_neg (by simpa using h3),hpl,ho]
     simp [h3]
    ·rw [decide_eq_true (by simpa using h3)]
     refine g_TF ?_
     exact hK2 _ _ ⟨by rw [if_pos h3],.refl _⟩
   rintro _ w2 ⟨rfl,e2⟩ d
   have S:=S.go e2
   refine zp (fun s w'=>s = [.bool (decide (t.regs.length=0))]∧w'=w2) (fun K2 hK2=>?_) ?_
   ·refine g_TT ?_
    refine ⟨_,rfl,?_⟩
    refine hK2 _ _ ⟨?_,rfl⟩
    by_cases h3 : t.k=3
    ·simp [h3]
    ·rw [show decide (t.k≠3)=true by simp [h3],hpl];simp [h3,h4]
   rintro _ w3 ⟨rfl,rfl⟩ d
   refine k_pickT ?_
   exact h _ S.ext
theorem abC {ss : List StD} {p : Option Addr} {cap : Nat} (hg : xj ss) (hac : ∀ k,¬ Rch ss k k) : ∀ (m : Nat) {t : TyD} {most : Nat} {w : World} {r : Gh} {v : Value} {K : Value→World→Prop},m≤100→most≤100→rkT ss t≤m→zy ss.length 48 t=true→ss.length≤32→(∀ k,(zd ss k).length≤8)→
  Holds r w→StG r p ss→TyG r v t→(∀ w',Ext w w'→K (.int .i64 (min (wF ss m t) (most+1) : Nat)) w')→ze Tryz.prog Tryz.qy #[.slice p ss.length cap,v,.int .i64 (most : Nat)] w K:=by
 intro m
 induction m with
 |zero=>
  intro t most w r v K _ hmost hrk hl h32 h8 hr hs hv h
  have h5 : ¬ t.k=5:=fun h=>by unfold rkT at hrk;rw [if_pos h] at hrk;omega
  refine Tryz.YU ?_
  unfold Tryz.vH
  obtain ⟨p1,cap1,rfl,_⟩:=hv
  have S:=St.start hr
  refine S.box fun b3 w1 S=>?_
  refine gG_ ?_
  refine zj (fun _=>?_) (fun hn=>absurd (by omega) h5)
  have:=h _ S.ext
  rw [wF,show min 1 (most+1)=1 by omega] at this
  exact this
 |succ m ih=>
  intro t most w r v K hm hmost hrk hl h32 h8 hr hs hv h
  refine Tryz.YU ?_
  unfold Tryz.vH
  obtain ⟨p1,cap1,rfl,_⟩:=hv
  have S:=St.start hr
  refine S.box fun b3 w1 S=>?_
  refine gG_ ?_
  refine zj (fun hn=>?_) (fun h5=>?_)
  ·have:=h _ S.ext
   rw [wF,if_neg (by omega),show min 1 (most+1)=1 by omega] at this
   exact this
  have h5 : t.k=5:=by omega
  obtain ⟨hst0,hst1,_⟩:=kR hl h5
  have hlt : t.st.toNat<ss.length:=by omega
  obtain ⟨b,off,q,capq,rfl,hcell,_,_,hf⟩:=yZ hs hlt
  refine gG_ ?_
  refine zm (S.at hcell) ?_
  have htl : zd ss t.st=ss[t.st.toNat].fs.map (·.2):=by
   rw [← yi hlt];simp only [zd,Int.toNat_natCast]
  have hlen : (zd ss t.st).length=ss[t.st.toNat].fs.length:=by rw [htl,List.length_map]
  have h88:=h8 t.st
  refine zk (ι:=Nat) (fun i=>[.int .i64 (min (z8 (((zd ss t.st).take i).map (wF ss m))) (most+1) : Nat),.int .i64 i]) (fun i w'=>i≤(zd ss t.st).length∧St w r w' _)
   (fun i=>(zd ss t.st).length - i) 0 (by simp [z8]) ⟨Nat.zero_le _,S⟩ ?_
  clear S
  rintro i d w2 ⟨hi,S⟩ K6 hK6
  rw [List.getD_cons_zero,List.getD_cons_succ,List.getD_cons_zero]
  refine gP_ ?_
  refine gP_ ?_
  have hle : z8 (((zd ss t.st).take i).map (wF ss m))≤wF ss (m+1) t:=by
   rw [wF,if_pos h5];exact aay _ _ _
  refine zg (c:=decide (z8 (((zd ss t.st).take i).map (wF ss m))≤most)) (fun _ K2 hK2=>?_) ?_
  ·refine gP_ ?_
   rw [show decide (((min (z8 (((zd ss t.st).take i).map (wF ss m))) (most+1) : Nat) : Int)≤(most : Int))=decide (z8 (((zd ss t.st).take i).map (wF ss m))≤most) from decide_eq_decide.2 (by omega)]
   exact hK2
  refine c_b (fun hlt2=>?_) (fun hge=>?_)
  ·obtain ⟨hlt2,hsm⟩ : i<ss[t.st.toNat].fs.length∧z8 (((zd ss t.st).take i).map (wF ss m))≤most:=by
    simp only [Bool.and_eq_true,decide_eq_true_eq] at hlt2;omega
   have hlt3 : i<(zd ss t.st).length:=by omega
   obtain ⟨b2,off2,c,rfl,hcl,hcc,hty⟩:=xV hf hlt2
   refine gP_ ?_
   refine gP_ ?_
   refine zq (n:=5) (c:=c) hcl (fun j v hj=>by
    have:=S.at (hcc (j+1) v (by simpa using hj))
    rw [Int.toNat_natCast,Nat.add_assoc _ 1 j,Nat.add_comm 1 j];exact this) ?_
   have hel : (zd ss t.st)[i]=ss[t.st.toNat].fs[i].2:=by simp only [htl,List.getElem_map]
   have hmem : ss[t.st.toNat].fs[i].2 ∈ zd ss t.st:=by rw [← hel];exact List.getElem_mem hlt3
   have hrk2:=VI hg hac h5 hmem
   refine gP_ ?_
   have e1 : (most : Int) - ((min (z8 (((zd ss t.st).take i).map (wF ss m))) (most+1) : Nat) : Int)=((most - z8 (((zd ss t.st).take i).map (wF ss m)) : Nat) : Int):=by omega
   rw [e1]
   refine ih (by omega) (by omega) (by omega) (hg _ _ hmem) h32 h8 S.holds hs hty fun w5 e5=>?_
   have S:=S.go e5
   have hst:=Qg (wF ss m) hlt3
   rw [hel] at hst
   refine gP_ ?_
   refine gP_ ?_
   have e2 : ((min (z8 (((zd ss t.st).take i).map (wF ss m))) (most+1) : Nat) : Int)+((min (wF ss m ss[t.st.toNat].fs[i].2) (most - z8 (((zd ss t.st).take i).map (wF ss m))+1) : Nat) : Int)=((min (z8 (((zd ss t.st).take (i+1)).map (wF ss m))) (most+1) : Nat) : Int):=by omega
   rw [e2,show ((i : Int)+1)=((i+1 : Nat) : Int) by omega]
   exact hK6 (i+1) _ ⟨hlt3,S⟩ (by omega)
  ·have:=h _ S.ext
   have e : min (wF ss (m+1) t) (most+1)=min (z8 (((zd ss t.st).take i).map (wF ss m))) (most+1):=by
    by_cases hie : i=(zd ss t.st).length
    ·rw [hie,List.take_length,wF,if_pos h5]
    ·have h1 : ¬ z8 (((zd ss t.st).take i).map (wF ss m))≤most:=by
      intro hc
      rw [decide_eq_true hc,Bool.and_true,decide_eq_false_iff_not] at hge
      omega
     omega
   rw [e] at this
   exact this
theorem abD {ss : List StD} {p : Option Addr} {cap : Nat} (hg : xj ss) (hac : ∀ k,¬ Rch ss k k) : ∀ (m : Nat) {t : TyD} {w : World} {r : Gh} {v : Value} {K : Value→World→Prop},m≤100→rkT ss t≤m→zy ss.length 48 t=true→ss.length≤32→(∀ k,(zd ss k).length≤8)→
  Holds r w→StG r p ss→TyG r v t→(∀ w',Ext w w'→K (.bool (dF ss m t)) w')→ze Tryz.prog Tryz.qv #[.slice p ss.length cap,v] w K:=by
 intro m
 induction m with
 |zero=>
  intro t w r v K _ hrk hl h32 h8 hr hs hv h
  have h5 : ¬ t.k=5:=fun h=>by unfold rkT at hrk;rw [if_pos h] at hrk;omega
  refine Tryz.YT ?_
  unfold Tryz.vG
  obtain ⟨p1,cap1,rfl,_⟩:=hv
  have S:=St.start hr
  refine S.box fun b3 w1 S=>?_
  refine gG_ ?_
  refine zj (fun _=>?_) (fun hn=>absurd (by omega) h5)
  refine gG_ ?_
  exact h _ S.ext
 |succ m ih=>
  intro t w r v K hm hrk hl h32 h8 hr hs hv h
  refine Tryz.YT ?_
  unfold Tryz.vG
  obtain ⟨p1,cap1,rfl,_⟩:=hv
  have S:=St.start hr
  refine S.box fun b3 w1 S=>?_
  refine gG_ ?_
  refine zj (fun hn=>?_) (fun h5=>?_)
  ·refine gG_ ?_
   have:=h _ S.ext
   rw [dF,if_neg (by omega)] at this
   exact this
  have h5 : t.k=5:=by omega
  obtain ⟨hst0,hst1,_⟩:=kR hl h5
  have hlt : t.st.toNat<ss.length:=by omega
  obtain ⟨b,off,q,capq,rfl,hcell,_,_,hf⟩:=yZ hs hlt
  refine gG_ ?_
  refine zm (S.at hcell) ?_
  have htl : zd ss t.st=ss[t.st.toNat].fs.map (·.2):=by
   rw [← yi hlt];simp only [zd,Int.toNat_natCast]
  have hlen : (zd ss t.st).length=ss[t.st.toNat].fs.length:=by rw [htl,List.length_map]
  have h88:=h8 t.st
  rw [dF,if_pos h5] at h
  refine zk (ι:=Nat) (fun i=>[.int .i64 i]) (fun i w'=>i≤(zd ss t.st).length∧((zd ss t.st).take i).any (dF ss m)=false∧St w r w' _)
   (fun i=>(zd ss t.st).length - i) 0 rfl ⟨Nat.zero_le _,by simp,S⟩ ?_
  clear S
  rintro i d w2 ⟨hi,hno,S⟩ K6 hK6
  rw [List.getD_cons_zero]
  refine gP_ ?_
  refine gP_ ?_
  refine c_b (fun hlt2=>?_) (fun hge=>?_)
  ·have hlt2 : i<ss[t.st.toNat].fs.length:=by simpa using hlt2
   have hlt3 : i<(zd ss t.st).length:=by omega
   obtain ⟨b2,off2,c,rfl,hcl,hcc,hty⟩:=xV hf hlt2
   refine gP_ ?_
   refine gP_ ?_
   refine zq (n:=5) (c:=c) hcl (fun j v hj=>by
    have:=S.at (hcc (j+1) v (by simpa using hj))
    rw [Int.toNat_natCast,Nat.add_assoc _ 1 j,Nat.add_comm 1 j];exact this) ?_
   have hel : (zd ss t.st)[i]=ss[t.st.toNat].fs[i].2:=by simp only [htl,List.getElem_map]
   have hmem : ss[t.st.toNat].fs[i].2 ∈ zd ss t.st:=by rw [← hel];exact List.getElem_mem hlt3
   have hrk2:=VI hg hac h5 hmem
   refine ih (by omega) (by omega) (hg _ _ hmem) h32 h8 S.holds hs hty fun w5 e5=>?_
   have S:=S.go e5
   refine c_b (fun hy=>?_) (fun hn=>?_)
   ·have:=h _ S.ext
    rwa [List.any_eq_true.2 ⟨_,hmem,hy⟩] at this
   ·refine gP_ ?_
    rw [show ((i : Int)+1)=((i+1 : Nat) : Int) by omega]
    refine hK6 (i+1) _ ⟨hlt3,?_,S⟩ (by omega)
    rw [List.take_succ_eq_append_getElem hlt3,List.any_append,hno,hel]
    simp [hn]
  ·have hie : i=(zd ss t.st).length:=by
    have : ¬ i<ss[t.st.toNat].fs.length:=by simpa using hge
    omega
   rw [hie,List.take_length] at hno
   have:=h _ S.ext
   rwa [hno] at this
theorem YX {t : TyD} {w : World} {r : Gh} {v : Value} {K : Value→World→Prop} (hr : Holds r w) (hv : TyG r v t) (h : ∀ w',Ext w w'→K (.bool (xo t)) w') : ze Tryz.prog Tryz.kO #[v] w K:=by
 refine Tryz.VB ?_
 unfold Tryz.YS
 have hv0:=hv
 obtain ⟨p1,cap1,rfl,_⟩:=hv
 have S:=St.start hr
 refine S.box fun b1 w1 S=>?_
 refine gL_ ?_
 refine VC S.holds hv0 fun w2 e2=>?_
 have S:=S.go e2
 have:=h _ S.ext
 rw [xo] at this
 cases hB : isB t
 ·rw [hB,Bool.false_and] at this
  (intro K9 hK9;refine gD_ ?_;refine hK9 _ _ fun _=>?_;clear hK9 K9)
  (intro K9 hK9;refine gD_ ?_;refine hK9 _ _ fun _=>?_;clear hK9 K9)
  (intro K9 hK9;refine gD_ ?_;refine hK9 _ _ fun _=>?_;clear hK9 K9)
  (intro K9 hK9;refine gD_ ?_;refine hK9 _ _ fun _=>?_;clear hK9 K9)
  (intro K9 hK9;refine gD_ ?_;refine hK9 _ _ fun _=>?_;clear hK9 K9)
  (intro K9 hK9;refine gD_ ?_;refine hK9 _ _ fun _=>?_;clear hK9 K9)
  (intro K9 hK9;refine gD_ ?_;refine hK9 _ _ fun _=>?_;clear hK9 K9)
  refine gD_ ?_
  exact this
 ·rw [hB,Bool.true_and] at this
  cases h1 : decide (t.k=1)
  ·cases h2 : decide (t.k=2)
   ·cases h4 : decide (t.k=4)
    ·rw [h1,h2,h4] at this
     intro K9 hK9;refine g_TT ?_;refine gG_ ?_;rw [h1];refine hK9 _ _ fun _=>?_;clear hK9 K9
     intro K9 hK9;refine g_FF ?_;refine gG_ ?_;rw [h2];refine hK9 _ _ fun _=>?_;clear hK9 K9
     (intro K9 hK9;refine gD_ ?_;refine hK9 _ _ fun _=>?_;clear hK9 K9)
     intro K9 hK9;refine g_FF ?_;refine gG_ ?_;rw [h4];refine hK9 _ _ fun _=>?_;clear hK9 K9
     (intro K9 hK9;refine gD_ ?_;refine hK9 _ _ fun _=>?_;clear hK9 K9)
     (intro K9 hK9;refine gD_ ?_;refine hK9 _ _ fun _=>?_;clear hK9 K9)
     (intro K9 hK9;refine gD_ ?_;refine hK9 _ _ fun _=>?_;clear hK9 K9)
     refine gD_ ?_
     exact this
    ·rw [h1,h2,h4] at this
     intro K9 hK9;refine g_TT ?_;refine gG_ ?_;rw [h1];refine hK9 _ _ fun _=>?_;clear hK9 K9
     intro K9 hK9;refine g_FF ?_;refine gG_ ?_;rw [h2];refine hK9 _ _ fun _=>?_;clear hK9 K9
     (intro K9 hK9;refine gD_ ?_;refine hK9 _ _ fun _=>?_;clear hK9 K9)
     intro K9 hK9;refine g_FF ?_;refine gG_ ?_;rw [h4];refine hK9 _ _ fun _=>?_;clear hK9 K9
     (intro K9 hK9;refine gD_ ?_;refine hK9 _ _ fun _=>?_;clear hK9 K9)
     (intro K9 hK9;refine gD_ ?_;refine hK9 _ _ fun _=>?_;clear hK9 K9)
     (intro K9 hK9;refine gD_ ?_;refine hK9 _ _ fun _=>?_;clear hK9 K9)
     refine gD_ ?_
     simpa using this
   ·rw [h1,h2] at this
    intro K9 hK9;refine g_TT ?_;refine gG_ ?_;rw [h1];refine hK9 _ _ fun _=>?_;clear hK9 K9
    intro K9 hK9;refine g_FF ?_;refine gG_ ?_;rw [h2];refine hK9 _ _ fun _=>?_;clear hK9 K9
    (intro K9 hK9;refine gD_ ?_;refine hK9 _ _ fun _=>?_;clear hK9 K9)
    (intro K9 hK9;refine gD_ ?_;refine hK9 _ _ fun _=>?_;clear hK9 K9)
    (intro K9 hK9;refine gD_ ?_;refine hK9 _ _ fun _=>?_;clear hK9 K9)
    (intro K9 hK9;refine gD_ ?_;refine hK9 _ _ fun _=>?_;clear hK9 K9)
    (intro K9 hK9;refine gD_ ?_;refine hK9 _ _ fun _=>?_;clear hK9 K9)
    refine gD_ ?_
    exact this
  ·rw [h1] at this
   intro K9 hK9;refine g_TT ?_;refine gG_ ?_;rw [h1];refine hK9 _ _ fun _=>?_;clear hK9 K9
   (intro K9 hK9;refine gD_ ?_;refine hK9 _ _ fun _=>?_;clear hK9 K9)
   (intro K9 hK9;refine gD_ ?_;refine hK9 _ _ fun _=>?_;clear hK9 K9)
   (intro K9 hK9;refine gD_ ?_;refine hK9 _ _ fun _=>?_;clear hK9 K9)
   (intro K9 hK9;refine gD_ ?_;refine hK9 _ _ fun _=>?_;clear hK9 K9)
   (intro K9 hK9;refine gD_ ?_;refine hK9 _ _ fun _=>?_;clear hK9 K9)
   (intro K9 hK9;refine gD_ ?_;refine hK9 _ _ fun _=>?_;clear hK9 K9)
   refine gD_ ?_
   exact this
end Go.Proofs
end
section
namespace Go.Proofs
open Go.Sh
set_option maxRecDepth 100000
set_option linter.unusedSimpArgs false
set_option linter.unusedVariables false
theorem aek (n : Nat) : z7 (List.replicate n false)=List.replicate n (.bool false):=by rw [z7,List.map_replicate]
theorem agl (n : Nat) : cf (List.replicate n false)=n:=by
 induction n with
 |zero=>rfl
 |succ n ih=>rw [List.replicate_succ,cf,ih];simp;omega
theorem ael {T : List Int} {n : Nat} {j : Int} (h : n≤T.length) : (T ++ [j]).drop n=T.drop n ++ [j]:=List.drop_append_of_le_length h
theorem VK {ss : List StD} {p : Option Addr} {cap k : Nat} (hg : xj ss) (h32 : ss.length≤32) (hk : k<ss.length) (h8 : ∀ k,(zd ss k).length≤8) {w : World} {r : Gh} {K : Value→World→Prop} (hr : Holds r w) (hs : StG r p ss)
  (h : ∀ w',Ext w w'→K (.bool (ko ss k)) w') : ze Tryz.prog Tryz.jg #[.slice p ss.length cap,.int .i64 k] w K:=by
 refine Tryz.JR ?_
 unfold Tryz.Z9
 have S:=St.start hr
 refine gP_ ?_
 refine S.mkS (z:=.bool false) (by omega) (by omega) fun b13 w1 S=>?_
 rw [Int.toNat_natCast,← aek] at S
 refine S.lit (e:=3) (cs:=[.int .i64 k]) (by kernel_rfl) fun b16 w2 S=>?_
 have S:=S.ownNil 3 1
 refine S.ap (Sl.blk (S.blk b16)) (fun v17 w3 S=>?_) (by omega)
 rw [Int.toNat_natCast]
 have S : StX noX w r w3 [.row v17 3 1 [(k : Int)].length (ints [(k : Int)]),.cell b13 (z7 (List.replicate ss.length false)) 4]:=S.drop b16
 refine zk (ι:=List Int × Nat × List Bool × Value) (fun i=>[i.2.2.2,.int .i64 i.2.1]) (fun i w'=>QI ss k ss.length (i.1.drop i.2.1) i.2.2.1 none∧i.2.1≤i.1.length∧mt i.2.2.1 k=false∧cf i.2.2.1+i.1.length≤33∧StX noX w r w' [.row i.2.2.2 3 1 i.1.length (ints i.1),.cell b13 (z7 i.2.2.1) 4])
  (fun i=>2*cf i.2.2.1+(i.1.length - i.2.1)) ([(k : Int)],0,List.replicate ss.length false,v17) rfl ⟨QI.start (Nat.le_refl _) (by omega) (by omega),by simp,?_,by rw [agl,List.length_singleton];omega,S⟩ ?_
 ·unfold mt;rw [List.getD_eq_getElem?_getD,List.getElem?_replicate];split<;>rfl
 clear S
 rintro ⟨T,n,met,v⟩ d w4 ⟨hq,hn,hmk,hc33,S⟩ K4 hK4
 simp only at hq hn hmk hc33 S ⊢
 rw [List.getD_cons_zero,List.getD_cons_succ,List.getD_cons_zero]
 have S0:=S
 obtain ⟨pv,capv,rfl,hpv,hcv,_,hsl⟩:=S.rowS v
 refine gP_ ?_
 refine gP_ ?_
 refine c_b (fun hlt=>?_) (fun hge=>?_)
 ·have hlt : n<T.length:=by simpa using hlt
  obtain ⟨x,hxT⟩ : ∃ x,T[n]? = some x:=⟨_,List.getElem?_eq_getElem hlt⟩
  have hTn : T[n]=x:=by rw [List.getElem?_eq_getElem hlt] at hxT;exact Option.some.inj hxT
  have hdr : T.drop n=x::T.drop (n+1):=by rw [List.drop_eq_getElem_cons hlt,hTn]
  rw [hdr] at hq
  obtain ⟨bq,oq,rfl,hcell⟩:=kQ hsl hlt
  rw [hTn] at hcell
  have hx:=hq.rng x List.mem_cons_self
  refine gP_ ?_
  refine zm (by simpa using hcell) ?_
  have hxn : x.toNat<ss.length:=by omega
  obtain ⟨bs',os',q,capf,rfl,hcs,_,_,hf⟩:=yZ hs hxn
  refine gP_ ?_
  refine gP_ ?_
  refine zm (S.at hcs) ?_
  have htl : zd ss x=ss[x.toNat].fs.map (·.2):=by
   rw [← yi hxn];simp only [zd,Int.toNat_natCast]
  have hlen : (zd ss x).length=ss[x.toNat].fs.length:=by rw [htl,List.length_map]
  have h88:=h8 x
  refine zk (ι:=Nat × List Int × List Bool × Value) (fun i=>[i.2.2.2,.int .i64 i.1]) (fun i w'=>i.1≤(zd ss x).length∧QI ss k ss.length (i.2.1.drop (n+1)) i.2.2.1 (some (x,i.1))∧n+1≤i.2.1.length∧mt i.2.2.1 k=false∧cf i.2.2.1+i.2.1.length≤33∧
   2*cf i.2.2.1+(i.2.1.length - (n+1))≤2*cf met+(T.length - (n+1))∧StX noX w r w' [.row i.2.2.2 3 1 i.2.1.length (ints i.2.1),.cell b13 (z7 i.2.2.1) 4]) (fun i=>(zd ss x).length - i.1) (0,T,met,_) rfl ⟨Nat.zero_le _,hq.pop,hlt,hmk,hc33,Nat.le_refl _,S⟩ ?_
  clear S
  rintro ⟨i,T',met',v'⟩ d w5 ⟨hi,hq',hn',hmk',hc',hme,S⟩ K8 hK8
  simp only at hi hq' hn' hmk' hc' hme S ⊢
  rw [List.getD_cons_zero,List.getD_cons_succ,List.getD_cons_zero]
  refine gP_ ?_
  refine gP_ ?_
  refine c_b (fun hlt2=>?_) (fun hge=>?_)
  ·have hlt2 : i<ss[x.toNat].fs.length:=by simpa using hlt2
   have hlt3 : i<(zd ss x).length:=by omega
   have hel : (zd ss x)[i]=ss[x.toNat].fs[i].2:=by simp only [htl,List.getElem_map]
   refine zp (fun s w'=>∃ T2 met2 v2,s = [v2]∧QI ss k ss.length (T2.drop (n+1)) met2 (some (x,i+1))∧n+1≤T2.length∧mt met2 k=false∧cf met2+T2.length≤33∧2*cf met2+T2.length≤2*cf met'+T'.length∧StX noX w r w' [.row v2 3 1 T2.length (ints T2),.cell b13 (z7 met2) 4]) (fun K12 hK12=>?_) ?_
   ·obtain ⟨b2,off2,c,rfl,hcl,hcc,hty⟩:=xV hf hlt2
    refine gP_ ?_
    refine gP_ ?_
    refine zq (n:=5) (c:=c) hcl (fun j v hj=>by
     have:=S.at (hcc (j+1) v (by simpa using hj))
     rw [Int.toNat_natCast,Nat.add_assoc _ 1 j,Nat.add_comm 1 j];exact this) ?_
    refine S.al fun b10 w6 S=>?_
    have hone:=adu hty
    refine S.stB (fun w7 S=>?_) rfl (by simpa using hcl) hone
    obtain ⟨pt,capt,rfl,_⟩:=ZF hty
    have S : StX noX w r w7 [.cell b10 [.int .u8 ss[x.toNat].fs[i].2.k,.bool ss[x.toNat].fs[i].2.m,.int .i64 ss[x.toNat].fs[i].2.re,.int .i64 ss[x.toNat].fs[i].2.st,.slice pt ss[x.toNat].fs[i].2.of.length capt] 31,.row v' 3 1 T'.length (ints T'),.cell b13 (z7 met') 4]:=S
    refine gG_ ?_
    rw [← hel]
    refine c_b (fun h5=>?_) (fun h5=>?_)
    ·have h5 : (zd ss x)[i].k≠5:=of_decide_eq_true h5
     exact hK12 _ _ ⟨T',met',v',rfl,hq'.skip hlt3 fun e=>absurd e h5,hn',hmk',hc',Nat.le_refl _,S.tl⟩
    have h5 : (zd ss x)[i].k=5:=by simpa using h5
    have hkid : Kid ss x (zd ss x)[i].st:=⟨_,List.getElem_mem hlt3,h5,rfl⟩
    have hin:=jl hg hkid
    have hml:=hq'.len
    refine gG_ ?_
    rw [← hel]
    refine c_b (fun hek=>?_) (fun hek=>?_)
    ·have hek : (zd ss x)[i].st=k:=of_decide_eq_true hek
     have hR : Rch ss k k:=by
      rw [hek] at hkid
      rcases (hq'.s4 _ rfl).1 with hx|hx
      ·have hx : x=k:=hx
       rw [hx] at hkid;exact .one hkid
      ·exact .more hx hkid
     have:=h _ S.ext
     rw [← QR (b:=true) (fun _=>hR) (fun _=>rfl)] at this
     exact this
    have hek : ¬ (zd ss x)[i].st=k:=of_decide_eq_false hek
    refine gG_ ?_
    rw [← hel]
    refine gP_ ?_
    refine S.ld (b:=b13) (v:=.bool (mt met' (zd ss x)[i].st)) ?_ (by rw [Nat.zero_add];exact ZH (by omega))
    refine gP_ ?_
    refine c_b (fun hm=>?_) (fun hm=>?_)
    ·have hm : mt met' (zd ss x)[i].st=false:=by simpa using hm
     refine gG_ ?_
     rw [← hel]
     refine gP_ ?_
     refine S.st (b:=b13) (fun w8 S=>?_) (by rw [Qi];omega)
     refine gG_ ?_
     rw [← hel]
     refine S.lit (e:=3) (cs:=[.int .i64 (zd ss x)[i].st]) (by kernel_rfl) fun b49 w9 S=>?_
     refine S.ap (m':=1) (Sl.blk (S.blk b49)) (fun v50 w10 S=>?_) (by omega)
     have hcf:=Qh (l:=met') (i:=(zd ss x)[i].st.toNat) (by
      unfold mt at hm
      rw [List.getD_eq_getElem?_getD,List.getElem?_eq_getElem (by omega)] at hm
      rw [List.getElem?_eq_getElem (by omega)]
      simpa using hm)
     refine hK12 _ _ ⟨T' ++ [(zd ss x)[i].st],met'.set (zd ss x)[i].st.toNat true,v50,rfl,?_,by rw [List.length_append];omega,?_,by rw [List.length_append,List.length_singleton];omega,by rw [List.length_append,List.length_singleton];omega,?_⟩
     ·rw [ael hn']
      exact hq'.push hg hlt3 h5
     ·rw [acx hin.1 (by omega) (by omega),hmk']
      simp only [Bool.or_false,decide_eq_false_iff_not]
      exact fun e=>hek e.symm
     ·have e1 : (z7 met').set (0+(zd ss x)[i].st.toNat) (.bool true)=z7 (met'.set (zd ss x)[i].st.toNat true):=by
       rw [Nat.zero_add,z7,z7,List.map_set]
      rw [e1] at S
      rw [List.length_append,Jq]
      exact S.tl.tl
    ·have hm : mt met' (zd ss x)[i].st=true:=by simpa using hm
     exact hK12 _ _ ⟨T',met',v',rfl,hq'.skip hlt3 fun _=>hm,hn',hmk',hc',Nat.le_refl _,S.tl⟩
   ·rintro _ w6 ⟨T2,met2,v2,rfl,hq2,hn2,hmk2,hc2,hme2,S⟩ d6
    rw [List.getD_cons_zero]
    refine gP_ ?_
    rw [show ((i : Int)+1)=((i+1 : Nat) : Int) by omega]
    exact hK8 (i+1,T2,met2,v2) _ ⟨hlt3,hq2,hn2,hmk2,hc2,by simp only;omega,S⟩ (by simp only;omega)
  ·have hge : (zd ss x).length≤i:=by
    have : ¬ i<ss[x.toNat].fs.length:=by simpa using hge
    omega
   refine gP_ ?_
   rw [show ((n : Int)+1)=((n+1 : Nat) : Int) by omega]
   exact hK4 (T',n+1,met',v') _ ⟨hq'.done hge,hn',hmk',hc',S⟩ (by simp only;omega)
 ·have hge : T.length≤n:=by
   have : ¬ n<T.length:=by simpa using hge
   omega
  rw [List.drop_of_length_le hge] at hq
  have:=h _ S.ext
  rw [← QR (b:=false) (fun e=>by cases e) (fun hR=>by rw [hq.all hg (by omega) hR] at hmk;cases hmk)] at this
  exact this
theorem VL {ss : List StD} {p : Option Addr} {cap : Nat} {w : World} {r : Gh} {K : Value→World→Prop} (hr : Holds r w) (hs : StG r p ss) (hm : ss.length≤1000000000) (hmf : ∀ k,(zd ss k).length≤1000000000)
  (h : ∀ w',Ext w w'→K (.tuple #[.int .i64 (zz ss).1,.int .i64 (zz ss).2]) w') : ze Tryz.prog Tryz.jf #[.slice p ss.length cap] w K:=by
 refine Tryz.JQ ?_
 unfold Tryz.Z8
 have S:=St.start hr
 refine gP_ ?_
 refine gP_ ?_
 refine c_b (fun hbig=>?_) (fun hsm=>?_)
 ·have hbig : 32<ss.length:=by have:=of_decide_eq_true hbig;omega
  rw [zz,if_pos hbig] at h
  exact h _ S.ext
 have hsm : ¬ 32<ss.length:=by have:=of_decide_eq_false hsm;omega
 rw [zz,if_neg hsm] at h
 refine zk (ι:=Nat) (fun i=>[.int .i64 i]) (fun i w'=>i≤ss.length∧(∀ j,j<i→yS ss j=false)∧StX noX w r w' []) (fun i=>ss.length - i) 0 rfl ⟨Nat.zero_le _,fun j hj=>by omega,S⟩ ?_
 clear S
 rintro i d w1 ⟨hi,hb,S⟩ K1 hK1
 rw [List.getD_cons_zero]
 refine gP_ ?_
 refine gP_ ?_
 refine c_b (fun hlt=>?_) (fun hge=>?_)
 ·have hlt : i<ss.length:=by simpa using hlt
  have hbadd : yS ss i=true→∀ w',Ext w w'→K (.tuple #[.int .i64 (i : Nat),.int .i64 2]) w':=fun hbd w' e=>by
   have hf:=kJ hlt hbd hb
   have:=h w' e
   rw [hf,if_pos hlt] at this
   exact this
  obtain ⟨b,off,q,capq,rfl,hcell,hq0,hqc,hf⟩:=yZ hs hlt
  refine gP_ ?_
  refine gP_ ?_
  refine zm (by rw [Int.toNat_natCast];exact S.at hcell) ?_
  have hlen:=qU hlt
  have htl:=yi hlt
  have hmf':=hmf i
  refine gP_ ?_
  refine gP_ ?_
  refine zh (c:=decide (8<(zd ss i).length)) (fun _ K2 hK2=>?_) ?_
  ·refine gP_ ?_
   refine gP_ ?_
   rw [show decide ((8 : Int)<(ss[i].fs.length : Int))=decide (8<(zd ss i).length) from decide_eq_decide.2 (by omega)]
   exact hK2
  rw [show decide ((ss[i].fs.length : Int)<1)=decide ((zd ss i).length<1) from decide_eq_decide.2 (by omega)]
  refine c_b (fun hl=>?_) (fun hl=>?_)
  ·refine hbadd ?_ _ S.ext
   rw [yS,hl];rfl
  refine zk (ι:=Nat) (fun k=>[.int .i64 k]) (fun k w'=>k≤(zd ss i).length∧(((zd ss i).take k).any fun t=>!zy ss.length 48 t||decide (0<t.regs.length))=false∧StX noX w r w' []) (fun k=>(zd ss i).length - k) 0 rfl ⟨Nat.zero_le _,by simp,S⟩ ?_
  clear S
  rintro k d w2 ⟨hk,hno,S⟩ K9 hK9
  rw [List.getD_cons_zero]
  refine gP_ ?_
  refine gP_ ?_
  refine c_b (fun hlt2=>?_) (fun hge2=>?_)
  ·have hlt2 : k<ss[i].fs.length:=by simpa using hlt2
   have hlt3 : k<(zd ss i).length:=by omega
   have hel : (zd ss i)[k]=ss[i].fs[k].2:=by simp only [htl,List.getElem_map]
   obtain ⟨b2,off2,c,rfl,hcl,hcc,hty⟩:=xV hf hlt2
   have hrd : ∀ {w9 : World} {K : Value→Prop},StX noX w r w9 []→K (.agg c.toArray)→opQ Tryz.prog w9 (Instr.loadAt 31 (.pointer (some ⟨b2,off2+((k : Int)).toNat*6+1,none⟩))) K:=fun S k=>zq (n:=5) (c:=c) hcl (fun j v hj=>by
    have:=S.at (hcc (j+1) v (by simpa using hj))
    rw [Int.toNat_natCast,Nat.add_assoc _ 1 j,Nat.add_comm 1 j];exact this) k
   refine gP_ ?_
   refine gP_ ?_
   refine hrd S ?_
   refine gP_ ?_
   refine ZE 48 (by decide) S.holds hty fun w3 e3=>?_
   have S:=S.go e3
   refine gP_ ?_
   refine yw (c:=decide (0<ss[i].fs[k].2.regs.length)) (fun hl K2 hK2=>?_) fun w4 e4=>?_
   ·have hl : zy ss.length 48 ss[i].fs[k].2=true:=by simpa using hl
    refine gP_ ?_
    refine gP_ ?_
    refine hrd S ?_
    refine abB 48 (by decide) hl S.holds hty fun w4 e4=>?_
    refine gP_ ?_
    rw [show (!decide (ss[i].fs[k].2.regs.length=0))=decide (0<ss[i].fs[k].2.regs.length) by
     rw [← decide_not];exact decide_eq_decide.2 (by omega)]
    exact hK2 _ e4
   have S:=S.go e4
   refine c_b (fun hy=>?_) (fun hn=>?_)
   ·refine hbadd ?_ _ S.ext
    have : ((zd ss i).any fun t=>!zy ss.length 48 t||decide (0<t.regs.length))=true:=List.any_eq_true.2 ⟨_,List.getElem_mem hlt3,by rw [hel];exact hy⟩
    rw [yS,this,Bool.or_true]
   ·refine gP_ ?_
    rw [show ((k : Int)+1)=((k+1 : Nat) : Int) by omega]
    refine hK9 (k+1) _ ⟨hlt3,?_,S⟩ (by omega)
    rw [List.take_succ_eq_append_getElem hlt3,List.any_append,hno,hel]
    simp only [List.any_cons,List.any_nil,Bool.false_or,Bool.or_false]
    exact hn
  ·have hie : k=(zd ss i).length:=by
    have : ¬ k<ss[i].fs.length:=by simpa using hge2
    omega
   rw [hie,List.take_length] at hno
   refine gP_ ?_
   rw [show ((i : Int)+1)=((i+1 : Nat) : Int) by omega]
   refine hK1 (i+1) _ ⟨hlt,fun j hj=>?_,S⟩ (by omega)
   by_cases hji : j=i
   ·rw [hji,yS,hl,hno];rfl
   ·exact hb j (by omega)
 have hie : i=ss.length:=by
  have : ¬ i<ss.length:=by simpa using hge
  omega
 rw [hie] at hb
 have h1 : ¬ yX ss.length (yS ss)<ss.length:=by rw [kI hb];omega
 rw [if_neg h1] at h
 have hgd:=YW hb
 refine zk (ι:=Nat) (fun i=>[.int .i64 i]) (fun i w'=>i≤ss.length∧(∀ j,j<i→ko ss j=false)∧StX noX w r w' []) (fun i=>ss.length - i) 0 rfl ⟨Nat.zero_le _,fun j hj=>by omega,S⟩ ?_
 clear S hie hge hi
 rintro i d w5 ⟨hi,hb2,S⟩ K1 hK1
 rw [List.getD_cons_zero]
 refine gP_ ?_
 refine gP_ ?_
 refine c_b (fun hlt=>?_) (fun hge=>?_)
 ·have hlt : i<ss.length:=by simpa using hlt
  refine VK hgd (by omega) hlt (xJ hb) S.holds hs fun w6 e6=>?_
  have S:=S.go e6
  refine c_b (fun hy=>?_) (fun hn=>?_)
  ·have hf:=kJ hlt hy hb2
   rw [hf,if_pos hlt] at h
   exact h _ S.ext
  ·refine gP_ ?_
   rw [show ((i : Int)+1)=((i+1 : Nat) : Int) by omega]
   refine hK1 (i+1) _ ⟨hlt,fun j hj=>?_,S⟩ (by omega)
   by_cases hji : j=i
   ·rw [hji];exact hn
   ·exact hb2 j (by omega)
 have hie : i=ss.length:=by
  have : ¬ i<ss.length:=by simpa using hge
  omega
 rw [hie] at hb2
 have h2 : ¬ yX ss.length (ko ss)<ss.length:=by rw [kI hb2];omega
 rw [if_neg h2] at h
 have hac:=QQ hgd hb2
 refine zk (ι:=Nat) (fun i=>[.int .i64 i]) (fun i w'=>i≤ss.length∧(∀ j,j<i→jR ss j=false)∧StX noX w r w' []) (fun i=>ss.length - i) 0 rfl ⟨Nat.zero_le _,fun j hj=>by omega,S⟩ ?_
 clear S hie hge hi
 rintro i d w5 ⟨hi,hb3,S⟩ K1 hK1
 rw [List.getD_cons_zero]
 refine gP_ ?_
 refine gP_ ?_
 refine c_b (fun hlt=>?_) (fun hge=>?_)
 ·have hlt : i<ss.length:=by simpa using hlt
  refine zo (cs:=#[.int .u8 5,.bool false,.int .i64 0,.int .i64 i,.slice none 0 0]) (by kernel_rfl) ?_
  refine abC hgd hac 40 (t:=.mk 5 false 0 i []) (most:=16) (by decide) (by decide) (by have:=VH ss (.mk 5 false 0 i []);omega) ?_ (by omega) (xJ hb) S.holds hs (zI (r:=r)) fun w9 e9=>?_
  ·rw [yU]
   simp [TyD.k,TyD.m,TyD.re,TyD.of,TyD.st]
   omega
  have S:=S.go e9
  refine gP_ ?_
  rw [show decide ((((min (wF ss 40 (.mk 5 false 0 i [])) (16+1) : Nat) : Int)) > 16)=decide (16<wF ss 40 (.mk 5 false 0 i [])) from decide_eq_decide.2 (by omega)]
  refine c_b (fun hy=>?_) (fun hn=>?_)
  ·have hf:=kJ (p:=jR ss) hlt hy hb3
   rw [hf,if_pos hlt] at h
   exact h _ S.ext
  ·refine gP_ ?_
   rw [show ((i : Int)+1)=((i+1 : Nat) : Int) by omega]
   refine hK1 (i+1) _ ⟨hlt,fun j hj=>?_,S⟩ (by omega)
   by_cases hji : j=i
   ·rw [hji];exact hn
   ·exact hb3 j (by omega)
 have hie : i=ss.length:=by
  have : ¬ i<ss.length:=by simpa using hge
  omega
 rw [hie] at hb3
 have h3 : ¬ yX ss.length (jR ss)<ss.length:=by rw [kI hb3];omega
 rw [if_neg h3] at h
 exact h _ S.ext
theorem Jr {ss : List StD} {t : TyD} {p : Option Addr} {cap : Nat} {w : World} {r : Gh} {v : Value} {K : Value→World→Prop} (hr : Holds r w) (hs : StG r p ss) (hm : ss.length≤1000000000) (hmf : ∀ k,(zd ss k).length≤1000000000) (hv : TyG r v t)
  (h : ∀ w',Ext w w'→K (.bool (zK ss t)) w') : ze Tryz.prog Tryz.j0 #[.slice p ss.length cap,v] w K:=by
 refine Tryz.acn ?_
 unfold Tryz.Jl
 have hv0:=hv
 obtain ⟨p1,cap1,rfl,_⟩:=hv
 have S:=St.start hr
 refine S.box fun b3 w1 S=>?_
 refine VL S.holds hs hm hmf fun w2 e2=>?_
 have S:=S.go e2
 refine gP_ ?_
 refine gP_ ?_
 refine gP_ ?_
 refine zs (c:=zy ss.length 48 t) (fun _ K2 hK2=>?_) fun w3 e3=>h _ (S.go e3).ext
 refine gL_ ?_
 refine gP_ ?_
 exact ZE 48 (by decide) S.holds hv0 fun w3 e3=>hK2 _ e3
theorem abE {ss : List StD} {t : TyD} {p : Option Addr} {cap : Nat} {w : World} {r : Gh} {v : Value} {K : Value→World→Prop} (hr : Holds r w) (hs : StG r p ss) (hm : ss.length≤1000000000) (hmf : ∀ k,(zd ss k).length≤1000000000) (hv : TyG r v t)
  (h : ∀ w',Ext w w'→K (.tuple #[.bool (x9 ss t).1,.int .i64 (x9 ss t).2]) w') : ze Tryz.prog Tryz.vA #[.slice p ss.length cap,v] w K:=by
 refine Tryz.aav ?_
 unfold Tryz.XD
 have hv0:=hv
 obtain ⟨p1,cap1,rfl,_⟩:=hv
 have S:=St.start hr
 refine S.box fun b3 w1 S=>?_
 refine gL_ ?_
 refine Jr S.holds hs hm hmf hv0 fun w2 e2=>?_
 have S:=S.go e2
 refine gP_ ?_
 refine c_b (fun hn=>?_) (fun hn=>?_)
 ·have hn : zK ss t=false:=by simpa using hn
  rw [x9,hn] at h
  exact h _ S.ext
 have hn : zK ss t=true:=by simpa using hn
 rw [x9,if_pos hn] at h
 obtain ⟨hok,hl⟩:=jn hn
 obtain ⟨h32,hb1,hg,hac,_,_⟩:=xb hok
 refine gL_ ?_
 exact abD hg hac 40 (by decide) (by have:=VH ss t;omega) hl h32 (xJ hb1) S.holds hs hv0 fun w3 e3=>h _ (S.go e3).ext
end Go.Proofs
end
section
namespace Go.Proofs
open Go.Sh
set_option maxRecDepth 100000
set_option linter.unusedSimpArgs false
set_option linter.unusedVariables false
def un (gs : Nat→Gh) (i n : Nat) : Gh:=fun b o=>∃ j,i≤j∧j<n∧gs j b o
structure agm (top : Gh) (gs : Nat→Gh) (q : Option Addr) (ts : List TyD) : Prop where
 at' : ∀ (i : Nat) (hi : i<ts.length),∃ (b off : Nat) (c : List Value),q=some ⟨b,off,none⟩∧c.length=5∧(∀ j v,c[j]? = some v→Ob top fun w=>w.cell? ⟨b,off+i*5+j,none⟩=some v)∧TyG (gs i) (.agg c.toArray) ts[i]∧k9 (gs i) (.agg c.toArray) ts[i]
 dis : ∀ i j,i≠j→i<ts.length→j<ts.length→Dis (gs i) (gs j)
 dtop : ∀ i,i<ts.length→Dis (gs i) top
def TysG (s : Gh) (q : Option Addr) (ts : List TyD) : Prop:=
 ∀ (i : Nat) (hi : i<ts.length),∃ (b off : Nat) (c : List Value),q=some ⟨b,off,none⟩∧c.length=5∧(∀ j v,c[j]? = some v→Ob s fun w=>w.cell? ⟨b,off+i*5+j,none⟩=some v)∧TyG s (.agg c.toArray) ts[i]
theorem ChnL.frz2 {X : Nat→Prop} {w0 w : World} {c : List Value} {t : TyD} {N : List Asr} (h : ChnL c t N) : ∀ {r : Gh} {L : List Asr},StX X w0 r w (N++L)→
  ∃ sn,StX X w0 (r.or sn) w L∧TyG sn (.agg c.toArray) t∧k9 sn (.agg c.toArray) t∧(∀ b o,sn b o→w0.heap.size≤b∨X b)∧Dis sn r:=by
 induction h with
 |nil=>
  intro r L S
  exact ⟨nothing,S.to _,zI,.nil,fun _ _ h=>h.elim,fun _ _ _ h=>h.elim⟩
 |@one b c k re st m u N hu ih=>
  intro r L S
  have S : StX X w0 r w (N++(.cell b c 31::L)):=S.perm List.perm_middle.symm
  have hm0:=S.mine (.cell b c 31) (by simp) b rfl
  obtain ⟨sn,S,ht,hg,hf,hd⟩:=ih S
  have hm:=S.mine (.cell b c 31) (by simp) b rfl
  have S:=S.frz
  refine ⟨sn.or (Go.Sh.one b c 31),S.to _,vi ht,.one (fun o ho=>hm.2 o (.inr ho)) hu.len ht hg,fun b' o ho=>?_,fun b' o o' ho hr=>?_⟩
  ·rcases ho with ho|⟨rfl,_⟩
   ·exact hf b' o ho
   ·exact hm.1
  ·rcases ho with ho|⟨rfl,_⟩
   ·exact hd b' o o' ho hr
   ·exact hm0.2 o' hr
theorem afM {c : List Value} {t : TyD} {N : List Asr} (h : ChnL c t N) : aah Tryz.prog 29 1 #[(0,.agg c.toArray)]=some (31,c):=by
 cases h<;>kernel_rfl
noncomputable def ym (ss : List StD) (t : TyD) : List TyD × Int:=if zK ss t&&decide (t.k=5) then (zd ss t.st,0) else ([],2)
theorem aaz {ss : List StD} {t : TyD} {p : Option Addr} {cap : Nat} {w : World} {r : Gh} {v : Value} {K : Value→World→Prop} (hr : Holds r w) (hs : StG r p ss) (hv : TyG r v t)
  (h : ∀ q cp top gs w',Ext w w'→New w (top.or (un gs 0 (ym ss t).1.length)) w'→agm top gs q (ym ss t).1→(ym ss t).1.length≤cp→K (.tuple #[.slice q (ym ss t).1.length cp,.int .i64 (ym ss t).2]) w') : ze Tryz.prog Tryz.jI #[.slice p ss.length cap,v] w K:=by
 refine Tryz.Vx ?_
 unfold Tryz.YO
 have hv0:=hv
 obtain ⟨p1,cap1,rfl,_⟩:=hv
 have S:=St.start hr
 refine S.box fun b3 w1 S=>?_
 refine gL_ ?_
 refine j2 S.holds hs hv0 fun w2 e2=>?_
 have S:=S.go e2
 refine gP_ ?_
 refine zh (c:=decide (t.k≠5)) (fun _ K2 hK2=>?_) ?_
 ·refine gG_ ?_
  exact hK2
 refine c_b (fun hn=>?_) (fun hn=>?_)
 ·have hn : (zK ss t&&decide (t.k=5))=false:=by
   cases hm : zK ss t
   ·rfl
   ·rw [hm] at hn;simpa using hn
  rw [ym,hn] at h
  exact h none 0 nothing (fun _=>nothing) _ S.ext ⟨fun b o ho=>by rcases ho with ho|⟨_,_,_,ho⟩<;>exact ho.elim,fun b o ho=>by rcases ho with ho|⟨_,_,_,ho⟩<;>exact ho.elim⟩
   ⟨fun i hi=>by simp at hi,fun i j _ hi=>by simp at hi,fun i hi=>by simp at hi⟩ (Nat.le_refl _)
 have hn : zK ss t=true∧t.k=5:=by
  cases hm : zK ss t
  ·rw [hm] at hn;simp at hn
  ·rw [hm] at hn;exact ⟨rfl,by simpa using hn⟩
 obtain ⟨hm,h5⟩:=hn
 rw [ym,hm,decide_eq_true h5] at h
 simp only [Bool.and_true,if_true] at h
 obtain ⟨hok,hl⟩:=jn hm
 obtain ⟨h32,hb1,hg,hac,_,_⟩:=xb hok
 obtain ⟨hst0,hst1,_⟩:=kR hl h5
 have hlt : t.st.toNat<ss.length:=by omega
 obtain ⟨b,off,q,capq,rfl,hcell,_,_,hf⟩:=yZ hs hlt
 have htl : zd ss t.st=ss[t.st.toNat].fs.map (·.2):=by
  rw [← yi hlt];simp only [zd,Int.toNat_natCast]
 have hlen : (zd ss t.st).length=ss[t.st.toNat].fs.length:=by rw [htl,List.length_map]
 have h88:=xJ hb1 t.st
 refine gG_ ?_
 refine zm (S.at hcell) ?_
 refine gP_ ?_
 have S:=S.tl
 have S:=S.ownNil 31 5
 have S:=S.to (r.or (un (fun _=>nothing) 0 0)) (l:=⟨fun b o ho=>by rcases ho with ho|⟨_,_,h2,_⟩;exact ho;omega⟩)
 refine zk (ι:=Nat × Value × List Value × (Nat→Gh)) (fun i=>[i.2.1,.int .i64 i.1]) (fun i w'=>i.1≤(zd ss t.st).length∧i.2.2.1.length=i.1*5∧
   (∀ j (hj : j<(zd ss t.st).length),j<i.1→((i.2.2.1.drop (j*5)).take 5).length=5∧TyG (i.2.2.2 j) (.agg ((i.2.2.1.drop (j*5)).take 5).toArray) (zd ss t.st)[j]∧k9 (i.2.2.2 j) (.agg ((i.2.2.1.drop (j*5)).take 5).toArray) (zd ss t.st)[j])∧
   (∀ j,j<i.1→∀ b o,i.2.2.2 j b o→w.heap.size≤b)∧(∀ j k,j≠k→j<i.1→k<i.1→Dis (i.2.2.2 j) (i.2.2.2 k))∧StX noX w (r.or (un i.2.2.2 0 i.1)) w' [.row i.2.1 31 5 i.1 i.2.2.1])
  (fun i=>(zd ss t.st).length - i.1) (0,.slice none 0 0,[],fun _=>nothing) rfl ⟨Nat.zero_le _,rfl,fun j _ hj=>by omega,fun j hj=>by omega,fun j k _ hj=>by omega,S⟩ ?_
 clear S
 rintro ⟨i,v,xs,gs⟩ d w3 ⟨hi,hxl,hel,hfr,hdis,S⟩ K7 hK7
 simp only at hi hxl hel hfr hdis S ⊢
 rw [List.getD_cons_zero,List.getD_cons_succ,List.getD_cons_zero]
 refine gP_ ?_
 refine c_b (fun hlt2=>?_) (fun hge=>?_)
 ·have hlt2 : i<ss[t.st.toNat].fs.length:=by simpa using hlt2
  have hlt3 : i<(zd ss t.st).length:=by omega
  have hel2 : (zd ss t.st)[i]=ss[t.st.toNat].fs[i].2:=by simp only [htl,List.getElem_map]
  have hmem : ss[t.st.toNat].fs[i].2 ∈ zd ss t.st:=by rw [← hel2];exact List.getElem_mem hlt3
  obtain ⟨b2,off2,c,rfl,hcl,hcc,hty⟩:=xV hf hlt2
  refine gP_ ?_
  refine zq (n:=6) (c:=.string ss[t.st.toNat].fs[i].1::c) (by simp [hcl]) (fun j v hj=>by rw [Int.toNat_natCast];exact S.at (hcc j v hj)) ?_
  refine S.al fun b8 w4 S=>?_
  refine S.stB (b:=b8) (cs:=(Value.string ss[t.st.toNat].fs[i].1::c).toArray) (fun w5 S=>?_) rfl (by simp [hcl]) (JS hty)
  refine gP_ ?_
  refine S.fty hcl ?_
  refine Yx (s:=ss.length) 48 (by decide) (hg _ _ hmem) S.tl hty.up fun c' N w6 hch S=>?_
  have hcl':=hch.len
  have hone':=hch.ones
  obtain ⟨sn,S,ht,hcg,hfn,hdn⟩:=hch.frz2 S
  refine S.lit (e:=31) (cs:=c') (afM hch) fun b33 w7 S=>?_
  refine S.ap (m':=1) (Sl.blk (S.blk b33)) (fun v34 w8 S=>?_) (by omega) (by omega) (by simp) hone'
  have S:=S.tl
  refine gP_ ?_
  rw [show ((i : Int)+1)=((i+1 : Nat) : Int) by omega]
  refine hK7 (i+1,v34,xs++c',fun j=>if j=i then sn else gs j) _ ⟨hlt3,by simp only [List.length_append];omega,fun j hj hji=>?_,fun j hj b o ho=>?_,fun j k hjk hj hk=>?_,?_⟩ (by simp only;omega)
  ·by_cases hji' : j=i
   ·subst hji'
    simp only [if_true]
    have e : ((xs++c').drop (j*5)).take 5=c':=by
     rw [← hxl,List.drop_left',List.take_of_length_le (by omega)];rfl
    rw [e,hel2]
    exact ⟨hcl',ht,hcg⟩
   ·simp only [if_neg hji']
    have e : ((xs++c').drop (j*5)).take 5=(xs.drop (j*5)).take 5:=by
     rw [List.drop_append_of_le_length (by omega),List.take_append_of_le_length (by rw [List.length_drop];omega)]
    rw [e]
    exact hel j hj (by omega)
  ·simp only at ho
   split at ho
   ·exact (hfn b o ho).elim id fun h=>h.elim
   ·exact hfr j (by omega) b o ho
  ·simp only
   by_cases h1 : j=i
   ·rw [if_pos h1,if_neg (by omega)]
    exact fun b o o' ho ho'=>hdn b o o' ho (.inr ⟨k,Nat.zero_le _,by omega,ho'⟩)
   ·rw [if_neg h1]
    by_cases h2 : k=i
    ·rw [if_pos h2]
     exact fun b o o' ho ho'=>hdn b o' o ho' (.inr ⟨j,Nat.zero_le _,by omega,ho⟩)
    ·rw [if_neg h2]
     exact hdis j k hjk (by omega) (by omega)
  ·simp only
   exact S.to _ (l:=⟨fun b o ho=>by
    rcases ho with ho|⟨j,_,hj,ho⟩
    ·exact .inl (.inl ho)
    ·split at ho
     ·exact .inr ho
     ·exact .inl (.inr ⟨j,Nat.zero_le _,by omega,ho⟩)⟩)
 ·have hge : i=(zd ss t.st).length:=by
   have : ¬ i<ss[t.st.toNat].fs.length:=by simpa using hge
   omega
  subst hge
  have hpos : (zd ss t.st).length≠0:=by
   have:=hb1 t.st.toNat hlt
   have e : zd ss (t.st.toNat : Int)=zd ss t.st:=by rw [zd,zd,Int.toNat_natCast]
   rw [yS,e,Bool.or_eq_false_iff,Bool.or_eq_false_iff] at this
   simp only [decide_eq_false_iff_not] at this
   omega
  obtain ⟨b9,cap9,c9,rfl,hc9,hcl9,htk9,S⟩:=S.rowCell v hpos
  have hm9:=S.mine (.cell b9 c9 31) (by simp) b9 rfl
  have S:=S.frz
  refine h _ _ (one b9 c9 31) gs _ S.ext ⟨S.holds.le (h:=⟨fun b o ho=>by
   rcases ho with ho|ho
   ·exact .inr ho
   ·exact .inl (.inr ho)⟩),fun b o ho=>?_⟩ ⟨fun j hj=>?_,fun j k hjk hj hk=>hdis j k hjk hj hk,fun j hj b o o' ho ho'=>?_⟩ hc9
  ·rcases ho with ⟨rfl,_⟩|⟨j,_,hj,ho⟩
   ·exact hm9.1.resolve_right id
   ·exact hfr j hj b o ho
  ·obtain ⟨h1,h2,h3⟩:=hel j hj hj
   refine ⟨b9,0,_,rfl,h1,fun k v hk w' hw=>?_,h2,h3⟩
   have B:=yR (b:=b9) (c:=c9) (T:=31) w' hw
   show w'.cell? _=some v
   rw [Nat.zero_add,B.cell]
   have hk5 : k<5:=by have:=(List.getElem?_eq_some_iff.1 hk).1;omega
   rw [List.getElem?_take,if_pos hk5,List.getElem?_drop,← htk9,List.getElem?_take] at hk
   split at hk
   ·exact hk
   ·cases hk
  ·obtain ⟨rfl,_⟩:=ho'
   exact hm9.2 o (.inr ⟨j,Nat.zero_le _,hj,ho⟩)
theorem afN {r : Gh} {cs c : List Value} {u : TyD} {b cap : Nat} {k re st : Int} {m : Bool} (h : TyG r (.agg cs.toArray) u) (hc : c.take 5=cs) (hcap : 1≤cap) :
  TyG (r.or (one b c 31)) (.agg #[.int .u8 k,.bool m,.int .i64 re,.int .i64 st,.slice (some ⟨b,0,none⟩) 1 cap]) (.mk k m re st [u]):=by
 obtain ⟨c1,hc1,hcl,hr⟩:=h.rep
 have hc1 : cs=c1:=List.toArray_inj (Value.agg.inj hc1)
 subst hc1
 refine ⟨_,cap,rfl,by simp,hcap,?_⟩
 refine ⟨⟨cs,hcl,fun j x hj=>⟨b,0,rfl,fun w hw=>?_⟩,hr.up⟩,trivial⟩
 have B:=yR (b:=b) (c:=c) (T:=31) w (hw.le (h:=inferInstance))
 show w.cell? ⟨b,0+0*5+j,none⟩=some x
 rw [show 0+0*5+j=j by omega,B.cell]
 rw [← hc,List.getElem?_take] at hj
 split at hj
 ·exact hj
 ·cases hj
theorem adb {s : Int} : ∀ (n : Nat) {t : TyD} {w : World} {r : Gh} {v : Value} {K : Value→World→Prop},n≤1000→zy s n t=true→Holds r w→TyG r v t→
  (∀ v' sn w',Ext w w'→New w sn w'→TyG sn v' t→K v' w')→ze Tryz.prog Tryz.j1 #[v] w K:=by
 intro n
 induction n with
 |zero=>intro t w r v K _ h;cases h
 |succ n ih=>
  intro t w r v K hn hl hr hv h
  refine Tryz.aco ?_
  unfold Tryz.Jm
  obtain ⟨p1,cap1,rfl,hp1,hcap1,hof⟩:=hv
  have S:=St.start hr
  refine S.box fun b1 w1 S=>?_
  refine S.al fun b2 w2 S=>?_
  have S : StX noX w r w2 [.cell b2 [.int .u8 0,.bool false,.int .i64 0,.int .i64 0,.slice none 0 0] 31,.cell b1 [.int .u8 t.k,.bool t.m,.int .i64 t.re,.int .i64 t.st,.slice p1 t.of.length cap1] 31]:=S
  have he : t = .mk t.k t.m t.re t.st t.of:=by cases t;rfl
  refine gG_ ?_
  refine S.st fun w3 S=>?_
  have fin : ∀ {w9 : World} {q : Gh} {v9 : Value},StX noX w q w9 [.cell b2 [.int .u8 0,.bool false,.int .i64 0,.int .i64 0,.slice none 0 0] 31,.cell b1 [.int .u8 t.k,.bool t.m,.int .i64 t.re,.int .i64 t.st,v9] 31]→v9.oneCell'=true→
    (∃ sn,Le sn q∧(∀ b o,sn b o→w.heap.size≤b)∧TyG sn (.agg #[.int .u8 t.k,.bool t.m,.int .i64 t.re,.int .i64 t.st,v9]) t)→
    opQ Tryz.prog w9 (Instr.loadAt 31 (.pointer (some ⟨b1,0,none⟩))) fun t24=>opU Tryz.prog w9 (Instr.storeAt 31 (.pointer (some ⟨b2,0,none⟩)) t24) fun w12=>opQ Tryz.prog w12 (zf 31 (.pointer (some ⟨b2,0,none⟩))) fun r13=>K r13 w12:=by
   intro w9 q v9 S h1 ⟨sn,hle,hf,hty⟩
   refine gG_ ?_
   refine S.stB (h1:=by
    intro u hu
    simp only [List.mem_cons,List.not_mem_nil,or_false] at hu
    rcases hu with rfl|rfl|rfl|rfl|rfl<;>first|rfl|exact h1) fun w7 S=>?_
   refine gG_ ?_
   exact h _ sn _ S.ext ⟨S.holds.le (h:=hle),hf⟩ hty
  rcases zF hl with ⟨ho,_⟩|⟨u,ho,hu,_⟩
  ·refine zk (ι:=Unit) (fun _=>[.int .i64 0]) (fun _ w'=>w'=w3) (fun _=>0) () rfl rfl ?_
   rintro ⟨⟩ d w5 rfl K6 hK6
   rw [List.getD_cons_zero]
   refine gP_ ?_
   refine gP_ ?_
   refine c_f (by rw [ho];rfl) ?_
   refine fin S rfl ⟨nothing,inferInstance,fun _ _ h=>h.elim,?_⟩
   rw [he,ho]
   exact zI
  ·have hlen : t.of.length=1:=by rw [ho];rfl
   have S3:=S
   obtain ⟨ba,oa,rfl,c,hc,hcell,ht⟩:=NdG.of hof (i:=0) (by omega)
   have ht : TyG r (.agg c.toArray) u:=by simpa [ho] using ht
   refine zk (ι:=Bool) (fun i=>[.int .i64 (if i then 1 else 0)]) (fun i w'=>if i then ∃ q v9,StX noX w q w' [.cell b2 [.int .u8 0,.bool false,.int .i64 0,.int .i64 0,.slice none 0 0] 31,.cell b1 [.int .u8 t.k,.bool t.m,.int .i64 t.re,.int .i64 t.st,v9] 31]∧v9.oneCell'=true∧
     ∃ sn,Le sn q∧(∀ b o,sn b o→w.heap.size≤b)∧TyG sn (.agg #[.int .u8 t.k,.bool t.m,.int .i64 t.re,.int .i64 t.st,v9]) t
    else StX noX w r w' [.cell b2 [.int .u8 0,.bool false,.int .i64 0,.int .i64 0,.slice none 0 0] 31,.cell b1 [.int .u8 t.k,.bool t.m,.int .i64 t.re,.int .i64 t.st,.slice none 0 0] 31]) (fun i=>if i then 0 else 1) false rfl S3 ?_
   clear S S3
   rintro i d w5 hI K6 hK6
   rw [List.getD_cons_zero]
   refine gP_ ?_
   cases i with
   |true=>
    obtain ⟨q,v9,S,h1,hx⟩:=hI
    refine gP_ ?_
    refine c_f (by rw [hlen];rfl) ?_
    exact fin S h1 hx
   |false=>
    have S : StX noX w r w5 [.cell b2 [.int .u8 0,.bool false,.int .i64 0,.int .i64 0,.slice none 0 0] 31,.cell b1 [.int .u8 t.k,.bool t.m,.int .i64 t.re,.int .i64 t.st,.slice none 0 0] 31]:=hI
    refine gP_ ?_
    refine c_t (by rw [hlen];rfl) ?_
    have S:=S.go (Ext.drew _)
    simp only [Bool.false_eq_true,if_false]
    refine gG_ ?_
    refine zq (n:=5) hc (fun j v hj=>by simpa using S.at (hcell j v hj)) ?_
    refine ih (by omega) hu S.holds ht fun v4 sn w6 e6 n6 ht6=>⟨e6,?_⟩
    obtain ⟨S,_,hf⟩:=S.tell e6 n6
    obtain ⟨p6,cap6,rfl,_⟩:=id ht6
    refine S.litU (e:=31) (cs:=[.int .u8 u.k,.bool u.m,.int .i64 u.re,.int .i64 u.st,.slice p6 u.of.length cap6]) (by kernel_rfl) fun b7 w7 S=>?_
    have S:=S.ownNil 31 5
    refine S.ap (m':=1) (Sl.blk (S.blk b7)) (fun v8 w8 S=>?_) (by omega)
    obtain ⟨b9,cap9,c9,rfl,hc9,hcl9,htk9,S⟩:=S.rowCell v8 (by decide)
    have hm9:=S.mine (.cell b9 c9 31) (by simp) b9 rfl
    have S:=S.frz
    refine gP_ ?_
    refine S.st (b:=b1) fun w9 S=>?_
    refine gP_ ?_
    refine hK6 true _ ⟨_,.slice (some ⟨b9,0,none⟩) 1 cap9,S.tl,rfl,sn.or (one b9 c9 31),inferInstance,fun b o hb=>?_,?_⟩ (by decide)
    ·rcases hb with hb|⟨rfl,_⟩
     ·exact hf b o hb
     ·exact hm9.1.resolve_right id
    ·rw [he,ho]
     exact afN ht6 htk9 (by omega)
theorem aaA {ss : List StD} {t : TyD} {p : Option Addr} {cap : Nat} {w : World} {r : Gh} {v : Value} {K : Value→World→Prop} (hr : Holds r w) (hs : StG r p ss) (hm1 : ss.length≤1000000000) (hmf : ∀ k,(zd ss k).length≤1000000000) (hv : TyG r v t)
  (h : ∀ q cp sn w',Ext w w'→New w sn w'→TysG sn q (ym ss t).1→K (.tuple #[.slice q (ym ss t).1.length cp,.int .i64 (ym ss t).2]) w') : ze Tryz.prog Tryz.jN #[.slice p ss.length cap,v] w K:=by
 refine Tryz.VA ?_
 unfold Tryz.YR
 have hv0:=hv
 obtain ⟨p1,cap1,rfl,_⟩:=hv
 have S:=St.start hr
 refine S.box fun b3 w1 S=>?_
 refine gL_ ?_
 refine Jr S.holds hs hm1 hmf hv0 fun w2 e2=>?_
 have S:=S.go e2
 refine gP_ ?_
 refine zh (c:=decide (t.k≠5)) (fun _ K2 hK2=>?_) ?_
 ·refine gG_ ?_
  exact hK2
 refine c_b (fun hn=>?_) (fun hn=>?_)
 ·have hn : (zK ss t&&decide (t.k=5))=false:=by
   cases hm : zK ss t
   ·rfl
   ·rw [hm] at hn;simpa using hn
  rw [ym,hn] at h
  exact h none 0 nothing _ S.ext New.nothing fun i hi=>by simp at hi
 have hn : zK ss t=true∧t.k=5:=by
  cases hm : zK ss t
  ·rw [hm] at hn;simp at hn
  ·rw [hm] at hn;exact ⟨rfl,by simpa using hn⟩
 obtain ⟨hm,h5⟩:=hn
 rw [ym,hm,decide_eq_true h5] at h
 simp only [Bool.and_true,if_true] at h
 obtain ⟨hok,hl⟩:=jn hm
 obtain ⟨h32,hb1,hg,hac,_,_⟩:=xb hok
 obtain ⟨hst0,hst1,_⟩:=kR hl h5
 have hlt : t.st.toNat<ss.length:=by omega
 obtain ⟨b,off,q,capq,rfl,hcell,_,_,hf⟩:=yZ hs hlt
 have htl : zd ss t.st=ss[t.st.toNat].fs.map (·.2):=by
  rw [← yi hlt];simp only [zd,Int.toNat_natCast]
 have hlen : (zd ss t.st).length=ss[t.st.toNat].fs.length:=by rw [htl,List.length_map]
 have h88:=xJ hb1 t.st
 refine gG_ ?_
 refine zm (S.at hcell) ?_
 have S:=S.tl
 have S:=S.ownNil 31 5
 have S:=S.to (r.or nothing) (l:=⟨fun b o ho=>ho.elim id fun h=>h.elim⟩)
 refine zk (ι:=Nat × Value × List Value × Gh) (fun i=>[i.2.1,.int .i64 i.1]) (fun i w'=>i.1≤(zd ss t.st).length∧i.2.2.1.length=i.1*5∧
   (∀ j (hj : j<(zd ss t.st).length),j<i.1→((i.2.2.1.drop (j*5)).take 5).length=5∧TyG i.2.2.2 (.agg ((i.2.2.1.drop (j*5)).take 5).toArray) (zd ss t.st)[j])∧
   (∀ b o,i.2.2.2 b o→w.heap.size≤b)∧StX noX w (r.or i.2.2.2) w' [.row i.2.1 31 5 i.1 i.2.2.1])
  (fun i=>(zd ss t.st).length - i.1) (0,.slice none 0 0,[],nothing) rfl ⟨Nat.zero_le _,rfl,fun j _ hj=>by omega,fun b o ho=>ho.elim,S⟩ ?_
 clear S
 rintro ⟨i,v,xs,sn⟩ d w3 ⟨hi,hxl,hel,hfr,S⟩ K7 hK7
 simp only at hi hxl hel hfr S ⊢
 rw [List.getD_cons_zero,List.getD_cons_succ,List.getD_cons_zero]
 refine gP_ ?_
 refine gP_ ?_
 refine c_b (fun hlt2=>?_) (fun hge=>?_)
 ·have hlt2 : i<ss[t.st.toNat].fs.length:=by simpa using hlt2
  have hlt3 : i<(zd ss t.st).length:=by omega
  have hel2 : (zd ss t.st)[i]=ss[t.st.toNat].fs[i].2:=by simp only [htl,List.getElem_map]
  have hmem : ss[t.st.toNat].fs[i].2 ∈ zd ss t.st:=by rw [← hel2];exact List.getElem_mem hlt3
  obtain ⟨b2,off2,c,rfl,hcl,hcc,hty⟩:=xV hf hlt2
  refine gP_ ?_
  refine gP_ ?_
  refine zq (n:=5) (c:=c) hcl (fun j v hj=>by
   have:=S.at (hcc (j+1) v (by simpa using hj))
   rw [Int.toNat_natCast,Nat.add_assoc _ 1 j,Nat.add_comm 1 j];exact this) ?_
  refine adb (s:=ss.length) 48 (by decide) (hg _ _ hmem) S.holds hty.up fun v4 s4 w4 e4 n4 ht4=>?_
  obtain ⟨S,_,hf4⟩:=S.tell e4 n4
  obtain ⟨p4,cap4,rfl,_⟩:=id ht4
  refine S.lit (e:=31) (cs:=[.int .u8 ss[t.st.toNat].fs[i].2.k,.bool ss[t.st.toNat].fs[i].2.m,.int .i64 ss[t.st.toNat].fs[i].2.re,.int .i64 ss[t.st.toNat].fs[i].2.st,.slice p4 ss[t.st.toNat].fs[i].2.of.length cap4]) (by kernel_rfl) fun b33 w7 S=>?_
  refine S.ap (m':=1) (Sl.blk (S.blk b33)) (fun v34 w8 S=>?_) (by omega)
  have S:=S.tl
  refine gP_ ?_
  rw [show ((i : Int)+1)=((i+1 : Nat) : Int) by omega]
  refine hK7 (i+1,v34,xs ++ [.int .u8 ss[t.st.toNat].fs[i].2.k,.bool ss[t.st.toNat].fs[i].2.m,.int .i64 ss[t.st.toNat].fs[i].2.re,.int .i64 ss[t.st.toNat].fs[i].2.st,.slice p4 ss[t.st.toNat].fs[i].2.of.length cap4],sn.or s4) _ ⟨hlt3,by simp only [List.length_append,List.length_cons,List.length_nil];omega,fun j hj hji=>?_,fun b o ho=>ho.elim (hfr b o) (hf4 b o),?_⟩ (by simp only;omega)
  rotate_left
  ·exact S.to _ (l:=⟨fun b o ho=>by
    rcases ho with ho|ho|ho
    ·exact .inl (.inl ho)
    ·exact .inl (.inr ho)
    ·exact .inr ho⟩)
  ·simp only
   by_cases hji' : j=i
   ·subst hji'
    rw [← hxl,List.drop_left',hel2]
    ·exact ⟨rfl,ht4.up⟩
    ·rfl
   ·rw [List.drop_append_of_le_length (by omega),List.take_append_of_le_length (by rw [List.length_drop];omega)]
    exact ⟨(hel j hj (by omega)).1,(hel j hj (by omega)).2.up⟩
 ·have hge : i=(zd ss t.st).length:=by
   have : ¬ i<ss[t.st.toNat].fs.length:=by simpa using hge
   omega
  subst hge
  have hpos : (zd ss t.st).length≠0:=by
   have:=hb1 t.st.toNat hlt
   have e : zd ss (t.st.toNat : Int)=zd ss t.st:=by rw [zd,zd,Int.toNat_natCast]
   rw [yS,e,Bool.or_eq_false_iff,Bool.or_eq_false_iff] at this
   simp only [decide_eq_false_iff_not] at this
   omega
  obtain ⟨b9,cap9,c9,rfl,hc9,hcl9,htk9,S⟩:=S.rowCell v hpos
  have hm9:=S.mine (.cell b9 c9 31) (by simp) b9 rfl
  have S:=S.frz
  refine h _ _ (sn.or (one b9 c9 31)) _ S.ext ⟨S.holds.le (h:=⟨fun b o ho=>by
   rcases ho with ho|ho
   ·exact .inl (.inr ho)
   ·exact .inr ho⟩),fun b o ho=>?_⟩ fun j hj=>?_
  ·rcases ho with ho|⟨rfl,_⟩
   ·exact hfr b o ho
   ·exact hm9.1.resolve_right id
  ·obtain ⟨h1,h2⟩:=hel j hj hj
   refine ⟨b9,0,_,rfl,h1,fun k v hk w' hw=>?_,h2.up⟩
   have B:=yR (b:=b9) (c:=c9) (T:=31) w' (hw.le (h:=inferInstance))
   show w'.cell? _=some v
   rw [Nat.zero_add,B.cell]
   have hk5 : k<5:=by have:=(List.getElem?_eq_some_iff.1 hk).1;omega
   rw [List.getElem?_take,if_pos hk5,List.getElem?_drop,← htk9,List.getElem?_take] at hk
   split at hk
   ·exact hk
   ·cases hk
end Go.Proofs
end
section
namespace Go.Sh
open Go.ChangeShapes Go.WideShapes Go.ChangeAt Go.RowKit
section
variable {H : Type} {enc : TypeId × Value→H} {P : Program}
theorem ae4 {W W' : World} (e : Ext W W') {p : MemPlace} (hp : p.block<W.heap.size) : W.sameAt W' p:=Below.same e hp
theorem Js {W W' : World} (e : Ext W W') (K : Kids P (· < P.types.size)) (hz : ∀ t e,t<P.types.size→P.underlying t=some (.slice e)→0<P.cellsOf e) {sp : Nat→Bool} :
  ∀ {ts : List TypeId} {vs : List Value} {ds : List (DataW H)} {ps : List MemPlace},(∀ t ∈ ts,t<P.types.size)→DataW.TrodAll enc P W 0 (fun _=>true) true ts vs ds ps→(∀ p ∈ ps,p.block<W.heap.size)→(∀ p ∈ ps,sp p.block=true)→
   DataW.TrodAll enc P W' 0 sp true ts vs ds ps
 |[],[],[],_,_,h,_,_=>h
 |_::_,_::_,_::_,_,hT,⟨p,q,⟨n,h1⟩,h2,he⟩,hl,hs=>
  ⟨p,q,⟨n,DataW.trod_stays K (fun {t e}=>hz t e) (fun h=>by cases h) (hT _ (List.mem_cons.2 (Or.inl rfl))) h1 (fun x hx=>ae4 e (hl x (by rw [he];exact List.mem_append_left _ hx))) (fun x hx=>hs x (by rw [he];exact List.mem_append_left _ hx))⟩,
   Js e K hz (fun t ht=>hT t (List.mem_cons.2 (Or.inr ht))) h2 (fun x hx=>hl x (by rw [he];exact List.mem_append_right _ hx)) (fun x hx=>hs x (by rw [he];exact List.mem_append_right _ hx)),he⟩
theorem aem {f : Func} {s : ChangeSpec} {W W' : World} {args : Array Value} {ds gs : List (DataW H)} {before : List MemPlace} {tb : TypeId} {fr ho : Bool}
  (hl : laidOutB P=true) (hm : mapsRowed P=true) (hz : ((List.range P.types.size).all fun t=>match P.underlying t with|some (.slice e)=>decide (0<P.cellsOf e)|_=>true)=true)
  (hts : ∀ t ∈ f.params.toList,t<P.types.size) (hv : s.vars = []) (hrt : f.resultTypes=#[tb]) (htb : P.underlying tb=some .bool)
  (hW : DataW.Whole enc P f.params.toList s.vars false W args.toList ds gs before) (hs : s.fn H (ds++gs) = { results:=[.lit (.bool true)],args:=ds }) (e : Ext W W') :
  s.post enc P f false fr ho false W args (.bool true) W':=by
 have hW':=hW
 obtain ⟨p,q,hA,hV,rfl,hfz,hnd⟩:=hW
 rw [hv] at hV
 obtain ⟨rfl,rfl⟩:=trodVars_none hV
 have hlt:=hW'.lt
 refine ⟨ds,[],p ++ [],[],p,[],hW',?_,?_,?_,Below.frame e _,fun h=>by cases h⟩
 ·rw [hs,hrt]
  exact trodAll_mk1 (shut_bool htb _)
 ·rw [hs]
  exact Js e (kids_rows hl hm) (slices_full_of P hz) hts hA (fun x hx=>hlt x (by simpa using hx)) (fun x hx=>by simpa using hlt x (by simpa using hx))
 ·rw [hv,hs];rfl
end
end Go.Sh
end
section
namespace Go.Sh
open Go.RowKit
mutual
def Dat.ok (P : Program) : Dat→TypeId→Prop
 |.int k n,t=>P.underlying t=some (.int k)∧(Lit.int k n).wf=true
 |.bool _,t=>P.underlying t=some .bool
 |.str s,t=>P.underlying t=some .string∧s.size≤maxLen
 |.agg ds,t=>∃ fs,P.underlying t=some (.struct fs)∧Dat.okF P ds (fs.toList.map (·.type))
 |.sl sz es,t=>∃ e,P.underlying t=some (.slice e)∧sz=P.cellsOf e∧es.length≤maxLen∧Dat.okS P es e
def Dat.okF (P : Program) : List Dat→List TypeId→Prop
 |[],ts=>ts = []
 |d::ds,ts=>∃ t r,ts=t::r∧Dat.ok P d t∧Dat.okF P ds r
def Dat.okS (P : Program) : List Dat→TypeId→Prop
 |[],_=>True
 |d::ds,t=>Dat.ok P d t∧Dat.okS P ds t
end
theorem aen {P : Program} {t : TypeId} : ∀ {es : List Dat},(∀ (i : Nat) (d : Dat),es[i]? = some d→d.ok P t)→Dat.okS P es t
 |[],_=>trivial
 |d::es,h=>⟨h 0 d rfl,aen fun i d hi=>h (i+1) d (by simpa using hi)⟩
theorem adw {P : Program} {t : TypeId} : ∀ {es : List Dat},Dat.okS P es t→∀ d ∈ es,d.ok P t
 |[],_,d,hd=>by cases hd
 |e::es,h,d,hd=>by
  rcases List.mem_cons.1 hd with rfl|hd
  ·exact h.1
  ·exact adw h.2 d hd
def acz (P : Program) (total : Nat) : Nat→List Field→Bool
 |off,[]=>off == total
 |off,f::fs=>f.offset == off&&acz P total (off+P.cellsOf f.type) fs
def aeo (P : Program) (ts : List TypeId) : Bool:=
 ts.all fun t=>match P.underlying t with
  |some (.int _)=>true
  |some .bool=>true
  |some .string=>true
  |some (.struct fs)=>acz P (P.cellsOf t) 0 fs.toList&&fs.toList.all (fun f=>ts.contains f.type)
  |some (.slice e)=>decide (0<P.cellsOf e)&&ts.contains e
  |_=>false
theorem Jt {Q : Nat→Dat→Prop} : ∀ n : Nat,(∀ i,i<n→∃ d,Q i d)→∃ es : List Dat,es.length=n∧∀ i d,es[i]? = some d→Q i d
 |0,_=>⟨[],rfl,fun i d h=>by cases h⟩
 |n+1,h=>by
  obtain ⟨es,h1,h2⟩:=Jt n fun i hi=>h i (by omega)
  obtain ⟨d,hd⟩:=h n (by omega)
  refine ⟨es ++ [d],by simp [h1],fun i x hx=>?_⟩
  rcases Nat.lt_or_ge i es.length with hi|hi
  ·rw [List.getElem?_append_left hi] at hx;exact h2 i x hx
  ·rw [List.getElem?_append_right hi] at hx
   have hl:=(List.getElem?_eq_some_iff.1 hx).1
   have : i=n:=by simp at hl;omega
   subst this
   rw [h1,Nat.sub_self] at hx
   cases hx;exact hd
section
variable {H : Type} {enc : TypeId × Value→H} {P : Program} {W : World}
theorem VM {cs : List Value} {total : Nat} (hcs : cs.length=total) : ∀ (fl : List Field) (off : Nat),acz P total off fl=true→
  (∀ f ∈ fl,∃ d,Rep (all W) d ((cs.drop f.offset).take (P.cellsOf f.type))∧d.ok P f.type)→∃ ds,RepA (all W) ds (cs.drop off)∧Dat.okF P ds (fl.map (·.type))
 |[],off,hl,_=>⟨[],by
  have : off=total:=by simpa [acz] using hl
  rw [RepA,List.drop_eq_nil_iff];omega,rfl⟩
 |f::fl,off,hl,h=>by
  simp only [acz,Bool.and_eq_true,beq_iff_eq] at hl
  obtain ⟨d,h1,h2⟩:=h f List.mem_cons_self
  obtain ⟨ds,h3,h4⟩:=VM hcs fl _ hl.2 fun g hg=>h g (List.mem_cons_of_mem _ hg)
  refine ⟨d::ds,⟨_,_,?_,h1,h3⟩,_,_,rfl,h2,h4⟩
  rw [hl.1,← List.drop_drop,List.take_append_drop]
theorem YA {ts : List TypeId} (hp : aeo P ts=true) {sp : Nat→Bool} : ∀ (fuel : Nat) (t : TypeId) (cs : List Value) (x : DataW H × List MemPlace),t ∈ ts→
  DataW.trod enc P W 0 sp true fuel t cs=some x→∃ d,Rep (all W) d cs∧d.ok P t
 |0,_,_,_,_,h=>by simp [DataW.trod] at h
 |fuel+1,t,cs,x,ht,h=>by
  have hpt:=List.all_eq_true.1 hp t ht
  cases hu : P.underlying t with
  |none=>rw [hu] at hpt;cases hpt
  |some k=>
   rw [hu] at hpt
   cases k with
   |int k=>obtain ⟨n,rfl,_,hw⟩:=DataW.trod_int hu h;exact ⟨.int k n,rfl,hu,hw⟩
   |bool=>obtain ⟨b,rfl,_⟩:=DataW.trod_bool hu h;exact ⟨.bool b,rfl,hu⟩
   |string=>obtain ⟨s,rfl,_,hs⟩:=DataW.trod_string hu h;exact ⟨.str s,rfl,hu,hs⟩
   |struct fs=>
    simp only [Bool.and_eq_true] at hpt
    obtain ⟨xs,n,hn,_,hl,hxl,hx⟩:=DataW.trod_struct hu h
    obtain rfl : fuel=n:=by omega
    obtain ⟨ds,h1,h2⟩:=VM (P:=P) (W:=W) hl fs.toList 0 hpt.1 (fun f hf=>by
     obtain ⟨i,hi,rfl⟩:=List.getElem_of_mem hf
     have hi' : i<fs.size:=by simpa using hi
     have h1:=hx i fs[i] (Array.getElem?_eq_getElem hi')
     rw [List.getElem?_eq_getElem (by omega)] at h1
     have hmem : fs[i].type ∈ ts:=by
      have:=List.all_eq_true.1 hpt.2 _ hf
      simpa using this
     exact YA hp fuel _ _ _ hmem h1)
    rw [List.drop_zero] at h1
    exact ⟨.agg ds,h1,fs,hu,h2⟩
   |slice e=>
    simp only [Bool.and_eq_true,decide_eq_true_eq] at hpt
    have he : e ∈ ts:=by simpa using hpt.2
    rcases DataW.trod_slice hu h with ⟨rfl,_⟩|⟨a,len,cap,elems,rest,n,hn,rfl,_,_,hlc,hcm,hel,hget,_,_⟩
    ·exact ⟨.sl (P.cellsOf e) [],⟨none,0,rfl,fun _=>rfl,Nat.le_refl _,trivial⟩,e,hu,rfl,Nat.zero_le _,trivial⟩
    obtain rfl : fuel=n:=by omega
    have hspot : 0<len→a.spot=none:=fun h0=>by
     have h1:=hget 0 h0
     rw [List.getElem?_eq_getElem (by omega)] at h1
     obtain ⟨c,hc,_⟩:=Option.bind_eq_some_iff.1 h1
     obtain ⟨_,hcl,hcc⟩:=World.cells?_some hc
     have hcell:=(hcc 0 hpt.1).trans (List.getElem?_eq_getElem (by omega))
     have:=World.cell?_spot hcell
     simpa [Addr.add] using this
    obtain ⟨es,h1,h2⟩:=Jt (Q:=fun i d=>d.ok P e∧∃ c,c.length=P.cellsOf e∧CellsAt (all W) (some a) (i*P.cellsOf e) c∧Rep (all W) d c) len (fun i hi=>by
     have h1:=hget i hi
     rw [List.getElem?_eq_getElem (by omega)] at h1
     obtain ⟨c,hc,ht⟩:=Option.bind_eq_some_iff.1 h1
     obtain ⟨_,hcl,hcc⟩:=World.cells?_some hc
     obtain ⟨d,hd,hok⟩:=YA hp fuel e c _ he ht
     refine ⟨d,hok,c,hcl,fun j v hj=>?_,hd⟩
     have hjl:=(List.getElem?_eq_some_iff.1 hj).1
     have hcell : W.cell? ((a.add (i*P.cellsOf e)).add j)=some v:=(hcc j (by omega)).trans hj
     obtain ⟨b,off,sp⟩:=a
     have hsp : sp=none:=hspot (by omega)
     subst hsp
     rw [XS,XS] at hcell
     exact ⟨b,off,rfl,aeX hcell⟩)
    refine ⟨.sl (P.cellsOf e) es,⟨some a,cap,by rw [h1],by simp,by omega,RepS.of fun i d hi=>?_⟩,e,hu,rfl,by omega,aen fun i d hi=>(h2 i d hi).1⟩
    rw [Nat.zero_add];exact (h2 i d hi).2
   |_=>cases hpt
end
end Go.Sh
end
section
namespace Go.Sh
open Go.RowKit
set_option linter.unusedVariables false
def SlG {α : Type} (sz : Nat) (r : Gh) (R : List Value→α→Prop) (v : Value) (l : List α) : Prop:=
 ∃ p cap,v = .slice p l.length cap∧(p=none→cap=0)∧l.length≤cap∧∀ (i : Nat) (h : i<l.length),∃ c,c.length=sz∧CellsAt r p (i*sz) c∧R c l[i]
def RowOf {α : Type} (sz : Nat) (R : List Value→α→Prop) (xs : List Value) (l : List α) : Prop:=
 xs.length=l.length*sz∧∀ (i : Nat) (h : i<l.length),R ((xs.drop (i*sz)).take sz) l[i]
section
variable {α : Type} {sz : Nat} {r s : Gh} {R Q : List Value→α→Prop} {v : Value} {l : List α}
theorem SlG.up' (h : SlG sz r R v l) (le : Le r s) (hR : ∀ c x,R c x→Q c x) : SlG sz s Q v l:=by
 obtain ⟨p,cap,h1,h2,h3,h4⟩:=h
 refine ⟨p,cap,h1,h2,h3,fun i hi=>?_⟩
 obtain ⟨c,h5,h6,h7⟩:=h4 i hi
 exact ⟨c,h5,h6.up le,hR _ _ h7⟩
theorem SlG.cells (h : SlG sz r R v l) [le : Le r s] : SlG sz s R v l:=h.up' le fun _ _ h=>h
theorem SlG.nil : SlG sz r R (.slice none 0 0) ([] : List α):=⟨none,0,rfl,fun _=>rfl,Nat.le_refl _,fun i hi=>absurd hi (Nat.not_lt_zero _)⟩
theorem SlG.shape (h : SlG sz r R v l) : ∃ p cap,v = .slice p l.length cap∧(p=none→cap=0)∧l.length≤cap:=by
 obtain ⟨p,cap,h1,h2,h3,_⟩:=h;exact ⟨p,cap,h1,h2,h3⟩
theorem SlG.get (hz : 0<sz) {p : Option Addr} {n cap : Nat} (h : SlG sz r R (.slice p n cap) l) {i : Nat} (hi : i<l.length) :
  ∃ b off c,p=some ⟨b,off,none⟩∧c.length=sz∧R c l[i]∧∀ j v,c[j]? = some v→Ob r fun w=>w.cell? ⟨b,off+i*sz+j,none⟩=some v:=by
 obtain ⟨p',cap',h1,h2,h3,h4⟩:=h
 cases h1
 obtain ⟨c,h5,h6,h7⟩:=h4 i hi
 obtain ⟨b,off,hp,_⟩:=h6 0 c[0] (List.getElem?_eq_getElem (by omega))
 subst hp
 refine ⟨b,off,c,rfl,h5,h7,fun j v hj=>?_⟩
 obtain ⟨b',off',hp,ho⟩:=h6 j v hj
 cases hp;exact ho
theorem RowOf.nil : RowOf sz R [] ([] : List α):=⟨by simp,fun i hi=>absurd hi (Nat.not_lt_zero _)⟩
theorem RowOf.mono {xs : List Value} (h : RowOf sz R xs l) (hR : ∀ c x,R c x→Q c x) : RowOf sz Q xs l:=⟨h.1,fun i hi=>hR _ _ (h.2 i hi)⟩
theorem RowOf.snoc {xs c : List Value} {x : α} (h : RowOf sz R xs l) (hc : c.length=sz) (hx : R c x) : RowOf sz R (xs++c) (l ++ [x]):=by
 obtain ⟨h1,h2⟩:=h
 refine ⟨by rw [List.length_append,List.length_append,h1,hc,List.length_singleton,Nat.add_mul,Nat.one_mul],fun i hi=>?_⟩
 rw [List.length_append,List.length_singleton] at hi
 rcases Nat.lt_or_ge i l.length with h|h
 ·have hm : i*sz+sz≤xs.length:=by rw [h1,← Nat.succ_mul];exact Nat.mul_le_mul_right _ h
  rw [List.getElem_append_left h,List.drop_append_of_le_length (by omega),List.take_append_of_le_length (by rw [List.length_drop];omega)]
  exact h2 i h
 ·obtain rfl : i=l.length:=by omega
  rw [List.getElem_append_right (Nat.le_refl _),← h1,List.drop_left',List.take_of_length_le (by omega)]
  ·simpa using hx
  ·rfl
theorem RowOf.sl {xs : List Value} (h : RowOf sz R xs l) {p : Option Addr} {cap : Nat} (hp : p=none→cap=0) (hc : l.length≤cap) (ho : Ob r fun w=>Sl w p xs) (hz : 0<sz) (hk : ∃ w,Holds r w) : SlG sz r R (.slice p l.length cap) l:=by
 refine ⟨p,cap,rfl,hp,hc,fun i hi=>⟨(xs.drop (i*sz)).take sz,?_,?_,h.2 i hi⟩⟩
 ·have : i*sz+sz≤xs.length:=by rw [h.1,← Nat.succ_mul];exact Nat.mul_le_mul_right _ hi
  rw [List.length_take,List.length_drop];omega
 ·intro j v hj
  rw [List.getElem?_take] at hj
  split at hj
  ·rw [List.getElem?_drop] at hj
   obtain ⟨w,hw⟩:=hk
   obtain ⟨b,off,rfl,_⟩:=ho w hw _ _ hj
   refine ⟨b,off,rfl,fun w' hw'=>?_⟩
   obtain ⟨b',off',hp',hc'⟩:=ho w' hw' _ _ hj
   cases hp'
   rw [← Nat.add_assoc] at hc';exact hc'
  ·cases hj
end
section
variable {P : Program} {X : Nat→Prop} {w0 w : World} {r : Gh} {L : List Asr} {α : Type} {sz n : Nat} {R : List Value→α→Prop} {v : Value} {l : List α} {e : TypeId} {xs : List Value}
theorem StX.doneRow (S : StX X w0 r w (.row v e sz n xs::L)) (h : RowOf sz R xs l) (hz : 0<sz) (hn : n=l.length) :
  ∃ s,StX X w0 (r.or s) w L∧SlG sz s R v l∧(∀ b o,s b o→∃ c,o = .cells c e (0,0))∧(∀ b o,s b o→w0.heap.size≤b∨X b):=by
 subst hn
 have hm:=S.mine _ (List.mem_cons_self ..)
 have hr : w.ownsRow 0 e sz v l.length xs:=S.has _ (List.mem_cons_self ..)
 rcases qK hr with ⟨rfl,h1,h2⟩|⟨g,cap,c,rfl,hg,B,h1,_,h3,h4⟩
 ·have hl : l = []:=List.eq_nil_of_length_eq_zero h1
  subst hl
  exact ⟨nothing,S.tl.new (Ext.refl _) New.nothing,SlG.nil,fun b o h=>h.elim,fun b o h=>h.elim⟩
 ·have S':=S.turn (p:=[]) (x:=.row _ e sz l.length xs) (y:=.cell g c e) (ExtBut.refl _ _) B fun k hk=>.inl (by cases hk;rfl)
  refine ⟨one g c e,S'.frz,?_,fun b o h=>⟨_,h.2⟩,fun b o h=>(hm b (by rw [h.1];rfl)).1⟩
  refine h.sl (by simp) h1 (fun w k=>?_) hz ⟨w,kB B⟩
  rw [← h4];exact (Sl.blk (yR w k)).take _
theorem StX.litSl {b : Nat} (S : StX X w0 r w (.cell b xs e::L)) (h : RowOf sz R xs l) (hz : 0<sz) : StX X w0 (r.or (one b xs e)) w L∧SlG sz (one b xs e) R (.slice (some ⟨b,0,none⟩) l.length l.length) l:=
 ⟨S.frz,h.sl (by simp) (Nat.le_refl _) (fun w k=>Sl.blk (yR w k)) hz ⟨w,kB (S.has _ (List.mem_cons_self ..))⟩⟩
theorem StX.reGh {s t : Gh} (S : StX X w0 ((r.or s).or t) w L) : StX X w0 (r.or (s.or t)) w L:=
 S.less (fun b o h=>h.elim (fun h=>.inl (.inl h)) fun h=>h.elim (fun h=>.inl (.inr h)) .inr) (List.Sublist.refl _)
theorem Above.or' {s t : Gh} (h : Above w0 s) (k : Above w0 t) : Above w0 (s.or t):=fun b o x=>x.elim (h b o) (k b o)
theorem Above.no : Above w0 nothing:=fun b o h=>h.elim
theorem StX.newOf {q : Gh} (S : StX X w0 r w L) (h : Above w0 q) [Le q r] : New w0 q w:=⟨S.holds.le (h:=inferInstance),h⟩
end
section
variable {w : World} {A : (List Value→World→Prop)→Prop} {Z : Value→World→Prop} {b : Bool}
end
end Go.Sh
end
section
namespace Go.Sh
open Go.RowKit
set_option linter.unusedSimpArgs false
set_option linter.unusedVariables false
section
variable {P : Program}
theorem yu {d : Dat} {t : TypeId} {k : IntKind} (u : P.underlying t=some (.int k)) (h : d.ok P t) : ∃ n,d = .int k n∧(Lit.int k n).wf=true:=by
 cases d<;>simp only [Dat.ok,u] at h<;>try simp at h
 obtain ⟨rfl,h⟩:=h
 exact ⟨_,rfl,h⟩
theorem acA {d : Dat} {t : TypeId} (u : P.underlying t=some .bool) (h : d.ok P t) : ∃ b,d = .bool b:=by
 cases d<;>simp only [Dat.ok,u] at h<;>try simp at h
 exact ⟨_,rfl⟩
theorem afO {d : Dat} {t : TypeId} (u : P.underlying t=some .string) (h : d.ok P t) : ∃ s,d = .str s∧s.size≤maxLen:=by
 cases d<;>simp only [Dat.ok,u] at h<;>try simp at h
 exact ⟨_,rfl,h⟩
theorem agn {d : Dat} {t e : TypeId} (u : P.underlying t=some (.slice e)) (h : d.ok P t) : ∃ es,d = .sl (P.cellsOf e) es∧es.length≤maxLen∧∀ x ∈ es,x.ok P e:=by
 cases d<;>simp only [Dat.ok,u] at h<;>try simp at h
 obtain ⟨rfl,h1,h2⟩:=h
 exact ⟨_,rfl,h1,adw h2⟩
theorem kT {d : Dat} {t : TypeId} {ts : List TypeId} (u : ∃ fs,P.underlying t=some (.struct fs)∧fs.toList.map (·.type)=ts) (h : d.ok P t) : ∃ ds,d = .agg ds∧Dat.okF P ds ts:=by
 obtain ⟨fs,u,rfl⟩:=u
 cases d<;>simp only [Dat.ok,u] at h<;>try simp at h
 exact ⟨_,rfl,by simpa using h⟩
theorem zA {ds : List Dat} {t : TypeId} {ts : List TypeId} (h : Dat.okF P ds (t::ts)) : ∃ d r,ds=d::r∧d.ok P t∧Dat.okF P r ts:=by
 cases ds with
 |nil=>cases h
 |cons d r=>obtain ⟨t',r',h1,h2,h3⟩:=h;cases h1;exact ⟨d,r,rfl,h2,h3⟩
theorem kU {ds : List Dat} (h : Dat.okF P ds []) : ds = []:=by
 cases ds with
 |nil=>rfl
 |cons d r=>obtain ⟨t',r',h1,_⟩:=h;cases h1
noncomputable def adx (P : Program) (t : TypeId) (ts : List TypeId) : Bool:=match P.underlying t with|some (.struct fs)=>decide (fs.toList.map (·.type)=ts)|_=>false
theorem xx {t : TypeId} {ts : List TypeId} (h : adx P t ts=true) : ∃ fs,P.underlying t=some (.struct fs)∧fs.toList.map (·.type)=ts:=by
 unfold adx at h
 split at h
 ·rename_i fs hu;exact ⟨fs,hu,of_decide_eq_true h⟩
 ·cases h
end
theorem aep {n : Int} (h : (Lit.int .i64 n).wf=true) : -9223372036854775808≤n∧n≤9223372036854775807:=by
 simp only [Lit.wf,Bool.and_eq_true,decide_eq_true_eq] at h
 exact ⟨h.1,h.2⟩
theorem acB {α : Type} {f : α→Dat} {G : α→Prop} : ∀ es : List Dat,(∀ d ∈ es,∃ t,d=f t∧G t)→∃ l : List α,es=l.map f∧∀ t ∈ l,G t
 |[],_=>⟨[],rfl,fun t h=>by cases h⟩
 |d::es,h=>by
  obtain ⟨t,rfl,ht⟩:=h d List.mem_cons_self
  obtain ⟨l,rfl,hq⟩:=acB es fun x hx=>h x (List.mem_cons_of_mem _ hx)
  refine ⟨t::l,rfl,fun x hx=>?_⟩
  rcases List.mem_cons.1 hx with rfl|hx
  ·exact ht
  ·exact hq x hx
end Go.Sh
end
section
namespace Go.Proofs
open Go.Sh
set_option maxRecDepth 100000
set_option linter.unusedSimpArgs false
set_option linter.unusedVariables false
structure PlD where
 l : Int
 ps : List Int
structure OpD where
 k : Int
 n : Int
 pl : PlD
structure PtD where
 op : Int
 to : PlD
 a : OpD
 b : OpD
 args : List OpD
 sign : ByteArray
 fr : PlD
 mu : Bool
 fn : Int
 st : Int
 nx : Int
 el : Int
 tx : Int
structure GrD where
 name : ByteArray
 lv : Int
 outs : List (Int × Int)
 pn : Int
 tys : List TyD
 nms : List ByteArray
 pts : List PtD
structure UnD where
 ss : List StD
 fs : List GrD
 mn : Int
def kp (c : List Value) (x : Int) : Prop:=c = [.int .i64 x]
def aaB (x : Int) : Prop:=-9223372036854775808≤x∧x<9223372036854775808
def Qj (c : List Value) (x : Int) : Prop:=c = [.int .i64 x]∧aaB x
structure SlB {α : Type} (sz : Nat) (r : Gh) (R : List Value→α→Prop) (v : Value) (l : List α) : Prop where
 sl : SlG sz r R v l
 few : l.length≤maxLen
theorem SlB.cells {α : Type} {sz : Nat} {r s : Gh} {R : List Value→α→Prop} {v : Value} {l : List α} (h : SlB sz r R v l) [le : Le r s] : SlB sz s R v l:=⟨h.sl.cells,h.few⟩
theorem SlB.up' {α : Type} {sz : Nat} {r s : Gh} {R Q : List Value→α→Prop} {v : Value} {l : List α} (h : SlB sz r R v l) (le : Le r s) (hR : ∀ c x,R c x→Q c x) : SlB sz s Q v l:=⟨h.sl.up' le hR,h.few⟩
theorem xW {α : Type} {D : α→Dat} {r : Gh} {R : List Value→α→Prop} {sz : Nat} {cs : List Value} {l : List α} (hR : ∀ c x,x ∈ l→Rep r (D x) c→R c x) (h : Rep r (.sl sz (l.map D)) cs) (hl : l.length≤maxLen) : ∃ v,cs = [v]∧SlB sz r R v l:=by
 obtain ⟨p,cap,rfl,h1,h2,h3⟩:=h
 rw [List.length_map] at h2 ⊢
 refine ⟨_,rfl,⟨p,cap,rfl,h1,h2,fun i hi=>?_⟩,hl⟩
 obtain ⟨c,h4,h5,h6⟩:=h3.get (i:=i) (d:=D l[i]) (by rw [List.getElem?_map,List.getElem?_eq_getElem hi];rfl)
 rw [Nat.zero_add] at h5
 exact ⟨c,h4,h5,hR _ _ (List.getElem_mem hi) h6⟩
def PlD.ok (p : PlD) : Prop:=p.ps.length≤maxLen∧∀ k ∈ p.ps,aaB k
def OpD.ok (o : OpD) : Prop:=o.pl.ok
def PtD.ok (p : PtD) : Prop:=p.to.ok∧p.a.ok∧p.b.ok∧(p.args.length≤maxLen∧∀ o ∈ p.args,o.ok)∧p.fr.ok
def GrD.ok (g : GrD) : Prop:=g.outs.length≤maxLen∧g.tys.length≤maxLen∧g.nms.length≤maxLen∧g.pts.length≤maxLen∧∀ p ∈ g.pts,p.ok
def UnD.ok (u : UnD) : Prop:=u.ss.length≤maxLen∧u.fs.length≤maxLen∧∀ g ∈ u.fs,g.ok
def ae5 (c : List Value) (x : ByteArray) : Prop:=c = [.string x]
def ae6 (c : List Value) (x : Int × Int) : Prop:=c = [.int .i64 x.1,.int .i64 x.2]
def TyC (r : Gh) (c : List Value) (t : TyD) : Prop:=TyG r (.agg c.toArray) t
def PlG (r : Gh) (c : List Value) (p : PlD) : Prop:=∃ v,c = [.int .i64 p.l,v]∧SlB 1 r Qj v p.ps
def OpG (r : Gh) (c : List Value) (o : OpD) : Prop:=∃ v,c = [.int .u8 o.k,.int .i64 o.n,.int .i64 o.pl.l,v]∧SlB 1 r Qj v o.pl.ps
def PtG (r : Gh) (c : List Value) (p : PtD) : Prop:=∃ vt va vb vl vf,
 c = [.int .u8 p.op,.int .i64 p.to.l,vt,.int .u8 p.a.k,.int .i64 p.a.n,.int .i64 p.a.pl.l,va,.int .u8 p.b.k,.int .i64 p.b.n,.int .i64 p.b.pl.l,vb,vl,.string p.sign,.int .i64 p.fr.l,vf,.bool p.mu,.int .i64 p.fn,.int .i64 p.st,.int .i64 p.nx,.int .i64 p.el,.int .i64 p.tx]∧
 SlB 1 r Qj vt p.to.ps∧SlB 1 r Qj va p.a.pl.ps∧SlB 1 r Qj vb p.b.pl.ps∧SlB 4 r (OpG r) vl p.args∧SlB 1 r Qj vf p.fr.ps
def GrG (r : Gh) (c : List Value) (g : GrD) : Prop:=∃ vo vt vn vp,c = [.string g.name,.int .i64 g.lv,vo,.int .i64 g.pn,vt,vn,vp]∧
 SlB 2 r ae6 vo g.outs∧SlB 5 r (TyC r) vt g.tys∧SlB 1 r ae5 vn g.nms∧SlB 21 r (PtG r) vp g.pts
def UnG (r : Gh) (v : Value) (u : UnD) : Prop:=∃ p cap vf,v = .agg #[.slice p u.ss.length cap,vf,.int .i64 u.mn]∧(p=none→cap=0)∧u.ss.length≤cap∧StG r p u.ss∧u.ss.length≤maxLen∧SlB 7 r (GrG r) vf u.fs
theorem OpG.up {r s : Gh} {c : List Value} {p : OpD} (h : OpG r c p) [l : Le r s] : OpG s c p:=by
 obtain ⟨v,h1,h2⟩:=h;exact ⟨v,h1,h2.cells⟩
theorem PtG.up {r s : Gh} {c : List Value} {p : PtD} (h : PtG r c p) [l : Le r s] : PtG s c p:=by
 obtain ⟨vt,va,vb,vl,vf,h0,h1,h2,h3,h4,h5⟩:=h
 exact ⟨vt,va,vb,vl,vf,h0,h1.cells,h2.cells,h3.cells,h4.up' l fun _ _ h=>h.up,h5.cells⟩
theorem GrG.up {r s : Gh} {c : List Value} {g : GrD} (h : GrG r c g) [l : Le r s] : GrG s c g:=by
 obtain ⟨vo,vt,vn,vp,h0,h1,h2,h3,h4⟩:=h
 exact ⟨vo,vt,vn,vp,h0,h1.cells,h2.up' l fun _ _ h=>TyG.up h,h3.cells,h4.up' l fun _ _ h=>h.up⟩
theorem UnG.up {r s : Gh} {v : Value} {u : UnD} (h : UnG r v u) [l : Le r s] : UnG s v u:=by
 obtain ⟨p,cap,vf,h0,h1,h2,h3,h5,h4⟩:=h
 exact ⟨p,cap,vf,h0,h1,h2,h3.up,h5,h4.up' l fun _ _ h=>h.up⟩
def PlD.dat (p : PlD) : Dat:=.agg [.int .i64 p.l,.sl 1 (p.ps.map (Dat.int .i64))]
def OpD.dat (o : OpD) : Dat:=.agg [.int .u8 o.k,.int .i64 o.n,o.pl.dat]
def PtD.dat (p : PtD) : Dat:=.agg [.int .u8 p.op,p.to.dat,p.a.dat,p.b.dat,.sl 4 (p.args.map OpD.dat),.str p.sign,p.fr.dat,.bool p.mu,.int .i64 p.fn,.int .i64 p.st,.int .i64 p.nx,.int .i64 p.el,.int .i64 p.tx]
def adO (x : Int × Int) : Dat:=.agg [.int .i64 x.1,.int .i64 x.2]
def GrD.dat (g : GrD) : Dat:=.agg [.str g.name,.int .i64 g.lv,.sl 2 (g.outs.map adO),.int .i64 g.pn,.sl 5 (g.tys.map TyD.dat),.sl 1 (g.nms.map Dat.str),.sl 21 (g.pts.map PtD.dat)]
def UnD.dat (u : UnD) : Dat:=.agg [.sl 2 (u.ss.map StD.dat),.sl 7 (u.fs.map GrD.dat),.int .i64 u.mn]
theorem Qk {r : Gh} {c : List Value} {p : PlD} (h : Rep r p.dat c) (k : p.ok) : PlG r c p:=by
 obtain ⟨a1,b1,rfl,e1,a2,b2,rfl,e2,e3⟩:=h
 obtain rfl : a1=_:=e1
 obtain rfl : b2 = []:=e3
 obtain ⟨v,rfl,hv⟩:=xW (D:=Dat.int .i64) (R:=Qj) (fun c x hx h=>⟨h,k.2 x hx⟩) e2 k.1
 exact ⟨v,rfl,hv⟩
theorem Ql {r : Gh} {c : List Value} {o : OpD} (h : Rep r o.dat c) (k : o.ok) : OpG r c o:=by
 obtain ⟨a1,b1,rfl,e1,a2,b2,rfl,e2,a3,b3,rfl,e3,e4⟩:=h
 obtain rfl : a1=_:=e1
 obtain rfl : a2=_:=e2
 obtain rfl : b3 = []:=e4
 obtain ⟨v,rfl,hv⟩:=Qk e3 k
 exact ⟨v,rfl,hv⟩
theorem aeq {r : Gh} {c : List Value} {p : PtD} (h : Rep r p.dat c) (k : p.ok) : PtG r c p:=by
 obtain ⟨a1,b1,rfl,e1,a2,b2,rfl,e2,a3,b3,rfl,e3,a4,b4,rfl,e4,a5,b5,rfl,e5,a6,b6,rfl,e6,a7,b7,rfl,e7,a8,b8,rfl,e8,a9,b9,rfl,e9,a10,b10,rfl,e10,a11,b11,rfl,e11,a12,b12,rfl,e12,a13,b13,rfl,e13,e14⟩:=h
 obtain rfl : a1=_:=e1
 obtain rfl : a6=_:=e6
 obtain rfl : a8=_:=e8
 obtain rfl : a9=_:=e9
 obtain rfl : a10=_:=e10
 obtain rfl : a11=_:=e11
 obtain rfl : a12=_:=e12
 obtain rfl : a13=_:=e13
 obtain rfl : b13 = []:=e14
 obtain ⟨v2,rfl,h2⟩:=Qk e2 k.1
 obtain ⟨v3,rfl,h3⟩:=Ql e3 k.2.1
 obtain ⟨v4,rfl,h4⟩:=Ql e4 k.2.2.1
 obtain ⟨v5,rfl,h5⟩:=xW (R:=OpG r) (fun c x hx h=>Ql h (k.2.2.2.1.2 x hx)) e5 k.2.2.2.1.1
 obtain ⟨v7,rfl,h7⟩:=Qk e7 k.2.2.2.2
 exact ⟨v2,v3,v4,v5,v7,rfl,h2,h3,h4,h5,h7⟩
theorem adP {r : Gh} {c : List Value} {x : Int × Int} (h : Rep r (adO x) c) : ae6 c x:=by
 obtain ⟨a1,b1,rfl,e1,a2,b2,rfl,e2,e3⟩:=h
 obtain rfl : a1=_:=e1
 obtain rfl : a2=_:=e2
 obtain rfl : b2 = []:=e3
 rfl
theorem aer {r : Gh} {c : List Value} {g : GrD} (h : Rep r g.dat c) (k : g.ok) : GrG r c g:=by
 obtain ⟨a1,b1,rfl,e1,a2,b2,rfl,e2,a3,b3,rfl,e3,a4,b4,rfl,e4,a5,b5,rfl,e5,a6,b6,rfl,e6,a7,b7,rfl,e7,e8⟩:=h
 obtain rfl : a1=_:=e1
 obtain rfl : a2=_:=e2
 obtain rfl : a4=_:=e4
 obtain rfl : b7 = []:=e8
 obtain ⟨v3,rfl,h3⟩:=xW (R:=ae6) (fun c x _ h=>adP h) e3 k.1
 obtain ⟨v5,rfl,h5⟩:=xW (R:=TyC r) (fun c x _ h=>TyG.of_rep h) e5 k.2.1
 obtain ⟨v6,rfl,h6⟩:=xW (D:=Dat.str) (R:=ae5) (fun c x _ h=>h) e6 k.2.2.1
 obtain ⟨v7,rfl,h7⟩:=xW (R:=PtG r) (fun c x hx h=>aeq h (k.2.2.2.2 x hx)) e7 k.2.2.2.1
 exact ⟨v3,v5,v6,v7,rfl,h3,h5,h6,h7⟩
theorem aes {r : Gh} {c : List Value} {u : UnD} (h : Rep r u.dat c) (k : u.ok) : UnG r (.agg c.toArray) u:=by
 obtain ⟨a1,b1,rfl,e1,a2,b2,rfl,e2,a3,b3,rfl,e3,e4⟩:=h
 obtain rfl : a3=_:=e3
 obtain rfl : b3 = []:=e4
 obtain ⟨q,cap,rfl,h1,h2,h3⟩:=e1
 obtain ⟨vf,rfl,hf⟩:=xW (R:=GrG r) (fun c x hx h=>aer h (k.2.2 x hx)) e2 k.2.1
 rw [List.length_map] at h2 ⊢
 exact ⟨q,cap,vf,rfl,h1,h2,h3,k.1,hf⟩
end Go.Proofs
end
section
namespace Go.Proofs
open Go.Sh
set_option linter.unusedVariables false
def stepG (ss : List StD) (s : TyD × Int) (k : Int) : Option (TyD × Int):=
 if k = -1∧s.1.k=3 then s.1.of.head?.map fun u=>(u,max s.2 1)
 else if k = -1∧s.1.k=4 then s.1.of.head?.map fun u=>(u,max s.2 (if s.1.m then 2 else 3))
 else if 0≤k∧s.1.k=5 then (zd ss s.1.st)[k.toNat]?.map fun u=>(u,s.2)
 else none
def goG (ss : List StD) : List Int→TyD × Int→Option (TyD × Int)
 |[],s=>some s
 |k::l,s=>(stepG ss s k).bind (goG ss l)
def zi (ss : List StD) (tys : List TyD) (p : PlD) : TyD × Int × Bool:=
 match (if p.l<0 then none else tys[p.l.toNat]?).bind fun t=>goG ss p.ps (t,0) with
 |some s=>(s.1,s.2,decide (p.ps.length≤8))
 |none=>(zr,0,false)
def zZ : TyD:=⟨1,false,0,0,[]⟩
def QS : TyD:=⟨2,false,0,0,[]⟩
def xc (p : PlD) : Bool:=decide (p.l=0)&&decide (p.ps.length=0)
def j3 (o : OpD) : Bool:=(decide (o.k=0)&&decide (o.n=0))&&xc o.pl
def zw (ss : List StD) (tys : List TyD) (o : OpD) : TyD × Bool:=
 if o.k=1 then (zZ,xc o.pl)
 else if o.k=2 then (QS,xc o.pl&&(decide (o.n=0)||decide (o.n=1)))
 else if o.k=3 then ((zi ss tys o.pl).1,((zi ss tys o.pl).2.2&&decide (o.n=0))&&xo (zi ss tys o.pl).1)
 else if o.k=4 then ((zi ss tys o.pl).1,(((zi ss tys o.pl).2.2&&decide (o.n=0)) && !xo (zi ss tys o.pl).1)&&decide ((zi ss tys o.pl).2.1<2))
 else (zr,false)
structure JT where
 to : Bool:=false
 a : Bool:=false
 b : Bool:=false
 args : Bool:=false
 sign : Bool:=false
 fr : Bool:=false
 mu : Bool:=false
 fn : Bool:=false
 st : Bool:=false
 el : Bool:=false
def Zb (p : PtD) (h : JT) : List Bool:=
 [h.to||xc p.to,h.a||j3 p.a,h.b||j3 p.b,h.args||decide (p.args.length=0),h.sign||(p.sign.toList == []),h.fr||xc p.fr,h.mu || !p.mu,h.fn||decide (p.fn=0),h.st||decide (p.st=0),h.el||decide (p.el=0)]
def zH (p : PtD) (h : JT) : Bool:=(Zb p h).all id
def y0 (ss : List StD) (tys : List TyD) : List OpD→List TyD→Bool
 |[],[]=>true
 |o::l,t::r=>((zw ss tys o).2&&zR yd (zw ss tys o).1 t)&&y0 ss tys l r
 |_,_=>false
def YB (g : GrD) (q : Int) : Bool:=decide (0≤q)&&decide (q<g.pts.length)
def isK (t : TyD) (k : Int) : Bool:=decide (t.k=k)
def ya (s : ByteArray) (l : List (List UInt8)) : Bool:=l.any fun x=>s.toList == x
noncomputable def ptG (u : UnD) (g : GrD) (p : PtD) : Bool:=
 let to:=zi u.ss g.tys p.to
 let fr:=zi u.ss g.tys p.fr
 let laid:=to.2.2&&decide (to.2.1<3)
 let a:=zw u.ss g.tys p.a
 let b:=zw u.ss g.tys p.b
 let ints:=isK a.1 1&&isK b.1 1
 if p.op=1 then ((zH p { to:=true,a:=true } && laid)&&a.2)&&zR yd a.1 to.1
 else if p.op=2 then
  (zH p { to:=true,a:=true,b:=true,sign:=true } && (laid&&(a.2&&b.2))) &&
   (if ya p.sign [[43],[45],[42],[47],[37]] then isK to.1 1&&ints
    else if ya p.sign [[60],[60,61],[62],[62,61]] then isK to.1 2&&ints
    else if ya p.sign [[61,61],[33,61]] then isK to.1 2&&(ints||(isK a.1 2&&isK b.1 2)) else false)
 else if p.op=3 then
  ((zH p { to:=true,a:=true,sign:=true } && laid)&&a.2) &&
   (if ya p.sign [[45]] then isK to.1 1&&isK a.1 1 else if ya p.sign [[33]] then isK to.1 2&&isK a.1 2 else false)
 else if p.op=4 then
  ((((zH p { to:=true,fr:=true,mu:=true } && laid)&&fr.2.2)&&isK to.1 4)&&decide (to.1.m=p.mu))&&(zR yd (to.1.of.headD zr) fr.1 && !(p.mu&&decide (fr.2.1=3)))
 else if p.op=5 then (((zH p { to:=true,a:=true } && laid)&&a.2)&&isK to.1 3)&&zR yd (to.1.of.headD zr) a.1
 else if p.op=6 then
  (((zH p { to:=true,args:=true,st:=true } && laid)&&isK to.1 5)&&decide (to.1.st=p.st))&&y0 u.ss g.tys p.args (ym u.ss to.1).1
 else if p.op=7 then
  ((zH p { to:=true,args:=true,fn:=true } && laid)&&(decide (0≤p.fn)&&decide (p.fn<u.fs.length))) &&
   (match u.fs[p.fn.toNat]? with
    |some f=>zR yd to.1 (f.tys.headD zr)&&y0 u.ss g.tys p.args ((f.tys.drop 1).take f.pn.toNat)
    |none=>false)
 else if p.op=8 then (zH p { to:=true } && laid)&&isK to.1 1
 else if p.op=9 then (zH p { a:=true } && a.2)&&isK a.1 1
 else if p.op=10 then ((zH p { fr:=true } && fr.2.2)&&(x9 u.ss fr.1).1)&&decide (fr.2.1<2)
 else if p.op=11 then ((zH p { fr:=true } && fr.2.2)&&decide (0<p.fr.l))&&decide (p.fr.ps.length=0)
 else if p.op=12 then ((zH p { a:=true,el:=true } && a.2)&&isK a.1 2)&&YB g p.el
 else if p.op=13∨p.op=14 then zH p {}
 else false
noncomputable def yj (u : UnD) (g : GrD) (p : PtD) : Bool:=
 !((decide (p.tx<0)||(!decide (p.op=14) && !YB g p.nx))||(decide (p.op=14) && !decide (p.nx=0)))&&ptG u g p
def xX (x y : Int) : List Int→Bool
 |[]=>false
 |a::l=>(decide (a=y)&&l.contains x)||xX x y l
def qA (tys : List TyD) (x y : Int) : Bool:=tys.any fun t=>xX x y (regsT t)
def kV (outs : List (Int × Int)) (x y : Int) : Bool:=outs.contains (x,y)
def xE (lv : Int) (o : Int × Int) : Bool:=!((decide (min o.1 o.2<0)||decide (lv≤max o.1 o.2))||decide (o.1=o.2))
def jo (o w : Int × Int) : Bool:=decide (o.1<w.1)||(decide (o.1=w.1)&&decide (o.2<w.2))
def VN : List (Int × Int)→Bool
 |a::b::l=>jo a b&&VN (b::l)
 |_=>true
def adQ (n : Nat) (must says : Int→Int→Bool) : Bool:=
 (List.range n).all fun a : Nat=>(List.range n).all fun b : Nat=>
  ((List.range n).all fun c : Nat=>!((says a b&&says b c)&&(!decide (a=c) && !says a c))) && !(!decide (a=b)&&(must a b && !says a b))
def kW (g : GrD) : Bool:=
 (g.outs.all (xE g.lv)&&VN g.outs)&&adQ g.lv.toNat (qA (g.tys.take (g.pn.toNat+1))) (kV g.outs)
noncomputable def tyG (u : UnD) (g : GrD) (i : Nat) (t : TyD) : Bool:=
 zK u.ss t&&(regsT t).all fun r=>!(decide (r<(if (i : Int)≤g.pn then 0 else -1))||decide (g.lv≤r))
noncomputable def qc (u : UnD) (g : GrD) : Nat→List TyD→Bool
 |_,[]=>true
 |i,t::l=>tyG u g i t&&qc u g (i+1) l
def yk (l : List PtD) : Nat:=l.countP fun p=>decide (p.op=4)
noncomputable def yK (u : UnD) (fn : Nat) (g : GrD) : Bool:=
 ((((((decide (0≤g.lv)&&decide (g.lv≤8))&&(decide (0≤g.pn)&&decide (g.pn≤8)))&&(decide (g.pn<g.tys.length)&&decide (g.tys.length≤512)))&&decide (g.nms.length=g.tys.length)) &&
  qc u g 0 g.tys)&&((decide (1≤g.pts.length)&&decide (g.pts.length≤1024))&&kW g)) &&
  (decide (yk g.pts≤256)&&(!decide ((fn : Int)=u.mn)||((decide (g.lv=0)&&decide (g.pn=0))&&isK (g.tys.headD zr) 1)))
noncomputable def qe (u : UnD) : Nat→List GrD→Option Nat
 |_,[]=>none
 |i,g::l=>if yK u i g then qe u (i+1) l else some i
noncomputable def Zc (u : UnD) (g : GrD) : Nat→List PtD→Option Nat
 |_,[]=>none
 |q,p::l=>if yj u g p then Zc u g (q+1) l else some q
noncomputable def ZI (u : UnD) : Nat→List GrD→Option (Nat × Nat)
 |_,[]=>none
 |i,g::l=>match Zc u g 0 g.pts with|some q=>some (i,q)|none=>ZI u (i+1) l
noncomputable def qg (u : UnD) : Int × Int × Int:=
 if !decide ((zz u.ss).2=0)||(decide (u.fs.length<1)||decide (32<u.fs.length))||(decide (u.mn<0)||decide ((u.fs.length : Int)≤u.mn)) then (-1,-1,100)
 else match qe u 0 u.fs with
  |some i=>(i,-1,100)
  |none=>match ZI u 0 u.fs with
   |some (i,q)=>(i,q,100)
   |none=>(0,0,0)
noncomputable def ZJ (u : UnD) : Bool:=decide ((qg u).2.2=0)
end Go.Proofs
end
section
namespace Go.Proofs
open Go.Sh
set_option linter.unusedVariables false
theorem Qm : ∀ {n : Nat} {s s' : Int} {m : Nat} {t : TyD},zy s n t=true→n≤m→s≤s'→zy s' m t=true:=by
 intro n
 induction n with
 |zero=>intro s s' m t h;cases h
 |succ n ih=>
  intro s s' m t h hm hs
  obtain ⟨m,rfl⟩ : ∃ k,m=k+1:=⟨m - 1,by omega⟩
  have inn : inB s n t=true→inB s' m t=true:=by
   intro hi
   cases t with
   |mk k mm re st of=>
    cases of with
    |nil=>cases hi
    |cons u l=>exact ih (t:=u) hi (by omega) hs
  rw [yU] at h ⊢
  split
  ·rename_i h1;rw [if_pos h1] at h;exact h
  ·rename_i h1;rw [if_neg h1] at h
   split
   ·rename_i h2;rw [if_pos h2] at h
    simp only [Bool.and_eq_true,decide_eq_true_eq] at h ⊢
    exact ⟨h.1,by omega⟩
   ·rename_i h2;rw [if_neg h2] at h
    split
    ·rename_i h3;rw [if_pos h3] at h
     simp only [Bool.and_eq_true,decide_eq_true_eq] at h ⊢
     exact ⟨h.1,h.2.1,inn h.2.2⟩
    ·rename_i h3;rw [if_neg h3] at h
     split
     ·rename_i h4;rw [if_pos h4] at h
      simp only [Bool.and_eq_true,decide_eq_true_eq] at h ⊢
      exact ⟨h.1,h.2.1,inn h.2.2⟩
     ·rename_i h4;rw [if_neg h4] at h;cases h
def Fine (ss : List StD) (t : TyD) : Prop:=zy ss.length 48 t=true
theorem Fine.is {ss : List StD} {t : TyD} (h : Fine ss t) (hs : ss.length≤32) : isB t=true:=Qm h (Nat.le_refl _) (by omega)
theorem Fine.cases {ss : List StD} {t : TyD} (h : Fine ss t) : (t.of = []∧(t.k=1∨t.k=2∨t.k=5))∨∃ u,t.of = [u]∧Fine ss u∧(t.k=3∨t.k=4):=by
 rcases zF h with h|⟨u,h1,h2,h3⟩
 ·exact .inl h
 ·exact .inr ⟨u,h1,Qm h2 (by omega) (Int.le_refl _),h3⟩
theorem Fine.st {ss : List StD} {t : TyD} (h : Fine ss t) (hk : t.k=5) : 0≤t.st∧t.st<ss.length:=by
 have:=kR h hk
 exact ⟨this.1,this.2.1⟩
theorem aet {ss : List StD} (hg : xj ss) {s : TyD × Int} {k : Int} {s' : TyD × Int} (h : Fine ss s.1) (e : stepG ss s k=some s') : Fine ss s'.1:=by
 have inside : ∀ {f : TyD→TyD × Int},(∀ u,(f u).1=u)→s.1.of.head?.map f=some s'→Fine ss s'.1:=by
  intro f hf e
  rcases h.cases with ⟨h1,_⟩|⟨u,h1,h2,_⟩
  ·rw [h1] at e;cases e
  ·rw [h1] at e
   obtain rfl:=Option.some.inj e
   rw [hf];exact h2
 unfold stepG at e
 split at e
 ·exact inside (fun _=>rfl) e
 split at e
 ·exact inside (fun _=>rfl) e
 split at e
 ·rename_i h3
  cases hu : (zd ss s.1.st)[k.toNat]? with
  |none=>rw [hu] at e;cases e
  |some u=>
   rw [hu] at e
   obtain rfl:=Option.some.inj e
   exact hg _ u (List.mem_of_getElem? hu)
 ·cases e
theorem aaC {ss : List StD} (hg : xj ss) : ∀ {l : List Int} {s s' : TyD × Int},Fine ss s.1→goG ss l s=some s'→Fine ss s'.1
 |[],s,s',h,e=>by obtain rfl:=Option.some.inj e;exact h
 |k::l,s,s',h,e=>by
  rw [goG] at e
  cases hs : stepG ss s k with
  |none=>rw [hs] at e;cases e
  |some s2=>rw [hs] at e;exact aaC hg (aet hg h hs) e
structure xd (ss : List StD) (tys : List TyD) : Prop where
 few : ss.length≤32
 good : xj ss
 acy : ∀ k,¬ Rch ss k k
 all : ∀ t ∈ tys,Fine ss t
theorem kK {ss : List StD} {tys : List TyD} (h : xd ss tys) {p : PlD} (ho : (zi ss tys p).2.2=true) : Fine ss (zi ss tys p).1:=by
 unfold zi at ho ⊢
 cases hb : (if p.l<0 then none else tys[p.l.toNat]?).bind fun t=>goG ss p.ps (t,0) with
 |none=>rw [hb] at ho;cases ho
 |some s=>
  show Fine ss s.1
  split at hb
  ·cases hb
  ·cases ht : tys[p.l.toNat]? with
   |none=>rw [ht] at hb;cases hb
   |some t=>
    rw [ht] at hb
    exact aaC h.good (h.all t (List.mem_of_getElem? ht)) hb
end Go.Proofs
end
section
namespace Go.Proofs
open Go.Sh
set_option maxRecDepth 100000
set_option linter.unusedSimpArgs false
set_option linter.unusedVariables false
instance {P : Program} {t e ty : TypeId} {a b : Int} : PStep P (Builtin.max_ #[t,e] ty #[.int .i64 a,.int .i64 b]) (.int .i64 (max a b)):=⟨fun w=>Lib.run_max_ints w _ _ _ _ _ _⟩
instance (priority:=low) {P : Program} {t : TypeId} {c : Bool} {x : ByteArray} {m : List UInt8} : PStep P (yH .eql t c (.string x) (.string (bs m))) (.bool (x.toList == m)):=.of fun _ k=>
 yN (fun w=>by rw [ae0 trivial,binOp_string_eql,aa1 m];rfl) k
theorem ago {P : Program} {w : World} {s : Sem Value} {K : Value→World→Prop} (h : opQ P w s fun v=>K v w) : opW P w s K:=w_q (by
 obtain ⟨v,h1,h2⟩:=h
 exact ⟨v,h1,h2⟩)
theorem SlB.lt {α : Type} {sz : Nat} {r : Gh} {R : List Value→α→Prop} {v : Value} {l : List α} (h : SlB sz r R v l) : l.length≤9223372036854775807:=h.few
theorem YC {a : Nat} : decide ((a : Int)=0)=decide (a=0):=decide_eq_decide.2 (by omega)
theorem kL {p : PlD} {c : List Value} {w : World} {r : Gh} {K : Value→World→Prop} (hr : Holds r w) (hp : PlG r c p) (h : ∀ w',Ext w w'→K (.bool (xc p)) w') :
  ze Tryz.prog Tryz.xh #[.agg c.toArray] w K:=by
 obtain ⟨v,rfl,hl⟩:=hp
 obtain ⟨q,cap,rfl,_,_⟩:=hl.sl.shape
 refine Tryz.abt ?_
 unfold Tryz.X5
 have S:=St.start hr
 refine S.box fun b1 w1 S=>?_
 refine gG_ ?_
 refine zg (c:=decide (p.ps.length=0)) (fun _ K2 hK2=>?_) ?_
 ·refine gG_ ?_
  rw [YC]
  exact hK2
 exact h _ S.ext
def AskG (r : Gh) (v : Value) (u : UnD) (g : GrD) : Prop:=∃ p cap vf vo vt vn vp,v = .agg #[.slice p u.ss.length cap,vf,.int .i64 u.mn,.string g.name,.int .i64 g.lv,vo,.int .i64 g.pn,vt,vn,vp]∧
 UnG r (.agg #[.slice p u.ss.length cap,vf,.int .i64 u.mn]) u∧GrG r [.string g.name,.int .i64 g.lv,vo,.int .i64 g.pn,vt,vn,vp] g
theorem AskG.up {r s : Gh} {v : Value} {u : UnD} {g : GrD} (h : AskG r v u g) [l : Le r s] : AskG s v u g:=by
 obtain ⟨p,cap,vf,vo,vt,vn,vp,h0,h1,h2⟩:=h
 exact ⟨p,cap,vf,vo,vt,vn,vp,h0,h1.up,h2.up⟩
abbrev tyL (t : TyD) (q : Option Addr) (cap : Nat) : List Value:=[.int .u8 t.k,.bool t.m,.int .i64 t.re,.int .i64 t.st,.slice q t.of.length cap]
abbrev tyV (t : TyD) (q : Option Addr) (cap : Nat) : Value:=.agg #[.int .u8 t.k,.bool t.m,.int .i64 t.re,.int .i64 t.st,.slice q t.of.length cap]
abbrev spL (t : TyD) (q : Option Addr) (cap : Nat) (m : Int) (ok : Bool) : List Value:=[.int .u8 t.k,.bool t.m,.int .i64 t.re,.int .i64 t.st,.slice q t.of.length cap,.int .i64 m,.bool ok]
abbrev spV (t : TyD) (q : Option Addr) (cap : Nat) (m : Int) (ok : Bool) : Value:=.agg #[.int .u8 t.k,.bool t.m,.int .i64 t.re,.int .i64 t.st,.slice q t.of.length cap,.int .i64 m,.bool ok]
theorem zV {r : Gh} {c : List Value} {t : TyD} (h : TyG r (.agg c.toArray) t) : ∃ q cap,c=tyL t q cap∧TyG r (tyV t q cap) t:=by
 obtain ⟨p,cap,h1,_⟩:=ZF h
 subst h1
 exact ⟨p,cap,rfl,h⟩
theorem jp {r : Gh} {s uu : TyD} {q : Option Addr} {cap : Nat} (h : TyG r (tyV s q cap) s) (hof : s.of = [uu]) : ∃ b off q2 cap2,q=some ⟨b,off,none⟩∧TyG r (tyV uu q2 cap2) uu∧∀ j v,(tyL uu q2 cap2)[j]? = some v→Ob r fun w=>w.cell? ⟨b,off+j,none⟩=some v:=by
 obtain ⟨_,_,hE,_,_,hreps⟩:=h
 cases hE
 obtain ⟨b,off,rfl,c,h1,h2,h3⟩:=NdG.of hreps (i:=0) (by rw [hof];exact Nat.one_pos)
 have h3 : TyG r (.agg c.toArray) uu:=by simpa [hof] using h3
 obtain ⟨q2,cap2,rfl,ht⟩:=zV h3
 exact ⟨b,off,q2,cap2,rfl,ht,by simpa using h2⟩
theorem VO (ss : List StD) : ∀ (l : List Int) (k : Int) (s : TyD × Int),goG ss (l ++ [k]) s=(goG ss l s).bind fun s'=>stepG ss s' k
 |[],k,s=>by
  show (stepG ss s k).bind (goG ss [])=stepG ss s k
  cases stepG ss s k<;>rfl
 |x::l,k,s=>by
  rw [List.cons_append,goG,goG]
  cases h : stepG ss s x with
  |none=>rfl
  |some s'=>exact VO ss l k s'
theorem acC {ss : List StD} : ∀ {l m : List Int} {s : TyD × Int},goG ss l s=none→goG ss (l++m) s=none
 |[],m,s,h=>by cases h
 |x::l,m,s,h=>by
  rw [List.cons_append,goG]
  rw [goG] at h
  cases hs : stepG ss s x with
  |none=>rfl
  |some s'=>rw [hs] at h;exact acC (l:=l) (m:=m) h
theorem aeu {ss : List StD} {tys : List TyD} {p : PlD} {t : TyD} {i : Nat} (h0 : 0≤p.l) (ht : tys[p.l.toNat]? = some t) (h : goG ss (p.ps.take i) (t,0)=none) : zi ss tys p=(zr,0,false):=by
 have:=acC (m:=p.ps.drop i) h
 rw [List.take_append_drop] at this
 unfold zi
 rw [if_neg (by omega),ht]
 show (match goG ss p.ps (t,0) with|some s=>(s.1,s.2,decide (p.ps.length≤8))|none=>(zr,0,false))=_
 rw [this]
theorem aev {ss : List StD} {tys : List TyD} {p : PlD} {t : TyD} {s : TyD × Int} (h0 : 0≤p.l) (ht : tys[p.l.toNat]? = some t) (h : goG ss p.ps (t,0)=some s) : zi ss tys p=(s.1,s.2,decide (p.ps.length≤8)):=by
 unfold zi
 rw [if_neg (by omega),ht]
 show (match goG ss p.ps (t,0) with|some s=>(s.1,s.2,decide (p.ps.length≤8))|none=>(zr,0,false))=_
 rw [h]
theorem ae7 {ss : List StD} {tys : List TyD} {p : PlD} (h : p.l<0∨(tys.length : Int)≤p.l) : zi ss tys p=(zr,0,false):=by
 unfold zi
 by_cases h0 : p.l<0
 ·rw [if_pos h0];rfl
 ·rw [if_neg h0,List.getElem?_eq_none (by omega)];rfl
set_option maxHeartbeats 1000000 in
theorem yY {u : UnD} {g : GrD} {p : PlD} {c : List Value} {v : Value} {w : World} {r : Gh} {K : Value→World→Prop} {t : TyD} {m : Int} {ok : Bool} (hr : Holds r w) (hx : AskG r v u g) (hf : xd u.ss g.tys) (hp : PlG r c p) (hsp : zi u.ss g.tys p=(t,m,ok))
  (h : ∀ q cap w',Ext w w'→TyG r (tyV t q cap) t→K (spV t q cap m ok) w') : ze Tryz.prog Tryz.zx #[v,.agg c.toArray] w K:=by
 obtain ⟨p0,cap0,vf,vo,vt,vn,vp,rfl,hu,hg⟩:=hx
 obtain ⟨_,_,_,_,hE,_,htys,_,_⟩:=hg
 cases hE
 obtain ⟨_,_,_,hE,_,_,hst,_,_⟩:=hu
 cases hE
 obtain ⟨qt,capt,rfl,_,_⟩:=htys.sl.shape
 obtain ⟨v,rfl,hl⟩:=hp
 obtain ⟨qs,caps,rfl,_,_⟩:=hl.sl.shape
 have hbl:=hl.lt
 refine Tryz.XN ?_
 unfold Tryz.ve
 have S:=St.start hr
 refine S.box fun b2 w1 S=>?_
 refine S.box fun b3 w2 S=>?_
 refine S.al fun b4 w3 S=>?_
 refine gG_ ?_
 refine zh (c:=decide ((g.tys.length : Int)≤p.l)) (fun _ K2 hK2=>?_) ?_
 ·refine gG_ ?_
  exact hK2
 refine c_b (fun ho=>?_) (fun hi=>?_)
 ·have hz:=ae7 (ss:=u.ss) (tys:=g.tys) (p:=p) (by simpa using ho)
  rw [hz] at hsp;cases hsp
  refine zo (cs:=#[.int .u8 0,.bool false,.int .i64 0,.int .i64 0,.slice none 0 0,.int .i64 0,.bool false]) (by kernel_rfl) ?_
  refine S.stB (b:=b4) fun w5 S=>?_
  refine gG_ ?_
  exact h none 0 _ S.ext zI
 have hlo : 0≤p.l∧p.l<g.tys.length:=by
  simp only [Bool.or_eq_false_iff,decide_eq_false_iff_not] at hi;omega
 clear hi
 have hlt0 : p.l.toNat<g.tys.length:=by omega
 obtain ⟨bt,ot,ct,rfl,hct,htc,hcell⟩:=htys.sl.get (by decide) hlt0
 obtain ⟨t0,hti⟩ : ∃ t0,g.tys[p.l.toNat]=t0:=⟨_,rfl⟩
 rw [hti] at htc
 have hq : g.tys[p.l.toNat]? = some t0:=by rw [List.getElem?_eq_getElem hlt0,hti]
 have hfi : Fine u.ss t0:=hf.all _ (List.mem_of_getElem? hq)
 obtain ⟨q0,cap1,rfl,ht0⟩:=zV htc
 have S:=S.go (Ext.drew _)
 refine gG_ ?_
 refine zq (n:=5) hct (fun j v hj=>S.at (hcell j v hj)) ?_
 refine gG_ ?_
 refine S.alU fun b5 w10 S=>?_
 refine S.stB (b:=b5) fun w11 S=>?_
 refine gG_ ?_
 have hok : decide (p.ps.length≤8)=decide ((p.ps.length : Int)≤8):=decide_eq_decide.2 (by omega)
 refine zk (ι:=Nat × TyD × Int × Option Addr × Nat) (fun i=>[.int .i64 (i.1 : Nat)]) (fun i w'=>i.1≤p.ps.length∧goG u.ss (p.ps.take i.1) (t0,0)=some (i.2.1,i.2.2.1)∧TyG r (tyV i.2.1 i.2.2.2.1 i.2.2.2.2) i.2.1∧
  StX noX w r w' [.cell b5 (spL i.2.1 i.2.2.2.1 i.2.2.2.2 i.2.2.1 (decide ((p.ps.length : Int)≤8))) 156,.cell b4 [.int .u8 0,.bool false,.int .i64 0,.int .i64 0,.slice none 0 0,.int .i64 0,.bool false] 156,.cell b3 [.int .i64 p.l,.slice qs p.ps.length caps] 47,
   .cell b2 [.slice p0 u.ss.length cap0,vf,.int .i64 u.mn,.string g.name,.int .i64 g.lv,vo,.int .i64 g.pn,.slice (some ⟨bt,ot,none⟩) g.tys.length capt,vn,vp] 149]) (fun i=>p.ps.length - i.1) (0,t0,0,q0,cap1) rfl ⟨Nat.zero_le _,rfl,ht0,S⟩ ?_
 clear S
 rintro ⟨i,s,m',q,cap⟩ d w15 ⟨hi,hgo,hs,S⟩ K6 hK6
 simp only at hi hgo hs S ⊢
 rw [List.getD_cons_zero]
 refine gG_ ?_
 refine c_b (fun hlt=>?_) (fun hge=>?_)
 rotate_left
 ·have hie : i=p.ps.length:=by
   have:=of_decide_eq_false hge;omega
  rw [hie,List.take_length] at hgo
  rw [aev hlo.1 hq hgo,hok] at hsp
  cases hsp
  refine gG_ ?_
  refine S.stB (b:=b4) fun w16 S=>?_
  refine gG_ ?_
  exact h _ _ _ S.ext hs
 have hlt : i<p.ps.length:=by simpa using hlt
 have hsf : Fine u.ss s:=aaC hf.good hfi hgo
 obtain ⟨k,hke⟩ : ∃ k,p.ps[i]=k:=⟨_,rfl⟩
 obtain ⟨bs,os,cs,rfl,hcs,hck,hcl⟩:=hl.sl.get (by decide) hlt
 rw [hke] at hck
 obtain ⟨rfl,hin⟩:=hck
 have hstep : goG u.ss (p.ps.take (i+1)) (t0,0)=stepG u.ss (s,m') k:=by
  rw [List.take_succ_eq_append_getElem hlt,VO,hgo,hke];rfl
 refine zp (fun _ w'=>∃ s' m2 q' cap',stepG u.ss (s,m') k=some (s',m2)∧TyG r (tyV s' q' cap') s'∧
  StX noX w r w' [.cell b5 (spL s' q' cap' m2 (decide ((p.ps.length : Int)≤8))) 156,.cell b4 [.int .u8 0,.bool false,.int .i64 0,.int .i64 0,.slice none 0 0,.int .i64 0,.bool false] 156,.cell b3 [.int .i64 p.l,.slice (some ⟨bs,os,none⟩) p.ps.length caps] 47,
   .cell b2 [.slice p0 u.ss.length cap0,vf,.int .i64 u.mn,.string g.name,.int .i64 g.lv,vo,.int .i64 g.pn,.slice (some ⟨bt,ot,none⟩) g.tys.length capt,vn,vp] 149]) (fun K16 hK16=>?_) ?_
 rotate_left
 ·rintro _ w19 ⟨s',m2,q',cap',h1,h2,S⟩ d2
  refine gG_ ?_
  rw [show ((i : Int)+1)=((i+1 : Nat) : Int) by omega]
  exact hK6 (i+1,s',m2,q',cap') _ ⟨hlt,hstep.trans h1,h2,S⟩ (by show p.ps.length - (i+1)<p.ps.length - i;omega)
 refine gG_ ?_
 refine zm (v:=.int .i64 k) (by simpa using S.at (hcl 0 _ rfl)) ?_
 refine gP_ ?_
 refine S.ldN (b:=b5) ?_
 refine S.al fun b8 w20 S=>?_
 refine S.stB (b:=b8) fun w21 S=>?_
 refine gG_ ?_
 refine zg (c:=decide (s.k=3)) (fun _ K2 hK2=>?_) ?_
 ·refine gG_ ?_
  exact hK2
 have down : (s.k=3∨s.k=4)→∃ uu,s.of = [uu]:=by
  intro hk
  rcases hsf.cases with ⟨_,h1⟩|⟨uu,h1,_⟩
  ·omega
  ·exact ⟨uu,h1⟩
 refine c_b (fun hB=>?_) (fun hB=>?_)
 ·obtain ⟨hk1,hk3⟩ : k = -1∧s.k=3:=by simpa using hB
  obtain ⟨uu,hof⟩:=down (.inl hk3)
  obtain ⟨bo,oo,q2,cap2,rfl,ht2,hcc⟩:=jp hs hof
  have hl1 : s.of.length=1:=by rw [hof];rfl
  refine gG_ ?_
  refine S.st (b:=b5) fun w26 S=>?_
  refine gG_ ?_
  refine zq (n:=5) (c:=tyL uu q2 cap2) rfl (fun j v hj=>by simpa using S.at (hcc j v hj)) ?_
  refine gG_ ?_
  refine S.stN (b:=b5) fun w27 S=>?_
  refine hK16 [] _ ⟨uu,max m' 1,q2,cap2,?_,ht2,S.drop b8⟩
  rw [stepG,if_pos ⟨hk1,hk3⟩,hof];rfl
 have hB : ¬ (k = -1∧s.k=3):=by simpa using hB
 refine gG_ ?_
 refine zg (c:=decide (s.k=4)) (fun _ K2 hK2=>?_) ?_
 ·refine gG_ ?_
  exact hK2
 refine c_b (fun hR=>?_) (fun hR=>?_)
 ·obtain ⟨hk1,hk3⟩ : k = -1∧s.k=4:=by simpa using hR
  obtain ⟨uu,hof⟩:=down (.inr hk3)
  obtain ⟨bo,oo,q2,cap2,rfl,ht2,hcc⟩:=jp hs hof
  have hl1 : s.of.length=1:=by rw [hof];rfl
  refine zp (fun s' w'=>s' = [.int .i64 (if s.m then 2 else 3)]∧w'=w21) (fun K7 hK7=>?_) ?_
  ·refine gG_ ?_
   refine c_b (fun hm=>hK7 _ _ ⟨by rw [hm];rfl,rfl⟩) (fun hm=>hK7 _ _ ⟨by rw [hm];rfl,rfl⟩)
  rintro _ _ ⟨rfl,rfl⟩ d3
  refine gG_ ?_
  refine S.st (b:=b5) fun w26 S=>?_
  refine gG_ ?_
  refine zq (n:=5) (c:=tyL uu q2 cap2) rfl (fun j v hj=>by simpa using S.at (hcc j v hj)) ?_
  refine gG_ ?_
  refine S.stN (b:=b5) fun w27 S=>?_
  refine hK16 [] _ ⟨uu,max m' (if s.m then 2 else 3),q2,cap2,?_,ht2,S.drop b8⟩
  rw [stepG,if_neg (by omega),if_pos ⟨hk1,hk3⟩,hof];rfl
 have hR : ¬ (k = -1∧s.k=4):=by simpa using hR
 refine gG_ ?_
 refine zg (c:=decide (s.k=5)) (fun _ K2 hK2=>?_) ?_
 ·refine gG_ ?_
  exact hK2
 refine zg (c:=decide (k<(zd u.ss s.st).length)) (fun h5 K2 hK2=>?_) ?_
 ·obtain ⟨hk0,hk5⟩ : 0≤k∧s.k=5:=by simpa using h5
  obtain ⟨hst0,hst1⟩:=hsf.st hk5
  have hslt : s.st.toNat<u.ss.length:=by omega
  obtain ⟨b,off,q9,capq,rfl,hcell9,_,_,hfl⟩:=yZ hst hslt
  have hlen : (zd u.ss s.st).length=u.ss[s.st.toNat].fs.length:=by
   rw [← qU hslt];simp only [zd,Int.toNat_natCast]
  refine gG_ ?_
  refine zm (S.at hcell9) ?_
  refine gG_ ?_
  rw [← hlen]
  exact hK2
 refine c_b (fun hS=>?_) (fun hS=>?_)
 ·obtain ⟨⟨hk0,hk5⟩,hkl⟩ : (0≤k∧s.k=5)∧k<(zd u.ss s.st).length:=by simpa using hS
  obtain ⟨hst0,hst1⟩:=hsf.st hk5
  have hslt : s.st.toNat<u.ss.length:=by omega
  obtain ⟨b,off,q9,capq,rfl,hcell9,_,_,hfl⟩:=yZ hst hslt
  have htl : zd u.ss s.st=u.ss[s.st.toNat].fs.map (·.2):=by
   rw [← yi hslt];simp only [zd,Int.toNat_natCast]
  have hkf : k.toNat<u.ss[s.st.toNat].fs.length:=by
   rw [htl,List.length_map] at hkl;omega
  obtain ⟨b9,off9,c9,rfl,hc9,hcell8,ht9⟩:=xV hfl hkf
  obtain ⟨q2,cap2,rfl,ht2⟩:=zV ht9
  refine gG_ ?_
  refine zm (S.at hcell9) ?_
  refine gG_ ?_
  refine zq (n:=5) (c:=tyL _ q2 cap2) rfl (fun j v hj=>by have:=S.at (hcell8 (j+1) v hj);rwa [show off9+k.toNat*6+(j+1)=off9+k.toNat*6+1+j by omega] at this) ?_
  refine gG_ ?_
  refine S.stN (b:=b5) fun w27 S=>?_
  refine hK16 [] _ ⟨_,m',q2,cap2,?_,ht2,S.drop b8⟩
  rw [stepG,if_neg (by omega),if_neg (by omega),if_pos ⟨hk0,hk5⟩,htl,List.getElem?_map,List.getElem?_eq_getElem hkf];rfl
 have hz : zi u.ss g.tys p=(zr,0,false):=by
  refine aeu hlo.1 hq (i:=i+1) (hstep.trans ?_)
  rw [stepG,if_neg hB,if_neg hR]
  split
  ·rename_i h5
   rw [List.getElem?_eq_none];· rfl
   have : ¬ k<(zd u.ss s.st).length:=by
    intro hh
    have : ((decide (0≤k)&&decide (s.k=5))&&decide (k<((zd u.ss s.st).length : Int)))=true:=by simp [h5,hh]
    rw [this] at hS;cases hS
   have h50 : 0≤k:=h5.1
   show (zd u.ss s.st).length≤k.toNat
   omega
  ·rfl
 rw [hz] at hsp;cases hsp
 refine gG_ ?_
 refine S.stB (b:=b4) fun w16 S=>?_
 refine gG_ ?_
 exact h none 0 _ S.ext zI
end Go.Proofs
end
section
namespace Go.Proofs
open Go.Sh
set_option maxRecDepth 100000
set_option linter.unusedSimpArgs false
set_option linter.unusedVariables false
theorem ZK {r : Gh} {k : Int} {m : Bool} {re st : Int} : TyG r (tyV (.mk k m re st []) none 0) (.mk k m re st []):=zI
set_option maxHeartbeats 1000000 in
theorem xK {u : UnD} {g : GrD} {o : OpD} {c : List Value} {v : Value} {w : World} {r : Gh} {K : Value→World→Prop} {t : TyD} {ok : Bool} (hr : Holds r w) (hx : AskG r v u g) (hf : xd u.ss g.tys) (ho : OpG r c o) (hop : zw u.ss g.tys o=(t,ok))
  (h : ∀ q cap w',Ext w w'→TyG r (tyV t q cap) t→K (.tuple #[tyV t q cap,.bool ok]) w') : ze Tryz.prog Tryz.yC #[v,.agg c.toArray] w K:=by
 obtain ⟨p0,cap0,vf,vo,vt,vn,vp,rfl,hu,hg⟩:=id hx
 obtain ⟨vq,rfl,hl⟩:=ho
 obtain ⟨qs,caps,rfl,_,_⟩:=hl.sl.shape
 have hpl : PlG r [.int .i64 o.pl.l,.slice qs o.pl.ps.length caps] o.pl:=⟨_,rfl,hl⟩
 refine Tryz.Yu ?_
 unfold Tryz.qQ
 have S:=St.start hr
 refine S.box fun b2 w1 S=>?_
 refine S.box fun b3 w2 S=>?_
 refine S.al fun b4 w3 S=>?_
 refine gG_ ?_
 unfold zw at hop
 refine zj (fun h1=>?_) (fun h1=>?_)
 ·rw [if_pos h1] at hop;cases hop
  refine gG_ ?_
  refine S.ldN (b:=b3) ?_
  refine kL S.holds hpl fun w4 e4=>?_
  have S:=S.go e4
  refine S.stB (b:=b4) fun w5 S=>?_
  refine gG_ ?_
  exact h none 0 _ S.ext ZK
 rw [if_neg h1] at hop
 refine gG_ ?_
 refine zj (fun h2=>?_) (fun h2=>?_)
 ·rw [if_pos h2] at hop;cases hop
  have S:=S.go (Ext.drew _)
  refine gG_ ?_
  refine S.ldN (b:=b3) ?_
  refine kL S.holds hpl fun w44 e4=>?_
  have S:=S.go e4
  have fin : ∀ {w9 : World},StX noX w r w9 [.cell b4 (tyL QS none 0) 31,.cell b3 [.int .u8 o.k,.int .i64 o.n,.int .i64 o.pl.l,.slice qs o.pl.ps.length caps] 50,.cell b2 (Value.agg #[.slice p0 u.ss.length cap0,vf,.int .i64 u.mn,.string g.name,.int .i64 g.lv,vo,.int .i64 g.pn,vt,vn,vp]).cells.toList 149]→∀ x,x=(xc o.pl&&(decide (o.n=0)||decide (o.n=1)))→
    K (.tuple #[tyV QS none 0,.bool x]) w9:=by
   intro w9 S x hx
   subst hx
   exact h none 0 _ S.ext ZK
  have st : ∀ {w8 : World} {K : World→Prop},StX noX w r w8 [.cell b4 [.int .u8 0,.bool false,.int .i64 0,.int .i64 0,.slice none 0 0] 31,.cell b3 [.int .u8 o.k,.int .i64 o.n,.int .i64 o.pl.l,.slice qs o.pl.ps.length caps] 50,.cell b2 (Value.agg #[.slice p0 u.ss.length cap0,vf,.int .i64 u.mn,.string g.name,.int .i64 g.lv,vo,.int .i64 g.pn,vt,vn,vp]).cells.toList 149]→
    (∀ w9,StX noX w r w9 [.cell b4 (tyL QS none 0) 31,.cell b3 [.int .u8 o.k,.int .i64 o.n,.int .i64 o.pl.l,.slice qs o.pl.ps.length caps] 50,.cell b2 (Value.agg #[.slice p0 u.ss.length cap0,vf,.int .i64 u.mn,.string g.name,.int .i64 g.lv,vo,.int .i64 g.pn,vt,vn,vp]).cells.toList 149]→K w9)→
    opU Tryz.prog w8 (Instr.storeAt 31 (.pointer (some ⟨b4,0,none⟩)) (.agg #[.int .u8 2,.bool false,.int .i64 0,.int .i64 0,.slice none 0 0])) K:=by
   intro w8 K S hK
   exact S.stB (b:=b4) fun w9 S=>hK w9 S
  cases hz : xc o.pl with
  |false=>
   (intro K9 hK9;refine gD_ ?_;refine hK9 _ _ fun _=>?_;clear hK9 K9)
   (intro K9 hK9;refine gD_ ?_;refine hK9 _ _ fun _=>?_;clear hK9 K9)
   refine ⟨?_,?_⟩
   ·(intro K9 hK9;refine gD_ ?_;refine hK9 _ _ fun _=>?_;clear hK9 K9)
    (intro K9 hK9;refine gD_ ?_;refine hK9 _ _ fun _=>?_;clear hK9 K9)
    refine gD_ ?_
    refine st S fun w9 S=>?_
    refine gG_ ?_
    exact fin S _ (by rw [hz]<;>rfl)
   ·refine st S fun w9 S=>?_
    (intro K9 hK9;refine gD_ ?_;refine hK9 _ _ fun _=>?_;clear hK9 K9)
    (intro K9 hK9;refine gD_ ?_;refine hK9 _ _ fun _=>?_;clear hK9 K9)
    refine gD_ ?_
    exact fin S _ (by rw [hz]<;>rfl)
  |true=>
   by_cases hn0 : o.n=0
   ·refine zp (fun s w'=>s = [.bool true]∧w'=w44) (fun K9 hK9=>?_) ?_
    ·refine gD_ ?_
     rw [decide_eq_true hn0]
     exact hK9 _ _ ⟨rfl,rfl⟩
    rintro _ w44 ⟨rfl,rfl⟩ d1
    (intro K9 hK9;refine gD_ ?_;refine hK9 _ _ fun _=>?_;clear hK9 K9)
    refine ⟨?_,?_⟩
    ·(intro K9 hK9;refine gD_ ?_;refine hK9 _ _ fun _=>?_;clear hK9 K9)
     (intro K9 hK9;refine gD_ ?_;refine hK9 _ _ fun _=>?_;clear hK9 K9)
     refine gD_ ?_
     refine st S fun w9 S=>?_
     refine gG_ ?_
     exact fin S _ (by rw [hz,hn0]<;>rfl)
    ·refine st S fun w9 S=>?_
     (intro K9 hK9;refine gD_ ?_;refine hK9 _ _ fun _=>?_;clear hK9 K9)
     (intro K9 hK9;refine gD_ ?_;refine hK9 _ _ fun _=>?_;clear hK9 K9)
     refine gD_ ?_
     exact fin S _ (by rw [hz,hn0]<;>rfl)
   ·refine zp (fun s w'=>s = [.bool false]∧w'=w44) (fun K9 hK9=>?_) ?_
    ·refine gD_ ?_
     rw [decide_eq_false hn0]
     exact hK9 _ _ ⟨rfl,rfl⟩
    rintro _ w44 ⟨rfl,rfl⟩ d1
    (intro K9 hK9;refine gD_ ?_;refine hK9 _ _ fun _=>?_;clear hK9 K9)
    refine ⟨?_,?_⟩
    ·refine zp (fun s w'=>s = [.bool (decide (o.n=1))]∧w'=w44) (fun K9 hK9=>?_) ?_
     ·refine gD_ ?_
      refine ago ?_
      refine gD_ ?_
      exact hK9 _ _ ⟨rfl,rfl⟩
     rintro _ w44 ⟨rfl,rfl⟩ d1
     (intro K9 hK9;refine gD_ ?_;refine hK9 _ _ fun _=>?_;clear hK9 K9)
     refine gD_ ?_
     refine st S fun w9 S=>?_
     refine gG_ ?_
     exact fin S _ (by rw [hz,decide_eq_false hn0];first|rfl|simp)
    ·refine st S fun w9 S=>?_
     refine zp (fun s w'=>s = [.bool (decide (o.n=1))]∧w'=w9) (fun K9 hK9=>?_) ?_
     ·refine gD_ ?_
      refine ago ?_
      refine gD_ ?_
      exact hK9 _ _ ⟨rfl,rfl⟩
     rintro _ w44 ⟨rfl,rfl⟩ d1
     (intro K9 hK9;refine gD_ ?_;refine hK9 _ _ fun _=>?_;clear hK9 K9)
     refine gD_ ?_
     exact fin S _ (by rw [hz,decide_eq_false hn0];first|rfl|simp)
 rw [if_neg h2] at hop
 obtain ⟨sty,sm,sok,hsp⟩ : ∃ sty sm sok,zi u.ss g.tys o.pl=(sty,sm,sok):=⟨_,_,_,rfl⟩
 simp only [hsp] at hop
 refine gG_ ?_
 refine S.ldN (b:=b3) ?_
 refine yY S.holds hx hf hpl hsp fun q cap w5 e5 ht=>?_
 have S:=S.go e5
 refine S.al fun b6 w6 S=>?_
 refine S.stB (b:=b6) fun w7 S=>?_
 refine gG_ ?_
 refine zg (c:=decide (o.n=0)) (fun _ K2 hK2=>?_) ?_
 ·refine gG_ ?_
  exact hK2
 refine gG_ ?_
 refine zj (fun h3=>?_) (fun h3=>?_)
 ·rw [if_pos h3] at hop;cases hop
  have S:=S.go (Ext.drew _)
  refine gP_ ?_
  refine S.ldN (b:=b6) ?_
  refine zs (c:=xo t) (fun _ K2 hK2=>?_) fun w9 e9=>?_
  ·refine gP_ ?_
   refine S.ldN (b:=b6) ?_
   exact YV S.holds ht fun w9 e9=>⟨e9,hK2 _ e9⟩
  have S:=S.go e9
  refine S.stB (b:=b4) fun w10 S=>?_
  refine gG_ ?_
  exact h _ _ _ S.ext ht
 rw [if_neg h3] at hop
 refine gG_ ?_
 refine zj (fun h4=>?_) (fun h4=>?_)
 ·rw [if_pos h4] at hop;cases hop
  have S:=S.go (Ext.drew _)
  refine gP_ ?_
  refine S.ldN (b:=b6) ?_
  refine zs (c:=!xo t) (fun _ K2 hK2=>?_) fun w9 e9=>?_
  ·refine gP_ ?_
   refine S.ldN (b:=b6) ?_
   refine YV S.holds ht fun w9 e9=>⟨e9,?_⟩
   refine gP_ ?_
   exact hK2 _ e9
  have S:=S.go e9
  cases hb : ((sok&&decide (o.n=0)) && !xo t) with
  |false=>
   (intro K9 hK9;refine gD_ ?_;refine hK9 _ _ fun _=>?_;clear hK9 K9)
   refine ⟨?_,?_⟩
   ·(intro K9 hK9;refine gD_ ?_;refine hK9 _ _ fun _=>?_;clear hK9 K9)
    refine gD_ ?_
    refine S.stB (b:=b4) fun w10 S=>?_
    refine gG_ ?_
    have:=h _ _ _ S.ext ht
    rwa [hb] at this
   ·refine S.stB (b:=b4) fun w10 S=>?_
    (intro K9 hK9;refine gD_ ?_;refine hK9 _ _ fun _=>?_;clear hK9 K9)
    refine gD_ ?_
    have:=h _ _ _ S.ext ht
    rwa [hb] at this
  |true=>
   (intro K9 hK9;refine gD_ ?_;refine hK9 _ _ fun _=>?_;clear hK9 K9)
   refine ⟨?_,?_⟩
   ·refine zp (fun s w'=>s = [.bool (decide (sm<2))]∧w'=w9) (fun K9 hK9=>?_) ?_
    ·refine gD_ ?_
     refine acf ?_
     refine gD_ ?_
     exact hK9 _ _ ⟨rfl,rfl⟩
    rintro _ _ ⟨rfl,rfl⟩ d1
    refine gD_ ?_
    refine S.stB (b:=b4) fun w10 S=>?_
    refine gG_ ?_
    have:=h _ _ _ S.ext ht
    rwa [hb] at this
   ·refine S.stB (b:=b4) fun w10 S=>?_
    refine zp (fun s w'=>s = [.bool (decide (sm<2))]∧w'=w10) (fun K9 hK9=>?_) ?_
    ·refine gD_ ?_
     refine acf ?_
     refine gD_ ?_
     exact hK9 _ _ ⟨rfl,rfl⟩
    rintro _ _ ⟨rfl,rfl⟩ d1
    refine gD_ ?_
    have:=h _ _ _ S.ext ht
    rwa [hb] at this
 rw [if_neg h4] at hop;cases hop
 refine gG_ ?_
 refine S.stB (b:=b4) fun w10 S=>?_
 refine gG_ ?_
 exact h none 0 _ S.ext ZK
end Go.Proofs
end
section
namespace Go.Proofs
open Go.Sh
set_option maxRecDepth 100000
set_option linter.unusedSimpArgs false
set_option linter.unusedVariables false
theorem VP {x : Bool} {w : World} {p : Option Addr} {l : List Bool} {cap : Nat} {K : Value→World→Prop} (hl : Sl w p (l.map Value.bool)) (hb : l.length≤1000000000) (h : K (.bool (l.contains x)) w) :
  ze Tryz.prog Tryz.yV #[.slice p l.length cap,.bool x] w K:=by
 refine Tryz.jQ ?_
 unfold Tryz.xN
 refine Tryz.vZ ?_
 unfold Tryz.kG
 refine gP_ ?_
 refine zk (ι:=Nat) (fun i=>[.int .i64 (i : Nat)]) (fun i w'=>w'=w∧i≤l.length∧(l.take i).contains x=false) (fun i=>l.length - i) 0 rfl ⟨rfl,Nat.zero_le _,by simp⟩ ?_
 rintro i d w' ⟨rfl,hi,hn⟩ K6 hK6
 simp only [List.getD_cons_zero]
 refine gP_ ?_
 refine zj (fun hlt=>?_) (fun hge=>?_)
 ·have hlt : i<l.length:=by omega
  obtain ⟨b,off,rfl,hc⟩:=hl.at (i:=i) (by rw [List.length_map];exact hlt)
  refine gP_ ?_
  have hv : (l.map Value.bool)[i]'(by rw [List.length_map];exact hlt) = .bool l[i]:=by simp
  rw [hv] at hc
  refine zm (by simpa using hc) ?_
  refine gP_ ?_
  have ht : (l.take (i+1)).contains x=((l.take i).contains x||(x == l[i])):=by
   rw [List.take_succ_eq_append_getElem hlt];simp only [List.contains_eq_any_beq,List.any_append,List.any_cons,List.any_nil,Bool.or_false]
  refine c_b (fun hy=>?_) (fun hno=>?_)
  ·refine gP_ ?_
   rw [show decide ((i : Int)≥0)=true by simp]
   have : l.contains x=true:=List.contains_iff_mem.2 (by rw [eq_of_beq hy];exact List.getElem_mem hlt)
   rwa [this] at h
  ·refine gP_ ?_
   refine hK6 (i+1) _ ⟨rfl,hlt,?_⟩ (by omega)
   rw [ht,hn,hno];rfl
 ·have : i=l.length:=by omega
  subst this
  rw [List.take_length] at hn
  refine gP_ ?_
  rwa [hn] at h
theorem YY {o : OpD} {c : List Value} {w : World} {r : Gh} {K : Value→World→Prop} (hr : Holds r w) (ho : OpG r c o) (h : ∀ w',Ext w w'→K (.bool (j3 o)) w') :
  zJ Tryz.prog (.func (.func Tryz.YF) #[] #[]) #[.agg c.toArray] w K:=by
 obtain ⟨vq,rfl,hl⟩:=ho
 obtain ⟨qs,caps,rfl,_,_⟩:=hl.sl.shape
 have hpl : PlG r [.int .i64 o.pl.l,.slice qs o.pl.ps.length caps] o.pl:=⟨_,rfl,hl⟩
 refine afE (by kernel_rfl) ?_
 refine Tryz.Vu ?_
 unfold Tryz.YK
 have S:=St.start hr
 refine S.box fun b1 w1 S=>?_
 refine gG_ ?_
 refine zg (c:=decide (o.n=0)) (fun _ K2 hK2=>?_) ?_
 ·refine gG_ ?_
  exact hK2
 refine zs (c:=xc o.pl) (fun _ K2 hK2=>?_) fun w3 e3=>h _ (S.go e3).ext
 refine gP_ ?_
 refine S.ldN (b:=b1) ?_
 exact kL S.holds hpl fun w3 e3=>hK2 _ e3
abbrev ag5 (h : JT) : Value:=.agg #[.bool h.to,.bool h.a,.bool h.b,.bool h.args,.bool h.sign,.bool h.fr,.bool h.mu,.bool h.fn,.bool h.st,.bool h.el]
theorem acD (l : List Bool) : (!l.contains false)=l.all id:=by
 induction l with
 |nil=>rfl
 |cons x l ih=>
  rw [List.contains_cons,List.all_cons,← ih]
  cases x<;>simp
set_option maxHeartbeats 1000000 in
theorem z9 {p : PtD} {f : JT} {c : List Value} {w : World} {r : Gh} {K : Value→World→Prop} (hr : Holds r w) (hp : PtG r c p) (h : ∀ w',Ext w w'→K (.bool (zH p f)) w') :
  ze Tryz.prog Tryz.zT #[.agg c.toArray,ag5 f] w K:=by
 obtain ⟨vt,va,vb,vl,vf,rfl,h1,h2,h3,h4,h5⟩:=hp
 obtain ⟨qt,capt,rfl,_,_⟩:=h1.sl.shape
 obtain ⟨qa,capa,rfl,_,_⟩:=h2.sl.shape
 obtain ⟨qb,capb,rfl,_,_⟩:=h3.sl.shape
 obtain ⟨ql,capl,rfl,_,_⟩:=h4.sl.shape
 obtain ⟨qf,capf,rfl,_,_⟩:=h5.sl.shape
 refine Tryz.abs ?_
 unfold Tryz.X4
 have S:=St.start hr
 refine S.box fun b2 w1 S=>?_
 refine S.box fun b3 w2 S=>?_
 have S:=S.go (Ext.drew _)
 refine gG_ ?_
 refine yw (c:=xc p.to) (fun _ K2 hK2=>?_) fun w4 e4=>?_
 ·refine gP_ ?_
  refine S.ldN (b:=b2) ?_
  exact kL S.holds ⟨_,rfl,h1⟩ fun w3 e3=>⟨e3,hK2 _ e3⟩
 have S:=S.go e4
 refine yw (c:=j3 p.a) (fun _ K2 hK2=>?_) fun w5 e5=>?_
 ·refine gP_ ?_
  refine S.ldN (b:=b2) ?_
  exact YY S.holds ⟨_,rfl,h2⟩ fun w3 e3=>⟨e3,hK2 _ e3⟩
 have S:=S.go e5
 refine yw (c:=j3 p.b) (fun _ K2 hK2=>?_) fun w5 e5=>?_
 ·refine gP_ ?_
  refine S.ldN (b:=b2) ?_
  exact YY S.holds ⟨_,rfl,h3⟩ fun w3 e3=>⟨e3,hK2 _ e3⟩
 have S:=S.go e5
 refine zh (c:=decide (p.args.length=0)) (fun _ K2 hK2=>?_) ?_
 ·refine gG_ ?_
  rw [YC]
  exact hK2
 refine zh (c:=p.sign.toList == []) (fun _ K2 hK2=>?_) ?_
 ·refine gG_ ?_
  exact hK2
 refine yw (c:=xc p.fr) (fun _ K2 hK2=>?_) fun w4 e4=>?_
 ·refine gP_ ?_
  refine S.ldN (b:=b2) ?_
  exact kL S.holds ⟨_,rfl,h5⟩ fun w3 e3=>⟨e3,hK2 _ e3⟩
 have S:=S.go e4
 refine zh (c:=!p.mu) (fun _ K2 hK2=>?_) ?_
 ·refine gG_ ?_
  exact hK2
 refine zh (c:=decide (p.fn=0)) (fun _ K2 hK2=>?_) ?_
 ·refine gG_ ?_
  exact hK2
 refine zh (c:=decide (p.st=0)) (fun _ K2 hK2=>?_) ?_
 ·refine gG_ ?_
  exact hK2
 refine zh (c:=decide (p.el=0)) (fun _ K2 hK2=>?_) ?_
 ·refine gG_ ?_
  exact hK2
 refine S.lit (e:=4) (cs:=(Zb p f).map Value.bool) (by kernel_rfl) fun b80 w80 S=>?_
 refine VP (l:=Zb p f) (x:=false) (Sl.blk (S.blk b80)) (by simp [Zb]) ?_
 refine gP_ ?_
 rw [acD]
 exact h _ S.ext
end Go.Proofs
end
section
namespace Go.Sh
section
variable {w : World} {Z : Value→World→Prop} {b c : Bool}
theorem jS {g : Bool} {A : (List Value→World→Prop)→World→Prop} {G : (List Value→World→Prop)→Prop} (hG : b=false→∀ K : List Value→World→Prop,K [.bool g] w→G K) (hA : g=true→∀ K : List Value→World→Prop,K [.bool c] w→A K w) (hZ : Z (.bool (b||(g&&c))) w) :
  za (fun K1=>gIf (.bool b) false (G K1) (K1 [undef] w)) fun s1 _ w1=>
   za (fun K2=>gIf (s1.getD 0 undef) true (A K2 w1) (K2 [undef] w1)) fun s2 _ w2=>
    za (fun K3=>gIf (.bool b) false (zb (s1.getD 0 undef) (s2.getD 0 undef) (.bool false) fun t=>K3 [t] w2) (K3 [undef] w2)) fun s3 _ w3=>
     zb (.bool b) (.bool true) (s3.getD 0 undef) fun t=>Z t w3:=by
 intro K1 hK1
 cases b with
 |true=>
  refine hK1 _ _ fun _=>?_
  intro K2 hK2
  refine hK2 _ _ fun _=>?_
  intro K3 hK3
  refine hK3 _ _ fun _=>⟨true,rfl,?_⟩
  rw [Bool.true_or] at hZ;exact hZ
 |false=>
  refine hG rfl _ (hK1 _ _ fun _=>?_)
  intro K2 hK2
  cases g with
  |true=>
   refine hA rfl _ (hK2 _ _ fun _=>?_)
   intro K3 hK3
   refine ⟨true,rfl,hK3 _ _ fun _=>⟨false,rfl,?_⟩⟩
   rw [Bool.false_or,Bool.true_and] at hZ;exact hZ
  |false=>
   refine hK2 _ _ fun _=>?_
   intro K3 hK3
   refine ⟨false,rfl,hK3 _ _ fun _=>⟨false,rfl,?_⟩⟩
   rw [Bool.false_or,Bool.false_and] at hZ;exact hZ
end
theorem adc {P : Program} {K : Value→Prop} {t e : TypeId} {n : Nat} {p : Option Addr} {len cap : Nat} {kd kd' : IntKind} {a b : Int} (h : slT P t=some (e,n)) (h0 : 0≤a) (h1 : a≤b) (h2 : b≤cap)
  (k : K (.slice (if cap=a.toNat then p else p.map (·.add (a.toNat*n))) (b.toNat - a.toNat) (cap - a.toNat))) : opP P (Instr.sliceAt t (.slice p len cap) (some (.int kd a)) (some (.int kd' b)) none) K:=by
 refine yN (fun w=>?_) k
 unfold slT at h
 cases hu : P.underlying t with
 |none=>rw [hu] at h;cases h
 |some d=>
  rw [hu] at h
  cases d<;>first|cases h|skip
  rename_i e'
  simp only [Option.map_eq_some_iff,Prod.mk.injEq] at h
  obtain ⟨m,hs,rfl,rfl⟩:=h
  have h3 : 0≤b:=by omega
  have h5 : a≤max b 0:=by omega
  simp [Instr.sliceAt,Instr.slice,Instr.sliceBounds,Instr.sliceBound,asIntOf,Sem.run_bind,zC hu,Result.andThen,Sem.run,pure,h0,h2,h3,h5,ye hs]
instance {P : Program} {t e : TypeId} {n : Nat} {p : Option Addr} {len cap : Nat} {i j : IntKind} {a b : Int} [h : SlT P t e n] : PCond P (Instr.sliceAt t (.slice p len cap) (some (.int i a)) (some (.int j b)) none) (.slice (if cap=a.toNat then p else p.map (·.add (a.toNat*n))) (b.toNat - a.toNat) (cap - a.toNat)) (0≤a∧a≤b∧b≤cap):=
 .of fun x _ k=>adc (e:=e) (n:=n) h.h x.1 x.2.1 x.2.2 k
theorem StX.holdW {X : Nat→Prop} {w0 w : World} {r : Gh} {L : List Asr} (S : StX X w0 r w L) (b : Nat) {c : List Value} {T : TypeId} {f : List Value→List Asr} [h : At b L c T f] : Holds (r.or (one b c T)) w:=S.holds.or (kB (S.blk b))
end Go.Sh
namespace Go.Proofs
open Go.Sh
set_option maxRecDepth 100000
set_option linter.unusedSimpArgs false
set_option linter.unusedVariables false
section
variable {X : Nat→Prop} {w0 w : World} {r : Gh} {L : List Asr}
theorem aa7 {x n : Int} {b : Nat} {f : List Value→List Asr} {K : Value→World→Prop} (S : StX X w0 r w L) [At b L [.int .i64 n] 3 f] (h : K (.bool (decide (0≤x)&&decide (x<n))) w) :
  zJ Tryz.prog (.func (.func Tryz.qL) #[] #[.pointer (some ⟨b,0,none⟩)]) #[.int .i64 x] w K:=by
 refine Xd (by kernel_rfl) ?_
 refine Tryz.Yt ?_
 unfold Tryz.qP
 refine gP_ ?_
 refine zg (c:=decide (x<n)) (fun _ K2 hK2=>?_) h
 refine S.ld (b:=b) ?_ rfl
 refine gP_ ?_
 exact hK2
end
theorem yl {t : TyD} {q : Option Addr} {cap : Nat} {k : Int} {w : World} {r : Gh} {K : Value→World→Prop} (hr : Holds r w) (h : ∀ w',Ext w w'→K (.bool (isK t k)) w') :
  zJ Tryz.prog (.func (.func Tryz.qM) #[] #[]) #[tyV t q cap,.int .u8 k] w K:=by
 refine agT (by kernel_rfl) ?_
 refine Tryz.Yv ?_
 unfold Tryz.qR
 have S:=St.start hr
 refine S.box fun b1 w1 S=>?_
 refine gG_ ?_
 exact h _ S.ext
theorem ade {u : UnD} {g : GrD} {o : OpD} {t : TyD} {b2 : Nat} {c c2 : List Value} {q : Option Addr} {cap : Nat} {w : World} {r : Gh} {K : Value→World→Prop} (hr : Holds r w) (hb2 : Ob r fun w=>Blk w b2 c2 149) (hx : AskG r (.agg c2.toArray) u g)
  (hc2 : c2.length=10) (hf : xd u.ss g.tys) (ho : OpG r c o) (hc : c.length=4) (ht : TyG r (tyV t q cap) t)
  (h : ∀ w',Ext w w'→K (.bool ((zw u.ss g.tys o).2&&zR yd (zw u.ss g.tys o).1 t)) w') :
  zJ Tryz.prog (.func (.func Tryz.kZ) #[] #[.pointer (some ⟨b2,0,none⟩)]) #[.agg c.toArray,tyV t q cap] w K:=by
 refine agU (by kernel_rfl) ?_
 refine Tryz.Zy ?_
 unfold Tryz.k0
 have S:=St.start hr
 refine S.box fun b3 w1 S=>?_
 refine S.box fun b4 w2 S=>?_
 refine zq (n:=10) (c:=c2) hc2 (fun j v hj=>by rw [Nat.zero_add,(S.at hb2).cell];exact hj) ?_
 refine S.ldB (b:=b3) ?_ hc
 obtain ⟨t1,ok,hop⟩ : ∃ t1 ok,zw u.ss g.tys o=(t1,ok):=⟨_,_,rfl⟩
 rw [hop] at h
 refine xK S.holds hx hf ho hop fun q1 cap1 w3 e3 ht1=>?_
 have S:=S.go e3
 refine gP_ ?_
 refine gP_ ?_
 refine S.al fun b6 w4 S=>?_
 refine S.stB (b:=b6) fun w5 S=>?_
 refine zs (c:=zR yd t1 t) (fun _ K2 hK2=>?_) fun w9 e9=>h _ (S.go e9).ext
 refine S.ldB (b:=b6) ?_ rfl
 refine S.ldB (b:=b4) ?_ rfl
 exact x8 S.holds ht1 ht fun w9 e9=>hK2 _ e9
theorem kX {ss : List StD} {tys : List TyD} {o : OpD} {l : List OpD} {t : TyD} {r : List TyD} : y0 ss tys (o::l) (t::r)=(((zw ss tys o).2&&zR yd (zw ss tys o).1 t)&&y0 ss tys l r):=rfl
theorem Qn {ss : List StD} {tys : List TyD} : ∀ {l : List OpD} {r : List TyD},l.length≠r.length→y0 ss tys l r=false
 |[],[],h=>absurd rfl h
 |[],_::_,_=>rfl
 |_::_,[],_=>rfl
 |o::l,t::r,h=>by rw [kX,Qn (by simpa using h),Bool.and_false]
theorem TysG.up {s t : Gh} {q : Option Addr} {ts : List TyD} (h : TysG s q ts) [l : Le s t] : TysG t q ts:=fun i hi=>by
 obtain ⟨b,off,c,h1,h2,h3,h4⟩:=h i hi
 exact ⟨b,off,c,h1,h2,fun j v hj=>(h3 j v hj).up,h4.up⟩
theorem xg {r : Gh} {q : Option Addr} {n cap : Nat} {ts : List TyD} (h : SlG 5 r (TyC r) (.slice q n cap) ts) : TysG r q ts:=fun i hi=>by
 obtain ⟨b,off,c,h1,h2,h3,h4⟩:=h.get (by decide) hi
 exact ⟨b,off,c,h1,h2,h4,h3⟩
theorem ae8 {top : Gh} {gs : Nat→Gh} {q : Option Addr} {ts : List TyD} (h : agm top gs q ts) : TysG (top.or (un gs 0 ts.length)) q ts:=fun i hi=>by
 obtain ⟨b,off,c,h1,h2,h3,h4,_⟩:=h.at' i hi
 exact ⟨b,off,c,h1,h2,fun j v hj=>(h3 j v hj).up,TyG.up h4 (l:=⟨fun b o hb=>.inr ⟨i,Nat.zero_le _,hi,hb⟩⟩)⟩
theorem TysG.sub {s : Gh} {q : Option Addr} {ts : List TyD} (h : TysG s q ts) {a n cap : Nat} (hc : ts.length≤cap) : TysG s (if cap=a then q else q.map (·.add (a*5))) ((ts.drop a).take n):=fun i hi=>by
 rw [List.length_take,List.length_drop] at hi
 obtain ⟨b,off,c,h1,h2,h3,h4⟩:=h (a+i) (by omega)
 refine ⟨b,off+a*5,c,?_,h2,fun j v hj=>?_,?_⟩
 ·rw [if_neg (by omega),h1,Option.map_some,xQ]
 ·have:=h3 j v hj
  rwa [show off+(a+i)*5+j=off+a*5+i*5+j by omega] at this
 ·rw [List.getElem_take,List.getElem_drop];exact h4
theorem aa8 {u : UnD} {g : GrD} {p : PtD} {l : List TyD} {b2 b3 : Nat} {c2 c3 : List Value} {ql : Option Addr} {capl : Nat} {w : World} {r : Gh} {K : Value→World→Prop} (hr : Holds r w) (hb2 : Ob r fun w=>Blk w b2 c2 149) (hb3 : Ob r fun w=>Blk w b3 c3 53) (hx : AskG r (.agg c2.toArray) u g)
  (hc2 : c2.length=10) (hf : xd u.ss g.tys) (hp : PtG r c3 p) (hl : TysG r ql l)
  (h : ∀ w',Ext w w'→K (.bool (y0 u.ss g.tys p.args l)) w') :
  zJ Tryz.prog (.func (.func Tryz.qN) #[] #[.pointer (some ⟨b3,0,none⟩),.pointer (some ⟨b2,0,none⟩)]) #[.slice ql l.length capl] w K:=by
 refine QP (by kernel_rfl) ?_
 refine Tryz.Yw ?_
 unfold Tryz.qS
 obtain ⟨vt,va,vb,va',vf,rfl,h1,h2,h3,h4,h5⟩:=hp
 obtain ⟨qa,capa,rfl,_,_⟩:=h4.sl.shape
 have S:=St.start hr
 have hlen:=h4.lt
 refine gP_ ?_
 refine zm (by rw [(S.at hb3).cell];rfl) ?_
 refine gP_ ?_
 refine Tryz.yG ?_
 unfold Tryz.zY
 refine gG_ ?_
 refine zj (fun hne=>?_) (fun heq=>?_)
 ·rw [Qn (by omega)] at h
  exact h _ S.ext
 have heq : p.args.length=l.length:=by omega
 refine gG_ ?_
 refine zk (ι:=Nat) (fun i=>[.int .i64 (i : Nat)]) (fun i w'=>i≤p.args.length∧y0 u.ss g.tys (p.args.drop i) (l.drop i)=y0 u.ss g.tys p.args l∧StX noX w r w' []) (fun i=>p.args.length - i) 0 rfl ⟨Nat.zero_le _,rfl,S⟩ ?_
 clear S
 rintro i d w1 ⟨hi,hd,S⟩ K6 hK6
 rw [List.getD_cons_zero]
 refine gP_ ?_
 refine zj (fun hlt=>?_) (fun hge=>?_)
 ·have hlt : i<p.args.length:=by omega
  have hlt2 : i<l.length:=by omega
  obtain ⟨ba,oa,ca,rfl,hca,hao,hac⟩:=h4.sl.get (by decide) hlt
  obtain ⟨bt,ot,ct,rfl,hct,htc,hto⟩:=hl i hlt2
  obtain ⟨q2,cap2,rfl,ht2⟩:=zV hto
  rw [List.drop_eq_getElem_cons hlt,List.drop_eq_getElem_cons hlt2,kX] at hd
  refine gP_ ?_
  refine zq (n:=4) hca (fun j v hj=>by rw [Int.toNat_natCast];exact S.at (hac j v hj)) ?_
  refine S.al fun b8 w2 S=>?_
  obtain ⟨vq,hca',hlq⟩:=id hao
  subst hca'
  obtain ⟨qs,caps,rfl,_⟩:=hlq.sl.shape
  refine S.stB (b:=b8) fun w3 S=>?_
  refine gP_ ?_
  refine zq (n:=5) hct (fun j v hj=>by rw [Int.toNat_natCast];exact S.at (htc j v hj)) ?_
  refine S.al fun b9 w4 S=>?_
  refine S.stB (b:=b9) fun w5 S=>?_
  refine S.ldB (b:=b8) ?_ rfl
  refine S.ldB (b:=b9) ?_ rfl
  refine ade S.holds hb2 hx hc2 hf hao rfl ht2 fun w6 e6=>?_
  have S:=S.go e6
  refine gP_ ?_
  refine c_b (fun hno=>?_) (fun hy=>?_)
  ·have hno : ((zw u.ss g.tys p.args[i]).2&&zR yd (zw u.ss g.tys p.args[i]).1 l[i])=false:=by rw [← Bool.not_eq_true'];exact hno
   rw [hno,Bool.false_and] at hd
   rw [← hd] at h
   exact h _ S.ext
  ·have hy : ((zw u.ss g.tys p.args[i]).2&&zR yd (zw u.ss g.tys p.args[i]).1 l[i])=true:=by rw [← Bool.not_eq_false'];exact hy
   rw [hy,Bool.true_and] at hd
   refine gP_ ?_
   rw [show ((i : Int)+1)=((i+1 : Nat) : Int) by omega]
   exact hK6 (i+1) _ ⟨hlt,hd,S.to r |>.less (fun _ _ h=>h) (List.nil_sublist _)⟩ (by omega)
 ·have hie : i=p.args.length:=by omega
  rw [hie,List.drop_length,heq,List.drop_length] at hd
  rw [← hd] at h
  exact h _ S.ext
end Go.Proofs
end
section
namespace Go.Sh
theorem p_id {P : Program} {s : Sem Value} {K : Value→Prop} (h : opP P s K) : opP P s K:=h
theorem q_id {P : Program} {w : World} {s : Sem Value} {K : Value→Prop} (h : opQ P w s K) : opQ P w s K:=h
end Go.Sh
end
section
namespace Go.Sh
theorem aaD {w : World} {b g m c : Bool} {A1 : (List Value→World→Prop)→Prop} {A2 A3 : (List Value→World→Prop)→World→Prop} {Z : Value→World→Prop}
  (h1 : ∀ K : List Value→World→Prop,K [.bool g] w→A1 K) (h2 : ∀ K : List Value→World→Prop,K [.bool m] w→A2 K w) (h3 : ∀ K : List Value→World→Prop,K [.bool c] w→A3 K w)
  (hZ : Z (.bool (b||(g&&(m||c)))) w) :
  za (fun K=>gIf (.bool b) false (A1 K) (K [undef] w)) fun s3 _ w5=>
   za (fun K=>gIf (s3.getD 0 undef) true (A2 K w5) (K [undef] w5)) fun s7 _ w9=>
    za (fun K=>gIf (s7.getD 0 undef) false (A3 K w9) (K [undef] w9)) fun s11 _ w13=>
     za (fun K=>gIf (s3.getD 0 undef) true (zb (s7.getD 0 undef) (.bool true) (s11.getD 0 undef) fun t=>K [t] w13) (K [undef] w13)) fun s15 _ w17=>
      za (fun K=>gIf (.bool b) false (zb (s3.getD 0 undef) (s15.getD 0 undef) (.bool false) fun t=>K [t] w17) (K [undef] w17)) fun s19 _ w21=>
       zb (.bool b) (.bool true) (s19.getD 0 undef) fun t=>Z t w21:=by
 cases b<;>cases g<;>cases m<;>cases c <;>
  (iterate 5 (intro K hK;first|refine hK _ _ fun _=>?_|refine h1 _ (hK _ _ fun _=>?_)|refine h2 _ (hK _ _ fun _=>?_)|refine h3 _ (hK _ _ fun _=>?_)|refine ⟨_,rfl,hK _ _ fun _=>?_⟩)) <;>
  exact ⟨_,rfl,by simpa using hZ⟩
end Go.Sh
namespace Go.Proofs
open Go.Sh
set_option maxRecDepth 100000
set_option linter.unusedSimpArgs false
set_option linter.unusedVariables false
def mtB (s : Int) (n : Nat) (refs : Bool) (t : TyD) : Bool:=zy s n t&&(refs||decide (t.regs.length=0))
def Xf (s : Int) (n : Nat) (refs : Bool) (t : TyD) : Bool:=match t.of with|u::_=>mtB s n refs u|[]=>false
theorem ady {s : Int} {n : Nat} {refs : Bool} : ∀ {t : TyD} {h : 0<t.of.length},Xf s n refs t=mtB s n refs t.of[0]
 |.mk _ _ _ _ (_::_),_=>rfl
 |.mk _ _ _ _ [],h=>absurd h (Nat.not_lt_zero _)
theorem ae9 (s : Int) (n : Nat) (refs : Bool) (t : TyD) : mtB s (n+1) refs t =
  if ((decide (t.k≠4)&&(t.m||decide (t.re≠0)))||(decide (t.k≠5)&&decide (t.st≠0)))=true then false
  else if t.k=1∨t.k=2 then decide (t.of.length=0)
  else if t.k=5 then (decide (t.of.length=0)&&decide (0≤t.st))&&decide (t.st<s)
  else if t.k=3 then decide (t.of.length=1)&&Xf s n refs t
  else if t.k=4 then ((refs&&decide (t.of.length=1))&&decide (-1≤t.re))&&Xf s n refs t
  else false:=by
 have hreg0 : t.of = []→t.k≠4→t.regs = []:=fun ho hk=>by rw [ZG ho,if_neg hk]
 rw [mtB,yU]
 cases hof : t.of with
 |nil=>
  have hi : inB s n t=false:=by rw [inB,hof]
  have hi2 : Xf s n refs t=false:=by rw [Xf,hof]
  rw [hi,hi2]
  by_cases h4 : t.k=4
  ·simp [h4]
  ·rw [hreg0 hof h4]
   by_cases h12 : t.k=1∨t.k=2
   ·rw [if_pos h12,if_pos h12]
    have h5 : ¬ t.k=5:=by omega
    by_cases hm : t.m=true<;>by_cases hr : t.re=0<;>by_cases hs : t.st=0<;>simp [hm,hr,hs,h4,h5]
   ·rw [if_neg h12,if_neg h12]
    by_cases h5 : t.k=5
    ·by_cases hm : t.m=true<;>by_cases hr : t.re=0<;>simp [hm,hr,h4,h5]
    ·simp [h5,h4]
 |cons u l=>
  have hi : inB s n t=zy s n u:=by rw [inB,hof]
  have hi2 : Xf s n refs t=mtB s n refs u:=by rw [Xf,hof]
  rw [hi,hi2,mtB]
  by_cases h12 : t.k=1∨t.k=2
  ·rw [if_pos h12,if_pos h12];simp
  rw [if_neg h12,if_neg h12]
  by_cases h5 : t.k=5
  ·simp [h5]
  rw [if_neg h5,if_neg h5]
  cases l with
  |cons x l=>simp
  |nil=>
   rw [kH hof]
   by_cases h3 : t.k=3
   ·have h4 : ¬ t.k=4:=by omega
    by_cases hm : t.m=true<;>by_cases hr : t.re=0<;>by_cases hs : t.st=0<;>simp [hm,hr,hs,h3,h4]
   ·rw [if_neg h3,if_neg h3]
    by_cases h4 : t.k=4
    ·by_cases hs : t.st=0<;>cases refs<;>by_cases hr : -1≤t.re<;>simp [hs,hr,h4,h5]
    ·simp [h4]
theorem acE (s : Int) (n : Nat) (t : TyD) : mtB s n true t=zy s n t:=by rw [mtB,Bool.true_or,Bool.and_true]
set_option maxHeartbeats 1000000 in
theorem jq : ∀ (n : Nat) {t : TyD} {refs : Bool} {w : World} {r : Gh} {v : Value} {s : Int} {K : Value→World→Prop},n≤1000→Holds r w→TyG r v t→
  (∀ w',Ext w w'→K (.bool (mtB s n refs t)) w')→ze Tryz.prog Tryz.yJ #[v,.int .i64 s,.int .i64 (n : Int),.bool refs] w K:=by
 intro n
 induction n with
 |zero=>
  intro t refs w r v s K _ hr hv h
  refine Tryz.Zt ?_
  unfold Tryz.jk
  obtain ⟨p,cap,rfl,_,_,hof⟩:=hv
  have S:=St.start hr
  refine S.box fun b2 w1 S=>?_
  refine gg_ ?_
  refine aaD (g:=decide (t.k≠4)) (m:=t.m) (c:=decide (t.re≠0)) (fun K hK=>by refine gg_ ?_;exact hK) (fun K hK=>by refine gg_ ?_;exact hK) (fun K hK=>by refine gg_ ?_;exact hK) ?_
  refine jS (g:=decide (t.k≠5)) (c:=decide (t.st≠0)) (fun _ K hK=>by refine gg_ ?_;exact hK) (fun _ K hK=>by refine gg_ ?_;exact hK) ?_
  refine c_t (by simp) ?_
  exact h _ S.ext
 |succ n ih=>
  intro t refs w r v s K hn hr hv h
  refine Tryz.Zt ?_
  unfold Tryz.jk
  obtain ⟨p,cap,rfl,_,_,hof⟩:=hv
  have S:=St.start hr
  refine S.box fun b2 w1 S=>?_
  have S : StX noX w r w1 [.cell b2 (tyL t p cap) 31]:=S
  refine gg_ ?_
  refine aaD (g:=decide (t.k≠4)) (m:=t.m) (c:=decide (t.re≠0)) (fun K hK=>by refine gg_ ?_;exact hK) (fun K hK=>by refine gg_ ?_;exact hK) (fun K hK=>by refine gg_ ?_;exact hK) ?_
  refine jS (g:=decide (t.k≠5)) (c:=decide (t.st≠0)) (fun _ K hK=>by refine gg_ ?_;exact hK) (fun _ K hK=>by refine gg_ ?_;exact hK) ?_
  rw [decide_eq_false (show ¬ ((n+1 : Nat) : Int)<1 by omega),Bool.false_or]
  rw [ae9] at h
  refine c_b (fun hbad=>?_) (fun hok=>?_)
  ·rw [if_pos hbad] at h;exact h _ S.ext
  rw [if_neg (by rw [hok];decide)] at h
  refine gg_ ?_
  intro K11 hK11
  refine gg_ ?_
  refine xR (c:=decide (t.k=2)) (hK11 _ _ fun _=>?_) fun _ hk=>?_
  rotate_left
  ·refine gg_ ?_;exact hk
  simp only [List.getD_cons_zero]
  refine c_b (fun h12=>?_) (fun h12=>?_)
  ·have h12 : t.k=1∨t.k=2:=by simpa using h12
   rw [if_pos h12] at h
   refine gg_ ?_
   rw [decide_eq_decide.2 (xU t.of.length)]
   exact h _ S.ext
  have h12 : ¬ (t.k=1∨t.k=2):=by simpa using h12
  rw [if_neg h12] at h
  refine gg_ ?_
  refine zj (fun h5=>?_) (fun h5=>?_)
  ·rw [if_pos h5] at h
   refine gg_ ?_
   refine zg (c:=decide (0≤t.st)) (fun _ K2 hK2=>by refine gg_ ?_;exact hK2) ?_
   refine zg (c:=decide (t.st<s)) (fun _ K2 hK2=>by refine gg_ ?_;exact hK2) ?_
   rw [decide_eq_decide.2 (xU t.of.length)]
   exact h _ S.ext
  rw [if_neg h5] at h
  refine gg_ ?_
  refine zj (fun h3=>?_) (fun h3=>?_)
  ·rw [if_pos h3] at h
   refine gg_ ?_
   refine zs (c:=Xf s n refs t) (fun hb K2 hK2=>?_) fun w5 e5=>?_
   ·have hlen : t.of.length=1:=by simpa [qT] using hb
    refine gg_ ?_
    obtain ⟨b,off,c,rfl,hc,hcell,ht⟩:=ki S hof (i:=0) (by omega)
    refine gg_ ?_
    refine zq (n:=5) hc (by simpa using hcell) ?_
    refine gg_ ?_
    rw [show ((n+1 : Nat) : Int) - 1=(n : Int) by omega]
    refine ih (by omega) S.holds ht fun w6 e6=>?_
    rw [← ady]
    exact hK2 _ e6
   rw [decide_eq_decide.2 (qT t.of.length)]
   exact h _ (S.go e5).ext
  rw [if_neg h3] at h
  refine gg_ ?_
  refine zj (fun h4=>?_) (fun h4=>?_)
  ·rw [if_pos h4] at h
   refine zg (c:=decide (t.of.length=1)) (fun _ K2 hK2=>by refine gg_ ?_;rw [decide_eq_decide.2 (qT t.of.length)];exact hK2) ?_
   refine zg (c:=decide (-1≤t.re)) (fun _ K2 hK2=>by refine gg_ ?_;exact hK2) ?_
   refine zs (c:=Xf s n refs t) (fun hb K2 hK2=>?_) fun w5 e5=>?_
   ·have hlen : t.of.length=1:=by
     simp only [Bool.and_eq_true,decide_eq_true_eq] at hb;exact hb.1.2
    refine gg_ ?_
    obtain ⟨b,off,c,rfl,hc,hcell,ht⟩:=ki S hof (i:=0) (by omega)
    refine gg_ ?_
    refine zq (n:=5) hc (by simpa using hcell) ?_
    refine gg_ ?_
    rw [show ((n+1 : Nat) : Int) - 1=(n : Int) by omega]
    refine ih (by omega) S.holds ht fun w6 e6=>?_
    rw [← ady]
    exact hK2 _ e6
   exact h _ (S.go e5).ext
  rw [if_neg h4] at h
  exact h _ S.ext
end Go.Proofs
end
section
namespace Go.Proofs
open Go.Sh
set_option linter.unusedVariables false
mutual
def TyD.mapR (f : Int→Int) : TyD→TyD
 |.mk k m re st of=>.mk k m (if k=4 then f re else re) st (TyD.mapsR f of)
def TyD.mapsR (f : Int→Int) : List TyD→List TyD
 |[]=>[]
 |t::l=>TyD.mapR f t::TyD.mapsR f l
end
theorem jT {f : Int→Int} {t : TyD} (h : t.of = []) : t.mapR f = .mk t.k t.m (if t.k=4 then f t.re else t.re) t.st []:=by
 cases t with|mk k m re st of=>cases h;rfl
theorem ZL {f : Int→Int} {t u : TyD} (h : t.of = [u]) : t.mapR f = .mk t.k t.m (if t.k=4 then f t.re else t.re) t.st [u.mapR f]:=by
 cases t with|mk k m re st of=>cases h;rfl
def inR (n : Nat) (x : Int) : Bool:=decide (0≤x)&&decide (x<n)
def atL (l : List Int) (x : Int) : Int:=l.getD x.toNat 0
def abU (t : TyD) (l : List Int) : Bool:=isB t&&t.regs.all (inR l.length)
def j4 (t : TyD) (l : List Int) : TyD × Int:=if abU t l then (t.mapR (atL l),0) else (zr,2)
def qB (_ : Int) : Int:=-1
def vk (t : TyD) : TyD × Int:=if isB t then (t.mapR qB,0) else (zr,2)
def yq : List Int→Int→List Int
 |[],_=>[]
 |k::l,c=>if k<0 then c::yq l (c+1) else k::yq l c
def yb : List Int→Int
 |[]=>0
 |k::l=>(if k<0 then 1 else 0)+yb l
theorem qG : ∀ (l : List Int) (c : Int),(yq l c).length=l.length
 |[],_=>rfl
 |k::l,c=>by
  rw [yq];split<;>simp [qG l]
theorem Zh : ∀ l : List Int,0≤yb l∧yb l≤l.length
 |[]=>by simp [yb]
 |k::l=>by
  have:=Zh l
  rw [yb,List.length_cons]
  split<;>omega
def xk : List TyD→Int→List TyD
 |[],_=>[]
 |t::l,c=>t.lay (yq (regsT t) c)::xk l (c+yb (regsT t))
def zS : List TyD→Int
 |[]=>0
 |t::l=>yb (regsT t)+zS l
theorem xy : ∀ (l : List TyD) (c : Int),(xk l c).length=l.length
 |[],_=>rfl
 |t::l,c=>by rw [xk,List.length_cons,xy l,List.length_cons]
def aaE (u : UnD) (fn : Int) : Int:=match u.fs[fn.toNat]? with|some g=>g.lv|none=>0
def ptN (u : UnD) (p : PtD) : Int:=if p.op=4 then 1 else if p.op=7 then aaE u p.fn else 0
def atK (u : UnD) : List PtD→Int→List Int
 |[],_=>[]
 |p::l,c=>(if ptN u p=0 then -1 else c)::atK u l (c+ptN u p)
def atC (u : UnD) : List PtD→Int
 |[]=>0
 |p::l=>ptN u p+atC u l
theorem jU (u : UnD) : ∀ (l : List PtD) (c : Int),(atK u l c).length=l.length
 |[],_=>rfl
 |p::l,c=>by rw [atK,List.length_cons,jU u l,List.length_cons]
structure RgD where
 lv : Int
 pt : Int
 ct : Int
 tys : List TyD
 at' : List Int
def kM : RgD:=⟨0,0,0,[],[]⟩
def allD (u : UnD) (g : GrD) : RgD:=⟨g.lv,g.pts.length,g.lv+zS g.tys+atC u g.pts,xk g.tys g.lv,atK u g.pts (g.lv+zS g.tys)⟩
noncomputable def isU (u : UnD) (fn q : Int) : Bool:=(decide (0≤fn)&&decide (fn<u.fs.length))&&(ZJ u&&decide (q<((u.fs[fn.toNat]?.map fun g=>(g.pts.length : Int)).getD 0)))
noncomputable def zn (u : UnD) (fn q : Int) : RgD × Int:=
 if isU u fn q then (match u.fs[fn.toNat]? with|some g=>(allD u g,0)|none=>(kM,2)) else (kM,2)
def zG (x : RgD × Int) : RgD × Int:=if x.2=0 then (if 512<x.1.ct then (kM,5) else x) else (kM,x.2)
def RgG (r : Gh) (v : Value) (d : RgD) : Prop:=∃ vl va,v = .agg #[.int .i64 d.lv,.int .i64 d.pt,.int .i64 d.ct,vl,va]∧SlG 5 r (TyC r) vl d.tys∧SlG 1 r kp va d.at'
theorem RgG.up {r s : Gh} {v : Value} {d : RgD} (h : RgG r v d) [l : Le r s] : RgG s v d:=by
 obtain ⟨vl,va,h0,h1,h2⟩:=h
 exact ⟨vl,va,h0,h1.up' l fun _ _ h=>TyG.up h,h2.cells⟩
theorem RgG.zero {r : Gh} : RgG r (.agg #[.int .i64 0,.int .i64 0,.int .i64 0,.slice none 0 0,.slice none 0 0]) kM:=⟨_,_,rfl,SlG.nil,SlG.nil⟩
end Go.Proofs
end
section
namespace Go.Proofs
open Go.Sh
set_option linter.unusedVariables false
theorem agp {t u : TyD} (h : isB t=true) (ho : t.of = [u]) : isB u=true:=by
 rcases zF (n:=47) h with ⟨h1,_⟩|⟨x,h1,h2,_⟩
 ·rw [h1] at ho;cases ho
 ·rw [h1] at ho;cases ho;exact Qm h2 (by omega) (Int.le_refl _)
theorem afa {t : TyD} (h : isB t=true) (ho : t.of = []) : t.k≠4:=by
 rcases zF (n:=47) h with ⟨_,h1⟩|⟨u,h1,_⟩
 ·omega
 ·rw [ho] at h1;cases h1
theorem Qo {t : TyD} (h : isB t=true) : t.of = []∨∃ u,t.of = [u]∧isB u=true:=by
 rcases zF (n:=47) h with ⟨h1,_⟩|⟨u,h1,_⟩
 ·exact .inl h1
 ·exact .inr ⟨u,h1,agp h h1⟩
theorem afP {t : TyD} {l : List Int} (h : isB t=false) : j4 t l=(zr,2):=by rw [j4,abU,h];rfl
theorem aew {f : Int→Int} {t u : TyD} (ho : t.of = [u]) : t.mapR f = .mk t.k t.m (if t.k=4 then f t.re else t.re) t.st [u.mapR f]:=ZL ho
theorem acF {t : TyD} (hk : t.k=4) : t.re ∈ t.regs:=by
 rw [TyD.regs_eq,if_pos hk];exact List.mem_append_left _ (List.mem_singleton.2 rfl)
theorem JU {t u : TyD} (ho : t.of = [u]) {x : Int} (h : x ∈ u.regs) : x ∈ t.regs:=by
 rw [kH ho];exact List.mem_append_right _ h
end Go.Proofs
end
section
namespace Go.Proofs.Tryz
open Go.Sh
set_option maxRecDepth 100000
def XG (t0 t1 : Value) (w : World) (K : VW) : Prop:=
 pw w (Instr.box 31 t0) fun t2 w1=>
 pw w1 (Instr.box 39 t1) fun t3 w2=>
 pw w2 (Instr.alloc 31 true (.tuple #[])) fun t4 w3=>
 lo w3 31 t2 fun t9=>ca qd #[t9] w3 fun t10 w4=>
 pe t10 0 fun t11=>pe t10 1 fun t12=>pw w4 (Instr.alloc 31 true (.tuple #[])) fun t6 w5=>
 so w5 31 t6 t11 fun w6=>bt .neq 32 t12 (i6 0) fun t14=>zc t14 (pp (Instr.build 31 #[]) fun t15=>so w6 31 t4 t15 fun w7=>pq w7 (zf 31 t4) fun r8=>K (.tuple #[r8,t12]) w7) (lo w6 31 t2 fun t17=>ca yI #[t17] w6 fun t18 w9=>
 pp (Instr.makeFunc (.func 36) #[] #[t3]) fun t19=>ca zP #[t18,t19] w9 fun t20 w10=>
 zc t20 (pp (Instr.build 31 #[]) fun t21=>so w10 31 t4 t21 fun w11=>pq w11 (zf 31 t4) fun r12=>K (.tuple #[r12,(i6 2)]) w11) (lo w10 31 t2 fun t22=>pp (Instr.makeFunc (.func 38) #[] #[t3]) fun t23=>ca kC #[t22,t23] w10 fun t24 w13=>
 so w13 31 t4 t24 fun w14=>pq w14 (zf 31 t4) fun r15=>K (.tuple #[r15,(i6 0)]) w14))
theorem aaF {t0 t1 : Value} {w : World} {K : VW} (h : XG t0 t1 w K) : ze prog vz #[t0,t1] w K:=
 okC false (.s (.r (rz 4 0 42)) (.s (.s (.r (rz 8 0 10249)) (.s (.r (rz 2 0 0)) (.c (.s (.r (rz 4 0 32)) (.n)) (.n)))) (.s (.s (.r (rz 4 0 137)) (.c (.s (.r (rz 3 0 8)) (.n)) (.n))) (.s (.r (rz 5 0 161)) (.n))))) func15 rfl (by kernel_rfl) (by kernel_rfl) h
def YZ (t0 : Value) (w : World) (K : VW) : Prop:=
 pw w (Instr.box 31 t0) fun t1 w1=>
 pw w1 (Instr.alloc 31 true (.tuple #[])) fun t2 w2=>
 lo w2 31 t1 fun t7=>ca qd #[t7] w2 fun t8 w3=>
 pe t8 0 fun t9=>pe t8 1 fun t10=>pw w3 (Instr.alloc 31 true (.tuple #[])) fun t4 w4=>
 so w4 31 t4 t9 fun w5=>bt .neq 32 t10 (i6 0) fun t12=>zc t12 (pp (Instr.build 31 #[]) fun t13=>so w5 31 t2 t13 fun w6=>pq w6 (zf 31 t2) fun r7=>K (.tuple #[r7,t10]) w6) (lo w5 31 t1 fun t15=>ca kC #[t15,(Value.func (.func 39) #[] #[])] w5 fun t16 w8=>
 so w8 31 t2 t16 fun w9=>pq w9 (zf 31 t2) fun r10=>K (.tuple #[r10,(i6 0)]) w9)
theorem VQ {t0 : Value} {w : World} {K : VW} (h : YZ t0 w K) : ze prog jJ #[t0] w K:=
 okC false (.s (.r (rz 3 0 10)) (.s (.s (.r (rz 8 0 10249)) (.s (.r (rz 2 0 0)) (.c (.s (.r (rz 4 0 32)) (.n)) (.n)))) (.s (.r (rz 4 0 41)) (.n)))) func16 rfl (by kernel_rfl) (by kernel_rfl) h
def Ju (t0 t1 : Value) (w : World) (K : VW) : Prop:=
 pw w (Instr.box 25 t0) fun t2 w1=>
 pw w1 (Instr.alloc 41 true (.tuple #[])) fun t4 w2=>
 lo w2 25 t2 fun t6=>ca kE #[t6,t1,(i6 (-1))] w2 fun t8 w3=>
 pe t8 0 fun t9=>pe t8 1 fun t10=>ca kD #[t9,t10] w3 fun t11 w4=>
 pe t11 0 fun t12=>pe t11 1 fun t13=>so w4 41 t4 t12 fun w5=>pq w5 (zf 41 t4) fun r6=>K (.tuple #[r6,t13]) w5
theorem acG {t0 t1 : Value} {w : World} {K : VW} (h : Ju t0 t1 w K) : ze prog Yo #[t0,t1] w K:=
 okC false (.s (.r (rz 3 0 10)) (.s (.r (rz 10 0 133153)) (.n))) func14 rfl (by kernel_rfl) (by kernel_rfl) h
def Y0 (t0 t1 t2 : Value) (w : World) (K : VW) : Prop:=
 pw w (Instr.box 25 t0) fun t3 w1=>
 pw w1 (Instr.box 47 t2) fun t5 w2=>
 pw w2 (Instr.alloc 31 true (.tuple #[])) fun t6 w3=>
 lo w3 25 t3 fun t11=>ca kE #[t11,t1,(i6 (-1))] w3 fun t13 w4=>
 pe t13 0 fun t14=>pe t13 1 fun t15=>pw w4 (Instr.alloc 41 true (.tuple #[])) fun t8 w5=>
 so w5 41 t8 t14 fun w6=>bt .neq 32 t15 (i6 0) fun t17=>za (fun K7=>gIf t17 false (fl w6 t3 25 0 22 fun t20=>fl w6 t8 41 3 29 fun t22=>lo w6 47 t5 fun t23=>ca Yp #[t20,t22,t23] w6 fun t24 w11=>
 pp (Op.unary .not t24) fun t25=>K7 [t25] w11) (K7 [undef] w6)) (fun s8 _d9 w10=>
 zb t17 tr_ (s8.getD 0 undef) fun t26=>zc t26 (pp (Instr.build 31 #[]) fun t27=>so w10 31 t6 t27 fun w12=>pq w12 (zf 31 t6) fun r13=>K (.tuple #[r13,(i6 2)]) w12) (lo w10 41 t8 fun t29=>ca kD #[t29,t15] w10 fun t31 w14=>
 pe t31 0 fun _t32=>pe t31 1 fun t33=>bt .neq 32 t33 (i6 0) fun t35=>zc t35 (pp (Instr.build 31 #[]) fun t36=>so w14 31 t6 t36 fun w15=>pq w15 (zf 31 t6) fun r16=>K (.tuple #[r16,t33]) w15) (fl w14 t3 25 0 22 fun t39=>fl w14 t8 41 3 29 fun t41=>lo w14 47 t5 fun t42=>ca jd #[t39,t41,t42] w14 fun t43 w17=>
 pe t43 0 fun t44=>pe t43 1 fun t45=>so w17 31 t6 t44 fun w18=>pq w18 (zf 31 t6) fun r19=>K (.tuple #[r19,t45]) w18)))
theorem VR {t0 t1 t2 : Value} {w : World} {K : VW} (h : Y0 t0 t1 t2 w K) : ze prog jK #[t0,t1,t2] w K:=
 okC false (.s (.r (rz 4 0 42)) (.s (.r (rz 9 0 40993)) (.s (.s (.r (ra 3 0 0 (.grp 18 false (ri 7 3 2372) [25] (rz 1 10 0)))) (.c (.s (.r (rz 3 0 8)) (.n)) (.n))) (.s (.s (.r (rz 7 0 33)) (.s (.r (rz 2 0 0)) (.c (.s (.r (rz 4 0 32)) (.n)) (.n)))) (.s (.r (rz 10 0 133444)) (.n)))))) func17 rfl (by kernel_rfl) (by kernel_rfl) h
def vT (t0 t1 t2 : Value) (w : World) (K : VW) : Prop:=
 pw w (Instr.box 25 t0) fun t3 w1=>
 pw w1 (Instr.alloc 31 true (.tuple #[])) fun t6 w2=>
 lo w2 25 t3 fun t13=>ca jZ #[t13,t1,t2,(Value.int .u8 4)] w2 fun t16 w3=>
 pe t16 0 fun t17=>pe t16 1 fun t18=>pe t16 2 fun t19=>pw w3 (Instr.alloc 41 true (.tuple #[])) fun t8 w4=>
 pw w4 (Instr.alloc 53 true (.tuple #[])) fun t9 w5=>
 so w5 41 t8 t17 fun w6=>so w6 53 t9 t18 fun w7=>bt .neq 32 t19 (i6 0) fun t21=>zc t21 (pp (Instr.build 31 #[]) fun t22=>so w7 31 t6 t22 fun w8=>pq w8 (zf 31 t6) fun r9=>K (.tuple #[r9,t19]) w8) (fl w7 t3 25 0 22 fun t26=>fl w7 t8 41 3 29 fun t28=>fl w7 t9 53 6 47 fun t30=>ca jd #[t26,t28,t30] w7 fun t31 w10=>
 pe t31 0 fun t32=>pe t31 1 fun t33=>pw w10 (Instr.alloc 31 true (.tuple #[])) fun t11 w11=>
 so w11 31 t11 t32 fun w12=>fl w12.drew t9 53 7 4 fun t35=>fl w12.drew t8 41 4 39 fun t37=>xl w12.drew 39 t37 t2 3 fun t40=>lo w12.drew 31 t11 fun t41=>pw w12.drew (Instr.buildSlice 29 1 #[(0,t41)]) fun t42 w13=>
 Ext w12.drew w13∧
 pp (Instr.build 31 #[(0,(Value.int .u8 4)),(1,t35),(2,t40),(4,t42)]) fun t43=>so w13 31 t6 t43 fun w14=>pq w14 (zf 31 t6) fun r15=>K (.tuple #[r15,t33]) w14)
theorem Qp {t0 t1 t2 : Value} {w : World} {K : VW} (h : vT t0 t1 t2 w K) : ze prog xD #[t0,t1,t2] w K:=
 okC false (.s (.r (rz 3 0 10)) (.s (.r (rz 13 0 11141249)) (.s (.s (.r (rz 2 0 0)) (.c (.s (.r (rz 4 0 32)) (.n)) (.n))) (.s (.r (rz 13 0 10495044)) (.s (.r (ra 8 0 20548 (ra 1 10 0 (ra 2 8 3 (rz 2 11 2))))) (.n)))))) func6 rfl (by kernel_rfl) (by kernel_rfl) h
def Yd (t0 t1 t2 : Value) (w : World) (K : VW) : Prop:=
 pw w (Instr.box 25 t0) fun t3 w1=>
 pw w1 (Instr.box 3 t2) fun t5 w2=>
 pw w2 (Instr.alloc 31 true (.tuple #[])) fun t7 w3=>
 lo w3 25 t3 fun t16=>lo w3 3 t5 fun t18=>ca jZ #[t16,t1,t18,(Value.int .u8 7)] w3 fun t19 w4=>
 pe t19 0 fun t20=>pe t19 1 fun t21=>pe t19 2 fun t22=>pw w4 (Instr.alloc 41 true (.tuple #[])) fun t9 w5=>
 pw w5 (Instr.alloc 53 true (.tuple #[])) fun t10 w6=>
 so w6 41 t9 t20 fun w7=>so w7 53 t10 t21 fun w8=>bt .neq 32 t22 (i6 0) fun t24=>zc t24 (lo w8.drew 31 t7 fun t25=>so w8.drew 31 t7 t25 fun w9=>pq w9 (zf 31 t7) fun r10=>K (.tuple #[(Value.slice Option.none 0 0),r10,t22]) w9) (fl w8 t3 25 1 23 fun t28=>fl w8 t10 53 8 3 fun t30=>xl w8 23 t28 t30 58 fun t32=>pw w8 (Instr.alloc 58 true (.tuple #[])) fun t11 w11=>
 so w11 58 t11 t32 fun w12=>pp (Instr.makeFunc (.func 21) #[] #[t9,t5]) fun t33=>fl w12 t11 58 4 29 fun t35=>fl w12 t11 58 3 3 fun t37=>bt .add 3 t37 (i6 1) fun t38=>pp (Instr.sliceAt 29 t35 (some (i6 1)) (some t38) none) fun t39=>pp (Builtin.len_ #[29] 3 #[t39]) fun t40=>zt [(Value.slice Option.none 0 0),(i6 0)] w12 (fun s14 _d15 w16 K13=>
 bf .lss 3 (s14.getD 1 undef) t40 fun t42=>zc t42 (xl w16 29 t39 (s14.getD 1 undef) 31 fun t44=>pw w16 (Instr.alloc 31 true (.tuple #[])) fun t14 w17=>
 so w17 31 t14 t44 fun w18=>lo w18 31 t14 fun t47=>cv t33 #[t47] w18 fun t48 w19=>
 pw w19 (Instr.buildSlice 29 1 #[(0,t48)]) fun t49 w20=>
 pw w20 (Builtin.append_ #[29,29] 29 #[(s14.getD 0 undef),t49]) fun t50 w21=>
 bt .add 3 (s14.getD 1 undef) (i6 1) fun t51=>K13 [t50,t51] w21) (fl w16 t11 58 4 29 fun t55=>xl w16 29 t55 (i6 0) 31 fun t57=>cv t33 #[t57] w16 fun t58 w22=>
 so w22 31 t7 t58 fun w23=>pq w23 (zf 31 t7) fun r24=>K (.tuple #[(s14.getD 0 undef),r24,t22]) w23)))
theorem JV {t0 t1 t2 : Value} {w : World} {K : VW} (h : Yd t0 t1 t2 w K) : ze prog kv #[t0,t1,t2] w K:=
 okC false (.s (.r (rz 5 0 138)) (.s (.r (rz 13 0 11141265)) (.s (.s (.r (rz 2 0 0)) (.c (.s (.r (rz 5 0 129)) (.n)) (.n))) (.s (.r (rz 8 0 42052)) (.s (.r (rz 2 0 0)) (.s (.s (.r (rz 8 0 68)) (.b (.lp [6,41] (.s (.r (rz 1 0 0)) (.s (.c (.n) (.n)) (.s (.b (.s (.r (rz 4 0 164)) (.r (rz 7 0 2704)))) (.r (rz 2 0 0)))))))) (.s (.r (rz 11 0 533568)) (.n)))))))) func7 rfl (by kernel_rfl) (by kernel_rfl) h
def Y1 (t0 : Value) (w : World) (K : VW) : Prop:=
 pw w (Instr.box 41 t0) fun t1 w1=>
 fl w1 t1 41 1 3 fun t4=>fl w1 t1 41 0 3 fun t6=>bf .add 3 t4 t6 fun t7=>K t7 w1
theorem VS {t0 : Value} {w : World} {K : VW} (h : Y1 t0 w K) : ze prog jL #[t0] w K:=
 okC false (.s (.r (rz 2 0 2)) (.s (.r (rz 6 0 68)) (.n))) func18 rfl (by kernel_rfl) (by kernel_rfl) h
def Ye (t0 t1 : Value) (w : World) (K : VW) : Prop:=
 bt .lss 3 t0 (i6 0) fun t5=>za (fun K1=>gIf t5 false (lo w 39 t1 fun t8=>pp (Builtin.len_ #[39] 3 #[t8]) fun t9=>bf .geq 3 t0 t9 fun t10=>K1 [t10] w) (K1 [undef] w)) (fun s2 _d3 w4=>
 zb t5 tr_ (s2.getD 0 undef) fun t11=>K t11 w4)
theorem JW {t0 t1 : Value} {w : World} {K : VW} (h : Ye t0 t1 w K) : ze prog Vm #[t0,t1] w K:=
 okC false (.s (.r (rz 1 0 0)) (.s (.r (ra 3 0 0 (.grp 6 false (ri 4 3 4) [10] (rz 2 7 0)))) (.n))) func36 rfl (by kernel_rfl) (by kernel_rfl) h
def Qq (t0 t1 : Value) (w : World) (K : VW) : Prop:=
 pw w (Instr.box 31 t0) fun t2 w1=>
 pw w1 (Instr.alloc 31 true (.tuple #[])) fun t4 w2=>
 za (fun K3=>
 fl w2 t2 31 0 28 fun t6=>bt .eql 28 t6 (Value.int .u8 4) fun t7=>zc t7 (fl w2 t2 31 2 3 fun t10=>cv t1 #[t10] w2 fun t11 w7=>
 pf 31 t2 2 fun t12=>so w7 3 t12 t11 fun w8=>K3 [] w8) (K3 [] w2)) (fun _s4 _d5 w6=>
 za (fun K9=>
 fl w6 t2 31 4 29 fun t14=>pp (Builtin.len_ #[29] 3 #[t14]) fun t15=>bt .gtr 3 t15 (i6 0) fun t16=>zc t16 (fl w6 t2 31 4 29 fun t18=>xl w6 29 t18 (i6 0) 31 fun t20=>ca kC #[t20,t1] w6 fun t22 w13=>
 pw w13 (Instr.buildSlice 29 1 #[(0,t22)]) fun t23 w14=>
 pf 31 t2 4 fun t24=>so w14 29 t24 t23 fun w15=>K9 [] w15) (K9 [] w6)) (fun _s10 _d11 w12=>
 lo w12 31 t2 fun t25=>so w12 31 t4 t25 fun w16=>pq w16 (zf 31 t4) fun r17=>K r17 w16))
theorem abF {t0 t1 : Value} {w : World} {K : VW} (h : Qq t0 t1 w K) : ze prog kC #[t0,t1] w K:=
 okC false (.s (.r (rz 2 0 10)) (.j [] (.s (.r (rz 3 0 4)) (.c (.r (rz 6 0 2192)) (.n))) (.j [] (.s (.r (rz 4 0 4)) (.c (.r (rz 9 0 141380)) (.n))) (.s (.r (rz 2 0 9)) (.n))))) func37 rfl (by kernel_rfl) (by kernel_rfl) h
def Yf (t0 t1 : Value) (w : World) (K : VW) : Prop:=
 lo w 39 t1 fun t4=>xl w 39 t4 t0 3 fun t7=>K t7 w
theorem JX {t0 t1 : Value} {w : World} {K : VW} (h : Yf t0 t1 w K) : ze prog Vn #[t0,t1] w K:=
 okC false (.s (.r (rz 1 0 0)) (.s (.r (rz 5 0 65)) (.n))) func38 rfl (by kernel_rfl) (by kernel_rfl) h
def ZM (_t0 : Value) (w : World) (K : VW) : Prop:=
 K (i6 (-1)) w
theorem Q8 {t0 : Value} {w : World} {K : VW} (h : ZM t0 w K) : ze prog JF #[t0] w K:=
 okC false (.s (.r (rz 1 0 0)) (.s (.r (rz 1 0 0)) (.n))) func39 rfl (by kernel_rfl) (by kernel_rfl) h
def Qr (t0 t1 : Value) (w : World) (K : VW) : Prop:=
 pw w (Instr.box 41 t0) fun t2 w1=>
 pw w1 (Instr.alloc 41 true (.tuple #[])) fun t4 w2=>
 za (fun K3=>
 bt .eql 32 t1 (i6 0) fun t7=>za (fun K7=>gIf t7 true (fl w2 t2 41 2 3 fun t10=>bt .gtr 3 t10 (i6 512) fun t11=>K7 [t11] w2) (K7 [undef] w2)) (fun s8 _d9 w10=>
 zb t7 (s8.getD 0 undef) fa_ fun t12=>zc t12 (K3 [(i6 5)] w10) (K3 [t1] w10))) (fun s4 _d5 w6=>
 bt .neq 32 (s4.getD 0 undef) (i6 0) fun t14=>zc t14 (pp (Instr.build 41 #[]) fun t15=>so w6 41 t4 t15 fun w11=>pq w11 (zf 41 t4) fun r12=>K (.tuple #[r12,(s4.getD 0 undef)]) w11) (lo w6 41 t2 fun t17=>so w6 41 t4 t17 fun w13=>pq w13 (zf 41 t4) fun r14=>K (.tuple #[r14,(s4.getD 0 undef)]) w13))
theorem abG {t0 t1 : Value} {w : World} {K : VW} (h : Qr t0 t1 w K) : ze prog kD #[t0,t1] w K:=
 okC false (.s (.r (rz 3 0 10)) (.j [1] (.s (.r (ra 3 0 0 (.grp 8 true (ri 3 3 4) [11] (rz 1 6 0)))) (.c (.r (rz 1 0 0)) (.n))) (.s (.s (.r (rz 2 0 0)) (.c (.s (.r (rz 4 0 32)) (.n)) (.n))) (.s (.r (rz 4 0 33)) (.n))))) func31 rfl (by kernel_rfl) (by kernel_rfl) h
def Qs (t0 t1 t2 : Value) (w : World) (K : VW) : Prop:=
 pw w (Instr.box 25 t0) fun t3 w1=>
 pw w1 (Instr.alloc 41 true (.tuple #[])) fun t6 w2=>
 bt .lss 3 t1 (i6 0) fun t16=>za (fun K3=>gIf t16 false (fl w2 t3 25 1 23 fun t20=>pp (Builtin.len_ #[23] 3 #[t20]) fun t21=>bf .geq 3 t1 t21 fun t22=>K3 [t22] w2) (K3 [undef] w2)) (fun s4 _d5 w6=>
 zb t16 tr_ (s4.getD 0 undef) fun t23=>za (fun K7=>gIf t23 false (lo w6 25 t3 fun t25=>ca Yn #[t25] w6 fun t26 w11=>
 pp (Op.unary .not t26) fun t27=>K7 [t27] w11) (K7 [undef] w6)) (fun s8 _d9 w10=>
 zb t23 tr_ (s8.getD 0 undef) fun t28=>za (fun K12=>gIf t28 false (fl w10 t3 25 1 23 fun t32=>px 23 t32 t1 fun t34=>fl w10 t34 58 6 56 fun t36=>pp (Builtin.len_ #[56] 3 #[t36]) fun t37=>bf .geq 3 t2 t37 fun t38=>K12 [t38] w10) (K12 [undef] w10)) (fun s13 _d14 w15=>
 zb t28 tr_ (s13.getD 0 undef) fun t39=>zc t39 (lo w15 41 t6 fun t40=>so w15 41 t6 t40 fun w16=>pq w16 (zf 41 t6) fun r17=>K (.tuple #[r17,(i6 2)]) w16) (fl w15 t3 25 1 23 fun t42=>xl w15 23 t42 t1 58 fun t45=>pw w15 (Instr.alloc 58 true (.tuple #[])) fun t8 w18=>
 so w18 58 t8 t45 fun w19=>za (fun K20=>
 fl w19.drew t8 58 1 3 fun t47=>pf 58 t8 6 fun t48=>pf 58 t8 1 fun t51=>pf 41 t6 0 fun t53=>((pw w19.drew (Instr.loadAt 56 t48) fun t49 w24=>
 Ext w19.drew w24∧
 pp (Builtin.len_ #[56] 3 #[t49]) fun t50=>((pw w24 (Instr.loadAt 3 t51) fun t52 w25=>
 Ext w24 w25∧
 so w25 3 t53 t47 fun w26=>pf 41 t6 1 fun t54=>so w26 3 t54 t50 fun w27=>pf 41 t6 2 fun t55=>so w27 3 t55 t52 fun w28=>K20 [] w28)∧
 (so w24 3 t53 t47 fun w29=>pf 41 t6 1 fun t54_30=>((pw w29 (Instr.loadAt 3 t51) fun t52_32 w31=>
 Ext w29 w31∧
 so w31 3 t54_30 t50 fun w33=>pf 41 t6 2 fun t55_34=>so w33 3 t55_34 t52_32 fun w35=>K20 [] w35)∧
 (so w29 3 t54_30 t50 fun w36=>pw w36 (Instr.loadAt 3 t51) fun t52_38 w37=>
 Ext w36 w37∧
 pf 41 t6 2 fun t55_39=>so w37 3 t55_39 t52_38 fun w40=>K20 [] w40)))))∧
 (((pw w19.drew (Instr.loadAt 3 t51) fun t52_42 w41=>
 Ext w19.drew w41∧
 ((pw w41 (Instr.loadAt 56 t48) fun t49_44 w43=>
 Ext w41 w43∧
 pp (Builtin.len_ #[56] 3 #[t49_44]) fun t50_45=>so w43 3 t53 t47 fun w46=>pf 41 t6 1 fun t54_47=>so w46 3 t54_47 t50_45 fun w48=>pf 41 t6 2 fun t55_49=>so w48 3 t55_49 t52_42 fun w50=>K20 [] w50)∧
 (so w41 3 t53 t47 fun w51=>pw w51 (Instr.loadAt 56 t48) fun t49_53 w52=>
 Ext w51 w52∧
 pp (Builtin.len_ #[56] 3 #[t49_53]) fun t50_54=>pf 41 t6 1 fun t54_55=>so w52 3 t54_55 t50_54 fun w56=>pf 41 t6 2 fun t55_57=>so w56 3 t55_57 t52_42 fun w58=>K20 [] w58)))∧
 (so w19.drew 3 t53 t47 fun w59=>((pw w59 (Instr.loadAt 56 t48) fun t49_61 w60=>
 Ext w59 w60∧
 pp (Builtin.len_ #[56] 3 #[t49_61]) fun t50_62=>pf 41 t6 1 fun t54_63=>((pw w60 (Instr.loadAt 3 t51) fun t52_65 w64=>
 Ext w60 w64∧
 so w64 3 t54_63 t50_62 fun w66=>pf 41 t6 2 fun t55_67=>so w66 3 t55_67 t52_65 fun w68=>K20 [] w68)∧
 (so w60 3 t54_63 t50_62 fun w69=>pw w69 (Instr.loadAt 3 t51) fun t52_71 w70=>
 Ext w69 w70∧
 pf 41 t6 2 fun t55_72=>so w70 3 t55_72 t52_71 fun w73=>K20 [] w73)))∧
 (pw w59 (Instr.loadAt 3 t51) fun t52_75 w74=>
 Ext w59 w74∧
 pw w74 (Instr.loadAt 56 t48) fun t49_77 w76=>
 Ext w74 w76∧
 pp (Builtin.len_ #[56] 3 #[t49_77]) fun t50_78=>pf 41 t6 1 fun t54_79=>so w76 3 t54_79 t50_78 fun w80=>pf 41 t6 2 fun t55_81=>so w80 3 t55_81 t52_75 fun w82=>K20 [] w82))))))) (fun _s21 _d22 w23=>
 fl w23 t8 58 4 29 fun t57=>pp (Builtin.len_ #[29] 3 #[t57]) fun t58=>zt [(i6 0)] w23 (fun s84 _d85 w86 K83=>
 bf .lss 3 (s84.getD 0 undef) t58 fun t60=>zc t60 (za (fun K87=>
 xl w86 29 t57 (s84.getD 0 undef) 31 fun t62=>pw w86 (Instr.alloc 31 true (.tuple #[])) fun t10 w91=>
 so w91 31 t10 t62 fun w92=>pf 41 t6 3 fun t63=>lo w92.drew 31 t10 fun t65=>pp (Instr.makeFunc (.func 47) #[] #[t6]) fun t66=>((pw w92.drew (Instr.loadAt 29 t63) fun t64 w93=>
 Ext w92.drew w93∧
 pp (Builtin.len_ #[29] 3 #[t64]) fun t68=>((ca yf #[t65,t66] w93 fun t67 w94=>
 pw w94 (Instr.buildSlice 29 1 #[(0,(Value.agg #[Value.int .u8 0,Value.bool false,Value.int .i64 0,Value.int .i64 0,Value.slice Option.none 0 0]))]) fun t69 w95=>
 Ext w94 w95∧
 pw w95 (Builtin.append_ #[29,29] 29 #[t64,t69]) fun t70 w96=>
 px 29 t70 t68 fun t71=>pf 41 t6 3 fun t72=>((so w96 31 t71 t67 fun w97=>so w97 29 t72 t70 fun w98=>K87 [] w98)∧
 (so w96 29 t72 t70 fun w99=>so w99 31 t71 t67 fun w100=>K87 [] w100)))∧
 (pw w93 (Instr.buildSlice 29 1 #[(0,(Value.agg #[Value.int .u8 0,Value.bool false,Value.int .i64 0,Value.int .i64 0,Value.slice Option.none 0 0]))]) fun t69_102 w101=>
 Ext w93 w101∧
 ca yf #[t65,t66] w101 fun t67_104 w103=>
 pw w103 (Builtin.append_ #[29,29] 29 #[t64,t69_102]) fun t70_106 w105=>
 px 29 t70_106 t68 fun t71_107=>pf 41 t6 3 fun t72_108=>((so w105 31 t71_107 t67_104 fun w109=>so w109 29 t72_108 t70_106 fun w110=>K87 [] w110)∧
 (so w105 29 t72_108 t70_106 fun w111=>so w111 31 t71_107 t67_104 fun w112=>K87 [] w112)))))∧
 (((ca yf #[t65,t66] w92.drew fun t67_114 w113=>
 ((pw w113 (Instr.loadAt 29 t63) fun t64_116 w115=>
 Ext w113 w115∧
 pp (Builtin.len_ #[29] 3 #[t64_116]) fun t68_117=>pw w115 (Instr.buildSlice 29 1 #[(0,(Value.agg #[Value.int .u8 0,Value.bool false,Value.int .i64 0,Value.int .i64 0,Value.slice Option.none 0 0]))]) fun t69_119 w118=>
 Ext w115 w118∧
 pw w118 (Builtin.append_ #[29,29] 29 #[t64_116,t69_119]) fun t70_121 w120=>
 px 29 t70_121 t68_117 fun t71_122=>pf 41 t6 3 fun t72_123=>((so w120 31 t71_122 t67_114 fun w124=>so w124 29 t72_123 t70_121 fun w125=>K87 [] w125)∧
 (so w120 29 t72_123 t70_121 fun w126=>so w126 31 t71_122 t67_114 fun w127=>K87 [] w127)))∧
 (pw w113 (Instr.buildSlice 29 1 #[(0,(Value.agg #[Value.int .u8 0,Value.bool false,Value.int .i64 0,Value.int .i64 0,Value.slice Option.none 0 0]))]) fun t69_129 w128=>
 Ext w113 w128∧
 pw w128 (Instr.loadAt 29 t63) fun t64_131 w130=>
 Ext w128 w130∧
 pp (Builtin.len_ #[29] 3 #[t64_131]) fun t68_132=>pw w130 (Builtin.append_ #[29,29] 29 #[t64_131,t69_129]) fun t70_134 w133=>
 px 29 t70_134 t68_132 fun t71_135=>pf 41 t6 3 fun t72_136=>((so w133 31 t71_135 t67_114 fun w137=>so w137 29 t72_136 t70_134 fun w138=>K87 [] w138)∧
 (so w133 29 t72_136 t70_134 fun w139=>so w139 31 t71_135 t67_114 fun w140=>K87 [] w140)))))∧
 (pw w92.drew (Instr.buildSlice 29 1 #[(0,(Value.agg #[Value.int .u8 0,Value.bool false,Value.int .i64 0,Value.int .i64 0,Value.slice Option.none 0 0]))]) fun t69_142 w141=>
 Ext w92.drew w141∧
 ((pw w141 (Instr.loadAt 29 t63) fun t64_144 w143=>
 Ext w141 w143∧
 pp (Builtin.len_ #[29] 3 #[t64_144]) fun t68_145=>ca yf #[t65,t66] w143 fun t67_147 w146=>
 pw w146 (Builtin.append_ #[29,29] 29 #[t64_144,t69_142]) fun t70_149 w148=>
 px 29 t70_149 t68_145 fun t71_150=>pf 41 t6 3 fun t72_151=>((so w148 31 t71_150 t67_147 fun w152=>so w152 29 t72_151 t70_149 fun w153=>K87 [] w153)∧
 (so w148 29 t72_151 t70_149 fun w154=>so w154 31 t71_150 t67_147 fun w155=>K87 [] w155)))∧
 (ca yf #[t65,t66] w141 fun t67_157 w156=>
 pw w156 (Instr.loadAt 29 t63) fun t64_159 w158=>
 Ext w156 w158∧
 pp (Builtin.len_ #[29] 3 #[t64_159]) fun t68_160=>pw w158 (Builtin.append_ #[29,29] 29 #[t64_159,t69_142]) fun t70_162 w161=>
 px 29 t70_162 t68_160 fun t71_163=>pf 41 t6 3 fun t72_164=>((so w161 31 t71_163 t67_157 fun w165=>so w165 29 t72_164 t70_162 fun w166=>K87 [] w166)∧
 (so w161 29 t72_164 t70_162 fun w167=>so w167 31 t71_163 t67_157 fun w168=>K87 [] w168))))))))) (fun _s88 _d89 w90=>
 bt .add 3 (s84.getD 0 undef) (i6 1) fun t73=>K83 [t73] w90)) (fl w86 t8 58 6 56 fun t75=>pp (Builtin.len_ #[56] 3 #[t75]) fun t76=>zt [(i6 0)] w86 (fun s170 _d171 w172 K169=>
 bf .lss 3 (s170.getD 0 undef) t76 fun t78=>zc t78 (xl w172 56 t75 (s170.getD 0 undef) 53 fun t80=>pw w172 (Instr.alloc 53 true (.tuple #[])) fun t12 w173=>
 so w173 53 t12 t80 fun w174=>za (fun K175=>
 fl w174 t12 53 0 44 fun t82=>bt .eql 44 t82 (Value.int .u8 4) fun t84=>zc t84 (K175 [(i6 1)] w174) (bt .eql 44 t82 (Value.int .u8 7) fun t86=>zc t86 (fl w174 t3 25 1 23 fun t88=>fl w174 t12 53 8 3 fun t90=>px 23 t88 t90 fun t91=>fl w174 t91 58 1 3 fun t93=>K175 [t93] w174) (K175 [(i6 0)] w174))) (fun s176 _d177 w178=>
 fl w178 t6 41 2 3 fun t95=>za (fun K179=>
 bt .eql 3 (s176.getD 0 undef) (i6 0) fun t97=>zc t97 (K179 [(i6 (-1))] w178) (K179 [t95] w178)) (fun s180 _d181 w182=>
 fl w182 t6 41 4 39 fun t99=>pw w182 (Instr.buildSlice 39 1 #[(0,(s180.getD 0 undef))]) fun t101 w183=>
 pw w183 (Builtin.append_ #[39,39] 39 #[t99,t101]) fun t102 w184=>
 pf 41 t6 4 fun t103=>so w184 39 t103 t102 fun w185=>fl w185 t6 41 2 3 fun t105=>bf .add 3 t105 (s176.getD 0 undef) fun t107=>pf 41 t6 2 fun t108=>so w185 3 t108 t107 fun w186=>bt .add 3 (s170.getD 0 undef) (i6 1) fun t109=>K169 [t109] w186))) (lo w172 41 t6 fun t110=>so w172 41 t6 t110 fun w187=>pq w187 (zf 41 t6) fun r188=>K (.tuple #[r188,(i6 0)]) w187)))))))))
theorem abH {t0 t1 t2 : Value} {w : World} {K : VW} (h : Qs t0 t1 t2 w K) : ze prog kE #[t0,t1,t2] w K:=
 okC false (.s (.r (rz 3 0 10)) (.s (.s (.r (ra 3 0 0 (.grp 17 false (ri 5 3 16) [22] (ra 2 8 0 (.grp 24 false (ri 3 10 9) [27] (ra 2 13 0 (.grp 29 false (ri 9 15 4112) [38] (rz 1 24 0)))))))) (.c (.s (.r (rz 3 0 9)) (.n)) (.n))) (.s (.r (rz 7 0 10500)) (.j [] (.r (ra 3 0 4 (ra 1 5 0 (ra 1 7 0 (.alt 3 .u (ra 1 4 0 (.alt 6 .u (rz 5 8 546) (ra 2 8 2 (.alt 6 .u (rz 3 10 34) (ra 1 10 2 (ra 1 6 3 (rz 2 11 8))))))) (.alt 6 .u (.alt 3 .u (ra 1 4 0 (rz 5 8 546)) (ra 1 8 2 (ra 2 3 3 (rz 4 9 136)))) (ra 1 8 2 (.alt 3 .u (ra 1 4 0 (ra 1 9 0 (.alt 6 .u (rz 3 10 34) (ra 1 10 2 (ra 1 6 3 (rz 2 11 8)))))) (ra 1 6 3 (ra 2 3 3 (rz 4 9 136))))))))))) (.s (.s (.r (rz 4 0 4)) (.b (.lp [59] (.s (.r (rz 1 0 0)) (.s (.c (.n) (.n)) (.j [] (.b (.s (.r (rz 4 0 164)) (.r (ra 1 0 0 (ra 2 2 1 (.alt 1 .u (ra 1 5 0 (.alt 4 .l (ra 3 6 11 (ra 1 10 0 (.alt 9 .l (rz 1 11 2) (ra 1 11 2 (rz 1 9 2))))) (ra 1 6 3 (ra 1 4 2 (ra 2 7 2 (ra 1 10 0 (.alt 9 .l (rz 1 11 2) (ra 1 11 2 (rz 1 9 2))))))))) (.alt 4 .l (.alt 1 .u (ra 4 5 44 (ra 1 10 0 (.alt 9 .l (rz 1 11 2) (ra 1 11 2 (rz 1 9 2))))) (ra 1 6 3 (ra 1 1 3 (ra 1 5 0 (ra 2 7 2 (ra 1 10 0 (.alt 9 .l (rz 1 11 2) (ra 1 11 2 (rz 1 9 2))))))))) (ra 1 6 3 (.alt 1 .u (ra 1 5 0 (ra 1 4 2 (ra 2 7 2 (ra 1 10 0 (.alt 9 .l (rz 1 11 2) (ra 1 11 2 (rz 1 9 2))))))) (ra 1 4 2 (ra 1 1 3 (ra 1 5 0 (ra 2 7 2 (ra 1 10 0 (.alt 9 .l (rz 1 11 2) (ra 1 11 2 (rz 1 9 2))))))))))))))))) (.r (rz 2 0 0)))))))) (.s (.s (.r (rz 4 0 4)) (.b (.lp [77] (.s (.r (rz 1 0 0)) (.s (.c (.n) (.n)) (.s (.b (.s (.r (rz 4 0 164)) (.s (.r (rz 1 0 0)) (.j [13] (.s (.r (rz 2 0 4)) (.b (.s (.r (rz 2 0 0)) (.c (.r (rz 1 0 0)) (.s (.r (rz 2 0 0)) (.c (.r (rz 8 0 4164)) (.n))))))) (.s (.r (rz 3 0 4)) (.j [14] (.s (.r (rz 2 0 0)) (.c (.r (rz 1 0 0)) (.n))) (.s (.r (rz 7 0 8836)) (.r (rz 6 0 2052))))))))) (.r (rz 2 0 0)))))))) (.s (.r (rz 3 0 9)) (.n)))))))) func32 rfl (by kernel_rfl) (by kernel_rfl) h
def Jv (t0 t1 t2 : Value) (w : World) (K : VW) : Prop:=
 pw w (Instr.box 47 t2) fun t5 w1=>
 lo w1 47 t5 fun t13=>ca je #[t0,t1,t13] w1 fun t14 w2=>
 pe t14 0 fun t15=>pe t14 1 fun _t16=>pe t14 2 fun t17=>pw w2 (Instr.alloc 31 true (.tuple #[])) fun t7 w3=>
 so w3 31 t7 t15 fun w4=>K t17 w4
theorem acH {t0 t1 t2 : Value} {w : World} {K : VW} (h : Jv t0 t1 t2 w K) : ze prog Yp #[t0,t1,t2] w K:=
 okC false (.s (.r (rz 2 0 2)) (.s (.r (rz 12 0 655504)) (.s (.r (rz 2 0 0)) (.n)))) func40 rfl (by kernel_rfl) (by kernel_rfl) h
def Qt (t0 t1 t2 : Value) (w : World) (K : VW) : Prop:=
 pw w (Instr.box 47 t2) fun t5 w1=>
 pw w1 (Instr.alloc 31 true (.tuple #[])) fun t6 w2=>
 lo w2 47 t5 fun t14=>ca je #[t0,t1,t14] w2 fun t15 w3=>
 pe t15 0 fun t16=>pe t15 1 fun _t17=>pe t15 2 fun t18=>pw w3 (Instr.alloc 31 true (.tuple #[])) fun t8 w4=>
 so w4 31 t8 t16 fun w5=>pp (Op.unary .not t18) fun t20=>zc t20 (pp (Instr.build 31 #[]) fun t21=>so w5 31 t6 t21 fun w6=>pq w6 (zf 31 t6) fun r7=>K (.tuple #[r7,(i6 2)]) w6) (lo w5 31 t8 fun t22=>ca qd #[t22] w5 fun t23 w8=>
 pe t23 0 fun t24=>pe t23 1 fun t25=>so w8 31 t6 t24 fun w9=>pq w9 (zf 31 t6) fun r10=>K (.tuple #[r10,t25]) w9)
theorem abI {t0 t1 t2 : Value} {w : World} {K : VW} (h : Qt t0 t1 t2 w K) : ze prog jd #[t0,t1,t2] w K:=
 okC false (.s (.r (rz 3 0 10)) (.s (.r (rz 12 0 655504)) (.s (.s (.r (rz 2 0 0)) (.c (.s (.r (rz 3 0 8)) (.n)) (.n))) (.s (.r (rz 6 0 521)) (.n))))) func20 rfl (by kernel_rfl) (by kernel_rfl) h
def Jw (t0 t1 t2 t3 : Value) (w : World) (K : VW) : Prop:=
 pw w (Instr.box 25 t0) fun t4 w1=>
 pw w1 (Instr.alloc 41 true (.tuple #[])) fun t8 w2=>
 pw w2 (Instr.alloc 53 true (.tuple #[])) fun t9 w3=>
 bt .lss 3 t2 (i6 0) fun t15=>zc t15 (pp (Instr.build 41 #[]) fun t16=>pp (Instr.build 53 #[]) fun t17=>so w3 41 t8 t16 fun w4=>so w4 53 t9 t17 fun w5=>pq w5 (zf 41 t8) fun r6=>pq w5 (zf 53 t9) fun r7=>K (.tuple #[r6,r7,(i6 2)]) w5) (lo w3 25 t4 fun t19=>ca kE #[t19,t1,t2] w3 fun t22 w8=>
 pe t22 0 fun t23=>pe t22 1 fun t24=>ca kD #[t23,t24] w8 fun t25 w9=>
 pe t25 0 fun t26=>pe t25 1 fun t27=>pw w9 (Instr.alloc 41 true (.tuple #[])) fun t11 w10=>
 so w10 41 t11 t26 fun w11=>bt .neq 32 t27 (i6 0) fun t29=>zc t29 (lo w11 41 t11 fun t30=>pp (Instr.build 53 #[]) fun t31=>so w11 41 t8 t30 fun w12=>so w12 53 t9 t31 fun w13=>pq w13 (zf 41 t8) fun r14=>pq w13 (zf 53 t9) fun r15=>K (.tuple #[r14,r15,t27]) w13) (fl w11 t4 25 1 23 fun t34=>px 23 t34 t1 fun t36=>fl w11 t36 58 6 56 fun t38=>xl w11 56 t38 t2 53 fun t41=>pw w11 (Instr.alloc 53 true (.tuple #[])) fun t13 w16=>
 so w16 53 t13 t41 fun w17=>za (fun K18=>
 fl w17 t13 53 0 44 fun t43=>bf .neq 44 t43 t3 fun t45=>zc t45 (K18 [(i6 130)] w17) (K18 [t27] w17)) (fun s19 _d20 w21=>
 lo w21.drew 41 t11 fun t46=>((pw w21.drew (Instr.loadAt 53 t13) fun t47 w22=>
 Ext w21.drew w22∧
 so w22 41 t8 t46 fun w23=>so w23 53 t9 t47 fun w24=>pq w24 (zf 41 t8) fun r25=>pq w24 (zf 53 t9) fun r26=>K (.tuple #[r25,r26,(s19.getD 0 undef)]) w24)∧
 (so w21.drew 41 t8 t46 fun w27=>pw w27 (Instr.loadAt 53 t13) fun t47_29 w28=>
 Ext w27 w28∧
 so w28 53 t9 t47_29 fun w30=>pq w30 (zf 41 t8) fun r31=>pq w30 (zf 53 t9) fun r32=>K (.tuple #[r31,r32,(s19.getD 0 undef)]) w30)))))
theorem acI {t0 t1 t2 t3 : Value} {w : World} {K : VW} (h : Jw t0 t1 t2 t3 w K) : ze prog jZ #[t0,t1,t2,t3] w K:=
 okC false (.s (.r (rz 4 0 42)) (.s (.s (.r (rz 2 0 0)) (.c (.s (.r (rz 5 0 160)) (.n)) (.n))) (.s (.r (rz 13 0 10494081)) (.s (.s (.r (rz 2 0 0)) (.c (.s (.r (rz 6 0 641)) (.n)) (.n))) (.s (.r (rz 11 0 2688004)) (.j [12] (.s (.r (rz 4 0 4)) (.c (.r (rz 1 0 0)) (.n))) (.s (.r (ra 1 0 1 (ra 1 2 0 (.alt 1 .u (rz 3 3 10) (ra 1 3 2 (ra 1 1 3 (rz 2 4 2))))))) (.n)))))))) func19 rfl (by kernel_rfl) (by kernel_rfl) h
def vU (t0 t1 t2 : Value) (w : World) (K : VW) : Prop:=
 pw w (Instr.box 31 t0) fun t3 w1=>
 pw w1 (Instr.alloc 31 true (.tuple #[])) fun t4 w2=>
 lo w2 31 t3 fun t5=>pp (Instr.makeFunc (.func 23) #[] #[t1,t2]) fun t6=>ca yf #[t5,t6] w2 fun t7 w3=>
 so w3 31 t4 t7 fun w4=>pq w4 (zf 31 t4) fun r5=>K r5 w4
theorem Qu {t0 t1 t2 : Value} {w : World} {K : VW} (h : vU t0 t1 t2 w K) : ze prog k7 #[t0,t1,t2] w K:=
 okC false (.s (.r (rz 2 0 10)) (.s (.r (rz 4 0 161)) (.n))) func21 rfl (by kernel_rfl) (by kernel_rfl) h
def Yg (t0 t1 : Value) (w : World) (K : VW) : Prop:=
 pw w (Instr.box 31 t0) fun t2 w1=>
 pw w1 (Instr.alloc 31 true (.tuple #[])) fun t4 w2=>
 lo w2 31 t2 fun t8=>ca yI #[t8] w2 fun t9 w3=>
 pp (Builtin.len_ #[39] 3 #[t9]) fun t11=>zt [(i6 0)] w3 (fun s5 _d6 w7 K4=>
 bf .lss 3 (s5.getD 0 undef) t11 fun t13=>zc t13 (xl w7 39 t9 (s5.getD 0 undef) 3 fun t16=>cv t1 #[t16] w7 fun t21 w8=>
 px 39 t9 (s5.getD 0 undef) fun t22=>so w8 3 t22 t21 fun w9=>bt .add 3 (s5.getD 0 undef) (i6 1) fun t23=>K4 [t23] w9) (lo w7 31 t2 fun t25=>ca Zl #[t25,t9] w7 fun t27 w10=>
 pe t27 0 fun t28=>pe t27 1 fun _t29=>so w10 31 t2 t28 fun w11=>lo w11 31 t2 fun t30=>so w11 31 t4 t30 fun w12=>pq w12 (zf 31 t4) fun r13=>K r13 w12))
theorem JY {t0 t1 : Value} {w : World} {K : VW} (h : Yg t0 t1 w K) : ze prog yf #[t0,t1] w K:=
 okC false (.s (.r (rz 2 0 10)) (.s (.r (rz 3 0 9)) (.s (.s (.r (rz 3 0 0)) (.b (.lp [12] (.s (.r (rz 1 0 0)) (.s (.c (.n) (.n)) (.s (.b (.s (.r (rz 5 0 16)) (.r (rz 7 0 8704)))) (.r (rz 2 0 0)))))))) (.s (.r (rz 7 0 8225)) (.s (.r (rz 2 0 9)) (.n)))))) func22 rfl (by kernel_rfl) (by kernel_rfl) h
def jC (t0 t1 t2 : Value) (w : World) (K : VW) : Prop:=
 fl w t1 41 4 39 fun t6=>lo w 3 t2 fun t7=>xl w 39 t6 t7 3 fun t9=>bf .add 3 t9 t0 fun t11=>K t11 w
theorem Xg {t0 t1 t2 : Value} {w : World} {K : VW} (h : jC t0 t1 t2 w K) : ze prog XK #[t0,t1,t2] w K:=
 okC false (.s (.r (rz 1 0 0)) (.s (.r (rz 8 0 276)) (.n))) func23 rfl (by kernel_rfl) (by kernel_rfl) h
def Y2 (t0 t1 : Value) (w : World) (K : VW) : Prop:=
 za (fun K1=>
 bt .lss 3 t0 (i6 0) fun t5=>zc t5 (fl w t1 41 2 3 fun t7=>fl w t1 41 2 3 fun t9=>bt .add 3 t9 (i6 1) fun t10=>pf 41 t1 2 fun t11=>so w 3 t11 t10 fun w5=>K1 [t7] w5) (K1 [t0] w)) (fun s2 _d3 w4=>
 K (s2.getD 0 undef) w4)
theorem VT {t0 t1 : Value} {w : World} {K : VW} (h : Y2 t0 t1 w K) : ze prog jM #[t0,t1] w K:=
 okC false (.s (.r (rz 1 0 0)) (.j [0] (.s (.r (rz 2 0 0)) (.c (.s (.r (rz 3 0 4)) (.r (rz 5 0 516))) (.n))) (.s (.r (rz 2 0 0)) (.n)))) func47 rfl (by kernel_rfl) (by kernel_rfl) h
def Qv (t0 t1 t2 : Value) (w : World) (K : VW) : Prop:=
 pw w (Instr.box 22 t0) fun t3 w1=>
 pw w1 (Instr.box 47 t2) fun t5 w2=>
 pw w2 (Instr.alloc 31 true (.tuple #[])) fun t6 w3=>
 fl w3 t5 47 0 3 fun t15=>bt .lss 3 t15 (i6 0) fun t16=>za (fun K4=>gIf t16 false (fl w3 t5 47 0 3 fun t19=>pp (Builtin.len_ #[29] 3 #[t1]) fun t21=>bf .geq 3 t19 t21 fun t22=>K4 [t22] w3) (K4 [undef] w3)) (fun s5 _d6 w7=>
 zb t16 tr_ (s5.getD 0 undef) fun t23=>za (fun K8=>gIf t23 false (fl w7 t5 47 1 45 fun t26=>pp (Builtin.len_ #[45] 3 #[t26]) fun t27=>bt .gtr 3 t27 (i6 8) fun t28=>K8 [t28] w7) (K8 [undef] w7)) (fun s9 _d10 w11=>
 zb t23 tr_ (s9.getD 0 undef) fun t29=>zc t29 (lo w11 31 t6 fun t30=>so w11 31 t6 t30 fun w12=>pq w12 (zf 31 t6) fun r13=>K (.tuple #[r13,(Value.slice Option.none 0 0),fa_]) w12) (lo w11 22 t3 fun t32=>ca xr #[t32] w11 fun t33 w14=>
 pe t33 0 fun _t34=>pe t33 1 fun t35=>bt .neq 32 t35 (i6 0) fun t37=>za (fun K15=>gIf t37 false (pp (Instr.makeFunc (.func 54) #[] #[t3]) fun t40=>ca yc #[t1,t40] w14 fun t41 w19=>
 K15 [t41] w19) (K15 [undef] w14)) (fun s16 _d17 w18=>
 zb t37 tr_ (s16.getD 0 undef) fun t42=>zc t42 (lo w18 31 t6 fun t43=>so w18 31 t6 t43 fun w20=>pq w20 (zf 31 t6) fun r21=>K (.tuple #[r21,(Value.slice Option.none 0 0),fa_]) w20) (fl w18 t5 47 0 3 fun t46=>xl w18 29 t1 t46 31 fun t48=>so w18 31 t6 t48 fun w22=>fl w22 t5 47 1 45 fun t50=>pp (Builtin.len_ #[45] 3 #[t50]) fun t51=>zt [(Value.slice Option.none 0 0),(i6 0)] w22 (fun s24 _d25 w26 K23=>
 bf .lss 3 (s24.getD 1 undef) t51 fun t53=>zc t53 (za (fun K27=>
 xl w26 45 t50 (s24.getD 1 undef) 82 fun t55=>za (fun K31=>
 bt .eql 82 t55 (i6 (-1)) fun t58=>za (fun K35=>gIf t58 true (fl w26 t6 31 0 28 fun t61=>bt .eql 28 t61 (Value.int .u8 3) fun t62=>K35 [t62] w26) (K35 [undef] w26)) (fun s36 _d37 w38=>
 zb t58 (s36.getD 0 undef) fa_ fun t63=>zc t63 (K31 [(s24.getD 0 undef),(i6 1)] w38) (bt .eql 82 t55 (i6 (-1)) fun t66=>za (fun K39=>gIf t66 true (fl w38 t6 31 0 28 fun t69=>bt .eql 28 t69 (Value.int .u8 4) fun t70=>K39 [t70] w38) (K39 [undef] w38)) (fun s40 _d41 w42=>
 zb t66 (s40.getD 0 undef) fa_ fun t71=>za (fun K43=>gIf t71 true (fl w42 t6 31 1 4 fun t74=>K43 [t74] w42) (K43 [undef] w42)) (fun s44 _d45 w46=>
 zb t71 (s44.getD 0 undef) fa_ fun t75=>zc t75 (K31 [(s24.getD 0 undef),(i6 2)] w46) (bt .eql 82 t55 (i6 (-1)) fun t78=>za (fun K47=>gIf t78 true (fl w46 t6 31 0 28 fun t81=>bt .eql 28 t81 (Value.int .u8 4) fun t82=>K47 [t82] w46) (K47 [undef] w46)) (fun s48 _d49 w50=>
 zb t78 (s48.getD 0 undef) fa_ fun t83=>zc t83 (K31 [(s24.getD 0 undef),(i6 3)] w50) (fl w50 t6 31 0 28 fun t86=>bt .neq 28 t86 (Value.int .u8 5) fun t87=>za (fun K51=>gIf t87 false (bt .lss 82 t55 (i6 0) fun t90=>K51 [t90] w50) (K51 [undef] w50)) (fun s52 _d53 w54=>
 zb t87 tr_ (s52.getD 0 undef) fun t91=>za (fun K55=>gIf t91 false (lo w54 22 t3 fun t94=>fl w54 t6 31 3 3 fun t96=>px 22 t94 t96 fun t97=>fl w54 t97 64 1 62 fun t99=>pp (Builtin.len_ #[62] 3 #[t99]) fun t100=>bf .geq 3 t55 t100 fun t101=>K55 [t101] w54) (K55 [undef] w54)) (fun s56 _d57 w58=>
 zb t91 tr_ (s56.getD 0 undef) fun t102=>zc t102 (pp (Instr.build 31 #[]) fun t103=>so w58 31 t6 t103 fun w59=>pq w59 (zf 31 t6) fun r60=>K (.tuple #[r60,(Value.slice Option.none 0 0),fa_]) w59) (K31 [(s24.getD 0 undef),(i6 0)] w58))))))))))) (fun s32 _d33 w34=>
 pw w34 (Instr.buildSlice 39 1 #[(0,(s32.getD 1 undef))]) fun t106 w61=>
 pw w61 (Builtin.append_ #[39,39] 39 #[(s32.getD 0 undef),t106]) fun t107 w62=>
 bt .eql 3 (s32.getD 1 undef) (i6 0) fun t109=>zc t109 (lo w62 22 t3 fun t110=>fl w62 t6 31 3 3 fun t112=>px 22 t110 t112 fun t113=>fl w62 t113 64 1 62 fun t115=>px 62 t115 t55 fun t117=>fl w62 t117 105 1 31 fun t119=>so w62 31 t6 t119 fun w63=>K27 [t107] w63) (fl w62 t6 31 4 29 fun t121=>xl w62 29 t121 (i6 0) 31 fun t123=>so w62 31 t6 t123 fun w64=>K27 [t107] w64))) (fun s28 _d29 w30=>
 bt .add 3 (s24.getD 1 undef) (i6 1) fun t124=>K23 [(s28.getD 0 undef),t124] w30)) (lo w26 31 t6 fun t125=>so w26 31 t6 t125 fun w65=>pq w65 (zf 31 t6) fun r66=>K (.tuple #[r66,(s24.getD 0 undef),tr_]) w65)))))))
theorem abJ {t0 t1 t2 : Value} {w : World} {K : VW} (h : Qv t0 t1 t2 w K) : ze prog je #[t0,t1,t2] w K:=
 okC false (.s (.r (rz 5 0 42)) (.s (.s (.r (ra 4 0 4 (.grp 17 false (ri 5 4 4) [22] (ra 2 9 0 (.grp 24 false (ri 4 11 4) [28] (rz 1 15 0)))))) (.c (.s (.r (rz 4 0 9)) (.n)) (.n))) (.s (.s (.r (rz 7 0 9)) (.s (.r (ra 3 0 0 (.grp 38 false (ri 3 3 32) [41] (rz 1 6 0)))) (.c (.s (.r (rz 4 0 9)) (.n)) (.n)))) (.s (.r (rz 6 0 2320)) (.s (.s (.r (rz 4 0 4)) (.b (.lp [7,52] (.s (.r (rz 1 0 0)) (.s (.c (.n) (.n)) (.j [7] (.b (.s (.r (rz 3 0 4)) (.s (.r (rz 1 0 0)) (.j [7,13] (.b (.s (.r (ra 3 0 0 (.grp 59 true (ri 3 3 4) [62] (rz 2 6 0)))) (.c (.r (rz 1 0 0)) (.s (.r (ra 3 0 0 (.grp 67 true (ri 3 3 4) [70] (ra 2 6 0 (.grp 72 true (ri 2 8 4) [74] (rz 2 10 0)))))) (.c (.r (rz 1 0 0)) (.s (.r (ra 3 0 0 (.grp 79 true (ri 3 3 4) [82] (rz 2 6 0)))) (.c (.r (rz 1 0 0)) (.s (.r (ra 4 0 4 (.grp 88 false (ri 2 4 0) [90] (ra 2 6 0 (.grp 92 false (ri 9 8 4164) [101] (rz 2 17 0)))))) (.c (.s (.r (rz 4 0 8)) (.n)) (.n)))))))))) (.s (.r (rz 5 0 160)) (.s (.r (rz 2 0 0)) (.c (.r (rz 11 0 2360337)) (.r (rz 5 0 580))))))))) (.r (rz 2 0 0)))))))) (.s (.r (rz 5 0 33)) (.n))))))) func41 rfl (by kernel_rfl) (by kernel_rfl) h
def Y3 (t0 t1 : Value) (w : World) (K : VW) : Prop:=
 pw w (Instr.box 31 t0) fun t2 w1=>
 lo w1 22 t1 fun t4=>lo w1 31 t2 fun t5=>ca kg #[t4,t5] w1 fun t6 w2=>
 pp (Op.unary .not t6) fun t7=>K t7 w2
theorem VU {t0 t1 : Value} {w : World} {K : VW} (h : Y3 t0 t1 w K) : ze prog aal #[t0,t1] w K:=
 okC false (.s (.r (rz 2 0 2)) (.s (.r (rz 5 0 37)) (.n))) func54 rfl (by kernel_rfl) (by kernel_rfl) h
end Go.Proofs.Tryz
end
