/-
  Contracts: Structs, May, Words, Drops of package types.
  Contracts: the document's answer: plain, endless, words, Structs, May, Words, Drops, Copies.
  Contracts: the document's answer: endless, Structs, May, Words, Drops.
  Contracts: fits; a struct's fields in new memory, of both sides.
  A law's end: the answer is true, the input reads as it did.
  Whatever an argument reads as, it is a datum: one theorem for all types of numbers, texts, structs and slices.
  Lists in memory, of whatever things: what a slice tells, read and grown.
  Data that are of a type, taken apart; what slices of data tell.
  Programs as graphs, as data; what a memory tells of them.
  A step of a kind, told by its kind alone.
  Texts of places, operands and points: as plain lists of bytes; how long they are.
  Nothing of this is in the seat; what it leans on.
  Shallow readings of functions. Made by a program (wip/gen/gen.py) out of the translation; the kernel checks each equality.
  A strings.Builder that a call has made itself: what it holds, and what it tells.
  Shallow readings of functions. Made by a program (wip/gen/gen.py) out of the translation; the kernel checks each equality.
  Texts of places and operands, of both sides.
  Texts of operands and of lists of operands, of both sides.
  Which programs may be: the plain law.
  Which programs may be: what is walked may be, plain facts.
  Regions of a graph: the plain law.
  Regions of a type turned, erased: step by step.
  Contracts: zero, the type of a place of a graph.
  Contracts: the type of an operand of a graph.
  Contracts: which fields a point may have.
  Contracts: the functions that stand in point.
  Shallow readings of functions. Made by a program (wip/gen/gen.py) out of the translation; the kernel checks each equality.
  Contracts: regions of a type turned, erased, of both sides.
  Regions laid anew and numbered twice; words and drops of fields: the plain laws.
  Regions numbered: plain facts, one by one.
  Heads of graphs: plain facts, and what the tables hold.
  Contracts: what types imply.
  Contracts: what outlives what.
  Elements of rows of one's own written over.
  Contracts: places among types: walk, May, Type.
  A map of strings of one's own: made, filled, asked.
  Contracts: whether a point is as it must be.
  Which programs may be: what it tells when one may.
  Contracts: heads of graphs; Check and May of graph.
  Contracts: the regions of a function, numbered.
  Contracts: all regions of a function; Of, Width.
-/
import Derived.Test.YtmkfelgocedohaaGreatQNb
import Derived.Test.YtmkfelgocedohaaGreatQNa
import Derived.ChangeSame
import Derived.ChangeStays
import Derived.ReadAgain
import Derived.ProofKit
import Derived.OpenShut
import Derived.Deep.DeepHandedRow
import Derived.Lib.LaidTab
import Derived.Lib.SmallJoins
import Derived.ChangeArms
import Derived.DataReads
import Derived.Lib.ItoaLen
import Derived.Shelf.Strings.Builder1
import Derived.Shelf.Strings.OnBuilder
import Derived.Shelf.Small.Wraps
import Derived.Shelf.Strconv.Itoa3
import Derived.Shelf.Strconv.Itoa4
import Derived.Shelf.Slices.CompactI
import Derived.Test.YtmkfelgocedohaaGreatProg
import Derived.MapKept
section
namespace Go.Proofs
open Go.Sh
set_option maxRecDepth 100000
set_option linter.unusedSimpArgs false
set_option linter.unusedVariables false
theorem jE {X : Nat→Prop} {w0 : World} {r : Gh} {L : List Asr} {n : Nat} {q : Nat→Bool} {fv : Value} (hn : n≤1000)
  (hf : ∀ (i : Nat),i<n→∀ {w : World} {K : Value→World→Prop},StX X w0 r w L→(∀ w',StX X w0 r w' L→K (.bool (q i)) w')→zW Tryz.prog fv #[.int .i64 i] w K) {w : World} {K : Value→World→Prop} (S : StX X w0 r w L)
  (h : ∀ w',StX X w0 r w' L→K (.int .i64 (xj n q)) w') : ze Tryz.prog Tryz.jw #[.int .i64 n,fv] w K:=by
 refine Tryz.Jg ?_
 unfold Tryz.Yf
 refine zh (ι:=Nat) (fun i=>[.int .i64 i]) (fun i w'=>i≤n∧(∀ j,j<i→q j=false)∧StX X w0 r w' L) (fun i=>n - i) 0 rfl ⟨Nat.zero_le _,fun j hj=>by omega,S⟩ ?_
 clear S
 rintro i d w1 ⟨hi,hq,S⟩ K6 hK6
 rw [List.getD_cons_zero]
 refine gP_ ?_
 refine c_b (fun hlt=>?_) (fun hge=>?_)
 ·have hlt : i<n:=by simpa using hlt
  refine hf i hlt S fun w2 S=>?_
  refine c_b (fun hy=>?_) (fun hno=>?_)
  ·have:=h _ S
   rwa [acm hlt hy hq] at this
  ·refine gP_ ?_
   rw [show ((i : Int)+1)=((i+1 : Nat) : Int) by omega]
   refine hK6 (i+1) _ ⟨hlt,fun j hj=>?_,S⟩ (by omega)
   by_cases hji : j=i
   ·rw [hji];exact hno
   ·exact hq j (by omega)
 ·have hge : i=n:=by
   have : ¬ i<n:=by simpa using hge
   omega
  have:=h _ S
  rwa [acl (fun j hj=>hq j (by omega))] at this
theorem js {X : Nat→Prop} {w0 : World} {r s : Gh} {L : List Asr} {p : Option Addr} {cap : Nat} {fs : List (ByteArray × TyD)} {g : TyD→Bool} {fv : Value} (hfl : FlG s p fs) [Le s r] (hb : fs.length≤1000000000)
  (hf : ∀ f ∈ fs,∀ {c : List Value} {w : World} {K : Value→World→Prop},c.length=5→TyG s (.agg c.toArray) f.2→StX X w0 r w L→(∀ w',StX X w0 r w' L→K (.bool (g f.2)) w')→zW Tryz.prog fv #[.agg (.string f.1::c).toArray] w K)
  {w : World} {K : Value→World→Prop} (S : StX X w0 r w L) (h : ∀ w',StX X w0 r w' L→K (.bool ((fs.map (·.2)).any g)) w') : ze Tryz.prog Tryz.zB #[.slice p fs.length cap,fv] w K:=by
 refine Tryz.xi ?_
 unfold Tryz.ym
 refine Tryz.xE ?_
 unfold Tryz.yv
 refine gP_ ?_
 refine zh (ι:=Nat) (fun i=>[.int .i64 i]) (fun i w'=>i≤fs.length∧((fs.take i).map (·.2)).any g=false∧StX X w0 r w' L) (fun i=>fs.length - i) 0 rfl ⟨Nat.zero_le _,by simp,S⟩ ?_
 clear S
 rintro i d w1 ⟨hi,hq,S⟩ K6 hK6
 rw [List.getD_cons_zero]
 refine gP_ ?_
 refine c_b (fun hlt=>?_) (fun hge=>?_)
 ·have hlt : i<fs.length:=by simpa using hlt
  obtain ⟨b2,off2,c,rfl,hcl,hcc,hty⟩:=QG hfl hlt
  refine gP_ ?_
  refine zQ (n:=6) (c:=.string fs[i].1::c) (by simp [hcl]) (fun j v hj=>by rw [Int.toNat_natCast];exact S.at (hcc j v hj)) ?_
  refine hf fs[i] (List.getElem_mem hlt) hcl hty S fun w2 S=>?_
  refine c_b (fun hy=>?_) (fun hno=>?_)
  ·refine gP_ ?_
   have:=h _ S
   have e : (fs.map (·.2)).any g=true:=List.any_eq_true.2 ⟨fs[i].2,List.mem_map.2 ⟨_,List.getElem_mem hlt,rfl⟩,hy⟩
   rw [e] at this
   rw [show decide ((i : Int)≥0)=true by simp]
   exact this
  ·refine gP_ ?_
   rw [show ((i : Int)+1)=((i+1 : Nat) : Int) by omega]
   refine hK6 (i+1) _ ⟨hlt,?_,S⟩ (by omega)
   rw [List.take_succ_eq_append_getElem hlt,List.map_append,List.any_append,hq]
   simp [hno]
 ·have hge : i=fs.length:=by
   have : ¬ i<fs.length:=by simpa using hge
   omega
  rw [hge,List.take_length] at hq
  refine gP_ ?_
  have:=h _ S
  rw [hq] at this
  exact this
theorem Xj {ss : List StD} (h : ∀ k,k<ss.length→qD ss k=false) (k : Int) : (zf ss k).length≤8:=by
 by_cases hk : k.toNat<ss.length
 ·have:=h k.toNat hk
  have e : zf ss (k.toNat : Int)=zf ss k:=by rw [zf,zf,Int.toNat_natCast]
  rw [qD,e,Bool.or_eq_false_iff,Bool.or_eq_false_iff] at this
  simp only [decide_eq_false_iff_not] at this
  omega
 ·rw [JT hk];simp
section
variable {X : Nat→Prop} {w0 w : World} {r : Gh} {L : List Asr} {ss : List StD} {p : Option Addr} {cap b1 b4 : Nat} {f1 f4 : List Value→List Asr} {K : Value→World→Prop}
theorem Xx {k : Nat} (hk : k<ss.length) (hs : StG r p ss) (S : StX X w0 r w L) [At b1 L [.slice p ss.length cap] 22 f1] [At b4 L [.int .i64 (ss.length : Nat)] 3 f4] (h : ∀ w',StX X w0 r w' L→K (.bool (qD ss k)) w') :
  zW Tryz.prog (.func (.func Tryz.xe) #[] #[.pointer (some ⟨b1,0,none⟩),.pointer (some ⟨b4,0,none⟩)]) #[.int .i64 k] w K:=by
 refine kE (by kernel_rfl) ?_
 refine Tryz.YD (t0:=.int .i64 k) (t1:=.pointer (some ⟨b1,0,none⟩)) (t2:=.pointer (some ⟨b4,0,none⟩)) ?_
 unfold Tryz.jN
 refine gL_ ?_
 obtain ⟨b,off,q,capq,rfl,hcell,hq0,hqc,hf⟩:=Ze hs hk
 refine gP_ ?_
 refine gP_ ?_
 refine zj (by rw [Int.toNat_natCast];exact S.at hcell) ?_
 refine gP_ ?_
 refine gP_ ?_
 have hlen:=JS hk
 refine zk (c:=decide (8<(zf ss k).length)) (fun _ K2 hK2=>?_) ?_
 ·refine gP_ ?_
  refine gP_ ?_
  rw [show decide ((8 : Int)<(ss[k].fs.length : Int))=decide (8<(zf ss k).length) from decide_eq_decide.2 (by omega)]
  exact hK2
 refine ZG (fun w'=>StX X w0 r w' L) (c:=(zf ss k).any fun t=>!zX ss.length 48 t||decide (0<t.regs.length)) (fun _=>S) (fun hsm2 K2 hK2=>?_) fun w9 S=>?_
 ·have hsm2 : ss[k].fs.length≤8:=by
   simp only [Bool.or_eq_false_iff,decide_eq_false_iff_not] at hsm2;omega
  refine gP_ ?_
  refine js (g:=fun t=>!zX ss.length 48 t||decide (0<t.regs.length)) hf (by omega) (fun f hfm {c} {w7} {K} hcl hty S hK=>?_) S fun w8 S=>?_
  ·refine VA (by kernel_rfl) ?_
   refine Tryz.ZV ?_
   unfold Tryz.qL
   refine S.box fun b2 w8 S=>?_
   have S : StX X w0 r w8 (.cell b2 (.string f.1::c) 195::L):=S
   refine gP_ ?_
   refine S.fty hcl ?_
   refine S.ld (b:=b4) ?_ rfl
   refine vi 48 (by decide) S.holds hty fun w9 e9=>?_
   have S:=S.go e9
   refine gP_ ?_
   refine kG (c:=decide (0<f.2.regs.length)) (fun hl K2 hK2=>?_) fun w10 e10=>?_
   ·have hl : zX ss.length 48 f.2=true:=by simpa using hl
    refine gP_ ?_
    refine S.fty hcl ?_
    refine Zb S.holds hty (by have:=Xi hl;omega) fun v11 w11 e11 o11=>?_
    obtain ⟨p11,cap11,rfl,_⟩:=Yw o11
    refine gP_ ?_
    refine gP_ ?_
    rw [show decide ((f.2.regs.length : Int) > 0)=decide (0<f.2.regs.length) from decide_eq_decide.2 (by omega)]
    exact hK2 _ e11
   exact hK _ (S.go e10).tl
  ·rw [← kU hk]
   exact hK2 _ S
 ·have:=h _ S
  rw [qD] at this
  rw [show decide ((ss[k].fs.length : Int)<1)=decide ((zf ss k).length<1) from decide_eq_decide.2 (by omega)]
  exact this
theorem Xy {k : Nat} (hk : k<ss.length) (h32 : ss.length≤32) (h1 : ¬ xj ss.length (qD ss)<ss.length) (hs : StG r p ss) (S : StX X w0 r w L) [At b1 L [.slice p ss.length cap] 22 f1] (h : ∀ w',StX X w0 r w' L→K (.bool (jD ss k)) w') :
  zW Tryz.prog (.func (.func Tryz.xf) #[] #[.pointer (some ⟨b1,0,none⟩)]) #[.int .i64 k] w K:=by
 refine kE (by kernel_rfl) ?_
 refine Tryz.YE (t0:=.int .i64 k) (t1:=.pointer (some ⟨b1,0,none⟩)) ?_
 unfold Tryz.jO
 refine gL_ ?_
 exact QH (Jo (kn h1)) h32 hk (fun k=>Xj (kn h1) k) S.holds hs fun w9 e9=>h _ (S.go e9)
theorem Xz {k : Nat} (hk : k<ss.length) (h32 : ss.length≤32) (h1 : ¬ xj ss.length (qD ss)<ss.length) (h2 : ¬ xj ss.length (jD ss)<ss.length) (hs : StG r p ss) (S : StX X w0 r w L) [At b1 L [.slice p ss.length cap] 22 f1] (h : ∀ w',StX X w0 r w' L→K (.bool (X7 ss k)) w') :
  zW Tryz.prog (.func (.func Tryz.xg) #[] #[.pointer (some ⟨b1,0,none⟩)]) #[.int .i64 k] w K:=by
 refine kE (by kernel_rfl) ?_
 refine Tryz.YF (t0:=.int .i64 k) (t1:=.pointer (some ⟨b1,0,none⟩)) ?_
 unfold Tryz.jP
 refine gL_ ?_
 refine zz (cs:=#[.int .u8 5,.bool false,.int .i64 0,.int .i64 k,.slice none 0 0]) (by kernel_rfl) ?_
 have hg:=Jo (kn h1)
 refine Vg hg (aa3 hg (kn h2)) 40 (t:=.mk 5 false 0 k []) (by decide) (by have:=aex ss (.mk 5 false 0 k []);omega) ?_ (by omega) (fun k=>Xj (kn h1) k) S.holds hs (ZH (r:=r)) fun w9 e9=>?_
 ·rw [jX]
  simp [TyD.k,TyD.m,TyD.re,TyD.of,TyD.st]
  omega
 ·refine gP_ ?_
  have:=h _ (S.go e9)
  rw [X7] at this
  rw [show decide ((((min (wF ss 40 (.mk 5 false 0 k [])) 17 : Nat) : Int)) > 16)=decide (16<wF ss 40 (.mk 5 false 0 k [])) from decide_eq_decide.2 (by omega)]
  exact this
end
theorem Zf {ss : List StD} {p : Option Addr} {cap : Nat} {w : World} {r : Gh} {K : Value→World→Prop} (hr : Holds r w) (hs : StG r p ss)
  (h : ∀ w',Ext w w'→K (.tuple #[.int .i64 (zV ss).1,.int .i64 (zV ss).2]) w') : ze Tryz.prog Tryz.xS #[.slice p ss.length cap] w K:=by
 refine Tryz.X2 ?_
 unfold Tryz.vX
 have S:=St.start hr
 refine S.box fun b1 w1 S=>?_
 refine gL_ ?_
 refine gP_ ?_
 refine S.al fun b4 w2 S=>?_
 refine S.st fun w3 S=>?_
 refine gL_ ?_
 refine gP_ ?_
 refine c_b (fun hbig=>?_) (fun hsm=>?_)
 ·have hbig : 32<ss.length:=by have:=of_decide_eq_true hbig;omega
  rw [zV,if_pos hbig] at h
  exact h _ S.ext
 have hsm : ¬ 32<ss.length:=by have:=of_decide_eq_false hsm;omega
 rw [zV,if_neg hsm] at h
 refine gP_ ?_
 refine gP_ ?_
 refine gP_ ?_
 refine S.lit (e:=105) (cs:=[.func (.func Tryz.xe) #[] #[.pointer (some ⟨b1,0,none⟩),.pointer (some ⟨b4,0,none⟩)],.func (.func Tryz.xf) #[] #[.pointer (some ⟨b1,0,none⟩)],.func (.func Tryz.xg) #[] #[.pointer (some ⟨b1,0,none⟩)]]) (by kernel_rfl) fun b16 w4 S=>?_
 refine gP_ ?_
 have S : StX noX w r w4 [.cell b16 [.func (.func Tryz.xe) #[] #[.pointer (some ⟨b1,0,none⟩),.pointer (some ⟨b4,0,none⟩)],.func (.func Tryz.xf) #[] #[.pointer (some ⟨b1,0,none⟩)],.func (.func Tryz.xg) #[] #[.pointer (some ⟨b1,0,none⟩)]] 105,
  .cell b4 [.int .i64 (ss.length : Nat)] 3,.cell b1 [.slice p ss.length cap] 22]:=S
 refine zh (ι:=Nat) (fun i=>[.int .i64 i]) (fun i w'=>i≤3∧(0<i→¬ xj ss.length (qD ss)<ss.length)∧(1<i→¬ xj ss.length (jD ss)<ss.length)∧(2<i→¬ xj ss.length (X7 ss)<ss.length)∧StX noX w r w' _) (fun i=>3 - i) 0 rfl
  ⟨by decide,fun h=>by omega,fun h=>by omega,fun h=>by omega,S⟩ ?_
 clear S
 rintro i d w5 ⟨hi,h1,h2,h3,S⟩ K6 hK6
 rw [List.getD_cons_zero]
 refine gP_ ?_
 match i,hi,h1,h2,h3 with
 |0,_,_,_,_=>
  refine c_t (by decide) ?_
  refine gP_ ?_
  refine S.ld (b:=b16) ?_ rfl
  refine S.ld (b:=b4) ?_ rfl
  refine jE (q:=qD ss) (by omega) (fun i hi {w} {K} S k=>Xx hi hs S k) S fun w9 S=>?_
  refine S.ld (b:=b4) ?_ rfl
  refine gP_ ?_
  refine c_b (fun hl=>?_) (fun hl=>?_)
  ·rw [if_pos (by have:=of_decide_eq_true hl;omega)] at h
   exact h _ S.ext
  ·refine gP_ ?_
   exact hK6 1 _ ⟨by decide,fun _=>by have:=of_decide_eq_false hl;omega,fun h=>by omega,fun h=>by omega,S⟩ (by decide)
 |1,_,h1,_,_=>
  have h1:=h1 (by decide)
  rw [if_neg h1] at h
  refine c_t (by decide) ?_
  refine gP_ ?_
  refine S.ld (b:=b16) ?_ rfl
  refine S.ld (b:=b4) ?_ rfl
  refine jE (q:=jD ss) (by omega) (fun i hi {w} {K} S k=>Xy hi (by omega) h1 hs S k) S fun w9 S=>?_
  refine S.ld (b:=b4) ?_ rfl
  refine gP_ ?_
  refine c_b (fun hl=>?_) (fun hl=>?_)
  ·rw [if_pos (by have:=of_decide_eq_true hl;omega)] at h
   exact h _ S.ext
  ·refine gP_ ?_
   exact hK6 2 _ ⟨by decide,fun _=>h1,fun _=>by have:=of_decide_eq_false hl;omega,fun h=>by omega,S⟩ (by decide)
 |2,_,h1,h2,_=>
  have h1:=h1 (by decide)
  have h2:=h2 (by decide)
  rw [if_neg h1,if_neg h2] at h
  refine c_t (by decide) ?_
  refine gP_ ?_
  refine S.ld (b:=b16) ?_ rfl
  refine S.ld (b:=b4) ?_ rfl
  refine jE (q:=X7 ss) (by omega) (fun i hi {w} {K} S k=>Xz hi (by omega) h1 h2 hs S k) S fun w9 S=>?_
  refine S.ld (b:=b4) ?_ rfl
  refine gP_ ?_
  refine c_b (fun hl=>?_) (fun hl=>?_)
  ·rw [if_pos (by have:=of_decide_eq_true hl;omega)] at h
   exact h _ S.ext
  ·refine gP_ ?_
   exact hK6 3 _ ⟨by decide,fun _=>h1,fun _=>h2,fun _=>by have:=of_decide_eq_false hl;omega,S⟩ (by decide)
 |3,_,h1,h2,h3=>
  have h1:=h1 (by decide)
  have h2:=h2 (by decide)
  have h3:=h3 (by decide)
  rw [if_neg h1,if_neg h2,if_neg h3] at h
  refine c_f (by decide) ?_
  exact h _ S.ext
noncomputable def xk (ss : List StD) (t : TyD) : Bool:=decide ((zV ss).2=0)&&zX ss.length 48 t
theorem V7 {ss : List StD} {t : TyD} (h : xk ss t=true) : (zV ss).2=0∧zX ss.length 48 t=true:=by
 simpa [xk] using h
theorem Zs {ss : List StD} {t : TyD} {p : Option Addr} {cap : Nat} {w : World} {r : Gh} {v : Value} {K : Value→World→Prop} (hr : Holds r w) (hs : StG r p ss) (hv : TyG r v t)
  (h : ∀ w',Ext w w'→K (.bool (xk ss t)) w') : ze Tryz.prog Tryz.kH #[.slice p ss.length cap,v] w K:=by
 refine Tryz.V1 ?_
 unfold Tryz.XM
 have hv0:=hv
 obtain ⟨p1,cap1,rfl,_⟩:=hv
 have S:=St.start hr
 refine S.box fun b3 w1 S=>?_
 refine Zf S.holds hs fun w2 e2=>?_
 have S:=S.go e2
 refine gP_ ?_
 refine gP_ ?_
 refine gP_ ?_
 refine zF (c:=zX ss.length 48 t) (fun _ K2 hK2=>?_) fun w3 e3=>h _ (S.go e3).ext
 refine gL_ ?_
 refine gP_ ?_
 exact vi 48 (by decide) S.holds hv0 fun w3 e3=>hK2 _ e3
theorem Vh {ss : List StD} {p : Option Addr} {cap : Nat} (hg : qC ss) (hac : ∀ k,¬ Rch ss k k) : ∀ (m : Nat) {t : TyD} {w : World} {r : Gh} {v : Value} {K : Value→World→Prop},m≤100→rkT ss t≤m→zX ss.length 48 t=true→ss.length≤32→(∀ k,(zf ss k).length≤8)→
  Holds r w→StG r p ss→TyG r v t→(∀ w',Ext w w'→K (.bool (dF ss m t)) w')→ze Tryz.prog Tryz.kR #[.slice p ss.length cap,v] w K:=by
 intro m
 induction m with
 |zero=>
  intro t w r v K _ hrk hl h32 h8 hr hs hv h
  have h5 : ¬ t.k=5:=fun h=>by unfold rkT at hrk;rw [if_pos h] at hrk;omega
  refine Tryz.ZE ?_
  unfold Tryz.jC
  obtain ⟨p1,cap1,rfl,_⟩:=hv
  have S:=St.start hr
  refine S.box fun b2 w1 S=>?_
  refine S.box fun b3 w2 S=>?_
  refine gG_ ?_
  refine c_b (fun h3=>?_) (fun h3=>?_)
  ·have:=h _ S.ext
   rwa [dF,h3] at this
  ·refine gG_ ?_
   refine c_b (fun h5'=>absurd (of_decide_eq_true h5') h5) (fun _=>?_)
   have:=h _ S.ext
   rwa [dF,h3] at this
 |succ m ih=>
  intro t w r v K hm hrk hl h32 h8 hr hs hv h
  refine Tryz.ZE ?_
  unfold Tryz.jC
  obtain ⟨p1,cap1,rfl,_⟩:=hv
  have S:=St.start hr
  refine S.box fun b2 w1 S=>?_
  refine S.box fun b3 w2 S=>?_
  refine gG_ ?_
  refine c_b (fun h3=>?_) (fun h3=>?_)
  ·have:=h _ S.ext
   have h3':=of_decide_eq_true h3
   rwa [dF,if_neg (by omega),h3] at this
  refine gG_ ?_
  refine c_b (fun h5=>?_) (fun h5=>?_)
  ·have h5 : t.k=5:=of_decide_eq_true h5
   obtain ⟨hst0,hst1,_⟩:=ZJ hl h5
   have hlt : t.st.toNat<ss.length:=by omega
   obtain ⟨b,off,q,capq,rfl,hcell,_,_,hf⟩:=Ze hs hlt
   refine gG_ ?_
   refine zj (S.at hcell) ?_
   have htl : zf ss t.st=ss[t.st.toNat].fs.map (·.2):=by
    rw [← kU hlt];simp only [zf,Int.toNat_natCast]
   have hlen : (zf ss t.st).length=ss[t.st.toNat].fs.length:=by rw [htl,List.length_map]
   have h88:=h8 t.st
   refine gP_ ?_
   refine js (g:=dF ss m) hf (by omega) (fun f hfm {c} {w7} {K} hcl hty S hK=>?_) S fun w8 S=>?_
   ·refine VA (by kernel_rfl) ?_
    refine Tryz.X5 ?_
    unfold Tryz.Za
    refine S.box fun b4 w8 S=>?_
    have S : StX noX w r w8 (.cell b4 (.string f.1::c) 195::_):=S
    refine S.ld (b:=b2) ?_ rfl
    refine gP_ ?_
    refine S.fty hcl ?_
    have hmem : f.2 ∈ zf ss t.st:=by rw [htl];exact List.mem_map.2 ⟨f,hfm,rfl⟩
    have hrk2:=aey hg hac h5 hmem
    exact ih (by omega) (by omega) (hg _ _ hmem) h32 h8 S.holds hs hty fun w5 e5=>hK _ (S.go e5).tl
   ·rw [dF,if_pos h5,htl] at h
    exact h _ S.ext
  ·have:=h _ S.ext
   rwa [dF,if_neg (of_decide_eq_false h5),h3] at this
noncomputable def vk (ss : List StD) (t : TyD) : Bool × Int:=if xk ss t then (dF ss 40 t,0) else (false,2)
theorem Vi {ss : List StD} {t : TyD} {p : Option Addr} {cap : Nat} {w : World} {r : Gh} {v : Value} {K : Value→World→Prop} (hr : Holds r w) (hs : StG r p ss) (hv : TyG r v t)
  (h : ∀ w',Ext w w'→K (.tuple #[.bool (vk ss t).1,.int .i64 (vk ss t).2]) w') : ze Tryz.prog Tryz.jx #[.slice p ss.length cap,v] w K:=by
 refine Tryz.Ji ?_
 unfold Tryz.Yh
 have hv0:=hv
 obtain ⟨p1,cap1,rfl,_⟩:=hv
 have S:=St.start hr
 refine S.box fun b3 w1 S=>?_
 refine gL_ ?_
 refine Zs S.holds hs hv0 fun w2 e2=>?_
 have S:=S.go e2
 refine gP_ ?_
 refine c_b (fun hn=>?_) (fun hn=>?_)
 ·have hn : xk ss t=false:=by simpa using hn
  rw [vk,hn] at h
  exact h _ S.ext
 have hn : xk ss t=true:=by simpa using hn
 rw [vk,if_pos hn] at h
 obtain ⟨hok,hl⟩:=V7 hn
 obtain ⟨h32,hb1,hg,hac,_,_⟩:=ZX hok
 refine gL_ ?_
 refine Vh hg hac 40 (by decide) (by have:=aex ss t;omega) hl h32 (Xj hb1) S.holds hs hv0 fun w3 e3=>h _ (S.go e3).ext
end Go.Proofs
end
section
namespace Go.Proofs
open Go.Sh
set_option maxRecDepth 100000
set_option linter.unusedSimpArgs false
set_option linter.unusedVariables false
end Go.Proofs
end
section
namespace Go.Proofs
open Go.Sh
set_option maxRecDepth 100000
set_option linter.unusedSimpArgs false
set_option linter.unusedVariables false
end Go.Proofs
end
section
namespace Go.Proofs
open Go.Sh
set_option maxRecDepth 100000
set_option linter.unusedSimpArgs false
set_option linter.unusedVariables false
def un (gs : Nat→Gh) (i n : Nat) : Gh:=fun b o=>∃ j,i≤j∧j<n∧gs j b o
structure afB (top : Gh) (gs : Nat→Gh) (q : Option Addr) (ts : List TyD) : Prop where
 at' : ∀ (i : Nat) (hi : i<ts.length),∃ (b off : Nat) (c : List Value),q=some ⟨b,off,none⟩∧c.length=5∧(∀ j v,c[j]? = some v→Ob top fun w=>w.cell? ⟨b,off+i*5+j,none⟩=some v)∧TyG (gs i) (.agg c.toArray) ts[i]∧Jn (gs i) (.agg c.toArray) ts[i]
 dis : ∀ i j,i≠j→i<ts.length→j<ts.length→Dis (gs i) (gs j)
 dtop : ∀ i,i<ts.length→Dis (gs i) top
def TysG (s : Gh) (q : Option Addr) (ts : List TyD) : Prop:=
 ∀ (i : Nat) (hi : i<ts.length),∃ (b off : Nat) (c : List Value),q=some ⟨b,off,none⟩∧c.length=5∧(∀ j v,c[j]? = some v→Ob s fun w=>w.cell? ⟨b,off+i*5+j,none⟩=some v)∧TyG s (.agg c.toArray) ts[i]
theorem ChnL.frz2 {X : Nat→Prop} {w0 w : World} {c : List Value} {t : TyD} {N : List Asr} (h : ChnL c t N) : ∀ {r : Gh} {L : List Asr},StX X w0 r w (N++L)→
  ∃ sn,StX X w0 (r.or sn) w L∧TyG sn (.agg c.toArray) t∧Jn sn (.agg c.toArray) t∧(∀ b o,sn b o→w0.heap.size≤b∨X b)∧Dis sn r:=by
 induction h with
 |nil=>
  intro r L S
  exact ⟨nothing,S.to _,ZH,.nil,fun _ _ h=>h.elim,fun _ _ _ h=>h.elim⟩
 |@one b c k re st m u N hu ih=>
  intro r L S
  have S : StX X w0 r w (N++(.cell b c 138::L)):=S.perm List.perm_middle.symm
  have hm0:=S.mine (.cell b c 138) (by simp) b rfl
  obtain ⟨sn,S,ht,hg,hf,hd⟩:=ih S
  have hm:=S.mine (.cell b c 138) (by simp) b rfl
  have S:=S.frz
  refine ⟨sn.or (Go.Sh.one b c 138),S.to _,afz ht,.one (fun o ho=>hm.2 o (.inr ho)) hu.len ht hg,fun b' o ho=>?_,fun b' o o' ho hr=>?_⟩
  ·rcases ho with ho|⟨rfl,_⟩
   ·exact hf b' o ho
   ·exact hm.1
  ·rcases ho with ho|⟨rfl,_⟩
   ·exact hd b' o o' ho hr
   ·exact hm0.2 o' hr
theorem aeK {c : List Value} {t : TyD} {N : List Asr} (h : ChnL c t N) : VR Tryz.prog 34 1 #[(0,.agg c.toArray)]=some (138,c):=by
 cases h<;>kernel_rfl
noncomputable def xM (ss : List StD) (t : TyD) : List TyD × Int:=if xk ss t&&decide (t.k=5) then (zf ss t.st,0) else ([],2)
theorem Jp {ss : List StD} {t : TyD} {p : Option Addr} {cap : Nat} {w : World} {r : Gh} {v : Value} {K : Value→World→Prop} (hr : Holds r w) (hs : StG r p ss) (hv : TyG r v t)
  (h : ∀ q cp top gs w',Ext w w'→New w (top.or (un gs 0 (xM ss t).1.length)) w'→afB top gs q (xM ss t).1→(xM ss t).1.length≤cp→K (.tuple #[.slice q (xM ss t).1.length cp,.int .i64 (xM ss t).2]) w') : ze Tryz.prog Tryz.qR #[.slice p ss.length cap,v] w K:=by
 refine Tryz.QE ?_
 unfold Tryz.ZC
 have hv0:=hv
 obtain ⟨p1,cap1,rfl,_⟩:=hv
 have S:=St.start hr
 refine S.box fun b3 w1 S=>?_
 refine gL_ ?_
 refine Zs S.holds hs hv0 fun w2 e2=>?_
 have S:=S.go e2
 refine gP_ ?_
 refine zk (c:=decide (t.k≠5)) (fun _ K2 hK2=>?_) ?_
 ·refine gG_ ?_
  exact hK2
 refine c_b (fun hn=>?_) (fun hn=>?_)
 ·have hn : (xk ss t&&decide (t.k=5))=false:=by
   cases hm : xk ss t
   ·rfl
   ·rw [hm] at hn;simpa using hn
  rw [xM,hn] at h
  exact h none 0 nothing (fun _=>nothing) _ S.ext ⟨fun b o ho=>by rcases ho with ho|⟨_,_,_,ho⟩<;>exact ho.elim,fun b o ho=>by rcases ho with ho|⟨_,_,_,ho⟩<;>exact ho.elim⟩
   ⟨fun i hi=>by simp at hi,fun i j _ hi=>by simp at hi,fun i hi=>by simp at hi⟩ (Nat.le_refl _)
 have hn : xk ss t=true∧t.k=5:=by
  cases hm : xk ss t
  ·rw [hm] at hn;simp at hn
  ·rw [hm] at hn;exact ⟨rfl,by simpa using hn⟩
 obtain ⟨hm,h5⟩:=hn
 rw [xM,hm,decide_eq_true h5] at h
 simp only [Bool.and_true,if_true] at h
 obtain ⟨hok,hl⟩:=V7 hm
 obtain ⟨h32,hb1,hg,hac,_,_⟩:=ZX hok
 obtain ⟨hst0,hst1,_⟩:=ZJ hl h5
 have hlt : t.st.toNat<ss.length:=by omega
 obtain ⟨b,off,q,capq,rfl,hcell,_,_,hf⟩:=Ze hs hlt
 have htl : zf ss t.st=ss[t.st.toNat].fs.map (·.2):=by
  rw [← kU hlt];simp only [zf,Int.toNat_natCast]
 have hlen : (zf ss t.st).length=ss[t.st.toNat].fs.length:=by rw [htl,List.length_map]
 have h88:=Xj hb1 t.st
 refine gG_ ?_
 refine zj (S.at hcell) ?_
 refine gP_ ?_
 have S:=S.tl
 have S:=S.ownNil 138 5
 have S:=S.to (r.or (un (fun _=>nothing) 0 0)) (l:=⟨fun b o ho=>by rcases ho with ho|⟨_,_,h2,_⟩;exact ho;omega⟩)
 refine zh (ι:=Nat × Value × List Value × (Nat→Gh)) (fun i=>[i.2.1,.int .i64 i.1]) (fun i w'=>i.1≤(zf ss t.st).length∧i.2.2.1.length=i.1*5∧
   (∀ j (hj : j<(zf ss t.st).length),j<i.1→((i.2.2.1.drop (j*5)).take 5).length=5∧TyG (i.2.2.2 j) (.agg ((i.2.2.1.drop (j*5)).take 5).toArray) (zf ss t.st)[j]∧Jn (i.2.2.2 j) (.agg ((i.2.2.1.drop (j*5)).take 5).toArray) (zf ss t.st)[j])∧
   (∀ j,j<i.1→∀ b o,i.2.2.2 j b o→w.heap.size≤b)∧(∀ j k,j≠k→j<i.1→k<i.1→Dis (i.2.2.2 j) (i.2.2.2 k))∧StX noX w (r.or (un i.2.2.2 0 i.1)) w' [.row i.2.1 138 5 i.1 i.2.2.1])
  (fun i=>(zf ss t.st).length - i.1) (0,.slice none 0 0,[],fun _=>nothing) rfl ⟨Nat.zero_le _,rfl,fun j _ hj=>by omega,fun j hj=>by omega,fun j k _ hj=>by omega,S⟩ ?_
 clear S
 rintro ⟨i,v,xs,gs⟩ d w3 ⟨hi,hxl,hel,hfr,hdis,S⟩ K7 hK7
 simp only at hi hxl hel hfr hdis S ⊢
 rw [List.getD_cons_zero,List.getD_cons_succ,List.getD_cons_zero]
 refine gP_ ?_
 refine c_b (fun hlt2=>?_) (fun hge=>?_)
 ·have hlt2 : i<ss[t.st.toNat].fs.length:=by simpa using hlt2
  have hlt3 : i<(zf ss t.st).length:=by omega
  have hel2 : (zf ss t.st)[i]=ss[t.st.toNat].fs[i].2:=by simp only [htl,List.getElem_map]
  have hmem : ss[t.st.toNat].fs[i].2 ∈ zf ss t.st:=by rw [← hel2];exact List.getElem_mem hlt3
  obtain ⟨b2,off2,c,rfl,hcl,hcc,hty⟩:=QG hf hlt2
  refine gP_ ?_
  refine zQ (n:=6) (c:=.string ss[t.st.toNat].fs[i].1::c) (by simp [hcl]) (fun j v hj=>by rw [Int.toNat_natCast];exact S.at (hcc j v hj)) ?_
  refine S.al fun b8 w4 S=>?_
  refine S.stB (b:=b8) (cs:=(Value.string ss[t.st.toNat].fs[i].1::c).toArray) (fun w5 S=>?_) rfl (by simp [hcl]) (X8 hty)
  refine gP_ ?_
  refine S.fty hcl ?_
  refine aaI (s:=ss.length) 48 (by decide) (hg _ _ hmem) S.tl hty.up fun c' N w6 hch S=>?_
  have hcl':=hch.len
  have hone':=hch.ones
  obtain ⟨sn,S,ht,hcg,hfn,hdn⟩:=hch.frz2 S
  refine S.lit (e:=138) (cs:=c') (aeK hch) fun b33 w7 S=>?_
  refine S.ap (m':=1) (Sl.blk (S.blk b33)) (fun v34 w8 S=>?_) (by omega) (by omega) (by simp) hone'
  have S:=S.tl
  refine gP_ ?_
  rw [show ((i : Int)+1)=((i+1 : Nat) : Int) by omega]
  refine hK7 (i+1,v34,xs++c',fun j=>if j=i then sn else gs j) _ ⟨hlt3,by simp only [List.length_append];omega,fun j hj hji=>?_,fun j hj b o ho=>?_,fun j k hjk hj hk=>?_,?_⟩ (by simp only;omega)
  ·by_cases hji' : j=i
   ·subst hji'
    simp only [if_true]
    have e : ((xs++c').drop (j*5)).take 5=c':=by
     rw [← hxl,List.drop_left',List.take_of_length_le (by omega)];rfl
    rw [e,hel2]
    exact ⟨hcl',ht,hcg⟩
   ·simp only [if_neg hji']
    have e : ((xs++c').drop (j*5)).take 5=(xs.drop (j*5)).take 5:=by
     rw [List.drop_append_of_le_length (by omega),List.take_append_of_le_length (by rw [List.length_drop];omega)]
    rw [e]
    exact hel j hj (by omega)
  ·simp only at ho
   split at ho
   ·exact (hfn b o ho).elim id fun h=>h.elim
   ·exact hfr j (by omega) b o ho
  ·simp only
   by_cases h1 : j=i
   ·rw [if_pos h1,if_neg (by omega)]
    exact fun b o o' ho ho'=>hdn b o o' ho (.inr ⟨k,Nat.zero_le _,by omega,ho'⟩)
   ·rw [if_neg h1]
    by_cases h2 : k=i
    ·rw [if_pos h2]
     exact fun b o o' ho ho'=>hdn b o' o ho' (.inr ⟨j,Nat.zero_le _,by omega,ho⟩)
    ·rw [if_neg h2]
     exact hdis j k hjk (by omega) (by omega)
  ·simp only
   exact S.to _ (l:=⟨fun b o ho=>by
    rcases ho with ho|⟨j,_,hj,ho⟩
    ·exact .inl (.inl ho)
    ·split at ho
     ·exact .inr ho
     ·exact .inl (.inr ⟨j,Nat.zero_le _,by omega,ho⟩)⟩)
 ·have hge : i=(zf ss t.st).length:=by
   have : ¬ i<ss[t.st.toNat].fs.length:=by simpa using hge
   omega
  subst hge
  have hpos : (zf ss t.st).length≠0:=by
   have:=hb1 t.st.toNat hlt
   have e : zf ss (t.st.toNat : Int)=zf ss t.st:=by rw [zf,zf,Int.toNat_natCast]
   rw [qD,e,Bool.or_eq_false_iff,Bool.or_eq_false_iff] at this
   simp only [decide_eq_false_iff_not] at this
   omega
  obtain ⟨b9,cap9,c9,rfl,hc9,hcl9,htk9,S⟩:=S.rowCell v hpos
  have hm9:=S.mine (.cell b9 c9 138) (by simp) b9 rfl
  have S:=S.frz
  refine h _ _ (Go.Sh.one b9 c9 138) gs _ S.ext ⟨S.holds.le (h:=⟨fun b o ho=>by
   rcases ho with ho|ho
   ·exact .inr ho
   ·exact .inl (.inr ho)⟩),fun b o ho=>?_⟩ ⟨fun j hj=>?_,fun j k hjk hj hk=>hdis j k hjk hj hk,fun j hj b o o' ho ho'=>?_⟩ hc9
  ·rcases ho with ⟨rfl,_⟩|⟨j,_,hj,ho⟩
   ·exact hm9.1.resolve_right id
   ·exact hfr j hj b o ho
  ·obtain ⟨h1,h2,h3⟩:=hel j hj hj
   refine ⟨b9,0,_,rfl,h1,fun k v hk w' hw=>?_,h2,h3⟩
   have B:=xK (b:=b9) (c:=c9) (T:=138) w' hw
   show w'.cell? _=some v
   rw [Nat.zero_add,B.cell]
   have hk5 : k<5:=by have:=(List.getElem?_eq_some_iff.1 hk).1;omega
   rw [List.getElem?_take,if_pos hk5,List.getElem?_drop,← htk9,List.getElem?_take] at hk
   split at hk
   ·exact hk
   ·cases hk
  ·obtain ⟨rfl,_⟩:=ho'
   exact hm9.2 o (.inr ⟨j,Nat.zero_le _,hj,ho⟩)
end Go.Proofs
end
section
namespace Go.Sh
open Go.ChangeShapes Go.WideShapes Go.ChangeAt Go.RowKit
section
variable {H : Type} {enc : TypeId × Value→H} {P : Program}
theorem adL {W W' : World} (e : Ext W W') {p : MemPlace} (hp : p.block<W.heap.size) : W.sameAt W' p:=Below.same e hp
theorem XN {W W' : World} (e : Ext W W') (K : Kids P (· < P.types.size)) (hz : ∀ t e,t<P.types.size→P.underlying t=some (.slice e)→0<P.cellsOf e) {sp : Nat→Bool} :
  ∀ {ts : List TypeId} {vs : List Value} {ds : List (DataW H)} {ps : List MemPlace},(∀ t ∈ ts,t<P.types.size)→DataW.TrodAll enc P W 0 (fun _=>true) true ts vs ds ps→(∀ p ∈ ps,p.block<W.heap.size)→(∀ p ∈ ps,sp p.block=true)→
   DataW.TrodAll enc P W' 0 sp true ts vs ds ps
 |[],[],[],_,_,h,_,_=>h
 |_::_,_::_,_::_,_,hT,⟨p,q,⟨n,h1⟩,h2,he⟩,hl,hs=>
  ⟨p,q,⟨n,DataW.trod_stays K (fun {t e}=>hz t e) (fun h=>by cases h) (hT _ (List.mem_cons.2 (Or.inl rfl))) h1 (fun x hx=>adL e (hl x (by rw [he];exact List.mem_append_left _ hx))) (fun x hx=>hs x (by rw [he];exact List.mem_append_left _ hx))⟩,
   XN e K hz (fun t ht=>hT t (List.mem_cons.2 (Or.inr ht))) h2 (fun x hx=>hl x (by rw [he];exact List.mem_append_right _ hx)) (fun x hx=>hs x (by rw [he];exact List.mem_append_right _ hx)),he⟩
theorem YG {f : Func} {s : ChangeSpec} {W W' : World} {args : Array Value} {ds gs : List (DataW H)} {before : List MemPlace} {tb : TypeId} {fr ho : Bool}
  (hl : laidOutB P=true) (hm : mapsRowed P=true) (hz : ((List.range P.types.size).all fun t=>match P.underlying t with|some (.slice e)=>decide (0<P.cellsOf e)|_=>true)=true)
  (hts : ∀ t ∈ f.params.toList,t<P.types.size) (hv : s.vars = []) (hrt : f.resultTypes=#[tb]) (htb : P.underlying tb=some .bool)
  (hW : DataW.Whole enc P f.params.toList s.vars false W args.toList ds gs before) (hs : s.fn H (ds++gs) = { results:=[.lit (.bool true)],args:=ds }) (e : Ext W W') :
  s.post enc P f false fr ho false W args (.bool true) W':=by
 have hW':=hW
 obtain ⟨p,q,hA,hV,rfl,hfz,hnd⟩:=hW
 rw [hv] at hV
 obtain ⟨rfl,rfl⟩:=trodVars_none hV
 have hlt:=hW'.lt
 refine ⟨ds,[],p ++ [],[],p,[],hW',?_,?_,?_,Below.frame e _,fun h=>by cases h⟩
 ·rw [hs,hrt]
  exact trodAll_mk1 (shut_bool htb _)
 ·rw [hs]
  exact XN e (kids_rows hl hm) (slices_full_of P hz) hts hA (fun x hx=>hlt x (by simpa using hx)) (fun x hx=>by simpa using hlt x (by simpa using hx))
 ·rw [hv,hs];rfl
end
end Go.Sh
end
section
namespace Go.Sh
open Go.RowKit
mutual
def Dat.ok (P : Program) : Dat→TypeId→Prop
 |.int k n,t=>P.underlying t=some (.int k)∧(Lit.int k n).wf=true
 |.bool _,t=>P.underlying t=some .bool
 |.str s,t=>P.underlying t=some .string∧s.size≤maxLen
 |.agg ds,t=>∃ fs,P.underlying t=some (.struct fs)∧Dat.okF P ds (fs.toList.map (·.type))
 |.sl sz es,t=>∃ e,P.underlying t=some (.slice e)∧sz=P.cellsOf e∧es.length≤maxLen∧Dat.okS P es e
def Dat.okF (P : Program) : List Dat→List TypeId→Prop
 |[],ts=>ts = []
 |d::ds,ts=>∃ t r,ts=t::r∧Dat.ok P d t∧Dat.okF P ds r
def Dat.okS (P : Program) : List Dat→TypeId→Prop
 |[],_=>True
 |d::ds,t=>Dat.ok P d t∧Dat.okS P ds t
end
theorem acq {P : Program} {t : TypeId} : ∀ {es : List Dat},(∀ (i : Nat) (d : Dat),es[i]? = some d→d.ok P t)→Dat.okS P es t
 |[],_=>trivial
 |d::es,h=>⟨h 0 d rfl,acq fun i d hi=>h (i+1) d (by simpa using hi)⟩
theorem aa4 {P : Program} {t : TypeId} : ∀ {es : List Dat},Dat.okS P es t→∀ d ∈ es,d.ok P t
 |[],_,d,hd=>by cases hd
 |e::es,h,d,hd=>by
  rcases List.mem_cons.1 hd with rfl|hd
  ·exact h.1
  ·exact aa4 h.2 d hd
def V8 (P : Program) (total : Nat) : Nat→List Field→Bool
 |off,[]=>off == total
 |off,f::fs=>f.offset == off&&V8 P total (off+P.cellsOf f.type) fs
def acr (P : Program) (ts : List TypeId) : Bool:=
 ts.all fun t=>match P.underlying t with
  |some (.int _)=>true
  |some .bool=>true
  |some .string=>true
  |some (.struct fs)=>V8 P (P.cellsOf t) 0 fs.toList&&fs.toList.all (fun f=>ts.contains f.type)
  |some (.slice e)=>decide (0<P.cellsOf e)&&ts.contains e
  |_=>false
theorem XO {Q : Nat→Dat→Prop} : ∀ n : Nat,(∀ i,i<n→∃ d,Q i d)→∃ es : List Dat,es.length=n∧∀ i d,es[i]? = some d→Q i d
 |0,_=>⟨[],rfl,fun i d h=>by cases h⟩
 |n+1,h=>by
  obtain ⟨es,h1,h2⟩:=XO n fun i hi=>h i (by omega)
  obtain ⟨d,hd⟩:=h n (by omega)
  refine ⟨es ++ [d],by simp [h1],fun i x hx=>?_⟩
  rcases Nat.lt_or_ge i es.length with hi|hi
  ·rw [List.getElem?_append_left hi] at hx;exact h2 i x hx
  ·rw [List.getElem?_append_right hi] at hx
   have hl:=(List.getElem?_eq_some_iff.1 hx).1
   have : i=n:=by simp at hl;omega
   subst this
   rw [h1,Nat.sub_self] at hx
   cases hx;exact hd
section
variable {H : Type} {enc : TypeId × Value→H} {P : Program} {W : World}
theorem QJ {cs : List Value} {total : Nat} (hcs : cs.length=total) : ∀ (fl : List Field) (off : Nat),V8 P total off fl=true→
  (∀ f ∈ fl,∃ d,Rep (all W) d ((cs.drop f.offset).take (P.cellsOf f.type))∧d.ok P f.type)→∃ ds,RepA (all W) ds (cs.drop off)∧Dat.okF P ds (fl.map (·.type))
 |[],off,hl,_=>⟨[],by
  have : off=total:=by simpa [V8] using hl
  rw [RepA,List.drop_eq_nil_iff];omega,rfl⟩
 |f::fl,off,hl,h=>by
  simp only [V8,Bool.and_eq_true,beq_iff_eq] at hl
  obtain ⟨d,h1,h2⟩:=h f List.mem_cons_self
  obtain ⟨ds,h3,h4⟩:=QJ hcs fl _ hl.2 fun g hg=>h g (List.mem_cons_of_mem _ hg)
  refine ⟨d::ds,⟨_,_,?_,h1,h3⟩,_,_,rfl,h2,h4⟩
  rw [hl.1,← List.drop_drop,List.take_append_drop]
theorem Zt {ts : List TypeId} (hp : acr P ts=true) {sp : Nat→Bool} : ∀ (fuel : Nat) (t : TypeId) (cs : List Value) (x : DataW H × List MemPlace),t ∈ ts→
  DataW.trod enc P W 0 sp true fuel t cs=some x→∃ d,Rep (all W) d cs∧d.ok P t
 |0,_,_,_,_,h=>by simp [DataW.trod] at h
 |fuel+1,t,cs,x,ht,h=>by
  have hpt:=List.all_eq_true.1 hp t ht
  cases hu : P.underlying t with
  |none=>rw [hu] at hpt;cases hpt
  |some k=>
   rw [hu] at hpt
   cases k with
   |int k=>obtain ⟨n,rfl,_,hw⟩:=DataW.trod_int hu h;exact ⟨.int k n,rfl,hu,hw⟩
   |bool=>obtain ⟨b,rfl,_⟩:=DataW.trod_bool hu h;exact ⟨.bool b,rfl,hu⟩
   |string=>obtain ⟨s,rfl,_,hs⟩:=DataW.trod_string hu h;exact ⟨.str s,rfl,hu,hs⟩
   |struct fs=>
    simp only [Bool.and_eq_true] at hpt
    obtain ⟨xs,n,hn,_,hl,hxl,hx⟩:=DataW.trod_struct hu h
    obtain rfl : fuel=n:=by omega
    obtain ⟨ds,h1,h2⟩:=QJ (P:=P) (W:=W) hl fs.toList 0 hpt.1 (fun f hf=>by
     obtain ⟨i,hi,rfl⟩:=List.getElem_of_mem hf
     have hi' : i<fs.size:=by simpa using hi
     have h1:=hx i fs[i] (Array.getElem?_eq_getElem hi')
     rw [List.getElem?_eq_getElem (by omega)] at h1
     have hmem : fs[i].type ∈ ts:=by
      have:=List.all_eq_true.1 hpt.2 _ hf
      simpa using this
     exact Zt hp fuel _ _ _ hmem h1)
    rw [List.drop_zero] at h1
    exact ⟨.agg ds,h1,fs,hu,h2⟩
   |slice e=>
    simp only [Bool.and_eq_true,decide_eq_true_eq] at hpt
    have he : e ∈ ts:=by simpa using hpt.2
    rcases DataW.trod_slice hu h with ⟨rfl,_⟩|⟨a,len,cap,elems,rest,n,hn,rfl,_,_,hlc,hcm,hel,hget,_,_⟩
    ·exact ⟨.sl (P.cellsOf e) [],⟨none,0,rfl,fun _=>rfl,Nat.le_refl _,trivial⟩,e,hu,rfl,Nat.zero_le _,trivial⟩
    obtain rfl : fuel=n:=by omega
    have hspot : 0<len→a.spot=none:=fun h0=>by
     have h1:=hget 0 h0
     rw [List.getElem?_eq_getElem (by omega)] at h1
     obtain ⟨c,hc,_⟩:=Option.bind_eq_some_iff.1 h1
     obtain ⟨_,hcl,hcc⟩:=World.cells?_some hc
     have hcell:=(hcc 0 hpt.1).trans (List.getElem?_eq_getElem (by omega))
     have:=World.cell?_spot hcell
     simpa [Addr.add] using this
    obtain ⟨es,h1,h2⟩:=XO (Q:=fun i d=>d.ok P e∧∃ c,c.length=P.cellsOf e∧CellsAt (all W) (some a) (i*P.cellsOf e) c∧Rep (all W) d c) len (fun i hi=>by
     have h1:=hget i hi
     rw [List.getElem?_eq_getElem (by omega)] at h1
     obtain ⟨c,hc,ht⟩:=Option.bind_eq_some_iff.1 h1
     obtain ⟨_,hcl,hcc⟩:=World.cells?_some hc
     obtain ⟨d,hd,hok⟩:=Zt hp fuel e c _ he ht
     refine ⟨d,hok,c,hcl,fun j v hj=>?_,hd⟩
     have hjl:=(List.getElem?_eq_some_iff.1 hj).1
     have hcell : W.cell? ((a.add (i*P.cellsOf e)).add j)=some v:=(hcc j (by omega)).trans hj
     obtain ⟨b,off,sp⟩:=a
     have hsp : sp=none:=hspot (by omega)
     subst hsp
     rw [Yt,Yt] at hcell
     exact ⟨b,off,rfl,adH hcell⟩)
    refine ⟨.sl (P.cellsOf e) es,⟨some a,cap,by rw [h1],by simp,by omega,RepS.of fun i d hi=>?_⟩,e,hu,rfl,by omega,acq fun i d hi=>(h2 i d hi).1⟩
    rw [Nat.zero_add];exact (h2 i d hi).2
   |_=>cases hpt
end
end Go.Sh
end
section
namespace Go.Sh
open Go.RowKit
set_option linter.unusedVariables false
def SlG {α : Type} (sz : Nat) (r : Gh) (R : List Value→α→Prop) (v : Value) (l : List α) : Prop:=
 ∃ p cap,v = .slice p l.length cap∧(p=none→cap=0)∧l.length≤cap∧∀ (i : Nat) (h : i<l.length),∃ c,c.length=sz∧CellsAt r p (i*sz) c∧R c l[i]
def RowOf {α : Type} (sz : Nat) (R : List Value→α→Prop) (xs : List Value) (l : List α) : Prop:=
 xs.length=l.length*sz∧∀ (i : Nat) (h : i<l.length),R ((xs.drop (i*sz)).take sz) l[i]
section
variable {α : Type} {sz : Nat} {r s : Gh} {R Q : List Value→α→Prop} {v : Value} {l : List α}
theorem SlG.up' (h : SlG sz r R v l) (le : Le r s) (hR : ∀ c x,R c x→Q c x) : SlG sz s Q v l:=by
 obtain ⟨p,cap,h1,h2,h3,h4⟩:=h
 refine ⟨p,cap,h1,h2,h3,fun i hi=>?_⟩
 obtain ⟨c,h5,h6,h7⟩:=h4 i hi
 exact ⟨c,h5,h6.up le,hR _ _ h7⟩
theorem SlG.cells (h : SlG sz r R v l) [le : Le r s] : SlG sz s R v l:=h.up' le fun _ _ h=>h
theorem SlG.nil : SlG sz r R (.slice none 0 0) ([] : List α):=⟨none,0,rfl,fun _=>rfl,Nat.le_refl _,fun i hi=>absurd hi (Nat.not_lt_zero _)⟩
theorem SlG.shape (h : SlG sz r R v l) : ∃ p cap,v = .slice p l.length cap∧(p=none→cap=0)∧l.length≤cap:=by
 obtain ⟨p,cap,h1,h2,h3,_⟩:=h;exact ⟨p,cap,h1,h2,h3⟩
theorem SlG.len {p : Option Addr} {n cap : Nat} (h : SlG sz r R (.slice p n cap) l) : n=l.length:=by
 obtain ⟨p',cap',h1,_⟩:=h;cases h1;rfl
theorem SlG.get (hz : 0<sz) {p : Option Addr} {n cap : Nat} (h : SlG sz r R (.slice p n cap) l) {i : Nat} (hi : i<l.length) :
  ∃ b off c,p=some ⟨b,off,none⟩∧c.length=sz∧R c l[i]∧∀ j v,c[j]? = some v→Ob r fun w=>w.cell? ⟨b,off+i*sz+j,none⟩=some v:=by
 obtain ⟨p',cap',h1,h2,h3,h4⟩:=h
 cases h1
 obtain ⟨c,h5,h6,h7⟩:=h4 i hi
 obtain ⟨b,off,hp,_⟩:=h6 0 c[0] (List.getElem?_eq_getElem (by omega))
 subst hp
 refine ⟨b,off,c,rfl,h5,h7,fun j v hj=>?_⟩
 obtain ⟨b',off',hp,ho⟩:=h6 j v hj
 cases hp;exact ho
theorem RowOf.nil : RowOf sz R [] ([] : List α):=⟨by simp,fun i hi=>absurd hi (Nat.not_lt_zero _)⟩
theorem RowOf.mono {xs : List Value} (h : RowOf sz R xs l) (hR : ∀ c x,R c x→Q c x) : RowOf sz Q xs l:=⟨h.1,fun i hi=>hR _ _ (h.2 i hi)⟩
theorem RowOf.snoc {xs c : List Value} {x : α} (h : RowOf sz R xs l) (hc : c.length=sz) (hx : R c x) : RowOf sz R (xs++c) (l ++ [x]):=by
 obtain ⟨h1,h2⟩:=h
 refine ⟨by rw [List.length_append,List.length_append,h1,hc,List.length_singleton,Nat.add_mul,Nat.one_mul],fun i hi=>?_⟩
 rw [List.length_append,List.length_singleton] at hi
 rcases Nat.lt_or_ge i l.length with h|h
 ·have hm : i*sz+sz≤xs.length:=by rw [h1,← Nat.succ_mul];exact Nat.mul_le_mul_right _ h
  rw [List.getElem_append_left h,List.drop_append_of_le_length (by omega),List.take_append_of_le_length (by rw [List.length_drop];omega)]
  exact h2 i h
 ·obtain rfl : i=l.length:=by omega
  rw [List.getElem_append_right (Nat.le_refl _),← h1,List.drop_left',List.take_of_length_le (by omega)]
  ·simpa using hx
  ·rfl
theorem RowOf.sl {xs : List Value} (h : RowOf sz R xs l) {p : Option Addr} {cap : Nat} (hp : p=none→cap=0) (hc : l.length≤cap) (ho : Ob r fun w=>Sl w p xs) (hz : 0<sz) (hk : ∃ w,Holds r w) : SlG sz r R (.slice p l.length cap) l:=by
 refine ⟨p,cap,rfl,hp,hc,fun i hi=>⟨(xs.drop (i*sz)).take sz,?_,?_,h.2 i hi⟩⟩
 ·have : i*sz+sz≤xs.length:=by rw [h.1,← Nat.succ_mul];exact Nat.mul_le_mul_right _ hi
  rw [List.length_take,List.length_drop];omega
 ·intro j v hj
  rw [List.getElem?_take] at hj
  split at hj
  ·rw [List.getElem?_drop] at hj
   obtain ⟨w,hw⟩:=hk
   obtain ⟨b,off,rfl,_⟩:=ho w hw _ _ hj
   refine ⟨b,off,rfl,fun w' hw'=>?_⟩
   obtain ⟨b',off',hp',hc'⟩:=ho w' hw' _ _ hj
   cases hp'
   rw [← Nat.add_assoc] at hc';exact hc'
  ·cases hj
end
section
variable {P : Program} {X : Nat→Prop} {w0 w : World} {r : Gh} {L : List Asr} {α : Type} {sz n : Nat} {R : List Value→α→Prop} {v : Value} {l : List α} {e : TypeId} {xs : List Value}
theorem StX.doneRow (S : StX X w0 r w (.row v e sz n xs::L)) (h : RowOf sz R xs l) (hz : 0<sz) (hn : n=l.length) :
  ∃ s,StX X w0 (r.or s) w L∧SlG sz s R v l∧(∀ b o,s b o→∃ c,o = .cells c e (0,0))∧(∀ b o,s b o→w0.heap.size≤b∨X b):=by
 subst hn
 have hm:=S.mine _ (List.mem_cons_self ..)
 have hr : w.ownsRow 0 e sz v l.length xs:=S.has _ (List.mem_cons_self ..)
 rcases ki hr with ⟨rfl,h1,h2⟩|⟨g,cap,c,rfl,hg,B,h1,_,h3,h4⟩
 ·have hl : l = []:=List.eq_nil_of_length_eq_zero h1
  subst hl
  exact ⟨nothing,S.tl.new (Ext.refl _) New.nothing,SlG.nil,fun b o h=>h.elim,fun b o h=>h.elim⟩
 ·have S':=S.turn (p:=[]) (x:=.row _ e sz l.length xs) (y:=.cell g c e) (ExtBut.refl _ _) B fun k hk=>.inl (by cases hk;rfl)
  refine ⟨one g c e,S'.frz,?_,fun b o h=>⟨_,h.2⟩,fun b o h=>(hm b (by rw [h.1];rfl)).1⟩
  refine h.sl (by simp) h1 (fun w k=>?_) hz ⟨w,xX B⟩
  rw [← h4];exact (Sl.blk (xK w k)).take _
theorem StX.litSl {b : Nat} (S : StX X w0 r w (.cell b xs e::L)) (h : RowOf sz R xs l) (hz : 0<sz) : StX X w0 (r.or (Go.Sh.one b xs e)) w L∧SlG sz (Go.Sh.one b xs e) R (.slice (some ⟨b,0,none⟩) l.length l.length) l:=
 ⟨S.frz,h.sl (by simp) (Nat.le_refl _) (fun w k=>Sl.blk (xK w k)) hz ⟨w,xX (S.has _ (List.mem_cons_self ..))⟩⟩
theorem StX.reGh {s t : Gh} (S : StX X w0 ((r.or s).or t) w L) : StX X w0 (r.or (s.or t)) w L:=
 S.less (fun b o h=>h.elim (fun h=>.inl (.inl h)) fun h=>h.elim (fun h=>.inl (.inr h)) .inr) (List.Sublist.refl _)
theorem Above.or' {s t : Gh} (h : Above w0 s) (k : Above w0 t) : Above w0 (s.or t):=fun b o x=>x.elim (h b o) (k b o)
theorem Above.no : Above w0 nothing:=fun b o h=>h.elim
theorem StX.newOf {q : Gh} (S : StX X w0 r w L) (h : Above w0 q) [Le q r] : New w0 q w:=⟨S.holds.le (h:=inferInstance),h⟩
end
section
variable {w : World} {A : (List Value→World→Prop)→Prop} {Z : Value→World→Prop} {b : Bool}
end
end Go.Sh
end
section
namespace Go.Sh
open Go.RowKit
set_option linter.unusedSimpArgs false
set_option linter.unusedVariables false
section
variable {P : Program}
theorem ye {d : Dat} {t : TypeId} {k : IntKind} (u : P.underlying t=some (.int k)) (h : d.ok P t) : ∃ n,d = .int k n∧(Lit.int k n).wf=true:=by
 cases d<;>simp only [Dat.ok,u] at h<;>try simp at h
 obtain ⟨rfl,h⟩:=h
 exact ⟨_,rfl,h⟩
theorem V9 {d : Dat} {t : TypeId} (u : P.underlying t=some .bool) (h : d.ok P t) : ∃ b,d = .bool b:=by
 cases d<;>simp only [Dat.ok,u] at h<;>try simp at h
 exact ⟨_,rfl⟩
theorem aeL {d : Dat} {t : TypeId} (u : P.underlying t=some .string) (h : d.ok P t) : ∃ s,d = .str s∧s.size≤maxLen:=by
 cases d<;>simp only [Dat.ok,u] at h<;>try simp at h
 exact ⟨_,rfl,h⟩
theorem afC {d : Dat} {t e : TypeId} (u : P.underlying t=some (.slice e)) (h : d.ok P t) : ∃ es,d = .sl (P.cellsOf e) es∧es.length≤maxLen∧∀ x ∈ es,x.ok P e:=by
 cases d<;>simp only [Dat.ok,u] at h<;>try simp at h
 obtain ⟨rfl,h1,h2⟩:=h
 exact ⟨_,rfl,h1,aa4 h2⟩
theorem kp {d : Dat} {t : TypeId} {ts : List TypeId} (u : ∃ fs,P.underlying t=some (.struct fs)∧fs.toList.map (·.type)=ts) (h : d.ok P t) : ∃ ds,d = .agg ds∧Dat.okF P ds ts:=by
 obtain ⟨fs,u,rfl⟩:=u
 cases d<;>simp only [Dat.ok,u] at h<;>try simp at h
 exact ⟨_,rfl,by simpa using h⟩
theorem zp {ds : List Dat} {t : TypeId} {ts : List TypeId} (h : Dat.okF P ds (t::ts)) : ∃ d r,ds=d::r∧d.ok P t∧Dat.okF P r ts:=by
 cases ds with
 |nil=>cases h
 |cons d r=>obtain ⟨t',r',h1,h2,h3⟩:=h;cases h1;exact ⟨d,r,rfl,h2,h3⟩
theorem kq {ds : List Dat} (h : Dat.okF P ds []) : ds = []:=by
 cases ds with
 |nil=>rfl
 |cons d r=>obtain ⟨t',r',h1,_⟩:=h;cases h1
noncomputable def aa5 (P : Program) (t : TypeId) (ts : List TypeId) : Bool:=match P.underlying t with|some (.struct fs)=>decide (fs.toList.map (·.type)=ts)|_=>false
theorem yY {t : TypeId} {ts : List TypeId} (h : aa5 P t ts=true) : ∃ fs,P.underlying t=some (.struct fs)∧fs.toList.map (·.type)=ts:=by
 unfold aa5 at h
 split at h
 ·rename_i fs hu;exact ⟨fs,hu,of_decide_eq_true h⟩
 ·cases h
end
theorem acs {n : Int} (h : (Lit.int .i64 n).wf=true) : -9223372036854775808≤n∧n≤9223372036854775807:=by
 simp only [Lit.wf,Bool.and_eq_true,decide_eq_true_eq] at h
 exact ⟨h.1,h.2⟩
theorem aaa {α : Type} {f : α→Dat} {G : α→Prop} : ∀ es : List Dat,(∀ d ∈ es,∃ t,d=f t∧G t)→∃ l : List α,es=l.map f∧∀ t ∈ l,G t
 |[],_=>⟨[],rfl,fun t h=>by cases h⟩
 |d::es,h=>by
  obtain ⟨t,rfl,ht⟩:=h d List.mem_cons_self
  obtain ⟨l,rfl,hq⟩:=aaa es fun x hx=>h x (List.mem_cons_of_mem _ hx)
  refine ⟨t::l,rfl,fun x hx=>?_⟩
  rcases List.mem_cons.1 hx with rfl|hx
  ·exact ht
  ·exact hq x hx
end Go.Sh
end
section
namespace Go.Proofs
open Go.Sh
set_option maxRecDepth 100000
set_option linter.unusedSimpArgs false
set_option linter.unusedVariables false
structure PlD where
 l : Int
 ps : List Int
structure OpD where
 k : Int
 n : Int
 pl : PlD
structure PtD where
 op : Int
 to : PlD
 a : OpD
 b : OpD
 args : List OpD
 sign : ByteArray
 fr : PlD
 mu : Bool
 fn : Int
 st : Int
 nx : Int
 el : Int
 tx : Int
structure GrD where
 name : ByteArray
 lv : Int
 outs : List (Int × Int)
 pn : Int
 tys : List TyD
 nms : List ByteArray
 pts : List PtD
structure UnD where
 ss : List StD
 fs : List GrD
 mn : Int
def zu (c : List Value) (x : Int) : Prop:=c = [.int .i64 x]
def aab (x : Int) : Prop:=-9223372036854775808≤x∧x<9223372036854775808
def X9 (c : List Value) (x : Int) : Prop:=c = [.int .i64 x]∧aab x
structure SlB {α : Type} (sz : Nat) (r : Gh) (R : List Value→α→Prop) (v : Value) (l : List α) : Prop where
 sl : SlG sz r R v l
 few : l.length≤maxLen
theorem SlB.cells {α : Type} {sz : Nat} {r s : Gh} {R : List Value→α→Prop} {v : Value} {l : List α} (h : SlB sz r R v l) [le : Le r s] : SlB sz s R v l:=⟨h.sl.cells,h.few⟩
theorem SlB.up' {α : Type} {sz : Nat} {r s : Gh} {R Q : List Value→α→Prop} {v : Value} {l : List α} (h : SlB sz r R v l) (le : Le r s) (hR : ∀ c x,R c x→Q c x) : SlB sz s Q v l:=⟨h.sl.up' le hR,h.few⟩
theorem xu {α : Type} {D : α→Dat} {r : Gh} {R : List Value→α→Prop} {sz : Nat} {cs : List Value} {l : List α} (hR : ∀ c x,x ∈ l→Rep r (D x) c→R c x) (h : Rep r (.sl sz (l.map D)) cs) (hl : l.length≤maxLen) : ∃ v,cs = [v]∧SlB sz r R v l:=by
 obtain ⟨p,cap,rfl,h1,h2,h3⟩:=h
 rw [List.length_map] at h2 ⊢
 refine ⟨_,rfl,⟨p,cap,rfl,h1,h2,fun i hi=>?_⟩,hl⟩
 obtain ⟨c,h4,h5,h6⟩:=h3.get (i:=i) (d:=D l[i]) (by rw [List.getElem?_map,List.getElem?_eq_getElem hi];rfl)
 rw [Nat.zero_add] at h5
 exact ⟨c,h4,h5,hR _ _ (List.getElem_mem hi) h6⟩
def PlD.ok (p : PlD) : Prop:=p.ps.length≤maxLen∧∀ k ∈ p.ps,aab k
def OpD.ok (o : OpD) : Prop:=o.pl.ok
def PtD.ok (p : PtD) : Prop:=p.to.ok∧p.a.ok∧p.b.ok∧(p.args.length≤maxLen∧∀ o ∈ p.args,o.ok)∧p.fr.ok
def GrD.ok (g : GrD) : Prop:=g.outs.length≤maxLen∧g.tys.length≤maxLen∧g.nms.length≤maxLen∧g.pts.length≤maxLen∧∀ p ∈ g.pts,p.ok
def UnD.ok (u : UnD) : Prop:=u.ss.length≤maxLen∧u.fs.length≤maxLen∧∀ g ∈ u.fs,g.ok
def adM (c : List Value) (x : ByteArray) : Prop:=c = [.string x]
def YH (c : List Value) (x : Int × Int) : Prop:=c = [.int .i64 x.1,.int .i64 x.2]
def TyC (r : Gh) (c : List Value) (t : TyD) : Prop:=TyG r (.agg c.toArray) t
def PlG (r : Gh) (c : List Value) (p : PlD) : Prop:=∃ v,c = [.int .i64 p.l,v]∧SlB 1 r X9 v p.ps
def OpG (r : Gh) (c : List Value) (o : OpD) : Prop:=∃ v,c = [.int .u8 o.k,.int .i64 o.n,.int .i64 o.pl.l,v]∧SlB 1 r X9 v o.pl.ps
def PtG (r : Gh) (c : List Value) (p : PtD) : Prop:=∃ vt va vb vl vf,
 c = [.int .u8 p.op,.int .i64 p.to.l,vt,.int .u8 p.a.k,.int .i64 p.a.n,.int .i64 p.a.pl.l,va,.int .u8 p.b.k,.int .i64 p.b.n,.int .i64 p.b.pl.l,vb,vl,.string p.sign,.int .i64 p.fr.l,vf,.bool p.mu,.int .i64 p.fn,.int .i64 p.st,.int .i64 p.nx,.int .i64 p.el,.int .i64 p.tx]∧
 SlB 1 r X9 vt p.to.ps∧SlB 1 r X9 va p.a.pl.ps∧SlB 1 r X9 vb p.b.pl.ps∧SlB 4 r (OpG r) vl p.args∧SlB 1 r X9 vf p.fr.ps
def GrG (r : Gh) (c : List Value) (g : GrD) : Prop:=∃ vo vt vn vp,c = [.string g.name,.int .i64 g.lv,vo,.int .i64 g.pn,vt,vn,vp]∧
 SlB 2 r YH vo g.outs∧SlB 5 r (TyC r) vt g.tys∧SlB 1 r adM vn g.nms∧SlB 21 r (PtG r) vp g.pts
def UnG (r : Gh) (v : Value) (u : UnD) : Prop:=∃ p cap vf,v = .agg #[.slice p u.ss.length cap,vf,.int .i64 u.mn]∧(p=none→cap=0)∧u.ss.length≤cap∧StG r p u.ss∧u.ss.length≤maxLen∧SlB 7 r (GrG r) vf u.fs
theorem OpG.up {r s : Gh} {c : List Value} {p : OpD} (h : OpG r c p) [l : Le r s] : OpG s c p:=by
 obtain ⟨v,h1,h2⟩:=h;exact ⟨v,h1,h2.cells⟩
theorem PtG.up {r s : Gh} {c : List Value} {p : PtD} (h : PtG r c p) [l : Le r s] : PtG s c p:=by
 obtain ⟨vt,va,vb,vl,vf,h0,h1,h2,h3,h4,h5⟩:=h
 exact ⟨vt,va,vb,vl,vf,h0,h1.cells,h2.cells,h3.cells,h4.up' l fun _ _ h=>h.up,h5.cells⟩
theorem GrG.up {r s : Gh} {c : List Value} {g : GrD} (h : GrG r c g) [l : Le r s] : GrG s c g:=by
 obtain ⟨vo,vt,vn,vp,h0,h1,h2,h3,h4⟩:=h
 exact ⟨vo,vt,vn,vp,h0,h1.cells,h2.up' l fun _ _ h=>TyG.up h,h3.cells,h4.up' l fun _ _ h=>h.up⟩
theorem UnG.up {r s : Gh} {v : Value} {u : UnD} (h : UnG r v u) [l : Le r s] : UnG s v u:=by
 obtain ⟨p,cap,vf,h0,h1,h2,h3,h5,h4⟩:=h
 exact ⟨p,cap,vf,h0,h1,h2,h3.up,h5,h4.up' l fun _ _ h=>h.up⟩
def PlD.dat (p : PlD) : Dat:=.agg [.int .i64 p.l,.sl 1 (p.ps.map (Dat.int .i64))]
def OpD.dat (o : OpD) : Dat:=.agg [.int .u8 o.k,.int .i64 o.n,o.pl.dat]
def PtD.dat (p : PtD) : Dat:=.agg [.int .u8 p.op,p.to.dat,p.a.dat,p.b.dat,.sl 4 (p.args.map OpD.dat),.str p.sign,p.fr.dat,.bool p.mu,.int .i64 p.fn,.int .i64 p.st,.int .i64 p.nx,.int .i64 p.el,.int .i64 p.tx]
def abI (x : Int × Int) : Dat:=.agg [.int .i64 x.1,.int .i64 x.2]
def GrD.dat (g : GrD) : Dat:=.agg [.str g.name,.int .i64 g.lv,.sl 2 (g.outs.map abI),.int .i64 g.pn,.sl 5 (g.tys.map TyD.dat),.sl 1 (g.nms.map Dat.str),.sl 21 (g.pts.map PtD.dat)]
def UnD.dat (u : UnD) : Dat:=.agg [.sl 2 (u.ss.map StD.dat),.sl 7 (u.fs.map GrD.dat),.int .i64 u.mn]
theorem YI {r : Gh} {c : List Value} {p : PlD} (h : Rep r p.dat c) (k : p.ok) : PlG r c p:=by
 obtain ⟨a1,b1,rfl,e1,a2,b2,rfl,e2,e3⟩:=h
 obtain rfl : a1=_:=e1
 obtain rfl : b2 = []:=e3
 obtain ⟨v,rfl,hv⟩:=xu (D:=Dat.int .i64) (R:=X9) (fun c x hx h=>⟨h,k.2 x hx⟩) e2 k.1
 exact ⟨v,rfl,hv⟩
theorem YJ {r : Gh} {c : List Value} {o : OpD} (h : Rep r o.dat c) (k : o.ok) : OpG r c o:=by
 obtain ⟨a1,b1,rfl,e1,a2,b2,rfl,e2,a3,b3,rfl,e3,e4⟩:=h
 obtain rfl : a1=_:=e1
 obtain rfl : a2=_:=e2
 obtain rfl : b3 = []:=e4
 obtain ⟨v,rfl,hv⟩:=YI e3 k
 exact ⟨v,rfl,hv⟩
theorem acu {r : Gh} {c : List Value} {p : PtD} (h : Rep r p.dat c) (k : p.ok) : PtG r c p:=by
 obtain ⟨a1,b1,rfl,e1,a2,b2,rfl,e2,a3,b3,rfl,e3,a4,b4,rfl,e4,a5,b5,rfl,e5,a6,b6,rfl,e6,a7,b7,rfl,e7,a8,b8,rfl,e8,a9,b9,rfl,e9,a10,b10,rfl,e10,a11,b11,rfl,e11,a12,b12,rfl,e12,a13,b13,rfl,e13,e14⟩:=h
 obtain rfl : a1=_:=e1
 obtain rfl : a6=_:=e6
 obtain rfl : a8=_:=e8
 obtain rfl : a9=_:=e9
 obtain rfl : a10=_:=e10
 obtain rfl : a11=_:=e11
 obtain rfl : a12=_:=e12
 obtain rfl : a13=_:=e13
 obtain rfl : b13 = []:=e14
 obtain ⟨v2,rfl,h2⟩:=YI e2 k.1
 obtain ⟨v3,rfl,h3⟩:=YJ e3 k.2.1
 obtain ⟨v4,rfl,h4⟩:=YJ e4 k.2.2.1
 obtain ⟨v5,rfl,h5⟩:=xu (R:=OpG r) (fun c x hx h=>YJ h (k.2.2.2.1.2 x hx)) e5 k.2.2.2.1.1
 obtain ⟨v7,rfl,h7⟩:=YI e7 k.2.2.2.2
 exact ⟨v2,v3,v4,v5,v7,rfl,h2,h3,h4,h5,h7⟩
theorem abJ {r : Gh} {c : List Value} {x : Int × Int} (h : Rep r (abI x) c) : YH c x:=by
 obtain ⟨a1,b1,rfl,e1,a2,b2,rfl,e2,e3⟩:=h
 obtain rfl : a1=_:=e1
 obtain rfl : a2=_:=e2
 obtain rfl : b2 = []:=e3
 rfl
theorem acv {r : Gh} {c : List Value} {g : GrD} (h : Rep r g.dat c) (k : g.ok) : GrG r c g:=by
 obtain ⟨a1,b1,rfl,e1,a2,b2,rfl,e2,a3,b3,rfl,e3,a4,b4,rfl,e4,a5,b5,rfl,e5,a6,b6,rfl,e6,a7,b7,rfl,e7,e8⟩:=h
 obtain rfl : a1=_:=e1
 obtain rfl : a2=_:=e2
 obtain rfl : a4=_:=e4
 obtain rfl : b7 = []:=e8
 obtain ⟨v3,rfl,h3⟩:=xu (R:=YH) (fun c x _ h=>abJ h) e3 k.1
 obtain ⟨v5,rfl,h5⟩:=xu (R:=TyC r) (fun c x _ h=>TyG.of_rep h) e5 k.2.1
 obtain ⟨v6,rfl,h6⟩:=xu (D:=Dat.str) (R:=adM) (fun c x _ h=>h) e6 k.2.2.1
 obtain ⟨v7,rfl,h7⟩:=xu (R:=PtG r) (fun c x hx h=>acu h (k.2.2.2.2 x hx)) e7 k.2.2.2.1
 exact ⟨v3,v5,v6,v7,rfl,h3,h5,h6,h7⟩
theorem acw {r : Gh} {c : List Value} {u : UnD} (h : Rep r u.dat c) (k : u.ok) : UnG r (.agg c.toArray) u:=by
 obtain ⟨a1,b1,rfl,e1,a2,b2,rfl,e2,a3,b3,rfl,e3,e4⟩:=h
 obtain rfl : a3=_:=e3
 obtain rfl : b3 = []:=e4
 obtain ⟨q,cap,rfl,h1,h2,h3⟩:=e1
 obtain ⟨vf,rfl,hf⟩:=xu (R:=GrG r) (fun c x hx h=>acv h (k.2.2 x hx)) e2 k.2.1
 rw [List.length_map] at h2 ⊢
 exact ⟨q,cap,vf,rfl,h1,h2,h3,k.1,hf⟩
end Go.Proofs
end
section
namespace Go.Sh
theorem p_id {P : Program} {s : Sem Value} {K : Value→Prop} (h : opP P s K) : opP P s K:=h
theorem q_id {P : Program} {w : World} {s : Sem Value} {K : Value→Prop} (h : opQ P w s K) : opQ P w s K:=h
end Go.Sh
end
section
namespace Go.Proofs
open Go.Sh
set_option maxRecDepth 100000
set_option linter.unusedSimpArgs false
set_option linter.unusedVariables false
end Go.Proofs
end
section
end
section
namespace Go.Proofs.Tryz
open Go.Sh
set_option maxRecDepth 100000
end Go.Proofs.Tryz
end
section
namespace Go.Proofs
open Go.Sh Go.RowKit
set_option maxRecDepth 100000
set_option linter.unusedSimpArgs false
set_option linter.unusedVariables false
end Go.Proofs
end
section
namespace Go.Proofs.Tryz
open Go.Sh
set_option maxRecDepth 100000
def YK (t0 t1 t2 : Value) (w : World) (K : VW) : Prop:=
 pw w (Instr.box 25 t0) fun t3 w1=>
 lo w1 25 t3 fun t11=>ca jz #[t11,t1,t2] w1 fun t14 w2=>
 pe t14 0 fun t15=>pe t14 1 fun t16=>pw w2 (Instr.alloc 87 true (.tuple #[])) fun t8 w3=>
 so w3 87 t8 t15 fun w4=>bt .neq 29 t16 (i6 0) fun t19=>za (fun K5=>gIf t19 false (fl w4 t8 87 0 78 fun t22=>bt .eql 78 t22 (Value.int .u8 14) fun t23=>K5 [t23] w4) (K5 [undef] w4)) (fun s6 _d7 w8=>
 zb t19 tr_ (s6.getD 0 undef) fun t24=>zc t24 (K (.tuple #[(Value.slice Option.none 0 0),t16]) w8) (fl w8 t8 87 0 78 fun t28=>bt .eql 78 t28 (Value.int .u8 12) fun t29=>za (fun K9=>gIf t29 true (fl w8 t8 87 10 3 fun t32=>fl w8 t8 87 11 3 fun t34=>bf .neq 3 t32 t34 fun t35=>K9 [t35] w8) (K9 [undef] w8)) (fun s10 _d11 w12=>
 zb t29 (s10.getD 0 undef) fa_ fun t36=>zc t36 (fl w12 t8 87 10 3 fun t38=>fl w12 t8 87 11 3 fun t40=>pw w12 (Instr.buildSlice 28 2 #[(0,t38),(1,t40)]) fun t41 w13=>
 K (.tuple #[t41,t16]) w13) (fl w12 t8 87 10 3 fun t44=>pw w12 (Instr.buildSlice 28 1 #[(0,t44)]) fun t45 w14=>
 K (.tuple #[t45,t16]) w14))))
theorem Vj {t0 t1 t2 : Value} {w : World} {K : VW} (h : YK t0 t1 t2 w K) : ze prog xZ #[t0,t1,t2] w K:=
 okC false (.s (.r (rz 3 0 2)) (.s (.r (rz 10 0 163969)) (.s (.b (.s (.r (ra 3 0 0 (.grp 20 false (ri 3 3 4) [23] (rz 2 6 0)))) (.c (.s (.r (rz 3 0 0)) (.n)) (.s (.r (ra 4 0 4 (.grp 30 true (ri 5 4 68) [35] (rz 2 9 0)))) (.c (.s (.r (rz 8 0 580)) (.n)) (.n)))))) (.s (.r (rz 6 0 36)) (.n))))) func52 rfl (by kernel_rfl) (by kernel_rfl) h
end Go.Proofs.Tryz
end
section
namespace Go.Proofs
open Go.Sh
set_option maxRecDepth 100000
set_option linter.unusedSimpArgs false
set_option linter.unusedVariables false
end Go.Proofs
end
section
namespace Go.Proofs
open Go.Sh
set_option maxRecDepth 100000
set_option linter.unusedSimpArgs false
set_option linter.unusedVariables false
end Go.Proofs
end
section
namespace Go.Proofs
open Go.Sh
set_option linter.unusedVariables false
def stepG (ss : List StD) (s : TyD × Int) (k : Int) : Option (TyD × Int):=
 if k = -1∧s.1.k=3 then s.1.of.head?.map fun u=>(u,max s.2 1)
 else if k = -1∧s.1.k=4 then s.1.of.head?.map fun u=>(u,max s.2 (if s.1.m then 2 else 3))
 else if 0≤k∧s.1.k=5 then (zf ss s.1.st)[k.toNat]?.map fun u=>(u,s.2)
 else none
def goG (ss : List StD) : List Int→TyD × Int→Option (TyD × Int)
 |[],s=>some s
 |k::l,s=>(stepG ss s k).bind (goG ss l)
def zY (ss : List StD) (tys : List TyD) (p : PlD) : TyD × Int × Bool:=
 match (if p.l<0 then none else tys[p.l.toNat]?).bind fun t=>goG ss p.ps (t,0) with
 |some s=>(s.1,s.2,decide (p.ps.length≤8))
 |none=>(ys,0,false)
def Jq : TyD:=⟨1,false,0,0,[]⟩
def VC : TyD:=⟨2,false,0,0,[]⟩
def qE (p : PlD) : Bool:=decide (p.l=0)&&decide (p.ps.length=0)
def QK (o : OpD) : Bool:=(decide (o.k=0)&&decide (o.n=0))&&qE o.pl
def yA (ss : List StD) (tys : List TyD) (o : OpD) : TyD × Bool:=
 if o.k=1 then (Jq,qE o.pl)
 else if o.k=2 then (VC,qE o.pl&&(decide (o.n=0)||decide (o.n=1)))
 else if o.k=3 then ((zY ss tys o.pl).1,((zY ss tys o.pl).2.2&&decide (o.n=0))&&qe (zY ss tys o.pl).1)
 else if o.k=4 then ((zY ss tys o.pl).1,(((zY ss tys o.pl).2.2&&decide (o.n=0)) && !qe (zY ss tys o.pl).1)&&decide ((zY ss tys o.pl).2.1<2))
 else (ys,false)
structure abK where
 to : Bool:=false
 a : Bool:=false
 b : Bool:=false
 args : Bool:=false
 sign : Bool:=false
 fr : Bool:=false
 mu : Bool:=false
 fn : Bool:=false
 st : Bool:=false
 el : Bool:=false
def ZY (p : PtD) (h : abK) : List Bool:=
 [h.to||qE p.to,h.a||QK p.a,h.b||QK p.b,h.args||decide (p.args.length=0),h.sign||(p.sign.toList == []),h.fr||qE p.fr,h.mu || !p.mu,h.fn||decide (p.fn=0),h.st||decide (p.st=0),h.el||decide (p.el=0)]
def zC (p : PtD) (h : abK) : Bool:=(ZY p h).all id
def kS (ss : List StD) (tys : List TyD) : List OpD→List TyD→Bool
 |[],[]=>true
 |o::l,t::r=>((yA ss tys o).2&&yp yS (yA ss tys o).1 t)&&kS ss tys l r
 |_,_=>false
def ZZ (g : GrD) (q : Int) : Bool:=decide (0≤q)&&decide (q<g.pts.length)
def isK (t : TyD) (k : Int) : Bool:=decide (t.k=k)
def yM (s : ByteArray) (l : List (List UInt8)) : Bool:=l.any fun x=>s.toList == x
noncomputable def ptG (u : UnD) (g : GrD) (p : PtD) : Bool:=
 let to:=zY u.ss g.tys p.to
 let fr:=zY u.ss g.tys p.fr
 let laid:=to.2.2&&decide (to.2.1<3)
 let a:=yA u.ss g.tys p.a
 let b:=yA u.ss g.tys p.b
 let ints:=isK a.1 1&&isK b.1 1
 if p.op=1 then ((zC p { to:=true,a:=true } && laid)&&a.2)&&yp yS a.1 to.1
 else if p.op=2 then
  (zC p { to:=true,a:=true,b:=true,sign:=true } && (laid&&(a.2&&b.2))) &&
   (if yM p.sign [[43],[45],[42],[47],[37]] then isK to.1 1&&ints
    else if yM p.sign [[60],[60,61],[62],[62,61]] then isK to.1 2&&ints
    else if yM p.sign [[61,61],[33,61]] then isK to.1 2&&(ints||(isK a.1 2&&isK b.1 2)) else false)
 else if p.op=3 then
  ((zC p { to:=true,a:=true,sign:=true } && laid)&&a.2) &&
   (if yM p.sign [[45]] then isK to.1 1&&isK a.1 1 else if yM p.sign [[33]] then isK to.1 2&&isK a.1 2 else false)
 else if p.op=4 then
  ((((zC p { to:=true,fr:=true,mu:=true } && laid)&&fr.2.2)&&isK to.1 4)&&decide (to.1.m=p.mu))&&(yp yS (to.1.of.headD ys) fr.1 && !(p.mu&&decide (fr.2.1=3)))
 else if p.op=5 then (((zC p { to:=true,a:=true } && laid)&&a.2)&&isK to.1 3)&&yp yS (to.1.of.headD ys) a.1
 else if p.op=6 then
  (((zC p { to:=true,args:=true,st:=true } && laid)&&isK to.1 5)&&decide (to.1.st=p.st))&&kS u.ss g.tys p.args (xM u.ss to.1).1
 else if p.op=7 then
  ((zC p { to:=true,args:=true,fn:=true } && laid)&&(decide (0≤p.fn)&&decide (p.fn<u.fs.length))) &&
   (match u.fs[p.fn.toNat]? with
    |some f=>yp yS to.1 (f.tys.headD ys)&&kS u.ss g.tys p.args ((f.tys.drop 1).take f.pn.toNat)
    |none=>false)
 else if p.op=8 then (zC p { to:=true } && laid)&&isK to.1 1
 else if p.op=9 then (zC p { a:=true } && a.2)&&isK a.1 1
 else if p.op=10 then ((zC p { fr:=true } && fr.2.2)&&(vk u.ss fr.1).1)&&decide (fr.2.1<2)
 else if p.op=11 then ((zC p { fr:=true } && fr.2.2)&&decide (0<p.fr.l))&&decide (p.fr.ps.length=0)
 else if p.op=12 then ((zC p { a:=true,el:=true } && a.2)&&isK a.1 2)&&ZZ g p.el
 else if p.op=13∨p.op=14 then zC p {}
 else false
noncomputable def yw (u : UnD) (g : GrD) (p : PtD) : Bool:=
 !((decide (p.tx<0)||(!decide (p.op=14) && !ZZ g p.nx))||(decide (p.op=14) && !decide (p.nx=0)))&&ptG u g p
def qF (x y : Int) : List Int→Bool
 |[]=>false
 |a::l=>(decide (a=y)&&l.contains x)||qF x y l
def qG (tys : List TyD) (x y : Int) : Bool:=tys.any fun t=>qF x y (yL t)
def jh (outs : List (Int × Int)) (x y : Int) : Bool:=outs.contains (x,y)
def xT (lv : Int) (o : Int × Int) : Bool:=!((decide (min o.1 o.2<0)||decide (lv≤max o.1 o.2))||decide (o.1=o.2))
def ji (o w : Int × Int) : Bool:=decide (o.1<w.1)||(decide (o.1=w.1)&&decide (o.2<w.2))
def QL : List (Int × Int)→Bool
 |a::b::l=>ji a b&&QL (b::l)
 |_=>true
def abL (n : Nat) (must says : Int→Int→Bool) : Bool:=
 (List.range n).all fun a : Nat=>(List.range n).all fun b : Nat=>
  ((List.range n).all fun c : Nat=>!((says a b&&says b c)&&(!decide (a=c) && !says a c))) && !(!decide (a=b)&&(must a b && !says a b))
def Z0 (g : GrD) : Bool:=
 (g.outs.all (xT g.lv)&&QL g.outs)&&abL g.lv.toNat (qG (g.tys.take (g.pn.toNat+1))) (jh g.outs)
noncomputable def tyG (u : UnD) (g : GrD) (i : Nat) (t : TyD) : Bool:=
 xk u.ss t&&(yL t).all fun r=>!(decide (r<(if (i : Int)≤g.pn then 0 else -1))||decide (g.lv≤r))
noncomputable def qH (u : UnD) (g : GrD) : Nat→List TyD→Bool
 |_,[]=>true
 |i,t::l=>tyG u g i t&&qH u g (i+1) l
def yK (l : List PtD) : Nat:=l.countP fun p=>decide (p.op=4)
noncomputable def yZ (u : UnD) (fn : Nat) (g : GrD) : Bool:=
 ((((((decide (0≤g.lv)&&decide (g.lv≤8))&&(decide (0≤g.pn)&&decide (g.pn≤8)))&&(decide (g.pn<g.tys.length)&&decide (g.tys.length≤512)))&&decide (g.nms.length=g.tys.length)) &&
  qH u g 0 g.tys)&&((decide (1≤g.pts.length)&&decide (g.pts.length≤1024))&&Z0 g)) &&
  (decide (yK g.pts≤256)&&(!decide ((fn : Int)=u.mn)||((decide (g.lv=0)&&decide (g.pn=0))&&isK (g.tys.headD ys) 1)))
noncomputable def kI (u : UnD) : Nat→List GrD→Option Nat
 |_,[]=>none
 |i,g::l=>if yZ u i g then kI u (i+1) l else some i
noncomputable def jY (u : UnD) (g : GrD) : Nat→List PtD→Option Nat
 |_,[]=>none
 |q,p::l=>if yw u g p then jY u g (q+1) l else some q
noncomputable def vm (u : UnD) : Nat→List GrD→Option (Nat × Nat)
 |_,[]=>none
 |i,g::l=>match jY u g 0 g.pts with|some q=>some (i,q)|none=>vm u (i+1) l
noncomputable def kJ (u : UnD) : Int × Int × Int:=
 if !decide ((zV u.ss).2=0)||(decide (u.fs.length<1)||decide (32<u.fs.length))||(decide (u.mn<0)||decide ((u.fs.length : Int)≤u.mn)) then (-1,-1,100)
 else match kI u 0 u.fs with
  |some i=>(i,-1,100)
  |none=>match vm u 0 u.fs with
   |some (i,q)=>(i,q,100)
   |none=>(0,0,0)
noncomputable def Jr (u : UnD) : Bool:=decide ((kJ u).2.2=0)
end Go.Proofs
end
section
namespace Go.Proofs
open Go.Sh
set_option linter.unusedVariables false
theorem acx : ∀ {n : Nat} {s s' : Int} {m : Nat} {t : TyD},zX s n t=true→n≤m→s≤s'→zX s' m t=true:=by
 intro n
 induction n with
 |zero=>intro s s' m t h;cases h
 |succ n ih=>
  intro s s' m t h hm hs
  obtain ⟨m,rfl⟩ : ∃ k,m=k+1:=⟨m - 1,by omega⟩
  have inn : inB s n t=true→inB s' m t=true:=by
   intro hi
   cases t with
   |mk k mm re st of=>
    cases of with
    |nil=>cases hi
    |cons u l=>exact ih (t:=u) hi (by omega) hs
  rw [jX] at h ⊢
  split
  ·rename_i h1;rw [if_pos h1] at h;exact h
  ·rename_i h1;rw [if_neg h1] at h
   split
   ·rename_i h2;rw [if_pos h2] at h
    simp only [Bool.and_eq_true,decide_eq_true_eq] at h ⊢
    exact ⟨h.1,by omega⟩
   ·rename_i h2;rw [if_neg h2] at h
    split
    ·rename_i h3;rw [if_pos h3] at h
     simp only [Bool.and_eq_true,decide_eq_true_eq] at h ⊢
     exact ⟨h.1,h.2.1,inn h.2.2⟩
    ·rename_i h3;rw [if_neg h3] at h
     split
     ·rename_i h4;rw [if_pos h4] at h
      simp only [Bool.and_eq_true,decide_eq_true_eq] at h ⊢
      exact ⟨h.1,h.2.1,inn h.2.2⟩
     ·rename_i h4;rw [if_neg h4] at h;cases h
def Fine (ss : List StD) (t : TyD) : Prop:=zX ss.length 48 t=true
theorem Fine.cases {ss : List StD} {t : TyD} (h : Fine ss t) : (t.of = []∧(t.k=1∨t.k=2∨t.k=5))∨∃ u,t.of = [u]∧Fine ss u∧(t.k=3∨t.k=4):=by
 rcases qB h with h|⟨u,h1,h2,h3⟩
 ·exact .inl h
 ·exact .inr ⟨u,h1,acx h2 (by omega) (Int.le_refl _),h3⟩
theorem Fine.st {ss : List StD} {t : TyD} (h : Fine ss t) (hk : t.k=5) : 0≤t.st∧t.st<ss.length:=by
 have:=ZJ h hk
 exact ⟨this.1,this.2.1⟩
theorem acz {ss : List StD} (hg : qC ss) {s : TyD × Int} {k : Int} {s' : TyD × Int} (h : Fine ss s.1) (e : stepG ss s k=some s') : Fine ss s'.1:=by
 have inside : ∀ {f : TyD→TyD × Int},(∀ u,(f u).1=u)→s.1.of.head?.map f=some s'→Fine ss s'.1:=by
  intro f hf e
  rcases h.cases with ⟨h1,_⟩|⟨u,h1,h2,_⟩
  ·rw [h1] at e;cases e
  ·rw [h1] at e
   obtain rfl:=Option.some.inj e
   rw [hf];exact h2
 unfold stepG at e
 split at e
 ·exact inside (fun _=>rfl) e
 split at e
 ·exact inside (fun _=>rfl) e
 split at e
 ·rename_i h3
  cases hu : (zf ss s.1.st)[k.toNat]? with
  |none=>rw [hu] at e;cases e
  |some u=>
   rw [hu] at e
   obtain rfl:=Option.some.inj e
   exact hg _ u (List.mem_of_getElem? hu)
 ·cases e
theorem Js {ss : List StD} (hg : qC ss) : ∀ {l : List Int} {s s' : TyD × Int},Fine ss s.1→goG ss l s=some s'→Fine ss s'.1
 |[],s,s',h,e=>by obtain rfl:=Option.some.inj e;exact h
 |k::l,s,s',h,e=>by
  rw [goG] at e
  cases hs : stepG ss s k with
  |none=>rw [hs] at e;cases e
  |some s2=>rw [hs] at e;exact Js hg (acz hg h hs) e
structure Z1 (ss : List StD) (tys : List TyD) : Prop where
 few : ss.length≤32
 good : qC ss
 acy : ∀ k,¬ Rch ss k k
 all : ∀ t ∈ tys,Fine ss t
theorem acA {ss : List StD} {tys : List TyD} (h : Z1 ss tys) {p : PlD} (ho : (zY ss tys p).2.2=true) : Fine ss (zY ss tys p).1:=by
 unfold zY at ho ⊢
 cases hb : (if p.l<0 then none else tys[p.l.toNat]?).bind fun t=>goG ss p.ps (t,0) with
 |none=>rw [hb] at ho;cases ho
 |some s=>
  show Fine ss s.1
  split at hb
  ·cases hb
  ·cases ht : tys[p.l.toNat]? with
   |none=>rw [ht] at hb;cases hb
   |some t=>
    rw [ht] at hb
    exact Js h.good (h.all t (List.mem_of_getElem? ht)) hb
end Go.Proofs
end
section
namespace Go.Proofs
open Go.Sh
set_option linter.unusedVariables false
end Go.Proofs
end
section
namespace Go.Proofs
open Go.Sh
set_option linter.unusedVariables false
end Go.Proofs
end
section
namespace Go.Proofs
open Go.Sh
set_option maxRecDepth 100000
set_option linter.unusedSimpArgs false
set_option linter.unusedVariables false
instance {P : Program} {t e ty : TypeId} {a b : Int} : PStep P (Builtin.max_ #[t,e] ty #[.int .i64 a,.int .i64 b]) (.int .i64 (max a b)):=⟨fun w=>Lib.run_max_ints w _ _ _ _ _ _⟩
instance (priority:=low) {P : Program} {t : TypeId} {c : Bool} {x : ByteArray} {m : List UInt8} : PStep P (zU .eql t c (.string x) (.string (bs m))) (.bool (x.toList == m)):=.of fun _ k=>
 yo (fun w=>by rw [VX trivial,binOp_string_eql,JP m];rfl) k
theorem afD {P : Program} {w : World} {s : Sem Value} {K : Value→World→Prop} (h : opQ P w s fun v=>K v w) : opW P w s K:=w_q (by
 obtain ⟨v,h1,h2⟩:=h
 exact ⟨v,h1,h2⟩)
theorem SlB.lt {α : Type} {sz : Nat} {r : Gh} {R : List Value→α→Prop} {v : Value} {l : List α} (h : SlB sz r R v l) : l.length≤9223372036854775807:=h.few
theorem Zu {a : Nat} : decide ((a : Int)=0)=decide (a=0):=decide_eq_decide.2 (by omega)
theorem kc {p : PlD} {c : List Value} {w : World} {r : Gh} {K : Value→World→Prop} (hr : Holds r w) (hp : PlG r c p) (h : ∀ w',Ext w w'→K (.bool (qE p)) w') :
  ze Tryz.prog Tryz.yN #[.agg c.toArray] w K:=by
 obtain ⟨v,rfl,hl⟩:=hp
 obtain ⟨q,cap,rfl,_,_⟩:=hl.sl.shape
 refine Tryz.Vd ?_
 unfold Tryz.YA
 have S:=St.start hr
 refine S.box fun b1 w1 S=>?_
 refine gG_ ?_
 refine zi (c:=decide (p.ps.length=0)) (fun _ K2 hK2=>?_) ?_
 ·refine gG_ ?_
  rw [Zu]
  exact hK2
 exact h _ S.ext
def AskG (r : Gh) (v : Value) (u : UnD) (g : GrD) : Prop:=∃ p cap vf vo vt vn vp,v = .agg #[.slice p u.ss.length cap,vf,.int .i64 u.mn,.string g.name,.int .i64 g.lv,vo,.int .i64 g.pn,vt,vn,vp]∧
 UnG r (.agg #[.slice p u.ss.length cap,vf,.int .i64 u.mn]) u∧GrG r [.string g.name,.int .i64 g.lv,vo,.int .i64 g.pn,vt,vn,vp] g
theorem AskG.up {r s : Gh} {v : Value} {u : UnD} {g : GrD} (h : AskG r v u g) [l : Le r s] : AskG s v u g:=by
 obtain ⟨p,cap,vf,vo,vt,vn,vp,h0,h1,h2⟩:=h
 exact ⟨p,cap,vf,vo,vt,vn,vp,h0,h1.up,h2.up⟩
abbrev tyL (t : TyD) (q : Option Addr) (cap : Nat) : List Value:=[.int .u8 t.k,.bool t.m,.int .i64 t.re,.int .i64 t.st,.slice q t.of.length cap]
abbrev tyV (t : TyD) (q : Option Addr) (cap : Nat) : Value:=.agg #[.int .u8 t.k,.bool t.m,.int .i64 t.re,.int .i64 t.st,.slice q t.of.length cap]
abbrev spL (t : TyD) (q : Option Addr) (cap : Nat) (m : Int) (ok : Bool) : List Value:=[.int .u8 t.k,.bool t.m,.int .i64 t.re,.int .i64 t.st,.slice q t.of.length cap,.int .i64 m,.bool ok]
abbrev spV (t : TyD) (q : Option Addr) (cap : Nat) (m : Int) (ok : Bool) : Value:=.agg #[.int .u8 t.k,.bool t.m,.int .i64 t.re,.int .i64 t.st,.slice q t.of.length cap,.int .i64 m,.bool ok]
theorem qg {r : Gh} {c : List Value} {t : TyD} (h : TyG r (.agg c.toArray) t) : ∃ q cap,c=tyL t q cap∧TyG r (tyV t q cap) t:=by
 obtain ⟨p,cap,h1,_⟩:=X6 h
 subst h1
 exact ⟨p,cap,rfl,h⟩
theorem VD {r : Gh} {s uu : TyD} {q : Option Addr} {cap : Nat} (h : TyG r (tyV s q cap) s) (hof : s.of = [uu]) : ∃ b off q2 cap2,q=some ⟨b,off,none⟩∧TyG r (tyV uu q2 cap2) uu∧∀ j v,(tyL uu q2 cap2)[j]? = some v→Ob r fun w=>w.cell? ⟨b,off+j,none⟩=some v:=by
 obtain ⟨_,_,hE,_,_,hreps⟩:=h
 cases hE
 obtain ⟨b,off,rfl,c,h1,h2,h3⟩:=NdG.of hreps (i:=0) (by rw [hof];exact Nat.one_pos)
 have h3 : TyG r (.agg c.toArray) uu:=by simpa [hof] using h3
 obtain ⟨q2,cap2,rfl,ht⟩:=qg h3
 exact ⟨b,off,q2,cap2,rfl,ht,by simpa using h2⟩
theorem QM (ss : List StD) : ∀ (l : List Int) (k : Int) (s : TyD × Int),goG ss (l ++ [k]) s=(goG ss l s).bind fun s'=>stepG ss s' k
 |[],k,s=>by
  show (stepG ss s k).bind (goG ss [])=stepG ss s k
  cases stepG ss s k<;>rfl
 |x::l,k,s=>by
  rw [List.cons_append,goG,goG]
  cases h : stepG ss s x with
  |none=>rfl
  |some s'=>exact QM ss l k s'
theorem aac {ss : List StD} : ∀ {l m : List Int} {s : TyD × Int},goG ss l s=none→goG ss (l++m) s=none
 |[],m,s,h=>by cases h
 |x::l,m,s,h=>by
  rw [List.cons_append,goG]
  rw [goG] at h
  cases hs : stepG ss s x with
  |none=>rfl
  |some s'=>rw [hs] at h;exact aac (l:=l) (m:=m) h
theorem acB {ss : List StD} {tys : List TyD} {p : PlD} {t : TyD} {i : Nat} (h0 : 0≤p.l) (ht : tys[p.l.toNat]? = some t) (h : goG ss (p.ps.take i) (t,0)=none) : zY ss tys p=(ys,0,false):=by
 have:=aac (m:=p.ps.drop i) h
 rw [List.take_append_drop] at this
 unfold zY
 rw [if_neg (by omega),ht]
 show (match goG ss p.ps (t,0) with|some s=>(s.1,s.2,decide (p.ps.length≤8))|none=>(ys,0,false))=_
 rw [this]
theorem acC {ss : List StD} {tys : List TyD} {p : PlD} {t : TyD} {s : TyD × Int} (h0 : 0≤p.l) (ht : tys[p.l.toNat]? = some t) (h : goG ss p.ps (t,0)=some s) : zY ss tys p=(s.1,s.2,decide (p.ps.length≤8)):=by
 unfold zY
 rw [if_neg (by omega),ht]
 show (match goG ss p.ps (t,0) with|some s=>(s.1,s.2,decide (p.ps.length≤8))|none=>(ys,0,false))=_
 rw [h]
theorem adN {ss : List StD} {tys : List TyD} {p : PlD} (h : p.l<0∨(tys.length : Int)≤p.l) : zY ss tys p=(ys,0,false):=by
 unfold zY
 by_cases h0 : p.l<0
 ·rw [if_pos h0];rfl
 ·rw [if_neg h0,List.getElem?_eq_none (by omega)];rfl
set_option maxHeartbeats 1000000 in
theorem yD {u : UnD} {g : GrD} {p : PlD} {c : List Value} {v : Value} {w : World} {r : Gh} {K : Value→World→Prop} {t : TyD} {m : Int} {ok : Bool} (hr : Holds r w) (hx : AskG r v u g) (hf : Z1 u.ss g.tys) (hp : PlG r c p) (hsp : zY u.ss g.tys p=(t,m,ok))
  (h : ∀ q cap w',Ext w w'→TyG r (tyV t q cap) t→K (spV t q cap m ok) w') : ze Tryz.prog Tryz.zn #[v,.agg c.toArray] w K:=by
 obtain ⟨p0,cap0,vf,vo,vt,vn,vp,rfl,hu,hg⟩:=hx
 obtain ⟨_,_,_,_,hE,_,htys,_,_⟩:=hg
 cases hE
 obtain ⟨_,_,_,hE,_,_,hst,_,_⟩:=hu
 cases hE
 obtain ⟨qt,capt,rfl,_,_⟩:=htys.sl.shape
 obtain ⟨v,rfl,hl⟩:=hp
 obtain ⟨qs,caps,rfl,_,_⟩:=hl.sl.shape
 have hbl:=hl.lt
 refine Tryz.Yo ?_
 unfold Tryz.jp
 have S:=St.start hr
 refine S.box fun b2 w1 S=>?_
 refine S.box fun b3 w2 S=>?_
 refine S.al fun b4 w3 S=>?_
 refine gG_ ?_
 refine zk (c:=decide ((g.tys.length : Int)≤p.l)) (fun _ K2 hK2=>?_) ?_
 ·refine gG_ ?_
  exact hK2
 refine c_b (fun ho=>?_) (fun hi=>?_)
 ·have hz:=adN (ss:=u.ss) (tys:=g.tys) (p:=p) (by simpa using ho)
  rw [hz] at hsp;cases hsp
  refine zz (cs:=#[.int .u8 0,.bool false,.int .i64 0,.int .i64 0,.slice none 0 0,.int .i64 0,.bool false]) (by kernel_rfl) ?_
  refine S.stB (b:=b4) fun w5 S=>?_
  refine gG_ ?_
  exact h none 0 _ S.ext ZH
 have hlo : 0≤p.l∧p.l<g.tys.length:=by
  simp only [Bool.or_eq_false_iff,decide_eq_false_iff_not] at hi;omega
 clear hi
 have hlt0 : p.l.toNat<g.tys.length:=by omega
 obtain ⟨bt,ot,ct,rfl,hct,htc,hcell⟩:=htys.sl.get (by decide) hlt0
 obtain ⟨t0,hti⟩ : ∃ t0,g.tys[p.l.toNat]=t0:=⟨_,rfl⟩
 rw [hti] at htc
 have hq : g.tys[p.l.toNat]? = some t0:=by rw [List.getElem?_eq_getElem hlt0,hti]
 have hfi : Fine u.ss t0:=hf.all _ (List.mem_of_getElem? hq)
 obtain ⟨q0,cap1,rfl,ht0⟩:=qg htc
 have S:=S.go (Ext.drew _)
 refine gG_ ?_
 refine zQ (n:=5) hct (fun j v hj=>S.at (hcell j v hj)) ?_
 refine gG_ ?_
 refine S.alU fun b5 w10 S=>?_
 refine S.stB (b:=b5) fun w11 S=>?_
 refine gG_ ?_
 have hok : decide (p.ps.length≤8)=decide ((p.ps.length : Int)≤8):=decide_eq_decide.2 (by omega)
 refine zh (ι:=Nat × TyD × Int × Option Addr × Nat) (fun i=>[.int .i64 (i.1 : Nat)]) (fun i w'=>i.1≤p.ps.length∧goG u.ss (p.ps.take i.1) (t0,0)=some (i.2.1,i.2.2.1)∧TyG r (tyV i.2.1 i.2.2.2.1 i.2.2.2.2) i.2.1∧
  StX noX w r w' [.cell b5 (spL i.2.1 i.2.2.2.1 i.2.2.2.2 i.2.2.1 (decide ((p.ps.length : Int)≤8))) 234,.cell b4 [.int .u8 0,.bool false,.int .i64 0,.int .i64 0,.slice none 0 0,.int .i64 0,.bool false] 234,.cell b3 [.int .i64 p.l,.slice qs p.ps.length caps] 81,
   .cell b2 [.slice p0 u.ss.length cap0,vf,.int .i64 u.mn,.string g.name,.int .i64 g.lv,vo,.int .i64 g.pn,.slice (some ⟨bt,ot,none⟩) g.tys.length capt,vn,vp] 192]) (fun i=>p.ps.length - i.1) (0,t0,0,q0,cap1) rfl ⟨Nat.zero_le _,rfl,ht0,S⟩ ?_
 clear S
 rintro ⟨i,s,m',q,cap⟩ d w15 ⟨hi,hgo,hs,S⟩ K6 hK6
 simp only at hi hgo hs S ⊢
 rw [List.getD_cons_zero]
 refine gG_ ?_
 refine c_b (fun hlt=>?_) (fun hge=>?_)
 rotate_left
 ·have hie : i=p.ps.length:=by
   have:=of_decide_eq_false hge;omega
  rw [hie,List.take_length] at hgo
  rw [acC hlo.1 hq hgo,hok] at hsp
  cases hsp
  refine gG_ ?_
  refine S.stB (b:=b4) fun w16 S=>?_
  refine gG_ ?_
  exact h _ _ _ S.ext hs
 have hlt : i<p.ps.length:=by simpa using hlt
 have hsf : Fine u.ss s:=Js hf.good hfi hgo
 obtain ⟨k,hke⟩ : ∃ k,p.ps[i]=k:=⟨_,rfl⟩
 obtain ⟨bs,os,cs,rfl,hcs,hck,hcl⟩:=hl.sl.get (by decide) hlt
 rw [hke] at hck
 obtain ⟨rfl,hin⟩:=hck
 have hstep : goG u.ss (p.ps.take (i+1)) (t0,0)=stepG u.ss (s,m') k:=by
  rw [List.take_succ_eq_append_getElem hlt,QM,hgo,hke];rfl
 refine zs (fun _ w'=>∃ s' m2 q' cap',stepG u.ss (s,m') k=some (s',m2)∧TyG r (tyV s' q' cap') s'∧
  StX noX w r w' [.cell b5 (spL s' q' cap' m2 (decide ((p.ps.length : Int)≤8))) 234,.cell b4 [.int .u8 0,.bool false,.int .i64 0,.int .i64 0,.slice none 0 0,.int .i64 0,.bool false] 234,.cell b3 [.int .i64 p.l,.slice (some ⟨bs,os,none⟩) p.ps.length caps] 81,
   .cell b2 [.slice p0 u.ss.length cap0,vf,.int .i64 u.mn,.string g.name,.int .i64 g.lv,vo,.int .i64 g.pn,.slice (some ⟨bt,ot,none⟩) g.tys.length capt,vn,vp] 192]) (fun K16 hK16=>?_) ?_
 rotate_left
 ·rintro _ w19 ⟨s',m2,q',cap',h1,h2,S⟩ d2
  refine gG_ ?_
  rw [show ((i : Int)+1)=((i+1 : Nat) : Int) by omega]
  exact hK6 (i+1,s',m2,q',cap') _ ⟨hlt,hstep.trans h1,h2,S⟩ (by show p.ps.length - (i+1)<p.ps.length - i;omega)
 refine gG_ ?_
 refine zj (v:=.int .i64 k) (by simpa using S.at (hcl 0 _ rfl)) ?_
 refine gP_ ?_
 refine S.ldN (b:=b5) ?_
 refine S.al fun b8 w20 S=>?_
 refine S.stB (b:=b8) fun w21 S=>?_
 refine gG_ ?_
 refine zi (c:=decide (s.k=3)) (fun _ K2 hK2=>?_) ?_
 ·refine gG_ ?_
  exact hK2
 have down : (s.k=3∨s.k=4)→∃ uu,s.of = [uu]:=by
  intro hk
  rcases hsf.cases with ⟨_,h1⟩|⟨uu,h1,_⟩
  ·omega
  ·exact ⟨uu,h1⟩
 refine c_b (fun hB=>?_) (fun hB=>?_)
 ·obtain ⟨hk1,hk3⟩ : k = -1∧s.k=3:=by simpa using hB
  obtain ⟨uu,hof⟩:=down (.inl hk3)
  obtain ⟨bo,oo,q2,cap2,rfl,ht2,hcc⟩:=VD hs hof
  have hl1 : s.of.length=1:=by rw [hof];rfl
  refine gG_ ?_
  refine S.st (b:=b5) fun w26 S=>?_
  refine gG_ ?_
  refine zQ (n:=5) (c:=tyL uu q2 cap2) rfl (fun j v hj=>by simpa using S.at (hcc j v hj)) ?_
  refine gG_ ?_
  refine S.stN (b:=b5) fun w27 S=>?_
  refine hK16 [] _ ⟨uu,max m' 1,q2,cap2,?_,ht2,S.drop b8⟩
  rw [stepG,if_pos ⟨hk1,hk3⟩,hof];rfl
 have hB : ¬ (k = -1∧s.k=3):=by simpa using hB
 refine gG_ ?_
 refine zi (c:=decide (s.k=4)) (fun _ K2 hK2=>?_) ?_
 ·refine gG_ ?_
  exact hK2
 refine c_b (fun hR=>?_) (fun hR=>?_)
 ·obtain ⟨hk1,hk3⟩ : k = -1∧s.k=4:=by simpa using hR
  obtain ⟨uu,hof⟩:=down (.inr hk3)
  obtain ⟨bo,oo,q2,cap2,rfl,ht2,hcc⟩:=VD hs hof
  have hl1 : s.of.length=1:=by rw [hof];rfl
  refine zs (fun s' w'=>s' = [.int .i64 (if s.m then 2 else 3)]∧w'=w21) (fun K7 hK7=>?_) ?_
  ·refine gG_ ?_
   refine c_b (fun hm=>hK7 _ _ ⟨by rw [hm];rfl,rfl⟩) (fun hm=>hK7 _ _ ⟨by rw [hm];rfl,rfl⟩)
  rintro _ _ ⟨rfl,rfl⟩ d3
  refine gG_ ?_
  refine S.st (b:=b5) fun w26 S=>?_
  refine gG_ ?_
  refine zQ (n:=5) (c:=tyL uu q2 cap2) rfl (fun j v hj=>by simpa using S.at (hcc j v hj)) ?_
  refine gG_ ?_
  refine S.stN (b:=b5) fun w27 S=>?_
  refine hK16 [] _ ⟨uu,max m' (if s.m then 2 else 3),q2,cap2,?_,ht2,S.drop b8⟩
  rw [stepG,if_neg (by omega),if_pos ⟨hk1,hk3⟩,hof];rfl
 have hR : ¬ (k = -1∧s.k=4):=by simpa using hR
 refine gG_ ?_
 refine zi (c:=decide (s.k=5)) (fun _ K2 hK2=>?_) ?_
 ·refine gG_ ?_
  exact hK2
 refine zi (c:=decide (k<(zf u.ss s.st).length)) (fun h5 K2 hK2=>?_) ?_
 ·obtain ⟨hk0,hk5⟩ : 0≤k∧s.k=5:=by simpa using h5
  obtain ⟨hst0,hst1⟩:=hsf.st hk5
  have hslt : s.st.toNat<u.ss.length:=by omega
  obtain ⟨b,off,q9,capq,rfl,hcell9,_,_,hfl⟩:=Ze hst hslt
  have hlen : (zf u.ss s.st).length=u.ss[s.st.toNat].fs.length:=by
   rw [← JS hslt];simp only [zf,Int.toNat_natCast]
  refine gG_ ?_
  refine zj (S.at hcell9) ?_
  refine gG_ ?_
  rw [← hlen]
  exact hK2
 refine c_b (fun hS=>?_) (fun hS=>?_)
 ·obtain ⟨⟨hk0,hk5⟩,hkl⟩ : (0≤k∧s.k=5)∧k<(zf u.ss s.st).length:=by simpa using hS
  obtain ⟨hst0,hst1⟩:=hsf.st hk5
  have hslt : s.st.toNat<u.ss.length:=by omega
  obtain ⟨b,off,q9,capq,rfl,hcell9,_,_,hfl⟩:=Ze hst hslt
  have htl : zf u.ss s.st=u.ss[s.st.toNat].fs.map (·.2):=by
   rw [← kU hslt];simp only [zf,Int.toNat_natCast]
  have hkf : k.toNat<u.ss[s.st.toNat].fs.length:=by
   rw [htl,List.length_map] at hkl;omega
  obtain ⟨b9,off9,c9,rfl,hc9,hcell8,ht9⟩:=QG hfl hkf
  obtain ⟨q2,cap2,rfl,ht2⟩:=qg ht9
  refine gG_ ?_
  refine zj (S.at hcell9) ?_
  refine gG_ ?_
  refine zQ (n:=5) (c:=tyL _ q2 cap2) rfl (fun j v hj=>by have:=S.at (hcell8 (j+1) v hj);rwa [show off9+k.toNat*6+(j+1)=off9+k.toNat*6+1+j by omega] at this) ?_
  refine gG_ ?_
  refine S.stN (b:=b5) fun w27 S=>?_
  refine hK16 [] _ ⟨_,m',q2,cap2,?_,ht2,S.drop b8⟩
  rw [stepG,if_neg (by omega),if_neg (by omega),if_pos ⟨hk0,hk5⟩,htl,List.getElem?_map,List.getElem?_eq_getElem hkf];rfl
 have hz : zY u.ss g.tys p=(ys,0,false):=by
  refine acB hlo.1 hq (i:=i+1) (hstep.trans ?_)
  rw [stepG,if_neg hB,if_neg hR]
  split
  ·rename_i h5
   rw [List.getElem?_eq_none];· rfl
   have : ¬ k<(zf u.ss s.st).length:=by
    intro hh
    have : ((decide (0≤k)&&decide (s.k=5))&&decide (k<((zf u.ss s.st).length : Int)))=true:=by simp [h5,hh]
    rw [this] at hS;cases hS
   have h50 : 0≤k:=h5.1
   show (zf u.ss s.st).length≤k.toNat
   omega
  ·rfl
 rw [hz] at hsp;cases hsp
 refine gG_ ?_
 refine S.stB (b:=b4) fun w16 S=>?_
 refine gG_ ?_
 exact h none 0 _ S.ext ZH
end Go.Proofs
end
section
namespace Go.Proofs
open Go.Sh
set_option maxRecDepth 100000
set_option linter.unusedSimpArgs false
set_option linter.unusedVariables false
theorem QN {r : Gh} {k : Int} {m : Bool} {re st : Int} : TyG r (tyV (.mk k m re st []) none 0) (.mk k m re st []):=ZH
set_option maxHeartbeats 1000000 in
theorem xm {u : UnD} {g : GrD} {o : OpD} {c : List Value} {v : Value} {w : World} {r : Gh} {K : Value→World→Prop} {t : TyD} {ok : Bool} (hr : Holds r w) (hx : AskG r v u g) (hf : Z1 u.ss g.tys) (ho : OpG r c o) (hop : yA u.ss g.tys o=(t,ok))
  (h : ∀ q cap w',Ext w w'→TyG r (tyV t q cap) t→K (.tuple #[tyV t q cap,.bool ok]) w') : ze Tryz.prog Tryz.yh #[v,.agg c.toArray] w K:=by
 obtain ⟨p0,cap0,vf,vo,vt,vn,vp,rfl,hu,hg⟩:=id hx
 obtain ⟨vq,rfl,hl⟩:=ho
 obtain ⟨qs,caps,rfl,_,_⟩:=hl.sl.shape
 have hpl : PlG r [.int .i64 o.pl.l,.slice qs o.pl.ps.length caps] o.pl:=⟨_,rfl,hl⟩
 refine Tryz.Zo ?_
 unfold Tryz.k9
 have S:=St.start hr
 refine S.box fun b2 w1 S=>?_
 refine S.box fun b3 w2 S=>?_
 refine S.al fun b4 w3 S=>?_
 refine gG_ ?_
 unfold yA at hop
 refine zm (fun h1=>?_) (fun h1=>?_)
 ·rw [if_pos h1] at hop;cases hop
  refine gG_ ?_
  refine S.ldN (b:=b3) ?_
  refine kc S.holds hpl fun w4 e4=>?_
  have S:=S.go e4
  refine S.stB (b:=b4) fun w5 S=>?_
  refine gG_ ?_
  exact h none 0 _ S.ext QN
 rw [if_neg h1] at hop
 refine gG_ ?_
 refine zm (fun h2=>?_) (fun h2=>?_)
 ·rw [if_pos h2] at hop;cases hop
  have S:=S.go (Ext.drew _)
  refine gG_ ?_
  refine S.ldN (b:=b3) ?_
  refine kc S.holds hpl fun w44 e4=>?_
  have S:=S.go e4
  have fin : ∀ {w9 : World},StX noX w r w9 [.cell b4 (tyL VC none 0) 138,.cell b3 [.int .u8 o.k,.int .i64 o.n,.int .i64 o.pl.l,.slice qs o.pl.ps.length caps] 84,.cell b2 (Value.agg #[.slice p0 u.ss.length cap0,vf,.int .i64 u.mn,.string g.name,.int .i64 g.lv,vo,.int .i64 g.pn,vt,vn,vp]).cells.toList 192]→∀ x,x=(qE o.pl&&(decide (o.n=0)||decide (o.n=1)))→
    K (.tuple #[tyV VC none 0,.bool x]) w9:=by
   intro w9 S x hx
   subst hx
   exact h none 0 _ S.ext QN
  have st : ∀ {w8 : World} {K : World→Prop},StX noX w r w8 [.cell b4 [.int .u8 0,.bool false,.int .i64 0,.int .i64 0,.slice none 0 0] 138,.cell b3 [.int .u8 o.k,.int .i64 o.n,.int .i64 o.pl.l,.slice qs o.pl.ps.length caps] 84,.cell b2 (Value.agg #[.slice p0 u.ss.length cap0,vf,.int .i64 u.mn,.string g.name,.int .i64 g.lv,vo,.int .i64 g.pn,vt,vn,vp]).cells.toList 192]→
    (∀ w9,StX noX w r w9 [.cell b4 (tyL VC none 0) 138,.cell b3 [.int .u8 o.k,.int .i64 o.n,.int .i64 o.pl.l,.slice qs o.pl.ps.length caps] 84,.cell b2 (Value.agg #[.slice p0 u.ss.length cap0,vf,.int .i64 u.mn,.string g.name,.int .i64 g.lv,vo,.int .i64 g.pn,vt,vn,vp]).cells.toList 192]→K w9)→
    opU Tryz.prog w8 (Instr.storeAt 138 (.pointer (some ⟨b4,0,none⟩)) (.agg #[.int .u8 2,.bool false,.int .i64 0,.int .i64 0,.slice none 0 0])) K:=by
   intro w8 K S hK
   exact S.stB (b:=b4) fun w9 S=>hK w9 S
  cases hz : qE o.pl with
  |false=>
   (intro K9 hK9;refine gD_ ?_;refine hK9 _ _ fun _=>?_;clear hK9 K9)
   (intro K9 hK9;refine gD_ ?_;refine hK9 _ _ fun _=>?_;clear hK9 K9)
   refine ⟨?_,?_⟩
   ·(intro K9 hK9;refine gD_ ?_;refine hK9 _ _ fun _=>?_;clear hK9 K9)
    (intro K9 hK9;refine gD_ ?_;refine hK9 _ _ fun _=>?_;clear hK9 K9)
    refine gD_ ?_
    refine st S fun w9 S=>?_
    refine gG_ ?_
    exact fin S _ (by rw [hz]<;>rfl)
   ·refine st S fun w9 S=>?_
    (intro K9 hK9;refine gD_ ?_;refine hK9 _ _ fun _=>?_;clear hK9 K9)
    (intro K9 hK9;refine gD_ ?_;refine hK9 _ _ fun _=>?_;clear hK9 K9)
    refine gD_ ?_
    exact fin S _ (by rw [hz]<;>rfl)
  |true=>
   by_cases hn0 : o.n=0
   ·refine zs (fun s w'=>s = [.bool true]∧w'=w44) (fun K9 hK9=>?_) ?_
    ·refine gD_ ?_
     rw [decide_eq_true hn0]
     exact hK9 _ _ ⟨rfl,rfl⟩
    rintro _ w44 ⟨rfl,rfl⟩ d1
    (intro K9 hK9;refine gD_ ?_;refine hK9 _ _ fun _=>?_;clear hK9 K9)
    refine ⟨?_,?_⟩
    ·(intro K9 hK9;refine gD_ ?_;refine hK9 _ _ fun _=>?_;clear hK9 K9)
     (intro K9 hK9;refine gD_ ?_;refine hK9 _ _ fun _=>?_;clear hK9 K9)
     refine gD_ ?_
     refine st S fun w9 S=>?_
     refine gG_ ?_
     exact fin S _ (by rw [hz,hn0]<;>rfl)
    ·refine st S fun w9 S=>?_
     (intro K9 hK9;refine gD_ ?_;refine hK9 _ _ fun _=>?_;clear hK9 K9)
     (intro K9 hK9;refine gD_ ?_;refine hK9 _ _ fun _=>?_;clear hK9 K9)
     refine gD_ ?_
     exact fin S _ (by rw [hz,hn0]<;>rfl)
   ·refine zs (fun s w'=>s = [.bool false]∧w'=w44) (fun K9 hK9=>?_) ?_
    ·refine gD_ ?_
     rw [decide_eq_false hn0]
     exact hK9 _ _ ⟨rfl,rfl⟩
    rintro _ w44 ⟨rfl,rfl⟩ d1
    (intro K9 hK9;refine gD_ ?_;refine hK9 _ _ fun _=>?_;clear hK9 K9)
    refine ⟨?_,?_⟩
    ·refine zs (fun s w'=>s = [.bool (decide (o.n=1))]∧w'=w44) (fun K9 hK9=>?_) ?_
     ·refine gD_ ?_
      refine afD ?_
      refine gD_ ?_
      exact hK9 _ _ ⟨rfl,rfl⟩
     rintro _ w44 ⟨rfl,rfl⟩ d1
     (intro K9 hK9;refine gD_ ?_;refine hK9 _ _ fun _=>?_;clear hK9 K9)
     refine gD_ ?_
     refine st S fun w9 S=>?_
     refine gG_ ?_
     exact fin S _ (by rw [hz,decide_eq_false hn0];first|rfl|simp)
    ·refine st S fun w9 S=>?_
     refine zs (fun s w'=>s = [.bool (decide (o.n=1))]∧w'=w9) (fun K9 hK9=>?_) ?_
     ·refine gD_ ?_
      refine afD ?_
      refine gD_ ?_
      exact hK9 _ _ ⟨rfl,rfl⟩
     rintro _ w44 ⟨rfl,rfl⟩ d1
     (intro K9 hK9;refine gD_ ?_;refine hK9 _ _ fun _=>?_;clear hK9 K9)
     refine gD_ ?_
     exact fin S _ (by rw [hz,decide_eq_false hn0];first|rfl|simp)
 rw [if_neg h2] at hop
 obtain ⟨sty,sm,sok,hsp⟩ : ∃ sty sm sok,zY u.ss g.tys o.pl=(sty,sm,sok):=⟨_,_,_,rfl⟩
 simp only [hsp] at hop
 refine gG_ ?_
 refine S.ldN (b:=b3) ?_
 refine yD S.holds hx hf hpl hsp fun q cap w5 e5 ht=>?_
 have S:=S.go e5
 refine S.al fun b6 w6 S=>?_
 refine S.stB (b:=b6) fun w7 S=>?_
 refine gG_ ?_
 refine zi (c:=decide (o.n=0)) (fun _ K2 hK2=>?_) ?_
 ·refine gG_ ?_
  exact hK2
 refine gG_ ?_
 refine zm (fun h3=>?_) (fun h3=>?_)
 ·rw [if_pos h3] at hop;cases hop
  have S:=S.go (Ext.drew _)
  refine gP_ ?_
  refine S.ldN (b:=b6) ?_
  refine zF (c:=qe t) (fun _ K2 hK2=>?_) fun w9 e9=>?_
  ·refine gP_ ?_
   refine S.ldN (b:=b6) ?_
   exact ZF S.holds ht fun w9 e9=>⟨e9,hK2 _ e9⟩
  have S:=S.go e9
  refine S.stB (b:=b4) fun w10 S=>?_
  refine gG_ ?_
  exact h _ _ _ S.ext ht
 rw [if_neg h3] at hop
 refine gG_ ?_
 refine zm (fun h4=>?_) (fun h4=>?_)
 ·rw [if_pos h4] at hop;cases hop
  have S:=S.go (Ext.drew _)
  refine gP_ ?_
  refine S.ldN (b:=b6) ?_
  refine zF (c:=!qe t) (fun _ K2 hK2=>?_) fun w9 e9=>?_
  ·refine gP_ ?_
   refine S.ldN (b:=b6) ?_
   refine ZF S.holds ht fun w9 e9=>⟨e9,?_⟩
   refine gP_ ?_
   exact hK2 _ e9
  have S:=S.go e9
  cases hb : ((sok&&decide (o.n=0)) && !qe t) with
  |false=>
   (intro K9 hK9;refine gD_ ?_;refine hK9 _ _ fun _=>?_;clear hK9 K9)
   refine ⟨?_,?_⟩
   ·(intro K9 hK9;refine gD_ ?_;refine hK9 _ _ fun _=>?_;clear hK9 K9)
    refine gD_ ?_
    refine S.stB (b:=b4) fun w10 S=>?_
    refine gG_ ?_
    have:=h _ _ _ S.ext ht
    rwa [hb] at this
   ·refine S.stB (b:=b4) fun w10 S=>?_
    (intro K9 hK9;refine gD_ ?_;refine hK9 _ _ fun _=>?_;clear hK9 K9)
    refine gD_ ?_
    have:=h _ _ _ S.ext ht
    rwa [hb] at this
  |true=>
   (intro K9 hK9;refine gD_ ?_;refine hK9 _ _ fun _=>?_;clear hK9 K9)
   refine ⟨?_,?_⟩
   ·refine zs (fun s w'=>s = [.bool (decide (sm<2))]∧w'=w9) (fun K9 hK9=>?_) ?_
    ·refine gD_ ?_
     refine afw ?_
     refine gD_ ?_
     exact hK9 _ _ ⟨rfl,rfl⟩
    rintro _ _ ⟨rfl,rfl⟩ d1
    refine gD_ ?_
    refine S.stB (b:=b4) fun w10 S=>?_
    refine gG_ ?_
    have:=h _ _ _ S.ext ht
    rwa [hb] at this
   ·refine S.stB (b:=b4) fun w10 S=>?_
    refine zs (fun s w'=>s = [.bool (decide (sm<2))]∧w'=w10) (fun K9 hK9=>?_) ?_
    ·refine gD_ ?_
     refine afw ?_
     refine gD_ ?_
     exact hK9 _ _ ⟨rfl,rfl⟩
    rintro _ _ ⟨rfl,rfl⟩ d1
    refine gD_ ?_
    have:=h _ _ _ S.ext ht
    rwa [hb] at this
 rw [if_neg h4] at hop;cases hop
 refine gG_ ?_
 refine S.stB (b:=b4) fun w10 S=>?_
 refine gG_ ?_
 exact h none 0 _ S.ext QN
end Go.Proofs
end
section
namespace Go.Proofs
open Go.Sh
set_option maxRecDepth 100000
set_option linter.unusedSimpArgs false
set_option linter.unusedVariables false
theorem QO {x : Bool} {w : World} {p : Option Addr} {l : List Bool} {cap : Nat} {K : Value→World→Prop} (hl : Sl w p (l.map Value.bool)) (hb : l.length≤1000000000) (h : K (.bool (l.contains x)) w) :
  ze Tryz.prog Tryz.yB #[.slice p l.length cap,.bool x] w K:=by
 refine Tryz.qS ?_
 unfold Tryz.xr
 refine Tryz.jW ?_
 unfold Tryz.ka
 refine gP_ ?_
 refine zh (ι:=Nat) (fun i=>[.int .i64 (i : Nat)]) (fun i w'=>w'=w∧i≤l.length∧(l.take i).contains x=false) (fun i=>l.length - i) 0 rfl ⟨rfl,Nat.zero_le _,by simp⟩ ?_
 rintro i d w' ⟨rfl,hi,hn⟩ K6 hK6
 simp only [List.getD_cons_zero]
 refine gP_ ?_
 refine zm (fun hlt=>?_) (fun hge=>?_)
 ·have hlt : i<l.length:=by omega
  obtain ⟨b,off,rfl,hc⟩:=hl.at (i:=i) (by rw [List.length_map];exact hlt)
  refine gP_ ?_
  have hv : (l.map Value.bool)[i]'(by rw [List.length_map];exact hlt) = .bool l[i]:=by simp
  rw [hv] at hc
  refine zj (by simpa using hc) ?_
  refine gP_ ?_
  have ht : (l.take (i+1)).contains x=((l.take i).contains x||(x == l[i])):=by
   rw [List.take_succ_eq_append_getElem hlt];simp only [List.contains_eq_any_beq,List.any_append,List.any_cons,List.any_nil,Bool.or_false]
  refine c_b (fun hy=>?_) (fun hno=>?_)
  ·refine gP_ ?_
   rw [show decide ((i : Int)≥0)=true by simp]
   have : l.contains x=true:=List.contains_iff_mem.2 (by rw [eq_of_beq hy];exact List.getElem_mem hlt)
   rwa [this] at h
  ·refine gP_ ?_
   refine hK6 (i+1) _ ⟨rfl,hlt,?_⟩ (by omega)
   rw [ht,hn,hno];rfl
 ·have : i=l.length:=by omega
  subst this
  rw [List.take_length] at hn
  refine gP_ ?_
  rwa [hn] at h
theorem ZK {o : OpD} {c : List Value} {w : World} {r : Gh} {K : Value→World→Prop} (hr : Holds r w) (ho : OpG r c o) (h : ∀ w',Ext w w'→K (.bool (QK o)) w') :
  zW Tryz.prog (.func (.func Tryz.Zy) #[] #[]) #[.agg c.toArray] w K:=by
 obtain ⟨vq,rfl,hl⟩:=ho
 obtain ⟨qs,caps,rfl,_,_⟩:=hl.sl.shape
 have hpl : PlG r [.int .i64 o.pl.l,.slice qs o.pl.ps.length caps] o.pl:=⟨_,rfl,hl⟩
 refine aew (by kernel_rfl) ?_
 refine Tryz.QC ?_
 unfold Tryz.ZA
 have S:=St.start hr
 refine S.box fun b1 w1 S=>?_
 refine gG_ ?_
 refine zi (c:=decide (o.n=0)) (fun _ K2 hK2=>?_) ?_
 ·refine gG_ ?_
  exact hK2
 refine zF (c:=qE o.pl) (fun _ K2 hK2=>?_) fun w3 e3=>h _ (S.go e3).ext
 refine gP_ ?_
 refine S.ldN (b:=b1) ?_
 exact kc S.holds hpl fun w3 e3=>hK2 _ e3
abbrev ago (h : abK) : Value:=.agg #[.bool h.to,.bool h.a,.bool h.b,.bool h.args,.bool h.sign,.bool h.fr,.bool h.mu,.bool h.fn,.bool h.st,.bool h.el]
theorem aad (l : List Bool) : (!l.contains false)=l.all id:=by
 induction l with
 |nil=>rfl
 |cons x l ih=>
  rw [List.contains_cons,List.all_cons,← ih]
  cases x<;>simp
set_option maxHeartbeats 1000000 in
theorem zO {p : PtD} {f : abK} {c : List Value} {w : World} {r : Gh} {K : Value→World→Prop} (hr : Holds r w) (hp : PtG r c p) (h : ∀ w',Ext w w'→K (.bool (zC p f)) w') :
  ze Tryz.prog Tryz.zD #[.agg c.toArray,ago f] w K:=by
 obtain ⟨vt,va,vb,vl,vf,rfl,h1,h2,h3,h4,h5⟩:=hp
 obtain ⟨qt,capt,rfl,_,_⟩:=h1.sl.shape
 obtain ⟨qa,capa,rfl,_,_⟩:=h2.sl.shape
 obtain ⟨qb,capb,rfl,_,_⟩:=h3.sl.shape
 obtain ⟨ql,capl,rfl,_,_⟩:=h4.sl.shape
 obtain ⟨qf,capf,rfl,_,_⟩:=h5.sl.shape
 refine Tryz.Vc ?_
 unfold Tryz.Yz
 have S:=St.start hr
 refine S.box fun b2 w1 S=>?_
 refine S.box fun b3 w2 S=>?_
 have S:=S.go (Ext.drew _)
 refine gG_ ?_
 refine kG (c:=qE p.to) (fun _ K2 hK2=>?_) fun w4 e4=>?_
 ·refine gP_ ?_
  refine S.ldN (b:=b2) ?_
  exact kc S.holds ⟨_,rfl,h1⟩ fun w3 e3=>⟨e3,hK2 _ e3⟩
 have S:=S.go e4
 refine kG (c:=QK p.a) (fun _ K2 hK2=>?_) fun w5 e5=>?_
 ·refine gP_ ?_
  refine S.ldN (b:=b2) ?_
  exact ZK S.holds ⟨_,rfl,h2⟩ fun w3 e3=>⟨e3,hK2 _ e3⟩
 have S:=S.go e5
 refine kG (c:=QK p.b) (fun _ K2 hK2=>?_) fun w5 e5=>?_
 ·refine gP_ ?_
  refine S.ldN (b:=b2) ?_
  exact ZK S.holds ⟨_,rfl,h3⟩ fun w3 e3=>⟨e3,hK2 _ e3⟩
 have S:=S.go e5
 refine zk (c:=decide (p.args.length=0)) (fun _ K2 hK2=>?_) ?_
 ·refine gG_ ?_
  rw [Zu]
  exact hK2
 refine zk (c:=p.sign.toList == []) (fun _ K2 hK2=>?_) ?_
 ·refine gG_ ?_
  exact hK2
 refine kG (c:=qE p.fr) (fun _ K2 hK2=>?_) fun w4 e4=>?_
 ·refine gP_ ?_
  refine S.ldN (b:=b2) ?_
  exact kc S.holds ⟨_,rfl,h5⟩ fun w3 e3=>⟨e3,hK2 _ e3⟩
 have S:=S.go e4
 refine zk (c:=!p.mu) (fun _ K2 hK2=>?_) ?_
 ·refine gG_ ?_
  exact hK2
 refine zk (c:=decide (p.fn=0)) (fun _ K2 hK2=>?_) ?_
 ·refine gG_ ?_
  exact hK2
 refine zk (c:=decide (p.st=0)) (fun _ K2 hK2=>?_) ?_
 ·refine gG_ ?_
  exact hK2
 refine zk (c:=decide (p.el=0)) (fun _ K2 hK2=>?_) ?_
 ·refine gG_ ?_
  exact hK2
 refine S.lit (e:=4) (cs:=(ZY p f).map Value.bool) (by kernel_rfl) fun b80 w80 S=>?_
 refine QO (l:=ZY p f) (x:=false) (Sl.blk (S.blk b80)) (by simp [ZY]) ?_
 refine gP_ ?_
 rw [aad]
 exact h _ S.ext
end Go.Proofs
end
section
namespace Go.Sh
section
variable {w : World} {Z : Value→World→Prop} {b c : Bool}
theorem Jt {g : Bool} {A : (List Value→World→Prop)→World→Prop} {G : (List Value→World→Prop)→Prop} (hG : b=false→∀ K : List Value→World→Prop,K [.bool g] w→G K) (hA : g=true→∀ K : List Value→World→Prop,K [.bool c] w→A K w) (hZ : Z (.bool (b||(g&&c))) w) :
  za (fun K1=>gIf (.bool b) false (G K1) (K1 [undef] w)) fun s1 _ w1=>
   za (fun K2=>gIf (s1.getD 0 undef) true (A K2 w1) (K2 [undef] w1)) fun s2 _ w2=>
    za (fun K3=>gIf (.bool b) false (zb (s1.getD 0 undef) (s2.getD 0 undef) (.bool false) fun t=>K3 [t] w2) (K3 [undef] w2)) fun s3 _ w3=>
     zb (.bool b) (.bool true) (s3.getD 0 undef) fun t=>Z t w3:=by
 intro K1 hK1
 cases b with
 |true=>
  refine hK1 _ _ fun _=>?_
  intro K2 hK2
  refine hK2 _ _ fun _=>?_
  intro K3 hK3
  refine hK3 _ _ fun _=>⟨true,rfl,?_⟩
  rw [Bool.true_or] at hZ;exact hZ
 |false=>
  refine hG rfl _ (hK1 _ _ fun _=>?_)
  intro K2 hK2
  cases g with
  |true=>
   refine hA rfl _ (hK2 _ _ fun _=>?_)
   intro K3 hK3
   refine ⟨true,rfl,hK3 _ _ fun _=>⟨false,rfl,?_⟩⟩
   rw [Bool.false_or,Bool.true_and] at hZ;exact hZ
  |false=>
   refine hK2 _ _ fun _=>?_
   intro K3 hK3
   refine ⟨false,rfl,hK3 _ _ fun _=>⟨false,rfl,?_⟩⟩
   rw [Bool.false_or,Bool.false_and] at hZ;exact hZ
end
theorem aaJ {P : Program} {K : Value→Prop} {t e : TypeId} {n : Nat} {p : Option Addr} {len cap : Nat} {kd kd' : IntKind} {a b : Int} (h : slT P t=some (e,n)) (h0 : 0≤a) (h1 : a≤b) (h2 : b≤cap)
  (k : K (.slice (if cap=a.toNat then p else p.map (·.add (a.toNat*n))) (b.toNat - a.toNat) (cap - a.toNat))) : opP P (Instr.sliceAt t (.slice p len cap) (some (.int kd a)) (some (.int kd' b)) none) K:=by
 refine yo (fun w=>?_) k
 unfold slT at h
 cases hu : P.underlying t with
 |none=>rw [hu] at h;cases h
 |some d=>
  rw [hu] at h
  cases d<;>first|cases h|skip
  rename_i e'
  simp only [Option.map_eq_some_iff,Prod.mk.injEq] at h
  obtain ⟨m,hs,rfl,rfl⟩:=h
  have h3 : 0≤b:=by omega
  have h5 : a≤max b 0:=by omega
  simp [Instr.sliceAt,Instr.slice,Instr.sliceBounds,Instr.sliceBound,asIntOf,Sem.run_bind,zt hu,Result.andThen,Sem.run,pure,h0,h2,h3,h5,zS hs]
instance {P : Program} {t e : TypeId} {n : Nat} {p : Option Addr} {len cap : Nat} {i j : IntKind} {a b : Int} [h : SlT P t e n] : PCond P (Instr.sliceAt t (.slice p len cap) (some (.int i a)) (some (.int j b)) none) (.slice (if cap=a.toNat then p else p.map (·.add (a.toNat*n))) (b.toNat - a.toNat) (cap - a.toNat)) (0≤a∧a≤b∧b≤cap):=
 .of fun x _ k=>aaJ (e:=e) (n:=n) h.h x.1 x.2.1 x.2.2 k
theorem StX.holdW {X : Nat→Prop} {w0 w : World} {r : Gh} {L : List Asr} (S : StX X w0 r w L) (b : Nat) {c : List Value} {T : TypeId} {f : List Value→List Asr} [h : At b L c T f] : Holds (r.or (Go.Sh.one b c T)) w:=S.holds.or (xX (S.blk b))
end Go.Sh
namespace Go.Proofs
open Go.Sh
set_option maxRecDepth 100000
set_option linter.unusedSimpArgs false
set_option linter.unusedVariables false
section
variable {X : Nat→Prop} {w0 w : World} {r : Gh} {L : List Asr}
theorem JU {x n : Int} {b : Nat} {f : List Value→List Asr} {K : Value→World→Prop} (S : StX X w0 r w L) [At b L [.int .i64 n] 3 f] (h : K (.bool (decide (0≤x)&&decide (x<n))) w) :
  zW Tryz.prog (.func (.func Tryz.k0) #[] #[.pointer (some ⟨b,0,none⟩)]) #[.int .i64 x] w K:=by
 refine VA (by kernel_rfl) ?_
 refine Tryz.Zn ?_
 unfold Tryz.k8
 refine gP_ ?_
 refine zi (c:=decide (x<n)) (fun _ K2 hK2=>?_) h
 refine S.ld (b:=b) ?_ rfl
 refine gP_ ?_
 exact hK2
end
theorem z7 {t : TyD} {q : Option Addr} {cap : Nat} {k : Int} {w : World} {r : Gh} {K : Value→World→Prop} (hr : Holds r w) (h : ∀ w',Ext w w'→K (.bool (isK t k)) w') :
  zW Tryz.prog (.func (.func Tryz.k6) #[] #[]) #[tyV t q cap,.int .u8 k] w K:=by
 refine agc (by kernel_rfl) ?_
 refine Tryz.Zp ?_
 unfold Tryz.qc
 have S:=St.start hr
 refine S.box fun b1 w1 S=>?_
 refine gG_ ?_
 exact h _ S.ext
theorem aaK {u : UnD} {g : GrD} {o : OpD} {t : TyD} {b2 : Nat} {c c2 : List Value} {q : Option Addr} {cap : Nat} {w : World} {r : Gh} {K : Value→World→Prop} (hr : Holds r w) (hb2 : Ob r fun w=>Blk w b2 c2 192) (hx : AskG r (.agg c2.toArray) u g)
  (hc2 : c2.length=10) (hf : Z1 u.ss g.tys) (ho : OpG r c o) (hc : c.length=4) (ht : TyG r (tyV t q cap) t)
  (h : ∀ w',Ext w w'→K (.bool ((yA u.ss g.tys o).2&&yp yS (yA u.ss g.tys o).1 t)) w') :
  zW Tryz.prog (.func (.func Tryz.ky) #[] #[.pointer (some ⟨b2,0,none⟩)]) #[.agg c.toArray,tyV t q cap] w K:=by
 refine agd (by kernel_rfl) ?_
 refine Tryz.vg ?_
 unfold Tryz.kz
 have S:=St.start hr
 refine S.box fun b3 w1 S=>?_
 refine S.box fun b4 w2 S=>?_
 refine zQ (n:=10) (c:=c2) hc2 (fun j v hj=>by rw [Nat.zero_add,(S.at hb2).cell];exact hj) ?_
 refine S.ldB (b:=b3) ?_ hc
 obtain ⟨t1,ok,hop⟩ : ∃ t1 ok,yA u.ss g.tys o=(t1,ok):=⟨_,_,rfl⟩
 rw [hop] at h
 refine xm S.holds hx hf ho hop fun q1 cap1 w3 e3 ht1=>?_
 have S:=S.go e3
 refine gP_ ?_
 refine gP_ ?_
 refine S.al fun b6 w4 S=>?_
 refine S.stB (b:=b6) fun w5 S=>?_
 refine zF (c:=yp yS t1 t) (fun _ K2 hK2=>?_) fun w9 e9=>h _ (S.go e9).ext
 refine S.ldB (b:=b6) ?_ rfl
 refine S.ldB (b:=b4) ?_ rfl
 exact xF S.holds ht1 ht fun w9 e9=>hK2 _ e9
theorem QP {ss : List StD} {tys : List TyD} {o : OpD} {l : List OpD} {t : TyD} {r : List TyD} : kS ss tys (o::l) (t::r)=(((yA ss tys o).2&&yp yS (yA ss tys o).1 t)&&kS ss tys l r):=rfl
theorem JV {ss : List StD} {tys : List TyD} : ∀ {l : List OpD} {r : List TyD},l.length≠r.length→kS ss tys l r=false
 |[],[],h=>absurd rfl h
 |[],_::_,_=>rfl
 |_::_,[],_=>rfl
 |o::l,t::r,h=>by rw [QP,JV (by simpa using h),Bool.and_false]
theorem TysG.up {s t : Gh} {q : Option Addr} {ts : List TyD} (h : TysG s q ts) [l : Le s t] : TysG t q ts:=fun i hi=>by
 obtain ⟨b,off,c,h1,h2,h3,h4⟩:=h i hi
 exact ⟨b,off,c,h1,h2,fun j v hj=>(h3 j v hj).up,h4.up⟩
theorem aa6 {r : Gh} {q : Option Addr} {n cap : Nat} {ts : List TyD} (h : SlG 5 r (TyC r) (.slice q n cap) ts) : TysG r q ts:=fun i hi=>by
 obtain ⟨b,off,c,h1,h2,h3,h4⟩:=h.get (by decide) hi
 exact ⟨b,off,c,h1,h2,h4,h3⟩
theorem adO {top : Gh} {gs : Nat→Gh} {q : Option Addr} {ts : List TyD} (h : afB top gs q ts) : TysG (top.or (un gs 0 ts.length)) q ts:=fun i hi=>by
 obtain ⟨b,off,c,h1,h2,h3,h4,_⟩:=h.at' i hi
 exact ⟨b,off,c,h1,h2,fun j v hj=>(h3 j v hj).up,TyG.up h4 (l:=⟨fun b o hb=>.inr ⟨i,Nat.zero_le _,hi,hb⟩⟩)⟩
theorem TysG.sub {s : Gh} {q : Option Addr} {ts : List TyD} (h : TysG s q ts) {a n cap : Nat} (hc : ts.length≤cap) : TysG s (if cap=a then q else q.map (·.add (a*5))) ((ts.drop a).take n):=fun i hi=>by
 rw [List.length_take,List.length_drop] at hi
 obtain ⟨b,off,c,h1,h2,h3,h4⟩:=h (a+i) (by omega)
 refine ⟨b,off+a*5,c,?_,h2,fun j v hj=>?_,?_⟩
 ·rw [if_neg (by omega),h1,Option.map_some,yx]
 ·have:=h3 j v hj
  rwa [show off+(a+i)*5+j=off+a*5+i*5+j by omega] at this
 ·rw [List.getElem_take,List.getElem_drop];exact h4
theorem JW {u : UnD} {g : GrD} {p : PtD} {l : List TyD} {b2 b3 : Nat} {c2 c3 : List Value} {ql : Option Addr} {capl : Nat} {w : World} {r : Gh} {K : Value→World→Prop} (hr : Holds r w) (hb2 : Ob r fun w=>Blk w b2 c2 192) (hb3 : Ob r fun w=>Blk w b3 c3 87) (hx : AskG r (.agg c2.toArray) u g)
  (hc2 : c2.length=10) (hf : Z1 u.ss g.tys) (hp : PtG r c3 p) (hl : TysG r ql l)
  (h : ∀ w',Ext w w'→K (.bool (kS u.ss g.tys p.args l)) w') :
  zW Tryz.prog (.func (.func Tryz.k7) #[] #[.pointer (some ⟨b3,0,none⟩),.pointer (some ⟨b2,0,none⟩)]) #[.slice ql l.length capl] w K:=by
 refine VB (by kernel_rfl) ?_
 refine Tryz.Zq ?_
 unfold Tryz.qd
 obtain ⟨vt,va,vb,va',vf,rfl,h1,h2,h3,h4,h5⟩:=hp
 obtain ⟨qa,capa,rfl,_,_⟩:=h4.sl.shape
 have S:=St.start hr
 have hlen:=h4.lt
 refine gP_ ?_
 refine zj (by rw [(S.at hb3).cell];rfl) ?_
 refine gP_ ?_
 refine Tryz.yn ?_
 unfold Tryz.zJ
 refine gG_ ?_
 refine zm (fun hne=>?_) (fun heq=>?_)
 ·rw [JV (by omega)] at h
  exact h _ S.ext
 have heq : p.args.length=l.length:=by omega
 refine gG_ ?_
 refine zh (ι:=Nat) (fun i=>[.int .i64 (i : Nat)]) (fun i w'=>i≤p.args.length∧kS u.ss g.tys (p.args.drop i) (l.drop i)=kS u.ss g.tys p.args l∧StX noX w r w' []) (fun i=>p.args.length - i) 0 rfl ⟨Nat.zero_le _,rfl,S⟩ ?_
 clear S
 rintro i d w1 ⟨hi,hd,S⟩ K6 hK6
 rw [List.getD_cons_zero]
 refine gP_ ?_
 refine zm (fun hlt=>?_) (fun hge=>?_)
 ·have hlt : i<p.args.length:=by omega
  have hlt2 : i<l.length:=by omega
  obtain ⟨ba,oa,ca,rfl,hca,hao,hac⟩:=h4.sl.get (by decide) hlt
  obtain ⟨bt,ot,ct,rfl,hct,htc,hto⟩:=hl i hlt2
  obtain ⟨q2,cap2,rfl,ht2⟩:=qg hto
  rw [List.drop_eq_getElem_cons hlt,List.drop_eq_getElem_cons hlt2,QP] at hd
  refine gP_ ?_
  refine zQ (n:=4) hca (fun j v hj=>by rw [Int.toNat_natCast];exact S.at (hac j v hj)) ?_
  refine S.al fun b8 w2 S=>?_
  obtain ⟨vq,hca',hlq⟩:=id hao
  subst hca'
  obtain ⟨qs,caps,rfl,_⟩:=hlq.sl.shape
  refine S.stB (b:=b8) fun w3 S=>?_
  refine gP_ ?_
  refine zQ (n:=5) hct (fun j v hj=>by rw [Int.toNat_natCast];exact S.at (htc j v hj)) ?_
  refine S.al fun b9 w4 S=>?_
  refine S.stB (b:=b9) fun w5 S=>?_
  refine S.ldB (b:=b8) ?_ rfl
  refine S.ldB (b:=b9) ?_ rfl
  refine aaK S.holds hb2 hx hc2 hf hao rfl ht2 fun w6 e6=>?_
  have S:=S.go e6
  refine gP_ ?_
  refine c_b (fun hno=>?_) (fun hy=>?_)
  ·have hno : ((yA u.ss g.tys p.args[i]).2&&yp yS (yA u.ss g.tys p.args[i]).1 l[i])=false:=by rw [← Bool.not_eq_true'];exact hno
   rw [hno,Bool.false_and] at hd
   rw [← hd] at h
   exact h _ S.ext
  ·have hy : ((yA u.ss g.tys p.args[i]).2&&yp yS (yA u.ss g.tys p.args[i]).1 l[i])=true:=by rw [← Bool.not_eq_false'];exact hy
   rw [hy,Bool.true_and] at hd
   refine gP_ ?_
   rw [show ((i : Int)+1)=((i+1 : Nat) : Int) by omega]
   exact hK6 (i+1) _ ⟨hlt,hd,S.to r |>.less (fun _ _ h=>h) (List.nil_sublist _)⟩ (by omega)
 ·have hie : i=p.args.length:=by omega
  rw [hie,List.drop_length,heq,List.drop_length] at hd
  rw [← hd] at h
  exact h _ S.ext
end Go.Proofs
end
section
namespace Go.Proofs.Tryz
open Go.Sh
set_option maxRecDepth 100000
end Go.Proofs.Tryz
end
section
namespace Go.Proofs
open Go.Sh
set_option maxRecDepth 100000
set_option linter.unusedSimpArgs false
set_option linter.unusedVariables false
theorem Qa {f : Int→Bool} {fv : Value} {w : World} (hf : ∀ (x : Int) (K : Value→World→Prop),K (.bool (f x)) w→zW Tryz.prog fv #[.int .i64 x] w K) {p : Option Addr} {l : List Int} {cap : Nat} {K : Value→World→Prop}
  (hl : Sl w p (ints l)) (hb : l.length≤1000000000) (h : ∀ i : Int,(0≤i↔l.any f=true)→K (.int .i64 i) w) : ze Tryz.prog Tryz.yG #[.slice p l.length cap,fv] w K:=by
 refine Tryz.jr ?_
 unfold Tryz.xD
 refine gP_ ?_
 refine zh (ι:=Nat) (fun i=>[.int .i64 i]) (fun i w'=>w'=w∧i≤l.length∧(l.take i).any f=false) (fun i=>l.length - i) 0 rfl ⟨rfl,Nat.zero_le _,by simp⟩ ?_
 rintro i d w' ⟨rfl,hi,hn⟩ K6 hK6
 simp only [List.getD_cons_zero]
 refine gP_ ?_
 refine zm (fun hlt=>?_) (fun hge=>?_)
 ·have hlt : i<l.length:=by omega
  obtain ⟨b,off,rfl,hc⟩:=hl.at (i:=i) (by rw [yz];exact hlt)
  refine gP_ ?_
  have hv : (ints l)[i]'(by rw [yz];exact hlt) = .int .i64 l[i]:=by simp [ints]
  rw [hv] at hc
  refine zj (by simpa using hc) ?_
  refine hf _ _ ?_
  have ht : (l.take (i+1)).any f=((l.take i).any f||f l[i]):=by
   rw [List.take_succ_eq_append_getElem hlt,List.any_append];simp only [List.any_cons,List.any_nil,Bool.or_false]
  refine c_b (fun hy=>?_) (fun hno=>?_)
  ·refine h _ ⟨fun _=>?_,fun _=>Int.natCast_nonneg _⟩
   exact List.any_eq_true.2 ⟨l[i],List.getElem_mem hlt,hy⟩
  ·refine gP_ ?_
   refine hK6 (i+1) _ ⟨rfl,hlt,?_⟩ (by omega)
   rw [ht,hn,hno];rfl
 ·have : i=l.length:=by omega
  subst this
  rw [List.take_length] at hn
  exact h _ ⟨fun h=>by omega,fun h=>by rw [hn] at h;cases h⟩
theorem qM {f : Int→Bool} {fv : Value} {w : World} (hf : ∀ (x : Int) (K : Value→World→Prop),K (.bool (f x)) w→zW Tryz.prog fv #[.int .i64 x] w K) {p : Option Addr} {l : List Int} {cap : Nat} {K : Value→World→Prop}
  (hl : Sl w p (ints l)) (hb : l.length≤1000000000) (h : K (.bool (l.any f)) w) : ze Tryz.prog Tryz.z6 #[.slice p l.length cap,fv] w K:=by
 refine Tryz.qA ?_
 unfold Tryz.xd
 refine Qa hf hl hb fun i hi=>?_
 refine gP_ ?_
 have e : decide (i≥0)=l.any f:=by
  by_cases hh : l.any f=true
  ·rw [hh];exact decide_eq_true (hi.2 hh)
  ·rw [Bool.eq_false_iff.2 hh];exact decide_eq_false fun h=>hh (hi.1 h)
 rw [e];exact h
end Go.Proofs
end
section
namespace Go.Proofs
open Go.Sh
set_option maxRecDepth 100000
set_option linter.unusedSimpArgs false
set_option linter.unusedVariables false
end Go.Proofs
end
section
namespace Go.Proofs
open Go.Sh
set_option linter.unusedVariables false
end Go.Proofs
end
section
namespace Go.Proofs
open Go.Sh
set_option linter.unusedVariables false
def yl (f : Nat→Nat→Bool) : List Value:=(List.range 64).map fun k=>.bool (f (k / 8) (k % 8))
theorem vu {f : Nat→Nat→Bool} : (yl f).length=64:=by rw [yl,List.length_map,List.length_range]
theorem Ju {f : Nat→Nat→Bool} {k : Nat} (h : k<64) : (yl f)[k]? = some (.bool (f (k / 8) (k % 8))):=by
 rw [yl,List.getElem?_map,List.getElem?_range h];rfl
theorem adP {f : Nat→Nat→Bool} {x y : Nat} (hx : x<8) (hy : y<8) : (yl f)[x*8+y]? = some (.bool (f x y)):=by
 rw [Ju (by omega),show (x*8+y) / 8=x by omega,show (x*8+y) % 8=y by omega]
theorem xv {f g : Nat→Nat→Bool} (h : ∀ x y,x<8→y<8→f x y=g x y) : yl f=yl g:=by
 refine List.map_congr_left fun k hk=>?_
 have:=List.mem_range.1 hk
 rw [h _ _ (by omega) (by omega)]
theorem aae {f : Nat→Nat→Bool} {x y : Nat} (hx : x<8) (hy : y<8) : (yl f).set (x*8+y) (.bool true)=yl fun a b=>f a b||(decide (a=x)&&decide (b=y)):=by
 refine List.ext_getElem? fun k=>?_
 by_cases hk : k<64
 ·rw [List.getElem?_set,Ju hk,Ju hk]
  by_cases e : x*8+y=k
  ·rw [if_pos e,if_pos (by rw [vu];omega)]
   subst e
   rw [show (x*8+y) / 8=x by omega,show (x*8+y) % 8=y by omega];simp
  ·rw [if_neg e]
   by_cases e1 : k / 8=x
   ·rw [decide_eq_false (show ¬ k % 8=y by omega),Bool.and_false,Bool.or_false]
   ·rw [decide_eq_false e1,Bool.false_and,Bool.or_false]
 ·rw [List.getElem?_eq_none (by rw [List.length_set,vu];omega),List.getElem?_eq_none (by rw [vu];omega)]
theorem acD {x y : Int} {a : Int} {l : List Int} : qF x y (a::l)=((decide (a=y)&&l.contains x)||qF x y l):=rfl
theorem adQ {l : List Int} {i : Nat} {x : Int} (h : i<l.length) : (l.take (i+1)).contains x=((l.take i).contains x||decide (x=l[i])):=by
 rw [List.take_succ_eq_append_getElem h,List.contains_eq_any_beq,List.any_append,← List.contains_eq_any_beq]
 simp only [List.any_cons,List.any_nil,Bool.or_false]
 congr 1
theorem acE {x y : Int} {l : List TyD} {i : Nat} (h : i<l.length) : qG (l.take (i+1)) x y=(qG (l.take i) x y||qF x y (yL l[i])):=by
 rw [List.take_succ_eq_append_getElem h,qG,List.any_append,qG]
 simp only [List.any_cons,List.any_nil,Bool.or_false]
theorem acF {x y : Int} {l : List (Int × Int)} {i : Nat} (h : i<l.length) : jh (l.take (i+1)) x y=(jh (l.take i) x y||(decide (x=l[i].1)&&decide (y=l[i].2))):=by
 rw [jh,List.take_succ_eq_append_getElem h,List.contains_eq_any_beq,List.any_append,← List.contains_eq_any_beq,← jh]
 simp only [List.any_cons,List.any_nil,Bool.or_false]
 congr 1
def qT (lv : Int) : Option (Int × Int)→List (Int × Int)→Bool
 |_,[]=>true
 |w,o::l=>(xT lv o&&(match w with|none=>true|some w=>ji w o))&&qT lv (some o) l
theorem JX (lv : Int) : ∀ (l : List (Int × Int)) (w : Int × Int),qT lv (some w) l=(l.all (xT lv)&&QL (w::l))
 |[],w=>rfl
 |o::l,w=>by
  rw [qT,JX lv l o,List.all_cons,QL]
  cases xT lv o<;>cases ji w o<;>cases l.all (xT lv)<;>simp
theorem acG (lv : Int) (l : List (Int × Int)) : qT lv none l=(l.all (xT lv)&&QL l):=by
 cases l with
 |nil=>rfl
 |cons o l=>
  rw [qT,JX lv l o,List.all_cons]
  cases xT lv o<;>cases l.all (xT lv)<;>simp
theorem aeM {lv : Int} {w : Option (Int × Int)} {l : List (Int × Int)} {i : Nat} (h : i<l.length) : qT lv w (l.drop i)=((xT lv l[i]&&(match w with|none=>true|some w=>ji w l[i]))&&qT lv (some l[i]) (l.drop (i+1))):=by
 rw [List.drop_eq_getElem_cons h];rfl
theorem not_lt {o w : Int × Int} : (decide (o.1<w.1)||(decide (w.1=o.1)&&decide (o.2≤w.2))) = !ji w o:=by
 unfold ji
 rcases Int.lt_trichotomy o.1 w.1 with h|h|h
 ·rw [decide_eq_true h,decide_eq_false (show ¬ w.1<o.1 by omega),decide_eq_false (show ¬ w.1=o.1 by omega)];rfl
 ·rw [decide_eq_false (show ¬ o.1<w.1 by omega),decide_eq_false (show ¬ w.1<o.1 by omega),decide_eq_true (show w.1=o.1 by omega)]
  by_cases h2 : o.2≤w.2
  ·rw [decide_eq_true h2,decide_eq_false (show ¬ w.2<o.2 by omega)];rfl
  ·rw [decide_eq_false h2,decide_eq_true (show w.2<o.2 by omega)];rfl
 ·rw [decide_eq_false (show ¬ o.1<w.1 by omega),decide_eq_true (show w.1<o.1 by omega),decide_eq_false (show ¬ w.1=o.1 by omega)];rfl
theorem abM {n i : Nat} (h : i<n) : (List.range n).drop i=i::(List.range n).drop (i+1):=by
 rw [List.drop_eq_getElem_cons (by rwa [List.length_range]),List.getElem_range]
theorem YL {n i : Nat} {f : Nat→Bool} (h : i<n) : ((List.range n).drop i).all f=(f i&&((List.range n).drop (i+1)).all f):=by rw [abM h,List.all_cons]
theorem YM {n : Nat} {f : Nat→Bool} : ((List.range n).drop n).all f=true:=by rw [List.drop_of_length_le (by rw [List.length_range];exact Nat.le_refl _)];rfl
theorem JY {u : UnD} {g : GrD} {i : Nat} {t : TyD} {l : List TyD} : qH u g i (t::l)=(tyG u g i t&&qH u g (i+1) l):=rfl
theorem acH {u : UnD} {g : GrD} {i j : Nat} {l : List TyD} (h : i<l.length) : qH u g j (l.drop i)=(tyG u g j l[i]&&qH u g (j+1) (l.drop (i+1))):=by rw [List.drop_eq_getElem_cons h];rfl
theorem aaf {u : UnD} {g : GrD} : ∀ {l : List TyD} {i : Nat},qH u g i l=true→∀ t ∈ l,xk u.ss t=true
 |[],i,_,t,ht=>by cases ht
 |x::l,i,h,t,ht=>by
  rw [JY,Bool.and_eq_true] at h
  rcases List.mem_cons.1 ht with rfl|ht
  ·have:=h.1
   rw [tyG,Bool.and_eq_true] at this
   exact this.1
  ·exact aaf h.2 t ht
theorem aag {u : UnD} {g : GrD} : ∀ {l : List TyD} {i : Nat},qH u g i l=true→∀ {j : Nat} (hj : j<l.length),((i+j : Nat) : Int)≤g.pn→∀ x ∈ yL l[j],0≤x∧x<g.lv
 |[],i,_,j,hj,_=>absurd hj (Nat.not_lt_zero _)
 |y::l,i,h,j,hj,hle=>by
  rw [JY,Bool.and_eq_true] at h
  cases j with
  |zero=>
   have:=h.1
   rw [tyG,Bool.and_eq_true,List.all_eq_true] at this
   intro x hx
   have:=this.2 x hx
   rw [if_pos (by omega)] at this
   simp only [Bool.not_eq_true',Bool.or_eq_false_iff,decide_eq_false_iff_not] at this
   omega
  |succ j=>exact aag h.2 (j:=j) (by simpa using hj) (by omega)
theorem QQ {l : List PtD} {i : Nat} (h : i<l.length) : yK (l.take (i+1))=yK (l.take i)+(if l[i].op=4 then 1 else 0):=by
 rw [List.take_succ_eq_append_getElem h,yK,List.countP_append,yK]
 congr 1
 rw [List.countP_singleton]
 by_cases e : l[i].op=4<;>simp [e]
end Go.Proofs
end
section
namespace Go.Proofs
open Go.Sh
set_option maxRecDepth 100000
set_option linter.unusedSimpArgs false
set_option linter.unusedVariables false
theorem Sl.tail {w : World} {p : Option Addr} {a : Int} {l : List Int} {cap : Nat} (h : Sl w p (ints (a::l))) (hc : (a::l).length≤cap) : Sl w (if cap=(1 : Int).toNat then p else p.map (·.add ((1 : Int).toNat*1))) (ints l):=fun i v hv=>by
 have h1:=h (i+1) v (by simpa [ints] using hv)
 have hi : i<l.length:=by
  have:=(List.getElem?_eq_some_iff.1 hv).1
  rwa [yz] at this
 obtain ⟨b,off,hp,hcell⟩:=h1
 rw [List.length_cons] at hc
 rw [if_neg (show ¬ cap=(1 : Int).toNat by have : (1 : Int).toNat=1:=rfl;omega),hp,Option.map_some,yx]
 exact ⟨b,off+1,rfl,by rwa [show off+1+i=off+(i+1) by omega]⟩
abbrev fvI (b3 b4 : Nat) : Value:=.func (.func Tryz.jI) #[] #[.pointer (some ⟨b3,0,none⟩),.pointer (some ⟨b4,0,none⟩)]
abbrev abN (f : Nat→Nat→Bool) (l : List Int) : Nat→Nat→Bool:=fun x y=>f x y||qF x y l
abbrev Jv (f : Nat→Nat→Bool) (a : Int) (l : List Int) : Nat→Nat→Bool:=fun x y=>f x y||(decide (a=(y : Int))&&l.contains (x : Int))
theorem aaL {b3 b4 bt : Nat} {M : List Asr} {w0 : World} {r : Gh} : ∀ (l : List Int) {p : Option Addr} {cap : Nat} {f : Nat→Nat→Bool} {w : World} {K : Value→World→Prop},(∀ x ∈ l,0≤x∧x<8)→(Ob r fun w=>Sl w p (ints l))→l.length≤cap→l.length≤1000→
  StX noX w0 r w (.cell b4 [fvI b3 b4] 116 :: .cell b3 [.pointer (some ⟨bt,0,none⟩)] 202 :: .cell bt (yl f) 200::M)→
  (∀ w',StX noX w0 r w' (.cell b4 [fvI b3 b4] 116 :: .cell b3 [.pointer (some ⟨bt,0,none⟩)] 202 :: .cell bt (yl (abN f l)) 200::M)→K (.tuple #[]) w')→
  zW Tryz.prog (fvI b3 b4) #[.slice p l.length cap] w K:=by
 intro l
 induction l with
 |nil=>
  intro p cap f w K hx hl hc hb S h
  refine VB (by kernel_rfl) ?_
  refine Tryz.jq ?_
  unfold Tryz.kC
  refine gP_ ?_
  refine gP_ ?_
  refine c_t (by simp) ?_
  refine h _ ?_
  rw [xv (g:=f) (fun x y _ _=>by show (f x y||qF x y [])=f x y;rw [qF,Bool.or_false])]
  exact S
 |cons a l ih=>
  intro p cap f w K hx hl hc hb S h
  refine VB (by kernel_rfl) ?_
  refine Tryz.jq ?_
  unfold Tryz.kC
  obtain ⟨ha0,ha8⟩:=hx a List.mem_cons_self
  have hxl : ∀ x ∈ l,0≤x∧x<8:=fun x h=>hx x (List.mem_cons_of_mem _ h)
  have hal : (a::l).length=l.length+1:=List.length_cons
  have hll : l.length≤1000:=by rw [List.length_cons] at hb;omega
  have hlc : l.length+1≤cap:=by rwa [List.length_cons] at hc
  have hsl : Ob r fun w=>Sl w (if cap=(1 : Int).toNat then p else p.map (·.add ((1 : Int).toNat*1))) (ints l):=fun w k=>Sl.tail (hl w k) hc
  have hlen : (a::l).length - (1 : Int).toNat=l.length:=by simp
  obtain ⟨bp,op,rfl,hcell⟩:=ZI (S.at hl) (i:=0) (by simp)
  refine gP_ ?_
  refine gP_ ?_
  refine c_f (by rw [List.length_cons];exact decide_eq_false (by omega)) ?_
  refine gP_ ?_
  rw [hlen]
  refine gP_ ?_
  obtain ⟨p2,hp2⟩ : ∃ p2,(if cap=(1 : Int).toNat then (some ⟨bp,op,none⟩ : Option Addr) else (some ⟨bp,op,none⟩ : Option Addr).map (·.add ((1 : Int).toNat*1)))=p2:=⟨_,rfl⟩
  rw [hp2] at hsl ⊢
  refine zh (ι:=Nat) (fun i=>[.int .i64 (i : Nat)]) (fun i w'=>i≤l.length∧StX noX w0 r w' (.cell b4 [fvI b3 b4] 116 :: .cell b3 [.pointer (some ⟨bt,0,none⟩)] 202 :: .cell bt (yl (Jv f a (l.take i))) 200::M)) (fun i=>l.length - i) 0 rfl
   ⟨Nat.zero_le _,by
    rw [xv (f:=Jv f a (l.take 0)) (g:=f) (fun x y _ _=>by simp [Jv])]
    exact S⟩ ?_
  clear S
  rintro i d w1 ⟨hi,S⟩ K6 hK6
  rw [List.getD_cons_zero]
  refine gP_ ?_
  refine zm (fun hlt=>?_) (fun hge=>?_)
  ·have hlt : i<l.length:=by omega
   obtain ⟨bq,oq,rfl,hcell2⟩:=ZI (S.at hsl) hlt
   obtain ⟨hi0,hi8⟩:=hxl _ (List.getElem_mem hlt)
   have S:=S.go (Ext.drew _)
   refine gP_ ?_
   refine zj (v:=.int .i64 l[i]) (by simpa using hcell2) ?_
   refine S.ld (b:=b3) ?_ rfl
   refine gP_ ?_
   have hc0:=(S.at hl 0 (.int .i64 a) (by simp [ints]))
   refine zj (v:=.int .i64 a) (by obtain ⟨b',o',h1,h2⟩:=hc0;cases h1;simpa using h2) ?_
   refine gG_ ?_
   refine S.st (b:=bt) (fun w2 S=>?_) (by rw [vu];omega)
   refine gP_ ?_
   rw [show ((i : Int)+1)=((i+1 : Nat) : Int) by omega]
   refine hK6 (i+1) _ ⟨hlt,?_⟩ (by omega)
   rw [show 0+l[i].toNat*8+a.toNat*1=l[i].toNat*8+a.toNat by omega,aae (by omega) (by omega)] at S
   rw [xv (f:=Jv f a (l.take (i+1))) (g:=fun x y=>Jv f a (l.take i) x y||(decide (x=l[i].toNat)&&decide (y=a.toNat))) (fun x y _ _=>by
    show (f x y||(decide (a=(y : Int))&&(l.take (i+1)).contains (x : Int)))=((f x y||(decide (a=(y : Int))&&(l.take i).contains (x : Int)))||(decide (x=l[i].toNat)&&decide (y=a.toNat)))
    rw [adQ hlt,show decide ((x : Int)=l[i])=decide (x=l[i].toNat) from decide_eq_decide.2 (by omega),show decide (a=(y : Int))=decide (y=a.toNat) from decide_eq_decide.2 (by omega)]
    cases f x y<;>cases decide (y=a.toNat)<;>cases (l.take i).contains (x : Int)<;>cases decide (x=l[i].toNat)<;>rfl)]
   exact S
  ·have hie : i=l.length:=by omega
   rw [hie,List.take_length] at S
   have S:=S.go (Ext.drew _)
   refine S.ld (b:=b4) ?_ rfl
   refine gP_ ?_
   rw [hlen,hp2]
   refine ih hxl hsl (by show l.length≤cap - (1 : Int).toNat;have : (1 : Int).toNat=1:=rfl;omega) hll S fun w2 S=>?_
   refine h _ ?_
   rw [xv (f:=abN f (a::l)) (g:=abN (Jv f a l) l) (fun x y _ _=>by
    show (f x y||qF x y (a::l))=((f x y||(decide (a=(y : Int))&&l.contains (x : Int)))||qF x y l)
    rw [acD,Bool.or_assoc])]
   exact S
abbrev Qb (f : Nat→Nat→Bool) (l : List TyD) : Nat→Nat→Bool:=fun x y=>f x y||qG l x y
theorem QR {bt : Nat} {M : List Asr} {w0 : World} {r : Gh} {l : List TyD} {q : Option Addr} {cap : Nat} {f : Nat→Nat→Bool} {w : World} {K : Value→World→Prop} (hl : TysG r q l) (hn : l.length≤maxLen) (hx : ∀ t ∈ l,∀ x ∈ yL t,0≤x∧x<8)
  (S : StX noX w0 r w (.cell bt (yl f) 200::M))
  (h : ∀ w',StX noX w0 r w' (.cell bt (yl (Qb f l)) 200::M)→K (.tuple #[]) w') : ze Tryz.prog Tryz.qv #[.slice q l.length cap,.pointer (some ⟨bt,0,none⟩)] w K:=by
 refine Tryz.XZ ?_
 unfold Tryz.vU
 have hn' : l.length≤9223372036854775807:=hn
 refine S.box fun b3 w1 S=>?_
 refine S.al fun b4 w2 S=>?_
 refine gP_ ?_
 refine S.st (b:=b4) fun w3 S=>?_
 refine gP_ ?_
 refine zh (ι:=Nat) (fun i=>[.int .i64 (i : Nat)]) (fun i w'=>i≤l.length∧StX noX w0 r w' (.cell b4 [fvI b3 b4] 116 :: .cell b3 [.pointer (some ⟨bt,0,none⟩)] 202 :: .cell bt (yl (Qb f (l.take i))) 200::M)) (fun i=>l.length - i) 0 rfl
  ⟨Nat.zero_le _,by
   rw [xv (f:=Qb f (l.take 0)) (g:=f) (fun x y _ _=>by simp [Qb,qG])]
   exact S⟩ ?_
 clear S
 rintro i d w4 ⟨hi,S⟩ K6 hK6
 rw [List.getD_cons_zero]
 refine gP_ ?_
 refine zm (fun hlt=>?_) (fun hge=>?_)
 ·have hlt : i<l.length:=by omega
  obtain ⟨b1,o1,c1,rfl,hc1,htc,hto⟩:=hl i hlt
  obtain ⟨q2,cap2,rfl,ht2⟩:=qg hto
  refine gP_ ?_
  refine zQ (n:=5) hc1 (fun j v hj=>by rw [Int.toNat_natCast];exact S.at (htc j v hj)) ?_
  refine S.al fun b6 w5 S=>?_
  refine S.stB (b:=b6) fun w6 S=>?_
  have S:=S.go (Ext.drew _)
  refine S.ld (b:=b4) ?_ rfl
  refine S.ldB (b:=b6) ?_ rfl
  refine Zc S.holds ht2 fun v7 w7 e7 o7=>⟨e7,?_⟩
  obtain ⟨s1,p1,cap1,n1,nb1,rfl,_,hc1,hs1⟩:=afv o7
  have S:=S.new e7 n1
  have S:=S.drop b6
  have hr48 : (yL l[i]).length≤1000:=by
   rw [yL];split
   ·have:=JQ (by assumption);omega
   ·simp
  refine aaL (yL l[i]) (fun x h=>hx _ (List.getElem_mem hlt) x h) hs1.up hc1 hr48 S fun w8 S=>?_
  refine gP_ ?_
  rw [show ((i : Int)+1)=((i+1 : Nat) : Int) by omega]
  refine hK6 (i+1) _ ⟨hlt,?_⟩ (by omega)
  have S:=S.to r
  rw [xv (f:=Qb f (l.take (i+1))) (g:=abN (Qb f (l.take i)) (yL l[i])) (fun x y _ _=>by
   show (f x y||qG (l.take (i+1)) x y)=((f x y||qG (l.take i) x y)||qF x y (yL l[i]))
   rw [acE hlt,Bool.or_assoc])]
  exact S
 ·have hie : i=l.length:=by omega
  rw [hie,List.take_length] at S
  exact h _ S.tl.tl
end Go.Proofs
end
section
namespace Go.Proofs
open Go.Sh
set_option maxRecDepth 100000
set_option linter.unusedSimpArgs false
set_option linter.unusedVariables false
theorem TysG.take {s : Gh} {q : Option Addr} {ts : List TyD} (h : TysG s q ts) (n : Nat) : TysG s q (ts.take n):=fun i hi=>by
 rw [List.length_take] at hi
 obtain ⟨b,off,c,h1,h2,h3,h4⟩:=h i (by omega)
 refine ⟨b,off,c,h1,h2,h3,?_⟩
 rw [List.getElem_take];exact h4
theorem YN {f : Nat→Nat→Bool} {a b : Nat} (ha : a<8) (hb : b<8) : (yl f)[0+((a : Nat) : Int).toNat*8+((b : Nat) : Int).toNat*1]? = some (.bool (f a b)):=by
 rw [show 0+((a : Nat) : Int).toNat*8+((b : Nat) : Int).toNat*1=a*8+b by omega]
 exact adP ha hb
abbrev syF (l : List (Int × Int)) : Nat→Nat→Bool:=fun x y=>jh l (x : Int) (y : Int)
abbrev muF (l : List TyD) : Nat→Nat→Bool:=fun x y=>qG l (x : Int) (y : Int)
def clH (sy : Nat→Nat→Bool) (a b c : Nat) : Bool:=!((sy a b&&sy b c)&&(!decide (a=c) && !sy a c))
def clG (n : Nat) (mu sy : Nat→Nat→Bool) (a b : Nat) : Bool:=(List.range n).all (clH sy a b) && !(!decide (a=b)&&(mu a b && !sy a b))
def clF (n : Nat) (mu sy : Nat→Nat→Bool) (a : Nat) : Bool:=(List.range n).all (clG n mu sy a)
theorem aeN (n : Nat) (l : List TyD) (o : List (Int × Int)) : abL n (qG l) (jh o)=(List.range n).all (clF n (muF l) (syF o)):=by
 unfold abL clF clG clH;simp only [decide_not,Int.natCast_inj]
def jj (l : List (Int × Int)) (i : Nat) : Option (Int × Int):=if i=0 then none else l[i - 1]?
def adR (w : Option (Int × Int)) (o : Int × Int) : Bool:=match w with|none=>true|some w=>ji w o
theorem adS {lv : Int} {l : List (Int × Int)} {i : Nat} (h : i<l.length) : qT lv (jj l i) (l.drop i)=((xT lv l[i]&&adR (jj l i) l[i])&&qT lv (jj l (i+1)) (l.drop (i+1))):=by
 rw [aeM h,jj,jj,if_neg (Nat.succ_ne_zero i),Nat.add_sub_cancel,List.getElem?_eq_getElem h];rfl
set_option maxHeartbeats 2000000 in
theorem Qc {g : GrD} {c : List Value} {w : World} {r : Gh} {K : Value→World→Prop} (hr : Holds r w) (hg : GrG r c g) (hlv0 : 0≤g.lv) (hlv8 : g.lv≤8) (hpn0 : 0≤g.pn) (hpn1 : g.pn<g.tys.length)
  (hx : ∀ t ∈ g.tys.take (g.pn.toNat+1),∀ x ∈ yL t,0≤x∧x<8) (h : ∀ w',Ext w w'→K (.bool (Z0 g)) w') : ze Tryz.prog Tryz.kT #[.agg c.toArray] w K:=by
 obtain ⟨vo,vt,vn,vp,rfl,h1,h2,h3,h4⟩:=hg
 obtain ⟨qo,capo,rfl,_,_⟩:=h1.sl.shape
 obtain ⟨qt,capt,rfl,_,hct⟩:=h2.sl.shape
 obtain ⟨qn,capn,rfl,_,_⟩:=h3.sl.shape
 obtain ⟨qp,capp,rfl,_,_⟩:=h4.sl.shape
 have hol : g.outs.length≤9223372036854775807:=h1.few
 have htl : g.tys.length≤9223372036854775807:=h2.few
 refine Tryz.Xu ?_
 unfold Tryz.ve
 have S:=St.start hr
 refine S.box fun b1 w1 S=>?_
 refine S.al fun b3 w2 S=>?_
 refine S.al fun b4 w3 S=>?_
 have S : StX noX w r w3 (.cell b3 (yl fun _ _=>false) 200 :: [.cell b4 (yl fun _ _=>false) 200,.cell b1 [.string g.name,.int .i64 g.lv,.slice qo g.outs.length capo,.int .i64 g.pn,.slice qt g.tys.length capt,.slice qn g.nms.length capn,.slice qp g.pts.length capp] 38]):=S.swap
 refine gG_ ?_
 rw [show (g.pn+1).toNat=(g.tys.take (g.pn.toNat+1)).length by rw [List.length_take];omega]
 refine QR (l:=g.tys.take (g.pn.toNat+1)) ((aa6 h2.sl).take _) (by rw [List.length_take];have:=h2.few;omega) hx S fun w4 S=>?_
 have S : StX noX w r w4 ([.cell b3 (yl (muF (g.tys.take (g.pn.toNat+1)))) 200,.cell b4 (yl fun _ _=>false) 200,.cell b1 [.string g.name,.int .i64 g.lv,.slice qo g.outs.length capo,.int .i64 g.pn,.slice qt g.tys.length capt,.slice qn g.nms.length capn,.slice qp g.pts.length capp] 38]):=by
  rw [xv (f:=muF (g.tys.take (g.pn.toNat+1))) (g:=Qb (fun _ _=>false) (g.tys.take (g.pn.toNat+1))) (fun x y _ _=>(Bool.false_or _).symm)]
  exact S
 rw [Z0,← acG,aeN] at h
 generalize hmu : muF (g.tys.take (g.pn.toNat+1))=mu at h S
 refine gG_ ?_
 refine zh (ι:=Nat) (fun i=>[.int .i64 (i : Nat)]) (fun i w'=>i≤g.outs.length∧qT g.lv (jj g.outs i) (g.outs.drop i)=qT g.lv none g.outs∧
  StX noX w r w' ([.cell b3 (yl mu) 200,.cell b4 (yl (syF (g.outs.take i))) 200,.cell b1 [.string g.name,.int .i64 g.lv,.slice qo g.outs.length capo,.int .i64 g.pn,.slice qt g.tys.length capt,.slice qn g.nms.length capn,.slice qp g.pts.length capp] 38])) (fun i=>g.outs.length - i) 0 rfl
  ⟨Nat.zero_le _,rfl,by
   rw [xv (f:=syF (g.outs.take 0)) (g:=fun _ _=>false) (fun x y _ _=>by simp [syF,jh])]
   exact S⟩ ?_
 clear S
 rintro i d w5 ⟨hi,hd,S⟩ K6 hK6
 rw [List.getD_cons_zero]
 refine gP_ ?_
 refine zm (fun hlt=>?_) (fun hge=>?_)
 ·have hlt : i<g.outs.length:=by omega
  obtain ⟨bo,oo,co,rfl,hco,hoo,hoc⟩:=h1.sl.get (by decide) hlt
  obtain rfl : co=_:=hoo
  rw [adS hlt] at hd
  have hgo:=fun (j : Nat) (hj : j<g.outs.length)=>h1.sl.get (by decide) hj
  obtain ⟨⟨o1,o2⟩,ho⟩ : ∃ o,g.outs[i]=o:=⟨_,rfl⟩
  rw [ho] at hd
  have hst : syF (g.outs.take (i+1))=fun x y=>syF (g.outs.take i) x y||(decide ((x : Int)=o1)&&decide ((y : Int)=o2)):=by
   funext x y
   show jh _ _ _=(jh _ _ _||_)
   rw [acF hlt,ho]
  refine gP_ ?_
  refine zQ (n:=2) hco (fun j v hj=>by rw [Int.toNat_natCast];exact S.at (hoc j v hj)) ?_
  rw [ho]
  refine S.al fun b6 w6 S=>?_
  refine S.stB (b:=b6) fun w7 S=>?_
  refine gG_ ?_
  refine zk (c:=decide (g.lv≤max o1 o2)) (fun _ K2 hK2=>?_) ?_
  ·refine gG_ ?_
   exact hK2
  refine zk (c:=decide (o1=o2)) (fun _ K2 hK2=>?_) ?_
  ·refine gG_ ?_
   exact hK2
  refine c_b (fun hbad=>?_) (fun hgood=>?_)
  ·have hin : xT g.lv (o1,o2)=false:=by rw [xT,hbad];rfl
   rw [hin,Bool.false_and,Bool.false_and] at hd
   rw [← hd,Bool.false_and] at h
   exact h _ S.ext
  have hin : xT g.lv (o1,o2)=true:=by rw [xT,hgood];rfl
  rw [hin,Bool.true_and] at hd
  have hrg : (0≤o1∧o1<8)∧(0≤o2∧o2<8):=by
   simp only [Bool.or_eq_false_iff,decide_eq_false_iff_not] at hgood;omega
  clear hgood hin
  obtain ⟨⟨ho10,ho18⟩,ho20,ho28⟩:=hrg
  refine zs (fun _ w'=>adR (jj g.outs i) (o1,o2)=true∧StX noX w r w' ([.cell b6 [.int .i64 o1,.int .i64 o2] 204,.cell b3 (yl mu) 200,.cell b4 (yl (syF (g.outs.take i))) 200,.cell b1 [.string g.name,.int .i64 g.lv,.slice (some ⟨bo,oo,none⟩) g.outs.length capo,.int .i64 g.pn,.slice qt g.tys.length capt,.slice qn g.nms.length capn,.slice qp g.pts.length capp] 38])) (fun K9 hK9=>?_) ?_
  ·refine gP_ ?_
   refine zm (fun hpos=>?_) (fun hz=>?_)
   ·have hpos : 0<i:=by omega
    have hlt2 : i - 1<g.outs.length:=by omega
    obtain ⟨bo2,oo2,co2,hbe,hco2,hoo2,hoc2⟩:=h1.sl.get (by decide) hlt2
    obtain rfl : co2=_:=hoo2
    cases hbe
    have hpv : jj g.outs i=some g.outs[i - 1]:=by rw [jj,if_neg (by omega),List.getElem?_eq_getElem hlt2]
    rw [hpv] at hd hK9
    obtain ⟨⟨p1,p2⟩,hp⟩ : ∃ o,g.outs[i - 1]=o:=⟨_,rfl⟩
    rw [hp] at hd hK9
    refine gG_ ?_
    refine zQ (n:=2) hco2 (fun j v hj=>by rw [show ((i : Int) - 1).toNat=i - 1 by omega];exact S.at (hoc2 j v hj)) ?_
    rw [hp]
    refine S.al fun b7 w8 S=>?_
    refine S.stB (b:=b7) fun w9 S=>?_
    refine gG_ ?_
    refine Jt (g:=decide (p1=o1)) (c:=decide (o2≤p2)) (fun _ K2 hK2=>?_) (fun _ K2 hK2=>?_) ?_
    ·refine gG_ ?_
     exact hK2
    ·refine gG_ ?_
     exact hK2
    rw [not_lt (o:=(o1,o2)) (w:=(p1,p2))]
    refine c_b (fun hb=>?_) (fun hb=>?_)
    ·have hb : ji (p1,p2) (o1,o2)=false:=by simpa using hb
     rw [show adR (some (p1,p2)) (o1,o2)=ji (p1,p2) (o1,o2) from rfl,hb,Bool.false_and] at hd
     rw [← hd,Bool.false_and] at h
     exact h _ S.ext
    ·have hb : ji (p1,p2) (o1,o2)=true:=by simpa using hb
     exact hK9 _ _ ⟨hb,S.drop b7⟩
   ·have hz : i=0:=by omega
    refine hK9 _ _ ⟨?_,S⟩
    rw [hz];rfl
  clear S
  rintro _ w10 ⟨haf,S⟩ d10
  have S:=S.go (Ext.drew _)
  rw [haf,Bool.true_and] at hd
  refine gG_ ?_
  refine S.st (b:=b4) (fun w11 S=>?_) (by rw [vu];omega)
  refine gP_ ?_
  rw [show ((i : Int)+1)=((i+1 : Nat) : Int) by omega]
  refine hK6 (i+1) _ ⟨hlt,hd,?_⟩ (by omega)
  rw [show 0+o1.toNat*8+o2.toNat*1=o1.toNat*8+o2.toNat by omega,aae (by omega) (by omega)] at S
  rw [hst,xv (f:=fun x y=>syF (g.outs.take i) x y||(decide ((x : Int)=o1)&&decide ((y : Int)=o2))) (g:=fun x y=>syF (g.outs.take i) x y||(decide (x=o1.toNat)&&decide (y=o2.toNat))) (fun x y _ _=>by
   show (syF (g.outs.take i) x y||(decide ((x : Int)=o1)&&decide ((y : Int)=o2)))=(syF (g.outs.take i) x y||(decide (x=o1.toNat)&&decide (y=o2.toNat)))
   rw [show decide ((x : Int)=o1)=decide (x=o1.toNat) from decide_eq_decide.2 (by omega),show decide ((y : Int)=o2)=decide (y=o2.toNat) from decide_eq_decide.2 (by omega)])]
  exact S.drop b6
 have hie : i=g.outs.length:=by omega
 rw [hie,List.take_length] at S
 rw [hie,List.drop_length] at hd
 rw [← hd,show qT g.lv (jj g.outs g.outs.length) []=true from by rw [qT],Bool.true_and] at h
 clear hd hK6 K6 hie hge hi
 generalize hsy : syF g.outs=sy at h S
 obtain ⟨n,hn⟩ : ∃ n : Nat,g.lv.toNat=n:=⟨_,rfl⟩
 have hn8 : n≤8:=by omega
 have hlvn : g.lv=(n : Int):=by omega
 rw [hn] at h
 refine gG_ ?_
 refine zh (ι:=Nat) (fun i=>[.int .i64 (i : Nat)]) (fun i w'=>i≤n∧((List.range n).drop i).all (clF n mu sy)=(List.range n).all (clF n mu sy)∧
  StX noX w r w' ([.cell b3 (yl mu) 200,.cell b4 (yl sy) 200,.cell b1 [.string g.name,.int .i64 g.lv,.slice qo g.outs.length capo,.int .i64 g.pn,.slice qt g.tys.length capt,.slice qn g.nms.length capn,.slice qp g.pts.length capp] 38])) (fun i=>n - i) 0 rfl
  ⟨Nat.zero_le _,rfl,S⟩ ?_
 clear S
 rintro a d2 w12 ⟨ha,hda,S⟩ K7 hK7
 rw [List.getD_cons_zero,hlvn]
 refine gP_ ?_
 refine zm (fun hlta=>?_) (fun hgea=>?_)
 rotate_left
 ·have hae : a=n:=by omega
  rw [hae,YM] at hda
  rw [← hda] at h
  exact h _ S.ext
 have hlta : a<n:=by omega
 rw [YL hlta] at hda
 refine gG_ ?_
 refine zh (ι:=Nat) (fun i=>[.int .i64 (i : Nat)]) (fun i w'=>i≤n∧((List.range n).drop i).all (clG n mu sy a)=(List.range n).all (clG n mu sy a)∧
  StX noX w r w' ([.cell b3 (yl mu) 200,.cell b4 (yl sy) 200,.cell b1 [.string g.name,.int .i64 g.lv,.slice qo g.outs.length capo,.int .i64 g.pn,.slice qt g.tys.length capt,.slice qn g.nms.length capn,.slice qp g.pts.length capp] 38])) (fun i=>n - i) 0 rfl
  ⟨Nat.zero_le _,rfl,S⟩ ?_
 clear S
 rintro b d3 w13 ⟨hb,hdb,S⟩ K8 hK8
 rw [List.getD_cons_zero,hlvn]
 refine gP_ ?_
 refine zm (fun hltb=>?_) (fun hgeb=>?_)
 rotate_left
 ·have hbe : b=n:=by omega
  rw [hbe,YM] at hdb
  have hF : clF n mu sy a=true:=hdb.symm
  rw [hF,Bool.true_and] at hda
  refine gP_ ?_
  rw [show ((a : Int)+1)=((a+1 : Nat) : Int) by omega]
  exact hK7 (a+1) _ ⟨hlta,hda,S⟩ (by omega)
 have hltb : b<n:=by omega
 rw [YL hltb] at hdb
 refine gG_ ?_
 refine zh (ι:=Nat) (fun i=>[.int .i64 (i : Nat)]) (fun i w'=>i≤n∧((List.range n).drop i).all (clH sy a b)=(List.range n).all (clH sy a b)∧
  StX noX w r w' ([.cell b3 (yl mu) 200,.cell b4 (yl sy) 200,.cell b1 [.string g.name,.int .i64 g.lv,.slice qo g.outs.length capo,.int .i64 g.pn,.slice qt g.tys.length capt,.slice qn g.nms.length capn,.slice qp g.pts.length capp] 38])) (fun i=>n - i) 0 rfl
  ⟨Nat.zero_le _,rfl,S⟩ ?_
 clear S
 have hfalse : clG n mu sy a b=false→(List.range n).all (clF n mu sy)=false:=fun e=>by
  rw [e,Bool.false_and] at hdb
  have hF : clF n mu sy a=false:=hdb.symm
  rw [hF,Bool.false_and] at hda
  exact hda.symm
 rintro cc d4 w14 ⟨hc,hdc,S⟩ K9 hK9
 rw [List.getD_cons_zero,hlvn]
 refine gP_ ?_
 refine zm (fun hltc=>?_) (fun hgec=>?_)
 ·have hltc : cc<n:=by omega
  rw [YL hltc] at hdc
  refine gP_ ?_
  refine gP_ ?_
  refine S.ld (b:=b4) ?_ (YN (f:=sy) (by omega) (by omega))
  refine zi (c:=sy b cc) (fun _ K2 hK2=>?_) ?_
  ·refine gP_ ?_
   refine gP_ ?_
   refine S.ld (b:=b4) ?_ (YN (f:=sy) (by omega) (by omega))
   exact hK2
  refine zi (c:=decide (a≠cc)) (fun _ K2 hK2=>?_) ?_
  ·refine gP_ ?_
   rw [show decide ((a : Int)≠(cc : Int))=decide (a≠cc) from decide_eq_decide.2 (by omega)]
   exact hK2
  refine zi (c:=!sy a cc) (fun _ K2 hK2=>?_) ?_
  ·refine gP_ ?_
   refine gP_ ?_
   refine S.ld (b:=b4) ?_ (YN (f:=sy) (by omega) (by omega))
   refine gP_ ?_
   exact hK2
  have hH : clH sy a b cc = !(((sy a b&&sy b cc)&&decide (a≠cc)) && !sy a cc):=by
   rw [clH,Bool.and_assoc (sy a b&&sy b cc),decide_not]
  refine c_b (fun hbad=>?_) (fun hgood=>?_)
  ·rw [hH,hbad] at hdc
   have hA : (List.range n).all (clH sy a b)=false:=by rw [← hdc];rfl
   rw [hfalse (by rw [clG,hA,Bool.false_and])] at h
   exact h _ S.ext
  ·rw [hH,hgood,Bool.not_false,Bool.true_and] at hdc
   refine gP_ ?_
   rw [show ((cc : Int)+1)=((cc+1 : Nat) : Int) by omega]
   exact hK9 (cc+1) _ ⟨hltc,hdc,S⟩ (by omega)
 have hce : cc=n:=by omega
 rw [hce,YM] at hdc
 refine gP_ ?_
 refine zi (c:=mu a b) (fun _ K2 hK2=>?_) ?_
 ·refine gP_ ?_
  refine gP_ ?_
  refine S.ld (b:=b3) ?_ (YN (f:=mu) (by omega) (by omega))
  exact hK2
 refine zi (c:=!sy a b) (fun _ K2 hK2=>?_) ?_
 ·refine gP_ ?_
  refine gP_ ?_
  refine S.ld (b:=b4) ?_ (YN (f:=sy) (by omega) (by omega))
  refine gP_ ?_
  exact hK2
 have hG : clG n mu sy a b = !((decide ((a : Int)≠(b : Int))&&mu a b) && !sy a b):=by
  rw [clG,← hdc,Bool.true_and,Bool.and_assoc,show decide ((a : Int)≠(b : Int)) = !decide (a=b) from by rw [← decide_not];exact decide_eq_decide.2 (by omega)]
 refine c_b (fun hbad=>?_) (fun hgood=>?_)
 ·rw [hfalse (by rw [hG,hbad];rfl)] at h
  exact h _ S.ext
 ·rw [hG,hgood,Bool.not_false,Bool.true_and] at hdb
  refine gP_ ?_
  rw [show ((b : Int)+1)=((b+1 : Nat) : Int) by omega]
  exact hK8 (b+1) _ ⟨hltb,hdb,S⟩ (by omega)
end Go.Proofs
end
section
namespace Go.Sh
open Go.RowKit
end Go.Sh
end
section
namespace Go.Proofs
open Go.Sh
set_option maxRecDepth 100000
set_option linter.unusedSimpArgs false
set_option linter.unusedVariables false
end Go.Proofs
end
section
namespace Go.Sh
open Go.RowKit Go.MapKept
set_option linter.unusedVariables false
def zr1 (P : Program) (t : TypeId) : Option Value:=(P.info? t).bind fun i=>i.zero
theorem JZ {P : Program} {t : TypeId} {z : Value} (hz : zr1 P t=some z) (w : World) : (zeroValue t).run P w = .ok z w:=by
 unfold zr1 at hz
 cases hi : P.info? t with
 |none=>rw [hi] at hz;cases hz
 |some i=>
  rw [hi] at hz
  have hz : i.zero=some z:=hz
  simp [zeroValue,typeInfo,Sem.run,pure,hi,hz,Sem.run_bind,Result.andThen]
def mpT (P : Program) (t : TypeId) : Option (TypeId × TypeId):=match P.underlying t with
 |some (.map k e)=>(match P.underlying k with|some .string=>some (k,e)|_=>none)
 |_=>none
theorem aah {P : Program} {t k e : TypeId} (h : mpT P t=some (k,e)) : P.underlying t=some (.map k e)∧P.underlying k=some .string:=by
 unfold mpT at h
 split at h
 ·rename_i k' e' h1
  split at h
  ·rename_i h2
   cases h;exact ⟨h1,h2⟩
  ·cases h
 ·cases h
def Z2 (x : ByteArray) : List MapEntry→Option Value
 |[]=>none
 |m::l=>match m.key with|.string s=>if x == s then some m.val else Z2 x l|_=>Z2 x l
def adT (l : List MapEntry) : Prop:=∀ m ∈ l,∃ s,m.key = .string s
theorem Qd {x : ByteArray} : ∀ {l : List MapEntry} {i : Nat},adT l→∃ o,Instr.findNow .string (.string x) l i=some o∧o.map (·.2)=Z2 x l
 |[],i,_=>⟨none,rfl,rfl⟩
 |m::l,i,h=>by
  obtain ⟨s,hs⟩:=h m List.mem_cons_self
  cases hx : (x == s) with
  |true=>
   refine ⟨some (i,m.val),?_,?_⟩
   ·rw [Instr.findNow,hs]
    simp [Instr.sameNow,hx]
   ·rw [Z2,hs];simp [hx]
  |false=>
   obtain ⟨o,h1,h2⟩:=Qd (x:=x) (l:=l) (i:=i+1) fun y hy=>h y (List.mem_cons_of_mem _ hy)
   refine ⟨o,?_,?_⟩
   ·rw [Instr.findNow,hs]
    simp [Instr.sameNow,hx,h1]
   ·rw [h2,Z2,hs];simp [hx]
theorem acI (x y : ByteArray) : (x == y)=(x.toList == y.toList):=by
 rw [show (x == y)=(x.data == y.data) by cases x;cases y;rfl,ByteArray.toList_eq,ByteArray.toList_eq,Bool.eq_iff_iff,beq_iff_eq,beq_iff_eq,Array.toList_inj]
section
variable {P : Program} {X : Nat→Prop} {w0 w : World} {r : Gh} {L : List Asr} {t k e : TypeId} {b c : Nat} {es : Array MapEntry}
theorem StX.addO (S : StX X w0 r w L) {w' : World} (ex : Ext w w') {o : Obj} (hb : w.heap.size≤b) (B : w'.heap[b]? = some o) (ho : Obj.isBook o=false) : StX X w0 r w' (.obj b (· = o)::L):=by
 have S':=S.go ex
 refine ⟨S'.x,S'.holds,?_,?_,.cons ?_ S'.apart⟩
 ·intro x hx;rcases List.mem_cons.1 hx with rfl|hx
  ·exact ⟨o,B,ho,rfl⟩
  ·exact S'.has x hx
 ·intro x hx;rcases List.mem_cons.1 hx with rfl|hx
  ·rintro k rfl
   exact ⟨.inl (by have:=S.x.size;omega),fun o ho=>by have:=S.holds.lt ho;omega⟩
  ·exact S'.mine x hx
 ·rintro y hy k rfl hk
  have:=Asr.lt (S.has y hy) hk;omega
theorem StX.mkMap (S : StX X w0 r w L) {K : Value→World→Prop} (h : ∀ b w',StX X w0 r w' (.obj b (· = .map #[] 0)::L)→K (.map (some b)) w') : opW P w (Instr.makeMap t none) K:=by
 refine ⟨.map (some w.heap.size),{ w with heap:=w.heap.push (.map #[] 0) },?_,h _ _ (S.addO ?_ (Nat.le_refl _) ?_ rfl)⟩
 ·simp [Instr.makeMap,newObj,Sem.run_bind,Sem.run,pure,Result.andThen]
  try rfl
 ·exact ⟨rfl,rfl,rfl,by simp,fun b hb=>by simp [Array.getElem?_push,Nat.ne_of_lt hb]⟩
 ·simp
theorem StX.mapAdd (S : StX X w0 r w (.obj b (· = .map es c)::L)) {x : ByteArray} {v : Value} (ht : mpT P t=some (k,e)) (hs : adT es.toList) (hn : Z2 x es.toList=none) {K : World→Prop}
  (h : ∀ w',StX X w0 r w' (.obj b (· = .map (es.push { key:=.string x,val:=v,born:=c }) (c+1))::L)→K w') : opU P w (Instr.mapUpdate t (.map (some b)) (.string x) v) K:=by
 obtain ⟨ht,hk⟩:=aah ht
 obtain ⟨o,hb,_,rfl⟩:=S.has _ List.mem_cons_self
 obtain ⟨o,h1,h2⟩:=Qd (x:=x) (i:=0) hs
 have h3 : o=none:=by
  rw [hn] at h2
  cases o with
  |none=>rfl
  |some y=>cases h2
 subst h3
 have hf:=run_findKey (w:=w) hk h1
 refine ⟨{ w with heap:=w.heap.setIfInBounds b (.map (es.push { key:=.string x,val:=v,born:=c }) (c+1)) },?_,h _ ?_⟩
 ·simp [Instr.mapUpdate,run_underlying ht,MapKept.run_getObj_map hb,run_checkKey (w:=w) hk (k:=.string x) trivial false 9999,hf,MapKept.run_setObj_map _ hb,Result.andThen]
 ·obtain ⟨e1,e2⟩:=heap_set hb (o':=.map (es.push { key:=.string x,val:=v,born:=c }) (c+1))
  exact S.turn (p:=[]) (x:=.obj b (· = .map es c)) (y:=.obj b (· = .map (es.push { key:=.string x,val:=v,born:=c }) (c+1))) ⟨rfl,rfl,rfl,by simp,fun k _ hk=>e2 k hk⟩ ⟨_,e1,rfl,rfl⟩ fun k hk=>.inl hk
theorem StX.mapGet (S : StX X w0 r w (.obj b (· = .map es c)::L)) {x : ByteArray} {z : Value} (ht : mpT P t=some (k,e)) (hz : zr1 P e=some z) (hs : adT es.toList) {K : Value→Prop} (h : K ((Z2 x es.toList).getD z)) :
  opQ P w (Instr.lookup t (.map (some b)) (.string x) false) K:=by
 obtain ⟨ht,hk⟩:=aah ht
 obtain ⟨o,hb,_,rfl⟩:=S.has _ List.mem_cons_self
 obtain ⟨o,h1,h2⟩:=Qd (x:=x) (i:=0) hs
 refine ⟨_,fun w' ex=>?_,h⟩
 have hb' : w'.heap[b]? = some (.map es c):=(ex.block b (Array.getElem?_eq_some_iff.1 hb).1).trans hb
 have hf:=run_findKey (w:=w') hk h1
 rw [← h2]
 cases o with
 |none=>simp [Instr.lookup,run_underlying ht,MapKept.run_getObj_map hb',run_checkKey (w:=w') hk (k:=.string x) trivial _ 9999,hf,JZ hz,Result.andThen]
 |some y=>simp [Instr.lookup,run_underlying ht,MapKept.run_getObj_map hb',run_checkKey (w:=w') hk (k:=.string x) trivial _ 9999,hf,Result.andThen]
end
end Go.Sh
end
section
namespace Go.Proofs
open Go.Sh
set_option maxRecDepth 100000
set_option linter.unusedSimpArgs false
set_option linter.unusedVariables false
structure PaD where
 tt : TyD
 tm : Int
 tok : Bool
 ft : TyD
 fm : Int
 fok : Bool
 at' : TyD
 aok : Bool
 bt : TyD
 bok : Bool
noncomputable def ptH (u : UnD) (g : GrD) (p : PtD) (x : PaD) : Bool:=
 if p.op=1 then ((zC p { to:=true,a:=true } && (x.tok&&decide (x.tm<3)))&&x.aok)&&yp yS x.at' x.tt
 else if p.op=2 then
  (zC p { to:=true,a:=true,b:=true,sign:=true } && ((x.tok&&decide (x.tm<3))&&(x.aok&&x.bok))) &&
   (if yM p.sign [[43],[45],[42],[47],[37]] then isK x.tt 1&&(isK x.at' 1&&isK x.bt 1)
    else if yM p.sign [[60],[60,61],[62],[62,61]] then isK x.tt 2&&(isK x.at' 1&&isK x.bt 1)
    else if yM p.sign [[61,61],[33,61]] then isK x.tt 2&&((isK x.at' 1&&isK x.bt 1)||(isK x.at' 2&&isK x.bt 2)) else false)
 else if p.op=3 then
  ((zC p { to:=true,a:=true,sign:=true } && (x.tok&&decide (x.tm<3)))&&x.aok) &&
   (if yM p.sign [[45]] then isK x.tt 1&&isK x.at' 1 else if yM p.sign [[33]] then isK x.tt 2&&isK x.at' 2 else false)
 else if p.op=4 then
  ((((zC p { to:=true,fr:=true,mu:=true } && (x.tok&&decide (x.tm<3)))&&x.fok)&&isK x.tt 4)&&(x.tt.m == p.mu))&&(yp yS (x.tt.of.headD ys) x.ft && !(p.mu&&decide (x.fm=3)))
 else if p.op=5 then (((zC p { to:=true,a:=true } && (x.tok&&decide (x.tm<3)))&&x.aok)&&isK x.tt 3)&&yp yS (x.tt.of.headD ys) x.at'
 else if p.op=6 then
  (((zC p { to:=true,args:=true,st:=true } && (x.tok&&decide (x.tm<3)))&&isK x.tt 5)&&decide (x.tt.st=p.st))&&kS u.ss g.tys p.args (xM u.ss x.tt).1
 else if p.op=7 then
  ((zC p { to:=true,args:=true,fn:=true } && (x.tok&&decide (x.tm<3)))&&(decide (0≤p.fn)&&decide (p.fn<u.fs.length))) &&
   (match u.fs[p.fn.toNat]? with
    |some f=>yp yS x.tt (f.tys.headD ys)&&kS u.ss g.tys p.args ((f.tys.drop 1).take f.pn.toNat)
    |none=>false)
 else if p.op=8 then (zC p { to:=true } && (x.tok&&decide (x.tm<3)))&&isK x.tt 1
 else if p.op=9 then (zC p { a:=true } && x.aok)&&isK x.at' 1
 else if p.op=10 then ((zC p { fr:=true } && x.fok)&&(vk u.ss x.ft).1)&&decide (x.fm<2)
 else if p.op=11 then ((zC p { fr:=true } && x.fok)&&decide (0<p.fr.l))&&decide (p.fr.ps.length=0)
 else if p.op=12 then ((zC p { a:=true,el:=true } && x.aok)&&isK x.at' 2)&&ZZ g p.el
 else if p.op=13∨p.op=14 then zC p {}
 else false
noncomputable def pad (u : UnD) (g : GrD) (p : PtD) : PaD:=
 ⟨(zY u.ss g.tys p.to).1,(zY u.ss g.tys p.to).2.1,(zY u.ss g.tys p.to).2.2,(zY u.ss g.tys p.fr).1,(zY u.ss g.tys p.fr).2.1,(zY u.ss g.tys p.fr).2.2,
  (yA u.ss g.tys p.a).1,(yA u.ss g.tys p.a).2,(yA u.ss g.tys p.b).1,(yA u.ss g.tys p.b).2⟩
theorem afE (u : UnD) (g : GrD) (p : PtD) : ptG u g p=ptH u g p (pad u g p):=rfl
theorem bb4 {a b c d : Bool} (h : (((!a || !b) || !c) || !d)=true) : (a&&(b&&(c&&d)))=false:=by revert h;cases a<;>cases b<;>cases c<;>cases d<;>simp
theorem agp {a b c d : Bool} (h : (((!a || !b) || !c) || !d)=false) : (a&&(b&&(c&&d)))=true:=by revert h;cases a<;>cases b<;>cases c<;>cases d<;>simp
theorem bb3 {a b c : Bool} {x y : Int} (h : (((!a || !b) || !c)||decide (x≠y))=true) : (((a&&b)&&c)&&decide (x=y))=false:=by
 by_cases e : x=y
 ·simp only [e] at h ⊢;revert h;cases a<;>cases b<;>cases c<;>simp
 ·simp [e]
theorem agq {a b c : Bool} {x y : Int} (h : (((!a || !b) || !c)||decide (x≠y))=false) : (((a&&b)&&c)&&decide (x=y))=true:=by
 by_cases e : x=y
 ·simp only [e] at h ⊢;revert h;cases a<;>cases b<;>cases c<;>simp
 ·simp [e] at h
theorem bb5 {a b : Bool} {x y : Int} (h : (((!a || !b)||decide (x<0))||decide (y≤x))=true) : ((a&&b)&&(decide (0≤x)&&decide (x<y)))=false:=by
 by_cases e : 0≤x<;>by_cases f : x<y
 ·rw [decide_eq_false (show ¬ x<0 by omega),decide_eq_false (show ¬ y≤x by omega)] at h
  revert h;cases a<;>cases b<;>simp
 all_goals simp [e,f]
theorem agr {a b : Bool} {x y : Int} (h : (((!a || !b)||decide (x<0))||decide (y≤x))=false) : ((a&&b)&&(decide (0≤x)&&decide (x<y)))=true:=by
 simp only [Bool.or_eq_false_iff,decide_eq_false_iff_not,Bool.not_eq_false'] at h
 obtain ⟨⟨⟨h1,h2⟩,h3⟩,h4⟩:=h
 rw [h1,h2,decide_eq_true (show 0≤x by omega),decide_eq_true (show x<y by omega)];rfl
theorem mpK : mpT Tryz.prog 242=some (9,136):=by kernel_rfl
theorem mpZ : zr1 Tryz.prog 136=some (.int .u8 0):=by kernel_rfl
theorem adU (x : ByteArray) (f g : Int→Bool) : ∃ ks : Int,(Z2 x ((#[].push (⟨.string (bs [45]),.int .u8 1,0⟩ : MapEntry)).push ⟨.string (bs [33]),.int .u8 2,0+1⟩).toList).getD (.int .u8 0) = .int .u8 ks∧
  ((decide (ks≠0)&&f ks)&&g ks)=(if yM x [[45]] then f 1&&g 1 else if yM x [[33]] then f 2&&g 2 else false):=by
 have e : ((#[].push (⟨.string (bs [45]),.int .u8 1,0⟩ : MapEntry)).push ⟨.string (bs [33]),.int .u8 2,0+1⟩).toList = [⟨.string (bs [45]),.int .u8 1,0⟩,⟨.string (bs [33]),.int .u8 2,0+1⟩]:=rfl
 rw [e]
 simp only [Z2,acI,JP,yM,List.any_cons,List.any_nil,Bool.or_false]
 by_cases h1 : (x.toList == [45])=true
 ·exact ⟨1,by rw [if_pos h1];rfl,by rw [if_pos h1];simp⟩
 ·by_cases h2 : (x.toList == [33])=true
  ·exact ⟨2,by rw [if_neg h1,if_pos h2];rfl,by rw [if_neg h1,if_pos h2];simp⟩
  ·exact ⟨0,by rw [if_neg h1,if_neg h2];rfl,by rw [if_neg h1,if_neg h2];simp⟩
set_option maxHeartbeats 20000000 in
theorem Yp {u : UnD} {g : GrD} {p : PtD} {c : List Value} {v : Value} {w : World} {r : Gh} {K : Value→World→Prop} (hr : Holds r w) (hx : AskG r v u g) (hf : Z1 u.ss g.tys) (hfs : ∀ f ∈ u.fs,0≤f.pn∧f.pn<f.tys.length) (hp : PtG r c p)
  (h : ∀ w',Ext w w'→K (.bool (yw u g p)) w') : ze Tryz.prog Tryz.xO #[v,.agg c.toArray] w K:=by
 have hx0:=hx
 obtain ⟨p0,cap0,vf,vo,vt,vn,vp,rfl,hu,hg⟩:=hx
 have hu0:=hu
 obtain ⟨_,_,_,hE,_,_,hst,_,hfn⟩:=hu
 cases hE
 obtain ⟨qfn,capfn,rfl,_,_⟩:=hfn.sl.shape
 obtain ⟨_,_,_,_,hE,_,htys,_,hpts⟩:=hg
 cases hE
 obtain ⟨qp,capp,rfl,_,_⟩:=hpts.sl.shape
 have hp0:=hp
 obtain ⟨vto,va,vb,vl,vfr,rfl,h1,h2,h3,h4,h5⟩:=hp
 obtain ⟨qto,capto,rfl,_,_⟩:=h1.sl.shape
 obtain ⟨qa,capa,rfl,_,_⟩:=h2.sl.shape
 obtain ⟨qb,capb,rfl,_,_⟩:=h3.sl.shape
 obtain ⟨ql,capl,rfl,_,_⟩:=h4.sl.shape
 obtain ⟨qf,capf,rfl,_,_⟩:=h5.sl.shape
 have hpto : PlG r [.int .i64 p.to.l,.slice qto p.to.ps.length capto] p.to:=⟨_,rfl,h1⟩
 have hpfr : PlG r [.int .i64 p.fr.l,.slice qf p.fr.ps.length capf] p.fr:=⟨_,rfl,h5⟩
 have hoa : OpG r [.int .u8 p.a.k,.int .i64 p.a.n,.int .i64 p.a.pl.l,.slice qa p.a.pl.ps.length capa] p.a:=⟨_,rfl,h2⟩
 have hob : OpG r [.int .u8 p.b.k,.int .i64 p.b.n,.int .i64 p.b.pl.l,.slice qb p.b.pl.ps.length capb] p.b:=⟨_,rfl,h3⟩
 refine Tryz.ZU ?_
 unfold Tryz.qK
 have S:=St.start hr
 refine S.box fun b2 w1 S=>?_
 refine S.box fun b3 w2 S=>?_
 refine gg_ ?_
 refine S.al fun b5 w3 S=>?_
 refine S.st (b:=b5) fun w4 S=>?_
 refine gg_ ?_
 refine Jt (g:=decide (p.op≠14)) (c:=!ZZ g p.nx) (fun _ K2 hK2=>?_) (fun _ K2 hK2=>?_) ?_
 ·refine gg_ ?_
  exact hK2
 ·refine gg_ ?_
  refine JU (b:=b5) S ?_
  refine gp_ ?_
  exact hK2
 refine Jt (g:=decide (p.op=14)) (c:=decide (p.nx≠0)) (fun _ K2 hK2=>?_) (fun _ K2 hK2=>?_) ?_
 ·refine gg_ ?_
  exact hK2
 ·refine gg_ ?_
  exact hK2
 have hpg : yw u g p=(!((decide (p.tx<0)||(decide (p.op≠14) && !ZZ g p.nx))||(decide (p.op=14)&&decide (p.nx≠0)))&&ptG u g p):=by
  rw [yw];simp only [decide_not]
 rw [hpg] at h
 refine c_b (fun hbad=>?_) (fun hgood=>?_)
 ·rw [hbad,Bool.not_true,Bool.false_and] at h
  exact h _ S.ext
 rw [hgood,Bool.not_false,Bool.true_and,afE] at h
 clear hpg hgood
 have S:=S.go (Ext.drew _)
 have S : StX noX w r w4.drew [.cell b5 [.int .i64 (g.pts.length : Nat)] 3,
   .cell b3 [.int .u8 p.op,.int .i64 p.to.l,.slice qto p.to.ps.length capto,.int .u8 p.a.k,.int .i64 p.a.n,.int .i64 p.a.pl.l,.slice qa p.a.pl.ps.length capa,.int .u8 p.b.k,.int .i64 p.b.n,.int .i64 p.b.pl.l,.slice qb p.b.pl.ps.length capb,.slice ql p.args.length capl,
    .string p.sign,.int .i64 p.fr.l,.slice qf p.fr.ps.length capf,.bool p.mu,.int .i64 p.fn,.int .i64 p.st,.int .i64 p.nx,.int .i64 p.el,.int .i64 p.tx] 87,
   .cell b2 [.slice p0 u.ss.length cap0,.slice qfn u.fs.length capfn,.int .i64 u.mn,.string g.name,.int .i64 g.lv,vo,.int .i64 g.pn,vt,vn,.slice qp g.pts.length capp] 192]:=S
 obtain ⟨tt,tm,tok,hspt⟩ : ∃ tt tm tok,zY u.ss g.tys p.to=(tt,tm,tok):=⟨_,_,_,rfl⟩
 obtain ⟨ft,fm,fok,hspf⟩ : ∃ tt tm tok,zY u.ss g.tys p.fr=(tt,tm,tok):=⟨_,_,_,rfl⟩
 obtain ⟨ta,aok,hopa⟩ : ∃ t ok,yA u.ss g.tys p.a=(t,ok):=⟨_,_,rfl⟩
 obtain ⟨tb,bok,hopb⟩ : ∃ t ok,yA u.ss g.tys p.b=(t,ok):=⟨_,_,rfl⟩
 have hpad : pad u g p=⟨tt,tm,tok,ft,fm,fok,ta,aok,tb,bok⟩:=by simp only [pad,hspt,hspf,hopa,hopb]
 rw [hpad,ptH] at h
 dsimp only at h
 have inside : tok=true→(tt.k=3∨tt.k=4)→∃ uu,tt.of = [uu]:=by
  intro h1 h2
  have hfi:=acA hf (p:=p.to) (by rw [hspt];exact h1)
  rw [hspt] at hfi
  rcases Fine.cases hfi with ⟨_,h3⟩|⟨uu,h3,_⟩
  ·have h3 : tt.k=1∨tt.k=2∨tt.k=5:=h3
   omega
  ·exact ⟨uu,h3⟩
 refine zs (fun s w'=>∃ b7 b8 q7 c7 q8 c8,s = [.pointer (some ⟨b7,0,none⟩),.pointer (some ⟨b8,0,none⟩)]∧TyG r (tyV tt q7 c7) tt∧TyG r (tyV ft q8 c8) ft∧
  StX noX w r w' (.cell b8 (spL ft q8 c8 fm fok) 234 :: .cell b7 (spL tt q7 c7 tm tok) 234 :: [.cell b5 [.int .i64 (g.pts.length : Nat)] 3,
   .cell b3 [.int .u8 p.op,.int .i64 p.to.l,.slice qto p.to.ps.length capto,.int .u8 p.a.k,.int .i64 p.a.n,.int .i64 p.a.pl.l,.slice qa p.a.pl.ps.length capa,.int .u8 p.b.k,.int .i64 p.b.n,.int .i64 p.b.pl.l,.slice qb p.b.pl.ps.length capb,.slice ql p.args.length capl,
    .string p.sign,.int .i64 p.fr.l,.slice qf p.fr.ps.length capf,.bool p.mu,.int .i64 p.fn,.int .i64 p.st,.int .i64 p.nx,.int .i64 p.el,.int .i64 p.tx] 87,
   .cell b2 [.slice p0 u.ss.length cap0,.slice qfn u.fs.length capfn,.int .i64 u.mn,.string g.name,.int .i64 g.lv,vo,.int .i64 g.pn,vt,vn,.slice qp g.pts.length capp] 192])) (fun K30 hK30=>?_) ?_
 ·refine S.ldB (b:=b2) ?_ rfl
  refine gp_ ?_
  refine S.ldN (b:=b3) ?_
  refine S.ldB (b:=b2) ?_ rfl
  refine gp_ ?_
  refine S.ldN (b:=b3) ?_
  repeat' (first
   |(refine S.alU fun b9 w9 S=>?_)
   |(refine S.al fun b9 w9 S=>?_)
   |(refine S.stB fun w9 S=>?_)
   |(refine yD S.holds hx0 hf hpto hspt (fun q7 c7 w9 e9 ht7=>⟨e9,?_⟩);have S:=S.go e9)
   |(refine yD S.holds hx0 hf hpto hspt (fun q7 c7 w9 e9 ht7=>?_);have S:=S.go e9)
   |(refine yD S.holds hx0 hf hpfr hspf (fun q8 c8 w9 e9 ht8=>⟨e9,?_⟩);have S:=S.go e9)
   |(refine yD S.holds hx0 hf hpfr hspf (fun q8 c8 w9 e9 ht8=>?_);have S:=S.go e9)
   |exact hK30 _ _ ⟨_,_,_,_,_,_,rfl,ht7,ht8,S⟩
   |exact hK30 _ _ ⟨_,_,_,_,_,_,rfl,ht7,ht8,S.swap⟩
   |refine ⟨?_,?_⟩)
 clear S
 rintro _ w33 ⟨b7,b8,q7,c7,q8,c8,rfl,ht7,ht8,S⟩ d33
 simp only [List.getD_cons_zero,List.getD_cons_succ]
 refine gg_ ?_
 refine zi (c:=decide (tm<3)) (fun _ K2 hK2=>?_) ?_
 ·refine gg_ ?_
  exact hK2
 refine S.ldB (b:=b2) ?_ rfl
 refine gp_ ?_
 refine S.ldN (b:=b3) ?_
 refine xm S.holds hx0 hf hoa hopa fun q10 c10 w34 e34 hta=>?_
 have S:=S.go e34
 refine gp_ ?_
 refine gp_ ?_
 refine S.al fun b10 w35 S=>?_
 refine S.stB (b:=b10) fun w36 S=>?_
 refine S.ldB (b:=b2) ?_ rfl
 refine gp_ ?_
 refine S.ldN (b:=b3) ?_
 refine xm S.holds hx0 hf hob hopb fun q12 c12 w37 e37 htb=>?_
 have S:=S.go e37
 refine gp_ ?_
 refine gp_ ?_
 refine S.al fun b12 w38 S=>?_
 refine S.stB (b:=b12) fun w39 S=>?_
 refine gg_ ?_
 refine zm (fun ho=>?_) (fun ho=>?_)
 ·rw [if_pos ho] at h
  refine S.ldB (b:=b3) ?_ rfl
  refine gp_ ?_
  refine zO (f:={ to:=true,a:=true }) S.holds hp0 fun w31 e31=>?_
  have S:=S.go e31
  refine zi (c:=tok&&decide (tm<3)) (fun _ K2 hK2=>hK2) ?_
  refine zi (c:=aok) (fun _ K2 hK2=>hK2) ?_
  refine zF (c:=yp yS ta tt) (fun _ K2 hK2=>?_) fun w32 e32=>h _ (S.go e32).ext
  refine S.ldB (b:=b10) ?_ rfl
  refine gp_ ?_
  refine S.ldN (b:=b7) ?_
  exact xF S.holds hta ht7 fun w33 e33=>hK2 _ e33
 rw [if_neg ho] at h
 clear ho
 refine gg_ ?_
 refine zm (fun ho=>?_) (fun ho=>?_)
 ·rw [if_pos ho] at h
  refine S.ldB (b:=b3) ?_ rfl
  refine gp_ ?_
  refine zO (f:={ to:=true,a:=true,b:=true,sign:=true }) S.holds hp0 fun w31 e31=>?_
  have S:=S.go e31
  refine gp_ ?_
  refine zk (c:=!(tok&&decide (tm<3))) (fun _ K2 hK2=>?_) ?_
  ·refine gp_ ?_
   exact hK2
  refine zk (c:=!aok) (fun _ K2 hK2=>?_) ?_
  ·refine gp_ ?_
   exact hK2
  refine zk (c:=!bok) (fun _ K2 hK2=>?_) ?_
  ·refine gp_ ?_
   exact hK2
  refine c_b (fun hc=>?_) (fun hc=>?_)
  ·rw [bb4 hc,Bool.false_and] at h
   exact h _ S.ext
  rw [agp hc,Bool.true_and] at h
  refine S.ldB (b:=b10) ?_ rfl
  refine z7 S.holds fun w34 e34=>?_
  have S:=S.go e34
  refine zF (c:=isK tb 1) (fun hb K2 hK2=>?_) fun w32 e32=>?_
  ·refine S.ldB (b:=b12) ?_ rfl
   exact z7 S.holds fun w33 e33=>hK2 _ e33
  have S:=S.go e32
  refine gg_ ?_
  refine zs (fun s w'=>s = [.bool (yM p.sign [[43],[45],[42],[47],[37]])]∧Ext w32 w') (fun K9 hK9=>?_) ?_
  ·have hk:=hK9 _ _ ⟨rfl,Ext.refl _⟩
   simp only [yM,List.any_cons,List.any_nil,Bool.or_false] at hk
   refine gp_ ?_
   refine qm hk fun _ hk=>?_
   refine gp_ ?_
   refine qm hk fun _ hk=>?_
   refine gp_ ?_
   refine qm hk fun _ hk=>?_
   refine gp_ ?_
   refine qm hk fun _ hk=>?_
   refine gp_ ?_
   exact hk
  rintro _ w41 ⟨rfl,e41⟩ d41
  have S:=S.go e41
  rw [List.getD_cons_zero]
  refine c_b (fun hs=>?_) (fun hs=>?_)
  ·rw [if_pos hs] at h
   refine gp_ ?_
   refine S.ldN (b:=b7) ?_
   refine z7 S.holds fun w35 e35=>?_
   have S:=S.go e35
   exact zi (c:=isK ta 1&&isK tb 1) (fun _ K2 hK2=>hK2) (h _ S.ext)
  rw [if_neg (by rw [hs];decide)] at h
  refine zs (fun s w'=>s = [.bool (yM p.sign [[60],[60,61],[62],[62,61]])]∧Ext w41 w') (fun K9 hK9=>?_) ?_
  ·have hk:=hK9 _ _ ⟨rfl,Ext.refl _⟩
   simp only [yM,List.any_cons,List.any_nil,Bool.or_false] at hk
   refine gp_ ?_
   refine qm hk fun _ hk=>?_
   refine gp_ ?_
   refine qm hk fun _ hk=>?_
   refine gp_ ?_
   refine qm hk fun _ hk=>?_
   refine gp_ ?_
   exact hk
  rintro _ w41 ⟨rfl,e41⟩ d41
  have S:=S.go e41
  rw [List.getD_cons_zero]
  refine c_b (fun hs=>?_) (fun hs=>?_)
  ·rw [if_pos hs] at h
   refine gp_ ?_
   refine S.ldN (b:=b7) ?_
   refine z7 S.holds fun w35 e35=>?_
   have S:=S.go e35
   exact zi (c:=isK ta 1&&isK tb 1) (fun _ K2 hK2=>hK2) (h _ S.ext)
  rw [if_neg (by rw [hs];decide)] at h
  refine zs (fun s w'=>s = [.bool (yM p.sign [[61,61],[33,61]])]∧Ext w41 w') (fun K9 hK9=>?_) ?_
  ·have hk:=hK9 _ _ ⟨rfl,Ext.refl _⟩
   simp only [yM,List.any_cons,List.any_nil,Bool.or_false] at hk
   refine gp_ ?_
   refine qm hk fun _ hk=>?_
   refine gp_ ?_
   exact hk
  rintro _ w41 ⟨rfl,e41⟩ d41
  have S:=S.go e41
  rw [List.getD_cons_zero]
  refine c_b (fun hs=>?_) (fun hs=>?_)
  rotate_left
  ·rw [if_neg (by rw [hs];decide)] at h
   exact h _ S.ext
  rw [if_pos hs] at h
  refine gp_ ?_
  refine S.ldN (b:=b7) ?_
  refine z7 S.holds fun w35 e35=>?_
  have S:=S.go e35
  generalize isK tt 2=x1 at h ⊢
  generalize (isK ta 1&&isK tb 1)=x2 at h ⊢
  cases x1 with
  |false=>
   (intro K9 hK9;refine gd_ ?_;refine hK9 _ _ fun _=>?_;clear hK9 K9)
   (intro K9 hK9;refine gd_ ?_;refine hK9 _ _ fun _=>?_;clear hK9 K9)
   (intro K9 hK9;refine gd_ ?_;refine hK9 _ _ fun _=>?_;clear hK9 K9)
   (intro K9 hK9;refine gd_ ?_;refine hK9 _ _ fun _=>?_;clear hK9 K9)
   (intro K9 hK9;refine gd_ ?_;refine hK9 _ _ fun _=>?_;clear hK9 K9)
   refine gd_ ?_
   exact h _ S.ext
  |true=>
   cases x2 with
   |true=>
    (intro K9 hK9;refine gd_ ?_;refine hK9 _ _ fun _=>?_;clear hK9 K9)
    (intro K9 hK9;refine gd_ ?_;refine hK9 _ _ fun _=>?_;clear hK9 K9)
    (intro K9 hK9;refine gd_ ?_;refine hK9 _ _ fun _=>?_;clear hK9 K9)
    (intro K9 hK9;refine gd_ ?_;refine hK9 _ _ fun _=>?_;clear hK9 K9)
    (intro K9 hK9;refine gd_ ?_;refine hK9 _ _ fun _=>?_;clear hK9 K9)
    refine gd_ ?_
    exact h _ S.ext
   |false=>
    (intro K9 hK9;refine gd_ ?_;refine hK9 _ _ fun _=>?_;clear hK9 K9)
    refine zs (fun s w'=>s = [.bool (isK ta 2)]∧Ext w35 w') (fun K9 hK9=>?_) ?_
    ·refine gd_ ?_
     exact z7 S.holds fun w36 e36=>hK9 _ _ ⟨rfl,e36⟩
    rintro _ w37 ⟨rfl,e37⟩ d37
    have S:=S.go e37
    generalize isK ta 2=x3 at h ⊢
    cases x3 with
    |false=>
     (intro K9 hK9;refine gd_ ?_;refine hK9 _ _ fun _=>?_;clear hK9 K9)
     (intro K9 hK9;refine gd_ ?_;refine hK9 _ _ fun _=>?_;clear hK9 K9)
     (intro K9 hK9;refine gd_ ?_;refine hK9 _ _ fun _=>?_;clear hK9 K9)
     refine gd_ ?_
     exact h _ S.ext
    |true=>
     refine zs (fun s w'=>s = [.bool (isK tb 2)]∧Ext w37 w') (fun K9 hK9=>?_) ?_
     ·refine gd_ ?_
      exact z7 S.holds fun w36 e36=>hK9 _ _ ⟨rfl,e36⟩
     rintro _ w38 ⟨rfl,e38⟩ d38
     have S:=S.go e38
     generalize isK tb 2=x4 at h ⊢
     (intro K9 hK9;refine gd_ ?_;refine hK9 _ _ fun _=>?_;clear hK9 K9)
     (intro K9 hK9;refine gd_ ?_;refine hK9 _ _ fun _=>?_;clear hK9 K9)
     refine gd_ ?_
     cases x4<;>exact h _ S.ext
 rw [if_neg ho] at h
 clear ho
 refine gg_ ?_
 refine zm (fun ho=>?_) (fun ho=>?_)
 ·rw [if_pos ho] at h
  refine S.mkMap fun b70 w70 S=>?_
  refine S.mapAdd mpK (by intro m hm;cases hm) rfl fun w71 S=>?_
  refine S.mapAdd mpK (by intro m hm;rcases List.mem_cons.1 hm with rfl|hm<;>first|exact ⟨_,rfl⟩|cases hm) (by decide) fun w72 S=>?_
  refine gg_ ?_
  refine S.mapGet mpK mpZ (by
   intro m hm
   rcases List.mem_cons.1 hm with rfl|hm
   ·exact ⟨_,rfl⟩
   rcases List.mem_cons.1 hm with rfl|hm<;>first|exact ⟨_,rfl⟩|cases hm) ?_
  obtain ⟨ks,hks,hk2⟩:=adU p.sign (isK tt) (isK ta)
  rw [hks]
  refine S.ldB (b:=b3) ?_ rfl
  refine gp_ ?_
  refine zO (f:={ to:=true,a:=true,sign:=true }) S.holds hp0 fun w31 e31=>?_
  have S:=S.go e31
  refine zi (c:=tok&&decide (tm<3)) (fun _ K2 hK2=>hK2) ?_
  refine zi (c:=aok) (fun _ K2 hK2=>hK2) ?_
  refine zi (c:=decide (ks≠0)) (fun _ K2 hK2=>?_) ?_
  ·refine gp_ ?_
   exact hK2
  refine zF (c:=isK tt ks) (fun hb K2 hK2=>?_) fun w32 e32=>?_
  ·refine gp_ ?_
   refine S.ldN (b:=b7) ?_
   exact z7 S.holds fun w33 e33=>hK2 _ e33
  have S:=S.go e32
  refine zF (c:=isK ta ks) (fun hb K2 hK2=>?_) fun w32 e32=>?_
  ·refine S.ldB (b:=b10) ?_ rfl
   exact z7 S.holds fun w33 e33=>hK2 _ e33
  have S:=S.go e32
  have:=h _ S.ext
  rw [← hk2] at this
  simpa only [Bool.and_assoc] using this
 rw [if_neg ho] at h
 clear ho
 refine gg_ ?_
 refine zm (fun ho=>?_) (fun ho=>?_)
 ·rw [if_pos ho] at h
  have S:=S.go (Ext.drew _)
  refine S.ldB (b:=b3) ?_ rfl
  refine gp_ ?_
  refine zO (f:={ to:=true,fr:=true,mu:=true }) S.holds hp0 fun w31 e31=>?_
  have S:=S.go e31
  refine zi (c:=tok&&decide (tm<3)) (fun _ K2 hK2=>hK2) ?_
  refine zi (c:=fok) (fun _ K2 hK2=>?_) ?_
  ·refine gg_ ?_
   exact hK2
  refine zF (c:=isK tt 4) (fun hb K2 hK2=>?_) fun w32 e32=>?_
  ·refine gp_ ?_
   refine S.ldN (b:=b7) ?_
   exact z7 S.holds fun w33 e33=>hK2 _ e33
  have S:=S.go e32
  refine zi (c:=tt.m == p.mu) (fun _ K2 hK2=>?_) ?_
  ·refine gg_ ?_
   exact hK2
  refine zF (c:=yp yS (tt.of.headD ys) ft) (fun hb K2 hK2=>?_) fun w33 e33=>?_
  ·simp only [Bool.and_eq_true] at hb
   obtain ⟨uu,hof⟩:=inside hb.1.1.1.2.1 (.inr (of_decide_eq_true hb.1.2))
   obtain ⟨bo,oo,q2,cap2,rfl,ht2,hcc⟩:=VD ht7 hof
   have hl1 : tt.of.length=1:=by rw [hof];rfl
   rw [hof] at hK2
   refine gg_ ?_
   refine zQ (n:=5) (c:=tyL uu q2 cap2) rfl (fun j v hj=>by simpa using S.at (hcc j v hj)) ?_
   refine gp_ ?_
   refine S.ldN (b:=b8) ?_
   exact xF S.holds ht2 ht8 fun w34 e34=>hK2 _ e34
  have S:=S.go e33
  have:=h _ S.ext
  rw [← Bool.and_assoc] at this
  generalize ((((((zC p { to:=true,fr:=true,mu:=true } && (tok&&decide (tm<3)))&&fok)&&isK tt 4)&&(tt.m == p.mu))&&yp yS (tt.of.headD ys) ft))=B at this ⊢
  cases B with
  |false=>
   (intro K9 hK9;refine gd_ ?_;refine hK9 _ _ fun _=>?_;clear hK9 K9)
   (intro K9 hK9;refine gd_ ?_;refine hK9 _ _ fun _=>?_;clear hK9 K9)
   (intro K9 hK9;refine gd_ ?_;refine hK9 _ _ fun _=>?_;clear hK9 K9)
   refine gd_ ?_
   exact this
  |true=>
   refine zs (fun s w'=>s = [.bool p.mu]∧w'=w33) (fun K9 hK9=>?_) ?_
   ·refine gd_ ?_
    exact hK9 _ _ ⟨rfl,rfl⟩
   rintro _ w33 ⟨rfl,rfl⟩ d33
   generalize p.mu=mu at this ⊢
   cases mu with
   |false=>
    (intro K9 hK9;refine gd_ ?_;refine hK9 _ _ fun _=>?_;clear hK9 K9)
    (intro K9 hK9;refine gd_ ?_;refine hK9 _ _ fun _=>?_;clear hK9 K9)
    refine gd_ ?_
    exact this
   |true=>
    refine zs (fun s w'=>s = [.bool (decide (fm=3))]∧w'=w33) (fun K9 hK9=>?_) ?_
    ·refine gd_ ?_
     exact hK9 _ _ ⟨rfl,rfl⟩
    rintro _ w33 ⟨rfl,rfl⟩ d33
    (intro K9 hK9;refine gd_ ?_;refine hK9 _ _ fun _=>?_;clear hK9 K9)
    refine gd_ ?_
    simpa using this
 rw [if_neg ho] at h
 clear ho
 refine gg_ ?_
 refine zm (fun ho=>?_) (fun ho=>?_)
 ·rw [if_pos ho] at h
  have S:=S.go (Ext.drew _)
  refine S.ldB (b:=b3) ?_ rfl
  refine gp_ ?_
  refine zO (f:={ to:=true,a:=true }) S.holds hp0 fun w31 e31=>?_
  have S:=S.go e31
  refine zi (c:=tok&&decide (tm<3)) (fun _ K2 hK2=>hK2) ?_
  refine zi (c:=aok) (fun _ K2 hK2=>hK2) ?_
  refine zF (c:=isK tt 3) (fun hb K2 hK2=>?_) fun w32 e32=>?_
  ·refine gp_ ?_
   refine S.ldN (b:=b7) ?_
   exact z7 S.holds fun w33 e33=>hK2 _ e33
  have S:=S.go e32
  refine zF (c:=yp yS (tt.of.headD ys) ta) (fun hb K2 hK2=>?_) fun w33 e33=>h _ (S.go e33).ext
  simp only [Bool.and_eq_true] at hb
  obtain ⟨uu,hof⟩:=inside hb.1.1.2.1 (.inl (of_decide_eq_true hb.2))
  obtain ⟨bo,oo,q2,cap2,rfl,ht2,hcc⟩:=VD ht7 hof
  have hl1 : tt.of.length=1:=by rw [hof];rfl
  rw [hof] at hK2
  refine gg_ ?_
  refine zQ (n:=5) (c:=tyL uu q2 cap2) rfl (fun j v hj=>by simpa using S.at (hcc j v hj)) ?_
  refine S.ldB (b:=b10) ?_ rfl
  exact xF S.holds ht2 hta fun w34 e34=>hK2 _ e34
 rw [if_neg ho] at h
 clear ho
 refine gg_ ?_
 refine zm (fun ho=>?_) (fun ho=>?_)
 ·rw [if_pos ho] at h
  refine S.ldB (b:=b3) ?_ rfl
  refine gp_ ?_
  refine zO (f:={ to:=true,args:=true,st:=true }) S.holds hp0 fun w31 e31=>?_
  have S:=S.go e31
  refine gp_ ?_
  refine zk (c:=!(tok&&decide (tm<3))) (fun _ K2 hK2=>?_) ?_
  ·refine gp_ ?_
   exact hK2
  refine kG (c:=!isK tt 5) (fun _ K2 hK2=>?_) fun w32 e32=>?_
  ·refine gp_ ?_
   refine S.ldN (b:=b7) ?_
   refine z7 S.holds fun w33 e33=>?_
   refine gp_ ?_
   exact hK2 _ e33
  have S:=S.go e32
  refine zk (c:=decide (tt.st≠p.st)) (fun _ K2 hK2=>?_) ?_
  ·refine gg_ ?_
   exact hK2
  refine c_b (fun hc=>?_) (fun hc=>?_)
  ·rw [bb3 hc,Bool.false_and] at h
   exact h _ S.ext
  rw [agq hc,Bool.true_and] at h
  refine gg_ ?_
  refine S.ldN (b:=b7) ?_
  refine Jp S.holds hst ht7 fun q9 cp9 top gs w35 e35 n35 hfd hcp=>?_
  have S:=S.new e35 n35
  refine gp_ ?_
  refine gp_ ?_
  refine JW (r:=((r.or (top.or (un gs 0 (xM u.ss tt).1.length))).or (Go.Sh.one b2 _ _)).or (Go.Sh.one b3 _ _)) ((S.holdW b2).or (xX (S.blk b3))) (xK (b:=b2)).up (xK (b:=b3)).up hx0.up rfl hf hp0.up (adO hfd).up fun w44 e44=>?_
  exact h _ (S.go e44).ext
 rw [if_neg ho] at h
 clear ho
 refine gg_ ?_
 refine zm (fun ho=>?_) (fun ho=>?_)
 ·rw [if_pos ho] at h
  refine S.ldB (b:=b3) ?_ rfl
  refine gp_ ?_
  refine zO (f:={ to:=true,args:=true,fn:=true }) S.holds hp0 fun w31 e31=>?_
  have S:=S.go e31
  refine gp_ ?_
  refine zk (c:=!(tok&&decide (tm<3))) (fun _ K2 hK2=>?_) ?_
  ·refine gp_ ?_
   exact hK2
  refine zk (c:=decide (p.fn<0)) (fun _ K2 hK2=>?_) ?_
  ·refine gg_ ?_
   exact hK2
  refine zk (c:=decide ((u.fs.length : Int)≤p.fn)) (fun _ K2 hK2=>?_) ?_
  ·refine gg_ ?_
   exact hK2
  refine c_b (fun hc=>?_) (fun hc=>?_)
  ·rw [bb5 hc,Bool.false_and] at h
   exact h _ S.ext
  rw [agr hc,Bool.true_and] at h
  have hfl : 0≤p.fn∧p.fn<u.fs.length:=by
   simp only [Bool.or_eq_false_iff,decide_eq_false_iff_not] at hc;omega
  have hfi : p.fn.toNat<u.fs.length:=by omega
  rw [List.getElem?_eq_getElem hfi] at h
  obtain ⟨bg,og,cg,rfl,hcg,hgg,hgc⟩:=hfn.sl.get (by decide) hfi
  have hfp:=hfs _ (List.getElem_mem hfi)
  generalize u.fs[p.fn.toNat]=fd at h hgg hfp
  obtain ⟨vo2,vt2,vn2,vp2,rfl,hg1,hg2,hg3,hg4⟩:=hgg
  obtain ⟨qo2,co2,rfl,_,_⟩:=hg1.sl.shape
  obtain ⟨qt2,ct2,rfl,_,hct2⟩:=hg2.sl.shape
  obtain ⟨qn2,cn2,rfl,_,_⟩:=hg3.sl.shape
  obtain ⟨qp2,cp2,rfl,_,_⟩:=hg4.sl.shape
  refine gg_ ?_
  refine zQ (n:=7) hcg (fun j v hj=>S.at (hgc j v hj)) ?_
  refine S.al fun b20 w50 S=>?_
  refine S.stB (b:=b20) fun w51 S=>?_
  have S:=S.go (Ext.drew _)
  have htl:=aa6 hg2.sl
  have htl9 : fd.tys.length≤9223372036854775807:=hg2.few
  obtain ⟨bt2,ot2,cc2,rfl,hcc2,hcl2,hct3⟩:=htl 0 (by omega)
  obtain ⟨q4,cap4,rfl,ht4⟩:=qg hct3
  have hhd : fd.tys.headD ys=fd.tys[0]'(by omega):=by
   rw [List.headD_eq_head?_getD,List.head?_eq_getElem?,List.getElem?_eq_getElem (by omega),Option.getD_some]
  dsimp only at h
  rw [hhd] at h
  refine gp_ ?_
  refine S.ldN (b:=b7) ?_
  refine gg_ ?_
  refine zQ (n:=5) hcc2 (fun j v hj=>by simpa using S.at (hcl2 j v hj)) ?_
  refine xF S.holds ht7 ht4 fun w52 e52=>?_
  have S:=S.go e52
  refine zF (c:=kS u.ss g.tys p.args ((fd.tys.drop 1).take fd.pn.toNat)) (fun _ K2 hK2=>?_) fun w53 e53=>h _ (S.go e53).ext
  refine gg_ ?_
  have hl9 : (fd.pn+1).toNat - (1 : Int).toNat=((fd.tys.drop 1).take fd.pn.toNat).length:=by
   rw [List.length_take,List.length_drop];omega
  rw [hl9]
  refine JW (r:=(r.or (Go.Sh.one b2 _ _)).or (Go.Sh.one b3 _ _)) ((S.holdW b2).or (xX (S.blk b3))) (xK (b:=b2)).up (xK (b:=b3)).up hx0.up rfl hf hp0.up (htl.sub (a:=(1 : Int).toNat) (n:=fd.pn.toNat) hct2).up fun w44 e44=>?_
  exact hK2 _ e44
 rw [if_neg ho] at h
 clear ho
 refine gg_ ?_
 refine zm (fun ho=>?_) (fun ho=>?_)
 ·rw [if_pos ho] at h
  refine S.ldB (b:=b3) ?_ rfl
  refine gp_ ?_
  refine zO (f:={ to:=true }) S.holds hp0 fun w31 e31=>?_
  have S:=S.go e31
  refine zi (c:=tok&&decide (tm<3)) (fun _ K2 hK2=>hK2) ?_
  refine zF (c:=isK tt 1) (fun hb K2 hK2=>?_) fun w32 e32=>?_
  ·refine gp_ ?_
   refine S.ldN (b:=b7) ?_
   exact z7 S.holds fun w33 e33=>hK2 _ e33
  have S:=S.go e32
  exact h _ S.ext
 rw [if_neg ho] at h
 clear ho
 refine gg_ ?_
 refine zm (fun ho=>?_) (fun ho=>?_)
 ·rw [if_pos ho] at h
  refine S.ldB (b:=b3) ?_ rfl
  refine gp_ ?_
  refine zO (f:={ a:=true }) S.holds hp0 fun w31 e31=>?_
  have S:=S.go e31
  refine zi (c:=aok) (fun _ K2 hK2=>hK2) ?_
  refine zF (c:=isK ta 1) (fun hb K2 hK2=>?_) fun w32 e32=>?_
  ·refine S.ldB (b:=b10) ?_ rfl
   exact z7 S.holds fun w33 e33=>hK2 _ e33
  have S:=S.go e32
  exact h _ S.ext
 rw [if_neg ho] at h
 clear ho
 refine gg_ ?_
 refine zm (fun ho=>?_) (fun ho=>?_)
 ·rw [if_pos ho] at h
  refine gg_ ?_
  refine S.ldN (b:=b8) ?_
  refine Vi S.holds hst ht8 fun w35 e35=>?_
  have S:=S.go e35
  refine gp_ ?_
  refine gp_ ?_
  refine S.ldB (b:=b3) ?_ rfl
  refine gp_ ?_
  refine zO (f:={ fr:=true }) S.holds hp0 fun w31 e31=>?_
  have S:=S.go e31
  refine zi (c:=fok) (fun _ K2 hK2=>?_) ?_
  ·refine gg_ ?_
   exact hK2
  refine zi (c:=(vk u.ss ft).1) (fun _ K2 hK2=>hK2) ?_
  refine zi (c:=decide (fm<2)) (fun _ K2 hK2=>?_) (h _ S.ext)
  refine gg_ ?_
  exact hK2
 rw [if_neg ho] at h
 clear ho
 refine gg_ ?_
 refine zm (fun ho=>?_) (fun ho=>?_)
 ·rw [if_pos ho] at h
  refine S.ldB (b:=b3) ?_ rfl
  refine gp_ ?_
  refine zO (f:={ fr:=true }) S.holds hp0 fun w31 e31=>?_
  have S:=S.go e31
  refine zi (c:=fok) (fun _ K2 hK2=>?_) ?_
  ·refine gg_ ?_
   exact hK2
  refine zi (c:=decide (0<p.fr.l)) (fun _ K2 hK2=>?_) ?_
  ·refine gg_ ?_
   exact hK2
  refine zi (c:=decide (p.fr.ps.length=0)) (fun _ K2 hK2=>?_) (h _ S.ext)
  refine gg_ ?_
  rw [Zu]
  exact hK2
 rw [if_neg ho] at h
 clear ho
 refine gg_ ?_
 refine zm (fun ho=>?_) (fun ho=>?_)
 ·rw [if_pos ho] at h
  refine S.ldB (b:=b3) ?_ rfl
  refine gp_ ?_
  refine zO (f:={ a:=true,el:=true }) S.holds hp0 fun w31 e31=>?_
  have S:=S.go e31
  refine zi (c:=aok) (fun _ K2 hK2=>hK2) ?_
  refine zF (c:=isK ta 2) (fun hb K2 hK2=>?_) fun w32 e32=>?_
  ·refine S.ldB (b:=b10) ?_ rfl
   exact z7 S.holds fun w33 e33=>hK2 _ e33
  have S:=S.go e32
  refine zi (c:=ZZ g p.el) (fun _ K2 hK2=>?_) (h _ S.ext)
  refine gg_ ?_
  exact JU (b:=b5) S hK2
 rw [if_neg ho] at h
 clear ho
 refine gg_ ?_
 refine zs (fun s w'=>s = [.bool (decide (p.op=13∨p.op=14))]∧Ext w39 w') (fun K9 hK9=>?_) ?_
 ·have hk:=hK9 _ _ ⟨rfl,Ext.refl _⟩
  rw [Bool.decide_or] at hk
  refine gp_ ?_
  refine qm hk fun _ hk=>?_
  refine gp_ ?_
  exact hk
 rintro _ w41 ⟨rfl,e41⟩ d41
 have S:=S.go e41
 rw [List.getD_cons_zero]
 refine zm (fun ho=>?_) (fun ho=>?_)
 ·rw [if_pos ho] at h
  refine S.ldB (b:=b3) ?_ rfl
  refine gp_ ?_
  refine zO (f:={}) S.holds hp0 fun w31 e31=>h _ (S.go e31).ext
 ·rw [if_neg ho] at h
  exact h _ S.ext
end Go.Proofs
end
section
namespace Go.Proofs
open Go.Sh
set_option linter.unusedVariables false
theorem kK {u : UnD} : ∀ {l : List GrD} {i : Nat},kI u i l=none↔∀ (j : Nat) (h : j<l.length),yZ u (i+j) l[j]=true
 |[],i=>⟨fun _ j h=>absurd h (Nat.not_lt_zero _),fun _=>rfl⟩
 |g::l,i=>by
  rw [kI]
  constructor
  ·intro h j hj
   split at h
   ·rename_i hg
    cases j with
    |zero=>exact hg
    |succ j=>
     have:=(kK (l:=l) (i:=i+1)).1 h j (by simpa using hj)
     rw [List.getElem_cons_succ,show i+(j+1)=i+1+j by omega];exact this
   ·cases h
  ·intro h
   rw [if_pos (show yZ u i g=true from h 0 (Nat.zero_lt_succ _))]
   refine (kK (l:=l) (i:=i+1)).2 fun j hj=>?_
   have:=h (j+1) (by simpa using hj)
   rwa [List.getElem_cons_succ,show i+(j+1)=i+1+j by omega] at this
theorem jZ {u : UnD} {g : GrD} : ∀ {l : List PtD} {q : Nat},jY u g q l=none↔∀ p ∈ l,yw u g p=true
 |[],q=>⟨fun _ p h=>(by cases h),fun _=>rfl⟩
 |x::l,q=>by
  rw [jY]
  constructor
  ·intro h p hp
   split at h
   ·rename_i hx
    rcases List.mem_cons.1 hp with rfl|hp
    ·exact hx
    ·exact (jZ (l:=l) (q:=q+1)).1 h p hp
   ·cases h
  ·intro h
   rw [if_pos (h x List.mem_cons_self)]
   exact (jZ (l:=l) (q:=q+1)).2 fun p hp=>h p (List.mem_cons_of_mem _ hp)
theorem Zg {u : UnD} : ∀ {l : List GrD} {i : Nat},vm u i l=none↔∀ g ∈ l,∀ p ∈ g.pts,yw u g p=true
 |[],i=>⟨fun _ g h=>(by cases h),fun _=>rfl⟩
 |x::l,i=>by
  rw [vm]
  constructor
  ·intro h g hg
   split at h
   ·cases h
   ·rename_i hx
    rcases List.mem_cons.1 hg with rfl|hg
    ·exact jZ.1 hx
    ·exact (Zg (l:=l) (i:=i+1)).1 h g hg
  ·intro h
   rw [jZ.2 (h x List.mem_cons_self)]
   exact (Zg (l:=l) (i:=i+1)).2 fun g hg=>h g (List.mem_cons_of_mem _ hg)
structure MayU (u : UnD) : Prop where
 ok : (zV u.ss).2=0
 fs1 : 1≤u.fs.length
 fs32 : u.fs.length≤32
 mn0 : 0≤u.mn
 mn1 : u.mn<u.fs.length
 head : ∀ (i : Nat) (h : i<u.fs.length),yZ u i u.fs[i]=true
 pts : ∀ g ∈ u.fs,∀ p ∈ g.pts,yw u g p=true
theorem acJ {u : UnD} (h : MayU u) : kJ u=(0,0,0):=by
 have h1:=h.fs1;have h2:=h.fs32;have h3:=h.mn0;have h4:=h.mn1
 unfold kJ
 rw [if_neg (by rw [h.ok,decide_eq_false (show ¬ u.fs.length<1 by omega),decide_eq_false (show ¬ 32<u.fs.length by omega),decide_eq_false (show ¬ u.mn<0 by omega),decide_eq_false (show ¬ (u.fs.length : Int)≤u.mn by omega)];decide),
  kK.2 (fun j hj=>by rw [Nat.zero_add];exact h.head j hj)]
 dsimp only
 rw [Zg.2 h.pts]
theorem acK {u : UnD} (h : (kJ u).2.2=0) : MayU u:=by
 unfold kJ at h
 split at h
 ·cases h
 ·rename_i h1
  split at h
  ·cases h
  ·rename_i h2
   split at h
   ·cases h
   ·rename_i h3
    simp only [Bool.or_eq_true,Bool.not_eq_true',decide_eq_false_iff_not,decide_eq_true_eq,not_or] at h1
    obtain ⟨⟨h4,h5,h6⟩,h7,h8⟩:=h1
    exact ⟨by omega,by omega,by omega,by omega,by omega,fun i hi=>by have:=kK.1 h2 i hi;rwa [Nat.zero_add] at this,Zg.1 h3⟩
theorem Qe {u : UnD} : Jr u=true↔MayU u:=by
 rw [Jr,decide_eq_true_eq]
 exact ⟨acK,fun h=>by rw [acJ h]⟩
structure HeadU (u : UnD) (fn : Nat) (g : GrD) : Prop where
 lv0 : 0≤g.lv
 lv8 : g.lv≤8
 pn0 : 0≤g.pn
 pn8 : g.pn≤8
 pn1 : g.pn<g.tys.length
 ty512 : g.tys.length≤512
 nms : g.nms.length=g.tys.length
 tys : qH u g 0 g.tys=true
 pt1 : 1≤g.pts.length
 pt1024 : g.pts.length≤1024
 outs : Z0 g=true
 loans : yK g.pts≤256
 main : (fn : Int)=u.mn→g.lv=0∧g.pn=0∧(g.tys.headD ys).k=1
theorem abO {u : UnD} {fn : Nat} {g : GrD} (h : yZ u fn g=true) : HeadU u fn g:=by
 simp only [yZ,Bool.and_eq_true,Bool.or_eq_true,Bool.not_eq_true',decide_eq_true_eq,decide_eq_false_iff_not,isK] at h
 obtain ⟨⟨⟨⟨⟨⟨⟨h1,h2⟩,h3,h4⟩,h5,h6⟩,h7⟩,h8⟩,⟨h9,h10⟩,h11⟩,h12,h13⟩:=h
 exact ⟨h1,h2,h3,h4,by omega,h6,h7,h8,h9,h10,h11,h12,fun e=>by rcases h13 with h|⟨⟨h,h'⟩,h2⟩
                                                               ·exact absurd e h
                                                               ·exact ⟨h,h',h2⟩⟩
theorem HeadU.fine {u : UnD} {fn : Nat} {g : GrD} (h : HeadU u fn g) (ok : (zV u.ss).2=0) : Z1 u.ss g.tys:=by
 obtain ⟨h1,h2,h3,h4,_⟩:=ZX ok
 exact ⟨h1,h3,h4,fun t ht=>(V7 (aaf h.tys t ht)).2⟩
theorem MayU.hd {u : UnD} (h : MayU u) {i : Nat} (hi : i<u.fs.length) : HeadU u i u.fs[i]:=abO (h.head i hi)
end Go.Proofs
end
section
namespace Go.Sh
theorem adV {w : World} {A2 : (List Value→World→Prop)→Prop} {A3 A4 A5 : (List Value→World→Prop)→World→Prop} {Z : Value→World→Prop} {b1 b2 b3 b4 b5 : Bool}
  (h2 : ∀ K : List Value→World→Prop,K [.bool b2] w→A2 K) (h3 : ∀ K : List Value→World→Prop,K [.bool b3] w→A3 K w) (h4 : ∀ K : List Value→World→Prop,K [.bool b4] w→A4 K w) (h5 : ∀ K : List Value→World→Prop,K [.bool b5] w→A5 K w)
  (hZ : Z (.bool (b1&&(b2||((b3&&b4)&&b5)))) w) :
  za (fun K=>gIf (.bool b1) true (A2 K) (K [undef] w)) fun s64 _ w66=>
   za (fun K=>gIf (s64.getD 0 undef) false (A3 K w66) (K [undef] w66)) fun s68 _ w70=>
    za (fun K=>gIf (s68.getD 0 undef) true (A4 K w70) (K [undef] w70)) fun s72 _ w74=>
     za (fun K=>gIf (s64.getD 0 undef) false (zb (s68.getD 0 undef) (s72.getD 0 undef) (.bool false) fun t=>K [t] w74) (K [undef] w74)) fun s76 _ w78=>
      za (fun K=>gIf (s76.getD 0 undef) true (A5 K w78) (K [undef] w78)) fun s80 _ w82=>
       za (fun K=>gIf (s64.getD 0 undef) false (zb (s76.getD 0 undef) (s80.getD 0 undef) (.bool false) fun t=>K [t] w82) (K [undef] w82)) fun s84 _ w86=>
        za (fun K=>gIf (.bool b1) true (zb (s64.getD 0 undef) (.bool true) (s84.getD 0 undef) fun t=>K [t] w86) (K [undef] w86)) fun s88 _ w90=>
         zb (.bool b1) (s88.getD 0 undef) (.bool false) fun t=>Z t w90:=by
 cases b1<;>cases b2<;>cases b3<;>cases b4 <;>
  (iterate 7 (intro K hK;first|refine hK _ _ fun _=>?_|refine h2 _ (hK _ _ fun _=>?_)|refine h3 _ (hK _ _ fun _=>?_)|refine h4 _ (hK _ _ fun _=>?_)|refine h5 _ (hK _ _ fun _=>?_)|refine ⟨_,rfl,hK _ _ fun _=>?_⟩)) <;>
  exact ⟨_,rfl,by simpa using hZ⟩
end Go.Sh
namespace Go.Proofs
open Go.Sh
set_option maxRecDepth 100000
set_option linter.unusedSimpArgs false
set_option linter.unusedVariables false
theorem abP {a b : Nat} : decide ((a : Int)≠(b : Int))=decide (a≠b):=decide_eq_decide.2 (by omega)
theorem aeO {u : UnD} {g : GrD} {i : Nat} {t : TyD} : tyG u g i t=(xk u.ss t && !((yL t).any fun r=>decide (r<(if (i : Int)≤g.pn then 0 else -1))||decide (g.lv≤r))):=by
 rw [tyG,List.not_any_eq_all_not]
set_option maxHeartbeats 4000000 in
theorem aai {u : UnD} {i : Nat} {v : Value} {w : World} {r : Gh} {K : Value→World→Prop} (hi : i<u.fs.length) (hr : Holds r w) (hu : UnG r v u)
  (h : ∀ w',Ext w w'→K (.bool (yZ u i u.fs[i])) w') : ze Tryz.prog Tryz.vd #[v,.int .i64 i] w K:=by
 obtain ⟨p0,cap0,vf,rfl,_,_,hst,hsl,hfn⟩:=hu
 obtain ⟨qf,capf,rfl,_,_⟩:=hfn.sl.shape
 obtain ⟨bf,of,cf,rfl,hcf,hgc,hfo⟩:=hfn.sl.get (by decide) hi
 refine Tryz.Vb ?_
 unfold Tryz.Yy
 generalize hgi : u.fs[i]=g at h hgc
 obtain ⟨vo,vt,vn,vp,rfl,h1,h2,h3,h4⟩:=id hgc
 obtain ⟨qo,capo,rfl,_,_⟩:=h1.sl.shape
 obtain ⟨qt,capt,rfl,_,hct⟩:=h2.sl.shape
 obtain ⟨qn,capn,rfl,_,_⟩:=h3.sl.shape
 obtain ⟨qp,capp,rfl,_,_⟩:=h4.sl.shape
 have hptl : g.pts.length≤9223372036854775807:=h4.few
 have htl : g.tys.length≤9223372036854775807:=h2.few
 have S:=St.start hr
 refine S.box fun b2 w1 S=>?_
 refine gG_ ?_
 refine zQ (n:=7) hcf (fun j v hj=>by rw [Int.toNat_natCast];exact S.at (hfo j v hj)) ?_
 refine S.al fun b5 w2 S=>?_
 refine S.stB (b:=b5) fun w3 S=>?_
 refine gG_ ?_
 have no : (HeadU u i g→False)→yZ u i g=false:=fun hh=>by
  cases e : yZ u i g
  ·rfl
  ·exact (hh (abO e)).elim
 refine zk (c:=decide (8<g.lv)) (fun _ K2 hK2=>?_) ?_
 ·refine gG_ ?_
  exact hK2
 refine zk (c:=decide (g.pn<0)) (fun _ K2 hK2=>?_) ?_
 ·refine gG_ ?_
  exact hK2
 refine zk (c:=decide (8<g.pn)) (fun _ K2 hK2=>?_) ?_
 ·refine gG_ ?_
  exact hK2
 refine zk (c:=decide ((g.tys.length : Int)≤g.pn)) (fun _ K2 hK2=>?_) ?_
 ·refine gG_ ?_
  exact hK2
 refine zk (c:=decide (512<g.tys.length)) (fun _ K2 hK2=>?_) ?_
 ·refine gG_ ?_
  rw [show decide ((512 : Int)<(g.tys.length : Int))=decide (512<g.tys.length) from decide_eq_decide.2 (by omega)]
  exact hK2
 refine zk (c:=decide (g.nms.length≠g.tys.length)) (fun _ K2 hK2=>?_) ?_
 ·refine gG_ ?_
  rw [abP]
  exact hK2
 refine c_b (fun hbad=>?_) (fun hgood=>?_)
 ·rw [no fun H=>by
   have:=H.lv0;have:=H.lv8;have:=H.pn0;have:=H.pn8;have:=H.pn1;have:=H.ty512;have:=H.nms
   simp only [Bool.or_eq_true,decide_eq_true_eq] at hbad;omega] at h
  exact h _ S.ext
 have hnum : (0≤g.lv∧g.lv≤8∧0≤g.pn∧g.pn≤8)∧g.pn<g.tys.length∧g.tys.length≤512∧g.nms.length=g.tys.length:=by
  simp only [Bool.or_eq_false_iff,decide_eq_false_iff_not] at hgood;omega
 clear hgood
 obtain ⟨⟨hlv0,hlv8,hpn0,hpn8⟩,hpn1,hty,hnm⟩:=hnum
 refine gG_ ?_
 refine zh (ι:=Nat) (fun i=>[.int .i64 (i : Nat)]) (fun j w'=>j≤g.tys.length∧qH u g j (g.tys.drop j)=qH u g 0 g.tys∧StX noX w r w' _) (fun i=>g.tys.length - i) 0 rfl ⟨Nat.zero_le _,rfl,S⟩ ?_
 clear S
 rintro j d w5 ⟨hj,hd,S⟩ K6 hK6
 rw [List.getD_cons_zero]
 refine gP_ ?_
 refine zm (fun hlt=>?_) (fun hge=>?_)
 ·have hlt : j<g.tys.length:=by omega
  obtain ⟨bt,ot,ct,rfl,hct,htc,hcell⟩:=h2.sl.get (by decide) hlt
  obtain ⟨q2,cap2,rfl,ht2⟩:=qg htc
  rw [acH hlt] at hd
  refine gP_ ?_
  refine zQ (n:=5) hct (fun j v hj=>by rw [Int.toNat_natCast];exact S.at (hcell j v hj)) ?_
  refine S.al fun b7 w6 S=>?_
  refine S.stB (b:=b7) fun w7 S=>?_
  refine gG_ ?_
  refine Zs S.holds hst ht2 fun w8 e8=>?_
  have S:=S.go e8
  refine gP_ ?_
  refine c_b (fun hm=>?_) (fun hm=>?_)
  ·have hm : xk u.ss g.tys[j]=false:=by simpa using hm
   rw [no fun H=>by
    have:=H.tys
    rw [← hd,tyG,hm,Bool.false_and,Bool.false_and] at this;cases this] at h
   exact h _ S.ext
  have hm : xk u.ss g.tys[j]=true:=by simpa using hm
  refine S.al fun b8 w9 S=>?_
  refine S.st (b:=b8) fun w10 S=>?_
  refine zs (fun _ w'=>StX noX w r w' [.cell b8 [.int .i64 (if (j : Int)≤g.pn then 0 else -1)] 3,.cell b7 (tyL g.tys[j] q2 cap2) 138,.cell b5 [.string g.name,.int .i64 g.lv,.slice qo g.outs.length capo,.int .i64 g.pn,.slice (some ⟨bt,ot,none⟩) g.tys.length capt,.slice qn g.nms.length capn,.slice qp g.pts.length capp] 38,
   .cell b2 [.slice p0 u.ss.length cap0,.slice (some ⟨bf,of,none⟩) u.fs.length capf,.int .i64 u.mn] 25]) (fun K3 hK3=>?_) ?_
  ·refine gG_ ?_
   refine zm (fun hle=>?_) (fun hgt=>?_)
   ·refine S.st (b:=b8) fun w11 S=>?_
    refine hK3 [] _ ?_
    rw [if_pos hle];exact S
   ·refine hK3 [] _ ?_
    rw [if_neg hgt];exact S
  clear S
  rintro _ w11 S d11
  refine S.ldB (b:=b7) ?_ rfl
  refine Zc S.holds ht2 fun v7 w12 e12 o12=>?_
  have S:=S.go e12
  obtain ⟨p7,cap7,rfl,_,_,_,hs7⟩:=Yw o12
  refine gP_ ?_
  have hr48 : (yL g.tys[j]).length≤1000:=by
   rw [yL];split
   ·have:=JQ (by assumption);omega
   ·simp
  refine qM (f:=fun x=>decide (x<(if (j : Int)≤g.pn then 0 else -1))||decide (g.lv≤x)) (fun x K hK=>?_) hs7 (by omega) ?_
  ·refine VB (by kernel_rfl) ?_
   refine Tryz.QB ?_
   unfold Tryz.Zz
   refine S.ld (b:=b8) ?_ rfl
   refine gP_ ?_
   refine zk (c:=decide (g.lv≤x)) (fun _ K2 hK2=>?_) hK
   refine gG_ ?_
   exact hK2
  have hty : tyG u g j g.tys[j] = !((yL g.tys[j]).any fun x=>decide (x<(if (j : Int)≤g.pn then 0 else -1))||decide (g.lv≤x)):=by
   rw [aeO,hm,Bool.true_and]
  refine c_b (fun hx=>?_) (fun hx=>?_)
  ·rw [hty,hx,Bool.not_true,Bool.false_and] at hd
   rw [no fun H=>by have:=H.tys;rw [← hd] at this;cases this] at h
   exact h _ S.ext
  ·rw [hty,hx,Bool.not_false,Bool.true_and] at hd
   refine gP_ ?_
   rw [show ((j : Int)+1)=((j+1 : Nat) : Int) by omega]
   exact hK6 (j+1) _ ⟨hlt,hd,(S.drop b8).drop b7⟩ (by omega)
 have hje : j=g.tys.length:=by omega
 rw [hje,List.drop_length] at hd
 have htys : qH u g 0 g.tys=true:=hd.symm
 clear hd hK6 K6 hge hj hje
 refine gG_ ?_
 refine zk (c:=decide (1024<g.pts.length)) (fun _ K2 hK2=>?_) ?_
 ·refine gG_ ?_
  rw [show decide ((1024 : Int)<(g.pts.length : Int))=decide (1024<g.pts.length) from decide_eq_decide.2 (by omega)]
  exact hK2
 refine kG (c:=!Z0 g) (fun _ K2 hK2=>?_) fun w20 e20=>?_
 ·refine S.ldB (b:=b5) ?_ rfl
  refine Qc S.holds hgc hlv0 hlv8 hpn0 hpn1 (fun t ht x hx=>?_) fun w21 e21=>?_
  ·obtain ⟨k,hk,rfl⟩:=List.getElem_of_mem ht
   rw [List.length_take] at hk
   rw [List.getElem_take] at hx
   have:=aag htys (j:=k) (by omega) (by omega) x hx
   omega
  refine gP_ ?_
  exact hK2 _ e21
 have S:=S.go e20
 refine c_b (fun hbad=>?_) (fun hgood=>?_)
 ·rw [no fun H=>by
   have:=H.pt1;have:=H.pt1024;have h3:=H.outs
   rw [h3] at hbad
   simp only [Bool.or_eq_true,decide_eq_true_eq,Bool.not_true,Bool.false_eq_true,or_false] at hbad;omega] at h
  exact h _ S.ext
 have hnum : (1≤g.pts.length∧g.pts.length≤1024)∧Z0 g=true:=by
  cases ho : Z0 g
  ·rw [ho] at hgood;simp at hgood
  ·simp only [Bool.or_eq_false_iff,decide_eq_false_iff_not] at hgood
   exact ⟨by omega,rfl⟩
 clear hgood
 obtain ⟨⟨hp1,hp1024⟩,hout⟩:=hnum
 refine gG_ ?_
 refine zh (ι:=Nat) (fun i=>[.int .i64 (yK (g.pts.take i) : Nat),.int .i64 (i : Nat)]) (fun j w'=>j≤g.pts.length∧yK (g.pts.take j)≤j∧StX noX w r w' _) (fun i=>g.pts.length - i) 0 rfl ⟨Nat.zero_le _,Nat.le_refl _,S⟩ ?_
 clear S
 rintro j d w22 ⟨hj,hlj,S⟩ K7 hK7
 simp only [List.getD_cons_zero,List.getD_cons_succ]
 refine gP_ ?_
 refine zm (fun hlt=>?_) (fun hge=>?_)
 ·have hlt : j<g.pts.length:=by omega
  obtain ⟨bp,op,cp,rfl,hcp,hpc,hcell⟩:=h4.sl.get (by decide) hlt
  refine zs (fun s w'=>s = [.int .i64 (yK (g.pts.take (j+1)) : Nat)]∧StX noX w r w' [.cell b5 [.string g.name,.int .i64 g.lv,.slice qo g.outs.length capo,.int .i64 g.pn,.slice qt g.tys.length capt,.slice qn g.nms.length capn,.slice (some ⟨bp,op,none⟩) g.pts.length capp] 38,
   .cell b2 [.slice p0 u.ss.length cap0,.slice (some ⟨bf,of,none⟩) u.fs.length capf,.int .i64 u.mn] 25]) (fun K3 hK3=>?_) ?_
  ·refine gP_ ?_
   refine zQ (n:=21) hcp (fun j v hj=>by rw [Int.toNat_natCast];exact S.at (hcell j v hj)) ?_
   obtain ⟨vto,va,vb,vl,vfr,rfl,k1,k2,k3,k4,k5⟩:=hpc
   obtain ⟨_,_,rfl,_⟩:=k1.sl.shape
   obtain ⟨_,_,rfl,_⟩:=k2.sl.shape
   obtain ⟨_,_,rfl,_⟩:=k3.sl.shape
   obtain ⟨_,_,rfl,_⟩:=k4.sl.shape
   obtain ⟨_,_,rfl,_⟩:=k5.sl.shape
   refine S.al fun b11 w23 S=>?_
   refine S.stB (b:=b11) fun w24 S=>?_
   refine gG_ ?_
   have hlo:=QQ hlt
   refine zm (fun ho=>?_) (fun ho=>?_)
   ·rw [if_pos ho] at hlo
    refine gP_ ?_
    rw [show ((yK (g.pts.take j) : Nat) : Int)+1=((yK (g.pts.take (j+1)) : Nat) : Int) by omega]
    exact hK3 _ _ ⟨rfl,S.drop b11⟩
   ·rw [if_neg ho] at hlo
    rw [show ((yK (g.pts.take j) : Nat) : Int)=((yK (g.pts.take (j+1)) : Nat) : Int) by omega]
    exact hK3 _ _ ⟨rfl,S.drop b11⟩
  clear S
  rintro _ w25 ⟨rfl,S⟩ d25
  rw [List.getD_cons_zero]
  refine gP_ ?_
  rw [show ((j : Int)+1)=((j+1 : Nat) : Int) by omega]
  refine hK7 (j+1) _ ⟨hlt,?_,S⟩ (by omega)
  rw [QQ hlt];split<;>omega
 have hje : j=g.pts.length:=by omega
 rw [hje,List.take_length]
 refine gP_ ?_
 have hfin : yZ u i g=(decide (yK g.pts≤256)&&(decide ((i : Int)≠u.mn)||((decide (g.lv=0)&&decide (g.pn=0))&&isK (g.tys.headD ys) 1))):=by
  rw [yZ,htys,hout,decide_eq_true hlv0,decide_eq_true hlv8,decide_eq_true hpn0,decide_eq_true hpn8,decide_eq_true hpn1,decide_eq_true hty,decide_eq_true hnm,decide_eq_true hp1,decide_eq_true hp1024,decide_not];rfl
 rw [hfin] at h
 rw [show decide ((yK g.pts : Int)≤256)=decide (yK g.pts≤256) from decide_eq_decide.2 (by omega)]
 refine adV (b2:=decide ((i : Int)≠u.mn)) (b3:=decide (g.lv=0)) (b4:=decide (g.pn=0)) (b5:=isK (g.tys.headD ys) 1) (fun K2 hK2=>?_) (fun K2 hK2=>?_) (fun K2 hK2=>?_) (fun K2 hK2=>?_) (h _ S.ext)
 ·refine gG_ ?_
  exact hK2
 ·refine gG_ ?_
  exact hK2
 ·refine gG_ ?_
  exact hK2
 ·have hpos : 0<g.tys.length:=by omega
  obtain ⟨bt,ot,ct,rfl,hct,htc,hcell⟩:=h2.sl.get (by decide) hpos
  obtain ⟨q2,cap2,rfl,ht2⟩:=qg htc
  refine gG_ ?_
  refine zj (v:=.int .u8 g.tys[0].k) (by simpa using S.at (hcell 0 _ rfl)) ?_
  refine gG_ ?_
  have he : g.tys.headD ys=g.tys[0]:=by
   rw [List.headD_eq_head?_getD,List.head?_eq_getElem?,List.getElem?_eq_getElem hpos,Option.getD_some]
  rw [he] at hK2
  exact hK2
theorem acL {u : UnD} {i : Nat} {l : List GrD} (hi : i<l.length) : kI u i (l.drop i)=if yZ u i l[i] then kI u (i+1) (l.drop (i+1)) else some i:=by
 rw [List.drop_eq_getElem_cons hi];rfl
theorem adW {u : UnD} {g : GrD} {q : Nat} {l : List PtD} (hq : q<l.length) : jY u g q (l.drop q)=if yw u g l[q] then jY u g (q+1) (l.drop (q+1)) else some q:=by
 rw [List.drop_eq_getElem_cons hq];rfl
theorem aeP {u : UnD} {i : Nat} {l : List GrD} (hi : i<l.length) : vm u i (l.drop i)=match jY u l[i] 0 l[i].pts with|some q=>some (i,q)|none=>vm u (i+1) (l.drop (i+1)):=by
 rw [List.drop_eq_getElem_cons hi];rfl
noncomputable def QS (u : UnD) : Int × Int × Int:=match kI u 0 u.fs with
  |some i=>(i,-1,100)
  |none=>match vm u 0 u.fs with
   |some (i,q)=>(i,q,100)
   |none=>(0,0,0)
set_option maxHeartbeats 4000000 in
theorem Vk {u : UnD} {v : Value} {w : World} {r : Gh} {K : Value→World→Prop} (hr : Holds r w) (hu : UnG r v u)
  (h : ∀ w',Ext w w'→K (.tuple #[.int .i64 (kJ u).1,.int .i64 (kJ u).2.1,.int .i64 (kJ u).2.2]) w') : ze Tryz.prog Tryz.jy #[v] w K:=by
 have hu0:=hu
 obtain ⟨p0,cap0,vf,rfl,_,_,hst,hsl,hfn⟩:=hu
 obtain ⟨qf,capf,rfl,_,_⟩:=hfn.sl.shape
 have hfl : u.fs.length≤9223372036854775807:=hfn.few
 refine Tryz.Je ?_
 unfold Tryz.Yc
 have S:=St.start hr
 refine S.box fun b1 w1 S=>?_
 refine gG_ ?_
 refine Zf S.holds hst fun w2 e2=>?_
 have S:=S.go e2
 refine gS_ ?_
 refine zk (c:=decide (u.fs.length<1)) (fun _ K2 hK2=>?_) ?_
 ·refine gG_ ?_
  rw [show decide ((u.fs.length : Int)<1)=decide (u.fs.length<1) from decide_eq_decide.2 (by omega)]
  exact hK2
 refine zk (c:=decide (32<u.fs.length)) (fun _ K2 hK2=>?_) ?_
 ·refine gG_ ?_
  rw [show decide ((32 : Int)<(u.fs.length : Int))=decide (32<u.fs.length) from decide_eq_decide.2 (by omega)]
  exact hK2
 refine zk (c:=decide (u.mn<0)) (fun _ K2 hK2=>?_) ?_
 ·refine gG_ ?_
  exact hK2
 refine zk (c:=decide ((u.fs.length : Int)≤u.mn)) (fun _ K2 hK2=>?_) ?_
 ·refine gG_ ?_
  exact hK2
 have hC : kJ u=if ((((decide ((zV u.ss).2≠0)||decide (u.fs.length<1))||decide (32<u.fs.length))||decide (u.mn<0))||decide ((u.fs.length : Int)≤u.mn))=true then (-1,-1,100) else QS u:=by
  rw [kJ,QS]
  simp only [ne_eq,decide_not,Bool.or_assoc] <;>
  rfl
 rw [hC] at h
 refine c_b (fun hbad=>?_) (fun hgood=>?_)
 ·rw [if_pos hbad] at h
  exact h _ S.ext
 rw [if_neg (by rw [hgood];decide)] at h
 have hok : (zV u.ss).2=0:=by
  simp only [Bool.or_eq_false_iff,decide_eq_false_iff_not] at hgood;omega
 clear hC hgood
 refine gG_ ?_
 refine zh (ι:=Nat × Int) (fun i=>[.int .i64 i.2,.int .i64 0,.int .i64 (i.1 : Nat)]) (fun j w'=>j.1≤u.fs.length∧kI u j.1 (u.fs.drop j.1)=kI u 0 u.fs∧StX noX w r w' _) (fun i=>u.fs.length - i.1) (0,0) rfl ⟨Nat.zero_le _,rfl,S⟩ ?_
 clear S
 rintro ⟨j,a⟩ d w5 ⟨hj,hd,S⟩ K6 hK6
 simp only at hj hd S ⊢
 simp only [List.getD_cons_zero,List.getD_cons_succ]
 refine gP_ ?_
 refine zm (fun hlt=>?_) (fun hge=>?_)
 ·have hlt : j<u.fs.length:=by omega
  rw [acL hlt] at hd
  refine S.ldB (b:=b1) ?_ rfl
  refine aai hlt S.holds hu0 fun w6 e6=>?_
  have S:=S.go e6
  refine gP_ ?_
  refine c_b (fun hx=>?_) (fun hx=>?_)
  ·rw [if_neg (by simpa using hx)] at hd
   rw [QS,← hd] at h
   exact h _ S.ext
  ·rw [if_pos (by simpa using hx)] at hd
   refine gP_ ?_
   rw [show ((j : Int)+1)=((j+1 : Nat) : Int) by omega]
   exact hK6 (j+1,j) _ ⟨hlt,hd,S⟩ (by show u.fs.length - (j+1)<u.fs.length - j;omega)
 have hje : j=u.fs.length:=by omega
 rw [hje,List.drop_length] at hd
 have hnone : kI u 0 u.fs=none:=hd.symm
 have hheads:=fun (i : Nat) (hi : i<u.fs.length)=>abO (by have:=kK.1 hnone i hi;rwa [Nat.zero_add] at this : yZ u i u.fs[i]=true)
 rw [QS,hnone] at h
 dsimp only at h
 clear hd hK6 K6 hge hj hje
 refine zs (fun s w'=>Ext w w'∧((∃ x y : Nat,s = [.int .i64 (x : Int),.int .i64 (y : Int),.bool true]∧vm u 0 u.fs=some (x,y))∨∃ x y,s = [x,y,.bool false]∧vm u 0 u.fs=none)) (fun K3 hK3=>?_) ?_
 rotate_left
 ·rintro _ w9 ⟨e9,⟨x,y,rfl,hb⟩|⟨x,y,rfl,hb⟩⟩ d9
  ·rw [hb] at h
   refine c_t rfl ?_
   exact h _ e9
  ·rw [hb] at h
   refine c_f rfl ?_
   exact h _ e9
 refine gG_ ?_
 refine zh (ι:=Nat × Value × Value) (fun i=>[i.2.1,i.2.2,.bool false,.int .i64 (i.1 : Nat)]) (fun j w'=>j.1≤u.fs.length∧vm u j.1 (u.fs.drop j.1)=vm u 0 u.fs∧StX noX w r w' _) (fun i=>u.fs.length - i.1) (0,.int .i64 a,.int .i64 0) rfl ⟨Nat.zero_le _,rfl,S⟩ ?_
 clear S
 rintro ⟨j,x1,x2⟩ d w5 ⟨hj,hd,S⟩ K6 hK6
 simp only at hj hd S ⊢
 simp only [List.getD_cons_zero,List.getD_cons_succ]
 refine gP_ ?_
 refine zm (fun hlt=>?_) (fun hge=>?_)
 rotate_left
 ·have hje : j=u.fs.length:=by omega
  rw [hje,List.drop_length] at hd
  exact hK3 _ _ ⟨S.ext,.inr ⟨_,_,rfl,hd.symm⟩⟩
 have hlt : j<u.fs.length:=by omega
 obtain ⟨bf,of,cf,rfl,hcf,hgc,hfo⟩:=hfn.sl.get (by decide) hlt
 rw [aeP hlt] at hd
 have hH:=hheads j hlt
 have hfin:=hH.fine hok
 have hpn : ∀ f ∈ u.fs,0≤f.pn∧f.pn<f.tys.length:=fun f hf=>by
  obtain ⟨i,hi,rfl⟩:=List.getElem_of_mem hf
  exact ⟨(hheads i hi).pn0,(hheads i hi).pn1⟩
 generalize hgi : u.fs[j]=g at hd hgc hH hfin
 obtain ⟨vo,vt,vn,vp,rfl,h1,h2,h3,h4⟩:=id hgc
 obtain ⟨qo,capo,rfl,_,_⟩:=h1.sl.shape
 obtain ⟨qt,capt,rfl,_,hct⟩:=h2.sl.shape
 obtain ⟨qn,capn,rfl,_,_⟩:=h3.sl.shape
 obtain ⟨qp,capp,rfl,_,_⟩:=h4.sl.shape
 have hptl : g.pts.length≤9223372036854775807:=h4.few
 refine gP_ ?_
 refine zQ (n:=7) hcf (fun j v hj=>by rw [Int.toNat_natCast];exact S.at (hfo j v hj)) ?_
 refine S.al fun b9 w6 S=>?_
 refine S.stB (b:=b9) fun w7 S=>?_
 refine S.ldB (b:=b1) ?_ rfl
 refine S.ldB (b:=b9) ?_ rfl
 refine zz (cs:=#[.slice p0 u.ss.length cap0,.slice (some ⟨bf,of,none⟩) u.fs.length capf,.int .i64 u.mn,.string g.name,.int .i64 g.lv,.slice qo g.outs.length capo,.int .i64 g.pn,.slice qt g.tys.length capt,.slice qn g.nms.length capn,.slice qp g.pts.length capp]) (by kernel_rfl) ?_
 refine S.al fun b10 w8 S=>?_
 refine S.stB (b:=b10) fun w9 S=>?_
 refine gG_ ?_
 have hask : AskG r (.agg #[.slice p0 u.ss.length cap0,.slice (some ⟨bf,of,none⟩) u.fs.length capf,.int .i64 u.mn,.string g.name,.int .i64 g.lv,.slice qo g.outs.length capo,.int .i64 g.pn,.slice qt g.tys.length capt,.slice qn g.nms.length capn,.slice qp g.pts.length capp]) u g:=⟨_,_,_,_,_,_,_,rfl,hu0,hgc⟩
 refine zh (ι:=Nat) (fun i=>[x1,x2,.bool false,.int .i64 (i : Nat)]) (fun k w'=>k≤g.pts.length∧jY u g k (g.pts.drop k)=jY u g 0 g.pts∧StX noX w r w' _) (fun i=>g.pts.length - i) 0 rfl ⟨Nat.zero_le _,rfl,S⟩ ?_
 clear S
 rintro k d w10 ⟨hk,hdk,S⟩ K7 hK7
 simp only [List.getD_cons_zero,List.getD_cons_succ]
 refine gP_ ?_
 refine zm (fun hlt2=>?_) (fun hge=>?_)
 ·have hlt2 : k<g.pts.length:=by omega
  obtain ⟨bp,op,cp,rfl,hcp,hpc,hcell⟩:=h4.sl.get (by decide) hlt2
  rw [adW hlt2] at hdk
  refine gP_ ?_
  refine zQ (n:=21) hcp (fun j v hj=>by rw [Int.toNat_natCast];exact S.at (hcell j v hj)) ?_
  obtain ⟨vto,va,vb,vl,vfr,rfl,k1,k2,k3,k4,k5⟩:=id hpc
  obtain ⟨_,_,rfl,_⟩:=k1.sl.shape
  obtain ⟨_,_,rfl,_⟩:=k2.sl.shape
  obtain ⟨_,_,rfl,_⟩:=k3.sl.shape
  obtain ⟨_,_,rfl,_⟩:=k4.sl.shape
  obtain ⟨_,_,rfl,_⟩:=k5.sl.shape
  refine S.al fun b12 w11 S=>?_
  refine S.stB (b:=b12) fun w12 S=>?_
  refine S.ldB (b:=b10) ?_ rfl
  refine S.ldB (b:=b12) ?_ rfl
  refine Yp S.holds hask hfin hpn hpc fun w13 e13=>?_
  have S:=S.go e13
  refine gP_ ?_
  refine c_b (fun hx=>?_) (fun hx=>?_)
  ·rw [if_neg (by simpa using hx)] at hdk
   rw [← hdk] at hd
   exact hK3 _ _ ⟨S.ext,.inl ⟨j,k,rfl,hd.symm⟩⟩
  ·rw [if_pos (by simpa using hx)] at hdk
   refine gP_ ?_
   rw [show ((k : Int)+1)=((k+1 : Nat) : Int) by omega]
   exact hK7 (k+1) _ ⟨hlt2,hdk,S.drop b12⟩ (by omega)
 have hke : k=g.pts.length:=by omega
 rw [hke,List.drop_length] at hdk
 rw [← hdk] at hd
 refine gP_ ?_
 rw [show ((j : Int)+1)=((j+1 : Nat) : Int) by omega]
 exact hK6 (j+1,x1,x2) _ ⟨hlt,hd,(S.drop b10).drop b9⟩ (by show u.fs.length - (j+1)<u.fs.length - j;omega)
theorem XP {u : UnD} {v : Value} {w : World} {r : Gh} {K : Value→World→Prop} (hr : Holds r w) (hu : UnG r v u)
  (h : ∀ w',Ext w w'→K (.bool (Jr u)) w') : ze Tryz.prog Tryz.je #[v] w K:=by
 refine Tryz.VY ?_
 unfold Tryz.XJ
 have hu0:=hu
 obtain ⟨p0,cap0,vf,rfl,_,_,hst,hsl,hfn⟩:=hu
 obtain ⟨qf,capf,rfl,_,_⟩:=hfn.sl.shape
 have S:=St.start hr
 refine S.box fun b1 w1 S=>?_
 refine S.ldB (b:=b1) ?_ rfl
 refine Vk S.holds hu0 fun w2 e2=>?_
 have S:=S.go e2
 refine gS_ ?_
 exact h _ S.ext
end Go.Proofs
end
section
namespace Go.Proofs
open Go.Sh
set_option maxRecDepth 100000
set_option linter.unusedSimpArgs false
set_option linter.unusedVariables false
end Go.Proofs
end
section
namespace Go.Sh
theorem StX.front {X : Nat→Prop} {w0 w : World} {r : Gh} {L M : List Asr} (S : StX X w0 r w L) (b : Nat) {c : List Value} {T : TypeId} [h : Jm b L c T M] : StX X w0 r w (.cell b c T::M):=S.permO h.h.symm
end Go.Sh
namespace Go.Proofs
open Go.Sh
set_option maxRecDepth 100000
set_option linter.unusedSimpArgs false
set_option linter.unusedVariables false
end Go.Proofs
end
