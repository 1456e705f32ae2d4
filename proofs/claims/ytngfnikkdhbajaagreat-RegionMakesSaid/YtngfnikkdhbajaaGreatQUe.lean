/-
  Contracts: regions of a type turned, erased, of both sides.
  Regions laid anew and numbered twice; words and drops of fields: the plain laws.
  Regions numbered: plain facts, one by one.
  Heads of graphs: plain facts, and what the tables hold.
  Contracts: what types imply.
  Contracts: what outlives what.
  Elements of rows of one's own written over.
  Contracts: places among types: walk, May, Type.
  The document's answer of layer 9: words, endless, Structs, Types.
  A map of strings of one's own: made, filled, asked.
  Contracts: whether a point is as it must be.
  Which programs may be: what it tells when one may.
  Contracts: heads of graphs; Check and May of graph.
  Contracts: the regions of a function, numbered.
  Contracts: all regions of a function; Of, Width.
  Contracts: Of, Width, Place, Borrowed, Called of region.
-/
import Derived.Test.YtngfnikkdhbajaaGreatQUd
import Derived.Test.YtngfnikkdhbajaaGreatQUc
import Derived.MapKept
section
namespace Go.Proofs
open Go.Sh
set_option maxRecDepth 100000
set_option linter.unusedSimpArgs false
set_option linter.unusedVariables false
theorem JZ {f : Int→Bool} {fv : Value} {w : World} (hf : ∀ (x : Int) (K : Value→World→Prop),K (.bool (f x)) w→zJ Tryz.prog fv #[.int .i64 x] w K) {p : Option Addr} {l : List Int} {cap : Nat} {K : Value→World→Prop}
  (hl : Sl w p (ints l)) (hb : l.length≤1000000000) (h : ∀ i : Int,(0≤i↔l.any f=true)→K (.int .i64 i) w) : ze Tryz.prog Tryz.yz #[.slice p l.length cap,fv] w K:=by
 refine Tryz.xM ?_
 unfold Tryz.y8
 refine gP_ ?_
 refine zk (ι:=Nat) (fun i=>[.int .i64 i]) (fun i w'=>w'=w∧i≤l.length∧(l.take i).any f=false) (fun i=>l.length - i) 0 rfl ⟨rfl,Nat.zero_le _,by simp⟩ ?_
 rintro i d w' ⟨rfl,hi,hn⟩ K6 hK6
 simp only [List.getD_cons_zero]
 refine gP_ ?_
 refine zj (fun hlt=>?_) (fun hge=>?_)
 ·have hlt : i<l.length:=by omega
  obtain ⟨b,off,rfl,hc⟩:=hl.at (i:=i) (by rw [y9];exact hlt)
  refine gP_ ?_
  have hv : (ints l)[i]'(by rw [y9];exact hlt) = .int .i64 l[i]:=by simp [ints]
  rw [hv] at hc
  refine zm (by simpa using hc) ?_
  refine hf _ _ ?_
  have ht : (l.take (i+1)).any f=((l.take i).any f||f l[i]):=by
   rw [List.take_succ_eq_append_getElem hlt,List.any_append];simp only [List.any_cons,List.any_nil,Bool.or_false]
  refine c_b (fun hy=>?_) (fun hno=>?_)
  ·refine h _ ⟨fun _=>?_,fun _=>Int.natCast_nonneg _⟩
   exact List.any_eq_true.2 ⟨l[i],List.getElem_mem hlt,hy⟩
  ·refine gP_ ?_
   refine hK6 (i+1) _ ⟨rfl,hlt,?_⟩ (by omega)
   rw [ht,hn,hno];rfl
 ·have : i=l.length:=by omega
  subst this
  rw [List.take_length] at hn
  exact h _ ⟨fun h=>by omega,fun h=>by rw [hn] at h;cases h⟩
theorem jD {f : Int→Bool} {fv : Value} {w : World} (hf : ∀ (x : Int) (K : Value→World→Prop),K (.bool (f x)) w→zJ Tryz.prog fv #[.int .i64 x] w K) {p : Option Addr} {l : List Int} {cap : Nat} {K : Value→World→Prop}
  (hl : Sl w p (ints l)) (hb : l.length≤1000000000) (h : K (.bool (l.any f)) w) : ze Tryz.prog Tryz.zP #[.slice p l.length cap,fv] w K:=by
 refine Tryz.xu ?_
 unfold Tryz.yO
 refine JZ hf hl hb fun i hi=>?_
 refine gP_ ?_
 have e : decide (i≥0)=l.any f:=by
  by_cases hh : l.any f=true
  ·rw [hh];exact decide_eq_true (hi.2 hh)
  ·rw [Bool.eq_false_iff.2 hh];exact decide_eq_false fun h=>hh (hi.1 h)
 rw [e];exact h
abbrev adR : Value:=.agg #[.int .u8 0,.bool false,.int .i64 0,.int .i64 0,.slice none 0 0]
abbrev yL : List Value:=[.int .u8 0,.bool false,.int .i64 0,.int .i64 0,.slice none 0 0]
theorem vm {r : Gh} {c : List Value} {t : TyD} (h : TyG r (.agg c.toArray) t) : aah Tryz.prog 29 1 #[(0,.agg c.toArray)]=some (31,c):=by
 obtain ⟨q,cap,rfl,_⟩:=zV h
 kernel_rfl
theorem Qw {f : Int→Int} {fv : Value} : ∀ (n : Nat) {t : TyD} {w : World} {r : Gh} {v : Value} {K : Value→World→Prop},t.ht≤n→isB t=true→Holds r w→TyG r v t→
  (∀ x ∈ t.regs,∀ (w : World) (K : Value→World→Prop),Holds r w→K (.int .i64 (f x)) w→zJ Tryz.prog fv #[.int .i64 x] w K)→
  (∀ v' sn w',Ext w w'→New w sn w'→TyG sn v' (t.mapR f)→k9 sn v' (t.mapR f)→K v' w')→ze Tryz.prog Tryz.kC #[v,fv] w K:=by
 intro n
 induction n with
 |zero=>intro t w r v K h;cases t;simp [TyD.ht] at h
 |succ n ih=>
  intro t w r v K hn hB hr hv hf h
  obtain ⟨p,cap,rfl,hp,hc,hof⟩:=hv
  refine Tryz.abF ?_
  unfold Tryz.Qq
  have S:=St.start hr
  refine S.box fun b2 w1 S=>?_
  have S : StX noX w r w1 [.cell b2 (tyL t p cap) 31]:=S
  refine S.al fun b4 w2 S=>?_
  refine zp (fun _ w'=>StX noX w r w' [.cell b4 yL 31,.cell b2 [.int .u8 t.k,.bool t.m,.int .i64 (if t.k=4 then f t.re else t.re),.int .i64 t.st,.slice p t.of.length cap] 31]) (fun K3 hK3=>?_) ?_
  ·refine gG_ ?_
   refine zj (fun hk=>?_) (fun hk=>?_)
   ·refine gG_ ?_
    refine hf t.re (acF hk) _ _ S.holds ?_
    refine gG_ ?_
    refine S.st (b:=b2) fun w3 S=>?_
    refine hK3 [] _ ?_
    rw [if_pos hk];exact S
   ·refine hK3 [] _ ?_
    rw [if_neg hk];exact S
  clear S
  rintro _ w6 S d6
  rcases Qo hB with ho|⟨u,ho,hu⟩
  ·have hl : t.of.length=0:=by rw [ho];rfl
   rw [jT ho] at h
   generalize (if t.k=4 then f t.re else t.re)=re' at S h
   rw [hl] at S
   refine zp (fun _ w'=>w'=w6) (fun K3 hK3=>?_) ?_
   ·refine gG_ ?_
    exact hK3 [] _ rfl
   rintro _ _ rfl d7
   refine gG_ ?_
   refine S.stB (b:=b4) fun w7 S=>?_
   refine gG_ ?_
   exact h _ nothing _ S.ext New.nothing ⟨p,cap,rfl,hp,by rw [hl] at hc;exact hc,trivial⟩ .nil
  ·obtain ⟨ba,oa,rfl,c,hc1,hcell,ht⟩:=NdG.of hof (i:=0) (by rw [ho];exact Nat.one_pos)
   have ht : TyG r (.agg c.toArray) u:=by simpa [ho] using ht
   have hl : t.of.length=1:=by rw [ho];rfl
   rw [aew ho] at h
   generalize (if t.k=4 then f t.re else t.re)=re' at S h
   rw [hl] at S
   refine zp (fun _ w'=>∃ b9 sn c',StX noX w (r.or (sn.or (one b9 c' 31))) w' [.cell b4 yL 31,.cell b2 [.int .u8 t.k,.bool t.m,.int .i64 re',.int .i64 t.st,.slice (some ⟨b9,0,none⟩) 1 1] 31]∧
    (∀ o,¬ sn b9 o)∧c'.length=5∧TyG sn (.agg c'.toArray) (u.mapR f)∧k9 sn (.agg c'.toArray) (u.mapR f)∧Above w (sn.or (one b9 c' 31))) (fun K3 hK3=>?_) ?_
   ·refine gG_ ?_
    refine gG_ ?_
    refine zq (n:=5) hc1 (fun j v hj=>by simpa using S.at (hcell j v hj)) ?_
    refine ih (by have:=TyD.ht_of (t:=t) (u:=u) (by rw [ho];exact List.mem_singleton.2 rfl);omega) hu S.holds ht (fun x hx=>hf x (JU ho hx)) fun v' sn w13 e13 n13 hv' hch=>?_
    obtain ⟨S,dx,ax⟩:=S.tell e13 n13
    obtain ⟨c',rfl,hc',_⟩:=hv'.rep
    refine S.lit (vm hv') fun b9 w14 S=>?_
    have hm:=S.mine (.cell b9 c' 31) (by simp) b9 rfl
    refine gP_ ?_
    refine S.st (b:=b2) fun w15 S=>?_
    refine hK3 [] _ ⟨b9,sn,c',(S.frzAt b9).reGh,fun o ho=>hm.2 o (.inr ho),hc',hv',hch,?_⟩
    rintro b o (hb|⟨rfl,_⟩)
    ·exact ax b o hb
    ·exact hm.1.resolve_right id
   clear S
   rintro _ w7 ⟨b9,sn,c',S,hno,hc',hv',hch,hab⟩ d7
   refine gG_ ?_
   refine S.stB (b:=b4) fun w8 S=>?_
   refine gG_ ?_
   exact h _ _ _ S.ext (S.newOf hab) (vi hv') (.one hno hc' hv' hch)
theorem ag6 {a : Bool} (h : false = !a) : a=true:=by cases a;cases h;rfl
theorem agq {a : Bool} (h : true = !a) : a=false:=by cases a;rfl;cases h
theorem afQ {n : Nat} {x : Int} : inR n x = !(decide (x<0)||decide ((n : Int)≤x)):=by
 unfold inR
 by_cases h : x<0
 ·rw [decide_eq_true h,decide_eq_false (show ¬ 0≤x by omega)];rfl
 ·rw [decide_eq_false h,decide_eq_true (show 0≤x by omega)]
  by_cases h2 : x<(n : Int)
  ·rw [decide_eq_true h2,decide_eq_false (show ¬ (n : Int)≤x by omega)];rfl
  ·rw [decide_eq_false h2,decide_eq_true (show (n : Int)≤x by omega)];rfl
theorem adf (l : List Int) (n : Nat) : (l.any fun x=>decide (x<0)||decide ((n : Int)≤x)) = !l.all (inR n):=by
 rw [List.not_all_eq_any_not]
 congr 1;funext x;rw [afQ,Bool.not_not]
theorem abK {t : TyD} {l : List Int} {p : Option Addr} {cap : Nat} {w : World} {r : Gh} {v : Value} {K : Value→World→Prop} (hr : Holds r w) (hv : TyG r v t) (hl : Ob r fun w=>Sl w p (ints l)) (hb : l.length≤1000000)
  (h : ∀ v' sn w',Ext w w'→New w sn w'→TyG sn v' (j4 t l).1→k9 sn v' (j4 t l).1→K (.tuple #[v',.int .i64 (j4 t l).2]) w') : ze Tryz.prog Tryz.vz #[v,.slice p l.length cap] w K:=by
 refine Tryz.aaF ?_
 unfold Tryz.XG
 have hv0:=hv
 obtain ⟨p1,cap1,rfl,_⟩:=hv
 have S:=St.start hr
 refine S.box fun b2 w1 S=>?_
 refine S.box fun b3 w2 S=>?_
 refine S.al fun b4 w3 S=>?_
 refine gG_ ?_
 refine Yy S.holds hv0 fun vx sx w4 e4 n4 hx hcx=>?_
 have S:=S.go e4
 obtain ⟨px,capx,rfl,_⟩:=hx
 refine gP_ ?_
 refine gP_ ?_
 refine S.al fun b6 w5 S=>?_
 refine S.stB (b:=b6) fun w6 S=>?_
 refine gP_ ?_
 cases hB : isB t with
 |false=>
  refine c_t (by simp [hB]) ?_
  rw [afP hB] at h
  refine zo (cs:=#[.int .u8 0,.bool false,.int .i64 0,.int .i64 0,.slice none 0 0]) (by kernel_rfl) ?_
  refine S.stB (b:=b4) fun w7 S=>?_
  refine gG_ ?_
  exact h _ nothing _ S.ext New.nothing zI .nil
 |true=>
  refine c_f (by simp [hB]) ?_
  refine gG_ ?_
  refine xw S.holds hv0 fun v7 w7 e7 o7=>?_
  have S:=S.go e7
  obtain ⟨p7,cap7,rfl,_,_,_,hs7⟩:=j8 o7
  refine gP_ ?_
  have hrT : regsT t=t.regs:=by rw [regsT,hB];rfl
  rw [hrT] at hs7 ⊢
  have h48:=xO hB
  refine jD (f:=fun x=>decide (x<0)||decide ((l.length : Int)≤x)) (fun x K hK=>?_) hs7 (by omega) ?_
  ·refine Xd (by kernel_rfl) ?_
   refine Tryz.JW ?_
   unfold Tryz.Ye
   refine gP_ ?_
   refine zh (c:=decide ((l.length : Int)≤x)) (fun _ K2 hK2=>?_) hK
   refine gG_ ?_
   exact hK2
  rw [adf]
  cases hA : t.regs.all (inR l.length) with
  |false=>
   have hT : j4 t l=(zr,2):=by rw [j4,abU,hB,hA];rfl
   rw [hT] at h
   refine c_t rfl ?_
   refine zo (cs:=#[.int .u8 0,.bool false,.int .i64 0,.int .i64 0,.slice none 0 0]) (by kernel_rfl) ?_
   refine S.stB (b:=b4) fun w8 S=>?_
   refine gG_ ?_
   exact h _ nothing _ S.ext New.nothing zI .nil
  |true=>
   have hT : j4 t l=(t.mapR (atL l),0):=by rw [j4,abU,hB,hA];rfl
   rw [hT] at h
   refine c_f rfl ?_
   refine gG_ ?_
   have S:=S.frzAt b3
   refine Qw (f:=atL l) t.ht (Nat.le_refl _) hB S.holds hv0.up (fun x hx w K hr hK=>?_) fun v8 sn w8 e8 n8 h8 hc8=>?_
   ·refine Xd (by kernel_rfl) ?_
    refine Tryz.JX ?_
    unfold Tryz.Yf
    have hin:=List.all_eq_true.1 hA x hx
    rw [inR,Bool.and_eq_true,decide_eq_true_eq,decide_eq_true_eq] at hin
    have S:=St.start hr
    have B : Blk w b3 [.slice p l.length cap] 39:=hr b3 _ (.inr ⟨rfl,rfl⟩)
    refine zm (v:=.slice p l.length cap) (by rw [B.cell];rfl) ?_
    obtain ⟨bp,op,rfl,hcell⟩:=kQ (S.at hl) (i:=x.toNat) (by omega)
    refine gP_ ?_
    refine zm (by simpa using hcell) ?_
    have : atL l x=l[x.toNat]:=by rw [atL,List.getD_eq_getElem?_getD,List.getElem?_eq_getElem (by omega)];rfl
    rw [← this]
    exact hK
   obtain ⟨S,d8,a8⟩:=S.tell e8 n8
   have h80:=h8
   obtain ⟨p8,cap8,rfl,_⟩:=h8
   refine S.stB (b:=b4) fun w9 S=>?_
   refine gG_ ?_
   exact h _ sn _ S.ext (S.newOf a8) h80 hc8
theorem aaG {t : TyD} {w : World} {r : Gh} {v : Value} {K : Value→World→Prop} (hr : Holds r w) (hv : TyG r v t)
  (h : ∀ v' sn w',Ext w w'→New w sn w'→TyG sn v' (vk t).1→k9 sn v' (vk t).1→K (.tuple #[v',.int .i64 (vk t).2]) w') : ze Tryz.prog Tryz.jJ #[v] w K:=by
 refine Tryz.VQ ?_
 unfold Tryz.YZ
 have hv0:=hv
 obtain ⟨p1,cap1,rfl,_⟩:=hv
 have S:=St.start hr
 refine S.box fun b2 w1 S=>?_
 refine S.al fun b4 w3 S=>?_
 refine gG_ ?_
 refine Yy S.holds hv0 fun vx sx w4 e4 n4 hx hcx=>?_
 have S:=S.go e4
 obtain ⟨px,capx,rfl,_⟩:=hx
 refine gP_ ?_
 refine gP_ ?_
 refine S.al fun b6 w5 S=>?_
 refine S.stB (b:=b6) fun w6 S=>?_
 refine gP_ ?_
 cases hB : isB t with
 |false=>
  refine c_t (by simp [hB]) ?_
  have hT : vk t=(zr,2):=by rw [vk,hB];rfl
  rw [hT] at h
  refine zo (cs:=#[.int .u8 0,.bool false,.int .i64 0,.int .i64 0,.slice none 0 0]) (by kernel_rfl) ?_
  refine S.stB (b:=b4) fun w7 S=>?_
  refine gG_ ?_
  exact h _ nothing _ S.ext New.nothing zI .nil
 |true=>
  refine c_f (by simp [hB]) ?_
  have hT : vk t=(t.mapR qB,0):=by rw [vk,hB];rfl
  rw [hT] at h
  refine gG_ ?_
  refine Qw (f:=qB) t.ht (Nat.le_refl _) hB S.holds hv0 (fun x hx w K hr hK=>?_) fun v8 sn w8 e8 n8 h8 hc8=>?_
  ·refine afE (by kernel_rfl) ?_
   refine Tryz.Q8 ?_
   unfold Tryz.ZM
   exact hK
  obtain ⟨S,d8,a8⟩:=S.tell e8 n8
  have h80:=h8
  obtain ⟨p8,cap8,rfl,_⟩:=h8
  refine S.stB (b:=b4) fun w9 S=>?_
  refine gG_ ?_
  exact h _ sn _ S.ext (S.newOf a8) h80 hc8
end Go.Proofs
end
section
namespace Go.Proofs
open Go.Sh
set_option maxRecDepth 100000
set_option linter.unusedSimpArgs false
set_option linter.unusedVariables false
theorem afF (t : TyD) (l : List Int) : (t.lay l).k=t.k∧(t.lay l).m=t.m∧(t.lay l).st=t.st:=by
 cases t with|mk k m re st of=>exact ⟨rfl,rfl,rfl⟩
theorem adS {t : TyD} {l : List Int} (h : t.of = []) : (t.lay l).of = []:=by rw [Zg h];rfl
theorem VV {t u : TyD} {l : List Int} (h : t.of = [u]) : (t.lay l).of = [u.lay (if t.k=4 then l.tail else l)]:=by rw [kP h];rfl
theorem adz {s : Int} {n : Nat} {t : TyD} (h : zy s (n+1) t=true) (h4 : t.k=4) : -1≤t.re:=by
 rw [yU,if_neg (by omega),if_neg (by omega),if_neg (by omega),if_pos h4] at h
 simp only [Bool.and_eq_true,decide_eq_true_eq] at h
 exact h.1.1
theorem afb {s : Int} : ∀ (n : Nat) {t : TyD},zy s n t=true→∀ x ∈ t.regs,-1≤x:=by
 intro n
 induction n with
 |zero=>intro t h;cases h
 |succ n ih=>
  intro t h x hx
  rcases zF h with ⟨ho,hk⟩|⟨u,ho,hu,hk⟩
  ·rw [ZG ho,if_neg (by omega)] at hx;cases hx
  ·rw [kH ho,List.mem_append] at hx
   rcases hx with hx|hx
   ·split at hx
    ·rw [List.mem_singleton.1 hx];exact adz h (by assumption)
    ·cases hx
   ·exact ih hu x hx
theorem afc {s : Int} : ∀ (n : Nat) {t : TyD} {l : List Int},zy s n t=true→t.regs.length≤l.length→(∀ x ∈ l,-1≤x)→zy s n (t.lay l)=true:=by
 intro n
 induction n with
 |zero=>intro t l h;cases h
 |succ n ih=>
  intro t l h hl hx
  obtain ⟨hk1,hk2,hk3⟩:=afF t l
  rcases zF h with ⟨ho,hk⟩|⟨u,ho,hu,hk⟩
  ·have e : t.lay l=t:=by
    have he : t = .mk t.k t.m t.re t.st t.of:=by cases t;rfl
    rw [Zg ho,if_neg (by omega)]
    rw [ho] at he;exact he.symm
   rw [e];exact h
  ·have hreg:=congrArg List.length (kH ho)
   rw [List.length_append] at hreg
   have hin : zy s n (u.lay (if t.k=4 then l.tail else l))=true:=ih hu (by
    split
    ·rename_i h4
     rw [if_pos h4] at hreg
     rw [List.length_tail];simp at hreg;omega
    ·omega) (fun x hxm=>hx x (by
     split at hxm
     ·exact List.mem_of_mem_tail hxm
     ·exact hxm))
   rw [yU] at h ⊢
   rw [hk1,hk2,hk3]
   rw [VV ho] at *
   rw [if_neg (by omega),if_neg (by omega)] at h ⊢
   rcases hk with h3|h4
   ·rw [if_pos h3] at h ⊢
    have hre : (t.lay l).re=t.re:=by rw [kP ho];simp only [TyD.re];rw [if_neg (by omega)]
    have hib : inB s n (t.lay l)=true:=by rw [kP ho];exact hin
    rw [hre,hib]
    simp only [Bool.and_eq_true,decide_eq_true_eq,List.length_singleton] at h ⊢
    exact ⟨h.1,trivial,trivial⟩
   ·rw [if_neg (by omega),if_pos h4] at h ⊢
    have hpos : 0<l.length:=by rw [if_pos h4] at hreg;simp at hreg;omega
    have hre : (t.lay l).re=l.headD 0:=by rw [kP ho];simp only [TyD.re];rw [if_pos h4]
    have hib : inB s n (t.lay l)=true:=by rw [kP ho];exact hin
    rw [hre,hib]
    simp only [Bool.and_eq_true,decide_eq_true_eq,List.length_singleton] at h ⊢
    refine ⟨⟨?_,h.1.2⟩,trivial,trivial⟩
    cases l with
    |nil=>simp at hpos
    |cons x l=>exact hx x List.mem_cons_self
end Go.Proofs
end
section
namespace Go.Proofs
open Go.Sh
set_option linter.unusedVariables false
theorem aex {l : List Int} {i : Nat} (h : i<l.length) : yb (l.take (i+1))=yb (l.take i)+(if l[i]<0 then 1 else 0):=by
 induction l generalizing i with
 |nil=>cases h
 |cons a l ih=>
  cases i with
  |zero=>simp [yb]
  |succ i=>
   rw [List.take_succ_cons,List.take_succ_cons,yb,yb,ih (by simpa using h),List.getElem_cons_succ];omega
theorem aaH {l : List Int} {c : Int} {i : Nat} (h : i<l.length) : (yq l c)[i]'(by rw [qG];exact h)=if l[i]<0 then c+yb (l.take i) else l[i]:=by
 induction l generalizing i c with
 |nil=>cases h
 |cons a l ih=>
  cases i with
  |zero=>
   by_cases ha : a<0
   ·simp [yq,ha,yb]
   ·simp [yq,ha]
  |succ i=>
   have hi : i<l.length:=by simpa using h
   by_cases ha : a<0
   ·have:=ih (c:=c+1) hi
    simp only [yq,if_pos ha,List.getElem_cons_succ,List.take_succ_cons,yb]
    rw [this];split<;>omega
   ·have:=ih (c:=c) hi
    simp only [yq,if_neg ha,List.getElem_cons_succ,List.take_succ_cons,yb]
    rw [this];split<;>omega
theorem qH : ∀ l : List TyD,0≤zS l
 |[]=>Int.le_refl _
 |t::l=>by have:=qH l;have:=(Zh (regsT t)).1;rw [zS];omega
theorem aa9 {l : List TyD} {i : Nat} (h : i<l.length) : zS (l.take (i+1))=zS (l.take i)+yb (regsT l[i]):=by
 induction l generalizing i with
 |nil=>cases h
 |cons a l ih=>
  cases i with
  |zero=>simp [zS]
  |succ i=>rw [List.take_succ_cons,List.take_succ_cons,zS,zS,ih (by simpa using h),List.getElem_cons_succ];omega
theorem aaI {l : List TyD} {c : Int} {i : Nat} (h : i<l.length) : (xk l c)[i]'(by rw [xy];exact h)=l[i].lay (yq (regsT l[i]) (c+zS (l.take i))):=by
 induction l generalizing i c with
 |nil=>cases h
 |cons a l ih=>
  cases i with
  |zero=>simp [xk,zS]
  |succ i=>
   have:=ih (c:=c+yb (regsT a)) (i:=i) (by simpa using h)
   simp only [xk,List.getElem_cons_succ,List.take_succ_cons,zS]
   rw [this,Int.add_assoc]
theorem aey {l : List TyD} {c : Int} {i : Nat} (h : i<l.length) : xk (l.take (i+1)) c=xk (l.take i) c ++ [l[i].lay (yq (regsT l[i]) (c+zS (l.take i)))]:=by
 induction l generalizing i c with
 |nil=>cases h
 |cons a l ih=>
  cases i with
  |zero=>simp [xk,zS]
  |succ i=>
   have:=ih (c:=c+yb (regsT a)) (i:=i) (by simpa using h)
   rw [List.take_succ_cons,List.take_succ_cons,xk,xk,this,zS,List.getElem_cons_succ,Int.add_assoc];rfl
theorem J0 {u : UnD} {l : List PtD} {i : Nat} (h : i<l.length) : atC u (l.take (i+1))=atC u (l.take i)+ptN u l[i]:=by
 induction l generalizing i with
 |nil=>cases h
 |cons a l ih=>
  cases i with
  |zero=>simp [atC]
  |succ i=>rw [List.take_succ_cons,List.take_succ_cons,atC,atC,ih (by simpa using h),List.getElem_cons_succ];omega
theorem afd {u : UnD} {l : List PtD} {c : Int} {i : Nat} (h : i<l.length) : atK u (l.take (i+1)) c=atK u (l.take i) c ++ [if ptN u l[i]=0 then -1 else c+atC u (l.take i)]:=by
 induction l generalizing i c with
 |nil=>cases h
 |cons a l ih=>
  cases i with
  |zero=>simp [atK,atC]
  |succ i=>
   have:=ih (c:=c+ptN u a) (i:=i) (by simpa using h)
   rw [List.take_succ_cons,List.take_succ_cons,atK,atK,this,atC,List.getElem_cons_succ,Int.add_assoc];rfl
theorem aez {u : UnD} {l : List PtD} {c : Int} {i : Nat} (h : i<l.length) : (atK u l c)[i]'(by rw [jU];exact h)=if ptN u l[i]=0 then -1 else c+atC u (l.take i):=by
 induction l generalizing i c with
 |nil=>cases h
 |cons a l ih=>
  cases i with
  |zero=>simp [atK,atC]
  |succ i=>
   have:=ih (c:=c+ptN u a) (i:=i) (by simpa using h)
   simp only [atK,List.getElem_cons_succ,List.take_succ_cons,atC]
   rw [this,Int.add_assoc]
theorem ZN {u : UnD} {l : List PtD} (h : ∀ p ∈ l,0≤ptN u p) (i : Nat) : 0≤atC u (l.take i)∧atC u (l.take i)≤atC u l:=by
 induction l generalizing i with
 |nil=>simp [atC]
 |cons a l ih=>
  have ha:=h a List.mem_cons_self
  cases i with
  |zero=>
   have:=ih (fun p hp=>h p (List.mem_cons_of_mem _ hp)) l.length
   rw [List.take_length] at this
   rw [List.take_zero,atC,atC];omega
  |succ i=>
   have:=ih (fun p hp=>h p (List.mem_cons_of_mem _ hp)) i
   rw [List.take_succ_cons,atC,atC];omega
end Go.Proofs
end
section
namespace Go.Proofs
open Go.Sh
set_option linter.unusedVariables false
def zM (f : Nat→Nat→Bool) : List Value:=(List.range 64).map fun k=>.bool (f (k / 8) (k % 8))
theorem qI {f : Nat→Nat→Bool} : (zM f).length=64:=by rw [zM,List.length_map,List.length_range]
theorem aaJ {f : Nat→Nat→Bool} {k : Nat} (h : k<64) : (zM f)[k]? = some (.bool (f (k / 8) (k % 8))):=by
 rw [zM,List.getElem?_map,List.getElem?_range h];rfl
theorem afe {f : Nat→Nat→Bool} {x y : Nat} (hx : x<8) (hy : y<8) : (zM f)[x*8+y]? = some (.bool (f x y)):=by
 rw [aaJ (by omega),show (x*8+y) / 8=x by omega,show (x*8+y) % 8=y by omega]
theorem yr {f g : Nat→Nat→Bool} (h : ∀ x y,x<8→y<8→f x y=g x y) : zM f=zM g:=by
 refine List.map_congr_left fun k hk=>?_
 have:=List.mem_range.1 hk
 rw [h _ _ (by omega) (by omega)]
theorem Xh {f : Nat→Nat→Bool} {x y : Nat} (hx : x<8) (hy : y<8) : (zM f).set (x*8+y) (.bool true)=zM fun a b=>f a b||(decide (a=x)&&decide (b=y)):=by
 refine List.ext_getElem? fun k=>?_
 by_cases hk : k<64
 ·rw [List.getElem?_set,aaJ hk,aaJ hk]
  by_cases e : x*8+y=k
  ·rw [if_pos e,if_pos (by rw [qI];omega)]
   subst e
   rw [show (x*8+y) / 8=x by omega,show (x*8+y) % 8=y by omega];simp
  ·rw [if_neg e]
   by_cases e1 : k / 8=x
   ·rw [decide_eq_false (show ¬ k % 8=y by omega),Bool.and_false,Bool.or_false]
   ·rw [decide_eq_false e1,Bool.false_and,Bool.or_false]
 ·rw [List.getElem?_eq_none (by rw [List.length_set,qI];omega),List.getElem?_eq_none (by rw [qI];omega)]
theorem aba {x y : Int} {a : Int} {l : List Int} : xX x y (a::l)=((decide (a=y)&&l.contains x)||xX x y l):=rfl
theorem acJ {l : List Int} {i : Nat} {x : Int} (h : i<l.length) : (l.take (i+1)).contains x=((l.take i).contains x||decide (x=l[i])):=by
 rw [List.take_succ_eq_append_getElem h,List.contains_eq_any_beq,List.any_append,← List.contains_eq_any_beq]
 simp only [List.any_cons,List.any_nil,Bool.or_false]
 congr 1
theorem abb {x y : Int} {l : List TyD} {i : Nat} (h : i<l.length) : qA (l.take (i+1)) x y=(qA (l.take i) x y||xX x y (regsT l[i])):=by
 rw [List.take_succ_eq_append_getElem h,qA,List.any_append,qA]
 simp only [List.any_cons,List.any_nil,Bool.or_false]
theorem abc {x y : Int} {l : List (Int × Int)} {i : Nat} (h : i<l.length) : kV (l.take (i+1)) x y=(kV (l.take i) x y||(decide (x=l[i].1)&&decide (y=l[i].2))):=by
 rw [kV,List.take_succ_eq_append_getElem h,List.contains_eq_any_beq,List.any_append,← List.contains_eq_any_beq,← kV]
 simp only [List.any_cons,List.any_nil,Bool.or_false]
 congr 1
def kq (lv : Int) : Option (Int × Int)→List (Int × Int)→Bool
 |_,[]=>true
 |w,o::l=>(xE lv o&&(match w with|none=>true|some w=>jo w o))&&kq lv (some o) l
theorem abd (lv : Int) : ∀ (l : List (Int × Int)) (w : Int × Int),kq lv (some w) l=(l.all (xE lv)&&VN (w::l))
 |[],w=>rfl
 |o::l,w=>by
  rw [kq,abd lv l o,List.all_cons,VN]
  cases xE lv o<;>cases jo w o<;>cases l.all (xE lv)<;>simp
theorem abe (lv : Int) (l : List (Int × Int)) : kq lv none l=(l.all (xE lv)&&VN l):=by
 cases l with
 |nil=>rfl
 |cons o l=>
  rw [kq,abd lv l o,List.all_cons]
  cases xE lv o<;>cases l.all (xE lv)<;>simp
theorem afR {lv : Int} {w : Option (Int × Int)} {l : List (Int × Int)} {i : Nat} (h : i<l.length) : kq lv w (l.drop i)=((xE lv l[i]&&(match w with|none=>true|some w=>jo w l[i]))&&kq lv (some l[i]) (l.drop (i+1))):=by
 rw [List.drop_eq_getElem_cons h];rfl
theorem not_lt {o w : Int × Int} : (decide (o.1<w.1)||(decide (w.1=o.1)&&decide (o.2≤w.2))) = !jo w o:=by
 unfold jo
 rcases Int.lt_trichotomy o.1 w.1 with h|h|h
 ·rw [decide_eq_true h,decide_eq_false (show ¬ w.1<o.1 by omega),decide_eq_false (show ¬ w.1=o.1 by omega)];rfl
 ·rw [decide_eq_false (show ¬ o.1<w.1 by omega),decide_eq_false (show ¬ w.1<o.1 by omega),decide_eq_true (show w.1=o.1 by omega)]
  by_cases h2 : o.2≤w.2
  ·rw [decide_eq_true h2,decide_eq_false (show ¬ w.2<o.2 by omega)];rfl
  ·rw [decide_eq_false h2,decide_eq_true (show w.2<o.2 by omega)];rfl
 ·rw [decide_eq_false (show ¬ o.1<w.1 by omega),decide_eq_true (show w.1<o.1 by omega),decide_eq_false (show ¬ w.1=o.1 by omega)];rfl
theorem adT {n i : Nat} (h : i<n) : (List.range n).drop i=i::(List.range n).drop (i+1):=by
 rw [List.drop_eq_getElem_cons (by rwa [List.length_range]),List.getElem_range]
theorem qV {n i : Nat} {f : Nat→Bool} (h : i<n) : ((List.range n).drop i).all f=(f i&&((List.range n).drop (i+1)).all f):=by rw [adT h,List.all_cons]
theorem qW {n : Nat} {f : Nat→Bool} : ((List.range n).drop n).all f=true:=by rw [List.drop_of_length_le (by rw [List.length_range];exact Nat.le_refl _)];rfl
theorem abf {u : UnD} {g : GrD} {i : Nat} {t : TyD} {l : List TyD} : qc u g i (t::l)=(tyG u g i t&&qc u g (i+1) l):=rfl
theorem abg {u : UnD} {g : GrD} {i j : Nat} {l : List TyD} (h : i<l.length) : qc u g j (l.drop i)=(tyG u g j l[i]&&qc u g (j+1) (l.drop (i+1))):=by rw [List.drop_eq_getElem_cons h];rfl
theorem acK {u : UnD} {g : GrD} : ∀ {l : List TyD} {i : Nat},qc u g i l=true→∀ t ∈ l,zK u.ss t=true
 |[],i,_,t,ht=>by cases ht
 |x::l,i,h,t,ht=>by
  rw [abf,Bool.and_eq_true] at h
  rcases List.mem_cons.1 ht with rfl|ht
  ·have:=h.1
   rw [tyG,Bool.and_eq_true] at this
   exact this.1
  ·exact acK h.2 t ht
theorem ZO {u : UnD} {g : GrD} : ∀ {l : List TyD} {i : Nat},qc u g i l=true→∀ {j : Nat} (hj : j<l.length),((i+j : Nat) : Int)≤g.pn→∀ x ∈ regsT l[j],0≤x∧x<g.lv
 |[],i,_,j,hj,_=>absurd hj (Nat.not_lt_zero _)
 |y::l,i,h,j,hj,hle=>by
  rw [abf,Bool.and_eq_true] at h
  cases j with
  |zero=>
   have:=h.1
   rw [tyG,Bool.and_eq_true,List.all_eq_true] at this
   intro x hx
   have:=this.2 x hx
   rw [if_pos (by omega)] at this
   simp only [Bool.not_eq_true',Bool.or_eq_false_iff,decide_eq_false_iff_not] at this
   omega
  |succ j=>exact ZO h.2 (j:=j) (by simpa using hj) (by omega)
theorem Xi {l : List PtD} {i : Nat} (h : i<l.length) : yk (l.take (i+1))=yk (l.take i)+(if l[i].op=4 then 1 else 0):=by
 rw [List.take_succ_eq_append_getElem h,yk,List.countP_append,yk]
 congr 1
 rw [List.countP_singleton]
 by_cases e : l[i].op=4<;>simp [e]
end Go.Proofs
end
section
namespace Go.Proofs
open Go.Sh
set_option maxRecDepth 100000
set_option linter.unusedSimpArgs false
set_option linter.unusedVariables false
theorem Sl.tail {w : World} {p : Option Addr} {a : Int} {l : List Int} {cap : Nat} (h : Sl w p (ints (a::l))) (hc : (a::l).length≤cap) : Sl w (if cap=(1 : Int).toNat then p else p.map (·.add ((1 : Int).toNat*1))) (ints l):=fun i v hv=>by
 have h1:=h (i+1) v (by simpa [ints] using hv)
 have hi : i<l.length:=by
  have:=(List.getElem?_eq_some_iff.1 hv).1
  rwa [y9] at this
 obtain ⟨b,off,hp,hcell⟩:=h1
 rw [List.length_cons] at hc
 rw [if_neg (show ¬ cap=(1 : Int).toNat by have : (1 : Int).toNat=1:=rfl;omega),hp,Option.map_some,xQ]
 exact ⟨b,off+1,rfl,by rwa [show off+1+i=off+(i+1) by omega]⟩
abbrev fvI (b3 b4 : Nat) : Value:=.func (.func Tryz.vN) #[] #[.pointer (some ⟨b3,0,none⟩),.pointer (some ⟨b4,0,none⟩)]
abbrev Xj (f : Nat→Nat→Bool) (l : List Int) : Nat→Nat→Bool:=fun x y=>f x y||xX x y l
abbrev vK (f : Nat→Nat→Bool) (a : Int) (l : List Int) : Nat→Nat→Bool:=fun x y=>f x y||(decide (a=(y : Int))&&l.contains (x : Int))
theorem adg {b3 b4 bt : Nat} {M : List Asr} {w0 : World} {r : Gh} : ∀ (l : List Int) {p : Option Addr} {cap : Nat} {f : Nat→Nat→Bool} {w : World} {K : Value→World→Prop},(∀ x ∈ l,0≤x∧x<8)→(Ob r fun w=>Sl w p (ints l))→l.length≤cap→l.length≤1000→
  StX noX w0 r w (.cell b4 [fvI b3 b4] 177 :: .cell b3 [.pointer (some ⟨bt,0,none⟩)] 132 :: .cell bt (zM f) 130::M)→
  (∀ w',StX noX w0 r w' (.cell b4 [fvI b3 b4] 177 :: .cell b3 [.pointer (some ⟨bt,0,none⟩)] 132 :: .cell bt (zM (Xj f l)) 130::M)→K (.tuple #[]) w')→
  zJ Tryz.prog (fvI b3 b4) #[.slice p l.length cap] w K:=by
 intro l
 induction l with
 |nil=>
  intro p cap f w K hx hl hc hb S h
  refine QP (by kernel_rfl) ?_
  refine Tryz.vh ?_
  unfold Tryz.k8
  refine gP_ ?_
  refine gP_ ?_
  refine c_t (by simp) ?_
  refine h _ ?_
  rw [yr (g:=f) (fun x y _ _=>by show (f x y||xX x y [])=f x y;rw [xX,Bool.or_false])]
  exact S
 |cons a l ih=>
  intro p cap f w K hx hl hc hb S h
  refine QP (by kernel_rfl) ?_
  refine Tryz.vh ?_
  unfold Tryz.k8
  obtain ⟨ha0,ha8⟩:=hx a List.mem_cons_self
  have hxl : ∀ x ∈ l,0≤x∧x<8:=fun x h=>hx x (List.mem_cons_of_mem _ h)
  have hal : (a::l).length=l.length+1:=List.length_cons
  have hll : l.length≤1000:=by rw [List.length_cons] at hb;omega
  have hlc : l.length+1≤cap:=by rwa [List.length_cons] at hc
  have hsl : Ob r fun w=>Sl w (if cap=(1 : Int).toNat then p else p.map (·.add ((1 : Int).toNat*1))) (ints l):=fun w k=>Sl.tail (hl w k) hc
  have hlen : (a::l).length - (1 : Int).toNat=l.length:=by simp
  obtain ⟨bp,op,rfl,hcell⟩:=kQ (S.at hl) (i:=0) (by simp)
  refine gP_ ?_
  refine gP_ ?_
  refine c_f (by rw [List.length_cons];exact decide_eq_false (by omega)) ?_
  refine gP_ ?_
  rw [hlen]
  refine gP_ ?_
  obtain ⟨p2,hp2⟩ : ∃ p2,(if cap=(1 : Int).toNat then (some ⟨bp,op,none⟩ : Option Addr) else (some ⟨bp,op,none⟩ : Option Addr).map (·.add ((1 : Int).toNat*1)))=p2:=⟨_,rfl⟩
  rw [hp2] at hsl ⊢
  refine zk (ι:=Nat) (fun i=>[.int .i64 (i : Nat)]) (fun i w'=>i≤l.length∧StX noX w0 r w' (.cell b4 [fvI b3 b4] 177 :: .cell b3 [.pointer (some ⟨bt,0,none⟩)] 132 :: .cell bt (zM (vK f a (l.take i))) 130::M)) (fun i=>l.length - i) 0 rfl
   ⟨Nat.zero_le _,by
    rw [yr (f:=vK f a (l.take 0)) (g:=f) (fun x y _ _=>by simp [vK])]
    exact S⟩ ?_
  clear S
  rintro i d w1 ⟨hi,S⟩ K6 hK6
  rw [List.getD_cons_zero]
  refine gP_ ?_
  refine zj (fun hlt=>?_) (fun hge=>?_)
  ·have hlt : i<l.length:=by omega
   obtain ⟨bq,oq,rfl,hcell2⟩:=kQ (S.at hsl) hlt
   obtain ⟨hi0,hi8⟩:=hxl _ (List.getElem_mem hlt)
   have S:=S.go (Ext.drew _)
   refine gP_ ?_
   refine zm (v:=.int .i64 l[i]) (by simpa using hcell2) ?_
   refine S.ld (b:=b3) ?_ rfl
   refine gP_ ?_
   have hc0:=(S.at hl 0 (.int .i64 a) (by simp [ints]))
   refine zm (v:=.int .i64 a) (by obtain ⟨b',o',h1,h2⟩:=hc0;cases h1;simpa using h2) ?_
   refine gG_ ?_
   refine S.st (b:=bt) (fun w2 S=>?_) (by rw [qI];omega)
   refine gP_ ?_
   rw [show ((i : Int)+1)=((i+1 : Nat) : Int) by omega]
   refine hK6 (i+1) _ ⟨hlt,?_⟩ (by omega)
   rw [show 0+l[i].toNat*8+a.toNat*1=l[i].toNat*8+a.toNat by omega,Xh (by omega) (by omega)] at S
   rw [yr (f:=vK f a (l.take (i+1))) (g:=fun x y=>vK f a (l.take i) x y||(decide (x=l[i].toNat)&&decide (y=a.toNat))) (fun x y _ _=>by
    show (f x y||(decide (a=(y : Int))&&(l.take (i+1)).contains (x : Int)))=((f x y||(decide (a=(y : Int))&&(l.take i).contains (x : Int)))||(decide (x=l[i].toNat)&&decide (y=a.toNat)))
    rw [acJ hlt,show decide ((x : Int)=l[i])=decide (x=l[i].toNat) from decide_eq_decide.2 (by omega),show decide (a=(y : Int))=decide (y=a.toNat) from decide_eq_decide.2 (by omega)]
    cases f x y<;>cases decide (y=a.toNat)<;>cases (l.take i).contains (x : Int)<;>cases decide (x=l[i].toNat)<;>rfl)]
   exact S
  ·have hie : i=l.length:=by omega
   rw [hie,List.take_length] at S
   have S:=S.go (Ext.drew _)
   refine S.ld (b:=b4) ?_ rfl
   refine gP_ ?_
   rw [hlen,hp2]
   refine ih hxl hsl (by show l.length≤cap - (1 : Int).toNat;have : (1 : Int).toNat=1:=rfl;omega) hll S fun w2 S=>?_
   refine h _ ?_
   rw [yr (f:=Xj f (a::l)) (g:=Xj (vK f a l) l) (fun x y _ _=>by
    show (f x y||xX x y (a::l))=((f x y||(decide (a=(y : Int))&&l.contains (x : Int)))||xX x y l)
    rw [aba,Bool.or_assoc])]
   exact S
abbrev J1 (f : Nat→Nat→Bool) (l : List TyD) : Nat→Nat→Bool:=fun x y=>f x y||qA l x y
theorem VX {bt : Nat} {M : List Asr} {w0 : World} {r : Gh} {l : List TyD} {q : Option Addr} {cap : Nat} {f : Nat→Nat→Bool} {w : World} {K : Value→World→Prop} (hl : TysG r q l) (hn : l.length≤maxLen) (hx : ∀ t ∈ l,∀ x ∈ regsT t,0≤x∧x<8)
  (S : StX noX w0 r w (.cell bt (zM f) 130::M))
  (h : ∀ w',StX noX w0 r w' (.cell bt (zM (J1 f l)) 130::M)→K (.tuple #[]) w') : ze Tryz.prog Tryz.jc #[.slice q l.length cap,.pointer (some ⟨bt,0,none⟩)] w K:=by
 refine Tryz.JI ?_
 unfold Tryz.Z0
 have hn' : l.length≤9223372036854775807:=hn
 refine S.box fun b3 w1 S=>?_
 refine S.al fun b4 w2 S=>?_
 refine gP_ ?_
 refine S.st (b:=b4) fun w3 S=>?_
 refine gP_ ?_
 refine zk (ι:=Nat) (fun i=>[.int .i64 (i : Nat)]) (fun i w'=>i≤l.length∧StX noX w0 r w' (.cell b4 [fvI b3 b4] 177 :: .cell b3 [.pointer (some ⟨bt,0,none⟩)] 132 :: .cell bt (zM (J1 f (l.take i))) 130::M)) (fun i=>l.length - i) 0 rfl
  ⟨Nat.zero_le _,by
   rw [yr (f:=J1 f (l.take 0)) (g:=f) (fun x y _ _=>by simp [J1,qA])]
   exact S⟩ ?_
 clear S
 rintro i d w4 ⟨hi,S⟩ K6 hK6
 rw [List.getD_cons_zero]
 refine gP_ ?_
 refine zj (fun hlt=>?_) (fun hge=>?_)
 ·have hlt : i<l.length:=by omega
  obtain ⟨b1,o1,c1,rfl,hc1,htc,hto⟩:=hl i hlt
  obtain ⟨q2,cap2,rfl,ht2⟩:=zV hto
  refine gP_ ?_
  refine zq (n:=5) hc1 (fun j v hj=>by rw [Int.toNat_natCast];exact S.at (htc j v hj)) ?_
  refine S.al fun b6 w5 S=>?_
  refine S.stB (b:=b6) fun w6 S=>?_
  have S:=S.go (Ext.drew _)
  refine S.ld (b:=b4) ?_ rfl
  refine S.ldB (b:=b6) ?_ rfl
  refine xw S.holds ht2 fun v7 w7 e7 o7=>⟨e7,?_⟩
  obtain ⟨s1,p1,cap1,n1,nb1,rfl,_,hc1,hs1⟩:=ace o7
  have S:=S.new e7 n1
  have S:=S.drop b6
  have hr48 : (regsT l[i]).length≤1000:=by
   rw [regsT];split
   ·have:=xO (by assumption);omega
   ·simp
  refine adg (regsT l[i]) (fun x h=>hx _ (List.getElem_mem hlt) x h) hs1.up hc1 hr48 S fun w8 S=>?_
  refine gP_ ?_
  rw [show ((i : Int)+1)=((i+1 : Nat) : Int) by omega]
  refine hK6 (i+1) _ ⟨hlt,?_⟩ (by omega)
  have S:=S.to r
  rw [yr (f:=J1 f (l.take (i+1))) (g:=Xj (J1 f (l.take i)) (regsT l[i])) (fun x y _ _=>by
   show (f x y||qA (l.take (i+1)) x y)=((f x y||qA (l.take i) x y)||xX x y (regsT l[i]))
   rw [abb hlt,Bool.or_assoc])]
  exact S
 ·have hie : i=l.length:=by omega
  rw [hie,List.take_length] at S
  exact h _ S.tl.tl
end Go.Proofs
end
section
namespace Go.Proofs
open Go.Sh
set_option maxRecDepth 100000
set_option linter.unusedSimpArgs false
set_option linter.unusedVariables false
theorem TysG.take {s : Gh} {q : Option Addr} {ts : List TyD} (h : TysG s q ts) (n : Nat) : TysG s q (ts.take n):=fun i hi=>by
 rw [List.length_take] at hi
 obtain ⟨b,off,c,h1,h2,h3,h4⟩:=h i (by omega)
 refine ⟨b,off,c,h1,h2,h3,?_⟩
 rw [List.getElem_take];exact h4
theorem qh {f : Nat→Nat→Bool} {a b : Nat} (ha : a<8) (hb : b<8) : (zM f)[0+((a : Nat) : Int).toNat*8+((b : Nat) : Int).toNat*1]? = some (.bool (f a b)):=by
 rw [show 0+((a : Nat) : Int).toNat*8+((b : Nat) : Int).toNat*1=a*8+b by omega]
 exact afe ha hb
abbrev syF (l : List (Int × Int)) : Nat→Nat→Bool:=fun x y=>kV l (x : Int) (y : Int)
abbrev muF (l : List TyD) : Nat→Nat→Bool:=fun x y=>qA l (x : Int) (y : Int)
def clH (sy : Nat→Nat→Bool) (a b c : Nat) : Bool:=!((sy a b&&sy b c)&&(!decide (a=c) && !sy a c))
def clG (n : Nat) (mu sy : Nat→Nat→Bool) (a b : Nat) : Bool:=(List.range n).all (clH sy a b) && !(!decide (a=b)&&(mu a b && !sy a b))
def clF (n : Nat) (mu sy : Nat→Nat→Bool) (a : Nat) : Bool:=(List.range n).all (clG n mu sy a)
theorem adA (n : Nat) (l : List TyD) (o : List (Int × Int)) : adQ n (qA l) (kV o)=(List.range n).all (clF n (muF l) (syF o)):=by
 unfold adQ clF clG clH;simp only [decide_not,Int.natCast_inj]
def kz (l : List (Int × Int)) (i : Nat) : Option (Int × Int):=if i=0 then none else l[i - 1]?
def adU (w : Option (Int × Int)) (o : Int × Int) : Bool:=match w with|none=>true|some w=>jo w o
theorem acL {lv : Int} {l : List (Int × Int)} {i : Nat} (h : i<l.length) : kq lv (kz l i) (l.drop i)=((xE lv l[i]&&adU (kz l i) l[i])&&kq lv (kz l (i+1)) (l.drop (i+1))):=by
 rw [afR h,kz,kz,if_neg (Nat.succ_ne_zero i),Nat.add_sub_cancel,List.getElem?_eq_getElem h];rfl
set_option maxHeartbeats 2000000 in
theorem J2 {g : GrD} {c : List Value} {w : World} {r : Gh} {K : Value→World→Prop} (hr : Holds r w) (hg : GrG r c g) (hlv0 : 0≤g.lv) (hlv8 : g.lv≤8) (hpn0 : 0≤g.pn) (hpn1 : g.pn<g.tys.length)
  (hx : ∀ t ∈ g.tys.take (g.pn.toNat+1),∀ x ∈ regsT t,0≤x∧x<8) (h : ∀ w',Ext w w'→K (.bool (kW g)) w') : ze Tryz.prog Tryz.qD #[.agg c.toArray] w K:=by
 obtain ⟨vo,vt,vn,vp,rfl,h1,h2,h3,h4⟩:=hg
 obtain ⟨qo,capo,rfl,_,_⟩:=h1.sl.shape
 obtain ⟨qt,capt,rfl,_,hct⟩:=h2.sl.shape
 obtain ⟨qn,capn,rfl,_,_⟩:=h3.sl.shape
 obtain ⟨qp,capp,rfl,_,_⟩:=h4.sl.shape
 have hol : g.outs.length≤9223372036854775807:=h1.few
 have htl : g.tys.length≤9223372036854775807:=h2.few
 refine Tryz.Q0 ?_
 unfold Tryz.Zx
 have S:=St.start hr
 refine S.box fun b1 w1 S=>?_
 refine S.al fun b3 w2 S=>?_
 refine S.al fun b4 w3 S=>?_
 have S : StX noX w r w3 (.cell b3 (zM fun _ _=>false) 130 :: [.cell b4 (zM fun _ _=>false) 130,.cell b1 [.string g.name,.int .i64 g.lv,.slice qo g.outs.length capo,.int .i64 g.pn,.slice qt g.tys.length capt,.slice qn g.nms.length capn,.slice qp g.pts.length capp] 58]):=S.swap
 refine gG_ ?_
 rw [show (g.pn+1).toNat=(g.tys.take (g.pn.toNat+1)).length by rw [List.length_take];omega]
 refine VX (l:=g.tys.take (g.pn.toNat+1)) ((xg h2.sl).take _) (by rw [List.length_take];have:=h2.few;omega) hx S fun w4 S=>?_
 have S : StX noX w r w4 ([.cell b3 (zM (muF (g.tys.take (g.pn.toNat+1)))) 130,.cell b4 (zM fun _ _=>false) 130,.cell b1 [.string g.name,.int .i64 g.lv,.slice qo g.outs.length capo,.int .i64 g.pn,.slice qt g.tys.length capt,.slice qn g.nms.length capn,.slice qp g.pts.length capp] 58]):=by
  rw [yr (f:=muF (g.tys.take (g.pn.toNat+1))) (g:=J1 (fun _ _=>false) (g.tys.take (g.pn.toNat+1))) (fun x y _ _=>(Bool.false_or _).symm)]
  exact S
 rw [kW,← abe,adA] at h
 generalize hmu : muF (g.tys.take (g.pn.toNat+1))=mu at h S
 refine gG_ ?_
 refine zk (ι:=Nat) (fun i=>[.int .i64 (i : Nat)]) (fun i w'=>i≤g.outs.length∧kq g.lv (kz g.outs i) (g.outs.drop i)=kq g.lv none g.outs∧
  StX noX w r w' ([.cell b3 (zM mu) 130,.cell b4 (zM (syF (g.outs.take i))) 130,.cell b1 [.string g.name,.int .i64 g.lv,.slice qo g.outs.length capo,.int .i64 g.pn,.slice qt g.tys.length capt,.slice qn g.nms.length capn,.slice qp g.pts.length capp] 58])) (fun i=>g.outs.length - i) 0 rfl
  ⟨Nat.zero_le _,rfl,by
   rw [yr (f:=syF (g.outs.take 0)) (g:=fun _ _=>false) (fun x y _ _=>by simp [syF,kV])]
   exact S⟩ ?_
 clear S
 rintro i d w5 ⟨hi,hd,S⟩ K6 hK6
 rw [List.getD_cons_zero]
 refine gP_ ?_
 refine zj (fun hlt=>?_) (fun hge=>?_)
 ·have hlt : i<g.outs.length:=by omega
  obtain ⟨bo,oo,co,rfl,hco,hoo,hoc⟩:=h1.sl.get (by decide) hlt
  obtain rfl : co=_:=hoo
  rw [acL hlt] at hd
  have hgo:=fun (j : Nat) (hj : j<g.outs.length)=>h1.sl.get (by decide) hj
  obtain ⟨⟨o1,o2⟩,ho⟩ : ∃ o,g.outs[i]=o:=⟨_,rfl⟩
  rw [ho] at hd
  have hst : syF (g.outs.take (i+1))=fun x y=>syF (g.outs.take i) x y||(decide ((x : Int)=o1)&&decide ((y : Int)=o2)):=by
   funext x y
   show kV _ _ _=(kV _ _ _||_)
   rw [abc hlt,ho]
  refine gP_ ?_
  refine zq (n:=2) hco (fun j v hj=>by rw [Int.toNat_natCast];exact S.at (hoc j v hj)) ?_
  rw [ho]
  refine S.al fun b6 w6 S=>?_
  refine S.stB (b:=b6) fun w7 S=>?_
  refine gG_ ?_
  refine zh (c:=decide (g.lv≤max o1 o2)) (fun _ K2 hK2=>?_) ?_
  ·refine gG_ ?_
   exact hK2
  refine zh (c:=decide (o1=o2)) (fun _ K2 hK2=>?_) ?_
  ·refine gG_ ?_
   exact hK2
  refine c_b (fun hbad=>?_) (fun hgood=>?_)
  ·have hin : xE g.lv (o1,o2)=false:=by rw [xE,hbad];rfl
   rw [hin,Bool.false_and,Bool.false_and] at hd
   rw [← hd,Bool.false_and] at h
   exact h _ S.ext
  have hin : xE g.lv (o1,o2)=true:=by rw [xE,hgood];rfl
  rw [hin,Bool.true_and] at hd
  have hrg : (0≤o1∧o1<8)∧(0≤o2∧o2<8):=by
   simp only [Bool.or_eq_false_iff,decide_eq_false_iff_not] at hgood;omega
  clear hgood hin
  obtain ⟨⟨ho10,ho18⟩,ho20,ho28⟩:=hrg
  refine zp (fun _ w'=>adU (kz g.outs i) (o1,o2)=true∧StX noX w r w' ([.cell b6 [.int .i64 o1,.int .i64 o2] 134,.cell b3 (zM mu) 130,.cell b4 (zM (syF (g.outs.take i))) 130,.cell b1 [.string g.name,.int .i64 g.lv,.slice (some ⟨bo,oo,none⟩) g.outs.length capo,.int .i64 g.pn,.slice qt g.tys.length capt,.slice qn g.nms.length capn,.slice qp g.pts.length capp] 58])) (fun K9 hK9=>?_) ?_
  ·refine gP_ ?_
   refine zj (fun hpos=>?_) (fun hz=>?_)
   ·have hpos : 0<i:=by omega
    have hlt2 : i - 1<g.outs.length:=by omega
    obtain ⟨bo2,oo2,co2,hbe,hco2,hoo2,hoc2⟩:=h1.sl.get (by decide) hlt2
    obtain rfl : co2=_:=hoo2
    cases hbe
    have hpv : kz g.outs i=some g.outs[i - 1]:=by rw [kz,if_neg (by omega),List.getElem?_eq_getElem hlt2]
    rw [hpv] at hd hK9
    obtain ⟨⟨p1,p2⟩,hp⟩ : ∃ o,g.outs[i - 1]=o:=⟨_,rfl⟩
    rw [hp] at hd hK9
    refine gG_ ?_
    refine zq (n:=2) hco2 (fun j v hj=>by rw [show ((i : Int) - 1).toNat=i - 1 by omega];exact S.at (hoc2 j v hj)) ?_
    rw [hp]
    refine S.al fun b7 w8 S=>?_
    refine S.stB (b:=b7) fun w9 S=>?_
    refine gG_ ?_
    refine jS (g:=decide (p1=o1)) (c:=decide (o2≤p2)) (fun _ K2 hK2=>?_) (fun _ K2 hK2=>?_) ?_
    ·refine gG_ ?_
     exact hK2
    ·refine gG_ ?_
     exact hK2
    rw [not_lt (o:=(o1,o2)) (w:=(p1,p2))]
    refine c_b (fun hb=>?_) (fun hb=>?_)
    ·have hb : jo (p1,p2) (o1,o2)=false:=by simpa using hb
     rw [show adU (some (p1,p2)) (o1,o2)=jo (p1,p2) (o1,o2) from rfl,hb,Bool.false_and] at hd
     rw [← hd,Bool.false_and] at h
     exact h _ S.ext
    ·have hb : jo (p1,p2) (o1,o2)=true:=by simpa using hb
     exact hK9 _ _ ⟨hb,S.drop b7⟩
   ·have hz : i=0:=by omega
    refine hK9 _ _ ⟨?_,S⟩
    rw [hz];rfl
  clear S
  rintro _ w10 ⟨haf,S⟩ d10
  have S:=S.go (Ext.drew _)
  rw [haf,Bool.true_and] at hd
  refine gG_ ?_
  refine S.st (b:=b4) (fun w11 S=>?_) (by rw [qI];omega)
  refine gP_ ?_
  rw [show ((i : Int)+1)=((i+1 : Nat) : Int) by omega]
  refine hK6 (i+1) _ ⟨hlt,hd,?_⟩ (by omega)
  rw [show 0+o1.toNat*8+o2.toNat*1=o1.toNat*8+o2.toNat by omega,Xh (by omega) (by omega)] at S
  rw [hst,yr (f:=fun x y=>syF (g.outs.take i) x y||(decide ((x : Int)=o1)&&decide ((y : Int)=o2))) (g:=fun x y=>syF (g.outs.take i) x y||(decide (x=o1.toNat)&&decide (y=o2.toNat))) (fun x y _ _=>by
   show (syF (g.outs.take i) x y||(decide ((x : Int)=o1)&&decide ((y : Int)=o2)))=(syF (g.outs.take i) x y||(decide (x=o1.toNat)&&decide (y=o2.toNat)))
   rw [show decide ((x : Int)=o1)=decide (x=o1.toNat) from decide_eq_decide.2 (by omega),show decide ((y : Int)=o2)=decide (y=o2.toNat) from decide_eq_decide.2 (by omega)])]
  exact S.drop b6
 have hie : i=g.outs.length:=by omega
 rw [hie,List.take_length] at S
 rw [hie,List.drop_length] at hd
 rw [← hd,show kq g.lv (kz g.outs g.outs.length) []=true from by rw [kq],Bool.true_and] at h
 clear hd hK6 K6 hie hge hi
 generalize hsy : syF g.outs=sy at h S
 obtain ⟨n,hn⟩ : ∃ n : Nat,g.lv.toNat=n:=⟨_,rfl⟩
 have hn8 : n≤8:=by omega
 have hlvn : g.lv=(n : Int):=by omega
 rw [hn] at h
 refine gG_ ?_
 refine zk (ι:=Nat) (fun i=>[.int .i64 (i : Nat)]) (fun i w'=>i≤n∧((List.range n).drop i).all (clF n mu sy)=(List.range n).all (clF n mu sy)∧
  StX noX w r w' ([.cell b3 (zM mu) 130,.cell b4 (zM sy) 130,.cell b1 [.string g.name,.int .i64 g.lv,.slice qo g.outs.length capo,.int .i64 g.pn,.slice qt g.tys.length capt,.slice qn g.nms.length capn,.slice qp g.pts.length capp] 58])) (fun i=>n - i) 0 rfl
  ⟨Nat.zero_le _,rfl,S⟩ ?_
 clear S
 rintro a d2 w12 ⟨ha,hda,S⟩ K7 hK7
 rw [List.getD_cons_zero,hlvn]
 refine gP_ ?_
 refine zj (fun hlta=>?_) (fun hgea=>?_)
 rotate_left
 ·have hae : a=n:=by omega
  rw [hae,qW] at hda
  rw [← hda] at h
  exact h _ S.ext
 have hlta : a<n:=by omega
 rw [qV hlta] at hda
 refine gG_ ?_
 refine zk (ι:=Nat) (fun i=>[.int .i64 (i : Nat)]) (fun i w'=>i≤n∧((List.range n).drop i).all (clG n mu sy a)=(List.range n).all (clG n mu sy a)∧
  StX noX w r w' ([.cell b3 (zM mu) 130,.cell b4 (zM sy) 130,.cell b1 [.string g.name,.int .i64 g.lv,.slice qo g.outs.length capo,.int .i64 g.pn,.slice qt g.tys.length capt,.slice qn g.nms.length capn,.slice qp g.pts.length capp] 58])) (fun i=>n - i) 0 rfl
  ⟨Nat.zero_le _,rfl,S⟩ ?_
 clear S
 rintro b d3 w13 ⟨hb,hdb,S⟩ K8 hK8
 rw [List.getD_cons_zero,hlvn]
 refine gP_ ?_
 refine zj (fun hltb=>?_) (fun hgeb=>?_)
 rotate_left
 ·have hbe : b=n:=by omega
  rw [hbe,qW] at hdb
  have hF : clF n mu sy a=true:=hdb.symm
  rw [hF,Bool.true_and] at hda
  refine gP_ ?_
  rw [show ((a : Int)+1)=((a+1 : Nat) : Int) by omega]
  exact hK7 (a+1) _ ⟨hlta,hda,S⟩ (by omega)
 have hltb : b<n:=by omega
 rw [qV hltb] at hdb
 refine gG_ ?_
 refine zk (ι:=Nat) (fun i=>[.int .i64 (i : Nat)]) (fun i w'=>i≤n∧((List.range n).drop i).all (clH sy a b)=(List.range n).all (clH sy a b)∧
  StX noX w r w' ([.cell b3 (zM mu) 130,.cell b4 (zM sy) 130,.cell b1 [.string g.name,.int .i64 g.lv,.slice qo g.outs.length capo,.int .i64 g.pn,.slice qt g.tys.length capt,.slice qn g.nms.length capn,.slice qp g.pts.length capp] 58])) (fun i=>n - i) 0 rfl
  ⟨Nat.zero_le _,rfl,S⟩ ?_
 clear S
 have hfalse : clG n mu sy a b=false→(List.range n).all (clF n mu sy)=false:=fun e=>by
  rw [e,Bool.false_and] at hdb
  have hF : clF n mu sy a=false:=hdb.symm
  rw [hF,Bool.false_and] at hda
  exact hda.symm
 rintro cc d4 w14 ⟨hc,hdc,S⟩ K9 hK9
 rw [List.getD_cons_zero,hlvn]
 refine gP_ ?_
 refine zj (fun hltc=>?_) (fun hgec=>?_)
 ·have hltc : cc<n:=by omega
  rw [qV hltc] at hdc
  refine gP_ ?_
  refine gP_ ?_
  refine S.ld (b:=b4) ?_ (qh (f:=sy) (by omega) (by omega))
  refine zg (c:=sy b cc) (fun _ K2 hK2=>?_) ?_
  ·refine gP_ ?_
   refine gP_ ?_
   refine S.ld (b:=b4) ?_ (qh (f:=sy) (by omega) (by omega))
   exact hK2
  refine zg (c:=decide (a≠cc)) (fun _ K2 hK2=>?_) ?_
  ·refine gP_ ?_
   rw [show decide ((a : Int)≠(cc : Int))=decide (a≠cc) from decide_eq_decide.2 (by omega)]
   exact hK2
  refine zg (c:=!sy a cc) (fun _ K2 hK2=>?_) ?_
  ·refine gP_ ?_
   refine gP_ ?_
   refine S.ld (b:=b4) ?_ (qh (f:=sy) (by omega) (by omega))
   refine gP_ ?_
   exact hK2
  have hH : clH sy a b cc = !(((sy a b&&sy b cc)&&decide (a≠cc)) && !sy a cc):=by
   rw [clH,Bool.and_assoc (sy a b&&sy b cc),decide_not]
  refine c_b (fun hbad=>?_) (fun hgood=>?_)
  ·rw [hH,hbad] at hdc
   have hA : (List.range n).all (clH sy a b)=false:=by rw [← hdc];rfl
   rw [hfalse (by rw [clG,hA,Bool.false_and])] at h
   exact h _ S.ext
  ·rw [hH,hgood,Bool.not_false,Bool.true_and] at hdc
   refine gP_ ?_
   rw [show ((cc : Int)+1)=((cc+1 : Nat) : Int) by omega]
   exact hK9 (cc+1) _ ⟨hltc,hdc,S⟩ (by omega)
 have hce : cc=n:=by omega
 rw [hce,qW] at hdc
 refine gP_ ?_
 refine zg (c:=mu a b) (fun _ K2 hK2=>?_) ?_
 ·refine gP_ ?_
  refine gP_ ?_
  refine S.ld (b:=b3) ?_ (qh (f:=mu) (by omega) (by omega))
  exact hK2
 refine zg (c:=!sy a b) (fun _ K2 hK2=>?_) ?_
 ·refine gP_ ?_
  refine gP_ ?_
  refine S.ld (b:=b4) ?_ (qh (f:=sy) (by omega) (by omega))
  refine gP_ ?_
  exact hK2
 have hG : clG n mu sy a b = !((decide ((a : Int)≠(b : Int))&&mu a b) && !sy a b):=by
  rw [clG,← hdc,Bool.true_and,Bool.and_assoc,show decide ((a : Int)≠(b : Int)) = !decide (a=b) from by rw [← decide_not];exact decide_eq_decide.2 (by omega)]
 refine c_b (fun hbad=>?_) (fun hgood=>?_)
 ·rw [hfalse (by rw [hG,hbad];rfl)] at h
  exact h _ S.ext
 ·rw [hG,hgood,Bool.not_false,Bool.true_and] at hdb
  refine gP_ ?_
  rw [show ((b : Int)+1)=((b+1 : Nat) : Int) by omega]
  exact hK8 (b+1) _ ⟨hltb,hdb,S⟩ (by omega)
end Go.Proofs
end
section
namespace Go.Sh
open Go.RowKit
theorem StX.stRowN {P : Program} {X : Nat→Prop} {w0 w : World} {r : Gh} {L : List Asr} {e t : TypeId} {sz n cap b i : Nat} {xs : List Value} {f : Asr→List Asr} {cs : Array Value} {K : World→Prop} (S : StX X w0 r w L)
  [h : kt (.slice (some ⟨b,0,none⟩) n cap) L e sz n xs f] [z : SzT P t sz] (hi : i<n) (k : ∀ w',StX X w0 r w' (f (.row (.slice (some ⟨b,0,none⟩) n cap) e sz n (xs.take (i*sz)++cs.toList++xs.drop (i*sz+sz))))→K w')
  (hcs : cs.size=sz:=by rfl) (h1 : ∀ u ∈ cs.toList,u.oneCell'=true:=by simp [Value.oneCell']) : opU P w (Instr.storeAt t (.pointer (some ⟨b,i*sz,none⟩)) (.agg cs)) K:=by
 obtain ⟨pp,qq,h2,h3⟩:=h.h
 have hr:=S.has (.row (.slice (some ⟨b,0,none⟩) n cap) e sz n xs) (by rw [h2];simp)
 rcases qK hr with ⟨h0,_⟩|⟨g,cap',c,hv,hb,B,hn,hm,hc,ht⟩
 ·cases h0
 cases hv
 have hle : i*sz+sz≤n*sz:=by rw [← Nat.succ_mul];exact Nat.mul_le_mul_right _ hi
 have hle2 : n*sz≤cap*sz:=Nat.mul_le_mul_right _ hn
 refine QN (v:=.agg cs) (by rw [show (Value.agg cs).cells.size=sz from hcs];exact z.h) B (by rw [show (Value.agg cs).cells.size=sz from hcs];omega) h1 fun w' x _ B'=>k w' ?_
 rw [show (Value.agg cs).cells.size=sz from hcs,show (Value.agg cs).cells=cs from rfl] at B'
 rw [h3]
 rw [h2] at S
 refine S.turn (x:=.row (.slice (some ⟨b,0,none⟩) n cap) e sz n xs) (y:=.row (.slice (some ⟨b,0,none⟩) n cap) e sz n (xs.take (i*sz)++cs.toList++xs.drop (i*sz+sz))) ⟨x.os,x.tape,x.output,x.size,fun k hk hn=>x.block k hk fun he=>hn (by subst he;rfl)⟩ ?_ fun k hk=>.inl hk
 have hcl : cs.toList.length=sz:=by simpa using hcs
 have:=Y6 (base:=0) (size:=sz) (n:=n) (cap:=cap) (Nat.zero_le _) B' hn hm (by simp only [List.length_append,List.length_take,List.length_drop,hcl,hc];omega)
 have he : (c.take (i*sz)++cs.toList++c.drop (i*sz+sz)).take (n*sz)=xs.take (i*sz)++cs.toList++xs.drop (i*sz+sz):=by
  rw [← ht,List.take_take,Nat.min_eq_left (by omega),List.take_append,List.take_of_length_le (by simp only [List.length_append,List.length_take,hcl,hc];omega),List.drop_take]
  congr 2
  simp only [List.length_append,List.length_take,hcl,hc]
  omega
 rw [he] at this
 exact this
theorem StX.row0N {X : Nat→Prop} {w0 w : World} {r : Gh} {L : List Asr} {e : TypeId} {sz n cap : Nat} {p : Option Addr} {xs : List Value} {f : Asr→List Asr} (S : StX X w0 r w L)
  (_ : True) [h : kt (.slice p n cap) L e sz n xs f] (hn : n≠0) : ∃ b,p=some ⟨b,0,none⟩:=by
 obtain ⟨b,cap',c,hv,_⟩:=S.rowCell (.slice p n cap) hn
 cases hv
 exact ⟨b,rfl⟩
theorem StX.stRow1 {P : Program} {X : Nat→Prop} {w0 w : World} {r : Gh} {L : List Asr} {e t : TypeId} {n cap b i : Nat} {xs : List Value} {f : Asr→List Asr} {v : Value} {K : World→Prop} (S : StX X w0 r w L)
  [h : kt (.slice (some ⟨b,0,none⟩) n cap) L e 1 n xs f] [z : SzT P t 1] (hi : i<n) (k : ∀ w',StX X w0 r w' (f (.row (.slice (some ⟨b,0,none⟩) n cap) e 1 n (xs.set i v)))→K w')
  (h1 : v.oneCell'=true:=by rfl) : opU P w (Instr.storeAt t (.pointer (some ⟨b,i,none⟩)) v) K:=by
 obtain ⟨pp,qq,h2,h3⟩:=h.h
 have hr:=S.has (.row (.slice (some ⟨b,0,none⟩) n cap) e 1 n xs) (by rw [h2];simp)
 rcases qK hr with ⟨h0,_⟩|⟨g,cap',c,hv,hb,B,hn,hm,hc,ht⟩
 ·cases h0
 cases hv
 refine ab7 z.h B (by omega) h1 fun w' x _ B'=>k w' ?_
 rw [h3]
 rw [h2] at S
 refine S.turn (x:=.row (.slice (some ⟨b,0,none⟩) n cap) e 1 n xs) (y:=.row (.slice (some ⟨b,0,none⟩) n cap) e 1 n (xs.set i v)) ⟨x.os,x.tape,x.output,x.size,fun k hk hn=>x.block k hk fun he=>hn (by subst he;rfl)⟩ ?_ fun k hk=>.inl hk
 have:=Y6 (base:=0) (size:=1) (n:=n) (cap:=cap) (Nat.zero_le _) B' hn hm (by rw [List.length_set,hc])
 rw [List.take_set,ht] at this
 exact this
theorem aeA {sz n : Nat} {xs z cs : List Value} (hx : xs.length=n*sz) (hz : z.length=sz) : (xs++z).take (n*sz)++cs++(xs++z).drop (n*sz+sz)=xs++cs:=by
 rw [← hx,List.take_left' rfl,List.drop_of_length_le (by rw [List.length_append];omega),List.append_nil]
end Go.Sh
end
section
namespace Go.Proofs
open Go.Sh
set_option maxRecDepth 100000
set_option linter.unusedSimpArgs false
set_option linter.unusedVariables false
def zD (ss : List StD) (t : TyD) (k : Int) : Option (TyD × Int):=
 if k = -1∧t.k=3 then t.of.head?.map fun u=>(u,1)
 else if k = -1∧t.k=4 then t.of.head?.map fun u=>(u,if t.m then 2 else 3)
 else if 0≤k∧t.k=5 then (zd ss t.st)[k.toNat]?.map fun u=>(u,0)
 else none
def zB (ss : List StD) : List Int→TyD→Option (TyD × List Int)
 |[],t=>some (t,[])
 |k::l,t=>(zD ss t k).bind fun s=>(zB ss l s.1).map fun x=>(x.1,s.2::x.2)
theorem Xk (ss : List StD) : ∀ (l : List Int) (k : Int) (t : TyD),zB ss (l ++ [k]) t=(zB ss l t).bind fun x=>(zD ss x.1 k).map fun s=>(s.1,x.2 ++ [s.2])
 |[],k,t=>by
  show (zD ss t k).bind _=(zD ss t k).map _
  cases zD ss t k<;>rfl
 |x::l,k,t=>by
  rw [List.cons_append,zB,zB]
  cases h : zD ss t x with
  |none=>rfl
  |some s=>
   show (zB ss (l ++ [k]) s.1).map _=((zB ss l s.1).map _).bind _
   rw [Xk ss l k s.1]
   cases zB ss l s.1 with
   |none=>rfl
   |some y=>
    show ((zD ss y.1 k).map _).map _=(zD ss y.1 k).map _
    cases zD ss y.1 k<;>rfl
theorem Xl {ss : List StD} : ∀ {l m : List Int} {t : TyD},zB ss l t=none→zB ss (l++m) t=none
 |[],m,t,h=>by cases h
 |x::l,m,t,h=>by
  rw [List.cons_append,zB]
  rw [zB] at h
  cases hs : zD ss t x with
  |none=>rfl
  |some s=>
   rw [hs] at h
   have h : (zB ss l s.1).map (fun x=>(x.1,s.2::x.2))=none:=h
   have : zB ss l s.1=none:=by cases hw : zB ss l s.1 with|none=>rfl|some y=>rw [hw] at h;cases h
   show (zB ss (l++m) s.1).map _=none
   rw [Xl this];rfl
theorem Yh {ss : List StD} : ∀ {l : List Int} {t : TyD} {x : TyD × List Int},zB ss l t=some x→x.2.length=l.length
 |[],t,x,h=>by cases h;rfl
 |k::l,t,x,h=>by
  rw [zB] at h
  cases hs : zD ss t k with
  |none=>rw [hs] at h;cases h
  |some s=>
   rw [hs] at h
   have h : (zB ss l s.1).map (fun x=>(x.1,s.2::x.2))=some x:=h
   cases hw : zB ss l s.1 with
   |none=>rw [hw] at h;cases h
   |some y=>rw [hw] at h;cases h;simp [Yh hw]
theorem VY {ss : List StD} (hg : xj ss) {t : TyD} {k : Int} {s : TyD × Int} (h : Fine ss t) (e : zD ss t k=some s) : Fine ss s.1:=by
 have inside : ∀ {n : Int},t.of.head?.map (fun u=>(u,n))=some s→Fine ss s.1:=by
  intro n e
  rcases h.cases with ⟨h1,_⟩|⟨u,h1,h2,_⟩
  ·rw [h1] at e;cases e
  ·rw [h1] at e;cases e;exact h2
 unfold zD at e
 split at e
 ·exact inside e
 split at e
 ·exact inside e
 split at e
 ·cases hu : (zd ss t.st)[k.toNat]? with
  |none=>rw [hu] at e;cases e
  |some u=>rw [hu] at e;cases e;exact hg _ u (List.mem_of_getElem? hu)
 ·cases e
theorem Zd {ss : List StD} (hg : xj ss) : ∀ {l : List Int} {t : TyD} {x : TyD × List Int},Fine ss t→zB ss l t=some x→Fine ss x.1
 |[],t,x,h,e=>by cases e;exact h
 |k::l,t,x,h,e=>by
  rw [zB] at e
  cases hs : zD ss t k with
  |none=>rw [hs] at e;cases e
  |some s=>
   rw [hs] at e
   have e : (zB ss l s.1).map (fun x=>(x.1,s.2::x.2))=some x:=e
   cases hw : zB ss l s.1 with
   |none=>rw [hw] at e;cases e
   |some y=>rw [hw] at e;cases e;show Fine ss y.1;exact Zd hg (VY hg h hs) hw
noncomputable def yx (ss : List StD) (tys : List TyD) (p : PlD) : Bool:=
 ((decide (0≤p.l)&&decide (p.l<tys.length))&&decide (p.ps.length≤8))&&(decide ((zz ss).2=0)&&tys.all fun t=>zK ss t)
noncomputable def zW (ss : List StD) (tys : List TyD) (p : PlD) : Option (TyD × List Int):=if yx ss tys p then zB ss p.ps (tys.getD p.l.toNat zr) else none
noncomputable def yy (ss : List StD) (tys : List TyD) (p : PlD) : TyD × Int:=match zW ss tys p with|some x=>(x.1,0)|none=>(zr,2)
theorem YD {ss : List StD} {tys : List TyD} {p : PlD} {x : TyD × List Int} (h : zW ss tys p=some x) : Fine ss x.1∧ss.length≤32:=by
 unfold zW at h
 split at h
 ·rename_i ho
  simp only [yx,Bool.and_eq_true,decide_eq_true_eq,List.all_eq_true] at ho
  obtain ⟨⟨⟨h1,h2⟩,h3⟩,h4,h5⟩:=ho
  obtain ⟨h32,_,hg,_⟩:=xb h4
  have hlt : p.l.toNat<tys.length:=by omega
  have hm:=h5 tys[p.l.toNat] (List.getElem_mem hlt)
  have he : tys.getD p.l.toNat zr=tys[p.l.toNat]:=by rw [List.getD_eq_getElem?_getD,List.getElem?_eq_getElem hlt];rfl
  rw [he] at h
  exact ⟨Zd hg (jn hm).2 h,h32⟩
 ·cases h
theorem aaK {f : TyD→Bool} {fv : Value} {w : World} {r : Gh} {q : Option Addr} {l : List TyD} {cap : Nat} {K : Value→World→Prop} (hr : Holds r w) (hl : TysG r q l) (hb : l.length≤maxLen)
  (hf : ∀ t ∈ l,∀ (q : Option Addr) (cap : Nat) (w : World) (K : Value→World→Prop),Holds r w→TyG r (tyV t q cap) t→(∀ w',Ext w w'→K (.bool (f t)) w')→zJ Tryz.prog fv #[tyV t q cap] w K)
  (h : ∀ (i : Int) w',Ext w w'→(0≤i↔l.any f=true)→K (.int .i64 i) w') : ze Tryz.prog Tryz.yh #[.slice q l.length cap,fv] w K:=by
 refine Tryz.kA ?_
 unfold Tryz.yW
 have S:=St.start hr
 have hb' : l.length≤9223372036854775807:=hb
 refine gP_ ?_
 refine zk (ι:=Nat) (fun i=>[.int .i64 (i : Nat)]) (fun i w'=>i≤l.length∧(l.take i).any f=false∧StX noX w r w' []) (fun i=>l.length - i) 0 rfl ⟨Nat.zero_le _,by simp,S⟩ ?_
 clear S
 rintro i d w' ⟨hi,hn,S⟩ K6 hK6
 simp only [List.getD_cons_zero]
 refine gP_ ?_
 refine zj (fun hlt=>?_) (fun hge=>?_)
 ·have hlt : i<l.length:=by omega
  obtain ⟨b,off,c,rfl,hc,hcell,hto⟩:=hl i hlt
  obtain ⟨q2,cap2,rfl,ht2⟩:=zV hto
  refine gP_ ?_
  refine zq (n:=5) hc (fun j v hj=>by rw [Int.toNat_natCast];exact S.at (hcell j v hj)) ?_
  refine hf l[i] (List.getElem_mem hlt) _ _ _ _ S.holds ht2 fun w2 e2=>?_
  have S:=S.go e2
  have ht : (l.take (i+1)).any f=((l.take i).any f||f l[i]):=by
   rw [List.take_succ_eq_append_getElem hlt,List.any_append];simp only [List.any_cons,List.any_nil,Bool.or_false]
  refine c_b (fun hy=>?_) (fun hno=>?_)
  ·refine h _ _ S.ext ⟨fun _=>?_,fun _=>Int.natCast_nonneg _⟩
   exact List.any_eq_true.2 ⟨l[i],List.getElem_mem hlt,hy⟩
  ·refine gP_ ?_
   rw [show ((i : Int)+1)=((i+1 : Nat) : Int) by omega]
   refine hK6 (i+1) _ ⟨hlt,?_,S⟩ (by omega)
   rw [ht,hn,hno];rfl
 ·have : i=l.length:=by omega
  subst this
  rw [List.take_length] at hn
  exact h _ _ S.ext ⟨fun h=>by omega,fun h=>by rw [hn] at h;cases h⟩
theorem Q9 {f : TyD→Bool} {fv : Value} {w : World} {r : Gh} {q : Option Addr} {l : List TyD} {cap : Nat} {K : Value→World→Prop} (hr : Holds r w) (hl : TysG r q l) (hb : l.length≤maxLen)
  (hf : ∀ t ∈ l,∀ (q : Option Addr) (cap : Nat) (w : World) (K : Value→World→Prop),Holds r w→TyG r (tyV t q cap) t→(∀ w',Ext w w'→K (.bool (f t)) w')→zJ Tryz.prog fv #[tyV t q cap] w K)
  (h : ∀ w',Ext w w'→K (.bool (l.any f)) w') : ze Tryz.prog Tryz.yc #[.slice q l.length cap,fv] w K:=by
 refine Tryz.xT ?_
 unfold Tryz.yM
 refine aaK hr hl hb hf fun i w' e hi=>?_
 refine gP_ ?_
 have e2 : decide (i≥0)=l.any f:=by
  by_cases hh : l.any f=true
  ·rw [hh];exact decide_eq_true (hi.2 hh)
  ·rw [Bool.eq_false_iff.2 hh];exact decide_eq_false fun h=>hh (hi.1 h)
 rw [e2];exact h _ e
theorem Qx {ss : List StD} {tys : List TyD} {p : PlD} (h : yx ss tys p=false) : zW ss tys p=none:=by rw [zW,h];rfl
set_option maxHeartbeats 2000000 in
theorem Qy {ss : List StD} {tys : List TyD} {p : PlD} {c : List Value} {p0 q : Option Addr} {cap0 capt : Nat} {w : World} {r : Gh} {K : Value→World→Prop} (hr : Holds r w) (hs : StG r p0 ss) (ht : TysG r q tys) (htl : tys.length≤maxLen) (hp : PlG r c p)
  (hN : ∀ w',zW ss tys p=none→Ext w w'→K (.tuple #[adR,.slice none 0 0,.bool false]) w')
  (hS : ∀ t g q cap vg s w',zW ss tys p=some (t,g)→Ext w w'→New w s w'→TyG r (tyV t q cap) t→SlG 1 s kp vg g→K (.tuple #[tyV t q cap,vg,.bool true]) w') :
  ze Tryz.prog Tryz.je #[.slice p0 ss.length cap0,.slice q tys.length capt,.agg c.toArray] w K:=by
 obtain ⟨v,rfl,hl⟩:=hp
 obtain ⟨qs,caps,rfl,_,_⟩:=hl.sl.shape
 have hbl:=hl.lt
 have htl' : tys.length≤9223372036854775807:=htl
 refine Tryz.abJ ?_
 unfold Tryz.Qv
 have S:=St.start hr
 refine S.box fun b3 w1 S=>?_
 refine S.box fun b5 w2 S=>?_
 refine S.al fun b6 w3 S=>?_
 have S : StX noX w r w3 [.cell b6 yL 31,.cell b5 [.int .i64 p.l,.slice qs p.ps.length caps] 47,.cell b3 [.slice p0 ss.length cap0] 22]:=S
 refine gG_ ?_
 refine zh (c:=decide ((tys.length : Int)≤p.l)) (fun _ K2 hK2=>?_) ?_
 ·refine gG_ ?_
  exact hK2
 refine zh (c:=decide (8<p.ps.length)) (fun _ K2 hK2=>?_) ?_
 ·refine gG_ ?_
  rw [show decide ((8 : Int)<(p.ps.length : Int))=decide (8<p.ps.length) from decide_eq_decide.2 (by omega)]
  exact hK2
 refine c_b (fun hbad=>?_) (fun hgood=>?_)
 ·have hn : yx ss tys p=false:=by
   cases e : yx ss tys p
   ·rfl
   ·simp only [yx,Bool.and_eq_true,decide_eq_true_eq] at e
    simp only [Bool.or_eq_true,decide_eq_true_eq] at hbad;omega
  refine S.ldB (b:=b6) ?_ rfl
  refine S.stB (b:=b6) fun w4 S=>?_
  refine gG_ ?_
  exact hN _ (Qx hn) S.ext
 have hlo : (0≤p.l∧p.l<tys.length)∧p.ps.length≤8:=by
  simp only [Bool.or_eq_false_iff,decide_eq_false_iff_not] at hgood;omega
 clear hgood
 obtain ⟨⟨hl0,hl1⟩,hl8⟩:=hlo
 refine gG_ ?_
 refine jm S.holds hs fun w4 e4=>?_
 have S:=S.go e4
 refine gS_ ?_
 have S:=S.frzAt b3
 refine yw (c:=tys.any fun t=>!zK ss t) (fun _ K2 hK2=>?_) fun w5 e5=>?_
 ·refine gP_ ?_
  refine Q9 (f:=fun t=>!zK ss t) S.holds (TysG.up ht) htl (fun t _ q cap w K hr htt hK=>?_) fun w6 e6=>?_
  ·refine Xd (by kernel_rfl) ?_
   refine Tryz.VU ?_
   unfold Tryz.Y3
   have B : Blk w b3 [.slice p0 ss.length cap0] 22:=hr b3 _ (.inr ⟨rfl,rfl⟩)
   have S:=St.start hr
   refine S.box fun b1 w1 S=>?_
   have S : StX noX w _ w1 [.cell b1 (tyL t q cap) 31]:=S
   refine zm (v:=.slice p0 ss.length cap0) (by
    have B : Blk w1 b3 [.slice p0 ss.length cap0] 22:=S.holds b3 _ (.inr ⟨rfl,rfl⟩)
    rw [B.cell];rfl) ?_
   refine S.ldB (b:=b1) ?_ rfl
   refine j2 S.holds hs.up htt fun w2 e2=>?_
   refine gP_ ?_
   exact hK _ (S.go e2).ext
  exact hK2 _ e6
 have S:=S.go e5
 refine c_b (fun hbad=>?_) (fun hgood=>?_)
 ·have hn : yx ss tys p=false:=by
   cases e : yx ss tys p
   ·rfl
   ·simp only [yx,Bool.and_eq_true,decide_eq_true_eq,List.all_eq_true] at e
    simp only [Bool.or_eq_true,decide_eq_true_eq,List.any_eq_true,Bool.not_eq_true'] at hbad
    rcases hbad with h1|⟨t,h1,h2⟩
    ·exact absurd e.2.1 h1
    ·rw [e.2.2 t h1] at h2;cases h2
  refine S.ldB (b:=b6) ?_ rfl
  refine S.stB (b:=b6) fun w4 S=>?_
  refine gG_ ?_
  exact hN _ (Qx hn) S.ext
 have hok : (zz ss).2=0∧∀ t ∈ tys,zK ss t=true:=by
  simp only [Bool.or_eq_false_iff,decide_eq_false_iff_not,List.any_eq_false,Bool.not_eq_true',Bool.not_eq_false] at hgood
  exact ⟨by omega,hgood.2⟩
 clear hgood
 obtain ⟨hst,hmay⟩:=hok
 obtain ⟨h32,_,hg,_⟩:=xb hst
 have hO : yx ss tys p=true:=by
  simp only [yx,Bool.and_eq_true,decide_eq_true_eq,List.all_eq_true]
  exact ⟨⟨⟨hl0,hl1⟩,hl8⟩,hst,hmay⟩
 have hlt0 : p.l.toNat<tys.length:=by omega
 have hW : zW ss tys p=zB ss p.ps tys[p.l.toNat]:=by
  rw [zW,if_pos hO,List.getD_eq_getElem?_getD,List.getElem?_eq_getElem hlt0];rfl
 rw [hW] at hN hS
 obtain ⟨bt,ot,ct,rfl,hct,hcell,htc⟩:=ht p.l.toNat hlt0
 have hfi : Fine ss tys[p.l.toNat]:=(jn (hmay _ (List.getElem_mem hlt0))).2
 generalize tys[p.l.toNat]=t0 at hN hS htc hfi
 obtain ⟨q0,cap1,rfl,ht0⟩:=zV htc
 refine gG_ ?_
 refine zq (n:=5) hct (fun j v hj=>S.at (hcell j v hj)) ?_
 refine S.stB (b:=b6) fun w7 S=>?_
 refine gG_ ?_
 have S:=S.ownNil 3 1
 refine zk (ι:=Nat × Value × TyD × Option Addr × Nat × List Int) (fun i=>[i.2.1,.int .i64 (i.1 : Nat)]) (fun i w'=>i.1≤p.ps.length∧zB ss (p.ps.take i.1) t0=some (i.2.2.1,i.2.2.2.2.2)∧TyG r (tyV i.2.2.1 i.2.2.2.1 i.2.2.2.2.1) i.2.2.1∧
  StX noX w (r.or (one b3 [.slice p0 ss.length cap0] 22)) w' [.row i.2.1 3 1 i.1 (ints i.2.2.2.2.2),.cell b6 (tyL i.2.2.1 i.2.2.2.1 i.2.2.2.2.1) 31,.cell b5 [.int .i64 p.l,.slice qs p.ps.length caps] 47]) (fun i=>p.ps.length - i.1) (0,.slice none 0 0,t0,q0,cap1,[]) rfl ⟨Nat.zero_le _,rfl,ht0,S⟩ ?_
 clear S
 rintro ⟨i,vg,t,q,cap,g⟩ d w8 ⟨hi,hw,htt,S⟩ K6 hK6
 simp only at hi hw htt S ⊢
 simp only [List.getD_cons_zero,List.getD_cons_succ]
 refine gP_ ?_
 have hft : Fine ss t:=Zd hg hfi hw
 have hgl : g.length=(p.ps.take i).length:=Yh hw
 rw [List.length_take] at hgl
 refine zj (fun hlt=>?_) (fun hge=>?_)
 rotate_left
 ·have hie : i=p.ps.length:=by omega
  rw [hie,List.take_length] at hw
  have hvo:=S.row1 vg
  refine S.ldB (b:=b6) ?_ rfl
  refine S.stB (b:=b6) fun w9 S=>?_
  refine gG_ ?_
  obtain ⟨s,S,hsl,_,hab⟩:=S.doneRow (l:=g) (R:=kp) (sz:=1) ⟨by rw [y9,Nat.mul_one],fun j hj=>by
   show _=_
   rw [Nat.mul_one,ints,← List.map_drop,← List.map_take,List.drop_eq_getElem_cons hj];rfl⟩ (by decide) (by omega)
  exact hS _ _ _ _ _ s _ hw S.ext (S.newOf fun b o ho=>(hab b o ho).resolve_right id) htt hsl
 have hlt : i<p.ps.length:=by omega
 obtain ⟨k,hke⟩ : ∃ k,p.ps[i]=k:=⟨_,rfl⟩
 obtain ⟨bs,os,cs,rfl,hcs,hck,hcl⟩:=hl.sl.get (by decide) hlt
 rw [hke] at hck
 obtain ⟨rfl,hin⟩:=hck
 have hstep : zB ss (p.ps.take (i+1)) t0=(zD ss t k).map fun s=>(s.1,g ++ [s.2]):=by
  rw [List.take_succ_eq_append_getElem hlt,Xk,hw,hke];rfl
 have hbadk : zD ss t k=none→zB ss p.ps t0=none:=fun e=>by
  have:=Xl (m:=p.ps.drop (i+1)) (hstep.trans (by rw [e];rfl))
  rwa [List.take_append_drop] at this
 have down : (t.k=3∨t.k=4)→∃ uu,t.of = [uu]:=by
  intro hk
  rcases hft.cases with ⟨_,h1⟩|⟨uu,h1,_⟩
  ·omega
  ·exact ⟨uu,h1⟩
 refine zp (fun s w'=>∃ how t' q' cap' v',zD ss t k=some (t',how)∧s = [v']∧TyG r (tyV t' q' cap') t'∧
  StX noX w (r.or (one b3 [.slice p0 ss.length cap0] 22)) w' [.row v' 3 1 (i+1) (ints (g ++ [how])),.cell b6 (tyL t' q' cap') 31,.cell b5 [.int .i64 p.l,.slice (some ⟨bs,os,none⟩) p.ps.length caps] 47]) (fun K27 hK27=>?_) ?_
 rotate_left
 ·rintro _ w9 ⟨how,t',q',cap',v',h1,rfl,h2,S⟩ d9
  rw [List.getD_cons_zero]
  refine gP_ ?_
  rw [show ((i : Int)+1)=((i+1 : Nat) : Int) by omega]
  exact hK6 (i+1,v',t',q',cap',g ++ [how]) _ ⟨hlt,hstep.trans (by rw [h1];rfl),h2,S⟩ (by show p.ps.length - (i+1)<p.ps.length - i;omega)
 refine gP_ ?_
 refine zm (v:=.int .i64 k) (by simpa using S.at (hcl 0 _ rfl)) ?_
 refine zp (fun s w'=>w'=w8∧∃ how : Int,s = [vg,.int .i64 how]∧((k = -1∧t.k=3∧how=1)∨(k = -1∧t.k=4∧how=if t.m then 2 else 3)∨(0≤k∧t.k=5∧k<(zd ss t.st).length∧how=0))) (fun K31 hK31=>?_) ?_
 ·refine gP_ ?_
  refine zg (c:=decide (t.k=3)) (fun _ K2 hK2=>?_) ?_
  ·refine gG_ ?_
   exact hK2
  refine c_b (fun hB=>?_) (fun hB=>?_)
  ·have hB : k = -1∧t.k=3:=by simpa using hB
   exact hK31 _ _ ⟨rfl,1,rfl,.inl ⟨hB.1,hB.2,rfl⟩⟩
  have hB : ¬ (k = -1∧t.k=3):=by simpa using hB
  refine gP_ ?_
  refine zg (c:=decide (t.k=4)) (fun _ K2 hK2=>?_) ?_
  ·refine gG_ ?_
   exact hK2
  refine zg (c:=t.m) (fun _ K2 hK2=>?_) ?_
  ·refine gG_ ?_
   exact hK2
  refine c_b (fun hM=>?_) (fun hM=>?_)
  ·have hM : (k = -1∧t.k=4)∧t.m=true:=by simpa using hM
   exact hK31 _ _ ⟨rfl,2,rfl,.inr (.inl ⟨hM.1.1,hM.1.2,by rw [hM.2];rfl⟩)⟩
  refine gP_ ?_
  refine zg (c:=decide (t.k=4)) (fun _ K2 hK2=>?_) ?_
  ·refine gG_ ?_
   exact hK2
  refine c_b (fun hR=>?_) (fun hR=>?_)
  ·have hR : k = -1∧t.k=4:=by simpa using hR
   have hm : t.m=false:=by
    cases e : t.m
    ·rfl
    ·rw [e,decide_eq_true hR.1,decide_eq_true hR.2] at hM;cases hM
   exact hK31 _ _ ⟨rfl,3,rfl,.inr (.inl ⟨hR.1,hR.2,by rw [hm];rfl⟩)⟩
  have hR : ¬ (k = -1∧t.k=4):=by simpa using hR
  refine gG_ ?_
  refine zh (c:=decide (k<0)) (fun _ K2 hK2=>?_) ?_
  ·refine gG_ ?_
   exact hK2
  refine zh (c:=decide (((zd ss t.st).length : Int)≤k)) (fun h5 K2 hK2=>?_) ?_
  ·have h5 : t.k=5∧0≤k:=by simpa using h5
   obtain ⟨hst0,hst1⟩:=hft.st h5.1
   have hslt : t.st.toNat<ss.length:=by omega
   obtain ⟨b,off,q9,capq,rfl,hcell9,_,_,hfl⟩:=yZ hs hslt
   have hlen : (zd ss t.st).length=ss[t.st.toNat].fs.length:=by
    rw [← qU hslt];simp only [zd,Int.toNat_natCast]
   refine zm (v:=.slice (some ⟨b,off,none⟩) ss.length cap0) (by
    have B : Blk w8 b3 [.slice (some ⟨b,off,none⟩) ss.length cap0] 22:=S.holds b3 _ (.inr ⟨rfl,rfl⟩)
    rw [B.cell];rfl) ?_
   refine gG_ ?_
   refine zm (S.at hcell9) ?_
   refine gG_ ?_
   rw [← hlen]
   exact hK2
  refine c_b (fun hX=>?_) (fun hX=>?_)
  ·have hnone : zD ss t k=none:=by
    rw [zD,if_neg hB,if_neg hR]
    split
    ·rename_i h5
     have h50:=h5.1
     rw [List.getElem?_eq_none]
     ·rfl
     ·have : ((zd ss t.st).length : Int)≤k:=by
       simp only [Bool.or_eq_true,decide_eq_true_eq] at hX;omega
      omega
    ·rfl
   refine zo (cs:=#[.int .u8 0,.bool false,.int .i64 0,.int .i64 0,.slice none 0 0]) (by kernel_rfl) ?_
   refine S.stB (b:=b6) fun w9 S=>?_
   refine gG_ ?_
   exact hN _ (hbadk hnone) S.ext
  ·have hX : (t.k=5∧0≤k)∧k<(zd ss t.st).length:=by
    simp only [Bool.or_eq_false_iff,decide_eq_false_iff_not] at hX;omega
   exact hK31 _ _ ⟨rfl,0,rfl,.inr (.inr ⟨hX.1.2,hX.1.1,hX.2,rfl⟩)⟩
 rintro _ _ ⟨rfl,how,rfl,hcase⟩ d10
 simp only [List.getD_cons_zero,List.getD_cons_succ]
 refine S.lit (e:=3) (cs:=[.int .i64 how]) (by kernel_rfl) fun b9 w9 S=>?_
 refine S.ap (m':=1) (Sl.blk (S.blk b9)) (fun v9 w10 S=>?_) (by omega)
 have S:=S.tl
 have hins : ints g ++ [.int .i64 how]=ints (g ++ [how]):=by rw [ints,ints,List.map_append];rfl
 rw [hins] at S
 refine gP_ ?_
 refine zj (fun hz=>?_) (fun hnz=>?_)
 ·have h5 : 0≤k∧t.k=5∧k<(zd ss t.st).length:=by
   rcases hcase with ⟨_,_,h⟩|⟨_,_,h⟩|⟨h1,h2,h3,_⟩
   ·omega
   ·split at h<;>omega
   ·exact ⟨h1,h2,h3⟩
  obtain ⟨hk0,hk5,hkl⟩:=h5
  obtain ⟨hst0,hst1⟩:=hft.st hk5
  have hslt : t.st.toNat<ss.length:=by omega
  obtain ⟨b,off,q9,capq,rfl,hcell9,_,_,hfl⟩:=yZ hs hslt
  have htl2 : zd ss t.st=ss[t.st.toNat].fs.map (·.2):=by
   rw [← yi hslt];simp only [zd,Int.toNat_natCast]
  have hkf : k.toNat<ss[t.st.toNat].fs.length:=by
   rw [htl2,List.length_map] at hkl;omega
  obtain ⟨b10,off9,c9,rfl,hc9,hcell8,ht9⟩:=xV hfl hkf
  obtain ⟨q2,cap2,rfl,ht2⟩:=zV ht9
  refine zm (v:=.slice (some ⟨b,off,none⟩) ss.length cap0) (by
   have B : Blk w10 b3 [.slice (some ⟨b,off,none⟩) ss.length cap0] 22:=S.holds b3 _ (.inr ⟨rfl,rfl⟩)
   rw [B.cell];rfl) ?_
  refine gG_ ?_
  refine zm (S.at hcell9) ?_
  refine gG_ ?_
  refine zq (n:=5) (c:=tyL _ q2 cap2) rfl (fun j v hj=>by have:=S.at (hcell8 (j+1) v hj);rwa [show off9+k.toNat*6+(j+1)=off9+k.toNat*6+1+j by omega] at this) ?_
  refine S.stB (b:=b6) fun w11 S=>?_
  refine hK27 _ _ ⟨how,_,q2,cap2,v9,?_,rfl,ht2,S⟩
  rw [zD,if_neg (by omega),if_neg (by omega),if_pos ⟨hk0,hk5⟩,htl2,List.getElem?_map,List.getElem?_eq_getElem hkf,hz];rfl
 ·have h34 : k = -1∧((t.k=3∧how=1)∨(t.k=4∧how=if t.m then 2 else 3)):=by
   rcases hcase with ⟨h1,h2,h⟩|⟨h1,h2,h⟩|⟨h1,h2,h3,h⟩
   ·exact ⟨h1,.inl ⟨h2,h⟩⟩
   ·exact ⟨h1,.inr ⟨h2,h⟩⟩
   ·exact absurd h hnz
  obtain ⟨hk1,h34⟩:=h34
  obtain ⟨uu,hof⟩:=down (h34.imp (·.1) (·.1))
  obtain ⟨bo,oo,q2,cap2,rfl,ht2,hcc⟩:=jp htt hof
  have hl1 : t.of.length=1:=by rw [hof];rfl
  refine gG_ ?_
  refine zq (n:=5) (c:=tyL uu q2 cap2) rfl (fun j v hj=>by simpa using S.at (hcc j v hj)) ?_
  refine S.stB (b:=b6) fun w11 S=>?_
  refine hK27 _ _ ⟨how,uu,q2,cap2,v9,?_,rfl,ht2,S⟩
  rcases h34 with ⟨h1,h2⟩|⟨h1,h2⟩
  ·rw [zD,if_pos ⟨hk1,h1⟩,hof,h2];rfl
  ·rw [zD,if_neg (by omega),if_pos ⟨hk1,h1⟩,hof,h2];rfl
theorem adh {ss : List StD} {tys : List TyD} {p : PlD} {c : List Value} {p0 q : Option Addr} {cap0 capt : Nat} {w : World} {r : Gh} {K : Value→World→Prop} (hr : Holds r w) (hs : StG r p0 ss) (ht : TysG r q tys) (htl : tys.length≤maxLen) (hp : PlG r c p)
  (h : ∀ w',Ext w w'→K (.bool (zW ss tys p).isSome) w') : ze Tryz.prog Tryz.Yp #[.slice p0 ss.length cap0,.slice q tys.length capt,.agg c.toArray] w K:=by
 refine Tryz.acH ?_
 unfold Tryz.Jv
 obtain ⟨v,rfl,hl⟩:=id hp
 obtain ⟨qs,caps,rfl,_,_⟩:=hl.sl.shape
 have S:=St.start hr
 refine S.box fun b5 w1 S=>?_
 have S : StX noX w r w1 [.cell b5 [.int .i64 p.l,.slice qs p.ps.length caps] 47]:=S
 refine S.ldB (b:=b5) ?_ rfl
 refine Qy S.holds hs ht htl hp (fun w2 hn e2=>?_) fun t g q cap vg s w2 hsm e2 n2 htt hg=>?_
 ·have S:=S.go e2
  refine gP_ ?_
  refine gP_ ?_
  refine gP_ ?_
  refine S.al fun b7 w3 S=>?_
  refine S.stB (b:=b7) fun w4 S=>?_
  have:=h _ S.ext
  rw [hn] at this;exact this
 ·have S:=S.go e2
  refine gP_ ?_
  refine gP_ ?_
  refine gP_ ?_
  refine S.al fun b7 w3 S=>?_
  refine S.stB (b:=b7) fun w4 S=>?_
  have:=h _ S.ext
  rw [hsm] at this;exact this
theorem Qz {ss : List StD} {tys : List TyD} {p : PlD} {c : List Value} {p0 q : Option Addr} {cap0 capt : Nat} {w : World} {r : Gh} {K : Value→World→Prop} (hr : Holds r w) (hs : StG r p0 ss) (ht : TysG r q tys) (htl : tys.length≤maxLen) (hp : PlG r c p)
  (h : ∀ v' sn w',Ext w w'→New w sn w'→TyG sn v' (yy ss tys p).1→k9 sn v' (yy ss tys p).1→K (.tuple #[v',.int .i64 (yy ss tys p).2]) w') : ze Tryz.prog Tryz.jd #[.slice p0 ss.length cap0,.slice q tys.length capt,.agg c.toArray] w K:=by
 refine Tryz.abI ?_
 unfold Tryz.Qt
 obtain ⟨v,rfl,hl⟩:=id hp
 obtain ⟨qs,caps,rfl,_,_⟩:=hl.sl.shape
 have S:=St.start hr
 refine S.box fun b5 w1 S=>?_
 have S : StX noX w r w1 [.cell b5 [.int .i64 p.l,.slice qs p.ps.length caps] 47]:=S
 refine S.al fun b6 w2 S=>?_
 refine S.ldB (b:=b5) ?_ rfl
 unfold yy at h
 refine Qy S.holds hs ht htl hp (fun w2 hn e2=>?_) fun t g q cap vg s w2 hsm e2 n2 htt hg=>?_
 ·have S:=S.go e2
  rw [hn] at h
  refine gP_ ?_
  refine gP_ ?_
  refine gP_ ?_
  refine S.al fun b7 w3 S=>?_
  refine S.stB (b:=b7) fun w4 S=>?_
  refine gP_ ?_
  refine c_t rfl ?_
  refine zo (cs:=#[.int .u8 0,.bool false,.int .i64 0,.int .i64 0,.slice none 0 0]) (by kernel_rfl) ?_
  refine S.stB (b:=b6) fun w5 S=>?_
  refine gG_ ?_
  exact h _ nothing _ S.ext New.nothing zI .nil
 ·have S:=S.go e2
  rw [hsm] at h
  have hB : isB t=true:=(YD hsm).1.is (YD hsm).2
  refine gP_ ?_
  refine gP_ ?_
  refine gP_ ?_
  refine S.al fun b7 w3 S=>?_
  refine S.stB (b:=b7) fun w4 S=>?_
  refine gP_ ?_
  refine c_f rfl ?_
  refine S.ldB (b:=b7) ?_ rfl
  refine Yy S.holds htt fun v5 sn w5 e5 n5 h5 hc5=>?_
  rw [hB] at h5 hc5 ⊢
  obtain ⟨S,d5,a5⟩:=S.tell e5 n5
  have h50:=h5
  obtain ⟨p5,cap5,rfl,_⟩:=h5
  refine gP_ ?_
  refine gP_ ?_
  refine S.stB (b:=b6) fun w6 S=>?_
  refine gG_ ?_
  exact h _ sn _ S.ext (S.newOf a5) h50 hc5
end Go.Proofs
end
section
namespace Go.Sh
theorem afS {w : World} {b g c : Bool} {A1 : (List Value→World→Prop)→Prop} {A2 : (List Value→World→Prop)→World→Prop} {Z : Value→World→Prop}
  (h1 : ∀ K : List Value→World→Prop,K [.bool g] w→A1 K) (h2 : ∀ K : List Value→World→Prop,K [.bool c] w→A2 K w) (hZ : Z (.bool (b&&(g||c))) w) :
  za (fun K=>gIf (.bool b) true (A1 K) (K [undef] w)) fun s15 _ w17=>
   za (fun K=>gIf (s15.getD 0 undef) false (A2 K w17) (K [undef] w17)) fun s19 _ w21=>
    za (fun K=>gIf (.bool b) true (zb (s15.getD 0 undef) (.bool true) (s19.getD 0 undef) fun t=>K [t] w21) (K [undef] w21)) fun s23 _ w25=>
     zb (.bool b) (s23.getD 0 undef) (.bool false) fun t=>Z t w25:=by
 cases b<;>cases g<;>cases c <;>
  (iterate 3 (intro K hK;first|refine hK _ _ fun _=>?_|refine h1 _ (hK _ _ fun _=>?_)|refine h2 _ (hK _ _ fun _=>?_)|refine ⟨_,rfl,hK _ _ fun _=>?_⟩)) <;>
  exact ⟨_,rfl,by simpa using hZ⟩
end Go.Sh
namespace Go.Proofs
open Go.Sh
set_option maxRecDepth 100000
set_option linter.unusedSimpArgs false
set_option linter.unusedVariables false
theorem abL {ss : List StD} {p : Option Addr} {cap : Nat} (hg : xj ss) (hac : ∀ k,¬ Rch ss k k) : ∀ (m : Nat) {t : TyD} {w : World} {r : Gh} {v : Value} {K : Value→World→Prop},m≤100→rkT ss t≤m→zy ss.length 48 t=true→ss.length≤32→(∀ k,(zd ss k).length≤8)→
  Holds r w→StG r p ss→TyG r v t→(∀ (n : Nat) w',Ext w w'→n≤17*m+1→(n=wF ss m t∨(16<n∧16<wF ss m t))→K (.int .i64 (n : Int)) w')→ze Tryz.prog Tryz.qz #[.slice p ss.length cap,v] w K:=by
 intro m
 induction m with
 |zero=>
  intro t w r v K _ hrk hl h32 h8 hr hs hv h
  have h5 : ¬ t.k=5:=fun h=>by unfold rkT at hrk;rw [if_pos h] at hrk;omega
  refine Tryz.YG ?_
  unfold Tryz.vD
  obtain ⟨p1,cap1,rfl,_⟩:=hv
  have S:=St.start hr
  refine S.box fun b3 w1 S=>?_
  refine gg_ ?_
  refine zj (fun _=>?_) (fun hn=>absurd (by omega) h5)
  exact h 1 _ S.ext (by omega) (.inl (by rw [wF]))
 |succ m ih=>
  intro t w r v K hm hrk hl h32 h8 hr hs hv h
  refine Tryz.YG ?_
  unfold Tryz.vD
  obtain ⟨p1,cap1,rfl,_⟩:=hv
  have S:=St.start hr
  refine S.box fun b3 w1 S=>?_
  refine gg_ ?_
  refine zj (fun hn=>?_) (fun h5=>?_)
  ·exact h 1 _ S.ext (by omega) (.inl (by rw [wF,if_neg (by omega)]))
  have h5 : t.k=5:=by omega
  obtain ⟨hst0,hst1,_⟩:=kR hl h5
  have hlt : t.st.toNat<ss.length:=by omega
  obtain ⟨b,off,q,capq,rfl,hcell,_,_,hf⟩:=yZ hs hlt
  have htl : zd ss t.st=ss[t.st.toNat].fs.map (·.2):=by
   rw [← yi hlt];simp only [zd,Int.toNat_natCast]
  have hlen : (zd ss t.st).length=ss[t.st.toNat].fs.length:=by rw [htl,List.length_map]
  have h88:=h8 t.st
  refine zk (ι:=Nat × Nat) (fun i=>[.int .i64 (i.2 : Nat),.int .i64 (i.1 : Nat)]) (fun i w'=>i.1≤(zd ss t.st).length∧i.2≤17*(m+1)+1∧(i.2=z8 (((zd ss t.st).take i.1).map (wF ss m))∨(16<i.2∧16<z8 (((zd ss t.st).take i.1).map (wF ss m))))∧St w r w' _)
   (fun i=>(zd ss t.st).length - i.1) (0,0) rfl ⟨Nat.zero_le _,Nat.zero_le _,.inl (by simp [z8]),S⟩ ?_
  clear S
  rintro ⟨i,n⟩ d w2 ⟨hi,hnb,hn,S⟩ K6 hK6
  simp only at hi hnb hn S ⊢
  simp only [List.getD_cons_zero,List.getD_cons_succ]
  refine gg_ ?_
  refine zm (S.at hcell) ?_
  refine gg_ ?_
  have hle : z8 (((zd ss t.st).take i).map (wF ss m))≤wF ss (m+1) t:=by
   rw [wF,if_pos h5];exact aay _ _ _
  refine zg (c:=decide (n≤16)) (fun _ K2 hK2=>?_) ?_
  ·refine gg_ ?_
   rw [show decide ((n : Int)≤16)=decide (n≤16) from decide_eq_decide.2 (by omega)]
   exact hK2
  refine c_b (fun hlt2=>?_) (fun hge=>?_)
  ·obtain ⟨hlt2,hsm⟩ : i<ss[t.st.toNat].fs.length∧n≤16:=by
    simp only [Bool.and_eq_true,decide_eq_true_eq] at hlt2;omega
   have hlt3 : i<(zd ss t.st).length:=by omega
   have hn : n=z8 (((zd ss t.st).take i).map (wF ss m)):=by omega
   obtain ⟨b2,off2,c,rfl,hcl,hcc,hty⟩:=xV hf hlt2
   refine gg_ ?_
   refine zm (S.at hcell) ?_
   refine gg_ ?_
   refine zq (n:=5) (c:=c) hcl (fun j v hj=>by
    have:=S.at (hcc (j+1) v (by simpa using hj))
    rw [Int.toNat_natCast,Nat.add_assoc _ 1 j,Nat.add_comm 1 j];exact this) ?_
   have hel : (zd ss t.st)[i]=ss[t.st.toNat].fs[i].2:=by simp only [htl,List.getElem_map]
   have hmem : ss[t.st.toNat].fs[i].2 ∈ zd ss t.st:=by rw [← hel];exact List.getElem_mem hlt3
   have hrk2:=VI hg hac h5 hmem
   refine ih (by omega) (by omega) (hg _ _ hmem) h32 h8 S.holds hs hty fun x w5 e5 hxb hx=>?_
   have S:=S.go e5
   have hst:=Qg (wF ss m) hlt3
   rw [hel] at hst
   refine gg_ ?_
   rw [show ((n : Int)+(x : Int))=((n+x : Nat) : Int) by omega,show ((i : Int)+1)=((i+1 : Nat) : Int) by omega]
   exact hK6 (i+1,n+x) _ ⟨hlt3,by simp only;omega,by simp only;omega,S⟩ (by simp only;omega)
  ·refine h n _ S.ext hnb ?_
   by_cases hie : i=(zd ss t.st).length
   ·rw [hie,List.take_length] at hn
    rw [wF,if_pos h5];exact hn
   ·have h1 : ¬ n≤16:=by
     intro hc
     rw [decide_eq_true hc,Bool.and_true,decide_eq_false_iff_not] at hge
     omega
    exact .inr ⟨by omega,by omega⟩
theorem adV : ∀ (l : List Bool) (L : Nat),(∀ j,l.getD j false=true→j<L)→l.length≤cf l+L
 |[],L,_=>Nat.zero_le _
 |b::l,0,h=>by
  have hb : b=false:=by
   cases b
   ·rfl
   ·exact absurd (h 0 rfl) (Nat.lt_irrefl 0)
  have:=adV l 0 fun j hj=>absurd (h (j+1) (by simpa using hj)) (Nat.not_lt_zero _)
  rw [hb,cf,List.length_cons]
  simp only [Bool.false_eq_true,if_false]
  omega
 |b::l,L+1,h=>by
  have:=adV l L fun j hj=>Nat.lt_of_succ_lt_succ (h (j+1) (by simpa using hj))
  rw [cf,List.length_cons]
  omega
def Shut (ss : List StD) (k : Nat) (met : List Bool) : Prop:=∀ b : Nat,b<ss.length→(b=k∨mt met b=true)→∀ t ∈ zd ss b,t.k=5→mt met t.st=true
theorem aff {ss : List StD} {k : Nat} {met : List Bool} (hg : xj ss) (hk : k<ss.length) (h : Shut ss k met) {j : Int} (hr : Rch ss k j) : mt met j=true:=by
 induction hr with
 |one e=>obtain ⟨t,ht,h5,rfl⟩:=e;exact h k hk (.inl rfl) t ht h5
 |@more x j hr e ih=>
  obtain ⟨t,ht,h5,rfl⟩:=e
  have hin:=VG hg hr
  have hx : ((x.toNat : Nat) : Int)=x:=by omega
  exact h x.toNat (by omega) (.inr (by rw [hx];exact ih)) t (by rw [hx];exact ht) h5
theorem aaL {met : List Bool} {j : Int} (h : mt met j=true) : met.set j.toNat true=met:=by
 unfold mt at h
 rw [List.getD_eq_getElem?_getD] at h
 by_cases hl : j.toNat<met.length
 ·rw [List.getElem?_eq_getElem hl] at h
  have h : met[j.toNat]=true:=h
  rw [← h,List.set_getElem_self]
 ·rw [List.getElem?_eq_none (by omega)] at h;cases h
set_option maxHeartbeats 1000000 in
theorem VZ {ss : List StD} {p : Option Addr} {cap k : Nat} (hg : xj ss) (h32 : ss.length≤32) (hk : k<ss.length) (h8 : ∀ k,(zd ss k).length≤8) {w : World} {r : Gh} {K : Value→World→Prop} (hr : Holds r w) (hs : StG r p ss)
  (h : ∀ w',Ext w w'→K (.bool (ko ss k)) w') : ze Tryz.prog Tryz.jj #[.slice p ss.length cap,.int .i64 (k : Nat)] w K:=by
 refine Tryz.JH ?_
 unfold Tryz.ZZ
 have S:=St.start hr
 refine S.al fun b5 w1 S=>?_
 have S : StX noX w r w1 [.cell b5 (z7 (List.replicate 32 false)) 151]:=S
 have hno : ∀ j : Nat,mt (List.replicate 32 false) j=true→False:=fun j hj=>by
  unfold mt at hj;rw [List.getD_eq_getElem?_getD,List.getElem?_replicate] at hj
  split at hj<;>cases hj
 refine zk (ι:=Nat × List Bool) (fun i=>[.int .i64 (i.1 : Nat)]) (fun i w'=>i.1≤ss.length+1∧i.2.length=32∧(∀ j : Nat,mt i.2 j=true→Rch ss k j)∧(Shut ss k i.2∨cf i.2+i.1≤32)∧StX noX w r w' [.cell b5 (z7 i.2) 151])
  (fun i=>ss.length+1 - i.1) (0,List.replicate 32 false) rfl ⟨Nat.zero_le _,rfl,fun j hj=>(hno j hj).elim,.inr (show cf (List.replicate 32 false)+0≤32 by decide),S⟩ ?_
 clear S
 rintro ⟨R,met⟩ d w2 ⟨hR,hl32,hsnd,hcl,S⟩ K2 hK2
 simp only at hR hl32 hsnd hcl S ⊢
 rw [List.getD_cons_zero]
 refine gg_ ?_
 refine zj (fun hlt=>?_) (fun hge=>?_)
 rotate_left
 ·have hRe : R=ss.length+1:=by omega
  have hsh : Shut ss k met:=by
   refine hcl.resolve_right fun hc=>?_
   have:=adV met ss.length fun j hj=>by
    have h1 : mt met j=true:=by unfold mt;rw [Int.toNat_natCast];exact hj
    have:=VG hg (hsnd j h1)
    omega
   omega
  refine gg_ ?_
  refine S.ld (b:=b5) (v:=.bool (mt met (k : Int))) ?_ (by rw [Nat.zero_add,Nat.mul_one];exact ZH (by omega))
  rw [QR (b:=mt met (k : Int)) (fun hb=>hsnd k hb) fun hr=>aff hg hk hsh hr]
  exact h _ S.ext
 have hlt : R≤ss.length:=by omega
 refine zk (ι:=Nat × List Bool) (fun i=>[.int .i64 (i.1 : Nat)]) (fun i w'=>i.1≤ss.length∧i.2.length=32∧(∀ j : Nat,mt i.2 j=true→Rch ss k j)∧cf i.2≤cf met∧(cf i.2=cf met→∀ b : Nat,b<i.1→(b=k∨mt i.2 b=true)→∀ t ∈ zd ss b,t.k=5→mt i.2 t.st=true)∧(Shut ss k met→i.2=met)∧StX noX w r w' [.cell b5 (z7 i.2) 151])
  (fun i=>ss.length - i.1) (0,met) rfl ⟨Nat.zero_le _,hl32,hsnd,Nat.le_refl _,fun _ b hb=>absurd hb (Nat.not_lt_zero _),fun _=>rfl,S⟩ ?_
 clear S
 rintro ⟨b,m1⟩ d w3 ⟨hb,hl1,hsnd1,hc1,hsh1,hfx1,S⟩ K6 hK6
 simp only at hb hl1 hsnd1 hc1 hsh1 hfx1 S ⊢
 rw [List.getD_cons_zero]
 refine gg_ ?_
 refine zj (fun hlt2=>?_) (fun hge2=>?_)
 rotate_left
 ·have hbe : b=ss.length:=by omega
  refine gg_ ?_
  rw [show ((R : Int)+1)=((R+1 : Nat) : Int) by omega]
  refine hK2 (R+1,m1) _ ⟨by simp only;omega,hl1,hsnd1,?_,S⟩ (by simp only;omega)
  rcases hcl with hcl|hcl
  ·rw [hfx1 hcl];exact .inl hcl
  ·by_cases hce : cf m1=cf met
   ·exact .inl fun b' hb'=>hsh1 hce b' (by omega)
   ·exact .inr (by simp only;omega)
 have hlt2 : b<ss.length:=by omega
 obtain ⟨bs,os,q,capf,rfl,hcs,_,_,hf⟩:=yZ hs hlt2
 have htl:=yi hlt2
 have hlen : (zd ss (b : Int)).length=ss[b].fs.length:=by rw [htl,List.length_map]
 have h88:=h8 b
 refine zk (ι:=Nat × List Bool) (fun i=>[.int .i64 (i.1 : Nat)]) (fun i w'=>i.1≤(zd ss (b : Int)).length∧i.2.length=32∧(∀ j : Nat,mt i.2 j=true→Rch ss k j)∧cf i.2≤cf met∧(cf i.2=cf met→∀ b' : Nat,b'<b→(b'=k∨mt i.2 b'=true)→∀ t ∈ zd ss b',t.k=5→mt i.2 t.st=true)∧
   (cf i.2=cf met→∀ t ∈ (zd ss (b : Int)).take i.1,t.k=5→mt i.2 t.st=true)∧(Shut ss k met→i.2=met)∧StX noX w r w' [.cell b5 (z7 i.2) 151])
  (fun i=>(zd ss (b : Int)).length - i.1) (0,m1) rfl ⟨Nat.zero_le _,hl1,hsnd1,hc1,hsh1,fun _ t ht=>by simp at ht,hfx1,S⟩ ?_
 clear S
 rintro ⟨i,m2⟩ d w4 ⟨hi,hl2,hsnd2,hc2,hsh2,hrow2,hfx2,S⟩ K10 hK10
 simp only at hi hl2 hsnd2 hc2 hsh2 hrow2 hfx2 S ⊢
 rw [List.getD_cons_zero]
 refine gg_ ?_
 refine zm (by rw [Int.toNat_natCast];exact S.at hcs) ?_
 refine gg_ ?_
 refine afS (g:=decide ((b : Int)=(k : Int))) (c:=mt m2 (b : Int)) (fun K hK=>by refine gg_ ?_;exact hK) (fun K hK=>?_) ?_
 ·refine gg_ ?_
  refine S.ld (b:=b5) (v:=.bool (mt m2 (b : Int))) ?_ (by rw [Nat.zero_add,Nat.mul_one];exact ZH (by omega))
  exact hK
 refine c_b (fun hgo=>?_) (fun hno=>?_)
 rotate_left
 ·refine gg_ ?_
  rw [show ((b : Int)+1)=((b+1 : Nat) : Int) by omega]
  refine hK6 (b+1,m2) _ ⟨hlt2,hl2,hsnd2,hc2,fun hce b' hb' hor t ht h5=>?_,hfx2,S⟩ (by simp only;omega)
  have hb' : b'<b+1:=hb'
  by_cases hbb : b'=b
  ·subst hbb
   by_cases hie : i=(zd ss (b' : Int)).length
   ·refine hrow2 hce t ?_ h5
    rw [hie,List.take_length];exact ht
   ·exfalso
    have hor : b'=k∨mt m2 (b' : Int)=true:=hor
    rw [decide_eq_true (show (i : Int)<(ss[b'].fs.length : Int) by omega),Bool.true_and,Bool.or_eq_false_iff,decide_eq_false_iff_not] at hno
    rcases hor with rfl|hor
    ·exact hno.1 rfl
    ·rw [hno.2] at hor;cases hor
  ·exact hsh2 hce b' (by omega) hor t ht h5
 simp only [Bool.and_eq_true,Bool.or_eq_true,decide_eq_true_eq] at hgo
 obtain ⟨hil,hor⟩:=hgo
 have hlt3 : i<ss[b].fs.length:=by omega
 have hlt4 : i<(zd ss (b : Int)).length:=by omega
 have hel : (zd ss (b : Int))[i]=ss[b].fs[i].2:=by simp only [htl,List.getElem_map]
 obtain ⟨b2,off2,c,rfl,hcl2,hcc,hty⟩:=xV hf hlt3
 obtain ⟨pt,capt,rfl,_⟩:=ZF hty
 have lk : Ob r fun w=>w.cell? ⟨b2,off2+i*6+1,none⟩=some (.int .u8 ss[b].fs[i].2.k):=hcc 1 _ rfl
 have ls : Ob r fun w=>w.cell? ⟨b2,off2+i*6+4,none⟩=some (.int .i64 ss[b].fs[i].2.st):=hcc 4 _ rfl
 have hst:=List.take_succ_eq_append_getElem hlt4
 have hmem : (zd ss (b : Int))[i] ∈ zd ss (b : Int):=List.getElem_mem hlt4
 rw [hel] at hst hmem
 generalize ss[b].fs[i].2=u at lk ls hst hmem
 have hgo2 : ∀ {m3 : List Bool} {w9 : World},m3.length=32→(∀ j : Nat,mt m3 j=true→Rch ss k j)→cf m3≤cf m2→(cf m3=cf m2→m3=m2)→(cf m3=cf met→u.k=5→mt m3 u.st=true)→(Shut ss k met→m3=met)→StX noX w r w9 [.cell b5 (z7 m3) 151]→K10 [.int .i64 ((i+1 : Nat) : Int)] w9:=fun h1 h2 h3 h4 h5 h6 S=>by
  refine hK10 (i+1,_) _ ⟨hlt4,h1,h2,by simp only;omega,fun hce=>?_,fun hce t ht htk=>?_,h6,S⟩ (by simp only;omega)
  ·rw [h4 (by simp only at hce;omega)];exact hsh2 (by simp only at hce;omega)
  ·simp only at hce ht ⊢
   rw [hst,List.mem_append,List.mem_singleton] at ht
   rcases ht with ht|rfl
   ·rw [h4 (by omega)];exact hrow2 (by omega) t ht htk
   ·exact h5 hce htk
 refine zp (fun _ w'=>∃ m3 : List Bool,m3.length=32∧(∀ j : Nat,mt m3 j=true→Rch ss k j)∧cf m3≤cf m2∧(cf m3=cf m2→m3=m2)∧(cf m3=cf met→u.k=5→mt m3 u.st=true)∧(Shut ss k met→m3=met)∧StX noX w r w' [.cell b5 (z7 m3) 151]) (fun K11 hK11=>?_) ?_
 rotate_left
 ·rintro _ w5 ⟨m3,h1,h2,h3,h4,h5,h6,S⟩ d5
  refine gg_ ?_
  rw [show ((i : Int)+1)=((i+1 : Nat) : Int) by omega]
  exact hgo2 h1 h2 h3 h4 h5 h6 S
 refine gg_ ?_
 refine zm (by rw [Int.toNat_natCast];exact S.at hcs) ?_
 refine gg_ ?_
 refine zm (by rw [Int.toNat_natCast];exact S.at lk) ?_
 refine gg_ ?_
 refine zj (fun h5=>?_) (fun h5=>?_)
 rotate_left
 ·exact hK11 _ _ ⟨m2,hl2,hsnd2,Nat.le_refl _,fun _=>rfl,fun _ hh=>absurd (by omega) h5,hfx2,S⟩
 have h5 : u.k=5:=by omega
 have hkid : Kid ss (b : Int) u.st:=⟨u,hmem,h5,rfl⟩
 have hin:=jl hg hkid
 have hrk : Rch ss k u.st:=by
  rcases hor with hor|hor
  ·have : b=k:=by omega
   subst this;exact .one hkid
  ·exact .more (hsnd2 b hor) hkid
 refine gg_ ?_
 refine zm (by rw [Int.toNat_natCast];exact S.at hcs) ?_
 refine gg_ ?_
 refine zm (by rw [Int.toNat_natCast];exact S.at ls) ?_
 refine gg_ ?_
 refine S.st (b:=b5) (fun w7 S=>?_) (by rw [Qi];omega)
 have e1 : (z7 m2).set (0+u.st.toNat*1) (.bool true)=z7 (m2.set u.st.toNat true):=by
  rw [Nat.zero_add,Nat.mul_one,z7,z7,List.map_set]
 rw [e1] at S
 have hms : ∀ j : Int,0≤j→mt (m2.set u.st.toNat true) j=(decide (j=u.st)||mt m2 j):=fun j hj=>acx hin.1 hj (by omega)
 refine hK11 _ _ ⟨m2.set u.st.toNat true,by rw [List.length_set];exact hl2,fun j hj=>?_,?_,fun hce=>?_,fun _ _=>?_,fun hsh=>?_,S⟩
 ·rw [hms j (by omega),Bool.or_eq_true,decide_eq_true_eq] at hj
  rcases hj with hj|hj
  ·rw [hj];exact hrk
  ·exact hsnd2 j hj
 ·cases hm : mt m2 u.st with
  |true=>rw [aaL hm];exact Nat.le_refl _
  |false=>
   have:=Qh (l:=m2) (i:=u.st.toNat) (by
    unfold mt at hm
    rw [List.getD_eq_getElem?_getD,List.getElem?_eq_getElem (by omega)] at hm
    rw [List.getElem?_eq_getElem (by omega)]
    simpa using hm)
   omega
 ·cases hm : mt m2 u.st with
  |true=>exact aaL hm
  |false=>
   have:=Qh (l:=m2) (i:=u.st.toNat) (by
    unfold mt at hm
    rw [List.getD_eq_getElem?_getD,List.getElem?_eq_getElem (by omega)] at hm
    rw [List.getElem?_eq_getElem (by omega)]
    simpa using hm)
   omega
 ·rw [hms _ hin.1];simp
 ·have hm2:=hfx2 hsh
  have hmt : mt met u.st=true:=hsh b hlt2 (by
   rcases hor with hor|hor
   ·exact .inl (by omega)
   ·rw [← hm2];exact .inr hor) u hmem h5
  rw [hm2,aaL hmt]
end Go.Proofs
end
section
namespace Go.Sh
open Go.RowKit Go.MapKept
set_option linter.unusedVariables false
def zr1 (P : Program) (t : TypeId) : Option Value:=(P.info? t).bind fun i=>i.zero
theorem aeB {P : Program} {t : TypeId} {z : Value} (hz : zr1 P t=some z) (w : World) : (zeroValue t).run P w = .ok z w:=by
 unfold zr1 at hz
 cases hi : P.info? t with
 |none=>rw [hi] at hz;cases hz
 |some i=>
  rw [hi] at hz
  have hz : i.zero=some z:=hz
  simp [zeroValue,typeInfo,Sem.run,pure,hi,hz,Sem.run_bind,Result.andThen]
def mpT (P : Program) (t : TypeId) : Option (TypeId × TypeId):=match P.underlying t with
 |some (.map k e)=>(match P.underlying k with|some .string=>some (k,e)|_=>none)
 |_=>none
theorem acM {P : Program} {t k e : TypeId} (h : mpT P t=some (k,e)) : P.underlying t=some (.map k e)∧P.underlying k=some .string:=by
 unfold mpT at h
 split at h
 ·rename_i k' e' h1
  split at h
  ·rename_i h2
   cases h;exact ⟨h1,h2⟩
  ·cases h
 ·cases h
def Xm (x : ByteArray) : List MapEntry→Option Value
 |[]=>none
 |m::l=>match m.key with|.string s=>if x == s then some m.val else Xm x l|_=>Xm x l
def afg (l : List MapEntry) : Prop:=∀ m ∈ l,∃ s,m.key = .string s
theorem J3 {x : ByteArray} : ∀ {l : List MapEntry} {i : Nat},afg l→∃ o,Instr.findNow .string (.string x) l i=some o∧o.map (·.2)=Xm x l
 |[],i,_=>⟨none,rfl,rfl⟩
 |m::l,i,h=>by
  obtain ⟨s,hs⟩:=h m List.mem_cons_self
  cases hx : (x == s) with
  |true=>
   refine ⟨some (i,m.val),?_,?_⟩
   ·rw [Instr.findNow,hs]
    simp [Instr.sameNow,hx]
   ·rw [Xm,hs];simp [hx]
  |false=>
   obtain ⟨o,h1,h2⟩:=J3 (x:=x) (l:=l) (i:=i+1) fun y hy=>h y (List.mem_cons_of_mem _ hy)
   refine ⟨o,?_,?_⟩
   ·rw [Instr.findNow,hs]
    simp [Instr.sameNow,hx,h1]
   ·rw [h2,Xm,hs];simp [hx]
theorem aeC (x y : ByteArray) : (x == y)=(x.toList == y.toList):=by
 rw [show (x == y)=(x.data == y.data) by cases x;cases y;rfl,ByteArray.toList_eq,ByteArray.toList_eq,Bool.eq_iff_iff,beq_iff_eq,beq_iff_eq,Array.toList_inj]
section
variable {P : Program} {X : Nat→Prop} {w0 w : World} {r : Gh} {L : List Asr} {t k e : TypeId} {b c : Nat} {es : Array MapEntry}
theorem StX.addO (S : StX X w0 r w L) {w' : World} (ex : Ext w w') {o : Obj} (hb : w.heap.size≤b) (B : w'.heap[b]? = some o) (ho : Obj.isBook o=false) : StX X w0 r w' (.obj b (· = o)::L):=by
 have S':=S.go ex
 refine ⟨S'.x,S'.holds,?_,?_,.cons ?_ S'.apart⟩
 ·intro x hx;rcases List.mem_cons.1 hx with rfl|hx
  ·exact ⟨o,B,ho,rfl⟩
  ·exact S'.has x hx
 ·intro x hx;rcases List.mem_cons.1 hx with rfl|hx
  ·rintro k rfl
   exact ⟨.inl (by have:=S.x.size;omega),fun o ho=>by have:=S.holds.lt ho;omega⟩
  ·exact S'.mine x hx
 ·rintro y hy k rfl hk
  have:=Asr.lt (S.has y hy) hk;omega
theorem StX.mkMap (S : StX X w0 r w L) {K : Value→World→Prop} (h : ∀ b w',StX X w0 r w' (.obj b (· = .map #[] 0)::L)→K (.map (some b)) w') : opW P w (Instr.makeMap t none) K:=by
 refine ⟨.map (some w.heap.size),{ w with heap:=w.heap.push (.map #[] 0) },?_,h _ _ (S.addO ?_ (Nat.le_refl _) ?_ rfl)⟩
 ·simp [Instr.makeMap,newObj,Sem.run_bind,Sem.run,pure,Result.andThen]
  try rfl
 ·exact ⟨rfl,rfl,rfl,by simp,fun b hb=>by simp [Array.getElem?_push,Nat.ne_of_lt hb]⟩
 ·simp
theorem StX.mapAdd (S : StX X w0 r w (.obj b (· = .map es c)::L)) {x : ByteArray} {v : Value} (ht : mpT P t=some (k,e)) (hs : afg es.toList) (hn : Xm x es.toList=none) {K : World→Prop}
  (h : ∀ w',StX X w0 r w' (.obj b (· = .map (es.push { key:=.string x,val:=v,born:=c }) (c+1))::L)→K w') : opU P w (Instr.mapUpdate t (.map (some b)) (.string x) v) K:=by
 obtain ⟨ht,hk⟩:=acM ht
 obtain ⟨o,hb,_,rfl⟩:=S.has _ List.mem_cons_self
 obtain ⟨o,h1,h2⟩:=J3 (x:=x) (i:=0) hs
 have h3 : o=none:=by
  rw [hn] at h2
  cases o with
  |none=>rfl
  |some y=>cases h2
 subst h3
 have hf:=run_findKey (w:=w) hk h1
 refine ⟨{ w with heap:=w.heap.setIfInBounds b (.map (es.push { key:=.string x,val:=v,born:=c }) (c+1)) },?_,h _ ?_⟩
 ·simp [Instr.mapUpdate,run_underlying ht,MapKept.run_getObj_map hb,run_checkKey (w:=w) hk (k:=.string x) trivial false 9999,hf,MapKept.run_setObj_map _ hb,Result.andThen]
 ·obtain ⟨e1,e2⟩:=heap_set hb (o':=.map (es.push { key:=.string x,val:=v,born:=c }) (c+1))
  exact S.turn (p:=[]) (x:=.obj b (· = .map es c)) (y:=.obj b (· = .map (es.push { key:=.string x,val:=v,born:=c }) (c+1))) ⟨rfl,rfl,rfl,by simp,fun k _ hk=>e2 k hk⟩ ⟨_,e1,rfl,rfl⟩ fun k hk=>.inl hk
theorem StX.mapGet (S : StX X w0 r w (.obj b (· = .map es c)::L)) {x : ByteArray} {z : Value} (ht : mpT P t=some (k,e)) (hz : zr1 P e=some z) (hs : afg es.toList) {K : Value→Prop} (h : K ((Xm x es.toList).getD z)) :
  opQ P w (Instr.lookup t (.map (some b)) (.string x) false) K:=by
 obtain ⟨ht,hk⟩:=acM ht
 obtain ⟨o,hb,_,rfl⟩:=S.has _ List.mem_cons_self
 obtain ⟨o,h1,h2⟩:=J3 (x:=x) (i:=0) hs
 refine ⟨_,fun w' ex=>?_,h⟩
 have hb' : w'.heap[b]? = some (.map es c):=(ex.block b (Array.getElem?_eq_some_iff.1 hb).1).trans hb
 have hf:=run_findKey (w:=w') hk h1
 rw [← h2]
 cases o with
 |none=>simp [Instr.lookup,run_underlying ht,MapKept.run_getObj_map hb',run_checkKey (w:=w') hk (k:=.string x) trivial _ 9999,hf,aeB hz,Result.andThen]
 |some y=>simp [Instr.lookup,run_underlying ht,MapKept.run_getObj_map hb',run_checkKey (w:=w') hk (k:=.string x) trivial _ 9999,hf,Result.andThen]
end
end Go.Sh
end
section
namespace Go.Proofs
open Go.Sh
set_option maxRecDepth 100000
set_option linter.unusedSimpArgs false
set_option linter.unusedVariables false
structure PaD where
 tt : TyD
 tm : Int
 tok : Bool
 ft : TyD
 fm : Int
 fok : Bool
 at' : TyD
 aok : Bool
 bt : TyD
 bok : Bool
noncomputable def ptH (u : UnD) (g : GrD) (p : PtD) (x : PaD) : Bool:=
 if p.op=1 then ((zH p { to:=true,a:=true } && (x.tok&&decide (x.tm<3)))&&x.aok)&&zR yd x.at' x.tt
 else if p.op=2 then
  (zH p { to:=true,a:=true,b:=true,sign:=true } && ((x.tok&&decide (x.tm<3))&&(x.aok&&x.bok))) &&
   (if ya p.sign [[43],[45],[42],[47],[37]] then isK x.tt 1&&(isK x.at' 1&&isK x.bt 1)
    else if ya p.sign [[60],[60,61],[62],[62,61]] then isK x.tt 2&&(isK x.at' 1&&isK x.bt 1)
    else if ya p.sign [[61,61],[33,61]] then isK x.tt 2&&((isK x.at' 1&&isK x.bt 1)||(isK x.at' 2&&isK x.bt 2)) else false)
 else if p.op=3 then
  ((zH p { to:=true,a:=true,sign:=true } && (x.tok&&decide (x.tm<3)))&&x.aok) &&
   (if ya p.sign [[45]] then isK x.tt 1&&isK x.at' 1 else if ya p.sign [[33]] then isK x.tt 2&&isK x.at' 2 else false)
 else if p.op=4 then
  ((((zH p { to:=true,fr:=true,mu:=true } && (x.tok&&decide (x.tm<3)))&&x.fok)&&isK x.tt 4)&&(x.tt.m == p.mu))&&(zR yd (x.tt.of.headD zr) x.ft && !(p.mu&&decide (x.fm=3)))
 else if p.op=5 then (((zH p { to:=true,a:=true } && (x.tok&&decide (x.tm<3)))&&x.aok)&&isK x.tt 3)&&zR yd (x.tt.of.headD zr) x.at'
 else if p.op=6 then
  (((zH p { to:=true,args:=true,st:=true } && (x.tok&&decide (x.tm<3)))&&isK x.tt 5)&&decide (x.tt.st=p.st))&&y0 u.ss g.tys p.args (ym u.ss x.tt).1
 else if p.op=7 then
  ((zH p { to:=true,args:=true,fn:=true } && (x.tok&&decide (x.tm<3)))&&(decide (0≤p.fn)&&decide (p.fn<u.fs.length))) &&
   (match u.fs[p.fn.toNat]? with
    |some f=>zR yd x.tt (f.tys.headD zr)&&y0 u.ss g.tys p.args ((f.tys.drop 1).take f.pn.toNat)
    |none=>false)
 else if p.op=8 then (zH p { to:=true } && (x.tok&&decide (x.tm<3)))&&isK x.tt 1
 else if p.op=9 then (zH p { a:=true } && x.aok)&&isK x.at' 1
 else if p.op=10 then ((zH p { fr:=true } && x.fok)&&(x9 u.ss x.ft).1)&&decide (x.fm<2)
 else if p.op=11 then ((zH p { fr:=true } && x.fok)&&decide (0<p.fr.l))&&decide (p.fr.ps.length=0)
 else if p.op=12 then ((zH p { a:=true,el:=true } && x.aok)&&isK x.at' 2)&&YB g p.el
 else if p.op=13∨p.op=14 then zH p {}
 else false
noncomputable def pad (u : UnD) (g : GrD) (p : PtD) : PaD:=
 ⟨(zi u.ss g.tys p.to).1,(zi u.ss g.tys p.to).2.1,(zi u.ss g.tys p.to).2.2,(zi u.ss g.tys p.fr).1,(zi u.ss g.tys p.fr).2.1,(zi u.ss g.tys p.fr).2.2,
  (zw u.ss g.tys p.a).1,(zw u.ss g.tys p.a).2,(zw u.ss g.tys p.b).1,(zw u.ss g.tys p.b).2⟩
theorem agr (u : UnD) (g : GrD) (p : PtD) : ptG u g p=ptH u g p (pad u g p):=rfl
theorem bb4 {a b c d : Bool} (h : (((!a || !b) || !c) || !d)=true) : (a&&(b&&(c&&d)))=false:=by revert h;cases a<;>cases b<;>cases c<;>cases d<;>simp
theorem ags {a b c d : Bool} (h : (((!a || !b) || !c) || !d)=false) : (a&&(b&&(c&&d)))=true:=by revert h;cases a<;>cases b<;>cases c<;>cases d<;>simp
theorem bb3 {a b c : Bool} {x y : Int} (h : (((!a || !b) || !c)||decide (x≠y))=true) : (((a&&b)&&c)&&decide (x=y))=false:=by
 by_cases e : x=y
 ·simp only [e] at h ⊢;revert h;cases a<;>cases b<;>cases c<;>simp
 ·simp [e]
theorem agt {a b c : Bool} {x y : Int} (h : (((!a || !b) || !c)||decide (x≠y))=false) : (((a&&b)&&c)&&decide (x=y))=true:=by
 by_cases e : x=y
 ·simp only [e] at h ⊢;revert h;cases a<;>cases b<;>cases c<;>simp
 ·simp [e] at h
theorem bb5 {a b : Bool} {x y : Int} (h : (((!a || !b)||decide (x<0))||decide (y≤x))=true) : ((a&&b)&&(decide (0≤x)&&decide (x<y)))=false:=by
 by_cases e : 0≤x<;>by_cases f : x<y
 ·rw [decide_eq_false (show ¬ x<0 by omega),decide_eq_false (show ¬ y≤x by omega)] at h
  revert h;cases a<;>cases b<;>simp
 all_goals simp [e,f]
theorem agu {a b : Bool} {x y : Int} (h : (((!a || !b)||decide (x<0))||decide (y≤x))=false) : ((a&&b)&&(decide (0≤x)&&decide (x<y)))=true:=by
 simp only [Bool.or_eq_false_iff,decide_eq_false_iff_not,Bool.not_eq_false'] at h
 obtain ⟨⟨⟨h1,h2⟩,h3⟩,h4⟩:=h
 rw [h1,h2,decide_eq_true (show 0≤x by omega),decide_eq_true (show x<y by omega)];rfl
theorem mpK : mpT Tryz.prog 164=some (9,28):=by kernel_rfl
theorem mpZ : zr1 Tryz.prog 28=some (.int .u8 0):=by kernel_rfl
theorem afh (x : ByteArray) (f g : Int→Bool) : ∃ ks : Int,(Xm x ((#[].push (⟨.string (bs [45]),.int .u8 1,0⟩ : MapEntry)).push ⟨.string (bs [33]),.int .u8 2,0+1⟩).toList).getD (.int .u8 0) = .int .u8 ks∧
  ((decide (ks≠0)&&f ks)&&g ks)=(if ya x [[45]] then f 1&&g 1 else if ya x [[33]] then f 2&&g 2 else false):=by
 have e : ((#[].push (⟨.string (bs [45]),.int .u8 1,0⟩ : MapEntry)).push ⟨.string (bs [33]),.int .u8 2,0+1⟩).toList = [⟨.string (bs [45]),.int .u8 1,0⟩,⟨.string (bs [33]),.int .u8 2,0+1⟩]:=rfl
 rw [e]
 simp only [Xm,aeC,aa1,ya,List.any_cons,List.any_nil,Bool.or_false]
 by_cases h1 : (x.toList == [45])=true
 ·exact ⟨1,by rw [if_pos h1];rfl,by rw [if_pos h1];simp⟩
 ·by_cases h2 : (x.toList == [33])=true
  ·exact ⟨2,by rw [if_neg h1,if_pos h2];rfl,by rw [if_neg h1,if_pos h2];simp⟩
  ·exact ⟨0,by rw [if_neg h1,if_neg h2];rfl,by rw [if_neg h1,if_neg h2];simp⟩
set_option maxHeartbeats 20000000 in
theorem XO {u : UnD} {g : GrD} {p : PtD} {c : List Value} {v : Value} {w : World} {r : Gh} {K : Value→World→Prop} (hr : Holds r w) (hx : AskG r v u g) (hf : xd u.ss g.tys) (hfs : ∀ f ∈ u.fs,0≤f.pn∧f.pn<f.tys.length) (hp : PtG r c p)
  (h : ∀ w',Ext w w'→K (.bool (yj u g p)) w') : ze Tryz.prog Tryz.km #[v,.agg c.toArray] w K:=by
 have hx0:=hx
 obtain ⟨p0,cap0,vf,vo,vt,vn,vp,rfl,hu,hg⟩:=hx
 have hu0:=hu
 obtain ⟨_,_,_,hE,_,_,hst,_,hfn⟩:=hu
 cases hE
 obtain ⟨qfn,capfn,rfl,_,_⟩:=hfn.sl.shape
 obtain ⟨_,_,_,_,hE,_,htys,_,hpts⟩:=hg
 cases hE
 obtain ⟨qp,capp,rfl,_,_⟩:=hpts.sl.shape
 have hp0:=hp
 obtain ⟨vto,va,vb,vl,vfr,rfl,h1,h2,h3,h4,h5⟩:=hp
 obtain ⟨qto,capto,rfl,_,_⟩:=h1.sl.shape
 obtain ⟨qa,capa,rfl,_,_⟩:=h2.sl.shape
 obtain ⟨qb,capb,rfl,_,_⟩:=h3.sl.shape
 obtain ⟨ql,capl,rfl,_,_⟩:=h4.sl.shape
 obtain ⟨qf,capf,rfl,_,_⟩:=h5.sl.shape
 have hpto : PlG r [.int .i64 p.to.l,.slice qto p.to.ps.length capto] p.to:=⟨_,rfl,h1⟩
 have hpfr : PlG r [.int .i64 p.fr.l,.slice qf p.fr.ps.length capf] p.fr:=⟨_,rfl,h5⟩
 have hoa : OpG r [.int .u8 p.a.k,.int .i64 p.a.n,.int .i64 p.a.pl.l,.slice qa p.a.pl.ps.length capa] p.a:=⟨_,rfl,h2⟩
 have hob : OpG r [.int .u8 p.b.k,.int .i64 p.b.n,.int .i64 p.b.pl.l,.slice qb p.b.pl.ps.length capb] p.b:=⟨_,rfl,h3⟩
 refine Tryz.Xa ?_
 unfold Tryz.jz
 have S:=St.start hr
 refine S.box fun b2 w1 S=>?_
 refine S.box fun b3 w2 S=>?_
 refine gg_ ?_
 refine S.al fun b5 w3 S=>?_
 refine S.st (b:=b5) fun w4 S=>?_
 refine gg_ ?_
 refine jS (g:=decide (p.op≠14)) (c:=!YB g p.nx) (fun _ K2 hK2=>?_) (fun _ K2 hK2=>?_) ?_
 ·refine gg_ ?_
  exact hK2
 ·refine gg_ ?_
  refine aa7 (b:=b5) S ?_
  refine gp_ ?_
  exact hK2
 refine jS (g:=decide (p.op=14)) (c:=decide (p.nx≠0)) (fun _ K2 hK2=>?_) (fun _ K2 hK2=>?_) ?_
 ·refine gg_ ?_
  exact hK2
 ·refine gg_ ?_
  exact hK2
 have hpg : yj u g p=(!((decide (p.tx<0)||(decide (p.op≠14) && !YB g p.nx))||(decide (p.op=14)&&decide (p.nx≠0)))&&ptG u g p):=by
  rw [yj];simp only [decide_not]
 rw [hpg] at h
 refine c_b (fun hbad=>?_) (fun hgood=>?_)
 ·rw [hbad,Bool.not_true,Bool.false_and] at h
  exact h _ S.ext
 rw [hgood,Bool.not_false,Bool.true_and,agr] at h
 clear hpg hgood
 have S:=S.go (Ext.drew _)
 have S : StX noX w r w4.drew [.cell b5 [.int .i64 (g.pts.length : Nat)] 3,
   .cell b3 [.int .u8 p.op,.int .i64 p.to.l,.slice qto p.to.ps.length capto,.int .u8 p.a.k,.int .i64 p.a.n,.int .i64 p.a.pl.l,.slice qa p.a.pl.ps.length capa,.int .u8 p.b.k,.int .i64 p.b.n,.int .i64 p.b.pl.l,.slice qb p.b.pl.ps.length capb,.slice ql p.args.length capl,
    .string p.sign,.int .i64 p.fr.l,.slice qf p.fr.ps.length capf,.bool p.mu,.int .i64 p.fn,.int .i64 p.st,.int .i64 p.nx,.int .i64 p.el,.int .i64 p.tx] 53,
   .cell b2 [.slice p0 u.ss.length cap0,.slice qfn u.fs.length capfn,.int .i64 u.mn,.string g.name,.int .i64 g.lv,vo,.int .i64 g.pn,vt,vn,.slice qp g.pts.length capp] 149]:=S
 obtain ⟨tt,tm,tok,hspt⟩ : ∃ tt tm tok,zi u.ss g.tys p.to=(tt,tm,tok):=⟨_,_,_,rfl⟩
 obtain ⟨ft,fm,fok,hspf⟩ : ∃ tt tm tok,zi u.ss g.tys p.fr=(tt,tm,tok):=⟨_,_,_,rfl⟩
 obtain ⟨ta,aok,hopa⟩ : ∃ t ok,zw u.ss g.tys p.a=(t,ok):=⟨_,_,rfl⟩
 obtain ⟨tb,bok,hopb⟩ : ∃ t ok,zw u.ss g.tys p.b=(t,ok):=⟨_,_,rfl⟩
 have hpad : pad u g p=⟨tt,tm,tok,ft,fm,fok,ta,aok,tb,bok⟩:=by simp only [pad,hspt,hspf,hopa,hopb]
 rw [hpad,ptH] at h
 dsimp only at h
 have inside : tok=true→(tt.k=3∨tt.k=4)→∃ uu,tt.of = [uu]:=by
  intro h1 h2
  have hfi:=kK hf (p:=p.to) (by rw [hspt];exact h1)
  rw [hspt] at hfi
  rcases Fine.cases hfi with ⟨_,h3⟩|⟨uu,h3,_⟩
  ·have h3 : tt.k=1∨tt.k=2∨tt.k=5:=h3
   omega
  ·exact ⟨uu,h3⟩
 refine zp (fun s w'=>∃ b7 b8 q7 c7 q8 c8,s = [.pointer (some ⟨b7,0,none⟩),.pointer (some ⟨b8,0,none⟩)]∧TyG r (tyV tt q7 c7) tt∧TyG r (tyV ft q8 c8) ft∧
  StX noX w r w' (.cell b8 (spL ft q8 c8 fm fok) 156 :: .cell b7 (spL tt q7 c7 tm tok) 156 :: [.cell b5 [.int .i64 (g.pts.length : Nat)] 3,
   .cell b3 [.int .u8 p.op,.int .i64 p.to.l,.slice qto p.to.ps.length capto,.int .u8 p.a.k,.int .i64 p.a.n,.int .i64 p.a.pl.l,.slice qa p.a.pl.ps.length capa,.int .u8 p.b.k,.int .i64 p.b.n,.int .i64 p.b.pl.l,.slice qb p.b.pl.ps.length capb,.slice ql p.args.length capl,
    .string p.sign,.int .i64 p.fr.l,.slice qf p.fr.ps.length capf,.bool p.mu,.int .i64 p.fn,.int .i64 p.st,.int .i64 p.nx,.int .i64 p.el,.int .i64 p.tx] 53,
   .cell b2 [.slice p0 u.ss.length cap0,.slice qfn u.fs.length capfn,.int .i64 u.mn,.string g.name,.int .i64 g.lv,vo,.int .i64 g.pn,vt,vn,.slice qp g.pts.length capp] 149])) (fun K30 hK30=>?_) ?_
 ·refine S.ldB (b:=b2) ?_ rfl
  refine gp_ ?_
  refine S.ldN (b:=b3) ?_
  refine S.ldB (b:=b2) ?_ rfl
  refine gp_ ?_
  refine S.ldN (b:=b3) ?_
  repeat' (first
   |(refine S.alU fun b9 w9 S=>?_)
   |(refine S.al fun b9 w9 S=>?_)
   |(refine S.stB fun w9 S=>?_)
   |(refine yY S.holds hx0 hf hpto hspt (fun q7 c7 w9 e9 ht7=>⟨e9,?_⟩);have S:=S.go e9)
   |(refine yY S.holds hx0 hf hpto hspt (fun q7 c7 w9 e9 ht7=>?_);have S:=S.go e9)
   |(refine yY S.holds hx0 hf hpfr hspf (fun q8 c8 w9 e9 ht8=>⟨e9,?_⟩);have S:=S.go e9)
   |(refine yY S.holds hx0 hf hpfr hspf (fun q8 c8 w9 e9 ht8=>?_);have S:=S.go e9)
   |exact hK30 _ _ ⟨_,_,_,_,_,_,rfl,ht7,ht8,S⟩
   |exact hK30 _ _ ⟨_,_,_,_,_,_,rfl,ht7,ht8,S.swap⟩
   |refine ⟨?_,?_⟩)
 clear S
 rintro _ w33 ⟨b7,b8,q7,c7,q8,c8,rfl,ht7,ht8,S⟩ d33
 simp only [List.getD_cons_zero,List.getD_cons_succ]
 refine gg_ ?_
 refine zg (c:=decide (tm<3)) (fun _ K2 hK2=>?_) ?_
 ·refine gg_ ?_
  exact hK2
 refine S.ldB (b:=b2) ?_ rfl
 refine gp_ ?_
 refine S.ldN (b:=b3) ?_
 refine xK S.holds hx0 hf hoa hopa fun q10 c10 w34 e34 hta=>?_
 have S:=S.go e34
 refine gp_ ?_
 refine gp_ ?_
 refine S.al fun b10 w35 S=>?_
 refine S.stB (b:=b10) fun w36 S=>?_
 refine S.ldB (b:=b2) ?_ rfl
 refine gp_ ?_
 refine S.ldN (b:=b3) ?_
 refine xK S.holds hx0 hf hob hopb fun q12 c12 w37 e37 htb=>?_
 have S:=S.go e37
 refine gp_ ?_
 refine gp_ ?_
 refine S.al fun b12 w38 S=>?_
 refine S.stB (b:=b12) fun w39 S=>?_
 refine gg_ ?_
 refine zj (fun ho=>?_) (fun ho=>?_)
 ·rw [if_pos ho] at h
  refine S.ldB (b:=b3) ?_ rfl
  refine gp_ ?_
  refine z9 (f:={ to:=true,a:=true }) S.holds hp0 fun w31 e31=>?_
  have S:=S.go e31
  refine zg (c:=tok&&decide (tm<3)) (fun _ K2 hK2=>hK2) ?_
  refine zg (c:=aok) (fun _ K2 hK2=>hK2) ?_
  refine zs (c:=zR yd ta tt) (fun _ K2 hK2=>?_) fun w32 e32=>h _ (S.go e32).ext
  refine S.ldB (b:=b10) ?_ rfl
  refine gp_ ?_
  refine S.ldN (b:=b7) ?_
  exact x8 S.holds hta ht7 fun w33 e33=>hK2 _ e33
 rw [if_neg ho] at h
 clear ho
 refine gg_ ?_
 refine zj (fun ho=>?_) (fun ho=>?_)
 ·rw [if_pos ho] at h
  refine S.ldB (b:=b3) ?_ rfl
  refine gp_ ?_
  refine z9 (f:={ to:=true,a:=true,b:=true,sign:=true }) S.holds hp0 fun w31 e31=>?_
  have S:=S.go e31
  refine gp_ ?_
  refine zh (c:=!(tok&&decide (tm<3))) (fun _ K2 hK2=>?_) ?_
  ·refine gp_ ?_
   exact hK2
  refine zh (c:=!aok) (fun _ K2 hK2=>?_) ?_
  ·refine gp_ ?_
   exact hK2
  refine zh (c:=!bok) (fun _ K2 hK2=>?_) ?_
  ·refine gp_ ?_
   exact hK2
  refine c_b (fun hc=>?_) (fun hc=>?_)
  ·rw [bb4 hc,Bool.false_and] at h
   exact h _ S.ext
  rw [ags hc,Bool.true_and] at h
  refine S.ldB (b:=b10) ?_ rfl
  refine yl S.holds fun w34 e34=>?_
  have S:=S.go e34
  refine zs (c:=isK tb 1) (fun hb K2 hK2=>?_) fun w32 e32=>?_
  ·refine S.ldB (b:=b12) ?_ rfl
   exact yl S.holds fun w33 e33=>hK2 _ e33
  have S:=S.go e32
  refine gg_ ?_
  refine zp (fun s w'=>s = [.bool (ya p.sign [[43],[45],[42],[47],[37]])]∧Ext w32 w') (fun K9 hK9=>?_) ?_
  ·have hk:=hK9 _ _ ⟨rfl,Ext.refl _⟩
   simp only [ya,List.any_cons,List.any_nil,Bool.or_false] at hk
   refine gp_ ?_
   refine xR hk fun _ hk=>?_
   refine gp_ ?_
   refine xR hk fun _ hk=>?_
   refine gp_ ?_
   refine xR hk fun _ hk=>?_
   refine gp_ ?_
   refine xR hk fun _ hk=>?_
   refine gp_ ?_
   exact hk
  rintro _ w41 ⟨rfl,e41⟩ d41
  have S:=S.go e41
  rw [List.getD_cons_zero]
  refine c_b (fun hs=>?_) (fun hs=>?_)
  ·rw [if_pos hs] at h
   refine gp_ ?_
   refine S.ldN (b:=b7) ?_
   refine yl S.holds fun w35 e35=>?_
   have S:=S.go e35
   exact zg (c:=isK ta 1&&isK tb 1) (fun _ K2 hK2=>hK2) (h _ S.ext)
  rw [if_neg (by rw [hs];decide)] at h
  refine zp (fun s w'=>s = [.bool (ya p.sign [[60],[60,61],[62],[62,61]])]∧Ext w41 w') (fun K9 hK9=>?_) ?_
  ·have hk:=hK9 _ _ ⟨rfl,Ext.refl _⟩
   simp only [ya,List.any_cons,List.any_nil,Bool.or_false] at hk
   refine gp_ ?_
   refine xR hk fun _ hk=>?_
   refine gp_ ?_
   refine xR hk fun _ hk=>?_
   refine gp_ ?_
   refine xR hk fun _ hk=>?_
   refine gp_ ?_
   exact hk
  rintro _ w41 ⟨rfl,e41⟩ d41
  have S:=S.go e41
  rw [List.getD_cons_zero]
  refine c_b (fun hs=>?_) (fun hs=>?_)
  ·rw [if_pos hs] at h
   refine gp_ ?_
   refine S.ldN (b:=b7) ?_
   refine yl S.holds fun w35 e35=>?_
   have S:=S.go e35
   exact zg (c:=isK ta 1&&isK tb 1) (fun _ K2 hK2=>hK2) (h _ S.ext)
  rw [if_neg (by rw [hs];decide)] at h
  refine zp (fun s w'=>s = [.bool (ya p.sign [[61,61],[33,61]])]∧Ext w41 w') (fun K9 hK9=>?_) ?_
  ·have hk:=hK9 _ _ ⟨rfl,Ext.refl _⟩
   simp only [ya,List.any_cons,List.any_nil,Bool.or_false] at hk
   refine gp_ ?_
   refine xR hk fun _ hk=>?_
   refine gp_ ?_
   exact hk
  rintro _ w41 ⟨rfl,e41⟩ d41
  have S:=S.go e41
  rw [List.getD_cons_zero]
  refine c_b (fun hs=>?_) (fun hs=>?_)
  rotate_left
  ·rw [if_neg (by rw [hs];decide)] at h
   exact h _ S.ext
  rw [if_pos hs] at h
  refine gp_ ?_
  refine S.ldN (b:=b7) ?_
  refine yl S.holds fun w35 e35=>?_
  have S:=S.go e35
  generalize isK tt 2=x1 at h ⊢
  generalize (isK ta 1&&isK tb 1)=x2 at h ⊢
  cases x1 with
  |false=>
   (intro K9 hK9;refine gd_ ?_;refine hK9 _ _ fun _=>?_;clear hK9 K9)
   (intro K9 hK9;refine gd_ ?_;refine hK9 _ _ fun _=>?_;clear hK9 K9)
   (intro K9 hK9;refine gd_ ?_;refine hK9 _ _ fun _=>?_;clear hK9 K9)
   (intro K9 hK9;refine gd_ ?_;refine hK9 _ _ fun _=>?_;clear hK9 K9)
   (intro K9 hK9;refine gd_ ?_;refine hK9 _ _ fun _=>?_;clear hK9 K9)
   refine gd_ ?_
   exact h _ S.ext
  |true=>
   cases x2 with
   |true=>
    (intro K9 hK9;refine gd_ ?_;refine hK9 _ _ fun _=>?_;clear hK9 K9)
    (intro K9 hK9;refine gd_ ?_;refine hK9 _ _ fun _=>?_;clear hK9 K9)
    (intro K9 hK9;refine gd_ ?_;refine hK9 _ _ fun _=>?_;clear hK9 K9)
    (intro K9 hK9;refine gd_ ?_;refine hK9 _ _ fun _=>?_;clear hK9 K9)
    (intro K9 hK9;refine gd_ ?_;refine hK9 _ _ fun _=>?_;clear hK9 K9)
    refine gd_ ?_
    exact h _ S.ext
   |false=>
    (intro K9 hK9;refine gd_ ?_;refine hK9 _ _ fun _=>?_;clear hK9 K9)
    refine zp (fun s w'=>s = [.bool (isK ta 2)]∧Ext w35 w') (fun K9 hK9=>?_) ?_
    ·refine gd_ ?_
     exact yl S.holds fun w36 e36=>hK9 _ _ ⟨rfl,e36⟩
    rintro _ w37 ⟨rfl,e37⟩ d37
    have S:=S.go e37
    generalize isK ta 2=x3 at h ⊢
    cases x3 with
    |false=>
     (intro K9 hK9;refine gd_ ?_;refine hK9 _ _ fun _=>?_;clear hK9 K9)
     (intro K9 hK9;refine gd_ ?_;refine hK9 _ _ fun _=>?_;clear hK9 K9)
     (intro K9 hK9;refine gd_ ?_;refine hK9 _ _ fun _=>?_;clear hK9 K9)
     refine gd_ ?_
     exact h _ S.ext
    |true=>
     refine zp (fun s w'=>s = [.bool (isK tb 2)]∧Ext w37 w') (fun K9 hK9=>?_) ?_
     ·refine gd_ ?_
      exact yl S.holds fun w36 e36=>hK9 _ _ ⟨rfl,e36⟩
     rintro _ w38 ⟨rfl,e38⟩ d38
     have S:=S.go e38
     generalize isK tb 2=x4 at h ⊢
     (intro K9 hK9;refine gd_ ?_;refine hK9 _ _ fun _=>?_;clear hK9 K9)
     (intro K9 hK9;refine gd_ ?_;refine hK9 _ _ fun _=>?_;clear hK9 K9)
     refine gd_ ?_
     cases x4<;>exact h _ S.ext
 rw [if_neg ho] at h
 clear ho
 refine gg_ ?_
 refine zj (fun ho=>?_) (fun ho=>?_)
 ·rw [if_pos ho] at h
  refine S.mkMap fun b70 w70 S=>?_
  refine S.mapAdd mpK (by intro m hm;cases hm) rfl fun w71 S=>?_
  refine S.mapAdd mpK (by intro m hm;rcases List.mem_cons.1 hm with rfl|hm<;>first|exact ⟨_,rfl⟩|cases hm) (by decide) fun w72 S=>?_
  refine gg_ ?_
  refine S.mapGet mpK mpZ (by intro m hm;rcases List.mem_cons.1 hm with rfl|hm;· exact ⟨_,rfl⟩
                              rcases List.mem_cons.1 hm with rfl|hm<;>first|exact ⟨_,rfl⟩|cases hm) ?_
  obtain ⟨ks,hks,hk2⟩:=afh p.sign (isK tt) (isK ta)
  rw [hks]
  refine S.ldB (b:=b3) ?_ rfl
  refine gp_ ?_
  refine z9 (f:={ to:=true,a:=true,sign:=true }) S.holds hp0 fun w31 e31=>?_
  have S:=S.go e31
  refine zg (c:=tok&&decide (tm<3)) (fun _ K2 hK2=>hK2) ?_
  refine zg (c:=aok) (fun _ K2 hK2=>hK2) ?_
  refine zg (c:=decide (ks≠0)) (fun _ K2 hK2=>?_) ?_
  ·refine gp_ ?_
   exact hK2
  refine zs (c:=isK tt ks) (fun hb K2 hK2=>?_) fun w32 e32=>?_
  ·refine gp_ ?_
   refine S.ldN (b:=b7) ?_
   exact yl S.holds fun w33 e33=>hK2 _ e33
  have S:=S.go e32
  refine zs (c:=isK ta ks) (fun hb K2 hK2=>?_) fun w32 e32=>?_
  ·refine S.ldB (b:=b10) ?_ rfl
   exact yl S.holds fun w33 e33=>hK2 _ e33
  have S:=S.go e32
  have:=h _ S.ext
  rw [← hk2] at this
  simpa only [Bool.and_assoc] using this
 rw [if_neg ho] at h
 clear ho
 refine gg_ ?_
 refine zj (fun ho=>?_) (fun ho=>?_)
 ·rw [if_pos ho] at h
  have S:=S.go (Ext.drew _)
  refine S.ldB (b:=b3) ?_ rfl
  refine gp_ ?_
  refine z9 (f:={ to:=true,fr:=true,mu:=true }) S.holds hp0 fun w31 e31=>?_
  have S:=S.go e31
  refine zg (c:=tok&&decide (tm<3)) (fun _ K2 hK2=>hK2) ?_
  refine zg (c:=fok) (fun _ K2 hK2=>?_) ?_
  ·refine gg_ ?_
   exact hK2
  refine zs (c:=isK tt 4) (fun hb K2 hK2=>?_) fun w32 e32=>?_
  ·refine gp_ ?_
   refine S.ldN (b:=b7) ?_
   exact yl S.holds fun w33 e33=>hK2 _ e33
  have S:=S.go e32
  refine zg (c:=tt.m == p.mu) (fun _ K2 hK2=>?_) ?_
  ·refine gg_ ?_
   exact hK2
  refine zs (c:=zR yd (tt.of.headD zr) ft) (fun hb K2 hK2=>?_) fun w33 e33=>?_
  ·simp only [Bool.and_eq_true] at hb
   obtain ⟨uu,hof⟩:=inside hb.1.1.1.2.1 (.inr (of_decide_eq_true hb.1.2))
   obtain ⟨bo,oo,q2,cap2,rfl,ht2,hcc⟩:=jp ht7 hof
   have hl1 : tt.of.length=1:=by rw [hof];rfl
   rw [hof] at hK2
   refine gg_ ?_
   refine zq (n:=5) (c:=tyL uu q2 cap2) rfl (fun j v hj=>by simpa using S.at (hcc j v hj)) ?_
   refine gp_ ?_
   refine S.ldN (b:=b8) ?_
   exact x8 S.holds ht2 ht8 fun w34 e34=>hK2 _ e34
  have S:=S.go e33
  have:=h _ S.ext
  rw [← Bool.and_assoc] at this
  generalize ((((((zH p { to:=true,fr:=true,mu:=true } && (tok&&decide (tm<3)))&&fok)&&isK tt 4)&&(tt.m == p.mu))&&zR yd (tt.of.headD zr) ft))=B at this ⊢
  cases B with
  |false=>
   (intro K9 hK9;refine gd_ ?_;refine hK9 _ _ fun _=>?_;clear hK9 K9)
   (intro K9 hK9;refine gd_ ?_;refine hK9 _ _ fun _=>?_;clear hK9 K9)
   (intro K9 hK9;refine gd_ ?_;refine hK9 _ _ fun _=>?_;clear hK9 K9)
   refine gd_ ?_
   exact this
  |true=>
   refine zp (fun s w'=>s = [.bool p.mu]∧w'=w33) (fun K9 hK9=>?_) ?_
   ·refine gd_ ?_
    exact hK9 _ _ ⟨rfl,rfl⟩
   rintro _ w33 ⟨rfl,rfl⟩ d33
   generalize p.mu=mu at this ⊢
   cases mu with
   |false=>
    (intro K9 hK9;refine gd_ ?_;refine hK9 _ _ fun _=>?_;clear hK9 K9)
    (intro K9 hK9;refine gd_ ?_;refine hK9 _ _ fun _=>?_;clear hK9 K9)
    refine gd_ ?_
    exact this
   |true=>
    refine zp (fun s w'=>s = [.bool (decide (fm=3))]∧w'=w33) (fun K9 hK9=>?_) ?_
    ·refine gd_ ?_
     exact hK9 _ _ ⟨rfl,rfl⟩
    rintro _ w33 ⟨rfl,rfl⟩ d33
    (intro K9 hK9;refine gd_ ?_;refine hK9 _ _ fun _=>?_;clear hK9 K9)
    refine gd_ ?_
    simpa using this
 rw [if_neg ho] at h
 clear ho
 refine gg_ ?_
 refine zj (fun ho=>?_) (fun ho=>?_)
 ·rw [if_pos ho] at h
  have S:=S.go (Ext.drew _)
  refine S.ldB (b:=b3) ?_ rfl
  refine gp_ ?_
  refine z9 (f:={ to:=true,a:=true }) S.holds hp0 fun w31 e31=>?_
  have S:=S.go e31
  refine zg (c:=tok&&decide (tm<3)) (fun _ K2 hK2=>hK2) ?_
  refine zg (c:=aok) (fun _ K2 hK2=>hK2) ?_
  refine zs (c:=isK tt 3) (fun hb K2 hK2=>?_) fun w32 e32=>?_
  ·refine gp_ ?_
   refine S.ldN (b:=b7) ?_
   exact yl S.holds fun w33 e33=>hK2 _ e33
  have S:=S.go e32
  refine zs (c:=zR yd (tt.of.headD zr) ta) (fun hb K2 hK2=>?_) fun w33 e33=>h _ (S.go e33).ext
  simp only [Bool.and_eq_true] at hb
  obtain ⟨uu,hof⟩:=inside hb.1.1.2.1 (.inl (of_decide_eq_true hb.2))
  obtain ⟨bo,oo,q2,cap2,rfl,ht2,hcc⟩:=jp ht7 hof
  have hl1 : tt.of.length=1:=by rw [hof];rfl
  rw [hof] at hK2
  refine gg_ ?_
  refine zq (n:=5) (c:=tyL uu q2 cap2) rfl (fun j v hj=>by simpa using S.at (hcc j v hj)) ?_
  refine S.ldB (b:=b10) ?_ rfl
  exact x8 S.holds ht2 hta fun w34 e34=>hK2 _ e34
 rw [if_neg ho] at h
 clear ho
 refine gg_ ?_
 refine zj (fun ho=>?_) (fun ho=>?_)
 ·rw [if_pos ho] at h
  refine S.ldB (b:=b3) ?_ rfl
  refine gp_ ?_
  refine z9 (f:={ to:=true,args:=true,st:=true }) S.holds hp0 fun w31 e31=>?_
  have S:=S.go e31
  refine gp_ ?_
  refine zh (c:=!(tok&&decide (tm<3))) (fun _ K2 hK2=>?_) ?_
  ·refine gp_ ?_
   exact hK2
  refine yw (c:=!isK tt 5) (fun _ K2 hK2=>?_) fun w32 e32=>?_
  ·refine gp_ ?_
   refine S.ldN (b:=b7) ?_
   refine yl S.holds fun w33 e33=>?_
   refine gp_ ?_
   exact hK2 _ e33
  have S:=S.go e32
  refine zh (c:=decide (tt.st≠p.st)) (fun _ K2 hK2=>?_) ?_
  ·refine gg_ ?_
   exact hK2
  refine c_b (fun hc=>?_) (fun hc=>?_)
  ·rw [bb3 hc,Bool.false_and] at h
   exact h _ S.ext
  rw [agt hc,Bool.true_and] at h
  refine gg_ ?_
  refine S.ldN (b:=b7) ?_
  refine aaz S.holds hst ht7 fun q9 cp9 top gs w35 e35 n35 hfd hcp=>?_
  have S:=S.new e35 n35
  refine gp_ ?_
  refine gp_ ?_
  refine aa8 (r:=((r.or (top.or (un gs 0 (ym u.ss tt).1.length))).or (one b2 _ _)).or (one b3 _ _)) ((S.holdW b2).or (kB (S.blk b3))) (yR (b:=b2)).up (yR (b:=b3)).up hx0.up rfl hf hp0.up (ae8 hfd).up fun w44 e44=>?_
  exact h _ (S.go e44).ext
 rw [if_neg ho] at h
 clear ho
 refine gg_ ?_
 refine zj (fun ho=>?_) (fun ho=>?_)
 ·rw [if_pos ho] at h
  refine S.ldB (b:=b3) ?_ rfl
  refine gp_ ?_
  refine z9 (f:={ to:=true,args:=true,fn:=true }) S.holds hp0 fun w31 e31=>?_
  have S:=S.go e31
  refine gp_ ?_
  refine zh (c:=!(tok&&decide (tm<3))) (fun _ K2 hK2=>?_) ?_
  ·refine gp_ ?_
   exact hK2
  refine zh (c:=decide (p.fn<0)) (fun _ K2 hK2=>?_) ?_
  ·refine gg_ ?_
   exact hK2
  refine zh (c:=decide ((u.fs.length : Int)≤p.fn)) (fun _ K2 hK2=>?_) ?_
  ·refine gg_ ?_
   exact hK2
  refine c_b (fun hc=>?_) (fun hc=>?_)
  ·rw [bb5 hc,Bool.false_and] at h
   exact h _ S.ext
  rw [agu hc,Bool.true_and] at h
  have hfl : 0≤p.fn∧p.fn<u.fs.length:=by
   simp only [Bool.or_eq_false_iff,decide_eq_false_iff_not] at hc;omega
  have hfi : p.fn.toNat<u.fs.length:=by omega
  rw [List.getElem?_eq_getElem hfi] at h
  obtain ⟨bg,og,cg,rfl,hcg,hgg,hgc⟩:=hfn.sl.get (by decide) hfi
  have hfp:=hfs _ (List.getElem_mem hfi)
  generalize u.fs[p.fn.toNat]=fd at h hgg hfp
  obtain ⟨vo2,vt2,vn2,vp2,rfl,hg1,hg2,hg3,hg4⟩:=hgg
  obtain ⟨qo2,co2,rfl,_,_⟩:=hg1.sl.shape
  obtain ⟨qt2,ct2,rfl,_,hct2⟩:=hg2.sl.shape
  obtain ⟨qn2,cn2,rfl,_,_⟩:=hg3.sl.shape
  obtain ⟨qp2,cp2,rfl,_,_⟩:=hg4.sl.shape
  refine gg_ ?_
  refine zq (n:=7) hcg (fun j v hj=>S.at (hgc j v hj)) ?_
  refine S.al fun b20 w50 S=>?_
  refine S.stB (b:=b20) fun w51 S=>?_
  have S:=S.go (Ext.drew _)
  have htl:=xg hg2.sl
  have htl9 : fd.tys.length≤9223372036854775807:=hg2.few
  obtain ⟨bt2,ot2,cc2,rfl,hcc2,hcl2,hct3⟩:=htl 0 (by omega)
  obtain ⟨q4,cap4,rfl,ht4⟩:=zV hct3
  have hhd : fd.tys.headD zr=fd.tys[0]'(by omega):=by
   rw [List.headD_eq_head?_getD,List.head?_eq_getElem?,List.getElem?_eq_getElem (by omega),Option.getD_some]
  dsimp only at h
  rw [hhd] at h
  refine gp_ ?_
  refine S.ldN (b:=b7) ?_
  refine gg_ ?_
  refine zq (n:=5) hcc2 (fun j v hj=>by simpa using S.at (hcl2 j v hj)) ?_
  refine x8 S.holds ht7 ht4 fun w52 e52=>?_
  have S:=S.go e52
  refine zs (c:=y0 u.ss g.tys p.args ((fd.tys.drop 1).take fd.pn.toNat)) (fun _ K2 hK2=>?_) fun w53 e53=>h _ (S.go e53).ext
  refine gg_ ?_
  have hl9 : (fd.pn+1).toNat - (1 : Int).toNat=((fd.tys.drop 1).take fd.pn.toNat).length:=by
   rw [List.length_take,List.length_drop];omega
  rw [hl9]
  refine aa8 (r:=(r.or (one b2 _ _)).or (one b3 _ _)) ((S.holdW b2).or (kB (S.blk b3))) (yR (b:=b2)).up (yR (b:=b3)).up hx0.up rfl hf hp0.up (htl.sub (a:=(1 : Int).toNat) (n:=fd.pn.toNat) hct2).up fun w44 e44=>?_
  exact hK2 _ e44
 rw [if_neg ho] at h
 clear ho
 refine gg_ ?_
 refine zj (fun ho=>?_) (fun ho=>?_)
 ·rw [if_pos ho] at h
  refine S.ldB (b:=b3) ?_ rfl
  refine gp_ ?_
  refine z9 (f:={ to:=true }) S.holds hp0 fun w31 e31=>?_
  have S:=S.go e31
  refine zg (c:=tok&&decide (tm<3)) (fun _ K2 hK2=>hK2) ?_
  refine zs (c:=isK tt 1) (fun hb K2 hK2=>?_) fun w32 e32=>?_
  ·refine gp_ ?_
   refine S.ldN (b:=b7) ?_
   exact yl S.holds fun w33 e33=>hK2 _ e33
  have S:=S.go e32
  exact h _ S.ext
 rw [if_neg ho] at h
 clear ho
 refine gg_ ?_
 refine zj (fun ho=>?_) (fun ho=>?_)
 ·rw [if_pos ho] at h
  refine S.ldB (b:=b3) ?_ rfl
  refine gp_ ?_
  refine z9 (f:={ a:=true }) S.holds hp0 fun w31 e31=>?_
  have S:=S.go e31
  refine zg (c:=aok) (fun _ K2 hK2=>hK2) ?_
  refine zs (c:=isK ta 1) (fun hb K2 hK2=>?_) fun w32 e32=>?_
  ·refine S.ldB (b:=b10) ?_ rfl
   exact yl S.holds fun w33 e33=>hK2 _ e33
  have S:=S.go e32
  exact h _ S.ext
 rw [if_neg ho] at h
 clear ho
 refine gg_ ?_
 refine zj (fun ho=>?_) (fun ho=>?_)
 ·rw [if_pos ho] at h
  refine gg_ ?_
  refine S.ldN (b:=b8) ?_
  refine abA S.holds hst ht8 fun w35 e35=>?_
  have S:=S.go e35
  refine gp_ ?_
  refine gp_ ?_
  refine S.ldB (b:=b3) ?_ rfl
  refine gp_ ?_
  refine z9 (f:={ fr:=true }) S.holds hp0 fun w31 e31=>?_
  have S:=S.go e31
  refine zg (c:=fok) (fun _ K2 hK2=>?_) ?_
  ·refine gg_ ?_
   exact hK2
  refine zg (c:=(x9 u.ss ft).1) (fun _ K2 hK2=>hK2) ?_
  refine zg (c:=decide (fm<2)) (fun _ K2 hK2=>?_) (h _ S.ext)
  refine gg_ ?_
  exact hK2
 rw [if_neg ho] at h
 clear ho
 refine gg_ ?_
 refine zj (fun ho=>?_) (fun ho=>?_)
 ·rw [if_pos ho] at h
  refine S.ldB (b:=b3) ?_ rfl
  refine gp_ ?_
  refine z9 (f:={ fr:=true }) S.holds hp0 fun w31 e31=>?_
  have S:=S.go e31
  refine zg (c:=fok) (fun _ K2 hK2=>?_) ?_
  ·refine gg_ ?_
   exact hK2
  refine zg (c:=decide (0<p.fr.l)) (fun _ K2 hK2=>?_) ?_
  ·refine gg_ ?_
   exact hK2
  refine zg (c:=decide (p.fr.ps.length=0)) (fun _ K2 hK2=>?_) (h _ S.ext)
  refine gg_ ?_
  rw [YC]
  exact hK2
 rw [if_neg ho] at h
 clear ho
 refine gg_ ?_
 refine zj (fun ho=>?_) (fun ho=>?_)
 ·rw [if_pos ho] at h
  refine S.ldB (b:=b3) ?_ rfl
  refine gp_ ?_
  refine z9 (f:={ a:=true,el:=true }) S.holds hp0 fun w31 e31=>?_
  have S:=S.go e31
  refine zg (c:=aok) (fun _ K2 hK2=>hK2) ?_
  refine zs (c:=isK ta 2) (fun hb K2 hK2=>?_) fun w32 e32=>?_
  ·refine S.ldB (b:=b10) ?_ rfl
   exact yl S.holds fun w33 e33=>hK2 _ e33
  have S:=S.go e32
  refine zg (c:=YB g p.el) (fun _ K2 hK2=>?_) (h _ S.ext)
  refine gg_ ?_
  exact aa7 (b:=b5) S hK2
 rw [if_neg ho] at h
 clear ho
 refine gg_ ?_
 refine zp (fun s w'=>s = [.bool (decide (p.op=13∨p.op=14))]∧Ext w39 w') (fun K9 hK9=>?_) ?_
 ·have hk:=hK9 _ _ ⟨rfl,Ext.refl _⟩
  rw [Bool.decide_or] at hk
  refine gp_ ?_
  refine xR hk fun _ hk=>?_
  refine gp_ ?_
  exact hk
 rintro _ w41 ⟨rfl,e41⟩ d41
 have S:=S.go e41
 rw [List.getD_cons_zero]
 refine zj (fun ho=>?_) (fun ho=>?_)
 ·rw [if_pos ho] at h
  refine S.ldB (b:=b3) ?_ rfl
  refine gp_ ?_
  refine z9 (f:={}) S.holds hp0 fun w31 e31=>h _ (S.go e31).ext
 ·rw [if_neg ho] at h
  exact h _ S.ext
end Go.Proofs
end
section
namespace Go.Proofs
open Go.Sh
set_option linter.unusedVariables false
theorem qi {u : UnD} : ∀ {l : List GrD} {i : Nat},qe u i l=none↔∀ (j : Nat) (h : j<l.length),yK u (i+j) l[j]=true
 |[],i=>⟨fun _ j h=>absurd h (Nat.not_lt_zero _),fun _=>rfl⟩
 |g::l,i=>by
  rw [qe]
  constructor
  ·intro h j hj
   split at h
   ·rename_i hg
    cases j with
    |zero=>exact hg
    |succ j=>
     have:=(qi (l:=l) (i:=i+1)).1 h j (by simpa using hj)
     rw [List.getElem_cons_succ,show i+(j+1)=i+1+j by omega];exact this
   ·cases h
  ·intro h
   rw [if_pos (show yK u i g=true from h 0 (Nat.zero_lt_succ _))]
   refine (qi (l:=l) (i:=i+1)).2 fun j hj=>?_
   have:=h (j+1) (by simpa using hj)
   rwa [List.getElem_cons_succ,show i+(j+1)=i+1+j by omega] at this
theorem Ze {u : UnD} {g : GrD} : ∀ {l : List PtD} {q : Nat},Zc u g q l=none↔∀ p ∈ l,yj u g p=true
 |[],q=>⟨fun _ p h=>(by cases h),fun _=>rfl⟩
 |x::l,q=>by
  rw [Zc]
  constructor
  ·intro h p hp
   split at h
   ·rename_i hx
    rcases List.mem_cons.1 hp with rfl|hp
    ·exact hx
    ·exact (Ze (l:=l) (q:=q+1)).1 h p hp
   ·cases h
  ·intro h
   rw [if_pos (h x List.mem_cons_self)]
   exact (Ze (l:=l) (q:=q+1)).2 fun p hp=>h p (List.mem_cons_of_mem _ hp)
theorem Yi {u : UnD} : ∀ {l : List GrD} {i : Nat},ZI u i l=none↔∀ g ∈ l,∀ p ∈ g.pts,yj u g p=true
 |[],i=>⟨fun _ g h=>(by cases h),fun _=>rfl⟩
 |x::l,i=>by
  rw [ZI]
  constructor
  ·intro h g hg
   split at h
   ·cases h
   ·rename_i hx
    rcases List.mem_cons.1 hg with rfl|hg
    ·exact Ze.1 hx
    ·exact (Yi (l:=l) (i:=i+1)).1 h g hg
  ·intro h
   rw [Ze.2 (h x List.mem_cons_self)]
   exact (Yi (l:=l) (i:=i+1)).2 fun g hg=>h g (List.mem_cons_of_mem _ hg)
structure MayU (u : UnD) : Prop where
 ok : (zz u.ss).2=0
 fs1 : 1≤u.fs.length
 fs32 : u.fs.length≤32
 mn0 : 0≤u.mn
 mn1 : u.mn<u.fs.length
 head : ∀ (i : Nat) (h : i<u.fs.length),yK u i u.fs[i]=true
 pts : ∀ g ∈ u.fs,∀ p ∈ g.pts,yj u g p=true
theorem aeD {u : UnD} (h : MayU u) : qg u=(0,0,0):=by
 have h1:=h.fs1;have h2:=h.fs32;have h3:=h.mn0;have h4:=h.mn1
 unfold qg
 rw [if_neg (by rw [h.ok,decide_eq_false (show ¬ u.fs.length<1 by omega),decide_eq_false (show ¬ 32<u.fs.length by omega),decide_eq_false (show ¬ u.mn<0 by omega),decide_eq_false (show ¬ (u.fs.length : Int)≤u.mn by omega)];decide),
  qi.2 (fun j hj=>by rw [Nat.zero_add];exact h.head j hj)]
 dsimp only
 rw [Yi.2 h.pts]
theorem aeE {u : UnD} (h : (qg u).2.2=0) : MayU u:=by
 unfold qg at h
 split at h
 ·cases h
 ·rename_i h1
  split at h
  ·cases h
  ·rename_i h2
   split at h
   ·cases h
   ·rename_i h3
    simp only [Bool.or_eq_true,Bool.not_eq_true',decide_eq_false_iff_not,decide_eq_true_eq,not_or] at h1
    obtain ⟨⟨h4,h5,h6⟩,h7,h8⟩:=h1
    exact ⟨by omega,by omega,by omega,by omega,by omega,fun i hi=>by have:=qi.1 h2 i hi;rwa [Nat.zero_add] at this,Yi.1 h3⟩
theorem Xn {u : UnD} : ZJ u=true↔MayU u:=by
 rw [ZJ,decide_eq_true_eq]
 exact ⟨aeE,fun h=>by rw [aeD h]⟩
structure HeadU (u : UnD) (fn : Nat) (g : GrD) : Prop where
 lv0 : 0≤g.lv
 lv8 : g.lv≤8
 pn0 : 0≤g.pn
 pn8 : g.pn≤8
 pn1 : g.pn<g.tys.length
 ty512 : g.tys.length≤512
 nms : g.nms.length=g.tys.length
 tys : qc u g 0 g.tys=true
 pt1 : 1≤g.pts.length
 pt1024 : g.pts.length≤1024
 outs : kW g=true
 loans : yk g.pts≤256
 main : (fn : Int)=u.mn→g.lv=0∧g.pn=0∧(g.tys.headD zr).k=1
theorem V0 {u : UnD} {fn : Nat} {g : GrD} (h : yK u fn g=true) : HeadU u fn g:=by
 simp only [yK,Bool.and_eq_true,Bool.or_eq_true,Bool.not_eq_true',decide_eq_true_eq,decide_eq_false_iff_not,isK] at h
 obtain ⟨⟨⟨⟨⟨⟨⟨h1,h2⟩,h3,h4⟩,h5,h6⟩,h7⟩,h8⟩,⟨h9,h10⟩,h11⟩,h12,h13⟩:=h
 exact ⟨h1,h2,h3,h4,by omega,h6,h7,h8,h9,h10,h11,h12,fun e=>by rcases h13 with h|⟨⟨h,h'⟩,h2⟩
                                                               ·exact absurd e h
                                                               ·exact ⟨h,h',h2⟩⟩
theorem HeadU.fine {u : UnD} {fn : Nat} {g : GrD} (h : HeadU u fn g) (ok : (zz u.ss).2=0) : xd u.ss g.tys:=by
 obtain ⟨h1,h2,h3,h4,_⟩:=xb ok
 exact ⟨h1,h3,h4,fun t ht=>(jn (acK h.tys t ht)).2⟩
theorem MayU.hd {u : UnD} (h : MayU u) {i : Nat} (hi : i<u.fs.length) : HeadU u i u.fs[i]:=V0 (h.head i hi)
end Go.Proofs
end
section
namespace Go.Sh
theorem afi {w : World} {A2 : (List Value→World→Prop)→Prop} {A3 A4 A5 : (List Value→World→Prop)→World→Prop} {Z : Value→World→Prop} {b1 b2 b3 b4 b5 : Bool}
  (h2 : ∀ K : List Value→World→Prop,K [.bool b2] w→A2 K) (h3 : ∀ K : List Value→World→Prop,K [.bool b3] w→A3 K w) (h4 : ∀ K : List Value→World→Prop,K [.bool b4] w→A4 K w) (h5 : ∀ K : List Value→World→Prop,K [.bool b5] w→A5 K w)
  (hZ : Z (.bool (b1&&(b2||((b3&&b4)&&b5)))) w) :
  za (fun K=>gIf (.bool b1) true (A2 K) (K [undef] w)) fun s64 _ w66=>
   za (fun K=>gIf (s64.getD 0 undef) false (A3 K w66) (K [undef] w66)) fun s68 _ w70=>
    za (fun K=>gIf (s68.getD 0 undef) true (A4 K w70) (K [undef] w70)) fun s72 _ w74=>
     za (fun K=>gIf (s64.getD 0 undef) false (zb (s68.getD 0 undef) (s72.getD 0 undef) (.bool false) fun t=>K [t] w74) (K [undef] w74)) fun s76 _ w78=>
      za (fun K=>gIf (s76.getD 0 undef) true (A5 K w78) (K [undef] w78)) fun s80 _ w82=>
       za (fun K=>gIf (s64.getD 0 undef) false (zb (s76.getD 0 undef) (s80.getD 0 undef) (.bool false) fun t=>K [t] w82) (K [undef] w82)) fun s84 _ w86=>
        za (fun K=>gIf (.bool b1) true (zb (s64.getD 0 undef) (.bool true) (s84.getD 0 undef) fun t=>K [t] w86) (K [undef] w86)) fun s88 _ w90=>
         zb (.bool b1) (s88.getD 0 undef) (.bool false) fun t=>Z t w90:=by
 cases b1<;>cases b2<;>cases b3<;>cases b4 <;>
  (iterate 7 (intro K hK;first|refine hK _ _ fun _=>?_|refine h2 _ (hK _ _ fun _=>?_)|refine h3 _ (hK _ _ fun _=>?_)|refine h4 _ (hK _ _ fun _=>?_)|refine h5 _ (hK _ _ fun _=>?_)|refine ⟨_,rfl,hK _ _ fun _=>?_⟩)) <;>
  exact ⟨_,rfl,by simpa using hZ⟩
end Go.Sh
namespace Go.Proofs
open Go.Sh
set_option maxRecDepth 100000
set_option linter.unusedSimpArgs false
set_option linter.unusedVariables false
theorem V1 {a b : Nat} : decide ((a : Int)≠(b : Int))=decide (a≠b):=decide_eq_decide.2 (by omega)
theorem adB {u : UnD} {g : GrD} {i : Nat} {t : TyD} : tyG u g i t=(zK u.ss t && !((regsT t).any fun r=>decide (r<(if (i : Int)≤g.pn then 0 else -1))||decide (g.lv≤r))):=by
 rw [tyG,List.not_any_eq_all_not]
set_option maxHeartbeats 4000000 in
theorem acN {u : UnD} {i : Nat} {v : Value} {w : World} {r : Gh} {K : Value→World→Prop} (hi : i<u.fs.length) (hr : Holds r w) (hu : UnG r v u)
  (h : ∀ w',Ext w w'→K (.bool (yK u i u.fs[i])) w') : ze Tryz.prog Tryz.Zm #[v,.int .i64 i] w K:=by
 obtain ⟨p0,cap0,vf,rfl,_,_,hst,hsl,hfn⟩:=hu
 obtain ⟨qf,capf,rfl,_,_⟩:=hfn.sl.shape
 obtain ⟨bf,of,cf,rfl,hcf,hgc,hfo⟩:=hfn.sl.get (by decide) hi
 refine Tryz.abr ?_
 unfold Tryz.X3
 generalize hgi : u.fs[i]=g at h hgc
 obtain ⟨vo,vt,vn,vp,rfl,h1,h2,h3,h4⟩:=id hgc
 obtain ⟨qo,capo,rfl,_,_⟩:=h1.sl.shape
 obtain ⟨qt,capt,rfl,_,hct⟩:=h2.sl.shape
 obtain ⟨qn,capn,rfl,_,_⟩:=h3.sl.shape
 obtain ⟨qp,capp,rfl,_,_⟩:=h4.sl.shape
 have hptl : g.pts.length≤9223372036854775807:=h4.few
 have htl : g.tys.length≤9223372036854775807:=h2.few
 have S:=St.start hr
 refine S.box fun b2 w1 S=>?_
 refine gG_ ?_
 refine zq (n:=7) hcf (fun j v hj=>by rw [Int.toNat_natCast];exact S.at (hfo j v hj)) ?_
 refine S.al fun b5 w2 S=>?_
 refine S.stB (b:=b5) fun w3 S=>?_
 refine gG_ ?_
 have no : (HeadU u i g→False)→yK u i g=false:=fun hh=>by
  cases e : yK u i g
  ·rfl
  ·exact (hh (V0 e)).elim
 refine zh (c:=decide (8<g.lv)) (fun _ K2 hK2=>?_) ?_
 ·refine gG_ ?_
  exact hK2
 refine zh (c:=decide (g.pn<0)) (fun _ K2 hK2=>?_) ?_
 ·refine gG_ ?_
  exact hK2
 refine zh (c:=decide (8<g.pn)) (fun _ K2 hK2=>?_) ?_
 ·refine gG_ ?_
  exact hK2
 refine zh (c:=decide ((g.tys.length : Int)≤g.pn)) (fun _ K2 hK2=>?_) ?_
 ·refine gG_ ?_
  exact hK2
 refine zh (c:=decide (512<g.tys.length)) (fun _ K2 hK2=>?_) ?_
 ·refine gG_ ?_
  rw [show decide ((512 : Int)<(g.tys.length : Int))=decide (512<g.tys.length) from decide_eq_decide.2 (by omega)]
  exact hK2
 refine zh (c:=decide (g.nms.length≠g.tys.length)) (fun _ K2 hK2=>?_) ?_
 ·refine gG_ ?_
  rw [V1]
  exact hK2
 refine c_b (fun hbad=>?_) (fun hgood=>?_)
 ·rw [no fun H=>by
   have:=H.lv0;have:=H.lv8;have:=H.pn0;have:=H.pn8;have:=H.pn1;have:=H.ty512;have:=H.nms
   simp only [Bool.or_eq_true,decide_eq_true_eq] at hbad;omega] at h
  exact h _ S.ext
 have hnum : (0≤g.lv∧g.lv≤8∧0≤g.pn∧g.pn≤8)∧g.pn<g.tys.length∧g.tys.length≤512∧g.nms.length=g.tys.length:=by
  simp only [Bool.or_eq_false_iff,decide_eq_false_iff_not] at hgood;omega
 clear hgood
 obtain ⟨⟨hlv0,hlv8,hpn0,hpn8⟩,hpn1,hty,hnm⟩:=hnum
 refine gG_ ?_
 refine zk (ι:=Nat) (fun i=>[.int .i64 (i : Nat)]) (fun j w'=>j≤g.tys.length∧qc u g j (g.tys.drop j)=qc u g 0 g.tys∧StX noX w r w' _) (fun i=>g.tys.length - i) 0 rfl ⟨Nat.zero_le _,rfl,S⟩ ?_
 clear S
 rintro j d w5 ⟨hj,hd,S⟩ K6 hK6
 rw [List.getD_cons_zero]
 refine gP_ ?_
 refine zj (fun hlt=>?_) (fun hge=>?_)
 ·have hlt : j<g.tys.length:=by omega
  obtain ⟨bt,ot,ct,rfl,hct,htc,hcell⟩:=h2.sl.get (by decide) hlt
  obtain ⟨q2,cap2,rfl,ht2⟩:=zV htc
  rw [abg hlt] at hd
  refine gP_ ?_
  refine zq (n:=5) hct (fun j v hj=>by rw [Int.toNat_natCast];exact S.at (hcell j v hj)) ?_
  refine S.al fun b7 w6 S=>?_
  refine S.stB (b:=b7) fun w7 S=>?_
  refine gG_ ?_
  refine j2 S.holds hst ht2 fun w8 e8=>?_
  have S:=S.go e8
  refine gP_ ?_
  refine c_b (fun hm=>?_) (fun hm=>?_)
  ·have hm : zK u.ss g.tys[j]=false:=by simpa using hm
   rw [no fun H=>by
    have:=H.tys
    rw [← hd,tyG,hm,Bool.false_and,Bool.false_and] at this;cases this] at h
   exact h _ S.ext
  have hm : zK u.ss g.tys[j]=true:=by simpa using hm
  refine S.al fun b8 w9 S=>?_
  refine S.st (b:=b8) fun w10 S=>?_
  refine zp (fun _ w'=>StX noX w r w' [.cell b8 [.int .i64 (if (j : Int)≤g.pn then 0 else -1)] 3,.cell b7 (tyL g.tys[j] q2 cap2) 31,.cell b5 [.string g.name,.int .i64 g.lv,.slice qo g.outs.length capo,.int .i64 g.pn,.slice (some ⟨bt,ot,none⟩) g.tys.length capt,.slice qn g.nms.length capn,.slice qp g.pts.length capp] 58,
   .cell b2 [.slice p0 u.ss.length cap0,.slice (some ⟨bf,of,none⟩) u.fs.length capf,.int .i64 u.mn] 25]) (fun K3 hK3=>?_) ?_
  ·refine gG_ ?_
   refine zj (fun hle=>?_) (fun hgt=>?_)
   ·refine S.st (b:=b8) fun w11 S=>?_
    refine hK3 [] _ ?_
    rw [if_pos hle];exact S
   ·refine hK3 [] _ ?_
    rw [if_neg hgt];exact S
  clear S
  rintro _ w11 S d11
  refine S.ldB (b:=b7) ?_ rfl
  refine xw S.holds ht2 fun v7 w12 e12 o12=>?_
  have S:=S.go e12
  obtain ⟨p7,cap7,rfl,_,_,_,hs7⟩:=j8 o12
  refine gP_ ?_
  have hr48 : (regsT g.tys[j]).length≤1000:=by
   rw [regsT];split
   ·have:=xO (by assumption);omega
   ·simp
  refine jD (f:=fun x=>decide (x<(if (j : Int)≤g.pn then 0 else -1))||decide (g.lv≤x)) (fun x K hK=>?_) hs7 (by omega) ?_
  ·refine QP (by kernel_rfl) ?_
   refine Tryz.Vt ?_
   unfold Tryz.YJ
   refine S.ld (b:=b8) ?_ rfl
   refine gP_ ?_
   refine zh (c:=decide (g.lv≤x)) (fun _ K2 hK2=>?_) hK
   refine gG_ ?_
   exact hK2
  have hty : tyG u g j g.tys[j] = !((regsT g.tys[j]).any fun x=>decide (x<(if (j : Int)≤g.pn then 0 else -1))||decide (g.lv≤x)):=by
   rw [adB,hm,Bool.true_and]
  refine c_b (fun hx=>?_) (fun hx=>?_)
  ·rw [hty,hx,Bool.not_true,Bool.false_and] at hd
   rw [no fun H=>by have:=H.tys;rw [← hd] at this;cases this] at h
   exact h _ S.ext
  ·rw [hty,hx,Bool.not_false,Bool.true_and] at hd
   refine gP_ ?_
   rw [show ((j : Int)+1)=((j+1 : Nat) : Int) by omega]
   exact hK6 (j+1) _ ⟨hlt,hd,(S.drop b8).drop b7⟩ (by omega)
 have hje : j=g.tys.length:=by omega
 rw [hje,List.drop_length] at hd
 have htys : qc u g 0 g.tys=true:=hd.symm
 clear hd hK6 K6 hge hj hje
 refine gG_ ?_
 refine zh (c:=decide (1024<g.pts.length)) (fun _ K2 hK2=>?_) ?_
 ·refine gG_ ?_
  rw [show decide ((1024 : Int)<(g.pts.length : Int))=decide (1024<g.pts.length) from decide_eq_decide.2 (by omega)]
  exact hK2
 refine yw (c:=!kW g) (fun _ K2 hK2=>?_) fun w20 e20=>?_
 ·refine S.ldB (b:=b5) ?_ rfl
  refine J2 S.holds hgc hlv0 hlv8 hpn0 hpn1 (fun t ht x hx=>?_) fun w21 e21=>?_
  ·obtain ⟨k,hk,rfl⟩:=List.getElem_of_mem ht
   rw [List.length_take] at hk
   rw [List.getElem_take] at hx
   have:=ZO htys (j:=k) (by omega) (by omega) x hx
   omega
  refine gP_ ?_
  exact hK2 _ e21
 have S:=S.go e20
 refine c_b (fun hbad=>?_) (fun hgood=>?_)
 ·rw [no fun H=>by
   have:=H.pt1;have:=H.pt1024;have h3:=H.outs
   rw [h3] at hbad
   simp only [Bool.or_eq_true,decide_eq_true_eq,Bool.not_true,Bool.false_eq_true,or_false] at hbad;omega] at h
  exact h _ S.ext
 have hnum : (1≤g.pts.length∧g.pts.length≤1024)∧kW g=true:=by
  cases ho : kW g
  ·rw [ho] at hgood;simp at hgood
  ·simp only [Bool.or_eq_false_iff,decide_eq_false_iff_not] at hgood
   exact ⟨by omega,rfl⟩
 clear hgood
 obtain ⟨⟨hp1,hp1024⟩,hout⟩:=hnum
 refine gG_ ?_
 refine zk (ι:=Nat) (fun i=>[.int .i64 (yk (g.pts.take i) : Nat),.int .i64 (i : Nat)]) (fun j w'=>j≤g.pts.length∧yk (g.pts.take j)≤j∧StX noX w r w' _) (fun i=>g.pts.length - i) 0 rfl ⟨Nat.zero_le _,Nat.le_refl _,S⟩ ?_
 clear S
 rintro j d w22 ⟨hj,hlj,S⟩ K7 hK7
 simp only [List.getD_cons_zero,List.getD_cons_succ]
 refine gP_ ?_
 refine zj (fun hlt=>?_) (fun hge=>?_)
 ·have hlt : j<g.pts.length:=by omega
  obtain ⟨bp,op,cp,rfl,hcp,hpc,hcell⟩:=h4.sl.get (by decide) hlt
  refine zp (fun s w'=>s = [.int .i64 (yk (g.pts.take (j+1)) : Nat)]∧StX noX w r w' [.cell b5 [.string g.name,.int .i64 g.lv,.slice qo g.outs.length capo,.int .i64 g.pn,.slice qt g.tys.length capt,.slice qn g.nms.length capn,.slice (some ⟨bp,op,none⟩) g.pts.length capp] 58,
   .cell b2 [.slice p0 u.ss.length cap0,.slice (some ⟨bf,of,none⟩) u.fs.length capf,.int .i64 u.mn] 25]) (fun K3 hK3=>?_) ?_
  ·refine gP_ ?_
   refine zq (n:=21) hcp (fun j v hj=>by rw [Int.toNat_natCast];exact S.at (hcell j v hj)) ?_
   obtain ⟨vto,va,vb,vl,vfr,rfl,k1,k2,k3,k4,k5⟩:=hpc
   obtain ⟨_,_,rfl,_⟩:=k1.sl.shape
   obtain ⟨_,_,rfl,_⟩:=k2.sl.shape
   obtain ⟨_,_,rfl,_⟩:=k3.sl.shape
   obtain ⟨_,_,rfl,_⟩:=k4.sl.shape
   obtain ⟨_,_,rfl,_⟩:=k5.sl.shape
   refine S.al fun b11 w23 S=>?_
   refine S.stB (b:=b11) fun w24 S=>?_
   refine gG_ ?_
   have hlo:=Xi hlt
   refine zj (fun ho=>?_) (fun ho=>?_)
   ·rw [if_pos ho] at hlo
    refine gP_ ?_
    rw [show ((yk (g.pts.take j) : Nat) : Int)+1=((yk (g.pts.take (j+1)) : Nat) : Int) by omega]
    exact hK3 _ _ ⟨rfl,S.drop b11⟩
   ·rw [if_neg ho] at hlo
    rw [show ((yk (g.pts.take j) : Nat) : Int)=((yk (g.pts.take (j+1)) : Nat) : Int) by omega]
    exact hK3 _ _ ⟨rfl,S.drop b11⟩
  clear S
  rintro _ w25 ⟨rfl,S⟩ d25
  rw [List.getD_cons_zero]
  refine gP_ ?_
  rw [show ((j : Int)+1)=((j+1 : Nat) : Int) by omega]
  refine hK7 (j+1) _ ⟨hlt,?_,S⟩ (by omega)
  rw [Xi hlt];split<;>omega
 have hje : j=g.pts.length:=by omega
 rw [hje,List.take_length]
 refine gP_ ?_
 have hfin : yK u i g=(decide (yk g.pts≤256)&&(decide ((i : Int)≠u.mn)||((decide (g.lv=0)&&decide (g.pn=0))&&isK (g.tys.headD zr) 1))):=by
  rw [yK,htys,hout,decide_eq_true hlv0,decide_eq_true hlv8,decide_eq_true hpn0,decide_eq_true hpn8,decide_eq_true hpn1,decide_eq_true hty,decide_eq_true hnm,decide_eq_true hp1,decide_eq_true hp1024,decide_not];rfl
 rw [hfin] at h
 rw [show decide ((yk g.pts : Int)≤256)=decide (yk g.pts≤256) from decide_eq_decide.2 (by omega)]
 refine afi (b2:=decide ((i : Int)≠u.mn)) (b3:=decide (g.lv=0)) (b4:=decide (g.pn=0)) (b5:=isK (g.tys.headD zr) 1) (fun K2 hK2=>?_) (fun K2 hK2=>?_) (fun K2 hK2=>?_) (fun K2 hK2=>?_) (h _ S.ext)
 ·refine gG_ ?_
  exact hK2
 ·refine gG_ ?_
  exact hK2
 ·refine gG_ ?_
  exact hK2
 ·have hpos : 0<g.tys.length:=by omega
  obtain ⟨bt,ot,ct,rfl,hct,htc,hcell⟩:=h2.sl.get (by decide) hpos
  obtain ⟨q2,cap2,rfl,ht2⟩:=zV htc
  refine gG_ ?_
  refine zm (v:=.int .u8 g.tys[0].k) (by simpa using S.at (hcell 0 _ rfl)) ?_
  refine gG_ ?_
  have he : g.tys.headD zr=g.tys[0]:=by
   rw [List.headD_eq_head?_getD,List.head?_eq_getElem?,List.getElem?_eq_getElem hpos,Option.getD_some]
  rw [he] at hK2
  exact hK2
theorem aeF {u : UnD} {i : Nat} {l : List GrD} (hi : i<l.length) : qe u i (l.drop i)=if yK u i l[i] then qe u (i+1) (l.drop (i+1)) else some i:=by
 rw [List.drop_eq_getElem_cons hi];rfl
theorem afj {u : UnD} {g : GrD} {q : Nat} {l : List PtD} (hq : q<l.length) : Zc u g q (l.drop q)=if yj u g l[q] then Zc u g (q+1) (l.drop (q+1)) else some q:=by
 rw [List.drop_eq_getElem_cons hq];rfl
theorem afT {u : UnD} {i : Nat} {l : List GrD} (hi : i<l.length) : ZI u i (l.drop i)=match Zc u l[i] 0 l[i].pts with|some q=>some (i,q)|none=>ZI u (i+1) (l.drop (i+1)):=by
 rw [List.drop_eq_getElem_cons hi];rfl
noncomputable def V2 (u : UnD) : Int × Int × Int:=match qe u 0 u.fs with
  |some i=>(i,-1,100)
  |none=>match ZI u 0 u.fs with
   |some (i,q)=>(i,q,100)
   |none=>(0,0,0)
set_option maxHeartbeats 4000000 in
theorem abM {u : UnD} {v : Value} {w : World} {r : Gh} {K : Value→World→Prop} (hr : Holds r w) (hu : UnG r v u)
  (h : ∀ w',Ext w w'→K (.tuple #[.int .i64 (qg u).1,.int .i64 (qg u).2.1,.int .i64 (qg u).2.2]) w') : ze Tryz.prog Tryz.vy #[v] w K:=by
 have hu0:=hu
 obtain ⟨p0,cap0,vf,rfl,_,_,hst,hsl,hfn⟩:=hu
 obtain ⟨qf,capf,rfl,_,_⟩:=hfn.sl.shape
 have hfl : u.fs.length≤9223372036854775807:=hfn.few
 refine Tryz.aaq ?_
 unfold Tryz.Xv
 have S:=St.start hr
 refine S.box fun b1 w1 S=>?_
 refine gG_ ?_
 refine jm S.holds hst fun w2 e2=>?_
 have S:=S.go e2
 refine gS_ ?_
 refine zh (c:=decide (u.fs.length<1)) (fun _ K2 hK2=>?_) ?_
 ·refine gG_ ?_
  rw [show decide ((u.fs.length : Int)<1)=decide (u.fs.length<1) from decide_eq_decide.2 (by omega)]
  exact hK2
 refine zh (c:=decide (32<u.fs.length)) (fun _ K2 hK2=>?_) ?_
 ·refine gG_ ?_
  rw [show decide ((32 : Int)<(u.fs.length : Int))=decide (32<u.fs.length) from decide_eq_decide.2 (by omega)]
  exact hK2
 refine zh (c:=decide (u.mn<0)) (fun _ K2 hK2=>?_) ?_
 ·refine gG_ ?_
  exact hK2
 refine zh (c:=decide ((u.fs.length : Int)≤u.mn)) (fun _ K2 hK2=>?_) ?_
 ·refine gG_ ?_
  exact hK2
 have hC : qg u=if ((((decide ((zz u.ss).2≠0)||decide (u.fs.length<1))||decide (32<u.fs.length))||decide (u.mn<0))||decide ((u.fs.length : Int)≤u.mn))=true then (-1,-1,100) else V2 u:=by
  rw [qg,V2]
  simp only [ne_eq,decide_not,Bool.or_assoc]
  rfl
 rw [hC] at h
 refine c_b (fun hbad=>?_) (fun hgood=>?_)
 ·rw [if_pos hbad] at h
  exact h _ S.ext
 rw [if_neg (by rw [hgood];decide)] at h
 have hok : (zz u.ss).2=0:=by
  simp only [Bool.or_eq_false_iff,decide_eq_false_iff_not] at hgood;omega
 clear hC hgood
 refine gG_ ?_
 refine zk (ι:=Nat × Int) (fun i=>[.int .i64 i.2,.int .i64 0,.int .i64 (i.1 : Nat)]) (fun j w'=>j.1≤u.fs.length∧qe u j.1 (u.fs.drop j.1)=qe u 0 u.fs∧StX noX w r w' _) (fun i=>u.fs.length - i.1) (0,0) rfl ⟨Nat.zero_le _,rfl,S⟩ ?_
 clear S
 rintro ⟨j,a⟩ d w5 ⟨hj,hd,S⟩ K6 hK6
 simp only at hj hd S ⊢
 simp only [List.getD_cons_zero,List.getD_cons_succ]
 refine gP_ ?_
 refine zj (fun hlt=>?_) (fun hge=>?_)
 ·have hlt : j<u.fs.length:=by omega
  rw [aeF hlt] at hd
  refine S.ldB (b:=b1) ?_ rfl
  refine acN hlt S.holds hu0 fun w6 e6=>?_
  have S:=S.go e6
  refine gP_ ?_
  refine c_b (fun hx=>?_) (fun hx=>?_)
  ·rw [if_neg (by simpa using hx)] at hd
   rw [V2,← hd] at h
   exact h _ S.ext
  ·rw [if_pos (by simpa using hx)] at hd
   refine gP_ ?_
   rw [show ((j : Int)+1)=((j+1 : Nat) : Int) by omega]
   exact hK6 (j+1,j) _ ⟨hlt,hd,S⟩ (by show u.fs.length - (j+1)<u.fs.length - j;omega)
 have hje : j=u.fs.length:=by omega
 rw [hje,List.drop_length] at hd
 have hnone : qe u 0 u.fs=none:=hd.symm
 have hheads:=fun (i : Nat) (hi : i<u.fs.length)=>V0 (by have:=qi.1 hnone i hi;rwa [Nat.zero_add] at this : yK u i u.fs[i]=true)
 rw [V2,hnone] at h
 dsimp only at h
 clear hd hK6 K6 hge hj hje
 refine zp (fun s w'=>Ext w w'∧((∃ x y : Nat,s = [.int .i64 (x : Int),.int .i64 (y : Int),.bool true]∧ZI u 0 u.fs=some (x,y))∨∃ x y,s = [x,y,.bool false]∧ZI u 0 u.fs=none)) (fun K3 hK3=>?_) ?_
 rotate_left
 ·rintro _ w9 ⟨e9,⟨x,y,rfl,hb⟩|⟨x,y,rfl,hb⟩⟩ d9
  ·rw [hb] at h
   refine c_t rfl ?_
   exact h _ e9
  ·rw [hb] at h
   refine c_f rfl ?_
   exact h _ e9
 refine gG_ ?_
 refine zk (ι:=Nat × Value × Value) (fun i=>[i.2.1,i.2.2,.bool false,.int .i64 (i.1 : Nat)]) (fun j w'=>j.1≤u.fs.length∧ZI u j.1 (u.fs.drop j.1)=ZI u 0 u.fs∧StX noX w r w' _) (fun i=>u.fs.length - i.1) (0,.int .i64 a,.int .i64 0) rfl ⟨Nat.zero_le _,rfl,S⟩ ?_
 clear S
 rintro ⟨j,x1,x2⟩ d w5 ⟨hj,hd,S⟩ K6 hK6
 simp only at hj hd S ⊢
 simp only [List.getD_cons_zero,List.getD_cons_succ]
 refine gP_ ?_
 refine zj (fun hlt=>?_) (fun hge=>?_)
 rotate_left
 ·have hje : j=u.fs.length:=by omega
  rw [hje,List.drop_length] at hd
  exact hK3 _ _ ⟨S.ext,.inr ⟨_,_,rfl,hd.symm⟩⟩
 have hlt : j<u.fs.length:=by omega
 obtain ⟨bf,of,cf,rfl,hcf,hgc,hfo⟩:=hfn.sl.get (by decide) hlt
 rw [afT hlt] at hd
 have hH:=hheads j hlt
 have hfin:=hH.fine hok
 have hpn : ∀ f ∈ u.fs,0≤f.pn∧f.pn<f.tys.length:=fun f hf=>by
  obtain ⟨i,hi,rfl⟩:=List.getElem_of_mem hf
  exact ⟨(hheads i hi).pn0,(hheads i hi).pn1⟩
 generalize hgi : u.fs[j]=g at hd hgc hH hfin
 obtain ⟨vo,vt,vn,vp,rfl,h1,h2,h3,h4⟩:=id hgc
 obtain ⟨qo,capo,rfl,_,_⟩:=h1.sl.shape
 obtain ⟨qt,capt,rfl,_,hct⟩:=h2.sl.shape
 obtain ⟨qn,capn,rfl,_,_⟩:=h3.sl.shape
 obtain ⟨qp,capp,rfl,_,_⟩:=h4.sl.shape
 have hptl : g.pts.length≤9223372036854775807:=h4.few
 refine gP_ ?_
 refine zq (n:=7) hcf (fun j v hj=>by rw [Int.toNat_natCast];exact S.at (hfo j v hj)) ?_
 refine S.al fun b9 w6 S=>?_
 refine S.stB (b:=b9) fun w7 S=>?_
 refine S.ldB (b:=b1) ?_ rfl
 refine S.ldB (b:=b9) ?_ rfl
 refine zo (cs:=#[.slice p0 u.ss.length cap0,.slice (some ⟨bf,of,none⟩) u.fs.length capf,.int .i64 u.mn,.string g.name,.int .i64 g.lv,.slice qo g.outs.length capo,.int .i64 g.pn,.slice qt g.tys.length capt,.slice qn g.nms.length capn,.slice qp g.pts.length capp]) (by kernel_rfl) ?_
 refine S.al fun b10 w8 S=>?_
 refine S.stB (b:=b10) fun w9 S=>?_
 refine gG_ ?_
 have hask : AskG r (.agg #[.slice p0 u.ss.length cap0,.slice (some ⟨bf,of,none⟩) u.fs.length capf,.int .i64 u.mn,.string g.name,.int .i64 g.lv,.slice qo g.outs.length capo,.int .i64 g.pn,.slice qt g.tys.length capt,.slice qn g.nms.length capn,.slice qp g.pts.length capp]) u g:=⟨_,_,_,_,_,_,_,rfl,hu0,hgc⟩
 refine zk (ι:=Nat) (fun i=>[x1,x2,.bool false,.int .i64 (i : Nat)]) (fun k w'=>k≤g.pts.length∧Zc u g k (g.pts.drop k)=Zc u g 0 g.pts∧StX noX w r w' _) (fun i=>g.pts.length - i) 0 rfl ⟨Nat.zero_le _,rfl,S⟩ ?_
 clear S
 rintro k d w10 ⟨hk,hdk,S⟩ K7 hK7
 simp only [List.getD_cons_zero,List.getD_cons_succ]
 refine gP_ ?_
 refine zj (fun hlt2=>?_) (fun hge=>?_)
 ·have hlt2 : k<g.pts.length:=by omega
  obtain ⟨bp,op,cp,rfl,hcp,hpc,hcell⟩:=h4.sl.get (by decide) hlt2
  rw [afj hlt2] at hdk
  refine gP_ ?_
  refine zq (n:=21) hcp (fun j v hj=>by rw [Int.toNat_natCast];exact S.at (hcell j v hj)) ?_
  obtain ⟨vto,va,vb,vl,vfr,rfl,k1,k2,k3,k4,k5⟩:=id hpc
  obtain ⟨_,_,rfl,_⟩:=k1.sl.shape
  obtain ⟨_,_,rfl,_⟩:=k2.sl.shape
  obtain ⟨_,_,rfl,_⟩:=k3.sl.shape
  obtain ⟨_,_,rfl,_⟩:=k4.sl.shape
  obtain ⟨_,_,rfl,_⟩:=k5.sl.shape
  refine S.al fun b12 w11 S=>?_
  refine S.stB (b:=b12) fun w12 S=>?_
  refine S.ldB (b:=b10) ?_ rfl
  refine S.ldB (b:=b12) ?_ rfl
  refine XO S.holds hask hfin hpn hpc fun w13 e13=>?_
  have S:=S.go e13
  refine gP_ ?_
  refine c_b (fun hx=>?_) (fun hx=>?_)
  ·rw [if_neg (by simpa using hx)] at hdk
   rw [← hdk] at hd
   exact hK3 _ _ ⟨S.ext,.inl ⟨j,k,rfl,hd.symm⟩⟩
  ·rw [if_pos (by simpa using hx)] at hdk
   refine gP_ ?_
   rw [show ((k : Int)+1)=((k+1 : Nat) : Int) by omega]
   exact hK7 (k+1) _ ⟨hlt2,hdk,S.drop b12⟩ (by omega)
 have hke : k=g.pts.length:=by omega
 rw [hke,List.drop_length] at hdk
 rw [← hdk] at hd
 refine gP_ ?_
 rw [show ((j : Int)+1)=((j+1 : Nat) : Int) by omega]
 exact hK6 (j+1,x1,x2) _ ⟨hlt,hd,(S.drop b10).drop b9⟩ (by show u.fs.length - (j+1)<u.fs.length - j;omega)
theorem adi {u : UnD} {v : Value} {w : World} {r : Gh} {K : Value→World→Prop} (hr : Holds r w) (hu : UnG r v u)
  (h : ∀ w',Ext w w'→K (.bool (ZJ u)) w') : ze Tryz.prog Tryz.Yn #[v] w K:=by
 refine Tryz.aci ?_
 unfold Tryz.Jg
 have hu0:=hu
 obtain ⟨p0,cap0,vf,rfl,_,_,hst,hsl,hfn⟩:=hu
 obtain ⟨qf,capf,rfl,_,_⟩:=hfn.sl.shape
 have S:=St.start hr
 refine S.box fun b1 w1 S=>?_
 refine S.ldB (b:=b1) ?_ rfl
 refine abM S.holds hu0 fun w2 e2=>?_
 have S:=S.go e2
 refine gS_ ?_
 exact h _ S.ext
end Go.Proofs
end
section
namespace Go.Proofs
open Go.Sh
set_option maxRecDepth 100000
set_option linter.unusedSimpArgs false
set_option linter.unusedVariables false
theorem afU {t : TyD} {m : List Int} (hB : isB t=true) (hm : m.length=t.regs.length) (hlow : ∀ x ∈ m,-1≤x) : Za t m=(t.lay m,0):=by
 have : Yc t m=true:=by
  rw [Yc,hB,decide_eq_true hm.symm,Bool.true_and,Bool.true_and,Bool.not_eq_true',List.any_eq_false]
  intro x hx
  have:=hlow x hx
  simp only [decide_eq_true_eq];omega
 rw [Za,if_pos this]
theorem afV {s : Gh} {p : Option Addr} {n cap : Nat} {l : List Int} (h : SlG 1 s kp (.slice p n cap) l) : Ob s fun w=>Sl w p (ints l):=fun w hw i v hi=>by
 have hlt : i<l.length:=by
  have:=(List.getElem?_eq_some_iff.1 hi).1
  rwa [y9] at this
 have hv : v = .int .i64 l[i]:=by
  rw [ints,List.getElem?_map,List.getElem?_eq_getElem hlt] at hi
  exact (Option.some.inj hi).symm
 subst hv
 obtain ⟨b,off,c,rfl,hc,hcc,hcell⟩:=h.get (by decide) hlt
 obtain rfl : c=_:=hcc
 have:=hcell 0 _ rfl w hw
 exact ⟨b,off,rfl,by simpa using this⟩
theorem Yj {X : Nat→Prop} {w0 : World} {r : Gh} {t : TyD} {m : List Int} {Lc : Nat→List Asr} {fv : Value} (hB : isB t=true) (hm : m.length=t.regs.length) (hlow : ∀ x ∈ m,-1≤x)
  (hf : ∀ (i : Nat) (hi : i<t.regs.length) {M : List Asr} {w : World} {K : Value→World→Prop},StX X w0 r w (Lc i++M)→(∀ w',StX X w0 r w' (Lc (i+1)++M)→K (.int .i64 (m[i]'(by omega))) w')→zJ Tryz.prog fv #[.int .i64 t.regs[i]] w K)
  {M : List Asr} {w : World} {v : Value} {K : Value→World→Prop} (S : StX X w0 r w (Lc 0++M)) (hv : TyG r v t)
  (h : ∀ v' sn w',StX X w0 (r.or sn) w' (Lc t.regs.length++M)→Above w0 sn→TyG sn v' (t.lay m)→k9 sn v' (t.lay m)→K v' w') : ze Tryz.prog Tryz.yf #[v,fv] w K:=by
 refine Tryz.JY ?_
 unfold Tryz.Yg
 have h48:=xO hB
 have hrT : regsT t=t.regs:=by rw [regsT,hB];rfl
 have hv0:=hv
 obtain ⟨p1,cap1,rfl,_⟩:=hv
 refine S.box fun b2 w1 S=>?_
 have S : StX X w0 r w1 (.cell b2 (tyL t p1 cap1) 31::(Lc 0++M)):=S
 refine S.al fun b4 w2 S=>?_
 refine S.ldB (b:=b2) ?_ rfl
 refine xw S.holds hv0 fun v9 w3 e3 o3=>?_
 rw [hrT] at o3
 have S:=S.take e3 o3
 obtain ⟨p9,cap9,rfl,_⟩:=S.rowS v9
 refine gP_ ?_
 refine zk (ι:=Nat) (fun i=>[.int .i64 (i : Nat)]) (fun i w'=>i≤t.regs.length∧StX X w0 r w' (Lc i++(.row (.slice p9 t.regs.length cap9) 3 1 t.regs.length (ints (m.take i++t.regs.drop i)) :: .cell b4 yL 31 :: .cell b2 (tyL t p1 cap1) 31::M))) (fun i=>t.regs.length - i) 0 rfl
  ⟨Nat.zero_le _,by
   rw [List.take_zero,List.drop_zero,List.nil_append]
   exact S.perm (by
    refine ((List.Perm.cons _ ((List.Perm.cons _ List.perm_middle.symm).trans List.perm_middle.symm))).trans List.perm_middle.symm)⟩ ?_
 clear S
 rintro i d w4 ⟨hi,S⟩ K6 hK6
 rw [List.getD_cons_zero]
 refine gP_ ?_
 refine zj (fun hlt=>?_) (fun hge=>?_)
 ·have hlt : i<t.regs.length:=by omega
  have S1:=S.perm (M:=.row (.slice p9 t.regs.length cap9) 3 1 t.regs.length (ints (m.take i++t.regs.drop i))::(Lc i++(.cell b4 yL 31 :: .cell b2 (tyL t p1 cap1) 31::M))) List.perm_middle
  obtain ⟨b9,rfl⟩:=S1.row0N (p:=p9) (n:=t.regs.length) (cap:=cap9) trivial (by omega)
  obtain ⟨_,_,hv9,_,_,_,hs9⟩:=S1.rowS (.slice (some ⟨b9,0,none⟩) t.regs.length cap9)
  cases hv9
  have hlen : (m.take i++t.regs.drop i).length=t.regs.length:=by rw [List.length_append,List.length_take,List.length_drop];omega
  obtain ⟨bx,ox,hbx,hcell⟩:=kQ hs9 (i:=i) (by omega)
  cases hbx
  have hel : (m.take i++t.regs.drop i)[i]=t.regs[i]:=by
   rw [List.getElem_append_right (by rw [List.length_take];omega)]
   simp only [List.length_take,List.getElem_drop]
   congr 1;omega
  refine gP_ ?_
  refine zm (v:=.int .i64 t.regs[i]) (by rw [← hel];simpa using hcell) ?_
  refine hf i hlt S fun w5 S=>?_
  have S:=S.perm (M:=.row (.slice (some ⟨b9,0,none⟩) t.regs.length cap9) 3 1 t.regs.length (ints (m.take i++t.regs.drop i))::(Lc (i+1)++(.cell b4 yL 31 :: .cell b2 (tyL t p1 cap1) 31::M))) List.perm_middle
  refine gP_ ?_
  rw [show 0+((i : Nat) : Int).toNat=i by omega]
  refine S.stRow1 (cap:=cap9) hlt fun w6 S=>?_
  refine gP_ ?_
  rw [show ((i : Int)+1)=((i+1 : Nat) : Int) by omega]
  refine hK6 (i+1) _ ⟨hlt,?_⟩ (by omega)
  have hset : (ints (m.take i++t.regs.drop i)).set i (.int .i64 (m[i]'(by omega)))=ints (m.take (i+1)++t.regs.drop (i+1)):=by
   rw [ints,ints,← List.map_set]
   congr 1
   rw [List.set_append_right _ _ (by rw [List.length_take];omega),List.length_take,Nat.min_eq_left (by omega),Nat.sub_self,List.drop_eq_getElem_cons hlt,List.set_cons_zero,show m.take (i+1)=m.take i ++ [m[i]'(by omega)] from List.take_succ_eq_append_getElem (by omega),List.append_assoc]
   rfl
  rw [hset] at S
  exact S.perm List.perm_middle.symm
 ·have hie : i=t.regs.length:=by omega
  rw [hie,List.drop_of_length_le (Nat.le_refl _),List.append_nil,List.take_of_length_le (by omega)] at S
  have S:=S.perm (M:=.row (.slice p9 t.regs.length cap9) 3 1 t.regs.length (ints m)::(Lc t.regs.length++(.cell b4 yL 31 :: .cell b2 (tyL t p1 cap1) 31::M))) List.perm_middle
  have S:=S.perm (M:=.row (.slice p9 t.regs.length cap9) 3 1 t.regs.length (ints m) :: .cell b4 yL 31 :: .cell b2 (tyL t p1 cap1) 31::(Lc t.regs.length++M)) (List.Perm.cons _ (List.perm_middle.trans (List.Perm.cons _ List.perm_middle)))
  obtain ⟨s9,S,hsl,_,hab9⟩:=S.doneRow (l:=m) (R:=kp) (sz:=1) ⟨by rw [y9,Nat.mul_one],fun j hj=>by
   show _=_
   rw [Nat.mul_one,ints,← List.map_drop,← List.map_take,List.drop_eq_getElem_cons hj];rfl⟩ (by decide) (by omega)
  refine S.ldB (b:=b2) ?_ rfl
  rw [show t.regs.length=m.length from hm.symm] at hsl ⊢
  refine acv S.holds hv0.up (afV hsl).up (by omega) fun v' sn w7 e7 n7 ht7 hc7=>?_
  rw [afU hB hm hlow] at ht7 hc7 ⊢
  obtain ⟨S,d7,a7⟩:=S.tell e7 n7
  have ht70:=ht7
  obtain ⟨p7,cap7,rfl,_⟩:=ht7
  refine gP_ ?_
  refine gP_ ?_
  refine S.stB (b:=b2) fun w8 S=>?_
  refine S.ldB (b:=b2) ?_ rfl
  refine S.stB (b:=b4) fun w9 S=>?_
  refine S.ceB (b:=b4) ?_ rfl
  have S:=(S.tl.tl).to (r.or sn)
  exact h _ sn _ S a7 ht70 hc7
end Go.Proofs
end
section
namespace Go.Sh
theorem StX.front {X : Nat→Prop} {w0 w : World} {r : Gh} {L M : List Asr} (S : StX X w0 r w L) (b : Nat) {c : List Value} {T : TypeId} [h : vI b L c T M] : StX X w0 r w (.cell b c T::M):=S.permO h.h.symm
end Go.Sh
namespace Go.Proofs
open Go.Sh
set_option maxRecDepth 100000
set_option linter.unusedSimpArgs false
set_option linter.unusedVariables false
theorem jr {u : UnD} {g : GrD} {p : PtD} (h : yj u g p=true) (ho : p.op=7) : 0≤p.fn∧p.fn<u.fs.length:=by
 rw [yj,Bool.and_eq_true] at h
 have h2:=h.2
 rw [ptG] at h2
 simp only [ho,Int.reduceEq,if_false,if_true,Bool.and_eq_true,decide_eq_true_eq] at h2
 exact ⟨h2.1.2.1,h2.1.2.2⟩
theorem afW (t : TyD) : yb (regsT t)≤48:=by
 have:=(Zh (regsT t)).2
 have : (regsT t).length≤48:=by
  rw [regsT];split
  ·exact xO (by assumption)
  ·simp
 omega
theorem QT (l : List TyD) : zS l≤48*l.length:=by
 induction l with
 |nil=>simp [zS]
 |cons t l ih=>rw [zS,List.length_cons];have:=afW t;omega
theorem MayU.ptN {u : UnD} (h : MayU u) {g : GrD} (hg : g ∈ u.fs) {p : PtD} (hp : p ∈ g.pts) : 0≤Go.Proofs.ptN u p∧Go.Proofs.ptN u p≤8:=by
 unfold Go.Proofs.ptN
 split
 ·omega
 split
 ·rename_i h7
  have hc:=jr (h.pts g hg p hp) h7
  rw [aaE,List.getElem?_eq_getElem (show p.fn.toNat<u.fs.length by omega)]
  have:=h.hd (show p.fn.toNat<u.fs.length by omega)
  exact ⟨this.lv0,this.lv8⟩
 ·omega
theorem acO {u : UnD} {l : List PtD} (h : ∀ p ∈ l,ptN u p≤8) : atC u l≤8*l.length:=by
 induction l with
 |nil=>simp [atC]
 |cons t l ih=>
  rw [atC,List.length_cons]
  have:=h t List.mem_cons_self
  have:=ih fun p hp=>h p (List.mem_cons_of_mem _ hp)
  omega
abbrev rgL (lv pt ct : Int) (vl va : Value) : List Value:=[.int .i64 lv,.int .i64 pt,.int .i64 ct,vl,va]
theorem aaM {X : Nat→Prop} {w0 : World} {r : Gh} {b6 : Nat} {lv pt c : Int} {vl va : Value} {regs : List Int} (hc0 : 0≤c) (hc1 : c≤1000000) (hn : regs.length≤1000000) :
  ∀ (i : Nat) (hi : i<regs.length) {M : List Asr} {w : World} {K : Value→World→Prop},StX X w0 r w ([.cell b6 (rgL lv pt (c+yb (regs.take i)) vl va) 41]++M)→
   (∀ w',StX X w0 r w' ([.cell b6 (rgL lv pt (c+yb (regs.take (i+1))) vl va) 41]++M)→K (.int .i64 ((yq regs c)[i]'(by rw [qG];exact hi))) w')→zJ Tryz.prog (.func (.func Tryz.jM) #[] #[.pointer (some ⟨b6,0,none⟩)]) #[.int .i64 regs[i]] w K:=by
 intro i hi M w K S h
 refine Xd (by kernel_rfl) ?_
 refine Tryz.VT ?_
 unfold Tryz.Y2
 have S : StX X w0 r w (.cell b6 (rgL lv pt (c+yb (regs.take i)) vl va) 41::M):=S
 have hk:=aaH (c:=c) hi
 have ht:=aex hi
 have hle:=Zh (regs.take i)
 rw [List.length_take] at hle
 rw [hk] at h
 refine zp (fun s w'=>s = [.int .i64 (if regs[i]<0 then c+yb (regs.take i) else regs[i])]∧StX X w0 r w' ([.cell b6 (rgL lv pt (c+yb (regs.take (i+1))) vl va) 41]++M)) (fun K3 hK3=>?_) ?_
 ·refine gP_ ?_
  refine zj (fun hlt=>?_) (fun hge=>?_)
  ·refine gG_ ?_
   refine S.st (b:=b6) fun w2 S=>?_
   refine hK3 _ _ ⟨by rw [if_pos hlt],?_⟩
   rw [ht,if_pos hlt,show c+(yb (regs.take i)+1)=c+yb (regs.take i)+1 by omega]
   exact S
  ·refine hK3 _ _ ⟨by rw [if_neg hge],?_⟩
   rw [ht,if_neg hge,Int.add_zero]
   exact S
 rintro _ w3 ⟨rfl,S⟩ d3
 rw [List.getD_cons_zero]
 exact h _ S
theorem adW (l : List Int) : RowOf 1 kp (ints l) l:=⟨by rw [y9,Nat.mul_one],fun j hj=>by
 show _=_
 rw [Nat.mul_one,ints,← List.map_drop,← List.map_take,List.drop_eq_getElem_cons hj];rfl⟩
set_option maxHeartbeats 8000000 in
theorem ZP {u : UnD} {fn q : Int} {v : Value} {w : World} {r : Gh} {K : Value→World→Prop} (hr : Holds r w) (hu : UnG r v u)
  (h : ∀ v' s w',Ext w w'→New w s w'→RgG s v' (zn u fn q).1→K (.tuple #[v',.int .i64 (zn u fn q).2]) w') : ze Tryz.prog Tryz.kE #[v,.int .i64 fn,.int .i64 q] w K:=by
 have hu0:=hu
 obtain ⟨p0,cap0,vf,rfl,_,_,hst,hsl,hfn⟩:=hu
 obtain ⟨qf,capf,rfl,_,_⟩:=hfn.sl.shape
 have hfl : u.fs.length≤9223372036854775807:=hfn.few
 refine Tryz.abH ?_
 unfold Tryz.Qs
 have S:=St.start hr
 refine S.box fun b3 w1 S=>?_
 have S : StX noX w r w1 [.cell b3 [.slice p0 u.ss.length cap0,.slice qf u.fs.length capf,.int .i64 u.mn] 25]:=S
 refine S.al fun b6 w2 S=>?_
 refine gP_ ?_
 refine zh (c:=decide ((u.fs.length : Int)≤fn)) (fun _ K2 hK2=>?_) ?_
 ·refine gG_ ?_
  exact hK2
 refine yw (c:=!ZJ u) (fun _ K2 hK2=>?_) fun w3 e3=>?_
 ·refine S.ldB (b:=b3) ?_ rfl
  refine adi S.holds hu0 fun w3 e3=>?_
  refine gP_ ?_
  exact hK2 _ e3
 have S:=S.go e3
 have hlen : ∀ {K9 : Value→World→Prop},True:=fun {_}=>trivial
 refine zh (c:=decide (((u.fs[fn.toNat]?.map fun g=>(g.pts.length : Int)).getD 0)≤q)) (fun hb K2 hK2=>?_) ?_
 ·simp only [Bool.or_eq_false_iff,decide_eq_false_iff_not,Bool.not_eq_false'] at hb
  have hlt : fn.toNat<u.fs.length:=by omega
  obtain ⟨bf,of,cf,rfl,hcf,hgc,hfo⟩:=hfn.sl.get (by decide) hlt
  rw [List.getElem?_eq_getElem hlt] at hK2
  obtain ⟨vo,vt,vn,vp,rfl,h1,h2,h3,h4⟩:=hgc
  obtain ⟨qp,capp,rfl,_,_⟩:=h4.sl.shape
  refine gG_ ?_
  refine zm (v:=.slice qp u.fs[fn.toNat].pts.length capp) (by simpa using S.at (hfo 6 _ rfl)) ?_
  refine gG_ ?_
  exact hK2
 have hU : isU u fn q = !(((decide (fn<0)||decide ((u.fs.length : Int)≤fn)) || !ZJ u)||decide (((u.fs[fn.toNat]?.map fun g=>(g.pts.length : Int)).getD 0)≤q)):=by
  rw [isU]
  generalize ((u.fs[fn.toNat]?.map fun g=>(g.pts.length : Int)).getD 0)=n
  cases ZJ u<;>by_cases h1 : fn<0<;>by_cases h2 : (u.fs.length : Int)≤fn<;>by_cases h3 : n≤q <;>
   simp [h1,h2,h3,Int.not_lt.2,Int.not_le.1,show (0≤fn) = ¬ fn<0 from propext (by omega),show (fn<(u.fs.length : Int)) = ¬ (u.fs.length : Int)≤fn from propext (by omega),show (q<n) = ¬ n≤q from propext (by omega)]
 cases hc : isU u fn q with
 |false=>
  have hT : zn u fn q=(kM,2):=by rw [zn,hc];rfl
  rw [hc] at hU
  rw [hT] at h
  refine c_t (ag6 hU) ?_
  refine S.ldB (b:=b6) ?_ rfl
  refine S.stB (b:=b6) fun w4 S=>?_
  refine gG_ ?_
  exact h _ nothing _ S.ext New.nothing RgG.zero
 |true=>
 rw [hc] at hU
 refine c_f (agq hU) ?_
 have hU:=agq hU
 simp only [Bool.or_eq_false_iff,decide_eq_false_iff_not,Bool.not_eq_false'] at hU
 obtain ⟨⟨⟨hf0,hf1⟩,hmay⟩,hq⟩:=hU
 have hM:=Xn.1 hmay
 have hlt : fn.toNat<u.fs.length:=by omega
 have hT : zn u fn q=(allD u u.fs[fn.toNat],0):=by rw [zn,hc,List.getElem?_eq_getElem hlt];rfl
 rw [hT] at h
 have hH:=hM.hd hlt
 have hfin:=hH.fine hM.ok
 have hptN:=fun p hp=>hM.ptN (List.getElem_mem hlt) (p:=p) hp
 have hpts:=hM.pts _ (List.getElem_mem hlt)
 obtain ⟨bf,of,cf,rfl,hcf,hgc,hfo⟩:=hfn.sl.get (by decide) hlt
 clear hq hT
 generalize u.fs[fn.toNat]=g at h hH hfin hptN hpts hgc
 obtain ⟨vo,vt,vn,vp,rfl,h1,h2,h3,h4⟩:=id hgc
 obtain ⟨qo,capo,rfl,_,_⟩:=h1.sl.shape
 obtain ⟨qt,capt,rfl,_,hct⟩:=h2.sl.shape
 obtain ⟨qn,capn,rfl,_,_⟩:=h3.sl.shape
 obtain ⟨qp,capp,rfl,_,_⟩:=h4.sl.shape
 obtain ⟨hlv0,hlv8,_,_,_,hty,_,htys,hp1,hp1024,_,_,_⟩:=hH
 refine gG_ ?_
 refine zq (n:=7) hcf (fun j v hj=>S.at (hfo j v hj)) ?_
 refine S.al fun b8 w4 S=>?_
 refine S.stB (b:=b8) fun w5 S=>?_
 have S:=S.go (Ext.drew _)
 have S : StX noX w r w5.drew [.cell b8 [.string g.name,.int .i64 g.lv,.slice qo g.outs.length capo,.int .i64 g.pn,.slice qt g.tys.length capt,.slice qn g.nms.length capn,.slice qp g.pts.length capp] 58,
  .cell b6 (rgL 0 0 0 (.slice none 0 0) (.slice none 0 0)) 41,.cell b3 [.slice p0 u.ss.length cap0,.slice (some ⟨bf,of,none⟩) u.fs.length capf,.int .i64 u.mn] 25]:=S
 refine zp (fun _ w'=>StX noX w r w' [.cell b8 [.string g.name,.int .i64 g.lv,.slice qo g.outs.length capo,.int .i64 g.pn,.slice qt g.tys.length capt,.slice qn g.nms.length capn,.slice qp g.pts.length capp] 58,
  .cell b6 (rgL g.lv g.pts.length g.lv (.slice none 0 0) (.slice none 0 0)) 41,.cell b3 [.slice p0 u.ss.length cap0,.slice (some ⟨bf,of,none⟩) u.fs.length capf,.int .i64 u.mn] 25]) (fun K20 hK20=>?_) ?_
 ·repeat' (first
   |(first|refine s_p ?_|refine s_c (by omega) ?_|refine S.ld ?_|refine S.ldB ?_|refine S.ce ?_|refine S.ceB ?_|refine s_q ?_|refine s_qc (by omega) ?_|refine n_some ?_|rw [List.getD_cons_zero]|rw [List.getD_cons_succ])
   |(refine S.st (b:=b6) fun w6 S=>?_)
   |exact hK20 [] _ S
   |refine acf ?_
   |refine And.intro ?_ ?_)
 clear S
 rintro _ w6 S d6
 have S:=S.swap
 have S:=S.ownNil 31 5
 have S:=S.swap
 refine gG_ ?_
 refine zk (ι:=Nat × Value × Gh × List Value) (fun i=>[.int .i64 (i.1 : Nat)]) (fun i w'=>i.1≤g.tys.length∧RowOf 5 (TyC i.2.2.1) i.2.2.2 (xk (g.tys.take i.1) g.lv)∧Above w i.2.2.1∧
  StX noX w (r.or i.2.2.1) w' [.cell b6 (rgL g.lv g.pts.length (g.lv+zS (g.tys.take i.1)) i.2.1 (.slice none 0 0)) 41,.row i.2.1 31 5 i.1 i.2.2.2,
   .cell b8 [.string g.name,.int .i64 g.lv,.slice qo g.outs.length capo,.int .i64 g.pn,.slice qt g.tys.length capt,.slice qn g.nms.length capn,.slice qp g.pts.length capp] 58,.cell b3 [.slice p0 u.ss.length cap0,.slice (some ⟨bf,of,none⟩) u.fs.length capf,.int .i64 u.mn] 25]) (fun i=>g.tys.length - i.1) (0,.slice none 0 0,nothing,[]) rfl
  ⟨Nat.zero_le _,RowOf.nil,Above.no,by
   rw [List.take_zero,show g.lv+zS []=g.lv by simp [zS]];exact S.to (r.or nothing)⟩ ?_
 clear S
 rintro ⟨i,v,s,xs⟩ d w7 ⟨hi,hrow,hab,S⟩ K6 hK6
 simp only at hi hrow hab S ⊢
 rw [List.getD_cons_zero]
 refine gP_ ?_
 refine zj (fun hlt2=>?_) (fun hge=>?_)
 ·have hlt2 : i<g.tys.length:=by omega
  obtain ⟨bt,ot,ct,rfl,hct2,htc,hcell⟩:=h2.sl.get (by decide) hlt2
  obtain ⟨q2,cap2,rfl,ht2⟩:=zV htc
  have hfi : Fine u.ss g.tys[i]:=hfin.all _ (List.getElem_mem hlt2)
  have hB:=hfi.is hfin.few
  have hrT : regsT g.tys[i]=g.tys[i].regs:=by rw [regsT,hB];rfl
  have h48:=xO hB
  have hl0:=qH (g.tys.take i)
  have hl1:=QT (g.tys.take i)
  rw [List.length_take] at hl1
  have hlow : ∀ x ∈ yq g.tys[i].regs (g.lv+zS (g.tys.take i)),-1≤x:=fun x hx=>by
   obtain ⟨j,hj,rfl⟩:=List.getElem_of_mem hx
   rw [qG] at hj
   rw [aaH hj]
   have:=(Zh (g.tys[i].regs.take j)).1
   split<;>omega
  obtain ⟨pv,capv,rfl,_,_,hxl,_⟩:=S.rowS v
  refine zp (fun _ w'=>∃ v' s' xs',RowOf 5 (TyC s') xs' (xk (g.tys.take (i+1)) g.lv)∧Above w s'∧StX noX w (r.or s') w' [.cell b6 (rgL g.lv g.pts.length (g.lv+zS (g.tys.take (i+1))) v' (.slice none 0 0)) 41,.row v' 31 5 (i+1) xs',
   .cell b8 [.string g.name,.int .i64 g.lv,.slice qo g.outs.length capo,.int .i64 g.pn,.slice (some ⟨bt,ot,none⟩) g.tys.length capt,.slice qn g.nms.length capn,.slice qp g.pts.length capp] 58,.cell b3 [.slice p0 u.ss.length cap0,.slice (some ⟨bf,of,none⟩) u.fs.length capf,.int .i64 u.mn] 25]) (fun K87 hK87=>?_) ?_
  rotate_left
  ·clear S
   rintro _ w8 ⟨v',s',xs',hr',ha',S⟩ d8
   refine gP_ ?_
   rw [show ((i : Int)+1)=((i+1 : Nat) : Int) by omega]
   exact hK6 (i+1,v',s',xs') _ ⟨hlt2,hr',ha',S⟩ (by show g.tys.length - (i+1)<g.tys.length - i;omega)
  refine gP_ ?_
  refine zq (n:=5) hct2 (fun j v hj=>by rw [Int.toNat_natCast];exact S.at (hcell j v hj)) ?_
  refine S.al fun b10 w8 S=>?_
  refine S.stB (b:=b10) fun w9 S=>?_
  have S:=S.go (Ext.drew _)
  refine gG_ ?_
  have hsnoc:=aey (c:=g.lv) hlt2
  have htak:=aa9 hlt2
  rw [hrT] at hsnoc htak
  have hcall : ∀ {M : List Asr} {w9 : World} {K9 : Value→World→Prop},StX noX w (r.or s) w9 (.cell b6 (rgL g.lv g.pts.length (g.lv+zS (g.tys.take i)) (.slice pv i capv) (.slice none 0 0)) 41::M)→
    (∀ q' cap' sn w',StX noX w ((r.or s).or sn) w' (.cell b6 (rgL g.lv g.pts.length (g.lv+zS (g.tys.take (i+1))) (.slice pv i capv) (.slice none 0 0)) 41::M)→Above w (s.or sn)→
     RowOf 5 (TyC (s.or sn)) (xs++tyL (g.tys[i].lay (yq g.tys[i].regs (g.lv+zS (g.tys.take i)))) q' cap') (xk (g.tys.take (i+1)) g.lv)→K9 (tyV (g.tys[i].lay (yq g.tys[i].regs (g.lv+zS (g.tys.take i)))) q' cap') w')→
    ze Tryz.prog Tryz.yf #[tyV g.tys[i] q2 cap2,.func (.func Tryz.jM) #[] #[.pointer (some ⟨b6,0,none⟩)]] w9 K9:=by
   intro M w9 K9 S hk
   refine Yj (Lc:=fun j=>[.cell b6 (rgL g.lv g.pts.length (g.lv+zS (g.tys.take i)+yb (g.tys[i].regs.take j)) (.slice pv i capv) (.slice none 0 0)) 41]) (M:=M) (m:=yq g.tys[i].regs (g.lv+zS (g.tys.take i))) hB (qG _ _) hlow
    (aaM (by omega) (by omega) (by omega)) (by
     show StX _ _ _ _ (.cell b6 (rgL _ _ (_+yb (List.take 0 _)) _ _) _::M)
     rw [List.take_zero,show yb []=0 from rfl,Int.add_zero];exact S) ht2.up fun v' sn w' S ha ht hc=>?_
   obtain ⟨q',cap',rfl,_⟩:=id ht
   refine hk q' cap' sn w' ?_ (hab.or' ha) ?_
   ·rw [htak,← Int.add_assoc]
    have S : StX noX w ((r.or s).or sn) w' (.cell b6 (rgL g.lv g.pts.length (g.lv+zS (g.tys.take i)+yb (g.tys[i].regs.take g.tys[i].regs.length)) (.slice pv i capv) (.slice none 0 0)) 41::M):=S
    rw [List.take_length] at S
    exact S
   ·rw [hsnoc]
    exact (hrow.mono fun c x hx=>TyG.up hx).snoc rfl (TyG.up ht)
  have hS:=S
  repeat' (first
   |(first|refine s_p ?_|refine s_c (by omega) ?_|refine S.ld ?_|refine S.ldB ?_|refine S.ce ?_|refine S.ceB ?_|refine s_q ?_|refine s_qc (by omega) ?_|refine n_some ?_|rw [List.getD_cons_zero]|rw [List.getD_cons_succ])
   |(rw [show 0+((i : Nat) : Int).toNat*5=i*5 by omega])
   |(refine S.litU (e:=31) (cs:=yL) (by kernel_rfl) fun b33 w33 S=>?_)
   |(refine hcall (S.front b6) fun q' cap' sn w34 S ha9 hr9=>?_)
   |(refine S.ap (m':=1) (Sl.blk (S.blk b33)) (fun v9 w35 S=>?_) (by omega);obtain ⟨p9,cap9,rfl,_⟩:=S.rowS v9;obtain ⟨b9,rfl⟩:=S.row0N (p:=p9) (n:=i+1) (cap:=cap9) trivial (by omega))
   |(refine S.stRowN (i:=i) (b:=b9) (n:=i+1) (cap:=cap9) (by omega) fun w36 S=>?_;rw [aeA hxl rfl] at S)
   |(refine S.st (b:=b6) fun w37 S=>?_)
   |exact hK87 [] _ ⟨_,_,_,hr9,ha9,((S.drop b33).drop b10).reGh⟩
   |refine acf ?_
   |refine And.intro ?_ ?_)
 have hie : i=g.tys.length:=by omega
 subst hie
 rw [List.take_length] at hrow S
 have S:=S.swap
 obtain ⟨s2,S,hsl2,_,hab2⟩:=S.doneRow hrow (by decide) (by rw [xy])
 have hab2 : Above w s2:=fun b o ho=>(hab2 b o ho).resolve_right id
 have hloc:=qH g.tys
 have hloc2:=QT g.tys
 clear hK6 K6 hge hi
 have S:=S.ownNil 3 1
 have S:=S.swap
 refine gG_ ?_
 generalize hbase : g.lv+zS g.tys=base at S
 refine zk (ι:=Nat × Value) (fun i=>[.int .i64 (i.1 : Nat)]) (fun i w'=>i.1≤g.pts.length∧
  StX noX w ((r.or s).or s2) w' [.cell b6 (rgL g.lv g.pts.length (base+atC u (g.pts.take i.1)) v i.2) 41,.row i.2 3 1 i.1 (ints (atK u (g.pts.take i.1) base)),
   .cell b8 [.string g.name,.int .i64 g.lv,.slice qo g.outs.length capo,.int .i64 g.pn,.slice qt g.tys.length capt,.slice qn g.nms.length capn,.slice qp g.pts.length capp] 58,.cell b3 [.slice p0 u.ss.length cap0,.slice (some ⟨bf,of,none⟩) u.fs.length capf,.int .i64 u.mn] 25]) (fun i=>g.pts.length - i.1) (0,.slice none 0 0) rfl
  ⟨Nat.zero_le _,by
   rw [List.take_zero,show base+atC u []=base by simp [atC]];exact S⟩ ?_
 clear S
 rintro ⟨i,va⟩ d w8 ⟨hi,S⟩ K7 hK7
 simp only at hi S ⊢
 rw [List.getD_cons_zero]
 have ha0:=ZN (u:=u) (l:=g.pts) (fun p hp=>(hptN p hp).1) i
 have ha1:=acO (u:=u) (l:=g.pts) fun p hp=>(hptN p hp).2
 refine gP_ ?_
 refine zj (fun hlt2=>?_) (fun hge=>?_)
 ·have hlt2 : i<g.pts.length:=by omega
  obtain ⟨bp,op,cp,rfl,hcp,hpc,hcell⟩:=h4.sl.get (by decide) hlt2
  have hN:=hptN g.pts[i] (List.getElem_mem hlt2)
  have hpt:=hpts g.pts[i] (List.getElem_mem hlt2)
  have hsn:=afd (u:=u) (c:=base) hlt2
  have htk:=J0 (u:=u) hlt2
  refine gP_ ?_
  refine zq (n:=21) hcp (fun j v hj=>by rw [Int.toNat_natCast];exact S.at (hcell j v hj)) ?_
  generalize g.pts[i]=p at hpc hN hpt hsn htk
  obtain ⟨vto,vaa,vb,vl,vfr,rfl,k1,k2,k3,k4,k5⟩:=hpc
  obtain ⟨_,_,rfl,_⟩:=k1.sl.shape
  obtain ⟨_,_,rfl,_⟩:=k2.sl.shape
  obtain ⟨_,_,rfl,_⟩:=k3.sl.shape
  obtain ⟨_,_,rfl,_⟩:=k4.sl.shape
  obtain ⟨_,_,rfl,_⟩:=k5.sl.shape
  refine S.al fun b12 w9 S=>?_
  refine S.stB (b:=b12) fun w10 S=>?_
  refine zp (fun s w'=>s = [.int .i64 (ptN u p)]∧w'=w10) (fun K9 hK9=>?_) ?_
  ·refine gG_ ?_
   refine zj (fun ho=>?_) (fun ho=>?_)
   ·refine hK9 _ _ ⟨by rw [ptN,if_pos ho],rfl⟩
   refine gG_ ?_
   refine zj (fun ho2=>?_) (fun ho2=>?_)
   ·have hcc:=jr hpt ho2
    have hlt3 : p.fn.toNat<u.fs.length:=by omega
    obtain ⟨bf2,of2,cf2,hbe,hcf2,hgc2,hfo2⟩:=hfn.sl.get (by decide) hlt3
    cases hbe
    obtain ⟨vo',vt',vn',vp',rfl,_⟩:=hgc2
    refine gG_ ?_
    refine zm (v:=.int .i64 u.fs[p.fn.toNat].lv) (by simpa using S.at (hfo2 1 _ rfl)) ?_
    refine hK9 _ _ ⟨by rw [ptN,if_neg ho,if_pos ho2,aaE,List.getElem?_eq_getElem hlt3],rfl⟩
   ·exact hK9 _ _ ⟨by rw [ptN,if_neg ho,if_neg ho2],rfl⟩
  rintro _ w10 ⟨rfl,rfl⟩ d10
  refine gG_ ?_
  refine zp (fun s w'=>s = [.int .i64 (if ptN u p=0 then -1 else base+atC u (g.pts.take i))]∧w'=w10) (fun K9 hK9=>?_) ?_
  ·refine gG_ ?_
   refine zj (fun ho=>?_) (fun ho=>?_)
   ·exact hK9 _ _ ⟨by rw [if_pos ho],rfl⟩
   ·exact hK9 _ _ ⟨by rw [if_neg ho],rfl⟩
  rintro _ w10 ⟨rfl,rfl⟩ d11
  obtain ⟨pa,capa,rfl,_,_,hxl,_⟩:=S.rowS va
  refine gG_ ?_
  refine S.lit (e:=3) (cs:=[.int .i64 (if ptN u p=0 then -1 else base+atC u (g.pts.take i))]) (by kernel_rfl) fun b13 w11 S=>?_
  refine S.ap (m':=1) (Sl.blk (S.blk b13)) (fun v13 w12 S=>?_) (by omega)
  have hv1:=S.row1 v13
  refine gG_ ?_
  refine S.st (b:=b6) (h1:=hv1) fun w13 S=>?_
  refine gG_ ?_
  refine S.st (b:=b6) fun w14 S=>?_
  refine gG_ ?_
  rw [show ((i : Int)+1)=((i+1 : Nat) : Int) by omega]
  refine hK7 (i+1,v13) _ ⟨hlt2,?_⟩ (by show g.pts.length - (i+1)<g.pts.length - i;omega)
  have hins : ints (atK u (g.pts.take i) base) ++ [.int .i64 (if ptN u p=0 then -1 else base+atC u (g.pts.take i))]=ints (atK u (g.pts.take (i+1)) base):=by rw [hsn,ints,ints,List.map_append];rfl
  rw [hins] at S
  have S:=(S.drop b13).drop b12
  rw [htk,← Int.add_assoc]
  exact S
 have hie : i=g.pts.length:=by omega
 subst hie
 rw [List.take_length] at S
 have S:=S.swap
 obtain ⟨s3,S,hsl3,_,hab3⟩:=S.doneRow (l:=atK u g.pts base) (R:=kp) (sz:=1) (adW _) (by decide) (by rw [jU])
 have hab3 : Above w s3:=fun b o ho=>(hab3 b o ho).resolve_right id
 obtain ⟨_,_,rfl,_⟩:=hsl2.shape
 obtain ⟨_,_,rfl,_⟩:=hsl3.shape
 refine gG_ ?_
 refine S.stB (b:=b6) fun w15 S=>?_
 refine gG_ ?_
 have hle : Le ((s.or s2).or s3) (((r.or s).or s2).or s3):=⟨fun b o ho=>by
  rcases ho with (ho|ho)|ho
  ·exact .inl (.inl (.inr ho))
  ·exact .inl (.inr ho)
  ·exact .inr ho⟩
 refine h _ ((s.or s2).or s3) _ S.ext (S.newOf ((hab.or' hab2).or' hab3)) ⟨_,_,?_,hsl2.up' (s:=(s.or s2).or s3) inferInstance fun c x hx=>TyG.up hx,by rw [show (allD u g).at'=atK u g.pts base by rw [← hbase];rfl];exact hsl3.cells⟩
 rw [← hbase];rfl
end Go.Proofs
end
section
namespace Go.Proofs
open Go.Sh
set_option maxRecDepth 100000
set_option linter.unusedSimpArgs false
set_option linter.unusedVariables false
theorem RgG.shape {r : Gh} {v : Value} {d : RgD} (h : RgG r v d) : ∃ q1 c1 q2 c2,v = .agg (rgL d.lv d.pt d.ct (.slice q1 d.tys.length c1) (.slice q2 d.at'.length c2)).toArray∧SlG 5 r (TyC r) (.slice q1 d.tys.length c1) d.tys∧SlG 1 r kp (.slice q2 d.at'.length c2) d.at':=by
 obtain ⟨vl,va,rfl,h1,h2⟩:=h
 obtain ⟨q1,c1,rfl,_⟩:=h1.shape
 obtain ⟨q2,c2,rfl,_⟩:=h2.shape
 exact ⟨q1,c1,q2,c2,rfl,h1,h2⟩
abbrev rgZ : List Value:=rgL 0 0 0 (.slice none 0 0) (.slice none 0 0)
theorem ZQ {d : RgD} {e : Int} {v : Value} {w : World} {r : Gh} {K : Value→World→Prop} (hr : Holds r w) (hd : RgG r v d)
  (h : ∀ v' w',Ext w w'→RgG r v' (zG (d,e)).1→K (.tuple #[v',.int .i64 (zG (d,e)).2]) w') : ze Tryz.prog Tryz.kD #[v,.int .i64 e] w K:=by
 refine Tryz.abG ?_
 unfold Tryz.Qr
 have hd0:=hd
 obtain ⟨q1,c1,q2,c2,rfl,h1,h2⟩:=hd.shape
 have S:=St.start hr
 refine S.box fun b2 w1 S=>?_
 have S : StX noX w r w1 [.cell b2 (rgL d.lv d.pt d.ct (.slice q1 d.tys.length c1) (.slice q2 d.at'.length c2)) 41]:=S
 refine S.al fun b4 w2 S=>?_
 have S : StX noX w r w2 [.cell b4 rgZ 41,.cell b2 (rgL d.lv d.pt d.ct (.slice q1 d.tys.length c1) (.slice q2 d.at'.length c2)) 41]:=S
 refine zp (fun s w'=>s = [.int .i64 (zG (d,e)).2]∧w'=w2) (fun K3 hK3=>?_) ?_
 ·refine gP_ ?_
  refine zg (c:=decide (512<d.ct)) (fun _ K2 hK2=>?_) ?_
  ·refine gG_ ?_
   exact hK2
  refine c_b (fun hb=>?_) (fun hb=>?_)
  ·have hb : e=0∧512<d.ct:=by simpa using hb
   refine hK3 _ _ ⟨?_,rfl⟩
   rw [zG,if_pos hb.1,if_pos hb.2]
  ·refine hK3 _ _ ⟨?_,rfl⟩
   rw [zG]
   by_cases he : e=0
   ·rw [if_pos he,if_neg (by rw [decide_eq_true he,Bool.true_and,decide_eq_false_iff_not] at hb;exact hb)]
   ·rw [if_neg he]
 rintro _ w2 ⟨rfl,rfl⟩ d3
 refine gG_ ?_
 have hf : zG (d,e)=if (zG (d,e)).2=0 then (d,0) else (kM,(zG (d,e)).2):=by
  unfold zG
  by_cases he : e=0
  ·by_cases hc : 512<d.ct
   ·simp [he,hc]
   ·simp [he,hc]
  ·simp [he]
 generalize (zG (d,e)).2=x at hf
 refine zj (fun hne=>?_) (fun heq=>?_)
 ·rw [if_neg hne] at hf
  rw [hf] at h
  refine zo (cs:=rgZ.toArray) (by kernel_rfl) ?_
  refine S.stB (b:=b4) fun w3 S=>?_
  refine S.ceB (b:=b4) ?_ rfl
  exact h _ _ S.ext RgG.zero
 ·have heq : x=0:=by omega
  rw [if_pos heq] at hf
  rw [hf] at h
  refine S.ldB (b:=b2) ?_ rfl
  refine S.stB (b:=b4) fun w3 S=>?_
  refine S.ceB (b:=b4) ?_ rfl
  rw [heq]
  exact h _ _ S.ext hd0
theorem adj {u : UnD} {fn : Int} {v : Value} {w : World} {r : Gh} {K : Value→World→Prop} (hr : Holds r w) (hu : UnG r v u)
  (h : ∀ v' s w',Ext w w'→New w s w'→RgG s v' (zG (zn u fn (-1))).1→K (.tuple #[v',.int .i64 (zG (zn u fn (-1))).2]) w') : ze Tryz.prog Tryz.Yo #[v,.int .i64 fn] w K:=by
 refine Tryz.acG ?_
 unfold Tryz.Ju
 have hu0:=hu
 obtain ⟨p0,cap0,vf,rfl,_,_,hst,hsl,hfn⟩:=hu
 obtain ⟨qf,capf,rfl,_,_⟩:=hfn.sl.shape
 have S:=St.start hr
 refine S.box fun b2 w1 S=>?_
 refine S.al fun b4 w2 S=>?_
 refine S.ldB (b:=b2) ?_ rfl
 refine ZP S.holds hu0 fun v3 s w3 e3 n3 h3=>?_
 obtain ⟨S,d3,a3⟩:=S.tell e3 n3
 refine gS_ ?_
 refine ZQ (r:=s) (S.holds.le (h:=inferInstance)) h3 fun v4 w4 e4 h4=>?_
 have S:=S.go e4
 obtain ⟨q1,c1,q2,c2,rfl,_,_⟩:=h4.shape
 refine gS_ ?_
 refine S.stB (b:=b4) fun w5 S=>?_
 refine S.ceB (b:=b4) ?_ rfl
 exact h _ s _ S.ext (S.newOf a3) h4
theorem aaN {d : RgD} {v : Value} {w : World} {r : Gh} {K : Value→World→Prop} (hr : Holds r w) (hd : RgG r v d) (hb : 0≤d.pt∧d.pt≤1000000∧0≤d.lv∧d.lv≤1000000)
  (h : ∀ w',Ext w w'→K (.int .i64 (d.pt+d.lv)) w') : ze Tryz.prog Tryz.jL #[v] w K:=by
 refine Tryz.VS ?_
 unfold Tryz.Y1
 obtain ⟨q1,c1,q2,c2,rfl,h1,h2⟩:=hd.shape
 have S:=St.start hr
 refine S.box fun b2 w1 S=>?_
 have S : StX noX w r w1 [.cell b2 (rgL d.lv d.pt d.ct (.slice q1 d.tys.length c1) (.slice q2 d.at'.length c2)) 41]:=S
 refine gG_ ?_
 exact h _ S.ext
theorem qJ {u : UnD} {fn q : Int} (h : isU u fn q=true) : MayU u∧0≤fn∧∃ hlt : fn.toNat<u.fs.length,q<u.fs[fn.toNat].pts.length∧zn u fn q=(allD u u.fs[fn.toNat],0):=by
 have h0:=h
 rw [isU] at h
 simp only [Bool.and_eq_true,decide_eq_true_eq] at h
 obtain ⟨⟨h1,h2⟩,h3,h4⟩:=h
 have hlt : fn.toNat<u.fs.length:=by omega
 rw [List.getElem?_eq_getElem hlt] at h4
 exact ⟨Xn.1 h3,h1,hlt,h4,by rw [zn,if_pos h0,List.getElem?_eq_getElem hlt]⟩
theorem V3 {u : UnD} {fn q : Int} (h : isU u fn q=false) : zn u fn q=(kM,2):=by rw [zn,h];rfl
theorem J4 {u : UnD} {g : GrD} : (allD u g).tys.length=g.tys.length∧(allD u g).at'.length=g.pts.length:=⟨xy _ _,jU _ _ _⟩
noncomputable def jV (u : UnD) (fn : Int) (p : PlD) : TyD × Int:=
 if (zn u fn (-1)).2≠0∨(zW u.ss (zn u fn (-1)).1.tys p)=none then (zr,2)
 else if (zG (zn u fn (-1))).2≠0 then (zr,(zG (zn u fn (-1))).2) else yy u.ss (zn u fn (-1)).1.tys p
theorem J5 {u : UnD} {fn q : Int} : (zn u fn q).1.tys.length≤512:=by
 cases hc : isU u fn q with
 |false=>rw [V3 hc];exact Nat.zero_le _
 |true=>
  obtain ⟨hM,_,hlt,_,hT⟩:=qJ hc
  rw [hT,show (allD u u.fs[fn.toNat],(0 : Int)).1=allD u u.fs[fn.toNat] from rfl,J4.1]
  exact (hM.hd hlt).ty512
theorem aaO {u : UnD} {fn : Int} {p : PlD} {c : List Value} {v : Value} {w : World} {r : Gh} {K : Value→World→Prop} (hr : Holds r w) (hu : UnG r v u) (hp : PlG r c p)
  (h : ∀ v' sn w',Ext w w'→New w sn w'→TyG sn v' (jV u fn p).1→k9 sn v' (jV u fn p).1→K (.tuple #[v',.int .i64 (jV u fn p).2]) w') : ze Tryz.prog Tryz.jK #[v,.int .i64 fn,.agg c.toArray] w K:=by
 refine Tryz.VR ?_
 unfold Tryz.Y0
 have hu0:=hu
 obtain ⟨p0,cap0,vf,rfl,_,_,hst,hsl,hfn⟩:=hu
 obtain ⟨qf,capf,rfl,_,_⟩:=hfn.sl.shape
 obtain ⟨vq,rfl,hl⟩:=id hp
 obtain ⟨qs,caps,rfl,_,_⟩:=hl.sl.shape
 have S:=St.start hr
 refine S.box fun b3 w1 S=>?_
 have S : StX noX w r w1 [.cell b3 [.slice p0 u.ss.length cap0,.slice qf u.fs.length capf,.int .i64 u.mn] 25]:=S
 refine S.box fun b5 w2 S=>?_
 have S : StX noX w r w2 [.cell b5 [.int .i64 p.l,.slice qs p.ps.length caps] 47,.cell b3 [.slice p0 u.ss.length cap0,.slice qf u.fs.length capf,.int .i64 u.mn] 25]:=S
 refine S.al fun b6 w3 S=>?_
 refine S.ldB (b:=b3) ?_ rfl
 refine ZP S.holds hu0 fun v3 s w4 e4 n4 h4=>?_
 obtain ⟨S,d4,a4⟩:=S.tell e4 n4
 have htl : (zn u fn (-1)).1.tys.length≤maxLen:=by have:=J5 (u:=u) (fn:=fn) (q:=-1);simp only [maxLen];omega
 generalize hA : zn u fn (-1)=A at h4 htl
 obtain ⟨rd,e⟩:=A
 simp only at h4 htl
 have h40:=h4
 obtain ⟨q1,c1,q2,c2,rfl,g1,g2⟩:=h4.shape
 have hz : jV u fn p=if e≠0∨zW u.ss rd.tys p=none then (zr,2) else if (zG (rd,e)).2≠0 then (zr,(zG (rd,e)).2) else yy u.ss rd.tys p:=by rw [jV,hA]
 rw [hz] at h
 refine gS_ ?_
 refine S.al fun b8 w5 S=>?_
 refine S.stB (b:=b8) fun w6 S=>?_
 refine gP_ ?_
 refine yw (c:=!(zW u.ss rd.tys p).isSome) (fun _ K2 hK2=>?_) fun w7 e7=>?_
 ·refine gP_ ?_
  refine S.ld (b:=b3) ?_ rfl
  refine gP_ ?_
  refine S.ld (b:=b8) ?_ rfl
  refine S.ldB (b:=b5) ?_ rfl
  refine adh S.holds hst.up (xg g1).up htl ⟨_,rfl,hl.cells⟩ fun w7 e7=>?_
  refine gP_ ?_
  exact hK2 _ e7
 have S:=S.go e7
 refine c_b (fun hb=>?_) (fun hb=>?_)
 ·rw [if_pos (by
   simp only [Bool.or_eq_true,decide_eq_true_eq,Bool.not_eq_true',Option.isSome_eq_false_iff,Option.isNone_iff_eq_none] at hb
   exact hb)] at h
  refine zo (cs:=#[.int .u8 0,.bool false,.int .i64 0,.int .i64 0,.slice none 0 0]) (by kernel_rfl) ?_
  refine S.stB (b:=b6) fun w8 S=>?_
  refine gG_ ?_
  exact h _ nothing _ S.ext New.nothing zI .nil
 rw [if_neg (by
   simp only [Bool.or_eq_false_iff,decide_eq_false_iff_not,Bool.not_eq_false',Option.isSome_iff_ne_none] at hb
   rintro (h1|h1)
   ·exact hb.1 h1
   ·exact hb.2 h1)] at h
 refine S.ldB (b:=b8) ?_ rfl
 refine ZQ (r:=s) (S.holds.le (h:=inferInstance)) h40 fun v8 w8 e8 h8=>?_
 have S:=S.go e8
 obtain ⟨q3,c3,q4,c4,rfl,_,_⟩:=h8.shape
 refine gS_ ?_
 refine zj (fun hne=>?_) (fun heq=>?_)
 ·rw [if_pos hne] at h
  refine zo (cs:=#[.int .u8 0,.bool false,.int .i64 0,.int .i64 0,.slice none 0 0]) (by kernel_rfl) ?_
  refine S.stB (b:=b6) fun w8 S=>?_
  refine gG_ ?_
  exact h _ nothing _ S.ext New.nothing zI .nil
 ·rw [if_neg heq] at h
  refine gP_ ?_
  refine S.ld (b:=b3) ?_ rfl
  refine gP_ ?_
  refine S.ld (b:=b8) ?_ rfl
  refine S.ldB (b:=b5) ?_ rfl
  refine Qz S.holds hst.up (xg g1).up htl ⟨_,rfl,hl.cells⟩ fun v9 sn w9 e9 n9 t9 c9=>?_
  obtain ⟨S,d9,a9⟩:=S.tell e9 n9
  have t90:=t9
  obtain ⟨p9,cap9,rfl,_⟩:=t9
  refine gS_ ?_
  refine S.stB (b:=b6) fun w10 S=>?_
  refine gG_ ?_
  exact h _ sn _ S.ext (S.newOf a9) t90 c9
def vr : PlD:=⟨0,[]⟩
def Yk : OpD:=⟨0,0,vr⟩
def acP : PtD:=⟨0,vr,Yk,Yk,[],ByteArray.empty,vr,false,0,0,0,0,0⟩
abbrev QU : List Value:=[.int .u8 0,.int .i64 0,.slice none 0 0,.int .u8 0,.int .i64 0,.int .i64 0,.slice none 0 0,.int .u8 0,.int .i64 0,.int .i64 0,.slice none 0 0,.slice none 0 0,.string ByteArray.empty,.int .i64 0,.slice none 0 0,.bool false,.int .i64 0,.int .i64 0,.int .i64 0,.int .i64 0,.int .i64 0]
theorem jW {α : Type} {sz : Nat} {r : Gh} {R : List Value→α→Prop} : SlB sz r R (.slice none 0 0) ([] : List α):=⟨SlG.nil,Nat.zero_le _⟩
theorem acQ {r : Gh} : PtG r QU acP:=⟨_,_,_,_,_,rfl,jW,jW,jW,jW,jW⟩
abbrev ptL (p : PtD) (q1 q2 q3 q4 q5 : Option Addr) (c1 c2 c3 c4 c5 : Nat) : List Value:=[.int .u8 p.op,.int .i64 p.to.l,.slice q1 p.to.ps.length c1,.int .u8 p.a.k,.int .i64 p.a.n,.int .i64 p.a.pl.l,.slice q2 p.a.pl.ps.length c2,.int .u8 p.b.k,.int .i64 p.b.n,.int .i64 p.b.pl.l,.slice q3 p.b.pl.ps.length c3,.slice q4 p.args.length c4,
 .string p.sign,.int .i64 p.fr.l,.slice q5 p.fr.ps.length c5,.bool p.mu,.int .i64 p.fn,.int .i64 p.st,.int .i64 p.nx,.int .i64 p.el,.int .i64 p.tx]
theorem kk {r : Gh} {c : List Value} {p : PtD} (h : PtG r c p) : ∃ q1 q2 q3 q4 q5 c1 c2 c3 c4 c5,c=ptL p q1 q2 q3 q4 q5 c1 c2 c3 c4 c5∧PtG r (ptL p q1 q2 q3 q4 q5 c1 c2 c3 c4 c5) p:=by
 obtain ⟨vto,va,vb,vl,vfr,rfl,k1,k2,k3,k4,k5⟩:=id h
 obtain ⟨q1,c1,rfl,_⟩:=k1.sl.shape
 obtain ⟨q2,c2,rfl,_⟩:=k2.sl.shape
 obtain ⟨q3,c3,rfl,_⟩:=k3.sl.shape
 obtain ⟨q4,c4,rfl,_⟩:=k4.sl.shape
 obtain ⟨q5,c5,rfl,_⟩:=k5.sl.shape
 exact ⟨q1,q2,q3,q4,q5,c1,c2,c3,c4,c5,rfl,h⟩
noncomputable def atE (u : UnD) (fn q op : Int) : Int:=
 if q<0 then 2 else if (zG (zn u fn q)).2≠0 then (zG (zn u fn q)).2
 else match u.fs[fn.toNat]?.bind fun g=>g.pts[q.toNat]? with|some p=>if p.op≠op then 130 else 0|none=>2
theorem aeG {x : RgD × Int} (h : (zG x).2=0) : x.2=0∧(zG x).1=x.1∧x.1.ct≤512:=by
 unfold zG at h ⊢
 split at h
 ·rename_i h1
  split at h
  ·cases h
  ·rename_i h2;rw [if_pos h1,if_neg h2];exact ⟨h1,rfl,by omega⟩
 ·rename_i h1;exact absurd h h1
set_option maxHeartbeats 1000000 in
theorem Jy {u : UnD} {fn q op : Int} {v : Value} {w : World} {r : Gh} {K : Value→World→Prop} (hr : Holds r w) (hu : UnG r v u)
  (h : ∀ v' d cp p s w',Ext w w'→New w s w'→RgG s v' d→PtG r cp p→(atE u fn q op=0→isU u fn q=true∧0≤q∧d=(zn u fn q).1∧(u.fs[fn.toNat]?.bind fun g=>g.pts[q.toNat]?)=some p∧p.op=op∧d.ct≤512)→K (.tuple #[v',.agg cp.toArray,.int .i64 (atE u fn q op)]) w') :
  ze Tryz.prog Tryz.jZ #[v,.int .i64 fn,.int .i64 q,.int .u8 op] w K:=by
 refine Tryz.acI ?_
 unfold Tryz.Jw
 have hu0:=hu
 obtain ⟨p0,cap0,vf,rfl,_,_,hst,hsl,hfn⟩:=hu
 obtain ⟨qf,capf,rfl,_,_⟩:=hfn.sl.shape
 have S:=St.start hr
 refine S.box fun b4 w1 S=>?_
 have S : StX noX w r w1 [.cell b4 [.slice p0 u.ss.length cap0,.slice qf u.fs.length capf,.int .i64 u.mn] 25]:=S
 refine S.al fun b8 w2 S=>?_
 refine S.al fun b9 w3 S=>?_
 have S : StX noX w r w3 [.cell b9 QU 53,.cell b8 rgZ 41,.cell b4 [.slice p0 u.ss.length cap0,.slice qf u.fs.length capf,.int .i64 u.mn] 25]:=S
 refine gP_ ?_
 refine zj (fun hq=>?_) (fun hq=>?_)
 ·have hE : atE u fn q op=2:=by rw [atE,if_pos hq]
  rw [hE] at h
  refine zo (cs:=rgZ.toArray) (by kernel_rfl) ?_
  refine zo (cs:=QU.toArray) (by kernel_rfl) ?_
  refine S.stB (b:=b8) fun w4 S=>?_
  refine S.stB (b:=b9) fun w5 S=>?_
  refine S.ceB (b:=b8) ?_ rfl
  refine S.ceB (b:=b9) ?_ rfl
  exact h _ kM _ acP nothing _ S.ext New.nothing RgG.zero acQ fun h=>by cases h
 refine S.ldB (b:=b4) ?_ rfl
 refine ZP S.holds hu0 fun v3 s w4 e4 n4 h4=>?_
 obtain ⟨S,d4,a4⟩:=S.tell e4 n4
 refine gS_ ?_
 refine ZQ (r:=s) (S.holds.le (h:=inferInstance)) h4 fun v5 w5 e5 h5=>?_
 have S:=S.go e5
 have h50:=h5
 have hfe : (zG ((zn u fn q).1,(zn u fn q).2))=zG (zn u fn q):=rfl
 rw [hfe] at h5 h50 ⊢
 have hE : atE u fn q op=if (zG (zn u fn q)).2≠0 then (zG (zn u fn q)).2 else match u.fs[fn.toNat]?.bind fun g=>g.pts[q.toNat]? with|some p=>if p.op≠op then 130 else 0|none=>2:=by rw [atE,if_neg hq]
 obtain ⟨q1,c1,q2,c2,rfl,g1,g2⟩:=h5.shape
 refine gS_ ?_
 refine S.al fun b11 w6 S=>?_
 refine S.stB (b:=b11) fun w7 S=>?_
 refine gP_ ?_
 refine zj (fun hne=>?_) (fun heq=>?_)
 ·rw [if_pos hne] at hE
  rw [hE] at h
  refine S.ldB (b:=b11) ?_ rfl
  refine zo (cs:=QU.toArray) (by kernel_rfl) ?_
  refine S.stB (b:=b8) fun w4 S=>?_
  refine S.stB (b:=b9) fun w5 S=>?_
  refine S.ceB (b:=b8) ?_ rfl
  refine S.ceB (b:=b9) ?_ rfl
  exact h _ _ _ acP s _ S.ext (S.newOf a4) h50 acQ fun h=>absurd h hne
 have heq : (zG (zn u fn q)).2=0:=by omega
 obtain ⟨ha0,ha1,ha2⟩:=aeG heq
 cases hc : isU u fn q with
 |false=>rw [V3 hc] at ha0;cases ha0
 |true=>
 obtain ⟨hM,hf0,hlt,hql,hT⟩:=qJ hc
 rw [if_neg (by omega),List.getElem?_eq_getElem hlt,Option.bind_some,List.getElem?_eq_getElem (show q.toNat<u.fs[fn.toNat].pts.length by omega)] at hE
 obtain ⟨bf,of,cf,rfl,hcf,hgc,hfo⟩:=hfn.sl.get (by decide) hlt
 have hpt2 : u.fs[fn.toNat]?.bind (fun g=>g.pts[q.toNat]?)=some (u.fs[fn.toNat].pts[q.toNat]'(by omega)):=by
  rw [List.getElem?_eq_getElem hlt,Option.bind_some,List.getElem?_eq_getElem]
 rw [hpt2] at h
 obtain ⟨vo,vt,vn,vp,rfl,_,_,_,k4⟩:=hgc
 obtain ⟨qp,capp,rfl,_,_⟩:=k4.sl.shape
 obtain ⟨bp,op',cp,rfl,hcp,hpc,hpo⟩:=k4.sl.get (by decide) (show q.toNat<u.fs[fn.toNat].pts.length by omega)
 generalize u.fs[fn.toNat].pts[q.toNat]'(by omega)=p at h hE hpc
 dsimp only at hE
 refine gG_ ?_
 refine zm (v:=.slice (some ⟨bp,op',none⟩) u.fs[fn.toNat].pts.length capp) (by simpa using S.at (hfo 6 _ rfl)) ?_
 refine gG_ ?_
 refine zq (n:=21) hcp (fun j v hj=>S.at (hpo j v hj)) ?_
 obtain ⟨x1,x2,x3,x4,x5,y1,y2,y3,y4,y5,rfl,_⟩:=kk hpc
 refine S.al fun b13 w8 S=>?_
 refine S.stB (b:=b13) fun w9 S=>?_
 refine zp (fun s w'=>s = [.int .i64 (atE u fn q op)]∧w'=w9) (fun K9 hK9=>?_) ?_
 ·rw [hE] at hK9
  refine gG_ ?_
  refine zj (fun ho=>?_) (fun ho=>?_)
  ·exact hK9 _ _ ⟨by rw [if_pos ho],rfl⟩
  ·exact hK9 _ _ ⟨by rw [heq,if_neg ho],rfl⟩
 rintro _ w9 ⟨rfl,rfl⟩ d9
 have S:=S.go (Ext.drew _)
 have fin : ∀ {w9 : World},StX noX w (r.or s) w9 [.cell b13 (ptL p x1 x2 x3 x4 x5 y1 y2 y3 y4 y5) 53,.cell b11 (rgL (zG (zn u fn q)).1.lv (zG (zn u fn q)).1.pt (zG (zn u fn q)).1.ct (.slice q1 (zG (zn u fn q)).1.tys.length c1) (.slice q2 (zG (zn u fn q)).1.at'.length c2)) 41,
   .cell b9 (ptL p x1 x2 x3 x4 x5 y1 y2 y3 y4 y5) 53,.cell b8 (rgL (zG (zn u fn q)).1.lv (zG (zn u fn q)).1.pt (zG (zn u fn q)).1.ct (.slice q1 (zG (zn u fn q)).1.tys.length c1) (.slice q2 (zG (zn u fn q)).1.at'.length c2)) 41,
   .cell b4 [.slice p0 u.ss.length cap0,.slice (some ⟨bf,of,none⟩) u.fs.length capf,.int .i64 u.mn] 25]→
   K (.tuple #[.agg (rgL (zG (zn u fn q)).1.lv (zG (zn u fn q)).1.pt (zG (zn u fn q)).1.ct (.slice q1 (zG (zn u fn q)).1.tys.length c1) (.slice q2 (zG (zn u fn q)).1.at'.length c2)).toArray,.agg (ptL p x1 x2 x3 x4 x5 y1 y2 y3 y4 y5).toArray,.int .i64 (atE u fn q op)]) w9:=fun S=>
  h _ _ _ p s _ S.ext (S.newOf a4) h50 hpc fun hz=>⟨hc,by omega,ha1,rfl,(by
   rw [hE] at hz
   by_cases ho : p.op=op
   ·exact ho
   ·rw [if_pos ho] at hz;cases hz),by rw [ha1];exact ha2⟩
 repeat' (first
  |(first|refine s_p ?_|refine s_c (by omega) ?_|refine S.ld ?_|refine S.ldB ?_|refine S.ce ?_|refine S.ceB ?_|refine s_q ?_|refine s_qc (by omega) ?_|refine n_some ?_|rw [List.getD_cons_zero]|rw [List.getD_cons_succ])
  |(refine S.stB (b:=b8) fun w10 S=>?_)
  |(refine S.stB (b:=b9) fun w10 S=>?_)
  |(refine S.ldB (b:=b13) ?_ rfl)
  |exact fin S
  |refine acf ?_
  |refine And.intro ?_ ?_)
end Go.Proofs
end
