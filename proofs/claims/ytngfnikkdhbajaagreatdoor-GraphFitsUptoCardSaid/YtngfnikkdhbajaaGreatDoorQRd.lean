/-
  Contracts: the functions that stand in point.
  Nothing of this is in the seat.
  Contracts: regions of a type turned, erased, of both sides.
  Regions laid anew and numbered twice; words and drops of fields: the plain laws.
  Regions numbered: plain facts, one by one.
  Heads of graphs: plain facts, and what the tables hold.
  Contracts: what types imply.
  Contracts: what outlives what.
  Elements of rows of one's own written over.
  Contracts: places among types: walk, May, Type.
  A map of strings of one's own: made, filled, asked.
  Contracts: whether a point is as it must be.
  Which programs may be: what it tells when one may.
  Contracts: heads of graphs; Check and May of graph.
  Contracts: the regions of a function, numbered.
  Contracts: all regions of a function; Of, Width.
  Contracts: Of, Width, Place, Borrowed, Called of region.
  Texts of points, of both sides.
  Contracts: Borrowed, Called of region.
  Contracts: SameType of the reference, typeFits and spoil of law 13.
  Contracts: the example of law 13, and what is told of it.
  What is told of the example of law 13; awake.
  Contracts: fits of law 13; lists of numbers read in a memory that stays.
  What is cleared: the end of a slice of one's own.
  Contracts: a function, a point of a program; Assigns, Type, Operands of graph.
  graph.Text, graph.Lines, graph.Next.
  Shallow readings of functions. Made by a program (wip/gen/gen.py) out of the translation; the kernel checks each equality.
  Points compared: slices.EqualFunc of any kind; places, operands, points.
  graph.Same: two programs are the same.
  graph.Same: points, graphs, structs, units compared.
  graph.Same: graphs, structs, units compared.
-/
import Derived.Test.YtngfnikkdhbajaaGreatDoorQRc
import Derived.Test.YtngfnikkdhbajaaGreatDoorQRb
import Derived.MapKept
import GoSem.Builtin.Clear
section
namespace Go.Sh
section
variable {w : World} {Z : Value→World→Prop} {b c : Bool}
theorem J2 {g : Bool} {A : (List Value→World→Prop)→World→Prop} {G : (List Value→World→Prop)→Prop} (hG : b=false→∀ K : List Value→World→Prop,K [.bool g] w→G K) (hA : g=true→∀ K : List Value→World→Prop,K [.bool c] w→A K w) (hZ : Z (.bool (b||(g&&c))) w) :
  za (fun K1=>gIf (.bool b) false (G K1) (K1 [undef] w)) fun s1 _ w1=>
   za (fun K2=>gIf (s1.getD 0 undef) true (A K2 w1) (K2 [undef] w1)) fun s2 _ w2=>
    za (fun K3=>gIf (.bool b) false (zc (s1.getD 0 undef) (s2.getD 0 undef) (.bool false) fun t=>K3 [t] w2) (K3 [undef] w2)) fun s3 _ w3=>
     zc (.bool b) (.bool true) (s3.getD 0 undef) fun t=>Z t w3:=by
 intro K1 hK1
 cases b with
 |true=>
  refine hK1 _ _ fun _=>?_
  intro K2 hK2
  refine hK2 _ _ fun _=>?_
  intro K3 hK3
  refine hK3 _ _ fun _=>⟨true,rfl,?_⟩
  rw [Bool.true_or] at hZ;exact hZ
 |false=>
  refine hG rfl _ (hK1 _ _ fun _=>?_)
  intro K2 hK2
  cases g with
  |true=>
   refine hA rfl _ (hK2 _ _ fun _=>?_)
   intro K3 hK3
   refine ⟨true,rfl,hK3 _ _ fun _=>⟨false,rfl,?_⟩⟩
   rw [Bool.false_or,Bool.true_and] at hZ;exact hZ
  |false=>
   refine hK2 _ _ fun _=>?_
   intro K3 hK3
   refine ⟨false,rfl,hK3 _ _ fun _=>⟨false,rfl,?_⟩⟩
   rw [Bool.false_or,Bool.false_and] at hZ;exact hZ
end
theorem abn {P : Program} {K : Value→Prop} {t e : TypeId} {n : Nat} {p : Option Addr} {len cap : Nat} {kd kd' : IntKind} {a b : Int} (h : slT P t=some (e,n)) (h0 : 0≤a) (h1 : a≤b) (h2 : b≤cap)
  (k : K (.slice (if cap=a.toNat then p else p.map (·.add (a.toNat*n))) (b.toNat - a.toNat) (cap - a.toNat))) : opP P (Instr.sliceAt t (.slice p len cap) (some (.int kd a)) (some (.int kd' b)) none) K:=by
 refine ya (fun w=>?_) k
 unfold slT at h
 cases hu : P.underlying t with
 |none=>rw [hu] at h;cases h
 |some d=>
  rw [hu] at h
  cases d<;>first|cases h|skip
  rename_i e'
  simp only [Option.map_eq_some_iff,Prod.mk.injEq] at h
  obtain ⟨m,hs,rfl,rfl⟩:=h
  have h3 : 0≤b:=by omega
  have h5 : a≤max b 0:=by omega
  simp [Instr.sliceAt,Instr.slice,Instr.sliceBounds,Instr.sliceBound,asIntOf,Sem.run_bind,zt hu,Result.andThen,Sem.run,pure,h0,h2,h3,h5,zW hs]
instance {P : Program} {t e : TypeId} {n : Nat} {p : Option Addr} {len cap : Nat} {i j : IntKind} {a b : Int} [h : SlT P t e n] : PCond P (Instr.sliceAt t (.slice p len cap) (some (.int i a)) (some (.int j b)) none) (.slice (if cap=a.toNat then p else p.map (·.add (a.toNat*n))) (b.toNat - a.toNat) (cap - a.toNat)) (0≤a∧a≤b∧b≤cap):=
 .of fun x _ k=>abn (e:=e) (n:=n) h.h x.1 x.2.1 x.2.2 k
theorem StX.holdW {X : Nat→Prop} {w0 w : World} {r : Gh} {L : List Asr} (S : StX X w0 r w L) (b : Nat) {c : List Value} {T : TypeId} {f : List Value→List Asr} [h : At b L c T f] : Holds (r.or (Go.Sh.one b c T)) w:=S.holds.or (yc (S.blk b))
end Go.Sh
namespace Go.Proofs
open Go.Sh
set_option maxRecDepth 100000
set_option linter.unusedSimpArgs false
set_option linter.unusedVariables false
section
variable {X : Nat→Prop} {w0 w : World} {r : Gh} {L : List Asr}
theorem Vn {x n : Int} {b : Nat} {f : List Value→List Asr} {K : Value→World→Prop} (S : StX X w0 r w L) [At b L [.int .i64 n] 3 f] (h : K (.bool (decide (0≤x)&&decide (x<n))) w) :
  zO Tryz.prog (.func (.func Tryz.qS) #[] #[.pointer (some ⟨b,0,none⟩)]) #[.int .i64 x] w K:=by
 refine ab0 (by kernel_rfl) ?_
 refine Tryz.ZX ?_
 unfold Tryz.qV
 refine gP_ ?_
 refine zi (c:=decide (x<n)) (fun _ K2 hK2=>?_) h
 refine S.ld (b:=b) ?_ rfl
 refine gP_ ?_
 exact hK2
end
theorem z6 {t : TyD} {q : Option Addr} {cap : Nat} {k : Int} {w : World} {r : Gh} {K : Value→World→Prop} (hr : Holds r w) (h : ∀ w',Ext w w'→K (.bool (isK t k)) w') :
  zO Tryz.prog (.func (.func Tryz.qT) #[] #[]) #[tyV t q cap,.int .u8 k] w K:=by
 refine YB (by kernel_rfl) ?_
 refine Tryz.ZZ ?_
 unfold Tryz.qX
 have S:=St.start hr
 refine S.box fun b1 w1 S=>?_
 refine gG_ ?_
 exact h _ S.ext
theorem abo {u : UnD} {g : GrD} {o : OpD} {t : TyD} {b2 : Nat} {c c2 : List Value} {q : Option Addr} {cap : Nat} {w : World} {r : Gh} {K : Value→World→Prop} (hr : Holds r w) (hb2 : Ob r fun w=>Blk w b2 c2 117) (hx : AskG r (.agg c2.toArray) u g)
  (hc2 : c2.length=10) (hf : ZP u.ss g.tys) (ho : OpG r c o) (hc : c.length=4) (ht : TyG r (tyV t q cap) t)
  (h : ∀ w',Ext w w'→K (.bool ((zF u.ss g.tys o).2&&zU yX (zF u.ss g.tys o).1 t)) w') :
  zO Tryz.prog (.func (.func Tryz.qd) #[] #[.pointer (some ⟨b2,0,none⟩)]) #[.agg c.toArray,tyV t q cap] w K:=by
 refine afQ (by kernel_rfl) ?_
 refine Tryz.Ze ?_
 unfold Tryz.qe
 have S:=St.start hr
 refine S.box fun b3 w1 S=>?_
 refine S.box fun b4 w2 S=>?_
 refine zs (n:=10) (c:=c2) hc2 (fun j v hj=>by rw [Nat.zero_add,(S.at hb2).cell];exact hj) ?_
 refine S.ldB (b:=b3) ?_ hc
 obtain ⟨t1,ok,hop⟩ : ∃ t1 ok,zF u.ss g.tys o=(t1,ok):=⟨_,_,rfl⟩
 rw [hop] at h
 refine xV S.holds hx hf ho hop fun q1 cap1 w3 e3 ht1=>?_
 have S:=S.go e3
 refine gP_ ?_
 refine gP_ ?_
 refine S.al fun b6 w4 S=>?_
 refine S.stB (b:=b6) fun w5 S=>?_
 refine zn (c:=zU yX t1 t) (fun _ K2 hK2=>?_) fun w9 e9=>h _ (S.go e9).ext
 refine S.ldB (b:=b6) ?_ rfl
 refine S.ldB (b:=b4) ?_ rfl
 exact yY S.holds ht1 ht fun w9 e9=>hK2 _ e9
theorem YG {ss : List StD} {tys : List TyD} {o : OpD} {l : List OpD} {t : TyD} {r : List TyD} : y9 ss tys (o::l) (t::r)=(((zF ss tys o).2&&zU yX (zF ss tys o).1 t)&&y9 ss tys l r):=rfl
theorem Vo {ss : List StD} {tys : List TyD} : ∀ {l : List OpD} {r : List TyD},l.length≠r.length→y9 ss tys l r=false
 |[],[],h=>absurd rfl h
 |[],_::_,_=>rfl
 |_::_,[],_=>rfl
 |o::l,t::r,h=>by rw [YG,Vo (by simpa using h),Bool.and_false]
theorem TysG.up {s t : Gh} {q : Option Addr} {ts : List TyD} (h : TysG s q ts) [l : Le s t] : TysG t q ts:=fun i hi=>by
 obtain ⟨b,off,c,h1,h2,h3,h4⟩:=h i hi
 exact ⟨b,off,c,h1,h2,fun j v hj=>(h3 j v hj).up,h4.up⟩
theorem abE {r : Gh} {q : Option Addr} {n cap : Nat} {ts : List TyD} (h : SlG 5 r (TyC r) (.slice q n cap) ts) : TysG r q ts:=fun i hi=>by
 obtain ⟨b,off,c,h1,h2,h3,h4⟩:=h.get (by decide) hi
 exact ⟨b,off,c,h1,h2,h4,h3⟩
theorem adG {top : Gh} {gs : Nat→Gh} {q : Option Addr} {ts : List TyD} (h : ae6 top gs q ts) : TysG (top.or (un gs 0 ts.length)) q ts:=fun i hi=>by
 obtain ⟨b,off,c,h1,h2,h3,h4,_⟩:=h.at' i hi
 exact ⟨b,off,c,h1,h2,fun j v hj=>(h3 j v hj).up,TyG.up h4 (l:=⟨fun b o hb=>.inr ⟨i,Nat.zero_le _,hi,hb⟩⟩)⟩
theorem TysG.sub {s : Gh} {q : Option Addr} {ts : List TyD} (h : TysG s q ts) {a n cap : Nat} (hc : ts.length≤cap) : TysG s (if cap=a then q else q.map (·.add (a*5))) ((ts.drop a).take n):=fun i hi=>by
 rw [List.length_take,List.length_drop] at hi
 obtain ⟨b,off,c,h1,h2,h3,h4⟩:=h (a+i) (by omega)
 refine ⟨b,off+a*5,c,?_,h2,fun j v hj=>?_,?_⟩
 ·rw [if_neg (by omega),h1,Option.map_some,xC]
 ·have:=h3 j v hj
  rwa [show off+(a+i)*5+j=off+a*5+i*5+j by omega] at this
 ·rw [List.getElem_take,List.getElem_drop];exact h4
theorem Vp {u : UnD} {g : GrD} {p : PtD} {l : List TyD} {b2 b3 : Nat} {c2 c3 : List Value} {ql : Option Addr} {capl : Nat} {w : World} {r : Gh} {K : Value→World→Prop} (hr : Holds r w) (hb2 : Ob r fun w=>Blk w b2 c2 117) (hb3 : Ob r fun w=>Blk w b3 c3 44) (hx : AskG r (.agg c2.toArray) u g)
  (hc2 : c2.length=10) (hf : ZP u.ss g.tys) (hp : PtG r c3 p) (hl : TysG r ql l)
  (h : ∀ w',Ext w w'→K (.bool (y9 u.ss g.tys p.args l)) w') :
  zO Tryz.prog (.func (.func Tryz.qU) #[] #[.pointer (some ⟨b3,0,none⟩),.pointer (some ⟨b2,0,none⟩)]) #[.slice ql l.length capl] w K:=by
 refine V2 (by kernel_rfl) ?_
 refine Tryz.Z0 ?_
 unfold Tryz.qY
 obtain ⟨vt,va,vb,va',vf,rfl,h1,h2,h3,h4,h5⟩:=hp
 obtain ⟨qa,capa,rfl,_,_⟩:=h4.sl.shape
 have S:=St.start hr
 have hlen:=h4.lt
 refine gP_ ?_
 refine zE (by rw [(S.at hb3).cell];rfl) ?_
 refine gP_ ?_
 refine Tryz.yu ?_
 unfold Tryz.zK
 refine gG_ ?_
 refine zg (fun hne=>?_) (fun heq=>?_)
 ·rw [Vo (by omega)] at h
  exact h _ S.ext
 have heq : p.args.length=l.length:=by omega
 refine gG_ ?_
 refine zk (ι:=Nat) (fun i=>[.int .i64 (i : Nat)]) (fun i w'=>i≤p.args.length∧y9 u.ss g.tys (p.args.drop i) (l.drop i)=y9 u.ss g.tys p.args l∧StX noX w r w' []) (fun i=>p.args.length - i) 0 rfl ⟨Nat.zero_le _,rfl,S⟩ ?_
 clear S
 rintro i d w1 ⟨hi,hd,S⟩ K6 hK6
 rw [List.getD_cons_zero]
 refine gP_ ?_
 refine zg (fun hlt=>?_) (fun hge=>?_)
 ·have hlt : i<p.args.length:=by omega
  have hlt2 : i<l.length:=by omega
  obtain ⟨ba,oa,ca,rfl,hca,hao,hac⟩:=h4.sl.get (by decide) hlt
  obtain ⟨bt,ot,ct,rfl,hct,htc,hto⟩:=hl i hlt2
  obtain ⟨q2,cap2,rfl,ht2⟩:=qZ hto
  rw [List.drop_eq_getElem_cons hlt,List.drop_eq_getElem_cons hlt2,YG] at hd
  refine gP_ ?_
  refine zs (n:=4) hca (fun j v hj=>by rw [Int.toNat_natCast];exact S.at (hac j v hj)) ?_
  refine S.al fun b8 w2 S=>?_
  obtain ⟨vq,hca',hlq⟩:=id hao
  subst hca'
  obtain ⟨qs,caps,rfl,_⟩:=hlq.sl.shape
  refine S.stB (b:=b8) fun w3 S=>?_
  refine gP_ ?_
  refine zs (n:=5) hct (fun j v hj=>by rw [Int.toNat_natCast];exact S.at (htc j v hj)) ?_
  refine S.al fun b9 w4 S=>?_
  refine S.stB (b:=b9) fun w5 S=>?_
  refine S.ldB (b:=b8) ?_ rfl
  refine S.ldB (b:=b9) ?_ rfl
  refine abo S.holds hb2 hx hc2 hf hao rfl ht2 fun w6 e6=>?_
  have S:=S.go e6
  refine gP_ ?_
  refine c_b (fun hno=>?_) (fun hy=>?_)
  ·have hno : ((zF u.ss g.tys p.args[i]).2&&zU yX (zF u.ss g.tys p.args[i]).1 l[i])=false:=by rw [← Bool.not_eq_true'];exact hno
   rw [hno,Bool.false_and] at hd
   rw [← hd] at h
   exact h _ S.ext
  ·have hy : ((zF u.ss g.tys p.args[i]).2&&zU yX (zF u.ss g.tys p.args[i]).1 l[i])=true:=by rw [← Bool.not_eq_false'];exact hy
   rw [hy,Bool.true_and] at hd
   refine gP_ ?_
   rw [show ((i : Int)+1)=((i+1 : Nat) : Int) by omega]
   exact hK6 (i+1) _ ⟨hlt,hd,S.to r |>.less (fun _ _ h=>h) (List.nil_sublist _)⟩ (by omega)
 ·have hie : i=p.args.length:=by omega
  rw [hie,List.drop_length,heq,List.drop_length] at hd
  rw [← hd] at h
  exact h _ S.ext
end Go.Proofs
end
section
end
section
namespace Go.Proofs
open Go.Sh
set_option maxRecDepth 100000
set_option linter.unusedSimpArgs false
set_option linter.unusedVariables false
theorem QH {f : Int→Bool} {fv : Value} {w : World} (hf : ∀ (x : Int) (K : Value→World→Prop),K (.bool (f x)) w→zO Tryz.prog fv #[.int .i64 x] w K) {p : Option Addr} {l : List Int} {cap : Nat} {K : Value→World→Prop}
  (hl : Sl w p (ints l)) (hb : l.length≤1000000000) (h : ∀ i : Int,(0≤i↔l.any f=true)→K (.int .i64 i) w) : zd Tryz.prog Tryz.yW #[.slice p l.length cap,fv] w K:=by
 refine Tryz.j7 ?_
 unfold Tryz.kn
 refine gP_ ?_
 refine zk (ι:=Nat) (fun i=>[.int .i64 i]) (fun i w'=>w'=w∧i≤l.length∧(l.take i).any f=false) (fun i=>l.length - i) 0 rfl ⟨rfl,Nat.zero_le _,by simp⟩ ?_
 rintro i d w' ⟨rfl,hi,hn⟩ K6 hK6
 simp only [List.getD_cons_zero]
 refine gP_ ?_
 refine zg (fun hlt=>?_) (fun hge=>?_)
 ·have hlt : i<l.length:=by omega
  obtain ⟨b,off,rfl,hc⟩:=hl.at (i:=i) (by rw [ke];exact hlt)
  refine gP_ ?_
  have hv : (ints l)[i]'(by rw [ke];exact hlt) = .int .i64 l[i]:=by simp [ints]
  rw [hv] at hc
  refine zE (by simpa using hc) ?_
  refine hf _ _ ?_
  have ht : (l.take (i+1)).any f=((l.take i).any f||f l[i]):=by
   rw [List.take_succ_eq_append_getElem hlt,List.any_append];simp only [List.any_cons,List.any_nil,Bool.or_false]
  refine c_b (fun hy=>?_) (fun hno=>?_)
  ·refine h _ ⟨fun _=>?_,fun _=>Int.natCast_nonneg _⟩
   exact List.any_eq_true.2 ⟨l[i],List.getElem_mem hlt,hy⟩
  ·refine gP_ ?_
   refine hK6 (i+1) _ ⟨rfl,hlt,?_⟩ (by omega)
   rw [ht,hn,hno];rfl
 ·have : i=l.length:=by omega
  subst this
  rw [List.take_length] at hn
  exact h _ ⟨fun h=>by omega,fun h=>by rw [hn] at h;cases h⟩
theorem Y5 {f : Int→Bool} {fv : Value} {w : World} (hf : ∀ (x : Int) (K : Value→World→Prop),K (.bool (f x)) w→zO Tryz.prog fv #[.int .i64 x] w K) {p : Option Addr} {l : List Int} {cap : Nat} {K : Value→World→Prop}
  (hl : Sl w p (ints l)) (hb : l.length≤1000000000) (h : K (.bool (l.any f)) w) : zd Tryz.prog Tryz.yC #[.slice p l.length cap,fv] w K:=by
 refine Tryz.jj ?_
 unfold Tryz.xH
 refine QH hf hl hb fun i hi=>?_
 refine gP_ ?_
 have e : decide (i≥0)=l.any f:=by
  by_cases hh : l.any f=true
  ·rw [hh];exact decide_eq_true (hi.2 hh)
  ·rw [Bool.eq_false_iff.2 hh];exact decide_eq_false fun h=>hh (hi.1 h)
 rw [e];exact h
end Go.Proofs
end
section
namespace Go.Proofs
open Go.Sh
set_option maxRecDepth 100000
set_option linter.unusedSimpArgs false
set_option linter.unusedVariables false
end Go.Proofs
end
section
namespace Go.Proofs
open Go.Sh
set_option linter.unusedVariables false
end Go.Proofs
end
section
namespace Go.Proofs
open Go.Sh
set_option linter.unusedVariables false
def yq (f : Nat→Nat→Bool) : List Value:=(List.range 64).map fun k=>.bool (f (k / 8) (k % 8))
theorem Zp {f : Nat→Nat→Bool} : (yq f).length=64:=by rw [yq,List.length_map,List.length_range]
theorem J3 {f : Nat→Nat→Bool} {k : Nat} (h : k<64) : (yq f)[k]? = some (.bool (f (k / 8) (k % 8))):=by
 rw [yq,List.getElem?_map,List.getElem?_range h];rfl
theorem adH {f : Nat→Nat→Bool} {x y : Nat} (hx : x<8) (hy : y<8) : (yq f)[x*8+y]? = some (.bool (f x y)):=by
 rw [J3 (by omega),show (x*8+y) / 8=x by omega,show (x*8+y) % 8=y by omega]
theorem kg {f g : Nat→Nat→Bool} (h : ∀ x y,x<8→y<8→f x y=g x y) : yq f=yq g:=by
 refine List.map_congr_left fun k hk=>?_
 have:=List.mem_range.1 hk
 rw [h _ _ (by omega) (by omega)]
theorem aaQ {f : Nat→Nat→Bool} {x y : Nat} (hx : x<8) (hy : y<8) : (yq f).set (x*8+y) (.bool true)=yq fun a b=>f a b||(decide (a=x)&&decide (b=y)):=by
 refine List.ext_getElem? fun k=>?_
 by_cases hk : k<64
 ·rw [List.getElem?_set,J3 hk,J3 hk]
  by_cases e : x*8+y=k
  ·rw [if_pos e,if_pos (by rw [Zp];omega)]
   subst e
   rw [show (x*8+y) / 8=x by omega,show (x*8+y) % 8=y by omega];simp
  ·rw [if_neg e]
   by_cases e1 : k / 8=x
   ·rw [decide_eq_false (show ¬ k % 8=y by omega),Bool.and_false,Bool.or_false]
   ·rw [decide_eq_false e1,Bool.false_and,Bool.or_false]
 ·rw [List.getElem?_eq_none (by rw [List.length_set,Zp];omega),List.getElem?_eq_none (by rw [Zp];omega)]
theorem acV {x y : Int} {a : Int} {l : List Int} : jq x y (a::l)=((decide (a=y)&&l.contains x)||jq x y l):=rfl
theorem adI {l : List Int} {i : Nat} {x : Int} (h : i<l.length) : (l.take (i+1)).contains x=((l.take i).contains x||decide (x=l[i])):=by
 rw [List.take_succ_eq_append_getElem h,List.contains_eq_any_beq,List.any_append,← List.contains_eq_any_beq]
 simp only [List.any_cons,List.any_nil,Bool.or_false]
 congr 1
theorem acW {x y : Int} {l : List TyD} {i : Nat} (h : i<l.length) : qI (l.take (i+1)) x y=(qI (l.take i) x y||jq x y (zV l[i])):=by
 rw [List.take_succ_eq_append_getElem h,qI,List.any_append,qI]
 simp only [List.any_cons,List.any_nil,Bool.or_false]
theorem acX {x y : Int} {l : List (Int × Int)} {i : Nat} (h : i<l.length) : jr (l.take (i+1)) x y=(jr (l.take i) x y||(decide (x=l[i].1)&&decide (y=l[i].2))):=by
 rw [jr,List.take_succ_eq_append_getElem h,List.contains_eq_any_beq,List.any_append,← List.contains_eq_any_beq,← jr]
 simp only [List.any_cons,List.any_nil,Bool.or_false]
 congr 1
def jJ (lv : Int) : Option (Int × Int)→List (Int × Int)→Bool
 |_,[]=>true
 |w,o::l=>(xb lv o&&(match w with|none=>true|some w=>js w o))&&jJ lv (some o) l
theorem Vq (lv : Int) : ∀ (l : List (Int × Int)) (w : Int × Int),jJ lv (some w) l=(l.all (xb lv)&&ZO (w::l))
 |[],w=>rfl
 |o::l,w=>by
  rw [jJ,Vq lv l o,List.all_cons,ZO]
  cases xb lv o<;>cases js w o<;>cases l.all (xb lv)<;>simp
theorem acY (lv : Int) (l : List (Int × Int)) : jJ lv none l=(l.all (xb lv)&&ZO l):=by
 cases l with
 |nil=>rfl
 |cons o l=>
  rw [jJ,Vq lv l o,List.all_cons]
  cases xb lv o<;>cases l.all (xb lv)<;>simp
theorem aev {lv : Int} {w : Option (Int × Int)} {l : List (Int × Int)} {i : Nat} (h : i<l.length) : jJ lv w (l.drop i)=((xb lv l[i]&&(match w with|none=>true|some w=>js w l[i]))&&jJ lv (some l[i]) (l.drop (i+1))):=by
 rw [List.drop_eq_getElem_cons h];rfl
theorem afa {o w : Int × Int} : (decide (o.1<w.1)||(decide (w.1=o.1)&&decide (o.2≤w.2))) = !js w o:=by
 unfold js
 rcases Int.lt_trichotomy o.1 w.1 with h|h|h
 ·rw [decide_eq_true h,decide_eq_false (show ¬ w.1<o.1 by omega),decide_eq_false (show ¬ w.1=o.1 by omega)];rfl
 ·rw [decide_eq_false (show ¬ o.1<w.1 by omega),decide_eq_false (show ¬ w.1<o.1 by omega),decide_eq_true (show w.1=o.1 by omega)]
  by_cases h2 : o.2≤w.2
  ·rw [decide_eq_true h2,decide_eq_false (show ¬ w.2<o.2 by omega)];rfl
  ·rw [decide_eq_false h2,decide_eq_true (show w.2<o.2 by omega)];rfl
 ·rw [decide_eq_false (show ¬ o.1<w.1 by omega),decide_eq_true (show w.1<o.1 by omega),decide_eq_false (show ¬ w.1=o.1 by omega)];rfl
theorem ab4 {n i : Nat} (h : i<n) : (List.range n).drop i=i::(List.range n).drop (i+1):=by
 rw [List.drop_eq_getElem_cons (by rwa [List.length_range]),List.getElem_range]
theorem XB {n i : Nat} {f : Nat→Bool} (h : i<n) : ((List.range n).drop i).all f=(f i&&((List.range n).drop (i+1)).all f):=by rw [ab4 h,List.all_cons]
theorem XC {n : Nat} {f : Nat→Bool} : ((List.range n).drop n).all f=true:=by rw [List.drop_of_length_le (by rw [List.length_range];exact Nat.le_refl _)];rfl
theorem Vr {u : UnD} {g : GrD} {i : Nat} {t : TyD} {l : List TyD} : yZ u g i (t::l)=(tyG u g i t&&yZ u g (i+1) l):=rfl
theorem acZ {u : UnD} {g : GrD} {i j : Nat} {l : List TyD} (h : i<l.length) : yZ u g j (l.drop i)=(tyG u g j l[i]&&yZ u g (j+1) (l.drop (i+1))):=by rw [List.drop_eq_getElem_cons h];rfl
theorem QJ {u : UnD} {g : GrD} : ∀ {l : List TyD} {i : Nat},yZ u g i l=true→∀ t ∈ l,xU u.ss t=true
 |[],i,_,t,ht=>by cases ht
 |x::l,i,h,t,ht=>by
  rw [Vr,Bool.and_eq_true] at h
  rcases List.mem_cons.1 ht with rfl|ht
  ·have:=h.1
   rw [tyG,Bool.and_eq_true] at this
   exact this.1
  ·exact QJ h.2 t ht
theorem aaR {u : UnD} {g : GrD} : ∀ {l : List TyD} {i : Nat},yZ u g i l=true→∀ {j : Nat} (hj : j<l.length),((i+j : Nat) : Int)≤g.pn→∀ x ∈ zV l[j],0≤x∧x<g.lv
 |[],i,_,j,hj,_=>absurd hj (Nat.not_lt_zero _)
 |y::l,i,h,j,hj,hle=>by
  rw [Vr,Bool.and_eq_true] at h
  cases j with
  |zero=>
   have:=h.1
   rw [tyG,Bool.and_eq_true,List.all_eq_true] at this
   intro x hx
   have:=this.2 x hx
   rw [if_pos (by omega)] at this
   simp only [Bool.not_eq_true',Bool.or_eq_false_iff,decide_eq_false_iff_not] at this
   omega
  |succ j=>exact aaR h.2 (j:=j) (by simpa using hj) (by omega)
theorem Jo {l : List PtD} {i : Nat} (h : i<l.length) : yf (l.take (i+1))=yf (l.take i)+(if l[i].op=4 then 1 else 0):=by
 rw [List.take_succ_eq_append_getElem h,yf,List.countP_append,yf]
 congr 1
 rw [List.countP_singleton]
 by_cases e : l[i].op=4<;>simp [e]
end Go.Proofs
end
section
namespace Go.Proofs
open Go.Sh
set_option maxRecDepth 100000
set_option linter.unusedSimpArgs false
set_option linter.unusedVariables false
theorem Sl.tail {w : World} {p : Option Addr} {a : Int} {l : List Int} {cap : Nat} (h : Sl w p (ints (a::l))) (hc : (a::l).length≤cap) : Sl w (if cap=(1 : Int).toNat then p else p.map (·.add ((1 : Int).toNat*1))) (ints l):=fun i v hv=>by
 have h1:=h (i+1) v (by simpa [ints] using hv)
 have hi : i<l.length:=by
  have:=(List.getElem?_eq_some_iff.1 hv).1
  rwa [ke] at this
 obtain ⟨b,off,hp,hcell⟩:=h1
 rw [List.length_cons] at hc
 rw [if_neg (show ¬ cap=(1 : Int).toNat by have : (1 : Int).toNat=1:=rfl;omega),hp,Option.map_some,xC]
 exact ⟨b,off+1,rfl,by rwa [show off+1+i=off+(i+1) by omega]⟩
abbrev fvI (b3 b4 : Nat) : Value:=.func (.func Tryz.vw) #[] #[.pointer (some ⟨b3,0,none⟩),.pointer (some ⟨b4,0,none⟩)]
abbrev ab5 (f : Nat→Nat→Bool) (l : List Int) : Nat→Nat→Bool:=fun x y=>f x y||jq x y l
abbrev J4 (f : Nat→Nat→Bool) (a : Int) (l : List Int) : Nat→Nat→Bool:=fun x y=>f x y||(decide (a=(y : Int))&&l.contains (x : Int))
theorem abp {b3 b4 bt : Nat} {M : List Asr} {w0 : World} {r : Gh} : ∀ (l : List Int) {p : Option Addr} {cap : Nat} {f : Nat→Nat→Bool} {w : World} {K : Value→World→Prop},(∀ x ∈ l,0≤x∧x<8)→(Ob r fun w=>Sl w p (ints l))→l.length≤cap→l.length≤1000→
  StX noX w0 r w (.cell b4 [fvI b3 b4] 126 :: .cell b3 [.pointer (some ⟨bt,0,none⟩)] 210 :: .cell bt (yq f) 208::M)→
  (∀ w',StX noX w0 r w' (.cell b4 [fvI b3 b4] 126 :: .cell b3 [.pointer (some ⟨bt,0,none⟩)] 210 :: .cell bt (yq (ab5 f l)) 208::M)→K (.tuple #[]) w')→
  zO Tryz.prog (fvI b3 b4) #[.slice p l.length cap] w K:=by
 intro l
 induction l with
 |nil=>
  intro p cap f w K hx hl hc hb S h
  refine V2 (by kernel_rfl) ?_
  refine Tryz.jZ ?_
  unfold Tryz.qj
  refine gP_ ?_
  refine gP_ ?_
  refine c_t (by simp) ?_
  refine h _ ?_
  rw [kg (g:=f) (fun x y _ _=>by show (f x y||jq x y [])=f x y;rw [jq,Bool.or_false])]
  exact S
 |cons a l ih=>
  intro p cap f w K hx hl hc hb S h
  refine V2 (by kernel_rfl) ?_
  refine Tryz.jZ ?_
  unfold Tryz.qj
  obtain ⟨ha0,ha8⟩:=hx a List.mem_cons_self
  have hxl : ∀ x ∈ l,0≤x∧x<8:=fun x h=>hx x (List.mem_cons_of_mem _ h)
  have hal : (a::l).length=l.length+1:=List.length_cons
  have hll : l.length≤1000:=by rw [List.length_cons] at hb;omega
  have hlc : l.length+1≤cap:=by rwa [List.length_cons] at hc
  have hsl : Ob r fun w=>Sl w (if cap=(1 : Int).toNat then p else p.map (·.add ((1 : Int).toNat*1))) (ints l):=fun w k=>Sl.tail (hl w k) hc
  have hlen : (a::l).length - (1 : Int).toNat=l.length:=by simp
  obtain ⟨bp,op,rfl,hcell⟩:=JU (S.at hl) (i:=0) (by simp)
  refine gP_ ?_
  refine gP_ ?_
  refine c_f (by rw [List.length_cons];exact decide_eq_false (by omega)) ?_
  refine gP_ ?_
  rw [hlen]
  refine gP_ ?_
  obtain ⟨p2,hp2⟩ : ∃ p2,(if cap=(1 : Int).toNat then (some ⟨bp,op,none⟩ : Option Addr) else (some ⟨bp,op,none⟩ : Option Addr).map (·.add ((1 : Int).toNat*1)))=p2:=⟨_,rfl⟩
  rw [hp2] at hsl ⊢
  refine zk (ι:=Nat) (fun i=>[.int .i64 (i : Nat)]) (fun i w'=>i≤l.length∧StX noX w0 r w' (.cell b4 [fvI b3 b4] 126 :: .cell b3 [.pointer (some ⟨bt,0,none⟩)] 210 :: .cell bt (yq (J4 f a (l.take i))) 208::M)) (fun i=>l.length - i) 0 rfl
   ⟨Nat.zero_le _,by
    rw [kg (f:=J4 f a (l.take 0)) (g:=f) (fun x y _ _=>by simp [J4])]
    exact S⟩ ?_
  clear S
  rintro i d w1 ⟨hi,S⟩ K6 hK6
  rw [List.getD_cons_zero]
  refine gP_ ?_
  refine zg (fun hlt=>?_) (fun hge=>?_)
  ·have hlt : i<l.length:=by omega
   obtain ⟨bq,oq,rfl,hcell2⟩:=JU (S.at hsl) hlt
   obtain ⟨hi0,hi8⟩:=hxl _ (List.getElem_mem hlt)
   have S:=S.go (Ext.drew _)
   refine gP_ ?_
   refine zE (v:=.int .i64 l[i]) (by simpa using hcell2) ?_
   refine S.ld (b:=b3) ?_ rfl
   refine gP_ ?_
   have hc0:=(S.at hl 0 (.int .i64 a) (by simp [ints]))
   refine zE (v:=.int .i64 a) (by obtain ⟨b',o',h1,h2⟩:=hc0;cases h1;simpa using h2) ?_
   refine gG_ ?_
   refine S.st (b:=bt) (fun w2 S=>?_) (by rw [Zp];omega)
   refine gP_ ?_
   rw [show ((i : Int)+1)=((i+1 : Nat) : Int) by omega]
   refine hK6 (i+1) _ ⟨hlt,?_⟩ (by omega)
   rw [show 0+l[i].toNat*8+a.toNat*1=l[i].toNat*8+a.toNat by omega,aaQ (by omega) (by omega)] at S
   rw [kg (f:=J4 f a (l.take (i+1))) (g:=fun x y=>J4 f a (l.take i) x y||(decide (x=l[i].toNat)&&decide (y=a.toNat))) (fun x y _ _=>by
    show (f x y||(decide (a=(y : Int))&&(l.take (i+1)).contains (x : Int)))=((f x y||(decide (a=(y : Int))&&(l.take i).contains (x : Int)))||(decide (x=l[i].toNat)&&decide (y=a.toNat)))
    rw [adI hlt,show decide ((x : Int)=l[i])=decide (x=l[i].toNat) from decide_eq_decide.2 (by omega),show decide (a=(y : Int))=decide (y=a.toNat) from decide_eq_decide.2 (by omega)]
    cases f x y<;>cases decide (y=a.toNat)<;>cases (l.take i).contains (x : Int)<;>cases decide (x=l[i].toNat)<;>rfl)]
   exact S
  ·have hie : i=l.length:=by omega
   rw [hie,List.take_length] at S
   have S:=S.go (Ext.drew _)
   refine S.ld (b:=b4) ?_ rfl
   refine gP_ ?_
   rw [hlen,hp2]
   refine ih hxl hsl (by show l.length≤cap - (1 : Int).toNat;have : (1 : Int).toNat=1:=rfl;omega) hll S fun w2 S=>?_
   refine h _ ?_
   rw [kg (f:=ab5 f (a::l)) (g:=ab5 (J4 f a l) l) (fun x y _ _=>by
    show (f x y||jq x y (a::l))=((f x y||(decide (a=(y : Int))&&l.contains (x : Int)))||jq x y l)
    rw [acV,Bool.or_assoc])]
   exact S
abbrev QK (f : Nat→Nat→Bool) (l : List TyD) : Nat→Nat→Bool:=fun x y=>f x y||qI l x y
theorem Jp {bt : Nat} {M : List Asr} {w0 : World} {r : Gh} {l : List TyD} {q : Option Addr} {cap : Nat} {f : Nat→Nat→Bool} {w : World} {K : Value→World→Prop} (hl : TysG r q l) (hn : l.length≤maxLen) (hx : ∀ t ∈ l,∀ x ∈ zV t,0≤x∧x<8)
  (S : StX noX w0 r w (.cell bt (yq f) 208::M))
  (h : ∀ w',StX noX w0 r w' (.cell bt (yq (QK f l)) 208::M)→K (.tuple #[]) w') : zd Tryz.prog Tryz.jh #[.slice q l.length cap,.pointer (some ⟨bt,0,none⟩)] w K:=by
 refine Tryz.Qv ?_
 unfold Tryz.ZF
 have hn' : l.length≤9223372036854775807:=hn
 refine S.box fun b3 w1 S=>?_
 refine S.al fun b4 w2 S=>?_
 refine gP_ ?_
 refine S.st (b:=b4) fun w3 S=>?_
 refine gP_ ?_
 refine zk (ι:=Nat) (fun i=>[.int .i64 (i : Nat)]) (fun i w'=>i≤l.length∧StX noX w0 r w' (.cell b4 [fvI b3 b4] 126 :: .cell b3 [.pointer (some ⟨bt,0,none⟩)] 210 :: .cell bt (yq (QK f (l.take i))) 208::M)) (fun i=>l.length - i) 0 rfl
  ⟨Nat.zero_le _,by
   rw [kg (f:=QK f (l.take 0)) (g:=f) (fun x y _ _=>by simp [QK,qI])]
   exact S⟩ ?_
 clear S
 rintro i d w4 ⟨hi,S⟩ K6 hK6
 rw [List.getD_cons_zero]
 refine gP_ ?_
 refine zg (fun hlt=>?_) (fun hge=>?_)
 ·have hlt : i<l.length:=by omega
  obtain ⟨b1,o1,c1,rfl,hc1,htc,hto⟩:=hl i hlt
  obtain ⟨q2,cap2,rfl,ht2⟩:=qZ hto
  refine gP_ ?_
  refine zs (n:=5) hc1 (fun j v hj=>by rw [Int.toNat_natCast];exact S.at (htc j v hj)) ?_
  refine S.al fun b6 w5 S=>?_
  refine S.stB (b:=b6) fun w6 S=>?_
  have S:=S.go (Ext.drew _)
  refine S.ld (b:=b4) ?_ rfl
  refine S.ldB (b:=b6) ?_ rfl
  refine jk S.holds ht2 fun v7 w7 e7 o7=>⟨e7,?_⟩
  obtain ⟨s1,p1,cap1,n1,nb1,rfl,_,hc1,hs1⟩:=ae0 o7
  have S:=S.new e7 n1
  have S:=S.drop b6
  have hr48 : (zV l[i]).length≤1000:=by
   rw [zV];split
   ·have:=Vf (by assumption);omega
   ·simp
  refine abp (zV l[i]) (fun x h=>hx _ (List.getElem_mem hlt) x h) hs1.up hc1 hr48 S fun w8 S=>?_
  refine gP_ ?_
  rw [show ((i : Int)+1)=((i+1 : Nat) : Int) by omega]
  refine hK6 (i+1) _ ⟨hlt,?_⟩ (by omega)
  have S:=S.to r
  rw [kg (f:=QK f (l.take (i+1))) (g:=ab5 (QK f (l.take i)) (zV l[i])) (fun x y _ _=>by
   show (f x y||qI (l.take (i+1)) x y)=((f x y||qI (l.take i) x y)||jq x y (zV l[i]))
   rw [acW hlt,Bool.or_assoc])]
  exact S
 ·have hie : i=l.length:=by omega
  rw [hie,List.take_length] at S
  exact h _ S.tl.tl
end Go.Proofs
end
section
namespace Go.Proofs
open Go.Sh
set_option maxRecDepth 100000
set_option linter.unusedSimpArgs false
set_option linter.unusedVariables false
theorem TysG.take {s : Gh} {q : Option Addr} {ts : List TyD} (h : TysG s q ts) (n : Nat) : TysG s q (ts.take n):=fun i hi=>by
 rw [List.length_take] at hi
 obtain ⟨b,off,c,h1,h2,h3,h4⟩:=h i (by omega)
 refine ⟨b,off,c,h1,h2,h3,?_⟩
 rw [List.getElem_take];exact h4
theorem XD {f : Nat→Nat→Bool} {a b : Nat} (ha : a<8) (hb : b<8) : (yq f)[0+((a : Nat) : Int).toNat*8+((b : Nat) : Int).toNat*1]? = some (.bool (f a b)):=by
 rw [show 0+((a : Nat) : Int).toNat*8+((b : Nat) : Int).toNat*1=a*8+b by omega]
 exact adH ha hb
abbrev syF (l : List (Int × Int)) : Nat→Nat→Bool:=fun x y=>jr l (x : Int) (y : Int)
abbrev muF (l : List TyD) : Nat→Nat→Bool:=fun x y=>qI l (x : Int) (y : Int)
def clH (sy : Nat→Nat→Bool) (a b c : Nat) : Bool:=!((sy a b&&sy b c)&&(!decide (a=c) && !sy a c))
def clG (n : Nat) (mu sy : Nat→Nat→Bool) (a b : Nat) : Bool:=(List.range n).all (clH sy a b) && !(!decide (a=b)&&(mu a b && !sy a b))
def clF (n : Nat) (mu sy : Nat→Nat→Bool) (a : Nat) : Bool:=(List.range n).all (clG n mu sy a)
theorem aew (n : Nat) (l : List TyD) (o : List (Int × Int)) : V4 n (qI l) (jr o)=(List.range n).all (clF n (muF l) (syF o)):=by
 unfold V4 clF clG clH;simp only [decide_not,Int.natCast_inj]
def jS (l : List (Int × Int)) (i : Nat) : Option (Int × Int):=if i=0 then none else l[i - 1]?
def adJ (w : Option (Int × Int)) (o : Int × Int) : Bool:=match w with|none=>true|some w=>js w o
theorem adK {lv : Int} {l : List (Int × Int)} {i : Nat} (h : i<l.length) : jJ lv (jS l i) (l.drop i)=((xb lv l[i]&&adJ (jS l i) l[i])&&jJ lv (jS l (i+1)) (l.drop (i+1))):=by
 rw [aev h,jS,jS,if_neg (Nat.succ_ne_zero i),Nat.add_sub_cancel,List.getElem?_eq_getElem h];rfl
set_option maxHeartbeats 2000000 in
theorem QL {g : GrD} {c : List Value} {w : World} {r : Gh} {K : Value→World→Prop} (hr : Holds r w) (hg : GrG r c g) (hlv0 : 0≤g.lv) (hlv8 : g.lv≤8) (hpn0 : 0≤g.pn) (hpn1 : g.pn<g.tys.length)
  (hx : ∀ t ∈ g.tys.take (g.pn.toNat+1),∀ x ∈ zV t,0≤x∧x<8) (h : ∀ w',Ext w w'→K (.bool (jt g)) w') : zd Tryz.prog Tryz.qJ #[.agg c.toArray] w K:=by
 obtain ⟨vo,vt,vn,vp,rfl,h1,h2,h3,h4⟩:=hg
 obtain ⟨qo,capo,rfl,_,_⟩:=h1.sl.shape
 obtain ⟨qt,capt,rfl,_,hct⟩:=h2.sl.shape
 obtain ⟨qn,capn,rfl,_,_⟩:=h3.sl.shape
 obtain ⟨qp,capp,rfl,_,_⟩:=h4.sl.shape
 have hol : g.outs.length≤9223372036854775807:=h1.few
 have htl : g.tys.length≤9223372036854775807:=h2.few
 refine Tryz.XZ ?_
 unfold Tryz.Zd
 have S:=St.start hr
 refine S.box fun b1 w1 S=>?_
 refine S.al fun b3 w2 S=>?_
 refine S.al fun b4 w3 S=>?_
 have S : StX noX w r w3 (.cell b3 (yq fun _ _=>false) 208 :: [.cell b4 (yq fun _ _=>false) 208,.cell b1 [.string g.name,.int .i64 g.lv,.slice qo g.outs.length capo,.int .i64 g.pn,.slice qt g.tys.length capt,.slice qn g.nms.length capn,.slice qp g.pts.length capp] 33]):=S.swap
 refine gG_ ?_
 rw [show (g.pn+1).toNat=(g.tys.take (g.pn.toNat+1)).length by rw [List.length_take];omega]
 refine Jp (l:=g.tys.take (g.pn.toNat+1)) ((abE h2.sl).take _) (by rw [List.length_take];have:=h2.few;omega) hx S fun w4 S=>?_
 have S : StX noX w r w4 ([.cell b3 (yq (muF (g.tys.take (g.pn.toNat+1)))) 208,.cell b4 (yq fun _ _=>false) 208,.cell b1 [.string g.name,.int .i64 g.lv,.slice qo g.outs.length capo,.int .i64 g.pn,.slice qt g.tys.length capt,.slice qn g.nms.length capn,.slice qp g.pts.length capp] 33]):=by
  rw [kg (f:=muF (g.tys.take (g.pn.toNat+1))) (g:=QK (fun _ _=>false) (g.tys.take (g.pn.toNat+1))) (fun x y _ _=>(Bool.false_or _).symm)]
  exact S
 rw [jt,← acY,aew] at h
 generalize hmu : muF (g.tys.take (g.pn.toNat+1))=mu at h S
 refine gG_ ?_
 refine zk (ι:=Nat) (fun i=>[.int .i64 (i : Nat)]) (fun i w'=>i≤g.outs.length∧jJ g.lv (jS g.outs i) (g.outs.drop i)=jJ g.lv none g.outs∧
  StX noX w r w' ([.cell b3 (yq mu) 208,.cell b4 (yq (syF (g.outs.take i))) 208,.cell b1 [.string g.name,.int .i64 g.lv,.slice qo g.outs.length capo,.int .i64 g.pn,.slice qt g.tys.length capt,.slice qn g.nms.length capn,.slice qp g.pts.length capp] 33])) (fun i=>g.outs.length - i) 0 rfl
  ⟨Nat.zero_le _,rfl,by
   rw [kg (f:=syF (g.outs.take 0)) (g:=fun _ _=>false) (fun x y _ _=>by simp [syF,jr])]
   exact S⟩ ?_
 clear S
 rintro i d w5 ⟨hi,hd,S⟩ K6 hK6
 rw [List.getD_cons_zero]
 refine gP_ ?_
 refine zg (fun hlt=>?_) (fun hge=>?_)
 ·have hlt : i<g.outs.length:=by omega
  obtain ⟨bo,oo,co,rfl,hco,hoo,hoc⟩:=h1.sl.get (by decide) hlt
  obtain rfl : co=_:=hoo
  rw [adK hlt] at hd
  have hgo:=fun (j : Nat) (hj : j<g.outs.length)=>h1.sl.get (by decide) hj
  obtain ⟨⟨o1,o2⟩,ho⟩ : ∃ o,g.outs[i]=o:=⟨_,rfl⟩
  rw [ho] at hd
  have hst : syF (g.outs.take (i+1))=fun x y=>syF (g.outs.take i) x y||(decide ((x : Int)=o1)&&decide ((y : Int)=o2)):=by
   funext x y
   show jr _ _ _=(jr _ _ _||_)
   rw [acX hlt,ho]
  refine gP_ ?_
  refine zs (n:=2) hco (fun j v hj=>by rw [Int.toNat_natCast];exact S.at (hoc j v hj)) ?_
  rw [ho]
  refine S.al fun b6 w6 S=>?_
  refine S.stB (b:=b6) fun w7 S=>?_
  refine gG_ ?_
  refine zh (c:=decide (g.lv≤max o1 o2)) (fun _ K2 hK2=>?_) ?_
  ·refine gG_ ?_
   exact hK2
  refine zh (c:=decide (o1=o2)) (fun _ K2 hK2=>?_) ?_
  ·refine gG_ ?_
   exact hK2
  refine c_b (fun hbad=>?_) (fun hgood=>?_)
  ·have hin : xb g.lv (o1,o2)=false:=by rw [xb,hbad];rfl
   rw [hin,Bool.false_and,Bool.false_and] at hd
   rw [← hd,Bool.false_and] at h
   exact h _ S.ext
  have hin : xb g.lv (o1,o2)=true:=by rw [xb,hgood];rfl
  rw [hin,Bool.true_and] at hd
  have hrg : (0≤o1∧o1<8)∧(0≤o2∧o2<8):=by
   simp only [Bool.or_eq_false_iff,decide_eq_false_iff_not] at hgood;omega
  clear hgood hin
  obtain ⟨⟨ho10,ho18⟩,ho20,ho28⟩:=hrg
  refine zq (fun _ w'=>adJ (jS g.outs i) (o1,o2)=true∧StX noX w r w' ([.cell b6 [.int .i64 o1,.int .i64 o2] 101,.cell b3 (yq mu) 208,.cell b4 (yq (syF (g.outs.take i))) 208,.cell b1 [.string g.name,.int .i64 g.lv,.slice (some ⟨bo,oo,none⟩) g.outs.length capo,.int .i64 g.pn,.slice qt g.tys.length capt,.slice qn g.nms.length capn,.slice qp g.pts.length capp] 33])) (fun K9 hK9=>?_) ?_
  ·refine gP_ ?_
   refine zg (fun hpos=>?_) (fun hz=>?_)
   ·have hpos : 0<i:=by omega
    have hlt2 : i - 1<g.outs.length:=by omega
    obtain ⟨bo2,oo2,co2,hbe,hco2,hoo2,hoc2⟩:=h1.sl.get (by decide) hlt2
    obtain rfl : co2=_:=hoo2
    cases hbe
    have hpv : jS g.outs i=some g.outs[i - 1]:=by rw [jS,if_neg (by omega),List.getElem?_eq_getElem hlt2]
    rw [hpv] at hd hK9
    obtain ⟨⟨p1,p2⟩,hp⟩ : ∃ o,g.outs[i - 1]=o:=⟨_,rfl⟩
    rw [hp] at hd hK9
    refine gG_ ?_
    refine zs (n:=2) hco2 (fun j v hj=>by rw [show ((i : Int) - 1).toNat=i - 1 by omega];exact S.at (hoc2 j v hj)) ?_
    rw [hp]
    refine S.al fun b7 w8 S=>?_
    refine S.stB (b:=b7) fun w9 S=>?_
    refine gG_ ?_
    refine J2 (g:=decide (p1=o1)) (c:=decide (o2≤p2)) (fun _ K2 hK2=>?_) (fun _ K2 hK2=>?_) ?_
    ·refine gG_ ?_
     exact hK2
    ·refine gG_ ?_
     exact hK2
    rw [afa (o:=(o1,o2)) (w:=(p1,p2))]
    refine c_b (fun hb=>?_) (fun hb=>?_)
    ·have hb : js (p1,p2) (o1,o2)=false:=by simpa using hb
     rw [show adJ (some (p1,p2)) (o1,o2)=js (p1,p2) (o1,o2) from rfl,hb,Bool.false_and] at hd
     rw [← hd,Bool.false_and] at h
     exact h _ S.ext
    ·have hb : js (p1,p2) (o1,o2)=true:=by simpa using hb
     exact hK9 _ _ ⟨hb,S.drop b7⟩
   ·have hz : i=0:=by omega
    refine hK9 _ _ ⟨?_,S⟩
    rw [hz];rfl
  clear S
  rintro _ w10 ⟨haf,S⟩ d10
  have S:=S.go (Ext.drew _)
  rw [haf,Bool.true_and] at hd
  refine gG_ ?_
  refine S.st (b:=b4) (fun w11 S=>?_) (by rw [Zp];omega)
  refine gP_ ?_
  rw [show ((i : Int)+1)=((i+1 : Nat) : Int) by omega]
  refine hK6 (i+1) _ ⟨hlt,hd,?_⟩ (by omega)
  rw [show 0+o1.toNat*8+o2.toNat*1=o1.toNat*8+o2.toNat by omega,aaQ (by omega) (by omega)] at S
  rw [hst,kg (f:=fun x y=>syF (g.outs.take i) x y||(decide ((x : Int)=o1)&&decide ((y : Int)=o2))) (g:=fun x y=>syF (g.outs.take i) x y||(decide (x=o1.toNat)&&decide (y=o2.toNat))) (fun x y _ _=>by
   show (syF (g.outs.take i) x y||(decide ((x : Int)=o1)&&decide ((y : Int)=o2)))=(syF (g.outs.take i) x y||(decide (x=o1.toNat)&&decide (y=o2.toNat)))
   rw [show decide ((x : Int)=o1)=decide (x=o1.toNat) from decide_eq_decide.2 (by omega),show decide ((y : Int)=o2)=decide (y=o2.toNat) from decide_eq_decide.2 (by omega)])]
  exact S.drop b6
 have hie : i=g.outs.length:=by omega
 rw [hie,List.take_length] at S
 rw [hie,List.drop_length] at hd
 rw [← hd,show jJ g.lv (jS g.outs g.outs.length) []=true from by rw [jJ],Bool.true_and] at h
 clear hd hK6 K6 hie hge hi
 generalize hsy : syF g.outs=sy at h S
 obtain ⟨n,hn⟩ : ∃ n : Nat,g.lv.toNat=n:=⟨_,rfl⟩
 have hn8 : n≤8:=by omega
 have hlvn : g.lv=(n : Int):=by omega
 rw [hn] at h
 refine gG_ ?_
 refine zk (ι:=Nat) (fun i=>[.int .i64 (i : Nat)]) (fun i w'=>i≤n∧((List.range n).drop i).all (clF n mu sy)=(List.range n).all (clF n mu sy)∧
  StX noX w r w' ([.cell b3 (yq mu) 208,.cell b4 (yq sy) 208,.cell b1 [.string g.name,.int .i64 g.lv,.slice qo g.outs.length capo,.int .i64 g.pn,.slice qt g.tys.length capt,.slice qn g.nms.length capn,.slice qp g.pts.length capp] 33])) (fun i=>n - i) 0 rfl
  ⟨Nat.zero_le _,rfl,S⟩ ?_
 clear S
 rintro a d2 w12 ⟨ha,hda,S⟩ K7 hK7
 rw [List.getD_cons_zero,hlvn]
 refine gP_ ?_
 refine zg (fun hlta=>?_) (fun hgea=>?_)
 rotate_left
 ·have hae : a=n:=by omega
  rw [hae,XC] at hda
  rw [← hda] at h
  exact h _ S.ext
 have hlta : a<n:=by omega
 rw [XB hlta] at hda
 refine gG_ ?_
 refine zk (ι:=Nat) (fun i=>[.int .i64 (i : Nat)]) (fun i w'=>i≤n∧((List.range n).drop i).all (clG n mu sy a)=(List.range n).all (clG n mu sy a)∧
  StX noX w r w' ([.cell b3 (yq mu) 208,.cell b4 (yq sy) 208,.cell b1 [.string g.name,.int .i64 g.lv,.slice qo g.outs.length capo,.int .i64 g.pn,.slice qt g.tys.length capt,.slice qn g.nms.length capn,.slice qp g.pts.length capp] 33])) (fun i=>n - i) 0 rfl
  ⟨Nat.zero_le _,rfl,S⟩ ?_
 clear S
 rintro b d3 w13 ⟨hb,hdb,S⟩ K8 hK8
 rw [List.getD_cons_zero,hlvn]
 refine gP_ ?_
 refine zg (fun hltb=>?_) (fun hgeb=>?_)
 rotate_left
 ·have hbe : b=n:=by omega
  rw [hbe,XC] at hdb
  have hF : clF n mu sy a=true:=hdb.symm
  rw [hF,Bool.true_and] at hda
  refine gP_ ?_
  rw [show ((a : Int)+1)=((a+1 : Nat) : Int) by omega]
  exact hK7 (a+1) _ ⟨hlta,hda,S⟩ (by omega)
 have hltb : b<n:=by omega
 rw [XB hltb] at hdb
 refine gG_ ?_
 refine zk (ι:=Nat) (fun i=>[.int .i64 (i : Nat)]) (fun i w'=>i≤n∧((List.range n).drop i).all (clH sy a b)=(List.range n).all (clH sy a b)∧
  StX noX w r w' ([.cell b3 (yq mu) 208,.cell b4 (yq sy) 208,.cell b1 [.string g.name,.int .i64 g.lv,.slice qo g.outs.length capo,.int .i64 g.pn,.slice qt g.tys.length capt,.slice qn g.nms.length capn,.slice qp g.pts.length capp] 33])) (fun i=>n - i) 0 rfl
  ⟨Nat.zero_le _,rfl,S⟩ ?_
 clear S
 have hfalse : clG n mu sy a b=false→(List.range n).all (clF n mu sy)=false:=fun e=>by
  rw [e,Bool.false_and] at hdb
  have hF : clF n mu sy a=false:=hdb.symm
  rw [hF,Bool.false_and] at hda
  exact hda.symm
 rintro cc d4 w14 ⟨hc,hdc,S⟩ K9 hK9
 rw [List.getD_cons_zero,hlvn]
 refine gP_ ?_
 refine zg (fun hltc=>?_) (fun hgec=>?_)
 ·have hltc : cc<n:=by omega
  rw [XB hltc] at hdc
  refine gP_ ?_
  refine gP_ ?_
  refine S.ld (b:=b4) ?_ (XD (f:=sy) (by omega) (by omega))
  refine zi (c:=sy b cc) (fun _ K2 hK2=>?_) ?_
  ·refine gP_ ?_
   refine gP_ ?_
   refine S.ld (b:=b4) ?_ (XD (f:=sy) (by omega) (by omega))
   exact hK2
  refine zi (c:=decide (a≠cc)) (fun _ K2 hK2=>?_) ?_
  ·refine gP_ ?_
   rw [show decide ((a : Int)≠(cc : Int))=decide (a≠cc) from decide_eq_decide.2 (by omega)]
   exact hK2
  refine zi (c:=!sy a cc) (fun _ K2 hK2=>?_) ?_
  ·refine gP_ ?_
   refine gP_ ?_
   refine S.ld (b:=b4) ?_ (XD (f:=sy) (by omega) (by omega))
   refine gP_ ?_
   exact hK2
  have hH : clH sy a b cc = !(((sy a b&&sy b cc)&&decide (a≠cc)) && !sy a cc):=by
   rw [clH,Bool.and_assoc (sy a b&&sy b cc),decide_not]
  refine c_b (fun hbad=>?_) (fun hgood=>?_)
  ·rw [hH,hbad] at hdc
   have hA : (List.range n).all (clH sy a b)=false:=by rw [← hdc];rfl
   rw [hfalse (by rw [clG,hA,Bool.false_and])] at h
   exact h _ S.ext
  ·rw [hH,hgood,Bool.not_false,Bool.true_and] at hdc
   refine gP_ ?_
   rw [show ((cc : Int)+1)=((cc+1 : Nat) : Int) by omega]
   exact hK9 (cc+1) _ ⟨hltc,hdc,S⟩ (by omega)
 have hce : cc=n:=by omega
 rw [hce,XC] at hdc
 refine gP_ ?_
 refine zi (c:=mu a b) (fun _ K2 hK2=>?_) ?_
 ·refine gP_ ?_
  refine gP_ ?_
  refine S.ld (b:=b3) ?_ (XD (f:=mu) (by omega) (by omega))
  exact hK2
 refine zi (c:=!sy a b) (fun _ K2 hK2=>?_) ?_
 ·refine gP_ ?_
  refine gP_ ?_
  refine S.ld (b:=b4) ?_ (XD (f:=sy) (by omega) (by omega))
  refine gP_ ?_
  exact hK2
 have hG : clG n mu sy a b = !((decide ((a : Int)≠(b : Int))&&mu a b) && !sy a b):=by
  rw [clG,← hdc,Bool.true_and,Bool.and_assoc,show decide ((a : Int)≠(b : Int)) = !decide (a=b) from by rw [← decide_not];exact decide_eq_decide.2 (by omega)]
 refine c_b (fun hbad=>?_) (fun hgood=>?_)
 ·rw [hfalse (by rw [hG,hbad];rfl)] at h
  exact h _ S.ext
 ·rw [hG,hgood,Bool.not_false,Bool.true_and] at hdb
  refine gP_ ?_
  rw [show ((b : Int)+1)=((b+1 : Nat) : Int) by omega]
  exact hK8 (b+1) _ ⟨hltb,hdb,S⟩ (by omega)
end Go.Proofs
end
section
namespace Go.Sh
open Go.RowKit
theorem StX.stRowN {P : Program} {X : Nat→Prop} {w0 w : World} {r : Gh} {L : List Asr} {e t : TypeId} {sz n cap b i : Nat} {xs : List Value} {f : Asr→List Asr} {cs : Array Value} {K : World→Prop} (S : StX X w0 r w L)
  [h : kV (.slice (some ⟨b,0,none⟩) n cap) L e sz n xs f] [z : SzT P t sz] (hi : i<n) (k : ∀ w',StX X w0 r w' (f (.row (.slice (some ⟨b,0,none⟩) n cap) e sz n (xs.take (i*sz)++cs.toList++xs.drop (i*sz+sz))))→K w')
  (hcs : cs.size=sz:=by rfl) (h1 : ∀ u ∈ cs.toList,u.oneCell'=true:=by simp [Value.oneCell']) : opU P w (Instr.storeAt t (.pointer (some ⟨b,i*sz,none⟩)) (.agg cs)) K:=by
 obtain ⟨pp,qq,h2,h3⟩:=h.h
 have hr:=S.has (.row (.slice (some ⟨b,0,none⟩) n cap) e sz n xs) (by rw [h2];simp)
 rcases qQ hr with ⟨h0,_⟩|⟨g,cap',c,hv,hb,B,hn,hm,hc,ht⟩
 ·cases h0
 cases hv
 have hle : i*sz+sz≤n*sz:=by rw [← Nat.succ_mul];exact Nat.mul_le_mul_right _ hi
 have hle2 : n*sz≤cap*sz:=Nat.mul_le_mul_right _ hn
 refine XS (v:=.agg cs) (by rw [show (Value.agg cs).cells.size=sz from hcs];exact z.h) B (by rw [show (Value.agg cs).cells.size=sz from hcs];omega) h1 fun w' x _ B'=>k w' ?_
 rw [show (Value.agg cs).cells.size=sz from hcs,show (Value.agg cs).cells=cs from rfl] at B'
 rw [h3]
 rw [h2] at S
 refine S.turn (x:=.row (.slice (some ⟨b,0,none⟩) n cap) e sz n xs) (y:=.row (.slice (some ⟨b,0,none⟩) n cap) e sz n (xs.take (i*sz)++cs.toList++xs.drop (i*sz+sz))) ⟨x.os,x.tape,x.output,x.size,fun k hk hn=>x.block k hk fun he=>hn (by subst he;rfl)⟩ ?_ fun k hk=>.inl hk
 have hcl : cs.toList.length=sz:=by simpa using hcs
 have:=vH (base:=0) (size:=sz) (n:=n) (cap:=cap) (Nat.zero_le _) B' hn hm (by simp only [List.length_append,List.length_take,List.length_drop,hcl,hc];omega)
 have he : (c.take (i*sz)++cs.toList++c.drop (i*sz+sz)).take (n*sz)=xs.take (i*sz)++cs.toList++xs.drop (i*sz+sz):=by
  rw [← ht,List.take_take,Nat.min_eq_left (by omega),List.take_append,List.take_of_length_le (by simp only [List.length_append,List.length_take,hcl,hc];omega),List.drop_take]
  congr 2
  simp only [List.length_append,List.length_take,hcl,hc]
  omega
 rw [he] at this
 exact this
theorem StX.row0N {X : Nat→Prop} {w0 w : World} {r : Gh} {L : List Asr} {e : TypeId} {sz n cap : Nat} {p : Option Addr} {xs : List Value} {f : Asr→List Asr} (S : StX X w0 r w L)
  (_ : True) [h : kV (.slice p n cap) L e sz n xs f] (hn : n≠0) : ∃ b,p=some ⟨b,0,none⟩:=by
 obtain ⟨b,cap',c,hv,_⟩:=S.rowCell (.slice p n cap) hn
 cases hv
 exact ⟨b,rfl⟩
end Go.Sh
end
section
namespace Go.Proofs
open Go.Sh
set_option maxRecDepth 100000
set_option linter.unusedSimpArgs false
set_option linter.unusedVariables false
end Go.Proofs
end
section
namespace Go.Sh
open Go.RowKit Go.MapKept
set_option linter.unusedVariables false
def zr1 (P : Program) (t : TypeId) : Option Value:=(P.info? t).bind fun i=>i.zero
theorem ac0 {P : Program} {t : TypeId} {z : Value} (hz : zr1 P t=some z) (w : World) : (zeroValue t).run P w = .ok z w:=by
 unfold zr1 at hz
 cases hi : P.info? t with
 |none=>rw [hi] at hz;cases hz
 |some i=>
  rw [hi] at hz
  have hz : i.zero=some z:=hz
  simp [zeroValue,typeInfo,Sem.run,pure,hi,hz,Sem.run_bind,Result.andThen]
def mpT (P : Program) (t : TypeId) : Option (TypeId × TypeId):=match P.underlying t with
 |some (.map k e)=>(match P.underlying k with|some .string=>some (k,e)|_=>none)
 |_=>none
theorem aaS {P : Program} {t k e : TypeId} (h : mpT P t=some (k,e)) : P.underlying t=some (.map k e)∧P.underlying k=some .string:=by
 unfold mpT at h
 split at h
 ·rename_i k' e' h1
  split at h
  ·rename_i h2
   cases h;exact ⟨h1,h2⟩
  ·cases h
 ·cases h
def YH (x : ByteArray) : List MapEntry→Option Value
 |[]=>none
 |m::l=>match m.key with|.string s=>if x == s then some m.val else YH x l|_=>YH x l
def adL (l : List MapEntry) : Prop:=∀ m ∈ l,∃ s,m.key = .string s
theorem QM {x : ByteArray} : ∀ {l : List MapEntry} {i : Nat},adL l→∃ o,Instr.findNow .string (.string x) l i=some o∧o.map (·.2)=YH x l
 |[],i,_=>⟨none,rfl,rfl⟩
 |m::l,i,h=>by
  obtain ⟨s,hs⟩:=h m List.mem_cons_self
  cases hx : (x == s) with
  |true=>
   refine ⟨some (i,m.val),?_,?_⟩
   ·rw [Instr.findNow,hs]
    simp [Instr.sameNow,hx]
   ·rw [YH,hs];simp [hx]
  |false=>
   obtain ⟨o,h1,h2⟩:=QM (x:=x) (l:=l) (i:=i+1) fun y hy=>h y (List.mem_cons_of_mem _ hy)
   refine ⟨o,?_,?_⟩
   ·rw [Instr.findNow,hs]
    simp [Instr.sameNow,hx,h1]
   ·rw [h2,YH,hs];simp [hx]
theorem ac1 (x y : ByteArray) : (x == y)=(x.toList == y.toList):=by
 rw [show (x == y)=(x.data == y.data) by cases x;cases y;rfl,ByteArray.toList_eq,ByteArray.toList_eq,Bool.eq_iff_iff,beq_iff_eq,beq_iff_eq,Array.toList_inj]
section
variable {P : Program} {X : Nat→Prop} {w0 w : World} {r : Gh} {L : List Asr} {t k e : TypeId} {b c : Nat} {es : Array MapEntry}
theorem StX.addO (S : StX X w0 r w L) {w' : World} (ex : Ext w w') {o : Obj} (hb : w.heap.size≤b) (B : w'.heap[b]? = some o) (ho : Obj.isBook o=false) : StX X w0 r w' (.obj b (· = o)::L):=by
 have S':=S.go ex
 refine ⟨S'.x,S'.holds,?_,?_,.cons ?_ S'.apart⟩
 ·intro x hx;rcases List.mem_cons.1 hx with rfl|hx
  ·exact ⟨o,B,ho,rfl⟩
  ·exact S'.has x hx
 ·intro x hx;rcases List.mem_cons.1 hx with rfl|hx
  ·rintro k rfl
   exact ⟨.inl (by have:=S.x.size;omega),fun o ho=>by have:=S.holds.lt ho;omega⟩
  ·exact S'.mine x hx
 ·rintro y hy k rfl hk
  have:=Asr.lt (S.has y hy) hk;omega
theorem StX.mkMap (S : StX X w0 r w L) {K : Value→World→Prop} (h : ∀ b w',StX X w0 r w' (.obj b (· = .map #[] 0)::L)→K (.map (some b)) w') : opW P w (Instr.makeMap t none) K:=by
 refine ⟨.map (some w.heap.size),{ w with heap:=w.heap.push (.map #[] 0) },?_,h _ _ (S.addO ?_ (Nat.le_refl _) ?_ rfl)⟩
 ·simp [Instr.makeMap,newObj,Sem.run_bind,Sem.run,pure,Result.andThen]
  try rfl
 ·exact ⟨rfl,rfl,rfl,by simp,fun b hb=>by simp [Array.getElem?_push,Nat.ne_of_lt hb]⟩
 ·simp
theorem StX.mapAdd (S : StX X w0 r w (.obj b (· = .map es c)::L)) {x : ByteArray} {v : Value} (ht : mpT P t=some (k,e)) (hs : adL es.toList) (hn : YH x es.toList=none) {K : World→Prop}
  (h : ∀ w',StX X w0 r w' (.obj b (· = .map (es.push { key:=.string x,val:=v,born:=c }) (c+1))::L)→K w') : opU P w (Instr.mapUpdate t (.map (some b)) (.string x) v) K:=by
 obtain ⟨ht,hk⟩:=aaS ht
 obtain ⟨o,hb,_,rfl⟩:=S.has _ List.mem_cons_self
 obtain ⟨o,h1,h2⟩:=QM (x:=x) (i:=0) hs
 have h3 : o=none:=by
  rw [hn] at h2
  cases o with
  |none=>rfl
  |some y=>cases h2
 subst h3
 have hf:=run_findKey (w:=w) hk h1
 refine ⟨{ w with heap:=w.heap.setIfInBounds b (.map (es.push { key:=.string x,val:=v,born:=c }) (c+1)) },?_,h _ ?_⟩
 ·simp [Instr.mapUpdate,run_underlying ht,MapKept.run_getObj_map hb,run_checkKey (w:=w) hk (k:=.string x) trivial false 9999,hf,MapKept.run_setObj_map _ hb,Result.andThen]
 ·obtain ⟨e1,e2⟩:=heap_set hb (o':=.map (es.push { key:=.string x,val:=v,born:=c }) (c+1))
  exact S.turn (p:=[]) (x:=.obj b (· = .map es c)) (y:=.obj b (· = .map (es.push { key:=.string x,val:=v,born:=c }) (c+1))) ⟨rfl,rfl,rfl,by simp,fun k _ hk=>e2 k hk⟩ ⟨_,e1,rfl,rfl⟩ fun k hk=>.inl hk
theorem StX.mapGet (S : StX X w0 r w (.obj b (· = .map es c)::L)) {x : ByteArray} {z : Value} (ht : mpT P t=some (k,e)) (hz : zr1 P e=some z) (hs : adL es.toList) {K : Value→Prop} (h : K ((YH x es.toList).getD z)) :
  opQ P w (Instr.lookup t (.map (some b)) (.string x) false) K:=by
 obtain ⟨ht,hk⟩:=aaS ht
 obtain ⟨o,hb,_,rfl⟩:=S.has _ List.mem_cons_self
 obtain ⟨o,h1,h2⟩:=QM (x:=x) (i:=0) hs
 refine ⟨_,fun w' ex=>?_,h⟩
 have hb' : w'.heap[b]? = some (.map es c):=(ex.block b (Array.getElem?_eq_some_iff.1 hb).1).trans hb
 have hf:=run_findKey (w:=w') hk h1
 rw [← h2]
 cases o with
 |none=>simp [Instr.lookup,run_underlying ht,MapKept.run_getObj_map hb',run_checkKey (w:=w') hk (k:=.string x) trivial _ 9999,hf,ac0 hz,Result.andThen]
 |some y=>simp [Instr.lookup,run_underlying ht,MapKept.run_getObj_map hb',run_checkKey (w:=w') hk (k:=.string x) trivial _ 9999,hf,Result.andThen]
end
end Go.Sh
end
section
namespace Go.Proofs
open Go.Sh
set_option maxRecDepth 100000
set_option linter.unusedSimpArgs false
set_option linter.unusedVariables false
structure PaD where
 tt : TyD
 tm : Int
 tok : Bool
 ft : TyD
 fm : Int
 fok : Bool
 at' : TyD
 aok : Bool
 bt : TyD
 bok : Bool
noncomputable def ptH (u : UnD) (g : GrD) (p : PtD) (x : PaD) : Bool:=
 if p.op=1 then ((zG p { to:=true,a:=true } && (x.tok&&decide (x.tm<3)))&&x.aok)&&zU yX x.at' x.tt
 else if p.op=2 then
  (zG p { to:=true,a:=true,b:=true,sign:=true } && ((x.tok&&decide (x.tm<3))&&(x.aok&&x.bok))) &&
   (if xa p.sign [[43],[45],[42],[47],[37]] then isK x.tt 1&&(isK x.at' 1&&isK x.bt 1)
    else if xa p.sign [[60],[60,61],[62],[62,61]] then isK x.tt 2&&(isK x.at' 1&&isK x.bt 1)
    else if xa p.sign [[61,61],[33,61]] then isK x.tt 2&&((isK x.at' 1&&isK x.bt 1)||(isK x.at' 2&&isK x.bt 2)) else false)
 else if p.op=3 then
  ((zG p { to:=true,a:=true,sign:=true } && (x.tok&&decide (x.tm<3)))&&x.aok) &&
   (if xa p.sign [[45]] then isK x.tt 1&&isK x.at' 1 else if xa p.sign [[33]] then isK x.tt 2&&isK x.at' 2 else false)
 else if p.op=4 then
  ((((zG p { to:=true,fr:=true,mu:=true } && (x.tok&&decide (x.tm<3)))&&x.fok)&&isK x.tt 4)&&(x.tt.m == p.mu))&&(zU yX (x.tt.of.headD zL) x.ft && !(p.mu&&decide (x.fm=3)))
 else if p.op=5 then (((zG p { to:=true,a:=true } && (x.tok&&decide (x.tm<3)))&&x.aok)&&isK x.tt 3)&&zU yX (x.tt.of.headD zL) x.at'
 else if p.op=6 then
  (((zG p { to:=true,args:=true,st:=true } && (x.tok&&decide (x.tm<3)))&&isK x.tt 5)&&decide (x.tt.st=p.st))&&y9 u.ss g.tys p.args (xk u.ss x.tt).1
 else if p.op=7 then
  ((zG p { to:=true,args:=true,fn:=true } && (x.tok&&decide (x.tm<3)))&&(decide (0≤p.fn)&&decide (p.fn<u.fs.length))) &&
   (match u.fs[p.fn.toNat]? with
    |some f=>zU yX x.tt (f.tys.headD zL)&&y9 u.ss g.tys p.args ((f.tys.drop 1).take f.pn.toNat)
    |none=>false)
 else if p.op=8 then (zG p { to:=true } && (x.tok&&decide (x.tm<3)))&&isK x.tt 1
 else if p.op=9 then (zG p { a:=true } && x.aok)&&isK x.at' 1
 else if p.op=10 then ((zG p { fr:=true } && x.fok)&&(Zm u.ss x.ft).1)&&decide (x.fm<2)
 else if p.op=11 then ((zG p { fr:=true } && x.fok)&&decide (0<p.fr.l))&&decide (p.fr.ps.length=0)
 else if p.op=12 then ((zG p { a:=true,el:=true } && x.aok)&&isK x.at' 2)&&kD g p.el
 else if p.op=13∨p.op=14 then zG p {}
 else false
noncomputable def pad (u : UnD) (g : GrD) (p : PtD) : PaD:=
 ⟨(zp u.ss g.tys p.to).1,(zp u.ss g.tys p.to).2.1,(zp u.ss g.tys p.to).2.2,(zp u.ss g.tys p.fr).1,(zp u.ss g.tys p.fr).2.1,(zp u.ss g.tys p.fr).2.2,
  (zF u.ss g.tys p.a).1,(zF u.ss g.tys p.a).2,(zF u.ss g.tys p.b).1,(zF u.ss g.tys p.b).2⟩
theorem afb (u : UnD) (g : GrD) (p : PtD) : ptG u g p=ptH u g p (pad u g p):=rfl
theorem bb4 {a b c d : Bool} (h : (((!a || !b) || !c) || !d)=true) : (a&&(b&&(c&&d)))=false:=by revert h;cases a<;>cases b<;>cases c<;>cases d<;>simp
theorem af9 {a b c d : Bool} (h : (((!a || !b) || !c) || !d)=false) : (a&&(b&&(c&&d)))=true:=by revert h;cases a<;>cases b<;>cases c<;>cases d<;>simp
theorem bb3 {a b c : Bool} {x y : Int} (h : (((!a || !b) || !c)||decide (x≠y))=true) : (((a&&b)&&c)&&decide (x=y))=false:=by
 by_cases e : x=y
 ·simp only [e] at h ⊢;revert h;cases a<;>cases b<;>cases c<;>simp
 ·simp [e]
theorem aga {a b c : Bool} {x y : Int} (h : (((!a || !b) || !c)||decide (x≠y))=false) : (((a&&b)&&c)&&decide (x=y))=true:=by
 by_cases e : x=y
 ·simp only [e] at h ⊢;revert h;cases a<;>cases b<;>cases c<;>simp
 ·simp [e] at h
theorem bb5 {a b : Bool} {x y : Int} (h : (((!a || !b)||decide (x<0))||decide (y≤x))=true) : ((a&&b)&&(decide (0≤x)&&decide (x<y)))=false:=by
 by_cases e : 0≤x<;>by_cases f : x<y
 ·rw [decide_eq_false (show ¬ x<0 by omega),decide_eq_false (show ¬ y≤x by omega)] at h
  revert h;cases a<;>cases b<;>simp
 all_goals simp [e,f]
theorem agb {a b : Bool} {x y : Int} (h : (((!a || !b)||decide (x<0))||decide (y≤x))=false) : ((a&&b)&&(decide (0≤x)&&decide (x<y)))=true:=by
 simp only [Bool.or_eq_false_iff,decide_eq_false_iff_not,Bool.not_eq_false'] at h
 obtain ⟨⟨⟨h1,h2⟩,h3⟩,h4⟩:=h
 rw [h1,h2,decide_eq_true (show 0≤x by omega),decide_eq_true (show x<y by omega)];rfl
theorem mpK : mpT Tryz.prog 167=some (9,55):=by kernel_rfl
theorem mpZ : zr1 Tryz.prog 55=some (.int .u8 0):=by kernel_rfl
theorem adM (x : ByteArray) (f g : Int→Bool) : ∃ ks : Int,(YH x ((#[].push (⟨.string (bs [45]),.int .u8 1,0⟩ : MapEntry)).push ⟨.string (bs [33]),.int .u8 2,0+1⟩).toList).getD (.int .u8 0) = .int .u8 ks∧
  ((decide (ks≠0)&&f ks)&&g ks)=(if xa x [[45]] then f 1&&g 1 else if xa x [[33]] then f 2&&g 2 else false):=by
 have e : ((#[].push (⟨.string (bs [45]),.int .u8 1,0⟩ : MapEntry)).push ⟨.string (bs [33]),.int .u8 2,0+1⟩).toList = [⟨.string (bs [45]),.int .u8 1,0⟩,⟨.string (bs [33]),.int .u8 2,0+1⟩]:=rfl
 rw [e]
 simp only [YH,ac1,qR,xa,List.any_cons,List.any_nil,Bool.or_false]
 by_cases h1 : (x.toList == [45])=true
 ·exact ⟨1,by rw [if_pos h1];rfl,by rw [if_pos h1];simp⟩
 ·by_cases h2 : (x.toList == [33])=true
  ·exact ⟨2,by rw [if_neg h1,if_pos h2];rfl,by rw [if_neg h1,if_pos h2];simp⟩
  ·exact ⟨0,by rw [if_neg h1,if_neg h2];rfl,by rw [if_neg h1,if_neg h2];simp⟩
set_option maxHeartbeats 20000000 in
theorem Y6 {u : UnD} {g : GrD} {p : PtD} {c : List Value} {v : Value} {w : World} {r : Gh} {K : Value→World→Prop} (hr : Holds r w) (hx : AskG r v u g) (hf : ZP u.ss g.tys) (hfs : ∀ f ∈ u.fs,0≤f.pn∧f.pn<f.tys.length) (hp : PtG r c p)
  (h : ∀ w',Ext w w'→K (.bool (zC u g p)) w') : zd Tryz.prog Tryz.kB #[v,.agg c.toArray] w K:=by
 have hx0:=hx
 obtain ⟨p0,cap0,vf,vo,vt,vn,vp,rfl,hu,hg⟩:=hx
 have hu0:=hu
 obtain ⟨_,_,_,hE,_,_,hst,_,hfn⟩:=hu
 cases hE
 obtain ⟨qfn,capfn,rfl,_,_⟩:=hfn.sl.shape
 obtain ⟨_,_,_,_,hE,_,htys,_,hpts⟩:=hg
 cases hE
 obtain ⟨qp,capp,rfl,_,_⟩:=hpts.sl.shape
 have hp0:=hp
 obtain ⟨vto,va,vb,vl,vfr,rfl,h1,h2,h3,h4,h5⟩:=hp
 obtain ⟨qto,capto,rfl,_,_⟩:=h1.sl.shape
 obtain ⟨qa,capa,rfl,_,_⟩:=h2.sl.shape
 obtain ⟨qb,capb,rfl,_,_⟩:=h3.sl.shape
 obtain ⟨ql,capl,rfl,_,_⟩:=h4.sl.shape
 obtain ⟨qf,capf,rfl,_,_⟩:=h5.sl.shape
 have hpto : PlG r [.int .i64 p.to.l,.slice qto p.to.ps.length capto] p.to:=⟨_,rfl,h1⟩
 have hpfr : PlG r [.int .i64 p.fr.l,.slice qf p.fr.ps.length capf] p.fr:=⟨_,rfl,h5⟩
 have hoa : OpG r [.int .u8 p.a.k,.int .i64 p.a.n,.int .i64 p.a.pl.l,.slice qa p.a.pl.ps.length capa] p.a:=⟨_,rfl,h2⟩
 have hob : OpG r [.int .u8 p.b.k,.int .i64 p.b.n,.int .i64 p.b.pl.l,.slice qb p.b.pl.ps.length capb] p.b:=⟨_,rfl,h3⟩
 refine Tryz.Yz ?_
 unfold Tryz.jy
 have S:=St.start hr
 refine S.box fun b2 w1 S=>?_
 refine S.box fun b3 w2 S=>?_
 refine gg_ ?_
 refine S.al fun b5 w3 S=>?_
 refine S.st (b:=b5) fun w4 S=>?_
 refine gg_ ?_
 refine J2 (g:=decide (p.op≠14)) (c:=!kD g p.nx) (fun _ K2 hK2=>?_) (fun _ K2 hK2=>?_) ?_
 ·refine gg_ ?_
  exact hK2
 ·refine gg_ ?_
  refine Vn (b:=b5) S ?_
  refine gp_ ?_
  exact hK2
 refine J2 (g:=decide (p.op=14)) (c:=decide (p.nx≠0)) (fun _ K2 hK2=>?_) (fun _ K2 hK2=>?_) ?_
 ·refine gg_ ?_
  exact hK2
 ·refine gg_ ?_
  exact hK2
 have hpg : zC u g p=(!((decide (p.tx<0)||(decide (p.op≠14) && !kD g p.nx))||(decide (p.op=14)&&decide (p.nx≠0)))&&ptG u g p):=by
  rw [zC];simp only [decide_not]
 rw [hpg] at h
 refine c_b (fun hbad=>?_) (fun hgood=>?_)
 ·rw [hbad,Bool.not_true,Bool.false_and] at h
  exact h _ S.ext
 rw [hgood,Bool.not_false,Bool.true_and,afb] at h
 clear hpg hgood
 have S:=S.go (Ext.drew _)
 have S : StX noX w r w4.drew [.cell b5 [.int .i64 (g.pts.length : Nat)] 3,
   .cell b3 [.int .u8 p.op,.int .i64 p.to.l,.slice qto p.to.ps.length capto,.int .u8 p.a.k,.int .i64 p.a.n,.int .i64 p.a.pl.l,.slice qa p.a.pl.ps.length capa,.int .u8 p.b.k,.int .i64 p.b.n,.int .i64 p.b.pl.l,.slice qb p.b.pl.ps.length capb,.slice ql p.args.length capl,
    .string p.sign,.int .i64 p.fr.l,.slice qf p.fr.ps.length capf,.bool p.mu,.int .i64 p.fn,.int .i64 p.st,.int .i64 p.nx,.int .i64 p.el,.int .i64 p.tx] 44,
   .cell b2 [.slice p0 u.ss.length cap0,.slice qfn u.fs.length capfn,.int .i64 u.mn,.string g.name,.int .i64 g.lv,vo,.int .i64 g.pn,vt,vn,.slice qp g.pts.length capp] 117]:=S
 obtain ⟨tt,tm,tok,hspt⟩ : ∃ tt tm tok,zp u.ss g.tys p.to=(tt,tm,tok):=⟨_,_,_,rfl⟩
 obtain ⟨ft,fm,fok,hspf⟩ : ∃ tt tm tok,zp u.ss g.tys p.fr=(tt,tm,tok):=⟨_,_,_,rfl⟩
 obtain ⟨ta,aok,hopa⟩ : ∃ t ok,zF u.ss g.tys p.a=(t,ok):=⟨_,_,rfl⟩
 obtain ⟨tb,bok,hopb⟩ : ∃ t ok,zF u.ss g.tys p.b=(t,ok):=⟨_,_,rfl⟩
 have hpad : pad u g p=⟨tt,tm,tok,ft,fm,fok,ta,aok,tb,bok⟩:=by simp only [pad,hspt,hspf,hopa,hopb]
 rw [hpad,ptH] at h
 dsimp only at h
 have inside : tok=true→(tt.k=3∨tt.k=4)→∃ uu,tt.of = [uu]:=by
  intro h1 h2
  have hfi:=Vm hf (p:=p.to) (by rw [hspt];exact h1)
  rw [hspt] at hfi
  rcases Fine.cases hfi with ⟨_,h3⟩|⟨uu,h3,_⟩
  ·have h3 : tt.k=1∨tt.k=2∨tt.k=5:=h3
   omega
  ·exact ⟨uu,h3⟩
 refine zq (fun s w'=>∃ b7 b8 q7 c7 q8 c8,s = [.pointer (some ⟨b7,0,none⟩),.pointer (some ⟨b8,0,none⟩)]∧TyG r (tyV tt q7 c7) tt∧TyG r (tyV ft q8 c8) ft∧
  StX noX w r w' (.cell b8 (spL ft q8 c8 fm fok) 115 :: .cell b7 (spL tt q7 c7 tm tok) 115 :: [.cell b5 [.int .i64 (g.pts.length : Nat)] 3,
   .cell b3 [.int .u8 p.op,.int .i64 p.to.l,.slice qto p.to.ps.length capto,.int .u8 p.a.k,.int .i64 p.a.n,.int .i64 p.a.pl.l,.slice qa p.a.pl.ps.length capa,.int .u8 p.b.k,.int .i64 p.b.n,.int .i64 p.b.pl.l,.slice qb p.b.pl.ps.length capb,.slice ql p.args.length capl,
    .string p.sign,.int .i64 p.fr.l,.slice qf p.fr.ps.length capf,.bool p.mu,.int .i64 p.fn,.int .i64 p.st,.int .i64 p.nx,.int .i64 p.el,.int .i64 p.tx] 44,
   .cell b2 [.slice p0 u.ss.length cap0,.slice qfn u.fs.length capfn,.int .i64 u.mn,.string g.name,.int .i64 g.lv,vo,.int .i64 g.pn,vt,vn,.slice qp g.pts.length capp] 117])) (fun K30 hK30=>?_) ?_
 ·refine S.ldB (b:=b2) ?_ rfl
  refine gp_ ?_
  refine S.ldN (b:=b3) ?_
  refine S.ldB (b:=b2) ?_ rfl
  refine gp_ ?_
  refine S.ldN (b:=b3) ?_
  repeat' (first
   |(refine S.alU fun b9 w9 S=>?_)
   |(refine S.al fun b9 w9 S=>?_)
   |(refine S.stB fun w9 S=>?_)
   |(refine yo S.holds hx0 hf hpto hspt (fun q7 c7 w9 e9 ht7=>⟨e9,?_⟩);have S:=S.go e9)
   |(refine yo S.holds hx0 hf hpto hspt (fun q7 c7 w9 e9 ht7=>?_);have S:=S.go e9)
   |(refine yo S.holds hx0 hf hpfr hspf (fun q8 c8 w9 e9 ht8=>⟨e9,?_⟩);have S:=S.go e9)
   |(refine yo S.holds hx0 hf hpfr hspf (fun q8 c8 w9 e9 ht8=>?_);have S:=S.go e9)
   |exact hK30 _ _ ⟨_,_,_,_,_,_,rfl,ht7,ht8,S⟩
   |exact hK30 _ _ ⟨_,_,_,_,_,_,rfl,ht7,ht8,S.swap⟩
   |refine ⟨?_,?_⟩)
 clear S
 rintro _ w33 ⟨b7,b8,q7,c7,q8,c8,rfl,ht7,ht8,S⟩ d33
 simp only [List.getD_cons_zero,List.getD_cons_succ]
 refine gg_ ?_
 refine zi (c:=decide (tm<3)) (fun _ K2 hK2=>?_) ?_
 ·refine gg_ ?_
  exact hK2
 refine S.ldB (b:=b2) ?_ rfl
 refine gp_ ?_
 refine S.ldN (b:=b3) ?_
 refine xV S.holds hx0 hf hoa hopa fun q10 c10 w34 e34 hta=>?_
 have S:=S.go e34
 refine gp_ ?_
 refine gp_ ?_
 refine S.al fun b10 w35 S=>?_
 refine S.stB (b:=b10) fun w36 S=>?_
 refine S.ldB (b:=b2) ?_ rfl
 refine gp_ ?_
 refine S.ldN (b:=b3) ?_
 refine xV S.holds hx0 hf hob hopb fun q12 c12 w37 e37 htb=>?_
 have S:=S.go e37
 refine gp_ ?_
 refine gp_ ?_
 refine S.al fun b12 w38 S=>?_
 refine S.stB (b:=b12) fun w39 S=>?_
 refine gg_ ?_
 refine zg (fun ho=>?_) (fun ho=>?_)
 ·rw [if_pos ho] at h
  refine S.ldB (b:=b3) ?_ rfl
  refine gp_ ?_
  refine zQ (f:={ to:=true,a:=true }) S.holds hp0 fun w31 e31=>?_
  have S:=S.go e31
  refine zi (c:=tok&&decide (tm<3)) (fun _ K2 hK2=>hK2) ?_
  refine zi (c:=aok) (fun _ K2 hK2=>hK2) ?_
  refine zn (c:=zU yX ta tt) (fun _ K2 hK2=>?_) fun w32 e32=>h _ (S.go e32).ext
  refine S.ldB (b:=b10) ?_ rfl
  refine gp_ ?_
  refine S.ldN (b:=b7) ?_
  exact yY S.holds hta ht7 fun w33 e33=>hK2 _ e33
 rw [if_neg ho] at h
 clear ho
 refine gg_ ?_
 refine zg (fun ho=>?_) (fun ho=>?_)
 ·rw [if_pos ho] at h
  refine S.ldB (b:=b3) ?_ rfl
  refine gp_ ?_
  refine zQ (f:={ to:=true,a:=true,b:=true,sign:=true }) S.holds hp0 fun w31 e31=>?_
  have S:=S.go e31
  refine gp_ ?_
  refine zh (c:=!(tok&&decide (tm<3))) (fun _ K2 hK2=>?_) ?_
  ·refine gp_ ?_
   exact hK2
  refine zh (c:=!aok) (fun _ K2 hK2=>?_) ?_
  ·refine gp_ ?_
   exact hK2
  refine zh (c:=!bok) (fun _ K2 hK2=>?_) ?_
  ·refine gp_ ?_
   exact hK2
  refine c_b (fun hc=>?_) (fun hc=>?_)
  ·rw [bb4 hc,Bool.false_and] at h
   exact h _ S.ext
  rw [af9 hc,Bool.true_and] at h
  refine S.ldB (b:=b10) ?_ rfl
  refine z6 S.holds fun w34 e34=>?_
  have S:=S.go e34
  refine zn (c:=isK tb 1) (fun hb K2 hK2=>?_) fun w32 e32=>?_
  ·refine S.ldB (b:=b12) ?_ rfl
   exact z6 S.holds fun w33 e33=>hK2 _ e33
  have S:=S.go e32
  refine gg_ ?_
  refine zq (fun s w'=>s = [.bool (xa p.sign [[43],[45],[42],[47],[37]])]∧Ext w32 w') (fun K9 hK9=>?_) ?_
  ·have hk:=hK9 _ _ ⟨rfl,Ext.refl _⟩
   simp only [xa,List.any_cons,List.any_nil,Bool.or_false] at hk
   refine gp_ ?_
   refine je hk fun _ hk=>?_
   refine gp_ ?_
   refine je hk fun _ hk=>?_
   refine gp_ ?_
   refine je hk fun _ hk=>?_
   refine gp_ ?_
   refine je hk fun _ hk=>?_
   refine gp_ ?_
   exact hk
  rintro _ w41 ⟨rfl,e41⟩ d41
  have S:=S.go e41
  rw [List.getD_cons_zero]
  refine c_b (fun hs=>?_) (fun hs=>?_)
  ·rw [if_pos hs] at h
   refine gp_ ?_
   refine S.ldN (b:=b7) ?_
   refine z6 S.holds fun w35 e35=>?_
   have S:=S.go e35
   exact zi (c:=isK ta 1&&isK tb 1) (fun _ K2 hK2=>hK2) (h _ S.ext)
  rw [if_neg (by rw [hs];decide)] at h
  refine zq (fun s w'=>s = [.bool (xa p.sign [[60],[60,61],[62],[62,61]])]∧Ext w41 w') (fun K9 hK9=>?_) ?_
  ·have hk:=hK9 _ _ ⟨rfl,Ext.refl _⟩
   simp only [xa,List.any_cons,List.any_nil,Bool.or_false] at hk
   refine gp_ ?_
   refine je hk fun _ hk=>?_
   refine gp_ ?_
   refine je hk fun _ hk=>?_
   refine gp_ ?_
   refine je hk fun _ hk=>?_
   refine gp_ ?_
   exact hk
  rintro _ w41 ⟨rfl,e41⟩ d41
  have S:=S.go e41
  rw [List.getD_cons_zero]
  refine c_b (fun hs=>?_) (fun hs=>?_)
  ·rw [if_pos hs] at h
   refine gp_ ?_
   refine S.ldN (b:=b7) ?_
   refine z6 S.holds fun w35 e35=>?_
   have S:=S.go e35
   exact zi (c:=isK ta 1&&isK tb 1) (fun _ K2 hK2=>hK2) (h _ S.ext)
  rw [if_neg (by rw [hs];decide)] at h
  refine zq (fun s w'=>s = [.bool (xa p.sign [[61,61],[33,61]])]∧Ext w41 w') (fun K9 hK9=>?_) ?_
  ·have hk:=hK9 _ _ ⟨rfl,Ext.refl _⟩
   simp only [xa,List.any_cons,List.any_nil,Bool.or_false] at hk
   refine gp_ ?_
   refine je hk fun _ hk=>?_
   refine gp_ ?_
   exact hk
  rintro _ w41 ⟨rfl,e41⟩ d41
  have S:=S.go e41
  rw [List.getD_cons_zero]
  refine c_b (fun hs=>?_) (fun hs=>?_)
  rotate_left
  ·rw [if_neg (by rw [hs];decide)] at h
   exact h _ S.ext
  rw [if_pos hs] at h
  refine gp_ ?_
  refine S.ldN (b:=b7) ?_
  refine z6 S.holds fun w35 e35=>?_
  have S:=S.go e35
  generalize isK tt 2=x1 at h ⊢
  generalize (isK ta 1&&isK tb 1)=x2 at h ⊢
  cases x1 with
  |false=>
   (intro K9 hK9;refine gd_ ?_;refine hK9 _ _ fun _=>?_;clear hK9 K9)
   (intro K9 hK9;refine gd_ ?_;refine hK9 _ _ fun _=>?_;clear hK9 K9)
   (intro K9 hK9;refine gd_ ?_;refine hK9 _ _ fun _=>?_;clear hK9 K9)
   (intro K9 hK9;refine gd_ ?_;refine hK9 _ _ fun _=>?_;clear hK9 K9)
   (intro K9 hK9;refine gd_ ?_;refine hK9 _ _ fun _=>?_;clear hK9 K9)
   refine gd_ ?_
   exact h _ S.ext
  |true=>
   cases x2 with
   |true=>
    (intro K9 hK9;refine gd_ ?_;refine hK9 _ _ fun _=>?_;clear hK9 K9)
    (intro K9 hK9;refine gd_ ?_;refine hK9 _ _ fun _=>?_;clear hK9 K9)
    (intro K9 hK9;refine gd_ ?_;refine hK9 _ _ fun _=>?_;clear hK9 K9)
    (intro K9 hK9;refine gd_ ?_;refine hK9 _ _ fun _=>?_;clear hK9 K9)
    (intro K9 hK9;refine gd_ ?_;refine hK9 _ _ fun _=>?_;clear hK9 K9)
    refine gd_ ?_
    exact h _ S.ext
   |false=>
    (intro K9 hK9;refine gd_ ?_;refine hK9 _ _ fun _=>?_;clear hK9 K9)
    refine zq (fun s w'=>s = [.bool (isK ta 2)]∧Ext w35 w') (fun K9 hK9=>?_) ?_
    ·refine gd_ ?_
     exact z6 S.holds fun w36 e36=>hK9 _ _ ⟨rfl,e36⟩
    rintro _ w37 ⟨rfl,e37⟩ d37
    have S:=S.go e37
    generalize isK ta 2=x3 at h ⊢
    cases x3 with
    |false=>
     (intro K9 hK9;refine gd_ ?_;refine hK9 _ _ fun _=>?_;clear hK9 K9)
     (intro K9 hK9;refine gd_ ?_;refine hK9 _ _ fun _=>?_;clear hK9 K9)
     (intro K9 hK9;refine gd_ ?_;refine hK9 _ _ fun _=>?_;clear hK9 K9)
     refine gd_ ?_
     exact h _ S.ext
    |true=>
     refine zq (fun s w'=>s = [.bool (isK tb 2)]∧Ext w37 w') (fun K9 hK9=>?_) ?_
     ·refine gd_ ?_
      exact z6 S.holds fun w36 e36=>hK9 _ _ ⟨rfl,e36⟩
     rintro _ w38 ⟨rfl,e38⟩ d38
     have S:=S.go e38
     generalize isK tb 2=x4 at h ⊢
     (intro K9 hK9;refine gd_ ?_;refine hK9 _ _ fun _=>?_;clear hK9 K9)
     (intro K9 hK9;refine gd_ ?_;refine hK9 _ _ fun _=>?_;clear hK9 K9)
     refine gd_ ?_
     cases x4<;>exact h _ S.ext
 rw [if_neg ho] at h
 clear ho
 refine gg_ ?_
 refine zg (fun ho=>?_) (fun ho=>?_)
 ·rw [if_pos ho] at h
  refine S.mkMap fun b70 w70 S=>?_
  refine S.mapAdd mpK (by intro m hm;cases hm) rfl fun w71 S=>?_
  refine S.mapAdd mpK (by intro m hm;rcases List.mem_cons.1 hm with rfl|hm<;>first|exact ⟨_,rfl⟩|cases hm) (by decide) fun w72 S=>?_
  refine gg_ ?_
  refine S.mapGet mpK mpZ (by
   intro m hm
   rcases List.mem_cons.1 hm with rfl|hm
   ·exact ⟨_,rfl⟩
   rcases List.mem_cons.1 hm with rfl|hm<;>first|exact ⟨_,rfl⟩|cases hm) ?_
  obtain ⟨ks,hks,hk2⟩:=adM p.sign (isK tt) (isK ta)
  rw [hks]
  refine S.ldB (b:=b3) ?_ rfl
  refine gp_ ?_
  refine zQ (f:={ to:=true,a:=true,sign:=true }) S.holds hp0 fun w31 e31=>?_
  have S:=S.go e31
  refine zi (c:=tok&&decide (tm<3)) (fun _ K2 hK2=>hK2) ?_
  refine zi (c:=aok) (fun _ K2 hK2=>hK2) ?_
  refine zi (c:=decide (ks≠0)) (fun _ K2 hK2=>?_) ?_
  ·refine gp_ ?_
   exact hK2
  refine zn (c:=isK tt ks) (fun hb K2 hK2=>?_) fun w32 e32=>?_
  ·refine gp_ ?_
   refine S.ldN (b:=b7) ?_
   exact z6 S.holds fun w33 e33=>hK2 _ e33
  have S:=S.go e32
  refine zn (c:=isK ta ks) (fun hb K2 hK2=>?_) fun w32 e32=>?_
  ·refine S.ldB (b:=b10) ?_ rfl
   exact z6 S.holds fun w33 e33=>hK2 _ e33
  have S:=S.go e32
  have:=h _ S.ext
  rw [← hk2] at this
  simpa only [Bool.and_assoc] using this
 rw [if_neg ho] at h
 clear ho
 refine gg_ ?_
 refine zg (fun ho=>?_) (fun ho=>?_)
 ·rw [if_pos ho] at h
  have S:=S.go (Ext.drew _)
  refine S.ldB (b:=b3) ?_ rfl
  refine gp_ ?_
  refine zQ (f:={ to:=true,fr:=true,mu:=true }) S.holds hp0 fun w31 e31=>?_
  have S:=S.go e31
  refine zi (c:=tok&&decide (tm<3)) (fun _ K2 hK2=>hK2) ?_
  refine zi (c:=fok) (fun _ K2 hK2=>?_) ?_
  ·refine gg_ ?_
   exact hK2
  refine zn (c:=isK tt 4) (fun hb K2 hK2=>?_) fun w32 e32=>?_
  ·refine gp_ ?_
   refine S.ldN (b:=b7) ?_
   exact z6 S.holds fun w33 e33=>hK2 _ e33
  have S:=S.go e32
  refine zi (c:=tt.m == p.mu) (fun _ K2 hK2=>?_) ?_
  ·refine gg_ ?_
   exact hK2
  refine zn (c:=zU yX (tt.of.headD zL) ft) (fun hb K2 hK2=>?_) fun w33 e33=>?_
  ·simp only [Bool.and_eq_true] at hb
   obtain ⟨uu,hof⟩:=inside hb.1.1.1.2.1 (.inr (of_decide_eq_true hb.1.2))
   obtain ⟨bo,oo,q2,cap2,rfl,ht2,hcc⟩:=V5 ht7 hof
   have hl1 : tt.of.length=1:=by rw [hof];rfl
   rw [hof] at hK2
   refine gg_ ?_
   refine zs (n:=5) (c:=tyL uu q2 cap2) rfl (fun j v hj=>by simpa using S.at (hcc j v hj)) ?_
   refine gp_ ?_
   refine S.ldN (b:=b8) ?_
   exact yY S.holds ht2 ht8 fun w34 e34=>hK2 _ e34
  have S:=S.go e33
  have:=h _ S.ext
  rw [← Bool.and_assoc] at this
  generalize ((((((zG p { to:=true,fr:=true,mu:=true } && (tok&&decide (tm<3)))&&fok)&&isK tt 4)&&(tt.m == p.mu))&&zU yX (tt.of.headD zL) ft))=B at this ⊢
  cases B with
  |false=>
   (intro K9 hK9;refine gd_ ?_;refine hK9 _ _ fun _=>?_;clear hK9 K9)
   (intro K9 hK9;refine gd_ ?_;refine hK9 _ _ fun _=>?_;clear hK9 K9)
   (intro K9 hK9;refine gd_ ?_;refine hK9 _ _ fun _=>?_;clear hK9 K9)
   refine gd_ ?_
   exact this
  |true=>
   refine zq (fun s w'=>s = [.bool p.mu]∧w'=w33) (fun K9 hK9=>?_) ?_
   ·refine gd_ ?_
    exact hK9 _ _ ⟨rfl,rfl⟩
   rintro _ w33 ⟨rfl,rfl⟩ d33
   generalize p.mu=mu at this ⊢
   cases mu with
   |false=>
    (intro K9 hK9;refine gd_ ?_;refine hK9 _ _ fun _=>?_;clear hK9 K9)
    (intro K9 hK9;refine gd_ ?_;refine hK9 _ _ fun _=>?_;clear hK9 K9)
    refine gd_ ?_
    exact this
   |true=>
    refine zq (fun s w'=>s = [.bool (decide (fm=3))]∧w'=w33) (fun K9 hK9=>?_) ?_
    ·refine gd_ ?_
     exact hK9 _ _ ⟨rfl,rfl⟩
    rintro _ w33 ⟨rfl,rfl⟩ d33
    (intro K9 hK9;refine gd_ ?_;refine hK9 _ _ fun _=>?_;clear hK9 K9)
    refine gd_ ?_
    simpa using this
 rw [if_neg ho] at h
 clear ho
 refine gg_ ?_
 refine zg (fun ho=>?_) (fun ho=>?_)
 ·rw [if_pos ho] at h
  have S:=S.go (Ext.drew _)
  refine S.ldB (b:=b3) ?_ rfl
  refine gp_ ?_
  refine zQ (f:={ to:=true,a:=true }) S.holds hp0 fun w31 e31=>?_
  have S:=S.go e31
  refine zi (c:=tok&&decide (tm<3)) (fun _ K2 hK2=>hK2) ?_
  refine zi (c:=aok) (fun _ K2 hK2=>hK2) ?_
  refine zn (c:=isK tt 3) (fun hb K2 hK2=>?_) fun w32 e32=>?_
  ·refine gp_ ?_
   refine S.ldN (b:=b7) ?_
   exact z6 S.holds fun w33 e33=>hK2 _ e33
  have S:=S.go e32
  refine zn (c:=zU yX (tt.of.headD zL) ta) (fun hb K2 hK2=>?_) fun w33 e33=>h _ (S.go e33).ext
  simp only [Bool.and_eq_true] at hb
  obtain ⟨uu,hof⟩:=inside hb.1.1.2.1 (.inl (of_decide_eq_true hb.2))
  obtain ⟨bo,oo,q2,cap2,rfl,ht2,hcc⟩:=V5 ht7 hof
  have hl1 : tt.of.length=1:=by rw [hof];rfl
  rw [hof] at hK2
  refine gg_ ?_
  refine zs (n:=5) (c:=tyL uu q2 cap2) rfl (fun j v hj=>by simpa using S.at (hcc j v hj)) ?_
  refine S.ldB (b:=b10) ?_ rfl
  exact yY S.holds ht2 hta fun w34 e34=>hK2 _ e34
 rw [if_neg ho] at h
 clear ho
 refine gg_ ?_
 refine zg (fun ho=>?_) (fun ho=>?_)
 ·rw [if_pos ho] at h
  refine S.ldB (b:=b3) ?_ rfl
  refine gp_ ?_
  refine zQ (f:={ to:=true,args:=true,st:=true }) S.holds hp0 fun w31 e31=>?_
  have S:=S.go e31
  refine gp_ ?_
  refine zh (c:=!(tok&&decide (tm<3))) (fun _ K2 hK2=>?_) ?_
  ·refine gp_ ?_
   exact hK2
  refine xw (c:=!isK tt 5) (fun _ K2 hK2=>?_) fun w32 e32=>?_
  ·refine gp_ ?_
   refine S.ldN (b:=b7) ?_
   refine z6 S.holds fun w33 e33=>?_
   refine gp_ ?_
   exact hK2 _ e33
  have S:=S.go e32
  refine zh (c:=decide (tt.st≠p.st)) (fun _ K2 hK2=>?_) ?_
  ·refine gg_ ?_
   exact hK2
  refine c_b (fun hc=>?_) (fun hc=>?_)
  ·rw [bb3 hc,Bool.false_and] at h
   exact h _ S.ext
  rw [aga hc,Bool.true_and] at h
  refine gg_ ?_
  refine S.ldN (b:=b7) ?_
  refine JX S.holds hst ht7 fun q9 cp9 top gs w35 e35 n35 hfd hcp=>?_
  have S:=S.new e35 n35
  refine gp_ ?_
  refine gp_ ?_
  refine Vp (r:=((r.or (top.or (un gs 0 (xk u.ss tt).1.length))).or (Go.Sh.one b2 _ _)).or (Go.Sh.one b3 _ _)) ((S.holdW b2).or (yc (S.blk b3))) (yy (b:=b2)).up (yy (b:=b3)).up hx0.up rfl hf hp0.up (adG hfd).up fun w44 e44=>?_
  exact h _ (S.go e44).ext
 rw [if_neg ho] at h
 clear ho
 refine gg_ ?_
 refine zg (fun ho=>?_) (fun ho=>?_)
 ·rw [if_pos ho] at h
  refine S.ldB (b:=b3) ?_ rfl
  refine gp_ ?_
  refine zQ (f:={ to:=true,args:=true,fn:=true }) S.holds hp0 fun w31 e31=>?_
  have S:=S.go e31
  refine gp_ ?_
  refine zh (c:=!(tok&&decide (tm<3))) (fun _ K2 hK2=>?_) ?_
  ·refine gp_ ?_
   exact hK2
  refine zh (c:=decide (p.fn<0)) (fun _ K2 hK2=>?_) ?_
  ·refine gg_ ?_
   exact hK2
  refine zh (c:=decide ((u.fs.length : Int)≤p.fn)) (fun _ K2 hK2=>?_) ?_
  ·refine gg_ ?_
   exact hK2
  refine c_b (fun hc=>?_) (fun hc=>?_)
  ·rw [bb5 hc,Bool.false_and] at h
   exact h _ S.ext
  rw [agb hc,Bool.true_and] at h
  have hfl : 0≤p.fn∧p.fn<u.fs.length:=by
   simp only [Bool.or_eq_false_iff,decide_eq_false_iff_not] at hc;omega
  have hfi : p.fn.toNat<u.fs.length:=by omega
  rw [List.getElem?_eq_getElem hfi] at h
  obtain ⟨bg,og,cg,rfl,hcg,hgg,hgc⟩:=hfn.sl.get (by decide) hfi
  have hfp:=hfs _ (List.getElem_mem hfi)
  generalize u.fs[p.fn.toNat]=fd at h hgg hfp
  obtain ⟨vo2,vt2,vn2,vp2,rfl,hg1,hg2,hg3,hg4⟩:=hgg
  obtain ⟨qo2,co2,rfl,_,_⟩:=hg1.sl.shape
  obtain ⟨qt2,ct2,rfl,_,hct2⟩:=hg2.sl.shape
  obtain ⟨qn2,cn2,rfl,_,_⟩:=hg3.sl.shape
  obtain ⟨qp2,cp2,rfl,_,_⟩:=hg4.sl.shape
  refine gg_ ?_
  refine zs (n:=7) hcg (fun j v hj=>S.at (hgc j v hj)) ?_
  refine S.al fun b20 w50 S=>?_
  refine S.stB (b:=b20) fun w51 S=>?_
  have S:=S.go (Ext.drew _)
  have htl:=abE hg2.sl
  have htl9 : fd.tys.length≤9223372036854775807:=hg2.few
  obtain ⟨bt2,ot2,cc2,rfl,hcc2,hcl2,hct3⟩:=htl 0 (by omega)
  obtain ⟨q4,cap4,rfl,ht4⟩:=qZ hct3
  have hhd : fd.tys.headD zL=fd.tys[0]'(by omega):=by
   rw [List.headD_eq_head?_getD,List.head?_eq_getElem?,List.getElem?_eq_getElem (by omega),Option.getD_some]
  dsimp only at h
  rw [hhd] at h
  refine gp_ ?_
  refine S.ldN (b:=b7) ?_
  refine gg_ ?_
  refine zs (n:=5) hcc2 (fun j v hj=>by simpa using S.at (hcl2 j v hj)) ?_
  refine yY S.holds ht7 ht4 fun w52 e52=>?_
  have S:=S.go e52
  refine zn (c:=y9 u.ss g.tys p.args ((fd.tys.drop 1).take fd.pn.toNat)) (fun _ K2 hK2=>?_) fun w53 e53=>h _ (S.go e53).ext
  refine gg_ ?_
  have hl9 : (fd.pn+1).toNat - (1 : Int).toNat=((fd.tys.drop 1).take fd.pn.toNat).length:=by
   rw [List.length_take,List.length_drop];omega
  rw [hl9]
  refine Vp (r:=(r.or (Go.Sh.one b2 _ _)).or (Go.Sh.one b3 _ _)) ((S.holdW b2).or (yc (S.blk b3))) (yy (b:=b2)).up (yy (b:=b3)).up hx0.up rfl hf hp0.up (htl.sub (a:=(1 : Int).toNat) (n:=fd.pn.toNat) hct2).up fun w44 e44=>?_
  exact hK2 _ e44
 rw [if_neg ho] at h
 clear ho
 refine gg_ ?_
 refine zg (fun ho=>?_) (fun ho=>?_)
 ·rw [if_pos ho] at h
  refine S.ldB (b:=b3) ?_ rfl
  refine gp_ ?_
  refine zQ (f:={ to:=true }) S.holds hp0 fun w31 e31=>?_
  have S:=S.go e31
  refine zi (c:=tok&&decide (tm<3)) (fun _ K2 hK2=>hK2) ?_
  refine zn (c:=isK tt 1) (fun hb K2 hK2=>?_) fun w32 e32=>?_
  ·refine gp_ ?_
   refine S.ldN (b:=b7) ?_
   exact z6 S.holds fun w33 e33=>hK2 _ e33
  have S:=S.go e32
  exact h _ S.ext
 rw [if_neg ho] at h
 clear ho
 refine gg_ ?_
 refine zg (fun ho=>?_) (fun ho=>?_)
 ·rw [if_pos ho] at h
  refine S.ldB (b:=b3) ?_ rfl
  refine gp_ ?_
  refine zQ (f:={ a:=true }) S.holds hp0 fun w31 e31=>?_
  have S:=S.go e31
  refine zi (c:=aok) (fun _ K2 hK2=>hK2) ?_
  refine zn (c:=isK ta 1) (fun hb K2 hK2=>?_) fun w32 e32=>?_
  ·refine S.ldB (b:=b10) ?_ rfl
   exact z6 S.holds fun w33 e33=>hK2 _ e33
  have S:=S.go e32
  exact h _ S.ext
 rw [if_neg ho] at h
 clear ho
 refine gg_ ?_
 refine zg (fun ho=>?_) (fun ho=>?_)
 ·rw [if_pos ho] at h
  refine gg_ ?_
  refine S.ldN (b:=b8) ?_
  refine VL S.holds hst ht8 fun w35 e35=>?_
  have S:=S.go e35
  refine gp_ ?_
  refine gp_ ?_
  refine S.ldB (b:=b3) ?_ rfl
  refine gp_ ?_
  refine zQ (f:={ fr:=true }) S.holds hp0 fun w31 e31=>?_
  have S:=S.go e31
  refine zi (c:=fok) (fun _ K2 hK2=>?_) ?_
  ·refine gg_ ?_
   exact hK2
  refine zi (c:=(Zm u.ss ft).1) (fun _ K2 hK2=>hK2) ?_
  refine zi (c:=decide (fm<2)) (fun _ K2 hK2=>?_) (h _ S.ext)
  refine gg_ ?_
  exact hK2
 rw [if_neg ho] at h
 clear ho
 refine gg_ ?_
 refine zg (fun ho=>?_) (fun ho=>?_)
 ·rw [if_pos ho] at h
  refine S.ldB (b:=b3) ?_ rfl
  refine gp_ ?_
  refine zQ (f:={ fr:=true }) S.holds hp0 fun w31 e31=>?_
  have S:=S.go e31
  refine zi (c:=fok) (fun _ K2 hK2=>?_) ?_
  ·refine gg_ ?_
   exact hK2
  refine zi (c:=decide (0<p.fr.l)) (fun _ K2 hK2=>?_) ?_
  ·refine gg_ ?_
   exact hK2
  refine zi (c:=decide (p.fr.ps.length=0)) (fun _ K2 hK2=>?_) (h _ S.ext)
  refine gg_ ?_
  rw [Z3]
  exact hK2
 rw [if_neg ho] at h
 clear ho
 refine gg_ ?_
 refine zg (fun ho=>?_) (fun ho=>?_)
 ·rw [if_pos ho] at h
  refine S.ldB (b:=b3) ?_ rfl
  refine gp_ ?_
  refine zQ (f:={ a:=true,el:=true }) S.holds hp0 fun w31 e31=>?_
  have S:=S.go e31
  refine zi (c:=aok) (fun _ K2 hK2=>hK2) ?_
  refine zn (c:=isK ta 2) (fun hb K2 hK2=>?_) fun w32 e32=>?_
  ·refine S.ldB (b:=b10) ?_ rfl
   exact z6 S.holds fun w33 e33=>hK2 _ e33
  have S:=S.go e32
  refine zi (c:=kD g p.el) (fun _ K2 hK2=>?_) (h _ S.ext)
  refine gg_ ?_
  exact Vn (b:=b5) S hK2
 rw [if_neg ho] at h
 clear ho
 refine gg_ ?_
 refine zq (fun s w'=>s = [.bool (decide (p.op=13∨p.op=14))]∧Ext w39 w') (fun K9 hK9=>?_) ?_
 ·have hk:=hK9 _ _ ⟨rfl,Ext.refl _⟩
  rw [Bool.decide_or] at hk
  refine gp_ ?_
  refine je hk fun _ hk=>?_
  refine gp_ ?_
  exact hk
 rintro _ w41 ⟨rfl,e41⟩ d41
 have S:=S.go e41
 rw [List.getD_cons_zero]
 refine zg (fun ho=>?_) (fun ho=>?_)
 ·rw [if_pos ho] at h
  refine S.ldB (b:=b3) ?_ rfl
  refine gp_ ?_
  refine zQ (f:={}) S.holds hp0 fun w31 e31=>h _ (S.go e31).ext
 ·rw [if_neg ho] at h
  exact h _ S.ext
end Go.Proofs
end
section
namespace Go.Proofs
open Go.Sh
set_option linter.unusedVariables false
theorem qA {u : UnD} : ∀ {l : List GrD} {i : Nat},kS u i l=none↔∀ (j : Nat) (h : j<l.length),yi u (i+j) l[j]=true
 |[],i=>⟨fun _ j h=>absurd h (Nat.not_lt_zero _),fun _=>rfl⟩
 |g::l,i=>by
  rw [kS]
  constructor
  ·intro h j hj
   split at h
   ·rename_i hg
    cases j with
    |zero=>exact hg
    |succ j=>
     have:=(qA (l:=l) (i:=i+1)).1 h j (by simpa using hj)
     rw [List.getElem_cons_succ,show i+(j+1)=i+1+j by omega];exact this
   ·cases h
  ·intro h
   rw [if_pos (show yi u i g=true from h 0 (Nat.zero_lt_succ _))]
   refine (qA (l:=l) (i:=i+1)).2 fun j hj=>?_
   have:=h (j+1) (by simpa using hj)
   rwa [List.getElem_cons_succ,show i+(j+1)=i+1+j by omega] at this
theorem vM {u : UnD} {g : GrD} : ∀ {l : List PtD} {q : Nat},jR u g q l=none↔∀ p ∈ l,zC u g p=true
 |[],q=>⟨fun _ p h=>(by cases h),fun _=>rfl⟩
 |x::l,q=>by
  rw [jR]
  constructor
  ·intro h p hp
   split at h
   ·rename_i hx
    rcases List.mem_cons.1 hp with rfl|hp
    ·exact hx
    ·exact (vM (l:=l) (q:=q+1)).1 h p hp
   ·cases h
  ·intro h
   rw [if_pos (h x List.mem_cons_self)]
   exact (vM (l:=l) (q:=q+1)).2 fun p hp=>h p (List.mem_cons_of_mem _ hp)
theorem ZQ {u : UnD} : ∀ {l : List GrD} {i : Nat},jI u i l=none↔∀ g ∈ l,∀ p ∈ g.pts,zC u g p=true
 |[],i=>⟨fun _ g h=>(by cases h),fun _=>rfl⟩
 |x::l,i=>by
  rw [jI]
  constructor
  ·intro h g hg
   split at h
   ·cases h
   ·rename_i hx
    rcases List.mem_cons.1 hg with rfl|hg
    ·exact vM.1 hx
    ·exact (ZQ (l:=l) (i:=i+1)).1 h g hg
  ·intro h
   rw [vM.2 (h x List.mem_cons_self)]
   exact (ZQ (l:=l) (i:=i+1)).2 fun g hg=>h g (List.mem_cons_of_mem _ hg)
structure MayU (u : UnD) : Prop where
 ok : (zS u.ss).2=0
 fs1 : 1≤u.fs.length
 fs32 : u.fs.length≤32
 mn0 : 0≤u.mn
 mn1 : u.mn<u.fs.length
 head : ∀ (i : Nat) (h : i<u.fs.length),yi u i u.fs[i]=true
 pts : ∀ g ∈ u.fs,∀ p ∈ g.pts,zC u g p=true
theorem Vs {u : UnD} (h : MayU u) : kr u=(0,0,0):=by
 have h1:=h.fs1;have h2:=h.fs32;have h3:=h.mn0;have h4:=h.mn1
 unfold kr
 rw [if_neg (by rw [h.ok,decide_eq_false (show ¬ u.fs.length<1 by omega),decide_eq_false (show ¬ 32<u.fs.length by omega),decide_eq_false (show ¬ u.mn<0 by omega),decide_eq_false (show ¬ (u.fs.length : Int)≤u.mn by omega)];decide),
  qA.2 (fun j hj=>by rw [Nat.zero_add];exact h.head j hj)]
 dsimp only
 rw [ZQ.2 h.pts]
theorem ac2 {u : UnD} (h : (kr u).2.2=0) : MayU u:=by
 unfold kr at h
 split at h
 ·cases h
 ·rename_i h1
  split at h
  ·cases h
  ·rename_i h2
   split at h
   ·cases h
   ·rename_i h3
    simp only [Bool.or_eq_true,Bool.not_eq_true',decide_eq_false_iff_not,decide_eq_true_eq,not_or] at h1
    obtain ⟨⟨h4,h5,h6⟩,h7,h8⟩:=h1
    exact ⟨by omega,by omega,by omega,by omega,by omega,fun i hi=>by have:=qA.1 h2 i hi;rwa [Nat.zero_add] at this,ZQ.1 h3⟩
theorem kh {u : UnD} : qM u=true↔MayU u:=by
 rw [qM,decide_eq_true_eq]
 exact ⟨ac2,fun h=>by rw [Vs h]⟩
structure HeadU (u : UnD) (fn : Nat) (g : GrD) : Prop where
 lv0 : 0≤g.lv
 lv8 : g.lv≤8
 pn0 : 0≤g.pn
 pn8 : g.pn≤8
 pn1 : g.pn<g.tys.length
 ty512 : g.tys.length≤512
 nms : g.nms.length=g.tys.length
 tys : yZ u g 0 g.tys=true
 pt1 : 1≤g.pts.length
 pt1024 : g.pts.length≤1024
 outs : jt g=true
 loans : yf g.pts≤256
 main : (fn : Int)=u.mn→g.lv=0∧g.pn=0∧(g.tys.headD zL).k=1
theorem V6 {u : UnD} {fn : Nat} {g : GrD} (h : yi u fn g=true) : HeadU u fn g:=by
 simp only [yi,Bool.and_eq_true,Bool.or_eq_true,Bool.not_eq_true',decide_eq_true_eq,decide_eq_false_iff_not,isK] at h
 obtain ⟨⟨⟨⟨⟨⟨⟨h1,h2⟩,h3,h4⟩,h5,h6⟩,h7⟩,h8⟩,⟨h9,h10⟩,h11⟩,h12,h13⟩:=h
 exact ⟨h1,h2,h3,h4,by omega,h6,h7,h8,h9,h10,h11,h12,fun e=>by rcases h13 with h|⟨⟨h,h'⟩,h2⟩
                                                               ·exact absurd e h
                                                               ·exact ⟨h,h',h2⟩⟩
theorem HeadU.fine {u : UnD} {fn : Nat} {g : GrD} (h : HeadU u fn g) (ok : (zS u.ss).2=0) : ZP u.ss g.tys:=by
 obtain ⟨h1,h2,h3,h4,_⟩:=kY ok
 exact ⟨h1,h3,h4,fun t ht=>(Jh (QJ h.tys t ht)).2⟩
theorem MayU.hd {u : UnD} (h : MayU u) {i : Nat} (hi : i<u.fs.length) : HeadU u i u.fs[i]:=V6 (h.head i hi)
theorem MayU.mem {u : UnD} (h : MayU u) {g : GrD} (hg : g ∈ u.fs) : ∃ i,HeadU u i g:=by
 obtain ⟨i,hi,rfl⟩:=List.getElem_of_mem hg
 exact ⟨i,h.hd hi⟩
theorem MayU.fine {u : UnD} (h : MayU u) {g : GrD} (hg : g ∈ u.fs) : ZP u.ss g.tys:=by
 obtain ⟨i,hi⟩:=h.mem hg
 exact hi.fine h.ok
end Go.Proofs
end
section
namespace Go.Sh
theorem adN {w : World} {A2 : (List Value→World→Prop)→Prop} {A3 A4 A5 : (List Value→World→Prop)→World→Prop} {Z : Value→World→Prop} {b1 b2 b3 b4 b5 : Bool}
  (h2 : ∀ K : List Value→World→Prop,K [.bool b2] w→A2 K) (h3 : ∀ K : List Value→World→Prop,K [.bool b3] w→A3 K w) (h4 : ∀ K : List Value→World→Prop,K [.bool b4] w→A4 K w) (h5 : ∀ K : List Value→World→Prop,K [.bool b5] w→A5 K w)
  (hZ : Z (.bool (b1&&(b2||((b3&&b4)&&b5)))) w) :
  za (fun K=>gIf (.bool b1) true (A2 K) (K [undef] w)) fun s64 _ w66=>
   za (fun K=>gIf (s64.getD 0 undef) false (A3 K w66) (K [undef] w66)) fun s68 _ w70=>
    za (fun K=>gIf (s68.getD 0 undef) true (A4 K w70) (K [undef] w70)) fun s72 _ w74=>
     za (fun K=>gIf (s64.getD 0 undef) false (zc (s68.getD 0 undef) (s72.getD 0 undef) (.bool false) fun t=>K [t] w74) (K [undef] w74)) fun s76 _ w78=>
      za (fun K=>gIf (s76.getD 0 undef) true (A5 K w78) (K [undef] w78)) fun s80 _ w82=>
       za (fun K=>gIf (s64.getD 0 undef) false (zc (s76.getD 0 undef) (s80.getD 0 undef) (.bool false) fun t=>K [t] w82) (K [undef] w82)) fun s84 _ w86=>
        za (fun K=>gIf (.bool b1) true (zc (s64.getD 0 undef) (.bool true) (s84.getD 0 undef) fun t=>K [t] w86) (K [undef] w86)) fun s88 _ w90=>
         zc (.bool b1) (s88.getD 0 undef) (.bool false) fun t=>Z t w90:=by
 cases b1<;>cases b2<;>cases b3<;>cases b4 <;>
  (iterate 7 (intro K hK;first|refine hK _ _ fun _=>?_|refine h2 _ (hK _ _ fun _=>?_)|refine h3 _ (hK _ _ fun _=>?_)|refine h4 _ (hK _ _ fun _=>?_)|refine h5 _ (hK _ _ fun _=>?_)|refine ⟨_,rfl,hK _ _ fun _=>?_⟩)) <;>
  exact ⟨_,rfl,by simpa using hZ⟩
end Go.Sh
namespace Go.Proofs
open Go.Sh
set_option maxRecDepth 100000
set_option linter.unusedSimpArgs false
set_option linter.unusedVariables false
theorem ab6 {a b : Nat} : decide ((a : Int)≠(b : Int))=decide (a≠b):=decide_eq_decide.2 (by omega)
theorem aex {u : UnD} {g : GrD} {i : Nat} {t : TyD} : tyG u g i t=(xU u.ss t && !((zV t).any fun r=>decide (r<(if (i : Int)≤g.pn then 0 else -1))||decide (g.lv≤r))):=by
 rw [tyG,List.not_any_eq_all_not]
set_option maxHeartbeats 4000000 in
theorem aaT {u : UnD} {i : Nat} {v : Value} {w : World} {r : Gh} {K : Value→World→Prop} (hi : i<u.fs.length) (hr : Holds r w) (hu : UnG r v u)
  (h : ∀ w',Ext w w'→K (.bool (yi u i u.fs[i])) w') : zd Tryz.prog Tryz.vV #[v,.int .i64 i] w K:=by
 obtain ⟨p0,cap0,vf,rfl,_,_,hst,hsl,hfn⟩:=hu
 obtain ⟨qf,capf,rfl,_,_⟩:=hfn.sl.shape
 obtain ⟨bf,of,cf,rfl,hcf,hgc,hfo⟩:=hfn.sl.get (by decide) hi
 refine Tryz.VC ?_
 unfold Tryz.Xc
 generalize hgi : u.fs[i]=g at h hgc
 obtain ⟨vo,vt,vn,vp,rfl,h1,h2,h3,h4⟩:=id hgc
 obtain ⟨qo,capo,rfl,_,_⟩:=h1.sl.shape
 obtain ⟨qt,capt,rfl,_,hct⟩:=h2.sl.shape
 obtain ⟨qn,capn,rfl,_,_⟩:=h3.sl.shape
 obtain ⟨qp,capp,rfl,_,_⟩:=h4.sl.shape
 have hptl : g.pts.length≤9223372036854775807:=h4.few
 have htl : g.tys.length≤9223372036854775807:=h2.few
 have S:=St.start hr
 refine S.box fun b2 w1 S=>?_
 refine gG_ ?_
 refine zs (n:=7) hcf (fun j v hj=>by rw [Int.toNat_natCast];exact S.at (hfo j v hj)) ?_
 refine S.al fun b5 w2 S=>?_
 refine S.stB (b:=b5) fun w3 S=>?_
 refine gG_ ?_
 have no : (HeadU u i g→False)→yi u i g=false:=fun hh=>by
  cases e : yi u i g
  ·rfl
  ·exact (hh (V6 e)).elim
 refine zh (c:=decide (8<g.lv)) (fun _ K2 hK2=>?_) ?_
 ·refine gG_ ?_
  exact hK2
 refine zh (c:=decide (g.pn<0)) (fun _ K2 hK2=>?_) ?_
 ·refine gG_ ?_
  exact hK2
 refine zh (c:=decide (8<g.pn)) (fun _ K2 hK2=>?_) ?_
 ·refine gG_ ?_
  exact hK2
 refine zh (c:=decide ((g.tys.length : Int)≤g.pn)) (fun _ K2 hK2=>?_) ?_
 ·refine gG_ ?_
  exact hK2
 refine zh (c:=decide (512<g.tys.length)) (fun _ K2 hK2=>?_) ?_
 ·refine gG_ ?_
  rw [show decide ((512 : Int)<(g.tys.length : Int))=decide (512<g.tys.length) from decide_eq_decide.2 (by omega)]
  exact hK2
 refine zh (c:=decide (g.nms.length≠g.tys.length)) (fun _ K2 hK2=>?_) ?_
 ·refine gG_ ?_
  rw [ab6]
  exact hK2
 refine c_b (fun hbad=>?_) (fun hgood=>?_)
 ·rw [no fun H=>by
   have:=H.lv0;have:=H.lv8;have:=H.pn0;have:=H.pn8;have:=H.pn1;have:=H.ty512;have:=H.nms
   simp only [Bool.or_eq_true,decide_eq_true_eq] at hbad;omega] at h
  exact h _ S.ext
 have hnum : (0≤g.lv∧g.lv≤8∧0≤g.pn∧g.pn≤8)∧g.pn<g.tys.length∧g.tys.length≤512∧g.nms.length=g.tys.length:=by
  simp only [Bool.or_eq_false_iff,decide_eq_false_iff_not] at hgood;omega
 clear hgood
 obtain ⟨⟨hlv0,hlv8,hpn0,hpn8⟩,hpn1,hty,hnm⟩:=hnum
 refine gG_ ?_
 refine zk (ι:=Nat) (fun i=>[.int .i64 (i : Nat)]) (fun j w'=>j≤g.tys.length∧yZ u g j (g.tys.drop j)=yZ u g 0 g.tys∧StX noX w r w' _) (fun i=>g.tys.length - i) 0 rfl ⟨Nat.zero_le _,rfl,S⟩ ?_
 clear S
 rintro j d w5 ⟨hj,hd,S⟩ K6 hK6
 rw [List.getD_cons_zero]
 refine gP_ ?_
 refine zg (fun hlt=>?_) (fun hge=>?_)
 ·have hlt : j<g.tys.length:=by omega
  obtain ⟨bt,ot,ct,rfl,hct,htc,hcell⟩:=h2.sl.get (by decide) hlt
  obtain ⟨q2,cap2,rfl,ht2⟩:=qZ htc
  rw [acZ hlt] at hd
  refine gP_ ?_
  refine zs (n:=5) hct (fun j v hj=>by rw [Int.toNat_natCast];exact S.at (hcell j v hj)) ?_
  refine S.al fun b7 w6 S=>?_
  refine S.stB (b:=b7) fun w7 S=>?_
  refine gG_ ?_
  refine jO S.holds hst ht2 fun w8 e8=>?_
  have S:=S.go e8
  refine gP_ ?_
  refine c_b (fun hm=>?_) (fun hm=>?_)
  ·have hm : xU u.ss g.tys[j]=false:=by simpa using hm
   rw [no fun H=>by
    have:=H.tys
    rw [← hd,tyG,hm,Bool.false_and,Bool.false_and] at this;cases this] at h
   exact h _ S.ext
  have hm : xU u.ss g.tys[j]=true:=by simpa using hm
  refine S.al fun b8 w9 S=>?_
  refine S.st (b:=b8) fun w10 S=>?_
  refine zq (fun _ w'=>StX noX w r w' [.cell b8 [.int .i64 (if (j : Int)≤g.pn then 0 else -1)] 3,.cell b7 (tyL g.tys[j] q2 cap2) 57,.cell b5 [.string g.name,.int .i64 g.lv,.slice qo g.outs.length capo,.int .i64 g.pn,.slice (some ⟨bt,ot,none⟩) g.tys.length capt,.slice qn g.nms.length capn,.slice qp g.pts.length capp] 33,
   .cell b2 [.slice p0 u.ss.length cap0,.slice (some ⟨bf,of,none⟩) u.fs.length capf,.int .i64 u.mn] 25]) (fun K3 hK3=>?_) ?_
  ·refine gG_ ?_
   refine zg (fun hle=>?_) (fun hgt=>?_)
   ·refine S.st (b:=b8) fun w11 S=>?_
    refine hK3 [] _ ?_
    rw [if_pos hle];exact S
   ·refine hK3 [] _ ?_
    rw [if_neg hgt];exact S
  clear S
  rintro _ w11 S d11
  refine S.ldB (b:=b7) ?_ rfl
  refine jk S.holds ht2 fun v7 w12 e12 o12=>?_
  have S:=S.go e12
  obtain ⟨p7,cap7,rfl,_,_,_,hs7⟩:=Xa o12
  refine gP_ ?_
  have hr48 : (zV g.tys[j]).length≤1000:=by
   rw [zV];split
   ·have:=Vf (by assumption);omega
   ·simp
  refine Y5 (f:=fun x=>decide (x<(if (j : Int)≤g.pn then 0 else -1))||decide (g.lv≤x)) (fun x K hK=>?_) hs7 (by omega) ?_
  ·refine V2 (by kernel_rfl) ?_
   refine Tryz.Q7 ?_
   unfold Tryz.Yc
   refine S.ld (b:=b8) ?_ rfl
   refine gP_ ?_
   refine zh (c:=decide (g.lv≤x)) (fun _ K2 hK2=>?_) hK
   refine gG_ ?_
   exact hK2
  have hty : tyG u g j g.tys[j] = !((zV g.tys[j]).any fun x=>decide (x<(if (j : Int)≤g.pn then 0 else -1))||decide (g.lv≤x)):=by
   rw [aex,hm,Bool.true_and]
  refine c_b (fun hx=>?_) (fun hx=>?_)
  ·rw [hty,hx,Bool.not_true,Bool.false_and] at hd
   rw [no fun H=>by have:=H.tys;rw [← hd] at this;cases this] at h
   exact h _ S.ext
  ·rw [hty,hx,Bool.not_false,Bool.true_and] at hd
   refine gP_ ?_
   rw [show ((j : Int)+1)=((j+1 : Nat) : Int) by omega]
   exact hK6 (j+1) _ ⟨hlt,hd,(S.drop b8).drop b7⟩ (by omega)
 have hje : j=g.tys.length:=by omega
 rw [hje,List.drop_length] at hd
 have htys : yZ u g 0 g.tys=true:=hd.symm
 clear hd hK6 K6 hge hj hje
 refine gG_ ?_
 refine zh (c:=decide (1024<g.pts.length)) (fun _ K2 hK2=>?_) ?_
 ·refine gG_ ?_
  rw [show decide ((1024 : Int)<(g.pts.length : Int))=decide (1024<g.pts.length) from decide_eq_decide.2 (by omega)]
  exact hK2
 refine xw (c:=!jt g) (fun _ K2 hK2=>?_) fun w20 e20=>?_
 ·refine S.ldB (b:=b5) ?_ rfl
  refine QL S.holds hgc hlv0 hlv8 hpn0 hpn1 (fun t ht x hx=>?_) fun w21 e21=>?_
  ·obtain ⟨k,hk,rfl⟩:=List.getElem_of_mem ht
   rw [List.length_take] at hk
   rw [List.getElem_take] at hx
   have:=aaR htys (j:=k) (by omega) (by omega) x hx
   omega
  refine gP_ ?_
  exact hK2 _ e21
 have S:=S.go e20
 refine c_b (fun hbad=>?_) (fun hgood=>?_)
 ·rw [no fun H=>by
   have:=H.pt1;have:=H.pt1024;have h3:=H.outs
   rw [h3] at hbad
   simp only [Bool.or_eq_true,decide_eq_true_eq,Bool.not_true,Bool.false_eq_true,or_false] at hbad;omega] at h
  exact h _ S.ext
 have hnum : (1≤g.pts.length∧g.pts.length≤1024)∧jt g=true:=by
  cases ho : jt g
  ·rw [ho] at hgood;simp at hgood
  ·simp only [Bool.or_eq_false_iff,decide_eq_false_iff_not] at hgood
   exact ⟨by omega,rfl⟩
 clear hgood
 obtain ⟨⟨hp1,hp1024⟩,hout⟩:=hnum
 refine gG_ ?_
 refine zk (ι:=Nat) (fun i=>[.int .i64 (yf (g.pts.take i) : Nat),.int .i64 (i : Nat)]) (fun j w'=>j≤g.pts.length∧yf (g.pts.take j)≤j∧StX noX w r w' _) (fun i=>g.pts.length - i) 0 rfl ⟨Nat.zero_le _,Nat.le_refl _,S⟩ ?_
 clear S
 rintro j d w22 ⟨hj,hlj,S⟩ K7 hK7
 simp only [List.getD_cons_zero,List.getD_cons_succ]
 refine gP_ ?_
 refine zg (fun hlt=>?_) (fun hge=>?_)
 ·have hlt : j<g.pts.length:=by omega
  obtain ⟨bp,op,cp,rfl,hcp,hpc,hcell⟩:=h4.sl.get (by decide) hlt
  refine zq (fun s w'=>s = [.int .i64 (yf (g.pts.take (j+1)) : Nat)]∧StX noX w r w' [.cell b5 [.string g.name,.int .i64 g.lv,.slice qo g.outs.length capo,.int .i64 g.pn,.slice qt g.tys.length capt,.slice qn g.nms.length capn,.slice (some ⟨bp,op,none⟩) g.pts.length capp] 33,
   .cell b2 [.slice p0 u.ss.length cap0,.slice (some ⟨bf,of,none⟩) u.fs.length capf,.int .i64 u.mn] 25]) (fun K3 hK3=>?_) ?_
  ·refine gP_ ?_
   refine zs (n:=21) hcp (fun j v hj=>by rw [Int.toNat_natCast];exact S.at (hcell j v hj)) ?_
   obtain ⟨vto,va,vb,vl,vfr,rfl,k1,k2,k3,k4,k5⟩:=hpc
   obtain ⟨_,_,rfl,_⟩:=k1.sl.shape
   obtain ⟨_,_,rfl,_⟩:=k2.sl.shape
   obtain ⟨_,_,rfl,_⟩:=k3.sl.shape
   obtain ⟨_,_,rfl,_⟩:=k4.sl.shape
   obtain ⟨_,_,rfl,_⟩:=k5.sl.shape
   refine S.al fun b11 w23 S=>?_
   refine S.stB (b:=b11) fun w24 S=>?_
   refine gG_ ?_
   have hlo:=Jo hlt
   refine zg (fun ho=>?_) (fun ho=>?_)
   ·rw [if_pos ho] at hlo
    refine gP_ ?_
    rw [show ((yf (g.pts.take j) : Nat) : Int)+1=((yf (g.pts.take (j+1)) : Nat) : Int) by omega]
    exact hK3 _ _ ⟨rfl,S.drop b11⟩
   ·rw [if_neg ho] at hlo
    rw [show ((yf (g.pts.take j) : Nat) : Int)=((yf (g.pts.take (j+1)) : Nat) : Int) by omega]
    exact hK3 _ _ ⟨rfl,S.drop b11⟩
  clear S
  rintro _ w25 ⟨rfl,S⟩ d25
  rw [List.getD_cons_zero]
  refine gP_ ?_
  rw [show ((j : Int)+1)=((j+1 : Nat) : Int) by omega]
  refine hK7 (j+1) _ ⟨hlt,?_,S⟩ (by omega)
  rw [Jo hlt];split<;>omega
 have hje : j=g.pts.length:=by omega
 rw [hje,List.take_length]
 refine gP_ ?_
 have hfin : yi u i g=(decide (yf g.pts≤256)&&(decide ((i : Int)≠u.mn)||((decide (g.lv=0)&&decide (g.pn=0))&&isK (g.tys.headD zL) 1))):=by
  rw [yi,htys,hout,decide_eq_true hlv0,decide_eq_true hlv8,decide_eq_true hpn0,decide_eq_true hpn8,decide_eq_true hpn1,decide_eq_true hty,decide_eq_true hnm,decide_eq_true hp1,decide_eq_true hp1024,decide_not];rfl
 rw [hfin] at h
 rw [show decide ((yf g.pts : Int)≤256)=decide (yf g.pts≤256) from decide_eq_decide.2 (by omega)]
 refine adN (b2:=decide ((i : Int)≠u.mn)) (b3:=decide (g.lv=0)) (b4:=decide (g.pn=0)) (b5:=isK (g.tys.headD zL) 1) (fun K2 hK2=>?_) (fun K2 hK2=>?_) (fun K2 hK2=>?_) (fun K2 hK2=>?_) (h _ S.ext)
 ·refine gG_ ?_
  exact hK2
 ·refine gG_ ?_
  exact hK2
 ·refine gG_ ?_
  exact hK2
 ·have hpos : 0<g.tys.length:=by omega
  obtain ⟨bt,ot,ct,rfl,hct,htc,hcell⟩:=h2.sl.get (by decide) hpos
  obtain ⟨q2,cap2,rfl,ht2⟩:=qZ htc
  refine gG_ ?_
  refine zE (v:=.int .u8 g.tys[0].k) (by simpa using S.at (hcell 0 _ rfl)) ?_
  refine gG_ ?_
  have he : g.tys.headD zL=g.tys[0]:=by
   rw [List.headD_eq_head?_getD,List.head?_eq_getElem?,List.getElem?_eq_getElem hpos,Option.getD_some]
  rw [he] at hK2
  exact hK2
theorem ac3 {u : UnD} {i : Nat} {l : List GrD} (hi : i<l.length) : kS u i (l.drop i)=if yi u i l[i] then kS u (i+1) (l.drop (i+1)) else some i:=by
 rw [List.drop_eq_getElem_cons hi];rfl
theorem adO {u : UnD} {g : GrD} {q : Nat} {l : List PtD} (hq : q<l.length) : jR u g q (l.drop q)=if zC u g l[q] then jR u g (q+1) (l.drop (q+1)) else some q:=by
 rw [List.drop_eq_getElem_cons hq];rfl
theorem aey {u : UnD} {i : Nat} {l : List GrD} (hi : i<l.length) : jI u i (l.drop i)=match jR u l[i] 0 l[i].pts with|some q=>some (i,q)|none=>jI u (i+1) (l.drop (i+1)):=by
 rw [List.drop_eq_getElem_cons hi];rfl
noncomputable def Jq (u : UnD) : Int × Int × Int:=match kS u 0 u.fs with
  |some i=>(i,-1,100)
  |none=>match jI u 0 u.fs with
   |some (i,q)=>(i,q,100)
   |none=>(0,0,0)
set_option maxHeartbeats 4000000 in
theorem vm {u : UnD} {v : Value} {w : World} {r : Gh} {K : Value→World→Prop} (hr : Holds r w) (hu : UnG r v u)
  (h : ∀ w',Ext w w'→K (.tuple #[.int .i64 (kr u).1,.int .i64 (kr u).2.1,.int .i64 (kr u).2.2]) w') : zd Tryz.prog Tryz.km #[v] w K:=by
 have hu0:=hu
 obtain ⟨p0,cap0,vf,rfl,_,_,hst,hsl,hfn⟩:=hu
 obtain ⟨qf,capf,rfl,_,_⟩:=hfn.sl.shape
 have hfl : u.fs.length≤9223372036854775807:=hfn.few
 refine Tryz.JL ?_
 unfold Tryz.YO
 have S:=St.start hr
 refine S.box fun b1 w1 S=>?_
 refine gG_ ?_
 refine ZN S.holds hst fun w2 e2=>?_
 have S:=S.go e2
 refine gS_ ?_
 refine zh (c:=decide (u.fs.length<1)) (fun _ K2 hK2=>?_) ?_
 ·refine gG_ ?_
  rw [show decide ((u.fs.length : Int)<1)=decide (u.fs.length<1) from decide_eq_decide.2 (by omega)]
  exact hK2
 refine zh (c:=decide (32<u.fs.length)) (fun _ K2 hK2=>?_) ?_
 ·refine gG_ ?_
  rw [show decide ((32 : Int)<(u.fs.length : Int))=decide (32<u.fs.length) from decide_eq_decide.2 (by omega)]
  exact hK2
 refine zh (c:=decide (u.mn<0)) (fun _ K2 hK2=>?_) ?_
 ·refine gG_ ?_
  exact hK2
 refine zh (c:=decide ((u.fs.length : Int)≤u.mn)) (fun _ K2 hK2=>?_) ?_
 ·refine gG_ ?_
  exact hK2
 have hC : kr u=if ((((decide ((zS u.ss).2≠0)||decide (u.fs.length<1))||decide (32<u.fs.length))||decide (u.mn<0))||decide ((u.fs.length : Int)≤u.mn))=true then (-1,-1,100) else Jq u:=by
  rw [kr,Jq]
  simp only [ne_eq,decide_not,Bool.or_assoc] <;>
  rfl
 rw [hC] at h
 refine c_b (fun hbad=>?_) (fun hgood=>?_)
 ·rw [if_pos hbad] at h
  exact h _ S.ext
 rw [if_neg (by rw [hgood];decide)] at h
 have hok : (zS u.ss).2=0:=by
  simp only [Bool.or_eq_false_iff,decide_eq_false_iff_not] at hgood;omega
 clear hC hgood
 refine gG_ ?_
 refine zk (ι:=Nat × Int) (fun i=>[.int .i64 i.2,.int .i64 0,.int .i64 (i.1 : Nat)]) (fun j w'=>j.1≤u.fs.length∧kS u j.1 (u.fs.drop j.1)=kS u 0 u.fs∧StX noX w r w' _) (fun i=>u.fs.length - i.1) (0,0) rfl ⟨Nat.zero_le _,rfl,S⟩ ?_
 clear S
 rintro ⟨j,a⟩ d w5 ⟨hj,hd,S⟩ K6 hK6
 simp only at hj hd S ⊢
 simp only [List.getD_cons_zero,List.getD_cons_succ]
 refine gP_ ?_
 refine zg (fun hlt=>?_) (fun hge=>?_)
 ·have hlt : j<u.fs.length:=by omega
  rw [ac3 hlt] at hd
  refine S.ldB (b:=b1) ?_ rfl
  refine aaT hlt S.holds hu0 fun w6 e6=>?_
  have S:=S.go e6
  refine gP_ ?_
  refine c_b (fun hx=>?_) (fun hx=>?_)
  ·rw [if_neg (by simpa using hx)] at hd
   rw [Jq,← hd] at h
   exact h _ S.ext
  ·rw [if_pos (by simpa using hx)] at hd
   refine gP_ ?_
   rw [show ((j : Int)+1)=((j+1 : Nat) : Int) by omega]
   exact hK6 (j+1,j) _ ⟨hlt,hd,S⟩ (by show u.fs.length - (j+1)<u.fs.length - j;omega)
 have hje : j=u.fs.length:=by omega
 rw [hje,List.drop_length] at hd
 have hnone : kS u 0 u.fs=none:=hd.symm
 have hheads:=fun (i : Nat) (hi : i<u.fs.length)=>V6 (by have:=qA.1 hnone i hi;rwa [Nat.zero_add] at this : yi u i u.fs[i]=true)
 rw [Jq,hnone] at h
 dsimp only at h
 clear hd hK6 K6 hge hj hje
 refine zq (fun s w'=>Ext w w'∧((∃ x y : Nat,s = [.int .i64 (x : Int),.int .i64 (y : Int),.bool true]∧jI u 0 u.fs=some (x,y))∨∃ x y,s = [x,y,.bool false]∧jI u 0 u.fs=none)) (fun K3 hK3=>?_) ?_
 rotate_left
 ·rintro _ w9 ⟨e9,⟨x,y,rfl,hb⟩|⟨x,y,rfl,hb⟩⟩ d9
  ·rw [hb] at h
   refine c_t rfl ?_
   exact h _ e9
  ·rw [hb] at h
   refine c_f rfl ?_
   exact h _ e9
 refine gG_ ?_
 refine zk (ι:=Nat × Value × Value) (fun i=>[i.2.1,i.2.2,.bool false,.int .i64 (i.1 : Nat)]) (fun j w'=>j.1≤u.fs.length∧jI u j.1 (u.fs.drop j.1)=jI u 0 u.fs∧StX noX w r w' _) (fun i=>u.fs.length - i.1) (0,.int .i64 a,.int .i64 0) rfl ⟨Nat.zero_le _,rfl,S⟩ ?_
 clear S
 rintro ⟨j,x1,x2⟩ d w5 ⟨hj,hd,S⟩ K6 hK6
 simp only at hj hd S ⊢
 simp only [List.getD_cons_zero,List.getD_cons_succ]
 refine gP_ ?_
 refine zg (fun hlt=>?_) (fun hge=>?_)
 rotate_left
 ·have hje : j=u.fs.length:=by omega
  rw [hje,List.drop_length] at hd
  exact hK3 _ _ ⟨S.ext,.inr ⟨_,_,rfl,hd.symm⟩⟩
 have hlt : j<u.fs.length:=by omega
 obtain ⟨bf,of,cf,rfl,hcf,hgc,hfo⟩:=hfn.sl.get (by decide) hlt
 rw [aey hlt] at hd
 have hH:=hheads j hlt
 have hfin:=hH.fine hok
 have hpn : ∀ f ∈ u.fs,0≤f.pn∧f.pn<f.tys.length:=fun f hf=>by
  obtain ⟨i,hi,rfl⟩:=List.getElem_of_mem hf
  exact ⟨(hheads i hi).pn0,(hheads i hi).pn1⟩
 generalize hgi : u.fs[j]=g at hd hgc hH hfin
 obtain ⟨vo,vt,vn,vp,rfl,h1,h2,h3,h4⟩:=id hgc
 obtain ⟨qo,capo,rfl,_,_⟩:=h1.sl.shape
 obtain ⟨qt,capt,rfl,_,hct⟩:=h2.sl.shape
 obtain ⟨qn,capn,rfl,_,_⟩:=h3.sl.shape
 obtain ⟨qp,capp,rfl,_,_⟩:=h4.sl.shape
 have hptl : g.pts.length≤9223372036854775807:=h4.few
 refine gP_ ?_
 refine zs (n:=7) hcf (fun j v hj=>by rw [Int.toNat_natCast];exact S.at (hfo j v hj)) ?_
 refine S.al fun b9 w6 S=>?_
 refine S.stB (b:=b9) fun w7 S=>?_
 refine S.ldB (b:=b1) ?_ rfl
 refine S.ldB (b:=b9) ?_ rfl
 refine zu (cs:=#[.slice p0 u.ss.length cap0,.slice (some ⟨bf,of,none⟩) u.fs.length capf,.int .i64 u.mn,.string g.name,.int .i64 g.lv,.slice qo g.outs.length capo,.int .i64 g.pn,.slice qt g.tys.length capt,.slice qn g.nms.length capn,.slice qp g.pts.length capp]) (by kernel_rfl) ?_
 refine S.al fun b10 w8 S=>?_
 refine S.stB (b:=b10) fun w9 S=>?_
 refine gG_ ?_
 have hask : AskG r (.agg #[.slice p0 u.ss.length cap0,.slice (some ⟨bf,of,none⟩) u.fs.length capf,.int .i64 u.mn,.string g.name,.int .i64 g.lv,.slice qo g.outs.length capo,.int .i64 g.pn,.slice qt g.tys.length capt,.slice qn g.nms.length capn,.slice qp g.pts.length capp]) u g:=⟨_,_,_,_,_,_,_,rfl,hu0,hgc⟩
 refine zk (ι:=Nat) (fun i=>[x1,x2,.bool false,.int .i64 (i : Nat)]) (fun k w'=>k≤g.pts.length∧jR u g k (g.pts.drop k)=jR u g 0 g.pts∧StX noX w r w' _) (fun i=>g.pts.length - i) 0 rfl ⟨Nat.zero_le _,rfl,S⟩ ?_
 clear S
 rintro k d w10 ⟨hk,hdk,S⟩ K7 hK7
 simp only [List.getD_cons_zero,List.getD_cons_succ]
 refine gP_ ?_
 refine zg (fun hlt2=>?_) (fun hge=>?_)
 ·have hlt2 : k<g.pts.length:=by omega
  obtain ⟨bp,op,cp,rfl,hcp,hpc,hcell⟩:=h4.sl.get (by decide) hlt2
  rw [adO hlt2] at hdk
  refine gP_ ?_
  refine zs (n:=21) hcp (fun j v hj=>by rw [Int.toNat_natCast];exact S.at (hcell j v hj)) ?_
  obtain ⟨vto,va,vb,vl,vfr,rfl,k1,k2,k3,k4,k5⟩:=id hpc
  obtain ⟨_,_,rfl,_⟩:=k1.sl.shape
  obtain ⟨_,_,rfl,_⟩:=k2.sl.shape
  obtain ⟨_,_,rfl,_⟩:=k3.sl.shape
  obtain ⟨_,_,rfl,_⟩:=k4.sl.shape
  obtain ⟨_,_,rfl,_⟩:=k5.sl.shape
  refine S.al fun b12 w11 S=>?_
  refine S.stB (b:=b12) fun w12 S=>?_
  refine S.ldB (b:=b10) ?_ rfl
  refine S.ldB (b:=b12) ?_ rfl
  refine Y6 S.holds hask hfin hpn hpc fun w13 e13=>?_
  have S:=S.go e13
  refine gP_ ?_
  refine c_b (fun hx=>?_) (fun hx=>?_)
  ·rw [if_neg (by simpa using hx)] at hdk
   rw [← hdk] at hd
   exact hK3 _ _ ⟨S.ext,.inl ⟨j,k,rfl,hd.symm⟩⟩
  ·rw [if_pos (by simpa using hx)] at hdk
   refine gP_ ?_
   rw [show ((k : Int)+1)=((k+1 : Nat) : Int) by omega]
   exact hK7 (k+1) _ ⟨hlt2,hdk,S.drop b12⟩ (by omega)
 have hke : k=g.pts.length:=by omega
 rw [hke,List.drop_length] at hdk
 rw [← hdk] at hd
 refine gP_ ?_
 rw [show ((j : Int)+1)=((j+1 : Nat) : Int) by omega]
 exact hK6 (j+1,x1,x2) _ ⟨hlt,hd,(S.drop b10).drop b9⟩ (by show u.fs.length - (j+1)<u.fs.length - j;omega)
theorem xc {u : UnD} {v : Value} {w : World} {r : Gh} {K : Value→World→Prop} (hr : Holds r w) (hu : UnG r v u)
  (h : ∀ w',Ext w w'→K (.bool (qM u)) w') : zd Tryz.prog Tryz.yv #[v] w K:=by
 refine Tryz.aau ?_
 unfold Tryz.Qg
 have hu0:=hu
 obtain ⟨p0,cap0,vf,rfl,_,_,hst,hsl,hfn⟩:=hu
 obtain ⟨qf,capf,rfl,_,_⟩:=hfn.sl.shape
 have S:=St.start hr
 refine S.box fun b1 w1 S=>?_
 refine S.ldB (b:=b1) ?_ rfl
 refine vm S.holds hu0 fun w2 e2=>?_
 have S:=S.go e2
 refine gS_ ?_
 exact h _ S.ext
end Go.Proofs
end
section
namespace Go.Proofs
open Go.Sh
set_option maxRecDepth 100000
set_option linter.unusedSimpArgs false
set_option linter.unusedVariables false
theorem aez {s : Gh} {p : Option Addr} {n cap : Nat} {l : List Int} (h : SlG 1 s JY (.slice p n cap) l) : Ob s fun w=>Sl w p (ints l):=fun w hw i v hi=>by
 have hlt : i<l.length:=by
  have:=(List.getElem?_eq_some_iff.1 hi).1
  rwa [ke] at this
 have hv : v = .int .i64 l[i]:=by
  rw [ints,List.getElem?_map,List.getElem?_eq_getElem hlt] at hi
  exact (Option.some.inj hi).symm
 subst hv
 obtain ⟨b,off,c,rfl,hc,hcc,hcell⟩:=h.get (by decide) hlt
 obtain rfl : c=_:=hcc
 have:=hcell 0 _ rfl w hw
 exact ⟨b,off,rfl,by simpa using this⟩
end Go.Proofs
end
section
namespace Go.Sh
theorem StX.front {X : Nat→Prop} {w0 w : World} {r : Gh} {L M : List Asr} (S : StX X w0 r w L) (b : Nat) {c : List Value} {T : TypeId} [h : JT b L c T M] : StX X w0 r w (.cell b c T::M):=S.permO h.h.symm
end Go.Sh
namespace Go.Proofs
open Go.Sh
set_option maxRecDepth 100000
set_option linter.unusedSimpArgs false
set_option linter.unusedVariables false
end Go.Proofs
end
section
namespace Go.Proofs
open Go.Sh
set_option maxRecDepth 100000
set_option linter.unusedSimpArgs false
set_option linter.unusedVariables false
def yS : PlD:=⟨0,[]⟩
def XW : OpD:=⟨0,0,yS⟩
def ac4 : PtD:=⟨0,yS,XW,XW,[],ByteArray.empty,yS,false,0,0,0,0,0⟩
abbrev abF : List Value:=[.int .u8 0,.int .i64 0,.slice none 0 0,.int .u8 0,.int .i64 0,.int .i64 0,.slice none 0 0,.int .u8 0,.int .i64 0,.int .i64 0,.slice none 0 0,.slice none 0 0,.string ByteArray.empty,.int .i64 0,.slice none 0 0,.bool false,.int .i64 0,.int .i64 0,.int .i64 0,.int .i64 0,.int .i64 0]
theorem xm {α : Type} {sz : Nat} {r : Gh} {R : List Value→α→Prop} : SlB sz r R (.slice none 0 0) ([] : List α):=⟨SlG.nil,Nat.zero_le _⟩
theorem adP {r : Gh} : PtG r abF ac4:=⟨_,_,_,_,_,rfl,xm,xm,xm,xm,xm⟩
abbrev ptL (p : PtD) (q1 q2 q3 q4 q5 : Option Addr) (c1 c2 c3 c4 c5 : Nat) : List Value:=[.int .u8 p.op,.int .i64 p.to.l,.slice q1 p.to.ps.length c1,.int .u8 p.a.k,.int .i64 p.a.n,.int .i64 p.a.pl.l,.slice q2 p.a.pl.ps.length c2,.int .u8 p.b.k,.int .i64 p.b.n,.int .i64 p.b.pl.l,.slice q3 p.b.pl.ps.length c3,.slice q4 p.args.length c4,
 .string p.sign,.int .i64 p.fr.l,.slice q5 p.fr.ps.length c5,.bool p.mu,.int .i64 p.fn,.int .i64 p.st,.int .i64 p.nx,.int .i64 p.el,.int .i64 p.tx]
theorem yV {r : Gh} {c : List Value} {p : PtD} (h : PtG r c p) : ∃ q1 q2 q3 q4 q5 c1 c2 c3 c4 c5,c=ptL p q1 q2 q3 q4 q5 c1 c2 c3 c4 c5∧PtG r (ptL p q1 q2 q3 q4 q5 c1 c2 c3 c4 c5) p:=by
 obtain ⟨vto,va,vb,vl,vfr,rfl,k1,k2,k3,k4,k5⟩:=id h
 obtain ⟨q1,c1,rfl,_⟩:=k1.sl.shape
 obtain ⟨q2,c2,rfl,_⟩:=k2.sl.shape
 obtain ⟨q3,c3,rfl,_⟩:=k3.sl.shape
 obtain ⟨q4,c4,rfl,_⟩:=k4.sl.shape
 obtain ⟨q5,c5,rfl,_⟩:=k5.sl.shape
 exact ⟨q1,q2,q3,q4,q5,c1,c2,c3,c4,c5,rfl,h⟩
end Go.Proofs
end
section
namespace Go.Proofs
open Go.Sh
set_option maxRecDepth 100000
set_option linter.unusedSimpArgs false
set_option linter.unusedVariables false
theorem xq (x : ByteArray) : Value.string x = .string (bs x.data.toList):=rfl
theorem Zq {r : Gh} {p : PtD} {q1 q2 q3 q4 q5 : Option Addr} {c1 c2 c3 c4 c5 : Nat} (h : PtG r (ptL p q1 q2 q3 q4 q5 c1 c2 c3 c4 c5) p) :
  PlG r [.int .i64 p.to.l,.slice q1 p.to.ps.length c1] p.to∧OpG r [.int .u8 p.a.k,.int .i64 p.a.n,.int .i64 p.a.pl.l,.slice q2 p.a.pl.ps.length c2] p.a∧
  OpG r [.int .u8 p.b.k,.int .i64 p.b.n,.int .i64 p.b.pl.l,.slice q3 p.b.pl.ps.length c3] p.b∧SlB 4 r (OpG r) (.slice q4 p.args.length c4) p.args∧PlG r [.int .i64 p.fr.l,.slice q5 p.fr.ps.length c5] p.fr:=by
 obtain ⟨_,_,_,_,_,hE,k1,k2,k3,k4,k5⟩:=h
 cases hE
 exact ⟨⟨_,rfl,k1⟩,⟨_,rfl,k2⟩,⟨_,rfl,k3⟩,k4,⟨_,rfl,k5⟩⟩
set_option maxHeartbeats 4000000 in
theorem aaU {p : PtD} {q : Int} {c : List Value} {w : World} {r : Gh} {K : Value→World→Prop} (hT : TabZ r) (hr : Holds r w) (hp : PtG r c p) (hf : p.fit) (hq : 0≤q∧q≤1000000)
  (h : ∀ w',Ext w w'→K (.string (bs (ptT p q))) w') : zd Tryz.prog Tryz.Za #[.agg c.toArray,.int .i64 q] w K:=by
 refine Tryz.VQ ?_
 unfold Tryz.Xw
 obtain ⟨z1,z2,z3,z4,z5,t1,t2,t3,t4,t5,rfl,hp0⟩:=yV hp
 obtain ⟨kto,ka,kb,kl,kf⟩:=Zq hp0
 have hal:=hf.args
 have la:=Yn hf.a;have lb:=Yn hf.b;have lf:=Ym hf.fr;have lt:=Ym hf.to;have lj:=Vk hf.args
 have lst:=yn hf.st;have lfn:=yn hf.fn;have lnx:=yn hf.nx;have lel:=yn hf.el
 have ldo:=aet hf;have lgo:=aeu (q:=q) hf
 have lsg : p.sign.data.toList.length≤1000:=by have:=hf.sign;rwa [ByteArray.size,← Array.length_toList] at this
 have ho1:=hf.op1;have ho14:=hf.op14
 have S:=St.start hr
 refine S.box fun b2 w1 S=>?_
 have S : StX noX w r w1 [.cell b2 (ptL p z1 z2 z3 z4 z5 t1 t2 t3 t4 t5) 44]:=S
 refine gg_ ?_
 have S:=S.ownNil 9 1
 have S : StX noX w (r.or nothing) w1 [.row (.slice none 0 0) 9 1 0 [],.cell b2 (ptL p z1 z2 z3 z4 z5 t1 t2 t3 t4 t5) 44]:=S.to _
 refine zk (ι:=Nat × Value × List Value) (fun i=>[i.2.1,.int .i64 (i.1 : Nat)]) (fun i w'=>i.1≤p.args.length∧RowOf 1 Z2 i.2.2 (((p.args.take i.1).map opT).map bs)∧
  StX noX w (r.or nothing) w' [.row i.2.1 9 1 i.1 i.2.2,.cell b2 (ptL p z1 z2 z3 z4 z5 t1 t2 t3 t4 t5) 44]) (fun i=>p.args.length - i.1) (0,.slice none 0 0,[]) rfl ⟨Nat.zero_le _,by simpa using RowOf.nil,S⟩ ?_
 clear S
 rintro ⟨i,vp,xs⟩ dd w10 ⟨hi,hrow,S⟩ K2 hK2
 simp only at hi hrow S ⊢
 simp only [List.getD_cons_zero,List.getD_cons_succ]
 refine gg_ ?_
 refine zg (fun hlt=>?_) (fun hge=>?_)
 ·have hlt : i<p.args.length:=by omega
  obtain ⟨b',o',c',rfl,hc',hR,hcell⟩:=kl.sl.get (by decide) hlt
  have hof:=hal.2 _ (List.getElem_mem hlt)
  refine gg_ ?_
  refine zs (n:=4) hc' (fun j v hj=>by rw [Int.toNat_natCast];exact S.at (hcell j v hj)) ?_
  refine S.al fun b7 w6 S=>?_
  obtain ⟨va,rfl,hva⟩:=id hR
  obtain ⟨qa,ca,rfl,_,_⟩:=hva.sl.shape
  refine S.stB (b:=b7) fun w7 S=>?_
  refine S.ldB (b:=b7) ?_ rfl
  refine kC hT.up S.holds hR.up hof fun w8 e8=>?_
  have S:=(S.drop b7).go e8
  refine S.lit (e:=9) (cs:=[.string (bs (opT p.args[i]))]) (by kernel_rfl) fun b15 w14 S=>?_
  refine S.ap (m':=1) (Sl.blk (S.blk b15)) (fun v15 w15 S=>?_) (by omega)
  have S:=S.drop b15
  refine gg_ ?_
  refine hK2 (i+1,v15,xs ++ [.string (bs (opT p.args[i]))]) _ ⟨hlt,?_,S⟩ (by show p.args.length - (i+1)<p.args.length - i;omega)
  show RowOf 1 Z2 (xs ++ [.string (bs (opT p.args[i]))]) (((p.args.take (i+1)).map opT).map bs)
  rw [List.take_succ_eq_append_getElem hlt,List.map_append,List.map_append]
  exact hrow.snoc rfl rfl
 have hie : i=p.args.length:=by omega
 subst hie
 rw [List.take_length] at hrow
 obtain ⟨s2,S,hsl2,_,_⟩:=S.doneRow hrow (by decide) (by simp)
 refine ae8 S.holds (hsl2.up' inferInstance fun c x hx=>hx) (by rw [List.length_map];exact hal.1) (by omega) fun w11 e11=>?_
 have S:=S.go e11
 have S:=S.go (Ext.drew _)
 have lar : (Xr p.args).length≤24002002:=aaI hal
 have harg : ∀ {Q : Value→Prop},Q (.string (bs (Xr p.args)))→Q (.string (bs (([40]++qG (p.args.map opT)) ++ [41]))):=fun h=>h
 refine gA_ ?_
 refine gg_ ?_
 refine S.ldN (b:=b2) ?_
 refine gg_ ?_
 refine S.ldN (b:=b2) ?_
 refine kC hT.up S.holds ka.up hf.a fun w12 e12=>⟨e12,?_⟩
 have S:=S.go e12
 refine jo hT.up S.holds kf.up hf.fr fun w13 e13=>?_
 have S:=S.go e13
 refine zq (fun x w'=>x = [.string (bs (doT p))]∧p.op≠14∧StX noX w ((r.or nothing).or s2) w' [.cell b2 (ptL p z1 z2 z3 z4 z5 t1 t2 t3 t4 t5) 44]) (fun K14 hK14=>?_) ?_
 ·refine gg_ ?_
  refine zg (fun h1=>?_) (fun h1=>?_)
  ·have hd : doT p=opT p.a:=by rw [doT,h1];rfl
   rw [hd] at hK14
   exact hK14 _ _ ⟨rfl,by omega,S⟩
  refine gg_ ?_
  refine zg (fun h2=>?_) (fun h2=>?_)
  ·have hd : doT p=opT p.a ++ [32]++p.sign.data.toList ++ [32]++opT p.b:=by rw [doT,h2];rfl
   rw [hd] at hK14
   have S:=S.go (Ext.drew _)
   refine gA_ ?_
   rw [xq p.sign]
   refine gA_ ?_
   refine gg_ ?_
   refine S.ldN (b:=b2) ?_
   refine kC hT.up S.holds kb.up hf.b fun w18 e18=>⟨e18,?_⟩
   have S:=S.go e18
   refine gA_ ?_
   exact hK14 _ _ ⟨rfl,by omega,S⟩
  refine gg_ ?_
  refine zg (fun h3=>?_) (fun h3=>?_)
  ·have hd : doT p=p.sign.data.toList ++ [32]++opT p.a:=by rw [doT,h3];rfl
   rw [hd] at hK14
   refine gA_ ?_
   rw [xq p.sign]
   refine gA_ ?_
   exact hK14 _ _ ⟨rfl,by omega,S⟩
  refine gg_ ?_
  refine zg (fun h4=>?_) (fun h4=>?_)
  ·refine gA_ ?_
   refine c_b (fun hm=>?_) (fun hm=>?_)
   ·have hd : doT p = [38,109,117,116,32]++plT p.fr:=by rw [doT,h4,hm];rfl
    rw [hd] at hK14
    refine gA_ ?_
    exact hK14 _ _ ⟨rfl,by omega,S⟩
   ·have hd : doT p = [38,32]++plT p.fr:=by rw [doT,h4,hm];rfl
    rw [hd] at hK14
    exact hK14 _ _ ⟨rfl,by omega,S⟩
  refine gg_ ?_
  refine zg (fun h5=>?_) (fun h5=>?_)
  ·have hd : doT p = [98,111,120,32]++opT p.a:=by rw [doT,h5];rfl
   rw [hd] at hK14
   refine gA_ ?_
   exact hK14 _ _ ⟨rfl,by omega,S⟩
  refine gg_ ?_
  refine zg (fun h6=>?_) (fun h6=>?_)
  ·have hd : doT p = [35]++Lib.itoa p.st++Xr p.args:=by rw [doT,h6];rfl
   rw [hd] at hK14
   refine gA_ ?_
   refine vO hT.up hf.st S.holds fun w18 e18=>?_
   have S:=S.go e18
   refine gA_ ?_
   exact hK14 _ _ ⟨rfl,by omega,S⟩
  refine gg_ ?_
  refine zg (fun h7=>?_) (fun h7=>?_)
  ·have hd : doT p = [102]++Lib.itoa p.fn++Xr p.args:=by rw [doT,h7];rfl
   rw [hd] at hK14
   refine gA_ ?_
   refine vO hT.up hf.fn S.holds fun w18 e18=>?_
   have S:=S.go e18
   refine gA_ ?_
   exact hK14 _ _ ⟨rfl,by omega,S⟩
  refine gg_ ?_
  refine zg (fun h8=>?_) (fun h8=>?_)
  ·have hd : doT p = [114,101,97,100]:=by rw [doT,h8];rfl
   rw [hd] at hK14
   exact hK14 _ _ ⟨rfl,by omega,S⟩
  refine gg_ ?_
  refine zg (fun h9=>?_) (fun h9=>?_)
  ·have hd : doT p = [112,114,105,110,116,32]++opT p.a:=by rw [doT,h9];rfl
   rw [hd] at hK14
   refine gA_ ?_
   exact hK14 _ _ ⟨rfl,by omega,S⟩
  refine gg_ ?_
  refine zg (fun h10=>?_) (fun h10=>?_)
  ·have hd : doT p = [100,114,111,112,32]++plT p.fr:=by rw [doT,h10];rfl
   rw [hd] at hK14
   refine gA_ ?_
   exact hK14 _ _ ⟨rfl,by omega,S⟩
  refine gg_ ?_
  refine zg (fun h11=>?_) (fun h11=>?_)
  ·have hd : doT p = [100,101,97,100,32]++plT p.fr:=by rw [doT,h11];rfl
   rw [hd] at hK14
   refine gA_ ?_
   exact hK14 _ _ ⟨rfl,by omega,S⟩
  refine gg_ ?_
  refine zg (fun h12=>?_) (fun h12=>?_)
  ·have hd : doT p = [105,102,32]++opT p.a:=by rw [doT,h12];rfl
   rw [hd] at hK14
   refine gA_ ?_
   exact hK14 _ _ ⟨rfl,by omega,S⟩
  refine gg_ ?_
  refine zg (fun h13=>?_) (fun h13=>?_)
  ·have hd : doT p = [103,111,116,111]:=by rw [doT,h13];rfl
   rw [hd] at hK14
   exact hK14 _ _ ⟨rfl,by omega,S⟩
  refine gg_ ?_
  refine zg (fun h14=>?_) (fun h14=>?_)
  ·have hd : ptT p q = [114,101,116,117,114,110]:=by rw [ptT,if_pos h14]
   rw [hd] at h
   exact h _ S.ext
  exfalso;omega
 clear S
 rintro _ w17 ⟨rfl,hne,S⟩ d17
 rw [ptT,if_neg hne] at h
 refine zq (fun x w'=>x = [.string (bs ((if p.op≤8 then plT p.to ++ [32,61,32] else [])++doT p))]∧StX noX w ((r.or nothing).or s2) w' [.cell b2 (ptL p z1 z2 z3 z4 z5 t1 t2 t3 t4 t5) 44]) (fun K21 hK21=>?_) ?_
 ·refine gg_ ?_
  refine zg (fun h8=>?_) (fun h8=>?_)
  ·rw [if_pos h8] at hK21
   refine gg_ ?_
   refine S.ldN (b:=b2) ?_
   refine jo hT.up S.holds kto.up hf.to fun w18 e18=>?_
   have S:=S.go e18
   refine gA_ ?_
   exact hK21 _ _ ⟨rfl,S⟩
  ·rw [if_neg h8] at hK21
   exact hK21 _ _ ⟨rfl,S⟩
 clear S
 rintro _ w24 ⟨rfl,S⟩ d24
 have lX : ((if p.op≤8 then plT p.to ++ [32,61,32] else [])++doT p).length≤26000000:=by
  split<;>simp only [List.length_append,List.length_cons,List.length_nil]<;>omega
 generalize (if p.op≤8 then plT p.to ++ [32,61,32] else [])++doT p=X at h lX ⊢
 refine zq (fun x w'=>x = [.string (bs (X++goT p q))]∧StX noX w ((r.or nothing).or s2) w' [.cell b2 (ptL p z1 z2 z3 z4 z5 t1 t2 t3 t4 t5) 44]) (fun K26 hK26=>?_) ?_
 ·refine gg_ ?_
  refine zh (c:=decide (p.op=12)) (fun _ K2 hK2=>by refine gg_ ?_;exact hK2) ?_
  refine zh (c:=decide (p.op=13)) (fun _ K2 hK2=>by refine gg_ ?_;exact hK2) ?_
  refine c_b (fun hb=>?_) (fun hb=>?_)
  ·rw [goT,if_pos (by simpa [or_assoc] using hb)] at hK26
   refine gg_ ?_
   refine vO hT.up hf.nx S.holds fun w18 e18=>?_
   have S:=S.go e18
   refine gA_ ?_
   exact hK26 _ _ ⟨rfl,S⟩
  ·rw [goT,if_neg (by simpa [or_assoc,not_or,and_assoc] using hb),List.append_nil] at hK26
   exact hK26 _ _ ⟨rfl,S⟩
 clear S
 rintro _ w29 ⟨rfl,S⟩ d29
 refine zq (fun x w'=>x = [.string (bs ((X++goT p q)++elT p))]∧StX noX w ((r.or nothing).or s2) w' [.cell b2 (ptL p z1 z2 z3 z4 z5 t1 t2 t3 t4 t5) 44]) (fun K39 hK39=>?_) ?_
 ·refine gg_ ?_
  refine zg (fun h12=>?_) (fun h12=>?_)
  ·rw [elT,if_pos h12] at hK39
   refine gg_ ?_
   refine vO hT.up hf.el S.holds fun w18 e18=>?_
   have S:=S.go e18
   refine gA_ ?_
   exact hK39 _ _ ⟨rfl,S⟩
  ·rw [elT,if_neg h12,List.append_nil] at hK39
   exact hK39 _ _ ⟨rfl,S⟩
 clear S
 rintro _ w42 ⟨rfl,S⟩ d42
 rw [List.getD_cons_zero]
 exact h _ S.ext
end Go.Proofs
end
section
namespace Go.Proofs
open Go.Sh
set_option maxRecDepth 100000
set_option linter.unusedSimpArgs false
set_option linter.unusedVariables false
def qr (u : UnD) (fn q : Int) : Option PtD:=u.fs[fn.toNat]?.bind fun g=>g.pts[q.toNat]?
theorem QN {u : UnD} {fn q : Int} {p : PtD} (hlt : fn.toNat<u.fs.length) (h : qr u fn q=some p) : ∃ hq : q.toNat<u.fs[fn.toNat].pts.length,u.fs[fn.toNat].pts[q.toNat]=p:=by
 rw [qr,List.getElem?_eq_getElem hlt,Option.bind_some] at h
 exact List.getElem?_eq_some_iff.1 h
end Go.Proofs
end
section
namespace Go.Proofs
open Go.Sh
set_option maxRecDepth 100000
set_option linter.unusedSimpArgs false
set_option linter.unusedVariables false
end Go.Proofs
end
section
namespace Go.Sh
theorem StX.litNew {w0 w : World} {r : Gh} {L M : List Asr} {α : Type} {sz : Nat} {R : List Value→α→Prop} {l : List α} {e : TypeId} {xs : List Value} (S : StX noX w0 r w L) (b : Nat) [h : JT b L xs e M] (hr : RowOf sz R xs l) (hz : 0<sz) :
  StX noX w0 (r.or (Go.Sh.one b xs e)) w M∧SlG sz (Go.Sh.one b xs e) R (.slice (some ⟨b,0,none⟩) l.length l.length) l∧Above w0 (Go.Sh.one b xs e):=by
 have S1:=S.front b
 have hm:=S1.mine (.cell b xs e) List.mem_cons_self b rfl
 obtain ⟨S2,h2⟩:=S1.litSl hr hz
 exact ⟨S2,h2,by rintro b' o ⟨rfl,_⟩;exact hm.1.resolve_right id⟩
end Go.Sh
namespace Go.Proofs
open Go.Sh
set_option maxRecDepth 100000
set_option linter.unusedSimpArgs false
set_option linter.unusedVariables false
theorem ja {α : Type} {sz : Nat} {R : List Value→α→Prop} {c : List Value} {x : α} (hc : c.length=sz) (hx : R c x) : RowOf sz R c [x]:=RowOf.nil.snoc (xs:=[]) hc hx
theorem vN {α : Type} {sz : Nat} {R : List Value→α→Prop} {c xs : List Value} {x : α} {l : List α} (hc : c.length=sz) (hx : R c x) (h : RowOf sz R xs l) : RowOf sz R (c++xs) (x::l):=by
 obtain ⟨h1,h2⟩:=h
 refine ⟨by rw [List.length_append,List.length_cons,h1,hc,Nat.succ_mul,Nat.add_comm],fun i hi=>?_⟩
 cases i with
 |zero=>rw [Nat.zero_mul,List.drop_zero,List.take_append_of_le_length (by omega),List.take_of_length_le (by omega)];exact hx
 |succ i=>
  have e : ((c++xs).drop ((i+1)*sz))=xs.drop (i*sz):=by
   rw [show (i+1)*sz=c.length+i*sz by rw [hc,Nat.succ_mul,Nat.add_comm],← List.drop_drop,List.drop_left'];rfl
  rw [e]
  exact h2 i (by simpa using hi)
theorem XX {α : Type} {sz : Nat} {r : Gh} {R : List Value→α→Prop} {v : Value} {l : List α} (h : SlG sz r R v l) (hl : l.length≤1000000:=by decide) : SlB sz r R v l:=⟨h,by simp only [maxLen];omega⟩
abbrev Z4 : List Value:=[.int .u8 1,.bool false,.int .i64 0,.int .i64 0,.slice none 0 0]
abbrev hl3 : List Value:=[.int .u8 14,.int .i64 0,.slice none 0 0,.int .u8 0,.int .i64 0,.int .i64 0,.slice none 0 0,.int .u8 0,.int .i64 0,.int .i64 0,.slice none 0 0,.slice none 0 0,.string ByteArray.empty,.int .i64 0,.slice none 0 0,.bool false,.int .i64 0,.int .i64 0,.int .i64 0,.int .i64 0,.int .i64 0]
end Go.Proofs
end
section
namespace Go.Proofs
open Go.Sh
set_option maxRecDepth 100000
set_option linter.unusedSimpArgs false
set_option linter.unusedVariables false
theorem hst : zS ([] : List StD)=(0,0):=by unfold zS;simp [xT]
theorem ab7 (t : TyD) : xU [] t=zM 0 48 t:=by rw [xU,hst];simp
theorem Jr : ByteArray.empty.toList = []:=by rw [ByteArray.toList_eq];rfl
end Go.Proofs
end
section
namespace Go.Sh
section
variable {P : Program} {t : TypeId} {c : Bool} {K : Value→Prop}
theorem afc {a b : Int} (k : ∀ x : Int,K (.int .i64 x)) : opP P (zT .add t c (.int .i64 a) (.int .i64 b)) K:=
 ya (fun w=>by rw [xB];simp [binOp,Op.intArith]) (k (IntKind.i64.wrap (a+b)))
end
end Go.Sh
namespace Go.Proofs
open Go.Sh
set_option maxRecDepth 100000
set_option linter.unusedSimpArgs false
set_option linter.unusedVariables false
end Go.Proofs
end
section
namespace Go.Sh
open Go.RowKit
theorem J5 (z : Array Value) (n : Nat) : (Go.Builtin.zeroCells z n).toList.length=n*z.size∧∀ u ∈ (Go.Builtin.zeroCells z n).toList,u ∈ z.toList:=by
 refine ⟨by simp [Go.Builtin.zeroCells],fun u hu=>?_⟩
 simp only [Go.Builtin.zeroCells,Array.toList_map,Array.toList_range,List.mem_map,List.mem_range] at hu
 obtain ⟨i,hi,rfl⟩:=hu
 have hz : 0<z.size:=by
  rcases Nat.eq_zero_or_pos z.size with h|h
  ·rw [h,Nat.mul_zero] at hi;omega
  ·exact h
 have hm:=Nat.mod_lt i hz
 rw [getElem!_pos z (i % z.size) hm]
 simp
section
variable {P : Program} {X : Nat→Prop} {w0 w : World} {r : Gh} {L : List Asr} {t e T ty : TypeId} {b sz n off cap : Nat} {c z : List Value} {f : List Value→List Asr}
theorem StX.clr {K : Value→World→Prop} (S : StX X w0 r w L) [h : At b L c T f] [hs : SlT P t e sz] [hz : ZrT P e z] (hl : off+n*z.length≤c.length) (h1 : ∀ u ∈ z,u.oneCell'=true)
  (k : ∀ c' w',c'.length=c.length→c'.take off=c.take off→StX X w0 r w' (f c')→K (.tuple #[]) w') : opW P w (Builtin.clear_ #[t] ty #[.slice (some ⟨b,off,none⟩) n cap]) K:=by
 have hT:=hs.h
 unfold slT at hT
 cases hu : P.underlying t with
 |none=>rw [hu] at hT;cases hT
 |some d=>
  rw [hu] at hT
  cases d<;>first|(cases hT;done)|skip
  rename_i e'
  simp only [Option.map_eq_some_iff,Prod.mk.injEq] at hT
  obtain ⟨m,hm,rfl,rfl⟩:=hT
  have B:=S.blk b (h:=h)
  obtain ⟨zv,hzc,hzr⟩:=Yx hz.h
  cases n with
  |zero=>
   have S' : StX X w0 r w (f c):=by
    obtain ⟨p,q,h1,h2⟩:=h.h
    rw [h2,← h1];exact S
   refine ⟨_,w,?_,k c w rfl rfl S'⟩
   simp [Builtin.clear_,run_underlying hu,Sem.run_bind,Sem.run,pure,Result.andThen]
  |succ n=>
   obtain ⟨hzl,hzm⟩:=J5 zv.cells (n+1)
   have hzs : zv.cells.size=z.length:=by rw [← hzc,Array.length_toList]
   have hst:=run_storeCells_at P b off T (Go.Builtin.zeroCells zv.cells (n+1)).toList 0 c.toArray w B (by
    rw [hzl,hzs];simpa using hl) (fun u hu=>h1 u (by rw [← hzc];exact hzm u hu))
   simp only [Nat.add_zero] at hst
   obtain ⟨f1,f2,f3⟩:=vT B (c.take off++(Go.Builtin.zeroCells zv.cells (n+1)).toList++c.drop (off+(Go.Builtin.zeroCells zv.cells (n+1)).toList.length))
   refine ⟨_,_,?_,k _ _ ?_ ?_ (S.turnC (h:=h) f1 f3)⟩
   ·simp [Builtin.clear_,run_underlying hu,Sem.run_bind,Sem.run,pure,Result.andThen,hzr,hst]
    try rfl
   ·simp only [List.length_append,List.length_take,List.length_drop,hzl,hzs];omega
   ·rw [List.append_assoc,List.take_append_of_le_length (by rw [List.length_take];omega),List.take_take,Nat.min_self]
end
end Go.Sh
end
section
namespace Go.Proofs
open Go.Sh
set_option maxRecDepth 100000
set_option linter.unusedSimpArgs false
set_option linter.unusedVariables false
theorem jK {u : UnD} {g : GrD} {p : PtD} (h : zC u g p=true) : ptG u g p=true:=by
 rw [zC,Bool.and_eq_true] at h;exact h.2
theorem aaV {u : UnD} {g : GrD} {p : PtD} (h : zC u g p=true) (ho : 1≤p.op∧p.op≤8) : (zp u.ss g.tys p.to).2.2=true:=by
 have h2:=jK h
 cases hf : (zp u.ss g.tys p.to).2.2 with
 |true=>rfl
 |false=>
  have hc : p.op=1∨p.op=2∨p.op=3∨p.op=4∨p.op=5∨p.op=6∨p.op=7∨p.op=8:=by omega
  rw [ptG] at h2
  rcases hc with hc|hc|hc|hc|hc|hc|hc|hc<;>simp [hc,hf] at h2
theorem YI {ss : List StD} {tys : List TyD} {p : PlD} (h : (zp ss tys p).2.2=true) : p.ps.length≤8:=by
 unfold zp at h
 split at h
 ·simpa using h
 ·cases h
theorem aaW {u : UnD} {g : GrD} {p : PtD} (h : zC u g p=true) (ho : 1≤p.op∧p.op≤8) : p.to.ps.length≤8:=YI (aaV h ho)
noncomputable def fnE (u : UnD) (n : Int) : Int:=if (decide (n<0)||decide ((u.fs.length : Int)≤n)) || !qM u then 2 else 0
theorem Zr {u : UnD} {n : Int} (h : fnE u n=0) : MayU u∧0≤n∧n.toNat<u.fs.length:=by
 unfold fnE at h
 split at h
 ·cases h
 ·rename_i hc
  simp only [Bool.or_eq_true,decide_eq_true_eq,Bool.not_eq_true',not_or,Bool.not_eq_false] at hc
  exact ⟨kh.1 hc.2,by omega,by omega⟩
noncomputable def ptE (u : UnD) (n q : Int) : Int:=if fnE u n=0∧0≤q∧q<((u.fs[n.toNat]?.map fun g=>(g.pts.length : Int)).getD 0) then 0 else 2
theorem Js {u : UnD} {n q : Int} (h : ptE u n q=0) : fnE u n=0∧0≤q∧∃ hn : n.toNat<u.fs.length,q.toNat<u.fs[n.toNat].pts.length:=by
 unfold ptE at h
 split at h
 ·rename_i hc
  obtain ⟨h1,h2,h3⟩:=hc
  have hn:=(Zr h1).2.2
  rw [List.getElem?_eq_getElem hn] at h3
  have h3 : q<(u.fs[n.toNat].pts.length : Int):=h3
  exact ⟨h1,h2,hn,by omega⟩
 ·cases h
def aec : GrD:=⟨ByteArray.empty,0,[],0,[],[],[]⟩
abbrev ac5 : List Value:=[.string ByteArray.empty,.int .i64 0,.slice none 0 0,.int .i64 0,.slice none 0 0,.slice none 0 0,.slice none 0 0]
theorem aeA {r : Gh} : GrG r ac5 aec:=⟨_,_,_,_,rfl,xm,xm,xm,xm⟩
abbrev grL (g : GrD) (q1 q2 q3 q4 : Option Addr) (c1 c2 c3 c4 : Nat) : List Value:=[.string g.name,.int .i64 g.lv,.slice q1 g.outs.length c1,.int .i64 g.pn,.slice q2 g.tys.length c2,.slice q3 g.nms.length c3,.slice q4 g.pts.length c4]
theorem xr {r : Gh} {c : List Value} {g : GrD} (h : GrG r c g) : ∃ q1 q2 q3 q4 c1 c2 c3 c4,c=grL g q1 q2 q3 q4 c1 c2 c3 c4∧GrG r (grL g q1 q2 q3 q4 c1 c2 c3 c4) g:=by
 obtain ⟨vo,vt,vn,vp,rfl,k1,k2,k3,k4⟩:=id h
 obtain ⟨q1,c1,rfl,_⟩:=k1.sl.shape
 obtain ⟨q2,c2,rfl,_⟩:=k2.sl.shape
 obtain ⟨q3,c3,rfl,_⟩:=k3.sl.shape
 obtain ⟨q4,c4,rfl,_⟩:=k4.sl.shape
 exact ⟨q1,q2,q3,q4,c1,c2,c3,c4,rfl,h⟩
theorem Jt {u : UnD} {n : Int} {v : Value} {w : World} {r : Gh} {K : Value→World→Prop} (hr : Holds r w) (hu : UnG r v u)
  (h : ∀ c g w',Ext w w'→GrG r c g→(fnE u n=0→u.fs[n.toNat]? = some g)→(fnE u n≠0→g.pts = [])→K (.tuple #[.agg c.toArray,.int .i64 (fnE u n)]) w') : zd Tryz.prog Tryz.vI #[v,.int .i64 n] w K:=by
 refine Tryz.abj ?_
 unfold Tryz.Q9
 have hu0:=hu
 obtain ⟨p0,cap0,vf,rfl,_,_,hst,hsl,hfn⟩:=hu
 obtain ⟨qf,capf,rfl,_,_⟩:=hfn.sl.shape
 have hfl : u.fs.length≤9223372036854775807:=hfn.few
 have S:=St.start hr
 refine S.box fun b2 w1 S=>?_
 have S : StX noX w r w1 [.cell b2 [.slice p0 u.ss.length cap0,.slice qf u.fs.length capf,.int .i64 u.mn] 25]:=S
 refine S.al fun b4 w2 S=>?_
 refine gp_ ?_
 refine zh (c:=decide ((u.fs.length : Int)≤n)) (fun _ K2 hK2=>by refine gg_ ?_;exact hK2) ?_
 refine xw (c:=!qM u) (fun _ K2 hK2=>?_) fun w3 e3=>?_
 ·refine S.ldB (b:=b2) ?_ rfl
  refine xc S.holds hu0 fun w3 e3=>?_
  refine gp_ ?_
  exact hK2 _ e3
 have S:=S.go e3
 refine c_b (fun hb=>?_) (fun hb=>?_)
 ·have hE : fnE u n=2:=by rw [fnE,if_pos hb]
  rw [hE] at h
  refine zu (cs:=ac5.toArray) (by kernel_rfl) ?_
  refine S.stB (b:=b4) fun w4 S=>?_
  refine S.ceB (b:=b4) ?_ rfl
  exact h _ aec _ S.ext aeA (fun h=>by cases h) fun _=>rfl
 ·have hE : fnE u n=0:=by rw [fnE,if_neg (by rw [hb];decide)]
  obtain ⟨_,hn0,hlt⟩:=Zr hE
  rw [hE] at h
  obtain ⟨bf,of,cf,rfl,hcf,hgc,hfo⟩:=hfn.sl.get (by decide) hlt
  rw [List.getElem?_eq_getElem hlt] at h
  generalize u.fs[n.toNat]=g at h hgc
  obtain ⟨x1,x2,x3,x4,y1,y2,y3,y4,rfl,hg0⟩:=xr hgc
  refine gg_ ?_
  refine zs (n:=7) hcf (fun j v hj=>S.at (hfo j v hj)) ?_
  refine S.stB (b:=b4) fun w4 S=>?_
  refine S.ceB (b:=b4) ?_ rfl
  exact h _ g _ S.ext hg0 (fun _=>rfl) fun h=>absurd rfl h
theorem kt {u : UnD} {n q : Int} {v : Value} {w : World} {r : Gh} {K : Value→World→Prop} (hr : Holds r w) (hu : UnG r v u)
  (h : ∀ c p w',Ext w w'→PtG r c p→(ptE u n q=0→qr u n q=some p)→K (.tuple #[.agg c.toArray,.int .i64 (ptE u n q)]) w') : zd Tryz.prog Tryz.xj #[v,.int .i64 n,.int .i64 q] w K:=by
 refine Tryz.JM ?_
 unfold Tryz.YP
 have hu0:=hu
 obtain ⟨p0,cap0,vf,rfl,_,_,hst,hsl,hfn⟩:=hu
 obtain ⟨qf,capf,rfl,_,_⟩:=hfn.sl.shape
 have S:=St.start hr
 refine S.box fun b3 w1 S=>?_
 have S : StX noX w r w1 [.cell b3 [.slice p0 u.ss.length cap0,.slice qf u.fs.length capf,.int .i64 u.mn] 25]:=S
 refine S.al fun b6 w2 S=>?_
 refine S.ldB (b:=b3) ?_ rfl
 refine Jt S.holds hu0 fun c g w3 e3 hg hgi _=>?_
 have S:=S.go e3
 obtain ⟨x1,x2,x3,x4,y1,y2,y3,y4,rfl,hg0⟩:=xr hg
 refine gS_ ?_
 refine S.al fun b8 w4 S=>?_
 refine S.stB (b:=b8) fun w5 S=>?_
 refine gp_ ?_
 refine zh (c:=decide (q<0)) (fun _ K2 hK2=>by refine gg_ ?_;exact hK2) ?_
 refine zh (c:=decide ((g.pts.length : Int)≤q)) (fun _ K2 hK2=>by refine gg_ ?_;exact hK2) ?_
 have hP : ptE u n q=if ((decide (fnE u n≠0)||decide (q<0))||decide ((g.pts.length : Int)≤q))=true then 2 else 0:=by
  unfold ptE
  by_cases h0 : fnE u n=0
  ·have e : ((u.fs[n.toNat]?.map fun g=>(g.pts.length : Int)).getD 0)=g.pts.length:=by rw [hgi h0];rfl
   rw [e]
   by_cases h1 : q<0
   ·rw [if_neg (by omega),if_pos (by rw [decide_eq_true h1];simp)]
   by_cases h2 : (g.pts.length : Int)≤q
   ·rw [if_neg (by omega),if_pos (by rw [decide_eq_true h2];simp)]
   ·rw [if_pos ⟨h0,by omega,by omega⟩,if_neg (by rw [decide_eq_false (show ¬ fnE u n≠0 by omega),decide_eq_false h1,decide_eq_false h2];decide)]
  ·rw [if_neg (fun hh=>h0 hh.1),if_pos (by rw [decide_eq_true (show fnE u n≠0 from h0)];rfl)]
 refine c_b (fun hb=>?_) (fun hb=>?_)
 ·rw [if_pos hb] at hP
  rw [hP] at h
  refine zu (cs:=abF.toArray) (by kernel_rfl) ?_
  refine S.stB (b:=b6) fun w6 S=>?_
  refine S.ceB (b:=b6) ?_ rfl
  exact h _ ac4 _ S.ext adP fun h=>by cases h
 ·rw [if_neg (by rw [hb];decide)] at hP
  rw [hP] at h
  simp only [Bool.or_eq_false_iff,decide_eq_false_iff_not] at hb
  obtain ⟨⟨hf,hq0⟩,hql⟩:=hb
  have hgn:=hgi (by omega)
  obtain ⟨_,_,_,_,hE,_,_,_,hpts⟩:=hg0
  cases hE
  have hlq : q.toNat<g.pts.length:=by omega
  obtain ⟨bp,op,cp,rfl,hcp,hpc,hpo⟩:=hpts.sl.get (by decide) hlq
  have hpa : qr u n q=some g.pts[q.toNat]:=by rw [qr,hgn,Option.bind_some,List.getElem?_eq_getElem hlq]
  rw [hpa] at h
  generalize g.pts[q.toNat]=p at h hpc
  obtain ⟨z1,z2,z3,z4,z5,t1,t2,t3,t4,t5,rfl,hp0⟩:=yV hpc
  refine gg_ ?_
  refine zs (n:=21) hcp (fun j v hj=>S.at (hpo j v hj)) ?_
  refine S.stB (b:=b6) fun w6 S=>?_
  refine S.ceB (b:=b6) ?_ rfl
  exact h _ p _ S.ext hp0 fun _=>rfl
theorem aaX {r : Gh} {p : Option Addr} {n cap : Nat} {l : List Int} (h : SlB 1 r qm (.slice p n cap) l) : Ob r fun w=>Sl w p (ints l):=aez (h.sl.mono fun c x hx=>hx.1)
theorem Vt {l : List Int} (h : ∀ x ∈ l,yD x) : RowOf 1 qm (ints l) l:=⟨by rw [ke,Nat.mul_one],fun j hj=>by
 refine ⟨?_,h _ (List.getElem_mem hj)⟩
 rw [Nat.mul_one,ints,← List.map_drop,← List.map_take,List.drop_eq_getElem_cons hj];rfl⟩
theorem abq {l : List Int} {p : Option Addr} {cap : Nat} {w : World} {r : Gh} {K : Value→World→Prop} (hr : Holds r w) (hl : SlB 1 r qm (.slice p l.length cap) l) (hb : l.length≤1000000)
  (h : ∀ v' s w',Ext w w'→New w s w'→SlB 1 s qm v' l→K v' w') : zd Tryz.prog Tryz.yk #[.slice p l.length cap] w K:=by
 refine Tryz.qz ?_
 unfold Tryz.xg
 have S:=St.start hr
 have hin : ∀ x ∈ l,yD x:=fun x hx=>by
  obtain ⟨i,hi,rfl⟩:=List.getElem_of_mem hx
  obtain ⟨_,_,_,_,_,hc,_⟩:=hl.sl.get (by decide) hi
  exact hc.2
 obtain ⟨_,_,hE,hp,_⟩:=hl.sl.shape
 cases hE
 refine adt (e:=138) (n:=1) (by kernel_rfl) ?_
 refine c_b (fun hn=>?_) (fun hn=>?_)
 ·have hws : l = []:=by
   cases l with
   |nil=>rfl
   |cons a l=>obtain ⟨b,off,hb,_⟩:=(aaX hl w hr) 0 (.int .i64 a) rfl;rw [hb] at hn;cases hn
  subst hws
  exact h _ nothing _ S.ext New.nothing xm
 refine S.lit (e:=138) (cs:=[]) (by kernel_rfl) fun b w1 S=>?_
 have S : StX noX w r w1 [.row (.slice (some ⟨b,0,none⟩) 0 0) 138 1 0 []]:=by
  refine ⟨S.x,S.holds,fun x hx=>?_,fun x hx k hk=>?_,List.pairwise_singleton _ _⟩
  ·rw [List.mem_singleton.1 hx]
   have:=vH (w:=w1) (base:=0) (size:=1) (n:=0) (cap:=0) (Nat.zero_le _) (S.has (.cell b [] 138) (by simp)) (Nat.le_refl _) (by simp [maxLen]) rfl
   exact this
  ·rw [List.mem_singleton.1 hx] at hk
   exact S.mine (.cell b [] 138) (by simp) k (by cases hk;rfl)
 refine S.ap (v:=.slice (some ⟨b,0,none⟩) 0 0) (S.at (aaX hl)) (fun v2 w2 S=>?_) (by omega) (by rw [ke];omega) hp (Ve _)
 obtain ⟨s,S,hs,_,ha⟩:=S.doneRow (l:=l) (R:=qm) (sz:=1) (by rw [List.nil_append];exact Vt hin) (by decide) (by omega)
 exact h _ s _ S.ext (S.newOf fun b o ho=>(ha b o ho).resolve_right id) ⟨hs,by simp only [maxLen];omega⟩
theorem qN {p : PlD} {c : List Value} {w : World} {r : Gh} {K : Value→World→Prop} (hr : Holds r w) (hp : PlG r c p) (hb : p.ps.length≤1000000)
  (h : ∀ c' s w',Ext w w'→New w s w'→PlG s c' p→K (.agg c'.toArray) w') : zd Tryz.prog Tryz.x9 #[.agg c.toArray] w K:=by
 refine Tryz.X1 ?_
 unfold Tryz.Zh
 obtain ⟨v,rfl,hl⟩:=hp
 obtain ⟨qs,caps,rfl,_,_⟩:=hl.sl.shape
 have S:=St.start hr
 refine S.box fun b1 w1 S=>?_
 have S : StX noX w r w1 [.cell b1 [.int .i64 p.l,.slice qs p.ps.length caps] 38]:=S
 refine S.al fun b2 w2 S=>?_
 have S:=S.go (Ext.drew _)
 refine gg_ ?_
 refine abq S.holds hl hb fun v3 s w3 e3 n3 h3=>⟨e3,?_⟩
 obtain ⟨S,d3,a3⟩:=S.tell e3 n3
 obtain ⟨q3,c3,rfl,_,_⟩:=h3.sl.shape
 refine zu (cs:=#[.int .i64 p.l,.slice q3 p.ps.length c3]) (by kernel_rfl) ?_
 refine S.stB (b:=b2) fun w4 S=>?_
 refine S.ceB (b:=b2) ?_ rfl
 exact h _ s _ S.ext (S.newOf a3) ⟨_,rfl,h3⟩
theorem XE {o : OpD} {c : List Value} {w : World} {r : Gh} {K : Value→World→Prop} (hr : Holds r w) (ho : OpG r c o) (hb : o.pl.ps.length≤1000000)
  (h : ∀ c' s w',Ext w w'→New w s w'→OpG s c' o→K (.agg c'.toArray) w') : zd Tryz.prog Tryz.kN #[.agg c.toArray] w K:=by
 refine Tryz.Y2 ?_
 unfold Tryz.j0
 obtain ⟨v,rfl,hl⟩:=ho
 obtain ⟨qs,caps,rfl,_,_⟩:=hl.sl.shape
 have S:=St.start hr
 refine S.box fun b1 w1 S=>?_
 have S : StX noX w r w1 [.cell b1 [.int .u8 o.k,.int .i64 o.n,.int .i64 o.pl.l,.slice qs o.pl.ps.length caps] 41]:=S
 refine S.al fun b2 w2 S=>?_
 refine gg_ ?_
 refine S.ldN (b:=b1) ?_
 refine qN (p:=o.pl) S.holds ⟨_,rfl,hl⟩ hb fun c3 s w3 e3 n3 h3=>?_
 obtain ⟨S,d3,a3⟩:=S.tell e3 n3
 obtain ⟨v3,rfl,hl3⟩:=h3
 obtain ⟨q3,k3,rfl,_,_⟩:=hl3.sl.shape
 refine gg_ ?_
 refine S.stN (b:=b1) fun w4 S=>?_
 refine S.ldB (b:=b1) ?_ rfl
 refine S.stB (b:=b2) fun w5 S=>?_
 refine S.ceB (b:=b2) ?_ rfl
 exact h _ s _ S.ext (S.newOf a3) ⟨_,rfl,hl3⟩
noncomputable def XF (u : UnD) (n q : Int) : Option PlD:=if ptE u n q≠0 then none else match qr u n q with|some p=>if p.op<1∨8<p.op then none else some p.to|none=>none
theorem Ju {u : UnD} {n q : Int} {v : Value} {w : World} {r : Gh} {K : Value→World→Prop} (hr : Holds r w) (hu : UnG r v u)
  (hN : ∀ e w',XF u n q=none→Ext w w'→K (.tuple #[.agg #[.int .i64 0,.slice none 0 0],.bool false,.int .i64 e]) w')
  (hS : ∀ p c s w',XF u n q=some p→Ext w w'→New w s w'→PlG s c p→K (.tuple #[.agg c.toArray,.bool true,.int .i64 0]) w') : zd Tryz.prog Tryz.xy #[v,.int .i64 n,.int .i64 q] w K:=by
 refine Tryz.Zf ?_
 unfold Tryz.ji
 have hu0:=hu
 obtain ⟨p0,cap0,vf,rfl,_,_,hst,hsl,hfn⟩:=hu
 obtain ⟨qf,capf,rfl,_,_⟩:=hfn.sl.shape
 have S:=St.start hr
 refine S.box fun b3 w1 S=>?_
 have S : StX noX w r w1 [.cell b3 [.slice p0 u.ss.length cap0,.slice qf u.fs.length capf,.int .i64 u.mn] 25]:=S
 refine S.al fun b6 w2 S=>?_
 refine S.ldB (b:=b3) ?_ rfl
 refine kt S.holds hu0 fun c p w3 e3 hp hpi=>?_
 have S:=S.go e3
 obtain ⟨z1,z2,z3,z4,z5,t1,t2,t3,t4,t5,rfl,hp0⟩:=yV hp
 refine gS_ ?_
 refine S.al fun b9 w4 S=>?_
 refine S.stB (b:=b9) fun w5 S=>?_
 refine gp_ ?_
 refine zh (c:=decide (p.op<1)) (fun _ K2 hK2=>by refine gg_ ?_;exact hK2) ?_
 refine zh (c:=decide (8<p.op)) (fun _ K2 hK2=>by refine gg_ ?_;exact hK2) ?_
 refine c_b (fun hb=>?_) (fun hb=>?_)
 ·have hA : XF u n q=none:=by
   unfold XF
   by_cases h0 : ptE u n q=0
   ·rw [if_neg (by omega),hpi h0]
    simp only [Bool.or_eq_true,decide_eq_true_eq] at hb
    dsimp only
    rw [if_pos (by omega)]
   ·rw [if_pos h0]
  refine S.ldB (b:=b6) ?_ rfl
  refine S.stB (b:=b6) fun w6 S=>?_
  refine S.ceB (b:=b6) ?_ rfl
  exact hN _ _ hA S.ext
 ·simp only [Bool.or_eq_false_iff,decide_eq_false_iff_not] at hb
  have h0 : ptE u n q=0:=by omega
  have hA : XF u n q=some p.to:=by
   unfold XF
   rw [if_neg (by omega),hpi h0]
   dsimp only
   rw [if_neg (by omega)]
  obtain ⟨_,_,_,_,_,hE,k1,_⟩:=id hp0
  cases hE
  have hpl : p.to.ps.length≤1000000:=by
   obtain ⟨hf,hq0,hn,hql⟩:=Js h0
   obtain ⟨hM,_,_⟩:=Zr hf
   obtain ⟨_,hpe⟩:=QN hn (hpi h0)
   have hpg:=hM.pts _ (List.getElem_mem hn) p (by rw [← hpe];exact List.getElem_mem _)
   have:=aaW hpg (by omega)
   omega
  refine gg_ ?_
  refine S.ldN (b:=b9) ?_
  refine qN (p:=p.to) S.holds ⟨_,rfl,k1⟩ hpl fun c6 s w6 e6 n6 h6=>?_
  obtain ⟨S,d6,a6⟩:=S.tell e6 n6
  obtain ⟨v6,rfl,hl6⟩:=id h6
  obtain ⟨q6,k6,rfl,_,_⟩:=hl6.sl.shape
  refine S.stB (b:=b6) fun w7 S=>?_
  refine S.ceB (b:=b6) ?_ rfl
  exact hS _ _ s _ hA S.ext (S.newOf a6) h6
noncomputable def Z5 (u : UnD) (n : Int) (p : PlD) : TyD × Int:=if fnE u n≠0 then (zL,2) else match u.fs[n.toNat]? with
 |some g=>if (zp u.ss g.tys p).2.2 then ((zp u.ss g.tys p).1,0) else (zL,2)|none=>(zL,2)
theorem Zs {u : UnD} {n : Int} {p : PlD} {c : List Value} {v : Value} {w : World} {r : Gh} {K : Value→World→Prop} (hr : Holds r w) (hu : UnG r v u) (hp : PlG r c p)
  (h : ∀ v' sn w',Ext w w'→New w sn w'→TyG sn v' (Z5 u n p).1→K (.tuple #[v',.int .i64 (Z5 u n p).2]) w') : zd Tryz.prog Tryz.kM #[v,.int .i64 n,.agg c.toArray] w K:=by
 refine Tryz.VF ?_
 unfold Tryz.Xf
 have hu0:=hu
 obtain ⟨p0,cap0,vf,rfl,_,_,hst,hsl,hfn⟩:=hu
 obtain ⟨qf,capf,rfl,_,_⟩:=hfn.sl.shape
 obtain ⟨vq,rfl,hl⟩:=id hp
 obtain ⟨qs,caps,rfl,_,_⟩:=hl.sl.shape
 have S:=St.start hr
 refine S.box fun b3 w1 S=>?_
 have S : StX noX w r w1 [.cell b3 [.slice p0 u.ss.length cap0,.slice qf u.fs.length capf,.int .i64 u.mn] 25]:=S
 refine S.box fun b5 w2 S=>?_
 have S : StX noX w r w2 [.cell b5 [.int .i64 p.l,.slice qs p.ps.length caps] 38,.cell b3 [.slice p0 u.ss.length cap0,.slice qf u.fs.length capf,.int .i64 u.mn] 25]:=S
 refine S.al fun b6 w3 S=>?_
 refine S.ldB (b:=b3) ?_ rfl
 refine Jt S.holds hu0 fun cg g w4 e4 hg hgi _=>?_
 have S:=S.go e4
 obtain ⟨x1,x2,x3,x4,y1,y2,y3,y4,rfl,hg0⟩:=xr hg
 refine gS_ ?_
 refine S.al fun b8 w5 S=>?_
 refine S.stB (b:=b8) fun w6 S=>?_
 refine gp_ ?_
 refine zg (fun hne=>?_) (fun heq=>?_)
 ·have hE : fnE u n=2:=by unfold fnE at hne ⊢;split<;>rename_i hc;rfl;rw [if_neg hc] at hne;exact absurd rfl hne
  have hT : Z5 u n p=(zL,2):=by rw [Z5,if_pos hne]
  rw [hT] at h
  rw [hE]
  refine zu (cs:=#[.int .u8 0,.bool false,.int .i64 0,.int .i64 0,.slice none 0 0]) (by kernel_rfl) ?_
  refine S.stB (b:=b6) fun w7 S=>?_
  refine S.ceB (b:=b6) ?_ rfl
  exact h _ nothing _ S.ext New.nothing kA
 have h0 : fnE u n=0:=by omega
 have hgn:=hgi h0
 obtain ⟨hM,hn0,hlt⟩:=Zr h0
 have hgm : g ∈ u.fs:=List.mem_of_getElem? hgn
 have hff:=hM.fine hgm
 have hT : Z5 u n p=if (zp u.ss g.tys p).2.2 then ((zp u.ss g.tys p).1,0) else (zL,2):=by rw [Z5,if_neg heq,hgn]
 rw [hT] at h
 obtain ⟨t,m,ok,hsp⟩ : ∃ t m ok,zp u.ss g.tys p=(t,m,ok):=⟨_,_,_,rfl⟩
 have hfs:=Vm hff (p:=p)
 rw [hsp] at h hfs
 refine S.ldB (b:=b3) ?_ rfl
 refine S.ldB (b:=b8) ?_ rfl
 refine zu (cs:=#[.slice p0 u.ss.length cap0,.slice qf u.fs.length capf,.int .i64 u.mn,.string g.name,.int .i64 g.lv,.slice x1 g.outs.length y1,.int .i64 g.pn,.slice x2 g.tys.length y2,.slice x3 g.nms.length y3,.slice x4 g.pts.length y4]) (by kernel_rfl) ?_
 refine S.ldB (b:=b5) ?_ rfl
 refine yo S.holds ⟨_,_,_,_,_,_,_,rfl,hu0,hg0⟩ hff hp hsp fun q7 c7 w7 e7 ht7=>?_
 have S:=S.go e7
 refine S.al fun b10 w8 S=>?_
 refine S.stB (b:=b10) fun w9 S=>?_
 refine gg_ ?_
 refine c_b (fun hb=>?_) (fun hb=>?_)
 ·have hb : ok=false:=by simpa using hb
  subst hb
  refine zu (cs:=#[.int .u8 0,.bool false,.int .i64 0,.int .i64 0,.slice none 0 0]) (by kernel_rfl) ?_
  refine S.stB (b:=b6) fun w10 S=>?_
  refine S.ceB (b:=b6) ?_ rfl
  exact h _ nothing _ S.ext New.nothing kA
 ·have hb : ok=true:=by simpa using hb
  subst hb
  have hB : isB t=true:=(hfs rfl).is hff.few
  refine gg_ ?_
  refine S.ldN (b:=b10) ?_
  refine abl S.holds ht7 fun v5 sn w10 e10 n10 h10 hc10=>?_
  rw [hB] at h10 ⊢
  obtain ⟨S,d10,a10⟩:=S.tell e10 n10
  have h100:=h10
  obtain ⟨p10,cap10,rfl,_⟩:=h10
  refine gS_ ?_
  refine S.stB (b:=b6) fun w11 S=>?_
  refine S.ceB (b:=b6) ?_ rfl
  exact h _ sn _ S.ext (S.newOf a10) h100
end Go.Proofs
end
section
namespace Go.Proofs
open Go.Sh
set_option maxRecDepth 100000
set_option linter.unusedSimpArgs false
set_option linter.unusedVariables false
def afd (u : UnD) : Prop:=∀ g ∈ u.fs,g.pts.length≤1100∧∀ p ∈ g.pts,p.fit
theorem ac6 {u : UnD} {n q : Int} {p : PtD} (h : qr u n q=some p) : ∃ g ∈ u.fs,p ∈ g.pts:=by
 rw [qr] at h
 cases hg : u.fs[n.toNat]? with
 |none=>rw [hg] at h;cases h
 |some g=>
  rw [hg] at h
  exact ⟨g,List.mem_of_getElem? hg,List.mem_of_getElem? h⟩
noncomputable def Jv (u : UnD) (n q : Int) : List UInt8:=if ptE u n q=0 then (match qr u n q with|some p=>ptT p q|none=>[]) else []
theorem aaY {u : UnD} {n q : Int} {v : Value} {w : World} {r : Gh} {K : Value→World→Prop} (hT : TabZ r) (hr : Holds r w) (hu : UnG r v u) (hf : MayU u→afd u)
  (h : ∀ w',Ext w w'→K (.tuple #[.string (bs (Jv u n q)),.int .i64 (ptE u n q)]) w') : zd Tryz.prog Tryz.vX #[v,.int .i64 n,.int .i64 q] w K:=by
 refine Tryz.VN ?_
 unfold Tryz.Xt
 have hu0:=hu
 obtain ⟨p0,cap0,vf,rfl,_,_,hst,hsl,hfn⟩:=hu
 obtain ⟨qf,capf,rfl,_,_⟩:=hfn.sl.shape
 have S:=St.start hr
 refine S.box fun b3 w1 S=>?_
 have S : StX noX w r w1 [.cell b3 [.slice p0 u.ss.length cap0,.slice qf u.fs.length capf,.int .i64 u.mn] 25]:=S
 refine S.ldB (b:=b3) ?_ rfl
 refine kt S.holds hu0 fun c p w2 e2 hp hpt=>?_
 have S:=S.go e2
 obtain ⟨z1,z2,z3,z4,z5,t1,t2,t3,t4,t5,rfl,hp0⟩:=yV hp
 refine gS_ ?_
 refine S.al fun b8 w3 S=>?_
 refine S.stB (b:=b8) fun w4 S=>?_
 refine gp_ ?_
 refine zg (fun hne=>?_) (fun heq=>?_)
 ·rw [Jv,if_neg hne] at h
  exact h _ S.ext
 have hz : ptE u n q=0:=by omega
 have hpe:=hpt hz
 obtain ⟨hf0,hq0,hn,hql⟩:=Js hz
 have hM:=(Zr hf0).1
 obtain ⟨g,hg,hpg⟩:=ac6 hpe
 have hfit:=hf hM g hg
 have hqq : q≤1000000:=by
  have:=(hf hM _ (List.getElem_mem hn)).1;omega
 rw [Jv,if_pos hz,hpe] at h
 refine S.ldB (b:=b8) ?_ rfl
 refine aaU hT S.holds hp0 (hfit.2 p hpg) ⟨hq0,hqq⟩ fun w5 e5=>?_
 exact h _ (S.go e5).ext
end Go.Proofs
end
section
namespace Go.Proofs.Tryz
open Go.Sh
set_option maxRecDepth 100000
def yE (t0 t1 t2 : Value) (w : World) (K : VW) : Prop:=
 pp (Builtin.len_ #[82] 3 #[t0]) fun t11=>pp (Builtin.len_ #[82] 3 #[t1]) fun t13=>bf .neq 3 t11 t13 fun t14=>zb t14 (K fa_ w) (pp (Builtin.len_ #[82] 3 #[t0]) fun t16=>zm [(i6 0)] w (fun s2 _d3 w4 K1=>
 bf .lss 3 (s2.getD 0 undef) t16 fun t18=>zb t18 (xl w4 82 t0 (s2.getD 0 undef) 86 fun t21=>pw w4 (Instr.alloc 86 true (.tuple #[])) fun t8 w5=>
 so w5 86 t8 t21 fun w6=>xl w6 82 t1 (s2.getD 0 undef) 86 fun t25=>pw w6 (Instr.alloc 86 true (.tuple #[])) fun t9 w7=>
 so w7 86 t9 t25 fun w8=>lo w8 86 t8 fun t27=>lo w8 86 t9 fun t28=>cv t2 #[t27,t28] w8 fun t29 w9=>
 pp (Op.unary .not t29) fun t30=>zb t30 (K fa_ w9) (bt .add 3 (s2.getD 0 undef) (i6 1) fun t31=>K1 [t31] w9)) (K tr_ w4)))
theorem yz {t0 t1 t2 : Value} {w : World} {K : VW} (h : yE t0 t1 t2 w K) : zd prog zx #[t0,t1,t2] w K:=
 okC false (.s (.r (rz 1 0 0)) (.s (.s (.r (rz 5 0 0)) (.c (.s (.r (rz 1 0 0)) (.n)) (.n))) (.s (.s (.r (rz 3 0 0)) (.b (.lp [17] (.s (.r (rz 1 0 0)) (.s (.c (.n) (.n)) (.s (.b (.s (.r (rz 6 0 2192)) (.s (.r (rz 6 0 2624)) (.s (.r (rz 5 0 148)) (.c (.s (.r (rz 1 0 0)) (.n)) (.n)))))) (.r (rz 2 0 0)))))))) (.s (.r (rz 1 0 0)) (.n))))) func42 rfl (by kernel_rfl) (by kernel_rfl) h
def yw (t0 t1 : Value) (w : World) (K : VW) : Prop:=
 pp (Builtin.len_ #[28] 3 #[t0]) fun t7=>pp (Builtin.len_ #[28] 3 #[t1]) fun t9=>bf .neq 3 t7 t9 fun t10=>zb t10 (K fa_ w) (pp (Builtin.len_ #[28] 3 #[t0]) fun t12=>zm [(i6 0)] w (fun s2 _d3 w4 K1=>
 bf .lss 3 (s2.getD 0 undef) t12 fun t14=>zb t14 (xl w4.drew 28 t0 (s2.getD 0 undef) 101 fun t19=>xl w4.drew 28 t1 (s2.getD 0 undef) 101 fun t23=>pq w4.drew (zT .neq 101 false t19 t23) fun t24=>zb t24 (K fa_ w4.drew) (bt .add 3 (s2.getD 0 undef) (i6 1) fun t25=>K1 [t25] w4.drew)) (K tr_ w4)))
theorem xZ {t0 t1 : Value} {w : World} {K : VW} (h : yw t0 t1 w K) : zd prog zR #[t0,t1] w K:=
 okC false (.s (.r (rz 1 0 0)) (.s (.s (.r (rz 5 0 0)) (.c (.s (.r (rz 1 0 0)) (.n)) (.n))) (.s (.s (.r (rz 3 0 0)) (.b (.lp [13] (.s (.r (rz 1 0 0)) (.s (.c (.n) (.n)) (.s (.b (.s (.r (rz 2 0 0)) (.s (.r (rz 9 0 81984)) (.c (.s (.r (rz 1 0 0)) (.n)) (.n))))) (.r (rz 2 0 0)))))))) (.s (.r (rz 1 0 0)) (.n))))) func46 rfl (by kernel_rfl) (by kernel_rfl) h
def xW (t0 t1 : Value) (w : World) (K : VW) : Prop:=
 pp (Builtin.len_ #[30] 3 #[t0]) fun t7=>pp (Builtin.len_ #[30] 3 #[t1]) fun t9=>bf .neq 3 t7 t9 fun t10=>zb t10 (K fa_ w) (pp (Builtin.len_ #[30] 3 #[t0]) fun t12=>zm [(i6 0)] w (fun s2 _d3 w4 K1=>
 bf .lss 3 (s2.getD 0 undef) t12 fun t14=>zb t14 (xl w4.drew 30 t0 (s2.getD 0 undef) 9 fun t19=>xl w4.drew 30 t1 (s2.getD 0 undef) 9 fun t23=>bf .neq 9 t19 t23 fun t24=>zb t24 (K fa_ w4.drew) (bt .add 3 (s2.getD 0 undef) (i6 1) fun t25=>K1 [t25] w4.drew)) (K tr_ w4)))
theorem jw {t0 t1 : Value} {w : World} {K : VW} (h : xW t0 t1 w K) : zd prog yN #[t0,t1] w K:=
 okC false (.s (.r (rz 1 0 0)) (.s (.s (.r (rz 5 0 0)) (.c (.s (.r (rz 1 0 0)) (.n)) (.n))) (.s (.s (.r (rz 3 0 0)) (.b (.lp [13] (.s (.r (rz 1 0 0)) (.s (.c (.n) (.n)) (.s (.b (.s (.r (rz 2 0 0)) (.s (.r (rz 9 0 16448)) (.c (.s (.r (rz 1 0 0)) (.n)) (.n))))) (.r (rz 2 0 0)))))))) (.s (.r (rz 1 0 0)) (.n))))) func47 rfl (by kernel_rfl) (by kernel_rfl) h
def yT (t0 t1 t2 : Value) (w : World) (K : VW) : Prop:=
 pp (Builtin.len_ #[29] 3 #[t0]) fun t11=>pp (Builtin.len_ #[29] 3 #[t1]) fun t13=>bf .neq 3 t11 t13 fun t14=>zb t14 (K fa_ w) (pp (Builtin.len_ #[29] 3 #[t0]) fun t16=>zm [(i6 0)] w (fun s2 _d3 w4 K1=>
 bf .lss 3 (s2.getD 0 undef) t16 fun t18=>zb t18 (xl w4 29 t0 (s2.getD 0 undef) 57 fun t21=>pw w4 (Instr.alloc 57 true (.tuple #[])) fun t8 w5=>
 so w5 57 t8 t21 fun w6=>xl w6 29 t1 (s2.getD 0 undef) 57 fun t25=>pw w6 (Instr.alloc 57 true (.tuple #[])) fun t9 w7=>
 so w7 57 t9 t25 fun w8=>lo w8 57 t8 fun t27=>lo w8 57 t9 fun t28=>cv t2 #[t27,t28] w8 fun t29 w9=>
 pp (Op.unary .not t29) fun t30=>zb t30 (K fa_ w9) (bt .add 3 (s2.getD 0 undef) (i6 1) fun t31=>K1 [t31] w9)) (K tr_ w4)))
theorem yP {t0 t1 t2 : Value} {w : World} {K : VW} (h : yT t0 t1 t2 w K) : zd prog zD #[t0,t1,t2] w K:=
 okC false (.s (.r (rz 1 0 0)) (.s (.s (.r (rz 5 0 0)) (.c (.s (.r (rz 1 0 0)) (.n)) (.n))) (.s (.s (.r (rz 3 0 0)) (.b (.lp [17] (.s (.r (rz 1 0 0)) (.s (.c (.n) (.n)) (.s (.b (.s (.r (rz 6 0 2192)) (.s (.r (rz 6 0 2624)) (.s (.r (rz 5 0 148)) (.c (.s (.r (rz 1 0 0)) (.n)) (.n)))))) (.r (rz 2 0 0)))))))) (.s (.r (rz 1 0 0)) (.n))))) func48 rfl (by kernel_rfl) (by kernel_rfl) h
def yF (t0 t1 t2 : Value) (w : World) (K : VW) : Prop:=
 pp (Builtin.len_ #[31] 3 #[t0]) fun t11=>pp (Builtin.len_ #[31] 3 #[t1]) fun t13=>bf .neq 3 t11 t13 fun t14=>zb t14 (K fa_ w) (pp (Builtin.len_ #[31] 3 #[t0]) fun t16=>zm [(i6 0)] w (fun s2 _d3 w4 K1=>
 bf .lss 3 (s2.getD 0 undef) t16 fun t18=>zb t18 (xl w4 31 t0 (s2.getD 0 undef) 44 fun t21=>pw w4 (Instr.alloc 44 true (.tuple #[])) fun t8 w5=>
 so w5 44 t8 t21 fun w6=>xl w6 31 t1 (s2.getD 0 undef) 44 fun t25=>pw w6 (Instr.alloc 44 true (.tuple #[])) fun t9 w7=>
 so w7 44 t9 t25 fun w8=>lo w8 44 t8 fun t27=>lo w8 44 t9 fun t28=>cv t2 #[t27,t28] w8 fun t29 w9=>
 pp (Op.unary .not t29) fun t30=>zb t30 (K fa_ w9) (bt .add 3 (s2.getD 0 undef) (i6 1) fun t31=>K1 [t31] w9)) (K tr_ w4)))
theorem yA {t0 t1 t2 : Value} {w : World} {K : VW} (h : yF t0 t1 t2 w K) : zd prog zy #[t0,t1,t2] w K:=
 okC false (.s (.r (rz 1 0 0)) (.s (.s (.r (rz 5 0 0)) (.c (.s (.r (rz 1 0 0)) (.n)) (.n))) (.s (.s (.r (rz 3 0 0)) (.b (.lp [17] (.s (.r (rz 1 0 0)) (.s (.c (.n) (.n)) (.s (.b (.s (.r (rz 6 0 2192)) (.s (.r (rz 6 0 2624)) (.s (.r (rz 5 0 148)) (.c (.s (.r (rz 1 0 0)) (.n)) (.n)))))) (.r (rz 2 0 0)))))))) (.s (.r (rz 1 0 0)) (.n))))) func49 rfl (by kernel_rfl) (by kernel_rfl) h
def yr (t0 t1 t2 : Value) (w : World) (K : VW) : Prop:=
 pp (Builtin.len_ #[22] 3 #[t0]) fun t11=>pp (Builtin.len_ #[22] 3 #[t1]) fun t13=>bf .neq 3 t11 t13 fun t14=>zb t14 (K fa_ w) (pp (Builtin.len_ #[22] 3 #[t0]) fun t16=>zm [(i6 0)] w (fun s2 _d3 w4 K1=>
 bf .lss 3 (s2.getD 0 undef) t16 fun t18=>zb t18 (xl w4 22 t0 (s2.getD 0 undef) 84 fun t21=>pw w4 (Instr.alloc 84 true (.tuple #[])) fun t8 w5=>
 so w5 84 t8 t21 fun w6=>xl w6 22 t1 (s2.getD 0 undef) 84 fun t25=>pw w6 (Instr.alloc 84 true (.tuple #[])) fun t9 w7=>
 so w7 84 t9 t25 fun w8=>lo w8 84 t8 fun t27=>lo w8 84 t9 fun t28=>cv t2 #[t27,t28] w8 fun t29 w9=>
 pp (Op.unary .not t29) fun t30=>zb t30 (K fa_ w9) (bt .add 3 (s2.getD 0 undef) (i6 1) fun t31=>K1 [t31] w9)) (K tr_ w4)))
theorem yp {t0 t1 t2 : Value} {w : World} {K : VW} (h : yr t0 t1 t2 w K) : zd prog zw #[t0,t1,t2] w K:=
 okC false (.s (.r (rz 1 0 0)) (.s (.s (.r (rz 5 0 0)) (.c (.s (.r (rz 1 0 0)) (.n)) (.n))) (.s (.s (.r (rz 3 0 0)) (.b (.lp [17] (.s (.r (rz 1 0 0)) (.s (.c (.n) (.n)) (.s (.b (.s (.r (rz 6 0 2192)) (.s (.r (rz 6 0 2624)) (.s (.r (rz 5 0 148)) (.c (.s (.r (rz 1 0 0)) (.n)) (.n)))))) (.r (rz 2 0 0)))))))) (.s (.r (rz 1 0 0)) (.n))))) func51 rfl (by kernel_rfl) (by kernel_rfl) h
def yG (t0 t1 t2 : Value) (w : World) (K : VW) : Prop:=
 pp (Builtin.len_ #[23] 3 #[t0]) fun t11=>pp (Builtin.len_ #[23] 3 #[t1]) fun t13=>bf .neq 3 t11 t13 fun t14=>zb t14 (K fa_ w) (pp (Builtin.len_ #[23] 3 #[t0]) fun t16=>zm [(i6 0)] w (fun s2 _d3 w4 K1=>
 bf .lss 3 (s2.getD 0 undef) t16 fun t18=>zb t18 (xl w4 23 t0 (s2.getD 0 undef) 33 fun t21=>pw w4 (Instr.alloc 33 true (.tuple #[])) fun t8 w5=>
 so w5 33 t8 t21 fun w6=>xl w6 23 t1 (s2.getD 0 undef) 33 fun t25=>pw w6 (Instr.alloc 33 true (.tuple #[])) fun t9 w7=>
 so w7 33 t9 t25 fun w8=>lo w8 33 t8 fun t27=>lo w8 33 t9 fun t28=>cv t2 #[t27,t28] w8 fun t29 w9=>
 pp (Op.unary .not t29) fun t30=>zb t30 (K fa_ w9) (bt .add 3 (s2.getD 0 undef) (i6 1) fun t31=>K1 [t31] w9)) (K tr_ w4)))
theorem yB {t0 t1 t2 : Value} {w : World} {K : VW} (h : yG t0 t1 t2 w K) : zd prog zz #[t0,t1,t2] w K:=
 okC false (.s (.r (rz 1 0 0)) (.s (.s (.r (rz 5 0 0)) (.c (.s (.r (rz 1 0 0)) (.n)) (.n))) (.s (.s (.r (rz 3 0 0)) (.b (.lp [17] (.s (.r (rz 1 0 0)) (.s (.c (.n) (.n)) (.s (.b (.s (.r (rz 6 0 2192)) (.s (.r (rz 6 0 2624)) (.s (.r (rz 5 0 148)) (.c (.s (.r (rz 1 0 0)) (.n)) (.n)))))) (.r (rz 2 0 0)))))))) (.s (.r (rz 1 0 0)) (.n))))) func52 rfl (by kernel_rfl) (by kernel_rfl) h
def yg (t0 t1 t2 : Value) (w : World) (K : VW) : Prop:=
 pp (Builtin.len_ #[42] 3 #[t0]) fun t11=>pp (Builtin.len_ #[42] 3 #[t1]) fun t13=>bf .neq 3 t11 t13 fun t14=>zb t14 (K fa_ w) (pp (Builtin.len_ #[42] 3 #[t0]) fun t16=>zm [(i6 0)] w (fun s2 _d3 w4 K1=>
 bf .lss 3 (s2.getD 0 undef) t16 fun t18=>zb t18 (xl w4 42 t0 (s2.getD 0 undef) 41 fun t21=>pw w4 (Instr.alloc 41 true (.tuple #[])) fun t8 w5=>
 so w5 41 t8 t21 fun w6=>xl w6 42 t1 (s2.getD 0 undef) 41 fun t25=>pw w6 (Instr.alloc 41 true (.tuple #[])) fun t9 w7=>
 so w7 41 t9 t25 fun w8=>lo w8 41 t8 fun t27=>lo w8 41 t9 fun t28=>cv t2 #[t27,t28] w8 fun t29 w9=>
 pp (Op.unary .not t29) fun t30=>zb t30 (K fa_ w9) (bt .add 3 (s2.getD 0 undef) (i6 1) fun t31=>K1 [t31] w9)) (K tr_ w4)))
theorem yd {t0 t1 t2 : Value} {w : World} {K : VW} (h : yg t0 t1 t2 w K) : zd prog zr #[t0,t1,t2] w K:=
 okC false (.s (.r (rz 1 0 0)) (.s (.s (.r (rz 5 0 0)) (.c (.s (.r (rz 1 0 0)) (.n)) (.n))) (.s (.s (.r (rz 3 0 0)) (.b (.lp [17] (.s (.r (rz 1 0 0)) (.s (.c (.n) (.n)) (.s (.b (.s (.r (rz 6 0 2192)) (.s (.r (rz 6 0 2624)) (.s (.r (rz 5 0 148)) (.c (.s (.r (rz 1 0 0)) (.n)) (.n)))))) (.r (rz 2 0 0)))))))) (.s (.r (rz 1 0 0)) (.n))))) func83 rfl (by kernel_rfl) (by kernel_rfl) h
def XG (t0 : Value) (w : World) (K : VW) : Prop:=
 pp (Builtin.len_ #[67] 3 #[t0]) fun t7=>zm [(i6 0)] w (fun s2 _d3 w4 K1=>
 bf .lss 3 (s2.getD 0 undef) t7 fun t9=>zb t9 (xl w4 67 t0 (s2.getD 0 undef) 3 fun t11=>bf .neq 3 t11 (i6 0) fun t14=>zb t14 (K t11 w4) (bt .add 3 (s2.getD 0 undef) (i6 1) fun t16=>K1 [t16] w4)) (K (i6 0) w4))
theorem VT {t0 : Value} {w : World} {K : VW} (h : XG t0 w K) : zd prog Zc #[t0] w K:=
 okC false (.s (.r (rz 1 0 0)) (.s (.r (rz 1 0 0)) (.s (.s (.r (rz 3 0 0)) (.b (.lp [8] (.s (.r (rz 1 0 0)) (.s (.c (.n) (.n)) (.s (.b (.s (.r (rz 3 0 4)) (.s (.r (rz 3 0 0)) (.c (.s (.r (rz 2 0 0)) (.n)) (.n))))) (.r (rz 2 0 0)))))))) (.s (.r (rz 2 0 0)) (.n))))) func152 rfl (by kernel_rfl) (by kernel_rfl) h
def vF (t0 t1 : Value) (w : World) (K : VW) : Prop:=
 ca kI #[t0] w fun t8 w1=>
 ca kI #[t1] w1 fun t10 w2=>
 zb t8 (zb t10 (K (i6 0) w2) (K (i6 (-1)) w2)) (zb t10 (K (i6 1) w2) (bf .lss 3 t0 t1 fun t16=>zb t16 (K (i6 (-1)) w2) (bf .gtr 3 t0 t1 fun t19=>zb t19 (K (i6 1) w2) (K (i6 0) w2))))
theorem XH {t0 t1 : Value} {w : World} {K : VW} (h : vF t0 t1 w K) : zd prog qi #[t0,t1] w K:=
 okC false (.s (.r (rz 1 0 0)) (.s (.r (rz 3 0 8)) (.s (.r (rz 3 0 8)) (.s (.s (.r (rz 1 0 0)) (.c (.s (.s (.r (rz 1 0 0)) (.c (.s (.r (rz 1 0 0)) (.n)) (.n))) (.s (.r (rz 1 0 0)) (.n))) (.n))) (.s (.s (.r (rz 1 0 0)) (.c (.s (.r (rz 1 0 0)) (.n)) (.n))) (.s (.s (.r (rz 3 0 0)) (.c (.s (.r (rz 1 0 0)) (.n)) (.n))) (.s (.s (.r (rz 3 0 0)) (.c (.s (.r (rz 1 0 0)) (.n)) (.n))) (.s (.r (rz 1 0 0)) (.n))))))))) func153 rfl (by kernel_rfl) (by kernel_rfl) h
def y0 (t0 t1 : Value) (w : World) (K : VW) : Prop:=
 pp (Builtin.len_ #[36] 3 #[t0]) fun t10=>zm [(i6 0)] w (fun s2 _d3 w4 K1=>
 bf .lss 3 (s2.getD 0 undef) t10 fun t12=>zb t12 (xl w4 36 t0 (s2.getD 0 undef) 138 fun t15=>pp (Builtin.len_ #[36] 3 #[t1]) fun t18=>bf .geq 3 (s2.getD 0 undef) t18 fun t19=>zb t19 (K (i6 1) w4) (xl w4 36 t1 (s2.getD 0 undef) 138 fun t23=>ca xD #[t15,t23] w4 fun t26 w5=>
 bt .neq 3 t26 (i6 0) fun t28=>zb t28 (K t26 w5) (bt .add 3 (s2.getD 0 undef) (i6 1) fun t30=>K1 [t30] w5))) (pp (Builtin.len_ #[36] 3 #[t0]) fun t32=>pp (Builtin.len_ #[36] 3 #[t1]) fun t34=>bf .lss 3 t32 t34 fun t35=>zb t35 (K (i6 (-1)) w4) (K (i6 0) w4)))
theorem qc {t0 t1 : Value} {w : World} {K : VW} (h : y0 t0 t1 w K) : zd prog yb #[t0,t1] w K:=
 okC false (.s (.r (rz 1 0 0)) (.s (.s (.r (rz 3 0 0)) (.b (.lp [11] (.s (.r (rz 1 0 0)) (.s (.c (.n) (.n)) (.s (.b (.s (.r (rz 5 0 16)) (.s (.s (.r (rz 4 0 0)) (.c (.s (.r (rz 1 0 0)) (.n)) (.n))) (.s (.r (rz 5 0 64)) (.s (.r (rz 4 0 32)) (.s (.r (rz 2 0 0)) (.c (.s (.r (rz 2 0 0)) (.n)) (.n)))))))) (.r (rz 2 0 0)))))))) (.s (.s (.r (rz 5 0 0)) (.c (.s (.r (rz 1 0 0)) (.n)) (.n))) (.s (.r (rz 1 0 0)) (.n))))) func154 rfl (by kernel_rfl) (by kernel_rfl) h
def qB (t0 t1 : Value) (w : World) (K : VW) : Prop:=
 ca y6 #[t0] w fun t8 w1=>
 ca y6 #[t1] w1 fun t10 w2=>
 zb t8 (zb t10 (K (i6 0) w2) (K (i6 (-1)) w2)) (zb t10 (K (i6 1) w2) (bf .lss 138 t0 t1 fun t16=>zb t16 (K (i6 (-1)) w2) (bf .gtr 138 t0 t1 fun t19=>zb t19 (K (i6 1) w2) (K (i6 0) w2))))
theorem Zy {t0 t1 : Value} {w : World} {K : VW} (h : qB t0 t1 w K) : zd prog xD #[t0,t1] w K:=
 okC false (.s (.r (rz 1 0 0)) (.s (.r (rz 3 0 8)) (.s (.r (rz 3 0 8)) (.s (.s (.r (rz 1 0 0)) (.c (.s (.s (.r (rz 1 0 0)) (.c (.s (.r (rz 1 0 0)) (.n)) (.n))) (.s (.r (rz 1 0 0)) (.n))) (.n))) (.s (.s (.r (rz 1 0 0)) (.c (.s (.r (rz 1 0 0)) (.n)) (.n))) (.s (.s (.r (rz 3 0 0)) (.c (.s (.r (rz 1 0 0)) (.n)) (.n))) (.s (.s (.r (rz 3 0 0)) (.c (.s (.r (rz 1 0 0)) (.n)) (.n))) (.s (.r (rz 1 0 0)) (.n))))))))) func186 rfl (by kernel_rfl) (by kernel_rfl) h
def ZR (t0 : Value) (w : World) (K : VW) : Prop:=
 bf .neq 3 t0 t0 fun t5=>K t5 w
theorem QO {t0 : Value} {w : World} {K : VW} (h : ZR t0 w K) : zd prog kI #[t0] w K:=
 okC false (.s (.r (rz 1 0 0)) (.s (.r (rz 4 0 0)) (.n))) func180 rfl (by kernel_rfl) (by kernel_rfl) h
def ju (t0 : Value) (w : World) (K : VW) : Prop:=
 bf .neq 138 t0 t0 fun t5=>K t5 w
theorem Ys {t0 : Value} {w : World} {K : VW} (h : ju t0 w K) : zd prog y6 #[t0] w K:=
 okC false (.s (.r (rz 1 0 0)) (.s (.r (rz 4 0 0)) (.n))) func196 rfl (by kernel_rfl) (by kernel_rfl) h
end Go.Proofs.Tryz
end
section
namespace Go.Proofs
open Go.Sh
set_option maxRecDepth 100000
set_option linter.unusedSimpArgs false
set_option linter.unusedVariables false
noncomputable def eqb {α : Type} (x y : α) : Bool:=@decide (x=y) (Classical.propDecidable _)
theorem xX {α : Type} {x y : α} : eqb x y=true↔x=y:=by
 rw [eqb];exact @decide_eq_true_iff _ (Classical.propDecidable _)
theorem Zt {α : Type} {x y : α} {b : Bool} (h : b=true↔x=y) : b=eqb x y:=by
 rw [Bool.eq_iff_iff,h,xX]
theorem Yt {α : Type} {x y : α} (h : x≠y) : eqb x y=false:=by
 cases e : eqb x y
 ·rfl
 ·exact absurd (xX.1 e) h
theorem YJ {α : Type} (x : α) : eqb x x=true:=xX.2 rfl
def Cmp {α : Type} (r : Gh) (R : List Value→α→Prop) (l m : List α) (fv : Value) : Prop:=
 ∀ x ∈ l,∀ y ∈ m,∀ (c d : List Value) (w : World) (K : Value→World→Prop),R c x→R d y→Holds r w→(∀ w',Ext w w'→K (.bool (eqb x y)) w')→zO Tryz.prog fv #[.agg c.toArray,.agg d.toArray] w K
theorem jL {T E : TypeId} {n : Nat} {z : List Value} {α : Type} {r : Gh} {R : List Value→α→Prop} {l m : List α} {va vb fv : Value} {w : World} {K : Value→World→Prop}
  [SlT Tryz.prog T E n] [ZrT Tryz.prog E z] [LdN Tryz.prog E n] [SzT Tryz.prog E n] (hn : 1<n) (hz : z.length=n) (hr : Holds r w) (ha : SlB n r R va l) (hb : SlB n r R vb m) (h1 : ∀ c x,R c x→∀ u ∈ c,u.oneCell'=true)
  (hf : Cmp r R l m fv) (h : ∀ w',Ext w w'→K (.bool (eqb l m)) w') :
  Tryz.pp (Builtin.len_ #[T] 3 #[va]) fun t11=>Tryz.pp (Builtin.len_ #[T] 3 #[vb]) fun t13=>Tryz.bf .neq 3 t11 t13 fun t14=>zb t14 (K Tryz.fa_ w) (Tryz.pp (Builtin.len_ #[T] 3 #[va]) fun t16=>zm [Tryz.i6 0] w (fun s2 _d3 w4 K1=>
   Tryz.bf .lss 3 (s2.getD 0 undef) t16 fun t18=>zb t18 (Tryz.xl w4 T va (s2.getD 0 undef) E fun t21=>Tryz.pw w4 (Instr.alloc E true (.tuple #[])) fun t8 w5=>
   Tryz.so w5 E t8 t21 fun w6=>Tryz.xl w6 T vb (s2.getD 0 undef) E fun t25=>Tryz.pw w6 (Instr.alloc E true (.tuple #[])) fun t9 w7=>
   Tryz.so w7 E t9 t25 fun w8=>Tryz.lo w8 E t8 fun t27=>Tryz.lo w8 E t9 fun t28=>Tryz.cv fv #[t27,t28] w8 fun t29 w9=>
   Tryz.pp (Op.unary .not t29) fun t30=>zb t30 (K Tryz.fa_ w9) (Tryz.bt .add 3 (s2.getD 0 undef) (Tryz.i6 1) fun t31=>K1 [t31] w9)) (K Tryz.tr_ w4))):=by
 obtain ⟨pa,ca,rfl,_,_⟩:=ha.sl.shape
 obtain ⟨pb,cb,rfl,_,_⟩:=hb.sl.shape
 have hla : l.length≤9223372036854775807:=ha.few
 have S:=St.start hr
 refine gg_ ?_
 refine zg (fun hne=>?_) (fun heq=>?_)
 ·have:=h _ S.ext
  rwa [Yt (fun e=>hne (by rw [e]))] at this
 have hlen : l.length=m.length:=by
  rcases Nat.lt_trichotomy l.length m.length with h|h|h
  ·exact absurd (fun e=>by omega : ((l.length : Int)≠m.length)) heq
  ·exact h
  ·exact absurd (fun e=>by omega : ((l.length : Int)≠m.length)) heq
 refine gg_ ?_
 refine zk (ι:=Nat) (fun i=>[.int .i64 (i : Nat)]) (fun i w'=>i≤l.length∧l.take i=m.take i∧StX noX w r w' []) (fun i=>l.length - i) 0 rfl ⟨Nat.zero_le _,rfl,S⟩ ?_
 clear S
 rintro i d w4 ⟨hi,htk,S⟩ K1 hK1
 rw [List.getD_cons_zero]
 refine gg_ ?_
 refine zg (fun hlt=>?_) (fun hge=>?_)
 ·have hlt : i<l.length:=by omega
  have hlt2 : i<m.length:=by omega
  obtain ⟨ba,oa,c,rfl,hcl,hR,hca⟩:=ha.sl.get (by omega) hlt
  obtain ⟨bb,ob,d,rfl,hdl,hQ,hcb⟩:=hb.sl.get (by omega) hlt2
  refine gg_ ?_
  rw [Int.toNat_natCast]
  refine zs (n:=n) hcl (fun j v hj=>S.at (hca j v hj)) ?_
  refine S.al fun b8 w5 S=>?_
  refine S.stB (b:=b8) (fun w6 S=>?_) hz (by simpa using hcl) (by simpa using h1 _ _ hR)
  refine gg_ ?_
  rw [Int.toNat_natCast]
  refine zs (n:=n) hdl (fun j v hj=>S.at (hcb j v hj)) ?_
  refine S.al fun b9 w7 S=>?_
  refine S.stB (b:=b9) (fun w8 S=>?_) hz (by simpa using hdl) (by simpa using h1 _ _ hQ)
  refine S.ldB (b:=b8) ?_ (by simpa using hcl)
  refine S.ldB (b:=b9) ?_ (by simpa using hdl)
  refine hf _ (List.getElem_mem hlt) _ (List.getElem_mem hlt2) _ _ _ _ hR hQ S.holds fun w9 e9=>?_
  have S:=((S.drop b9).drop b8).go e9
  refine gp_ ?_
  refine c_b (fun hb=>?_) (fun hb=>?_)
  ·have hne : l[i]≠m[i]:=fun e=>by rw [xX.2 e] at hb;cases hb
   have:=h _ S.ext
   rwa [Yt (fun e=>hne (by subst e;rfl))] at this
  ·have he : l[i]=m[i]:=xX.1 (by simpa using hb)
   refine gg_ ?_
   refine hK1 (i+1) _ ⟨hlt,?_,S⟩ (by omega)
   rw [List.take_succ_eq_append_getElem hlt,List.take_succ_eq_append_getElem hlt2,htk,he]
 have hie : i=l.length:=by omega
 subst hie
 have he : l=m:=by rwa [List.take_length,hlen,List.take_length] at htk
 have:=h _ S.ext
 rwa [he,YJ] at this
theorem Qr {x : Int} {w : World} {K : Value→World→Prop} (h : K (.bool false) w) : zd Tryz.prog Tryz.kI #[.int .i64 x] w K:=by
 refine Tryz.QO ?_
 unfold Tryz.ZR
 refine gg_ ?_
 simpa using h
theorem XI {x : Int} {w : World} {K : Value→World→Prop} (h : K (.bool false) w) : zd Tryz.prog Tryz.y6 #[.int .i64 x] w K:=by
 refine Tryz.Ys ?_
 unfold Tryz.ju
 refine gg_ ?_
 simpa using h
def YK (x y : Int) : Int:=if x<y then -1 else if y<x then 1 else 0
theorem XJ {x y : Int} : YK x y=0↔x=y:=by
 unfold YK;split
 ·constructor<;>intro h<;>omega
 split<;>constructor<;>intro h<;>omega
theorem VU {x y : Int} {w : World} {K : Value→World→Prop} (h : K (.int .i64 (YK x y)) w) : zd Tryz.prog Tryz.qi #[.int .i64 x,.int .i64 y] w K:=by
 refine Tryz.XH ?_
 unfold Tryz.vF
 refine Qr (Qr (c_f rfl (c_f rfl ?_)))
 unfold YK at h
 refine gg_ ?_
 refine zg (fun h1=>?_) (fun h1=>?_)
 ·rwa [if_pos h1] at h
 refine gg_ ?_
 refine zg (fun h2=>?_) (fun h2=>?_)
 ·rwa [if_neg h1,if_pos h2] at h
 ·rwa [if_neg h1,if_neg h2] at h
theorem J6 {x y : Int} {w : World} {K : Value→World→Prop} (h : K (.int .i64 (YK x y)) w) : zd Tryz.prog Tryz.xD #[.int .i64 x,.int .i64 y] w K:=by
 refine Tryz.Zy ?_
 unfold Tryz.qB
 refine XI (XI (c_f rfl (c_f rfl ?_)))
 unfold YK at h
 refine gg_ ?_
 refine zg (fun h1=>?_) (fun h1=>?_)
 ·rwa [if_pos h1] at h
 refine gg_ ?_
 refine zg (fun h2=>?_) (fun h2=>?_)
 ·rwa [if_neg h1,if_pos h2] at h
 ·rwa [if_neg h1,if_neg h2] at h
theorem QP {l m : List Int} {va vb : Value} {w : World} {r : Gh} {K : Value→World→Prop} (hr : Holds r w) (ha : SlB 1 r qm va l) (hb : SlB 1 r qm vb m)
  (h : ∀ x w',Ext w w'→(x=0↔l=m)→K (.int .i64 x) w') : zd Tryz.prog Tryz.yb #[va,vb] w K:=by
 refine Tryz.qc ?_
 unfold Tryz.y0
 obtain ⟨pa,ca,rfl,_,_⟩:=ha.sl.shape
 obtain ⟨pb,cb,rfl,_,_⟩:=hb.sl.shape
 have hla : l.length≤9223372036854775807:=ha.few
 have S:=St.start hr
 refine gg_ ?_
 refine zk (ι:=Nat) (fun i=>[.int .i64 (i : Nat)]) (fun i w'=>i≤l.length∧i≤m.length∧l.take i=m.take i∧StX noX w r w' []) (fun i=>l.length - i) 0 rfl ⟨Nat.zero_le _,Nat.zero_le _,rfl,S⟩ ?_
 clear S
 rintro i d w4 ⟨hi,him,htk,S⟩ K1 hK1
 rw [List.getD_cons_zero]
 refine gg_ ?_
 refine zg (fun hlt=>?_) (fun hge=>?_)
 ·have hlt : i<l.length:=by omega
  obtain ⟨ba,oa,c,rfl,hcl,⟨rfl,_⟩,hca⟩:=ha.sl.get (by decide) hlt
  refine gg_ ?_
  refine zE (v:=.int .i64 l[i]) (by simpa using S.at (hca 0 _ rfl)) ?_
  refine gg_ ?_
  refine zg (fun hbig=>?_) (fun hsm=>?_)
  ·refine h 1 _ S.ext ⟨fun e=>absurd e (by decide),fun e=>?_⟩
   subst e;omega
  have hlt2 : i<m.length:=by omega
  obtain ⟨bb,ob,d,rfl,hdl,⟨rfl,_⟩,hcb⟩:=hb.sl.get (by decide) hlt2
  refine gg_ ?_
  refine zE (v:=.int .i64 m[i]) (by simpa using S.at (hcb 0 _ rfl)) ?_
  refine J6 ?_
  refine gg_ ?_
  refine zg (fun hne=>?_) (fun heq=>?_)
  ·refine h _ _ S.ext ⟨fun e=>absurd e hne,fun e=>?_⟩
   subst e;exact XJ.2 rfl
  ·have he : l[i]=m[i]:=XJ.1 (Decidable.not_not.1 heq)
   refine gg_ ?_
   refine hK1 (i+1) _ ⟨hlt,hlt2,?_,S⟩ (by omega)
   rw [List.take_succ_eq_append_getElem hlt,List.take_succ_eq_append_getElem hlt2,htk,he]
 have hie : i=l.length:=by omega
 subst hie
 rw [List.take_length] at htk
 refine gg_ ?_
 refine zg (fun h1=>?_) (fun h1=>?_)
 ·refine h _ _ S.ext ⟨fun e=>absurd e (by decide),fun e=>?_⟩
  subst e;omega
 ·refine h _ _ S.ext ⟨fun _=>?_,fun _=>rfl⟩
  rw [htk,List.take_of_length_le (by omega)]
theorem adQ {x y : Int} {b : Nat} {w : World} {r : Gh} {K : Value→World→Prop} (hr : Holds r w) (h0 : Ob r fun w=>w.cell? ⟨b,0,none⟩=some (.int .i64 x)) (h1 : Ob r fun w=>w.cell? ⟨b,1,none⟩=some (.int .i64 y))
  (h : ∀ w',Ext w w'→K (.int .i64 (if x≠0 then x else y)) w') : zd Tryz.prog Tryz.Zc #[.slice (some ⟨b,0,none⟩) 2 2] w K:=by
 refine Tryz.VT ?_
 unfold Tryz.XG
 have S:=St.start hr
 refine gg_ ?_
 refine zk (ι:=Nat) (fun i=>[.int .i64 (i : Nat)]) (fun i w'=>i≤2∧(0<i→x=0)∧(1<i→y=0)∧StX noX w r w' []) (fun i=>2 - i) 0 rfl ⟨by decide,fun h=>absurd h (by decide),fun h=>absurd h (by decide),S⟩ ?_
 clear S
 rintro i d w4 ⟨hi,hx,hy,S⟩ K1 hK1
 rw [List.getD_cons_zero]
 refine gg_ ?_
 refine zg (fun hlt=>?_) (fun hge=>?_)
 ·have hi2 : i=0∨i=1:=by omega
  rcases hi2 with rfl|rfl
  ·refine gg_ ?_
   refine zE (v:=.int .i64 x) (by simpa using S.at h0) ?_
   refine gg_ ?_
   refine zg (fun hne=>?_) (fun heq=>?_)
   ·have:=h _ S.ext;rwa [if_pos hne] at this
   refine gg_ ?_
   exact hK1 1 _ ⟨by decide,fun _=>by omega,fun h=>absurd h (by decide),S⟩ (by decide)
  ·refine gg_ ?_
   refine zE (v:=.int .i64 y) (by simpa using S.at h1) ?_
   refine gg_ ?_
   refine zg (fun hne=>?_) (fun heq=>?_)
   ·have:=h _ S.ext;rwa [if_neg (by have:=hx (by decide);omega)] at this
   refine gg_ ?_
   exact hK1 2 _ ⟨by decide,fun _=>hx (by decide),fun _=>by omega,S⟩ (by decide)
 have hie : i=2:=by omega
 subst hie
 have:=h _ S.ext
 rwa [if_neg (by have:=hx (by decide);omega),hy (by decide)] at this
theorem PlD.eq_iff {p q : PlD} : p=q↔p.l=q.l∧p.ps=q.ps:=by
 cases p;cases q;simp
theorem VV {p q : PlD} {c d : List Value} {w : World} {r : Gh} {K : Value→World→Prop} (hr : Holds r w) (hp : PlG r c p) (hq : PlG r d q)
  (h : ∀ x w',Ext w w'→(x=0↔p=q)→K (.int .i64 x) w') : zd Tryz.prog Tryz.ve #[.agg c.toArray,.agg d.toArray] w K:=by
 refine Tryz.J0 ?_
 unfold Tryz.YX
 obtain ⟨v,rfl,hv⟩:=hp
 obtain ⟨u,rfl,hu⟩:=hq
 obtain ⟨pa,ca,rfl,_,_⟩:=hv.sl.shape
 obtain ⟨pb,cb,rfl,_,_⟩:=hu.sl.shape
 have S:=St.start hr
 refine S.box fun b2 w1 S=>?_
 have S : StX noX w r w1 [.cell b2 [.int .i64 p.l,.slice pa p.ps.length ca] 38]:=S
 refine S.box fun b3 w2 S=>?_
 have S : StX noX w r w2 [.cell b3 [.int .i64 q.l,.slice pb q.ps.length cb] 38,.cell b2 [.int .i64 p.l,.slice pa p.ps.length ca] 38]:=S
 have S:=S.go (Ext.drew _)
 refine gg_ ?_
 refine VU ⟨Ext.refl _,?_⟩
 refine QP S.holds hv hu fun x w4 e4 hx=>?_
 have S:=S.go e4
 refine S.lit (e:=3) (cs:=[.int .i64 (YK p.l q.l),.int .i64 x]) (by kernel_rfl) fun b15 w5 S=>?_
 have hB:=S.blk b15
 refine adQ (x:=YK p.l q.l) (y:=x) (r:=Go.Sh.one b15 [.int .i64 (YK p.l q.l),.int .i64 x] 3) (yc hB) (fun w h=>((yy w h).cell 0).trans rfl) (fun w h=>((yy w h).cell 1).trans rfl) fun w6 e6=>?_
 refine h _ _ (S.go e6).ext ?_
 rw [PlD.eq_iff,← hx,← XJ (x:=p.l)]
 constructor
 ·intro e
  split at e
  ·exact absurd e (by assumption)
  ·exact ⟨by omega,e⟩
 ·rintro ⟨e1,e2⟩
  rw [if_neg (by omega),e2]
theorem Zu {p q : PlD} {c d : List Value} {w : World} {r : Gh} {K : Value→World→Prop} (hr : Holds r w) (hp : PlG r c p) (hq : PlG r d q)
  (h : ∀ w',Ext w w'→K (.bool (eqb p q)) w') : zd Tryz.prog Tryz.kP #[.agg c.toArray,.agg d.toArray] w K:=by
 refine Tryz.VS ?_
 unfold Tryz.Xz
 obtain ⟨v,rfl,hv⟩:=id hp
 obtain ⟨u,rfl,hu⟩:=id hq
 have S:=St.start hr
 refine S.box fun b2 w1 S=>?_
 refine S.box fun b3 w2 S=>?_
 refine S.ldB (b:=b2) ?_ rfl
 refine S.ldB (b:=b3) ?_ rfl
 refine VV S.holds hp hq fun x w4 e4 hx=>?_
 refine gg_ ?_
 have:=h _ (S.go e4).ext
 rwa [← Zt (b:=decide (x=0)) (by rw [decide_eq_true_iff,hx])] at this
theorem OpD.eq_iff {p q : OpD} : p=q↔(p.k=q.k∧p.n=q.n)∧p.pl=q.pl:=by
 cases p;cases q;simp [and_assoc]
theorem kE {p q : OpD} {c d : List Value} {w : World} {r : Gh} {K : Value→World→Prop} (hr : Holds r w) (hp : OpG r c p) (hq : OpG r d q)
  (h : ∀ w',Ext w w'→K (.bool (eqb p q)) w') : zd Tryz.prog Tryz.yJ #[.agg c.toArray,.agg d.toArray] w K:=by
 refine Tryz.YF ?_
 unfold Tryz.jB
 obtain ⟨v,rfl,hv⟩:=hp.pl
 obtain ⟨u,rfl,hu⟩:=hq.pl
 have S:=St.start hr
 refine S.box fun b2 w1 S=>?_
 have S : StX noX w r w1 [.cell b2 [.int .u8 p.k,.int .i64 p.n,.int .i64 p.pl.l,v] 41]:=S
 refine S.box fun b3 w2 S=>?_
 have S : StX noX w r w2 [.cell b3 [.int .u8 q.k,.int .i64 q.n,.int .i64 q.pl.l,u] 41,.cell b2 [.int .u8 p.k,.int .i64 p.n,.int .i64 p.pl.l,v] 41]:=S
 refine gg_ ?_
 refine zi (c:=decide (p.n=q.n)) (fun _ K2 hK2=>by refine gg_ ?_;exact hK2) ?_
 refine zn (c:=eqb p.pl q.pl) (fun _ K2 hK2=>?_) fun w3 e3=>?_
 ·refine gg_ ?_
  refine S.ldN (b:=b2) ?_
  refine gg_ ?_
  refine S.ldN (b:=b3) ?_
  exact Zu S.holds hv hu fun w4 e4=>hK2 _ e4
 have:=h _ (S.go e3).ext
 rwa [← Zt (b:=(decide (p.k=q.k)&&decide (p.n=q.n))&&eqb p.pl q.pl) (by rw [OpD.eq_iff,Bool.and_eq_true,Bool.and_eq_true,decide_eq_true_iff,decide_eq_true_iff,xX])] at this
end Go.Proofs
end
section
namespace Go.Proofs
open Go.Sh
set_option maxRecDepth 100000
set_option linter.unusedSimpArgs false
set_option linter.unusedVariables false
theorem adR {r : Gh} {c : List Value} {o : OpD} (h : OpG r c o) : ∀ u ∈ c,u.oneCell'=true:=by
 obtain ⟨v,rfl,hv⟩:=h
 obtain ⟨q,cap,rfl,_,_⟩:=hv.sl.shape
 simp [Value.oneCell']
theorem adS {r : Gh} {c : List Value} {o : PtD} (h : PtG r c o) : ∀ u ∈ c,u.oneCell'=true:=by
 obtain ⟨z1,z2,z3,z4,z5,t1,t2,t3,t4,t5,rfl,_⟩:=yV h
 simp [Value.oneCell']
theorem adT {r : Gh} {c : List Value} {o : GrD} (h : GrG r c o) : ∀ u ∈ c,u.oneCell'=true:=by
 obtain ⟨x1,x2,x3,x4,y1,y2,y3,y4,rfl,_⟩:=xr h
 simp [Value.oneCell']
theorem adU {r : Gh} {c : List Value} {t : TyD} (h : TyC r c t) : ∀ u ∈ c,u.oneCell'=true:=by
 obtain ⟨p,cap,hE,_⟩:=h
 have hE : c=tyL t p cap:=by
  have:=congrArg Value.cells hE
  simpa [Value.cells] using congrArg Array.toList this
 subst hE
 simp [Value.oneCell']
theorem VX {l m : List OpD} {va vb fv : Value} {w : World} {r : Gh} {K : Value→World→Prop} (hr : Holds r w) (ha : SlB 4 r (OpG r) va l) (hb : SlB 4 r (OpG r) vb m) (hf : Cmp r (OpG r) l m fv)
  (h : ∀ w',Ext w w'→K (.bool (eqb l m)) w') : zd Tryz.prog Tryz.zr #[va,vb,fv] w K:=
 Tryz.yd (jL (n:=4) (T:=42) (E:=41) (by decide) (by rfl) hr ha hb (fun _ _=>adR) hf h)
theorem abr {l m : List PtD} {va vb fv : Value} {w : World} {r : Gh} {K : Value→World→Prop} (hr : Holds r w) (ha : SlB 21 r (PtG r) va l) (hb : SlB 21 r (PtG r) vb m) (hf : Cmp r (PtG r) l m fv)
  (h : ∀ w',Ext w w'→K (.bool (eqb l m)) w') : zd Tryz.prog Tryz.zy #[va,vb,fv] w K:=
 Tryz.yA (jL (n:=21) (T:=31) (E:=44) (by decide) (by rfl) hr ha hb (fun _ _=>adS) hf h)
theorem ab8 {l m : List TyD} {va vb fv : Value} {w : World} {r : Gh} {K : Value→World→Prop} (hr : Holds r w) (ha : SlB 5 r (TyC r) va l) (hb : SlB 5 r (TyC r) vb m) (hf : Cmp r (TyC r) l m fv)
  (h : ∀ w',Ext w w'→K (.bool (eqb l m)) w') : zd Tryz.prog Tryz.zD #[va,vb,fv] w K:=
 Tryz.yP (jL (n:=5) (T:=29) (E:=57) (by decide) (by rfl) hr ha hb (fun _ _=>adU) hf h)
theorem abs {l m : List GrD} {va vb fv : Value} {w : World} {r : Gh} {K : Value→World→Prop} (hr : Holds r w) (ha : SlB 7 r (GrG r) va l) (hb : SlB 7 r (GrG r) vb m) (hf : Cmp r (GrG r) l m fv)
  (h : ∀ w',Ext w w'→K (.bool (eqb l m)) w') : zd Tryz.prog Tryz.zz #[va,vb,fv] w K:=
 Tryz.yB (jL (n:=7) (T:=23) (E:=33) (by decide) (by rfl) hr ha hb (fun _ _=>adT) hf h)
def FdC (r : Gh) (c : List Value) (f : ByteArray × TyD) : Prop:=∃ p cap,c = .string f.1::tyL f.2 p cap∧TyG r (tyV f.2 p cap) f.2
def SdC (r : Gh) (c : List Value) (s : StD) : Prop:=∃ q cap,c = [.string s.name,.slice q s.fs.length cap]∧SlB 6 r (FdC r) (.slice q s.fs.length cap) s.fs
theorem abt {l m : List (ByteArray × TyD)} {va vb fv : Value} {w : World} {r : Gh} {K : Value→World→Prop} (hr : Holds r w) (ha : SlB 6 r (FdC r) va l) (hb : SlB 6 r (FdC r) vb m) (hf : Cmp r (FdC r) l m fv)
  (h : ∀ w',Ext w w'→K (.bool (eqb l m)) w') : zd Tryz.prog Tryz.zx #[va,vb,fv] w K:=
 Tryz.yz (jL (n:=6) (T:=82) (E:=86) (by decide) (by rfl) hr ha hb (by rintro _ _ ⟨p,cap,rfl,_⟩;simp [Value.oneCell']) hf h)
theorem aaZ {l m : List StD} {va vb fv : Value} {w : World} {r : Gh} {K : Value→World→Prop} (hr : Holds r w) (ha : SlB 2 r (SdC r) va l) (hb : SlB 2 r (SdC r) vb m) (hf : Cmp r (SdC r) l m fv)
  (h : ∀ w',Ext w w'→K (.bool (eqb l m)) w') : zd Tryz.prog Tryz.zw #[va,vb,fv] w K:=
 Tryz.yp (jL (n:=2) (T:=22) (E:=84) (by decide) (by rfl) hr ha hb (by rintro _ _ ⟨p,cap,rfl,_⟩;simp [Value.oneCell']) hf h)
end Go.Proofs
end
section
namespace Go.Proofs
open Go.Sh
set_option maxRecDepth 100000
set_option linter.unusedSimpArgs false
set_option linter.unusedVariables false
theorem vP {a b : ByteArray} : (a.data.toList == b.data.toList)=true↔a=b:=by
 rw [beq_iff_eq]
 constructor
 ·intro h;exact ByteArray.ext (Array.toList_inj.1 h)
 ·rintro rfl;rfl
theorem afe {r : Gh} {l m : List OpD} : Cmp r (OpG r) l m (.func (.func Tryz.yJ) #[] #[]):=fun x _ y _ c d w K hc hd hr h=>
 YB (by kernel_rfl) (kE hr hc hd h)
theorem PtD.eq_iff {p q : PtD} : p=q↔((((((((((((p.op=q.op∧p.sign=q.sign)∧p.mu=q.mu)∧p.fn=q.fn)∧p.st=q.st)∧p.nx=q.nx)∧p.el=q.el)∧p.tx=q.tx)∧p.to=q.to)∧p.fr=q.fr)∧p.a=q.a)∧p.b=q.b)∧p.args=q.args):=by
 cases p;cases q
 simp only [PtD.mk.injEq]
 constructor
 ·rintro ⟨h1,h2,h3,h4,h5,h6,h7,h8,h9,h10,h11,h12,h13⟩
  exact ⟨⟨⟨⟨⟨⟨⟨⟨⟨⟨⟨⟨h1,h6⟩,h8⟩,h9⟩,h10⟩,h11⟩,h12⟩,h13⟩,h2⟩,h7⟩,h3⟩,h4⟩,h5⟩
 ·rintro ⟨⟨⟨⟨⟨⟨⟨⟨⟨⟨⟨⟨h1,h6⟩,h8⟩,h9⟩,h10⟩,h11⟩,h12⟩,h13⟩,h2⟩,h7⟩,h3⟩,h4⟩,h5⟩
  exact ⟨h1,h2,h3,h4,h5,h6,h7,h8,h9,h10,h11,h12,h13⟩
set_option maxHeartbeats 2000000 in
theorem Qa {p q : PtD} {c d : List Value} {w : World} {r : Gh} {K : Value→World→Prop} (hr : Holds r w) (hp : PtG r c p) (hq : PtG r d q)
  (h : ∀ w',Ext w w'→K (.bool (eqb p q)) w') : zd Tryz.prog Tryz.qh #[.agg c.toArray,.agg d.toArray] w K:=by
 refine Tryz.Xx ?_
 unfold Tryz.vE
 obtain ⟨z1,z2,z3,z4,z5,t1,t2,t3,t4,t5,rfl,hp0⟩:=yV hp
 obtain ⟨z1',z2',z3',z4',z5',t1',t2',t3',t4',t5',rfl,hq0⟩:=yV hq
 obtain ⟨kto,ka,kb,kl,kf⟩:=Zq hp0
 obtain ⟨mto,ma,mb,ml,mf⟩:=Zq hq0
 have S:=St.start hr
 refine S.box fun b2 w1 S=>?_
 have S : StX noX w r w1 [.cell b2 (ptL p z1 z2 z3 z4 z5 t1 t2 t3 t4 t5) 44]:=S
 refine S.box fun b3 w2 S=>?_
 have S : StX noX w r w2 [.cell b3 (ptL q z1' z2' z3' z4' z5' t1' t2' t3' t4' t5') 44,.cell b2 (ptL p z1 z2 z3 z4 z5 t1 t2 t3 t4 t5) 44]:=S
 refine gg_ ?_
 refine zi (c:=p.sign.data.toList == q.sign.data.toList) (fun _ K2 hK2=>?_) ?_
 ·refine gg_ ?_
  rw [xq p.sign,xq q.sign]
  refine gg_ ?_
  exact hK2
 refine zi (c:=p.mu == q.mu) (fun _ K2 hK2=>by refine gg_ ?_;exact hK2) ?_
 refine zi (c:=decide (p.fn=q.fn)) (fun _ K2 hK2=>by refine gg_ ?_;exact hK2) ?_
 refine zi (c:=decide (p.st=q.st)) (fun _ K2 hK2=>by refine gg_ ?_;exact hK2) ?_
 refine zi (c:=decide (p.nx=q.nx)) (fun _ K2 hK2=>by refine gg_ ?_;exact hK2) ?_
 refine zi (c:=decide (p.el=q.el)) (fun _ K2 hK2=>by refine gg_ ?_;exact hK2) ?_
 refine zi (c:=decide (p.tx=q.tx)) (fun _ K2 hK2=>by refine gg_ ?_;exact hK2) ?_
 refine zn (c:=eqb p.to q.to) (fun _ K2 hK2=>?_) fun w3 e3=>?_
 ·refine gg_ ?_
  refine S.ldN (b:=b2) ?_
  refine gg_ ?_
  refine S.ldN (b:=b3) ?_
  exact Zu S.holds kto mto fun w4 e4=>hK2 _ e4
 have S:=S.go e3
 refine zn (c:=eqb p.fr q.fr) (fun _ K2 hK2=>?_) fun w4 e4=>?_
 ·refine gg_ ?_
  refine S.ldN (b:=b2) ?_
  refine gg_ ?_
  refine S.ldN (b:=b3) ?_
  exact Zu S.holds kf mf fun w4 e4=>hK2 _ e4
 have S:=S.go e4
 refine zn (c:=eqb p.a q.a) (fun _ K2 hK2=>?_) fun w5 e5=>?_
 ·refine gg_ ?_
  refine S.ldN (b:=b2) ?_
  refine gg_ ?_
  refine S.ldN (b:=b3) ?_
  exact kE S.holds ka ma fun w4 e4=>hK2 _ e4
 have S:=S.go e5
 refine zn (c:=eqb p.b q.b) (fun _ K2 hK2=>?_) fun w6 e6=>?_
 ·refine gg_ ?_
  refine S.ldN (b:=b2) ?_
  refine gg_ ?_
  refine S.ldN (b:=b3) ?_
  exact kE S.holds kb mb fun w4 e4=>hK2 _ e4
 have S:=S.go e6
 refine zn (c:=eqb p.args q.args) (fun _ K2 hK2=>?_) fun w9 e9=>?_
 ·refine gg_ ?_
  exact VX S.holds kl ml afe fun w4 e4=>hK2 _ e4
 have:=h _ (S.go e9).ext
 rwa [← Zt (b:=((((((((((((decide (p.op=q.op)&&(p.sign.data.toList == q.sign.data.toList))&&(p.mu == q.mu))&&decide (p.fn=q.fn))&&decide (p.st=q.st))&&decide (p.nx=q.nx))&&decide (p.el=q.el))&&decide (p.tx=q.tx))&&eqb p.to q.to)&&eqb p.fr q.fr)&&eqb p.a q.a)&&eqb p.b q.b)&&eqb p.args q.args))
  (by have hs:=@vP p.sign q.sign;rw [beq_iff_eq] at hs;rw [PtD.eq_iff];simp only [Bool.and_eq_true,decide_eq_true_iff,xX,beq_iff_eq,hs])] at this
theorem aff {r : Gh} {l m : List PtD} : Cmp r (PtG r) l m (.func (.func Tryz.qh) #[] #[]):=fun x _ y _ c d w K hc hd hr h=>
 YB (by kernel_rfl) (Qa hr hc hd h)
theorem afg {s : Int} : ∀ (n : Nat) {a b : TyD},zM s n a=true→zM s n b=true→(xz fEq n a b=true↔a=b):=by
 intro n
 induction n with
 |zero=>intro a b h;cases h
 |succ n ih=>
  intro a b ha hb
  have hE : a=b↔((a.k=b.k∧a.m=b.m)∧a.st=b.st)∧a.re=b.re∧a.of=b.of:=by
   cases a;cases b;simp only [TyD.mk.injEq]
   constructor
   ·rintro ⟨h1,h2,h3,h4,h5⟩;exact ⟨⟨⟨h1,h2⟩,h4⟩,h3,h5⟩
   ·rintro ⟨⟨⟨h1,h2⟩,h4⟩,h3,h5⟩;exact ⟨h1,h2,h3,h4,h5⟩
  have hC : (!(decide (a.k≠b.k) || !(a.m == b.m)||decide (a.st≠b.st) || !fEq a.re b.re))=true↔((a.k=b.k∧a.m=b.m)∧a.st=b.st)∧a.re=b.re:=by
   simp [fEq,and_assoc]
  rcases y7 ha with ⟨ho,hk⟩|⟨u,ho,hu,hk⟩
  ·rw [Je ho,hC,hE]
   constructor
   ·rintro ⟨⟨⟨h1,h2⟩,h3⟩,h4⟩
    refine ⟨⟨⟨h1,h2⟩,h3⟩,h4,?_⟩
    rcases y7 hb with ⟨ho',hk'⟩|⟨u',ho',hu',hk'⟩
    ·rw [ho,ho']
    ·exfalso;omega
   ·rintro ⟨h1,h2,_⟩;exact ⟨h1,h2⟩
  ·rcases y7 hb with ⟨ho',hk'⟩|⟨u',ho',hu',hk'⟩
   ·have hne : a.k≠b.k:=by omega
    constructor
    ·intro h
     rw [xz,Bool.and_eq_true,hC] at h
     exact absurd h.1.1.1.1 hne
    ·rintro rfl;exact absurd rfl hne
   ·rw [Jf ho ho',Bool.and_eq_true,hC,ih hu hu',hE,ho,ho']
    simp [and_assoc]
theorem YY {a b : TyD} {w : World} {r : Gh} {va vb : Value} {K : Value→World→Prop} (hr : Holds r w) (ha : TyG r va a) (hb : TyG r vb b) (hA : isB a=true) (hB : isB b=true)
  (h : ∀ w',Ext w w'→K (.bool (eqb a b)) w') : zd Tryz.prog Tryz.kL #[va,vb] w K:=by
 refine aaC hr ha hb fun w' e=>?_
 have:=h _ e
 rwa [← Zt (b:=zU fEq a b) (by rw [zU,hA,hB,Bool.true_and,Bool.true_and];exact afg 48 hA hB)] at this
theorem afh {r : Gh} {l m : List TyD} (hl : ∀ x ∈ l,isB x=true) (hm : ∀ x ∈ m,isB x=true) : Cmp r (TyC r) l m (.func (.func Tryz.kL) #[] #[]):=fun x hx y hy c d w K hc hd hr h=>
 YB (by kernel_rfl) (YY hr hc hd (hl x hx) (hm y hy) h)
theorem VY {l m : List (Int × Int)} {va vb : Value} {w : World} {r : Gh} {K : Value→World→Prop} (hr : Holds r w) (ha : SlB 2 r QF va l) (hb : SlB 2 r QF vb m)
  (h : ∀ w',Ext w w'→K (.bool (eqb l m)) w') : zd Tryz.prog Tryz.zR #[va,vb] w K:=by
 refine Tryz.xZ ?_
 unfold Tryz.yw
 obtain ⟨pa,ca,rfl,_,_⟩:=ha.sl.shape
 obtain ⟨pb,cb,rfl,_,_⟩:=hb.sl.shape
 have hla : l.length≤9223372036854775807:=ha.few
 have S:=St.start hr
 refine gg_ ?_
 refine zg (fun hne=>?_) (fun heq=>?_)
 ·have:=h _ S.ext
  rwa [Yt (fun e=>hne (by rw [e]))] at this
 have hlen : l.length=m.length:=by
  rcases Nat.lt_trichotomy l.length m.length with h|h|h
  ·exact absurd (fun e=>by omega : ((l.length : Int)≠m.length)) heq
  ·exact h
  ·exact absurd (fun e=>by omega : ((l.length : Int)≠m.length)) heq
 refine gg_ ?_
 refine zk (ι:=Nat) (fun i=>[.int .i64 (i : Nat)]) (fun i w'=>i≤l.length∧l.take i=m.take i∧StX noX w r w' []) (fun i=>l.length - i) 0 rfl ⟨Nat.zero_le _,rfl,S⟩ ?_
 clear S
 rintro i d w4 ⟨hi,htk,S⟩ K1 hK1
 rw [List.getD_cons_zero]
 refine gg_ ?_
 refine zg (fun hlt=>?_) (fun hge=>?_)
 ·have hlt : i<l.length:=by omega
  have hlt2 : i<m.length:=by omega
  obtain ⟨ba,oa,c,rfl,hcl,hR,hca⟩:=ha.sl.get (by decide) hlt
  obtain ⟨bb,ob,d,rfl,hdl,hQ,hcb⟩:=hb.sl.get (by decide) hlt2
  have S:=S.go (Ext.drew _)
  obtain rfl : c = [.int .i64 l[i].1,.int .i64 l[i].2]:=hR
  obtain rfl : d = [.int .i64 m[i].1,.int .i64 m[i].2]:=hQ
  refine gg_ ?_
  refine zs (n:=2) rfl (fun j v hj=>by rw [Int.toNat_natCast];exact S.at (hca j v hj)) ?_
  refine gg_ ?_
  refine zs (n:=2) rfl (fun j v hj=>by rw [Int.toNat_natCast];exact S.at (hcb j v hj)) ?_
  refine gg_ ?_
  have hN : ∀ (x y : Int × Int),((!(decide (x.1=y.1)&&decide (x.2=y.2)))=true↔x≠y):=fun x y=>by
   rcases x with ⟨x1,x2⟩;rcases y with ⟨y1,y2⟩;by_cases h1 : x1=y1<;>by_cases h2 : x2=y2<;>simp [h1,h2]
  refine c_b (fun hb=>?_) (fun hb=>?_)
  ·have hne : l[i]≠m[i]:=(hN _ _).1 hb
   have:=h _ S.ext
   rwa [Yt (fun e=>hne (by subst e;rfl))] at this
  ·have he : l[i]=m[i]:=Decidable.not_not.1 fun hn=>by rw [(hN _ _).2 hn] at hb;cases hb
   refine gg_ ?_
   refine hK1 (i+1) _ ⟨hlt,?_,S⟩ (by omega)
   rw [List.take_succ_eq_append_getElem hlt,List.take_succ_eq_append_getElem hlt2,htk,he]
 have hie : i=l.length:=by omega
 subst hie
 have he : l=m:=by rwa [List.take_length,hlen,List.take_length] at htk
 have:=h _ S.ext
 rwa [he,YJ] at this
theorem abu {l m : List ByteArray} {va vb : Value} {w : World} {r : Gh} {K : Value→World→Prop} (hr : Holds r w) (ha : SlB 1 r Z2 va l) (hb : SlB 1 r Z2 vb m)
  (h : ∀ w',Ext w w'→K (.bool (eqb l m)) w') : zd Tryz.prog Tryz.yN #[va,vb] w K:=by
 refine Tryz.jw ?_
 unfold Tryz.xW
 obtain ⟨pa,ca,rfl,_,_⟩:=ha.sl.shape
 obtain ⟨pb,cb,rfl,_,_⟩:=hb.sl.shape
 have hla : l.length≤9223372036854775807:=ha.few
 have S:=St.start hr
 refine gg_ ?_
 refine zg (fun hne=>?_) (fun heq=>?_)
 ·have:=h _ S.ext
  rwa [Yt (fun e=>hne (by rw [e]))] at this
 have hlen : l.length=m.length:=by
  rcases Nat.lt_trichotomy l.length m.length with h|h|h
  ·exact absurd (fun e=>by omega : ((l.length : Int)≠m.length)) heq
  ·exact h
  ·exact absurd (fun e=>by omega : ((l.length : Int)≠m.length)) heq
 refine gg_ ?_
 refine zk (ι:=Nat) (fun i=>[.int .i64 (i : Nat)]) (fun i w'=>i≤l.length∧l.take i=m.take i∧StX noX w r w' []) (fun i=>l.length - i) 0 rfl ⟨Nat.zero_le _,rfl,S⟩ ?_
 clear S
 rintro i d w4 ⟨hi,htk,S⟩ K1 hK1
 rw [List.getD_cons_zero]
 refine gg_ ?_
 refine zg (fun hlt=>?_) (fun hge=>?_)
 ·have hlt : i<l.length:=by omega
  have hlt2 : i<m.length:=by omega
  obtain ⟨ba,oa,c,rfl,hcl,hR,hca⟩:=ha.sl.get (by decide) hlt
  obtain ⟨bb,ob,d,rfl,hdl,hQ,hcb⟩:=hb.sl.get (by decide) hlt2
  have S:=S.go (Ext.drew _)
  obtain rfl : c = [.string l[i]]:=hR
  obtain rfl : d = [.string m[i]]:=hQ
  refine gg_ ?_
  refine zE (v:=.string l[i]) (by simpa using S.at (hca 0 _ rfl)) ?_
  refine gg_ ?_
  refine zE (v:=.string m[i]) (by simpa using S.at (hcb 0 _ rfl)) ?_
  rw [xq l[i],xq m[i]]
  refine gg_ ?_
  have hN : ∀ (x y : ByteArray),((!(x.data.toList == y.data.toList))=true↔x≠y):=fun x y=>by
   rw [Bool.not_eq_true',← Bool.not_eq_true,ne_eq,← vP]
  refine c_b (fun hb=>?_) (fun hb=>?_)
  ·have hne : l[i]≠m[i]:=(hN _ _).1 hb
   have:=h _ S.ext
   rwa [Yt (fun e=>hne (by subst e;rfl))] at this
  ·have he : l[i]=m[i]:=vP.1 (by simpa using hb)
   refine gg_ ?_
   refine hK1 (i+1) _ ⟨hlt,?_,S⟩ (by omega)
   rw [List.take_succ_eq_append_getElem hlt,List.take_succ_eq_append_getElem hlt2,htk,he]
 have hie : i=l.length:=by omega
 subst hie
 have he : l=m:=by rwa [List.take_length,hlen,List.take_length] at htk
 have:=h _ S.ext
 rwa [he,YJ] at this
end Go.Proofs
end
section
namespace Go.Proofs
open Go.Sh
set_option maxRecDepth 100000
set_option linter.unusedSimpArgs false
set_option linter.unusedVariables false
theorem afS {a b : ByteArray × TyD} : a=b↔a.1=b.1∧a.2=b.2:=by
 rcases a with ⟨a1,a2⟩;rcases b with ⟨b1,b2⟩;simp
theorem afi {r : Gh} {l m : List (ByteArray × TyD)} (hl : ∀ x ∈ l,isB x.2=true) (hm : ∀ x ∈ m,isB x.2=true) : Cmp r (FdC r) l m (.func (.func Tryz.Zb) #[] #[]):=fun x hx y hy c d w K hc hd hr h=>by
 refine YB (by kernel_rfl) ?_
 refine Tryz.X9 ?_
 unfold Tryz.Zo
 obtain ⟨p,cap,rfl,ht⟩:=hc
 obtain ⟨q,cap',rfl,hu⟩:=hd
 have S:=St.start hr
 refine S.box fun b2 w1 S=>?_
 have S : StX noX w r w1 [.cell b2 (.string x.1::tyL x.2 p cap) 86]:=S
 refine S.box fun b3 w2 S=>?_
 have S : StX noX w r w2 [.cell b3 (.string y.1::tyL y.2 q cap') 86,.cell b2 (.string x.1::tyL x.2 p cap) 86]:=S
 refine gg_ ?_
 rw [xq x.1,xq y.1]
 refine gg_ ?_
 refine zn (c:=eqb x.2 y.2) (fun _ K2 hK2=>?_) fun w3 e3=>?_
 ·refine gg_ ?_
  refine S.ldN (b:=b2) (vs:=tyL x.2 p cap) ?_
  refine gg_ ?_
  refine S.ldN (b:=b3) (vs:=tyL y.2 q cap') ?_
  exact YY S.holds ht hu (hl x hx) (hm y hy) fun w4 e4=>hK2 _ e4
 have:=h _ (S.go e3).ext
 rwa [← Zt (b:=((x.1.data.toList == y.1.data.toList)&&eqb x.2 y.2)) (by rw [afS,Bool.and_eq_true,vP,xX])] at this
theorem StD.eq_iff {a b : StD} : a=b↔a.name=b.name∧a.fs=b.fs:=by
 cases a;cases b;simp
theorem afj {r : Gh} {l m : List StD} (hl : ∀ s ∈ l,∀ x ∈ s.fs,isB x.2=true) (hm : ∀ s ∈ m,∀ x ∈ s.fs,isB x.2=true) : Cmp r (SdC r) l m (.func (.func Tryz.Ya) #[] #[]):=fun x hx y hy c d w K hc hd hr h=>by
 refine YB (by kernel_rfl) ?_
 refine Tryz.Jj ?_
 unfold Tryz.Yp
 obtain ⟨p,cap,rfl,ht⟩:=hc
 obtain ⟨q,cap',rfl,hu⟩:=hd
 have S:=St.start hr
 refine S.box fun b2 w1 S=>?_
 have S : StX noX w r w1 [.cell b2 [.string x.name,.slice p x.fs.length cap] 84]:=S
 refine S.box fun b3 w2 S=>?_
 have S : StX noX w r w2 [.cell b3 [.string y.name,.slice q y.fs.length cap'] 84,.cell b2 [.string x.name,.slice p x.fs.length cap] 84]:=S
 refine gg_ ?_
 rw [xq x.name,xq y.name]
 refine gg_ ?_
 refine zn (c:=eqb x.fs y.fs) (fun _ K2 hK2=>?_) fun w3 e3=>?_
 ·refine gg_ ?_
  exact abt S.holds ht hu (afi (hl x hx) (hm y hy)) fun w4 e4=>hK2 _ e4
 have:=h _ (S.go e3).ext
 rwa [← Zt (b:=((x.name.data.toList == y.name.data.toList)&&eqb x.fs y.fs)) (by rw [StD.eq_iff,Bool.and_eq_true,vP,xX])] at this
theorem GrD.eq_iff {a b : GrD} : a=b↔((((((a.name=b.name∧a.lv=b.lv)∧a.pn=b.pn)∧a.outs=b.outs)∧a.nms=b.nms)∧a.tys=b.tys)∧a.pts=b.pts):=by
 cases a;cases b
 simp only [GrD.mk.injEq]
 constructor
 ·rintro ⟨h1,h2,h3,h4,h5,h6,h7⟩;exact ⟨⟨⟨⟨⟨⟨h1,h2⟩,h4⟩,h3⟩,h6⟩,h5⟩,h7⟩
 ·rintro ⟨⟨⟨⟨⟨⟨h1,h2⟩,h4⟩,h3⟩,h6⟩,h5⟩,h7⟩;exact ⟨h1,h2,h3,h4,h5,h6,h7⟩
theorem afk {r : Gh} {l m : List GrD} (hl : ∀ s ∈ l,∀ x ∈ s.tys,isB x=true) (hm : ∀ s ∈ m,∀ x ∈ s.tys,isB x=true) : Cmp r (GrG r) l m (.func (.func Tryz.Yb) #[] #[]):=fun x hx y hy c d w K hc hd hr h=>by
 refine YB (by kernel_rfl) ?_
 refine Tryz.Jk ?_
 unfold Tryz.Yq
 obtain ⟨x1,x2,x3,x4,y1,y2,y3,y4,rfl,hg⟩:=xr hc
 obtain ⟨x1',x2',x3',x4',y1',y2',y3',y4',rfl,hg'⟩:=xr hd
 obtain ⟨_,_,_,_,hE,m1,m2,m3,m4⟩:=hg
 cases hE
 obtain ⟨_,_,_,_,hE,n1,n2,n3,n4⟩:=hg'
 cases hE
 have S:=St.start hr
 refine S.box fun b2 w1 S=>?_
 have S : StX noX w r w1 [.cell b2 (grL x x1 x2 x3 x4 y1 y2 y3 y4) 33]:=S
 refine S.box fun b3 w2 S=>?_
 have S : StX noX w r w2 [.cell b3 (grL y x1' x2' x3' x4' y1' y2' y3' y4') 33,.cell b2 (grL x x1 x2 x3 x4 y1 y2 y3 y4) 33]:=S
 refine gg_ ?_
 rw [xq x.name,xq y.name]
 refine gg_ ?_
 refine zi (c:=decide (x.lv=y.lv)) (fun _ K2 hK2=>by refine gg_ ?_;exact hK2) ?_
 refine zi (c:=decide (x.pn=y.pn)) (fun _ K2 hK2=>by refine gg_ ?_;exact hK2) ?_
 refine zn (c:=eqb x.outs y.outs) (fun _ K2 hK2=>?_) fun w3 e3=>?_
 ·refine gg_ ?_
  exact VY S.holds m1 n1 fun w4 e4=>hK2 _ e4
 have S:=S.go e3
 refine zn (c:=eqb x.nms y.nms) (fun _ K2 hK2=>?_) fun w3 e3=>?_
 ·refine gg_ ?_
  exact abu S.holds m3 n3 fun w4 e4=>hK2 _ e4
 have S:=S.go e3
 refine zn (c:=eqb x.tys y.tys) (fun _ K2 hK2=>?_) fun w3 e3=>?_
 ·refine gg_ ?_
  exact ab8 S.holds m2 n2 (afh (hl x hx) (hm y hy)) fun w4 e4=>hK2 _ e4
 have S:=S.go e3
 refine zn (c:=eqb x.pts y.pts) (fun _ K2 hK2=>?_) fun w3 e3=>?_
 ·refine gg_ ?_
  exact abr S.holds m4 n4 aff fun w4 e4=>hK2 _ e4
 have:=h _ (S.go e3).ext
 rwa [← Zt (b:=((((((x.name.data.toList == y.name.data.toList)&&decide (x.lv=y.lv))&&decide (x.pn=y.pn))&&eqb x.outs y.outs)&&eqb x.nms y.nms)&&eqb x.tys y.tys)&&eqb x.pts y.pts)
  (by have hs:=@vP x.name y.name;rw [beq_iff_eq] at hs;rw [GrD.eq_iff];simp only [Bool.and_eq_true,decide_eq_true_iff,xX,beq_iff_eq,hs])] at this
theorem abG {u : UnD} (hM : MayU u) : ∀ g ∈ u.fs,∀ x ∈ g.tys,isB x=true:=fun g hg x hx=>by
 obtain ⟨i,hi,rfl⟩:=List.getElem_of_mem hg
 have hff:=(hM.hd hi).fine hM.ok
 exact (hff.all _ hx).is hff.few
theorem aa0 {u : UnD} (hM : MayU u) : ∀ s ∈ u.ss,s.fs.length≤8∧∀ x ∈ s.fs,isB x.2=true:=fun s hs=>by
 obtain ⟨k,hk,rfl⟩:=List.getElem_of_mem hs
 obtain ⟨h1,h2,h3,_⟩:=kY hM.ok
 have hat : ze u.ss (k : Nat)=u.ss[k].fs.map (·.2):=by rw [ze,Int.toNat_natCast,List.getElem?_eq_getElem hk]
 have hb:=h2 k hk
 rw [qk] at hb
 simp only [Bool.or_eq_false_iff,decide_eq_false_iff_not] at hb
 have hl:=hb.1.2
 rw [hat,List.length_map] at hl
 refine ⟨by omega,fun x hx=>?_⟩
 exact XA (h3 k x.2 (by rw [hat];exact List.mem_map_of_mem hx)) (Nat.le_refl _) (by omega)
theorem aed {r : Gh} {ss : List StD} {p : Option Addr} {cap : Nat} (h : StG r p ss) (hc : ss.length≤cap) (hp : p=none→cap=0) (hl : ss.length≤maxLen) (hf : ∀ s ∈ ss,s.fs.length≤8) : SlB 2 r (SdC r) (.slice p ss.length cap) ss:=by
 have hrep : Rep r (.sl 2 (ss.map StD.dat)) [.slice p ss.length cap]:=⟨p,cap,by rw [List.length_map],hp,by rw [List.length_map];exact hc,h⟩
 obtain ⟨v,hv,hs⟩:=y8 (R:=SdC r) (fun c s hs hr=>by
  obtain ⟨a1,b1,rfl,e1,a2,b2,rfl,e2,e3⟩:=hr
  obtain rfl : a1=_:=e1
  obtain rfl : b2 = []:=e3
  obtain ⟨v,rfl,hv⟩:=y8 (R:=FdC r) (fun c x hx hr=>by
   obtain ⟨a1,b1,rfl,e1,a2,b2,rfl,e2,e3⟩:=hr
   obtain rfl : a1=_:=e1
   obtain rfl : b2 = []:=e3
   have ht:=TyG.of_rep e2
   obtain ⟨q,cap',hE,hq⟩:=id ht
   have hE : a2=tyL x.2 q cap':=by
    have:=congrArg Value.cells hE
    simpa [Value.cells] using congrArg Array.toList this
   subst hE
   exact ⟨q,cap',by simp,ht⟩) e2 (by have:=hf s hs;simp only [maxLen];omega)
  obtain ⟨q,cap',rfl,_,_⟩:=hv.sl.shape
  exact ⟨q,cap',rfl,hv⟩) hrep hl
 cases hv
 exact hs
theorem UnD.eq_iff {a b : UnD} : a=b↔(a.mn=b.mn∧a.ss=b.ss)∧a.fs=b.fs:=by
 cases a;cases b
 simp only [UnD.mk.injEq]
 constructor
 ·rintro ⟨h1,h2,h3⟩;exact ⟨⟨h3,h1⟩,h2⟩
 ·rintro ⟨⟨h3,h1⟩,h2⟩;exact ⟨h1,h2,h3⟩
theorem aa1 {a b : UnD} {va vb : Value} {w : World} {r : Gh} {K : Value→World→Prop} (hr : Holds r w) (ha : UnG r va a) (hb : UnG r vb b)
  (h : ∀ w',Ext w w'→K (.bool ((qM a&&qM b)&&eqb a b)) w') : zd Tryz.prog Tryz.vY #[va,vb] w K:=by
 refine Tryz.VO ?_
 unfold Tryz.Xu
 have ha0:=ha
 have hb0:=hb
 obtain ⟨p0,cap0,vf,rfl,hp1,hp2,hst,hsl,hfn⟩:=ha
 obtain ⟨qf,capf,rfl,_,_⟩:=hfn.sl.shape
 obtain ⟨p0',cap0',vf',rfl,hp1',hp2',hst',hsl',hfn'⟩:=hb
 obtain ⟨qf',capf',rfl,_,_⟩:=hfn'.sl.shape
 have S:=St.start hr
 refine S.box fun b2 w1 S=>?_
 have S : StX noX w r w1 [.cell b2 [.slice p0 a.ss.length cap0,.slice qf a.fs.length capf,.int .i64 a.mn] 25]:=S
 refine S.box fun b3 w2 S=>?_
 have S : StX noX w r w2 [.cell b3 [.slice p0' b.ss.length cap0',.slice qf' b.fs.length capf',.int .i64 b.mn] 25,.cell b2 [.slice p0 a.ss.length cap0,.slice qf a.fs.length capf,.int .i64 a.mn] 25]:=S
 refine S.ldB (b:=b2) ?_ rfl
 refine xc S.holds ha0 fun w3 e3=>?_
 have S:=S.go e3
 refine zn (c:=qM b) (fun _ K2 hK2=>?_) fun w3 e3=>?_
 ·refine S.ldB (b:=b3) ?_ rfl
  exact xc S.holds hb0 fun w3 e3=>hK2 _ e3
 have S:=S.go e3
 refine zi (c:=decide (a.mn=b.mn)) (fun _ K2 hK2=>by refine gg_ ?_;exact hK2) ?_
 refine zn (c:=eqb a.ss b.ss) (fun hb1 K2 hK2=>?_) fun w3 e3=>?_
 ·simp only [Bool.and_eq_true,kh] at hb1
  have fa:=aa0 hb1.1.1;have fb:=aa0 hb1.1.2
  refine gg_ ?_
  exact aaZ S.holds (aed hst hp2 hp1 hsl fun s hs=>(fa s hs).1) (aed hst' hp2' hp1' hsl' fun s hs=>(fb s hs).1) (afj (fun s hs=>(fa s hs).2) fun s hs=>(fb s hs).2) fun w4 e4=>hK2 _ e4
 have S:=S.go e3
 refine zn (c:=eqb a.fs b.fs) (fun hb1 K2 hK2=>?_) fun w3 e3=>?_
 ·simp only [Bool.and_eq_true,kh] at hb1
  refine gg_ ?_
  exact abs S.holds hfn hfn' (afk (abG hb1.1.1.1) (abG hb1.1.1.2)) fun w4 e4=>hK2 _ e4
 have:=h _ (S.go e3).ext
 have hB : ((((qM a&&qM b)&&decide (a.mn=b.mn))&&eqb a.ss b.ss)&&eqb a.fs b.fs)=((qM a&&qM b)&&eqb a b):=by
  rw [Bool.eq_iff_iff]
  simp only [Bool.and_eq_true,decide_eq_true_iff,xX,UnD.eq_iff (a:=a)]
  constructor
  ·rintro ⟨⟨⟨h1,h2⟩,h3⟩,h4⟩;exact ⟨h1,⟨h2,h3⟩,h4⟩
  ·rintro ⟨h1,⟨h2,h3⟩,h4⟩;exact ⟨⟨⟨h1,h2⟩,h3⟩,h4⟩
 rwa [← hB] at this
end Go.Proofs
end
