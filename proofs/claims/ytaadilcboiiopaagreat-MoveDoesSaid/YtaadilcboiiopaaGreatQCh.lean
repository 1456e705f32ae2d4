/-
  Contracts and plain laws that the last text leans on.
-/
import Derived.Test.YtaadilcboiiopaaGreatQCg
import Derived.Test.YtaadilcboiiopaaGreatQCb
import Derived.Test.YtaadilcboiiopaaGreatQCf
import Derived.Test.YtaadilcboiiopaaGreatQCd
set_option maxRecDepth 100000
set_option maxHeartbeats 8000000
set_option linter.unusedVariables false
set_option linter.unusedSimpArgs false
namespace Go.Proofs
open Go.Sh Go.RowKit
section
section
variable {n bs b10:Nat} {r:Gh} {X:Nat→Prop} {w0:World} {L:List Asr}
theorem akZ{bm:Nat}(h10:Ob r λw=>w.cell? ⟨b10,0,none⟩=some (.map (some bs))):TelF (λt a L'=>∃M,L'=.obj bs (zN M)::L∧SetF n t M a.1) n r X w0 bm (.func (.func Tryz.YK) #[] #[.pointer (some ⟨b10,0,none⟩)]) where
 alike:=λ⟨M,e,h⟩ ha=>⟨M,e,h.congr λi hi=>(ha i hi).1⟩
 more:=λ⟨M,e,h⟩ ht=>⟨M,e,h.mono ht⟩
 tell:=by
  rintro i t a L' Mv m B r' w K hi ht lr ⟨M,rfl,hM⟩ hMv S hK
  refine aiD (by kernel_rfl) ?_
  refine Tryz.aep ?_
  unfold Tryz.Vv
  refine zg (S.at (h10.up (l:=lr))) ?_
  have hc:=hM.cnt i
  refine Yz (b:=bs) S (by omega) λw' S=>?_
  exact hK _ w' ⟨_,rfl,hM.put hi⟩ S
theorem aj2{bm:Nat}(h10:Ob r λw=>w.cell? ⟨b10,0,none⟩=some (.map (some bs))):TelF (λt a L'=>∃M,L'=.obj bs (zN M)::L∧SetF n t M a.2) n r X w0 bm (.func (.func Tryz.ZT) #[] #[.pointer (some ⟨b10,0,none⟩)]) where
 alike:=λ⟨M,e,h⟩ ha=>⟨M,e,h.congr λi hi=>(ha i hi).2⟩
 more:=λ⟨M,e,h⟩ ht=>⟨M,e,h.mono ht⟩
 tell:=by
  rintro i t a L' Mv m B r' w K hi ht lr ⟨M,rfl,hM⟩ hMv S hK
  refine aiD (by kernel_rfl) ?_
  refine Tryz.adx ?_
  unfold Tryz.Jt
  refine S.mapGetJ (b:=bm) mpS amv ?_
  rw[aes]
  refine gp_ ?_
  rw[hMv.has hi]
  refine c_b (λhm=>?_) (λhm=>?_)
  ·refine zg (S.at (h10.up (l:=lr))) ?_
   have hc:=hM.cnt i
   refine Yz (b:=bs) S (by omega) λw' S=>?_
   refine hK _ w' ⟨_,rfl,?_⟩ S
   have e:(aiZ a i (m i)).2=xm a.2 i true:=by show xm a.2 i (a.2 i||m i)=_;rw[hm,Bool.or_true]
   rw[e]
   exact hM.put hi
  ·refine hK _ w ⟨M,rfl,(hM.mono (Nat.le_succ t)).congr λj _=>?_⟩ S
   show a.2 j=xm a.2 i (a.2 i||m i) j
   rw[hm,Bool.or_false,xm]
   split
   ·rename_i e;rw[e]
   ·rfl
end
section
variable {u:UnD} {fn q:Int} {v:Value} {w:World} {r:Gh} {K:Value→World→Prop}
theorem QX(hr:Holds r w)(hu:UnG r v u)
  (h0:∀e w',e≠0→mvE u fn q=e→Ext w w'→K (.tuple #[.slice none 0 0,.int .i64 e]) w')
  (h1:∀g v1 s w',mvE u fn q=0→FnM u fn g→0≤q→(hq:q.toNat<g.pts.length)→(zq u g).length≤256→Ext w w'→New w s w'→SlG 1 s zQ v1 (risI (zq u g).length (yq u g (zq u g) g.pts[q.toNat]).all)→K (.tuple #[v1,.int .i64 0]) w'):
  zd Tryz.prog Tryz.Yg #[v,.int .i64 fn,.int .i64 q] w K:=by
 refine Tryz.ag0 ?_
 unfold Tryz.abH
 have hu0:=hu
 obtain⟨p0,cap0,vf,rfl,_,_,hst,hsl,hfn⟩:=hu
 obtain⟨qf,capf,rfl,_,_⟩:=hfn.sl.shape
 have S:=St.start hr
 refine S.box λb3 w1 S=>?_
 have S:StX noX w r w1 [.cell b3 [.slice p0 u.ss.length cap0,.slice qf u.fs.length capf,.int .i64 u.mn] 25]:=S
 refine S.ldB (b:=b3) ?_ rfl
 refine Qy S.holds hu0 (λe w2 he hof e2=>?_) λg s bx w2 hof hq0 F hq hb e2 n2 hL=>?_
 ·refine gg_ ?_
  refine c_t (by simp[he]) ?_
  exact h0 e w2 he hof (S.go e2).ext
 obtain⟨S,_,a2⟩:=S.tell e2 n2
 refine gg_ ?_
 refine c_f (by decide) ?_
 refine S.mkMapJ λbs w3 S=>?_
 refine S.al λb10 w4 S=>?_
 refine S.st (b:=b10) (λw5 S=>?_) (by simp)
 have S:StX noX w (r.or s) w5 (.cell b10 [.map (some bs)] 82::.obj bs (zN [])::[.cell b3 [.slice p0 u.ss.length cap0,.slice qf u.fs.length capf,.int .i64 u.mn] 25]):=S
 obtain⟨S,a10⟩:=StX.frzNew S b10
 have h10:Ob ((r.or s).or (Go.Sh.one b10 [.map (some bs)] 82)) λw=>w.cell? ⟨b10,0,none⟩=some (.map (some bs)):=xb (b:=b10) (i:=0) (c:=[.map (some bs)]) (T:=82) rfl
 refine gp_ ?_
 refine aj1 (ft:=.func Tryz.YK) S hL F hq0 hq rfl hb (λbm=>akZ h10) ⟨[],rfl,SetF.none⟩ λt L' w6 hR S=>?_
 obtain⟨M,rfl,hM⟩:=hR
 refine zg (S.at h10) ?_
 refine Z8 (b:=bs) S hM (by omega) λv1 s1 w7 S h1' a1=>?_
 have S:=S.reGh.reGh
 exact h1 g v1 _ _ hof F hq0 hq hb S.ext (S.newOf (a2.or' (Above.or' a10 λb o ho=>(a1 b o ho).resolve_right id))) (h1'.up' inferInstance λ_ _ h=>h)
theorem XY(hr:Holds r w)(hu:UnG r v u)
  (h0:∀e w',e≠0→mvE u fn q=e→Ext w w'→K (.tuple #[.int .i64 0,.bool false,.int .i64 e]) w')
  (h1:∀g w',mvE u fn q=0→FnM u fn g→0≤q→(hq:q.toNat<g.pts.length)→(zq u g).length≤256→Ext w w'→K (.tuple #[.int .i64 ((kq (zq u g).length (yq u g (zq u g) g.pts[q.toNat]).again).getD 0),.bool (kq (zq u g).length (yq u g (zq u g) g.pts[q.toNat]).again).isSome,.int .i64 0]) w'):
  zd Tryz.prog Tryz.Zo #[v,.int .i64 fn,.int .i64 q] w K:=by
 refine Tryz.afQ ?_
 unfold Tryz.aaw
 have hu0:=hu
 obtain⟨p0,cap0,vf,rfl,_,_,hst,hsl,hfn⟩:=hu
 obtain⟨qf,capf,rfl,_,_⟩:=hfn.sl.shape
 have S:=St.start hr
 refine S.box λb3 w1 S=>?_
 have S:StX noX w r w1 [.cell b3 [.slice p0 u.ss.length cap0,.slice qf u.fs.length capf,.int .i64 u.mn] 25]:=S
 refine S.ldB (b:=b3) ?_ rfl
 refine Qy S.holds hu0 (λe w2 he hof e2=>?_) λg s bx w2 hof hq0 F hq hb e2 n2 hL=>?_
 ·refine gg_ ?_
  refine c_t (by simp[he]) ?_
  exact h0 e w2 he hof (S.go e2).ext
 obtain⟨S,_,a2⟩:=S.tell e2 n2
 refine gg_ ?_
 refine c_f (by decide) ?_
 refine S.mkMapJ λbs w3 S=>?_
 refine S.al λb10 w4 S=>?_
 refine S.st (b:=b10) (λw5 S=>?_) (by simp)
 have S:StX noX w (r.or s) w5 (.cell b10 [.map (some bs)] 82::.obj bs (zN [])::[.cell b3 [.slice p0 u.ss.length cap0,.slice qf u.fs.length capf,.int .i64 u.mn] 25]):=S
 obtain⟨S,a10⟩:=StX.frzNew S b10
 have h10:Ob ((r.or s).or (Go.Sh.one b10 [.map (some bs)] 82)) λw=>w.cell? ⟨b10,0,none⟩=some (.map (some bs)):=xb (b:=b10) (i:=0) (c:=[.map (some bs)]) (T:=82) rfl
 refine gp_ ?_
 refine aj1 (ft:=.func Tryz.ZT) S hL F hq0 hq rfl hb (λbm=>aj2 h10) ⟨[],rfl,SetF.none⟩ λt L' w6 hR S=>?_
 obtain⟨M,rfl,hM⟩:=hR
 refine zg (S.at h10) ?_
 have h1:=λw'=>h1 g w' hof F hq0 hq hb
 rw[kq]at h1
 refine Z8 (b:=bs) S hM (by omega) λv1 s1 w7 S h1' a1=>?_
 generalize risI (zq u g).length (yq u g (zq u g) g.pts[q.toNat]).again=l at *
 obtain⟨ql,cl,rfl,_,_⟩:=h1'.shape
 refine gp_ ?_
 refine gp_ ?_
 refine zf (λhp=>?_) (λhp=>?_)
 ·obtain⟨bo,oo,rfl,_,hc⟩:=xz h1' (show 0<l.length by omega)
  refine gp_ ?_
  refine zg (S.at hc) ?_
  cases l with
  |nil=>simp at hp
  |cons x l=>exact h1 _ S.ext
 ·cases l with
  |nil=>exact h1 _ S.ext
  |cons x l=>simp at hp
end
theorem JC{p q:PlD}{c d:List Value}{w:World}{r:Gh}{K:Value→World→Prop}(hr:Holds r w)(hp:PlG r c p)(hq:PlG r d q)
  (h:∀w',Ext w w'→K (.int .i64 (zJ p q)) w'):zd Tryz.prog Tryz.yW #[.agg c.toArray,.agg d.toArray] w K:=
 JA hr hp hq λos=>h _ ⟨rfl,rfl,rfl,by simp[Sort.grow],λk hk=>by
  show(w.heap++os)[k]? = w.heap[k]?
  exact Array.getElem?_append_left hk⟩
noncomputable def j5(ps:List PlD)(p:PlD):Option Nat:=(List.range ps.length).find? λi=>eqb (pthAt ps i) p
theorem Vb{ps:List PlD}{p:PlD}{i:Nat}(h:j5 ps p=some i):∃hi:i<ps.length,ps[i]=p:=by
 have h1:=List.mem_of_find?_eq_some h
 have h2:=List.find?_some h
 have hi:=List.mem_range.1 h1
 refine⟨hi,?_⟩
 rw[← vY hi];exact vV.1 h2
theorem aff{ps:List PlD}{p:PlD}{i:Nat}(ha:ZD ps)(hi:i<ps.length)(he:ps[i]=p):j5 ps p=some i:=by
 cases h:j5 ps p with
 |none=>
  have:=List.find?_eq_none.1 h i (List.mem_range.2 hi)
  rw[vY hi,he,vV.2 rfl]at this
  exact absurd rfl this
 |some j=>
  obtain⟨hj,hje⟩:=Vb h
  have hp:=List.pairwise_iff_getElem.1 ha
  rcases Nat.lt_trichotomy i j with hl|rfl|hl
  ·have:=hp i j hi hj hl
   rw[he,hje,YB]at this;omega
  ·rfl
  ·have:=hp j i hj hi hl
   rw[he,hje,YB]at this;omega
theorem ai1{ps:List PlD}{p:PlD}(h:∀i (hi:i<ps.length),ps[i]≠p):j5 ps p=none:=by
 cases h':j5 ps p with
 |none=>rfl
 |some j=>obtain ⟨hj,hje⟩:=Vb h';exact absurd hje (h j hj)
section
variable {ps:List PlD} {p:PlD} {c:List Value} {v:Value} {w:World} {r:Gh} {K:Value→World→Prop}
theorem ak0(hr:Holds r w)(hps:SlG 2 r (PlG r) v ps)(ha:ZD ps)(hf:ps.length≤1000000)(hp:PlG r c p)
  (h:∀w' x,Ext w w'→(∀i,j5 ps p=some i→x=i)→K (.tuple #[.int .i64 x,.bool (j5 ps p).isSome]) w'):zd Tryz.prog Tryz.zM #[v,.agg c.toArray,.func (.func Tryz.yW) #[] #[]] w K:=by
 refine Tryz.xA ?_
 unfold Tryz.yp
 have hp0:=hp
 obtain⟨vv,rfl,hl⟩:=hp
 obtain⟨qs,caps,rfl,_,_⟩:=hl.sl.shape
 obtain⟨qp,capp,rfl,_,_⟩:=hps.shape
 have S:=St.start hr
 refine S.box λb1 w1 S=>?_
 have S:StX noX w r w1 [.cell b1 [.int .i64 p.l,.slice qs p.ps.length caps] 59]:=S
 refine gp_ ?_
 have hpw:=List.pairwise_iff_getElem.1 ha
 refine zh (ι:=Nat×Nat) (λi=>[.int .i64 (i.1:Nat),.int .i64 (i.2:Nat)]) (λi w'=>i.1≤i.2∧i.2≤ps.length∧(∀k (hk:k<ps.length),k<i.1→zJ ps[k] p<0)∧(∀k (hk:k<ps.length),i.2≤k→¬zJ ps[k] p<0)∧StX noX w r w' [.cell b1 [.int .i64 p.l,.slice qs p.ps.length caps] 59]) (λi=>i.2-i.1) (0,ps.length) rfl ⟨gzl _,Nat.le_refl _,λk _ h=>by omega,λk h1 h2=>by omega,S⟩ ?_
 clear S
 rintro⟨i,j⟩ d w5 ⟨hij,hj,hlo,hhi,S⟩ K2 hK2
 simp only at hij hj hlo hhi S⊢
 simp only[gdz,gds]
 refine gp_ ?_
 have S:=S.go (Ext.drew _)
 refine zf (λhlt=>?_) (λhge=>?_)
 ·have hlt:i<j:=by omega
  obtain⟨m,hm⟩:∃m:Nat,m=(i+j)/2:=⟨_,rfl⟩
  have hmj:m<ps.length:=by omega
  refine aiv (by omega) ?_
  refine alf (k1:=.i64) (k2:=.u64) (by kernel_rfl) (by kernel_rfl) ?_
  rw[IntKind.wrap_u64,Int.emod_eq_of_lt (by omega) (by omega)]
  refine al9 1 rfl (by decide) ?_
  refine alp (k1:=.u64) (by kernel_rfl) (by kernel_rfl) (by omega) ?_
  rw[show ((i:Int)+(j:Int))/2 ^ 1=((m:Nat):Int)by omega]
  obtain⟨bo,oo,co,hE,hco,hoc,hoo⟩:=hps.get (by decide) hmj
  cases hE
  refine gp_ ?_
  refine zp (n:=2) hco (λj v hj=>by simpa using S.at (hoo j v hj)) ?_
  refine S.ldB (b:=b1) ?_ rfl
  refine af5 (by kernel_rfl) ?_
  refine JC S.holds hoc hp0 λw6 e6=>?_
  have S:=S.go e6
  refine gp_ ?_
  refine zf (λhneg=>?_) (λhpos=>?_)
  ·refine gp_ ?_
   rw[show ((m:Int)+1)=((m+1:Nat):Int)by omega]
   refine hK2 (m+1,j) _ ⟨by show m+1≤j;omega,hj,λk hk hkm=>?_,hhi,S⟩ (by show j-(m+1)<j-i;omega)
   rcases Nat.lt_or_ge k m with hl|hg
   ·exact jM (hpw k m hk hmj hl) hneg
   ·obtain rfl:k=m:=by change k<m+1 at hkm;omega
    exact hneg
  ·refine hK2 (i,m) _ ⟨by show i≤m;omega,by show m≤ps.length;omega,hlo,λk hk hkm=>?_,S⟩ (by show m-i<j-i;omega)
   rcases Nat.lt_or_ge m k with hl|hg
   ·intro hn
    exact hpos (jM (hpw m k hmj hk hl) hn)
   ·obtain rfl:k=m:=by change m≤k at hkm;omega
    exact hpos
 ·obtain rfl:i=j:=by omega
  refine gp_ ?_
  have fin:∀w' (b:Bool),Ext w w'→(b=true↔∃hi:i<ps.length,ps[i]=p)→K (.tuple #[.int .i64 (i:Nat),.bool b]) w':=λw' b e hb=>by
   have hk:∀k (hk:k<ps.length),ps[k]=p→k=i:=λk hk hke=>by
    rcases Nat.lt_trichotomy k i with hl|rfl|hl
    ·have:=hlo k hk hl;rw[hke,YB]at this;omega
    ·rfl
    ·have h2:=hhi i (by omega) (Nat.le_refl _)
     have h3:=hpw i k (by omega) hk hl
     rw[hke]at h3
     exact absurd h3 h2
   have hw:b=(j5 ps p).isSome:=by
    cases b with
    |true=>obtain ⟨hi,he⟩:=hb.1 rfl;rw[aff ha hi he];rfl
    |false=>
     rw[ai1 λk hk' he=>?_];rfl
     obtain rfl:=hk k hk' he
     have:=hb.2 ⟨hk',he⟩
     cases this
   rw[hw]
   refine h w' _ e λk hk'=>?_
   obtain⟨h1,h2⟩:=Vb hk'
   rw[hk k h1 h2]
  by_cases hi:i<ps.length
  ·rw[gde (show((i:Nat):Int)<((ps.length:Nat):Int)by omega)]
   intro K9 hK9
   refine gd_ ?_
   obtain⟨bo,oo,co,hE,hco,hoc,hoo⟩:=hps.get (by decide) hi
   cases hE
   refine gp_ ?_
   refine zp (n:=2) hco (λj v hj=>by simpa using S.at (hoo j v hj)) ?_
   refine S.ldB (b:=b1) ?_ rfl
   refine af5 (by kernel_rfl) ?_
   refine JC S.holds hoc hp0 λw6 e6=>?_
   have S:=S.go e6
   refine gp_ ?_
   refine hK9 _ _ λ_=>?_
   refine gd_ ?_
   exact fin _ _ S.ext (by rw[gdt,xW];exact⟨λh=>⟨hi,h⟩,λh=>h.2⟩)
  ·rw[decide_eq_false (show¬((i:Nat):Int)<((ps.length:Nat):Int)by omega)]
   (intro K9 hK9;refine gd_ ?_;refine hK9 _ _ λ_=>?_;clear hK9 K9)
   refine gd_ ?_
   exact fin _ _ S.ext ⟨λh=>(by cases h),λ⟨h,_⟩=>absurd h hi⟩
end
noncomputable def adL(u:UnD)(g:GrD)(p:PlD):Option Nat:=if (zL u.ss g.tys p).isSome=true then j5 (zq u g) (heldW u.ss g.tys p)else none
theorem aey{u:UnD}{g:GrD}:ZD (zq u g):=ah8
section
variable {u:UnD} {fn q:Int} {v:Value} {w:World} {r:Gh} {K:Value→World→Prop}
theorem ahh(hr:Holds r w)(hu:UnG r v u)
  (h0:∀e w',e≠0→ofE u fn (-1)=e→Ext w w'→K (.tuple #[.slice none 0 0,.int .i64 e]) w')
  (h1:∀g v1 s w',ofE u fn (-1)=0→FnM u fn g→(zq u g).length≤256→Ext w w'→New w s w'→SlG 2 (r.or s) (PlG (r.or s)) v1 (zq u g)→K (.tuple #[v1,.int .i64 0]) w'):
  zd Tryz.prog Tryz.Xt #[v,.int .i64 fn] w K:=by
 refine Tryz.afN ?_
 unfold Tryz.aas
 have hu0:=hu
 obtain⟨p0,cap0,vf,rfl,_,_,hst,hsl,hfn⟩:=hu
 obtain⟨qf,capf,rfl,_,_⟩:=hfn.sl.shape
 have S:=St.start hr
 refine S.box λb3 w1 S=>?_
 have S:StX noX w r w1 [.cell b3 [.slice p0 u.ss.length cap0,.slice qf u.fs.length capf,.int .i64 u.mn] 25]:=S
 refine S.ldB (b:=b3) ?_ rfl
 refine YC S.holds hu0 (λe w2 he hof e2=>?_) λg s bx w2 hof F hi hb e2 n2 hL=>?_
 ·refine gg_ ?_
  refine c_t (by simp[he]) ?_
  exact h0 e w2 he hof (S.go e2).ext
 obtain⟨S,_,a2⟩:=S.tell e2 n2
 obtain⟨pp,cap,hpc,hps⟩:=hL.pth
 refine gg_ ?_
 refine c_f (by decide) ?_
 refine gg_ ?_
 refine zg (S.at hpc) ?_
 exact h1 g _ s w2 hof F hb S.ext (S.newOf a2) hps
theorem ahO{p:PlD}{c:List Value}(hr:Holds r w)(hu:UnG r v u)(hp:PlG r c p)(hpf:p.ps.length≤1000000)
  (h0:∀e w',e≠0→ofE u fn (-1)=e→Ext w w'→K (.tuple #[.int .i64 0,.int .i64 e]) w')
  (h1:∀g w',ofE u fn (-1)=0→FnM u fn g→(zq u g).length≤256→Ext w w'→K (.tuple #[.int .i64 (((adL u g p).getD 0:Nat):Int),.int .i64 (if(adL u g p).isSome=true then 0 else 2)]) w'):
  zd Tryz.prog Tryz.QD #[v,.int .i64 fn,.agg c.toArray] w K:=by
 refine Tryz.agY ?_
 unfold Tryz.abF
 have hu0:=hu
 obtain⟨p0,cap0,vf,rfl,_,_,hst,hsl,hfn⟩:=hu
 obtain⟨qf,capf,rfl,_,_⟩:=hfn.sl.shape
 have hp0:=hp
 obtain⟨vv,rfl,hl⟩:=hp
 obtain⟨qs,caps,rfl,_,_⟩:=hl.sl.shape
 have S:=St.start hr
 refine S.box λb3 w1 S=>?_
 refine S.box λb4 w2 S=>?_
 have S:StX noX w r w2 [.cell b4 [.int .i64 p.l,.slice qs p.ps.length caps] 59,.cell b3 [.slice p0 u.ss.length cap0,.slice qf u.fs.length capf,.int .i64 u.mn] 25]:=S
 refine S.ldB (b:=b3) ?_ rfl
 refine YC S.holds hu0 (λe w3 he hof e2=>?_) λg s bx w3 hof F hi hb e2 n2 hL=>?_
 ·refine gg_ ?_
  refine c_t (by simp[he]) ?_
  exact h0 e w3 he hof (S.go e2).ext
 obtain⟨S,_,a2⟩:=S.tell e2 n2
 have h1:=λw'=>h1 g w' hof F hb
 rw[adL]at h1
 have htl:g.tys.length≤maxLen:=by have:=F.head.ty512;simp only[maxLen];omega
 obtain⟨pp,cap,hpc,hps⟩:=hL.pth
 obtain⟨qt,capt,hc7,hty⟩:=hL.tys
 obtain⟨pa,capa,hc0,hst0⟩:=hL.ss
 refine gg_ ?_
 refine c_f (by decide) ?_
 have S:=S.go (Ext.drew _)
 refine gg_ ?_
 refine zg (S.at hc7) ?_
 refine gg_ ?_
 refine ahD S.holds (RepS.up hst) (Z0 hty.sl) htl (PlG.up hp0) λw4 e4=>?_
 have S:=S.go e4
 refine gp_ ?_
 refine c_b (λhno=>?_) (λhyes=>?_)
 ·have :¬(zL u.ss g.tys p).isSome=true:=by simpa using hno
  rw[if_neg this]at h1
  exact h1 _ S.ext
 have hsome:(zL u.ss g.tys p).isSome=true:=by simpa using hyes
 rw[if_pos hsome]at h1
 refine S.ldB (b:=b4) ?_ rfl
 refine Yk S.holds (λw' e=>⟨(S.go e).at hc0,(S.go e).at hc7⟩) (RepS.up hst0) (hty.up' inferInstance λ_ _ h=>TyG.up h) F.may.ok F.fine (PlG.up hp0) (.inr hsome) λv3 s3 w5 e3 n3 h3=>?_
 obtain⟨S,_,_⟩:=S.tell e3 n3
 have hhl:=Z5 (ss:=u.ss) (tys:=g.tys) (p:=p)
 obtain⟨q3,c3,rfl,_,_⟩:=h3.sl.shape
 refine gS_ ?_
 refine S.al λb5 w6 S=>?_
 refine S.stB (b:=b5) λw7 S=>?_
 have S:StX noX w ((r.or s).or s3) w7 [.cell b5 [.int .i64 p.l,.slice q3 (heldW u.ss g.tys p).ps.length c3] 59,.cell b4 [.int .i64 p.l,.slice qs p.ps.length caps] 59,.cell b3 [.slice p0 u.ss.length cap0,.slice qf u.fs.length capf,.int .i64 u.mn] 25]:=S
 have S:=S.go (Ext.drew _)
 have hph:PlG ((r.or s).or s3) [.int .i64 p.l,.slice q3 (heldW u.ss g.tys p).ps.length c3] (heldW u.ss g.tys p):=⟨_,by rw[hhl],h3⟩
 refine gg_ ?_
 refine zg (S.at hpc) ?_
 refine S.ldB (b:=b5) ?_ rfl
 refine ak0 S.holds (hps.up' inferInstance λ_ _ h=>PlG.up h) aey (by omega) hph λw8 x e8 hx=>?_
 have S:=S.go e8
 refine gg_ ?_
 cases hw:j5 (zq u g) (heldW u.ss g.tys p)with
 |none=>
  rw[hw]at h1
  refine c_t rfl ?_
  exact h1 _ S.ext
 |some i=>
  rw[hw]at h1 hx
  refine c_f rfl ?_
  obtain rfl:=hx i rfl
  exact h1 _ S.ext
end
section
variable {X:Nat→Prop} {w0 w:World} {r:Gh} {L:List Asr} {n Ba B bi bs b c:Nat} {G Ms:yx} {a f:Nat→Bool} {bv:Bool} {es:Array MapEntry} {fid:FuncId} {ty:TypeId} {Z:World→Prop}
theorem ahi(S:StX X w0 r w (.obj bi (· = .mapIter (some b) c #[] c)::.obj bs (zN Ms)::.obj b (· = .map es c)::L))(hE:EntsI es.toList (cnV G))(hB:Born es.toList c)(hG:SetF n Ba G a)(hM:SetF n B Ms f)(hn:n≤256)(hBB:B≤1000000000)
  (hcall:∀{f:Nat→Bool}{B i:Nat}{Ms:yx}{x:Asr}{w:World}{K:Value→World→Prop},i<n→SetF n B Ms f→B≤1000001000→StX X w0 r w (x::.obj bs (zN Ms)::.obj b (· = .map es c)::L)→(∀Ms' w',SetF n (B+1) Ms' (xm f i bv)→StX X w0 r w' (x::.obj bs (zN Ms')::.obj b (· = .map es c)::L)→K (.tuple #[]) w')→zd Tryz.prog fid #[.map (some bs),.int .i64 (i:Nat)] w K)
  (h:∀Ms' w',SetF n (B+n) Ms' (λi=>if a i=true then bv else f i)→StX X w0 r w' (.obj bs (zN Ms')::.obj b (· = .map es c)::L)→Z w'):
  zo [] w λ_ _ w30 K27=>Tryz.pw w30 (Instr.next (.pointer (some ⟨bi,0,none⟩)) false ty) λt73 w31=>Tryz.pe t73 0 λt74=>zc t74 (Tryz.pw w31 (Instr.entry (.pointer (some ⟨bi,0,none⟩))) λt75 w32=>Tryz.pe t75 0 λt76=>Tryz.ca fid #[.map (some bs),t76] w32 λ_ w33=>K27 [] w33) (Z w31):=by
 obtain⟨hk1,hk2⟩:=ag9 hE
 have hlen:es.toList.length=G.length:=by
  have:=congrArg List.length hk1
  simpa using this
 have hGl:G.length≤n:=hG.len
 refine zh (ι:=List MapEntry×Array Nat×Nat×yx) (λi=>[]) (λi w'=>(∀m∈i.1,m∈es.toList)∧(i.1.map xc).Nodup∧c≤i.2.2.1∧(∀n,i.2.1.contains n=true↔n∈i.1.map (·.born))∧SetF n (B+i.1.length) i.2.2.2 (λj=>if (j:Int)∈i.1.map xc then bv else f j)∧StX X w0 r w' (.obj bi (· = .mapIter (some b) c i.2.1 i.2.2.1)::.obj bs (zN i.2.2.2)::.obj b (· = .map es c)::L)) (λi=>G.length-i.1.length) ([],#[],c,Ms) rfl ⟨λm hm=>(by cases hm),List.nodup_nil,Nat.le_refl _,λn=>(by simp),hM.congr λj _=>by simp,S⟩ ?_
 clear S hM
 rintro⟨H,seen,c0,M⟩ d w5 ⟨hm,hnd,hc,hs,hM,S⟩ K2 hK2
 simp only at hm hnd hc hs hM S⊢
 have hmk:∀x∈H.map xc,x∈G.map (·.1):=λx hx=>by
  obtain⟨m,hmH,rfl⟩:=List.mem_map.1 hx
  rw[← hk1];exact List.mem_map_of_mem (hm m hmH)
 have hHl:H.length≤G.length:=by
  have:=aaF hnd hmk
  simpa using this
 refine S.nextJ (b:=b) hB hc (λhall=>?_) λm hme hns w6 S=>?_
 ·refine JG (v:=.bool false) rfl ?_
  refine c_f rfl ?_
  refine h M _ ((hM.mono (by omega)).congr λj hj=>?_) S.tl
  have hiff:(j:Int)∈H.map xc↔(j:Int)∈G.map (·.1):=⟨hmk _,λhx=>by
   rw[← hk1]at hx
   obtain⟨m,hme,he0⟩:=List.mem_map.1 hx
   have hb:=(hs m.born).1 (hall m hme)
   obtain⟨m',hm',he⟩:=List.mem_map.1 hb
   have hinj:(es.toList.map (·.born)).Nodup:=List.pairwise_map.2 (hB.1.imp λh=>Nat.ne_of_lt h)
   have:=Jz hinj (hm m' hm') hme he
   rw[← he0,← this];exact List.mem_map_of_mem hm'⟩
  have h2:(j:Int)∈G.map (·.1)↔a j=true:=by
   rw[hG.mem]
   exact⟨λ⟨i,e,_,h⟩=>by obtain rfl:j=i:=by omega
                        exact h,λh=>⟨j,rfl,hj,h⟩⟩
  by_cases ha:a j=true
  ·rw[if_pos ha,if_pos (hiff.2 (h2.2 ha))]
  ·rw[if_neg ha,if_neg λh=>ha (h2.1 (hiff.1 h))]
 ·refine gp_ ?_
  refine c_t rfl ?_
  refine S.entryJ (b:=b) hB hme ?_
  rw[hk2 m hme]
  refine gp_ ?_
  have hkm:xc m∈G.map (·.1):=by rw[← hk1];exact List.mem_map_of_mem hme
  obtain⟨i,hi,hin,hai⟩:=(hG.mem _).1 hkm
  have hkn:xc m∉H.map xc:=λhx=>by
   obtain⟨m',hm',he⟩:=List.mem_map.1 hx
   have hj:(es.toList.map xc).Nodup:=by rw[hk1];exact hG.nodup
   have:=Jz hj (hm m' hm') hme he
   subst this
   have:=(hs m'.born).2 (List.mem_map_of_mem hm')
   rw[hns]at this;cases this
  have hnd2:((H++[m]).map xc).Nodup:=by
   rw[List.map_append,List.nodup_append]
   exact⟨hnd,by simp,λa ha b hb=>by rw[List.map_singleton,List.mem_singleton]at hb;rintro rfl;exact hkn (hb▸ha)⟩
  have hmem2:∀z∈H++[m],z∈es.toList:=λz hz=>by
   rcases List.mem_append.1 hz with hz|hz
   ·exact hm z hz
   ·rw[List.mem_singleton]at hz;rw[hz];exact hme
  have hl2:(H++[m]).length≤G.length:=by
   have:=aaF hnd2 (b:=G.map (·.1)) λx hx=>by
    obtain⟨z,hz,rfl⟩:=List.mem_map.1 hx
    rw[← hk1];exact List.mem_map_of_mem (hmem2 z hz)
   simpa using this
  rw[gla,gls]at hl2
  rw[hi]
  refine hcall hin hM (by omega) S λM' w7 hM' S=>?_
  refine hK2 (H++[m],seen.push m.born,c,M') _ ⟨hmem2,hnd2,Nat.le_refl _,λn=>?_,?_,S⟩ (by show G.length-(H++[m]).length<G.length-H.length;rw[gla,gls];omega)
  ·show(seen.push m.born).contains n=true↔n∈(H++[m]).map (·.born)
   rw[List.map_append,List.mem_append,← hs n]
   simp only[Array.contains_push,Bool.or_eq_true,beq_iff_eq,List.map_singleton,List.mem_singleton]
  ·show SetF n (B+(H++[m]).length) M' _
   rw[gla,gls]
   refine hM'.congr λj hj=>?_
   have hq:(j:Int)∈(H++[m]).map xc↔j=i∨(j:Int)∈H.map xc:=by
    rw[List.map_append,List.mem_append,List.map_singleton,List.mem_singleton,hi]
    exact⟨λh=>h.elim .inr λh=>.inl (by omega),λh=>h.elim (λh=>.inr (by rw[h])) .inl⟩
   show(if j=i then bv else if(j:Int)∈H.map xc then bv else f j)=if (j:Int)∈(H++[m]).map xc then bv else f j
   by_cases e:j=i
   ·rw[if_pos e,if_pos (hq.2 (.inl e))]
   ·rw[if_neg e]
    by_cases e2:(j:Int)∈H.map xc
    ·rw[if_pos e2,if_pos (hq.2 (.inr e2))]
    ·rw[if_neg e2,if_neg λhh=>(hq.1 hh).elim e e2]
end
structure OkBh(n:Nat)(l:List Int):Prop where
 low:∀k∈l,0≤k∧k<n
 asc:l.Pairwise (· < ·)
theorem OkBh.snoc{n i:Nat}{l:List Int}(h:OkBh n (l.take i))(hi:i<l.length)(hl:0≤l[i]∧l[i]<n)(ha:∀h0:0<i,l[i-1]<l[i]):OkBh n (l.take (i+1)):=by
 rw[List.take_succ_eq_append_getElem hi]
 refine⟨λk hk=>?_,List.pairwise_append.2 ⟨h.asc,List.pairwise_singleton _ _,λx hx y hy=>?_⟩⟩
 ·rcases List.mem_append.1 hk with hk|hk
  ·exact h.low k hk
  ·rw[List.mem_singleton.1 hk];exact hl
 ·rw[List.mem_singleton.1 hy]
  obtain⟨j,hj,rfl⟩:=List.mem_take_iff_getElem.1 hx
  have hji:j<i:=by omega
  have h0:=ha (by omega)
  rcases Nat.lt_or_ge j (i-1)with hl|hl
  ·have:=List.pairwise_iff_getElem.1 h.asc j (i-1) (by rw[List.length_take];omega) (by rw[List.length_take];omega) hl
   rw[List.getElem_take,List.getElem_take]at this
   omega
  ·have e:j=i-1:=by omega
   subst e;exact h0
theorem OkBh.last{n i:Nat}{l:List Int}(h:OkBh n l)(hi:i<l.length):(0≤l[i]∧l[i]<n)∧∀h0:0<i,l[i-1]<l[i]:=
 ⟨h.low _ (gem hi),λh0=>List.pairwise_iff_getElem.1 h.asc (i-1) i (by omega) hi (by omega)⟩
section
variable {u:UnD} {fn q:Int} {v vl:Value} {l:List Int} {w:World} {r:Gh} {K:Value→World→Prop}
theorem YU(hr:Holds r w)(hu:UnG r v u)(hl:SlG 1 r zQ vl l)(hlf:l.length≤1000000)
  (h0:∀e w',e≠0→mvE u fn q=e→Ext w w'→K (.tuple #[.slice none 0 0,.int .i64 e]) w')
  (h2:∀g w',mvE u fn q=0→FnM u fn g→¬OkBh (zq u g).length l→Ext w w'→K (.tuple #[.slice none 0 0,.int .i64 2]) w')
  (h1:∀g v1 s w',mvE u fn q=0→FnM u fn g→0≤q→(hq:q.toNat<g.pts.length)→(zq u g).length≤256→OkBh (zq u g).length l→Ext w w'→New w s w'→SlG 1 s zQ v1 (risI (zq u g).length (ahe u g (zq u g) g.pts[q.toNat] (qH l)))→K (.tuple #[v1,.int .i64 0]) w'):
  zd Tryz.prog Tryz.qJ #[v,.int .i64 fn,.int .i64 q,vl] w K:=by
 refine Tryz.aeq ?_
 unfold Tryz.Vw
 have hu0:=hu
 obtain⟨p0,cap0,vf,rfl,_,_,hst,hsl,hfn⟩:=hu
 obtain⟨qf,capf,rfl,_,_⟩:=hfn.sl.shape
 obtain⟨ql,cl,rfl,_,_⟩:=hl.shape
 have S:=St.start hr
 refine S.box λb3 w1 S=>?_
 have S:StX noX w r w1 [.cell b3 [.slice p0 u.ss.length cap0,.slice qf u.fs.length capf,.int .i64 u.mn] 25]:=S
 refine S.ldB (b:=b3) ?_ rfl
 refine Qy S.holds hu0 (λe w2 he hof e2=>?_) λg s bx w2 hof hq0 F hq hb e2 n2 hL=>?_
 ·refine gg_ ?_
  refine c_t (by simp[he]) ?_
  exact h0 e w2 he hof (S.go e2).ext
 obtain⟨S,_,a2⟩:=S.tell e2 n2
 obtain⟨pp,cap,hpc,hps⟩:=hL.pth
 refine gg_ ?_
 refine c_f (by decide) ?_
 refine S.mkMapJ λbs w3 S=>?_
 have S:StX noX w (r.or s) w3 [.obj bs (zN []),.cell b3 [.slice p0 u.ss.length cap0,.slice qf u.fs.length capf,.int .i64 u.mn] 25]:=S
 refine gp_ ?_
 generalize hps':zq u g=ps at *
 refine zh (ι:=Nat) (λi=>[.int .i64 (i:Nat)]) (λi w'=>i≤l.length∧OkBh ps.length (l.take i)∧∃M,SetF ps.length i M (qH (l.take i))∧StX noX w (r.or s) w' [.obj bs (zN M),.cell b3 [.slice p0 u.ss.length cap0,.slice qf u.fs.length capf,.int .i64 u.mn] 25]) (λi=>l.length-i) 0 rfl ⟨gzl _,⟨λk hk=>(by simp at hk),by simp⟩,[],SetF.none.congr λi _=>by simp[qH,zB],S⟩ ?_
 clear S
 rintro i d w5 ⟨hi,hok,M,hM,S⟩ K4 hK4
 rw[gdz]
 refine gp_ ?_
 refine zf (λhlt=>?_) (λhge=>?_)
 ·have hlt:i<l.length:=by omega
  obtain⟨bo,oo,rfl,_,hc⟩:=xz hl hlt
  refine gp_ ?_
  refine zg (v:=.int .i64 l[i]) (S.at hc) ?_
  refine gp_ ?_
  refine zj (c:=decide (l[i]≥(ps.length:Int))) (λ_ K2 hK2=>by
   refine gg_ ?_
   refine zg (S.at hpc) ?_
   refine gg_ ?_
   exact hK2) ?_
  have bad:∀w',StX noX w (r.or s) w' [.obj bs (zN M),.cell b3 [.slice p0 u.ss.length cap0,.slice qf u.fs.length capf,.int .i64 u.mn] 25]→¬((0≤l[i]∧l[i]<ps.length)∧∀h0:0<i,l[i-1]<l[i])→K (.tuple #[.slice none 0 0,.int .i64 2]) w':=λw' S hn=>h2 g w' hof F (λhh=>hn (by rw[hps']at hh;exact hh.last hlt)) S.ext
  have good:∀w',StX noX w (r.or s) w' [.obj bs (zN M),.cell b3 [.slice p0 u.ss.length cap0,.slice qf u.fs.length capf,.int .i64 u.mn] 25]→(0≤l[i]∧l[i]<ps.length)→(∀h0:0<i,l[i-1]<l[i])→Tryz.ca Tryz.y8 #[.map (some bs),.int .i64 l[i]] w' λ_ w24=>Tryz.bt .add 3 (.int .i64 (i:Nat)) (Tryz.i6 1) λt64=>K4 [t64] w24:=λw' S hr hasc=>by
   have hc:=hM.cnt l[i]
   refine Yz (b:=bs) S (by omega) λw6 S=>?_
   refine gp_ ?_
   rw[show ((i:Int)+1)=((i+1:Nat):Int)by omega]
   refine hK4 (i+1) _ ⟨hlt,hok.snoc hlt hr hasc,_,?_,S⟩ (by omega)
   obtain⟨k,hk⟩:∃k:Nat,l[i]=(k:Int):=⟨l[i].toNat,by omega⟩
   rw[hk]at S hr⊢
   refine(hM.put (i:=k) (by omega)).congr λj hj=>?_
   rw[xm,qH,qH,List.take_succ_eq_append_getElem hlt,hk]
   by_cases e:j=k
   ·rw[if_pos e,e];simp
   ·have e2:¬(j:Int)=(k:Int):=by omega
    rw[if_neg e];simp[e2]
  clear hK4 h2 h1 h0
  have S:=S
  cases hbd:(decide (l[i]<0)||decide (l[i]≥(ps.length:Int)))with
  |true=>
   (intro K9 hK9;refine gd_ ?_;refine hK9 _ _ λ_=>?_;clear hK9 K9)
   refine gd_ ?_
   (intro K9 hK9;refine gd_ ?_;refine hK9 _ _ λ_=>?_;clear hK9 K9)
   refine gd_ ?_
   (intro K9 hK9;refine gd_ ?_;refine hK9 _ _ λ_=>?_;clear hK9 K9)
   refine gd_ ?_
   refine c_t rfl ?_
   refine bad _ S λhh=>?_
   simp only[Bool.or_eq_true,gdt]at hbd
   omega
  |false=>
   simp only[Bool.or_eq_false_iff,decide_eq_false_iff_not]at hbd
   by_cases hi0:0<i
   ·obtain⟨bo',oo',hE,_,hc'⟩:=xz hl (show i-1<l.length by omega)
    cases hE
    intro K9 hK9
    refine gd_ ?_
    rw[gde (show(0:Int)<((i:Nat):Int)by omega)]
    refine hK9 _ _ λ_=>?_
    clear hK9 K9
    intro K9 hK9
    refine gd_ ?_
    refine zg (v:=.int .i64 l[i-1]) (by rw[show (((i:Nat):Int)-1).toNat=i-1 by omega];exact S.at hc') ?_
    refine gp_ ?_
    refine hK9 _ _ λ_=>?_
    clear hK9 K9
    (intro K9 hK9;refine gd_ ?_;refine hK9 _ _ λ_=>?_;clear hK9 K9)
    refine gd_ ?_
    refine zf (λhh=>?_) (λhh=>?_)
    ·exact bad _ S λh3=>by have:=h3.2 hi0;omega
    ·exact good _ S ⟨by omega,by omega⟩ λ_=>by omega
   ·intro K9 hK9
    refine gd_ ?_
    rw[decide_eq_false (show¬(0:Int)<((i:Nat):Int)by omega)]
    refine hK9 _ _ λ_=>?_
    clear hK9 K9
    (intro K9 hK9;refine gd_ ?_;refine hK9 _ _ λ_=>?_;clear hK9 K9)
    refine gd_ ?_
    (intro K9 hK9;refine gd_ ?_;refine hK9 _ _ λ_=>?_;clear hK9 K9)
    refine gd_ ?_
    refine c_f rfl ?_
    exact good _ S ⟨by omega,by omega⟩ λh=>absurd h hi0
 ·obtain rfl:i=l.length:=by omega
  rw[List.take_length]at hok hM
  clear hK4 K4
  refine aj0 S hL F hq0 hq rfl (by omega) λG H bg bh w6 hG hH S=>?_
  refine gp_ ?_
  refine gp_ ?_
  obtain⟨o,hQ,S⟩:=S.objK bg
  obtain⟨es,c,rfl,hE,hB⟩:=hQ
  have S:StX noX w (r.or s) w6 [.obj bg (· = .map es c),.obj bh (zN H),.obj bs (zN M),.cell b3 [.slice p0 u.ss.length cap0,.slice qf u.fs.length capf,.int .i64 u.mn] 25]:=S
  refine S.rangeJ (b:=bg) mpS λbi w7 S=>?_
  have S:StX noX w (r.or s) w7 [.obj bi (· = .mapIter (some bg) c #[] c),.obj bs (zN M),.obj bg (· = .map es c),.obj bh (zN H),.cell b3 [.slice p0 u.ss.length cap0,.slice qf u.fs.length capf,.int .i64 u.mn] 25]:=S.permO (.cons _ (List.perm_middle (a:=Asr.obj bs (zN M)) (l₁:=[.obj bg (· = .map es c),.obj bh (zN H)])).symm)
  refine ahi (bv:=true) (n:=ps.length) S hE hB hG hM (by omega) (by omega) ?_ λM2 w8 hM2 S=>?_
  ·intro f B i Ms x w' K' hi hMs hB' S hK
   have hc:=hMs.cnt i
   exact Yz (b:=bs) S (by omega) λw'' S=>hK _ _ (hMs.put hi) S
  obtain⟨o2,hQ2,S⟩:=S.objK bh
  obtain⟨es2,c2,rfl,hE2,hB2⟩:=hQ2
  have S:StX noX w (r.or s) w8 [.obj bs (zN M2),.obj bg (· = .map es c),.obj bh (· = .map es2 c2),.cell b3 [.slice p0 u.ss.length cap0,.slice qf u.fs.length capf,.int .i64 u.mn] 25]:=S
  refine S.rangeJ (b:=bh) mpS λbi2 w9 S=>?_
  have S:=S.permO (.cons _ (.cons _ (.swap (Asr.obj bg (· = .map es c)) (.obj bh (· = .map es2 c2)) _)))
  refine ahi (bv:=false) (n:=ps.length) S hE2 hB2 hH hM2 (by omega) (by omega) ?_ λM3 w10 hM3 S=>?_
  ·intro f B i Ms x w' K' hi hMs hB' S hK
   exact adG (b:=bs) S λw'' S=>hK _ _ (hMs.take.mono (Nat.le_succ _)) S
  refine Z8 (b:=bs) S hM3 (by omega) λv1 s1 w11 S h1' a1=>?_
  have S:=S.reGh
  subst hps'
  refine h1 g v1 _ _ hof F hq0 hq hb hok S.ext (S.newOf (a2.or' λb o ho=>(a1 b o ho).resolve_right id)) ?_
  rw[show risI (zq u g).length (ahe u g (zq u g) g.pts[q.toNat] (qH l))=_ from vX λi hi=>?_]
  ·exact h1'.up' inferInstance λ_ _ h=>h
  ·show((qH l i||(yh u g (zq u g) g.pts[q.toNat]).1 i) && !(yh u g (zq u g) g.pts[q.toNat]).2 i)=if (yh u g (zq u g) g.pts[q.toNat]).2 i=true then false else if(yh u g (zq u g) g.pts[q.toNat]).1 i=true then true else qH l i
   cases(yh u g (zq u g) g.pts[q.toNat]).2 i<;>cases (yh u g (zq u g) g.pts[q.toNat]).1 i<;>simp
end
end
end Go.Proofs
namespace Go.Proofs.Tryz
open Go.Sh
section
variable {w:World} {K:VW} {t0:Value}
def XZ(t0 t1 t2 t3:Value)(w:World)(K:VW):Prop:=
 pw w (Instr.box 25 t0) λt4 w1=>
 lo w1 25 t4 λt29=>ca XA #[t29] w1 λt30 w2=>
 pp (Op.unary .not t30) λt31=>za (λK3=>gIf t31 false (pp (Builtin.len_ #[26] 3 #[t3]) λt34=>bt .gtr 3 t34 (i6 600) λt35=>K3 [t35] w2) (K3 [u_] w2)) (λs4 _d5 w6=>
 zb t31 tr_ (s4.getD 0 u_) λt36=>zc t36 (ca xO #[] w6 λt37 w7=>
 K t37 w7) (pw w6 (Builtin.append_ #[26,26] 26 #[(Value.slice Option.none 0 0),t3]) λt39 w8=>
 pw w8 (Instr.buildSlice 26 1 #[(0,(i6 77))]) λt40 w9=>
 pw w9 (Builtin.append_ #[26,26] 26 #[t39,t40]) λt41 w10=>
 lo w10 25 t4 λt43=>ca Yf #[t43,t1,t2] w10 λt46 w11=>
 pe t46 0 λt47=>pe t46 1 λt48=>pe t46 2 λt49=>lo w11 25 t4 λt51=>ca Yg #[t51,t1,t2] w11 λt54 w12=>
 pe t54 0 λt55=>pe t54 1 λt56=>lo w12 25 t4 λt58=>ca Zo #[t58,t1,t2] w12 λt61 w13=>
 pe t61 0 λt62=>pe t61 1 λt63=>pe t61 2 λt64=>lo w13.drew 25 t4 λt66=>pp (Builtin.len_ #[26] 3 #[t3]) λt71=>pp (Instr.sliceAt 26 t41 none (some t71) none) λt72=>ca qJ #[t66,t1,t2,t72] w13.drew λt73 w14=>
 pe t73 0 λt74=>pe t73 1 λt75=>zo [(i6 0)] w14 (λs16 _d17 w18 K15=>
 pp (Builtin.len_ #[26] 3 #[t3]) λt78=>bf .lss 3 (s16.getD 0 u_) t78 λt79=>zc t79 (xl w18.drew 26 t41 (s16.getD 0 u_) 3 λt85=>xl w18.drew 26 t3 (s16.getD 0 u_) 3 λt89=>bf .neq 3 t85 t89 λt90=>zc t90 (K fa_ w18.drew) (bt .add 3 (s16.getD 0 u_) (i6 1) λt81=>K15 [t81] w18.drew)) (pp (Builtin.len_ #[26] 3 #[t3]) λt93=>xl w18 26 t41 t93 3 λt95=>bt .neq 3 t95 (i6 77) λt96=>zc t96 (K fa_ w18) (za (λK19=>
 bt .geq 3 t2 (i6 0) λt98=>zc t98 (lo w18 25 t4 λt100=>ca JJ #[t100,t1,t2] w18 λt103 w23=>
 pe t103 0 λt104=>pe t103 1 λt105=>K19 [t105,t104] w23) (K19 [(i6 2),(Value.slice Option.none 0 0)] w18)) (λs20 _d21 w22=>
 bf .neq 3 t49 (s20.getD 0 u_) λt108=>za (λK24=>gIf t108 false (bf .neq 3 t56 (s20.getD 0 u_) λt112=>K24 [t112] w22) (K24 [u_] w22)) (λs25 _d26 w27=>
 zb t108 tr_ (s25.getD 0 u_) λt113=>za (λK28=>gIf t113 false (bf .neq 3 t64 (s20.getD 0 u_) λt117=>K28 [t117] w27) (K28 [u_] w27)) (λs29 _d30 w31=>
 zb t113 tr_ (s29.getD 0 u_) λt118=>zc t118 (K fa_ w31) (bt .neq 3 (s20.getD 0 u_) (i6 0) λt120=>zc t120 (pp (Builtin.len_ #[26] 3 #[t47]) λt122=>bt .eql 3 t122 (i6 0) λt123=>za (λK32=>gIf t123 true (pp (Builtin.len_ #[26] 3 #[t48]) λt126=>bt .eql 3 t126 (i6 0) λt127=>K32 [t127] w31) (K32 [u_] w31)) (λs33 _d34 w35=>
 zb t123 (s33.getD 0 u_) fa_ λt128=>za (λK36=>gIf t128 true (pp (Builtin.len_ #[26] 3 #[t55]) λt131=>bt .eql 3 t131 (i6 0) λt132=>K36 [t132] w35) (K36 [u_] w35)) (λs37 _d38 w39=>
 zb t128 (s37.getD 0 u_) fa_ λt133=>za (λK40=>gIf t133 true (bt .eql 3 t62 (i6 0) λt136=>K40 [t136] w39) (K40 [u_] w39)) (λs41 _d42 w43=>
 zb t133 (s41.getD 0 u_) fa_ λt137=>za (λK44=>gIf t137 true (pp (Op.unary .not t63) λt140=>K44 [t140] w43) (K44 [u_] w43)) (λs45 _d46 w47=>
 zb t137 (s45.getD 0 u_) fa_ λt141=>za (λK48=>gIf t141 true (pp (Builtin.len_ #[26] 3 #[t74]) λt144=>bt .eql 3 t144 (i6 0) λt145=>K48 [t145] w47) (K48 [u_] w47)) (λs49 _d50 w51=>
 zb t141 (s49.getD 0 u_) fa_ λt146=>za (λK52=>gIf t146 true (bf .eql 3 t75 (s20.getD 0 u_) λt150=>K52 [t150] w51) (K52 [u_] w51)) (λs53 _d54 w55=>
 zb t146 (s53.getD 0 u_) fa_ λt151=>za (λK56=>gIf t151 true (ca xO #[] w55 λt153 w60=>
 K56 [t153] w60) (K56 [u_] w55)) (λs57 _d58 w59=>
 zb t151 (s57.getD 0 u_) fa_ λt154=>K t154 w59)))))))) (lo w31 25 t4 λt156=>ca Zp #[t156,t1,t2,(s20.getD 1 u_)] w31 λt160 w61=>
 pe t160 0 λt161=>pe t160 1 λt162=>lo w61 25 t4 λt164=>ca Xy #[t164,t1,t2,(s20.getD 1 u_)] w61 λt168 w62=>
 pe t168 0 λt169=>pe t168 1 λt170=>ca kX #[t47,t161] w62 λt173 w63=>
 pp (Op.unary .not t173) λt174=>za (λK64=>gIf t174 false (ca kX #[t48,t162] w63 λt178 w68=>
 pp (Op.unary .not t178) λt179=>K64 [t179] w68) (K64 [u_] w63)) (λs65 _d66 w67=>
 zb t174 tr_ (s65.getD 0 u_) λt180=>za (λK69=>gIf t180 false (ca kX #[t55,t169] w67 λt184 w73=>
 pp (Op.unary .not t184) λt185=>K69 [t185] w73) (K69 [u_] w67)) (λs70 _d71 w72=>
 zb t180 tr_ (s70.getD 0 u_) λt186=>za (λK74=>gIf t186 false (bt .geq 3 t170 (i6 0) λt190=>bf .neq 4 t63 t190 λt191=>K74 [t191] w72) (K74 [u_] w72)) (λs75 _d76 w77=>
 zb t186 tr_ (s75.getD 0 u_) λt192=>za (λK78=>gIf t192 false (pp (Builtin.max_ #[3,3] 3 #[t170,(i6 0)]) λt196=>bf .neq 3 t62 t196 λt197=>K78 [t197] w77) (K78 [u_] w77)) (λs79 _d80 w81=>
 zb t192 tr_ (s79.getD 0 u_) λt198=>zc t198 (K fa_ w81) (pp (Builtin.len_ #[37] 3 #[(s20.getD 1 u_)]) λt200=>pw w81 (Instr.makeSlice 40 t200 t200) λt201 w82=>
 zo [(i6 0)] w82 (λs84 _d85 w86 K83=>
 pp (Builtin.len_ #[26] 3 #[t3]) λt204=>bf .lss 3 (s84.getD 0 u_) t204 λt205=>zc t205 (xl w86.drew 26 t3 (s84.getD 0 u_) 3 λt211=>bt .lss 3 t211 (i6 0) λt212=>za (λK87=>gIf t212 false (xl w86.drew 26 t3 (s84.getD 0 u_) 3 λt217=>pp (Builtin.len_ #[37] 3 #[(s20.getD 1 u_)]) λt219=>bf .geq 3 t217 t219 λt220=>K87 [t220] w86.drew) (K87 [u_] w86.drew)) (λs88 _d89 w90=>
 zb t212 tr_ (s88.getD 0 u_) λt221=>za (λK91=>gIf t221 false (bt .gtr 3 (s84.getD 0 u_) (i6 0) λt224=>K91 [t224] w90) (K91 [u_] w90)) (λs92 _d93 w94=>
 za (λK95=>gIf (s92.getD 0 u_) true (bt .sub 3 (s84.getD 0 u_) (i6 1) λt228=>xl w94 26 t3 t228 3 λt230=>xl w94 26 t3 (s84.getD 0 u_) 3 λt234=>bf .geq 3 t230 t234 λt235=>K95 [t235] w94) (K95 [u_] w94)) (λs96 _d97 w98=>
 za (λK99=>gIf t221 false (zb (s92.getD 0 u_) (s96.getD 0 u_) fa_ λt236=>K99 [t236] w98) (K99 [u_] w98)) (λs100 _d101 w102=>
 zb t221 tr_ (s100.getD 0 u_) λt237=>zc t237 (pp (Builtin.len_ #[26] 3 #[t74]) λt239=>bt .eql 3 t239 (i6 0) λt240=>za (λK103=>gIf t240 true (bt .eql 29 t75 (i6 2) λt243=>K103 [t243] w102) (K103 [u_] w102)) (λs104 _d105 w106=>
 zb t240 (s104.getD 0 u_) fa_ λt244=>za (λK107=>gIf t244 true (ca xO #[] w106 λt246 w111=>
 K107 [t246] w111) (K107 [u_] w106)) (λs108 _d109 w110=>
 zb t244 (s108.getD 0 u_) fa_ λt247=>K t247 w110))) (xl w102 26 t3 (s84.getD 0 u_) 3 λt252=>px 40 t201 t252 λt253=>so w102 4 t253 tr_ λw112=>bt .add 3 (s84.getD 0 u_) (i6 1) λt207=>K83 [t207] w112)))))) (bt .eql 29 t75 (i6 0) λt255=>za (λK113=>gIf t255 true (lo w86 25 t4 λt258=>ca ZV #[t258,t1,t2,(s20.getD 1 u_),t201] w86 λt263 w117=>
 ca kX #[t74,t263] w117 λt264 w118=>
 K113 [t264] w118) (K113 [u_] w86)) (λs114 _d115 w116=>
 zb t255 (s114.getD 0 u_) fa_ λt265=>za (λK119=>gIf t265 true (ca xO #[] w116 λt267 w123=>
 K119 [t267] w123) (K119 [u_] w116)) (λs120 _d121 w122=>
 zb t265 (s120.getD 0 u_) fa_ λt268=>K t268 w122)))))))))))))))))))
theorem abk{t1 t2 t3:Value}(h:XZ t0 t1 t2 t3 w K):zd prog Xz #[t0,t1,t2,t3] w K:=
 okC false (.s (.r (rz 2 0 2)) (.s (.s (.r (ra 4 0 9 (.grp 32 false (ri 3 4 0) [35] (rz 1 7 0)))) (.c (.s (.r (rz 2 0 2)) (.n)) (.n))) (.s (.r (rz 5 0 168)) (.s (.r (rz 11 0 129)) (.s (.r (rz 9 0 129)) (.s (.r (rz 11 0 129)) (.s (.r (rz 13 0 32769)) (.s (.s (.r (rz 1 0 0)) (.b (.lp [20] (.s (.s (.r (rz 4 0 0)) (.c (.n) (.n))) (.s (.b (.s (.r (rz 9 0 16448)) (.c (.s (.r (rz 1 0 0)) (.n)) (.n)))) (.r (rz 3 0 0))))))) (.s (.s (.r (rz 6 0 256)) (.c (.s (.r (rz 1 0 0)) (.n)) (.n))) (.s (.r (rz 1 0 0)) (.s (.r (rz 1 0 0)) (.j [21,22] (.s (.r (rz 2 0 0)) (.c (.r (rz 9 0 129)) (.n))) (.s (.s (.r (ra 4 0 0 (.grp 109 false (ri 3 4 0) [112] (ra 2 7 0 (.grp 114 false (ri 3 9 0) [117] (rz 1 12 0)))))) (.c (.s (.r (rz 1 0 0)) (.n)) (.n))) (.s (.s (.r (rz 2 0 0)) (.c (.s (.r (ra 4 0 0 (.grp 124 true (ri 3 4 0) [127] (ra 2 7 0 (.grp 129 true (ri 3 9 0) [132] (ra 2 12 0 (.grp 134 true (ri 2 14 0) [136] (ra 2 16 0 (.grp 138 true (ri 2 18 0) [140] (ra 2 20 0 (.grp 142 true (ri 3 22 0) [145] (ra 2 25 0 (.grp 147 true (ri 3 27 0) [150] (ra 2 30 0 (.grp 152 true (ri 1 32 2) [153] (rz 2 33 0)))))))))))))))) (.n)) (.n))) (.s (.r (rz 10 0 513)) (.s (.r (rz 10 0 513)) (.s (.s (.r (ra 5 0 32 (.grp 175 false (ri 4 5 32) [179] (ra 2 9 0 (.grp 181 false (ri 4 11 32) [185] (ra 2 15 0 (.grp 187 false (ri 4 17 0) [191] (ra 2 21 0 (.grp 193 false (ri 4 23 0) [197] (rz 1 27 0)))))))))) (.c (.s (.r (rz 1 0 0)) (.n)) (.n))) (.s (.r (rz 4 0 32)) (.s (.s (.r (rz 1 0 0)) (.b (.lp [28] (.s (.s (.r (rz 4 0 0)) (.c (.n) (.n))) (.s (.b (.s (.s (.r (ra 6 0 64 (.grp 213 false (ri 7 6 64) [220] (ra 2 13 0 (.grp 222 false (ri 3 15 0) [225] (.grp 225 true (ri 10 18 65792) [235] (.grp 222 false (ri 1 28 0) [236] (rz 1 29 0)))))))) (.c (.s (.r (ra 4 0 0 (.grp 241 true (ri 2 4 0) [243] (ra 2 6 0 (.grp 245 true (ri 1 8 2) [246] (rz 2 9 0)))))) (.n)) (.n))) (.r (rz 7 0 8448)))) (.r (rz 3 0 0))))))) (.s (.r (ra 3 0 0 (.grp 256 true (ri 8 3 40964) [264] (ra 2 11 0 (.grp 266 true (ri 1 13 2) [267] (rz 2 14 0)))))) (.n))))))))))))))))))))) func3 rfl (by kernel_rfl) (by kernel_rfl) h
def aaI(t0:Value)(w:World)(K:VW):Prop:=
 pw w (Instr.box 25 t0) λt1 w1=>
 fl w1 t1 25 0 22 λt7=>pp (Builtin.len_ #[22] 3 #[t7]) λt8=>bt .gtr 3 t8 (i6 40) λt9=>za (λK2=>gIf t9 false (fl w1 t1 25 1 23 λt12=>pp (Builtin.len_ #[23] 3 #[t12]) λt13=>bt .gtr 3 t13 (i6 40) λt14=>K2 [t14] w1) (K2 [u_] w1)) (λs3 _d4 w5=>
 zb t9 tr_ (s3.getD 0 u_) λt15=>zc t15 (K fa_ w5) (zo [(i6 0)] w5 (λs7 _d8 w9 K6=>
 fl w9 t1 25 0 22 λt18=>pp (Builtin.len_ #[22] 3 #[t18]) λt19=>bf .lss 3 (s7.getD 0 u_) t19 λt20=>zc t20 (fl w9 t1 25 0 22 λt24=>px 22 t24 (s7.getD 0 u_) λt26=>fl w9 t26 68 1 66 λt28=>pp (Builtin.len_ #[66] 3 #[t28]) λt29=>bt .gtr 3 t29 (i6 20) λt30=>zc t30 (K fa_ w9) (bt .add 3 (s7.getD 0 u_) (i6 1) λt22=>K6 [t22] w9)) (zo [(i6 0),(i6 0)] w9 (λs11 _d12 w13 K10=>
 fl w13 t1 25 1 23 λt33=>pp (Builtin.len_ #[23] 3 #[t33]) λt34=>bf .lss 3 (s11.getD 1 u_) t34 λt35=>zc t35 (fl w13.drew t1 25 1 23 λt40=>px 23 t40 (s11.getD 1 u_) λt42=>fl w13.drew t42 74 6 72 λt44=>pp (Builtin.len_ #[72] 3 #[t44]) λt45=>fl w13.drew t1 25 1 23 λt47=>px 23 t47 (s11.getD 1 u_) λt49=>fl w13.drew t49 74 4 70 λt51=>pp (Builtin.len_ #[70] 3 #[t51]) λt52=>bf .add 3 t45 t52 λt53=>bf .add 3 (s11.getD 0 u_) t53 λt54=>fl w13.drew t1 25 1 23 λt56=>px 23 t56 (s11.getD 1 u_) λt58=>fl w13.drew t58 74 6 72 λt60=>pp (Builtin.len_ #[72] 3 #[t60]) λt61=>bt .gtr 3 t61 (i6 300) λt62=>za (λK14=>gIf t62 false (fl w13.drew t1 25 1 23 λt65=>px 23 t65 (s11.getD 1 u_) λt67=>fl w13.drew t67 74 4 70 λt69=>pp (Builtin.len_ #[70] 3 #[t69]) λt70=>bt .gtr 3 t70 (i6 300) λt71=>K14 [t71] w13.drew) (K14 [u_] w13.drew)) (λs15 _d16 w17=>
 zb t62 tr_ (s15.getD 0 u_) λt72=>za (λK18=>gIf t72 false (bt .gtr 3 t54 (i6 1200) λt75=>K18 [t75] w17) (K18 [u_] w17)) (λs19 _d20 w21=>
 zb t72 tr_ (s19.getD 0 u_) λt76=>zc t76 (K fa_ w21) (bt .add 3 (s11.getD 1 u_) (i6 1) λt37=>K10 [t54,t37] w21)))) (K tr_ w13))))))
theorem afX(h:aaI t0 w K):zd prog XA #[t0] w K:=
 okC false (.s (.r (rz 2 0 2)) (.s (.s (.r (ra 5 0 4 (.grp 10 false (ri 4 5 4) [14] (rz 1 9 0)))) (.c (.s (.r (rz 1 0 0)) (.n)) (.n))) (.s (.r (rz 1 0 0)) (.s (.s (.r (rz 1 0 0)) (.b (.lp [4] (.s (.s (.r (rz 5 0 16)) (.c (.n) (.n))) (.s (.b (.s (.r (rz 8 0 1028)) (.c (.s (.r (rz 1 0 0)) (.n)) (.n)))) (.r (rz 3 0 0))))))) (.s (.s (.r (rz 1 0 0)) (.b (.lp [3,5] (.s (.s (.r (rz 5 0 16)) (.c (.n) (.n))) (.s (.b (.s (.r (rz 18 0 67375120)) (.s (.r (ra 9 0 1028 (.grp 63 false (ri 8 9 1028) [71] (ra 2 17 0 (.grp 73 false (ri 2 19 0) [75] (rz 1 21 0)))))) (.c (.s (.r (rz 1 0 0)) (.n)) (.n))))) (.r (rz 3 0 0))))))) (.s (.r (rz 1 0 0)) (.n))))))) func6 rfl (by kernel_rfl) (by kernel_rfl) h
def Vz(w:World)(K:VW):Prop:=
 ca XB #[] w λt20 w1=>
 pw w1 (Instr.alloc 25 true (.tuple #[])) λt1 w2=>
 so w2 25 t1 t20 λw3=>lo w3 25 t1 λt22=>ca Xt #[t22,(i6 0)] w3 λt23 w4=>
 pe t23 0 λt24=>pe t23 1 λt25=>lo w4 25 t1 λt27=>pw w4 (Instr.buildSlice 57 1 #[(0,(i6 (-1)))]) λt28 w5=>
 pp (Instr.build 59 #[(0,(i6 2)),(1,t28)]) λt29=>ca QD #[t27,(i6 0),t29] w5 λt30 w6=>
 pe t30 0 λt31=>pe t30 1 λt32=>lo w6 25 t1 λt34=>ca Xu #[t34,(i6 0),(i6 1)] w6 λt35 w7=>
 pe t35 0 λt36=>pe t35 1 λt37=>lo w7 25 t1 λt39=>ca Xv #[t39,(i6 0)] w7 λt40 w8=>
 pe t40 0 λt41=>pe t40 1 λt42=>lo w8 25 t1 λt44=>ca Yf #[t44,(i6 0),(i6 1)] w8 λt45 w9=>
 pe t45 0 λt46=>pe t45 1 λt47=>pe t45 2 λt48=>lo w9 25 t1 λt50=>ca Yg #[t50,(i6 0),(i6 2)] w9 λt51 w10=>
 pe t51 0 λt52=>pe t51 1 λt53=>lo w10 25 t1 λt55=>ca Zo #[t55,(i6 0),(i6 2)] w10 λt56 w11=>
 pe t56 0 λ_t57=>pe t56 1 λt58=>pe t56 2 λt59=>lo w11 25 t1 λt61=>pw w11 (Instr.buildSlice 26 2 #[(0,(i6 0)),(1,(i6 1))]) λt62 w12=>
 ca qJ #[t61,(i6 0),(i6 1),t62] w12 λt63 w13=>
 pe t63 0 λt64=>pe t63 1 λt65=>bt .eql 29 t25 (i6 0) λt67=>za (λK14=>gIf t67 true (pp (Builtin.len_ #[37] 3 #[t24]) λt70=>bt .eql 3 t70 (i6 3) λt71=>K14 [t71] w13) (K14 [u_] w13)) (λs15 _d16 w17=>
 zb t67 (s15.getD 0 u_) fa_ λt72=>za (λK18=>gIf t72 true (bt .eql 3 t31 (i6 2) λt75=>K18 [t75] w17) (K18 [u_] w17)) (λs19 _d20 w21=>
 zb t72 (s19.getD 0 u_) fa_ λt76=>za (λK22=>gIf t76 true (bt .eql 29 t32 (i6 0) λt79=>K22 [t79] w21) (K22 [u_] w21)) (λs23 _d24 w25=>
 zb t76 (s23.getD 0 u_) fa_ λt80=>za (λK26=>gIf t80 true (pp (Builtin.len_ #[26] 3 #[t36]) λt83=>bt .eql 3 t83 (i6 1) λt84=>K26 [t84] w25) (K26 [u_] w25)) (λs27 _d28 w29=>
 zb t80 (s27.getD 0 u_) fa_ λt85=>za (λK30=>gIf t85 true (bt .eql 29 t37 (i6 0) λt88=>K30 [t88] w29) (K30 [u_] w29)) (λs31 _d32 w33=>
 zb t85 (s31.getD 0 u_) fa_ λt89=>za (λK34=>gIf t89 true (pp (Builtin.len_ #[26] 3 #[t41]) λt92=>bt .eql 3 t92 (i6 3) λt93=>K34 [t93] w33) (K34 [u_] w33)) (λs35 _d36 w37=>
 zb t89 (s35.getD 0 u_) fa_ λt94=>za (λK38=>gIf t94 true (bt .eql 29 t42 (i6 0) λt97=>K38 [t97] w37) (K38 [u_] w37)) (λs39 _d40 w41=>
 zb t94 (s39.getD 0 u_) fa_ λt98=>za (λK42=>gIf t98 true (pp (Builtin.len_ #[26] 3 #[t46]) λt101=>bt .eql 3 t101 (i6 0) λt102=>K42 [t102] w41) (K42 [u_] w41)) (λs43 _d44 w45=>
 zb t98 (s43.getD 0 u_) fa_ λt103=>za (λK46=>gIf t103 true (pp (Builtin.len_ #[26] 3 #[t47]) λt106=>bt .eql 3 t106 (i6 1) λt107=>K46 [t107] w45) (K46 [u_] w45)) (λs47 _d48 w49=>
 zb t103 (s47.getD 0 u_) fa_ λt108=>za (λK50=>gIf t108 true (bt .eql 29 t48 (i6 0) λt111=>K50 [t111] w49) (K50 [u_] w49)) (λs51 _d52 w53=>
 zb t108 (s51.getD 0 u_) fa_ λt112=>za (λK54=>gIf t112 true (pp (Builtin.len_ #[26] 3 #[t52]) λt115=>bt .eql 3 t115 (i6 1) λt116=>K54 [t116] w53) (K54 [u_] w53)) (λs55 _d56 w57=>
 zb t112 (s55.getD 0 u_) fa_ λt117=>za (λK58=>gIf t117 true (xl w57 26 t52 (i6 0) 3 λt121=>bt .eql 3 t121 (i6 2) λt122=>K58 [t122] w57) (K58 [u_] w57)) (λs59 _d60 w61=>
 zb t117 (s59.getD 0 u_) fa_ λt123=>za (λK62=>gIf t123 true (bt .eql 29 t53 (i6 0) λt126=>K62 [t126] w61) (K62 [u_] w61)) (λs63 _d64 w65=>
 zb t123 (s63.getD 0 u_) fa_ λt127=>za (λK66=>gIf t127 true (pp (Op.unary .not t58) λt130=>K66 [t130] w65) (K66 [u_] w65)) (λs67 _d68 w69=>
 zb t127 (s67.getD 0 u_) fa_ λt131=>za (λK70=>gIf t131 true (bt .eql 29 t59 (i6 0) λt134=>K70 [t134] w69) (K70 [u_] w69)) (λs71 _d72 w73=>
 zb t131 (s71.getD 0 u_) fa_ λt135=>za (λK74=>gIf t135 true (pp (Builtin.len_ #[26] 3 #[t64]) λt138=>bt .eql 3 t138 (i6 1) λt139=>K74 [t139] w73) (K74 [u_] w73)) (λs75 _d76 w77=>
 zb t135 (s75.getD 0 u_) fa_ λt140=>za (λK78=>gIf t140 true (xl w77 26 t64 (i6 0) 3 λt144=>bt .eql 3 t144 (i6 0) λt145=>K78 [t145] w77) (K78 [u_] w77)) (λs79 _d80 w81=>
 zb t140 (s79.getD 0 u_) fa_ λt146=>za (λK82=>gIf t146 true (bt .eql 29 t65 (i6 0) λt149=>K82 [t149] w81) (K82 [u_] w81)) (λs83 _d84 w85=>
 zb t146 (s83.getD 0 u_) fa_ λt150=>K t150 w85))))))))))))))))))
theorem aez(h:Vz  w K):zd prog xO #[] w K:=
 okC false (.s (.r (rz 1 0 0)) (.s (.r (rz 3 0 42)) (.s (.r (rz 7 0 9)) (.s (.r (rz 9 0 137)) (.s (.r (rz 7 0 9)) (.s (.r (rz 7 0 9)) (.s (.r (rz 9 0 9)) (.s (.r (rz 7 0 9)) (.s (.r (rz 9 0 9)) (.s (.r (rz 8 0 41)) (.s (.r (ra 3 0 0 (.grp 68 true (ri 3 3 0) [71] (ra 2 6 0 (.grp 73 true (ri 2 8 0) [75] (ra 2 10 0 (.grp 77 true (ri 2 12 0) [79] (ra 2 14 0 (.grp 81 true (ri 3 16 0) [84] (ra 2 19 0 (.grp 86 true (ri 2 21 0) [88] (ra 2 23 0 (.grp 90 true (ri 3 25 0) [93] (ra 2 28 0 (.grp 95 true (ri 2 30 0) [97] (ra 2 32 0 (.grp 99 true (ri 3 34 0) [102] (ra 2 37 0 (.grp 104 true (ri 3 39 0) [107] (ra 2 42 0 (.grp 109 true (ri 2 44 0) [111] (ra 2 46 0 (.grp 113 true (ri 3 48 0) [116] (ra 2 51 0 (.grp 118 true (ri 4 53 16) [122] (ra 2 57 0 (.grp 124 true (ri 2 59 0) [126] (ra 2 61 0 (.grp 128 true (ri 2 63 0) [130] (ra 2 65 0 (.grp 132 true (ri 2 67 0) [134] (ra 2 69 0 (.grp 136 true (ri 3 71 0) [139] (ra 2 74 0 (.grp 141 true (ri 4 76 16) [145] (ra 2 80 0 (.grp 147 true (ri 2 82 0) [149] (rz 2 84 0)))))))))))))))))))))))))))))))))))))) (.n)))))))))))) func7 rfl (by kernel_rfl) (by kernel_rfl) h
def aaJ(t0 t1:Value)(w:World)(K:VW):Prop:=
 zo [(i6 0),(i6 0)] w (λs2 _d3 w4 K1=>
 pp (Builtin.len_ #[40] 3 #[t1]) λt9=>bf .lss 3 (s2.getD 1 u_) t9 λt10=>zc t10 (za (λK5=>
 xl w4 40 t1 (s2.getD 1 u_) 4 λt16=>zc t16 (pp (Builtin.len_ #[26] 3 #[t0]) λt19=>bf .geq 3 (s2.getD 0 u_) t19 λt20=>za (λK9=>gIf t20 false (xl w4 26 t0 (s2.getD 0 u_) 3 λt25=>bf .neq 3 t25 (s2.getD 1 u_) λt27=>K9 [t27] w4) (K9 [u_] w4)) (λs10 _d11 w12=>
 zb t20 tr_ (s10.getD 0 u_) λt28=>zc t28 (K fa_ w12) (bt .add 3 (s2.getD 0 u_) (i6 1) λt30=>K5 [t30] w12))) (K5 [(s2.getD 0 u_)] w4)) (λs6 _d7 w8=>
 bt .add 3 (s2.getD 1 u_) (i6 1) λt12=>K1 [(s6.getD 0 u_),t12] w8)) (pp (Builtin.len_ #[26] 3 #[t0]) λt33=>bf .eql 3 (s2.getD 0 u_) t33 λt34=>K t34 w4))
theorem afY{t1:Value}(h:aaJ t0 t1 w K):zd prog kX #[t0,t1] w K:=
 okC false (.s (.r (rz 1 0 0)) (.s (.r (rz 1 0 0)) (.s (.s (.r (rz 1 0 0)) (.b (.lp [5,6] (.s (.s (.r (rz 4 0 0)) (.c (.n) (.n))) (.j [5] (.b (.s (.r (rz 4 0 64)) (.c (.s (.s (.r (ra 5 0 0 (.grp 21 false (ri 6 5 64) [27] (rz 1 11 0)))) (.c (.s (.r (rz 1 0 0)) (.n)) (.n))) (.r (rz 3 0 0))) (.n)))) (.r (rz 3 0 0))))))) (.s (.r (rz 5 0 0)) (.n))))) func15 rfl (by kernel_rfl) (by kernel_rfl) h
def aaK(w:World)(K:VW):Prop:=
 pw w (Instr.alloc 25 true (.tuple #[])) λt0 w1=>
 pw w1 (Instr.buildSlice 57 1 #[(0,(i6 (-1)))]) λt2 w2=>
 pp (Instr.build 59 #[(0,(i6 2)),(1,t2)]) λt3=>pw w2 (Instr.alloc 59 true (.tuple #[])) λt1 w3=>
 so w3 59 t1 t3 λw4=>pp (Instr.build 59 #[(0,(i6 2))]) λt9=>pp (Instr.build 59 #[(0,(i6 1))]) λt10=>pp (Instr.build 94 #[(0,(Value.int .u8 4)),(1,t9),(6,t10),(7,tr_),(10,(i6 1))]) λt11=>pp (Instr.build 59 #[(0,(i6 1))]) λt12=>lo w4.drew 59 t1 λt15=>pp (Instr.build 94 #[(0,(Value.int .u8 14))]) λt18=>((ca xV #[] w4.drew λt4 w5=>
 Ext w4.drew w5∧
 ((ca xV #[] w5 λt5 w6=>
 Ext w5 w6∧
 ((ca qV #[tr_] w6 λt6 w7=>
 Ext w6 w7∧
 ((pw w7 (Instr.buildSlice 70 3 #[(0,t4),(1,t5),(2,t6)]) λt7 w8=>
 Ext w7 w8∧
 ((pw w8 (Instr.makeSlice 71 (i6 3) (i6 3)) λt8 w9=>
 Ext w8 w9∧
 ca zx #[(i6 2)] w9 λt13 w10=>
 Ext w9 w10∧
 pp (Instr.build 94 #[(0,(Value.int .u8 1)),(1,t12),(2,t13),(10,(i6 2))]) λt14=>ca zx #[(i6 3)] w10 λt16 w11=>
 Ext w10 w11∧
 pp (Instr.build 94 #[(0,(Value.int .u8 1)),(1,t15),(2,t16),(10,(i6 3))]) λt17=>pw w11 (Instr.buildSlice 72 4 #[(0,t11),(1,t14),(2,t17),(3,t18)]) λt19 w12=>
 pp (Instr.build 74 #[(4,t7),(5,t8),(6,t19)]) λt20=>pw w12 (Instr.buildSlice 23 1 #[(0,t20)]) λt21 w13=>
 pp (Instr.build 25 #[(1,t21)]) λt22=>so w13 25 t0 t22 λw14=>pq w14 (zk 25 t0) λr15=>K r15 w14)∧
 (ca zx #[(i6 2)] w8 λt13_17 w16=>
 Ext w8 w16∧
 pp (Instr.build 94 #[(0,(Value.int .u8 1)),(1,t12),(2,t13_17),(10,(i6 2))]) λt14_18=>((pw w16 (Instr.makeSlice 71 (i6 3) (i6 3)) λt8_20 w19=>
 Ext w16 w19∧
 ca zx #[(i6 3)] w19 λt16_22 w21=>
 Ext w19 w21∧
 pp (Instr.build 94 #[(0,(Value.int .u8 1)),(1,t15),(2,t16_22),(10,(i6 3))]) λt17_23=>pw w21 (Instr.buildSlice 72 4 #[(0,t11),(1,t14_18),(2,t17_23),(3,t18)]) λt19_25 w24=>
 pp (Instr.build 74 #[(4,t7),(5,t8_20),(6,t19_25)]) λt20_26=>pw w24 (Instr.buildSlice 23 1 #[(0,t20_26)]) λt21_28 w27=>
 pp (Instr.build 25 #[(1,t21_28)]) λt22_29=>so w27 25 t0 t22_29 λw30=>pq w30 (zk 25 t0) λr31=>K r31 w30)∧
 (ca zx #[(i6 3)] w16 λt16_33 w32=>
 Ext w16 w32∧
 pp (Instr.build 94 #[(0,(Value.int .u8 1)),(1,t15),(2,t16_33),(10,(i6 3))]) λt17_34=>((pw w32 (Instr.makeSlice 71 (i6 3) (i6 3)) λt8_36 w35=>
 Ext w32 w35∧
 pw w35 (Instr.buildSlice 72 4 #[(0,t11),(1,t14_18),(2,t17_34),(3,t18)]) λt19_38 w37=>
 pp (Instr.build 74 #[(4,t7),(5,t8_36),(6,t19_38)]) λt20_39=>pw w37 (Instr.buildSlice 23 1 #[(0,t20_39)]) λt21_41 w40=>
 pp (Instr.build 25 #[(1,t21_41)]) λt22_42=>so w40 25 t0 t22_42 λw43=>pq w43 (zk 25 t0) λr44=>K r44 w43)∧
 (pw w32 (Instr.buildSlice 72 4 #[(0,t11),(1,t14_18),(2,t17_34),(3,t18)]) λt19_46 w45=>
 pw w45 (Instr.makeSlice 71 (i6 3) (i6 3)) λt8_48 w47=>
 Ext w45 w47∧
 pp (Instr.build 74 #[(4,t7),(5,t8_48),(6,t19_46)]) λt20_49=>pw w47 (Instr.buildSlice 23 1 #[(0,t20_49)]) λt21_51 w50=>
 pp (Instr.build 25 #[(1,t21_51)]) λt22_52=>so w50 25 t0 t22_52 λw53=>pq w53 (zk 25 t0) λr54=>K r54 w53)))))))∧
 (((pw w7 (Instr.makeSlice 71 (i6 3) (i6 3)) λt8_56 w55=>
 Ext w7 w55∧
 ((pw w55 (Instr.buildSlice 70 3 #[(0,t4),(1,t5),(2,t6)]) λt7_58 w57=>
 Ext w55 w57∧
 ca zx #[(i6 2)] w57 λt13_60 w59=>
 Ext w57 w59∧
 pp (Instr.build 94 #[(0,(Value.int .u8 1)),(1,t12),(2,t13_60),(10,(i6 2))]) λt14_61=>ca zx #[(i6 3)] w59 λt16_63 w62=>
 Ext w59 w62∧
 pp (Instr.build 94 #[(0,(Value.int .u8 1)),(1,t15),(2,t16_63),(10,(i6 3))]) λt17_64=>pw w62 (Instr.buildSlice 72 4 #[(0,t11),(1,t14_61),(2,t17_64),(3,t18)]) λt19_66 w65=>
 pp (Instr.build 74 #[(4,t7_58),(5,t8_56),(6,t19_66)]) λt20_67=>pw w65 (Instr.buildSlice 23 1 #[(0,t20_67)]) λt21_69 w68=>
 pp (Instr.build 25 #[(1,t21_69)]) λt22_70=>so w68 25 t0 t22_70 λw71=>pq w71 (zk 25 t0) λr72=>K r72 w71)∧
 (ca zx #[(i6 2)] w55 λt13_74 w73=>
 Ext w55 w73∧
 pp (Instr.build 94 #[(0,(Value.int .u8 1)),(1,t12),(2,t13_74),(10,(i6 2))]) λt14_75=>((pw w73 (Instr.buildSlice 70 3 #[(0,t4),(1,t5),(2,t6)]) λt7_77 w76=>
 Ext w73 w76∧
 ca zx #[(i6 3)] w76 λt16_79 w78=>
 Ext w76 w78∧
 pp (Instr.build 94 #[(0,(Value.int .u8 1)),(1,t15),(2,t16_79),(10,(i6 3))]) λt17_80=>pw w78 (Instr.buildSlice 72 4 #[(0,t11),(1,t14_75),(2,t17_80),(3,t18)]) λt19_82 w81=>
 pp (Instr.build 74 #[(4,t7_77),(5,t8_56),(6,t19_82)]) λt20_83=>pw w81 (Instr.buildSlice 23 1 #[(0,t20_83)]) λt21_85 w84=>
 pp (Instr.build 25 #[(1,t21_85)]) λt22_86=>so w84 25 t0 t22_86 λw87=>pq w87 (zk 25 t0) λr88=>K r88 w87)∧
 (ca zx #[(i6 3)] w73 λt16_90 w89=>
 Ext w73 w89∧
 pp (Instr.build 94 #[(0,(Value.int .u8 1)),(1,t15),(2,t16_90),(10,(i6 3))]) λt17_91=>((pw w89 (Instr.buildSlice 70 3 #[(0,t4),(1,t5),(2,t6)]) λt7_93 w92=>
 Ext w89 w92∧
 pw w92 (Instr.buildSlice 72 4 #[(0,t11),(1,t14_75),(2,t17_91),(3,t18)]) λt19_95 w94=>
 pp (Instr.build 74 #[(4,t7_93),(5,t8_56),(6,t19_95)]) λt20_96=>pw w94 (Instr.buildSlice 23 1 #[(0,t20_96)]) λt21_98 w97=>
 pp (Instr.build 25 #[(1,t21_98)]) λt22_99=>so w97 25 t0 t22_99 λw100=>pq w100 (zk 25 t0) λr101=>K r101 w100)∧
 (pw w89 (Instr.buildSlice 72 4 #[(0,t11),(1,t14_75),(2,t17_91),(3,t18)]) λt19_103 w102=>
 pw w102 (Instr.buildSlice 70 3 #[(0,t4),(1,t5),(2,t6)]) λt7_105 w104=>
 Ext w102 w104∧
 pp (Instr.build 74 #[(4,t7_105),(5,t8_56),(6,t19_103)]) λt20_106=>pw w104 (Instr.buildSlice 23 1 #[(0,t20_106)]) λt21_108 w107=>
 pp (Instr.build 25 #[(1,t21_108)]) λt22_109=>so w107 25 t0 t22_109 λw110=>pq w110 (zk 25 t0) λr111=>K r111 w110)))))))∧
 (ca zx #[(i6 2)] w7 λt13_113 w112=>
 Ext w7 w112∧
 pp (Instr.build 94 #[(0,(Value.int .u8 1)),(1,t12),(2,t13_113),(10,(i6 2))]) λt14_114=>((pw w112 (Instr.buildSlice 70 3 #[(0,t4),(1,t5),(2,t6)]) λt7_116 w115=>
 Ext w112 w115∧
 ((pw w115 (Instr.makeSlice 71 (i6 3) (i6 3)) λt8_118 w117=>
 Ext w115 w117∧
 ca zx #[(i6 3)] w117 λt16_120 w119=>
 Ext w117 w119∧
 pp (Instr.build 94 #[(0,(Value.int .u8 1)),(1,t15),(2,t16_120),(10,(i6 3))]) λt17_121=>pw w119 (Instr.buildSlice 72 4 #[(0,t11),(1,t14_114),(2,t17_121),(3,t18)]) λt19_123 w122=>
 pp (Instr.build 74 #[(4,t7_116),(5,t8_118),(6,t19_123)]) λt20_124=>pw w122 (Instr.buildSlice 23 1 #[(0,t20_124)]) λt21_126 w125=>
 pp (Instr.build 25 #[(1,t21_126)]) λt22_127=>so w125 25 t0 t22_127 λw128=>pq w128 (zk 25 t0) λr129=>K r129 w128)∧
 (ca zx #[(i6 3)] w115 λt16_131 w130=>
 Ext w115 w130∧
 pp (Instr.build 94 #[(0,(Value.int .u8 1)),(1,t15),(2,t16_131),(10,(i6 3))]) λt17_132=>((pw w130 (Instr.makeSlice 71 (i6 3) (i6 3)) λt8_134 w133=>
 Ext w130 w133∧
 pw w133 (Instr.buildSlice 72 4 #[(0,t11),(1,t14_114),(2,t17_132),(3,t18)]) λt19_136 w135=>
 pp (Instr.build 74 #[(4,t7_116),(5,t8_134),(6,t19_136)]) λt20_137=>pw w135 (Instr.buildSlice 23 1 #[(0,t20_137)]) λt21_139 w138=>
 pp (Instr.build 25 #[(1,t21_139)]) λt22_140=>so w138 25 t0 t22_140 λw141=>pq w141 (zk 25 t0) λr142=>K r142 w141)∧
 (pw w130 (Instr.buildSlice 72 4 #[(0,t11),(1,t14_114),(2,t17_132),(3,t18)]) λt19_144 w143=>
 pw w143 (Instr.makeSlice 71 (i6 3) (i6 3)) λt8_146 w145=>
 Ext w143 w145∧
 pp (Instr.build 74 #[(4,t7_116),(5,t8_146),(6,t19_144)]) λt20_147=>pw w145 (Instr.buildSlice 23 1 #[(0,t20_147)]) λt21_149 w148=>
 pp (Instr.build 25 #[(1,t21_149)]) λt22_150=>so w148 25 t0 t22_150 λw151=>pq w151 (zk 25 t0) λr152=>K r152 w151)))))∧
 (((pw w112 (Instr.makeSlice 71 (i6 3) (i6 3)) λt8_154 w153=>
 Ext w112 w153∧
 ((pw w153 (Instr.buildSlice 70 3 #[(0,t4),(1,t5),(2,t6)]) λt7_156 w155=>
 Ext w153 w155∧
 ca zx #[(i6 3)] w155 λt16_158 w157=>
 Ext w155 w157∧
 pp (Instr.build 94 #[(0,(Value.int .u8 1)),(1,t15),(2,t16_158),(10,(i6 3))]) λt17_159=>pw w157 (Instr.buildSlice 72 4 #[(0,t11),(1,t14_114),(2,t17_159),(3,t18)]) λt19_161 w160=>
 pp (Instr.build 74 #[(4,t7_156),(5,t8_154),(6,t19_161)]) λt20_162=>pw w160 (Instr.buildSlice 23 1 #[(0,t20_162)]) λt21_164 w163=>
 pp (Instr.build 25 #[(1,t21_164)]) λt22_165=>so w163 25 t0 t22_165 λw166=>pq w166 (zk 25 t0) λr167=>K r167 w166)∧
 (ca zx #[(i6 3)] w153 λt16_169 w168=>
 Ext w153 w168∧
 pp (Instr.build 94 #[(0,(Value.int .u8 1)),(1,t15),(2,t16_169),(10,(i6 3))]) λt17_170=>((pw w168 (Instr.buildSlice 70 3 #[(0,t4),(1,t5),(2,t6)]) λt7_172 w171=>
 Ext w168 w171∧
 pw w171 (Instr.buildSlice 72 4 #[(0,t11),(1,t14_114),(2,t17_170),(3,t18)]) λt19_174 w173=>
 pp (Instr.build 74 #[(4,t7_172),(5,t8_154),(6,t19_174)]) λt20_175=>pw w173 (Instr.buildSlice 23 1 #[(0,t20_175)]) λt21_177 w176=>
 pp (Instr.build 25 #[(1,t21_177)]) λt22_178=>so w176 25 t0 t22_178 λw179=>pq w179 (zk 25 t0) λr180=>K r180 w179)∧
 (pw w168 (Instr.buildSlice 72 4 #[(0,t11),(1,t14_114),(2,t17_170),(3,t18)]) λt19_182 w181=>
 pw w181 (Instr.buildSlice 70 3 #[(0,t4),(1,t5),(2,t6)]) λt7_184 w183=>
 Ext w181 w183∧
 pp (Instr.build 74 #[(4,t7_184),(5,t8_154),(6,t19_182)]) λt20_185=>pw w183 (Instr.buildSlice 23 1 #[(0,t20_185)]) λt21_187 w186=>
 pp (Instr.build 25 #[(1,t21_187)]) λt22_188=>so w186 25 t0 t22_188 λw189=>pq w189 (zk 25 t0) λr190=>K r190 w189)))))∧
 (ca zx #[(i6 3)] w112 λt16_192 w191=>
 Ext w112 w191∧
 pp (Instr.build 94 #[(0,(Value.int .u8 1)),(1,t15),(2,t16_192),(10,(i6 3))]) λt17_193=>((pw w191 (Instr.buildSlice 70 3 #[(0,t4),(1,t5),(2,t6)]) λt7_195 w194=>
 Ext w191 w194∧
 ((pw w194 (Instr.makeSlice 71 (i6 3) (i6 3)) λt8_197 w196=>
 Ext w194 w196∧
 pw w196 (Instr.buildSlice 72 4 #[(0,t11),(1,t14_114),(2,t17_193),(3,t18)]) λt19_199 w198=>
 pp (Instr.build 74 #[(4,t7_195),(5,t8_197),(6,t19_199)]) λt20_200=>pw w198 (Instr.buildSlice 23 1 #[(0,t20_200)]) λt21_202 w201=>
 pp (Instr.build 25 #[(1,t21_202)]) λt22_203=>so w201 25 t0 t22_203 λw204=>pq w204 (zk 25 t0) λr205=>K r205 w204)∧
 (pw w194 (Instr.buildSlice 72 4 #[(0,t11),(1,t14_114),(2,t17_193),(3,t18)]) λt19_207 w206=>
 pw w206 (Instr.makeSlice 71 (i6 3) (i6 3)) λt8_209 w208=>
 Ext w206 w208∧
 pp (Instr.build 74 #[(4,t7_195),(5,t8_209),(6,t19_207)]) λt20_210=>pw w208 (Instr.buildSlice 23 1 #[(0,t20_210)]) λt21_212 w211=>
 pp (Instr.build 25 #[(1,t21_212)]) λt22_213=>so w211 25 t0 t22_213 λw214=>pq w214 (zk 25 t0) λr215=>K r215 w214)))∧
 (((pw w191 (Instr.makeSlice 71 (i6 3) (i6 3)) λt8_217 w216=>
 Ext w191 w216∧
 ((pw w216 (Instr.buildSlice 70 3 #[(0,t4),(1,t5),(2,t6)]) λt7_219 w218=>
 Ext w216 w218∧
 pw w218 (Instr.buildSlice 72 4 #[(0,t11),(1,t14_114),(2,t17_193),(3,t18)]) λt19_221 w220=>
 pp (Instr.build 74 #[(4,t7_219),(5,t8_217),(6,t19_221)]) λt20_222=>pw w220 (Instr.buildSlice 23 1 #[(0,t20_222)]) λt21_224 w223=>
 pp (Instr.build 25 #[(1,t21_224)]) λt22_225=>so w223 25 t0 t22_225 λw226=>pq w226 (zk 25 t0) λr227=>K r227 w226)∧
 (pw w216 (Instr.buildSlice 72 4 #[(0,t11),(1,t14_114),(2,t17_193),(3,t18)]) λt19_229 w228=>
 pw w228 (Instr.buildSlice 70 3 #[(0,t4),(1,t5),(2,t6)]) λt7_231 w230=>
 Ext w228 w230∧
 pp (Instr.build 74 #[(4,t7_231),(5,t8_217),(6,t19_229)]) λt20_232=>pw w230 (Instr.buildSlice 23 1 #[(0,t20_232)]) λt21_234 w233=>
 pp (Instr.build 25 #[(1,t21_234)]) λt22_235=>so w233 25 t0 t22_235 λw236=>pq w236 (zk 25 t0) λr237=>K r237 w236)))∧
 (pw w191 (Instr.buildSlice 72 4 #[(0,t11),(1,t14_114),(2,t17_193),(3,t18)]) λt19_239 w238=>
 ((pw w238 (Instr.buildSlice 70 3 #[(0,t4),(1,t5),(2,t6)]) λt7_241 w240=>
 Ext w238 w240∧
 pw w240 (Instr.makeSlice 71 (i6 3) (i6 3)) λt8_243 w242=>
 Ext w240 w242∧
 pp (Instr.build 74 #[(4,t7_241),(5,t8_243),(6,t19_239)]) λt20_244=>pw w242 (Instr.buildSlice 23 1 #[(0,t20_244)]) λt21_246 w245=>
 pp (Instr.build 25 #[(1,t21_246)]) λt22_247=>so w245 25 t0 t22_247 λw248=>pq w248 (zk 25 t0) λr249=>K r249 w248)∧
 (pw w238 (Instr.makeSlice 71 (i6 3) (i6 3)) λt8_251 w250=>
 Ext w238 w250∧
 pw w250 (Instr.buildSlice 70 3 #[(0,t4),(1,t5),(2,t6)]) λt7_253 w252=>
 Ext w250 w252∧
 pp (Instr.build 74 #[(4,t7_253),(5,t8_251),(6,t19_239)]) λt20_254=>pw w252 (Instr.buildSlice 23 1 #[(0,t20_254)]) λt21_256 w255=>
 pp (Instr.build 25 #[(1,t21_256)]) λt22_257=>so w255 25 t0 t22_257 λw258=>pq w258 (zk 25 t0) λr259=>K r259 w258)))))))))))))))∧
 (pw w6 (Instr.makeSlice 71 (i6 3) (i6 3)) λt8_261 w260=>
 Ext w6 w260∧
 ca qV #[tr_] w260 λt6_263 w262=>
 Ext w260 w262∧
 ((pw w262 (Instr.buildSlice 70 3 #[(0,t4),(1,t5),(2,t6_263)]) λt7_265 w264=>
 Ext w262 w264∧
 ca zx #[(i6 2)] w264 λt13_267 w266=>
 Ext w264 w266∧
 pp (Instr.build 94 #[(0,(Value.int .u8 1)),(1,t12),(2,t13_267),(10,(i6 2))]) λt14_268=>ca zx #[(i6 3)] w266 λt16_270 w269=>
 Ext w266 w269∧
 pp (Instr.build 94 #[(0,(Value.int .u8 1)),(1,t15),(2,t16_270),(10,(i6 3))]) λt17_271=>pw w269 (Instr.buildSlice 72 4 #[(0,t11),(1,t14_268),(2,t17_271),(3,t18)]) λt19_273 w272=>
 pp (Instr.build 74 #[(4,t7_265),(5,t8_261),(6,t19_273)]) λt20_274=>pw w272 (Instr.buildSlice 23 1 #[(0,t20_274)]) λt21_276 w275=>
 pp (Instr.build 25 #[(1,t21_276)]) λt22_277=>so w275 25 t0 t22_277 λw278=>pq w278 (zk 25 t0) λr279=>K r279 w278)∧
 (ca zx #[(i6 2)] w262 λt13_281 w280=>
 Ext w262 w280∧
 pp (Instr.build 94 #[(0,(Value.int .u8 1)),(1,t12),(2,t13_281),(10,(i6 2))]) λt14_282=>((pw w280 (Instr.buildSlice 70 3 #[(0,t4),(1,t5),(2,t6_263)]) λt7_284 w283=>
 Ext w280 w283∧
 ca zx #[(i6 3)] w283 λt16_286 w285=>
 Ext w283 w285∧
 pp (Instr.build 94 #[(0,(Value.int .u8 1)),(1,t15),(2,t16_286),(10,(i6 3))]) λt17_287=>pw w285 (Instr.buildSlice 72 4 #[(0,t11),(1,t14_282),(2,t17_287),(3,t18)]) λt19_289 w288=>
 pp (Instr.build 74 #[(4,t7_284),(5,t8_261),(6,t19_289)]) λt20_290=>pw w288 (Instr.buildSlice 23 1 #[(0,t20_290)]) λt21_292 w291=>
 pp (Instr.build 25 #[(1,t21_292)]) λt22_293=>so w291 25 t0 t22_293 λw294=>pq w294 (zk 25 t0) λr295=>K r295 w294)∧
 (ca zx #[(i6 3)] w280 λt16_297 w296=>
 Ext w280 w296∧
 pp (Instr.build 94 #[(0,(Value.int .u8 1)),(1,t15),(2,t16_297),(10,(i6 3))]) λt17_298=>((pw w296 (Instr.buildSlice 70 3 #[(0,t4),(1,t5),(2,t6_263)]) λt7_300 w299=>
 Ext w296 w299∧
 pw w299 (Instr.buildSlice 72 4 #[(0,t11),(1,t14_282),(2,t17_298),(3,t18)]) λt19_302 w301=>
 pp (Instr.build 74 #[(4,t7_300),(5,t8_261),(6,t19_302)]) λt20_303=>pw w301 (Instr.buildSlice 23 1 #[(0,t20_303)]) λt21_305 w304=>
 pp (Instr.build 25 #[(1,t21_305)]) λt22_306=>so w304 25 t0 t22_306 λw307=>pq w307 (zk 25 t0) λr308=>K r308 w307)∧
 (pw w296 (Instr.buildSlice 72 4 #[(0,t11),(1,t14_282),(2,t17_298),(3,t18)]) λt19_310 w309=>
 pw w309 (Instr.buildSlice 70 3 #[(0,t4),(1,t5),(2,t6_263)]) λt7_312 w311=>
 Ext w309 w311∧
 pp (Instr.build 74 #[(4,t7_312),(5,t8_261),(6,t19_310)]) λt20_313=>pw w311 (Instr.buildSlice 23 1 #[(0,t20_313)]) λt21_315 w314=>
 pp (Instr.build 25 #[(1,t21_315)]) λt22_316=>so w314 25 t0 t22_316 λw317=>pq w317 (zk 25 t0) λr318=>K r318 w317)))))))))∧
 (pw w5 (Instr.makeSlice 71 (i6 3) (i6 3)) λt8_320 w319=>
 Ext w5 w319∧
 ca xV #[] w319 λt5_322 w321=>
 Ext w319 w321∧
 ca qV #[tr_] w321 λt6_324 w323=>
 Ext w321 w323∧
 ((pw w323 (Instr.buildSlice 70 3 #[(0,t4),(1,t5_322),(2,t6_324)]) λt7_326 w325=>
 Ext w323 w325∧
 ca zx #[(i6 2)] w325 λt13_328 w327=>
 Ext w325 w327∧
 pp (Instr.build 94 #[(0,(Value.int .u8 1)),(1,t12),(2,t13_328),(10,(i6 2))]) λt14_329=>ca zx #[(i6 3)] w327 λt16_331 w330=>
 Ext w327 w330∧
 pp (Instr.build 94 #[(0,(Value.int .u8 1)),(1,t15),(2,t16_331),(10,(i6 3))]) λt17_332=>pw w330 (Instr.buildSlice 72 4 #[(0,t11),(1,t14_329),(2,t17_332),(3,t18)]) λt19_334 w333=>
 pp (Instr.build 74 #[(4,t7_326),(5,t8_320),(6,t19_334)]) λt20_335=>pw w333 (Instr.buildSlice 23 1 #[(0,t20_335)]) λt21_337 w336=>
 pp (Instr.build 25 #[(1,t21_337)]) λt22_338=>so w336 25 t0 t22_338 λw339=>pq w339 (zk 25 t0) λr340=>K r340 w339)∧
 (ca zx #[(i6 2)] w323 λt13_342 w341=>
 Ext w323 w341∧
 pp (Instr.build 94 #[(0,(Value.int .u8 1)),(1,t12),(2,t13_342),(10,(i6 2))]) λt14_343=>((pw w341 (Instr.buildSlice 70 3 #[(0,t4),(1,t5_322),(2,t6_324)]) λt7_345 w344=>
 Ext w341 w344∧
 ca zx #[(i6 3)] w344 λt16_347 w346=>
 Ext w344 w346∧
 pp (Instr.build 94 #[(0,(Value.int .u8 1)),(1,t15),(2,t16_347),(10,(i6 3))]) λt17_348=>pw w346 (Instr.buildSlice 72 4 #[(0,t11),(1,t14_343),(2,t17_348),(3,t18)]) λt19_350 w349=>
 pp (Instr.build 74 #[(4,t7_345),(5,t8_320),(6,t19_350)]) λt20_351=>pw w349 (Instr.buildSlice 23 1 #[(0,t20_351)]) λt21_353 w352=>
 pp (Instr.build 25 #[(1,t21_353)]) λt22_354=>so w352 25 t0 t22_354 λw355=>pq w355 (zk 25 t0) λr356=>K r356 w355)∧
 (ca zx #[(i6 3)] w341 λt16_358 w357=>
 Ext w341 w357∧
 pp (Instr.build 94 #[(0,(Value.int .u8 1)),(1,t15),(2,t16_358),(10,(i6 3))]) λt17_359=>((pw w357 (Instr.buildSlice 70 3 #[(0,t4),(1,t5_322),(2,t6_324)]) λt7_361 w360=>
 Ext w357 w360∧
 pw w360 (Instr.buildSlice 72 4 #[(0,t11),(1,t14_343),(2,t17_359),(3,t18)]) λt19_363 w362=>
 pp (Instr.build 74 #[(4,t7_361),(5,t8_320),(6,t19_363)]) λt20_364=>pw w362 (Instr.buildSlice 23 1 #[(0,t20_364)]) λt21_366 w365=>
 pp (Instr.build 25 #[(1,t21_366)]) λt22_367=>so w365 25 t0 t22_367 λw368=>pq w368 (zk 25 t0) λr369=>K r369 w368)∧
 (pw w357 (Instr.buildSlice 72 4 #[(0,t11),(1,t14_343),(2,t17_359),(3,t18)]) λt19_371 w370=>
 pw w370 (Instr.buildSlice 70 3 #[(0,t4),(1,t5_322),(2,t6_324)]) λt7_373 w372=>
 Ext w370 w372∧
 pp (Instr.build 74 #[(4,t7_373),(5,t8_320),(6,t19_371)]) λt20_374=>pw w372 (Instr.buildSlice 23 1 #[(0,t20_374)]) λt21_376 w375=>
 pp (Instr.build 25 #[(1,t21_376)]) λt22_377=>so w375 25 t0 t22_377 λw378=>pq w378 (zk 25 t0) λr379=>K r379 w378)))))))))∧
 (pw w4.drew (Instr.makeSlice 71 (i6 3) (i6 3)) λt8_381 w380=>
 Ext w4.drew w380∧
 ca xV #[] w380 λt4_383 w382=>
 Ext w380 w382∧
 ca xV #[] w382 λt5_385 w384=>
 Ext w382 w384∧
 ca qV #[tr_] w384 λt6_387 w386=>
 Ext w384 w386∧
 ((pw w386 (Instr.buildSlice 70 3 #[(0,t4_383),(1,t5_385),(2,t6_387)]) λt7_389 w388=>
 Ext w386 w388∧
 ca zx #[(i6 2)] w388 λt13_391 w390=>
 Ext w388 w390∧
 pp (Instr.build 94 #[(0,(Value.int .u8 1)),(1,t12),(2,t13_391),(10,(i6 2))]) λt14_392=>ca zx #[(i6 3)] w390 λt16_394 w393=>
 Ext w390 w393∧
 pp (Instr.build 94 #[(0,(Value.int .u8 1)),(1,t15),(2,t16_394),(10,(i6 3))]) λt17_395=>pw w393 (Instr.buildSlice 72 4 #[(0,t11),(1,t14_392),(2,t17_395),(3,t18)]) λt19_397 w396=>
 pp (Instr.build 74 #[(4,t7_389),(5,t8_381),(6,t19_397)]) λt20_398=>pw w396 (Instr.buildSlice 23 1 #[(0,t20_398)]) λt21_400 w399=>
 pp (Instr.build 25 #[(1,t21_400)]) λt22_401=>so w399 25 t0 t22_401 λw402=>pq w402 (zk 25 t0) λr403=>K r403 w402)∧
 (ca zx #[(i6 2)] w386 λt13_405 w404=>
 Ext w386 w404∧
 pp (Instr.build 94 #[(0,(Value.int .u8 1)),(1,t12),(2,t13_405),(10,(i6 2))]) λt14_406=>((pw w404 (Instr.buildSlice 70 3 #[(0,t4_383),(1,t5_385),(2,t6_387)]) λt7_408 w407=>
 Ext w404 w407∧
 ca zx #[(i6 3)] w407 λt16_410 w409=>
 Ext w407 w409∧
 pp (Instr.build 94 #[(0,(Value.int .u8 1)),(1,t15),(2,t16_410),(10,(i6 3))]) λt17_411=>pw w409 (Instr.buildSlice 72 4 #[(0,t11),(1,t14_406),(2,t17_411),(3,t18)]) λt19_413 w412=>
 pp (Instr.build 74 #[(4,t7_408),(5,t8_381),(6,t19_413)]) λt20_414=>pw w412 (Instr.buildSlice 23 1 #[(0,t20_414)]) λt21_416 w415=>
 pp (Instr.build 25 #[(1,t21_416)]) λt22_417=>so w415 25 t0 t22_417 λw418=>pq w418 (zk 25 t0) λr419=>K r419 w418)∧
 (ca zx #[(i6 3)] w404 λt16_421 w420=>
 Ext w404 w420∧
 pp (Instr.build 94 #[(0,(Value.int .u8 1)),(1,t15),(2,t16_421),(10,(i6 3))]) λt17_422=>((pw w420 (Instr.buildSlice 70 3 #[(0,t4_383),(1,t5_385),(2,t6_387)]) λt7_424 w423=>
 Ext w420 w423∧
 pw w423 (Instr.buildSlice 72 4 #[(0,t11),(1,t14_406),(2,t17_422),(3,t18)]) λt19_426 w425=>
 pp (Instr.build 74 #[(4,t7_424),(5,t8_381),(6,t19_426)]) λt20_427=>pw w425 (Instr.buildSlice 23 1 #[(0,t20_427)]) λt21_429 w428=>
 pp (Instr.build 25 #[(1,t21_429)]) λt22_430=>so w428 25 t0 t22_430 λw431=>pq w431 (zk 25 t0) λr432=>K r432 w431)∧
 (pw w420 (Instr.buildSlice 72 4 #[(0,t11),(1,t14_406),(2,t17_422),(3,t18)]) λt19_434 w433=>
 pw w433 (Instr.buildSlice 70 3 #[(0,t4_383),(1,t5_385),(2,t6_387)]) λt7_436 w435=>
 Ext w433 w435∧
 pp (Instr.build 74 #[(4,t7_436),(5,t8_381),(6,t19_434)]) λt20_437=>pw w435 (Instr.buildSlice 23 1 #[(0,t20_437)]) λt21_439 w438=>
 pp (Instr.build 25 #[(1,t21_439)]) λt22_440=>so w438 25 t0 t22_440 λw441=>pq w441 (zk 25 t0) λr442=>K r442 w441))))))))
theorem afZ(h:aaK  w K):zd prog XB #[] w K:=
 okC false (.s (.r (rz 1 0 2)) (.s (.r (rz 4 0 162)) (.s (.r (ra 4 5 0 (ra 1 11 1 (ra 1 14 0 (.alt 0 .u (.alt 1 .u (.alt 2 .u (.alt 3 .u (.alt 4 .u (ra 2 9 3 (ra 2 12 3 (rz 5 15 546))) (ra 2 9 3 (.alt 4 .u (ra 2 12 3 (rz 5 15 546)) (ra 2 12 3 (.alt 4 .u (rz 5 15 546) (ra 1 15 2 (ra 1 4 3 (rz 4 16 136)))))))) (.alt 4 .u (.alt 3 .u (ra 2 9 3 (ra 2 12 3 (rz 5 15 546))) (ra 2 9 3 (.alt 3 .u (ra 2 12 3 (rz 5 15 546)) (ra 2 12 3 (.alt 3 .u (rz 5 15 546) (ra 1 15 2 (ra 1 3 3 (rz 4 16 136)))))))) (ra 2 9 3 (.alt 3 .u (.alt 4 .u (ra 2 12 3 (rz 5 15 546)) (ra 2 12 3 (.alt 4 .u (rz 5 15 546) (ra 1 15 2 (ra 1 4 3 (rz 4 16 136)))))) (.alt 4 .u (.alt 3 .u (ra 2 12 3 (rz 5 15 546)) (ra 2 12 3 (.alt 3 .u (rz 5 15 546) (ra 1 15 2 (ra 1 3 3 (rz 4 16 136)))))) (ra 2 12 3 (.alt 3 .u (.alt 4 .u (rz 5 15 546) (ra 1 15 2 (ra 1 4 3 (rz 4 16 136)))) (.alt 4 .u (.alt 3 .u (rz 5 15 546) (ra 1 15 2 (ra 1 3 3 (rz 4 16 136)))) (ra 1 15 2 (.alt 3 .u (ra 1 4 3 (rz 4 16 136)) (ra 1 4 3 (ra 1 3 3 (rz 4 16 136))))))))))))) (ra 1 4 3 (ra 1 2 3 (.alt 3 .u (ra 2 9 3 (ra 2 12 3 (rz 5 15 546))) (ra 2 9 3 (.alt 3 .u (ra 2 12 3 (rz 5 15 546)) (ra 2 12 3 (.alt 3 .u (rz 5 15 546) (ra 1 15 2 (ra 1 3 3 (rz 4 16 136))))))))))) (ra 1 4 3 (ra 2 1 15 (.alt 3 .u (ra 2 9 3 (ra 2 12 3 (rz 5 15 546))) (ra 2 9 3 (.alt 3 .u (ra 2 12 3 (rz 5 15 546)) (ra 2 12 3 (.alt 3 .u (rz 5 15 546) (ra 1 15 2 (ra 1 3 3 (rz 4 16 136))))))))))) (ra 1 4 3 (ra 3 0 63 (.alt 3 .u (ra 2 9 3 (ra 2 12 3 (rz 5 15 546))) (ra 2 9 3 (.alt 3 .u (ra 2 12 3 (rz 5 15 546)) (ra 2 12 3 (.alt 3 .u (rz 5 15 546) (ra 1 15 2 (ra 1 3 3 (rz 4 16 136))))))))))))))) (.n)))) func24 rfl (by kernel_rfl) (by kernel_rfl) h
def abO(w:World)(K:VW):Prop:=
 pw w (Instr.alloc 112 true (.tuple #[])) λt0 w1=>
 pp (Instr.build 112 #[(0,(Value.int .u8 1))]) λt1=>so w1 112 t0 t1 λw2=>pq w2 (zk 112 t0) λr3=>K r3 w2
theorem ahj(h:abO  w K):zd prog xV #[] w K:=
 okC false (.s (.r (rz 1 0 2)) (.s (.r (rz 2 0 8)) (.n))) func51 rfl (by kernel_rfl) (by kernel_rfl) h
def abP(t0:Value)(w:World)(K:VW):Prop:=
 pw w (Instr.alloc 112 true (.tuple #[])) λt2 w1=>
 ca xV #[] w1 λt4 w2=>
 pw w2 (Instr.buildSlice 70 1 #[(0,t4)]) λt5 w3=>
 pp (Instr.build 112 #[(0,(Value.int .u8 4)),(1,t0),(2,(i6 (-1))),(4,t5)]) λt6=>so w3 112 t2 t6 λw4=>pq w4 (zk 112 t2) λr5=>K r5 w4
theorem ahk(h:abP t0 w K):zd prog qV #[t0] w K:=
 okC false (.s (.r (rz 1 0 2)) (.s (.r (rz 5 0 552)) (.n))) func52 rfl (by kernel_rfl) (by kernel_rfl) h
def abQ(t0:Value)(w:World)(K:VW):Prop:=
 pw w (Instr.alloc 61 true (.tuple #[])) λt2 w1=>
 pp (Instr.build 61 #[(0,(Value.int .u8 1)),(1,t0)]) λt4=>so w1 61 t2 t4 λw2=>pq w2 (zk 61 t2) λr3=>K r3 w2
theorem ahl(h:abQ t0 w K):zd prog zx #[t0] w K:=
 okC false (.s (.r (rz 1 0 2)) (.s (.r (rz 3 0 32)) (.n))) func53 rfl (by kernel_rfl) (by kernel_rfl) h
end
end Go.Proofs.Tryz
namespace Go.Proofs
open Go.Sh Go.RowKit
section
theorem abR{w:World}{K:Value→World→Prop}(h:∀w',Ext w w'→K amn w'):zd Tryz.prog Tryz.xV #[] w K:=by
 refine Tryz.ahj ?_
 unfold Tryz.abO
 have S:StX noX w nothing w []:=St.start (λ_ _ h=>h.elim)
 refine S.al λb0 w1 S=>?_
 refine zy (cs:=XN.toArray) (by kernel_rfl) ?_
 refine S.stB (b:=b0) λw2 S=>?_
 refine S.ceB (b:=b0) ?_ rfl
 exact h _ S.ext
theorem ahP{n:Int}{w:World}{K:Value→World→Prop}(h:∀w',Ext w w'→K (amo n) w'):zd Tryz.prog Tryz.zx #[.int .i64 n] w K:=by
 refine Tryz.ahl ?_
 unfold Tryz.abQ
 have S:StX noX w nothing w []:=St.start (λ_ _ h=>h.elim)
 refine S.al λb0 w1 S=>?_
 refine zy (cs:=#[.int .u8 1,.int .i64 n,.int .i64 0,.slice none 0 0]) (by kernel_rfl) ?_
 refine S.stB (b:=b0) λw2 S=>?_
 refine S.ceB (b:=b0) ?_ rfl
 exact h _ S.ext
theorem ahQ{m:Bool}{w:World}{K:Value→World→Prop}(h:∀q cap sn w',Ext w w'→New w sn w'→TyG sn (tyV (.mk 4 m (-1) 0 [kZ]) q cap) (.mk 4 m (-1) 0 [kZ])→K (tyV (.mk 4 m (-1) 0 [kZ]) q cap) w'):zd Tryz.prog Tryz.qV #[.bool m] w K:=by
 refine Tryz.ahk ?_
 unfold Tryz.abP
 have S:StX noX w nothing w []:=St.start (λ_ _ h=>h.elim)
 refine S.al λb2 w1 S=>?_
 refine abR λw2 e2=>?_
 have S:=S.go e2
 refine S.lit (e:=112) (cs:=XN) (by kernel_rfl) λb5 w3 S=>?_
 refine zy (cs:=#[.int .u8 4,.bool m,.int .i64 (-1),.int .i64 0,.slice (some ⟨b5,0,none⟩) 1 1]) (by kernel_rfl) ?_
 refine S.stB (b:=b2) λw4 S=>?_
 refine S.ceB (b:=b2) ?_ rfl
 obtain⟨S,_,ha⟩:=S.litNew b5 (sz:=5) (R:=TyC nothing) (l:=[kZ]) (by exact(kJ (c:=XN) rfl (show TyC nothing XN kZ from XL))) (by decide)
 exact h (some ⟨b5,0,none⟩) 1 (nothing.or (Go.Sh.one b5 XN 112)) _ S.ext (S.newOf (Above.no.or' ha)) (ajo (u:=kZ) (v:=amn) XL)
theorem ahm{u:UnD}{v:Value}{w:World}{r:Gh}{K:Value→World→Prop}(hr:Holds r w)(hu:UnG r v u)(h:∀(b:Bool) w',Ext w w'→K (.bool b) w'):zd Tryz.prog Tryz.XA #[v] w K:=by
 refine Tryz.afX ?_
 unfold Tryz.aaI
 obtain⟨p0,cap0,vf,rfl,_,_,hst,hsl,hfn⟩:=hu
 obtain⟨qf,capf,rfl,_,_⟩:=hfn.sl.shape
 have hfl:u.fs.length≤9223372036854775807:=hfn.few
 have hsl':u.ss.length≤9223372036854775807:=hsl
 have S:=St.start hr
 refine S.box λb1 w1 S=>?_
 have S:StX noX w r w1 [.cell b1 [.slice p0 u.ss.length cap0,.slice qf u.fs.length capf,.int .i64 u.mn] 25]:=S
 refine gg_ ?_
 refine zj (c:=decide (40<(u.fs.length:Int))) (λ_ K2 hK2=>by refine gg_ ?_;exact hK2) ?_
 refine c_b (λ_=>h _ _ S.ext) (λ_=>?_)
 refine zh (ι:=Nat) (λi=>[.int .i64 (i:Nat)]) (λi w'=>i≤u.ss.length∧StX noX w r w' _) (λi=>u.ss.length-i) 0 rfl ⟨gzl _,S⟩ ?_
 clear S
 rintro i d w2 ⟨hi,S⟩ K6 hK6
 rw[gdz]
 refine gg_ ?_
 refine zf (λhlt=>?_) (λhge=>?_)
 ·have hlt:i<u.ss.length:=by omega
  obtain⟨b,off,q,capq,rfl,hcell,_,_,_⟩:=xK hst hlt
  refine gg_ ?_
  refine zg (by rw[tnc];exact S.at hcell) ?_
  refine gg_ ?_
  refine c_b (λ_=>h _ _ S.ext) (λ_=>?_)
  refine gg_ ?_
  rw[show ((i:Int)+1)=((i+1:Nat):Int)by omega]
  exact hK6 (i+1) _ ⟨hlt,S⟩ (by omega)
 refine zh (ι:=Nat×Int) (λi=>[.int .i64 i.2,.int .i64 (i.1:Nat)]) (λi w'=>i.1≤u.fs.length∧StX noX w r w' _) (λi=>u.fs.length-i.1) (0,0) rfl ⟨gzl _,S⟩ ?_
 clear S hK6 K6 hge hi
 rintro⟨i,n⟩ d w3 ⟨hi,S⟩ K7 hK7
 simp only at hi S⊢
 simp only[gdz,gds]
 refine gg_ ?_
 refine zf (λhlt=>?_) (λhge=>h _ _ S.ext)
 have hlt:i<u.fs.length:=by omega
 obtain⟨bf,of,cf,rfl,hcf,hgc,hfo⟩:=hfn.sl.get (by decide) hlt
 generalize u.fs[i]=g at hgc
 obtain⟨vo,vt,vn,vp,rfl,h1,h2,h3,h4⟩:=id hgc
 obtain⟨qt,capt,rfl,_,hct⟩:=h2.sl.shape
 obtain⟨qp,capp,rfl,_,_⟩:=h4.sl.shape
 have S:=S.go (Ext.drew _)
 have l4:Ob r λw=>w.cell? ⟨bf,of+i*7+4,none⟩=some (.slice qt g.tys.length capt):=hfo 4 _ rfl
 have l6:Ob r λw=>w.cell? ⟨bf,of+i*7+6,none⟩=some (.slice qp g.pts.length capp):=hfo 6 _ rfl
 refine gg_ ?_
 refine zg (by rw[tnc];exact S.at l6) ?_
 refine gg_ ?_
 refine zg (by rw[tnc];exact S.at l4) ?_
 refine gp_ ?_
 refine ajH λx=>?_
 refine ajH λy=>?_
 refine gg_ ?_
 refine zg (by rw[tnc];exact S.at l6) ?_
 refine gg_ ?_
 refine zj (c:=decide (300<(g.tys.length:Int))) (λ_ K2 hK2=>?_) ?_
 ·refine gg_ ?_
  refine zg (by rw[tnc];exact S.at l4) ?_
  refine gg_ ?_
  exact hK2
 refine zj (c:=decide (1200<y)) (λ_ K2 hK2=>by refine gg_ ?_;exact hK2) ?_
 refine c_b (λ_=>h _ _ S.ext) (λ_=>?_)
 refine gg_ ?_
 rw[show ((i:Int)+1)=((i+1:Nat):Int)by omega]
 exact hK7 (i+1,y) _ ⟨hlt,S⟩ (by show u.fs.length-(i+1)<u.fs.length-i;omega)
theorem ahn{w:World}{K:Value→World→Prop}(h:∀v s w',Ext w w'→New w s w'→UnG s v ya→K v w'):zd Tryz.prog Tryz.XB #[] w K:=by
 refine Tryz.afZ ?_
 unfold Tryz.aaK
 have S:StX noX w nothing w []:=St.start (λ_ _ h=>h.elim)
 refine S.al λb0 w1 S=>?_
 refine S.lit (e:=76) (cs:=[.int .i64 (-1)]) (by kernel_rfl) λb2 w2 S=>?_
 refine zy (cs:=#[.int .i64 2,.slice (some ⟨b2,0,none⟩) 1 1]) (by kernel_rfl) ?_
 refine S.al λb1 w3 S=>?_
 refine S.stB (b:=b1) λw4 S=>?_
 have S:=S.go (Ext.drew _)
 refine zy (cs:=#[.int .i64 2,.slice none 0 0]) (by kernel_rfl) ?_
 refine zy (cs:=#[.int .i64 1,.slice none 0 0]) (by kernel_rfl) ?_
 refine zy (cs:=hl0.toArray) (by kernel_rfl) ?_
 refine zy (cs:=#[.int .i64 1,.slice none 0 0]) (by kernel_rfl) ?_
 refine S.ldB (b:=b1) ?_ rfl
 refine zy (cs:=hl3.toArray) (by kernel_rfl) ?_
 have S:=S.drop b1
 have fin:∀{w9:World}{b7 b8 b19 b21:Nat}{q6:Option Addr}{c6:Nat}{sn:Gh}{M M1 M2 M3 M4 M5:List Asr}(S:StX noX w (nothing.or sn) w9 M)
   [ZX b7 M (XN++(XN++tyL V9 q6 c6)) 112 M1] [ZX b8 M1 [.string ByteArray.empty,.string ByteArray.empty,.string ByteArray.empty] 9 M2] [ZX b2 M2 [.int .i64 (-1)] 76 M3]
   [ZX b19 M3 (hl0++(hl1++(hl2 b2++hl3))) 94 M4] [ZX b21 M4 [.string ByteArray.empty,.int .i64 0,.slice none 0 0,.int .i64 0,.slice (some ⟨b7,0,none⟩) 3 3,.slice (some ⟨b8,0,none⟩) 3 3,.slice (some ⟨b19,0,none⟩) 4 4] 74 M5],
   Above w sn→TyG sn (tyV V9 q6 c6) V9→K (.agg #[.slice none 0 0,.slice (some ⟨b21,0,none⟩) 1 1,.int .i64 0]) w9:=by
  intro w9 b7 b8 b19 b21 q6 c6 sn M M1 M2 M3 M4 M5 S _ _ _ _ _ ha ht
  obtain⟨S,h7,a7⟩:=S.litNew b7 (sz:=5) (R:=TyC sn) (l:=[kZ,kZ,V9]) (by exact(xD rfl XL (xD rfl XL (kJ rfl ht)))) (by decide)
  obtain⟨S,h8,a8⟩:=S.litNew b8 (sz:=1) (R:=akx) (l:=[ByteArray.empty,ByteArray.empty,ByteArray.empty]) (by exact(xD (c:=[.string ByteArray.empty]) rfl rfl (xD (c:=[.string ByteArray.empty]) rfl rfl (kJ rfl rfl)))) (by decide)
  obtain⟨S,h2,a2⟩:=S.litNew b2 (sz:=1) (R:=yE) (l:=[-1]) (by exact(kJ rfl ⟨rfl,by unfold JN;omega⟩)) (by decide)
  have hz:∀{r:Gh}{α:Type}{sz:Nat}{R:List Value→α→Prop},SlB sz r R (.slice none 0 0) ([]:List α):=jI
  obtain⟨S,h19,a19⟩:=S.litNew b19 (sz:=21) (R:=PtG (Go.Sh.one b2 [.int .i64 (-1)] 76)) (l:=[hp0,hp1,hp2,hp3])
   (by exact(xD rfl ⟨_,_,_,_,_,rfl,hz,hz,hz,hz,hz⟩ (xD rfl ⟨_,_,_,_,_,rfl,hz,hz,hz,hz,hz⟩ (xD rfl ⟨_,_,_,_,_,rfl,vT h2,hz,hz,hz,hz⟩ (kJ rfl ⟨_,_,_,_,_,rfl,hz,hz,hz,hz,hz⟩))))) (by decide)
  obtain⟨S,h21,a21⟩:=S.litNew b21 (sz:=7) (R:=GrG (((((nothing.or sn).or (Go.Sh.one b7 (XN++(XN++tyL V9 q6 c6)) 112)).or (Go.Sh.one b8 [.string ByteArray.empty,.string ByteArray.empty,.string ByteArray.empty] 9)).or (Go.Sh.one b2 [.int .i64 (-1)] 76)).or (Go.Sh.one b19 (hl0++(hl1++(hl2 b2++hl3))) 94))) (l:=[zU])
   (by exact(kJ rfl ⟨_,_,_,_,rfl,hz,vT (h7.up' inferInstance λc x hx=>TyG.up hx),vT h8.cells,vT (h19.up' inferInstance λc x hx=>PtG.up hx)⟩)) (by decide)
  exact h _ _ _ S.ext (S.newOf (((((Above.no.or' ha).or' a7).or' a8).or' a2).or' a19 |>.or' a21)) ⟨none,0,_,rfl,λ_=>rfl,gzl _,trivial,gzl _,vT (h21.up' inferInstance λc x hx=>GrG.up hx)⟩
 repeat' (first
  |(with_reducible refine abR λw9 e9=>⟨e9,?_⟩;have S:=S.go e9)
  |(with_reducible refine ahP λw9 e9=>⟨e9,?_⟩;have S:=S.go e9)
  |(with_reducible refine ahQ λq6 c6 sn w9 e9 n9 t9=>⟨e9,?_⟩;obtain⟨S,d9,a9⟩:=S.tell e9 n9)
  |(with_reducible refine S.litU (t:=70) (e:=112) (cs:=XN++(XN++tyL V9 q6 c6)) (by kernel_rfl) λb7 w9 S=>?_)
  |(with_reducible refine S.mkSU (by decide) (by decide) λb8 w9 S=>?_)
  |(with_reducible refine zy (t:=94) (parts:=#[(0,.int .u8 1),(1,.agg #[.int .i64 1,.slice none 0 0]),(2,amo 2),(10,.int .i64 2)]) (cs:=hl1.toArray) (by kernel_rfl) ?_)
  |(with_reducible refine zy (t:=94) (cs:=(hl2 b2).toArray) (by kernel_rfl) ?_)
  |(with_reducible refine S.lit (t:=72) (e:=94) (cs:=hl0++(hl1++(hl2 b2++hl3))) (by kernel_rfl) λb19 w9 S=>?_)
  |(with_reducible refine zy (t:=74) (cs:=#[.string ByteArray.empty,.int .i64 0,.slice none 0 0,.int .i64 0,.slice (some ⟨b7,0,none⟩) 3 3,.slice (some ⟨b8,0,none⟩) 3 3,.slice (some ⟨b19,0,none⟩) 4 4]) (by kernel_rfl) ?_)
  |(with_reducible refine S.lit (t:=23) (e:=74) (cs:=[.string ByteArray.empty,.int .i64 0,.slice none 0 0,.int .i64 0,.slice (some ⟨b7,0,none⟩) 3 3,.slice (some ⟨b8,0,none⟩) 3 3,.slice (some ⟨b19,0,none⟩) 4 4]) (by kernel_rfl) λb21 w9 S=>?_)
  |(with_reducible refine zy (t:=25) (cs:=#[.slice none 0 0,.slice (some ⟨b21,0,none⟩) 1 1,.int .i64 0]) (by kernel_rfl) ?_)
  |(with_reducible refine And.intro ?_ ?_)
  |(refine S.stB (b:=b0) λw9 S=>?_;refine S.ceB (b:=b0) ?_ rfl;exact fin (b7:=b7) (b8:=b8) (b19:=b19) (b21:=b21) S a9 t9)
)
theorem adM:FnM ya 0 zU:=fnM (agK (q:=3) (by decide)) rfl
theorem adN:heldW ya.ss zU.tys ⟨2,[-1]⟩=plD 2:=by
 have hw:zH ya.ss [-1] zU.tys[(2:Nat)]=some (kZ,[2]):=by kernel_rfl
 have :zL ya.ss zU.tys ⟨2,[-1]⟩=some (kZ,[2]):=by
  rw[Z3 (p:=⟨2,[-1]⟩) adM.may.ok adM.fine (by decide) (by decide)]
  exact hw
 unfold heldW
 rw[this];rfl
theorem aj3{n:Int}:heldW ya.ss zU.tys (plD n)=plD n:=YA rfl
abbrev P3:List PlD:=[plD 0,plD 1,plD 2]
theorem kB:zq ya zU=P3:=by
 have e:locsL zU.tys.length++zU.pts.flatMap zK=[plD 0,plD 1,plD 2,plD 1,plD 2,plD 1,⟨2,[-1]⟩]:=by kernel_rfl
 rw[zq,e,addL]
 simp only[List.flatMap_cons,List.flatMap_nil,aj3,adN]
 rfl
theorem aaL{q:Int}(h:q<4):ofE ya 0 q=0:=by
 rw[ofE,agK h,if_neg (by decide)]
 show(if 256<(zq ya zU).length then(5:Int)else 0)=0
 rw[kB];decide
theorem adO{q:Int}(h0:0≤q)(h:q<4):mvE ya 0 q=0:=by rw[mvE,if_neg (by omega),aaL h]
theorem amH:wholeP ya zU (plD 1)=true:=by rw[wholeP,aj3];simp
theorem amI:wholeP ya zU ⟨2,[-1]⟩=false:=by rw[wholeP,adN];rfl
theorem amJ:risI 3 (yh ya zU P3 hp1).1=[]:=by
 rw[vX (g:=zB) λi hi=>by
  rw[aew.1,show Xf hp1=[]from by kernel_rfl,List.any_nil,Bool.and_false];rfl]
 rfl
theorem aho{i:Nat}:(yh ya zU P3 hp1).2 i=prefP (plD 1) (pthAt P3 i):=by
 rw[aew.2,Qx,show hp1.to=plD 1 from rfl,amH];rfl
theorem amK:risI 3 (yh ya zU P3 hp1).2=[1]:=by
 rw[vX λi _=>aho];kernel_rfl
theorem ahp:adJ hp2=[(⟨2,[-1]⟩,true,false)]:=by kernel_rfl
theorem amL:risI 3 (yq ya zU P3 hp2).all=[2]:=by
 rw[vX (g:=λi=>prefP (pthAt P3 i) (plD 2)) λi _=>by
  rw[akY,ahp,List.any_cons,List.any_nil,Bool.or_false]
  show useF ya zU P3 ⟨2,[-1]⟩ true i=_
  rw[useF,amI,adN];simp]
 kernel_rfl
theorem amM:risI 3 (yq ya zU P3 hp2).again=[]:=by
 rw[vX (g:=zB) λi _=>by
  rw[yq,ahp]
  show(zB i||(useF ya zU P3 ⟨2,[-1]⟩ true i&&zB i))=_
  simp[zB]]
 rfl
theorem anh:risI 3 (ahe ya zU P3 hp1 (qH [0,1]))=[0]:=by
 rw[vX (g:=λi=>qH [0,1] i && !prefP (plD 1) (pthAt P3 i)) λi _=>by
  rw[ahe,aho,aew.1,show Xf hp1=[]from by kernel_rfl,List.any_nil,Bool.and_false,Bool.or_false]]
 kernel_rfl
theorem ak1:adL ya zU ⟨2,[-1]⟩=some 2:=by
 have hw:zH ya.ss [-1] zU.tys[(2:Nat)]=some (kZ,[2]):=by kernel_rfl
 have :zL ya.ss zU.tys ⟨2,[-1]⟩=some (kZ,[2]):=by
  rw[Z3 (p:=⟨2,[-1]⟩) adM.may.ok adM.fine (by decide) (by decide)]
  exact hw
 have ha:ZD P3:=by rw[← kB];exact aey
 rw[adL,this,if_pos (show(some (kZ,[(2:Int)])).isSome=true from rfl),adN,kB]
 exact aff (i:=2) ha (by decide) rfl
theorem qO{w:World}{r:Gh}{K:Value→World→Prop}(hr:Holds r w)(h:∀w',Ext w w'→K (.bool true) w'):zd Tryz.prog Tryz.xO #[] w K:=by
 refine Tryz.aez ?_
 unfold Tryz.Vz
 have S:=St.start hr
 refine ahn λv2 s2 w2 e2 n2 hu=>?_
 obtain⟨S,_,_⟩:=S.tell e2 n2
 refine S.al λb1 w3 S=>?_
 obtain⟨p0,cap0,vf,rfl,_,_,_,_,hfn⟩:=id hu
 obtain⟨qf,capf,rfl,_,_⟩:=hfn.sl.shape
 refine S.stB (b:=b1) λw4 S=>?_
 have S:StX noX w (r.or s2) w4 [.cell b1 [.slice p0 0 cap0,.slice qf 1 capf,.int .i64 0] 25]:=S
 have hu:UnG (r.or s2) (.agg #[.slice p0 0 cap0,.slice qf 1 capf,.int .i64 0]) ya:=UnG.up hu
 generalize r.or s2=ρ at S hu
 have hF:∀g,FnM ya 0 g→g=zU:=λg F=>Option.some.inj (F.at'.symm.trans rfl)
 refine S.ldB (b:=b1) ?_ rfl
 refine ahh S.holds hu (λe _ he hh=>absurd (hh.symm.trans (aaL (by decide))) he) λg v3 s3 w3' _ F _ e3 n3 h3=>?_
 obtain rfl:=hF g F
 rw[kB]at h3
 obtain⟨q3,c3,rfl,_,_⟩:=h3.shape
 obtain⟨S,_,_⟩:=S.tell e3 n3
 refine gp_ ?_
 refine gp_ ?_
 refine S.ldB (b:=b1) ?_ rfl
 refine S.lit (e:=76) (cs:=[.int .i64 (-1)]) (by kernel_rfl) λb2 w5 S=>?_
 obtain⟨S,h2,_⟩:=StX.litNew S b2 (sz:=1) (R:=yE) (l:=[-1]) (by exact(kJ rfl ⟨rfl,by unfold JN;omega⟩)) (by decide)
 refine zy (cs:=#[.int .i64 2,.slice (some ⟨b2,0,none⟩) 1 1]) (by kernel_rfl) ?_
 have hpl:PlG ((ρ.or s3).or (Go.Sh.one b2 [.int .i64 (-1)] 76)) [.int .i64 2,.slice (some ⟨b2,0,none⟩) 1 1] ⟨2,[-1]⟩:=PlG.up (r:=Go.Sh.one b2 [.int .i64 (-1)] 76) ⟨_,rfl,(vT h2 (by decide):SlB 1 (Go.Sh.one b2 [.int .i64 (-1)] 76) yE (.slice (some ⟨b2,0,none⟩) 1 1) [-1])⟩
 have hu:UnG ((ρ.or s3).or (Go.Sh.one b2 [.int .i64 (-1)] 76)) (.agg #[.slice p0 0 cap0,.slice qf 1 capf,.int .i64 0]) ya:=UnG.up hu
 generalize (ρ.or s3).or (Go.Sh.one b2 [.int .i64 (-1)] 76)=κ at S hpl hu
 refine ahO S.holds hu hpl (by decide) (λe _ he hh=>absurd (hh.symm.trans (aaL (by decide))) he) λg w6 _ F _ e6=>?_
 obtain rfl:=hF g F
 have S:=S.go e6
 rw[ak1]
 refine gp_ ?_
 refine gp_ ?_
 refine S.ldB (b:=b1) ?_ rfl
 refine ahf S.holds hu (λe _ he hh=>hh.elim (λhh=>absurd (hh.symm.trans (aaL (by decide))) he) λhh=>by
  have:=hh.2 zU adM
  rw[kB]at this
  have h3:P3.length=3:=rfl
  rw[h3]at this
  omega) λg v7 s7 w7 _ F _ _ e7 n7 h7=>?_
 obtain rfl:=hF g F
 rw[kB,show risI P3.length (xB P3 (pthAt P3 (1:Int).toNat) true zB)=[1]from by kernel_rfl]at h7
 obtain⟨q7,c7,rfl,_,_⟩:=h7.shape
 obtain⟨S,_,_⟩:=S.tell e7 n7
 refine gp_ ?_
 refine gp_ ?_
 refine S.ldB (b:=b1) ?_ rfl
 refine ahg S.holds (UnG.up hu) (λe _ he hh=>absurd (hh.symm.trans (aaL (by decide))) he) λg v8 s8 w8 _ F e8 n8 h8=>?_
 obtain rfl:=hF g F
 rw[kB,show risI P3.length (stF P3 (stM zU zU.tys.length))=[0,1,2]from by kernel_rfl]at h8
 obtain⟨q8,c8,rfl,_,_⟩:=h8.shape
 obtain⟨S,_,_⟩:=S.tell e8 n8
 refine gp_ ?_
 refine gp_ ?_
 refine S.ldB (b:=b1) ?_ rfl
 refine abN S.holds (UnG.up (UnG.up (s:=κ.or s7) hu)) (λe _ he hh=>absurd (hh.symm.trans (adO (by decide) (by decide))) he) λg v9 v10 s9 w9 _ F _ hq _ e9 n9 h9 h10=>?_
 obtain rfl:=hF g F
 have e1:zU.pts[(1:Int).toNat]=hp1:=rfl
 rw[kB,e1]at h9 h10
 rw[show P3.length=3 from rfl]at h9 h10
 rw[amJ]at h9
 rw[amK]at h10
 obtain⟨q9,c9,rfl,_,_⟩:=h9.shape
 obtain⟨q10,c10,rfl,_,_⟩:=h10.shape
 obtain⟨S,_,_⟩:=S.tell e9 n9
 refine gp_ ?_
 refine gp_ ?_
 refine gp_ ?_
 refine S.ldB (b:=b1) ?_ rfl
 have hu:UnG (((κ.or s7).or s8).or s9) (.agg #[.slice p0 0 cap0,.slice qf 1 capf,.int .i64 0]) ya:=UnG.up (UnG.up (s:=(κ.or s7).or s8) (UnG.up (s:=κ.or s7) hu))
 refine QX S.holds hu (λe _ he hh=>absurd (hh.symm.trans (adO (by decide) (by decide))) he) λg v11 s11 w11 _ F _ hq _ e11 n11 h11=>?_
 obtain rfl:=hF g F
 have e2:zU.pts[(2:Int).toNat]=hp2:=rfl
 rw[kB,e2]at h11
 rw[show P3.length=3 from rfl,amL]at h11
 obtain⟨q11,c11,rfl,_,_⟩:=h11.shape
 obtain⟨S,_,_⟩:=S.tell e11 n11
 refine gp_ ?_
 refine gp_ ?_
 refine S.ldB (b:=b1) ?_ rfl
 refine XY S.holds (UnG.up hu) (λe _ he hh=>absurd (hh.symm.trans (adO (by decide) (by decide))) he) λg w12 _ F _ hq _ e12=>?_
 obtain rfl:=hF g F
 rw[kB,e2,show P3.length=3 from rfl,kq,amM]
 have S:=S.go e12
 refine gp_ ?_
 refine gp_ ?_
 refine gp_ ?_
 refine S.ldB (b:=b1) ?_ rfl
 refine S.lit (e:=3) (cs:=[.int .i64 0,.int .i64 1]) (by kernel_rfl) λb13 w13 S=>?_
 obtain⟨S,h13,_⟩:=StX.litNew S b13 (sz:=1) (R:=zQ) (l:=[0,1]) (by exact QS (l:=[0,1])) (by decide)
 refine YU S.holds (UnG.up (UnG.up (s:=(((κ.or s7).or s8).or s9).or s11) hu)) (h13.up' inferInstance λ_ _ h=>h) (by decide) (λe _ he hh=>absurd (hh.symm.trans (adO (by decide) (by decide))) he) (λg w' _ F hbad=>?_) λg v14 s14 w14 _ F _ hq _ _ e14 n14 h14=>?_
 ·obtain rfl:=hF g F
  rw[kB]at hbad
  exact absurd ⟨by decide,by decide⟩ hbad
 obtain rfl:=hF g F
 rw[kB,e1]at h14
 rw[show P3.length=3 from rfl,anh]at h14
 obtain⟨q14,c14,rfl,_,_⟩:=h14.shape
 obtain⟨S,_,_⟩:=S.tell e14 n14
 refine gp_ ?_
 refine gp_ ?_
 refine gp_ ?_
 iterate 11 refine zi (c:=true) (λ_ K2 hK2=>by refine gg_ ?_;exact hK2) ?_
 refine zi (c:=true) (λ_ K2 hK2=>?_) ?_
 ·obtain⟨bo,oo,hE,_,hc⟩:=xz h11 (i:=0) (by decide)
  cases hE
  refine s_c (by decide) ?_
  refine zg (S.at hc) ?_
  refine gg_ ?_
  exact hK2
 iterate 4 refine zi (c:=true) (λ_ K2 hK2=>by refine gg_ ?_;exact hK2) ?_
 refine zi (c:=true) (λ_ K2 hK2=>?_) ?_
 ·obtain⟨bo,oo,hE,_,hc⟩:=xz h14 (i:=0) (by decide)
  cases hE
  refine s_c (by decide) ?_
  refine zg (S.at hc) ?_
  refine gg_ ?_
  exact hK2
 refine zi (c:=true) (λ_ K2 hK2=>by refine gg_ ?_;exact hK2) ?_
 exact h _ S.ext
section
variable {u:UnD} {fn q:Int} {g:GrD}
theorem ak2{p:PlD}:p∈pfxs p:=List.mem_map.2 ⟨p.ps.length,List.mem_range.2 (Nat.lt_succ_self _),by rw[QT,List.take_length]⟩
theorem alL{x:PlD}:x∈zq u g↔∃y∈locsL g.tys.length++g.pts.flatMap zK,x∈pfxs (heldW u.ss g.tys y):=by
 rw[zq,ah9,addL,List.mem_flatMap]
theorem amN(h:mvE u fn q=0):isU u fn q=true∧ofE u fn q=0:=by
 rw[mvE]at h
 split at h
 ·cases h
 ·refine⟨?_,h⟩
  cases hb:isU u fn q with
  |true=>rfl
  |false=>rw [ofE,hb,if_pos rfl]at h;cases h
end
noncomputable instance {n:Nat} {l:List Int}:Decidable (OkBh n l):=Classical.propDecidable _
noncomputable def bhE(n:Nat)(l:List Int):Int:=if OkBh n l then 0 else 2
noncomputable def bhL(u:UnD)(g:GrD)(p:PtD)(l:List Int):List Int:=if OkBh (zq u g).length l then risI (zq u g).length (ahe u g (zq u g) p (qH l))else []
theorem aj4{u:UnD}{fn q:Int}{g:GrD}{p:PtD}{v vl:Value}{l:List Int}{w:World}{r:Gh}{K:Value→World→Prop}(hr:Holds r w)(hu:UnG r v u)(hl:SlG 1 r zQ vl l)(hlf:l.length≤1000000)(hof:mvE u fn q=0)(F:FnM u fn g)(hq:q.toNat<g.pts.length)(hpe:g.pts[q.toNat]=p)
  (h:∀v1 s w',Ext w w'→New w s w'→SlG 1 s zQ v1 (bhL u g p l)→K (.tuple #[v1,.int .i64 (bhE (zq u g).length l)]) w'):zd Tryz.prog Tryz.qJ #[v,.int .i64 fn,.int .i64 q,vl] w K:=by
 have hFg:∀g',FnM u fn g'→g=g':=λg' F'=>Option.some.inj (F.at'.symm.trans F'.at')
 refine YU hr hu hl hlf (λe _ he hh=>absurd (hh.symm.trans hof) he) (λg' w' _ F' hn e=>?_) λg' v1 s w' _ F' _ hq' _ hok e n h1=>?_
 ·obtain rfl:=hFg g' F'
  have:=h (.slice none 0 0) nothing w' e New.nothing (by rw[bhL,if_neg hn];exact jI.sl)
  rw[bhE,if_neg hn]at this
  exact this
 ·obtain rfl:=hFg g' F'
  have:=h v1 s w' e n (by rw[bhL,if_pos hok,← hpe];exact h1)
  rw[bhE,if_pos hok]at this
  exact this
theorem alN{u:UnD}{g:GrD}{p:PtD}{l:List Int}:(bhL u g p l).length≤(zq u g).length:=by
 unfold bhL
 split
 ·exact aid
 ·exact gzl _
end
end Go.Proofs
namespace Go.Proofs
open Go.Sh
theorem af0{u:UnD}{n:Int}{p:PlD}{c:List Value}{v:Value}{w:World}{r:Gh}{K:Value→World→Prop}(hr:Holds r w)(hu:UnG r v u)(hM:MayU u)(hn0:0≤n)(hlt:n.toNat<u.fs.length)(hp:PlG r c p)
  (hN:∀w',(zm u.ss u.fs[n.toNat].tys p).2.2=false→Ext w w'→K (.tuple #[af6,.slice none 0 0,.bool false]) w')
  (hS:∀t m v' vg s w',zm u.ss u.fs[n.toNat].tys p=(t,m,true)→Ext w w'→New w s w'→TyG (r.or s) v' t→(∃how,SlG 1 s zQ vg how∧zH u.ss p.ps (u.fs[n.toNat].tys.getD p.l.toNat yc)=some (t,how))→K (.tuple #[v',vg,.bool true]) w'):zd Tryz.prog Tryz.YJ #[v,.int .i64 n,.agg c.toArray] w K:=by
 refine Tryz.aeh ?_
 unfold Tryz.Vo
 have hu0:=hu
 obtain⟨p0,cap0,vf,rfl,_,_,hst,hsl,hfn⟩:=hu
 obtain⟨qf,capf,rfl,_,_⟩:=hfn.sl.shape
 obtain⟨bf,of,cf,rfl,hcf,hgc,hfo⟩:=hfn.sl.get (by decide) hlt
 have hff:=(hM.hd hlt).fine hM.ok
 generalize u.fs[n.toNat]=g at hN hS hgc hff
 obtain⟨x1,x2,x3,x4,y1,y2,y3,y4,rfl,hg0⟩:=Xi hgc
 have hp0:=hp
 obtain⟨vp,rfl,hvp⟩:=hp
 obtain⟨qs,caps,rfl,_,_⟩:=hvp.sl.shape
 have S:=St.start hr
 refine S.box λb3 w1 S=>?_
 have S:StX noX w r w1 [.cell b3 [.slice p0 u.ss.length cap0,.slice (some ⟨bf,of,none⟩) u.fs.length capf,.int .i64 u.mn] 25]:=S
 refine S.box λb5 w2 S=>?_
 refine S.al λb6 w3 S=>?_
 have S:=S.go (Ext.drew _)
 refine S.ldB (b:=b3) ?_ rfl
 refine gg_ ?_
 refine zp (n:=7) hcf (λj v hj=>S.at (hfo j v hj)) ?_
 refine zy (cs:=(asL u g p0 cap0 (some ⟨bf,of,none⟩) capf x1 y1 x2 y2 x3 y3 x4 y4).toArray) (by kernel_rfl) ?_
 refine S.box λb17 w4 S=>?_
 have S:StX noX w r w4 [.cell b17 (asL u g p0 cap0 (some ⟨bf,of,none⟩) capf x1 y1 x2 y2 x3 y3 x4 y4) 149,.cell b6 aaY 112,.cell b5 [.int .i64 p.l,.slice qs p.ps.length caps] 59,.cell b3 [.slice p0 u.ss.length cap0,.slice (some ⟨bf,of,none⟩) u.fs.length capf,.int .i64 u.mn] 25]:=S
 refine S.ldB (b:=b5) ?_ rfl
 have hm:=S.mine (.cell b17 (asL u g p0 cap0 (some ⟨bf,of,none⟩) capf x1 y1 x2 y2 x3 y3 x4 y4) 149) (by simp) b17 rfl
 have S:=S.frzAt b17
 have hA:AsP (r.or (Go.Sh.one b17 (asL u g p0 cap0 (some ⟨bf,of,none⟩) capf x1 y1 x2 y2 x3 y3 x4 y4) 149)) b17 u g:=⟨_,_,_,_,_,_,_,_,_,_,_,_,yH.up,hu0.up,hg0.up⟩
 refine Zz S.holds hA hM.ok hff hp0.up (λw5 hno e5=>?_) λt how q cap vg s w5 hsp e5 n5 ht hvg _ hw=>?_
 ·have S:=S.go e5
  refine gS_ ?_
  refine S.stB (b:=b6) λw6 S=>?_
  refine S.ceB (b:=b6) ?_ rfl
  exact hN _ hno S.ext
 ·obtain⟨S,_,a5⟩:=S.tell e5 n5
  obtain⟨_,_,rfl,_,_⟩:=hvg.shape
  refine gS_ ?_
  refine S.stB (b:=b6) λw6 S=>?_
  refine S.ceB (b:=b6) ?_ rfl
  have S:=S.less (q:=r.or ((Go.Sh.one b17 (asL u g p0 cap0 (some ⟨bf,of,none⟩) capf x1 y1 x2 y2 x3 y3 x4 y4) 149).or s)) (λb o h=>Or.elim h (λh=>.inl (.inl h)) λh=>Or.elim h (λh=>.inl (.inr h)) .inr) (List.Sublist.refl _)
  refine hS t _ _ _ _ _ hsp S.ext (S.newOf (Above.or' ?_ a5)) (TyG.up (l:=⟨λb o h=>Or.elim h .inl λh=>.inr (.inl h)⟩) ht) ⟨how,hvg.cells,hw.2⟩
  rintro b o ⟨rfl,_⟩
  exact hm.1.resolve_right id
end Go.Proofs
namespace Go.Proofs
open Go.Sh Go.RowKit
section
def OkS(u:UnD)(g:GrD)(p:PlD):Prop:=(zL u.ss g.tys p).isSome=true
theorem OkS.ok{u:UnD}{g:GrD}{p:PlD}(h:OkS u g p):OkP u g p:=.inr h
theorem alO{u:UnD}{fn:Int}{g:GrD}(F:FnM u fn g){i:Nat}(h:i<g.tys.length):OkS u g ⟨(i:Int),[]⟩:=by
 rw[OkS,Z3 (p:=⟨(i:Int),[]⟩) F.may.ok F.fine (by show(0:Int)≤(i:Int);omega) (by show((i:Nat):Int).toNat<_;omega)]
 rfl
theorem ak3{u:UnD}{g:GrD}{p:PlD}{x:TyD×List Int}(h:zL u.ss g.tys p=some x):heldW u.ss g.tys p=QT p (holdN x.2):=by rw[heldW,h]
theorem aii{ρ:Gh}{q1:Option Addr}{c1 n:Nat}{ps:List Int}(h:SlB 1 ρ yE (.slice q1 ps.length c1) ps)(hn:n≤ps.length):SlB 1 ρ yE (.slice q1 n c1) (ps.take n):=by
 obtain⟨⟨p',cap',hE,h2,h3,h4⟩,h5⟩:=h
 cases hE
 have hl:(ps.take n).length=n:=by rw[List.length_take];omega
 refine⟨⟨q1,c1,by rw[hl],h2,by omega,λi hi=>?_⟩,by omega⟩
 obtain⟨c,k1,k2,k3⟩:=h4 i (by omega)
 exact⟨c,k1,k2,by rw[List.getElem_take];exact k3⟩
section
variable {u:UnD} {fn:Int} {g:GrD} {p:PlD} {c:List Value} {v:Value} {w:World} {r:Gh} {K:Value→World→Prop}
theorem ZE(hr:Holds r w)(hu:UnG r v u)(F:FnM u fn g)(hp:PlG r c p)(hok:OkS u g p)
  (h:∀v1 s w',Ext w w'→New w s w'→SlB 1 s yE v1 (heldW u.ss g.tys p).ps→K (.tuple #[.agg #[.int .i64 p.l,v1],.bool (wholeP u g p)]) w'):
  zd Tryz.prog Tryz.kj #[v,.int .i64 fn,.agg c.toArray] w K:=by
 refine Tryz.afR ?_
 unfold Tryz.aax
 have hu0:=hu
 obtain⟨p0,cap0,vf,rfl,_,_,hst,hsl,hfn⟩:=hu
 obtain⟨qf,capf,rfl,_,_⟩:=hfn.sl.shape
 have hp0:=hp
 obtain⟨vv,rfl,hl⟩:=hp
 obtain⟨qs,caps,rfl,hnil,hcap⟩:=hl.sl.shape
 obtain⟨hltf,hge⟩:=List.getElem?_eq_some_iff.1 F.at'
 have S:=St.start hr
 refine S.box λb3 w1 S=>?_
 refine S.box λb5 w2 S=>?_
 refine S.al λb6 w3 S=>?_
 have S:StX noX w r w3 [.cell b6 [.int .i64 0,.slice none 0 0] 59,.cell b5 [.int .i64 p.l,.slice qs p.ps.length caps] 59,.cell b3 [.slice p0 u.ss.length cap0,.slice qf u.fs.length capf,.int .i64 u.mn] 25]:=S
 refine S.ldB (b:=b3) ?_ rfl
 refine S.ldB (b:=b5) ?_ rfl
 have h8:=hok.ok.few
 obtain⟨x,hx⟩:=Option.isSome_iff_exists.1 hok
 obtain⟨hl0,hlt⟩:=J6 hok
 have hxl:=aaD hx
 have hwalk:zH u.ss p.ps g.tys[p.l.toNat]=some x:=by
  rw[Z3 F.may.ok F.fine hl0 hlt,if_pos h8]at hx;exact hx
 refine af0 S.holds hu0 F.may F.fn0 hltf hp0 (λw' hno _=>?_) λt m v' vg s4 w4 hsp e4 n4 hty ⟨how,hg,hw⟩=>?_
 ·rw[hge]at hno
  rw[xj F.may.ok F.fine,hok]at hno;cases hno
 rw[hge,ggd,gqg hlt,Option.getD_some,hwalk,Option.some.injEq]at hw
 subst hw
 simp only at hxl
 have hhc:=ak3 hx
 have hwh:wholeP u g p=decide (holdN how=how.length):=by
  rw[wholeP,hhc,decide_eq_decide]
  show(p.ps.take (holdN how)).length=_↔_
  have:=XX (l:=how)
  rw[List.length_take];omega
 rw[hhc,hwh]at h
 have hholdle:=XX (l:=how)
 obtain⟨S,_,a4⟩:=S.tell e4 n4
 have hg:SlG 1 (r.or s4) zQ vg how:=hg.up' inferInstance λ_ _ h=>h
 obtain⟨qg,cg,rfl,_,_⟩:=hg.shape
 refine gp_ ?_
 refine gp_ ?_
 refine gp_ ?_
 refine S.al λb8 w5 S=>?_
 obtain⟨qt,ct,rfl,_⟩:=id hty
 refine S.stB (b:=b8) λw6 S=>?_
 have S:=S.drop b8
 refine zh (ι:=Nat) (λi=>[.int .i64 (i:Nat)]) (λi w'=>i≤how.length∧(∀z∈how.take i,z<2)∧StX noX w (r.or s4) w' [.cell b6 [.int .i64 0,.slice none 0 0] 59,.cell b5 [.int .i64 p.l,.slice qs p.ps.length caps] 59,.cell b3 [.slice p0 u.ss.length cap0,.slice qf u.fs.length capf,.int .i64 u.mn] 25]) (λi=>how.length-i) 0 rfl ⟨gzl _,by simp,S⟩ ?_
 clear S
 rintro i d7 w7 ⟨hi,hno,S⟩ K7 hK7
 rw[gdz]
 have hil:i≤p.ps.length:=by omega
 by_cases hgo:i<how.length∧how.getD i 0<2
 ·obtain⟨hlt2,hg2⟩:=hgo
  rw[ggd,gqg hlt2,Option.getD_some]at hg2
  obtain⟨bo,oo,hE,_,hc⟩:=xz hg hlt2
  cases hE
  refine gp_ ?_
  refine gp_ ?_
  rw[gde (show((i:Nat):Int)<((how.length:Nat):Int)by omega)]
  intro K9 hK9
  refine gd_ ?_
  refine zg (v:=.int .i64 how[i]) (S.at hc) ?_
  refine gp_ ?_
  rw[gde hg2]
  refine hK9 _ _ λ_=>?_
  clear hK9 K9
  refine gd_ ?_
  refine c_t rfl ?_
  refine gp_ ?_
  rw[show ((i:Int)+1)=((i+1:Nat):Int)by omega]
  refine hK7 (i+1) _ ⟨hlt2,λz hz=>?_,S⟩ (by omega)
  rw[List.take_succ_eq_append_getElem hlt2,List.mem_append,List.mem_singleton]at hz
  exact hz.elim (hno z) λe=>e▸hg2
 have hend:holdN how=i∧(i<how.length→¬how.getD i 0<2):=by
  refine⟨?_,λh1 h2=>hgo ⟨h1,h2⟩⟩
  by_cases hlt2:i<how.length
  ·have hg2:¬how.getD i 0<2:=λh=>hgo ⟨hlt2,h⟩
   rw[ggd,gqg hlt2,Option.getD_some]at hg2
   exact ag6 hlt2 hno (by omega)
  ·obtain rfl:i=how.length:=by omega
   rw[List.take_length]at hno
   exact ae8 hno
 obtain⟨hend,hstop⟩:=hend
 clear hK7 hgo
 refine gp_ ?_
 refine gp_ ?_
 refine zn (λy w'=>(if i<how.length then y=[.bool false]else y=[u_])∧w'=w7) (λK11 hK11=>?_) ?_
 ·by_cases hlt2:i<how.length
  ·obtain⟨bo,oo,hE,_,hc⟩:=xz hg hlt2
   cases hE
   rw[gde (show((i:Nat):Int)<((how.length:Nat):Int)by omega)]
   refine gd_ ?_
   refine zg (v:=.int .i64 how[i]) (S.at hc) ?_
   refine gp_ ?_
   have hg2:=hstop hlt2
   rw[ggd,gqg hlt2,Option.getD_some]at hg2
   rw[decide_eq_false hg2]
   exact hK11 _ _ ⟨by rw[if_pos hlt2],rfl⟩
  ·rw[decide_eq_false (show¬((i:Nat):Int)<((how.length:Nat):Int)by omega)]
   refine gd_ ?_
   exact hK11 _ _ ⟨by rw[if_neg hlt2],rfl⟩
 rintro y w8 ⟨hy,rfl⟩ d8
 have hpick:∀Kk:Value→Prop,Kk (.bool false)→zb (.bool (decide ((i:Int)<(how.length:Int)))) (y.getD 0 u_) (.bool false) Kk:=λKk hk=>by
  by_cases hlt2:i<how.length
  ·rw[if_pos hlt2]at hy
   subst hy
   rw[gde (show((i:Nat):Int)<((how.length:Nat):Int)by omega)]
   refine gd_ ?_
   exact hk
  ·rw[decide_eq_false (show¬((i:Nat):Int)<((how.length:Nat):Int)by omega)]
   refine gd_ ?_
   exact hk
 refine hpick _ ?_
 refine c_f rfl ?_
 clear hpick hy
 refine gg_ ?_
 refine S.al λb12 w9 S=>?_
 refine S.stB (b:=b12) λw10 S=>?_
 have S:StX noX w (r.or s4) w10 (.cell b12 [.int .i64 p.l,.slice none 0 0] 59::[.cell b6 [.int .i64 0,.slice none 0 0] 59,.cell b5 [.int .i64 p.l,.slice qs p.ps.length caps] 59,.cell b3 [.slice p0 u.ss.length cap0,.slice qf u.fs.length capf,.int .i64 u.mn] 25]):=S
 have S:=S.go (Ext.drew _)
 refine gg_ ?_
 rw[tnc]
 have hps:(p.ps.take i).length=i:=by rw[List.length_take];omega
 have hs0:=aii hl (n:=i) (by omega)
 have S:=S.ownNil 76 1
 have hs1:SlG 1 r yE (.slice qs (p.ps.take i).length caps) (p.ps.take i):=by rw[hps];exact hs0.sl
 obtain⟨xs,hxr,hxs⟩:=vU (by decide) hs1
 refine S.ap (v:=.slice none 0 0) (S.at hxs) (λv' w11 S=>?_) (by omega) (by rw[hxr.1,hps]) hnil (xU hxr (by decide) λc x hx=>by rw[hx.1];simp[Value.oneCell'])
 rw[Nat.zero_add,List.nil_append]at S
 obtain⟨s5,T,h5,_,a5⟩:=S.doneRow (l:=p.ps.take i) hxr (by decide) hps.symm
 obtain⟨q5,c5,rfl,_,_⟩:=h5.shape
 repeat clear S
 have S:=T
 clear T
 refine gp_ ?_
 refine S.st (b:=b12) (λw12 S=>?_) (by simp)
 have S:StX noX w ((r.or s4).or s5) w12 (.cell b12 [.int .i64 p.l,.slice q5 (p.ps.take i).length c5] 59::[.cell b6 [.int .i64 0,.slice none 0 0] 59,.cell b5 [.int .i64 p.l,.slice qs p.ps.length caps] 59,.cell b3 [.slice p0 u.ss.length cap0,.slice qf u.fs.length capf,.int .i64 u.mn] 25]):=S
 refine S.ldB (b:=b12) ?_ rfl
 refine gp_ ?_
 refine gp_ ?_
 refine S.stB (b:=b6) λw13 S=>?_
 refine S.ceB (b:=b6) ?_ rfl
 have S:=S.reGh
 rw[hend]at h
 have:=h (.slice q5 (p.ps.take i).length c5) (s4.or s5) _ S.ext (S.newOf (a4.or' λb o ho=>(a5 b o ho).resolve_right id)) (vT (h5.up' inferInstance λ_ _ h=>h) (by show(p.ps.take i).length≤_;omega))
 rw[show decide (i=how.length)=decide (((i:Nat):Int)=((how.length:Nat):Int))by rw[decide_eq_decide];omega]at this
 exact this
end
def mkB(n:Nat)(f:Nat→Bool):List Value:=(List.range n).map λi=>Value.bool (f i)
theorem Z9{n:Nat}{f:Nat→Bool}:(mkB n f).length=n:=by simp[mkB]
theorem aeA{n i:Nat}{f:Nat→Bool}(hi:i<n):(mkB n f)[i]? = some (.bool (f i)):=by
 rw[mkB,List.getElem?_map,List.getElem?_range hi];rfl
theorem zD{n:Nat}{f g:Nat→Bool}(h:∀i,i<n→f i=g i):mkB n f=mkB n g:=
 List.map_congr_left λi hi=>by rw[h i (List.mem_range.1 hi)]
theorem Ya{n i:Nat}{f:Nat→Bool}{b:Bool}:(mkB n f).set i (.bool b)=mkB n (xm f i b):=by
 refine List.ext_getElem (by simp[mkB]) λj h1 h2=>?_
 rw[List.getElem_set]
 simp only[mkB,List.getElem_map,List.getElem_range,xm]
 by_cases e:i=j
 ·rw[if_pos e,if_pos e.symm]
 ·rw[if_neg e,if_neg (Ne.symm e)]
theorem jx{n:Nat}:List.replicate n (Value.bool false)=mkB n zB:=by
 refine List.ext_getElem (by simp[mkB]) λj h1 h2=>?_
 simp[mkB,zB]
theorem aeB{b:Nat}{L:List Asr}{c c':List Value}{T:TypeId}{f:List Value→List Asr}(h0:At b L c T f):At b (f c') c' T f:=⟨by
 obtain⟨p,q,_,e2⟩:=h0.h
 exact⟨p,q,e2 _,e2⟩⟩
theorem aeC{b:Nat}{L:List Asr}{c:List Value}{T:TypeId}{f:List Value→List Asr}(h0:At b L c T f):L=f c:=by
 obtain⟨p,q,e1,e2⟩:=h0.h
 rw[e1,e2]
section
variable {u:UnD} {fn:Int} {g:GrD} {ps:List PlD} {vps:Value} {q r:Gh} {x:PlD} {c:List Value} {X:Nat→Prop} {w0 w:World} {L:List Asr} {K:Value→World→Prop} {is:Bool} {m:Nat→Bool} {bm n:Nat} {fL:List Value→List Asr}
theorem QY(S:StX X w0 r w L)[h0:At bm L (mkB ps.length m) 4 fL](hps:SlG 2 q (PlG q) vps ps)[Le q r](hp:PlG r c x)(hf:ps.length≤1000000)
  (h:∀w',StX X w0 r w' (fL (mkB ps.length (xB ps x is m)))→K (.tuple #[]) w'):zd Tryz.prog Tryz.qK #[vps,.agg c.toArray,.slice (some ⟨bm,0,none⟩) ps.length ps.length,.bool is] w K:=by
 refine Tryz.aer ?_
 unfold Tryz.Vx
 have hp0:=hp
 obtain⟨vv,rfl,hl⟩:=hp
 obtain⟨qs,caps,rfl,_,_⟩:=hl.sl.shape
 obtain⟨qp,cp,rfl,_,_⟩:=hps.shape
 refine S.box λb5 w1 S=>?_
 have S:StX X w0 r w1 (.cell b5 [.int .i64 x.l,.slice qs x.ps.length caps] 59::L):=S
 rw[aeC h0]at S
 refine zh (ι:=Nat) (λi=>[.int .i64 (i:Nat)]) (λi w'=>i≤ps.length∧StX X w0 r w' (.cell b5 [.int .i64 x.l,.slice qs x.ps.length caps] 59::fL (mkB ps.length (ky ps x is i m)))) (λi=>ps.length-i) 0 rfl ⟨gzl _,by rw[zD (g:=m) λi _=>by rw[ky,if_neg (Nat.not_lt_zero _)]];exact S⟩ ?_
 clear S
 rintro i d w5 ⟨hi,S⟩ K2 hK2
 rw[gdz]
 haveI:=aeB (c':=mkB ps.length (ky ps x is i m)) h0
 refine gp_ ?_
 refine gp_ ?_
 refine zf (λhlt=>?_) (λhge=>?_)
 ·have hlt:i<ps.length:=by omega
  refine zn (λy w'=>y=[]∧StX X w0 r w' (.cell b5 [.int .i64 x.l,.slice qs x.ps.length caps] 59::fL (mkB ps.length (ky ps x is (i+1) m)))) (λK6 hK6=>?_) ?_
  ·obtain⟨bo,oo,co,hE,hco,hoc,hoo⟩:=hps.get (by decide) hlt
   cases hE
   have S:=S.go (Ext.drew _)
   refine S.ldB (b:=b5) ?_ rfl
   refine gp_ ?_
   refine zp (n:=2) hco (λj v hj=>by simpa using S.at (hoo j v hj)) ?_
   rw[← vY hlt]at hoc
   refine jK S.holds hp0 (PlG.up hoc) λw8 e8=>?_
   have S:=S.go e8
   refine c_b (λhpr=>?_) (λhpr=>?_)
   ·refine gp_ ?_
    refine S.st (b:=bm) (λw9 S=>?_) (by rw[Z9];omega)
    have e:0+((i:Nat):Int).toNat=i:=by omega
    rw[e,Ya,zD λj _=>acB hpr]at S
    exact hK6 _ _ ⟨rfl,S⟩
   ·rw[zD λj _=>aex (i:=i) hpr]at S
    exact hK6 _ _ ⟨rfl,S⟩
  ·clear S
   rintro _ w9 ⟨rfl,S⟩ d9
   refine gp_ ?_
   rw[show ((i:Int)+1)=((i+1:Nat):Int)by omega]
   exact hK2 (i+1) _ ⟨hlt,S⟩ (by omega)
 ·obtain rfl:i=ps.length:=by omega
  rw[zD λj hj=>acC hj]at S
  exact h _ S.tl
variable {bh:Nat} {m2:Nat→Bool} {fH:List Value→List Asr}
theorem aaM{bg bh:Nat}{a b:Nat→Bool}(S:StX X w0 r w (.cell bg (mkB ps.length a) 4::.cell bh (mkB ps.length b) 4::L))(hps:SlG 2 q (PlG q) vps ps)[Le q r](hp:PlG r c x)(hf:ps.length≤1000000)
  (h:∀w',StX X w0 r w' (.cell bg (mkB ps.length (xB ps x is a)) 4::.cell bh (mkB ps.length (xB ps x (!is) b)) 4::L)→K (.tuple #[]) w'):zd Tryz.prog Tryz.jV #[vps,.agg c.toArray,.slice (some ⟨bg,0,none⟩) ps.length ps.length,.slice (some ⟨bh,0,none⟩) ps.length ps.length,.bool is] w K:=by
 refine Tryz.ag3 ?_
 unfold Tryz.abJ
 have hp0:=hp
 obtain⟨vv,rfl,hl⟩:=hp
 obtain⟨qs,caps,rfl,_,_⟩:=hl.sl.shape
 refine S.box λb5 w1 S=>?_
 have S:StX X w0 r w1 (.cell b5 [.int .i64 x.l,.slice qs x.ps.length caps] 59::.cell bg (mkB ps.length a) 4::.cell bh (mkB ps.length b) 4::L):=S
 refine S.ldB (b:=b5) ?_ rfl
 refine QY (bm:=bg) S hps hp0 hf λw2 S=>?_
 refine S.ldB (b:=b5) ?_ rfl
 refine gp_ ?_
 refine QY (bm:=bh) S hps hp0 hf λw3 S=>?_
 exact h _ S.tl
end
def usB(us m:Nat→Bool)(i:Nat):Nat→Bool:=λj=>m j||(decide (j<i)&&us j)
theorem aeD{us m:Nat→Bool}{i:Nat}(h:us i=true)(j:Nat):xm (usB us m i) i true j=usB us m (i+1) j:=by
 unfold xm usB
 by_cases e:j=i
 ·subst e;simp[h]
 ·have :(j<i+1)=(j<i):=by rw[eq_iff_iff];omega
  simp[e,this]
theorem adP{us m:Nat→Bool}{i:Nat}(h:us i=false)(j:Nat):usB us m i j=usB us m (i+1) j:=by
 unfold usB
 by_cases e:j=i
 ·subst e;simp[h]
 ·have :(j<i+1)=(j<i):=by rw[eq_iff_iff];omega
  simp[this]
section
variable {u:UnD} {fn:Int} {g:GrD} {ps:List PlD} {v vps:Value} {q r:Gh} {x:PlD} {c:List Value} {w0 w:World} {L:List Asr} {K:Value→World→Prop} {m:Nat→Bool} {bm:Nat} {fL:List Value→List Asr}
theorem Vc(S:StX noX w0 r w L)[h0:At bm L (mkB ps.length m) 4 fL](hu:UnG q v u)(F:FnM u fn g)(hps:SlG 2 q (PlG q) vps ps)[Le q r](hp:PlG r c x)(hok:OkS u g x)(hf:ps.length≤1000000)
  (h:∀w',StX noX w0 r w' (fL (mkB ps.length λj=>m j||useF u g ps x false j))→K (.tuple #[]) w'):zd Tryz.prog Tryz.jq #[v,.int .i64 fn,vps,.agg c.toArray,.slice (some ⟨bm,0,none⟩) ps.length ps.length] w K:=by
 refine Tryz.afT ?_
 unfold Tryz.aaz
 have hu0:UnG r v u:=UnG.up hu
 obtain⟨p0,cap0,vf,rfl,_,_,_,_,hfn⟩:=hu
 obtain⟨qf,capf,rfl,_,_⟩:=hfn.sl.shape
 have hp0:=hp
 obtain⟨vv,rfl,hl⟩:=hp
 obtain⟨qs,caps,rfl,_,_⟩:=hl.sl.shape
 obtain⟨qp,cp,rfl,_,_⟩:=hps.shape
 refine S.box λb5 w1 S=>?_
 refine S.box λb8 w2 S=>?_
 have S:StX noX w0 r w2 (.cell b8 [.int .i64 x.l,.slice qs x.ps.length caps] 59::.cell b5 [.slice p0 u.ss.length cap0,.slice qf u.fs.length capf,.int .i64 u.mn] 25::L):=S
 refine S.ldB (b:=b5) ?_ rfl
 refine S.ldB (b:=b8) ?_ rfl
 refine ZE S.holds hu0 F hp0 hok λv3 s3 w3 e3 n3 h3=>?_
 obtain⟨S,_,_⟩:=S.tell e3 n3
 obtain⟨q3,c3,rfl,_,_⟩:=h3.sl.shape
 have hhl:=Z5 (ss:=u.ss) (tys:=g.tys) (p:=x)
 refine gp_ ?_
 refine gp_ ?_
 refine S.al λb10 w4 S=>?_
 refine S.stB (b:=b10) λw5 S=>?_
 have S:StX noX w0 (r.or s3) w5 (.cell b10 [.int .i64 x.l,.slice q3 (heldW u.ss g.tys x).ps.length c3] 59::.cell b8 [.int .i64 x.l,.slice qs x.ps.length caps] 59::.cell b5 [.slice p0 u.ss.length cap0,.slice qf u.fs.length capf,.int .i64 u.mn] 25::L):=S
 have S:=S.drop b5
 have hph:PlG (r.or s3) [.int .i64 x.l,.slice q3 (heldW u.ss g.tys x).ps.length c3] (heldW u.ss g.tys x):=⟨_,by rw[hhl],h3.up' inferInstance λ_ _ h=>h⟩
 have hp1:PlG (r.or s3) [.int .i64 x.l,.slice qs x.ps.length caps] x:=PlG.up hp0
 have hus:∀i,useF u g ps x false i=((prefP (pthAt ps i) (heldW u.ss g.tys x) && !(false&&(wholeP u g x&&eqb (pthAt ps i) x)))||(!false&&wholeP u g x&&prefP x (pthAt ps i))):=λi=>rfl
 generalize heldW u.ss g.tys x=hd at *
 generalize wholeP u g x=wh at *
 generalize useF u g ps x false=us at *
 rw[aeC h0]at S
 refine zh (ι:=Nat) (λi=>[.int .i64 (i:Nat)]) (λi w'=>i≤ps.length∧StX noX w0 (r.or s3) w' (.cell b10 [.int .i64 x.l,.slice q3 hd.ps.length c3] 59::.cell b8 [.int .i64 x.l,.slice qs x.ps.length caps] 59::fL (mkB ps.length (usB us m i)))) (λi=>ps.length-i) 0 rfl ⟨gzl _,by rw[zD (g:=m) λi _=>by simp[usB]];exact S⟩ ?_
 clear S
 rintro i d w6 ⟨hi,S⟩ K6 hK6
 rw[gdz]
 haveI:=aeB (c':=mkB ps.length (usB us m i)) h0
 refine gp_ ?_
 refine gp_ ?_
 refine zf (λhlt=>?_) (λhge=>?_)
 rotate_left
 ·obtain rfl:i=ps.length:=by omega
  rw[zD (g:=λj=>m j||us j) λj hj=>by simp[usB,hj]]at S
  exact h _ (S.tl.tl.to r)
 have hlt:i<ps.length:=by omega
 refine zn (λy w'=>y=[]∧StX noX w0 (r.or s3) w' (.cell b10 [.int .i64 x.l,.slice q3 hd.ps.length c3] 59::.cell b8 [.int .i64 x.l,.slice qs x.ps.length caps] 59::fL (mkB ps.length (usB us m (i+1))))) (λK10 hK10=>?_) ?_
 rotate_left
 ·clear S
  rintro _ w9 ⟨rfl,S⟩ d9
  refine gp_ ?_
  rw[show ((i:Int)+1)=((i+1:Nat):Int)by omega]
  exact hK6 (i+1) _ ⟨hlt,S⟩ (by omega)
 obtain⟨bo,oo,co,hE,hco,hoc,hoo⟩:=hps.get (by decide) hlt
 cases hE
 have S:=S.go (Ext.drew _)
 refine gp_ ?_
 refine zp (n:=2) hco (λj v hj=>by simpa using S.at (hoo j v hj)) ?_
 rw[← vY hlt]at hoc
 have hui:=hus i
 have hy1:PlG (r.or s3) co (pthAt ps i):=PlG.up hoc
 generalize pthAt ps i=y at *
 have fin:∀(bb:Bool) w',bb=us i→StX noX w0 (r.or s3) w' (.cell b10 [.int .i64 x.l,.slice q3 hd.ps.length c3] 59::.cell b8 [.int .i64 x.l,.slice qs x.ps.length caps] 59::fL (mkB ps.length (usB us m i)))→zc (.bool bb) (Tryz.px 40 (.slice (some ⟨bm,0,none⟩) ps.length ps.length) (.int .i64 (i:Nat)) λt45=>Tryz.so w' 4 t45 Tryz.tr_ λw28=>K10 [] w28) (K10 [] w'):=λbb w' hb S=>by
  refine c_b (λhyes=>?_) (λhno=>?_)
  ·refine gp_ ?_
   refine S.st (b:=bm) (λw9 S=>?_) (by rw[Z9];omega)
   have e:0+((i:Nat):Int).toNat=i:=by omega
   rw[e,Ya,zD λj _=>aeD (hb▸hyes) j]at S
   exact hK10 _ _ ⟨rfl,S⟩
  ·rw[zD λj _=>adP (i:=i) (hb▸hno) j]at S
   exact hK10 _ _ ⟨rfl,S⟩
 clear hK10 h hK6
 refine S.ldB (b:=b10) ?_ rfl
 refine jK S.holds hy1 hph λw10 e10=>?_
 have S:=S.go e10
 generalize prefP y hd=pr at *
 rcases pr with _|_<;>rcases wh with _|_<;>repeat' (first
  |rw [Bool.not_false]
  |rw [Bool.not_true]
  |(refine gd_ ?_;exact fin _ _ (by rw[hui];simp) S)
  |(refine gd_ ?_;intro K9 hK9;refine gd_ ?_;refine hK9 _ _ λ_=>?_;clear hK9 K9)
  |(refine gd_ ?_;intro K9 hK9;refine gd_ ?_;refine zp (n:=2) hco (λj v hj=>by simpa using S.at (hoo j v hj)) ?_;refine jK S.holds hp1 hy1 λw11 e11=>?_;have S:=S.go e11;refine hK9 _ _ λ_=>?_;clear hK9 K9))
theorem ai2(S:StX noX w0 r w L)[h0:At bm L (mkB ps.length m) 4 fL](hu:UnG q v u)(F:FnM u fn g)(hps:SlG 2 q (PlG q) vps ps)[Le q r](hp:PlG r c x)(hok:OkS u g x)(hf:ps.length≤1000000)
  (h:∀w',StX noX w0 r w' (fL (mkB ps.length λj=>m j||useF u g ps x true j))→K (.tuple #[]) w'):zd Tryz.prog Tryz.Xx #[v,.int .i64 fn,vps,.agg c.toArray,.slice (some ⟨bm,0,none⟩) ps.length ps.length] w K:=by
 refine Tryz.afU ?_
 unfold Tryz.aaA
 have hu0:UnG r v u:=UnG.up hu
 obtain⟨p0,cap0,vf,rfl,_,_,_,_,hfn⟩:=hu
 obtain⟨qf,capf,rfl,_,_⟩:=hfn.sl.shape
 have hp0:=hp
 obtain⟨vv,rfl,hl⟩:=hp
 obtain⟨qs,caps,rfl,_,_⟩:=hl.sl.shape
 obtain⟨qp,cp,rfl,_,_⟩:=hps.shape
 refine S.box λb5 w1 S=>?_
 refine S.box λb8 w2 S=>?_
 have S:StX noX w0 r w2 (.cell b8 [.int .i64 x.l,.slice qs x.ps.length caps] 59::.cell b5 [.slice p0 u.ss.length cap0,.slice qf u.fs.length capf,.int .i64 u.mn] 25::L):=S
 refine S.ldB (b:=b5) ?_ rfl
 refine S.ldB (b:=b8) ?_ rfl
 refine ZE S.holds hu0 F hp0 hok λv3 s3 w3 e3 n3 h3=>?_
 obtain⟨S,_,_⟩:=S.tell e3 n3
 obtain⟨q3,c3,rfl,_,_⟩:=h3.sl.shape
 have hhl:=Z5 (ss:=u.ss) (tys:=g.tys) (p:=x)
 refine gp_ ?_
 refine gp_ ?_
 refine S.al λb10 w4 S=>?_
 refine S.stB (b:=b10) λw5 S=>?_
 have S:StX noX w0 (r.or s3) w5 (.cell b10 [.int .i64 x.l,.slice q3 (heldW u.ss g.tys x).ps.length c3] 59::.cell b8 [.int .i64 x.l,.slice qs x.ps.length caps] 59::.cell b5 [.slice p0 u.ss.length cap0,.slice qf u.fs.length capf,.int .i64 u.mn] 25::L):=S
 have S:=S.drop b5
 have hph:PlG (r.or s3) [.int .i64 x.l,.slice q3 (heldW u.ss g.tys x).ps.length c3] (heldW u.ss g.tys x):=⟨_,by rw[hhl],h3.up' inferInstance λ_ _ h=>h⟩
 have hp1:PlG (r.or s3) [.int .i64 x.l,.slice qs x.ps.length caps] x:=PlG.up hp0
 have hus:∀i,useF u g ps x true i=((prefP (pthAt ps i) (heldW u.ss g.tys x) && !(true&&(wholeP u g x&&eqb (pthAt ps i) x)))||(!true&&wholeP u g x&&prefP x (pthAt ps i))):=λi=>rfl
 generalize heldW u.ss g.tys x=hd at *
 generalize wholeP u g x=wh at *
 generalize useF u g ps x true=us at *
 rw[aeC h0]at S
 refine zh (ι:=Nat) (λi=>[.int .i64 (i:Nat)]) (λi w'=>i≤ps.length∧StX noX w0 (r.or s3) w' (.cell b10 [.int .i64 x.l,.slice q3 hd.ps.length c3] 59::.cell b8 [.int .i64 x.l,.slice qs x.ps.length caps] 59::fL (mkB ps.length (usB us m i)))) (λi=>ps.length-i) 0 rfl ⟨gzl _,by rw[zD (g:=m) λi _=>by simp[usB]];exact S⟩ ?_
 clear S
 rintro i d w6 ⟨hi,S⟩ K6 hK6
 rw[gdz]
 haveI:=aeB (c':=mkB ps.length (usB us m i)) h0
 refine gp_ ?_
 refine gp_ ?_
 refine zf (λhlt=>?_) (λhge=>?_)
 rotate_left
 ·obtain rfl:i=ps.length:=by omega
  rw[zD (g:=λj=>m j||us j) λj hj=>by simp[usB,hj]]at S
  exact h _ (S.tl.tl.to r)
 have hlt:i<ps.length:=by omega
 refine zn (λy w'=>y=[]∧StX noX w0 (r.or s3) w' (.cell b10 [.int .i64 x.l,.slice q3 hd.ps.length c3] 59::.cell b8 [.int .i64 x.l,.slice qs x.ps.length caps] 59::fL (mkB ps.length (usB us m (i+1))))) (λK10 hK10=>?_) ?_
 rotate_left
 ·clear S
  rintro _ w9 ⟨rfl,S⟩ d9
  refine gp_ ?_
  rw[show ((i:Int)+1)=((i+1:Nat):Int)by omega]
  exact hK6 (i+1) _ ⟨hlt,S⟩ (by omega)
 obtain⟨bo,oo,co,hE,hco,hoc,hoo⟩:=hps.get (by decide) hlt
 cases hE
 have S:=S.go (Ext.drew _)
 refine gp_ ?_
 refine zp (n:=2) hco (λj v hj=>by simpa using S.at (hoo j v hj)) ?_
 rw[← vY hlt]at hoc
 have hui:=hus i
 have hy1:PlG (r.or s3) co (pthAt ps i):=PlG.up hoc
 generalize pthAt ps i=y at *
 have fin:∀(bb:Bool) w',bb=us i→StX noX w0 (r.or s3) w' (.cell b10 [.int .i64 x.l,.slice q3 hd.ps.length c3] 59::.cell b8 [.int .i64 x.l,.slice qs x.ps.length caps] 59::fL (mkB ps.length (usB us m i)))→zc (.bool bb) (Tryz.px 40 (.slice (some ⟨bm,0,none⟩) ps.length ps.length) (.int .i64 (i:Nat)) λt45=>Tryz.so w' 4 t45 Tryz.tr_ λw28=>K10 [] w28) (K10 [] w'):=λbb w' hb S=>by
  refine c_b (λhyes=>?_) (λhno=>?_)
  ·refine gp_ ?_
   refine S.st (b:=bm) (λw9 S=>?_) (by rw[Z9];omega)
   have e:0+((i:Nat):Int).toNat=i:=by omega
   rw[e,Ya,zD λj _=>aeD (hb▸hyes) j]at S
   exact hK10 _ _ ⟨rfl,S⟩
  ·rw[zD λj _=>adP (i:=i) (hb▸hno) j]at S
   exact hK10 _ _ ⟨rfl,S⟩
 clear hK10 h hK6
 refine S.ldB (b:=b10) ?_ rfl
 refine jK S.holds hy1 hph λw10 e10=>?_
 have S:=S.go e10
 generalize prefP y hd=pr at *
 rcases pr with _|_<;>rcases wh with _|_<;>repeat' (first
  |rw [Bool.not_false]
  |rw [Bool.not_true]
  |(refine gd_ ?_;exact fin _ _ (by rw[hui];simp) S)
  |(refine gd_ ?_;intro K9 hK9;refine gd_ ?_;refine hK9 _ _ λ_=>?_;clear hK9 K9)
  |(refine gd_ ?_;intro K9 hK9;refine gd_ ?_;refine zp (n:=2) hco (λj v hj=>by simpa using S.at (hoo j v hj)) ?_;refine S.ldB (b:=b8) ?_ rfl;refine aap S.holds hy1 hp1 λw11 e11=>?_;have S:=S.go e11;refine hK9 _ _ λ_=>?_;clear hK9 K9))
end
theorem Vd{p:PtD}:(zu p).filter zV=zs p:=by
 have h0:∀o:OpD,(if o.k≠0 then [o]else []).filter zV=[o].filter zV:=λo=>by
  by_cases h:o.k=0
  ·rw[if_neg (by simp[h])];simp[zV,h]
  ·rw[if_pos h]
 rw[zu,List.filter_append,List.filter_append,h0,h0,zs,← List.filter_append,← List.filter_append];rfl
theorem ak4{p:PtD}:(zu p).filter (λo=>decide (o.k=4))=(zs p).filter λo=>decide (o.k=4):=by
 rw[← Vd,List.filter_filter]
 refine List.filter_congr λo _=>?_
 by_cases h:o.k=4<;>simp [zV,h]
theorem aeE{p:PtD}(h:p.args.length≤1000):(zu p).length≤1002:=by
 rw[zu,gla,gla]
 have h1:(if p.a.k≠0 then [p.a]else []).length≤1:=by split<;>simp
 have h2:(if p.b.k≠0 then [p.b]else []).length≤1:=by split<;>simp
 omega
theorem amO{p:PtD}{o:OpD}(h:o∈zu p)(hk:o.k=3∨o.k=4):o∈zs p:=by
 rw[← Vd,List.mem_filter]
 exact⟨h,by rw[zV];rcases hk with e|e<;>simp [e]⟩
theorem JD{n:Nat}{f:Nat→Bool}{w0 w:World}{r:Gh}{L:List Asr}{b:Nat}(S:StX noX w0 r w (.cell b (mkB n f) 4::L)):
  ∃s,StX noX w0 (r.or s) w L∧Above w0 s∧SlG 1 s jU (.slice (some ⟨b,0,none⟩) n n) ((List.range n).map f):=by
 obtain⟨S,h,a⟩:=StX.litNew S b (sz:=1) (R:=jU) (l:=(List.range n).map f) (by
  have:=ajP (m:=(List.range n).map f)
  rw[bls,List.map_map]at this
  exact this) (by decide)
 rw[List.length_map,List.length_range]at h
 exact⟨_,S,a,h⟩
section
variable {u:UnD} {fn qi:Int} {g:GrD} {ps:List PlD} {v vps:Value} {q r:Gh} {p:PtD} {w0 w:World} {L:List Asr} {K:Value→World→Prop}
theorem adQ(hr:Holds r w)(hu:UnG r v u)(F:FnM u fn g)(hq0:0≤qi)(hq:qi.toNat<g.pts.length)(hpe:g.pts[qi.toNat]=p)(hps:SlG 2 r (PlG r) vps ps)(hf:ps.length≤256)
  (h:∀v1 v2 s w',Ext w w'→New w s w'→SlG 1 s jU v1 ((List.range ps.length).map (yh u g ps p).1)→SlG 1 s jU v2 ((List.range ps.length).map (yh u g ps p).2)→K (.tuple #[v1,v2]) w'):
  zd Tryz.prog Tryz.Zp #[v,.int .i64 fn,.int .i64 qi,vps] w K:=by
 refine Tryz.afV ?_
 unfold Tryz.aaB
 have hu0:=hu
 obtain⟨p0,cap0,vf,rfl,_,_,hst,hsl,hfn⟩:=hu
 obtain⟨qp,cp,rfl,_,_⟩:=hps.shape
 obtain⟨hltf,hge⟩:=List.getElem?_eq_some_iff.1 F.at'
 obtain⟨qf,capf,rfl,_,_⟩:=hfn.sl.shape
 obtain⟨bf,of,cf,hqE,hcf,hgc,hfo⟩:=hfn.sl.get (by decide) hltf
 cases hqE
 rw[hge]at hgc
 obtain⟨x1,x2,x3,x4,y1,y2,y3,y4,rfl,hg0⟩:=Xi hgc
 obtain⟨_,_,_,_,hEE,m1,m2,m3,m4⟩:=id hg0
 cases hEE
 obtain⟨bq,oq,cq,hqE2,hcq,hpc,hpo⟩:=m4.sl.get (by decide) hq
 cases hqE2
 have hpm:p∈g.pts:=by rw[← hpe];exact gem hq
 rw[hpe]at hpc
 have hargs:=jw F.may (F.pts p hpm)
 obtain⟨z1,z2,z3,z4,z5,t1,t2,t3,t4,t5,rfl,hp0⟩:=xZ hpc
 obtain⟨_,_,_,_,_,hE,k1,k2,k3,k4,k5⟩:=id hp0
 cases hE
 have hf0:=F.fn0
 have hfl:u.fs.length≤9223372036854775807:=hfn.few
 have S:=St.start hr
 refine S.box λb4 w1 S=>?_
 have S:StX noX w r w1 [.cell b4 [.slice p0 u.ss.length cap0,.slice (some ⟨bf,of,none⟩) u.fs.length capf,.int .i64 u.mn] 25]:=S
 refine gg_ ?_
 refine zg (S.at (hfo 6 _ rfl)) ?_
 refine gp_ ?_
 refine zp (n:=21) hcq (λj v hj=>by simpa using S.at (hpo j v hj)) ?_
 refine S.al λb10 w2 S=>?_
 refine S.stB (b:=b10) λw3 S=>?_
 have S:StX noX w r w3 [.cell b10 (ptL p z1 z2 z3 z4 z5 t1 t2 t3 t4 t5) 94,.cell b4 [.slice p0 u.ss.length cap0,.slice (some ⟨bf,of,none⟩) u.fs.length capf,.int .i64 u.mn] 25]:=S
 refine zn (λy w'=>∃bg bh,y=[.slice (some ⟨bg,0,none⟩) ps.length ps.length,.slice (some ⟨bh,0,none⟩) ps.length ps.length]∧StX noX w r w' [.cell bg (mkB ps.length zB) 4,.cell bh (mkB ps.length zB) 4,.cell b10 (ptL p z1 z2 z3 z4 z5 t1 t2 t3 t4 t5) 94,.cell b4 [.slice p0 u.ss.length cap0,.slice (some ⟨bf,of,none⟩) u.fs.length capf,.int .i64 u.mn] 25]) (λK4 hK4=>?_) ?_
 ·have S:=S.go (Ext.drew _)
  refine gp_ ?_
  refine gp_ ?_
  refine⟨?_,?_⟩
  ·refine S.mkS (by omega) (by omega) λbg w5 S=>?_
   refine S.mkS (by omega) (by omega) λbh w6 S=>?_
   rw[tnc,jx]at S
   rw[tnc]
   exact hK4 _ _ ⟨bg,bh,rfl,S.permO (.swap _ _ _)⟩
  ·refine S.mkS (by omega) (by omega) λbh w5 S=>?_
   refine S.mkS (by omega) (by omega) λbg w6 S=>?_
   rw[tnc,jx]at S
   rw[tnc]
   exact hK4 _ _ ⟨bg,bh,rfl,S⟩
 clear S
 rintro _ w7 ⟨bg,bh,rfl,S⟩ d7
 simp only[gdz,gds]
 refine S.ldB (b:=b10) ?_
 refine vz S.holds hp0 hargs λv9 s2 w9 e9 n9 h9=>?_
 obtain⟨S,_,a9⟩:=S.tell e9 n9
 have h9:SlG 4 (r.or s2) (OpG (r.or s2)) v9 (zu p):=h9.up' inferInstance λ_ _ h=>OpG.up h
 have hps:SlG 2 (r.or s2) (PlG (r.or s2)) (.slice qp ps.length cp) ps:=hps.up' inferInstance λ_ _ h=>PlG.up h
 have hu0:UnG (r.or s2) (.agg #[.slice p0 u.ss.length cap0,.slice (some ⟨bf,of,none⟩) u.fs.length capf,.int .i64 u.mn]) u:=UnG.up hu0
 have k1:PlG (r.or s2) [.int .i64 p.to.l,.slice z1 p.to.ps.length t1] p.to:=PlG.up (⟨_,rfl,k1⟩:PlG r _ p.to)
 have k5:PlG (r.or s2) [.int .i64 p.fr.l,.slice z5 p.fr.ps.length t5] p.fr:=PlG.up (⟨_,rfl,k5⟩:PlG r _ p.fr)
 have hp0:PtG (r.or s2) (ptL p z1 z2 z3 z4 z5 t1 t2 t3 t4 t5) p:=PtG.up hp0
 have hof:=aeE hargs
 obtain⟨q9,c9,rfl,_,_⟩:=h9.shape
 refine zh (ι:=Nat) (λi=>[.int .i64 (i:Nat)]) (λi w'=>i≤(zu p).length∧∃a,a=(((((zu p).take i).filter λo=>decide (o.k=4)).map λo=>(true,o.pl)).foldl (doF ps) (zB,zB))∧StX noX w (r.or s2) w' [.cell bg (mkB ps.length a.1) 4,.cell bh (mkB ps.length a.2) 4,.cell b10 (ptL p z1 z2 z3 z4 z5 t1 t2 t3 t4 t5) 94,.cell b4 [.slice p0 u.ss.length cap0,.slice (some ⟨bf,of,none⟩) u.fs.length capf,.int .i64 u.mn] 25]) (λi=>(zu p).length-i) 0 rfl ⟨gzl _,_,rfl,S⟩ ?_
 clear S
 rintro i d10 w10 ⟨hi,a,ha,S⟩ K15 hK15
 rw[gdz]
 refine gp_ ?_
 refine gp_ ?_
 refine zf (λhlt=>?_) (λhge2=>?_)
 ·have hlt:i<(zu p).length:=by omega
  refine zn (λy w'=>y=[]∧∃a',a'=(((((zu p).take (i+1)).filter λo=>decide (o.k=4)).map λo=>(true,o.pl)).foldl (doF ps) (zB,zB))∧StX noX w (r.or s2) w' [.cell bg (mkB ps.length a'.1) 4,.cell bh (mkB ps.length a'.2) 4,.cell b10 (ptL p z1 z2 z3 z4 z5 t1 t2 t3 t4 t5) 94,.cell b4 [.slice p0 u.ss.length cap0,.slice (some ⟨bf,of,none⟩) u.fs.length capf,.int .i64 u.mn] 25]) (λK19 hK19=>?_) ?_
  ·obtain⟨bo,oo,cc,hoE,hcc,hoc,hoo⟩:=h9.get (by decide) hlt
   cases hoE
   rw[List.take_succ_eq_append_getElem hlt,List.filter_append,List.map_append,List.foldl_append,← ha]at hK19
   generalize (zu p)[i]=o at *
   obtain⟨qq,ko,rfl⟩:=qW hoc
   obtain⟨_,hoE,hopl⟩:=id hoc
   cases hoE
   refine gp_ ?_
   refine gp_ ?_
   refine zg (v:=.int .u8 o.k) (by simpa using S.at (hoo 0 _ rfl)) ?_
   refine gp_ ?_
   refine zf (λhk=>?_) (λhk=>?_)
   ·refine gp_ ?_
    refine gp_ ?_
    refine zp (n:=2) (c:=[.int .i64 o.pl.l,.slice qq o.pl.ps.length ko]) rfl (λj v hj=>by
     have hj2:j<2:=(List.getElem?_eq_some_iff.1 hj).1
     have:=S.at (hoo (2+j) v (by rw[← hj];rcases(show j=0∨j=1 by omega)with rfl|rfl<;>rfl))
     rw[← Nat.add_assoc]at this
     simpa using this) ?_
    refine aaM (x:=o.pl) S hps ⟨_,rfl,hopl⟩ (by omega) λw11 S=>?_
    have hk2:([o].filter λo=>decide (o.k=4)).map (λo=>(true,o.pl))=[(true,o.pl)]:=by simp[hk]
    rw[hk2]at hK19
    exact hK19 _ _ ⟨rfl,_,rfl,S⟩
   ·have hk2:([o].filter λo=>decide (o.k=4)).map (λo=>(true,o.pl))=[]:=by simp[hk]
    rw[hk2]at hK19
    exact hK19 _ _ ⟨rfl,_,rfl,S⟩
  ·clear S ha
   rintro _ w12 ⟨rfl,a',ha,S⟩ d12
   refine gp_ ?_
   rw[show ((i:Int)+1)=((i+1:Nat):Int)by omega]
   exact hK15 (i+1) _ ⟨hlt,a',ha,S⟩ (by omega)
 obtain rfl:i=(zu p).length:=by omega
 rw[List.take_length,ak4]at ha
 clear hK15 K15
 have hD:yh u g ps p=(((if p.op=10∨p.op=11 then [(true,p.fr)]else [])++(if(decide (1≤p.op)&&decide (p.op≤8))=true∧wholeP u g p.to=true then [(false,p.to)]else [])).foldl (doF ps) a):=by
  rw[yh,xq,List.foldl_append,ha]
 rw[List.foldl_append]at hD
 refine zn (λy w'=>y=[]∧∃a',yh u g ps p=(if(decide (1≤p.op)&&decide (p.op≤8))=true∧wholeP u g p.to=true then [(false,p.to)]else []).foldl (doF ps) a'∧StX noX w (r.or s2) w' [.cell bg (mkB ps.length a'.1) 4,.cell bh (mkB ps.length a'.2) 4,.cell b10 (ptL p z1 z2 z3 z4 z5 t1 t2 t3 t4 t5) 94,.cell b4 [.slice p0 u.ss.length cap0,.slice (some ⟨bf,of,none⟩) u.fs.length capf,.int .i64 u.mn] 25]) (λK24 hK24=>?_) ?_
 ·refine gg_ ?_
  refine zj (c:=decide (p.op=11)) (λ_ K2 hK2=>by refine gg_ ?_;exact hK2) ?_
  rw[show (decide (p.op=10)||decide (p.op=11))=decide (p.op=10∨p.op=11)by simp only[Bool.decide_or]]
  refine zf (λho=>?_) (λho=>?_)
  ·rw[if_pos ho]at hD
   refine gg_ ?_
   refine S.ldN (b:=b10) ?_
   refine aaM (x:=p.fr) S hps k5 (by omega) λw11 S=>?_
   exact hK24 _ _ ⟨rfl,_,hD,S⟩
  ·rw[if_neg ho]at hD
   exact hK24 _ _ ⟨rfl,_,hD,S⟩
 clear S ha hD
 rintro _ w13 ⟨rfl,a',hD,S⟩ d13
 have fin:∀{κ:Gh}{w'}(b:(Nat→Bool)×(Nat→Bool)),Le (r.or s2) κ→(∃κ',κ=r.or κ'∧Above w κ')→yh u g ps p=b→StX noX w κ w' [.cell bg (mkB ps.length b.1) 4,.cell bh (mkB ps.length b.2) 4,.cell b10 (ptL p z1 z2 z3 z4 z5 t1 t2 t3 t4 t5) 94,.cell b4 [.slice p0 u.ss.length cap0,.slice (some ⟨bf,of,none⟩) u.fs.length capf,.int .i64 u.mn] 25]→K (.tuple #[.slice (some ⟨bg,0,none⟩) ps.length ps.length,.slice (some ⟨bh,0,none⟩) ps.length ps.length]) w':=by
  rintro κ w' b _ ⟨κ',rfl,ak⟩ hb S
  obtain⟨s5,S,a5,h5⟩:=JD S
  obtain⟨s6,S,a6,h6⟩:=JD S
  have S:=S.reGh.reGh
  rw[hb]at h
  exact h _ _ _ w' S.ext (S.newOf (ak.or' (a5.or' a6))) (h5.up' inferInstance λ_ _ h=>h) (h6.up' inferInstance λ_ _ h=>h)
 clear h
 refine zn (λy w'=>y=[]∧K (.tuple #[.slice (some ⟨bg,0,none⟩) ps.length ps.length,.slice (some ⟨bh,0,none⟩) ps.length ps.length]) w') (λK33 hK33=>?_) ?_
 ·refine S.ldB (b:=b10) ?_
  refine ZB S.holds hp0 λw14 e14=>?_
  have S:=S.go e14
  refine c_b (λho=>?_) (λho=>?_)
  ·have hok:OkS u g p.to:=by
    rw[OkS,← xj F.may.ok F.fine]
    simp only[gba,gdt]at ho
    exact JW (F.pts p hpm) ho
   refine S.ldB (b:=b4) ?_ rfl
   refine gg_ ?_
   refine S.ldN (b:=b10) ?_
   refine ZE S.holds hu0 F k1 hok λv3 s3 w15 e15 n15 h3=>?_
   obtain⟨S,_,a15⟩:=S.tell e15 n15
   obtain⟨q3,c3,rfl,_,_⟩:=h3.sl.shape
   refine gp_ ?_
   refine gp_ ?_
   refine S.al λb15 w16 S=>?_
   refine S.stB (b:=b15) λw17 S=>?_
   have S:=S.drop b15
   refine c_b (λhw=>?_) (λhw=>?_)
   ·rw[if_pos ⟨ho,hw⟩]at hD
    refine gg_ ?_
    refine S.ldN (b:=b10) ?_
    refine aaM (x:=p.to) S hps (PlG.up k1) (by omega) λw11 S=>?_
    exact hK33 _ _ ⟨rfl,fin _ inferInstance ⟨_,rfl,a9.or' a15⟩ hD S.reGh⟩
   ·rw[if_neg (λhh=>by rw[hw]at hh;cases hh.2)]at hD
    exact hK33 _ _ ⟨rfl,fin _ inferInstance ⟨_,rfl,a9.or' a15⟩ hD S.reGh⟩
  ·rw[if_neg (λhh=>by rw[ho]at hh;cases hh.1)]at hD
   exact hK33 _ _ ⟨rfl,fin _ inferInstance ⟨_,rfl,a9⟩ hD S⟩
 ·clear S
  rintro _ w18 ⟨rfl,hK⟩ d18
  exact hK
end
theorem JE{u:UnD}{g:GrD}{ps:List PlD}{a:UsF}{x:PlD}{b:Bool}:usF u g ps a (x,b,false)=⟨λi=>a.all i||useF u g ps x b i,λi=>a.again i||(useF u g ps x b i&&a.lost i),a.lost⟩:=rfl
noncomputable def opsF(u:UnD)(g:GrD)(ps:List PlD)(l:List OpD):UsF:=((l.filter zV).map λo=>(o.pl,false,decide (o.k=4))).foldl (usF u g ps) ⟨zB,zB,zB⟩
noncomputable def Xg(u:UnD)(g:GrD)(ps:List PlD)(p:PtD)(i:Nat):Bool:=((if p.op=4 then [(p.fr,false)]else if p.op=14 then [(Xe,false)]else [])++(if(decide (1≤p.op)&&decide (p.op≤8))=true then [(p.to,true)]else [])).any λx=>useF u g ps x.1 x.2 i
theorem aj5{u:UnD}{g:GrD}{ps:List PlD}{p:PtD}{i:Nat}:(yq u g ps p).all i=((opsF u g ps (zu p)).all i||Xg u g ps p i)∧(yq u g ps p).again i=((opsF u g ps (zu p)).again i||(Xg u g ps p i&&(opsF u g ps (zu p)).lost i)):=by
 have e:yq u g ps p=((if p.op=4 then [(p.fr,false,false)]else if p.op=14 then [(Xe,false,false)]else [])++(if(decide (1≤p.op)&&decide (p.op≤8))=true then [(p.to,true,false)]else [])).foldl (usF u g ps) (opsF u g ps (zu p)):=by
  rw[yq,adJ,List.foldl_append,opsF,Vd]
 rw[e,Xg]
 generalize opsF u g ps (zu p)=a
 split
 ·split
  ·simp[JE,Bool.or_assoc,Bool.and_or_distrib_right]
  ·simp[JE]
 ·split
  ·split
   ·simp[JE,Bool.or_assoc,Bool.and_or_distrib_right]
   ·simp[JE]
  ·split
   ·simp[JE]
   ·simp
noncomputable def nowU(u:UnD)(g:GrD)(ps:List PlD)(p:PtD)(i:Nat):Nat→Bool:=match (zu p)[i]? with
 |some o=>λj=>zV o&&useF u g ps o.pl false j
 |none=>Xg u g ps p
theorem amP{us m l:Nat→Bool}{i:Nat}(h:us i=true)(j:Nat):xm (usB (λj=>us j&&l j) m i) i (usB (λj=>us j&&l j) m i i||l i) j=usB (λj=>us j&&l j) m (i+1) j:=by
 unfold xm usB
 by_cases e:j=i
 ·subst e;simp[h]
 ·have :(j<i+1)=(j<i):=by rw[eq_iff_iff];omega
  simp[e,this]
theorem aj6{u:UnD}{g:GrD}{ps:List PlD}{l:List OpD}{i:Nat}(h:i<l.length):opsF u g ps (l.take (i+1))=if zV l[i]=true then usF u g ps (opsF u g ps (l.take i)) (l[i].pl,false,decide (l[i].k=4))else opsF u g ps (l.take i):=by
 rw[opsF,opsF,List.take_succ_eq_append_getElem h,List.filter_append,List.map_append,List.foldl_append]
 by_cases hk:zV l[i]=true
 ·rw[if_pos hk,List.filter_cons_of_pos hk];rfl
 ·rw[if_neg hk,List.filter_cons_of_neg hk];rfl
section
variable {u:UnD} {fn qi:Int} {g:GrD} {ps:List PlD} {v vps:Value} {q r:Gh} {p:PtD} {w0 w:World} {L:List Asr} {K:Value→World→Prop}
abbrev QZ(ps:List PlD)(a:UsF)(ba bg bl:Nat)(M:List Asr):List Asr:=.cell bg (mkB ps.length a.again) 4::.cell ba (mkB ps.length a.all) 4::.cell bl (mkB ps.length a.lost) 4::M
theorem ai3(hr:Holds r w)(hu:UnG r v u)(F:FnM u fn g)(hq0:0≤qi)(hq:qi.toNat<g.pts.length)(hpe:g.pts[qi.toNat]=p)(hps:SlG 2 r (PlG r) vps ps)(hf:ps.length≤256)
  (h:∀v1 v2 s w',Ext w w'→New w s w'→SlG 1 s jU v1 ((List.range ps.length).map (yq u g ps p).all)→SlG 1 s jU v2 ((List.range ps.length).map (yq u g ps p).again)→K (.tuple #[v1,v2]) w'):
  zd Tryz.prog Tryz.Xw #[v,.int .i64 fn,.int .i64 qi,vps] w K:=by
 refine Tryz.afS ?_
 unfold Tryz.aay
 have hu0:=hu
 obtain⟨p0,cap0,vf,rfl,_,_,hst,hsl,hfn⟩:=hu
 obtain⟨qp,cp,rfl,_,_⟩:=hps.shape
 obtain⟨hltf,hge⟩:=List.getElem?_eq_some_iff.1 F.at'
 obtain⟨qf,capf,rfl,_,_⟩:=hfn.sl.shape
 obtain⟨bf,of,cf,hqE,hcf,hgc,hfo⟩:=hfn.sl.get (by decide) hltf
 cases hqE
 rw[hge]at hgc
 obtain⟨x1,x2,x3,x4,y1,y2,y3,y4,rfl,hg0⟩:=Xi hgc
 obtain⟨_,_,_,_,hEE,m1,m2,m3,m4⟩:=id hg0
 cases hEE
 obtain⟨bq,oq,cq,hqE2,hcq,hpc,hpo⟩:=m4.sl.get (by decide) hq
 cases hqE2
 have hpm:p∈g.pts:=by rw[← hpe];exact gem hq
 rw[hpe]at hpc
 have hargs:=jw F.may (F.pts p hpm)
 obtain⟨z1,z2,z3,z4,z5,t1,t2,t3,t4,t5,rfl,hp0⟩:=xZ hpc
 obtain⟨_,_,_,_,_,hE,k1,k2,k3,k4,k5⟩:=id hp0
 cases hE
 have hf0:=F.fn0
 have hfl:u.fs.length≤9223372036854775807:=hfn.few
 have ht1:0<g.tys.length:=by have:=F.head.pn0;have:=F.head.pn1;omega
 have S:=St.start hr
 refine S.box λb4 w1 S=>?_
 have S:StX noX w r w1 [.cell b4 [.slice p0 u.ss.length cap0,.slice (some ⟨bf,of,none⟩) u.fs.length capf,.int .i64 u.mn] 25]:=S
 refine gg_ ?_
 refine zg (S.at (hfo 6 _ rfl)) ?_
 refine gp_ ?_
 refine zp (n:=21) hcq (λj v hj=>by simpa using S.at (hpo j v hj)) ?_
 refine S.al λb10 w2 S=>?_
 refine S.stB (b:=b10) λw3 S=>?_
 obtain⟨M,hM⟩:∃M:List Asr,M=[.cell b10 (ptL p z1 z2 z3 z4 z5 t1 t2 t3 t4 t5) 94,.cell b4 [.slice p0 u.ss.length cap0,.slice (some ⟨bf,of,none⟩) u.fs.length capf,.int .i64 u.mn] 25]:=⟨_,rfl⟩
 have S:StX noX w r w3 M:=by rw[hM];exact S
 haveI A10:At b10 M (ptL p z1 z2 z3 z4 z5 t1 t2 t3 t4 t5) 94 (λc=>[.cell b10 c 94,.cell b4 [.slice p0 u.ss.length cap0,.slice (some ⟨bf,of,none⟩) u.fs.length capf,.int .i64 u.mn] 25]):=by rw[hM];exact inferInstance
 haveI A4:At b4 M [.slice p0 u.ss.length cap0,.slice (some ⟨bf,of,none⟩) u.fs.length capf,.int .i64 u.mn] 25 (λc=>[.cell b10 (ptL p z1 z2 z3 z4 z5 t1 t2 t3 t4 t5) 94,.cell b4 c 25]):=by rw[hM];exact inferInstance
 clear hM
 refine zn (λy w'=>∃ba bl,y=[.slice (some ⟨ba,0,none⟩) ps.length ps.length,.slice (some ⟨bl,0,none⟩) ps.length ps.length]∧StX noX w r w' (.cell ba (mkB ps.length zB) 4::.cell bl (mkB ps.length zB) 4::M)) (λK4 hK4=>?_) ?_
 ·have S:=S.go (Ext.drew _)
  refine gp_ ?_
  refine gp_ ?_
  refine⟨?_,?_⟩
  ·refine S.mkS (by omega) (by omega) λbg w5 S=>?_
   refine S.mkS (by omega) (by omega) λbh w6 S=>?_
   rw[tnc,jx]at S
   rw[tnc]
   exact hK4 _ _ ⟨bg,bh,rfl,S.permO (.swap _ _ _)⟩
  ·refine S.mkS (by omega) (by omega) λbh w5 S=>?_
   refine S.mkS (by omega) (by omega) λbg w6 S=>?_
   rw[tnc,jx]at S
   rw[tnc]
   exact hK4 _ _ ⟨bg,bh,rfl,S⟩
 clear S
 rintro _ w7 ⟨ba,bl,rfl,S⟩ d7
 simp only[gdz,gds]
 refine gp_ ?_
 refine S.mkS (by omega) (by omega) λbg w8 S=>?_
 rw[tnc,jx]at S
 rw[tnc]
 have S:StX noX w r w8 (QZ ps ⟨zB,zB,zB⟩ ba bg bl M):=S
 refine S.ldB (b:=b10) ?_
 refine vz S.holds hp0 hargs λv9 s2 w9 e9 n9 h9=>?_
 obtain⟨S,_,a9⟩:=S.tell e9 n9
 have h9:SlG 4 (r.or s2) (OpG (r.or s2)) v9 (zu p):=h9.up' inferInstance λ_ _ h=>OpG.up h
 have hps:SlG 2 (r.or s2) (PlG (r.or s2)) (.slice qp ps.length cp) ps:=hps.up' inferInstance λ_ _ h=>PlG.up h
 have hu0:UnG (r.or s2) (.agg #[.slice p0 u.ss.length cap0,.slice (some ⟨bf,of,none⟩) u.fs.length capf,.int .i64 u.mn]) u:=UnG.up hu0
 have k1:PlG (r.or s2) [.int .i64 p.to.l,.slice z1 p.to.ps.length t1] p.to:=PlG.up (⟨_,rfl,k1⟩:PlG r _ p.to)
 have k5:PlG (r.or s2) [.int .i64 p.fr.l,.slice z5 p.fr.ps.length t5] p.fr:=PlG.up (⟨_,rfl,k5⟩:PlG r _ p.fr)
 have hp0:PtG (r.or s2) (ptL p z1 z2 z3 z4 z5 t1 t2 t3 t4 t5) p:=PtG.up hp0
 have hof:=aeE hargs
 have hoks:∀o∈zu p,o.k=3∨o.k=4→OkS u g o.pl:=λo ho hk=>by
  rw[OkS,← xj F.may.ok F.fine];exact F.oper hpm (amO ho hk)
 obtain⟨q9,c9,rfl,_,_⟩:=h9.shape
 have hus:=λi=>aj5 (u:=u) (g:=g) (ps:=ps) (p:=p) (i:=i)
 refine zh (ι:=Nat) (λi=>[.int .i64 (i:Nat)]) (λi w'=>i≤(zu p).length+1∧∃a:UsF,(i≤(zu p).length→a=opsF u g ps ((zu p).take i))∧(i=(zu p).length+1→(∀j,j<ps.length→a.all j=(yq u g ps p).all j∧a.again j=(yq u g ps p).again j))∧StX noX w (r.or s2) w' (QZ ps a ba bg bl M)) (λi=>(zu p).length+1-i) 0 rfl ⟨gzl _,_,λ_=>rfl,λe=>by omega,S⟩ ?_
 clear S
 rintro i d10 w10 ⟨hi,a,ha,hz,S⟩ K16 hK16
 rw[gdz]
 refine gp_ ?_
 refine gp_ ?_
 refine zf (λhle=>?_) (λhgt=>?_)
 rotate_left
 ·obtain rfl:i=(zu p).length+1:=by omega
  have hz:=hz rfl
  have S:StX noX w (r.or s2) w10 (.cell bg (mkB ps.length (yq u g ps p).again) 4::.cell ba (mkB ps.length (yq u g ps p).all) 4::.cell bl (mkB ps.length a.lost) 4::M):=by
   rw[← zD λj hj=>(hz j hj).1,← zD λj hj=>(hz j hj).2];exact S
  obtain⟨s5,S,a5,h5⟩:=JD S
  obtain⟨s6,S,a6,h6⟩:=JD S
  have S:=S.reGh.reGh
  exact h _ _ _ _ S.ext (S.newOf (a9.or' (a5.or' a6))) (h6.up' inferInstance λ_ _ h=>h) (h5.up' inferInstance λ_ _ h=>h)
 have hle:i≤(zu p).length:=by omega
 have ha:=ha hle
 clear hz h
 refine zn (λy w'=>y=[]∧∃a:UsF,(i+1≤(zu p).length→a=opsF u g ps ((zu p).take (i+1)))∧(i+1=(zu p).length+1→(∀j,j<ps.length→a.all j=(yq u g ps p).all j∧a.again j=(yq u g ps p).again j))∧StX noX w (r.or s2) w' (QZ ps a ba bg bl M)) (λK20 hK20=>?_) ?_
 rotate_left
 ·clear S ha
  rintro _ w12 ⟨rfl,a',ha,hz,S⟩ d12
  refine gp_ ?_
  rw[show ((i:Int)+1)=((i+1:Nat):Int)by omega]
  exact hK16 (i+1) _ ⟨by omega,a',ha,hz,S⟩ (by omega)
 clear hK16
 refine gp_ ?_
 refine S.mkS (by omega) (by omega) λbn w11 S=>?_
 rw[tnc,jx]at S
 rw[tnc]
 have S:StX noX w (r.or s2) w11 (.cell bn (mkB ps.length zB) 4::QZ ps a ba bg bl M):=S
 refine zn (λy w'=>y=[]∧StX noX w (r.or s2) w' (.cell bn (mkB ps.length (nowU u g ps p i)) 4::QZ ps a ba bg bl M)) (λK25 hK25=>?_) ?_
 ·refine gp_ ?_
  refine gp_ ?_
  refine zf (λhlt=>?_) (λhge=>?_)
  ·have hlt:i<(zu p).length:=by omega
   have hok:=hoks _ (gem hlt)
   rw[nowU,gqg hlt]at hK25
   obtain⟨bo,oo,cc,hoE,hcc,hoc,hoo⟩:=h9.get (by decide) hlt
   cases hoE
   clear ha hK20 hus
   generalize (zu p)[i]=o at *
   obtain⟨qq,ko,rfl⟩:=qW hoc
   obtain⟨_,hoE,hopl⟩:=id hoc
   cases hoE
   refine gp_ ?_
   refine gp_ ?_
   refine zg (v:=.int .u8 o.k) (by simpa using S.at (hoo 0 _ rfl)) ?_
   refine gp_ ?_
   refine zj (c:=decide (o.k=4)) (λ_ K2 hK2=>by
    refine gp_ ?_
    refine gp_ ?_
    refine zg (v:=.int .u8 o.k) (by simpa using S.at (hoo 0 _ rfl)) ?_
    refine gp_ ?_
    exact hK2) ?_
   refine c_b (λhk=>?_) (λhk=>?_)
   ·have hk':o.k=3∨o.k=4:=by simpa using hk
    have S:=S.go (Ext.drew _)
    refine S.ldB (b:=b4) ?_ rfl
    refine gp_ ?_
    refine gp_ ?_
    refine zp (n:=2) (c:=[.int .i64 o.pl.l,.slice qq o.pl.ps.length ko]) rfl (λj v hj=>by
     have hj2:j<2:=(List.getElem?_eq_some_iff.1 hj).1
     have:=S.at (hoo (2+j) v (by rw[← hj];rcases(show j=0∨j=1 by omega)with rfl|rfl<;>rfl))
     rw[← Nat.add_assoc]at this
     simpa using this) ?_
    refine Vc (bm:=bn) S hu0 F hps (⟨_,rfl,hopl⟩:PlG (r.or s2) _ o.pl) (hok hk') (by omega) λw12 S=>?_
    rw[zD (g:=λj=>zV o&&useF u g ps o.pl false j) λj _=>by rw[show zV o=true from hk];simp[zB]]at S
    exact hK25 _ _ ⟨rfl,S⟩
   ·rw[zD (g:=λj=>zV o&&useF u g ps o.pl false j) λj _=>by rw[show zV o=false from hk];simp[zB]]at S
    exact hK25 _ _ ⟨rfl,S⟩
  ·obtain rfl:i=(zu p).length:=by omega
   rw[nowU,List.getElem?_eq_none (Nat.le_refl _)]at hK25
   have hfr:p.op=4→OkS u g p.fr:=λho=>by
    rw[OkS,← xj F.may.ok F.fine];exact acp (F.pts p hpm) (by omega)
   refine zn (λy w'=>y=[]∧StX noX w (r.or s2) w' (.cell bn (mkB ps.length λj=>(if p.op=4 then [(p.fr,false)]else []).any λx=>useF u g ps x.1 x.2 j) 4::QZ ps a ba bg bl M)) (λK34 hK34=>?_) ?_
   ·refine gg_ ?_
    refine zf (λho=>?_) (λho=>?_)
    ·rw[if_pos ho]at hK34
     refine S.ldB (b:=b4) ?_ rfl
     refine gg_ ?_
     refine S.ldN (b:=b10) ?_
     refine Vc (bm:=bn) S hu0 F hps k5 (hfr ho) (by omega) λw12 S=>?_
     rw[zD (g:=λj=>([(p.fr,false)]:List (PlD×Bool)).any λx=>useF u g ps x.1 x.2 j) λj _=>by simp[zB]]at S
     exact hK34 _ _ ⟨rfl,S⟩
    ·rw[if_neg ho]at hK34
     exact hK34 _ _ ⟨rfl,S⟩
   clear S
   rintro _ w13 ⟨rfl,S⟩ d13
   refine zn (λy w'=>y=[]∧StX noX w (r.or s2) w' (.cell bn (mkB ps.length λj=>(if p.op=4 then [(p.fr,false)]else if p.op=14 then [(Xe,false)]else []).any λx=>useF u g ps x.1 x.2 j) 4::QZ ps a ba bg bl M)) (λK39 hK39=>?_) ?_
   ·refine gg_ ?_
    refine zf (λho=>?_) (λho=>?_)
    ·have h4:¬p.op=4:=by omega
     rw[if_neg h4]at S
     rw[if_neg h4,if_pos ho]at hK39
     refine S.ldB (b:=b4) ?_ rfl
     refine zy (cs:=#[.int .i64 0,.slice none 0 0]) (by kernel_rfl) ?_
     refine Vc (bm:=bn) (x:=Xe) (c:=[.int .i64 0,.slice none 0 0]) S hu0 F hps ⟨_,rfl,jI⟩ (alO F ht1) (by omega) λw12 S=>?_
     rw[zD (g:=λj=>([(Xe,false)]:List (PlD×Bool)).any λx=>useF u g ps x.1 x.2 j) λj _=>by simp]at S
     exact hK39 _ _ ⟨rfl,S⟩
    ·rw[if_neg ho]at hK39
     exact hK39 _ _ ⟨rfl,S⟩
   clear S
   rintro _ w14 ⟨rfl,S⟩ d14
   refine S.ldB (b:=b10) ?_
   refine ZB S.holds hp0 λw15 e15=>?_
   have S:=S.go e15
   refine c_b (λho=>?_) (λho=>?_)
   ·have hok:OkS u g p.to:=by
     rw[OkS,← xj F.may.ok F.fine]
     simp only[gba,gdt]at ho
     exact JW (F.pts p hpm) ho
    refine S.ldB (b:=b4) ?_ rfl
    refine gg_ ?_
    refine S.ldN (b:=b10) ?_
    refine ai2 (bm:=bn) S hu0 F hps k1 hok (by omega) λw16 S=>?_
    rw[zD (g:=Xg u g ps p) λj _=>by rw[Xg,if_pos ho,List.any_append];simp]at S
    exact hK25 _ _ ⟨rfl,S⟩
   ·rw[zD (g:=Xg u g ps p) λj _=>by rw[Xg,show (if(decide (1≤p.op)&&decide (p.op≤8))=true then [(p.to,true)]else [])=([]:List (PlD×Bool))from if_neg (by rw[ho];decide),List.append_nil]]at S
    exact hK25 _ _ ⟨rfl,S⟩
 clear S
 rintro _ w17 ⟨rfl,S⟩ d17
 have hnow:∀j,j<ps.length→(i=(zu p).length→nowU u g ps p i j=Xg u g ps p j)∧(∀hlt:i<(zu p).length,nowU u g ps p i j=(zV (zu p)[i]&&useF u g ps (zu p)[i].pl false j)):=λj _=>⟨λe=>by rw[nowU,e,List.getElem?_eq_none (Nat.le_refl _)],λhlt=>by rw[nowU,gqg hlt]⟩
 have hnowF:∀hlt:i<(zu p).length,nowU u g ps p i=λj=>zV (zu p)[i]&&useF u g ps (zu p)[i].pl false j:=λhlt=>by rw[nowU,gqg hlt]
 generalize nowU u g ps p i=us at *
 refine zh (ι:=Nat) (λk=>[.int .i64 (k:Nat)]) (λk w'=>k≤ps.length∧StX noX w (r.or s2) w' (.cell bn (mkB ps.length us) 4::QZ ps ⟨usB us a.all k,usB (λj=>us j&&a.lost j) a.again k,a.lost⟩ ba bg bl M)) (λk=>ps.length-k) 0 rfl ⟨gzl _,by
  show StX noX w (r.or s2) w17 (.cell bn _ _::.cell bg (mkB ps.length (usB (λj=>us j&&a.lost j) a.again 0)) 4::.cell ba (mkB ps.length (usB us a.all 0)) 4::.cell bl _ _::M)
  rw[zD (f:=usB us a.all 0) (g:=a.all) λi _=>by simp[usB],zD (f:=usB (λj=>us j&&a.lost j) a.again 0) (g:=a.again) λi _=>by simp[usB]];exact S⟩ ?_
 clear S
 rintro k d18 w18 ⟨hk,S⟩ K46 hK46
 rw[gdz]
 refine gp_ ?_
 refine gp_ ?_
 refine zf (λhlt=>?_) (λhge=>?_)
 ·have hlt:k<ps.length:=by omega
  have hix:0+((k:Nat):Int).toNat=k:=by omega
  refine zn (λy w'=>y=[]∧StX noX w (r.or s2) w' (.cell bn (mkB ps.length us) 4::QZ ps ⟨usB us a.all (k+1),usB (λj=>us j&&a.lost j) a.again (k+1),a.lost⟩ ba bg bl M)) (λK50 hK50=>?_) ?_
  ·refine gp_ ?_
   refine S.ld (b:=bn) (v:=.bool (us k)) ?_ (by rw[hix];exact aeA hlt)
   refine c_b (λhu1=>?_) (λhu1=>?_)
   ·refine gp_ ?_
    refine S.st (b:=ba) (λw19 S=>?_) (by rw[Z9];omega)
    rw[hix,Ya,zD λj _=>aeD hu1 j]at S
    have S:StX noX w (r.or s2) w19 (.cell bn (mkB ps.length us) 4::.cell bg (mkB ps.length (usB (λj=>us j&&a.lost j) a.again k)) 4::.cell ba (mkB ps.length (usB us a.all (k+1))) 4::.cell bl (mkB ps.length a.lost) 4::M):=S
    refine gp_ ?_
    refine S.ld (b:=bg) (v:=.bool (usB (λj=>us j&&a.lost j) a.again k k)) ?_ (by rw[hix];exact aeA hlt)
    refine zj (c:=a.lost k) (λ_ K2 hK2=>by
     refine gp_ ?_
     refine S.ld (b:=bl) (v:=.bool (a.lost k)) ?_ (by rw[hix];exact aeA hlt)
     exact hK2) ?_
    refine gp_ ?_
    refine S.st (b:=bg) (λw20 S=>?_) (by rw[Z9];omega)
    rw[hix,Ya,zD λj _=>amP hu1 j]at S
    exact hK50 _ _ ⟨rfl,S⟩
   ·have S:StX noX w (r.or s2) w18 (.cell bn (mkB ps.length us) 4::.cell bg (mkB ps.length (usB (λj=>us j&&a.lost j) a.again k)) 4::.cell ba (mkB ps.length (usB us a.all k)) 4::.cell bl (mkB ps.length a.lost) 4::M):=S
    rw[zD (f:=usB us a.all k) λj _=>adP hu1 j,zD (f:=usB (λj=>us j&&a.lost j) a.again k) λj _=>adP (by rw[hu1];rfl) j]at S
    exact hK50 _ _ ⟨rfl,S⟩
  ·clear S
   rintro _ w21 ⟨rfl,S⟩ d21
   refine gp_ ?_
   rw[show ((k:Int)+1)=((k+1:Nat):Int)by omega]
   exact hK46 (k+1) _ ⟨hlt,S⟩ (by omega)
 obtain rfl:k=ps.length:=by omega
 clear hK46 K46 hge hk
 have S:StX noX w (r.or s2) w18 (QZ ps ⟨λj=>a.all j||us j,λj=>a.again j||(us j&&a.lost j),a.lost⟩ ba bg bl M):=by
  have S:=S.tl
  have S:StX noX w (r.or s2) w18 (.cell bg (mkB ps.length (usB (λj=>us j&&a.lost j) a.again ps.length)) 4::.cell ba (mkB ps.length (usB us a.all ps.length)) 4::.cell bl (mkB ps.length a.lost) 4::M):=S
  rw[zD (f:=usB us a.all ps.length) (g:=λj=>a.all j||us j) λj hj=>by simp[usB,hj],zD (f:=usB (λj=>us j&&a.lost j) a.again ps.length) (g:=λj=>a.again j||(us j&&a.lost j)) λj hj=>by simp[usB,hj]]at S
  exact S
 refine gp_ ?_
 refine gp_ ?_
 by_cases hlt:i<(zu p).length
 ·have hstep:=aj6 (u:=u) (g:=g) (ps:=ps) (l:=zu p) hlt
  rw[← ha]at hstep
  have hnF:=hnowF hlt
  rw[hstep]at hK20
  obtain⟨bo,oo,cc,hoE,hcc,hoc,hoo⟩:=h9.get (by decide) hlt
  cases hoE
  clear hnow hnowF hus ha hstep
  generalize (zu p)[i]=o at *
  obtain⟨qq,ko,rfl⟩:=qW hoc
  obtain⟨_,hoE,hopl⟩:=id hoc
  cases hoE
  rw[gde (show((i:Nat):Int)<(((zu p).length:Nat):Int)by omega)]
  refine zi (b:=true) (c:=decide (o.k=4)) (λ_ K2 hK2=>by
   refine gp_ ?_
   refine gp_ ?_
   refine zg (v:=.int .u8 o.k) (by simpa using S.at (hoo 0 _ rfl)) ?_
   refine gp_ ?_
   exact hK2) ?_
  rw[Bool.true_and]
  refine zf (λhk=>?_) (λhk=>?_)
  ·have hkm:zV o=true:=by rw[zV,hk];rfl
   rw[if_pos hkm]at hK20
   refine gp_ ?_
   refine gp_ ?_
   refine zp (n:=2) (c:=[.int .i64 o.pl.l,.slice qq o.pl.ps.length ko]) rfl (λj v hj=>by
    have hj2:j<2:=(List.getElem?_eq_some_iff.1 hj).1
    have:=S.at (hoo (2+j) v (by rw[← hj];rcases(show j=0∨j=1 by omega)with rfl|rfl<;>rfl))
    rw[← Nat.add_assoc]at this
    simpa using this) ?_
   refine QY (bm:=bl) S hps (⟨_,rfl,hopl⟩:PlG (r.or s2) _ o.pl) (by omega) λw19 S=>?_
   refine hK20 _ _ ⟨rfl,_,λ_=>rfl,λe=>by omega,?_⟩
   have e:usF u g ps a (o.pl,false,decide (o.k=4))=⟨λj=>a.all j||us j,λj=>a.again j||(us j&&a.lost j),xB ps o.pl true a.lost⟩:=by
    rw[hnF,usF,hkm,if_pos (by simpa using hk)]
    simp
   rw[e]
   exact S
  ·refine hK20 _ _ ⟨rfl,_,λ_=>rfl,λe=>by omega,?_⟩
   have e:(if zV o=true then usF u g ps a (o.pl,false,decide (o.k=4))else a)=⟨λj=>a.all j||us j,λj=>a.again j||(us j&&a.lost j),a.lost⟩:=by
    rw[hnF]
    by_cases hkm:zV o=true
    ·rw[if_pos hkm,hkm,usF,if_neg (by simpa using hk)]
     simp
    ·have hkm2:zV o=false:=by simpa using hkm
     rw[if_neg hkm,hkm2];simp
   rw[e]
   exact S
 ·obtain rfl:i=(zu p).length:=by omega
  rw[decide_eq_false (show¬(((zu p).length:Nat):Int)<(((zu p).length:Nat):Int)by omega)]
  (intro K9 hK9;refine gd_ ?_;refine hK9 _ _ λ_=>?_;clear hK9 K9)
  refine gd_ ?_
  refine c_f rfl ?_
  refine hK20 _ _ ⟨rfl,_,λe=>by omega,λ_ j hj=>?_,S⟩
  rw[List.take_length]at ha
  obtain⟨h1,h2⟩:=hus j
  rw[← ha]at h1 h2
  have hn:=(hnow j hj).1 rfl
  exact⟨by rw[h1,← hn],by rw[h2,← hn]⟩
end
theorem aij{m:List Bool}:∀{k i:Nat},i+k=m.length→∃t,mkd m=mkd (m.take i)++t
 |0,i,h=>⟨[],by rw[show i=m.length by omega,List.take_length,List.append_nil]⟩
 |k+1,i,h=>by
  obtain⟨t,ht⟩:=aij (m:=m) (k:=k) (i:=i+1) (by omega)
  rw[agW (by omega),List.append_assoc]at ht
  exact⟨_,ht⟩
theorem ZF{l:List Int}{m:List Bool}{v vm:Value}{w:World}{r:Gh}{K:Value→World→Prop}(hr:Holds r w)(hl:SlG 1 r zQ v l)(hm:SlG 1 r jU vm m)(hmf:m.length≤1000000)(hlf:l.length≤1000000)
  (h:K (.bool (decide (l=mkd m))) w):zd Tryz.prog Tryz.kX #[v,vm] w K:=by
 refine Tryz.afY ?_
 unfold Tryz.aaJ
 obtain⟨p,cap,rfl,_,_⟩:=hl.shape
 obtain⟨pm,cm,rfl,_,_⟩:=hm.shape
 refine zh (ι:=Nat) (λi=>[.int .i64 ((mkd (m.take i)).length:Nat),.int .i64 (i:Nat)]) (λi w'=>w'=w∧i≤m.length∧(mkd (m.take i)).length≤l.length∧l.take (mkd (m.take i)).length=mkd (m.take i)) (λi=>m.length-i) 0 rfl ⟨rfl,gzl _,gzl _,rfl⟩ ?_
 rintro i d w' ⟨rfl,hi,hn,he⟩ K1 hK1
 simp only[gdz,gds]
 refine gp_ ?_
 refine gp_ ?_
 refine zf (λhlt=>?_) (λhge=>?_)
 ·have hlt:i<m.length:=by omega
  obtain⟨bm,om,rfl,_,gm⟩:=aeo hm hlt
  have hsn:=agW hlt
  obtain⟨t,ht⟩:=aij (m:=m) (k:=m.length-(i+1)) (i:=i+1) (by omega)
  refine zn (λy w''=>y=[.int .i64 ((mkd (m.take (i+1))).length:Nat)]∧w''=w'∧(mkd (m.take (i+1))).length≤l.length∧l.take (mkd (m.take (i+1))).length=mkd (m.take (i+1))) (λK5 hK5=>?_) ?_
  ·refine gg_ ?_
   refine zg (by rw[tnc];exact gm _ hr) ?_
   refine c_b (λhb=>?_) (λhb=>?_)
   ·rw[if_pos hb]at hsn
    generalize mkd (m.take i)=A at hsn hn he
    rw[hsn,List.append_assoc]at ht
    refine gg_ ?_
    by_cases hlA:A.length<l.length
    ·obtain⟨bl,ol,rfl,_,gl⟩:=xz hl hlA
     refine zj (c:=decide (l[A.length]≠(i:Int))) (λ_ K2 hK2=>?_) ?_
     ·refine gg_ ?_
      refine zg (by rw[tnc];exact gl _ hr) ?_
      refine gg_ ?_
      exact hK2
     refine c_b (λhc=>?_) (λhc=>?_)
     ·rw[Bool.or_eq_true,gdt,gdt]at hc
      have hc:=hc.resolve_left (by omega)
      have hne:¬l=mkd m:=λhh=>hc (by
       have h1:l[A.length]? = some l[A.length]:=gqg hlA
       have h2:(mkd m)[A.length]? = some (i:Int):=by rw[ht,List.getElem?_append_right (Nat.le_refl _),Nat.sub_self];rfl
       rw[← hh,h1]at h2
       exact Option.some.inj h2)
      rw[decide_eq_false hne]at h
      exact h
     ·rw[Bool.or_eq_false_iff,decide_eq_false_iff_not,decide_eq_false_iff_not,Decidable.not_not]at hc
      refine gg_ ?_
      refine hK5 _ _ ⟨by rw[hsn,gla,gls];rfl,rfl,by rw[hsn,gla,gls];omega,?_⟩
      rw[hsn,gla,gls,List.take_succ_eq_append_getElem hlA,he,hc.2]
    ·refine zj (c:=false) (λhc=>by exfalso;simp only[decide_eq_false_iff_not]at hc;omega) ?_
     refine c_t (by simp;omega) ?_
     rw[decide_eq_false (λhh=>by
      have:=congrArg List.length hh
      rw[ht]at this
      simp only[gla,gls]at this
      omega)]at h
     exact h
   ·rw[if_neg (by rw[hb];decide),List.append_nil]at hsn
    refine hK5 _ _ ⟨by rw[hsn],rfl,by rw[hsn];exact hn,by rw[hsn];exact he⟩
  rintro _ _ ⟨rfl,rfl,h1,h2⟩ d
  rw[gdz]
  refine gp_ ?_
  exact hK1 (i+1) _ ⟨rfl,hlt,h1,h2⟩ (by omega)
 ·have hie:i=m.length:=by omega
  subst hie
  rw[List.take_length]at hn he⊢
  refine gg_ ?_
  have e:decide (((mkd m).length:Int)=(l.length:Nat))=decide (l=mkd m):=by
   rw[decide_eq_decide]
   constructor
   ·intro hh
    rw[← he,List.take_of_length_le (by omega)]
   ·intro hh;rw[← hh]
  rw[e];exact h
theorem aa4{n:Nat}{f:Nat→Bool}:mkd ((List.range n).map f)=risI n f:=by
 rw[mkd,risI,List.length_map,List.length_range]
 rw[List.filter_congr (q:=f) λi hi=>by
  rw[ggd,List.getElem?_map,List.getElem?_range (List.mem_range.1 hi)];rfl]
 rfl
section
variable {u:UnD} {fn qi:Int} {g:GrD} {ps:List PlD} {v vps:Value} {q r:Gh} {p:PtD} {w0 w:World} {L:List Asr} {K:Value→World→Prop}
theorem ak5{n i:Nat}{f:Nat→Bool}(hi:i<n)(hf:f i=true)(hn:∀j,j<i→f j=false):kq n f=some (i:Int):=by
 rw[kq]
 have hm:(i:Int)∈risI n f:=JB.2 ⟨i,rfl,hi,hf⟩
 have ha:=aic (n:=n) (f:=f)
 cases hr:risI n f with
 |nil=>rw [hr]at hm;cases hm
 |cons x l=>
  rw[List.head?_cons]
  obtain⟨k,hk,hkn,hkf⟩:=JB.1 (show x∈risI n f by rw[hr];exact List.mem_cons_self)
  have h1:¬k<i:=λh=>by rw[hn k h]at hkf;cases hkf
  rw[hr]at hm ha
  rcases List.mem_cons.1 hm with e|h2
  ·rw[e]
  ·have:=(List.pairwise_cons.1 ha).1 _ h2
   omega
theorem ak6{n:Nat}{f:Nat→Bool}(hn:∀j,j<n→f j=false):kq n f=none:=by
 rw[kq]
 cases hr:risI n f with
 |nil=>rfl
 |cons x l=>
  obtain⟨k,hk,hkn,hkf⟩:=JB.1 (show x∈risI n f by rw[hr];exact List.mem_cons_self)
  rw[hn k hkn]at hkf;cases hkf
theorem ai4(hr:Holds r w)(hu:UnG r v u)(F:FnM u fn g)(hq0:0≤qi)(hq:qi.toNat<g.pts.length)(hpe:g.pts[qi.toNat]=p)(hps:SlG 2 r (PlG r) vps ps)(hf:ps.length≤256)
  (h:∀v1 s w',Ext w w'→New w s w'→SlG 1 s jU v1 ((List.range ps.length).map (yq u g ps p).all)→K (.tuple #[v1,.int .i64 ((kq ps.length (yq u g ps p).again).getD (-1))]) w'):
  zd Tryz.prog Tryz.Xy #[v,.int .i64 fn,.int .i64 qi,vps] w K:=by
 refine Tryz.afW ?_
 unfold Tryz.aaC
 have hu0:=hu
 obtain⟨p0,cap0,vf,rfl,_,_,hst,hsl,hfn⟩:=hu
 obtain⟨qf,capf,rfl,_,_⟩:=hfn.sl.shape
 obtain⟨qp,cp,rfl,_,_⟩:=hps.shape
 have S:=St.start hr
 refine S.box λb4 w1 S=>?_
 have S:StX noX w r w1 [.cell b4 [.slice p0 u.ss.length cap0,.slice qf u.fs.length capf,.int .i64 u.mn] 25]:=S
 refine S.ldB (b:=b4) ?_ rfl
 refine ai3 S.holds hu0 F hq0 hq hpe hps hf λv1 v2 s w2 e2 n2 h1 h2=>?_
 obtain⟨S,_,a2⟩:=S.tell e2 n2
 obtain⟨q2,c2,rfl,_,_⟩:=h2.shape
 have h:=λx (hx:kq ps.length (yq u g ps p).again=x)=>hx▸h v1 s w2 S.ext (S.newOf a2) h1
 have hml:((List.range ps.length).map (yq u g ps p).again).length=ps.length:=by simp
 refine gp_ ?_
 refine gp_ ?_
 refine zh (ι:=Nat) (λi=>[.int .i64 (i:Nat)]) (λi w'=>w'=w2∧i≤ps.length∧∀j,j<i→(yq u g ps p).again j=false) (λi=>ps.length-i) 0 rfl ⟨rfl,gzl _,λj hj=>by omega⟩ ?_
 rintro i d w' ⟨rfl,hi,hn⟩ K1 hK1
 rw[gdz]
 refine gp_ ?_
 refine gp_ ?_
 refine zf (λhlt=>?_) (λhge=>?_)
 ·have hlt:i<ps.length:=by omega
  obtain⟨bm,om,hE,_,gm⟩:=aeo h2 (i:=i) (by rw[hml];exact hlt)
  cases hE
  rw[List.getElem_map,List.getElem_range]at gm
  refine s_c (by rw[hml];omega) ?_
  refine zg (by rw[tnc];exact S.at gm) ?_
  refine c_b (λhb=>?_) (λhb=>?_)
  ·have:=h _ (ak5 hlt hb hn)
   exact this
  ·refine gp_ ?_
   rw[show ((i:Int)+1)=((i+1:Nat):Int)by omega]
   refine hK1 (i+1) _ ⟨rfl,hlt,λj hj=>?_⟩ (by omega)
   by_cases e:j=i
   ·rw[e];exact hb
   ·exact hn j (by omega)
 ·obtain rfl:i=ps.length:=by omega
  exact h _ (ak6 hn)
theorem ahq{vm:Value}{f:Nat→Bool}(hr:Holds r w)(hu:UnG r v u)(F:FnM u fn g)(hq0:0≤qi)(hq:qi.toNat<g.pts.length)(hpe:g.pts[qi.toNat]=p)(hps:SlG 2 r (PlG r) vps ps)(hf:ps.length≤256)(hm:SlG 1 r jU vm ((List.range ps.length).map f))
  (h:∀v1 s w',Ext w w'→New w s w'→SlG 1 s jU v1 ((List.range ps.length).map λi=>(f i||(yh u g ps p).1 i) && !(yh u g ps p).2 i)→K v1 w'):
  zd Tryz.prog Tryz.ZV #[v,.int .i64 fn,.int .i64 qi,vps,vm] w K:=by
 refine Tryz.adB ?_
 unfold Tryz.Jw
 have hu0:=hu
 obtain⟨p0,cap0,vf,rfl,_,_,hst,hsl,hfn⟩:=hu
 obtain⟨qf,capf,rfl,_,_⟩:=hfn.sl.shape
 obtain⟨qp,cp,rfl,_,_⟩:=hps.shape
 obtain⟨qm,cm,rfl,_,_⟩:=hm.shape
 have S:=St.start hr
 refine S.box λb4 w1 S=>?_
 have S:StX noX w r w1 [.cell b4 [.slice p0 u.ss.length cap0,.slice qf u.fs.length capf,.int .i64 u.mn] 25]:=S
 refine S.ldB (b:=b4) ?_ rfl
 refine adQ S.holds hu0 F hq0 hq hpe hps hf λv1 v2 s w2 e2 n2 h1 h2=>?_
 obtain⟨S,_,a2⟩:=S.tell e2 n2
 obtain⟨q1,c1,rfl,_,_⟩:=h1.shape
 obtain⟨q2,c2,rfl,_,_⟩:=h2.shape
 have hml:∀f:Nat→Bool,((List.range ps.length).map f).length=ps.length:=λf=>by simp
 refine gp_ ?_
 refine gp_ ?_
 refine gp_ ?_
 refine S.mkS (by omega) (by omega) λbn w3 S=>?_
 rw[tnc,jx]at S
 rw[tnc]
 refine zh (ι:=Nat) (λi=>[.int .i64 (i:Nat)]) (λi w'=>i≤ps.length∧StX noX w (r.or s) w' [.cell bn (mkB ps.length (λj=>decide (j<i)&&((f j||(yh u g ps p).1 j) && !(yh u g ps p).2 j))) 4,.cell b4 [.slice p0 u.ss.length cap0,.slice qf u.fs.length capf,.int .i64 u.mn] 25]) (λi=>ps.length-i) 0 rfl ⟨gzl _,by rw[zD (g:=zB) λj _=>by simp[zB]];exact S⟩ ?_
 clear S
 rintro i d w4 ⟨hi,S⟩ K1 hK1
 rw[gdz]
 refine gp_ ?_
 refine gp_ ?_
 refine zf (λhlt=>?_) (λhge=>?_)
 ·have hlt:i<ps.length:=by omega
  have get:∀{κ:Gh}{q0 c0}{f:Nat→Bool},SlG 1 κ jU (.slice q0 ((List.range ps.length).map f).length c0) ((List.range ps.length).map f)→∃b off,q0=some ⟨b,off,none⟩∧Ob κ λw=>w.cell? ⟨b,off+i,none⟩=some (.bool (f i)):=fun {κ q0 c0 f} hh=>by
   obtain⟨bm,om,hE,_,gm⟩:=aeo hh (i:=i) (by rw[hml];exact hlt)
   rw[List.getElem_map,List.getElem_range]at gm
   exact⟨bm,om,hE,gm⟩
  obtain⟨ba,oa,rfl,ga⟩:=get hm
  obtain⟨bb,ob,rfl,gb⟩:=get h1
  obtain⟨bc,oc,rfl,gc⟩:=get h2
  simp only[hml]
  refine s_c (by omega) ?_
  refine zg (by rw[tnc];exact S.at ga) ?_
  refine zj (c:=(yh u g ps p).1 i) (λ_ K2 hK2=>by
   refine gp_ ?_
   refine zg (by rw[tnc];exact S.at gb) ?_
   exact hK2) ?_
  refine zi (c:=!(yh u g ps p).2 i) (λ_ K2 hK2=>by
   refine gp_ ?_
   refine zg (by rw[tnc];exact S.at gc) ?_
   refine gp_ ?_
   exact hK2) ?_
  refine gp_ ?_
  refine S.st (b:=bn) (λw5 S=>?_) (by rw[Z9];omega)
  rw[show 0+((i:Nat):Int).toNat=i by omega,Ya,zD (g:=λj=>decide (j<i+1)&&((f j||(yh u g ps p).1 j) && !(yh u g ps p).2 j)) λj _=>by
   unfold xm
   by_cases e:j=i
   ·subst e;simp
   ·have :(j<i+1)=(j<i):=by rw[eq_iff_iff];omega
    simp[e,this]]at S
  refine gp_ ?_
  rw[show ((i:Int)+1)=((i+1:Nat):Int)by omega]
  exact hK1 (i+1) _ ⟨hlt,S⟩ (by omega)
 ·obtain rfl:i=ps.length:=by omega
  rw[zD (g:=λi=>(f i||(yh u g ps p).1 i) && !(yh u g ps p).2 i) λj hj=>by simp[hj]]at S
  obtain⟨s5,S,a5,h5⟩:=JD S
  have S:=S.reGh
  exact h _ _ _ S.ext (S.newOf (a2.or' a5)) (h5.up' inferInstance λ_ _ h=>h)
end
theorem X0{x y:Int}(h:x<y):yU x y = -1:=by unfold yU;simp[h]
theorem aaN{x y:Int}(h:y<x):yU x y=1:=by rw[J9,X0 h];rfl
theorem aik:∀{i:Nat}{l m:List Int}(h1:i<l.length)(h2:i<m.length),l.take i=m.take i→l[i]≠m[i]→xk l m=yU l[i] m[i]
 |_,[],_,h1,_,_,_=>by simp at h1
 |_,_::_,[],_,h2,_,_=>by simp at h2
 |0,x::l,y::m,_,_,_,hne=>by
  rw[xk,if_neg (show¬x=y from hne)];rfl
 |i+1,x::l,y::m,h1,h2,ht,hne=>by
  rw[List.take_succ_cons,List.take_succ_cons]at ht
  injection ht with e1 e2
  rw[xk,if_pos e1]
  exact aik (i:=i) (by simpa using h1) (by simpa using h2) e2 hne
theorem acD:∀{l m:List Int},l=m.take l.length→xk l m=yU l.length m.length
 |[],[],_=>by rw[xk];exact(xa.2 rfl).symm
 |[],y::m,_=>by rw[xk];exact(X0 (by simp)).symm
 |x::l,[],h=>by simp at h
 |x::l,y::m,h=>by
  rw[List.length_cons,List.take_succ_cons]at h
  injection h with e1 e2
  rw[xk,if_pos e1,acD e2]
  have key:∀a b:Int,yU a b=yU (a+1) (b+1):=λa b=>by
   rcases Int.lt_trichotomy a b with h|h|h
   ·rw[X0 h,X0 (by omega)]
   ·rw[xa.2 h,xa.2 (by omega)]
   ·rw[aaN h,aaN (by omega)]
  rw[key];rfl
theorem aeF{p q:PlD}{c d:List Value}{w:World}{r:Gh}{K:Value→World→Prop}(hr:Holds r w)(hp:PlG r c p)(hq:PlG r d q)
  (h:∀w',Ext w w'→K (.int .i64 (zJ p q)) w'):zd Tryz.prog Tryz.qI #[.agg c.toArray,.agg d.toArray] w K:=by
 refine Tryz.Jl ?_
 unfold Tryz.YR
 obtain⟨v,rfl,hv⟩:=hp
 obtain⟨u,rfl,hu⟩:=hq
 obtain⟨pa,ca,rfl,_,_⟩:=hv.sl.shape
 obtain⟨pb,cb,rfl,_,_⟩:=hu.sl.shape
 have hla:p.ps.length≤9223372036854775807:=hv.few
 have S:=St.start hr
 refine S.box λb2 w1 S=>?_
 have S:StX noX w r w1 [.cell b2 [.int .i64 p.l,.slice pa p.ps.length ca] 59]:=S
 refine S.box λb3 w2 S=>?_
 have S:StX noX w r w2 [.cell b3 [.int .i64 q.l,.slice pb q.ps.length cb] 59,.cell b2 [.int .i64 p.l,.slice pa p.ps.length ca] 59]:=S
 have no1:∀{w'}{x:Int},Ext w w'→zJ p q=x→K (.int .i64 x) w':=λe hx=>hx▸h _ e
 refine gg_ ?_
 refine zf (λhne=>?_) (λheq=>?_)
 ·refine gg_ ?_
  refine zf (λhl=>no1 S.ext (by rw[zJ,if_neg hne];exact X0 hl)) (λhl=>no1 S.ext (by rw[zJ,if_neg hne];exact aaN (by omega)))
 have hl:p.l=q.l:=Decidable.not_not.1 heq
 refine zh (ι:=Nat) (λi=>[.int .i64 (i:Nat)]) (λi w'=>i≤p.ps.length∧i≤q.ps.length∧p.ps.take i=q.ps.take i∧StX noX w r w' [.cell b3 [.int .i64 q.l,.slice pb q.ps.length cb] 59,.cell b2 [.int .i64 p.l,.slice pa p.ps.length ca] 59]) (λi=>p.ps.length-i) 0 rfl ⟨gzl _,gzl _,rfl,S⟩ ?_
 clear S
 rintro i dd w6 ⟨hi,hj,htk,S⟩ K3 hK3
 rw[gdz]
 refine gg_ ?_
 refine zi (c:=decide ((i:Int)<q.ps.length)) (λ_ K2 hK2=>by refine gg_ ?_;exact hK2) ?_
 refine c_b (λhb=>?_) (λhb=>?_)
 ·simp only[gba,gdt]at hb
  have hlt:i<p.ps.length:=by omega
  have hlt2:i<q.ps.length:=by omega
  obtain⟨ba,oa,cc,rfl,hcl,⟨rfl,_⟩,hca⟩:=hv.sl.get (by decide) hlt
  obtain⟨bb,ob,dc,rfl,hdl,⟨rfl,_⟩,hcb⟩:=hu.sl.get (by decide) hlt2
  have S:=S.go (Ext.drew _)
  have lo1:∀{w':World}{M:List Asr},StX noX w r w' M→w'.cell? ⟨ba,oa+i,none⟩=some (.int .i64 p.ps[i]):=λS=>by simpa using S.at (hca 0 _ rfl)
  have lo2:∀{w':World}{M:List Asr},StX noX w r w' M→w'.cell? ⟨bb,ob+i,none⟩=some (.int .i64 q.ps[i]):=λS=>by simpa using S.at (hcb 0 _ rfl)
  refine gg_ ?_
  refine zg (v:=.int .i64 p.ps[i]) (by rw[tnc];exact lo1 S) ?_
  refine gg_ ?_
  refine zg (v:=.int .i64 q.ps[i]) (by rw[tnc];exact lo2 S) ?_
  refine gg_ ?_
  have hpq:p.ps[i]≠q.ps[i]→zJ p q=yU p.ps[i] q.ps[i]:=λhne=>by rw[zJ,if_pos hl,aik hlt hlt2 htk hne]
  refine zf (λh1=>no1 S.ext (by rw[hpq (by omega)];exact X0 h1)) (λh1=>?_)
  have S:=S.go (Ext.drew _)
  refine gg_ ?_
  refine zg (v:=.int .i64 p.ps[i]) (by rw[tnc];exact lo1 S) ?_
  refine gg_ ?_
  refine zg (v:=.int .i64 q.ps[i]) (by rw[tnc];exact lo2 S) ?_
  refine gg_ ?_
  refine zf (λh2=>no1 S.ext (by rw[hpq (by omega)];exact aaN h2)) (λh2=>?_)
  refine gg_ ?_
  refine hK3 (i+1) _ ⟨hlt,hlt2,?_,S⟩ (by omega)
  rw[List.take_succ_eq_append_getElem hlt,List.take_succ_eq_append_getElem hlt2,htk,show p.ps[i]=q.ps[i]by omega]
 ·simp only[Bool.and_eq_false_iff,decide_eq_false_iff_not]at hb
  have hle:zJ p q=yU p.ps.length q.ps.length:=by
   rw[zJ,if_pos hl]
   rcases Nat.lt_or_ge p.ps.length q.ps.length with hh|hh
   ·have hpi:p.ps.length=i:=by omega
    rw[← hpi,List.take_length]at htk
    exact(acD htk).trans rfl
   ·have hqi:q.ps.length=i:=by omega
    rw[← hqi,List.take_length]at htk
    rw[acx,acD htk.symm,← J9]
  refine gg_ ?_
  refine zf (λh1=>no1 S.ext (by rw[hle];exact X0 h1)) (λh1=>?_)
  refine gg_ ?_
  refine zf (λh2=>no1 S.ext (by rw[hle];exact aaN h2)) (λh2=>?_)
  exact no1 S.ext (by rw[hle];exact xa.2 (by omega))
section
variable {p:PlD} {c:List Value} {w:World} {r:Gh} {K:Value→World→Prop}
theorem aj7{i:Nat}(hr:Holds r w)(hp:PlG r c p)(hi:i≤p.ps.length)(hfew:p.ps.length≤100000)(h:∀v s w',Ext w w'→New w s w'→SlB 1 s yE v (p.ps.take i)→K (.agg #[.int .i64 p.l,v]) w'):
  zd Tryz.prog Tryz.QG #[.agg c.toArray,.int .i64 (i:Nat)] w K:=by
 refine Tryz.ag5 ?_
 unfold Tryz.abL
 obtain⟨vv,rfl,hl⟩:=hp
 obtain⟨qs,caps,rfl,hnil,hcap⟩:=hl.sl.shape
 have S:=St.start hr
 refine S.box λb2 w1 S=>?_
 refine S.al λb4 w2 S=>?_
 have S:StX noX w r w2 [.cell b4 [.int .i64 0,.slice none 0 0] 59,.cell b2 [.int .i64 p.l,.slice qs p.ps.length caps] 59]:=S
 refine gg_ ?_
 refine S.al λb5 w3 S=>?_
 refine S.stB (b:=b5) λw4 S=>?_
 have S:StX noX w r w4 [.cell b5 [.int .i64 p.l,.slice none 0 0] 59,.cell b4 [.int .i64 0,.slice none 0 0] 59,.cell b2 [.int .i64 p.l,.slice qs p.ps.length caps] 59]:=S
 have S:=S.go (Ext.drew _)
 refine gg_ ?_
 rw[tnc]
 have hps:(p.ps.take i).length=i:=by rw[List.length_take];omega
 have hs0:=aii hl (n:=i) (by omega)
 have S:=S.ownNil 76 1
 have hs1:SlG 1 r yE (.slice qs (p.ps.take i).length caps) (p.ps.take i):=by rw[hps];exact hs0.sl
 obtain⟨xs,hxr,hxs⟩:=vU (by decide) hs1
 refine S.ap (v:=.slice none 0 0) (S.at hxs) (λv' w11 S=>?_) (by omega) (by rw[hxr.1,hps]) hnil (xU hxr (by decide) λc x hx=>by rw[hx.1];simp[Value.oneCell'])
 rw[Nat.zero_add,List.nil_append]at S
 obtain⟨s5,T,h5,_,a5⟩:=S.doneRow (l:=p.ps.take i) hxr (by decide) hps.symm
 obtain⟨q5,c5,rfl,_,_⟩:=h5.shape
 repeat clear S
 have S:=T
 clear T
 refine gp_ ?_
 refine S.st (b:=b5) (λw12 S=>?_) (by simp)
 have S:StX noX w (r.or s5) w12 [.cell b5 [.int .i64 p.l,.slice q5 (p.ps.take i).length c5] 59,.cell b4 [.int .i64 0,.slice none 0 0] 59,.cell b2 [.int .i64 p.l,.slice qs p.ps.length caps] 59]:=S
 refine S.ldB (b:=b5) ?_ rfl
 refine S.stB (b:=b4) λw13 S=>?_
 refine S.ceB (b:=b4) ?_ rfl
 exact h _ s5 _ S.ext (S.newOf λb o ho=>(a5 b o ho).resolve_right id) (vT h5 (by rw[hps];omega))
theorem aeG(hr:Holds r w)(hp:PlG r c p)(hb:p.ps.length≤100000)
  (h:∀v s w',Ext w w'→New w s w'→SlG 2 s (PlG s) v (pfxs p)→K v w'):zd Tryz.prog Tryz.vw #[.agg c.toArray] w K:=by
 refine Tryz.abi ?_
 unfold Tryz.XV
 have hp0:=hp
 obtain⟨v,rfl,hl⟩:=hp
 obtain⟨qs,caps,rfl,_,hcap⟩:=hl.sl.shape
 have S:=St.start hr
 refine S.box λb1 w1 S=>?_
 have S:StX noX w r w1 [.cell b1 [.int .i64 p.l,.slice qs p.ps.length caps] 59]:=S
 have S:=(S.ownNil 59 2).less (q:=r.or nothing) (λb o h=>Or.elim h id λh=>h.elim) (List.Sublist.refl _)
 refine zh (ι:=Value×Nat) (λi=>[i.1,.int .i64 (i.2:Nat)]) (λi w'=>i.2≤p.ps.length+1∧∃s xs,Above w s∧RowOf 2 (PlG s) xs ((List.range i.2).map (QT p))∧StX noX w (r.or s) w' [.row i.1 59 2 i.2 xs,.cell b1 [.int .i64 p.l,.slice qs p.ps.length caps] 59]) (λi=>p.ps.length+1-i.2) (.slice none 0 0,0) rfl ⟨gzl _,nothing,[],Above.no,RowOf.nil,S⟩ ?_
 clear S
 rintro⟨v,i⟩ d w5 ⟨hi,s,xs,ha,hx,S⟩ K2 hK2
 simp only at hi hx S⊢
 simp only[gdz,gds]
 refine gg_ ?_
 refine zf (λhlt=>?_) (λhge=>?_)
 ·have hlt:i<p.ps.length+1:=by omega
  refine S.ldB (b:=b1) ?_ rfl
  refine aj7 S.holds (PlG.up hp0) (by omega) hb λv3 s3 w3 e3 n3 h3=>?_
  obtain⟨S,_,a3⟩:=S.tell e3 n3
  have S:=S.reGh
  obtain⟨q3,c3,rfl,_,_⟩:=h3.sl.shape
  refine S.lit (e:=59) (cs:=[.int .i64 p.l,.slice q3 (p.ps.take i).length c3]) (by kernel_rfl) λb4 w4 S=>?_
  refine S.ap (v:=v) (m':=1) (Sl.blk (S.blk b4)) (λv5 w5 S=>?_) (by omega)
  have S:=S.drop b4
  refine gp_ ?_
  rw[show ((i:Int)+1)=((i+1:Nat):Int)by omega]
  refine hK2 (v5,i+1) _ ⟨hlt,s.or s3,_,ha.or' a3,?_,S⟩ (by show p.ps.length+1-(i+1)<p.ps.length+1-i;omega)
  rw[List.range_succ,List.map_append]
  exact(hx.mono λc x hx=>PlG.up hx).snoc rfl ⟨_,rfl,h3.cells⟩
 ·obtain rfl:i=p.ps.length+1:=by omega
  obtain⟨s2,S,h2,_,a2⟩:=S.doneRow (l:=pfxs p) (R:=PlG s) (sz:=2) hx (by decide) Z4.symm
  exact h v (s.or s2) _ S.ext (S.reGh.newOf (ha.or' λb o ho=>(a2 b o ho).resolve_right id)) (h2.up' inferInstance λc x hx=>PlG.up hx)
theorem aj8:∀{l:List PlD}{p:PlD}{i:Nat}(hi:i<l.length),(∀j (hj:j<l.length),j<i→zJ l[j] p<0)→l[i]=p→kp p l=l
 |[],p,i,hi,_,_=>by simp at hi
 |q::l,p,0,hi,_,h2=>by
  have e:zJ q p=0:=xW.2 h2
  rw[kp,if_neg (by omega),if_pos e]
 |q::l,p,i+1,hi,h1,h2=>by
  have h0:zJ q p<0:=h1 0 (Nat.succ_pos _) (Nat.succ_pos _)
  rw[kp,if_pos h0,aj8 (l:=l) (i:=i) (by simpa using hi) (λj hj hji=>h1 (j+1) (by simpa using hj) (by omega)) h2]
theorem ail:∀{l:List PlD}{p:PlD}{i:Nat}(hi:i≤l.length),(∀j (hj:j<l.length),j<i→zJ l[j] p<0)→(∀h:i<l.length,¬zJ l[i] p<0∧l[i]≠p)→kp p l=l.take i++p::l.drop i
 |[],p,i,hi,_,_=>by
  have :i=0:=by simpa using hi
  subst this
  rfl
 |q::l,p,0,hi,_,h2=>by
  obtain⟨h2,h3⟩:=h2 (Nat.succ_pos _)
  have h2:¬zJ q p<0:=h2
  have h3:q≠p:=h3
  rw[kp,if_neg h2,if_neg (λhh=>h3 (xW.1 hh))];rfl
 |q::l,p,i+1,hi,h1,h2=>by
  have h0:zJ q p<0:=h1 0 (Nat.succ_pos _) (Nat.succ_pos _)
  rw[kp,if_pos h0,ail (l:=l) (i:=i) (by simpa using hi) (λj hj hji=>h1 (j+1) (by simpa using hj) (by omega)) λh=>h2 (by simpa using h)]
  rfl
theorem ak7{w:World}{q:Option Addr}{vs:List Value}{cap i k:Nat}(h:Sl w q vs)(hc:cap=i→vs.length≤k):Sl w (if cap=i then q else q.map (·.add k)) (vs.drop k):=λj v hv=>by
 rw[List.getElem?_drop]at hv
 by_cases e:cap=i
 ·have:=(List.getElem?_eq_some_iff.1 hv).1
  have:=hc e
  omega
 ·obtain⟨b,off,hq,hcell⟩:=h (k+j) v hv
  rw[if_neg e,hq]
  refine⟨b,off+k,by rw[Option.map_some,xv],?_⟩
  rw[Nat.add_assoc];exact hcell
theorem aj9{v:Value}{l:List PlD}(hr:Holds r w)(hl:SlG 2 r (PlG r) v l)(hp:PlG r c p)(hb:l.length≤100000000)
  (h:∀v' s w',Ext w w'→New w s w'→SlG 2 (r.or s) (PlG (r.or s)) v' (kp p l)→K v' w'):zd Tryz.prog Tryz.QF #[v,.agg c.toArray] w K:=by
 refine Tryz.ag4 ?_
 unfold Tryz.abK
 have hp0:=hp
 obtain⟨vv,rfl,hpl⟩:=hp
 obtain⟨qs,caps,rfl,_,_⟩:=hpl.sl.shape
 obtain⟨ql,cl,rfl,hnil,hcl⟩:=hl.shape
 have S:=St.start hr
 refine S.box λb3 w1 S=>?_
 have S:StX noX w r w1 [.cell b3 [.int .i64 p.l,.slice qs p.ps.length caps] 59]:=S
 refine zh (ι:=Nat) (λi=>[.int .i64 (i:Nat)]) (λi w'=>i≤l.length∧(∀j (hj:j<l.length),j<i→zJ l[j] p<0)∧StX noX w r w' [.cell b3 [.int .i64 p.l,.slice qs p.ps.length caps] 59]) (λi=>l.length-i) 0 rfl ⟨gzl _,λj _ h=>by omega,S⟩ ?_
 clear S
 rintro i d w5 ⟨hi,hlo,S⟩ K2 hK2
 rw[gdz]
 have key:(∀hh:i<l.length,¬zJ l[i] p<0∧l[i]≠p)→∀w',StX noX w r w' [.cell b3 [.int .i64 p.l,.slice qs p.ps.length caps] 59]→
   Tryz.pp (Instr.sliceAt 37 (.slice ql l.length cl) none (some (.int .i64 (i:Nat))) none) λt38=>Tryz.pw w' (Builtin.append_ #[37,37] 37 #[(Value.slice Option.none 0 0),t38]) λt39 w16=>
    Tryz.lo w16 59 (.pointer (some ⟨b3,0,none⟩)) λt41=>Tryz.pw w16 (Instr.buildSlice 37 1 #[(0,t41)]) λt42 w17=>Tryz.pw w17 (Builtin.append_ #[37,37] 37 #[t39,t42]) λt43 w18=>
    Tryz.pp (Instr.sliceAt 37 (.slice ql l.length cl) (some (.int .i64 (i:Nat))) none none) λt47=>Tryz.pw w18 (Builtin.append_ #[37,37] 37 #[t43,t47]) λt48 w19=>K t48 w19:=λhstop w' S=>by
  obtain⟨xs,hx,hxs⟩:=vU (by decide) hl
  have h1:=xU hx (by decide) λc x hx=>aa2 hx
  have hxl:xs.length=l.length*2:=hx.1
  refine gp_ ?_
  rw[tnc]
  have S:=S.ownNil 59 2
  refine S.ap (v:=.slice none 0 0) ((S.at hxs).take (i*2)) (λv1 w2 S=>?_) (by omega) (by rw[List.length_take];omega) (λe=>by have:=hnil e;omega) (λu hu=>h1 u (List.mem_of_mem_take hu))
  rw[Nat.zero_add,List.nil_append]at S
  refine S.ldB (b:=b3) ?_ rfl
  refine S.lit (e:=59) (cs:=[.int .i64 p.l,.slice qs p.ps.length caps]) (by kernel_rfl) λb4 w3 S=>?_
  refine S.ap (v:=v1) (m':=1) (Sl.blk (S.blk b4)) (λv2 w4 S=>?_) (by omega)
  have S:=S.drop b4
  refine gp_ ?_
  rw[tnc]
  refine S.ap (v:=v2) (ak7 (S.at hxs) (λe=>by omega)) (λv3 w5 S=>?_) (by omega) (by rw[List.length_drop];omega) (λe=>by
   split at e
   ·have:=hnil e;omega
   ·cases ql with
    |none=>have:=hnil rfl;omega
    |some a=>cases e) (λu hu=>h1 u (List.mem_of_mem_drop hu))
  have hlen:i+1+(l.length-i)=(l.take i++p::l.drop i).length:=by rw[gla,List.length_take,List.length_cons,List.length_drop];omega
  have hrow:RowOf 2 (PlG r) (xs.take (i*2)++[.int .i64 p.l,.slice qs p.ps.length caps]++xs.drop (i*2)) (l.take i++p::l.drop i):=by
   have a1:RowOf 2 (PlG r) (xs.take (i*2)) (l.take i):=⟨by rw[List.length_take,List.length_take];omega,λj hj=>by
    rw[List.length_take]at hj
    rw[List.getElem_take,List.drop_take,List.take_take,Nat.min_eq_left (by omega)]
    exact hx.2 j (by omega)⟩
   have a2:RowOf 2 (PlG r) (xs.drop (i*2)) (l.drop i):=⟨by rw[List.length_drop,List.length_drop,hxl,Nat.sub_mul],λj hj=>by
    rw[List.length_drop]at hj
    rw[List.getElem_drop,List.drop_drop,show i*2+j*2=(i+j)*2 by omega]
    exact hx.2 (i+j) (by omega)⟩
   rw[List.append_assoc]
   exact aaG a1 (xD rfl hp0 a2)
  rw[hlen]at S
  obtain⟨s5,S,h5,_,a5⟩:=S.doneRow hrow (by decide) rfl
  rw[← ail hi hlo hstop]at h5
  exact h _ s5 _ S.ext (S.newOf λb o ho=>(a5 b o ho).resolve_right id) (h5.up' inferInstance λ_ _ h=>PlG.up h)
 refine gp_ ?_
 refine gp_ ?_
 by_cases hlt:i<l.length
 ·obtain⟨bo,oo,co,hE,hco,hoc,hoo⟩:=hl.get (by decide) hlt
  cases hE
  rw[gde (show((i:Nat):Int)<((l.length:Nat):Int)by omega)]
  have S:=S.go (Ext.drew _)
  intro K9 hK9
  refine gd_ ?_
  refine zp (n:=2) hco (λj v hj=>by simpa using S.at (hoo j v hj)) ?_
  refine S.ldB (b:=b3) ?_ rfl
  refine aeF S.holds hoc hp0 λw6 e6=>?_
  have S:=S.go e6
  refine gp_ ?_
  refine hK9 _ _ λ_=>?_
  clear hK9 K9
  refine gd_ ?_
  refine zf (λhneg=>?_) (λhpos=>?_)
  ·refine gp_ ?_
   rw[show ((i:Int)+1)=((i+1:Nat):Int)by omega]
   refine hK2 (i+1) _ ⟨hlt,λj hj hji=>?_,S⟩ (by omega)
   by_cases e:j=i
   ·subst e;exact hneg
   ·exact hlo j hj (by omega)
  clear hK2
  refine gp_ ?_
  refine gp_ ?_
  rw[gde (show((i:Nat):Int)<((l.length:Nat):Int)by omega)]
  have S:=S.go (Ext.drew _)
  intro K9 hK9
  refine gd_ ?_
  refine zp (n:=2) hco (λj v hj=>by simpa using S.at (hoo j v hj)) ?_
  refine S.ldB (b:=b3) ?_ rfl
  refine aap S.holds hoc hp0 λw7 e7=>?_
  have S:=S.go e7
  refine hK9 _ _ λ_=>?_
  clear hK9 K9
  refine gd_ ?_
  refine c_b (λhe=>?_) (λhne=>?_)
  ·have:=aj8 hlt hlo (vV.1 he)
   exact h _ nothing _ S.ext New.nothing (by rw[this];exact hl.up' inferInstance λ_ _ h=>PlG.up h)
  ·exact key (λ_=>⟨hpos,λe=>by rw[e,vV.2 rfl]at hne;cases hne⟩) _ S
 ·rw[decide_eq_false (show¬((i:Nat):Int)<((l.length:Nat):Int)by omega)]
  have S:=S.go (Ext.drew _)
  (intro K9 hK9;refine gd_ ?_;refine hK9 _ _ λ_=>?_;clear hK9 K9)
  refine gd_ ?_
  refine c_f rfl ?_
  refine gp_ ?_
  refine gp_ ?_
  rw[decide_eq_false (show¬((i:Nat):Int)<((l.length:Nat):Int)by omega)]
  have S:=S.go (Ext.drew _)
  (intro K9 hK9;refine gd_ ?_;refine hK9 _ _ λ_=>?_;clear hK9 K9)
  refine gd_ ?_
  refine c_f rfl ?_
  exact key (λhh=>absurd hh hlt) _ S
end
section
variable {p:PtD} {c:List Value} {w:World} {r:Gh} {K:Value→World→Prop}
theorem ahr(hr:Holds r w)(hp:PtG r c p)(hargs:p.args.length≤1000)(h:∀v s w',Ext w w'→New w s w'→SlG 2 (r.or s) (PlG (r.or s)) v (zK p)→K v w'):zd Tryz.prog Tryz.ZU #[.agg c.toArray] w K:=by
 refine Tryz.adA ?_
 unfold Tryz.Jv
 obtain⟨z1,z2,z3,z4,z5,t1,t2,t3,t4,t5,rfl,hp0⟩:=xZ hp
 obtain⟨_,_,_,_,_,hE,k1,k2,k3,k4,k5⟩:=id hp0
 cases hE
 have S:=St.start hr
 refine S.box λb1 w1 S=>?_
 have S:StX noX w r w1 [.cell b1 (ptL p z1 z2 z3 z4 z5 t1 t2 t3 t4 t5) 94]:=S
 refine S.ldB (b:=b1) ?_
 refine vz S.holds hp0 hargs λv9 s2 w9 e9 n9 h9=>?_
 obtain⟨S,_,a9⟩:=S.tell e9 n9
 have h9:SlG 4 (r.or s2) (OpG (r.or s2)) v9 (zu p):=h9.up' inferInstance λ_ _ h=>OpG.up h
 have k1:PlG (r.or s2) [.int .i64 p.to.l,.slice z1 p.to.ps.length t1] p.to:=PlG.up (⟨_,rfl,k1⟩:PlG r _ p.to)
 have k5:PlG (r.or s2) [.int .i64 p.fr.l,.slice z5 p.fr.ps.length t5] p.fr:=PlG.up (⟨_,rfl,k5⟩:PlG r _ p.fr)
 have hp0:PtG (r.or s2) (ptL p z1 z2 z3 z4 z5 t1 t2 t3 t4 t5) p:=PtG.up hp0
 have hof:=aeE hargs
 obtain⟨q9,c9,rfl,_,_⟩:=h9.shape
 generalize hρ:r.or s2=ρ at *
 have S:=S.ownNil 59 2
 refine zh (ι:=Value×Nat×List PlD) (λi=>[i.1,.int .i64 (i.2.1:Nat)]) (λi w'=>i.2.1≤(zu p).length∧i.2.2=(((zu p).take i.2.1).filter zV).map (·.pl)∧∃xs,RowOf 2 (PlG ρ) xs i.2.2∧StX noX w ρ w' [.row i.1 59 2 i.2.2.length xs,.cell b1 (ptL p z1 z2 z3 z4 z5 t1 t2 t3 t4 t5) 94]) (λi=>(zu p).length-i.2.1) (.slice none 0 0,0,[]) rfl ⟨gzl _,rfl,[],RowOf.nil,S⟩ ?_
 clear S
 rintro⟨v,i,out⟩ d10 w10 ⟨hi,ho,xs,hx,S⟩ K3 hK3
 simp only at hi ho hx S⊢
 simp only[gdz,gds]
 have hol:out.length≤1002:=by
  rw[ho,List.length_map]
  have:=List.length_filter_le zV ((zu p).take i)
  rw[List.length_take]at this
  omega
 have app:∀{v:Value}{out:List PlD}{xs:List Value}{x:PlD}{cx:List Value}{w':World}{Z:Value→World→Prop},RowOf 2 (PlG ρ) xs out→StX noX w ρ w' [.row v 59 2 out.length xs,.cell b1 (ptL p z1 z2 z3 z4 z5 t1 t2 t3 t4 t5) 94]→out.length≤1010→PlG ρ cx x→
   (∀v' w'' xs',RowOf 2 (PlG ρ) xs' (out++[x])→StX noX w ρ w'' [.row v' 59 2 (out++[x]).length xs',.cell b1 (ptL p z1 z2 z3 z4 z5 t1 t2 t3 t4 t5) 94]→Z v' w'')→
   Tryz.pw w' (Instr.buildSlice 37 1 #[(0,.agg cx.toArray)]) λt34 w15=>Tryz.pw w15 (Builtin.append_ #[37,37] 37 #[v,t34]) λt35 w16=>Z t35 w16:=fun {v out xs x cx w' Z} hx S hl hc hZ=>by
  have hc0:=hc
  obtain⟨vc,rfl,hcl⟩:=hc
  obtain⟨qc,kc,rfl,_,_⟩:=hcl.sl.shape
  refine S.lit (e:=59) (cs:=[.int .i64 x.l,.slice qc x.ps.length kc]) (by kernel_rfl) λb4 w3 S=>?_
  refine S.ap (v:=v) (m':=1) (Sl.blk (S.blk b4)) (λv2 w4 S=>?_) (by omega)
  have S:=S.drop b4
  rw[show out.length+1=(out++[x]).length by simp]at S
  exact hZ _ _ _ (hx.snoc rfl hc0) S
 refine gp_ ?_
 refine gp_ ?_
 refine zf (λhlt=>?_) (λhge=>?_)
 ·have hlt:i<(zu p).length:=by omega
  refine zn (λy w'=>∃v' out' xs',y=[v']∧out'=(((zu p).take (i+1)).filter zV).map (·.pl)∧RowOf 2 (PlG ρ) xs' out'∧StX noX w ρ w' [.row v' 59 2 out'.length xs',.cell b1 (ptL p z1 z2 z3 z4 z5 t1 t2 t3 t4 t5) 94]) (λK7 hK7=>?_) ?_
  rotate_left
  ·clear S hx
   rintro _ w12 ⟨v',out',xs',rfl,ho',hx,S⟩ d12
   rw[gdz]
   refine gp_ ?_
   rw[show ((i:Int)+1)=((i+1:Nat):Int)by omega]
   exact hK3 (v',i+1,out') _ ⟨hlt,ho',xs',hx,S⟩ (by show(zu p).length-(i+1)<(zu p).length-i;omega)
  clear hK3
  obtain⟨bo,oo,cc,hoE,hcc,hoc,hoo⟩:=h9.get (by decide) hlt
  cases hoE
  rw[List.take_succ_eq_append_getElem hlt,List.filter_append,List.map_append,← ho]at hK7
  generalize (zu p)[i]=o at *
  obtain⟨qq,ko,rfl⟩:=qW hoc
  obtain⟨_,hoE,hopl⟩:=id hoc
  cases hoE
  refine gp_ ?_
  refine gp_ ?_
  refine zg (v:=.int .u8 o.k) (by simpa using S.at (hoo 0 _ rfl)) ?_
  refine gp_ ?_
  refine zj (c:=decide (o.k=4)) (λ_ K2 hK2=>by
   refine gp_ ?_
   refine gp_ ?_
   refine zg (v:=.int .u8 o.k) (by simpa using S.at (hoo 0 _ rfl)) ?_
   refine gp_ ?_
   exact hK2) ?_
  refine c_b (λhk=>?_) (λhk=>?_)
  ·have e:([o].filter zV).map (·.pl)=[o.pl]:=by rw[List.filter_cons_of_pos (show zV o=true from hk)];rfl
   rw[e]at hK7
   refine gp_ ?_
   refine gp_ ?_
   refine zp (n:=2) (c:=[.int .i64 o.pl.l,.slice qq o.pl.ps.length ko]) rfl (λj v hj=>by
    have hj2:j<2:=(List.getElem?_eq_some_iff.1 hj).1
    have:=S.at (hoo (2+j) v (by rw[← hj];rcases(show j=0∨j=1 by omega)with rfl|rfl<;>rfl))
    rw[← Nat.add_assoc]at this
    simpa using this) ?_
   exact app hx S (by omega) (⟨_,rfl,hopl⟩:PlG ρ _ o.pl) λv' w'' xs' hx' S=>hK7 _ _ ⟨v',_,xs',rfl,rfl,hx',S⟩
  ·have e:([o].filter zV).map (·.pl)=[]:=by rw[List.filter_cons_of_neg (by rw[show zV o=false from hk];decide)];rfl
   rw[e,List.append_nil]at hK7
   exact hK7 _ _ ⟨v,out,xs,rfl,rfl,hx,S⟩
 obtain rfl:i=(zu p).length:=by omega
 rw[List.take_length,Vd]at ho
 clear hK3 K3
 have hP:zK p=out++((if(p.op=4∨p.op=10)∨p.op=11 then [p.fr]else [])++(if(decide (1≤p.op)&&decide (p.op≤8))=true then [p.to]else [])):=by rw[zK,ho]
 rw[← List.append_assoc]at hP
 refine zn (λy w'=>∃v' xs',y=[v']∧RowOf 2 (PlG ρ) xs' (out++(if(p.op=4∨p.op=10)∨p.op=11 then [p.fr]else []))∧StX noX w ρ w' [.row v' 59 2 (out++(if(p.op=4∨p.op=10)∨p.op=11 then [p.fr]else [])).length xs',.cell b1 (ptL p z1 z2 z3 z4 z5 t1 t2 t3 t4 t5) 94]) (λK17 hK17=>?_) ?_
 ·refine gg_ ?_
  refine zj (c:=decide (p.op=10)) (λ_ K2 hK2=>by refine gg_ ?_;exact hK2) ?_
  refine zj (c:=decide (p.op=11)) (λ_ K2 hK2=>by refine gg_ ?_;exact hK2) ?_
  rw[show (decide (p.op=4)||decide (p.op=10)||decide (p.op=11))=decide ((p.op=4∨p.op=10)∨p.op=11)by simp only[Bool.decide_or]]
  refine zf (λhc=>?_) (λhc=>?_)
  ·rw[if_pos hc]at hK17
   refine gg_ ?_
   refine S.ldN (b:=b1) ?_
   exact app hx S (by omega) k5 λv' w'' xs' hx' S=>hK17 _ _ ⟨v',xs',rfl,hx',S⟩
  ·rw[if_neg hc,List.append_nil]at hK17
   exact hK17 _ _ ⟨v,xs,rfl,hx,S⟩
 have ho2:(out++(if(p.op=4∨p.op=10)∨p.op=11 then [p.fr]else [])).length≤1003:=by
  rw[gla];split<;>simp<;>omega
 generalize out++(if(p.op=4∨p.op=10)∨p.op=11 then [p.fr]else [])=out2 at *
 clear S hx xs v
 rintro _ w20 ⟨v,xs,rfl,hx,S⟩ d20
 simp only[gdz]
 refine zn (λy w'=>∃v' xs',y=[v']∧RowOf 2 (PlG ρ) xs' (zK p)∧StX noX w ρ w' [.row v' 59 2 (zK p).length xs',.cell b1 (ptL p z1 z2 z3 z4 z5 t1 t2 t3 t4 t5) 94]) (λK31 hK31=>?_) ?_
 ·refine S.ldB (b:=b1) ?_
  refine ZB S.holds hp0 λw14 e14=>?_
  have S:=S.go e14
  rw[hP]at hK31
  refine c_b (λhc=>?_) (λhc=>?_)
  ·rw[if_pos hc]at hK31
   refine gg_ ?_
   refine S.ldN (b:=b1) ?_
   exact app hx S (by omega) k1 λv' w'' xs' hx' S=>hK31 _ _ ⟨v',xs',rfl,hx',S⟩
  ·rw[if_neg (by rw[hc];decide),List.append_nil]at hK31
   exact hK31 _ _ ⟨v,xs,rfl,hx,S⟩
 clear S hx xs v
 rintro _ w21 ⟨v,xs,rfl,hx,S⟩ d21
 simp only[gdz]
 obtain⟨s5,S,h5,_,a5⟩:=S.doneRow hx (by decide) rfl
 subst hρ
 have S:=S.reGh
 exact h _ _ _ S.ext (S.newOf (a9.or' λb o ho=>(a5 b o ho).resolve_right id)) (h5.up' inferInstance λ_ _ h=>PlG.up h)
end
end
end Go.Proofs
